/- Proved: what the helpers of the laws of package scutagelaw08 do and answer; all of a chain over any numbers. -/
import Derived.Test.YtbndmcblkfaheaaChain5
namespace Go.Proofs.Ytbndmcblkfaheaa.Chain
open Go.RowKit Go.Proofs.Ytbndmcblkfaheaa.H Go.Proofs.Ytbndmcblkfaheaa.Words Go.Proofs.Ytbndmcblkfaheaa.Mem
set_option linter.unusedVariables false
set_option linter.unusedSimpArgs false

theorem all_any (B g : Nat) (v : Value) (l : List Int) (p k f n : Int) (w : World) (hs : M w B g v l) :
    Calls Try.prog 17 #[.pointer (some ⟨g, 0, none⟩), .int .i64 p, .int .i64 k, .agg #[.int .i64 f, .int .i64 n]] w (AllPost (allS l p k f n) w) := by
  unfold allS
  by_cases ho : Op l p k
  · obtain ⟨h1, h2, h3, h4⟩ := id ho
    obtain ⟨q, rfl⟩ := Int.eq_ofNat_of_zero_le h1
    have hp : q < 64 := by omega
    have hl : 32 * q + 32 ≤ l.length := by omega
    by_cases c1 : n < 0
    · rw [if_neg (fun h => by have := h.2.1; omega)]
      exact all_no_1 B g v l q k f n hp h3 hl c1 w hs
    by_cases c2 : (nc k : Int) < n
    · rw [if_neg (fun h => by have := h.2.2; omega)]
      exact all_no_2 B g v l q k f n hp h3 hl ⟨by omega, c2⟩ w hs
    · rw [if_pos ⟨ho, by omega, by omega⟩]
      obtain ⟨m, rfl⟩ := Int.eq_ofNat_of_zero_le (show 0 ≤ n by omega)
      exact all_go B g v l q k f m hp h3 hl (by omega) w hs
  · rw [if_neg (fun h => ho h.1)]
    exact all_no_page B g v l p k f n ho w hs

/-- a call: its kind, a number -/
def calls (l : List (Int × Int)) : List Value := l.flatMap fun p => [.int .i64 p.1, .int .i64 p.2]

theorem calls_length (l : List (Int × Int)) : (calls l).length = l.length * 2 := by
  induction l with
  | nil => rfl
  | cons p l ih => simp [calls] at ih ⊢; omega

theorem calls_at (l : List (Int × Int)) (k : Nat) (h : k < l.length) : (calls l)[k * 2]? = some (.int .i64 (l[k]).1) ∧ (calls l)[k * 2 + 1]? = some (.int .i64 (l[k]).2) := by
  induction l generalizing k with
  | nil => simp at h
  | cons p l ih =>
    cases k with
    | zero => simp [calls]
    | succ k =>
      have := ih k (by simpa using h)
      rw [show (k + 1) * 2 = k * 2 + 2 by omega, show k * 2 + 2 + 1 = (k * 2 + 1) + 2 by omega]
      simpa [calls] using this

theorem calls_take (l : List (Int × Int)) (m : Nat) : (calls l).take (m * 2) = calls (l.take m) := by
  induction l generalizing m with
  | nil => simp [calls]
  | cons p l ih =>
    cases m with
    | zero => simp [calls]
    | succ m =>
      have := ih m
      rw [show (m + 1) * 2 = m * 2 + 2 by omega]
      simp [calls] at this ⊢
      exact this

theorem calls_cut {w : World} {A : Option Addr} {c m : Nat} {l : List (Int × Int)} (h : Rd w (.slice A l.length c) l.length 2 (calls l)) : Rd w (.slice A (min m l.length) c) (min m l.length) 2 (calls (l.take m)) := by
  have h2 := h.take (m := min m l.length) (Nat.min_le_right _ _)
  rw [calls_take] at h2
  have e : l.take (min m l.length) = l.take m := by rw [← List.take_eq_take_min]
  rw [e] at h2
  exact h2

theorem call_at {w : World} {A : Option Addr} {n c : Nat} {l : List (Int × Int)} (h : Rd w (.slice A n c) n 2 (calls l)) (k : Nat) (hk : k < l.length) :
    ∃ ad, A = some ad ∧ w.cell? (ad.add (k * 2)) = some (.int .i64 (l[k]).1) ∧ w.cell? ⟨(ad.add (k * 2)).block, (ad.add (k * 2)).off + 1, none⟩ = some (.int .i64 (l[k]).2) := by
  have hl := h.len
  rw [calls_length] at hl
  rcases h.at_ with ⟨_, h0⟩ | ⟨ad, c', he, _, hc⟩
  · omega
  · injection he with he _ _
    obtain ⟨a1, a2⟩ := calls_at l k hk
    exact ⟨ad, he, hc _ _ a1, by rw [← add_field ad _ 1 (by omega)]; exact hc _ _ a2⟩

def CutPost (A : Option Addr) (m n c : Nat) (w : World) (e : Ending) (w' : World) : Prop := e = .returned (.slice A (min m n) c) ∧ w' = w


set_option maxHeartbeats 1600000 in
theorem few_any (A : Option Addr) (n c : Nat) (w : World) (hc : n ≤ c) :
    Calls Try.prog 11 #[.slice A n c] w (CutPost A 50 n c w) := by
  by_cases h : 50 < n
  · have e : min 50 n = 50 := by omega
    go_enter Try.func11, Try.ntmps11
    go_wp2
    go_ret
    exact ⟨by rw [e]; rfl, rfl⟩
  · have e : min 50 n = n := by omega
    go_enter Try.func11, Try.ntmps11
    go_wp2
    go_ret
    exact ⟨by rw [e]; rfl, rfl⟩

set_option maxHeartbeats 1600000 in
theorem near_any (n lo hi r : Int) (hr : max lo (min n hi) = r) (hh : lo ≤ hi) (w : World) :
    Calls Try.prog 7 #[.int .i64 n, .int .i64 lo, .int .i64 hi] w (Quiet w (.int .i64 r)) := by
  subst hr
  by_cases h1 : n < lo
  · have e : max lo (min n hi) = lo := by omega
    rw [e]
    go_enter Try.func7, Try.ntmps7
    go_wp2
    go_ret
    exact ⟨rfl, 0, rfl⟩
  by_cases h2 : hi < n
  · have e : max lo (min n hi) = hi := by omega
    rw [e]
    go_enter Try.func7, Try.ntmps7
    go_wp2
    go_ret
    exact ⟨rfl, 0, rfl⟩
  · have e : max lo (min n hi) = n := by omega
    rw [e]
    go_enter Try.func7, Try.ntmps7
    go_wp2
    go_ret
    exact ⟨rfl, 0, rfl⟩

set_option maxHeartbeats 1600000 in
theorem in_any (A : Option Addr) (n c : Nat) (xs : List Int) (t : Int) (hn : n = xs.length) (w : World) (hr : Rd w (.slice A n c) n 1 (Nums.ints xs)) (hl : xs.length ≤ 1000000) :
    Calls Try.prog 15 #[.slice A n c, .int .i64 t] w (Nums.Quiet w (.bool (decide (t ∈ xs)))) := by
  subst hn
  have HR := Lib.hid hr
  clear hr
  go_enter Try.func15, Try.ntmps15
  go_wp2
  go_loopw [5] (fun i wr => ∃ k : Nat, k ≤ xs.length ∧ i = .int .i64 k ∧ wr = w ∧ Hid (∀ j, j < k → xs[j]? ≠ some t)) (fun i _ => xs.length - (intOf i).toNat)
  case atStart => exact ⟨0, Nat.zero_le _, rfl, rfl, Lib.hid (fun j h => by omega)⟩
  case round =>
    obtain ⟨k, hk, rfl, rfl, HQ⟩ := hrel
    by_cases hlt : k < xs.length
    · obtain ⟨ad, rfl, x0a⟩ := Nums.rd_at HR.out k hlt
      obtain ⟨y, hy, x0⟩ : ∃ y, xs[k]? = some y ∧ wr.cell? (ad.add k) = some (.int .i64 y) := ⟨_, List.getElem?_eq_getElem hlt, x0a⟩
      have HLT := Lib.hid hlt
      have HYY := Lib.hid hy
      have i1 : (0 : Int) ≤ (k : Int) := Int.natCast_nonneg _
      have i2 : (k : Int) < (xs.length : Int) := by omega
      clear hy x0a
      by_cases he : y = t
      · subst he
        have HM := Lib.hid (List.mem_of_getElem? HYY.out)
        go_wp2
        go_ret
        exact ⟨by rw [decide_eq_true HM.out]; rfl, 0, rfl⟩
      · have HNE := Lib.hid he
        have g1 : (y == t) = false := by simpa using he
        clear he
        go_wp2
        go_roundw
        case rel => exact ⟨k + 1, by have := HLT.out; omega, by go_num, trivial, Lib.hid (fun j hj => by
          by_cases e : j = k
          · subst e; rw [HYY.out]; intro h; injection h with h; exact HNE.out h
          · exact HQ.out j (by omega))⟩
        case measure => simp [intOf]; omega
    · obtain rfl : k = xs.length := by omega
      have HM := Lib.hid (show ¬ t ∈ xs from fun h => by
        obtain ⟨j, hj⟩ := List.getElem?_of_mem h
        exact HQ.out j (List.getElem?_eq_some_iff.1 hj).1 hj)
      go_wp2
      go_ret
      exact ⟨by rw [decide_eq_false HM.out]; rfl, 0, rfl⟩


/-! ### the reference's sizes -/
set_option maxHeartbeats 1600000 in
theorem rsize_any (k : Int) (w : World) : Calls Try.prog 21 #[.int .i64 k] w (Same w (.int .i64 (sz k))) := by
  rcases kinds k with rfl | rfl | rfl | rfl | h
  · go_enter Try.func21, Try.ntmps21
    go_wp2
    go_ret
    exact ⟨rfl, (Fr.alloc (Fr.refl No w) _).below (Nat.le_refl _) (fun _ h => h.elim)⟩
  · go_enter Try.func21, Try.ntmps21
    go_wp2
    go_ret
    exact ⟨rfl, (Fr.alloc (Fr.refl No w) _).below (Nat.le_refl _) (fun _ h => h.elim)⟩
  · go_enter Try.func21, Try.ntmps21
    go_wp2
    go_ret
    exact ⟨rfl, (Fr.alloc (Fr.refl No w) _).below (Nat.le_refl _) (fun _ h => h.elim)⟩
  · go_enter Try.func21, Try.ntmps21
    go_wp2
    go_ret
    exact ⟨rfl, (Fr.alloc (Fr.refl No w) _).below (Nat.le_refl _) (fun _ h => h.elim)⟩
  · rw [sz_none h]
    by_cases h1 : k < 1
    · clear h
      go_enter Try.func21, Try.ntmps21
      go_wp2
      go_ret
      exact ⟨rfl, (Fr.alloc (Fr.refl No w) _).below (Nat.le_refl _) (fun _ h => h.elim)⟩
    · have h2 : 4 < k := by omega
      have g1 : decide (k < 1) = false := by simp; omega
      have g2 : decide (4 < k) = true := by simp; omega
      clear h h1
      go_enter Try.func21, Try.ntmps21
      go_wp2
      go_ret
      exact ⟨rfl, (Fr.alloc (Fr.refl No w) _).below (Nat.le_refl _) (fun _ h => h.elim)⟩

set_option maxHeartbeats 1600000 in
theorem rcells_any (k : Int) (w : World) : Calls Try.prog 8 #[.int .i64 k] w (Same w (.int .i64 (nc k))) := by
  rcases kinds k with rfl | rfl | rfl | rfl | h
  · have HZ : Hid (∀ W, Calls Try.prog 21 #[.int .i64 1] W (Same W (.int .i64 2))) := Lib.hid (fun W => rsize_any 1 W)
    go_enter Try.func8, Try.ntmps8
    go_wp2_with fail
    with_reducible refine (HZ.out _).mono ?_
    rintro e w1 ⟨rfl, hb1⟩
    have B1 := Lib.hid hb1
    clear hb1
    go_wp2_with fail
    with_reducible refine (HZ.out _).mono ?_
    rintro e w2 ⟨rfl, hb2⟩
    have B2 := Lib.hid (B1.out.trans (hb2.mono B1.out.size))
    clear hb2
    go_wp2_with fail
    go_ret
    exact ⟨rfl, B2.out⟩
  · have HZ : Hid (∀ W, Calls Try.prog 21 #[.int .i64 2] W (Same W (.int .i64 4))) := Lib.hid (fun W => rsize_any 2 W)
    go_enter Try.func8, Try.ntmps8
    go_wp2_with fail
    with_reducible refine (HZ.out _).mono ?_
    rintro e w1 ⟨rfl, hb1⟩
    have B1 := Lib.hid hb1
    clear hb1
    go_wp2_with fail
    with_reducible refine (HZ.out _).mono ?_
    rintro e w2 ⟨rfl, hb2⟩
    have B2 := Lib.hid (B1.out.trans (hb2.mono B1.out.size))
    clear hb2
    go_wp2_with fail
    go_ret
    exact ⟨rfl, B2.out⟩
  · have HZ : Hid (∀ W, Calls Try.prog 21 #[.int .i64 3] W (Same W (.int .i64 8))) := Lib.hid (fun W => rsize_any 3 W)
    go_enter Try.func8, Try.ntmps8
    go_wp2_with fail
    with_reducible refine (HZ.out _).mono ?_
    rintro e w1 ⟨rfl, hb1⟩
    have B1 := Lib.hid hb1
    clear hb1
    go_wp2_with fail
    with_reducible refine (HZ.out _).mono ?_
    rintro e w2 ⟨rfl, hb2⟩
    have B2 := Lib.hid (B1.out.trans (hb2.mono B1.out.size))
    clear hb2
    go_wp2_with fail
    go_ret
    exact ⟨rfl, B2.out⟩
  · have HZ : Hid (∀ W, Calls Try.prog 21 #[.int .i64 4] W (Same W (.int .i64 16))) := Lib.hid (fun W => rsize_any 4 W)
    go_enter Try.func8, Try.ntmps8
    go_wp2_with fail
    with_reducible refine (HZ.out _).mono ?_
    rintro e w1 ⟨rfl, hb1⟩
    have B1 := Lib.hid hb1
    clear hb1
    go_wp2_with fail
    with_reducible refine (HZ.out _).mono ?_
    rintro e w2 ⟨rfl, hb2⟩
    have B2 := Lib.hid (B1.out.trans (hb2.mono B1.out.size))
    clear hb2
    go_wp2_with fail
    go_ret
    exact ⟨rfl, B2.out⟩
  · have HZ : Hid (∀ W, Calls Try.prog 21 #[.int .i64 k] W (Same W (.int .i64 0))) := Lib.hid (fun W => by have h2 := rsize_any k W; rw [sz_none h] at h2; exact h2)
    rw [nc_none h]
    clear h
    go_enter Try.func8, Try.ntmps8
    go_wp2_with fail
    with_reducible refine (HZ.out _).mono ?_
    rintro e w1 ⟨rfl, hb1⟩
    have B1 := Lib.hid hb1
    clear hb1
    go_wp2_with fail
    go_ret
    exact ⟨rfl, B1.out⟩

end Go.Proofs.Ytbndmcblkfaheaa.Chain
