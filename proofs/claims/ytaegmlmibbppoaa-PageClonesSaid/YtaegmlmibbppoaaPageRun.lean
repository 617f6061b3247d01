/- Proved: a whole script of package scutagelaw09 answers true; and the law PageRuns over any arguments. -/
import Derived.Test.YtaegmlmibbppoaaPageStep
namespace Go.Proofs.Ytaegmlmibbppoaa.PageRun
open Go.RowKit Go.Proofs.Ytaegmlmibbppoaa.H Go.Proofs.Ytaegmlmibbppoaa.Nums Go.Proofs.Ytaegmlmibbppoaa.PagePure Go.Proofs.Ytaegmlmibbppoaa.Page Go.Proofs.Ytaegmlmibbppoaa.PageLaw Go.Proofs.Ytaegmlmibbppoaa.PageStep
set_option linter.unusedVariables false

def Fits (l : List (Int × Int)) : Prop := ∀ x ∈ l, -9223372036854775808 ≤ x.2 ∧ x.2 ≤ 9223372036854775807
set_option maxRecDepth 100000 in
set_option maxHeartbeats 25600000 in
theorem run_any (B g : Nat) (v vm : Value) (l : List Int) (Ao : Option Addr) (no co : Nat) (ops : List (Int × Int)) (hno : no = ops.length) (hfit : Fits ops) (w : World) (hs : Both w B g v l vm)
    (hB : B ≤ w.heap.size) (hops : ∀ W, Below B w W → Rd W (.slice Ao no co) no 2 (calls ops)) (hl : no ≤ 1000) :
    Calls Try.prog 7 #[.pointer (some ⟨g, 0, none⟩), vm, .slice Ao no co] w (StepPost B g v vm w) := by
  have HS := Lib.hid hs
  have HO := Lib.hid hops
  have HNO := Lib.hid hno
  have HFIT := Lib.hid hfit
  have HFT := Lib.hid (show ∀ k, Foot g v k → B ≤ k ∧ k < w.heap.size from hs.tab.foot_lt)
  clear hs hops hno hfit
  go_enter Try.func7, Try.ntmps7
  go_wp2_with fail
  go_loopw [1, 8, 9] (fun m ok i wr => ∃ k : Nat, k ≤ no ∧ i = .int .i64 k ∧ ok = .bool true ∧ Hid (∃ l', Both wr B g v l' m ∧ Fr (Foot g v) w wr ∧ ∀ j, m.ownBlock = some j → vm.ownBlock = some j ∨ w.heap.size ≤ j)) (fun _ _ i _ => no - (intOf i).toNat)
  case atStart => exact ⟨0, Nat.zero_le _, rfl, rfl, Lib.hid ⟨l, HS.out, Fr.refl _ _, fun j hj => .inl hj⟩⟩
  case round =>
    obtain ⟨k, hk, rfl, rfl, HR⟩ := hrel
    obtain ⟨l', hb, hf, hq⟩ := HR.out
    have HQ := Lib.hid hq
    have HB := Lib.hid hb
    have HF := Lib.hid hf
    have i1 : (0 : Int) ≤ (k : Int) := Int.natCast_nonneg _
    clear HR hb hf hq
    by_cases hlt : k < no
    · obtain ⟨ad, rfl, x0, x1⟩ := call_at (HO.out _ (HF.out.below hB (fun k hk => (HFT.out k hk).1))) k (by rw [← HNO.out]; exact hlt)
      obtain ⟨f1, f2⟩ := HFIT.out _ (List.getElem_mem (show k < ops.length by rw [← HNO.out]; exact hlt))
      generalize (ops[k]'(by rw [← HNO.out]; exact hlt)) = op at x0 x1 f1 f2
      obtain ⟨kd, t⟩ := op
      dsimp only at x0 x1 f1 f2
      have F12 := Lib.hid (And.intro f1 f2)
      have i2 : (k : Int) < (no : Int) := by omega
      have HLT := Lib.hid hlt
      clear hlt f1 f2
      go_wp2_with fail
      with_reducible refine (step_any B g v _ l' kd t _ HB.out F12.out.1 F12.out.2).mono ?_
      rintro x5 w5 ⟨vm5, l5, rfl, hb5, hf5, hq5⟩
      have HQ5 := Lib.hid (show ∀ j, vm5.ownBlock = some j → vm.ownBlock = some j ∨ w.heap.size ≤ j from fun j hj => (hq5 j hj).elim (fun h => HQ.out j h) (fun h => .inr (by have := HF.out.size; omega)))
      clear hq5
      obtain ⟨A5, c5, rfl, _⟩ := hb5.mem.slice
      have F5 := Lib.hid (HF.out.trans hf5 (fun i hi => .inl hi))
      have h64 := hb5.tab.len
      have HL64 := Lib.hid h64
      obtain ⟨n5, hn5⟩ : ∃ n5, n5 = l5.length := ⟨_, rfl⟩
      rw [← hn5] at hb5 h64 HQ5 ⊢
      have HN5 := Lib.hid hn5
      have H5 := Lib.hid hb5
      have HRD : Hid (∀ W, Fr No w5 W → Rd W (.slice A5 n5 c5) n5 1 (ints l5)) := Lib.hid (fun W hW => by have h := (hb5.mem.fr hW (fun _ _ h => h)).rd; rw [← hn5] at h; exact h)
      clear hb5 hf5 hn5
      go_wp2_with fail
      with_reducible refine (all_any B g v l5 _ H5.out.tab).mono ?_
      rintro x6 w6 ⟨v6, rfl, ho6, hb6⟩
      obtain ⟨A6, c6, rfl, _⟩ := ho6.slice
      have F6 := Lib.hid (Fr.of_below hb6 No)
      have O6 : Hid (Rd w6 (.slice A6 n5 c6) n5 1 (ints l5)) := Lib.hid (by have h := ho6.rd; rw [← HN5.out] at h; exact h)
      rw [← HN5.out]
      clear ho6 hb6
      go_wp2_with fail
      with_reducible refine (same_any A6 A5 n5 n5 c6 c5 l5 HN5.out HN5.out _ O6.out (HRD.out _ F6.out) (Nat.le_trans HL64.out (by decide))).mono ?_
      rintro x7 w7 ⟨rfl, n7, hw7⟩
      have F7 := Lib.hid (drewN_fr F6.out hw7)
      clear hw7
      go_wp2_with fail
      with_reducible refine (count_any B g v l5 _ (H5.out.no F7.out).tab).mono ?_
      rintro x8 w8 ⟨rfl, hb8⟩
      have F8 := Lib.hid (F7.out.then_below hb8)
      clear hb8
      go_wp2_with fail
      with_reducible refine (rcount_any A5 n5 c5 l5 HN5.out _ (HRD.out _ F8.out) HL64.out).mono ?_
      rintro x9 w9 ⟨rfl, n9, hw9⟩
      have F9 := Lib.hid (drewN_fr F8.out hw9)
      clear hw9
      obtain ⟨z, hz⟩ : ∃ z, z = zeros l5 := ⟨_, rfl⟩
      rw [← hz]
      clear hz
      go_wp2_with fail
      with_reducible refine (longest_any B g v l5 _ (H5.out.no F9.out).tab).mono ?_
      rintro x10 w10 ⟨rfl, hb10⟩
      have F10 := Lib.hid (F9.out.then_below hb10)
      clear hb10
      go_wp2_with fail
      with_reducible refine (rlongest_any A5 n5 c5 l5 HN5.out _ (HRD.out _ F10.out) HL64.out).mono ?_
      rintro x11 w11 ⟨rfl, n11, hw11⟩
      have F11 := Lib.hid (drewN_fr F10.out hw11)
      clear hw11
      obtain ⟨y, hy⟩ : ∃ y, y = long l5 := ⟨_, rfl⟩
      rw [← hy]
      clear hy
      go_wp2_with fail
      go_roundw
      case rel => exact ⟨k + 1, HLT.out, by go_num, rfl, Lib.hid ⟨l5, H5.out.no F11.out, fr_then F5.out F11.out, HQ5.out⟩⟩
      case measure => have := HLT.out; simp [intOf]; omega
    · obtain rfl : k = no := by omega
      obtain ⟨A5, c5, he, _⟩ := HB.out.mem.slice
      go_wp2_with fail
      go_ret2
      exact ⟨_, l', rfl, HB.out, HF.out, HQ.out⟩

theorem fits_take {l : List (Int × Int)} (h : Fits l) (m : Nat) : Fits (l.take m) := fun x hx => h x (List.mem_of_mem_take hx)
theorem run_cut (B g : Nat) (v vm : Value) (l : List Int) (A : Option Addr) (c : Nat) (ops : List (Int × Int)) (hfit : Fits ops) (w0 w : World) (hs : Both w B g v l vm) (hB : B ≤ w.heap.size)
    (hr : Rd w0 (.slice A ops.length c) ops.length 2 (calls ops)) (hv : ∀ W, Below B w W → Below w0.heap.size w0 W) :
    Calls Try.prog 7 #[.pointer (some ⟨g, 0, none⟩), vm, .slice A (min 50 ops.length) c] w (StepPost B g v vm w) :=
  run_any B g v vm l A (min 50 ops.length) c (ops.take 50) (by rw [List.length_take]) (fits_take hfit 50) w hs hB (fun W hW => (calls_cut hr).below (hv W hW)) (by omega)
theorem below_via {w0 w7 W0 W : World} (h1 : Below w0.heap.size w0 w7) (h2 : Fr No w7 W0) (hW : Below w0.heap.size W0 W) : Below w0.heap.size w0 W :=
  (h1.trans (h2.below h1.size (fun _ h => h.elim))).trans hW
/-- a new table, and a new row, with the same in them -/
theorem new_both {w w1 w2 w3 : World} {g : Nat} {v vm : Value} {l : List Int} (B1 : Below w.heap.size w w1) (hs : T w2 w1.heap.size g v l) (hb : Below w1.heap.size w1 w2) (ho : Nums.Own w3 w2.heap.size vm l) (h3 : Below w2.heap.size w2 w3) :
    Both w3 w.heap.size g v l vm ∧ Below w.heap.size w w3 :=
  ⟨⟨(hs.no (Fr.of_below h3 No)).lower B1.size, ho.lower (Nat.le_trans B1.size hb.size), fun k hk hf => by have := (ho.lt k hk).1; have := (hs.foot_lt k hf).2; omega⟩,
    B1.trans ((hb.trans (h3.mono hb.size)).mono B1.size)⟩

set_option maxRecDepth 100000 in
set_option maxHeartbeats 6400000 in
theorem runs_any (n : Int) (vo : Value) (ops : List (Int × Int)) (hfit : Fits ops) (w : World) (hr : Rd w vo ops.length 2 (calls ops)) :
    Calls Try.prog 3 #[.int .i64 n, vo] w (Same w (.bool true)) := by
  obtain ⟨A, c, rfl, hc⟩ := hr.slice
  obtain ⟨r, hrm⟩ : ∃ r : Nat, max 0 (min n 64) = (r : Int) := ⟨(max 0 (min n 64)).toNat, by omega⟩
  have HRM := Lib.hid hrm
  have HC := Lib.hid hc
  have HR := Lib.hid hr
  have HFIT := Lib.hid hfit
  clear hr hrm hc hfit
  go_enter Try.func3, Try.ntmps3
  go_wp2_with fail
  with_reducible refine (alive_any _).mono ?_
  rintro x1 w1 ⟨rfl, hb1⟩
  have B1 := Lib.hid hb1
  clear hb1
  go_wp2_with fail
  with_reducible refine (new_any n r HRM.out w1).mono ?_
  rintro x2 w2 ⟨g, v, rfl, hs2, hb2⟩
  have S2 := Lib.hid hs2
  have B2 := Lib.hid hb2
  clear hs2 hb2
  go_wp2_with fail
  with_reducible refine (rnew_any n r HRM.out w2).mono ?_
  rintro x3 w3 ⟨vm, rfl, ho3, hb3⟩
  have P3 := Lib.hid (new_both B1.out S2.out B2.out ho3 hb3)
  obtain ⟨A3, c3, rfl, _⟩ := ho3.slice
  obtain ⟨q3, hq3⟩ : ∃ q3, q3 = (List.replicate r (0 : Int)).length := ⟨_, rfl⟩
  rw [← hq3] at P3 ⊢
  clear ho3 hb3 hq3
  go_wp2_with fail
  with_reducible refine (few_any A ops.length c _ HC.out).mono ?_
  rintro x4 w4 ⟨rfl, hw4⟩
  subst hw4
  go_wp2_with fail
  with_reducible refine (run_cut w.heap.size g v _ _ A c ops HFIT.out w _ P3.out.1 P3.out.2.size HR.out (fun W hW => P3.out.2.trans hW)).mono ?_
  rintro x5 w5 ⟨vm5, l5, rfl, hb5, hf5, _⟩
  have B5 := Lib.hid (P3.out.2.trans (P3.out.1.tab.below hf5 P3.out.2.size))
  obtain ⟨A5, c5, rfl, _⟩ := hb5.mem.slice
  clear hb5 hf5
  go_wp2_with fail
  go_ret
  exact ⟨rfl, B5.out⟩

end Go.Proofs.Ytaegmlmibbppoaa.PageRun
