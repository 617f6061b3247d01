/- Proved: what the helpers of the laws of package scutagelaw16 do and answer. -/
import Derived.Test.YtmgfidepjclobaaBuffer5
namespace Go.Proofs.Ytmgfidepjclobaa.BufLaw
open Go.RowKit Go.Proofs.Ytmgfidepjclobaa.H Go.Proofs.Ytmgfidepjclobaa.Nums Go.Proofs.Ytmgfidepjclobaa.Buffer

/-- a call: its kind, a thread, a number -/
def calls (l : List (Int × Int × Int)) : List Value := l.flatMap fun p => [.int .i64 p.1, .int .i64 p.2.1, .int .i64 p.2.2]
theorem calls_length (l : List (Int × Int × Int)) : (calls l).length = l.length * 3 := by
  induction l with
  | nil => rfl
  | cons p l ih => simp [calls] at ih ⊢; omega
theorem calls_at (l : List (Int × Int × Int)) (k : Nat) (h : k < l.length) : (calls l)[k * 3]? = some (.int .i64 (l[k]).1) ∧ (calls l)[k * 3 + 1]? = some (.int .i64 (l[k]).2.1) ∧ (calls l)[k * 3 + 2]? = some (.int .i64 (l[k]).2.2) := by
  induction l generalizing k with
  | nil => simp at h
  | cons p l ih =>
    cases k with
    | zero => simp [calls]
    | succ k =>
      have := ih k (by simpa using h)
      rw [show (k + 1) * 3 = k * 3 + 3 by omega, show k * 3 + 3 + 1 = (k * 3 + 1) + 3 by omega, show k * 3 + 3 + 2 = (k * 3 + 2) + 3 by omega]
      simpa [calls] using this
theorem calls_take (l : List (Int × Int × Int)) (m : Nat) : (calls l).take (m * 3) = calls (l.take m) := by
  induction l generalizing m with
  | nil => simp [calls]
  | cons p l ih =>
    cases m with
    | zero => simp [calls]
    | succ m =>
      have := ih m
      rw [show (m + 1) * 3 = m * 3 + 3 by omega]
      simp [calls] at this ⊢
      exact this
theorem calls_cut {w : World} {A : Option Addr} {c m : Nat} {l : List (Int × Int × Int)} (h : Rd w (.slice A l.length c) l.length 3 (calls l)) : Rd w (.slice A (min m l.length) c) (min m l.length) 3 (calls (l.take m)) := by
  have h2 := h.take (m := min m l.length) (Nat.min_le_right _ _)
  rw [calls_take] at h2
  have e : l.take (min m l.length) = l.take m := by rw [← List.take_eq_take_min]
  rw [e] at h2
  exact h2
theorem call_at {w : World} {A : Option Addr} {n c : Nat} {l : List (Int × Int × Int)} (h : Rd w (.slice A n c) n 3 (calls l)) (k : Nat) (hk : k < l.length) :
    ∃ ad, A = some ad ∧ w.cell? (ad.add (k * 3)) = some (.int .i64 (l[k]).1) ∧ w.cell? ⟨(ad.add (k * 3)).block, (ad.add (k * 3)).off + 1, none⟩ = some (.int .i64 (l[k]).2.1) ∧ w.cell? ⟨(ad.add (k * 3)).block, (ad.add (k * 3)).off + 2, none⟩ = some (.int .i64 (l[k]).2.2) := by
  have hl := h.len
  rw [calls_length] at hl
  rcases h.at_ with ⟨_, h0⟩ | ⟨ad, c', he, _, hc⟩
  · omega
  · injection he with he _ _
    obtain ⟨a1, a2, a3⟩ := calls_at l k hk
    exact ⟨ad, he, hc _ _ a1, by rw [← add_field ad _ 1 (by omega)]; exact hc _ _ a2, by rw [← add_field ad _ 2 (by omega)]; exact hc _ _ a3⟩
def CutPost (A : Option Addr) (m n c : Nat) (w : World) (e : Ending) (w' : World) : Prop := e = .returned (.slice A (min m n) c) ∧ w' = w
set_option maxHeartbeats 1600000 in
theorem few_any (A : Option Addr) (n c : Nat) (w : World) (hc : n ≤ c) :
    Calls Try.prog 10 #[.slice A n c] w (CutPost A 60 n c w) := by
  by_cases h : 60 < n
  · have e : min 60 n = 60 := by omega
    go_enter Try.func10, Try.ntmps10
    go_wp2
    go_ret
    exact ⟨by rw [e]; rfl, rfl⟩
  · have e : min 60 n = n := by omega
    go_enter Try.func10, Try.ntmps10
    go_wp2
    go_ret
    exact ⟨by rw [e]; rfl, rfl⟩

set_option maxHeartbeats 1600000 in
theorem near_any (n lo hi r : Int) (hr : max lo (min n hi) = r) (hh : lo ≤ hi) (w : World) :
    Calls Try.prog 9 #[.int .i64 n, .int .i64 lo, .int .i64 hi] w (Quiet w (.int .i64 r)) := by
  subst hr
  by_cases h1 : n < lo
  · have e : max lo (min n hi) = lo := by omega
    rw [e]
    go_enter Try.func9, Try.ntmps9
    go_wp2
    go_ret
    exact ⟨rfl, 0, rfl⟩
  by_cases h2 : hi < n
  · have e : max lo (min n hi) = hi := by omega
    rw [e]
    go_enter Try.func9, Try.ntmps9
    go_wp2
    go_ret
    exact ⟨rfl, 0, rfl⟩
  · have e : max lo (min n hi) = n := by omega
    rw [e]
    go_enter Try.func9, Try.ntmps9
    go_wp2
    go_ret
    exact ⟨rfl, 0, rfl⟩


set_option maxHeartbeats 1600000 in
theorem in_any (A : Option Addr) (n c : Nat) (xs : List Int) (t : Int) (hn : n = xs.length) (w : World) (hr : Rd w (.slice A n c) n 1 (ints xs)) (hl : xs.length ≤ 1000000) :
    Calls Try.prog 25 #[.slice A n c, .int .i64 t] w (Quiet w (.bool (decide (t ∈ xs)))) := by
  subst hn
  have HR := Lib.hid hr
  clear hr
  go_enter Try.func25, Try.ntmps25
  go_wp2
  go_loopw [5] (fun i wr => ∃ k : Nat, k ≤ xs.length ∧ i = .int .i64 k ∧ wr = w ∧ Hid (∀ j, j < k → xs[j]? ≠ some t)) (fun i _ => xs.length - (intOf i).toNat)
  case atStart => exact ⟨0, Nat.zero_le _, rfl, rfl, Lib.hid (fun j h => by omega)⟩
  case round =>
    obtain ⟨k, hk, rfl, rfl, HQ⟩ := hrel
    by_cases hlt : k < xs.length
    · obtain ⟨ad, rfl, x0a⟩ := rd_at HR.out k hlt
      obtain ⟨y, hy, x0⟩ : ∃ y, xs[k]? = some y ∧ wr.cell? (ad.add k) = some (.int .i64 y) := ⟨_, List.getElem?_eq_getElem hlt, x0a⟩
      have HLT := Lib.hid hlt
      have HYY := Lib.hid hy
      have i1 : (0 : Int) ≤ (k : Int) := Int.natCast_nonneg _
      have i2 : (k : Int) < (xs.length : Int) := by omega
      clear hy x0a
      by_cases he : y = t
      · subst he
        have HM := Lib.hid (List.mem_of_getElem? HYY.out)
        go_wp2
        go_ret
        exact ⟨by rw [decide_eq_true HM.out]; rfl, 0, rfl⟩
      · have HNE := Lib.hid he
        have g1 : (y == t) = false := by simpa using he
        clear he
        go_wp2
        go_roundw
        case rel => exact ⟨k + 1, by have := HLT.out; omega, by go_num, trivial, Lib.hid (fun j hj => by
          by_cases e : j = k
          · subst e; rw [HYY.out]; intro h; injection h with h; exact HNE.out h
          · exact HQ.out j (by omega))⟩
        case measure => simp [intOf]; omega
    · obtain rfl : k = xs.length := by omega
      have HM := Lib.hid (show ¬ t ∈ xs from fun h => by
        obtain ⟨j, hj⟩ := List.getElem?_of_mem h
        exact HQ.out j (List.getElem?_eq_some_iff.1 hj).1 hj)
      go_wp2
      go_ret
      exact ⟨by rw [decide_eq_false HM.out]; rfl, 0, rfl⟩


set_option maxHeartbeats 3200000 in
theorem sum_any (B : Nat) (v : Value) (M : List Ln) (w : World) (hm : Buffer.Rows w B v M) (h8 : M.length ≤ 8) (hl : ∀ p ∈ dat M, p.length ≤ 1000000) :
    Calls Try.prog 20 #[v] w (Quiet w (.int .i64 (sumD (dat M)))) := by
  obtain ⟨A, c, rfl, _⟩ := own_slice hm.own
  have HM := Lib.hid hm
  have HD : Hid ((dat M).length = M.length) := Lib.hid (dat_length M)
  have HB := Lib.hid (sum_le (dat M) 1000000 hl)
  clear hm hl
  go_enter Try.func20, Try.ntmps20
  go_wp2
  go_loopw [3, 4] (fun s i wr => ∃ k : Nat, k ≤ M.length ∧ i = .int .i64 k ∧ s = .int .i64 (sumD ((dat M).take k)) ∧ wr = w) (fun _ i _ => M.length - (intOf i).toNat)
  case atStart => exact ⟨0, Nat.zero_le _, rfl, by simp [sumD], rfl⟩
  case round =>
    obtain ⟨k, hk, rfl, rfl, rfl⟩ := hrel
    by_cases hlt : k < M.length
    · obtain ⟨d, c', he, x0, _, _, _⟩ := HM.out.slot k hlt
      injection he with he hmid he3
      subst he he3
      clear hmid
      have hrow := HM.out.row _ (List.getElem_mem hlt)
      have hat := List.getElem?_eq_getElem hlt
      generalize M[k] = p at x0 hrow hat
      obtain ⟨pv, xs⟩ := p
      dsimp only at x0 hrow
      obtain ⟨A2, c2, rfl, hle⟩ := hrow.slice
      have HSS := Lib.hid (sum_succ (dat M) k xs (by unfold dat; rw [List.getElem?_map, hat]; rfl))
      have hs1 := HB.out k
      have hs2 := HB.out (k + 1)
      obtain ⟨s0, hs0⟩ : ∃ s0, s0 = sumD ((dat M).take k) := ⟨_, rfl⟩
      obtain ⟨s1, hs1'⟩ : ∃ s1, s1 = sumD ((dat M).take (k + 1)) := ⟨_, rfl⟩
      obtain ⟨q, hq⟩ : ∃ q, q = xs.length := ⟨_, rfl⟩
      rw [← hs0] at HSS hs1 ⊢
      rw [← hs1'] at HSS hs2
      rw [← hq] at HSS x0
      have HS1 := Lib.hid hs1'
      have HBD := Lib.hid (And.intro hs1 hs2)
      have HLT := Lib.hid hlt
      have i1 : (0 : Int) ≤ (k : Int) := Int.natCast_nonneg _
      have i2 : (k : Int) < (M.length : Int) := by omega
      clear hs0 hs1' hs1 hs2 hlt hrow hat hle hq
      go_wp2
      go_roundw
      case rel => exact ⟨k + 1, HLT.out, by go_num, by rw [← HS1.out]; have h1 := HSS.out; have h2 := HBD.out; have h3 := HLT.out; congr 1; unfold wrap64; omega, trivial⟩
      case measure => have := HLT.out; simp [intOf]; omega
    · obtain rfl : k = M.length := by omega
      have HSM := Lib.hid (show sumD ((dat M).take M.length) = sumD (dat M) from by rw [← HD.out, List.take_length])
      go_wp2
      go_ret
      exact ⟨by rw [HSM.out]; rfl, 0, rfl⟩

/-- the law for append of one row to a row of rows of the call's own -/
theorem app_row {w : World} {ops : Array Oper} {rest : List Oper} {o : Oper} {a : Act} {Q : Exit → Act → World → Prop} (hgd : o.guard = none) (s x : Operand)
    (ho : o.op = .call { callee := .builtin .append, args := #[s, x], argTypes := #[24, 24] }) {B : Nat} {v : Value} {m : Nat} {l : List Value} (hs : a.eval s = v) (hown : w.ownsRow B 32 1 v m l)
    {d n c : Nat} (hx : a.eval x = .slice (some ⟨d, 0, none⟩) n c) (hn : n = 1) {y : Value} (hy : y.oneCell' = true) {t : TypeId} (hd : w.heap[d]? = some (.cells #[y] t (0, 0))) (hc : 1 ≤ c) (hb : m < 1000000) (hB : B ≤ w.heap.size)
    (h : ∀ v' w', w'.ownsRow B 32 1 v' (m + 1) (l ++ [y]) → w.grownBy w' v.ownBlock → (v'.ownBlock = v.ownBlock ∨ v'.ownBlock = some w.heap.size) → wpList Try.prog ops Q rest (a.put o.dst v') w') :
    wpList Try.prog ops Q (o :: rest) a w := by
  subst hn
  obtain ⟨i0, hi0, hz0, hz1, hz2⟩ := info_parts infoR
  refine wpList_append_rd hgd s x 24 ho B 32 i0 _ 1 24 Try.underlying24 hi0 hz0 hz1 hz2 rfl (by omega) v m l hs hown _ 1 [y] hx ⟨rfl, by simp [hy], .inr ⟨⟨d, 0, none⟩, c, rfl, hc, ?_⟩⟩ (by unfold maxLen; omega) (by omega) hB h
  intro j u hj
  match j, hj with
  | 0, hj =>
    simp at hj
    subst hj
    rw [show (⟨d, 0, none⟩ : Addr).add 0 = ⟨d, 0, none⟩ from rfl, cell_of hd]
    rfl
  | j + 1, hj => simp at hj

def SetPost (M : List Ln) (w : World) (x : Ending) (w' : World) : Prop :=
  ∃ v', x = .returned v' ∧ w'.ownsRow w.heap.size 32 1 v' M.length (M.map (·.1)) ∧ Below w.heap.size w w'
set_option maxRecDepth 100000 in
set_option maxHeartbeats 6400000 in
theorem set_any (B : Nat) (v : Value) (M : List Ln) (t : Nat) (ht : t < M.length) (Au : Option Addr) (nu cu : Nat) (xs : List Int) (w : World) (hm : Buffer.Rows w B v M) (h8 : M.length ≤ 8) :
    Calls Try.prog 29 #[v, .int .i64 t, .slice Au nu cu] w (SetPost (M.set t (.slice Au nu cu, xs)) w) := by
  obtain ⟨A, c, rfl, _⟩ := own_slice hm.own
  have HM := Lib.hid hm
  obtain ⟨n, hn⟩ : ∃ n, n = M.length := ⟨_, rfl⟩
  obtain ⟨P, hP⟩ : ∃ P, P = (M.set t (.slice Au nu cu, xs)).map (·.1) := ⟨_, rfl⟩
  have HPn : Hid (P.length = n) := Lib.hid (by rw [hP, hn]; simp)
  have HPt : Hid (P[t]? = some (.slice Au nu cu)) := Lib.hid (by rw [hP]; simp [ht])
  have HPo : Hid (∀ k p, M[k]? = some p → k ≠ t → P[k]? = some p.1) := Lib.hid (fun k p hk hne => by rw [hP, List.getElem?_map, List.getElem?_set_ne (Ne.symm hne), hk]; rfl)
  have HG : Hid (∀ (x : Ending) (w' : World) (v' : Value), x = .returned v' → w'.ownsRow w.heap.size 32 1 v' n P → Below w.heap.size w w' → SetPost (M.set t (.slice Au nu cu, xs)) w x w') := Lib.hid (fun x w' v' h1 h2 h3 => ⟨v', h1, by rw [List.length_set, ← hn, ← hP]; exact h2, h3⟩)
  have HN := Lib.hid hn
  rw [← hn] at h8 ht HM ⊢
  clear hm hP hn
  go_enter Try.func29, Try.ntmps29
  go_wp2
  go_loopw [7, 8] (fun o i wr => ∃ k : Nat, k ≤ n ∧ i = .int .i64 k ∧ Hid (wr.ownsRow w.heap.size 32 1 o k (P.take k)) ∧ Hid (Below w.heap.size w wr)) (fun _ i _ => n - (intOf i).toNat)
  case atStart => exact ⟨0, Nat.zero_le _, rfl, Lib.hid (World.ownsRow_nil _ _ _ _), Lib.hid (Below.refl _ _)⟩
  case round =>
    obtain ⟨k, hk, rfl, HO, HW⟩ := hrel
    rename_i o
    obtain ⟨A5, c5, rfl, _⟩ := own_slice HO.out
    by_cases hlt : k < n
    · have i1 : (0 : Int) ≤ (k : Int) := Int.natCast_nonneg _
      have i2 : (k : Int) < (n : Int) := by omega
      have HLT := Lib.hid hlt
      by_cases hkt : k = t
      · subst hkt
        have HT := Lib.hid (show P.take (k + 1) = P.take k ++ [.slice Au nu cu] from by rw [List.take_add_one, HPt.out]; rfl)
        clear hlt
        go_wp2_with (at_builtin; refine app_row (l := P.take k) (m := k) rfl _ _ rfl rfl (HO.out.alloc _) rfl rfl (y := .slice Au nu cu) rfl (heap_alloc_new _ _) (by decide) (by omega) (by have := HW.out.size; simp; omega) ?_; intro v6 w6 h1 h2 h3; have O6 := Lib.hid h1; have G6 := Lib.hid h2; obtain ⟨A6, c6, rfl, _⟩ := own_slice h1; clear h1 h2 h3)
        go_roundw
        case rel => exact ⟨k + 1, HLT.out, by go_num, Lib.hid (by rw [HT.out]; exact O6.out), Lib.hid ((HW.out.alloc HW.out.size _).grown G6.out (by have := HW.out.size; simp; omega) (fun j hj => (HO.out.lt j hj).1))⟩
        case measure => have := HLT.out; simp [intOf]; omega
      · have hkM : k < M.length := by rw [← HN.out]; exact hlt
        have hmr := HM.out.fr (Fr.of_below HW.out No) (fun _ _ h => h)
        obtain ⟨d, c', he, x0, _, _, _⟩ := hmr.slot k hkM
        injection he with he hmid he3
        subst he he3
        have hrow := hmr.row _ (List.getElem_mem hkM)
        have hat := List.getElem?_eq_getElem hkM
        generalize M[k] = p at x0 hrow hat
        obtain ⟨pv, ys⟩ := p
        dsimp only at x0 hrow
        obtain ⟨A2, c2, rfl, hle⟩ := hrow.slice
        have HT := Lib.hid (show P.take (k + 1) = P.take k ++ [.slice A2 ys.length c2] from by rw [List.take_add_one, HPo.out k _ hat hkt]; rfl)
        obtain ⟨q, hq⟩ : ∃ q, q = ys.length := ⟨_, rfl⟩
        rw [← hq] at HT x0
        have g1 : ((k : Int) == (t : Int)) = false := by rw [beq_eq_false_iff_ne]; omega
        have x1 : (wr.alloc (.cells #[.slice A2 q c2] 32)).heap[wr.heap.size]? = some (.cells #[.slice A2 q c2] 32 (0, 0)) := heap_alloc_new _ _
        have X1 := Lib.hid x1
        clear hlt hmr hrow hat hle hq hkt hkM hmid x1
        go_wp2_with (at_builtin; refine app_row (l := P.take k) (m := k) rfl _ _ rfl rfl (HO.out.alloc _) rfl rfl (y := .slice A2 q c2) rfl X1.out (by decide) (by omega) (by have := HW.out.size; simp; omega) ?_; intro v6 w6 h1 h2 h3; have O6 := Lib.hid h1; have G6 := Lib.hid h2; obtain ⟨A6, c6, rfl, _⟩ := own_slice h1; clear h1 h2 h3)
        go_roundw
        case rel => exact ⟨k + 1, HLT.out, by go_num, Lib.hid (by rw [HT.out]; exact O6.out), Lib.hid ((HW.out.alloc HW.out.size _).grown G6.out (by have := HW.out.size; simp; omega) (fun j hj => (HO.out.lt j hj).1))⟩
        case measure => have := HLT.out; simp [intOf]; omega
    · obtain rfl : k = n := by omega
      have HT := Lib.hid (show P.take k = P from by rw [← HPn.out]; exact List.take_length)
      go_wp2
      go_ret
      exact HG.out _ _ _ rfl (by have h := HO.out; rw [HT.out] at h; exact h) HW.out

end Go.Proofs.Ytmgfidepjclobaa.BufLaw
