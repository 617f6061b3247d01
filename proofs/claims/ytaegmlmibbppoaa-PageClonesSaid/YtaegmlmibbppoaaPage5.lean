/- Proved: what Count, Longest and Span of package page do and answer. -/
import Derived.Test.YtaegmlmibbppoaaPage4
import Derived.Shelf.Abstract
import Derived.Shelf.RegionOpen
namespace Go.Proofs.Ytaegmlmibbppoaa.Page
open Go.RowKit Go.Proofs.Ytaegmlmibbppoaa.H Go.Proofs.Ytaegmlmibbppoaa.Nums Go.Proofs.Ytaegmlmibbppoaa.PagePure
open Go.Shelf
set_option linter.unusedVariables false
attribute [local go_sem] Oper.semAt_some

theorem runs_in_len (l : List Int) : ∀ a m, m ≤ a → ∀ x ∈ runsAux l a m, x.1 + x.2 ≤ a + l.length := by
  induction l with
  | nil =>
    intro a m hm x hx
    simp only [runsAux] at hx
    split at hx
    · cases hx
    · simp at hx; subst hx; simp; omega
  | cons y r ih =>
    intro a m hm x hx
    simp only [runsAux] at hx
    split at hx
    · have := ih _ _ (by omega) x hx; simp; omega
    · rw [List.mem_append] at hx
      rcases hx with hx | hx
      · split at hx
        · cases hx
        · simp at hx; subst hx; simp; omega
      · have := ih _ _ (by omega) x hx; simp; omega
theorem run_len (l : List Int) (pre post : List (Nat × Nat)) (x : Nat × Nat) (h : runs l = pre ++ x :: post) : x.1 + x.2 ≤ l.length := by
  have := runs_in_len l 0 0 (Nat.le_refl _) x (by show x ∈ runs l; rw [h]; simp)
  omega
theorem run_first (l : List Int) (m : Nat) (hm : 1 ≤ m) (pre post : List (Nat × Nat)) (x : Nat × Nat) (h : runs l = pre ++ x :: post) (hp : ∀ z ∈ pre, z.2 < m) (hx : m ≤ x.2) : findI l (m : Int) = (x.1 : Int) := by
  have h1 := runs_find l m hm
  unfold findI
  rw [if_neg (by omega), show ((m : Int)).toNat = m by omega, ← h1, h]
  unfold findR
  rw [List.find?_append, List.find?_eq_none.2 (fun z hz => by have := hp z hz; simp; omega), Option.none_or, List.find?_cons_of_pos (by simpa using hx)]
  rfl
theorem run_none (l : List Int) (m : Nat) (hm : 1 ≤ m) (hp : ∀ z ∈ runs l, z.2 < m) : findI l (m : Int) = -1 := by
  have h1 := runs_find l m hm
  unfold findI
  rw [if_neg (by omega), show ((m : Int)).toNat = m by omega, ← h1]
  unfold findR
  rw [List.find?_eq_none.2 (fun z hz => by have := hp z hz; simp; omega)]
  rfl
theorem sum_upto (l : List Int) (hl : l.length ≤ 64) (pre post : List (Nat × Nat)) (x : Nat × Nat) (h : runs l = pre ++ x :: post) : sumR pre + x.2 ≤ 64 := by
  have h1 : sumR (runs l) = 0 + zeros l := sum_runs l 0 0
  have h2 := zeros_le l
  have key : ∀ a b : List (Nat × Nat), sumR (a ++ b) = sumR a + sumR b := fun a b => by
    unfold sumR
    rw [List.foldl_append]
    exact sumR_from b _
  rw [h, key, sumR_cons] at h1
  omega
/-- a block of cells stays where only what is no cells is written -/
theorem blk_kept {W W' : World} {row : Option Nat} {b : Nat} {cs : Array Value} {t : TypeId} (h : W.heap[b]? = some (.cells cs t (0, 0))) (hg : W.grownBy W' row) (hr : ∀ r, row = some r → ∃ o : Obj, W.heap[r]? = some o ∧ o.isCells = false) : W'.heap[b]? = some (.cells cs t (0, 0)) := by
  refine (hg.block b (lt_of_blk h) (fun e => ?_)).trans h
  obtain ⟨o, ho, hc⟩ := hr b e.symm
  rw [h] at ho
  injection ho with ho
  subst ho
  cases hc
theorem T.grown {W W' : World} {row : Option Nat} {B g : Nat} {v : Value} {l : List Int} (h : T W B g v l) (hg : W.grownBy W' row) (hr : ∀ r, row = some r → ∃ o : Obj, W.heap[r]? = some o ∧ o.isCells = false) : T W' B g v l := by
  refine ⟨blk_kept h.blk hg hr, h.own.fr (S := fun k => row = some k) (Fr.grown (Fr.refl _ W) hg (fun k e => .inl e)) (fun k hk e => ?_), h.base, h.len⟩
  rcases h.own.2 with ⟨he, _⟩ | ⟨d, cap, cur, he, _, hd, _⟩
  · rw [he] at hk; cases hk
  · rw [he] at hk
    simp [Value.ownBlock] at hk
    subst hk
    obtain ⟨o, ho, hc⟩ := hr d e
    rw [hd] at ho
    injection ho with ho
    subst ho
    cases hc
theorem put_below {N0 : Nat} {w W : World} {D : Nat} {o : Obj} (h : Below N0 w W) (hN : N0 ≤ W.heap.size) (hD : N0 ≤ D) : Below N0 w (W.putObj D o) :=
  h.grown (grownBy_putObj' W D o) hN (fun k e => by cases e; exact hD)

set_option maxRecDepth 100000 in
set_option maxHeartbeats 6400000 in
theorem count_any (B g : Nat) (v : Value) (l : List Int) (w : World) (hs : T w B g v l) :
    Calls Try.prog 20 #[.pointer (some ⟨g, 0, none⟩)] w (Same w (.int .i64 (zeros l : Nat))) := by
  have HS := Lib.hid hs
  have HF := Lib.hid (show ∀ k, Foot g v k → k < w.heap.size from fun k hk => (hs.foot_lt k hk).2)
  clear hs
  refine (callsIn_wide (n := 4)).1 ?_
  refine callsIn_of_wp_marks Try.func20 rfl trivial ?_ rfl
  simp only [Try.ntmps20, List.size_toArray, List.length_cons, List.length_nil, Nat.reduceAdd, Nat.reduceSub, Array.replicate_succ, Array.replicate_zero, List.push_toArray, List.append_toArray, List.nil_append, List.cons_append]
  gi_wp2
  have X1 := Lib.hid (heap_alloc_new w (.cells #[.int .i64 0] 3))
  have F1 := Lib.hid ((Fr.refl No w).alloc (.cells #[.int .i64 0] 3))
  have hz : (w.alloc (.cells #[.int .i64 0] 3)).heap.size = w.heap.size + 1 := by simp
  generalize w.alloc (.cells #[.int .i64 0] 3) = w1 at X1 F1 hz ⊢
  have S1 := Lib.hid (HS.out.no F1.out)
  refine range_recv (α := Nat × Nat) (n := 4) (by omega) (gf := 28) (rv := .pointer (some ⟨g, 0, none⟩)) rfl (enters_of Try.func28 (by kernel_rfl) rfl) (encs := enc2) (fun _ => rfl) w.heap.size (by omega)
    (fun pre x => ∃ post, runs l = pre ++ x :: post)
    (fun pre W => W.heap[w.heap.size]? = some (.cells #[.int .i64 (sumR pre : Nat)] 3 (0, 0)) ∧ Below w.heap.size w W) (fun _ _ _ => False)
    (fun s A A' row h hg hr => ⟨blk_kept h.1 hg (fun r e => (hr r e).2), h.2.grown hg h.2.size (fun k e => by have := (hr k e).1; omega)⟩) (fun _ _ _ _ _ h _ _ => h)
    ⟨X1.out, F1.out.below (Nat.le_refl _) (fun _ h => h.elim)⟩ (fun xs => xs = runs l) (fun pre => ∃ post, runs l = pre ++ post)
    (fun y J Jx W hk hJ hY h0 => runs_in 3 (by omega) y w.heap.size B g v l J Jx hJ hY W (S1.out.kept hk HF.out) HF.out h0)
    (fun x => { tmps := #[.pointer (some ⟨g, 0, none⟩), undef, .int .i64 0, .pointer (some ⟨w.heap.size, 0, none⟩), undef, .int .i64 x.2, .pointer (some ⟨g, 0, none⟩), .func (.func 28) #[.pointer (some ⟨g, 0, none⟩)] #[], .int .i64 x.1, .int .i64 x.2, undef, undef, undef, undef], defers := [] }) ?assign ?body ?done ?stop
  case assign =>
    intro y x W K hK
    simp only [enc2]
    gi_wp2
    exact hK
  case body =>
    rintro y pre x W ⟨post, hv⟩ ⟨hb, hB⟩
    have hle := sum_upto l HS.out.len pre post x hv
    have HX := Lib.hid (sumR_snoc pre x)
    have c0 := cell_of hb 0
    have c1 := free_of hb 0
    have HB := Lib.hid hb
    have HBL := Lib.hid hB
    obtain ⟨s, hs⟩ : ∃ s, s = sumR pre := ⟨_, rfl⟩
    obtain ⟨q, hq⟩ : ∃ q, q = x.2 := ⟨_, rfl⟩
    rw [← hs, ← hq] at hle HX
    rw [← hs] at c0 HB
    rw [← hq]
    have i1 : (0 : Int) ≤ (s : Int) := Int.natCast_nonneg _
    have i2 : (0 : Int) ≤ (q : Int) := Int.natCast_nonneg _
    have i3 : (s : Int) + (q : Int) ≤ 64 := by omega
    clear hb hs hq hle hv hB
    gi_wp2
    exact ⟨KeepsOthers.setCell _ _ _, Kept.set _ _ (Nat.le_refl _), by rw [HX.out]; exact set_of HB.out 0 _, HBL.out.setCell (p := ⟨w.heap.size, 0, none⟩) (Nat.le_refl _) _⟩
  case done =>
    rintro D ys W hD rfl ⟨hb, hB⟩ hK
    have c0 := cell_of hb 0
    have HZ : Hid (sumR (runs l) = zeros l) := Lib.hid (by rw [← Nat.zero_add (zeros l)]; exact sum_runs l 0 0)
    rw [HZ.out] at c0
    clear hb
    gi_wp2
    refine ⟨by simp, .inl ⟨_, _, rfl, run_takeDeferred hK, ?_⟩⟩
    exact ⟨_, results_tmp rfl _ _ _, rfl, put_below hB hB.size (by omega)⟩
  case stop =>
    rintro D c pre W _ _ h _
    exact h.elim

theorem maxR_le (l : List Int) (hl : l.length ≤ 64) (pre post : List (Nat × Nat)) (x : Nat × Nat) (h : runs l = pre ++ x :: post) : maxR pre ≤ 64 ∧ x.2 ≤ 64 := by
  have h1 : maxR (runs l) = max (0 + lead l) (long l) := max_runs l 0 0
  have h2 := long_le l
  have h3 := lead_le l
  have key : ∀ a b : List (Nat × Nat), maxR (a ++ b) = max (maxR a) (maxR b) := fun a b => by
    unfold maxR
    rw [List.foldl_append]
    exact maxR_from b _
  rw [h, key, maxR_cons] at h1
  omega

set_option maxRecDepth 100000 in
set_option maxHeartbeats 6400000 in
theorem longest_any (B g : Nat) (v : Value) (l : List Int) (w : World) (hs : T w B g v l) :
    Calls Try.prog 21 #[.pointer (some ⟨g, 0, none⟩)] w (Same w (.int .i64 (long l : Nat))) := by
  have HS := Lib.hid hs
  have HF := Lib.hid (show ∀ k, Foot g v k → k < w.heap.size from fun k hk => (hs.foot_lt k hk).2)
  clear hs
  refine (callsIn_wide (n := 4)).1 ?_
  refine callsIn_of_wp_marks Try.func21 rfl trivial ?_ rfl
  simp only [Try.ntmps21, List.size_toArray, List.length_cons, List.length_nil, Nat.reduceAdd, Nat.reduceSub, Array.replicate_succ, Array.replicate_zero, List.push_toArray, List.append_toArray, List.nil_append, List.cons_append]
  gi_wp2
  have X1 := Lib.hid (heap_alloc_new w (.cells #[.int .i64 0] 3))
  have F1 := Lib.hid ((Fr.refl No w).alloc (.cells #[.int .i64 0] 3))
  have hz : (w.alloc (.cells #[.int .i64 0] 3)).heap.size = w.heap.size + 1 := by simp
  generalize w.alloc (.cells #[.int .i64 0] 3) = w1 at X1 F1 hz ⊢
  have S1 := Lib.hid (HS.out.no F1.out)
  refine range_recv (α := Nat × Nat) (n := 4) (by omega) (gf := 28) (rv := .pointer (some ⟨g, 0, none⟩)) rfl (enters_of Try.func28 (by kernel_rfl) rfl) (encs := enc2) (fun _ => rfl) w.heap.size (by omega)
    (fun pre x => ∃ post, runs l = pre ++ x :: post)
    (fun pre W => W.heap[w.heap.size]? = some (.cells #[.int .i64 (maxR pre : Nat)] 3 (0, 0)) ∧ Below w.heap.size w W) (fun _ _ _ => False)
    (fun s A A' row h hg hr => ⟨blk_kept h.1 hg (fun r e => (hr r e).2), h.2.grown hg h.2.size (fun k e => by have := (hr k e).1; omega)⟩) (fun _ _ _ _ _ h _ _ => h)
    ⟨X1.out, F1.out.below (Nat.le_refl _) (fun _ h => h.elim)⟩ (fun xs => xs = runs l) (fun pre => ∃ post, runs l = pre ++ post)
    (fun y J Jx W hk hJ hY h0 => runs_in 3 (by omega) y w.heap.size B g v l J Jx hJ hY W (S1.out.kept hk HF.out) HF.out h0)
    (fun x => { tmps := #[.pointer (some ⟨g, 0, none⟩), undef, .int .i64 0, .pointer (some ⟨w.heap.size, 0, none⟩), undef, .int .i64 x.2, .pointer (some ⟨g, 0, none⟩), .func (.func 28) #[.pointer (some ⟨g, 0, none⟩)] #[], .int .i64 x.1, .int .i64 x.2, undef, undef, undef, undef], defers := [] }) ?assign ?body ?done ?stop
  case assign =>
    intro y x W K hK
    simp only [enc2]
    gi_wp2
    exact hK
  case body =>
    rintro y pre x W ⟨post, hv⟩ ⟨hb, hB⟩
    have HX := Lib.hid (maxR_snoc pre x)
    have c0 := cell_of hb 0
    have c1 := free_of hb 0
    have HB := Lib.hid hb
    have HBL := Lib.hid hB
    obtain ⟨s, hs⟩ : ∃ s, s = maxR pre := ⟨_, rfl⟩
    obtain ⟨q, hq⟩ : ∃ q, q = x.2 := ⟨_, rfl⟩
    rw [← hs, ← hq] at HX
    rw [← hs] at c0 HB
    rw [← hq]
    clear hb hs hq hv hB
    gi_wp2
    all_goals
      exact ⟨KeepsOthers.setCell _ _ _, Kept.set _ _ (Nat.le_refl _), by rw [HX.out]; refine (set_of HB.out 0 _).trans ?_; congr 4; simp; omega, HBL.out.setCell (p := ⟨w.heap.size, 0, none⟩) (Nat.le_refl _) _⟩
  case done =>
    rintro D ys W hD rfl ⟨hb, hB⟩ hK
    have c0 := cell_of hb 0
    have HZ : Hid (maxR (runs l) = long l) := Lib.hid (by have h := max_runs l 0 0; have := lead_long l; unfold runs; rw [h]; omega)
    rw [HZ.out] at c0
    clear hb
    gi_wp2
    refine ⟨by simp, .inl ⟨_, _, rfl, run_takeDeferred hK, ?_⟩⟩
    exact ⟨_, results_tmp rfl _ _ _, rfl, put_below hB hB.size (by omega)⟩
  case stop =>
    rintro D c pre W _ _ h _
    exact h.elim

end Go.Proofs.Ytaegmlmibbppoaa.Page
