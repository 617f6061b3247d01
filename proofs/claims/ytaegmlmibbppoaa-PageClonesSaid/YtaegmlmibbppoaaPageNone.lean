/- Proved: what calls on tables of pages that nobody made answer. -/
import Derived.Test.YtaegmlmibbppoaaPageRun
import Derived.Shelf.Abstract
import Derived.Shelf.RegionOpen
namespace Go.Proofs.Ytaegmlmibbppoaa.Page
open Go.RowKit Go.Proofs.Ytaegmlmibbppoaa.H Go.Proofs.Ytaegmlmibbppoaa.Nums Go.Proofs.Ytaegmlmibbppoaa.PagePure
open Go.Shelf
set_option linter.unusedVariables false
attribute [local go_sem] Oper.semAt_some

def Odd (w : World) (g : Nat) : Prop := w.heap[g]? = some (.cells #[.bool false, .slice none 0 0] 40 (0, 0))
theorem Odd.fr {w w' : World} {g : Nat} (h : Odd w g) (hf : Fr No w w') : Odd w' g := hf.blk h (fun h => h)
/-- a pointer to a table that nobody made -/
def Nobody (w : World) (p : Option Addr) : Prop := p = none ∨ ∃ g, p = some ⟨g, 0, none⟩ ∧ Odd w g
theorem Nobody.nil (w : World) : Nobody w none := .inl rfl
theorem Nobody.odd {w : World} {g : Nat} (h : Odd w g) : Nobody w (some ⟨g, 0, none⟩) := .inr ⟨g, rfl, h⟩
theorem Nobody.fr {w w' : World} {p : Option Addr} (h : Nobody w p) (hf : Fr No w w') : Nobody w' p := by
  rcases h with h | ⟨g, h1, h2⟩
  · exact .inl h
  · exact .inr ⟨g, h1, h2.fr hf⟩
theorem kind_nobody (p : Option Addr) (x : Int) (w : World) (hp : Nobody w p) : Calls Try.prog 19 #[.pointer p, .int .i64 x] w (Quiet w (.int .i64 (-1))) := by
  rcases hp with rfl | ⟨g, rfl, hg⟩
  · go_enter Try.func19, Try.ntmps19
    go_wp2
    go_ret
    exact ⟨rfl, 0, rfl⟩
  · have c1 : w.cell? ⟨g, 1, none⟩ = some (.slice none 0 0) := cell_of hg 1
    clear hg
    by_cases h1 : x < 0
    · go_enter Try.func19, Try.ntmps19
      go_wp2
      go_ret
      exact ⟨rfl, 0, rfl⟩
    · have h2 : 0 ≤ x := by omega
      clear h1
      go_enter Try.func19, Try.ntmps19
      go_wp2
      go_ret
      exact ⟨rfl, 0, rfl⟩
set_option maxHeartbeats 1600000 in
theorem take_nobody (p : Option Addr) (w : World) (hp : Nobody w p) : Calls Try.prog 11 #[.pointer p, .int .i64 1] w (Same w (.tuple #[.int .i64 0, .bool false])) := by
  rcases hp with rfl | ⟨g, rfl, hg⟩
  · go_enter Try.func11, Try.ntmps11
    go_wp2
    go_ret2
    exact ⟨rfl, Below.refl _ _⟩
  · have HG := Lib.hid hg
    clear hg
    go_enter Try.func11, Try.ntmps11
    go_wp2_with fail
    with_reducible refine (cls_any 1 2 (by decide) _).mono ?_
    rintro e1 w1 ⟨rfl, n1, hw1⟩
    have F1 := Lib.hid (drewN_fr (Fr.refl No w) hw1)
    have c1 : w1.cell? ⟨g, 1, none⟩ = some (.slice none 0 0) := cell_of (HG.out.fr F1.out) 1
    clear hw1
    go_wp2_with fail
    with_reducible refine (index0_any none 0 0 [] rfl _ (Own.nil _ 0).rd (by decide)).mono ?_
    rintro e2 w2 ⟨rfl, n2, hw2⟩
    have F2 := Lib.hid (drewN_fr F1.out hw2)
    clear hw2
    rw [show idx0 [] 0 = -1 from rfl]
    go_wp2_with fail
    go_ret2
    exact ⟨rfl, no_below F2.out⟩
theorem size_nil (w : World) : Calls Try.prog 16 #[.pointer none, .int .i64 0] w (Same w (.int .i64 0)) := by
  go_enter Try.func16, Try.ntmps16
  go_wp2_with fail
  with_reducible refine (kind_nobody none 0 _ (Nobody.nil _)).mono ?_
  rintro e1 w1 ⟨rfl, n1, hw1⟩
  have F1 := Lib.hid (drewN_fr (Fr.refl No w) hw1)
  clear hw1
  go_wp2_with fail
  with_reducible refine (cls_any (-1) 0 (by decide) _).mono ?_
  rintro e2 w2 ⟨rfl, n2, hw2⟩
  have F2 := Lib.hid (drewN_fr F1.out hw2)
  clear hw2
  go_wp2_with fail
  go_ret
  exact ⟨rfl, no_below F2.out⟩
theorem first_nil (w : World) : Calls Try.prog 15 #[.pointer none, .int .i64 0] w (Same w (.int .i64 (-1))) := by
  go_enter Try.func15, Try.ntmps15
  go_wp2_with fail
  go_loopw [1] (fun i wr => i = .int .i64 0 ∧ wr = w) (fun _ _ => 0)
  case atStart => exact ⟨rfl, rfl⟩
  case round =>
    obtain ⟨rfl, rfl⟩ := hrel
    go_wp2_with fail
    with_reducible refine (kind_nobody none 0 _ (Nobody.nil _)).mono ?_
    rintro e1 w1 ⟨rfl, n1, hw1⟩
    have F1 := Lib.hid (drewN_fr (Fr.refl No wr) hw1)
    clear hw1
    go_wp2_with fail
    with_reducible refine (size_nil _).mono ?_
    rintro e2 w2 ⟨rfl, hb2⟩
    have F2 := Lib.hid (F1.out.then_below hb2)
    clear hb2
    go_wp2_with fail
    go_ret
    exact ⟨rfl, no_below F2.out⟩
theorem free_nil (w : World) : Calls Try.prog 13 #[.pointer none, .int .i64 0] w (Same w (.int .i64 0)) := by
  go_enter Try.func13, Try.ntmps13
  go_wp2_with fail
  with_reducible refine (size_nil _).mono ?_
  rintro e1 w1 ⟨rfl, hb1⟩
  have F1 := Lib.hid (Fr.of_below hb1 No)
  clear hb1
  go_wp2_with fail
  go_loopw [11] (fun i wr => i = .int .i64 0 ∧ wr = w1) (fun _ _ => 0)
  case atStart => exact ⟨rfl, rfl⟩
  case round =>
    obtain ⟨rfl, rfl⟩ := hrel
    go_wp2_with fail
    go_ret
    exact ⟨rfl, no_below F1.out⟩
theorem all_nil (w : World) : Calls Try.prog 14 #[.pointer none] w (Quiet w (.slice none 0 0)) := by
  go_enter Try.func14, Try.ntmps14
  go_wp2
  go_ret
  exact ⟨rfl, 0, rfl⟩
theorem clone_nobody (p : Option Addr) (w : World) (hp : Nobody w p) : Calls Try.prog 17 #[.pointer p] w (Quiet w (.pointer none)) := by
  rcases hp with rfl | ⟨g, rfl, hg⟩
  · go_enter Try.func17, Try.ntmps17
    go_wp2
    go_ret
    exact ⟨rfl, 0, rfl⟩
  · have c0 : w.cell? ⟨g, 0, none⟩ = some (.bool false) := cell_of hg 0
    clear hg
    go_enter Try.func17, Try.ntmps17
    go_wp2
    go_ret
    exact ⟨rfl, 0, rfl⟩

set_option maxRecDepth 100000 in
set_option maxHeartbeats 3200000 in
/-- no runs -/
theorem runs_none (n : Nat) (hn : 1 ≤ n) (y : Nat) (p : Option Addr) (J Jx : List (Nat × Nat) → World → Prop) (hJ : ∀ s A q, J s A → J s (A.drewN q)) (W : World) (hp : Nobody W p) (h0 : J [] W) :
    CallsIn Fence.wide n Try.prog 28 #[.pointer p, .func (.yield y) #[] #[]] W fun e W' => (∃ v, e = .returned v) ∧
      ((∃ xs, xs = [] ∧ J xs W') ∨ (∃ pre, False ∧ Jx pre W')) := by
  have HJ := Lib.hid hJ
  have H0 := Lib.hid h0
  clear hJ h0
  rcases hp with rfl | ⟨g, rfl, hg⟩
  · refine callsIn_of_wp Try.func28 rfl trivial ?_ rfl
    simp only [Try.ntmps28, List.size_toArray, List.length_cons, List.length_nil, Nat.reduceAdd, Nat.reduceSub, Array.replicate_succ, Array.replicate_zero, List.push_toArray, List.append_toArray, List.nil_append, List.cons_append]
    gi_wp2
    refine bodyPost_ret (results_none rfl _ _ _) rfl ?_
    exact ⟨⟨_, rfl⟩, .inl ⟨[], rfl, H0.out⟩⟩
  · have HG := Lib.hid hg
    have c1 : W.cell? ⟨g, 1, none⟩ = some (.slice none 0 0) := cell_of hg 1
    clear hg
    refine callsIn_of_wp Try.func28 rfl trivial ?_ rfl
    simp only [Try.ntmps28, List.size_toArray, List.length_cons, List.length_nil, Nat.reduceAdd, Nat.reduceSub, Array.replicate_succ, Array.replicate_zero, List.push_toArray, List.append_toArray, List.nil_append, List.cons_append]
    gi_wp2
    gi_loopw [4, 14] (fun s i wr => ∃ k : Nat, k ≤ 1 ∧ i = .int .i64 k ∧ s = .int .i64 0 ∧ Hid (J [] wr) ∧ Hid (Odd wr g)) (fun _ i _ => 1 - (intOf i).toNat)
    case atStart => exact ⟨0, Nat.zero_le _, rfl, rfl, H0, HG⟩
    case round =>
      obtain ⟨k, hk, rfl, rfl, HP, HO⟩ := hrel
      have i1 : (0 : Int) ≤ (k : Int) := Int.natCast_nonneg _
      by_cases hlt : k < 1
      · have i2 : (k : Int) < 1 := by omega
        have HLT := Lib.hid hlt
        clear hlt
        gi_wp2_with (first | (refine ⟨trivial, ?_⟩; gi_at_call 19; refine (callsIn_wide.2 (kind_nobody (some ⟨g, 0, none⟩) (k : Int) _ (Nobody.odd HO.out))).mono ?_; rintro e3 w3 ⟨rfl, n3, hw3⟩; have HJ3 : Hid (J [] w3) := Lib.hid (by rw [hw3]; exact HJ.out _ _ _ HP.out); have HO3 : Hid (Odd w3 g) := Lib.hid (by rw [hw3]; exact HO.out); clear hw3) | fail)
        refine ⟨fun f h => (by cases h), ?_⟩
        gi_wp2
        go_roundw
        case rel => exact ⟨k + 1, by have := HLT.out; omega, by go_num, rfl, HJ3, HO3⟩
        case measure => have := HLT.out; simp [intOf]; omega
      · have i2 : (1 : Int) ≤ (k : Int) := by omega
        clear hlt hk
        gi_wp2
        go_end0
        exact ⟨⟨_, rfl⟩, .inl ⟨[], rfl, HP.out⟩⟩

set_option maxRecDepth 100000 in
set_option maxHeartbeats 3200000 in
theorem count_nobody (p : Option Addr) (w : World) (hp : Nobody w p) : Calls Try.prog 20 #[.pointer p] w (Same w (.int .i64 0)) := by
  have HP := Lib.hid hp
  have HF := Lib.hid (show ∀ g, p = some ⟨g, 0, none⟩ → g < w.heap.size from fun g hg => by
    rcases hp with h | ⟨g', h, ho⟩
    · rw [h] at hg; cases hg
    · rw [h] at hg
      injection hg with hg
      injection hg with hg _ _
      subst hg
      exact lt_of_blk ho)
  clear hp
  refine (callsIn_wide (n := 4)).1 ?_
  refine callsIn_of_wp_marks Try.func20 rfl trivial ?_ rfl
  simp only [Try.ntmps20, List.size_toArray, List.length_cons, List.length_nil, Nat.reduceAdd, Nat.reduceSub, Array.replicate_succ, Array.replicate_zero, List.push_toArray, List.append_toArray, List.nil_append, List.cons_append]
  gi_wp2
  have X1 := Lib.hid (heap_alloc_new w (.cells #[.int .i64 0] 3))
  have F1 := Lib.hid ((Fr.refl No w).alloc (.cells #[.int .i64 0] 3))
  have hz : (w.alloc (.cells #[.int .i64 0] 3)).heap.size = w.heap.size + 1 := by simp
  generalize w.alloc (.cells #[.int .i64 0] 3) = w1 at X1 F1 hz ⊢
  have P1 := Lib.hid (HP.out.fr F1.out)
  refine range_recv (α := Nat × Nat) (n := 4) (by omega) (gf := 28) (rv := .pointer p) rfl (enters_of Try.func28 (by kernel_rfl) rfl) (encs := enc2) (fun _ => rfl) w.heap.size (by omega)
    (fun _ _ => False) (fun pre W => W.heap[w.heap.size]? = some (.cells #[.int .i64 0] 3 (0, 0)) ∧ Below w.heap.size w W) (fun _ _ _ => False)
    (fun s A A' row h hg hr => ⟨blk_kept h.1 hg (fun r e => (hr r e).2), h.2.grown hg h.2.size (fun k e => by have := (hr k e).1; omega)⟩) (fun _ _ _ _ _ h _ _ => h)
    ⟨X1.out, F1.out.below (Nat.le_refl _) (fun _ h => h.elim)⟩ (fun xs => xs = []) (fun pre => False)
    (fun y J Jx W hk hJ hY h0 => runs_none 3 (by omega) y p J Jx hJ W (by
      rcases P1.out with h | ⟨g, h, ho⟩
      · exact .inl h
      · exact .inr ⟨g, h, (hk g (HF.out g h)).trans ho⟩) h0)
    (fun x => { tmps := #[.pointer p, undef, .int .i64 0, .pointer (some ⟨w.heap.size, 0, none⟩), undef, .int .i64 x.2, .pointer p, .func (.func 28) #[.pointer p] #[], .int .i64 x.1, .int .i64 x.2, undef, undef, undef, undef], defers := [] }) ?assign ?body ?done ?stop
  case assign =>
    intro y x W K hK
    simp only [enc2]
    gi_wp2
    exact hK
  case body =>
    rintro y pre x W hv _
    exact hv.elim
  case done =>
    rintro D ys W hD rfl ⟨hb, hB⟩ hK
    have c0 := cell_of hb 0
    clear hb
    gi_wp2
    refine ⟨by simp, .inl ⟨_, _, rfl, run_takeDeferred hK, ?_⟩⟩
    exact ⟨_, results_tmp rfl _ _ _, rfl, put_below hB hB.size (by omega)⟩
  case stop =>
    rintro D c pre W _ _ h _
    exact h.elim
set_option maxRecDepth 100000 in
set_option maxHeartbeats 3200000 in
theorem longest_nobody (p : Option Addr) (w : World) (hp : Nobody w p) : Calls Try.prog 21 #[.pointer p] w (Same w (.int .i64 0)) := by
  have HP := Lib.hid hp
  have HF := Lib.hid (show ∀ g, p = some ⟨g, 0, none⟩ → g < w.heap.size from fun g hg => by
    rcases hp with h | ⟨g', h, ho⟩
    · rw [h] at hg; cases hg
    · rw [h] at hg
      injection hg with hg
      injection hg with hg _ _
      subst hg
      exact lt_of_blk ho)
  clear hp
  refine (callsIn_wide (n := 4)).1 ?_
  refine callsIn_of_wp_marks Try.func21 rfl trivial ?_ rfl
  simp only [Try.ntmps21, List.size_toArray, List.length_cons, List.length_nil, Nat.reduceAdd, Nat.reduceSub, Array.replicate_succ, Array.replicate_zero, List.push_toArray, List.append_toArray, List.nil_append, List.cons_append]
  gi_wp2
  have X1 := Lib.hid (heap_alloc_new w (.cells #[.int .i64 0] 3))
  have F1 := Lib.hid ((Fr.refl No w).alloc (.cells #[.int .i64 0] 3))
  have hz : (w.alloc (.cells #[.int .i64 0] 3)).heap.size = w.heap.size + 1 := by simp
  generalize w.alloc (.cells #[.int .i64 0] 3) = w1 at X1 F1 hz ⊢
  have P1 := Lib.hid (HP.out.fr F1.out)
  refine range_recv (α := Nat × Nat) (n := 4) (by omega) (gf := 28) (rv := .pointer p) rfl (enters_of Try.func28 (by kernel_rfl) rfl) (encs := enc2) (fun _ => rfl) w.heap.size (by omega)
    (fun _ _ => False) (fun pre W => W.heap[w.heap.size]? = some (.cells #[.int .i64 0] 3 (0, 0)) ∧ Below w.heap.size w W) (fun _ _ _ => False)
    (fun s A A' row h hg hr => ⟨blk_kept h.1 hg (fun r e => (hr r e).2), h.2.grown hg h.2.size (fun k e => by have := (hr k e).1; omega)⟩) (fun _ _ _ _ _ h _ _ => h)
    ⟨X1.out, F1.out.below (Nat.le_refl _) (fun _ h => h.elim)⟩ (fun xs => xs = []) (fun pre => False)
    (fun y J Jx W hk hJ hY h0 => runs_none 3 (by omega) y p J Jx hJ W (by
      rcases P1.out with h | ⟨g, h, ho⟩
      · exact .inl h
      · exact .inr ⟨g, h, (hk g (HF.out g h)).trans ho⟩) h0)
    (fun x => { tmps := #[.pointer p, undef, .int .i64 0, .pointer (some ⟨w.heap.size, 0, none⟩), undef, .int .i64 x.2, .pointer p, .func (.func 28) #[.pointer p] #[], .int .i64 x.1, .int .i64 x.2, undef, undef, undef, undef], defers := [] }) ?assign ?body ?done ?stop
  case assign =>
    intro y x W K hK
    simp only [enc2]
    gi_wp2
    exact hK
  case body =>
    rintro y pre x W hv _
    exact hv.elim
  case done =>
    rintro D ys W hD rfl ⟨hb, hB⟩ hK
    have c0 := cell_of hb 0
    clear hb
    gi_wp2
    refine ⟨by simp, .inl ⟨_, _, rfl, run_takeDeferred hK, ?_⟩⟩
    exact ⟨_, results_tmp rfl _ _ _, rfl, put_below hB hB.size (by omega)⟩
  case stop =>
    rintro D c pre W _ _ h _
    exact h.elim

/-- Span's own four blocks, of a table that nobody made -/
structure SN (w W : World) (p : Option Addr) (r : Int) (b : Bool) : Prop where
  b2 : W.heap[w.heap.size + 1 + 1]? = some (.cells #[.int .i64 r] 3 (0, 0))
  b3 : W.heap[w.heap.size + 1 + 1 + 1]? = some (.cells #[.bool b] 4 (0, 0))
theorem SN.new (w : World) (p : Option Addr) (m : Int) : SN w ((((w.alloc (.cells #[.pointer p] 27)).alloc (.cells #[.int .i64 m] 3)).alloc (.cells #[.int .i64 0] 3)).alloc (.cells #[.bool false] 4)) p 0 false := by
  have a2 := heap_alloc_new ((w.alloc (.cells #[.pointer p] 27)).alloc (.cells #[.int .i64 m] 3)) (.cells #[.int .i64 0] 3)
  have a3 := heap_alloc_new (((w.alloc (.cells #[.pointer p] 27)).alloc (.cells #[.int .i64 m] 3)).alloc (.cells #[.int .i64 0] 3)) (.cells #[.bool false] 4)
  simp only [World.size_alloc] at a2 a3
  exact ⟨alloc_of a2 _, a3⟩
theorem SN.grown {w W W' : World} {row : Option Nat} {p : Option Addr} {r : Int} {b : Bool} (h : SN w W p r b) (hg : W.grownBy W' row) (hr : ∀ r, row = some r → ∃ o : Obj, W.heap[r]? = some o ∧ o.isCells = false) : SN w W' p r b :=
  ⟨blk_kept h.b2 hg hr, blk_kept h.b3 hg hr⟩
theorem SN.res {w W : World} {p : Option Addr} {r : Int} {b : Bool} (h : SN w W p r b) (r' : Int) (b' : Bool) : SN w ((W.setCell ⟨w.heap.size + 1 + 1, 0, none⟩ (.int .i64 r')).setCell ⟨w.heap.size + 1 + 1 + 1, 0, none⟩ (.bool b')) p r' b' :=
  ⟨far_of (set_of h.b2 0 _) (by show w.heap.size + 1 + 1 ≠ w.heap.size + 1 + 1 + 1; omega) _, set_of (far_of h.b3 (by show w.heap.size + 1 + 1 + 1 ≠ w.heap.size + 1 + 1; omega) _) 0 _⟩

set_option maxRecDepth 100000 in
set_option maxHeartbeats 6400000 in
theorem span_nobody (p : Option Addr) (w : World) (hp : Nobody w p) : Calls Try.prog 12 #[.pointer p, .int .i64 1] w (Same w (.tuple #[.int .i64 0, .bool false])) := by
  have HP := Lib.hid hp
  have HF := Lib.hid (show ∀ g, p = some ⟨g, 0, none⟩ → g < w.heap.size from fun g hg => by
    rcases hp with h | ⟨g', h, ho⟩
    · rw [h] at hg; cases hg
    · rw [h] at hg
      injection hg with hg
      injection hg with hg _ _
      subst hg
      exact lt_of_blk ho)
  clear hp
  refine (callsIn_wide (n := 4)).1 ?_
  refine callsIn_of_wp_marks Try.func12 rfl trivial ?_ rfl
  simp only [Try.ntmps12, List.size_toArray, List.length_cons, List.length_nil, Nat.reduceAdd, Nat.reduceSub, Array.replicate_succ, Array.replicate_zero, List.push_toArray, List.append_toArray, List.nil_append, List.cons_append]
  gi_wp2
  have X1 := Lib.hid (SN.new w p 1)
  have F1 := Lib.hid (show Fr No w ((((w.alloc (.cells #[.pointer p] 27)).alloc (.cells #[.int .i64 1] 3)).alloc (.cells #[.int .i64 0] 3)).alloc (.cells #[.bool false] 4)) by repeat (first | exact Fr.refl _ _ | apply Fr.alloc))
  have hz : w.heap.size ≤ ((((w.alloc (.cells #[.pointer p] 27)).alloc (.cells #[.int .i64 1] 3)).alloc (.cells #[.int .i64 0] 3)).alloc (.cells #[.bool false] 4)).heap.size := F1.out.size
  generalize ((((w.alloc (.cells #[.pointer p] 27)).alloc (.cells #[.int .i64 1] 3)).alloc (.cells #[.int .i64 0] 3)).alloc (.cells #[.bool false] 4)) = w1 at X1 F1 hz ⊢
  have P1 := Lib.hid (HP.out.fr F1.out)
  refine range_recv (α := Nat × Nat) (n := 4) (by omega) (gf := 28) (rv := .pointer p) rfl (enters_of Try.func28 (by kernel_rfl) rfl) (encs := enc2) (fun _ => rfl) w.heap.size hz
    (fun _ _ => False) (fun pre W => SN w W p 0 false ∧ Fr No w W) (fun _ _ _ => False)
    (fun s A A' row h hg hr => ⟨h.1.grown hg (fun r e => (hr r e).2), h.2.grown hg (fun k e => .inr (by have := (hr k e).1; omega))⟩) (fun _ _ _ _ _ h _ _ => h)
    ⟨X1.out, F1.out⟩ (fun xs => xs = []) (fun pre => False)
    (fun y J Jx W hk hJ hY h0 => runs_none 3 (by omega) y p J Jx hJ W (by
      rcases P1.out with h | ⟨g, h, ho⟩
      · exact .inl h
      · exact .inr ⟨g, h, (hk g (HF.out g h)).trans ho⟩) h0)
    (fun x => { tmps := #[.pointer p, .int .i64 1, .pointer (some ⟨w.heap.size, 0, none⟩), .pointer (some ⟨w.heap.size + 1, 0, none⟩), .pointer (some ⟨w.heap.size + 1 + 1, 0, none⟩), .pointer (some ⟨w.heap.size + 1 + 1 + 1, 0, none⟩), .int .i64 x.1, .int .i64 x.2, undef, .int .i64 1, .bool false, .pointer p, .func (.func 28) #[.pointer p] #[], .int .i64 x.1, .int .i64 x.2, undef, undef, undef, undef, undef, undef, undef, undef, undef, undef, undef, undef, undef, undef, undef, undef, undef, undef, undef, undef, undef, undef, undef], defers := [] }) ?assign ?body ?done ?stop
  case assign =>
    intro y x W K hK
    simp only [enc2]
    gi_wp2
    exact hK
  case body =>
    rintro y pre x W hv _
    exact hv.elim
  case done =>
    rintro D ys W hD rfl ⟨hb, hfr⟩ hK
    have HB := Lib.hid hb
    have HFR := Lib.hid hfr
    have c3 := cell_of hb.b2 0
    have c4 := cell_of hb.b3 0
    have f3 := free_of hb.b2 0
    have f4 := free_of hb.b3 0
    clear hb hfr
    gi_wp2
    have HB2 := HB.out.res 0 false
    have hK' := ((KeepsOthers.setCell W ⟨w.heap.size + 1 + 1, 0, none⟩ (.int .i64 0)).trans (KeepsOthers.setCell _ ⟨w.heap.size + 1 + 1 + 1, 0, none⟩ (.bool false))).same D _ hK rfl
    refine ⟨by simp, .inl ⟨_, _, rfl, run_takeDeferred hK', ?_⟩⟩
    have hg' := grownBy_putObj' ((W.setCell ⟨w.heap.size + 1 + 1, 0, none⟩ (.int .i64 0)).setCell ⟨w.heap.size + 1 + 1 + 1, 0, none⟩ (.bool false)) D (.deferred none)
    have HB3 := HB2.grown hg' (fun r e => by cases e; exact ⟨_, hK', rfl⟩)
    have c5 := cell_of HB3.b2 0
    have c6 := cell_of HB3.b3 0
    have FA : Fr (fun k => w.heap.size ≤ k) W ((W.setCell ⟨w.heap.size + 1 + 1, 0, none⟩ (.int .i64 0)).setCell ⟨w.heap.size + 1 + 1 + 1, 0, none⟩ (.bool false)) :=
      ((Fr.refl _ _).setCell (p := ⟨w.heap.size + 1 + 1, 0, none⟩) (.inl (by show w.heap.size ≤ w.heap.size + 1 + 1; omega)) _).setCell (p := ⟨w.heap.size + 1 + 1 + 1, 0, none⟩) (.inl (by show w.heap.size ≤ w.heap.size + 1 + 1 + 1; omega)) _
    have FB : Fr No w (((W.setCell ⟨w.heap.size + 1 + 1, 0, none⟩ (.int .i64 0)).setCell ⟨w.heap.size + 1 + 1 + 1, 0, none⟩ (.bool false)).putObj D (.deferred none)) := (HFR.out.trans FA (fun i hi => .inr hi)).grown hg' (fun k e => by cases e; exact .inr (by omega))
    refine ⟨.tuple #[.int .i64 0, .bool false], ?_, rfl, no_below FB⟩
    simp at c5 c6
    simp [results, Try.results12, go_sem, c5, c6]
  case stop =>
    rintro D c pre W _ _ h _
    exact h.elim

end Go.Proofs.Ytaegmlmibbppoaa.Page
