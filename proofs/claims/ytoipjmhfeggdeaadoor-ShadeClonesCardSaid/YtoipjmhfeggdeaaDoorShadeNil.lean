/- Proved: what Clone of a stack and of a grey leave; what a grey that nobody made answers. -/
import Derived.Test.YtoipjmhfeggdeaaDoorShadeRun
namespace Go.Proofs.YtoipjmhfeggdeaaDoor.ShadeNil
open Go.RowKit Go.Proofs.YtoipjmhfeggdeaaDoor.H Go.Proofs.YtoipjmhfeggdeaaDoor.Nums Go.Proofs.YtoipjmhfeggdeaaDoor.BitPure Go.Proofs.YtoipjmhfeggdeaaDoor.Shade Go.Proofs.YtoipjmhfeggdeaaDoor.ShadeRun
set_option linter.unusedVariables false
attribute [local irreducible] elems from_ nxt elemsN

theorem Stk_lower {w : World} {B B' g : Nat} {v : Value} {l : List (Int × Int)} {room : Int} {over : Bool} (h : Stk w B g v l room over) (hB : B' ≤ B) : Stk w B' g v l room over := by
  refine ⟨h.blk, ⟨h.own.1, ?_⟩, Nat.le_trans hB h.base, h.r0, h.r1, h.len⟩
  rcases h.own.2 with h2 | ⟨d, cap, cur, h1, h2, h3⟩
  · exact .inl h2
  · exact .inr ⟨d, cap, cur, h1, Nat.le_trans hB h2, h3⟩

def ClonePost (l : List (Int × Int)) (room : Int) (over : Bool) (w : World) (e : Ending) (w' : World) : Prop :=
  ∃ g v, e = .returned (.pointer (some ⟨g, 0, none⟩)) ∧ Stk w' w.heap.size g v l room over ∧ Below w.heap.size w w'

set_option maxRecDepth 100000 in
set_option maxHeartbeats 3200000 in
theorem clone_any (B g : Nat) (v : Value) (l : List (Int × Int)) (room : Int) (over : Bool) (w : World) (hs : Stk w B g v l room over) :
    Calls Tryd.prog 31 #[.pointer (some ⟨g, 0, none⟩)] w (ClonePost l room over w) := by
  have c1 : w.cell? ⟨g, 1, none⟩ = some (.int .i64 room) := cell_of hs.blk 1
  have c2 : w.cell? ⟨g, 2, none⟩ = some (.bool over) := cell_of hs.blk 2
  have r0 := hs.r0
  have e0 : (room == 0) = false := by rw [beq_eq_false_iff_ne]; omega
  have lg := lt_of_blk hs.blk
  have HS := Lib.hid hs
  have C1 := Lib.hid c1
  have C2 := Lib.hid c2
  clear hs r0
  go_enter Tryd.func31, Tryd.ntmps31
  go_wp2_with fail
  go_region_held3 (fun w' => w'.cell? ⟨g, 1, none⟩ = some (.int .i64 room) ∧ w'.cell? ⟨g, 2, none⟩ = some (.bool over))
    (((try go_split_ands); refine ⟨?_, ?_⟩ <;> (first | with_reducible assumption | (with_reducible exact F7.out.cell C1.out (fun h => h)) | (with_reducible exact F7.out.cell C2.out (fun h => h)) | (go_keep; done))))
    ((go_at_call 46; refine (Stack.all_any B g v l room over _ (HS.out.fr (S := No) (by repeat (first | exact Fr.refl _ _ | apply Fr.drewN | apply Fr.drew | apply Fr.alloc)) (fun _ _ h => h))).mono ?_; rintro e w7 ⟨v7, rfl, hown7, hb7⟩; obtain ⟨A7, c7, rfl, _⟩ := own_slice hown7; have F7 := Lib.hid (show Fr No w w7 from Fr.then_below (by repeat (first | exact Fr.refl _ _ | apply Fr.drewN | apply Fr.drew | apply Fr.alloc)) hb7); have O7 := Lib.hid hown7; clear hown7 hb7))
  go_wp2
  go_ret
  have hs := HS.out
  refine ⟨w7.heap.size, .slice A7 l.length c7, rfl, ⟨heap_alloc_new _ _, ?_, F7.out.size, hs.r0, hs.r1, hs.len⟩, ?_⟩
  · exact Fr.own (S := No) (w := w7) (by repeat (first | exact Fr.refl _ _ | apply Fr.drewN | apply Fr.drew | apply Fr.alloc)) O7.out (fun _ _ h => h)
  · exact Fr.below (S := No) (by repeat (first | exact F7.out | apply Fr.drewN | apply Fr.drew | apply Fr.alloc)) (Nat.le_refl _) (fun _ h => h.elim)

/-! ### nobody made it -/

set_option maxHeartbeats 800000 in
theorem pop_nil (w : World) : Calls Tryd.prog 47 #[.pointer none] w (Stack.PopNone w) := by
  go_enter Tryd.func47, Tryd.ntmps47
  go_wp2
  refine bodyPost_ret (v := .tuple #[.agg #[.int .i64 0, .int .i64 0], .bool false]) (by simp [results, Tryd.results47, go_sem]) rfl ⟨rfl, (Below.refl _ _).alloc (Nat.le_refl _) _⟩

set_option maxHeartbeats 800000 in
theorem push_nil (a b : Int) (w : World) : Calls Tryd.prog 50 #[.pointer none, .agg #[.int .i64 a, .int .i64 b]] w (Same w (.bool false)) := by
  go_enter Tryd.func50, Tryd.ntmps50
  go_wp2
  go_ret
  exact ⟨rfl, Fr.below (S := No) (by repeat (first | exact Fr.refl _ _ | apply Fr.drewN | apply Fr.drew | apply Fr.alloc)) (Nat.le_refl _) (fun _ h => h.elim)⟩

set_option maxHeartbeats 800000 in
theorem len_nil (w : World) : Calls Tryd.prog 51 #[.pointer none] w (Quiet w (.int .i64 0)) := by
  go_enter Tryd.func51, Tryd.ntmps51
  go_wp2
  go_ret
  exact ⟨rfl, 0, rfl⟩

set_option maxHeartbeats 800000 in
theorem over_nil (w : World) : Calls Tryd.prog 52 #[.pointer none] w (Quiet w (.bool false)) := by
  go_enter Tryd.func52, Tryd.ntmps52
  go_wp2
  go_ret
  exact ⟨rfl, 0, rfl⟩

set_option maxHeartbeats 800000 in
theorem settle_nil (w : World) : Calls Tryd.prog 53 #[.pointer none] w (Quiet w (.bool false)) := by
  go_enter Tryd.func53, Tryd.ntmps53
  go_wp2_with (go_at_call 52; refine (over_nil _).mono ?_; rintro e w' ⟨rfl, n, rfl⟩)
  go_ret
  exact ⟨rfl, n, rfl⟩

def Nob (w : World) (p : Option Addr) : Prop := p = none ∨ ∃ g, p = some ⟨g, 0, none⟩ ∧ w.heap[g]? = some (.cells #[.pointer none, .pointer none] 39 (0, 0))

theorem Nob.no {w w' : World} {p : Option Addr} (h : Nob w p) (hf : Fr No w w') : Nob w' p := h.elim .inl (fun ⟨g, h1, h2⟩ => .inr ⟨g, h1, hf.blk h2 (fun h => h)⟩)

def NonePost (w : World) (e : Ending) (w' : World) : Prop := ∃ b, e = .returned (.pointer (some ⟨b, 0, none⟩)) ∧ w'.heap[b]? = some (.cells #[.pointer none] 53 (0, 0)) ∧ Below w.heap.size w w'

theorem alloc_below (w : World) (o : Obj) : Below w.heap.size w (w.alloc o) := (Fr.alloc (Fr.refl No w) o).below (Nat.le_refl _) (fun _ h => h.elim)

set_option maxHeartbeats 1600000 in
theorem none_nob (p : Option Addr) (w : World) (hp : Nob w p) : Calls Tryd.prog 33 #[.pointer p] w (NonePost w) := by
  rcases hp with rfl | ⟨g, rfl, hg⟩
  · go_enter Tryd.func33, Tryd.ntmps33
    go_wp2_with fail
    go_ret
    exact ⟨w.heap.size, rfl, heap_alloc_new w _, alloc_below w _⟩
  · have c0 : w.cell? ⟨g, 0, none⟩ = some (.pointer none) := cell_of hg 0
    clear hg
    go_enter Tryd.func33, Tryd.ntmps33
    go_wp2_with fail
    go_ret
    exact ⟨w.heap.size, rfl, heap_alloc_new w _, alloc_below w _⟩

set_option maxHeartbeats 1600000 in
theorem set_nob (p : Option Addr) (w : World) (hp : Nob w p) : Calls Tryd.prog 35 #[.pointer p] w (Quiet w (.pointer none)) := by
  rcases hp with rfl | ⟨g, rfl, hg⟩
  · go_enter Tryd.func35, Tryd.ntmps35
    go_wp2_with fail
    go_ret
    exact ⟨rfl, 0, rfl⟩
  · have c1 : w.cell? ⟨g, 1, none⟩ = some (.pointer none) := cell_of hg 1
    clear hg
    go_enter Tryd.func35, Tryd.ntmps35
    go_wp2_with fail
    go_ret
    exact ⟨rfl, 0, rfl⟩

set_option maxHeartbeats 1600000 in
theorem is_nob (p : Option Addr) (i : Int) (w : World) (hp : Nob w p) : Calls Tryd.prog 15 #[.pointer p, .int .i64 i] w (Quiet w (.bool false)) := by
  have HP := Lib.hid hp
  clear hp
  go_enter Tryd.func15, Tryd.ntmps15
  go_wp2_with fail
  with_reducible refine (set_nob p _ HP.out).mono ?_
  rintro e w1 ⟨rfl, q1, rfl⟩
  go_wp2_with fail
  with_reducible refine (Bitmap.has_nil i _).mono ?_
  rintro e w2 ⟨rfl, q2, rfl⟩
  go_wp2_with fail
  go_ret
  exact ⟨rfl, q1 + q2, by simp [World.drewN]⟩

set_option maxHeartbeats 1600000 in
theorem black_nob (p : Option Addr) (i : Int) (w : World) (hp : Nob w p) : Calls Tryd.prog 16 #[.pointer p, .int .i64 i] w (Quiet w (.bool false)) := by
  have HP := Lib.hid hp
  clear hp
  go_enter Tryd.func16, Tryd.ntmps16
  go_wp2_with fail
  with_reducible refine (set_nob p _ HP.out).mono ?_
  rintro e w1 ⟨rfl, q1, rfl⟩
  go_wp2_with fail
  with_reducible refine (Bitmap.add_nil i _).mono ?_
  rintro e w2 ⟨rfl, q2, rfl⟩
  go_wp2_with fail
  go_ret
  exact ⟨rfl, q1 + q2, by simp [World.drewN]⟩

set_option maxHeartbeats 1600000 in
theorem clear_nob (p : Option Addr) (i : Int) (w : World) (hp : Nob w p) : Calls Tryd.prog 17 #[.pointer p, .int .i64 i] w (Quiet w (.bool false)) := by
  have HP := Lib.hid hp
  clear hp
  go_enter Tryd.func17, Tryd.ntmps17
  go_wp2_with fail
  with_reducible refine (set_nob p _ HP.out).mono ?_
  rintro e w1 ⟨rfl, q1, rfl⟩
  go_wp2_with fail
  with_reducible refine (Bitmap.remove_nil i _).mono ?_
  rintro e w2 ⟨rfl, q2, rfl⟩
  go_wp2_with fail
  go_ret
  exact ⟨rfl, q1 + q2, by simp [World.drewN]⟩

set_option maxHeartbeats 1600000 in
theorem count_nob (p : Option Addr) (w : World) (hp : Nob w p) : Calls Tryd.prog 18 #[.pointer p] w (Quiet w (.int .i64 0)) := by
  have HP := Lib.hid hp
  clear hp
  go_enter Tryd.func18, Tryd.ntmps18
  go_wp2_with fail
  with_reducible refine (set_nob p _ HP.out).mono ?_
  rintro e w1 ⟨rfl, q1, rfl⟩
  go_wp2_with fail
  with_reducible refine (Bitmap.count_nil _).mono ?_
  rintro e w2 ⟨rfl, q2, rfl⟩
  go_wp2_with fail
  go_ret
  exact ⟨rfl, q1 + q2, by simp [World.drewN]⟩

set_option maxHeartbeats 1600000 in
theorem all_nob (p : Option Addr) (w : World) (hp : Nob w p) : Calls Tryd.prog 23 #[.pointer p] w (Quiet w (.slice none 0 0)) := by
  have HP := Lib.hid hp
  clear hp
  go_enter Tryd.func23, Tryd.ntmps23
  go_wp2_with fail
  with_reducible refine (set_nob p _ HP.out).mono ?_
  rintro e w1 ⟨rfl, q1, rfl⟩
  go_wp2_with fail
  with_reducible refine (Bitmap.all_nil _).mono ?_
  rintro e w2 ⟨rfl, q2, rfl⟩
  go_wp2_with fail
  go_ret
  exact ⟨rfl, q1 + q2, by simp [World.drewN]⟩

set_option maxHeartbeats 1600000 in
theorem shade_nob (p : Option Addr) (i : Int) (w : World) (hp : Nob w p) : Calls Tryd.prog 14 #[.pointer p, .int .i64 i] w (Quiet w (.bool false)) := by
  have HP := Lib.hid hp
  clear hp
  go_enter Tryd.func14, Tryd.ntmps14
  go_wp2_with fail
  with_reducible refine (black_nob p i _ HP.out).mono ?_
  rintro e w1 ⟨rfl, q1, rfl⟩
  go_wp2_with fail
  go_ret
  exact ⟨rfl, q1, rfl⟩

set_option maxHeartbeats 1600000 in
theorem clone_nob (p : Option Addr) (w : World) (hp : Nob w p) : Calls Tryd.prog 12 #[.pointer p] w (Quiet w (.pointer none)) := by
  rcases hp with rfl | ⟨g, rfl, hg⟩
  · go_enter Tryd.func12, Tryd.ntmps12
    go_wp2_with fail
    go_ret
    exact ⟨rfl, 0, rfl⟩
  · have c0 : w.cell? ⟨g, 0, none⟩ = some (.pointer none) := cell_of hg 0
    clear hg
    go_enter Tryd.func12, Tryd.ntmps12
    go_wp2_with fail
    go_ret
    exact ⟨rfl, 0, rfl⟩

set_option maxHeartbeats 1600000 in
theorem wlen_nil (w : World) : Calls Tryd.prog 41 #[.agg #[.pointer none]] w (Same w (.int .i64 0)) := by
  go_enter Tryd.func41, Tryd.ntmps41
  go_wp2_with fail
  with_reducible refine (len_nil _).mono ?_
  rintro e w1 ⟨rfl, q1, hw1⟩
  have F1 := Lib.hid (show Fr No w w1 from Bitmap.drewN_fr (by repeat (first | exact Fr.refl _ _ | apply Fr.drewN | apply Fr.drew | apply Fr.alloc)) hw1)
  clear hw1
  go_wp2_with fail
  go_ret
  exact ⟨rfl, F1.out.below (Nat.le_refl _) (fun _ h => h.elim)⟩

set_option maxHeartbeats 1600000 in
theorem wover_nil (w : World) : Calls Tryd.prog 42 #[.agg #[.pointer none]] w (Same w (.bool false)) := by
  go_enter Tryd.func42, Tryd.ntmps42
  go_wp2_with fail
  with_reducible refine (over_nil _).mono ?_
  rintro e w1 ⟨rfl, q1, hw1⟩
  have F1 := Lib.hid (show Fr No w w1 from Bitmap.drewN_fr (by repeat (first | exact Fr.refl _ _ | apply Fr.drewN | apply Fr.drew | apply Fr.alloc)) hw1)
  clear hw1
  go_wp2_with fail
  go_ret
  exact ⟨rfl, F1.out.below (Nat.le_refl _) (fun _ h => h.elim)⟩

set_option maxHeartbeats 1600000 in
theorem wsettle_nil (w : World) : Calls Tryd.prog 43 #[.agg #[.pointer none]] w (Same w (.bool false)) := by
  go_enter Tryd.func43, Tryd.ntmps43
  go_wp2_with fail
  with_reducible refine (settle_nil _).mono ?_
  rintro e w1 ⟨rfl, q1, hw1⟩
  have F1 := Lib.hid (show Fr No w w1 from Bitmap.drewN_fr (by repeat (first | exact Fr.refl _ _ | apply Fr.drewN | apply Fr.drew | apply Fr.alloc)) hw1)
  clear hw1
  go_wp2_with fail
  go_ret
  exact ⟨rfl, F1.out.below (Nat.le_refl _) (fun _ h => h.elim)⟩

set_option maxHeartbeats 1600000 in
theorem wrest_nil (a b : Int) (w : World) : Calls Tryd.prog 40 #[.agg #[.pointer none], .agg #[.int .i64 a, .int .i64 b]] w (Same w (.bool false)) := by
  go_enter Tryd.func40, Tryd.ntmps40
  go_wp2_with fail
  with_reducible refine (push_nil a b _).mono ?_
  rintro e w1 ⟨rfl, hb1⟩
  have F1 := Lib.hid (show Fr No w w1 from Fr.then_below (by repeat (first | exact Fr.refl _ _ | apply Fr.drewN | apply Fr.drew | apply Fr.alloc)) hb1)
  clear hb1
  go_wp2_with fail
  go_ret
  exact ⟨rfl, F1.out.below (Nat.le_refl _) (fun _ h => h.elim)⟩

set_option maxHeartbeats 3200000 in
theorem wnext_nil (w : World) : Calls Tryd.prog 34 #[.agg #[.pointer none]] w (Same w (.tuple #[.agg #[.int .i64 0, .int .i64 0], .bool false])) := by
  go_enter Tryd.func34, Tryd.ntmps34
  go_wp2_with fail
  have F0 := Lib.hid (((Fr.refl No w).alloc (.cells #[.pointer none] 53)).alloc (.cells #[.int .i64 0, .int .i64 0] 41))
  have X0 : Hid (((w.alloc (.cells #[.pointer none] 53)).alloc (.cells #[.int .i64 0, .int .i64 0] 41)).heap[w.heap.size + 1]? = some (.cells #[.int .i64 0, .int .i64 0] 41 (0, 0))) := Lib.hid (by
    have h := heap_alloc_new (w.alloc (.cells #[.pointer none] 53)) (.cells #[.int .i64 0, .int .i64 0] 41)
    rw [show (w.alloc (.cells #[.pointer none] 53)).heap.size = w.heap.size + 1 from by simp] at h
    exact h)
  have Z0 : Hid (((w.alloc (.cells #[.pointer none] 53)).alloc (.cells #[.int .i64 0, .int .i64 0] 41)).heap.size = w.heap.size + 2) := Lib.hid (by simp)
  generalize (w.alloc (.cells #[.pointer none] 53)).alloc (.cells #[.int .i64 0, .int .i64 0] 41) = w0 at F0 X0 Z0 ⊢
  with_reducible refine (pop_nil _).mono ?_
  rintro e w1 ⟨rfl, hb1⟩
  have rb : w1.heap[w.heap.size + 1]? = some (.cells #[.int .i64 0, .int .i64 0] 41 (0, 0)) := (hb1.block _ (by have := Z0.out; omega)).trans X0.out
  have x0 : w1.cell? ⟨w.heap.size + 1, 0, none⟩ = some (.int .i64 0) := cell_of rb 0
  have x1 : w1.cell? ⟨w.heap.size + 1, 1, none⟩ = some (.int .i64 0) := cell_of rb 1
  have y0 := free_of rb 0
  have y1 := free_of rb 1
  have RBH := Lib.hid rb
  clear rb
  have HB := Lib.hid hb1
  clear hb1
  go_wp2_with fail
  refine bodyPost_ret (v := .tuple #[.agg #[.int .i64 0, .int .i64 0], .bool false]) (by simp [results, Tryd.results34, go_sem, x0, x1]) rfl ?_
  refine ⟨rfl, ?_⟩
  have h1 := (F0.out.below (Nat.le_refl _) (fun _ h => h.elim)).trans (HB.out.mono (by have := Z0.out; omega))
  exact (h1.setCell (p := ⟨w.heap.size + 1, 0, none⟩) (by simp) _).setCell (p := ⟨w.heap.size + 1, 1, none⟩) (by simp) _

set_option maxHeartbeats 1600000 in
theorem waiting_nob (p : Option Addr) (w : World) (hp : Nob w p) : Calls Tryd.prog 20 #[.pointer p] w (Same w (.int .i64 0)) := by
  have HP := Lib.hid hp
  clear hp
  go_enter Tryd.func20, Tryd.ntmps20
  go_wp2_with fail
  with_reducible refine (none_nob p _ HP.out).mono ?_
  rintro e w1 ⟨b, rfl, hb, hb1⟩
  have c0 : w1.cell? ⟨b, 0, none⟩ = some (.pointer none) := cell_of hb 0
  have B1 := Lib.hid hb1
  clear hb hb1
  go_wp2_with fail
  with_reducible refine (wlen_nil _).mono ?_
  rintro e w2 ⟨rfl, hb2⟩
  have B2 := Lib.hid (B1.out.trans (hb2.mono B1.out.size))
  clear hb2
  go_wp2_with fail
  go_ret
  exact ⟨rfl, B2.out⟩

set_option maxHeartbeats 1600000 in
theorem over_nob (p : Option Addr) (w : World) (hp : Nob w p) : Calls Tryd.prog 21 #[.pointer p] w (Same w (.bool false)) := by
  have HP := Lib.hid hp
  clear hp
  go_enter Tryd.func21, Tryd.ntmps21
  go_wp2_with fail
  with_reducible refine (none_nob p _ HP.out).mono ?_
  rintro e w1 ⟨b, rfl, hb, hb1⟩
  have c0 : w1.cell? ⟨b, 0, none⟩ = some (.pointer none) := cell_of hb 0
  have B1 := Lib.hid hb1
  clear hb hb1
  go_wp2_with fail
  with_reducible refine (wover_nil _).mono ?_
  rintro e w2 ⟨rfl, hb2⟩
  have B2 := Lib.hid (B1.out.trans (hb2.mono B1.out.size))
  clear hb2
  go_wp2_with fail
  go_ret
  exact ⟨rfl, B2.out⟩

set_option maxHeartbeats 1600000 in
theorem settle_nob (p : Option Addr) (w : World) (hp : Nob w p) : Calls Tryd.prog 22 #[.pointer p] w (Same w (.bool false)) := by
  have HP := Lib.hid hp
  clear hp
  go_enter Tryd.func22, Tryd.ntmps22
  go_wp2_with fail
  with_reducible refine (none_nob p _ HP.out).mono ?_
  rintro e w1 ⟨b, rfl, hb, hb1⟩
  have c0 : w1.cell? ⟨b, 0, none⟩ = some (.pointer none) := cell_of hb 0
  have B1 := Lib.hid hb1
  clear hb hb1
  go_wp2_with fail
  with_reducible refine (wsettle_nil _).mono ?_
  rintro e w2 ⟨rfl, hb2⟩
  have B2 := Lib.hid (B1.out.trans (hb2.mono B1.out.size))
  clear hb2
  go_wp2_with fail
  go_ret
  exact ⟨rfl, B2.out⟩

set_option maxHeartbeats 3200000 in
theorem next_nob (p : Option Addr) (w : World) (hp : Nob w p) : Calls Tryd.prog 13 #[.pointer p] w (Same w (.tuple #[.agg #[.int .i64 0, .int .i64 0], .bool false])) := by
  have HP := Lib.hid hp
  clear hp
  go_enter Tryd.func13, Tryd.ntmps13
  go_wp2_with fail
  have F0 := Lib.hid ((Fr.refl No w).alloc (.cells #[.int .i64 0, .int .i64 0] 41))
  have X0 := Lib.hid (heap_alloc_new w (.cells #[.int .i64 0, .int .i64 0] 41))
  have Z0 : Hid ((w.alloc (.cells #[.int .i64 0, .int .i64 0] 41)).heap.size = w.heap.size + 1) := Lib.hid (by simp)
  generalize w.alloc (.cells #[.int .i64 0, .int .i64 0] 41) = w0 at F0 X0 Z0 ⊢
  with_reducible refine (none_nob p _ (HP.out.no F0.out)).mono ?_
  rintro e wq ⟨b, rfl, hb, hb1⟩
  have c0 : wq.cell? ⟨b, 0, none⟩ = some (.pointer none) := cell_of hb 0
  have XQ := Lib.hid ((hb1.block _ (by have := Z0.out; omega)).trans X0.out)
  have ZQ := Lib.hid (show w.heap.size + 1 ≤ wq.heap.size by have := hb1.size; have := Z0.out; omega)
  have BQ := Lib.hid (show Below w.heap.size w wq from (F0.out.below (Nat.le_refl _) (fun _ h => h.elim)).trans (hb1.mono (by have := Z0.out; omega)))
  clear hb hb1
  go_wp2_with fail
  with_reducible refine (wnext_nil _).mono ?_
  rintro e w1 ⟨rfl, hb1⟩
  have rb : w1.heap[w.heap.size]? = some (.cells #[.int .i64 0, .int .i64 0] 41 (0, 0)) := (hb1.block _ (by have := ZQ.out; omega)).trans XQ.out
  have x0 : w1.cell? ⟨w.heap.size, 0, none⟩ = some (.int .i64 0) := cell_of rb 0
  have x1 : w1.cell? ⟨w.heap.size, 1, none⟩ = some (.int .i64 0) := cell_of rb 1
  have y0 := free_of rb 0
  have y1 := free_of rb 1
  have RBH := Lib.hid rb
  clear rb
  have HB := Lib.hid hb1
  clear hb1
  go_wp2_with fail
  refine bodyPost_ret (v := .tuple #[.agg #[.int .i64 0, .int .i64 0], .bool false]) (by simp [results, Tryd.results13, go_sem, x0, x1]) rfl ?_
  refine ⟨rfl, ?_⟩
  have h1 := BQ.out.trans (HB.out.mono (by have := ZQ.out; omega))
  exact (h1.setCell (p := ⟨w.heap.size, 0, none⟩) (by simp) _).setCell (p := ⟨w.heap.size, 1, none⟩) (by simp) _

set_option maxHeartbeats 3200000 in
theorem rest_nob (p : Option Addr) (a b : Int) (w : World) (hp : Nob w p) : Calls Tryd.prog 19 #[.pointer p, .agg #[.int .i64 a, .int .i64 b]] w (Same w (.bool false)) := by
  have HP := Lib.hid hp
  clear hp
  go_enter Tryd.func19, Tryd.ntmps19
  go_wp2_with fail
  have F0 := Lib.hid ((Fr.refl No w).alloc (.cells #[.int .i64 a, .int .i64 b] 41))
  have X0 := Lib.hid (heap_alloc_new w (.cells #[.int .i64 a, .int .i64 b] 41))
  have Z0 : Hid ((w.alloc (.cells #[.int .i64 a, .int .i64 b] 41)).heap.size = w.heap.size + 1) := Lib.hid (by simp)
  generalize w.alloc (.cells #[.int .i64 a, .int .i64 b] 41) = w0 at F0 X0 Z0 ⊢
  have c0 : w0.cell? ⟨w.heap.size, 0, none⟩ = some (.int .i64 a) := cell_of X0.out 0
  have c1 : w0.cell? ⟨w.heap.size, 1, none⟩ = some (.int .i64 b) := cell_of X0.out 1
  have C0 := Lib.hid c0
  have C1 := Lib.hid c1
  have d0 := drew_of X0.out
  have c2 : w0.drew.cell? ⟨w.heap.size, 0, none⟩ = some (.int .i64 a) := cell_of d0 0
  have c3 : w0.drew.cell? ⟨w.heap.size, 1, none⟩ = some (.int .i64 b) := cell_of d0 1
  go_region_with
    ((first
      | (go_at_call 33; refine (none_nob p _ (HP.out.no (F0.out.trans (show Fr No w0 _ from (by repeat (first | exact Fr.refl _ _ | apply Fr.drewN | apply Fr.drew | apply Fr.alloc))) (fun i (h : No i) => h.elim)))).mono ?_; rintro e w1 ⟨bq, rfl, hbq, hb1⟩; have F1c := Lib.hid (show Fr No w0 w1 from Fr.then_below (by repeat (first | exact Fr.refl _ _ | apply Fr.drewN | apply Fr.drew | apply Fr.alloc)) hb1); have d0 : w1.cell? ⟨bq, 0, none⟩ = some (.pointer none) := cell_of hbq 0; have e0 : w1.cell? ⟨w.heap.size, 0, none⟩ = some (.int .i64 a) := F1c.out.cell C0.out (fun h => h); have e1 : w1.cell? ⟨w.heap.size, 1, none⟩ = some (.int .i64 b) := F1c.out.cell C1.out (fun h => h); clear hbq hb1)
      | (go_at_call 40; refine (wrest_nil a b _).mono ?_; rintro e w2 ⟨rfl, hb2⟩; have F2c := Lib.hid (show Fr No w0 w2 from Fr.then_below (by repeat (first | exact F1c.out | apply Fr.drewN | apply Fr.drew | apply Fr.alloc)) hb2); clear hb2)))
  all_goals
    go_wp2_with fail
    go_ret
    exact ⟨rfl, (F0.out.trans F2c.out (fun i (h : No i) => h.elim)).below (Nat.le_refl _) (fun _ h => h.elim)⟩

def GClone (l : List (Int × Int)) (room : Int) (over : Bool) (ws : List Nat) (w : World) (e : Ending) (w' : World) : Prop :=
  ∃ gg P v, e = .returned (.pointer (some ⟨gg, 0, none⟩)) ∧ G w' w.heap.size gg P v l room over ws ∧ Below w.heap.size w w'

theorem gclone_end {w w7 w8 w9 : World} {g7 g8 bw B8 : Nat} {v7 : Value} {l : List (Int × Int)} {room : Int} {over : Bool} {ws : List Nat} (h7 : Shade.Stk w7 w.heap.size g7 v7 l room over) (F78 : Fr No w7 w8) (h8 : Shade.Bm w8 B8 g8 2048 ws) (hB : w.heap.size ≤ B8) (F8 : Fr No w w8) (F9 : Fr No w8 w9)
    (hb : w9.heap[bw]? = some (.cells #[.pointer (some ⟨g7, 0, none⟩)] 53 (0, 0))) (hw : w.heap.size ≤ bw) :
    GClone l room over ws w (.returned (.pointer (some ⟨w9.heap.size, 0, none⟩))) (w9.alloc (.cells #[.pointer (some ⟨bw, 0, none⟩), .pointer (some ⟨g8, 0, none⟩)] 39)) := by
  have FE := F9.alloc (.cells #[.pointer (some ⟨bw, 0, none⟩), .pointer (some ⟨g8, 0, none⟩)] 39)
  have z1 := F8.size
  have z2 := F9.size
  exact ⟨w9.heap.size, ⟨bw, g7, g8⟩, v7, rfl, ⟨heap_alloc_new w9 _, alloc_of hb _, h7.fr (F78.trans FE (fun i (h : No i) => h.elim)) (fun _ _ h => h), (h8.lower hB).no FE, by omega, hw⟩, (F8.trans FE (fun i (h : No i) => h.elim)).below (Nat.le_refl _) (fun _ h => h.elim)⟩

set_option maxRecDepth 100000 in
set_option maxHeartbeats 6400000 in
theorem gclone_any (B gg : Nat) (P : Pl) (v : Value) (l : List (Int × Int)) (room : Int) (over : Bool) (ws : List Nat) (w : World) (h : G w B gg P v l room over ws) :
    Calls Tryd.prog 12 #[.pointer (some ⟨gg, 0, none⟩)] w (GClone l room over ws w) := by
  obtain ⟨c0, c1, c2⟩ := h.cells
  have HH := Lib.hid h
  have C0 := Lib.hid c0
  have C1 := Lib.hid c1
  have C2 := Lib.hid c2
  clear h
  go_enter Tryd.func12, Tryd.ntmps12
  go_wp2_with fail
  go_region_held3 (fun W => W.cell? ⟨gg, 0, none⟩ = some (.pointer (some ⟨P.gw, 0, none⟩)) ∧ W.cell? ⟨gg, 1, none⟩ = some (.pointer (some ⟨P.gs, 0, none⟩)) ∧ W.cell? ⟨P.gw, 0, none⟩ = some (.pointer (some ⟨P.gt, 0, none⟩))) (((try go_split_ands); refine ⟨?_, ?_, ?_⟩ <;> (first | with_reducible assumption | (with_reducible exact F8.out.cell C0.out (fun h => h)) | (with_reducible exact F8.out.cell C1.out (fun h => h)) | (with_reducible exact F8.out.cell C2.out (fun h => h)) | (with_reducible exact F7.out.cell C0.out (fun h => h)) | (with_reducible exact F7.out.cell C1.out (fun h => h)) | (with_reducible exact F7.out.cell C2.out (fun h => h)) | (go_keep; done))))
    ((first
      | (go_at_call 31; refine (clone_any B P.gt v l room over _ (HH.out.no (by repeat (first | exact Fr.refl _ _ | apply Fr.drewN | apply Fr.drew | apply Fr.alloc))).stk).mono ?_; rintro e w7 ⟨g7, v7, rfl, hs7, hb7⟩; have S7 := Lib.hid hs7; have F7 := Lib.hid (show Fr No w w7 from Fr.then_below (by repeat (first | exact Fr.refl _ _ | apply Fr.drewN | apply Fr.drew | apply Fr.alloc)) hb7); clear hs7 hb7)
      | (go_at_call 32; refine (Bitmap.clone_any B P.gs 2048 ws _ (HH.out.no (show Fr No w _ from (by repeat (first | exact F7.out | apply Fr.drewN | apply Fr.drew | apply Fr.alloc)))).set).mono ?_; rintro e w8 ⟨g8, rfl, hs8, hb8⟩; have S8 := Lib.hid hs8; have F78 := Lib.hid (show Fr No w7 w8 from Fr.then_below (by repeat (first | exact Fr.refl _ _ | apply Fr.drewN | apply Fr.drew | apply Fr.alloc)) hb8); have X8 := Lib.hid hb8; have F8 := Lib.hid (F7.out.trans F78.out (fun i (h : No i) => h.elim)); clear hs8 hb8)))
  · go_wp2_with fail
    go_ret
    exact gclone_end (w := w) S7.out F78.out S8.out (by have := F7.out.size; simp; omega) F8.out (Fr.refl _ _) ((X8.out.block _ (by simp)).trans (heap_alloc_new w7 _)) F7.out.size
  · go_wp2_with fail
    go_ret
    have h := gclone_end (w := w) (w9 := w8.alloc (.cells #[.pointer (some ⟨g7, 0, none⟩)] 53)) S7.out F78.out S8.out F7.out.size F8.out (Fr.alloc (Fr.refl _ _) _) (heap_alloc_new w8 _) F8.out.size
    simpa using h

end Go.Proofs.YtoipjmhfeggdeaaDoor.ShadeNil
