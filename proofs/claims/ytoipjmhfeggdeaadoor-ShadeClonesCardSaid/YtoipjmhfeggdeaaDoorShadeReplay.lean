/- Proved: what replay of package scutagelaw18 does to the reference's grey. -/
import Derived.Test.YtoipjmhfeggdeaaDoorShadeNil
namespace Go.Proofs.YtoipjmhfeggdeaaDoor.ShadeReplay
open Go.RowKit Go.Proofs.YtoipjmhfeggdeaaDoor.H Go.Proofs.YtoipjmhfeggdeaaDoor.Nums Go.Proofs.YtoipjmhfeggdeaaDoor.BitPure Go.Proofs.YtoipjmhfeggdeaaDoor.Shade Go.Proofs.YtoipjmhfeggdeaaDoor.Ref18 Go.Proofs.YtoipjmhfeggdeaaDoor.ShadeStep Go.Proofs.YtoipjmhfeggdeaaDoor.ShadeRun
set_option linter.unusedVariables false
set_option linter.unusedSimpArgs false
attribute [local irreducible] elems from_ nxt elemsN rc zCells

theorem close_p {w w0 w7 : World} {B g : Nat} {v v7 : Value} {l' : List (Int × Int)} {room : Int} {over' : Bool} {ws' : List Nat} (F0 : Fr No w w0) (r7 : R w7 B g v7 l' room over' ws')
    (V7 : ∀ k, v7.ownBlock = some k → v.ownBlock = some k ∨ w0.heap.size ≤ k) (F7 : Fr (Stack.Foot g v) w0 w7) : RPost B g v l' room over' ws' (.tuple #[]) w (.returned (.tuple #[])) w7 := by
  have z := F0.size
  exact ⟨rfl, v7, r7, fun k hk => (V7 k hk).elim .inl (fun h => .inr (by omega)), (F0.mono (fun _ h => h.elim)).trans F7 (fun i hi => .inl hi)⟩

set_option maxRecDepth 100000 in
set_option maxHeartbeats 12800000 in
theorem shade_1 (B g : Nat) (v : Value) (l : List (Int × Int)) (room : Int) (over : Bool) (ws : List Nat) (i fr : Int) (w : World) (hB : B ≤ w.heap.size) (hr : R w B g v l room over ws) :
    Calls Tryd.prog 11 #[.pointer (some ⟨g, 0, none⟩), .agg #[.int .i64 1, .int .i64 i, .int .i64 fr]] w (RPost B g v (shL l room ws i) room (shO l room over ws i) (Bitmap.addW 2048 ws i) (.tuple #[]) w) := by
  have HB := Lib.hid hr
  have HS := Lib.hid hB
  go_enter Tryd.func11, Tryd.ntmps11
  go_upto_region 1 with (fail)
  have F0 := Lib.hid ((Fr.refl No w).alloc (.cells #[.int .i64 1, .int .i64 i, .int .i64 fr] 31))
  have X0 := Lib.hid (heap_alloc_new w (.cells #[.int .i64 1, .int .i64 i, .int .i64 fr] 31))
  have Z0 := Lib.hid (show (w.alloc (.cells #[.int .i64 1, .int .i64 i, .int .i64 fr] 31)).heap.size = w.heap.size + 1 by simp)
  generalize w.alloc (.cells #[.int .i64 1, .int .i64 i, .int .i64 fr] 31) = w0 at F0 X0 Z0 ⊢
  have b0 : w0.cell? ⟨w.heap.size, 0, none⟩ = some (.int .i64 1) := cell_of X0.out 0
  have b1 : w0.cell? ⟨w.heap.size, 1, none⟩ = some (.int .i64 i) := cell_of X0.out 1
  have b2 : w0.cell? ⟨w.heap.size, 2, none⟩ = some (.int .i64 fr) := cell_of X0.out 2
  have R0 := Lib.hid (HB.out.no F0.out)
  clear hr hB
  go_wp2_with fail
  with_reducible refine (Ref18.shade_any B g v l room over ws i _ (R0.out.no (by repeat (first | exact Fr.refl _ _ | apply Fr.drewN | apply Fr.drew | apply Fr.alloc)))).mono ?_
  rintro e7 w7 ⟨rfl, v7, hr7, hv7, hf7⟩
  have R7 := Lib.hid hr7
  have V7 : Hid (∀ k, v7.ownBlock = some k → v.ownBlock = some k ∨ w0.heap.size ≤ k) := Lib.hid hv7
  have F7 := Lib.hid (show Fr (Stack.Foot g v) w0 w7 from Fr.trans (by repeat (first | exact Fr.refl _ _ | apply Fr.drewN | apply Fr.drew | apply Fr.alloc)) hf7 (fun i hi => .inl hi))
  clear hr7 hv7 hf7
  go_wp2_with fail
  refine bodyPost_end (v := .tuple #[]) (by simp [results, Tryd.results11, go_sem]) rfl ?_
  exact close_p F0.out R7.out V7.out F7.out

set_option maxRecDepth 100000 in
set_option maxHeartbeats 12800000 in
theorem black_2 (B g : Nat) (v : Value) (l : List (Int × Int)) (room : Int) (over : Bool) (ws : List Nat) (i fr : Int) (w : World) (hB : B ≤ w.heap.size) (hr : R w B g v l room over ws) :
    Calls Tryd.prog 11 #[.pointer (some ⟨g, 0, none⟩), .agg #[.int .i64 2, .int .i64 i, .int .i64 fr]] w (RPost B g v l room over (Bitmap.addW 2048 ws i) (.tuple #[]) w) := by
  have HB := Lib.hid hr
  have HS := Lib.hid hB
  go_enter Tryd.func11, Tryd.ntmps11
  go_upto_region 1 with (fail)
  have F0 := Lib.hid ((Fr.refl No w).alloc (.cells #[.int .i64 2, .int .i64 i, .int .i64 fr] 31))
  have X0 := Lib.hid (heap_alloc_new w (.cells #[.int .i64 2, .int .i64 i, .int .i64 fr] 31))
  have Z0 := Lib.hid (show (w.alloc (.cells #[.int .i64 2, .int .i64 i, .int .i64 fr] 31)).heap.size = w.heap.size + 1 by simp)
  generalize w.alloc (.cells #[.int .i64 2, .int .i64 i, .int .i64 fr] 31) = w0 at F0 X0 Z0 ⊢
  have b0 : w0.cell? ⟨w.heap.size, 0, none⟩ = some (.int .i64 2) := cell_of X0.out 0
  have b1 : w0.cell? ⟨w.heap.size, 1, none⟩ = some (.int .i64 i) := cell_of X0.out 1
  have b2 : w0.cell? ⟨w.heap.size, 2, none⟩ = some (.int .i64 fr) := cell_of X0.out 2
  have R0 := Lib.hid (HB.out.no F0.out)
  clear hr hB
  go_wp2_with fail
  with_reducible refine (Ref18.black_any B g v l room over ws i _ (R0.out.no (by repeat (first | exact Fr.refl _ _ | apply Fr.drewN | apply Fr.drew | apply Fr.alloc)))).mono ?_
  rintro e7 w7 ⟨rfl, v7, hr7, hv7, hf7⟩
  have R7 := Lib.hid hr7
  have V7 : Hid (∀ k, v7.ownBlock = some k → v.ownBlock = some k ∨ w0.heap.size ≤ k) := Lib.hid hv7
  have F7 := Lib.hid (show Fr (Stack.Foot g v) w0 w7 from Fr.trans (by repeat (first | exact Fr.refl _ _ | apply Fr.drewN | apply Fr.drew | apply Fr.alloc)) hf7 (fun i hi => .inl hi))
  clear hr7 hv7 hf7
  go_wp2_with fail
  refine bodyPost_end (v := .tuple #[]) (by simp [results, Tryd.results11, go_sem]) rfl ?_
  exact close_p F0.out R7.out V7.out F7.out

set_option maxRecDepth 100000 in
set_option maxHeartbeats 12800000 in
theorem push_5 (B g : Nat) (v : Value) (l : List (Int × Int)) (room : Int) (over : Bool) (ws : List Nat) (i fr : Int) (w : World) (hB : B ≤ w.heap.size) (hr : R w B g v l room over ws) :
    Calls Tryd.prog 11 #[.pointer (some ⟨g, 0, none⟩), .agg #[.int .i64 5, .int .i64 i, .int .i64 fr]] w (RPost B g v (pushL l room (i, fr)) room (pushO l room over) ws (.tuple #[]) w) := by
  have HB := Lib.hid hr
  have HS := Lib.hid hB
  go_enter Tryd.func11, Tryd.ntmps11
  go_upto_region 1 with (fail)
  have F0 := Lib.hid ((Fr.refl No w).alloc (.cells #[.int .i64 5, .int .i64 i, .int .i64 fr] 31))
  have X0 := Lib.hid (heap_alloc_new w (.cells #[.int .i64 5, .int .i64 i, .int .i64 fr] 31))
  have Z0 := Lib.hid (show (w.alloc (.cells #[.int .i64 5, .int .i64 i, .int .i64 fr] 31)).heap.size = w.heap.size + 1 by simp)
  generalize w.alloc (.cells #[.int .i64 5, .int .i64 i, .int .i64 fr] 31) = w0 at F0 X0 Z0 ⊢
  have b0 : w0.cell? ⟨w.heap.size, 0, none⟩ = some (.int .i64 5) := cell_of X0.out 0
  have b1 : w0.cell? ⟨w.heap.size, 1, none⟩ = some (.int .i64 i) := cell_of X0.out 1
  have b2 : w0.cell? ⟨w.heap.size, 2, none⟩ = some (.int .i64 fr) := cell_of X0.out 2
  have R0 := Lib.hid (HB.out.no F0.out)
  clear hr hB
  go_wp2_with fail
  with_reducible refine (Ref18.push_any B g v l room over ws i fr _ (R0.out.no (by repeat (first | exact Fr.refl _ _ | apply Fr.drewN | apply Fr.drew | apply Fr.alloc)))).mono ?_
  rintro e7 w7 ⟨rfl, v7, hr7, hv7, hf7⟩
  have R7 := Lib.hid hr7
  have V7 : Hid (∀ k, v7.ownBlock = some k → v.ownBlock = some k ∨ w0.heap.size ≤ k) := Lib.hid hv7
  have F7 := Lib.hid (show Fr (Stack.Foot g v) w0 w7 from Fr.trans (by repeat (first | exact Fr.refl _ _ | apply Fr.drewN | apply Fr.drew | apply Fr.alloc)) hf7 (fun i hi => .inl hi))
  clear hr7 hv7 hf7
  go_wp2_with fail
  refine bodyPost_end (v := .tuple #[]) (by simp [results, Tryd.results11, go_sem]) rfl ?_
  exact close_p F0.out R7.out V7.out F7.out

set_option maxRecDepth 100000 in
set_option maxHeartbeats 12800000 in
theorem pop_4_some (B g : Nat) (v : Value) (l : List (Int × Int)) (a b : Int) (room : Int) (over : Bool) (ws : List Nat) (i fr : Int) (w : World) (hB : B ≤ w.heap.size) (hr : R w B g v (l ++ [(a, b)]) room over ws) :
    Calls Tryd.prog 11 #[.pointer (some ⟨g, 0, none⟩), .agg #[.int .i64 4, .int .i64 i, .int .i64 fr]] w (RPost B g v l room over ws (.tuple #[]) w) := by
  have HB := Lib.hid hr
  have HS := Lib.hid hB
  go_enter Tryd.func11, Tryd.ntmps11
  go_upto_region 1 with (fail)
  have F0 := Lib.hid ((Fr.refl No w).alloc (.cells #[.int .i64 4, .int .i64 i, .int .i64 fr] 31))
  have X0 := Lib.hid (heap_alloc_new w (.cells #[.int .i64 4, .int .i64 i, .int .i64 fr] 31))
  have Z0 := Lib.hid (show (w.alloc (.cells #[.int .i64 4, .int .i64 i, .int .i64 fr] 31)).heap.size = w.heap.size + 1 by simp)
  generalize w.alloc (.cells #[.int .i64 4, .int .i64 i, .int .i64 fr] 31) = w0 at F0 X0 Z0 ⊢
  have b0 : w0.cell? ⟨w.heap.size, 0, none⟩ = some (.int .i64 4) := cell_of X0.out 0
  have b1 : w0.cell? ⟨w.heap.size, 1, none⟩ = some (.int .i64 i) := cell_of X0.out 1
  have b2 : w0.cell? ⟨w.heap.size, 2, none⟩ = some (.int .i64 fr) := cell_of X0.out 2
  have R0 := Lib.hid (HB.out.no F0.out)
  clear hr hB
  go_wp2_with fail
  with_reducible refine (Ref18.pop_some B g v l a b room over ws _ (by have := HS.out; have := Z0.out; omega) (R0.out.no (by repeat (first | exact Fr.refl _ _ | apply Fr.drewN | apply Fr.drew | apply Fr.alloc)))).mono ?_
  rintro e7 w7 ⟨rfl, v7, hr7, hv7, hf7⟩
  have R7 := Lib.hid hr7
  have V7 : Hid (∀ k, v7.ownBlock = some k → v.ownBlock = some k ∨ w0.heap.size ≤ k) := Lib.hid hv7
  have F7 := Lib.hid (show Fr (Stack.Foot g v) w0 w7 from Fr.trans (by repeat (first | exact Fr.refl _ _ | apply Fr.drewN | apply Fr.drew | apply Fr.alloc)) hf7 (fun i hi => .inl hi))
  clear hr7 hv7 hf7
  go_wp2_with fail
  refine bodyPost_end (v := .tuple #[]) (by simp [results, Tryd.results11, go_sem]) rfl ?_
  exact close_p F0.out R7.out V7.out F7.out

set_option maxRecDepth 100000 in
set_option maxHeartbeats 12800000 in
theorem pop_4_none (B g : Nat) (v : Value) (room : Int) (over : Bool) (ws : List Nat) (i fr : Int) (w : World) (hB : B ≤ w.heap.size) (hr : R w B g v [] room over ws) :
    Calls Tryd.prog 11 #[.pointer (some ⟨g, 0, none⟩), .agg #[.int .i64 4, .int .i64 i, .int .i64 fr]] w (RPost B g v [] room over ws (.tuple #[]) w) := by
  have HB := Lib.hid hr
  have HS := Lib.hid hB
  go_enter Tryd.func11, Tryd.ntmps11
  go_upto_region 1 with (fail)
  have F0 := Lib.hid ((Fr.refl No w).alloc (.cells #[.int .i64 4, .int .i64 i, .int .i64 fr] 31))
  have X0 := Lib.hid (heap_alloc_new w (.cells #[.int .i64 4, .int .i64 i, .int .i64 fr] 31))
  have Z0 := Lib.hid (show (w.alloc (.cells #[.int .i64 4, .int .i64 i, .int .i64 fr] 31)).heap.size = w.heap.size + 1 by simp)
  generalize w.alloc (.cells #[.int .i64 4, .int .i64 i, .int .i64 fr] 31) = w0 at F0 X0 Z0 ⊢
  have b0 : w0.cell? ⟨w.heap.size, 0, none⟩ = some (.int .i64 4) := cell_of X0.out 0
  have b1 : w0.cell? ⟨w.heap.size, 1, none⟩ = some (.int .i64 i) := cell_of X0.out 1
  have b2 : w0.cell? ⟨w.heap.size, 2, none⟩ = some (.int .i64 fr) := cell_of X0.out 2
  have R0 := Lib.hid (HB.out.no F0.out)
  clear hr hB
  go_wp2_with fail
  with_reducible refine (Ref18.pop_none B g v room over ws _ (R0.out.no (by repeat (first | exact Fr.refl _ _ | apply Fr.drewN | apply Fr.drew | apply Fr.alloc)))).mono ?_
  rintro e7 w7 ⟨rfl, hb7⟩
  have F7 := Lib.hid (show Fr No w0 w7 from Fr.then_below (by repeat (first | exact Fr.refl _ _ | apply Fr.drewN | apply Fr.drew | apply Fr.alloc)) hb7)
  clear hb7
  go_wp2_with fail
  refine bodyPost_end (v := .tuple #[]) (by simp [results, Tryd.results11, go_sem]) rfl ?_
  exact close_p F0.out (R0.out.no F7.out) (fun k hk => .inl hk) (F7.out.mono (fun _ h => h.elim))

set_option maxRecDepth 100000 in
set_option maxHeartbeats 12800000 in
theorem clear_3_neg (B g : Nat) (v : Value) (l : List (Int × Int)) (room : Int) (over : Bool) (ws : List Nat) (i fr : Int) (w : World) (hB : B ≤ w.heap.size) (hr : R w B g v l room over ws) (hi : i < 0) :
    Calls Tryd.prog 11 #[.pointer (some ⟨g, 0, none⟩), .agg #[.int .i64 3, .int .i64 i, .int .i64 fr]] w (RPost B g v l room over ws (.tuple #[]) w) := by
  have HB := Lib.hid hr
  have HS := Lib.hid hB
  have g1 : decide (0 ≤ i) = false := by simp; omega
  clear hi
  go_enter Tryd.func11, Tryd.ntmps11
  go_upto_region 1 with (fail)
  have F0 := Lib.hid ((Fr.refl No w).alloc (.cells #[.int .i64 3, .int .i64 i, .int .i64 fr] 31))
  have X0 := Lib.hid (heap_alloc_new w (.cells #[.int .i64 3, .int .i64 i, .int .i64 fr] 31))
  have Z0 := Lib.hid (show (w.alloc (.cells #[.int .i64 3, .int .i64 i, .int .i64 fr] 31)).heap.size = w.heap.size + 1 by simp)
  generalize w.alloc (.cells #[.int .i64 3, .int .i64 i, .int .i64 fr] 31) = w0 at F0 X0 Z0 ⊢
  have b0 : w0.cell? ⟨w.heap.size, 0, none⟩ = some (.int .i64 3) := cell_of X0.out 0
  have b1 : w0.cell? ⟨w.heap.size, 1, none⟩ = some (.int .i64 i) := cell_of X0.out 1
  have b2 : w0.cell? ⟨w.heap.size, 2, none⟩ = some (.int .i64 fr) := cell_of X0.out 2
  have R0 := Lib.hid (HB.out.no F0.out)
  clear hr hB
  go_wp2_with fail
  refine bodyPost_end (v := .tuple #[]) (by simp [results, Tryd.results11, go_sem]) rfl ?_
  exact close_p F0.out (R0.out.no (by repeat (first | exact Fr.refl _ _ | apply Fr.drewN | apply Fr.drew | apply Fr.alloc))) (fun k hk => .inl hk) (Fr.mono (S := No) (by repeat (first | exact Fr.refl _ _ | apply Fr.drewN | apply Fr.drew | apply Fr.alloc)) (fun _ h => h.elim))

set_option maxRecDepth 100000 in
set_option maxHeartbeats 12800000 in
theorem clear_3_far (B g : Nat) (v : Value) (l : List (Int × Int)) (room : Int) (over : Bool) (ws : List Nat) (i fr : Int) (w : World) (hB : B ≤ w.heap.size) (hr : R w B g v l room over ws) (hi : 2048 ≤ i) :
    Calls Tryd.prog 11 #[.pointer (some ⟨g, 0, none⟩), .agg #[.int .i64 3, .int .i64 i, .int .i64 fr]] w (RPost B g v l room over ws (.tuple #[]) w) := by
  have HB := Lib.hid hr
  have HS := Lib.hid hB
  have g1 : decide (0 ≤ i) = true := by simp; omega
  have g2 : decide (i < 2048) = false := by simp; omega
  clear hi
  go_enter Tryd.func11, Tryd.ntmps11
  go_upto_region 1 with (fail)
  have F0 := Lib.hid ((Fr.refl No w).alloc (.cells #[.int .i64 3, .int .i64 i, .int .i64 fr] 31))
  have X0 := Lib.hid (heap_alloc_new w (.cells #[.int .i64 3, .int .i64 i, .int .i64 fr] 31))
  have Z0 := Lib.hid (show (w.alloc (.cells #[.int .i64 3, .int .i64 i, .int .i64 fr] 31)).heap.size = w.heap.size + 1 by simp)
  generalize w.alloc (.cells #[.int .i64 3, .int .i64 i, .int .i64 fr] 31) = w0 at F0 X0 Z0 ⊢
  have b0 : w0.cell? ⟨w.heap.size, 0, none⟩ = some (.int .i64 3) := cell_of X0.out 0
  have b1 : w0.cell? ⟨w.heap.size, 1, none⟩ = some (.int .i64 i) := cell_of X0.out 1
  have b2 : w0.cell? ⟨w.heap.size, 2, none⟩ = some (.int .i64 fr) := cell_of X0.out 2
  have R0 := Lib.hid (HB.out.no F0.out)
  clear hr hB
  go_wp2_with fail
  refine bodyPost_end (v := .tuple #[]) (by simp [results, Tryd.results11, go_sem]) rfl ?_
  exact close_p F0.out (R0.out.no (by repeat (first | exact Fr.refl _ _ | apply Fr.drewN | apply Fr.drew | apply Fr.alloc))) (fun k hk => .inl hk) (Fr.mono (S := No) (by repeat (first | exact Fr.refl _ _ | apply Fr.drewN | apply Fr.drew | apply Fr.alloc)) (fun _ h => h.elim))

set_option maxRecDepth 100000 in
set_option maxHeartbeats 12800000 in
theorem clear_3_in (B g : Nat) (v : Value) (l : List (Int × Int)) (room : Int) (over : Bool) (ws : List Nat) (i fr : Int) (w : World) (hB : B ≤ w.heap.size) (hr : R w B g v l room over ws) (k : Nat) (hk : k < 2048) (hi : i = (k : Int)) :
    Calls Tryd.prog 11 #[.pointer (some ⟨g, 0, none⟩), .agg #[.int .i64 3, .int .i64 i, .int .i64 fr]] w (RPost B g v l room over (remB ws k) (.tuple #[]) w) := by
  have HB := Lib.hid hr
  have HS := Lib.hid hB
  subst hi
  have i1 : (0 : Int) ≤ (k : Int) := Int.natCast_nonneg _
  have i2 : (k : Int) < 2048 := by omega
  have HK := Lib.hid hk
  clear hk
  go_enter Tryd.func11, Tryd.ntmps11
  go_upto_region 1 with (fail)
  have F0 := Lib.hid ((Fr.refl No w).alloc (.cells #[.int .i64 3, .int .i64 (k : Int), .int .i64 fr] 31))
  have X0 := Lib.hid (heap_alloc_new w (.cells #[.int .i64 3, .int .i64 (k : Int), .int .i64 fr] 31))
  have Z0 := Lib.hid (show (w.alloc (.cells #[.int .i64 3, .int .i64 (k : Int), .int .i64 fr] 31)).heap.size = w.heap.size + 1 by simp)
  generalize w.alloc (.cells #[.int .i64 3, .int .i64 (k : Int), .int .i64 fr] 31) = w0 at F0 X0 Z0 ⊢
  have b0 : w0.cell? ⟨w.heap.size, 0, none⟩ = some (.int .i64 3) := cell_of X0.out 0
  have b1 : w0.cell? ⟨w.heap.size, 1, none⟩ = some (.int .i64 (k : Int)) := cell_of X0.out 1
  have b2 : w0.cell? ⟨w.heap.size, 2, none⟩ = some (.int .i64 fr) := cell_of X0.out 2
  have R0 := Lib.hid (HB.out.no F0.out)
  clear hr hB
  obtain ⟨m0, y0⟩ := R0.out.mark k HK.out
  go_wp2_with fail
  go_region
  refine bodyPost_end (v := .tuple #[]) (by simp [results, Tryd.results11, go_sem]) rfl ?_
  have hq : R (w0.setCell ⟨g, k, none⟩ (.bool false)) B g v l room over (remB ws k) := R0.out.marked k false HK.out (R0.out.ok.rem k HK.out) (fun j hj => by
    rw [has_rem ws k j (by rw [R0.out.ok.len]; have := HK.out; omega)]
    by_cases e : j = k
    · subst e; simp
    · rw [if_neg e, decide_eq_true e, Bool.and_true])
  exact close_p F0.out (hq.no (Fr.drew (Fr.refl No _))) (fun k hk => .inl hk) (((Fr.refl (Stack.Foot g v) w0).setCell (p := ⟨g, k, none⟩) (.inl (.inl rfl)) (.bool false)).drew)

set_option maxRecDepth 100000 in
set_option maxHeartbeats 12800000 in
theorem settle_6 (B g : Nat) (v : Value) (l : List (Int × Int)) (room : Int) (over : Bool) (ws : List Nat) (i fr : Int) (w : World) (hB : B ≤ w.heap.size) (hr : R w B g v l room over ws) :
    Calls Tryd.prog 11 #[.pointer (some ⟨g, 0, none⟩), .agg #[.int .i64 6, .int .i64 i, .int .i64 fr]] w (RPost B g v l room false ws (.tuple #[]) w) := by
  have HB := Lib.hid hr
  have HS := Lib.hid hB
  go_enter Tryd.func11, Tryd.ntmps11
  go_upto_region 1 with (fail)
  have F0 := Lib.hid ((Fr.refl No w).alloc (.cells #[.int .i64 6, .int .i64 i, .int .i64 fr] 31))
  have X0 := Lib.hid (heap_alloc_new w (.cells #[.int .i64 6, .int .i64 i, .int .i64 fr] 31))
  have Z0 := Lib.hid (show (w.alloc (.cells #[.int .i64 6, .int .i64 i, .int .i64 fr] 31)).heap.size = w.heap.size + 1 by simp)
  generalize w.alloc (.cells #[.int .i64 6, .int .i64 i, .int .i64 fr] 31) = w0 at F0 X0 Z0 ⊢
  have b0 : w0.cell? ⟨w.heap.size, 0, none⟩ = some (.int .i64 6) := cell_of X0.out 0
  have b1 : w0.cell? ⟨w.heap.size, 1, none⟩ = some (.int .i64 i) := cell_of X0.out 1
  have b2 : w0.cell? ⟨w.heap.size, 2, none⟩ = some (.int .i64 fr) := cell_of X0.out 2
  have R0 := Lib.hid (HB.out.no F0.out)
  clear hr hB
  have c0 := R0.out.rest.2.2
  have y9 := free_of R0.out.blk 2050
  go_wp2_with fail
  refine bodyPost_end (v := .tuple #[]) (by simp [results, Tryd.results11, go_sem]) rfl ?_
  have h := R0.out
  exact close_p F0.out ⟨by rw [set_of h.blk, rc_tail (over' := false) (v' := v) 2050 (.bool false) (by omega) (by omega) rfl], own_setCell h.own h.ne _, h.base, h.r0, h.r1, h.len, h.ok⟩ (fun k hk => .inl hk) (Fr.setCell (S := Stack.Foot g v) (Fr.refl _ w0) (p := ⟨g, 2050, none⟩) (.inl (.inl rfl)) _)

set_option maxRecDepth 100000 in
set_option maxHeartbeats 12800000 in
theorem else_7 (B g : Nat) (v : Value) (l : List (Int × Int)) (room : Int) (over : Bool) (ws : List Nat) (kd : Int) (i fr : Int) (w : World) (hB : B ≤ w.heap.size) (hr : R w B g v l room over ws) (h1 : kd ≠ 1) (h2 : kd ≠ 2) (h3 : kd ≠ 3) (h4 : kd ≠ 4) (h5 : kd ≠ 5) (h6 : kd ≠ 6) :
    Calls Tryd.prog 11 #[.pointer (some ⟨g, 0, none⟩), .agg #[.int .i64 kd, .int .i64 i, .int .i64 fr]] w (RPost B g v l room over ws (.tuple #[]) w) := by
  have HB := Lib.hid hr
  have HS := Lib.hid hB
  have e1 : (kd == 1) = false := by simpa using h1
  have e2 : (kd == 2) = false := by simpa using h2
  have e3 : (kd == 3) = false := by simpa using h3
  have e4 : (kd == 4) = false := by simpa using h4
  have e5 : (kd == 5) = false := by simpa using h5
  have e6 : (kd == 6) = false := by simpa using h6
  clear h1 h2 h3 h4 h5 h6
  go_enter Tryd.func11, Tryd.ntmps11
  go_upto_region 1 with (fail)
  have F0 := Lib.hid ((Fr.refl No w).alloc (.cells #[.int .i64 kd, .int .i64 i, .int .i64 fr] 31))
  have X0 := Lib.hid (heap_alloc_new w (.cells #[.int .i64 kd, .int .i64 i, .int .i64 fr] 31))
  have Z0 := Lib.hid (show (w.alloc (.cells #[.int .i64 kd, .int .i64 i, .int .i64 fr] 31)).heap.size = w.heap.size + 1 by simp)
  generalize w.alloc (.cells #[.int .i64 kd, .int .i64 i, .int .i64 fr] 31) = w0 at F0 X0 Z0 ⊢
  have b0 : w0.cell? ⟨w.heap.size, 0, none⟩ = some (.int .i64 kd) := cell_of X0.out 0
  have b1 : w0.cell? ⟨w.heap.size, 1, none⟩ = some (.int .i64 i) := cell_of X0.out 1
  have b2 : w0.cell? ⟨w.heap.size, 2, none⟩ = some (.int .i64 fr) := cell_of X0.out 2
  have R0 := Lib.hid (HB.out.no F0.out)
  clear hr hB
  go_wp2_with fail
  refine bodyPost_end (v := .tuple #[]) (by simp [results, Tryd.results11, go_sem]) rfl ?_
  exact close_p F0.out (R0.out.no (by repeat (first | exact Fr.refl _ _ | apply Fr.drewN | apply Fr.drew | apply Fr.alloc))) (fun k hk => .inl hk) (Fr.mono (S := No) (by repeat (first | exact Fr.refl _ _ | apply Fr.drewN | apply Fr.drew | apply Fr.alloc)) (fun _ h => h.elim))

theorem replay_any (B g : Nat) (v : Value) (room : Int) (s : List (Int × Int) × Bool × List Nat) (kd i fr : Int) (w : World) (hB : B ≤ w.heap.size) (h : R w B g v s.1 room s.2.1 s.2.2) :
    Calls Tryd.prog 11 #[.pointer (some ⟨g, 0, none⟩), .agg #[.int .i64 kd, .int .i64 i, .int .i64 fr]] w (RPost B g v (nx room s (kd, i, fr)).1 room (nx room s (kd, i, fr)).2.1 (nx room s (kd, i, fr)).2.2 (.tuple #[]) w) := by
  obtain ⟨l, over, ws⟩ := s
  dsimp only at h
  by_cases h1 : kd = 1
  · subst h1; exact shade_1 B g v l room over ws i fr w hB h
  by_cases h2 : kd = 2
  · subst h2; exact black_2 B g v l room over ws i fr w hB h
  by_cases h3 : kd = 3
  · subst h3
    have e : nx room (l, over, ws) (3, i, fr) = (l, over, Bitmap.remW 2048 ws i) := rfl
    rw [e]
    rcases in_cases i with hi | hi | ⟨k, hk, hi⟩
    · rw [rem_out ws i (has_neg ws i hi)]; exact clear_3_neg B g v l room over ws i fr w hB h hi
    · rw [rem_out ws i (has_far ws i hi)]; exact clear_3_far B g v l room over ws i fr w hB h hi
    · cases hh : has ws k with
      | false =>
        rw [hi, rem_out ws k (has_zero ws k hh), ← hi]
        have h2 := clear_3_in B g v l room over ws i fr w hB h k hk hi
        have hc : ∀ j, j < 2048 → has (remB ws k) j = has ws j := fun j hj => by
          rw [has_rem ws k j (by rw [h.ok.len]; omega)]
          by_cases e : j = k
          · subst e; rw [hh]; rfl
          · rw [decide_eq_true e, Bool.and_true]
        refine h2.mono ?_
        rintro e w' ⟨rfl, v', hr', q2, q3⟩
        exact ⟨rfl, v', ⟨by rw [hr'.blk, rc_congr v' room over hc], hr'.own, hr'.base, hr'.r0, hr'.r1, hr'.len, h.ok⟩, q2, q3⟩
      | true => rw [hi, rem_in ws k hk hh, ← hi]; exact clear_3_in B g v l room over ws i fr w hB h k hk hi
  by_cases h4 : kd = 4
  · subst h4
    rcases l_cases l with rfl | ⟨l', a, b, rfl⟩
    · exact pop_4_none B g v room over ws i fr w hB h
    · have e : nx room (l' ++ [(a, b)], over, ws) (4, i, fr) = (l', over, ws) := by
        show ((l' ++ [(a, b)]).dropLast, over, ws) = _
        rw [List.dropLast_concat]
      rw [e]
      exact pop_4_some B g v l' a b room over ws i fr w hB h
  by_cases h5 : kd = 5
  · subst h5; exact push_5 B g v l room over ws i fr w hB h
  by_cases h6 : kd = 6
  · subst h6; exact settle_6 B g v l room over ws i fr w hB h
  · have e : nx room (l, over, ws) (kd, i, fr) = (l, over, ws) := by
      unfold nx
      dsimp only
      rw [if_neg h1, if_neg h2, if_neg h3, if_neg h4, if_neg h5, if_neg h6]
    rw [e]
    exact else_7 B g v l room over ws kd i fr w hB h h1 h2 h3 h4 h5 h6

end Go.Proofs.YtoipjmhfeggdeaaDoor.ShadeReplay
