/- Proved: what one call of a script of package scutagelaw18 does to a grey and to the reference's, and that they agree: clearing a mark that is there, going on, settling; and any call. -/
import Derived.Test.YtoipjmhfeggdeaaDoorShadeStep
namespace Go.Proofs.YtoipjmhfeggdeaaDoor.ShadeStep
open Go.RowKit Go.Proofs.YtoipjmhfeggdeaaDoor.H Go.Proofs.YtoipjmhfeggdeaaDoor.Nums Go.Proofs.YtoipjmhfeggdeaaDoor.BitPure Go.Proofs.YtoipjmhfeggdeaaDoor.Shade Go.Proofs.YtoipjmhfeggdeaaDoor.Ref18 Go.Proofs.YtoipjmhfeggdeaaDoor.ShadeBoth
set_option linter.unusedVariables false
set_option linter.unusedSimpArgs false
attribute [local irreducible] elems from_ nxt elemsN rc zCells

set_option maxRecDepth 100000 in
set_option maxHeartbeats 12800000 in
theorem clear_3_in0 (B gg gm : Nat) (P : Pl) (v vm : Value) (l : List (Int × Int)) (room : Int) (over : Bool) (ws : List Nat) (i fr : Int) (w : World) (hb : Both w B gg gm P v vm l room over ws) (k : Nat) (hk : k < 2048) (hi : i = (k : Int)) (hh : has ws k = false) :
    Calls Tryd.prog 9 #[.pointer (some ⟨gg, 0, none⟩), .pointer (some ⟨gm, 0, none⟩), .agg #[.int .i64 3, .int .i64 i, .int .i64 fr]] w (StepPost B gg gm P v vm room (l, over, ws) w) := by
  have HB := Lib.hid hb
  subst hi
  have i1 : (0 : Int) ≤ (k : Int) := Int.natCast_nonneg _
  have i2 : (k : Int) < 2048 := by omega
  have HBK := Lib.hid hh
  have HK := Lib.hid hk
  have HMK : Hid (Bitmap.hasI 2048 ws (k : Int) = false) := Lib.hid (by unfold Bitmap.hasI; rw [decide_eq_true i1, decide_eq_true (show (k : Int) < ((2048 : Nat) : Int) from i2)]; simp [hh])
  clear hk hh
  go_enter Tryd.func9, Tryd.ntmps9
  go_upto_region 1 with (fail)
  have F0 := Lib.hid ((Fr.refl No w).alloc (.cells #[.int .i64 3, .int .i64 (k : Int), .int .i64 fr] 31))
  have X0 := Lib.hid (heap_alloc_new w (.cells #[.int .i64 3, .int .i64 (k : Int), .int .i64 fr] 31))
  generalize w.alloc (.cells #[.int .i64 3, .int .i64 (k : Int), .int .i64 fr] 31) = w0 at F0 X0 ⊢
  have b0 : w0.cell? ⟨w.heap.size, 0, none⟩ = some (.int .i64 3) := cell_of X0.out 0
  have b1 : w0.cell? ⟨w.heap.size, 1, none⟩ = some (.int .i64 (k : Int)) := cell_of X0.out 1
  have b2 : w0.cell? ⟨w.heap.size, 2, none⟩ = some (.int .i64 fr) := cell_of X0.out 2
  have C1 := Lib.hid b1
  have C2 := Lib.hid b2
  have n0 := World.new_ne w0 _ b0
  have B0 := Lib.hid (HB.out.no F0.out)
  have NG := Lib.hid (show ¬ P.foot v w.heap.size from fun h => by have := (HB.out.g.lt _ (.inr (.inr h))).2; omega)
  have NF := Lib.hid (show ¬ feet gm P v vm w.heap.size from fun h => by have := (HB.out.low _ h).2; omega)
  clear hb
  obtain ⟨m0, y0⟩ := B0.out.r.mark k HK.out
  rw [HBK.out] at m0
  go_wp2_with fail
  go_quiet (fail)
  go_wp2_with fail
  with_reducible refine (clearS_any B gg P v l room over ws (k : Int) _ (B0.out.no (by repeat (first | exact Fr.refl _ _ | apply Fr.drewN | apply Fr.drew | apply Fr.alloc))).g).mono ?_
  rintro e7 w7 ⟨rfl, v7, hg7, hv7, hf7⟩
  have HRW : Hid (Bitmap.remW 2048 ws (k : Int) = ws) := Lib.hid (by unfold Bitmap.remW; rw [HMK.out]; rfl)
  rw [HRW.out] at hg7
  rw [HMK.out]
  have G7 := Lib.hid hg7
  have V7 : Hid (v7.ownBlock = v.ownBlock ∨ ∃ k, v7.ownBlock = some k ∧ w0.heap.size ≤ k) := Lib.hid hv7
  have F7c := Lib.hid (show Fr (P.foot v) w0 w7 from Fr.trans (by repeat (first | exact Fr.refl _ _ | apply Fr.drewN | apply Fr.drew | apply Fr.alloc)) hf7 (fun i hi => .inl hi))
  have R7 := Lib.hid (B0.out.r.fr F7c.out (fun k hk h => sep B0.out.g B0.out.r k hk (.inr (.inr h))))
  clear hg7 hv7 hf7
  go_wp2_with fail
  go_ret
  exact close HB.out F0.out G7.out V7.out F7c.out R7.out (fun k hk => .inl hk) (Fr.refl _ _) (Fr.refl _ _)

set_option maxRecDepth 100000 in
set_option maxHeartbeats 12800000 in
theorem clear_3_in1 (B gg gm : Nat) (P : Pl) (v vm : Value) (l : List (Int × Int)) (room : Int) (over : Bool) (ws : List Nat) (i fr : Int) (w : World) (hb : Both w B gg gm P v vm l room over ws) (k : Nat) (hk : k < 2048) (hi : i = (k : Int)) (hh : has ws k = true) :
    Calls Tryd.prog 9 #[.pointer (some ⟨gg, 0, none⟩), .pointer (some ⟨gm, 0, none⟩), .agg #[.int .i64 3, .int .i64 i, .int .i64 fr]] w (StepPost B gg gm P v vm room (l, over, remB ws k) w) := by
  have HB := Lib.hid hb
  subst hi
  have i1 : (0 : Int) ≤ (k : Int) := Int.natCast_nonneg _
  have i2 : (k : Int) < 2048 := by omega
  have HBK := Lib.hid hh
  have HK := Lib.hid hk
  have HMK : Hid (Bitmap.hasI 2048 ws (k : Int) = true) := Lib.hid (by unfold Bitmap.hasI; rw [decide_eq_true i1, decide_eq_true (show (k : Int) < ((2048 : Nat) : Int) from i2)]; simp [hh])
  clear hk hh
  go_enter Tryd.func9, Tryd.ntmps9
  go_upto_region 1 with (fail)
  have F0 := Lib.hid ((Fr.refl No w).alloc (.cells #[.int .i64 3, .int .i64 (k : Int), .int .i64 fr] 31))
  have X0 := Lib.hid (heap_alloc_new w (.cells #[.int .i64 3, .int .i64 (k : Int), .int .i64 fr] 31))
  generalize w.alloc (.cells #[.int .i64 3, .int .i64 (k : Int), .int .i64 fr] 31) = w0 at F0 X0 ⊢
  have b0 : w0.cell? ⟨w.heap.size, 0, none⟩ = some (.int .i64 3) := cell_of X0.out 0
  have b1 : w0.cell? ⟨w.heap.size, 1, none⟩ = some (.int .i64 (k : Int)) := cell_of X0.out 1
  have b2 : w0.cell? ⟨w.heap.size, 2, none⟩ = some (.int .i64 fr) := cell_of X0.out 2
  have C1 := Lib.hid b1
  have C2 := Lib.hid b2
  have n0 := World.new_ne w0 _ b0
  have B0 := Lib.hid (HB.out.no F0.out)
  have NG := Lib.hid (show ¬ P.foot v w.heap.size from fun h => by have := (HB.out.g.lt _ (.inr (.inr h))).2; omega)
  have NF := Lib.hid (show ¬ feet gm P v vm w.heap.size from fun h => by have := (HB.out.low _ h).2; omega)
  clear hb
  obtain ⟨m0, y0⟩ := B0.out.r.mark k HK.out
  rw [HBK.out] at m0
  go_wp2_with fail
  go_quiet (fail)
  go_wp2_with fail
  go_region
  have hq : R ((w0.drewN (nq + 1)).setCell ⟨gm, k, none⟩ (.bool false)) B gm vm l room over (remB ws k) := (B0.out.r.no ((Fr.refl No w0).drewN (nq + 1))).marked k false HK.out (B0.out.r.ok.rem k HK.out) (fun j hj => by
    rw [has_rem ws k j (by rw [B0.out.r.ok.len]; have := HK.out; omega)]
    by_cases e : j = k
    · subst e; simp
    · rw [if_neg e, decide_eq_true e, Bool.and_true])
  have R1 := Lib.hid hq
  have F1 := Lib.hid (show Fr (Stack.Foot gm vm) w0 ((w0.drewN (nq + 1)).setCell ⟨gm, k, none⟩ (.bool false)) from ((Fr.refl _ w0).drewN (nq + 1)).setCell (p := ⟨gm, k, none⟩) (.inl (.inl rfl)) _)
  have HW : Hid (Bitmap.remW 2048 ws (k : Int) = remB ws k) := Lib.hid (by unfold Bitmap.remW; rw [HMK.out, if_pos rfl]; congr 1)
  clear hq
  have c1 : ((w0.drewN (nq + 1)).setCell ⟨gm, k, none⟩ (.bool false)).cell? ⟨w.heap.size, 1, none⟩ = some (.int .i64 (k : Int)) := F1.out.cell C1.out (fun h => NF.out (.inr h))
  generalize (w0.drewN (nq + 1)).setCell ⟨gm, k, none⟩ (.bool false) = w1 at R1 F1 c1 ⊢
  have G1 := Lib.hid (B0.out.g.fr F1.out (fun k hk h => sep B0.out.g B0.out.r k h hk))
  clear m0 y0 b0 b1 b2
  go_wp2_with fail
  with_reducible refine (clearS_any B gg P v l room over ws (k : Int) _ (G1.out.no (by repeat (first | exact Fr.refl _ _ | apply Fr.drewN | apply Fr.drew | apply Fr.alloc)))).mono ?_
  rintro e7 w7 ⟨rfl, v7, hg7, hv7, hf7⟩
  rw [HW.out] at hg7
  rw [HMK.out]
  have G7 := Lib.hid hg7
  have V7 : Hid (v7.ownBlock = v.ownBlock ∨ ∃ k, v7.ownBlock = some k ∧ w1.heap.size ≤ k) := Lib.hid hv7
  have F7c := Lib.hid (show Fr (P.foot v) w1 w7 from Fr.trans (by repeat (first | exact Fr.refl _ _ | apply Fr.drewN | apply Fr.drew | apply Fr.alloc)) hf7 (fun i hi => .inl hi))
  clear hg7 hv7 hf7
  go_wp2_with fail
  go_ret
  exact close_r HB.out F0.out R1.out (fun k hk => .inl hk) F1.out G7.out V7.out F7c.out (Fr.refl _ _)

set_option maxRecDepth 100000 in
set_option maxHeartbeats 12800000 in
theorem next_4_none_neg (B gg gm : Nat) (P : Pl) (v vm : Value) (room : Int) (over : Bool) (ws : List Nat) (i fr : Int) (w : World) (hb : Both w B gg gm P v vm [] room over ws) (hi : i < 0) :
    Calls Tryd.prog 9 #[.pointer (some ⟨gg, 0, none⟩), .pointer (some ⟨gm, 0, none⟩), .agg #[.int .i64 4, .int .i64 i, .int .i64 fr]] w (StepPost B gg gm P v vm room ([], over, ws) w) := by
  have HB := Lib.hid hb
  have HMK : Hid (Bitmap.hasI 2048 ws i = false) := Lib.hid (by unfold Bitmap.hasI; rw [decide_eq_false (show ¬ 0 ≤ i by omega)]; rfl)
  have g1 : decide (0 ≤ i) = false := by simp; omega
  clear hi
  go_enter Tryd.func9, Tryd.ntmps9
  go_upto_region 1 with (fail)
  have F0 := Lib.hid ((Fr.refl No w).alloc (.cells #[.int .i64 4, .int .i64 i, .int .i64 fr] 31))
  have X0 := Lib.hid (heap_alloc_new w (.cells #[.int .i64 4, .int .i64 i, .int .i64 fr] 31))
  generalize w.alloc (.cells #[.int .i64 4, .int .i64 i, .int .i64 fr] 31) = w0 at F0 X0 ⊢
  have b0 : w0.cell? ⟨w.heap.size, 0, none⟩ = some (.int .i64 4) := cell_of X0.out 0
  have b1 : w0.cell? ⟨w.heap.size, 1, none⟩ = some (.int .i64 i) := cell_of X0.out 1
  have b2 : w0.cell? ⟨w.heap.size, 2, none⟩ = some (.int .i64 fr) := cell_of X0.out 2
  have C1 := Lib.hid b1
  have C2 := Lib.hid b2
  have n0 := World.new_ne w0 _ b0
  have B0 := Lib.hid (HB.out.no F0.out)
  have NG := Lib.hid (show ¬ P.foot v w.heap.size from fun h => by have := (HB.out.g.lt _ (.inr (.inr h))).2; omega)
  have NF := Lib.hid (show ¬ feet gm P v vm w.heap.size from fun h => by have := (HB.out.low _ h).2; omega)
  clear hb
  go_wp2_with fail
  go_quiet (fail)
  go_wp2_with fail
  with_reducible refine (next_none B gg P v room over ws _ (B0.out.no (by repeat (first | exact Fr.refl _ _ | apply Fr.drewN | apply Fr.drew | apply Fr.alloc))).g).mono ?_
  rintro e7 w7 ⟨rfl, hb7⟩
  have F7 := Lib.hid (show Fr No w0 w7 from Fr.then_below (by repeat (first | exact Fr.refl _ _ | apply Fr.drewN | apply Fr.drew | apply Fr.alloc)) hb7)
  clear hb7
  go_wp2_with fail
  have X7 := Lib.hid (heap_alloc_new w7 (.cells #[.int .i64 0, .int .i64 0] 41))
  have F8 := Lib.hid (F7.out.alloc (.cells #[.int .i64 0, .int .i64 0] 41))
  have L8 := Lib.hid (show w7.heap.size < (w7.alloc (.cells #[.int .i64 0, .int .i64 0] 41)).heap.size by simp)
  generalize w7.alloc (.cells #[.int .i64 0, .int .i64 0] 41) = w8 at X7 F8 L8 ⊢
  with_reducible refine (pop_none B gm vm room over ws _ (B0.out.no F8.out).r).mono ?_
  rintro e9 w9 ⟨rfl, hb9⟩
  have F9 := Lib.hid (show Fr No w0 w9 from F8.out.then_below hb9)
  have X9 := Lib.hid ((hb9.block _ L8.out).trans X7.out)
  have x0 : (w9.alloc (.cells #[.int .i64 0, .int .i64 0] 59)).cell? ⟨w7.heap.size, 0, none⟩ = some (.int .i64 0) := cell_of (alloc_of X9.out _) 0
  have x1 : (w9.alloc (.cells #[.int .i64 0, .int .i64 0] 59)).cell? ⟨w7.heap.size, 1, none⟩ = some (.int .i64 0) := cell_of (alloc_of X9.out _) 1
  have n9 : w9.heap.size ≠ w7.heap.size := by have := hb9.size; have := L8.out; omega
  clear hb9
  go_wp2_with fail
  go_ret
  exact ⟨rfl, v, vm, (HB.out.no F0.out).no (F9.out.alloc _), fun k hk => .inl hk, ((F0.out.trans F9.out (fun i (h : No i) => h.elim)).alloc _).mono (fun _ h => h.elim)⟩

set_option maxRecDepth 100000 in
set_option maxHeartbeats 12800000 in
theorem next_4_some_neg (B gg gm : Nat) (P : Pl) (v vm : Value) (l : List (Int × Int)) (a b : Int) (room : Int) (over : Bool) (ws : List Nat) (i fr : Int) (w : World) (hb : Both w B gg gm P v vm (l ++ [(a, b)]) room over ws) (hi : i < 0) :
    Calls Tryd.prog 9 #[.pointer (some ⟨gg, 0, none⟩), .pointer (some ⟨gm, 0, none⟩), .agg #[.int .i64 4, .int .i64 i, .int .i64 fr]] w (StepPost B gg gm P v vm room (l, over, ws) w) := by
  have HB := Lib.hid hb
  have ga : (a == a) = true := by simp
  have gb2 : (b == b) = true := by simp
  have HMK : Hid (Bitmap.hasI 2048 ws i = false) := Lib.hid (by unfold Bitmap.hasI; rw [decide_eq_false (show ¬ 0 ≤ i by omega)]; rfl)
  have g1 : decide (0 ≤ i) = false := by simp; omega
  clear hi
  go_enter Tryd.func9, Tryd.ntmps9
  go_upto_region 1 with (fail)
  have F0 := Lib.hid ((Fr.refl No w).alloc (.cells #[.int .i64 4, .int .i64 i, .int .i64 fr] 31))
  have X0 := Lib.hid (heap_alloc_new w (.cells #[.int .i64 4, .int .i64 i, .int .i64 fr] 31))
  generalize w.alloc (.cells #[.int .i64 4, .int .i64 i, .int .i64 fr] 31) = w0 at F0 X0 ⊢
  have b0 : w0.cell? ⟨w.heap.size, 0, none⟩ = some (.int .i64 4) := cell_of X0.out 0
  have b1 : w0.cell? ⟨w.heap.size, 1, none⟩ = some (.int .i64 i) := cell_of X0.out 1
  have b2 : w0.cell? ⟨w.heap.size, 2, none⟩ = some (.int .i64 fr) := cell_of X0.out 2
  have C1 := Lib.hid b1
  have C2 := Lib.hid b2
  have n0 := World.new_ne w0 _ b0
  have B0 := Lib.hid (HB.out.no F0.out)
  have NG := Lib.hid (show ¬ P.foot v w.heap.size from fun h => by have := (HB.out.g.lt _ (.inr (.inr h))).2; omega)
  have NF := Lib.hid (show ¬ feet gm P v vm w.heap.size from fun h => by have := (HB.out.low _ h).2; omega)
  clear hb
  go_wp2_with fail
  go_quiet (fail)
  go_wp2_with fail
  with_reducible refine (next_some B gg P v l a b room over ws _ (B0.out.no (by repeat (first | exact Fr.refl _ _ | apply Fr.drewN | apply Fr.drew | apply Fr.alloc))).g).mono ?_
  rintro e7 w7 ⟨rfl, v7, hg7, hv7, hf7⟩
  have G7 := Lib.hid hg7
  have V7 : Hid (v7.ownBlock = v.ownBlock ∨ ∃ k, v7.ownBlock = some k ∧ w0.heap.size ≤ k) := Lib.hid hv7
  have F7c := Lib.hid (show Fr (P.foot v) w0 w7 from Fr.trans (by repeat (first | exact Fr.refl _ _ | apply Fr.drewN | apply Fr.drew | apply Fr.alloc)) hf7 (fun i hi => .inl hi))
  have R7 := Lib.hid (B0.out.r.fr F7c.out (fun k hk h => sep B0.out.g B0.out.r k hk (.inr (.inr h))))
  clear hg7 hv7 hf7
  go_wp2_with fail
  have X7 := Lib.hid (heap_alloc_new w7 (.cells #[.int .i64 a, .int .i64 b] 41))
  have F8 := Lib.hid ((Fr.refl No w7).alloc (.cells #[.int .i64 a, .int .i64 b] 41))
  have L8 := Lib.hid (show (w7.alloc (.cells #[.int .i64 a, .int .i64 b] 41)).heap.size = w7.heap.size + 1 by simp)
  generalize w7.alloc (.cells #[.int .i64 a, .int .i64 b] 41) = w8 at X7 F8 L8 ⊢
  with_reducible refine (pop_some B gm vm l a b room over ws _ (by have := B0.out.r.base; have := lt_of_blk B0.out.r.blk; have := F7c.out.size; have := L8.out; omega) (R7.out.no F8.out)).mono ?_
  rintro e9 w9 ⟨rfl, v9, hr9, hv9, hf9⟩
  have NB : ¬ Stack.Foot gm vm w7.heap.size := fun h => by have := (R7.out.foot_lt _ h).2; omega
  have X9 := Lib.hid (hf9.blk X7.out NB)
  have F9 := Lib.hid (show Fr (Stack.Foot gm vm) w8 w9 from hf9)
  have R9 := Lib.hid hr9
  have V9 : Hid (∀ k, v9.ownBlock = some k → vm.ownBlock = some k ∨ w8.heap.size ≤ k) := Lib.hid hv9
  have x0 : (w9.alloc (.cells #[.int .i64 a, .int .i64 b] 59)).cell? ⟨w7.heap.size, 0, none⟩ = some (.int .i64 a) := cell_of (alloc_of X9.out _) 0
  have x1 : (w9.alloc (.cells #[.int .i64 a, .int .i64 b] 59)).cell? ⟨w7.heap.size, 1, none⟩ = some (.int .i64 b) := cell_of (alloc_of X9.out _) 1
  have n9 : w9.heap.size ≠ w7.heap.size := by have := hf9.size; have := L8.out; omega
  clear hr9 hv9 hf9 NB
  go_wp2_with fail
  go_ret
  exact close HB.out F0.out (G7.out.no F8.out) V7.out (F7c.out.trans F8.out (fun i (h : No i) => h.elim)) R9.out V9.out F9.out ((Fr.refl No w9).alloc _)

set_option maxRecDepth 100000 in
set_option maxHeartbeats 12800000 in
theorem next_4_none_far (B gg gm : Nat) (P : Pl) (v vm : Value) (room : Int) (over : Bool) (ws : List Nat) (i fr : Int) (w : World) (hb : Both w B gg gm P v vm [] room over ws) (hi : 2048 ≤ i) :
    Calls Tryd.prog 9 #[.pointer (some ⟨gg, 0, none⟩), .pointer (some ⟨gm, 0, none⟩), .agg #[.int .i64 4, .int .i64 i, .int .i64 fr]] w (StepPost B gg gm P v vm room ([], over, ws) w) := by
  have HB := Lib.hid hb
  have HMK : Hid (Bitmap.hasI 2048 ws i = false) := Lib.hid (by unfold Bitmap.hasI; rw [decide_eq_false (show ¬ i < ((2048 : Nat) : Int) by omega)]; simp)
  have g1 : decide (0 ≤ i) = true := by simp; omega
  have g2 : decide (i < 2048) = false := by simp; omega
  clear hi
  go_enter Tryd.func9, Tryd.ntmps9
  go_upto_region 1 with (fail)
  have F0 := Lib.hid ((Fr.refl No w).alloc (.cells #[.int .i64 4, .int .i64 i, .int .i64 fr] 31))
  have X0 := Lib.hid (heap_alloc_new w (.cells #[.int .i64 4, .int .i64 i, .int .i64 fr] 31))
  generalize w.alloc (.cells #[.int .i64 4, .int .i64 i, .int .i64 fr] 31) = w0 at F0 X0 ⊢
  have b0 : w0.cell? ⟨w.heap.size, 0, none⟩ = some (.int .i64 4) := cell_of X0.out 0
  have b1 : w0.cell? ⟨w.heap.size, 1, none⟩ = some (.int .i64 i) := cell_of X0.out 1
  have b2 : w0.cell? ⟨w.heap.size, 2, none⟩ = some (.int .i64 fr) := cell_of X0.out 2
  have C1 := Lib.hid b1
  have C2 := Lib.hid b2
  have n0 := World.new_ne w0 _ b0
  have B0 := Lib.hid (HB.out.no F0.out)
  have NG := Lib.hid (show ¬ P.foot v w.heap.size from fun h => by have := (HB.out.g.lt _ (.inr (.inr h))).2; omega)
  have NF := Lib.hid (show ¬ feet gm P v vm w.heap.size from fun h => by have := (HB.out.low _ h).2; omega)
  clear hb
  go_wp2_with fail
  go_quiet (fail)
  go_wp2_with fail
  with_reducible refine (next_none B gg P v room over ws _ (B0.out.no (by repeat (first | exact Fr.refl _ _ | apply Fr.drewN | apply Fr.drew | apply Fr.alloc))).g).mono ?_
  rintro e7 w7 ⟨rfl, hb7⟩
  have F7 := Lib.hid (show Fr No w0 w7 from Fr.then_below (by repeat (first | exact Fr.refl _ _ | apply Fr.drewN | apply Fr.drew | apply Fr.alloc)) hb7)
  clear hb7
  go_wp2_with fail
  have X7 := Lib.hid (heap_alloc_new w7 (.cells #[.int .i64 0, .int .i64 0] 41))
  have F8 := Lib.hid (F7.out.alloc (.cells #[.int .i64 0, .int .i64 0] 41))
  have L8 := Lib.hid (show w7.heap.size < (w7.alloc (.cells #[.int .i64 0, .int .i64 0] 41)).heap.size by simp)
  generalize w7.alloc (.cells #[.int .i64 0, .int .i64 0] 41) = w8 at X7 F8 L8 ⊢
  with_reducible refine (pop_none B gm vm room over ws _ (B0.out.no F8.out).r).mono ?_
  rintro e9 w9 ⟨rfl, hb9⟩
  have F9 := Lib.hid (show Fr No w0 w9 from F8.out.then_below hb9)
  have X9 := Lib.hid ((hb9.block _ L8.out).trans X7.out)
  have x0 : (w9.alloc (.cells #[.int .i64 0, .int .i64 0] 59)).cell? ⟨w7.heap.size, 0, none⟩ = some (.int .i64 0) := cell_of (alloc_of X9.out _) 0
  have x1 : (w9.alloc (.cells #[.int .i64 0, .int .i64 0] 59)).cell? ⟨w7.heap.size, 1, none⟩ = some (.int .i64 0) := cell_of (alloc_of X9.out _) 1
  have n9 : w9.heap.size ≠ w7.heap.size := by have := hb9.size; have := L8.out; omega
  clear hb9
  go_wp2_with fail
  go_ret
  exact ⟨rfl, v, vm, (HB.out.no F0.out).no (F9.out.alloc _), fun k hk => .inl hk, ((F0.out.trans F9.out (fun i (h : No i) => h.elim)).alloc _).mono (fun _ h => h.elim)⟩

set_option maxRecDepth 100000 in
set_option maxHeartbeats 12800000 in
theorem next_4_some_far (B gg gm : Nat) (P : Pl) (v vm : Value) (l : List (Int × Int)) (a b : Int) (room : Int) (over : Bool) (ws : List Nat) (i fr : Int) (w : World) (hb : Both w B gg gm P v vm (l ++ [(a, b)]) room over ws) (hi : 2048 ≤ i) :
    Calls Tryd.prog 9 #[.pointer (some ⟨gg, 0, none⟩), .pointer (some ⟨gm, 0, none⟩), .agg #[.int .i64 4, .int .i64 i, .int .i64 fr]] w (StepPost B gg gm P v vm room (l, over, ws) w) := by
  have HB := Lib.hid hb
  have ga : (a == a) = true := by simp
  have gb2 : (b == b) = true := by simp
  have HMK : Hid (Bitmap.hasI 2048 ws i = false) := Lib.hid (by unfold Bitmap.hasI; rw [decide_eq_false (show ¬ i < ((2048 : Nat) : Int) by omega)]; simp)
  have g1 : decide (0 ≤ i) = true := by simp; omega
  have g2 : decide (i < 2048) = false := by simp; omega
  clear hi
  go_enter Tryd.func9, Tryd.ntmps9
  go_upto_region 1 with (fail)
  have F0 := Lib.hid ((Fr.refl No w).alloc (.cells #[.int .i64 4, .int .i64 i, .int .i64 fr] 31))
  have X0 := Lib.hid (heap_alloc_new w (.cells #[.int .i64 4, .int .i64 i, .int .i64 fr] 31))
  generalize w.alloc (.cells #[.int .i64 4, .int .i64 i, .int .i64 fr] 31) = w0 at F0 X0 ⊢
  have b0 : w0.cell? ⟨w.heap.size, 0, none⟩ = some (.int .i64 4) := cell_of X0.out 0
  have b1 : w0.cell? ⟨w.heap.size, 1, none⟩ = some (.int .i64 i) := cell_of X0.out 1
  have b2 : w0.cell? ⟨w.heap.size, 2, none⟩ = some (.int .i64 fr) := cell_of X0.out 2
  have C1 := Lib.hid b1
  have C2 := Lib.hid b2
  have n0 := World.new_ne w0 _ b0
  have B0 := Lib.hid (HB.out.no F0.out)
  have NG := Lib.hid (show ¬ P.foot v w.heap.size from fun h => by have := (HB.out.g.lt _ (.inr (.inr h))).2; omega)
  have NF := Lib.hid (show ¬ feet gm P v vm w.heap.size from fun h => by have := (HB.out.low _ h).2; omega)
  clear hb
  go_wp2_with fail
  go_quiet (fail)
  go_wp2_with fail
  with_reducible refine (next_some B gg P v l a b room over ws _ (B0.out.no (by repeat (first | exact Fr.refl _ _ | apply Fr.drewN | apply Fr.drew | apply Fr.alloc))).g).mono ?_
  rintro e7 w7 ⟨rfl, v7, hg7, hv7, hf7⟩
  have G7 := Lib.hid hg7
  have V7 : Hid (v7.ownBlock = v.ownBlock ∨ ∃ k, v7.ownBlock = some k ∧ w0.heap.size ≤ k) := Lib.hid hv7
  have F7c := Lib.hid (show Fr (P.foot v) w0 w7 from Fr.trans (by repeat (first | exact Fr.refl _ _ | apply Fr.drewN | apply Fr.drew | apply Fr.alloc)) hf7 (fun i hi => .inl hi))
  have R7 := Lib.hid (B0.out.r.fr F7c.out (fun k hk h => sep B0.out.g B0.out.r k hk (.inr (.inr h))))
  clear hg7 hv7 hf7
  go_wp2_with fail
  have X7 := Lib.hid (heap_alloc_new w7 (.cells #[.int .i64 a, .int .i64 b] 41))
  have F8 := Lib.hid ((Fr.refl No w7).alloc (.cells #[.int .i64 a, .int .i64 b] 41))
  have L8 := Lib.hid (show (w7.alloc (.cells #[.int .i64 a, .int .i64 b] 41)).heap.size = w7.heap.size + 1 by simp)
  generalize w7.alloc (.cells #[.int .i64 a, .int .i64 b] 41) = w8 at X7 F8 L8 ⊢
  with_reducible refine (pop_some B gm vm l a b room over ws _ (by have := B0.out.r.base; have := lt_of_blk B0.out.r.blk; have := F7c.out.size; have := L8.out; omega) (R7.out.no F8.out)).mono ?_
  rintro e9 w9 ⟨rfl, v9, hr9, hv9, hf9⟩
  have NB : ¬ Stack.Foot gm vm w7.heap.size := fun h => by have := (R7.out.foot_lt _ h).2; omega
  have X9 := Lib.hid (hf9.blk X7.out NB)
  have F9 := Lib.hid (show Fr (Stack.Foot gm vm) w8 w9 from hf9)
  have R9 := Lib.hid hr9
  have V9 : Hid (∀ k, v9.ownBlock = some k → vm.ownBlock = some k ∨ w8.heap.size ≤ k) := Lib.hid hv9
  have x0 : (w9.alloc (.cells #[.int .i64 a, .int .i64 b] 59)).cell? ⟨w7.heap.size, 0, none⟩ = some (.int .i64 a) := cell_of (alloc_of X9.out _) 0
  have x1 : (w9.alloc (.cells #[.int .i64 a, .int .i64 b] 59)).cell? ⟨w7.heap.size, 1, none⟩ = some (.int .i64 b) := cell_of (alloc_of X9.out _) 1
  have n9 : w9.heap.size ≠ w7.heap.size := by have := hf9.size; have := L8.out; omega
  clear hr9 hv9 hf9 NB
  go_wp2_with fail
  go_ret
  exact close HB.out F0.out (G7.out.no F8.out) V7.out (F7c.out.trans F8.out (fun i (h : No i) => h.elim)) R9.out V9.out F9.out ((Fr.refl No w9).alloc _)

set_option maxRecDepth 100000 in
set_option maxHeartbeats 12800000 in
theorem next_4_none_in (B gg gm : Nat) (P : Pl) (v vm : Value) (room : Int) (over : Bool) (ws : List Nat) (i fr : Int) (w : World) (hb : Both w B gg gm P v vm [] room over ws) (k : Nat) (hk : k < 2048) (hi : i = (k : Int)) :
    Calls Tryd.prog 9 #[.pointer (some ⟨gg, 0, none⟩), .pointer (some ⟨gm, 0, none⟩), .agg #[.int .i64 4, .int .i64 i, .int .i64 fr]] w (StepPost B gg gm P v vm room ([], over, ws) w) := by
  have HB := Lib.hid hb
  subst hi
  have i1 : (0 : Int) ≤ (k : Int) := Int.natCast_nonneg _
  have i2 : (k : Int) < 2048 := by omega
  obtain ⟨b, hbk⟩ : ∃ b, b = has ws k := ⟨_, rfl⟩
  have HBK := Lib.hid hbk
  have HK := Lib.hid hk
  have HMK : Hid (Bitmap.hasI 2048 ws (k : Int) = b) := Lib.hid (by unfold Bitmap.hasI; rw [decide_eq_true i1, decide_eq_true (show (k : Int) < ((2048 : Nat) : Int) from i2), hbk]; rfl)
  have gb : (b == b) = true := by simp
  clear hk hbk
  go_enter Tryd.func9, Tryd.ntmps9
  go_upto_region 1 with (fail)
  have F0 := Lib.hid ((Fr.refl No w).alloc (.cells #[.int .i64 4, .int .i64 (k : Int), .int .i64 fr] 31))
  have X0 := Lib.hid (heap_alloc_new w (.cells #[.int .i64 4, .int .i64 (k : Int), .int .i64 fr] 31))
  generalize w.alloc (.cells #[.int .i64 4, .int .i64 (k : Int), .int .i64 fr] 31) = w0 at F0 X0 ⊢
  have b0 : w0.cell? ⟨w.heap.size, 0, none⟩ = some (.int .i64 4) := cell_of X0.out 0
  have b1 : w0.cell? ⟨w.heap.size, 1, none⟩ = some (.int .i64 (k : Int)) := cell_of X0.out 1
  have b2 : w0.cell? ⟨w.heap.size, 2, none⟩ = some (.int .i64 fr) := cell_of X0.out 2
  have C1 := Lib.hid b1
  have C2 := Lib.hid b2
  have n0 := World.new_ne w0 _ b0
  have B0 := Lib.hid (HB.out.no F0.out)
  have NG := Lib.hid (show ¬ P.foot v w.heap.size from fun h => by have := (HB.out.g.lt _ (.inr (.inr h))).2; omega)
  have NF := Lib.hid (show ¬ feet gm P v vm w.heap.size from fun h => by have := (HB.out.low _ h).2; omega)
  clear hb
  have m0 := (B0.out.r.mark k HK.out).1
  rw [← HBK.out] at m0
  go_wp2_with fail
  go_quiet (fail)
  go_wp2_with fail
  with_reducible refine (next_none B gg P v room over ws _ (B0.out.no (by repeat (first | exact Fr.refl _ _ | apply Fr.drewN | apply Fr.drew | apply Fr.alloc))).g).mono ?_
  rintro e7 w7 ⟨rfl, hb7⟩
  have F7 := Lib.hid (show Fr No w0 w7 from Fr.then_below (by repeat (first | exact Fr.refl _ _ | apply Fr.drewN | apply Fr.drew | apply Fr.alloc)) hb7)
  clear hb7
  go_wp2_with fail
  have X7 := Lib.hid (heap_alloc_new w7 (.cells #[.int .i64 0, .int .i64 0] 41))
  have F8 := Lib.hid (F7.out.alloc (.cells #[.int .i64 0, .int .i64 0] 41))
  have L8 := Lib.hid (show w7.heap.size < (w7.alloc (.cells #[.int .i64 0, .int .i64 0] 41)).heap.size by simp)
  generalize w7.alloc (.cells #[.int .i64 0, .int .i64 0] 41) = w8 at X7 F8 L8 ⊢
  with_reducible refine (pop_none B gm vm room over ws _ (B0.out.no F8.out).r).mono ?_
  rintro e9 w9 ⟨rfl, hb9⟩
  have F9 := Lib.hid (show Fr No w0 w9 from F8.out.then_below hb9)
  have X9 := Lib.hid ((hb9.block _ L8.out).trans X7.out)
  have x0 : (w9.alloc (.cells #[.int .i64 0, .int .i64 0] 59)).cell? ⟨w7.heap.size, 0, none⟩ = some (.int .i64 0) := cell_of (alloc_of X9.out _) 0
  have x1 : (w9.alloc (.cells #[.int .i64 0, .int .i64 0] 59)).cell? ⟨w7.heap.size, 1, none⟩ = some (.int .i64 0) := cell_of (alloc_of X9.out _) 1
  have n9 : w9.heap.size ≠ w7.heap.size := by have := hb9.size; have := L8.out; omega
  clear hb9
  go_wp2_with fail
  go_ret
  exact ⟨rfl, v, vm, (HB.out.no F0.out).no (F9.out.alloc _), fun k hk => .inl hk, ((F0.out.trans F9.out (fun i (h : No i) => h.elim)).alloc _).mono (fun _ h => h.elim)⟩

set_option maxRecDepth 100000 in
set_option maxHeartbeats 12800000 in
theorem next_4_some_in (B gg gm : Nat) (P : Pl) (v vm : Value) (l : List (Int × Int)) (a b : Int) (room : Int) (over : Bool) (ws : List Nat) (i fr : Int) (w : World) (hb : Both w B gg gm P v vm (l ++ [(a, b)]) room over ws) (k : Nat) (hk : k < 2048) (hi : i = (k : Int)) :
    Calls Tryd.prog 9 #[.pointer (some ⟨gg, 0, none⟩), .pointer (some ⟨gm, 0, none⟩), .agg #[.int .i64 4, .int .i64 i, .int .i64 fr]] w (StepPost B gg gm P v vm room (l, over, ws) w) := by
  have HB := Lib.hid hb
  have ga : (a == a) = true := by simp
  have gb2 : (b == b) = true := by simp
  subst hi
  have i1 : (0 : Int) ≤ (k : Int) := Int.natCast_nonneg _
  have i2 : (k : Int) < 2048 := by omega
  obtain ⟨bm, hbk⟩ : ∃ bm, bm = has ws k := ⟨_, rfl⟩
  have HBK := Lib.hid hbk
  have HK := Lib.hid hk
  have HMK : Hid (Bitmap.hasI 2048 ws (k : Int) = bm) := Lib.hid (by unfold Bitmap.hasI; rw [decide_eq_true i1, decide_eq_true (show (k : Int) < ((2048 : Nat) : Int) from i2), hbk]; rfl)
  have gbb : (bm == bm) = true := by simp
  clear hk hbk
  go_enter Tryd.func9, Tryd.ntmps9
  go_upto_region 1 with (fail)
  have F0 := Lib.hid ((Fr.refl No w).alloc (.cells #[.int .i64 4, .int .i64 (k : Int), .int .i64 fr] 31))
  have X0 := Lib.hid (heap_alloc_new w (.cells #[.int .i64 4, .int .i64 (k : Int), .int .i64 fr] 31))
  generalize w.alloc (.cells #[.int .i64 4, .int .i64 (k : Int), .int .i64 fr] 31) = w0 at F0 X0 ⊢
  have b0 : w0.cell? ⟨w.heap.size, 0, none⟩ = some (.int .i64 4) := cell_of X0.out 0
  have b1 : w0.cell? ⟨w.heap.size, 1, none⟩ = some (.int .i64 (k : Int)) := cell_of X0.out 1
  have b2 : w0.cell? ⟨w.heap.size, 2, none⟩ = some (.int .i64 fr) := cell_of X0.out 2
  have C1 := Lib.hid b1
  have C2 := Lib.hid b2
  have n0 := World.new_ne w0 _ b0
  have B0 := Lib.hid (HB.out.no F0.out)
  have NG := Lib.hid (show ¬ P.foot v w.heap.size from fun h => by have := (HB.out.g.lt _ (.inr (.inr h))).2; omega)
  have NF := Lib.hid (show ¬ feet gm P v vm w.heap.size from fun h => by have := (HB.out.low _ h).2; omega)
  clear hb
  have m0 := (B0.out.r.mark k HK.out).1
  rw [← HBK.out] at m0
  go_wp2_with fail
  go_quiet (fail)
  go_wp2_with fail
  with_reducible refine (next_some B gg P v l a b room over ws _ (B0.out.no (by repeat (first | exact Fr.refl _ _ | apply Fr.drewN | apply Fr.drew | apply Fr.alloc))).g).mono ?_
  rintro e7 w7 ⟨rfl, v7, hg7, hv7, hf7⟩
  have G7 := Lib.hid hg7
  have V7 : Hid (v7.ownBlock = v.ownBlock ∨ ∃ k, v7.ownBlock = some k ∧ w0.heap.size ≤ k) := Lib.hid hv7
  have F7c := Lib.hid (show Fr (P.foot v) w0 w7 from Fr.trans (by repeat (first | exact Fr.refl _ _ | apply Fr.drewN | apply Fr.drew | apply Fr.alloc)) hf7 (fun i hi => .inl hi))
  have R7 := Lib.hid (B0.out.r.fr F7c.out (fun k hk h => sep B0.out.g B0.out.r k hk (.inr (.inr h))))
  clear hg7 hv7 hf7
  go_wp2_with fail
  have X7 := Lib.hid (heap_alloc_new w7 (.cells #[.int .i64 a, .int .i64 b] 41))
  have F8 := Lib.hid ((Fr.refl No w7).alloc (.cells #[.int .i64 a, .int .i64 b] 41))
  have L8 := Lib.hid (show (w7.alloc (.cells #[.int .i64 a, .int .i64 b] 41)).heap.size = w7.heap.size + 1 by simp)
  generalize w7.alloc (.cells #[.int .i64 a, .int .i64 b] 41) = w8 at X7 F8 L8 ⊢
  with_reducible refine (pop_some B gm vm l a b room over ws _ (by have := B0.out.r.base; have := lt_of_blk B0.out.r.blk; have := F7c.out.size; have := L8.out; omega) (R7.out.no F8.out)).mono ?_
  rintro e9 w9 ⟨rfl, v9, hr9, hv9, hf9⟩
  have NB : ¬ Stack.Foot gm vm w7.heap.size := fun h => by have := (R7.out.foot_lt _ h).2; omega
  have X9 := Lib.hid (hf9.blk X7.out NB)
  have F9 := Lib.hid (show Fr (Stack.Foot gm vm) w8 w9 from hf9)
  have R9 := Lib.hid hr9
  have V9 : Hid (∀ k, v9.ownBlock = some k → vm.ownBlock = some k ∨ w8.heap.size ≤ k) := Lib.hid hv9
  have x0 : (w9.alloc (.cells #[.int .i64 a, .int .i64 b] 59)).cell? ⟨w7.heap.size, 0, none⟩ = some (.int .i64 a) := cell_of (alloc_of X9.out _) 0
  have x1 : (w9.alloc (.cells #[.int .i64 a, .int .i64 b] 59)).cell? ⟨w7.heap.size, 1, none⟩ = some (.int .i64 b) := cell_of (alloc_of X9.out _) 1
  have n9 : w9.heap.size ≠ w7.heap.size := by have := hf9.size; have := L8.out; omega
  clear hr9 hv9 hf9 NB
  go_wp2_with fail
  go_ret
  exact close HB.out F0.out (G7.out.no F8.out) V7.out (F7c.out.trans F8.out (fun i (h : No i) => h.elim)) R9.out V9.out F9.out ((Fr.refl No w9).alloc _)

set_option maxRecDepth 100000 in
set_option maxHeartbeats 12800000 in
theorem settle_6_neg (B gg gm : Nat) (P : Pl) (v vm : Value) (l : List (Int × Int)) (room : Int) (over : Bool) (ws : List Nat) (i fr : Int) (w : World) (hb : Both w B gg gm P v vm l room over ws) (hi : i < 0) :
    Calls Tryd.prog 9 #[.pointer (some ⟨gg, 0, none⟩), .pointer (some ⟨gm, 0, none⟩), .agg #[.int .i64 6, .int .i64 i, .int .i64 fr]] w (StepPost B gg gm P v vm room (l, false, ws) w) := by
  have HB := Lib.hid hb
  have go1 : (over == over) = true := by simp
  have HMK : Hid (Bitmap.hasI 2048 ws i = false) := Lib.hid (by unfold Bitmap.hasI; rw [decide_eq_false (show ¬ 0 ≤ i by omega)]; rfl)
  have g1 : decide (0 ≤ i) = false := by simp; omega
  clear hi
  go_enter Tryd.func9, Tryd.ntmps9
  go_upto_region 1 with (fail)
  have F0 := Lib.hid ((Fr.refl No w).alloc (.cells #[.int .i64 6, .int .i64 i, .int .i64 fr] 31))
  have X0 := Lib.hid (heap_alloc_new w (.cells #[.int .i64 6, .int .i64 i, .int .i64 fr] 31))
  generalize w.alloc (.cells #[.int .i64 6, .int .i64 i, .int .i64 fr] 31) = w0 at F0 X0 ⊢
  have b0 : w0.cell? ⟨w.heap.size, 0, none⟩ = some (.int .i64 6) := cell_of X0.out 0
  have b1 : w0.cell? ⟨w.heap.size, 1, none⟩ = some (.int .i64 i) := cell_of X0.out 1
  have b2 : w0.cell? ⟨w.heap.size, 2, none⟩ = some (.int .i64 fr) := cell_of X0.out 2
  have C1 := Lib.hid b1
  have C2 := Lib.hid b2
  have n0 := World.new_ne w0 _ b0
  have B0 := Lib.hid (HB.out.no F0.out)
  have NG := Lib.hid (show ¬ P.foot v w.heap.size from fun h => by have := (HB.out.g.lt _ (.inr (.inr h))).2; omega)
  have NF := Lib.hid (show ¬ feet gm P v vm w.heap.size from fun h => by have := (HB.out.low _ h).2; omega)
  clear hb
  have c0 := B0.out.r.rest.2.2
  have y9 := free_of B0.out.r.blk 2050
  go_wp2_with fail
  go_quiet (fail)
  go_wp2_with fail
  have hq : R ((w0.drewN nq).setCell ⟨gm, 2050, none⟩ (.bool false)) B gm vm l room false ws := ⟨by rw [set_of (B0.out.r.no (Fr.drewN (Fr.refl No w0) nq)).blk, rc_tail (over' := false) (v' := vm) 2050 (.bool false) (by omega) (by omega) rfl], own_setCell (B0.out.r.no (Fr.drewN (Fr.refl No w0) nq)).own B0.out.r.ne _, B0.out.r.base, B0.out.r.r0, B0.out.r.r1, B0.out.r.len, B0.out.r.ok⟩
  have R1 := Lib.hid hq
  have F1 := Lib.hid (show Fr (Stack.Foot gm vm) w0 ((w0.drewN nq).setCell ⟨gm, 2050, none⟩ (.bool false)) from ((Fr.refl _ w0).drewN nq).setCell (p := ⟨gm, 2050, none⟩) (.inl (.inl rfl)) _)
  clear hq
  generalize (w0.drewN nq).setCell ⟨gm, 2050, none⟩ (.bool false) = w1 at R1 F1 ⊢
  have G1 := Lib.hid (B0.out.g.fr F1.out (fun k hk h => sep B0.out.g B0.out.r k h hk))
  clear c0 y9 b0 b1 b2
  with_reducible refine (gsettle_any B gg P v l room over ws _ (G1.out.no (by repeat (first | exact Fr.refl _ _ | apply Fr.drewN | apply Fr.drew | apply Fr.alloc)))).mono ?_
  rintro e7 w7 ⟨rfl, v7, hg7, hv7, hf7⟩
  have G7 := Lib.hid hg7
  have V7 : Hid (v7.ownBlock = v.ownBlock ∨ ∃ k, v7.ownBlock = some k ∧ w1.heap.size ≤ k) := Lib.hid hv7
  have F7c := Lib.hid (show Fr (P.foot v) w1 w7 from Fr.trans (by repeat (first | exact Fr.refl _ _ | apply Fr.drewN | apply Fr.drew | apply Fr.alloc)) hf7 (fun i hi => .inl hi))
  clear hg7 hv7 hf7
  go_wp2_with fail
  go_ret
  exact close_r HB.out F0.out R1.out (fun k hk => .inl hk) F1.out G7.out V7.out F7c.out (Fr.refl _ _)

set_option maxRecDepth 100000 in
set_option maxHeartbeats 12800000 in
theorem settle_6_far (B gg gm : Nat) (P : Pl) (v vm : Value) (l : List (Int × Int)) (room : Int) (over : Bool) (ws : List Nat) (i fr : Int) (w : World) (hb : Both w B gg gm P v vm l room over ws) (hi : 2048 ≤ i) :
    Calls Tryd.prog 9 #[.pointer (some ⟨gg, 0, none⟩), .pointer (some ⟨gm, 0, none⟩), .agg #[.int .i64 6, .int .i64 i, .int .i64 fr]] w (StepPost B gg gm P v vm room (l, false, ws) w) := by
  have HB := Lib.hid hb
  have go1 : (over == over) = true := by simp
  have HMK : Hid (Bitmap.hasI 2048 ws i = false) := Lib.hid (by unfold Bitmap.hasI; rw [decide_eq_false (show ¬ i < ((2048 : Nat) : Int) by omega)]; simp)
  have g1 : decide (0 ≤ i) = true := by simp; omega
  have g2 : decide (i < 2048) = false := by simp; omega
  clear hi
  go_enter Tryd.func9, Tryd.ntmps9
  go_upto_region 1 with (fail)
  have F0 := Lib.hid ((Fr.refl No w).alloc (.cells #[.int .i64 6, .int .i64 i, .int .i64 fr] 31))
  have X0 := Lib.hid (heap_alloc_new w (.cells #[.int .i64 6, .int .i64 i, .int .i64 fr] 31))
  generalize w.alloc (.cells #[.int .i64 6, .int .i64 i, .int .i64 fr] 31) = w0 at F0 X0 ⊢
  have b0 : w0.cell? ⟨w.heap.size, 0, none⟩ = some (.int .i64 6) := cell_of X0.out 0
  have b1 : w0.cell? ⟨w.heap.size, 1, none⟩ = some (.int .i64 i) := cell_of X0.out 1
  have b2 : w0.cell? ⟨w.heap.size, 2, none⟩ = some (.int .i64 fr) := cell_of X0.out 2
  have C1 := Lib.hid b1
  have C2 := Lib.hid b2
  have n0 := World.new_ne w0 _ b0
  have B0 := Lib.hid (HB.out.no F0.out)
  have NG := Lib.hid (show ¬ P.foot v w.heap.size from fun h => by have := (HB.out.g.lt _ (.inr (.inr h))).2; omega)
  have NF := Lib.hid (show ¬ feet gm P v vm w.heap.size from fun h => by have := (HB.out.low _ h).2; omega)
  clear hb
  have c0 := B0.out.r.rest.2.2
  have y9 := free_of B0.out.r.blk 2050
  go_wp2_with fail
  go_quiet (fail)
  go_wp2_with fail
  have hq : R ((w0.drewN nq).setCell ⟨gm, 2050, none⟩ (.bool false)) B gm vm l room false ws := ⟨by rw [set_of (B0.out.r.no (Fr.drewN (Fr.refl No w0) nq)).blk, rc_tail (over' := false) (v' := vm) 2050 (.bool false) (by omega) (by omega) rfl], own_setCell (B0.out.r.no (Fr.drewN (Fr.refl No w0) nq)).own B0.out.r.ne _, B0.out.r.base, B0.out.r.r0, B0.out.r.r1, B0.out.r.len, B0.out.r.ok⟩
  have R1 := Lib.hid hq
  have F1 := Lib.hid (show Fr (Stack.Foot gm vm) w0 ((w0.drewN nq).setCell ⟨gm, 2050, none⟩ (.bool false)) from ((Fr.refl _ w0).drewN nq).setCell (p := ⟨gm, 2050, none⟩) (.inl (.inl rfl)) _)
  clear hq
  generalize (w0.drewN nq).setCell ⟨gm, 2050, none⟩ (.bool false) = w1 at R1 F1 ⊢
  have G1 := Lib.hid (B0.out.g.fr F1.out (fun k hk h => sep B0.out.g B0.out.r k h hk))
  clear c0 y9 b0 b1 b2
  with_reducible refine (gsettle_any B gg P v l room over ws _ (G1.out.no (by repeat (first | exact Fr.refl _ _ | apply Fr.drewN | apply Fr.drew | apply Fr.alloc)))).mono ?_
  rintro e7 w7 ⟨rfl, v7, hg7, hv7, hf7⟩
  have G7 := Lib.hid hg7
  have V7 : Hid (v7.ownBlock = v.ownBlock ∨ ∃ k, v7.ownBlock = some k ∧ w1.heap.size ≤ k) := Lib.hid hv7
  have F7c := Lib.hid (show Fr (P.foot v) w1 w7 from Fr.trans (by repeat (first | exact Fr.refl _ _ | apply Fr.drewN | apply Fr.drew | apply Fr.alloc)) hf7 (fun i hi => .inl hi))
  clear hg7 hv7 hf7
  go_wp2_with fail
  go_ret
  exact close_r HB.out F0.out R1.out (fun k hk => .inl hk) F1.out G7.out V7.out F7c.out (Fr.refl _ _)

set_option maxRecDepth 100000 in
set_option maxHeartbeats 12800000 in
theorem settle_6_in (B gg gm : Nat) (P : Pl) (v vm : Value) (l : List (Int × Int)) (room : Int) (over : Bool) (ws : List Nat) (i fr : Int) (w : World) (hb : Both w B gg gm P v vm l room over ws) (k : Nat) (hk : k < 2048) (hi : i = (k : Int)) :
    Calls Tryd.prog 9 #[.pointer (some ⟨gg, 0, none⟩), .pointer (some ⟨gm, 0, none⟩), .agg #[.int .i64 6, .int .i64 i, .int .i64 fr]] w (StepPost B gg gm P v vm room (l, false, ws) w) := by
  have HB := Lib.hid hb
  have go1 : (over == over) = true := by simp
  subst hi
  have i1 : (0 : Int) ≤ (k : Int) := Int.natCast_nonneg _
  have i2 : (k : Int) < 2048 := by omega
  obtain ⟨b, hbk⟩ : ∃ b, b = has ws k := ⟨_, rfl⟩
  have HBK := Lib.hid hbk
  have HK := Lib.hid hk
  have HMK : Hid (Bitmap.hasI 2048 ws (k : Int) = b) := Lib.hid (by unfold Bitmap.hasI; rw [decide_eq_true i1, decide_eq_true (show (k : Int) < ((2048 : Nat) : Int) from i2), hbk]; rfl)
  have gb : (b == b) = true := by simp
  clear hk hbk
  go_enter Tryd.func9, Tryd.ntmps9
  go_upto_region 1 with (fail)
  have F0 := Lib.hid ((Fr.refl No w).alloc (.cells #[.int .i64 6, .int .i64 (k : Int), .int .i64 fr] 31))
  have X0 := Lib.hid (heap_alloc_new w (.cells #[.int .i64 6, .int .i64 (k : Int), .int .i64 fr] 31))
  generalize w.alloc (.cells #[.int .i64 6, .int .i64 (k : Int), .int .i64 fr] 31) = w0 at F0 X0 ⊢
  have b0 : w0.cell? ⟨w.heap.size, 0, none⟩ = some (.int .i64 6) := cell_of X0.out 0
  have b1 : w0.cell? ⟨w.heap.size, 1, none⟩ = some (.int .i64 (k : Int)) := cell_of X0.out 1
  have b2 : w0.cell? ⟨w.heap.size, 2, none⟩ = some (.int .i64 fr) := cell_of X0.out 2
  have C1 := Lib.hid b1
  have C2 := Lib.hid b2
  have n0 := World.new_ne w0 _ b0
  have B0 := Lib.hid (HB.out.no F0.out)
  have NG := Lib.hid (show ¬ P.foot v w.heap.size from fun h => by have := (HB.out.g.lt _ (.inr (.inr h))).2; omega)
  have NF := Lib.hid (show ¬ feet gm P v vm w.heap.size from fun h => by have := (HB.out.low _ h).2; omega)
  clear hb
  have m0 := (B0.out.r.mark k HK.out).1
  rw [← HBK.out] at m0
  have c0 := B0.out.r.rest.2.2
  have y9 := free_of B0.out.r.blk 2050
  go_wp2_with fail
  go_quiet (fail)
  go_wp2_with fail
  have hq : R ((w0.drewN nq).setCell ⟨gm, 2050, none⟩ (.bool false)) B gm vm l room false ws := ⟨by rw [set_of (B0.out.r.no (Fr.drewN (Fr.refl No w0) nq)).blk, rc_tail (over' := false) (v' := vm) 2050 (.bool false) (by omega) (by omega) rfl], own_setCell (B0.out.r.no (Fr.drewN (Fr.refl No w0) nq)).own B0.out.r.ne _, B0.out.r.base, B0.out.r.r0, B0.out.r.r1, B0.out.r.len, B0.out.r.ok⟩
  have R1 := Lib.hid hq
  have F1 := Lib.hid (show Fr (Stack.Foot gm vm) w0 ((w0.drewN nq).setCell ⟨gm, 2050, none⟩ (.bool false)) from ((Fr.refl _ w0).drewN nq).setCell (p := ⟨gm, 2050, none⟩) (.inl (.inl rfl)) _)
  clear hq
  generalize (w0.drewN nq).setCell ⟨gm, 2050, none⟩ (.bool false) = w1 at R1 F1 ⊢
  have G1 := Lib.hid (B0.out.g.fr F1.out (fun k hk h => sep B0.out.g B0.out.r k h hk))
  clear c0 y9 b0 b1 b2
  with_reducible refine (gsettle_any B gg P v l room over ws _ (G1.out.no (by repeat (first | exact Fr.refl _ _ | apply Fr.drewN | apply Fr.drew | apply Fr.alloc)))).mono ?_
  rintro e7 w7 ⟨rfl, v7, hg7, hv7, hf7⟩
  have G7 := Lib.hid hg7
  have V7 : Hid (v7.ownBlock = v.ownBlock ∨ ∃ k, v7.ownBlock = some k ∧ w1.heap.size ≤ k) := Lib.hid hv7
  have F7c := Lib.hid (show Fr (P.foot v) w1 w7 from Fr.trans (by repeat (first | exact Fr.refl _ _ | apply Fr.drewN | apply Fr.drew | apply Fr.alloc)) hf7 (fun i hi => .inl hi))
  clear hg7 hv7 hf7
  go_wp2_with fail
  go_ret
  exact close_r HB.out F0.out R1.out (fun k hk => .inl hk) F1.out G7.out V7.out F7c.out (Fr.refl _ _)

theorem in_cases (i : Int) : i < 0 ∨ 2048 ≤ i ∨ ∃ k : Nat, k < 2048 ∧ i = (k : Int) := by
  by_cases h1 : i < 0
  · exact .inl h1
  by_cases h2 : 2048 ≤ i
  · exact .inr (.inl h2)
  · exact .inr (.inr ⟨i.toNat, by omega, by omega⟩)

theorem l_cases (l : List (Int × Int)) : l = [] ∨ ∃ l' a b, l = l' ++ [(a, b)] := by
  rcases List.eq_nil_or_concat l with h | ⟨l', x, h⟩
  · exact .inl h
  · exact .inr ⟨l', x.1, x.2, by rw [h]; simp⟩

/-- what a call does to the stack, whether one was lost, the marks -/
def nx (room : Int) (s : List (Int × Int) × Bool × List Nat) (op : Int × Int × Int) : List (Int × Int) × Bool × List Nat :=
  if op.1 = 1 then (shL s.1 room s.2.2 op.2.1, shO s.1 room s.2.1 s.2.2 op.2.1, Bitmap.addW 2048 s.2.2 op.2.1)
  else if op.1 = 2 then (s.1, s.2.1, Bitmap.addW 2048 s.2.2 op.2.1)
  else if op.1 = 3 then (s.1, s.2.1, Bitmap.remW 2048 s.2.2 op.2.1)
  else if op.1 = 4 then (s.1.dropLast, s.2.1, s.2.2)
  else if op.1 = 5 then (pushL s.1 room (op.2.1, op.2.2), pushO s.1 room s.2.1, s.2.2)
  else if op.1 = 6 then (s.1, false, s.2.2)
  else s

theorem rem_out (ws : List Nat) (i : Int) (h : Bitmap.hasI 2048 ws i = false) : Bitmap.remW 2048 ws i = ws := by unfold Bitmap.remW; rw [h]; rfl

theorem rem_in (ws : List Nat) (k : Nat) (hk : k < 2048) (h : has ws k = true) : Bitmap.remW 2048 ws (k : Int) = remB ws k := by
  unfold Bitmap.remW Bitmap.hasI
  rw [decide_eq_true (show (0 : Int) ≤ (k : Int) by omega), decide_eq_true (show (k : Int) < ((2048 : Nat) : Int) by omega), show ((k : Int)).toNat = k by omega, h]
  rfl

theorem has_neg (ws : List Nat) (i : Int) (h : i < 0) : Bitmap.hasI 2048 ws i = false := by unfold Bitmap.hasI; rw [decide_eq_false (show ¬ 0 ≤ i by omega)]; rfl

theorem has_far (ws : List Nat) (i : Int) (h : 2048 ≤ i) : Bitmap.hasI 2048 ws i = false := by unfold Bitmap.hasI; rw [decide_eq_false (show ¬ i < ((2048 : Nat) : Int) by omega)]; simp

theorem has_zero (ws : List Nat) (k : Nat) (h : has ws k = false) : Bitmap.hasI 2048 ws (k : Int) = false := by unfold Bitmap.hasI; rw [show ((k : Int)).toNat = k by omega, h]; simp

/-- any call -/
theorem step_any (B gg gm : Nat) (P : Pl) (v vm : Value) (room : Int) (s : List (Int × Int) × Bool × List Nat) (kd i fr : Int) (w : World) (hb : Both w B gg gm P v vm s.1 room s.2.1 s.2.2) :
    Calls Tryd.prog 9 #[.pointer (some ⟨gg, 0, none⟩), .pointer (some ⟨gm, 0, none⟩), .agg #[.int .i64 kd, .int .i64 i, .int .i64 fr]] w (StepPost B gg gm P v vm room (nx room s (kd, i, fr)) w) := by
  obtain ⟨l, over, ws⟩ := s
  dsimp only at hb
  by_cases h1 : kd = 1
  · subst h1; exact shade_1 B gg gm P v vm l room over ws i fr w hb
  by_cases h2 : kd = 2
  · subst h2; exact black_2 B gg gm P v vm l room over ws i fr w hb
  by_cases h3 : kd = 3
  · subst h3
    have e : nx room (l, over, ws) (3, i, fr) = (l, over, Bitmap.remW 2048 ws i) := rfl
    rw [e]
    rcases in_cases i with h | h | ⟨k, hk, h⟩
    · rw [rem_out ws i (has_neg ws i h)]; exact clear_3_neg B gg gm P v vm l room over ws i fr w hb h
    · rw [rem_out ws i (has_far ws i h)]; exact clear_3_far B gg gm P v vm l room over ws i fr w hb h
    · cases hh : has ws k with
      | false => rw [h, rem_out ws k (has_zero ws k hh), ← h]; exact clear_3_in0 B gg gm P v vm l room over ws i fr w hb k hk h hh
      | true => rw [h, rem_in ws k hk hh, ← h]; exact clear_3_in1 B gg gm P v vm l room over ws i fr w hb k hk h hh
  by_cases h4 : kd = 4
  · subst h4
    rcases l_cases l with rfl | ⟨l', a, b, rfl⟩
    · rcases in_cases i with h | h | ⟨k, hk, h⟩
      · exact next_4_none_neg B gg gm P v vm room over ws i fr w hb h
      · exact next_4_none_far B gg gm P v vm room over ws i fr w hb h
      · exact next_4_none_in B gg gm P v vm room over ws i fr w hb k hk h
    · have e : nx room (l' ++ [(a, b)], over, ws) (4, i, fr) = (l', over, ws) := by
        show ((l' ++ [(a, b)]).dropLast, over, ws) = _
        rw [List.dropLast_concat]
      rw [e]
      rcases in_cases i with h | h | ⟨k, hk, h⟩
      · exact next_4_some_neg B gg gm P v vm l' a b room over ws i fr w hb h
      · exact next_4_some_far B gg gm P v vm l' a b room over ws i fr w hb h
      · exact next_4_some_in B gg gm P v vm l' a b room over ws i fr w hb k hk h
  by_cases h5 : kd = 5
  · subst h5
    rcases in_cases i with h | h | ⟨k, hk, h⟩
    · exact rest_5_neg B gg gm P v vm l room over ws i fr w hb h
    · exact rest_5_far B gg gm P v vm l room over ws i fr w hb h
    · exact rest_5_in B gg gm P v vm l room over ws i fr w hb k hk h
  by_cases h6 : kd = 6
  · subst h6
    rcases in_cases i with h | h | ⟨k, hk, h⟩
    · exact settle_6_neg B gg gm P v vm l room over ws i fr w hb h
    · exact settle_6_far B gg gm P v vm l room over ws i fr w hb h
    · exact settle_6_in B gg gm P v vm l room over ws i fr w hb k hk h
  · have e : nx room (l, over, ws) (kd, i, fr) = (l, over, ws) := by
      unfold nx
      dsimp only
      rw [if_neg h1, if_neg h2, if_neg h3, if_neg h4, if_neg h5, if_neg h6]
    rw [e]
    rcases in_cases i with h | h | ⟨k, hk, h⟩
    · exact is_7_neg B gg gm P v vm l room over ws kd i fr w hb h h1 h2 h3 h4 h5 h6
    · exact is_7_far B gg gm P v vm l room over ws kd i fr w hb h h1 h2 h3 h4 h5 h6
    · exact is_7_in B gg gm P v vm l room over ws kd i fr w hb k hk h h1 h2 h3 h4 h5 h6

end Go.Proofs.YtoipjmhfeggdeaaDoor.ShadeStep
