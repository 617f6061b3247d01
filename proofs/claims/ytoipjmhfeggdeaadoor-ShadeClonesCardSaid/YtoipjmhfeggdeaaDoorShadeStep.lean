/- Proved: what one call of a script of package scutagelaw18 does to a grey and to the reference's, and that they agree. -/
import Derived.Test.YtoipjmhfeggdeaaDoorShadeBoth
namespace Go.Proofs.YtoipjmhfeggdeaaDoor.ShadeStep
open Go.RowKit Go.Proofs.YtoipjmhfeggdeaaDoor.H Go.Proofs.YtoipjmhfeggdeaaDoor.Nums Go.Proofs.YtoipjmhfeggdeaaDoor.BitPure Go.Proofs.YtoipjmhfeggdeaaDoor.Shade Go.Proofs.YtoipjmhfeggdeaaDoor.Ref18 Go.Proofs.YtoipjmhfeggdeaaDoor.ShadeBoth
set_option linter.unusedVariables false
set_option linter.unusedSimpArgs false
attribute [local irreducible] elems from_ nxt elemsN rc zCells

/-- the reference's call first, then the grey's -/
theorem close_r {w w0 w1 w2 wE : World} {B gg gm : Nat} {P : Pl} {v v2 vm vm1 : Value} {l l' : List (Int × Int)} {room : Int} {over over' : Bool} {ws ws' : List Nat} (hb : Both w B gg gm P v vm l room over ws) (F0 : Fr No w w0)
    (r1 : R w1 B gm vm1 l' room over' ws') (V1 : ∀ k, vm1.ownBlock = some k → vm.ownBlock = some k ∨ w0.heap.size ≤ k) (F1 : Fr (Stack.Foot gm vm) w0 w1)
    (g2 : G w2 B gg P v2 l' room over' ws') (V2 : v2.ownBlock = v.ownBlock ∨ ∃ k, v2.ownBlock = some k ∧ w1.heap.size ≤ k) (F2 : Fr (P.foot v) w1 w2) (FE : Fr No w2 wE) :
    StepPost B gg gm P v vm room (l', over', ws') w (.returned (.bool true)) wE := by
  have z0 := F0.size
  have z1 := F1.size
  have g1 : G w1 B gg P v l room over ws := (hb.g.no F0).fr F1 (fun k hk h => sep (hb.g.no F0) (hb.r.no F0) k h hk)
  have r2 : R w2 B gm vm1 l' room over' ws' := r1.fr F2 (fun k hk h => sep g1 r1 k hk (.inr (.inr h)))
  have FA : Fr (feet gm P v vm) w w2 := ((F0.mono (fun _ h => h.elim)).trans (F1.mono (fun k hk => .inr hk)) (fun i hi => .inl hi)).trans (F2.mono (fun k hk => .inl hk)) (fun i hi => .inl hi)
  refine ⟨rfl, v2, vm1, ⟨g2.no FE, r2.no FE, (hb.tabs FA).no FE, hb.pos⟩, ?_, FA.trans FE (fun i (h : No i) => h.elim)⟩
  rintro k (h | h)
  · rcases h with h | h | h
    · exact .inl (.inl (.inl h))
    · rcases V2 with e | ⟨j, e, hj⟩
      · exact .inl (.inl (.inr (.inl (by rw [← e]; exact h))))
      · rw [e] at h; injection h with h; subst h; exact .inr (by omega)
    · exact .inl (.inl (.inr (.inr h)))
  · rcases h with h | h
    · exact .inl (.inr (.inl h))
    · rcases V1 k h with e | hj
      · exact .inl (.inr (.inr e))
      · exact .inr (by omega)

set_option maxRecDepth 100000 in
set_option maxHeartbeats 12800000 in
theorem shade_1 (B gg gm : Nat) (P : Pl) (v vm : Value) (l : List (Int × Int)) (room : Int) (over : Bool) (ws : List Nat) (i fr : Int) (w : World) (hb : Both w B gg gm P v vm l room over ws) :
    Calls Tryd.prog 9 #[.pointer (some ⟨gg, 0, none⟩), .pointer (some ⟨gm, 0, none⟩), .agg #[.int .i64 1, .int .i64 i, .int .i64 fr]] w (StepPost B gg gm P v vm room (shL l room ws i, shO l room over ws i, Bitmap.addW 2048 ws i) w) := by
  have HB := Lib.hid hb
  obtain ⟨ok, hok⟩ : ∃ ok, ok = Bitmap.addOk 2048 ws i := ⟨_, rfl⟩
  have HOK := Lib.hid hok
  have gk : (ok == ok) = true := by simp
  clear hok
  go_enter Tryd.func9, Tryd.ntmps9
  go_upto_region 1 with (fail)
  have F0 := Lib.hid ((Fr.refl No w).alloc (.cells #[.int .i64 1, .int .i64 i, .int .i64 fr] 31))
  have X0 := Lib.hid (heap_alloc_new w (.cells #[.int .i64 1, .int .i64 i, .int .i64 fr] 31))
  generalize w.alloc (.cells #[.int .i64 1, .int .i64 i, .int .i64 fr] 31) = w0 at F0 X0 ⊢
  have b0 : w0.cell? ⟨w.heap.size, 0, none⟩ = some (.int .i64 1) := cell_of X0.out 0
  have b1 : w0.cell? ⟨w.heap.size, 1, none⟩ = some (.int .i64 i) := cell_of X0.out 1
  have b2 : w0.cell? ⟨w.heap.size, 2, none⟩ = some (.int .i64 fr) := cell_of X0.out 2
  have C1 := Lib.hid b1
  have C2 := Lib.hid b2
  have n0 := World.new_ne w0 _ b0
  have B0 := Lib.hid (HB.out.no F0.out)
  have NG := Lib.hid (show ¬ P.foot v w.heap.size from fun h => by have := (HB.out.g.lt _ (.inr (.inr h))).2; omega)
  have NF := Lib.hid (show ¬ feet gm P v vm w.heap.size from fun h => by have := (HB.out.low _ h).2; omega)
  clear hb
  go_wp2_with fail
  go_region_held3 (fun W => W.cell? ⟨w.heap.size, 1, none⟩ = some (.int .i64 i)) ((first | with_reducible assumption | (with_reducible exact F8c.out.cell C1.out NF.out) | (with_reducible exact F7c.out.cell C1.out NG.out) | (go_keep; done)))
    ((first
      | (go_at_call 14; refine (Shade.shade_any B gg P v l room over ws i _ (B0.out.no (by repeat (first | exact Fr.refl _ _ | apply Fr.drewN | apply Fr.drew | apply Fr.alloc))).g).mono ?_; rintro e7 w7 ⟨rfl, v7, hg7, hv7, hf7⟩; have G7 := Lib.hid hg7; have V7 : Hid (v7.ownBlock = v.ownBlock ∨ ∃ k, v7.ownBlock = some k ∧ w0.heap.size ≤ k) := Lib.hid hv7; have F7c := Lib.hid (show Fr (P.foot v) w0 w7 from Fr.trans (by repeat (first | exact Fr.refl _ _ | apply Fr.drewN | apply Fr.drew | apply Fr.alloc)) hf7 (fun i hi => .inl hi)); have R7 := Lib.hid (B0.out.r.fr F7c.out (fun k hk h => sep B0.out.g B0.out.r k hk (.inr (.inr h)))); clear hg7 hv7 hf7; rw [← HOK.out])
      | (go_at_call 26; refine (Ref18.shade_any B gm vm l room over ws i _ (R7.out.no (by repeat (first | exact Fr.refl _ _ | apply Fr.drewN | apply Fr.drew | apply Fr.alloc)))).mono ?_; rintro e8 w8 ⟨rfl, v8, hr8, hv8, hf8⟩; have R8 := Lib.hid hr8; have V8 : Hid (∀ k, v8.ownBlock = some k → vm.ownBlock = some k ∨ w7.heap.size ≤ k) := Lib.hid hv8; have F8d := Lib.hid (show Fr (Stack.Foot gm vm) w7 w8 from Fr.trans (by repeat (first | exact Fr.refl _ _ | apply Fr.drewN | apply Fr.drew | apply Fr.alloc)) hf8 (fun i hi => .inl hi)); have F8c := Lib.hid (show Fr (feet gm P v vm) w0 w8 from (F7c.out.mono (fun k hk => .inl hk)).trans (F8d.out.mono (fun k hk => .inr hk)) (fun i hi => .inl hi)); clear hr8 hv8 hf8; rw [← HOK.out])))
  all_goals
    go_wp2_with fail
    go_ret
    exact close HB.out F0.out G7.out V7.out F7c.out R8.out V8.out F8d.out (Fr.refl _ _)

set_option maxRecDepth 100000 in
set_option maxHeartbeats 12800000 in
theorem black_2 (B gg gm : Nat) (P : Pl) (v vm : Value) (l : List (Int × Int)) (room : Int) (over : Bool) (ws : List Nat) (i fr : Int) (w : World) (hb : Both w B gg gm P v vm l room over ws) :
    Calls Tryd.prog 9 #[.pointer (some ⟨gg, 0, none⟩), .pointer (some ⟨gm, 0, none⟩), .agg #[.int .i64 2, .int .i64 i, .int .i64 fr]] w (StepPost B gg gm P v vm room (l, over, Bitmap.addW 2048 ws i) w) := by
  have HB := Lib.hid hb
  obtain ⟨ok, hok⟩ : ∃ ok, ok = Bitmap.addOk 2048 ws i := ⟨_, rfl⟩
  have HOK := Lib.hid hok
  have gk : (ok == ok) = true := by simp
  clear hok
  go_enter Tryd.func9, Tryd.ntmps9
  go_upto_region 1 with (fail)
  have F0 := Lib.hid ((Fr.refl No w).alloc (.cells #[.int .i64 2, .int .i64 i, .int .i64 fr] 31))
  have X0 := Lib.hid (heap_alloc_new w (.cells #[.int .i64 2, .int .i64 i, .int .i64 fr] 31))
  generalize w.alloc (.cells #[.int .i64 2, .int .i64 i, .int .i64 fr] 31) = w0 at F0 X0 ⊢
  have b0 : w0.cell? ⟨w.heap.size, 0, none⟩ = some (.int .i64 2) := cell_of X0.out 0
  have b1 : w0.cell? ⟨w.heap.size, 1, none⟩ = some (.int .i64 i) := cell_of X0.out 1
  have b2 : w0.cell? ⟨w.heap.size, 2, none⟩ = some (.int .i64 fr) := cell_of X0.out 2
  have C1 := Lib.hid b1
  have C2 := Lib.hid b2
  have n0 := World.new_ne w0 _ b0
  have B0 := Lib.hid (HB.out.no F0.out)
  have NG := Lib.hid (show ¬ P.foot v w.heap.size from fun h => by have := (HB.out.g.lt _ (.inr (.inr h))).2; omega)
  have NF := Lib.hid (show ¬ feet gm P v vm w.heap.size from fun h => by have := (HB.out.low _ h).2; omega)
  clear hb
  go_wp2_with fail
  go_region_held3 (fun W => W.cell? ⟨w.heap.size, 1, none⟩ = some (.int .i64 i)) ((first | with_reducible assumption | (with_reducible exact F8c.out.cell C1.out NF.out) | (with_reducible exact F7c.out.cell C1.out NG.out) | (go_keep; done)))
    ((first
      | (go_at_call 16; refine (Shade.black_any B gg P v l room over ws i _ (B0.out.no (by repeat (first | exact Fr.refl _ _ | apply Fr.drewN | apply Fr.drew | apply Fr.alloc))).g).mono ?_; rintro e7 w7 ⟨rfl, v7, hg7, hv7, hf7⟩; have G7 := Lib.hid hg7; have V7 : Hid (v7.ownBlock = v.ownBlock ∨ ∃ k, v7.ownBlock = some k ∧ w0.heap.size ≤ k) := Lib.hid hv7; have F7c := Lib.hid (show Fr (P.foot v) w0 w7 from Fr.trans (by repeat (first | exact Fr.refl _ _ | apply Fr.drewN | apply Fr.drew | apply Fr.alloc)) hf7 (fun i hi => .inl hi)); have R7 := Lib.hid (B0.out.r.fr F7c.out (fun k hk h => sep B0.out.g B0.out.r k hk (.inr (.inr h)))); clear hg7 hv7 hf7; rw [← HOK.out])
      | (go_at_call 27; refine (Ref18.black_any B gm vm l room over ws i _ (R7.out.no (by repeat (first | exact Fr.refl _ _ | apply Fr.drewN | apply Fr.drew | apply Fr.alloc)))).mono ?_; rintro e8 w8 ⟨rfl, v8, hr8, hv8, hf8⟩; have R8 := Lib.hid hr8; have V8 : Hid (∀ k, v8.ownBlock = some k → vm.ownBlock = some k ∨ w7.heap.size ≤ k) := Lib.hid hv8; have F8d := Lib.hid (show Fr (Stack.Foot gm vm) w7 w8 from Fr.trans (by repeat (first | exact Fr.refl _ _ | apply Fr.drewN | apply Fr.drew | apply Fr.alloc)) hf8 (fun i hi => .inl hi)); have F8c := Lib.hid (show Fr (feet gm P v vm) w0 w8 from (F7c.out.mono (fun k hk => .inl hk)).trans (F8d.out.mono (fun k hk => .inr hk)) (fun i hi => .inl hi)); clear hr8 hv8 hf8; rw [← HOK.out])))
  all_goals
    go_wp2_with fail
    go_ret
    exact close HB.out F0.out G7.out V7.out F7c.out R8.out V8.out F8d.out (Fr.refl _ _)

set_option maxRecDepth 100000 in
set_option maxHeartbeats 12800000 in
theorem is_7_neg (B gg gm : Nat) (P : Pl) (v vm : Value) (l : List (Int × Int)) (room : Int) (over : Bool) (ws : List Nat) (kd : Int) (i fr : Int) (w : World) (hb : Both w B gg gm P v vm l room over ws) (hi : i < 0) (h1 : kd ≠ 1) (h2 : kd ≠ 2) (h3 : kd ≠ 3) (h4 : kd ≠ 4) (h5 : kd ≠ 5) (h6 : kd ≠ 6) :
    Calls Tryd.prog 9 #[.pointer (some ⟨gg, 0, none⟩), .pointer (some ⟨gm, 0, none⟩), .agg #[.int .i64 kd, .int .i64 i, .int .i64 fr]] w (StepPost B gg gm P v vm room (l, over, ws) w) := by
  have HB := Lib.hid hb
  have HMK : Hid (Bitmap.hasI 2048 ws i = false) := Lib.hid (by unfold Bitmap.hasI; rw [decide_eq_false (show ¬ 0 ≤ i by omega)]; rfl)
  have g1 : decide (0 ≤ i) = false := by simp; omega
  clear hi
  have e1 : (kd == 1) = false := by simpa using h1
  have e2 : (kd == 2) = false := by simpa using h2
  have e3 : (kd == 3) = false := by simpa using h3
  have e4 : (kd == 4) = false := by simpa using h4
  have e5 : (kd == 5) = false := by simpa using h5
  have e6 : (kd == 6) = false := by simpa using h6
  clear h1 h2 h3 h4 h5 h6
  go_enter Tryd.func9, Tryd.ntmps9
  go_upto_region 1 with (fail)
  have F0 := Lib.hid ((Fr.refl No w).alloc (.cells #[.int .i64 kd, .int .i64 i, .int .i64 fr] 31))
  have X0 := Lib.hid (heap_alloc_new w (.cells #[.int .i64 kd, .int .i64 i, .int .i64 fr] 31))
  generalize w.alloc (.cells #[.int .i64 kd, .int .i64 i, .int .i64 fr] 31) = w0 at F0 X0 ⊢
  have b0 : w0.cell? ⟨w.heap.size, 0, none⟩ = some (.int .i64 kd) := cell_of X0.out 0
  have b1 : w0.cell? ⟨w.heap.size, 1, none⟩ = some (.int .i64 i) := cell_of X0.out 1
  have b2 : w0.cell? ⟨w.heap.size, 2, none⟩ = some (.int .i64 fr) := cell_of X0.out 2
  have C1 := Lib.hid b1
  have C2 := Lib.hid b2
  have n0 := World.new_ne w0 _ b0
  have B0 := Lib.hid (HB.out.no F0.out)
  have NG := Lib.hid (show ¬ P.foot v w.heap.size from fun h => by have := (HB.out.g.lt _ (.inr (.inr h))).2; omega)
  have NF := Lib.hid (show ¬ feet gm P v vm w.heap.size from fun h => by have := (HB.out.low _ h).2; omega)
  clear hb
  go_wp2_with fail
  go_quiet (fail)
  go_wp2_with fail
  with_reducible refine (is_any B gg P v l room over ws i _ (B0.out.no (by repeat (first | exact Fr.refl _ _ | apply Fr.drewN | apply Fr.drew | apply Fr.alloc))).g).mono ?_
  rintro e7 w7 ⟨rfl, q7, hw7⟩
  rw [HMK.out]
  have F7 := Lib.hid (show Fr No w w7 from Bitmap.drewN_fr (by repeat (first | exact F0.out | apply Fr.drewN | apply Fr.drew | apply Fr.alloc)) hw7)
  clear hw7
  go_wp2_with fail
  go_ret
  exact ⟨rfl, v, vm, HB.out.no F7.out, fun k hk => .inl hk, F7.out.mono (fun _ h => h.elim)⟩

set_option maxRecDepth 100000 in
set_option maxHeartbeats 12800000 in
theorem is_7_far (B gg gm : Nat) (P : Pl) (v vm : Value) (l : List (Int × Int)) (room : Int) (over : Bool) (ws : List Nat) (kd : Int) (i fr : Int) (w : World) (hb : Both w B gg gm P v vm l room over ws) (hi : 2048 ≤ i) (h1 : kd ≠ 1) (h2 : kd ≠ 2) (h3 : kd ≠ 3) (h4 : kd ≠ 4) (h5 : kd ≠ 5) (h6 : kd ≠ 6) :
    Calls Tryd.prog 9 #[.pointer (some ⟨gg, 0, none⟩), .pointer (some ⟨gm, 0, none⟩), .agg #[.int .i64 kd, .int .i64 i, .int .i64 fr]] w (StepPost B gg gm P v vm room (l, over, ws) w) := by
  have HB := Lib.hid hb
  have HMK : Hid (Bitmap.hasI 2048 ws i = false) := Lib.hid (by unfold Bitmap.hasI; rw [decide_eq_false (show ¬ i < ((2048 : Nat) : Int) by omega)]; simp)
  have g1 : decide (0 ≤ i) = true := by simp; omega
  have g2 : decide (i < 2048) = false := by simp; omega
  clear hi
  have e1 : (kd == 1) = false := by simpa using h1
  have e2 : (kd == 2) = false := by simpa using h2
  have e3 : (kd == 3) = false := by simpa using h3
  have e4 : (kd == 4) = false := by simpa using h4
  have e5 : (kd == 5) = false := by simpa using h5
  have e6 : (kd == 6) = false := by simpa using h6
  clear h1 h2 h3 h4 h5 h6
  go_enter Tryd.func9, Tryd.ntmps9
  go_upto_region 1 with (fail)
  have F0 := Lib.hid ((Fr.refl No w).alloc (.cells #[.int .i64 kd, .int .i64 i, .int .i64 fr] 31))
  have X0 := Lib.hid (heap_alloc_new w (.cells #[.int .i64 kd, .int .i64 i, .int .i64 fr] 31))
  generalize w.alloc (.cells #[.int .i64 kd, .int .i64 i, .int .i64 fr] 31) = w0 at F0 X0 ⊢
  have b0 : w0.cell? ⟨w.heap.size, 0, none⟩ = some (.int .i64 kd) := cell_of X0.out 0
  have b1 : w0.cell? ⟨w.heap.size, 1, none⟩ = some (.int .i64 i) := cell_of X0.out 1
  have b2 : w0.cell? ⟨w.heap.size, 2, none⟩ = some (.int .i64 fr) := cell_of X0.out 2
  have C1 := Lib.hid b1
  have C2 := Lib.hid b2
  have n0 := World.new_ne w0 _ b0
  have B0 := Lib.hid (HB.out.no F0.out)
  have NG := Lib.hid (show ¬ P.foot v w.heap.size from fun h => by have := (HB.out.g.lt _ (.inr (.inr h))).2; omega)
  have NF := Lib.hid (show ¬ feet gm P v vm w.heap.size from fun h => by have := (HB.out.low _ h).2; omega)
  clear hb
  go_wp2_with fail
  go_quiet (fail)
  go_wp2_with fail
  with_reducible refine (is_any B gg P v l room over ws i _ (B0.out.no (by repeat (first | exact Fr.refl _ _ | apply Fr.drewN | apply Fr.drew | apply Fr.alloc))).g).mono ?_
  rintro e7 w7 ⟨rfl, q7, hw7⟩
  rw [HMK.out]
  have F7 := Lib.hid (show Fr No w w7 from Bitmap.drewN_fr (by repeat (first | exact F0.out | apply Fr.drewN | apply Fr.drew | apply Fr.alloc)) hw7)
  clear hw7
  go_wp2_with fail
  go_ret
  exact ⟨rfl, v, vm, HB.out.no F7.out, fun k hk => .inl hk, F7.out.mono (fun _ h => h.elim)⟩

set_option maxRecDepth 100000 in
set_option maxHeartbeats 12800000 in
theorem is_7_in (B gg gm : Nat) (P : Pl) (v vm : Value) (l : List (Int × Int)) (room : Int) (over : Bool) (ws : List Nat) (kd : Int) (i fr : Int) (w : World) (hb : Both w B gg gm P v vm l room over ws) (k : Nat) (hk : k < 2048) (hi : i = (k : Int)) (h1 : kd ≠ 1) (h2 : kd ≠ 2) (h3 : kd ≠ 3) (h4 : kd ≠ 4) (h5 : kd ≠ 5) (h6 : kd ≠ 6) :
    Calls Tryd.prog 9 #[.pointer (some ⟨gg, 0, none⟩), .pointer (some ⟨gm, 0, none⟩), .agg #[.int .i64 kd, .int .i64 i, .int .i64 fr]] w (StepPost B gg gm P v vm room (l, over, ws) w) := by
  have HB := Lib.hid hb
  subst hi
  have i1 : (0 : Int) ≤ (k : Int) := Int.natCast_nonneg _
  have i2 : (k : Int) < 2048 := by omega
  obtain ⟨b, hbk⟩ : ∃ b, b = has ws k := ⟨_, rfl⟩
  have HBK := Lib.hid hbk
  have HK := Lib.hid hk
  have HMK : Hid (Bitmap.hasI 2048 ws (k : Int) = b) := Lib.hid (by unfold Bitmap.hasI; rw [decide_eq_true i1, decide_eq_true (show (k : Int) < ((2048 : Nat) : Int) from i2), hbk]; rfl)
  have gb : (b == b) = true := by simp
  clear hk hbk
  have e1 : (kd == 1) = false := by simpa using h1
  have e2 : (kd == 2) = false := by simpa using h2
  have e3 : (kd == 3) = false := by simpa using h3
  have e4 : (kd == 4) = false := by simpa using h4
  have e5 : (kd == 5) = false := by simpa using h5
  have e6 : (kd == 6) = false := by simpa using h6
  clear h1 h2 h3 h4 h5 h6
  go_enter Tryd.func9, Tryd.ntmps9
  go_upto_region 1 with (fail)
  have F0 := Lib.hid ((Fr.refl No w).alloc (.cells #[.int .i64 kd, .int .i64 (k : Int), .int .i64 fr] 31))
  have X0 := Lib.hid (heap_alloc_new w (.cells #[.int .i64 kd, .int .i64 (k : Int), .int .i64 fr] 31))
  generalize w.alloc (.cells #[.int .i64 kd, .int .i64 (k : Int), .int .i64 fr] 31) = w0 at F0 X0 ⊢
  have b0 : w0.cell? ⟨w.heap.size, 0, none⟩ = some (.int .i64 kd) := cell_of X0.out 0
  have b1 : w0.cell? ⟨w.heap.size, 1, none⟩ = some (.int .i64 (k : Int)) := cell_of X0.out 1
  have b2 : w0.cell? ⟨w.heap.size, 2, none⟩ = some (.int .i64 fr) := cell_of X0.out 2
  have C1 := Lib.hid b1
  have C2 := Lib.hid b2
  have n0 := World.new_ne w0 _ b0
  have B0 := Lib.hid (HB.out.no F0.out)
  have NG := Lib.hid (show ¬ P.foot v w.heap.size from fun h => by have := (HB.out.g.lt _ (.inr (.inr h))).2; omega)
  have NF := Lib.hid (show ¬ feet gm P v vm w.heap.size from fun h => by have := (HB.out.low _ h).2; omega)
  clear hb
  have m0 := (B0.out.r.mark k HK.out).1
  rw [← HBK.out] at m0
  go_wp2_with fail
  go_quiet (fail)
  go_wp2_with fail
  with_reducible refine (is_any B gg P v l room over ws (k : Int) _ (B0.out.no (by repeat (first | exact Fr.refl _ _ | apply Fr.drewN | apply Fr.drew | apply Fr.alloc))).g).mono ?_
  rintro e7 w7 ⟨rfl, q7, hw7⟩
  rw [HMK.out]
  have F7 := Lib.hid (show Fr No w w7 from Bitmap.drewN_fr (by repeat (first | exact F0.out | apply Fr.drewN | apply Fr.drew | apply Fr.alloc)) hw7)
  clear hw7
  go_wp2_with fail
  go_ret
  exact ⟨rfl, v, vm, HB.out.no F7.out, fun k hk => .inl hk, F7.out.mono (fun _ h => h.elim)⟩

set_option maxRecDepth 100000 in
set_option maxHeartbeats 12800000 in
theorem rest_5_neg (B gg gm : Nat) (P : Pl) (v vm : Value) (l : List (Int × Int)) (room : Int) (over : Bool) (ws : List Nat) (i fr : Int) (w : World) (hb : Both w B gg gm P v vm l room over ws) (hi : i < 0) :
    Calls Tryd.prog 9 #[.pointer (some ⟨gg, 0, none⟩), .pointer (some ⟨gm, 0, none⟩), .agg #[.int .i64 5, .int .i64 i, .int .i64 fr]] w (StepPost B gg gm P v vm room (pushL l room (i, fr), pushO l room over, ws) w) := by
  have HB := Lib.hid hb
  have HMK : Hid (Bitmap.hasI 2048 ws i = false) := Lib.hid (by unfold Bitmap.hasI; rw [decide_eq_false (show ¬ 0 ≤ i by omega)]; rfl)
  have g1 : decide (0 ≤ i) = false := by simp; omega
  clear hi
  obtain ⟨ok, hok⟩ : ∃ ok, ok = decide ((l.length : Int) < room) := ⟨_, rfl⟩
  have HOK := Lib.hid hok
  have gk : (ok == ok) = true := by simp
  clear hok
  go_enter Tryd.func9, Tryd.ntmps9
  go_upto_region 1 with (fail)
  have F0 := Lib.hid ((Fr.refl No w).alloc (.cells #[.int .i64 5, .int .i64 i, .int .i64 fr] 31))
  have X0 := Lib.hid (heap_alloc_new w (.cells #[.int .i64 5, .int .i64 i, .int .i64 fr] 31))
  generalize w.alloc (.cells #[.int .i64 5, .int .i64 i, .int .i64 fr] 31) = w0 at F0 X0 ⊢
  have b0 : w0.cell? ⟨w.heap.size, 0, none⟩ = some (.int .i64 5) := cell_of X0.out 0
  have b1 : w0.cell? ⟨w.heap.size, 1, none⟩ = some (.int .i64 i) := cell_of X0.out 1
  have b2 : w0.cell? ⟨w.heap.size, 2, none⟩ = some (.int .i64 fr) := cell_of X0.out 2
  have C1 := Lib.hid b1
  have C2 := Lib.hid b2
  have n0 := World.new_ne w0 _ b0
  have B0 := Lib.hid (HB.out.no F0.out)
  have NG := Lib.hid (show ¬ P.foot v w.heap.size from fun h => by have := (HB.out.g.lt _ (.inr (.inr h))).2; omega)
  have NF := Lib.hid (show ¬ feet gm P v vm w.heap.size from fun h => by have := (HB.out.low _ h).2; omega)
  clear hb
  go_wp2_with fail
  go_quiet (fail)
  go_wp2_with fail
  go_region_held3 (fun W => W.cell? ⟨w.heap.size, 1, none⟩ = some (.int .i64 i) ∧ W.cell? ⟨w.heap.size, 2, none⟩ = some (.int .i64 fr)) (((try go_split_ands); refine ⟨?_, ?_⟩ <;> (first | with_reducible assumption | (with_reducible exact F8c.out.cell C2.out NF.out) | (with_reducible exact F7c.out.cell C2.out NG.out) | (with_reducible exact F8c.out.cell C1.out NF.out) | (with_reducible exact F7c.out.cell C1.out NG.out) | (go_keep; done))))
    ((first
      | (go_at_call 19; refine (Shade.rest_any B gg P v l room over ws i fr _ (B0.out.no (by repeat (first | exact Fr.refl _ _ | apply Fr.drewN | apply Fr.drew | apply Fr.alloc))).g).mono ?_; rintro e7 w7 ⟨rfl, v7, hg7, hv7, hf7⟩; have G7 := Lib.hid hg7; have V7 : Hid (v7.ownBlock = v.ownBlock ∨ ∃ k, v7.ownBlock = some k ∧ w0.heap.size ≤ k) := Lib.hid hv7; have F7c := Lib.hid (show Fr (P.foot v) w0 w7 from Fr.trans (by repeat (first | exact Fr.refl _ _ | apply Fr.drewN | apply Fr.drew | apply Fr.alloc)) hf7 (fun i hi => .inl hi)); have R7 := Lib.hid (B0.out.r.fr F7c.out (fun k hk h => sep B0.out.g B0.out.r k hk (.inr (.inr h)))); clear hg7 hv7 hf7; rw [← HOK.out])
      | (go_at_call 29; refine (Ref18.push_any B gm vm l room over ws i fr _ (R7.out.no (by repeat (first | exact Fr.refl _ _ | apply Fr.drewN | apply Fr.drew | apply Fr.alloc)))).mono ?_; rintro e8 w8 ⟨rfl, v8, hr8, hv8, hf8⟩; have R8 := Lib.hid hr8; have V8 : Hid (∀ k, v8.ownBlock = some k → vm.ownBlock = some k ∨ w7.heap.size ≤ k) := Lib.hid hv8; have F8d := Lib.hid (show Fr (Stack.Foot gm vm) w7 w8 from Fr.trans (by repeat (first | exact Fr.refl _ _ | apply Fr.drewN | apply Fr.drew | apply Fr.alloc)) hf8 (fun i hi => .inl hi)); have F8c := Lib.hid (show Fr (feet gm P v vm) w0 w8 from (F7c.out.mono (fun k hk => .inl hk)).trans (F8d.out.mono (fun k hk => .inr hk)) (fun i hi => .inl hi)); clear hr8 hv8 hf8; rw [← HOK.out])))
  all_goals
    go_wp2_with fail
    go_ret
    exact close HB.out F0.out G7.out V7.out F7c.out R8.out V8.out F8d.out (Fr.refl _ _)

set_option maxRecDepth 100000 in
set_option maxHeartbeats 12800000 in
theorem rest_5_far (B gg gm : Nat) (P : Pl) (v vm : Value) (l : List (Int × Int)) (room : Int) (over : Bool) (ws : List Nat) (i fr : Int) (w : World) (hb : Both w B gg gm P v vm l room over ws) (hi : 2048 ≤ i) :
    Calls Tryd.prog 9 #[.pointer (some ⟨gg, 0, none⟩), .pointer (some ⟨gm, 0, none⟩), .agg #[.int .i64 5, .int .i64 i, .int .i64 fr]] w (StepPost B gg gm P v vm room (pushL l room (i, fr), pushO l room over, ws) w) := by
  have HB := Lib.hid hb
  have HMK : Hid (Bitmap.hasI 2048 ws i = false) := Lib.hid (by unfold Bitmap.hasI; rw [decide_eq_false (show ¬ i < ((2048 : Nat) : Int) by omega)]; simp)
  have g1 : decide (0 ≤ i) = true := by simp; omega
  have g2 : decide (i < 2048) = false := by simp; omega
  clear hi
  obtain ⟨ok, hok⟩ : ∃ ok, ok = decide ((l.length : Int) < room) := ⟨_, rfl⟩
  have HOK := Lib.hid hok
  have gk : (ok == ok) = true := by simp
  clear hok
  go_enter Tryd.func9, Tryd.ntmps9
  go_upto_region 1 with (fail)
  have F0 := Lib.hid ((Fr.refl No w).alloc (.cells #[.int .i64 5, .int .i64 i, .int .i64 fr] 31))
  have X0 := Lib.hid (heap_alloc_new w (.cells #[.int .i64 5, .int .i64 i, .int .i64 fr] 31))
  generalize w.alloc (.cells #[.int .i64 5, .int .i64 i, .int .i64 fr] 31) = w0 at F0 X0 ⊢
  have b0 : w0.cell? ⟨w.heap.size, 0, none⟩ = some (.int .i64 5) := cell_of X0.out 0
  have b1 : w0.cell? ⟨w.heap.size, 1, none⟩ = some (.int .i64 i) := cell_of X0.out 1
  have b2 : w0.cell? ⟨w.heap.size, 2, none⟩ = some (.int .i64 fr) := cell_of X0.out 2
  have C1 := Lib.hid b1
  have C2 := Lib.hid b2
  have n0 := World.new_ne w0 _ b0
  have B0 := Lib.hid (HB.out.no F0.out)
  have NG := Lib.hid (show ¬ P.foot v w.heap.size from fun h => by have := (HB.out.g.lt _ (.inr (.inr h))).2; omega)
  have NF := Lib.hid (show ¬ feet gm P v vm w.heap.size from fun h => by have := (HB.out.low _ h).2; omega)
  clear hb
  go_wp2_with fail
  go_quiet (fail)
  go_wp2_with fail
  go_region_held3 (fun W => W.cell? ⟨w.heap.size, 1, none⟩ = some (.int .i64 i) ∧ W.cell? ⟨w.heap.size, 2, none⟩ = some (.int .i64 fr)) (((try go_split_ands); refine ⟨?_, ?_⟩ <;> (first | with_reducible assumption | (with_reducible exact F8c.out.cell C2.out NF.out) | (with_reducible exact F7c.out.cell C2.out NG.out) | (with_reducible exact F8c.out.cell C1.out NF.out) | (with_reducible exact F7c.out.cell C1.out NG.out) | (go_keep; done))))
    ((first
      | (go_at_call 19; refine (Shade.rest_any B gg P v l room over ws i fr _ (B0.out.no (by repeat (first | exact Fr.refl _ _ | apply Fr.drewN | apply Fr.drew | apply Fr.alloc))).g).mono ?_; rintro e7 w7 ⟨rfl, v7, hg7, hv7, hf7⟩; have G7 := Lib.hid hg7; have V7 : Hid (v7.ownBlock = v.ownBlock ∨ ∃ k, v7.ownBlock = some k ∧ w0.heap.size ≤ k) := Lib.hid hv7; have F7c := Lib.hid (show Fr (P.foot v) w0 w7 from Fr.trans (by repeat (first | exact Fr.refl _ _ | apply Fr.drewN | apply Fr.drew | apply Fr.alloc)) hf7 (fun i hi => .inl hi)); have R7 := Lib.hid (B0.out.r.fr F7c.out (fun k hk h => sep B0.out.g B0.out.r k hk (.inr (.inr h)))); clear hg7 hv7 hf7; rw [← HOK.out])
      | (go_at_call 29; refine (Ref18.push_any B gm vm l room over ws i fr _ (R7.out.no (by repeat (first | exact Fr.refl _ _ | apply Fr.drewN | apply Fr.drew | apply Fr.alloc)))).mono ?_; rintro e8 w8 ⟨rfl, v8, hr8, hv8, hf8⟩; have R8 := Lib.hid hr8; have V8 : Hid (∀ k, v8.ownBlock = some k → vm.ownBlock = some k ∨ w7.heap.size ≤ k) := Lib.hid hv8; have F8d := Lib.hid (show Fr (Stack.Foot gm vm) w7 w8 from Fr.trans (by repeat (first | exact Fr.refl _ _ | apply Fr.drewN | apply Fr.drew | apply Fr.alloc)) hf8 (fun i hi => .inl hi)); have F8c := Lib.hid (show Fr (feet gm P v vm) w0 w8 from (F7c.out.mono (fun k hk => .inl hk)).trans (F8d.out.mono (fun k hk => .inr hk)) (fun i hi => .inl hi)); clear hr8 hv8 hf8; rw [← HOK.out])))
  all_goals
    go_wp2_with fail
    go_ret
    exact close HB.out F0.out G7.out V7.out F7c.out R8.out V8.out F8d.out (Fr.refl _ _)

set_option maxRecDepth 100000 in
set_option maxHeartbeats 12800000 in
theorem rest_5_in (B gg gm : Nat) (P : Pl) (v vm : Value) (l : List (Int × Int)) (room : Int) (over : Bool) (ws : List Nat) (i fr : Int) (w : World) (hb : Both w B gg gm P v vm l room over ws) (k : Nat) (hk : k < 2048) (hi : i = (k : Int)) :
    Calls Tryd.prog 9 #[.pointer (some ⟨gg, 0, none⟩), .pointer (some ⟨gm, 0, none⟩), .agg #[.int .i64 5, .int .i64 i, .int .i64 fr]] w (StepPost B gg gm P v vm room (pushL l room (i, fr), pushO l room over, ws) w) := by
  have HB := Lib.hid hb
  subst hi
  have i1 : (0 : Int) ≤ (k : Int) := Int.natCast_nonneg _
  have i2 : (k : Int) < 2048 := by omega
  obtain ⟨b, hbk⟩ : ∃ b, b = has ws k := ⟨_, rfl⟩
  have HBK := Lib.hid hbk
  have HK := Lib.hid hk
  have HMK : Hid (Bitmap.hasI 2048 ws (k : Int) = b) := Lib.hid (by unfold Bitmap.hasI; rw [decide_eq_true i1, decide_eq_true (show (k : Int) < ((2048 : Nat) : Int) from i2), hbk]; rfl)
  have gb : (b == b) = true := by simp
  clear hk hbk
  obtain ⟨ok, hok⟩ : ∃ ok, ok = decide ((l.length : Int) < room) := ⟨_, rfl⟩
  have HOK := Lib.hid hok
  have gk : (ok == ok) = true := by simp
  clear hok
  go_enter Tryd.func9, Tryd.ntmps9
  go_upto_region 1 with (fail)
  have F0 := Lib.hid ((Fr.refl No w).alloc (.cells #[.int .i64 5, .int .i64 (k : Int), .int .i64 fr] 31))
  have X0 := Lib.hid (heap_alloc_new w (.cells #[.int .i64 5, .int .i64 (k : Int), .int .i64 fr] 31))
  generalize w.alloc (.cells #[.int .i64 5, .int .i64 (k : Int), .int .i64 fr] 31) = w0 at F0 X0 ⊢
  have b0 : w0.cell? ⟨w.heap.size, 0, none⟩ = some (.int .i64 5) := cell_of X0.out 0
  have b1 : w0.cell? ⟨w.heap.size, 1, none⟩ = some (.int .i64 (k : Int)) := cell_of X0.out 1
  have b2 : w0.cell? ⟨w.heap.size, 2, none⟩ = some (.int .i64 fr) := cell_of X0.out 2
  have C1 := Lib.hid b1
  have C2 := Lib.hid b2
  have n0 := World.new_ne w0 _ b0
  have B0 := Lib.hid (HB.out.no F0.out)
  have NG := Lib.hid (show ¬ P.foot v w.heap.size from fun h => by have := (HB.out.g.lt _ (.inr (.inr h))).2; omega)
  have NF := Lib.hid (show ¬ feet gm P v vm w.heap.size from fun h => by have := (HB.out.low _ h).2; omega)
  clear hb
  have m0 := (B0.out.r.mark k HK.out).1
  rw [← HBK.out] at m0
  go_wp2_with fail
  go_quiet (fail)
  go_wp2_with fail
  go_region_held3 (fun W => W.cell? ⟨w.heap.size, 1, none⟩ = some (.int .i64 (k : Int)) ∧ W.cell? ⟨w.heap.size, 2, none⟩ = some (.int .i64 fr)) (((try go_split_ands); refine ⟨?_, ?_⟩ <;> (first | with_reducible assumption | (with_reducible exact F8c.out.cell C2.out NF.out) | (with_reducible exact F7c.out.cell C2.out NG.out) | (with_reducible exact F8c.out.cell C1.out NF.out) | (with_reducible exact F7c.out.cell C1.out NG.out) | (go_keep; done))))
    ((first
      | (go_at_call 19; refine (Shade.rest_any B gg P v l room over ws (k : Int) fr _ (B0.out.no (by repeat (first | exact Fr.refl _ _ | apply Fr.drewN | apply Fr.drew | apply Fr.alloc))).g).mono ?_; rintro e7 w7 ⟨rfl, v7, hg7, hv7, hf7⟩; have G7 := Lib.hid hg7; have V7 : Hid (v7.ownBlock = v.ownBlock ∨ ∃ k, v7.ownBlock = some k ∧ w0.heap.size ≤ k) := Lib.hid hv7; have F7c := Lib.hid (show Fr (P.foot v) w0 w7 from Fr.trans (by repeat (first | exact Fr.refl _ _ | apply Fr.drewN | apply Fr.drew | apply Fr.alloc)) hf7 (fun i hi => .inl hi)); have R7 := Lib.hid (B0.out.r.fr F7c.out (fun k hk h => sep B0.out.g B0.out.r k hk (.inr (.inr h)))); clear hg7 hv7 hf7; rw [← HOK.out])
      | (go_at_call 29; refine (Ref18.push_any B gm vm l room over ws (k : Int) fr _ (R7.out.no (by repeat (first | exact Fr.refl _ _ | apply Fr.drewN | apply Fr.drew | apply Fr.alloc)))).mono ?_; rintro e8 w8 ⟨rfl, v8, hr8, hv8, hf8⟩; have R8 := Lib.hid hr8; have V8 : Hid (∀ k, v8.ownBlock = some k → vm.ownBlock = some k ∨ w7.heap.size ≤ k) := Lib.hid hv8; have F8d := Lib.hid (show Fr (Stack.Foot gm vm) w7 w8 from Fr.trans (by repeat (first | exact Fr.refl _ _ | apply Fr.drewN | apply Fr.drew | apply Fr.alloc)) hf8 (fun i hi => .inl hi)); have F8c := Lib.hid (show Fr (feet gm P v vm) w0 w8 from (F7c.out.mono (fun k hk => .inl hk)).trans (F8d.out.mono (fun k hk => .inr hk)) (fun i hi => .inl hi)); clear hr8 hv8 hf8; rw [← HOK.out])))
  all_goals
    go_wp2_with fail
    go_ret
    exact close HB.out F0.out G7.out V7.out F7c.out R8.out V8.out F8d.out (Fr.refl _ _)

set_option maxRecDepth 100000 in
set_option maxHeartbeats 12800000 in
theorem clear_3_neg (B gg gm : Nat) (P : Pl) (v vm : Value) (l : List (Int × Int)) (room : Int) (over : Bool) (ws : List Nat) (i fr : Int) (w : World) (hb : Both w B gg gm P v vm l room over ws) (hi : i < 0) :
    Calls Tryd.prog 9 #[.pointer (some ⟨gg, 0, none⟩), .pointer (some ⟨gm, 0, none⟩), .agg #[.int .i64 3, .int .i64 i, .int .i64 fr]] w (StepPost B gg gm P v vm room (l, over, ws) w) := by
  have HB := Lib.hid hb
  have HMK : Hid (Bitmap.hasI 2048 ws i = false) := Lib.hid (by unfold Bitmap.hasI; rw [decide_eq_false (show ¬ 0 ≤ i by omega)]; rfl)
  have g1 : decide (0 ≤ i) = false := by simp; omega
  clear hi
  go_enter Tryd.func9, Tryd.ntmps9
  go_upto_region 1 with (fail)
  have F0 := Lib.hid ((Fr.refl No w).alloc (.cells #[.int .i64 3, .int .i64 i, .int .i64 fr] 31))
  have X0 := Lib.hid (heap_alloc_new w (.cells #[.int .i64 3, .int .i64 i, .int .i64 fr] 31))
  generalize w.alloc (.cells #[.int .i64 3, .int .i64 i, .int .i64 fr] 31) = w0 at F0 X0 ⊢
  have b0 : w0.cell? ⟨w.heap.size, 0, none⟩ = some (.int .i64 3) := cell_of X0.out 0
  have b1 : w0.cell? ⟨w.heap.size, 1, none⟩ = some (.int .i64 i) := cell_of X0.out 1
  have b2 : w0.cell? ⟨w.heap.size, 2, none⟩ = some (.int .i64 fr) := cell_of X0.out 2
  have C1 := Lib.hid b1
  have C2 := Lib.hid b2
  have n0 := World.new_ne w0 _ b0
  have B0 := Lib.hid (HB.out.no F0.out)
  have NG := Lib.hid (show ¬ P.foot v w.heap.size from fun h => by have := (HB.out.g.lt _ (.inr (.inr h))).2; omega)
  have NF := Lib.hid (show ¬ feet gm P v vm w.heap.size from fun h => by have := (HB.out.low _ h).2; omega)
  clear hb
  go_wp2_with fail
  go_quiet (fail)
  go_wp2_with fail
  with_reducible refine (clearS_any B gg P v l room over ws i _ (B0.out.no (by repeat (first | exact Fr.refl _ _ | apply Fr.drewN | apply Fr.drew | apply Fr.alloc))).g).mono ?_
  rintro e7 w7 ⟨rfl, v7, hg7, hv7, hf7⟩
  have HRW : Hid (Bitmap.remW 2048 ws i = ws) := Lib.hid (by unfold Bitmap.remW; rw [HMK.out]; rfl)
  rw [HRW.out] at hg7
  rw [HMK.out]
  have G7 := Lib.hid hg7
  have V7 : Hid (v7.ownBlock = v.ownBlock ∨ ∃ k, v7.ownBlock = some k ∧ w0.heap.size ≤ k) := Lib.hid hv7
  have F7c := Lib.hid (show Fr (P.foot v) w0 w7 from Fr.trans (by repeat (first | exact Fr.refl _ _ | apply Fr.drewN | apply Fr.drew | apply Fr.alloc)) hf7 (fun i hi => .inl hi))
  have R7 := Lib.hid (B0.out.r.fr F7c.out (fun k hk h => sep B0.out.g B0.out.r k hk (.inr (.inr h))))
  clear hg7 hv7 hf7
  go_wp2_with fail
  go_ret
  exact close HB.out F0.out G7.out V7.out F7c.out R7.out (fun k hk => .inl hk) (Fr.refl _ _) (Fr.refl _ _)

set_option maxRecDepth 100000 in
set_option maxHeartbeats 12800000 in
theorem clear_3_far (B gg gm : Nat) (P : Pl) (v vm : Value) (l : List (Int × Int)) (room : Int) (over : Bool) (ws : List Nat) (i fr : Int) (w : World) (hb : Both w B gg gm P v vm l room over ws) (hi : 2048 ≤ i) :
    Calls Tryd.prog 9 #[.pointer (some ⟨gg, 0, none⟩), .pointer (some ⟨gm, 0, none⟩), .agg #[.int .i64 3, .int .i64 i, .int .i64 fr]] w (StepPost B gg gm P v vm room (l, over, ws) w) := by
  have HB := Lib.hid hb
  have HMK : Hid (Bitmap.hasI 2048 ws i = false) := Lib.hid (by unfold Bitmap.hasI; rw [decide_eq_false (show ¬ i < ((2048 : Nat) : Int) by omega)]; simp)
  have g1 : decide (0 ≤ i) = true := by simp; omega
  have g2 : decide (i < 2048) = false := by simp; omega
  clear hi
  go_enter Tryd.func9, Tryd.ntmps9
  go_upto_region 1 with (fail)
  have F0 := Lib.hid ((Fr.refl No w).alloc (.cells #[.int .i64 3, .int .i64 i, .int .i64 fr] 31))
  have X0 := Lib.hid (heap_alloc_new w (.cells #[.int .i64 3, .int .i64 i, .int .i64 fr] 31))
  generalize w.alloc (.cells #[.int .i64 3, .int .i64 i, .int .i64 fr] 31) = w0 at F0 X0 ⊢
  have b0 : w0.cell? ⟨w.heap.size, 0, none⟩ = some (.int .i64 3) := cell_of X0.out 0
  have b1 : w0.cell? ⟨w.heap.size, 1, none⟩ = some (.int .i64 i) := cell_of X0.out 1
  have b2 : w0.cell? ⟨w.heap.size, 2, none⟩ = some (.int .i64 fr) := cell_of X0.out 2
  have C1 := Lib.hid b1
  have C2 := Lib.hid b2
  have n0 := World.new_ne w0 _ b0
  have B0 := Lib.hid (HB.out.no F0.out)
  have NG := Lib.hid (show ¬ P.foot v w.heap.size from fun h => by have := (HB.out.g.lt _ (.inr (.inr h))).2; omega)
  have NF := Lib.hid (show ¬ feet gm P v vm w.heap.size from fun h => by have := (HB.out.low _ h).2; omega)
  clear hb
  go_wp2_with fail
  go_quiet (fail)
  go_wp2_with fail
  with_reducible refine (clearS_any B gg P v l room over ws i _ (B0.out.no (by repeat (first | exact Fr.refl _ _ | apply Fr.drewN | apply Fr.drew | apply Fr.alloc))).g).mono ?_
  rintro e7 w7 ⟨rfl, v7, hg7, hv7, hf7⟩
  have HRW : Hid (Bitmap.remW 2048 ws i = ws) := Lib.hid (by unfold Bitmap.remW; rw [HMK.out]; rfl)
  rw [HRW.out] at hg7
  rw [HMK.out]
  have G7 := Lib.hid hg7
  have V7 : Hid (v7.ownBlock = v.ownBlock ∨ ∃ k, v7.ownBlock = some k ∧ w0.heap.size ≤ k) := Lib.hid hv7
  have F7c := Lib.hid (show Fr (P.foot v) w0 w7 from Fr.trans (by repeat (first | exact Fr.refl _ _ | apply Fr.drewN | apply Fr.drew | apply Fr.alloc)) hf7 (fun i hi => .inl hi))
  have R7 := Lib.hid (B0.out.r.fr F7c.out (fun k hk h => sep B0.out.g B0.out.r k hk (.inr (.inr h))))
  clear hg7 hv7 hf7
  go_wp2_with fail
  go_ret
  exact close HB.out F0.out G7.out V7.out F7c.out R7.out (fun k hk => .inl hk) (Fr.refl _ _) (Fr.refl _ _)

end Go.Proofs.YtoipjmhfeggdeaaDoor.ShadeStep
