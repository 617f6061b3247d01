/- Proved: what one call of a script of package scutagelaw17 does, where it is Pop or Settle. -/
import Derived.Test.YtmgdlblifeammaaStackRun
namespace Go.Proofs.Ytmgdlblifeammaa.StackRun
open Go.RowKit Go.Proofs.Ytmgdlblifeammaa.H Go.Proofs.Ytmgdlblifeammaa.Stack Go.Proofs.Ytmgdlblifeammaa.StackLaw

set_option maxRecDepth 100000 in
set_option maxHeartbeats 12800000 in
theorem step_pop_none (B g : Nat) (v bv : Value) (room : Int) (over : Bool) (a b : Int) (w : World) (hs : Both w B g v bv [] room over) :
    Calls Try.prog 22 #[.pointer (some ⟨g, 0, none⟩), .agg #[bv, .int .i64 room, .bool over], .agg #[.int .i64 2, .int .i64 a, .int .i64 b]] w (StepPost B g v bv room w) := by
  obtain ⟨A, c, rfl, _⟩ := own_slice hs.row
  have HS := Lib.hid hs
  have HN := Lib.hid (show ∀ k, Foot g v k → B ≤ k ∧ k < w.heap.size from hs.stk.foot_lt)
  have u0 : w.heap.size + 1 + 1 ≠ w.heap.size := by omega
  clear hs
  go_enter Try.func22, Try.ntmps22
  go_wp2_with (go_at_call 11; refine (pop_none B g v room over _ (HS.out.fr (by repeat (first | exact Fr.refl _ _ | apply Fr.drewN | apply Fr.drew | apply Fr.alloc))).stk).mono ?_; rintro e w4 ⟨rfl, hb4⟩; refine Hid.out ?_)
  have F4 := Lib.hid (show Fr No w w4 from Fr.then_below (by repeat (first | exact Fr.refl _ _ | apply Fr.drewN | apply Fr.drew | apply Fr.alloc)) hb4)
  have B4 := Lib.hid ((hb4.block w.heap.size (by simp; omega)).trans (heap3_old w _ _ _))
  have B6 := Lib.hid ((hb4.block (w.heap.size + 1 + 1) (by simp)).trans (heap3_new w _ _ _))
  clear hb4
  have k0 : w4.cell? ⟨w.heap.size, 0, none⟩ = some (.slice A 0 c) := cell_of B4.out 0
  have k1 : w4.cell? ⟨w.heap.size, 1, none⟩ = some (.int .i64 room) := cell_of B4.out 1
  have k2 : w4.cell? ⟨w.heap.size, 2, none⟩ = some (.bool over) := cell_of B4.out 2
  have z0 : w4.cell? ⟨w.heap.size + 1 + 1, 0, none⟩ = some (.slice none 0 0) := cell_of B6.out 0
  have z1 : w4.cell? ⟨w.heap.size + 1 + 1, 1, none⟩ = some (.int .i64 0) := cell_of B6.out 1
  have z2 : w4.cell? ⟨w.heap.size + 1 + 1, 2, none⟩ = some (.bool false) := cell_of B6.out 2
  have q0 := free_of B6.out 0
  have q1 := free_of B6.out 1
  have q2 := free_of B6.out 2
  have n4 : w.heap.size + 1 + 1 < w4.heap.size := lt_of_blk B6.out
  have n5 : w.heap.size < w4.heap.size := by omega
  have v0 : w.heap.size + 1 + 1 ≠ w4.heap.size := by omega
  refine Lib.hid ?_
  go_wp2_with fail
  go_region_held3 (fun w' => w'.cell? ⟨w.heap.size, 0, none⟩ = some (.slice A 0 c) ∧ w'.cell? ⟨w.heap.size, 1, none⟩ = some (.int .i64 room) ∧ w'.cell? ⟨w.heap.size, 2, none⟩ = some (.bool over) ∧ w'.cell? ⟨w4.heap.size, 0, none⟩ = some (.int .i64 0) ∧ w'.cell? ⟨w4.heap.size, 1, none⟩ = some (.int .i64 0))
    (((try go_split_ands); refine ⟨?_, ?_, ?_, ?_, ?_⟩ <;> (first | with_reducible assumption | (with_reducible refine (far3 u0).trans ?_; with_reducible assumption) | (with_reducible refine (s3a_old u0 n5).trans ?_; with_reducible assumption) | ((with_reducible refine s3a_new.trans ?_); rfl) | (go_keep; done))))
    (fail)
  go_wp2
  refine bodyPost_ret (res_ct rfl _ _ (w.heap.size + 1 + 1) 35 #[.slice A 0 c, .int .i64 room, .bool over] _ rfl (by repeat (first | exact set3_of B6.out _ _ _ | apply alloc_of | apply drewN_of | apply drew_of)) Try.underlying35 rfl (by kernel_rfl)) rfl ?_
  have hb := HS.out
  refine StepPost.fr (step_close (b := w.heap.size + 1 + 1) (l' := []) (x := .slice A 0 c) (y := .int .i64 room) (z := .bool over) (F4.out.mono (fun _ h => h.elim)) (hb.stk.fr F4.out (fun _ _ h => h)) (.inl rfl) (.inl rfl) (F4.out.own hb.row (fun _ _ h => h)) hb.sep (by omega) (fun h => by have := (HN.out _ h).2; omega) (fun h => by have := (hb.row.lt _ h).2; omega)) ?_
  exact (by repeat (first | exact Fr.refl _ _ | apply Fr.drewN | apply Fr.drew | apply Fr.alloc))

set_option maxRecDepth 100000 in
set_option maxHeartbeats 12800000 in
theorem step_pop_some (B g : Nat) (v bv : Value) (l : List (Int × Int)) (x y : Int) (room : Int) (over : Bool) (a b : Int) (w : World) (hs : Both w B g v bv (l ++ [(x, y)]) room over) :
    Calls Try.prog 22 #[.pointer (some ⟨g, 0, none⟩), .agg #[bv, .int .i64 room, .bool over], .agg #[.int .i64 2, .int .i64 a, .int .i64 b]] w (StepPost B g v bv room w) := by
  have hn : (l ++ [(x, y)]).length = l.length + 1 := by simp
  obtain ⟨A, c, rfl, hc⟩ := own_slice hs.row
  obtain ⟨ad, hA, x0, x1⟩ := rd_at (Rd.of_own hs.row (ents_one _)) l.length (by omega)
  obtain ⟨d, hd⟩ : ∃ d, ad = ⟨d, 0, none⟩ := by
    rcases hs.row.2 with ⟨he, _⟩ | ⟨d, cap, cur, he, _⟩
    · rw [hA] at he; cases he
    · rw [hA] at he; injection he with he; injection he with he; exact ⟨d, he⟩
  subst hA hd
  have x0 : w.cell? ⟨d, l.length * 2, none⟩ = some (.int .i64 x) := by simpa [Addr.add_lit] using x0
  have x1 : w.cell? ⟨d, l.length * 2 + 1, none⟩ = some (.int .i64 y) := by simpa [Addr.add_lit] using x1
  rename_i x0_ x1_
  clear x0_ x1_
  have hsep : ¬ Foot g v d := hs.sep d rfl
  have HS := Lib.hid hs
  have HC := Lib.hid hc
  have HN := Lib.hid (show ∀ k, Foot g v k → B ≤ k ∧ k < w.heap.size from hs.stk.foot_lt)
  have hdl : d < w.heap.size := World.block_lt_of_cell? _ _ x0
  have u0 : w.heap.size + 1 + 1 ≠ w.heap.size := by omega
  have u1 : w.heap.size + 1 + 1 ≠ d := by omega
  have hl8 : l.length ≤ 256 := by have := hs.stk.len; have := hs.stk.r1; omega
  have hc' : l.length + 1 ≤ c := by omega
  rw [hn]
  have HX0 := Lib.hid x0
  have HX1 := Lib.hid x1
  clear hs hc x0 x1 hn
  go_enter Try.func22, Try.ntmps22
  go_wp2_with (go_at_call 11; refine (pop_some B g v l x y room over _ (HS.out.fr (by repeat (first | exact Fr.refl _ _ | apply Fr.drewN | apply Fr.drew | apply Fr.alloc))).stk).mono ?_; rintro e w4 ⟨rfl, v4, hs4, hat4, hf4⟩; refine Hid.out ?_)
  have F4 := Lib.hid (show Fr (Foot g v) w w4 from Fr.trans (by repeat (first | exact Fr.refl _ _ | apply Fr.drewN | apply Fr.drew | apply Fr.alloc)) hf4 (fun i hi => .inl hi))
  have B4 := Lib.hid (hf4.blk (heap3_old w _ _ _) (fun h => by have := (HN.out _ h).2; omega))
  have B6 := Lib.hid (hf4.blk (heap3_new w _ _ _) (fun h => by have := (HN.out _ h).2; omega))
  have H4 := Lib.hid hs4
  have HA := Lib.hid hat4
  clear hf4 hs4 hat4
  have k0 : w4.cell? ⟨w.heap.size, 0, none⟩ = some (.slice (some ⟨d, 0, none⟩) (l.length + 1) c) := cell_of B4.out 0
  have k1 : w4.cell? ⟨w.heap.size, 1, none⟩ = some (.int .i64 room) := cell_of B4.out 1
  have k2 : w4.cell? ⟨w.heap.size, 2, none⟩ = some (.bool over) := cell_of B4.out 2
  have y0 : w4.cell? ⟨d, l.length * 2, none⟩ = some (.int .i64 x) := F4.out.cell HX0.out hsep
  have y1 : w4.cell? ⟨d, l.length * 2 + 1, none⟩ = some (.int .i64 y) := F4.out.cell HX1.out hsep
  have z0 : w4.cell? ⟨w.heap.size + 1 + 1, 0, none⟩ = some (.slice none 0 0) := cell_of B6.out 0
  have z1 : w4.cell? ⟨w.heap.size + 1 + 1, 1, none⟩ = some (.int .i64 0) := cell_of B6.out 1
  have z2 : w4.cell? ⟨w.heap.size + 1 + 1, 2, none⟩ = some (.bool false) := cell_of B6.out 2
  have q0 := free_of B6.out 0
  have q1 := free_of B6.out 1
  have q2 := free_of B6.out 2
  have n4 : w.heap.size + 1 + 1 < w4.heap.size := lt_of_blk B6.out
  have n5 : w.heap.size < w4.heap.size := by omega
  have n6 : d < w4.heap.size := by omega
  have i1 : (0 : Int) ≤ (l.length : Int) := Int.natCast_nonneg _
  have i2 : (l.length : Int) < ((l.length + 1 : Nat) : Int) := by omega
  have i3 : (l.length : Int) ≤ (c : Int) := by omega
  have i4 : l.length ≤ c := by omega
  have i5 : (l.length : Int) < (l.length : Int) + 1 := by omega
  have s1 : IntKind.i64.wrap (l.length : Int) = (l.length : Int) := IntWalk.i64_in _ (by omega)
  refine Lib.hid ?_
  go_wp2_with fail
  go_region_held3 (fun w' => w'.cell? ⟨w.heap.size, 0, none⟩ = some (.slice (some ⟨d, 0, none⟩) (l.length + 1) c) ∧ w'.cell? ⟨w.heap.size, 1, none⟩ = some (.int .i64 room) ∧ w'.cell? ⟨w.heap.size, 2, none⟩ = some (.bool over) ∧ w'.cell? ⟨w4.heap.size, 0, none⟩ = some (.int .i64 x) ∧ w'.cell? ⟨w4.heap.size, 1, none⟩ = some (.int .i64 y) ∧ w'.cell? ⟨d, l.length * 2, none⟩ = some (.int .i64 x) ∧ w'.cell? ⟨d, l.length * 2 + 1, none⟩ = some (.int .i64 y))
    (((try go_split_ands); refine ⟨?_, ?_, ?_, ?_, ?_, ?_, ?_⟩ <;> (first | with_reducible assumption | (with_reducible refine (far3 u0).trans ?_; with_reducible assumption) | (with_reducible refine (s3a_old u0 n5).trans ?_; with_reducible assumption) | (with_reducible refine (s3a_old u1 n6).trans ?_; with_reducible assumption) | ((with_reducible refine s3a_new.trans ?_); rfl) | (go_keep; done))))
    (fail)
  go_wp2
  refine bodyPost_ret (res_ct rfl _ _ (w.heap.size + 1 + 1) 35 #[.slice (some ⟨d, 0, none⟩) l.length c, .int .i64 room, .bool over] _ rfl (by repeat (first | exact set3_of B6.out _ _ _ | apply alloc_of | apply drewN_of | apply drew_of)) Try.underlying35 rfl (by kernel_rfl)) rfl ?_
  have hb := HS.out
  have hrow : w4.ownsRow B 29 2 (.slice (some ⟨d, 0, none⟩) l.length c) l.length (ents l) := by
    have h := F4.out.own hb.row hb.sep
    rw [List.length_append] at h
    have h2 := own_take (m := l.length) h (by omega)
    rw [ents_take, List.take_left] at h2
    exact h2
  refine StepPost.fr (step_close (b := w.heap.size + 1 + 1) (l' := l) (x := .slice (some ⟨d, 0, none⟩) l.length c) (y := .int .i64 room) (z := .bool over) F4.out H4.out (.inl HA.out) (.inl rfl) hrow ?_ (by omega) ?_ ?_) ?_
  · intro k hk hf
    cases hk
    rcases hf with h | h
    · exact hsep (.inl h)
    · exact hsep (.inr (by rw [← HA.out]; exact h))
  · intro hf
    rcases hf with h | h
    · have := (HN.out _ (.inl h)).2; omega
    · have := (HN.out _ (.inr (by rw [← HA.out]; exact h))).2; omega
  · simp only [Value.ownBlock, ne_eq, Option.some.injEq]; omega
  · exact (by repeat (first | exact Fr.refl _ _ | apply Fr.drewN | apply Fr.drew | apply Fr.alloc))

set_option maxRecDepth 100000 in
set_option maxHeartbeats 12800000 in
theorem step_settle (B g : Nat) (v bv : Value) (l : List (Int × Int)) (room : Int) (over : Bool) (k a b : Int) (w : World) (h1 : (k == 1) = false) (h2 : (k == 2) = false) (hs : Both w B g v bv l room over) :
    Calls Try.prog 22 #[.pointer (some ⟨g, 0, none⟩), .agg #[bv, .int .i64 room, .bool over], .agg #[.int .i64 k, .int .i64 a, .int .i64 b]] w (StepPost B g v bv room w) := by
  obtain ⟨A, c, rfl, _⟩ := own_slice hs.row
  have HS := Lib.hid hs
  have HN := Lib.hid (show ∀ k, Foot g v k → B ≤ k ∧ k < w.heap.size from hs.stk.foot_lt)
  have u0 : w.heap.size + 1 + 1 ≠ w.heap.size := by omega
  clear hs
  go_enter Try.func22, Try.ntmps22
  go_wp2_with fail
  go_region_held3 (fun w' => w'.cell? ⟨w.heap.size, 0, none⟩ = some (.slice A l.length c) ∧ w'.cell? ⟨w.heap.size, 1, none⟩ = some (.int .i64 room) ∧ w'.cell? ⟨w.heap.size, 2, none⟩ = some (.bool over))
    (((try go_split_ands); refine ⟨?_, ?_, ?_⟩ <;> (first | with_reducible assumption | (with_reducible refine (far3 u0).trans ?_; with_reducible assumption) | (with_reducible refine hf4.cell ?_ (fun h => by have h2 := (HN.out _ h).2; dsimp only at h2; omega); with_reducible assumption) | (go_keep; done))))
    ((go_at_call 18; refine (settle_any B g v l room over _ (HS.out.fr (by repeat (first | exact Fr.refl _ _ | apply Fr.drewN | apply Fr.drew | apply Fr.alloc))).stk).mono ?_; rintro e w4 ⟨rfl, hs4, hf4⟩; have z : w4.heap[w.heap.size + 1 + 1]? = some (.cells #[.slice none 0 0, .int .i64 0, .bool false] 35 (0, 0)) := hf4.blk (heap3_new w _ _ _) (fun h => by have h2 := (HN.out _ h).2; omega); have z0 : w4.cell? ⟨w.heap.size + 1 + 1, 0, none⟩ = some (.slice none 0 0) := cell_of z 0; have z1 : w4.cell? ⟨w.heap.size + 1 + 1, 1, none⟩ = some (.int .i64 0) := cell_of z 1; have z2 : w4.cell? ⟨w.heap.size + 1 + 1, 2, none⟩ = some (.bool false) := cell_of z 2; have q0 := free_of z 0; have q1 := free_of z 1; have q2 := free_of z 2; have H4 := Lib.hid hs4; have Z := Lib.hid z; clear z hs4))
  go_wp2
  refine bodyPost_ret (res_ct rfl _ _ (w.heap.size + 1 + 1) 35 #[.slice A l.length c, .int .i64 room, .bool false] _ rfl (set3_of Z.out _ _ _) Try.underlying35 rfl (by kernel_rfl)) rfl ?_
  have hb := HS.out
  have hf : Fr (Foot g v) w w4 := Fr.trans (by repeat (first | exact Fr.refl _ _ | apply Fr.drewN | apply Fr.drew | apply Fr.alloc)) hf4 (fun i hi => .inl hi)
  exact step_close hf H4.out (.inl rfl) (.inl rfl) (hf.own hb.row hb.sep) hb.sep (by omega) (fun h => by have := (HN.out _ h).2; omega) (fun h => by have := (hb.row.lt _ h).2; omega)

/-- any call of a script -/
theorem step_any (B g : Nat) (v bv : Value) (l : List (Int × Int)) (room : Int) (over : Bool) (k a b : Int) (w : World) (hs : Both w B g v bv l room over) :
    Calls Try.prog 22 #[.pointer (some ⟨g, 0, none⟩), .agg #[bv, .int .i64 room, .bool over], .agg #[.int .i64 k, .int .i64 a, .int .i64 b]] w (StepPost B g v bv room w) := by
  by_cases h1 : k = 1
  · subst h1
    have hl := hs.stk.len
    by_cases hf : (l.length : Int) = room
    · exact step_push_full B g v bv l room over a b w hs hf
    · exact step_push_room B g v bv l room over a b w hs (by omega)
  by_cases h2 : k = 2
  · subst h2
    rcases List.eq_nil_or_concat l with rfl | ⟨l', p, rfl⟩
    · exact step_pop_none B g v bv room over a b w hs
    · rw [List.concat_eq_append] at hs
      exact step_pop_some B g v bv l' p.1 p.2 room over a b w hs
  · exact step_settle B g v bv l room over k a b w (beq_eq_false_iff_ne.mpr h1) (beq_eq_false_iff_ne.mpr h2) hs

end Go.Proofs.Ytmgdlblifeammaa.StackRun
