/- Proved: what Black, Push, Pop, Shade of the reference scutageref18's Grey do and answer. -/
import Derived.Test.YtoipjmhfeggdeaaDoorRef18
namespace Go.Proofs.YtoipjmhfeggdeaaDoor.Ref18
open Go.RowKit Go.Proofs.YtoipjmhfeggdeaaDoor.H Go.Proofs.YtoipjmhfeggdeaaDoor.Nums Go.Proofs.YtoipjmhfeggdeaaDoor.BitPure Go.Proofs.YtoipjmhfeggdeaaDoor.Shade
set_option linter.unusedVariables false
attribute [local irreducible] elems from_ nxt elemsN rc zCells

theorem infoE : (Tryd.prog.info? 59).map (fun i => (i.zero, i.size, i.bytes)) = some (some (.agg #[.int .i64 0, .int .i64 0]), 2, 16) := by kernel_rfl

def RPost (B g : Nat) (v : Value) (l' : List (Int × Int)) (room : Int) (over' : Bool) (ws' : List Nat) (r : Value) (w : World) (e : Ending) (w' : World) : Prop :=
  e = .returned r ∧ ∃ v', R w' B g v' l' room over' ws' ∧ (∀ k, v'.ownBlock = some k → v.ownBlock = some k ∨ w.heap.size ≤ k) ∧ Fr (Stack.Foot g v) w w'

theorem R.marked {w : World} {B g : Nat} {v : Value} {l : List (Int × Int)} {room : Int} {over : Bool} {ws ws' : List Nat} (h : R w B g v l room over ws) (k : Nat) (b : Bool) (hk : k < 2048) (hw : Words ws') (hm : ∀ i, i < 2048 → has ws' i = if i = k then b else has ws i) :
    R (w.setCell ⟨g, k, none⟩ (.bool b)) B g v l room over ws' :=
  ⟨by rw [set_of h.blk, rc_mark v room over k b hk hm], own_setCell h.own h.ne _, h.base, h.r0, h.r1, h.len, hw⟩

set_option maxRecDepth 100000 in
set_option maxHeartbeats 6400000 in
theorem black_any (B g : Nat) (v : Value) (l : List (Int × Int)) (room : Int) (over : Bool) (ws : List Nat) (i : Int) (w : World) (h : R w B g v l room over ws) :
    Calls Tryd.prog 27 #[.pointer (some ⟨g, 0, none⟩), .int .i64 i] w (RPost B g v l room over (Bitmap.addW 2048 ws i) (.bool (Bitmap.addOk 2048 ws i)) w) := by
  have HH := Lib.hid h
  by_cases hr : 0 ≤ i ∧ i < 2048
  · obtain ⟨k, rfl⟩ := Int.eq_ofNat_of_zero_le hr.1
    have hk : k < 2048 := by omega
    obtain ⟨c0, f0⟩ := h.mark k hk
    have HK := Lib.hid hk
    have i1 : (0 : Int) ≤ (k : Int) := hr.1
    have i2 : (k : Int) < 2048 := hr.2
    have i3 : ¬ (2047 : Int) < (k : Int) := by omega
    cases hh : has ws k with
    | true =>
      rw [hh] at c0
      have HA : Hid (Bitmap.addOk 2048 ws (k : Int) = false) := Lib.hid (by unfold Bitmap.addOk; rw [show ((k : Int)).toNat = k by omega, hh]; simp)
      have HW : Hid (Bitmap.addW 2048 ws (k : Int) = ws) := Lib.hid (by unfold Bitmap.addW; rw [HA.out]; rfl)
      rw [HA.out, HW.out]
      clear h hr hh hk
      go_enter Tryd.func27, Tryd.ntmps27
      go_wp2_with fail
      go_ret
      exact ⟨rfl, v, HH.out, fun k hk => .inl hk, Fr.refl _ _⟩
    | false =>
      rw [hh] at c0
      have HA : Hid (Bitmap.addOk 2048 ws (k : Int) = true) := Lib.hid (by unfold Bitmap.addOk; rw [show ((k : Int)).toNat = k by omega, hh, decide_eq_true i1, decide_eq_true (show (k : Int) < ((2048 : Nat) : Int) from i2)]; rfl)
      have HW : Hid (Bitmap.addW 2048 ws (k : Int) = addB ws k) := Lib.hid (by unfold Bitmap.addW; rw [HA.out, if_pos rfl]; congr 1)
      rw [HA.out, HW.out]
      clear h hr hh hk
      go_enter Tryd.func27, Tryd.ntmps27
      go_wp2_with fail
      go_ret
      refine ⟨rfl, v, HH.out.marked k true HK.out (HH.out.ok.add k HK.out) (fun j hj => ?_), fun k hk => .inl hk, (Fr.refl _ w).setCell (p := ⟨g, k, none⟩) (.inl (.inl rfl)) _⟩
      rw [has_add ws k j (by rw [HH.out.ok.len]; have := HK.out; omega)]
      by_cases e : j = k
      · rw [if_pos e, decide_eq_true e, Bool.or_true]
      · rw [if_neg e, decide_eq_false e, Bool.or_false]
  · have HA : Hid (Bitmap.addOk 2048 ws i = false) := Lib.hid (by
      unfold Bitmap.addOk
      rcases Classical.not_and_iff_not_or_not.1 hr with h | h
      · rw [decide_eq_false h]; rfl
      · rw [decide_eq_false (show ¬ i < ((2048 : Nat) : Int) from h)]; simp)
    have HW : Hid (Bitmap.addW 2048 ws i = ws) := Lib.hid (by unfold Bitmap.addW; rw [HA.out]; rfl)
    rw [HA.out, HW.out]
    by_cases h1 : i < 0
    · clear h hr
      go_enter Tryd.func27, Tryd.ntmps27
      go_wp2_with fail
      go_ret
      exact ⟨rfl, v, HH.out, fun k hk => .inl hk, Fr.refl _ _⟩
    · have h2 : 2047 < i := by omega
      have g1 : decide (i < 0) = false := by simp; omega
      have g2 : decide (2047 < i) = true := by simp; omega
      clear h hr
      go_enter Tryd.func27, Tryd.ntmps27
      go_wp2_with fail
      go_ret
      exact ⟨rfl, v, HH.out, fun k hk => .inl hk, Fr.refl _ _⟩

set_option maxRecDepth 100000 in
set_option maxHeartbeats 6400000 in
theorem push_full (B g : Nat) (v : Value) (l : List (Int × Int)) (room : Int) (over : Bool) (ws : List Nat) (a b : Int) (w : World) (h : R w B g v l room over ws) (hf : (l.length : Int) = room) :
    Calls Tryd.prog 29 #[.pointer (some ⟨g, 0, none⟩), .agg #[.int .i64 a, .int .i64 b]] w (RPost B g v l room true ws (.bool false) w) := by
  obtain ⟨A, c, rfl, _⟩ := own_slice h.own
  obtain ⟨c0, c1, c2⟩ := h.rest
  have f2 := free_of h.blk 2050
  have HH := Lib.hid h
  have lg := lt_of_blk h.blk
  have i1 : room ≤ (l.length : Int) := by omega
  clear h hf
  go_enter Tryd.func29, Tryd.ntmps29
  go_wp2_with fail
  go_quiet (fail)
  go_wp2_with fail
  go_ret
  have hR := HH.out.no (((Fr.refl No w).alloc (.cells #[.int .i64 a, .int .i64 b] 59)).drewN nq)
  refine ⟨rfl, .slice A l.length c, ⟨?_, own_setCell hR.own hR.ne _, hR.base, hR.r0, hR.r1, hR.len, hR.ok⟩, fun k hk => .inl hk, (((Fr.refl _ w).alloc _).drewN nq).setCell (p := ⟨g, 2050, none⟩) (.inl (.inl rfl)) _⟩
  rw [set_of hR.blk, rc_tail (over' := true) (v' := .slice A l.length c) 2050 (.bool true) (by omega) (by omega) rfl]

set_option maxRecDepth 100000 in
set_option maxHeartbeats 6400000 in
theorem push_room (B g : Nat) (v : Value) (l : List (Int × Int)) (room : Int) (over : Bool) (ws : List Nat) (a b : Int) (w : World) (h : R w B g v l room over ws) (hf : (l.length : Int) < room) :
    Calls Tryd.prog 29 #[.pointer (some ⟨g, 0, none⟩), .agg #[.int .i64 a, .int .i64 b]] w (RPost B g v (l ++ [(a, b)]) room over ws (.bool true) w) := by
  obtain ⟨A, c, rfl, _⟩ := own_slice h.own
  obtain ⟨c0, c1, c2⟩ := h.rest
  have HH := Lib.hid h
  have lg := lt_of_blk h.blk
  have i1 : (l.length : Int) < room := by omega
  clear h
  go_enter Tryd.func29, Tryd.ntmps29
  go_wp2_with fail
  go_quiet (fail)
  go_wp2_with fail
  have F0 := Lib.hid (((Fr.refl No w).alloc (.cells #[.int .i64 a, .int .i64 b] 59)).drewN nq)
  have X0 : Hid (((w.alloc (.cells #[.int .i64 a, .int .i64 b] 59)).drewN nq).heap[w.heap.size]? = some (.cells #[.int .i64 a, .int .i64 b] 59 (0, 0))) := Lib.hid (heap_alloc_new w _)
  have hz0 : ((w.alloc (.cells #[.int .i64 a, .int .i64 b] 59)).drewN nq).heap.size = w.heap.size + 1 := by
    show (w.alloc (.cells #[.int .i64 a, .int .i64 b] 59)).heap.size = w.heap.size + 1
    simp
  generalize (w.alloc (.cells #[.int .i64 a, .int .i64 b] 59)).drewN nq = w0 at F0 X0 hz0 ⊢
  have H0 := Lib.hid (HH.out.no F0.out)
  obtain ⟨i0, hi0, hz0', hz1, hz2⟩ := info_parts infoE
  have hne := H0.out.ne
  have x0 : w0.cell? ⟨w.heap.size, 0, none⟩ = some (.int .i64 a) := cell_of X0.out 0
  have x1 : w0.cell? ⟨w.heap.size, 1, none⟩ = some (.int .i64 b) := cell_of X0.out 1
  have d0 := H0.out.rest.1
  have hlt0 : (Value.slice A l.length c).ownBlock ≠ some w0.heap.size := fun e => by have := (H0.out.own.lt _ e).2; omega
  have hbx : (w0.alloc (.cells #[.int .i64 a, .int .i64 b] 59)).drew.heap[w.heap.size + 1]? = some (.cells #[.int .i64 a, .int .i64 b] 59 (0, 0)) := by
    have h := heap_alloc_new w0 (.cells #[.int .i64 a, .int .i64 b] 59)
    rw [hz0] at h
    exact h
  have hgz := drew_of (alloc_of H0.out.blk (.cells #[.int .i64 a, .int .i64 b] 59))
  have HZ := Lib.hid hgz
  have fz0 := free_of hgz 2048
  have cz0 : (w0.alloc (.cells #[.int .i64 a, .int .i64 b] 59)).drew.cell? ⟨g, 2048, none⟩ = some (.slice A l.length c) := by rw [cell_of hgz, rc_at]; rfl
  have lg0 : g < w0.heap.size := by omega
  have hown := H0.out.own
  have r1 := HH.out.r1
  clear hgz
  go_region_law ((refine step_append_lies _ (by rfl) _ _ _ (by rfl) B 59 i0 _ 2 16 Tryd.underlying56 hi0 hz0' hz1 hz2 rfl (by omega) (.slice A l.length c) l.length (Stack.ents l) (by rfl) ((hown.alloc _).drew) ⟨w.heap.size + 1, 0, none⟩ 1 1 [.int .i64 a, .int .i64 b] (by rfl) (by rfl) (World.news_of_block (cs := #[.int .i64 a, .int .i64 b]) (t := 59) (fr := (0, 0)) hbx) (by simp [Value.oneCell']) (by omega) (by unfold maxLen; omega) (by omega) (by simp; have := HH.out.base; omega) (w.heap.size + 2) (by simp [hz0]) ?_; intro gg cap w1 hown1 hgrow hat hlt; have fz : w1.frozen? ⟨g, 2048, none⟩ = false := (by rw [hgrow.frozen_far _ (by simp; omega) (Ne.symm hne)]; exact fz0); have cz : w1.cell? ⟨g, 2048, none⟩ = some (.slice A l.length c) := (by rw [hgrow.cell_far _ (by simp; omega) (Ne.symm hne)]; exact cz0)))
  all_goals
    go_wp2
    go_ret
    have h0 := H0.out
    refine ⟨rfl, .slice (some ⟨gg, 0, none⟩) (l.length + 1) cap, ⟨?_, ?_, h0.base, h0.r0, h0.r1, ?_, h0.ok⟩, ?_, ?_⟩
    · have h1 : w1.heap[g]? = some (.cells (rc (has ws) (.slice A l.length c) room over) 58 (0, 0)) := (hgrow.block g (by simp; omega) (Ne.symm hne)).trans HZ.out
      rw [set_of h1, rc_tail (over' := over) (v' := .slice (some ⟨gg, 0, none⟩) (l.length + 1) cap) 2048 _ (by omega) (by omega) rfl]
    · have h2 : gg ≠ g := by
        rintro rfl
        rcases hat with h | h
        · exact hne h
        · omega
      rw [Stack.ents_snoc]
      simp only [List.length_append, List.length_cons, List.length_nil]
      exact own_setCell hown1 (by simpa [Value.ownBlock] using h2) _
    · simp only [List.length_append, List.length_cons, List.length_nil]; omega
    · intro k hk
      have e : gg = k := by simpa [Value.ownBlock] using hk
      subst e
      rcases hat with h | h
      · exact .inl h
      · exact .inr (by omega)
    · exact (((F0.out.mono (fun _ h => h.elim)).alloc _).drew.grown hgrow (fun k hk => .inl (.inr hk))).setCell (p := ⟨g, 2048, none⟩) (.inl (.inl rfl)) _

end Go.Proofs.YtoipjmhfeggdeaaDoor.Ref18
