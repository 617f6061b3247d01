/- Proved: what the laws of package scutagelaw18 first ask answers true; and the law ShadeOnce over any arguments. -/
import Derived.Test.YtoipjmhfeggdeaaDoorShade3
import Derived.Test.YtoipjmhfeggdeaaDoorBitLaw
namespace Go.Proofs.YtoipjmhfeggdeaaDoor.ShadeOnce
open Go.RowKit Go.Proofs.YtoipjmhfeggdeaaDoor.H Go.Proofs.YtoipjmhfeggdeaaDoor.Nums Go.Proofs.YtoipjmhfeggdeaaDoor.BitPure Go.Proofs.YtoipjmhfeggdeaaDoor.Shade
set_option linter.unusedVariables false

def a1 : List Nat := Bitmap.addW 2048 Bitmap.w0 9

set_option maxRecDepth 100000 in
theorem facts : Bitmap.addOk 2048 Bitmap.w0 9 = true ∧ shL [] 4 Bitmap.w0 9 = [] ++ [(9, 0)] ∧ shO [] 4 false Bitmap.w0 9 = false ∧ Bitmap.addOk 2048 a1 9 = false ∧ (elems a1).length = 1 ∧ Bitmap.hasI 2048 a1 9 = true := by
  refine ⟨by decide +kernel, by decide +kernel, by decide +kernel, by decide +kernel, by decide +kernel, by decide +kernel⟩

attribute [local irreducible] elems from_ nxt elemsN

theorem sh_none {l : List (Int × Int)} {room : Int} {over : Bool} {ws : List Nat} {i : Int} (h : Bitmap.addOk 2048 ws i = false) : shL l room ws i = l ∧ shO l room over ws i = over ∧ Bitmap.addW 2048 ws i = ws := by
  unfold shL shO Bitmap.addW
  rw [h]
  exact ⟨rfl, rfl, rfl⟩

set_option maxRecDepth 100000 in
set_option maxHeartbeats 12800000 in
theorem alive_any (w : World) : Calls Tryd.prog 5 #[] w (Same w (.bool true)) := by
  have HF := Lib.hid facts
  go_enter Tryd.func5, Tryd.ntmps5
  go_wp2_with fail
  with_reducible refine (new_any 4 4 (by decide) w).mono ?_
  rintro x1 w1 ⟨gg, P, v1, rfl, hg1, hb1⟩
  have G1 := Lib.hid hg1
  have B1 := Lib.hid hb1
  clear hg1 hb1
  go_wp2_with fail
  with_reducible refine (shade_any w.heap.size gg P v1 [] 4 false Bitmap.w0 9 _ G1.out).mono ?_
  rintro x2 w2 ⟨rfl, v2, hg2, _, hf2⟩
  rw [HF.out.1]
  rw [HF.out.2.1, HF.out.2.2.1] at hg2
  have G2 : Hid (G w2 w.heap.size gg P v2 ([] ++ [(9, 0)]) 4 false a1) := Lib.hid hg2
  have B2 := Lib.hid (B1.out.trans (G1.out.below hf2 B1.out.size))
  clear hg2 hf2
  go_wp2_with fail
  with_reducible refine (shade_any w.heap.size gg P v2 ([] ++ [(9, 0)]) 4 false a1 9 _ G2.out).mono ?_
  rintro x3 w3 ⟨rfl, v3, hg3, _, hf3⟩
  rw [HF.out.2.2.2.1]
  rw [(sh_none (l := [] ++ [(9, 0)]) (room := 4) (over := false) HF.out.2.2.2.1).1, (sh_none (l := [] ++ [(9, 0)]) (room := 4) (over := false) HF.out.2.2.2.1).2.1, (sh_none (l := [] ++ [(9, 0)]) (room := 4) (over := false) HF.out.2.2.2.1).2.2] at hg3
  have G3 := Lib.hid hg3
  have B3 := Lib.hid (B2.out.trans (G2.out.below hf3 B2.out.size))
  clear hg3 hf3
  go_wp2_with fail
  with_reducible refine (next_some w.heap.size gg P v3 [] 9 0 4 false a1 _ G3.out).mono ?_
  rintro x4 w4 ⟨rfl, v4, hg4, _, hf4⟩
  have G4 := Lib.hid hg4
  have B4 := Lib.hid (B3.out.trans (G3.out.below hf4 B3.out.size))
  clear hg4 hf4
  go_wp2_with fail
  have F5 := Lib.hid ((Fr.refl No w4).alloc (.cells #[.int .i64 9, .int .i64 0] 41))
  have X5 := Lib.hid (heap_alloc_new w4 (.cells #[.int .i64 9, .int .i64 0] 41))
  generalize w4.alloc (.cells #[.int .i64 9, .int .i64 0] 41) = w5 at F5 X5 ⊢
  have B5 := Lib.hid (B4.out.trans (F5.out.below B4.out.size (fun _ h => h.elim)))
  have G5 := Lib.hid (G4.out.no F5.out)
  with_reducible refine (is_any w.heap.size gg P v4 [] 4 false a1 9 _ G5.out).mono ?_
  rintro x6 w6 ⟨rfl, n6, hw6⟩
  rw [HF.out.2.2.2.2.2]
  have F6 := Lib.hid (show Fr No w5 w6 from Bitmap.drewN_fr (Fr.refl No w5) hw6)
  clear hw6
  go_wp2_with fail
  with_reducible refine (count_any w.heap.size gg P v4 [] 4 false a1 _ (G5.out.no F6.out)).mono ?_
  rintro x7 w7 ⟨rfl, n7, hw7⟩
  rw [HF.out.2.2.2.2.1]
  have F7 := Lib.hid (show Fr No w5 w7 from Bitmap.drewN_fr F6.out hw7)
  clear hw7
  have X7 := Lib.hid (F7.out.blk X5.out (fun h => h))
  have y0 : w7.cell? ⟨w4.heap.size, 0, none⟩ = some (.int .i64 9) := cell_of X7.out 0
  have y1 : w7.cell? ⟨w4.heap.size, 1, none⟩ = some (.int .i64 0) := cell_of X7.out 1
  go_wp2_with fail
  with_reducible refine (waiting_any w.heap.size gg P v4 [] 4 false a1 _ (G5.out.no F7.out)).mono ?_
  rintro x8 w8 ⟨rfl, hb8⟩
  have F8 := Lib.hid (show Fr No w5 w8 from F7.out.then_below hb8)
  clear hb8
  go_wp2_with fail
  with_reducible refine (gover_any w.heap.size gg P v4 [] 4 false a1 _ (G5.out.no F8.out)).mono ?_
  rintro x9 w9 ⟨rfl, hb9⟩
  have F9 := Lib.hid (show Fr No w5 w9 from F8.out.then_below hb9)
  clear hb9
  go_wp2_with fail
  go_ret
  exact ⟨rfl, B5.out.trans (F9.out.below B5.out.size (fun _ h => h.elim))⟩

/-! ### the walk -/

theorem addOk_has {ws : List Nat} {i : Int} (h : Bitmap.addOk 2048 ws i = true) : 0 ≤ i ∧ i < 2048 ∧ Bitmap.hasI 2048 ws i = false := by
  unfold Bitmap.addOk at h
  simp at h
  refine ⟨h.1.1, h.1.2, ?_⟩
  unfold Bitmap.hasI
  simp [h.2]

theorem has_after {w : World} {B g : Nat} {ws : List Nat} (hs : Bm w B g 2048 ws) {i : Int} (h : Bitmap.addOk 2048 ws i = true) : Bitmap.hasI 2048 (Bitmap.addW 2048 ws i) i = true := by
  unfold Bitmap.addW
  rw [if_pos h]
  unfold Bitmap.addOk at h
  simp at h
  unfold Bitmap.hasI
  rw [has_add ws i.toNat i.toNat (by rw [hs.ok.len]; omega)]
  simp [h.1.1, h.1.2]

theorem len_after {w : World} {B g : Nat} {ws : List Nat} (hs : Bm w B g 2048 ws) {i : Int} (h : Bitmap.addOk 2048 ws i = true) : (elems (Bitmap.addW 2048 ws i)).length = (elems ws).length + 1 := by
  rw [← BitLaw.with_law hs i h, Rising.rising_length, List.length_append]
  · rfl
  · have hni : i ∉ elems ws := fun hm => by
      have h1 := BitLaw.in_eq hs i
      rw [decide_eq_true hm, (addOk_has h).2.2] at h1
      exact Bool.noConfusion h1
    have hnd : (elems ws).Nodup := (elems_sorted ws).imp (fun hab => by omega)
    rw [List.nodup_append]
    exact ⟨hnd, by simp, fun a ha b hb => by rw [List.mem_singleton] at hb; subst hb; intro e; subst e; exact hni ha⟩

/-- what was shaded m times, with room for r -/
structure Shaded (w : World) (B gg : Nat) (P : Pl) (v : Value) (l : List (Int × Int)) (r : Int) (over : Bool) (ws : List Nat) (m : Nat) : Prop where
  g : G w B gg P v l r over ws
  cnt : (elems ws).length = m
  len : (l.length : Int) = min (m : Int) r
  ov : over = decide (r < (m : Int))

theorem shaded_more {w w' : World} {B gg : Nat} {P : Pl} {v v' : Value} {l : List (Int × Int)} {r : Int} {over : Bool} {ws : List Nat} {m : Nat} (h : Shaded w B gg P v l r over ws m) {i : Int} (ha : Bitmap.addOk 2048 ws i = true)
    (hg : G w' B gg P v' (shL l r ws i) r (shO l r over ws i) (Bitmap.addW 2048 ws i)) : Shaded w' B gg P v' (shL l r ws i) r (shO l r over ws i) (Bitmap.addW 2048 ws i) (m + 1) := by
  refine ⟨hg, by rw [len_after h.g.set ha, h.cnt], ?_, ?_⟩
  · have h1 := h.len
    unfold shL pushL
    rw [if_pos ha]
    split
    · rw [List.length_append]; simp; omega
    · omega
  · have h1 := h.len
    have h2 := h.ov
    unfold shO pushO
    rw [if_pos ha, h2]
    by_cases hm : r < (m : Int)
    · rw [decide_eq_true hm, decide_eq_true (show r < ((m + 1 : Nat) : Int) by omega)]; rfl
    · rw [decide_eq_false hm]
      by_cases hm2 : (l.length : Int) < r
      · rw [decide_eq_true hm2, decide_eq_false (show ¬ r < ((m + 1 : Nat) : Int) by omega)]; rfl
      · rw [decide_eq_false hm2, decide_eq_true (show r < ((m + 1 : Nat) : Int) by omega)]; rfl

end Go.Proofs.YtoipjmhfeggdeaaDoor.ShadeOnce
