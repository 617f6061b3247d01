/- Proved: what Next, Shade of package shade do and answer. -/
import Derived.Test.YtoipjmhfeggdeaaDoorShade2
namespace Go.Proofs.YtoipjmhfeggdeaaDoor.Shade
open Go.RowKit Go.Proofs.YtoipjmhfeggdeaaDoor.H Go.Proofs.YtoipjmhfeggdeaaDoor.Nums Go.Proofs.YtoipjmhfeggdeaaDoor.BitPure
set_option linter.unusedVariables false
attribute [local irreducible] elems from_ nxt elemsN

set_option maxHeartbeats 3200000 in
theorem next_none (B gg : Nat) (P : Pl) (v : Value) (room : Int) (over : Bool) (ws : List Nat) (w : World) (h : G w B gg P v [] room over ws) :
    Calls Tryd.prog 13 #[.pointer (some ⟨gg, 0, none⟩)] w (Same w (.tuple #[.agg #[.int .i64 0, .int .i64 0], .bool false])) := by
  have HH := Lib.hid h
  have HLT := Lib.hid (fun k hk => (h.lt k hk).2)
  clear h
  go_enter Tryd.func13, Tryd.ntmps13
  go_wp2_with fail
  have F0 := Lib.hid ((Fr.refl No w).alloc (.cells #[.int .i64 0, .int .i64 0] 41))
  have X0 := Lib.hid (heap_alloc_new w (.cells #[.int .i64 0, .int .i64 0] 41))
  have Z0 : Hid ((w.alloc (.cells #[.int .i64 0, .int .i64 0] 41)).heap.size = w.heap.size + 1) := Lib.hid (by simp)
  generalize w.alloc (.cells #[.int .i64 0, .int .i64 0] 41) = w0 at F0 X0 Z0 ⊢
  have H0 := Lib.hid (HH.out.no F0.out)
  have c2 := H0.out.cells.2.2
  with_reducible refine (none_any B gg P v [] room over ws _ H0.out).mono ?_
  rintro e wq ⟨rfl, q1, hwq⟩
  have FQ := Lib.hid (show Fr No w0 wq from Bitmap.drewN_fr (Fr.refl No w0) hwq)
  have HQ := Lib.hid (H0.out.no FQ.out)
  have XQ := Lib.hid (FQ.out.blk X0.out (fun h => h))
  have ZQ := Lib.hid (show w.heap.size + 1 ≤ wq.heap.size by have := FQ.out.size; have := Z0.out; omega)
  have c3 := HQ.out.cells.2.2
  clear hwq c2
  go_wp2_with fail
  with_reducible refine (wnext_none B P.gt v room over _ HQ.out.stk).mono ?_
  rintro e w1 ⟨rfl, hb1⟩
  have rb : w1.heap[w.heap.size]? = some (.cells #[.int .i64 0, .int .i64 0] 41 (0, 0)) := (hb1.block _ (by have := ZQ.out; omega)).trans XQ.out
  have x0 : w1.cell? ⟨w.heap.size, 0, none⟩ = some (.int .i64 0) := cell_of rb 0
  have x1 : w1.cell? ⟨w.heap.size, 1, none⟩ = some (.int .i64 0) := cell_of rb 1
  have y0 := free_of rb 0
  have y1 := free_of rb 1
  have RBH := Lib.hid rb
  clear rb
  have HB := Lib.hid hb1
  clear hb1
  go_wp2_with fail
  refine bodyPost_ret (v := .tuple #[.agg #[.int .i64 0, .int .i64 0], .bool false]) (by simp [results, Tryd.results13, go_sem, x0, x1]) rfl ?_
  refine ⟨rfl, ?_⟩
  have h1 := ((F0.out.trans FQ.out (fun i (h : No i) => h.elim)).below (Nat.le_refl _) (fun _ h => h.elim)).trans (HB.out.mono (by have := ZQ.out; omega))
  exact (h1.setCell (p := ⟨w.heap.size, 0, none⟩) (by simp) _).setCell (p := ⟨w.heap.size, 1, none⟩) (by simp) _

set_option maxHeartbeats 3200000 in
theorem next_some (B gg : Nat) (P : Pl) (v : Value) (l : List (Int × Int)) (a b : Int) (room : Int) (over : Bool) (ws : List Nat) (w : World) (h : G w B gg P v (l ++ [(a, b)]) room over ws) :
    Calls Tryd.prog 13 #[.pointer (some ⟨gg, 0, none⟩)] w (GPost B gg P v l room over ws (.tuple #[.agg #[.int .i64 a, .int .i64 b], .bool true]) w) := by
  have HH := Lib.hid h
  have HLT := Lib.hid (fun k hk => (h.lt k hk).2)
  clear h
  go_enter Tryd.func13, Tryd.ntmps13
  go_wp2_with fail
  have F0 := Lib.hid ((Fr.refl No w).alloc (.cells #[.int .i64 0, .int .i64 0] 41))
  have X0 := Lib.hid (heap_alloc_new w (.cells #[.int .i64 0, .int .i64 0] 41))
  have Z0 : Hid ((w.alloc (.cells #[.int .i64 0, .int .i64 0] 41)).heap.size = w.heap.size + 1) := Lib.hid (by simp)
  generalize w.alloc (.cells #[.int .i64 0, .int .i64 0] 41) = w0 at F0 X0 Z0 ⊢
  have H0 := Lib.hid (HH.out.no F0.out)
  have c2 := H0.out.cells.2.2
  with_reducible refine (none_any B gg P v (l ++ [(a, b)]) room over ws _ H0.out).mono ?_
  rintro e wq ⟨rfl, q1, hwq⟩
  have FQ := Lib.hid (show Fr No w0 wq from Bitmap.drewN_fr (Fr.refl No w0) hwq)
  have HQ := Lib.hid (H0.out.no FQ.out)
  have XQ := Lib.hid (FQ.out.blk X0.out (fun h => h))
  have ZQ := Lib.hid (show w.heap.size + 1 ≤ wq.heap.size by have := FQ.out.size; have := Z0.out; omega)
  have c3 := HQ.out.cells.2.2
  clear hwq c2
  go_wp2_with fail
  with_reducible refine (wnext_some B P.gt v l a b room over _ HQ.out.stk).mono ?_
  rintro e w1 ⟨rfl, v1, hs1, hv1, hf1⟩
  have rb : w1.heap[w.heap.size]? = some (.cells #[.int .i64 0, .int .i64 0] 41 (0, 0)) := hf1.blk XQ.out (fun h => by have := HLT.out _ (.inr (.inr (h.elim .inl (fun e => .inr (.inl e))))); omega)
  have x0 : w1.cell? ⟨w.heap.size, 0, none⟩ = some (.int .i64 0) := cell_of rb 0
  have x1 : w1.cell? ⟨w.heap.size, 1, none⟩ = some (.int .i64 0) := cell_of rb 1
  have y0 := free_of rb 0
  have y1 := free_of rb 1
  have RBH := Lib.hid rb
  clear rb
  have G1 := Lib.hid (HQ.out.turn hs1 hf1)
  have V1 := Lib.hid hv1
  clear hs1 hv1 hf1
  go_wp2_with fail
  refine bodyPost_ret (v := .tuple #[.agg #[.int .i64 a, .int .i64 b], .bool true]) (by simp [results, Tryd.results13, go_sem, x0, x1]) rfl ?_
  have hw : ∀ k, k = gg ∨ k = P.gw ∨ P.foot v1 k → k ≠ w.heap.size := by
    rintro k hk rfl
    have h2 : w.heap.size = gg ∨ w.heap.size = P.gw ∨ P.foot v w.heap.size := by
      rcases hk with h | h | h | h | h
      · exact .inl h
      · exact .inr (.inl h)
      · exact .inr (.inr (.inl h))
      · exact .inr (.inr (.inr (.inl (by rw [← V1.out]; exact h))))
      · exact .inr (.inr (.inr (.inr h)))
    have := HLT.out _ h2
    omega
  refine ⟨rfl, v1, G1.out.1.fr (((Fr.refl (fun k => k = w.heap.size) w1).setCell (p := ⟨w.heap.size, 0, none⟩) (.inl rfl) _).setCell (p := ⟨w.heap.size, 1, none⟩) (.inl rfl) _) (fun k hk => hw k hk), .inl V1.out, ?_⟩
  exact ((Fr.trans ((F0.out.trans FQ.out (fun i (h : No i) => h.elim)).mono (fun _ h => h.elim)) G1.out.2 (fun i hi => .inl hi)).setCell (p := ⟨w.heap.size, 0, none⟩) (.inr (by simp)) _).setCell (p := ⟨w.heap.size, 1, none⟩) (.inr (by simp)) _

/-- what shading leaves -/
def shL (l : List (Int × Int)) (room : Int) (ws : List Nat) (i : Int) : List (Int × Int) := if Bitmap.addOk 2048 ws i = true then pushL l room (i, 0) else l
def shO (l : List (Int × Int)) (room : Int) (over : Bool) (ws : List Nat) (i : Int) : Bool := if Bitmap.addOk 2048 ws i = true then pushO l room over else over

set_option maxHeartbeats 3200000 in
theorem shade_any (B gg : Nat) (P : Pl) (v : Value) (l : List (Int × Int)) (room : Int) (over : Bool) (ws : List Nat) (i : Int) (w : World) (h : G w B gg P v l room over ws) :
    Calls Tryd.prog 14 #[.pointer (some ⟨gg, 0, none⟩), .int .i64 i] w (GPost B gg P v (shL l room ws i) room (shO l room over ws i) (Bitmap.addW 2048 ws i) (.bool (Bitmap.addOk 2048 ws i)) w) := by
  have HH := Lib.hid h
  clear h
  unfold shL shO
  cases ha : Bitmap.addOk 2048 ws i with
  | false =>
    have HA := Lib.hid ha
    clear ha
    rw [if_neg (by simp), if_neg (by simp)]
    go_enter Tryd.func14, Tryd.ntmps14
    go_wp2_with fail
    with_reducible refine (black_any B gg P v l room over ws i _ HH.out).mono ?_
    rintro e w1 ⟨rfl, v1, hg1, hv1, hf1⟩
    rw [HA.out]
    have G1 := Lib.hid hg1
    have V1 := Lib.hid hv1
    have F1 := Lib.hid hf1
    clear hg1 hv1 hf1
    go_wp2_with fail
    go_ret
    exact ⟨rfl, v1, G1.out, V1.out, F1.out⟩
  | true =>
    have HA := Lib.hid ha
    clear ha
    rw [if_pos rfl, if_pos rfl]
    go_enter Tryd.func14, Tryd.ntmps14
    go_wp2_with fail
    with_reducible refine (black_any B gg P v l room over ws i _ HH.out).mono ?_
    rintro e w1 ⟨rfl, v1, hg1, hv1, hf1⟩
    rw [HA.out]
    have G1 := Lib.hid hg1
    have V1 := Lib.hid hv1
    have F1 := Lib.hid hf1
    clear hg1 hv1 hf1
    go_wp2_with fail
    with_reducible refine (rest_any B gg P v1 l room over _ i 0 _ G1.out).mono ?_
    rintro e w2 ⟨rfl, v2, hg2, hv2, hf2⟩
    have G2 := Lib.hid hg2
    have V2 := Lib.hid hv2
    have F2 := Lib.hid hf2
    clear hg2 hv2 hf2
    go_wp2_with fail
    go_ret
    have hz := F1.out.size
    have hm : ∀ k, P.foot v1 k → P.foot v k ∨ w.heap.size ≤ k := fun k hk => by
      rcases hk with h | h | h
      · exact .inl (.inl h)
      · rcases V1.out with e | ⟨j, e, hj⟩
        · exact .inl (.inr (.inl (by rw [← e]; exact h)))
        · rw [e] at h; injection h with h; subst h; exact .inr hj
      · exact .inl (.inr (.inr h))
    refine ⟨rfl, v2, G2.out, ?_, F1.out.trans F2.out hm⟩
    rcases V2.out with e | ⟨j, e, hj⟩
    · rcases V1.out with e1 | ⟨j, e1, hj⟩
      · exact .inl (e.trans e1)
      · exact .inr ⟨j, e.trans e1, hj⟩
    · exact .inr ⟨j, e, by omega⟩

end Go.Proofs.YtoipjmhfeggdeaaDoor.Shade
