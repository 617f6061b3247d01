/- Proved: what Waiting, Over, Settle, Rest, Shade, Next, New of package shade do and answer. -/
import Derived.Test.YtoipjmhfeggdeaaDoorShade
namespace Go.Proofs.YtoipjmhfeggdeaaDoor.Shade
open Go.RowKit Go.Proofs.YtoipjmhfeggdeaaDoor.H Go.Proofs.YtoipjmhfeggdeaaDoor.Nums Go.Proofs.YtoipjmhfeggdeaaDoor.BitPure
set_option linter.unusedVariables false
attribute [local irreducible] elems from_ nxt elemsN

set_option maxHeartbeats 1600000 in
theorem waiting_any (B gg : Nat) (P : Pl) (v : Value) (l : List (Int × Int)) (room : Int) (over : Bool) (ws : List Nat) (w : World) (h : G w B gg P v l room over ws) :
    Calls Tryd.prog 20 #[.pointer (some ⟨gg, 0, none⟩)] w (Same w (.int .i64 l.length)) := by
  have HH := Lib.hid h
  obtain ⟨c0, c1, c2⟩ := h.cells
  clear h
  go_enter Tryd.func20, Tryd.ntmps20
  go_wp2_with fail
  with_reducible refine (none_any B gg P v l room over ws _ HH.out).mono ?_
  rintro e w1 ⟨rfl, q1, rfl⟩
  go_wp2_with fail
  with_reducible refine (wlen_any B P.gt v l room over _ (HH.out.no (Fr.drewN (Fr.refl No w) _)).stk).mono ?_
  rintro e w2 ⟨rfl, hb2⟩
  have B2 := Lib.hid (show Below w.heap.size w w2 from ((Fr.drewN (Fr.refl No w) q1).below (Nat.le_refl _) (fun _ h => h.elim)).trans hb2)
  clear hb2
  go_wp2_with fail
  go_ret
  exact ⟨rfl, B2.out⟩

set_option maxHeartbeats 1600000 in
theorem gover_any (B gg : Nat) (P : Pl) (v : Value) (l : List (Int × Int)) (room : Int) (over : Bool) (ws : List Nat) (w : World) (h : G w B gg P v l room over ws) :
    Calls Tryd.prog 21 #[.pointer (some ⟨gg, 0, none⟩)] w (Same w (.bool over)) := by
  have HH := Lib.hid h
  obtain ⟨c0, c1, c2⟩ := h.cells
  clear h
  go_enter Tryd.func21, Tryd.ntmps21
  go_wp2_with fail
  with_reducible refine (none_any B gg P v l room over ws _ HH.out).mono ?_
  rintro e w1 ⟨rfl, q1, rfl⟩
  go_wp2_with fail
  with_reducible refine (wover_any B P.gt v l room over _ (HH.out.no (Fr.drewN (Fr.refl No w) _)).stk).mono ?_
  rintro e w2 ⟨rfl, hb2⟩
  have B2 := Lib.hid (show Below w.heap.size w w2 from ((Fr.drewN (Fr.refl No w) q1).below (Nat.le_refl _) (fun _ h => h.elim)).trans hb2)
  clear hb2
  go_wp2_with fail
  go_ret
  exact ⟨rfl, B2.out⟩

set_option maxHeartbeats 1600000 in
theorem gsettle_any (B gg : Nat) (P : Pl) (v : Value) (l : List (Int × Int)) (room : Int) (over : Bool) (ws : List Nat) (w : World) (h : G w B gg P v l room over ws) :
    Calls Tryd.prog 22 #[.pointer (some ⟨gg, 0, none⟩)] w (GPost B gg P v l room false ws (.bool over) w) := by
  have HH := Lib.hid h
  obtain ⟨c0, c1, c2⟩ := h.cells
  clear h
  go_enter Tryd.func22, Tryd.ntmps22
  go_wp2_with fail
  with_reducible refine (none_any B gg P v l room over ws _ HH.out).mono ?_
  rintro e w1 ⟨rfl, q1, rfl⟩
  have F1 := Lib.hid (Fr.drewN (Fr.refl No w) q1)
  go_wp2_with fail
  with_reducible refine (wsettle_any B P.gt v l room over _ (HH.out.no F1.out).stk).mono ?_
  rintro e w2 ⟨rfl, hs2, hf2⟩
  have G2 := Lib.hid ((HH.out.no F1.out).turn hs2 hf2)
  clear hs2 hf2
  go_wp2_with fail
  go_ret
  exact ⟨rfl, v, G2.out.1, .inl rfl, (F1.out.mono (fun _ h => h.elim)).trans G2.out.2 (fun i hi => .inl hi)⟩

set_option maxRecDepth 100000 in
set_option maxHeartbeats 6400000 in
theorem rest_any (B gg : Nat) (P : Pl) (v : Value) (l : List (Int × Int)) (room : Int) (over : Bool) (ws : List Nat) (a b : Int) (w : World) (h : G w B gg P v l room over ws) :
    Calls Tryd.prog 19 #[.pointer (some ⟨gg, 0, none⟩), .agg #[.int .i64 a, .int .i64 b]] w (GPost B gg P v (pushL l room (a, b)) room (pushO l room over) ws (.bool (decide ((l.length : Int) < room))) w) := by
  have HH := Lib.hid h
  clear h
  go_enter Tryd.func19, Tryd.ntmps19
  go_wp2_with fail
  have F0 := Lib.hid ((Fr.refl No w).alloc (.cells #[.int .i64 a, .int .i64 b] 41))
  have X0 := Lib.hid (heap_alloc_new w (.cells #[.int .i64 a, .int .i64 b] 41))
  generalize w.alloc (.cells #[.int .i64 a, .int .i64 b] 41) = w0 at F0 X0 ⊢
  have H0 := Lib.hid (HH.out.no F0.out)
  have c2 := H0.out.cells.2.2
  have c0 : w0.cell? ⟨w.heap.size, 0, none⟩ = some (.int .i64 a) := cell_of X0.out 0
  have c1 : w0.cell? ⟨w.heap.size, 1, none⟩ = some (.int .i64 b) := cell_of X0.out 1
  have C0 := Lib.hid c0
  have C1 := Lib.hid c1
  have C2 := Lib.hid c2
  have NW := Lib.hid (show ¬ Stack.Foot P.gt v P.gw from fun e => HH.out.nw (e.elim .inl (fun e => .inr (.inl e))))
  have NB := Lib.hid (show ¬ Stack.Foot P.gt v w.heap.size from fun e => by have := (HH.out.stk.foot_lt _ e).2; omega)
  go_region_held3 (fun W => W.cell? ⟨P.gw, 0, none⟩ = some (.pointer (some ⟨P.gt, 0, none⟩)) ∧ W.cell? ⟨w.heap.size, 0, none⟩ = some (.int .i64 a) ∧ W.cell? ⟨w.heap.size, 1, none⟩ = some (.int .i64 b)) (((try go_split_ands); refine ⟨?_, ?_, ?_⟩ <;> (first | with_reducible assumption | (with_reducible exact F2c.out.cell C0.out NB.out) | (with_reducible exact F2c.out.cell C1.out NB.out) | (with_reducible exact F2c.out.cell C2.out NW.out) | (go_keep; done))))
    ((first
      | (go_at_call 33; refine (none_any B gg P v l room over ws _ (H0.out.no (by repeat (first | exact Fr.refl _ _ | apply Fr.drewN | apply Fr.drew | apply Fr.alloc)))).mono ?_; rintro e w1 ⟨rfl, q1, rfl⟩)
      | (go_at_call 40; refine (wrest_any B P.gt v l room over a b _ (H0.out.no (by repeat (first | exact Fr.refl _ _ | apply Fr.drewN | apply Fr.drew | apply Fr.alloc))).stk).mono ?_; rintro e w2 ⟨rfl, v2, hs2, hv2, hf2⟩; have S2 := Lib.hid hs2; have F2c := Lib.hid (show Fr (Stack.Foot P.gt v) w0 w2 from Fr.trans (by repeat (first | exact Fr.refl _ _ | apply Fr.drewN | apply Fr.drew | apply Fr.alloc)) hf2 (fun i hi => .inl hi)); have V2 : Hid (v2.ownBlock = v.ownBlock ∨ ∃ k, v2.ownBlock = some k ∧ w.heap.size ≤ k) := Lib.hid (hv2.elim .inl (fun ⟨k, h1, h2⟩ => .inr ⟨k, h1, by have := F0.out.size; simp at h2; omega⟩)); clear hs2 hv2 hf2)))
  all_goals
    go_wp2_with fail
    go_ret
    have G2 := H0.out.turn S2.out F2c.out
    exact ⟨rfl, v2, G2.1, V2.out, (F0.out.mono (fun _ h => h.elim)).trans G2.2 (fun i hi => .inl hi)⟩

set_option maxHeartbeats 3200000 in
theorem wnext_none (B g : Nat) (v : Value) (room : Int) (over : Bool) (w : World) (hs : Stk w B g v [] room over) :
    Calls Tryd.prog 34 #[.agg #[.pointer (some ⟨g, 0, none⟩)]] w (Same w (.tuple #[.agg #[.int .i64 0, .int .i64 0], .bool false])) := by
  have HS := Lib.hid hs
  have lg := lt_of_blk hs.blk
  have HLT := Lib.hid (fun k hk => (hs.foot_lt k hk).2)
  clear hs
  go_enter Tryd.func34, Tryd.ntmps34
  go_wp2_with fail
  have F0 := Lib.hid (((Fr.refl No w).alloc (.cells #[.pointer (some ⟨g, 0, none⟩)] 53)).alloc (.cells #[.int .i64 0, .int .i64 0] 41))
  have X0 : Hid (((w.alloc (.cells #[.pointer (some ⟨g, 0, none⟩)] 53)).alloc (.cells #[.int .i64 0, .int .i64 0] 41)).heap[w.heap.size + 1]? = some (.cells #[.int .i64 0, .int .i64 0] 41 (0, 0))) := Lib.hid (by
    have h := heap_alloc_new (w.alloc (.cells #[.pointer (some ⟨g, 0, none⟩)] 53)) (.cells #[.int .i64 0, .int .i64 0] 41)
    rw [show (w.alloc (.cells #[.pointer (some ⟨g, 0, none⟩)] 53)).heap.size = w.heap.size + 1 from by simp] at h
    exact h)
  have Z0 : Hid (((w.alloc (.cells #[.pointer (some ⟨g, 0, none⟩)] 53)).alloc (.cells #[.int .i64 0, .int .i64 0] 41)).heap.size = w.heap.size + 2) := Lib.hid (by simp)
  generalize (w.alloc (.cells #[.pointer (some ⟨g, 0, none⟩)] 53)).alloc (.cells #[.int .i64 0, .int .i64 0] 41) = w0 at F0 X0 Z0 ⊢
  with_reducible refine (Stack.pop_none B g v room over _ (HS.out.fr F0.out (fun _ _ h => h))).mono ?_
  rintro e w1 ⟨rfl, hb1⟩
  have rb : w1.heap[w.heap.size + 1]? = some (.cells #[.int .i64 0, .int .i64 0] 41 (0, 0)) := (hb1.block _ (by have := Z0.out; omega)).trans X0.out
  have x0 : w1.cell? ⟨w.heap.size + 1, 0, none⟩ = some (.int .i64 0) := cell_of rb 0
  have x1 : w1.cell? ⟨w.heap.size + 1, 1, none⟩ = some (.int .i64 0) := cell_of rb 1
  have y0 := free_of rb 0
  have y1 := free_of rb 1
  have RBH := Lib.hid rb
  clear rb
  have HB := Lib.hid hb1
  clear hb1
  go_wp2_with fail
  refine bodyPost_ret (v := .tuple #[.agg #[.int .i64 0, .int .i64 0], .bool false]) (by simp [results, Tryd.results34, go_sem, x0, x1]) rfl ?_
  refine ⟨rfl, ?_⟩
  have h1 := (F0.out.below (Nat.le_refl _) (fun _ h => h.elim)).trans (HB.out.mono (by have := Z0.out; omega))
  exact (h1.setCell (p := ⟨w.heap.size + 1, 0, none⟩) (by simp) _).setCell (p := ⟨w.heap.size + 1, 1, none⟩) (by simp) _

set_option maxHeartbeats 3200000 in
theorem wnext_some (B g : Nat) (v : Value) (l : List (Int × Int)) (a b : Int) (room : Int) (over : Bool) (w : World) (hs : Stk w B g v (l ++ [(a, b)]) room over) :
    Calls Tryd.prog 34 #[.agg #[.pointer (some ⟨g, 0, none⟩)]] w (Stack.TakePost B g v l room over w (.tuple #[.agg #[.int .i64 a, .int .i64 b], .bool true])) := by
  have HS := Lib.hid hs
  have lg := lt_of_blk hs.blk
  have HLT := Lib.hid (fun k hk => (hs.foot_lt k hk).2)
  clear hs
  go_enter Tryd.func34, Tryd.ntmps34
  go_wp2_with fail
  have F0 := Lib.hid (((Fr.refl No w).alloc (.cells #[.pointer (some ⟨g, 0, none⟩)] 53)).alloc (.cells #[.int .i64 0, .int .i64 0] 41))
  have X0 : Hid (((w.alloc (.cells #[.pointer (some ⟨g, 0, none⟩)] 53)).alloc (.cells #[.int .i64 0, .int .i64 0] 41)).heap[w.heap.size + 1]? = some (.cells #[.int .i64 0, .int .i64 0] 41 (0, 0))) := Lib.hid (by
    have h := heap_alloc_new (w.alloc (.cells #[.pointer (some ⟨g, 0, none⟩)] 53)) (.cells #[.int .i64 0, .int .i64 0] 41)
    rw [show (w.alloc (.cells #[.pointer (some ⟨g, 0, none⟩)] 53)).heap.size = w.heap.size + 1 from by simp] at h
    exact h)
  have Z0 : Hid (((w.alloc (.cells #[.pointer (some ⟨g, 0, none⟩)] 53)).alloc (.cells #[.int .i64 0, .int .i64 0] 41)).heap.size = w.heap.size + 2) := Lib.hid (by simp)
  generalize (w.alloc (.cells #[.pointer (some ⟨g, 0, none⟩)] 53)).alloc (.cells #[.int .i64 0, .int .i64 0] 41) = w0 at F0 X0 Z0 ⊢
  with_reducible refine (Stack.pop_some B g v l a b room over _ (HS.out.fr F0.out (fun _ _ h => h))).mono ?_
  rintro e w1 ⟨rfl, v1, hs1, hv1, hf1⟩
  have rb : w1.heap[w.heap.size + 1]? = some (.cells #[.int .i64 0, .int .i64 0] 41 (0, 0)) := hf1.blk X0.out (fun h => by have := HLT.out _ h; omega)
  have x0 : w1.cell? ⟨w.heap.size + 1, 0, none⟩ = some (.int .i64 0) := cell_of rb 0
  have x1 : w1.cell? ⟨w.heap.size + 1, 1, none⟩ = some (.int .i64 0) := cell_of rb 1
  have y0 := free_of rb 0
  have y1 := free_of rb 1
  have RBH := Lib.hid rb
  clear rb
  have S1 := Lib.hid hs1
  have V1 := Lib.hid hv1
  have F1 := Lib.hid hf1
  clear hs1 hv1 hf1
  go_wp2_with fail
  refine bodyPost_ret (v := .tuple #[.agg #[.int .i64 a, .int .i64 b], .bool true]) (by simp [results, Tryd.results34, go_sem, x0, x1]) rfl ?_
  have hw : ∀ k, Stack.Foot g v1 k → k ≠ w.heap.size + 1 := by
    rintro k hk rfl
    have h2 : Stack.Foot g v (w.heap.size + 1) := by
      rcases hk with h | h
      · exact .inl h
      · exact .inr (by rw [← V1.out]; exact h)
    have := HLT.out _ h2
    omega
  refine ⟨rfl, v1, S1.out.fr (((Fr.refl (fun k => k = w.heap.size + 1) w1).setCell (p := ⟨w.heap.size + 1, 0, none⟩) (.inl rfl) _).setCell (p := ⟨w.heap.size + 1, 1, none⟩) (.inl rfl) _) (fun k hk => hw k hk), V1.out, ?_⟩
  exact ((Fr.trans (F0.out.mono (fun _ h => h.elim)) F1.out (fun i hi => .inl hi)).setCell (p := ⟨w.heap.size + 1, 0, none⟩) (.inr (by simp)) _).setCell (p := ⟨w.heap.size + 1, 1, none⟩) (.inr (by simp)) _

set_option maxHeartbeats 3200000 in
theorem new_any (n r : Int) (hr : max 1 (min n 256) = r) (w : World) :
    Calls Tryd.prog 6 #[.int .i64 n] w (fun e w' => ∃ gg P v, e = .returned (.pointer (some ⟨gg, 0, none⟩)) ∧ G w' w.heap.size gg P v [] r false Bitmap.w0 ∧ Below w.heap.size w w') := by
  have HR := Lib.hid hr
  clear hr
  go_enter Tryd.func6, Tryd.ntmps6
  go_wp2_with fail
  with_reducible refine (Stack.new_any n r HR.out _).mono ?_
  rintro e w1 ⟨gt, rfl, hs1, hb1⟩
  have S1 := Lib.hid hs1
  have B1 := Lib.hid hb1
  clear hs1 hb1
  go_wp2_with fail
  with_reducible refine (Bitmap.new_any 2048 _).mono ?_
  rintro e w2 ⟨gs, rfl, hs2, hb2⟩
  rw [show Bitmap.topN 2048 = 2048 from rfl] at hs2
  have S2 := Lib.hid hs2
  have B2 := Lib.hid hb2
  clear hs2 hb2
  go_wp2_with fail
  go_ret
  have F2 : Fr No w1 w2 := ((Fr.refl No w1).alloc (.cells #[.pointer (some ⟨gt, 0, none⟩)] 53)).then_below B2.out
  have F3 := F2.alloc (.cells #[.pointer (some ⟨w1.heap.size, 0, none⟩), .pointer (some ⟨gs, 0, none⟩)] 39)
  have hw : w2.heap[w1.heap.size]? = some (.cells #[.pointer (some ⟨gt, 0, none⟩)] 53 (0, 0)) := (B2.out.block _ (by simp)).trans (heap_alloc_new w1 _)
  have s2 := S2.out
  refine ⟨w2.heap.size, ⟨w1.heap.size, gt, gs⟩, .slice none 0 0, rfl, ⟨heap_alloc_new w2 _, alloc_of hw _, S1.out.fr F3 (fun _ _ h => h), (s2.lower (by have := B1.out.size; simp; omega)).no (Fr.alloc (Fr.refl No w2) _), ?_, B1.out.size⟩, B1.out.trans (F3.below B1.out.size (fun _ h => h.elim))⟩
  have := B1.out.size
  have := F2.size
  omega

end Go.Proofs.YtoipjmhfeggdeaaDoor.Shade
