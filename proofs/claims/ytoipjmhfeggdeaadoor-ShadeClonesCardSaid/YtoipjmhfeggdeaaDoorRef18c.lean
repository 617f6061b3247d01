/- Proved: what Pop, Shade of the reference scutageref18's Grey do and answer. -/
import Derived.Test.YtoipjmhfeggdeaaDoorRef18b
namespace Go.Proofs.YtoipjmhfeggdeaaDoor.Ref18
open Go.RowKit Go.Proofs.YtoipjmhfeggdeaaDoor.H Go.Proofs.YtoipjmhfeggdeaaDoor.Nums Go.Proofs.YtoipjmhfeggdeaaDoor.BitPure Go.Proofs.YtoipjmhfeggdeaaDoor.Shade
set_option linter.unusedVariables false
attribute [local irreducible] elems from_ nxt elemsN rc zCells

theorem push_any (B g : Nat) (v : Value) (l : List (Int × Int)) (room : Int) (over : Bool) (ws : List Nat) (a b : Int) (w : World) (h : R w B g v l room over ws) :
    Calls Tryd.prog 29 #[.pointer (some ⟨g, 0, none⟩), .agg #[.int .i64 a, .int .i64 b]] w (RPost B g v (pushL l room (a, b)) room (pushO l room over) ws (.bool (decide ((l.length : Int) < room))) w) := by
  unfold pushL pushO
  by_cases hf : (l.length : Int) < room
  · rw [if_pos hf, decide_eq_true hf]
    have h2 := push_room B g v l room over ws a b w h hf
    simpa using h2
  · rw [if_neg hf, decide_eq_false hf]
    have h2 := push_full B g v l room over ws a b w h (by have := h.len; omega)
    simpa using h2

set_option maxRecDepth 100000 in
set_option maxHeartbeats 6400000 in
theorem shade_any (B g : Nat) (v : Value) (l : List (Int × Int)) (room : Int) (over : Bool) (ws : List Nat) (i : Int) (w : World) (h : R w B g v l room over ws) :
    Calls Tryd.prog 26 #[.pointer (some ⟨g, 0, none⟩), .int .i64 i] w (RPost B g v (shL l room ws i) room (shO l room over ws i) (Bitmap.addW 2048 ws i) (.bool (Bitmap.addOk 2048 ws i)) w) := by
  have HH := Lib.hid h
  clear h
  unfold shL shO
  cases ha : Bitmap.addOk 2048 ws i with
  | false =>
    have HA := Lib.hid ha
    clear ha
    rw [if_neg (by simp), if_neg (by simp)]
    go_enter Tryd.func26, Tryd.ntmps26
    go_wp2_with fail
    with_reducible refine (black_any B g v l room over ws i _ HH.out).mono ?_
    rintro e w1 ⟨rfl, v1, hg1, hv1, hf1⟩
    rw [HA.out]
    have G1 := Lib.hid hg1
    have V1 := Lib.hid hv1
    have F1 := Lib.hid hf1
    clear hg1 hv1 hf1
    go_wp2_with fail
    go_ret
    exact ⟨rfl, v1, G1.out, V1.out, F1.out⟩
  | true =>
    have HA := Lib.hid ha
    clear ha
    rw [if_pos rfl, if_pos rfl]
    go_enter Tryd.func26, Tryd.ntmps26
    go_wp2_with fail
    with_reducible refine (black_any B g v l room over ws i _ HH.out).mono ?_
    rintro e w1 ⟨rfl, v1, hg1, hv1, hf1⟩
    rw [HA.out]
    have G1 := Lib.hid hg1
    have V1 := Lib.hid hv1
    have F1 := Lib.hid hf1
    clear hg1 hv1 hf1
    go_wp2_with fail
    with_reducible refine (push_any B g v1 l room over _ i 0 _ G1.out).mono ?_
    rintro e w2 ⟨rfl, v2, hg2, hv2, hf2⟩
    have G2 := Lib.hid hg2
    have V2 := Lib.hid hv2
    have F2 := Lib.hid hf2
    clear hg2 hv2 hf2
    go_wp2_with fail
    go_ret
    have hz := F1.out.size
    have hm : ∀ k, Stack.Foot g v1 k → Stack.Foot g v k ∨ w.heap.size ≤ k := fun k hk => by
      rcases hk with h | h
      · exact .inl (.inl h)
      · exact (V1.out k h).elim (fun e => .inl (.inr e)) .inr
    exact ⟨rfl, v2, G2.out, fun k hk => (V2.out k hk).elim (fun e => V1.out k e) (fun h => .inr (by omega)), F1.out.trans F2.out hm⟩

set_option maxRecDepth 100000 in
set_option maxHeartbeats 6400000 in
theorem pop_none (B g : Nat) (v : Value) (room : Int) (over : Bool) (ws : List Nat) (w : World) (h : R w B g v [] room over ws) :
    Calls Tryd.prog 28 #[.pointer (some ⟨g, 0, none⟩)] w (Same w (.tuple #[.agg #[.int .i64 0, .int .i64 0], .bool false])) := by
  obtain ⟨A, c, rfl, _⟩ := own_slice h.own
  have c0 := h.rest.1
  have HH := Lib.hid h
  have lg := lt_of_blk h.blk
  have nn : w.heap.size ≠ g := by omega
  clear h
  go_enter Tryd.func28, Tryd.ntmps28
  have rb := heap_alloc_new w (.cells #[.int .i64 0, .int .i64 0] 59)
  have x0 : (w.alloc (.cells #[.int .i64 0, .int .i64 0] 59)).cell? ⟨w.heap.size, 0, none⟩ = some (.int .i64 0) := cell_of rb 0
  have x1 : (w.alloc (.cells #[.int .i64 0, .int .i64 0] 59)).cell? ⟨w.heap.size, 1, none⟩ = some (.int .i64 0) := cell_of rb 1
  have X0 := Lib.hid x0
  have X1 := Lib.hid x1
  clear rb x0 x1
  go_wp2_with fail
  have x0 := X0.out
  have x1 := X1.out
  refine bodyPost_ret (v := .tuple #[.agg #[.int .i64 0, .int .i64 0], .bool false]) (by simp [results, Tryd.results28, go_sem, x0, x1]) rfl ⟨rfl, ?_⟩
  exact (Below.refl _ w).alloc (Nat.le_refl _) _

set_option maxRecDepth 100000 in
set_option maxHeartbeats 6400000 in
theorem pop_some (B g : Nat) (v : Value) (l : List (Int × Int)) (a b : Int) (room : Int) (over : Bool) (ws : List Nat) (w : World) (hB : B ≤ w.heap.size) (h : R w B g v (l ++ [(a, b)]) room over ws) :
    Calls Tryd.prog 28 #[.pointer (some ⟨g, 0, none⟩)] w (RPost B g v l room over ws (.tuple #[.agg #[.int .i64 a, .int .i64 b], .bool true]) w) := by
  obtain ⟨A, c, rfl, hcc⟩ := own_slice h.own
  have hlen : (l ++ [(a, b)]).length = l.length + 1 := by simp
  have hrd := Rd.of_own h.own (Stack.ents_one _)
  obtain ⟨ad, rfl, y0, y1⟩ := Stack.rd_at hrd l.length (by simp)
  rw [show (l ++ [(a, b)])[l.length]'(by simp) = (a, b) by simp] at y0 y1
  dsimp only at y0 y1
  have htk : Rd w (.slice (some ad) l.length c) l.length 2 (Stack.ents l) := by
    have h2 := hrd.take (m := l.length) (by simp)
    rw [Stack.ents_take] at h2
    simpa using h2
  have c0 := h.rest.1
  have f0 := free_of h.blk 2048
  rw [hlen] at c0
  have HH : Hid (R w B g (.slice (some ad) (l.length + 1) c) (l ++ [(a, b)]) room over ws) := Lib.hid (by rw [← hlen]; exact h)
  have HT := Lib.hid htk
  have lg := lt_of_blk h.blk
  have nn : w.heap.size ≠ g := by omega
  have HR := Lib.hid (show (l.length : Int) + 1 ≤ 256 by have := h.len; have := h.r1; rw [hlen] at *; omega)
  have HBW := Lib.hid hB
  have i1 : (0 : Int) ≤ (l.length : Int) := Int.natCast_nonneg _
  have i2 : (l.length : Int) ≤ 255 := by have := HR.out; omega
  have e1 : (((l.length : Int) + 1) == 0) = false := by simp; omega
  rw [hlen] at hcc ⊢
  have FA := (Fr.refl No w).alloc (.cells #[.int .i64 0, .int .i64 0] 59)
  have z0 := FA.cell y0 (fun h => h)
  have z1 := FA.cell y1 (fun h => h)
  have d0 := FA.cell c0 (fun h => h)
  have rb := heap_alloc_new w (.cells #[.int .i64 0, .int .i64 0] 59)
  have RB := Lib.hid rb
  clear h hrd htk hlen hB FA rb y0 y1
  go_enter Tryd.func28, Tryd.ntmps28
  obtain ⟨i0, hi0, hz0, hz1, hz2⟩ := info_parts infoE
  have rb2 : ((w.alloc (.cells #[.int .i64 0, .int .i64 0] 59)).alloc (.cells #[.int .i64 a, .int .i64 b] 59)).heap[w.heap.size + 1]? = some (.cells #[.int .i64 a, .int .i64 b] 59 (0, 0)) := heap2_new w _ _
  have RB2 := Lib.hid rb2
  have RB1 := Lib.hid (alloc_of RB.out (.cells #[.int .i64 a, .int .i64 b] 59))
  have HT2 := Lib.hid (HT.out.below (((Fr.alloc (Fr.alloc (Fr.refl No w) (.cells #[.int .i64 0, .int .i64 0] 59)) (.cells #[.int .i64 a, .int .i64 b] 59))).below (Nat.le_refl _) (fun _ h => h.elim)))
  have nn2 : w.heap.size + 1 ≠ g := by omega
  clear rb2
  go_wp2_with (at_builtin; refine wpList_append_rd rfl _ _ _ rfl w.heap.size 59 i0 _ 2 16 Tryd.underlying56 hi0 hz0 hz1 hz2 rfl (by omega) (.slice none 0 0) 0 [] rfl (World.ownsRow_nil _ _ _ _) _ l.length (Stack.ents l) rfl HT2.out (by unfold maxLen; omega) (by omega) (by simp; omega) ?_; intro v6 w6 h1 h2 h3; refine Hid.out ?_)
  have FW : Fr No ((w.alloc (.cells #[.int .i64 0, .int .i64 0] 59)).alloc (.cells #[.int .i64 a, .int .i64 b] 59)) w6 := Fr.grown (Fr.refl No _) h2 (fun k hk => by cases hk)
  have F6 := Lib.hid ((Fr.alloc (Fr.alloc (Fr.refl No w) (.cells #[.int .i64 0, .int .i64 0] 59)) (.cells #[.int .i64 a, .int .i64 b] 59)).trans FW (fun i (h : No i) => h.elim))
  have O6 : Hid (w6.ownsRow w.heap.size 59 2 v6 l.length (Stack.ents l)) := Lib.hid (by simpa using h1)
  have k1 := FW.blk RB1.out (fun h => h)
  have k2 := FW.blk RB2.out (fun h => h)
  have NB : Hid (∀ k, v6.ownBlock = some k → w.heap.size + 2 ≤ k) := Lib.hid (fun k hk => by
    rcases h3 with h3 | h3
    · rw [h3] at hk; cases hk
    · rw [h3] at hk; injection hk with hk; simp at hk; omega)
  clear h1 h2 h3 FW
  have H6 := Lib.hid (HH.out.no F6.out)
  have m0 := H6.out.rest.1
  have m1 := free_of H6.out.blk 2048
  have x0 : w6.cell? ⟨w.heap.size, 0, none⟩ = some (.int .i64 0) := cell_of k1 0
  have x1 : w6.cell? ⟨w.heap.size, 1, none⟩ = some (.int .i64 0) := cell_of k1 1
  have u0 := free_of k1 0
  have u1 := free_of k1 1
  have y0 : w6.cell? ⟨w.heap.size + 1, 0, none⟩ = some (.int .i64 a) := cell_of k2 0
  have y1 : w6.cell? ⟨w.heap.size + 1, 1, none⟩ = some (.int .i64 b) := cell_of k2 1
  have K1 := Lib.hid k1
  clear k1 k2
  obtain ⟨A6, c6, rfl, _⟩ := own_slice O6.out
  refine Lib.hid ?_
  go_wp2_with fail
  refine bodyPost_ret (v := .tuple #[.agg #[.int .i64 a, .int .i64 b], .bool true]) (by simp [results, Tryd.results28, go_sem, x0, x1]) rfl ?_
  have h6 := H6.out
  have nb1 : (Value.slice A6 l.length c6).ownBlock ≠ some g := fun e => by have := NB.out g e; omega
  have nb2 : (Value.slice A6 l.length c6).ownBlock ≠ some w.heap.size := fun e => by have := NB.out _ e; omega
  have own6 : w6.ownsRow B 59 2 (.slice A6 l.length c6) l.length (Stack.ents l) := by
    refine ⟨O6.out.1, ?_⟩
    rcases O6.out.2 with h2 | ⟨d, cap, cur, e1, e2, e3⟩
    · exact .inl h2
    · exact .inr ⟨d, cap, cur, e1, Nat.le_trans HBW.out e2, e3⟩
  refine ⟨rfl, .slice A6 l.length c6, ⟨?_, own_setCell (own_setCell (own_setCell own6 (p := ⟨g, 2048, none⟩) nb1 _) (p := ⟨w.heap.size, 0, none⟩) nb2 _) (p := ⟨w.heap.size, 1, none⟩) nb2 _, h6.base, h6.r0, h6.r1, by have := HR.out; have := h6.r0; have h9 := h6.len; rw [List.length_append] at h9; simp at h9; omega, h6.ok⟩, fun k hk => .inr (by have := NB.out k hk; omega), ?_⟩
  · have q1 := set_of h6.blk 2048 (Value.slice A6 l.length c6)
    rw [rc_tail (over' := over) (v' := .slice A6 l.length c6) 2048 _ (by omega) (by omega) rfl] at q1
    exact far_of (far_of q1 (p := ⟨w.heap.size, 0, none⟩) (Ne.symm nn) _) (p := ⟨w.heap.size, 1, none⟩) (Ne.symm nn) _
  · exact (((F6.out.mono (fun _ h => h.elim)).setCell (p := ⟨g, 2048, none⟩) (.inl (.inl rfl)) _).setCell (p := ⟨w.heap.size, 0, none⟩) (.inr (Nat.le_refl _)) _).setCell (p := ⟨w.heap.size, 1, none⟩) (.inr (Nat.le_refl _)) _

end Go.Proofs.YtoipjmhfeggdeaaDoor.Ref18
