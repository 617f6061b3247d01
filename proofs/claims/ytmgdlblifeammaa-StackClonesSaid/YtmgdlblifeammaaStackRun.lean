/- Proved: what one call of a script, and a whole script, of package scutagelaw17 does to a stack and to its book, and that they agree. -/
import Derived.Test.YtmgdlblifeammaaStackLaw
import Derived.Deep.RegionLaw
import Derived.Outline
namespace Go.Proofs.Ytmgdlblifeammaa.StackRun
open Go.RowKit Go.Proofs.Ytmgdlblifeammaa.H Go.Proofs.Ytmgdlblifeammaa.Stack Go.Proofs.Ytmgdlblifeammaa.StackLaw

/-- a stack, and the row of a book that has the same entries -/
structure Both (w : World) (B g : Nat) (v bv : Value) (l : List (Int × Int)) (room : Int) (over : Bool) : Prop where
  stk : Stk w B g v l room over
  row : w.ownsRow B 29 2 bv l.length (ents l)
  sep : ∀ k, bv.ownBlock = some k → ¬ Foot g v k

theorem Both.fr {w w' : World} {B g : Nat} {v bv : Value} {l : List (Int × Int)} {room : Int} {over : Bool} (h : Both w B g v bv l room over) (hf : Fr No w w') : Both w' B g v bv l room over :=
  ⟨h.stk.fr hf (fun _ _ h => h), hf.own h.row (fun _ _ h => h), h.sep⟩

/-- a row that stays in its block, or comes to a new one -/
def Moved (bv bv' : Value) (w : World) : Prop := bv'.ownBlock = bv.ownBlock ∨ ∃ k, bv'.ownBlock = some k ∧ w.heap.size ≤ k

def StepPost (B g : Nat) (v bv : Value) (room : Int) (w : World) (e : Ending) (w' : World) : Prop :=
  ∃ v' bv' l' over', e = .returned (.tuple #[.agg #[bv', .int .i64 room, .bool over'], .bool true]) ∧ Both w' B g v' bv' l' room over' ∧ Fr (Foot g v) w w' ∧ (v'.ownBlock = v.ownBlock ∨ ∃ k, v'.ownBlock = some k ∧ w.heap.size ≤ k) ∧ Moved bv bv' w

/-- what is left when the result's block b has been written last -/
theorem step_close {B g b : Nat} {v v' bv bv' : Value} {l' : List (Int × Int)} {room : Int} {over' : Bool} {w w4 : World} {x y z : Value} (hf : Fr (Foot g v) w w4) (h4 : Stk w4 B g v' l' room over')
    (hat : v'.ownBlock = v.ownBlock ∨ ∃ k, v'.ownBlock = some k ∧ w.heap.size ≤ k) (hmv : Moved bv bv' w) (ho : w4.ownsRow B 29 2 bv' l'.length (ents l')) (hsep : ∀ k, bv'.ownBlock = some k → ¬ Foot g v' k)
    (hb : w.heap.size ≤ b) (hbf : ¬ Foot g v' b) (hbo : bv'.ownBlock ≠ some b) :
    StepPost B g v bv room w (.returned (.tuple #[.agg #[bv', .int .i64 room, .bool over'], .bool true])) (((w4.setCell ⟨b, 0, none⟩ x).setCell ⟨b, 1, none⟩ y).setCell ⟨b, 2, none⟩ z) := by
  have hs : Fr (fun k => k = b) w4 (((w4.setCell ⟨b, 0, none⟩ x).setCell ⟨b, 1, none⟩ y).setCell ⟨b, 2, none⟩ z) := (((Fr.refl (fun k => k = b) w4).setCell (p := ⟨b, 0, none⟩) (.inl rfl) x).setCell (p := ⟨b, 1, none⟩) (.inl rfl) y).setCell (p := ⟨b, 2, none⟩) (.inl rfl) z
  refine ⟨v', bv', l', over', rfl, ⟨h4.fr hs (fun k hk e => hbf (e ▸ hk)), hs.own ho (fun k hk e => hbo (e ▸ hk)), hsep⟩, ?_, hat, hmv⟩
  exact hf.trans hs (fun i hi => .inr (by rw [hi]; exact hb))

theorem StepPost.fr {B g : Nat} {v bv : Value} {room : Int} {w w' w'' : World} {e : Ending} (h : StepPost B g v bv room w e w') (hf : Fr No w' w'') : StepPost B g v bv room w e w'' := by
  obtain ⟨v', bv', l', over', rfl, h1, h2, h3⟩ := h
  exact ⟨v', bv', l', over', rfl, h1.fr hf, h2.trans hf (fun _ h => h.elim), h3⟩

set_option maxRecDepth 100000 in
set_option maxHeartbeats 6400000 in
theorem step_push_full (B g : Nat) (v bv : Value) (l : List (Int × Int)) (room : Int) (over : Bool) (a b : Int) (w : World) (hs : Both w B g v bv l room over) (hfull : (l.length : Int) = room) :
    Calls Try.prog 22 #[.pointer (some ⟨g, 0, none⟩), .agg #[bv, .int .i64 room, .bool over], .agg #[.int .i64 1, .int .i64 a, .int .i64 b]] w (StepPost B g v bv room w) := by
  obtain ⟨A, c, rfl, _⟩ := own_slice hs.row
  have HS := Lib.hid hs
  have HF := Lib.hid hfull
  have e1 : decide (room ≤ (l.length : Int)) = true := decide_eq_true (by omega)
  have hlt : ∀ k, Foot g v k → k < w.heap.size := fun k hk => (hs.stk.foot_lt k hk).2
  have HN := Lib.hid hlt
  have u0 : w.heap.size + 1 + 1 ≠ w.heap.size := by omega
  have u1 : w.heap.size + 1 + 1 ≠ w.heap.size + 1 := by omega
  clear hs hlt hfull
  go_enter Try.func22, Try.ntmps22
  go_wp2_with fail
  go_region_held3 (fun w' => w'.cell? ⟨w.heap.size, 0, none⟩ = some (.slice A l.length c) ∧ w'.cell? ⟨w.heap.size, 1, none⟩ = some (.int .i64 room) ∧ w'.cell? ⟨w.heap.size + 1, 1, none⟩ = some (.int .i64 a) ∧ w'.cell? ⟨w.heap.size + 1, 2, none⟩ = some (.int .i64 b))
    (((try go_split_ands); refine ⟨?_, ?_, ?_, ?_⟩ <;> (first | with_reducible assumption | (with_reducible refine (far3 u0).trans ?_; with_reducible assumption) | (with_reducible refine (far3 u1).trans ?_; with_reducible assumption) | (with_reducible refine hf4.cell ?_ (fun h => by have h2 := HN.out _ h; dsimp only at h2; omega); with_reducible assumption) | (go_keep; done))))
    ((go_at_call 9; refine (push_full B g v l room over a b _ (HS.out.fr (by repeat (first | exact Fr.refl _ _ | apply Fr.drewN | apply Fr.drew | apply Fr.alloc))).stk HF.out).mono ?_; rintro e w4 ⟨rfl, hs4, hf4⟩; have z : w4.heap[w.heap.size + 1 + 1]? = some (.cells #[.slice none 0 0, .int .i64 0, .bool false] 35 (0, 0)) := hf4.blk (heap3_new w _ _ _) (fun h => by have h2 := HN.out _ h; omega); have z0 : w4.cell? ⟨w.heap.size + 1 + 1, 0, none⟩ = some (.slice none 0 0) := cell_of z 0; have z1 : w4.cell? ⟨w.heap.size + 1 + 1, 1, none⟩ = some (.int .i64 0) := cell_of z 1; have z2 : w4.cell? ⟨w.heap.size + 1 + 1, 2, none⟩ = some (.bool false) := cell_of z 2; have q0 := free_of z 0; have q1 := free_of z 1; have q2 := free_of z 2; have H4 := Lib.hid hs4; have Z := Lib.hid z; clear z hs4))
  go_wp2
  refine bodyPost_ret (v := .tuple #[.agg #[.slice A l.length c, .int .i64 room, .bool true], .bool true]) (by simp [results, Try.results22, go_sem, z0, z1, z2]) rfl ?_
  have hb := HS.out
  have hf : Fr (Foot g v) w w4 := Fr.trans (by repeat (first | exact Fr.refl _ _ | apply Fr.drewN | apply Fr.drew | apply Fr.alloc)) hf4 (fun i hi => .inl hi)
  exact step_close hf H4.out (.inl rfl) (.inl rfl) (hf.own hb.row hb.sep) hb.sep (by omega) (fun h => by have := HN.out _ h; omega) (fun h => by have := (hb.row.lt _ h).2; omega)

set_option maxRecDepth 100000 in
set_option maxHeartbeats 12800000 in
theorem step_push_room (B g : Nat) (v bv : Value) (l : List (Int × Int)) (room : Int) (over : Bool) (a b : Int) (w : World) (hs : Both w B g v bv l room over) (hroom : (l.length : Int) < room) :
    Calls Try.prog 22 #[.pointer (some ⟨g, 0, none⟩), .agg #[bv, .int .i64 room, .bool over], .agg #[.int .i64 1, .int .i64 a, .int .i64 b]] w (StepPost B g v bv room w) := by
  obtain ⟨i0, hi0, hz0, hz1, hz2⟩ := info_parts infoE
  obtain ⟨A, c, rfl, _⟩ := own_slice hs.row
  have HS := Lib.hid hs
  have HF := Lib.hid hroom
  have e1 : decide (room ≤ (l.length : Int)) = false := decide_eq_false (by omega)
  have HN := Lib.hid (show ∀ k, Foot g v k → B ≤ k ∧ k < w.heap.size from hs.stk.foot_lt)
  have HB := Lib.hid (show B ≤ w.heap.size by have := hs.stk.foot_lt g (.inl rfl); omega)
  have hlen : l.length ≤ 256 := by have := hs.stk.r1; omega
  have u0 : w.heap.size + 1 + 1 ≠ w.heap.size := by omega
  have u1 : w.heap.size + 1 + 1 ≠ w.heap.size + 1 := by omega
  have HR := Lib.hid (fun (W : World) (hW : Fr No w W) => Rd.of_own (hW.own hs.row (fun _ _ h => h)) (ents_one l))
  clear hs hroom
  go_enter Try.func22, Try.ntmps22
  go_wp2_with (at_builtin; refine wpList_append_rd rfl _ _ _ rfl B 29 i0 _ 2 16 Try.underlying22 hi0 hz0 hz1 hz2 rfl (by omega) (.slice none 0 0) 0 [] rfl (World.ownsRow_nil _ _ _ _) (.slice A l.length c) l.length (ents l) rfl (HR.out _ (by repeat (first | exact Fr.refl _ _ | apply Fr.drewN | apply Fr.drew | apply Fr.alloc))) (by unfold maxLen; omega) (by omega) (by have := HB.out; simp; omega) ?_; intro v5 w5 hown5 hgrow5 hat5; refine Hid.out ?_)
  simp only [Nat.zero_add, List.nil_append] at hown5
  have B4 := Lib.hid ((hgrow5.block w.heap.size (by simp; omega) (by simp [Value.ownBlock])).trans (heap3_old w _ _ _))
  have B5 := Lib.hid ((hgrow5.block (w.heap.size + 1) (by simp) (by simp [Value.ownBlock])).trans (heap3_mid w _ _ _))
  have B6 := Lib.hid ((hgrow5.block (w.heap.size + 1 + 1) (by simp) (by simp [Value.ownBlock])).trans (heap3_new w _ _ _))
  have F5 := Lib.hid (show Fr No w w5 from Fr.grown (by repeat (first | exact Fr.refl _ _ | apply Fr.drewN | apply Fr.drew | apply Fr.alloc)) hgrow5 (fun k hk => by cases hk))
  have HO5 := Lib.hid hown5
  have HA5 := Lib.hid (show ∀ k, v5.ownBlock = some k → w.heap.size + 1 + 1 < k by
    intro k hk
    rcases hat5 with h | h
    · rw [h] at hk; cases hk
    · rw [h] at hk; injection hk with hk; simp at hk; omega)
  clear hown5 hgrow5 hat5
  have k1 : w5.cell? ⟨w.heap.size + 1, 1, none⟩ = some (.int .i64 a) := cell_of B5.out 1
  have k2 : w5.cell? ⟨w.heap.size + 1, 2, none⟩ = some (.int .i64 b) := cell_of B5.out 2
  have hz5 : w.heap.size + 1 + 1 + 1 ≤ w5.heap.size := by have := F5.out.size; have := (Array.getElem?_eq_some_iff.1 B6.out).1; omega
  refine Lib.hid ?_
  go_wp2_with (at_builtin; refine wpList_append_lies _ rfl _ _ _ rfl B 29 i0 _ 2 16 Try.underlying22 hi0 hz0 hz1 hz2 rfl (by omega) v5 l.length (ents l) rfl (HO5.out.alloc _) ⟨w5.heap.size, 0, none⟩ 1 1 [.int .i64 a, .int .i64 b] rfl rfl (World.news_of_block (cs := #[.int .i64 a, .int .i64 b]) (t := 29) (fr := (0, 0)) (heap_alloc_new w5 _)) (by simp [Value.oneCell']) (by omega) (by unfold maxLen; omega) (by omega) (by have := HB.out; simp; omega) (w5.heap.size + 1) (by simp) ?_; intro gg cap w6 hown6 hgrow6 hat6 hlt6; refine Hid.out ?_)
  have F6 := Lib.hid (show Fr (fun k => v5.ownBlock = some k) w5 w6 from Fr.grown (by repeat (first | exact Fr.refl _ _ | apply Fr.drewN | apply Fr.drew | apply Fr.alloc)) hgrow6 (fun k hk => .inl hk))
  have C4 := Lib.hid (F6.out.blk B4.out (fun h => by have := HA5.out _ h; omega))
  have C5 := Lib.hid (F6.out.blk B5.out (fun h => by have := HA5.out _ h; omega))
  have C6 := Lib.hid (F6.out.blk B6.out (fun h => by have := HA5.out _ h; omega))
  have HG : Hid (w.heap.size + 1 + 1 < gg) := Lib.hid (by
    rcases hat6 with h | h
    · exact HA5.out _ h
    · omega)
  have HO6 := Lib.hid hown6
  have HW : Hid (Fr No w w6) := Lib.hid (F5.out.trans F6.out (fun i hi => by have := HA5.out _ hi; exact .inr (by omega)))
  clear hown6 hgrow6 hat6 k1 k2
  have k1 : w6.cell? ⟨w.heap.size + 1, 1, none⟩ = some (.int .i64 a) := cell_of C5.out 1
  have k2 : w6.cell? ⟨w.heap.size + 1, 2, none⟩ = some (.int .i64 b) := cell_of C5.out 2
  have j1 : w6.cell? ⟨w.heap.size, 1, none⟩ = some (.int .i64 room) := cell_of C4.out 1
  have j2 : w6.cell? ⟨w.heap.size, 2, none⟩ = some (.bool over) := cell_of C4.out 2
  refine Lib.hid ?_
  go_wp2_with fail
  go_region_held3 (fun w' => w'.cell? ⟨w.heap.size, 1, none⟩ = some (.int .i64 room) ∧ w'.cell? ⟨w.heap.size, 2, none⟩ = some (.bool over) ∧ w'.cell? ⟨w.heap.size + 1, 1, none⟩ = some (.int .i64 a) ∧ w'.cell? ⟨w.heap.size + 1, 2, none⟩ = some (.int .i64 b))
    (((try go_split_ands); refine ⟨?_, ?_, ?_, ?_⟩ <;> (first | with_reducible assumption | (with_reducible refine (far3 u0).trans ?_; with_reducible assumption) | (with_reducible refine (far3 u1).trans ?_; with_reducible assumption) | (with_reducible refine hf4.cell ?_ (fun h => by have h2 := (HN.out _ h).2; dsimp only at h2; omega); with_reducible assumption) | (go_keep; done))))
    ((go_at_call 9; refine (push_room B g v l room over a b _ (HS.out.stk.fr (S := No) (Fr.drew HW.out) (fun _ _ h => h)) HF.out).mono ?_; rintro e w4 ⟨rfl, v4, hs4, hat4, hf4⟩; have z : w4.heap[w.heap.size + 1 + 1]? = some (.cells #[.slice none 0 0, .int .i64 0, .bool false] 35 (0, 0)) := hf4.blk C6.out (fun h => by have h2 := (HN.out _ h).2; omega); have z0 : w4.cell? ⟨w.heap.size + 1 + 1, 0, none⟩ = some (.slice none 0 0) := cell_of z 0; have z1 : w4.cell? ⟨w.heap.size + 1 + 1, 1, none⟩ = some (.int .i64 0) := cell_of z 1; have z2 : w4.cell? ⟨w.heap.size + 1 + 1, 2, none⟩ = some (.bool false) := cell_of z 2; have q0 := free_of z 0; have q1 := free_of z 1; have q2 := free_of z 2; have H4 := Lib.hid hs4; have Z := Lib.hid z; have HT := Lib.hid hat4; clear z hs4 hat4))
  go_wp2
  refine bodyPost_ret (v := .tuple #[.agg #[.slice (some ⟨gg, 0, none⟩) (l.length + 1) cap, .int .i64 room, .bool over], .bool true]) (by simp [results, Try.results22, go_sem, z0, z1, z2]) rfl ?_
  have hb := HS.out
  have hgn : ¬ Foot g v gg := fun h => by have := (HN.out _ h).2; have := HG.out; omega
  have ho4 : w4.ownsRow B 29 2 (.slice (some ⟨gg, 0, none⟩) (l.length + 1) cap) (l ++ [(a, b)]).length (ents (l ++ [(a, b)])) := by
    rw [ents_snoc, List.length_append]
    exact hf4.own HO6.out (fun k hk => by simp only [Value.ownBlock, Option.some.injEq] at hk; subst hk; exact hgn)
  have hlt6' : gg < w6.heap.size := hlt6
  have hat' : v4.ownBlock = v.ownBlock ∨ ∃ k, v4.ownBlock = some k ∧ w6.heap.size ≤ k := HT.out
  have hz6 := HW.out.size
  have hn6 : w.heap.size + 1 + 1 < w6.heap.size := lt_of_blk C6.out
  have hfoot : ∀ k, Foot g v4 k → Foot g v k ∨ w6.heap.size ≤ k := by
    rintro k (h | h)
    · exact .inl (.inl h)
    · rcases hat' with h2 | ⟨j, h2, h3⟩
      · exact .inl (.inr (by rw [← h2]; exact h))
      · rw [h2] at h; injection h with h; exact .inr (by omega)
  refine step_close (l' := l ++ [(a, b)]) (((HW.out.mono (fun _ h => h.elim)).drew).trans hf4 (fun i hi => .inl hi)) H4.out ?_ (.inr ⟨gg, rfl, by have := HG.out; omega⟩) ho4 ?_ (by omega) ?_ ?_
  · rcases hat' with h2 | ⟨j, h2, h3⟩
    · exact .inl h2
    · exact .inr ⟨j, h2, by omega⟩
  · intro k hk hf
    simp only [Value.ownBlock, Option.some.injEq] at hk
    subst hk
    rcases hfoot _ hf with h | h
    · exact hgn h
    · omega
  · intro hf
    rcases hfoot _ hf with h | h
    · have := (HN.out _ h).2; omega
    · omega
  · have := HG.out
    simp only [Value.ownBlock, ne_eq, Option.some.injEq]
    omega

end Go.Proofs.Ytmgdlblifeammaa.StackRun
