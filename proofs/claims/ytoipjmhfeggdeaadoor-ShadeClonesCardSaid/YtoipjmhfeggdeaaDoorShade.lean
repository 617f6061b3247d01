/- Proved: what each call of package shade does to marks and a stack in memory and answers (the calls' contracts); the conditions stand in each theorem. -/
import Derived.Test.YtoipjmhfeggdeaaDoorStack
import Derived.Test.YtoipjmhfeggdeaaDoorBitmap6
namespace Go.Proofs.YtoipjmhfeggdeaaDoor.Shade
open Go.RowKit Go.Proofs.YtoipjmhfeggdeaaDoor.H Go.Proofs.YtoipjmhfeggdeaaDoor.Nums Go.Proofs.YtoipjmhfeggdeaaDoor.BitPure
set_option linter.unusedVariables false
attribute [local irreducible] elems from_ nxt elemsN

abbrev Stk := @Stack.Stk
abbrev Bm := @Bitmap.S
/-- where a grey's parts lie -/
structure Pl where
  gw : Nat
  gt : Nat
  gs : Nat
def Pl.foot (P : Pl) (v : Value) : Nat → Prop := fun k => k = P.gt ∨ v.ownBlock = some k ∨ k = P.gs
structure G (w : World) (B gg : Nat) (P : Pl) (v : Value) (l : List (Int × Int)) (room : Int) (over : Bool) (ws : List Nat) : Prop where
  grey : w.heap[gg]? = some (.cells #[.pointer (some ⟨P.gw, 0, none⟩), .pointer (some ⟨P.gs, 0, none⟩)] 39 (0, 0))
  wait : w.heap[P.gw]? = some (.cells #[.pointer (some ⟨P.gt, 0, none⟩)] 53 (0, 0))
  stk : Stk w B P.gt v l room over
  set : Bm w B P.gs 2048 ws
  bg : B ≤ gg
  bw : B ≤ P.gw
section
variable {w w' : World} {B gg : Nat} {P : Pl} {v : Value} {l : List (Int × Int)} {room : Int} {over : Bool} {ws : List Nat}
theorem G.ts (h : G w B gg P v l room over ws) : P.gt ≠ P.gs := ne_of_type h.stk.blk h.set.blk (by decide)
theorem G.vs (h : G w B gg P v l room over ws) : v.ownBlock ≠ some P.gs := own_ne_blk h.stk.own h.set.blk (by decide)
theorem G.ng (h : G w B gg P v l room over ws) : ¬ P.foot v gg := by
  rintro (e | e | e)
  · exact ne_of_type h.grey h.stk.blk (by decide) e
  · exact own_ne_blk h.stk.own h.grey (by decide) e
  · exact ne_of_type h.grey h.set.blk (by decide) e
theorem G.nw (h : G w B gg P v l room over ws) : ¬ P.foot v P.gw := by
  rintro (e | e | e)
  · exact ne_of_type h.wait h.stk.blk (by decide) e
  · exact own_ne_blk h.stk.own h.wait (by decide) e
  · exact ne_of_type h.wait h.set.blk (by decide) e
theorem G.lt (h : G w B gg P v l room over ws) : ∀ k, k = gg ∨ k = P.gw ∨ P.foot v k → B ≤ k ∧ k < w.heap.size := by
  rintro k (rfl | rfl | rfl | e | rfl)
  · exact ⟨h.bg, lt_of_blk h.grey⟩
  · exact ⟨h.bw, lt_of_blk h.wait⟩
  · exact h.stk.foot_lt _ (.inl rfl)
  · exact h.stk.foot_lt _ (.inr e)
  · exact ⟨h.set.base, h.set.lt⟩
theorem G.fr (h : G w B gg P v l room over ws) {S : Nat → Prop} (hf : Fr S w w') (hn : ∀ k, k = gg ∨ k = P.gw ∨ P.foot v k → ¬ S k) : G w' B gg P v l room over ws :=
  ⟨hf.blk h.grey (hn _ (.inl rfl)), hf.blk h.wait (hn _ (.inr (.inl rfl))), h.stk.fr hf (fun k hk => hn k (.inr (.inr (hk.elim .inl (fun e => .inr (.inl e)))))), h.set.fr hf (hn _ (.inr (.inr (.inr (.inr rfl))))), h.bg, h.bw⟩
theorem G.no (h : G w B gg P v l room over ws) (hf : Fr No w w') : G w' B gg P v l room over ws := h.fr hf (fun _ _ h => h)
theorem G.below (h : G w B gg P v l room over ws) (hf : Fr (P.foot v) w w') (hB : B ≤ w.heap.size) : Below B w w' := hf.below hB (fun k hk => (h.lt k (.inr (.inr hk))).1)
theorem G.cells (h : G w B gg P v l room over ws) : w.cell? ⟨gg, 0, none⟩ = some (.pointer (some ⟨P.gw, 0, none⟩)) ∧ w.cell? ⟨gg, 1, none⟩ = some (.pointer (some ⟨P.gs, 0, none⟩)) ∧ w.cell? ⟨P.gw, 0, none⟩ = some (.pointer (some ⟨P.gt, 0, none⟩)) :=
  ⟨cell_of h.grey 0, cell_of h.grey 1, cell_of h.wait 0⟩
end
/-- what a call leaves -/
def GPost (B gg : Nat) (P : Pl) (v : Value) (l' : List (Int × Int)) (room : Int) (over' : Bool) (ws' : List Nat) (r : Value) (w : World) (e : Ending) (w' : World) : Prop :=
  e = .returned r ∧ ∃ v', G w' B gg P v' l' room over' ws' ∧ (v'.ownBlock = v.ownBlock ∨ ∃ k, v'.ownBlock = some k ∧ w.heap.size ≤ k) ∧ Fr (P.foot v) w w'
section
variable {w w1 w2 w' : World} {B gg : Nat} {P : Pl} {v : Value} {l : List (Int × Int)} {room : Int} {over : Bool} {ws : List Nat}
theorem G.put (h : G w B gg P v l room over ws) {ws' : List Nat} (hs : Bm w' B P.gs 2048 ws') (hf : Fr (Bitmap.Foot P.gs) w w') : G w' B gg P v l room over ws' ∧ Fr (P.foot v) w w' :=
  ⟨⟨hf.blk h.grey (fun e => h.ng (.inr (.inr e))), hf.blk h.wait (fun e => h.nw (.inr (.inr e))), h.stk.fr hf (fun k hk e => hk.elim (fun e2 => h.ts (by rw [← e2]; exact e)) (fun e2 => h.vs (by rw [e2]; unfold Bitmap.Foot at e; rw [e]))), hs, h.bg, h.bw⟩, hf.mono (fun k hk => .inr (.inr hk))⟩
theorem G.turn (h : G w B gg P v l room over ws) {v' : Value} {l' : List (Int × Int)} {over' : Bool} (hs : Stk w' B P.gt v' l' room over') (hf : Fr (Stack.Foot P.gt v) w w') : G w' B gg P v' l' room over' ws ∧ Fr (P.foot v) w w' :=
  have hm : ∀ k, Stack.Foot P.gt v k → P.foot v k := fun k hk => hk.elim .inl (fun e => .inr (.inl e))
  ⟨⟨hf.blk h.grey (fun e => h.ng (hm _ e)), hf.blk h.wait (fun e => h.nw (hm _ e)), hs, h.set.fr hf (fun e => e.elim (fun e => h.ts e.symm) (fun e => h.vs e)), h.bg, h.bw⟩, hf.mono hm⟩
end
def pushL (l : List (Int × Int)) (room : Int) (p : Int × Int) : List (Int × Int) := if (l.length : Int) < room then l ++ [p] else l
def pushO (l : List (Int × Int)) (room : Int) (over : Bool) : Bool := over || !decide ((l.length : Int) < room)
def topE (l : List (Int × Int)) : Int × Int := (l.getLast?).getD (0, 0)

theorem push_any (B g : Nat) (v : Value) (l : List (Int × Int)) (room : Int) (over : Bool) (a b : Int) (w : World) (hs : Stk w B g v l room over) :
    Calls Tryd.prog 50 #[.pointer (some ⟨g, 0, none⟩), .agg #[.int .i64 a, .int .i64 b]] w (Stack.PutPost B g v (pushL l room (a, b)) room (pushO l room over) w (.bool (decide ((l.length : Int) < room)))) := by
  unfold pushL pushO
  by_cases h : (l.length : Int) < room
  · rw [if_pos h, decide_eq_true h]
    refine (Stack.push_room B g v l room over a b w hs h).mono ?_
    intro e w' h2
    simpa using h2
  · rw [if_neg h, decide_eq_false h]
    refine (Stack.push_full B g v l room over a b w hs (by have := hs.len; omega)).mono ?_
    rintro e w' ⟨rfl, h1, h2⟩
    exact ⟨rfl, v, by simpa using h1, .inl rfl, h2⟩

set_option maxHeartbeats 800000 in
theorem none_any (B gg : Nat) (P : Pl) (v : Value) (l : List (Int × Int)) (room : Int) (over : Bool) (ws : List Nat) (w : World) (h : G w B gg P v l room over ws) :
    Calls Tryd.prog 33 #[.pointer (some ⟨gg, 0, none⟩)] w (Quiet w (.pointer (some ⟨P.gw, 0, none⟩))) := by
  obtain ⟨c0, c1, c2⟩ := h.cells
  clear h
  go_enter Tryd.func33, Tryd.ntmps33
  go_wp2
  go_ret
  exact ⟨rfl, 0, rfl⟩

set_option maxHeartbeats 800000 in
theorem set_any (B gg : Nat) (P : Pl) (v : Value) (l : List (Int × Int)) (room : Int) (over : Bool) (ws : List Nat) (w : World) (h : G w B gg P v l room over ws) :
    Calls Tryd.prog 35 #[.pointer (some ⟨gg, 0, none⟩)] w (Quiet w (.pointer (some ⟨P.gs, 0, none⟩))) := by
  obtain ⟨c0, c1, c2⟩ := h.cells
  clear h
  go_enter Tryd.func35, Tryd.ntmps35
  go_wp2
  go_ret
  exact ⟨rfl, 0, rfl⟩

set_option maxHeartbeats 1600000 in
theorem is_any (B gg : Nat) (P : Pl) (v : Value) (l : List (Int × Int)) (room : Int) (over : Bool) (ws : List Nat) (i : Int) (w : World) (h : G w B gg P v l room over ws) :
    Calls Tryd.prog 15 #[.pointer (some ⟨gg, 0, none⟩), .int .i64 i] w (Quiet w (.bool (Bitmap.hasI 2048 ws i))) := by
  have HH := Lib.hid h
  clear h
  go_enter Tryd.func15, Tryd.ntmps15
  go_wp2_with fail
  with_reducible refine (set_any B gg P v l room over ws _ HH.out).mono ?_
  rintro e w1 ⟨rfl, q1, rfl⟩
  go_wp2_with fail
  with_reducible refine (Bitmap.has_any B P.gs 2048 ws i _ (HH.out.no (Fr.drewN (Fr.refl No w) _)).set).mono ?_
  rintro e w2 ⟨rfl, q2, rfl⟩
  go_wp2_with fail
  go_ret
  exact ⟨rfl, _, rfl⟩

set_option maxHeartbeats 1600000 in
theorem count_any (B gg : Nat) (P : Pl) (v : Value) (l : List (Int × Int)) (room : Int) (over : Bool) (ws : List Nat) (w : World) (h : G w B gg P v l room over ws) :
    Calls Tryd.prog 18 #[.pointer (some ⟨gg, 0, none⟩)] w (Quiet w (.int .i64 (elems ws).length)) := by
  have HH := Lib.hid h
  clear h
  go_enter Tryd.func18, Tryd.ntmps18
  go_wp2_with fail
  with_reducible refine (set_any B gg P v l room over ws _ HH.out).mono ?_
  rintro e w1 ⟨rfl, q1, rfl⟩
  go_wp2_with fail
  with_reducible refine (Bitmap.count_any B P.gs 2048 ws _ (HH.out.no (Fr.drewN (Fr.refl No w) _)).set).mono ?_
  rintro e w2 ⟨rfl, q2, rfl⟩
  go_wp2_with fail
  go_ret
  exact ⟨rfl, _, rfl⟩

set_option maxHeartbeats 1600000 in
theorem black_any (B gg : Nat) (P : Pl) (v : Value) (l : List (Int × Int)) (room : Int) (over : Bool) (ws : List Nat) (i : Int) (w : World) (h : G w B gg P v l room over ws) :
    Calls Tryd.prog 16 #[.pointer (some ⟨gg, 0, none⟩), .int .i64 i] w (GPost B gg P v l room over (Bitmap.addW 2048 ws i) (.bool (Bitmap.addOk 2048 ws i)) w) := by
  have HH := Lib.hid h
  clear h
  go_enter Tryd.func16, Tryd.ntmps16
  go_wp2_with fail
  with_reducible refine (set_any B gg P v l room over ws _ HH.out).mono ?_
  rintro e w1 ⟨rfl, q1, hw1⟩
  have F1 := Lib.hid (show Fr No w w1 from Bitmap.drewN_fr (Fr.refl No w) hw1)
  clear hw1
  go_wp2_with fail
  with_reducible refine (Bitmap.add_any B P.gs 2048 ws i _ (HH.out.no F1.out).set).mono ?_
  rintro e w2 ⟨rfl, hs2, hf2⟩
  have G2 := Lib.hid ((HH.out.no F1.out).put hs2 hf2)
  clear hs2 hf2
  go_wp2_with fail
  go_ret
  exact ⟨rfl, v, G2.out.1, .inl rfl, (F1.out.mono (fun _ h => h.elim)).trans G2.out.2 (fun i hi => .inl hi)⟩

set_option maxHeartbeats 1600000 in
theorem clearS_any (B gg : Nat) (P : Pl) (v : Value) (l : List (Int × Int)) (room : Int) (over : Bool) (ws : List Nat) (i : Int) (w : World) (h : G w B gg P v l room over ws) :
    Calls Tryd.prog 17 #[.pointer (some ⟨gg, 0, none⟩), .int .i64 i] w (GPost B gg P v l room over (Bitmap.remW 2048 ws i) (.bool (Bitmap.hasI 2048 ws i)) w) := by
  have HH := Lib.hid h
  clear h
  go_enter Tryd.func17, Tryd.ntmps17
  go_wp2_with fail
  with_reducible refine (set_any B gg P v l room over ws _ HH.out).mono ?_
  rintro e w1 ⟨rfl, q1, hw1⟩
  have F1 := Lib.hid (show Fr No w w1 from Bitmap.drewN_fr (Fr.refl No w) hw1)
  clear hw1
  go_wp2_with fail
  with_reducible refine (Bitmap.remove_any B P.gs 2048 ws i _ (HH.out.no F1.out).set).mono ?_
  rintro e w2 ⟨rfl, hs2, hf2⟩
  have G2 := Lib.hid ((HH.out.no F1.out).put hs2 hf2)
  clear hs2 hf2
  go_wp2_with fail
  go_ret
  exact ⟨rfl, v, G2.out.1, .inl rfl, (F1.out.mono (fun _ h => h.elim)).trans G2.out.2 (fun i hi => .inl hi)⟩

/-! ### what waits -/

set_option maxHeartbeats 1600000 in
theorem wlen_any (B g : Nat) (v : Value) (l : List (Int × Int)) (room : Int) (over : Bool) (w : World) (hs : Stk w B g v l room over) :
    Calls Tryd.prog 41 #[.agg #[.pointer (some ⟨g, 0, none⟩)]] w (Same w (.int .i64 l.length)) := by
  have HS := Lib.hid hs
  clear hs
  go_enter Tryd.func41, Tryd.ntmps41
  go_wp2_with fail
  with_reducible refine (Stack.len_any B g v l room over _ (HS.out.fr (S := No) (by repeat (first | exact Fr.refl _ _ | apply Fr.drewN | apply Fr.drew | apply Fr.alloc)) (fun _ _ h => h))).mono ?_
  rintro e w1 ⟨rfl, q1, hw1⟩
  have F1 := Lib.hid (show Fr No w w1 from Bitmap.drewN_fr (by repeat (first | exact Fr.refl _ _ | apply Fr.drewN | apply Fr.drew | apply Fr.alloc)) hw1)
  clear hw1
  go_wp2_with fail
  go_ret
  exact ⟨rfl, F1.out.below (Nat.le_refl _) (fun _ h => h.elim)⟩

set_option maxHeartbeats 1600000 in
theorem wover_any (B g : Nat) (v : Value) (l : List (Int × Int)) (room : Int) (over : Bool) (w : World) (hs : Stk w B g v l room over) :
    Calls Tryd.prog 42 #[.agg #[.pointer (some ⟨g, 0, none⟩)]] w (Same w (.bool over)) := by
  have HS := Lib.hid hs
  clear hs
  go_enter Tryd.func42, Tryd.ntmps42
  go_wp2_with fail
  with_reducible refine (Stack.over_any B g v l room over _ (HS.out.fr (S := No) (by repeat (first | exact Fr.refl _ _ | apply Fr.drewN | apply Fr.drew | apply Fr.alloc)) (fun _ _ h => h))).mono ?_
  rintro e w1 ⟨rfl, q1, hw1⟩
  have F1 := Lib.hid (show Fr No w w1 from Bitmap.drewN_fr (by repeat (first | exact Fr.refl _ _ | apply Fr.drewN | apply Fr.drew | apply Fr.alloc)) hw1)
  clear hw1
  go_wp2_with fail
  go_ret
  exact ⟨rfl, F1.out.below (Nat.le_refl _) (fun _ h => h.elim)⟩

set_option maxHeartbeats 1600000 in
theorem wsettle_any (B g : Nat) (v : Value) (l : List (Int × Int)) (room : Int) (over : Bool) (w : World) (hs : Stk w B g v l room over) :
    Calls Tryd.prog 43 #[.agg #[.pointer (some ⟨g, 0, none⟩)]] w (Stack.SettlePost B g v l room over w) := by
  have HS := Lib.hid hs
  clear hs
  go_enter Tryd.func43, Tryd.ntmps43
  go_wp2_with fail
  with_reducible refine (Stack.settle_any B g v l room over _ (HS.out.fr (S := No) (by repeat (first | exact Fr.refl _ _ | apply Fr.drewN | apply Fr.drew | apply Fr.alloc)) (fun _ _ h => h))).mono ?_
  rintro e w1 ⟨rfl, hs1, hf1⟩
  have S1 := Lib.hid hs1
  have F1 := Lib.hid (show Fr (Stack.Foot g v) w w1 from Fr.trans (by repeat (first | exact Fr.refl _ _ | apply Fr.drewN | apply Fr.drew | apply Fr.alloc)) hf1 (fun i hi => .inl hi))
  clear hs1 hf1
  go_wp2_with fail
  go_ret
  exact ⟨rfl, S1.out, F1.out⟩

set_option maxHeartbeats 1600000 in
theorem wrest_any (B g : Nat) (v : Value) (l : List (Int × Int)) (room : Int) (over : Bool) (a b : Int) (w : World) (hs : Stk w B g v l room over) :
    Calls Tryd.prog 40 #[.agg #[.pointer (some ⟨g, 0, none⟩)], .agg #[.int .i64 a, .int .i64 b]] w (Stack.PutPost B g v (pushL l room (a, b)) room (pushO l room over) w (.bool (decide ((l.length : Int) < room)))) := by
  have HS := Lib.hid hs
  clear hs
  go_enter Tryd.func40, Tryd.ntmps40
  go_wp2_with fail
  with_reducible refine (push_any B g v l room over a b _ (HS.out.fr (S := No) (by repeat (first | exact Fr.refl _ _ | apply Fr.drewN | apply Fr.drew | apply Fr.alloc)) (fun _ _ h => h))).mono ?_
  rintro e w1 ⟨rfl, v1, hs1, hv1, hf1⟩
  have S1 := Lib.hid hs1
  have V1 : Hid (v1.ownBlock = v.ownBlock ∨ ∃ k, v1.ownBlock = some k ∧ w.heap.size ≤ k) := Lib.hid (hv1.elim .inl (fun ⟨k, h1, h2⟩ => .inr ⟨k, h1, by simp at h2; omega⟩))
  have F1 := Lib.hid (show Fr (Stack.Foot g v) w w1 from Fr.trans (by repeat (first | exact Fr.refl _ _ | apply Fr.drewN | apply Fr.drew | apply Fr.alloc)) hf1 (fun i hi => .inl hi))
  clear hs1 hf1 hv1
  go_wp2_with fail
  go_ret
  exact ⟨rfl, v1, S1.out, V1.out, F1.out⟩

end Go.Proofs.YtoipjmhfeggdeaaDoor.Shade
