/- Proved: a grey and the reference's side by side: what a call on one leaves of the other. -/
import Derived.Test.YtoipjmhfeggdeaaDoorShade4
namespace Go.Proofs.YtoipjmhfeggdeaaDoor.ShadeBoth
open Go.RowKit Go.Proofs.YtoipjmhfeggdeaaDoor.H Go.Proofs.YtoipjmhfeggdeaaDoor.Nums Go.Proofs.YtoipjmhfeggdeaaDoor.BitPure Go.Proofs.YtoipjmhfeggdeaaDoor.Shade Go.Proofs.YtoipjmhfeggdeaaDoor.Ref18
set_option linter.unusedVariables false
attribute [local irreducible] elems from_ nxt elemsN rc zCells

/-- a grey, and the reference's with the same in it; the library's table -/
structure Both (w : World) (B gg gm : Nat) (P : Pl) (v vm : Value) (l : List (Int × Int)) (room : Int) (over : Bool) (ws : List Nat) : Prop where
  g : G w B gg P v l room over ws
  r : R w B gm vm l room over ws
  tab : Bitmap.Tab w
  pos : 0 < B

theorem own_ne_own {w : World} {b b' : Nat} {e e' : TypeId} {n n' s s' : Nat} {v v' : Value} {xs xs' : List Value} (h : w.ownsRow b e s v n xs) (h' : w.ownsRow b' e' s' v' n' xs') (he : e ≠ e') (k : Nat) (hk : v.ownBlock = some k) : v'.ownBlock ≠ some k := by
  intro hk'
  rcases h.2 with ⟨rfl, _⟩ | ⟨d, cap, cur, rfl, _, hd, _⟩
  · cases hk
  rcases h'.2 with ⟨rfl, _⟩ | ⟨d', cap', cur', rfl, _, hd', _⟩
  · cases hk'
  simp only [Value.ownBlock, Option.some.injEq] at hk hk'
  subst hk
  subst hk'
  rw [hd] at hd'
  injection hd' with hd'
  injection hd' with _ hd'
  exact he hd'

section
variable {w w' : World} {B gg gm : Nat} {P : Pl} {v vm : Value} {l : List (Int × Int)} {room : Int} {over : Bool} {ws : List Nat}
/-- the reference's blocks are none of the grey's -/
theorem sep {l2 : List (Int × Int)} {over2 : Bool} {ws2 : List Nat} (hg : G w B gg P v l room over ws) (hr : R w B gm vm l2 room over2 ws2) : ∀ k, Stack.Foot gm vm k → ¬ (k = gg ∨ k = P.gw ∨ P.foot v k) := by
  rintro k (rfl | hk) (rfl | rfl | rfl | h | rfl)
  · exact ne_of_type hr.blk hg.grey (by decide) rfl
  · exact ne_of_type hr.blk hg.wait (by decide) rfl
  · exact ne_of_type hr.blk hg.stk.blk (by decide) rfl
  · exact own_ne_blk hg.stk.own hr.blk (by decide) h
  · exact ne_of_type hr.blk hg.set.blk (by decide) rfl
  · exact own_ne_blk hr.own hg.grey (by decide) hk
  · exact own_ne_blk hr.own hg.wait (by decide) hk
  · exact own_ne_blk hr.own hg.stk.blk (by decide) hk
  · exact own_ne_own hr.own hg.stk.own (by decide) k hk h
  · exact own_ne_blk hr.own hg.set.blk (by decide) hk

theorem Both.no (h : Both w B gg gm P v vm l room over ws) (hf : Fr No w w') : Both w' B gg gm P v vm l room over ws := ⟨h.g.no hf, h.r.no hf, h.tab.no hf, h.pos⟩

/-- the blocks of both -/
def feet (gm : Nat) (P : Pl) (v vm : Value) : Nat → Prop := fun k => P.foot v k ∨ Stack.Foot gm vm k

theorem Both.low (h : Both w B gg gm P v vm l room over ws) : ∀ k, feet gm P v vm k → B ≤ k ∧ k < w.heap.size := fun k hk => hk.elim (fun h1 => h.g.lt k (.inr (.inr h1))) (fun h1 => h.r.foot_lt k h1)

theorem Both.tabs (h : Both w B gg gm P v vm l room over ws) (hf : Fr (feet gm P v vm) w w') : Bitmap.Tab w' := h.tab.fr hf (fun h0 => by have h1 := (h.low 0 h0).1; have h2 := h.pos; omega)
end

def StepPost (B gg gm : Nat) (P : Pl) (v vm : Value) (room : Int) (s' : List (Int × Int) × Bool × List Nat) (w : World) (e : Ending) (w' : World) : Prop :=
  e = .returned (.bool true) ∧ ∃ v' vm', Both w' B gg gm P v' vm' s'.1 room s'.2.1 s'.2.2 ∧ (∀ k, feet gm P v' vm' k → feet gm P v vm k ∨ w.heap.size ≤ k) ∧ Fr (feet gm P v vm) w w'

/-- the grey's call first, then the reference's: what both leave -/
theorem close {w w0 w1 w2 wE : World} {B gg gm : Nat} {P : Pl} {v v1 vm vm1 : Value} {l l' : List (Int × Int)} {room : Int} {over over' : Bool} {ws ws' : List Nat} (hb : Both w B gg gm P v vm l room over ws) (F0 : Fr No w w0)
    (g1 : G w1 B gg P v1 l' room over' ws') (V1 : v1.ownBlock = v.ownBlock ∨ ∃ k, v1.ownBlock = some k ∧ w0.heap.size ≤ k) (F1 : Fr (P.foot v) w0 w1)
    (r2 : R w2 B gm vm1 l' room over' ws') (V2 : ∀ k, vm1.ownBlock = some k → vm.ownBlock = some k ∨ w1.heap.size ≤ k) (F2 : Fr (Stack.Foot gm vm) w1 w2) (FE : Fr No w2 wE) :
    StepPost B gg gm P v vm room (l', over', ws') w (.returned (.bool true)) wE := by
  have z0 := F0.size
  have z1 := F1.size
  have r1 : R w1 B gm vm l room over ws := (hb.r.no F0).fr F1 (fun k hk h => sep (hb.g.no F0) (hb.r.no F0) k hk (.inr (.inr h)))
  have g2 : G w2 B gg P v1 l' room over' ws' := g1.fr F2 (fun k hk h => sep g1 r1 k h hk)
  have FA : Fr (feet gm P v vm) w w2 := ((F0.mono (fun _ h => h.elim)).trans (F1.mono (fun k hk => .inl hk)) (fun i hi => .inl hi)).trans (F2.mono (fun k hk => .inr hk)) (fun i hi => .inl hi)
  refine ⟨rfl, v1, vm1, ⟨g2.no FE, r2.no FE, (hb.tabs FA).no FE, hb.pos⟩, ?_, FA.trans FE (fun i (h : No i) => h.elim)⟩
  rintro k (h | h)
  · rcases h with h | h | h
    · exact .inl (.inl (.inl h))
    · rcases V1 with e | ⟨j, e, hj⟩
      · exact .inl (.inl (.inr (.inl (by rw [← e]; exact h))))
      · rw [e] at h; injection h with h; subst h; exact .inr (by omega)
    · exact .inl (.inl (.inr (.inr h)))
  · rcases h with h | h
    · exact .inl (.inr (.inl h))
    · rcases V2 k h with e | hj
      · exact .inl (.inr (.inr e))
      · exact .inr (by omega)

end Go.Proofs.YtoipjmhfeggdeaaDoor.ShadeBoth
