/- Proved: what each call of the reference scutageref18's Grey does to marks and a list in memory and answers. -/
import Derived.Test.YtoipjmhfeggdeaaDoorShade3
import Derived.Deep.WholeRow
namespace Go.Proofs.YtoipjmhfeggdeaaDoor.Ref18
open Go.RowKit Go.Proofs.YtoipjmhfeggdeaaDoor.H Go.Proofs.YtoipjmhfeggdeaaDoor.Nums Go.Proofs.YtoipjmhfeggdeaaDoor.BitPure Go.Proofs.YtoipjmhfeggdeaaDoor.Shade
set_option linter.unusedVariables false
attribute [local irreducible] elems from_ nxt elemsN

def zCells : Array Value := ((List.replicate 2048 (Value.bool false)) ++ [Value.slice none 0 0, Value.int .i64 0, Value.bool false, Value.int .i64 0]).toArray

theorem info_grey : (Tryd.prog.info? 58).map (fun i => (i.zero, i.size)) = some (some (.agg zCells), 2052) := by kernel_rfl

/-- the cells of a grey of the reference: its marks, its list, its room, whether one was lost -/
def rc (f : Nat → Bool) (v : Value) (room : Int) (over : Bool) : Array Value := (((List.range 2048).map fun i => Value.bool (f i)) ++ [v, .int .i64 room, .bool over, .int .i64 (-1)]).toArray

theorem rc_size (f : Nat → Bool) (v : Value) (room : Int) (over : Bool) : (rc f v room over).size = 2052 := by
  unfold rc
  rw [List.size_toArray, List.length_append, List.length_map, List.length_range]
  rfl

theorem rc_at (f : Nat → Bool) (v : Value) (room : Int) (over : Bool) (i : Nat) : (rc f v room over)[i]? = if i < 2048 then some (.bool (f i)) else [v, Value.int .i64 room, .bool over, .int .i64 (-1)][i - 2048]? := by
  unfold rc
  rw [List.getElem?_toArray, List.getElem?_append, List.length_map, List.length_range]
  split
  · rename_i h
    rw [List.getElem?_map, List.getElem?_range h]
    rfl
  · rfl

theorem rc_congr {f f' : Nat → Bool} (v : Value) (room : Int) (over : Bool) (h : ∀ i, i < 2048 → f i = f' i) : rc f v room over = rc f' v room over := by
  apply Array.ext_getElem?
  intro i
  rw [rc_at, rc_at]
  split
  · rename_i hi; rw [h i hi]
  · rfl

theorem rc_mark {f f' : Nat → Bool} (v : Value) (room : Int) (over : Bool) (k : Nat) (b : Bool) (hk : k < 2048) (h : ∀ i, i < 2048 → f' i = if i = k then b else f i) : (rc f v room over).setIfInBounds k (.bool b) = rc f' v room over := by
  apply Array.ext_getElem?
  intro i
  rw [Array.getElem?_setIfInBounds, rc_at, rc_at, rc_size]
  by_cases e : k = i
  · subst e
    rw [if_pos rfl, if_pos (by omega), if_pos hk, h k hk, if_pos rfl]
  · rw [if_neg e]
    split
    · rename_i hi; rw [h i hi, if_neg (fun e2 => e e2.symm)]
    · rfl

theorem rc_tail {f : Nat → Bool} {v v' : Value} {room : Int} {over over' : Bool} (k : Nat) (u : Value) (hk : 2048 ≤ k) (hk2 : k < 2052) (h : [v, Value.int .i64 room, .bool over, .int .i64 (-1)].set (k - 2048) u = [v', .int .i64 room, .bool over', .int .i64 (-1)]) : (rc f v room over).setIfInBounds k u = rc f v' room over' := by
  apply Array.ext_getElem?
  intro i
  rw [Array.getElem?_setIfInBounds, rc_at, rc_at, rc_size]
  by_cases hi : i < 2048
  · rw [if_neg (by omega), if_pos hi, if_pos hi]
  · rw [if_neg hi, if_neg hi, ← h, List.getElem?_set]
    by_cases e : k = i
    · subst e
      rw [if_pos rfl, if_pos hk2, if_pos rfl, if_pos (by simp; omega)]
    · rw [if_neg e, if_neg (by omega)]

theorem rc_new (r : Int) : (zCells.setIfInBounds 2049 (.int .i64 r)).setIfInBounds 2051 (.int .i64 (-1)) = rc (has Bitmap.w0) (.slice none 0 0) r false := by
  have hz : ∀ i : Nat, zCells[i]? = if i < 2048 then some (Value.bool false) else [Value.slice none 0 0, Value.int .i64 0, Value.bool false, Value.int .i64 0][i - 2048]? := by
    intro i
    unfold zCells
    rw [List.getElem?_toArray, List.getElem?_append, List.length_replicate]
    split
    · rename_i h; rw [List.getElem?_replicate, if_pos h]
    · rfl
  have hs : zCells.size = 2052 := by
    unfold zCells
    rw [List.size_toArray, List.length_append, List.length_replicate]
    rfl
  apply Array.ext_getElem?
  intro i
  rw [Array.getElem?_setIfInBounds, Array.getElem?_setIfInBounds, rc_at, hz, Array.size_setIfInBounds, hs]
  by_cases hi : i < 2048
  · rw [if_neg (by omega), if_neg (by omega), if_pos hi, if_pos hi, Bitmap.none_w0]
  · rw [if_neg hi, if_neg hi]
    by_cases h1 : i = 2048
    · subst h1; rfl
    by_cases h2 : i = 2049
    · subst h2; rfl
    by_cases h3 : i = 2050
    · subst h3; rfl
    by_cases h4 : i = 2051
    · subst h4; rfl
    rw [if_neg (by omega), if_neg (by omega), List.getElem?_eq_none (by simp; omega), List.getElem?_eq_none (by simp; omega)]

attribute [local irreducible] rc zCells
/-- marks and a list that waits -/
structure R (w : World) (B g : Nat) (v : Value) (l : List (Int × Int)) (room : Int) (over : Bool) (ws : List Nat) : Prop where
  blk : w.heap[g]? = some (.cells (rc (has ws) v room over) 58 (0, 0))
  own : w.ownsRow B 59 2 v l.length (Stack.ents l)
  base : B ≤ g
  r0 : 1 ≤ room
  r1 : room ≤ 256
  len : (l.length : Int) ≤ room
  ok : Words ws

section
variable {w w' : World} {B g : Nat} {v : Value} {l : List (Int × Int)} {room : Int} {over : Bool} {ws : List Nat}
theorem R.ne (h : R w B g v l room over ws) : v.ownBlock ≠ some g := own_ne_blk h.own h.blk (by decide)

theorem R.foot_lt (h : R w B g v l room over ws) : ∀ k, Stack.Foot g v k → B ≤ k ∧ k < w.heap.size := by
  rintro k (rfl | hk)
  · exact ⟨h.base, lt_of_blk h.blk⟩
  · exact h.own.lt k hk

theorem R.fr (h : R w B g v l room over ws) {S : Nat → Prop} (hf : Fr S w w') (hn : ∀ k, Stack.Foot g v k → ¬ S k) : R w' B g v l room over ws :=
  ⟨hf.blk h.blk (hn g (.inl rfl)), hf.own h.own (fun k hk => hn k (.inr hk)), h.base, h.r0, h.r1, h.len, h.ok⟩

theorem R.no (h : R w B g v l room over ws) (hf : Fr No w w') : R w' B g v l room over ws := h.fr hf (fun _ _ h => h)

theorem R.below (h : R w B g v l room over ws) (hf : Fr (Stack.Foot g v) w w') (hB : B ≤ w.heap.size) : Below B w w' := hf.below hB (fun k hk => (h.foot_lt k hk).1)

theorem R.mark (h : R w B g v l room over ws) (k : Nat) (hk : k < 2048) : w.cell? ⟨g, k, none⟩ = some (.bool (has ws k)) ∧ w.frozen? ⟨g, k, none⟩ = false :=
  ⟨by rw [cell_of h.blk, rc_at, if_pos hk], free_of h.blk _⟩

theorem R.rest (h : R w B g v l room over ws) : w.cell? ⟨g, 2048, none⟩ = some v ∧ w.cell? ⟨g, 2049, none⟩ = some (.int .i64 room) ∧ w.cell? ⟨g, 2050, none⟩ = some (.bool over) :=
  ⟨by rw [cell_of h.blk, rc_at]; rfl, by rw [cell_of h.blk, rc_at]; rfl, by rw [cell_of h.blk, rc_at]; rfl⟩
end

def NewPost (r : Int) (w : World) (e : Ending) (w' : World) : Prop := ∃ g v, e = .returned (.pointer (some ⟨g, 0, none⟩)) ∧ R w' w.heap.size g v [] r false Bitmap.w0 ∧ Below w.heap.size w w'

set_option maxHeartbeats 1600000 in
theorem new_any (n r : Int) (hr : max 1 (min n 256) = r) (w : World) : Calls Tryd.prog 7 #[.int .i64 n] w (NewPost r w) := by
  obtain ⟨hz, hi⟩ := zero_of_info info_grey
  obtain ⟨Z, hZ⟩ : ∃ Z, Z = zCells := ⟨_, rfl⟩
  rw [← hZ] at hz
  have hs : Z.size = 2052 := by
    rw [hZ]
    unfold zCells
    rw [List.size_toArray, List.length_append, List.length_replicate]
    rfl
  have HZ := Lib.hid hZ
  have HR := Lib.hid (show 1 ≤ r ∧ r ≤ 256 by omega)
  have fin : Hid (∀ x : Int, x = r → NewPost r w (.returned (.pointer (some ⟨w.heap.size, 0, none⟩))) (w.alloc (.cells ((Z.setIfInBounds 2049 (.int .i64 x)).setIfInBounds 2051 (.int .i64 (-1))) 58))) := Lib.hid (fun x hx => by
    subst hx
    refine ⟨w.heap.size, .slice none 0 0, rfl, ⟨?_, World.ownsRow_nil _ _ _ _, Nat.le_refl _, HR.out.1, HR.out.2, by have := HR.out.1; simp; omega, Words.new⟩, (Fr.alloc (Fr.refl No w) _).below (Nat.le_refl _) (fun _ h => h.elim)⟩
    rw [HZ.out, rc_new]
    exact heap_alloc_new w _)
  clear hZ hi
  by_cases h1 : n < 1
  · have e : (1 : Int) = r := by omega
    have HE := Lib.hid e
    clear e hr
    go_enter Tryd.func7, Tryd.ntmps7
    go_wp2_with fail
    go_ret
    exact fin.out 1 HE.out
  by_cases h2 : 256 < n
  · have e : (256 : Int) = r := by omega
    have HE := Lib.hid e
    clear e hr
    go_enter Tryd.func7, Tryd.ntmps7
    go_wp2_with fail
    go_ret
    exact fin.out 256 HE.out
  · have e : n = r := by omega
    have HE := Lib.hid e
    clear e hr
    go_enter Tryd.func7, Tryd.ntmps7
    go_wp2_with fail
    go_ret
    exact fin.out n HE.out

end Go.Proofs.YtoipjmhfeggdeaaDoor.Ref18
