/- Proved: what New, Clone, All of package bitmap do and answer. -/
import Derived.Test.YtoipjmhfeggdeaaBitmap4
namespace Go.Proofs.Ytoipjmhfeggdeaa.Bitmap
open Go.RowKit Go.Proofs.Ytoipjmhfeggdeaa.H Go.Proofs.Ytoipjmhfeggdeaa.Nums Go.Proofs.Ytoipjmhfeggdeaa.BitPure
set_option linter.unusedVariables false

set_option maxHeartbeats 400000 in
theorem clamp_any (n hi r : Int) (hr : max 0 (min n hi) = r) (hh : 0 ≤ hi) (w : World) :
    Calls Try.prog 24 #[.int .i64 n, .int .i64 0, .int .i64 hi] w (Quiet w (.int .i64 r)) := by
  have HR := Lib.hid hr
  clear hr
  by_cases h1 : n < 0
  · have e : r = 0 := by have := HR.out; omega
    subst e
    go_enter Try.func24, Try.ntmps24
    go_wp2
    go_ret
    exact ⟨rfl, 0, rfl⟩
  by_cases h2 : hi < n
  · have e : r = hi := by have := HR.out; omega
    subst e
    go_enter Try.func24, Try.ntmps24
    go_wp2
    go_ret
    exact ⟨rfl, 0, rfl⟩
  · have e : r = n := by have := HR.out; omega
    subst e
    go_enter Try.func24, Try.ntmps24
    go_wp2
    go_ret
    exact ⟨rfl, 0, rfl⟩

/-- a new set -/
def NewPost (n : Nat) (ws : List Nat) (w : World) (e : Ending) (w' : World) : Prop := ∃ g, e = .returned (.pointer (some ⟨g, 0, none⟩)) ∧ S w' w.heap.size g n ws ∧ Below w.heap.size w w'

def topN (n : Int) : Nat := (max 0 (min n 2048)).toNat

set_option maxHeartbeats 3200000 in
theorem new_any (n : Int) (w : World) : Calls Try.prog 14 #[.int .i64 n] w (NewPost (topN n) w0 w) := by
  have HT : Hid (max 0 (min n 2048) = (topN n : Int)) := Lib.hid (by unfold topN; omega)
  go_enter Try.func14, Try.ntmps14
  go_wp2_with (go_at_call 24; refine (clamp_any n 2048 _ HT.out (by omega) _).mono ?_; rintro e w' ⟨rfl, k, rfl⟩)
  go_ret
  refine ⟨w.heap.size, rfl, ⟨heap_alloc_new (w.drewN k) _, Nat.le_refl _, Words.new, by unfold topN; omega, fun i hi => ?_⟩, (Fr.alloc (Fr.drewN (Fr.refl No w) k) _).below (Nat.le_refl _) (fun _ h => h.elim)⟩
  have := none_w0 i
  rw [hi] at this
  exact Bool.noConfusion this

theorem arr_one (n : Int) (ws : List Nat) : (arr true n ws).all (·.oneCell') = true := by
  apply Array.all_eq_true_iff_forall_mem.2
  intro v hv
  unfold arr at hv
  simp at hv
  rcases hv with rfl | rfl | ⟨x, _, rfl⟩ <;> rfl

/-! ### All -/
theorem next_eq {w : World} {B g n : Nat} {ws : List Nat} (hs : S w B g n ws) (k : Nat) : nextI n ws k = nxt ws k := by
  unfold nextI
  split
  · rename_i h
    refine (nxt_none ws k (fun m h1 h2 => ?_)).symm
    cases hh : has ws m with
    | false => rfl
    | true => have := hs.low m hh; omega
  · rw [show ((k : Int)).toNat = k by omega]

/-- what All has, and what stands before it -/
def Now (ws : List Nat) (i : Int) (done : List Int) : Prop := (i = -1 ∧ done = elems ws) ∨ ∃ j : Nat, i = (j : Int) ∧ j < 2048 ∧ done ++ (j : Int) :: from_ ws (j + 1) = elems ws

theorem now_next (ws : List Nat) (k : Nat) (done : List Int) (h : done ++ from_ ws k = elems ws) : Now ws (nxt ws k) done := by
  rcases nxt_cases ws k with ⟨e, hl⟩ | ⟨j, e, h1, h2, h3, h4⟩
  · rw [from_none ws k hl, List.append_nil] at h
    exact .inl ⟨e, h⟩
  · rw [from_next ws k j h1 h2 h3 h4] at h
    exact .inr ⟨j, e, h2, h⟩

theorem now_start (ws : List Nat) : Now ws (nxt ws 0) [] := now_next ws 0 [] (by rw [from_zero, List.nil_append])

theorem now_go {ws : List Nat} {j : Nat} {done : List Int} (h : done ++ (j : Int) :: from_ ws (j + 1) = elems ws) : Now ws (nxt ws (j + 1)) (done ++ [(j : Int)]) := now_next ws (j + 1) _ (by rw [List.append_assoc]; exact h)

def ListPost (l : List Int) (w : World) (e : Ending) (w' : World) : Prop := ∃ v, e = .returned v ∧ Own w' w.heap.size v l ∧ Below w.heap.size w w'

attribute [local irreducible] elems from_ nxt elemsN

theorem Tab.fr {S : Nat → Prop} {w w' : World} (h : Tab w) (hf : Fr S w w') (hn : ¬ S 0) : Tab w' := fun j hj => hf.cell (h j hj) hn

theorem Tab.no {w w' : World} (h : Tab w) (hf : Fr No w w') : Tab w' := h.fr hf (fun h => h)

theorem Tab.low {w w' : World} (h : Tab w) (hb : Below w.heap.size w w') : Tab w' := h.no (Fr.of_below hb No)

def mq (i : Int) : Nat := if i < 0 then 0 else 2049 - i.toNat

theorem mq_lt {y : Int} {j : Nat} (h : y = -1 ∨ (j : Int) < y ∧ y < 2048) (hj : j < 2048) : mq y < mq (j : Int) := by
  unfold mq
  rw [if_neg (show ¬ (j : Int) < 0 by omega)]
  split <;> omega

theorem now_len {ws : List Nat} {i : Int} {done : List Int} (h : Now ws i done) : done.length ≤ 2048 := by
  have hl := elems_len ws
  rcases h with ⟨_, rfl⟩ | ⟨j, _, _, e⟩
  · exact hl
  · rw [← e, List.length_append] at hl; omega

end Go.Proofs.Ytoipjmhfeggdeaa.Bitmap
