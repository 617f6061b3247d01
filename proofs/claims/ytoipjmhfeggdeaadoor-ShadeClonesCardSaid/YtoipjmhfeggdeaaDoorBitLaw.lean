/- Proved: what the helpers of the laws of package scutagelaw05 do and answer, and what a rising list of a set's numbers is. -/
import Derived.Test.YtoipjmhfeggdeaaDoorBitmap6
import Derived.Test.YtoipjmhfeggdeaaDoorRising
namespace Go.Proofs.YtoipjmhfeggdeaaDoor.BitLaw
open Go.RowKit Go.Proofs.YtoipjmhfeggdeaaDoor.H Go.Proofs.YtoipjmhfeggdeaaDoor.Nums Go.Proofs.YtoipjmhfeggdeaaDoor.BitPure Go.Proofs.YtoipjmhfeggdeaaDoor.Bitmap Go.Proofs.YtoipjmhfeggdeaaDoor.Rising
set_option linter.unusedVariables false

/-! ### plain laws -/
theorem ins_sorted (out : List Int) (x : Int) (h : out.Pairwise (· < ·)) (hx : x ∉ out) : (out.take (cut out x) ++ [x] ++ out.drop (cut out x)).Pairwise (· < ·) := by
  induction out with
  | nil => simp [cut]
  | cons y r ih =>
    rw [List.pairwise_cons] at h
    rw [List.mem_cons] at hx
    have hx2 : x ∉ r := fun hh => hx (.inr hh)
    by_cases hy : y < x
    · have e : cut (y :: r) x = cut r x + 1 := by unfold cut; rw [List.takeWhile_cons, if_pos (by simpa using hy)]; rfl
      rw [e, List.take_succ_cons, List.drop_succ_cons, List.cons_append, List.cons_append, List.pairwise_cons]
      refine ⟨fun z hz => ?_, ih h.2 hx2⟩
      simp only [List.mem_append, List.mem_singleton] at hz
      rcases hz with (hz | hz) | hz
      · exact h.1 z (List.mem_of_mem_take hz)
      · omega
      · exact h.1 z (List.mem_of_mem_drop hz)
    · have e : cut (y :: r) x = 0 := by unfold cut; rw [List.takeWhile_cons, if_neg (by simpa using hy)]; rfl
      rw [e, List.take_zero, List.drop_zero, List.nil_append, List.singleton_append, List.pairwise_cons]
      have hlt : x < y := by have : x ≠ y := fun hh => hx (.inl hh); omega
      refine ⟨fun z hz => ?_, List.pairwise_cons.2 h⟩
      rw [List.mem_cons] at hz
      rcases hz with rfl | hz
      · exact hlt
      · have := h.1 z hz; omega

theorem rising_sorted (l : List Int) : (risingL l).Pairwise (· < ·) := by
  have key : ∀ (l out : List Int), out.Pairwise (· < ·) → (l.foldl ins out).Pairwise (· < ·) := by
    intro l
    induction l with
    | nil => intro out h; exact h
    | cons x r ih =>
      intro out h
      rw [List.foldl_cons]
      refine ih _ ?_
      unfold ins
      split
      · exact h
      · rename_i hx; exact ins_sorted out x h hx
  exact key l [] List.Pairwise.nil

def nextL (l : List Int) (i : Int) : Int := match l.find? (fun x => decide (i ≤ x)) with | some x => x | none => -1

def withoutL (l : List Int) (i : Int) : List Int := l.filter fun x => decide (x ≠ i)

theorem has_lt {w : World} {B g n : Nat} {ws : List Nat} (hs : S w B g n ws) (x : Int) (hx : x ∈ elems ws) : 0 ≤ x ∧ x < (n : Int) ∧ has ws x.toNat = true := by
  obtain ⟨h1, h2, h3⟩ := (mem_elems ws x).1 hx
  have := hs.low _ h3
  exact ⟨h1, by omega, h3⟩

theorem in_eq {w : World} {B g n : Nat} {ws : List Nat} (hs : S w B g n ws) (i : Int) : decide (i ∈ elems ws) = hasI n ws i := by
  unfold hasI
  by_cases h : i ∈ elems ws
  · obtain ⟨h1, h2, h3⟩ := has_lt hs i h
    rw [decide_eq_true h, decide_eq_true h1, decide_eq_true h2, h3]; rfl
  · rw [decide_eq_false h]
    cases h3 : has ws i.toNat with
    | false => simp
    | true =>
      by_cases h1 : 0 ≤ i
      · have := hs.low _ h3
        have ht := hs.top
        exact absurd ((mem_elems ws i).2 ⟨h1, by omega, h3⟩) h
      · rw [decide_eq_false h1]; rfl

theorem next_law {w : World} {B g n : Nat} {ws : List Nat} (hs : S w B g n ws) (i : Int) : nextL (elems ws) i = nextI n ws i := by
  have hnone : (∀ x ∈ elems ws, ¬ i ≤ x) → nextL (elems ws) i = -1 := fun h => by
    unfold nextL
    rw [List.find?_eq_none.2 (fun x hx => by simpa using h x hx)]
  by_cases hn : (n : Int) ≤ i
  · unfold nextI
    rw [if_pos hn]
    exact hnone (fun x hx => by have := has_lt hs x hx; omega)
  · unfold nextI
    rw [if_neg hn]
    rcases nxt_cases ws i.toNat with ⟨e, hl⟩ | ⟨j, e, h1, h2, h3, h4⟩
    · rw [e]
      exact hnone (fun x hx hle => by
        obtain ⟨a1, a2, a3⟩ := (mem_elems ws x).1 hx
        have := hl x.toNat (by omega) (by omega)
        rw [a3] at this
        exact Bool.noConfusion this)
    · rw [e]
      have hm : (j : Int) ∈ elems ws := (mem_elems ws j).2 ⟨by omega, by omega, h3⟩
      obtain ⟨pre, post, hab⟩ := List.append_of_mem hm
      have hso := elems_sorted ws
      rw [hab, List.pairwise_append] at hso
      have hf : (elems ws).find? (fun x => decide (i ≤ x)) = some (j : Int) := by
        rw [hab, List.find?_append, List.find?_eq_none.2 (fun x hx => by
          have hlt := hso.2.2 x hx j (by simp)
          obtain ⟨a1, a2, a3⟩ := (mem_elems ws x).1 (by rw [hab]; simp [hx])
          simp
          have hk : x.toNat < i.toNat := Nat.lt_of_not_le (fun hc => by
            have := h4 x.toNat hc (by omega)
            rw [a3] at this
            exact Bool.noConfusion this)
          omega), Option.none_or, List.find?_cons_of_pos (by simp; omega)]
      unfold nextL
      rw [hf]

theorem without_law {w : World} {B g n : Nat} {ws : List Nat} (hs : S w B g n ws) (i : Int) : withoutL (elems ws) i = elems (remW n ws i) := by
  refine sorted_ext _ _ ((elems_sorted ws).filter _) (elems_sorted _) (fun x => ?_)
  unfold withoutL
  rw [List.mem_filter, mem_elems, mem_elems]
  unfold remW
  by_cases h : hasI n ws i = true
  · rw [if_pos h]
    unfold hasI at h
    simp at h
    have ht := hs.top
    rw [has_rem ws i.toNat x.toNat (by rw [hs.ok.len]; omega)]
    simp
    constructor
    · rintro ⟨⟨a, b, c⟩, d⟩
      exact ⟨a, b, c, by omega⟩
    · rintro ⟨a, b, c, d⟩
      exact ⟨⟨a, b, c⟩, by intro hh; rw [hh] at d; exact d rfl⟩
  · rw [if_neg h]
    constructor
    · exact fun hh => hh.1
    · intro hh
      refine ⟨hh, ?_⟩
      simp
      intro e
      subst e
      have := in_eq hs x
      rw [decide_eq_true ((mem_elems ws x).2 hh)] at this
      exact h this.symm

theorem with_law {w : World} {B g n : Nat} {ws : List Nat} (hs : S w B g n ws) (i : Int) (h : addOk n ws i = true) : risingL (elems ws ++ [i]) = elems (addW n ws i) := by
  refine sorted_ext _ _ (rising_sorted _) (elems_sorted _) (fun x => ?_)
  rw [mem_rising, mem_elems]
  unfold addW
  rw [if_pos h]
  unfold addOk at h
  simp at h
  have ht := hs.top
  rw [has_add ws i.toNat x.toNat (by rw [hs.ok.len]; omega), List.mem_append, mem_elems, List.mem_singleton]
  simp
  constructor
  · rintro (⟨a, b, c⟩ | rfl)
    · exact ⟨a, b, .inl c⟩
    · exact ⟨h.1.1, by omega, .inr rfl⟩
  · rintro ⟨a, b, c | c⟩
    · exact .inl ⟨a, b, c⟩
    · exact .inr (by omega)

theorem add_none {n : Nat} {ws : List Nat} {i : Int} (h : addOk n ws i = false) : addW n ws i = ws := by unfold addW; rw [h]; rfl

/-! ### the helpers -/
/-- a call: its kind, a number -/
def calls (l : List (Int × Int)) : List Value := l.flatMap fun p => [.int .i64 p.1, .int .i64 p.2]

theorem calls_length (l : List (Int × Int)) : (calls l).length = l.length * 2 := by
  induction l with
  | nil => rfl
  | cons p l ih => simp [calls] at ih ⊢; omega

theorem calls_at (l : List (Int × Int)) (k : Nat) (h : k < l.length) : (calls l)[k * 2]? = some (.int .i64 (l[k]).1) ∧ (calls l)[k * 2 + 1]? = some (.int .i64 (l[k]).2) := by
  induction l generalizing k with
  | nil => simp at h
  | cons p l ih =>
    cases k with
    | zero => simp [calls]
    | succ k =>
      have := ih k (by simpa using h)
      rw [show (k + 1) * 2 = k * 2 + 2 by omega, show k * 2 + 2 + 1 = (k * 2 + 1) + 2 by omega]
      simpa [calls] using this

theorem calls_take (l : List (Int × Int)) (m : Nat) : (calls l).take (m * 2) = calls (l.take m) := by
  induction l generalizing m with
  | nil => simp [calls]
  | cons p l ih =>
    cases m with
    | zero => simp [calls]
    | succ m =>
      have := ih m
      rw [show (m + 1) * 2 = m * 2 + 2 by omega]
      simp [calls] at this ⊢
      exact this

theorem calls_cut {w : World} {A : Option Addr} {c m : Nat} {l : List (Int × Int)} (h : Rd w (.slice A l.length c) l.length 2 (calls l)) : Rd w (.slice A (min m l.length) c) (min m l.length) 2 (calls (l.take m)) := by
  have h2 := h.take (m := min m l.length) (Nat.min_le_right _ _)
  rw [calls_take] at h2
  have e : l.take (min m l.length) = l.take m := by rw [← List.take_eq_take_min]
  rw [e] at h2
  exact h2

theorem call_at {w : World} {A : Option Addr} {n c : Nat} {l : List (Int × Int)} (h : Rd w (.slice A n c) n 2 (calls l)) (k : Nat) (hk : k < l.length) :
    ∃ ad, A = some ad ∧ w.cell? (ad.add (k * 2)) = some (.int .i64 (l[k]).1) ∧ w.cell? ⟨(ad.add (k * 2)).block, (ad.add (k * 2)).off + 1, none⟩ = some (.int .i64 (l[k]).2) := by
  have hl := h.len
  rw [calls_length] at hl
  rcases h.at_ with ⟨_, h0⟩ | ⟨ad, c', he, _, hc⟩
  · omega
  · injection he with he _ _
    obtain ⟨a1, a2⟩ := calls_at l k hk
    exact ⟨ad, he, hc _ _ a1, by rw [← add_field ad _ 1 (by omega)]; exact hc _ _ a2⟩

def CutPost (A : Option Addr) (m n c : Nat) (w : World) (e : Ending) (w' : World) : Prop := e = .returned (.slice A (min m n) c) ∧ w' = w

end Go.Proofs.YtoipjmhfeggdeaaDoor.BitLaw
