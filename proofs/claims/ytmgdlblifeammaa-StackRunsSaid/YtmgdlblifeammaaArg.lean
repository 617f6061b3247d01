/- Proved: an argument that is a slice, read element by element, as a list; no program in sight. -/
import Derived.Test.YtmgdlblifeammaaHeap
import Derived.Deep.Slices
import Derived.ChangeSame
import Derived.SizedLaws
namespace Go.Proofs.Ytmgdlblifeammaa.Arg
open Go.RowKit Go.Proofs.Ytmgdlblifeammaa.H Go.ChangeShapes Go.WideShapes

theorem flat_len {α : Type} (f : α → List Value) (size : Nat) (hf : ∀ x, (f x).length = size) (l : List α) : (l.flatMap f).length = l.length * size := by
  induction l with
  | nil => simp
  | cons x l ih => rw [List.flatMap_cons, List.length_append, hf, ih, List.length_cons, Nat.succ_mul, Nat.add_comm]
theorem flat_at {α : Type} (f : α → List Value) (size : Nat) (hs : 0 < size) (hf : ∀ x, (f x).length = size) (l : List α) (j : Nat) (v : Value) (h : (l.flatMap f)[j]? = some v) :
    ∃ x, l[j / size]? = some x ∧ (f x)[j % size]? = some v := by
  induction l generalizing j with
  | nil => simp at h
  | cons x l ih =>
    rw [List.flatMap_cons] at h
    by_cases hj : j < size
    · rw [List.getElem?_append_left (by rw [hf]; exact hj)] at h
      exact ⟨x, by rw [Nat.div_eq_of_lt hj]; rfl, by rw [Nat.mod_eq_of_lt hj]; exact h⟩
    · rw [List.getElem?_append_right (by rw [hf]; omega), hf] at h
      obtain ⟨y, h1, h2⟩ := ih _ h
      have e1 : j / size = (j - size) / size + 1 := by
        rw [← Nat.add_div_right _ hs]; congr 1; omega
      have e2 : j % size = (j - size) % size := by
        rw [Nat.mod_eq_sub_mod (by omega)]
      exact ⟨y, by rw [e1]; exact h1, by rw [e2]; exact h2⟩

variable {H : Type} {enc : TypeId × Value → H} {P : Program} {w : World} {base : Nat} {spare : Nat → Bool} {held : Bool}

theorem open_row {t e : TypeId} {size : Nat} {α : Type} [Inhabited α] (f : α → List Value) (Good : α → Prop) (hs : 0 < size) (hf : ∀ x, (f x).length = size) (hone : ∀ x, ∀ u ∈ f x, u.oneCell' = true)
    (ht : P.underlying t = some (.slice e)) (hc : P.cellsOf e = size)
    (helem : ∀ (n : Nat) (cs : List Value) (y : DataW H × List MemPlace), DataW.trod enc P w base spare held n e cs = some y → ∃ x : α, cs = f x ∧ Good x)
    {a0 : Option Addr} {len cap : Nat} {d : DataW H} {p : List MemPlace} (h : DataW.Trod enc P w base spare held t (.slice a0 len cap) d p) :
    ∃ l : List α, l.length = len ∧ (∀ x ∈ l, Good x) ∧ Rd w (.slice a0 len cap) len size (l.flatMap f) := by
  obtain ⟨fuel, h⟩ := h
  rcases Go.Deep.open_slice ht h with ⟨hcs, _⟩ | ⟨a, len', cap', m, n, D, Pl, hcs, _, hl, _, hm, _, hel⟩
  · simp [Value.cells] at hcs
    obtain ⟨rfl, rfl, rfl⟩ := hcs
    exact ⟨[], rfl, by simp, ⟨by simp, by simp, .inl ⟨rfl, rfl⟩⟩⟩
  · simp [Value.cells] at hcs
    obtain ⟨rfl, rfl, rfl⟩ := hcs
    have hlm : len ≤ m := by rw [hm]; split <;> omega
    obtain ⟨g, hg⟩ := Go.Deep.choose_lt (n := len) (p := fun i x => w.cells? base (a.add (i * P.cellsOf e)) (P.cellsOf e) = some (f x) ∧ Good x) (fun i hi => by
      obtain ⟨cs', h1, h2⟩ := hel i (by omega)
      obtain ⟨x, rfl, hx⟩ := helem _ _ _ h2
      exact ⟨x, h1, hx⟩)
    refine ⟨(List.range len).map g, by simp, ?_, ⟨?_, ?_, .inr ⟨a, cap, rfl, hl, ?_⟩⟩⟩
    · intro x hx
      simp only [List.mem_map, List.mem_range] at hx
      obtain ⟨i, hi, rfl⟩ := hx
      exact (hg i hi).2
    · rw [flat_len f size hf]; simp
    · intro v hv
      rw [List.mem_flatMap] at hv
      obtain ⟨x, _, hx⟩ := hv
      exact hone x v hx
    · intro j v hj
      obtain ⟨x, h1, h2⟩ := flat_at f size hs hf _ j v hj
      have hdiv : j / size < len := by
        have := (List.getElem?_eq_some_iff.1 h1).1
        simpa using this
      rw [List.getElem?_map, List.getElem?_range hdiv] at h1
      simp only [Option.map_some, Option.some.injEq] at h1
      subst h1
      have h3 := (hg _ hdiv).1
      rw [hc] at h3
      have h4 := (World.cells?_some h3).2.2 (j % size) (Nat.mod_lt _ hs)
      rw [Go.Deep.add_add, Nat.mul_comm, Nat.div_add_mod] at h4
      rw [h4, h2]

/-- the bytes that a slice takes -/
theorem bytes_le {t e : TypeId} (ht : P.underlying t = some (.slice e)) {a0 : Option Addr} {len cap : Nat} {d : DataW H} {p : List MemPlace} (h : DataW.Trod enc P w base spare held t (.slice a0 len cap) d p)
    {ts : List TypeId} {ds : List (DataW H)} (hsz : (DataW.weightsEach P ts ds).all (· ≤ reachBytes) = true) {j : Nat} (hj : ts[j]? = some t) (hd : ds[j]? = some d) : len * P.bytesOf e ≤ reachBytes := by
  obtain ⟨fuel, h⟩ := h
  rcases Go.Deep.open_slice ht h with ⟨hcs, _⟩ | ⟨a, len', cap', m, n, D, Pl, hcs, _, hl, _, hm, hx, _⟩
  · simp [Value.cells] at hcs
    obtain ⟨rfl, rfl, rfl⟩ := hcs
    simp
  · simp [Value.cells] at hcs
    obtain ⟨rfl, rfl, rfl⟩ := hcs
    obtain ⟨rfl, _⟩ := Prod.mk.inj hx
    have := sized_slice hsz hj hd ht
    simp only [List.length_map, List.length_range] at this
    exact Nat.le_trans (Nat.mul_le_mul_right _ (Nat.le_add_right _ _)) this

end Go.Proofs.Ytmgdlblifeammaa.Arg
