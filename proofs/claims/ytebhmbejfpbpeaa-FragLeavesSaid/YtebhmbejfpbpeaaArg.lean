/- Proved: an argument that is a slice, read element by element, as a list; no program in sight. -/
import Derived.Test.YtebhmbejfpbpeaaHeap
import Derived.Deep.Slices
import Derived.ChangeSame
import Derived.SizedLaws
import Derived.Deep.Fields
namespace Go.Proofs.Ytebhmbejfpbpeaa.Arg
open Go.RowKit Go.Proofs.Ytebhmbejfpbpeaa.H Go.ChangeShapes Go.WideShapes

theorem flat_len {α : Type} (f : α → List Value) (size : Nat) (hf : ∀ x, (f x).length = size) (l : List α) : (l.flatMap f).length = l.length * size := by
  induction l with
  | nil => simp
  | cons x l ih => rw [List.flatMap_cons, List.length_append, hf, ih, List.length_cons, Nat.succ_mul, Nat.add_comm]
theorem flat_get {α : Type} (f : α → List Value) (size : Nat) (hf : ∀ x, (f x).length = size) (l : List α) (k : Nat) (hk : k < l.length) (j : Nat) (v : Value) (hj : (f l[k])[j]? = some v) :
    (l.flatMap f)[k * size + j]? = some v := by
  induction l generalizing k with
  | nil => simp at hk
  | cons x l ih =>
    rw [List.flatMap_cons]
    cases k with
    | zero =>
      have := (List.getElem?_eq_some_iff.1 hj).1
      rw [Nat.zero_mul, Nat.zero_add, List.getElem?_append_left (by simpa using this)]
      exact hj
    | succ k =>
      rw [List.getElem?_append_right (by rw [hf, Nat.succ_mul]; omega), hf, show (k + 1) * size + j - size = k * size + j by rw [Nat.succ_mul]; omega]
      exact ih k (by simpa using hk) hj
theorem flat_take {α : Type} (f : α → List Value) (size : Nat) (hf : ∀ x, (f x).length = size) (l : List α) (m : Nat) : (l.flatMap f).take (m * size) = (l.take m).flatMap f := by
  induction l generalizing m with
  | nil => simp
  | cons x l ih =>
    cases m with
    | zero => simp
    | succ m =>
      rw [List.flatMap_cons, List.take_append, hf, show (m + 1) * size - size = m * size by rw [Nat.succ_mul]; omega, ih, List.take_of_length_le (by rw [hf, Nat.succ_mul]; omega), List.take_succ_cons, List.flatMap_cons]
theorem flat_at {α : Type} (f : α → List Value) (size : Nat) (hs : 0 < size) (hf : ∀ x, (f x).length = size) (l : List α) (j : Nat) (v : Value) (h : (l.flatMap f)[j]? = some v) :
    ∃ x, l[j / size]? = some x ∧ (f x)[j % size]? = some v := by
  induction l generalizing j with
  | nil => simp at h
  | cons x l ih =>
    rw [List.flatMap_cons] at h
    by_cases hj : j < size
    · rw [List.getElem?_append_left (by rw [hf]; exact hj)] at h
      exact ⟨x, by rw [Nat.div_eq_of_lt hj]; rfl, by rw [Nat.mod_eq_of_lt hj]; exact h⟩
    · rw [List.getElem?_append_right (by rw [hf]; omega), hf] at h
      obtain ⟨y, h1, h2⟩ := ih _ h
      have e1 : j / size = (j - size) / size + 1 := by
        rw [← Nat.add_div_right _ hs]; congr 1; omega
      have e2 : j % size = (j - size) % size := by
        rw [Nat.mod_eq_sub_mod (by omega)]
      exact ⟨y, by rw [e1]; exact h1, by rw [e2]; exact h2⟩

variable {H : Type} {enc : TypeId × Value → H} {P : Program} {w : World} {base : Nat} {spare : Nat → Bool} {held : Bool}

theorem open_row {t e : TypeId} {size : Nat} {α : Type} [Inhabited α] (f : α → List Value) (Good : α → Prop) (hs : 0 < size) (hf : ∀ x, (f x).length = size) (hone : ∀ x, ∀ u ∈ f x, u.oneCell' = true)
    (ht : P.underlying t = some (.slice e)) (hc : P.cellsOf e = size)
    (helem : ∀ (n : Nat) (cs : List Value) (y : DataW H × List MemPlace), DataW.trod enc P w base spare held n e cs = some y → ∃ x : α, cs = f x ∧ Good x)
    {a0 : Option Addr} {len cap : Nat} {d : DataW H} {p : List MemPlace} (h : DataW.Trod enc P w base spare held t (.slice a0 len cap) d p) :
    ∃ l : List α, l.length = len ∧ (∀ x ∈ l, Good x) ∧ Rd w (.slice a0 len cap) len size (l.flatMap f) := by
  obtain ⟨fuel, h⟩ := h
  rcases Go.Deep.open_slice ht h with ⟨hcs, _⟩ | ⟨a, len', cap', m, n, D, Pl, hcs, _, hl, _, hm, _, hel⟩
  · simp [Value.cells] at hcs
    obtain ⟨rfl, rfl, rfl⟩ := hcs
    exact ⟨[], rfl, by simp, ⟨by simp, by simp, .inl ⟨rfl, rfl⟩⟩⟩
  · simp [Value.cells] at hcs
    obtain ⟨rfl, rfl, rfl⟩ := hcs
    have hlm : len ≤ m := by rw [hm]; split <;> omega
    obtain ⟨g, hg⟩ := Go.Deep.choose_lt (n := len) (p := fun i x => w.cells? base (a.add (i * P.cellsOf e)) (P.cellsOf e) = some (f x) ∧ Good x) (fun i hi => by
      obtain ⟨cs', h1, h2⟩ := hel i (by omega)
      obtain ⟨x, rfl, hx⟩ := helem _ _ _ h2
      exact ⟨x, h1, hx⟩)
    refine ⟨(List.range len).map g, by simp, ?_, ⟨?_, ?_, .inr ⟨a, cap, rfl, hl, ?_⟩⟩⟩
    · intro x hx
      simp only [List.mem_map, List.mem_range] at hx
      obtain ⟨i, hi, rfl⟩ := hx
      exact (hg i hi).2
    · rw [flat_len f size hf]; simp
    · intro v hv
      rw [List.mem_flatMap] at hv
      obtain ⟨x, _, hx⟩ := hv
      exact hone x v hx
    · intro j v hj
      obtain ⟨x, h1, h2⟩ := flat_at f size hs hf _ j v hj
      have hdiv : j / size < len := by
        have := (List.getElem?_eq_some_iff.1 h1).1
        simpa using this
      rw [List.getElem?_map, List.getElem?_range hdiv] at h1
      simp only [Option.map_some, Option.some.injEq] at h1
      subst h1
      have h3 := (hg _ hdiv).1
      rw [hc] at h3
      have h4 := (World.cells?_some h3).2.2 (j % size) (Nat.mod_lt _ hs)
      rw [Go.Deep.add_add, Nat.mul_comm, Nat.div_add_mod] at h4
      rw [h4, h2]

theorem all_ints : ∀ cs : List Value, (∀ c ∈ cs, ∃ x : Int, c = .int .i64 x) → ∃ xs : List Int, cs = xs.map (Value.int .i64)
  | [], _ => ⟨[], rfl⟩
  | c :: cs, h => by
    obtain ⟨x, rfl⟩ := h c (by simp)
    obtain ⟨xs, rfl⟩ := all_ints cs (fun c hc => h c (by simp [hc]))
    exact ⟨x :: xs, rfl⟩
/-- a struct of whole numbers alone, read -/
theorem ints_of_struct {e : TypeId} {fs : Array Field} (hs : P.underlying e = some (.struct fs)) (hone : Go.Deep.oneCellFields P fs = true) (hC : P.cellsOf e = fs.size) (hint : ∀ (j : Nat) (f : Field), fs[j]? = some f → P.underlying f.type = some (.int .i64))
    {n : Nat} {cs : List Value} {y : DataW H × List MemPlace} (h : DataW.trod enc P w base spare held n e cs = some y) : ∃ xs : List Int, xs.length = fs.size ∧ cs = xs.map (Value.int .i64) := by
  obtain ⟨ys, n', hn', hy, hlen, hyl, hf⟩ := DataW.trod_struct hs h
  rw [hC] at hlen
  obtain ⟨xs, rfl⟩ := all_ints cs (fun c hc => by
    obtain ⟨j, hj, rfl⟩ := List.getElem_of_mem hc
    have hjf : j < fs.size := by omega
    obtain ⟨ho, hk⟩ := Go.Deep.hone_of hone j fs[j] (Array.getElem?_eq_getElem hjf)
    have h1 := hf j fs[j] (Array.getElem?_eq_getElem hjf)
    rw [ho, hk, List.drop_eq_getElem_cons hj] at h1
    have hys : ys[j]? = some (ys[j]'(by omega)) := List.getElem?_eq_getElem (by omega)
    rw [hys] at h1
    obtain ⟨x, ex, _, _⟩ := DataW.trod_int (hint j fs[j] (Array.getElem?_eq_getElem hjf)) h1
    injection ex with ex _
    exact ⟨x, ex⟩)
  exact ⟨xs, by simpa using hlen, rfl⟩

/-- the bytes that a slice takes -/
theorem bytes_le {t e : TypeId} (ht : P.underlying t = some (.slice e)) {a0 : Option Addr} {len cap : Nat} {d : DataW H} {p : List MemPlace} (h : DataW.Trod enc P w base spare held t (.slice a0 len cap) d p)
    {ts : List TypeId} {ds : List (DataW H)} (hsz : (DataW.weightsEach P ts ds).all (· ≤ reachBytes) = true) {j : Nat} (hj : ts[j]? = some t) (hd : ds[j]? = some d) : len * P.bytesOf e ≤ reachBytes := by
  obtain ⟨fuel, h⟩ := h
  rcases Go.Deep.open_slice ht h with ⟨hcs, _⟩ | ⟨a, len', cap', m, n, D, Pl, hcs, _, hl, _, hm, hx, _⟩
  · simp [Value.cells] at hcs
    obtain ⟨rfl, rfl, rfl⟩ := hcs
    simp
  · simp [Value.cells] at hcs
    obtain ⟨rfl, rfl, rfl⟩ := hcs
    obtain ⟨rfl, _⟩ := Prod.mk.inj hx
    have := sized_slice hsz hj hd ht
    simp only [List.length_map, List.length_range] at this
    exact Nat.le_trans (Nat.mul_le_mul_right _ (Nat.le_add_right _ _)) this

end Go.Proofs.Ytebhmbejfpbpeaa.Arg
