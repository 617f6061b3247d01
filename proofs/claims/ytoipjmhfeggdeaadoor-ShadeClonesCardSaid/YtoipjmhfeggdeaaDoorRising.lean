/- Proved: what scutageplain.Rising, In do and answer: numbers, each once, the least first; the conditions stand in each theorem. -/
import Derived.Test.YtoipjmhfeggdeaaDoorInts
namespace Go.Proofs.YtoipjmhfeggdeaaDoor.Rising
open Go.RowKit Go.Proofs.YtoipjmhfeggdeaaDoor.H Go.Proofs.YtoipjmhfeggdeaaDoor.Nums

/-! ### plain laws -/
def cut (out : List Int) (x : Int) : Nat := (out.takeWhile fun y => decide (y < x)).length

def ins (out : List Int) (x : Int) : List Int := if x ∈ out then out else out.take (cut out x) ++ [x] ++ out.drop (cut out x)

def risingL (l : List Int) : List Int := l.foldl ins []

theorem rising_snoc (l : List Int) (x : Int) : risingL (l ++ [x]) = ins (risingL l) x := by simp [risingL]

theorem rising_succ (l : List Int) (k : Nat) (x : Int) (h : l[k]? = some x) : risingL (l.take (k + 1)) = ins (risingL (l.take k)) x := by
  rw [List.take_add_one, h]; exact rising_snoc _ _

theorem cut_le (out : List Int) (x : Int) : cut out x ≤ out.length := by
  unfold cut
  induction out with
  | nil => simp
  | cons y r ih => rw [List.takeWhile_cons]; split <;> simp <;> omega

theorem cut_step (out : List Int) (x : Int) (j : Nat) : j ≤ out.length → (∀ i y, i < j → out[i]? = some y → y < x) → (∀ y, out[j]? = some y → ¬ y < x) → cut out x = j := by
  unfold cut
  induction out generalizing j with
  | nil => intro h _ _; simp at h; subst h; rfl
  | cons z r ih =>
    intro h h1 h2
    rw [List.takeWhile_cons]
    cases j with
    | zero => rw [if_neg (by simpa using h2 z rfl)]; rfl
    | succ j =>
      rw [if_pos (by simpa using h1 0 z (by omega) rfl), List.length_cons, ih j (by simpa using h) (fun i y hi hy => h1 (i + 1) y (by omega) hy) (fun y hy => h2 y hy)]

theorem ins_length (out : List Int) (x : Int) : (ins out x).length ≤ out.length + 1 := by
  unfold ins
  split
  · omega
  · have := cut_le out x; simp; omega

theorem ins_new (out : List Int) (x : Int) (h : x ∉ out) : (ins out x).length = out.length + 1 := by
  unfold ins
  rw [if_neg h]
  have := cut_le out x; simp; omega

theorem mem_ins (out : List Int) (x y : Int) : y ∈ ins out x ↔ y = x ∨ y ∈ out := by
  unfold ins
  split
  · rename_i h
    constructor
    · exact .inr
    · rintro (rfl | h2)
      · exact h
      · exact h2
  · have e : y ∈ out ↔ y ∈ out.take (cut out x) ∨ y ∈ out.drop (cut out x) := by rw [← List.mem_append, List.take_append_drop]
    rw [e]
    simp only [List.mem_append, List.mem_singleton]
    constructor
    · rintro ((h | h) | h)
      · exact .inr (.inl h)
      · exact .inl h
      · exact .inr (.inr h)
    · rintro (h | h | h)
      · exact .inl (.inr h)
      · exact .inl (.inl h)
      · exact .inr h

theorem mem_foldl (l : List Int) (out : List Int) (y : Int) : y ∈ l.foldl ins out ↔ y ∈ l ∨ y ∈ out := by
  induction l generalizing out with
  | nil => simp
  | cons x r ih =>
    rw [List.foldl_cons, ih, mem_ins, List.mem_cons]
    constructor
    · rintro (h | h | h)
      · exact .inl (.inr h)
      · exact .inl (.inl h)
      · exact .inr h
    · rintro ((h | h) | h)
      · exact .inr (.inl h)
      · exact .inl h
      · exact .inr (.inr h)

theorem mem_rising (l : List Int) (y : Int) : y ∈ risingL l ↔ y ∈ l := by unfold risingL; rw [mem_foldl]; simp

theorem length_foldl (l : List Int) (out : List Int) (hd : l.Nodup) (ho : ∀ x ∈ l, x ∉ out) : (l.foldl ins out).length = l.length + out.length := by
  induction l generalizing out with
  | nil => simp
  | cons x r ih =>
    rw [List.nodup_cons] at hd
    rw [List.foldl_cons, ih _ hd.2 (fun z hz h => by
      rw [mem_ins] at h
      rcases h with rfl | h
      · exact hd.1 hz
      · exact ho z (List.mem_cons_of_mem _ hz) h), ins_new _ _ (ho x (by simp)), List.length_cons]
    omega

theorem rising_length (l : List Int) (hd : l.Nodup) : (risingL l).length = l.length := by
  unfold risingL
  rw [length_foldl l [] hd (by simp)]; rfl

theorem rising_le (l : List Int) : (risingL l).length ≤ l.length := by
  have key : ∀ (l out : List Int), (l.foldl ins out).length ≤ l.length + out.length := by
    intro l
    induction l with
    | nil => intro out; simp
    | cons x r ih => intro out; have := ih (ins out x); have := ins_length out x; rw [List.foldl_cons, List.length_cons]; omega
  have := key l []
  simpa [risingL] using this

/-! ### walks -/
theorem Rd.drop {w : World} {A : Option Addr} {n c : Nat} {l : List Int} (h : Rd w (.slice A n c) n 1 (ints l)) (k : Nat) (hk : k < n) : ∃ ad, A = some ad ∧ Rd w (.slice (some (ad.add k)) (n - k) (c - k)) (l.drop k).length 1 (ints (l.drop k)) := by
  have hl := h.len
  rw [ints_length] at hl
  rcases h.at_ with ⟨_, h0⟩ | ⟨ad, c', he, hc, hx⟩
  · omega
  · injection he with he he2 he3
    subst he3
    refine ⟨ad, he, by rw [ints_length, Nat.mul_one], ints_one _, .inr ⟨ad.add k, c - k, by rw [List.length_drop]; congr 1; omega, by rw [List.length_drop]; omega, ?_⟩⟩
    intro j u hj
    rw [ints_eq, List.getElem?_map, List.getElem?_drop] at hj
    have h2 := hx (k + j) u (by rw [ints_eq, List.getElem?_map]; exact hj)
    have e : (ad.add k).add j = ad.add (k + j) := by
      unfold Addr.add
      by_cases h1 : k = 0 <;> by_cases h2 : j = 0 <;> simp_all [Nat.add_assoc]
    rw [e]; exact h2

theorem rd_nil (W : World) (A : Option Addr) (c : Nat) (h : A = none → c = 0) : Rd W (.slice A 0 c) 0 1 (ints []) := by
  refine ⟨rfl, fun v hv => by simp [ints] at hv, ?_⟩
  cases A with
  | none => obtain rfl := h rfl; exact .inl ⟨rfl, rfl⟩
  | some ad => exact .inr ⟨ad, c, rfl, Nat.zero_le _, fun j v hj => by simp [ints] at hj⟩

end Go.Proofs.YtoipjmhfeggdeaaDoor.Rising
