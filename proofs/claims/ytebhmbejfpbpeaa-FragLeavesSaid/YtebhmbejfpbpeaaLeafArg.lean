/- Proved: the law FragLeaves of package scutagelaw39 over any arguments that read as data. -/
import Derived.Test.YtebhmbejfpbpeaaHeap
import Derived.Test.YtebhmbejfpbpeaaArg
import Derived.Test.YtebhmbejfpbpeaaLeaves
namespace Go.Proofs.Ytebhmbejfpbpeaa.LeafArg
open Go.RowKit Go.Proofs.Ytebhmbejfpbpeaa.H Go.ChangeShapes Go.WideShapes Go.Proofs.Ytebhmbejfpbpeaa.PFragPlans Go.Proofs.YtebhmbejfpbpeaaW.PrintWords

theorem cellsP : Try.prog.cellsOf 27 = 2 := by kernel_rfl
theorem bytesP : Try.prog.bytesOf 27 = 16 := by kernel_rfl
/-- a page's cells -/
def pcells (x : S27) : List Value := [.int .i64 x.f0, .int .i64 x.f1]
instance : Inhabited S27 := ⟨z27⟩

variable {H : Type} {enc : TypeId × Value → H} {w : World} {base : Nat} {spare : Nat → Bool} {held : Bool}

theorem page_of (n : Nat) (cs : List Value) (y : DataW H × List MemPlace) (h : DataW.trod enc Try.prog w base spare held n 27 cs = some y) : ∃ x : S27, cs = pcells x ∧ True := by
  obtain ⟨xs, hl, rfl⟩ := Arg.ints_of_struct Try.underlying27 (by decide +kernel) cellsP (fun j f hf => by
    match j, hf with
    | 0, hf => simp at hf; subst hf; exact Try.underlying3
    | 1, hf => simp at hf; subst hf; exact Try.underlying3
    | j + 2, hf => simp at hf) h
  match xs, hl with
  | [a, b], _ => exact ⟨⟨a, b⟩, rfl, trivial⟩

theorem open_pages {a0 : Option Addr} {len cap : Nat} {d : DataW H} {p : List MemPlace} (h : DataW.Trod enc Try.prog w base spare held 24 (.slice a0 len cap) d p) :
    ∃ l : List S27, l.length = len ∧ (∀ x ∈ l, True) ∧ Rd w (.slice a0 len cap) len 2 (l.flatMap pcells) :=
  Arg.open_row pcells (fun _ => True) (by decide) (fun _ => rfl) (fun x u hu => by simp [pcells] at hu; rcases hu with rfl | rfl <;> rfl) Try.underlying24 cellsP page_of h

theorem flat_at (l : List S27) : ∀ (j i : Nat) (x : S27) (u : Value), l[j]? = some x → (pcells x)[i]? = some u → (l.flatMap pcells)[j * 2 + i]? = some u := by
  induction l with
  | nil => intro j i x u h; simp at h
  | cons a l ih =>
    intro j i x u h hu
    rw [List.flatMap_cons]
    cases j with
    | zero =>
      simp at h; subst h
      have hi : i < (pcells a).length := (List.getElem?_eq_some_iff.mp hu).1
      rw [Nat.zero_mul, Nat.zero_add, List.getElem?_append_left hi, hu]
    | succ j =>
      have hl : (pcells a).length = 2 := rfl
      rw [List.getElem?_append_right (by rw [hl]; omega), hl, show (j + 1) * 2 + i - 2 = j * 2 + i by omega]
      exact ih j i x u (by simpa using h) hu
theorem to_C {A : Option Addr} {c : Nat} {l : List S27} (h : Rd w (.slice A l.length c) l.length 2 (l.flatMap pcells)) (hb : l.length ≤ 9223372036854775807) : Kd.C k27 w A l.length l := by
  refine ⟨rfl, hb, fun h0 => ?_⟩
  rcases h.at_ with ⟨_, h1⟩ | ⟨ad, c2, e, _, hc⟩
  · omega
  · injection e with e1 _ _
    refine ⟨ad, e1, fun j x hx => ⟨pcells x, rfl, k27_mk w x, fun i u hu => hc _ _ (flat_at l j i x u hx hu)⟩⟩

theorem leaves_law (v : Value) (l : List S27) (_g : ∀ x ∈ l, True) (h : Rd w v l.length 2 (l.flatMap pcells)) (hb : l.length * Try.prog.bytesOf 27 ≤ reachBytes) (a : Int) (_ha : (Lit.int .i64 a).wf = true) :
    Calls Try.prog 5 #[v, .int .i64 a] w fun e w' => e = .returned (.bool true) ∧ Below w.heap.size w w' := by
  obtain ⟨A, c, rfl, hc⟩ := h.slice
  exact Leaves.leaves_any A c l a w (to_C h (by rw [bytesP, reachBytes] at hb; omega)) hc

end Go.Proofs.Ytebhmbejfpbpeaa.LeafArg
