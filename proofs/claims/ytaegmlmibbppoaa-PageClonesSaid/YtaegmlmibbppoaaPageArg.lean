/- Proved: the law PageSpans of package scutagelaw09 over any arguments that read as data. -/
import Derived.Test.YtaegmlmibbppoaaPageLaw
namespace Go.Proofs.Ytaegmlmibbppoaa.PageArg
open Go.RowKit Go.Proofs.Ytaegmlmibbppoaa.H Go.Proofs.Ytaegmlmibbppoaa.Nums Go.Proofs.Ytaegmlmibbppoaa.PageLaw Go.ChangeShapes Go.WideShapes

variable {H : Type} {enc : TypeId × Value → H} {P : Program} {w : World} {base : Nat} {spare : Nat → Bool} {held : Bool}
theorem all_ints_wf : ∀ cs : List Value, (∀ c ∈ cs, ∃ x : Int, c = .int .i64 x ∧ (Lit.int .i64 x).wf = true) → ∃ xs : List Int, cs = xs.map (Value.int .i64) ∧ ∀ x ∈ xs, (Lit.int .i64 x).wf = true
  | [], _ => ⟨[], rfl, by simp⟩
  | c :: cs, h => by
    obtain ⟨x, rfl, hx⟩ := h c (by simp)
    obtain ⟨xs, rfl, hxs⟩ := all_ints_wf cs (fun c hc => h c (by simp [hc]))
    exact ⟨x :: xs, rfl, by simp [hx]; exact hxs⟩
/-- a struct of whole numbers alone, read: each is one of its kind -/
theorem ints_of_struct_wf {e : TypeId} {fs : Array Field} (hs : P.underlying e = some (.struct fs)) (hone : Go.Deep.oneCellFields P fs = true) (hC : P.cellsOf e = fs.size) (hint : ∀ (j : Nat) (f : Field), fs[j]? = some f → P.underlying f.type = some (.int .i64))
    {n : Nat} {cs : List Value} {y : DataW H × List MemPlace} (h : DataW.trod enc P w base spare held n e cs = some y) : ∃ xs : List Int, xs.length = fs.size ∧ cs = xs.map (Value.int .i64) ∧ ∀ x ∈ xs, (Lit.int .i64 x).wf = true := by
  obtain ⟨ys, n', hn', hy, hlen, hyl, hf⟩ := DataW.trod_struct hs h
  rw [hC] at hlen
  obtain ⟨xs, rfl, hxs⟩ := all_ints_wf cs (fun c hc => by
    obtain ⟨j, hj, rfl⟩ := List.getElem_of_mem hc
    have hjf : j < fs.size := by omega
    obtain ⟨ho, hk⟩ := Go.Deep.hone_of hone j fs[j] (Array.getElem?_eq_getElem hjf)
    have h1 := hf j fs[j] (Array.getElem?_eq_getElem hjf)
    rw [ho, hk, List.drop_eq_getElem_cons hj] at h1
    have hys : ys[j]? = some (ys[j]'(by omega)) := List.getElem?_eq_getElem (by omega)
    rw [hys] at h1
    obtain ⟨x, ex, _, hw⟩ := DataW.trod_int (hint j fs[j] (Array.getElem?_eq_getElem hjf)) h1
    injection ex with ex _
    exact ⟨x, ex, hw⟩)
  exact ⟨xs, by simpa using hlen, rfl, hxs⟩

theorem cellsO : Try.prog.cellsOf 33 = 2 := by kernel_rfl
def Fit (p : Int × Int) : Prop := (Lit.int .i64 p.1).wf = true ∧ (Lit.int .i64 p.2).wf = true
theorem op_of (n : Nat) (cs : List Value) (y : DataW H × List MemPlace) (h : DataW.trod enc Try.prog w base spare held n 33 cs = some y) : ∃ p : Int × Int, cs = [.int .i64 p.1, .int .i64 p.2] ∧ Fit p := by
  obtain ⟨xs, hl, rfl, hw⟩ := ints_of_struct_wf Try.underlying33 (by kernel_rfl) (by kernel_rfl) (by
    intro j f hj
    match j, hj with
    | 0, hj => injection hj with hj; subst hj; exact Try.underlying3
    | 1, hj => injection hj with hj; subst hj; exact Try.underlying3) h
  match xs, hl, hw with
  | [k, t], _, hw => exact ⟨(k, t), rfl, hw k (by simp), hw t (by simp)⟩
theorem open_calls {a0 : Option Addr} {len cap : Nat} {d : DataW H} {p : List MemPlace} (h : DataW.Trod enc Try.prog w base spare held 22 (.slice a0 len cap) d p) :
    ∃ l : List (Int × Int), l.length = len ∧ (∀ x ∈ l, Fit x) ∧ Rd w (.slice a0 len cap) len 2 (calls l) :=
  Arg.open_row (fun p : Int × Int => [Value.int .i64 p.1, Value.int .i64 p.2]) Fit (by decide) (fun _ => rfl) (fun x u hu => by simp at hu; rcases hu with rfl | rfl <;> rfl) Try.underlying22 cellsO op_of h

theorem spans_law (n : Int) (_hn : (Lit.int .i64 n).wf = true) (v : Value) (l : List (Int × Int)) (_hg : ∀ x ∈ l, Fit x) (hr : Rd w v l.length 2 (calls l)) (_hb : l.length * Try.prog.bytesOf 33 ≤ reachBytes) :
    Calls Try.prog 4 #[.int .i64 n, v] w (Same w (.bool true)) := spans_any n v l w hr

end Go.Proofs.Ytaegmlmibbppoaa.PageArg
