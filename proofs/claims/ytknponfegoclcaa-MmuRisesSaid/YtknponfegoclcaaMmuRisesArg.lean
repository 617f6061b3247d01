/- Proved: the law MmuRises of package scutagelaw31 over any arguments that read as data. -/
import Derived.Test.YtknponfegoclcaaHeap
import Derived.Test.YtknponfegoclcaaArg
import Derived.Test.YtknponfegoclcaaPureMmuRises
namespace Go.Proofs.Ytknponfegoclcaa.ArgMmuRises
open Go.RowKit Go.Proofs.Ytknponfegoclcaa.H Go.ChangeShapes Go.WideShapes Go.Proofs.Ytknponfegoclcaa.PMmuRises Go.Proofs.YtknponfegoclcaaW.PrintWords
variable {H : Type} {enc : TypeId × Value → H} {w : World} {base : Nat} {spare : Nat → Bool} {held : Bool}

def bcells (x : Bool) : List Value := [.bool x]
theorem cellsB : Try.prog.cellsOf 4 = 1 := by kernel_rfl
theorem bytesB : Try.prog.bytesOf 4 = 1 := by kernel_rfl
theorem open_bools {a0 : Option Addr} {len cap : Nat} {d : DataW H} {p : List MemPlace} (h : DataW.Trod enc Try.prog w base spare held 22 (.slice a0 len cap) d p) :
    ∃ l : List Bool, l.length = len ∧ (∀ x ∈ l, True) ∧ Rd w (.slice a0 len cap) len 1 (l.flatMap bcells) :=
  Arg.open_row bcells (fun _ => True) (by decide) (fun _ => rfl) (fun x u hu => by simp [bcells] at hu; subst hu; rfl) Try.underlying22 cellsB (fun n cs y h => by
    obtain ⟨b, rfl, _⟩ := DataW.trod_bool Try.underlying4 h
    exact ⟨b, rfl, trivial⟩) h
theorem flat_bools (l : List Bool) : l.flatMap bcells = l.map Value.bool := by
  induction l with
  | nil => rfl
  | cons x l ih => simp [bcells] at ih ⊢; exact ih
theorem to_C {A : Option Addr} {c : Nat} {l : List Bool} (h : Rd w (.slice A l.length c) l.length 1 (l.flatMap bcells)) (hb : l.length ≤ 9223372036854775807) : Kd.C Kd.bool w A l.length l := by
  refine ⟨rfl, hb, fun h0 => ?_⟩
  rcases h.at_ with ⟨_, h1⟩ | ⟨ad, c2, e, _, hc⟩
  · omega
  · injection e with e1 _ _
    refine ⟨ad, e1, fun j x hx => ⟨bcells x, rfl, rfl, fun i u hu => ?_⟩⟩
    match i, hu with
    | 0, hu =>
      refine hc _ _ ?_
      rw [show j * Kd.bool.sz + 0 = j from Nat.mul_one j, flat_bools, List.getElem?_map, hx]
      exact hu
    | i + 1, hu => simp [bcells] at hu
theorem wf_i64 {a : Int} (h : (Lit.int .i64 a).wf = true) : -9223372036854775808 ≤ a ∧ a ≤ 9223372036854775807 := by
  simpa [Lit.wf, IntKind.min, IntKind.max, IntKind.signed, IntKind.bits] using h

theorem law (v : Value) (l : List Bool) (_g : ∀ x ∈ l, True) (h : Rd w v l.length 1 (l.flatMap bcells)) (hb : l.length * Try.prog.bytesOf 4 ≤ reachBytes) (a : Int) (_ha : (Lit.int .i64 a).wf = true) (b : Int) (_hb : (Lit.int .i64 b).wf = true) :
    Calls Try.prog 6 #[v, .int .i64 a, .int .i64 b] w fun e w' => e = .returned (.bool true) ∧ Below w.heap.size w w' := by
  obtain ⟨A, c, rfl, hc⟩ := h.slice
  obtain ⟨k, hk⟩ := PureMmuRises.law_true l a b (wf_i64 _hb)
  exact scutagelaw31_MmuRises.calls k A c l a b true w (to_C h (by rw [bytesB, reachBytes] at hb; omega)) hc hk

end Go.Proofs.Ytknponfegoclcaa.ArgMmuRises
