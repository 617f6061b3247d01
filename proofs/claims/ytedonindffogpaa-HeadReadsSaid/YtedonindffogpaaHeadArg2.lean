/- Proved: the law HeadReads of package scutagelaw10 over any arguments that read as data. -/
import Derived.Test.YtedonindffogpaaHeadReads
namespace Go.Proofs.Ytedonindffogpaa.HeadArg2
open Go.RowKit Go.Proofs.Ytedonindffogpaa.H Go.Proofs.Ytedonindffogpaa.Words Go.Proofs.Ytedonindffogpaa.Mem Go.Proofs.Ytedonindffogpaa.HeadLaw Go.ChangeShapes Go.WideShapes

theorem big_of {x : Int} (h : (Lit.int .i64 x).wf = true) : x / 128 ≤ 72057594037927936 := by
  simp only [Lit.wf, Bool.and_eq_true, decide_eq_true_eq] at h
  have h2 : x ≤ 9223372036854775807 := h.2
  omega

theorem cellsW : Try.prog.cellsOf 2 = 1 := by kernel_rfl
theorem bytesW : Try.prog.bytesOf 2 = 8 := by kernel_rfl

variable {H : Type} {enc : TypeId × Value → H} {w : World} {base : Nat} {spare : Nat → Bool} {held : Bool}

theorem word_of (n : Nat) (cs : List Value) (y : DataW H × List MemPlace) (h : DataW.trod enc Try.prog w base spare held n 2 cs = some y) : ∃ x : Int, cs = [.int .i64 x] ∧ (Lit.int .i64 x).wf = true := by
  obtain ⟨a, ea, _, hw⟩ := DataW.trod_int Try.underlying2 h
  exact ⟨a, ea, hw⟩

theorem open_words {a0 : Option Addr} {len cap : Nat} {d : DataW H} {p : List MemPlace} (h : DataW.Trod enc Try.prog w base spare held 28 (.slice a0 len cap) d p) :
    ∃ l : List Int, l.length = len ∧ (∀ x ∈ l, (Lit.int .i64 x).wf = true) ∧ Rd w (.slice a0 len cap) len 1 (ints l) :=
  Arg.open_row (fun x : Int => [.int .i64 x]) (fun x => (Lit.int .i64 x).wf = true) (by decide) (fun _ => rfl) (fun x u hu => by simp at hu; subst hu; rfl) Try.underlying28 cellsW word_of h

theorem reads_law (v : Value) (l : List Int) (g : ∀ x ∈ l, (Lit.int .i64 x).wf = true) (h : Rd w v l.length 1 (ints l)) (hb : l.length * Try.prog.bytesOf 2 ≤ reachBytes) (a : Int) (_ha : (Lit.int .i64 a).wf = true) (i : Int) (_hi : (Lit.int .i64 i).wf = true) :
    Calls Try.prog 4 #[v, .int .i64 a, .int .i64 i] w (Same w (.bool true)) := reads_any v l a i w h (by rw [bytesW, reachBytes] at hb; omega) (fun x hx => big_of (g x hx))

end Go.Proofs.Ytedonindffogpaa.HeadArg2
