/- Proved: the law ChainTells of package scutagelaw08 over any arguments that read as data. -/
import Derived.Test.YtbndmcblkfaheaaChainTells
import Derived.Lib.SmallJoins
namespace Go.Proofs.Ytbndmcblkfaheaa.ChainArg2
open Go.RowKit Go.Proofs.Ytbndmcblkfaheaa.H Go.Proofs.Ytbndmcblkfaheaa.Words Go.ChangeShapes Go.WideShapes

theorem cellsW : Try.prog.cellsOf 2 = 1 := by kernel_rfl
section
variable {H : Type} {enc : TypeId × Value → H} {w : World} {base : Nat} {spare : Nat → Bool} {held : Bool}
theorem word_of (n : Nat) (cs : List Value) (y : DataW H × List MemPlace) (h : DataW.trod enc Try.prog w base spare held n 2 cs = some y) : ∃ x : Int, cs = [.int .i64 x] ∧ True := by
  obtain ⟨a, ea, _, _⟩ := DataW.trod_int Try.underlying2 h
  exact ⟨a, ea, trivial⟩
theorem open_words {a0 : Option Addr} {len cap : Nat} {d : DataW H} {p : List MemPlace} (h : DataW.Trod enc Try.prog w base spare held 48 (.slice a0 len cap) d p) :
    ∃ l : List Int, l.length = len ∧ (∀ x ∈ l, True) ∧ Rd w (.slice a0 len cap) len 1 (ints l) :=
  Arg.open_row (fun x : Int => [.int .i64 x]) (fun _ => True) (by decide) (fun _ => rfl) (fun x u hu => by simp at hu; subst hu; rfl) Try.underlying48 cellsW word_of h
end
theorem wf_le {n : Int} (h : (Lit.int .i64 n).wf = true) : n ≤ 9223372036854775807 := by
  have h2 : (decide (IntKind.i64.min ≤ n) && decide (n ≤ IntKind.i64.max)) = true := h
  rw [Bool.and_eq_true, decide_eq_true_eq, decide_eq_true_eq] at h2
  exact h2.2

theorem tells_law {w : World} (v : Value) (l : List Int) (_g : ∀ x ∈ l, True) (hr : Rd w v l.length 1 (ints l)) (_hb : l.length * Try.prog.bytesOf 2 ≤ reachBytes) (k : Int) (_hk : (Lit.int .i64 k).wf = true)
    (f n : Int) (_hf : (Lit.int .i64 f).wf = true) (hn : (Lit.int .i64 n).wf = true) (i : Int) (_hi : (Lit.int .i64 i).wf = true) :
    Calls Try.prog 5 #[v, .int .i64 k, .agg #[.int .i64 f, .int .i64 n], .int .i64 i] w (Same w (.bool true)) := Chain.tells_any v l k f n i (wf_le hn) w hr

end Go.Proofs.Ytbndmcblkfaheaa.ChainArg2
