/- Proved: the arguments of the laws of package scutagelaw04 read as lists; and the laws' walks over them. -/
import Derived.Test.YticlhahjgiaieaaMemRun
namespace Go.Proofs.Yticlhahjgiaieaa.MemArg
open Go.RowKit Go.Proofs.Yticlhahjgiaieaa.H Go.Proofs.Yticlhahjgiaieaa.Words Go.Proofs.Yticlhahjgiaieaa.Mem Go.Proofs.Yticlhahjgiaieaa.MemLaw Go.Proofs.Yticlhahjgiaieaa.MemRun Go.ChangeShapes Go.WideShapes

theorem cellsO : Try.prog.cellsOf 49 = 5 := by kernel_rfl
theorem bytesO : Try.prog.bytesOf 49 = 40 := by kernel_rfl
theorem cellsW : Try.prog.cellsOf 2 = 1 := by kernel_rfl
theorem bytesW : Try.prog.bytesOf 2 = 8 := by kernel_rfl

variable {H : Type} {enc : TypeId × Value → H} {w : World} {base : Nat} {spare : Nat → Bool} {held : Bool}

theorem op_of (n : Nat) (cs : List Value) (y : DataW H × List MemPlace) (h : DataW.trod enc Try.prog w base spare held n 49 cs = some y) : ∃ p : Cl, cs = p.cells ∧ True := by
  obtain ⟨xs, hl, rfl⟩ := Arg.ints_of_struct Try.underlying49 (by kernel_rfl) (by kernel_rfl) (by
    intro j f hj
    match j, hj with
    | 0, hj => injection hj with hj; subst hj; exact Try.underlying3
    | 1, hj => injection hj with hj; subst hj; exact Try.underlying3
    | 2, hj => injection hj with hj; subst hj; exact Try.underlying3
    | 3, hj => injection hj with hj; subst hj; exact Try.underlying3
    | 4, hj => injection hj with hj; subst hj; exact Try.underlying2) h
  match xs, hl with
  | [k, a, b, n, x], _ => exact ⟨⟨k, a, b, n, x⟩, rfl, trivial⟩

theorem open_calls {a0 : Option Addr} {len cap : Nat} {d : DataW H} {p : List MemPlace} (h : DataW.Trod enc Try.prog w base spare held 22 (.slice a0 len cap) d p) :
    ∃ l : List Cl, l.length = len ∧ (∀ x ∈ l, True) ∧ Rd w (.slice a0 len cap) len 5 (calls l) :=
  haveI : Inhabited Cl := ⟨⟨0, 0, 0, 0, 0⟩⟩
  Arg.open_row Cl.cells (fun _ => True) (by decide) (fun _ => rfl) (fun x u hu => by simp [Cl.cells] at hu; rcases hu with rfl | rfl | rfl | rfl | rfl <;> rfl) Try.underlying22 cellsO op_of h

theorem word_of (n : Nat) (cs : List Value) (y : DataW H × List MemPlace) (h : DataW.trod enc Try.prog w base spare held n 2 cs = some y) : ∃ x : Int, cs = [.int .i64 x] ∧ True := by
  obtain ⟨a, ea, _, _⟩ := DataW.trod_int Try.underlying2 h
  exact ⟨a, ea, trivial⟩
theorem open_words {a0 : Option Addr} {len cap : Nat} {d : DataW H} {p : List MemPlace} (h : DataW.Trod enc Try.prog w base spare held 26 (.slice a0 len cap) d p) :
    ∃ l : List Int, l.length = len ∧ (∀ x ∈ l, True) ∧ Rd w (.slice a0 len cap) len 1 (ints l) :=
  Arg.open_row (fun x : Int => [.int .i64 x]) (fun _ => True) (by decide) (fun _ => rfl) (fun x u hu => by simp at hu; subst hu; rfl) Try.underlying26 cellsW word_of h

theorem runs_law (n : Int) (_hn : (Lit.int .i64 n).wf = true) (v : Value) (l : List Cl) (_hg : ∀ x ∈ l, True) (hr : Rd w v l.length 5 (calls l)) (_hb : l.length * Try.prog.bytesOf 49 ≤ reachBytes) :
    Calls Try.prog 3 #[.int .i64 n, v] w (Same w (.bool true)) := runs_any n v l w hr

end Go.Proofs.Yticlhahjgiaieaa.MemArg
