/-
  No cell of these rows narrows 'for every input' (looked for: loops, veiled, ifaces, maps, wideKeys, modest, calm, conditions, laid).
  DERIVED. THE GIVEN ROWS OF THIS SEAT. 4 by the template 'for every input the law returns true; each argument reads behind the call as it read before'; 0 by the template 'total and deterministic' (their statements: YticlhahjgiaieaaTotals.lean).
  GIVEN WITH THE SEED: the statements are not yours to turn. If you find one false, say at which input.
  Laid BY PROGRAM, IN A SANDBOX (cutbox-rows.mjs): the forced cells as the released guide's own fill.sh prints them over the translation b89833df3d534323… (all of the seat's roots in one cut). By AI agents, Wed Nov 11 2026. No macro, syntax, notation, axiom, sorry.
-/
import Derived.Test.YticlhahjgiaieaaChecked
import GoSem.Claim
import GoSem.ClaimJoined
import GoSem.ClaimMapViews
import Derived.JoinedTies
import Derived.KernelRfl
namespace Go.Proofs.Yticlhahjgiaieaa
/- THE CELL 'sum', in the pinned program and in every row, IS THE sha256 OF THE DUMP (.gsa) THAT YticlhahjgiaieaaProg.lean LOADS. Nothing in Lean hashes anything: it is a label: what it is worth is what the hold of that sum in a sandbox is worth. -/
noncomputable def Try.pinned : Pinned := { name := "yticlhahjgiaieaa", sum := "b89833df3d534323678c010742a9bf8fc1f00400d724449f64a0ca47875485bb", checked := Try.checked }
namespace Rows
def none {H : Type} : Left H := { results := [], args := [] }

/-- 'scutagelaw04.MemRuns': WHATEVER THE INPUT: true; the input reads as it did. -/
def memRunsSpec : ChangeSpec := { name := "memRuns", fn := fun _ => fun
  | [d1, d2] => { results := [.lit (.bool true)], args := [d1, d2] }
  | _ => none }
def memRunsRow : OpenClaim := { program := "yticlhahjgiaieaa", sum := "b89833df3d534323678c010742a9bf8fc1f00400d724449f64a0ca47875485bb", func := "scutage/scutagelaw04.MemRuns", spec := "memRuns", apart := false }
def MemRunsSaid : Prop := memRunsRow.holds Try.pinned (OpenSpec.ofChange memRunsSpec)

/-- ITS FALSE NEIGHBOUR: 'it returns false'. Refute it at one input. -/
def memRunsWrong : ChangeSpec := { name := "memRuns", fn := fun _ => fun
  | [d1, d2] => { results := [.lit (.bool false)], args := [d1, d2] }
  | _ => none }
def MemRunsWrongFalsely : Prop := memRunsRow.holds Try.pinned (OpenSpec.ofChange memRunsWrong)

/-- 'scutagelaw04.MemMoves': WHATEVER THE INPUT: true; the input reads as it did. -/
def memMovesSpec : ChangeSpec := { name := "memMoves", fn := fun _ => fun
  | [d1, d2, d3, d4] => { results := [.lit (.bool true)], args := [d1, d2, d3, d4] }
  | _ => none }
def memMovesRow : OpenClaim := { program := "yticlhahjgiaieaa", sum := "b89833df3d534323678c010742a9bf8fc1f00400d724449f64a0ca47875485bb", func := "scutage/scutagelaw04.MemMoves", spec := "memMoves", apart := false }
def MemMovesSaid : Prop := memMovesRow.holds Try.pinned (OpenSpec.ofChange memMovesSpec)

/-- ITS FALSE NEIGHBOUR: 'it returns false'. Refute it at one input. -/
def memMovesWrong : ChangeSpec := { name := "memMoves", fn := fun _ => fun
  | [d1, d2, d3, d4] => { results := [.lit (.bool false)], args := [d1, d2, d3, d4] }
  | _ => none }
def MemMovesWrongFalsely : Prop := memMovesRow.holds Try.pinned (OpenSpec.ofChange memMovesWrong)

/-- 'scutagelaw04.MemClones': WHATEVER THE INPUT: true; the input reads as it did. -/
def memClonesSpec : ChangeSpec := { name := "memClones", fn := fun _ => fun
  | [d1, d2, d3, d4] => { results := [.lit (.bool true)], args := [d1, d2, d3, d4] }
  | _ => none }
def memClonesRow : OpenClaim := { program := "yticlhahjgiaieaa", sum := "b89833df3d534323678c010742a9bf8fc1f00400d724449f64a0ca47875485bb", func := "scutage/scutagelaw04.MemClones", spec := "memClones", apart := false }
def MemClonesSaid : Prop := memClonesRow.holds Try.pinned (OpenSpec.ofChange memClonesSpec)

/-- ITS FALSE NEIGHBOUR: 'it returns false'. Refute it at one input. -/
def memClonesWrong : ChangeSpec := { name := "memClones", fn := fun _ => fun
  | [d1, d2, d3, d4] => { results := [.lit (.bool false)], args := [d1, d2, d3, d4] }
  | _ => none }
def MemClonesWrongFalsely : Prop := memClonesRow.holds Try.pinned (OpenSpec.ofChange memClonesWrong)

/-- 'scutagelaw04.MemNobody': WHATEVER THE INPUT: true; the input reads as it did. -/
def memNobodySpec : ChangeSpec := { name := "memNobody", fn := fun _ => fun
  | [d1, d2, d3] => { results := [.lit (.bool true)], args := [d1, d2, d3] }
  | _ => none }
def memNobodyRow : OpenClaim := { program := "yticlhahjgiaieaa", sum := "b89833df3d534323678c010742a9bf8fc1f00400d724449f64a0ca47875485bb", func := "scutage/scutagelaw04.MemNobody", spec := "memNobody", apart := false }
def MemNobodySaid : Prop := memNobodyRow.holds Try.pinned (OpenSpec.ofChange memNobodySpec)

/-- ITS FALSE NEIGHBOUR: 'it returns false'. Refute it at one input. -/
def memNobodyWrong : ChangeSpec := { name := "memNobody", fn := fun _ => fun
  | [d1, d2, d3] => { results := [.lit (.bool false)], args := [d1, d2, d3] }
  | _ => none }
def MemNobodyWrongFalsely : Prop := memNobodyRow.holds Try.pinned (OpenSpec.ofChange memNobodyWrong)

/- THE SECOND FORM. 'bulk': how many values and letters a reading holds, each counted each time it is reached (what is shared counts as often as it is met; a slice's spare places count too). A statement '..UptoSaid' is the law's where the arguments, and the package variables that the reading takes, are together of bulk at most 1048576: NARROWER than '..Said'. Prove '..Said' where nothing that the law and all that it calls make is longer than what came in: it says more and counts as full. Else prove '..UptoSaid'. A law counts once. -/
mutual
def uptoBulk {H : Type} : DataW H → Nat
  | .lit (.string bytes) => bytes.length + 1
  | .lit _ => 1
  | .nil => 1
  | .ptr d => uptoBulk d + 1
  | .slice elems spare => uptoBulkAll elems + uptoBulkAll spare + 1
  | .agg parts => uptoBulkAll parts + 1
  | .iface _ d => uptoBulk d + 1
  | .map entries => uptoBulkEntries entries + 1
  | .held _ => 1
def uptoBulkAll {H : Type} : List (DataW H) → Nat
  | [] => 0
  | d :: r => uptoBulk d + uptoBulkAll r
def uptoBulkEntries {H : Type} : List (Lit × DataW H) → Nat
  | [] => 0
  | x :: r => uptoBulkEntry x + uptoBulkEntries r
def uptoBulkEntry {H : Type} : Lit × DataW H → Nat
  | (.string bytes, d) => bytes.length + uptoBulk d + 1
  | (_, d) => uptoBulk d + 1
 end
def uptoSmall : (H : Type) → List (DataW H) → Bool := fun _ ds => decide (uptoBulkAll ds ≤ 1048576)
def OpenSpec.upto (s : _root_.Go.ChangeSpec) : _root_.Go.OpenSpec := { _root_.Go.OpenSpec.ofChange s with cond := some uptoSmall }

/-- 'scutagelaw04.MemRuns', WHERE WHAT IT READS IS OF BULK AT MOST 1048576: true; the input reads as it did. -/
def memRunsUptoRow : OpenClaim := { program := "yticlhahjgiaieaa", sum := "b89833df3d534323678c010742a9bf8fc1f00400d724449f64a0ca47875485bb", func := "scutage/scutagelaw04.MemRuns", spec := "memRuns", apart := false, narrowed := true }
def MemRunsUptoSaid : Prop := memRunsUptoRow.holds Try.pinned (OpenSpec.upto memRunsSpec)

/-- 'scutagelaw04.MemMoves', WHERE WHAT IT READS IS OF BULK AT MOST 1048576: true; the input reads as it did. -/
def memMovesUptoRow : OpenClaim := { program := "yticlhahjgiaieaa", sum := "b89833df3d534323678c010742a9bf8fc1f00400d724449f64a0ca47875485bb", func := "scutage/scutagelaw04.MemMoves", spec := "memMoves", apart := false, narrowed := true }
def MemMovesUptoSaid : Prop := memMovesUptoRow.holds Try.pinned (OpenSpec.upto memMovesSpec)

/-- 'scutagelaw04.MemClones', WHERE WHAT IT READS IS OF BULK AT MOST 1048576: true; the input reads as it did. -/
def memClonesUptoRow : OpenClaim := { program := "yticlhahjgiaieaa", sum := "b89833df3d534323678c010742a9bf8fc1f00400d724449f64a0ca47875485bb", func := "scutage/scutagelaw04.MemClones", spec := "memClones", apart := false, narrowed := true }
def MemClonesUptoSaid : Prop := memClonesUptoRow.holds Try.pinned (OpenSpec.upto memClonesSpec)

/-- 'scutagelaw04.MemNobody', WHERE WHAT IT READS IS OF BULK AT MOST 1048576: true; the input reads as it did. -/
def memNobodyUptoRow : OpenClaim := { program := "yticlhahjgiaieaa", sum := "b89833df3d534323678c010742a9bf8fc1f00400d724449f64a0ca47875485bb", func := "scutage/scutagelaw04.MemNobody", spec := "memNobody", apart := false, narrowed := true }
def MemNobodyUptoSaid : Prop := memNobodyUptoRow.holds Try.pinned (OpenSpec.upto memNobodySpec)

end Rows
end Go.Proofs.Yticlhahjgiaieaa
