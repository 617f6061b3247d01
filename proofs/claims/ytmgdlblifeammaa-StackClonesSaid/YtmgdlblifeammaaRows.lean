/-
  No cell of these rows narrows 'for every input' (looked for: loops, veiled, ifaces, maps, wideKeys, modest, calm, conditions, laid).
  DERIVED. THE GIVEN ROWS OF THIS SEAT. 3 by the template 'for every input the law returns true; each argument reads behind the call as it read before'; 0 by the template 'total and deterministic' (their statements: YtmgdlblifeammaaTotals.lean).
  GIVEN WITH THE SEED: the statements are not yours to turn. If you find one false, say at which input.
  Laid BY PROGRAM, IN A SANDBOX (cutbox-rows.mjs): the forced cells as the released guide's own fill.sh prints them over the translation e444672782fa59dd… (all of the seat's roots in one cut). By AI agents, Wed Nov 11 2026. No macro, syntax, notation, axiom, sorry.
-/
import Derived.Test.YtmgdlblifeammaaChecked
import GoSem.Claim
import GoSem.ClaimJoined
import GoSem.ClaimMapViews
import Derived.JoinedTies
import Derived.KernelRfl
namespace Go.Proofs.Ytmgdlblifeammaa
/- THE CELL 'sum', in the pinned program and in every row, IS THE sha256 OF THE DUMP (.gsa) THAT YtmgdlblifeammaaProg.lean LOADS. Nothing in Lean hashes anything: it is a label: what it is worth is what the hold of that sum in a sandbox is worth. -/
noncomputable def Try.pinned : Pinned := { name := "ytmgdlblifeammaa", sum := "e444672782fa59ddaebc73dbe2e03329688405702045dc71b8e6de0fd555bf51", checked := Try.checked }
namespace Rows
def none {H : Type} : Left H := { results := [], args := [] }

/-- 'scutagelaw17.StackLoses': WHATEVER THE INPUT: true; the input reads as it did. -/
def stackLosesSpec : ChangeSpec := { name := "stackLoses", fn := fun _ => fun
  | [d1, d2] => { results := [.lit (.bool true)], args := [d1, d2] }
  | _ => none }
def stackLosesRow : OpenClaim := { program := "ytmgdlblifeammaa", sum := "e444672782fa59ddaebc73dbe2e03329688405702045dc71b8e6de0fd555bf51", func := "scutage/scutagelaw17.StackLoses", spec := "stackLoses", apart := false }
def StackLosesSaid : Prop := stackLosesRow.holds Try.pinned (OpenSpec.ofChange stackLosesSpec)

/-- ITS FALSE NEIGHBOUR: 'it returns false'. Refute it at one input. -/
def stackLosesWrong : ChangeSpec := { name := "stackLoses", fn := fun _ => fun
  | [d1, d2] => { results := [.lit (.bool false)], args := [d1, d2] }
  | _ => none }
def StackLosesWrongFalsely : Prop := stackLosesRow.holds Try.pinned (OpenSpec.ofChange stackLosesWrong)

/-- 'scutagelaw17.StackRuns': WHATEVER THE INPUT: true; the input reads as it did. -/
def stackRunsSpec : ChangeSpec := { name := "stackRuns", fn := fun _ => fun
  | [d1, d2] => { results := [.lit (.bool true)], args := [d1, d2] }
  | _ => none }
def stackRunsRow : OpenClaim := { program := "ytmgdlblifeammaa", sum := "e444672782fa59ddaebc73dbe2e03329688405702045dc71b8e6de0fd555bf51", func := "scutage/scutagelaw17.StackRuns", spec := "stackRuns", apart := false }
def StackRunsSaid : Prop := stackRunsRow.holds Try.pinned (OpenSpec.ofChange stackRunsSpec)

/-- ITS FALSE NEIGHBOUR: 'it returns false'. Refute it at one input. -/
def stackRunsWrong : ChangeSpec := { name := "stackRuns", fn := fun _ => fun
  | [d1, d2] => { results := [.lit (.bool false)], args := [d1, d2] }
  | _ => none }
def StackRunsWrongFalsely : Prop := stackRunsRow.holds Try.pinned (OpenSpec.ofChange stackRunsWrong)

/-- 'scutagelaw17.StackClones': WHATEVER THE INPUT: true; the input reads as it did. -/
def stackClonesSpec : ChangeSpec := { name := "stackClones", fn := fun _ => fun
  | [d1, d2, d3, d4] => { results := [.lit (.bool true)], args := [d1, d2, d3, d4] }
  | _ => none }
def stackClonesRow : OpenClaim := { program := "ytmgdlblifeammaa", sum := "e444672782fa59ddaebc73dbe2e03329688405702045dc71b8e6de0fd555bf51", func := "scutage/scutagelaw17.StackClones", spec := "stackClones", apart := false }
def StackClonesSaid : Prop := stackClonesRow.holds Try.pinned (OpenSpec.ofChange stackClonesSpec)

/-- ITS FALSE NEIGHBOUR: 'it returns false'. Refute it at one input. -/
def stackClonesWrong : ChangeSpec := { name := "stackClones", fn := fun _ => fun
  | [d1, d2, d3, d4] => { results := [.lit (.bool false)], args := [d1, d2, d3, d4] }
  | _ => none }
def StackClonesWrongFalsely : Prop := stackClonesRow.holds Try.pinned (OpenSpec.ofChange stackClonesWrong)

/- THE SECOND FORM. 'bulk': how many values and letters a reading holds, each counted each time it is reached (what is shared counts as often as it is met; a slice's spare places count too). A statement '..UptoSaid' is the law's where the arguments, and the package variables that the reading takes, are together of bulk at most 1048576: NARROWER than '..Said'. Prove '..Said' where nothing that the law and all that it calls make is longer than what came in: it says more and counts as full. Else prove '..UptoSaid'. A law counts once. -/
mutual
def uptoBulk {H : Type} : DataW H → Nat
  | .lit (.string bytes) => bytes.length + 1
  | .lit _ => 1
  | .nil => 1
  | .ptr d => uptoBulk d + 1
  | .slice elems spare => uptoBulkAll elems + uptoBulkAll spare + 1
  | .agg parts => uptoBulkAll parts + 1
  | .iface _ d => uptoBulk d + 1
  | .map entries => uptoBulkEntries entries + 1
  | .held _ => 1
def uptoBulkAll {H : Type} : List (DataW H) → Nat
  | [] => 0
  | d :: r => uptoBulk d + uptoBulkAll r
def uptoBulkEntries {H : Type} : List (Lit × DataW H) → Nat
  | [] => 0
  | x :: r => uptoBulkEntry x + uptoBulkEntries r
def uptoBulkEntry {H : Type} : Lit × DataW H → Nat
  | (.string bytes, d) => bytes.length + uptoBulk d + 1
  | (_, d) => uptoBulk d + 1
 end
def uptoSmall : (H : Type) → List (DataW H) → Bool := fun _ ds => decide (uptoBulkAll ds ≤ 1048576)
def OpenSpec.upto (s : _root_.Go.ChangeSpec) : _root_.Go.OpenSpec := { _root_.Go.OpenSpec.ofChange s with cond := some uptoSmall }

/-- 'scutagelaw17.StackLoses', WHERE WHAT IT READS IS OF BULK AT MOST 1048576: true; the input reads as it did. -/
def stackLosesUptoRow : OpenClaim := { program := "ytmgdlblifeammaa", sum := "e444672782fa59ddaebc73dbe2e03329688405702045dc71b8e6de0fd555bf51", func := "scutage/scutagelaw17.StackLoses", spec := "stackLoses", apart := false, narrowed := true }
def StackLosesUptoSaid : Prop := stackLosesUptoRow.holds Try.pinned (OpenSpec.upto stackLosesSpec)

/-- 'scutagelaw17.StackRuns', WHERE WHAT IT READS IS OF BULK AT MOST 1048576: true; the input reads as it did. -/
def stackRunsUptoRow : OpenClaim := { program := "ytmgdlblifeammaa", sum := "e444672782fa59ddaebc73dbe2e03329688405702045dc71b8e6de0fd555bf51", func := "scutage/scutagelaw17.StackRuns", spec := "stackRuns", apart := false, narrowed := true }
def StackRunsUptoSaid : Prop := stackRunsUptoRow.holds Try.pinned (OpenSpec.upto stackRunsSpec)

/-- 'scutagelaw17.StackClones', WHERE WHAT IT READS IS OF BULK AT MOST 1048576: true; the input reads as it did. -/
def stackClonesUptoRow : OpenClaim := { program := "ytmgdlblifeammaa", sum := "e444672782fa59ddaebc73dbe2e03329688405702045dc71b8e6de0fd555bf51", func := "scutage/scutagelaw17.StackClones", spec := "stackClones", apart := false, narrowed := true }
def StackClonesUptoSaid : Prop := stackClonesUptoRow.holds Try.pinned (OpenSpec.upto stackClonesSpec)

end Rows
end Go.Proofs.Ytmgdlblifeammaa
