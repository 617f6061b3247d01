/-
  No cell of these rows narrows 'for every input' (looked for: loops, veiled, ifaces, maps, wideKeys, modest, calm, conditions, laid).
  DERIVED. THE GIVEN ROWS OF THIS SEAT. 3 by the template 'for every input the law returns true; each argument reads behind the call as it read before'; 0 by the template 'total and deterministic' (their statements: YtneogdjogdbmcaaTotals.lean).
  GIVEN WITH THE SEED: the statements are not yours to turn. If you find one false, say at which input.
  Laid BY PROGRAM, IN A SANDBOX (cutbox-rows.mjs): the forced cells as the released guide's own fill.sh prints them over the translation 85843ea82c3560ac… (all of the seat's roots in one cut). By AI agents, Wed Nov 11 2026. No macro, syntax, notation, axiom, sorry.
-/
import Derived.Test.YtneogdjogdbmcaaChecked
import GoSem.Claim
import GoSem.ClaimJoined
import GoSem.ClaimMapViews
import Derived.JoinedTies
import Derived.KernelRfl
namespace Go.Proofs.Ytneogdjogdbmcaa
/- THE CELL 'sum', in the pinned program and in every row, IS THE sha256 OF THE DUMP (.gsa) THAT YtneogdjogdbmcaaProg.lean LOADS. Nothing in Lean hashes anything: it is a label: what it is worth is what the hold of that sum in a sandbox is worth. -/
noncomputable def Try.pinned : Pinned := { name := "ytneogdjogdbmcaa", sum := "85843ea82c3560ac209f9a8d6c1bdbab765f89d3bd1b110d11ec44da21c33fd5", checked := Try.checked }
namespace Rows
def none {H : Type} : Left H := { results := [], args := [] }

/-- 'scutagelaw15.EpochRuns': WHATEVER THE INPUT: true; the input reads as it did. -/
def epochRunsSpec : ChangeSpec := { name := "epochRuns", fn := fun _ => fun
  | [d1, d2] => { results := [.lit (.bool true)], args := [d1, d2] }
  | _ => none }
def epochRunsRow : OpenClaim := { program := "ytneogdjogdbmcaa", sum := "85843ea82c3560ac209f9a8d6c1bdbab765f89d3bd1b110d11ec44da21c33fd5", func := "scutage/scutagelaw15.EpochRuns", spec := "epochRuns", unfollowed := true, recurses := true, apart := false }
def EpochRunsSaid : Prop := epochRunsRow.holds Try.pinned (OpenSpec.ofChange epochRunsSpec)

/-- ITS FALSE NEIGHBOUR: 'it returns false'. Refute it at one input. -/
def epochRunsWrong : ChangeSpec := { name := "epochRuns", fn := fun _ => fun
  | [d1, d2] => { results := [.lit (.bool false)], args := [d1, d2] }
  | _ => none }
def EpochRunsWrongFalsely : Prop := epochRunsRow.holds Try.pinned (OpenSpec.ofChange epochRunsWrong)

/-- 'scutagelaw15.EpochAgrees': WHATEVER THE INPUT: true; the input reads as it did. -/
def epochAgreesSpec : ChangeSpec := { name := "epochAgrees", fn := fun _ => fun
  | [d1, d2, d3] => { results := [.lit (.bool true)], args := [d1, d2, d3] }
  | _ => none }
def epochAgreesRow : OpenClaim := { program := "ytneogdjogdbmcaa", sum := "85843ea82c3560ac209f9a8d6c1bdbab765f89d3bd1b110d11ec44da21c33fd5", func := "scutage/scutagelaw15.EpochAgrees", spec := "epochAgrees", unfollowed := true, recurses := true, apart := false }
def EpochAgreesSaid : Prop := epochAgreesRow.holds Try.pinned (OpenSpec.ofChange epochAgreesSpec)

/-- ITS FALSE NEIGHBOUR: 'it returns false'. Refute it at one input. -/
def epochAgreesWrong : ChangeSpec := { name := "epochAgrees", fn := fun _ => fun
  | [d1, d2, d3] => { results := [.lit (.bool false)], args := [d1, d2, d3] }
  | _ => none }
def EpochAgreesWrongFalsely : Prop := epochAgreesRow.holds Try.pinned (OpenSpec.ofChange epochAgreesWrong)

/-- 'scutagelaw15.EpochClones': WHATEVER THE INPUT: true; the input reads as it did. -/
def epochClonesSpec : ChangeSpec := { name := "epochClones", fn := fun _ => fun
  | [d1, d2, d3, d4] => { results := [.lit (.bool true)], args := [d1, d2, d3, d4] }
  | _ => none }
def epochClonesRow : OpenClaim := { program := "ytneogdjogdbmcaa", sum := "85843ea82c3560ac209f9a8d6c1bdbab765f89d3bd1b110d11ec44da21c33fd5", func := "scutage/scutagelaw15.EpochClones", spec := "epochClones", unfollowed := true, recurses := true, apart := false }
def EpochClonesSaid : Prop := epochClonesRow.holds Try.pinned (OpenSpec.ofChange epochClonesSpec)

/-- ITS FALSE NEIGHBOUR: 'it returns false'. Refute it at one input. -/
def epochClonesWrong : ChangeSpec := { name := "epochClones", fn := fun _ => fun
  | [d1, d2, d3, d4] => { results := [.lit (.bool false)], args := [d1, d2, d3, d4] }
  | _ => none }
def EpochClonesWrongFalsely : Prop := epochClonesRow.holds Try.pinned (OpenSpec.ofChange epochClonesWrong)

/- THE SECOND FORM. 'bulk': how many values and letters a reading holds, each counted each time it is reached (what is shared counts as often as it is met; a slice's spare places count too). A statement '..UptoSaid' is the law's where the arguments, and the package variables that the reading takes, are together of bulk at most 1048576: NARROWER than '..Said'. Prove '..Said' where nothing that the law and all that it calls make is longer than what came in: it says more and counts as full. Else prove '..UptoSaid'. A law counts once. -/
mutual
def uptoBulk {H : Type} : DataW H → Nat
  | .lit (.string bytes) => bytes.length + 1
  | .lit _ => 1
  | .nil => 1
  | .ptr d => uptoBulk d + 1
  | .slice elems spare => uptoBulkAll elems + uptoBulkAll spare + 1
  | .agg parts => uptoBulkAll parts + 1
  | .iface _ d => uptoBulk d + 1
  | .map entries => uptoBulkEntries entries + 1
  | .held _ => 1
def uptoBulkAll {H : Type} : List (DataW H) → Nat
  | [] => 0
  | d :: r => uptoBulk d + uptoBulkAll r
def uptoBulkEntries {H : Type} : List (Lit × DataW H) → Nat
  | [] => 0
  | x :: r => uptoBulkEntry x + uptoBulkEntries r
def uptoBulkEntry {H : Type} : Lit × DataW H → Nat
  | (.string bytes, d) => bytes.length + uptoBulk d + 1
  | (_, d) => uptoBulk d + 1
 end
def uptoSmall : (H : Type) → List (DataW H) → Bool := fun _ ds => decide (uptoBulkAll ds ≤ 1048576)
def OpenSpec.upto (s : _root_.Go.ChangeSpec) : _root_.Go.OpenSpec := { _root_.Go.OpenSpec.ofChange s with cond := some uptoSmall }

/-- 'scutagelaw15.EpochRuns', WHERE WHAT IT READS IS OF BULK AT MOST 1048576: true; the input reads as it did. -/
def epochRunsUptoRow : OpenClaim := { program := "ytneogdjogdbmcaa", sum := "85843ea82c3560ac209f9a8d6c1bdbab765f89d3bd1b110d11ec44da21c33fd5", func := "scutage/scutagelaw15.EpochRuns", spec := "epochRuns", unfollowed := true, recurses := true, apart := false, narrowed := true }
def EpochRunsUptoSaid : Prop := epochRunsUptoRow.holds Try.pinned (OpenSpec.upto epochRunsSpec)

/-- 'scutagelaw15.EpochAgrees', WHERE WHAT IT READS IS OF BULK AT MOST 1048576: true; the input reads as it did. -/
def epochAgreesUptoRow : OpenClaim := { program := "ytneogdjogdbmcaa", sum := "85843ea82c3560ac209f9a8d6c1bdbab765f89d3bd1b110d11ec44da21c33fd5", func := "scutage/scutagelaw15.EpochAgrees", spec := "epochAgrees", unfollowed := true, recurses := true, apart := false, narrowed := true }
def EpochAgreesUptoSaid : Prop := epochAgreesUptoRow.holds Try.pinned (OpenSpec.upto epochAgreesSpec)

/-- 'scutagelaw15.EpochClones', WHERE WHAT IT READS IS OF BULK AT MOST 1048576: true; the input reads as it did. -/
def epochClonesUptoRow : OpenClaim := { program := "ytneogdjogdbmcaa", sum := "85843ea82c3560ac209f9a8d6c1bdbab765f89d3bd1b110d11ec44da21c33fd5", func := "scutage/scutagelaw15.EpochClones", spec := "epochClones", unfollowed := true, recurses := true, apart := false, narrowed := true }
def EpochClonesUptoSaid : Prop := epochClonesUptoRow.holds Try.pinned (OpenSpec.upto epochClonesSpec)

end Rows
end Go.Proofs.Ytneogdjogdbmcaa
