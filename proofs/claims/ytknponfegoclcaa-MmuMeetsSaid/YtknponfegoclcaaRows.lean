/-
  No cell of these rows narrows 'for every input' (looked for: loops, veiled, ifaces, maps, wideKeys, modest, calm, conditions, laid).
  DERIVED. THE GIVEN ROWS OF THIS SEAT. 4 by the template 'for every input the law returns true; each argument reads behind the call as it read before'; 0 by the template 'total and deterministic' (their statements: YtknponfegoclcaaTotals.lean).
  GIVEN WITH THE SEED: the statements are not yours to turn. If you find one false, say at which input.
  Laid BY PROGRAM, IN A SANDBOX (cutbox-rows.mjs): the forced cells as the released guide's own fill.sh prints them over the translation 0ccfb3af6dfd2fed… (all of the seat's roots in one cut). By AI agents, Wed Nov 11 2026. No macro, syntax, notation, axiom, sorry.
-/
import Derived.Test.YtknponfegoclcaaChecked
import GoSem.Claim
import GoSem.ClaimJoined
import GoSem.ClaimMapViews
import Derived.JoinedTies
import Derived.KernelRfl
namespace Go.Proofs.Ytknponfegoclcaa
/- THE CELL 'sum', in the pinned program and in every row, IS THE sha256 OF THE DUMP (.gsa) THAT YtknponfegoclcaaProg.lean LOADS. Nothing in Lean hashes anything: it is a label: what it is worth is what the hold of that sum in a sandbox is worth. -/
noncomputable def Try.pinned : Pinned := { name := "ytknponfegoclcaa", sum := "0ccfb3af6dfd2fed8ec103e1bedce976c7d8a80c97671f7a45a738306e767671", checked := Try.checked }
namespace Rows
def none {H : Type} : Left H := { results := [], args := [] }

/-- 'scutagelaw31.MmuTells': WHATEVER THE INPUT: true; the input reads as it did. -/
def mmuTellsSpec : ChangeSpec := { name := "mmuTells", fn := fun _ => fun
  | [d1, d2] => { results := [.lit (.bool true)], args := [d1, d2] }
  | _ => none }
def mmuTellsRow : OpenClaim := { program := "ytknponfegoclcaa", sum := "0ccfb3af6dfd2fed8ec103e1bedce976c7d8a80c97671f7a45a738306e767671", func := "scutage/scutagelaw31.MmuTells", spec := "mmuTells", unfollowed := true, recurses := true, apart := false }
def MmuTellsSaid : Prop := mmuTellsRow.holds Try.pinned (OpenSpec.ofChange mmuTellsSpec)

/-- ITS FALSE NEIGHBOUR: 'it returns false'. Refute it at one input. -/
def mmuTellsWrong : ChangeSpec := { name := "mmuTells", fn := fun _ => fun
  | [d1, d2] => { results := [.lit (.bool false)], args := [d1, d2] }
  | _ => none }
def MmuTellsWrongFalsely : Prop := mmuTellsRow.holds Try.pinned (OpenSpec.ofChange mmuTellsWrong)

/-- 'scutagelaw31.MmuPermille': WHATEVER THE INPUT: true; the input reads as it did. -/
def mmuPermilleSpec : ChangeSpec := { name := "mmuPermille", fn := fun _ => fun
  | [d1, d2, d3] => { results := [.lit (.bool true)], args := [d1, d2, d3] }
  | _ => none }
def mmuPermilleRow : OpenClaim := { program := "ytknponfegoclcaa", sum := "0ccfb3af6dfd2fed8ec103e1bedce976c7d8a80c97671f7a45a738306e767671", func := "scutage/scutagelaw31.MmuPermille", spec := "mmuPermille", unfollowed := true, recurses := true, apart := false }
def MmuPermilleSaid : Prop := mmuPermilleRow.holds Try.pinned (OpenSpec.ofChange mmuPermilleSpec)

/-- ITS FALSE NEIGHBOUR: 'it returns false'. Refute it at one input. -/
def mmuPermilleWrong : ChangeSpec := { name := "mmuPermille", fn := fun _ => fun
  | [d1, d2, d3] => { results := [.lit (.bool false)], args := [d1, d2, d3] }
  | _ => none }
def MmuPermilleWrongFalsely : Prop := mmuPermilleRow.holds Try.pinned (OpenSpec.ofChange mmuPermilleWrong)

/-- 'scutagelaw31.MmuMeets': WHATEVER THE INPUT: true; the input reads as it did. -/
def mmuMeetsSpec : ChangeSpec := { name := "mmuMeets", fn := fun _ => fun
  | [d1, d2, d3] => { results := [.lit (.bool true)], args := [d1, d2, d3] }
  | _ => none }
def mmuMeetsRow : OpenClaim := { program := "ytknponfegoclcaa", sum := "0ccfb3af6dfd2fed8ec103e1bedce976c7d8a80c97671f7a45a738306e767671", func := "scutage/scutagelaw31.MmuMeets", spec := "mmuMeets", unfollowed := true, recurses := true, apart := false }
def MmuMeetsSaid : Prop := mmuMeetsRow.holds Try.pinned (OpenSpec.ofChange mmuMeetsSpec)

/-- ITS FALSE NEIGHBOUR: 'it returns false'. Refute it at one input. -/
def mmuMeetsWrong : ChangeSpec := { name := "mmuMeets", fn := fun _ => fun
  | [d1, d2, d3] => { results := [.lit (.bool false)], args := [d1, d2, d3] }
  | _ => none }
def MmuMeetsWrongFalsely : Prop := mmuMeetsRow.holds Try.pinned (OpenSpec.ofChange mmuMeetsWrong)

/-- 'scutagelaw31.MmuRises': WHATEVER THE INPUT: true; the input reads as it did. -/
def mmuRisesSpec : ChangeSpec := { name := "mmuRises", fn := fun _ => fun
  | [d1, d2, d3] => { results := [.lit (.bool true)], args := [d1, d2, d3] }
  | _ => none }
def mmuRisesRow : OpenClaim := { program := "ytknponfegoclcaa", sum := "0ccfb3af6dfd2fed8ec103e1bedce976c7d8a80c97671f7a45a738306e767671", func := "scutage/scutagelaw31.MmuRises", spec := "mmuRises", unfollowed := true, recurses := true, apart := false }
def MmuRisesSaid : Prop := mmuRisesRow.holds Try.pinned (OpenSpec.ofChange mmuRisesSpec)

/-- ITS FALSE NEIGHBOUR: 'it returns false'. Refute it at one input. -/
def mmuRisesWrong : ChangeSpec := { name := "mmuRises", fn := fun _ => fun
  | [d1, d2, d3] => { results := [.lit (.bool false)], args := [d1, d2, d3] }
  | _ => none }
def MmuRisesWrongFalsely : Prop := mmuRisesRow.holds Try.pinned (OpenSpec.ofChange mmuRisesWrong)

/- THE SECOND FORM. 'bulk': how many values and letters a reading holds, each counted each time it is reached (what is shared counts as often as it is met; a slice's spare places count too). A statement '..UptoSaid' is the law's where the arguments, and the package variables that the reading takes, are together of bulk at most 1048576: NARROWER than '..Said'. Prove '..Said' where nothing that the law and all that it calls make is longer than what came in: it says more and counts as full. Else prove '..UptoSaid'. A law counts once. -/
mutual
def uptoBulk {H : Type} : DataW H → Nat
  | .lit (.string bytes) => bytes.length + 1
  | .lit _ => 1
  | .nil => 1
  | .ptr d => uptoBulk d + 1
  | .slice elems spare => uptoBulkAll elems + uptoBulkAll spare + 1
  | .agg parts => uptoBulkAll parts + 1
  | .iface _ d => uptoBulk d + 1
  | .map entries => uptoBulkEntries entries + 1
  | .held _ => 1
def uptoBulkAll {H : Type} : List (DataW H) → Nat
  | [] => 0
  | d :: r => uptoBulk d + uptoBulkAll r
def uptoBulkEntries {H : Type} : List (Lit × DataW H) → Nat
  | [] => 0
  | x :: r => uptoBulkEntry x + uptoBulkEntries r
def uptoBulkEntry {H : Type} : Lit × DataW H → Nat
  | (.string bytes, d) => bytes.length + uptoBulk d + 1
  | (_, d) => uptoBulk d + 1
 end
def uptoSmall : (H : Type) → List (DataW H) → Bool := fun _ ds => decide (uptoBulkAll ds ≤ 1048576)
def OpenSpec.upto (s : _root_.Go.ChangeSpec) : _root_.Go.OpenSpec := { _root_.Go.OpenSpec.ofChange s with cond := some uptoSmall }

/-- 'scutagelaw31.MmuTells', WHERE WHAT IT READS IS OF BULK AT MOST 1048576: true; the input reads as it did. -/
def mmuTellsUptoRow : OpenClaim := { program := "ytknponfegoclcaa", sum := "0ccfb3af6dfd2fed8ec103e1bedce976c7d8a80c97671f7a45a738306e767671", func := "scutage/scutagelaw31.MmuTells", spec := "mmuTells", unfollowed := true, recurses := true, apart := false, narrowed := true }
def MmuTellsUptoSaid : Prop := mmuTellsUptoRow.holds Try.pinned (OpenSpec.upto mmuTellsSpec)

/-- 'scutagelaw31.MmuPermille', WHERE WHAT IT READS IS OF BULK AT MOST 1048576: true; the input reads as it did. -/
def mmuPermilleUptoRow : OpenClaim := { program := "ytknponfegoclcaa", sum := "0ccfb3af6dfd2fed8ec103e1bedce976c7d8a80c97671f7a45a738306e767671", func := "scutage/scutagelaw31.MmuPermille", spec := "mmuPermille", unfollowed := true, recurses := true, apart := false, narrowed := true }
def MmuPermilleUptoSaid : Prop := mmuPermilleUptoRow.holds Try.pinned (OpenSpec.upto mmuPermilleSpec)

/-- 'scutagelaw31.MmuMeets', WHERE WHAT IT READS IS OF BULK AT MOST 1048576: true; the input reads as it did. -/
def mmuMeetsUptoRow : OpenClaim := { program := "ytknponfegoclcaa", sum := "0ccfb3af6dfd2fed8ec103e1bedce976c7d8a80c97671f7a45a738306e767671", func := "scutage/scutagelaw31.MmuMeets", spec := "mmuMeets", unfollowed := true, recurses := true, apart := false, narrowed := true }
def MmuMeetsUptoSaid : Prop := mmuMeetsUptoRow.holds Try.pinned (OpenSpec.upto mmuMeetsSpec)

/-- 'scutagelaw31.MmuRises', WHERE WHAT IT READS IS OF BULK AT MOST 1048576: true; the input reads as it did. -/
def mmuRisesUptoRow : OpenClaim := { program := "ytknponfegoclcaa", sum := "0ccfb3af6dfd2fed8ec103e1bedce976c7d8a80c97671f7a45a738306e767671", func := "scutage/scutagelaw31.MmuRises", spec := "mmuRises", unfollowed := true, recurses := true, apart := false, narrowed := true }
def MmuRisesUptoSaid : Prop := mmuRisesUptoRow.holds Try.pinned (OpenSpec.upto mmuRisesSpec)

end Rows
end Go.Proofs.Ytknponfegoclcaa
