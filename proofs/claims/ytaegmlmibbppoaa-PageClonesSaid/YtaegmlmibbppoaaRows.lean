/-
  No cell of these rows narrows 'for every input' (looked for: loops, veiled, ifaces, maps, wideKeys, modest, calm, conditions, laid).
  DERIVED. THE GIVEN ROWS OF THIS SEAT. 3 by the template 'for every input the law returns true; each argument reads behind the call as it read before'; 0 by the template 'total and deterministic' (their statements: YtaegmlmibbppoaaTotals.lean).
  GIVEN WITH THE SEED: the statements are not yours to turn. If you find one false, say at which input.
  Laid BY PROGRAM, IN A SANDBOX (cutbox-rows.mjs): the forced cells as the released guide's own fill.sh prints them over the translation 962807cc4086161e… (all of the seat's roots in one cut). By AI agents, Wed Nov 11 2026. No macro, syntax, notation, axiom, sorry.
-/
import Derived.Test.YtaegmlmibbppoaaChecked
import GoSem.Claim
import GoSem.ClaimJoined
import GoSem.ClaimMapViews
import Derived.JoinedTies
import Derived.KernelRfl
namespace Go.Proofs.Ytaegmlmibbppoaa
/- THE CELL 'sum', in the pinned program and in every row, IS THE sha256 OF THE DUMP (.gsa) THAT YtaegmlmibbppoaaProg.lean LOADS. Nothing in Lean hashes anything: it is a label: what it is worth is what the hold of that sum in a sandbox is worth. -/
noncomputable def Try.pinned : Pinned := { name := "ytaegmlmibbppoaa", sum := "962807cc4086161e13536b57be86dc8fa5526f478d45e4558c0d115a43b8020b", checked := Try.checked }
namespace Rows
def none {H : Type} : Left H := { results := [], args := [] }

/-- 'scutagelaw09.PageRuns': WHATEVER THE INPUT: true; the input reads as it did. -/
def pageRunsSpec : ChangeSpec := { name := "pageRuns", fn := fun _ => fun
  | [d1, d2] => { results := [.lit (.bool true)], args := [d1, d2] }
  | _ => none }
def pageRunsRow : OpenClaim := { program := "ytaegmlmibbppoaa", sum := "962807cc4086161e13536b57be86dc8fa5526f478d45e4558c0d115a43b8020b", func := "scutage/scutagelaw09.PageRuns", spec := "pageRuns", unfollowed := true, recurses := true, apart := false }
def PageRunsSaid : Prop := pageRunsRow.holds Try.pinned (OpenSpec.ofChange pageRunsSpec)

/-- ITS FALSE NEIGHBOUR: 'it returns false'. Refute it at one input. -/
def pageRunsWrong : ChangeSpec := { name := "pageRuns", fn := fun _ => fun
  | [d1, d2] => { results := [.lit (.bool false)], args := [d1, d2] }
  | _ => none }
def PageRunsWrongFalsely : Prop := pageRunsRow.holds Try.pinned (OpenSpec.ofChange pageRunsWrong)

/-- 'scutagelaw09.PageSpans': WHATEVER THE INPUT: true; the input reads as it did. -/
def pageSpansSpec : ChangeSpec := { name := "pageSpans", fn := fun _ => fun
  | [d1, d2] => { results := [.lit (.bool true)], args := [d1, d2] }
  | _ => none }
def pageSpansRow : OpenClaim := { program := "ytaegmlmibbppoaa", sum := "962807cc4086161e13536b57be86dc8fa5526f478d45e4558c0d115a43b8020b", func := "scutage/scutagelaw09.PageSpans", spec := "pageSpans", unfollowed := true, recurses := true, apart := false }
def PageSpansSaid : Prop := pageSpansRow.holds Try.pinned (OpenSpec.ofChange pageSpansSpec)

/-- ITS FALSE NEIGHBOUR: 'it returns false'. Refute it at one input. -/
def pageSpansWrong : ChangeSpec := { name := "pageSpans", fn := fun _ => fun
  | [d1, d2] => { results := [.lit (.bool false)], args := [d1, d2] }
  | _ => none }
def PageSpansWrongFalsely : Prop := pageSpansRow.holds Try.pinned (OpenSpec.ofChange pageSpansWrong)

/-- 'scutagelaw09.PageClones': WHATEVER THE INPUT: true; the input reads as it did. -/
def pageClonesSpec : ChangeSpec := { name := "pageClones", fn := fun _ => fun
  | [d1, d2, d3, d4] => { results := [.lit (.bool true)], args := [d1, d2, d3, d4] }
  | _ => none }
def pageClonesRow : OpenClaim := { program := "ytaegmlmibbppoaa", sum := "962807cc4086161e13536b57be86dc8fa5526f478d45e4558c0d115a43b8020b", func := "scutage/scutagelaw09.PageClones", spec := "pageClones", unfollowed := true, recurses := true, apart := false }
def PageClonesSaid : Prop := pageClonesRow.holds Try.pinned (OpenSpec.ofChange pageClonesSpec)

/-- ITS FALSE NEIGHBOUR: 'it returns false'. Refute it at one input. -/
def pageClonesWrong : ChangeSpec := { name := "pageClones", fn := fun _ => fun
  | [d1, d2, d3, d4] => { results := [.lit (.bool false)], args := [d1, d2, d3, d4] }
  | _ => none }
def PageClonesWrongFalsely : Prop := pageClonesRow.holds Try.pinned (OpenSpec.ofChange pageClonesWrong)

/- THE SECOND FORM. 'bulk': how many values and letters a reading holds, each counted each time it is reached (what is shared counts as often as it is met; a slice's spare places count too). A statement '..UptoSaid' is the law's where the arguments, and the package variables that the reading takes, are together of bulk at most 1048576: NARROWER than '..Said'. Prove '..Said' where nothing that the law and all that it calls make is longer than what came in: it says more and counts as full. Else prove '..UptoSaid'. A law counts once. -/
mutual
def uptoBulk {H : Type} : DataW H → Nat
  | .lit (.string bytes) => bytes.length + 1
  | .lit _ => 1
  | .nil => 1
  | .ptr d => uptoBulk d + 1
  | .slice elems spare => uptoBulkAll elems + uptoBulkAll spare + 1
  | .agg parts => uptoBulkAll parts + 1
  | .iface _ d => uptoBulk d + 1
  | .map entries => uptoBulkEntries entries + 1
  | .held _ => 1
def uptoBulkAll {H : Type} : List (DataW H) → Nat
  | [] => 0
  | d :: r => uptoBulk d + uptoBulkAll r
def uptoBulkEntries {H : Type} : List (Lit × DataW H) → Nat
  | [] => 0
  | x :: r => uptoBulkEntry x + uptoBulkEntries r
def uptoBulkEntry {H : Type} : Lit × DataW H → Nat
  | (.string bytes, d) => bytes.length + uptoBulk d + 1
  | (_, d) => uptoBulk d + 1
 end
def uptoSmall : (H : Type) → List (DataW H) → Bool := fun _ ds => decide (uptoBulkAll ds ≤ 1048576)
def OpenSpec.upto (s : _root_.Go.ChangeSpec) : _root_.Go.OpenSpec := { _root_.Go.OpenSpec.ofChange s with cond := some uptoSmall }

/-- 'scutagelaw09.PageRuns', WHERE WHAT IT READS IS OF BULK AT MOST 1048576: true; the input reads as it did. -/
def pageRunsUptoRow : OpenClaim := { program := "ytaegmlmibbppoaa", sum := "962807cc4086161e13536b57be86dc8fa5526f478d45e4558c0d115a43b8020b", func := "scutage/scutagelaw09.PageRuns", spec := "pageRuns", unfollowed := true, recurses := true, apart := false, narrowed := true }
def PageRunsUptoSaid : Prop := pageRunsUptoRow.holds Try.pinned (OpenSpec.upto pageRunsSpec)

/-- 'scutagelaw09.PageSpans', WHERE WHAT IT READS IS OF BULK AT MOST 1048576: true; the input reads as it did. -/
def pageSpansUptoRow : OpenClaim := { program := "ytaegmlmibbppoaa", sum := "962807cc4086161e13536b57be86dc8fa5526f478d45e4558c0d115a43b8020b", func := "scutage/scutagelaw09.PageSpans", spec := "pageSpans", unfollowed := true, recurses := true, apart := false, narrowed := true }
def PageSpansUptoSaid : Prop := pageSpansUptoRow.holds Try.pinned (OpenSpec.upto pageSpansSpec)

/-- 'scutagelaw09.PageClones', WHERE WHAT IT READS IS OF BULK AT MOST 1048576: true; the input reads as it did. -/
def pageClonesUptoRow : OpenClaim := { program := "ytaegmlmibbppoaa", sum := "962807cc4086161e13536b57be86dc8fa5526f478d45e4558c0d115a43b8020b", func := "scutage/scutagelaw09.PageClones", spec := "pageClones", unfollowed := true, recurses := true, apart := false, narrowed := true }
def PageClonesUptoSaid : Prop := pageClonesUptoRow.holds Try.pinned (OpenSpec.upto pageClonesSpec)

end Rows
end Go.Proofs.Ytaegmlmibbppoaa
