/-
  No cell of these rows narrows 'for every input' (looked for: loops, veiled, ifaces, maps, wideKeys, modest, calm, conditions, laid).
  DERIVED. THE GIVEN ROWS OF THIS SEAT. 3 by the template 'for every input the law returns true; each argument reads behind the call as it read before'; 0 by the template 'total and deterministic' (their statements: YtmgfidepjclobaaTotals.lean).
  GIVEN WITH THE SEED: the statements are not yours to turn. If you find one false, say at which input.
  Laid BY PROGRAM, IN A SANDBOX (cutbox-rows.mjs): the forced cells as the released guide's own fill.sh prints them over the translation ba22ec22c8396758… (all of the seat's roots in one cut). By AI agents, Wed Nov 11 2026. No macro, syntax, notation, axiom, sorry.
-/
import Derived.Test.YtmgfidepjclobaaChecked
import GoSem.Claim
import GoSem.ClaimJoined
import GoSem.ClaimMapViews
import Derived.JoinedTies
import Derived.KernelRfl
namespace Go.Proofs.Ytmgfidepjclobaa
/- THE CELL 'sum', in the pinned program and in every row, IS THE sha256 OF THE DUMP (.gsa) THAT YtmgfidepjclobaaProg.lean LOADS. Nothing in Lean hashes anything: it is a label: what it is worth is what the hold of that sum in a sandbox is worth. -/
noncomputable def Try.pinned : Pinned := { name := "ytmgfidepjclobaa", sum := "ba22ec22c83967581cd54cdee311bb95a5b48824eb93fb4946c26cadbaad77e9", checked := Try.checked }
namespace Rows
def none {H : Type} : Left H := { results := [], args := [] }

/-- 'scutagelaw16.BufferRuns': WHATEVER THE INPUT: true; the input reads as it did. -/
def bufferRunsSpec : ChangeSpec := { name := "bufferRuns", fn := fun _ => fun
  | [d1, d2] => { results := [.lit (.bool true)], args := [d1, d2] }
  | _ => none }
def bufferRunsRow : OpenClaim := { program := "ytmgfidepjclobaa", sum := "ba22ec22c83967581cd54cdee311bb95a5b48824eb93fb4946c26cadbaad77e9", func := "scutage/scutagelaw16.BufferRuns", spec := "bufferRuns", unfollowed := true, recurses := true, apart := false }
def BufferRunsSaid : Prop := bufferRunsRow.holds Try.pinned (OpenSpec.ofChange bufferRunsSpec)

/-- ITS FALSE NEIGHBOUR: 'it returns false'. Refute it at one input. -/
def bufferRunsWrong : ChangeSpec := { name := "bufferRuns", fn := fun _ => fun
  | [d1, d2] => { results := [.lit (.bool false)], args := [d1, d2] }
  | _ => none }
def BufferRunsWrongFalsely : Prop := bufferRunsRow.holds Try.pinned (OpenSpec.ofChange bufferRunsWrong)

/-- 'scutagelaw16.BufferTakes': WHATEVER THE INPUT: true; the input reads as it did. -/
def bufferTakesSpec : ChangeSpec := { name := "bufferTakes", fn := fun _ => fun
  | [d1, d2, d3, d4] => { results := [.lit (.bool true)], args := [d1, d2, d3, d4] }
  | _ => none }
def bufferTakesRow : OpenClaim := { program := "ytmgfidepjclobaa", sum := "ba22ec22c83967581cd54cdee311bb95a5b48824eb93fb4946c26cadbaad77e9", func := "scutage/scutagelaw16.BufferTakes", spec := "bufferTakes", unfollowed := true, recurses := true, apart := false }
def BufferTakesSaid : Prop := bufferTakesRow.holds Try.pinned (OpenSpec.ofChange bufferTakesSpec)

/-- ITS FALSE NEIGHBOUR: 'it returns false'. Refute it at one input. -/
def bufferTakesWrong : ChangeSpec := { name := "bufferTakes", fn := fun _ => fun
  | [d1, d2, d3, d4] => { results := [.lit (.bool false)], args := [d1, d2, d3, d4] }
  | _ => none }
def BufferTakesWrongFalsely : Prop := bufferTakesRow.holds Try.pinned (OpenSpec.ofChange bufferTakesWrong)

/-- 'scutagelaw16.BufferClones': WHATEVER THE INPUT: true; the input reads as it did. -/
def bufferClonesSpec : ChangeSpec := { name := "bufferClones", fn := fun _ => fun
  | [d1, d2, d3, d4] => { results := [.lit (.bool true)], args := [d1, d2, d3, d4] }
  | _ => none }
def bufferClonesRow : OpenClaim := { program := "ytmgfidepjclobaa", sum := "ba22ec22c83967581cd54cdee311bb95a5b48824eb93fb4946c26cadbaad77e9", func := "scutage/scutagelaw16.BufferClones", spec := "bufferClones", unfollowed := true, recurses := true, apart := false }
def BufferClonesSaid : Prop := bufferClonesRow.holds Try.pinned (OpenSpec.ofChange bufferClonesSpec)

/-- ITS FALSE NEIGHBOUR: 'it returns false'. Refute it at one input. -/
def bufferClonesWrong : ChangeSpec := { name := "bufferClones", fn := fun _ => fun
  | [d1, d2, d3, d4] => { results := [.lit (.bool false)], args := [d1, d2, d3, d4] }
  | _ => none }
def BufferClonesWrongFalsely : Prop := bufferClonesRow.holds Try.pinned (OpenSpec.ofChange bufferClonesWrong)

/- THE SECOND FORM. 'bulk': how many values and letters a reading holds, each counted each time it is reached (what is shared counts as often as it is met; a slice's spare places count too). A statement '..UptoSaid' is the law's where the arguments, and the package variables that the reading takes, are together of bulk at most 1048576: NARROWER than '..Said'. Prove '..Said' where nothing that the law and all that it calls make is longer than what came in: it says more and counts as full. Else prove '..UptoSaid'. A law counts once. -/
mutual
def uptoBulk {H : Type} : DataW H → Nat
  | .lit (.string bytes) => bytes.length + 1
  | .lit _ => 1
  | .nil => 1
  | .ptr d => uptoBulk d + 1
  | .slice elems spare => uptoBulkAll elems + uptoBulkAll spare + 1
  | .agg parts => uptoBulkAll parts + 1
  | .iface _ d => uptoBulk d + 1
  | .map entries => uptoBulkEntries entries + 1
  | .held _ => 1
def uptoBulkAll {H : Type} : List (DataW H) → Nat
  | [] => 0
  | d :: r => uptoBulk d + uptoBulkAll r
def uptoBulkEntries {H : Type} : List (Lit × DataW H) → Nat
  | [] => 0
  | x :: r => uptoBulkEntry x + uptoBulkEntries r
def uptoBulkEntry {H : Type} : Lit × DataW H → Nat
  | (.string bytes, d) => bytes.length + uptoBulk d + 1
  | (_, d) => uptoBulk d + 1
 end
def uptoSmall : (H : Type) → List (DataW H) → Bool := fun _ ds => decide (uptoBulkAll ds ≤ 1048576)
def OpenSpec.upto (s : _root_.Go.ChangeSpec) : _root_.Go.OpenSpec := { _root_.Go.OpenSpec.ofChange s with cond := some uptoSmall }

/-- 'scutagelaw16.BufferRuns', WHERE WHAT IT READS IS OF BULK AT MOST 1048576: true; the input reads as it did. -/
def bufferRunsUptoRow : OpenClaim := { program := "ytmgfidepjclobaa", sum := "ba22ec22c83967581cd54cdee311bb95a5b48824eb93fb4946c26cadbaad77e9", func := "scutage/scutagelaw16.BufferRuns", spec := "bufferRuns", unfollowed := true, recurses := true, apart := false, narrowed := true }
def BufferRunsUptoSaid : Prop := bufferRunsUptoRow.holds Try.pinned (OpenSpec.upto bufferRunsSpec)

/-- 'scutagelaw16.BufferTakes', WHERE WHAT IT READS IS OF BULK AT MOST 1048576: true; the input reads as it did. -/
def bufferTakesUptoRow : OpenClaim := { program := "ytmgfidepjclobaa", sum := "ba22ec22c83967581cd54cdee311bb95a5b48824eb93fb4946c26cadbaad77e9", func := "scutage/scutagelaw16.BufferTakes", spec := "bufferTakes", unfollowed := true, recurses := true, apart := false, narrowed := true }
def BufferTakesUptoSaid : Prop := bufferTakesUptoRow.holds Try.pinned (OpenSpec.upto bufferTakesSpec)

/-- 'scutagelaw16.BufferClones', WHERE WHAT IT READS IS OF BULK AT MOST 1048576: true; the input reads as it did. -/
def bufferClonesUptoRow : OpenClaim := { program := "ytmgfidepjclobaa", sum := "ba22ec22c83967581cd54cdee311bb95a5b48824eb93fb4946c26cadbaad77e9", func := "scutage/scutagelaw16.BufferClones", spec := "bufferClones", unfollowed := true, recurses := true, apart := false, narrowed := true }
def BufferClonesUptoSaid : Prop := bufferClonesUptoRow.holds Try.pinned (OpenSpec.upto bufferClonesSpec)

end Rows
end Go.Proofs.Ytmgfidepjclobaa
