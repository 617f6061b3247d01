/-
  No cell of these rows narrows 'for every input' (looked for: loops, veiled, ifaces, maps, wideKeys, modest, calm, conditions, laid).
  DERIVED. THE GIVEN ROWS OF THIS SEAT. 3 by the template 'for every input the law returns true; each argument reads behind the call as it read before'; 0 by the template 'total and deterministic' (their statements: YtebhmbejfpbpeaaTotals.lean).
  GIVEN WITH THE SEED: the statements are not yours to turn. If you find one false, say at which input.
  Laid BY PROGRAM, IN A SANDBOX (cutbox-rows.mjs): the forced cells as the released guide's own fill.sh prints them over the translation 43fd3c163de01104… (all of the seat's roots in one cut). By AI agents, Wed Nov 11 2026. No macro, syntax, notation, axiom, sorry.
-/
import Derived.Test.YtebhmbejfpbpeaaChecked
import GoSem.Claim
import GoSem.ClaimJoined
import GoSem.ClaimMapViews
import Derived.JoinedTies
import Derived.KernelRfl
namespace Go.Proofs.Ytebhmbejfpbpeaa
/- THE CELL 'sum', in the pinned program and in every row, IS THE sha256 OF THE DUMP (.gsa) THAT YtebhmbejfpbpeaaProg.lean LOADS. Nothing in Lean hashes anything: it is a label: what it is worth is what the hold of that sum in a sandbox is worth. -/
noncomputable def Try.pinned : Pinned := { name := "ytebhmbejfpbpeaa", sum := "43fd3c163de0110407b45ba07fdc483a88d5c25807113e5a4babb927358dee80", checked := Try.checked }
namespace Rows
def none {H : Type} : Left H := { results := [], args := [] }

/-- 'scutagelaw39.FragOf': WHATEVER THE INPUT: true; the input reads as it did. -/
def fragOfSpec : ChangeSpec := { name := "fragOf", fn := fun _ => fun
  | [d1, d2] => { results := [.lit (.bool true)], args := [d1, d2] }
  | _ => none }
def fragOfRow : OpenClaim := { program := "ytebhmbejfpbpeaa", sum := "43fd3c163de0110407b45ba07fdc483a88d5c25807113e5a4babb927358dee80", func := "scutage/scutagelaw39.FragOf", spec := "fragOf", apart := false }
def FragOfSaid : Prop := fragOfRow.holds Try.pinned (OpenSpec.ofChange fragOfSpec)

/-- ITS FALSE NEIGHBOUR: 'it returns false'. Refute it at one input. -/
def fragOfWrong : ChangeSpec := { name := "fragOf", fn := fun _ => fun
  | [d1, d2] => { results := [.lit (.bool false)], args := [d1, d2] }
  | _ => none }
def FragOfWrongFalsely : Prop := fragOfRow.holds Try.pinned (OpenSpec.ofChange fragOfWrong)

/-- 'scutagelaw39.FragPlans': WHATEVER THE INPUT: true; the input reads as it did. -/
def fragPlansSpec : ChangeSpec := { name := "fragPlans", fn := fun _ => fun
  | [d1, d2] => { results := [.lit (.bool true)], args := [d1, d2] }
  | _ => none }
def fragPlansRow : OpenClaim := { program := "ytebhmbejfpbpeaa", sum := "43fd3c163de0110407b45ba07fdc483a88d5c25807113e5a4babb927358dee80", func := "scutage/scutagelaw39.FragPlans", spec := "fragPlans", apart := false }
def FragPlansSaid : Prop := fragPlansRow.holds Try.pinned (OpenSpec.ofChange fragPlansSpec)

/-- ITS FALSE NEIGHBOUR: 'it returns false'. Refute it at one input. -/
def fragPlansWrong : ChangeSpec := { name := "fragPlans", fn := fun _ => fun
  | [d1, d2] => { results := [.lit (.bool false)], args := [d1, d2] }
  | _ => none }
def FragPlansWrongFalsely : Prop := fragPlansRow.holds Try.pinned (OpenSpec.ofChange fragPlansWrong)

/-- 'scutagelaw39.FragLeaves': WHATEVER THE INPUT: true; the input reads as it did. -/
def fragLeavesSpec : ChangeSpec := { name := "fragLeaves", fn := fun _ => fun
  | [d1, d2] => { results := [.lit (.bool true)], args := [d1, d2] }
  | _ => none }
def fragLeavesRow : OpenClaim := { program := "ytebhmbejfpbpeaa", sum := "43fd3c163de0110407b45ba07fdc483a88d5c25807113e5a4babb927358dee80", func := "scutage/scutagelaw39.FragLeaves", spec := "fragLeaves", apart := false }
def FragLeavesSaid : Prop := fragLeavesRow.holds Try.pinned (OpenSpec.ofChange fragLeavesSpec)

/-- ITS FALSE NEIGHBOUR: 'it returns false'. Refute it at one input. -/
def fragLeavesWrong : ChangeSpec := { name := "fragLeaves", fn := fun _ => fun
  | [d1, d2] => { results := [.lit (.bool false)], args := [d1, d2] }
  | _ => none }
def FragLeavesWrongFalsely : Prop := fragLeavesRow.holds Try.pinned (OpenSpec.ofChange fragLeavesWrong)

/- THE SECOND FORM. 'bulk': how many values and letters a reading holds, each counted each time it is reached (what is shared counts as often as it is met; a slice's spare places count too). A statement '..UptoSaid' is the law's where the arguments, and the package variables that the reading takes, are together of bulk at most 1048576: NARROWER than '..Said'. Prove '..Said' where nothing that the law and all that it calls make is longer than what came in: it says more and counts as full. Else prove '..UptoSaid'. A law counts once. -/
mutual
def uptoBulk {H : Type} : DataW H → Nat
  | .lit (.string bytes) => bytes.length + 1
  | .lit _ => 1
  | .nil => 1
  | .ptr d => uptoBulk d + 1
  | .slice elems spare => uptoBulkAll elems + uptoBulkAll spare + 1
  | .agg parts => uptoBulkAll parts + 1
  | .iface _ d => uptoBulk d + 1
  | .map entries => uptoBulkEntries entries + 1
  | .held _ => 1
def uptoBulkAll {H : Type} : List (DataW H) → Nat
  | [] => 0
  | d :: r => uptoBulk d + uptoBulkAll r
def uptoBulkEntries {H : Type} : List (Lit × DataW H) → Nat
  | [] => 0
  | x :: r => uptoBulkEntry x + uptoBulkEntries r
def uptoBulkEntry {H : Type} : Lit × DataW H → Nat
  | (.string bytes, d) => bytes.length + uptoBulk d + 1
  | (_, d) => uptoBulk d + 1
 end
def uptoSmall : (H : Type) → List (DataW H) → Bool := fun _ ds => decide (uptoBulkAll ds ≤ 1048576)
def OpenSpec.upto (s : _root_.Go.ChangeSpec) : _root_.Go.OpenSpec := { _root_.Go.OpenSpec.ofChange s with cond := some uptoSmall }

/-- 'scutagelaw39.FragOf', WHERE WHAT IT READS IS OF BULK AT MOST 1048576: true; the input reads as it did. -/
def fragOfUptoRow : OpenClaim := { program := "ytebhmbejfpbpeaa", sum := "43fd3c163de0110407b45ba07fdc483a88d5c25807113e5a4babb927358dee80", func := "scutage/scutagelaw39.FragOf", spec := "fragOf", apart := false, narrowed := true }
def FragOfUptoSaid : Prop := fragOfUptoRow.holds Try.pinned (OpenSpec.upto fragOfSpec)

/-- 'scutagelaw39.FragPlans', WHERE WHAT IT READS IS OF BULK AT MOST 1048576: true; the input reads as it did. -/
def fragPlansUptoRow : OpenClaim := { program := "ytebhmbejfpbpeaa", sum := "43fd3c163de0110407b45ba07fdc483a88d5c25807113e5a4babb927358dee80", func := "scutage/scutagelaw39.FragPlans", spec := "fragPlans", apart := false, narrowed := true }
def FragPlansUptoSaid : Prop := fragPlansUptoRow.holds Try.pinned (OpenSpec.upto fragPlansSpec)

/-- 'scutagelaw39.FragLeaves', WHERE WHAT IT READS IS OF BULK AT MOST 1048576: true; the input reads as it did. -/
def fragLeavesUptoRow : OpenClaim := { program := "ytebhmbejfpbpeaa", sum := "43fd3c163de0110407b45ba07fdc483a88d5c25807113e5a4babb927358dee80", func := "scutage/scutagelaw39.FragLeaves", spec := "fragLeaves", apart := false, narrowed := true }
def FragLeavesUptoSaid : Prop := fragLeavesUptoRow.holds Try.pinned (OpenSpec.upto fragLeavesSpec)

end Rows
end Go.Proofs.Ytebhmbejfpbpeaa
