/-
  DERIVED. GIVEN WITH THE SEED: THE CARDS: each row of YtoipjmhfeggdeaaDoorRows.lean that lists a variable, with what it lists TIED to the program's text (the seventh form; the later family's looks); each row that meets fmt, with fmt's text TOLD by the authors' own Lean function (tested against real Go, not proved from fmt's source: count such statements apart). THE CARD IS WHAT COUNTS. Prove the row's statement (the work); the ties are given (YtoipjmhfeggdeaaDoorTie.lean); close each card by the builder's one call (the guide's Derived/Test/ToyasCard.lean, 'card_holds'). Laid BY PROGRAM, IN A SANDBOX (cutbox-door.mjs). By AI agents, Wed Nov 11 2026. No macro, syntax, notation, axiom, sorry.
-/
import Derived.Test.YtoipjmhfeggdeaaDoorRows
import GoSem.ClaimSeven
namespace Go.Proofs.YtoipjmhfeggdeaaDoor
namespace Rows

/-- THE TIED CARD OF 'scutagelaw18.ShadeRuns'. -/
def shadeRunsCard : Claim7 := { stood := { row := shadeRunsRow, standIns := [], harness := (true, "c2f0ad4fa828e3208f48269aa76a564f407c5a470a915ab1dcad73c2601d567b"), looks := false }, kinds := [], alts := [], laidByText := true, laidKinds := [.data], laidTests := true, laidLooks := .later }
def ShadeRunsCardSaid : Prop := Claim7.holds Tryd.pinned (.plain (OpenSpec.ofChange shadeRunsSpec)) shadeRunsCard

/-- THE TIED CARD OF 'scutagelaw18.ShadeClones'. -/
def shadeClonesCard : Claim7 := { stood := { row := shadeClonesRow, standIns := [], harness := (true, "c2f0ad4fa828e3208f48269aa76a564f407c5a470a915ab1dcad73c2601d567b"), looks := false }, kinds := [], alts := [], laidByText := true, laidKinds := [.data], laidTests := true, laidLooks := .later }
def ShadeClonesCardSaid : Prop := Claim7.holds Tryd.pinned (.plain (OpenSpec.ofChange shadeClonesSpec)) shadeClonesCard

/-- THE SECOND FORM's CARD OF 'scutagelaw18.ShadeRuns'. -/
def shadeRunsUptoCard : Claim7 := { stood := { row := shadeRunsUptoRow, standIns := [], harness := (true, "c2f0ad4fa828e3208f48269aa76a564f407c5a470a915ab1dcad73c2601d567b"), looks := false }, kinds := [], alts := [], laidByText := true, laidKinds := [.data], laidTests := true, laidLooks := .later }
def ShadeRunsUptoCardSaid : Prop := Claim7.holds Tryd.pinned (.plain (OpenSpec.upto shadeRunsSpec)) shadeRunsUptoCard

/-- THE SECOND FORM's CARD OF 'scutagelaw18.ShadeClones'. -/
def shadeClonesUptoCard : Claim7 := { stood := { row := shadeClonesUptoRow, standIns := [], harness := (true, "c2f0ad4fa828e3208f48269aa76a564f407c5a470a915ab1dcad73c2601d567b"), looks := false }, kinds := [], alts := [], laidByText := true, laidKinds := [.data], laidTests := true, laidLooks := .later }
def ShadeClonesUptoCardSaid : Prop := Claim7.holds Tryd.pinned (.plain (OpenSpec.upto shadeClonesSpec)) shadeClonesUptoCard
end Rows
end Go.Proofs.YtoipjmhfeggdeaaDoor
