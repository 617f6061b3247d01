/-
  DERIVED. GIVEN WITH THE SEED: THE CARDS: each row of YtncbbphhndmibaaDoorRows.lean that lists a variable, with what it lists TIED to the program's text (the seventh form; the later family's looks); each row that meets fmt, with fmt's text TOLD by the authors' own Lean function (tested against real Go, not proved from fmt's source: count such statements apart). THE CARD IS WHAT COUNTS. Prove the row's statement (the work); the ties are given (YtncbbphhndmibaaDoorTie.lean); close each card by the builder's one call (the guide's Derived/Test/ToyasCard.lean, 'card_holds'). Laid BY PROGRAM, IN A SANDBOX (cutbox-door.mjs). By AI agents, Wed Nov 11 2026. No macro, syntax, notation, axiom, sorry.
-/
import Derived.Test.YtncbbphhndmibaaDoorRows
import GoSem.ClaimSeven
namespace Go.Proofs.YtncbbphhndmibaaDoor
namespace Rows

/-- THE TIED CARD OF 'scutagelaw05.BitmapSteps'. -/
def bitmapStepsCard : Claim7 := { stood := { row := bitmapStepsRow, standIns := [], harness := (true, "a6f7e33c48e4e684ccd51fae67cea9aa78186af892dfd82776731e39e6a57d38"), looks := false }, kinds := [], alts := [], laidByText := true, laidKinds := [.data], laidTests := true, laidLooks := .later }
def BitmapStepsCardSaid : Prop := Claim7.holds Tryd.pinned (.plain (OpenSpec.ofChange bitmapStepsSpec)) bitmapStepsCard

/-- THE TIED CARD OF 'scutagelaw05.BitmapRuns'. -/
def bitmapRunsCard : Claim7 := { stood := { row := bitmapRunsRow, standIns := [], harness := (true, "a6f7e33c48e4e684ccd51fae67cea9aa78186af892dfd82776731e39e6a57d38"), looks := false }, kinds := [], alts := [], laidByText := true, laidKinds := [.data], laidTests := true, laidLooks := .later }
def BitmapRunsCardSaid : Prop := Claim7.holds Tryd.pinned (.plain (OpenSpec.ofChange bitmapRunsSpec)) bitmapRunsCard

/-- THE TIED CARD OF 'scutagelaw05.BitmapClones'. -/
def bitmapClonesCard : Claim7 := { stood := { row := bitmapClonesRow, standIns := [], harness := (true, "a6f7e33c48e4e684ccd51fae67cea9aa78186af892dfd82776731e39e6a57d38"), looks := false }, kinds := [], alts := [], laidByText := true, laidKinds := [.data], laidTests := true, laidLooks := .later }
def BitmapClonesCardSaid : Prop := Claim7.holds Tryd.pinned (.plain (OpenSpec.ofChange bitmapClonesSpec)) bitmapClonesCard

/-- THE SECOND FORM's CARD OF 'scutagelaw05.BitmapSteps'. -/
def bitmapStepsUptoCard : Claim7 := { stood := { row := bitmapStepsUptoRow, standIns := [], harness := (true, "a6f7e33c48e4e684ccd51fae67cea9aa78186af892dfd82776731e39e6a57d38"), looks := false }, kinds := [], alts := [], laidByText := true, laidKinds := [.data], laidTests := true, laidLooks := .later }
def BitmapStepsUptoCardSaid : Prop := Claim7.holds Tryd.pinned (.plain (OpenSpec.upto bitmapStepsSpec)) bitmapStepsUptoCard

/-- THE SECOND FORM's CARD OF 'scutagelaw05.BitmapRuns'. -/
def bitmapRunsUptoCard : Claim7 := { stood := { row := bitmapRunsUptoRow, standIns := [], harness := (true, "a6f7e33c48e4e684ccd51fae67cea9aa78186af892dfd82776731e39e6a57d38"), looks := false }, kinds := [], alts := [], laidByText := true, laidKinds := [.data], laidTests := true, laidLooks := .later }
def BitmapRunsUptoCardSaid : Prop := Claim7.holds Tryd.pinned (.plain (OpenSpec.upto bitmapRunsSpec)) bitmapRunsUptoCard

/-- THE SECOND FORM's CARD OF 'scutagelaw05.BitmapClones'. -/
def bitmapClonesUptoCard : Claim7 := { stood := { row := bitmapClonesUptoRow, standIns := [], harness := (true, "a6f7e33c48e4e684ccd51fae67cea9aa78186af892dfd82776731e39e6a57d38"), looks := false }, kinds := [], alts := [], laidByText := true, laidKinds := [.data], laidTests := true, laidLooks := .later }
def BitmapClonesUptoCardSaid : Prop := Claim7.holds Tryd.pinned (.plain (OpenSpec.upto bitmapClonesSpec)) bitmapClonesUptoCard
end Rows
end Go.Proofs.YtncbbphhndmibaaDoor
