/-
  DERIVED. GIVEN WITH THE SEED: THE CARDS: each row of YtpljiekkimkceaaDoorRows.lean that lists a variable, with what it lists TIED to the program's text (the seventh form; the later family's looks); each row that meets fmt, with fmt's text TOLD by the authors' own Lean function (tested against real Go, not proved from fmt's source: count such statements apart). THE CARD IS WHAT COUNTS. Prove the row's statement (the work); the ties are given (YtpljiekkimkceaaDoorTie.lean); close each card by the builder's one call (the guide's Derived/Test/ToyasCard.lean, 'card_holds'). Laid BY PROGRAM, IN A SANDBOX (cutbox-door.mjs). By AI agents, Wed Nov 11 2026. No macro, syntax, notation, axiom, sorry.
-/
import Derived.Test.YtpljiekkimkceaaDoorRows
import GoSem.ClaimSeven
namespace Go.Proofs.YtpljiekkimkceaaDoor
namespace Rows

/-- THE TIED CARD OF 'wireschemalaw14.DescDefs'. -/
def descDefsCard : Claim7 := { stood := { row := descDefsRow, standIns := [], harness := (true, "e2728556cbefe89fd9cff2f1f300e07a57c1d594c1a46766e553febf271ead72"), looks := false }, kinds := [], alts := [], laidByText := true, laidKinds := [.data, .pinned], laidTests := true, laidLooks := .later }
def DescDefsCardSaid : Prop := Claim7.holds Tryd.pinned (.plain (OpenSpec.ofChange descDefsSpec)) descDefsCard

/-- THE SECOND FORM's CARD OF 'wireschemalaw14.DescDefs'. -/
def descDefsUptoCard : Claim7 := { stood := { row := descDefsUptoRow, standIns := [], harness := (true, "e2728556cbefe89fd9cff2f1f300e07a57c1d594c1a46766e553febf271ead72"), looks := false }, kinds := [], alts := [], laidByText := true, laidKinds := [.data, .pinned], laidTests := true, laidLooks := .later }
def DescDefsUptoCardSaid : Prop := Claim7.holds Tryd.pinned (.plain (OpenSpec.upto descDefsSpec)) descDefsUptoCard
end Rows
end Go.Proofs.YtpljiekkimkceaaDoor
