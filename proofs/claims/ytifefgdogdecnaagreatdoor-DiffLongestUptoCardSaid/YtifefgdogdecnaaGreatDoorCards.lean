/-
  DERIVED. GIVEN WITH THE SEED: THE CARDS: each row of YtifefgdogdecnaaGreatDoorRows.lean that lists a variable, with what it lists TIED to the program's text (the seventh form; the later family's looks); each row that meets fmt, with fmt's text TOLD by the authors' own Lean function (tested against real Go, not proved from fmt's source: count such statements apart). THE CARD IS WHAT COUNTS. Prove the row's statement (the work); the ties are given (YtifefgdogdecnaaGreatDoorTie.lean); close each card by the builder's one call (the guide's Derived/Test/ToyasCard.lean, 'card_holds'). Laid BY PROGRAM, IN A SANDBOX (cutbox-door.mjs). By AI agents, Wed Nov 11 2026. No macro, syntax, notation, axiom, sorry.
-/
import Derived.Test.YtifefgdogdecnaaGreatDoorRows
import GoSem.ClaimSeven
namespace Go.Proofs.YtifefgdogdecnaaGreatDoor
namespace Rows

/-- THE TIED CARD OF 'wireschemalaw21.DiffCommons'. -/
def diffCommonsCard : Claim7 := { stood := { row := diffCommonsRow, standIns := [], harness := (true, "6e11f033e7a4d3c34a42324c03764162fe113c9cd1c0ac21a58d54662999399b"), looks := true }, kinds := [], alts := [], laidByText := true, laidKinds := [.data, .data, .data], laidTests := true, laidLooks := .later }
def DiffCommonsCardSaid : Prop := Claim7.holds Tryz.pinned (.plain (OpenSpec.ofChange diffCommonsSpec)) diffCommonsCard

/-- THE TIED CARD OF 'wireschemalaw21.DiffLongest'. -/
def diffLongestCard : Claim7 := { stood := { row := diffLongestRow, standIns := [], harness := (true, "6e11f033e7a4d3c34a42324c03764162fe113c9cd1c0ac21a58d54662999399b"), looks := true }, kinds := [], alts := [], laidByText := true, laidKinds := [.data, .data, .data], laidTests := true, laidLooks := .later }
def DiffLongestCardSaid : Prop := Claim7.holds Tryz.pinned (.plain (OpenSpec.ofChange diffLongestSpec)) diffLongestCard

/-- THE SECOND FORM's CARD OF 'wireschemalaw21.DiffCommons'. -/
def diffCommonsUptoCard : Claim7 := { stood := { row := diffCommonsUptoRow, standIns := [], harness := (true, "6e11f033e7a4d3c34a42324c03764162fe113c9cd1c0ac21a58d54662999399b"), looks := true }, kinds := [], alts := [], laidByText := true, laidKinds := [.data, .data, .data], laidTests := true, laidLooks := .later }
def DiffCommonsUptoCardSaid : Prop := Claim7.holds Tryz.pinned (.plain (OpenSpec.upto diffCommonsSpec)) diffCommonsUptoCard

/-- THE SECOND FORM's CARD OF 'wireschemalaw21.DiffLongest'. -/
def diffLongestUptoCard : Claim7 := { stood := { row := diffLongestUptoRow, standIns := [], harness := (true, "6e11f033e7a4d3c34a42324c03764162fe113c9cd1c0ac21a58d54662999399b"), looks := true }, kinds := [], alts := [], laidByText := true, laidKinds := [.data, .data, .data], laidTests := true, laidLooks := .later }
def DiffLongestUptoCardSaid : Prop := Claim7.holds Tryz.pinned (.plain (OpenSpec.upto diffLongestSpec)) diffLongestUptoCard
end Rows
end Go.Proofs.YtifefgdogdecnaaGreatDoor
