/-
  DERIVED. GIVEN WITH THE SEED: THE CARDS: each row of YtalafnjhcecdpaaGreatDoorRows.lean that lists a variable, with what it lists TIED to the program's text (the seventh form; the later family's looks); each row that meets fmt, with fmt's text TOLD by the authors' own Lean function (tested against real Go, not proved from fmt's source: count such statements apart). THE CARD IS WHAT COUNTS. Prove the row's statement (the work); the ties are given (YtalafnjhcecdpaaGreatDoorTie.lean); close each card by the builder's one call (the guide's Derived/Test/ToyasCard.lean, 'card_holds'). Laid BY PROGRAM, IN A SANDBOX (cutbox-door.mjs). By AI agents, Wed Nov 11 2026. No macro, syntax, notation, axiom, sorry.
-/
import Derived.Test.YtalafnjhcecdpaaGreatDoorRows
import GoSem.ClaimSeven
namespace Go.Proofs.YtalafnjhcecdpaaGreatDoor
namespace Rows

/-- THE TIED CARD OF 'wireschemalaw17.ValueNorms'. -/
def valueNormsCard : Claim7 := { stood := { row := valueNormsRow, standIns := [], harness := (true, "155f1f94300b39eb564f28134a709b5a3f9c869be48d96d3e55dde4b92fba821"), looks := true }, kinds := [], alts := [], laidByText := true, laidKinds := [.data, .data, .data], laidTests := true, laidLooks := .later }
def ValueNormsCardSaid : Prop := Claim7.holds Tryz.pinned (.plain (OpenSpec.ofChange valueNormsSpec)) valueNormsCard

/-- THE TIED CARD OF 'wireschemalaw17.ValueNormal'. -/
def valueNormalCard : Claim7 := { stood := { row := valueNormalRow, standIns := [], harness := (true, "155f1f94300b39eb564f28134a709b5a3f9c869be48d96d3e55dde4b92fba821"), looks := true }, kinds := [], alts := [], laidByText := true, laidKinds := [.data, .data, .data], laidTests := true, laidLooks := .later }
def ValueNormalCardSaid : Prop := Claim7.holds Tryz.pinned (.plain (OpenSpec.ofChange valueNormalSpec)) valueNormalCard

/-- THE TIED CARD OF 'wireschemalaw17.ValueTurned'. -/
def valueTurnedCard : Claim7 := { stood := { row := valueTurnedRow, standIns := [], harness := (true, "155f1f94300b39eb564f28134a709b5a3f9c869be48d96d3e55dde4b92fba821"), looks := true }, kinds := [], alts := [], laidByText := true, laidKinds := [.data, .data, .data], laidTests := true, laidLooks := .later }
def ValueTurnedCardSaid : Prop := Claim7.holds Tryz.pinned (.plain (OpenSpec.ofChange valueTurnedSpec)) valueTurnedCard

/-- THE TIED CARD OF 'wireschemalaw17.ValueCounts'. -/
def valueCountsCard : Claim7 := { stood := { row := valueCountsRow, standIns := [], harness := (true, "155f1f94300b39eb564f28134a709b5a3f9c869be48d96d3e55dde4b92fba821"), looks := true }, kinds := [], alts := [], laidByText := true, laidKinds := [.data, .data, .data], laidTests := true, laidLooks := .later }
def ValueCountsCardSaid : Prop := Claim7.holds Tryz.pinned (.plain (OpenSpec.ofChange valueCountsSpec)) valueCountsCard

/-- THE SECOND FORM's CARD OF 'wireschemalaw17.ValueNorms'. -/
def valueNormsUptoCard : Claim7 := { stood := { row := valueNormsUptoRow, standIns := [], harness := (true, "155f1f94300b39eb564f28134a709b5a3f9c869be48d96d3e55dde4b92fba821"), looks := true }, kinds := [], alts := [], laidByText := true, laidKinds := [.data, .data, .data], laidTests := true, laidLooks := .later }
def ValueNormsUptoCardSaid : Prop := Claim7.holds Tryz.pinned (.plain (OpenSpec.upto valueNormsSpec)) valueNormsUptoCard

/-- THE SECOND FORM's CARD OF 'wireschemalaw17.ValueNormal'. -/
def valueNormalUptoCard : Claim7 := { stood := { row := valueNormalUptoRow, standIns := [], harness := (true, "155f1f94300b39eb564f28134a709b5a3f9c869be48d96d3e55dde4b92fba821"), looks := true }, kinds := [], alts := [], laidByText := true, laidKinds := [.data, .data, .data], laidTests := true, laidLooks := .later }
def ValueNormalUptoCardSaid : Prop := Claim7.holds Tryz.pinned (.plain (OpenSpec.upto valueNormalSpec)) valueNormalUptoCard

/-- THE SECOND FORM's CARD OF 'wireschemalaw17.ValueTurned'. -/
def valueTurnedUptoCard : Claim7 := { stood := { row := valueTurnedUptoRow, standIns := [], harness := (true, "155f1f94300b39eb564f28134a709b5a3f9c869be48d96d3e55dde4b92fba821"), looks := true }, kinds := [], alts := [], laidByText := true, laidKinds := [.data, .data, .data], laidTests := true, laidLooks := .later }
def ValueTurnedUptoCardSaid : Prop := Claim7.holds Tryz.pinned (.plain (OpenSpec.upto valueTurnedSpec)) valueTurnedUptoCard

/-- THE SECOND FORM's CARD OF 'wireschemalaw17.ValueCounts'. -/
def valueCountsUptoCard : Claim7 := { stood := { row := valueCountsUptoRow, standIns := [], harness := (true, "155f1f94300b39eb564f28134a709b5a3f9c869be48d96d3e55dde4b92fba821"), looks := true }, kinds := [], alts := [], laidByText := true, laidKinds := [.data, .data, .data], laidTests := true, laidLooks := .later }
def ValueCountsUptoCardSaid : Prop := Claim7.holds Tryz.pinned (.plain (OpenSpec.upto valueCountsSpec)) valueCountsUptoCard
end Rows
end Go.Proofs.YtalafnjhcecdpaaGreatDoor
