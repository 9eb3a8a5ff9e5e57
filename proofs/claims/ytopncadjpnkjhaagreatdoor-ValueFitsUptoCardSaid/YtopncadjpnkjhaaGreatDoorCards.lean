/-
  DERIVED. GIVEN WITH THE SEED: THE CARDS: each row of YtopncadjpnkjhaaGreatDoorRows.lean that lists a variable, with what it lists TIED to the program's text (the seventh form; the later family's looks); each row that meets fmt, with fmt's text TOLD by the authors' own Lean function (tested against real Go, not proved from fmt's source: count such statements apart). THE CARD IS WHAT COUNTS. Prove the row's statement (the work); the ties are given (YtopncadjpnkjhaaGreatDoorTie.lean); close each card by the builder's one call (the guide's Derived/Test/ToyasCard.lean, 'card_holds'). Laid BY PROGRAM, IN A SANDBOX (cutbox-door.mjs). By AI agents, Wed Nov 11 2026. No macro, syntax, notation, axiom, sorry.
-/
import Derived.Test.YtopncadjpnkjhaaGreatDoorRows
import GoSem.ClaimSeven
namespace Go.Proofs.YtopncadjpnkjhaaGreatDoor
namespace Rows

/-- THE TIED CARD OF 'wireschemalaw17.ValueChecks'. -/
def valueChecksCard : Claim7 := { stood := { row := valueChecksRow, standIns := [], harness := (true, "8518400a8a0dad19d0b81e4852e891246166ac37bdfac461dda04026e87194c1"), looks := true }, kinds := [], alts := [], laidByText := true, laidKinds := [.data, .data, .data], laidTests := true, laidLooks := .later }
def ValueChecksCardSaid : Prop := Claim7.holds Tryz.pinned (.plain (OpenSpec.ofChange valueChecksSpec)) valueChecksCard

/-- THE TIED CARD OF 'wireschemalaw17.ValueFits'. -/
def valueFitsCard : Claim7 := { stood := { row := valueFitsRow, standIns := [], harness := (true, "8518400a8a0dad19d0b81e4852e891246166ac37bdfac461dda04026e87194c1"), looks := true }, kinds := [], alts := [], laidByText := true, laidKinds := [.data, .data, .data], laidTests := true, laidLooks := .later }
def ValueFitsCardSaid : Prop := Claim7.holds Tryz.pinned (.plain (OpenSpec.ofChange valueFitsSpec)) valueFitsCard

/-- THE TIED CARD OF 'wireschemalaw17.ValueNests'. -/
def valueNestsCard : Claim7 := { stood := { row := valueNestsRow, standIns := [], harness := (true, "8518400a8a0dad19d0b81e4852e891246166ac37bdfac461dda04026e87194c1"), looks := true }, kinds := [], alts := [], laidByText := true, laidKinds := [.data, .data, .data], laidTests := true, laidLooks := .later }
def ValueNestsCardSaid : Prop := Claim7.holds Tryz.pinned (.plain (OpenSpec.ofChange valueNestsSpec)) valueNestsCard

/-- THE SECOND FORM's CARD OF 'wireschemalaw17.ValueChecks'. -/
def valueChecksUptoCard : Claim7 := { stood := { row := valueChecksUptoRow, standIns := [], harness := (true, "8518400a8a0dad19d0b81e4852e891246166ac37bdfac461dda04026e87194c1"), looks := true }, kinds := [], alts := [], laidByText := true, laidKinds := [.data, .data, .data], laidTests := true, laidLooks := .later }
def ValueChecksUptoCardSaid : Prop := Claim7.holds Tryz.pinned (.plain (OpenSpec.upto valueChecksSpec)) valueChecksUptoCard

/-- THE SECOND FORM's CARD OF 'wireschemalaw17.ValueFits'. -/
def valueFitsUptoCard : Claim7 := { stood := { row := valueFitsUptoRow, standIns := [], harness := (true, "8518400a8a0dad19d0b81e4852e891246166ac37bdfac461dda04026e87194c1"), looks := true }, kinds := [], alts := [], laidByText := true, laidKinds := [.data, .data, .data], laidTests := true, laidLooks := .later }
def ValueFitsUptoCardSaid : Prop := Claim7.holds Tryz.pinned (.plain (OpenSpec.upto valueFitsSpec)) valueFitsUptoCard

/-- THE SECOND FORM's CARD OF 'wireschemalaw17.ValueNests'. -/
def valueNestsUptoCard : Claim7 := { stood := { row := valueNestsUptoRow, standIns := [], harness := (true, "8518400a8a0dad19d0b81e4852e891246166ac37bdfac461dda04026e87194c1"), looks := true }, kinds := [], alts := [], laidByText := true, laidKinds := [.data, .data, .data], laidTests := true, laidLooks := .later }
def ValueNestsUptoCardSaid : Prop := Claim7.holds Tryz.pinned (.plain (OpenSpec.upto valueNestsSpec)) valueNestsUptoCard
end Rows
end Go.Proofs.YtopncadjpnkjhaaGreatDoor
