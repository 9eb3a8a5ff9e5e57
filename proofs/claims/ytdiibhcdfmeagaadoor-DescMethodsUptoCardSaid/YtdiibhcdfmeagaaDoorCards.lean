/-
  DERIVED. GIVEN WITH THE SEED: THE CARDS: each row of YtdiibhcdfmeagaaDoorRows.lean that lists a variable, with what it lists TIED to the program's text (the seventh form; the later family's looks); each row that meets fmt, with fmt's text TOLD by the authors' own Lean function (tested against real Go, not proved from fmt's source: count such statements apart). THE CARD IS WHAT COUNTS. Prove the row's statement (the work); the ties are given (YtdiibhcdfmeagaaDoorTie.lean); close each card by the builder's one call (the guide's Derived/Test/ToyasCard.lean, 'card_holds'). Laid BY PROGRAM, IN A SANDBOX (cutbox-door.mjs). By AI agents, Wed Nov 11 2026. No macro, syntax, notation, axiom, sorry.
-/
import Derived.Test.YtdiibhcdfmeagaaDoorRows
import GoSem.ClaimSeven
namespace Go.Proofs.YtdiibhcdfmeagaaDoor
namespace Rows

/-- THE TIED CARD OF 'wireschemalaw14.DescPaths'. -/
def descPathsCard : Claim7 := { stood := { row := descPathsRow, standIns := [], harness := (true, "d45013df8e415330295f6c33abb18684cf819c29d06194349d3f11ab2bec692c"), looks := false }, kinds := [], alts := [], laidByText := true, laidKinds := [.data, .pinned], laidTests := true, laidLooks := .later }
def DescPathsCardSaid : Prop := Claim7.holds Tryd.pinned (.plain (OpenSpec.ofChange descPathsSpec)) descPathsCard

/-- THE TIED CARD OF 'wireschemalaw14.DescJoined'. -/
def descJoinedCard : Claim7 := { stood := { row := descJoinedRow, standIns := [], harness := (true, "d45013df8e415330295f6c33abb18684cf819c29d06194349d3f11ab2bec692c"), looks := false }, kinds := [], alts := [], laidByText := true, laidKinds := [.data, .pinned], laidTests := true, laidLooks := .later }
def DescJoinedCardSaid : Prop := Claim7.holds Tryd.pinned (.plain (OpenSpec.ofChange descJoinedSpec)) descJoinedCard

/-- THE TIED CARD OF 'wireschemalaw14.DescItems'. -/
def descItemsCard : Claim7 := { stood := { row := descItemsRow, standIns := [], harness := (true, "d45013df8e415330295f6c33abb18684cf819c29d06194349d3f11ab2bec692c"), looks := false }, kinds := [], alts := [], laidByText := true, laidKinds := [.data, .pinned], laidTests := true, laidLooks := .later }
def DescItemsCardSaid : Prop := Claim7.holds Tryd.pinned (.plain (OpenSpec.ofChange descItemsSpec)) descItemsCard

/-- THE TIED CARD OF 'wireschemalaw14.DescFinds'. -/
def descFindsCard : Claim7 := { stood := { row := descFindsRow, standIns := [], harness := (true, "d45013df8e415330295f6c33abb18684cf819c29d06194349d3f11ab2bec692c"), looks := false }, kinds := [], alts := [], laidByText := true, laidKinds := [.data, .pinned], laidTests := true, laidLooks := .later }
def DescFindsCardSaid : Prop := Claim7.holds Tryd.pinned (.plain (OpenSpec.ofChange descFindsSpec)) descFindsCard

/-- THE TIED CARD OF 'wireschemalaw14.DescFields'. -/
def descFieldsCard : Claim7 := { stood := { row := descFieldsRow, standIns := [], harness := (true, "d45013df8e415330295f6c33abb18684cf819c29d06194349d3f11ab2bec692c"), looks := false }, kinds := [], alts := [], laidByText := true, laidKinds := [.data, .pinned], laidTests := true, laidLooks := .later }
def DescFieldsCardSaid : Prop := Claim7.holds Tryd.pinned (.plain (OpenSpec.ofChange descFieldsSpec)) descFieldsCard

/-- THE TIED CARD OF 'wireschemalaw14.DescMethods'. -/
def descMethodsCard : Claim7 := { stood := { row := descMethodsRow, standIns := [], harness := (true, "d45013df8e415330295f6c33abb18684cf819c29d06194349d3f11ab2bec692c"), looks := false }, kinds := [], alts := [], laidByText := true, laidKinds := [.data, .pinned], laidTests := true, laidLooks := .later }
def DescMethodsCardSaid : Prop := Claim7.holds Tryd.pinned (.plain (OpenSpec.ofChange descMethodsSpec)) descMethodsCard

/-- THE TIED CARD OF 'wireschemalaw14.DescDefs'. -/
def descDefsCard : Claim7 := { stood := { row := descDefsRow, standIns := [], harness := (true, "d45013df8e415330295f6c33abb18684cf819c29d06194349d3f11ab2bec692c"), looks := false }, kinds := [], alts := [], laidByText := true, laidKinds := [.data, .pinned], laidTests := true, laidLooks := .later }
def DescDefsCardSaid : Prop := Claim7.holds Tryd.pinned (.plain (OpenSpec.ofChange descDefsSpec)) descDefsCard

/-- THE SECOND FORM's CARD OF 'wireschemalaw14.DescPaths'. -/
def descPathsUptoCard : Claim7 := { stood := { row := descPathsUptoRow, standIns := [], harness := (true, "d45013df8e415330295f6c33abb18684cf819c29d06194349d3f11ab2bec692c"), looks := false }, kinds := [], alts := [], laidByText := true, laidKinds := [.data, .pinned], laidTests := true, laidLooks := .later }
def DescPathsUptoCardSaid : Prop := Claim7.holds Tryd.pinned (.plain (OpenSpec.upto descPathsSpec)) descPathsUptoCard

/-- THE SECOND FORM's CARD OF 'wireschemalaw14.DescJoined'. -/
def descJoinedUptoCard : Claim7 := { stood := { row := descJoinedUptoRow, standIns := [], harness := (true, "d45013df8e415330295f6c33abb18684cf819c29d06194349d3f11ab2bec692c"), looks := false }, kinds := [], alts := [], laidByText := true, laidKinds := [.data, .pinned], laidTests := true, laidLooks := .later }
def DescJoinedUptoCardSaid : Prop := Claim7.holds Tryd.pinned (.plain (OpenSpec.upto descJoinedSpec)) descJoinedUptoCard

/-- THE SECOND FORM's CARD OF 'wireschemalaw14.DescItems'. -/
def descItemsUptoCard : Claim7 := { stood := { row := descItemsUptoRow, standIns := [], harness := (true, "d45013df8e415330295f6c33abb18684cf819c29d06194349d3f11ab2bec692c"), looks := false }, kinds := [], alts := [], laidByText := true, laidKinds := [.data, .pinned], laidTests := true, laidLooks := .later }
def DescItemsUptoCardSaid : Prop := Claim7.holds Tryd.pinned (.plain (OpenSpec.upto descItemsSpec)) descItemsUptoCard

/-- THE SECOND FORM's CARD OF 'wireschemalaw14.DescFinds'. -/
def descFindsUptoCard : Claim7 := { stood := { row := descFindsUptoRow, standIns := [], harness := (true, "d45013df8e415330295f6c33abb18684cf819c29d06194349d3f11ab2bec692c"), looks := false }, kinds := [], alts := [], laidByText := true, laidKinds := [.data, .pinned], laidTests := true, laidLooks := .later }
def DescFindsUptoCardSaid : Prop := Claim7.holds Tryd.pinned (.plain (OpenSpec.upto descFindsSpec)) descFindsUptoCard

/-- THE SECOND FORM's CARD OF 'wireschemalaw14.DescFields'. -/
def descFieldsUptoCard : Claim7 := { stood := { row := descFieldsUptoRow, standIns := [], harness := (true, "d45013df8e415330295f6c33abb18684cf819c29d06194349d3f11ab2bec692c"), looks := false }, kinds := [], alts := [], laidByText := true, laidKinds := [.data, .pinned], laidTests := true, laidLooks := .later }
def DescFieldsUptoCardSaid : Prop := Claim7.holds Tryd.pinned (.plain (OpenSpec.upto descFieldsSpec)) descFieldsUptoCard

/-- THE SECOND FORM's CARD OF 'wireschemalaw14.DescMethods'. -/
def descMethodsUptoCard : Claim7 := { stood := { row := descMethodsUptoRow, standIns := [], harness := (true, "d45013df8e415330295f6c33abb18684cf819c29d06194349d3f11ab2bec692c"), looks := false }, kinds := [], alts := [], laidByText := true, laidKinds := [.data, .pinned], laidTests := true, laidLooks := .later }
def DescMethodsUptoCardSaid : Prop := Claim7.holds Tryd.pinned (.plain (OpenSpec.upto descMethodsSpec)) descMethodsUptoCard

/-- THE SECOND FORM's CARD OF 'wireschemalaw14.DescDefs'. -/
def descDefsUptoCard : Claim7 := { stood := { row := descDefsUptoRow, standIns := [], harness := (true, "d45013df8e415330295f6c33abb18684cf819c29d06194349d3f11ab2bec692c"), looks := false }, kinds := [], alts := [], laidByText := true, laidKinds := [.data, .pinned], laidTests := true, laidLooks := .later }
def DescDefsUptoCardSaid : Prop := Claim7.holds Tryd.pinned (.plain (OpenSpec.upto descDefsSpec)) descDefsUptoCard
end Rows
end Go.Proofs.YtdiibhcdfmeagaaDoor
