/-
  NARROWER THAN 'FOR EVERY INPUT', by the rows' own cells (each row's printed sentence says how): DescPaths: loops, laid · DescJoined: loops, laid · DescItems: loops, laid · DescFinds: loops, laid · DescFields: loops, laid · DescMethods: loops, laid · DescDefs: loops, laid.
  DERIVED. THE GIVEN ROWS OF THIS SEAT. 7 by the template 'for every input the law returns true; each argument reads behind the call as it read before'; 0 by the template 'total and deterministic' (their statements: YtdiibhcdfmeagaaDoorTotals.lean).
  GIVEN WITH THE SEED: the statements are not yours to turn. If you find one false, say at which input.
  Laid BY PROGRAM, IN A SANDBOX (cutbox-rows.mjs): the forced cells as the released guide's own fill.sh prints them over the translation ac0cb1918e002c96… (all of the seat's roots in one cut). By AI agents, Wed Nov 11 2026. No macro, syntax, notation, axiom, sorry.
-/
import Derived.Test.YtdiibhcdfmeagaaDoorChecked
import GoSem.PinnedTables
import GoSem.Claim
import GoSem.ClaimJoined
import GoSem.ClaimMapViews
import Derived.JoinedTies
import Derived.KernelRfl
namespace Go.Proofs.YtdiibhcdfmeagaaDoor
/- THE CELL 'sum', in the pinned program and in every row, IS THE sha256 OF THE DUMP (.gsa) THAT YtdiibhcdfmeagaaDoorProg.lean LOADS. Nothing in Lean hashes anything: it is a label: what it is worth is what the hold of that sum in a sandbox is worth. -/
noncomputable def Tryd.pinned : Pinned := { name := "ytdiibhcdfmeagaadoor", sum := "ac0cb1918e002c96463a955fb566e5c937cda26d940c592a59a9e406bca9652d", checked := Tryd.checked }
namespace Rows
def none {H : Type} : Left H := { results := [], args := [] }

/- WHAT THE LISTED PACKAGE-LEVEL VARIABLES READ AS WHEN THE CALL BEGINS. Each datum BY PROGRAM (the guide's laid-datum.mjs) off the statement by which the dump's own 'gosem.cut.vars' lays the variable. In a bare row this is a premise. The card (YtdiibhcdfmeagaaDoorCards.lean) ties it to the program's text. -/
def laid_unicode_utf8_acceptRanges {H : Type} : DataW H := .agg [.agg [.lit (.int .u8 128), .lit (.int .u8 191)], .agg [.lit (.int .u8 160), .lit (.int .u8 191)], .agg [.lit (.int .u8 128), .lit (.int .u8 159)], .agg [.lit (.int .u8 144), .lit (.int .u8 191)], .agg [.lit (.int .u8 128), .lit (.int .u8 143)], .agg [.lit (.int .u8 0), .lit (.int .u8 0)], .agg [.lit (.int .u8 0), .lit (.int .u8 0)], .agg [.lit (.int .u8 0), .lit (.int .u8 0)], .agg [.lit (.int .u8 0), .lit (.int .u8 0)], .agg [.lit (.int .u8 0), .lit (.int .u8 0)], .agg [.lit (.int .u8 0), .lit (.int .u8 0)], .agg [.lit (.int .u8 0), .lit (.int .u8 0)], .agg [.lit (.int .u8 0), .lit (.int .u8 0)], .agg [.lit (.int .u8 0), .lit (.int .u8 0)], .agg [.lit (.int .u8 0), .lit (.int .u8 0)], .agg [.lit (.int .u8 0), .lit (.int .u8 0)]]
/-- One of Go's own tables, pinned by name: the form's constant. -/
def laid_unicode_utf8_first : DataW Unit := Go.Pinned.utf8First

/-- 'wireschemalaw14.DescPaths': WHATEVER THE INPUT: true; the input reads as it did. -/
def descPathsSpec : ChangeSpec := { name := "descPaths", fn := fun _ => fun
  | [d1, d2, d3] => { results := [.lit (.bool true)], args := [d1, d2, d3] }
  | _ => none }
def descPathsRow : OpenClaim := { program := "ytdiibhcdfmeagaadoor", sum := "ac0cb1918e002c96463a955fb566e5c937cda26d940c592a59a9e406bca9652d", func := "wireschema/wireschemalaw14.DescPaths", spec := "descPaths", inPlace := ["internal/bytealg.CountString", "internal/bytealg.IndexByteString", "internal/bytealg.IndexString"], unfollowed := true, recurses := true, named := ["unicode/utf8.first", "unicode/utf8.acceptRanges", "internal/bytealg.MaxLen"], loops := true, apart := false, laid := [("unicode/utf8.acceptRanges", laid_unicode_utf8_acceptRanges), ("unicode/utf8.first", laid_unicode_utf8_first)] }
def DescPathsSaid : Prop := descPathsRow.holds Tryd.pinned (OpenSpec.ofChange descPathsSpec)

/-- ITS FALSE NEIGHBOUR: 'it returns false'. Refute it at one input. -/
def descPathsWrong : ChangeSpec := { name := "descPaths", fn := fun _ => fun
  | [d1, d2, d3] => { results := [.lit (.bool false)], args := [d1, d2, d3] }
  | _ => none }
def DescPathsWrongFalsely : Prop := descPathsRow.holds Tryd.pinned (OpenSpec.ofChange descPathsWrong)

/-- 'wireschemalaw14.DescJoined': WHATEVER THE INPUT: true; the input reads as it did. -/
def descJoinedSpec : ChangeSpec := { name := "descJoined", fn := fun _ => fun
  | [d1, d2, d3, d4] => { results := [.lit (.bool true)], args := [d1, d2, d3, d4] }
  | _ => none }
def descJoinedRow : OpenClaim := { program := "ytdiibhcdfmeagaadoor", sum := "ac0cb1918e002c96463a955fb566e5c937cda26d940c592a59a9e406bca9652d", func := "wireschema/wireschemalaw14.DescJoined", spec := "descJoined", inPlace := ["internal/bytealg.CountString", "internal/bytealg.IndexByteString", "internal/bytealg.IndexString"], unfollowed := true, recurses := true, named := ["unicode/utf8.first", "unicode/utf8.acceptRanges", "internal/bytealg.MaxLen"], loops := true, apart := false, laid := [("unicode/utf8.acceptRanges", laid_unicode_utf8_acceptRanges), ("unicode/utf8.first", laid_unicode_utf8_first)] }
def DescJoinedSaid : Prop := descJoinedRow.holds Tryd.pinned (OpenSpec.ofChange descJoinedSpec)

/-- ITS FALSE NEIGHBOUR: 'it returns false'. Refute it at one input. -/
def descJoinedWrong : ChangeSpec := { name := "descJoined", fn := fun _ => fun
  | [d1, d2, d3, d4] => { results := [.lit (.bool false)], args := [d1, d2, d3, d4] }
  | _ => none }
def DescJoinedWrongFalsely : Prop := descJoinedRow.holds Tryd.pinned (OpenSpec.ofChange descJoinedWrong)

/-- 'wireschemalaw14.DescItems': WHATEVER THE INPUT: true; the input reads as it did. -/
def descItemsSpec : ChangeSpec := { name := "descItems", fn := fun _ => fun
  | [d1, d2, d3] => { results := [.lit (.bool true)], args := [d1, d2, d3] }
  | _ => none }
def descItemsRow : OpenClaim := { program := "ytdiibhcdfmeagaadoor", sum := "ac0cb1918e002c96463a955fb566e5c937cda26d940c592a59a9e406bca9652d", func := "wireschema/wireschemalaw14.DescItems", spec := "descItems", inPlace := ["internal/bytealg.CountString", "internal/bytealg.IndexByteString", "internal/bytealg.IndexString"], unfollowed := true, recurses := true, named := ["unicode/utf8.first", "unicode/utf8.acceptRanges", "internal/bytealg.MaxLen"], loops := true, apart := false, laid := [("unicode/utf8.acceptRanges", laid_unicode_utf8_acceptRanges), ("unicode/utf8.first", laid_unicode_utf8_first)] }
def DescItemsSaid : Prop := descItemsRow.holds Tryd.pinned (OpenSpec.ofChange descItemsSpec)

/-- ITS FALSE NEIGHBOUR: 'it returns false'. Refute it at one input. -/
def descItemsWrong : ChangeSpec := { name := "descItems", fn := fun _ => fun
  | [d1, d2, d3] => { results := [.lit (.bool false)], args := [d1, d2, d3] }
  | _ => none }
def DescItemsWrongFalsely : Prop := descItemsRow.holds Tryd.pinned (OpenSpec.ofChange descItemsWrong)

/-- 'wireschemalaw14.DescFinds': WHATEVER THE INPUT: true; the input reads as it did. -/
def descFindsSpec : ChangeSpec := { name := "descFinds", fn := fun _ => fun
  | [d] => { results := [.lit (.bool true)], args := [d] }
  | _ => none }
def descFindsRow : OpenClaim := { program := "ytdiibhcdfmeagaadoor", sum := "ac0cb1918e002c96463a955fb566e5c937cda26d940c592a59a9e406bca9652d", func := "wireschema/wireschemalaw14.DescFinds", spec := "descFinds", inPlace := ["internal/bytealg.CountString", "internal/bytealg.IndexByteString", "internal/bytealg.IndexString"], unfollowed := true, recurses := true, named := ["unicode/utf8.first", "unicode/utf8.acceptRanges", "internal/bytealg.MaxLen"], loops := true, apart := false, laid := [("unicode/utf8.acceptRanges", laid_unicode_utf8_acceptRanges), ("unicode/utf8.first", laid_unicode_utf8_first)] }
def DescFindsSaid : Prop := descFindsRow.holds Tryd.pinned (OpenSpec.ofChange descFindsSpec)

/-- ITS FALSE NEIGHBOUR: 'it returns false'. Refute it at one input. -/
def descFindsWrong : ChangeSpec := { name := "descFinds", fn := fun _ => fun
  | [d] => { results := [.lit (.bool false)], args := [d] }
  | _ => none }
def DescFindsWrongFalsely : Prop := descFindsRow.holds Tryd.pinned (OpenSpec.ofChange descFindsWrong)

/-- 'wireschemalaw14.DescFields': WHATEVER THE INPUT: true; the input reads as it did. -/
def descFieldsSpec : ChangeSpec := { name := "descFields", fn := fun _ => fun
  | [d1, d2, d3] => { results := [.lit (.bool true)], args := [d1, d2, d3] }
  | _ => none }
def descFieldsRow : OpenClaim := { program := "ytdiibhcdfmeagaadoor", sum := "ac0cb1918e002c96463a955fb566e5c937cda26d940c592a59a9e406bca9652d", func := "wireschema/wireschemalaw14.DescFields", spec := "descFields", inPlace := ["internal/bytealg.CountString", "internal/bytealg.IndexByteString", "internal/bytealg.IndexString"], unfollowed := true, recurses := true, named := ["unicode/utf8.first", "unicode/utf8.acceptRanges", "internal/bytealg.MaxLen"], loops := true, apart := false, laid := [("unicode/utf8.acceptRanges", laid_unicode_utf8_acceptRanges), ("unicode/utf8.first", laid_unicode_utf8_first)] }
def DescFieldsSaid : Prop := descFieldsRow.holds Tryd.pinned (OpenSpec.ofChange descFieldsSpec)

/-- ITS FALSE NEIGHBOUR: 'it returns false'. Refute it at one input. -/
def descFieldsWrong : ChangeSpec := { name := "descFields", fn := fun _ => fun
  | [d1, d2, d3] => { results := [.lit (.bool false)], args := [d1, d2, d3] }
  | _ => none }
def DescFieldsWrongFalsely : Prop := descFieldsRow.holds Tryd.pinned (OpenSpec.ofChange descFieldsWrong)

/-- 'wireschemalaw14.DescMethods': WHATEVER THE INPUT: true; the input reads as it did. -/
def descMethodsSpec : ChangeSpec := { name := "descMethods", fn := fun _ => fun
  | [d1, d2, d3] => { results := [.lit (.bool true)], args := [d1, d2, d3] }
  | _ => none }
def descMethodsRow : OpenClaim := { program := "ytdiibhcdfmeagaadoor", sum := "ac0cb1918e002c96463a955fb566e5c937cda26d940c592a59a9e406bca9652d", func := "wireschema/wireschemalaw14.DescMethods", spec := "descMethods", inPlace := ["internal/bytealg.IndexByteString", "internal/bytealg.IndexString", "internal/bytealg.CountString"], unfollowed := true, recurses := true, named := ["internal/bytealg.MaxLen", "unicode/utf8.first", "unicode/utf8.acceptRanges"], loops := true, apart := false, laid := [("unicode/utf8.acceptRanges", laid_unicode_utf8_acceptRanges), ("unicode/utf8.first", laid_unicode_utf8_first)] }
def DescMethodsSaid : Prop := descMethodsRow.holds Tryd.pinned (OpenSpec.ofChange descMethodsSpec)

/-- ITS FALSE NEIGHBOUR: 'it returns false'. Refute it at one input. -/
def descMethodsWrong : ChangeSpec := { name := "descMethods", fn := fun _ => fun
  | [d1, d2, d3] => { results := [.lit (.bool false)], args := [d1, d2, d3] }
  | _ => none }
def DescMethodsWrongFalsely : Prop := descMethodsRow.holds Tryd.pinned (OpenSpec.ofChange descMethodsWrong)

/-- 'wireschemalaw14.DescDefs': WHATEVER THE INPUT: true; the input reads as it did. -/
def descDefsSpec : ChangeSpec := { name := "descDefs", fn := fun _ => fun
  | [d1, d2] => { results := [.lit (.bool true)], args := [d1, d2] }
  | _ => none }
def descDefsRow : OpenClaim := { program := "ytdiibhcdfmeagaadoor", sum := "ac0cb1918e002c96463a955fb566e5c937cda26d940c592a59a9e406bca9652d", func := "wireschema/wireschemalaw14.DescDefs", spec := "descDefs", inPlace := ["internal/bytealg.CountString", "internal/bytealg.IndexByteString", "internal/bytealg.IndexString"], unfollowed := true, recurses := true, named := ["unicode/utf8.first", "unicode/utf8.acceptRanges", "internal/bytealg.MaxLen"], loops := true, apart := false, laid := [("unicode/utf8.acceptRanges", laid_unicode_utf8_acceptRanges), ("unicode/utf8.first", laid_unicode_utf8_first)] }
def DescDefsSaid : Prop := descDefsRow.holds Tryd.pinned (OpenSpec.ofChange descDefsSpec)

/-- ITS FALSE NEIGHBOUR: 'it returns false'. Refute it at one input. -/
def descDefsWrong : ChangeSpec := { name := "descDefs", fn := fun _ => fun
  | [d1, d2] => { results := [.lit (.bool false)], args := [d1, d2] }
  | _ => none }
def DescDefsWrongFalsely : Prop := descDefsRow.holds Tryd.pinned (OpenSpec.ofChange descDefsWrong)

/- THE SECOND FORM. 'bulk': how many values and letters a reading holds, each counted each time it is reached (what is shared counts as often as it is met; a slice's spare places count too). A statement '..UptoSaid' is the law's where the arguments, and the package variables that the reading takes, are together of bulk at most 1048576: NARROWER than '..Said'. Prove '..Said' where nothing that the law and all that it calls make is longer than what came in: it says more and counts as full. Else prove '..UptoSaid'. A law counts once. -/
mutual
def uptoBulk {H : Type} : DataW H → Nat
  | .lit (.string bytes) => bytes.length + 1
  | .lit _ => 1
  | .nil => 1
  | .ptr d => uptoBulk d + 1
  | .slice elems spare => uptoBulkAll elems + uptoBulkAll spare + 1
  | .agg parts => uptoBulkAll parts + 1
  | .iface _ d => uptoBulk d + 1
  | .map entries => uptoBulkEntries entries + 1
  | .held _ => 1
def uptoBulkAll {H : Type} : List (DataW H) → Nat
  | [] => 0
  | d :: r => uptoBulk d + uptoBulkAll r
def uptoBulkEntries {H : Type} : List (Lit × DataW H) → Nat
  | [] => 0
  | x :: r => uptoBulkEntry x + uptoBulkEntries r
def uptoBulkEntry {H : Type} : Lit × DataW H → Nat
  | (.string bytes, d) => bytes.length + uptoBulk d + 1
  | (_, d) => uptoBulk d + 1
 end
def uptoSmall : (H : Type) → List (DataW H) → Bool := fun _ ds => decide (uptoBulkAll ds ≤ 1048576)
def OpenSpec.upto (s : _root_.Go.ChangeSpec) : _root_.Go.OpenSpec := { _root_.Go.OpenSpec.ofChange s with cond := some uptoSmall }

/-- 'wireschemalaw14.DescPaths', WHERE WHAT IT READS IS OF BULK AT MOST 1048576: true; the input reads as it did. -/
def descPathsUptoRow : OpenClaim := { program := "ytdiibhcdfmeagaadoor", sum := "ac0cb1918e002c96463a955fb566e5c937cda26d940c592a59a9e406bca9652d", func := "wireschema/wireschemalaw14.DescPaths", spec := "descPaths", inPlace := ["internal/bytealg.CountString", "internal/bytealg.IndexByteString", "internal/bytealg.IndexString"], unfollowed := true, recurses := true, named := ["unicode/utf8.first", "unicode/utf8.acceptRanges", "internal/bytealg.MaxLen"], loops := true, apart := false, laid := [("unicode/utf8.acceptRanges", laid_unicode_utf8_acceptRanges), ("unicode/utf8.first", laid_unicode_utf8_first)], narrowed := true }
def DescPathsUptoSaid : Prop := descPathsUptoRow.holds Tryd.pinned (OpenSpec.upto descPathsSpec)

/-- 'wireschemalaw14.DescJoined', WHERE WHAT IT READS IS OF BULK AT MOST 1048576: true; the input reads as it did. -/
def descJoinedUptoRow : OpenClaim := { program := "ytdiibhcdfmeagaadoor", sum := "ac0cb1918e002c96463a955fb566e5c937cda26d940c592a59a9e406bca9652d", func := "wireschema/wireschemalaw14.DescJoined", spec := "descJoined", inPlace := ["internal/bytealg.CountString", "internal/bytealg.IndexByteString", "internal/bytealg.IndexString"], unfollowed := true, recurses := true, named := ["unicode/utf8.first", "unicode/utf8.acceptRanges", "internal/bytealg.MaxLen"], loops := true, apart := false, laid := [("unicode/utf8.acceptRanges", laid_unicode_utf8_acceptRanges), ("unicode/utf8.first", laid_unicode_utf8_first)], narrowed := true }
def DescJoinedUptoSaid : Prop := descJoinedUptoRow.holds Tryd.pinned (OpenSpec.upto descJoinedSpec)

/-- 'wireschemalaw14.DescItems', WHERE WHAT IT READS IS OF BULK AT MOST 1048576: true; the input reads as it did. -/
def descItemsUptoRow : OpenClaim := { program := "ytdiibhcdfmeagaadoor", sum := "ac0cb1918e002c96463a955fb566e5c937cda26d940c592a59a9e406bca9652d", func := "wireschema/wireschemalaw14.DescItems", spec := "descItems", inPlace := ["internal/bytealg.CountString", "internal/bytealg.IndexByteString", "internal/bytealg.IndexString"], unfollowed := true, recurses := true, named := ["unicode/utf8.first", "unicode/utf8.acceptRanges", "internal/bytealg.MaxLen"], loops := true, apart := false, laid := [("unicode/utf8.acceptRanges", laid_unicode_utf8_acceptRanges), ("unicode/utf8.first", laid_unicode_utf8_first)], narrowed := true }
def DescItemsUptoSaid : Prop := descItemsUptoRow.holds Tryd.pinned (OpenSpec.upto descItemsSpec)

/-- 'wireschemalaw14.DescFinds', WHERE WHAT IT READS IS OF BULK AT MOST 1048576: true; the input reads as it did. -/
def descFindsUptoRow : OpenClaim := { program := "ytdiibhcdfmeagaadoor", sum := "ac0cb1918e002c96463a955fb566e5c937cda26d940c592a59a9e406bca9652d", func := "wireschema/wireschemalaw14.DescFinds", spec := "descFinds", inPlace := ["internal/bytealg.CountString", "internal/bytealg.IndexByteString", "internal/bytealg.IndexString"], unfollowed := true, recurses := true, named := ["unicode/utf8.first", "unicode/utf8.acceptRanges", "internal/bytealg.MaxLen"], loops := true, apart := false, laid := [("unicode/utf8.acceptRanges", laid_unicode_utf8_acceptRanges), ("unicode/utf8.first", laid_unicode_utf8_first)], narrowed := true }
def DescFindsUptoSaid : Prop := descFindsUptoRow.holds Tryd.pinned (OpenSpec.upto descFindsSpec)

/-- 'wireschemalaw14.DescFields', WHERE WHAT IT READS IS OF BULK AT MOST 1048576: true; the input reads as it did. -/
def descFieldsUptoRow : OpenClaim := { program := "ytdiibhcdfmeagaadoor", sum := "ac0cb1918e002c96463a955fb566e5c937cda26d940c592a59a9e406bca9652d", func := "wireschema/wireschemalaw14.DescFields", spec := "descFields", inPlace := ["internal/bytealg.CountString", "internal/bytealg.IndexByteString", "internal/bytealg.IndexString"], unfollowed := true, recurses := true, named := ["unicode/utf8.first", "unicode/utf8.acceptRanges", "internal/bytealg.MaxLen"], loops := true, apart := false, laid := [("unicode/utf8.acceptRanges", laid_unicode_utf8_acceptRanges), ("unicode/utf8.first", laid_unicode_utf8_first)], narrowed := true }
def DescFieldsUptoSaid : Prop := descFieldsUptoRow.holds Tryd.pinned (OpenSpec.upto descFieldsSpec)

/-- 'wireschemalaw14.DescMethods', WHERE WHAT IT READS IS OF BULK AT MOST 1048576: true; the input reads as it did. -/
def descMethodsUptoRow : OpenClaim := { program := "ytdiibhcdfmeagaadoor", sum := "ac0cb1918e002c96463a955fb566e5c937cda26d940c592a59a9e406bca9652d", func := "wireschema/wireschemalaw14.DescMethods", spec := "descMethods", inPlace := ["internal/bytealg.IndexByteString", "internal/bytealg.IndexString", "internal/bytealg.CountString"], unfollowed := true, recurses := true, named := ["internal/bytealg.MaxLen", "unicode/utf8.first", "unicode/utf8.acceptRanges"], loops := true, apart := false, laid := [("unicode/utf8.acceptRanges", laid_unicode_utf8_acceptRanges), ("unicode/utf8.first", laid_unicode_utf8_first)], narrowed := true }
def DescMethodsUptoSaid : Prop := descMethodsUptoRow.holds Tryd.pinned (OpenSpec.upto descMethodsSpec)

/-- 'wireschemalaw14.DescDefs', WHERE WHAT IT READS IS OF BULK AT MOST 1048576: true; the input reads as it did. -/
def descDefsUptoRow : OpenClaim := { program := "ytdiibhcdfmeagaadoor", sum := "ac0cb1918e002c96463a955fb566e5c937cda26d940c592a59a9e406bca9652d", func := "wireschema/wireschemalaw14.DescDefs", spec := "descDefs", inPlace := ["internal/bytealg.CountString", "internal/bytealg.IndexByteString", "internal/bytealg.IndexString"], unfollowed := true, recurses := true, named := ["unicode/utf8.first", "unicode/utf8.acceptRanges", "internal/bytealg.MaxLen"], loops := true, apart := false, laid := [("unicode/utf8.acceptRanges", laid_unicode_utf8_acceptRanges), ("unicode/utf8.first", laid_unicode_utf8_first)], narrowed := true }
def DescDefsUptoSaid : Prop := descDefsUptoRow.holds Tryd.pinned (OpenSpec.upto descDefsSpec)

end Rows
end Go.Proofs.YtdiibhcdfmeagaaDoor
