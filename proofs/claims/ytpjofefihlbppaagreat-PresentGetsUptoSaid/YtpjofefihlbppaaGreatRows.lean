/-
  NARROWER THAN 'FOR EVERY INPUT', by the rows' own cells (each row's printed sentence says how): PresentGets: loops · PresentUnions: loops.
  DERIVED. THE GIVEN ROWS OF THIS SEAT. 2 by the template 'for every input the law returns true; each argument reads behind the call as it read before'; 0 by the template 'total and deterministic' (their statements: YtpjofefihlbppaaGreatTotals.lean).
  GIVEN WITH THE SEED: the statements are not yours to turn. If you find one false, say at which input.
  Laid BY PROGRAM, IN A SANDBOX (cutbox-rows.mjs): the forced cells as the released guide's own fill.sh prints them over the translation 48f887b7c33cd913… (all of the seat's roots in one cut). By AI agents, Wed Nov 11 2026. No macro, syntax, notation, axiom, sorry.
-/
import Derived.Test.YtpjofefihlbppaaGreatChecked
import GoSem.Claim
import GoSem.ClaimJoined
import GoSem.ClaimMapViews
import Derived.JoinedTies
import Derived.KernelRfl
namespace Go.Proofs.YtpjofefihlbppaaGreat
/- THE CELL 'sum', in the pinned program and in every row, IS THE sha256 OF THE DUMP (.gsa) THAT YtpjofefihlbppaaGreatProg.lean LOADS. Nothing in Lean hashes anything: it is a label: what it is worth is what the hold of that sum in a sandbox is worth. -/
noncomputable def Tryz.pinned : Pinned := { name := "ytpjofefihlbppaagreat", sum := "48f887b7c33cd913d1d35e030cf855fe3a6102eac4f05127eee909d3f852c24c", checked := Tryz.checked }
namespace Rows
def none {H : Type} : Left H := { results := [], args := [] }

/-- 'wireschemalaw18.PresentGets': WHATEVER THE INPUT: true; the input reads as it did. -/
def presentGetsSpec : ChangeSpec := { name := "presentGets", fn := fun _ => fun
  | [d1, d2, d3, d4] => { results := [.lit (.bool true)], args := [d1, d2, d3, d4] }
  | _ => none }
def presentGetsRow : OpenClaim := { program := "ytpjofefihlbppaagreat", sum := "48f887b7c33cd913d1d35e030cf855fe3a6102eac4f05127eee909d3f852c24c", func := "wireschema/wireschemalaw18.PresentGets", spec := "presentGets", inPlace := ["slices.overlaps[wireschema/api.Slot]"], unfollowed := true, recurses := true, loops := true, apart := false }
def PresentGetsSaid : Prop := presentGetsRow.holds Tryz.pinned (OpenSpec.ofChange presentGetsSpec)

/-- ITS FALSE NEIGHBOUR: 'it returns false'. Refute it at one input. -/
def presentGetsWrong : ChangeSpec := { name := "presentGets", fn := fun _ => fun
  | [d1, d2, d3, d4] => { results := [.lit (.bool false)], args := [d1, d2, d3, d4] }
  | _ => none }
def PresentGetsWrongFalsely : Prop := presentGetsRow.holds Tryz.pinned (OpenSpec.ofChange presentGetsWrong)

/-- 'wireschemalaw18.PresentUnions': WHATEVER THE INPUT: true; the input reads as it did. -/
def presentUnionsSpec : ChangeSpec := { name := "presentUnions", fn := fun _ => fun
  | [d1, d2, d3, d4] => { results := [.lit (.bool true)], args := [d1, d2, d3, d4] }
  | _ => none }
def presentUnionsRow : OpenClaim := { program := "ytpjofefihlbppaagreat", sum := "48f887b7c33cd913d1d35e030cf855fe3a6102eac4f05127eee909d3f852c24c", func := "wireschema/wireschemalaw18.PresentUnions", spec := "presentUnions", inPlace := ["slices.overlaps[wireschema/api.Slot]"], unfollowed := true, recurses := true, loops := true, apart := false }
def PresentUnionsSaid : Prop := presentUnionsRow.holds Tryz.pinned (OpenSpec.ofChange presentUnionsSpec)

/-- ITS FALSE NEIGHBOUR: 'it returns false'. Refute it at one input. -/
def presentUnionsWrong : ChangeSpec := { name := "presentUnions", fn := fun _ => fun
  | [d1, d2, d3, d4] => { results := [.lit (.bool false)], args := [d1, d2, d3, d4] }
  | _ => none }
def PresentUnionsWrongFalsely : Prop := presentUnionsRow.holds Tryz.pinned (OpenSpec.ofChange presentUnionsWrong)

/- THE SECOND FORM. 'bulk': how many values and letters a reading holds, each counted each time it is reached (what is shared counts as often as it is met; a slice's spare places count too). A statement '..UptoSaid' is the law's where the arguments, and the package variables that the reading takes, are together of bulk at most 1048576: NARROWER than '..Said'. Prove '..Said' where nothing that the law and all that it calls make is longer than what came in: it says more and counts as full. Else prove '..UptoSaid'. A law counts once. -/
mutual
def uptoBulk {H : Type} : DataW H → Nat
  | .lit (.string bytes) => bytes.length + 1
  | .lit _ => 1
  | .nil => 1
  | .ptr d => uptoBulk d + 1
  | .slice elems spare => uptoBulkAll elems + uptoBulkAll spare + 1
  | .agg parts => uptoBulkAll parts + 1
  | .iface _ d => uptoBulk d + 1
  | .map entries => uptoBulkEntries entries + 1
  | .held _ => 1
def uptoBulkAll {H : Type} : List (DataW H) → Nat
  | [] => 0
  | d :: r => uptoBulk d + uptoBulkAll r
def uptoBulkEntries {H : Type} : List (Lit × DataW H) → Nat
  | [] => 0
  | x :: r => uptoBulkEntry x + uptoBulkEntries r
def uptoBulkEntry {H : Type} : Lit × DataW H → Nat
  | (.string bytes, d) => bytes.length + uptoBulk d + 1
  | (_, d) => uptoBulk d + 1
 end
def uptoSmall : (H : Type) → List (DataW H) → Bool := fun _ ds => decide (uptoBulkAll ds ≤ 1048576)
def OpenSpec.upto (s : _root_.Go.ChangeSpec) : _root_.Go.OpenSpec := { _root_.Go.OpenSpec.ofChange s with cond := some uptoSmall }

/-- 'wireschemalaw18.PresentGets', WHERE WHAT IT READS IS OF BULK AT MOST 1048576: true; the input reads as it did. -/
def presentGetsUptoRow : OpenClaim := { program := "ytpjofefihlbppaagreat", sum := "48f887b7c33cd913d1d35e030cf855fe3a6102eac4f05127eee909d3f852c24c", func := "wireschema/wireschemalaw18.PresentGets", spec := "presentGets", inPlace := ["slices.overlaps[wireschema/api.Slot]"], unfollowed := true, recurses := true, loops := true, apart := false, narrowed := true }
def PresentGetsUptoSaid : Prop := presentGetsUptoRow.holds Tryz.pinned (OpenSpec.upto presentGetsSpec)

/-- 'wireschemalaw18.PresentUnions', WHERE WHAT IT READS IS OF BULK AT MOST 1048576: true; the input reads as it did. -/
def presentUnionsUptoRow : OpenClaim := { program := "ytpjofefihlbppaagreat", sum := "48f887b7c33cd913d1d35e030cf855fe3a6102eac4f05127eee909d3f852c24c", func := "wireschema/wireschemalaw18.PresentUnions", spec := "presentUnions", inPlace := ["slices.overlaps[wireschema/api.Slot]"], unfollowed := true, recurses := true, loops := true, apart := false, narrowed := true }
def PresentUnionsUptoSaid : Prop := presentUnionsUptoRow.holds Tryz.pinned (OpenSpec.upto presentUnionsSpec)

end Rows
end Go.Proofs.YtpjofefihlbppaaGreat
