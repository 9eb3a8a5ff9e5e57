/-
  NARROWER THAN 'FOR EVERY INPUT', by the rows' own cells (each row's printed sentence says how): PresentLeasts: loops · PresentFills: loops · PresentStrips: loops.
  DERIVED. THE GIVEN ROWS OF THIS SEAT. 3 by the template 'for every input the law returns true; each argument reads behind the call as it read before'; 0 by the template 'total and deterministic' (their statements: YtchkcemlglpobaaGreatTotals.lean).
  GIVEN WITH THE SEED: the statements are not yours to turn. If you find one false, say at which input.
  Laid BY PROGRAM, IN A SANDBOX (cutbox-rows.mjs): the forced cells as the released guide's own fill.sh prints them over the translation 0172a034aafb82c7… (all of the seat's roots in one cut). By AI agents, Wed Nov 11 2026. No macro, syntax, notation, axiom, sorry.
-/
import Derived.Test.YtchkcemlglpobaaGreatChecked
import GoSem.Claim
import GoSem.ClaimJoined
import GoSem.ClaimMapViews
import Derived.JoinedTies
import Derived.KernelRfl
namespace Go.Proofs.YtchkcemlglpobaaGreat
/- THE CELL 'sum', in the pinned program and in every row, IS THE sha256 OF THE DUMP (.gsa) THAT YtchkcemlglpobaaGreatProg.lean LOADS. Nothing in Lean hashes anything: it is a label: what it is worth is what the hold of that sum in a sandbox is worth. -/
noncomputable def Tryz.pinned : Pinned := { name := "ytchkcemlglpobaagreat", sum := "0172a034aafb82c7f1c4513044b08b86a80ba6efed6c93e27cff3980c2b8851f", checked := Tryz.checked }
namespace Rows
def none {H : Type} : Left H := { results := [], args := [] }

/-- 'wireschemalaw18.PresentLeasts': WHATEVER THE INPUT: true; the input reads as it did. -/
def presentLeastsSpec : ChangeSpec := { name := "presentLeasts", fn := fun _ => fun
  | [d1, d2] => { results := [.lit (.bool true)], args := [d1, d2] }
  | _ => none }
def presentLeastsRow : OpenClaim := { program := "ytchkcemlglpobaagreat", sum := "0172a034aafb82c7f1c4513044b08b86a80ba6efed6c93e27cff3980c2b8851f", func := "wireschema/wireschemalaw18.PresentLeasts", spec := "presentLeasts", inPlace := ["slices.overlaps[wireschema/api.Slot]"], unfollowed := true, recurses := true, loops := true, apart := false }
def PresentLeastsSaid : Prop := presentLeastsRow.holds Tryz.pinned (OpenSpec.ofChange presentLeastsSpec)

/-- ITS FALSE NEIGHBOUR: 'it returns false'. Refute it at one input. -/
def presentLeastsWrong : ChangeSpec := { name := "presentLeasts", fn := fun _ => fun
  | [d1, d2] => { results := [.lit (.bool false)], args := [d1, d2] }
  | _ => none }
def PresentLeastsWrongFalsely : Prop := presentLeastsRow.holds Tryz.pinned (OpenSpec.ofChange presentLeastsWrong)

/-- 'wireschemalaw18.PresentFills': WHATEVER THE INPUT: true; the input reads as it did. -/
def presentFillsSpec : ChangeSpec := { name := "presentFills", fn := fun _ => fun
  | [d1, d2, d3] => { results := [.lit (.bool true)], args := [d1, d2, d3] }
  | _ => none }
def presentFillsRow : OpenClaim := { program := "ytchkcemlglpobaagreat", sum := "0172a034aafb82c7f1c4513044b08b86a80ba6efed6c93e27cff3980c2b8851f", func := "wireschema/wireschemalaw18.PresentFills", spec := "presentFills", inPlace := ["slices.overlaps[wireschema/api.Slot]"], unfollowed := true, recurses := true, loops := true, apart := false }
def PresentFillsSaid : Prop := presentFillsRow.holds Tryz.pinned (OpenSpec.ofChange presentFillsSpec)

/-- ITS FALSE NEIGHBOUR: 'it returns false'. Refute it at one input. -/
def presentFillsWrong : ChangeSpec := { name := "presentFills", fn := fun _ => fun
  | [d1, d2, d3] => { results := [.lit (.bool false)], args := [d1, d2, d3] }
  | _ => none }
def PresentFillsWrongFalsely : Prop := presentFillsRow.holds Tryz.pinned (OpenSpec.ofChange presentFillsWrong)

/-- 'wireschemalaw18.PresentStrips': WHATEVER THE INPUT: true; the input reads as it did. -/
def presentStripsSpec : ChangeSpec := { name := "presentStrips", fn := fun _ => fun
  | [d1, d2, d3] => { results := [.lit (.bool true)], args := [d1, d2, d3] }
  | _ => none }
def presentStripsRow : OpenClaim := { program := "ytchkcemlglpobaagreat", sum := "0172a034aafb82c7f1c4513044b08b86a80ba6efed6c93e27cff3980c2b8851f", func := "wireschema/wireschemalaw18.PresentStrips", spec := "presentStrips", inPlace := ["slices.overlaps[wireschema/api.Slot]"], unfollowed := true, recurses := true, loops := true, apart := false }
def PresentStripsSaid : Prop := presentStripsRow.holds Tryz.pinned (OpenSpec.ofChange presentStripsSpec)

/-- ITS FALSE NEIGHBOUR: 'it returns false'. Refute it at one input. -/
def presentStripsWrong : ChangeSpec := { name := "presentStrips", fn := fun _ => fun
  | [d1, d2, d3] => { results := [.lit (.bool false)], args := [d1, d2, d3] }
  | _ => none }
def PresentStripsWrongFalsely : Prop := presentStripsRow.holds Tryz.pinned (OpenSpec.ofChange presentStripsWrong)

/- THE SECOND FORM. 'bulk': how many values and letters a reading holds, each counted each time it is reached (what is shared counts as often as it is met; a slice's spare places count too). A statement '..UptoSaid' is the law's where the arguments, and the package variables that the reading takes, are together of bulk at most 1048576: NARROWER than '..Said'. Prove '..Said' where nothing that the law and all that it calls make is longer than what came in: it says more and counts as full. Else prove '..UptoSaid'. A law counts once. -/
mutual
def uptoBulk {H : Type} : DataW H → Nat
  | .lit (.string bytes) => bytes.length + 1
  | .lit _ => 1
  | .nil => 1
  | .ptr d => uptoBulk d + 1
  | .slice elems spare => uptoBulkAll elems + uptoBulkAll spare + 1
  | .agg parts => uptoBulkAll parts + 1
  | .iface _ d => uptoBulk d + 1
  | .map entries => uptoBulkEntries entries + 1
  | .held _ => 1
def uptoBulkAll {H : Type} : List (DataW H) → Nat
  | [] => 0
  | d :: r => uptoBulk d + uptoBulkAll r
def uptoBulkEntries {H : Type} : List (Lit × DataW H) → Nat
  | [] => 0
  | x :: r => uptoBulkEntry x + uptoBulkEntries r
def uptoBulkEntry {H : Type} : Lit × DataW H → Nat
  | (.string bytes, d) => bytes.length + uptoBulk d + 1
  | (_, d) => uptoBulk d + 1
 end
def uptoSmall : (H : Type) → List (DataW H) → Bool := fun _ ds => decide (uptoBulkAll ds ≤ 1048576)
def OpenSpec.upto (s : _root_.Go.ChangeSpec) : _root_.Go.OpenSpec := { _root_.Go.OpenSpec.ofChange s with cond := some uptoSmall }

/-- 'wireschemalaw18.PresentLeasts', WHERE WHAT IT READS IS OF BULK AT MOST 1048576: true; the input reads as it did. -/
def presentLeastsUptoRow : OpenClaim := { program := "ytchkcemlglpobaagreat", sum := "0172a034aafb82c7f1c4513044b08b86a80ba6efed6c93e27cff3980c2b8851f", func := "wireschema/wireschemalaw18.PresentLeasts", spec := "presentLeasts", inPlace := ["slices.overlaps[wireschema/api.Slot]"], unfollowed := true, recurses := true, loops := true, apart := false, narrowed := true }
def PresentLeastsUptoSaid : Prop := presentLeastsUptoRow.holds Tryz.pinned (OpenSpec.upto presentLeastsSpec)

/-- 'wireschemalaw18.PresentFills', WHERE WHAT IT READS IS OF BULK AT MOST 1048576: true; the input reads as it did. -/
def presentFillsUptoRow : OpenClaim := { program := "ytchkcemlglpobaagreat", sum := "0172a034aafb82c7f1c4513044b08b86a80ba6efed6c93e27cff3980c2b8851f", func := "wireschema/wireschemalaw18.PresentFills", spec := "presentFills", inPlace := ["slices.overlaps[wireschema/api.Slot]"], unfollowed := true, recurses := true, loops := true, apart := false, narrowed := true }
def PresentFillsUptoSaid : Prop := presentFillsUptoRow.holds Tryz.pinned (OpenSpec.upto presentFillsSpec)

/-- 'wireschemalaw18.PresentStrips', WHERE WHAT IT READS IS OF BULK AT MOST 1048576: true; the input reads as it did. -/
def presentStripsUptoRow : OpenClaim := { program := "ytchkcemlglpobaagreat", sum := "0172a034aafb82c7f1c4513044b08b86a80ba6efed6c93e27cff3980c2b8851f", func := "wireschema/wireschemalaw18.PresentStrips", spec := "presentStrips", inPlace := ["slices.overlaps[wireschema/api.Slot]"], unfollowed := true, recurses := true, loops := true, apart := false, narrowed := true }
def PresentStripsUptoSaid : Prop := presentStripsUptoRow.holds Tryz.pinned (OpenSpec.upto presentStripsSpec)

end Rows
end Go.Proofs.YtchkcemlglpobaaGreat
