/-
  NARROWER THAN 'FOR EVERY INPUT', by the rows' own cells (each row's printed sentence says how): LinkRuns: loops · LinkResolves: loops · LinkTurns: loops · LinkOrders: loops · LinkOnly: loops · LinkNames: loops.
  DERIVED. THE GIVEN ROWS OF THIS SEAT. 6 by the template 'for every input the law returns true; each argument reads behind the call as it read before'; 0 by the template 'total and deterministic' (their statements: YthagpbkmakocjaaTotals.lean).
  GIVEN WITH THE SEED: the statements are not yours to turn. If you find one false, say at which input.
  Laid BY PROGRAM, IN A SANDBOX (cutbox-rows.mjs): the forced cells as the released guide's own fill.sh prints them over the translation 9255bd112f55be8c… (all of the seat's roots in one cut). By AI agents, Wed Nov 11 2026. No macro, syntax, notation, axiom, sorry.
-/
import Derived.Test.YthagpbkmakocjaaChecked
import GoSem.Claim
import GoSem.ClaimJoined
import GoSem.ClaimMapViews
import Derived.JoinedTies
import Derived.KernelRfl
namespace Go.Proofs.Ythagpbkmakocjaa
/- THE CELL 'sum', in the pinned program and in every row, IS THE sha256 OF THE DUMP (.gsa) THAT YthagpbkmakocjaaProg.lean LOADS. Nothing in Lean hashes anything: it is a label: what it is worth is what the hold of that sum in a sandbox is worth. -/
noncomputable def Try.pinned : Pinned := { name := "ythagpbkmakocjaa", sum := "9255bd112f55be8ca0e97302948512fa33cba9d9e92ba1c80f3af44614f61dd4", checked := Try.checked }
namespace Rows
def none {H : Type} : Left H := { results := [], args := [] }

/-- 'wireschemalaw11.LinkRuns': WHATEVER THE INPUT: true; the input reads as it did. -/
def linkRunsSpec : ChangeSpec := { name := "linkRuns", fn := fun _ => fun
  | [d] => { results := [.lit (.bool true)], args := [d] }
  | _ => none }
def linkRunsRow : OpenClaim := { program := "ythagpbkmakocjaa", sum := "9255bd112f55be8ca0e97302948512fa33cba9d9e92ba1c80f3af44614f61dd4", func := "wireschema/wireschemalaw11.LinkRuns", spec := "linkRuns", unfollowed := true, recurses := true, loops := true, apart := false }
def LinkRunsSaid : Prop := linkRunsRow.holds Try.pinned (OpenSpec.ofChange linkRunsSpec)

/-- ITS FALSE NEIGHBOUR: 'it returns false'. Refute it at one input. -/
def linkRunsWrong : ChangeSpec := { name := "linkRuns", fn := fun _ => fun
  | [d] => { results := [.lit (.bool false)], args := [d] }
  | _ => none }
def LinkRunsWrongFalsely : Prop := linkRunsRow.holds Try.pinned (OpenSpec.ofChange linkRunsWrong)

/-- 'wireschemalaw11.LinkResolves': WHATEVER THE INPUT: true; the input reads as it did. -/
def linkResolvesSpec : ChangeSpec := { name := "linkResolves", fn := fun _ => fun
  | [d] => { results := [.lit (.bool true)], args := [d] }
  | _ => none }
def linkResolvesRow : OpenClaim := { program := "ythagpbkmakocjaa", sum := "9255bd112f55be8ca0e97302948512fa33cba9d9e92ba1c80f3af44614f61dd4", func := "wireschema/wireschemalaw11.LinkResolves", spec := "linkResolves", unfollowed := true, recurses := true, loops := true, apart := false }
def LinkResolvesSaid : Prop := linkResolvesRow.holds Try.pinned (OpenSpec.ofChange linkResolvesSpec)

/-- ITS FALSE NEIGHBOUR: 'it returns false'. Refute it at one input. -/
def linkResolvesWrong : ChangeSpec := { name := "linkResolves", fn := fun _ => fun
  | [d] => { results := [.lit (.bool false)], args := [d] }
  | _ => none }
def LinkResolvesWrongFalsely : Prop := linkResolvesRow.holds Try.pinned (OpenSpec.ofChange linkResolvesWrong)

/-- 'wireschemalaw11.LinkTurns': WHATEVER THE INPUT: true; the input reads as it did. -/
def linkTurnsSpec : ChangeSpec := { name := "linkTurns", fn := fun _ => fun
  | [d] => { results := [.lit (.bool true)], args := [d] }
  | _ => none }
def linkTurnsRow : OpenClaim := { program := "ythagpbkmakocjaa", sum := "9255bd112f55be8ca0e97302948512fa33cba9d9e92ba1c80f3af44614f61dd4", func := "wireschema/wireschemalaw11.LinkTurns", spec := "linkTurns", unfollowed := true, recurses := true, loops := true, apart := false }
def LinkTurnsSaid : Prop := linkTurnsRow.holds Try.pinned (OpenSpec.ofChange linkTurnsSpec)

/-- ITS FALSE NEIGHBOUR: 'it returns false'. Refute it at one input. -/
def linkTurnsWrong : ChangeSpec := { name := "linkTurns", fn := fun _ => fun
  | [d] => { results := [.lit (.bool false)], args := [d] }
  | _ => none }
def LinkTurnsWrongFalsely : Prop := linkTurnsRow.holds Try.pinned (OpenSpec.ofChange linkTurnsWrong)

/-- 'wireschemalaw11.LinkOrders': WHATEVER THE INPUT: true; the input reads as it did. -/
def linkOrdersSpec : ChangeSpec := { name := "linkOrders", fn := fun _ => fun
  | [d] => { results := [.lit (.bool true)], args := [d] }
  | _ => none }
def linkOrdersRow : OpenClaim := { program := "ythagpbkmakocjaa", sum := "9255bd112f55be8ca0e97302948512fa33cba9d9e92ba1c80f3af44614f61dd4", func := "wireschema/wireschemalaw11.LinkOrders", spec := "linkOrders", unfollowed := true, recurses := true, loops := true, apart := false }
def LinkOrdersSaid : Prop := linkOrdersRow.holds Try.pinned (OpenSpec.ofChange linkOrdersSpec)

/-- ITS FALSE NEIGHBOUR: 'it returns false'. Refute it at one input. -/
def linkOrdersWrong : ChangeSpec := { name := "linkOrders", fn := fun _ => fun
  | [d] => { results := [.lit (.bool false)], args := [d] }
  | _ => none }
def LinkOrdersWrongFalsely : Prop := linkOrdersRow.holds Try.pinned (OpenSpec.ofChange linkOrdersWrong)

/-- 'wireschemalaw11.LinkOnly': WHATEVER THE INPUT: true; the input reads as it did. -/
def linkOnlySpec : ChangeSpec := { name := "linkOnly", fn := fun _ => fun
  | [d1, d2] => { results := [.lit (.bool true)], args := [d1, d2] }
  | _ => none }
def linkOnlyRow : OpenClaim := { program := "ythagpbkmakocjaa", sum := "9255bd112f55be8ca0e97302948512fa33cba9d9e92ba1c80f3af44614f61dd4", func := "wireschema/wireschemalaw11.LinkOnly", spec := "linkOnly", unfollowed := true, recurses := true, loops := true, apart := false }
def LinkOnlySaid : Prop := linkOnlyRow.holds Try.pinned (OpenSpec.ofChange linkOnlySpec)

/-- ITS FALSE NEIGHBOUR: 'it returns false'. Refute it at one input. -/
def linkOnlyWrong : ChangeSpec := { name := "linkOnly", fn := fun _ => fun
  | [d1, d2] => { results := [.lit (.bool false)], args := [d1, d2] }
  | _ => none }
def LinkOnlyWrongFalsely : Prop := linkOnlyRow.holds Try.pinned (OpenSpec.ofChange linkOnlyWrong)

/-- 'wireschemalaw11.LinkNames': WHATEVER THE INPUT: true; the input reads as it did. -/
def linkNamesSpec : ChangeSpec := { name := "linkNames", fn := fun _ => fun
  | [d] => { results := [.lit (.bool true)], args := [d] }
  | _ => none }
def linkNamesRow : OpenClaim := { program := "ythagpbkmakocjaa", sum := "9255bd112f55be8ca0e97302948512fa33cba9d9e92ba1c80f3af44614f61dd4", func := "wireschema/wireschemalaw11.LinkNames", spec := "linkNames", unfollowed := true, recurses := true, loops := true, apart := false }
def LinkNamesSaid : Prop := linkNamesRow.holds Try.pinned (OpenSpec.ofChange linkNamesSpec)

/-- ITS FALSE NEIGHBOUR: 'it returns false'. Refute it at one input. -/
def linkNamesWrong : ChangeSpec := { name := "linkNames", fn := fun _ => fun
  | [d] => { results := [.lit (.bool false)], args := [d] }
  | _ => none }
def LinkNamesWrongFalsely : Prop := linkNamesRow.holds Try.pinned (OpenSpec.ofChange linkNamesWrong)

/- THE SECOND FORM. 'bulk': how many values and letters a reading holds, each counted each time it is reached (what is shared counts as often as it is met; a slice's spare places count too). A statement '..UptoSaid' is the law's where the arguments, and the package variables that the reading takes, are together of bulk at most 1048576: NARROWER than '..Said'. Prove '..Said' where nothing that the law and all that it calls make is longer than what came in: it says more and counts as full. Else prove '..UptoSaid'. A law counts once. -/
mutual
def uptoBulk {H : Type} : DataW H → Nat
  | .lit (.string bytes) => bytes.length + 1
  | .lit _ => 1
  | .nil => 1
  | .ptr d => uptoBulk d + 1
  | .slice elems spare => uptoBulkAll elems + uptoBulkAll spare + 1
  | .agg parts => uptoBulkAll parts + 1
  | .iface _ d => uptoBulk d + 1
  | .map entries => uptoBulkEntries entries + 1
  | .held _ => 1
def uptoBulkAll {H : Type} : List (DataW H) → Nat
  | [] => 0
  | d :: r => uptoBulk d + uptoBulkAll r
def uptoBulkEntries {H : Type} : List (Lit × DataW H) → Nat
  | [] => 0
  | x :: r => uptoBulkEntry x + uptoBulkEntries r
def uptoBulkEntry {H : Type} : Lit × DataW H → Nat
  | (.string bytes, d) => bytes.length + uptoBulk d + 1
  | (_, d) => uptoBulk d + 1
 end
def uptoSmall : (H : Type) → List (DataW H) → Bool := fun _ ds => decide (uptoBulkAll ds ≤ 1048576)
def OpenSpec.upto (s : _root_.Go.ChangeSpec) : _root_.Go.OpenSpec := { _root_.Go.OpenSpec.ofChange s with cond := some uptoSmall }

/-- 'wireschemalaw11.LinkRuns', WHERE WHAT IT READS IS OF BULK AT MOST 1048576: true; the input reads as it did. -/
def linkRunsUptoRow : OpenClaim := { program := "ythagpbkmakocjaa", sum := "9255bd112f55be8ca0e97302948512fa33cba9d9e92ba1c80f3af44614f61dd4", func := "wireschema/wireschemalaw11.LinkRuns", spec := "linkRuns", unfollowed := true, recurses := true, loops := true, apart := false, narrowed := true }
def LinkRunsUptoSaid : Prop := linkRunsUptoRow.holds Try.pinned (OpenSpec.upto linkRunsSpec)

/-- 'wireschemalaw11.LinkResolves', WHERE WHAT IT READS IS OF BULK AT MOST 1048576: true; the input reads as it did. -/
def linkResolvesUptoRow : OpenClaim := { program := "ythagpbkmakocjaa", sum := "9255bd112f55be8ca0e97302948512fa33cba9d9e92ba1c80f3af44614f61dd4", func := "wireschema/wireschemalaw11.LinkResolves", spec := "linkResolves", unfollowed := true, recurses := true, loops := true, apart := false, narrowed := true }
def LinkResolvesUptoSaid : Prop := linkResolvesUptoRow.holds Try.pinned (OpenSpec.upto linkResolvesSpec)

/-- 'wireschemalaw11.LinkTurns', WHERE WHAT IT READS IS OF BULK AT MOST 1048576: true; the input reads as it did. -/
def linkTurnsUptoRow : OpenClaim := { program := "ythagpbkmakocjaa", sum := "9255bd112f55be8ca0e97302948512fa33cba9d9e92ba1c80f3af44614f61dd4", func := "wireschema/wireschemalaw11.LinkTurns", spec := "linkTurns", unfollowed := true, recurses := true, loops := true, apart := false, narrowed := true }
def LinkTurnsUptoSaid : Prop := linkTurnsUptoRow.holds Try.pinned (OpenSpec.upto linkTurnsSpec)

/-- 'wireschemalaw11.LinkOrders', WHERE WHAT IT READS IS OF BULK AT MOST 1048576: true; the input reads as it did. -/
def linkOrdersUptoRow : OpenClaim := { program := "ythagpbkmakocjaa", sum := "9255bd112f55be8ca0e97302948512fa33cba9d9e92ba1c80f3af44614f61dd4", func := "wireschema/wireschemalaw11.LinkOrders", spec := "linkOrders", unfollowed := true, recurses := true, loops := true, apart := false, narrowed := true }
def LinkOrdersUptoSaid : Prop := linkOrdersUptoRow.holds Try.pinned (OpenSpec.upto linkOrdersSpec)

/-- 'wireschemalaw11.LinkOnly', WHERE WHAT IT READS IS OF BULK AT MOST 1048576: true; the input reads as it did. -/
def linkOnlyUptoRow : OpenClaim := { program := "ythagpbkmakocjaa", sum := "9255bd112f55be8ca0e97302948512fa33cba9d9e92ba1c80f3af44614f61dd4", func := "wireschema/wireschemalaw11.LinkOnly", spec := "linkOnly", unfollowed := true, recurses := true, loops := true, apart := false, narrowed := true }
def LinkOnlyUptoSaid : Prop := linkOnlyUptoRow.holds Try.pinned (OpenSpec.upto linkOnlySpec)

/-- 'wireschemalaw11.LinkNames', WHERE WHAT IT READS IS OF BULK AT MOST 1048576: true; the input reads as it did. -/
def linkNamesUptoRow : OpenClaim := { program := "ythagpbkmakocjaa", sum := "9255bd112f55be8ca0e97302948512fa33cba9d9e92ba1c80f3af44614f61dd4", func := "wireschema/wireschemalaw11.LinkNames", spec := "linkNames", unfollowed := true, recurses := true, loops := true, apart := false, narrowed := true }
def LinkNamesUptoSaid : Prop := linkNamesUptoRow.holds Try.pinned (OpenSpec.upto linkNamesSpec)

end Rows
end Go.Proofs.Ythagpbkmakocjaa
