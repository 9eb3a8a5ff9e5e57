/-
  NARROWER THAN 'FOR EVERY INPUT', by the rows' own cells (each row's printed sentence says how): GraphGroups: loops · GraphPaths: loops · GraphFinite: loops · GraphPartition: loops · GraphHeights: loops · GraphLeads: loops · GraphUses: loops · GraphClosed: loops.
  DERIVED. THE GIVEN ROWS OF THIS SEAT. 8 by the template 'for every input the law returns true; each argument reads behind the call as it read before'; 0 by the template 'total and deterministic' (their statements: YthhipejbnbochaaTotals.lean).
  GIVEN WITH THE SEED: the statements are not yours to turn. If you find one false, say at which input.
  Laid BY PROGRAM, IN A SANDBOX (cutbox-rows.mjs): the forced cells as the released guide's own fill.sh prints them over the translation 675210d158937c4d… (all of the seat's roots in one cut). By AI agents, Wed Nov 11 2026. No macro, syntax, notation, axiom, sorry.
-/
import Derived.Test.YthhipejbnbochaaChecked
import GoSem.Claim
import GoSem.ClaimJoined
import GoSem.ClaimMapViews
import Derived.JoinedTies
import Derived.KernelRfl
namespace Go.Proofs.Ythhipejbnbochaa
/- THE CELL 'sum', in the pinned program and in every row, IS THE sha256 OF THE DUMP (.gsa) THAT YthhipejbnbochaaProg.lean LOADS. Nothing in Lean hashes anything: it is a label: what it is worth is what the hold of that sum in a sandbox is worth. -/
noncomputable def Try.pinned : Pinned := { name := "ythhipejbnbochaa", sum := "675210d158937c4db6f805537a450cf8cd78ff8ed72e6dbe42d1d96f736b217f", checked := Try.checked }
namespace Rows
def none {H : Type} : Left H := { results := [], args := [] }

/-- 'wireschemalaw13.GraphGroups': WHATEVER THE INPUT: true; the input reads as it did. -/
def graphGroupsSpec : ChangeSpec := { name := "graphGroups", fn := fun _ => fun
  | [d] => { results := [.lit (.bool true)], args := [d] }
  | _ => none }
def graphGroupsRow : OpenClaim := { program := "ythhipejbnbochaa", sum := "675210d158937c4db6f805537a450cf8cd78ff8ed72e6dbe42d1d96f736b217f", func := "wireschema/wireschemalaw13.GraphGroups", spec := "graphGroups", unfollowed := true, recurses := true, loops := true, apart := false }
def GraphGroupsSaid : Prop := graphGroupsRow.holds Try.pinned (OpenSpec.ofChange graphGroupsSpec)

/-- ITS FALSE NEIGHBOUR: 'it returns false'. Refute it at one input. -/
def graphGroupsWrong : ChangeSpec := { name := "graphGroups", fn := fun _ => fun
  | [d] => { results := [.lit (.bool false)], args := [d] }
  | _ => none }
def GraphGroupsWrongFalsely : Prop := graphGroupsRow.holds Try.pinned (OpenSpec.ofChange graphGroupsWrong)

/-- 'wireschemalaw13.GraphPaths': WHATEVER THE INPUT: true; the input reads as it did. -/
def graphPathsSpec : ChangeSpec := { name := "graphPaths", fn := fun _ => fun
  | [d1, d2, d3] => { results := [.lit (.bool true)], args := [d1, d2, d3] }
  | _ => none }
def graphPathsRow : OpenClaim := { program := "ythhipejbnbochaa", sum := "675210d158937c4db6f805537a450cf8cd78ff8ed72e6dbe42d1d96f736b217f", func := "wireschema/wireschemalaw13.GraphPaths", spec := "graphPaths", unfollowed := true, recurses := true, loops := true, apart := false }
def GraphPathsSaid : Prop := graphPathsRow.holds Try.pinned (OpenSpec.ofChange graphPathsSpec)

/-- ITS FALSE NEIGHBOUR: 'it returns false'. Refute it at one input. -/
def graphPathsWrong : ChangeSpec := { name := "graphPaths", fn := fun _ => fun
  | [d1, d2, d3] => { results := [.lit (.bool false)], args := [d1, d2, d3] }
  | _ => none }
def GraphPathsWrongFalsely : Prop := graphPathsRow.holds Try.pinned (OpenSpec.ofChange graphPathsWrong)

/-- 'wireschemalaw13.GraphFinite': WHATEVER THE INPUT: true; the input reads as it did. -/
def graphFiniteSpec : ChangeSpec := { name := "graphFinite", fn := fun _ => fun
  | [d] => { results := [.lit (.bool true)], args := [d] }
  | _ => none }
def graphFiniteRow : OpenClaim := { program := "ythhipejbnbochaa", sum := "675210d158937c4db6f805537a450cf8cd78ff8ed72e6dbe42d1d96f736b217f", func := "wireschema/wireschemalaw13.GraphFinite", spec := "graphFinite", unfollowed := true, recurses := true, loops := true, apart := false }
def GraphFiniteSaid : Prop := graphFiniteRow.holds Try.pinned (OpenSpec.ofChange graphFiniteSpec)

/-- ITS FALSE NEIGHBOUR: 'it returns false'. Refute it at one input. -/
def graphFiniteWrong : ChangeSpec := { name := "graphFinite", fn := fun _ => fun
  | [d] => { results := [.lit (.bool false)], args := [d] }
  | _ => none }
def GraphFiniteWrongFalsely : Prop := graphFiniteRow.holds Try.pinned (OpenSpec.ofChange graphFiniteWrong)

/-- 'wireschemalaw13.GraphPartition': WHATEVER THE INPUT: true; the input reads as it did. -/
def graphPartitionSpec : ChangeSpec := { name := "graphPartition", fn := fun _ => fun
  | [d] => { results := [.lit (.bool true)], args := [d] }
  | _ => none }
def graphPartitionRow : OpenClaim := { program := "ythhipejbnbochaa", sum := "675210d158937c4db6f805537a450cf8cd78ff8ed72e6dbe42d1d96f736b217f", func := "wireschema/wireschemalaw13.GraphPartition", spec := "graphPartition", unfollowed := true, recurses := true, loops := true, apart := false }
def GraphPartitionSaid : Prop := graphPartitionRow.holds Try.pinned (OpenSpec.ofChange graphPartitionSpec)

/-- ITS FALSE NEIGHBOUR: 'it returns false'. Refute it at one input. -/
def graphPartitionWrong : ChangeSpec := { name := "graphPartition", fn := fun _ => fun
  | [d] => { results := [.lit (.bool false)], args := [d] }
  | _ => none }
def GraphPartitionWrongFalsely : Prop := graphPartitionRow.holds Try.pinned (OpenSpec.ofChange graphPartitionWrong)

/-- 'wireschemalaw13.GraphHeights': WHATEVER THE INPUT: true; the input reads as it did. -/
def graphHeightsSpec : ChangeSpec := { name := "graphHeights", fn := fun _ => fun
  | [d1, d2] => { results := [.lit (.bool true)], args := [d1, d2] }
  | _ => none }
def graphHeightsRow : OpenClaim := { program := "ythhipejbnbochaa", sum := "675210d158937c4db6f805537a450cf8cd78ff8ed72e6dbe42d1d96f736b217f", func := "wireschema/wireschemalaw13.GraphHeights", spec := "graphHeights", unfollowed := true, recurses := true, loops := true, apart := false }
def GraphHeightsSaid : Prop := graphHeightsRow.holds Try.pinned (OpenSpec.ofChange graphHeightsSpec)

/-- ITS FALSE NEIGHBOUR: 'it returns false'. Refute it at one input. -/
def graphHeightsWrong : ChangeSpec := { name := "graphHeights", fn := fun _ => fun
  | [d1, d2] => { results := [.lit (.bool false)], args := [d1, d2] }
  | _ => none }
def GraphHeightsWrongFalsely : Prop := graphHeightsRow.holds Try.pinned (OpenSpec.ofChange graphHeightsWrong)

/-- 'wireschemalaw13.GraphLeads': WHATEVER THE INPUT: true; the input reads as it did. -/
def graphLeadsSpec : ChangeSpec := { name := "graphLeads", fn := fun _ => fun
  | [d1, d2, d3] => { results := [.lit (.bool true)], args := [d1, d2, d3] }
  | _ => none }
def graphLeadsRow : OpenClaim := { program := "ythhipejbnbochaa", sum := "675210d158937c4db6f805537a450cf8cd78ff8ed72e6dbe42d1d96f736b217f", func := "wireschema/wireschemalaw13.GraphLeads", spec := "graphLeads", unfollowed := true, recurses := true, loops := true, apart := false }
def GraphLeadsSaid : Prop := graphLeadsRow.holds Try.pinned (OpenSpec.ofChange graphLeadsSpec)

/-- ITS FALSE NEIGHBOUR: 'it returns false'. Refute it at one input. -/
def graphLeadsWrong : ChangeSpec := { name := "graphLeads", fn := fun _ => fun
  | [d1, d2, d3] => { results := [.lit (.bool false)], args := [d1, d2, d3] }
  | _ => none }
def GraphLeadsWrongFalsely : Prop := graphLeadsRow.holds Try.pinned (OpenSpec.ofChange graphLeadsWrong)

/-- 'wireschemalaw13.GraphUses': WHATEVER THE INPUT: true; the input reads as it did. -/
def graphUsesSpec : ChangeSpec := { name := "graphUses", fn := fun _ => fun
  | [d1, d2, d3] => { results := [.lit (.bool true)], args := [d1, d2, d3] }
  | _ => none }
def graphUsesRow : OpenClaim := { program := "ythhipejbnbochaa", sum := "675210d158937c4db6f805537a450cf8cd78ff8ed72e6dbe42d1d96f736b217f", func := "wireschema/wireschemalaw13.GraphUses", spec := "graphUses", unfollowed := true, recurses := true, loops := true, apart := false }
def GraphUsesSaid : Prop := graphUsesRow.holds Try.pinned (OpenSpec.ofChange graphUsesSpec)

/-- ITS FALSE NEIGHBOUR: 'it returns false'. Refute it at one input. -/
def graphUsesWrong : ChangeSpec := { name := "graphUses", fn := fun _ => fun
  | [d1, d2, d3] => { results := [.lit (.bool false)], args := [d1, d2, d3] }
  | _ => none }
def GraphUsesWrongFalsely : Prop := graphUsesRow.holds Try.pinned (OpenSpec.ofChange graphUsesWrong)

/-- 'wireschemalaw13.GraphClosed': WHATEVER THE INPUT: true; the input reads as it did. -/
def graphClosedSpec : ChangeSpec := { name := "graphClosed", fn := fun _ => fun
  | [d1, d2] => { results := [.lit (.bool true)], args := [d1, d2] }
  | _ => none }
def graphClosedRow : OpenClaim := { program := "ythhipejbnbochaa", sum := "675210d158937c4db6f805537a450cf8cd78ff8ed72e6dbe42d1d96f736b217f", func := "wireschema/wireschemalaw13.GraphClosed", spec := "graphClosed", unfollowed := true, recurses := true, loops := true, apart := false }
def GraphClosedSaid : Prop := graphClosedRow.holds Try.pinned (OpenSpec.ofChange graphClosedSpec)

/-- ITS FALSE NEIGHBOUR: 'it returns false'. Refute it at one input. -/
def graphClosedWrong : ChangeSpec := { name := "graphClosed", fn := fun _ => fun
  | [d1, d2] => { results := [.lit (.bool false)], args := [d1, d2] }
  | _ => none }
def GraphClosedWrongFalsely : Prop := graphClosedRow.holds Try.pinned (OpenSpec.ofChange graphClosedWrong)

/- THE SECOND FORM. 'bulk': how many values and letters a reading holds, each counted each time it is reached (what is shared counts as often as it is met; a slice's spare places count too). A statement '..UptoSaid' is the law's where the arguments, and the package variables that the reading takes, are together of bulk at most 1048576: NARROWER than '..Said'. Prove '..Said' where nothing that the law and all that it calls make is longer than what came in: it says more and counts as full. Else prove '..UptoSaid'. A law counts once. -/
mutual
def uptoBulk {H : Type} : DataW H → Nat
  | .lit (.string bytes) => bytes.length + 1
  | .lit _ => 1
  | .nil => 1
  | .ptr d => uptoBulk d + 1
  | .slice elems spare => uptoBulkAll elems + uptoBulkAll spare + 1
  | .agg parts => uptoBulkAll parts + 1
  | .iface _ d => uptoBulk d + 1
  | .map entries => uptoBulkEntries entries + 1
  | .held _ => 1
def uptoBulkAll {H : Type} : List (DataW H) → Nat
  | [] => 0
  | d :: r => uptoBulk d + uptoBulkAll r
def uptoBulkEntries {H : Type} : List (Lit × DataW H) → Nat
  | [] => 0
  | x :: r => uptoBulkEntry x + uptoBulkEntries r
def uptoBulkEntry {H : Type} : Lit × DataW H → Nat
  | (.string bytes, d) => bytes.length + uptoBulk d + 1
  | (_, d) => uptoBulk d + 1
 end
def uptoSmall : (H : Type) → List (DataW H) → Bool := fun _ ds => decide (uptoBulkAll ds ≤ 1048576)
def OpenSpec.upto (s : _root_.Go.ChangeSpec) : _root_.Go.OpenSpec := { _root_.Go.OpenSpec.ofChange s with cond := some uptoSmall }

/-- 'wireschemalaw13.GraphGroups', WHERE WHAT IT READS IS OF BULK AT MOST 1048576: true; the input reads as it did. -/
def graphGroupsUptoRow : OpenClaim := { program := "ythhipejbnbochaa", sum := "675210d158937c4db6f805537a450cf8cd78ff8ed72e6dbe42d1d96f736b217f", func := "wireschema/wireschemalaw13.GraphGroups", spec := "graphGroups", unfollowed := true, recurses := true, loops := true, apart := false, narrowed := true }
def GraphGroupsUptoSaid : Prop := graphGroupsUptoRow.holds Try.pinned (OpenSpec.upto graphGroupsSpec)

/-- 'wireschemalaw13.GraphPaths', WHERE WHAT IT READS IS OF BULK AT MOST 1048576: true; the input reads as it did. -/
def graphPathsUptoRow : OpenClaim := { program := "ythhipejbnbochaa", sum := "675210d158937c4db6f805537a450cf8cd78ff8ed72e6dbe42d1d96f736b217f", func := "wireschema/wireschemalaw13.GraphPaths", spec := "graphPaths", unfollowed := true, recurses := true, loops := true, apart := false, narrowed := true }
def GraphPathsUptoSaid : Prop := graphPathsUptoRow.holds Try.pinned (OpenSpec.upto graphPathsSpec)

/-- 'wireschemalaw13.GraphFinite', WHERE WHAT IT READS IS OF BULK AT MOST 1048576: true; the input reads as it did. -/
def graphFiniteUptoRow : OpenClaim := { program := "ythhipejbnbochaa", sum := "675210d158937c4db6f805537a450cf8cd78ff8ed72e6dbe42d1d96f736b217f", func := "wireschema/wireschemalaw13.GraphFinite", spec := "graphFinite", unfollowed := true, recurses := true, loops := true, apart := false, narrowed := true }
def GraphFiniteUptoSaid : Prop := graphFiniteUptoRow.holds Try.pinned (OpenSpec.upto graphFiniteSpec)

/-- 'wireschemalaw13.GraphPartition', WHERE WHAT IT READS IS OF BULK AT MOST 1048576: true; the input reads as it did. -/
def graphPartitionUptoRow : OpenClaim := { program := "ythhipejbnbochaa", sum := "675210d158937c4db6f805537a450cf8cd78ff8ed72e6dbe42d1d96f736b217f", func := "wireschema/wireschemalaw13.GraphPartition", spec := "graphPartition", unfollowed := true, recurses := true, loops := true, apart := false, narrowed := true }
def GraphPartitionUptoSaid : Prop := graphPartitionUptoRow.holds Try.pinned (OpenSpec.upto graphPartitionSpec)

/-- 'wireschemalaw13.GraphHeights', WHERE WHAT IT READS IS OF BULK AT MOST 1048576: true; the input reads as it did. -/
def graphHeightsUptoRow : OpenClaim := { program := "ythhipejbnbochaa", sum := "675210d158937c4db6f805537a450cf8cd78ff8ed72e6dbe42d1d96f736b217f", func := "wireschema/wireschemalaw13.GraphHeights", spec := "graphHeights", unfollowed := true, recurses := true, loops := true, apart := false, narrowed := true }
def GraphHeightsUptoSaid : Prop := graphHeightsUptoRow.holds Try.pinned (OpenSpec.upto graphHeightsSpec)

/-- 'wireschemalaw13.GraphLeads', WHERE WHAT IT READS IS OF BULK AT MOST 1048576: true; the input reads as it did. -/
def graphLeadsUptoRow : OpenClaim := { program := "ythhipejbnbochaa", sum := "675210d158937c4db6f805537a450cf8cd78ff8ed72e6dbe42d1d96f736b217f", func := "wireschema/wireschemalaw13.GraphLeads", spec := "graphLeads", unfollowed := true, recurses := true, loops := true, apart := false, narrowed := true }
def GraphLeadsUptoSaid : Prop := graphLeadsUptoRow.holds Try.pinned (OpenSpec.upto graphLeadsSpec)

/-- 'wireschemalaw13.GraphUses', WHERE WHAT IT READS IS OF BULK AT MOST 1048576: true; the input reads as it did. -/
def graphUsesUptoRow : OpenClaim := { program := "ythhipejbnbochaa", sum := "675210d158937c4db6f805537a450cf8cd78ff8ed72e6dbe42d1d96f736b217f", func := "wireschema/wireschemalaw13.GraphUses", spec := "graphUses", unfollowed := true, recurses := true, loops := true, apart := false, narrowed := true }
def GraphUsesUptoSaid : Prop := graphUsesUptoRow.holds Try.pinned (OpenSpec.upto graphUsesSpec)

/-- 'wireschemalaw13.GraphClosed', WHERE WHAT IT READS IS OF BULK AT MOST 1048576: true; the input reads as it did. -/
def graphClosedUptoRow : OpenClaim := { program := "ythhipejbnbochaa", sum := "675210d158937c4db6f805537a450cf8cd78ff8ed72e6dbe42d1d96f736b217f", func := "wireschema/wireschemalaw13.GraphClosed", spec := "graphClosed", unfollowed := true, recurses := true, loops := true, apart := false, narrowed := true }
def GraphClosedUptoSaid : Prop := graphClosedUptoRow.holds Try.pinned (OpenSpec.upto graphClosedSpec)

end Rows
end Go.Proofs.Ythhipejbnbochaa
