/-
  NARROWER THAN 'FOR EVERY INPUT', by the rows' own cells (each row's printed sentence says how): MergeRuns: loops · MergeLast: loops · MergeAssociative: loops.
  DERIVED. THE GIVEN ROWS OF THIS SEAT. 3 by the template 'for every input the law returns true; each argument reads behind the call as it read before'; 0 by the template 'total and deterministic' (their statements: YtjbijbkdiijhaaaGreatTotals.lean).
  GIVEN WITH THE SEED: the statements are not yours to turn. If you find one false, say at which input.
  Laid BY PROGRAM, IN A SANDBOX (cutbox-rows.mjs): the forced cells as the released guide's own fill.sh prints them over the translation 5be800e063e1aae2… (all of the seat's roots in one cut). By AI agents, Wed Nov 11 2026. No macro, syntax, notation, axiom, sorry.
-/
import Derived.Test.YtjbijbkdiijhaaaGreatChecked
import GoSem.Claim
import GoSem.ClaimJoined
import GoSem.ClaimMapViews
import Derived.JoinedTies
import Derived.KernelRfl
namespace Go.Proofs.YtjbijbkdiijhaaaGreat
/- THE CELL 'sum', in the pinned program and in every row, IS THE sha256 OF THE DUMP (.gsa) THAT YtjbijbkdiijhaaaGreatProg.lean LOADS. Nothing in Lean hashes anything: it is a label: what it is worth is what the hold of that sum in a sandbox is worth. -/
noncomputable def Tryz.pinned : Pinned := { name := "ytjbijbkdiijhaaagreat", sum := "5be800e063e1aae2af2ebc7d2721f0315f77e41326d5297a942d4a8140d2c417", checked := Tryz.checked }
namespace Rows
def none {H : Type} : Left H := { results := [], args := [] }

/-- 'wireschemalaw20.MergeRuns': WHATEVER THE INPUT: true; the input reads as it did. -/
def mergeRunsSpec : ChangeSpec := { name := "mergeRuns", fn := fun _ => fun
  | [d1, d2, d3, d4] => { results := [.lit (.bool true)], args := [d1, d2, d3, d4] }
  | _ => none }
def mergeRunsRow : OpenClaim := { program := "ytjbijbkdiijhaaagreat", sum := "5be800e063e1aae2af2ebc7d2721f0315f77e41326d5297a942d4a8140d2c417", func := "wireschema/wireschemalaw20.MergeRuns", spec := "mergeRuns", unfollowed := true, recurses := true, loops := true, apart := false }
def MergeRunsSaid : Prop := mergeRunsRow.holds Tryz.pinned (OpenSpec.ofChange mergeRunsSpec)

/-- ITS FALSE NEIGHBOUR: 'it returns false'. Refute it at one input. -/
def mergeRunsWrong : ChangeSpec := { name := "mergeRuns", fn := fun _ => fun
  | [d1, d2, d3, d4] => { results := [.lit (.bool false)], args := [d1, d2, d3, d4] }
  | _ => none }
def MergeRunsWrongFalsely : Prop := mergeRunsRow.holds Tryz.pinned (OpenSpec.ofChange mergeRunsWrong)

/-- 'wireschemalaw20.MergeLast': WHATEVER THE INPUT: true; the input reads as it did. -/
def mergeLastSpec : ChangeSpec := { name := "mergeLast", fn := fun _ => fun
  | [d1, d2, d3, d4] => { results := [.lit (.bool true)], args := [d1, d2, d3, d4] }
  | _ => none }
def mergeLastRow : OpenClaim := { program := "ytjbijbkdiijhaaagreat", sum := "5be800e063e1aae2af2ebc7d2721f0315f77e41326d5297a942d4a8140d2c417", func := "wireschema/wireschemalaw20.MergeLast", spec := "mergeLast", unfollowed := true, recurses := true, loops := true, apart := false }
def MergeLastSaid : Prop := mergeLastRow.holds Tryz.pinned (OpenSpec.ofChange mergeLastSpec)

/-- ITS FALSE NEIGHBOUR: 'it returns false'. Refute it at one input. -/
def mergeLastWrong : ChangeSpec := { name := "mergeLast", fn := fun _ => fun
  | [d1, d2, d3, d4] => { results := [.lit (.bool false)], args := [d1, d2, d3, d4] }
  | _ => none }
def MergeLastWrongFalsely : Prop := mergeLastRow.holds Tryz.pinned (OpenSpec.ofChange mergeLastWrong)

/-- 'wireschemalaw20.MergeAssociative': WHATEVER THE INPUT: true; the input reads as it did. -/
def mergeAssociativeSpec : ChangeSpec := { name := "mergeAssociative", fn := fun _ => fun
  | [d1, d2, d3, d4, d5] => { results := [.lit (.bool true)], args := [d1, d2, d3, d4, d5] }
  | _ => none }
def mergeAssociativeRow : OpenClaim := { program := "ytjbijbkdiijhaaagreat", sum := "5be800e063e1aae2af2ebc7d2721f0315f77e41326d5297a942d4a8140d2c417", func := "wireschema/wireschemalaw20.MergeAssociative", spec := "mergeAssociative", unfollowed := true, recurses := true, loops := true, apart := false }
def MergeAssociativeSaid : Prop := mergeAssociativeRow.holds Tryz.pinned (OpenSpec.ofChange mergeAssociativeSpec)

/-- ITS FALSE NEIGHBOUR: 'it returns false'. Refute it at one input. -/
def mergeAssociativeWrong : ChangeSpec := { name := "mergeAssociative", fn := fun _ => fun
  | [d1, d2, d3, d4, d5] => { results := [.lit (.bool false)], args := [d1, d2, d3, d4, d5] }
  | _ => none }
def MergeAssociativeWrongFalsely : Prop := mergeAssociativeRow.holds Tryz.pinned (OpenSpec.ofChange mergeAssociativeWrong)

/- THE SECOND FORM. 'bulk': how many values and letters a reading holds, each counted each time it is reached (what is shared counts as often as it is met; a slice's spare places count too). A statement '..UptoSaid' is the law's where the arguments, and the package variables that the reading takes, are together of bulk at most 1048576: NARROWER than '..Said'. Prove '..Said' where nothing that the law and all that it calls make is longer than what came in: it says more and counts as full. Else prove '..UptoSaid'. A law counts once. -/
mutual
def uptoBulk {H : Type} : DataW H → Nat
  | .lit (.string bytes) => bytes.length + 1
  | .lit _ => 1
  | .nil => 1
  | .ptr d => uptoBulk d + 1
  | .slice elems spare => uptoBulkAll elems + uptoBulkAll spare + 1
  | .agg parts => uptoBulkAll parts + 1
  | .iface _ d => uptoBulk d + 1
  | .map entries => uptoBulkEntries entries + 1
  | .held _ => 1
def uptoBulkAll {H : Type} : List (DataW H) → Nat
  | [] => 0
  | d :: r => uptoBulk d + uptoBulkAll r
def uptoBulkEntries {H : Type} : List (Lit × DataW H) → Nat
  | [] => 0
  | x :: r => uptoBulkEntry x + uptoBulkEntries r
def uptoBulkEntry {H : Type} : Lit × DataW H → Nat
  | (.string bytes, d) => bytes.length + uptoBulk d + 1
  | (_, d) => uptoBulk d + 1
 end
def uptoSmall : (H : Type) → List (DataW H) → Bool := fun _ ds => decide (uptoBulkAll ds ≤ 1048576)
def OpenSpec.upto (s : _root_.Go.ChangeSpec) : _root_.Go.OpenSpec := { _root_.Go.OpenSpec.ofChange s with cond := some uptoSmall }

/-- 'wireschemalaw20.MergeRuns', WHERE WHAT IT READS IS OF BULK AT MOST 1048576: true; the input reads as it did. -/
def mergeRunsUptoRow : OpenClaim := { program := "ytjbijbkdiijhaaagreat", sum := "5be800e063e1aae2af2ebc7d2721f0315f77e41326d5297a942d4a8140d2c417", func := "wireschema/wireschemalaw20.MergeRuns", spec := "mergeRuns", unfollowed := true, recurses := true, loops := true, apart := false, narrowed := true }
def MergeRunsUptoSaid : Prop := mergeRunsUptoRow.holds Tryz.pinned (OpenSpec.upto mergeRunsSpec)

/-- 'wireschemalaw20.MergeLast', WHERE WHAT IT READS IS OF BULK AT MOST 1048576: true; the input reads as it did. -/
def mergeLastUptoRow : OpenClaim := { program := "ytjbijbkdiijhaaagreat", sum := "5be800e063e1aae2af2ebc7d2721f0315f77e41326d5297a942d4a8140d2c417", func := "wireschema/wireschemalaw20.MergeLast", spec := "mergeLast", unfollowed := true, recurses := true, loops := true, apart := false, narrowed := true }
def MergeLastUptoSaid : Prop := mergeLastUptoRow.holds Tryz.pinned (OpenSpec.upto mergeLastSpec)

/-- 'wireschemalaw20.MergeAssociative', WHERE WHAT IT READS IS OF BULK AT MOST 1048576: true; the input reads as it did. -/
def mergeAssociativeUptoRow : OpenClaim := { program := "ytjbijbkdiijhaaagreat", sum := "5be800e063e1aae2af2ebc7d2721f0315f77e41326d5297a942d4a8140d2c417", func := "wireschema/wireschemalaw20.MergeAssociative", spec := "mergeAssociative", unfollowed := true, recurses := true, loops := true, apart := false, narrowed := true }
def MergeAssociativeUptoSaid : Prop := mergeAssociativeUptoRow.holds Tryz.pinned (OpenSpec.upto mergeAssociativeSpec)

end Rows
end Go.Proofs.YtjbijbkdiijhaaaGreat
