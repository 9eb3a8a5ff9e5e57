/-
  What is proved: the card of wireschemalaw17.ValueTurned in its second form: the law returns true and leaves its arguments as they were.
  Condition: the arguments are together of bulk at most 1048576 (the given second form); nothing else.
-/
import Derived.Test.YtalafnjhcecdpaaGreatDoorZc26
import Derived.Test.YtalafnjhcecdpaaGreatDoorCards
import Derived.Test.YtalafnjhcecdpaaGreatDoorTie
import Derived.Lib.LaidTab
import Derived.WalkKit
import Derived.ProofKit
import Derived.OpenShut
import Derived.JoinedCond
import Derived.Test.YtalafnjhcecdpaaGreatDoorZc00
namespace Go.Proofs.YtalafnjhcecdpaaGreatDoor
set_option linter.all false
open Go Go.Eng Go.ChangeShapes Go.WideShapes Go.ChangeAt Go.RowKit
namespace ValueTurned
open Go.Proofs.YtalafnjhcecdpaaGreatDoor
theorem saidUpto : Rows.ValueTurnedUptoSaid :=
 OpenClaim.holds_of_cond 5 Tryz.f5 rfl rfl rfl rfl rfl rfl rfl ⟨rfl, rfl, rfl, rfl, rfl⟩ rfl rfl rfl rfl rfl (by kernel_rfl) Tryz.func5 Zzk
  (Y4 (by kernel_rfl)) (by unfold Func.isWrapper; first | (rw [Yk (by decide +kernel)]; kernel_rfl) | (rw [Yi (by decide +kernel)]; exact ⟨rfl, rfl⟩))
  (fun os started H enc _ F => by rw [OpenClaim.pre_eq_preRow]; exact zf os started H enc F)
theorem plain (f : FuncId) (fn : Func) (hf : Tryz.pinned.checked.prog.funcNamed Rows.valueTurnedUptoRow.func = some f) (hfn : Tryz.pinned.checked.prog.funcs[f]? = some fn) :
  true = Tryz.pinned.checked.prog.looks [] ∧ ∀ (j : Nat) t, fn.params[j]? = some t → Tryz.pinned.checked.prog.wantsStandIn t = false := by
 obtain rfl : f = 5 := Vr ((show Tryz.prog.funcNamed Rows.valueTurnedUptoRow.func = some 5 by kernel_rfl).symm.trans hf) |>.symm
 obtain rfl : fn = Tryz.f5 := (Vr (Tryz.func5.symm.trans hfn)).symm
 refine ⟨by kernel_rfl, fun j t ht => ?_⟩
 rw [Tryz.params5] at ht
 have h := UZ ht
 have key : ∀ t ∈ [26, 9, 33], Tryz.prog.wantsStandIn t = false := by decide +kernel
 exact key t (by simpa using h)
theorem cardUpto : Rows.ValueTurnedUptoCardSaid :=
 Claim7.holds_tied_plain_at .later [] _ _ _ _ saidUpto (fun _ h => by cases h) (by kernel_rfl) (fun _ h => by cases h) valueTurnedUpto_row_tie rfl ⟨rfl, rfl⟩ (by kernel_rfl) rfl plain (by kernel_rfl)
end ValueTurned
end Go.Proofs.YtalafnjhcecdpaaGreatDoor
