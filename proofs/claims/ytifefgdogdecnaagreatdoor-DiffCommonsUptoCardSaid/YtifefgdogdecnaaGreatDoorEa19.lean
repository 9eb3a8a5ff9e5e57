/-
  What is proved: the card of wireschemalaw21.DiffCommons in its second form: the law returns true and leaves its arguments as they were.
  Condition: the arguments are together of bulk at most 1048576 (the given second form); nothing else.
-/
import Derived.Test.YtifefgdogdecnaaGreatDoorEa18
import Derived.Test.YtifefgdogdecnaaGreatDoorCards
import Derived.Test.YtifefgdogdecnaaGreatDoorTie
import Derived.Lib.LaidTab
import Derived.WalkKit
import Derived.ProofKit
import Derived.OpenShut
import Derived.JoinedCond
import Derived.Test.YtifefgdogdecnaaGreatDoorEa00
namespace Go.Proofs.YtifefgdogdecnaaGreatDoor
set_option linter.all false
open Go Go.Eng Go.ChangeShapes Go.WideShapes Go.ChangeAt Go.RowKit
namespace DiffCommons
open Go.Proofs.YtifefgdogdecnaaGreatDoor
theorem saidUpto : Rows.DiffCommonsUptoSaid :=
 OpenClaim.holds_of_cond 3 Tryz.f3 rfl rfl rfl rfl rfl rfl rfl ⟨rfl, rfl, rfl, rfl, rfl⟩ rfl rfl rfl rfl rfl (by kernel_rfl) Tryz.func3 gQ
  (G0 (by kernel_rfl)) (by unfold Func.isWrapper; first | (rw [Yj (by decide +kernel)]; kernel_rfl) | (rw [Yt (by decide +kernel)]; exact ⟨rfl, rfl⟩))
  (fun os started H enc _ F => by rw [OpenClaim.pre_eq_preRow]; exact bn os started H enc F)
theorem plain (f : FuncId) (fn : Func) (hf : Tryz.pinned.checked.prog.funcNamed Rows.diffCommonsUptoRow.func = some f) (hfn : Tryz.pinned.checked.prog.funcs[f]? = some fn) :
  true = Tryz.pinned.checked.prog.looks [] ∧ ∀ (j : Nat) t, fn.params[j]? = some t → Tryz.pinned.checked.prog.wantsStandIn t = false := by
 obtain rfl : f = 3 := Eo ((show Tryz.prog.funcNamed Rows.diffCommonsUptoRow.func = some 3 by kernel_rfl).symm.trans hf) |>.symm
 obtain rfl : fn = Tryz.f3 := (Eo (Tryz.func3.symm.trans hfn)).symm
 refine ⟨by kernel_rfl, fun j t ht => ?_⟩
 rw [Tryz.params3] at ht
 have h := MQ ht
 have key : ∀ t ∈ [22, 22], Tryz.prog.wantsStandIn t = false := by decide +kernel
 exact key t (by simpa using h)
theorem cardUpto : Rows.DiffCommonsUptoCardSaid :=
 Claim7.holds_tied_plain_at .later [] _ _ _ _ saidUpto (fun _ h => by cases h) (by kernel_rfl) (fun _ h => by cases h) diffCommonsUpto_row_tie rfl ⟨rfl, rfl⟩ (by kernel_rfl) rfl plain (by kernel_rfl)
end DiffCommons
end Go.Proofs.YtifefgdogdecnaaGreatDoor
