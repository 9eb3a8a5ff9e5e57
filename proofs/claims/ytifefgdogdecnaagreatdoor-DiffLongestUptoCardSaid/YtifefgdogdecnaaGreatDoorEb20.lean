/-
  What is proved: the card of wireschemalaw21.DiffLongest in its second form: the law returns true and leaves its arguments as they were.
  Condition: the arguments are together of bulk at most 1048576 (the given second form); nothing else.
-/
import Derived.Test.YtifefgdogdecnaaGreatDoorEb19
import Derived.Test.YtifefgdogdecnaaGreatDoorCards
import Derived.Test.YtifefgdogdecnaaGreatDoorTie
import Derived.Lib.LaidTab
import Derived.WalkKit
import Derived.ProofKit
import Derived.OpenShut
import Derived.JoinedCond
import Derived.Test.YtifefgdogdecnaaGreatDoorEb00
namespace Go.Proofs.YtifefgdogdecnaaGreatDoor
set_option linter.all false
open Go Go.Eng Go.ChangeShapes Go.WideShapes Go.ChangeAt Go.RowKit
namespace DiffLongest
open Go.Proofs.YtifefgdogdecnaaGreatDoor
theorem saidUpto : Rows.DiffLongestUptoSaid :=
 OpenClaim.holds_of_cond 4 Tryz.f4 rfl rfl rfl rfl rfl rfl rfl ⟨rfl, rfl, rfl, rfl, rfl⟩ rfl rfl rfl rfl rfl (by kernel_rfl) Tryz.func4 fQ
  (Fj (by kernel_rfl)) (by unfold Func.isWrapper; first | (rw [Yj (by decide +kernel)]; kernel_rfl) | (rw [Yq (by decide +kernel)]; exact ⟨rfl, rfl⟩))
  (fun os started H enc _ F => by rw [OpenClaim.pre_eq_preRow]; exact cO os started H enc F)
theorem plain (f : FuncId) (fn : Func) (hf : Tryz.pinned.checked.prog.funcNamed Rows.diffLongestUptoRow.func = some f) (hfn : Tryz.pinned.checked.prog.funcs[f]? = some fn) :
  true = Tryz.pinned.checked.prog.looks [] ∧ ∀ (j : Nat) t, fn.params[j]? = some t → Tryz.pinned.checked.prog.wantsStandIn t = false := by
 obtain rfl : f = 4 := Eu ((show Tryz.prog.funcNamed Rows.diffLongestUptoRow.func = some 4 by kernel_rfl).symm.trans hf) |>.symm
 obtain rfl : fn = Tryz.f4 := (Eu (Tryz.func4.symm.trans hfn)).symm
 refine ⟨by kernel_rfl, fun j t ht => ?_⟩
 rw [Tryz.params4] at ht
 have h := M9 ht
 have key : ∀ t ∈ [22, 22], Tryz.prog.wantsStandIn t = false := by decide +kernel
 exact key t (by simpa using h)
theorem cardUpto : Rows.DiffLongestUptoCardSaid :=
 Claim7.holds_tied_plain_at .later [] _ _ _ _ saidUpto (fun _ h => by cases h) (by kernel_rfl) (fun _ h => by cases h) diffLongestUpto_row_tie rfl ⟨rfl, rfl⟩ (by kernel_rfl) rfl plain (by kernel_rfl)
end DiffLongest
end Go.Proofs.YtifefgdogdecnaaGreatDoor
