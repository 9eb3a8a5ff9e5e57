/-
  Walks and models of functions of this seat; by program (gen.py, seat.py), laws of the models by hand.
-/
import Derived.Test.YthagpbkmakocjaaAa
import Derived.Test.YthagpbkmakocjaaEngRr
namespace Go.Proofs.Ythagpbkmakocjaa
set_option linter.all false
open Go Go.Eng
def gtA (f : FuncId) : Option (TypeId × Nat) := match Nat.beq f 82 with | true => some (9, 1) | false => none
def lvA (f : FuncId) : Option (TypeId × Nat) := match Nat.beq f 55 with | true => some (53, 16) | false => none
def ltA (t : TypeId) : Bool := Nat.beq t 34
theorem gtA_ok : GrOk Try.prog gtA := fun f e sz h l H k g m Post hk hg hm hp => by
  unfold gtA at h
  split at h
  · rename_i e1
    cases h
    have e2 : f = 82 := Nat.eq_of_beq_eq_true e1
    rw [e2]
    exact K_Grow_str l H k g hk m hg hm Post hp
  · cases h
def M_awake : Bool := true
theorem K_awake (ℓ : Nat) (ℋ : Hp) (Post : AV → Hp → Prop) (h : Post (.d (.bool M_awake)) ℋ) : ACall Try.prog 12 ℓ [] ℋ Post :=
  acall_run tok tmo gtA_ok (lt := ltA) (lvt := lvA) (lf := 50) (d := 9) (by kernel_rfl) h
end Go.Proofs.Ythagpbkmakocjaa
