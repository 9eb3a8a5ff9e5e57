import Derived.Test.YthagpbkmakocjaaCn18
namespace Go.Proofs.Ythagpbkmakocjaa
set_option linter.all false
open Go Go.Eng
theorem ZpC {fs : List Fil} (h : (Zx0 fs).2 = 0) : Zj7 fs := by
 unfold Zx0 at h
 split at h
 ·exact absurd h (by decide)
 ·split at h
  ·exact absurd h (by decide : ¬ (9 : Int) = 0)
  ·split at h
   ·exact absurd h (by decide : ¬ (10 : Int) = 0)
   ·rename_i h2; exact ZiY h2
def ZAX (fs : List Fil) : Option ByteArray := Za5 (Zoj fun x => x) [] (Zaf fs)
theorem Zw9 {ρ : Type} (n : ByteArray → ρ) (fs : List Fil) : Za5 (Zoj n) [] (Zaf fs) = (ZAX fs).map n :=
 Zdc (fun p x => by unfold Zoj; split <;> rfl) _ _
theorem ZF5 {fs : List Fil} (hA : SzA fs) (hG : ∀ f ∈ fs, SzG f) (hF : Zj7 fs) (hd : ZAX fs = none) : Base0 fs := by
 have hn := (Zh6 hd).1
 exact ⟨hA, hG, hF, Zvx hn, ZDy hn⟩
def Zon (fs : List Fil) : Prop := 64 < Zkg fs ∨ 64 < Zk3 fs ∨ 64 < Zk5 fs
instance (fs : List Fil) : Decidable (Zon fs) := by unfold Zon; infer_instance
def ZeZ (fs : List Fil) : ByteArray × Int :=
 if (Zx0 fs).2 ≠ 0 then Zx0 fs else if Zon fs then (⟨#[]⟩, 3) else match ZAX fs with
  | some x => (x, 9)
  | none => match fs.findSome? (ZiU fs) with
   | some r => r
   | none => (⟨#[]⟩, 0)
theorem Zgo (fs l : List Fil) : (l.flatMap (Zel fs)).length = Zkg l := Zhv _ _ (fun f => by simp [Zel]) l
theorem Zf3 (fs l : List Fil) : (l.flatMap (Zd3 fs)).length = Zk5 l := Zhv _ _ (fun f => by simp [Zd3]) l
theorem ZeB (l : List Fil) : (ZaN l).length = Zk3 l := Zhv ZkD _ (fun f => by simp [ZkD]) l
theorem ZD4 (fs : List Fil) : ZtU fs = (if Zon fs then (⟨#[]⟩, 3) else match ZAX fs with | some x => (x, 9) | none => (⟨#[]⟩, 0) : ByteArray × Int) := by
 unfold ZtU Zon
 rw [Zw9]
 cases ZAX fs <;> rfl
end Go.Proofs.Ythagpbkmakocjaa
namespace Go.Proofs.Ythagpbkmakocjaa
set_option linter.all false
open Go Go.Eng
def gtB (a b : ByteArray) : Bool := !(sLt a b || decide (a = b))
end Go.Proofs.Ythagpbkmakocjaa
