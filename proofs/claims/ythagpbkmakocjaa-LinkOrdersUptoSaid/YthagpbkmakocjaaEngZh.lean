/-
  Steps of the state alone, ahead of any code.
-/
import Derived.Test.YthagpbkmakocjaaEngZg
namespace Go.Eng
set_option linter.all false
open Go Go.RowKit
section
variable {P : Program} {T : Nat → Option TI} {n : Nat} {C : Cx} {τ : St} {Q : Exit → St → Prop}
theorem LW_cmds (hC : CxOk C) {os : Nat} {fx : List Nat} (hO : C.outs = os) (hF : C.fx = fx) {c : Code} (a : AT) (lf : Lf) (q : Ren → (St → Prop) → Prop)
    (hq : ∀ r Φ, cmds r os a τ (fun τ _ => leafP fx lf τ Φ) = q r Φ) (h : ∀ r, r.θ = C.θ → r.H0 = C.H0 → r.κ = C.κ → r.no = C.no → q r (fun τ' => LW P n C c τ' Q)) : LW P n C c τ Q := by
  subst hO
  subst hF
  intro γ σ hg hG
  have h1 := h (C.r γ) rfl rfl rfl rfl
  rw [← hq] at h1
  obtain ⟨τ₁, a₁, σ₁, h2, hG1, hw1⟩ := cmds_sound (n := n) hC a h1 hG
  obtain ⟨γ', τ₄, σ₄, j0, j1, j2, j3⟩ := leaf_sound (n := n) hC h2 hg hG1
  exact AWp.weak (j1 γ' σ₄ j0 j2) (hw1.trans j3)
end
theorem fit_ints {l : List Int} (h : l.length < 2147483648) : Fit (.list (l.map eInt)) := fit_all (fun x _ => fitL_cons (.int _ _) fitL_nil) h
theorem fit_boos {l : List Bool} (h : l.length < 2147483648) : Fit (.list (l.map eBoo)) := fit_all (fun x _ => fitL_cons (.bool _) fitL_nil) h
theorem idxB_int {s : ByteArray} {i : Int} (h0 : 0 ≤ i) (h : i < s.size) : IdxB s i ((s.data.toList.getD i.toNat 0).toNat : Int) := by
  have := idxB_lt (s := s) (i := i.toNat) (by omega)
  rwa [Int.toNat_of_nonneg h0] at this
end Go.Eng
