import Derived.Test.YthagpbkmakocjaaCs23
import Derived.Test.YthagpbkmakocjaaCs09
import Derived.Test.YthagpbkmakocjaaRows
import Derived.WalkKit
import Derived.ProofKit
import Derived.OpenShut
import Derived.Carry
import Derived.Deep.DeepHandedRow
namespace Go.Proofs.Ythagpbkmakocjaa
set_option linter.all false
open Go Go.Eng
section
variable {α : Type} [Rw α] [Tid α]
theorem m123_L5 (l : List α) (a m b : Nat) (pf : α → α → Option Int) (cmp : α → α → Int) (hp : ∀ x y, pf x y = some (cmp x y)) (hl : l.length ≤ 1048576) (h1 : a < m) (h2 : m < b) (h3 : b ≤ l.length) : ∀ (d i j N fu : Nat), j - i ≤ d → d < N → j - i < fu → i ≤ j → j ≤ (a + b) / 2 + m ∧ j ≤ l.length → (a + b) / 2 + m ≤ l.length + i →
  ∃ i' j', P_symMerge_L5 (Rw.z : α) l a m b cmp fu i j = .inl (i', j') ∧ loopM (B123_5 l (a : Int) (m : Int) (b : Int) pf) N ((i : Int), (j : Int)) = some (.inl (i' : Int)) ∧ i ≤ i' ∧ i' ≤ j
 | d, i, j, N, fu, hd, hN, hf, hij, hj, hi => by
  obtain ⟨N, rfl⟩ : ∃ m, N = m + 1 := ⟨N - 1, by omega⟩
  obtain ⟨fu, rfl⟩ : ∃ m, fu = m + 1 := ⟨fu - 1, by omega⟩
  by_cases g : i < j
  ·obtain ⟨d, rfl⟩ : ∃ m, d = m + 1 := ⟨d - 1, by omega⟩
   have g' : (i : Int) < (j : Int) := by omega
   have hh1 : i ≤ (i + j) / 2 := by omega
   have hh2 : (i + j) / 2 < j := by omega
   have mid := midN (x := i) (y := j) (by omega)
   have mab := midN (x := a) (y := b) (by omega)
   have e0 : (((a + b) / 2 : Nat) : Int) + (m : Int) - 1 = (((a + b) / 2 + m - 1 : Nat) : Int) := by omega
   have w1 : -9223372036854775808 ≤ (i : Int) + (j : Int) ∧ (i : Int) + (j : Int) < 9223372036854775808 := by omega
   have hone : (0 : Int) ≤ 1 := by decide
   by_cases hc : cmp (l.getD ((a + b) / 2 + m - 1 - (i + j) / 2) Rw.z) (l.getD ((i + j) / 2) Rw.z) < 0
   ·obtain ⟨i', j', q1, q2, q3, q4⟩ := m123_L5 l a m b pf cmp hp hl h1 h2 h3 d i ((i + j) / 2) N fu (by omega) (by omega) (by omega) (by omega) (by omega) (by omega)
    refine ⟨i', j', by rw [P_symMerge_L5, decide_eq_true g', cond_true, decide_eq_true hc]; exact q1, ?_, by omega, by omega⟩
    have hB : B123_5 l (a : Int) (m : Int) (b : Int) pf ((i : Int), (j : Int)) = some (.nx ((i : Int), (((i + j) / 2 : Nat) : Int))) := by
     dsimp only [B123_5, T123_1, T123_2, T123_3, T123_4, T123_5, T123_6, T123_7, T123_8, T123_9, T123_10, T123_11, T123_12, T123_13, T123_14, T123_15, T123_16, T123_17, T123_18, T123_19, T123_20, T123_21, T123_22, T123_23, T123_24, T123_25, T123_26, T123_27, T123_28, T123_29, T123_30, T123_31, T123_32, T123_33, T123_34, T123_35, T123_36, T123_37, T123_38, T123_39, T123_40, T123_41, T123_42, T123_43, T123_44, MJ123_j45, T123_46, T123_47, T123_48, T123_49, T123_50, br, vz, vg, vs, v2, wi, wk, shr, iri, ca, cag, cf, cfg, lc, ln, lf, lxe, fl, st, vwr, lr]
     rw [mid, mab, e0]
     generalize (i + j) / 2 = h at *
     have e3 : ((((a + b) / 2 + m - 1 : Nat) : Int)) - (h : Int) = (((a + b) / 2 + m - 1 - h : Nat) : Int) := by omega
     have p1 : (a + b) / 2 + m - 1 - h < l.length := by omega
     rw [e3]
     generalize (a + b) / 2 + m - 1 - h = p at *
     have r1 : (0 : Int) ≤ (h : Int) ∧ (h : Int) < (l.length : Int) := by omega
     have r2 : (0 : Int) ≤ (p : Int) ∧ (p : Int) < (l.length : Int) := by omega
     have w2 : -9223372036854775808 ≤ (h : Int) + 1 ∧ (h : Int) + 1 < 9223372036854775808 := by omega
     have w3 : -9223372036854775808 ≤ (p : Int) ∧ (p : Int) < 9223372036854775808 := by omega
     have e1 : l[h]? = some (l.getD h Rw.z) := by rw [List.getD_eq_getElem?_getD, List.getElem?_eq_getElem (by omega)]; rfl
     have e2 : l[p]? = some (l.getD p Rw.z) := by rw [List.getD_eq_getElem?_getD, List.getElem?_eq_getElem (by omega)]; rfl
     simp only [g', w1, w2, w3, r1, r2, e1, e2, hp, hc, hone, decide_true, decide_false, Bool.not_true, Bool.not_false, Bool.false_eq_true, if_true, if_false, and_self, Int.toNat_natCast, Option.bind_some]
     try rfl
    rw [loopM, hB]
    exact q2
   ·obtain ⟨i', j', q1, q2, q3, q4⟩ := m123_L5 l a m b pf cmp hp hl h1 h2 h3 d ((i + j) / 2 + 1) j N fu (by omega) (by omega) (by omega) (by omega) (by omega) (by omega)
    refine ⟨i', j', by rw [P_symMerge_L5, decide_eq_true g', cond_true, decide_eq_false hc]; exact q1, ?_, by omega, by omega⟩
    have hB : B123_5 l (a : Int) (m : Int) (b : Int) pf ((i : Int), (j : Int)) = some (.nx (((((i + j) / 2 : Nat) : Int) + 1), (j : Int))) := by
     dsimp only [B123_5, T123_1, T123_2, T123_3, T123_4, T123_5, T123_6, T123_7, T123_8, T123_9, T123_10, T123_11, T123_12, T123_13, T123_14, T123_15, T123_16, T123_17, T123_18, T123_19, T123_20, T123_21, T123_22, T123_23, T123_24, T123_25, T123_26, T123_27, T123_28, T123_29, T123_30, T123_31, T123_32, T123_33, T123_34, T123_35, T123_36, T123_37, T123_38, T123_39, T123_40, T123_41, T123_42, T123_43, T123_44, MJ123_j45, T123_46, T123_47, T123_48, T123_49, T123_50, br, vz, vg, vs, v2, wi, wk, shr, iri, ca, cag, cf, cfg, lc, ln, lf, lxe, fl, st, vwr, lr]
     rw [mid, mab, e0]
     generalize (i + j) / 2 = h at *
     have e3 : ((((a + b) / 2 + m - 1 : Nat) : Int)) - (h : Int) = (((a + b) / 2 + m - 1 - h : Nat) : Int) := by omega
     have p1 : (a + b) / 2 + m - 1 - h < l.length := by omega
     rw [e3]
     generalize (a + b) / 2 + m - 1 - h = p at *
     have r1 : (0 : Int) ≤ (h : Int) ∧ (h : Int) < (l.length : Int) := by omega
     have r2 : (0 : Int) ≤ (p : Int) ∧ (p : Int) < (l.length : Int) := by omega
     have w2 : -9223372036854775808 ≤ (h : Int) + 1 ∧ (h : Int) + 1 < 9223372036854775808 := by omega
     have w3 : -9223372036854775808 ≤ (p : Int) ∧ (p : Int) < 9223372036854775808 := by omega
     have e1 : l[h]? = some (l.getD h Rw.z) := by rw [List.getD_eq_getElem?_getD, List.getElem?_eq_getElem (by omega)]; rfl
     have e2 : l[p]? = some (l.getD p Rw.z) := by rw [List.getD_eq_getElem?_getD, List.getElem?_eq_getElem (by omega)]; rfl
     simp only [g', w1, w2, w3, r1, r2, e1, e2, hp, hc, hone, decide_true, decide_false, Bool.not_true, Bool.not_false, Bool.false_eq_true, if_true, if_false, and_self, Int.toNat_natCast, Option.bind_some]
     try rfl
    rw [loopM, hB]
    exact q2
  ·have g' : ¬ (i : Int) < (j : Int) := by omega
   refine ⟨i, j, by rw [P_symMerge_L5, decide_eq_false g', cond_false], ?_, Nat.le_refl _, hij⟩
   have hB : B123_5 l (a : Int) (m : Int) (b : Int) pf ((i : Int), (j : Int)) = some (.ex (i : Int)) := by
    dsimp only [B123_5, T123_1, T123_2, T123_3, T123_4, T123_5, T123_6, T123_7, T123_8, T123_9, T123_10, T123_11, T123_12, T123_13, T123_14, T123_15, T123_16, T123_17, T123_18, T123_19, T123_20, T123_21, T123_22, T123_23, T123_24, T123_25, T123_26, T123_27, T123_28, T123_29, T123_30, T123_31, T123_32, T123_33, T123_34, T123_35, T123_36, T123_37, T123_38, T123_39, T123_40, T123_41, T123_42, T123_43, T123_44, MJ123_j45, T123_46, T123_47, T123_48, T123_49, T123_50, br, vz, vg, vs, v2, wi, wk, shr, iri, ca, cag, cf, cfg, lc, ln, lf, lxe, fl, st, vwr, lr]
    simp only [g', decide_false, Bool.false_eq_true, if_false]
   rw [loopM, hB]
theorem m123_L6 (l : List α) (a m b : Nat) (pf : α → α → Option Int) (cmp : α → α → Int) (hp : ∀ x y, pf x y = some (cmp x y)) (hl : l.length ≤ 1048576) (h1 : a < m) (h2 : m < b) (h3 : b ≤ l.length) : ∀ (d i j N fu : Nat), j - i ≤ d → d < N → j - i < fu → i ≤ j → j ≤ (a + b) / 2 + m ∧ j ≤ l.length → (a + b) / 2 + m ≤ l.length + i →
  ∃ i' j', P_symMerge_L6 (Rw.z : α) l a m b cmp fu i j = .inl (i', j') ∧ loopM (B123_5 l (a : Int) (m : Int) (b : Int) pf) N ((i : Int), (j : Int)) = some (.inl (i' : Int)) ∧ i ≤ i' ∧ i' ≤ j
 | d, i, j, N, fu, hd, hN, hf, hij, hj, hi => by
  obtain ⟨N, rfl⟩ : ∃ m, N = m + 1 := ⟨N - 1, by omega⟩
  obtain ⟨fu, rfl⟩ : ∃ m, fu = m + 1 := ⟨fu - 1, by omega⟩
  by_cases g : i < j
  ·obtain ⟨d, rfl⟩ : ∃ m, d = m + 1 := ⟨d - 1, by omega⟩
   have g' : (i : Int) < (j : Int) := by omega
   have hh1 : i ≤ (i + j) / 2 := by omega
   have hh2 : (i + j) / 2 < j := by omega
   have mid := midN (x := i) (y := j) (by omega)
   have mab := midN (x := a) (y := b) (by omega)
   have e0 : (((a + b) / 2 : Nat) : Int) + (m : Int) - 1 = (((a + b) / 2 + m - 1 : Nat) : Int) := by omega
   have w1 : -9223372036854775808 ≤ (i : Int) + (j : Int) ∧ (i : Int) + (j : Int) < 9223372036854775808 := by omega
   have hone : (0 : Int) ≤ 1 := by decide
   by_cases hc : cmp (l.getD ((a + b) / 2 + m - 1 - (i + j) / 2) Rw.z) (l.getD ((i + j) / 2) Rw.z) < 0
   ·obtain ⟨i', j', q1, q2, q3, q4⟩ := m123_L6 l a m b pf cmp hp hl h1 h2 h3 d i ((i + j) / 2) N fu (by omega) (by omega) (by omega) (by omega) (by omega) (by omega)
    refine ⟨i', j', by rw [P_symMerge_L6, decide_eq_true g', cond_true, decide_eq_true hc]; exact q1, ?_, by omega, by omega⟩
    have hB : B123_5 l (a : Int) (m : Int) (b : Int) pf ((i : Int), (j : Int)) = some (.nx ((i : Int), (((i + j) / 2 : Nat) : Int))) := by
     dsimp only [B123_5, T123_1, T123_2, T123_3, T123_4, T123_5, T123_6, T123_7, T123_8, T123_9, T123_10, T123_11, T123_12, T123_13, T123_14, T123_15, T123_16, T123_17, T123_18, T123_19, T123_20, T123_21, T123_22, T123_23, T123_24, T123_25, T123_26, T123_27, T123_28, T123_29, T123_30, T123_31, T123_32, T123_33, T123_34, T123_35, T123_36, T123_37, T123_38, T123_39, T123_40, T123_41, T123_42, T123_43, T123_44, MJ123_j45, T123_46, T123_47, T123_48, T123_49, T123_50, br, vz, vg, vs, v2, wi, wk, shr, iri, ca, cag, cf, cfg, lc, ln, lf, lxe, fl, st, vwr, lr]
     rw [mid, mab, e0]
     generalize (i + j) / 2 = h at *
     have e3 : ((((a + b) / 2 + m - 1 : Nat) : Int)) - (h : Int) = (((a + b) / 2 + m - 1 - h : Nat) : Int) := by omega
     have p1 : (a + b) / 2 + m - 1 - h < l.length := by omega
     rw [e3]
     generalize (a + b) / 2 + m - 1 - h = p at *
     have r1 : (0 : Int) ≤ (h : Int) ∧ (h : Int) < (l.length : Int) := by omega
     have r2 : (0 : Int) ≤ (p : Int) ∧ (p : Int) < (l.length : Int) := by omega
     have w2 : -9223372036854775808 ≤ (h : Int) + 1 ∧ (h : Int) + 1 < 9223372036854775808 := by omega
     have w3 : -9223372036854775808 ≤ (p : Int) ∧ (p : Int) < 9223372036854775808 := by omega
     have e1 : l[h]? = some (l.getD h Rw.z) := by rw [List.getD_eq_getElem?_getD, List.getElem?_eq_getElem (by omega)]; rfl
     have e2 : l[p]? = some (l.getD p Rw.z) := by rw [List.getD_eq_getElem?_getD, List.getElem?_eq_getElem (by omega)]; rfl
     simp only [g', w1, w2, w3, r1, r2, e1, e2, hp, hc, hone, decide_true, decide_false, Bool.not_true, Bool.not_false, Bool.false_eq_true, if_true, if_false, and_self, Int.toNat_natCast, Option.bind_some]
     try rfl
    rw [loopM, hB]
    exact q2
   ·obtain ⟨i', j', q1, q2, q3, q4⟩ := m123_L6 l a m b pf cmp hp hl h1 h2 h3 d ((i + j) / 2 + 1) j N fu (by omega) (by omega) (by omega) (by omega) (by omega) (by omega)
    refine ⟨i', j', by rw [P_symMerge_L6, decide_eq_true g', cond_true, decide_eq_false hc]; exact q1, ?_, by omega, by omega⟩
    have hB : B123_5 l (a : Int) (m : Int) (b : Int) pf ((i : Int), (j : Int)) = some (.nx (((((i + j) / 2 : Nat) : Int) + 1), (j : Int))) := by
     dsimp only [B123_5, T123_1, T123_2, T123_3, T123_4, T123_5, T123_6, T123_7, T123_8, T123_9, T123_10, T123_11, T123_12, T123_13, T123_14, T123_15, T123_16, T123_17, T123_18, T123_19, T123_20, T123_21, T123_22, T123_23, T123_24, T123_25, T123_26, T123_27, T123_28, T123_29, T123_30, T123_31, T123_32, T123_33, T123_34, T123_35, T123_36, T123_37, T123_38, T123_39, T123_40, T123_41, T123_42, T123_43, T123_44, MJ123_j45, T123_46, T123_47, T123_48, T123_49, T123_50, br, vz, vg, vs, v2, wi, wk, shr, iri, ca, cag, cf, cfg, lc, ln, lf, lxe, fl, st, vwr, lr]
     rw [mid, mab, e0]
     generalize (i + j) / 2 = h at *
     have e3 : ((((a + b) / 2 + m - 1 : Nat) : Int)) - (h : Int) = (((a + b) / 2 + m - 1 - h : Nat) : Int) := by omega
     have p1 : (a + b) / 2 + m - 1 - h < l.length := by omega
     rw [e3]
     generalize (a + b) / 2 + m - 1 - h = p at *
     have r1 : (0 : Int) ≤ (h : Int) ∧ (h : Int) < (l.length : Int) := by omega
     have r2 : (0 : Int) ≤ (p : Int) ∧ (p : Int) < (l.length : Int) := by omega
     have w2 : -9223372036854775808 ≤ (h : Int) + 1 ∧ (h : Int) + 1 < 9223372036854775808 := by omega
     have w3 : -9223372036854775808 ≤ (p : Int) ∧ (p : Int) < 9223372036854775808 := by omega
     have e1 : l[h]? = some (l.getD h Rw.z) := by rw [List.getD_eq_getElem?_getD, List.getElem?_eq_getElem (by omega)]; rfl
     have e2 : l[p]? = some (l.getD p Rw.z) := by rw [List.getD_eq_getElem?_getD, List.getElem?_eq_getElem (by omega)]; rfl
     simp only [g', w1, w2, w3, r1, r2, e1, e2, hp, hc, hone, decide_true, decide_false, Bool.not_true, Bool.not_false, Bool.false_eq_true, if_true, if_false, and_self, Int.toNat_natCast, Option.bind_some]
     try rfl
    rw [loopM, hB]
    exact q2
  ·have g' : ¬ (i : Int) < (j : Int) := by omega
   refine ⟨i, j, by rw [P_symMerge_L6, decide_eq_false g', cond_false], ?_, Nat.le_refl _, hij⟩
   have hB : B123_5 l (a : Int) (m : Int) (b : Int) pf ((i : Int), (j : Int)) = some (.ex (i : Int)) := by
    dsimp only [B123_5, T123_1, T123_2, T123_3, T123_4, T123_5, T123_6, T123_7, T123_8, T123_9, T123_10, T123_11, T123_12, T123_13, T123_14, T123_15, T123_16, T123_17, T123_18, T123_19, T123_20, T123_21, T123_22, T123_23, T123_24, T123_25, T123_26, T123_27, T123_28, T123_29, T123_30, T123_31, T123_32, T123_33, T123_34, T123_35, T123_36, T123_37, T123_38, T123_39, T123_40, T123_41, T123_42, T123_43, T123_44, MJ123_j45, T123_46, T123_47, T123_48, T123_49, T123_50, br, vz, vg, vs, v2, wi, wk, shr, iri, ca, cag, cf, cfg, lc, ln, lf, lxe, fl, st, vwr, lr]
    simp only [g', decide_false, Bool.false_eq_true, if_false]
   rw [loopM, hB]
end
end Go.Proofs.Ythagpbkmakocjaa
namespace Go.Proofs.Ythagpbkmakocjaa
set_option linter.all false
open Go Go.Eng
theorem tailX {α : Type} (z : α) (fu : Nat) (l : List α) (a m b : Nat) (cf : α → α → Int) (s : Nat) :
  (cond ((decide (((s : Nat) : Int) < ((m : Nat) : Int)) && decide (((m : Nat) : Int) < (((((a + b) / 2) + m) - s : Nat) : Int)))) (cond ((decide (((a : Nat) : Int) < ((s : Nat) : Int)) && decide (((s : Nat) : Int) < (((a + b) / 2 : Nat) : Int)))) (cond ((decide ((((a + b) / 2 : Nat) : Int) < (((((a + b) / 2) + m) - s : Nat) : Int)) && decide ((((((a + b) / 2) + m) - s : Nat) : Int) < ((b : Nat) : Int)))) ((P_symMerge z fu (P_symMerge z fu (P_rotate z l s m ((((a + b) / 2) + m) - s) cf) a s ((a + b) / 2) cf) ((a + b) / 2) ((((a + b) / 2) + m) - s) b cf)) ((P_symMerge z fu (P_rotate z l s m ((((a + b) / 2) + m) - s) cf) a s ((a + b) / 2) cf))) (cond ((decide ((((a + b) / 2 : Nat) : Int) < (((((a + b) / 2) + m) - s : Nat) : Int)) && decide ((((((a + b) / 2) + m) - s : Nat) : Int) < ((b : Nat) : Int)))) ((P_symMerge z fu (P_rotate z l s m ((((a + b) / 2) + m) - s) cf) ((a + b) / 2) ((((a + b) / 2) + m) - s) b cf)) ((P_rotate z l s m ((((a + b) / 2) + m) - s) cf)))) (cond ((decide (((a : Nat) : Int) < ((s : Nat) : Int)) && decide (((s : Nat) : Int) < (((a + b) / 2 : Nat) : Int)))) (cond ((decide ((((a + b) / 2 : Nat) : Int) < (((((a + b) / 2) + m) - s : Nat) : Int)) && decide ((((((a + b) / 2) + m) - s : Nat) : Int) < ((b : Nat) : Int)))) ((P_symMerge z fu (P_symMerge z fu l a s ((a + b) / 2) cf) ((a + b) / 2) ((((a + b) / 2) + m) - s) b cf)) ((P_symMerge z fu l a s ((a + b) / 2) cf))) (cond ((decide ((((a + b) / 2 : Nat) : Int) < (((((a + b) / 2) + m) - s : Nat) : Int)) && decide ((((((a + b) / 2) + m) - s : Nat) : Int) < ((b : Nat) : Int)))) ((P_symMerge z fu l ((a + b) / 2) ((((a + b) / 2) + m) - s) b cf)) (l)))) = smTail z fu l a m b cf s := by
 unfold smTail
 dsimp only
 generalize (decide (((s : Nat) : Int) < ((m : Nat) : Int)) && decide (((m : Nat) : Int) < (((((a + b) / 2) + m) - s : Nat) : Int))) = c1
 generalize (decide (((a : Nat) : Int) < ((s : Nat) : Int)) && decide (((s : Nat) : Int) < (((a + b) / 2 : Nat) : Int))) = c2
 generalize (decide ((((a + b) / 2 : Nat) : Int) < (((((a + b) / 2) + m) - s : Nat) : Int)) && decide ((((((a + b) / 2) + m) - s : Nat) : Int) < ((b : Nat) : Int))) = c3
 cases c1 <;> cases c2 <;> cases c3 <;> rfl
section
variable {α : Type} [Rw α] [Tid α]
theorem m123_T (R : List α → Int → Int → Int → (α → α → Option Int) → Option (List α)) (pf : α → α → Option Int) (cmp : α → α → Int) (fu : Nat)
  (ih : ∀ (l : List α) (a m b : Nat), l.length ≤ 1048576 → b - a < fu → a < m → m < b → b ≤ l.length → R l (a : Int) (m : Int) (b : Int) pf = some (P_symMerge Rw.z fu l a m b cmp) ∧ (P_symMerge (Rw.z : α) fu l a m b cmp).length = l.length)
  (l : List α) (a m b s : Nat) (hl : l.length ≤ 1048576) (hf : b - a < fu + 1) (h1 : a < m) (h2 : m < b) (h3 : b ≤ l.length) (h4 : 4 ≤ b - a) (h5 : s ≤ (a + b) / 2) (h6 : (a + b) / 2 + m ≤ b + s) :
  (T123_44 l (a : Int) (m : Int) (b : Int) pf R (s : Int)).m = some (smTail (Rw.z : α) fu l a m b cmp s) ∧ (smTail (Rw.z : α) fu l a m b cmp s).length = l.length := by
 have mab := midN (x := a) (y := b) (by omega)
 have e3 : (((a + b) / 2 : Nat) : Int) + (m : Int) - (s : Int) = (((a + b) / 2 + m - s : Nat) : Int) := by omega
 have w : -9223372036854775808 ≤ (((a + b) / 2 + m - s : Nat) : Int) ∧ (((a + b) / 2 + m - s : Nat) : Int) < 9223372036854775808 := by omega
 have g1 : a < (a + b) / 2 := by omega
 have g2 : (a + b) / 2 < b := by omega
 unfold smTail
 dsimp only [T123_1, T123_2, T123_3, T123_4, T123_5, T123_6, T123_7, T123_8, T123_9, T123_10, T123_11, T123_12, T123_13, T123_14, T123_15, T123_16, T123_17, T123_18, T123_19, T123_20, T123_21, T123_22, T123_23, T123_24, T123_25, T123_26, T123_27, T123_28, T123_29, T123_30, T123_31, T123_32, T123_33, T123_34, T123_35, T123_36, T123_37, T123_38, T123_39, T123_40, T123_41, T123_42, T123_43, T123_44, MJ123_j45, T123_46, T123_47, T123_48, T123_49, T123_50, br, vz, vg, vs, v2, wi, wk, shr, iri, ca, cag, cf, cfg, lc, ln, lf, lxe, fl, st, vwr, lr]
 rw [mab, e3]
 generalize (a + b) / 2 = h at *
 generalize h + m - s = e at *
 simp only [w, and_self, if_true]
 have g3 : e ≤ b := by omega
 by_cases c1 : s < m ∧ m < e <;> by_cases c2 : a < s ∧ s < h <;> by_cases c3 : h < e ∧ e < b
 ·
   have hr := m137 l s m e cmp hl c1.1 c1.2 (by omega)
   have lr0 := (rot_law (z := (Rw.z : α)) l s m e cmp c1.1 c1.2 (by omega)).1
   obtain ⟨i2, j2⟩ := ih (P_rotate (Rw.z : α) l s m e cmp) a s h (by omega) (by omega) c2.1 c2.2 (by omega)
   obtain ⟨i3, j3⟩ := ih (P_symMerge (Rw.z : α) fu (P_rotate (Rw.z : α) l s m e cmp) a s h cmp) h e b (by omega) (by omega) c3.1 c3.2 (by omega)
   simp only [and_dec c1, and_dec c2, and_dec c3, hr, lr0, i2, j2, i3, j3, Bool.false_eq_true, if_true, if_false, Option.bind_some, cond_true, cond_false]
   first | exact ⟨trivial, trivial⟩ | exact ⟨trivial, by omega⟩
 ·
   have hr := m137 l s m e cmp hl c1.1 c1.2 (by omega)
   have lr0 := (rot_law (z := (Rw.z : α)) l s m e cmp c1.1 c1.2 (by omega)).1
   obtain ⟨i2, j2⟩ := ih (P_rotate (Rw.z : α) l s m e cmp) a s h (by omega) (by omega) c2.1 c2.2 (by omega)
   simp only [and_dec c1, and_dec c2, and_dec' c3, hr, lr0, i2, j2, Bool.false_eq_true, if_true, if_false, Option.bind_some, cond_true, cond_false]
   first | exact ⟨trivial, trivial⟩ | exact ⟨trivial, by omega⟩
 ·
   have hr := m137 l s m e cmp hl c1.1 c1.2 (by omega)
   have lr0 := (rot_law (z := (Rw.z : α)) l s m e cmp c1.1 c1.2 (by omega)).1
   obtain ⟨i3, j3⟩ := ih (P_rotate (Rw.z : α) l s m e cmp) h e b (by omega) (by omega) c3.1 c3.2 (by omega)
   simp only [and_dec c1, and_dec' c2, and_dec c3, hr, lr0, i3, j3, Bool.false_eq_true, if_true, if_false, Option.bind_some, cond_true, cond_false]
   first | exact ⟨trivial, trivial⟩ | exact ⟨trivial, by omega⟩
 ·
   have hr := m137 l s m e cmp hl c1.1 c1.2 (by omega)
   have lr0 := (rot_law (z := (Rw.z : α)) l s m e cmp c1.1 c1.2 (by omega)).1
   simp only [and_dec c1, and_dec' c2, and_dec' c3, hr, lr0, Bool.false_eq_true, if_true, if_false, Option.bind_some, cond_true, cond_false]
   first | exact ⟨trivial, trivial⟩ | exact ⟨trivial, by omega⟩
 ·
   obtain ⟨i2, j2⟩ := ih l a s h (by omega) (by omega) c2.1 c2.2 (by omega)
   obtain ⟨i3, j3⟩ := ih (P_symMerge (Rw.z : α) fu l a s h cmp) h e b (by omega) (by omega) c3.1 c3.2 (by omega)
   simp only [and_dec' c1, and_dec c2, and_dec c3, i2, j2, i3, j3, Bool.false_eq_true, if_true, if_false, Option.bind_some, cond_true, cond_false]
   first | exact ⟨trivial, trivial⟩ | exact ⟨trivial, by omega⟩
 ·
   obtain ⟨i2, j2⟩ := ih l a s h (by omega) (by omega) c2.1 c2.2 (by omega)
   simp only [and_dec' c1, and_dec c2, and_dec' c3, i2, j2, Bool.false_eq_true, if_true, if_false, Option.bind_some, cond_true, cond_false]
   first | exact ⟨trivial, trivial⟩ | exact ⟨trivial, by omega⟩
 ·
   obtain ⟨i3, j3⟩ := ih l h e b (by omega) (by omega) c3.1 c3.2 (by omega)
   simp only [and_dec' c1, and_dec' c2, and_dec c3, i3, j3, Bool.false_eq_true, if_true, if_false, Option.bind_some, cond_true, cond_false]
   first | exact ⟨trivial, trivial⟩ | exact ⟨trivial, by omega⟩
 ·
   simp only [and_dec' c1, and_dec' c2, and_dec' c3, Bool.false_eq_true, if_true, if_false, Option.bind_some, cond_true, cond_false]
   first | exact ⟨trivial, trivial⟩ | exact ⟨trivial, by omega⟩
theorem mer123 {pf : α → α → Option Int} {cmp : α → α → Int} (hp : ∀ x y, pf x y = some (cmp x y)) : MerG pf cmp := by
 intro fu
 induction fu with
 | zero => intro l a m b _ h; omega
 | succ fu ih =>
  intro l a m b hl hf h1 h2 h3
  rw [P_symMerge]
  show (T123_50 l (a : Int) (m : Int) (b : Int) pf (M_symMergeCmpFunc fu)).m = _ ∧ _
  have wa : -9223372036854775808 ≤ ((m - a : Nat) : Int) ∧ ((m - a : Nat) : Int) < 9223372036854775808 := by omega
  have wb : -9223372036854775808 ≤ ((b - m : Nat) : Int) ∧ ((b - m : Nat) : Int) < 9223372036854775808 := by omega
  have ea : (m : Int) - (a : Int) = ((m - a : Nat) : Int) := by omega
  have eb : (b : Int) - (m : Int) = ((b - m : Nat) : Int) := by omega
  by_cases k1 : m - a = 1
  ·have k1' : ((m - a : Nat) : Int) = 1 := by omega
   obtain ⟨i, j, p1, p2, p3, p4⟩ := m123_1 l a pf cmp hp hl (by omega) (b - m) m b big (b - m + 1) (Nat.le_refl _) (big_gt (by omega)) (Nat.lt_succ_self _) (by omega) h3
   obtain ⟨i2, v, q1, q2, q3⟩ := m123_2 l pf (i, j) hl (show 1 ≤ i by omega) (show i ≤ l.length by omega) (i - 1 - a) a l big (i - a + 1) (Nat.le_refl _) (big_gt (by omega)) (by dsimp only; omega) rfl (by omega)
   dsimp only [T123_50, T123_5, T123_4, T123_3, br, vz, vg, vs, v2, wi, wk, shr, iri, ca, cag, cf, cfg, lc, ln, lf, lxe, fl, st, vwr, lr]
   simp only [ea, wa, k1', decide_true, if_true, and_self, cond_true, p1, p2, q1, q2, Option.bind_some, Sum.elim_inl]
   exact ⟨if_pos (by decide), q3⟩
  ·have k1' : ¬ ((m - a : Nat) : Int) = 1 := by omega
   by_cases k2 : b - m = 1
   ·have k2' : ((b - m : Nat) : Int) = 1 := by omega
    obtain ⟨i, j, p1, p2, p3, p4⟩ := m123_3 l m pf cmp hp hl (by omega) (m - a) a m big (m - a + 1) (Nat.le_refl _) (big_gt (by omega)) (Nat.lt_succ_self _) (by omega) (by omega)
    obtain ⟨i2, v, q1, q2, q3⟩ := m123_4 l pf (i, j) hl m l big (m + 1) (big_gt (by omega)) (Nat.lt_succ_self _) rfl (by omega)
    dsimp only [T123_50, T123_49, T123_48, T123_10, T123_9, T123_8, br, vz, vg, vs, v2, wi, wk, shr, iri, ca, cag, cf, cfg, lc, ln, lf, lxe, fl, st, vwr, lr]
    simp only [ea, wa, k1', eb, wb, k2', decide_true, decide_false, Bool.false_eq_true, if_true, if_false, and_self, cond_true, cond_false, p1, p2, q1, q2, Option.bind_some, Sum.elim_inl]
    exact ⟨if_pos (by decide), q3⟩
   ·have k2' : ¬ ((b - m : Nat) : Int) = 1 := by omega
    have mab := midN (x := a) (y := b) (by omega)
    have w1 : -9223372036854775808 ≤ (a : Int) + (b : Int) ∧ (a : Int) + (b : Int) < 9223372036854775808 := by omega
    have e1 : (((a + b) / 2 : Nat) : Int) + (m : Int) = (((a + b) / 2 + m : Nat) : Int) := by omega
    have w2 : -9223372036854775808 ≤ (((a + b) / 2 + m : Nat) : Int) ∧ (((a + b) / 2 + m : Nat) : Int) < 9223372036854775808 := by omega
    have w3 : -9223372036854775808 ≤ (((a + b) / 2 + m : Nat) : Int) - 1 ∧ (((a + b) / 2 + m : Nat) : Int) - 1 < 9223372036854775808 := by omega
    have hone : (0 : Int) ≤ 1 := by decide
    by_cases k3 : (a + b) / 2 < m
    ·have k3' : (((a + b) / 2 : Nat) : Int) < (m : Int) := by omega
     have e4 : (((a + b) / 2 + m : Nat) : Int) - (b : Int) = (((a + b) / 2 + m - b : Nat) : Int) := by omega
     have w4 : -9223372036854775808 ≤ (((a + b) / 2 + m - b : Nat) : Int) ∧ (((a + b) / 2 + m - b : Nat) : Int) < 9223372036854775808 := by omega
     obtain ⟨i, j, p1, p2, p3, p4⟩ := m123_L5 l a m b pf cmp hp hl h1 h2 h3 ((a + b) / 2 - ((a + b) / 2 + m - b)) ((a + b) / 2 + m - b) ((a + b) / 2) big ((a + b) / 2 - ((a + b) / 2 + m - b) + 1) (Nat.le_refl _) (big_gt (by omega)) (Nat.lt_succ_self _) (by omega) (by omega) (by omega)
     obtain ⟨t1, t2⟩ := m123_T (M_symMergeCmpFunc fu) pf cmp fu ih l a m b i hl hf h1 h2 h3 (by omega) (by omega) (by omega)
     have tt := tailX (Rw.z : α) fu l a m b cmp i
     dsimp only [T123_50, T123_49, T123_48, T123_47, T123_46, MJ123_j45, br, vz, vg, vs, v2, wi, wk, shr, iri, ca, cag, cf, cfg, lc, ln, lf, lxe, fl, st, vwr, lr]
     simp only [ea, wa, k1', eb, wb, k2', mab, w1, hone, e1, w2, w3, k3', e4, w4, decide_true, decide_false, Bool.false_eq_true, if_true, if_false, and_self, cond_true, cond_false, p1, p2, Option.bind_some, Sum.elim_inl, t1, tt]
     exact ⟨trivial, t2⟩
    ·have k3' : ¬ (((a + b) / 2 : Nat) : Int) < (m : Int) := by omega
     obtain ⟨i, j, p1, p2, p3, p4⟩ := m123_L6 l a m b pf cmp hp hl h1 h2 h3 (m - a) a m big (m - a + 1) (Nat.le_refl _) (big_gt (by omega)) (Nat.lt_succ_self _) (by omega) (by omega) (by omega)
     obtain ⟨t1, t2⟩ := m123_T (M_symMergeCmpFunc fu) pf cmp fu ih l a m b i hl hf h1 h2 h3 (by omega) (by omega) (by omega)
     have tt := tailX (Rw.z : α) fu l a m b cmp i
     dsimp only [T123_50, T123_49, T123_48, T123_47, T123_46, MJ123_j45, br, vz, vg, vs, v2, wi, wk, shr, iri, ca, cag, cf, cfg, lc, ln, lf, lxe, fl, st, vwr, lr]
     simp only [ea, wa, k1', eb, wb, k2', mab, w1, hone, e1, w2, w3, k3', decide_true, decide_false, Bool.false_eq_true, if_true, if_false, and_self, cond_true, cond_false, p1, p2, Option.bind_some, Sum.elim_inl, t1, tt]
     exact ⟨trivial, t2⟩
end
end Go.Proofs.Ythagpbkmakocjaa
namespace Go.Proofs.Ythagpbkmakocjaa
set_option linter.all false
open Go Go.Eng Go.ChangeShapes Go.WideShapes Go.ChangeAt Go.RowKit
theorem bulk_str {H : Type} (b : List UInt8) : Rows.uptoBulk (DataW.lit (H := H) (.string b)) = b.length + 1 := by simp only [Rows.uptoBulk]
theorem bulk_slice {H : Type} (a b : List (DataW H)) : Rows.uptoBulk (.slice a b) = Rows.uptoBulkAll a + Rows.uptoBulkAll b + 1 := by simp only [Rows.uptoBulk]
theorem bulk_agg {H : Type} (a : List (DataW H)) : Rows.uptoBulk (.agg a) = Rows.uptoBulkAll a + 1 := by simp only [Rows.uptoBulk]
def RepAt (W : World) (ds : List D) (cs : List Value) (o : Nat) : Prop := ∀ (i : Nat) (d : D), ds[i]? = some d → ∃ c, cs[o + i]? = some c ∧ RepD W (· < W.heap.size) d c
def RepCs (W : World) (ds : List D) (cs : List Value) : Prop := ds.length = cs.length ∧ RepAt W ds cs 0
theorem RepAt.app {W : World} {ds es : List D} {cs : List Value} {o : Nat} (h : RepAt W ds cs o) (k : RepAt W es cs (o + ds.length)) : RepAt W (ds ++ es) cs o := fun i d hi => by
 rcases Nat.lt_or_ge i ds.length with hl | hl
 ·rw [List.getElem?_append_left hl] at hi; exact h i d hi
 ·rw [List.getElem?_append_right hl] at hi
  obtain ⟨c, h1, h2⟩ := k _ d hi
  exact ⟨c, by rw [← h1]; congr 1; omega, h2⟩
theorem RepCs.at {W : World} {ds : List D} {cs : List Value} {o k : Nat} (h : RepCs W ds ((cs.drop o).take k)) : RepAt W ds cs o := fun i d hi => by
 obtain ⟨c, h1, h2⟩ := h.2 i d hi
 rw [Nat.zero_add, List.getElem?_take] at h1
 split at h1
 ·rw [List.getElem?_drop] at h1; exact ⟨c, h1, h2⟩
 ·cases h1
mutual
def bk : D → Nat
 | .int _ _ => 0
 | .bool _ => 0
 | .str s => s.size
 | .list es => bkLL es
def bkL : List D → Nat
 | [] => 0
 | d :: l => bk d + bkL l
def bkLL : List (List D) → Nat
 | [] => 0
 | e :: l => bkL e + 1 + bkLL l
end
theorem bkL_app : ∀ a b : List D, bkL (a ++ b) = bkL a + bkL b
 | [], b => by rw [List.nil_append, bkL, Nat.zero_add]
 | d :: a, b => by rw [List.cons_append, bkL, bkL, bkL_app a b, Nat.add_assoc]
theorem bkL_one (d : D) : bkL [d] = bk d := by rw [bkL, bkL, Nat.add_zero]
theorem bk_len {α : Type} {e : α → List D} : ∀ l : List α, l.length ≤ bkLL (l.map e)
 | [] => Nat.zero_le _
 | x :: l => by have := bk_len (e := e) l; rw [List.map_cons, bkLL, List.length_cons]; omega
theorem bk_mem {α : Type} {e : α → List D} {x : α} : ∀ {l : List α}, x ∈ l → bkL (e x) + 1 ≤ bkLL (l.map e)
 | y :: l, h => by
  rw [List.map_cons, bkLL]
  cases List.mem_cons.1 h with
  | inl h => subst h; omega
  | inr h => have := bk_mem (e := e) h; omega
section
variable {H : Type} (enc : TypeId × Value → H) (P : Program) (W : World)
def RdN {α : Type} (n : Nat) (t : TypeId) (e : α → List D) : Prop :=
 ∀ cs x, DataW.trod enc P W 0 (fun _ => true) true n t cs = some x → ∃ v : α, RepCs W (e v) cs ∧ bkL (e v) + 1 ≤ Rows.uptoBulk x.1
end
section
variable {H : Type} {enc : TypeId × Value → H} {P : Program} {W : World} {n : Nat} {t : TypeId}
theorem bulk_one (d : DataW H) : 1 ≤ Rows.uptoBulk d := by cases d <;> (try (rename_i l; cases l)) <;> simp [Rows.uptoBulk]
theorem repCs_one {d : D} {c : Value} (h : RepD W (· < W.heap.size) d c) : RepCs W [d] [c] := ⟨rfl, fun i d' hi => by
 cases i with
 | zero => cases hi; exact ⟨c, rfl, h⟩
 | succ i => simp at hi⟩
theorem rd_int {k : IntKind} (ht : P.underlying t = some (.int k)) : RdN enc P W n t (fun v : Int => [.int k v]) := fun cs x hx => by
 obtain ⟨m, rfl, rfl, _⟩ := DataW.trod_int ht hx
 exact ⟨m, repCs_one (.int _ _), bulk_one _⟩
theorem rd_bool (ht : P.underlying t = some .bool) : RdN enc P W n t (fun v : Bool => [.bool v]) := fun cs x hx => by
 obtain ⟨m, rfl, rfl⟩ := DataW.trod_bool ht hx
 exact ⟨m, repCs_one (.bool _), bulk_one _⟩
theorem rd_str (ht : P.underlying t = some .string) : RdN enc P W n t (fun v : ByteArray => [.str v]) := fun cs x hx => by
 obtain ⟨m, rfl, rfl, _⟩ := DataW.trod_string ht hx
 refine ⟨m, repCs_one (.str _), ?_⟩
 rw [bulk_str, bkL_one]
 exact Nat.le_refl _
theorem bk_all {α : Type} {e : α → List D} : ∀ (l : List α) (xs : List (DataW H × List MemPlace)), l.length = xs.length → (∀ (i : Nat) (v : α), l[i]? = some v → ∃ y : DataW H × List MemPlace, xs[i]? = some y ∧ bkL (e v) + 1 ≤ Rows.uptoBulk y.1) → bkLL (l.map e) ≤ Rows.uptoBulkAll (xs.map (·.1))
 | [], _, _, _ => Nat.zero_le _
 | x :: l, [], h, _ => by cases h
 | x :: l, y :: xs, h, k => by
  have := bk_all l xs (Nat.succ.inj h) (fun i v hi => k (i + 1) v hi)
  obtain ⟨y', h1, h2⟩ := k 0 x rfl
  cases h1
  rw [List.map_cons, List.map_cons, bkLL]
  simp only [Rows.uptoBulkAll]
  omega
theorem list_of {α : Type} {Q : Nat → α → Prop} : ∀ (len : Nat), (∀ i, i < len → ∃ v, Q i v) → ∃ l : List α, l.length = len ∧ ∀ i v, l[i]? = some v → Q i v
 | 0, _ => ⟨[], rfl, fun i v h => by simp at h⟩
 | len + 1, h => by
  obtain ⟨l, h1, h2⟩ := list_of len (fun i hi => h i (by omega))
  obtain ⟨v, hv⟩ := h len (by omega)
  refine ⟨l ++ [v], by simp [h1], fun i w hi => ?_⟩
  rcases Nat.lt_or_ge i l.length with hl | hl
  ·rw [List.getElem?_append_left hl] at hi; exact h2 i w hi
  ·rw [List.getElem?_append_right hl] at hi
   have : i - l.length = 0 := by
    rcases Nat.eq_zero_or_pos (i - l.length) with h0 | h0
    ·exact h0
    ·rw [List.getElem?_eq_none (by simp; omega)] at hi; cases hi
   rw [this] at hi
   cases hi
   have : i = len := by omega
   subst this
   exact hv
theorem rd_slice {α : Type} {e : TypeId} {enc' : α → List D} {sz : Nat} (ht : P.underlying t = some (.slice e)) (hsz : P.cellsOf e = sz) (hs0 : sz ≠ 0) (hl : ∀ x, (enc' x).length = sz) (h : ∀ m, m < n → RdN enc P W m e enc') :
  RdN enc P W n t (fun l : List α => [.list (l.map enc')]) := fun cs x hx => by
 rcases DataW.trod_slice ht hx with ⟨rfl, rfl⟩ | ⟨a, len, cap, elems, rest, m, rfl, rfl, rfl, hb, hlc, hcm, hel, hi, _, _⟩
 ·exact ⟨[], repCs_one .nil, bulk_one _⟩
 ·have each : ∀ i, i < len → ∃ v : α, ∃ y cs', elems[i]? = some y ∧ W.cells? 0 (a.add (i * sz)) sz = some cs' ∧ RepCs W (enc' v) cs' ∧ bkL (enc' v) + 1 ≤ Rows.uptoBulk y.1 := fun i hlt => by
   have h1 := hi i hlt
   rw [List.getElem?_eq_getElem (by omega), hsz] at h1
   obtain ⟨cs', h2, h3⟩ := Option.bind_eq_some_iff.1 h1
   obtain ⟨v, h4, h5⟩ := h m (by omega) cs' _ h3
   exact ⟨v, _, cs', List.getElem?_eq_getElem (by omega), h2, h4, h5⟩
  obtain ⟨l, hll, hlq⟩ := list_of len each
  have cell : ∀ (i j : Nat) (e' : List D) (x : D), (l.map enc')[i]? = some e' → e'[j]? = some x → ∃ c, W.cell? (a.add (i * sz + j)) = some c ∧ RepD W (· < W.heap.size) x c := fun i j e' x hi' hj => by
   rw [List.getElem?_map] at hi'
   cases hv : l[i]? with
   | none => rw [hv] at hi'; cases hi'
   | some v =>
    rw [hv] at hi'
    cases hi'
    obtain ⟨y, cs', g1, g2, g3, g4⟩ := hlq i v hv
    obtain ⟨c, g5, g6⟩ := g3.2 j x hj
    rw [Nat.zero_add] at g5
    obtain ⟨_, g7, g8⟩ := World.cells?_some g2
    have hjl : j < sz := by
     rw [← hl v]
     rcases Nat.lt_or_ge j (enc' v).length with h | h
     ·exact h
     ·rw [List.getElem?_eq_none h] at hj; cases hj
    refine ⟨c, ?_, g6⟩
    rw [← Go.Eng.add_add, g8 j hjl, g5]
  refine ⟨l, repCs_one ?_, ?_⟩
  ·have hlen : (l.map enc').length = len := by simp [hll]
   have := RepD.list (w := W) (S := (· < W.heap.size)) (l.map enc') a sz cap (fun i j => (W.cell? (a.add (i * sz + j))).getD undef) (fun hne => by
     have h0 : 0 < len := by
      rcases Nat.eq_zero_or_pos len with h | h
      ·exact absurd (List.eq_nil_of_length_eq_zero (hlen.trans h)) hne
      ·exact h
     obtain ⟨v, y, cs', _, g2, _⟩ := each 0 h0
     have := World.cells?_block g2 (by omega)
     rw [Nat.zero_mul] at this
     rw [← Go.Eng.block_add a 0]; exact this)
    (by rw [hlen]; exact hlc) (fun e' he => by obtain ⟨y, _, rfl⟩ := List.mem_map.1 he; exact hl y)
    (fun i j e' x hi' hj => by obtain ⟨c, g1, _⟩ := cell i j e' x hi' hj; rw [g1]; rfl)
    (fun i j e' x hi' hj => by obtain ⟨c, g1, g2⟩ := cell i j e' x hi' hj; rw [g1]; exact g2)
   rw [hlen] at this
   exact this
  ·rw [bulk_slice, bkL_one, bk]
   have := bk_all (e := enc') l elems (by omega) (fun i v hv => by
    obtain ⟨y, cs', g1, g2, g3, g4⟩ := hlq i v hv
    exact ⟨y, g1, g4⟩)
   omega
def FB (xs : List (DataW H × List MemPlace)) (i : Nat) : Nat := Rows.uptoBulkAll ((xs.drop i).map (·.1))
theorem bk_app {xs : List (DataW H × List MemPlace)} {i : Nat} {a b : List D} (h : bkL a + 1 + FB xs (i + 1) ≤ FB xs i) (k : bkL b ≤ FB xs (i + 1)) : bkL (a ++ b) ≤ FB xs i := by
 rw [bkL_app]; omega
theorem bk_end {xs : List (DataW H × List MemPlace)} {i : Nat} {a : List D} (h : bkL a + 1 + FB xs (i + 1) ≤ FB xs i) : bkL a ≤ FB xs i := by omega
theorem bk_agg {xs : List (DataW H × List MemPlace)} {a : List D} (h : bkL a ≤ FB xs 0) : bkL a + 1 ≤ Rows.uptoBulk (.agg (xs.map (·.1))) := by
 rw [bulk_agg]; exact Nat.succ_le_succ h
theorem rd_field {α : Type} {e : α → List D} {m i : Nat} {t' : TypeId} {piece : List Value} {xs : List (DataW H × List MemPlace)} (h : RdN enc P W m t' e) (hf : DataW.trod enc P W 0 (fun _ => true) true m t' piece = xs[i]?) (hi : i < xs.length) :
  ∃ v, RepCs W (e v) piece ∧ bkL (e v) + 1 + FB xs (i + 1) ≤ FB xs i := by
 rw [List.getElem?_eq_getElem hi] at hf
 obtain ⟨v, h1, h2⟩ := h _ _ hf
 refine ⟨v, h1, ?_⟩
 unfold FB
 rw [List.drop_eq_getElem_cons hi, List.map_cons]
 simp only [Rows.uptoBulkAll]
 omega
theorem rdN_eq {α : Type} {e e' : α → List D} (he : ∀ x, e x = e' x) (h : RdN enc P W n t e') : RdN enc P W n t e := fun cs x hx => by
 obtain ⟨v, h1, h2⟩ := h cs x hx
 exact ⟨v, by rw [he]; exact h1, by rw [he]; exact h2⟩
theorem arg_slice {α : Type} {e : α → List D} {u : TypeId} {r : Reach} {base : Nat} {v : Value} {d : DataW H} {p : List MemPlace} (rd : ∀ n, RdN enc P W n t (fun l : List α => [.list (l.map e)])) (ht : P.underlying t = some (.slice u)) (hv : Value.okWide P W r base t v)
  (h : DataW.Trod enc P W 0 (fun _ => true) true t v d p) : ∃ x : List α, (∀ Hp m l, RepA W (· < W.heap.size) Hp m l (.d (.list (x.map e))) v) ∧ bk (.list (x.map e)) + 1 ≤ Rows.uptoBulk d := by
 obtain ⟨a, len, cap, rfl⟩ := okWide_slice ht hv
 obtain ⟨n, hn⟩ := h
 obtain ⟨x, h1, h2⟩ := rd n _ _ hn
 obtain ⟨c, h3, h4⟩ := h1.2 0 _ rfl
 have : c = .slice a len cap := by simpa [Value.cells] using h3.symm
 subst this
 exact ⟨x, fun _ _ _ => .d _ _ h4, by rw [← bkL_one]; exact h2⟩
def Hp0 : Hp := fun _ => ⟨0, false, 0, 0, []⟩
theorem ok0 (m : Mu) : Ok 0 Hp0 m (· < W.heap.size) W := ⟨fun _ h => h, fun _ _ h => (by cases h), fun _ _ h => (by cases h), fun _ _ _ _ h => (by cases h), fun _ _ h => (by cases h)⟩
def RepL (w : World) (S : Nat → Prop) (Hp : Hp) (m : Mu) (l : Nat) : List AV → List Value → Prop
 | [], [] => True
 | x :: xs, v :: vs => RepA w S Hp m l x v ∧ RepL w S Hp m l xs vs
 | _, _ => False
theorem args_of {w : World} {S : Nat → Prop} {Hp : Hp} {m : Mu} {l : Nat} {xs : List AV} {vs : List Value} (h : RepL w S Hp m l xs vs) : ArgsRep w S Hp m l xs vs.toArray := by
 suffices hh : xs.length = vs.length ∧ ∀ (i : Nat) (x : AV) (v : Value), xs[i]? = some x → vs[i]? = some v → RepA w S Hp m l x v by
  exact ⟨by simpa using hh.1, fun i x v hx hv => hh.2 i x v hx (by simpa using hv)⟩
 induction xs generalizing vs with
 | nil => cases vs with
  | nil => exact ⟨rfl, fun i x v h => by simp at h⟩
  | cons _ _ => exact h.elim
 | cons x xs ih => cases vs with
  | nil => exact h.elim
  | cons v vs =>
   obtain ⟨h1, h2⟩ := ih h.2
   refine ⟨by simp [h1], fun i y u hy hu => ?_⟩
   cases i with
   | zero => simp at hy hu; subst hy; subst hu; exact h.1
   | succ i => exact h2 i y u (by simpa using hy) (by simpa using hu)
theorem post_true {f : Func} {s : ChangeSpec} {W' : World} {args : Array Value} {ds gs : List (DataW H)} {before : List MemPlace} {u : TypeId} (hW : DataW.Whole enc P f.params.toList s.vars false W args.toList ds gs before) (hvars : s.vars = [])
  (hlaid : laidOutB P = true) (hrd : ∀ t ∈ f.params.toList, P.readableRec t = true ∧ t < P.types.size) (hres : f.resultTypes.toList = [u]) (hu : P.underlying u = some .bool)
  (hfn : s.fn H (ds ++ gs) = { results := [.lit (.bool true)], args := ds }) (hb : Below W.heap.size W W') : s.post enc P f false true false false W args (.bool true) W' := by
 obtain ⟨p, q, hA, hV, rfl, hfz, hnd⟩ := id hW
 rw [hvars] at hV
 obtain ⟨rfl, rfl⟩ := trodVars_none hV
 refine ⟨ds, [], p ++ [], [], p, [], hW, ?_, ?_, ?_, ?_, fun h => by cases h⟩
 ·rw [hfn, hres]
  have : (Value.bool true).resultList f.resultTypes.size = [.bool true] := by
   have : f.resultTypes.size = 1 := by rw [← Array.length_toList, hres]; rfl
   rw [this]; rfl
  rw [this]
  exact trodAll_cons_mk (shut_bool hu _) trodAll_mk0
 ·rw [hfn]
  have key : ∀ (ts : List TypeId) (vs : List Value) (es : List (DataW H)) (ps : List MemPlace), (∀ t ∈ ts, P.readableRec t = true ∧ t < P.types.size) → DataW.TrodAll enc P W 0 (fun _ => true) true ts vs es ps →
    DataW.TrodAll enc P W' 0 (fun b => decide (b < W.heap.size)) true ts vs es ps := by
   intro ts
   induction ts with
   | nil => intro vs es ps _ h; obtain ⟨rfl, rfl, rfl⟩ := trodAll_nil h; exact trodAll_mk0
   | cons t ts ih =>
    intro vs es ps hr h
    have hlt := DataW.TrodAll.lt h
    obtain ⟨v, vs1, d, ds1, a, b, rfl, rfl, rfl, h1, h2⟩ := trodAll_cons h
    exact trodAll_cons_mk (Below.trod hlaid (hr t (by simp)).1 (hr t (by simp)).2 h1 hb (fun x hx => hlt x (List.mem_append_left _ hx))) (ih _ _ _ (fun t ht => hr t (by simp [ht])) h2)
  exact key _ _ _ _ hrd hA
 ·rw [hvars, hfn]; exact rfl
 ·refine ⟨hb.os, hb.output, fun i hi => ?_⟩
  rw [hb.block i hi]
  cases W.heap[i]? with
  | none => rfl
  | some o => cases o <;> simp
end
end Go.Proofs.Ythagpbkmakocjaa
namespace Go.Proofs.Ythagpbkmakocjaa
set_option linter.all false
open Go Go.Eng
section
variable {H : Type} {enc : TypeId × Value → H} {W : World}
set_option maxRecDepth 100000
theorem rd_Raw (n : Nat) : RdN enc Try.prog W n 218 eRaw := fun cs x hx => by
 obtain ⟨xs, m, rfl, rfl, hcl, hxl, hf⟩ := DataW.trod_struct Try.underlying218 hx
 obtain ⟨v0, r0, b0⟩ := rd_field (rd_int Try.underlying3) (hf 0 _ rfl) (by rw [hxl]; exact (by decide : 0 < 4))
 obtain ⟨v1, r1, b1⟩ := rd_field (rd_int Try.underlying3) (hf 1 _ rfl) (by rw [hxl]; exact (by decide : 1 < 4))
 obtain ⟨v2, r2, b2⟩ := rd_field (rd_int Try.underlying45) (hf 2 _ rfl) (by rw [hxl]; exact (by decide : 2 < 4))
 obtain ⟨v3, r3, b3⟩ := rd_field (rd_str Try.underlying9) (hf 3 _ rfl) (by rw [hxl]; exact (by decide : 3 < 4))
 have q := bk_agg (bk_app b0 (bk_app b1 (bk_app b2 (bk_end b3))))
 exact ⟨.mk v0 v1 v2 v3, ⟨by rw [hcl]; kernel_rfl, (r0.at.app (r1.at.app (r2.at.app r3.at)))⟩, q⟩
theorem rd_Pr_of (n : Nat) (h : ∀ k, k < n → RdN enc Try.prog W k 51 eVal) : RdN enc Try.prog W n 214 ePr := fun cs x hx => by
 obtain ⟨xs, m, rfl, rfl, hcl, hxl, hf⟩ := DataW.trod_struct Try.underlying214 hx
 obtain ⟨v0, r0, b0⟩ := rd_field (h m (by omega)) (hf 0 _ rfl) (by rw [hxl]; exact (by decide : 0 < 2))
 obtain ⟨v1, r1, b1⟩ := rd_field (h m (by omega)) (hf 1 _ rfl) (by rw [hxl]; exact (by decide : 1 < 2))
 have q := bk_agg (bk_app b0 (bk_end b1))
 exact ⟨.mk v0 v1, ⟨by rw [hcl]; kernel_rfl, (r0.at.app r1.at)⟩, q⟩
theorem rd_Slt_of (n : Nat) (h : ∀ k, k < n → RdN enc Try.prog W k 51 eVal) : RdN enc Try.prog W n 216 eSlt := fun cs x hx => by
 obtain ⟨xs, m, rfl, rfl, hcl, hxl, hf⟩ := DataW.trod_struct Try.underlying216 hx
 obtain ⟨v0, r0, b0⟩ := rd_field (rd_int Try.underlying3) (hf 0 _ rfl) (by rw [hxl]; exact (by decide : 0 < 2))
 obtain ⟨v1, r1, b1⟩ := rd_field (h m (by omega)) (hf 1 _ rfl) (by rw [hxl]; exact (by decide : 1 < 2))
 have q := bk_agg (bk_app b0 (bk_end b1))
 exact ⟨.mk v0 v1, ⟨by rw [hcl]; kernel_rfl, (r0.at.app r1.at)⟩, q⟩
theorem rd_Val (n : Nat) : RdN enc Try.prog W n 51 eVal := by
 induction n using Nat.strongRecOn with
 | ind n ih =>
 intro cs x hx
 obtain ⟨xs, m, rfl, rfl, hcl, hxl, hf⟩ := DataW.trod_struct Try.underlying51 hx
 obtain ⟨v0, r0, b0⟩ := rd_field (rd_int Try.underlying3) (hf 0 _ rfl) (by rw [hxl]; exact (by decide : 0 < 7))
 obtain ⟨v1, r1, b1⟩ := rd_field (rd_int Try.underlying45) (hf 1 _ rfl) (by rw [hxl]; exact (by decide : 1 < 7))
 obtain ⟨v2, r2, b2⟩ := rd_field (rd_str Try.underlying9) (hf 2 _ rfl) (by rw [hxl]; exact (by decide : 2 < 7))
 obtain ⟨v3, r3, b3⟩ := rd_field (rd_slice Try.underlying46 (by kernel_rfl : Try.prog.cellsOf 51 = 7) (by decide) (fun x => by rw [rVal_eq]; rfl) (fun k hk => (rdN_eq rVal_eq (ih k (by omega))))) (hf 3 _ rfl) (by rw [hxl]; exact (by decide : 3 < 7))
 obtain ⟨v4, r4, b4⟩ := rd_field (rd_slice Try.underlying47 (by kernel_rfl : Try.prog.cellsOf 214 = 14) (by decide) (fun x => by rw [rPr_eq]; rfl) (fun k hk => (rdN_eq rPr_eq (rd_Pr_of k (fun j hj => ih j (by omega)))))) (hf 4 _ rfl) (by rw [hxl]; exact (by decide : 4 < 7))
 obtain ⟨v5, r5, b5⟩ := rd_field (rd_slice Try.underlying48 (by kernel_rfl : Try.prog.cellsOf 216 = 8) (by decide) (fun x => by rw [rSlt_eq]; rfl) (fun k hk => (rdN_eq rSlt_eq (rd_Slt_of k (fun j hj => ih j (by omega)))))) (hf 5 _ rfl) (by rw [hxl]; exact (by decide : 5 < 7))
 obtain ⟨v6, r6, b6⟩ := rd_field (rd_slice Try.underlying49 (by kernel_rfl : Try.prog.cellsOf 218 = 4) (by decide) (fun _ => rfl) (fun k hk => (rd_Raw k))) (hf 6 _ rfl) (by rw [hxl]; exact (by decide : 6 < 7))
 have q := bk_agg (bk_app b0 (bk_app b1 (bk_app b2 (bk_app b3 (bk_app b4 (bk_app b5 (bk_end b6)))))))
 exact ⟨.mk v0 v1 v2 v3 v4 v5 v6, ⟨by rw [hcl]; kernel_rfl, (r0.at.app (r1.at.app (r2.at.app (r3.at.app (r4.at.app (r5.at.app r6.at))))))⟩, q⟩
theorem rd_Typ (n : Nat) : RdN enc Try.prog W n 44 eTyp := fun cs x hx => by
 obtain ⟨xs, m, rfl, rfl, hcl, hxl, hf⟩ := DataW.trod_struct Try.underlying44 hx
 obtain ⟨v0, r0, b0⟩ := rd_field (rd_int Try.underlying3) (hf 0 _ rfl) (by rw [hxl]; exact (by decide : 0 < 2))
 obtain ⟨v1, r1, b1⟩ := rd_field (rd_str Try.underlying9) (hf 1 _ rfl) (by rw [hxl]; exact (by decide : 1 < 2))
 have q := bk_agg (bk_app b0 (bk_end b1))
 exact ⟨.mk v0 v1, ⟨by rw [hcl]; kernel_rfl, (r0.at.app r1.at)⟩, q⟩
theorem rd_Nt (n : Nat) : RdN enc Try.prog W n 159 eNt := fun cs x hx => by
 obtain ⟨xs, m, rfl, rfl, hcl, hxl, hf⟩ := DataW.trod_struct Try.underlying159 hx
 obtain ⟨v0, r0, b0⟩ := rd_field (rd_str Try.underlying9) (hf 0 _ rfl) (by rw [hxl]; exact (by decide : 0 < 2))
 obtain ⟨v1, r1, b1⟩ := rd_field (rd_Val m) (hf 1 _ rfl) (by rw [hxl]; exact (by decide : 1 < 2))
 have q := bk_agg (bk_app b0 (bk_end b1))
 exact ⟨.mk v0 v1, ⟨by rw [hcl]; kernel_rfl, (r0.at.app r1.at)⟩, q⟩
theorem rd_Fld (n : Nat) : RdN enc Try.prog W n 53 eFld := fun cs x hx => by
 obtain ⟨xs, m, rfl, rfl, hcl, hxl, hf⟩ := DataW.trod_struct Try.underlying53 hx
 obtain ⟨v0, r0, b0⟩ := rd_field (rd_int Try.underlying3) (hf 0 _ rfl) (by rw [hxl]; exact (by decide : 0 < 9))
 obtain ⟨v1, r1, b1⟩ := rd_field (rd_str Try.underlying9) (hf 1 _ rfl) (by rw [hxl]; exact (by decide : 1 < 9))
 obtain ⟨v2, r2, b2⟩ := rd_field (rd_int Try.underlying3) (hf 2 _ rfl) (by rw [hxl]; exact (by decide : 2 < 9))
 obtain ⟨v3, r3, b3⟩ := rd_field (rd_int Try.underlying3) (hf 3 _ rfl) (by rw [hxl]; exact (by decide : 3 < 9))
 obtain ⟨v4, r4, b4⟩ := rd_field (rd_Typ m) (hf 4 _ rfl) (by rw [hxl]; exact (by decide : 4 < 9))
 obtain ⟨v5, r5, b5⟩ := rd_field (rd_str Try.underlying9) (hf 5 _ rfl) (by rw [hxl]; exact (by decide : 5 < 9))
 obtain ⟨v6, r6, b6⟩ := rd_field (rd_bool Try.underlying4) (hf 6 _ rfl) (by rw [hxl]; exact (by decide : 6 < 9))
 obtain ⟨v7, r7, b7⟩ := rd_field (rd_Val m) (hf 7 _ rfl) (by rw [hxl]; exact (by decide : 7 < 9))
 obtain ⟨v8, r8, b8⟩ := rd_field (rd_slice Try.underlying37 (by kernel_rfl : Try.prog.cellsOf 159 = 8) (by decide) (fun _ => rfl) (fun k hk => (rd_Nt k))) (hf 8 _ rfl) (by rw [hxl]; exact (by decide : 8 < 9))
 have q := bk_agg (bk_app b0 (bk_app b1 (bk_app b2 (bk_app b3 (bk_app b4 (bk_app b5 (bk_app b6 (bk_app b7 (bk_end b8)))))))))
 exact ⟨.mk v0 v1 v2 v3 v4 v5 v6 v7 v8, ⟨by rw [hcl]; kernel_rfl, (r0.at.app (r1.at.app (r2.at.app (r3.at.app (r4.at.app (r5.at.app (r6.at.app (r7.at.app r8.at))))))))⟩, q⟩
theorem rd_Spn (n : Nat) : RdN enc Try.prog W n 157 eSpn := fun cs x hx => by
 obtain ⟨xs, m, rfl, rfl, hcl, hxl, hf⟩ := DataW.trod_struct Try.underlying157 hx
 obtain ⟨v0, r0, b0⟩ := rd_field (rd_int Try.underlying3) (hf 0 _ rfl) (by rw [hxl]; exact (by decide : 0 < 2))
 obtain ⟨v1, r1, b1⟩ := rd_field (rd_int Try.underlying3) (hf 1 _ rfl) (by rw [hxl]; exact (by decide : 1 < 2))
 have q := bk_agg (bk_app b0 (bk_end b1))
 exact ⟨.mk v0 v1, ⟨by rw [hcl]; kernel_rfl, (r0.at.app r1.at)⟩, q⟩
theorem rd_Msg (n : Nat) : RdN enc Try.prog W n 39 eMsg := fun cs x hx => by
 obtain ⟨xs, m, rfl, rfl, hcl, hxl, hf⟩ := DataW.trod_struct Try.underlying39 hx
 obtain ⟨v0, r0, b0⟩ := rd_field (rd_str Try.underlying9) (hf 0 _ rfl) (by rw [hxl]; exact (by decide : 0 < 5))
 obtain ⟨v1, r1, b1⟩ := rd_field (rd_slice Try.underlying35 (by kernel_rfl : Try.prog.cellsOf 53 = 16) (by decide) (fun _ => rfl) (fun k hk => (rd_Fld k))) (hf 1 _ rfl) (by rw [hxl]; exact (by decide : 1 < 5))
 obtain ⟨v2, r2, b2⟩ := rd_field (rd_slice Try.underlying36 (by kernel_rfl : Try.prog.cellsOf 157 = 2) (by decide) (fun _ => rfl) (fun k hk => (rd_Spn k))) (hf 2 _ rfl) (by rw [hxl]; exact (by decide : 2 < 5))
 obtain ⟨v3, r3, b3⟩ := rd_field (rd_slice Try.underlying34 (by kernel_rfl : Try.prog.cellsOf 9 = 1) (by decide) (fun _ => rfl) (fun k hk => (rd_str Try.underlying9))) (hf 3 _ rfl) (by rw [hxl]; exact (by decide : 3 < 5))
 obtain ⟨v4, r4, b4⟩ := rd_field (rd_slice Try.underlying37 (by kernel_rfl : Try.prog.cellsOf 159 = 8) (by decide) (fun _ => rfl) (fun k hk => (rd_Nt k))) (hf 4 _ rfl) (by rw [hxl]; exact (by decide : 4 < 5))
 have q := bk_agg (bk_app b0 (bk_app b1 (bk_app b2 (bk_app b3 (bk_end b4)))))
 exact ⟨.mk v0 v1 v2 v3 v4, ⟨by rw [hcl]; kernel_rfl, (r0.at.app (r1.at.app (r2.at.app (r3.at.app r4.at))))⟩, q⟩
theorem rd_Itm (n : Nat) : RdN enc Try.prog W n 127 eItm := fun cs x hx => by
 obtain ⟨xs, m, rfl, rfl, hcl, hxl, hf⟩ := DataW.trod_struct Try.underlying127 hx
 obtain ⟨v0, r0, b0⟩ := rd_field (rd_str Try.underlying9) (hf 0 _ rfl) (by rw [hxl]; exact (by decide : 0 < 3))
 obtain ⟨v1, r1, b1⟩ := rd_field (rd_int Try.underlying3) (hf 1 _ rfl) (by rw [hxl]; exact (by decide : 1 < 3))
 obtain ⟨v2, r2, b2⟩ := rd_field (rd_slice Try.underlying37 (by kernel_rfl : Try.prog.cellsOf 159 = 8) (by decide) (fun _ => rfl) (fun k hk => (rd_Nt k))) (hf 2 _ rfl) (by rw [hxl]; exact (by decide : 2 < 3))
 have q := bk_agg (bk_app b0 (bk_app b1 (bk_end b2)))
 exact ⟨.mk v0 v1 v2, ⟨by rw [hcl]; kernel_rfl, (r0.at.app (r1.at.app r2.at))⟩, q⟩
theorem rd_Enm (n : Nat) : RdN enc Try.prog W n 42 eEnm := fun cs x hx => by
 obtain ⟨xs, m, rfl, rfl, hcl, hxl, hf⟩ := DataW.trod_struct Try.underlying42 hx
 obtain ⟨v0, r0, b0⟩ := rd_field (rd_str Try.underlying9) (hf 0 _ rfl) (by rw [hxl]; exact (by decide : 0 < 5))
 obtain ⟨v1, r1, b1⟩ := rd_field (rd_bool Try.underlying4) (hf 1 _ rfl) (by rw [hxl]; exact (by decide : 1 < 5))
 obtain ⟨v2, r2, b2⟩ := rd_field (rd_slice Try.underlying40 (by kernel_rfl : Try.prog.cellsOf 127 = 3) (by decide) (fun _ => rfl) (fun k hk => (rd_Itm k))) (hf 2 _ rfl) (by rw [hxl]; exact (by decide : 2 < 5))
 obtain ⟨v3, r3, b3⟩ := rd_field (rd_slice Try.underlying36 (by kernel_rfl : Try.prog.cellsOf 157 = 2) (by decide) (fun _ => rfl) (fun k hk => (rd_Spn k))) (hf 3 _ rfl) (by rw [hxl]; exact (by decide : 3 < 5))
 obtain ⟨v4, r4, b4⟩ := rd_field (rd_slice Try.underlying37 (by kernel_rfl : Try.prog.cellsOf 159 = 8) (by decide) (fun _ => rfl) (fun k hk => (rd_Nt k))) (hf 4 _ rfl) (by rw [hxl]; exact (by decide : 4 < 5))
 have q := bk_agg (bk_app b0 (bk_app b1 (bk_app b2 (bk_app b3 (bk_end b4)))))
 exact ⟨.mk v0 v1 v2 v3 v4, ⟨by rw [hcl]; kernel_rfl, (r0.at.app (r1.at.app (r2.at.app (r3.at.app r4.at))))⟩, q⟩
theorem rd_Mth (n : Nat) : RdN enc Try.prog W n 59 eMth := fun cs x hx => by
 obtain ⟨xs, m, rfl, rfl, hcl, hxl, hf⟩ := DataW.trod_struct Try.underlying59 hx
 obtain ⟨v0, r0, b0⟩ := rd_field (rd_str Try.underlying9) (hf 0 _ rfl) (by rw [hxl]; exact (by decide : 0 < 5))
 obtain ⟨v1, r1, b1⟩ := rd_field (rd_str Try.underlying9) (hf 1 _ rfl) (by rw [hxl]; exact (by decide : 1 < 5))
 obtain ⟨v2, r2, b2⟩ := rd_field (rd_str Try.underlying9) (hf 2 _ rfl) (by rw [hxl]; exact (by decide : 2 < 5))
 obtain ⟨v3, r3, b3⟩ := rd_field (rd_int Try.underlying3) (hf 3 _ rfl) (by rw [hxl]; exact (by decide : 3 < 5))
 obtain ⟨v4, r4, b4⟩ := rd_field (rd_slice Try.underlying37 (by kernel_rfl : Try.prog.cellsOf 159 = 8) (by decide) (fun _ => rfl) (fun k hk => (rd_Nt k))) (hf 4 _ rfl) (by rw [hxl]; exact (by decide : 4 < 5))
 have q := bk_agg (bk_app b0 (bk_app b1 (bk_app b2 (bk_app b3 (bk_end b4)))))
 exact ⟨.mk v0 v1 v2 v3 v4, ⟨by rw [hcl]; kernel_rfl, (r0.at.app (r1.at.app (r2.at.app (r3.at.app r4.at))))⟩, q⟩
theorem rd_Svc (n : Nat) : RdN enc Try.prog W n 57 eSvc := fun cs x hx => by
 obtain ⟨xs, m, rfl, rfl, hcl, hxl, hf⟩ := DataW.trod_struct Try.underlying57 hx
 obtain ⟨v0, r0, b0⟩ := rd_field (rd_str Try.underlying9) (hf 0 _ rfl) (by rw [hxl]; exact (by decide : 0 < 3))
 obtain ⟨v1, r1, b1⟩ := rd_field (rd_slice Try.underlying55 (by kernel_rfl : Try.prog.cellsOf 59 = 5) (by decide) (fun _ => rfl) (fun k hk => (rd_Mth k))) (hf 1 _ rfl) (by rw [hxl]; exact (by decide : 1 < 3))
 obtain ⟨v2, r2, b2⟩ := rd_field (rd_slice Try.underlying37 (by kernel_rfl : Try.prog.cellsOf 159 = 8) (by decide) (fun _ => rfl) (fun k hk => (rd_Nt k))) (hf 2 _ rfl) (by rw [hxl]; exact (by decide : 2 < 3))
 have q := bk_agg (bk_app b0 (bk_app b1 (bk_end b2)))
 exact ⟨.mk v0 v1 v2, ⟨by rw [hcl]; kernel_rfl, (r0.at.app (r1.at.app r2.at))⟩, q⟩
theorem rd_Fil (n : Nat) : RdN enc Try.prog W n 61 eFil := fun cs x hx => by
 obtain ⟨xs, m, rfl, rfl, hcl, hxl, hf⟩ := DataW.trod_struct Try.underlying61 hx
 obtain ⟨v0, r0, b0⟩ := rd_field (rd_str Try.underlying9) (hf 0 _ rfl) (by rw [hxl]; exact (by decide : 0 < 6))
 obtain ⟨v1, r1, b1⟩ := rd_field (rd_str Try.underlying9) (hf 1 _ rfl) (by rw [hxl]; exact (by decide : 1 < 6))
 obtain ⟨v2, r2, b2⟩ := rd_field (rd_slice Try.underlying34 (by kernel_rfl : Try.prog.cellsOf 9 = 1) (by decide) (fun _ => rfl) (fun k hk => (rd_str Try.underlying9))) (hf 2 _ rfl) (by rw [hxl]; exact (by decide : 2 < 6))
 obtain ⟨v3, r3, b3⟩ := rd_field (rd_slice Try.underlying23 (by kernel_rfl : Try.prog.cellsOf 39 = 5) (by decide) (fun _ => rfl) (fun k hk => (rd_Msg k))) (hf 3 _ rfl) (by rw [hxl]; exact (by decide : 3 < 6))
 obtain ⟨v4, r4, b4⟩ := rd_field (rd_slice Try.underlying24 (by kernel_rfl : Try.prog.cellsOf 42 = 5) (by decide) (fun _ => rfl) (fun k hk => (rd_Enm k))) (hf 4 _ rfl) (by rw [hxl]; exact (by decide : 4 < 6))
 obtain ⟨v5, r5, b5⟩ := rd_field (rd_slice Try.underlying25 (by kernel_rfl : Try.prog.cellsOf 57 = 3) (by decide) (fun _ => rfl) (fun k hk => (rd_Svc k))) (hf 5 _ rfl) (by rw [hxl]; exact (by decide : 5 < 6))
 have q := bk_agg (bk_app b0 (bk_app b1 (bk_app b2 (bk_app b3 (bk_app b4 (bk_end b5))))))
 exact ⟨.mk v0 v1 v2 v3 v4 v5, ⟨by rw [hcl]; kernel_rfl, (r0.at.app (r1.at.app (r2.at.app (r3.at.app (r4.at.app r5.at)))))⟩, q⟩
end
end Go.Proofs.Ythagpbkmakocjaa
