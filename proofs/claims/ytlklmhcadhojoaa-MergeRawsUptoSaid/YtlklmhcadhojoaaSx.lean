/-
  The models of the sort at an element type are those over any type: by program (poly.py).
-/
import Derived.Test.YtlklmhcadhojoaaSa
import Derived.Test.YtlklmhcadhojoaaSrt
namespace Go.Proofs.Ytlklmhcadhojoaa
set_option linter.all false
open Go Go.Eng
theorem e_swapRange_Raw_L1 (a : Nat) (b : Nat) (n : Nat) : ∀ fu0 v0_10 v0_k00, M_swapRange_Raw_L1 a b n fu0 v0_10 v0_k00 = P_swapRange_L1 zRaw a b n fu0 v0_10 v0_k00
  | 0, _, _ => rfl
  | fu0 + 1, v0_10, v0_k00 => by simp only [M_swapRange_Raw_L1, P_swapRange_L1, e_swapRange_Raw_L1 a b n fu0]
theorem e_swapRange_Raw (l : List Raw) (a : Nat) (b : Nat) (n : Nat) (_cf : Raw → Raw → Int) : M_swapRange_Raw l a b n _cf = P_swapRange zRaw l a b n _cf := by simp only [M_swapRange_Raw, P_swapRange, e_swapRange_Raw_L1]
theorem e_rotate_Raw_L1 (m : Nat) (cf : Raw → Raw → Int) : ∀ fu0 v0_10 v0_11 v0_k00, M_rotate_Raw_L1 m cf fu0 v0_10 v0_11 v0_k00 = P_rotate_L1 zRaw m cf fu0 v0_10 v0_11 v0_k00
  | 0, _, _, _ => rfl
  | fu0 + 1, v0_10, v0_11, v0_k00 => by simp only [M_rotate_Raw_L1, P_rotate_L1, e_rotate_Raw_L1 m cf fu0, e_swapRange_Raw_L1 , e_swapRange_Raw]
theorem e_rotate_Raw (l : List Raw) (a : Nat) (m : Nat) (b : Nat) (cf : Raw → Raw → Int) : M_rotate_Raw l a m b cf = P_rotate zRaw l a m b cf := by simp only [M_rotate_Raw, P_rotate, e_swapRange_Raw_L1 , e_swapRange_Raw , e_rotate_Raw_L1]
theorem e_insSort_Raw_L2 (a : Nat) (cf : Raw → Raw → Int) : ∀ fu1 v1_9 v1_k00, M_insSort_Raw_L2 a cf fu1 v1_9 v1_k00 = P_insSort_L2 zRaw a cf fu1 v1_9 v1_k00
  | 0, _, _ => rfl
  | fu1 + 1, v1_9, v1_k00 => by simp only [M_insSort_Raw_L2, P_insSort_L2, e_insSort_Raw_L2 a cf fu1, e_swapRange_Raw_L1 , e_swapRange_Raw , e_rotate_Raw_L1 , e_rotate_Raw]
theorem e_insSort_Raw_L1 (a : Nat) (b : Nat) (cf : Raw → Raw → Int) : ∀ fu0 v0_8 v0_k00, M_insSort_Raw_L1 a b cf fu0 v0_8 v0_k00 = P_insSort_L1 zRaw a b cf fu0 v0_8 v0_k00
  | 0, _, _ => rfl
  | fu0 + 1, v0_8, v0_k00 => by simp only [M_insSort_Raw_L1, P_insSort_L1, e_insSort_Raw_L1 a b cf fu0, e_swapRange_Raw_L1 , e_swapRange_Raw , e_rotate_Raw_L1 , e_rotate_Raw , e_insSort_Raw_L2]
theorem e_insSort_Raw (l : List Raw) (a : Nat) (b : Nat) (cf : Raw → Raw → Int) : M_insSort_Raw l a b cf = P_insSort zRaw l a b cf := by simp only [M_insSort_Raw, P_insSort, e_swapRange_Raw_L1 , e_swapRange_Raw , e_rotate_Raw_L1 , e_rotate_Raw , e_insSort_Raw_L2 , e_insSort_Raw_L1]
theorem e_symMerge_Raw_L1 (l : List Raw) (a : Nat) (cf : Raw → Raw → Int) : ∀ fu0 v0_10 v0_11, M_symMerge_Raw_L1 l a cf fu0 v0_10 v0_11 = P_symMerge_L1 zRaw l a cf fu0 v0_10 v0_11
  | 0, _, _ => rfl
  | fu0 + 1, v0_10, v0_11 => by simp only [M_symMerge_Raw_L1, P_symMerge_L1, e_symMerge_Raw_L1 l a cf fu0, e_swapRange_Raw_L1 , e_swapRange_Raw , e_rotate_Raw_L1 , e_rotate_Raw , e_insSort_Raw_L2 , e_insSort_Raw_L1 , e_insSort_Raw]
theorem e_symMerge_Raw_L2 (a0 : Nat × Nat) : ∀ fu1 v1_13 v1_k00, M_symMerge_Raw_L2 a0 fu1 v1_13 v1_k00 = P_symMerge_L2 zRaw a0 fu1 v1_13 v1_k00
  | 0, _, _ => rfl
  | fu1 + 1, v1_13, v1_k00 => by simp only [M_symMerge_Raw_L2, P_symMerge_L2, e_symMerge_Raw_L2 a0 fu1, e_swapRange_Raw_L1 , e_swapRange_Raw , e_rotate_Raw_L1 , e_rotate_Raw , e_insSort_Raw_L2 , e_insSort_Raw_L1 , e_insSort_Raw , e_symMerge_Raw_L1]
theorem e_symMerge_Raw_L3 (l : List Raw) (m : Nat) (cf : Raw → Raw → Int) : ∀ fu2 v2_14 v2_15, M_symMerge_Raw_L3 l m cf fu2 v2_14 v2_15 = P_symMerge_L3 zRaw l m cf fu2 v2_14 v2_15
  | 0, _, _ => rfl
  | fu2 + 1, v2_14, v2_15 => by simp only [M_symMerge_Raw_L3, P_symMerge_L3, e_symMerge_Raw_L3 l m cf fu2, e_swapRange_Raw_L1 , e_swapRange_Raw , e_rotate_Raw_L1 , e_rotate_Raw , e_insSort_Raw_L2 , e_insSort_Raw_L1 , e_insSort_Raw , e_symMerge_Raw_L1 , e_symMerge_Raw_L2]
theorem e_symMerge_Raw_L4 (a2 : Nat × Nat) : ∀ fu3 v3_17 v3_k00, M_symMerge_Raw_L4 a2 fu3 v3_17 v3_k00 = P_symMerge_L4 zRaw a2 fu3 v3_17 v3_k00
  | 0, _, _ => rfl
  | fu3 + 1, v3_17, v3_k00 => by simp only [M_symMerge_Raw_L4, P_symMerge_L4, e_symMerge_Raw_L4 a2 fu3, e_swapRange_Raw_L1 , e_swapRange_Raw , e_rotate_Raw_L1 , e_rotate_Raw , e_insSort_Raw_L2 , e_insSort_Raw_L1 , e_insSort_Raw , e_symMerge_Raw_L1 , e_symMerge_Raw_L2 , e_symMerge_Raw_L3]
theorem e_symMerge_Raw_L5 (l : List Raw) (a : Nat) (m : Nat) (b : Nat) (cf : Raw → Raw → Int) : ∀ fu4 v4_20 v4_21, M_symMerge_Raw_L5 l a m b cf fu4 v4_20 v4_21 = P_symMerge_L5 zRaw l a m b cf fu4 v4_20 v4_21
  | 0, _, _ => rfl
  | fu4 + 1, v4_20, v4_21 => by simp only [M_symMerge_Raw_L5, P_symMerge_L5, e_symMerge_Raw_L5 l a m b cf fu4, e_swapRange_Raw_L1 , e_swapRange_Raw , e_rotate_Raw_L1 , e_rotate_Raw , e_insSort_Raw_L2 , e_insSort_Raw_L1 , e_insSort_Raw , e_symMerge_Raw_L1 , e_symMerge_Raw_L2 , e_symMerge_Raw_L3 , e_symMerge_Raw_L4]
theorem e_symMerge_Raw_L6 (l : List Raw) (a : Nat) (m : Nat) (b : Nat) (cf : Raw → Raw → Int) : ∀ fu5 v5_20 v5_21, M_symMerge_Raw_L6 l a m b cf fu5 v5_20 v5_21 = P_symMerge_L6 zRaw l a m b cf fu5 v5_20 v5_21
  | 0, _, _ => rfl
  | fu5 + 1, v5_20, v5_21 => by simp only [M_symMerge_Raw_L6, P_symMerge_L6, e_symMerge_Raw_L6 l a m b cf fu5, e_swapRange_Raw_L1 , e_swapRange_Raw , e_rotate_Raw_L1 , e_rotate_Raw , e_insSort_Raw_L2 , e_insSort_Raw_L1 , e_insSort_Raw , e_symMerge_Raw_L1 , e_symMerge_Raw_L2 , e_symMerge_Raw_L3 , e_symMerge_Raw_L4 , e_symMerge_Raw_L5]
theorem e_symMerge_Raw  : ∀ fu l a m b cf, M_symMerge_Raw  fu l a m b cf = P_symMerge zRaw  fu l a m b cf
  | 0, _, _, _, _, _ => rfl
  | fu + 1, l, a, m, b, cf => by simp only [M_symMerge_Raw, P_symMerge, e_symMerge_Raw  fu, e_swapRange_Raw_L1 , e_swapRange_Raw , e_rotate_Raw_L1 , e_rotate_Raw , e_insSort_Raw_L2 , e_insSort_Raw_L1 , e_insSort_Raw , e_symMerge_Raw_L1 , e_symMerge_Raw_L2 , e_symMerge_Raw_L3 , e_symMerge_Raw_L4 , e_symMerge_Raw_L5 , e_symMerge_Raw_L6]
theorem e_stable_Raw_L1 (n : Nat) (cf : Raw → Raw → Int) : ∀ fu0 v0_7 v0_8 v0_k00, M_stable_Raw_L1 n cf fu0 v0_7 v0_8 v0_k00 = P_stable_L1 zRaw n cf fu0 v0_7 v0_8 v0_k00
  | 0, _, _, _ => rfl
  | fu0 + 1, v0_7, v0_8, v0_k00 => by simp only [M_stable_Raw_L1, P_stable_L1, e_stable_Raw_L1 n cf fu0, e_swapRange_Raw_L1 , e_swapRange_Raw , e_rotate_Raw_L1 , e_rotate_Raw , e_insSort_Raw_L2 , e_insSort_Raw_L1 , e_insSort_Raw , e_symMerge_Raw_L1 , e_symMerge_Raw_L2 , e_symMerge_Raw_L3 , e_symMerge_Raw_L4 , e_symMerge_Raw_L5 , e_symMerge_Raw_L6 , e_symMerge_Raw]
theorem e_stable_Raw_L3 (n : Nat) (cf : Raw → Raw → Int) (v1_6 : Nat) : ∀ fu2 v2_7 v2_8 v2_k00, M_stable_Raw_L3 n cf v1_6 fu2 v2_7 v2_8 v2_k00 = P_stable_L3 zRaw n cf v1_6 fu2 v2_7 v2_8 v2_k00
  | 0, _, _, _ => rfl
  | fu2 + 1, v2_7, v2_8, v2_k00 => by simp only [M_stable_Raw_L3, P_stable_L3, e_stable_Raw_L3 n cf v1_6 fu2, e_swapRange_Raw_L1 , e_swapRange_Raw , e_rotate_Raw_L1 , e_rotate_Raw , e_insSort_Raw_L2 , e_insSort_Raw_L1 , e_insSort_Raw , e_symMerge_Raw_L1 , e_symMerge_Raw_L2 , e_symMerge_Raw_L3 , e_symMerge_Raw_L4 , e_symMerge_Raw_L5 , e_symMerge_Raw_L6 , e_symMerge_Raw , e_stable_Raw_L1]
theorem e_stable_Raw_L2 (n : Nat) (cf : Raw → Raw → Int) : ∀ fu1 v1_6 v1_k00, M_stable_Raw_L2 n cf fu1 v1_6 v1_k00 = P_stable_L2 zRaw n cf fu1 v1_6 v1_k00
  | 0, _, _ => rfl
  | fu1 + 1, v1_6, v1_k00 => by simp only [M_stable_Raw_L2, P_stable_L2, e_stable_Raw_L2 n cf fu1, e_swapRange_Raw_L1 , e_swapRange_Raw , e_rotate_Raw_L1 , e_rotate_Raw , e_insSort_Raw_L2 , e_insSort_Raw_L1 , e_insSort_Raw , e_symMerge_Raw_L1 , e_symMerge_Raw_L2 , e_symMerge_Raw_L3 , e_symMerge_Raw_L4 , e_symMerge_Raw_L5 , e_symMerge_Raw_L6 , e_symMerge_Raw , e_stable_Raw_L1 , e_stable_Raw_L3]
theorem e_stable_Raw (l : List Raw) (n : Nat) (cf : Raw → Raw → Int) : M_stable_Raw l n cf = P_stable zRaw l n cf := by simp only [M_stable_Raw, P_stable, e_swapRange_Raw_L1 , e_swapRange_Raw , e_rotate_Raw_L1 , e_rotate_Raw , e_insSort_Raw_L2 , e_insSort_Raw_L1 , e_insSort_Raw , e_symMerge_Raw_L1 , e_symMerge_Raw_L2 , e_symMerge_Raw_L3 , e_symMerge_Raw_L4 , e_symMerge_Raw_L5 , e_symMerge_Raw_L6 , e_symMerge_Raw , e_stable_Raw_L1 , e_stable_Raw_L3 , e_stable_Raw_L2]
theorem e_SortStable_Raw (l : List Raw) (cf : Raw → Raw → Int) : M_SortStable_Raw l cf = P_SortStable zRaw l cf := by simp only [M_SortStable_Raw, P_SortStable, e_swapRange_Raw_L1 , e_swapRange_Raw , e_rotate_Raw_L1 , e_rotate_Raw , e_insSort_Raw_L2 , e_insSort_Raw_L1 , e_insSort_Raw , e_symMerge_Raw_L1 , e_symMerge_Raw_L2 , e_symMerge_Raw_L3 , e_symMerge_Raw_L4 , e_symMerge_Raw_L5 , e_symMerge_Raw_L6 , e_symMerge_Raw , e_stable_Raw_L1 , e_stable_Raw_L3 , e_stable_Raw_L2 , e_stable_Raw]
end Go.Proofs.Ytlklmhcadhojoaa
