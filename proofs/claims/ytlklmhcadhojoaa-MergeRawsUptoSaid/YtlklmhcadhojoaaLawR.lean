/-
  The law MergeRaws: the model of the law is true. Plain Lean.
-/
import Derived.Test.YtlklmhcadhojoaaSh
import Derived.Test.YtlklmhcadhojoaaSx
import Derived.Test.YtlklmhcadhojoaaSrt
namespace Go.Proofs.Ytlklmhcadhojoaa
set_option linter.all false
open Go Go.Eng
theorem raws1_lt (x y : Raw) : M_Raws_1 x y < 0 ↔ x.num < y.num := compare_lt x.num y.num
theorem raws_eq (a b : List Raw) : M_merge_Raws a b = sortR M_Raws_1 (a ++ b) := by
  rw [M_merge_Raws, concat2_Raw, e_SortStable_Raw]
  exact stable_sortR cmpLaw_Raws (a ++ b)
theorem r20_L2 (a b v : List Raw) (i : Nat) : ∀ (fu j : Nat), j < fu → j ≤ v.length → ∃ k, M_wireschemaref20_Raws_L2 a b v i fu j = .inl k ∧
    v.take k = ((v.take j).reverse.dropWhile (fun y => decide (M_Raws_1 ((a ++ b).getD i zRaw) y < 0))).reverse ∧
    v.drop k = ((v.take j).reverse.takeWhile (fun y => decide (M_Raws_1 ((a ++ b).getD i zRaw) y < 0))).reverse ++ v.drop j
  | 0, j, h, _ => absurd h (Nat.not_lt_zero _)
  | fu + 1, 0, h, hj => by
    refine ⟨0, ?_, by simp, by simp⟩
    rw [M_wireschemaref20_Raws_L2]; rfl
  | fu + 1, j + 1, h, hj => by
    have ht : v.take (j + 1) = v.take j ++ [v[j]] := by rw [List.take_succ_eq_append_getElem (by omega)]
    have hd : v.drop j = v[j] :: v.drop (j + 1) := List.drop_eq_getElem_cons (by omega)
    have hg : v.getD j zRaw = v[j] := by rw [List.getD_eq_getElem?_getD, List.getElem?_eq_getElem (by omega)]; rfl
    rw [M_wireschemaref20_Raws_L2, ht, List.reverse_append, List.reverse_cons, List.reverse_nil, List.nil_append, List.singleton_append, List.dropWhile_cons, List.takeWhile_cons, show j + 1 - 1 = j from rfl, hg]
    rw [show (decide ((0 : Int) < ((j + 1 : Nat) : Int))) = true from decide_eq_true (by omega), Bool.true_and]
    by_cases hp : M_Raws_1 ((a ++ b).getD i zRaw) v[j] < 0
    · rw [decide_eq_true ((raws1_lt _ _).1 hp), cond_true, decide_eq_true hp, if_pos rfl, if_pos rfl]
      obtain ⟨k, e1, e2, e3⟩ := r20_L2 a b v i fu j (by omega) (by omega)
      refine ⟨k, e1, e2, ?_⟩
      rw [e3, hd, List.reverse_cons, List.append_assoc]; rfl
    · rw [decide_eq_false (fun e => hp ((raws1_lt _ _).2 e)), cond_false, decide_eq_false hp, if_neg (by decide), if_neg (by decide)]
      refine ⟨j + 1, rfl, ?_, ?_⟩
      · rw [ht]; simp
      · simp
theorem r20_ins (a b v : List Raw) (i : Nat) : ∃ k, M_wireschemaref20_Raws_L2 a b v i (v.length + 1) v.length = .inl k ∧ v.take k ++ [(a ++ b).getD i zRaw] ++ v.drop k = insR M_Raws_1 v ((a ++ b).getD i zRaw) := by
  obtain ⟨k, e1, e2, e3⟩ := r20_L2 a b v i (v.length + 1) v.length (Nat.lt_succ_self _) (Nat.le_refl _)
  refine ⟨k, e1, ?_⟩
  rw [e2, e3, List.take_length, List.drop_length, insR]; simp
theorem r20_L1 (a b : List Raw) : ∀ (fu : Nat) (v : List Raw) (i : Nat), (a ++ b).length - i < fu → i ≤ (a ++ b).length → ∃ j, M_wireschemaref20_Raws_L1 a b fu v i = .inl (((a ++ b).drop i).foldl (insR M_Raws_1) v, j)
  | 0, v, i, h, _ => absurd h (Nat.not_lt_zero _)
  | fu + 1, v, i, h, hi => by
    rw [M_wireschemaref20_Raws_L1]
    by_cases hd : i < (a ++ b).length
    · rw [decide_eq_true (by omega), cond_true]
      obtain ⟨k, e1, e2⟩ := r20_ins a b v i
      rw [e1, Sum.elim_inl, e2]
      obtain ⟨j, e3⟩ := r20_L1 a b fu (insR M_Raws_1 v ((a ++ b).getD i zRaw)) (i + 1) (by omega) (by omega)
      refine ⟨j, ?_⟩
      rw [e3, List.drop_eq_getElem_cons hd, List.foldl_cons, List.getD_eq_getElem?_getD, List.getElem?_eq_getElem hd]; rfl
    · rw [decide_eq_false (by omega), cond_false]
      exact ⟨i, by rw [List.drop_of_length_le (by omega)]; rfl⟩
theorem r20_eq (a b : List Raw) : M_wireschemaref20_Raws a b = sortR M_Raws_1 (a ++ b) := by
  rw [M_wireschemaref20_Raws]
  obtain ⟨j, e⟩ := r20_L1 a b ((a ++ b).length - 0 + 1) [] 0 (by omega) (Nat.zero_le _)
  rw [e]; rfl
theorem awake_true : M_wireschemalaw20_awake = true := by kernel_rfl
theorem MergeRaws_L (a b : List Raw) : ∀ (fu i : Nat), ∃ j, M_wireschemalaw20_MergeRaws_L1 a b fu i = .inl j
  | 0, i => ⟨i, rfl⟩
  | fu + 1, i => by
    rw [M_wireschemalaw20_MergeRaws_L1, raws_eq, r20_eq]
    by_cases hd : i < (sortR M_Raws_1 (a ++ b)).length
    · rw [decide_eq_true (by omega), cond_true]
      have e : decide ((((i - 1 : Nat) : Int)) < 0) = false := decide_eq_false (by omega)
      have hs : (decide ((0 : Int) < ((i : Nat) : Int)) && decide (((sortR M_Raws_1 (a ++ b)).getD i zRaw).num < ((sortR M_Raws_1 (a ++ b)).getD (i - 1) zRaw).num)) = false := by
        by_cases h0 : i = 0
        · subst h0; rfl
        · have hp := sortR_sorted cmpLaw_Raws (a ++ b)
          have := List.pairwise_iff_getElem.1 hp (i - 1) i (by omega) hd (by omega)
          rw [List.getD_eq_getElem?_getD, List.getElem?_eq_getElem hd, List.getD_eq_getElem?_getD, List.getElem?_eq_getElem (by omega)]
          simp only [Option.getD_some]
          rw [decide_eq_false (fun q => this ((raws1_lt _ _).2 q)), Bool.and_false]
      rw [hs]
      simp only [decide_true, Bool.and_true, Bool.not_true, Bool.or_false, cond_false]
      exact MergeRaws_L a b fu (i + 1)
    · rw [decide_eq_false (by omega), cond_false]
      exact ⟨i, rfl⟩
theorem MergeRaws_true (a b : List Raw) : M_wireschemalaw20_MergeRaws a b = true := by
  rw [M_wireschemalaw20_MergeRaws, awake_true, raws_eq, r20_eq, sortR_length, List.length_append]
  cases (decide ((500 : Int) < ((a.length : Nat) : Int)) || decide ((500 : Int) < ((b.length : Nat) : Int))) with
  | true => rfl
  | false =>
    simp only [cond_false, decide_true, Bool.not_true, Bool.or_false]
    obtain ⟨j, e⟩ := MergeRaws_L a b (a.length + b.length - 0 + 1) 0
    rw [e]; rfl
end Go.Proofs.Ytlklmhcadhojoaa
