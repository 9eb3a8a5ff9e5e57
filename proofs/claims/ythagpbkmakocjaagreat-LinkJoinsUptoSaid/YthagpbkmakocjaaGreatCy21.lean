import Derived.Test.YthagpbkmakocjaaGreatCy11
namespace Go.Eng
set_option linter.all false
def ZaN {α : Type} (z : α) (a : Nat) (b : Nat) (n : Nat) : Nat → Nat → (List α) → (Nat × List α) ⊕ (List α)
 | 0, v0_10, v0_k00 => .inl (v0_10, v0_k00)
 | fu0 + 1, v0_10, v0_k00 => cond (decide (((v0_10 : Nat) : Int) < ((n : Nat) : Int))) (ZaN z a b n fu0 (v0_10 + 1) ((v0_k00.set (a + v0_10) (v0_k00.getD (b + v0_10) z)).set (b + v0_10) (v0_k00.getD (a + v0_10) z))) (.inl (v0_10, v0_k00))
def Zau {α : Type} (z : α) (l : List α) (a : Nat) (b : Nat) (n : Nat) (_cf : α → α → Int) : List α := Sum.elim (fun a0 => a0.2) (fun v => v) (ZaN z a b n (n - 0 + 1) 0 l)
def Za5 {α : Type} (z : α) (m : Nat) (cf : α → α → Int) : Nat → Nat → Nat → (List α) → (Nat × Nat × List α) ⊕ (List α)
 | 0, v0_10, v0_11, v0_k00 => .inl (v0_10, v0_11, v0_k00)
 | fu0 + 1, v0_10, v0_11, v0_k00 => cond ((!decide (((v0_10 : Nat) : Int) = ((v0_11 : Nat) : Int)))) (cond (decide (((v0_11 : Nat) : Int) < ((v0_10 : Nat) : Int))) (Za5 z m cf fu0 (v0_10 - v0_11) v0_11 (Zau z v0_k00 (m - v0_10) m v0_11 cf)) (Za5 z m cf fu0 v0_10 (v0_11 - v0_10) (Zau z v0_k00 (m - v0_10) ((m + v0_11) - v0_10) v0_10 cf))) (.inl (v0_10, v0_11, v0_k00))
def ZaA {α : Type} (z : α) (l : List α) (a : Nat) (m : Nat) (b : Nat) (cf : α → α → Int) : List α := Sum.elim (fun a0 => (Zau z a0.2.2 (m - a0.1) m a0.1 cf)) (fun v => v) (Za5 z m cf ((m - a) + (b - m) + 1) (m - a) (b - m) l)
def ZaK {α : Type} (z : α) (a : Nat) (cf : α → α → Int) : Nat → Nat → (List α) → (Nat × List α) ⊕ (List α)
 | 0, v1_9, v1_k00 => .inl (v1_9, v1_k00)
 | fu1 + 1, v1_9, v1_k00 => cond ((decide (((a : Nat) : Int) < ((v1_9 : Nat) : Int)) && decide ((cf (v1_k00.getD v1_9 z) (v1_k00.getD (v1_9 - 1) z)) < (0 : Int)))) (ZaK z a cf fu1 (v1_9 - 1) ((v1_k00.set v1_9 (v1_k00.getD (v1_9 - 1) z)).set (v1_9 - 1) (v1_k00.getD v1_9 z))) (.inl (v1_9, v1_k00))
def Za0 {α : Type} (z : α) (a : Nat) (b : Nat) (cf : α → α → Int) : Nat → Nat → (List α) → (Nat × List α) ⊕ (List α)
 | 0, v0_8, v0_k00 => .inl (v0_8, v0_k00)
 | fu0 + 1, v0_8, v0_k00 => cond (decide (((v0_8 : Nat) : Int) < ((b : Nat) : Int))) (Sum.elim (fun a1 => Za0 z a b cf fu0 (v0_8 + 1) a1.2) (fun v => .inr v) (ZaK z a cf (v0_8 + 1) v0_8 v0_k00)) (.inl (v0_8, v0_k00))
def ZaY {α : Type} (z : α) (l : List α) (a : Nat) (b : Nat) (cf : α → α → Int) : List α := Sum.elim (fun a0 => a0.2) (fun v => v) (Za0 z a b cf (b - (a + 1) + 1) (a + 1) l)
def Zaz {α : Type} (z : α) (l : List α) (a : Nat) (cf : α → α → Int) : Nat → Nat → Nat → (Nat × Nat) ⊕ (List α)
 | 0, v0_10, v0_11 => .inl (v0_10, v0_11)
 | fu0 + 1, v0_10, v0_11 => cond (decide (((v0_10 : Nat) : Int) < ((v0_11 : Nat) : Int))) (cond (decide ((cf (l.getD ((v0_10 + v0_11) / 2) z) (l.getD a z)) < (0 : Int))) (Zaz z l a cf fu0 (((v0_10 + v0_11) / 2) + 1) v0_11) (Zaz z l a cf fu0 v0_10 ((v0_10 + v0_11) / 2))) (.inl (v0_10, v0_11))
def ZaQ {α : Type} (z : α) (a0 : Nat × Nat) : Nat → Nat → (List α) → (Nat × List α) ⊕ (List α)
 | 0, v1_13, v1_k00 => .inl (v1_13, v1_k00)
 | fu1 + 1, v1_13, v1_k00 => cond (decide (((v1_13 : Nat) : Int) < ((a0.1 - 1 : Nat) : Int))) (ZaQ z a0 fu1 (v1_13 + 1) ((v1_k00.set v1_13 (v1_k00.getD (v1_13 + 1) z)).set (v1_13 + 1) (v1_k00.getD v1_13 z))) (.inl (v1_13, v1_k00))
def ZaB {α : Type} (z : α) (l : List α) (m : Nat) (cf : α → α → Int) : Nat → Nat → Nat → (Nat × Nat) ⊕ (List α)
 | 0, v2_14, v2_15 => .inl (v2_14, v2_15)
 | fu2 + 1, v2_14, v2_15 => cond (decide (((v2_14 : Nat) : Int) < ((v2_15 : Nat) : Int))) (cond ((!(decide ((cf (l.getD m z) (l.getD ((v2_14 + v2_15) / 2) z)) < (0 : Int))))) (ZaB z l m cf fu2 (((v2_14 + v2_15) / 2) + 1) v2_15) (ZaB z l m cf fu2 v2_14 ((v2_14 + v2_15) / 2))) (.inl (v2_14, v2_15))
def ZaF {α : Type} (z : α) (a2 : Nat × Nat) : Nat → Nat → (List α) → (Nat × List α) ⊕ (List α)
 | 0, v3_17, v3_k00 => .inl (v3_17, v3_k00)
 | fu3 + 1, v3_17, v3_k00 => cond (decide (((a2.1 : Nat) : Int) < ((v3_17 : Nat) : Int))) (ZaF z a2 fu3 (v3_17 - 1) ((v3_k00.set v3_17 (v3_k00.getD (v3_17 - 1) z)).set (v3_17 - 1) (v3_k00.getD v3_17 z))) (.inl (v3_17, v3_k00))
def ZaH {α : Type} (z : α) (l : List α) (a : Nat) (m : Nat) (b : Nat) (cf : α → α → Int) : Nat → Nat → Nat → (Nat × Nat) ⊕ (List α)
 | 0, v4_20, v4_21 => .inl (v4_20, v4_21)
 | fu4 + 1, v4_20, v4_21 => cond (decide (((v4_20 : Nat) : Int) < ((v4_21 : Nat) : Int))) (cond ((!(decide ((cf (l.getD (((((a + b) / 2) + m) - 1) - ((v4_20 + v4_21) / 2)) z) (l.getD ((v4_20 + v4_21) / 2) z)) < (0 : Int))))) (ZaH z l a m b cf fu4 (((v4_20 + v4_21) / 2) + 1) v4_21) (ZaH z l a m b cf fu4 v4_20 ((v4_20 + v4_21) / 2))) (.inl (v4_20, v4_21))
def ZaI {α : Type} (z : α) (l : List α) (a : Nat) (m : Nat) (b : Nat) (cf : α → α → Int) : Nat → Nat → Nat → (Nat × Nat) ⊕ (List α)
 | 0, v5_20, v5_21 => .inl (v5_20, v5_21)
 | fu5 + 1, v5_20, v5_21 => cond (decide (((v5_20 : Nat) : Int) < ((v5_21 : Nat) : Int))) (cond ((!(decide ((cf (l.getD (((((a + b) / 2) + m) - 1) - ((v5_20 + v5_21) / 2)) z) (l.getD ((v5_20 + v5_21) / 2) z)) < (0 : Int))))) (ZaI z l a m b cf fu5 (((v5_20 + v5_21) / 2) + 1) v5_21) (ZaI z l a m b cf fu5 v5_20 ((v5_20 + v5_21) / 2))) (.inl (v5_20, v5_21))
def Zac {α : Type} (z : α) : (Nat) → (List α) → (Nat) → (Nat) → (Nat) → (α → α → Int) → List α
 | 0, l, _, _, _, _ => l
 | fu + 1, l, a, m, b, cf => cond (decide (((m - a : Nat) : Int) = (1 : Int))) (Sum.elim (fun a0 => Sum.elim (fun a1 => a1.2) (fun v => v) (ZaQ z a0 (a0.1 - a + 1) a l)) (fun v => v) (Zaz z l a cf (b - m + 1) m b)) (cond (decide (((b - m : Nat) : Int) = (1 : Int))) (Sum.elim (fun a2 => Sum.elim (fun a3 => a3.2) (fun v => v) (ZaF z a2 (m + 1) m l)) (fun v => v) (ZaB z l m cf (m - a + 1) a m)) (cond (decide ((((a + b) / 2 : Nat) : Int) < ((m : Nat) : Int))) (Sum.elim (fun a4 => cond ((decide (((a4.1 : Nat) : Int) < ((m : Nat) : Int)) && decide (((m : Nat) : Int) < (((((a + b) / 2) + m) - a4.1 : Nat) : Int)))) (cond ((decide (((a : Nat) : Int) < ((a4.1 : Nat) : Int)) && decide (((a4.1 : Nat) : Int) < (((a + b) / 2 : Nat) : Int)))) (cond ((decide ((((a + b) / 2 : Nat) : Int) < (((((a + b) / 2) + m) - a4.1 : Nat) : Int)) && decide ((((((a + b) / 2) + m) - a4.1 : Nat) : Int) < ((b : Nat) : Int)))) ((Zac z fu (Zac z fu (ZaA z l a4.1 m ((((a + b) / 2) + m) - a4.1) cf) a a4.1 ((a + b) / 2) cf) ((a + b) / 2) ((((a + b) / 2) + m) - a4.1) b cf)) ((Zac z fu (ZaA z l a4.1 m ((((a + b) / 2) + m) - a4.1) cf) a a4.1 ((a + b) / 2) cf))) (cond ((decide ((((a + b) / 2 : Nat) : Int) < (((((a + b) / 2) + m) - a4.1 : Nat) : Int)) && decide ((((((a + b) / 2) + m) - a4.1 : Nat) : Int) < ((b : Nat) : Int)))) ((Zac z fu (ZaA z l a4.1 m ((((a + b) / 2) + m) - a4.1) cf) ((a + b) / 2) ((((a + b) / 2) + m) - a4.1) b cf)) ((ZaA z l a4.1 m ((((a + b) / 2) + m) - a4.1) cf)))) (cond ((decide (((a : Nat) : Int) < ((a4.1 : Nat) : Int)) && decide (((a4.1 : Nat) : Int) < (((a + b) / 2 : Nat) : Int)))) (cond ((decide ((((a + b) / 2 : Nat) : Int) < (((((a + b) / 2) + m) - a4.1 : Nat) : Int)) && decide ((((((a + b) / 2) + m) - a4.1 : Nat) : Int) < ((b : Nat) : Int)))) ((Zac z fu (Zac z fu l a a4.1 ((a + b) / 2) cf) ((a + b) / 2) ((((a + b) / 2) + m) - a4.1) b cf)) ((Zac z fu l a a4.1 ((a + b) / 2) cf))) (cond ((decide ((((a + b) / 2 : Nat) : Int) < (((((a + b) / 2) + m) - a4.1 : Nat) : Int)) && decide ((((((a + b) / 2) + m) - a4.1 : Nat) : Int) < ((b : Nat) : Int)))) ((Zac z fu l ((a + b) / 2) ((((a + b) / 2) + m) - a4.1) b cf)) (l)))) (fun v => v) (ZaH z l a m b cf (((a + b) / 2) - ((((a + b) / 2) + m) - b) + 1) ((((a + b) / 2) + m) - b) ((a + b) / 2))) (Sum.elim (fun a5 => cond ((decide (((a5.1 : Nat) : Int) < ((m : Nat) : Int)) && decide (((m : Nat) : Int) < (((((a + b) / 2) + m) - a5.1 : Nat) : Int)))) (cond ((decide (((a : Nat) : Int) < ((a5.1 : Nat) : Int)) && decide (((a5.1 : Nat) : Int) < (((a + b) / 2 : Nat) : Int)))) (cond ((decide ((((a + b) / 2 : Nat) : Int) < (((((a + b) / 2) + m) - a5.1 : Nat) : Int)) && decide ((((((a + b) / 2) + m) - a5.1 : Nat) : Int) < ((b : Nat) : Int)))) ((Zac z fu (Zac z fu (ZaA z l a5.1 m ((((a + b) / 2) + m) - a5.1) cf) a a5.1 ((a + b) / 2) cf) ((a + b) / 2) ((((a + b) / 2) + m) - a5.1) b cf)) ((Zac z fu (ZaA z l a5.1 m ((((a + b) / 2) + m) - a5.1) cf) a a5.1 ((a + b) / 2) cf))) (cond ((decide ((((a + b) / 2 : Nat) : Int) < (((((a + b) / 2) + m) - a5.1 : Nat) : Int)) && decide ((((((a + b) / 2) + m) - a5.1 : Nat) : Int) < ((b : Nat) : Int)))) ((Zac z fu (ZaA z l a5.1 m ((((a + b) / 2) + m) - a5.1) cf) ((a + b) / 2) ((((a + b) / 2) + m) - a5.1) b cf)) ((ZaA z l a5.1 m ((((a + b) / 2) + m) - a5.1) cf)))) (cond ((decide (((a : Nat) : Int) < ((a5.1 : Nat) : Int)) && decide (((a5.1 : Nat) : Int) < (((a + b) / 2 : Nat) : Int)))) (cond ((decide ((((a + b) / 2 : Nat) : Int) < (((((a + b) / 2) + m) - a5.1 : Nat) : Int)) && decide ((((((a + b) / 2) + m) - a5.1 : Nat) : Int) < ((b : Nat) : Int)))) ((Zac z fu (Zac z fu l a a5.1 ((a + b) / 2) cf) ((a + b) / 2) ((((a + b) / 2) + m) - a5.1) b cf)) ((Zac z fu l a a5.1 ((a + b) / 2) cf))) (cond ((decide ((((a + b) / 2 : Nat) : Int) < (((((a + b) / 2) + m) - a5.1 : Nat) : Int)) && decide ((((((a + b) / 2) + m) - a5.1 : Nat) : Int) < ((b : Nat) : Int)))) ((Zac z fu l ((a + b) / 2) ((((a + b) / 2) + m) - a5.1) b cf)) (l)))) (fun v => v) (ZaI z l a m b cf (m - a + 1) a m))))
def Zbl {α : Type} (z : α) (n : Nat) (cf : α → α → Int) : Nat → Nat → Nat → (List α) → (Nat × Nat × List α) ⊕ (List α)
 | 0, v0_7, v0_8, v0_k00 => .inl (v0_7, v0_8, v0_k00)
 | fu0 + 1, v0_7, v0_8, v0_k00 => cond (decide (((v0_8 : Nat) : Int) ≤ ((n : Nat) : Int))) (Zbl z n cf fu0 v0_8 (v0_8 + 20) (ZaY z v0_k00 v0_7 v0_8 cf)) (.inl (v0_7, v0_8, v0_k00))
def Zbj {α : Type} (z : α) (n : Nat) (cf : α → α → Int) (v1_6 : Nat) : Nat → Nat → Nat → (List α) → (Nat × Nat × List α) ⊕ (List α)
 | 0, v2_7, v2_8, v2_k00 => .inl (v2_7, v2_8, v2_k00)
 | fu2 + 1, v2_7, v2_8, v2_k00 => cond (decide (((v2_8 : Nat) : Int) ≤ ((n : Nat) : Int))) (Zbj z n cf v1_6 fu2 v2_8 (v2_8 + (2 * v1_6)) (Zac z (v2_8 - v2_7 + 1) v2_k00 v2_7 (v2_7 + v1_6) v2_8 cf)) (.inl (v2_7, v2_8, v2_k00))
def Za4 {α : Type} (z : α) (n : Nat) (cf : α → α → Int) : Nat → Nat → (List α) → (Nat × List α) ⊕ (List α)
 | 0, v1_6, v1_k00 => .inl (v1_6, v1_k00)
 | fu1 + 1, v1_6, v1_k00 => cond (decide (((v1_6 : Nat) : Int) < ((n : Nat) : Int))) (Sum.elim (fun a2 => cond (decide (((a2.1 + v1_6 : Nat) : Int) < ((n : Nat) : Int))) (Za4 z n cf fu1 (v1_6 * 2) (Zac z (n - a2.1 + 1) a2.2.2 a2.1 (a2.1 + v1_6) n cf)) (Za4 z n cf fu1 (v1_6 * 2) a2.2.2)) (fun v => .inr v) (Zbj z n cf v1_6 (n + 1 - (2 * v1_6) + 1) 0 (2 * v1_6) v1_k00)) (.inl (v1_6, v1_k00))
def ZfJ {α : Type} (z : α) (l : List α) (n : Nat) (cf : α → α → Int) : List α := Sum.elim (fun a0 => Sum.elim (fun a1 => a1.2) (fun v => v) (Za4 z n cf (n - 20 + 1) 20 (ZaY z a0.2.2 a0.1 n cf))) (fun v => v) (Zbl z n cf (n + 1 - 20 + 1) 0 20 l)
def ZaS {α : Type} (z : α) (l : List α) (cf : α → α → Int) : List α := (ZfJ z l l.length cf)
end Go.Eng
namespace Go.Eng
set_option linter.all false
section
variable {α : Type} {z : α}
theorem Zln (v : List α) (i k : Nat) (x : α) (h : i < v.length) : (v.set i x).getD k z = if k = i then x else v.getD k z := by
 rw [List.getD_eq_getElem?_getD, List.getD_eq_getElem?_getD, List.getElem?_set]
 by_cases hk : i = k
 ·subst hk; simp [h]
 ·rw [if_neg hk, if_neg (fun e => hk e.symm)]
theorem Ziz (v : List α) (i j k : Nat) (hi : i < v.length) (hj : j < v.length) : ((v.set i (v.getD j z)).set j (v.getD i z)).getD k z = if k = j then v.getD i z else if k = i then v.getD j z else v.getD k z := by
 rw [Zln _ _ _ _ (by rw [List.length_set]; exact hj), Zln _ _ _ _ hi]
theorem Zir (v : List α) (i j : Nat) (hi : i < v.length) (hj : j < v.length) : ((v.set i (v.getD j z)).set j (v.getD i z)).Perm v := by
 have e : ∀ k (h : k < v.length), v.getD k z = v[k] := fun k h => by rw [List.getD_eq_getElem?_getD, List.getElem?_eq_getElem h, Option.getD_some]
 rw [e i hi, e j hj]
 exact List.set_set_perm hi hj
theorem ZLR (a b n : Nat) (hab : a + n ≤ b) : ∀ (fu i : Nat) (v : List α), n - i < fu → i ≤ n → b + n ≤ v.length → ∃ i' v', ZaN z a b n fu i v = .inl (i', v') ∧ v'.length = v.length ∧ v'.Perm v ∧
  ∀ k, v'.getD k z = if a + i ≤ k ∧ k < a + n then v.getD (b + (k - a)) z else if b + i ≤ k ∧ k < b + n then v.getD (a + (k - b)) z else v.getD k z
 | 0, i, v, hf, _, _ => absurd hf (Nat.not_lt_zero _)
 | fu + 1, i, v, hf, hi, hb => by
  rw [ZaN]
  by_cases hn : i < n
  ·rw [decide_eq_true (by omega), cond_true]
   obtain ⟨i', v', h1, h2, hp, h3⟩ := ZLR a b n hab fu (i + 1) ((v.set (a + i) (v.getD (b + i) z)).set (b + i) (v.getD (a + i) z)) (by omega) (by omega) (by simpa using hb)
   refine ⟨i', v', h1, by simpa using h2, hp.trans (Zir v _ _ (by omega) (by omega)), fun k => ?_⟩
   rw [h3 k]
   simp only [Ziz v (a + i) (b + i) _ (by omega) (by omega)]
   repeat' split
   all_goals first | rfl | (exfalso; omega) | (congr 1; omega)
  ·rw [decide_eq_false (by omega), cond_false]
   refine ⟨i, v, rfl, rfl, .refl _, fun k => ?_⟩
   repeat' split
   all_goals first | rfl | (exfalso; omega)
theorem Zi4 (l : List α) (a b n : Nat) (cf : α → α → Int) (hab : a + n ≤ b) (hb : b + n ≤ l.length) : (Zau z l a b n cf).length = l.length ∧ (Zau z l a b n cf).Perm l ∧
  ∀ k, (Zau z l a b n cf).getD k z = if a ≤ k ∧ k < a + n then l.getD (b + (k - a)) z else if b ≤ k ∧ k < b + n then l.getD (a + (k - b)) z else l.getD k z := by
 rw [Zau]
 obtain ⟨i', v', h1, h2, hp, h3⟩ := ZLR (z := z) a b n hab (n - 0 + 1) 0 l (Nat.lt_succ_self _) (Nat.zero_le _) hb
 rw [h1]
 exact ⟨h2, hp, by simpa using h3⟩
theorem ZxX (m : Nat) (cf : α → α → Int) : ∀ (fu i j : Nat) (v : List α), i + j < fu → 0 < i → 0 < j → i ≤ m → m + j ≤ v.length → ∃ i' j' v', Za5 z m cf fu i j v = .inl (i', j', v') ∧
  (Zau z v' (m - i') m i' cf).length = v.length ∧ (Zau z v' (m - i') m i' cf).Perm v ∧
  ∀ k, (Zau z v' (m - i') m i' cf).getD k z = if m - i ≤ k ∧ k < m + j then (if k < m - i + j then v.getD (k + i) z else v.getD (k - j) z) else v.getD k z
 | 0, i, j, v, hf, _, _, _, _ => absurd hf (Nat.not_lt_zero _)
 | fu + 1, i, j, v, hf, h0, h1, hi, hj => by
  rw [Za5]
  by_cases he : i = j
  ·subst he
   rw [decide_eq_true rfl, Bool.not_true, cond_false]
   obtain ⟨q1, q2, q3⟩ := Zi4 (z := z) v (m - i) m i cf (by omega) (by omega)
   refine ⟨i, i, v, rfl, q1, q2, fun k => ?_⟩
   rw [q3 k]
   repeat' split
   all_goals first | rfl | (exfalso; omega) | (congr 1; omega)
  ·rw [decide_eq_false (by omega), Bool.not_false, cond_true]
   by_cases hlt : j < i
   ·rw [decide_eq_true (by omega), cond_true]
    obtain ⟨q1, q2, q3⟩ := Zi4 (z := z) v (m - i) m j cf (by omega) (by omega)
    obtain ⟨i', j', v', e1, e2, e3, e4⟩ := ZxX m cf fu (i - j) j _ (by omega) (by omega) h1 (by omega) (by rw [q1]; omega)
    refine ⟨i', j', v', e1, e2.trans q1, e3.trans q2, fun k => ?_⟩
    rw [e4 k]
    simp only [q3]
    repeat' split
    all_goals first | rfl | (exfalso; omega) | (congr 1; omega)
   ·rw [decide_eq_false (by omega), cond_false]
    obtain ⟨q1, q2, q3⟩ := Zi4 (z := z) v (m - i) (m + j - i) i cf (by omega) (by omega)
    obtain ⟨i', j', v', e1, e2, e3, e4⟩ := ZxX m cf fu i (j - i) _ (by omega) h0 (by omega) hi (by rw [q1]; omega)
    refine ⟨i', j', v', e1, e2.trans q1, e3.trans q2, fun k => ?_⟩
    rw [e4 k]
    simp only [q3]
    repeat' split
    all_goals first | rfl | (exfalso; omega) | (congr 1; omega)
theorem ZgQ (l : List α) (a m b : Nat) (cf : α → α → Int) (h1 : a < m) (h2 : m < b) (h3 : b ≤ l.length) : (ZaA z l a m b cf).length = l.length ∧ (ZaA z l a m b cf).Perm l ∧
  ∀ k, (ZaA z l a m b cf).getD k z = if a ≤ k ∧ k < b then (if k < a + (b - m) then l.getD (k + (m - a)) z else l.getD (k - (b - m)) z) else l.getD k z := by
 rw [ZaA]
 obtain ⟨i', j', v', e1, e2, e3, e4⟩ := ZxX (z := z) m cf (m - a + (b - m) + 1) (m - a) (b - m) l (Nat.lt_succ_self _) (by omega) (by omega) (by omega) (by omega)
 rw [e1]
 refine ⟨e2, e3, fun k => ?_⟩
 refine (e4 k).trans ?_
 rw [show m - (m - a) = a from by omega, show m + (b - m) = b from by omega]
end
end Go.Eng
namespace Go.Eng
set_option linter.all false
section
variable {α : Type} {z : α} {lt : α → α → Prop}
def Zcf (lt : α → α → Prop) (z : α) (v : List α) (a b : Nat) : Prop := ∀ i j, a ≤ i → i < j → j < b → lt (v.getD i z) (v.getD j z)
def Zhw (lt : α → α → Prop) (z : α) (cf : α → α → Int) (v : List α) (a m b : Nat) : Prop := ∀ p q, a ≤ p → p < m → m ≤ q → q < b →
 (cf (v.getD q z) (v.getD p z) < 0 → lt (v.getD q z) (v.getD p z)) ∧ (¬ cf (v.getD q z) (v.getD p z) < 0 → lt (v.getD p z) (v.getD q z))
structure Res (lt : α → α → Prop) (z : α) (v r : List α) (a b : Nat) : Prop where
 len : r.length = v.length
 perm : r.Perm v
 out : ∀ k, k < a ∨ b ≤ k → r.getD k z = v.getD k z
 inn : ∀ k, a ≤ k → k < b → ∃ k', a ≤ k' ∧ k' < b ∧ r.getD k z = v.getD k' z
 srt : Zcf lt z r a b
theorem Res.same {v : List α} {a b : Nat} (h : Zcf lt z v a b) : Res lt z v v a b := ⟨rfl, .refl _, fun _ _ => rfl, fun k h1 h2 => ⟨k, h1, h2, rfl⟩, h⟩
theorem bs1 (htr : ∀ x y w, lt x y → lt y w → lt x w) {l : List α} {a m b : Nat} {cf : α → α → Int} (ham : a < m) (hs : Zcf lt z l m b) (hc : Zhw lt z cf l a m b) : ∀ (fu i j : Nat), j - i < fu → m ≤ i → i ≤ j → j ≤ b →
  (∀ q, m ≤ q → q < i → lt (l.getD q z) (l.getD a z)) → (∀ q, j ≤ q → q < b → lt (l.getD a z) (l.getD q z)) →
  ∃ r, Zaz z l a cf fu i j = .inl r ∧ m ≤ r.1 ∧ r.1 ≤ b ∧ (∀ q, m ≤ q → q < r.1 → lt (l.getD q z) (l.getD a z)) ∧ (∀ q, r.1 ≤ q → q < b → lt (l.getD a z) (l.getD q z))
 | 0, i, j, hf, _, _, _, _, _ => absurd hf (Nat.not_lt_zero _)
 | fu + 1, i, j, hf, h1, h2, h3, h4, h5 => by
  rw [Zaz]
  by_cases hij : i < j
  ·rw [decide_eq_true (by omega), cond_true]
   obtain ⟨c1, c2⟩ := hc a ((i + j) / 2) (Nat.le_refl _) ham (by omega) (by omega)
   by_cases hcm : cf (l.getD ((i + j) / 2) z) (l.getD a z) < 0
   ·rw [decide_eq_true hcm, cond_true]
    refine bs1 htr ham hs hc fu _ _ (by omega) (by omega) (by omega) h3 (fun q q1 q2 => ?_) h5
    by_cases hq : q = (i + j) / 2
    ·rw [hq]; exact c1 hcm
    ·exact htr _ _ _ (hs q ((i + j) / 2) q1 (by omega) (by omega)) (c1 hcm)
   ·rw [decide_eq_false hcm, cond_false]
    refine bs1 htr ham hs hc fu _ _ (by omega) h1 (by omega) (by omega) h4 (fun q q1 q2 => ?_)
    by_cases hq : q = (i + j) / 2
    ·rw [hq]; exact c2 hcm
    ·exact htr _ _ _ (c2 hcm) (hs ((i + j) / 2) q (by omega) (by omega) q2)
  ·rw [decide_eq_false (by omega), cond_false]
   exact ⟨(i, j), rfl, h1, by show i ≤ b; omega, h4, fun q q1 q2 => h5 q (by have : i ≤ q := q1; omega) q2⟩
theorem mv1 (a0 : Nat × Nat) : ∀ (fu k : Nat) (v : List α), a0.1 - k < fu → k + 1 ≤ a0.1 → a0.1 ≤ v.length → ∃ r, ZaQ z a0 fu k v = .inl r ∧ r.2.length = v.length ∧ r.2.Perm v ∧
  ∀ q, r.2.getD q z = if k ≤ q ∧ q < a0.1 - 1 then v.getD (q + 1) z else if q = a0.1 - 1 then v.getD k z else v.getD q z
 | 0, k, v, hf, _, _ => absurd hf (Nat.not_lt_zero _)
 | fu + 1, k, v, hf, h1, h2 => by
  rw [ZaQ]
  by_cases hk : k < a0.1 - 1
  ·rw [decide_eq_true (by omega), cond_true]
   obtain ⟨r, e1, e2, e3, e4⟩ := mv1 a0 fu (k + 1) ((v.set k (v.getD (k + 1) z)).set (k + 1) (v.getD k z)) (by omega) (by omega) (by simpa using h2)
   refine ⟨r, e1, by simpa using e2, e3.trans (Zir v _ _ (by omega) (by omega)), fun q => ?_⟩
   rw [e4 q]
   simp only [Ziz v k (k + 1) _ (by omega) (by omega)]
   repeat' split
   all_goals first | rfl | (exfalso; omega) | exact absurd trivial (by assumption) | (congr 1; omega)
  ·rw [decide_eq_false (by omega), cond_false]
   refine ⟨(k, v), rfl, rfl, .refl _, fun q => ?_⟩
   repeat' split
   all_goals first | rfl | (exfalso; omega) | exact absurd trivial (by assumption) | (congr 1; omega)
theorem bs2 (htr : ∀ x y w, lt x y → lt y w → lt x w) {l : List α} {a m b : Nat} {cf : α → α → Int} (hmb : m < b) (hs : Zcf lt z l a m) (hc : Zhw lt z cf l a m b) : ∀ (fu i j : Nat), j - i < fu → a ≤ i → i ≤ j → j ≤ m →
  (∀ q, a ≤ q → q < i → lt (l.getD q z) (l.getD m z)) → (∀ q, j ≤ q → q < m → lt (l.getD m z) (l.getD q z)) →
  ∃ r, ZaB z l m cf fu i j = .inl r ∧ a ≤ r.1 ∧ r.1 ≤ m ∧ (∀ q, a ≤ q → q < r.1 → lt (l.getD q z) (l.getD m z)) ∧ (∀ q, r.1 ≤ q → q < m → lt (l.getD m z) (l.getD q z))
 | 0, i, j, hf, _, _, _, _, _ => absurd hf (Nat.not_lt_zero _)
 | fu + 1, i, j, hf, h1, h2, h3, h4, h5 => by
  rw [ZaB]
  by_cases hij : i < j
  ·rw [decide_eq_true (by omega), cond_true]
   obtain ⟨c1, c2⟩ := hc ((i + j) / 2) m (by omega) (by omega) (Nat.le_refl _) hmb
   by_cases hcm : cf (l.getD m z) (l.getD ((i + j) / 2) z) < 0
   ·rw [decide_eq_true hcm, Bool.not_true, cond_false]
    refine bs2 htr hmb hs hc fu _ _ (by omega) h1 (by omega) (by omega) h4 (fun q q1 q2 => ?_)
    by_cases hq : q = (i + j) / 2
    ·rw [hq]; exact c1 hcm
    ·exact htr _ _ _ (c1 hcm) (hs ((i + j) / 2) q (by omega) (by omega) q2)
   ·rw [decide_eq_false hcm, Bool.not_false, cond_true]
    refine bs2 htr hmb hs hc fu _ _ (by omega) (by omega) (by omega) h3 (fun q q1 q2 => ?_) h5
    by_cases hq : q = (i + j) / 2
    ·rw [hq]; exact c2 hcm
    ·exact htr _ _ _ (hs q ((i + j) / 2) q1 (by omega) (by omega)) (c2 hcm)
  ·rw [decide_eq_false (by omega), cond_false]
   exact ⟨(i, j), rfl, h1, by show i ≤ m; omega, h4, fun q q1 q2 => h5 q (by have : i ≤ q := q1; omega) q2⟩
theorem mv2 (a2 : Nat × Nat) : ∀ (fu k : Nat) (v : List α), k < fu → a2.1 ≤ k → k < v.length → ∃ r, ZaF z a2 fu k v = .inl r ∧ r.2.length = v.length ∧ r.2.Perm v ∧
  ∀ q, r.2.getD q z = if a2.1 < q ∧ q ≤ k then v.getD (q - 1) z else if q = a2.1 then v.getD k z else v.getD q z
 | 0, k, v, hf, _, _ => absurd hf (Nat.not_lt_zero _)
 | fu + 1, k, v, hf, h1, h2 => by
  rw [ZaF]
  by_cases hk : a2.1 < k
  ·rw [decide_eq_true (by omega), cond_true]
   obtain ⟨r, e1, e2, e3, e4⟩ := mv2 a2 fu (k - 1) ((v.set k (v.getD (k - 1) z)).set (k - 1) (v.getD k z)) (by omega) (by omega) (by simp; omega)
   refine ⟨r, e1, by simpa using e2, e3.trans (Zir v _ _ (by omega) (by omega)), fun q => ?_⟩
   rw [e4 q]
   simp only [Ziz v k (k - 1) _ (by omega) (by omega)]
   repeat' split
   all_goals first | rfl | (exfalso; omega) | exact absurd trivial (by assumption) | (congr 1; omega)
  ·rw [decide_eq_false (by omega), cond_false]
   refine ⟨(k, v), rfl, rfl, .refl _, fun q => ?_⟩
   repeat' split
   all_goals first | rfl | (exfalso; omega) | exact absurd trivial (by assumption) | (congr 1; omega)
end
end Go.Eng
namespace Go.Eng
set_option linter.all false
section
variable {α : Type} {z : α} {lt : α → α → Prop}
theorem bs3 (htr : ∀ x y w, lt x y → lt y w → lt x w) {l : List α} {a m b lo hi p : Nat} {cf : α → α → Int} (hs : Zcf lt z l a m) (hs' : Zcf lt z l m b) (hc : Zhw lt z cf l a m b)
  (hlo : a ≤ lo) (hhi : hi ≤ m) (hp1 : m + hi ≤ p + 1) (hp2 : p < b + lo) (L : Nat → Nat → Nat → (Nat × Nat) ⊕ (List α)) (hL : ∀ fu i j, L (fu + 1) i j = cond (decide (((i : Nat) : Int) < ((j : Nat) : Int)))
   (cond (!decide (cf (l.getD (p - (i + j) / 2) z) (l.getD ((i + j) / 2) z) < (0 : Int))) (L fu ((i + j) / 2 + 1) j) (L fu i ((i + j) / 2))) (.inl (i, j))) :
  ∀ (fu i j : Nat), j - i < fu → lo ≤ i → i ≤ j → j ≤ hi →
  (∀ q, lo ≤ q → q < i → lt (l.getD q z) (l.getD (p - q) z)) → (∀ q, j ≤ q → q < hi → lt (l.getD (p - q) z) (l.getD q z)) →
  ∃ r, L fu i j = .inl r ∧ lo ≤ r.1 ∧ r.1 ≤ hi ∧ (∀ q, lo ≤ q → q < r.1 → lt (l.getD q z) (l.getD (p - q) z)) ∧ (∀ q, r.1 ≤ q → q < hi → lt (l.getD (p - q) z) (l.getD q z))
 | 0, i, j, hf, _, _, _, _, _ => absurd hf (Nat.not_lt_zero _)
 | fu + 1, i, j, hf, h1, h2, h3, h4, h5 => by
  rw [hL]
  by_cases hij : i < j
  ·rw [decide_eq_true (by omega), cond_true]
   obtain ⟨c1, c2⟩ := hc ((i + j) / 2) (p - (i + j) / 2) (by omega) (by omega) (by omega) (by omega)
   by_cases hcm : cf (l.getD (p - (i + j) / 2) z) (l.getD ((i + j) / 2) z) < 0
   ·rw [decide_eq_true hcm, Bool.not_true, cond_false]
    refine bs3 htr hs hs' hc hlo hhi hp1 hp2 L hL fu _ _ (by omega) h1 (by omega) (by omega) h4 (fun q q1 q2 => ?_)
    by_cases hq : q = (i + j) / 2
    ·rw [hq]; exact c1 hcm
    ·exact htr _ _ _ (hs' (p - q) (p - (i + j) / 2) (by omega) (by omega) (by omega)) (htr _ _ _ (c1 hcm) (hs ((i + j) / 2) q (by omega) (by omega) (by omega)))
   ·rw [decide_eq_false hcm, Bool.not_false, cond_true]
    refine bs3 htr hs hs' hc hlo hhi hp1 hp2 L hL fu _ _ (by omega) (by omega) (by omega) h3 (fun q q1 q2 => ?_) h5
    by_cases hq : q = (i + j) / 2
    ·rw [hq]; exact c2 hcm
    ·exact htr _ _ _ (hs q ((i + j) / 2) (by omega) (by omega) (by omega)) (htr _ _ _ (c2 hcm) (hs' (p - (i + j) / 2) (p - q) (by omega) (by omega) (by omega)))
  ·rw [decide_eq_false (by omega), cond_false]
   exact ⟨(i, j), rfl, h1, by show i ≤ hi; omega, h4, fun q q1 q2 => h5 q (by have : i ≤ q := q1; omega) q2⟩
theorem Zts (htr : ∀ x y w, lt x y → lt y w → lt x w) {l : List α} {a m b : Nat} {cf : α → α → Int} (ham : a + 1 = m) (hmb : m < b) (hb : b ≤ l.length) (hs : Zcf lt z l m b) (hc : Zhw lt z cf l a m b) :
  ∃ r, Zaz z l a cf (b - m + 1) m b = .inl r ∧ ∃ r2, ZaQ z r (r.1 - a + 1) a l = .inl r2 ∧ Res lt z l r2.2 a b := by
 obtain ⟨r, e1, e2, e3, e4, e5⟩ := bs1 htr (by omega) hs hc (b - m + 1) m b (by omega) (Nat.le_refl _) (by omega) (Nat.le_refl _) (fun q q1 q2 => absurd q2 (by omega)) (fun q q1 q2 => absurd q2 (by omega))
 obtain ⟨r2, f1, f2, f3, f4⟩ := mv1 (z := z) r (r.1 - a + 1) a l (Nat.lt_succ_self _) (by omega) (by omega)
 refine ⟨r, e1, r2, f1, f2, f3, fun k hk => ?_, fun k k1 k2 => ?_, fun i j i1 i2 i3 => ?_⟩
 ·rw [f4 k]
  repeat' split
  all_goals first | rfl | (exfalso; omega)
 ·rw [f4 k]
  repeat' split
  ·exact ⟨k + 1, by omega, by omega, rfl⟩
  ·exact ⟨a, by omega, by omega, rfl⟩
  ·exact ⟨k, by omega, by omega, rfl⟩
 ·rw [f4 i, f4 j]
  repeat' split
  all_goals first | (exfalso; omega) | exact e4 _ (by omega) (by omega) | exact e5 _ (by omega) (by omega) | exact hs _ _ (by omega) (by omega) (by omega) | skip
theorem ZqP (htr : ∀ x y w, lt x y → lt y w → lt x w) {l : List α} {a m b : Nat} {cf : α → α → Int} (ham : a < m) (hmb : m + 1 = b) (hb : b ≤ l.length) (hs : Zcf lt z l a m) (hc : Zhw lt z cf l a m b) :
  ∃ r, ZaB z l m cf (m - a + 1) a m = .inl r ∧ ∃ r2, ZaF z r (m + 1) m l = .inl r2 ∧ Res lt z l r2.2 a b := by
 obtain ⟨r, e1, e2, e3, e4, e5⟩ := bs2 htr (by omega) hs hc (m - a + 1) a m (by omega) (Nat.le_refl _) (by omega) (Nat.le_refl _) (fun q q1 q2 => absurd q2 (by omega)) (fun q q1 q2 => absurd q2 (by omega))
 obtain ⟨r2, f1, f2, f3, f4⟩ := mv2 (z := z) r (m + 1) m l (Nat.lt_succ_self _) (by omega) (by omega)
 refine ⟨r, e1, r2, f1, f2, f3, fun k hk => ?_, fun k k1 k2 => ?_, fun i j i1 i2 i3 => ?_⟩
 ·rw [f4 k]
  repeat' split
  all_goals first | rfl | (exfalso; omega)
 ·rw [f4 k]
  repeat' split
  ·exact ⟨k - 1, by omega, by omega, rfl⟩
  ·exact ⟨m, by omega, by omega, rfl⟩
  ·exact ⟨k, by omega, by omega, rfl⟩
 ·rw [f4 i, f4 j]
  repeat' split
  all_goals first | (exfalso; omega) | exact e4 _ (by omega) (by omega) | exact e5 _ (by omega) (by omega) | exact hs _ _ (by omega) (by omega) (by omega) | skip
end
end Go.Eng
namespace Go.Eng
set_option linter.all false
section
variable {α : Type} {z : α} {lt : α → α → Prop}
def ZdI (z : α) (fu : Nat) (l : List α) (a m b : Nat) (cf : α → α → Int) (s : Nat) : List α :=
 let l1 := cond (decide (((s : Nat) : Int) < ((m : Nat) : Int)) && decide (((m : Nat) : Int) < (((((a + b) / 2) + m) - s : Nat) : Int))) (ZaA z l s m ((((a + b) / 2) + m) - s) cf) l
 let l2 := cond (decide (((a : Nat) : Int) < ((s : Nat) : Int)) && decide (((s : Nat) : Int) < (((a + b) / 2 : Nat) : Int))) (Zac z fu l1 a s ((a + b) / 2) cf) l1
 cond (decide ((((a + b) / 2 : Nat) : Int) < (((((a + b) / 2) + m) - s : Nat) : Int)) && decide ((((((a + b) / 2) + m) - s : Nat) : Int) < ((b : Nat) : Int))) (Zac z fu l2 ((a + b) / 2) ((((a + b) / 2) + m) - s) b cf) l2
theorem Zcc {x y u w : Nat} (h : x < y ∧ u < w) : (decide (((x : Nat) : Int) < ((y : Nat) : Int)) && decide (((u : Nat) : Int) < ((w : Nat) : Int))) = true := by simp; omega
theorem Zbz {x y u w : Nat} (h : ¬ (x < y ∧ u < w)) : (decide (((x : Nat) : Int) < ((y : Nat) : Int)) && decide (((u : Nat) : Int) < ((w : Nat) : Int))) = false := by
 rw [Bool.and_eq_false_iff]
 by_cases h1 : x < y
 ·exact .inr (decide_eq_false (by omega))
 ·exact .inl (decide_eq_false (by omega))
theorem Zs8 {fu : Nat} {cf : α → α → Int} (ih : ∀ (l : List α) (a m b : Nat), b - a < fu → a < m → m < b → b ≤ l.length → Zcf lt z l a m → Zcf lt z l m b → Zhw lt z cf l a m b → Res lt z l (Zac z fu l a m b cf) a b)
  (l : List α) (a m b s mid e : Nat) (hmid : mid = (a + b) / 2) (he : e = (a + b) / 2 + m - s) (hf : b - a < fu + 1) (h1 : a < m) (h2 : m < b) (h3 : b ≤ l.length) (hs : Zcf lt z l a m) (hs' : Zcf lt z l m b) (hc : Zhw lt z cf l a m b)
  (s1 : a ≤ s) (s2 : s ≤ m) (e1 : m ≤ e) (e2 : e ≤ b) (hA : ∀ x y, a ≤ x → x < s → e ≤ y → y < b → lt (l.getD x z) (l.getD y z)) (hB : ∀ x y, s ≤ x → x < m → m ≤ y → y < e → lt (l.getD y z) (l.getD x z)) (h4 : 2 ≤ b - a) :
  Res lt z l (ZdI z fu l a m b cf s) a b := by
 unfold ZdI
 dsimp only
 rw [← hmid] at he ⊢
 rw [← he]
 have hmb : mid < b := by omega
 have ham : a < mid := by omega
 have F : ∃ l1, cond (decide (((s : Nat) : Int) < ((m : Nat) : Int)) && decide (((m : Nat) : Int) < ((e : Nat) : Int))) (ZaA z l s m e cf) l = l1 ∧ l1.length = l.length ∧ l1.Perm l ∧
   ∀ k, l1.getD k z = if s ≤ k ∧ k < mid then l.getD (k + (m - s)) z else if mid ≤ k ∧ k < e then l.getD (k - (e - m)) z else l.getD k z := by
  by_cases hk : s < m ∧ m < e
  ·rw [Zcc hk, cond_true]
   obtain ⟨q1, q2, q3⟩ := ZgQ (z := z) l s m e cf hk.1 hk.2 (by omega)
   refine ⟨_, rfl, q1, q2, fun k => ?_⟩
   rw [q3 k]
   repeat' split
   all_goals first | rfl | (exfalso; omega)
  ·rw [Zbz hk, cond_false]
   refine ⟨l, rfl, rfl, .refl _, fun k => ?_⟩
   repeat' split
   all_goals first | rfl | (exfalso; omega) | (congr 1; omega)
 obtain ⟨l1, g1, L1, P1, F⟩ := F
 rw [g1]
 have S1 : Zcf lt z l1 a s := fun i j i1 i2 i3 => by
  rw [F i, F j, if_neg (by omega), if_neg (by omega), if_neg (by omega), if_neg (by omega)]
  exact hs _ _ (by omega) i2 (by omega)
 have S2 : Zcf lt z l1 s mid := fun i j i1 i2 i3 => by
  rw [F i, F j, if_pos (by omega), if_pos (by omega)]
  exact hs' _ _ (by omega) (by omega) (by omega)
 have S3 : Zcf lt z l1 mid e := fun i j i1 i2 i3 => by
  rw [F i, F j, if_neg (by omega), if_pos (by omega), if_neg (by omega), if_pos (by omega)]
  exact hs _ _ (by omega) (by omega) (by omega)
 have S4 : Zcf lt z l1 e b := fun i j i1 i2 i3 => by
  rw [F i, F j, if_neg (by omega), if_neg (by omega), if_neg (by omega), if_neg (by omega)]
  exact hs' _ _ (by omega) i2 (by omega)
 have R2 : ∃ l2, cond (decide (((a : Nat) : Int) < ((s : Nat) : Int)) && decide (((s : Nat) : Int) < ((mid : Nat) : Int))) (Zac z fu l1 a s mid cf) l1 = l2 ∧ Res lt z l1 l2 a mid := by
  by_cases hk : a < s ∧ s < mid
  ·rw [Zcc hk, cond_true]
   refine ⟨_, rfl, ih l1 a s mid (by omega) hk.1 hk.2 (by omega) S1 S2 fun p q p1 p2 p3 p4 => ?_⟩
   rw [F p, F q, if_pos (by omega), if_neg (by omega), if_neg (by omega)]
   exact hc p (q + (m - s)) p1 (by omega) (by omega) (by omega)
  ·rw [Zbz hk, cond_false]
   refine ⟨l1, rfl, .same ?_⟩
   by_cases ha : a < s
   ·have : s = mid := by omega
    rw [← this]; exact S1
   ·have : s = a := by omega
    rw [← this]; exact S2
 obtain ⟨l2, g2, R2⟩ := R2
 rw [g2]
 have R3 : ∃ l3, cond (decide (((mid : Nat) : Int) < ((e : Nat) : Int)) && decide (((e : Nat) : Int) < ((b : Nat) : Int))) (Zac z fu l2 mid e b cf) l2 = l3 ∧ Res lt z l2 l3 mid b := by
  have T3 : Zcf lt z l2 mid e := fun i j i1 i2 i3 => by
   rw [R2.out i (.inr i1), R2.out j (.inr (by omega))]; exact S3 i j i1 i2 i3
  have T4 : Zcf lt z l2 e b := fun i j i1 i2 i3 => by
   rw [R2.out i (.inr (by omega)), R2.out j (.inr (by omega))]; exact S4 i j i1 i2 i3
  by_cases hk : mid < e ∧ e < b
  ·rw [Zcc hk, cond_true]
   refine ⟨_, rfl, ih l2 mid e b (by omega) hk.1 hk.2 (by rw [R2.len]; omega) T3 T4 fun p q p1 p2 p3 p4 => ?_⟩
   rw [R2.out p (.inr p1), R2.out q (.inr (by omega)), F p, F q, if_neg (by omega), if_neg (by omega), if_neg (by omega), if_pos (by omega)]
   exact hc (p - (e - m)) q (by omega) (by omega) (by omega) p4
  ·rw [Zbz hk, cond_false]
   refine ⟨l2, rfl, .same ?_⟩
   by_cases hm : mid < e
   ·have : e = b := by omega
    rw [← this]; exact T3
   ·have : e = mid := by omega
    rw [← this]; exact T4
 obtain ⟨l3, g3, R3⟩ := R3
 rw [g3]
 have inn1 : ∀ k, a ≤ k → k < b → ∃ k', a ≤ k' ∧ k' < b ∧ l1.getD k z = l.getD k' z := fun k k1 k2 => by
  rw [F k]
  repeat' split
  ·exact ⟨_, by omega, by omega, rfl⟩
  ·exact ⟨_, by omega, by omega, rfl⟩
  ·exact ⟨_, by omega, by omega, rfl⟩
 have inn2 : ∀ k, a ≤ k → k < b → ∃ k', a ≤ k' ∧ k' < b ∧ l2.getD k z = l.getD k' z := fun k k1 k2 => by
  by_cases hk : k < mid
  ·obtain ⟨k', q1, q2, q3⟩ := R2.inn k k1 hk
   rw [q3]; exact inn1 k' q1 (by omega)
  ·rw [R2.out k (.inr (by omega))]; exact inn1 k k1 k2
 refine ⟨R3.len.trans (R2.len.trans L1), R3.perm.trans (R2.perm.trans P1), fun k hk => ?_, fun k k1 k2 => ?_, fun i j i1 i2 i3 => ?_⟩
 ·rw [R3.out k (by omega), R2.out k (by omega), F k]
  repeat' split
  all_goals first | rfl | (exfalso; omega)
 ·by_cases hk : k < mid
  ·rw [R3.out k (.inl hk)]; exact inn2 k k1 k2
  ·obtain ⟨k', q1, q2, q3⟩ := R3.inn k (by omega) k2
   rw [q3]; exact inn2 k' (by omega) q2
 ·by_cases hj : j < mid
  ·rw [R3.out i (.inl (by omega)), R3.out j (.inl hj)]; exact R2.srt i j i1 i2 hj
  ·by_cases hi : mid ≤ i
   ·exact R3.srt i j hi i2 i3
   ·rw [R3.out i (.inl (by omega))]
    obtain ⟨j', j1, j2, j3⟩ := R3.inn j (by omega) i3
    obtain ⟨i', k1, k2, k3⟩ := R2.inn i i1 (by omega)
    rw [j3, k3, R2.out j' (.inr j1), F i', F j']
    repeat' split
    all_goals first | (exfalso; omega) | exact hB _ _ (by omega) (by omega) (by omega) (by omega) | exact hA _ _ (by omega) (by omega) (by omega) (by omega) | exact hs _ _ (by omega) (by omega) (by omega) | exact hs' _ _ (by omega) (by omega) (by omega)
end
end Go.Eng
namespace Go.Eng
set_option linter.all false
section
variable {α : Type} {z : α} {lt : α → α → Prop}
theorem ZpT (htr : ∀ x y w, lt x y → lt y w → lt x w) {l : List α} {a m x p : Nat} {w : α} (hs : Zcf lt z l a m) (h : lt (l.getD p z) w) (h1 : a ≤ x) (h2 : x ≤ p) (h3 : p < m) : lt (l.getD x z) w := by
 by_cases e : x = p
 ·rw [e]; exact h
 ·exact htr _ _ _ (hs x p h1 (by omega) h3) h
theorem Zvo (htr : ∀ x y w, lt x y → lt y w → lt x w) {l : List α} {m b y p : Nat} {w : α} (hs : Zcf lt z l m b) (h : lt w (l.getD p z)) (h1 : m ≤ p) (h2 : p ≤ y) (h3 : y < b) : lt w (l.getD y z) := by
 by_cases e : y = p
 ·rw [e]; exact h
 ·exact htr _ _ _ h (hs p y h1 (by omega) h3)
theorem Zmt (htr : ∀ x y w, lt x y → lt y w → lt x w) {fu : Nat} {cf : α → α → Int} (ih : ∀ (l : List α) (a m b : Nat), b - a < fu → a < m → m < b → b ≤ l.length → Zcf lt z l a m → Zcf lt z l m b → Zhw lt z cf l a m b → Res lt z l (Zac z fu l a m b cf) a b)
  (l : List α) (a m b : Nat) (hf : b - a < fu + 1) (h1 : a < m) (h2 : m < b) (h3 : b ≤ l.length) (hs : Zcf lt z l a m) (hs' : Zcf lt z l m b) (hc : Zhw lt z cf l a m b) (h4 : 2 ≤ b - a)
  (lo hi s : Nat) (hlo : a ≤ lo) (hhi : hi ≤ m) (hm : hi ≤ (a + b) / 2) (hb : (a + b) / 2 + m ≤ b + lo) (x1 : lo = a ∨ lo + b = (a + b) / 2 + m) (x2 : hi = m ∨ hi = (a + b) / 2) (s1 : lo ≤ s) (s2 : s ≤ hi)
  (q1 : ∀ q, lo ≤ q → q < s → lt (l.getD q z) (l.getD ((a + b) / 2 + m - 1 - q) z)) (q2 : ∀ q, s ≤ q → q < hi → lt (l.getD ((a + b) / 2 + m - 1 - q) z) (l.getD q z)) :
  Res lt z l (ZdI z fu l a m b cf s) a b := by
 refine Zs8 ih l a m b s ((a + b) / 2) ((a + b) / 2 + m - s) rfl rfl hf h1 h2 h3 hs hs' hc (by omega) (by omega) (by omega) (by omega) (fun x y a1 a2 a3 a4 => ?_) (fun x y a1 a2 a3 a4 => ?_) h4
 ·have hk : lo < s := by omega
  have := q1 (s - 1) (by omega) (by omega)
  exact ZpT htr hs (Zvo htr hs' this (by omega) (by omega) a4) a1 (by omega) (by omega)
 ·have hk : s < hi := by omega
  have := q2 s (Nat.le_refl _) hk
  exact ZpT htr hs' (Zvo htr hs this (by omega) a1 a2) a3 (by omega) (by omega)
theorem Zqs (htr : ∀ x y w, lt x y → lt y w → lt x w) (cf : α → α → Int) : ∀ (fu : Nat) (l : List α) (a m b : Nat), b - a < fu → a < m → m < b → b ≤ l.length → Zcf lt z l a m → Zcf lt z l m b → Zhw lt z cf l a m b → Res lt z l (Zac z fu l a m b cf) a b
 | 0, l, a, m, b, hf, _, _, _, _, _, _ => absurd hf (Nat.not_lt_zero _)
 | fu + 1, l, a, m, b, hf, h1, h2, h3, hs, hs', hc => by
  have tl : ∀ s, Res lt z l (ZdI z fu l a m b cf s) a b → ∀ X, ZdI z fu l a m b cf s = X → Res lt z l X a b := fun s h X e => e ▸ h
  rw [Zac]
  by_cases k1 : m - a = 1
  ·rw [decide_eq_true (by omega), cond_true]
   obtain ⟨r, e1, r2, f1, R⟩ := Zts htr (cf := cf) (by omega) h2 h3 hs' hc
   rw [e1, Sum.elim_inl, f1]
   exact R
  ·rw [decide_eq_false (by omega), cond_false]
   by_cases k2 : b - m = 1
   ·rw [decide_eq_true (by omega), cond_true]
    obtain ⟨r, e1, r2, f1, R⟩ := ZqP htr (cf := cf) h1 (by omega) h3 hs hc
    rw [e1, Sum.elim_inl, f1]
    exact R
   ·rw [decide_eq_false (by omega), cond_false]
    by_cases k3 : (a + b) / 2 < m
    ·rw [decide_eq_true (by omega), cond_true]
     obtain ⟨r, e1, e2, e3, e4, e5⟩ := bs3 htr hs hs' hc (lo := (a + b) / 2 + m - b) (hi := (a + b) / 2) (p := (a + b) / 2 + m - 1) (by omega) (by omega) (by omega) (by omega) (ZaH z l a m b cf) (fun fu i j => by rw [ZaH])
      ((a + b) / 2 - ((a + b) / 2 + m - b) + 1) ((a + b) / 2 + m - b) ((a + b) / 2) (Nat.lt_succ_self _) (Nat.le_refl _) (by omega) (Nat.le_refl _) (fun q q1 q2 => absurd q2 (by omega)) (fun q q1 q2 => absurd q2 (by omega))
     rw [e1, Sum.elim_inl]
     refine tl r.1 (Zmt htr (Zqs htr cf fu) l a m b hf h1 h2 h3 hs hs' hc (by omega) ((a + b) / 2 + m - b) ((a + b) / 2) r.1 (by omega) (by omega) (by omega) (by omega) (.inr (by omega)) (.inr rfl) e2 e3 e4 e5) _ ?_
     unfold ZdI
     dsimp only
     generalize (decide (((r.1 : Nat) : Int) < ((m : Nat) : Int)) && decide (((m : Nat) : Int) < (((((a + b) / 2) + m) - r.1 : Nat) : Int))) = c1
     generalize (decide (((a : Nat) : Int) < ((r.1 : Nat) : Int)) && decide (((r.1 : Nat) : Int) < (((a + b) / 2 : Nat) : Int))) = c2
     generalize (decide ((((a + b) / 2 : Nat) : Int) < (((((a + b) / 2) + m) - r.1 : Nat) : Int)) && decide ((((((a + b) / 2) + m) - r.1 : Nat) : Int) < ((b : Nat) : Int))) = c3
     cases c1 <;> cases c2 <;> cases c3 <;> rfl
    ·rw [decide_eq_false (by omega), cond_false]
     obtain ⟨r, e1, e2, e3, e4, e5⟩ := bs3 htr hs hs' hc (lo := a) (hi := m) (p := (a + b) / 2 + m - 1) (by omega) (by omega) (by omega) (by omega) (ZaI z l a m b cf) (fun fu i j => by rw [ZaI])
      (m - a + 1) a m (Nat.lt_succ_self _) (Nat.le_refl _) (by omega) (Nat.le_refl _) (fun q q1 q2 => absurd q2 (by omega)) (fun q q1 q2 => absurd q2 (by omega))
     rw [e1, Sum.elim_inl]
     refine tl r.1 (Zmt htr (Zqs htr cf fu) l a m b hf h1 h2 h3 hs hs' hc (by omega) a m r.1 (by omega) (by omega) (by omega) (by omega) (.inl rfl) (.inl rfl) e2 e3 e4 e5) _ ?_
     unfold ZdI
     dsimp only
     generalize (decide (((r.1 : Nat) : Int) < ((m : Nat) : Int)) && decide (((m : Nat) : Int) < (((((a + b) / 2) + m) - r.1 : Nat) : Int))) = c1
     generalize (decide (((a : Nat) : Int) < ((r.1 : Nat) : Int)) && decide (((r.1 : Nat) : Int) < (((a + b) / 2 : Nat) : Int))) = c2
     generalize (decide ((((a + b) / 2 : Nat) : Int) < (((((a + b) / 2) + m) - r.1 : Nat) : Int)) && decide ((((((a + b) / 2) + m) - r.1 : Nat) : Int) < ((b : Nat) : Int))) = c3
     cases c1 <;> cases c2 <;> cases c3 <;> rfl
end
end Go.Eng
namespace Go.Eng
set_option linter.all false
section
variable {α : Type} {z : α} {lt : α → α → Prop}
def Zht (lt : α → α → Prop) (z : α) (cf : α → α → Int) (v : List α) (a b : Nat) : Prop := ∀ p q, a ≤ p → p < q → q < b →
 (cf (v.getD q z) (v.getD p z) < 0 → lt (v.getD q z) (v.getD p z)) ∧ (¬ cf (v.getD q z) (v.getD p z) < 0 → lt (v.getD p z) (v.getD q z))
theorem Zv4 (a : Nat) (cf : α → α → Int) : ∀ (fu j : Nat) (v : List α), j < fu → a ≤ j → j < v.length → ∃ r, ZaK z a cf fu j v = .inl r ∧ r.2.length = v.length ∧ r.2.Perm v ∧ a ≤ r.1 ∧ r.1 ≤ j ∧
  (∀ q, r.2.getD q z = if r.1 < q ∧ q ≤ j then v.getD (q - 1) z else if q = r.1 then v.getD j z else v.getD q z) ∧ (∀ q, r.1 ≤ q → q < j → cf (v.getD j z) (v.getD q z) < 0) ∧ (r.1 = a ∨ ¬ cf (v.getD j z) (v.getD (r.1 - 1) z) < 0)
 | 0, j, v, hf, _, _ => absurd hf (Nat.not_lt_zero _)
 | fu + 1, j, v, hf, h1, h2 => by
  rw [ZaK]
  by_cases hk : a < j ∧ cf (v.getD j z) (v.getD (j - 1) z) < 0
  ·rw [show (decide (((a : Nat) : Int) < ((j : Nat) : Int)) && decide (cf (v.getD j z) (v.getD (j - 1) z) < (0 : Int))) = true from by rw [decide_eq_true (by omega), decide_eq_true hk.2]; rfl, cond_true]
   obtain ⟨r, e1, e2, e3, e4, e5, e6, e7, e8⟩ := Zv4 a cf fu (j - 1) ((v.set j (v.getD (j - 1) z)).set (j - 1) (v.getD j z)) (by omega) (by omega) (by simp; omega)
   have sw : ∀ q, ((v.set j (v.getD (j - 1) z)).set (j - 1) (v.getD j z)).getD q z = if q = j - 1 then v.getD j z else if q = j then v.getD (j - 1) z else v.getD q z := fun q => Ziz v j (j - 1) q h2 (by omega)
   refine ⟨r, e1, by simpa using e2, e3.trans (Zir v _ _ (by omega) (by omega)), e4, by omega, fun q => ?_, fun q q1 q2 => ?_, ?_⟩
   ·rw [e6 q]
    simp only [sw]
    repeat' split
    all_goals first | rfl | (exfalso; omega) | exact absurd trivial (by assumption) | (congr 1 <;> omega)
   ·by_cases hq : q = j - 1
    ·rw [hq]; exact hk.2
    ·have := e7 q q1 (by omega)
     rw [sw, sw, if_pos rfl, if_neg hq, if_neg (by omega)] at this
     exact this
   ·rcases e8 with h | h
    ·exact .inl h
    ·by_cases ha : r.1 = a
     ·exact .inl ha
     ·rw [sw, sw, if_pos rfl, if_neg (by omega), if_neg (by omega)] at h
      exact .inr h
  ·rw [show (decide (((a : Nat) : Int) < ((j : Nat) : Int)) && decide (cf (v.getD j z) (v.getD (j - 1) z) < (0 : Int))) = false from by
    rw [Bool.and_eq_false_iff]
    by_cases h : a < j
    ·exact .inr (decide_eq_false (fun h' => hk ⟨h, h'⟩))
    ·exact .inl (decide_eq_false (by omega)), cond_false]
   refine ⟨(j, v), rfl, rfl, .refl _, h1, Nat.le_refl _, fun q => ?_, fun q q1 q2 => absurd q2 (by have : j ≤ q := q1; omega), ?_⟩
   ·repeat' split
    all_goals first | rfl | (exfalso; omega) | (congr 1 <;> omega)
   ·by_cases h : a < j
    ·exact .inr fun h' => hk ⟨h, h'⟩
    ·exact .inl (by show j = a; omega)
theorem Zuk (htr : ∀ x y w, lt x y → lt y w → lt x w) {cf : α → α → Int} {l v : List α} {a b i : Nat} (R : Res lt z l v a i) (hc : Zht lt z cf l a b) (hi : i < b) (hb : b ≤ l.length) (ha : a < i) :
  ∃ r, ZaK z a cf (i + 1) i v = .inl r ∧ Res lt z l r.2 a (i + 1) := by
 obtain ⟨r, e1, e2, e3, e4, e5, e6, e7, e8⟩ := Zv4 (z := z) a cf (i + 1) i v (Nat.lt_succ_self _) (by omega) (by rw [R.len]; omega)
 have hvi : v.getD i z = l.getD i z := R.out i (.inr (Nat.le_refl _))
 have c1 : ∀ q, r.1 ≤ q → q < i → lt (v.getD i z) (v.getD q z) := fun q q1 q2 => by
  have h := e7 q q1 q2
  obtain ⟨q', k1, k2, k3⟩ := R.inn q (by omega) q2
  rw [hvi, k3] at h ⊢
  exact (hc q' i k1 k2 hi).1 h
 have c2 : a < r.1 → lt (v.getD (r.1 - 1) z) (v.getD i z) := fun h => by
  rcases e8 with h' | h'
  ·omega
  ·obtain ⟨q', k1, k2, k3⟩ := R.inn (r.1 - 1) (by omega) (by omega)
   rw [hvi, k3] at h' ⊢
   exact (hc q' i k1 k2 hi).2 h'
 refine ⟨r, e1, e2.trans R.len, e3.trans R.perm, fun k hk => ?_, fun k k1 k2 => ?_, fun x y x1 x2 x3 => ?_⟩
 ·rw [e6 k, if_neg (by omega), if_neg (by omega)]
  exact R.out k (by omega)
 ·rw [e6 k]
  repeat' split
  ·obtain ⟨q', j1, j2, j3⟩ := R.inn (k - 1) (by omega) (by omega)
   exact ⟨q', j1, by omega, j3⟩
  ·exact ⟨i, by omega, by omega, hvi⟩
  ·obtain ⟨q', j1, j2, j3⟩ := R.inn k (by omega) (by omega)
   exact ⟨q', j1, by omega, j3⟩
 ·rw [e6 x, e6 y]
  repeat' split
  all_goals first | (exfalso; omega) | exact c1 _ (by omega) (by omega) | exact R.srt _ _ (by omega) (by omega) (by omega) | exact ZpT htr R.srt (c2 (by omega)) (by omega) (by omega) (by omega)
theorem Zwm (htr : ∀ x y w, lt x y → lt y w → lt x w) {cf : α → α → Int} {l : List α} {a b : Nat} (hc : Zht lt z cf l a b) (hb : b ≤ l.length) : ∀ (fu i : Nat) (v : List α), b - i < fu → a < i → i ≤ b → Res lt z l v a i →
  ∃ r, Za0 z a b cf fu i v = .inl r ∧ Res lt z l r.2 a b
 | 0, i, v, hf, _, _, _ => absurd hf (Nat.not_lt_zero _)
 | fu + 1, i, v, hf, h1, h2, R => by
  rw [Za0]
  by_cases hi : i < b
  ·rw [decide_eq_true (by omega), cond_true]
   obtain ⟨r, e1, R'⟩ := Zuk htr R hc hi hb h1
   rw [e1, Sum.elim_inl]
   exact Zwm htr hc hb fu (i + 1) r.2 (by omega) (by omega) (by omega) R'
  ·rw [decide_eq_false (by omega), cond_false]
   have : i = b := by omega
   subst this
   exact ⟨(i, v), rfl, R⟩
theorem Zz3 (htr : ∀ x y w, lt x y → lt y w → lt x w) {cf : α → α → Int} (l : List α) (a b : Nat) (hc : Zht lt z cf l a b) (hb : b ≤ l.length) : Res lt z l (ZaY z l a b cf) a b := by
 rw [ZaY]
 by_cases h : a < b
 ·obtain ⟨r, e1, R⟩ := Zwm htr hc hb (b - (a + 1) + 1) (a + 1) l (Nat.lt_succ_self _) (by omega) h (.same fun i j i1 i2 i3 => absurd i3 (by omega))
  rw [e1]; exact R
 ·rw [show b - (a + 1) + 1 = 0 + 1 from by omega, Za0, decide_eq_false (by omega), cond_false]
  exact .same fun i j i1 i2 i3 => absurd i3 (by omega)
end
end Go.Eng
namespace Go.Eng
set_option linter.all false
section
variable {α : Type} {z : α} {lt : α → α → Prop}
def Zo1 (lt : α → α → Prop) (z : α) (l v : List α) (x y : Nat) : Prop := Zcf lt z v x y ∧ ∀ q, x ≤ q → q < y → ∃ q', x ≤ q' ∧ q' < y ∧ v.getD q z = l.getD q' z
theorem Zo1.keep {l v r : List α} {a b x y : Nat} (h : Zo1 lt z l v x y) (R : Res lt z v r a b) (hd : y ≤ a ∨ b ≤ x) : Zo1 lt z l r x y :=
 ⟨fun i j i1 i2 i3 => by rw [R.out i (by omega), R.out j (by omega)]; exact h.1 i j i1 i2 i3, fun q q1 q2 => by rw [R.out q (by omega)]; exact h.2 q q1 q2⟩
theorem ZwE (htr : ∀ x y w, lt x y → lt y w → lt x w) {cf : α → α → Int} {l v : List α} {a m b : Nat} (hc : Zht lt z cf l 0 l.length) (hl : v.length = l.length) (h1 : a < m) (h2 : m < b) (h3 : b ≤ l.length)
  (g1 : Zo1 lt z l v a m) (g2 : Zo1 lt z l v m b) : Res lt z v (Zac z (b - a + 1) v a m b cf) a b ∧ Zo1 lt z l (Zac z (b - a + 1) v a m b cf) a b := by
 have R := Zqs htr cf (b - a + 1) v a m b (Nat.lt_succ_self _) h1 h2 (by omega) g1.1 g2.1 (fun p q p1 p2 p3 p4 => by
  obtain ⟨p', a1, a2, a3⟩ := g1.2 p p1 p2
  obtain ⟨q', b1, b2, b3⟩ := g2.2 q p3 p4
  rw [a3, b3]
  exact hc p' q' (Nat.zero_le _) (by omega) (by omega))
 refine ⟨R, R.srt, fun q q1 q2 => ?_⟩
 obtain ⟨q', a1, a2, a3⟩ := R.inn q q1 q2
 rw [a3]
 by_cases hq : q' < m
 ·obtain ⟨p, b1, b2, b3⟩ := g1.2 q' a1 hq
  exact ⟨p, b1, by omega, b3⟩
 ·obtain ⟨p, b1, b2, b3⟩ := g2.2 q' (by omega) a2
  exact ⟨p, by omega, b2, b3⟩
theorem ZeV {x a t k k' : Nat} (hx : x = k * t) (ha : a = k' * t) (h1 : a < x + t) (h2 : x < a + t) : x = a := by
 subst hx; subst ha
 have e1 : k * t + t = (k + 1) * t := by rw [Nat.succ_mul]
 have e2 : k' * t + t = (k' + 1) * t := by rw [Nat.succ_mul]
 rw [e1] at h1
 rw [e2] at h2
 have := Nat.lt_of_mul_lt_mul_right h1
 have := Nat.lt_of_mul_lt_mul_right h2
 rw [show k = k' from by omega]
def ZI5 (lt : α → α → Prop) (z : α) (l v : List α) (s : Nat) : Prop := v.length = l.length ∧ v.Perm l ∧ ∀ x k, x = k * s → x < l.length → Zo1 lt z l v x (min (x + s) l.length)
theorem ZHZ (htr : ∀ x y w, lt x y → lt y w → lt x w) {cf : α → α → Int} {l : List α} (hc : Zht lt z cf l 0 l.length) : ∀ (fu a k : Nat) (v : List α), l.length + 1 - (a + 20) < fu → a = k * 20 → a ≤ l.length → v.length = l.length → v.Perm l →
  (∀ q, a ≤ q → v.getD q z = l.getD q z) → (∀ x j, x = j * 20 → x + 20 ≤ a → Zo1 lt z l v x (x + 20)) →
  ∃ r, Zbl z l.length cf fu a (a + 20) v = .inl r ∧ ZI5 lt z l (ZaY z r.2.2 r.1 l.length cf) 20
 | 0, a, k, v, hf, _, _, _, _, _, _ => absurd hf (Nat.not_lt_zero _)
 | fu + 1, a, k, v, hf, ha, hn, hl, hp, ho, hg => by
  have ok : Zht lt z cf v a l.length := fun p q p1 p2 p3 => by rw [ho p p1, ho q (by omega)]; exact hc p q (Nat.zero_le _) p2 p3
  have good : ∀ b, b ≤ l.length → Res lt z v (ZaY z v a b cf) a b ∧ Zo1 lt z l (ZaY z v a b cf) a b := fun b hb => by
   have R := Zz3 htr (cf := cf) v a b (fun p q p1 p2 p3 => ok p q p1 p2 (by omega)) (by omega)
   exact ⟨R, R.srt, fun q q1 q2 => by
    obtain ⟨q', a1, a2, a3⟩ := R.inn q q1 q2
    exact ⟨q', a1, a2, by rw [a3, ho q' a1]⟩⟩
  rw [Zbl]
  by_cases hb : a + 20 ≤ l.length
  ·rw [decide_eq_true (by omega), cond_true]
   obtain ⟨R, G⟩ := good (a + 20) hb
   refine ZHZ htr hc fu (a + 20) (k + 1) _ (by omega) (by omega) hb (R.len.trans hl) (R.perm.trans hp) (fun q hq => by rw [R.out q (.inr hq)]; exact ho q (by omega)) (fun x j hx hxa => ?_)
   by_cases he : x + 20 ≤ a
   ·exact (hg x j hx he).keep R (.inl he)
   ·have := ZeV hx ha (by omega) (by omega)
    rw [this]; exact G
  ·rw [decide_eq_false (by omega), cond_false]
   obtain ⟨R, G⟩ := good l.length (Nat.le_refl _)
   refine ⟨(a, a + 20, v), rfl, R.len.trans hl, R.perm.trans hp, fun x j hx hxn => ?_⟩
   by_cases he : x + 20 ≤ a
   ·rw [Nat.min_eq_left (by omega)]
    exact (hg x j hx he).keep R (.inl he)
   ·have := ZeV hx ha (by omega) (by omega)
    rw [this, Nat.min_eq_right (by omega)]; exact G
end
end Go.Eng
namespace Go.Eng
set_option linter.all false
section
variable {α : Type} {z : α} {lt : α → α → Prop}
theorem ZII (htr : ∀ x y w, lt x y → lt y w → lt x w) {cf : α → α → Int} {l : List α} (hc : Zht lt z cf l 0 l.length) {s : Nat} (hs : 0 < s) : ∀ (fu a k : Nat) (v : List α), l.length + 1 - (a + 2 * s) < fu → a = k * (2 * s) → a ≤ l.length → v.length = l.length → v.Perm l →
  (∀ x j, x = j * (2 * s) → x + 2 * s ≤ a → Zo1 lt z l v x (x + 2 * s)) → (∀ x j, x = j * s → a ≤ x → x < l.length → Zo1 lt z l v x (min (x + s) l.length)) →
  ∃ r, Zbj z l.length cf s fu a (a + 2 * s) v = .inl r ∧ ZI5 lt z l (cond (decide (((r.1 + s : Nat) : Int) < ((l.length : Nat) : Int))) (Zac z (l.length - r.1 + 1) r.2.2 r.1 (r.1 + s) l.length cf) r.2.2) (s * 2)
 | 0, a, k, v, hf, _, _, _, _, _, _ => absurd hf (Nat.not_lt_zero _)
 | fu + 1, a, k, v, hf, ha, hn, hl, hp, hg, hr => by
  have e2 : a = (2 * k) * s := by rw [ha, ← Nat.mul_assoc, Nat.mul_comm k 2]
  have e3 : a + s = (2 * k + 1) * s := by rw [Nat.succ_mul, ← e2]
  rw [Zbj]
  by_cases hb : a + 2 * s ≤ l.length
  ·rw [decide_eq_true (by omega), cond_true]
   have g1 := hr a _ e2 (Nat.le_refl _) (by omega)
   have g2 := hr (a + s) _ e3 (by omega) (by omega)
   rw [Nat.min_eq_left (by omega)] at g1 g2
   rw [show a + s + s = a + 2 * s from by omega] at g2
   obtain ⟨R, G⟩ := ZwE htr hc hl (by omega) (by omega) hb g1 g2
   refine ZII htr hc hs fu (a + 2 * s) (k + 1) _ (by omega) (by rw [Nat.succ_mul k (2 * s), ← ha]) hb (R.len.trans hl) (R.perm.trans hp) (fun x j hx hxa => ?_) (fun x j hx hxa hxn => ?_)
   ·by_cases he : x + 2 * s ≤ a
    ·exact (hg x j hx he).keep R (.inl he)
    ·have := ZeV hx ha (by omega) (by omega)
     rw [this]; exact G
   ·exact (hr x j hx (by omega) hxn).keep R (.inr hxa)
  ·rw [decide_eq_false (by omega), cond_false]
   refine ⟨(a, a + 2 * s, v), rfl, ?_⟩
   show ZI5 lt z l (cond (decide (((a + s : Nat) : Int) < ((l.length : Nat) : Int))) (Zac z (l.length - a + 1) v a (a + s) l.length cf) v) (s * 2)
   by_cases hm : a + s < l.length
   ·rw [decide_eq_true (by omega), cond_true]
    have g1 := hr a _ e2 (Nat.le_refl _) (by omega)
    have g2 := hr (a + s) _ e3 (by omega) hm
    rw [Nat.min_eq_left (by omega)] at g1
    rw [Nat.min_eq_right (by omega)] at g2
    obtain ⟨R, G⟩ := ZwE htr hc hl (by omega) hm (Nat.le_refl _) g1 g2
    refine ⟨R.len.trans hl, R.perm.trans hp, fun x j hx hxn => ?_⟩
    have hx' : x = j * (2 * s) := by rw [hx, Nat.mul_comm s 2]
    by_cases he : x + 2 * s ≤ a
    ·rw [Nat.min_eq_left (by omega), show x + s * 2 = x + 2 * s from by omega]
     exact (hg x j hx' he).keep R (.inl he)
    ·have := ZeV hx' ha (by omega) (by omega)
     rw [this, Nat.min_eq_right (by omega)]; exact G
   ·rw [decide_eq_false (by omega), cond_false]
    refine ⟨hl, hp, fun x j hx hxn => ?_⟩
    have hx' : x = j * (2 * s) := by rw [hx, Nat.mul_comm s 2]
    by_cases he : x + 2 * s ≤ a
    ·rw [Nat.min_eq_left (by omega), show x + s * 2 = x + 2 * s from by omega]
     exact hg x j hx' he
    ·have := ZeV hx' ha (by omega) (by omega)
     subst this
     have g1 := hr x _ e2 (Nat.le_refl _) hxn
     rw [Nat.min_eq_right (by omega)] at g1
     rw [Nat.min_eq_right (by omega)]; exact g1
theorem ZFq (htr : ∀ x y w, lt x y → lt y w → lt x w) {cf : α → α → Int} {l : List α} (hc : Zht lt z cf l 0 l.length) : ∀ (fu s : Nat) (v : List α), l.length - s < fu → 0 < s → ZI5 lt z l v s →
  ∃ r, Za4 z l.length cf fu s v = .inl r ∧ r.2.length = l.length ∧ r.2.Perm l ∧ Zcf lt z r.2 0 l.length
 | 0, s, v, hf, _, _ => absurd hf (Nat.not_lt_zero _)
 | fu + 1, s, v, hf, h0, hR => by
  obtain ⟨hl, hp, hr⟩ := hR
  rw [Za4]
  by_cases hb : s < l.length
  ·rw [decide_eq_true (by omega), cond_true]
   obtain ⟨r, e1, R⟩ := ZII htr hc h0 (l.length + 1 - (2 * s) + 1) 0 0 v (by omega) (by simp) (Nat.zero_le _) hl hp (fun x j hx hxa => absurd hxa (by omega)) (fun x j hx hxa hxn => hr x j hx hxn)
   rw [Nat.zero_add] at e1
   rw [e1, Sum.elim_inl]
   have ih := ZFq htr hc fu (s * 2) _ (by omega) (by omega) R
   cases hd : decide (((r.1 + s : Nat) : Int) < ((l.length : Nat) : Int)) with
   | true => rw [hd] at ih; exact ih
   | false => rw [hd] at ih; exact ih
  ·rw [decide_eq_false (by omega), cond_false]
   refine ⟨(s, v), rfl, hl, hp, ?_⟩
   by_cases hz : 0 < l.length
   ·have := (hr 0 0 (by simp) hz).1
    rwa [Nat.min_eq_right (by omega)] at this
   ·exact fun i j i1 i2 i3 => absurd i3 (by omega)
theorem ZmB (htr : ∀ x y w, lt x y → lt y w → lt x w) {cf : α → α → Int} (l : List α) (hc : Zht lt z cf l 0 l.length) : (ZaS z l cf).Perm l ∧ Zcf lt z (ZaS z l cf) 0 l.length := by
 rw [ZaS, ZfJ]
 obtain ⟨r, e1, R⟩ := ZHZ htr hc (l.length + 1 - 20 + 1) 0 0 l (by omega) (by simp) (Nat.zero_le _) rfl (.refl _) (fun _ _ => rfl) (fun x j hx hxa => absurd hxa (by omega))
 rw [Nat.zero_add] at e1
 rw [e1, Sum.elim_inl]
 obtain ⟨r2, f1, f2, f3, f4⟩ := ZFq htr hc (l.length - 20 + 1) 20 _ (by omega) (by omega) R
 rw [f1]
 exact ⟨f3, f4⟩
end
end Go.Eng
namespace Go.Eng
set_option linter.all false
section
variable {α β : Type} {f : β → α} {z : α} {z' : β} {cf : α → α → Int} {cf' : β → β → Int}
theorem gm (hz : f z' = z) (l : List β) (k : Nat) : (l.map f).getD k z = f (l.getD k z') := by
 rw [List.getD_eq_getElem?_getD, List.getD_eq_getElem?_getD, List.getElem?_map, ← hz]
 cases l[k]? <;> rfl
theorem ZbS {γ δ : Type} (g : γ → δ) (b : Bool) (x y : γ) : g (cond b x y) = cond b (g x) (g y) := by cases b <;> rfl
theorem ZdE {γ δ ε ζ : Type} (g : γ → δ) (F : ε → γ) (G : ζ → γ) (x : ε ⊕ ζ) : g (Sum.elim F G x) = Sum.elim (fun r => g (F r)) (fun r => g (G r)) x := by cases x <;> rfl
theorem Zdw {γ ε ζ ε' ζ' : Type} (F : ε → γ) (G : ζ → γ) (p : ε' → ε) (q : ζ' → ζ) (x : ε' ⊕ ζ') : Sum.elim F G (Sum.map p q x) = Sum.elim (fun r => F (p r)) (fun r => G (q r)) x := by cases x <;> rfl
def m2 (f : β → α) (r : Nat × List β) : Nat × List α := (r.1, r.2.map f)
def m3 (f : β → α) (r : Nat × Nat × List β) : Nat × Nat × List α := (r.1, r.2.1, r.2.2.map f)
theorem ZHN (hz : f z' = z) (a b n : Nat) : ∀ (fu i : Nat) (v : List β), ZaN z a b n fu i (v.map f) = Sum.map (m2 f) (List.map f) (ZaN z' a b n fu i v)
 | 0, i, v => rfl
 | fu + 1, i, v => by simp only [ZaN, gm hz, ← List.map_set, ZHN hz a b n fu, ZbS (Sum.map (m2 f) (List.map f))]; rfl
theorem ZMn (hz : f z' = z) (l : List β) (a b n : Nat) : Zau z (l.map f) a b n cf = (Zau z' l a b n cf').map f := by
 simp only [Zau, ZHN hz, Zdw, ZdE (List.map f)]; rfl
theorem Zwv (hz : f z' = z) (m : Nat) : ∀ (fu i j : Nat) (v : List β), Za5 z m cf fu i j (v.map f) = Sum.map (m3 f) (List.map f) (Za5 z' m cf' fu i j v)
 | 0, i, j, v => rfl
 | fu + 1, i, j, v => by simp only [Za5, ZMn (cf' := cf') hz, Zwv hz m fu, ZbS (Sum.map (m3 f) (List.map f))]; rfl
theorem ZJv (hz : f z' = z) (l : List β) (a m b : Nat) : ZaA z (l.map f) a m b cf = (ZaA z' l a m b cf').map f := by
 simp only [ZaA, Zwv (cf' := cf') hz, Zdw, ZdE (List.map f), m3, ZMn (cf' := cf') hz]
theorem Zp0 (hz : f z' = z) (hc : ∀ x y, cf (f x) (f y) = cf' x y) (a : Nat) : ∀ (fu i : Nat) (v : List β), ZaK z a cf fu i (v.map f) = Sum.map (m2 f) (List.map f) (ZaK z' a cf' fu i v)
 | 0, i, v => rfl
 | fu + 1, i, v => by simp only [ZaK, gm hz, hc, ← List.map_set, Zp0 hz hc a fu, ZbS (Sum.map (m2 f) (List.map f))]; rfl
theorem Zp6 (hz : f z' = z) (hc : ∀ x y, cf (f x) (f y) = cf' x y) (a b : Nat) : ∀ (fu i : Nat) (v : List β), Za0 z a b cf fu i (v.map f) = Sum.map (m2 f) (List.map f) (Za0 z' a b cf' fu i v)
 | 0, i, v => rfl
 | fu + 1, i, v => by simp only [Za0, Zp0 hz hc, Zdw, m2, Zp6 hz hc a b fu, ZbS (Sum.map (m2 f) (List.map f)), ZdE (Sum.map (m2 f) (List.map f))]; rfl
theorem ZEi (hz : f z' = z) (hc : ∀ x y, cf (f x) (f y) = cf' x y) (l : List β) (a b : Nat) : ZaY z (l.map f) a b cf = (ZaY z' l a b cf').map f := by
 simp only [ZaY, Zp6 hz hc, Zdw, ZdE (List.map f)]; rfl
theorem ZG8 (hz : f z' = z) (hc : ∀ x y, cf (f x) (f y) = cf' x y) (l : List β) (a : Nat) : ∀ (fu i j : Nat), Zaz z (l.map f) a cf fu i j = Sum.map id (List.map f) (Zaz z' l a cf' fu i j)
 | 0, i, v => rfl
 | fu + 1, i, v => by simp only [Zaz, gm hz, hc, ZG8 hz hc l a fu, ZbS (Sum.map id (List.map f))]; rfl
theorem ZGg (hz : f z' = z) (a0 : Nat × Nat) : ∀ (fu i : Nat) (v : List β), ZaQ z a0 fu i (v.map f) = Sum.map (m2 f) (List.map f) (ZaQ z' a0 fu i v)
 | 0, i, v => rfl
 | fu + 1, i, v => by simp only [ZaQ, gm hz, ← List.map_set, ZGg hz a0 fu, ZbS (Sum.map (m2 f) (List.map f))]; rfl
theorem ZC1 (hz : f z' = z) (hc : ∀ x y, cf (f x) (f y) = cf' x y) (l : List β) (a : Nat) : ∀ (fu i j : Nat), ZaB z (l.map f) a cf fu i j = Sum.map id (List.map f) (ZaB z' l a cf' fu i j)
 | 0, i, v => rfl
 | fu + 1, i, v => by simp only [ZaB, gm hz, hc, ZC1 hz hc l a fu, ZbS (Sum.map id (List.map f))]; rfl
theorem ZGN (hz : f z' = z) (a0 : Nat × Nat) : ∀ (fu i : Nat) (v : List β), ZaF z a0 fu i (v.map f) = Sum.map (m2 f) (List.map f) (ZaF z' a0 fu i v)
 | 0, i, v => rfl
 | fu + 1, i, v => by simp only [ZaF, gm hz, ← List.map_set, ZGN hz a0 fu, ZbS (Sum.map (m2 f) (List.map f))]; rfl
theorem ZF5 (hz : f z' = z) (hc : ∀ x y, cf (f x) (f y) = cf' x y) (l : List β) (a m b : Nat) : ∀ (fu i j : Nat), ZaH z (l.map f) a m b cf fu i j = Sum.map id (List.map f) (ZaH z' l a m b cf' fu i j)
 | 0, i, v => rfl
 | fu + 1, i, v => by simp only [ZaH, gm hz, hc, ZF5 hz hc l a m b fu, ZbS (Sum.map id (List.map f))]; rfl
theorem ZFA (hz : f z' = z) (hc : ∀ x y, cf (f x) (f y) = cf' x y) (l : List β) (a m b : Nat) : ∀ (fu i j : Nat), ZaI z (l.map f) a m b cf fu i j = Sum.map id (List.map f) (ZaI z' l a m b cf' fu i j)
 | 0, i, v => rfl
 | fu + 1, i, v => by simp only [ZaI, gm hz, hc, ZFA hz hc l a m b fu, ZbS (Sum.map id (List.map f))]; rfl
theorem ZKr (hz : f z' = z) (hc : ∀ x y, cf (f x) (f y) = cf' x y) : ∀ (fu : Nat) (l : List β) (a m b : Nat), Zac z fu (l.map f) a m b cf = (Zac z' fu l a m b cf').map f
 | 0, l, a, m, b => rfl
 | fu + 1, l, a, m, b => by
  simp only [Zac, ZG8 hz hc, ZGg hz, ZC1 hz hc, ZGN hz, ZF5 hz hc, ZFA hz hc, ZJv (cf' := cf') hz, ZKr hz hc fu, Zdw, ZdE (List.map f), ZbS (List.map f), m2, id_eq]
theorem ZIE (hz : f z' = z) (hc : ∀ x y, cf (f x) (f y) = cf' x y) (n : Nat) : ∀ (fu i j : Nat) (v : List β), Zbl z n cf fu i j (v.map f) = Sum.map (m3 f) (List.map f) (Zbl z' n cf' fu i j v)
 | 0, i, j, v => rfl
 | fu + 1, i, j, v => by simp only [Zbl, ZEi hz hc, ZIE hz hc n fu, ZbS (Sum.map (m3 f) (List.map f))]; rfl
theorem ZGk (hz : f z' = z) (hc : ∀ x y, cf (f x) (f y) = cf' x y) (n s : Nat) : ∀ (fu i j : Nat) (v : List β), Zbj z n cf s fu i j (v.map f) = Sum.map (m3 f) (List.map f) (Zbj z' n cf' s fu i j v)
 | 0, i, j, v => rfl
 | fu + 1, i, j, v => by simp only [Zbj, ZKr hz hc, ZGk hz hc n s fu, ZbS (Sum.map (m3 f) (List.map f))]; rfl
theorem ZCO (hz : f z' = z) (hc : ∀ x y, cf (f x) (f y) = cf' x y) (n : Nat) : ∀ (fu s : Nat) (v : List β), Za4 z n cf fu s (v.map f) = Sum.map (m2 f) (List.map f) (Za4 z' n cf' fu s v)
 | 0, s, v => rfl
 | fu + 1, s, v => by simp only [Za4, ZGk hz hc, Zdw, m3, ZKr hz hc, ZCO hz hc n fu, ZbS (Sum.map (m2 f) (List.map f)), ZdE (Sum.map (m2 f) (List.map f))]; rfl
theorem ZrL (hz : f z' = z) (hc : ∀ x y, cf (f x) (f y) = cf' x y) (l : List β) : ZaS z (l.map f) cf = (ZaS z' l cf').map f := by
 simp only [ZaS, ZfJ, List.length_map, ZIE hz hc, Zdw, m3, ZEi hz hc, ZCO hz hc, ZdE (List.map f)]; rfl
end
end Go.Eng
namespace Go.Eng
set_option linter.all false
section
variable {α : Type} {z : α} {cf : α → α → Int}
structure CmpLaw (cf : α → α → Int) : Prop where
 tr : ∀ x y w, cf x y < 0 → cf y w < 0 → cf x w < 0
 ng : ∀ x y w, ¬ cf x y < 0 → ¬ cf y w < 0 → ¬ cf x w < 0
 ir : ∀ x, ¬ cf x x < 0
def ltT (cf : α → α → Int) (a b : α × Nat) : Prop := cf a.1 b.1 < 0 ∨ (¬ cf b.1 a.1 < 0 ∧ a.2 < b.2)
theorem ZHg (h : CmpLaw cf) : ∀ a b c : α × Nat, ltT cf a b → ltT cf b c → ltT cf a c := by
 rintro ⟨x, i⟩ ⟨y, j⟩ ⟨w, k⟩ h1 h2
 rcases h1 with h1 | ⟨h1, h1'⟩ <;> rcases h2 with h2 | ⟨h2, h2'⟩
 ·exact .inl (h.tr _ _ _ h1 h2)
 ·refine .inl ?_
  by_cases e : cf x w < 0
  ·exact e
  ·exact absurd h1 (h.ng _ _ _ e h2)
 ·refine .inl ?_
  by_cases e : cf x w < 0
  ·exact e
  ·exact absurd h2 (h.ng _ _ _ h1 e)
 ·exact .inr ⟨h.ng _ _ _ h2 h1, Nat.lt_trans h1' h2'⟩
theorem ZEP (h : CmpLaw cf) (a b : α × Nat) (h1 : ltT cf a b) (h2 : ltT cf b a) : False := by
 rcases h1 with h1 | ⟨h1, h1'⟩ <;> rcases h2 with h2 | ⟨h2, h2'⟩
 ·exact h.ir _ (h.tr _ _ _ h1 h2)
 ·exact h2 h1
 ·exact h1 h2
 ·omega
theorem Zq9 (l : List α) : Zht (ltT cf) (z, 0) (fun a b : α × Nat => cf a.1 b.1) l.zipIdx 0 l.zipIdx.length := fun p q _ hpq hq => by
 have hq' : q < l.length := by simpa using hq
 have g : ∀ k, k < l.length → ∃ x, l.zipIdx.getD k (z, 0) = (x, k) := fun k hk => ⟨l[k], by simp [List.getD_eq_getElem?_getD, hk]⟩
 obtain ⟨x, hx⟩ := g p (by omega)
 obtain ⟨y, hy⟩ := g q hq'
 rw [hx, hy]
 exact ⟨fun h => .inl h, fun h => .inr ⟨h, hpq⟩⟩
theorem ZK0 {β : Type} {lt : β → β → Prop} {z : β} {l : List β} (h : Zcf lt z l 0 l.length) : l.Pairwise lt := by
 rw [List.pairwise_iff_getElem]
 intro i j hi hj hij
 have := h i j (Nat.zero_le _) hij hj
 rwa [List.getD_eq_getElem?_getD, List.getD_eq_getElem?_getD, List.getElem?_eq_getElem hi, List.getElem?_eq_getElem hj] at this
theorem Zmj {β : Type} {lt : β → β → Prop} (has : ∀ a b, lt a b → lt b a → False) : ∀ {l r : List β}, l.Pairwise lt → r.Pairwise lt → l.Perm r → l = r
 | [], r, _, _, hp => (List.Perm.nil_eq hp)
 | a :: l, [], _, _, hp => absurd hp.length_eq (by simp)
 | a :: l, b :: r, h1, h2, hp => by
  have e : a = b := by
   have ha : a ∈ b :: r := hp.mem_iff.1 (List.mem_cons_self ..)
   have hb : b ∈ a :: l := hp.mem_iff.2 (List.mem_cons_self ..)
   rcases List.mem_cons.1 ha with e | ha
   ·exact e
   ·rcases List.mem_cons.1 hb with e | hb
    ·exact e.symm
    ·exact (has a b ((List.pairwise_cons.1 h1).1 b hb) ((List.pairwise_cons.1 h2).1 a ha)).elim
  subst e
  rw [Zmj has (List.pairwise_cons.1 h1).2 (List.pairwise_cons.1 h2).2 (List.Perm.cons_inv hp)]
theorem ZqY (h : CmpLaw cf) (l : List α) (r : List (α × Nat)) (hp : r.Perm l.zipIdx) (hs : r.Pairwise (ltT cf)) : ZaS z l cf = r.map (·.1) := by
 obtain ⟨q1, q2⟩ := ZmB (z := (z, 0)) (ZHg h) l.zipIdx (Zq9 (cf := cf) l)
 have e : ZaS (z, 0) l.zipIdx (fun a b : α × Nat => cf a.1 b.1) = r := Zmj (ZEP h) (ZK0 (by rw [q1.length_eq]; exact q2)) hs (q1.trans hp.symm)
 rw [← e, ← ZrL (f := fun a : α × Nat => a.1) (z := z) rfl (fun _ _ => rfl)]
 congr 1
 simp
end
end Go.Eng
namespace Go.Eng
set_option linter.all false
section
variable {α : Type} {z : α} {cf : α → α → Int}
theorem Zpx (h : CmpLaw cf) {x : α} {i : Nat} {A B : List (α × Nat)} (hs : (A ++ B).Pairwise (ltT cf)) (hi : ∀ a ∈ A ++ B, a.2 < i) (hB : ∀ b ∈ B, cf x b.1 < 0) (hA : ∀ a, A.getLast? = some a → ¬ cf x a.1 < 0) :
  (A ++ (x, i) :: B).Pairwise (ltT cf) := by
 rw [List.pairwise_append] at hs ⊢
 obtain ⟨h1, h2, h3⟩ := hs
 have key : ∀ a ∈ A, ¬ cf x a.1 < 0 := by
  intro a ha
  obtain ⟨C, c, rfl⟩ : ∃ C c, A = C ++ [c] := ⟨A.dropLast, A.getLast (List.ne_nil_of_mem ha), (List.dropLast_concat_getLast (List.ne_nil_of_mem ha)).symm⟩
  have hc := hA c (by simp)
  rcases List.mem_append.1 ha with ha | ha
  ·rw [List.pairwise_append] at h1
   rcases h1.2.2 a ha c (by simp) with e | ⟨e, _⟩
   ·exact fun e' => hc (h.tr _ _ _ e' e)
   ·exact h.ng _ _ _ hc e
  ·rw [List.mem_singleton.1 ha]; exact hc
 refine ⟨h1, List.pairwise_cons.2 ⟨fun b hb => .inl (hB b hb), h2⟩, fun a ha b hb => ?_⟩
 rcases List.mem_cons.1 hb with rfl | hb
 ·exact .inr ⟨key a ha, hi a (List.mem_append_left _ ha)⟩
 ·exact h3 a ha b hb
def ZCF (cf : α → α → Int) (out : List α) (x : α) : List α := (out.reverse.dropWhile (fun y => decide (cf x y < 0))).reverse ++ x :: (out.reverse.takeWhile (fun y => decide (cf x y < 0))).reverse
def ZsU (cf : α → α → Int) (l : List α) : List α := l.foldl (ZCF cf) []
theorem ZmP (cf : α → α → Int) (r : List (α × Nat)) (x : α) : ∃ A B : List (α × Nat), r = A ++ B ∧ ZCF cf (r.map (·.1)) x = A.map (·.1) ++ x :: B.map (·.1) ∧ (∀ b ∈ B, cf x b.1 < 0) ∧ (∀ a, A.getLast? = some a → ¬ cf x a.1 < 0) := by
 refine ⟨(r.reverse.dropWhile (fun y => decide (cf x y.1 < 0))).reverse, (r.reverse.takeWhile (fun y => decide (cf x y.1 < 0))).reverse, ?_, ?_, ?_, ?_⟩
 ·rw [← List.reverse_append, List.takeWhile_append_dropWhile, List.reverse_reverse]
 ·have e : (fun y => decide (cf x y < 0)) ∘ (fun p : α × Nat => p.1) = fun y : α × Nat => decide (cf x y.1 < 0) := rfl
  rw [ZCF, ← List.map_reverse, List.dropWhile_map, List.takeWhile_map, e, ← List.map_reverse, ← List.map_reverse]
 ·intro b hb
  have := List.all_takeWhile (p := fun y : α × Nat => decide (cf x y.1 < 0)) (l := r.reverse)
  rw [List.all_eq_true] at this
  simpa using this b (by simpa using hb)
 ·intro a ha
  rw [List.getLast?_reverse] at ha
  have := List.head?_dropWhile_not (fun y : α × Nat => decide (cf x y.1 < 0)) r.reverse
  rw [ha] at this
  simpa using this
theorem ZjV (h : CmpLaw cf) : ∀ (l : List α) (i : Nat) (r : List (α × Nat)), r.Pairwise (ltT cf) → (∀ a ∈ r, a.2 < i) → ∃ r' : List (α × Nat), l.foldl (ZCF cf) (r.map (·.1)) = r'.map (·.1) ∧ r'.Pairwise (ltT cf) ∧ r'.Perm (r ++ l.zipIdx i)
 | [], i, r, h1, h2 => ⟨r, rfl, h1, by simp⟩
 | x :: l, i, r, h1, h2 => by
  obtain ⟨A, B, rfl, e, hB, hA⟩ := ZmP cf r x
  have hp := Zpx h h1 h2 hB hA
  obtain ⟨r', e1, e2, e3⟩ := ZjV h l (i + 1) (A ++ (x, i) :: B) hp (fun a ha => by
   rcases List.mem_append.1 ha with ha | ha
   ·exact Nat.lt_succ_of_lt (h2 a (List.mem_append_left _ ha))
   ·rcases List.mem_cons.1 ha with rfl | ha
    ·exact Nat.lt_succ_self _
    ·exact Nat.lt_succ_of_lt (h2 a (List.mem_append_right _ ha)))
  refine ⟨r', ?_, e2, e3.trans ?_⟩
  ·rw [List.foldl_cons, e, ← e1]
   simp
  ·rw [List.zipIdx_cons]
   simp only [List.append_assoc, List.cons_append]
   exact List.Perm.append_left A (List.perm_middle.symm)
theorem Zji (h : CmpLaw cf) (l : List α) : ZaS z l cf = ZsU cf l := by
 obtain ⟨r', e1, e2, e3⟩ := ZjV h l 0 [] .nil (fun a ha => by cases ha)
 rw [ZqY h l r' (by simpa using e3) e2, ZsU]
 exact e1.symm
end
end Go.Eng
namespace Go.Eng
set_option linter.all false
end Go.Eng
