import Derived.Test.YthagpbkmakocjaaGreatCz10
import Derived.Test.YthagpbkmakocjaaGreatCz21
import Derived.Test.YthagpbkmakocjaaGreatCz00
namespace Go.Eng
set_option linter.all false
def Zby {α : Type} (z : α) (a : Nat) (b : Nat) (n : Nat) : Nat → Nat → (List α) → (Nat × List α) ⊕ (List α)
 | 0, v0_10, v0_k00 => .inl (v0_10, v0_k00)
 | fu0 + 1, v0_10, v0_k00 => cond (decide (((v0_10 : Nat) : Int) < ((n : Nat) : Int))) (Zby z a b n fu0 (v0_10 + 1) ((v0_k00.set (a + v0_10) (v0_k00.getD (b + v0_10) z)).set (b + v0_10) (v0_k00.getD (a + v0_10) z))) (.inl (v0_10, v0_k00))
def ZaD {α : Type} (z : α) (l : List α) (a : Nat) (b : Nat) (n : Nat) (_cf : α → α → Int) : List α := Sum.elim (fun a0 => a0.2) (fun v => v) (Zby z a b n (n - 0 + 1) 0 l)
def ZbM {α : Type} (z : α) (m : Nat) (cf : α → α → Int) : Nat → Nat → Nat → (List α) → (Nat × Nat × List α) ⊕ (List α)
 | 0, v0_10, v0_11, v0_k00 => .inl (v0_10, v0_11, v0_k00)
 | fu0 + 1, v0_10, v0_11, v0_k00 => cond ((!decide (((v0_10 : Nat) : Int) = ((v0_11 : Nat) : Int)))) (cond (decide (((v0_11 : Nat) : Int) < ((v0_10 : Nat) : Int))) (ZbM z m cf fu0 (v0_10 - v0_11) v0_11 (ZaD z v0_k00 (m - v0_10) m v0_11 cf)) (ZbM z m cf fu0 v0_10 (v0_11 - v0_10) (ZaD z v0_k00 (m - v0_10) ((m + v0_11) - v0_10) v0_10 cf))) (.inl (v0_10, v0_11, v0_k00))
def ZaL {α : Type} (z : α) (l : List α) (a : Nat) (m : Nat) (b : Nat) (cf : α → α → Int) : List α := Sum.elim (fun a0 => (ZaD z a0.2.2 (m - a0.1) m a0.1 cf)) (fun v => v) (ZbM z m cf ((m - a) + (b - m) + 1) (m - a) (b - m) l)
def Zbc {α : Type} (z : α) (a : Nat) (cf : α → α → Int) : Nat → Nat → (List α) → (Nat × List α) ⊕ (List α)
 | 0, v1_9, v1_k00 => .inl (v1_9, v1_k00)
 | fu1 + 1, v1_9, v1_k00 => cond ((decide (((a : Nat) : Int) < ((v1_9 : Nat) : Int)) && decide ((cf (v1_k00.getD v1_9 z) (v1_k00.getD (v1_9 - 1) z)) < (0 : Int)))) (Zbc z a cf fu1 (v1_9 - 1) ((v1_k00.set v1_9 (v1_k00.getD (v1_9 - 1) z)).set (v1_9 - 1) (v1_k00.getD v1_9 z))) (.inl (v1_9, v1_k00))
def ZbK {α : Type} (z : α) (a : Nat) (b : Nat) (cf : α → α → Int) : Nat → Nat → (List α) → (Nat × List α) ⊕ (List α)
 | 0, v0_8, v0_k00 => .inl (v0_8, v0_k00)
 | fu0 + 1, v0_8, v0_k00 => cond (decide (((v0_8 : Nat) : Int) < ((b : Nat) : Int))) (Sum.elim (fun a1 => ZbK z a b cf fu0 (v0_8 + 1) a1.2) (fun v => .inr v) (Zbc z a cf (v0_8 + 1) v0_8 v0_k00)) (.inl (v0_8, v0_k00))
def Zbn {α : Type} (z : α) (l : List α) (a : Nat) (b : Nat) (cf : α → α → Int) : List α := Sum.elim (fun a0 => a0.2) (fun v => v) (ZbK z a b cf (b - (a + 1) + 1) (a + 1) l)
def ZaX {α : Type} (z : α) (l : List α) (a : Nat) (cf : α → α → Int) : Nat → Nat → Nat → (Nat × Nat) ⊕ (List α)
 | 0, v0_10, v0_11 => .inl (v0_10, v0_11)
 | fu0 + 1, v0_10, v0_11 => cond (decide (((v0_10 : Nat) : Int) < ((v0_11 : Nat) : Int))) (cond (decide ((cf (l.getD ((v0_10 + v0_11) / 2) z) (l.getD a z)) < (0 : Int))) (ZaX z l a cf fu0 (((v0_10 + v0_11) / 2) + 1) v0_11) (ZaX z l a cf fu0 v0_10 ((v0_10 + v0_11) / 2))) (.inl (v0_10, v0_11))
def Zbr {α : Type} (z : α) (a0 : Nat × Nat) : Nat → Nat → (List α) → (Nat × List α) ⊕ (List α)
 | 0, v1_13, v1_k00 => .inl (v1_13, v1_k00)
 | fu1 + 1, v1_13, v1_k00 => cond (decide (((v1_13 : Nat) : Int) < ((a0.1 - 1 : Nat) : Int))) (Zbr z a0 fu1 (v1_13 + 1) ((v1_k00.set v1_13 (v1_k00.getD (v1_13 + 1) z)).set (v1_13 + 1) (v1_k00.getD v1_13 z))) (.inl (v1_13, v1_k00))
def ZaV {α : Type} (z : α) (l : List α) (m : Nat) (cf : α → α → Int) : Nat → Nat → Nat → (Nat × Nat) ⊕ (List α)
 | 0, v2_14, v2_15 => .inl (v2_14, v2_15)
 | fu2 + 1, v2_14, v2_15 => cond (decide (((v2_14 : Nat) : Int) < ((v2_15 : Nat) : Int))) (cond ((!(decide ((cf (l.getD m z) (l.getD ((v2_14 + v2_15) / 2) z)) < (0 : Int))))) (ZaV z l m cf fu2 (((v2_14 + v2_15) / 2) + 1) v2_15) (ZaV z l m cf fu2 v2_14 ((v2_14 + v2_15) / 2))) (.inl (v2_14, v2_15))
def Zba {α : Type} (z : α) (a2 : Nat × Nat) : Nat → Nat → (List α) → (Nat × List α) ⊕ (List α)
 | 0, v3_17, v3_k00 => .inl (v3_17, v3_k00)
 | fu3 + 1, v3_17, v3_k00 => cond (decide (((a2.1 : Nat) : Int) < ((v3_17 : Nat) : Int))) (Zba z a2 fu3 (v3_17 - 1) ((v3_k00.set v3_17 (v3_k00.getD (v3_17 - 1) z)).set (v3_17 - 1) (v3_k00.getD v3_17 z))) (.inl (v3_17, v3_k00))
def Zbb {α : Type} (z : α) (l : List α) (a : Nat) (m : Nat) (b : Nat) (cf : α → α → Int) : Nat → Nat → Nat → (Nat × Nat) ⊕ (List α)
 | 0, v4_20, v4_21 => .inl (v4_20, v4_21)
 | fu4 + 1, v4_20, v4_21 => cond (decide (((v4_20 : Nat) : Int) < ((v4_21 : Nat) : Int))) (cond ((!(decide ((cf (l.getD (((((a + b) / 2) + m) - 1) - ((v4_20 + v4_21) / 2)) z) (l.getD ((v4_20 + v4_21) / 2) z)) < (0 : Int))))) (Zbb z l a m b cf fu4 (((v4_20 + v4_21) / 2) + 1) v4_21) (Zbb z l a m b cf fu4 v4_20 ((v4_20 + v4_21) / 2))) (.inl (v4_20, v4_21))
def Za9 {α : Type} (z : α) (l : List α) (a : Nat) (m : Nat) (b : Nat) (cf : α → α → Int) : Nat → Nat → Nat → (Nat × Nat) ⊕ (List α)
 | 0, v5_20, v5_21 => .inl (v5_20, v5_21)
 | fu5 + 1, v5_20, v5_21 => cond (decide (((v5_20 : Nat) : Int) < ((v5_21 : Nat) : Int))) (cond ((!(decide ((cf (l.getD (((((a + b) / 2) + m) - 1) - ((v5_20 + v5_21) / 2)) z) (l.getD ((v5_20 + v5_21) / 2) z)) < (0 : Int))))) (Za9 z l a m b cf fu5 (((v5_20 + v5_21) / 2) + 1) v5_21) (Za9 z l a m b cf fu5 v5_20 ((v5_20 + v5_21) / 2))) (.inl (v5_20, v5_21))
def Zae {α : Type} (z : α) : (Nat) → (List α) → (Nat) → (Nat) → (Nat) → (α → α → Int) → List α
 | 0, l, _, _, _, _ => l
 | fu + 1, l, a, m, b, cf => cond (decide (((m - a : Nat) : Int) = (1 : Int))) (Sum.elim (fun a0 => Sum.elim (fun a1 => a1.2) (fun v => v) (Zbr z a0 (a0.1 - a + 1) a l)) (fun v => v) (ZaX z l a cf (b - m + 1) m b)) (cond (decide (((b - m : Nat) : Int) = (1 : Int))) (Sum.elim (fun a2 => Sum.elim (fun a3 => a3.2) (fun v => v) (Zba z a2 (m + 1) m l)) (fun v => v) (ZaV z l m cf (m - a + 1) a m)) (cond (decide ((((a + b) / 2 : Nat) : Int) < ((m : Nat) : Int))) (Sum.elim (fun a4 => cond ((decide (((a4.1 : Nat) : Int) < ((m : Nat) : Int)) && decide (((m : Nat) : Int) < (((((a + b) / 2) + m) - a4.1 : Nat) : Int)))) (cond ((decide (((a : Nat) : Int) < ((a4.1 : Nat) : Int)) && decide (((a4.1 : Nat) : Int) < (((a + b) / 2 : Nat) : Int)))) (cond ((decide ((((a + b) / 2 : Nat) : Int) < (((((a + b) / 2) + m) - a4.1 : Nat) : Int)) && decide ((((((a + b) / 2) + m) - a4.1 : Nat) : Int) < ((b : Nat) : Int)))) ((Zae z fu (Zae z fu (ZaL z l a4.1 m ((((a + b) / 2) + m) - a4.1) cf) a a4.1 ((a + b) / 2) cf) ((a + b) / 2) ((((a + b) / 2) + m) - a4.1) b cf)) ((Zae z fu (ZaL z l a4.1 m ((((a + b) / 2) + m) - a4.1) cf) a a4.1 ((a + b) / 2) cf))) (cond ((decide ((((a + b) / 2 : Nat) : Int) < (((((a + b) / 2) + m) - a4.1 : Nat) : Int)) && decide ((((((a + b) / 2) + m) - a4.1 : Nat) : Int) < ((b : Nat) : Int)))) ((Zae z fu (ZaL z l a4.1 m ((((a + b) / 2) + m) - a4.1) cf) ((a + b) / 2) ((((a + b) / 2) + m) - a4.1) b cf)) ((ZaL z l a4.1 m ((((a + b) / 2) + m) - a4.1) cf)))) (cond ((decide (((a : Nat) : Int) < ((a4.1 : Nat) : Int)) && decide (((a4.1 : Nat) : Int) < (((a + b) / 2 : Nat) : Int)))) (cond ((decide ((((a + b) / 2 : Nat) : Int) < (((((a + b) / 2) + m) - a4.1 : Nat) : Int)) && decide ((((((a + b) / 2) + m) - a4.1 : Nat) : Int) < ((b : Nat) : Int)))) ((Zae z fu (Zae z fu l a a4.1 ((a + b) / 2) cf) ((a + b) / 2) ((((a + b) / 2) + m) - a4.1) b cf)) ((Zae z fu l a a4.1 ((a + b) / 2) cf))) (cond ((decide ((((a + b) / 2 : Nat) : Int) < (((((a + b) / 2) + m) - a4.1 : Nat) : Int)) && decide ((((((a + b) / 2) + m) - a4.1 : Nat) : Int) < ((b : Nat) : Int)))) ((Zae z fu l ((a + b) / 2) ((((a + b) / 2) + m) - a4.1) b cf)) (l)))) (fun v => v) (Zbb z l a m b cf (((a + b) / 2) - ((((a + b) / 2) + m) - b) + 1) ((((a + b) / 2) + m) - b) ((a + b) / 2))) (Sum.elim (fun a5 => cond ((decide (((a5.1 : Nat) : Int) < ((m : Nat) : Int)) && decide (((m : Nat) : Int) < (((((a + b) / 2) + m) - a5.1 : Nat) : Int)))) (cond ((decide (((a : Nat) : Int) < ((a5.1 : Nat) : Int)) && decide (((a5.1 : Nat) : Int) < (((a + b) / 2 : Nat) : Int)))) (cond ((decide ((((a + b) / 2 : Nat) : Int) < (((((a + b) / 2) + m) - a5.1 : Nat) : Int)) && decide ((((((a + b) / 2) + m) - a5.1 : Nat) : Int) < ((b : Nat) : Int)))) ((Zae z fu (Zae z fu (ZaL z l a5.1 m ((((a + b) / 2) + m) - a5.1) cf) a a5.1 ((a + b) / 2) cf) ((a + b) / 2) ((((a + b) / 2) + m) - a5.1) b cf)) ((Zae z fu (ZaL z l a5.1 m ((((a + b) / 2) + m) - a5.1) cf) a a5.1 ((a + b) / 2) cf))) (cond ((decide ((((a + b) / 2 : Nat) : Int) < (((((a + b) / 2) + m) - a5.1 : Nat) : Int)) && decide ((((((a + b) / 2) + m) - a5.1 : Nat) : Int) < ((b : Nat) : Int)))) ((Zae z fu (ZaL z l a5.1 m ((((a + b) / 2) + m) - a5.1) cf) ((a + b) / 2) ((((a + b) / 2) + m) - a5.1) b cf)) ((ZaL z l a5.1 m ((((a + b) / 2) + m) - a5.1) cf)))) (cond ((decide (((a : Nat) : Int) < ((a5.1 : Nat) : Int)) && decide (((a5.1 : Nat) : Int) < (((a + b) / 2 : Nat) : Int)))) (cond ((decide ((((a + b) / 2 : Nat) : Int) < (((((a + b) / 2) + m) - a5.1 : Nat) : Int)) && decide ((((((a + b) / 2) + m) - a5.1 : Nat) : Int) < ((b : Nat) : Int)))) ((Zae z fu (Zae z fu l a a5.1 ((a + b) / 2) cf) ((a + b) / 2) ((((a + b) / 2) + m) - a5.1) b cf)) ((Zae z fu l a a5.1 ((a + b) / 2) cf))) (cond ((decide ((((a + b) / 2 : Nat) : Int) < (((((a + b) / 2) + m) - a5.1 : Nat) : Int)) && decide ((((((a + b) / 2) + m) - a5.1 : Nat) : Int) < ((b : Nat) : Int)))) ((Zae z fu l ((a + b) / 2) ((((a + b) / 2) + m) - a5.1) b cf)) (l)))) (fun v => v) (Za9 z l a m b cf (m - a + 1) a m))))
def ZcD {α : Type} (z : α) (n : Nat) (cf : α → α → Int) : Nat → Nat → Nat → (List α) → (Nat × Nat × List α) ⊕ (List α)
 | 0, v0_7, v0_8, v0_k00 => .inl (v0_7, v0_8, v0_k00)
 | fu0 + 1, v0_7, v0_8, v0_k00 => cond (decide (((v0_8 : Nat) : Int) ≤ ((n : Nat) : Int))) (ZcD z n cf fu0 v0_8 (v0_8 + 20) (Zbn z v0_k00 v0_7 v0_8 cf)) (.inl (v0_7, v0_8, v0_k00))
def ZcG {α : Type} (z : α) (n : Nat) (cf : α → α → Int) (v1_6 : Nat) : Nat → Nat → Nat → (List α) → (Nat × Nat × List α) ⊕ (List α)
 | 0, v2_7, v2_8, v2_k00 => .inl (v2_7, v2_8, v2_k00)
 | fu2 + 1, v2_7, v2_8, v2_k00 => cond (decide (((v2_8 : Nat) : Int) ≤ ((n : Nat) : Int))) (ZcG z n cf v1_6 fu2 v2_8 (v2_8 + (2 * v1_6)) (Zae z (v2_8 - v2_7 + 1) v2_k00 v2_7 (v2_7 + v1_6) v2_8 cf)) (.inl (v2_7, v2_8, v2_k00))
def ZbR {α : Type} (z : α) (n : Nat) (cf : α → α → Int) : Nat → Nat → (List α) → (Nat × List α) ⊕ (List α)
 | 0, v1_6, v1_k00 => .inl (v1_6, v1_k00)
 | fu1 + 1, v1_6, v1_k00 => cond (decide (((v1_6 : Nat) : Int) < ((n : Nat) : Int))) (Sum.elim (fun a2 => cond (decide (((a2.1 + v1_6 : Nat) : Int) < ((n : Nat) : Int))) (ZbR z n cf fu1 (v1_6 * 2) (Zae z (n - a2.1 + 1) a2.2.2 a2.1 (a2.1 + v1_6) n cf)) (ZbR z n cf fu1 (v1_6 * 2) a2.2.2)) (fun v => .inr v) (ZcG z n cf v1_6 (n + 1 - (2 * v1_6) + 1) 0 (2 * v1_6) v1_k00)) (.inl (v1_6, v1_k00))
def Ziw {α : Type} (z : α) (l : List α) (n : Nat) (cf : α → α → Int) : List α := Sum.elim (fun a0 => Sum.elim (fun a1 => a1.2) (fun v => v) (ZbR z n cf (n - 20 + 1) 20 (Zbn z a0.2.2 a0.1 n cf))) (fun v => v) (ZcD z n cf (n + 1 - 20 + 1) 0 20 l)
def Zcf {α : Type} (z : α) (l : List α) (cf : α → α → Int) : List α := (Ziw z l l.length cf)
end Go.Eng
namespace Go.Eng
set_option linter.all false
section
variable {α : Type} {z : α}
theorem ZlH (v : List α) (i j k : Nat) (hi : i < v.length) (hj : j < v.length) : ((v.set i (v.getD j z)).set j (v.getD i z)).getD k z = if k = j then v.getD i z else if k = i then v.getD j z else v.getD k z := by
 grind
theorem ZiW (v : List α) (i j : Nat) (hi : i < v.length) (hj : j < v.length) : ((v.set i (v.getD j z)).set j (v.getD i z)).Perm v := by
 have e : ∀ k (h : k < v.length), v.getD k z = v[k] := fun k h => by rw [Yj, Yc h, YJ]
 rw [e i hi, e j hj]
 exact List.set_set_perm hi hj
theorem ZPi (a b n : Nat) (hab : a + n ≤ b) : ∀ (fu i : Nat) (v : List α), n - i < fu → i ≤ n → b + n ≤ v.length → ∃ i' v', Zby z a b n fu i v = .inl (i', v') ∧ v'.length = v.length ∧ v'.Perm v ∧
  ∀ k, v'.getD k z = if a + i ≤ k ∧ k < a + n then v.getD (b + (k - a)) z else if b + i ≤ k ∧ k < b + n then v.getD (a + (k - b)) z else v.getD k z
 | 0, i, v, hf, _, _ => absurd hf (YQ _)
 | fu + 1, i, v, hf, hi, hb => by
  rw [Zby]
  by_cases hn : i < n
  ·rw [decide_eq_true (by omega), cond_true]
   obtain ⟨i', v', h1, h2, hp, h3⟩ := ZPi a b n hab fu (i + 1) ((v.set (a + i) (v.getD (b + i) z)).set (b + i) (v.getD (a + i) z)) (by omega) (by omega) (by simpa using hb)
   refine ⟨i', v', h1, by simpa using h2, hp.trans (ZiW v _ _ (by omega) (by omega)), fun k => ?_⟩
   rw [h3 k]
   simp only [ZlH v (a + i) (b + i) _ (by omega) (by omega)]
   repeat' split
   all_goals first | rfl | (exfalso; omega) | (congr 1; omega)
  ·rw [decide_eq_false (by omega), cond_false]
   refine ⟨i, v, rfl, rfl, .refl _, fun k => ?_⟩
   grind
theorem Zkz (l : List α) (a b n : Nat) (cf : α → α → Int) (hab : a + n ≤ b) (hb : b + n ≤ l.length) : (ZaD z l a b n cf).length = l.length ∧ (ZaD z l a b n cf).Perm l ∧
  ∀ k, (ZaD z l a b n cf).getD k z = if a ≤ k ∧ k < a + n then l.getD (b + (k - a)) z else if b ≤ k ∧ k < b + n then l.getD (a + (k - b)) z else l.getD k z := by
 rw [ZaD]
 obtain ⟨i', v', h1, h2, hp, h3⟩ := ZPi (z := z) a b n hab (n - 0 + 1) 0 l (YB _) (Yaq _) hb
 grind
theorem ZFm (m : Nat) (cf : α → α → Int) : ∀ (fu i j : Nat) (v : List α), i + j < fu → 0 < i → 0 < j → i ≤ m → m + j ≤ v.length → ∃ i' j' v', ZbM z m cf fu i j v = .inl (i', j', v') ∧
  (ZaD z v' (m - i') m i' cf).length = v.length ∧ (ZaD z v' (m - i') m i' cf).Perm v ∧
  ∀ k, (ZaD z v' (m - i') m i' cf).getD k z = if m - i ≤ k ∧ k < m + j then (if k < m - i + j then v.getD (k + i) z else v.getD (k - j) z) else v.getD k z
 | 0, i, j, v, hf, _, _, _, _ => absurd hf (YQ _)
 | fu + 1, i, j, v, hf, h0, h1, hi, hj => by
  rw [ZbM]
  by_cases he : i = j
  ·subst he
   rw [decide_eq_true rfl, Yz, cond_false]
   obtain ⟨q1, q2, q3⟩ := Zkz (z := z) v (m - i) m i cf (by omega) (by omega)
   refine ⟨i, i, v, rfl, q1, q2, fun k => ?_⟩
   rw [q3 k]
   repeat' split
   all_goals first | rfl | (exfalso; omega) | (congr 1; omega)
  ·rw [decide_eq_false (by omega), YK, cond_true]
   by_cases hlt : j < i
   ·rw [decide_eq_true (by omega), cond_true]
    obtain ⟨q1, q2, q3⟩ := Zkz (z := z) v (m - i) m j cf (by omega) (by omega)
    obtain ⟨i', j', v', e1, e2, e3, e4⟩ := ZFm m cf fu (i - j) j _ (by omega) (by omega) h1 (by omega) (by rw [q1]; omega)
    refine ⟨i', j', v', e1, e2.trans q1, e3.trans q2, fun k => ?_⟩
    rw [e4 k]
    simp only [q3]
    repeat' split
    all_goals first | rfl | (exfalso; omega) | (congr 1; omega)
   ·rw [decide_eq_false (by omega), cond_false]
    obtain ⟨q1, q2, q3⟩ := Zkz (z := z) v (m - i) (m + j - i) i cf (by omega) (by omega)
    obtain ⟨i', j', v', e1, e2, e3, e4⟩ := ZFm m cf fu i (j - i) _ (by omega) h0 (by omega) hi (by rw [q1]; omega)
    refine ⟨i', j', v', e1, e2.trans q1, e3.trans q2, fun k => ?_⟩
    rw [e4 k]
    simp only [q3]
    repeat' split
    all_goals first | rfl | (exfalso; omega) | (congr 1; omega)
theorem ZhA (l : List α) (a m b : Nat) (cf : α → α → Int) (h1 : a < m) (h2 : m < b) (h3 : b ≤ l.length) : (ZaL z l a m b cf).length = l.length ∧ (ZaL z l a m b cf).Perm l ∧
  ∀ k, (ZaL z l a m b cf).getD k z = if a ≤ k ∧ k < b then (if k < a + (b - m) then l.getD (k + (m - a)) z else l.getD (k - (b - m)) z) else l.getD k z := by
 rw [ZaL]
 obtain ⟨i', j', v', e1, e2, e3, e4⟩ := ZFm (z := z) m cf (m - a + (b - m) + 1) (m - a) (b - m) l (YB _) (by omega) (by omega) (by omega) (by omega)
 grind
end
section
variable {α : Type} {z : α} {lt : α → α → Prop}
def ZcC (lt : α → α → Prop) (z : α) (v : List α) (a b : Nat) : Prop := ∀ i j, a ≤ i → i < j → j < b → lt (v.getD i z) (v.getD j z)
def ZhP (lt : α → α → Prop) (z : α) (cf : α → α → Int) (v : List α) (a m b : Nat) : Prop := ∀ p q, a ≤ p → p < m → m ≤ q → q < b →
 (cf (v.getD q z) (v.getD p z) < 0 → lt (v.getD q z) (v.getD p z)) ∧ (¬ cf (v.getD q z) (v.getD p z) < 0 → lt (v.getD p z) (v.getD q z))
structure Res (lt : α → α → Prop) (z : α) (v r : List α) (a b : Nat) : Prop where
 len : r.length = v.length
 perm : r.Perm v
 out : ∀ k, k < a ∨ b ≤ k → r.getD k z = v.getD k z
 inn : ∀ k, a ≤ k → k < b → ∃ k', a ≤ k' ∧ k' < b ∧ r.getD k z = v.getD k' z
 srt : ZcC lt z r a b
theorem Res.same {v : List α} {a b : Nat} (h : ZcC lt z v a b) : Res lt z v v a b := ⟨rfl, .refl _, fun _ _ => rfl, fun k h1 h2 => ⟨k, h1, h2, rfl⟩, h⟩
theorem bs1 (htr : ∀ x y w, lt x y → lt y w → lt x w) {l : List α} {a m b : Nat} {cf : α → α → Int} (ham : a < m) (hs : ZcC lt z l m b) (hc : ZhP lt z cf l a m b) : ∀ (fu i j : Nat), j - i < fu → m ≤ i → i ≤ j → j ≤ b →
  (∀ q, m ≤ q → q < i → lt (l.getD q z) (l.getD a z)) → (∀ q, j ≤ q → q < b → lt (l.getD a z) (l.getD q z)) →
  ∃ r, ZaX z l a cf fu i j = .inl r ∧ m ≤ r.1 ∧ r.1 ≤ b ∧ (∀ q, m ≤ q → q < r.1 → lt (l.getD q z) (l.getD a z)) ∧ (∀ q, r.1 ≤ q → q < b → lt (l.getD a z) (l.getD q z))
 | 0, i, j, hf, _, _, _, _, _ => absurd hf (YQ _)
 | fu + 1, i, j, hf, h1, h2, h3, h4, h5 => by
  rw [ZaX]
  by_cases hij : i < j
  ·rw [decide_eq_true (by omega), cond_true]
   obtain ⟨c1, c2⟩ := hc a ((i + j) / 2) (Nat.le_refl _) ham (by omega) (by omega)
   by_cases hcm : cf (l.getD ((i + j) / 2) z) (l.getD a z) < 0
   ·rw [decide_eq_true hcm, cond_true]
    refine bs1 htr ham hs hc fu _ _ (by omega) (by omega) (by omega) h3 (fun q q1 q2 => ?_) h5
    by_cases hq : q = (i + j) / 2
    ·grind
    ·exact htr _ _ _ (hs q ((i + j) / 2) q1 (by omega) (by omega)) (c1 hcm)
   ·rw [decide_eq_false hcm, cond_false]
    refine bs1 htr ham hs hc fu _ _ (by omega) h1 (by omega) (by omega) h4 (fun q q1 q2 => ?_)
    by_cases hq : q = (i + j) / 2
    ·grind
    ·exact htr _ _ _ (c2 hcm) (hs ((i + j) / 2) q (by omega) (by omega) q2)
  ·rw [decide_eq_false (by omega), cond_false]
   grind
theorem mv1 (a0 : Nat × Nat) : ∀ (fu k : Nat) (v : List α), a0.1 - k < fu → k + 1 ≤ a0.1 → a0.1 ≤ v.length → ∃ r, Zbr z a0 fu k v = .inl r ∧ r.2.length = v.length ∧ r.2.Perm v ∧
  ∀ q, r.2.getD q z = if k ≤ q ∧ q < a0.1 - 1 then v.getD (q + 1) z else if q = a0.1 - 1 then v.getD k z else v.getD q z
 | 0, k, v, hf, _, _ => absurd hf (YQ _)
 | fu + 1, k, v, hf, h1, h2 => by
  rw [Zbr]
  by_cases hk : k < a0.1 - 1
  ·rw [decide_eq_true (by omega), cond_true]
   obtain ⟨r, e1, e2, e3, e4⟩ := mv1 a0 fu (k + 1) ((v.set k (v.getD (k + 1) z)).set (k + 1) (v.getD k z)) (by omega) (by omega) (by simpa using h2)
   refine ⟨r, e1, by simpa using e2, e3.trans (ZiW v _ _ (by omega) (by omega)), fun q => ?_⟩
   rw [e4 q]
   simp only [ZlH v k (k + 1) _ (by omega) (by omega)]
   grind
  ·rw [decide_eq_false (by omega), cond_false]
   refine ⟨(k, v), rfl, rfl, .refl _, fun q => ?_⟩
   grind
theorem bs2 (htr : ∀ x y w, lt x y → lt y w → lt x w) {l : List α} {a m b : Nat} {cf : α → α → Int} (hmb : m < b) (hs : ZcC lt z l a m) (hc : ZhP lt z cf l a m b) : ∀ (fu i j : Nat), j - i < fu → a ≤ i → i ≤ j → j ≤ m →
  (∀ q, a ≤ q → q < i → lt (l.getD q z) (l.getD m z)) → (∀ q, j ≤ q → q < m → lt (l.getD m z) (l.getD q z)) →
  ∃ r, ZaV z l m cf fu i j = .inl r ∧ a ≤ r.1 ∧ r.1 ≤ m ∧ (∀ q, a ≤ q → q < r.1 → lt (l.getD q z) (l.getD m z)) ∧ (∀ q, r.1 ≤ q → q < m → lt (l.getD m z) (l.getD q z))
 | 0, i, j, hf, _, _, _, _, _ => absurd hf (YQ _)
 | fu + 1, i, j, hf, h1, h2, h3, h4, h5 => by
  rw [ZaV]
  by_cases hij : i < j
  ·rw [decide_eq_true (by omega), cond_true]
   obtain ⟨c1, c2⟩ := hc ((i + j) / 2) m (by omega) (by omega) (Nat.le_refl _) hmb
   by_cases hcm : cf (l.getD m z) (l.getD ((i + j) / 2) z) < 0
   ·rw [decide_eq_true hcm, Yz, cond_false]
    refine bs2 htr hmb hs hc fu _ _ (by omega) h1 (by omega) (by omega) h4 (fun q q1 q2 => ?_)
    by_cases hq : q = (i + j) / 2
    ·grind
    ·exact htr _ _ _ (c1 hcm) (hs ((i + j) / 2) q (by omega) (by omega) q2)
   ·rw [decide_eq_false hcm, YK, cond_true]
    refine bs2 htr hmb hs hc fu _ _ (by omega) (by omega) (by omega) h3 (fun q q1 q2 => ?_) h5
    by_cases hq : q = (i + j) / 2
    ·grind
    ·exact htr _ _ _ (hs q ((i + j) / 2) q1 (by omega) (by omega)) (c2 hcm)
  ·rw [decide_eq_false (by omega), cond_false]
   grind
theorem mv2 (a2 : Nat × Nat) : ∀ (fu k : Nat) (v : List α), k < fu → a2.1 ≤ k → k < v.length → ∃ r, Zba z a2 fu k v = .inl r ∧ r.2.length = v.length ∧ r.2.Perm v ∧
  ∀ q, r.2.getD q z = if a2.1 < q ∧ q ≤ k then v.getD (q - 1) z else if q = a2.1 then v.getD k z else v.getD q z
 | 0, k, v, hf, _, _ => absurd hf (YQ _)
 | fu + 1, k, v, hf, h1, h2 => by
  rw [Zba]
  by_cases hk : a2.1 < k
  ·rw [decide_eq_true (by omega), cond_true]
   obtain ⟨r, e1, e2, e3, e4⟩ := mv2 a2 fu (k - 1) ((v.set k (v.getD (k - 1) z)).set (k - 1) (v.getD k z)) (by omega) (by omega) (by simp; omega)
   refine ⟨r, e1, by simpa using e2, e3.trans (ZiW v _ _ (by omega) (by omega)), fun q => ?_⟩
   grind
  ·rw [decide_eq_false (by omega), cond_false]
   refine ⟨(k, v), rfl, rfl, .refl _, fun q => ?_⟩
   grind
end
section
variable {α : Type} {z : α} {lt : α → α → Prop}
theorem bs3 (htr : ∀ x y w, lt x y → lt y w → lt x w) {l : List α} {a m b lo hi p : Nat} {cf : α → α → Int} (hs : ZcC lt z l a m) (hs' : ZcC lt z l m b) (hc : ZhP lt z cf l a m b)
  (hlo : a ≤ lo) (hhi : hi ≤ m) (hp1 : m + hi ≤ p + 1) (hp2 : p < b + lo) (L : Nat → Nat → Nat → (Nat × Nat) ⊕ (List α)) (hL : ∀ fu i j, L (fu + 1) i j = cond (decide (((i : Nat) : Int) < ((j : Nat) : Int)))
   (cond (!decide (cf (l.getD (p - (i + j) / 2) z) (l.getD ((i + j) / 2) z) < (0 : Int))) (L fu ((i + j) / 2 + 1) j) (L fu i ((i + j) / 2))) (.inl (i, j))) :
  ∀ (fu i j : Nat), j - i < fu → lo ≤ i → i ≤ j → j ≤ hi →
  (∀ q, lo ≤ q → q < i → lt (l.getD q z) (l.getD (p - q) z)) → (∀ q, j ≤ q → q < hi → lt (l.getD (p - q) z) (l.getD q z)) →
  ∃ r, L fu i j = .inl r ∧ lo ≤ r.1 ∧ r.1 ≤ hi ∧ (∀ q, lo ≤ q → q < r.1 → lt (l.getD q z) (l.getD (p - q) z)) ∧ (∀ q, r.1 ≤ q → q < hi → lt (l.getD (p - q) z) (l.getD q z))
 | 0, i, j, hf, _, _, _, _, _ => absurd hf (YQ _)
 | fu + 1, i, j, hf, h1, h2, h3, h4, h5 => by
  rw [hL]
  by_cases hij : i < j
  ·rw [decide_eq_true (by omega), cond_true]
   obtain ⟨c1, c2⟩ := hc ((i + j) / 2) (p - (i + j) / 2) (by omega) (by omega) (by omega) (by omega)
   by_cases hcm : cf (l.getD (p - (i + j) / 2) z) (l.getD ((i + j) / 2) z) < 0
   ·rw [decide_eq_true hcm, Yz, cond_false]
    refine bs3 htr hs hs' hc hlo hhi hp1 hp2 L hL fu _ _ (by omega) h1 (by omega) (by omega) h4 (fun q q1 q2 => ?_)
    by_cases hq : q = (i + j) / 2
    ·rw [hq]; exact c1 hcm
    ·exact htr _ _ _ (hs' (p - q) (p - (i + j) / 2) (by omega) (by omega) (by omega)) (htr _ _ _ (c1 hcm) (hs ((i + j) / 2) q (by omega) (by omega) (by omega)))
   ·rw [decide_eq_false hcm, YK, cond_true]
    refine bs3 htr hs hs' hc hlo hhi hp1 hp2 L hL fu _ _ (by omega) (by omega) (by omega) h3 (fun q q1 q2 => ?_) h5
    by_cases hq : q = (i + j) / 2
    ·rw [hq]; exact c2 hcm
    ·exact htr _ _ _ (hs q ((i + j) / 2) (by omega) (by omega) (by omega)) (htr _ _ _ (c2 hcm) (hs' (p - (i + j) / 2) (p - q) (by omega) (by omega) (by omega)))
  ·rw [decide_eq_false (by omega), cond_false]
   exact ⟨(i, j), rfl, h1, by show i ≤ hi; omega, h4, fun q q1 q2 => h5 q (by have : i ≤ q := q1; omega) q2⟩
theorem ZwR (htr : ∀ x y w, lt x y → lt y w → lt x w) {l : List α} {a m b : Nat} {cf : α → α → Int} (ham : a + 1 = m) (hmb : m < b) (hb : b ≤ l.length) (hs : ZcC lt z l m b) (hc : ZhP lt z cf l a m b) :
  ∃ r, ZaX z l a cf (b - m + 1) m b = .inl r ∧ ∃ r2, Zbr z r (r.1 - a + 1) a l = .inl r2 ∧ Res lt z l r2.2 a b := by
 obtain ⟨r, e1, e2, e3, e4, e5⟩ := bs1 htr (by omega) hs hc (b - m + 1) m b (by omega) (Nat.le_refl _) (by omega) (Nat.le_refl _) (fun q q1 q2 => absurd q2 (by omega)) (fun q q1 q2 => absurd q2 (by omega))
 obtain ⟨r2, f1, f2, f3, f4⟩ := mv1 (z := z) r (r.1 - a + 1) a l (YB _) (by omega) (by omega)
 refine ⟨r, e1, r2, f1, f2, f3, fun k hk => ?_, fun k k1 k2 => ?_, fun i j i1 i2 i3 => ?_⟩
 ·grind
 ·grind
 ·rw [f4 i, f4 j]
  repeat' split
  all_goals first | (exfalso; omega) | exact e4 _ (by omega) (by omega) | exact e5 _ (by omega) (by omega) | exact hs _ _ (by omega) (by omega) (by omega) | skip
theorem Zsz (htr : ∀ x y w, lt x y → lt y w → lt x w) {l : List α} {a m b : Nat} {cf : α → α → Int} (ham : a < m) (hmb : m + 1 = b) (hb : b ≤ l.length) (hs : ZcC lt z l a m) (hc : ZhP lt z cf l a m b) :
  ∃ r, ZaV z l m cf (m - a + 1) a m = .inl r ∧ ∃ r2, Zba z r (m + 1) m l = .inl r2 ∧ Res lt z l r2.2 a b := by
 obtain ⟨r, e1, e2, e3, e4, e5⟩ := bs2 htr (by omega) hs hc (m - a + 1) a m (by omega) (Nat.le_refl _) (by omega) (Nat.le_refl _) (fun q q1 q2 => absurd q2 (by omega)) (fun q q1 q2 => absurd q2 (by omega))
 obtain ⟨r2, f1, f2, f3, f4⟩ := mv2 (z := z) r (m + 1) m l (YB _) (by omega) (by omega)
 refine ⟨r, e1, r2, f1, f2, f3, fun k hk => ?_, fun k k1 k2 => ?_, fun i j i1 i2 i3 => ?_⟩
 ·grind
 ·grind
 ·rw [f4 i, f4 j]
  repeat' split
  all_goals first | (exfalso; omega) | exact e4 _ (by omega) (by omega) | exact e5 _ (by omega) (by omega) | exact hs _ _ (by omega) (by omega) (by omega) | skip
end
section
variable {α : Type} {z : α} {lt : α → α → Prop}
def Zem (z : α) (fu : Nat) (l : List α) (a m b : Nat) (cf : α → α → Int) (s : Nat) : List α :=
 let l1 := cond (decide (((s : Nat) : Int) < ((m : Nat) : Int)) && decide (((m : Nat) : Int) < (((((a + b) / 2) + m) - s : Nat) : Int))) (ZaL z l s m ((((a + b) / 2) + m) - s) cf) l
 let l2 := cond (decide (((a : Nat) : Int) < ((s : Nat) : Int)) && decide (((s : Nat) : Int) < (((a + b) / 2 : Nat) : Int))) (Zae z fu l1 a s ((a + b) / 2) cf) l1
 cond (decide ((((a + b) / 2 : Nat) : Int) < (((((a + b) / 2) + m) - s : Nat) : Int)) && decide ((((((a + b) / 2) + m) - s : Nat) : Int) < ((b : Nat) : Int))) (Zae z fu l2 ((a + b) / 2) ((((a + b) / 2) + m) - s) b cf) l2
theorem ZcI {x y u w : Nat} (h : x < y ∧ u < w) : (decide (((x : Nat) : Int) < ((y : Nat) : Int)) && decide (((u : Nat) : Int) < ((w : Nat) : Int))) = true := by simp; omega
theorem Zcw {x y u w : Nat} (h : ¬ (x < y ∧ u < w)) : (decide (((x : Nat) : Int) < ((y : Nat) : Int)) && decide (((u : Nat) : Int) < ((w : Nat) : Int))) = false := by
 grind
theorem ZwX {fu : Nat} {cf : α → α → Int} (ih : ∀ (l : List α) (a m b : Nat), b - a < fu → a < m → m < b → b ≤ l.length → ZcC lt z l a m → ZcC lt z l m b → ZhP lt z cf l a m b → Res lt z l (Zae z fu l a m b cf) a b)
  (l : List α) (a m b s mid e : Nat) (hmid : mid = (a + b) / 2) (he : e = (a + b) / 2 + m - s) (hf : b - a < fu + 1) (h1 : a < m) (h2 : m < b) (h3 : b ≤ l.length) (hs : ZcC lt z l a m) (hs' : ZcC lt z l m b) (hc : ZhP lt z cf l a m b)
  (s1 : a ≤ s) (s2 : s ≤ m) (e1 : m ≤ e) (e2 : e ≤ b) (hA : ∀ x y, a ≤ x → x < s → e ≤ y → y < b → lt (l.getD x z) (l.getD y z)) (hB : ∀ x y, s ≤ x → x < m → m ≤ y → y < e → lt (l.getD y z) (l.getD x z)) (h4 : 2 ≤ b - a) :
  Res lt z l (Zem z fu l a m b cf s) a b := by
 unfold Zem
 dsimp only
 rw [← hmid] at he ⊢
 rw [← he]
 have hmb : mid < b := by omega
 have ham : a < mid := by omega
 have F : ∃ l1, cond (decide (((s : Nat) : Int) < ((m : Nat) : Int)) && decide (((m : Nat) : Int) < ((e : Nat) : Int))) (ZaL z l s m e cf) l = l1 ∧ l1.length = l.length ∧ l1.Perm l ∧
   ∀ k, l1.getD k z = if s ≤ k ∧ k < mid then l.getD (k + (m - s)) z else if mid ≤ k ∧ k < e then l.getD (k - (e - m)) z else l.getD k z := by
  by_cases hk : s < m ∧ m < e
  ·rw [ZcI hk, cond_true]
   obtain ⟨q1, q2, q3⟩ := ZhA (z := z) l s m e cf hk.1 hk.2 (by omega)
   grind
  ·rw [Zcw hk, cond_false]
   refine ⟨l, rfl, rfl, .refl _, fun k => ?_⟩
   grind
 obtain ⟨l1, g1, L1, P1, F⟩ := F
 rw [g1]
 have S1 : ZcC lt z l1 a s := fun i j i1 i2 i3 => by
  rw [F i, F j, if_neg (by omega), if_neg (by omega), if_neg (by omega), if_neg (by omega)]
  exact hs _ _ (by omega) i2 (by omega)
 have S2 : ZcC lt z l1 s mid := fun i j i1 i2 i3 => by
  rw [F i, F j, if_pos (by omega), if_pos (by omega)]
  exact hs' _ _ (by omega) (by omega) (by omega)
 have S3 : ZcC lt z l1 mid e := fun i j i1 i2 i3 => by
  rw [F i, F j, if_neg (by omega), if_pos (by omega), if_neg (by omega), if_pos (by omega)]
  exact hs _ _ (by omega) (by omega) (by omega)
 have S4 : ZcC lt z l1 e b := fun i j i1 i2 i3 => by
  rw [F i, F j, if_neg (by omega), if_neg (by omega), if_neg (by omega), if_neg (by omega)]
  exact hs' _ _ (by omega) i2 (by omega)
 have R2 : ∃ l2, cond (decide (((a : Nat) : Int) < ((s : Nat) : Int)) && decide (((s : Nat) : Int) < ((mid : Nat) : Int))) (Zae z fu l1 a s mid cf) l1 = l2 ∧ Res lt z l1 l2 a mid := by
  by_cases hk : a < s ∧ s < mid
  ·rw [ZcI hk, cond_true]
   refine ⟨_, rfl, ih l1 a s mid (by omega) hk.1 hk.2 (by omega) S1 S2 fun p q p1 p2 p3 p4 => ?_⟩
   rw [F p, F q, if_pos (by omega), if_neg (by omega), if_neg (by omega)]
   exact hc p (q + (m - s)) p1 (by omega) (by omega) (by omega)
  ·rw [Zcw hk, cond_false]
   refine ⟨l1, rfl, .same ?_⟩
   by_cases ha : a < s
   ·have : s = mid := by omega
    rw [← this]; exact S1
   ·have : s = a := by omega
    rw [← this]; exact S2
 obtain ⟨l2, g2, R2⟩ := R2
 rw [g2]
 have R3 : ∃ l3, cond (decide (((mid : Nat) : Int) < ((e : Nat) : Int)) && decide (((e : Nat) : Int) < ((b : Nat) : Int))) (Zae z fu l2 mid e b cf) l2 = l3 ∧ Res lt z l2 l3 mid b := by
  have T3 : ZcC lt z l2 mid e := fun i j i1 i2 i3 => by
   rw [R2.out i (.inr i1), R2.out j (.inr (by omega))]; exact S3 i j i1 i2 i3
  have T4 : ZcC lt z l2 e b := fun i j i1 i2 i3 => by
   rw [R2.out i (.inr (by omega)), R2.out j (.inr (by omega))]; exact S4 i j i1 i2 i3
  by_cases hk : mid < e ∧ e < b
  ·rw [ZcI hk, cond_true]
   refine ⟨_, rfl, ih l2 mid e b (by omega) hk.1 hk.2 (by rw [R2.len]; omega) T3 T4 fun p q p1 p2 p3 p4 => ?_⟩
   rw [R2.out p (.inr p1), R2.out q (.inr (by omega)), F p, F q, if_neg (by omega), if_neg (by omega), if_neg (by omega), if_pos (by omega)]
   exact hc (p - (e - m)) q (by omega) (by omega) (by omega) p4
  ·rw [Zcw hk, cond_false]
   refine ⟨l2, rfl, .same ?_⟩
   by_cases hm : mid < e
   ·have : e = b := by omega
    rw [← this]; exact T3
   ·have : e = mid := by omega
    rw [← this]; exact T4
 obtain ⟨l3, g3, R3⟩ := R3
 rw [g3]
 have inn1 : ∀ k, a ≤ k → k < b → ∃ k', a ≤ k' ∧ k' < b ∧ l1.getD k z = l.getD k' z := fun k k1 k2 => by
  rw [F k]
  repeat' split
  ·exact ⟨_, by omega, by omega, rfl⟩
  ·exact ⟨_, by omega, by omega, rfl⟩
  ·exact ⟨_, by omega, by omega, rfl⟩
 have inn2 : ∀ k, a ≤ k → k < b → ∃ k', a ≤ k' ∧ k' < b ∧ l2.getD k z = l.getD k' z := fun k k1 k2 => by
  by_cases hk : k < mid
  ·obtain ⟨k', q1, q2, q3⟩ := R2.inn k k1 hk
   rw [q3]; exact inn1 k' q1 (by omega)
  ·rw [R2.out k (.inr (by omega))]; exact inn1 k k1 k2
 refine ⟨R3.len.trans (R2.len.trans L1), R3.perm.trans (R2.perm.trans P1), fun k hk => ?_, fun k k1 k2 => ?_, fun i j i1 i2 i3 => ?_⟩
 ·rw [R3.out k (by omega), R2.out k (by omega), F k]
  repeat' split
  all_goals first | rfl | (exfalso; omega)
 ·by_cases hk : k < mid
  ·rw [R3.out k (.inl hk)]; exact inn2 k k1 k2
  ·obtain ⟨k', q1, q2, q3⟩ := R3.inn k (by omega) k2
   rw [q3]; exact inn2 k' (by omega) q2
 ·by_cases hj : j < mid
  ·rw [R3.out i (.inl (by omega)), R3.out j (.inl hj)]; exact R2.srt i j i1 i2 hj
  ·by_cases hi : mid ≤ i
   ·exact R3.srt i j hi i2 i3
   ·rw [R3.out i (.inl (by omega))]
    obtain ⟨j', j1, j2, j3⟩ := R3.inn j (by omega) i3
    obtain ⟨i', k1, k2, k3⟩ := R2.inn i i1 (by omega)
    rw [j3, k3, R2.out j' (.inr j1), F i', F j']
    repeat' split
    all_goals first | (exfalso; omega) | exact hB _ _ (by omega) (by omega) (by omega) (by omega) | exact hA _ _ (by omega) (by omega) (by omega) (by omega) | exact hs _ _ (by omega) (by omega) (by omega) | exact hs' _ _ (by omega) (by omega) (by omega)
end
section
variable {α : Type} {z : α} {lt : α → α → Prop}
theorem Zqs (htr : ∀ x y w, lt x y → lt y w → lt x w) {l : List α} {a m x p : Nat} {w : α} (hs : ZcC lt z l a m) (h : lt (l.getD p z) w) (h1 : a ≤ x) (h2 : x ≤ p) (h3 : p < m) : lt (l.getD x z) w := by
 by_cases e : x = p
 ·grind
 ·exact htr _ _ _ (hs x p h1 (by omega) h3) h
theorem ZzB (htr : ∀ x y w, lt x y → lt y w → lt x w) {l : List α} {m b y p : Nat} {w : α} (hs : ZcC lt z l m b) (h : lt w (l.getD p z)) (h1 : m ≤ p) (h2 : p ≤ y) (h3 : y < b) : lt w (l.getD y z) := by
 by_cases e : y = p
 ·grind
 ·exact htr _ _ _ h (hs p y h1 (by omega) h3)
theorem Zne (htr : ∀ x y w, lt x y → lt y w → lt x w) {fu : Nat} {cf : α → α → Int} (ih : ∀ (l : List α) (a m b : Nat), b - a < fu → a < m → m < b → b ≤ l.length → ZcC lt z l a m → ZcC lt z l m b → ZhP lt z cf l a m b → Res lt z l (Zae z fu l a m b cf) a b)
  (l : List α) (a m b : Nat) (hf : b - a < fu + 1) (h1 : a < m) (h2 : m < b) (h3 : b ≤ l.length) (hs : ZcC lt z l a m) (hs' : ZcC lt z l m b) (hc : ZhP lt z cf l a m b) (h4 : 2 ≤ b - a)
  (lo hi s : Nat) (hlo : a ≤ lo) (hhi : hi ≤ m) (hm : hi ≤ (a + b) / 2) (hb : (a + b) / 2 + m ≤ b + lo) (x1 : lo = a ∨ lo + b = (a + b) / 2 + m) (x2 : hi = m ∨ hi = (a + b) / 2) (s1 : lo ≤ s) (s2 : s ≤ hi)
  (q1 : ∀ q, lo ≤ q → q < s → lt (l.getD q z) (l.getD ((a + b) / 2 + m - 1 - q) z)) (q2 : ∀ q, s ≤ q → q < hi → lt (l.getD ((a + b) / 2 + m - 1 - q) z) (l.getD q z)) :
  Res lt z l (Zem z fu l a m b cf s) a b := by
 refine ZwX ih l a m b s ((a + b) / 2) ((a + b) / 2 + m - s) rfl rfl hf h1 h2 h3 hs hs' hc (by omega) (by omega) (by omega) (by omega) (fun x y a1 a2 a3 a4 => ?_) (fun x y a1 a2 a3 a4 => ?_) h4
 ·have hk : lo < s := by omega
  have := q1 (s - 1) (by omega) (by omega)
  exact Zqs htr hs (ZzB htr hs' this (by omega) (by omega) a4) a1 (by omega) (by omega)
 ·have hk : s < hi := by omega
  have := q2 s (Nat.le_refl _) hk
  exact Zqs htr hs' (ZzB htr hs this (by omega) a1 a2) a3 (by omega) (by omega)
theorem ZqH (htr : ∀ x y w, lt x y → lt y w → lt x w) (cf : α → α → Int) : ∀ (fu : Nat) (l : List α) (a m b : Nat), b - a < fu → a < m → m < b → b ≤ l.length → ZcC lt z l a m → ZcC lt z l m b → ZhP lt z cf l a m b → Res lt z l (Zae z fu l a m b cf) a b
 | 0, l, a, m, b, hf, _, _, _, _, _, _ => absurd hf (YQ _)
 | fu + 1, l, a, m, b, hf, h1, h2, h3, hs, hs', hc => by
  have tl : ∀ s, Res lt z l (Zem z fu l a m b cf s) a b → ∀ X, Zem z fu l a m b cf s = X → Res lt z l X a b := fun s h X e => e ▸ h
  rw [Zae]
  by_cases k1 : m - a = 1
  ·rw [decide_eq_true (by omega), cond_true]
   obtain ⟨r, e1, r2, f1, R⟩ := ZwR htr (cf := cf) (by omega) h2 h3 hs' hc
   grind
  ·rw [decide_eq_false (by omega), cond_false]
   by_cases k2 : b - m = 1
   ·rw [decide_eq_true (by omega), cond_true]
    obtain ⟨r, e1, r2, f1, R⟩ := Zsz htr (cf := cf) h1 (by omega) h3 hs hc
    grind
   ·rw [decide_eq_false (by omega), cond_false]
    by_cases k3 : (a + b) / 2 < m
    ·rw [decide_eq_true (by omega), cond_true]
     obtain ⟨r, e1, e2, e3, e4, e5⟩ := bs3 htr hs hs' hc (lo := (a + b) / 2 + m - b) (hi := (a + b) / 2) (p := (a + b) / 2 + m - 1) (by omega) (by omega) (by omega) (by omega) (Zbb z l a m b cf) (fun fu i j => by rw [Zbb])
      ((a + b) / 2 - ((a + b) / 2 + m - b) + 1) ((a + b) / 2 + m - b) ((a + b) / 2) (YB _) (Nat.le_refl _) (by omega) (Nat.le_refl _) (fun q q1 q2 => absurd q2 (by omega)) (fun q q1 q2 => absurd q2 (by omega))
     rw [e1, Sum.elim_inl]
     refine tl r.1 (Zne htr (ZqH htr cf fu) l a m b hf h1 h2 h3 hs hs' hc (by omega) ((a + b) / 2 + m - b) ((a + b) / 2) r.1 (by omega) (by omega) (by omega) (by omega) (.inr (by omega)) (.inr rfl) e2 e3 e4 e5) _ ?_
     unfold Zem
     grind
    ·rw [decide_eq_false (by omega), cond_false]
     obtain ⟨r, e1, e2, e3, e4, e5⟩ := bs3 htr hs hs' hc (lo := a) (hi := m) (p := (a + b) / 2 + m - 1) (by omega) (by omega) (by omega) (by omega) (Za9 z l a m b cf) (fun fu i j => by rw [Za9])
      (m - a + 1) a m (YB _) (Nat.le_refl _) (by omega) (Nat.le_refl _) (fun q q1 q2 => absurd q2 (by omega)) (fun q q1 q2 => absurd q2 (by omega))
     rw [e1, Sum.elim_inl]
     refine tl r.1 (Zne htr (ZqH htr cf fu) l a m b hf h1 h2 h3 hs hs' hc (by omega) a m r.1 (by omega) (by omega) (by omega) (by omega) (.inl rfl) (.inl rfl) e2 e3 e4 e5) _ ?_
     unfold Zem
     grind
end
section
variable {α : Type} {z : α} {lt : α → α → Prop}
def ZhK (lt : α → α → Prop) (z : α) (cf : α → α → Int) (v : List α) (a b : Nat) : Prop := ∀ p q, a ≤ p → p < q → q < b →
 (cf (v.getD q z) (v.getD p z) < 0 → lt (v.getD q z) (v.getD p z)) ∧ (¬ cf (v.getD q z) (v.getD p z) < 0 → lt (v.getD p z) (v.getD q z))
theorem Zy6 (a : Nat) (cf : α → α → Int) : ∀ (fu j : Nat) (v : List α), j < fu → a ≤ j → j < v.length → ∃ r, Zbc z a cf fu j v = .inl r ∧ r.2.length = v.length ∧ r.2.Perm v ∧ a ≤ r.1 ∧ r.1 ≤ j ∧
  (∀ q, r.2.getD q z = if r.1 < q ∧ q ≤ j then v.getD (q - 1) z else if q = r.1 then v.getD j z else v.getD q z) ∧ (∀ q, r.1 ≤ q → q < j → cf (v.getD j z) (v.getD q z) < 0) ∧ (r.1 = a ∨ ¬ cf (v.getD j z) (v.getD (r.1 - 1) z) < 0)
 | 0, j, v, hf, _, _ => absurd hf (YQ _)
 | fu + 1, j, v, hf, h1, h2 => by
  rw [Zbc]
  by_cases hk : a < j ∧ cf (v.getD j z) (v.getD (j - 1) z) < 0
  ·rw [show (decide (((a : Nat) : Int) < ((j : Nat) : Int)) && decide (cf (v.getD j z) (v.getD (j - 1) z) < (0 : Int))) = true from by rw [decide_eq_true (by omega), decide_eq_true hk.2]; rfl, cond_true]
   obtain ⟨r, e1, e2, e3, e4, e5, e6, e7, e8⟩ := Zy6 a cf fu (j - 1) ((v.set j (v.getD (j - 1) z)).set (j - 1) (v.getD j z)) (by omega) (by omega) (by simp; omega)
   have sw : ∀ q, ((v.set j (v.getD (j - 1) z)).set (j - 1) (v.getD j z)).getD q z = if q = j - 1 then v.getD j z else if q = j then v.getD (j - 1) z else v.getD q z := fun q => ZlH v j (j - 1) q h2 (by omega)
   refine ⟨r, e1, by simpa using e2, e3.trans (ZiW v _ _ (by omega) (by omega)), e4, by omega, fun q => ?_, fun q q1 q2 => ?_, ?_⟩
   ·grind
   ·by_cases hq : q = j - 1
    ·rw [hq]; exact hk.2
    ·have := e7 q q1 (by omega)
     rw [sw, sw, if_pos rfl, if_neg hq, if_neg (by omega)] at this
     exact this
   ·rcases e8 with h | h
    ·exact .inl h
    ·by_cases ha : r.1 = a
     ·exact .inl ha
     ·rw [sw, sw, if_pos rfl, if_neg (by omega), if_neg (by omega)] at h
      exact .inr h
  ·rw [show (decide (((a : Nat) : Int) < ((j : Nat) : Int)) && decide (cf (v.getD j z) (v.getD (j - 1) z) < (0 : Int))) = false from by
    rw [YaY]
    by_cases h : a < j
    ·exact .inr (decide_eq_false (fun h' => hk ⟨h, h'⟩))
    ·exact .inl (decide_eq_false (by omega)), cond_false]
   refine ⟨(j, v), rfl, rfl, .refl _, h1, Nat.le_refl _, fun q => ?_, fun q q1 q2 => absurd q2 (by have : j ≤ q := q1; omega), ?_⟩
   ·repeat' split
    all_goals first | rfl | (exfalso; omega) | (congr 1 <;> omega)
   ·by_cases h : a < j
    ·exact .inr fun h' => hk ⟨h, h'⟩
    ·exact .inl (by show j = a; omega)
theorem Zxb (htr : ∀ x y w, lt x y → lt y w → lt x w) {cf : α → α → Int} {l v : List α} {a b i : Nat} (R : Res lt z l v a i) (hc : ZhK lt z cf l a b) (hi : i < b) (hb : b ≤ l.length) (ha : a < i) :
  ∃ r, Zbc z a cf (i + 1) i v = .inl r ∧ Res lt z l r.2 a (i + 1) := by
 obtain ⟨r, e1, e2, e3, e4, e5, e6, e7, e8⟩ := Zy6 (z := z) a cf (i + 1) i v (YB _) (by omega) (by rw [R.len]; omega)
 have hvi : v.getD i z = l.getD i z := R.out i (.inr (Nat.le_refl _))
 have c1 : ∀ q, r.1 ≤ q → q < i → lt (v.getD i z) (v.getD q z) := fun q q1 q2 => by
  have h := e7 q q1 q2
  obtain ⟨q', k1, k2, k3⟩ := R.inn q (by omega) q2
  rw [hvi, k3] at h ⊢
  exact (hc q' i k1 k2 hi).1 h
 have c2 : a < r.1 → lt (v.getD (r.1 - 1) z) (v.getD i z) := fun h => by
  rcases e8 with h' | h'
  ·omega
  ·obtain ⟨q', k1, k2, k3⟩ := R.inn (r.1 - 1) (by omega) (by omega)
   rw [hvi, k3] at h' ⊢
   exact (hc q' i k1 k2 hi).2 h'
 refine ⟨r, e1, e2.trans R.len, e3.trans R.perm, fun k hk => ?_, fun k k1 k2 => ?_, fun x y x1 x2 x3 => ?_⟩
 ·rw [e6 k, if_neg (by omega), if_neg (by omega)]
  exact R.out k (by omega)
 ·rw [e6 k]
  repeat' split
  ·obtain ⟨q', j1, j2, j3⟩ := R.inn (k - 1) (by omega) (by omega)
   exact ⟨q', j1, by omega, j3⟩
  ·exact ⟨i, by omega, by omega, hvi⟩
  ·obtain ⟨q', j1, j2, j3⟩ := R.inn k (by omega) (by omega)
   exact ⟨q', j1, by omega, j3⟩
 ·rw [e6 x, e6 y]
  repeat' split
  all_goals first | (exfalso; omega) | exact c1 _ (by omega) (by omega) | exact R.srt _ _ (by omega) (by omega) (by omega) | exact Zqs htr R.srt (c2 (by omega)) (by omega) (by omega) (by omega)
theorem Zx1 (htr : ∀ x y w, lt x y → lt y w → lt x w) {cf : α → α → Int} {l : List α} {a b : Nat} (hc : ZhK lt z cf l a b) (hb : b ≤ l.length) : ∀ (fu i : Nat) (v : List α), b - i < fu → a < i → i ≤ b → Res lt z l v a i →
  ∃ r, ZbK z a b cf fu i v = .inl r ∧ Res lt z l r.2 a b
 | 0, i, v, hf, _, _, _ => absurd hf (YQ _)
 | fu + 1, i, v, hf, h1, h2, R => by
  rw [ZbK]
  by_cases hi : i < b
  ·rw [decide_eq_true (by omega), cond_true]
   obtain ⟨r, e1, R'⟩ := Zxb htr R hc hi hb h1
   rw [e1, Sum.elim_inl]
   exact Zx1 htr hc hb fu (i + 1) r.2 (by omega) (by omega) (by omega) R'
  ·rw [decide_eq_false (by omega), cond_false]
   grind
theorem ZA4 (htr : ∀ x y w, lt x y → lt y w → lt x w) {cf : α → α → Int} (l : List α) (a b : Nat) (hc : ZhK lt z cf l a b) (hb : b ≤ l.length) : Res lt z l (Zbn z l a b cf) a b := by
 rw [Zbn]
 by_cases h : a < b
 ·obtain ⟨r, e1, R⟩ := Zx1 htr hc hb (b - (a + 1) + 1) (a + 1) l (YB _) (by omega) h (.same fun i j i1 i2 i3 => absurd i3 (by omega))
  grind
 ·rw [show b - (a + 1) + 1 = 0 + 1 from by omega, ZbK, decide_eq_false (by omega), cond_false]
  exact .same fun i j i1 i2 i3 => absurd i3 (by omega)
end
section
variable {α : Type} {z : α} {lt : α → α → Prop}
def ZrT (lt : α → α → Prop) (z : α) (l v : List α) (x y : Nat) : Prop := ZcC lt z v x y ∧ ∀ q, x ≤ q → q < y → ∃ q', x ≤ q' ∧ q' < y ∧ v.getD q z = l.getD q' z
theorem ZrT.keep {l v r : List α} {a b x y : Nat} (h : ZrT lt z l v x y) (R : Res lt z v r a b) (hd : y ≤ a ∨ b ≤ x) : ZrT lt z l r x y :=
 ⟨fun i j i1 i2 i3 => by rw [R.out i (by omega), R.out j (by omega)]; exact h.1 i j i1 i2 i3, fun q q1 q2 => by rw [R.out q (by omega)]; exact h.2 q q1 q2⟩
theorem Zx0 (htr : ∀ x y w, lt x y → lt y w → lt x w) {cf : α → α → Int} {l v : List α} {a m b : Nat} (hc : ZhK lt z cf l 0 l.length) (hl : v.length = l.length) (h1 : a < m) (h2 : m < b) (h3 : b ≤ l.length)
  (g1 : ZrT lt z l v a m) (g2 : ZrT lt z l v m b) : Res lt z v (Zae z (b - a + 1) v a m b cf) a b ∧ ZrT lt z l (Zae z (b - a + 1) v a m b cf) a b := by
 have R := ZqH htr cf (b - a + 1) v a m b (YB _) h1 h2 (by omega) g1.1 g2.1 (fun p q p1 p2 p3 p4 => by
  obtain ⟨p', a1, a2, a3⟩ := g1.2 p p1 p2
  obtain ⟨q', b1, b2, b3⟩ := g2.2 q p3 p4
  rw [a3, b3]
  exact hc p' q' (Yaq _) (by omega) (by omega))
 refine ⟨R, R.srt, fun q q1 q2 => ?_⟩
 obtain ⟨q', a1, a2, a3⟩ := R.inn q q1 q2
 rw [a3]
 by_cases hq : q' < m
 ·obtain ⟨p, b1, b2, b3⟩ := g1.2 q' a1 hq
  grind
 ·obtain ⟨p, b1, b2, b3⟩ := g2.2 q' (by omega) a2
  grind
theorem ZfJ {x a t k k' : Nat} (hx : x = k * t) (ha : a = k' * t) (h1 : a < x + t) (h2 : x < a + t) : x = a := by
 subst hx; subst ha
 have e1 : k * t + t = (k + 1) * t := by rw [YbN]
 have e2 : k' * t + t = (k' + 1) * t := by rw [YbN]
 rw [e1] at h1
 rw [e2] at h2
 have := Yby h1
 have := Yby h2
 grind
def ZLE (lt : α → α → Prop) (z : α) (l v : List α) (s : Nat) : Prop := v.length = l.length ∧ v.Perm l ∧ ∀ x k, x = k * s → x < l.length → ZrT lt z l v x (min (x + s) l.length)
theorem ZGO (htr : ∀ x y w, lt x y → lt y w → lt x w) {cf : α → α → Int} {l : List α} (hc : ZhK lt z cf l 0 l.length) : ∀ (fu a k : Nat) (v : List α), l.length + 1 - (a + 20) < fu → a = k * 20 → a ≤ l.length → v.length = l.length → v.Perm l →
  (∀ q, a ≤ q → v.getD q z = l.getD q z) → (∀ x j, x = j * 20 → x + 20 ≤ a → ZrT lt z l v x (x + 20)) →
  ∃ r, ZcD z l.length cf fu a (a + 20) v = .inl r ∧ ZLE lt z l (Zbn z r.2.2 r.1 l.length cf) 20
 | 0, a, k, v, hf, _, _, _, _, _, _ => absurd hf (YQ _)
 | fu + 1, a, k, v, hf, ha, hn, hl, hp, ho, hg => by
  have ok : ZhK lt z cf v a l.length := fun p q p1 p2 p3 => by rw [ho p p1, ho q (by omega)]; exact hc p q (Yaq _) p2 p3
  have good : ∀ b, b ≤ l.length → Res lt z v (Zbn z v a b cf) a b ∧ ZrT lt z l (Zbn z v a b cf) a b := fun b hb => by
   have R := ZA4 htr (cf := cf) v a b (fun p q p1 p2 p3 => ok p q p1 p2 (by omega)) (by omega)
   exact ⟨R, R.srt, fun q q1 q2 => by
    obtain ⟨q', a1, a2, a3⟩ := R.inn q q1 q2
    exact ⟨q', a1, a2, by rw [a3, ho q' a1]⟩⟩
  rw [ZcD]
  by_cases hb : a + 20 ≤ l.length
  ·rw [decide_eq_true (by omega), cond_true]
   obtain ⟨R, G⟩ := good (a + 20) hb
   refine ZGO htr hc fu (a + 20) (k + 1) _ (by omega) (by omega) hb (R.len.trans hl) (R.perm.trans hp) (fun q hq => by rw [R.out q (.inr hq)]; exact ho q (by omega)) (fun x j hx hxa => ?_)
   by_cases he : x + 20 ≤ a
   ·exact (hg x j hx he).keep R (.inl he)
   ·have := ZfJ hx ha (by omega) (by omega)
    rw [this]; exact G
  ·rw [decide_eq_false (by omega), cond_false]
   obtain ⟨R, G⟩ := good l.length (Nat.le_refl _)
   refine ⟨(a, a + 20, v), rfl, R.len.trans hl, R.perm.trans hp, fun x j hx hxn => ?_⟩
   by_cases he : x + 20 ≤ a
   ·rw [Yap (by omega)]
    exact (hg x j hx he).keep R (.inl he)
   ·have := ZfJ hx ha (by omega) (by omega)
    rw [this, YbO (by omega)]; exact G
end
section
variable {α : Type} {z : α} {lt : α → α → Prop}
theorem ZHF (htr : ∀ x y w, lt x y → lt y w → lt x w) {cf : α → α → Int} {l : List α} (hc : ZhK lt z cf l 0 l.length) {s : Nat} (hs : 0 < s) : ∀ (fu a k : Nat) (v : List α), l.length + 1 - (a + 2 * s) < fu → a = k * (2 * s) → a ≤ l.length → v.length = l.length → v.Perm l →
  (∀ x j, x = j * (2 * s) → x + 2 * s ≤ a → ZrT lt z l v x (x + 2 * s)) → (∀ x j, x = j * s → a ≤ x → x < l.length → ZrT lt z l v x (min (x + s) l.length)) →
  ∃ r, ZcG z l.length cf s fu a (a + 2 * s) v = .inl r ∧ ZLE lt z l (cond (decide (((r.1 + s : Nat) : Int) < ((l.length : Nat) : Int))) (Zae z (l.length - r.1 + 1) r.2.2 r.1 (r.1 + s) l.length cf) r.2.2) (s * 2)
 | 0, a, k, v, hf, _, _, _, _, _, _ => absurd hf (YQ _)
 | fu + 1, a, k, v, hf, ha, hn, hl, hp, hg, hr => by
  have e2 : a = (2 * k) * s := by rw [ha, ← Nat.mul_assoc, YbG k 2]
  have e3 : a + s = (2 * k + 1) * s := by rw [YbN, ← e2]
  rw [ZcG]
  by_cases hb : a + 2 * s ≤ l.length
  ·rw [decide_eq_true (by omega), cond_true]
   have g1 := hr a _ e2 (Nat.le_refl _) (by omega)
   have g2 := hr (a + s) _ e3 (by omega) (by omega)
   rw [Yap (by omega)] at g1 g2
   rw [show a + s + s = a + 2 * s from by omega] at g2
   obtain ⟨R, G⟩ := Zx0 htr hc hl (by omega) (by omega) hb g1 g2
   refine ZHF htr hc hs fu (a + 2 * s) (k + 1) _ (by omega) (by rw [YbN k (2 * s), ← ha]) hb (R.len.trans hl) (R.perm.trans hp) (fun x j hx hxa => ?_) (fun x j hx hxa hxn => ?_)
   ·by_cases he : x + 2 * s ≤ a
    ·exact (hg x j hx he).keep R (.inl he)
    ·have := ZfJ hx ha (by omega) (by omega)
     grind
   ·exact (hr x j hx (by omega) hxn).keep R (.inr hxa)
  ·rw [decide_eq_false (by omega), cond_false]
   refine ⟨(a, a + 2 * s, v), rfl, ?_⟩
   show ZLE lt z l (cond (decide (((a + s : Nat) : Int) < ((l.length : Nat) : Int))) (Zae z (l.length - a + 1) v a (a + s) l.length cf) v) (s * 2)
   by_cases hm : a + s < l.length
   ·rw [decide_eq_true (by omega), cond_true]
    have g1 := hr a _ e2 (Nat.le_refl _) (by omega)
    have g2 := hr (a + s) _ e3 (by omega) hm
    rw [Yap (by omega)] at g1
    rw [YbO (by omega)] at g2
    obtain ⟨R, G⟩ := Zx0 htr hc hl (by omega) hm (Nat.le_refl _) g1 g2
    refine ⟨R.len.trans hl, R.perm.trans hp, fun x j hx hxn => ?_⟩
    have hx' : x = j * (2 * s) := by rw [hx, YbG s 2]
    by_cases he : x + 2 * s ≤ a
    ·rw [Yap (by omega), show x + s * 2 = x + 2 * s from by omega]
     exact (hg x j hx' he).keep R (.inl he)
    ·have := ZfJ hx' ha (by omega) (by omega)
     grind
   ·rw [decide_eq_false (by omega), cond_false]
    refine ⟨hl, hp, fun x j hx hxn => ?_⟩
    have hx' : x = j * (2 * s) := by rw [hx, YbG s 2]
    by_cases he : x + 2 * s ≤ a
    ·grind
    ·have := ZfJ hx' ha (by omega) (by omega)
     grind
theorem ZJG (htr : ∀ x y w, lt x y → lt y w → lt x w) {cf : α → α → Int} {l : List α} (hc : ZhK lt z cf l 0 l.length) : ∀ (fu s : Nat) (v : List α), l.length - s < fu → 0 < s → ZLE lt z l v s →
  ∃ r, ZbR z l.length cf fu s v = .inl r ∧ r.2.length = l.length ∧ r.2.Perm l ∧ ZcC lt z r.2 0 l.length
 | 0, s, v, hf, _, _ => absurd hf (YQ _)
 | fu + 1, s, v, hf, h0, hR => by
  obtain ⟨hl, hp, hr⟩ := hR
  rw [ZbR]
  by_cases hb : s < l.length
  ·rw [decide_eq_true (by omega), cond_true]
   obtain ⟨r, e1, R⟩ := ZHF htr hc h0 (l.length + 1 - (2 * s) + 1) 0 0 v (by omega) (by simp) (Yaq _) hl hp (fun x j hx hxa => absurd hxa (by omega)) (fun x j hx hxa hxn => hr x j hx hxn)
   rw [YH] at e1
   rw [e1, Sum.elim_inl]
   have ih := ZJG htr hc fu (s * 2) _ (by omega) (by omega) R
   cases hd : decide (((r.1 + s : Nat) : Int) < ((l.length : Nat) : Int)) with
   | true => rw [hd] at ih; exact ih
   | false => rw [hd] at ih; exact ih
  ·rw [decide_eq_false (by omega), cond_false]
   refine ⟨(s, v), rfl, hl, hp, ?_⟩
   by_cases hz : 0 < l.length
   ·have := (hr 0 0 (by simp) hz).1
    rwa [YbO (by omega)] at this
   ·exact fun i j i1 i2 i3 => absurd i3 (by omega)
theorem ZpP (htr : ∀ x y w, lt x y → lt y w → lt x w) {cf : α → α → Int} (l : List α) (hc : ZhK lt z cf l 0 l.length) : (Zcf z l cf).Perm l ∧ ZcC lt z (Zcf z l cf) 0 l.length := by
 rw [Zcf, Ziw]
 obtain ⟨r, e1, R⟩ := ZGO htr hc (l.length + 1 - 20 + 1) 0 0 l (by omega) (by simp) (Yaq _) rfl (.refl _) (fun _ _ => rfl) (fun x j hx hxa => absurd hxa (by omega))
 rw [YH] at e1
 rw [e1, Sum.elim_inl]
 obtain ⟨r2, f1, f2, f3, f4⟩ := ZJG htr hc (l.length - 20 + 1) 20 _ (by omega) (by omega) R
 grind
end
section
variable {α β : Type} {f : β → α} {z : α} {z' : β} {cf : α → α → Int} {cf' : β → β → Int}
def m2 (f : β → α) (r : Nat × List β) : Nat × List α := (r.1, r.2.map f)
def m3 (f : β → α) (r : Nat × Nat × List β) : Nat × Nat × List α := (r.1, r.2.1, r.2.2.map f)
end
section
variable {α : Type} {z : α} {cf : α → α → Int}
structure CmpLaw (cf : α → α → Int) : Prop where
 tr : ∀ x y w, cf x y < 0 → cf y w < 0 → cf x w < 0
 ng : ∀ x y w, ¬ cf x y < 0 → ¬ cf y w < 0 → ¬ cf x w < 0
 ir : ∀ x, ¬ cf x x < 0
theorem ZMZ {β : Type} {lt : β → β → Prop} {z : β} {l : List β} (h : ZcC lt z l 0 l.length) : l.Pairwise lt := by
 rw [Ya8]
 intro i j hi hj hij
 have := h i j (Yaq _) hij hj
 grind
theorem Zov {β : Type} {lt : β → β → Prop} (has : ∀ a b, lt a b → lt b a → False) : ∀ {l r : List β}, l.Pairwise lt → r.Pairwise lt → l.Perm r → l = r
 | [], r, _, _, hp => (List.Perm.nil_eq hp)
 | a :: l, [], _, _, hp => absurd hp.length_eq (by simp)
 | a :: l, b :: r, h1, h2, hp => by
  have e : a = b := by
   have ha : a ∈ b :: r := hp.mem_iff.1 (Yt ..)
   have hb : b ∈ a :: l := hp.mem_iff.2 (Yt ..)
   rcases Yx.1 ha with e | ha
   ·exact e
   ·rcases Yx.1 hb with e | hb
    ·grind
    ·exact (has a b ((YaV.1 h1).1 b hb) ((YaV.1 h2).1 a ha)).elim
  subst e
  rw [Zov has (YaV.1 h1).2 (YaV.1 h2).2 (List.Perm.cons_inv hp)]
end
end Go.Eng
namespace Go.Proofs.YthagpbkmakocjaaGreat
set_option linter.all false
open Go Go.Eng
def ZvC (a b : ByteArray) : Int := if sLt a b = true then -1 else if gtB a b = true then 1 else 0
theorem Zy3 : ∀ x : List UInt8, Op.bytesLess x x = false
 | [] => rfl
 | a :: x => by
  unfold Op.bytesLess
  rw [Zy3 x]
  have : ¬ a < a := by rw [Ybk]; omega
  simp [this]
theorem ZH2 : ∀ x y z : List UInt8, Op.bytesLess x y = true → Op.bytesLess y z = true → Op.bytesLess x z = true
 | x, [], z, h, _ => by cases x <;> cases h
 | x, b :: y, [], _, h => by cases h
 | [], b :: y, c :: z, _, _ => rfl
 | a :: x, b :: y, c :: z, h1, h2 => by
  unfold Op.bytesLess at h1 h2 ⊢
  simp only [YI, Yd, decide_eq_true_eq, beq_iff_eq, Ybk] at h1 h2 ⊢
  rcases h1 with h1 | ⟨rfl, h1⟩
  ·rcases h2 with h2 | ⟨rfl, h2⟩
   ·exact .inl (by omega)
   ·exact .inl h1
  ·rcases h2 with h2 | ⟨rfl, h2⟩
   ·exact .inl h2
   ·exact .inr ⟨rfl, ZH2 x y z h1 h2⟩
theorem Zzq : ∀ x y : List UInt8, Op.bytesLess x y = false → x ≠ y → Op.bytesLess y x = true
 | [], [], _, h => absurd rfl h
 | [], b :: y, h, _ => by cases h
 | a :: x, [], _, _ => rfl
 | a :: x, b :: y, h, hne => by
  unfold Op.bytesLess at h ⊢
  simp only [Ybn, YaY, decide_eq_false_iff_not, beq_eq_false_iff_ne, Ybk, YI, Yd, decide_eq_true_eq, beq_iff_eq] at h ⊢
  by_cases hab : a = b
  ·subst hab
   refine .inr ⟨rfl, Zzq x y (h.2.resolve_left (fun q => q rfl)) (fun e => hne (by rw [e]))⟩
  ·have : a.toNat ≠ b.toNat := fun e => hab (UInt8.toNat_inj.1 e)
   exact .inl (by omega)
theorem ZLs {a b : ByteArray} (h : a.toList = b.toList) : a = b := by
 rw [ByteArray.toList_eq, ByteArray.toList_eq] at h
 obtain ⟨⟨a⟩⟩ := a
 obtain ⟨⟨b⟩⟩ := b
 simp only at h
 rw [h]
theorem Zmx (a : ByteArray) : sLt a a = false := Zy3 _
theorem ZzT {a b c : ByteArray} (h : sLt a b = true) (k : sLt b c = true) : sLt a c = true := ZH2 _ _ _ h k
theorem ZDM {a b : ByteArray} (h : sLt a b = false) (hne : a ≠ b) : sLt b a = true := Zzq _ _ h fun e => hne (ZLs e)
theorem ZqN (a b : ByteArray) : ZvC a b < 0 ↔ sLt a b = true := by
 unfold ZvC
 cases sLt a b with
 | true => simp
 | false => cases gtB a b <;> simp
theorem m61 (a b : ByteArray) : Zcq a b = some (ZvC a b) := by
 unfold Zcq ZvC gtB
 simp only [ZJ4, ZJT, lr, lf, cl, Zdx, Option.bind_some, decide_true, Yz, Yf, if_false]
 cases sLt a b with
 | true => rfl
 | false =>
  simp only [Yf, if_false, YaR]
  by_cases e : a = b <;> simp [e]
theorem m60 (x y : Msg) : Zcc x y = some (ZvC x.name y.name) := by
 unfold Zcc
 simp only [ZGK, vw, m61, Option.bind_some]
theorem m63 (x y : Enm) : Zci x y = some (ZvC x.name y.name) := by
 unfold Zci
 simp only [ZLh, vw, m61, Option.bind_some]
theorem m65 (x y : Svc) : Zcg x y = some (ZvC x.name y.name) := by
 unfold Zcg
 simp only [ZHs, vw, m61, Option.bind_some]
section
variable {α : Type} [Rw α] [Tid α]
set_option maxRecDepth 20000 in
theorem Zzr (l : List α) (a b n : Nat) (hl : l.length ≤ 1048576) (ha : a + n ≤ l.length) (hb : b + n ≤ l.length) : ∀ (d i : Nat) (v : List α) (N fu : Nat), i + d = n → d < N → d < fu → v.length = l.length →
  ∃ i' v', Zby (Rw.z : α) a b n fu i v = .inl (i', v') ∧ Zaa (Zgd l (a : Int) (b : Int) (n : Int)) N (i, v) = some (.inl v')
 | 0, i, v, N, fu, hi, hN, hf, hv => by
  obtain ⟨N, rfl⟩ : ∃ m, N = m + 1 := ⟨N - 1, by omega⟩
  obtain ⟨fu, rfl⟩ : ∃ m, fu = m + 1 := ⟨fu - 1, by omega⟩
  have e : i = n := by omega
  subst e
  refine ⟨i, v, by rw [Zby]; simp, ?_⟩
  rw [Zaa]
  simp [Zgd, Zq2, br]
 | d + 1, i, v, N, fu, hi, hN, hf, hv => by
  obtain ⟨N, rfl⟩ : ∃ m, N = m + 1 := ⟨N - 1, by omega⟩
  obtain ⟨fu, rfl⟩ : ∃ m, fu = m + 1 := ⟨fu - 1, by omega⟩
  obtain ⟨i', v', h1, h2⟩ := Zzr l a b n hl ha hb d (i + 1) ((v.set (a + i) (v.getD (b + i) Rw.z)).set (b + i) (v.getD (a + i) Rw.z)) N fu (by omega) (by omega) (by omega) (by simp [hv])
  have g1 : i < n := by omega
  have g2 : i + 1 < 9223372036854775808 := by omega
  have ea : ((a : Int) + (i : Int)) = ((a + i : Nat) : Int) := by omega
  have eb : ((b : Int) + (i : Int)) = ((b + i : Nat) : Int) := by omega
  have wa1 : -9223372036854775808 ≤ ((a + i : Nat) : Int) ∧ ((a + i : Nat) : Int) < 9223372036854775808 := by omega
  have wb1 : -9223372036854775808 ≤ ((b + i : Nat) : Int) ∧ ((b + i : Nat) : Int) < 9223372036854775808 := by omega
  have ra1 : (0 : Int) ≤ ((a + i : Nat) : Int) ∧ ((a + i : Nat) : Int) < (l.length : Int) := by omega
  have rb1 : (0 : Int) ≤ ((b + i : Nat) : Int) ∧ ((b + i : Nat) : Int) < (l.length : Int) := by omega
  have ja : a + i < v.length := by omega
  have jb : b + i < v.length := by omega
  have va : v[a + i]? = some (v.getD (a + i) Rw.z) := by rw [Yj, Yc ja]; rfl
  have vb : v[b + i]? = some (v.getD (b + i) Rw.z) := by rw [Yj, Yc jb]; rfl
  refine ⟨i', v', by rw [Zby, decide_eq_true (by omega), cond_true]; exact h1, ?_⟩
  have hB : Zgd l (a : Int) (b : Int) (n : Int) (i, v) = some (.nx (i + 1, (v.set (a + i) (v.getD (b + i) Rw.z)).set (b + i) (v.getD (a + i) Rw.z))) := by
   dsimp only [Zgd, Zq2, br, vz, vs, wi, wa, iri, ca, ln, lf, lxe, st, fl, vwr]
   grind
  rw [Zaa, hB]
  exact h2
theorem ZNG (l : List α) (a b n : Nat) (cmp : α → α → Int) (hl : l.length ≤ 1048576) (ha : a + n ≤ l.length) (hb : b + n ≤ l.length) : ZaE l (a : Int) (b : Int) (n : Int) = some (ZaD Rw.z l a b n cmp) := by
 obtain ⟨i', v', h1, h2⟩ := Zzr l a b n hl ha hb n 0 l big (n + 1) (by omega) (Zag (by omega)) (by omega) rfl
 unfold ZaE ZaD
 rw [YbM, h1]
 simp only [Zld, ZzE, vz, lr, lf, h2, Option.bind_some]
 rfl
end
end Go.Proofs.YthagpbkmakocjaaGreat
