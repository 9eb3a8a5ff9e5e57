/-
  Laws of small generic functions: find by a test, delete by a test, over any type.
-/
import Derived.Test.YthagpbkmakocjaaEngZf
namespace Go.Eng
set_option linter.all false

theorem indexFunc_L {α : Type} (L : (α → Bool) → List α → Nat → Unit ⊕ Int) (h0 : ∀ p i, L p [] i = .inl ()) (h1 : ∀ p x s i, L p (x :: s) i = cond (p x) (.inr (i : Int)) (L p s (i + 1))) (p : α → Bool) : ∀ (suf : List α) (i : Nat), L p suf i = (match suf.findIdx? p with | some k => .inr ((i + k : Nat) : Int) | none => .inl ())
  | [], i => by simp [h0]
  | x :: suf, i => by
    rw [h1, List.findIdx?_cons]
    cases h : p x with
    | true => simp
    | false =>
      simp only [cond_false, indexFunc_L L h0 h1 p suf (i + 1)]
      cases suf.findIdx? p with
      | none => rfl
      | some k => simp; omega

theorem first_L {α : Type} (L : (α → Bool) → List α → Unit ⊕ (α × Bool)) (z : α) (h0 : ∀ p, L p [] = .inl ()) (h1 : ∀ p x s, L p (x :: s) = cond (p x) (.inr (x, true)) (L p s)) (p : α → Bool) : ∀ l : List α, Sum.elim (fun _ => (z, false)) (fun v => v) (L p l) = (l.find? p).elim (z, false) (fun x => (x, true))
  | [] => by rw [h0]; rfl
  | x :: l => by
    rw [h1, List.find?_cons]
    cases h : p x with
    | true => rfl
    | false => exact first_L L z h0 h1 p l
theorem fit_first {α : Type} {e : α → List D} {l : List α} {p : α → Bool} {z : α} (h : Fit (.list (l.map e))) (hz : FitL (e z)) : FitL (e ((l.find? p).elim (z, false) (fun x => (x, true))).1) := by
  cases hf : l.find? p with
  | none => exact hz
  | some x => exact h.mem (List.mem_of_find?_eq_some hf)
theorem drop_set {α : Type} {v : List α} {i j : Nat} {x : α} (h : i < j) : (v.set i x).drop j = v.drop j := by
  apply List.ext_getElem?
  intro q
  rw [List.getElem?_drop, List.getElem?_drop, List.getElem?_set_ne (by omega)]
theorem drop_step {α : Type} {v l : List α} {j : Nat} (h : v.drop j = l.drop j) : v.drop (j + 1) = l.drop (j + 1) := by
  rw [← List.drop_drop, ← List.drop_drop, h]
theorem getD_mem {α : Type} {v l : List α} {j : Nat} {z : α} (h : v.drop j = l.drop j) (hj : j < l.length) : v.getD j z ∈ l := by
  have h1 := congrArg (fun q => q[0]?) h
  simp only [List.getElem?_drop, Nat.add_zero] at h1
  rw [List.getD_eq_getElem?_getD, h1, List.getElem?_eq_getElem hj]
  exact List.getElem_mem hj
theorem del_L {α : Type} (L : Nat → Nat → Nat → List α → (Nat × Nat × List α) ⊕ (List α)) (l : List α) (p : α → Bool) (z : α) (h0 : ∀ i j v, L 0 i j v = .inl (i, j, v))
    (h1 : ∀ fu i j v, L (fu + 1) i j v = cond (decide (((j : Nat) : Int) < ((l.length : Nat) : Int))) (cond (!(p (v.getD j z))) (L fu (i + 1) (j + 1) (v.set i (v.getD j z))) (L fu i (j + 1) v)) (.inl (i, j, v))) :
    ∀ (fu i j : Nat) (v : List α), l.length - j < fu → i < j → j ≤ l.length → v.length = l.length → v.drop j = l.drop j → ∃ i' j' v', L fu i j v = .inl (i', j', v') ∧ v'.take i' = v.take i ++ (l.drop j).filter (fun x => !p x)
  | 0, i, j, v, hf, _, _, _, _ => absurd hf (Nat.not_lt_zero _)
  | fu + 1, i, j, v, hf, hi, hj, hl, hd => by
    rw [h1]
    by_cases hlt : j < l.length
    · rw [decide_eq_true (by omega), cond_true]
      have hx : l.drop j = l[j] :: l.drop (j + 1) := List.drop_eq_getElem_cons hlt
      have hg : v.getD j z = l[j] := by
        have := congrArg (fun q => q[0]?) hd
        simp only [List.getElem?_drop, Nat.add_zero] at this
        rw [List.getD_eq_getElem?_getD, this, List.getElem?_eq_getElem hlt]; rfl
      rw [hg, hx, List.filter_cons]
      cases hp : p l[j] with
      | true =>
        simp only [Bool.not_true, cond_false]
        exact del_L L l p z h0 h1 fu i (j + 1) v (by omega) (by omega) (by omega) hl (drop_step hd)
      | false =>
        simp only [Bool.not_false, cond_true, if_true]
        obtain ⟨i', j', v', e1, e2⟩ := del_L L l p z h0 h1 fu (i + 1) (j + 1) (v.set i l[j]) (by omega) (by omega) (by omega) (by simpa using hl) (by rw [drop_set (by omega)]; exact drop_step hd)
        refine ⟨i', j', v', e1, ?_⟩
        rw [e2, List.take_succ_eq_append_getElem (by rw [List.length_set]; omega), List.getElem_set_self, List.take_set_of_le (Nat.le_refl _), List.append_assoc]
        rfl
    · rw [decide_eq_false (by omega), cond_false]
      exact ⟨i, j, v, rfl, by rw [List.drop_of_length_le (by omega)]; simp⟩
theorem del_all {α : Type} (l : List α) (p : α → Bool) (k : Nat) (h : l.findIdx? p = some k) : l.take k ++ (l.drop (k + 1)).filter (fun x => !p x) = l.filter (fun x => !p x) := by
  obtain ⟨h1, h2, h3⟩ := List.findIdx?_eq_some_iff_getElem.1 h
  have e : l = l.take k ++ l[k] :: l.drop (k + 1) := by rw [← List.drop_eq_getElem_cons h1, List.take_append_drop]
  conv => rhs; rw [e]
  rw [List.filter_append, List.filter_cons, h2]
  simp only [Bool.not_true, if_false, Bool.false_eq_true]
  congr 1
  symm
  rw [List.filter_eq_self]
  intro x hx
  obtain ⟨i, hi⟩ := List.mem_iff_getElem?.1 hx
  rw [List.getElem?_take] at hi
  split at hi
  · rename_i hik
    have := h3 i hik
    rw [List.getElem?_eq_getElem (by omega)] at hi
    simp only [Option.some.injEq] at hi
    subst hi
    simpa using this
  · cases hi
theorem fit_filter {α : Type} {e : α → List D} {xs : List α} {p : α → Bool} (h : Fit (.list (xs.map e))) : Fit (.list ((xs.filter p).map e)) :=
  fit_all (fun x hx => h.mem (List.mem_filter.1 hx).1) (Nat.lt_of_le_of_lt (List.length_filter_le _ _) h.len)
theorem find_idx {α : Type} {l : List α} {p : α → Bool} : ((match l.findIdx? p with | some k => (k : Int) | none => -1) ≥ 0) ↔ l.any p = true := by
  rw [List.any_eq_true]
  cases h : l.findIdx? p with
  | none =>
    rw [List.findIdx?_eq_none_iff] at h
    constructor
    · intro e; exact absurd e (by decide)
    · rintro ⟨x, hx, hp⟩; rw [h x hx] at hp; cases hp
  | some k =>
    obtain ⟨h1, h2, _⟩ := List.findIdx?_eq_some_iff_getElem.1 h
    exact ⟨fun _ => ⟨l[k], List.getElem_mem h1, h2⟩, fun _ => Int.natCast_nonneg k⟩
theorem stS_vecR {α : Type} {e e' : α → List D} {xs : List α} {j sz : Nat} {y : α} (hj : j < xs.length) (hl : ∀ x, (e x).length = sz) (he : ∀ x, e x = e' x) : StS (vecC e xs) (j * sz) ((e' y).map .d) (vecC e (xs.set j y)) := by
  rw [← he]; exact stS_vec hj hl
theorem srcS_oneR {α : Type} {sz : Nat} {e e' : α → List D} {y : α} (C : List AV) (hl : ∀ x, (e x).length = sz) (he : ∀ x, e x = e' x) : SrcS sz C (.d (.list [e' y])) 1 (vecC e [y]) := by
  rw [vecC_one, he]; exact srcS_one C (by rw [← he]; exact hl y)
theorem FitL.ofR {α : Type} {e e' : α → List D} {y : α} (he : ∀ x, e x = e' x) (h : FitL (e y)) : FitL (e' y) := he y ▸ h
theorem FitL.toR {α : Type} {e e' : α → List D} {y : α} (he : ∀ x, e x = e' x) (h : FitL (e' y)) : FitL (e y) := (he y).symm ▸ h
theorem fzR_len {C : List AV} {o n m sz : Nat} {es : List (List D)} (h : n = m) (k : FzR C o m sz es) : FzR C o n sz es := h ▸ k
theorem reb_vec {α : Type} {e : α → List D} {xs : List α} {n m off sz : Nat} (hn : n = m) (h : off ≤ xs.length) (hl : ∀ x, (e x).length = sz) : n = m ∧ off * sz ≤ (vecC e xs).length ∧ (vecC e xs).drop (off * sz) = vecC e (xs.drop off) :=
  ⟨hn, by rw [vecC_len hl]; exact Nat.mul_le_mul_right _ h, vecC_drop hl xs off⟩
theorem rep_vec {α : Type} {e : α → List D} {z : α} {c : List AV} (hz : (e z).map .d = c) (m : Nat) : (List.replicate m c).flatten = vecC e (List.replicate m z) := by
  subst hz
  induction m with
  | zero => rfl
  | succ m ih => rw [List.replicate_succ, List.flatten_cons, ih, List.replicate_succ, vecC_cons]
end Go.Eng
