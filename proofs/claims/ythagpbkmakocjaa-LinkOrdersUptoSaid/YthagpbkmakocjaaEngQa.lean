/-
  Reckoning by the kernel, part Qa: a quick test that every order of a region that only reads comes to the text's order.
-/
import Derived.Test.YthagpbkmakocjaaEngM
namespace Go.Eng
set_option linter.all false
open Go Go.RowKit

def tmpsOf : List Operand → List Nat
  | [] => []
  | .tmp t :: r => t :: tmpsOf r
  | _ :: r => tmpsOf r
def nthD : List (Option Nat) → Nat → Option Nat
  | [], _ => none
  | x :: _, 0 => x
  | _ :: r, i + 1 => nthD r i
/-- the slots that an operation looks at -/
def lookL (ds : List (Option Nat)) (o : Oper) : List Nat :=
  tmpsOf o.op.operands.toList ++ match o.guard with
    | some (g, _) => (match nthD ds g with | some d => [d] | none => [])
    | none => []
def findD : List (Nat × Nat) → Nat → Option Nat
  | [], _ => none
  | (d, k) :: r, t => match Nat.beq d t with | true => some k | false => findD r t
def onE (o : Oper) (i : Nat) : Bool := o.after.toList.any fun e => Region.binds .any e && Nat.beq e.on i
def memN : Nat → List Nat → Bool
  | _, [] => false
  | t, d :: r => Nat.beq d t || memN t r
/-- what is written here has been looked at only by operations that come first anyway -/
def clear (o : Oper) (d : Nat) : List (Nat × Nat) → Bool
  | [] => true
  | (t, i) :: r => (match Nat.beq t d with | true => onE o i | false => true) && clear o d r
theorem clear_at {o : Oper} {d i : Nat} : ∀ {l : List (Nat × Nat)}, clear o d l = true → (d, i) ∈ l → onE o i = true
  | [], _, h => by cases h
  | (t, j) :: r, hc, h => by
    simp only [clear, Bool.and_eq_true] at hc
    rcases List.mem_cons.1 h with h | h
    · cases h
      have := hc.1
      rw [Nat.beq_refl] at this
      exact this
    · exact clear_at hc.2 h
def fastG (ds : List (Option Nat)) : Nat → List (Nat × Nat) → List (Nat × Nat) → List Oper → Bool
  | _, _, _, [] => true
  | k, seen, looked, o :: r =>
    (o.after.toList.all fun e => !Region.binds .any e || Nat.ble (e.on + 1) k) &&
    ((lookL ds o).all fun t => match findD seen t with | some i => onE o i | none => true) &&
    match o.dst with
    | some d => (findD seen d).isNone && clear o d looked && fastG ds (k + 1) ((d, k) :: seen) ((lookL ds o).map (·, k) ++ looked) r
    | none => fastG ds (k + 1) seen ((lookL ds o).map (·, k) ++ looked) r
def noSel : List Oper → Bool
  | [] => true
  | o :: r => (match o.op with | .select _ _ => false | _ => true) && noSel r
def fastB (ops : List Oper) : Bool := noSel ops && fastG (ops.map (·.dst)) 0 [] [] ops

theorem tmpsOf_eq (xs : List Operand) : tmpsOf xs = xs.filterMap fun | .tmp t => some t | _ => none := by
  induction xs with
  | nil => rfl
  | cons x xs ih => cases x <;> simp [tmpsOf, ih]
theorem nthD_eq : ∀ (ds : List (Option Nat)) (i : Nat), nthD ds i = (ds[i]?).join
  | [], i => by simp [nthD]
  | x :: r, 0 => by simp [nthD]
  | x :: r, i + 1 => by simp [nthD, nthD_eq r i]
theorem lookL_eq (ops : List Oper) (o : Oper) : lookL (ops.map (·.dst)) o = o.looksAt ops.toArray := by
  unfold lookL Oper.looksAt
  rw [tmpsOf_eq]
  congr 1
  cases hg : o.guard with
  | none => rfl
  | some gb =>
    obtain ⟨g, b⟩ := gb
    simp only
    rw [nthD_eq, List.getElem?_map]
    simp only [List.getElem?_toArray]
    cases ops[g]? with
    | none => rfl
    | some o' => simp only [Option.map_some, Option.join_some, Option.bind_some]; cases o'.dst <;> rfl
theorem memN_iff {t : Nat} {l : List Nat} : memN t l = true ↔ t ∈ l := by
  induction l with
  | nil => simp [memN]
  | cons d l ih =>
    simp only [memN, Bool.or_eq_true, ih, List.mem_cons, Nat.beq_eq_true_eq]
    constructor
    · rintro (h | h)
      · exact .inl (Nat.eq_of_beq_eq_true h).symm
      · exact .inr h
    · rintro (h | h)
      · exact .inl (by rw [h]; simp)
      · exact .inr h

structure FInv (ds : List (Option Nat)) (pre : List Oper) (seen : List (Nat × Nat)) (looked : List (Nat × Nat)) : Prop where
  s1 : ∀ d i, findD seen d = some i → ∃ o, pre[i]? = some o ∧ o.dst = some d
  s2 : ∀ (i : Nat) (o : Oper) (d : Nat), pre[i]? = some o → o.dst = some d → findD seen d = some i
  lo : ∀ (i : Nat) (o : Oper), pre[i]? = some o → ∀ t ∈ lookL ds o, (t, i) ∈ looked

def apartL (ds : List (Option Nat)) (x y : Oper) : Prop := (∀ d, x.dst = some d → d ∉ lookL ds y ∧ y.dst ≠ some d) ∧ (∀ d, y.dst = some d → d ∉ lookL ds x)

theorem fastG_sound (ds : List (Option Nat)) : ∀ (rest pre : List Oper) (seen looked : List (Nat × Nat)), FInv ds pre seen looked → fastG ds pre.length seen looked rest = true →
    ∀ (j : Nat) (oj : Oper), rest[j]? = some oj → (∀ e ∈ oj.after, Region.binds .any e = true → e.on < pre.length + j) ∧
      ∀ (i : Nat) (oi : Oper), i < pre.length + j → (pre ++ rest)[i]? = some oi → onE oj i = true ∨ apartL ds oi oj
  | [], pre, seen, looked, hI, h, j, oj, hj => by simp at hj
  | o :: r, pre, seen, looked, hI, h, j, oj, hj => by
    simp only [fastG, Bool.and_eq_true] at h
    obtain ⟨⟨h1, h2⟩, h3⟩ := h
    cases j with
    | zero =>
      simp only [List.getElem?_cons_zero, Option.some.injEq] at hj
      subst hj
      refine ⟨fun e he hb => ?_, fun i oi hi ho => ?_⟩
      · have := List.all_eq_true.1 h1 e (by simpa using he)
        simp only [hb, Bool.not_true, Bool.false_or] at this
        have := Nat.le_of_ble_eq_true this
        omega
      · rw [List.getElem?_append_left (by omega)] at ho
        by_cases hon : onE o i = true
        · exact .inl hon
        · right
          refine ⟨fun d hd => ⟨fun hm => ?_, fun hd' => ?_⟩, fun d hd hm => ?_⟩
          · have := List.all_eq_true.1 h2 d hm
            rw [hI.s2 i oi d ho hd] at this
            exact hon this
          · rw [hd'] at h3
            simp only [Bool.and_eq_true] at h3
            have := h3.1.1
            rw [hI.s2 i oi d ho hd] at this
            cases this
          · rw [hd] at h3
            simp only [Bool.and_eq_true] at h3
            exact hon (clear_at h3.1.2 (hI.lo i oi ho d hm))
    | succ j =>
      simp only [List.getElem?_cons_succ] at hj
      have hlook : ∀ (seen' : List (Nat × Nat)), (∀ d i, findD seen' d = some i → ∃ o', (pre ++ [o])[i]? = some o' ∧ o'.dst = some d) → (∀ (i : Nat) (o' : Oper) (d : Nat), (pre ++ [o])[i]? = some o' → o'.dst = some d → findD seen' d = some i) →
          FInv ds (pre ++ [o]) seen' ((lookL ds o).map (·, pre.length) ++ looked) := fun seen' a b => ⟨a, b, fun i o' ho t ht => by
        rcases Nat.lt_trichotomy i pre.length with hlt | heq | hgt
        · rw [List.getElem?_append_left hlt] at ho; exact List.mem_append_right _ (hI.lo i o' ho t ht)
        · subst heq; simp at ho; subst ho; exact List.mem_append_left _ (List.mem_map.2 ⟨t, ht, rfl⟩)
        · rw [List.getElem?_eq_none (by simp; omega)] at ho; cases ho⟩
      have fin : ∀ seen', FInv ds (pre ++ [o]) seen' ((lookL ds o).map (·, pre.length) ++ looked) → fastG ds (pre.length + 1) seen' ((lookL ds o).map (·, pre.length) ++ looked) r = true → _ := fun seen' hI' hg =>
        fastG_sound ds r (pre ++ [o]) seen' ((lookL ds o).map (·, pre.length) ++ looked) hI' (by simpa using hg) j oj hj
      have conv : (∀ e ∈ oj.after, Region.binds .any e = true → e.on < (pre ++ [o]).length + j) ∧ (∀ (i : Nat) (oi : Oper), i < (pre ++ [o]).length + j → (pre ++ [o] ++ r)[i]? = some oi → onE oj i = true ∨ apartL ds oi oj) →
          (∀ e ∈ oj.after, Region.binds .any e = true → e.on < pre.length + (j + 1)) ∧ (∀ (i : Nat) (oi : Oper), i < pre.length + (j + 1) → (pre ++ o :: r)[i]? = some oi → onE oj i = true ∨ apartL ds oi oj) := by
        rintro ⟨a, b⟩
        simp only [List.length_append, List.length_cons, List.length_nil, List.append_assoc, List.cons_append, List.nil_append] at a b
        exact ⟨fun e he hb => by have := a e he hb; omega, fun i oi hi ho => b i oi (by omega) ho⟩
      split at h3
      · rename_i d hd
        simp only [Bool.and_eq_true] at h3
        obtain ⟨⟨h4, h5⟩, h6⟩ := h3
        have hnone : findD seen d = none := by cases hf : findD seen d with | none => rfl | some i => rw [hf] at h4; cases h4
        refine conv (fin _ (hlook ((d, pre.length) :: seen) (fun d' i hf => ?_) (fun i o' d' ho hd' => ?_)) h6)
        · simp only [findD] at hf
          split at hf
          · rename_i he; cases hf; rw [← Nat.eq_of_beq_eq_true he]; exact ⟨o, by simp, hd⟩
          · obtain ⟨o', a, b⟩ := hI.s1 d' i hf
            refine ⟨o', ?_, b⟩
            rw [List.getElem?_append_left]; exact a
            rcases Nat.lt_or_ge i pre.length with hlt | hge
            · exact hlt
            · rw [List.getElem?_eq_none hge] at a; cases a
        · simp only [findD]
          rcases Nat.lt_trichotomy i pre.length with hlt | heq | hgt
          · rw [List.getElem?_append_left hlt] at ho
            have := hI.s2 i o' d' ho hd'
            split
            · rename_i he
              rw [← Nat.eq_of_beq_eq_true he, hnone] at this; cases this
            · exact this
          · subst heq; simp at ho; subst ho; rw [hd] at hd'; cases hd'; simp
          · rw [List.getElem?_eq_none (by simp; omega)] at ho; cases ho
      · rename_i hd
        refine conv (fin _ (hlook seen (fun d' i hf => ?_) (fun i o' d' ho hd' => ?_)) h3)
        · obtain ⟨o', a, b⟩ := hI.s1 d' i hf
          refine ⟨o', ?_, b⟩
          rw [List.getElem?_append_left]; exact a
          rcases Nat.lt_or_ge i pre.length with hlt | hge
          · exact hlt
          · rw [List.getElem?_eq_none hge] at a; cases a
        · rcases Nat.lt_trichotomy i pre.length with hlt | heq | hgt
          · rw [List.getElem?_append_left hlt] at ho; exact hI.s2 i o' d' ho hd'
          · subst heq; simp at ho; subst ho; rw [hd] at hd'; cases hd'
          · rw [List.getElem?_eq_none (by simp; omega)] at ho; cases ho

theorem apartL_apart {ops : List Oper} {x y : Oper} (h : apartL (ops.map (·.dst)) x y) : x.apart ops.toArray y = true := by
  obtain ⟨h1, h2⟩ := h
  rw [lookL_eq] at h2
  have h1' : ∀ d, x.dst = some d → d ∉ y.looksAt ops.toArray ∧ y.dst ≠ some d := fun d hd => by have := h1 d hd; rw [lookL_eq] at this; exact this
  unfold Oper.apart
  rw [Bool.and_eq_true]
  constructor
  · split
    · rename_i d hd
      obtain ⟨a, b⟩ := h1' d hd
      simp [a, b]
    · rfl
  · split
    · rename_i d hd
      have := h2 d hd
      simp [this]
    · rfl

theorem lexFrom_of {ops : Array Oper} (h1 : ∀ (j : Nat) (oj : Oper), ops[j]? = some oj → ∀ e ∈ oj.after, Region.binds .any e = true → e.on < j)
    (h2 : ∀ (i j : Nat) (oi oj : Oper), i < j → ops[i]? = some oi → ops[j]? = some oj → onE oj i = true ∨ oi.apart ops oj = true) :
    ∀ (fuel k : Nat) (listed : Array Bool), fuel + k = ops.size → listed.size = ops.size → (∀ j, j < ops.size → listed[j]? = some (decide (j < k))) → Region.lexFrom .any ops fuel k listed = true
  | 0, k, listed, hf, hs, hl => by
    simp only [Region.lexFrom]
    rw [List.isEmpty_iff, Region.ready, List.filter_eq_nil_iff]
    intro i hi
    have hi := List.mem_range.1 hi
    have := hl i hi
    simp [Array.getD_eq_getD_getElem?, this]
    omega
  | fuel + 1, k, listed, hf, hs, hl => by
    have hk : k < ops.size := by omega
    have hok : ops[k]? = some ops[k] := Array.getElem?_eq_getElem hk
    simp only [Region.lexFrom, Bool.and_eq_true]
    refine ⟨⟨?_, ?_⟩, lexFrom_of h1 h2 fuel (k + 1) _ (by omega) (by simp [hs]) (fun j hj => ?_)⟩
    · rw [List.contains_iff_mem]
      unfold Region.ready
      refine List.mem_filter.2 ⟨List.mem_range.2 hk, ?_⟩
      rw [Bool.and_eq_true]
      refine ⟨by simp [Array.getD_eq_getD_getElem?, hl k hk], ?_⟩
      rw [hok]
      simp only [Option.map_some, Option.getD_some]
      rw [Array.all_eq_true_iff_forall_mem]
      intro e he
      by_cases hb : Region.binds .any e = true
      · have := h1 k _ hok e he hb
        simp [Array.getD_eq_getD_getElem?, hl e.on (by omega), this]
      · simp [hb]
    · unfold Region.free
      rw [hok]
      simp only [List.all_eq_true, List.mem_range]
      intro j hj
      rw [Bool.or_eq_true, Bool.or_eq_true]
      rcases Nat.lt_trichotomy j k with hlt | heq | hgt
      · left; right; simp [Array.getD_eq_getD_getElem?, hl j hj, hlt]
      · left; left; simp [heq]
      · right
        rw [Array.getElem?_eq_getElem hj]
        simp only
        rw [Bool.or_eq_true]
        rcases h2 k j _ _ hgt hok (Array.getElem?_eq_getElem hj) with h | h
        · left
          unfold onE at h
          obtain ⟨e, he, h⟩ := List.any_eq_true.1 h
          rw [← Array.any_toList]
          exact List.any_eq_true.2 ⟨e, he, by simpa using h⟩
        · right; exact h
    · rw [Array.getElem?_setIfInBounds]
      by_cases hjk : k = j
      · subst hjk; rw [if_pos rfl, if_pos (by rw [hs]; exact hk)]; simp
      · rw [if_neg hjk, hl j hj]
        congr 1
        by_cases h : j < k
        · simp [h]; omega
        · simp [h]; omega

theorem fastB_lexB {ops : List Oper} (h : fastB ops = true) : Region.lexB .any ops.toArray = true := by
  unfold fastB at h
  rw [Bool.and_eq_true] at h
  have hsel : ∀ (l : List Oper), noSel l = true → l.all (fun o => match o.op with | .select .. => false | _ => true) = true := fun l => by
    induction l with
    | nil => intro _; rfl
    | cons o l ih =>
      intro hn
      simp only [noSel, Bool.and_eq_true] at hn
      simp only [List.all_cons, Bool.and_eq_true]
      exact ⟨hn.1, ih hn.2⟩
  have key := fastG_sound (ops.map (·.dst)) ops [] [] [] ⟨fun d i hf => by simp [findD] at hf, fun i o d ho => by simp at ho, fun i o ho => by simp at ho⟩ h.2
  simp only [List.length_nil, Nat.zero_add, List.nil_append] at key
  unfold Region.lexB
  rw [Bool.and_eq_true]
  refine ⟨?_, lexFrom_of (fun j oj hj => (key j oj (by simpa using hj)).1) (fun i j oi oj hij hi hj => ?_) _ 0 _ rfl (by simp) (fun j hj => by simp at hj ⊢; simp [hj])⟩
  · unfold Region.noSelect
    rw [Array.all_eq_true_iff_forall_mem]
    intro o ho
    have := List.all_eq_true.1 (hsel ops h.1) o (by simpa using ho)
    cases hop : o.op <;> first | rfl | (rw [hop] at this; exact this)
  · rcases (key j oj (by simpa using hj)).2 i oi hij (by simpa using hi) with a | a
    · exact .inl a
    · exact .inr (apartL_apart a)
end Go.Eng
