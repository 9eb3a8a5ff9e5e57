/-
  The abstract state of a walk, part Ms: regions that draw their order, read, and store (an exchange of two elements): one walk in the text's order serves every order.
-/
import Derived.Test.YthagpbkmakocjaaEngQa
namespace Go.Eng
open Go
set_option linter.all false

/-- a store that nothing guards -/
def stB (o : Oper) : Bool := match o.op, o.dst, o.guard with
  | .store _ _ _, none, none => true
  | _, _, _ => false
/-- an operation that looks at slots alone -/
def hlB (o : Oper) : Bool := match o.op with
  | .move _ => true
  | .binOp b _ _ _ _ => (match b with | .add => true | .sub => true | _ => false)
  | .indexAddr _ _ _ => true
  | .fieldAddr _ _ _ => true
  | .nilCheck _ => true
  | _ => false
/-- heaps that differ in cells alone -/
def Hsim (H H' : Hp) : Prop := ∀ k, (H' k).g = (H k).g ∧ (H' k).live = (H k).live ∧ (H' k).sz = (H k).sz
/-- stores stand apart: what is free of a store looks at slots alone -/
def onE2 (L : List Oper) (p : Oper) (k : Nat) : Bool := onE p k || p.after.toList.any fun e => Region.binds .any e && (match L[e.on]? with | some om => onE om k | none => false)
def okS1 (L : List Oper) (o : Oper) (k : Nat) : Nat → List Oper → Bool
  | _, [] => true
  | j, p :: r => (match stB o with | true => onE p k | false => true) && (match stB p with | true => hlB o || onE2 L p k | false => true) && !onE o j && okS1 L o k (j + 1) r
def okS (L : List Oper) : Nat → List Oper → Bool
  | _, [] => true
  | k, o :: r => okS1 L o k (k + 1) r && okS L (k + 1) r

theorem okS1_at {L : List Oper} {o : Oper} {k : Nat} : ∀ {l : List Oper} {j i : Nat} {p : Oper}, okS1 L o k j l = true → l[i]? = some p → (stB o = true → onE p k = true) ∧ (stB p = true → hlB o = true ∨ onE2 L p k = true) ∧ onE o (j + i) = false
  | [], j, i, p, _, h => by simp at h
  | q :: r, j, i, p, hc, h => by
    simp only [okS1, Bool.and_eq_true, Bool.not_eq_true'] at hc
    cases i with
    | zero =>
      simp only [List.getElem?_cons_zero, Option.some.injEq] at h
      subst h
      refine ⟨fun e => ?_, fun e => ?_, hc.1.2⟩
      · have := hc.1.1.1; rw [e] at this; exact this
      · have := hc.1.1.2; rw [e] at this; simpa using this
    | succ i =>
      have := okS1_at hc.2 (i := i) (by simpa using h)
      rwa [Nat.add_assoc, Nat.add_comm 1 i] at this
theorem okS_at {L : List Oper} : ∀ {l : List Oper} {k i j : Nat} {o p : Oper}, okS L k l = true → i < j → l[i]? = some o → l[j]? = some p → (stB o = true → onE p (k + i) = true) ∧ (stB p = true → hlB o = true ∨ onE2 L p (k + i) = true) ∧ onE o (k + j) = false
  | [], k, i, j, o, p, _, _, h, _ => by simp at h
  | q :: r, k, i, j, o, p, hc, hij, h, h' => by
    simp only [okS, Bool.and_eq_true] at hc
    cases j with
    | zero => omega
    | succ j =>
      have h' : r[j]? = some p := by simpa using h'
      cases i with
      | zero =>
        simp only [List.getElem?_cons_zero, Option.some.injEq] at h
        subst h
        have := okS1_at hc.1 h'
        rwa [Nat.add_assoc, Nat.add_comm 1 j] at this
      | succ i =>
        have := okS_at hc.2 (Nat.lt_of_succ_lt_succ hij) (by simpa using h) h'
        rwa [Nat.add_assoc, Nat.add_comm 1 i, Nat.add_assoc, Nat.add_comm 1 j] at this
theorem onE_spec {p : Oper} {k : Nat} (h : onE p k = true) (hno : ∀ e ∈ p.after, Region.binds .any e = true → e.on ≠ k) : False := by
  unfold onE at h
  rw [List.any_eq_true] at h
  obtain ⟨e, he, hb⟩ := h
  simp only [Bool.and_eq_true] at hb
  exact hno e (by simpa using he) hb.1 (Nat.eq_of_beq_eq_true hb.2)

section
variable {P : Program} {l n : Nat} {B : Base} {H H' : Hp} {ops : Array Oper} {ρ : Operand → AV}

theorem qV_hl {o : Oper} {v : AV} (h : hlB o = true) (hs : Hsim H H') (hh : qV P l H o ρ v) : qV P l H' o ρ v := by
  obtain ⟨dst, op, type, pos, after, guard⟩ := o
  cases op <;> simp only [hlB] at h <;> first | (cases h; done) | skip
  case move => exact hh
  case nilCheck =>
    simp only [qV, vOp] at hh ⊢
    unfold vChk at hh ⊢
    split at hh
    · rename_i k g off _
      obtain ⟨h1, h2, h3⟩ := hs k
      rw [h1, h2]
      exact hh
    · exact hh
    · exact hh.elim
  case fieldAddr =>
    simp only [qV, vOp] at hh ⊢
    unfold vFieldAddr at hh ⊢
    split at hh
    · exact hh
    · rename_i k g off o n _ _
      obtain ⟨h1, h2, h3⟩ := hs k
      rw [h1, h2]
      exact hh
    · exact hh.elim
  case indexAddr =>
    simp only [qV, vOp] at hh ⊢
    unfold vIndexAddr at hh ⊢
    split at hh
    · exact hh
    · rename_i k g off len _ n _ sz _ _ _
      obtain ⟨h1, h2, h3⟩ := hs k
      rw [h1, h2, h3]
      exact hh
    · exact hh.elim
  case binOp =>
    simp only [qV, vOp] at hh ⊢
    unfold vBin at hh ⊢
    split at hh
    · exact hh
    · exact hh
    · obtain ⟨h1, h2⟩ := hh
      refine ⟨h1, ?_⟩
      exact h2
    · exact hh
    · obtain ⟨_, _, h3⟩ := hh
      split at h3 <;> first | (exact h3.elim) | (simp at h)
    · exact hh.elim
theorem YA_hl {o : Oper} {s : Nat → AV} {v : AV} (h : hlB o = true) (hs : Hsim H H') (hh : YA P l H ops o s v) : YA P l H' ops o s v := by
  unfold YA at hh ⊢
  split at hh
  · exact qV_hl h hs hh
  · split at hh
    · exact ⟨fun e => qV_hl h hs (hh.1 e), hh.2⟩
    · exact hh.elim

/-- a store comes to this -/
def StO (P : Program) (l : Nat) (o : Oper) (s : Nat → AV) (H H' : Hp) : Prop := match o.op with
  | .store t a x => match ev s a, cellsAV (ev s x) with
    | .ptr k g off, some vs => g = (H k).g ∧ (H k).live = true ∧ vs.length = P.cellsOf t ∧ vs ≠ [] ∧ off + vs.length ≤ (H k).cells.length ∧ (k.1 = l + 1 ∨ vs.all (AV.low k.1) = true) ∧
        H' = updH H k { H k with cells := (H k).cells.take off ++ vs ++ (H k).cells.drop (off + vs.length) }
    | _, _ => False
  | _ => False
theorem StO_sim {o : Oper} {s : Nat → AV} (h : StO P l o s H H') : Hsim H H' := by
  unfold StO at h
  split at h
  · split at h
    · obtain ⟨_, _, _, _, _, _, rfl⟩ := h
      intro k
      unfold updH
      split
      · rename_i e; subst e; exact ⟨rfl, rfl, rfl⟩
      · exact ⟨rfl, rfl, rfl⟩
    · exact h.elim
  · exact h.elim
theorem StO_of {o : Oper} {s : Nat → AV} {K : St → Prop} (hs : stB o = true) (h : rOp P l n o K ⟨s, H⟩) : ∃ H', StO P l o s H H' ∧ K ⟨s, H'⟩ := by
  obtain ⟨dst, op, type, pos, after, guard⟩ := o
  cases op <;> simp only [stB] at hs <;> first | (cases hs; done) | skip
  cases dst with
  | some d => cases hs
  | none =>
    simp only [rOp] at h
    simp only [StO]
    split at h
    · rename_i k g off vs h0 h1 h2
      obtain ⟨a1, a2, a3, a4, a5, a6, a7⟩ := h
      rw [h1, h2]
      exact ⟨_, ⟨a1, a2, a3, a4, a5, a6, rfl⟩, a7⟩
    · exact h.elim
theorem rOp_of {o : Oper} {s : Nat → AV} {K : St → Prop} (hs : stB o = true) (h : StO P l o s H H') (hK : K ⟨s, H'⟩) : rOp P l n o K ⟨s, H⟩ := by
  obtain ⟨dst, op, type, pos, after, guard⟩ := o
  cases op <;> simp only [stB] at hs <;> first | (cases hs; done) | skip
  cases dst with
  | some d => cases hs
  | none =>
    simp only [StO] at h
    simp only [rOp]
    split at h
    · rename_i k g off vs h1 h2
      obtain ⟨a1, a2, a3, a4, a5, a6, rfl⟩ := h
      rw [h1, h2]
      exact ⟨a1, a2, a3, a4, a5, a6, hK⟩
    · exact h.elim
theorem StO_upd {o : Oper} {s : Nat → AV} {d : Nat} {u : AV} (hd : d ∉ o.looksAt ops) (h : StO P l o (upd s d u) H H') : StO P l o s H H' := by
  have hev : ∀ x ∈ o.op.operands, ev (upd s d u) x = ev s x := fun x hx => by
    cases x with
    | tmp t =>
      have hne : t ≠ d := fun e => hd (by
        subst e
        exact List.mem_append_left _ (List.mem_filterMap.2 ⟨.tmp t, by simpa using hx, rfl⟩))
      simp [ev, upd, hne]
    | _ => rfl
  unfold StO at h ⊢
  split at h
  · rename_i t a x ho
    rw [hev a (by rw [ho]; simp [Op.operands]), hev x (by rw [ho]; simp [Op.operands])] at h
    exact h
  · exact h.elim

def opS (P : Program) (l n : Nat) (ops : Array Oper) (i : Nat) (K : St → Prop) (σ : St) : Prop :=
  match ops[i]? with
  | none => K σ
  | some o => (quietB o = true ∧ ∃ d v, o.dst = some d ∧ d < n ∧ YA P l σ.H ops o σ.s v ∧ K ⟨upd σ.s d v, σ.H⟩) ∨ (stB o = true ∧ ∃ H', StO P l o σ.s σ.H H' ∧ K ⟨σ.s, H'⟩)

def anyS (P : Program) (l n : Nat) (ops : Array Oper) (Q : St → Prop) : Nat → Array Bool → St → Prop
  | 0, listed, σ => Region.ready .any ops listed = [] ∧ Q σ
  | fuel + 1, listed, σ => (Region.ready .any ops listed = [] → Q σ) ∧ ∀ i ∈ Region.ready .any ops listed, opS P l n ops i (anyS P l n ops Q fuel (listed.setIfInBounds i true)) σ

theorem opS_mono {i : Nat} {K K' : St → Prop} {σ : St} (h : ∀ s, K s → K' s) (hh : opS P l n ops i K σ) : opS P l n ops i K' σ := by
  unfold opS at *
  split
  · rename_i ho; simp only [ho] at hh; exact h _ hh
  · rename_i o ho
    simp only [ho] at hh
    rcases hh with ⟨h0, d, v, h1, h2, h3, h4⟩ | ⟨h0, H', h1, h2⟩
    · exact .inl ⟨h0, d, v, h1, h2, h3, h _ h4⟩
    · exact .inr ⟨h0, H', h1, h _ h2⟩

theorem opS_put {i j : Nat} {oi oj : Oper} {d : Nat} {v : AV} (hj : ops[j]? = some oj) (hdi : oi.dst = some d) (hap : oi.apart ops oj = true) (hhl : stB oj = true → hlB oi = true) {K : St → Prop} {s : Nat → AV}
    (hy : YA P l H ops oi s v) (h : opS P l n ops j K ⟨upd s d v, H⟩) : opS P l n ops j (fun σ' => YA P l σ'.H ops oi σ'.s v ∧ K ⟨upd σ'.s d v, σ'.H⟩) ⟨s, H⟩ := by
  obtain ⟨h1, h2, h3⟩ := Oper.apart_spec hap
  unfold opS at *
  simp only [hj] at *
  rcases h with ⟨h0, e, u, he, hen, hu, hK⟩ | ⟨h0, H', hu, hK⟩
  · refine .inl ⟨h0, e, u, he, hen, YA_upd (h1 d hdi) hu, YA_upd' (h3 e he) hy, ?_⟩
    have hne : d ≠ e := fun e' => h2 d hdi (e' ▸ he)
    rw [upd_comm (Ne.symm hne)]
    exact hK
  · exact .inr ⟨h0, H', StO_upd (h1 d hdi) hu, YA_hl (hhl h0) (StO_sim hu) hy, hK⟩

theorem anyS_first {Q : St → Prop} {i : Nat} {oi : Oper} {d : Nat} {v : AV} (hi : ops[i]? = some oi) (hq : quietB oi = true) (hdi : oi.dst = some d) (hdn : d < n) :
    ∀ (fuel : Nat) (listed : Array Bool) (s : Nat → AV) (H : Hp),
      (∀ j oj, ops[j]? = some oj → j ≠ i → listed.getD j true = false → (∀ e ∈ oj.after, Region.binds .any e = true → e.on ≠ i ∧ ∀ om, ops[e.on]? = some om → onE om i = false) → oi.apart ops oj = true ∧ (stB oj = true → hlB oi = true)) →
      (∀ m om, ops[m]? = some om → onE om i = true → listed.getD m true = false) → i ∈ Region.ready .any ops listed → YA P l H ops oi s v →
      anyS P l n ops Q fuel (listed.setIfInBounds i true) ⟨upd s d v, H⟩ → anyS P l n ops Q (fuel + 1) listed ⟨s, H⟩ := by
  have self : ∀ {K : St → Prop} {s : Nat → AV} {H : Hp}, YA P l H ops oi s v → K ⟨upd s d v, H⟩ → opS P l n ops i K ⟨s, H⟩ := fun hy hK => by
    unfold opS; simp only [hi]; exact .inl ⟨hq, d, v, hdi, hdn, hy, hK⟩
  intro fuel
  induction fuel with
  | zero =>
    intro listed s H _ hu hr hy HH
    refine ⟨fun h => (by rw [h] at hr; cases hr), fun j hj => ?_⟩
    by_cases hji : j = i
    · subst hji; exact self hy HH
    · have := ready_mono hj hji
      rw [HH.1] at this
      cases this
  | succ fuel ih =>
    intro listed s H hfree hu hr hy HH
    refine ⟨fun h => (by rw [h] at hr; cases hr), fun j hj => ?_⟩
    by_cases hji : j = i
    · subst hji; exact self hy HH
    · have h1 := HH.2 j (ready_mono hj hji)
      obtain ⟨hjun, oj, hoj, hall⟩ := mem_ready.1 hj
      have hnot : ∀ e ∈ oj.after, Region.binds .any e = true → e.on ≠ i := fun e he hb heq => by
        have h1 := hall e he hb
        have h0 := (mem_ready.1 hr).1
        rw [heq] at h1
        rcases Nat.lt_or_ge i listed.size with h' | h'
        · simp [h'] at h0 h1; rw [h0] at h1; cases h1
        · simp [Array.getElem?_eq_none h'] at h1
      have hnot2 : ∀ e ∈ oj.after, Region.binds .any e = true → e.on ≠ i ∧ ∀ om, ops[e.on]? = some om → onE om i = false := fun e he hb => ⟨hnot e he hb, fun om hom => by
        cases ho : onE om i with
        | false => rfl
        | true =>
          have h1 := hall e he hb
          have h0 := hu _ om hom ho
          rcases Nat.lt_or_ge e.on listed.size with h' | h'
          · simp [h'] at h0 h1; rw [h0] at h1; cases h1
          · simp [Array.getElem?_eq_none h'] at h1⟩
      have hf := hfree j oj hoj hji hjun hnot2
      have h2 := opS_put (i := i) hoj hdi hf.1 hf.2 hy h1
      have hfree' : ∀ k ok, ops[k]? = some ok → k ≠ i → (listed.setIfInBounds j true).getD k true = false →
          (∀ e ∈ ok.after, Region.binds .any e = true → e.on ≠ i ∧ ∀ om, ops[e.on]? = some om → onE om i = false) → oi.apart ops ok = true ∧ (stB ok = true → hlB oi = true) := fun k ok hk hki hun hno => by
        refine hfree k ok hk hki ?_ hno
        by_cases hjk : j = k
        · subst hjk; exact hjun
        · rw [getD_set_ne true hjk] at hun; exact hun
      have hu' : ∀ m om, ops[m]? = some om → onE om i = true → (listed.setIfInBounds j true).getD m true = false := fun m om hm ho => by
        by_cases hjm : j = m
        · subst hjm
          rw [hoj] at hm
          cases hm
          exact (onE_spec ho hnot).elim
        · rw [getD_set_ne true hjm]; exact hu m om hm ho
      refine opS_mono (fun σ' h3 => ih (listed.setIfInBounds j true) σ'.s σ'.H hfree' hu' (ready_mono hr (Ne.symm hji)) h3.1 ?_) h2
      rw [Array.setIfInBounds_comm _ _ hji]
      exact h3.2

theorem anyS_lex {K : St → Prop} (hgl : ∀ i j oi oj, i < j → ops[i]? = some oi → ops[j]? = some oj → (stB oi = true → onE oj i = true) ∧ (stB oj = true → hlB oi = true ∨ onE2 ops.toList oj i = true) ∧ onE oi j = false) :
    ∀ (rest : List Oper) (k : Nat) (listed : Array Bool) (s : Nat → AV) (H : Hp), rest.all (fun o => quietB o || stB o) = true → (∀ j, rest[j]? = ops[k + j]?) → (∀ j, listed.getD j true = false → k ≤ j) → (∀ j, k ≤ j → j < ops.size → listed.getD j true = false) →
    Region.lexFrom .any ops rest.length k listed = true → qOps P l n (ops.toList.map (·.dst)) rest K ⟨s, H⟩ → anyS P l n ops K rest.length listed ⟨s, H⟩
  | [], _, _, _, _, _, _, _, _, hB, h => ⟨by simpa [Region.lexFrom] using hB, h⟩
  | o :: rest, k, listed, s, H, hq, hl, hk, hk2, hB, h => by
    have h0 : ops[k]? = some o := by simpa using (hl 0).symm
    simp only [List.length_cons, Region.lexFrom, Bool.and_eq_true] at hB
    obtain ⟨⟨hr, hf⟩, hB'⟩ := hB
    have hr : k ∈ Region.ready .any ops listed := by simpa using hr
    simp only [List.all_cons, Bool.and_eq_true, Bool.or_eq_true] at hq
    have hk' : ∀ j, (listed.setIfInBounds k true).getD j true = false → k + 1 ≤ j := fun j hj => by
      by_cases hjk : k = j
      · subst hjk
        exfalso
        rcases Nat.lt_or_ge k listed.size with h' | h'
        · simp [h'] at hj
        · simp [Array.getElem?_eq_none, h'] at hj
      · rw [getD_set_ne true hjk] at hj
        have := hk j hj
        omega
    have hk2' : ∀ j, k + 1 ≤ j → j < ops.size → (listed.setIfInBounds k true).getD j true = false := fun j h1 h2 => by
      rw [getD_set_ne true (by omega)]
      exact hk2 j (by omega) h2
    have hu : ∀ m om, ops[m]? = some om → onE om k = true → listed.getD m true = false := fun m om hm ho => by
      have hms : m < ops.size := by
        rcases Nat.lt_or_ge m ops.size with h | h
        · exact h
        · rw [Array.getElem?_eq_none h] at hm; cases hm
      rcases Nat.lt_or_ge m k with h1 | h1
      · rw [(hgl m k om o h1 hm h0).2.2] at ho; cases ho
      · exact hk2 m h1 hms
    have hl' : ∀ j, rest[j]? = ops[k + 1 + j]? := fun j => by have := hl (j + 1); simpa [Nat.add_assoc, Nat.add_comm 1 j] using this
    have next : ∀ s' H', qOps P l n (ops.toList.map (·.dst)) rest K ⟨s', H'⟩ → anyS P l n ops K rest.length (listed.setIfInBounds k true) ⟨s', H'⟩ := fun s' H' h' =>
      anyS_lex hgl rest (k + 1) _ s' H' (by simpa using hq.2) hl' hk' hk2' hB' h'
    by_cases hst0 : stB o = true
    · -- a store: nothing else is ready
      have hg : o.guard = none := by
        cases hg : o.guard with
        | none => rfl
        | some _ => obtain ⟨dst, op, type, pos, after, guard⟩ := o; simp only at hg; subst hg; cases op <;> cases dst <;> simp [stB] at hst0
      have hrOp : rOp P l n o (qOps P l n (ops.toList.map (·.dst)) rest K) ⟨s, H⟩ := by
        unfold qOps at h
        simp only [hg] at h
        unfold qOp1 at h
        split at h
        · rename_i c hc; simp [stB, hc] at hst0
        · exact h
      obtain ⟨H', hS, hK⟩ := StO_of hst0 hrOp
      refine ⟨fun h => (by rw [h] at hr; cases hr), fun j hj => ?_⟩
      by_cases hjk : j = k
      · subst hjk
        unfold opS
        simp only [h0]
        exact .inr ⟨hst0, H', hS, next _ _ hK⟩
      · exfalso
        obtain ⟨hjun, oj, hoj, hall⟩ := mem_ready.1 hj
        have hkj := hk j hjun
        have he := (hgl k j o oj (by omega) h0 hoj).1 hst0
        refine onE_spec he fun e he hb heq => ?_
        have h1 := hall e he hb
        have h0 := (mem_ready.1 hr).1
        rw [heq] at h1
        rcases Nat.lt_or_ge k listed.size with h' | h'
        · simp [h'] at h0 h1; rw [h0] at h1; cases h1
        · simp [Array.getElem?_eq_none h'] at h1
    · have hq1 : quietB o = true := by rcases hq.1 with h | h; exact h; exact absurd h hst0
      have hst : ∃ d v, o.dst = some d ∧ d < n ∧ YA P l H ops o s v ∧ qOps P l n (ops.toList.map (·.dst)) rest K ⟨upd s d v, H⟩ := by
        unfold qOps at h
        unfold YA
        cases hg : o.guard with
        | none => simp only [hg] at h; exact qOp1_det hq1 h
        | some gw =>
          obtain ⟨i, b⟩ := gw
          simp only [hg] at h ⊢
          split at h
          · rename_i t ht
            cases t with
            | true =>
              obtain ⟨d, v, h1, h2, h3, h4⟩ := qOp1_det hq1 (h.1 rfl)
              exact ⟨d, v, h1, h2, ⟨fun _ => h3, fun h => (by cases h)⟩, h4⟩
            | false =>
              have h2 := h.2 rfl
              split at h2
              · rename_i d hd; exact ⟨d, .tup [], hd, h2.1, ⟨fun h => (by cases h), fun _ => rfl⟩, h2.2⟩
              · exact h2.elim
          · exact h.elim
      obtain ⟨d, v, hd, hdn, hy, hK⟩ := hst
      refine anyS_first h0 hq1 hd hdn rest.length listed s H (fun j oj hoj hjk hjun hno => ⟨Region.free_spec h0 hf j oj hoj hjk hjun (fun e he hb => (hno e he hb).1), fun hsj => ?_⟩) hu hr hy (next _ _ hK)
      have hkj := hk j hjun
      rcases (hgl k j o oj (by omega) h0 hoj).2.1 hsj with h | h
      · exact h
      · exfalso
        unfold onE2 at h
        rw [Bool.or_eq_true] at h
        rcases h with h | h
        · exact onE_spec h fun e he hb => (hno e he hb).1
        · obtain ⟨e, he, hb⟩ := List.any_eq_true.1 h
          rw [Bool.and_eq_true] at hb
          obtain ⟨hb1, hb2⟩ := hb
          split at hb2
          · rename_i om hom
            have := (hno e (by simpa using he) hb1).2 om (by simpa using hom)
            rw [this] at hb2
            cases hb2
          · cases hb2

theorem wpOp_of_opS {i : Nat} {σ : St} {a : Act} {w : World} {K : St → Prop} {K' : Act → World → Prop} {Q' : Exit → Act → World → Prop} (hR : R l n B σ a w)
    (h : ∀ σ a w, R l n B σ a w → K σ → K' a w) (hh : opS P l n ops i K σ) : wpOp P ops Q' i K' a w := by
  obtain ⟨s, H⟩ := σ
  unfold opS at hh
  unfold wpOp
  split
  · rename_i ho; simp only [ho] at hh; exact h _ _ _ hR hh
  · rename_i o ho
    simp only [ho] at hh
    rcases hh with ⟨ho', d, v, hd, hdn, hy, hK⟩ | ⟨hst, H', hS, hK⟩
    · have go : qV P l H o (ev s) v → o.wp P a w K' Q' := fun hv => by
        have := aop_qV (B := B) ho' hd hdn hv a w hR Q'
        refine Oper.wp_mono (fun a' w' ⟨σ', e, hR'⟩ => ?_) this
        subst e
        exact h _ _ _ hR' hK
      unfold YA at hy
      cases hg : o.guard with
      | none =>
        simp only [hg] at hy
        rw [if_pos (by simp [Region.wanted, hg])]
        exact .inl (go hy)
      | some gw =>
        obtain ⟨j, b⟩ := gw
        simp only [hg] at hy
        split at hy
        · rename_i t ht
          have hyd : (yielded ops a.tmps j == some b) = t := by
            obtain ⟨m, S, hO, hn, hdf, hS, hex⟩ := hR.un
            exact yield_grd hS ht
          cases t with
          | true =>
            rw [if_pos (by simp only [Region.wanted, hg]; exact hyd)]
            exact .inl (go (hy.1 rfl))
          | false =>
            rw [if_neg (by simp only [Region.wanted, hg, hyd]; decide)]
            have := hy.2 rfl
            subst this
            rw [hd]
            exact h _ _ _ (R.undef hR hdn) hK
        · exact hy.elim
    · have hg : o.guard = none := by
        cases hg : o.guard with
        | none => rfl
        | some _ => obtain ⟨dst, op, type, pos, after, guard⟩ := o; simp only at hg; subst hg; cases op <;> cases dst <;> simp [stB] at hst
      rw [if_pos (by simp [Region.wanted, hg])]
      refine .inl ?_
      have := rOp_sound (B := B) (rOp_of (n := n) (K := fun σ' => σ' = ⟨s, H'⟩) hst hS rfl) a w hR Q'
      refine Oper.wp_mono (fun a' w' ⟨σ', e, hR'⟩ => ?_) this
      subst e
      exact h _ _ _ hR' hK

theorem wpAny_of_anyS {Q : St → Prop} {Q' : Exit → Act → World → Prop} (hQ : ∀ σ a w, R l n B σ a w → Q σ → Q' .normal a w) : ∀ (fuel : Nat) (listed : Array Bool) (σ : St) (a : Act) (w : World), R l n B σ a w →
    anyS P l n ops Q fuel listed σ → wpAny P .any ops Q' fuel listed a w
  | 0, _, _, _, _, hR, h => ⟨h.1, hQ _ _ _ hR h.2⟩
  | fuel + 1, _, _, _, _, hR, h => ⟨fun h0 => hQ _ _ _ hR (h.1 h0), fun i hi => wpOp_of_opS hR (fun s' a' w' hR' hA => wpAny_of_anyS hQ fuel _ s' a' w' hR' hA) (h.2 i hi)⟩

theorem awp_drawnS {id : Nat} {ops : List Oper} {σ : St} {Q : Exit → St → Prop} (hm : P.follows .mixedOrders = true) (hB : Region.lexB .any ops.toArray = true) (hq : ops.all (fun o => quietB o || stB o) = true) (hs : okS ops 0 ops = true)
    (h : qOps P l n (ops.map (·.dst)) ops (Q .normal) σ) : AWp P l n B (.region id ops.toArray true) Q σ := by
  intro a w hR
  obtain ⟨s, H⟩ := σ
  simp only [Region.lexB, Bool.and_eq_true] at hB
  have hA := anyS_lex (P := P) (l := l) (n := n) (ops := ops.toArray) (K := Q .normal) (fun i j oi oj hij hi hj => by
      have := okS_at hs hij (by simpa using hi) (by simpa using hj)
      simpa using this) ops 0 (Array.replicate ops.toArray.size false) s H hq (by simp) (fun _ _ => Nat.zero_le _) (fun j _ h => by simp at h; simp [h]) (by simpa using hB.2) (by simpa using h)
  have hR' : R l n B ⟨s, H⟩ a { w with drawn := w.drawn + 1 } := by
    obtain ⟨m, S, hO, hn, hdf, hS, hex⟩ := hR.un
    obtain ⟨h1, h2⟩ := hO.drew (w' := { w with drawn := w.drawn + 1 }) rfl rfl rfl rfl
    exact R.keep h1 hn hdf hS hex h2
  refine wp_region_any hm (wpAny_of_anyS (Q := Q .normal) (fun σ' a' w' hR'' hq' => ⟨_, hq', hR''⟩) _ _ _ a _ hR' (by simpa using hA))
end
end Go.Eng
