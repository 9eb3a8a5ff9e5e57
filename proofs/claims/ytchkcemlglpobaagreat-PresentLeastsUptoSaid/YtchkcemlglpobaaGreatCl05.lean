import Derived.Test.YtchkcemlglpobaaGreatCl04
import Derived.Test.YtchkcemlglpobaaGreatCl00
namespace Go.Eng
open Go
set_option linter.all false
inductive Waits (ops : Array Oper) : Nat → Nat → Prop
 | one {j i : Nat} {oj : Oper} {e : Edge} (hj : ops[j]? = some oj) (he : e ∈ oj.after) (hb : Region.binds .any e = true) (hi : e.on = i) : Waits ops j i
 | more {j m i : Nat} {oj : Oper} {e : Edge} (hj : ops[j]? = some oj) (he : e ∈ oj.after) (hb : Region.binds .any e = true) (hm : e.on = m) (h : Waits ops m i) : Waits ops j i
def ZiA (L : List Oper) (i : Nat) : Nat → Nat → Bool
 | 0, _ => false
 | fu + 1, j => match nth L j with | some oj => oj.after.toList.any fun e => Region.binds .any e && (Nat.beq e.on i || ZiA L i fu e.on) | none => false
theorem Zep {L : List Oper} {i : Nat} : ∀ (fu j : Nat), ZiA L i fu j = true → Waits L.toArray j i
 | 0, j, h => by cases h
 | fu + 1, j, h => by
  unfold ZiA at h
  rw [Zby] at h
  split at h
  ·rename_i oj ho
   obtain ⟨e, he, h⟩ := YH.1 h
   rw [Bool.and_eq_true, Bool.or_eq_true] at h
   have hj : L.toArray[j]? = some oj := by simpa using ho
   rcases h.2 with h2 | h2
   ·exact .one hj (by simpa using he) h.1 (Ya h2)
   ·exact .more hj (by simpa using he) h.1 rfl (Zep fu _ h2)
  ·cases h
def DC (ops : Array Oper) (listed : Array Bool) : Prop := ∀ (m : Nat) (om : Oper), ops[m]? = some om → listed.getD m false = true → ∀ e ∈ om.after, Region.binds .any e = true → listed.getD e.on false = true
theorem DC.waits {ops : Array Oper} {listed : Array Bool} (h : DC ops listed) {j i : Nat} (hw : Waits ops j i) : listed.getD j false = true → listed.getD i false = true := by
 induction hw with
 | one hj he hb hi => intro hl; rw [← hi]; exact h _ _ hj hl _ he hb
 | more hj he hb hm _ ih => intro hl; exact ih (by rw [← hm]; exact h _ _ hj hl _ he hb)
theorem ZxS {listed : Array Bool} {i : Nat} (h : listed.getD i true = false) : listed.getD i false = false := by
 grind
theorem DC.ready {ops : Array Oper} {listed : Array Bool} (h : DC ops listed) {j : Nat} (hj : j ∈ Region.ready .any ops listed) : DC ops (listed.setIfInBounds j true) := by
 obtain ⟨h0, oj, hoj, hall⟩ := mem_ready.1 hj
 intro m om hm hl e he hb
 by_cases hmj : j = m
 ·subst hmj
  rw [hoj] at hm
  cases hm
  exact getD_set_true (hall e he hb)
 ·rw [getD_set_ne false hmj] at hl
  exact getD_set_true (h m om hm hl e he hb)
theorem DC.nowait {ops : Array Oper} {listed : Array Bool} (h : DC ops listed) {j i : Nat} (hj : j ∈ Region.ready .any ops listed) (hi : listed.getD i true = false) : ¬ Waits ops j i := fun hw => by
 obtain ⟨h0, oj, hoj, hall⟩ := mem_ready.1 hj
 have hi := ZxS hi
 cases hw with
 | one hj' he hb he2 =>
  grind
 | more hj' he hb hm hw' =>
  rw [hoj] at hj'
  cases hj'
  have := h.waits hw' (by rw [← hm]; exact hall _ he hb)
  grind
def stB (o : Oper) : Bool := match o.op, o.dst, o.guard with
 | .store _ _ _, none, none => true
 | _, _, _ => false
def hlB (o : Oper) : Bool := match o.op with
 | .move _ => true
 | .binOp b _ _ _ _ => (match b with | .add => true | .sub => true | _ => false)
 | .indexAddr _ _ _ => true
 | .fieldAddr _ _ _ => true
 | .nilCheck _ => true
 | _ => false
def ZHY (H H' : Hp) : Prop := ∀ k, (H' k).g = (H k).g ∧ (H' k).live = (H k).live ∧ (H' k).sz = (H k).sz
def ZFz (L : List Oper) (p : Oper) (k : Nat) : Bool := onE p k || p.after.toList.any fun e => Region.binds .any e && (match L[e.on]? with | some om => onE om k | none => false)
def ZGp (L : List Oper) (o : Oper) (k : Nat) : Nat → List Oper → Bool
 | _, [] => true
 | j, p :: r => (match stB o with | true => onE p k | false => true) && (match stB p with | true => hlB o || ZFz L p k | false => true) && !onE o j && ZGp L o k (j + 1) r
def okS (L : List Oper) : Nat → List Oper → Bool
 | _, [] => true
 | k, o :: r => ZGp L o k (k + 1) r && okS L (k + 1) r
theorem Zpy {L : List Oper} {o : Oper} {k : Nat} : ∀ {l : List Oper} {j i : Nat} {p : Oper}, ZGp L o k j l = true → l[i]? = some p → (stB o = true → onE p k = true) ∧ (stB p = true → hlB o = true ∨ ZFz L p k = true) ∧ onE o (j + i) = false
 | [], j, i, p, _, h => by simp at h
 | q :: r, j, i, p, hc, h => by
  simp only [ZGp, Bool.and_eq_true, Bool.not_eq_true'] at hc
  cases i with
  | zero =>
   grind
  | succ i =>
   have := Zpy hc.2 (i := i) (by simpa using h)
   grind
theorem Zol {L : List Oper} : ∀ {l : List Oper} {k i j : Nat} {o p : Oper}, okS L k l = true → i < j → l[i]? = some o → l[j]? = some p → (stB o = true → onE p (k + i) = true) ∧ (stB p = true → hlB o = true ∨ ZFz L p (k + i) = true) ∧ onE o (k + j) = false
 | [], k, i, j, o, p, _, _, h, _ => by simp at h
 | q :: r, k, i, j, o, p, hc, hij, h, h' => by
  simp only [okS, Bool.and_eq_true] at hc
  cases j with
  | zero => omega
  | succ j =>
   have h' : r[j]? = some p := by simpa using h'
   cases i with
   | zero =>
    simp only [YG, Ye] at h
    subst h
    have := Zpy hc.1 h'
    grind
   | succ i =>
    have := Zol hc.2 (Nat.lt_of_succ_lt_succ hij) (by simpa using h) h'
    grind
theorem ZhL {p : Oper} {k : Nat} (h : onE p k = true) (hno : ∀ e ∈ p.after, Region.binds .any e = true → e.on ≠ k) : False := by
 unfold onE at h
 rw [YH] at h
 obtain ⟨e, he, hb⟩ := h
 simp only [Bool.and_eq_true] at hb
 exact hno e (by simpa using he) hb.1 (Ya hb.2)
section
variable {P : Program} {l n : Nat} {B : Base} {H H' : Hp} {ops : Array Oper} {ρ : Operand → AV}
theorem ZCj {o : Oper} {v : AV} (h : hlB o = true) (hs : ZHY H H') (hh : qV P l H o ρ v) : qV P l H' o ρ v := by
 obtain ⟨dst, op, type, pos, after, guard⟩ := o
 cases op <;> simp only [hlB] at h <;> first | (cases h; done) | skip
 case move => exact hh
 case nilCheck =>
  simp only [qV, vOp] at hh ⊢
  unfold ZvG at hh ⊢
  split at hh
  ·rename_i k g off _
   obtain ⟨h1, h2, h3⟩ := hs k
   grind
  ·exact hh
  ·grind
 case fieldAddr =>
  simp only [qV, vOp] at hh ⊢
  unfold ZaR at hh ⊢
  split at hh
  ·exact hh
  ·rename_i k g off o n _ _
   obtain ⟨h1, h2, h3⟩ := hs k
   grind
  ·grind
 case indexAddr =>
  simp only [qV, vOp] at hh ⊢
  unfold ZaJ at hh ⊢
  split at hh
  ·exact hh
  ·rename_i k g off len _ n _ sz _ _ _
   obtain ⟨h1, h2, h3⟩ := hs k
   grind
  ·grind
 case binOp =>
  simp only [qV, vOp] at hh ⊢
  unfold Zgw at hh ⊢
  split at hh
  ·exact hh
  ·exact hh
  ·grind
  ·exact hh
  ·grind
  ·grind
theorem ZHZ {o : Oper} {s : Nat → AV} {v : AV} (h : hlB o = true) (hs : ZHY H H') (hh : YA P l H ops o s v) : YA P l H' ops o s v := by
 unfold YA at hh ⊢
 split at hh
 ·exact ZCj h hs hh
 ·split at hh
  ·exact ⟨fun e => ZCj h hs (hh.1 e), hh.2⟩
  grind
def StO (P : Program) (l : Nat) (o : Oper) (s : Nat → AV) (H H' : Hp) : Prop := match o.op with
 | .store t a x => match ev s a, Zbh (ev s x) with
  | .ptr k g off, some vs => g = (H k).g ∧ (H k).live = true ∧ vs.length = P.cellsOf t ∧ vs ≠ [] ∧ off + vs.length ≤ (H k).cells.length ∧ (k.1 = l + 1 ∨ vs.all (AV.low k.1) = true) ∧
    H' = updH H k { H k with cells := (H k).cells.take off ++ vs ++ (H k).cells.drop (off + vs.length) }
  | _, _ => False
 | _ => False
theorem ZAx {o : Oper} {s : Nat → AV} (h : StO P l o s H H') : ZHY H H' := by
 unfold StO at h
 split at h
 ·split at h
  ·obtain ⟨_, _, _, _, _, _, rfl⟩ := h
   intro k
   unfold updH
   grind
  grind
 grind
theorem ZBO {o : Oper} {s : Nat → AV} {K : St → Prop} (hs : stB o = true) (h : rOp P l n o K ⟨s, H⟩) : ∃ H', StO P l o s H H' ∧ K ⟨s, H'⟩ := by
 obtain ⟨dst, op, type, pos, after, guard⟩ := o
 cases op <;> simp only [stB] at hs <;> first | (cases hs; done) | skip
 cases dst with
 | some d => cases hs
 | none =>
  simp only [rOp] at h
  simp only [StO]
  grind
theorem ZB8 {o : Oper} {s : Nat → AV} {K : St → Prop} (hs : stB o = true) (h : StO P l o s H H') (hK : K ⟨s, H'⟩) : rOp P l n o K ⟨s, H⟩ := by
 obtain ⟨dst, op, type, pos, after, guard⟩ := o
 cases op <;> simp only [stB] at hs <;> first | (cases hs; done) | skip
 cases dst with
 | some d => cases hs
 | none =>
  simp only [StO] at h
  simp only [rOp]
  grind
theorem Zy7 {o : Oper} {s : Nat → AV} {d : Nat} {u : AV} (hd : d ∉ o.looksAt ops) (h : StO P l o (upd s d u) H H') : StO P l o s H H' := by
 have hev : ∀ x ∈ o.op.operands, ev (upd s d u) x = ev s x := fun x hx => by
  cases x with
  | tmp t =>
   have hne : t ≠ d := fun e => hd (by
    subst e
    exact Y6 _ (List.mem_filterMap.2 ⟨.tmp t, by simpa using hx, rfl⟩))
   simp [ev, upd, hne]
  | _ => rfl
 unfold StO at h ⊢
 split at h
 ·rename_i t a x ho
  rw [hev a (by rw [ho]; simp [Op.operands]), hev x (by rw [ho]; simp [Op.operands])] at h
  exact h
 grind
variable {fin : Bool} {X : St → Prop}
def opS (P : Program) (l n : Nat) (ops : Array Oper) (fin : Bool) (X : St → Prop) (i : Nat) (K : St → Prop) (σ : St) : Prop :=
 match ops[i]? with
 | none => K σ
 | some o => (Zb9 o = true ∧ ∃ d v, o.dst = some d ∧ d < n ∧ YA P l σ.H ops o σ.s v ∧ K ⟨upd σ.s d v, σ.H⟩) ∨ (stB o = true ∧ ∃ H', StO P l o σ.s σ.H H' ∧ K ⟨σ.s, H'⟩) ∨ (fin = true ∧ i + 1 = ops.size ∧ X σ)
def Zx9 (P : Program) (l n : Nat) (ops : Array Oper) (fin : Bool) (X : St → Prop) (Q : St → Prop) : Nat → Array Bool → St → Prop
 | 0, listed, σ => Region.ready .any ops listed = [] ∧ Q σ
 | fuel + 1, listed, σ => (Region.ready .any ops listed = [] → Q σ) ∧ ∀ i ∈ Region.ready .any ops listed, opS P l n ops fin X i (Zx9 P l n ops fin X Q fuel (listed.setIfInBounds i true)) σ
theorem Zsx {i : Nat} {K K' : St → Prop} {σ : St} (h : ∀ s, K s → K' s) (hh : opS P l n ops fin X i K σ) : opS P l n ops fin X i K' σ := by
 unfold opS at *
 split
 ·rename_i e; rw [e] at hh; exact h _ hh
 ·rename_i o e
  rw [e] at hh
  rcases hh with ⟨h0, d, v, h1, h2, h3, h4⟩ | ⟨h0, H', h1, h2⟩ | h0
  ·exact .inl ⟨h0, d, v, h1, h2, h3, h _ h4⟩
  ·exact .inr (.inl ⟨h0, H', h1, h _ h2⟩)
  ·exact .inr (.inr h0)
theorem Zzv {i j : Nat} {oi oj : Oper} {d : Nat} {v : AV} (hj : ops[j]? = some oj) (hdi : oi.dst = some d) (hap : oi.apart ops oj = true) (hhl : stB oj = true → hlB oi = true) (hnf : fin = true → j + 1 ≠ ops.size) {K : St → Prop} {s : Nat → AV}
  (hy : YA P l H ops oi s v) (h : opS P l n ops fin X j K ⟨upd s d v, H⟩) : opS P l n ops fin X j (fun σ' => YA P l σ'.H ops oi σ'.s v ∧ K ⟨upd σ'.s d v, σ'.H⟩) ⟨s, H⟩ := by
 obtain ⟨h1, h2, h3⟩ := Oper.apart_spec hap
 unfold opS at *
 simp only [hj] at *
 rcases h with ⟨h0, e, u, he, hen, hu, hK⟩ | ⟨h0, H', hu, hK⟩ | ⟨h0, h4, _⟩
 ·refine .inl ⟨h0, e, u, he, hen, Zwb (h1 d hdi) hu, Zy0 (h3 e he) hy, ?_⟩
  have hne : d ≠ e := fun e' => h2 d hdi (e' ▸ he)
  rw [ZrX (Ne.symm hne)]
  exact hK
 ·exact .inr (.inl ⟨h0, H', Zy7 (h1 d hdi) hu, ZHZ (hhl h0) (ZAx hu) hy, hK⟩)
 ·exact absurd h4 (hnf h0)
theorem Zly {Q : St → Prop} {i : Nat} {oi : Oper} {d : Nat} {v : AV} (hi : ops[i]? = some oi) (hq : Zb9 oi = true) (hdi : oi.dst = some d) (hdn : d < n) :
  ∀ (fuel : Nat) (listed : Array Bool) (s : Nat → AV) (H : Hp),
   (∀ j oj, ops[j]? = some oj → j ≠ i → listed.getD j true = false → (∀ e ∈ oj.after, Region.binds .any e = true → e.on ≠ i ∧ ∀ om, ops[e.on]? = some om → onE om i = false) → ¬ Waits ops j i → oi.apart ops oj = true ∧ (stB oj = true → hlB oi = true) ∧ (fin = true → j + 1 ≠ ops.size)) → DC ops listed →
   (∀ m om, ops[m]? = some om → onE om i = true → listed.getD m true = false) → i ∈ Region.ready .any ops listed → YA P l H ops oi s v →
   Zx9 P l n ops fin X Q fuel (listed.setIfInBounds i true) ⟨upd s d v, H⟩ → Zx9 P l n ops fin X Q (fuel + 1) listed ⟨s, H⟩ := by
 have self : ∀ {K : St → Prop} {s : Nat → AV} {H : Hp}, YA P l H ops oi s v → K ⟨upd s d v, H⟩ → opS P l n ops fin X i K ⟨s, H⟩ := fun hy hK => by
  unfold opS; simp only [hi]; exact .inl ⟨hq, d, v, hdi, hdn, hy, hK⟩
 intro fuel
 induction fuel with
 | zero =>
  intro listed s H _ _ hu hr hy HH
  refine ⟨fun h => (by rw [h] at hr; cases hr), fun j hj => ?_⟩
  by_cases hji : j = i
  ·subst hji; exact self hy HH
  ·have := ready_mono hj hji
   rw [HH.1] at this
   cases this
 | succ fuel ih =>
  intro listed s H hfree hD hu hr hy HH
  refine ⟨fun h => (by rw [h] at hr; cases hr), fun j hj => ?_⟩
  by_cases hji : j = i
  ·subst hji; exact self hy HH
  ·have h1 := HH.2 j (ready_mono hj hji)
   obtain ⟨hjun, oj, hoj, hall⟩ := mem_ready.1 hj
   have hnot : ∀ e ∈ oj.after, Region.binds .any e = true → e.on ≠ i := fun e he hb heq => by
    have h1 := hall e he hb
    have h0 := (mem_ready.1 hr).1
    rw [heq] at h1
    rcases Yo i listed.size with h' | h'
    ·simp [h'] at h0 h1; rw [h0] at h1; cases h1
    ·simp [YL h'] at h1
   have hnot2 : ∀ e ∈ oj.after, Region.binds .any e = true → e.on ≠ i ∧ ∀ om, ops[e.on]? = some om → onE om i = false := fun e he hb => ⟨hnot e he hb, fun om hom => by
    cases ho : onE om i with
    | false => rfl
    | true =>
     have h1 := hall e he hb
     have h0 := hu _ om hom ho
     rcases Yo e.on listed.size with h' | h'
     ·simp [h'] at h0 h1; rw [h0] at h1; cases h1
     ·simp [YL h'] at h1⟩
   have hf := hfree j oj hoj hji hjun hnot2 (hD.nowait hj (mem_ready.1 hr).1)
   have h2 := Zzv (i := i) hoj hdi hf.1 hf.2.1 hf.2.2 hy h1
   have hfree' : ∀ k ok, ops[k]? = some ok → k ≠ i → (listed.setIfInBounds j true).getD k true = false →
     (∀ e ∈ ok.after, Region.binds .any e = true → e.on ≠ i ∧ ∀ om, ops[e.on]? = some om → onE om i = false) → ¬ Waits ops k i → oi.apart ops ok = true ∧ (stB ok = true → hlB oi = true) ∧ (fin = true → k + 1 ≠ ops.size) := fun k ok hk hki hun hno hnw => by
    refine hfree k ok hk hki ?_ hno hnw
    by_cases hjk : j = k
    ·subst hjk; exact hjun
    ·rw [getD_set_ne true hjk] at hun; exact hun
   have hu' : ∀ m om, ops[m]? = some om → onE om i = true → (listed.setIfInBounds j true).getD m true = false := fun m om hm ho => by
    by_cases hjm : j = m
    ·subst hjm
     rw [hoj] at hm
     cases hm
     exact (ZhL ho hnot).elim
    ·rw [getD_set_ne true hjm]; exact hu m om hm ho
   refine Zsx (fun σ' h3 => ih (listed.setIfInBounds j true) σ'.s σ'.H hfree' (hD.ready hj) hu' (ready_mono hr (Ne.symm hji)) h3.1 ?_) h2
   rw [Ya5 _ _ hji]
   exact h3.2
theorem Zhn {K K0 : St → Prop} {m : Nat} (hbase : ∀ k (listed : Array Bool) (s : Nat → AV) (H : Hp), k + m = ops.size → (∀ j, listed.getD j true = false → k ≤ j) → Region.lexFrom .any ops m k listed = true → K0 ⟨s, H⟩ → Zx9 P l n ops fin X K m listed ⟨s, H⟩) (hfin : fin = true → ∀ i, i + 1 < ops.size → Waits ops (ops.size - 1) i) (hgl : ∀ i j oi oj, i < j → ops[i]? = some oi → ops[j]? = some oj → (stB oi = true → onE oj i = true) ∧ (stB oj = true → hlB oi = true ∨ ZFz ops.toList oj i = true) ∧ onE oi j = false) :
  ∀ (rest : List Oper) (k : Nat) (listed : Array Bool) (s : Nat → AV) (H : Hp), rest.all (fun o => Zb9 o || stB o) = true → (∀ j, listed.getD j true = false → k ≤ j) → (∀ j, k ≤ j → j < ops.size → listed.getD j true = false) →
  k + rest.length + m = ops.size → DC ops listed → (∀ j, j < rest.length → rest[j]? = ops[k + j]?) → Region.lexFrom .any ops (rest.length + m) k listed = true → Zjq P l n (ops.toList.map (·.dst)) rest K0 ⟨s, H⟩ → Zx9 P l n ops fin X K (rest.length + m) listed ⟨s, H⟩
 | [], k, listed, s, H, _, hk, _, hsz, _, _, hB, h => by
  simp only [Yaf, Yz, Yae] at hB hsz ⊢
  exact hbase k listed s H hsz hk hB h
 | o :: rest, k, listed, s, H, hq, hk, hk2, hsz, hD, hl, hB, h => by
  have h0 : ops[k]? = some o := by simpa using (hl 0 (by simp)).symm
  rw [YZ, Nat.add_right_comm] at hB ⊢
  simp only [Region.lexFrom, Bool.and_eq_true] at hB
  obtain ⟨⟨hr, hf⟩, hB'⟩ := hB
  have hr : k ∈ Region.ready .any ops listed := by simpa using hr
  simp only [Yaj, Bool.and_eq_true, Bool.or_eq_true] at hq
  have hk' : ∀ j, (listed.setIfInBounds k true).getD j true = false → k + 1 ≤ j := fun j hj => by
   by_cases hjk : k = j
   ·subst hjk
    exfalso
    rcases Yo k listed.size with h' | h'
    ·simp [h'] at hj
    grind
   ·rw [getD_set_ne true hjk] at hj
    grind
  have hk2' : ∀ j, k + 1 ≤ j → j < ops.size → (listed.setIfInBounds k true).getD j true = false := fun j h1 h2 => by
   rw [getD_set_ne true (by omega)]
   grind
  have hu : ∀ m om, ops[m]? = some om → onE om k = true → listed.getD m true = false := fun m om hm ho => by
   grind
  have hl' : ∀ j, j < rest.length → rest[j]? = ops[k + 1 + j]? := fun j hj => by have := hl (j + 1) (by simp; omega); simpa [Yp, Ya6 1 j] using this
  have next : ∀ s' H', Zjq P l n (ops.toList.map (·.dst)) rest K0 ⟨s', H'⟩ → Zx9 P l n ops fin X K (rest.length + m) (listed.setIfInBounds k true) ⟨s', H'⟩ := fun s' H' h' =>
   Zhn hbase hfin hgl rest (k + 1) _ s' H' (by simpa using hq.2) hk' hk2' (by simp only [YZ] at hsz; omega) (hD.ready hr) hl' hB' h'
  by_cases hst0 : stB o = true
  ·
   have hg : o.guard = none := by
    cases hg : o.guard with
    | none => rfl
    | some _ => obtain ⟨dst, op, type, pos, after, guard⟩ := o; simp only at hg; subst hg; cases op <;> cases dst <;> simp [stB] at hst0
   have hrOp : rOp P l n o (Zjq P l n (ops.toList.map (·.dst)) rest K0) ⟨s, H⟩ := by
    unfold Zjq at h
    simp only [hg] at h
    unfold Zmw at h
    split at h
    ·rename_i hc; simp [stB, hc] at hst0
    ·rename_i c hc; simp [stB, hc] at hst0
    ·exact h
   obtain ⟨H', hS, hK⟩ := ZBO hst0 hrOp
   refine ⟨fun h => (by rw [h] at hr; cases hr), fun j hj => ?_⟩
   by_cases hjk : j = k
   ·subst hjk
    unfold opS
    grind
   ·exfalso
    obtain ⟨hjun, oj, hoj, hall⟩ := mem_ready.1 hj
    have hkj := hk j hjun
    have he := (hgl k j o oj (by omega) h0 hoj).1 hst0
    refine ZhL he fun e he hb heq => ?_
    grind
  ·have hq1 : Zb9 o = true := by rcases hq.1 with h | h; exact h; exact absurd h hst0
   have hst : ∃ d v, o.dst = some d ∧ d < n ∧ YA P l H ops o s v ∧ Zjq P l n (ops.toList.map (·.dst)) rest K0 ⟨upd s d v, H⟩ := by
    unfold Zjq at h
    unfold YA
    cases hg : o.guard with
    | none => simp only [hg] at h; exact Zlt hq1 h
    | some gw =>
     obtain ⟨i, b⟩ := gw
     simp only [hg] at h ⊢
     split at h
     ·rename_i t ht
      cases t with
      | true =>
       obtain ⟨d, v, h1, h2, h3, h4⟩ := Zlt hq1 (h.1 rfl)
       grind
      | false =>
       grind
     grind
   obtain ⟨d, v, hd, hdn, hy, hK⟩ := hst
   refine Zly h0 hq1 hd hdn (rest.length + m) listed s H (fun j oj hoj hjk hjun hno hnw => ⟨Region.free_spec h0 hf j oj hoj hjk hjun (fun e he hb => (hno e he hb).1), fun hsj => ?_, fun hfi hlast => hnw (by have := hfin hfi k (by have := hk j hjun; omega); rwa [← hlast, Nat.add_sub_cancel] at this)⟩) hD hu hr hy (next _ _ hK)
   have hkj := hk j hjun
   rcases (hgl k j o oj (by omega) h0 hoj).2.1 hsj with h | h
   ·exact h
   ·exfalso
    unfold ZFz at h
    rw [Bool.or_eq_true] at h
    rcases h with h | h
    ·exact ZhL h fun e he hb => (hno e he hb).1
    ·obtain ⟨e, he, hb⟩ := YH.1 h
     rw [Bool.and_eq_true] at hb
     obtain ⟨hb1, hb2⟩ := hb
     split at hb2
     ·grind
     grind
theorem ZjE {i : Nat} {σ : St} {a : Act} {w : World} {K : St → Prop} {K' : Act → World → Prop} {Q' : Exit → Act → World → Prop} (hR : R l n B σ a w)
  (h : ∀ σ a w, R l n B σ a w → K σ → K' a w) (hX : fin = true → i + 1 = ops.size → X σ → wpOp P ops Q' i K' a w) (hh : opS P l n ops fin X i K σ) : wpOp P ops Q' i K' a w := by
 have hX0 := hX
 obtain ⟨s, H⟩ := σ
 unfold opS at hh
 unfold wpOp
 split
 ·grind
 ·rename_i o ho
  simp only [ho] at hh
  rcases hh with ⟨ho', d, v, hd, hdn, hy, hK⟩ | ⟨hst, H', hS, hK⟩ | ⟨q1, q2, q3⟩
  rotate_left 2
  ·have := hX0 q1 q2 q3
   unfold wpOp at this
   simpa only [ho] using this
  ·have go : qV P l H o (ev s) v → o.wp P a w K' Q' := fun hv => by
    have := ZFY (B := B) ho' hd hdn hv a w hR Q'
    refine Oper.wp_mono (fun a' w' ⟨σ', e, hR'⟩ => ?_) this
    grind
   unfold YA at hy
   cases hg : o.guard with
   | none =>
    simp only [hg] at hy
    rw [if_pos (by simp [Region.wanted, hg])]
    grind
   | some gw =>
    obtain ⟨j, b⟩ := gw
    simp only [hg] at hy
    split at hy
    ·rename_i t ht
     have hyd : (yielded ops a.tmps j == some b) = t := by
      obtain ⟨m, S, hO, hn, hdf, hS, hex⟩ := hR.un
      exact ZiD hS ht
     cases t with
     | true =>
      rw [if_pos (by simp only [Region.wanted, hg]; exact hyd)]
      grind
     | false =>
      rw [if_neg (by simp only [Region.wanted, hg, hyd]; decide)]
      have := hy.2 rfl
      subst this
      rw [hd]
      exact h _ _ _ (R.undef hR hdn) hK
    grind
  ·have hg : o.guard = none := by
    cases hg : o.guard with
    | none => rfl
    | some _ => obtain ⟨dst, op, type, pos, after, guard⟩ := o; simp only at hg; subst hg; cases op <;> cases dst <;> simp [stB] at hst
   rw [if_pos (by simp [Region.wanted, hg])]
   refine .inl ?_
   have := Zdp (B := B) (ZB8 (n := n) (K := fun σ' => σ' = ⟨s, H'⟩) hst hS rfl) a w hR Q'
   refine Oper.wp_mono (fun a' w' ⟨σ', e, hR'⟩ => ?_) this
   grind
theorem Zhe {Q' : Exit → Act → World → Prop} {listed : Array Bool} (h : Region.ready .any ops listed = []) {a : Act} {w : World} (hq : Q' .normal a w) : ∀ fuel, wpAny P .any ops Q' fuel listed a w
 | 0 => ⟨h, hq⟩
 | _ + 1 => ⟨fun _ => hq, fun i hi => by rw [h] at hi; cases hi⟩
theorem ZdD {Q : St → Prop} {Q' : Exit → Act → World → Prop} (hQ : ∀ σ a w, R l n B σ a w → Q σ → Q' .normal a w) (hfin : fin = true → ∀ i, i + 1 < ops.size → Waits ops (ops.size - 1) i) (hX : fin = true → ∀ σ a w, R l n B σ a w → X σ → ∀ o, ops[ops.size - 1]? = some o → wpList P ops Q' [o] a w) :
  ∀ (fuel : Nat) (listed : Array Bool) (σ : St) (a : Act) (w : World), DC ops listed → R l n B σ a w → Zx9 P l n ops fin X Q fuel listed σ → wpAny P .any ops Q' fuel listed a w
 | 0, _, _, _, _, _, hR, h => ⟨h.1, hQ _ _ _ hR h.2⟩
 | fuel + 1, listed, σ, a, w, hD, hR, h => ⟨fun h0 => hQ _ _ _ hR (h.1 h0), fun i hi => ZjE hR (fun s' a' w' hR' hA => ZdD hQ hfin hX fuel _ s' a' w' (hD.ready hi) hR' hA) (fun q1 q2 q3 => by
  obtain ⟨h0, o, ho, hall⟩ := mem_ready.1 hi
  have e : ops.size - 1 = i := by omega
  have hw := hX q1 σ a w hR q3 o (by rw [e]; exact ho)
  have hrd : Region.ready .any ops (listed.setIfInBounds i true) = [] := by
   refine List.eq_nil_iff_forall_not_mem.2 fun j hj => ?_
   obtain ⟨j0, oj, hoj, _⟩ := mem_ready.1 hj
   have hjs : j < ops.size := (YD.1 hoj).1
   by_cases hji : i = j
   ·subst hji
    rcases Yo i listed.size with h' | h'
    ·simp [h'] at j0
    ·simp [YL h'] at j0
   ·rw [getD_set_ne true hji] at j0
    have h1 := hfin q1 j (by omega)
    rw [e] at h1
    exact hD.nowait hi j0 h1
  unfold wpOp
  simp only [ho]
  unfold wpList at hw
  split
  ·rename_i hwt
   rw [if_pos hwt] at hw
   exact hw.imp (Oper.wp_mono fun a' w' hq => Zhe hrd hq _) id
  ·rename_i hwt
   rw [if_neg hwt] at hw
   exact Zhe hrd hw _) (h.2 i hi)⟩
theorem DC.none (n : Nat) : DC ops (Array.replicate n false) := fun m om _ h => by
 rw [Ym] at h
 rcases Yo m n with h' | h'
 ·simp [h'] at h
 ·simp [Nat.not_lt.2 h'] at h
theorem Zma {id : Nat} {ops : List Oper} {σ : St} {Q : Exit → St → Prop} (hm : P.follows .mixedOrders = true) (hB : Region.lexB .any ops.toArray = true) (hq : ops.all (fun o => Zb9 o || stB o) = true) (hs : okS ops 0 ops = true)
  (h : Zjq P l n (ops.map (·.dst)) ops (Q .normal) σ) : AWp P l n B (.region id ops.toArray true) Q σ := by
 intro a w hR
 obtain ⟨s, H⟩ := σ
 simp only [Region.lexB, Bool.and_eq_true] at hB
 have hA := Zhn (P := P) (l := l) (n := n) (ops := ops.toArray) (K := Q .normal) (K0 := Q .normal) (m := 0) (fin := false) (X := fun _ => False) (fun k listed s H _ _ hB h => ⟨by simpa [Region.lexFrom] using hB, h⟩) (fun e => by cases e) (fun i j oi oj hij hi hj => by
   have := Zol hs hij (by simpa using hi) (by simpa using hj)
   simpa using this) ops 0 (Array.replicate ops.toArray.size false) s H hq (fun _ _ => Y4 _) (fun j _ h => by simp at h; simp [h]) (by simp) (DC.none _) (by simp) (by simpa using hB.2) (by simpa using h)
 have hR' : R l n B ⟨s, H⟩ a { w with drawn := w.drawn + 1 } := by
  obtain ⟨m, S, hO, hn, hdf, hS, hex⟩ := hR.un
  obtain ⟨h1, h2⟩ := hO.drew (w' := { w with drawn := w.drawn + 1 }) rfl rfl rfl rfl
  exact R.keep h1 hn hdf hS hex h2
 refine wp_region_any hm (ZdD (Q := Q .normal) (fin := false) (X := fun _ => False) (fun σ' a' w' hR'' hq' => ⟨_, hq', hR''⟩) (fun e => by cases e) (fun e => by cases e) _ _ _ a _ (DC.none _) hR' (by simpa using hA))
theorem Zo0 {id : Nat} {L : List Oper} {o : Oper} {σ : St} {QQ : Exit → Act → World → Prop} {X : St → Prop} (hm : P.follows .mixedOrders = true) (hB : Region.lexB .any (L ++ [o]).toArray = true) (hq : L.all (fun o => Zb9 o || stB o) = true) (hs : okS (L ++ [o]) 0 (L ++ [o]) = true)
  (hw : ∀ i, i < L.length → Waits (L ++ [o]).toArray L.length i) (h : Zjq P l n ((L ++ [o]).map (·.dst)) L X σ) (hX : ∀ σ a w, R l n B σ a w → X σ → wpList P (L ++ [o]).toArray QQ [o] a w) {a : Act} {w : World} (hR : R l n B σ a w) : (Code.region id (L ++ [o]).toArray true).wp P QQ a w := by
 obtain ⟨s, H⟩ := σ
 simp only [Region.lexB, Bool.and_eq_true] at hB
 have hfin : true = true → ∀ i, i + 1 < (L ++ [o]).toArray.size → Waits (L ++ [o]).toArray ((L ++ [o]).toArray.size - 1) i := fun _ i hi => by
  have := hw i (by simpa using hi)
  simpa using this
 have hA := Zhn (P := P) (l := l) (n := n) (ops := (L ++ [o]).toArray) (K := fun _ => False) (K0 := X) (m := 1) (fin := true) (X := X) (fun k listed s H hk hl hB h => by
   simp only [Region.lexFrom, Bool.and_eq_true] at hB
   have hr : k ∈ Region.ready .any (L ++ [o]).toArray listed := by simpa using hB.1.1
   refine ⟨fun h0 => (by rw [h0] at hr; cases hr), fun i hi => ?_⟩
   obtain ⟨h0, oi, hoi, _⟩ := mem_ready.1 hi
   have h1 := hl i h0
   have h2 : i < (L ++ [o]).toArray.size := (YD.1 hoi).1
   unfold opS
   simp only [hoi]
   refine .inr (.inr ?_)
   exact And.intro (by first | rfl | trivial) (And.intro (by omega) h)) hfin (fun i j oi oj hij hi hj => by
   have := Zol hs hij (by simpa using hi) (by simpa using hj)
   simpa using this) L 0 (Array.replicate (L ++ [o]).toArray.size false) s H hq (fun _ _ => Y4 _) (fun j _ h => by simp at h; simp [h]) (by simp) (DC.none _) (fun j hj => by simp [Yg hj]) (by simpa using hB.2) (by simpa using h)
 have hR' : R l n B ⟨s, H⟩ a { w with drawn := w.drawn + 1 } := by
  obtain ⟨m, S, hO, hn, hdf, hS, hex⟩ := hR.un
  obtain ⟨h1, h2⟩ := hO.drew (w' := { w with drawn := w.drawn + 1 }) rfl rfl rfl rfl
  exact R.keep h1 hn hdf hS hex h2
 refine wp_region_any hm (ZdD (Q := fun _ => False) (fin := true) (X := X) (fun σ' a' w' hR'' hq' => hq'.elim) hfin (fun _ σ a w hR hx o' ho' => ?_) _ _ _ a _ (DC.none _) hR' (by simpa using hA))
 have e : o' = o := by simpa using ho'.symm
 subst e
 exact hX σ a w hR hx
end
end Go.Eng
namespace Go.Eng
set_option linter.all false
open Go Go.RowKit
section
variable {P : Program} {T : Nat → Option TI} {r : Ren} {H H' : Hp} {g : Option Bool} {a : AT} {K : AV → AT → Prop}
def KR (r : Ren) (K : AV → AT → Prop) (y : AV) : Prop := ∃ v a', y = ren r v ∧ K v a'
theorem KR.mk {v : AV} {a : AT} (h : K v a) : KR r K (ren r v) := ⟨v, a, rfl, h⟩
theorem KR.mk' {v y : AV} {a : AT} (h : K v a) (e : y = ren r v) : KR r K y := ⟨v, a, e, h⟩
theorem Zwm {t : TypeId} {i : TI} (hi : TIok P t i) (h : (i.str || i.elm.isSome) = true) : nif P t = true := by
 rw [Bool.or_eq_true] at h
 unfold nif
 rcases h with h | h
 ·have := hi.str h
  unfold ZBV at this
  split at this
  ·rename_i hu _; rw [hu]
  ·cases this
 ·obtain ⟨e, he⟩ := YI.1 h
  obtain ⟨e1, e2⟩ := e
  have := (ZbZ (hi.elm _ he)).1
  rw [this]
theorem Zeq {t : TypeId} {i : TI} (hi : TIok P t i) (hH : ZiO r H H') (hg : ∀ b, g = some b → b = true) {x : AV} (h : ZlB i H x g a K) : ZeC P H' t (ren r x) (KR r K) := by
 unfold ZlB at h
 cases x <;> simp only at h <;> try exact h.elim
 case iptr cs off =>
  simp only [ren, ZeC, hi.agg, hi.siz]
  split at h
  ·rename_i he
   rw [he]
   split at h
   ·rename_i c h1 h2
    obtain ⟨e1, e2⟩ := ZhF _ _ _ h2
    have h1 := Yc h1
    rw [Yad] at e2
    exact ⟨by omega, by omega, .mk' h (by rw [e1, ren, Zez])⟩
   grind
  ·rename_i he
   rw [he]
   rw [Zby] at h
   simp only
   split at h
   ·rename_i c hc; simp only [hc]; exact .mk' h rfl
   grind
 case ptr k q off =>
  simp only [ren, ZeC, hi.agg, hi.siz]
  split at h
  ·rename_i hl
   obtain ⟨g1, g2, g3, g4, g5⟩ := hH.at hl
   refine ⟨g1, g2, ?_⟩
   rw [g5]
   split at h
   ·split at h
    ·rename_i he
     rw [he]
     split at h
     ·rename_i c h1 h2
      obtain ⟨e1, e2⟩ := ZhF _ _ _ h2
      have h1 := Yc h1
      rw [Yad] at e2
      exact ⟨by omega, by rw [ZaB]; omega, .mk' h (by rw [ren, Zbj, ZbB, e1])⟩
     grind
    ·rename_i he
     rw [he]
     rw [Zby] at h
     split at h
     ·rename_i c hc; simp only [ZdM, hc, YC]; exact .mk' h rfl
     grind
   ·split at h
    ·rename_i he
     rw [he]
     split at h
     ·rename_i c r' h1 h2
      have h1 := Yc h1
      have h2 := Ya h2
      have h3 : ZcM _ _ _ := Zaq hg h.1
      unfold ZcM at h3
      rw [h2] at h3
      have h4 := congrArg List.length h3
      rw [YU, Yad] at h4
      exact ⟨by omega, by rw [ZaB]; omega, .mk' h.2 (by rw [ren, Zbj, ZbB, h3])⟩
     grind
    ·rename_i he
     rw [he]
     split at h
     ·rename_i x
      have h3 : ZcM _ _ _ := Zaq hg h.1
      unfold ZcM at h3
      have e : (H k).cells[off]? = some x := by
       have := congrArg (fun l => l[0]?) h3
       grind
      simp only [ZdM, e, YC]
      exact .mk' h.2 rfl
     grind
   grind
  ·grind
theorem Zk6 {t : TypeId} {i : TI} (hi : TIok P t i) {f : Nat} {x : Nat × Nat × Bool} (h : nth i.fld f = some x) : fld P t f = some (x.1, x.2.1) ∧ ZD8 P t f = some x := by
 rw [Zby] at h; exact hi.fld f x h
theorem Zff {t : TypeId} {i : TI} (hi : TIok P t i) (hH : ZiO r H H') {f : Nat} {x : AV} (h : Zea i H f x a K) : ZaR P H' t f (ren r x) (KR r K) := by
 unfold Zea at h
 split at h
 ·rename_i o n b hf
  have e := (Zk6 hi hf).1
  split at h
  ·rename_i h1
   have h1 := Yc h1
   unfold ZaR
   rw [e]
   split at h
   ·simp only [ren]; exact ⟨by omega, .mk' h rfl⟩
   ·split at h
    ·rename_i hl
     obtain ⟨g1, g2, _⟩ := hH.at hl
     simp only [ren]; exact ⟨by omega, g1, g2, .mk' h rfl⟩
    grind
   grind
  grind
 grind
theorem Zim {t : TypeId} {i : TI} (hi : TIok P t i) {f : Nat} {x : AV} (h : ZkF i f x a K) : Zds P t f (ren r x) (KR r K) := by
 unfold ZkF at h
 rw [Zps]
 split at h
 ·rename_i o n cs hf
  rw [(Zk6 hi hf).2]
  split at h
  ·rename_i h1
   have h1 := Yc h1
   simp only [ren, ZEu]
   exact ⟨by omega, .mk' h (by rw [ren, Zbj, ZbB])⟩
  grind
 ·rename_i o n cs hf
  rw [(Zk6 hi hf).2]
  rw [Zby] at h
  split at h
  ·rename_i c hc
   simp only [ren, ZEu, ZdM, hc, YC]
   exact .mk' h rfl
  grind
 grind
theorem Zfm {t : TypeId} {i : TI} (hi : TIok P t i) (hH : ZiO r H H') (hg : ∀ b, g = some b → b = true) {x j : AV} (h : Zec i H x j g a K) : ZaJ P H' t (ren r x) (ren r j) (KR r K) := by
 unfold Zec at h
 split at h
 ·rename_i e sz k n he
  have he := hi.elm _ he
  split at h
  ·rename_i es e' q
   split at h
   ·rename_i h1 h2
    have h1 := Ya h1
    have h2 := Yc h2
    obtain ⟨h3, h4⟩ : Zv8 _ _ _ := Zaq hg h.1
    simp only [ren, ZaJ, he]
    refine ⟨h3, ?_⟩
    rw [h4]
    exact ⟨h1, by omega, .mk' h.2 rfl⟩
   grind
  ·rename_i k q off len o r'
   split at h
   ·rename_i hl h1 h2
    have h1 := Ya h1
    have h2 := Yc h2
    obtain ⟨g1, g2, g3, g4, g5⟩ := hH.at hl
    obtain ⟨h3, h4, h5⟩ : ZA9 _ _ _ _ _ := Zaq hg h.1
    simp only [ren, ZaJ, he]
    exact ⟨h3, h4, g1, g2, by rw [g4, h1], by omega, .mk' h.2 (by rw [ren, h5])⟩
   grind
  grind
 grind
theorem ZiF {t : TypeId} {i : TI} (hi : TIok P t i) (hg : ∀ b, g = some b → b = true) {x j : AV} (h : ZkT i x j g a K) : ZdP P t (ren r x) (ren r j) (KR r K) := by
 unfold ZkT at h
 split at h
 ·rename_i s k n b q
  split at h
  ·rename_i h1
   have h1 := Ya h1
   obtain ⟨h3, c, h4, h5⟩ : Zwo _ _ _ := Zaq hg h.1
   simp only [ren, ZdP]
   refine ⟨by rw [hi.kin]; exact h1, h3, ?_⟩
   rw [h4]
   exact .mk' h.2 (by rw [ren, h5])
  grind
 grind
theorem ZlD {op : BinOp} {k : IntKind} {x y : Int} (hg : ∀ b, g = some b → b = true) (h : ZGL op k x y g a K) : Znn op k x y (KR r K) := by
 unfold ZGL at h
 cases op <;> simp only at h <;> try exact h.elim
 all_goals simp only [Znn]
 case eql => exact .mk' h rfl
 case neq => exact .mk' h rfl
 case lss => exact .mk' h rfl
 case leq => exact .mk' h rfl
 case gtr => exact .mk' h rfl
 case geq => exact .mk' h rfl
 case add | sub | mul =>
  split at h
  ·have e : ZcL _ _ _ := Zaq hg h.1
   unfold ZcL at e
   rw [e]; exact .mk' h.2 rfl
  ·grind
 case and | or | xor =>
  split at h
  ·have e : EqI _ _ := Zaq hg h.1
   unfold EqI at e
   rw [e]; exact .mk' h.2 rfl
  ·grind
 case quo =>
  split at h
  ·have e : ZcL _ _ _ := Zaq hg h.2.1
   unfold ZcL at e
   rw [e]; exact ⟨Zaq hg h.1, .mk' h.2.2 rfl⟩
  ·grind
 case rem =>
  split at h
  ·have e : EqI _ _ := Zaq hg h.2.1
   unfold EqI at e
   rw [e]; exact ⟨Zaq hg h.1, .mk' h.2.2 rfl⟩
  ·grind
 case shr =>
  split at h
  ·have e : EqI _ _ := Zaq hg h.2.1
   unfold EqI at e
   rw [e]; exact ⟨Zaq hg h.1, .mk' h.2.2 rfl⟩
  ·grind
 case shl =>
  split at h
  ·have e : ZcL _ _ _ := Zaq hg h.2.1
   unfold ZcL at e
   rw [e]; exact ⟨Zaq hg h.1, .mk' h.2.2 rfl⟩
  ·grind
theorem ZlT {op : BinOp} {x y : ByteArray} (hg : ∀ b, g = some b → b = true) (h : ZGs op x y g a K) : Zqh op x y (KR r K) := by
 unfold ZGs at h
 cases op <;> simp only at h <;> try exact h.elim
 all_goals simp only [Zqh]
 case add => exact ⟨Zaq hg h.1, .mk' h.2 rfl⟩
 all_goals exact .mk' h rfl
theorem ZgI {neg : Bool} {x : AV} (hH : ZiO r H H') (h : ZBi H neg x a K) : Zjm H' neg (ren r x) (KR r K) := by
 unfold ZBi at h
 split at h
 ·simp only [ren, Zjm]; exact fun b => .mk' (h b) rfl
 ·rename_i es
  cases es with
  | nil => simp only [ren, Zjm]; exact fun b => .mk' (h b (fun e => absurd rfl e)) rfl
  | cons e es => simp only [ren, Zjm]; exact .mk' (h neg (fun _ => rfl)) rfl
 ·rename_i k q off n
  split at h
  ·rename_i hl
   obtain ⟨g1, g2, _⟩ := hH.at hl
   simp only [ren, Zjm]
   exact ⟨⟨g1, g2⟩, fun hn => .mk' (h neg (fun _ => rfl)) rfl, fun hn b => .mk' (h b (fun e => absurd hn e)) rfl⟩
  grind
 grind
theorem Zip : ∀ (ks : List Nat) (xs ys : List AV) (b : Bool), ZeL ks xs ys = some b → ZeL ks (Zan r xs) (Zan r ys) = some b
 | [], [], [], b, h => by simpa [Zan] using h
 | k :: ks, x :: xs, y :: ys, b, h => by
  cases x <;> cases y <;> simp only [ZeL] at h <;> try (cases h; done)
  rename_i x y
  simp only [Zan, ren, ZeL]
  split at h
  ·rename_i b1 b2 h1 h2
   simp only [h1, Zip ks xs ys _ h2]
   exact h
  ·cases h
 | [], [], _ :: _, b, h => by simp [ZeL] at h
 | [], _ :: _, _, b, h => by simp [ZeL] at h
 | _ :: _, [], _, b, h => by simp [ZeL] at h
 | _ :: _, x :: _, [], b, h => by cases x <;> simp [ZeL] at h
theorem Zw5 {H : Hp} {op : BinOp} {t : TypeId} {ny : Bool} {x : AV} {K : AV → Prop} : Zgw P H op t ny x .e0 K = (ny = true ∧ kin P t = 4 ∧ match op with | .eql => Zjm H false x K | .neq => Zjm H true x K | _ => False) := by
 unfold Zgw
 grind
theorem ZlZ {t : TypeId} {i : TI} (hi : TIok P t i) (hH : ZiO r H H') (hg : ∀ b, g = some b → b = true) {op : BinOp} {ny : Bool} {x y : AV} (h : ZG0 i H op ny x y g a K) : Zgw P H' op t ny (ren r x) (ren r y) (KR r K) := by
 unfold ZG0 at h
 split at h
 ·split at h
  ·rename_i hk
   simp only [ren, Zgw]
   exact ⟨ZD1 hk, ZlD hg h⟩
  grind
 ·simp only [ren, Zgw]; exact ZlT hg h
 ·split at h
  ·rename_i hk
   simp only [ren, Zgw]
   refine ⟨by rw [hi.kin]; exact Ya hk, ?_⟩
   split at h
   ·exact .mk' h rfl
   ·exact .mk' h rfl
   grind
  grind
 ·rename_i xs ys
  split at h
  ·rename_i ks hks
   split at h
   ·rename_i b hb
    simp only [ren, Zgw, ZrG, hi.eqt _ hks, Zip _ _ _ _ hb]
    split at h
    ·exact .mk' h rfl
    ·exact .mk' h rfl
    grind
   grind
  grind
 ·rw [show ren r .e0 = .e0 from by simp [ren], Zw5]
  split at h
  ·rename_i h5 h6
   refine ⟨rfl, by rw [hi.kin]; exact Ya h6, ?_⟩
   split at h
   ·exact ZgI hH h
   ·exact ZgI hH h
   grind
  grind
 grind
theorem ZpX {op : UnOp} {x : AV} (hg : ∀ b, g = some b → b = true) (h : tUn op x g a K) : vUn op (ren r x) (KR r K) := by
 unfold tUn at h
 split at h
 ·simp only [ren, vUn]; exact .mk' h rfl
 ·split at h
  ·have e : ZcL _ _ _ := Zaq hg h.1
   unfold ZcL at e
   simp only [ren, vUn]
   rw [e]; exact .mk' h.2 rfl
  grind
 ·split at h
  ·have e : EqI _ _ := Zaq hg h.1
   unfold EqI at e
   simp only [ren, vUn]
   rw [e]; exact .mk' h.2 rfl
  grind
 grind
theorem ZjN {s d : TypeId} {i j : TI} (hi : TIok P s i) (hj : TIok P d j) {x : AV} (hg : ∀ b, g = some b → b = true) (h : ZsQ i j x g a K) : ZeZ P s d (ren r x) (KR r K) := by
 unfold ZsQ at h
 split at h
 ·split at h
  ·rename_i k1 n a' k' k'' m r' e1 e2
   have e : ZcL _ _ _ := Zaq hg h.1
   unfold ZcL at e
   simp only [ren, ZeZ, hi.ik _ e1, hj.ik _ e2]
   rw [e]; exact .mk' h.2 rfl
  grind
 ·split at h
  ·rename_i e1 e2
   simp only [ren, ZeZ, ZdE (by rw [hi.kin]; exact Ya e1), ZdE (by rw [hj.kin]; exact Ya e2)]
   exact .mk' h rfl
  grind
 grind
theorem ZgT {d l : Nat} {o o' : Option AV} (h : SlB d o l) (ho : o' = o.map (ren r)) : bnd d o' = some l := by
 subst ho
 unfold SlB at h
 split at h
 ·simp [bnd, h]
 ·subst h
  simp [bnd, ren]
 grind
theorem Zis {t : TypeId} {i : TI} (hi : TIok P t i) (hH : ZiO r H H') (hg : ∀ b, g = some b → b = true) {x : AV} {lo hi' : Option AV} {mx : Bool} (h : Zky i H x lo hi' mx g a K) :
  Zc3 P H' t (ren r x) (lo.map (ren r)) (hi'.map (ren r)) mx (KR r K) := by
 unfold Zky at h
 split at h
 ·split at h
  ·split at h
   ·rename_i hk
    obtain ⟨h1, h2, h3, h4⟩ := h
    have b1 := ZgT (r := r) (Zaq hg h1) rfl
    have b2 := ZgT (r := r) (Zaq hg h2) rfl
    have b3 : SlS _ _ _ := Zaq hg h3
    simp only [ren, Zc3, b1, b2]
    exact ⟨by rw [hi.kin]; exact Ya hk, trivial, b3.1, b3.2, .mk' h4 rfl⟩
   grind
  ·split at h
   ·rename_i e sz es' r' he
    split at h
    ·rename_i h0
     have h0 := Yc h0
     obtain ⟨h1, h2, h3, h4, h5⟩ := h
     have b1 := ZgT (r := r) (Zaq hg h1) rfl
     have b2 := ZgT (r := r) (Zaq hg h2) rfl
     have b3 : SlS _ _ _ := Zaq hg h3
     have b4 : SlD _ _ _ _ _ := Zaq hg h4
     simp only [ren, Zc3, b1, b2, hi.elm _ he]
     exact ⟨trivial, by omega, b4.1, b3.1, b3.2, .mk' h5 (by rw [ren, b4.2])⟩
    grind
   grind
  ·split at h
   ·rename_i e sz o' n' r' he hl
    split at h
    ·rename_i h0 h00
     have h0 := Yc h0
     obtain ⟨g1, g2, g3, g4, g5⟩ := hH.at hl
     obtain ⟨h1, h2, h3, h4, h5⟩ := h
     have b1 := ZgT (r := r) (Zaq hg h1) rfl
     have b2 := ZgT (r := r) (Zaq hg h2) rfl
     have b3 : SlS _ _ _ := Zaq hg h3
     have b4 : SlR _ _ _ _ _ := Zaq hg h4
     simp only [ren, Zc3, b1, b2, hi.elm _ he]
     exact ⟨trivial, g1, g2, by omega, by rw [g4]; exact Ya h00, b3.1, b3.2, .mk' h5 (by rw [ren, b4.1, b4.2])⟩
    grind
   grind
  grind
 grind
theorem ZlO {t : TypeId} {i : TI} (hi : TIok P t i) (hH : ZiO r H H') (hg : ∀ b, g = some b → b = true) {x : AV} (h : ZG5 i H x g a K) : Zjp P H' t (ren r x) (KR r K) := by
 unfold ZG5 at h
 split at h
 ·split at h
  ·rename_i hk
   have e : EqI _ _ := Zaq hg h.1
   unfold EqI at e
   simp only [ren, Zjp, hi.kin]
   exact ⟨Ya hk, .mk' h.2 (by rw [ren, e])⟩
  grind
 ·split at h
  ·rename_i hk
   have e : EqI _ _ := Zaq hg h.1
   unfold EqI at e
   simp only [ren, Zjp, hi.kin]
   exact ⟨Ya hk, .mk' h.2 (by rw [ren, e])⟩
  grind
 ·split at h
  ·rename_i hk
   have e : EqI _ _ := Zaq hg h.1
   unfold EqI at e
   simp only [ren, Zjp, hi.kin]
   exact ⟨Ya hk, .mk' h.2 (by rw [ren, e])⟩
  grind
 ·split at h
  ·rename_i hk hl
   have e : EqI _ _ := Zaq hg h.1
   unfold EqI at e
   obtain ⟨g1, g2, _⟩ := hH.at hl
   simp only [ren, Zjp, hi.kin]
   exact ⟨Ya hk, g1, g2, .mk' h.2 (by rw [ren, e])⟩
  grind
 grind
theorem ZlS (hH : ZiO r H H') {x : AV} {y : Bool × List (List D)} (h : Zpp H x = some y) : ZlN H' (ren r x) = some y := by
 unfold Zpp at h
 split at h
 ·simp only [ren, ZlN]; exact h
 ·split at h
  ·rename_i k g _ _ q es hl he
   obtain ⟨g1, g2, g3, _, _⟩ := hH.at hl
   simp only [ren, ZlN]
   grind
  ·cases h
 ·cases h
theorem Zhv (q : Bool) (ds : List D) : ren r (meA q ds) = meA q ds := by
 unfold meA
 split <;> simp [ren, Zez]
theorem ZyH (ck q : Bool) (ds : List D) (ok : Bool) : ren r (lkV ck q ds ok) = lkV ck q ds ok := by
 unfold lkV
 cases ck
 ·exact Zhv q ds
 ·simp only [ren, Zan, Zhv]
theorem Zjy {t : TypeId} {i : TI} (hi : TIok P t i) (hH : ZiO r H H') (hg : ∀ b, g = some b → b = true) {x y : AV} {ck : Bool} (h : Zud i H x y ck g a K) : Zf6 P H' t (ren r x) (ren r y) ck (KR r K) := by
 unfold Zud at h
 split at h
 ·rename_i q z q' es s ok vs a' h1 h2
  split at h
  ·rename_i hq
   obtain ⟨e1, e2⟩ : ZoM _ _ _ _ _ := Zaq hg h.1
   simp only [Zf6, hi.mp _ h1, ZlS hH h2, ren]
   exact ⟨ZoE hq, .mk' h.2 (by rw [e1, e2, ZyH])⟩
  grind
 grind
theorem ZcI {x : AV} {vs : List AV} (h : Zbh x = some vs) (hx : ∀ f xs ys, x ≠ .fn (.yield f) xs ys) : Zbh (ren r x) = some (Zan r vs) := by
 cases x <;> simp only [Zbh, Ye] at h <;> try (cases h; done)
 case fn f xs ys =>
  subst h
  cases f with
  | yield i => exact absurd rfl (hx i xs ys)
  | _ => simp [ren, Zan, Zbh]
 all_goals (subst h; simp [ren, Zan, Zbh])
theorem ZfE {x : AV} (h : ZuC x = true) : ∀ f xs ys, x ≠ .fn (.yield f) xs ys := by
 rintro f xs ys rfl; cases h
theorem ZFG {t : TypeId} {i : TI} (hi : TIok P t i) {f o n : Nat} (h : plc i f = some (o, n)) : fld P t f = some (o, n) := by
 unfold plc at h
 split at h
 ·rename_i o' n' b hf
  simp only [Ye, Y7] at h
  obtain ⟨rfl, rfl⟩ := h
  exact (Zk6 hi hf).1
 ·cases h
theorem ZfV {t : TypeId} {i : TI} (hi : TIok P t i) : ∀ (ps : List (Nat × AV)) (z cs : List AV), (∀ p ∈ ps, ZuC p.2 = true) → Zog i z ps = some cs → ZcP (fld P t) (Zan r z) (ps.map fun p => (p.1, ren r p.2)) = some (Zan r cs)
 | [], z, cs, _, h => by
  simp only [Zog, Ye] at h
  subst h
  simp [ZcP]
 | (f, v) :: ps, z, cs, hn, h => by
  simp only [Zog] at h
  split at h
  ·rename_i off size vs hp hv
   split at h
   ·rename_i h1 h2
    have h1 := Ya h1
    have h2 := Yc h2
    have hv' := ZcI (r := r) hv (ZfE (hn (f, v) (Yw ..)))
    simp only [YE, ZcP, ZFG hi hp, hv', ZaB]
    rw [if_neg (by omega)]
    have := ZfV hi ps _ cs (fun p hp => hn p (Yq _ hp)) h
    rw [← this]
    simp only [Zcr, ZbB, Zbj]
   ·cases h
  ·cases h
theorem Zi2 {t : TypeId} {i : TI} (hi : TIok P t i) {parts : List (Nat × AV)} (hn : ∀ p ∈ parts, ZuC p.2 = true) (hz : ∀ z, i.zer = some z → Zan r z = z) (h : Zlw i parts a K) :
  ZdQ P t (parts.map fun p => (p.1, ren r p.2)) (KR r K) := by
 unfold Zlw at h
 split at h
 ·rename_i z h1 h2
  split at h
  ·rename_i cs hf
   have := ZfV (r := r) hi _ _ _ hn hf
   unfold ZdQ
   rw [hi.zer _ h2]
   rw [hz z h2] at this
   simp only [this]
   exact ⟨hi.str h1, .mk' h rfl⟩
  grind
 grind
theorem ZsB {x : AV} (h : x.flat = true) : ren r x = x := by cases x <;> first | (simp [ren]; done) | cases h
theorem ZcQ {z : List AV} (h : z.all AV.flat = true) : Zan r z = z := by
 induction z with
 | nil => simp [Zan]
 | cons x z ih =>
  simp only [Yaj, Bool.and_eq_true] at h
  rw [Zan, ZsB h.1, ih h.2]
theorem Zga {c x y : Operand} {ρ ρ' : Operand → AV} {t : Bool} (hc : ρ c = .d (.bool t)) (hc' : ρ' c = ren r (ρ c)) (hx : t = true → ρ' x = ren r (ρ x)) (hy : t = false → ρ' y = ren r (ρ y)) (h : tV T H (.pick c x y) ρ g a K) :
  vOp P H' (.pick c x y) ρ' (KR r K) := by
 simp only [tV, hc] at h
 rw [hc] at hc'
 simp only [ren] at hc'
 simp only [vOp, hc']
 rw [ZtQ] at h
 cases t
 ·exact .mk' h (by simp [hy rfl])
 ·exact .mk' h (by simp [hx rfl])
theorem Zju {ρ ρ' : Operand → AV} {xs : List Operand} (h : ∀ x ∈ xs, ρ' x = ren r (ρ x)) : xs.map ρ' = Zan r (xs.map ρ) := by
 rw [Zcx, Yam]
 exact YR h
theorem Zkr {ρ ρ' : Operand → AV} {o : Option Operand} (h : ∀ x, o = some x → ρ' x = ren r (ρ x)) : o.map ρ' = (o.map ρ).map (ren r) := by
 cases o with
 | none => rfl
 | some x => simp [h x rfl]
theorem Zik {r : Ren} {mx : Bool} {x y : AV} {a : AT} {K : AV → AT → Prop} (h : vMM mx x y (fun v => K v a)) : vMM mx (ren r x) (ren r y) (KR r K) := by
 unfold vMM at h
 split at h
 ·simp only [ren, vMM]; exact .mk' h rfl
 grind
theorem Zt9 (hT : TOk P T) (hH : ZiO r H H') (hg : ∀ b, g = some b → b = true) {op : Op} {ρ ρ' : Operand → AV} (hρ : ∀ x ∈ op.operands, ρ' x = ren r (ρ x)) (h : tV T H op ρ g a K) : vOp P H' op ρ' (KR r K) := by
 have get : ∀ {x : Operand}, x ∈ op.operands → ρ' x = ren r (ρ x) := fun hx => hρ _ hx
 cases op <;> simp only [tV] at h <;> try exact h.elim
 case move x => exact .mk' h (get (by simp [Op.operands]))
 case assign x => exact .mk' h (get (by simp [Op.operands]))
 case pick c x y =>
  split at h
  ·rename_i t hc
   exact Zga (a := a) (g := g) (T := T) (H := H) hc (get (by simp [Op.operands])) (fun _ => get (by simp [Op.operands])) (fun _ => get (by simp [Op.operands])) (by simp only [tV, hc]; exact h)
  ·grind
 case load t x =>
  split at h
  ·rename_i i hi; simp only [vOp]; rw [get (x := x) (by simp [Op.operands])]; exact Zeq (hT _ _ hi) hH hg h
  ·grind
 case fieldAddr t x f =>
  split at h
  ·rename_i i hi; simp only [vOp]; rw [get (x := x) (by simp [Op.operands])]; exact Zff (hT _ _ hi) hH h
  ·grind
 case field t x f =>
  split at h
  ·rename_i i hi; simp only [vOp]; rw [get (x := x) (by simp [Op.operands])]; exact Zim (hT _ _ hi) h
  ·grind
 case indexAddr t x j =>
  split at h
  ·rename_i i hi; simp only [vOp]; rw [get (x := x) (by simp [Op.operands]), get (x := j) (by simp [Op.operands])]; exact Zfm (hT _ _ hi) hH hg h
  ·grind
 case index t x j =>
  split at h
  ·rename_i i hi; simp only [vOp]; rw [get (x := x) (by simp [Op.operands]), get (x := j) (by simp [Op.operands])]; exact ZiF (hT _ _ hi) hg h
  ·grind
 case makeInterface t x =>
  split at h
  case h_2 => exact h.elim
  rename_i i hi
  have hn : (i.str || i.elm.isSome) = true → nif P t = true := Zwm (hT _ _ hi)
  simp only [vOp]
  rw [get (x := x) (by simp [Op.operands])]
  split at h
  ·rename_i xs h0 hx
   rw [hx]
   simp only [ren]
   split at h
   case h_2 => exact h.elim
   rename_i ds hd
   have e := ZhO hd
   subst e
   rw [Zez, hd]
   exact ⟨hn h0, .mk' h rfl⟩
  ·rename_i y h0 hx
   rw [hx]
   simp only [ren]
   exact ⟨hn h0, .mk' h rfl⟩
  ·exact h.elim
 case typeAssert x u t ok =>
  split at h
  case h_2 => exact h.elim
  rename_i i hi
  have hn : (i.str || i.elm.isSome) = true → nif P t = true := Zwm (hT _ _ hi)
  simp only [vOp]
  rw [get (x := x) (by simp [Op.operands])]
  split at h
  case h_2 => exact h.elim
  rename_i u ds q h0 hx
  rw [hx]
  simp only [ren]
  split at h
  case h_2 => exact h.elim
  rename_i v hu hv
  rw [hv]
  have hv' : ren r v = v := by
   cases q with
   | true => cases hv; simp only [ren, Zez]
   | false =>
    match ds, hv with
    | [d], hv => cases hv; simp only [ren]
  refine ⟨hn h0, Ya hu, .mk' h ?_⟩
  cases ok with
  | true => simp only [cond, ren, Zan, hv']
  | false => exact hv'.symm
 case extract x j =>
  simp only [vOp]
  rw [get (x := x) (by simp [Op.operands])]
  split at h
  ·rename_i vs hx
   rw [hx]
   simp only [ren, ZdM]
   rw [Zby] at h
   split at h
   ·rename_i y hy; rw [hy]; exact .mk' h rfl
   grind
  ·grind
 case binOp o t x y u =>
  split at h
  ·rename_i i hi; simp only [vOp]; rw [get (x := x) (by simp [Op.operands]), get (x := y) (by simp [Op.operands])]; exact ZlZ (hT _ _ hi) hH hg h
  ·grind
 case unOp o t x => simp only [vOp]; rw [get (x := x) (by simp [Op.operands])]; exact ZpX hg h
 case nilCheck x =>
  split at h
  ·rename_i k q off hx
   split at h
   ·rename_i hl
    simp only [vOp]
    rw [get (x := x) (by simp [Op.operands]), hx]
    obtain ⟨g1, g2, _, _, _⟩ := hH.at hl
    simp only [ren, ZvG]
    exact ⟨g1.symm ▸ rfl, g2, .mk' h (by simp [ren])⟩
   grind
  ·rename_i cs off hx
   simp only [vOp]
   rw [get (x := x) (by simp [Op.operands]), hx]
   simp only [ren, ZvG]
   exact .mk' h (by simp [ren])
  ·grind
 case convert s d x =>
  split at h
  ·rename_i i j hi hj; simp only [vOp]; rw [get (x := x) (by simp [Op.operands])]; exact ZjN (hT _ _ hi) (hT _ _ hj) hg h
  ·grind
 case makeFunc fn first caps =>
  have e1 : first.toList.map ρ' = Zan r (first.toList.map ρ) := Zju fun x hx => get (by simp only [Op.operands, Yau]; exact .inl (by simpa using hx))
  have e2 : caps.toList.map ρ' = Zan r (caps.toList.map ρ) := Zju fun x hx => get (by simp only [Op.operands, Yau]; exact .inr (by simpa using hx))
  simp only [vOp]
  rw [e1, e2]
  split at h
  ·grind
  ·rename_i hne
   refine .mk' h ?_
   cases fn <;> first | exact absurd rfl (hne _) | simp [ren]
 case slice t x lo hi mx =>
  split at h
  ·rename_i i hi'
   simp only [vOp]
   rw [get (x := x) (by simp [Op.operands]), Zkr (o := lo) (fun y hy => get (by subst hy; simp [Op.operands])), Zkr (o := hi) (fun y hy => get (by subst hy; simp [Op.operands]))]
   exact Zis (hT _ _ hi') hH hg h
  ·grind
 case build t parts =>
  split at h
  ·rename_i i hi hn
   simp only [vOp]
   have e : (parts.toList.map fun p => (p.1, ρ' p.2)) = (parts.toList.map fun p => (p.1, ρ p.2)).map fun p => (p.1, ren r p.2) := by
    rw [Yam]
    refine YR fun p hp => ?_
    simp only [Function.comp]
    rw [get (x := p.2) (by simp only [Op.operands, Yav, Yy]; exact ⟨p, hp, rfl⟩)]
   rw [e]
   refine Zi2 (hT _ _ hi) (fun p hp => ?_) (fun z hz => ZcQ ((hT _ _ hi).flt z hz)) h
   obtain ⟨q, hq, rfl⟩ := Yy.1 hp
   grind
  ·grind
 case lookup t x y ck =>
  split at h
  ·rename_i i hi; simp only [vOp]; rw [get (x := x) (by simp [Op.operands]), get (x := y) (by simp [Op.operands])]; exact Zjy (hT _ _ hi) hH hg h
  ·grind
 case call c =>
  split at h
  ·rename_i x t hc hx ht
   split at h
   ·rename_i i hi
    have e1 : c.args = #[x] := YS (by simpa using hx)
    have e2 : c.argTypes = #[t] := YS (by simpa using ht)
    simp only [vOp, hc, e1, e2]
    show 1 = 1 ∧ Zjp P H' t (ρ' x) (KR r K)
    rw [get (x := x) (by simp [Op.operands, Call.operands, hc, e1])]
    exact ⟨rfl, ZlO (hT _ _ hi) hH hg h⟩
   grind
  ·rename_i x y hc hx
   have e1 : c.args = #[x, y] := YS (by simpa using hx)
   simp only [vOp, hc, e1]
   show vMM false (ρ' x) (ρ' y) (KR r K)
   rw [get (x := x) (by simp [Op.operands, Call.operands, hc, e1]), get (x := y) (by simp [Op.operands, Call.operands, hc, e1])]
   exact Zik h
  ·rename_i x y hc hx
   have e1 : c.args = #[x, y] := YS (by simpa using hx)
   simp only [vOp, hc, e1]
   show vMM true (ρ' x) (ρ' y) (KR r K)
   rw [get (x := x) (by simp [Op.operands, Call.operands, hc, e1]), get (x := y) (by simp [Op.operands, Call.operands, hc, e1])]
   exact Zik h
  ·rename_i x y z hc hx
   have e1 : c.args = #[x, y, z] := YS (by simpa using hx)
   simp only [vOp, hc, e1]
   show ZrK true (ρ' x) (ρ' y) (ρ' z) (KR r K)
   rw [get (x := x) (by simp [Op.operands, Call.operands, hc, e1]), get (x := y) (by simp [Op.operands, Call.operands, hc, e1]), get (x := z) (by simp [Op.operands, Call.operands, hc, e1])]
   unfold ZrK at h
   split at h
   ·rename_i h1 h2 h3
    rw [h1, h2, h3]
    simp only [ren, ZrK]; exact .mk' h rfl
   grind
  ·grind
end
end Go.Eng
