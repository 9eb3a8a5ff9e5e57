/-
  Reckoning by the kernel, part Q: regions. Guarded operations are reckoned as if they were carried out; what they yield is used only where their guard stands.
-/
import Derived.Test.YthagpbkmakocjaaEngP
namespace Go.Eng
set_option linter.all false
open Go Go.RowKit

/-! ### The chain of guards under which a slot has been written -/
abbrev Chain := List (Nat × Bool)
abbrev Env := List (Nat × Chain)
def lk : Env → Nat → Chain
  | [], _ => []
  | (i, c) :: r, j => match Nat.beq i j with | true => c | false => lk r j
def beqB (t : Bool) : Bool → Bool
  | true => t
  | false => !t
theorem beqB_true {t b : Bool} : beqB t b = true ↔ t = b := by cases t <;> cases b <;> simp [beqB]
def chEq : Chain → Chain → Bool
  | [], [] => true
  | (i, a) :: r, (j, b) :: q => Nat.beq i j && beqB a b && chEq r q
  | _, _ => false
theorem chEq_eq : ∀ {a b : Chain}, chEq a b = true → a = b
  | [], [], _ => rfl
  | (i, a) :: r, (j, b) :: q, h => by
    simp only [chEq, Bool.and_eq_true] at h
    rw [Nat.eq_of_beq_eq_true h.1.1, beqB_true.1 h.1.2, chEq_eq h.2]
  | [], _ :: _, h => by simp [chEq] at h
  | _ :: _, [], h => by simp [chEq] at h
def sufx (a : Chain) : Chain → Bool
  | [] => chEq a []
  | q :: b => chEq a (q :: b) || sufx a b
theorem sufx_mem {a : Chain} : ∀ {b : Chain}, sufx a b = true → ∀ q ∈ a, q ∈ b
  | [], h, q, hq => by rw [chEq_eq h] at hq; exact hq
  | p :: b, h, q, hq => by
    simp only [sufx, Bool.or_eq_true] at h
    rcases h with h | h
    · rw [chEq_eq h] at hq; exact hq
    · exact List.mem_cons_of_mem _ (sufx_mem h q hq)

def satC (s : Nat → AV) (c : Chain) : Prop := ∀ q ∈ c, s q.1 = .d (.bool q.2)
def chainB (s : Nat → AV) : Chain → Option Bool
  | [] => some true
  | [(d, b)] => match s d with | .d (.bool t) => some (beqB t b) | _ => none
  | (d, b) :: r => match s d, chainB s r with | .d (.bool t), some c => some (c && beqB t b) | _, _ => none
theorem chainB_sat {s : Nat → AV} : ∀ {c : Chain} {g : Bool}, chainB s c = some g → (g = true ↔ satC s c)
  | [], g, h => by simp only [chainB, Option.some.injEq] at h; subst h; simp [satC]
  | [(d, b)], g, h => by
    simp only [chainB] at h
    split at h
    · rename_i t ht
      simp only [Option.some.injEq] at h
      subst h
      rw [beqB_true]
      simp [satC, ht]
    · cases h
  | (d, b) :: q :: r, g, h => by
    simp only [chainB] at h
    split at h
    · rename_i t c ht hc
      simp only [Option.some.injEq] at h
      subst h
      have ih := chainB_sat hc
      rw [Bool.and_eq_true, ih, beqB_true]
      constructor
      · rintro ⟨h1, rfl⟩ p hp
        rcases List.mem_cons.1 hp with rfl | hp
        · exact ht
        · exact h1 p hp
      · intro h1
        refine ⟨fun p hp => h1 p (List.mem_cons_of_mem _ hp), ?_⟩
        have := h1 (d, b) (List.mem_cons_self ..)
        simp only [ht] at this
        injection this with this
        injection this
    · cases h
def notIn (e : Nat) (c : Chain) : Bool := c.all fun q => !Nat.beq q.1 e
def fresh (e : Nat) (env : Env) : Bool := env.all fun p => notIn e p.2
theorem satC_upd {s : Nat → AV} {e : Nat} {v : AV} {c : Chain} (h : notIn e c = true) : satC (upd s e v) c ↔ satC s c := by
  have key : ∀ q ∈ c, upd s e v q.1 = s q.1 := fun q hq => by
    have := List.all_eq_true.1 h q hq
    unfold upd
    rw [if_neg]
    intro he
    subst he
    simp at this
  constructor
  · exact fun h q hq => (key q hq) ▸ h q hq
  · exact fun h q hq => (key q hq).trans (h q hq)
theorem fresh_lk {e : Nat} : ∀ {env : Env}, fresh e env = true → ∀ j, notIn e (lk env j) = true
  | [], _, j => rfl
  | (i, c) :: r, h, j => by
    simp only [fresh, List.all_cons, Bool.and_eq_true] at h
    simp only [lk]
    split
    · exact h.1
    · exact fresh_lk h.2 j
theorem lk_cons {env : Env} {e : Nat} {c : Chain} (j : Nat) : lk ((e, c) :: env) j = if j = e then c else lk env j := by
  simp only [lk]
  by_cases h : j = e
  · subst h; simp
  · rw [if_neg h]
    split
    · rename_i h'; exact absurd (Nat.eq_of_beq_eq_true h').symm h
    · rfl

def chk (env : Env) (c : Chain) : Operand → Bool
  | .tmp t => sufx (lk env t) c
  | _ => true
def chkOp (env : Env) (c : Chain) : Op → Bool
  | .pick (.tmp d) x y => chk env c (.tmp d) && chk env ((d, true) :: c) x && chk env ((d, false) :: c) y
  | op => op.operands.toList.all (chk env c)

/-! ### What a local state stands for -/
structure RenOk (r : Ren) (l outs : Nat) : Prop where
  own : ∀ d, r.κ (1, d) = (l + 1, d)
  out : ∀ i, i < outs → (r.κ (0, i)).1 ≤ l
  inj : ∀ i j, i < outs → j < outs → r.κ (0, i) = r.κ (0, j) → i = j
  no : ∀ k, r.no k → ∃ i, i < outs ∧ r.κ (0, i) = k

structure RG (r : Ren) (l outs : Nat) (env : Env) (τ σ : St) : Prop where
  s : ∀ j, (satC τ.s (lk env j) → σ.s j = ren r (τ.s j)) ∧ (¬ satC τ.s (lk env j) → σ.s j = .tup [])
  h : HRel r τ.H σ.H
  g : ∀ d, (σ.H (l + 1, d)).g = r.γ (1, d) + (τ.H (1, d)).g
  go : ∀ i, i < outs → (σ.H (r.κ (0, i))).g = r.γ (0, i) + (τ.H (0, i)).g
  k : ∀ k, (τ.H k).live = true → k.1 = 1 ∨ (k.1 = 0 ∧ k.2 < outs)
  o : ∀ k : Key, k.1 ≤ l → ¬ r.no k → σ.H k = r.H0 k

/-- a call that leaves the memory as it is -/
def CallS (P : Program) (l : Nat) (r : Ren) (f : FuncId) (xs : List AV) (hb : List (Key × Blk)) (x : AV) : Prop :=
  ∀ H', (∀ p ∈ hb, p.2.live = true → H' (r.κ p.1) = renB r p.1 p.2) → (∀ k : Key, k.1 ≤ l → ¬ r.no k → H' k = r.H0 k) → ACall P f (l + 1) (rens r xs) H' (fun y H'' => y = ren r x ∧ H'' = H')
/-- a call of a function value that came in -/
def CallF (P : Program) (l : Nat) (r : Ren) (i : Nat) (xs : List AV) (hb : List (Key × Blk)) (x : AV) : Prop :=
  ∃ f first caps, r.θ i = .fn (.func f) first caps ∧ ∀ H', (∀ p ∈ hb, p.2.live = true → H' (r.κ p.1) = renB r p.1 p.2) → (∀ k : Key, k.1 ≤ l → ¬ r.no k → H' k = r.H0 k) → ACall P f (l + 1) (first ++ rens r xs ++ caps) H' (fun y H'' => y = ren r x ∧ H'' = H')

def pCall (P : Program) (l : Nat) (r : Ren) (H : Hp) (f : AV) (xs : List AV) (g : Option Bool) (a : AT) (K : AV → AT → Prop) : Prop :=
  match f, a with
  | .fn (.func i) first caps, .call x ks a => sdP g (CallS P l r i (first ++ xs ++ caps) (ks.map fun k => (k, H k)) x) ∧ K x a
  | .fn (.yield i) _ _, .call x ks a => sdP g (CallF P l r i xs (ks.map fun k => (k, H k)) x) ∧ K x a
  | _, _ => False

/-- a slice of pure data that is written out -/
def bsV (T : Nat → Option TI) (τ : St) (t : TypeId) (len : Nat) (parts : List (Nat × Operand)) (a : AT) (K : AV → AT → Prop) : Prop :=
  match T t with
  | some i => (match i.elm with
    | some (e, sz) => (match Nat.ble 1 sz, len with
      | true, 0 => (match parts with | [] => K .e0 a | _ => False)
      | true, len + 1 => (match T e, Nat.ble ((len + 1) * sz) 16777216 with
        | some j, true => (match j.zer with
          | some z => (match Nat.beq z.length sz, litD sz 0 (parts.map fun p => (p.1, ev τ.s p.2)) with
            | true, some es => (match Nat.beq es.length (len + 1) with | true => K (.d (.list es)) a | false => False)
            | _, _ => False)
          | none => False)
        | _, _ => False)
      | _, _ => False)
    | none => False)
  | none => False
/-- an operation that writes nothing, calls too -/
def pV (P : Program) (T : Nat → Option TI) (l : Nat) (r : Ren) (τ : St) (op : Op) (g : Option Bool) (a : AT) (K : AV → AT → Prop) : Prop :=
  match op with
  | .call c => match c.callee with
    | .value f => pCall P l r τ.H (ev τ.s f) (c.args.toList.map (ev τ.s)) g a K
    | _ => tV T τ.H op (ev τ.s) g a K
  | .buildSlice t len parts => bsV T τ t len parts.toList a K
  | op => tV T τ.H op (ev τ.s) g a K

def put1 (n d : Nat) (K : St → AT → Prop) (τ : St) (v : AV) (a : AT) : Prop :=
  match Nat.ble (d + 1) n with
  | true => K ⟨upd τ.s d v, τ.H⟩ a
  | false => False

section
variable {P : Program} {T : Nat → Option TI} {r : Ren} {l n outs : Nat} {env : Env} {τ σ : St} {g : Option Bool} {a : AT} {c : Chain}

theorem RG.rel0 (h : RG r l outs env τ σ) (h0 : ∀ j, lk env j = []) (j : Nat) : σ.s j = ren r (τ.s j) := (h.s j).1 (by rw [h0]; intro q hq; cases hq)

theorem cv_ren (v : Value) : ren r (cv v) = cv v := by unfold cv; split <;> simp [ren]
theorem ev_ren (h : RG r l outs env τ σ) (hs : satC τ.s c) {x : Operand} (hx : chk env c x = true) : ev σ.s x = ren r (ev τ.s x) := by
  cases x with
  | tmp t => exact (h.s t).1 fun q hq => hs q (sufx_mem hx q hq)
  | const v => exact (cv_ren v).symm
  | global g => simp [ev, ren]
  | func f => simp [ev, ren, rens]

theorem chk_all (h : RG r l outs env τ σ) (hs : satC τ.s c) {op : Op} (hx : op.operands.toList.all (chk env c) = true) : ∀ x ∈ op.operands, ev σ.s x = ren r (ev τ.s x) :=
  fun x hm => ev_ren h hs (List.all_eq_true.1 hx x (by simpa using hm))

/-- an operation that writes nothing, where it is wanted -/
theorem pV_vOp (hT : TOk P T) (h : RG r l outs env τ σ) (hs : satC τ.s c) (hg : ∀ b, g = some b → b = true) {op : Op} (hx : chkOp env c op = true) {K : AV → AT → Prop} (hp : tV T τ.H op (ev τ.s) g a K) :
    vOp P σ.H op (ev σ.s) (KR r K) := by
  unfold chkOp at hx
  split at hx
  · rename_i d x y
    simp only [Bool.and_eq_true] at hx
    obtain ⟨⟨h1, h2⟩, h3⟩ := hx
    have hp' := hp
    simp only [tV] at hp'
    split at hp'
    · rename_i t ht
      have h0 := ev_ren h hs h1
      refine tPick_sound (T := T) (H := τ.H) (g := g) (a := a) ht h0 (fun e => ev_ren h (c := (d, true) :: c) ?_ h2) (fun e => ev_ren h (c := (d, false) :: c) ?_ h3) hp
      all_goals
        subst e
        intro q hq
        rcases List.mem_cons.1 hq with rfl | hq
        · exact ht
        · exact hs q hq
    · exact hp'.elim
  · exact tV_sound hT h.h hg (chk_all h hs hx) hp

theorem call_real (h : RG r l outs env τ σ) (hs : satC τ.s c) (hg : ∀ b, g = some b → b = true) {cl : Call} {f : Operand} (hc : cl.callee = .value f) (hx : chkOp env c (.call cl) = true) {K : AV → AT → Prop}
    (hp : pCall P l r τ.H (ev τ.s f) (cl.args.toList.map (ev τ.s)) g a K) :
    ∃ i first caps x a', ev σ.s f = .fn (.func i) first caps ∧ ACall P i (l + 1) (first ++ cl.args.toList.map (ev σ.s) ++ caps) σ.H (fun y H' => y = ren r x ∧ H' = σ.H) ∧ K x a' := by
  have hx : (Op.call cl).operands.toList.all (chk env c) = true := hx
  have hf := chk_all h hs hx f (by simp [Op.operands, Call.operands, hc])
  have ha : cl.args.toList.map (ev σ.s) = rens r (cl.args.toList.map (ev τ.s)) := map_ren fun x hm => chk_all h hs hx x (by simp only [Op.operands, Call.operands, hc, Array.mem_append]; exact .inr (by simpa using hm))
  have hb : ∀ ks : List Key, ∀ p ∈ ks.map fun k => (k, τ.H k), p.2.live = true → σ.H (r.κ p.1) = renB r p.1 p.2 := fun ks p hp hl => by
    obtain ⟨k, hk, rfl⟩ := List.mem_map.1 hp
    exact h.h k hl
  unfold pCall at hp
  split at hp
  · rename_i i first caps x ks a' he
    have h1 : CallS _ _ _ _ _ _ _ := sdP_get hg hp.1
    refine ⟨i, rens r first, rens r caps, x, a', by rw [hf, he]; simp [ren], ?_, hp.2⟩
    rw [ha, ← rens_app, ← rens_app]
    exact h1 σ.H (hb ks) h.o
  · rename_i i xs ys x ks a' he
    obtain ⟨f', first, caps, h2, h3⟩ : CallF _ _ _ _ _ _ _ := sdP_get hg hp.1
    refine ⟨f', first, caps, x, a', by rw [hf, he]; simp [ren, h2], ?_, hp.2⟩
    rw [ha]
    exact h3 σ.H (hb ks) h.o
  · exact hp.elim

/-- a slot is written -/
theorem RG.put (h : RG r l outs env τ σ) {e : Nat} {ch : Chain} (hf : fresh e env = true) (hn : notIn e ch = true) {v : AV} {y : AV} (hy : satC τ.s ch → y = ren r v) (hno : ¬ satC τ.s ch → y = .tup []) :
    RG r l outs ((e, ch) :: env) ⟨upd τ.s e v, τ.H⟩ ⟨upd σ.s e y, σ.H⟩ := by
  refine ⟨fun j => ?_, h.h, h.g, h.go, h.k, h.o⟩
  simp only
  rw [lk_cons]
  by_cases hj : j = e
  · subst hj
    rw [if_pos rfl, satC_upd hn]
    simp only [upd, if_true]
    exact ⟨hy, hno⟩
  · rw [if_neg hj, satC_upd (fresh_lk hf j)]
    simp only [upd, if_neg hj]
    exact h.s j
end
end Go.Eng
