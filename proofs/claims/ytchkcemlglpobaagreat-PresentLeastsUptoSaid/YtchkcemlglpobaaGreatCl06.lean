import Derived.Test.YtchkcemlglpobaaGreatCl05
import Derived.Test.YtchkcemlglpobaaGreatCl01
import Derived.Maps.RangeRun
import Derived.Test.YtchkcemlglpobaaGreatCl03
import Derived.Test.YtchkcemlglpobaaGreatCl00
namespace Go.Eng
set_option linter.all false
open Go Go.RowKit
abbrev Zdj := List (Nat × Bool)
abbrev Env := List (Nat × Zdj)
def lk : Env → Nat → Zdj
 | [], _ => []
 | (i, c) :: r, j => match Nat.beq i j with | true => c | false => lk r j
def ZEj (t : Bool) : Bool → Bool
 | true => t
 | false => !t
theorem ZfF {t b : Bool} : ZEj t b = true ↔ t = b := by cases t <;> cases b <;> simp [ZEj]
def ZwX : Zdj → Zdj → Bool
 | [], [] => true
 | (i, a) :: r, (j, b) :: q => Nat.beq i j && ZEj a b && ZwX r q
 | _, _ => false
theorem Zj3 : ∀ {a b : Zdj}, ZwX a b = true → a = b
 | [], [], _ => rfl
 | (i, a) :: r, (j, b) :: q, h => by
  simp only [ZwX, Bool.and_eq_true] at h
  rw [Ya h.1.1, ZfF.1 h.1.2, Zj3 h.2]
 | [], _ :: _, h => by simp [ZwX] at h
 | _ :: _, [], h => by simp [ZwX] at h
def ZHf (a : Zdj) : Zdj → Bool
 | [] => ZwX a []
 | q :: b => ZwX a (q :: b) || ZHf a b
theorem Zlq {a : Zdj} : ∀ {b : Zdj}, ZHf a b = true → ∀ q ∈ a, q ∈ b
 | [], h, q, hq => by rw [Zj3 h] at hq; exact hq
 | p :: b, h, q, hq => by
  simp only [ZHf, Bool.or_eq_true] at h
  rcases h with h | h
  ·rw [Zj3 h] at hq; exact hq
  ·exact Yq _ (Zlq h q hq)
def ZgV (s : Nat → AV) (c : Zdj) : Prop := ∀ q ∈ c, s q.1 = .d (.bool q.2)
def Zej (s : Nat → AV) : Zdj → Option Bool
 | [] => some true
 | [(d, b)] => match s d with | .d (.bool t) => some (ZEj t b) | _ => none
 | (d, b) :: r => match s d, Zej s r with | .d (.bool t), some c => some (c && ZEj t b) | _, _ => none
theorem ZcE {s : Nat → AV} : ∀ {c : Zdj} {g : Bool}, Zej s c = some g → (g = true ↔ ZgV s c)
 | [], g, h => by simp only [Zej, Ye] at h; subst h; simp [ZgV]
 | [(d, b)], g, h => by
  simp only [Zej] at h
  split at h
  ·rename_i t ht
   simp only [Ye] at h
   subst h
   rw [ZfF]
   simp [ZgV, ht]
  ·cases h
 | (d, b) :: q :: r, g, h => by
  simp only [Zej] at h
  split at h
  ·rename_i t c ht hc
   simp only [Ye] at h
   subst h
   have ih := ZcE hc
   rw [Bool.and_eq_true, ih, ZfF]
   constructor
   ·rintro ⟨h1, rfl⟩ p hp
    rcases Ys.1 hp with rfl | hp
    ·exact ht
    ·exact h1 p hp
   ·intro h1
    refine ⟨fun p hp => h1 p (Yq _ hp), ?_⟩
    have := h1 (d, b) (Yw ..)
    grind
  ·cases h
def Zl9 (e : Nat) (c : Zdj) : Bool := c.all fun q => !Nat.beq q.1 e
def fresh (e : Nat) (env : Env) : Bool := env.all fun p => Zl9 e p.2
theorem Zk8 {s : Nat → AV} {e : Nat} {v : AV} {c : Zdj} (h : Zl9 e c = true) : ZgV (upd s e v) c ↔ ZgV s c := by
 have key : ∀ q ∈ c, upd s e v q.1 = s q.1 := fun q hq => by
  have := Yh.1 h q hq
  unfold upd
  rw [if_neg]
  intro he
  subst he
  simp at this
 constructor
 ·exact fun h q hq => (key q hq) ▸ h q hq
 ·exact fun h q hq => (key q hq).trans (h q hq)
theorem ZkX {e : Nat} : ∀ {env : Env}, fresh e env = true → ∀ j, Zl9 e (lk env j) = true
 | [], _, j => rfl
 | (i, c) :: r, h, j => by
  simp only [fresh, Yaj, Bool.and_eq_true] at h
  simp only [lk]
  split
  ·exact h.1
  ·exact ZkX h.2 j
theorem Zj2 {env : Env} {e : Nat} {c : Zdj} (j : Nat) : lk ((e, c) :: env) j = if j = e then c else lk env j := by
 simp only [lk]
 by_cases h : j = e
 ·subst h; simp
 ·rw [if_neg h]
  split
  ·rename_i h'; exact absurd (Ya h').symm h
  ·rfl
def chk (env : Env) (c : Zdj) : Operand → Bool
 | .tmp t => ZHf (lk env t) c
 | _ => true
def Zcj (env : Env) (c : Zdj) : Op → Bool
 | .pick (.tmp d) x y => chk env c (.tmp d) && chk env ((d, true) :: c) x && chk env ((d, false) :: c) y
 | op => op.operands.toList.all (chk env c)
structure RenOk (r : Ren) (l outs : Nat) : Prop where
 own : ∀ d, r.κ (1, d) = (l + 1, d)
 out : ∀ i, i < outs → (r.κ (0, i)).1 ≤ l
 inj : ∀ i j, i < outs → j < outs → r.κ (0, i) = r.κ (0, j) → i = j
 no : ∀ k, r.no k → ∃ i, i < outs ∧ r.κ (0, i) = k
structure RG (r : Ren) (l outs : Nat) (env : Env) (τ σ : St) : Prop where
 s : ∀ j, (ZgV τ.s (lk env j) → σ.s j = ren r (τ.s j)) ∧ (¬ ZgV τ.s (lk env j) → σ.s j = .tup [])
 h : ZiO r τ.H σ.H
 g : ∀ d, (σ.H (l + 1, d)).g = r.γ (1, d) + (τ.H (1, d)).g
 go : ∀ i, i < outs → (σ.H (r.κ (0, i))).g = r.γ (0, i) + (τ.H (0, i)).g
 k : ∀ k, (τ.H k).live = true → k.1 = 1 ∨ (k.1 = 0 ∧ k.2 < outs)
 o : ∀ k : Key, k.1 ≤ l → ¬ r.no k → σ.H k = r.H0 k
def Zhs (P : Program) (l : Nat) (r : Ren) (f : FuncId) (xs : List AV) (hb : List (Key × Blk)) (x : AV) : Prop :=
 ∀ H', (∀ p ∈ hb, p.2.live = true → H' (r.κ p.1) = ZaZ r p.1 p.2) → (∀ k : Key, k.1 ≤ l → ¬ r.no k → H' k = r.H0 k) → ZbY P f (l + 1) (Zan r xs) H' (fun y H'' => y = ren r x ∧ H'' = H')
def Zp2 (P : Program) (l : Nat) (r : Ren) (i : Nat) (xs : List AV) (hb : List (Key × Blk)) (x : AV) : Prop :=
 ∃ f first caps, r.θ i = .fn (.func f) first caps ∧ ∀ H', (∀ p ∈ hb, p.2.live = true → H' (r.κ p.1) = ZaZ r p.1 p.2) → (∀ k : Key, k.1 ≤ l → ¬ r.no k → H' k = r.H0 k) → ZbY P f (l + 1) (first ++ Zan r xs ++ caps) H' (fun y H'' => y = ren r x ∧ H'' = H')
def ZsS (P : Program) (l : Nat) (r : Ren) (H : Hp) (f : AV) (xs : List AV) (g : Option Bool) (a : AT) (K : AV → AT → Prop) : Prop :=
 match f, a with
 | .fn (.func i) first caps, .call x ks a => sdP g (Zhs P l r i (first ++ xs ++ caps) (ks.map fun k => (k, H k)) x) ∧ K x a
 | .fn (.yield i) _ _, .call x ks a => sdP g (Zp2 P l r i xs (ks.map fun k => (k, H k)) x) ∧ K x a
 | _, _ => False
def bsV (T : Nat → Option TI) (τ : St) (t : TypeId) (len : Nat) (parts : List (Nat × Operand)) (a : AT) (K : AV → AT → Prop) : Prop :=
 match T t with
 | some i => (match i.elm with
  | some (e, sz) => (match Nat.ble 1 sz, len with
   | true, 0 => (match parts with | [] => K .e0 a | _ => False)
   | true, len + 1 => (match T e, Nat.ble ((len + 1) * sz) 16777216 with
    | some j, true => (match j.zer with
     | some z => (match Nat.beq z.length sz, Zmu sz 0 (parts.map fun p => (p.1, ev τ.s p.2)) with
      | true, some es => (match Nat.beq es.length (len + 1) with | true => K (.d (.list es)) a | false => False)
      | _, _ => False)
     | none => False)
    | _, _ => False)
   | _, _ => False)
  | none => False)
 | none => False
def pV (P : Program) (T : Nat → Option TI) (l : Nat) (r : Ren) (τ : St) (op : Op) (g : Option Bool) (a : AT) (K : AV → AT → Prop) : Prop :=
 match op with
 | .call c => match c.callee with
  | .value f => ZsS P l r τ.H (ev τ.s f) (c.args.toList.map (ev τ.s)) g a K
  | _ => tV T τ.H op (ev τ.s) g a K
 | .buildSlice t len parts => bsV T τ t len parts.toList a K
 | op => tV T τ.H op (ev τ.s) g a K
def ZlC (n d : Nat) (K : St → AT → Prop) (τ : St) (v : AV) (a : AT) : Prop :=
 match Nat.ble (d + 1) n with
 | true => K ⟨upd τ.s d v, τ.H⟩ a
 | false => False
section
variable {P : Program} {T : Nat → Option TI} {r : Ren} {l n outs : Nat} {env : Env} {τ σ : St} {g : Option Bool} {a : AT} {c : Zdj}
theorem ZDw (v : Value) : ren r (cv v) = cv v := by unfold cv; split <;> simp [ren]
theorem Zgh (h : RG r l outs env τ σ) (hs : ZgV τ.s c) {x : Operand} (hx : chk env c x = true) : ev σ.s x = ren r (ev τ.s x) := by
 cases x with
 | tmp t => exact (h.s t).1 fun q hq => hs q (Zlq hx q hq)
 | const v => exact (ZDw v).symm
 | global g => simp [ev, ren]
 | func f => simp [ev, ren, Zan]
theorem ZcF (h : RG r l outs env τ σ) (hs : ZgV τ.s c) {op : Op} (hx : op.operands.toList.all (chk env c) = true) : ∀ x ∈ op.operands, ev σ.s x = ren r (ev τ.s x) :=
 fun x hm => Zgh h hs (Yh.1 hx x (by simpa using hm))
theorem ZuL (hT : TOk P T) (h : RG r l outs env τ σ) (hs : ZgV τ.s c) (hg : ∀ b, g = some b → b = true) {op : Op} (hx : Zcj env c op = true) {K : AV → AT → Prop} (hp : tV T τ.H op (ev τ.s) g a K) :
  vOp P σ.H op (ev σ.s) (KR r K) := by
 unfold Zcj at hx
 split at hx
 ·rename_i d x y
  simp only [Bool.and_eq_true] at hx
  obtain ⟨⟨h1, h2⟩, h3⟩ := hx
  have hp' := hp
  simp only [tV] at hp'
  split at hp'
  ·rename_i t ht
   have h0 := Zgh h hs h1
   refine Zga (T := T) (H := τ.H) (g := g) (a := a) ht h0 (fun e => Zgh h (c := (d, true) :: c) ?_ h2) (fun e => Zgh h (c := (d, false) :: c) ?_ h3) hp
   all_goals
    subst e
    intro q hq
    rcases Ys.1 hq with rfl | hq
    ·exact ht
    ·exact hs q hq
  grind
 ·exact Zt9 hT h.h hg (ZcF h hs hx) hp
theorem Zgg (h : RG r l outs env τ σ) (hs : ZgV τ.s c) (hg : ∀ b, g = some b → b = true) {cl : Call} {f : Operand} (hc : cl.callee = .value f) (hx : Zcj env c (.call cl) = true) {K : AV → AT → Prop}
  (hp : ZsS P l r τ.H (ev τ.s f) (cl.args.toList.map (ev τ.s)) g a K) :
  ∃ i first caps x a', ev σ.s f = .fn (.func i) first caps ∧ ZbY P i (l + 1) (first ++ cl.args.toList.map (ev σ.s) ++ caps) σ.H (fun y H' => y = ren r x ∧ H' = σ.H) ∧ K x a' := by
 have hx : (Op.call cl).operands.toList.all (chk env c) = true := hx
 have hf := ZcF h hs hx f (by simp [Op.operands, Call.operands, hc])
 have ha : cl.args.toList.map (ev σ.s) = Zan r (cl.args.toList.map (ev τ.s)) := Zju fun x hm => ZcF h hs hx x (by simp only [Op.operands, Call.operands, hc, Yau]; exact .inr (by simpa using hm))
 have hb : ∀ ks : List Key, ∀ p ∈ ks.map fun k => (k, τ.H k), p.2.live = true → σ.H (r.κ p.1) = ZaZ r p.1 p.2 := fun ks p hp hl => by
  obtain ⟨k, hk, rfl⟩ := Yy.1 hp
  exact h.h k hl
 unfold ZsS at hp
 split at hp
 ·rename_i i first caps x ks a' he
  have h1 : Zhs _ _ _ _ _ _ _ := Zaq hg hp.1
  refine ⟨i, Zan r first, Zan r caps, x, a', by rw [hf, he]; simp [ren], ?_, hp.2⟩
  rw [ha, ← Zcr, ← Zcr]
  exact h1 σ.H (hb ks) h.o
 ·rename_i i xs ys x ks a' he
  obtain ⟨f', first, caps, h2, h3⟩ : Zp2 _ _ _ _ _ _ _ := Zaq hg hp.1
  refine ⟨f', first, caps, x, a', by rw [hf, he]; simp [ren, h2], ?_, hp.2⟩
  rw [ha]
  exact h3 σ.H (hb ks) h.o
 grind
theorem RG.put (h : RG r l outs env τ σ) {e : Nat} {ch : Zdj} (hf : fresh e env = true) (hn : Zl9 e ch = true) {v : AV} {y : AV} (hy : ZgV τ.s ch → y = ren r v) (hno : ¬ ZgV τ.s ch → y = .tup []) :
  RG r l outs ((e, ch) :: env) ⟨upd τ.s e v, τ.H⟩ ⟨upd σ.s e y, σ.H⟩ := by
 refine ⟨fun j => ?_, h.h, h.g, h.go, h.k, h.o⟩
 simp only
 rw [Zj2]
 by_cases hj : j = e
 ·subst hj
  rw [if_pos rfl, Zk8 hn]
  simp only [upd, if_true]
  grind
 ·rw [if_neg hj, Zk8 (ZkX hf j)]
  simp only [upd, if_neg hj]
  exact h.s j
end
end Go.Eng
namespace Go.Eng
set_option linter.all false
open Go Go.RowKit
section
variable {P : Program} {l n : Nat} {H : Hp} {m : Mu} {S : Nat → Prop} {w w' : World} {s : Nat → AV} {a : Act}
theorem Ok.allocO (h : Ok l H m S w) (k : Key) (hk : k.1 ≤ l) (b : Blk) (hbe : b.e.isO = true) (hbc : b.cells = []) (hg : (H k).g < b.g) (o : Obj) (hw : w'.heap = w.heap.push o)
  (hE : ZuA w' S w.heap.size b.e) (h1 : w'.os = w.os) (h2 : w'.tape = w.tape) (h3 : w'.output = w.output) :
  Ok l (updH H k b) (ZcK m k ⟨w.heap.size, 0, 0⟩) S w' ∧ Ext l H m S w (updH H k b) (ZcK m k ⟨w.heap.size, 0, 0⟩) S w' := by
 have hold : ∀ i, i < w.heap.size → w'.heap[i]? = w.heap[i]? := fun i hi => by rw [hw, Yac, if_neg (by omega)]
 have hext : Ext l H m S w (updH H k b) (ZcK m k ⟨w.heap.size, 0, 0⟩) S w' := by
  refine ⟨fun _ h => h, fun i hi => hold i (h.sub i hi), fun q hq => ?_, fun q hq hgq hl => ?_, h1, h2, h3, by rw [hw]; simp⟩
  ·by_cases e : q = k
   ·subst e; rw [Zab]; omega
   ·rw [Zac _ _ e]; exact Yd _
  ·by_cases e : q = k
   ·subst e; rw [Zab] at hgq; omega
   ·rw [Zac _ _ e] at hl ⊢; rw [Zal _ _ e]; exact ⟨hl, rfl, rfl⟩
 have hlt : ∀ q : Key, q.1 ≤ l → (H q).live = true → (m q).cap ≠ 0 → (m q).b < w.heap.size := fun q hq hl hc' => by
  obtain ⟨C, hb, _⟩ := h.blk q hq hl hc'
  grind
 have hlo : ∀ q : Key, q.1 ≤ l → (H q).live = true → (H q).e.isO = true → (m q).b < w.heap.size := fun q hq hl hc' => by
  obtain ⟨C, hb, _⟩ := (h.mp.o q hq hl).at hc'
  grind
 refine ⟨⟨fun i hi => ?_, fun q hq hl hz => ?_, fun q hq hl hz => ?_, fun q q' hq hq' hl hl' hz hz' heq => ?_, fun q hq hl hz => ?_,
  ⟨fun q hq hl => ?_, fun q hq hl he => ?_, fun q q' hq hq' hl hl' he he' heq => ?_⟩⟩, hext⟩
 ·have := h.sub i hi; rw [hw]; simp; omega
 ·by_cases e : q = k
  ·subst e; rw [Zab]; exact hbc
  ·rw [Zac _ _ e] at hl ⊢; rw [Zal _ _ e] at hz; exact h.empty q hq hl hz
 ·by_cases e : q = k
  ·subst e; rw [Zae] at hz; exact absurd rfl hz
  ·rw [Zac _ _ e] at hl; rw [Zal _ _ e] at hz ⊢; exact h.fresh q hq hl hz
 ·by_cases e : q = k
  ·subst e; rw [Zae] at hz; exact absurd rfl hz
  ·by_cases e' : q' = k
   ·subst e'; rw [Zae] at hz'; exact absurd rfl hz'
   ·rw [Zal _ _ e, Zal _ _ e'] at heq
    rw [Zac _ _ e] at hl; rw [Zac _ _ e'] at hl'
    rw [Zal _ _ e] at hz; rw [Zal _ _ e'] at hz'
    exact h.inj q q' hq hq' hl hl' hz hz' heq
 ·by_cases e : q = k
  ·subst e; rw [Zae] at hz; exact absurd rfl hz
  ·rw [Zac _ _ e] at hl ⊢
   rw [Zal _ _ e] at hz ⊢
   obtain ⟨C, hb, hs, hle, hx⟩ := h.blk q hq hl hz
   refine ⟨C, by rw [hold _ (hlt q hq hl hz)]; exact hb, hs, hle, fun i x v hi hv => ?_⟩
   obtain ⟨g1, g2⟩ := hx i x v hi hv
   exact ⟨g1, g2.ext hext hq⟩
 ·by_cases e : q = k
  ·subst e; rw [Zab, Zae]; exact hE
  ·rw [Zac _ _ e] at hl ⊢; rw [Zal _ _ e]
   exact (h.mp.o q hq hl).mono (fun _ h => h) (fun i hi => hold i (h.sub i hi)) (fun ho => hold _ (hlo q hq hl ho))
 ·by_cases e : q = k
  ·subst e; rw [Zae]; exact ⟨⟨rfl, rfl⟩, fun hs => by have := h.sub _ hs; simp at this⟩
  ·rw [Zac _ _ e] at hl he; rw [Zal _ _ e]; exact h.mp.c q hq hl he
 ·by_cases e : q = k <;> by_cases e' : q' = k
  ·grind
  ·subst e
   rw [Zae, Zal _ _ e'] at heq
   rw [Zac _ _ e'] at hl' he'
   grind
  ·subst e'
   rw [Zae, Zal _ _ e] at heq
   rw [Zac _ _ e] at hl he
   grind
  ·rw [Zal _ _ e, Zal _ _ e'] at heq
   rw [Zac _ _ e] at hl he; rw [Zac _ _ e'] at hl' he'
   exact h.mp.i q q' hq hq' hl hl' he he' heq
theorem Ok.writeO (h : Ok l H m S w) (k : Key) (hk : k.1 ≤ l) (hl : (H k).live = true) (hO : (H k).e.isO = true) (e' : EK) (he' : e'.isO = true) (o : Obj)
  (hw : ∀ b, w'.heap[b]? = if b = (m k).b then some o else w.heap[b]?) (hsz : w'.heap.size = w.heap.size) (hE : ZuA w' S (m k).b e') (h1 : w'.os = w.os) (h2 : w'.tape = w.tape) (h3 : w'.output = w.output) :
  Ok l (updH H k { H k with e := e' }) m S w' ∧ Ext l H m S w (updH H k { H k with e := e' }) m S w' := by
 obtain ⟨c1, c2⟩ := h.mp.c k hk hl hO
 have hext : Ext l H m S w (updH H k { H k with e := e' }) m S w' := by
  refine ⟨fun _ h => h, fun b hb => ?_, fun q hq => ?_, fun q hq hg hl' => ?_, h1, h2, h3, by omega⟩
  ·grind
  ·by_cases e : q = k
   ·subst e; rw [Zab]; exact Yd _
   ·rw [Zac _ _ e]; exact Yd _
  ·by_cases e : q = k
   ·subst e; rw [Zab] at hl' ⊢; exact ⟨hl', rfl, rfl⟩
   ·rw [Zac _ _ e] at hl' ⊢; exact ⟨hl', rfl, rfl⟩
 have f : ∀ q : Key, (updH H k { H k with e := e' } q).live = (H q).live := fun q => by
  by_cases e : q = k
  ·subst e; rw [Zab]
  ·rw [Zac _ _ e]
 have g : ∀ q : Key, (H q).e.isO = (updH H k { H k with e := e' } q).e.isO := fun q => by
  by_cases e : q = k
  ·subst e; rw [Zab]; exact hO.trans he'.symm
  ·rw [Zac _ _ e]
 refine ⟨⟨fun b hb => ?_, fun q hq hl' hz => ?_, fun q hq hl' hz => ?_, fun q q' hq hq' hl' hl'' hz hz' heq => ?_, fun q hq hl' hz => ?_,
  ⟨fun q hq hl' => ?_, fun q hq hl' he => ?_, fun q q' hq hq' hl' hl'' he he' heq => ?_⟩⟩, hext⟩
 ·rw [hsz]; exact h.sub b hb
 ·rw [f] at hl'
  have := h.empty q hq hl' hz
  by_cases e : q = k
  ·subst e; rw [Zab]; exact this
  ·rw [Zac _ _ e]; exact this
 ·rw [f] at hl'; exact h.fresh q hq hl' hz
 ·rw [f] at hl' hl''; exact h.inj q q' hq hq' hl' hl'' hz hz' heq
 ·rw [f] at hl'
  by_cases e : q = k
  ·grind
  ·rw [Zac _ _ e]
   obtain ⟨C, hb, hs, hle, hx⟩ := h.blk q hq hl' hz
   have hne : (m q).b ≠ (m k).b := fun e2 => by
    obtain ⟨o', p1, p2⟩ := (h.mp.o k hk hl).at hO
    rw [e2, p1] at hb; cases hb; cases p2
   refine ⟨C, by rw [hw, if_neg hne]; exact hb, hs, hle, fun i x v hi hv => ?_⟩
   obtain ⟨g1, g2⟩ := hx i x v hi hv
   exact ⟨g1, g2.ext hext hq⟩
 ·rw [f] at hl'
  by_cases e : q = k
  ·subst e; rw [Zab]; exact hE
  ·rw [Zac _ _ e]
   refine (h.mp.o q hq hl').mono (fun _ h => h) hext.blk (fun ho => ?_)
   rw [hw, if_neg (fun e2 => e (h.mp.i q k hq hk hl' hl ho hO e2))]
 ·rw [f] at hl'; rw [← g] at he; exact h.mp.c q hq hl' he
 ·rw [f] at hl' hl''; rw [← g] at he he'; exact h.mp.i q q' hq hq' hl' hl'' he he' heq
theorem MEnt.mod {q : Bool} {es : List (List D)} {ents : Array MapEntry} {clock j : Nat} {s : ByteArray} {ds : List D} {x : MapEntry} {v : Value} (h : MEnt w S q es ents clock) (hx : ents[j]? = some x) (hv : VR w S q ds v) :
  MEnt w S q (es.set j (.str s :: ds)) (ents.modify j fun e => { e with key := .string s, val := v }) clock := by
 have at_ : ∀ (i : Nat) (y : MapEntry), (ents.modify j fun e => { e with key := .string s, val := v })[i]? = some y → ∃ z, ents[i]? = some z ∧ y = if j = i then { z with key := .string s, val := v } else z := fun i y hy => by
  grind
 have brn : ∀ (i : Nat) (z : MapEntry), (if j = i then ({ z with key := .string s, val := v } : MapEntry) else z).born = z.born := fun i z => by split <;> rfl
 refine ⟨by simp [h.n], fun i k y z hy hz e => ?_, fun i y hy => ?_, fun i e y hi hy => ?_⟩
 ·obtain ⟨y', a1, rfl⟩ := at_ i y hy
  obtain ⟨z', b1, rfl⟩ := at_ k z hz
  rw [brn, brn] at e
  exact h.born i k _ _ a1 b1 e
 ·obtain ⟨y', a1, rfl⟩ := at_ i y hy
  rw [brn]; exact h.clk i _ a1
 ·obtain ⟨y', a1, rfl⟩ := at_ i y hy
  by_cases e2 : j = i
  ·subst e2
   rw [if_pos rfl]
   have hlt : j < es.length := by rw [← h.n]; exact ZbC a1
   rw [YaW, if_pos rfl, if_pos hlt] at hi
   cases hi
   exact ⟨s, ds, rfl, rfl, hv⟩
  ·rw [if_neg e2]
   rw [YaW, if_neg e2] at hi
   exact h.e i e _ hi a1
theorem MEnt.push {q : Bool} {es : List (List D)} {ents : Array MapEntry} {clock : Nat} {s : ByteArray} {ds : List D} {v : Value} (h : MEnt w S q es ents clock) (hv : VR w S q ds v) :
  MEnt w S q (es ++ [.str s :: ds]) (ents.push { key := .string s, val := v, born := clock }) (clock + 1) := by
 have at_ : ∀ (i : Nat) (y : MapEntry), (ents.push { key := .string s, val := v, born := clock })[i]? = some y → (i = ents.size ∧ y = { key := .string s, val := v, born := clock }) ∨ (i ≠ ents.size ∧ ents[i]? = some y) := fun i y hy => by
  grind
 refine ⟨by simp [h.n], fun i k y z hy hz e => ?_, fun i y hy => ?_, fun i e y hi hy => ?_⟩
 ·rcases at_ i y hy with ⟨rfl, rfl⟩ | ⟨a1, a2⟩ <;> rcases at_ k z hz with ⟨rfl, rfl⟩ | ⟨b1, b2⟩
  ·rfl
  ·have := h.clk k z b2; simp only at e; omega
  ·have := h.clk i y a2; simp only at e; omega
  ·exact h.born i k y z a2 b2 e
 ·rcases at_ i y hy with ⟨rfl, rfl⟩ | ⟨a1, a2⟩
  ·grind
  ·exact Nat.lt_succ_of_lt (h.clk i y a2)
 ·rcases at_ i y hy with ⟨rfl, rfl⟩ | ⟨a1, a2⟩
  ·rw [h.n, Yk (Yd _), Nat.sub_self] at hi
   cases hi
   exact ⟨s, ds, rfl, rfl, hv⟩
  ·have hlt : i < es.length := by rw [← h.n]; exact ZbC a2
   rw [Yg hlt] at hi
   exact h.e i e y hi a2
theorem MEnt.del {q : Bool} {es : List (List D)} {ents : Array MapEntry} {clock j : Nat} (h : MEnt w S q es ents clock) (hj : j < ents.size) : MEnt w S q (es.eraseIdx j) (ents.eraseIdxIfInBounds j) clock := by
 have hto : (ents.eraseIdxIfInBounds j).toList = ents.toList.eraseIdx j := by
  unfold Array.eraseIdxIfInBounds
  rw [dif_pos hj, Array.toList_eraseIdx]
 have at_ : ∀ (i : Nat) (y : MapEntry), (ents.eraseIdxIfInBounds j)[i]? = some y → ents[if i < j then i else i + 1]? = some y := fun i y hy => by
  grind
 have inj_ : ∀ i k : Nat, (if i < j then i else i + 1) = (if k < j then k else k + 1) → i = k := fun i k => by split <;> split <;> omega
 refine ⟨?_, fun i k y z hy hz e => inj_ i k (h.born _ _ _ _ (at_ i y hy) (at_ k z hz) e), fun i y hy => h.clk _ _ (at_ i y hy), fun i e y hi hy => ?_⟩
 ·have := congrArg List.length hto
  rw [YQ, List.length_eraseIdx, YQ, if_pos hj] at this
  rw [this, List.length_eraseIdx, if_pos (by rw [← h.n]; exact hj), h.n]
 ·refine h.e _ e y ?_ (at_ i y hy)
  grind
theorem ZdX {α : Type} (f : α → Nat) (g : α → Bool) : ∀ (L : List α), (∀ (i j : Nat) (x y : α), L[i]? = some x → L[j]? = some y → f x = f y → i = j) → ∀ (i : Nat) (x : α), (L.filter g)[i]? = some x → L.filter (fun y => g y && !(f y == f x)) = (L.filter g).eraseIdx i
 | [], _, i, x, h => by simp at h
 | y :: L, hd, i, x, h => by
  have hd' : ∀ (i j : Nat) (x y : α), L[i]? = some x → L[j]? = some y → f x = f y → i = j := fun i j x z hi hj e => YaK (hd (i + 1) (j + 1) x z (by simpa using hi) (by simpa using hj) e)
  have hy : ∀ z ∈ L, f y ≠ f z := fun z hz e => by
   obtain ⟨j, hj⟩ := YF.1 hz
   have := hd 0 (j + 1) y z rfl (by simpa using hj) e
   omega
  by_cases hg : g y = true
  ·rw [Ybb hg] at h ⊢
   cases i with
   | zero =>
    simp only [YG, Ye] at h
    subst h
    rw [YaB (by simp), List.eraseIdx_cons_zero]
    apply List.filter_congr
    grind
   | succ i =>
    rw [YY] at h
    have hx : x ∈ L := (YX.1 (Yj h)).1
    rw [Ybb (by simp [hg, hy x hx]), YaA, ZdX f g L hd' i x h]
  ·rw [YaB hg] at h ⊢
   rw [YaB (by simp [hg])]
   exact ZdX f g L hd' i x h
end
section
variable {P : Program} {l n : Nat} {B : Base} {H H' : Hp} {m m' : Mu} {S S' : Nat → Prop} {w w' : World} {s : Nat → AV} {a : Act} {K : St → Prop} {o : Oper}
def Zzm : Bool → AV → Option (List D)
 | true, .agg xs => Zdg xs
 | false, x => (Zeh x).map fun d => [d]
 | _, _ => none
theorem Zlh {x : AV} {d : D} {v : Value} (h : Zeh x = some d) (hx : RepA w S H m l x v) : RepD w S d v := by
 cases x <;> simp only [Zeh] at h <;> try (cases h; done)
 case d x => cases h; cases hx with | d _ _ hd => exact hd
 case e0 => cases h; cases hx.e0_d with | d _ _ hd => exact hd
theorem Zin : ∀ (xs : List AV) (ds : List D) (vs : List Value), Zdg xs = some ds → xs.length = vs.length → (∀ (i : Nat) (x : AV) (v : Value), xs[i]? = some x → vs[i]? = some v → RepA w S H m l x v) → ds.length = vs.length ∧ ∀ (i : Nat) (d : D) (v : Value), ds[i]? = some d → vs[i]? = some v → RepD w S d v
 | [], ds, [], h, _, _ => by simp only [Zdg, Ye] at h; subst h; exact ⟨rfl, fun i d v hi => by simp at hi⟩
 | x :: xs, ds, v :: vs, h, hl, hr => by
  simp only [Zdg] at h
  split at h
  ·rename_i d ds' h1 h2
   cases h
   obtain ⟨a1, a2⟩ := Zin xs ds' vs h2 (YaK hl) (fun i x v hx hv => hr (i + 1) x v (by simpa using hx) (by simpa using hv))
   refine ⟨by simp [a1], fun i d' u hi hu => ?_⟩
   cases i with
   | zero => cases hi; cases hu; exact Zlh h1 (hr 0 x _ rfl rfl)
   | succ i => exact a2 i d' u (by simpa using hi) (by simpa using hu)
  ·cases h
 | [], _, _ :: _, _, h, _ => by cases h
 | _ :: _, _, [], _, h, _ => by cases h
theorem Zsa {q : Bool} {x : AV} {ds : List D} {v : Value} (h : Zzm q x = some ds) (hx : RepA w S H m l x v) : VR w S q ds v := by
 cases q with
 | true =>
  cases x <;> simp only [Zzm] at h <;> try (cases h; done)
  case agg xs =>
   cases hx with
   | agg _ vs hl h1 h2 =>
    obtain ⟨a1, a2⟩ := Zin xs ds vs.toList h (by simpa using hl) (fun i x v hx hv => h2 i x v hx (by simpa using hv))
    exact .inl ⟨rfl, vs, rfl, by simpa using a1.symm, fun j d u hd hu => a2 j d u hd (by simpa using hu)⟩
 | false =>
  have h : (Zeh x).map (fun d => [d]) = some ds := by cases x <;> exact h
  obtain ⟨d, h1, rfl⟩ := YT.1 h
  exact .inr ⟨rfl, d, rfl, Zlh h1 hx⟩
def ZGx (l n d : Nat) (e : EK) (x : Nat → AV) (K : St → Prop) (σ : St) : Prop :=
 d < n ∧ K ⟨upd σ.s d (x ((σ.H (l + 1, d)).g + 1)), updH σ.H (l + 1, d) ⟨(σ.H (l + 1, d)).g + 1, true, e, 0, []⟩⟩
theorem ZjO {t : TypeId} {rs : Option Operand} {d : Nat} {q : Bool} (ho : o.op = .makeMap t rs) (hd : o.dst = some d) (hu : ∃ k e, P.underlying t = some (.map k e)) (hr : ∀ x, rs = some x → ∃ k i, ev s x = .d (.int k i))
  (hK : ZGx l n d (.m q []) (fun g => .mp (l + 1, d) g) K ⟨s, H⟩) : AOp P l n B o K ⟨s, H⟩ := by
 intro a w hR Q
 obtain ⟨m, S, hO, hn, hdf, hS, he⟩ := hR.un
 obtain ⟨kt, et, hu⟩ := hu
 have hrun : (execOp a.eval o).run P w = .ok (.value (.map (some w.heap.size))) (w.alloc (.map #[] 0)) := by
  simp only [execOp, ho]
  cases rs with
  | none => simp [Instr.makeMap]
  | some x =>
   obtain ⟨k, i, hx⟩ := hr x rfl
   have hx' := Zbi hS x
   rw [hx] at hx'
   have hx2 : a.eval x = .int k i := by
    generalize a.eval x = v at hx'
    cases hx' with | d _ _ hd => cases hd; rfl
   simp [Instr.makeMap, run_underlying hu, asInt, asIntOf, hx2]
 obtain ⟨k1, k2⟩ := hO.allocO (l + 1, d) (Yd _) ⟨(H (l + 1, d)).g + 1, true, .m q [], 0, []⟩ rfl rfl (YP _) (.map #[] 0) (w' := w.alloc (.map #[] 0)) rfl
  ⟨#[], 0, by rw [ZdZ, if_pos rfl], ⟨rfl, fun i j x y h => by simp at h, fun i x h => by simp at h, fun i e x h => by simp at h⟩⟩ rfl rfl rfl
 refine Zau hrun ?_
 rw [hd]
 refine ⟨_, hK.2, R.step k1 hn hdf hS he k2 hK.1 ?_⟩
 have := RepA.mpL (w := w.alloc (.map #[] 0)) (S := S) (H := updH H (l + 1, d) ⟨(H (l + 1, d)).g + 1, true, .m q [], 0, []⟩) (m := ZcK m (l + 1, d) ⟨w.heap.size, 0, 0⟩) (l := l + 1) (l + 1, d) (Yd _) (by rw [Zab])
 rw [Zab, Zae] at this
 exact this
theorem Zb5 {w : World} {r : Nat} {es0 : Array MapEntry} {c0 : Nat} (h : w.heap[r]? = some (.map es0 c0)) (o' : Obj) : (setObj r o').run P w = .ok () (ChangeMaps.setBlock w r o') := by
 simp [setObj, Sem.run, h, ChangeMaps.setBlock]
theorem ZaK {w : World} {r : Nat} {o1 : Obj} (h : w.heap[r]? = some o1) (o' : Obj) (b : Nat) : (ChangeMaps.setBlock w r o').heap[b]? = if b = r then some o' else w.heap[b]? := by
 have hlt := ZbC h
 simp only [ChangeMaps.setBlock, Y5]
 grind
theorem Ziw (a b : ByteArray) (h : a = b) : (Instr.keyThatStays (.string a) (.string b)).run P w = .ok (.string b) w := by
 subst h
 have : Instr.sameBits 10000 (.string a) (.string a) = true := by simp only [Instr.sameBits, ZjZ, decide_true]
 simp [Instr.keyThatStays, this]
theorem ZqM {t : TypeId} {q : Bool} {z : List D} {k : Key} {es : List (List D)} {sk : ByteArray} {ds : List D} {v : Value} (hT : Zvt P t = some (q, z)) (hO : Ok (l + 1) H m S w) (hk : k.1 ≤ l + 1) (hl : (H k).live = true) (he : (H k).e = .m q es) (hv : VR w S q ds v) :
  ∃ w', (Instr.mapUpdate t (.map (some (m k).b)) (.string sk) v).run P w = .ok () w' ∧ Ok (l + 1) (updH H k { H k with e := .m q (Zh9 sk ds es) }) m S w' ∧ Ext (l + 1) H m S w (updH H k { H k with e := .m q (Zh9 sk ds es) }) m S w' := by
 obtain ⟨kt, et, hu, hkt, _, _⟩ := Zgu hT
 have ho := hO.mp.o k hk hl
 rw [he] at ho
 obtain ⟨ents, clock, h1, h2⟩ := ho
 have hIs : (H k).e.isO = true := by rw [he]; rfl
 obtain ⟨hc1, hc2⟩ := hO.mp.c k hk hl hIs
 have fin : ∀ (ents' : Array MapEntry) (clock' : Nat), MEnt w S q (Zh9 sk ds es) ents' clock' → Ok (l + 1) (updH H k { H k with e := .m q (Zh9 sk ds es) }) m S (ChangeMaps.setBlock w (m k).b (.map ents' clock')) ∧ Ext (l + 1) H m S w (updH H k { H k with e := .m q (Zh9 sk ds es) }) m S (ChangeMaps.setBlock w (m k).b (.map ents' clock')) := fun ents' clock' hm =>
  hO.writeO k hk hl hIs (.m q (Zh9 sk ds es)) rfl (.map ents' clock') (ZaK h1 _) (by simp [ChangeMaps.setBlock])
   ⟨ents', clock', by rw [ZaK h1]; simp, hm.mono (fun _ h => h) (fun b hb => by rw [ZaK h1, if_neg]; rintro rfl; exact hc2 hb)⟩ rfl rfl rfl
 rcases Zkx (w := w) (S := S) (q := q) (s := sk) es ents.toList 0 (by simp [h2.n]) (fun i e x hi hx => h2.e i e x hi (by simpa using hx)) with ⟨a1, a2, a3, _⟩ | ⟨j, x', ds', a1, a2, a3, a4, a5, a6, a7, a8⟩
 ·refine ⟨ChangeMaps.setBlock w (m k).b (.map (ents.push { key := .string sk, val := v, born := clock }) (clock + 1)), ?_, ?_⟩
  ·simp [Instr.mapUpdate, run_underlying hu, MapKept.run_getObj_map h1, MapKept.run_checkKey hkt (show MapKept.IsKey .string (.string sk) from trivial), MapKept.run_findKey hkt a2, Zb5 h1]
  ·rw [a3 ds] at fin ⊢
   exact fin _ _ (h2.push hv)
 ·have hj : ents[0 + j]? = some x' := by simpa using a2
  refine ⟨ChangeMaps.setBlock w (m k).b (.map (ents.modify (0 + j) fun e => { e with key := .string sk, val := v }) clock), ?_, ?_⟩
  ·simp [Instr.mapUpdate, run_underlying hu, MapKept.run_getObj_map h1, MapKept.run_checkKey hkt (show MapKept.IsKey .string (.string sk) from trivial), MapKept.run_findKey hkt a1, hj, a3, Ziw, Zb5 h1]
   simp only [Yz] at hj
   simp [hj, a3, Ziw, Zb5 h1]
  ·rw [a6 ds] at fin ⊢
   simp only [Yz] at hj ⊢
   exact fin _ _ (h2.mod hj hv)
theorem ZfU {k : Key} {g : Nat} {v : Value} (h : RepA w S H m l (.mp k g) v) (hg : g = (H k).g) (hl : (H k).live = true) : k.1 ≤ l ∧ v = .map (some (m k).b) := by
 cases h with
 | mpL _ hk _ => exact ⟨hk, rfl⟩
 | mpD _ _ _ _ _ hd _ => rw [hd hg] at hl; cases hl
theorem Zi3 {t : TypeId} {mo ko xo : Operand} {k : Key} {g : Nat} {q : Bool} {z : List D} {es : List (List D)} {sk : ByteArray} {ds : List D} (ho : o.op = .mapUpdate t mo ko xo ∨ o.op = .insert t mo ko xo) (hd : o.dst = none) (hT : Zvt P t = some (q, z))
  (hm : ev s mo = .mp k g) (hg : g = (H k).g) (hl : (H k).live = true) (he : (H k).e = .m q es) (hk : ev s ko = .d (.str sk)) (hx : Zzm q (ev s xo) = some ds)
  (hK : K ⟨s, updH H k { H k with e := .m q (Zh9 sk ds es) }⟩) : AOp P l n B o K ⟨s, H⟩ := by
 intro a w hR Q
 obtain ⟨m, S, hO, hn, hdf, hS, hex⟩ := hR.un
 have hm' := Zbi hS mo
 rw [hm] at hm'
 obtain ⟨m1, m2⟩ := ZfU hm' hg hl
 have hk' := Zbi hS ko
 rw [hk] at hk'
 have hk2 : a.eval ko = .string sk := by
  generalize a.eval ko = v at hk'
  cases hk' with | d _ _ hd => cases hd; rfl
 obtain ⟨w', r1, r2, r3⟩ := ZqM (sk := sk) hT hO m1 hl he (Zsa hx (Zbi hS xo))
 have hrun : (execOp a.eval o).run P w = .ok .skip w' := by
  rcases ho with ho | ho <;> simp [execOp, ho, m2, hk2, r1]
 unfold Oper.wp
 rw [hrun]
 simp only [Oper.upon, hd, Act.put]
 exact ⟨_, hK, R.keep r2 hn hdf hS hex r3⟩
theorem Zms {t t' : TypeId} {mo ko : Operand} {k : Key} {g : Nat} {q : Bool} {z : List D} {es : List (List D)} {sk : ByteArray} (ho : o.op = .call ⟨.builtin .delete, #[mo, ko], #[t, t']⟩) (hd : o.dst = none) (hT : Zvt P t = some (q, z))
  (hm : ev s mo = .mp k g) (hg : g = (H k).g) (hl : (H k).live = true) (he : (H k).e = .m q es) (hk : ev s ko = .d (.str sk))
  (hK : K ⟨s, updH H k { H k with e := .m q (Zjk sk es) }⟩) : AOp P l n B o K ⟨s, H⟩ := by
 intro a w hR Q
 obtain ⟨m, S, hO, hn, hdf, hS, hex⟩ := hR.un
 have hm' := Zbi hS mo
 rw [hm] at hm'
 obtain ⟨m1, m2⟩ := ZfU hm' hg hl
 have hk' := Zbi hS ko
 rw [hk] at hk'
 have hk2 : a.eval ko = .string sk := by
  generalize a.eval ko = v at hk'
  cases hk' with | d _ _ hd => cases hd; rfl
 obtain ⟨kt, et, hu, hkt, _, _⟩ := Zgu hT
 have hob := hO.mp.o k m1 hl
 rw [he] at hob
 obtain ⟨ents, clock, h1, h2⟩ := hob
 have hIs : (H k).e.isO = true := by rw [he]; rfl
 obtain ⟨hc1, hc2⟩ := hO.mp.c k m1 hl hIs
 have fin : ∀ (ents' : Array MapEntry) (clock' : Nat), MEnt w S q (Zjk sk es) ents' clock' → Ok (l + 1) (updH H k { H k with e := .m q (Zjk sk es) }) m S (ChangeMaps.setBlock w (m k).b (.map ents' clock')) ∧ Ext (l + 1) H m S w (updH H k { H k with e := .m q (Zjk sk es) }) m S (ChangeMaps.setBlock w (m k).b (.map ents' clock')) := fun ents' clock' hm =>
  hO.writeO k m1 hl hIs (.m q (Zjk sk es)) rfl (.map ents' clock') (ZaK h1 _) (by simp [ChangeMaps.setBlock])
   ⟨ents', clock', by rw [ZaK h1]; simp, hm.mono (fun _ h => h) (fun b hb => by rw [ZaK h1, if_neg]; rintro rfl; exact hc2 hb)⟩ rfl rfl rfl
 have key : ∃ w', (execOp a.eval o).run P w = .ok (.value (.tuple #[])) w' ∧ Ok (l + 1) (updH H k { H k with e := .m q (Zjk sk es) }) m S w' ∧ Ext (l + 1) H m S w (updH H k { H k with e := .m q (Zjk sk es) }) m S w' := by
  rcases Zkx (w := w) (S := S) (q := q) (s := sk) es ents.toList 0 (by simp [h2.n]) (fun i e x hi hx => h2.e i e x hi (by simpa using hx)) with ⟨a1, a2, _, a4⟩ | ⟨j, x', ds', a1, a2, a3, a4, a5, a6, a7, a8⟩
  ·refine ⟨ChangeMaps.setBlock w (m k).b (.map ents clock), ?_, ?_⟩
   ·simp [execOp, ho, resolve, invoke, Go.builtin, m2, hk2, Builtin.delete_, run_underlying hu, MapKept.run_getObj_map h1, MapKept.run_checkKey hkt (show MapKept.IsKey .string (.string sk) from trivial), MapKept.run_findKey hkt a2, Zb5 h1]
   grind
  ·have hj : j < ents.size := by
    grind
   refine ⟨ChangeMaps.setBlock w (m k).b (.map (ents.eraseIdxIfInBounds (0 + j)) clock), ?_, ?_⟩
   ·simp [execOp, ho, resolve, invoke, Go.builtin, m2, hk2, Builtin.delete_, run_underlying hu, MapKept.run_getObj_map h1, MapKept.run_checkKey hkt (show MapKept.IsKey .string (.string sk) from trivial), MapKept.run_findKey hkt a1, Zb5 h1]
   ·rw [a7] at fin ⊢
    simp only [Yz]
    exact fin _ _ (h2.del hj)
 obtain ⟨w', r1, r2, r3⟩ := key
 refine Zau r1 ?_
 rw [hd]
 exact ⟨_, hK, R.keep r2 hn hdf hS hex r3⟩
theorem ZpR {t : TypeId} {x : Operand} {d : Nat} {q : Bool} {es : List (List D)} (ho : o.op = .range t x) (hd : o.dst = some d) (hu : ∃ k e, P.underlying t = some (.map k e)) (hx : ev s x = .d (.map q es))
  (hK : ZGx l n d (.i q es none) (fun g => .ptr (l + 1, d) g 0) K ⟨s, H⟩) : AOp P l n B o K ⟨s, H⟩ := by
 intro a w hR Q
 obtain ⟨m, S, hO, hn, hdf, hS, he⟩ := hR.un
 obtain ⟨kt, et, hu⟩ := hu
 have hx' := Zbi hS x
 rw [hx] at hx'
 have key : ∃ ob, (execOp a.eval o).run P w = .ok (.value (.pointer (some ⟨w.heap.size, 0, none⟩))) (w.alloc ob) ∧ ZKu (w.alloc ob) S w.heap.size q es none := by
  generalize hv : a.eval x = v at hx'
  cases hx' with
  | d _ _ hd =>
   cases v with
   | map r =>
    cases r with
    | none =>
     cases hd
     refine ⟨.mapIter none 0 #[] 0, ?_, .inl ⟨rfl, rfl, 0, #[], 0, by rw [ZdZ, if_pos rfl]⟩⟩
     simp [execOp, ho, hv, Instr.range, run_underlying hu]
    | some r =>
     obtain ⟨hs, ents, clock, h1, h2⟩ := hd.toM
     refine ⟨.mapIter (some r) clock #[] clock, ?_, .inr ⟨r, ents, clock, es, #[], by rw [ZdZ, if_pos rfl], hs, ?_, ?_, ?_, fun e h => by cases h⟩⟩
     ·simp [execOp, ho, hv, Instr.range, run_underlying hu, MapKept.run_getObj_map h1]
     ·rw [ZdZ, if_neg (by have := ZbC h1; omega)]; exact h1
     ·exact h2.mono (fun _ h => h) (fun b hb => by rw [ZdZ, if_neg (by have := hO.sub b hb; omega)])
     ·have : ((ents.toList.zip es).filter (fun p => !(#[] : Array Nat).contains p.1.born)) = ents.toList.zip es := by
       rw [List.filter_eq_self]; intro p _; simp
      rw [this, List.map_snd_zip]
      simp [h2.n]
   | _ => cases hd
 obtain ⟨ob, hrun, hI⟩ := key
 obtain ⟨k1, k2⟩ := hO.allocO (l + 1, d) (Yd _) ⟨(H (l + 1, d)).g + 1, true, .i q es none, 0, []⟩ rfl rfl (YP _) ob (w' := w.alloc ob) rfl hI rfl rfl rfl
 refine Zau hrun ?_
 rw [hd]
 refine ⟨_, hK.2, R.step k1 hn hdf hS he k2 hK.1 ?_⟩
 have := RepA.ptrL (w := w.alloc ob) (S := S) (H := updH H (l + 1, d) ⟨(H (l + 1, d)).g + 1, true, .i q es none, 0, []⟩) (m := ZcK m (l + 1, d) ⟨w.heap.size, 0, 0⟩) (l := l + 1) (l + 1, d) 0 (Yd _) (by rw [Zab])
 rw [Zab, Zae] at this
 exact this
def nxV (q : Bool) : List D → AV
 | .str k :: ds => .tup [.d (.bool true), .d (.str k), meA q ds]
 | _ => .top
theorem ZfM {α β : Type} (f : α → β) : ∀ (L : List α) (i : Nat), (L.eraseIdx i).map f = (L.map f).eraseIdx i
 | [], i => by simp
 | x :: L, 0 => rfl
 | x :: L, i + 1 => by simp only [YaA, YE, ZfM f L i]
theorem ZpN {α β : Type} {xs : List α} {ys : List β} {i : Nat} {p : α × β} (h : (xs.zip ys)[i]? = some p) : xs[i]? = some p.1 ∧ ys[i]? = some p.2 := by
 grind
theorem Zr0 {x : Operand} {d : Nat} {k : Key} {g : Nat} {q : Bool} {rest : List (List D)} {cur : Option (List D)} (ho : o.op = .next x false) (hd : o.dst = some d) (hx : ev s x = .ptr k g 0) (hg : g = (H k).g) (hl : (H k).live = true) (he : (H k).e = .i q rest cur) (hdn : d < n)
  (h0 : rest = [] → K ⟨upd s d (.tup [.d (.bool false)]), H⟩)
  (h1 : ∀ (i : Nat) (e : List D), rest[i]? = some e → K ⟨upd s d (nxV q e), updH H k { H k with e := .i q (rest.eraseIdx i) (some e) }⟩) : AOp P l n B o K ⟨s, H⟩ := by
 intro a w hR Q
 obtain ⟨m, S, hO, hn, hdf, hS, hex⟩ := hR.un
 have hx' := Zbi hS x
 rw [hx] at hx'
 have hk : k.1 ≤ l + 1 ∧ a.eval x = .pointer (some ⟨(m k).b, (m k).o, none⟩) := by
  generalize a.eval x = v at hx'
  cases hx' with
  | ptrL _ _ hk _ => exact ⟨hk, by simp⟩
  | ptrD _ _ _ _ _ _ hd _ => rw [hd hg] at hl; cases hl
 obtain ⟨hk, hev⟩ := hk
 have hIs : (H k).e.isO = true := by rw [he]; rfl
 obtain ⟨⟨hc0, hc1⟩, hc2⟩ := hO.mp.c k hk hl hIs
 rw [hc1] at hev
 have hob := hO.mp.o k hk hl
 rw [he] at hob
 rcases hob with ⟨e1, e2, u1, u2, u3, e3⟩ | ⟨r, ents, clock, es, seen, b1, b2, b3, b4, b5, b6⟩
 ·refine Zau (v := .tuple #[.bool false]) (w' := w) ?_ ?_
  ·simp [execOp, ho, hev, Instr.next, getObj, Sem.run, e3]
  ·rw [hd]
   exact ⟨_, h0 e1, R.step hO hn hdf hS hex (Ext.refl _ _ _ _ _) hdn (.tup _ _ rfl (fun i x v hx hv => by
    match i with
    | 0 => cases hx; cases hv; exact .d _ _ (.bool _)
    | i + 1 => simp at hx))⟩
 ·have hborn : ∀ (i j : Nat) (x y : MapEntry × List D), (ents.toList.zip es)[i]? = some x → (ents.toList.zip es)[j]? = some y → x.1.born = y.1.born → i = j := fun i j x y hx hy e =>
   b4.born i j x.1 y.1 (by simpa using (ZpN hx).1) (by simpa using (ZpN hy).1) e
  have hleft : ∀ e : MapEntry, e ∈ (leftOf ents seen).toList → ∃ (i : Nat) (d : List D), ((ents.toList.zip es).filter (fun p => !seen.contains p.1.born))[i]? = some (e, d) := fun e hm => by
   have hm : e ∈ ents.toList ∧ (!seen.contains e.born) = true := by simpa [leftOf] using hm
   obtain ⟨j, hj⟩ := YF.1 hm.1
   have hlt : j < es.length := by rw [← b4.n]; rw [Yi] at hj; exact ZbC hj
   have hz : (e, es[j]) ∈ ents.toList.zip es := YF.2 ⟨j, List.getElem?_zip_eq_some.2 ⟨hj, Yb hlt⟩⟩
   obtain ⟨i, hi⟩ := YF.1 ((YX (p := fun p : MapEntry × List D => !seen.contains p.1.born)).2 ⟨hz, hm.2⟩)
   grind
  rcases run_next_at (P := P) w o.type (m k).b r clock clock seen ents clock b1 b3 (fun x hx => by
    obtain ⟨i, hi⟩ := YF.1 hx
    exact b4.clk i x (by simpa using hi)) (Yd _) with ⟨c1, c2⟩ | ⟨e, c1, w1, c2, c3⟩
  ·have hrest : rest = [] := by
    rw [b5, YaP, Ybf]
    intro p hp hb
    obtain ⟨i, hi⟩ := YF.1 hp
    have : p.1 ∈ (leftOf ents seen).toList := by
     simp only [leftOf, Array.toList_filter, YX]
     grind
    grind
   refine Zau (v := .tuple #[.bool false]) (w' := w) ?_ ?_
   ·simp [execOp, ho, hev, c2]
   ·rw [hd]
    exact ⟨_, h0 hrest, R.step hO hn hdf hS hex (Ext.refl _ _ _ _ _) hdn (.tup _ _ rfl (fun i x v hx hv => by
     match i with
     | 0 => cases hx; cases hv; exact .d _ _ (.bool _)
     | i + 1 => simp at hx))⟩
  ·obtain ⟨i, d', hi⟩ := hleft e c1
   have hzip := YX.1 (Yj hi)
   obtain ⟨j, hj⟩ := YF.1 hzip.1
   obtain ⟨hj1, hj2⟩ := ZpN hj
   simp only [Yi] at hj1 hj2
   obtain ⟨sk, ds, q1, q2, q3⟩ := b4.e j _ _ hj2 hj1
   subst q1
   have hri : rest[i]? = some (.str sk :: ds) := by rw [b5, Yv, hi]; rfl
   have hre : rest.eraseIdx i = ((ents.toList.zip es).filter (fun p => !(seen.push e.born).contains p.1.born)).map (·.2) := by
    rw [b5]
    have := ZdX (fun p : MapEntry × List D => p.1.born) (fun p => !seen.contains p.1.born) (ents.toList.zip es) hborn i _ hi
    rw [← ZfM, ← this]
    grind
   have hw1 : w1.heap = w.heap ∧ w1.os = w.os ∧ w1.tape = w.tape ∧ w1.output = w.output := by rcases c2 with rfl | rfl <;> exact ⟨rfl, rfl, rfl, rfl⟩
   have hO1 := hO.drew (w' := w1) hw1.1 hw1.2.1 hw1.2.2.1 hw1.2.2.2
   have b1' : w1.heap[(m k).b]? = some (.mapIter (some r) clock seen clock) := by rw [hw1.1]; exact b1
   obtain ⟨k1, k2⟩ := hO1.1.writeO k hk hl hIs (.i q (rest.eraseIdx i) (some (.str sk :: ds))) rfl (.mapIter (some r) clock (seen.push e.born) clock) (w' := ChangeMaps.setBlock w1 (m k).b (.mapIter (some r) clock (seen.push e.born) clock))
    (ZaK b1' _) (by simp [ChangeMaps.setBlock]) (.inr ⟨r, ents, clock, es, seen.push e.born, by rw [ZaK b1']; simp, b2, by rw [ZaK b1', if_neg (by rintro rfl; exact hc2 b2), hw1.1]; exact b3,
     b4.mono (fun _ h => h) (fun b hb => by rw [ZaK b1', if_neg (by rintro rfl; exact hc2 hb), hw1.1]), hre, fun e' he' => by cases he'; exact ⟨j, e, hj2, hj1, by simp⟩⟩) rfl rfl rfl
   have hext := hO1.2.trans k2
   refine Zau (v := .tuple #[.bool true, e.key, e.val]) (w' := ChangeMaps.setBlock w1 (m k).b (.mapIter (some r) clock (seen.push e.born) clock)) ?_ ?_
   ·simp [execOp, ho, hev, c3]
   ·rw [hd]
    refine ⟨_, h1 i _ hri, R.step k1 hn hdf hS hex hext hdn ?_⟩
    simp only [nxV]
    refine .tup _ _ rfl (fun i x v hx hv => ?_)
    match i with
    | 0 => cases hx; cases hv; exact .d _ _ (.bool _)
    | 1 => cases hx; cases hv; rw [q2]; exact .d _ _ (.str _)
    | 2 => cases hx; cases hv; exact ZhQ (q3.mono hext.s hext.blk)
    | i + 3 => simp at hx
def dcC (z : ByteArray) (p : Nat) : Int := ((Utf8.decode z p).1 : Nat)
def dcW (z : ByteArray) (p : Nat) : Nat := (Utf8.decode z p).2
theorem Zml {t : TypeId} {x : Operand} {d : Nat} {z : ByteArray} (ho : o.op = .range t x) (hd : o.dst = some d) (hu : P.underlying t = some .string) (hx : ev s x = .d (.str z))
  (hK : ZGx l n d (.s z 0) (fun g => .ptr (l + 1, d) g 0) K ⟨s, H⟩) : AOp P l n B o K ⟨s, H⟩ := by
 intro a w hR Q
 obtain ⟨m, S, hO, hn, hdf, hS, he⟩ := hR.un
 have hx' := Zbi hS x
 rw [hx] at hx'
 have hrun : (execOp a.eval o).run P w = .ok (.value (.pointer (some ⟨w.heap.size, 0, none⟩))) (w.alloc (.stringIter z 0)) := by
  generalize hv : a.eval x = v at hx'
  cases hx' with
  | d _ _ hd =>
   cases hd
   simp [execOp, ho, hv, Instr.range, run_underlying hu]
 obtain ⟨k1, k2⟩ := hO.allocO (l + 1, d) (Yd _) ⟨(H (l + 1, d)).g + 1, true, .s z 0, 0, []⟩ rfl rfl (YP _) (.stringIter z 0) (w' := w.alloc (.stringIter z 0)) rfl (by show (w.alloc _).heap[w.heap.size]? = _; rw [ZdZ, if_pos rfl]) rfl rfl rfl
 refine Zau hrun ?_
 rw [hd]
 refine ⟨_, hK.2, R.step k1 hn hdf hS he k2 hK.1 ?_⟩
 have := RepA.ptrL (w := w.alloc (.stringIter z 0)) (S := S) (H := updH H (l + 1, d) ⟨(H (l + 1, d)).g + 1, true, .s z 0, 0, []⟩) (m := ZcK m (l + 1, d) ⟨w.heap.size, 0, 0⟩) (l := l + 1) (l + 1, d) 0 (Yd _) (by rw [Zab])
 rw [Zab, Zae] at this
 exact this
theorem ZoV {x : Operand} {d : Nat} {k : Key} {g : Nat} {z : ByteArray} {p : Nat} (ho : o.op = .next x true) (hd : o.dst = some d) (hx : ev s x = .ptr k g 0) (hg : g = (H k).g) (hl : (H k).live = true) (he : (H k).e = .s z p) (hdn : d < n)
  (h0 : ¬ p < z.size → K ⟨upd s d (.tup [.d (.bool false)]), H⟩)
  (h1 : p < z.size → K ⟨upd s d (.tup [.d (.bool true), .d (.int .i64 (p : Int)), .d (.int .i32 (dcC z p))]), updH H k { H k with e := .s z (p + dcW z p) }⟩) : AOp P l n B o K ⟨s, H⟩ := by
 intro a w hR Q
 obtain ⟨m, S, hO, hn, hdf, hS, hex⟩ := hR.un
 have hx' := Zbi hS x
 rw [hx] at hx'
 have hk : k.1 ≤ l + 1 ∧ a.eval x = .pointer (some ⟨(m k).b, (m k).o, none⟩) := by
  generalize a.eval x = v at hx'
  cases hx' with
  | ptrL _ _ hk _ => exact ⟨hk, by simp⟩
  | ptrD _ _ _ _ _ _ hd _ => rw [hd hg] at hl; cases hl
 obtain ⟨hk, hev⟩ := hk
 have hIs : (H k).e.isO = true := by rw [he]; rfl
 obtain ⟨⟨hc0, hc1⟩, hc2⟩ := hO.mp.c k hk hl hIs
 rw [hc1] at hev
 have hob := hO.mp.o k hk hl
 rw [he] at hob
 have hob : w.heap[(m k).b]? = some (.stringIter z p) := hob
 by_cases hp : p < z.size
 ·obtain ⟨k1, k2⟩ := hO.writeO k hk hl hIs (.s z (p + dcW z p)) rfl (.stringIter z (p + dcW z p)) (w' := ChangeMaps.setBlock w (m k).b (.stringIter z (p + dcW z p))) (ZaK hob _) (by simp [ChangeMaps.setBlock]) (by show (ChangeMaps.setBlock _ _ _).heap[_]? = _; rw [ZaK hob, if_pos rfl]) rfl rfl rfl
  refine Zau (v := .tuple #[.bool true, goInt p, .int .i32 (dcC z p)]) (w' := ChangeMaps.setBlock w (m k).b (.stringIter z (p + dcW z p))) ?_ ?_
  ·simp [execOp, ho, hev, Instr.next, getObj, setObj, Sem.run, hob, hp, ChangeMaps.setBlock, dcC, dcW]
  ·rw [hd]
   refine ⟨_, h1 hp, R.step k1 hn hdf hS hex k2 hdn ?_⟩
   refine .tup _ _ rfl (fun i x v hx hv => ?_)
   match i with
   | 0 => cases hx; cases hv; exact .d _ _ (.bool _)
   | 1 => cases hx; cases hv; exact .d _ _ (.int _ _)
   | 2 => cases hx; cases hv; exact .d _ _ (.int _ _)
   | i + 3 => simp at hx
 ·refine Zau (v := .tuple #[.bool false]) (w' := w) ?_ ?_
  ·simp [execOp, ho, hev, Instr.next, getObj, Sem.run, hob, hp]
  ·rw [hd]
   exact ⟨_, h0 hp, R.step hO hn hdf hS hex (Ext.refl _ _ _ _ _) hdn (.tup _ _ rfl (fun i x v hx hv => by
    match i with
    | 0 => cases hx; cases hv; exact .d _ _ (.bool _)
    | i + 1 => simp at hx))⟩
theorem ZpD {x : Operand} {d : Nat} {k : Key} {g : Nat} {q : Bool} {rest : List (List D)} {sk : ByteArray} {ds : List D} (ho : o.op = .entry x) (hd : o.dst = some d) (hx : ev s x = .ptr k g 0) (hg : g = (H k).g) (hl : (H k).live = true) (he : (H k).e = .i q rest (some (.str sk :: ds))) (hdn : d < n)
  (hK : K ⟨upd s d (.tup [.d (.str sk), meA q ds]), updH H k { H k with e := .i q rest none }⟩) : AOp P l n B o K ⟨s, H⟩ := by
 intro a w hR Q
 obtain ⟨m, S, hO, hn, hdf, hS, hex⟩ := hR.un
 have hx' := Zbi hS x
 rw [hx] at hx'
 have hk : k.1 ≤ l + 1 ∧ a.eval x = .pointer (some ⟨(m k).b, (m k).o, none⟩) := by
  generalize a.eval x = v at hx'
  cases hx' with
  | ptrL _ _ hk _ => exact ⟨hk, by simp⟩
  | ptrD _ _ _ _ _ _ hd _ => rw [hd hg] at hl; cases hl
 obtain ⟨hk, hev⟩ := hk
 have hIs : (H k).e.isO = true := by rw [he]; rfl
 obtain ⟨⟨hc0, hc1⟩, hc2⟩ := hO.mp.c k hk hl hIs
 rw [hc1] at hev
 have hob := hO.mp.o k hk hl
 rw [he] at hob
 rcases hob with ⟨e1, e2, _⟩ | ⟨r, ents, clock, es, seen, b1, b2, b3, b4, b5, b6⟩
 ·cases e2
 ·obtain ⟨i, x', c1, c2, c3⟩ := b6 _ rfl
  obtain ⟨sk', ds', q1, q2, q3⟩ := b4.e i _ _ c1 c2
  cases q1
  have hfind : ents.find? (fun y => y.born == x'.born) = some x' := by
   rw [← Array.find?_toList]
   refine find_born x' ents.toList ?_ (by rw [← Yi] at c2; exact Yj c2)
   rw [List.nodup_iff_pairwise_ne, List.pairwise_iff_getElem]
   intro i j hi hj hij e
   rw [Yu] at hi hj
   have hu := Yb hi
   have hv := Yb hj
   rw [Yi] at hu hv
   have := b4.born i j _ _ hu hv (by simpa using e)
   omega
  have hsame : ∀ b, w.heap[b]? = if b = (m k).b then some (.mapIter (some r) clock seen clock) else w.heap[b]? := fun b => by
   grind
  obtain ⟨k1, k2⟩ := hO.writeO k hk hl hIs (.i q rest none) rfl (.mapIter (some r) clock seen clock) (w' := w) hsame rfl (.inr ⟨r, ents, clock, es, seen, b1, b2, b3, b4, b5, fun e' he' => by cases he'⟩) rfl rfl rfl
  refine Zau (v := .tuple #[x'.key, x'.val]) (w' := w) ?_ ?_
  ·simp [execOp, ho, hev, Instr.entry, getObj, Sem.run, b1, b3, c3, hfind]
  ·rw [hd]
   refine ⟨_, hK, R.step k1 hn hdf hS hex k2 hdn (.tup _ _ rfl (fun i x v hx hv => ?_))⟩
   match i with
   | 0 => cases hx; cases hv; rw [q2]; exact .d _ _ (.str _)
   | 1 => cases hx; cases hv; exact ZhQ (q3.mono k2.s k2.blk)
   | i + 2 => simp at hx
end
end Go.Eng
