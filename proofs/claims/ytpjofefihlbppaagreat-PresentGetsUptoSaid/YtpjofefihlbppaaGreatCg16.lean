import Derived.Test.YtpjofefihlbppaaGreatCg15
import Derived.OrdersHeld
import Derived.Test.YtpjofefihlbppaaGreatCg14
import Derived.Test.YtpjofefihlbppaaGreatCg00
namespace Go.Eng
set_option linter.all false
open Go Go.RowKit
inductive Pl where
 | nil
 | fst (i : Nat) (r : Pl)
 | two (i j : Nat) (a b : Pl)
 | opt (hs : List Nat) (i : Nat) (r s : Pl)
def Pl.len : Pl → Nat
 | .nil => 0
 | .fst _ r => r.len + 1
 | .two _ _ a _ => a.len + 1
 | .opt _ _ r _ => r.len + 1
def Zrw : Pl → Bool
 | .opt _ _ _ _ => true
 | _ => false
def ZFw : Pl → List Nat
 | .opt _ i _ s => i :: ZFw s
 | _ => []
def Zzx : Pl → Bool
 | .opt hs i r s => hs.all fun k => (ZFw (.opt hs i r s)).any (Nat.beq k)
 | _ => true
def ZiN (P : Program) (L : List Oper) (Q : Exit → Act → World → Prop) (S : World → Prop) : Pl → Act → World → Prop
 | .nil, a, w => Q .normal a w
 | .fst i r, a, w => match nth L i with
  | some o => o.wp P a w (fun a' w' => S w' ∧ ZiN P L Q S r a' w') Q
  | none => False
 | .two i j x y, a, w => match nth L i, nth L j with
  | some o, some o' => o.wp P a w (fun a' w' => S w' ∧ ZiN P L Q S x a' w') Q ∧ o'.wp P a w (fun a' w' => S w' ∧ ZiN P L Q S y a' w') Q
  | _, _ => False
 | .opt _ i x y, a, w => match nth L i with
  | some o => o.wp P a w (fun a' w' => S w' ∧ ZiN P L Q S x a' w') Q ∧ (Zrw y = true → ZiN P L Q S y a w)
  | none => False
def ZrN (listed hs : List Nat) : Nat → List Oper → Bool
 | _, [] => true
 | k, ok :: r => (listed.any (Nat.beq k) || hs.any (Nat.beq k) || ok.after.toList.any (fun e => Region.binds .any e && !listed.any (Nat.beq e.on))) && ZrN listed hs (k + 1) r
theorem ZjJ {listed hs : List Nat} : ∀ {r : List Oper} {j0 k : Nat} {ok : Oper}, ZrN listed hs j0 r = true → r[k]? = some ok →
  (j0 + k) ∈ listed ∨ j0 + k ∈ hs ∨ ∃ e ∈ ok.after, Region.binds .any e = true ∧ e.on ∉ listed
 | [], j0, k, ok, _, h => by simp at h
 | q :: r, j0, k, ok, hc, h => by
  unfold ZrN at hc
  rw [Bool.and_eq_true] at hc
  cases k with
  | zero =>
   simp only [YE, Yd] at h
   subst h
   have h1 := hc.1
   simp only [Bool.or_eq_true] at h1
   rcases h1 with (h1 | h1) | h1
   ·exact .inl (ZcT.1 h1)
   ·exact .inr (.inl (ZcT.1 h1))
   ·obtain ⟨e, he, h2⟩ := YK.1 h1
    rw [Bool.and_eq_true] at h2
    exact .inr (.inr ⟨e, by simpa using he, h2.1, fun hm => by have := ZcT.2 hm; rw [this] at h2; cases h2.2⟩)
  | succ k =>
   have := ZjJ (k := k) hc.2 (by simpa using h)
   grind
def ZFB (listed : List Nat) (i j : Nat) : Nat → List Oper → Bool
 | _, [] => true
 | k, ok :: r => (listed.any (Nat.beq k) || Nat.beq k i || Nat.beq k j || ok.after.toList.any (fun e => Region.binds .any e && !listed.any (Nat.beq e.on))) && ZFB listed i j (k + 1) r
theorem ZoQ {listed : List Nat} {i j : Nat} : ∀ {r : List Oper} {j0 k : Nat} {ok : Oper}, ZFB listed i j j0 r = true → r[k]? = some ok →
  (j0 + k) ∈ listed ∨ j0 + k = i ∨ j0 + k = j ∨ ∃ e ∈ ok.after, Region.binds .any e = true ∧ e.on ∉ listed
 | [], j0, k, ok, _, h => by simp at h
 | q :: r, j0, k, ok, hc, h => by
  unfold ZFB at hc
  rw [Bool.and_eq_true] at hc
  cases k with
  | zero =>
   simp only [YE, Yd] at h
   subst h
   have h1 := hc.1
   simp only [Bool.or_eq_true] at h1
   rcases h1 with ((h1 | h1) | h1) | h1
   ·exact .inl (ZcT.1 h1)
   ·exact .inr (.inl (Ya h1))
   ·exact .inr (.inr (.inl (Ya h1)))
   ·obtain ⟨e, he, h2⟩ := YK.1 h1
    rw [Bool.and_eq_true] at h2
    exact .inr (.inr (.inr ⟨e, by simpa using he, h2.1, fun hm => by have := ZcT.2 hm; rw [this] at h2; cases h2.2⟩))
  | succ k =>
   have := ZoQ (k := k) hc.2 (by simpa using h)
   grind
def Znq (env : List (Nat × Nat)) (o : Oper) : Bool := match o.op with
 | .load _ x => (match ZiD x with | some y => (ZhD y env).isSome | none => false)
 | _ => false
def Zfu (P : Program) (L : List Oper) : List (Nat × Nat) → List Nat → Pl → Bool
 | _, listed, .nil => (List.range L.length).all fun j => listed.any (Nat.beq j)
 | env, listed, .fst i rest => (match nth L i with
  | some oi => !(listed.any (Nat.beq i)) && oi.after.toList.all (fun e => !Region.binds .any e || listed.any (Nat.beq e.on)) && (match vpO P oi || Znq env oi with | true => Zlz.chkV P L listed i oi 0 L | false => ZAD P L listed i oi 0 L) && Zfu P L (ZcA P env oi) (i :: listed) rest && Zzx rest
  | none => false)
 | env, listed, .two i j x y => (match nth L i, nth L j with
  | some oi, some oj => oi.after.toList.all (fun e => !Region.binds .any e || listed.any (Nat.beq e.on)) && !(listed.any (Nat.beq i)) && !(listed.any (Nat.beq j)) && ZFB listed i j 0 L && Nat.beq x.len y.len && Zfu P L (ZcA P env oi) (i :: listed) x && Zfu P L (ZcA P env oj) (j :: listed) y && Zzx x && Zzx y
  | _, _ => false)
 | env, listed, .opt hs i x y => (match nth L i with
  | some oi => oi.after.toList.all (fun e => !Region.binds .any e || listed.any (Nat.beq e.on)) && !(listed.any (Nat.beq i)) && ZrN listed hs 0 L && Zfu P L (ZcA P env oi) (i :: listed) x && Zzx x && (!Zrw y || (Nat.beq y.len (x.len + 1) && Zfu P L env listed y))
  | none => false)
def ZGg (o : Oper) (a a' : Act) : Prop := ∃ u, ∀ x, a'.eval x = (a.put o.dst u).eval x
theorem Zju {P : Program} {o : Oper} {a : Act} {w : World} {N : Act → World → Prop} {Q : Exit → Act → World → Prop} (h : o.wp P a w N Q) : o.wp P a w (fun a' w' => N a' w' ∧ ZGg o a a' ∧ ∀ v w1, (execOp a.eval o).run P w = .ok (.value v) w1 → a' = a.put o.dst v) Q := by
 unfold Oper.wp at *
 cases hr : (execOp a.eval o).run P w with
 | ok n w' =>
  rw [hr] at h
  cases n <;> simp only [Oper.upon] at h ⊢
  case value u => exact ⟨h, ⟨u, fun _ => rfl⟩, fun v w1 e => by cases e; rfl⟩
  case skip => exact ⟨h, ⟨_, fun _ => rfl⟩, fun v w1 e => by cases e⟩
  case defer d => exact ⟨h, ⟨Go.undef, fun x => by cases o.dst <;> rfl⟩, fun v w1 e => by cases e⟩
  case enter f args =>
   refine Calls.mono h fun e w'' he => ?_
   cases e with
   | returned u => exact ⟨he, ⟨u, fun _ => rfl⟩, fun v w1 e => by cases e⟩
   | panicked c => exact he
   | outgrown => exact he
  case row row args => exact Rows.mono h fun u w'' he => ⟨he, ⟨u, fun _ => rfl⟩, fun v w1 e => by cases e⟩
 | halt x w' =>
  rw [hr] at h
  cases x <;> simp only [Oper.upon] at h ⊢
  grind
def JF (β : Nat → Nat) (env : List (Nat × Nat)) (a : Act) : Prop := ∀ p ∈ env, ∀ b, pb (a.eval (.tmp p.1)) = some b → b = β p.2
theorem eval_put (a : Act) (d j : Nat) (u : Value) (h : j ≠ d) : (a.put (some d) u).eval (.tmp j) = a.eval (.tmp j) := by
 simp only [Act.put, Act.eval, Yk, Y0]
 grind
theorem ZgL (a : Act) (d : Nat) (u : Value) : (a.put (some d) u).eval (.tmp d) = u ∨ (a.put (some d) u).eval (.tmp d) = Go.undef := by
 simp only [Act.put, Act.eval, Yk, Y0]
 grind
theorem JF.put {P : Program} {β : Nat → Nat} {env : List (Nat × Nat)} {a a' : Act} {o : Oper} {w : World} (hJ : JF β env a) (h : ZGg o a a') (hv : ∀ z, Zjg P o = some z → ∃ v w1, (execOp a.eval o).run P w = .ok (.value v) w1 ∧ a' = a.put o.dst v) : JF β (ZcA P env o) a' := by
 intro p hp b hb
 unfold ZcA at hp
 cases hd : o.dst with
 | none =>
  rw [hd] at hp
  obtain ⟨u, hu⟩ := h
  rw [hu, hd] at hb
  exact hJ p hp b hb
 | some d =>
  rw [hd] at hp
  rcases YaB.1 hp with hp | hp
  ·cases hs : Zjg P o with
   | none => rw [hs] at hp; cases hp
   | some z =>
    rw [hs] at hp
    dsimp only at hp
    cases he : ZhD z env with
    | none => rw [he] at hp; cases hp
    | some r =>
     rw [he] at hp
     rcases Yap.1 hp with rfl
     obtain ⟨v, w1, e1, e2⟩ := hv z hs
     rw [e2, hd] at hb
     have hb2 : pb v = some b := by
      rcases ZgL a d v with e | e
      ·grind
      ·rw [e] at hb; cases hb
     exact hJ _ (ZcX he) b (ZsG hs e1 hb2)
  ·obtain ⟨h1, h2⟩ := Y5.1 hp
   obtain ⟨u, hu⟩ := h
   have hne : p.1 ≠ d := fun e => by rw [e] at h2; simp at h2
   rw [hu, hd, eval_put a d p.1 u hne] at hb
   exact hJ p h1 b hb
section
variable {P : Program} {Q : Exit → Act → World → Prop} {L : List Oper} {S : World → Prop}
theorem ZiK {ops : Array Oper} {i : Nat} {oi : Oper} {v : Value} (hi : ops[i]? = some oi) (hro : rdO P oi = true) (hu : ∀ (j : Nat) (o : Oper), ops[j]? = some o → o.guard = none) (hsel : ∀ (j : Nat) (o : Oper) cs b, ops[j]? = some o → o.op ≠ .select cs b)
  (hQ : ∀ c a w, ¬ Q (.panic c) a w) (hO : ¬ LetsOut Q) : ∀ (fuel : Nat) (listed : Array Bool) (a : Act) (w : World), DC ops listed →
   (∀ j oj, ops[j]? = some oj → j ≠ i → listed.getD j true = false → ¬ Waits ops j i → oi.apart ops oj = true ∧ (rdO P oj || grO oj) = true) →
   i ∈ Region.ready .any ops listed → (execOp a.eval oi).run P w = .ok (.value v) w → S w →
   wpAnyH P .any ops Q S fuel (listed.setIfInBounds i true) (a.put oi.dst v) w → wpAnyH P .any ops Q S (fuel + 1) listed a w := by
 have self : ∀ {a : Act} {w : World} {K : Act → World → Prop}, (execOp a.eval oi).run P w = .ok (.value v) w → K (a.put oi.dst v) w → wpOp P ops Q i K a w := fun hy h => by
  unfold wpOp
  simp only [hi]
  rw [if_pos (by simp [Region.wanted, hu i oi hi])]
  left
  unfold Oper.wp
  rw [hy]
  exact h
 intro fuel
 induction fuel with
 | zero =>
  intro listed a w _ _ hr hy hS H
  refine ⟨fun h => (by rw [h] at hr; cases hr), fun j hj => ?_⟩
  by_cases hji : j = i
  ·grind
  ·have := ready_mono hj hji
   rw [H.1] at this
   cases this
 | succ fuel ih =>
  intro listed a w hD hF hr hy hS H
  refine ⟨fun h => (by rw [h] at hr; cases hr), fun j hj => ?_⟩
  by_cases hji : j = i
  ·grind
  ·have h1 := H.2 j (ready_mono hj hji)
   obtain ⟨hjun, oj, hoj, hall⟩ := mem_ready.1 hj
   have hiun := (mem_ready.1 hr).1
   obtain ⟨hap, hrd⟩ := hF j oj hoj hji hjun (hD.nowait hj hiun)
   obtain ⟨p1, p2, p3⟩ := Oper.apart_spec hap
   obtain ⟨q1, q2⟩ := Znu (P := P) (ρ := a.eval) hrd
   unfold wpOp at h1 ⊢
   simp only [hoj] at h1 ⊢
   have hwt : ∀ y, Region.wanted oj y = true := fun y => by simp [Region.wanted, hu j oj hoj]
   rw [if_pos (hwt _)] at h1 ⊢
   rcases h1 with h1 | ⟨_, h1⟩
   case inr => exact absurd h1 hO
   left
   unfold Oper.wp at h1 ⊢
   rw [execOp_put oj (fun cs b => hsel j oj cs b hoj) a oi.dst v p1] at h1
   cases hrun : (execOp a.eval oj).run P w with
   | halt x w' =>
    rw [hrun] at h1
    cases x <;> simp only [Oper.upon] at h1
    grind
   | ok n w' =>
    have hw' := q1 _ _ _ hrun
    obtain ⟨u, rfl⟩ := q2 _ _ _ hrun
    rw [hrun] at h1
    simp only [Oper.upon] at h1 ⊢
    refine ⟨h1.1, ih (listed.setIfInBounds j true) (a.put oj.dst u) w' (hD.ready hj) (fun k ok hk hki hun hno => ?_) (ready_mono hr (Ne.symm hji)) ?_ h1.1 ?_⟩
    ·refine hF k ok hk hki ?_ hno
     by_cases hjk : j = k
     ·grind
     ·rw [getD_set_ne true hjk] at hun; exact hun
    ·rw [execOp_put oi (fun cs b => hsel i oi cs b hi) a oj.dst u p3]; exact Zp6 hro _ _ _ _ hy hw'
    ·rw [YaR _ _ hji, ← Act.put_comm a v u p2]; exact h1.2
theorem Zm6 {β : Nat → Nat} {F : Nat → Prop} {w0 : World} (hS0 : ∀ b w, F b → S w → w.heap[b]? = w0.heap[b]?) (hC : ∀ b, F b → Cel w0 b) (hu : ∀ (j : Nat) (o : Oper), L.toArray[j]? = some o → o.guard = none) (hsel : ∀ (j : Nat) (o : Oper) cs b, L.toArray[j]? = some o → o.op ≠ .select cs b) (hQ : ∀ c a w, ¬ Q (.panic c) a w) (hO : ¬ LetsOut Q) :
  ∀ (π : Pl) (env : List (Nat × Nat)) (listed : List Nat) (la : Array Bool) (a : Act) (w : World), la.size = L.length → (∀ j, j < L.length → (la.getD j true = true ↔ j ∈ listed)) → (∀ x ∈ listed, x < L.length) → DC L.toArray la → Zfu P L env listed π = true → (∀ p ∈ env, F (β p.2)) → JF β env a → S w →
   ZiN P L Q S π a w → (Zzx π = true → wpAnyH P .any L.toArray Q S π.len la a w) ∧
    ∀ k ∈ ZFw π, wpOp P L.toArray Q k (fun a' w' => S w' ∧ wpAnyH P .any L.toArray Q S (π.len - 1) (la.setIfInBounds k true) a' w') a w := by
 have un : ∀ (la : Array Bool) (listed : List Nat) (i : Nat), (∀ j, j < L.length → (la.getD j true = true ↔ j ∈ listed)) → i < L.length → listed.any (Nat.beq i) = false → la.getD i true = false := fun la listed i hl hiL c1 => by
  cases hb : la.getD i true with
  | false => rfl
  | true => have := ZcT.2 ((hl i hiL).1 hb); rw [c1] at this; cases this
 have next : ∀ (la : Array Bool) (listed : List Nat) (i : Nat), la.size = L.length → (∀ j, j < L.length → (la.getD j true = true ↔ j ∈ listed)) → ∀ j, j < L.length → ((la.setIfInBounds i true).getD j true = true ↔ j ∈ i :: listed) := fun la listed i hs hl j hj => by
  by_cases hji : i = j
  ·subst hji
   simp only [Yv, true_or, iff_true]
   simp [hs, hj]
  ·rw [getD_set_ne true hji, hl j hj, Yv]
   exact ⟨.inr, fun h => h.resolve_left (Ne.symm hji)⟩
 have rdy : ∀ (la : Array Bool) (listed : List Nat) (i : Nat) (oi : Oper), la.size = L.length → (∀ j, j < L.length → (la.getD j true = true ↔ j ∈ listed)) → (∀ x ∈ listed, x < L.length) → L[i]? = some oi → listed.any (Nat.beq i) = false →
   oi.after.toList.all (fun e => !Region.binds .any e || listed.any (Nat.beq e.on)) = true → i ∈ Region.ready .any L.toArray la := fun la listed i oi hs hl hlt hi c1 c2 =>
  mem_ready.2 ⟨un la listed i hl (Yo.1 hi).1 c1, oi, by simpa using hi, fun e he hb => by
   have h1 := Yg.1 c2 e (by simpa using he)
   rw [hb] at h1
   simp only [Bool.not_true, YaK] at h1
   have hm := ZcT.1 h1
   have h2 := hlt _ hm
   have h3 := (hl _ h2).2 hm
   simp only [Yk] at h3 ⊢
   rw [Yh (by omega)] at h3 ⊢
   simpa using h3⟩
 have envF : ∀ (env : List (Nat × Nat)) (o : Oper), (∀ p ∈ env, F (β p.2)) → ∀ p ∈ ZcA P env o, F (β p.2) := fun env o hF p hp => by
  unfold ZcA at hp
  split at hp
  ·exact hF p hp
  ·rcases YaB.1 hp with hp | hp
   ·split at hp
    ·split at hp
     ·rename_i r hr
      have e := Yap.1 hp
      rw [e]
      have := hF _ (ZcX hr)
      exact this
     ·cases hp
    ·cases hp
   ·exact hF p (Y5.1 hp).1
 have jput : ∀ (env : List (Nat × Nat)) (o : Oper) (a a' : Act) (w : World) (N : Act → World → Prop), o.wp P a w N Q → JF β env a → ZGg o a a' → (∀ v w1, (execOp a.eval o).run P w = .ok (.value v) w1 → a' = a.put o.dst v) → JF β (ZcA P env o) a' := fun env o a a' w N hw hJ h1 h2 => by
  refine hJ.put (P := P) (w := w) h1 fun z hz => ?_
  have hv : vpO P o = true := by unfold Zjg at hz; cases hv : vpO P o with | true => rfl | false => rw [hv] at hz; cases hz
  obtain ⟨v1, v2⟩ := Zhi (P := P) (ρ := a.eval) hv
  unfold Oper.wp at hw
  cases hrun : (execOp a.eval o).run P w with
  | halt x w' =>
   rw [hrun] at hw
   cases x <;> simp only [Oper.upon] at hw
   exact absurd hw (hQ _ _ _)
  | ok n w' =>
   obtain ⟨u, rfl⟩ := v2 _ _ _ hrun
   exact ⟨u, w', rfl, h2 u w' hrun⟩
 intro π
 induction π with
 | nil =>
  intro env listed la a w hs hl hlt hD hc hF hJ hS h
  unfold Zfu at hc
  rw [Yg] at hc
  refine ⟨fun _ => ⟨?_, h⟩, fun k hk => by cases hk⟩
  cases hr : Region.ready .any L.toArray la with
  | nil => rfl
  | cons x xs =>
   have hx : x ∈ Region.ready .any L.toArray la := by rw [hr]; exact Yy ..
   obtain ⟨h0, o, ho, _⟩ := mem_ready.1 hx
   have hlt : x < L.length := by have := (YI.1 ho).1; simpa using this
   have := (hl x hlt).2 (ZcT.1 (hc x (Yaq.2 hlt)))
   rw [h0] at this
   cases this
 | two i j x y ihx ihy =>
  intro env listed la a w hs hl hlt hD hc hF hJ hS h
  unfold Zfu at hc
  unfold ZiN at h
  cases hi : L[i]? with
  | none => rw [ZbC, hi] at hc; simp at hc
  | some oi =>
   cases hj : L[j]? with
   | none => rw [ZbC, ZbC, hi, hj] at hc; simp at hc
   | some oj =>
    rw [ZbC, ZbC, hi, hj] at hc h
    dsimp only at h
    simp only [Bool.and_eq_true, Bool.not_eq_true'] at hc
    obtain ⟨⟨⟨⟨⟨⟨⟨⟨c0, c1⟩, c2⟩, c5⟩, c6⟩, c7⟩, c8⟩, cx⟩, cy⟩ := hc
    refine ⟨fun _ => ?_, fun k hk => by cases hk⟩
    have hiL : i < L.length := (Yo.1 hi).1
    have hjL : j < L.length := (Yo.1 hj).1
    obtain ⟨h1, h2⟩ := h
    have lt' : ∀ k, k < L.length → ∀ z ∈ k :: listed, z < L.length := fun k hk z hz => by
     rcases Yv.1 hz with rfl | hz
     ·exact hk
     ·exact hlt z hz
    show wpAnyH P .any L.toArray Q S (x.len + 1) la a w
    have hready : ∀ k ∈ Region.ready .any L.toArray la, k = i ∨ k = j := fun k hk => by
     obtain ⟨k0, ok, hok, hall⟩ := mem_ready.1 hk
     have hkl : k < L.length := by have := (YI.1 hok).1; simpa using this
     have := ZoQ (k := k) c5 (by simpa using hok)
     rw [Yx] at this
     rcases this with h3 | h3 | h3 | ⟨e, he, hb, hno⟩
     ·have := (hl k hkl).2 h3; rw [k0] at this; cases this
     ·exact .inl h3
     ·exact .inr h3
     ·have h4 := hall e he hb
      have h5 : e.on < L.length := by
       rcases Ym e.on la.size with h | h
       ·omega
       ·simp [YM h, Yk] at h4
      refine absurd ((hl e.on h5).1 ?_) hno
      simp only [Yk] at h4 ⊢
      rw [Yh (by omega)] at h4 ⊢
      simpa using h4
    have hr := rdy la listed i oi hs hl hlt hi c1 c0
    refine ⟨fun h0 => (by rw [h0] at hr; cases hr), fun k hk => ?_⟩
    rcases hready k hk with rfl | rfl
    ·unfold wpOp
     have hkA : L.toArray[k]? = some oi := by simpa using hi
     simp only [hkA]
     rw [if_pos (by simp [Region.wanted, hu k _ hkA])]
     exact .inl (Oper.wp_mono (fun a' w' hh => ⟨hh.1.1, (ihx (ZcA P env oi) (k :: listed) _ a' w' (by simp [hs]) (next la listed k hs hl) (lt' k hiL) (hD.ready hk) c7 (envF env oi hF) (jput env oi a a' w _ h1 hJ hh.2.1 hh.2.2) hh.1.1 hh.1.2).1 cx⟩) (Zju h1))
    ·unfold wpOp
     have hkA : L.toArray[k]? = some oj := by simpa using hj
     simp only [hkA]
     rw [if_pos (by simp [Region.wanted, hu k _ hkA])]
     rw [Ya c6]
     exact .inl (Oper.wp_mono (fun a' w' hh => ⟨hh.1.1, (ihy (ZcA P env oj) (k :: listed) _ a' w' (by simp [hs]) (next la listed k hs hl) (lt' k hjL) (hD.ready hk) c8 (envF env oj hF) (jput env oj a a' w _ h2 hJ hh.2.1 hh.2.2) hh.1.1 hh.1.2).1 cy⟩) (Zju h2))
 | opt hh0 i x y ihx ihy =>
  intro env listed la a w hs hl hlt hD hc hF hJ hS h
  unfold Zfu at hc
  unfold ZiN at h
  cases hi : L[i]? with
  | none => rw [ZbC, hi] at hc; simp at hc
  | some oi =>
   rw [ZbC, hi] at hc h
   dsimp only at h
   simp only [Bool.and_eq_true, Bool.not_eq_true', Bool.or_eq_true] at hc
   obtain ⟨⟨⟨⟨⟨c0, c1⟩, c5⟩, c7⟩, cx⟩, cy⟩ := hc
   have hiL : i < L.length := (Yo.1 hi).1
   obtain ⟨h1, h2⟩ := h
   have lt' : ∀ k, k < L.length → ∀ z ∈ k :: listed, z < L.length := fun k hk z hz => by
    rcases Yv.1 hz with rfl | hz
    ·exact hk
    ·exact hlt z hz
   have hr := rdy la listed i oi hs hl hlt hi c1 c0
   have hB : ∀ k ∈ ZFw (.opt hh0 i x y), wpOp P L.toArray Q k (fun a' w' => S w' ∧ wpAnyH P .any L.toArray Q S x.len (la.setIfInBounds k true) a' w') a w := fun k hk => by
    rcases Yv.1 hk with rfl | hk
    ·unfold wpOp
     have hkA : L.toArray[k]? = some oi := by simpa using hi
     simp only [hkA]
     rw [if_pos (by simp [Region.wanted, hu k _ hkA])]
     exact .inl (Oper.wp_mono (fun a' w' hh => ⟨hh.1.1, (ihx (ZcA P env oi) (k :: listed) _ a' w' (by simp [hs]) (next la listed k hs hl) (lt' k hiL) (hD.ready hr) c7 (envF env oi hF) (jput env oi a a' w _ h1 hJ hh.2.1 hh.2.2) hh.1.1 hh.1.2).1 cx⟩) (Zju h1))
    ·have hy : Zrw y = true := by cases y with | opt _ _ _ _ => rfl | _ => cases hk
     rcases cy with cy | ⟨cy, cz⟩
     ·rw [hy] at cy; cases cy
     ·have := (ihy env listed la a w hs hl hlt hD cz hF hJ hS (h2 hy)).2 k hk
      rw [Ya cy, Nat.add_sub_cancel] at this
      exact this
   refine ⟨fun hcov => ?_, hB⟩
   show wpAnyH P .any L.toArray Q S (x.len + 1) la a w
   refine ⟨fun h0 => (by rw [h0] at hr; cases hr), fun k hk => hB k ?_⟩
   obtain ⟨k0, ok, hok, hall⟩ := mem_ready.1 hk
   have hkl : k < L.length := by have := (YI.1 hok).1; simpa using this
   have := ZjJ (k := k) c5 (by simpa using hok)
   rw [Yx] at this
   rcases this with h3 | h3 | ⟨e, he, hb, hno⟩
   ·have := (hl k hkl).2 h3; rw [k0] at this; cases this
   ·exact ZcT.1 (Yg.1 hcov k h3)
   ·have h4 := hall e he hb
    have h5 : e.on < L.length := by
     rcases Ym e.on la.size with h | h
     ·omega
     ·simp [YM h, Yk] at h4
    refine absurd ((hl e.on h5).1 ?_) hno
    simp only [Yk] at h4 ⊢
    rw [Yh (by omega)] at h4 ⊢
    simpa using h4
 | fst i rest ih =>
  intro env listed la a w hs hl hlt hD hc hF hJ hS h
  unfold Zfu at hc
  unfold ZiN at h
  cases hi : L[i]? with
  | none => rw [ZbC, hi] at hc; simp at hc
  | some oi =>
   rw [ZbC, hi] at hc h
   dsimp only at h
   simp only [Bool.and_eq_true, Bool.not_eq_true'] at hc
   obtain ⟨⟨⟨⟨c1, c2⟩, c3⟩, c4⟩, c9⟩ := hc
   refine ⟨fun _ => ?_, fun k hk => by cases hk⟩
   have hiL : i < L.length := (Yo.1 hi).1
   have hiA : L.toArray[i]? = some oi := by simpa using hi
   have hun := un la listed i hl hiL c1
   have hr := rdy la listed i oi hs hl hlt hi c1 c2
   have hlt' : ∀ x ∈ i :: listed, x < L.length := fun x hx => by
    rcases Yv.1 hx with rfl | hx
    ·exact hiL
    ·exact hlt x hx
   have ih : ∀ a' w', S w' → JF β (ZcA P env oi) a' → ZiN P L Q S rest a' w' → wpAnyH P .any L.toArray Q S rest.len (la.setIfInBounds i true) a' w' := fun a' w' hS' hJ' h =>
    (ih (ZcA P env oi) (i :: listed) _ a' w' (by simp [hs]) (next la listed i hs hl) hlt' (hD.ready hr) c4 (envF env oi hF) hJ' hS' h).1 c9
   have hli : ∀ j, j < L.length → la.getD j true = false → j ∉ listed := fun j hj hun hm => by
    have := (hl j hj).2 hm
    rw [hun] at this
    cases this
   have free : Zlz.chkV P L listed i oi 0 L = true → ∀ j oj, L.toArray[j]? = some oj → j ≠ i → la.getD j true = false → (∀ e ∈ oj.after, Region.binds .any e = true → e.on ≠ i) → oi.apart L.toArray oj = true := fun c3 j oj hoj hji hjun hno => by
    have hjl : j < L.length := by have := (YI.1 hoj).1; simpa using this
    have := ZoJ (k := j) c3 (by simpa using hoj)
    rw [Yx] at this
    rcases this with h3 | h3 | ⟨e, he, hb, he2⟩ | h3
    ·exact absurd h3 (hli j hjl hjun)
    ·exact absurd h3 hji
    ·exact absurd he2 (hno e he hb)
    ·exact h3
   show wpAnyH P .any L.toArray Q S (rest.len + 1) la a w
   have h' := Zju h
   by_cases hv : vpO P oi = true
   ·rw [hv] at c3
    simp only [Bool.true_or] at c3
    obtain ⟨v1, v2⟩ := Zhi (P := P) (ρ := a.eval) hv
    have h0 := h
    unfold Oper.wp at h
    cases hrun : (execOp a.eval oi).run P w with
    | halt x w' =>
     rw [hrun] at h
     cases x <;> simp only [Oper.upon] at h
     exact absurd h (hQ _ _ _)
    | ok n w' =>
     obtain ⟨rfl, v3⟩ := v1 _ _ _ hrun
     obtain ⟨u, rfl⟩ := v2 _ _ _ hrun
     rw [hrun] at h
     simp only [Oper.upon] at h
     exact wpAnyH_first hiA hsel (fun c a w hq => absurd hq (hQ _ _ _)) rest.len la a w' (free c3) hr (.inl ⟨by simp [Region.wanted, hu i oi hiA], fun w2 _ => v3 w2⟩) hS (ih _ _ h.1 (jput env oi a _ w' _ h0 hJ ⟨u, fun _ => rfl⟩ fun v w1 e => by rw [hrun] at e; cases e; rfl) h.2)
   ·have hv' : vpO P oi = false := by cases hq : vpO P oi with | false => rfl | true => exact absurd hq hv
    rw [hv', YaK] at c3
    by_cases hh : Znq env oi = true
    ·rw [hh] at c3
     obtain ⟨t, x, y, r, ho, hy, he⟩ : ∃ t x y r, oi.op = .load t x ∧ ZiD x = some y ∧ ZhD y env = some r := by
      unfold Znq at hh
      split at hh
      ·rename_i t x ho
       split at hh
       ·rename_i y hy
        obtain ⟨r, hr⟩ := YH.1 hh
        exact ⟨t, x, y, r, ho, hy, hr⟩
       ·cases hh
      ·cases hh
     have hrd : rdO P oi = true := by unfold rdO; rw [hv', ho]; rfl
     obtain ⟨v1, v2⟩ := ZfW (P := P) (ρ := a.eval) hrd
     have h0 := h
     unfold Oper.wp at h
     cases hrun : (execOp a.eval oi).run P w with
     | halt x w' =>
      rw [hrun] at h
      cases x <;> simp only [Oper.upon] at h
      exact absurd h (hQ _ _ _)
     | ok n w' =>
      have e := v1 _ _ _ hrun
      subst e
      obtain ⟨u, rfl⟩ := v2 _ _ _ hrun
      rw [hrun] at h
      simp only [Oper.upon] at h
      have hyl : YieldsIf P L.toArray S oi u a := .inl ⟨by simp [Region.wanted, hu i oi hiA], fun w2 hS2 => by
       obtain ⟨b, hb, hlo⟩ := ZyH (w2 := w2) ho hrun
       have hb' : b = β r := hJ _ (ZcX he) b (by rw [← Zfl hy]; exact hb)
       have hFb : F b := by rw [hb']; exact hF _ (ZcX he)
       have e1 := hS0 b w' hFb hS
       have e2 := hS0 b w2 hFb hS2
       obtain ⟨C, q1, q2, q3⟩ := hC b hFb
       exact hlo ⟨C, q1, q2, by rw [e1]; exact q3⟩ (by rw [e1, e2])⟩
      exact wpAnyH_first hiA hsel (fun c a w hq => absurd hq (hQ _ _ _)) rest.len la a w' (free c3) hr hyl hS (ih _ _ h.1 (jput env oi a _ w' _ h0 hJ ⟨u, fun _ => rfl⟩ fun v w1 e => by rw [hrun] at e; cases e; rfl) h.2)
    ·have hh' : Znq env oi = false := by cases hq : Znq env oi with | false => rfl | true => exact absurd hq hh
     rw [hh'] at c3
     have at_ : ∀ j oj, L.toArray[j]? = some oj → j ≠ i → la.getD j true = false → ¬ Waits L.toArray j i → oi.apart L.toArray oj = true ∧ rdO P oi = true ∧ (rdO P oj || grO oj) = true := fun j oj hoj hji hjun hno => by
      have hjl : j < L.length := by have := (YI.1 hoj).1; simpa using this
      have := Zpz (k := j) c3 (by simpa using hoj)
      rw [Yx] at this
      rcases this with h3 | h3 | h3 | ⟨h3, h4⟩
      ·exact absurd h3 (hli j hjl hjun)
      ·exact absurd h3 hji
      ·exact absurd h3 hno
      ·rcases h4 with h4 | h4
       ·exact absurd h4 hv
       ·exact ⟨h3, h4⟩
     by_cases hrd : rdO P oi = true
     ·obtain ⟨v1, v2⟩ := ZfW (P := P) (ρ := a.eval) hrd
      have h0 := h
      unfold Oper.wp at h
      cases hrun : (execOp a.eval oi).run P w with
      | halt x w' =>
       rw [hrun] at h
       cases x <;> simp only [Oper.upon] at h
       exact absurd h (hQ _ _ _)
      | ok n w' =>
       have e := v1 _ _ _ hrun
       subst e
       obtain ⟨u, rfl⟩ := v2 _ _ _ hrun
       rw [hrun] at h
       simp only [Oper.upon] at h
       exact ZiK hiA hrd hu hsel hQ hO rest.len la a w' hD (fun j oj hoj hji hjun hno => ⟨(at_ j oj hoj hji hjun hno).1, (at_ j oj hoj hji hjun hno).2.2⟩) hr hrun hS (ih _ _ h.1 (jput env oi a _ w' _ h0 hJ ⟨u, fun _ => rfl⟩ fun v w1 e => by rw [hrun] at e; cases e; rfl) h.2)
     ·refine ⟨fun h0 => (by rw [h0] at hr; cases hr), fun j hj => ?_⟩
      have hji : j = i := by
       apply Classical.byContradiction
       intro hji
       obtain ⟨hjun, oj, hoj, _⟩ := mem_ready.1 hj
       exact hrd (at_ j oj hoj hji hjun (hD.nowait hj hun)).2.1
      subst hji
      unfold wpOp
      simp only [hiA]
      rw [if_pos (by simp [Region.wanted, hu j oi hiA])]
      exact .inl (Oper.wp_mono (fun a' w' hh => ⟨hh.1.1, ih a' w' hh.1.1 (jput env oi a a' w _ h hJ hh.2.1 hh.2.2) hh.1.2⟩) h')
end
def wrR (r : Ren) : List (Key × Blk) → Prop
 | [] => True
 | (k, _) :: t => match Nat.beq k.1 1 with | true => wrR r t | false => WrS r k ∧ wrR r t
def ZEQ : List (Key × Blk) → Hp → Hp
 | [], H => H
 | (k, b) :: t, H => ZEQ t (updH H k b)
def pHc (P : Program) (l n os : Nat) (r : Ren) (dst : Option Nat) (fo : AV) (xs : List AV) (a : AT) (K : St → AT → Prop) (τ : St) : Prop :=
 match fo, a with
 | .fn (.func f) [] [], .hard x ks hb2 [] b => (match ks.all (okK os), ZhF os hb2 with
  | true, true => Zg2 P l r f xs (ks.map fun k => (k, τ.H k)) x hb2 [] ∧ wrR r hb2 ∧ ZEX n K τ.s (ZEQ hb2 τ.H) x b dst
  | _, _ => False)
 | _, _ => False
def ZEb : AT → Bool
 | .hard _ _ _ _ _ => true
 | _ => false
def ZyG (P : Program) (T : Nat → Option TI) (l n os : Nat) (r : Ren) (o : Oper) (a : AT) (K : St → AT → Prop) (τ : St) : Prop :=
 match ZEb a, o.op with
 | true, .call c => (match c.callee with
  | .value fo => pHc P l n os r o.dst (ev τ.s fo) (c.args.toList.map (ev τ.s)) a K τ
  | _ => False)
 | _, _ => ZpY P T l n r o a K τ
section
variable {P : Program} {T : Nat → Option TI} {r : Ren} {l n outs : Nat} {B : Base} {env : Env} {τ σ : St} {a : AT} {o : Oper} {K : St → AT → Prop}
theorem Zjx (hr : RenOk r l outs) : ∀ (hb2 : List (Key × Blk)) {τ σ : St}, ZhF outs hb2 = true → wrR r hb2 → RG r l outs env τ σ → RG r l outs env ⟨τ.s, ZEQ hb2 τ.H⟩ ⟨σ.s, ZdK r hb2 σ.H⟩
 | [], τ, σ, _, _, h => h
 | (k, b) :: t, τ, σ, hk, hw, h => by
  simp only [ZhF, Bool.and_eq_true] at hk
  obtain ⟨⟨⟨k1, k2⟩, k3⟩, k4⟩ := hk
  have hko : Zut r outs k ∧ wrR r t := by
   unfold wrR at hw
   rcases ZdU k1 with h1 | ⟨h1, h2⟩
   ·rw [h1] at hw; exact ⟨.inl h1, hw⟩
   ·rw [h1] at hw; exact ⟨.inr ⟨h1, h2, hw.1.2⟩, hw.2⟩
  exact Zjx hr t (τ := ⟨τ.s, updH τ.H k b⟩) (σ := ⟨σ.s, updH σ.H (r.κ k) (Za1 r k b)⟩) k4 hko.2 (RG.updH hr h k b k2 hko.1)
theorem Zez (hr : RenOk r l outs) (hT : TOk P T) (h : RG r l outs env τ σ) (hc : Zck env [] o.op = true) (hf : ZdO env o.dst = true) (hp : ZyG P T l n outs r o a K τ) : AOp P l n B o (KA r l n outs B (ZdP env o.dst) K) σ := by
 unfold ZyG at hp
 split at hp
 case h_2 => exact Zkj hr hT h hc hf hp
 rename_i c ha ho
 split at hp
 case h_2 => exact hp.elim
 rename_i fo hcal
 unfold pHc at hp
 split at hp
 case h_2 => exact hp.elim
 rename_i f x ks hb2 b hfo
 split at hp
 case h_2 => exact hp.elim
 rename_i hks hokh
 obtain ⟨h1, h2, h3⟩ := hp
 have ops : ∀ x ∈ o.op.operands, ev σ.s x = ren r (ev τ.s x) := by
  unfold Zck at hc
  split at hc
  ·grind
  ·exact ZcQ h Zal hc
 rw [ho] at ops
 have hops : ∀ x, x = fo ∨ x ∈ c.args.toList → x ∈ (Op.call c).operands := fun x hx => by
  simp only [Op.operands, Call.operands, hcal]
  grind
 have hfe : ev σ.s fo = .fn (.func f) [] [] := by rw [ops fo (hops fo (.inl rfl)), hfo]; simp [ren, Zaq]
 have hA := h1 σ.H (fun p hp => by
  obtain ⟨q, hq, rfl⟩ := YB.1 hp
  have hq' := ZdU (Yg.1 hks q hq)
  refine ⟨?_, fun hl => h.h q hl⟩
  obtain ⟨q1, q2⟩ := q
  simp only at hq'
  rcases hq' with rfl | ⟨rfl, h2⟩
  ·have := h.g q2
   rw [← hr.own] at this
   exact this
  ·exact h.go q2 h2) h.o
 have hargs : Zaq r (c.args.toList.map (ev τ.s)) = c.args.toList.map (ev σ.s) := by
  rw [Zcy, Yaf]
  exact YR fun y hy => (ops y (hops y (.inr hy))).symm
 refine Zdt ?_
 unfold rOp
 rw [ho]
 simp only [hcal, hfe, Yaa, Yaz]
 rw [hargs] at hA
 refine hA.mono fun y H'' ⟨γ', e1, e2, e3⟩ => ?_
 have hγ : γ' = r.γ := funext fun k => e1 k (by simp)
 subst hγ
 have e2 : y = ren r x := e2
 have e3 : H'' = ZdK r hb2 σ.H := e3
 subst e3
 exact Zn4 (τ' := ⟨τ.s, ZEQ hb2 τ.H⟩) hf (Zjx hr hb2 hokh h2 h) e2 h3
end
def pPl (P : Program) (T : Nat → Option TI) (l n os : Nat) (r : Ren) (L : List Oper) : Pl → Env → AT → (St → Env → AT → Prop) → St → Prop
 | .nil, env, a, K, τ => K τ env a
 | .fst i x, env, a, K, τ => match nth L i with
  | some o => (match Zck env [] o.op, ZdO env o.dst with
   | true, true => ZyG P T l n os r o a (fun τ' a' => pPl P T l n os r L x (ZdP env o.dst) a' K τ') τ
   | _, _ => False)
  | none => False
 | .two i j x y, env, a, K, τ => match nth L i, nth L j, a with
  | some o, some o', .br a1 a2 => (match Zck env [] o.op, ZdO env o.dst, Zck env [] o'.op, ZdO env o'.dst with
   | true, true, true, true => ZyG P T l n os r o a1 (fun τ' a' => pPl P T l n os r L x (ZdP env o.dst) a' K τ') τ ∧ ZyG P T l n os r o' a2 (fun τ' a' => pPl P T l n os r L y (ZdP env o'.dst) a' K τ') τ
   | _, _, _, _ => False)
  | _, _, _ => False
 | .opt _ i x y, env, a, K, τ => match nth L i with
  | some o => (match Zck env [] o.op, ZdO env o.dst with
   | true, true => (match Zrw y with
    | true => (match a with
     | .br a1 a2 => ZyG P T l n os r o a1 (fun τ' a' => pPl P T l n os r L x (ZdP env o.dst) a' K τ') τ ∧ pPl P T l n os r L y env a2 K τ
     | _ => False)
    | false => ZyG P T l n os r o a (fun τ' a' => pPl P T l n os r L x (ZdP env o.dst) a' K τ') τ)
   | _, _ => False)
  | none => False
section
variable {P : Program} {T : Nat → Option TI} {r : Ren} {l n outs : Nat} {B : Base}
theorem Zn3 (hr : RenOk r l outs) (hT : TOk P T) {L : List Oper} {K : St → Env → AT → Prop} {QQ : Exit → Act → World → Prop} {S : World → Prop} (hS : ∀ σ a w, R l n B σ a w → S w)
  (hK : ∀ τ' env' a' σ' act' w', K τ' env' a' → RG r l outs env' τ' σ' → R l n B σ' act' w' → QQ .normal act' w') :
  ∀ (π : Pl) (env : Env) (a : AT) (τ σ : St) (act : Act) (w : World), pPl P T l n outs r L π env a K τ → RG r l outs env τ σ → R l n B σ act w → ZiN P L QQ S π act w := by
 intro π
 induction π with
 | nil => intro env a τ σ act w h hG hR; exact hK _ _ _ _ _ _ h hG hR
 | fst i x ih =>
  intro env a τ σ act w h hG hR
  unfold pPl at h
  split at h
  ·rename_i o ho
   unfold ZiN
   rw [ho]
   split at h
   ·rename_i hc hf
    refine Oper.wp_mono (fun act' w' hh => ?_) (Zez (B := B) hr hT hG hc hf h act w hR QQ)
    obtain ⟨σ', ⟨σ'', ⟨τ', a', h1, h2⟩, h3⟩, h4⟩ := hh
    grind
   grind
  grind
 | two i j x y ihx ihy =>
  intro env a τ σ act w h hG hR
  unfold pPl at h
  split at h
  ·rename_i o o' a1 a2 ho ho'
   unfold ZiN
   rw [ho, ho']
   split at h
   ·rename_i hc hf hc' hf'
    refine ⟨Oper.wp_mono (fun act' w' hh => ?_) (Zez (B := B) hr hT hG hc hf h.1 act w hR QQ), Oper.wp_mono (fun act' w' hh => ?_) (Zez (B := B) hr hT hG hc' hf' h.2 act w hR QQ)⟩
    ·obtain ⟨σ', ⟨σ'', ⟨τ', a', h1, h2⟩, h3⟩, h4⟩ := hh
     grind
    ·obtain ⟨σ', ⟨σ'', ⟨τ', a', h1, h2⟩, h3⟩, h4⟩ := hh
     grind
   grind
  grind
 | opt hs i x y ihx ihy =>
  intro env a τ σ act w h hG hR
  unfold pPl at h
  split at h
  ·rename_i o ho
   unfold ZiN
   rw [ho]
   split at h
   ·rename_i hc hf
    split at h
    ·split at h
     ·refine ⟨Oper.wp_mono (fun act' w' hh => ?_) (Zez (B := B) hr hT hG hc hf h.1 act w hR QQ), fun _ => ihy _ _ _ _ _ _ h.2 hG hR⟩
      obtain ⟨σ', ⟨σ'', ⟨τ', a', h1, h2⟩, h3⟩, h4⟩ := hh
      grind
     grind
    ·rename_i hy
     refine ⟨Oper.wp_mono (fun act' w' hh => ?_) (Zez (B := B) hr hT hG hc hf h act w hR QQ), fun h0 => by rw [hy] at h0; cases h0⟩
     obtain ⟨σ', ⟨σ'', ⟨τ', a', h1, h2⟩, h3⟩, h4⟩ := hh
     grind
   grind
  grind
end
def zB (s : Nat → AV) : List Nat → Bool
 | [] => true
 | z :: r => (match s z with | .iptr (_ :: _) _ => true | _ => false) && zB s r
theorem ZBK {s : Nat → AV} : ∀ {Z : List Nat}, zB s Z = true → ∀ z ∈ Z, ∃ x ds off, s z = .iptr (x :: ds) off
 | [], _, z, hz => by cases hz
 | y :: r, h, z, hz => by
  simp only [zB, Bool.and_eq_true] at h
  rcases Yv.1 hz with rfl | hz
  ·grind
  ·exact ZBK h.2 z hz
def ZCq (P : Program) (π : Pl) (Z : List Nat) : Code → Bool
 | .region _ ops true => ops.toList.all noG && Nat.beq π.len ops.toList.length && Zfu P ops.toList (Z.map fun z => (z, z)) [] π && Zzx π
 | _ => false
section
variable {P : Program} {T : Nat → Option TI} {n : Nat} {C : Cx} {τ : St} {Q : Exit → St → Prop} {os : Nat} {c : Code} {β : Type} {L : β → Prop} {y : β}
theorem Zy5 {fx : List Nat} (co : COx C os fx) (hT : TOk P T) (hm' : P.follows .mixedOrders = true) (π : Pl) (Z : List Nat) (v : PT os β) (lf : Lf) (hv : v.m = some y) (hL : HL L y) (hn : ∀ r (g : Gd C r), v.n ⟨⟨C.l, r, Q, fun _ _ => False⟩, L, C, _, co, g, rfl⟩)
  (hq : ∀ l r Q Post, Zdj r os v.a τ (fun τ a => match zB τ.s Z with | true => pPl P T l n os r (Zcw c).toList π [] a (fun τ' env a' => Zdj r os a' (ZiX env τ') (fun τ _ => Ze8 fx lf τ (Q .normal))) τ | false => False) = v.q ⟨l, r, Q, Post⟩ := by intro l r Q P; kernel_rfl)
  (hk : ZCq P π Z c = true := by kernel_rfl) : LW P n C c τ Q := by
 cases c with
 | region id ops dr =>
  cases dr with
  | false => cases hk
  | true =>
   obtain ⟨L', rfl⟩ : ∃ l : List Oper, ops = l.toArray := ⟨ops.toList, by simp⟩
   simp only [ZCq, Bool.and_eq_true] at hk
   obtain ⟨⟨⟨k1, k2⟩, k3⟩, k4⟩ := hk
   intro γ σ hg hG a w hR
   have hR' : R C.l n C.B σ a { w with drawn := w.drawn + 1 } := by
    obtain ⟨s, H⟩ := σ
    obtain ⟨m, S, hO, hn, hdf, hS, hex⟩ := hR.un
    obtain ⟨h1, h2⟩ := hO.drew (w' := { w with drawn := w.drawn + 1 }) rfl rfl rfl rfl
    exact R.keep h1 hn hdf hS hex h2
   have h1 := v.ok _ (hn (C.r γ) ⟨rfl, rfl, rfl, rfl⟩) y hv hL
   rw [← hq] at h1
   generalize v.a = va at h1
   have ok := co.ok
   rw [← co.O, ← co.F] at h1
   obtain ⟨τ₁, a₁, σ₁, h2, hG1, hw1⟩ := Zap (n := n) ok va h1 hG
   split at h2
   case h_2 => exact h2.elim
   rename_i hz
   have hR1 := hw1 _ _ hR'
   obtain ⟨s1, H1⟩ := σ₁
   obtain ⟨m1, S1, hO1, hn1, hd1, hSl1, hex1⟩ := hR1.un
   let B1 : Base := ⟨H1, m1, S1, { w with drawn := w.drawn + 1 }⟩
   have hRB : R C.l n B1 ⟨s1, H1⟩ a { w with drawn := w.drawn + 1 } := ⟨m1, S1, hO1, hn1, hd1, hSl1, Ext.refl _ _ _ _ _⟩
   have back : ∀ σ' a' w', R C.l n B1 σ' a' w' → R C.l n C.B σ' a' w' := fun σ' a' w' h => by
    obtain ⟨m2, S2, g1, g2, g3, g4, g5⟩ := h
    exact ⟨m2, S2, g1, g2, g3, g4, hex1.trans g5⟩
   let S : World → Prop := fun w' => ∀ b, S1 b → w'.heap[b]? = ({ w with drawn := w.drawn + 1 } : World).heap[b]?
   have hS1 : ∀ σ' a' w', R C.l n B1 σ' a' w' → S w' := fun σ' a' w' h b hb => by
    obtain ⟨m2, S2, g1, g2, g3, g4, g5⟩ := h
    exact g5.blk b hb
   have hGd : ∀ (j : Nat) (o : Oper), L'.toArray[j]? = some o → noG o = true := fun j o ho => Yg.1 k1 o (Yp (by simpa using ho))
   have hu : ∀ (j : Nat) (o : Oper), L'.toArray[j]? = some o → o.guard = none := fun j o ho => by
    have := hGd j o ho
    unfold noG at this
    rw [Bool.and_eq_true] at this
    cases hg : o.guard with
    | none => rfl
    | some _ => rw [hg] at this; simp at this
   have hsel : ∀ (j : Nat) (o : Oper) cs b, L'.toArray[j]? = some o → o.op ≠ .select cs b := fun j o cs b ho he => by
    have := hGd j o ho
    unfold noG at this
    rw [he, Bool.and_eq_true] at this
    simp at this
   let Q2 : Exit → Act → World → Prop := fun e a' w' => ∃ σ', Is n C (match e with | .normal => Q .normal | _ => fun _ => False) σ' ∧ R C.l n C.B σ' a' w'
   have hpl : ZiN P L' Q2 S π a { w with drawn := w.drawn + 1 } := by
    refine Zn3 (ok.ren γ) hT (B := B1) hS1 (fun τ' env' a' σ' act' w' k1 k2 k3 => ?_) π [] a₁ τ₁ ⟨s1, H1⟩ a _ h2 hG1 hRB
    obtain ⟨σ₂, g1, g2⟩ := Zdr (n := n) k2
    obtain ⟨τ₃, a₃, σ₃, f1, f2, f3⟩ := Zap (n := n) ok a' k1 g1
    obtain ⟨γ', τ₄, σ₄, j0, j1, j2, j3⟩ := Zb3 (n := n) ok f1 hg f2
    exact ⟨σ₄, ⟨γ', τ₄, σ₄, j0, j1, j2, Wk.refl _⟩, j3 _ _ (f3 _ _ (g2 _ _ (back _ _ _ k3)))⟩
   have hF : ∀ z ∈ Z, ∃ b, pb (a.eval (.tmp z)) = some b ∧ S1 b ∧ Cel { w with drawn := w.drawn + 1 } b := fun z hz' => by
    obtain ⟨x, ds, off, e⟩ := ZBK hz z hz'
    have hsz : s1 z = .iptr (x :: ds) off := by
     have := (hG1.s z).1 Zal
     simp only at this
     rw [this, e]; simp [ren]
    have hx := hSl1 z
    rw [hsz] at hx
    show ∃ b, pb (a.tmps.getD z Go.undef) = some b ∧ _
    generalize a.tmps.getD z Go.undef = vv at hx
    cases hx with
    | iptr _ _ ad c hb hc hr =>
     refine ⟨(ad.add off).block, rfl, by rw [block_add]; exact hb, ?_⟩
     rw [block_add]
     have h0 := hc 0 x rfl
     simp only [World.cell?] at h0
     have hbk : (ad.add 0).block = ad.block := block_add _ _
     rw [hbk] at h0
     split at h0
     ·rename_i C0 e0 f0 hh; exact ⟨C0, e0, f0, hh⟩
     ·cases h0
   have hw := Zm6 (P := P) (L := L') (Q := Q2) (S := S) (β := fun z => (pb (a.eval (.tmp z))).getD 0) (F := fun b => S1 b ∧ Cel { w with drawn := w.drawn + 1 } b) (w0 := { w with drawn := w.drawn + 1 }) (fun b w' hb hS => hS b hb.1) (fun b hb => hb.2) hu hsel
    (fun c a w ⟨σ', ⟨_, _, _, _, hf, _⟩, _⟩ => hf) (fun ⟨a, w, σ', ⟨_, _, _, _, hf, _⟩, _⟩ => hf) π (Z.map fun z => (z, z)) [] (Array.replicate L'.toArray.size false) a { w with drawn := w.drawn + 1 } (by simp) (fun j hj => by simp [hj]) (fun x hx => by cases hx)
    (fun m om hm hl => by
     have : (Array.replicate L'.toArray.size false).getD m false = false := by
      simp only [Yk, Array.getElem?_replicate]
      split <;> rfl
     rw [this] at hl
     cases hl) (by simpa using k3)
    (fun p hp => by
     obtain ⟨z, hz1, rfl⟩ := YB.1 hp
     obtain ⟨b, b1, b2⟩ := hF z hz1
     simp only [b1, YU]; exact b2)
    (fun p hp b hb => by
     obtain ⟨z, hz1, rfl⟩ := YB.1 hp
     simp only at hb
     simp only [hb, YU]) (fun b hb => rfl) hpl
   have hs : π.len = L'.toArray.size := by simpa using Ya k2
   rw [hs] at hw
   refine wp_mono (wp_region_held hm' (hw.1 k4)) fun e a' w' ⟨σ', h1, h2⟩ => ⟨σ', ?_, h2⟩
   cases e with
   | normal => exact h1
   | _ => obtain ⟨_, _, _, _, hf, _⟩ := h1; exact hf.elim
 | _ => cases hk
@[reducible] def tw (k1 k2 : PT os β) : PT os β := ⟨.br k1.a k2.a, fun E => k1.q E ∧ k2.q E, k1.m, fun E => k1.n E ∧ k2.n E ∧ (∀ y, k1.m = some y → k2.m = some y), fun E hn y hm hL => ⟨k1.ok E hn.1 y hm hL, k2.ok E hn.2.1 y (hn.2.2 y hm) hL⟩⟩
theorem Zmy {C : Cx} {r : Ren} (g : Gd C r) : ∀ {hb2 : List (Key × Blk)}, ZhF os hb2 = true → wrL C hb2 → wrR r hb2
 | [], _, _ => trivial
 | (k, b) :: t, hk, h => by
  simp only [ZhF, Bool.and_eq_true] at hk
  obtain ⟨⟨⟨k1, k2⟩, k3⟩, k4⟩ := hk
  unfold wrR
  unfold wrL at h
  rcases ZdU k1 with h1 | ⟨h1, h2⟩
  ·rw [h1] at h ⊢; exact Zmy g k4 h
  ·rw [h1] at h ⊢; exact ⟨⟨h1, by rw [g.no, g.κ]; exact h.1⟩, Zmy g k4 h.2⟩
@[reducible] def ch {γ : Type} [Inhabited γ] (P : Program) (f : FuncId) (xs : List AV) (ks : List Key) (hb : List (Key × Blk)) (M : Option γ) (e : γ → AV) (hb2 : γ → List (Key × Blk)) (k : γ → PT os β) (hok : ∀ z, ZhF os (hb2 z) = true := by intro z; kernel_rfl) : PT os β :=
 ⟨.hard (e (M.getD default)) ks (hb2 (M.getD default)) [] (k (M.getD default)).a, fun E => Zg2 P E.l E.r f xs hb (e (M.getD default)) (hb2 (M.getD default)) [] ∧ wrR E.r (hb2 (M.getD default)) ∧ (k (M.getD default)).q E, M.bind fun y => (k y).m,
 fun E => (∀ y, M = some y → Zg2 P E.C.l E.E.r f xs hb (e y) (hb2 y) []) ∧ (∀ y, wrL E.C (hb2 y)) ∧ ∀ y, (k y).n E, fun E hn y hm hL => by
  obtain ⟨x, h1, h2⟩ := bind_some hm
  have h3 : M.getD default = x := by rw [h1]; rfl
  rw [h3]
  exact ⟨by rw [E.hl]; exact hn.1 x h1, Zmy E.g (hok x) (hn.2.1 x), (k x).ok E (hn.2.2 x) y h2 hL⟩⟩
end
end Go.Eng
namespace Go.Eng
set_option linter.all false
open Go Go.RowKit
section
variable {os : Nat} {β α : Type} [Rw α]
abbrev ZG7 (xs : List α) (off cn : Nat) (z : List AV) : List AV := (Zab Rw.e xs).take (off * Rw.s α) ++ (List.replicate cn z).flatten ++ (Zab Rw.e xs).drop ((off + cn) * Rw.s α)
@[reducible] def cr (xs : List α) (off cn : Nat) (z : List AV) (k : PT os β) : PT os β := ⟨.cs (ZG7 xs off cn z) k.a, fun E => ZGJ (Zab Rw.e xs) off cn (Rw.s α) z (ZG7 xs off cn z) ∧ k.q E,
 if off + cn ≤ xs.length then k.m else none, k.n, fun E hn y hm hL => by
  obtain ⟨h0, hm⟩ := ZaB hm
  exact ⟨Zri Rw.len h0, k.ok E hn y hm hL⟩⟩
@[reducible] def tro (q : Nat) (xs : List α) (off cn : Nat) (z : List AV) (k : PT os β) (hq : Nat.ble (q + 1) os = true := by kernel_rfl) : PT os β := ⟨.trim (0, q) (Zab Rw.e (xs.take off)) k.a, fun E => (∃ m, (ZG7 xs off cn z).take m = Zab Rw.e (xs.take off)) ∧ WrS E.r (0, q) ∧ k.q E,
 if off ≤ xs.length then k.m else none, k.n, fun E hn y hm hL => by
  obtain ⟨h0, hm⟩ := ZaB hm
  exact ⟨ZqZ Rw.len h0, ⟨rfl, by rw [E.g.no, E.g.κ]; exact E.co.W q (Yc hq)⟩, k.ok E hn y hm hL⟩⟩
end
theorem lfx {P : AV → List Blk → Prop} {v v' : AV} {B : List Blk} (e : v = v') (h : P v' B) : P v B := e ▸ h
def gF (gs fr : List Nat) (δ : Nat → Nat) : Key → Nat
 | (0, i) => match fr.any (Nat.beq i) with | true => δ i | false => gOf gs (0, i)
 | (_ + 1, _) => 0
def rF (l : Nat) (ks : List Key) (gs fr : List Nat) (δ : Nat → Nat) (H : Hp) : Ren := ⟨kOf l ks, gF gs fr δ, fun _ => .top, H, fun k => k ∈ ks⟩
def LvP (κ : Key → Key) : List (Nat × Nat) → Prop
 | [] => True
 | (a, b) :: t => (κ (0, a)).1 ≤ (κ (0, b)).1 ∧ LvP κ t
structure KG (P : Program) (f : FuncId) (os : Nat) (fr : List Nat) (lv : List (Nat × Nat)) (ys : List AV) (bi : List Blk) {γ : Type} (M : Option γ) (e : γ → AV) (bs : γ → List Blk) : Prop where
 k : ∀ l H (ks : List Key) (gs : List Nat), ks.length = os → Zt4 l ks → ks.Nodup → HOk H (rOf l ks gs (fun _ => .top) H) (Ziv 0 bi) 0 ks → LvP (kOf l ks) lv → ∀ y, M = some y →
  Zb8 P f l (Zaq (rOf l ks gs (fun _ => .top) H) ys) H (fun z H' => ∃ δ, z = ren (rF l ks gs fr δ H) (e y) ∧ H' = Zhz H ks (Zdh (rF l ks gs fr δ H) 0 (bs y)))
theorem kf1 {P : Program} {T : Nat → Option TI} {n : Nat} {f : FuncId} {fn : Func} {ys : List AV} {bi : List Blk} {γ : Type} {M : Option γ} {e : γ → AV} {bs : γ → List Blk} (hf : P.funcs[f]? = some fn) (hn : fn.ntmps = n) (hT : TOk P T) (rs : List ResultVar) (os : Nat) (fr fx : List Nat) (lv : List (Nat × Nat))
  (h : ∀ C : Cx, COx C os fx → LvP C.κ lv → ∀ y, M = some y → ∀ Post : AV → List Blk → Prop, HL (fun y => Post (e y) (bs y)) y → LW P n C (pa [] (Zah fn)) (mkS (Zix 0 ys) (Ziv 0 bi)) (FQ T rs os Post))
  (hfx : (ZsE os).all (fun i => fr.any (Nat.beq i) || fx.any (Nat.beq i)) = true := by kernel_rfl)
  (he : ∀ y, kno os (e y) = true := by intro y; kernel_rfl) (hB : ∀ y, Zpk os (bs y) := by intro y; repeat (first | exact trivial | refine ⟨.inl (Zaf _ _), rfl, ?_⟩ | refine ⟨.inl Zkw, rfl, ?_⟩ | refine ⟨.inr (by kernel_rfl), rfl, ?_⟩)) (hl : ∀ y, (bs y).length = os := by intro y; rfl) (hin : Zth os (Ziv 0 bi) = true := by kernel_rfl)
  (hb : fn.body = some (Zah fn) := by kernel_rfl) (hname : (fn.name == "runtime.NumGoroutine") = false := by kernel_rfl) (hr : fn.results.toList = rs := by kernel_rfl) (hx : Nat.ble ys.length n = true := by kernel_rfl) : KG P f os fr lv ys bi M e bs :=
 ⟨fun l H ks gs hks hlow hnd hH hlv y hy => by
  subst hks
  refine ZfC rs (Zah fn) ks gs fx (fun _ => .top) ys (Ziv 0 bi) (fun z b => z = e y ∧ b = bs y) hf hb hname hn hr (by rw [ZaF]; exact Yc hx) hT (Zhc hlow) hnd (Zf2 hin) (Zjd hin) (fun i k hk => by have := Zn9 hH i k hk; rw [Yx] at this; exact this) rfl (fun C hC hO hF hl' hH0 hθ hκ hno => ?_) fun z b ⟨e1, e2⟩ => ?_
  ·refine h C ⟨hC, hO, hF, fun q hq => ?_⟩ (by rw [hκ]; exact hlv) y hy _ ⟨rfl, rfl⟩
   rw [hno, hκ]
   show (match nth ks q with | some k => k | none => (0, 0)) ∈ ks
   rw [ZbC, Yb (by omega)]
   exact Yag _
  ·subst e1; subst e2
   refine ⟨hl y, (hB y).live, fun r h1 h2 h3 h4 h5 => ⟨fun i => r.γ (0, i), ?_⟩⟩
   have hs : ZkQ ks.length r (rF l ks gs fr (fun i => r.γ (0, i)) H) := fun q hq => by
    refine ⟨by rw [h1]; rfl, ?_⟩
    show r.γ (0, q) = match fr.any (Nat.beq q) with | true => r.γ (0, q) | false => gOf gs (0, q)
    cases hq' : fr.any (Nat.beq q) with
    | true => rfl
    | false =>
     have := Yg.1 hfx q (Zfg hq)
     rw [hq', YaK] at this
     obtain ⟨j, hj, e⟩ := YK.1 this
     have := Ya e
     subst this
     exact h5 q hj
   exact ⟨Zji hs _ (he y), by rw [Zpk.ren hs _ _ (by rw [hl]; omega) (hB y)]⟩⟩
def gB (r : Ren) (fr : List Nat) (δ : Nat → Nat) : Nat → List (Key × Blk) → Key → Nat
 | _, [], k => r.γ k
 | i, (q, _) :: t, k => match fr.any (Nat.beq i), ZdQ k q with | true, true => δ i | _, _ => gB r fr δ (i + 1) t k
def frK (fr : List Nat) : Nat → List (Key × Blk) → List Key
 | _, [] => []
 | i, (q, _) :: t => match fr.any (Nat.beq i) with | true => q :: frK fr (i + 1) t | false => frK fr (i + 1) t
theorem ZnG {r : Ren} {fr : List Nat} {δ : Nat → Nat} {k : Key} : ∀ (cb : List (Key × Blk)) (i : Nat), k ∉ frK fr i cb → gB r fr δ i cb k = r.γ k
 | [], i, _ => rfl
 | (q, b) :: t, i, h => by
  simp only [frK] at h
  simp only [gB]
  cases hf : fr.any (Nat.beq i) with
  | false => rw [hf] at h; exact ZnG t (i + 1) h
  | true =>
   rw [hf] at h
   simp only [Yv, not_or] at h
   have : ZdQ k q = false := by
    cases hk : ZdQ k q with
    | false => rfl
    | true => exact absurd (ZaR.1 hk) h.1
   rw [this]
   exact ZnG t (i + 1) h.2
def rB (r : Ren) (fr : List Nat) (δ : Nat → Nat) (cb : List (Key × Blk)) : Ren := ⟨r.κ, gB r fr δ 0 cb, r.θ, r.H0, r.no⟩
section
variable {P : Program} {f : FuncId} {os os' : Nat} {fr fx : List Nat} {lv : List (Nat × Nat)} {ys : List AV} {bi : List Blk} {γ : Type} {M : Option γ} {e : γ → AV} {bs : γ → List Blk} {C : Cx} {r : Ren} {xs : List AV} {x : AV} {y : γ}
theorem ZpU (K : KG P f os fr lv ys bi M e bs) (hy : M = some y) (co : COx C os' fx) (g : Gd C r) (cb cc cb2 : List (Key × Blk)) (hlo : LvP (kOf (C.l + 1) ((cb.map (·.1)).map r.κ)) lv)
  (hBE : ∀ H, BE (rC C r cb (fun _ => .top) H) r 0 bi cb) (hBE2 : ∀ H δ, BE (rF (C.l + 1) ((cb.map (·.1)).map r.κ) (Zlb r cb) fr δ H) (rB r fr δ cb) 0 (bs y) cb2) (hlv' : (bs y).all Blk.live = true := by kernel_rfl) (hx : ∀ H, Zaq (rC C r cb (fun _ => .top) H) ys = Zaq r xs := by intro H; kernel_rfl)
  (hy2 : ∀ H δ, ren (rF (C.l + 1) ((cb.map (·.1)).map r.κ) (Zlb r cb) fr δ H) (e y) = ren (rB r fr δ cb) x := by intro H δ; kernel_rfl)
  (hk : ((cb.map (·.1)).all (okK os') && ZeD (cb.map (·.1)) && Nat.beq cb.length os) = true := by kernel_rfl) (he : cb.map (·.1) = cb2.map (·.1) := by rfl) : Zg2 P C.l r f xs (cb ++ cc) x cb2 (frK fr 0 cb) := by
 have hlv : ∀ b ∈ bs y, b.live = true := fun b hb => Yg.1 hlv' b hb
 have hsub : ∀ p ∈ cb, p ∈ cb ++ cc := fun p hp => Y1 _ hp
 intro H' hg h2
 simp only [Bool.and_eq_true] at hk
 have := K.k (C.l + 1) H' ((cb.map (fun p : Key × Blk => p.1)).map r.κ) (Zlb r cb) (by rw [YD, YD]; exact Ya hk.2) (ZgH co g _ hk.1.1) (Zdv (Zjz co g) _ hk.1.2 hk.1.1)
  (Ziq bi cb 0 bi (fun j => by have := Zf5 bi 0 j; rwa [Yx] at this ⊢) (hBE H') fun p hp => hg p (hsub p hp)) hlo y hy
 rw [← hx H']
 refine this.mono fun z H'' ⟨δ, e1, e2⟩ => ⟨gB r fr δ 0 cb, fun k hk => ZnG cb 0 hk, e1.trans (hy2 H' δ), e2.trans ?_⟩
 exact ZgO (r := rB r fr δ cb) (bs y) cb cb2 0 H' (hBE2 H' δ) hlv he
end
section
variable {P : Program} {T : Nat → Option TI} {n : Nat} {C : Cx} {τ : St} {Q : Exit → St → Prop} {os k : Nat} {c : Code} {β : Type} {L : β → Prop} {y : β} {fx : List Nat}
theorem ZCE {r : Ren} (co : COx C os fx) (g : Gd C r) (a b : Nat) : (r.κ (1, a)).1 ≤ (r.κ (1, b)).1 := by rw [g.κ, co.ok.own, co.ok.own]; exact Ye _
theorem ZtF {r : Ren} {a b : Nat} (g : Gd C r) (h : (C.κ (0, a)).1 ≤ (C.κ (0, b)).1) : (r.κ (0, a)).1 ≤ (r.κ (0, b)).1 := by rw [g.κ]; exact h
theorem ZHc {r : Ren} {a b : Nat} (g : Gd C r) (h : LvP C.κ [(a, b)]) : (r.κ (0, a)).1 ≤ (r.κ (0, b)).1 ∧ True := ⟨ZtF g h.1, trivial⟩
theorem ZDa {r : Ren} {a b : Nat} {t : List (Nat × Nat)} (g : Gd C r) (h : LvP C.κ ((a, b) :: t)) {gg off m : Nat} : Zlk r (0, b) [.ref (0, a) gg off m] := by
 unfold Zlk
 simp only [Zaq, ren, Yab, List.all_nil, Bool.and_true, AV.low]
 have := ZtF g h.1
 simpa using this
@[reducible] def vwl (q : Nat) (vs : List AV) (k : PT os β) (hq : Nat.ble (q + 1) os = true := by kernel_rfl) : PT os β :=
 ⟨k.a, fun E => WrS E.r (0, q) ∧ Zlk E.r (0, q) vs ∧ k.q E, k.m, fun E => Zlk E.E.r (0, q) vs ∧ k.n E, fun E hn y hm hL => ⟨⟨rfl, by rw [E.g.no, E.g.κ]; exact E.co.W q (Yc hq)⟩, hn.1, k.ok E hn.2 y hm hL⟩⟩
theorem c6F {γ : Type} {M : Option γ} {kk : γ → Option β} {ss : List (Nat × AV)} {hs : List (Key × Blk)} {f : FuncId} {os' : Nat} {fr : List Nat} {lv : List (Nat × Nat)} {ys : List AV} {bi : List Blk} {e0 : γ → AV} {bs : γ → List Blk} (co : COx C os fx) (hm : M.bind kk = some y) (K : KG P f os' fr lv ys bi M e0 bs)
  (cb cc : List (Key × Blk)) (e : γ → AV) (hb2 : γ → List (Key × Blk)) (fl : List Key)
  (h : ∀ z, kk z = some y → LO P n C c (k + 1) (mkS (ZpC (Zfb c k) (e z) (Zel (frK fr 0 cb) ss)) (hb2 z ++ Zdl ((hb2 z).map (·.1)) (frK fr 0 cb) fl hs)) Q)
  (hlo : ∀ r, Gd C r → LvP (kOf (C.l + 1) ((cb.map (·.1)).map r.κ)) lv := by
   intro r g
   first
   | exact ⟨ZCE ‹_› g _ _, trivial⟩
   | exact ZHc g (by assumption)
   | exact trivial)
  (xs : List AV := [] ++ (Zgm c k).map (ev (lkS ss)) ++ [])
  (hwr : ∀ z, wrL C (hb2 z) := by intro z; repeat (first | exact trivial | refine ⟨COx.W ‹_› _ (by decide), ?_⟩))
  (hfl : flL (lkH hs) fl := by repeat (first | exact trivial | refine ⟨Zaf _ _, ?_⟩))
  (hBE : ∀ r H, BE (rC C r cb (fun _ => .top) H) r 0 bi cb := by
   intro r H
   repeat (first | exact trivial | refine ⟨fun _ => ⟨rfl, Zau (Zaf _ _) (by kernel_rfl)⟩, by kernel_rfl, ?_⟩ | refine ⟨fun _ => ⟨rfl, Zau Zkw (by kernel_rfl)⟩, by kernel_rfl, ?_⟩ | refine ⟨fun _ => ⟨rfl, by kernel_rfl⟩, by kernel_rfl, ?_⟩))
  (hBE2 : ∀ z r H δ, BE (rF (C.l + 1) ((cb.map (·.1)).map r.κ) (Zlb r cb) fr δ H) (rB r fr δ cb) 0 (bs z) (hb2 z) := by
   intro z r H δ
   repeat (first | exact trivial | refine ⟨fun _ => ⟨rfl, Zau (Zaf _ _) (by kernel_rfl)⟩, by kernel_rfl, ?_⟩ | refine ⟨fun _ => ⟨rfl, Zau Zkw (by kernel_rfl)⟩, by kernel_rfl, ?_⟩ | refine ⟨fun _ => ⟨rfl, by kernel_rfl⟩, by kernel_rfl, ?_⟩))
  (hx : ∀ r H, Zaq (rC C r cb (fun _ => .top) H) ys = Zaq r xs := by intro r H; kernel_rfl) (hxs : [] ++ (Zgm c k).map (ev (lkS ss)) ++ [] = xs := by kernel_rfl) (hy2 : ∀ z r H δ, ren (rF (C.l + 1) ((cb.map (·.1)).map r.κ) (Zlb r cb) fr δ H) (e0 z) = ren (rB r fr δ cb) (e z) := by intro z r H δ; kernel_rfl)
  (hop : Zef c k = some (Zfb c k, callF c k, Zgm c k) := by kernel_rfl) (hf : ev (lkS ss) (callF c k) = .fn (.func f) [] [] := by kernel_rfl)
  (hhb : (((cb ++ cc).map (·.1)).map fun k => (k, lkH hs k)) = cb ++ cc := by kernel_rfl) (hlv : ∀ z, (bs z).all Blk.live = true := by intro z; kernel_rfl) (he : ∀ z, cb.map (·.1) = (hb2 z).map (·.1) := by intro z; rfl)
  (hk : ((cb.map (·.1)).all (okK os) && ZeD (cb.map (·.1)) && Nat.beq cb.length os') = true := by kernel_rfl)
  (hok : ∀ z, (ZhF os (hb2 z) && Zzv (frK fr 0 cb) (hb2 z) && Zgz (frK fr 0 cb) fx && Zhg hs && ZkZ n (Zfb c k) && ((cb ++ cc).map (·.1)).all (okK os)) = true := by intro z; kernel_rfl) : LO P n C c k (mkS ss hs) Q := by
 obtain ⟨z, e1, e2⟩ := bind_some hm
 exact Zjm co.ok co.O co.F f [] [] xs hop hf hxs _ (cb ++ cc) hhb (e z) (hb2 z) (frK fr 0 cb) fl (hok z) (hwr z) hfl (fun r h1 h2 h3 h4 => ZpU K e1 co ⟨h1, h2, h3, h4⟩ cb cc (hb2 z) (hlo r ⟨h1, h2, h3, h4⟩) (fun H => hBE r H) (fun H δ => hBE2 z r H δ) (hlv z) (fun H => hx r H) (fun H δ => hy2 z r H δ) hk (he z)) (h z e2)
def ZHV (m : Nat) : Code → Bool
 | .region _ ops true => Nat.beq ops.toList.length (m + 1) && ZrQ ops.toList && (ZhN m ops.toList).all (fun o => Zca o || stB o) && okS ops.toList 0 ops.toList && (ZsE m).all (fun i => Zii ops.toList i ops.toList.length m)
 | _ => false
theorem ZkN (co : COx C os fx) (hT : TOk P T) (hm' : P.follows .mixedOrders = true) (m : Nat) (v : PT os β) (lf : Lf) (hv : v.m = some y) (hL : HL L y) (hn : ∀ r (g : Gd C r), v.n ⟨⟨C.l, r, fun _ τ' => LO P n C c m τ' Q, fun _ _ => False⟩, L, C, _, co, g, rfl⟩)
  (hq : ∀ l r Q Post, Zdj r os v.a τ (fun τ a => Zge P T l n r ((Zcw c).toList.map (·.dst)) (ZhN m (Zcw c).toList) [] a (fun τ' env a' => Zdj r os a' (ZiX env τ') (fun τ _ => Ze8 fx lf τ (Q .normal))) τ) = v.q ⟨l, r, Q, Post⟩ := by intro l r Q P; kernel_rfl)
  (hk : ZHV m c = true := by kernel_rfl) : LW P n C c τ Q := by
 cases c with
 | region id ops dr =>
  cases dr with
  | false => cases hk
  | true =>
   obtain ⟨Lf, rfl⟩ : ∃ l : List Oper, ops = l.toArray := ⟨ops.toList, by simp⟩
   simp only [ZHV, Bool.and_eq_true, Zfk] at hk
   obtain ⟨⟨⟨⟨k1, k2⟩, k3⟩, k4⟩, k5⟩ := hk
   have k1 := Ya k1
   have hd : ∃ o, Lf.drop m = [o] := List.length_eq_one_iff.1 (by rw [Y8]; omega)
   obtain ⟨o, hd⟩ := hd
   have hLf : Lf = Lf.take m ++ [o] := by rw [← hd, Ya1]
   have hlm : (Lf.take m).length = m := by rw [YV]; omega
   intro γ σ hg hG a w hR
   have h1 := v.ok _ (hn (C.r γ) ⟨rfl, rfl, rfl, rfl⟩) y hv hL
   rw [← hq] at h1
   generalize v.a = va at h1
   have ok := co.ok
   rw [← co.O, ← co.F] at h1
   obtain ⟨τ₁, a₁, σ₁, h2, hG1, hw1⟩ := Zap (n := n) ok va h1 hG
   simp only [Zcw, Zfk, List.toList_toArray] at h2 k2 k3 k4 k5
   have hwp := Zpe (P := P) (n := n) (B := C.B) (id := id) (L := Lf.take m) (o := o) (σ := σ₁) (a := a) (w := w) (QQ := fun e a' w' => ∃ σ', Is n C (Q e) σ' ∧ R C.l n C.B σ' a' w')
    (X := fun σ' => ∃ τ' env' a', Zdj (C.r γ) C.outs a' (ZiX env' τ') (fun τ _ => Ze8 C.fx lf τ (fun τ' => LO P n C (.region id Lf.toArray true) m τ' Q)) ∧ RG (C.r γ) C.l C.outs env' τ' σ') hm' (Zgv (by rw [← hLf]; exact k2)) k3 (by rw [← hLf]; exact k4)
    (fun i hi => by rw [← hLf, hlm]; exact Zek _ _ (Yg.1 k5 i (Zfg (by omega)))) (by rw [← hLf]; exact Zd6 (ok.ren γ) hT _ [] a₁ τ₁ σ₁ k3 h2 hG1) (fun σ' act' w' hR' ⟨τ', env', a', f1, f2⟩ => ?_) (hw1 _ _ hR)
   ·rw [← hLf] at hwp; exact hwp
   ·obtain ⟨σ₂, g1, g2⟩ := Zdr (n := n) f2
    obtain ⟨τ₃, a₃, σ₃, e1, e2, e3⟩ := Zap (n := n) ok a' f1 g1
    obtain ⟨γ', τ₄, σ₄, j0, j1, j2, j3⟩ := Zb3 (n := n) ok e1 hg e2
    have := j1 γ' σ₄ act' w' j0 j2 (j3 _ _ (e3 _ _ (g2 _ _ hR')))
    simp only [Zcw, List.toList_toArray, hd] at this
    rw [← hLf]
    exact this
 | _ => cases hk
end
end Go.Eng
