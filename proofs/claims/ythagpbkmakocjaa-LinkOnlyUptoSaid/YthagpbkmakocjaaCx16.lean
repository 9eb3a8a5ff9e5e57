import Derived.Test.YthagpbkmakocjaaCx15
import Derived.OrdersHeld
import Derived.Test.YthagpbkmakocjaaCx13
namespace Go.Eng
set_option linter.all false
open Go Go.RowKit
inductive Pl where
 | nil
 | fst (i : Nat) (r : Pl)
 | two (i j : Nat) (a b : Pl)
def Pl.len : Pl → Nat
 | .nil => 0
 | .fst _ r => r.len + 1
 | .two _ _ a _ => a.len + 1
def ZoT (P : Program) (L : List Oper) (Q : Exit → Act → World → Prop) (S : World → Prop) : Pl → Act → World → Prop
 | .nil, a, w => Q .normal a w
 | .fst i r, a, w => match nth L i with
  | some o => o.wp P a w (fun a' w' => S w' ∧ ZoT P L Q S r a' w') Q
  | none => False
 | .two i j x y, a, w => match nth L i, nth L j with
  | some o, some o' => o.wp P a w (fun a' w' => S w' ∧ ZoT P L Q S x a' w') Q ∧ o'.wp P a w (fun a' w' => S w' ∧ ZoT P L Q S y a' w') Q
  | _, _ => False
def ZGE (listed : List Nat) (i j : Nat) : Nat → List Oper → Bool
 | _, [] => true
 | k, ok :: r => (listed.any (Nat.beq k) || Nat.beq k i || Nat.beq k j || ok.after.toList.any (fun e => Region.binds .any e && !listed.any (Nat.beq e.on))) && ZGE listed i j (k + 1) r
theorem ZpF {listed : List Nat} {i j : Nat} : ∀ {r : List Oper} {j0 k : Nat} {ok : Oper}, ZGE listed i j j0 r = true → r[k]? = some ok →
  (j0 + k) ∈ listed ∨ j0 + k = i ∨ j0 + k = j ∨ ∃ e ∈ ok.after, Region.binds .any e = true ∧ e.on ∉ listed
 | [], j0, k, ok, _, h => by simp at h
 | q :: r, j0, k, ok, hc, h => by
  unfold ZGE at hc
  rw [Bool.and_eq_true] at hc
  cases k with
  | zero =>
   simp only [List.getElem?_cons_zero, Option.some.injEq] at h
   subst h
   have h1 := hc.1
   simp only [Bool.or_eq_true] at h1
   rcases h1 with ((h1 | h1) | h1) | h1
   ·exact .inl (ZbJ.1 h1)
   ·exact .inr (.inl (Nat.eq_of_beq_eq_true h1))
   ·exact .inr (.inr (.inl (Nat.eq_of_beq_eq_true h1)))
   ·obtain ⟨e, he, h2⟩ := List.any_eq_true.1 h1
    rw [Bool.and_eq_true] at h2
    exact .inr (.inr (.inr ⟨e, by simpa using he, h2.1, fun hm => by have := ZbJ.2 hm; rw [this] at h2; cases h2.2⟩))
  | succ k =>
   have := ZpF (k := k) hc.2 (by simpa using h)
   rwa [show j0 + 1 + k = j0 + (k + 1) from by omega] at this
def ZqB (env : List (Nat × Nat)) (o : Oper) : Bool := match o.op with
 | .load _ x => (match ZjF x with | some y => (ZfX y env).isSome | none => false)
 | _ => false
def Ziq (P : Program) (L : List Oper) : List (Nat × Nat) → List Nat → Pl → Bool
 | _, listed, .nil => (List.range L.length).all fun j => listed.any (Nat.beq j)
 | env, listed, .fst i rest => (match nth L i with
  | some oi => !(listed.any (Nat.beq i)) && oi.after.toList.all (fun e => !Region.binds .any e || listed.any (Nat.beq e.on)) && (match vpO P oi || ZqB env oi with | true => ZfT.chkV P L listed i oi 0 L | false => ZEE P L listed i oi 0 L) && Ziq P L (Zb2 P env oi) (i :: listed) rest
  | none => false)
 | env, listed, .two i j x y => (match nth L i, nth L j with
  | some oi, some oj => oi.after.toList.all (fun e => !Region.binds .any e || listed.any (Nat.beq e.on)) && !(listed.any (Nat.beq i)) && !(listed.any (Nat.beq j)) && ZGE listed i j 0 L && Nat.beq x.len y.len && Ziq P L (Zb2 P env oi) (i :: listed) x && Ziq P L (Zb2 P env oj) (j :: listed) y
  | _, _ => false)
def ZG7 (o : Oper) (a a' : Act) : Prop := ∃ u, ∀ x, a'.eval x = (a.put o.dst u).eval x
theorem Zoe {P : Program} {o : Oper} {a : Act} {w : World} {N : Act → World → Prop} {Q : Exit → Act → World → Prop} (h : o.wp P a w N Q) : o.wp P a w (fun a' w' => N a' w' ∧ ZG7 o a a' ∧ ∀ v w1, (execOp a.eval o).run P w = .ok (.value v) w1 → a' = a.put o.dst v) Q := by
 unfold Oper.wp at *
 cases hr : (execOp a.eval o).run P w with
 | ok n w' =>
  rw [hr] at h
  cases n <;> simp only [Oper.upon] at h ⊢
  case value u => exact ⟨h, ⟨u, fun _ => rfl⟩, fun v w1 e => by cases e; rfl⟩
  case skip => exact ⟨h, ⟨_, fun _ => rfl⟩, fun v w1 e => by cases e⟩
  case defer d => exact ⟨h, ⟨Go.undef, fun x => by cases o.dst <;> rfl⟩, fun v w1 e => by cases e⟩
  case enter f args =>
   refine Calls.mono h fun e w'' he => ?_
   cases e with
   | returned u => exact ⟨he, ⟨u, fun _ => rfl⟩, fun v w1 e => by cases e⟩
   | panicked c => exact he
   | outgrown => exact he
  case row row args => exact Rows.mono h fun u w'' he => ⟨he, ⟨u, fun _ => rfl⟩, fun v w1 e => by cases e⟩
 | halt x w' =>
  rw [hr] at h
  cases x <;> simp only [Oper.upon] at h ⊢
  case panic u => exact h
def JF (β : Nat → Nat) (env : List (Nat × Nat)) (a : Act) : Prop := ∀ p ∈ env, ∀ b, pb (a.eval (.tmp p.1)) = some b → b = β p.2
theorem eval_put (a : Act) (d j : Nat) (u : Value) (h : j ≠ d) : (a.put (some d) u).eval (.tmp j) = a.eval (.tmp j) := by
 simp only [Act.put, Act.eval, Array.getD_eq_getD_getElem?, Array.getElem?_setIfInBounds]
 rw [if_neg (fun e => h e.symm)]
theorem ZhN (a : Act) (d : Nat) (u : Value) : (a.put (some d) u).eval (.tmp d) = u ∨ (a.put (some d) u).eval (.tmp d) = Go.undef := by
 simp only [Act.put, Act.eval, Array.getD_eq_getD_getElem?, Array.getElem?_setIfInBounds]
 by_cases hd : d < a.tmps.size
 ·left; simp [hd]
 ·right; simp [hd]
theorem JF.put {P : Program} {β : Nat → Nat} {env : List (Nat × Nat)} {a a' : Act} {o : Oper} {w : World} (hJ : JF β env a) (h : ZG7 o a a') (hv : ∀ z, Zjw P o = some z → ∃ v w1, (execOp a.eval o).run P w = .ok (.value v) w1 ∧ a' = a.put o.dst v) : JF β (Zb2 P env o) a' := by
 intro p hp b hb
 unfold Zb2 at hp
 cases hd : o.dst with
 | none =>
  rw [hd] at hp
  obtain ⟨u, hu⟩ := h
  rw [hu, hd] at hb
  exact hJ p hp b hb
 | some d =>
  rw [hd] at hp
  rcases List.mem_append.1 hp with hp | hp
  ·cases hs : Zjw P o with
   | none => rw [hs] at hp; cases hp
   | some z =>
    rw [hs] at hp
    dsimp only at hp
    cases he : ZfX z env with
    | none => rw [he] at hp; cases hp
    | some r =>
     rw [he] at hp
     rcases List.mem_singleton.1 hp with rfl
     obtain ⟨v, w1, e1, e2⟩ := hv z hs
     rw [e2, hd] at hb
     have hb2 : pb v = some b := by
      rcases ZhN a d v with e | e
      ·rw [← e]; exact hb
      ·rw [e] at hb; cases hb
     exact hJ _ (ZbD he) b (ZvR hs e1 hb2)
  ·obtain ⟨h1, h2⟩ := List.mem_filter.1 hp
   obtain ⟨u, hu⟩ := h
   have hne : p.1 ≠ d := fun e => by rw [e] at h2; simp at h2
   rw [hu, hd, eval_put a d p.1 u hne] at hb
   exact hJ p h1 b hb
section
variable {P : Program} {Q : Exit → Act → World → Prop} {L : List Oper} {S : World → Prop}
theorem ZjS {ops : Array Oper} {i : Nat} {oi : Oper} {v : Value} (hi : ops[i]? = some oi) (hro : rdO P oi = true) (hu : ∀ (j : Nat) (o : Oper), ops[j]? = some o → o.guard = none) (hsel : ∀ (j : Nat) (o : Oper) cs b, ops[j]? = some o → o.op ≠ .select cs b)
  (hQ : ∀ c a w, ¬ Q (.panic c) a w) (hO : ¬ LetsOut Q) : ∀ (fuel : Nat) (listed : Array Bool) (a : Act) (w : World), DC ops listed →
   (∀ j oj, ops[j]? = some oj → j ≠ i → listed.getD j true = false → ¬ Waits ops j i → oi.apart ops oj = true ∧ (rdO P oj || grO oj) = true) →
   i ∈ Region.ready .any ops listed → (execOp a.eval oi).run P w = .ok (.value v) w → S w →
   wpAnyH P .any ops Q S fuel (listed.setIfInBounds i true) (a.put oi.dst v) w → wpAnyH P .any ops Q S (fuel + 1) listed a w := by
 have self : ∀ {a : Act} {w : World} {K : Act → World → Prop}, (execOp a.eval oi).run P w = .ok (.value v) w → K (a.put oi.dst v) w → wpOp P ops Q i K a w := fun hy h => by
  unfold wpOp
  simp only [hi]
  rw [if_pos (by simp [Region.wanted, hu i oi hi])]
  left
  unfold Oper.wp
  rw [hy]
  exact h
 intro fuel
 induction fuel with
 | zero =>
  intro listed a w _ _ hr hy hS H
  refine ⟨fun h => (by rw [h] at hr; cases hr), fun j hj => ?_⟩
  by_cases hji : j = i
  ·subst hji; exact self hy ⟨hS, H⟩
  ·have := ready_mono hj hji
   rw [H.1] at this
   cases this
 | succ fuel ih =>
  intro listed a w hD hF hr hy hS H
  refine ⟨fun h => (by rw [h] at hr; cases hr), fun j hj => ?_⟩
  by_cases hji : j = i
  ·subst hji; exact self hy ⟨hS, H⟩
  ·have h1 := H.2 j (ready_mono hj hji)
   obtain ⟨hjun, oj, hoj, hall⟩ := mem_ready.1 hj
   have hiun := (mem_ready.1 hr).1
   obtain ⟨hap, hrd⟩ := hF j oj hoj hji hjun (hD.nowait hj hiun)
   obtain ⟨p1, p2, p3⟩ := Oper.apart_spec hap
   obtain ⟨q1, q2⟩ := ZgV (P := P) (ρ := a.eval) hrd
   unfold wpOp at h1 ⊢
   simp only [hoj] at h1 ⊢
   have hwt : ∀ y, Region.wanted oj y = true := fun y => by simp [Region.wanted, hu j oj hoj]
   rw [if_pos (hwt _)] at h1 ⊢
   rcases h1 with h1 | ⟨_, h1⟩
   case inr => exact absurd h1 hO
   left
   unfold Oper.wp at h1 ⊢
   rw [execOp_put oj (fun cs b => hsel j oj cs b hoj) a oi.dst v p1] at h1
   cases hrun : (execOp a.eval oj).run P w with
   | halt x w' =>
    rw [hrun] at h1
    cases x <;> simp only [Oper.upon] at h1
    exact absurd h1 (hQ _ _ _)
   | ok n w' =>
    have hw' := q1 _ _ _ hrun
    obtain ⟨u, rfl⟩ := q2 _ _ _ hrun
    rw [hrun] at h1
    simp only [Oper.upon] at h1 ⊢
    refine ⟨h1.1, ih (listed.setIfInBounds j true) (a.put oj.dst u) w' (hD.ready hj) (fun k ok hk hki hun hno => ?_) (ready_mono hr (Ne.symm hji)) ?_ h1.1 ?_⟩
    ·refine hF k ok hk hki ?_ hno
     by_cases hjk : j = k
     ·subst hjk; exact hjun
     ·rw [getD_set_ne true hjk] at hun; exact hun
    ·rw [execOp_put oi (fun cs b => hsel i oi cs b hi) a oj.dst u p3]; exact Zhv hro _ _ _ _ hy hw'
    ·rw [Array.setIfInBounds_comm _ _ hji, ← Act.put_comm a v u p2]; exact h1.2
theorem ZoR {β : Nat → Nat} {F : Nat → Prop} {w0 : World} (hS0 : ∀ b w, F b → S w → w.heap[b]? = w0.heap[b]?) (hC : ∀ b, F b → Cel w0 b) (hu : ∀ (j : Nat) (o : Oper), L.toArray[j]? = some o → o.guard = none) (hsel : ∀ (j : Nat) (o : Oper) cs b, L.toArray[j]? = some o → o.op ≠ .select cs b) (hQ : ∀ c a w, ¬ Q (.panic c) a w) (hO : ¬ LetsOut Q) :
  ∀ (π : Pl) (env : List (Nat × Nat)) (listed : List Nat) (la : Array Bool) (a : Act) (w : World), la.size = L.length → (∀ j, j < L.length → (la.getD j true = true ↔ j ∈ listed)) → (∀ x ∈ listed, x < L.length) → DC L.toArray la → Ziq P L env listed π = true → (∀ p ∈ env, F (β p.2)) → JF β env a → S w →
   ZoT P L Q S π a w → wpAnyH P .any L.toArray Q S π.len la a w := by
 have un : ∀ (la : Array Bool) (listed : List Nat) (i : Nat), (∀ j, j < L.length → (la.getD j true = true ↔ j ∈ listed)) → i < L.length → listed.any (Nat.beq i) = false → la.getD i true = false := fun la listed i hl hiL c1 => by
  cases hb : la.getD i true with
  | false => rfl
  | true => have := ZbJ.2 ((hl i hiL).1 hb); rw [c1] at this; cases this
 have next : ∀ (la : Array Bool) (listed : List Nat) (i : Nat), la.size = L.length → (∀ j, j < L.length → (la.getD j true = true ↔ j ∈ listed)) → ∀ j, j < L.length → ((la.setIfInBounds i true).getD j true = true ↔ j ∈ i :: listed) := fun la listed i hs hl j hj => by
  by_cases hji : i = j
  ·subst hji
   simp only [List.mem_cons, true_or, iff_true]
   simp [hs, hj]
  ·rw [getD_set_ne true hji, hl j hj, List.mem_cons]
   exact ⟨.inr, fun h => h.resolve_left (Ne.symm hji)⟩
 have rdy : ∀ (la : Array Bool) (listed : List Nat) (i : Nat) (oi : Oper), la.size = L.length → (∀ j, j < L.length → (la.getD j true = true ↔ j ∈ listed)) → (∀ x ∈ listed, x < L.length) → L[i]? = some oi → listed.any (Nat.beq i) = false →
   oi.after.toList.all (fun e => !Region.binds .any e || listed.any (Nat.beq e.on)) = true → i ∈ Region.ready .any L.toArray la := fun la listed i oi hs hl hlt hi c1 c2 =>
  mem_ready.2 ⟨un la listed i hl (List.getElem?_eq_some_iff.1 hi).1 c1, oi, by simpa using hi, fun e he hb => by
   have h1 := List.all_eq_true.1 c2 e (by simpa using he)
   rw [hb] at h1
   simp only [Bool.not_true, Bool.false_or] at h1
   have hm := ZbJ.1 h1
   have h2 := hlt _ hm
   have h3 := (hl _ h2).2 hm
   simp only [Array.getD_eq_getD_getElem?] at h3 ⊢
   rw [Array.getElem?_eq_getElem (by omega)] at h3 ⊢
   simpa using h3⟩
 have envF : ∀ (env : List (Nat × Nat)) (o : Oper), (∀ p ∈ env, F (β p.2)) → ∀ p ∈ Zb2 P env o, F (β p.2) := fun env o hF p hp => by
  unfold Zb2 at hp
  split at hp
  ·exact hF p hp
  ·rcases List.mem_append.1 hp with hp | hp
   ·split at hp
    ·split at hp
     ·rename_i r hr
      have e := List.mem_singleton.1 hp
      rw [e]
      have := hF _ (ZbD hr)
      exact this
     ·cases hp
    ·cases hp
   ·exact hF p (List.mem_filter.1 hp).1
 have jput : ∀ (env : List (Nat × Nat)) (o : Oper) (a a' : Act) (w : World) (N : Act → World → Prop), o.wp P a w N Q → JF β env a → ZG7 o a a' → (∀ v w1, (execOp a.eval o).run P w = .ok (.value v) w1 → a' = a.put o.dst v) → JF β (Zb2 P env o) a' := fun env o a a' w N hw hJ h1 h2 => by
  refine hJ.put (P := P) (w := w) h1 fun z hz => ?_
  have hv : vpO P o = true := by unfold Zjw at hz; cases hv : vpO P o with | true => rfl | false => rw [hv] at hz; cases hz
  obtain ⟨v1, v2⟩ := Zer (P := P) (ρ := a.eval) hv
  unfold Oper.wp at hw
  cases hrun : (execOp a.eval o).run P w with
  | halt x w' =>
   rw [hrun] at hw
   cases x <;> simp only [Oper.upon] at hw
   exact absurd hw (hQ _ _ _)
  | ok n w' =>
   obtain ⟨u, rfl⟩ := v2 _ _ _ hrun
   exact ⟨u, w', rfl, h2 u w' hrun⟩
 intro π
 induction π with
 | nil =>
  intro env listed la a w hs hl hlt hD hc hF hJ hS h
  unfold Ziq at hc
  rw [List.all_eq_true] at hc
  refine ⟨?_, h⟩
  cases hr : Region.ready .any L.toArray la with
  | nil => rfl
  | cons x xs =>
   have hx : x ∈ Region.ready .any L.toArray la := by rw [hr]; exact List.mem_cons_self ..
   obtain ⟨h0, o, ho, _⟩ := mem_ready.1 hx
   have hlt : x < L.length := by have := (Array.getElem?_eq_some_iff.1 ho).1; simpa using this
   have := (hl x hlt).2 (ZbJ.1 (hc x (List.mem_range.2 hlt)))
   rw [h0] at this
   cases this
 | two i j x y ihx ihy =>
  intro env listed la a w hs hl hlt hD hc hF hJ hS h
  unfold Ziq at hc
  unfold ZoT at h
  cases hi : L[i]? with
  | none => rw [Zbh, hi] at hc; simp at hc
  | some oi =>
   cases hj : L[j]? with
   | none => rw [Zbh, Zbh, hi, hj] at hc; simp at hc
   | some oj =>
    rw [Zbh, Zbh, hi, hj] at hc h
    dsimp only at h
    simp only [Bool.and_eq_true, Bool.not_eq_true'] at hc
    obtain ⟨⟨⟨⟨⟨⟨c0, c1⟩, c2⟩, c5⟩, c6⟩, c7⟩, c8⟩ := hc
    have hiL : i < L.length := (List.getElem?_eq_some_iff.1 hi).1
    have hjL : j < L.length := (List.getElem?_eq_some_iff.1 hj).1
    obtain ⟨h1, h2⟩ := h
    have lt' : ∀ k, k < L.length → ∀ z ∈ k :: listed, z < L.length := fun k hk z hz => by
     rcases List.mem_cons.1 hz with rfl | hz
     ·exact hk
     ·exact hlt z hz
    show wpAnyH P .any L.toArray Q S (x.len + 1) la a w
    have hready : ∀ k ∈ Region.ready .any L.toArray la, k = i ∨ k = j := fun k hk => by
     obtain ⟨k0, ok, hok, hall⟩ := mem_ready.1 hk
     have hkl : k < L.length := by have := (Array.getElem?_eq_some_iff.1 hok).1; simpa using this
     have := ZpF (k := k) c5 (by simpa using hok)
     rw [Nat.zero_add] at this
     rcases this with h3 | h3 | h3 | ⟨e, he, hb, hno⟩
     ·have := (hl k hkl).2 h3; rw [k0] at this; cases this
     ·exact .inl h3
     ·exact .inr h3
     ·have h4 := hall e he hb
      have h5 : e.on < L.length := by
       rcases Nat.lt_or_ge e.on la.size with h | h
       ·omega
       ·simp [Array.getElem?_eq_none h, Array.getD_eq_getD_getElem?] at h4
      refine absurd ((hl e.on h5).1 ?_) hno
      simp only [Array.getD_eq_getD_getElem?] at h4 ⊢
      rw [Array.getElem?_eq_getElem (by omega)] at h4 ⊢
      simpa using h4
    have hr := rdy la listed i oi hs hl hlt hi c1 c0
    refine ⟨fun h0 => (by rw [h0] at hr; cases hr), fun k hk => ?_⟩
    rcases hready k hk with rfl | rfl
    ·unfold wpOp
     have hkA : L.toArray[k]? = some oi := by simpa using hi
     simp only [hkA]
     rw [if_pos (by simp [Region.wanted, hu k _ hkA])]
     exact .inl (Oper.wp_mono (fun a' w' hh => ⟨hh.1.1, ihx (Zb2 P env oi) (k :: listed) _ a' w' (by simp [hs]) (next la listed k hs hl) (lt' k hiL) (hD.ready hk) c7 (envF env oi hF) (jput env oi a a' w _ h1 hJ hh.2.1 hh.2.2) hh.1.1 hh.1.2⟩) (Zoe h1))
    ·unfold wpOp
     have hkA : L.toArray[k]? = some oj := by simpa using hj
     simp only [hkA]
     rw [if_pos (by simp [Region.wanted, hu k _ hkA])]
     rw [Nat.eq_of_beq_eq_true c6]
     exact .inl (Oper.wp_mono (fun a' w' hh => ⟨hh.1.1, ihy (Zb2 P env oj) (k :: listed) _ a' w' (by simp [hs]) (next la listed k hs hl) (lt' k hjL) (hD.ready hk) c8 (envF env oj hF) (jput env oj a a' w _ h2 hJ hh.2.1 hh.2.2) hh.1.1 hh.1.2⟩) (Zoe h2))
 | fst i rest ih =>
  intro env listed la a w hs hl hlt hD hc hF hJ hS h
  unfold Ziq at hc
  unfold ZoT at h
  cases hi : L[i]? with
  | none => rw [Zbh, hi] at hc; simp at hc
  | some oi =>
   rw [Zbh, hi] at hc h
   dsimp only at h
   simp only [Bool.and_eq_true, Bool.not_eq_true'] at hc
   obtain ⟨⟨⟨c1, c2⟩, c3⟩, c4⟩ := hc
   have hiL : i < L.length := (List.getElem?_eq_some_iff.1 hi).1
   have hiA : L.toArray[i]? = some oi := by simpa using hi
   have hun := un la listed i hl hiL c1
   have hr := rdy la listed i oi hs hl hlt hi c1 c2
   have hlt' : ∀ x ∈ i :: listed, x < L.length := fun x hx => by
    rcases List.mem_cons.1 hx with rfl | hx
    ·exact hiL
    ·exact hlt x hx
   have ih : ∀ a' w', S w' → JF β (Zb2 P env oi) a' → ZoT P L Q S rest a' w' → wpAnyH P .any L.toArray Q S rest.len (la.setIfInBounds i true) a' w' := fun a' w' hS' hJ' h =>
    ih (Zb2 P env oi) (i :: listed) _ a' w' (by simp [hs]) (next la listed i hs hl) hlt' (hD.ready hr) c4 (envF env oi hF) hJ' hS' h
   have hli : ∀ j, j < L.length → la.getD j true = false → j ∉ listed := fun j hj hun hm => by
    have := (hl j hj).2 hm
    rw [hun] at this
    cases this
   have free : ZfT.chkV P L listed i oi 0 L = true → ∀ j oj, L.toArray[j]? = some oj → j ≠ i → la.getD j true = false → (∀ e ∈ oj.after, Region.binds .any e = true → e.on ≠ i) → oi.apart L.toArray oj = true := fun c3 j oj hoj hji hjun hno => by
    have hjl : j < L.length := by have := (Array.getElem?_eq_some_iff.1 hoj).1; simpa using this
    have := Zg6 (k := j) c3 (by simpa using hoj)
    rw [Nat.zero_add] at this
    rcases this with h3 | h3 | ⟨e, he, hb, he2⟩ | h3
    ·exact absurd h3 (hli j hjl hjun)
    ·exact absurd h3 hji
    ·exact absurd he2 (hno e he hb)
    ·exact h3
   show wpAnyH P .any L.toArray Q S (rest.len + 1) la a w
   have h' := Zoe h
   by_cases hv : vpO P oi = true
   ·rw [hv] at c3
    simp only [Bool.true_or] at c3
    obtain ⟨v1, v2⟩ := Zer (P := P) (ρ := a.eval) hv
    have h0 := h
    unfold Oper.wp at h
    cases hrun : (execOp a.eval oi).run P w with
    | halt x w' =>
     rw [hrun] at h
     cases x <;> simp only [Oper.upon] at h
     exact absurd h (hQ _ _ _)
    | ok n w' =>
     obtain ⟨rfl, v3⟩ := v1 _ _ _ hrun
     obtain ⟨u, rfl⟩ := v2 _ _ _ hrun
     rw [hrun] at h
     simp only [Oper.upon] at h
     exact wpAnyH_first hiA hsel (fun c a w hq => absurd hq (hQ _ _ _)) rest.len la a w' (free c3) hr (.inl ⟨by simp [Region.wanted, hu i oi hiA], fun w2 _ => v3 w2⟩) hS (ih _ _ h.1 (jput env oi a _ w' _ h0 hJ ⟨u, fun _ => rfl⟩ fun v w1 e => by rw [hrun] at e; cases e; rfl) h.2)
   ·have hv' : vpO P oi = false := by cases hq : vpO P oi with | false => rfl | true => exact absurd hq hv
    rw [hv', Bool.false_or] at c3
    by_cases hh : ZqB env oi = true
    ·rw [hh] at c3
     obtain ⟨t, x, y, r, ho, hy, he⟩ : ∃ t x y r, oi.op = .load t x ∧ ZjF x = some y ∧ ZfX y env = some r := by
      unfold ZqB at hh
      split at hh
      ·rename_i t x ho
       split at hh
       ·rename_i y hy
        obtain ⟨r, hr⟩ := Option.isSome_iff_exists.1 hh
        exact ⟨t, x, y, r, ho, hy, hr⟩
       ·cases hh
      ·cases hh
     have hrd : rdO P oi = true := by unfold rdO; rw [hv', ho]; rfl
     obtain ⟨v1, v2⟩ := ZdB (P := P) (ρ := a.eval) hrd
     have h0 := h
     unfold Oper.wp at h
     cases hrun : (execOp a.eval oi).run P w with
     | halt x w' =>
      rw [hrun] at h
      cases x <;> simp only [Oper.upon] at h
      exact absurd h (hQ _ _ _)
     | ok n w' =>
      have e := v1 _ _ _ hrun
      subst e
      obtain ⟨u, rfl⟩ := v2 _ _ _ hrun
      rw [hrun] at h
      simp only [Oper.upon] at h
      have hyl : YieldsIf P L.toArray S oi u a := .inl ⟨by simp [Region.wanted, hu i oi hiA], fun w2 hS2 => by
       obtain ⟨b, hb, hlo⟩ := ZoS (w2 := w2) ho hrun
       have hb' : b = β r := hJ _ (ZbD he) b (by rw [← Ze6 hy]; exact hb)
       have hFb : F b := by rw [hb']; exact hF _ (ZbD he)
       have e1 := hS0 b w' hFb hS
       have e2 := hS0 b w2 hFb hS2
       obtain ⟨C, q1, q2, q3⟩ := hC b hFb
       exact hlo ⟨C, q1, q2, by rw [e1]; exact q3⟩ (by rw [e1, e2])⟩
      exact wpAnyH_first hiA hsel (fun c a w hq => absurd hq (hQ _ _ _)) rest.len la a w' (free c3) hr hyl hS (ih _ _ h.1 (jput env oi a _ w' _ h0 hJ ⟨u, fun _ => rfl⟩ fun v w1 e => by rw [hrun] at e; cases e; rfl) h.2)
    ·have hh' : ZqB env oi = false := by cases hq : ZqB env oi with | false => rfl | true => exact absurd hq hh
     rw [hh'] at c3
     have at_ : ∀ j oj, L.toArray[j]? = some oj → j ≠ i → la.getD j true = false → ¬ Waits L.toArray j i → oi.apart L.toArray oj = true ∧ rdO P oi = true ∧ (rdO P oj || grO oj) = true := fun j oj hoj hji hjun hno => by
      have hjl : j < L.length := by have := (Array.getElem?_eq_some_iff.1 hoj).1; simpa using this
      have := Zjk (k := j) c3 (by simpa using hoj)
      rw [Nat.zero_add] at this
      rcases this with h3 | h3 | h3 | ⟨h3, h4⟩
      ·exact absurd h3 (hli j hjl hjun)
      ·exact absurd h3 hji
      ·exact absurd h3 hno
      ·rcases h4 with h4 | h4
       ·exact absurd h4 hv
       ·exact ⟨h3, h4⟩
     by_cases hrd : rdO P oi = true
     ·obtain ⟨v1, v2⟩ := ZdB (P := P) (ρ := a.eval) hrd
      have h0 := h
      unfold Oper.wp at h
      cases hrun : (execOp a.eval oi).run P w with
      | halt x w' =>
       rw [hrun] at h
       cases x <;> simp only [Oper.upon] at h
       exact absurd h (hQ _ _ _)
      | ok n w' =>
       have e := v1 _ _ _ hrun
       subst e
       obtain ⟨u, rfl⟩ := v2 _ _ _ hrun
       rw [hrun] at h
       simp only [Oper.upon] at h
       exact ZjS hiA hrd hu hsel hQ hO rest.len la a w' hD (fun j oj hoj hji hjun hno => ⟨(at_ j oj hoj hji hjun hno).1, (at_ j oj hoj hji hjun hno).2.2⟩) hr hrun hS (ih _ _ h.1 (jput env oi a _ w' _ h0 hJ ⟨u, fun _ => rfl⟩ fun v w1 e => by rw [hrun] at e; cases e; rfl) h.2)
     ·refine ⟨fun h0 => (by rw [h0] at hr; cases hr), fun j hj => ?_⟩
      have hji : j = i := by
       apply Classical.byContradiction
       intro hji
       obtain ⟨hjun, oj, hoj, _⟩ := mem_ready.1 hj
       exact hrd (at_ j oj hoj hji hjun (hD.nowait hj hun)).2.1
      subst hji
      unfold wpOp
      simp only [hiA]
      rw [if_pos (by simp [Region.wanted, hu j oi hiA])]
      exact .inl (Oper.wp_mono (fun a' w' hh => ⟨hh.1.1, ih a' w' hh.1.1 (jput env oi a a' w _ h hJ hh.2.1 hh.2.2) hh.1.2⟩) h')
end
def wrR (r : Ren) : List (Key × Blk) → Prop
 | [] => True
 | (k, _) :: t => match Nat.beq k.1 1 with | true => wrR r t | false => WrS r k ∧ wrR r t
def ZGM : List (Key × Blk) → Hp → Hp
 | [], H => H
 | (k, b) :: t, H => ZGM t (updH H k b)
def pHc (P : Program) (l n os : Nat) (r : Ren) (dst : Option Nat) (fo : AV) (xs : List AV) (a : AT) (K : St → AT → Prop) (τ : St) : Prop :=
 match fo, a with
 | .fn (.func f) [] [], .hard x ks hb2 [] b => (match ks.all (okK os), ZjI os hb2 with
  | true, true => ZiB P l r f xs (ks.map fun k => (k, τ.H k)) x hb2 [] ∧ wrR r hb2 ∧ ZGL n K τ.s (ZGM hb2 τ.H) x b dst
  | _, _ => False)
 | _, _ => False
def ZFv : AT → Bool
 | .hard _ _ _ _ _ => true
 | _ => false
def ZAs (P : Program) (T : Nat → Option TI) (l n os : Nat) (r : Ren) (o : Oper) (a : AT) (K : St → AT → Prop) (τ : St) : Prop :=
 match ZFv a, o.op with
 | true, .call c => (match c.callee with
  | .value fo => pHc P l n os r o.dst (ev τ.s fo) (c.args.toList.map (ev τ.s)) a K τ
  | _ => False)
 | _, _ => Zw2 P T l n r o a K τ
section
variable {P : Program} {T : Nat → Option TI} {r : Ren} {l n outs : Nat} {B : Base} {env : Env} {τ σ : St} {a : AT} {o : Oper} {K : St → AT → Prop}
theorem ZlD (hr : RenOk r l outs) : ∀ (hb2 : List (Key × Blk)) {τ σ : St}, ZjI outs hb2 = true → wrR r hb2 → RG r l outs env τ σ → RG r l outs env ⟨τ.s, ZGM hb2 τ.H⟩ ⟨σ.s, ZcO r hb2 σ.H⟩
 | [], τ, σ, _, _, h => h
 | (k, b) :: t, τ, σ, hk, hw, h => by
  simp only [ZjI, Bool.and_eq_true] at hk
  obtain ⟨⟨⟨k1, k2⟩, k3⟩, k4⟩ := hk
  have hko : Zzr r outs k ∧ wrR r t := by
   unfold wrR at hw
   rcases Zc4 k1 with h1 | ⟨h1, h2⟩
   ·rw [h1] at hw; exact ⟨.inl h1, hw⟩
   ·rw [h1] at hw; exact ⟨.inr ⟨h1, h2, hw.1.2⟩, hw.2⟩
  exact ZlD hr t (τ := ⟨τ.s, updH τ.H k b⟩) (σ := ⟨σ.s, updH σ.H (r.κ k) (Za7 r k b)⟩) k4 hko.2 (RG.updH hr h k b k2 hko.1)
theorem ZhH (hr : RenOk r l outs) (hT : TOk P T) (h : RG r l outs env τ σ) (hc : Zb6 env [] o.op = true) (hf : Zdt env o.dst = true) (hp : ZAs P T l n outs r o a K τ) : AOp P l n B o (KA r l n outs B (Zd5 env o.dst) K) σ := by
 unfold ZAs at hp
 split at hp
 case h_2 => exact Zkk hr hT h hc hf hp
 rename_i c ha ho
 split at hp
 case h_2 => exact hp.elim
 rename_i fo hcal
 unfold pHc at hp
 split at hp
 case h_2 => exact hp.elim
 rename_i f x ks hb2 b hfo
 split at hp
 case h_2 => exact hp.elim
 rename_i hks hokh
 obtain ⟨h1, h2, h3⟩ := hp
 have ops : ∀ x ∈ o.op.operands, ev σ.s x = ren r (ev τ.s x) := by
  unfold Zb6 at hc
  split at hc
  ·rename_i e; rw [ho] at e; cases e
  ·exact Zcu h Zan hc
 rw [ho] at ops
 have hops : ∀ x, x = fo ∨ x ∈ c.args.toList → x ∈ (Op.call c).operands := fun x hx => by
  simp only [Op.operands, Call.operands, hcal]
  rcases hx with rfl | hx
  ·simp
  ·have : x ∈ c.args := by simpa using hx
   simp [this]
 have hfe : ev σ.s fo = .fn (.func f) [] [] := by rw [ops fo (hops fo (.inl rfl)), hfo]; simp [ren, Zap]
 have hA := h1 σ.H (fun p hp => by
  obtain ⟨q, hq, rfl⟩ := List.mem_map.1 hp
  have hq' := Zc4 (List.all_eq_true.1 hks q hq)
  refine ⟨?_, fun hl => h.h q hl⟩
  obtain ⟨q1, q2⟩ := q
  simp only at hq'
  rcases hq' with rfl | ⟨rfl, h2⟩
  ·have := h.g q2
   rw [← hr.own] at this
   exact this
  ·exact h.go q2 h2) h.o
 have hargs : Zap r (c.args.toList.map (ev τ.s)) = c.args.toList.map (ev σ.s) := by
  rw [Zb1, List.map_map]
  exact List.map_congr_left fun y hy => (ops y (hops y (.inr hy))).symm
 refine ZcC ?_
 unfold rOp
 rw [ho]
 simp only [hcal, hfe, List.nil_append, List.append_nil]
 rw [hargs] at hA
 refine hA.mono fun y H'' ⟨γ', e1, e2, e3⟩ => ?_
 have hγ : γ' = r.γ := funext fun k => e1 k (by simp)
 subst hγ
 have e2 : y = ren r x := e2
 have e3 : H'' = ZcO r hb2 σ.H := e3
 subst e3
 exact ZoH (τ' := ⟨τ.s, ZGM hb2 τ.H⟩) hf (ZlD hr hb2 hokh h2 h) e2 h3
end
def pPl (P : Program) (T : Nat → Option TI) (l n os : Nat) (r : Ren) (L : List Oper) : Pl → Env → AT → (St → Env → AT → Prop) → St → Prop
 | .nil, env, a, K, τ => K τ env a
 | .fst i x, env, a, K, τ => match nth L i with
  | some o => (match Zb6 env [] o.op, Zdt env o.dst with
   | true, true => ZAs P T l n os r o a (fun τ' a' => pPl P T l n os r L x (Zd5 env o.dst) a' K τ') τ
   | _, _ => False)
  | none => False
 | .two i j x y, env, a, K, τ => match nth L i, nth L j, a with
  | some o, some o', .br a1 a2 => (match Zb6 env [] o.op, Zdt env o.dst, Zb6 env [] o'.op, Zdt env o'.dst with
   | true, true, true, true => ZAs P T l n os r o a1 (fun τ' a' => pPl P T l n os r L x (Zd5 env o.dst) a' K τ') τ ∧ ZAs P T l n os r o' a2 (fun τ' a' => pPl P T l n os r L y (Zd5 env o'.dst) a' K τ') τ
   | _, _, _, _ => False)
  | _, _, _ => False
section
variable {P : Program} {T : Nat → Option TI} {r : Ren} {l n outs : Nat} {B : Base}
theorem Zof (hr : RenOk r l outs) (hT : TOk P T) {L : List Oper} {K : St → Env → AT → Prop} {QQ : Exit → Act → World → Prop} {S : World → Prop} (hS : ∀ σ a w, R l n B σ a w → S w)
  (hK : ∀ τ' env' a' σ' act' w', K τ' env' a' → RG r l outs env' τ' σ' → R l n B σ' act' w' → QQ .normal act' w') :
  ∀ (π : Pl) (env : Env) (a : AT) (τ σ : St) (act : Act) (w : World), pPl P T l n outs r L π env a K τ → RG r l outs env τ σ → R l n B σ act w → ZoT P L QQ S π act w := by
 intro π
 induction π with
 | nil => intro env a τ σ act w h hG hR; exact hK _ _ _ _ _ _ h hG hR
 | fst i x ih =>
  intro env a τ σ act w h hG hR
  unfold pPl at h
  split at h
  ·rename_i o ho
   unfold ZoT
   rw [ho]
   split at h
   ·rename_i hc hf
    refine Oper.wp_mono (fun act' w' hh => ?_) (ZhH (B := B) hr hT hG hc hf h act w hR QQ)
    obtain ⟨σ', ⟨σ'', ⟨τ', a', h1, h2⟩, h3⟩, h4⟩ := hh
    exact ⟨hS _ _ _ h4, ih _ _ _ _ _ _ h1 h2 (h3 _ _ h4)⟩
   ·exact h.elim
  ·exact h.elim
 | two i j x y ihx ihy =>
  intro env a τ σ act w h hG hR
  unfold pPl at h
  split at h
  ·rename_i o o' a1 a2 ho ho'
   unfold ZoT
   rw [ho, ho']
   split at h
   ·rename_i hc hf hc' hf'
    refine ⟨Oper.wp_mono (fun act' w' hh => ?_) (ZhH (B := B) hr hT hG hc hf h.1 act w hR QQ), Oper.wp_mono (fun act' w' hh => ?_) (ZhH (B := B) hr hT hG hc' hf' h.2 act w hR QQ)⟩
    ·obtain ⟨σ', ⟨σ'', ⟨τ', a', h1, h2⟩, h3⟩, h4⟩ := hh
     exact ⟨hS _ _ _ h4, ihx _ _ _ _ _ _ h1 h2 (h3 _ _ h4)⟩
    ·obtain ⟨σ', ⟨σ'', ⟨τ', a', h1, h2⟩, h3⟩, h4⟩ := hh
     exact ⟨hS _ _ _ h4, ihy _ _ _ _ _ _ h1 h2 (h3 _ _ h4)⟩
   ·exact h.elim
  ·exact h.elim
end
def zB (s : Nat → AV) : List Nat → Bool
 | [] => true
 | z :: r => (match s z with | .iptr (_ :: _) _ => true | _ => false) && zB s r
theorem ZAT {s : Nat → AV} : ∀ {Z : List Nat}, zB s Z = true → ∀ z ∈ Z, ∃ x ds off, s z = .iptr (x :: ds) off
 | [], _, z, hz => by cases hz
 | y :: r, h, z, hz => by
  simp only [zB, Bool.and_eq_true] at h
  rcases List.mem_cons.1 hz with rfl | hz
  ·have h1 := h.1
   split at h1
   ·rename_i x ds off e; exact ⟨x, ds, off, e⟩
   ·cases h1
  ·exact ZAT h.2 z hz
def ZFn (P : Program) (π : Pl) (Z : List Nat) : Code → Bool
 | .region _ ops true => ops.toList.all noG && Nat.beq π.len ops.toList.length && Ziq P ops.toList (Z.map fun z => (z, z)) [] π
 | _ => false
section
variable {P : Program} {T : Nat → Option TI} {n : Nat} {C : Cx} {τ : St} {Q : Exit → St → Prop} {os : Nat} {c : Code} {β : Type} {L : β → Prop} {y : β}
theorem ZJy (co : CO C os) (hT : TOk P T) (hm' : P.follows .mixedOrders = true) (π : Pl) (Z : List Nat) (v : PT os β) (lf : Lf) (hv : v.m = some y) (hL : HL L y) (hn : ∀ r (g : Gd C r), v.n ⟨⟨C.l, r, Q, fun _ _ => False⟩, L, C, co, g, rfl⟩)
  (hq : ∀ l r Q Post, Zc7 r os v.a τ (fun τ a => match zB τ.s Z with | true => pPl P T l n os r (Zb7 c).toList π [] a (fun τ' env a' => Zc7 r os a' (ZmD env τ') (fun τ _ => ZfS (ZhU os) lf τ (Q .normal))) τ | false => False) = v.q ⟨l, r, Q, Post⟩ := by intro l r Q P; kernel_rfl)
  (hk : ZFn P π Z c = true := by kernel_rfl) : LW P n C c τ Q := by
 cases c with
 | region id ops dr =>
  cases dr with
  | false => cases hk
  | true =>
   obtain ⟨L', rfl⟩ : ∃ l : List Oper, ops = l.toArray := ⟨ops.toList, by simp⟩
   simp only [ZFn, Bool.and_eq_true] at hk
   obtain ⟨⟨k1, k2⟩, k3⟩ := hk
   intro γ σ hg hG a w hR
   have hR' : R C.l n C.B σ a { w with drawn := w.drawn + 1 } := by
    obtain ⟨s, H⟩ := σ
    obtain ⟨m, S, hO, hn, hdf, hS, hex⟩ := hR.un
    obtain ⟨h1, h2⟩ := hO.drew (w' := { w with drawn := w.drawn + 1 }) rfl rfl rfl rfl
    exact R.keep h1 hn hdf hS hex h2
   have h1 := v.ok _ (hn (C.r γ) ⟨rfl, rfl, rfl, rfl⟩) y hv hL
   rw [← hq] at h1
   generalize v.a = va at h1
   have ok := co.ok
   rw [← co.O, show ZhU C.outs = C.fx from by rw [co.O]; exact co.F.symm] at h1
   obtain ⟨τ₁, a₁, σ₁, h2, hG1, hw1⟩ := Zaq (n := n) ok va h1 hG
   split at h2
   case h_2 => exact h2.elim
   rename_i hz
   have hR1 := hw1 _ _ hR'
   obtain ⟨s1, H1⟩ := σ₁
   obtain ⟨m1, S1, hO1, hn1, hd1, hSl1, hex1⟩ := hR1.un
   let B1 : Base := ⟨H1, m1, S1, { w with drawn := w.drawn + 1 }⟩
   have hRB : R C.l n B1 ⟨s1, H1⟩ a { w with drawn := w.drawn + 1 } := ⟨m1, S1, hO1, hn1, hd1, hSl1, Ext.refl _ _ _ _ _⟩
   have back : ∀ σ' a' w', R C.l n B1 σ' a' w' → R C.l n C.B σ' a' w' := fun σ' a' w' h => by
    obtain ⟨m2, S2, g1, g2, g3, g4, g5⟩ := h
    exact ⟨m2, S2, g1, g2, g3, g4, hex1.trans g5⟩
   let S : World → Prop := fun w' => ∀ b, S1 b → w'.heap[b]? = ({ w with drawn := w.drawn + 1 } : World).heap[b]?
   have hS1 : ∀ σ' a' w', R C.l n B1 σ' a' w' → S w' := fun σ' a' w' h b hb => by
    obtain ⟨m2, S2, g1, g2, g3, g4, g5⟩ := h
    exact g5.blk b hb
   have hGd : ∀ (j : Nat) (o : Oper), L'.toArray[j]? = some o → noG o = true := fun j o ho => List.all_eq_true.1 k1 o (List.mem_of_getElem? (by simpa using ho))
   have hu : ∀ (j : Nat) (o : Oper), L'.toArray[j]? = some o → o.guard = none := fun j o ho => by
    have := hGd j o ho
    unfold noG at this
    rw [Bool.and_eq_true] at this
    cases hg : o.guard with
    | none => rfl
    | some _ => rw [hg] at this; simp at this
   have hsel : ∀ (j : Nat) (o : Oper) cs b, L'.toArray[j]? = some o → o.op ≠ .select cs b := fun j o cs b ho he => by
    have := hGd j o ho
    unfold noG at this
    rw [he, Bool.and_eq_true] at this
    simp at this
   let Q2 : Exit → Act → World → Prop := fun e a' w' => ∃ σ', Is n C (match e with | .normal => Q .normal | _ => fun _ => False) σ' ∧ R C.l n C.B σ' a' w'
   have hpl : ZoT P L' Q2 S π a { w with drawn := w.drawn + 1 } := by
    refine Zof (ok.ren γ) hT (B := B1) hS1 (fun τ' env' a' σ' act' w' k1 k2 k3 => ?_) π [] a₁ τ₁ ⟨s1, H1⟩ a _ h2 hG1 hRB
    obtain ⟨σ₂, g1, g2⟩ := Zdi (n := n) k2
    obtain ⟨τ₃, a₃, σ₃, f1, f2, f3⟩ := Zaq (n := n) ok a' k1 g1
    obtain ⟨γ', τ₄, σ₄, j0, j1, j2, j3⟩ := Zbw (n := n) ok f1 hg f2
    exact ⟨σ₄, ⟨γ', τ₄, σ₄, j0, j1, j2, Wk.refl _⟩, j3 _ _ (f3 _ _ (g2 _ _ (back _ _ _ k3)))⟩
   have hF : ∀ z ∈ Z, ∃ b, pb (a.eval (.tmp z)) = some b ∧ S1 b ∧ Cel { w with drawn := w.drawn + 1 } b := fun z hz' => by
    obtain ⟨x, ds, off, e⟩ := ZAT hz z hz'
    have hsz : s1 z = .iptr (x :: ds) off := by
     have := (hG1.s z).1 Zan
     simp only at this
     rw [this, e]; simp [ren]
    have hx := hSl1 z
    rw [hsz] at hx
    show ∃ b, pb (a.tmps.getD z Go.undef) = some b ∧ _
    generalize a.tmps.getD z Go.undef = vv at hx
    cases hx with
    | iptr _ _ ad c hb hc hr =>
     refine ⟨(ad.add off).block, rfl, by rw [block_add]; exact hb, ?_⟩
     rw [block_add]
     have h0 := hc 0 x rfl
     simp only [World.cell?] at h0
     have hbk : (ad.add 0).block = ad.block := block_add _ _
     rw [hbk] at h0
     split at h0
     ·rename_i C0 e0 f0 hh; exact ⟨C0, e0, f0, hh⟩
     ·cases h0
   have hw := ZoR (P := P) (L := L') (Q := Q2) (S := S) (β := fun z => (pb (a.eval (.tmp z))).getD 0) (F := fun b => S1 b ∧ Cel { w with drawn := w.drawn + 1 } b) (w0 := { w with drawn := w.drawn + 1 }) (fun b w' hb hS => hS b hb.1) (fun b hb => hb.2) hu hsel
    (fun c a w ⟨σ', ⟨_, _, _, _, hf, _⟩, _⟩ => hf) (fun ⟨a, w, σ', ⟨_, _, _, _, hf, _⟩, _⟩ => hf) π (Z.map fun z => (z, z)) [] (Array.replicate L'.toArray.size false) a { w with drawn := w.drawn + 1 } (by simp) (fun j hj => by simp [hj]) (fun x hx => by cases hx)
    (fun m om hm hl => by
     have : (Array.replicate L'.toArray.size false).getD m false = false := by
      simp only [Array.getD_eq_getD_getElem?, Array.getElem?_replicate]
      split <;> rfl
     rw [this] at hl
     cases hl) (by simpa using k3)
    (fun p hp => by
     obtain ⟨z, hz1, rfl⟩ := List.mem_map.1 hp
     obtain ⟨b, b1, b2⟩ := hF z hz1
     simp only [b1, Option.getD_some]; exact b2)
    (fun p hp b hb => by
     obtain ⟨z, hz1, rfl⟩ := List.mem_map.1 hp
     simp only at hb
     simp only [hb, Option.getD_some]) (fun b hb => rfl) hpl
   have hs : π.len = L'.toArray.size := by simpa using Nat.eq_of_beq_eq_true k2
   rw [hs] at hw
   refine wp_mono (wp_region_held hm' hw) fun e a' w' ⟨σ', h1, h2⟩ => ⟨σ', ?_, h2⟩
   cases e with
   | normal => exact h1
   | _ => obtain ⟨_, _, _, _, hf, _⟩ := h1; exact hf.elim
 | _ => cases hk
theorem Zqh {C : Cx} {r : Ren} (g : Gd C r) : ∀ {hb2 : List (Key × Blk)}, ZjI os hb2 = true → wrL C hb2 → wrR r hb2
 | [], _, _ => trivial
 | (k, b) :: t, hk, h => by
  simp only [ZjI, Bool.and_eq_true] at hk
  obtain ⟨⟨⟨k1, k2⟩, k3⟩, k4⟩ := hk
  unfold wrR
  unfold wrL at h
  rcases Zc4 k1 with h1 | ⟨h1, h2⟩
  ·rw [h1] at h ⊢; exact Zqh g k4 h
  ·rw [h1] at h ⊢; exact ⟨⟨h1, by rw [g.no, g.κ]; exact h.1⟩, Zqh g k4 h.2⟩
@[reducible] def ch {γ : Type} [Inhabited γ] (P : Program) (f : FuncId) (xs : List AV) (ks : List Key) (hb : List (Key × Blk)) (M : Option γ) (e : γ → AV) (hb2 : γ → List (Key × Blk)) (k : γ → PT os β) (hok : ∀ z, ZjI os (hb2 z) = true := by intro z; kernel_rfl) : PT os β :=
 ⟨.hard (e (M.getD default)) ks (hb2 (M.getD default)) [] (k (M.getD default)).a, fun E => ZiB P E.l E.r f xs hb (e (M.getD default)) (hb2 (M.getD default)) [] ∧ wrR E.r (hb2 (M.getD default)) ∧ (k (M.getD default)).q E, M.bind fun y => (k y).m,
 fun E => (∀ y, M = some y → ZiB P E.C.l E.E.r f xs hb (e y) (hb2 y) []) ∧ (∀ y, wrL E.C (hb2 y)) ∧ ∀ y, (k y).n E, fun E hn y hm hL => by
  obtain ⟨x, h1, h2⟩ := bind_some hm
  have h3 : M.getD default = x := by rw [h1]; rfl
  rw [h3]
  exact ⟨by rw [E.hl]; exact hn.1 x h1, Zqh E.g (hok x) (hn.2.1 x), (k x).ok E (hn.2.2 x) y h2 hL⟩⟩
end
end Go.Eng
namespace Go.Eng
set_option linter.all false
open Go Go.RowKit
section
variable {os : Nat} {β α : Type} [Rw α]
abbrev ZGT (xs : List α) (off cn : Nat) (z : List AV) : List AV := (Zaa Rw.e xs).take (off * Rw.s α) ++ (List.replicate cn z).flatten ++ (Zaa Rw.e xs).drop ((off + cn) * Rw.s α)
@[reducible] def cr (xs : List α) (off cn : Nat) (z : List AV) (k : PT os β) : PT os β := ⟨.cs (ZGT xs off cn z) k.a, fun E => ZHV (Zaa Rw.e xs) off cn (Rw.s α) z (ZGT xs off cn z) ∧ k.q E,
 if off + cn ≤ xs.length then k.m else none, k.n, fun E hn y hm hL => by
  obtain ⟨h0, hm⟩ := Zar hm
  exact ⟨ZsI Rw.len h0, k.ok E hn y hm hL⟩⟩
@[reducible] def tro (q : Nat) (xs : List α) (off cn : Nat) (z : List AV) (k : PT os β) (hq : Nat.ble (q + 1) os = true := by kernel_rfl) : PT os β := ⟨.trim (0, q) (Zaa Rw.e (xs.take off)) k.a, fun E => (∃ m, (ZGT xs off cn z).take m = Zaa Rw.e (xs.take off)) ∧ WrS E.r (0, q) ∧ k.q E,
 if off ≤ xs.length then k.m else none, k.n, fun E hn y hm hL => by
  obtain ⟨h0, hm⟩ := Zar hm
  exact ⟨Zs0 Rw.len h0, ⟨rfl, by rw [E.g.no, E.g.κ]; exact E.co.W q (Nat.le_of_ble_eq_true hq)⟩, k.ok E hn y hm hL⟩⟩
end
theorem lfx {P : AV → List Blk → Prop} {v v' : AV} {B : List Blk} (e : v = v') (h : P v' B) : P v B := e ▸ h
end Go.Eng
