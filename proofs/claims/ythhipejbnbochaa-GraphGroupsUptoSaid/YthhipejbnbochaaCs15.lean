import Derived.Test.YthhipejbnbochaaCs14
import Derived.OrdersHeld
import Derived.Test.YthhipejbnbochaaCs12
import Derived.Test.YthhipejbnbochaaCs00
namespace Go.Eng
set_option linter.all false
open Go Go.RowKit
inductive Pl where
 | nil
 | fst (i : Nat) (r : Pl)
 | two (i j : Nat) (a b : Pl)
 | opt (hs : List Nat) (i : Nat) (r s : Pl)
def Pl.len : Pl → Nat
 | .nil => 0
 | .fst _ r => r.len + 1
 | .two _ _ a _ => a.len + 1
 | .opt _ _ r _ => r.len + 1
def ZpS : Pl → Bool
 | .opt _ _ _ _ => true
 | _ => false
def Zxw : Pl → List Nat
 | .opt _ i _ s => i :: Zxw s
 | _ => []
def ZuA : Pl → Bool
 | .opt hs i r s => hs.all fun k => (Zxw (.opt hs i r s)).any (Nat.beq k)
 | _ => true
def Zim (P : Program) (L : List Oper) (Q : Exit → Act → World → Prop) (S : World → Prop) : Pl → Act → World → Prop
 | .nil, a, w => Q .normal a w
 | .fst i r, a, w => match nth L i with
  | some o => o.wp P a w (fun a' w' => S w' ∧ Zim P L Q S r a' w') Q
  | none => False
 | .two i j x y, a, w => match nth L i, nth L j with
  | some o, some o' => o.wp P a w (fun a' w' => S w' ∧ Zim P L Q S x a' w') Q ∧ o'.wp P a w (fun a' w' => S w' ∧ Zim P L Q S y a' w') Q
  | _, _ => False
 | .opt _ i x y, a, w => match nth L i with
  | some o => o.wp P a w (fun a' w' => S w' ∧ Zim P L Q S x a' w') Q ∧ (ZpS y = true → Zim P L Q S y a w)
  | none => False
def Zox (listed hs : List Nat) : Nat → List Oper → Bool
 | _, [] => true
 | k, ok :: r => (listed.any (Nat.beq k) || hs.any (Nat.beq k) || ok.after.toList.any (fun e => Region.binds .any e && !listed.any (Nat.beq e.on))) && Zox listed hs (k + 1) r
theorem ZiQ {listed hs : List Nat} : ∀ {r : List Oper} {j0 k : Nat} {ok : Oper}, Zox listed hs j0 r = true → r[k]? = some ok →
  (j0 + k) ∈ listed ∨ j0 + k ∈ hs ∨ ∃ e ∈ ok.after, Region.binds .any e = true ∧ e.on ∉ listed
 | [], j0, k, ok, _, h => by simp at h
 | q :: r, j0, k, ok, hc, h => by
  unfold Zox at hc
  rw [Yc] at hc
  cases k with
  | zero =>
   simp only [YO, Ye] at h
   subst h
   have h1 := hc.1
   simp only [Yz] at h1
   rcases h1 with (h1 | h1) | h1
   ·exact .inl (Zbv.1 h1)
   ·exact .inr (.inl (Zbv.1 h1))
   ·obtain ⟨e, he, h2⟩ := YL.1 h1
    rw [Yc] at h2
    exact .inr (.inr ⟨e, by simpa using he, h2.1, fun hm => by have := Zbv.2 hm; rw [this] at h2; cases h2.2⟩)
  | succ k =>
   have := ZiQ (k := k) hc.2 (by simpa using h)
   grind
def ZxO (listed : List Nat) (i j : Nat) : Nat → List Oper → Bool
 | _, [] => true
 | k, ok :: r => (listed.any (Nat.beq k) || Nat.beq k i || Nat.beq k j || ok.after.toList.any (fun e => Region.binds .any e && !listed.any (Nat.beq e.on))) && ZxO listed i j (k + 1) r
theorem Znl {listed : List Nat} {i j : Nat} : ∀ {r : List Oper} {j0 k : Nat} {ok : Oper}, ZxO listed i j j0 r = true → r[k]? = some ok →
  (j0 + k) ∈ listed ∨ j0 + k = i ∨ j0 + k = j ∨ ∃ e ∈ ok.after, Region.binds .any e = true ∧ e.on ∉ listed
 | [], j0, k, ok, _, h => by simp at h
 | q :: r, j0, k, ok, hc, h => by
  unfold ZxO at hc
  rw [Yc] at hc
  cases k with
  | zero =>
   simp only [YO, Ye] at h
   subst h
   have h1 := hc.1
   simp only [Yz] at h1
   rcases h1 with ((h1 | h1) | h1) | h1
   ·exact .inl (Zbv.1 h1)
   ·exact .inr (.inl (Ya h1))
   ·exact .inr (.inr (.inl (Ya h1)))
   ·obtain ⟨e, he, h2⟩ := YL.1 h1
    rw [Yc] at h2
    exact .inr (.inr (.inr ⟨e, by simpa using he, h2.1, fun hm => by have := Zbv.2 hm; rw [this] at h2; cases h2.2⟩))
  | succ k =>
   have := Znl (k := k) hc.2 (by simpa using h)
   grind
def Zm2 (env : List (Nat × Nat)) (o : Oper) : Bool := match o.op with
 | .load _ x => (match Zic x with | some y => (ZgZ y env).isSome | none => false)
 | _ => false
def Zff (P : Program) (L : List Oper) : List (Nat × Nat) → List Nat → Pl → Bool
 | _, listed, .nil => (List.range L.length).all fun j => listed.any (Nat.beq j)
 | env, listed, .fst i rest => (match nth L i with
  | some oi => !(listed.any (Nat.beq i)) && oi.after.toList.all (fun e => !Region.binds .any e || listed.any (Nat.beq e.on)) && (match vpO P oi || Zm2 env oi with | true => ZgL.chkV P L listed i oi 0 L | false => Zxo P L listed i oi 0 L) && Zff P L (ZbM P env oi) (i :: listed) rest && ZuA rest
  | none => false)
 | env, listed, .two i j x y => (match nth L i, nth L j with
  | some oi, some oj => oi.after.toList.all (fun e => !Region.binds .any e || listed.any (Nat.beq e.on)) && !(listed.any (Nat.beq i)) && !(listed.any (Nat.beq j)) && ZxO listed i j 0 L && Nat.beq x.len y.len && Zff P L (ZbM P env oi) (i :: listed) x && Zff P L (ZbM P env oj) (j :: listed) y && ZuA x && ZuA y
  | _, _ => false)
 | env, listed, .opt hs i x y => (match nth L i with
  | some oi => oi.after.toList.all (fun e => !Region.binds .any e || listed.any (Nat.beq e.on)) && !(listed.any (Nat.beq i)) && Zox listed hs 0 L && Zff P L (ZbM P env oi) (i :: listed) x && ZuA x && (!ZpS y || (Nat.beq y.len (x.len + 1) && Zff P L env listed y))
  | none => false)
def ZyK (o : Oper) (a a' : Act) : Prop := ∃ u, ∀ x, a'.eval x = (a.put o.dst u).eval x
theorem Zjt {P : Program} {o : Oper} {a : Act} {w : World} {N : Act → World → Prop} {Q : Exit → Act → World → Prop} (h : o.wp P a w N Q) : o.wp P a w (fun a' w' => N a' w' ∧ ZyK o a a' ∧ ∀ v w1, (execOp a.eval o).run P w = .ok (.value v) w1 → a' = a.put o.dst v) Q := by
 unfold Oper.wp at *
 cases hr : (execOp a.eval o).run P w with
 | ok n w' =>
  rw [hr] at h
  cases n <;> simp only [Oper.upon] at h ⊢
  case value u => exact ⟨h, ⟨u, fun _ => rfl⟩, fun v w1 e => by cases e; rfl⟩
  case skip => exact ⟨h, ⟨_, fun _ => rfl⟩, fun v w1 e => by cases e⟩
  case defer d => exact ⟨h, ⟨Go.undef, fun x => by cases o.dst <;> rfl⟩, fun v w1 e => by cases e⟩
  case enter f args =>
   refine Calls.mono h fun e w'' he => ?_
   cases e with
   | returned u => exact ⟨he, ⟨u, fun _ => rfl⟩, fun v w1 e => by cases e⟩
   | panicked c => exact he
   | outgrown => exact he
  case row row args => exact Rows.mono h fun u w'' he => ⟨he, ⟨u, fun _ => rfl⟩, fun v w1 e => by cases e⟩
 | halt x w' =>
  rw [hr] at h
  cases x <;> simp only [Oper.upon] at h ⊢
  grind
def JF (β : Nat → Nat) (env : List (Nat × Nat)) (a : Act) : Prop := ∀ p ∈ env, ∀ b, pb (a.eval (.tmp p.1)) = some b → b = β p.2
theorem eval_put (a : Act) (d j : Nat) (u : Value) (h : j ≠ d) : (a.put (some d) u).eval (.tmp j) = a.eval (.tmp j) := by
 simp only [Act.put, Act.eval, Yq, Yac]
 grind
theorem Zgv (a : Act) (d : Nat) (u : Value) : (a.put (some d) u).eval (.tmp d) = u ∨ (a.put (some d) u).eval (.tmp d) = Go.undef := by
 simp only [Act.put, Act.eval, Yq, Yac]
 grind
theorem JF.put {P : Program} {β : Nat → Nat} {env : List (Nat × Nat)} {a a' : Act} {o : Oper} {w : World} (hJ : JF β env a) (h : ZyK o a a') (hv : ∀ z, Ziz P o = some z → ∃ v w1, (execOp a.eval o).run P w = .ok (.value v) w1 ∧ a' = a.put o.dst v) : JF β (ZbM P env o) a' := by
 intro p hp b hb
 unfold ZbM at hp
 cases hd : o.dst with
 | none =>
  rw [hd] at hp
  obtain ⟨u, hu⟩ := h
  rw [hu, hd] at hb
  exact hJ p hp b hb
 | some d =>
  rw [hd] at hp
  rcases YD.1 hp with hp | hp
  ·cases hs : Ziz P o with
   | none => rw [hs] at hp; cases hp
   | some z =>
    rw [hs] at hp
    dsimp only at hp
    cases he : ZgZ z env with
    | none => rw [he] at hp; cases hp
    | some r =>
     rw [he] at hp
     rcases YG.1 hp with rfl
     obtain ⟨v, w1, e1, e2⟩ := hv z hs
     rw [e2, hd] at hb
     have hb2 : pb v = some b := by
      rcases Zgv a d v with e | e
      ·grind
      ·rw [e] at hb; cases hb
     exact hJ _ (Zb1 he) b (Zqk hs e1 hb2)
  ·obtain ⟨h1, h2⟩ := YJ.1 hp
   obtain ⟨u, hu⟩ := h
   have hne : p.1 ≠ d := fun e => by rw [e] at h2; simp at h2
   rw [hu, hd, eval_put a d p.1 u hne] at hb
   exact hJ p h1 b hb
section
variable {P : Program} {Q : Exit → Act → World → Prop} {L : List Oper} {S : World → Prop}
theorem Zid {ops : Array Oper} {i : Nat} {oi : Oper} {v : Value} (hi : ops[i]? = some oi) (hro : rdO P oi = true) (hu : ∀ (j : Nat) (o : Oper), ops[j]? = some o → o.guard = none) (hsel : ∀ (j : Nat) (o : Oper) cs b, ops[j]? = some o → o.op ≠ .select cs b)
  (hQ : ∀ c a w, ¬ Q (.panic c) a w) (hO : ¬ LetsOut Q) : ∀ (fuel : Nat) (listed : Array Bool) (a : Act) (w : World), DC ops listed →
   (∀ j oj, ops[j]? = some oj → j ≠ i → listed.getD j true = false → ¬ Waits ops j i → oi.apart ops oj = true ∧ (rdO P oj || grO oj) = true) →
   i ∈ Region.ready .any ops listed → (execOp a.eval oi).run P w = .ok (.value v) w → S w →
   wpAnyH P .any ops Q S fuel (listed.setIfInBounds i true) (a.put oi.dst v) w → wpAnyH P .any ops Q S (fuel + 1) listed a w := by
 have self : ∀ {a : Act} {w : World} {K : Act → World → Prop}, (execOp a.eval oi).run P w = .ok (.value v) w → K (a.put oi.dst v) w → wpOp P ops Q i K a w := fun hy h => by
  unfold wpOp
  simp only [hi]
  rw [if_pos (by simp [Region.wanted, hu i oi hi])]
  left
  unfold Oper.wp
  rw [hy]
  exact h
 intro fuel
 induction fuel with
 | zero =>
  intro listed a w _ _ hr hy hS H
  refine ⟨fun h => (by rw [h] at hr; cases hr), fun j hj => ?_⟩
  by_cases hji : j = i
  ·grind
  ·have := ready_mono hj hji
   rw [H.1] at this
   cases this
 | succ fuel ih =>
  intro listed a w hD hF hr hy hS H
  refine ⟨fun h => (by rw [h] at hr; cases hr), fun j hj => ?_⟩
  by_cases hji : j = i
  ·grind
  ·have h1 := H.2 j (ready_mono hj hji)
   obtain ⟨hjun, oj, hoj, hall⟩ := mem_ready.1 hj
   have hiun := (mem_ready.1 hr).1
   obtain ⟨hap, hrd⟩ := hF j oj hoj hji hjun (hD.nowait hj hiun)
   obtain ⟨p1, p2, p3⟩ := Oper.apart_spec hap
   obtain ⟨q1, q2⟩ := Zij (P := P) (ρ := a.eval) hrd
   unfold wpOp at h1 ⊢
   simp only [hoj] at h1 ⊢
   have hwt : ∀ y, Region.wanted oj y = true := fun y => by simp [Region.wanted, hu j oj hoj]
   rw [if_pos (hwt _)] at h1 ⊢
   rcases h1 with h1 | ⟨_, h1⟩
   case inr => exact absurd h1 hO
   left
   unfold Oper.wp at h1 ⊢
   rw [execOp_put oj (fun cs b => hsel j oj cs b hoj) a oi.dst v p1] at h1
   cases hrun : (execOp a.eval oj).run P w with
   | halt x w' =>
    rw [hrun] at h1
    cases x <;> simp only [Oper.upon] at h1
    grind
   | ok n w' =>
    have hw' := q1 _ _ _ hrun
    obtain ⟨u, rfl⟩ := q2 _ _ _ hrun
    rw [hrun] at h1
    simp only [Oper.upon] at h1 ⊢
    refine ⟨h1.1, ih (listed.setIfInBounds j true) (a.put oj.dst u) w' (hD.ready hj) (fun k ok hk hki hun hno => ?_) (ready_mono hr (Ne.symm hji)) ?_ h1.1 ?_⟩
    ·refine hF k ok hk hki ?_ hno
     by_cases hjk : j = k
     ·grind
     ·rw [getD_set_ne true hjk] at hun; exact hun
    ·rw [execOp_put oi (fun cs b => hsel i oi cs b hi) a oj.dst u p3]; exact ZjK hro _ _ _ _ hy hw'
    ·rw [YaP _ _ hji, ← Act.put_comm a v u p2]; exact h1.2
theorem Zoa {β : Nat → Nat} {F : Nat → Prop} {w0 : World} (hS0 : ∀ b w, F b → S w → w.heap[b]? = w0.heap[b]?) (hC : ∀ b, F b → Cel w0 b) (hu : ∀ (j : Nat) (o : Oper), L.toArray[j]? = some o → o.guard = none) (hsel : ∀ (j : Nat) (o : Oper) cs b, L.toArray[j]? = some o → o.op ≠ .select cs b) (hQ : ∀ c a w, ¬ Q (.panic c) a w) (hO : ¬ LetsOut Q) :
  ∀ (π : Pl) (env : List (Nat × Nat)) (listed : List Nat) (la : Array Bool) (a : Act) (w : World), la.size = L.length → (∀ j, j < L.length → (la.getD j true = true ↔ j ∈ listed)) → (∀ x ∈ listed, x < L.length) → DC L.toArray la → Zff P L env listed π = true → (∀ p ∈ env, F (β p.2)) → JF β env a → S w →
   Zim P L Q S π a w → (ZuA π = true → wpAnyH P .any L.toArray Q S π.len la a w) ∧
    ∀ k ∈ Zxw π, wpOp P L.toArray Q k (fun a' w' => S w' ∧ wpAnyH P .any L.toArray Q S (π.len - 1) (la.setIfInBounds k true) a' w') a w := by
 have un : ∀ (la : Array Bool) (listed : List Nat) (i : Nat), (∀ j, j < L.length → (la.getD j true = true ↔ j ∈ listed)) → i < L.length → listed.any (Nat.beq i) = false → la.getD i true = false := fun la listed i hl hiL c1 => by
  cases hb : la.getD i true with
  | false => rfl
  | true => have := Zbv.2 ((hl i hiL).1 hb); rw [c1] at this; cases this
 have next : ∀ (la : Array Bool) (listed : List Nat) (i : Nat), la.size = L.length → (∀ j, j < L.length → (la.getD j true = true ↔ j ∈ listed)) → ∀ j, j < L.length → ((la.setIfInBounds i true).getD j true = true ↔ j ∈ i :: listed) := fun la listed i hs hl j hj => by
  by_cases hji : i = j
  ·subst hji
   simp only [Yo, true_or, iff_true]
   simp [hs, hj]
  ·rw [getD_set_ne true hji, hl j hj, Yo]
   exact ⟨.inr, fun h => h.resolve_left (Ne.symm hji)⟩
 have rdy : ∀ (la : Array Bool) (listed : List Nat) (i : Nat) (oi : Oper), la.size = L.length → (∀ j, j < L.length → (la.getD j true = true ↔ j ∈ listed)) → (∀ x ∈ listed, x < L.length) → L[i]? = some oi → listed.any (Nat.beq i) = false →
   oi.after.toList.all (fun e => !Region.binds .any e || listed.any (Nat.beq e.on)) = true → i ∈ Region.ready .any L.toArray la := fun la listed i oi hs hl hlt hi c1 c2 =>
  mem_ready.2 ⟨un la listed i hl (Yb.1 hi).1 c1, oi, by simpa using hi, fun e he hb => by
   have h1 := Yj.1 c2 e (by simpa using he)
   rw [hb] at h1
   simp only [YbJ, YaW] at h1
   have hm := Zbv.1 h1
   have h2 := hlt _ hm
   have h3 := (hl _ h2).2 hm
   simp only [Yq] at h3 ⊢
   rw [Yh (by omega)] at h3 ⊢
   simpa using h3⟩
 have envF : ∀ (env : List (Nat × Nat)) (o : Oper), (∀ p ∈ env, F (β p.2)) → ∀ p ∈ ZbM P env o, F (β p.2) := fun env o hF p hp => by
  unfold ZbM at hp
  split at hp
  ·exact hF p hp
  ·rcases YD.1 hp with hp | hp
   ·split at hp
    ·split at hp
     ·rename_i r hr
      have e := YG.1 hp
      rw [e]
      have := hF _ (Zb1 hr)
      exact this
     ·cases hp
    ·cases hp
   ·exact hF p (YJ.1 hp).1
 have jput : ∀ (env : List (Nat × Nat)) (o : Oper) (a a' : Act) (w : World) (N : Act → World → Prop), o.wp P a w N Q → JF β env a → ZyK o a a' → (∀ v w1, (execOp a.eval o).run P w = .ok (.value v) w1 → a' = a.put o.dst v) → JF β (ZbM P env o) a' := fun env o a a' w N hw hJ h1 h2 => by
  refine hJ.put (P := P) (w := w) h1 fun z hz => ?_
  have hv : vpO P o = true := by unfold Ziz at hz; cases hv : vpO P o with | true => rfl | false => rw [hv] at hz; cases hz
  obtain ⟨v1, v2⟩ := Zfj (P := P) (ρ := a.eval) hv
  unfold Oper.wp at hw
  cases hrun : (execOp a.eval o).run P w with
  | halt x w' =>
   rw [hrun] at hw
   cases x <;> simp only [Oper.upon] at hw
   exact absurd hw (hQ _ _ _)
  | ok n w' =>
   obtain ⟨u, rfl⟩ := v2 _ _ _ hrun
   exact ⟨u, w', rfl, h2 u w' hrun⟩
 intro π
 induction π with
 | nil =>
  intro env listed la a w hs hl hlt hD hc hF hJ hS h
  unfold Zff at hc
  rw [Yj] at hc
  refine ⟨fun _ => ⟨?_, h⟩, fun k hk => by cases hk⟩
  cases hr : Region.ready .any L.toArray la with
  | nil => rfl
  | cons x xs =>
   have hx : x ∈ Region.ready .any L.toArray la := by rw [hr]; exact Yu ..
   obtain ⟨h0, o, ho, _⟩ := mem_ready.1 hx
   have hlt : x < L.length := by have := (YB.1 ho).1; simpa using this
   have := (hl x hlt).2 (Zbv.1 (hc x (Yaa.2 hlt)))
   rw [h0] at this
   cases this
 | two i j x y ihx ihy =>
  intro env listed la a w hs hl hlt hD hc hF hJ hS h
  unfold Zff at hc
  unfold Zim at h
  cases hi : L[i]? with
  | none => rw [Za2, hi] at hc; simp at hc
  | some oi =>
   cases hj : L[j]? with
   | none => rw [Za2, Za2, hi, hj] at hc; simp at hc
   | some oj =>
    rw [Za2, Za2, hi, hj] at hc h
    dsimp only at h
    simp only [Yc, YQ] at hc
    obtain ⟨⟨⟨⟨⟨⟨⟨⟨c0, c1⟩, c2⟩, c5⟩, c6⟩, c7⟩, c8⟩, cx⟩, cy⟩ := hc
    refine ⟨fun _ => ?_, fun k hk => by cases hk⟩
    have hiL : i < L.length := (Yb.1 hi).1
    have hjL : j < L.length := (Yb.1 hj).1
    obtain ⟨h1, h2⟩ := h
    have lt' : ∀ k, k < L.length → ∀ z ∈ k :: listed, z < L.length := fun k hk z hz => by
     rcases Yo.1 hz with rfl | hz
     ·exact hk
     ·exact hlt z hz
    show wpAnyH P .any L.toArray Q S (x.len + 1) la a w
    have hready : ∀ k ∈ Region.ready .any L.toArray la, k = i ∨ k = j := fun k hk => by
     obtain ⟨k0, ok, hok, hall⟩ := mem_ready.1 hk
     have hkl : k < L.length := by have := (YB.1 hok).1; simpa using this
     have := Znl (k := k) c5 (by simpa using hok)
     rw [Yy] at this
     rcases this with h3 | h3 | h3 | ⟨e, he, hb, hno⟩
     ·have := (hl k hkl).2 h3; rw [k0] at this; cases this
     ·exact .inl h3
     ·exact .inr h3
     ·have h4 := hall e he hb
      have h5 : e.on < L.length := by
       rcases Yt e.on la.size with h | h
       ·omega
       ·simp [YY h, Yq] at h4
      refine absurd ((hl e.on h5).1 ?_) hno
      simp only [Yq] at h4 ⊢
      rw [Yh (by omega)] at h4 ⊢
      simpa using h4
    have hr := rdy la listed i oi hs hl hlt hi c1 c0
    refine ⟨fun h0 => (by rw [h0] at hr; cases hr), fun k hk => ?_⟩
    rcases hready k hk with rfl | rfl
    ·unfold wpOp
     have hkA : L.toArray[k]? = some oi := by simpa using hi
     simp only [hkA]
     rw [if_pos (by simp [Region.wanted, hu k _ hkA])]
     exact .inl (Oper.wp_mono (fun a' w' hh => ⟨hh.1.1, (ihx (ZbM P env oi) (k :: listed) _ a' w' (by simp [hs]) (next la listed k hs hl) (lt' k hiL) (hD.ready hk) c7 (envF env oi hF) (jput env oi a a' w _ h1 hJ hh.2.1 hh.2.2) hh.1.1 hh.1.2).1 cx⟩) (Zjt h1))
    ·unfold wpOp
     have hkA : L.toArray[k]? = some oj := by simpa using hj
     simp only [hkA]
     rw [if_pos (by simp [Region.wanted, hu k _ hkA])]
     rw [Ya c6]
     exact .inl (Oper.wp_mono (fun a' w' hh => ⟨hh.1.1, (ihy (ZbM P env oj) (k :: listed) _ a' w' (by simp [hs]) (next la listed k hs hl) (lt' k hjL) (hD.ready hk) c8 (envF env oj hF) (jput env oj a a' w _ h2 hJ hh.2.1 hh.2.2) hh.1.1 hh.1.2).1 cy⟩) (Zjt h2))
 | opt hh0 i x y ihx ihy =>
  intro env listed la a w hs hl hlt hD hc hF hJ hS h
  unfold Zff at hc
  unfold Zim at h
  cases hi : L[i]? with
  | none => rw [Za2, hi] at hc; simp at hc
  | some oi =>
   rw [Za2, hi] at hc h
   dsimp only at h
   simp only [Yc, YQ, Yz] at hc
   obtain ⟨⟨⟨⟨⟨c0, c1⟩, c5⟩, c7⟩, cx⟩, cy⟩ := hc
   have hiL : i < L.length := (Yb.1 hi).1
   obtain ⟨h1, h2⟩ := h
   have lt' : ∀ k, k < L.length → ∀ z ∈ k :: listed, z < L.length := fun k hk z hz => by
    rcases Yo.1 hz with rfl | hz
    ·exact hk
    ·exact hlt z hz
   have hr := rdy la listed i oi hs hl hlt hi c1 c0
   have hB : ∀ k ∈ Zxw (.opt hh0 i x y), wpOp P L.toArray Q k (fun a' w' => S w' ∧ wpAnyH P .any L.toArray Q S x.len (la.setIfInBounds k true) a' w') a w := fun k hk => by
    rcases Yo.1 hk with rfl | hk
    ·unfold wpOp
     have hkA : L.toArray[k]? = some oi := by simpa using hi
     simp only [hkA]
     rw [if_pos (by simp [Region.wanted, hu k _ hkA])]
     exact .inl (Oper.wp_mono (fun a' w' hh => ⟨hh.1.1, (ihx (ZbM P env oi) (k :: listed) _ a' w' (by simp [hs]) (next la listed k hs hl) (lt' k hiL) (hD.ready hr) c7 (envF env oi hF) (jput env oi a a' w _ h1 hJ hh.2.1 hh.2.2) hh.1.1 hh.1.2).1 cx⟩) (Zjt h1))
    ·have hy : ZpS y = true := by cases y with | opt _ _ _ _ => rfl | _ => cases hk
     rcases cy with cy | ⟨cy, cz⟩
     ·rw [hy] at cy; cases cy
     ·have := (ihy env listed la a w hs hl hlt hD cz hF hJ hS (h2 hy)).2 k hk
      rw [Ya cy, Nat.add_sub_cancel] at this
      exact this
   refine ⟨fun hcov => ?_, hB⟩
   show wpAnyH P .any L.toArray Q S (x.len + 1) la a w
   refine ⟨fun h0 => (by rw [h0] at hr; cases hr), fun k hk => hB k ?_⟩
   obtain ⟨k0, ok, hok, hall⟩ := mem_ready.1 hk
   have hkl : k < L.length := by have := (YB.1 hok).1; simpa using this
   have := ZiQ (k := k) c5 (by simpa using hok)
   rw [Yy] at this
   rcases this with h3 | h3 | ⟨e, he, hb, hno⟩
   ·have := (hl k hkl).2 h3; rw [k0] at this; cases this
   ·exact Zbv.1 (Yj.1 hcov k h3)
   ·have h4 := hall e he hb
    have h5 : e.on < L.length := by
     rcases Yt e.on la.size with h | h
     ·omega
     ·simp [YY h, Yq] at h4
    refine absurd ((hl e.on h5).1 ?_) hno
    simp only [Yq] at h4 ⊢
    rw [Yh (by omega)] at h4 ⊢
    simpa using h4
 | fst i rest ih =>
  intro env listed la a w hs hl hlt hD hc hF hJ hS h
  unfold Zff at hc
  unfold Zim at h
  cases hi : L[i]? with
  | none => rw [Za2, hi] at hc; simp at hc
  | some oi =>
   rw [Za2, hi] at hc h
   dsimp only at h
   simp only [Yc, YQ] at hc
   obtain ⟨⟨⟨⟨c1, c2⟩, c3⟩, c4⟩, c9⟩ := hc
   refine ⟨fun _ => ?_, fun k hk => by cases hk⟩
   have hiL : i < L.length := (Yb.1 hi).1
   have hiA : L.toArray[i]? = some oi := by simpa using hi
   have hun := un la listed i hl hiL c1
   have hr := rdy la listed i oi hs hl hlt hi c1 c2
   have hlt' : ∀ x ∈ i :: listed, x < L.length := fun x hx => by
    rcases Yo.1 hx with rfl | hx
    ·exact hiL
    ·exact hlt x hx
   have ih : ∀ a' w', S w' → JF β (ZbM P env oi) a' → Zim P L Q S rest a' w' → wpAnyH P .any L.toArray Q S rest.len (la.setIfInBounds i true) a' w' := fun a' w' hS' hJ' h =>
    (ih (ZbM P env oi) (i :: listed) _ a' w' (by simp [hs]) (next la listed i hs hl) hlt' (hD.ready hr) c4 (envF env oi hF) hJ' hS' h).1 c9
   have hli : ∀ j, j < L.length → la.getD j true = false → j ∉ listed := fun j hj hun hm => by
    have := (hl j hj).2 hm
    rw [hun] at this
    cases this
   have free : ZgL.chkV P L listed i oi 0 L = true → ∀ j oj, L.toArray[j]? = some oj → j ≠ i → la.getD j true = false → (∀ e ∈ oj.after, Region.binds .any e = true → e.on ≠ i) → oi.apart L.toArray oj = true := fun c3 j oj hoj hji hjun hno => by
    have hjl : j < L.length := by have := (YB.1 hoj).1; simpa using this
    have := ZiA (k := j) c3 (by simpa using hoj)
    rw [Yy] at this
    rcases this with h3 | h3 | ⟨e, he, hb, he2⟩ | h3
    ·exact absurd h3 (hli j hjl hjun)
    ·exact absurd h3 hji
    ·exact absurd he2 (hno e he hb)
    ·exact h3
   show wpAnyH P .any L.toArray Q S (rest.len + 1) la a w
   have h' := Zjt h
   by_cases hv : vpO P oi = true
   ·rw [hv] at c3
    simp only [Bool.true_or] at c3
    obtain ⟨v1, v2⟩ := Zfj (P := P) (ρ := a.eval) hv
    have h0 := h
    unfold Oper.wp at h
    cases hrun : (execOp a.eval oi).run P w with
    | halt x w' =>
     rw [hrun] at h
     cases x <;> simp only [Oper.upon] at h
     exact absurd h (hQ _ _ _)
    | ok n w' =>
     obtain ⟨rfl, v3⟩ := v1 _ _ _ hrun
     obtain ⟨u, rfl⟩ := v2 _ _ _ hrun
     rw [hrun] at h
     simp only [Oper.upon] at h
     exact wpAnyH_first hiA hsel (fun c a w hq => absurd hq (hQ _ _ _)) rest.len la a w' (free c3) hr (.inl ⟨by simp [Region.wanted, hu i oi hiA], fun w2 _ => v3 w2⟩) hS (ih _ _ h.1 (jput env oi a _ w' _ h0 hJ ⟨u, fun _ => rfl⟩ fun v w1 e => by rw [hrun] at e; cases e; rfl) h.2)
   ·have hv' : vpO P oi = false := by cases hq : vpO P oi with | false => rfl | true => exact absurd hq hv
    rw [hv', YaW] at c3
    by_cases hh : Zm2 env oi = true
    ·rw [hh] at c3
     obtain ⟨t, x, y, r, ho, hy, he⟩ : ∃ t x y r, oi.op = .load t x ∧ Zic x = some y ∧ ZgZ y env = some r := by
      unfold Zm2 at hh
      split at hh
      ·rename_i t x ho
       split at hh
       ·rename_i y hy
        obtain ⟨r, hr⟩ := YK.1 hh
        exact ⟨t, x, y, r, ho, hy, hr⟩
       ·cases hh
      ·cases hh
     have hrd : rdO P oi = true := by unfold rdO; rw [hv', ho]; rfl
     obtain ⟨v1, v2⟩ := ZdQ (P := P) (ρ := a.eval) hrd
     have h0 := h
     unfold Oper.wp at h
     cases hrun : (execOp a.eval oi).run P w with
     | halt x w' =>
      rw [hrun] at h
      cases x <;> simp only [Oper.upon] at h
      exact absurd h (hQ _ _ _)
     | ok n w' =>
      have e := v1 _ _ _ hrun
      subst e
      obtain ⟨u, rfl⟩ := v2 _ _ _ hrun
      rw [hrun] at h
      simp only [Oper.upon] at h
      have hyl : YieldsIf P L.toArray S oi u a := .inl ⟨by simp [Region.wanted, hu i oi hiA], fun w2 hS2 => by
       obtain ⟨b, hb, hlo⟩ := ZsJ (w2 := w2) ho hrun
       have hb' : b = β r := hJ _ (Zb1 he) b (by rw [← Zev hy]; exact hb)
       have hFb : F b := by rw [hb']; exact hF _ (Zb1 he)
       have e1 := hS0 b w' hFb hS
       have e2 := hS0 b w2 hFb hS2
       obtain ⟨C, q1, q2, q3⟩ := hC b hFb
       exact hlo ⟨C, q1, q2, by rw [e1]; exact q3⟩ (by rw [e1, e2])⟩
      exact wpAnyH_first hiA hsel (fun c a w hq => absurd hq (hQ _ _ _)) rest.len la a w' (free c3) hr hyl hS (ih _ _ h.1 (jput env oi a _ w' _ h0 hJ ⟨u, fun _ => rfl⟩ fun v w1 e => by rw [hrun] at e; cases e; rfl) h.2)
    ·have hh' : Zm2 env oi = false := by cases hq : Zm2 env oi with | false => rfl | true => exact absurd hq hh
     rw [hh'] at c3
     have at_ : ∀ j oj, L.toArray[j]? = some oj → j ≠ i → la.getD j true = false → ¬ Waits L.toArray j i → oi.apart L.toArray oj = true ∧ rdO P oi = true ∧ (rdO P oj || grO oj) = true := fun j oj hoj hji hjun hno => by
      have hjl : j < L.length := by have := (YB.1 hoj).1; simpa using this
      have := Zh2 (k := j) c3 (by simpa using hoj)
      rw [Yy] at this
      rcases this with h3 | h3 | h3 | ⟨h3, h4⟩
      ·exact absurd h3 (hli j hjl hjun)
      ·exact absurd h3 hji
      ·exact absurd h3 hno
      ·rcases h4 with h4 | h4
       ·exact absurd h4 hv
       ·exact ⟨h3, h4⟩
     by_cases hrd : rdO P oi = true
     ·obtain ⟨v1, v2⟩ := ZdQ (P := P) (ρ := a.eval) hrd
      have h0 := h
      unfold Oper.wp at h
      cases hrun : (execOp a.eval oi).run P w with
      | halt x w' =>
       rw [hrun] at h
       cases x <;> simp only [Oper.upon] at h
       exact absurd h (hQ _ _ _)
      | ok n w' =>
       have e := v1 _ _ _ hrun
       subst e
       obtain ⟨u, rfl⟩ := v2 _ _ _ hrun
       rw [hrun] at h
       simp only [Oper.upon] at h
       exact Zid hiA hrd hu hsel hQ hO rest.len la a w' hD (fun j oj hoj hji hjun hno => ⟨(at_ j oj hoj hji hjun hno).1, (at_ j oj hoj hji hjun hno).2.2⟩) hr hrun hS (ih _ _ h.1 (jput env oi a _ w' _ h0 hJ ⟨u, fun _ => rfl⟩ fun v w1 e => by rw [hrun] at e; cases e; rfl) h.2)
     ·refine ⟨fun h0 => (by rw [h0] at hr; cases hr), fun j hj => ?_⟩
      have hji : j = i := by
       apply YaN
       intro hji
       obtain ⟨hjun, oj, hoj, _⟩ := mem_ready.1 hj
       exact hrd (at_ j oj hoj hji hjun (hD.nowait hj hun)).2.1
      subst hji
      unfold wpOp
      simp only [hiA]
      rw [if_pos (by simp [Region.wanted, hu j oi hiA])]
      exact .inl (Oper.wp_mono (fun a' w' hh => ⟨hh.1.1, ih a' w' hh.1.1 (jput env oi a a' w _ h hJ hh.2.1 hh.2.2) hh.1.2⟩) h')
end
def wrR (r : Ren) : List (Key × Blk) → Prop
 | [] => True
 | (k, _) :: t => match Nat.beq k.1 1 with | true => wrR r t | false => WrS r k ∧ wrR r t
def ZxN : List (Key × Blk) → Hp → Hp
 | [], H => H
 | (k, b) :: t, H => ZxN t (updH H k b)
def pHc (P : Program) (l n os : Nat) (r : Ren) (dst : Option Nat) (fo : AV) (xs : List AV) (a : AT) (K : St → AT → Prop) (τ : St) : Prop :=
 match fo, a with
 | .fn (.func f) [] [], .hard x ks hb2 [] b => (match ks.all (okK os), Zg1 os hb2 with
  | true, true => ZhL P l r f xs (ks.map fun k => (k, τ.H k)) x hb2 [] ∧ wrR r hb2 ∧ ZxE n K τ.s (ZxN hb2 τ.H) x b dst
  | _, _ => False)
 | _, _ => False
def ZwD : AT → Bool
 | .hard _ _ _ _ _ => true
 | _ => false
def Zsa (P : Program) (T : Nat → Option TI) (l n os : Nat) (r : Ren) (o : Oper) (a : AT) (K : St → AT → Prop) (τ : St) : Prop :=
 match ZwD a, o.op with
 | true, .call c => (match c.callee with
  | .value fo => pHc P l n os r o.dst (ev τ.s fo) (c.args.toList.map (ev τ.s)) a K τ
  | _ => False)
 | _, _ => Zoy P T l n r o a K τ
section
variable {P : Program} {T : Nat → Option TI} {r : Ren} {l n outs : Nat} {B : Base} {env : Env} {τ σ : St} {a : AT} {o : Oper} {K : St → AT → Prop}
theorem Zi9 (hr : RenOk r l outs) : ∀ (hb2 : List (Key × Blk)) {τ σ : St}, Zg1 outs hb2 = true → wrR r hb2 → RG r l outs env τ σ → RG r l outs env ⟨τ.s, ZxN hb2 τ.H⟩ ⟨σ.s, Zco r hb2 σ.H⟩
 | [], τ, σ, _, _, h => h
 | (k, b) :: t, τ, σ, hk, hw, h => by
  simp only [Zg1, Yc] at hk
  obtain ⟨⟨⟨k1, k2⟩, k3⟩, k4⟩ := hk
  have hko : Zrz r outs k ∧ wrR r t := by
   unfold wrR at hw
   rcases ZcY k1 with h1 | ⟨h1, h2⟩
   ·rw [h1] at hw; exact ⟨.inl h1, hw⟩
   ·rw [h1] at hw; exact ⟨.inr ⟨h1, h2, hw.1.2⟩, hw.2⟩
  exact Zi9 hr t (τ := ⟨τ.s, updH τ.H k b⟩) (σ := ⟨σ.s, updH σ.H (r.κ k) (ZaN r k b)⟩) k4 hko.2 (RG.updH hr h k b k2 hko.1)
theorem ZdN (hr : RenOk r l outs) (hT : TOk P T) (h : RG r l outs env τ σ) (hc : Zbz env [] o.op = true) (hf : ZcK env o.dst = true) (hp : Zsa P T l n outs r o a K τ) : AOp P l n B o (KA r l n outs B (ZcP env o.dst) K) σ := by
 unfold Zsa at hp
 split at hp
 case h_2 => exact Zjv hr hT h hc hf hp
 rename_i c ha ho
 split at hp
 case h_2 => exact hp.elim
 rename_i fo hcal
 unfold pHc at hp
 split at hp
 case h_2 => exact hp.elim
 rename_i f x ks hb2 b hfo
 split at hp
 case h_2 => exact hp.elim
 rename_i hks hokh
 obtain ⟨h1, h2, h3⟩ := hp
 have ops : ∀ x ∈ o.op.operands, ev σ.s x = ren r (ev τ.s x) := by
  unfold Zbz at hc
  split at hc
  ·grind
  ·exact ZbY h Zag hc
 rw [ho] at ops
 have hops : ∀ x, x = fo ∨ x ∈ c.args.toList → x ∈ (Op.call c).operands := fun x hx => by
  simp only [Op.operands, Call.operands, hcal]
  grind
 have hfe : ev σ.s fo = .fn (.func f) [] [] := by rw [ops fo (hops fo (.inl rfl)), hfo]; simp [ren, Zan]
 have hA := h1 σ.H (fun p hp => by
  obtain ⟨q, hq, rfl⟩ := Yr.1 hp
  have hq' := ZcY (Yj.1 hks q hq)
  refine ⟨?_, fun hl => h.h q hl⟩
  obtain ⟨q1, q2⟩ := q
  simp only at hq'
  rcases hq' with rfl | ⟨rfl, h2⟩
  ·have := h.g q2
   rw [← hr.own] at this
   exact this
  ·exact h.go q2 h2) h.o
 have hargs : Zan r (c.args.toList.map (ev τ.s)) = c.args.toList.map (ev σ.s) := by
  rw [ZbK, Yaq]
  exact YW fun y hy => (ops y (hops y (.inr hy))).symm
 refine Zcv ?_
 unfold rOp
 rw [ho]
 simp only [hcal, hfe, Yak, YaL]
 rw [hargs] at hA
 refine hA.mono fun y H'' ⟨γ', e1, e2, e3⟩ => ?_
 have hγ : γ' = r.γ := funext fun k => e1 k (by simp)
 subst hγ
 have e2 : y = ren r x := e2
 have e3 : H'' = Zco r hb2 σ.H := e3
 subst e3
 exact Zmw (τ' := ⟨τ.s, ZxN hb2 τ.H⟩) hf (Zi9 hr hb2 hokh h2 h) e2 h3
end
def pPl (P : Program) (T : Nat → Option TI) (l n os : Nat) (r : Ren) (L : List Oper) : Pl → Env → AT → (St → Env → AT → Prop) → St → Prop
 | .nil, env, a, K, τ => K τ env a
 | .fst i x, env, a, K, τ => match nth L i with
  | some o => (match Zbz env [] o.op, ZcK env o.dst with
   | true, true => Zsa P T l n os r o a (fun τ' a' => pPl P T l n os r L x (ZcP env o.dst) a' K τ') τ
   | _, _ => False)
  | none => False
 | .two i j x y, env, a, K, τ => match nth L i, nth L j, a with
  | some o, some o', .br a1 a2 => (match Zbz env [] o.op, ZcK env o.dst, Zbz env [] o'.op, ZcK env o'.dst with
   | true, true, true, true => Zsa P T l n os r o a1 (fun τ' a' => pPl P T l n os r L x (ZcP env o.dst) a' K τ') τ ∧ Zsa P T l n os r o' a2 (fun τ' a' => pPl P T l n os r L y (ZcP env o'.dst) a' K τ') τ
   | _, _, _, _ => False)
  | _, _, _ => False
 | .opt _ i x y, env, a, K, τ => match nth L i with
  | some o => (match Zbz env [] o.op, ZcK env o.dst with
   | true, true => (match ZpS y with
    | true => (match a with
     | .br a1 a2 => Zsa P T l n os r o a1 (fun τ' a' => pPl P T l n os r L x (ZcP env o.dst) a' K τ') τ ∧ pPl P T l n os r L y env a2 K τ
     | _ => False)
    | false => Zsa P T l n os r o a (fun τ' a' => pPl P T l n os r L x (ZcP env o.dst) a' K τ') τ)
   | _, _ => False)
  | none => False
section
variable {P : Program} {T : Nat → Option TI} {r : Ren} {l n outs : Nat} {B : Base}
theorem ZlU (hr : RenOk r l outs) (hT : TOk P T) {L : List Oper} {K : St → Env → AT → Prop} {QQ : Exit → Act → World → Prop} {S : World → Prop} (hS : ∀ σ a w, R l n B σ a w → S w)
  (hK : ∀ τ' env' a' σ' act' w', K τ' env' a' → RG r l outs env' τ' σ' → R l n B σ' act' w' → QQ .normal act' w') :
  ∀ (π : Pl) (env : Env) (a : AT) (τ σ : St) (act : Act) (w : World), pPl P T l n outs r L π env a K τ → RG r l outs env τ σ → R l n B σ act w → Zim P L QQ S π act w := by
 intro π
 induction π with
 | nil => intro env a τ σ act w h hG hR; exact hK _ _ _ _ _ _ h hG hR
 | fst i x ih =>
  intro env a τ σ act w h hG hR
  unfold pPl at h
  split at h
  ·rename_i o ho
   unfold Zim
   rw [ho]
   split at h
   ·rename_i hc hf
    refine Oper.wp_mono (fun act' w' hh => ?_) (ZdN (B := B) hr hT hG hc hf h act w hR QQ)
    obtain ⟨σ', ⟨σ'', ⟨τ', a', h1, h2⟩, h3⟩, h4⟩ := hh
    grind
   grind
  grind
 | two i j x y ihx ihy =>
  intro env a τ σ act w h hG hR
  unfold pPl at h
  split at h
  ·rename_i o o' a1 a2 ho ho'
   unfold Zim
   rw [ho, ho']
   split at h
   ·rename_i hc hf hc' hf'
    refine ⟨Oper.wp_mono (fun act' w' hh => ?_) (ZdN (B := B) hr hT hG hc hf h.1 act w hR QQ), Oper.wp_mono (fun act' w' hh => ?_) (ZdN (B := B) hr hT hG hc' hf' h.2 act w hR QQ)⟩
    ·obtain ⟨σ', ⟨σ'', ⟨τ', a', h1, h2⟩, h3⟩, h4⟩ := hh
     grind
    ·obtain ⟨σ', ⟨σ'', ⟨τ', a', h1, h2⟩, h3⟩, h4⟩ := hh
     grind
   grind
  grind
 | opt hs i x y ihx ihy =>
  intro env a τ σ act w h hG hR
  unfold pPl at h
  split at h
  ·rename_i o ho
   unfold Zim
   rw [ho]
   split at h
   ·rename_i hc hf
    split at h
    ·split at h
     ·refine ⟨Oper.wp_mono (fun act' w' hh => ?_) (ZdN (B := B) hr hT hG hc hf h.1 act w hR QQ), fun _ => ihy _ _ _ _ _ _ h.2 hG hR⟩
      obtain ⟨σ', ⟨σ'', ⟨τ', a', h1, h2⟩, h3⟩, h4⟩ := hh
      grind
     grind
    ·rename_i hy
     refine ⟨Oper.wp_mono (fun act' w' hh => ?_) (ZdN (B := B) hr hT hG hc hf h act w hR QQ), fun h0 => by rw [hy] at h0; cases h0⟩
     obtain ⟨σ', ⟨σ'', ⟨τ', a', h1, h2⟩, h3⟩, h4⟩ := hh
     grind
   grind
  grind
end
def zB (s : Nat → AV) : List Nat → Bool
 | [] => true
 | z :: r => (match s z with | .iptr (_ :: _) _ => true | _ => false) && zB s r
theorem Zwb {s : Nat → AV} : ∀ {Z : List Nat}, zB s Z = true → ∀ z ∈ Z, ∃ x ds off, s z = .iptr (x :: ds) off
 | [], _, z, hz => by cases hz
 | y :: r, h, z, hz => by
  simp only [zB, Yc] at h
  rcases Yo.1 hz with rfl | hz
  ·grind
  ·exact Zwb h.2 z hz
def ZuE (P : Program) (π : Pl) (Z : List Nat) : Code → Bool
 | .region _ ops true => ops.toList.all noG && Nat.beq π.len ops.toList.length && Zff P ops.toList (Z.map fun z => (z, z)) [] π && ZuA π
 | _ => false
section
variable {P : Program} {T : Nat → Option TI} {n : Nat} {C : Cx} {τ : St} {Q : Exit → St → Prop} {os : Nat} {c : Code} {β : Type} {L : β → Prop} {y : β}
theorem ZyL (co : CO C os) (hT : TOk P T) (hm' : P.follows .mixedOrders = true) (π : Pl) (Z : List Nat) (v : PT os β) (lf : Lf) (hv : v.m = some y) (hL : HL L y) (hn : ∀ r (g : Gd C r), v.n ⟨⟨C.l, r, Q, fun _ _ => False⟩, L, C, co, g, rfl⟩)
  (hq : ∀ l r Q Post, ZcN r os v.a τ (fun τ a => match zB τ.s Z with | true => pPl P T l n os r (Zb4 c).toList π [] a (fun τ' env a' => ZcN r os a' (Zkv env τ') (fun τ _ => Zfy (Zgj os) lf τ (Q .normal))) τ | false => False) = v.q ⟨l, r, Q, Post⟩ := by intro l r Q P; kernel_rfl)
  (hk : ZuE P π Z c = true := by kernel_rfl) : LW P n C c τ Q := by
 cases c with
 | region id ops dr =>
  cases dr with
  | false => cases hk
  | true =>
   obtain ⟨L', rfl⟩ : ∃ l : List Oper, ops = l.toArray := ⟨ops.toList, by simp⟩
   simp only [ZuE, Yc] at hk
   obtain ⟨⟨⟨k1, k2⟩, k3⟩, k4⟩ := hk
   intro γ σ hg hG a w hR
   have hR' : R C.l n C.B σ a { w with drawn := w.drawn + 1 } := by
    obtain ⟨s, H⟩ := σ
    obtain ⟨m, S, hO, hn, hdf, hS, hex⟩ := hR.un
    obtain ⟨h1, h2⟩ := hO.drew (w' := { w with drawn := w.drawn + 1 }) rfl rfl rfl rfl
    exact R.keep h1 hn hdf hS hex h2
   have h1 := v.ok _ (hn (C.r γ) ⟨rfl, rfl, rfl, rfl⟩) y hv hL
   rw [← hq] at h1
   generalize v.a = va at h1
   have ok := co.ok
   rw [← co.O, show Zgj C.outs = C.fx from by rw [co.O]; exact co.F.symm] at h1
   obtain ⟨τ₁, a₁, σ₁, h2, hG1, hw1⟩ := Zaq (n := n) ok va h1 hG
   split at h2
   case h_2 => exact h2.elim
   rename_i hz
   have hR1 := hw1 _ _ hR'
   obtain ⟨s1, H1⟩ := σ₁
   obtain ⟨m1, S1, hO1, hn1, hd1, hSl1, hex1⟩ := hR1.un
   let B1 : Base := ⟨H1, m1, S1, { w with drawn := w.drawn + 1 }⟩
   have hRB : R C.l n B1 ⟨s1, H1⟩ a { w with drawn := w.drawn + 1 } := ⟨m1, S1, hO1, hn1, hd1, hSl1, Ext.refl _ _ _ _ _⟩
   have back : ∀ σ' a' w', R C.l n B1 σ' a' w' → R C.l n C.B σ' a' w' := fun σ' a' w' h => by
    obtain ⟨m2, S2, g1, g2, g3, g4, g5⟩ := h
    exact ⟨m2, S2, g1, g2, g3, g4, hex1.trans g5⟩
   let S : World → Prop := fun w' => ∀ b, S1 b → w'.heap[b]? = ({ w with drawn := w.drawn + 1 } : World).heap[b]?
   have hS1 : ∀ σ' a' w', R C.l n B1 σ' a' w' → S w' := fun σ' a' w' h b hb => by
    obtain ⟨m2, S2, g1, g2, g3, g4, g5⟩ := h
    exact g5.blk b hb
   have hGd : ∀ (j : Nat) (o : Oper), L'.toArray[j]? = some o → noG o = true := fun j o ho => Yj.1 k1 o (Ym (by simpa using ho))
   have hu : ∀ (j : Nat) (o : Oper), L'.toArray[j]? = some o → o.guard = none := fun j o ho => by
    have := hGd j o ho
    unfold noG at this
    rw [Yc] at this
    cases hg : o.guard with
    | none => rfl
    | some _ => rw [hg] at this; simp at this
   have hsel : ∀ (j : Nat) (o : Oper) cs b, L'.toArray[j]? = some o → o.op ≠ .select cs b := fun j o cs b ho he => by
    have := hGd j o ho
    unfold noG at this
    rw [he, Yc] at this
    simp at this
   let Q2 : Exit → Act → World → Prop := fun e a' w' => ∃ σ', Is n C (match e with | .normal => Q .normal | _ => fun _ => False) σ' ∧ R C.l n C.B σ' a' w'
   have hpl : Zim P L' Q2 S π a { w with drawn := w.drawn + 1 } := by
    refine ZlU (ok.ren γ) hT (B := B1) hS1 (fun τ' env' a' σ' act' w' k1 k2 k3 => ?_) π [] a₁ τ₁ ⟨s1, H1⟩ a _ h2 hG1 hRB
    obtain ⟨σ₂, g1, g2⟩ := Zdd (n := n) k2
    obtain ⟨τ₃, a₃, σ₃, f1, f2, f3⟩ := Zaq (n := n) ok a' k1 g1
    obtain ⟨γ', τ₄, σ₄, j0, j1, j2, j3⟩ := Zbu (n := n) ok f1 hg f2
    exact ⟨σ₄, ⟨γ', τ₄, σ₄, j0, j1, j2, Wk.refl _⟩, j3 _ _ (f3 _ _ (g2 _ _ (back _ _ _ k3)))⟩
   have hF : ∀ z ∈ Z, ∃ b, pb (a.eval (.tmp z)) = some b ∧ S1 b ∧ Cel { w with drawn := w.drawn + 1 } b := fun z hz' => by
    obtain ⟨x, ds, off, e⟩ := Zwb hz z hz'
    have hsz : s1 z = .iptr (x :: ds) off := by
     have := (hG1.s z).1 Zag
     simp only at this
     rw [this, e]; simp [ren]
    have hx := hSl1 z
    rw [hsz] at hx
    show ∃ b, pb (a.tmps.getD z Go.undef) = some b ∧ _
    generalize a.tmps.getD z Go.undef = vv at hx
    cases hx with
    | iptr _ _ ad c hb hc hr =>
     refine ⟨(ad.add off).block, rfl, by rw [block_add]; exact hb, ?_⟩
     rw [block_add]
     have h0 := hc 0 x rfl
     simp only [World.cell?] at h0
     have hbk : (ad.add 0).block = ad.block := block_add _ _
     rw [hbk] at h0
     split at h0
     ·rename_i C0 e0 f0 hh; exact ⟨C0, e0, f0, hh⟩
     ·cases h0
   have hw := Zoa (P := P) (L := L') (Q := Q2) (S := S) (β := fun z => (pb (a.eval (.tmp z))).getD 0) (F := fun b => S1 b ∧ Cel { w with drawn := w.drawn + 1 } b) (w0 := { w with drawn := w.drawn + 1 }) (fun b w' hb hS => hS b hb.1) (fun b hb => hb.2) hu hsel
    (fun c a w ⟨σ', ⟨_, _, _, _, hf, _⟩, _⟩ => hf) (fun ⟨a, w, σ', ⟨_, _, _, _, hf, _⟩, _⟩ => hf) π (Z.map fun z => (z, z)) [] (Array.replicate L'.toArray.size false) a { w with drawn := w.drawn + 1 } (by simp) (fun j hj => by simp [hj]) (fun x hx => by cases hx)
    (fun m om hm hl => by
     have : (Array.replicate L'.toArray.size false).getD m false = false := by
      simp only [Yq, Ybv]
      split <;> rfl
     rw [this] at hl
     cases hl) (by simpa using k3)
    (fun p hp => by
     obtain ⟨z, hz1, rfl⟩ := Yr.1 hp
     obtain ⟨b, b1, b2⟩ := hF z hz1
     simp only [b1, Y4]; exact b2)
    (fun p hp b hb => by
     obtain ⟨z, hz1, rfl⟩ := Yr.1 hp
     simp only at hb
     simp only [hb, Y4]) (fun b hb => rfl) hpl
   have hs : π.len = L'.toArray.size := by simpa using Ya k2
   rw [hs] at hw
   refine wp_mono (wp_region_held hm' (hw.1 k4)) fun e a' w' ⟨σ', h1, h2⟩ => ⟨σ', ?_, h2⟩
   cases e with
   | normal => exact h1
   | _ => obtain ⟨_, _, _, _, hf, _⟩ := h1; exact hf.elim
 | _ => cases hk
@[reducible] def tw (k1 k2 : PT os β) : PT os β := ⟨.br k1.a k2.a, fun E => k1.q E ∧ k2.q E, k1.m, fun E => k1.n E ∧ k2.n E ∧ (∀ y, k1.m = some y → k2.m = some y), fun E hn y hm hL => ⟨k1.ok E hn.1 y hm hL, k2.ok E hn.2.1 y (hn.2.2 y hm) hL⟩⟩
@[reducible] def du (k : PT os β) : PT os β := ⟨.br k.a k.a, fun E => k.q E ∧ k.q E, k.m, k.n, fun E hn y hm hL => ⟨k.ok E hn y hm hL, k.ok E hn y hm hL⟩⟩
theorem Zlx {C : Cx} {r : Ren} (g : Gd C r) : ∀ {hb2 : List (Key × Blk)}, Zg1 os hb2 = true → wrL C hb2 → wrR r hb2
 | [], _, _ => trivial
 | (k, b) :: t, hk, h => by
  simp only [Zg1, Yc] at hk
  obtain ⟨⟨⟨k1, k2⟩, k3⟩, k4⟩ := hk
  unfold wrR
  unfold wrL at h
  rcases ZcY k1 with h1 | ⟨h1, h2⟩
  ·rw [h1] at h ⊢; exact Zlx g k4 h
  ·rw [h1] at h ⊢; exact ⟨⟨h1, by rw [g.no, g.κ]; exact h.1⟩, Zlx g k4 h.2⟩
@[reducible] def ch {γ : Type} [Inhabited γ] (P : Program) (f : FuncId) (xs : List AV) (ks : List Key) (hb : List (Key × Blk)) (M : Option γ) (e : γ → AV) (hb2 : γ → List (Key × Blk)) (k : γ → PT os β) (hok : ∀ z, Zg1 os (hb2 z) = true := by intro z; kernel_rfl) : PT os β :=
 ⟨.hard (e (M.getD default)) ks (hb2 (M.getD default)) [] (k (M.getD default)).a, fun E => ZhL P E.l E.r f xs hb (e (M.getD default)) (hb2 (M.getD default)) [] ∧ wrR E.r (hb2 (M.getD default)) ∧ (k (M.getD default)).q E, M.bind fun y => (k y).m,
 fun E => (∀ y, M = some y → ZhL P E.C.l E.E.r f xs hb (e y) (hb2 y) []) ∧ (∀ y, wrL E.C (hb2 y)) ∧ ∀ y, (k y).n E, fun E hn y hm hL => by
  obtain ⟨x, h1, h2⟩ := bind_some hm
  have h3 : M.getD default = x := by rw [h1]; rfl
  rw [h3]
  exact ⟨by rw [E.hl]; exact hn.1 x h1, Zlx E.g (hok x) (hn.2.1 x), (k x).ok E (hn.2.2 x) y h2 hL⟩⟩
end
end Go.Eng
namespace Go.Eng
set_option linter.all false
open Go Go.RowKit
theorem shq {A B : Prop} (b : A → B) (a : A) : B := b a
section
variable {P : Program} {l l' : Nat} {H : Hp} {m : Mu} {S : Nat → Prop} {w : World}
def ice (H : Hp) : Hp := fun k => { H k with live := false }
def ZsD (w : World) : Nat → Prop := fun b => b < w.heap.size
theorem Ok.ice (h : Ok l H m S w) : Ok l (ice H) m (ZsD w) w :=
 ⟨fun b h => h, fun k _ h => (by cases h), fun k _ h => (by cases h), fun k k' _ _ h => (by cases h), fun k _ h => (by cases h), ⟨fun k _ h => (by cases h), fun k _ h => (by cases h), fun k k' _ _ h => (by cases h)⟩⟩
inductive Vw (H : Hp) (l : Nat) : AV → D → Prop
 | d (x : D) : Vw H l (.d x) x
 | e0 : Vw H l .e0 (.list [])
 | ref (k : Key) (g n : Nat) (es : List (List D)) (hk : k.1 ≤ l) (hg : (H k).g = g) (hn : es.length = n) (hl : (H k).live = true) (hz : ∀ e ∈ es, e.length = (H k).sz) (hp : (H k).sz ≠ 0) (hc : (H k).cells.length = n * (H k).sz)
   (hr : ∀ (i : Nat) (x : AV) (d : D), (H k).cells[i]? = some x → es.flatten[i]? = some d → Vw H l x d) : Vw H l (.ref k g 0 n) (.list es)
 | mp (k : Key) (g : Nat) (a : Bool) (es : List (List D)) (hk : k.1 ≤ l) (hg : (H k).g = g) (hl : (H k).live = true) (he : (H k).e = .m a es) : Vw H l (.mp k g) (.map a es)
theorem Vw.rep {x : AV} {d : D} (h : Vw H (l + 1) x d) (hO : Ok (l + 1) H m S w) : ∀ {v : Value} {L : Nat}, RepA w S H m L x v → RepD w (ZsD w) d v := by
 induction h with
 | d x => intro v L hx; cases hx with | d _ _ h => exact h.mono (fun b hb => hO.sub b hb) (fun _ _ => rfl)
 | e0 =>
  intro v L hx
  cases hx with
  | e0 a =>
   cases a with
   | none => exact .nil
   | some ad => exact .list [] ad 0 _ (fun _ _ => .bool true) (fun h => absurd rfl h) (Yax _) (fun _ h => by cases h) (fun i j e x h => by simp at h) (fun i j e x h => by simp at h)
 | mp k g a es hk hg hl he =>
  intro v L hx
  cases hx with
  | mpD _ _ _ _ _ hd _ => rw [hd hg.symm] at hl; cases hl
  | mpL _ _ _ =>
   have ho := hO.mp.o k hk hl
   rw [he] at ho
   obtain ⟨ents, clock, h1, h2⟩ := ho
   exact .ofM (YB.1 h1).1 h1 (h2.mono (fun b hb => hO.sub b hb) (fun _ _ => rfl))
 | ref k g n es hk hg hn hl hz hp hc hr ih =>
  intro v L hx
  cases hx with
  | refD _ _ _ _ _ hk' hg' hd h1 => rw [hd hg.symm] at hl; cases hl
  | refL _ _ _ oa hk' hl' hcap ha =>
   by_cases hn0 : n = 0
   ·subst hn0
    have : es = [] := YF hn
    subst this
    cases oa with
    | none =>
     have e : (m k).cap - 0 = 0 := by
      rcases Yt 0 (m k).cap with h | h
      ·have := ha h; cases this
      ·omega
     rw [e]
     exact .nil
    | some ad => exact .list [] ad 0 _ (fun _ _ => .bool true) (fun h => absurd rfl h) (Yax _) (fun _ h => by cases h) (fun i j e x h => by simp at h) (fun i j e x h => by simp at h)
   ·have hoa := ha (by omega)
    subst hoa
    obtain ⟨hcp, C, g1, g2, g3, g4⟩ := hO.row (k := k) hk hl (by
     intro e
     rw [e] at hc
     have := Ybf (show 0 < n by omega) (show 0 < (H k).sz by omega)
     simp at hc
     omega)
    have cel : ∀ (i j : Nat) (e : List D) (d : D), es[i]? = some e → e[j]? = some d → ∃ u, C[(m k).o + (i * (H k).sz + j)]? = some u ∧ RepD w (ZsD w) d u := by
     intro i j e d hi hj
     have hil : i < n := by
      rw [← hn]
      exact (Yb.1 hi).1
     have hjl : j < (H k).sz := by
      rw [← hz e (Ym hi)]
      exact (Yb.1 hj).1
     have e1 := ZgD es hz i j e d hi hj
     have hlt : i * (H k).sz + j < n * (H k).sz := by
      have : (i + 1) * (H k).sz ≤ n * (H k).sz := YM _ hil
      rw [YE] at this
      omega
     have e2 : (H k).cells[i * (H k).sz + j]? = some ((H k).cells[i * (H k).sz + j]'(by omega)) := Yd (by omega)
     obtain ⟨u, f1, f2, f3⟩ := g4 _ _ e2
     exact ⟨u, f1, ih _ _ _ e2 e1 f3⟩
    have hb0 : ZsD w (m k).b := (YB.1 g1).1
    rw [Yae, Yad] at *
    rw [show n = es.length from hn.symm] at hcap ⊢
    exact .list es ⟨(m k).b, (m k).o, none⟩ (H k).sz _ (fun i j => (C[(m k).o + (i * (H k).sz + j)]?).getD Go.undef) (fun _ => hb0) (by omega) hz
     (fun i j e x hi hj => by
      obtain ⟨u, f1, f2⟩ := cel i j e x hi hj
      rw [Addr.add_lit, ZbG g1, f1]; rfl)
     (fun i j e x hi hj => by
      obtain ⟨u, f1, f2⟩ := cel i j e x hi hj
      rw [f1]; exact f2)
inductive Vx (H : Hp) (l : Nat) : AV → AV → Prop
 | d (x : AV) (d : D) (h : Vw H l x d) : Vx H l x (.d d)
 | ptr (k : Key) (g : Nat) (ds : List D) (hk : k.1 ≤ l) (hg : (H k).g = g) (hl : (H k).live = true) (hne : ds ≠ []) (hc : (H k).cells.length = ds.length) (hr : ∀ (i : Nat) (x : AV) (d : D), (H k).cells[i]? = some x → ds[i]? = some d → Vw H l x d) : Vx H l (.ptr k g 0) (.iptr ds 0)
 | fn (f : Fn) (xs ys : List AV) (hn : xs.length = ys.length) (h : ∀ (i : Nat) (x y : AV), xs[i]? = some x → ys[i]? = some y → Vx H l x y) : Vx H l (.fn f [] xs) (.fn f [] ys)
theorem Vx.rep {x y : AV} (h : Vx H (l + 1) x y) (hO : Ok (l + 1) H m S w) : ∀ {v : Value} {L L' : Nat}, RepA w S H m L x v → RepA w (ZsD w) (ice H) m L' y v := by
 induction h with
 | d x d h => intro v L L' hx; exact .d _ _ (h.rep hO hx)
 | ptr k g ds hk hg hl hne hc hr =>
  intro v L L' hx
  cases hx with
  | ptrD _ _ _ _ _ _ hd _ => rw [hd hg.symm] at hl; cases hl
  | ptrL _ _ _ _ =>
   have hcap : (m k).cap ≠ 0 := fun e => by
    have := hO.empty k hk hl e
    rw [this] at hc
    exact hne (YF hc.symm)
   obtain ⟨C, b1, b2, b3, b4⟩ := hO.blk k hk hl hcap
   exact .iptr ds 0 ⟨(m k).b, (m k).o, none⟩ (fun j => (C[(m k).o + j]?).getD Go.undef) (YB.1 b1).1
    (fun j x hj => by
     have hlt : j < ds.length := (Yb.1 hj).1
     rw [Addr.add_lit, ZbG b1, Yh (by omega)]; rfl)
    (fun j x hj => by
     have hlt : j < ds.length := (Yb.1 hj).1
     have hcj : C[(m k).o + j]? = some (C[(m k).o + j]'(by omega)) := Yh (by omega)
     have hx : (H k).cells[j]? = some ((H k).cells[j]'(by omega)) := Yd (by omega)
     obtain ⟨_, g2⟩ := b4 j _ _ hx hcj
     rw [hcj]
     exact (hr j _ _ hx hj).rep hO g2)
 | fn f xs ys hn h ih =>
  intro v L L' hx
  cases hx with
  | fn _ _ _ vs us hx hy h1 h2 =>
   exact .fn f [] ys vs us hx (hn.symm.trans hy) (fun i x v h => by simp at h) (fun i y v hi hv => by
    have hlt : i < xs.length := by rw [hn]; exact (Yb.1 hi).1
    have hxi : xs[i]? = some xs[i] := Yd hlt
    exact ih i _ y hxi hi (h2 i _ v hxi hv))
def Vxs (H : Hp) (l : Nat) : List AV → List AV → Prop
 | [], [] => True
 | x :: xs, y :: ys => Vx H l x y ∧ Vxs H l xs ys
 | _, _ => False
theorem Vxs.at {H : Hp} {l : Nat} : ∀ {xs ys : List AV}, Vxs H l xs ys → xs.length = ys.length ∧ ∀ (i : Nat) (x y : AV), xs[i]? = some x → ys[i]? = some y → Vx H l x y
 | [], [], _ => ⟨rfl, fun i x y h => by simp at h⟩
 | x :: xs, y :: ys, ⟨h1, h2⟩ => ⟨by simp [(Vxs.at h2).1], fun i a b ha hb => by
  cases i with
  | zero => simp at ha hb; subst ha; subst hb; exact h1
  | succ i => simp at ha hb; exact (Vxs.at h2).2 i a b ha hb⟩
 | [], _ :: _, h => h.elim
 | _ :: _, [], h => h.elim
def D.sc : D → Bool
 | .list _ => false
 | .map _ _ => false
 | _ => true
theorem D.sc_rep {d : D} (h : d.sc = true) {w w' : World} {S S' : Nat → Prop} {v : Value} (hr : RepD w S d v) : RepD w' S' d v := by
 cases hr with
 | int k n => exact .int k n
 | bool b => exact .bool b
 | str s => exact .str s
 | nil => cases h
 | list => cases h
 | mnil => cases h
 | map => cases h
theorem ZzP {f : FuncId} {xs ys : List AV} {d : D} (hd : d.sc = true) (hv : Vxs H (l + 1) xs ys) (hK : ∀ H, Za3 P f (l + 1) ys H (fun z H' => z = .d d ∧ H' = H)) : Za3 P f (l + 1) xs H (fun z H' => z = .d d ∧ H' = H) :=
 ⟨(hK H).1, fun m S w vs hO hA => by
  obtain ⟨v1, v2⟩ := hv.at
  have hA2 : Zdt w (ZsD w) (ice H) m (l + 1) ys vs := ⟨v1.symm.trans hA.1, fun i y v hi hvs => by
   have hlt : i < xs.length := by rw [v1]; exact (Yb.1 hi).1
   have hxi : xs[i]? = some xs[i] := Yd hlt
   exact (v2 i _ y hxi hi).rep hO (hA.2 i _ v hxi hvs)⟩
  refine ((hK (ice H)).2 m (ZsD w) w vs hO.ice hA2).mono ?_
  rintro e w' ⟨r, v, H', m', S', a, ⟨rfl, rfl⟩, c1, c2, c3⟩
  obtain ⟨k1, k2⟩ := hO.junk (fun i hi => c3.blk i hi) c3.size c3.os c3.tape c3.output
  refine ⟨_, v, H, m, S, a, ⟨rfl, rfl⟩, k1, ?_, k2⟩
  cases c2 with
  | d _ _ h => exact .d _ _ (D.sc_rep hd h)⟩
theorem ZfC {r : Ren} {f : FuncId} {xs ys : List AV} {hb : List (Key × Blk)} {d : D} (hK : ∀ l H, Za3 P f l ys H (fun z H' => z = .d d ∧ H' = H)) (hv : ∀ H' : Hp, (∀ p ∈ hb, p.2.live = true → H' (r.κ p.1) = ZaN r p.1 p.2) → Vxs H' (l + 1) (Zan r xs) ys) (hd : d.sc = true := by rfl) : Zfe P l r f xs hb (.d d) :=
 fun H' h1 h2 => by
  have := ZzP hd (hv H' h1) (hK _)
  exact this
end
section
variable {P : Program} {l : Nat} {H' : Hp} {r : Ren}
theorem ko0 {f : FuncId} {xs ys : List AV} {Θ : Cl} {γ : Type} {M : Option γ} {e : γ → AV} {bs : γ → List Blk} {y : γ} {x : AV} (K : KO P f 0 ys [] Θ M e bs) (hy : M = some y) (θ : Nat → AV) (hΘ : ∀ no l H, Θ no l H θ)
  (hx : ∀ l H, Zan (rOf l [] [] θ H) ys = xs := by intro l H; kernel_rfl) (he : ∀ l H, ren (rOf l [] [] θ H) (e y) = x := by intro l H; kernel_rfl) : ∀ l H, Za3 P f l xs H (fun z H' => z = x ∧ H' = H) := fun l H => by
 have := K.k l H [] [] θ rfl trivial .nil trivial (hΘ _ l H) y hy
 rw [hx, he] at this
 exact this.mono fun z H' ⟨a, b⟩ => ⟨a, b.trans (by simp [ZhR])⟩
theorem ZjC {f : FuncId} {zs caps : List AV} {x : AV} (h : ∀ l H, Za3 P f l (zs ++ caps) H (fun z H' => z = x ∧ H' = H)) {l : Nat} {no : Key → Prop} {H : Hp} : Zol P l no H (.fn (.func f) [] caps) zs x := ⟨f, [], caps, rfl, fun l' H' _ _ => h l' H'⟩
theorem Zyk {α : Type} {enc : α → List D} {xs : List α} (i : Nat) (x : AV) (d : D) (hx : (Zai enc xs)[i]? = some x) (hd : (xs.map enc).flatten[i]? = some d) : x = .d d := by
 have e : Zai enc xs = (xs.map enc).flatten.map AV.d := by
  clear hx hd
  induction xs with
  | nil => rfl
  | cons a l ih => rw [Zbp, ih]; simp
 rw [e, Ys, hd] at hx
 cases hx; rfl
theorem Znr {α : Type} {enc : α → List D} {xs : List α} {k : Key} {g sz e : Nat} (h : H' (r.κ k) = ZaN r k ⟨g, true, .t e, sz, Zai enc xs⟩) (hk : (r.κ k).1 ≤ l) (hz : ∀ x, (enc x).length = sz) (hp : sz ≠ 0 := by decide) : Vw H' l (ren r (.ref k g 0 xs.length)) (.list (xs.map enc)) := by
 have hf : Zan r (Zai enc xs) = Zai enc xs := Zbm (Zak _ _)
 unfold ren
 refine .ref _ _ _ _ hk (by rw [h]; rfl) (Yn _) (by rw [h]; rfl) (fun e he => ?_) (by rw [h]; exact hp) ?_ fun i x d hx hd => ?_
 ·obtain ⟨x, _, rfl⟩ := Yr.1 he
  rw [h]; exact hz x
 ·rw [h]
  show (Zan r (Zai enc xs)).length = xs.length * sz
  rw [hf]
  exact ZbH (fun x => hz x) xs
 ·rw [h] at hx
  change (Zan r (Zai enc xs))[i]? = some x at hx
  rw [hf] at hx
  rw [Zyk i x d hx hd]
  exact .d d
theorem Zyn {k : Key} {g : Nat} {a : Bool} {es : List (List D)} (h : H' (r.κ k) = ZaN r k ⟨g, true, .m a es, 0, []⟩) (hk : (r.κ k).1 ≤ l) : Vw H' l (ren r (.mp k g)) (.map a es) := by
 unfold ren
 exact .mp _ _ _ _ hk (by rw [h]; rfl) (by rw [h]; rfl) (by rw [h]; rfl)
theorem ZgJ {k : Key} {g sz e : Nat} {c : AV} {d : D} (h : H' (r.κ k) = ZaN r k ⟨g, true, .t e, sz, [c]⟩) (hk : (r.κ k).1 ≤ l) (hc : Vw H' l (ren r c) d) : Vx H' l (ren r (.ptr k g 0)) (.iptr [d] 0) := by
 unfold ren
 refine .ptr _ _ _ hk (by rw [h]; rfl) (by rw [h]; rfl) (by simp) (by rw [h]; simp [ZaN, Zan]) fun i x d hx hd => ?_
 rw [h] at hx
 simp only [ZaN, Zan] at hx
 cases i with
 | zero => simp at hx hd; subst hx; subst hd; exact hc
 | succ i => simp at hx
theorem ZqP {f : FuncId} {x1 x2 y1 y2 : AV} (h1 : Vx H' l (ren r x1) y1) (h2 : Vx H' l (ren r x2) y2) : Vx H' l (ren r (.fn (.func f) [] [x1, x2])) (.fn (.func f) [] [y1, y2]) := by
 have e : ren r (.fn (.func f) [] [x1, x2]) = .fn (.func f) [] [ren r x1, ren r x2] := rfl
 rw [e]
 refine .fn _ _ _ rfl fun i x y hx hy => ?_
 match i with
 | 0 => simp at hx hy; subst hx; subst hy; exact h1
 | 1 => simp at hx hy; subst hx; subst hy; exact h2
 | i + 2 => simp at hx
end
def Zsn (M : Option Int) (x : Int) : Option Unit := M.bind fun y => if y = x then some () else none
theorem Zl0 {M : Option Int} {x : Int} {u : Unit} (h : Zsn M x = some u) : M = some x := by
 unfold Zsn at h
 cases M with
 | none => cases h
 | some y => rw [Option.bind_some] at h; rw [(Zay h).1]
@[reducible] def aC {os : Nat} {β : Type} (n sz : Nat) (cs : List AV) (kk : Key) (g : Nat) (h : (Nat.ble (n * 256) 140737488355328 && cs.all AV.onef && Nat.beq cs.length (n * sz)) = true) (k : PT os β) : PT os β := ⟨.nat n (.cs cs k.a), fun E => Zh9 sz cs (.ref kk g 0 n) n cs ∧ Zux n 256 ∧ k.q E, k.m, k.n, fun E hn y hm hL => by
 simp only [Yc] at h
 have h2 := Ya h.2
 exact ⟨⟨h.1.2, rfl, by rw [h2, Yy]; exact Yg _, by rw [Yae, YaG, ← h2, Ya0]⟩, Yf h.1.1, k.ok E hn y hm hL⟩⟩
def Zut {γ : Type} [DecidableEq γ] (M : Option (List γ)) : Option γ := M.bind fun ys => match ys with
 | [] => none
 | y :: r => if ∀ z ∈ r, z = y then some y else none
theorem KCN.uniq {P : Program} {f : FuncId} {xs : List AV} {γ : Type} [DecidableEq γ] {M : Option (List γ)} {e : γ → AV} (K : KCN P f xs M e) : KC P f xs (Zut M) e := K.one _ fun y h => by
 unfold Zut at h
 cases M with
 | none => cases h
 | some ys =>
  refine ⟨ys, rfl, ?_⟩
  rw [Option.bind_some] at h
  split at h
  ·cases h
  ·obtain ⟨h1, h2⟩ := Zay h
   cases h2
   intro z hz
   rcases Yo.1 hz with rfl | hz
   ·rfl
   ·exact h1 z hz
theorem ZtN {γ : Type} [DecidableEq γ] {M : Option (List γ)} {ys : List γ} {y : γ} (h : M = some ys) (hne : ys ≠ []) (hy : ∀ z ∈ ys, z = y) : Zut M = some y := by
 subst h
 cases ys with
 | nil => exact absurd rfl hne
 | cons a r =>
  have e := hy a (Yu ..)
  subst e
  show (if ∀ z ∈ r, z = a then some a else none) = _
  rw [if_pos fun z hz => hy z (List.mem_cons_of_mem _ hz)]
end Go.Eng
