import Derived.Test.YtchkcemlglpobaaGreatCl15
import Derived.OrdersHeld
import Derived.Test.YtchkcemlglpobaaGreatCl14
import Derived.Shelf.Sort.Plain
import Derived.Shelf.Slices.In.SortNone
import Derived.Shelf.Slices.CompactS
import Derived.Test.YtchkcemlglpobaaGreatCl00
namespace Go.Eng
set_option linter.all false
open Go Go.RowKit
inductive Pl where
 | nil
 | fst (i : Nat) (r : Pl)
 | two (i j : Nat) (a b : Pl)
 | opt (hs : List Nat) (i : Nat) (r s : Pl)
def Pl.len : Pl → Nat
 | .nil => 0
 | .fst _ r => r.len + 1
 | .two _ _ a _ => a.len + 1
 | .opt _ _ r _ => r.len + 1
def ZsK : Pl → Bool
 | .opt _ _ _ _ => true
 | _ => false
def ZGT : Pl → List Nat
 | .opt _ i _ s => i :: ZGT s
 | _ => []
def ZBn : Pl → Bool
 | .opt hs i r s => hs.all fun k => (ZGT (.opt hs i r s)).any (Nat.beq k)
 | _ => true
def ZjY (P : Program) (L : List Oper) (Q : Exit → Act → World → Prop) (S : World → Prop) : Pl → Act → World → Prop
 | .nil, a, w => Q .normal a w
 | .fst i r, a, w => match nth L i with
  | some o => o.wp P a w (fun a' w' => S w' ∧ ZjY P L Q S r a' w') Q
  | none => False
 | .two i j x y, a, w => match nth L i, nth L j with
  | some o, some o' => o.wp P a w (fun a' w' => S w' ∧ ZjY P L Q S x a' w') Q ∧ o'.wp P a w (fun a' w' => S w' ∧ ZjY P L Q S y a' w') Q
  | _, _ => False
 | .opt _ i x y, a, w => match nth L i with
  | some o => o.wp P a w (fun a' w' => S w' ∧ ZjY P L Q S x a' w') Q ∧ (ZsK y = true → ZjY P L Q S y a w)
  | none => False
def Ztg (listed hs : List Nat) : Nat → List Oper → Bool
 | _, [] => true
 | k, ok :: r => (listed.any (Nat.beq k) || hs.any (Nat.beq k) || ok.after.toList.any (fun e => Region.binds .any e && !listed.any (Nat.beq e.on))) && Ztg listed hs (k + 1) r
theorem Zkn {listed hs : List Nat} : ∀ {r : List Oper} {j0 k : Nat} {ok : Oper}, Ztg listed hs j0 r = true → r[k]? = some ok →
  (j0 + k) ∈ listed ∨ j0 + k ∈ hs ∨ ∃ e ∈ ok.after, Region.binds .any e = true ∧ e.on ∉ listed
 | [], j0, k, ok, _, h => by simp at h
 | q :: r, j0, k, ok, hc, h => by
  unfold Ztg at hc
  rw [Bool.and_eq_true] at hc
  cases k with
  | zero =>
   simp only [YG, Ye] at h
   subst h
   have h1 := hc.1
   simp only [Bool.or_eq_true] at h1
   rcases h1 with (h1 | h1) | h1
   ·exact .inl (ZcJ.1 h1)
   ·exact .inr (.inl (ZcJ.1 h1))
   ·obtain ⟨e, he, h2⟩ := YH.1 h1
    rw [Bool.and_eq_true] at h2
    exact .inr (.inr ⟨e, by simpa using he, h2.1, fun hm => by have := ZcJ.2 hm; rw [this] at h2; cases h2.2⟩)
  | succ k =>
   have := Zkn (k := k) hc.2 (by simpa using h)
   grind
def ZGV (listed : List Nat) (i j : Nat) : Nat → List Oper → Bool
 | _, [] => true
 | k, ok :: r => (listed.any (Nat.beq k) || Nat.beq k i || Nat.beq k j || ok.after.toList.any (fun e => Region.binds .any e && !listed.any (Nat.beq e.on))) && ZGV listed i j (k + 1) r
theorem ZmR {listed : List Nat} {i j : Nat} : ∀ {r : List Oper} {j0 k : Nat} {ok : Oper}, ZGV listed i j j0 r = true → r[k]? = some ok →
  (j0 + k) ∈ listed ∨ j0 + k = i ∨ j0 + k = j ∨ ∃ e ∈ ok.after, Region.binds .any e = true ∧ e.on ∉ listed
 | [], j0, k, ok, _, h => by simp at h
 | q :: r, j0, k, ok, hc, h => by
  unfold ZGV at hc
  rw [Bool.and_eq_true] at hc
  cases k with
  | zero =>
   simp only [YG, Ye] at h
   subst h
   have h1 := hc.1
   simp only [Bool.or_eq_true] at h1
   rcases h1 with ((h1 | h1) | h1) | h1
   ·exact .inl (ZcJ.1 h1)
   ·exact .inr (.inl (Ya h1))
   ·exact .inr (.inr (.inl (Ya h1)))
   ·obtain ⟨e, he, h2⟩ := YH.1 h1
    rw [Bool.and_eq_true] at h2
    exact .inr (.inr (.inr ⟨e, by simpa using he, h2.1, fun hm => by have := ZcJ.2 hm; rw [this] at h2; cases h2.2⟩))
  | succ k =>
   have := ZmR (k := k) hc.2 (by simpa using h)
   grind
def Zqf (env : List (Nat × Nat)) (o : Oper) : Bool := match o.op with
 | .load _ x => (match Zke x with | some y => (Zii y env).isSome | none => false)
 | _ => false
def ZfR (P : Program) (L : List Oper) : List (Nat × Nat) → List Nat → Pl → Bool
 | _, listed, .nil => (List.range L.length).all fun j => listed.any (Nat.beq j)
 | env, listed, .fst i rest => (match nth L i with
  | some oi => !(listed.any (Nat.beq i)) && oi.after.toList.all (fun e => !Region.binds .any e || listed.any (Nat.beq e.on)) && (match vpO P oi || Zqf env oi with | true => Zrd.chkV P L listed i oi 0 L | false => ZGi P L listed i oi 0 L) && ZfR P L (ZcB P env oi) (i :: listed) rest && ZBn rest
  | none => false)
 | env, listed, .two i j x y => (match nth L i, nth L j with
  | some oi, some oj => oi.after.toList.all (fun e => !Region.binds .any e || listed.any (Nat.beq e.on)) && !(listed.any (Nat.beq i)) && !(listed.any (Nat.beq j)) && ZGV listed i j 0 L && Nat.beq x.len y.len && ZfR P L (ZcB P env oi) (i :: listed) x && ZfR P L (ZcB P env oj) (j :: listed) y && ZBn x && ZBn y
  | _, _ => false)
 | env, listed, .opt hs i x y => (match nth L i with
  | some oi => oi.after.toList.all (fun e => !Region.binds .any e || listed.any (Nat.beq e.on)) && !(listed.any (Nat.beq i)) && Ztg listed hs 0 L && ZfR P L (ZcB P env oi) (i :: listed) x && ZBn x && (!ZsK y || (Nat.beq y.len (x.len + 1) && ZfR P L env listed y))
  | none => false)
def ZIY (o : Oper) (a a' : Act) : Prop := ∃ u, ∀ x, a'.eval x = (a.put o.dst u).eval x
theorem Zku {P : Program} {o : Oper} {a : Act} {w : World} {N : Act → World → Prop} {Q : Exit → Act → World → Prop} (h : o.wp P a w N Q) : o.wp P a w (fun a' w' => N a' w' ∧ ZIY o a a' ∧ ∀ v w1, (execOp a.eval o).run P w = .ok (.value v) w1 → a' = a.put o.dst v) Q := by
 unfold Oper.wp at *
 cases hr : (execOp a.eval o).run P w with
 | ok n w' =>
  rw [hr] at h
  cases n <;> simp only [Oper.upon] at h ⊢
  case value u => exact ⟨h, ⟨u, fun _ => rfl⟩, fun v w1 e => by cases e; rfl⟩
  case skip => exact ⟨h, ⟨_, fun _ => rfl⟩, fun v w1 e => by cases e⟩
  case defer d => exact ⟨h, ⟨Go.undef, fun x => by cases o.dst <;> rfl⟩, fun v w1 e => by cases e⟩
  case enter f args =>
   refine Calls.mono h fun e w'' he => ?_
   cases e with
   | returned u => exact ⟨he, ⟨u, fun _ => rfl⟩, fun v w1 e => by cases e⟩
   | panicked c => exact he
   | outgrown => exact he
  case row row args => exact Rows.mono h fun u w'' he => ⟨he, ⟨u, fun _ => rfl⟩, fun v w1 e => by cases e⟩
 | halt x w' =>
  rw [hr] at h
  cases x <;> simp only [Oper.upon] at h ⊢
  grind
def JF (β : Nat → Nat) (env : List (Nat × Nat)) (a : Act) : Prop := ∀ p ∈ env, ∀ b, pb (a.eval (.tmp p.1)) = some b → b = β p.2
theorem eval_put (a : Act) (d j : Nat) (u : Value) (h : j ≠ d) : (a.put (some d) u).eval (.tmp j) = a.eval (.tmp j) := by
 simp only [Act.put, Act.eval, Ym, Y5]
 grind
theorem Zho (a : Act) (d : Nat) (u : Value) : (a.put (some d) u).eval (.tmp d) = u ∨ (a.put (some d) u).eval (.tmp d) = Go.undef := by
 simp only [Act.put, Act.eval, Ym, Y5]
 grind
theorem JF.put {P : Program} {β : Nat → Nat} {env : List (Nat × Nat)} {a a' : Act} {o : Oper} {w : World} (hJ : JF β env a) (h : ZIY o a a') (hv : ∀ z, Zj7 P o = some z → ∃ v w1, (execOp a.eval o).run P w = .ok (.value v) w1 ∧ a' = a.put o.dst v) : JF β (ZcB P env o) a' := by
 intro p hp b hb
 unfold ZcB at hp
 cases hd : o.dst with
 | none =>
  rw [hd] at hp
  obtain ⟨u, hu⟩ := h
  rw [hu, hd] at hb
  exact hJ p hp b hb
 | some d =>
  rw [hd] at hp
  rcases Yai.1 hp with hp | hp
  ·cases hs : Zj7 P o with
   | none => rw [hs] at hp; cases hp
   | some z =>
    rw [hs] at hp
    dsimp only at hp
    cases he : Zii z env with
    | none => rw [he] at hp; cases hp
    | some r =>
     rw [he] at hp
     rcases Y3.1 hp with rfl
     obtain ⟨v, w1, e1, e2⟩ := hv z hs
     rw [e2, hd] at hb
     have hb2 : pb v = some b := by
      rcases Zho a d v with e | e
      ·grind
      ·rw [e] at hb; cases hb
     exact hJ _ (ZcN he) b (Zvh hs e1 hb2)
  ·obtain ⟨h1, h2⟩ := YX.1 hp
   obtain ⟨u, hu⟩ := h
   have hne : p.1 ≠ d := fun e => by rw [e] at h2; simp at h2
   rw [hu, hd, eval_put a d p.1 u hne] at hb
   exact hJ p h1 b hb
section
variable {P : Program} {Q : Exit → Act → World → Prop} {L : List Oper} {S : World → Prop}
theorem Zjz {ops : Array Oper} {i : Nat} {oi : Oper} {v : Value} (hi : ops[i]? = some oi) (hro : rdO P oi = true) (hu : ∀ (j : Nat) (o : Oper), ops[j]? = some o → o.guard = none) (hsel : ∀ (j : Nat) (o : Oper) cs b, ops[j]? = some o → o.op ≠ .select cs b)
  (hQ : ∀ c a w, ¬ Q (.panic c) a w) (hO : ¬ LetsOut Q) : ∀ (fuel : Nat) (listed : Array Bool) (a : Act) (w : World), DC ops listed →
   (∀ j oj, ops[j]? = some oj → j ≠ i → listed.getD j true = false → ¬ Waits ops j i → oi.apart ops oj = true ∧ (rdO P oj || grO oj) = true) →
   i ∈ Region.ready .any ops listed → (execOp a.eval oi).run P w = .ok (.value v) w → S w →
   wpAnyH P .any ops Q S fuel (listed.setIfInBounds i true) (a.put oi.dst v) w → wpAnyH P .any ops Q S (fuel + 1) listed a w := by
 have self : ∀ {a : Act} {w : World} {K : Act → World → Prop}, (execOp a.eval oi).run P w = .ok (.value v) w → K (a.put oi.dst v) w → wpOp P ops Q i K a w := fun hy h => by
  unfold wpOp
  simp only [hi]
  rw [if_pos (by simp [Region.wanted, hu i oi hi])]
  left
  unfold Oper.wp
  rw [hy]
  exact h
 intro fuel
 induction fuel with
 | zero =>
  intro listed a w _ _ hr hy hS H
  refine ⟨fun h => (by rw [h] at hr; cases hr), fun j hj => ?_⟩
  by_cases hji : j = i
  ·grind
  ·have := ready_mono hj hji
   rw [H.1] at this
   cases this
 | succ fuel ih =>
  intro listed a w hD hF hr hy hS H
  refine ⟨fun h => (by rw [h] at hr; cases hr), fun j hj => ?_⟩
  by_cases hji : j = i
  ·grind
  ·have h1 := H.2 j (ready_mono hj hji)
   obtain ⟨hjun, oj, hoj, hall⟩ := mem_ready.1 hj
   have hiun := (mem_ready.1 hr).1
   obtain ⟨hap, hrd⟩ := hF j oj hoj hji hjun (hD.nowait hj hiun)
   obtain ⟨p1, p2, p3⟩ := Oper.apart_spec hap
   obtain ⟨q1, q2⟩ := ZnA (P := P) (ρ := a.eval) hrd
   unfold wpOp at h1 ⊢
   simp only [hoj] at h1 ⊢
   have hwt : ∀ y, Region.wanted oj y = true := fun y => by simp [Region.wanted, hu j oj hoj]
   rw [if_pos (hwt _)] at h1 ⊢
   rcases h1 with h1 | ⟨_, h1⟩
   case inr => exact absurd h1 hO
   left
   unfold Oper.wp at h1 ⊢
   rw [execOp_put oj (fun cs b => hsel j oj cs b hoj) a oi.dst v p1] at h1
   cases hrun : (execOp a.eval oj).run P w with
   | halt x w' =>
    rw [hrun] at h1
    cases x <;> simp only [Oper.upon] at h1
    grind
   | ok n w' =>
    have hw' := q1 _ _ _ hrun
    obtain ⟨u, rfl⟩ := q2 _ _ _ hrun
    rw [hrun] at h1
    simp only [Oper.upon] at h1 ⊢
    refine ⟨h1.1, ih (listed.setIfInBounds j true) (a.put oj.dst u) w' (hD.ready hj) (fun k ok hk hki hun hno => ?_) (ready_mono hr (Ne.symm hji)) ?_ h1.1 ?_⟩
    ·refine hF k ok hk hki ?_ hno
     by_cases hjk : j = k
     ·grind
     ·rw [getD_set_ne true hjk] at hun; exact hun
    ·rw [execOp_put oi (fun cs b => hsel i oi cs b hi) a oj.dst u p3]; exact Zsm hro _ _ _ _ hy hw'
    ·rw [Ya5 _ _ hji, ← Act.put_comm a v u p2]; exact h1.2
theorem Zpe {β : Nat → Nat} {F : Nat → Prop} {w0 : World} (hS0 : ∀ b w, F b → S w → w.heap[b]? = w0.heap[b]?) (hC : ∀ b, F b → Cel w0 b) (hu : ∀ (j : Nat) (o : Oper), L.toArray[j]? = some o → o.guard = none) (hsel : ∀ (j : Nat) (o : Oper) cs b, L.toArray[j]? = some o → o.op ≠ .select cs b) (hQ : ∀ c a w, ¬ Q (.panic c) a w) (hO : ¬ LetsOut Q) :
  ∀ (π : Pl) (env : List (Nat × Nat)) (listed : List Nat) (la : Array Bool) (a : Act) (w : World), la.size = L.length → (∀ j, j < L.length → (la.getD j true = true ↔ j ∈ listed)) → (∀ x ∈ listed, x < L.length) → DC L.toArray la → ZfR P L env listed π = true → (∀ p ∈ env, F (β p.2)) → JF β env a → S w →
   ZjY P L Q S π a w → (ZBn π = true → wpAnyH P .any L.toArray Q S π.len la a w) ∧
    ∀ k ∈ ZGT π, wpOp P L.toArray Q k (fun a' w' => S w' ∧ wpAnyH P .any L.toArray Q S (π.len - 1) (la.setIfInBounds k true) a' w') a w := by
 have un : ∀ (la : Array Bool) (listed : List Nat) (i : Nat), (∀ j, j < L.length → (la.getD j true = true ↔ j ∈ listed)) → i < L.length → listed.any (Nat.beq i) = false → la.getD i true = false := fun la listed i hl hiL c1 => by
  cases hb : la.getD i true with
  | false => rfl
  | true => have := ZcJ.2 ((hl i hiL).1 hb); rw [c1] at this; cases this
 have next : ∀ (la : Array Bool) (listed : List Nat) (i : Nat), la.size = L.length → (∀ j, j < L.length → (la.getD j true = true ↔ j ∈ listed)) → ∀ j, j < L.length → ((la.setIfInBounds i true).getD j true = true ↔ j ∈ i :: listed) := fun la listed i hs hl j hj => by
  by_cases hji : i = j
  ·subst hji
   simp only [Ys, true_or, iff_true]
   simp [hs, hj]
  ·rw [getD_set_ne true hji, hl j hj, Ys]
   exact ⟨.inr, fun h => h.resolve_left (Ne.symm hji)⟩
 have rdy : ∀ (la : Array Bool) (listed : List Nat) (i : Nat) (oi : Oper), la.size = L.length → (∀ j, j < L.length → (la.getD j true = true ↔ j ∈ listed)) → (∀ x ∈ listed, x < L.length) → L[i]? = some oi → listed.any (Nat.beq i) = false →
   oi.after.toList.all (fun e => !Region.binds .any e || listed.any (Nat.beq e.on)) = true → i ∈ Region.ready .any L.toArray la := fun la listed i oi hs hl hlt hi c1 c2 =>
  mem_ready.2 ⟨un la listed i hl (List.getElem?_eq_some_iff.1 hi).1 c1, oi, by simpa using hi, fun e he hb => by
   have h1 := Yh.1 c2 e (by simpa using he)
   rw [hb] at h1
   simp only [YaD, YaE] at h1
   have hm := ZcJ.1 h1
   have h2 := hlt _ hm
   have h3 := (hl _ h2).2 hm
   simp only [Ym] at h3 ⊢
   rw [Yf (by omega)] at h3 ⊢
   simpa using h3⟩
 have envF : ∀ (env : List (Nat × Nat)) (o : Oper), (∀ p ∈ env, F (β p.2)) → ∀ p ∈ ZcB P env o, F (β p.2) := fun env o hF p hp => by
  unfold ZcB at hp
  split at hp
  ·exact hF p hp
  ·rcases Yai.1 hp with hp | hp
   ·split at hp
    ·split at hp
     ·rename_i r hr
      have e := Y3.1 hp
      rw [e]
      have := hF _ (ZcN hr)
      exact this
     ·cases hp
    ·cases hp
   ·exact hF p (YX.1 hp).1
 have jput : ∀ (env : List (Nat × Nat)) (o : Oper) (a a' : Act) (w : World) (N : Act → World → Prop), o.wp P a w N Q → JF β env a → ZIY o a a' → (∀ v w1, (execOp a.eval o).run P w = .ok (.value v) w1 → a' = a.put o.dst v) → JF β (ZcB P env o) a' := fun env o a a' w N hw hJ h1 h2 => by
  refine hJ.put (P := P) (w := w) h1 fun z hz => ?_
  have hv : vpO P o = true := by unfold Zj7 at hz; cases hv : vpO P o with | true => rfl | false => rw [hv] at hz; cases hz
  obtain ⟨v1, v2⟩ := Zhf (P := P) (ρ := a.eval) hv
  unfold Oper.wp at hw
  cases hrun : (execOp a.eval o).run P w with
  | halt x w' =>
   rw [hrun] at hw
   cases x <;> simp only [Oper.upon] at hw
   exact absurd hw (hQ _ _ _)
  | ok n w' =>
   obtain ⟨u, rfl⟩ := v2 _ _ _ hrun
   exact ⟨u, w', rfl, h2 u w' hrun⟩
 intro π
 induction π with
 | nil =>
  intro env listed la a w hs hl hlt hD hc hF hJ hS h
  unfold ZfR at hc
  rw [Yh] at hc
  refine ⟨fun _ => ⟨?_, h⟩, fun k hk => by cases hk⟩
  cases hr : Region.ready .any L.toArray la with
  | nil => rfl
  | cons x xs =>
   have hx : x ∈ Region.ready .any L.toArray la := by rw [hr]; exact Yw ..
   obtain ⟨h0, o, ho, _⟩ := mem_ready.1 hx
   have hlt : x < L.length := by have := (YD.1 ho).1; simpa using this
   have := (hl x hlt).2 (ZcJ.1 (hc x (Yat.2 hlt)))
   rw [h0] at this
   cases this
 | two i j x y ihx ihy =>
  intro env listed la a w hs hl hlt hD hc hF hJ hS h
  unfold ZfR at hc
  unfold ZjY at h
  cases hi : L[i]? with
  | none => rw [Zby, hi] at hc; simp at hc
  | some oi =>
   cases hj : L[j]? with
   | none => rw [Zby, Zby, hi, hj] at hc; simp at hc
   | some oj =>
    rw [Zby, Zby, hi, hj] at hc h
    dsimp only at h
    simp only [Bool.and_eq_true, Bool.not_eq_true'] at hc
    obtain ⟨⟨⟨⟨⟨⟨⟨⟨c0, c1⟩, c2⟩, c5⟩, c6⟩, c7⟩, c8⟩, cx⟩, cy⟩ := hc
    refine ⟨fun _ => ?_, fun k hk => by cases hk⟩
    have hiL : i < L.length := (List.getElem?_eq_some_iff.1 hi).1
    have hjL : j < L.length := (List.getElem?_eq_some_iff.1 hj).1
    obtain ⟨h1, h2⟩ := h
    have lt' : ∀ k, k < L.length → ∀ z ∈ k :: listed, z < L.length := fun k hk z hz => by
     rcases Ys.1 hz with rfl | hz
     ·exact hk
     ·exact hlt z hz
    show wpAnyH P .any L.toArray Q S (x.len + 1) la a w
    have hready : ∀ k ∈ Region.ready .any L.toArray la, k = i ∨ k = j := fun k hk => by
     obtain ⟨k0, ok, hok, hall⟩ := mem_ready.1 hk
     have hkl : k < L.length := by have := (YD.1 hok).1; simpa using this
     have := ZmR (k := k) c5 (by simpa using hok)
     rw [Yz] at this
     rcases this with h3 | h3 | h3 | ⟨e, he, hb, hno⟩
     ·have := (hl k hkl).2 h3; rw [k0] at this; cases this
     ·exact .inl h3
     ·exact .inr h3
     ·have h4 := hall e he hb
      have h5 : e.on < L.length := by
       rcases Yo e.on la.size with h | h
       ·omega
       ·simp [YL h, Ym] at h4
      refine absurd ((hl e.on h5).1 ?_) hno
      simp only [Ym] at h4 ⊢
      rw [Yf (by omega)] at h4 ⊢
      simpa using h4
    have hr := rdy la listed i oi hs hl hlt hi c1 c0
    refine ⟨fun h0 => (by rw [h0] at hr; cases hr), fun k hk => ?_⟩
    rcases hready k hk with rfl | rfl
    ·unfold wpOp
     have hkA : L.toArray[k]? = some oi := by simpa using hi
     simp only [hkA]
     rw [if_pos (by simp [Region.wanted, hu k _ hkA])]
     exact .inl (Oper.wp_mono (fun a' w' hh => ⟨hh.1.1, (ihx (ZcB P env oi) (k :: listed) _ a' w' (by simp [hs]) (next la listed k hs hl) (lt' k hiL) (hD.ready hk) c7 (envF env oi hF) (jput env oi a a' w _ h1 hJ hh.2.1 hh.2.2) hh.1.1 hh.1.2).1 cx⟩) (Zku h1))
    ·unfold wpOp
     have hkA : L.toArray[k]? = some oj := by simpa using hj
     simp only [hkA]
     rw [if_pos (by simp [Region.wanted, hu k _ hkA])]
     rw [Ya c6]
     exact .inl (Oper.wp_mono (fun a' w' hh => ⟨hh.1.1, (ihy (ZcB P env oj) (k :: listed) _ a' w' (by simp [hs]) (next la listed k hs hl) (lt' k hjL) (hD.ready hk) c8 (envF env oj hF) (jput env oj a a' w _ h2 hJ hh.2.1 hh.2.2) hh.1.1 hh.1.2).1 cy⟩) (Zku h2))
 | opt hh0 i x y ihx ihy =>
  intro env listed la a w hs hl hlt hD hc hF hJ hS h
  unfold ZfR at hc
  unfold ZjY at h
  cases hi : L[i]? with
  | none => rw [Zby, hi] at hc; simp at hc
  | some oi =>
   rw [Zby, hi] at hc h
   dsimp only at h
   simp only [Bool.and_eq_true, Bool.not_eq_true', Bool.or_eq_true] at hc
   obtain ⟨⟨⟨⟨⟨c0, c1⟩, c5⟩, c7⟩, cx⟩, cy⟩ := hc
   have hiL : i < L.length := (List.getElem?_eq_some_iff.1 hi).1
   obtain ⟨h1, h2⟩ := h
   have lt' : ∀ k, k < L.length → ∀ z ∈ k :: listed, z < L.length := fun k hk z hz => by
    rcases Ys.1 hz with rfl | hz
    ·exact hk
    ·exact hlt z hz
   have hr := rdy la listed i oi hs hl hlt hi c1 c0
   have hB : ∀ k ∈ ZGT (.opt hh0 i x y), wpOp P L.toArray Q k (fun a' w' => S w' ∧ wpAnyH P .any L.toArray Q S x.len (la.setIfInBounds k true) a' w') a w := fun k hk => by
    rcases Ys.1 hk with rfl | hk
    ·unfold wpOp
     have hkA : L.toArray[k]? = some oi := by simpa using hi
     simp only [hkA]
     rw [if_pos (by simp [Region.wanted, hu k _ hkA])]
     exact .inl (Oper.wp_mono (fun a' w' hh => ⟨hh.1.1, (ihx (ZcB P env oi) (k :: listed) _ a' w' (by simp [hs]) (next la listed k hs hl) (lt' k hiL) (hD.ready hr) c7 (envF env oi hF) (jput env oi a a' w _ h1 hJ hh.2.1 hh.2.2) hh.1.1 hh.1.2).1 cx⟩) (Zku h1))
    ·have hy : ZsK y = true := by cases y with | opt _ _ _ _ => rfl | _ => cases hk
     rcases cy with cy | ⟨cy, cz⟩
     ·rw [hy] at cy; cases cy
     ·have := (ihy env listed la a w hs hl hlt hD cz hF hJ hS (h2 hy)).2 k hk
      rw [Ya cy, Nat.add_sub_cancel] at this
      exact this
   refine ⟨fun hcov => ?_, hB⟩
   show wpAnyH P .any L.toArray Q S (x.len + 1) la a w
   refine ⟨fun h0 => (by rw [h0] at hr; cases hr), fun k hk => hB k ?_⟩
   obtain ⟨k0, ok, hok, hall⟩ := mem_ready.1 hk
   have hkl : k < L.length := by have := (YD.1 hok).1; simpa using this
   have := Zkn (k := k) c5 (by simpa using hok)
   rw [Yz] at this
   rcases this with h3 | h3 | ⟨e, he, hb, hno⟩
   ·have := (hl k hkl).2 h3; rw [k0] at this; cases this
   ·exact ZcJ.1 (Yh.1 hcov k h3)
   ·have h4 := hall e he hb
    have h5 : e.on < L.length := by
     rcases Yo e.on la.size with h | h
     ·omega
     ·simp [YL h, Ym] at h4
    refine absurd ((hl e.on h5).1 ?_) hno
    simp only [Ym] at h4 ⊢
    rw [Yf (by omega)] at h4 ⊢
    simpa using h4
 | fst i rest ih =>
  intro env listed la a w hs hl hlt hD hc hF hJ hS h
  unfold ZfR at hc
  unfold ZjY at h
  cases hi : L[i]? with
  | none => rw [Zby, hi] at hc; simp at hc
  | some oi =>
   rw [Zby, hi] at hc h
   dsimp only at h
   simp only [Bool.and_eq_true, Bool.not_eq_true'] at hc
   obtain ⟨⟨⟨⟨c1, c2⟩, c3⟩, c4⟩, c9⟩ := hc
   refine ⟨fun _ => ?_, fun k hk => by cases hk⟩
   have hiL : i < L.length := (List.getElem?_eq_some_iff.1 hi).1
   have hiA : L.toArray[i]? = some oi := by simpa using hi
   have hun := un la listed i hl hiL c1
   have hr := rdy la listed i oi hs hl hlt hi c1 c2
   have hlt' : ∀ x ∈ i :: listed, x < L.length := fun x hx => by
    rcases Ys.1 hx with rfl | hx
    ·exact hiL
    ·exact hlt x hx
   have ih : ∀ a' w', S w' → JF β (ZcB P env oi) a' → ZjY P L Q S rest a' w' → wpAnyH P .any L.toArray Q S rest.len (la.setIfInBounds i true) a' w' := fun a' w' hS' hJ' h =>
    (ih (ZcB P env oi) (i :: listed) _ a' w' (by simp [hs]) (next la listed i hs hl) hlt' (hD.ready hr) c4 (envF env oi hF) hJ' hS' h).1 c9
   have hli : ∀ j, j < L.length → la.getD j true = false → j ∉ listed := fun j hj hun hm => by
    have := (hl j hj).2 hm
    rw [hun] at this
    cases this
   have free : Zrd.chkV P L listed i oi 0 L = true → ∀ j oj, L.toArray[j]? = some oj → j ≠ i → la.getD j true = false → (∀ e ∈ oj.after, Region.binds .any e = true → e.on ≠ i) → oi.apart L.toArray oj = true := fun c3 j oj hoj hji hjun hno => by
    have hjl : j < L.length := by have := (YD.1 hoj).1; simpa using this
    have := Zm9 (k := j) c3 (by simpa using hoj)
    rw [Yz] at this
    rcases this with h3 | h3 | ⟨e, he, hb, he2⟩ | h3
    ·exact absurd h3 (hli j hjl hjun)
    ·exact absurd h3 hji
    ·exact absurd he2 (hno e he hb)
    ·exact h3
   show wpAnyH P .any L.toArray Q S (rest.len + 1) la a w
   have h' := Zku h
   by_cases hv : vpO P oi = true
   ·rw [hv] at c3
    simp only [Bool.true_or] at c3
    obtain ⟨v1, v2⟩ := Zhf (P := P) (ρ := a.eval) hv
    have h0 := h
    unfold Oper.wp at h
    cases hrun : (execOp a.eval oi).run P w with
    | halt x w' =>
     rw [hrun] at h
     cases x <;> simp only [Oper.upon] at h
     exact absurd h (hQ _ _ _)
    | ok n w' =>
     obtain ⟨rfl, v3⟩ := v1 _ _ _ hrun
     obtain ⟨u, rfl⟩ := v2 _ _ _ hrun
     rw [hrun] at h
     simp only [Oper.upon] at h
     exact wpAnyH_first hiA hsel (fun c a w hq => absurd hq (hQ _ _ _)) rest.len la a w' (free c3) hr (.inl ⟨by simp [Region.wanted, hu i oi hiA], fun w2 _ => v3 w2⟩) hS (ih _ _ h.1 (jput env oi a _ w' _ h0 hJ ⟨u, fun _ => rfl⟩ fun v w1 e => by rw [hrun] at e; cases e; rfl) h.2)
   ·have hv' : vpO P oi = false := by cases hq : vpO P oi with | false => rfl | true => exact absurd hq hv
    rw [hv', YaE] at c3
    by_cases hh : Zqf env oi = true
    ·rw [hh] at c3
     obtain ⟨t, x, y, r, ho, hy, he⟩ : ∃ t x y r, oi.op = .load t x ∧ Zke x = some y ∧ Zii y env = some r := by
      unfold Zqf at hh
      split at hh
      ·rename_i t x ho
       split at hh
       ·rename_i y hy
        obtain ⟨r, hr⟩ := YI.1 hh
        exact ⟨t, x, y, r, ho, hy, hr⟩
       ·cases hh
      ·cases hh
     have hrd : rdO P oi = true := by unfold rdO; rw [hv', ho]; rfl
     obtain ⟨v1, v2⟩ := ZfY (P := P) (ρ := a.eval) hrd
     have h0 := h
     unfold Oper.wp at h
     cases hrun : (execOp a.eval oi).run P w with
     | halt x w' =>
      rw [hrun] at h
      cases x <;> simp only [Oper.upon] at h
      exact absurd h (hQ _ _ _)
     | ok n w' =>
      have e := v1 _ _ _ hrun
      subst e
      obtain ⟨u, rfl⟩ := v2 _ _ _ hrun
      rw [hrun] at h
      simp only [Oper.upon] at h
      have hyl : YieldsIf P L.toArray S oi u a := .inl ⟨by simp [Region.wanted, hu i oi hiA], fun w2 hS2 => by
       obtain ⟨b, hb, hlo⟩ := ZwD (w2 := w2) ho hrun
       have hb' : b = β r := hJ _ (ZcN he) b (by rw [← Zfx hy]; exact hb)
       have hFb : F b := by rw [hb']; exact hF _ (ZcN he)
       have e1 := hS0 b w' hFb hS
       have e2 := hS0 b w2 hFb hS2
       obtain ⟨C, q1, q2, q3⟩ := hC b hFb
       exact hlo ⟨C, q1, q2, by rw [e1]; exact q3⟩ (by rw [e1, e2])⟩
      exact wpAnyH_first hiA hsel (fun c a w hq => absurd hq (hQ _ _ _)) rest.len la a w' (free c3) hr hyl hS (ih _ _ h.1 (jput env oi a _ w' _ h0 hJ ⟨u, fun _ => rfl⟩ fun v w1 e => by rw [hrun] at e; cases e; rfl) h.2)
    ·have hh' : Zqf env oi = false := by cases hq : Zqf env oi with | false => rfl | true => exact absurd hq hh
     rw [hh'] at c3
     have at_ : ∀ j oj, L.toArray[j]? = some oj → j ≠ i → la.getD j true = false → ¬ Waits L.toArray j i → oi.apart L.toArray oj = true ∧ rdO P oi = true ∧ (rdO P oj || grO oj) = true := fun j oj hoj hji hjun hno => by
      have hjl : j < L.length := by have := (YD.1 hoj).1; simpa using this
      have := ZqJ (k := j) c3 (by simpa using hoj)
      rw [Yz] at this
      rcases this with h3 | h3 | h3 | ⟨h3, h4⟩
      ·exact absurd h3 (hli j hjl hjun)
      ·exact absurd h3 hji
      ·exact absurd h3 hno
      ·rcases h4 with h4 | h4
       ·exact absurd h4 hv
       ·exact ⟨h3, h4⟩
     by_cases hrd : rdO P oi = true
     ·obtain ⟨v1, v2⟩ := ZfY (P := P) (ρ := a.eval) hrd
      have h0 := h
      unfold Oper.wp at h
      cases hrun : (execOp a.eval oi).run P w with
      | halt x w' =>
       rw [hrun] at h
       cases x <;> simp only [Oper.upon] at h
       exact absurd h (hQ _ _ _)
      | ok n w' =>
       have e := v1 _ _ _ hrun
       subst e
       obtain ⟨u, rfl⟩ := v2 _ _ _ hrun
       rw [hrun] at h
       simp only [Oper.upon] at h
       exact Zjz hiA hrd hu hsel hQ hO rest.len la a w' hD (fun j oj hoj hji hjun hno => ⟨(at_ j oj hoj hji hjun hno).1, (at_ j oj hoj hji hjun hno).2.2⟩) hr hrun hS (ih _ _ h.1 (jput env oi a _ w' _ h0 hJ ⟨u, fun _ => rfl⟩ fun v w1 e => by rw [hrun] at e; cases e; rfl) h.2)
     ·refine ⟨fun h0 => (by rw [h0] at hr; cases hr), fun j hj => ?_⟩
      have hji : j = i := by
       apply Classical.byContradiction
       intro hji
       obtain ⟨hjun, oj, hoj, _⟩ := mem_ready.1 hj
       exact hrd (at_ j oj hoj hji hjun (hD.nowait hj hun)).2.1
      subst hji
      unfold wpOp
      simp only [hiA]
      rw [if_pos (by simp [Region.wanted, hu j oi hiA])]
      exact .inl (Oper.wp_mono (fun a' w' hh => ⟨hh.1.1, ih a' w' hh.1.1 (jput env oi a a' w _ h hJ hh.2.1 hh.2.2) hh.1.2⟩) h')
end
def wrR (r : Ren) : List (Key × Blk) → Prop
 | [] => True
 | (k, _) :: t => match Nat.beq k.1 1 with | true => wrR r t | false => WrS r k ∧ wrR r t
def ZHc : List (Key × Blk) → Hp → Hp
 | [], H => H
 | (k, b) :: t, H => ZHc t (updH H k b)
def pHc (P : Program) (l n os : Nat) (r : Ren) (dst : Option Nat) (fo : AV) (xs : List AV) (a : AT) (K : St → AT → Prop) (τ : St) : Prop :=
 match fo, a with
 | .fn (.func f) [] [], .hard x ks hb2 [] b => (match ks.all (okK os), Zjd os hb2 with
  | true, true => ZhJ P l r f xs (ks.map fun k => (k, τ.H k)) x hb2 [] ∧ wrR r hb2 ∧ ZGE n K τ.s (ZHc hb2 τ.H) x b dst
  | _, _ => False)
 | _, _ => False
def ZE6 : AT → Bool
 | .hard _ _ _ _ _ => true
 | _ => false
def ZAW (P : Program) (T : Nat → Option TI) (l n os : Nat) (r : Ren) (o : Oper) (a : AT) (K : St → AT → Prop) (τ : St) : Prop :=
 match ZE6 a, o.op with
 | true, .call c => (match c.callee with
  | .value fo => pHc P l n os r o.dst (ev τ.s fo) (c.args.toList.map (ev τ.s)) a K τ
  | _ => False)
 | _, _ => Zs5 P T l n r o a K τ
section
variable {P : Program} {T : Nat → Option TI} {r : Ren} {l n outs : Nat} {B : Base} {env : Env} {τ σ : St} {a : AT} {o : Oper} {K : St → AT → Prop}
theorem Zk3 (hr : RenOk r l outs) : ∀ (hb2 : List (Key × Blk)) {τ σ : St}, Zjd outs hb2 = true → wrR r hb2 → RG r l outs env τ σ → RG r l outs env ⟨τ.s, ZHc hb2 τ.H⟩ ⟨σ.s, ZdN r hb2 σ.H⟩
 | [], τ, σ, _, _, h => h
 | (k, b) :: t, τ, σ, hk, hw, h => by
  simp only [Zjd, Bool.and_eq_true] at hk
  obtain ⟨⟨⟨k1, k2⟩, k3⟩, k4⟩ := hk
  have hko : Zz6 r outs k ∧ wrR r t := by
   unfold wrR at hw
   rcases Zd5 k1 with h1 | ⟨h1, h2⟩
   ·rw [h1] at hw; exact ⟨.inl h1, hw⟩
   ·rw [h1] at hw; exact ⟨.inr ⟨h1, h2, hw.1.2⟩, hw.2⟩
  exact Zk3 hr t (τ := ⟨τ.s, updH τ.H k b⟩) (σ := ⟨σ.s, updH σ.H (r.κ k) (ZaZ r k b)⟩) k4 hko.2 (RG.updH hr h k b k2 hko.1)
theorem ZeN (hr : RenOk r l outs) (hT : TOk P T) (h : RG r l outs env τ σ) (hc : Zcj env [] o.op = true) (hf : ZdR env o.dst = true) (hp : ZAW P T l n outs r o a K τ) : AOp P l n B o (KA r l n outs B (ZdT env o.dst) K) σ := by
 unfold ZAW at hp
 split at hp
 case h_2 => exact Zk0 hr hT h hc hf hp
 rename_i c ha ho
 split at hp
 case h_2 => exact hp.elim
 rename_i fo hcal
 unfold pHc at hp
 split at hp
 case h_2 => exact hp.elim
 rename_i f x ks hb2 b hfo
 split at hp
 case h_2 => exact hp.elim
 rename_i hks hokh
 obtain ⟨h1, h2, h3⟩ := hp
 have ops : ∀ x ∈ o.op.operands, ev σ.s x = ren r (ev τ.s x) := by
  unfold Zcj at hc
  split at hc
  ·grind
  ·exact ZcF h Zak hc
 rw [ho] at ops
 have hops : ∀ x, x = fo ∨ x ∈ c.args.toList → x ∈ (Op.call c).operands := fun x hx => by
  simp only [Op.operands, Call.operands, hcal]
  grind
 have hfe : ev σ.s fo = .fn (.func f) [] [] := by rw [ops fo (hops fo (.inl rfl)), hfo]; simp [ren, Zan]
 have hA := h1 σ.H (fun p hp => by
  obtain ⟨q, hq, rfl⟩ := Yy.1 hp
  have hq' := Zd5 (Yh.1 hks q hq)
  refine ⟨?_, fun hl => h.h q hl⟩
  obtain ⟨q1, q2⟩ := q
  simp only at hq'
  rcases hq' with rfl | ⟨rfl, h2⟩
  ·have := h.g q2
   rw [← hr.own] at this
   exact this
  ·exact h.go q2 h2) h.o
 have hargs : Zan r (c.args.toList.map (ev τ.s)) = c.args.toList.map (ev σ.s) := by
  rw [Zcx, Yam]
  exact YR fun y hy => (ops y (hops y (.inr hy))).symm
 refine Zdp ?_
 unfold rOp
 rw [ho]
 simp only [hcal, hfe, Yag, Yar]
 rw [hargs] at hA
 refine hA.mono fun y H'' ⟨γ', e1, e2, e3⟩ => ?_
 have hγ : γ' = r.γ := funext fun k => e1 k (by simp)
 subst hγ
 have e2 : y = ren r x := e2
 have e3 : H'' = ZdN r hb2 σ.H := e3
 subst e3
 exact Zpi (τ' := ⟨τ.s, ZHc hb2 τ.H⟩) hf (Zk3 hr hb2 hokh h2 h) e2 h3
end
def pPl (P : Program) (T : Nat → Option TI) (l n os : Nat) (r : Ren) (L : List Oper) : Pl → Env → AT → (St → Env → AT → Prop) → St → Prop
 | .nil, env, a, K, τ => K τ env a
 | .fst i x, env, a, K, τ => match nth L i with
  | some o => (match Zcj env [] o.op, ZdR env o.dst with
   | true, true => ZAW P T l n os r o a (fun τ' a' => pPl P T l n os r L x (ZdT env o.dst) a' K τ') τ
   | _, _ => False)
  | none => False
 | .two i j x y, env, a, K, τ => match nth L i, nth L j, a with
  | some o, some o', .br a1 a2 => (match Zcj env [] o.op, ZdR env o.dst, Zcj env [] o'.op, ZdR env o'.dst with
   | true, true, true, true => ZAW P T l n os r o a1 (fun τ' a' => pPl P T l n os r L x (ZdT env o.dst) a' K τ') τ ∧ ZAW P T l n os r o' a2 (fun τ' a' => pPl P T l n os r L y (ZdT env o'.dst) a' K τ') τ
   | _, _, _, _ => False)
  | _, _, _ => False
 | .opt _ i x y, env, a, K, τ => match nth L i with
  | some o => (match Zcj env [] o.op, ZdR env o.dst with
   | true, true => (match ZsK y with
    | true => (match a with
     | .br a1 a2 => ZAW P T l n os r o a1 (fun τ' a' => pPl P T l n os r L x (ZdT env o.dst) a' K τ') τ ∧ pPl P T l n os r L y env a2 K τ
     | _ => False)
    | false => ZAW P T l n os r o a (fun τ' a' => pPl P T l n os r L x (ZdT env o.dst) a' K τ') τ)
   | _, _ => False)
  | none => False
section
variable {P : Program} {T : Nat → Option TI} {r : Ren} {l n outs : Nat} {B : Base}
theorem ZmL (hr : RenOk r l outs) (hT : TOk P T) {L : List Oper} {K : St → Env → AT → Prop} {QQ : Exit → Act → World → Prop} {S : World → Prop} (hS : ∀ σ a w, R l n B σ a w → S w)
  (hK : ∀ τ' env' a' σ' act' w', K τ' env' a' → RG r l outs env' τ' σ' → R l n B σ' act' w' → QQ .normal act' w') :
  ∀ (π : Pl) (env : Env) (a : AT) (τ σ : St) (act : Act) (w : World), pPl P T l n outs r L π env a K τ → RG r l outs env τ σ → R l n B σ act w → ZjY P L QQ S π act w := by
 intro π
 induction π with
 | nil => intro env a τ σ act w h hG hR; exact hK _ _ _ _ _ _ h hG hR
 | fst i x ih =>
  intro env a τ σ act w h hG hR
  unfold pPl at h
  split at h
  ·rename_i o ho
   unfold ZjY
   rw [ho]
   split at h
   ·rename_i hc hf
    refine Oper.wp_mono (fun act' w' hh => ?_) (ZeN (B := B) hr hT hG hc hf h act w hR QQ)
    obtain ⟨σ', ⟨σ'', ⟨τ', a', h1, h2⟩, h3⟩, h4⟩ := hh
    grind
   grind
  grind
 | two i j x y ihx ihy =>
  intro env a τ σ act w h hG hR
  unfold pPl at h
  split at h
  ·rename_i o o' a1 a2 ho ho'
   unfold ZjY
   rw [ho, ho']
   split at h
   ·rename_i hc hf hc' hf'
    refine ⟨Oper.wp_mono (fun act' w' hh => ?_) (ZeN (B := B) hr hT hG hc hf h.1 act w hR QQ), Oper.wp_mono (fun act' w' hh => ?_) (ZeN (B := B) hr hT hG hc' hf' h.2 act w hR QQ)⟩
    ·obtain ⟨σ', ⟨σ'', ⟨τ', a', h1, h2⟩, h3⟩, h4⟩ := hh
     grind
    ·obtain ⟨σ', ⟨σ'', ⟨τ', a', h1, h2⟩, h3⟩, h4⟩ := hh
     grind
   grind
  grind
 | opt hs i x y ihx ihy =>
  intro env a τ σ act w h hG hR
  unfold pPl at h
  split at h
  ·rename_i o ho
   unfold ZjY
   rw [ho]
   split at h
   ·rename_i hc hf
    split at h
    ·split at h
     ·refine ⟨Oper.wp_mono (fun act' w' hh => ?_) (ZeN (B := B) hr hT hG hc hf h.1 act w hR QQ), fun _ => ihy _ _ _ _ _ _ h.2 hG hR⟩
      obtain ⟨σ', ⟨σ'', ⟨τ', a', h1, h2⟩, h3⟩, h4⟩ := hh
      grind
     grind
    ·rename_i hy
     refine ⟨Oper.wp_mono (fun act' w' hh => ?_) (ZeN (B := B) hr hT hG hc hf h act w hR QQ), fun h0 => by rw [hy] at h0; cases h0⟩
     obtain ⟨σ', ⟨σ'', ⟨τ', a', h1, h2⟩, h3⟩, h4⟩ := hh
     grind
   grind
  grind
end
def zB (s : Nat → AV) : List Nat → Bool
 | [] => true
 | z :: r => (match s z with | .iptr (_ :: _) _ => true | _ => false) && zB s r
theorem ZFp {s : Nat → AV} : ∀ {Z : List Nat}, zB s Z = true → ∀ z ∈ Z, ∃ x ds off, s z = .iptr (x :: ds) off
 | [], _, z, hz => by cases hz
 | y :: r, h, z, hz => by
  simp only [zB, Bool.and_eq_true] at h
  rcases Ys.1 hz with rfl | hz
  ·grind
  ·exact ZFp h.2 z hz
def ZD2 (P : Program) (π : Pl) (Z : List Nat) : Code → Bool
 | .region _ ops true => ops.toList.all noG && Nat.beq π.len ops.toList.length && ZfR P ops.toList (Z.map fun z => (z, z)) [] π && ZBn π
 | _ => false
section
variable {P : Program} {T : Nat → Option TI} {n : Nat} {C : Cx} {τ : St} {Q : Exit → St → Prop} {os : Nat} {c : Code} {β : Type} {L : β → Prop} {y : β}
theorem ZA4 {fx : List Nat} (co : COx C os fx) (hT : TOk P T) (hm' : P.follows .mixedOrders = true) (π : Pl) (Z : List Nat) (v : PT os β) (lf : Lf) (hv : v.m = some y) (hL : HL L y) (hn : ∀ r (g : Gd C r), v.n ⟨⟨C.l, r, Q, fun _ _ => False⟩, L, C, _, co, g, rfl⟩)
  (hq : ∀ l r Q Post, Zdk r os v.a τ (fun τ a => match zB τ.s Z with | true => pPl P T l n os r (Zcz c).toList π [] a (fun τ' env a' => Zdk r os a' (ZjR env τ') (fun τ _ => Zfk fx lf τ (Q .normal))) τ | false => False) = v.q ⟨l, r, Q, Post⟩ := by intro l r Q P; kernel_rfl)
  (hk : ZD2 P π Z c = true := by kernel_rfl) : LW P n C c τ Q := by
 cases c with
 | region id ops dr =>
  cases dr with
  | false => cases hk
  | true =>
   obtain ⟨L', rfl⟩ : ∃ l : List Oper, ops = l.toArray := ⟨ops.toList, by simp⟩
   simp only [ZD2, Bool.and_eq_true] at hk
   obtain ⟨⟨⟨k1, k2⟩, k3⟩, k4⟩ := hk
   intro γ σ hg hG a w hR
   have hR' : R C.l n C.B σ a { w with drawn := w.drawn + 1 } := by
    obtain ⟨s, H⟩ := σ
    obtain ⟨m, S, hO, hn, hdf, hS, hex⟩ := hR.un
    obtain ⟨h1, h2⟩ := hO.drew (w' := { w with drawn := w.drawn + 1 }) rfl rfl rfl rfl
    exact R.keep h1 hn hdf hS hex h2
   have h1 := v.ok _ (hn (C.r γ) ⟨rfl, rfl, rfl, rfl⟩) y hv hL
   rw [← hq] at h1
   generalize v.a = va at h1
   have ok := co.ok
   rw [← co.O, ← co.F] at h1
   obtain ⟨τ₁, a₁, σ₁, h2, hG1, hw1⟩ := Zam (n := n) ok va h1 hG
   split at h2
   case h_2 => exact h2.elim
   rename_i hz
   have hR1 := hw1 _ _ hR'
   obtain ⟨s1, H1⟩ := σ₁
   obtain ⟨m1, S1, hO1, hn1, hd1, hSl1, hex1⟩ := hR1.un
   let B1 : Base := ⟨H1, m1, S1, { w with drawn := w.drawn + 1 }⟩
   have hRB : R C.l n B1 ⟨s1, H1⟩ a { w with drawn := w.drawn + 1 } := ⟨m1, S1, hO1, hn1, hd1, hSl1, Ext.refl _ _ _ _ _⟩
   have back : ∀ σ' a' w', R C.l n B1 σ' a' w' → R C.l n C.B σ' a' w' := fun σ' a' w' h => by
    obtain ⟨m2, S2, g1, g2, g3, g4, g5⟩ := h
    exact ⟨m2, S2, g1, g2, g3, g4, hex1.trans g5⟩
   let S : World → Prop := fun w' => ∀ b, S1 b → w'.heap[b]? = ({ w with drawn := w.drawn + 1 } : World).heap[b]?
   have hS1 : ∀ σ' a' w', R C.l n B1 σ' a' w' → S w' := fun σ' a' w' h b hb => by
    obtain ⟨m2, S2, g1, g2, g3, g4, g5⟩ := h
    exact g5.blk b hb
   have hGd : ∀ (j : Nat) (o : Oper), L'.toArray[j]? = some o → noG o = true := fun j o ho => Yh.1 k1 o (Yj (by simpa using ho))
   have hu : ∀ (j : Nat) (o : Oper), L'.toArray[j]? = some o → o.guard = none := fun j o ho => by
    have := hGd j o ho
    unfold noG at this
    rw [Bool.and_eq_true] at this
    cases hg : o.guard with
    | none => rfl
    | some _ => rw [hg] at this; simp at this
   have hsel : ∀ (j : Nat) (o : Oper) cs b, L'.toArray[j]? = some o → o.op ≠ .select cs b := fun j o cs b ho he => by
    have := hGd j o ho
    unfold noG at this
    rw [he, Bool.and_eq_true] at this
    simp at this
   let Q2 : Exit → Act → World → Prop := fun e a' w' => ∃ σ', Is n C (match e with | .normal => Q .normal | _ => fun _ => False) σ' ∧ R C.l n C.B σ' a' w'
   have hpl : ZjY P L' Q2 S π a { w with drawn := w.drawn + 1 } := by
    refine ZmL (ok.ren γ) hT (B := B1) hS1 (fun τ' env' a' σ' act' w' k1 k2 k3 => ?_) π [] a₁ τ₁ ⟨s1, H1⟩ a _ h2 hG1 hRB
    obtain ⟨σ₂, g1, g2⟩ := Zdy (n := n) k2
    obtain ⟨τ₃, a₃, σ₃, f1, f2, f3⟩ := Zam (n := n) ok a' k1 g1
    obtain ⟨γ', τ₄, σ₄, j0, j1, j2, j3⟩ := Zb2 (n := n) ok f1 hg f2
    exact ⟨σ₄, ⟨γ', τ₄, σ₄, j0, j1, j2, Wk.refl _⟩, j3 _ _ (f3 _ _ (g2 _ _ (back _ _ _ k3)))⟩
   have hF : ∀ z ∈ Z, ∃ b, pb (a.eval (.tmp z)) = some b ∧ S1 b ∧ Cel { w with drawn := w.drawn + 1 } b := fun z hz' => by
    obtain ⟨x, ds, off, e⟩ := ZFp hz z hz'
    have hsz : s1 z = .iptr (x :: ds) off := by
     have := (hG1.s z).1 Zak
     simp only at this
     rw [this, e]; simp [ren]
    have hx := hSl1 z
    rw [hsz] at hx
    show ∃ b, pb (a.tmps.getD z Go.undef) = some b ∧ _
    generalize a.tmps.getD z Go.undef = vv at hx
    cases hx with
    | iptr _ _ ad c hb hc hr =>
     refine ⟨(ad.add off).block, rfl, by rw [block_add]; exact hb, ?_⟩
     rw [block_add]
     have h0 := hc 0 x rfl
     simp only [World.cell?] at h0
     have hbk : (ad.add 0).block = ad.block := block_add _ _
     rw [hbk] at h0
     split at h0
     ·rename_i C0 e0 f0 hh; exact ⟨C0, e0, f0, hh⟩
     ·cases h0
   have hw := Zpe (P := P) (L := L') (Q := Q2) (S := S) (β := fun z => (pb (a.eval (.tmp z))).getD 0) (F := fun b => S1 b ∧ Cel { w with drawn := w.drawn + 1 } b) (w0 := { w with drawn := w.drawn + 1 }) (fun b w' hb hS => hS b hb.1) (fun b hb => hb.2) hu hsel
    (fun c a w ⟨σ', ⟨_, _, _, _, hf, _⟩, _⟩ => hf) (fun ⟨a, w, σ', ⟨_, _, _, _, hf, _⟩, _⟩ => hf) π (Z.map fun z => (z, z)) [] (Array.replicate L'.toArray.size false) a { w with drawn := w.drawn + 1 } (by simp) (fun j hj => by simp [hj]) (fun x hx => by cases hx)
    (fun m om hm hl => by
     have : (Array.replicate L'.toArray.size false).getD m false = false := by
      simp only [Ym, Array.getElem?_replicate]
      split <;> rfl
     rw [this] at hl
     cases hl) (by simpa using k3)
    (fun p hp => by
     obtain ⟨z, hz1, rfl⟩ := Yy.1 hp
     obtain ⟨b, b1, b2⟩ := hF z hz1
     simp only [b1, YV]; exact b2)
    (fun p hp b hb => by
     obtain ⟨z, hz1, rfl⟩ := Yy.1 hp
     simp only at hb
     simp only [hb, YV]) (fun b hb => rfl) hpl
   have hs : π.len = L'.toArray.size := by simpa using Ya k2
   rw [hs] at hw
   refine wp_mono (wp_region_held hm' (hw.1 k4)) fun e a' w' ⟨σ', h1, h2⟩ => ⟨σ', ?_, h2⟩
   cases e with
   | normal => exact h1
   | _ => obtain ⟨_, _, _, _, hf, _⟩ := h1; exact hf.elim
 | _ => cases hk
@[reducible] def tw (k1 k2 : PT os β) : PT os β := ⟨.br k1.a k2.a, fun E => k1.q E ∧ k2.q E, k1.m, fun E => k1.n E ∧ k2.n E ∧ (∀ y, k1.m = some y → k2.m = some y), fun E hn y hm hL => ⟨k1.ok E hn.1 y hm hL, k2.ok E hn.2.1 y (hn.2.2 y hm) hL⟩⟩
theorem Zo1 {C : Cx} {r : Ren} (g : Gd C r) : ∀ {hb2 : List (Key × Blk)}, Zjd os hb2 = true → wrL C hb2 → wrR r hb2
 | [], _, _ => trivial
 | (k, b) :: t, hk, h => by
  simp only [Zjd, Bool.and_eq_true] at hk
  obtain ⟨⟨⟨k1, k2⟩, k3⟩, k4⟩ := hk
  unfold wrR
  unfold wrL at h
  rcases Zd5 k1 with h1 | ⟨h1, h2⟩
  ·rw [h1] at h ⊢; exact Zo1 g k4 h
  ·rw [h1] at h ⊢; exact ⟨⟨h1, by rw [g.no, g.κ]; exact h.1⟩, Zo1 g k4 h.2⟩
@[reducible] def ch {γ : Type} [Inhabited γ] (P : Program) (f : FuncId) (xs : List AV) (ks : List Key) (hb : List (Key × Blk)) (M : Option γ) (e : γ → AV) (hb2 : γ → List (Key × Blk)) (k : γ → PT os β) (hok : ∀ z, Zjd os (hb2 z) = true := by intro z; kernel_rfl) : PT os β :=
 ⟨.hard (e (M.getD default)) ks (hb2 (M.getD default)) [] (k (M.getD default)).a, fun E => ZhJ P E.l E.r f xs hb (e (M.getD default)) (hb2 (M.getD default)) [] ∧ wrR E.r (hb2 (M.getD default)) ∧ (k (M.getD default)).q E, M.bind fun y => (k y).m,
 fun E => (∀ y, M = some y → ZhJ P E.C.l E.E.r f xs hb (e y) (hb2 y) []) ∧ (∀ y, wrL E.C (hb2 y)) ∧ ∀ y, (k y).n E, fun E hn y hm hL => by
  obtain ⟨x, h1, h2⟩ := bind_some hm
  have h3 : M.getD default = x := by rw [h1]; rfl
  rw [h3]
  exact ⟨by rw [E.hl]; exact hn.1 x h1, Zo1 E.g (hok x) (hn.2.1 x), (k x).ok E (hn.2.2 x) y h2 hL⟩⟩
end
end Go.Eng
namespace Go.Eng
set_option linter.all false
open Go Go.RowKit Go.Shelf
theorem Ok.grown {l : Nat} {H : Hp} {m : Mu} {S : Nat → Prop} {w w' : World} (h : Ok l H m S w) (os : Array Obj) (hw : w'.heap = w.heap ++ os) (h1 : w'.os = w.os) (h2 : w'.tape = w.tape) (h3 : w'.output = w.output) : Ok l H m S w' ∧ Ext l H m S w H m S w' := by
 have hb : ∀ b, b < w.heap.size → w'.heap[b]? = w.heap[b]? := fun b hb => by rw [hw, Yak hb]
 have hext : Ext l H m S w H m S w' := ⟨fun _ h => h, fun b hs => hb b (h.sub b hs), fun _ _ => Yd _, fun k hk hg hl => ⟨hl, rfl, rfl⟩, h1, h2, h3, by rw [hw, Array.size_append]; omega⟩
 refine ⟨⟨fun b hs => by have := h.sub b hs; rw [hw, Array.size_append]; omega, h.empty, h.fresh, h.inj, fun k hk hl hc => ?_, h.mp.step (Yd _) (fun _ _ hv _ => ⟨hv, rfl, rfl⟩) (fun _ h => h) (fun _ h => .inl h) hext.blk (fun b o ho _ => (hb b (ZbC ho)).trans ho)⟩, hext⟩
 obtain ⟨C, c1, c2, c3, c4⟩ := h.blk k hk hl hc
 have hlt : (m k).b < w.heap.size := (YD.1 c1).1
 exact ⟨C, by rw [hb _ hlt]; exact c1, c2, c3, fun i x v hx hv => ⟨(c4 i x v hx hv).1, (c4 i x v hx hv).2.ext hext hk⟩⟩
theorem Zhj (xs : List ByteArray) : Zad ZaX xs = xs.map fun x => .d (.str x) := by
 induction xs with
 | nil => rfl
 | cons x l ih => rw [ZcS, ih]; rfl
def bl8 (x : ByteArray) : List UInt8 := x.data.toList
def ZiT (xs : List ByteArray) : List ByteArray := xs.mergeSort fun x y => decide (bl8 x ≤ bl8 y)
theorem Zqi (xs : List ByteArray) : (ZiT xs).length = xs.length := List.length_mergeSort _
theorem ZoF (xs : List ByteArray) : (xs.map bl8).mergeSort (fun x y => decide (x ≤ y)) = (ZiT xs).map bl8 := by
 unfold ZiT
 rw [List.map_mergeSort (s := fun x y => decide (x ≤ y)) (f := bl8) (fun _ _ _ _ => rfl)]
theorem Zoj (x : ByteArray) : Go.Proofs.encStr (bl8 x) = .string x := by
 unfold bl8
 obtain ⟨⟨l⟩⟩ := x
 rfl
theorem ZEv {off : Nat} {d : Array (List UInt8)} {C : Array Value} {i : Nat} (hi : i < d.size) (hC : off + i < C.size) : (Go.Sort.putCells Go.Proofs.encStr off d C)[off + i]? = some (Go.Proofs.encStr d[i]!) := by
 unfold Go.Sort.putCells
 rw [Array.getElem?_mapIdx, Yf hC, YC, if_pos (by omega)]
 rw [show off + i - off = i from by omega]
theorem Zss {off : Nat} {d : Array (List UInt8)} {C : Array Value} : (Go.Sort.putCells Go.Proofs.encStr off d C).size = C.size := by
 unfold Go.Sort.putCells
 rw [Array.size_mapIdx]
theorem ZFw (w : World) (b : Nat) (f : Array Value → Array Value) {C : Array Value} {e : TypeId} {fr : Nat × Nat} (h : w.heap[b]? = some (.cells C e fr)) (i : Nat) : (Go.Sort.mapBlock w b f).heap[i]? = if i = b then some (.cells (f C) e fr) else w.heap[i]? := by
 unfold Go.Sort.mapBlock
 show (w.heap.modify b _)[i]? = _
 rw [YaJ]
 by_cases hi : b = i
 ·subst hi; rw [if_pos rfl, if_pos rfl, h]; rfl
 ·rw [if_neg hi, if_neg fun e => hi e.symm]
theorem ZpO {P : Program} {f : FuncId} (hb : ∃ fn c, P.funcs[f]? = some fn ∧ fn.body = some c ∧ (fn.name == "runtime.NumGoroutine") = false) {ℓ : Nat} {ℋ : Hp} {k : Key} (hk : k.1 ≤ ℓ) {g : Nat} {e : TypeId} (xs ys zs : List ByteArray)
  (hH : ℋ k = ⟨g, true, e, 1, Zad ZaX xs⟩) (hy : ys.length = xs.length) (hp : zs <+: ys) (z : AV) (R : Option Addr → Nat → Value)
  (p0 : xs = [] → ∀ a cap w, Calls P f #[.slice a 0 cap] w fun e' w' => e' = .returned (R a cap) ∧ w' = w)
  (p1 : ∀ blk off cap w, Go.Sort.Holds Go.Proofs.encStr w blk off (xs.map bl8).toArray → blk < w.heap.size → xs.length ≤ cap → Calls P f #[.slice (some ⟨blk, off, none⟩) xs.length cap] w fun e' w' =>
   e' = .returned (R (some ⟨blk, off, none⟩) cap) ∧ ∃ n os, w' = Go.Sort.grow (Go.Sort.putRow Go.Proofs.encStr (Go.Sort.ahead w n) blk off (ys.map bl8).toArray) os)
  (hz : ∀ (w' : World) (S' : Nat → Prop) (H' : Hp) (m' : Mu) (a : Option Addr), (H' k).g = g → (H' k).live = true → xs.length ≤ (m' k).cap → (0 < (m' k).cap → a = some ⟨(m' k).b, (m' k).o, none⟩) → RepA w' S' H' m' ℓ z (R a (m' k).cap))
  {Post : AV → Hp → Prop} (h : Post z (updH ℋ k ⟨g, true, e, 1, Zad ZaX zs⟩)) : ZbY P f ℓ [.ref k g 0 xs.length] ℋ Post :=
 ⟨hb, fun m S w vs hO hA => by
  obtain ⟨hs, hr⟩ := hA
  obtain ⟨vl⟩ := vs
  match vl, hs, hr with
  | [v0], _, hr =>
   have h0 := hr 0 _ v0 rfl rfl
   have hl : (ℋ k).live = true := by rw [hH]
   have hg : (ℋ k).g = g := by rw [hH]
   cases h0 with
   | refD _ _ _ _ _ _ _ hd _ => rw [hd hg.symm] at hl; cases hl
   | refL _ _ _ a _ _ hcap ha =>
    rw [Nat.sub_zero, Yz] at *
    have ha : 0 < (m k).cap → a = some ⟨(m k).b, (m k).o, none⟩ := fun q => by rw [ha q, Yay, Yae]
    by_cases hz0 : xs.length = 0
    ·have : xs = [] := Ybc.1 hz0
     subst this
     have : ys = [] := Ybc.1 hy
     subst this
     have : zs = [] := List.prefix_nil.1 hp
     subst this
     refine (p0 rfl a _ w).mono fun e' w' ⟨h1, h2⟩ => ?_
     subst h2
     have eq : updH ℋ k ⟨(ℋ k).g, true, e, 1, Zad ZaX []⟩ = ℋ := by
      funext q
      by_cases hq : q = k
      ·subst hq; rw [Zab]; exact hH.symm
      ·rw [Zac _ _ hq]
     rw [eq] at h
     exact ⟨_, _, _, m, S, h1, h, hO, hz _ _ _ _ _ rfl hl hcap ha, ⟨fun _ h => h, fun _ _ => rfl, fun _ _ => Yd _, fun q hq hg hl => ⟨hl, rfl, rfl⟩, rfl, rfl, rfl, Yd _⟩⟩
    ·have hc0 : (m k).cap ≠ 0 := by omega
     obtain ⟨C, c1, c2, c3, c4⟩ := hO.blk k hk hl hc0
     rw [hH] at c1 c2 c3 c4
     have ha' := ha (by omega)
     subst ha'
     rw [Nat.mul_one] at c2 c3
     have cell : ∀ (i : Nat) (x : ByteArray), xs[i]? = some x → C[(m k).o + i]? = some (.string x) := fun i x hx => by
      have hlt := (List.getElem?_eq_some_iff.1 hx).1
      have hC : (m k).o + i < C.size := by omega
      obtain ⟨v, hv⟩ : ∃ v, C[(m k).o + i]? = some v := ⟨_, Yf hC⟩
      have := (c4 i (.d (.str x)) v (by show (Zad ZaX xs)[i]? = _; rw [Zhj, Yv, hx]; rfl) hv).2
      rw [hv]
      cases this with
      | d _ _ hd => cases hd with
       | str => rfl
     have hlt : (m k).b < w.heap.size := (YD.1 c1).1
     have hHolds : Go.Sort.Holds Go.Proofs.encStr w (m k).b (m k).o (xs.map bl8).toArray := fun j hj => by
      have hj' : j < xs.length := by simpa using hj
      have e1 : (xs.map bl8).toArray[j]! = bl8 xs[j] := by rw [getElem!_pos _ j hj]; simp
      rw [e1, Zoj]
      refine ⟨?_, ?_⟩
      ·unfold World.cell?
       simp only [c1]
       exact cell j xs[j] (Yb hj')
      ·unfold World.frozen?
       simp only [c1]
       simp
     refine (p1 (m k).b (m k).o (m k).cap w hHolds hlt hcap).mono fun e' w' ⟨h1, n, os, h2⟩ => ?_
     have hwr := hO.write k hk hl hc0 (Zad ZaX zs) (Go.Sort.putCells Go.Proofs.encStr (m k).o (ys.map bl8).toArray C) (by rw [Zss, c2, hH, Nat.mul_one]) (by have := hp.length_le; rw [hH, Zhj, Yu, Nat.mul_one]; omega)
      (Go.Sort.putRow Go.Proofs.encStr (Go.Sort.ahead w n) (m k).b (m k).o (ys.map bl8).toArray) (fun b => by rw [hH]; exact ZFw (Go.Sort.ahead w n) (m k).b _ c1 b) (by rw [Go.Sort.size_putRow]; rfl) rfl rfl rfl (fun i x v hx hv => by
       rw [Zhj, Yv] at hx
       cases hq' : zs[i]? with
       | none => rw [hq'] at hx; cases hx
       | some y =>
        rw [hq'] at hx
        cases hx
        have hq : ys[i]? = some y := by
         obtain ⟨t, rfl⟩ := hp
         rw [Yg (List.getElem?_eq_some_iff.1 hq').1]; exact hq'
        have hi := (List.getElem?_eq_some_iff.1 hq).1
        rw [ZEv (by simpa using hi) (by omega)] at hv
        have e2 : (ys.map bl8).toArray[i]! = bl8 y := by
         rw [getElem!_pos _ i (by simpa using hi)]
         simp [(List.getElem?_eq_some_iff.1 hq).2]
        rw [e2, Zoj] at hv
        cases hv
        exact ⟨rfl, .d _ _ (.str _)⟩)
     rw [hH] at hwr
     obtain ⟨k1, k2⟩ := hwr
     obtain ⟨k3, k4⟩ := k1.grown os (w' := w') (by rw [h2]; rfl) (by rw [h2]; rfl) (by rw [h2]; rfl) (by rw [h2]; rfl)
     exact ⟨_, _, _, _, _, h1, h, k3, hz _ _ _ _ _ (by rw [Zab]) (by rw [Zab]) hcap (fun _ => rfl), k2.trans k4⟩⟩
theorem Zmq {P : Program} {ρ : Go.Shelf.Ren} (L : Go.Proofs.Lays.n190 P ρ) (hb : ∃ fn c, P.funcs[ρ.f 190]? = some fn ∧ fn.body = some c ∧ (fn.name == "runtime.NumGoroutine") = false) {ℓ : Nat} {ℋ : Hp} {k : Key} (hk : k.1 ≤ ℓ) {g : Nat} {e : TypeId} (xs : List ByteArray)
  (hH : ℋ k = ⟨g, true, e, 1, Zad ZaX xs⟩) (hn : xs.length < 4611686018427387904) {Post : AV → Hp → Prop} (h : Post (.tup []) (updH ℋ k ⟨g, true, e, 1, Zad ZaX (ZiT xs)⟩)) : ZbY P (ρ.f 190) ℓ [.ref k g 0 xs.length] ℋ Post :=
 ZpO hb hk xs (ZiT xs) (ZiT xs) hH (Zqi xs) (List.prefix_refl _) (.tup []) (fun _ _ => .tuple #[]) (fun _ a cap w => Go.Proofs.Any.slices_Sort_string_none L a cap w)
  (fun blk off cap w hHo hlt _ => by
   have key := Go.Proofs.Any.slices_Sort_string L blk off cap (xs.map bl8) w hHo hlt (by rw [Yu]; exact hn)
   rw [Yu, ZoF] at key
   exact key)
  (fun _ _ _ _ _ _ _ _ _ => .tup _ _ rfl (fun i x v hx => by simp at hx)) h
end Go.Eng
namespace Go.Eng
set_option linter.all false
open Go Go.RowKit
section
variable {os : Nat} {β α : Type} [Rw α]
abbrev ZJB (xs : List α) (off cn : Nat) (z : List AV) : List AV := (Zad Rw.e xs).take (off * Rw.s α) ++ (List.replicate cn z).flatten ++ (Zad Rw.e xs).drop ((off + cn) * Rw.s α)
@[reducible] def cr (xs : List α) (off cn : Nat) (z : List AV) (k : PT os β) : PT os β := ⟨.cs (ZJB xs off cn z) k.a, fun E => ZIX (Zad Rw.e xs) off cn (Rw.s α) z (ZJB xs off cn z) ∧ k.q E,
 if off + cn ≤ xs.length then k.m else none, k.n, fun E hn y hm hL => by
  obtain ⟨h0, hm⟩ := Zaw hm
  exact ⟨Zs9 Rw.len h0, k.ok E hn y hm hL⟩⟩
@[reducible] def tro (q : Nat) (xs : List α) (off cn : Nat) (z : List AV) (k : PT os β) (hq : Nat.ble (q + 1) os = true := by kernel_rfl) : PT os β := ⟨.trim (0, q) (Zad Rw.e (xs.take off)) k.a, fun E => (∃ m, (ZJB xs off cn z).take m = Zad Rw.e (xs.take off)) ∧ WrS E.r (0, q) ∧ k.q E,
 if off ≤ xs.length then k.m else none, k.n, fun E hn y hm hL => by
  obtain ⟨h0, hm⟩ := Zaw hm
  exact ⟨ZsN Rw.len h0, ⟨rfl, by rw [E.g.no, E.g.κ]; exact E.co.W q (Yc hq)⟩, k.ok E hn y hm hL⟩⟩
end
theorem lfx {P : AV → List Blk → Prop} {v v' : AV} {B : List Blk} (e : v = v') (h : P v' B) : P v B := e ▸ h
end Go.Eng
