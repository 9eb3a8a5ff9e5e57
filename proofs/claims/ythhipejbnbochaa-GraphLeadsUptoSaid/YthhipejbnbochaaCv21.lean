import Derived.Test.YthhipejbnbochaaCv12
import Derived.Test.YthhipejbnbochaaCv14
import Derived.Test.YthhipejbnbochaaCv15
import Derived.Test.YthhipejbnbochaaCv13
import Derived.Test.YthhipejbnbochaaCv20
import Derived.Test.YthhipejbnbochaaCv00
namespace Go.Eng
set_option linter.all false
open Go Go.RowKit
section
variable {σ ξ ρ α β γ : Type}
def Zks (g : β → α → β ⊕ ρ) : β → List α → β ⊕ ρ
 | b, [] => .inl b
 | b, x :: l => match g b x with
  | .inl b' => Zks g b' l
  | .inr r => .inr r
theorem ZcY {B : σ → Option (Lv σ ξ ρ)} {N : Nat} (l : List α) (mk : Nat → β → σ) (I : Nat → β → Prop) (g : β → α → β ⊕ ρ) (e : β → ξ)
  (hs : ∀ i b x, l[i]? = some x → I i b → B (mk i b) = some (Sum.elim (fun b' => Lv.nx (mk (i + 1) b')) Lv.rt (g b x)) ∧ ∀ b', g b x = .inl b' → I (i + 1) b')
  (he : ∀ b, I l.length b → B (mk l.length b) = some (.ex (e b))) (b0 : β) (h0 : I 0 b0) (hN : l.length < N) : Zan B N (mk 0 b0) = some (Sum.map e id (Zks g b0 l)) := by
 suffices H : ∀ k i b N, i + k = l.length → I i b → k < N → Zan B N (mk i b) = some (Sum.map e id (Zks g b (l.drop i))) by
  have := H l.length 0 b0 N (by omega) h0 hN
  simpa using this
 intro k
 induction k with
 | zero =>
  intro i b N hi hI hN
  obtain ⟨N, rfl⟩ : ∃ m, N = m + 1 := ⟨N - 1, by omega⟩
  have : i = l.length := by omega
  subst this
  rw [Zan, he b hI, Ybr]
  rfl
 | succ k ih =>
  intro i b N hi hI hN
  obtain ⟨N, rfl⟩ : ∃ m, N = m + 1 := ⟨N - 1, by omega⟩
  have hlt : i < l.length := by omega
  obtain ⟨h1, h2⟩ := hs i b l[i] (Yb hlt) hI
  rw [Zan, h1, Y0 hlt, Zks]
  cases hg : g b l[i] with
  | inl b' => exact ih (i + 1) b' N (by omega) (h2 b' hg) (by omega)
  | inr r => rfl
theorem ZeN {B : Nat → Option (Lv Nat ξ ρ)} {N : Nat} (l : List α) (p : α → Bool) (f : Nat → ρ) (e : ξ)
  (hs : ∀ i x, l[i]? = some x → B i = some (if p x = true then .rt (f i) else .nx (i + 1))) (he : B l.length = some (.ex e)) (hN : l.length < N) :
  Zan B N 0 = some (match l.findIdx? p with | some i => .inr (f i) | none => .inl e) := by
 suffices H : ∀ k i N, i + k = l.length → k < N → Zan B N i = some (match (l.drop i).findIdx? p with | some j => .inr (f (i + j)) | none => .inl e) by
  have := H l.length 0 N (by omega) hN
  simpa using this
 intro k
 induction k with
 | zero =>
  intro i N hi hN
  obtain ⟨N, rfl⟩ : ∃ m, N = m + 1 := ⟨N - 1, by omega⟩
  have : i = l.length := by omega
  subst this
  rw [Zan, he, Ybr]
  rfl
 | succ k ih =>
  intro i N hi hN
  obtain ⟨N, rfl⟩ : ∃ m, N = m + 1 := ⟨N - 1, by omega⟩
  have hlt : i < l.length := by omega
  rw [Zan, hs i l[i] (Yb hlt), Y0 hlt, Ybf]
  cases hp : p l[i] with
  | true => simp
  | false =>
   simp only [Yao, if_false]
   rw [ih (i + 1) N (by omega) (by omega)]
   cases (List.drop (i + 1) l).findIdx? p with
   | none => rfl
   | some j => simp [Yw, Ybn 1 j]
theorem Zcr {g : β → α → β ⊕ ρ} (h : β → α → β) (hg : ∀ b x, g b x = .inl (h b x)) : ∀ (l : List α) (b : β), Zks g b l = .inl (l.foldl h b)
 | [], b => rfl
 | x :: l, b => by rw [Zks, hg]; exact Zcr h hg l _
def Zfr (R : List α → α → Option ρ) : List α → List α → Option ρ
 | _, [] => none
 | p, x :: l => match R p x with
  | some r => some r
  | none => Zfr R (p ++ [x]) l
theorem Zph {B : σ → Option (Lv σ ξ ρ)} {N : Nat} (l : List α) (S : List α → β) (R : List α → α → Option ρ) (mk : Nat → β → σ) (e : β → ξ)
  (hs : ∀ i x, l[i]? = some x → B (mk i (S (l.take i))) = some (match R (l.take i) x with | some r => .rt r | none => .nx (mk (i + 1) (S (l.take i ++ [x])))))
  (he : B (mk l.length (S l)) = some (.ex (e (S l)))) (hN : l.length < N) : Zan B N (mk 0 (S [])) = some ((Zfr R [] l).elim (.inl (e (S l))) .inr) := by
 suffices H : ∀ k i N, i + k = l.length → k < N → Zan B N (mk i (S (l.take i))) = some ((Zfr R (l.take i) (l.drop i)).elim (.inl (e (S l))) .inr) by
  have := H l.length 0 N (by omega) hN
  grind
 intro k
 induction k with
 | zero =>
  intro i N hi hN
  obtain ⟨N, rfl⟩ : ∃ m, N = m + 1 := ⟨N - 1, by omega⟩
  have : i = l.length := by omega
  subst this
  rw [Zan, YaV, he, Ybr]
  rfl
 | succ k ih =>
  intro i N hi hN
  obtain ⟨N, rfl⟩ : ∃ m, N = m + 1 := ⟨N - 1, by omega⟩
  have hlt : i < l.length := by omega
  rw [Zan, hs i l[i] (Yb hlt), Y0 hlt, Zfr]
  cases R (l.take i) l[i] with
  | some r => rfl
  | none =>
   have := ih (i + 1) N (by omega) (by omega)
   rw [YP hlt] at this
   exact this
theorem Zer {R : List α → α → Option ρ} (h : ∀ p x, R p x = none) : ∀ (l p : List α), Zfr R p l = none
 | [], p => rfl
 | x :: l, p => by rw [Zfr, h]; exact Zer h l _
theorem ZdB {B : σ → Option (Lv σ ξ ρ)} {N : Nat} (l : List α) (S : List α → β) (mk : Nat → β → σ) (e : β → ξ)
  (hs : ∀ i x, l[i]? = some x → B (mk i (S (l.take i))) = some (.nx (mk (i + 1) (S (l.take i ++ [x])))))
  (he : B (mk l.length (S l)) = some (.ex (e (S l)))) (hN : l.length < N) : Zan B N (mk 0 (S [])) = some (.inl (e (S l))) := by
 rw [Zph l S (fun _ _ => none) mk e hs he hN, Zer fun _ _ => rfl]
 rfl
theorem ZbA {B : σ → Option (Lv σ ξ ρ)} (I : Nat → σ → Prop) (Q : ξ ⊕ ρ → Prop)
  (h : ∀ k v, I k v → ∃ o, B v = some o ∧ match o with | .nx v' => ∃ k', k' < k ∧ I k' v' | .ex b => Q (.inl b) | .rt y => Q (.inr y)) :
  ∀ N k v, k < N → I k v → ∃ o, Zan B N v = some o ∧ Q o
 | 0, k, v, hk, _ => absurd hk (Yar _)
 | N + 1, k, v, hk, hI => by
  obtain ⟨o, h1, h2⟩ := h k v hI
  rw [Zan, h1]
  cases o with
  | nx v' => obtain ⟨k', h3, h4⟩ := h2; exact ZbA I Q h N k' v' (by omega) h4
  | ex b => exact ⟨_, rfl, h2⟩
  | rt y => exact ⟨_, rfl, h2⟩
theorem Zdp {l : List α} {i : Nat} {x : α} (h : l[i]? = some x) : (i : Int) < (l.length : Int) := by
 grind
theorem ZaN {n : Nat} (h : n < 4611686018427387904) : n < big := h
end
end Go.Eng
namespace Go.Eng
set_option linter.all false
open Go
section
variable {σ ξ ρ β γ : Type}
def Ze4 (M : Option (List β)) (Q : β → Prop) : Prop := ∃ ys, M = some ys ∧ ys ≠ [] ∧ ∀ y ∈ ys, Q y
theorem Ze4.imp {M : Option (List β)} {Q R : β → Prop} (h : Ze4 M Q) (k : ∀ y, Q y → R y) : Ze4 M R := by
 obtain ⟨ys, a, b, c⟩ := h
 exact ⟨ys, a, b, fun y hy => k y (c y hy)⟩
theorem Zaq {y : β} {Q : β → Prop} (h : Q y) : Ze4 (some [y]) Q := ⟨[y], rfl, by simp, fun z hz => by rw [YF.1 hz]; exact h⟩
theorem Ze7 {Q : β → Prop} : ∀ {l : List (Option (List β))}, l ≠ [] → (∀ x ∈ l, Ze4 x Q) → Ze4 (Zfk l) Q
 | [], h, _ => absurd rfl h
 | x :: r, _, h => by
  obtain ⟨ys, rfl, b, c⟩ := h _ (Ys ..)
  by_cases hr : r = []
  ·subst hr
   exact ⟨ys ++ [], rfl, by simpa using b, fun y hy => c y (by simpa using hy)⟩
  ·obtain ⟨zs, a', b', c'⟩ := Ze7 hr fun x hx => h x (List.mem_cons_of_mem _ hx)
   refine ⟨ys ++ zs, by rw [Zfk, a'], by simp [b], fun y hy => ?_⟩
   rcases YM.1 hy with hy | hy
   ·exact c y hy
   ·exact c' y hy
theorem ZbF {M : Option (List γ)} {k : γ → Option (List β)} {Q : γ → Prop} {R : β → Prop} (h : Ze4 M Q) (hk : ∀ z, Q z → Ze4 (k z) R) : Ze4 (ZdC M k) R := by
 obtain ⟨ys, rfl, b, c⟩ := h
 show Ze4 (Zfk (ys.map k)) R
 refine Ze7 (by simpa using b) fun x hx => ?_
 obtain ⟨y, hy, rfl⟩ := Yq.1 hx
 exact hk y (c y hy)
theorem Znu {os : Nat} {V : Type} [Mv V] {xs : List (ByteArray × V)} {k0 : PT os (List β)} {k1 : ByteArray × V → List (ByteArray × V) → PT os (List β)} {Q : β → Prop}
  (h0 : xs = [] → Ze4 k0.m Q) (h1 : ∀ i x, xs[i]? = some x → Ze4 (k1 x (xs.eraseIdx i)).m Q) : Ze4 (nxN xs k0 k1).m Q := by
 cases xs with
 | nil => exact h0 rfl
 | cons a r =>
  show Ze4 (Zfk _) Q
  refine Ze7 (by simp) fun x hx => ?_
  obtain ⟨i, hi, rfl⟩ := Yq.1 hx
  have hi := Y9.1 hi
  have e : (a :: r)[i]? = some ((a :: r)[i]) := Yb hi
  have e2 : (a :: r).getD i (⟨#[]⟩, Mv.z) = (a :: r)[i] := by rw [YO, e]; rfl
  rw [e2]
  exact h1 i _ e
theorem ZbR {B : σ → Option (List (Lv σ ξ ρ))} (I : Nat → σ → Prop) (Q : ξ ⊕ ρ → Prop)
  (h : ∀ k v, I k v → Ze4 (B v) fun o => match o with | .nx v' => ∃ k', k' < k ∧ I k' v' | .ex b => Q (.inl b) | .rt y => Q (.inr y)) :
  ∀ N k v, k < N → I k v → Ze4 (ZcI B N v) Q
 | 0, k, v, hk, _ => absurd hk (Yar _)
 | N + 1, k, v, hk, hI => by
  rw [ZcI]
  refine ZbF (h k v hI) fun o ho => ?_
  cases o with
  | nx v' => obtain ⟨k', h3, h4⟩ := ho; exact ZbR I Q h N k' v' (by omega) h4
  | ex b => exact Zaq ho
  | rt y => exact Zaq ho
theorem ZmZ [DecidableEq β] {M : Option (List β)} {y : β} (h : Ze4 M fun z => z = y) : Zqj M = some y := by
 obtain ⟨ys, a, b, c⟩ := h
 exact Znr a b c
end
section
variable {V : Type}
def Zbf (r : List (ByteArray × V)) : List ByteArray := r.map (·.1)
theorem ZbB (x y : ByteArray) (v : V) : ∀ r : List (ByteArray × V), Zbp y (ZbI x v r) = if x = y then some v else Zbp y r
 | [] => by
  unfold ZbI Zbp
  by_cases h : x = y <;> simp [h, Zbp]
 | p :: r => by
  unfold ZbI
  by_cases h : p.1 = x
  ·rw [show decide (p.1 = x) = true from decide_eq_true h]
   show Zbp y ((x, v) :: r) = _
   unfold Zbp
   by_cases h2 : x = y
   ·simp [h2]
   ·simp [h2, show ¬ p.1 = y from fun h3 => h2 (h.symm.trans h3)]
  ·rw [show decide (p.1 = x) = false from decide_eq_false h]
   show Zbp y (p :: ZbI x v r) = _
   unfold Zbp
   rw [ZbB x y v r]
   by_cases h2 : p.1 = y
   ·simp [h2, show ¬ x = y from fun h3 => h (h2.trans h3.symm)]
   ·simp [h2]
theorem Ze5 (x : ByteArray) (v : V) : ∀ r : List (ByteArray × V), (x ∈ Zbf r ∧ Zbf (ZbI x v r) = Zbf r) ∨ (x ∉ Zbf r ∧ Zbf (ZbI x v r) = Zbf r ++ [x])
 | [] => .inr ⟨by simp [Zbf], rfl⟩
 | p :: r => by
  have ih := Ze5 x v r
  unfold ZbI
  by_cases h : p.1 = x
  ·rw [show decide (p.1 = x) = true from decide_eq_true h]
   exact .inl ⟨by unfold Zbf; simp [h], by unfold Zbf; simp [h]⟩
  ·rw [show decide (p.1 = x) = false from decide_eq_false h]
   have h2 : ¬ x = p.1 := fun e => h e.symm
   show (x ∈ p.1 :: Zbf r ∧ p.1 :: Zbf (ZbI x v r) = p.1 :: Zbf r) ∨ (x ∉ p.1 :: Zbf r ∧ p.1 :: Zbf (ZbI x v r) = p.1 :: Zbf r ++ [x])
   rcases ih with ⟨h3, h4⟩ | ⟨h3, h4⟩
   ·exact .inl ⟨List.mem_cons_of_mem _ h3, by rw [h4]⟩
   ·exact .inr ⟨fun hm => (Yn.1 hm).elim h2 h3, by rw [h4]; rfl⟩
theorem Zie (x : ByteArray) (v : V) {r : List (ByteArray × V)} (h : (Zbf r).Nodup) : (Zbf (ZbI x v r)).Nodup := by
 rcases Ze5 x v r with ⟨_, e⟩ | ⟨hx, e⟩
 ·rw [e]; exact h
 ·rw [e, Ybh]
  exact ⟨h, by simp, fun a ha b hb => by simp at hb; subst hb; exact fun e => hx (e ▸ ha)⟩
theorem Zcy (x : ByteArray) : ∀ r : List (ByteArray × V), x ∈ Zbf r ↔ (Zbp x r).isSome = true
 | [] => by simp [Zbf, Zbp]
 | p :: r => by
  have ih := Zcy x r
  unfold Zbp
  by_cases h : p.1 = x
  ·simp [Zbf, h]
  ·have h2 : ¬ x = p.1 := fun e => h e.symm
   simp only [h, decide_false, Zbf, YQ, Yn, h2, false_or]
   exact ih
theorem ZqJ (x : ByteArray) (v : V) (r : List (ByteArray × V)) : (ZbI x v r).length ≤ r.length + 1 := by
 have e : ∀ r : List (ByteArray × V), r.length = (Zbf r).length := fun r => (Yj _).symm
 rw [e, e r]
 rcases Ze5 x v r with ⟨_, e⟩ | ⟨_, e⟩ <;> rw [e] <;> simp
theorem ZmC {x : ByteArray} {v : V} : ∀ {r : List (ByteArray × V)}, (Zbf r).Nodup → (x, v) ∈ r → Zbp x r = some v
 | p :: r, hn, h => by
  simp only [Zbf, YQ, Ya5] at hn
  unfold Zbp
  rcases Yn.1 h with rfl | h
  ·simp
  ·have : ¬ p.1 = x := fun e => hn.1 (e ▸ Yq.2 ⟨_, h, rfl⟩)
   simp only [this, decide_false]
   exact ZmC hn.2 h
end
def Zp4 (s : Scm) (n : ByteArray) : Option Msg := s.messages.find? fun m => decide (m.name = n)
def isM (s : Scm) (n : ByteArray) : Bool := (Zp4 s n).isSome
def isE (s : Scm) (n : ByteArray) : Bool := s.enums.any fun e => decide (e.name = n)
def Zcu (s : Scm) (n : ByteArray) : List Fld := ((Zp4 s n).map Msg.fields).getD []
def toF (s : Scm) (f : Fld) : Bool := isM s f.type.name && decide (f.type.kind = 10)
def ldF (s : Scm) (f : Fld) : Bool := toF s f || (decide (f.type.kind = 9) && isE s f.type.name)
def Zbe (s : Scm) (n : ByteArray) : List ByteArray := ((Zcu s n).filter (toF s)).map fun f => f.type.name
def ZcK (s : Scm) (n : ByteArray) : List ByteArray := ((Zcu s n).filter (ldF s)).map fun f => f.type.name
structure Fw (s : Scm) : Prop where
 m : s.messages.length ≤ 8
 e : s.enums.length ≤ 8
 f : ∀ m ∈ s.messages, m.fields.length ≤ 10
theorem Fw.fl {s : Scm} (h : Fw s) (n : ByteArray) : (Zcu s n).length ≤ 10 := by
 unfold Zcu
 cases hm : Zp4 s n with
 | none => simp
 | some m => exact h.f m (Ybk hm)
theorem Fw.nl {s : Scm} (h : Fw s) (n : ByteArray) : (Zbe s n).length ≤ 10 := by
 unfold Zbe
 rw [Yj]
 exact YU (Y5 _ _) (h.fl n)
theorem Fw.ul {s : Scm} (h : Fw s) (n : ByteArray) : (ZcK s n).length ≤ 10 := by
 unfold ZcK
 rw [Yj]
 exact YU (Y5 _ _) (h.fl n)
theorem Ziu {s : Scm} {n x : ByteArray} (h : x ∈ Zbe s n) : isM s x = true := by
 unfold Zbe at h
 obtain ⟨f, hf, rfl⟩ := Yq.1 h
 have := (Yz.1 hf).2
 unfold toF at this
 exact (Yav.1 this).1
def nmM (s : Scm) : List ByteArray := s.messages.map Msg.name
theorem Zcf {s : Scm} {n : ByteArray} : isM s n = true ↔ n ∈ nmM s := by
 unfold isM Zp4 nmM
 rw [List.find?_isSome]
 simp [Yq]
theorem Zr2 {s : Scm} {n : ByteArray} : isE s n = true ↔ n ∈ s.enums.map Enm.name := by
 unfold isE
 simp [YK, Yq]
structure WOk (s : Scm) (w : Web) : Prop where
 m : ∀ n, Zbp n w.messages = Zp4 s n
 e : ∀ n, lkM n w.enums = isE s n
 nd : (Zbf w.messages).Nodup
 l : w.messages.length ≤ s.messages.length
theorem WOk.im {s : Scm} {w : Web} (h : WOk s w) (n : ByteArray) : inM n w.messages = isM s n := by unfold inM isM; rw [h.m]
theorem WOk.fl {s : Scm} {w : Web} (h : WOk s w) (n : ByteArray) : (lkM n w.messages).fields = Zcu s n := by
 unfold lkM Zcu
 rw [h.m]
 cases Zp4 s n <;> rfl
theorem WOk.key {s : Scm} {w : Web} (h : WOk s w) (n : ByteArray) : n ∈ Zbf w.messages ↔ isM s n = true := by rw [Zcy, h.m]; rfl
end Go.Eng
namespace Go.Proofs.Ythhipejbnbochaa
set_option linter.all false
open Go Go.Eng
def wvM (l : List Msg) : List (ByteArray × Msg) := l.foldl (fun r m => if inM m.name r = true then r else ZbI m.name m r) []
def wvE (l : List Enm) : List (ByteArray × Bool) := l.foldl (fun r e => ZbI e.name true r) []
theorem ZiZ (l : List Msg) (m : Msg) : wvM (l ++ [m]) = if inM m.name (wvM l) = true then wvM l else ZbI m.name m (wvM l) := by unfold wvM; rw [YaA]; rfl
theorem ZiL (l : List Enm) (e : Enm) : wvE (l ++ [e]) = ZbI e.name true (wvE l) := by unfold wvE; rw [YaA]; rfl
theorem Zna {α : Type} {P : List α → Prop} (h0 : P []) (h1 : ∀ l x, P l → P (l ++ [x])) (l : List α) : P l := by
 have : ∀ l : List α, P l.reverse := fun l => by
  induction l with
  | nil => exact h0
  | cons x l ih => rw [List.reverse_cons]; exact h1 _ _ ih
 simpa using this l.reverse
theorem ZwA (l : List Msg) : (∀ n, Zbp n (wvM l) = l.find? fun m => decide (m.name = n)) ∧ (Zbf (wvM l)).Nodup ∧ (wvM l).length ≤ l.length := by
 refine Zna (P := fun l => (∀ n, Zbp n (wvM l) = l.find? fun m => decide (m.name = n)) ∧ (Zbf (wvM l)).Nodup ∧ (wvM l).length ≤ l.length) ⟨fun n => rfl, by simp [wvM, Zbf], Yg _⟩ (fun l m ⟨a, b, c⟩ => ?_) l
 rw [ZiZ]
 split
 ·rename_i h
  refine ⟨fun n => ?_, b, by simp; omega⟩
  rw [a, List.find?_append]
  cases hf : l.find? fun m => decide (m.name = n) with
  | some x => rfl
  | none =>
   have : ¬ m.name = n := fun e => by
    subst e
    unfold inM at h
    rw [a, hf] at h
    cases h
   simp [this]
 ·rename_i h
  refine ⟨fun n => ?_, Zie _ _ b, YU (ZqJ ..) (by simp; omega)⟩
  rw [ZbB, List.find?_append, a]
  by_cases e : m.name = n
  ·subst e
   have : l.find? (fun x => decide (x.name = m.name)) = none := by
    unfold inM at h
    rw [a] at h
    simpa using h
   simp [this]
  ·simp only [e, if_false]
   cases l.find? fun m => decide (m.name = n) <;> simp [e]
theorem Zvd (l : List Enm) (n : ByteArray) : lkM n (wvE l) = l.any fun e => decide (e.name = n) := by
 refine Zna (P := fun l => lkM n (wvE l) = l.any fun e => decide (e.name = n)) rfl (fun l e ih => ?_) l
 rw [ZiL, List.any_append, ← ih]
 unfold lkM
 rw [ZbB]
 by_cases h : e.name = n <;> simp [h]
def Zxo (s : Scm) : Web := ⟨wvM s.messages, wvE s.enums⟩
theorem Zmn (s : Scm) : WOk s (Zxo s) := by
 obtain ⟨a, b, c⟩ := ZwA s.messages
 exact ⟨a, Zvd s.enums, b, c⟩
theorem m32 {s : Scm} (h : Fw s) : ZcA s = some (Zxo s) := by
 have hm := h.m
 have he := h.e
 have q1 : Zan (ZjZ s) big (0, []) = some (.inl (wvM s.messages)) := by
  have := ZdB (B := ZjZ s) (N := big) s.messages wvM (fun i b => (i, b)) id (hN := ZaN (by omega)) (he := by simp [ZjZ, Zoc, br, ix, vw, vs, ln, lxe, wa, mlk, mpu]) (hs := fun i x hx => by
   have g1 := Zdp hx
   have g0 := (Yd.1 hx).1
   have g2 : i + 1 < 9223372036854775808 := by omega
   dsimp only [ZjZ, Zoc, br, ix, vw, vs, ln, lxe, wa, mlk, mpu]
   simp only [g1, g2, hx, decide_true, if_true, Option.bind_some, ZiZ]
   cases inM x.name (wvM (s.messages.take i)) <;> simp)
  exact this
 have q2 : Zan (ZjM s (wvM s.messages)) big (0, []) = some (.inl (wvE s.enums)) := by
  have := ZdB (B := ZjM s (wvM s.messages)) (N := big) s.enums wvE (fun i b => (i, b)) id (hN := ZaN (by omega)) (he := by simp [ZjM, Zn7, br, ix, vw, vs, ln, lxe, wa, mpu]) (hs := fun i x hx => by
   have g1 := Zdp hx
   have g0 := (Yd.1 hx).1
   have g2 : i + 1 < 9223372036854775808 := by omega
   dsimp only [ZjM, Zn7, br, ix, vw, vs, ln, lxe, wa, mpu]
   simp only [g1, g2, hx, decide_true, if_true, Option.bind_some, ZiL])
  exact this
 dsimp only [ZcA, Ztr, ZrM, Zra, Zq7, vz, vw, lr, lc, eqL]
 rw [q1]
 simp only [Option.bind_some, Sum.elim_inl, q2]
 rfl
section
variable {s : Scm} {w : Web} (hw : WOk s w) (h : Fw s)
include hw
theorem m62 (f : Fld) : Zca w f = some (toF s f) := by
 dsimp only [Zca, ZsI, vw, lr, mlk]
 rw [hw.im]
 rfl
theorem m66 (f : Fld) : Zbt w f = some (ldF s f) := by
 dsimp only [Zbt, ZrL, vw, lr, cl, mlg]
 simp only [m62 hw, Option.bind_some, hw.e]
 rfl
include h
theorem m56 (n : ByteArray) : ZaT w n = some (Zbe s n) := by
 have hl := h.fl n
 have e := hw.fl n
 have q1 : Zan (Zkw w (lkM n w.messages)) big ([], 0) = some (.inl (Zbe s n)) := by
  have := ZdB (B := Zkw w (lkM n w.messages)) (N := big) (Zcu s n) (fun p => (p.filter (toF s)).map fun f => f.type.name) (fun i b => (b, i)) id (hN := ZaN (by omega)) (he := by simp [Zkw, Zos, br, ix, vz, vw, vs, ln, lxe, ap, cl, wa, fl, e]) (hs := fun i x hx => by
   have g1 := Zdp hx
   have g0 := (Yd.1 hx).1
   have g2 : i + 1 < 9223372036854775808 := by omega
   have g3 : ((((Zcu s n).take i).filter (toF s)).map fun f => f.type.name).length < 549755813887 := by
    rw [Yj]
    have := Y5 (toF s) ((Zcu s n).take i)
    rw [Y2] at this
    omega
   dsimp only [Zkw, Zos, br, ix, vz, vw, vs, ln, lxe, ap, cl, wa, fl]
   simp only [e, g1, g2, g3, hx, m62 hw, decide_true, if_true, Option.bind_some, List.filter_append, YaG]
   cases hb : toF s x <;> simp [Ybs, hb])
  exact this
 dsimp only [ZaT, ZsK, Zsr, ZrW, Zqv, vz, vw, lr, lc, mv, mlk, fl, eqL]
 rw [q1]
 rfl
theorem m50 (n : ByteArray) : ZbK w n = some (Zdh (ZcK s n)) := by
 have hl := h.fl n
 have e := hw.fl n
 have q1 : Zan (Zj1 w (lkM n w.messages)) big ([], 0) = some (.inl (ZcK s n)) := by
  have := ZdB (B := Zj1 w (lkM n w.messages)) (N := big) (Zcu s n) (fun p => (p.filter (ldF s)).map fun f => f.type.name) (fun i b => (b, i)) id (hN := ZaN (by omega)) (he := by simp [Zj1, Zpk, br, ix, vz, vw, vs, ln, lxe, ap, cl, wa, fl, e]) (hs := fun i x hx => by
   have g1 := Zdp hx
   have g0 := (Yd.1 hx).1
   have g2 : i + 1 < 9223372036854775808 := by omega
   have g3 : ((((Zcu s n).take i).filter (ldF s)).map fun f => f.type.name).length < 549755813887 := by
    rw [Yj]
    have := Y5 (ldF s) ((Zcu s n).take i)
    rw [Y2] at this
    omega
   dsimp only [Zj1, Zpk, br, ix, vz, vw, vs, ln, lxe, ap, cl, wa, fl]
   simp only [e, g1, g2, g3, hx, m66 hw, decide_true, if_true, Option.bind_some, List.filter_append, YaG]
   cases hb : ldF s x <;> simp [Ybs, hb])
  exact this
 have hu := h.ul n
 have hs : (ZeQ (ZcK s n)).length = (ZcK s n).length := (Zcq _).length_eq
 dsimp only [ZbK, Zrp, Ztj, Zrf, ZqC, Zsj, Zth, Zsm, Ztq, vz, vw, lr, lc, rn, mlk, fl, fr, eqL]
 rw [q1]
 simp only [Option.bind_some, Sum.elim_inl]
 unfold Zbc ZaY
 rw [if_pos (by omega)]
 simp only [Option.bind_some, hs, if_true]
 rw [if_pos (by omega)]
 rfl
end
theorem Zdf {l r : List ByteArray} (h : l.Nodup) (hs : ∀ x ∈ l, x ∈ r) : l.length ≤ r.length := List.Nodup.length_le_of_subset h hs
theorem ZdR {α : Type} : ∀ {l : List α} {i : Nat} {x : α}, l[i]? = some x → (x :: l.eraseIdx i).Perm l
 | a :: l, 0, x, h => by simp at h; subst h; exact .refl _
 | a :: l, i + 1, x, h => by
  simp at h
  exact (List.Perm.swap ..).trans ((ZdR h).cons a)
inductive Rch (s : Scm) (a : ByteArray) : ByteArray → Prop
 | one {b : ByteArray} : b ∈ Zbe s a → Rch s a b
 | tl {b c : ByteArray} : Rch s a b → c ∈ Zbe s b → Rch s a c
theorem Rch.isM {s : Scm} {a b : ByteArray} (h : Rch s a b) : isM s b = true := by
 cases h with
 | one h => exact Ziu h
 | tl _ h => exact Ziu h
theorem Rch.trans {s : Scm} {a b c : ByteArray} (h : Rch s a b) (k : Rch s b c) : Rch s a c := by
 induction k with
 | one k => exact .tl h k
 | tl _ k ih => exact .tl ih k
theorem Rch.hd {s : Scm} {a b c : ByteArray} (h : b ∈ Zbe s a) (k : Rch s b c) : Rch s a c := (Rch.one h).trans k
structure ROk (s : Scm) (n : ByteArray) (r : List (ByteArray × Bool)) : Prop where
 i : ∀ x, lkM x r = true ↔ Rch s n x
 k : ∀ x, x ∈ Zbf r ↔ lkM x r = true
 nd : (Zbf r).Nodup
 l : r.length ≤ 8
structure RInv (s : Scm) (n : ByteArray) (todo : List ByteArray) (r : List (ByteArray × Bool)) : Prop where
 t : ∀ x ∈ todo, Rch s n x
 o : ∀ x, lkM x r = true → Rch s n x
 c0 : ∀ x ∈ Zbe s n, x ∈ todo ∨ lkM x r = true
 c : ∀ y, lkM y r = true → ∀ x ∈ Zbe s y, x ∈ todo ∨ lkM x r = true
 k : ∀ x, x ∈ Zbf r ↔ lkM x r = true
 nd : (Zbf r).Nodup
theorem Zfm (x y : ByteArray) (r : List (ByteArray × Bool)) : lkM y (ZbI x true r) = true ↔ x = y ∨ lkM y r = true := by
 unfold lkM
 rw [ZbB]
 by_cases h : x = y <;> simp [h]
def ZoI (s : Scm) (r : List (ByteArray × Bool)) : Nat := ((nmM s).filter fun x => !lkM x r).length
theorem ZnO {s : Scm} {x : ByteArray} {r : List (ByteArray × Bool)} (h : isM s x = true) (hx : lkM x r = false) : ZoI s (ZbI x true r) < ZoI s r := by
 unfold ZoI
 have hm := Zcf.1 h
 have e : ((nmM s).filter fun y => !lkM y (ZbI x true r)) = ((nmM s).filter fun y => !lkM y r).filter fun y => decide (y ≠ x) := by
  rw [List.filter_filter]
  refine List.filter_congr fun y _ => ?_
  have := Zfm x y r
  by_cases e : x = y
  ·subst e
   simp [this.2 (.inl rfl)]
  ·have e2 : ¬ y = x := fun q => e q.symm
   cases hy : lkM y r with
   | true => simp [this.2 (.inr hy)]
   | false =>
    have : lkM y (ZbI x true r) = false := by
     cases hq : lkM y (ZbI x true r) with
     | false => rfl
     | true => rcases this.1 hq with q | q; exact absurd q e; rw [hy] at q; cases q
    simp [this, e2]
 rw [e]
 refine Nat.lt_of_le_of_ne (Y5 _ _) fun q => ?_
 rw [List.length_filter_eq_length_iff] at q
 have := q x (Yz.2 ⟨hm, by rw [hx]; rfl⟩)
 simp at this
section
variable {s : Scm} {w : Web} (hw : WOk s w) (h : Fw s)
include hw h
theorem m34 (n : ByteArray) : ∃ r, Zbw w n = some r ∧ ROk s n r := by
 have hl8 : (nmM s).length ≤ 8 := by unfold nmM; rw [Yj]; exact h.m
 have q1 := ZbA (B := ZjU w) (I := fun k v => ZoI s v.2 * 11 + v.1.length = k ∧ k ≤ 98 ∧ RInv s n v.1 v.2) (Q := fun o => Sum.elim (fun r => ROk s n r) (fun _ => False) o) (fun k v hI => by
  obtain ⟨r2, r3⟩ := v
  obtain ⟨h1, h2, hI⟩ := hI
  simp only at h1 hI
  cases r2 with
  | nil =>
   refine ⟨.ex r3, by simp [ZjU, Zk1, ZlE, Zm6, ZmI, ZmL, Znm, ZlM, ZlT, br, vz, vw, vs, ln, lxe, lc, ar, ir, ca, sR, rb, mlk, mpu, fl, eqN, Bd.c, Bd.vl], ?_⟩
   have hi : ∀ x, lkM x r3 = true ↔ Rch s n x := fun x => ⟨hI.o x, fun hr => by
    induction hr with
    | one hx => exact (hI.c0 _ hx).resolve_left (by simp)
    | tl _ hx ih => exact (hI.c _ ih _ hx).resolve_left (by simp)⟩
   refine ⟨hi, hI.k, hI.nd, ?_⟩
   have := Zdf hI.nd (r := nmM s) fun x hx => Zcf.1 ((hi x).1 ((hI.k x).1 hx)).isM
   simp only [Zbf, Yj] at this
   omega
  | cons x r2 =>
   simp only [Yac] at h1
   have hx := hI.t x (Ys ..)
   have g0 : (0 : Int) < ((r2.length + 1 : Nat) : Int) := by omega
   have hnl := h.nl x
   cases hk : lkM x r3 with
   | true =>
    refine ⟨.nx (r2, r3), by dsimp only [ZjU, Zk1, ZlE, Zm6, ZmI, ZmL, Znm, ZlM, ZlT, br, vz, vw, vs, ln, lxe, lc, ar, ir, ca, sR, rb, mlk, mpu, fl, eqN, Bd.c, Bd.vl]; simp [hk] <;> omega, ZoI s r3 * 11 + r2.length, by omega, rfl, by omega, ⟨fun y hy => hI.t y (List.mem_cons_of_mem _ hy), hI.o, fun y hy => ?_, fun z hz y hy => ?_, hI.k, hI.nd⟩⟩
    ·rcases hI.c0 y hy with q | q
     ·rcases Yn.1 q with rfl | q
      ·exact .inr hk
      ·exact .inl q
     ·exact .inr q
    ·rcases hI.c z hz y hy with q | q
     ·rcases Yn.1 q with rfl | q
      ·exact .inr hk
      ·exact .inl q
     ·exact .inr q
   | false =>
    have hp := ZnO (s := s) (x := x) (r := r3) hx.isM hk
    refine ⟨.nx (r2 ++ Zbe s x, ZbI x true r3), by dsimp only [ZjU, Zk1, ZlE, Zm6, ZmI, ZmL, Znm, ZlM, ZlT, br, vz, vw, vs, ln, lxe, lc, ar, ir, ca, sR, rb, mlk, mpu, fl, eqN, Bd.c, Bd.vl]; simp [hk, m56 hw h] <;> omega, ZoI s (ZbI x true r3) * 11 + (r2 ++ Zbe s x).length, by rw [List.length_append]; omega, rfl, by rw [List.length_append]; omega, ⟨fun y hy => ?_, fun y hy => ?_, fun y hy => ?_, fun z hz y hy => ?_, fun y => ?_, Zie _ _ hI.nd⟩⟩
    ·rcases YM.1 hy with q | q
     ·exact hI.t y (List.mem_cons_of_mem _ q)
     ·exact .tl hx q
    ·rcases (Zfm x y r3).1 hy with rfl | q
     ·exact hx
     ·exact hI.o y q
    ·rw [Zfm]
     rcases hI.c0 y hy with q | q
     ·rcases Yn.1 q with rfl | q
      ·exact .inr (.inl rfl)
      ·exact .inl (YR _ q)
     ·exact .inr (.inr q)
    ·rw [Zfm]
     rcases (Zfm x z r3).1 hz with rfl | hz
     ·exact .inl (Yaj _ hy)
     ·rcases hI.c z hz y hy with q | q
      ·rcases Yn.1 q with rfl | q
       ·exact .inr (.inl rfl)
       ·exact .inl (YR _ q)
      ·exact .inr (.inr q)
    ·rw [Zfm, ← hI.k y]
     rcases Ze5 x true r3 with ⟨a, e⟩ | ⟨a, e⟩
     ·rw [e]
      exact ⟨.inr, fun q => q.elim (fun q => q ▸ a) id⟩
     ·rw [e, YM, YF]
      exact ⟨fun q => q.elim .inr fun q => .inl q.symm, fun q => q.elim (fun q => .inr q.symm) .inl⟩) big (ZoI s [] * 11 + (Zbe s n).length) (Zbe s n, []) (ZaN (by
   have h1 : ZoI s [] ≤ (nmM s).length := Y5 _ _
   have := h.nl n
   omega)) ⟨rfl, by
   have h1 : ZoI s [] ≤ (nmM s).length := Y5 _ _
   have := h.nl n
   omega, ⟨fun x hx => .one hx, fun x hx => by simp [lkM, Zbp, Mv.z] at hx, fun x hx => .inl hx, fun y hy => by simp [lkM, Zbp, Mv.z] at hy, fun x => by simp [Zbf, lkM, Zbp, Mv.z], by simp [Zbf]⟩⟩
 obtain ⟨o, e, hq⟩ := q1
 cases o with
 | inr _ => exact hq.elim
 | inl r =>
  refine ⟨r, ?_, hq⟩
  dsimp only [Zbw, Zlw, ZkW, Zli, Zrk, vz, vw, lr, lc, fl]
  simp only [m56 hw h, Option.bind_some, e, Sum.elim_inl]
end
theorem ZfI {α : Type} (p : α → Bool) : ∀ l : List α, l.find? p = (l.findIdx? p).bind fun i => l[i]?
 | [] => rfl
 | x :: l => by
  rw [List.find?_cons, Ybf]
  cases h : p x with
  | true => simp
  | false =>
   rw [ZfI p l]
   cases List.findIdx? p l <;> simp
theorem ZfO {α : Type} {p : α → Bool} : ∀ {l : List α}, (l.findIdx? p).isSome = l.any p
 | [] => rfl
 | x :: l => by
  rw [Ybf, List.any_cons, ← ZfO (l := l)]
  cases p x <;> simp
def ixM (s : Scm) (n : ByteArray) : Option Nat := s.messages.findIdx? fun m => decide (m.name = n)
def ixE (s : Scm) (n : ByteArray) : Option Nat := s.enums.findIdx? fun m => decide (m.name = n)
def zM : Msg := ⟨⟨#[]⟩, [], [], [], []⟩
def zE : Enm := ⟨⟨#[]⟩, false, [], [], []⟩
def Zho (s : Scm) (n : ByteArray) : Msg × Int := (ixM s n).elim (zM, -1) fun i => (s.messages.getD i zM, (i : Int))
def Zty (s : Scm) (n : ByteArray) : Enm × Int := (ixE s n).elim (zE, -1) fun i => (s.enums.getD i zE, (i : Int))
theorem Zmb (s : Scm) (n : ByteArray) : Zp4 s n = (ixM s n).bind fun i => s.messages[i]? := ZfI _ _
theorem Zqo {s : Scm} {n : ByteArray} {i : Nat} (h : ixM s n = some i) : i < s.messages.length := by
 unfold ixM at h
 rw [YaP] at h
 exact h.1
theorem ZoD (s : Scm) (n : ByteArray) : (ixM s n).isSome = isM s n := by
 unfold isM
 rw [Zmb]
 cases h : ixM s n with
 | none => rfl
 | some i => simp [Yb (Zqo h)]
theorem ZlV (s : Scm) (n : ByteArray) : (Zho s n).1.fields = Zcu s n := by
 unfold Zho Zcu
 rw [Zmb]
 cases h : ixM s n with
 | none => rfl
 | some i => simp [Yb (Zqo h), YO]
theorem ZkG (s : Scm) (n : ByteArray) : decide (0 ≤ (Zho s n).2) = isM s n := by
 rw [← ZoD]
 unfold Zho
 cases ixM s n with
 | none => rfl
 | some i => simp
theorem Zlf (s : Scm) (n : ByteArray) : decide ((Zho s n).2 < 0) = !isM s n := by
 rw [← ZkG]
 by_cases h : (Zho s n).2 < 0
 ·rw [decide_eq_true h, decide_eq_false (by omega)]; rfl
 ·rw [decide_eq_false h, decide_eq_true (by omega)]; rfl
theorem ZkN (s : Scm) (n : ByteArray) : decide (0 ≤ (Zty s n).2) = isE s n := by
 have e : (ixE s n).isSome = isE s n := ZfO
 rw [← e]
 unfold Zty
 cases ixE s n with
 | none => rfl
 | some i => simp
theorem Zwa (s : Scm) (n : ByteArray) : decide ((Zty s n).2 < 0) = !isE s n := by
 rw [← ZkN]
 by_cases h : (Zty s n).2 < 0
 ·rw [decide_eq_true h, decide_eq_false (by omega)]; rfl
 ·rw [decide_eq_false h, decide_eq_true (by omega)]; rfl
theorem m18 {s : Scm} (h : Fw s) (n : ByteArray) : ZaI s n = some (Zho s n) := by
 have hm := h.m
 have q1 := ZeN (B := Zm3 s n) (N := big) s.messages (fun m => decide (m.name = n)) (fun i => (s.messages.getD i zM, (i : Int))) () (fun i x hx => by
  have g1 := Zdp hx
  have g0 := (Yd.1 hx).1
  have g2 : i + 1 < 9223372036854775808 := by omega
  dsimp only [Zm3, Zpg, br, ix, vz, vw, vs, lrt, ln, lxe, wa, eqL]
  simp only [g1, g2, hx, decide_true, if_true, Option.bind_some, YO, Y7]
  cases decide (x.name = n) <;> simp) (by simp [Zm3, Zpg, br, ix, vz, vw, vs, lrt, ln, lxe, wa, eqL]) (ZaN (by omega))
 dsimp only [ZaI, Zq2, ZqH, Zrq, vw, lr, lc]
 rw [q1]
 unfold Zho ixM
 cases s.messages.findIdx? fun m => decide (m.name = n) <;> rfl
theorem m46 {s : Scm} (h : Fw s) (n : ByteArray) : Za3 s n = some (Zty s n) := by
 have hm := h.e
 have q1 := ZeN (B := Zm1 s n) (N := big) s.enums (fun m => decide (m.name = n)) (fun i => (s.enums.getD i zE, (i : Int))) () (fun i x hx => by
  have g1 := Zdp hx
  have g0 := (Yd.1 hx).1
  have g2 : i + 1 < 9223372036854775808 := by omega
  dsimp only [Zm1, Zps, br, ix, vz, vw, vs, lrt, ln, lxe, wa, eqL]
  simp only [g1, g2, hx, decide_true, if_true, Option.bind_some, YO, Y7]
  cases decide (x.name = n) <;> simp) (by simp [Zm1, Zps, br, ix, vz, vw, vs, lrt, ln, lxe, wa, eqL]) (ZaN (by omega))
 dsimp only [Za3, Zrx, Zs2, ZrB, vw, lr, lc]
 rw [q1]
 unfold Zty ixE
 cases s.enums.findIdx? fun m => decide (m.name = n) <;> rfl
def Zhv (l : List ByteArray) (x : ByteArray) : Bool := l.any fun y => decide (y = x)
theorem ZbO {l : List ByteArray} {x : ByteArray} : Zhv l x = true ↔ x ∈ l := by
 unfold Zhv
 simp [YK]
theorem m27 {l : List ByteArray} (h : l.length < 4611686018427387904) (x : ByteArray) : Za7 l x = some (Zhv l x) := by
 have q1 := ZeN (B := Zmz l x) (N := big) l (fun y => decide (y = x)) (fun i => true) () (fun i y hy => by
  have g1 := Zdp hy
  have g0 := (Yd.1 hy).1
  have g2 : i + 1 < 9223372036854775808 := by omega
  dsimp only [Zmz, Zoz, br, ix, vz, vs, lrt, ln, lxe, wa, eqL]
  simp only [g1, g2, hy, decide_true, if_true, Option.bind_some]
  cases decide (y = x) <;> simp) (by simp [Zmz, Zoz, br, ix, vz, vs, lrt, ln, lxe, wa, eqL]) (ZaN h)
 dsimp only [Za7, Zq3, ZsB, ZrR, lr, lc]
 rw [q1]
 unfold Zhv
 rw [← ZfO]
 cases l.findIdx? fun y => decide (y = x) <;> rfl
def ZbD (l : List ByteArray) (x : ByteArray) : List ByteArray := if Zhv l x = true then l else (l.takeWhile (fun y => sLt y x) ++ [x]) ++ l.drop (l.takeWhile fun y => sLt y x).length
theorem ZhH {α : Type} (p : α → Bool) (l : List α) : l.drop (l.takeWhile p).length = l.dropWhile p := by
 conv => lhs; arg 2; rw [← Yak (p := p) (l := l)]
 rw [List.drop_left]
theorem ZgR (l : List ByteArray) (x : ByteArray) : (ZbD l x).length ≤ l.length + 1 := by
 unfold ZbD
 split
 ·omega
 ·rw [ZhH, List.length_append, List.length_append]
  have := congrArg List.length (Yak (p := fun y => sLt y x) (l := l))
  rw [List.length_append] at this
  simp
  omega
theorem ZkS (l : List ByteArray) (x y : ByteArray) : y ∈ ZbD l x ↔ y = x ∨ y ∈ l := by
 unfold ZbD
 split
 ·rename_i h
  exact ⟨.inr, fun h2 => h2.elim (fun e => e ▸ ZbO.1 h) id⟩
 ·rw [ZhH]
  have h2 : y ∈ l ↔ y ∈ l.takeWhile (fun y => sLt y x) ∨ y ∈ l.dropWhile (fun y => sLt y x) := by
   conv => lhs; rw [← Yak (p := fun y => sLt y x) (l := l)]
   exact YM
  rw [YM, YM, YF, h2]
  constructor
  ·rintro ((h | h) | h)
   ·exact .inr (.inl h)
   ·exact .inl h
   ·exact .inr (.inr h)
  ·rintro (h | h | h)
   ·exact .inl (.inr h)
   ·exact .inl (.inl h)
   ·exact .inr h
theorem Zqc {p : ByteArray → Bool} {x : ByteArray} : ∀ {l : List ByteArray}, x ∈ l.takeWhile p → p x = true
 | [], h => by cases h
 | y :: l, h => by
  rw [Ya8] at h
  split at h
  ·rename_i hy
   rcases Yn.1 h with rfl | h
   ·exact hy
   ·exact Zqc h
  ·cases h
theorem Zno {l : List ByteArray} (h : Asc l) (x : ByteArray) : Asc (ZbD l x) := by
 unfold ZbD
 split
 ·exact h
 ·rename_i hx
  have hs : x ∉ l := fun q => hx (ZbO.2 q)
  rw [ZhH, YY]
  have e := Yak (p := fun y => sLt y x) (l := l)
  have h' := h
  rw [← e] at h'
  obtain ⟨h1, h2, h3⟩ := List.pairwise_append.1 h'
  have t2 : ∀ y ∈ l.dropWhile (fun y => sLt y x), sLt x y = true := fun y hy => by
   cases hd : l.dropWhile (fun y => sLt y x) with
   | nil => rw [hd] at hy; cases hy
   | cons b r =>
    have hb : sLt b x = false := by
     have := List.head?_dropWhile_not (fun y => sLt y x) l
     rw [hd] at this
     simpa using this
    have hbl : b ∈ l := by
     rw [← e, hd]
     exact Yaj _ (Ys ..)
    have hsb : sLt x b = true := Ztb hb fun e => hs (e ▸ hbl)
    rw [hd] at hy h2
    rcases Yn.1 hy with rfl | hy
    ·exact hsb
    ·exact Zpy hsb (List.rel_of_pairwise_cons h2 hy)
  refine List.pairwise_append.2 ⟨h1, Yap.2 ⟨t2, h2⟩, fun a ha b hb => ?_⟩
  rcases Yn.1 hb with rfl | hb
  ·exact Zqc (p := fun y => sLt y b) ha
  ·exact h3 a ha b hb
theorem Zhy {α : Type} {p : α → Bool} : ∀ {l : List α} {i : Nat}, (∀ y ∈ l.take i, p y = true) → (∀ y, l[i]? = some y → p y = false) → l.takeWhile p = l.take i
 | [], i, _, _ => by simp
 | x :: l, 0, _, h => by rw [Ya8, h x rfl]; rfl
 | x :: l, i + 1, h1, h2 => by
  rw [Ya8, h1 x (by simp), List.take_succ_cons]
  simp only [if_true]
  rw [Zhy (i := i) (fun y hy => h1 y (by simp [hy])) (fun y hy => h2 y (by simpa using hy))]
theorem m53 {l : List ByteArray} (h : l.length ≤ 1000000) (x : ByteArray) : Za2 l x = some (ZbD l x) := by
 have q1 := ZbA (B := ZjN l x) (I := fun k v => k + v.2 = l.length ∧ v.1 = l.take v.2 ∧ ∀ y ∈ v.1, sLt y x = true) (Q := fun o => o = .inl (l.takeWhile fun y => sLt y x)) (fun k v hI => by
  obtain ⟨r, i⟩ := v
  obtain ⟨h1, h2, h3⟩ := hI
  simp only at h1 h2 h3
  subst h2
  have hl : (l.take i).length = i := by rw [Y2]; omega
  cases hk : l[i]? with
  | none =>
   have hge := YS.1 hk
   refine ⟨.ex (l.take i), by dsimp only [ZjN, Znc, br, ix, ixg, vz, vw, vs, ln, lxe, ap, wa, fl, eqL]; simp [show ¬ (i : Int) < (l.length : Int) by omega], ?_⟩
   rw [Zhy h3 (fun y hy => by rw [hk] at hy; cases hy)]
  | some y =>
   have g1 := Zdp hk
   obtain ⟨g0, rfl⟩ := Yd.1 hk
   have g2 : i + 1 < 9223372036854775808 := by omega
   have e : l.getD i (Rw.z) = l[i] := by rw [YO, hk]; rfl
   cases hy : sLt l[i] x with
   | false =>
    refine ⟨.ex (l.take i), by dsimp only [ZjN, Znc, br, ix, ixg, vz, vw, vs, ln, lxe, ap, wa, fl, eqL]; simp [g1, g0, e, hy], ?_⟩
    rw [Zhy h3 (fun z hz => by rw [hk] at hz; cases hz; exact hy)]
   | true =>
    refine ⟨.nx (l.take i ++ [l[i]], i + 1), by dsimp only [ZjN, Znc, br, ix, ixg, vz, vw, vs, ln, lxe, ap, wa, fl, eqL]; simp [g1, g0, g2, e, hy, hk, hl]; omega, k - 1, by omega, by simp only; omega, ?_, fun z hz => ?_⟩
    ·simp only
     rw [YP g0]
    ·rcases YM.1 hz with q | q
     ·exact h3 z q
     ·rw [YF.1 q]; exact hy) big l.length ([], 0) (ZaN (by omega)) ⟨rfl, by simp, fun y hy => by cases hy⟩
 obtain ⟨o, e, rfl⟩ := q1
 have hlt : (l.takeWhile fun y => sLt y x).length ≤ l.length := (List.takeWhile_sublist _).length_le
 dsimp only [Za2, Ztl, ZsN, ZqL, Zrc, Zta, br, vz, vw, lr, lc, ap, aq, cl, sL, fl, fr, eqN, Bd.c, Bd.vl]
 simp only [m27 (l := l) (by omega), Option.bind_some, e, Sum.elim_inl]
 unfold ZbD
 cases Zhv l x with
 | true => rfl
 | false =>
  simp [hlt]
  exact ⟨by omega, by omega, Yaa (by rw [Yai]; exact Yg _)⟩
theorem Zgb (l a : List ByteArray) : (l.foldl ZbD a).length ≤ a.length + l.length := by
 induction l generalizing a with
 | nil => exact Yg _
 | cons x l ih => rw [Yab]; have := ih (ZbD a x); have := ZgR a x; simp; omega
theorem ZiB (l a : List ByteArray) (y : ByteArray) : y ∈ l.foldl ZbD a ↔ y ∈ l ∨ y ∈ a := by
 induction l generalizing a with
 | nil => simp
 | cons x l ih => rw [Yab, ih, ZkS, Yn, or_assoc, or_left_comm]
theorem Ziq {l a : List ByteArray} (h : Asc a) : Asc (l.foldl ZbD a) := by
 induction l generalizing a with
 | nil => exact h
 | cons x l ih => rw [Yab]; exact ih (Zno h x)
theorem ZdG (l : List ByteArray) : l.foldl ZbD [] = Zdh l := (Zmf (Ziq .nil) fun x => by rw [ZiB]; simp).symm
theorem Zdz (l : List ByteArray) : (Zdh l).length ≤ l.length := by rw [← ZdG]; have := Zgb l []; simpa using this
theorem Zco {α ρ : Type} {B : List ByteArray × Nat → Option (Lv (List ByteArray × Nat) (List ByteArray) ρ)} (l : List α) (c : α → Option ByteArray) (a : List ByteArray) (ha : a.length + l.length ≤ 1000000)
  (hs : ∀ (i : Nat) b x, l[i]? = some x → b.length ≤ 1000000 → i + 1 < 9223372036854775808 → (i : Int) < (l.length : Int) → B (b, i) = some (.nx ((c x).elim b (ZbD b), i + 1))) (he : ∀ b, B (b, l.length) = some (.ex b)) : Zan B big (a, 0) = some (.inl ((l.filterMap c).foldl ZbD a)) := by
 have := ZcY (B := B) (N := big) l (fun i b => (b, i)) (fun i b => b.length ≤ a.length + i) (fun b x => (.inl ((c x).elim b (ZbD b)) : List ByteArray ⊕ ρ)) id (fun i b x hx hI => by
  have hlt := (Yd.1 hx).1
  refine ⟨hs i b x hx (by omega) (by omega) (Zdp hx), fun b' e => ?_⟩
  cases e
  cases c x with
  | none => simp; omega
  | some y => have := ZgR b y; simp; omega) (fun b _ => he b) a (by omega) (ZaN (by omega))
 rw [this, Zcr (fun b x => (c x).elim b (ZbD b)) (fun _ _ => rfl)]
 congr 2
 clear this hs he ha
 show _ = _
 induction l generalizing a with
 | nil => rfl
 | cons x l ih =>
  rw [Yab, ih, List.filterMap_cons]
  cases c x <;> rfl
section
variable {s : Scm} (h : Fw s)
include h
theorem m19 (f : Fld) : ZaR s f = some (if ldF s f = true then (f.type.name, true) else (⟨#[]⟩, false)) := by
 have e1 := Zlf s f.type.name
 have e2 := Zwa s f.type.name
 have hne : ¬ (10 : Int) = 9 := by decide
 unfold ldF toF
 dsimp only [ZaR, Zsn, br, vw, lr, cl]
 simp only [m18 h, m46 h, Option.bind_some, e1, e2]
 by_cases h1 : f.type.kind = 10
 ·simp only [h1, hne, decide_true, decide_false, if_true, if_false, Bool.and_true, Bool.false_and, YbB]
  cases isM s f.type.name <;> simp
 ·by_cases h2 : f.type.kind = 9
  ·simp only [h1, h2, decide_true, decide_false, if_true, if_false, Bool.and_false, Bool.true_and, YaR]
   cases isE s f.type.name <;> simp
  ·simp [h1, h2]
omit h in
theorem Zek {α β : Type} (p : α → Bool) (g : α → β) (l : List α) : l.filterMap (fun x => if p x = true then some (g x) else none) = (l.filter p).map g := by
 induction l with
 | nil => rfl
 | cons x l ih =>
  rw [List.filterMap_cons, Ybs, ih]
  cases p x <;> rfl
theorem m30 (n : ByteArray) : Za0 s n = some (Zdh (ZcK s n)) := by
 have hl := h.fl n
 have e := ZlV s n
 have q1 := Zco (B := ZlA s (Zho s n)) (Zcu s n) (fun f => if ldF s f = true then some f.type.name else none) [] (by simp; omega) (fun i b x hx hb g2 g1 => by
  dsimp only [ZlA, Zo3, br, ix, vz, vw, vs, v2, ln, lxe, cl, wa, eqL]
  simp only [e, g1, g2, hx, m19 h, decide_true, if_true, Option.bind_some]
  cases ldF s x with
  | true => simp [m53 hb]
  | false => simp) (fun b => by dsimp only [ZlA, Zo3, br, ix, vz, vw, vs, v2, ln, lxe, cl, wa, eqL]; simp [e])
 rw [Zek] at q1
 dsimp only [Za0, Zs6, Zsq, ZqR, Zss, vz, vw, lr, lc, cl, fz]
 simp only [m18 h, Option.bind_some, q1, Sum.elim_inl]
 rw [ZdG]
 rfl
theorem m54 (n : ByteArray) : ZaH s n = some (isM s n || isE s n) := by
 dsimp only [ZaH, Zst, vw, lr, cl]
 simp only [m18 h, m46 h, Option.bind_some, ZkG, ZkN]
theorem ZwC (f : Fld) : (ldF s f && decide (f.type.kind = 10)) = toF s f := by
 unfold ldF toF
 by_cases h1 : f.type.kind = 10
 ·simp [h1]
 ·simp [h1]
theorem m61 (n : ByteArray) : Za4 s n = some (Zdh (Zbe s n)) := by
 have hl := h.fl n
 have e := ZlV s n
 have q1 := Zco (B := ZkI s (Zho s n)) (Zcu s n) (fun f => if toF s f = true then some f.type.name else none) [] (by simp; omega) (fun i b x hx hb g2 g1 => by
  have g0 := (Yd.1 hx).1
  have e3 : (Zcu s n).getD i Rw.z = x := by rw [YO, hx]; rfl
  have e4 := ZwC h x
  dsimp only [ZkI, ZnG, br, ix, ixg, vz, vw, vs, v2, ln, lxe, cl, wa, eqL]
  simp only [e, g1, g2, hx, m19 h, decide_true, if_true, Option.bind_some, Int.toNat_natCast, e3]
  rw [← e4]
  cases hq : ldF s x with
  | true =>
   by_cases h2 : x.type.kind = 10
   ·simp [m53 hb, h2, g0]
   ·simp [h2, g0]
  | false => simp) (fun b => by dsimp only [ZkI, ZnG, br, ix, ixg, vz, vw, vs, v2, ln, lxe, cl, wa, eqL]; simp [e])
 rw [Zek] at q1
 dsimp only [Za4, Zrn, ZrQ, ZqU, ZqV, vz, vw, lr, lc, cl, fz]
 simp only [m18 h, Option.bind_some, q1, Sum.elim_inl]
 rw [ZdG]
 rfl
def ZnC (s : Scm) (v : List ByteArray) : List ByteArray := v.foldl (fun a y => (Zdh (Zbe s y)).foldl ZbD a) v
omit h in
theorem ZhN (g : ByteArray → List ByteArray) : ∀ (v a : List ByteArray), (Asc a → Asc (v.foldl (fun a y => (g y).foldl ZbD a) a)) ∧ ∀ x, x ∈ v.foldl (fun a y => (g y).foldl ZbD a) a ↔ x ∈ a ∨ ∃ y ∈ v, x ∈ g y
 | [], a => ⟨id, fun x => by simp⟩
 | y :: v, a => by
  obtain ⟨p, q⟩ := ZhN g v ((g y).foldl ZbD a)
  refine ⟨fun ha => p (Ziq ha), fun x => ?_⟩
  rw [Yab, q, ZiB]
  simp only [Yn, exists_eq_or_imp, or_assoc, or_left_comm]
theorem ZxP (v : List ByteArray) (hv : v.length ≤ 8) : Zan (Zkf s v) big (v, 0) = some (.inl (ZnC s v)) := by
 have := ZcY (B := Zkf s v) (N := big) v (fun i b => (b, i)) (fun i b => b.length ≤ 8 + i * 10) (fun b y => (.inl ((Zdh (Zbe s y)).foldl ZbD b) : List ByteArray ⊕ List ByteArray)) id (fun i b y hy hI => by
  have g1 := Zdp hy
  have g0 := (Yd.1 hy).1
  have g2 : i + 1 < 9223372036854775808 := by omega
  have h1 := Zgb (Zdh (Zbe s y)) b
  have h2 := Zdz (Zbe s y)
  have h3 := h.nl y
  have q := Zco (B := Zle s v i (Zdh (Zbe s y))) (Zdh (Zbe s y)) some b (by omega) (fun j c x hx hc g4 g3 => by
   dsimp only [Zle, Zn6, br, ix, vz, vs, ln, lxe, cl, wa, eqL]
   simp only [g3, g4, hx, m53 hc, decide_true, if_true, Option.bind_some, Option.elim_some]) (fun c => by dsimp only [Zle, Zn6, br, ix, vz, vs, ln, lxe, cl, wa, eqL]; simp)
  rw [List.filterMap_some] at q
  refine ⟨?_, fun b' e => by cases e; omega⟩
  dsimp only [Zkf, Zo4, ZnT, Zpc, br, ix, vz, vs, ln, lxe, lc, cl, wa, eqL]
  simp only [g1, g2, hy, m61 h, q, decide_true, if_true, Option.bind_some, Sum.elim_inl]) (fun b _ => by dsimp only [Zkf, Zo4, ZnT, Zpc, br, ix, vz, vs, ln, lxe, lc, cl, wa, eqL]; simp) v (by omega) (ZaN (by omega))
 rw [this, Zcr (fun b y => (Zdh (Zbe s y)).foldl ZbD b) (fun _ _ => rfl)]
 rfl
end
structure AOk (s : Scm) (ns : List ByteArray) (l : List ByteArray) : Prop where
 a : Asc l
 m : ∀ x, x ∈ l ↔ (x ∈ ns ∧ isM s x = true) ∨ ∃ y ∈ ns, isM s y = true ∧ Rch s y x
theorem AOk.len {s : Scm} (h : Fw s) {ns l : List ByteArray} (k : AOk s ns l) : l.length ≤ 8 := by
 have := Zdf (Zde k.a) (r := nmM s) fun x hx => Zcf.1 (by
  rcases (k.m x).1 hx with ⟨_, q⟩ | ⟨y, _, _, q⟩
  ·exact q
  ·exact q.isM)
 have h2 := h.m
 unfold nmM at this
 rw [Yj] at this
 omega
theorem Zvh {l r : List ByteArray} (hl : l.Nodup) (hs : ∀ x ∈ l, x ∈ r) (hn : r.length ≤ l.length) (hr : r.Nodup) : ∀ x ∈ r, x ∈ l := fun x hx => by
 apply YaH
 intro hc
 have := Zdf (l := x :: l) (r := r) (Ya5.2 ⟨hc, hl⟩) fun y hy => by
  rcases Yn.1 hy with rfl | hy
  ·exact hx
  ·exact hs y hy
 simp at this
 omega
theorem m55 {s : Scm} (h : Fw s) (ns : List ByteArray) (hn : ns.length ≤ 1000) : ∃ l, Za8 s ns = some l ∧ AOk s ns l := by
 have q1 := Zco (B := Znw s ns) ns (fun x => if isM s x = true then some x else none) [] (by simp; omega) (fun i b x hx hb g2 g1 => by
  dsimp only [Znw, Zok, ZoY, Zo8, ZeE, Zpf, br, ix, vz, vw, vs, v2, ln, lxe, lc, cl, wa, du, eqL]
  simp only [g1, g2, hx, m18 h, ZkG, decide_true, if_true, Option.bind_some]
  cases isM s x with
  | true => simp [m53 hb]
  | false => simp) (fun b => by dsimp only [Znw, Zok, ZoY, Zo8, ZeE, Zpf, br, ix, vz, vw, vs, v2, ln, lxe, lc, cl, wa, du, eqL]; simp)
 have e0 : ns.filterMap (fun x => if isM s x = true then some x else none) = ns.filter (isM s) := by
  have := Zek (isM s) (fun x : ByteArray => x) ns
  rwa [List.map_id'] at this
 rw [e0, ZdG] at q1
 obtain ⟨v0, hv0⟩ : ∃ v0, v0 = Zdh (ns.filter (isM s)) := ⟨_, rfl⟩
 rw [← hv0] at q1
 have a0 : Asc v0 := hv0 ▸ Zgn _
 have mem0 : ∀ x, x ∈ v0 ↔ x ∈ ns ∧ isM s x = true := fun x => by rw [hv0, ZbP, Yz]
 have hnm : (nmM s).length ≤ 8 := by unfold nmM; rw [Yj]; exact h.m
 have q2 := ZbA (B := ZkH s) (I := fun k v => Asc v.1 ∧ (∀ x ∈ v0, x ∈ v.1) ∧ (∀ x ∈ v.1, x ∈ v0 ∨ ∃ y ∈ v0, Rch s y x) ∧ (v.2 = false → ∀ y ∈ v.1, ∀ x ∈ Zbe s y, x ∈ v.1) ∧ (v.2 = true → k + v.1.length = 10) ∧ (v.2 = false → k = 0)) (Q := fun o => Sum.elim (fun l => AOk s ns l) (fun _ => False) o) (fun k v hI => by
  obtain ⟨v, ag⟩ := v
  obtain ⟨i1, i2, i3, i4, i5, i6⟩ := hI
  simp only at i1 i2 i3 i4 i5 i6
  have hM : ∀ x ∈ v, isM s x = true := fun x hx => by
   rcases i3 x hx with q | ⟨y, _, q⟩
   ·exact ((mem0 x).1 q).2
   ·exact q.isM
  have hv8 : v.length ≤ 8 := YU (Zdf (Zde i1) fun x hx => Zcf.1 (hM x hx)) hnm
  cases ag with
  | false =>
   refine ⟨.ex v, by dsimp only [ZkH, Zje, Zij, Ziz, Zi6, br, vz, ln, lxe, lc, eqL]; simp, i1, fun x => ⟨fun hx => ?_, fun hx => ?_⟩⟩
   ·rcases i3 x hx with q | ⟨y, hy, q⟩
    ·exact .inl ((mem0 x).1 q)
    ·exact .inr ⟨y, ((mem0 y).1 hy).1, ((mem0 y).1 hy).2, q⟩
   ·have hcl : ∀ y ∈ v, ∀ x, Rch s y x → x ∈ v := fun y hy x hr => by
     induction hr with
     | one q => exact i4 rfl y hy _ q
     | tl _ q ih => exact i4 rfl _ ih _ q
    rcases hx with q | ⟨y, hy, hm, q⟩
    ·exact i2 x ((mem0 x).2 q)
    ·exact hcl y (i2 y ((mem0 y).2 ⟨hy, hm⟩)) x q
  | true =>
   have q3 := ZxP h v hv8
   obtain ⟨g1, g2⟩ := ZhN (fun y => Zdh (Zbe s y)) v v
   have g1 : Asc (ZnC s v) := g1 i1
   have g2 : ∀ x, x ∈ ZnC s v ↔ x ∈ v ∨ ∃ y ∈ v, x ∈ Zbe s y := fun x => by
    have := g2 x
    simp only [ZbP] at this
    exact this
   have hR : ∀ x ∈ ZnC s v, x ∈ v0 ∨ ∃ y ∈ v0, Rch s y x := fun x hx => by
    rcases (g2 x).1 hx with q | ⟨y, hy, q⟩
    ·exact i3 x q
    ·rcases i3 y hy with p | ⟨z, hz, p⟩
     ·exact .inr ⟨y, p, .one q⟩
     ·exact .inr ⟨z, hz, .tl p q⟩
   have hr8 : (ZnC s v).length ≤ 8 := YU (Zdf (Zde g1) fun x hx => Zcf.1 (by
    rcases hR x hx with q | ⟨y, _, q⟩
    ·exact ((mem0 x).1 q).2
    ·exact q.isM)) hnm
   have hge : v.length ≤ (ZnC s v).length := Zdf (Zde i1) fun x hx => (g2 x).2 (.inl hx)
   have i5 := i5 rfl
   refine ⟨.nx (ZnC s v, decide ((v.length : Int) < ((ZnC s v).length : Int))), by dsimp only [ZkH, Zje, Zij, Ziz, Zi6, br, vz, ln, lxe, lc, eqL]; simp [q3], if v.length < (ZnC s v).length then 10 - (ZnC s v).length else 0, by split <;> omega, g1, fun x hx => (g2 x).2 (.inl (i2 x hx)), hR, fun hf y hy x hx => ?_, fun hf => ?_, fun hf => ?_⟩
   ·have hlt := of_decide_eq_false hf
    have hall := Zvh (Zde i1) (fun x hx => (g2 x).2 (.inl hx)) (by omega) (Zde g1)
    exact (g2 x).2 (.inr ⟨y, hall y hy, hx⟩)
   ·have := of_decide_eq_true hf
    rw [if_pos (by omega)]
    simp only
    omega
   ·have := of_decide_eq_false hf
    rw [if_neg (by omega)]) big (10 - v0.length) (v0, true) (ZaN (by omega)) ⟨a0, fun x hx => hx, fun x hx => .inl hx, fun q => (by cases q), fun _ => (by
   have := YU (Zdf (Zde a0) fun x hx => Zcf.1 ((mem0 x).1 hx).2) hnm
   simp only
   omega), fun q => (by cases q)⟩
 obtain ⟨o, e, hq⟩ := q2
 cases o with
 | inr _ => exact hq.elim
 | inl l =>
  refine ⟨l, ?_, hq⟩
  dsimp only [Za8, Zmq, Zk8, ZmF, Zm0, Zne, vz, vw, lr, lc, fz]
  simp only [q1, e, Option.bind_some, Sum.elim_inl]
section
variable {s : Scm} (h : Fw s)
include h
structure ClOk (s : Scm) (ns : List ByteArray) (l : List ByteArray) : Prop where
 a : Asc l
 m : ∀ x, x ∈ l ↔ (x ∈ ns ∧ (isM s x = true ∨ isE s x = true)) ∨ ∃ n ∈ ns, isM s n = true ∧ (x ∈ ZcK s n ∨ ∃ y, Rch s n y ∧ x ∈ ZcK s y)
end
end Go.Proofs.Ythhipejbnbochaa
namespace Go.Proofs.Ythhipejbnbochaa
set_option linter.all false
open Go Go.Eng
set_option maxRecDepth 100000 in
theorem awk : Zbn = some true := by kernel_rfl
end Go.Proofs.Ythhipejbnbochaa
