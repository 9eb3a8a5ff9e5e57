import Derived.Test.YtchkcemlglpobaaGreatCl14
import Derived.Test.YtchkcemlglpobaaGreatCl15
import Derived.Test.YtchkcemlglpobaaGreatCl17
import Derived.Test.YtchkcemlglpobaaGreatCl26
import Derived.Test.YtchkcemlglpobaaGreatCl00
namespace Go.Eng
set_option linter.all false
open Go Go.RowKit
section
variable {σ ξ ρ α β γ : Type}
def ZlE (g : β → α → β ⊕ ρ) : β → List α → β ⊕ ρ
 | b, [] => .inl b
 | b, x :: l => match g b x with
  | .inl b' => ZlE g b' l
  | .inr r => .inr r
theorem Zrr {B : σ → Option (Lv σ ξ ρ)} {N : Nat} (l : List α) (mk : Nat → β → σ) (I : Nat → β → Prop) (g : β → α → β ⊕ ρ) (e : β → ξ)
  (hs : ∀ i b x, l[i]? = some x → I i b → B (mk i b) = some (Sum.elim (fun b' => Lv.nx (mk (i + 1) b')) Lv.rt (g b x)) ∧ ∀ b', g b x = .inl b' → I (i + 1) b')
  (he : ∀ b, I l.length b → B (mk l.length b) = some (.ex (e b))) (b0 : β) (h0 : I 0 b0) (hN : l.length < N) : Zaf B N (mk 0 b0) = some (Sum.map e id (ZlE g b0 l)) := by
 suffices H : ∀ k i b N, i + k = l.length → I i b → k < N → Zaf B N (mk i b) = some (Sum.map e id (ZlE g b (l.drop i))) by
  have := H l.length 0 b0 N (by omega) h0 hN
  simpa using this
 intro k
 induction k with
 | zero =>
  intro i b N hi hI hN
  obtain ⟨N, rfl⟩ : ∃ m, N = m + 1 := ⟨N - 1, by omega⟩
  have : i = l.length := by omega
  subst this
  rw [Zaf, he b hI, Ya7]
  rfl
 | succ k ih =>
  intro i b N hi hI hN
  obtain ⟨N, rfl⟩ : ∃ m, N = m + 1 := ⟨N - 1, by omega⟩
  have hlt : i < l.length := by omega
  obtain ⟨h1, h2⟩ := hs i b l[i] (Yb hlt) hI
  rw [Zaf, h1, Y2 hlt, ZlE]
  cases hg : g b l[i] with
  | inl b' => exact ih (i + 1) b' N (by omega) (h2 b' hg) (by omega)
  | inr r => rfl
theorem ZeP {B : Nat → Option (Lv Nat ξ ρ)} {N : Nat} (l : List α) (p : α → Bool) (f : Nat → ρ) (e : ξ)
  (hs : ∀ i x, l[i]? = some x → B i = some (if p x = true then .rt (f i) else .nx (i + 1))) (he : B l.length = some (.ex e)) (hN : l.length < N) :
  Zaf B N 0 = some (match l.findIdx? p with | some i => .inr (f i) | none => .inl e) := by
 suffices H : ∀ k i N, i + k = l.length → k < N → Zaf B N i = some (match (l.drop i).findIdx? p with | some j => .inr (f (i + j)) | none => .inl e) by
  have := H l.length 0 N (by omega) hN
  simpa using this
 intro k
 induction k with
 | zero =>
  intro i N hi hN
  obtain ⟨N, rfl⟩ : ∃ m, N = m + 1 := ⟨N - 1, by omega⟩
  have : i = l.length := by omega
  subst this
  rw [Zaf, he, Ya7]
  rfl
 | succ k ih =>
  intro i N hi hN
  obtain ⟨N, rfl⟩ : ∃ m, N = m + 1 := ⟨N - 1, by omega⟩
  have hlt : i < l.length := by omega
  rw [Zaf, hs i l[i] (Yb hlt), Y2 hlt, List.findIdx?_cons]
  cases hp : p l[i] with
  | true => simp
  | false =>
   simp only [YN, if_false]
   rw [ih (i + 1) N (by omega) (by omega)]
   cases (List.drop (i + 1) l).findIdx? p with
   | none => rfl
   | some j => simp [Yp, Ya6 1 j]
def ZgL (R : List α → α → Option ρ) : List α → List α → Option ρ
 | _, [] => none
 | p, x :: l => match R p x with
  | some r => some r
  | none => ZgL R (p ++ [x]) l
theorem Ztl {B : σ → Option (Lv σ ξ ρ)} {N : Nat} (l : List α) (S : List α → β) (R : List α → α → Option ρ) (mk : Nat → β → σ) (e : β → ξ)
  (hs : ∀ i x, l[i]? = some x → B (mk i (S (l.take i))) = some (match R (l.take i) x with | some r => .rt r | none => .nx (mk (i + 1) (S (l.take i ++ [x])))))
  (he : B (mk l.length (S l)) = some (.ex (e (S l)))) (hN : l.length < N) : Zaf B N (mk 0 (S [])) = some ((ZgL R [] l).elim (.inl (e (S l))) .inr) := by
 suffices H : ∀ k i N, i + k = l.length → k < N → Zaf B N (mk i (S (l.take i))) = some ((ZgL R (l.take i) (l.drop i)).elim (.inl (e (S l))) .inr) by
  have := H l.length 0 N (by omega) hN
  grind
 intro k
 induction k with
 | zero =>
  intro i N hi hN
  obtain ⟨N, rfl⟩ : ∃ m, N = m + 1 := ⟨N - 1, by omega⟩
  have : i = l.length := by omega
  subst this
  rw [Zaf, YaH, he, Ya7]
  rfl
 | succ k ih =>
  intro i N hi hN
  obtain ⟨N, rfl⟩ : ∃ m, N = m + 1 := ⟨N - 1, by omega⟩
  have hlt : i < l.length := by omega
  rw [Zaf, hs i l[i] (Yb hlt), Y2 hlt, ZgL]
  cases R (l.take i) l[i] with
  | some r => rfl
  | none =>
   have := ih (i + 1) N (by omega) (by omega)
   rw [Y0 hlt] at this
   exact this
theorem ZfO {R : List α → α → Option ρ} (h : ∀ p x, R p x = none) : ∀ (l p : List α), ZgL R p l = none
 | [], p => rfl
 | x :: l, p => by rw [ZgL, h]; exact ZfO h l _
theorem Zja {B : σ → Option (Lv σ ξ ρ)} {N : Nat} (l : List α) (S : List α → β) (mk : Nat → β → σ) (e : β → ξ)
  (hs : ∀ i x, l[i]? = some x → B (mk i (S (l.take i))) = some (.nx (mk (i + 1) (S (l.take i ++ [x])))))
  (he : B (mk l.length (S l)) = some (.ex (e (S l)))) (hN : l.length < N) : Zaf B N (mk 0 (S [])) = some (.inl (e (S l))) := by
 rw [Ztl l S (fun _ _ => none) mk e hs he hN, ZfO fun _ _ => rfl]
 rfl
theorem ZdH {B : σ → Option (Lv σ ξ ρ)} (I : Nat → σ → Prop) (Q : ξ ⊕ ρ → Prop)
  (h : ∀ k v, I k v → ∃ o, B v = some o ∧ match o with | .nx v' => ∃ k', k' < k ∧ I k' v' | .ex b => Q (.inl b) | .rt y => Q (.inr y)) :
  ∀ N k v, k < N → I k v → ∃ o, Zaf B N v = some o ∧ Q o
 | 0, k, v, hk, _ => absurd hk (Yah _)
 | N + 1, k, v, hk, hI => by
  obtain ⟨o, h1, h2⟩ := h k v hI
  rw [Zaf, h1]
  cases o with
  | nx v' => obtain ⟨k', h3, h4⟩ := h2; exact ZdH I Q h N k' v' (by omega) h4
  | ex b => exact ⟨_, rfl, h2⟩
  | rt y => exact ⟨_, rfl, h2⟩
theorem ZhT {l : List α} {i : Nat} {x : α} (h : l[i]? = some x) : (i : Int) < (l.length : Int) := by
 grind
theorem Zdt {n : Nat} (h : n < 4611686018427387904) : n < big := h
end
end Go.Eng
namespace Go.Eng
set_option linter.all false
open Go
section
variable {σ ξ ρ β γ : Type}
def Zia (M : Option (List β)) (Q : β → Prop) : Prop := ∃ ys, M = some ys ∧ ys ≠ [] ∧ ∀ y ∈ ys, Q y
theorem Zia.imp {M : Option (List β)} {Q R : β → Prop} (h : Zia M Q) (k : ∀ y, Q y → R y) : Zia M R := by
 obtain ⟨ys, a, b, c⟩ := h
 exact ⟨ys, a, b, fun y hy => k y (c y hy)⟩
theorem ZeO {y : β} {Q : β → Prop} (h : Q y) : Zia (some [y]) Q := ⟨[y], rfl, by simp, fun z hz => by rw [Y3.1 hz]; exact h⟩
theorem ZfS {Q : β → Prop} : ∀ {l : List (Option (List β))}, l ≠ [] → (∀ x ∈ l, Zia x Q) → Zia (ZgE l) Q
 | [], h, _ => absurd rfl h
 | x :: r, _, h => by
  obtain ⟨ys, rfl, b, c⟩ := h _ (Yw ..)
  by_cases hr : r = []
  ·subst hr
   exact ⟨ys ++ [], rfl, by simpa using b, fun y hy => c y (by simpa using hy)⟩
  ·obtain ⟨zs, a', b', c'⟩ := ZfS hr fun x hx => h x (Yq _ hx)
   refine ⟨ys ++ zs, by rw [ZgE, a'], by simp [b], fun y hy => ?_⟩
   rcases Yai.1 hy with hy | hy
   ·exact c y hy
   ·exact c' y hy
theorem Zjg {M : Option (List γ)} {k : γ → Option (List β)} {Q : γ → Prop} {R : β → Prop} (h : Zia M Q) (hk : ∀ z, Q z → Zia (k z) R) : Zia (Zoa M k) R := by
 obtain ⟨ys, rfl, b, c⟩ := h
 show Zia (ZgE (ys.map k)) R
 refine ZfS (by simpa using b) fun x hx => ?_
 obtain ⟨y, hy, rfl⟩ := Yy.1 hx
 exact hk y (c y hy)
theorem Zxt {os : Nat} {V : Type} [Mv V] {xs : List (ByteArray × V)} {k0 : PT os (List β)} {k1 : ByteArray × V → List (ByteArray × V) → PT os (List β)} {Q : β → Prop}
  (h0 : xs = [] → Zia k0.m Q) (h1 : ∀ i x, xs[i]? = some x → Zia (k1 x (xs.eraseIdx i)).m Q) : Zia (nxN xs k0 k1).m Q := by
 cases xs with
 | nil => exact h0 rfl
 | cons a r =>
  show Zia (ZgE _) Q
  refine ZfS (by simp) fun x hx => ?_
  obtain ⟨i, hi, rfl⟩ := Yy.1 hx
  have hi := Yat.1 hi
  have e : (a :: r)[i]? = some ((a :: r)[i]) := Yb hi
  have e2 : (a :: r).getD i (⟨#[]⟩, Mv.z) = (a :: r)[i] := by rw [Yt, e]; rfl
  rw [e2]
  exact h1 i _ e
theorem Zi7 {B : σ → Option (List (Lv σ ξ ρ))} (I : Nat → σ → Prop) (Q : ξ ⊕ ρ → Prop)
  (h : ∀ k v, I k v → Zia (B v) fun o => match o with | .nx v' => ∃ k', k' < k ∧ I k' v' | .ex b => Q (.inl b) | .rt y => Q (.inr y)) :
  ∀ N k v, k < N → I k v → Zia (ZiX B N v) Q
 | 0, k, v, hk, _ => absurd hk (Yah _)
 | N + 1, k, v, hk, hI => by
  rw [ZiX]
  refine Zjg (h k v hI) fun o ho => ?_
  cases o with
  | nx v' => obtain ⟨k', h3, h4⟩ := ho; exact Zi7 I Q h N k' v' (by omega) h4
  | ex b => exact ZeO ho
  | rt y => exact ZeO ho
theorem Zqb [DecidableEq β] {M : Option (List β)} {y : β} (h : Zia M fun z => z = y) : ZC0 M = some y := by
 obtain ⟨ys, a, b, c⟩ := h
 exact Zya a b c
end
section
variable {V : Type}
def ZdV (r : List (ByteArray × V)) : List ByteArray := r.map (·.1)
theorem Zfw (x y : ByteArray) (v : V) : ∀ r : List (ByteArray × V), ZgX y (Zfh x v r) = if x = y then some v else ZgX y r
 | [] => by
  unfold Zfh ZgX
  by_cases h : x = y <;> simp [h, ZgX]
 | p :: r => by
  unfold Zfh
  by_cases h : p.1 = x
  ·rw [show decide (p.1 = x) = true from decide_eq_true h]
   show ZgX y ((x, v) :: r) = _
   unfold ZgX
   by_cases h2 : x = y
   ·simp [h2]
   ·simp [h2, show ¬ p.1 = y from fun h3 => h2 (h.symm.trans h3)]
  ·rw [show decide (p.1 = x) = false from decide_eq_false h]
   show ZgX y (p :: Zfh x v r) = _
   unfold ZgX
   rw [Zfw x y v r]
   by_cases h2 : p.1 = y
   ·simp [h2, show ¬ x = y from fun h3 => h (h2.trans h3.symm)]
   ·simp [h2]
theorem ZjF (x : ByteArray) (v : V) : ∀ r : List (ByteArray × V), (x ∈ ZdV r ∧ ZdV (Zfh x v r) = ZdV r) ∨ (x ∉ ZdV r ∧ ZdV (Zfh x v r) = ZdV r ++ [x])
 | [] => .inr ⟨by simp [ZdV], rfl⟩
 | p :: r => by
  have ih := ZjF x v r
  unfold Zfh
  by_cases h : p.1 = x
  ·rw [show decide (p.1 = x) = true from decide_eq_true h]
   exact .inl ⟨by unfold ZdV; simp [h], by unfold ZdV; simp [h]⟩
  ·rw [show decide (p.1 = x) = false from decide_eq_false h]
   have h2 : ¬ x = p.1 := fun e => h e.symm
   show (x ∈ p.1 :: ZdV r ∧ p.1 :: ZdV (Zfh x v r) = p.1 :: ZdV r) ∨ (x ∉ p.1 :: ZdV r ∧ p.1 :: ZdV (Zfh x v r) = p.1 :: ZdV r ++ [x])
   rcases ih with ⟨h3, h4⟩ | ⟨h3, h4⟩
   ·exact .inl ⟨Yq _ h3, by rw [h4]⟩
   ·exact .inr ⟨fun hm => (Ys.1 hm).elim h2 h3, by rw [h4]; rfl⟩
theorem ZBA (x : ByteArray) (v : V) {r : List (ByteArray × V)} (h : (ZdV r).Nodup) : (ZdV (Zfh x v r)).Nodup := by
 rcases ZjF x v r with ⟨_, e⟩ | ⟨hx, e⟩
 ·rw [e]; exact h
 ·rw [e, List.nodup_append]
  exact ⟨h, by simp, fun a ha b hb => by simp at hb; subst hb; exact fun e => hx (e ▸ ha)⟩
theorem ZoI (x : ByteArray) : ∀ r : List (ByteArray × V), x ∈ ZdV r ↔ (ZgX x r).isSome = true
 | [] => by simp [ZdV, ZgX]
 | p :: r => by
  have ih := ZoI x r
  unfold ZgX
  by_cases h : p.1 = x
  ·simp [ZdV, h]
  ·have h2 : ¬ x = p.1 := fun e => h e.symm
   simp only [h, decide_false, ZdV, YE, Ys, h2, false_or]
   exact ih
theorem Zyc (x : ByteArray) (v : V) (r : List (ByteArray × V)) : (Zfh x v r).length ≤ r.length + 1 := by
 have e : ∀ r : List (ByteArray × V), r.length = (ZdV r).length := fun r => (Yu _).symm
 rw [e, e r]
 rcases ZjF x v r with ⟨_, e⟩ | ⟨_, e⟩ <;> rw [e] <;> simp
end
def Zri (s : Scm) (n : ByteArray) : Option Msg := s.messages.find? fun m => decide (m.name = n)
def isM (s : Scm) (n : ByteArray) : Bool := (Zri s n).isSome
def isE (s : Scm) (n : ByteArray) : Bool := s.enums.any fun e => decide (e.name = n)
def Zdl (s : Scm) (n : ByteArray) : List Fld := ((Zri s n).map Msg.fields).getD []
def toF (s : Scm) (f : Fld) : Bool := isM s f.type.name && decide (f.type.kind = 10)
def ZDV (s : Scm) (n : ByteArray) : List ByteArray := ((Zdl s n).filter (toF s)).map fun f => f.type.name
structure Fw (s : Scm) : Prop where
 m : s.messages.length ≤ 900
 e : s.enums.length ≤ 900
 f : ∀ m ∈ s.messages, m.fields.length ≤ 1048576
theorem Fw.fl {s : Scm} (h : Fw s) (n : ByteArray) : (Zdl s n).length ≤ 1048576 := by
 unfold Zdl
 cases hm : Zri s n with
 | none => simp
 | some m => exact h.f m (Ya2 hm)
theorem Fw.nl {s : Scm} (h : Fw s) (n : ByteArray) : (ZDV s n).length ≤ 1048576 := by
 unfold ZDV
 rw [Yu]
 exact Y9 (Ybl _ _) (h.fl n)
def nmM (s : Scm) : List ByteArray := s.messages.map Msg.name
theorem ZxC {s : Scm} {n : ByteArray} : isM s n = true ↔ n ∈ nmM s := by
 unfold isM Zri nmM
 rw [List.find?_isSome]
 simp [Yy]
structure WOk (s : Scm) (w : Web) : Prop where
 m : ∀ n, ZgX n w.messages = Zri s n
 e : ∀ n, lkM n w.enums = isE s n
 nd : (ZdV w.messages).Nodup
 l : w.messages.length ≤ s.messages.length
theorem WOk.im {s : Scm} {w : Web} (h : WOk s w) (n : ByteArray) : inM n w.messages = isM s n := by unfold inM isM; rw [h.m]
theorem WOk.fl {s : Scm} {w : Web} (h : WOk s w) (n : ByteArray) : (lkM n w.messages).fields = Zdl s n := by
 unfold lkM Zdl
 rw [h.m]
 cases Zri s n <;> rfl
theorem WOk.key {s : Scm} {w : Web} (h : WOk s w) (n : ByteArray) : n ∈ ZdV w.messages ↔ isM s n = true := by rw [ZoI, h.m]; rfl
end Go.Eng
namespace Go.Proofs.YtchkcemlglpobaaGreat
set_option linter.all false
open Go Go.Eng
def Ok {α : Type} (Q : α → Prop) (o : Option α) : Prop := ∃ y, o = some y ∧ Q y
section
variable {α β γ σ ξ ρ : Type} {Q : β → Prop} {P : α → Prop}
theorem Ok.pure {y : β} (h : Q y) : Ok Q (some y) := ⟨y, rfl, h⟩
theorem Ok.bind {m : Option α} {k : α → Option β} (h : Ok P m) (hk : ∀ y, P y → Ok Q (k y)) : Ok Q (m.bind k) := by
 obtain ⟨y, rfl, h⟩ := h
 exact hk y h
theorem Ok.idx {xs : List α} {i : Nat} {k : α → Option β} (h : i < xs.length) (hk : ∀ x, xs[i]? = some x → x ∈ xs → Ok Q (k x)) : Ok Q (xs[i]?.bind k) := by
 rw [Yb h]
 exact hk _ (Yb h) (Yan h)
theorem Ok.ite {c : Prop} {d : Decidable c} {a b : Option β} (h : c → Ok Q a) (h' : ¬c → Ok Q b) : Ok Q (if c then a else b) := by
 split
 ·exact h ‹_›
 ·exact h' ‹_›
theorem Ok.br {b : Bool} {x y : Option β} (h : b = true → Ok Q x) (h' : b = false → Ok Q y) : Ok Q (if b = true then x else y) := by
 cases b
 ·exact h' rfl
 ·exact h rfl
theorem Ok.if {c : Prop} {d : Decidable c} {a : Option β} (hc : c) (h : Ok Q a) : Ok Q (if c then a else none) := by
 rw [if_pos hc]
 exact h
theorem Ok.ss {lo hi : Bd} {n : Nat} {a : Option β} (hc : lo.c ∧ hi.c ∧ lo.vl 0 ≤ hi.vl n ∧ hi.vl n ≤ n) (h : Ok Q a) : Ok Q (if lo.c ∧ hi.c ∧ lo.vl 0 ≤ hi.vl n ∧ hi.vl n ≤ n then a else none) := by
 rw [if_pos hc]
 exact h
theorem Ok.clg {b : Bool} {m : Option α} {x : Option β} (h : b = true → Ok P m) [Inhabited α] (hk : (b = true → P (m.getD default)) → Ok Q x) : Ok Q (if (b = true → m.isSome = true) then x else none) := by
 rw [if_pos fun e => by obtain ⟨y, h, _⟩ := h e; rw [h]; rfl]
 refine hk fun e => ?_
 obtain ⟨y, h1, h2⟩ := h e
 rw [h1]
 exact h2
theorem Ok.idxg {b : Bool} {xs : List α} {i : Int} {x : Option β} [Rw α] (h : b = true → 0 ≤ i ∧ i < xs.length) (hk : (b = true → xs[i.toNat]? = some (xs.getD i.toNat Rw.z) ∧ xs.getD i.toNat Rw.z ∈ xs) → Ok Q x) : Ok Q (if (b = true → 0 ≤ i ∧ i < xs.length) then x else none) := by
 rw [if_pos h]
 refine hk fun e => ?_
 have h1 := h e
 have h2 : i.toNat < xs.length := by omega
 rw [Yt, Yb h2]
 exact ⟨rfl, Yan h2⟩
theorem Ok.loop {B : σ → Option (Lv σ ξ ρ)} {N : Nat} {v : σ} (I : σ → Prop) (μ : σ → Nat) {A : ξ → Prop} {R : ρ → Prop} (h0 : I v) (hN : μ v < N)
  (hs : ∀ v, I v → Ok (fun o => match o with | .nx v' => I v' ∧ μ v' < μ v | .ex b => A b | .rt y => R y) (B v)) : Ok (Sum.elim A R) (Zaf B N v) :=
 ZdH (fun k v => I v ∧ μ v ≤ k) (Sum.elim A R) (fun k v h => by
  obtain ⟨o, h1, h2⟩ := hs v h.1
  refine ⟨o, h1, ?_⟩
  cases o with
  | nx v' => exact ⟨μ v', by have := h2.2; have := h.2; omega, h2.1, Yd _⟩
  | ex b => exact h2
  | rt y => exact h2) N (μ v) v hN ⟨h0, Yd _⟩
theorem Ok.lb {m : Option (ξ ⊕ ρ)} {A : ξ → Prop} {R : ρ → Prop} {f : ξ → Option β} {g : ρ → Option β} (h : Ok (Sum.elim A R) m) (hx : ∀ b, A b → Ok Q (f b)) (hr : ∀ r, R r → Ok Q (g r)) : Ok Q (m.bind (Sum.elim f g)) := by
 obtain ⟨y, rfl, h⟩ := h
 cases y with
 | inl b => exact hx b h
 | inr r => exact hr r h
theorem Ok.mono {Q' : β → Prop} {o : Option β} (h : Ok Q o) (k : ∀ y, Q y → Q' y) : Ok Q' o := by
 obtain ⟨y, h1, h2⟩ := h
 exact ⟨y, h1, k y h2⟩
theorem Ok.some {o : Option β} (h : Ok Q o) : o.isSome = true := by
 obtain ⟨y, h1, h2⟩ := h
 rw [h1]
 rfl
end
abbrev Tr {α : Type} : α → Prop := fun _ => True
abbrev No {α : Type} : α → Prop := fun _ => False
abbrev Ts {α β : Type} : α ⊕ β → Prop := Sum.elim Tr Tr
theorem sz0 : (⟨#[]⟩ : ByteArray).size = 0 := rfl
theorem ZG8 (x : Int) : Ok Tr (Zcb x) := ⟨_, rfl, trivial⟩
theorem ZHo (x : Int) : Ok Tr (Zb6 x) := ⟨_, rfl, trivial⟩
theorem ZKe (x : Val) : Ok Tr (Zch x) := ⟨_, rfl, trivial⟩
theorem ZKn (x : Int) : Ok Tr (Zce x) := ⟨_, rfl, trivial⟩
theorem ZKr (x : Int) : Ok Tr (Zbq x) := by
 dsimp only [Zbq, ZmE, br, lr, br, rem]
 (repeat' (first | with_reducible refine Ok.br (fun _ => ?_) (fun _ => ?_) | with_reducible refine Ok.pure ?_ | with_reducible refine Ok.if ?_ ?_)) <;> (first | trivial | assumption | contradiction | omega | solve_by_elim | (simp only [Bool.and_eq_true, Bool.or_eq_true, Bool.not_eq_true', Bool.and_eq_false_iff, Bool.or_eq_false_iff, decide_eq_true_eq, decide_eq_false_iff_not] at *; omega) | grind)
theorem ZHG (x : ByteArray) : Ok Tr (ZbM x) := by
 dsimp only [ZbM, Zq7, ZeG, ZdY, Zcw, br, lr, br]
 (repeat' (first | with_reducible refine Ok.br (fun _ => ?_) (fun _ => ?_) | with_reducible refine Ok.pure ?_ | with_reducible refine Ok.if ?_ ?_)) <;> (first | trivial | assumption | contradiction | omega | solve_by_elim | (simp only [Bool.and_eq_true, Bool.or_eq_true, Bool.not_eq_true', Bool.and_eq_false_iff, Bool.or_eq_false_iff, decide_eq_true_eq, decide_eq_false_iff_not] at *; omega) | grind)
theorem ZLY (x : ByteArray) (n : Int) : Ok Tr (ZbP x n) := by
 dsimp only [ZbP, Zph, ZfT, ZeM, ZcX, Zcu, Zct, Zcf, br, lr, br]
 (repeat' (first | with_reducible refine Ok.br (fun _ => ?_) (fun _ => ?_) | with_reducible refine Ok.pure ?_ | with_reducible refine Ok.if ?_ ?_)) <;> (first | trivial | assumption | contradiction | omega | solve_by_elim | (simp only [Bool.and_eq_true, Bool.or_eq_true, Bool.not_eq_true', Bool.and_eq_false_iff, Bool.or_eq_false_iff, decide_eq_true_eq, decide_eq_false_iff_not] at *; omega) | grind)
theorem ZI0 (x : ByteArray) : Ok Tr (Zbl x) := by
 dsimp only [Zbl, Zq6, br, lr, br]
 (repeat' (first | with_reducible refine Ok.br (fun _ => ?_) (fun _ => ?_) | with_reducible refine Ok.pure ?_ | with_reducible refine Ok.if ?_ ?_)) <;> (first | trivial | assumption | contradiction | omega | solve_by_elim | (simp only [Bool.and_eq_true, Bool.or_eq_true, Bool.not_eq_true', Bool.and_eq_false_iff, Bool.or_eq_false_iff, decide_eq_true_eq, decide_eq_false_iff_not] at *; omega) | grind)
theorem o91 (x : Fld) : Ok Tr (ZbE x) := by
 dsimp only [ZbE, Zna, br, vw, lr, br]
 (repeat' (first | with_reducible refine Ok.br (fun _ => ?_) (fun _ => ?_) | with_reducible refine Ok.pure ?_ | with_reducible refine Ok.if ?_ ?_)) <;> (first | trivial | assumption | contradiction | omega | solve_by_elim | (simp only [Bool.and_eq_true, Bool.or_eq_true, Bool.not_eq_true', Bool.and_eq_false_iff, Bool.or_eq_false_iff, decide_eq_true_eq, decide_eq_false_iff_not] at *; omega) | grind)
theorem o83 (x : Int) : Ok Tr (Zbb x) := by
 dsimp only [Zbb, ZkA, lr]
 (repeat' (first | with_reducible refine Ok.br (fun _ => ?_) (fun _ => ?_) | with_reducible refine Ok.pure ?_ | with_reducible refine Ok.if ?_ ?_)) <;> (first | trivial | assumption | contradiction | omega | solve_by_elim | (simp only [Bool.and_eq_true, Bool.or_eq_true, Bool.not_eq_true', Bool.and_eq_false_iff, Bool.or_eq_false_iff, decide_eq_true_eq, decide_eq_false_iff_not] at *; omega) | grind)
theorem ZIL (x : ByteArray) (i a b : Int) (h : 0 ≤ i) : Ok Tr (Za4 x i a b) := by
 dsimp only [Za4, Zot, vz, lr, eqN, ibg]
 (repeat' (first | with_reducible refine Ok.br (fun _ => ?_) (fun _ => ?_) | with_reducible refine Ok.pure ?_ | with_reducible refine Ok.if ?_ ?_)) <;> (first | trivial | assumption | contradiction | omega | solve_by_elim | (simp only [Bool.and_eq_true, Bool.or_eq_true, Bool.not_eq_true', Bool.and_eq_false_iff, Bool.or_eq_false_iff, decide_eq_true_eq, decide_eq_false_iff_not] at *; omega) | grind)
theorem ZLz (x : ByteArray) (i n : Int) (h : 0 ≤ i) (h2 : i ≤ 2097152) (h3 : n ≤ 9) : Ok Tr (ZbJ x i n) := by
 have q : Ok Ts (Zaf (ZkZ x i n) big 0) := by
  refine Ok.loop (fun _ : Nat => True) (fun v : Nat => (n - v).toNat) trivial ?_ fun v _ => ?_
  ·unfold big
   omega
  dsimp only [ZkZ, ZmJ, br, vs, lrt, ln, lxe, cl, wa, wi, br]
  (repeat' (first | with_reducible refine Ok.br (fun _ => ?_) (fun _ => ?_) | with_reducible refine Ok.pure ?_ | (with_reducible apply Ok.bind; (exact ZIL _ _ _ _ (by omega)); intro _ _) | with_reducible refine Ok.if ?_ ?_)) <;> (first | trivial | assumption | contradiction | omega | solve_by_elim | (simp only [Bool.and_eq_true, Bool.or_eq_true, Bool.not_eq_true', Bool.and_eq_false_iff, Bool.or_eq_false_iff, decide_eq_true_eq, decide_eq_false_iff_not] at *; omega) | grind)
 dsimp only [ZbJ, Zon, Zou, Zm1, lr, lc]
 (repeat' (first | with_reducible refine Ok.br (fun _ => ?_) (fun _ => ?_) | with_reducible refine Ok.pure ?_ | (with_reducible apply Ok.lb; (exact q); all_goals (intro _ _; try dsimp only)) | with_reducible refine Ok.if ?_ ?_)) <;> (first | trivial | assumption | contradiction | omega | solve_by_elim | (simp only [Bool.and_eq_true, Bool.or_eq_true, Bool.not_eq_true', Bool.and_eq_false_iff, Bool.or_eq_false_iff, decide_eq_true_eq, decide_eq_false_iff_not] at *; omega) | grind)
set_option maxRecDepth 20000 in
theorem ZLR (x : ByteArray) (i : Int) (h : 0 ≤ i) (h1 : i < x.size) (h2 : x.size ≤ 1048576) : Ok (fun y => 0 ≤ y ∧ y ≤ 4) (ZbN x i) := by
 dsimp only [ZbN, ZoJ, br, vg, lr, clg, wi, br, ibi]
 (repeat' (first | with_reducible refine Ok.br (fun _ => ?_) (fun _ => ?_) | with_reducible refine Ok.pure ?_ | with_reducible refine Ok.idx ?_ (fun _ _ _ => ?_) | (with_reducible apply Ok.bind; (exact ZIL _ _ _ _ (by omega)); intro _ _) | (with_reducible apply Ok.bind; (exact ZLz _ _ _ (by omega) (by omega) (by omega)); intro _ _) | (with_reducible apply Ok.clg; (exact fun _ => ZIL _ _ _ _ (by omega)); intro _) | (with_reducible apply Ok.clg; (exact fun _ => ZLz _ _ _ (by omega) (by omega) (by omega)); intro _) | with_reducible refine Ok.if ?_ ?_)) <;> (first | trivial | assumption | contradiction | omega | solve_by_elim | (simp only [Bool.and_eq_true, Bool.or_eq_true, Bool.not_eq_true', Bool.and_eq_false_iff, Bool.or_eq_false_iff, decide_eq_true_eq, decide_eq_false_iff_not] at *; omega) | grind)
structure SzV (v : Val) : Prop where
 t : v.text.size ≤ 1048576
 l : v.list.length ≤ 1048576
 p : v.pairs.length ≤ 1048576
 s : v.slots.length ≤ 1048576
 r : v.raws.length ≤ 1048576
structure SzN (x : Nt) : Prop where
 n : x.name.size ≤ 1048576
 v : SzV x.val
abbrev ZrJ (l : List Nt) : Prop := l.length ≤ 1048576 ∧ ∀ x ∈ l, SzN x
structure SzF (x : Fld) : Prop where
 n : x.name.size ≤ 1048576
 t : x.type.name.size ≤ 1048576
 u : x.union.size ≤ 1048576
 d : SzV x.dflt
 o : ZrJ x.notes
structure SzM (x : Msg) : Prop where
 n : x.name.size ≤ 1048576
 fl : x.fields.length ≤ 1048576
 f : ∀ y ∈ x.fields, SzF y
 r : x.reserved.length ≤ 1048576
 gl : x.gone.length ≤ 1048576
 g : ∀ y ∈ x.gone, y.size ≤ 1048576
 o : ZrJ x.notes
structure SzI (x : Itm) : Prop where
 n : x.name.size ≤ 1048576
 o : ZrJ x.notes
structure SzE (x : Enm) : Prop where
 n : x.name.size ≤ 1048576
 il : x.items.length ≤ 1048576
 i : ∀ y ∈ x.items, SzI y
 r : x.reserved.length ≤ 1048576
 o : ZrJ x.notes
structure SzT (x : Mth) : Prop where
 n : x.name.size ≤ 1048576
 o : ZrJ x.notes
structure SzW (x : Svc) : Prop where
 n : x.name.size ≤ 1048576
 ml : x.methods.length ≤ 1048576
 m : ∀ y ∈ x.methods, SzT y
 o : ZrJ x.notes
structure SzS (x : Scm) : Prop where
 ml : x.messages.length ≤ 1048576
 m : ∀ y ∈ x.messages, SzM y
 el : x.enums.length ≤ 1048576
 e : ∀ y ∈ x.enums, SzE y
 wl : x.services.length ≤ 1048576
 w : ∀ y ∈ x.services, SzW y
theorem szV {v : Val} (h : bkL (Zay v) ≤ 1048576) : SzV v := by
 have h1 := ZcH (e := Zb7) v.list
 have h2 := ZcH (e := rPr) v.pairs
 have h3 := ZcH (e := Zar) v.slots
 have h4 := ZcH (e := Zcg) v.raws
 simp only [Zay, bkL, bk] at h
 constructor <;> omega
theorem szN {x : Nt} (h : bkL (eNt x) ≤ 1048576) : SzN x := by
 have e : bkL (eNt x) = x.name.size + bkL (Zay x.val) := by simp only [eNt, Zay, bkL, bk]
 exact ⟨by omega, szV (by omega)⟩
theorem ZBo {l : List Nt} (h : Zjw (l.map eNt) ≤ 1048576) : ZrJ l := ⟨by have := ZcH (e := eNt) l; omega, fun x hx => szN (by have := ZcR (e := eNt) hx; omega)⟩
theorem szF {x : Fld} (h : bkL (ZaH x) ≤ 1048576) : SzF x := by
 have e : bkL (ZaH x) = x.name.size + x.type.name.size + x.union.size + bkL (Zay x.dflt) + Zjw (x.notes.map eNt) := by
  simp only [ZaH, Zay, bkL, bk]
  omega
 exact ⟨by omega, by omega, by omega, szV (by omega), ZBo (by omega)⟩
theorem szM {x : Msg} (h : bkL (ZbG x) ≤ 1048576) : SzM x := by
 simp only [ZbG, bkL, bk] at h
 have h1 := ZcH (e := ZaH) x.fields
 have h2 := ZcH (e := Zdu) x.reserved
 have h3 := ZcH (e := ZaX) x.gone
 exact ⟨by omega, by omega, fun y hy => szF (by have := ZcR (e := ZaH) hy; omega), by omega, by omega, fun y hy => by have := ZcR (e := ZaX) hy; simp only [ZaX, bkL, bk] at this; omega, ZBo (by omega)⟩
theorem szI {x : Itm} (h : bkL (ZrF x) ≤ 1048576) : SzI x := by
 simp only [ZrF, bkL, bk] at h
 exact ⟨by omega, ZBo (by omega)⟩
theorem szE {x : Enm} (h : bkL (Zca x) ≤ 1048576) : SzE x := by
 simp only [Zca, bkL, bk] at h
 have h1 := ZcH (e := ZrF) x.items
 have h2 := ZcH (e := Zdu) x.reserved
 exact ⟨by omega, by omega, fun y hy => szI (by have := ZcR (e := ZrF) hy; omega), by omega, ZBo (by omega)⟩
theorem szT {x : Mth} (h : bkL (ZrN x) ≤ 1048576) : SzT x := by
 simp only [ZrN, bkL, bk] at h
 exact ⟨by omega, ZBo (by omega)⟩
theorem szW {x : Svc} (h : bkL (ZcU x) ≤ 1048576) : SzW x := by
 simp only [ZcU, bkL, bk] at h
 have h1 := ZcH (e := ZrN) x.methods
 exact ⟨by omega, by omega, fun y hy => szT (by have := ZcR (e := ZrN) hy; omega), ZBo (by omega)⟩
theorem szS {x : Scm} (h : bkL (Zb4 x) ≤ 1048576) : SzS x := by
 simp only [Zb4, bkL, bk] at h
 have h1 := ZcH (e := ZbG) x.messages
 have h2 := ZcH (e := Zca) x.enums
 have h3 := ZcH (e := ZcU) x.services
 exact ⟨by omega, fun y hy => szM (by have := ZcR (e := ZbG) hy; omega), by omega, fun y hy => szE (by have := ZcR (e := Zca) hy; omega), by omega, fun y hy => szW (by have := ZcR (e := ZcU) hy; omega)⟩
theorem Zj9 (x : ByteArray) : x.data.toList.length = x.size := by rw [YQ]; rfl
theorem Zat {n : Nat} (h : n ≤ 2097152) : n < big := by unfold big; omega
theorem ZMo (x : ByteArray) (h : x.size ≤ 1048576) : Ok Tr (ZbV x) := by
 have q : Ok Ts (Zaf (ZkR x) big 0) := by
  refine Ok.loop (fun v : Int => 0 ≤ v ∧ v ≤ x.size + 4) (fun v : Int => (x.size + 4 - v).toNat) ⟨by omega, by omega⟩ (Zat (by omega)) fun v hv => ?_
  dsimp only [ZkR, ZqT, br, vz, vs, lrt, ln, lxe, cl, wi, eqN, br]
  (repeat' (first | with_reducible refine Ok.br (fun _ => ?_) (fun _ => ?_) | with_reducible refine Ok.pure ?_ | (with_reducible apply Ok.bind; (exact ZLR _ _ hv.1 (by (first | trivial | assumption | contradiction | omega | solve_by_elim | (simp only [Bool.and_eq_true, Bool.or_eq_true, Bool.not_eq_true', Bool.and_eq_false_iff, Bool.or_eq_false_iff, decide_eq_true_eq, decide_eq_false_iff_not] at *; omega) | grind)) h); intro _ _) | with_reducible refine Ok.if ?_ ?_)) <;> (first | trivial | assumption | contradiction | omega | grind | (simp only [Bd.c, Bd.vl, ByteArray.size_append, ByteArray.size_extract, sz0] at *; grind))
 dsimp only [ZbV, Zrz, ZmG, ZnM, lr, lc]
 (repeat' (first | with_reducible refine Ok.br (fun _ => ?_) (fun _ => ?_) | with_reducible refine Ok.pure ?_ | (with_reducible apply Ok.lb; (exact q); all_goals (intro _ _; try dsimp only)) | with_reducible refine Ok.if ?_ ?_)) <;> (first | trivial | assumption | contradiction | omega | solve_by_elim | (simp only [Bool.and_eq_true, Bool.or_eq_true, Bool.not_eq_true', Bool.and_eq_false_iff, Bool.or_eq_false_iff, decide_eq_true_eq, decide_eq_false_iff_not] at *; omega) | grind)
theorem o97 (x : ByteArray) (h : x.size ≤ 1048576) : Ok Tr (Zbu x) := by
 dsimp only [Zbu, ZqI, lr, cl]
 (repeat' (first | with_reducible refine Ok.br (fun _ => ?_) (fun _ => ?_) | with_reducible refine Ok.pure ?_ | (with_reducible apply Ok.bind; (exact ZMo _ h); intro _ _) | with_reducible refine Ok.if ?_ ?_)) <;> (first | trivial | assumption | contradiction | omega | solve_by_elim | (simp only [Bool.and_eq_true, Bool.or_eq_true, Bool.not_eq_true', Bool.and_eq_false_iff, Bool.or_eq_false_iff, decide_eq_true_eq, decide_eq_false_iff_not] at *; omega) | grind)
theorem ZGy (x : ByteArray) (h : x.size ≤ 1048576) : Ok Tr (Zbe x) := by
 have hl := Zj9 x
 have q : Ok Ts (Zaf (Zlm x) big 1) := by
  refine Ok.loop (fun v : Nat => v ≤ 1048577) (fun v : Nat => 1048577 - v) (by omega) (Zat (by omega)) fun v hv => ?_
  dsimp only [Zlm, ZrB, br, vz, vs, lrt, ln, lxe, cl, clg, wa, eqN, br, ib, ibg]
  (repeat' (first | with_reducible refine Ok.br (fun _ => ?_) (fun _ => ?_) | with_reducible refine Ok.pure ?_ | with_reducible refine Ok.idx ?_ (fun _ _ _ => ?_) | (with_reducible apply Ok.bind; (exact ZG8 _); intro _ _) | (with_reducible apply Ok.bind; (exact ZHo _); intro _ _) | (with_reducible apply Ok.clg; (exact fun _ => ZG8 _); intro _) | (with_reducible apply Ok.clg; (exact fun _ => ZHo _); intro _) | with_reducible refine Ok.if ?_ ?_)) <;> (first | trivial | assumption | contradiction | omega | grind | (simp only [Bd.c, Bd.vl, ByteArray.size_append, ByteArray.size_extract, sz0] at *; grind))
 dsimp only [Zbe, Zo4, ZnU, Zoq, br, vz, vy, lr, lc, clg, eqN, br, ibg]
 (repeat' (first | with_reducible refine Ok.br (fun _ => ?_) (fun _ => ?_) | with_reducible refine Ok.pure ?_ | (with_reducible apply Ok.lb; (exact q); all_goals (intro _ _; try dsimp only)) | (with_reducible apply Ok.bind; (exact ZG8 _); intro _ _) | (with_reducible apply Ok.bind; (exact ZHo _); intro _ _) | (with_reducible apply Ok.clg; (exact fun _ => ZG8 _); intro _) | (with_reducible apply Ok.clg; (exact fun _ => ZHo _); intro _) | with_reducible refine Ok.if ?_ ?_)) <;> (first | trivial | assumption | contradiction | omega | solve_by_elim | (simp only [Bool.and_eq_true, Bool.or_eq_true, Bool.not_eq_true', Bool.and_eq_false_iff, Bool.or_eq_false_iff, decide_eq_true_eq, decide_eq_false_iff_not] at *; omega) | grind)
theorem ZMA (x : ByteArray) (h : x.size ≤ 1048576) : Ok Tr (Zbk x) := by
 have hl := Zj9 x
 have q : Ok (Sum.elim (fun b : ByteArray => b.size ≤ 1048576) Tr) (Zaf (Zkq x) big (⟨#[]⟩, 0)) := by
  refine Ok.loop (fun v : ByteArray × Nat => v.1.size ≤ v.2 ∧ v.2 ≤ x.size) (fun v : ByteArray × Nat => x.size - v.2) ⟨by rw [sz0]; omega, by omega⟩ (Zat (by omega)) fun v hv => ?_
  obtain ⟨v, i⟩ := v
  obtain ⟨hv, hi⟩ := hv
  dsimp only at hv hi
  dsimp only [Zkq, Znb, br, vz, vs, v2, lrt, ln, lxe, ad, cl, wa, ss, eqN, br, ib]
  (repeat' (first | with_reducible refine Ok.br (fun _ => ?_) (fun _ => ?_) | with_reducible refine Ok.pure ?_ | with_reducible refine Ok.idx ?_ (fun _ _ _ => ?_) | (with_reducible apply Ok.bind; (exact ZGy _ (by omega)); intro _ _) | with_reducible refine Ok.ss ?_ ?_ | with_reducible refine Ok.if ?_ ?_)) <;> (first | trivial | assumption | contradiction | omega | grind | (simp only [Bd.c, Bd.vl, ByteArray.size_append, ByteArray.size_extract, sz0] at *; grind))
 dsimp only [Zbk, Zni, Zpd, ZmD, br, vz, lr, lc, cl, eqN, br]
 (repeat' (first | with_reducible refine Ok.br (fun _ => ?_) (fun _ => ?_) | with_reducible refine Ok.pure ?_ | (with_reducible apply Ok.lb; (exact q); all_goals (intro _ _; try dsimp only)) | (with_reducible apply Ok.bind; (exact ZGy _ (by assumption)); intro _ _) | with_reducible refine Ok.if ?_ ?_)) <;> (first | trivial | assumption | contradiction | omega | solve_by_elim | (simp only [Bool.and_eq_true, Bool.or_eq_true, Bool.not_eq_true', Bool.and_eq_false_iff, Bool.or_eq_false_iff, decide_eq_true_eq, decide_eq_false_iff_not] at *; omega) | grind)
set_option maxRecDepth 20000 in
theorem ZMB (x : ByteArray) (h : x.size ≤ 1048576) : Ok (fun y => y.1.size ≤ 1048576 ∧ y.2.size ≤ 1048576) (Zbp x) := by
 have hl := Zj9 x
 have q : Ok (Sum.elim Tr (fun y : ByteArray × ByteArray => y.1.size ≤ 1048576 ∧ y.2.size ≤ 1048576)) (Zaf (Zkv x) big ((x.size : Int) - 1)) := by
  refine Ok.loop (fun v : Int => -1 ≤ v ∧ v < x.size) (fun v : Int => (v + 1).toNat) ⟨by omega, by omega⟩ (Zat (by omega)) fun v hv => ?_
  dsimp only [Zkv, Zqj, br, vs, lrt, ln, lxe, wi, ss, br, ibi]
  (repeat' (first | with_reducible refine Ok.br (fun _ => ?_) (fun _ => ?_) | with_reducible refine Ok.pure ?_ | with_reducible refine Ok.idx ?_ (fun _ _ _ => ?_) | with_reducible refine Ok.ss ?_ ?_ | with_reducible refine Ok.if ?_ ?_)) <;> (first | trivial | assumption | contradiction | omega | grind | (simp only [Bd.c, Bd.vl, ByteArray.size_append, ByteArray.size_extract, sz0] at *; grind))
 dsimp only [Zbp, ZpU, ZoD, ZqA, vz, vs, lr, lc, wi, eqN]
 (repeat' (first | with_reducible refine Ok.br (fun _ => ?_) (fun _ => ?_) | with_reducible refine Ok.pure ?_ | (with_reducible apply Ok.lb; (exact q); all_goals (intro _ _; try dsimp only)) | with_reducible refine Ok.if ?_ ?_)) <;> (first | trivial | assumption | contradiction | omega | grind | (simp only [Bd.c, Bd.vl, ByteArray.size_append, ByteArray.size_extract, sz0] at *; grind))
set_option maxRecDepth 20000 in
theorem o88 (x : ByteArray) (h : x.size ≤ 1048576) : Ok Tr (Zbd x) := by
 have q : Ok Ts (Zaf Zk5 big (x, 0)) := by
  refine Ok.loop (fun v : ByteArray × Nat => v.1.size ≤ 1048576 ∧ v.2 ≤ 120) (fun v : ByteArray × Nat => 120 - v.2) ⟨h, by omega⟩ (Zat (by omega)) fun v hv => ?_
  obtain ⟨v, i⟩ := v
  obtain ⟨hv, hi⟩ := hv
  dsimp only at hv hi
  dsimp only [Zk5, Zo2, br, vs, v2, lrt, ln, lxe, cl, wa, br]
  (repeat' (first | with_reducible refine Ok.br (fun _ => ?_) (fun _ => ?_) | with_reducible refine Ok.pure ?_ | (with_reducible apply Ok.bind; (exact ZMB _ hv); intro _ _) | (with_reducible apply Ok.bind; (exact ZI0 _); intro _ _) | with_reducible refine Ok.if ?_ ?_)) <;> (first | trivial | assumption | contradiction | omega | grind | (simp only [Bd.c, Bd.vl, ByteArray.size_append, ByteArray.size_extract, sz0] at *; grind))
 dsimp only [Zbd, Znv, ZmF, ZoO, br, lr, lc, cl, br]
 (repeat' (first | with_reducible refine Ok.br (fun _ => ?_) (fun _ => ?_) | with_reducible refine Ok.pure ?_ | (with_reducible apply Ok.lb; (exact q); all_goals (intro _ _; try dsimp only)) | (with_reducible apply Ok.bind; (exact ZMA _ h); intro _ _) | with_reducible refine Ok.if ?_ ?_)) <;> (first | trivial | assumption | contradiction | omega | grind | (simp only [Bd.c, Bd.vl, ByteArray.size_append, ByteArray.size_extract, sz0] at *; grind))
set_option maxRecDepth 20000 in
theorem o89 (x : ByteArray) (h : x.size ≤ 1048576) : Ok Tr (ZaQ x) := by
 dsimp only [ZaQ, Zqs, lr, cl, clg]
 (repeat' (first | with_reducible refine Ok.br (fun _ => ?_) (fun _ => ?_) | with_reducible refine Ok.pure ?_ | (with_reducible apply Ok.bind; (exact ZGy _ h); intro _ _) | (with_reducible apply Ok.bind; (exact ZI0 _); intro _ _) | (with_reducible apply Ok.clg; (exact fun _ => ZGy _ h); intro _) | (with_reducible apply Ok.clg; (exact fun _ => ZI0 _); intro _) | with_reducible refine Ok.if ?_ ?_)) <;> (first | trivial | assumption | contradiction | omega | grind | (simp only [Bd.c, Bd.vl, ByteArray.size_append, ByteArray.size_extract, sz0] at *; grind))
theorem o86 (l : List ByteArray) (x : ByteArray) (h : l.length ≤ 1048576) : Ok Tr (ZaF l x) := by
 have q : Ok Ts (Zaf (ZgM l x) big 0) := by
  refine Ok.loop (fun v : Nat => v ≤ l.length) (fun v : Nat => l.length - v) (by omega) (Zat (by omega)) fun v hv => ?_
  dsimp only [ZgM, Zki, br, ix, vz, vs, lrt, ln, lxe, wa, eqL, br]
  (repeat' (first | with_reducible refine Ok.br (fun _ => ?_) (fun _ => ?_) | with_reducible refine Ok.pure ?_ | with_reducible refine Ok.idx ?_ (fun _ _ _ => ?_) | with_reducible refine Ok.if ?_ ?_)) <;> (first | trivial | assumption | contradiction | omega | grind | (simp only [Bd.c, Bd.vl, ByteArray.size_append, ByteArray.size_extract, sz0] at *; grind))
 dsimp only [ZaF, Zkh, ZkI, Zkz, lr, lc]
 (repeat' (first | with_reducible refine Ok.br (fun _ => ?_) (fun _ => ?_) | with_reducible refine Ok.pure ?_ | (with_reducible apply Ok.lb; (exact q); all_goals (intro _ _; try dsimp only)) | with_reducible refine Ok.if ?_ ?_)) <;> (first | trivial | assumption | contradiction | omega | grind | (simp only [Bd.c, Bd.vl, ByteArray.size_append, ByteArray.size_extract, sz0] at *; grind))
theorem o90 (l : List Spn) (x : Int) (h : l.length ≤ 1048576) : Ok Tr (ZaW l x) := by
 have q : Ok Ts (Zaf (Zld l x) big 0) := by
  refine Ok.loop (fun v : Nat => v ≤ l.length) (fun v : Nat => l.length - v) (by omega) (Zat (by omega)) fun v hv => ?_
  dsimp only [Zld, ZoX, br, ix, ixg, vz, vs, lrt, ln, lxe, wa, eqL, br]
  (repeat' (first | with_reducible refine Ok.br (fun _ => ?_) (fun _ => ?_) | with_reducible refine Ok.pure ?_ | with_reducible refine Ok.idx ?_ (fun _ _ _ => ?_) | with_reducible refine Ok.idxg ?_ (fun _ => ?_) | with_reducible refine Ok.if ?_ ?_)) <;> (first | trivial | assumption | contradiction | omega | grind | (simp only [Bd.c, Bd.vl, ByteArray.size_append, ByteArray.size_extract, sz0] at *; grind))
 dsimp only [ZaW, ZpA, Zo7, ZpQ, lr, lc]
 (repeat' (first | with_reducible refine Ok.br (fun _ => ?_) (fun _ => ?_) | with_reducible refine Ok.pure ?_ | (with_reducible apply Ok.lb; (exact q); all_goals (intro _ _; try dsimp only)) | with_reducible refine Ok.if ?_ ?_)) <;> (first | trivial | assumption | contradiction | omega | grind | (simp only [Bd.c, Bd.vl, ByteArray.size_append, ByteArray.size_extract, sz0] at *; grind))
theorem o98 (s : Scm) (x : ByteArray) (h : SzS s) : Ok (fun y : Int => y < s.messages.length) (ZaO s x) := by
 have hm := h.ml
 have q : Ok (Sum.elim Tr fun y : Int => y < s.messages.length) (Zaf (Zks s x) big 0) := by
  refine Ok.loop (fun v : Nat => v ≤ s.messages.length) (fun v : Nat => s.messages.length - v) (by omega) (Zat (by omega)) fun v hv => ?_
  dsimp only [Zks, Zoi, br, ix, vz, vw, vs, lrt, ln, lxe, wa, eqL, br]
  (repeat' (first | with_reducible refine Ok.br (fun _ => ?_) (fun _ => ?_) | with_reducible refine Ok.pure ?_ | with_reducible refine Ok.idx ?_ (fun _ _ _ => ?_) | with_reducible refine Ok.if ?_ ?_)) <;> (first | trivial | assumption | contradiction | omega | grind | (simp only [Bd.c, Bd.vl, ByteArray.size_append, ByteArray.size_extract, sz0] at *; grind))
 dsimp only [ZaO, ZnV, Zpf, ZoC, lr, lc]
 (repeat' (first | with_reducible refine Ok.br (fun _ => ?_) (fun _ => ?_) | with_reducible refine Ok.pure ?_ | (with_reducible apply Ok.lb; (exact q); all_goals (intro _ _; try dsimp only)) | with_reducible refine Ok.if ?_ ?_)) <;> (first | trivial | assumption | contradiction | omega | grind | (simp only [Bd.c, Bd.vl, ByteArray.size_append, ByteArray.size_extract, sz0] at *; grind))
theorem ZHL (s : Scm) (x : ByteArray) (h : SzS s) : Ok (fun y : Int => y < s.enums.length) (Za5 s x) := by
 have hm := h.el
 have q : Ok (Sum.elim Tr fun y : Int => y < s.enums.length) (Zaf (Zlp s x) big 0) := by
  refine Ok.loop (fun v : Nat => v ≤ s.enums.length) (fun v : Nat => s.enums.length - v) (by omega) (Zat (by omega)) fun v hv => ?_
  dsimp only [Zlp, Zn4, br, ix, vz, vw, vs, lrt, ln, lxe, wa, eqL, br]
  (repeat' (first | with_reducible refine Ok.br (fun _ => ?_) (fun _ => ?_) | with_reducible refine Ok.pure ?_ | with_reducible refine Ok.idx ?_ (fun _ _ _ => ?_) | with_reducible refine Ok.if ?_ ?_)) <;> (first | trivial | assumption | contradiction | omega | grind | (simp only [Bd.c, Bd.vl, ByteArray.size_append, ByteArray.size_extract, sz0] at *; grind))
 dsimp only [Za5, Zp9, ZoH, Zra, lr, lc]
 (repeat' (first | with_reducible refine Ok.br (fun _ => ?_) (fun _ => ?_) | with_reducible refine Ok.pure ?_ | (with_reducible apply Ok.lb; (exact q); all_goals (intro _ _; try dsimp only)) | with_reducible refine Ok.if ?_ ?_)) <;> (first | trivial | assumption | contradiction | omega | grind | (simp only [Bd.c, Bd.vl, ByteArray.size_append, ByteArray.size_extract, sz0] at *; grind))
theorem ZGG (v w : Val) (h : SzV v) (k : SzV w) : Ok Tr (ZaN v w) := by
 obtain ⟨_, _, _, _, _⟩ := h
 obtain ⟨_, _, _, _, _⟩ := k
 dsimp only [ZaN, Znj, vy, vw, vg, lr, wa, eqL]
 (repeat' (first | with_reducible refine Ok.br (fun _ => ?_) (fun _ => ?_) | with_reducible refine Ok.pure ?_ | with_reducible refine Ok.if ?_ ?_)) <;> (first | trivial | assumption | contradiction | omega | grind | (simp only [Bd.c, Bd.vl, ByteArray.size_append, ByteArray.size_extract, sz0] at *; grind))
theorem ZHg (n : Int) (v : Val) (h : SzV v) : Ok Tr (ZbF n v) := by
 have h1 := h.t
 dsimp only [ZbF, Zpk, br, vz, vy, vw, lr, cl, clg, eqN, br]
 (repeat' (first | with_reducible refine Ok.br (fun _ => ?_) (fun _ => ?_) | with_reducible refine Ok.pure ?_ | (with_reducible apply Ok.bind; (exact o83 _); intro _ _) | (with_reducible apply Ok.bind; (exact ZKe _); intro _ _) | (with_reducible apply Ok.bind; (exact ZKn _); intro _ _) | (with_reducible apply Ok.bind; (exact o97 _ h1); intro _ _) | (with_reducible apply Ok.clg; (exact fun _ => o83 _); intro _) | (with_reducible apply Ok.clg; (exact fun _ => ZKe _); intro _) | (with_reducible apply Ok.clg; (exact fun _ => ZKn _); intro _) | (with_reducible apply Ok.clg; (exact fun _ => o97 _ h1); intro _) | with_reducible refine Ok.if ?_ ?_)) <;> (first | trivial | assumption | contradiction | omega | grind | (simp only [Bd.c, Bd.vl, ByteArray.size_append, ByteArray.size_extract, sz0] at *; grind))
theorem ZLe (v : Val) (h : SzV v) : Ok SzV (ZbO v) := by
 dsimp only [ZbO, ZmX, br, vw, lr, clg, br]
 (repeat' (first | with_reducible refine Ok.br (fun _ => ?_) (fun _ => ?_) | with_reducible refine Ok.pure ?_ | (with_reducible apply Ok.bind; (exact ZKr _); intro _ _) | (with_reducible apply Ok.clg; (exact fun _ => ZKr _); intro _) | with_reducible refine Ok.if ?_ ?_)) <;> first | exact h | exact ⟨h.t, h.l, h.p, h.s, h.r⟩
theorem ZL9 (x : Nt) (h : SzN x) : Ok Tr (Zbo x) := by
 dsimp only [Zbo, ZnS, vw, lr, cl, clg]
 (repeat' (first | with_reducible refine Ok.br (fun _ => ?_) (fun _ => ?_) | with_reducible refine Ok.pure ?_ | (with_reducible apply Ok.bind; (exact ZHG _); intro _ _) | (with_reducible apply Ok.bind; (exact ZHg _ _ h.v); intro _ _) | (with_reducible apply Ok.clg; (exact fun _ => ZHG _); intro _) | (with_reducible apply Ok.clg; (exact fun _ => ZHg _ _ h.v); intro _) | with_reducible refine Ok.if ?_ ?_)) <;> (first | trivial | assumption | contradiction | omega | grind | (simp only [Bd.c, Bd.vl, ByteArray.size_append, ByteArray.size_extract, sz0] at *; grind))
theorem ZMn (l : List Nt) (n : Int) (h : ZrJ l) : Ok Tr (Zbw l n) := by
 obtain ⟨h1, h2⟩ := h
 have q : Ok Ts (Zaf (ZkG l n) big 0) := by
  refine Ok.loop (fun v : Nat => v ≤ l.length) (fun v : Nat => l.length - v) (by omega) (Zat (by omega)) fun v hv => ?_
  dsimp only [ZkG, Zqa, br, ix, ixg, vz, vs, vg, lrt, ln, lxe, cl, wa, wi, eqL, br]
  (repeat' (first | with_reducible refine Ok.br (fun _ => ?_) (fun _ => ?_) | with_reducible refine Ok.pure ?_ | with_reducible refine Ok.idx ?_ (fun _ _ _ => ?_) | (with_reducible apply Ok.bind; (exact ZHG _); intro _ _) | (with_reducible apply Ok.bind; (exact ZLY _ _); intro _ _) | (with_reducible apply Ok.bind; (exact ZL9 _ (h2 _ (by assumption))); intro _ _) | with_reducible refine Ok.idxg ?_ (fun _ => ?_) | with_reducible refine Ok.if ?_ ?_)) <;> (first | trivial | assumption | contradiction | omega | grind | (simp only [Bd.c, Bd.vl, ByteArray.size_append, ByteArray.size_extract, sz0] at *; grind))
 dsimp only [Zbw, Zrf, Zpj, Zn9, br, vz, lr, lc, eqL, br]
 (repeat' (first | with_reducible refine Ok.br (fun _ => ?_) (fun _ => ?_) | with_reducible refine Ok.pure ?_ | (with_reducible apply Ok.lb; (exact q); all_goals (intro _ _; try dsimp only)) | with_reducible refine Ok.if ?_ ?_)) <;> (first | trivial | assumption | contradiction | omega | grind | (simp only [Bd.c, Bd.vl, ByteArray.size_append, ByteArray.size_extract, sz0] at *; grind))
end Go.Proofs.YtchkcemlglpobaaGreat
