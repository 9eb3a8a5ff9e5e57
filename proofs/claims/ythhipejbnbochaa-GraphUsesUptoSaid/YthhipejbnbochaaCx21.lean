import Derived.Test.YthhipejbnbochaaCx12
import Derived.Test.YthhipejbnbochaaCx14
import Derived.Test.YthhipejbnbochaaCx15
import Derived.Test.YthhipejbnbochaaCx13
import Derived.Test.YthhipejbnbochaaCx20
import Derived.Test.YthhipejbnbochaaCx00
namespace Go.Eng
set_option linter.all false
open Go Go.RowKit
section
variable {σ ξ ρ α β γ : Type}
def ZjH (g : β → α → β ⊕ ρ) : β → List α → β ⊕ ρ
 | b, [] => .inl b
 | b, x :: l => match g b x with
  | .inl b' => ZjH g b' l
  | .inr r => .inr r
theorem ZeU {B : σ → Option (Lv σ ξ ρ)} {N : Nat} (l : List α) (mk : Nat → β → σ) (I : Nat → β → Prop) (g : β → α → β ⊕ ρ) (e : β → ξ)
  (hs : ∀ i b x, l[i]? = some x → I i b → B (mk i b) = some (Sum.elim (fun b' => Lv.nx (mk (i + 1) b')) Lv.rt (g b x)) ∧ ∀ b', g b x = .inl b' → I (i + 1) b')
  (he : ∀ b, I l.length b → B (mk l.length b) = some (.ex (e b))) (b0 : β) (h0 : I 0 b0) (hN : l.length < N) : Zar B N (mk 0 b0) = some (Sum.map e id (ZjH g b0 l)) := by
 suffices H : ∀ k i b N, i + k = l.length → I i b → k < N → Zar B N (mk i b) = some (Sum.map e id (ZjH g b (l.drop i))) by
  have := H l.length 0 b0 N (by omega) h0 hN
  simpa using this
 intro k
 induction k with
 | zero =>
  intro i b N hi hI hN
  obtain ⟨N, rfl⟩ : ∃ m, N = m + 1 := ⟨N - 1, by omega⟩
  have : i = l.length := by omega
  subst this
  rw [Zar, he b hI, Ybi]
  rfl
 | succ k ih =>
  intro i b N hi hI hN
  obtain ⟨N, rfl⟩ : ∃ m, N = m + 1 := ⟨N - 1, by omega⟩
  have hlt : i < l.length := by omega
  obtain ⟨h1, h2⟩ := hs i b l[i] (Yc hlt) hI
  rw [Zar, h1, Y6 hlt, ZjH]
  cases hg : g b l[i] with
  | inl b' => exact ih (i + 1) b' N (by omega) (h2 b' hg) (by omega)
  | inr r => rfl
theorem ZeI {B : Nat → Option (Lv Nat ξ ρ)} {N : Nat} (l : List α) (p : α → Bool) (f : Nat → ρ) (e : ξ)
  (hs : ∀ i x, l[i]? = some x → B i = some (if p x = true then .rt (f i) else .nx (i + 1))) (he : B l.length = some (.ex e)) (hN : l.length < N) :
  Zar B N 0 = some (match l.findIdx? p with | some i => .inr (f i) | none => .inl e) := by
 suffices H : ∀ k i N, i + k = l.length → k < N → Zar B N i = some (match (l.drop i).findIdx? p with | some j => .inr (f (i + j)) | none => .inl e) by
  have := H l.length 0 N (by omega) hN
  simpa using this
 intro k
 induction k with
 | zero =>
  intro i N hi hN
  obtain ⟨N, rfl⟩ : ∃ m, N = m + 1 := ⟨N - 1, by omega⟩
  have : i = l.length := by omega
  subst this
  rw [Zar, he, Ybi]
  rfl
 | succ k ih =>
  intro i N hi hN
  obtain ⟨N, rfl⟩ : ∃ m, N = m + 1 := ⟨N - 1, by omega⟩
  have hlt : i < l.length := by omega
  rw [Zar, hs i l[i] (Yc hlt), Y6 hlt, Ya7]
  cases hp : p l[i] with
  | true => simp
  | false =>
   simp only [YaE, if_false]
   rw [ih (i + 1) N (by omega) (by omega)]
   cases (List.drop (i + 1) l).findIdx? p with
   | none => rfl
   | some j => simp [Yv, Ybe 1 j]
theorem Zdl {g : β → α → β ⊕ ρ} (h : β → α → β) (hg : ∀ b x, g b x = .inl (h b x)) : ∀ (l : List α) (b : β), ZjH g b l = .inl (l.foldl h b)
 | [], b => rfl
 | x :: l, b => by rw [ZjH, hg]; exact Zdl h hg l _
def Zfa (R : List α → α → Option ρ) : List α → List α → Option ρ
 | _, [] => none
 | p, x :: l => match R p x with
  | some r => some r
  | none => Zfa R (p ++ [x]) l
theorem Zm4 {B : σ → Option (Lv σ ξ ρ)} {N : Nat} (l : List α) (S : List α → β) (R : List α → α → Option ρ) (mk : Nat → β → σ) (e : β → ξ)
  (hs : ∀ i x, l[i]? = some x → B (mk i (S (l.take i))) = some (match R (l.take i) x with | some r => .rt r | none => .nx (mk (i + 1) (S (l.take i ++ [x])))))
  (he : B (mk l.length (S l)) = some (.ex (e (S l)))) (hN : l.length < N) : Zar B N (mk 0 (S [])) = some ((Zfa R [] l).elim (.inl (e (S l))) .inr) := by
 suffices H : ∀ k i N, i + k = l.length → k < N → Zar B N (mk i (S (l.take i))) = some ((Zfa R (l.take i) (l.drop i)).elim (.inl (e (S l))) .inr) by
  have := H l.length 0 N (by omega) hN
  grind
 intro k
 induction k with
 | zero =>
  intro i N hi hN
  obtain ⟨N, rfl⟩ : ∃ m, N = m + 1 := ⟨N - 1, by omega⟩
  have : i = l.length := by omega
  subst this
  rw [Zar, YaQ, he, Ybi]
  rfl
 | succ k ih =>
  intro i N hi hN
  obtain ⟨N, rfl⟩ : ∃ m, N = m + 1 := ⟨N - 1, by omega⟩
  have hlt : i < l.length := by omega
  rw [Zar, hs i l[i] (Yc hlt), Y6 hlt, Zfa]
  cases R (l.take i) l[i] with
  | some r => rfl
  | none =>
   have := ih (i + 1) N (by omega) (by omega)
   rw [Y2 hlt] at this
   exact this
theorem ZeE {R : List α → α → Option ρ} (h : ∀ p x, R p x = none) : ∀ (l p : List α), Zfa R p l = none
 | [], p => rfl
 | x :: l, p => by rw [Zfa, h]; exact ZeE h l _
theorem Zdv {B : σ → Option (Lv σ ξ ρ)} {N : Nat} (l : List α) (S : List α → β) (mk : Nat → β → σ) (e : β → ξ)
  (hs : ∀ i x, l[i]? = some x → B (mk i (S (l.take i))) = some (.nx (mk (i + 1) (S (l.take i ++ [x])))))
  (he : B (mk l.length (S l)) = some (.ex (e (S l)))) (hN : l.length < N) : Zar B N (mk 0 (S [])) = some (.inl (e (S l))) := by
 rw [Zm4 l S (fun _ _ => none) mk e hs he hN, ZeE fun _ _ => rfl]
 rfl
theorem ZcR {B : σ → Option (Lv σ ξ ρ)} (I : Nat → σ → Prop) (Q : ξ ⊕ ρ → Prop)
  (h : ∀ k v, I k v → ∃ o, B v = some o ∧ match o with | .nx v' => ∃ k', k' < k ∧ I k' v' | .ex b => Q (.inl b) | .rt y => Q (.inr y)) :
  ∀ N k v, k < N → I k v → ∃ o, Zar B N v = some o ∧ Q o
 | 0, k, v, hk, _ => absurd hk (Yak _)
 | N + 1, k, v, hk, hI => by
  obtain ⟨o, h1, h2⟩ := h k v hI
  rw [Zar, h1]
  cases o with
  | nx v' => obtain ⟨k', h3, h4⟩ := h2; exact ZcR I Q h N k' v' (by omega) h4
  | ex b => exact ⟨_, rfl, h2⟩
  | rt y => exact ⟨_, rfl, h2⟩
theorem Zdq {l : List α} {i : Nat} {x : α} (h : l[i]? = some x) : (i : Int) < (l.length : Int) := by
 grind
theorem Zbq {n : Nat} (h : n < 4611686018427387904) : n < big := h
end
end Go.Eng
namespace Go.Eng
set_option linter.all false
open Go
section
variable {σ ξ ρ β γ : Type}
def Zgi (M : Option (List β)) (Q : β → Prop) : Prop := ∃ ys, M = some ys ∧ ys ≠ [] ∧ ∀ y ∈ ys, Q y
theorem Zgi.imp {M : Option (List β)} {Q R : β → Prop} (h : Zgi M Q) (k : ∀ y, Q y → R y) : Zgi M R := by
 obtain ⟨ys, a, b, c⟩ := h
 exact ⟨ys, a, b, fun y hy => k y (c y hy)⟩
theorem Zbz {y : β} {Q : β → Prop} (h : Q y) : Zgi (some [y]) Q := ⟨[y], rfl, by simp, fun z hz => by rw [YN.1 hz]; exact h⟩
theorem ZeV {Q : β → Prop} : ∀ {l : List (Option (List β))}, l ≠ [] → (∀ x ∈ l, Zgi x Q) → Zgi (Ze9 l) Q
 | [], h, _ => absurd rfl h
 | x :: r, _, h => by
  obtain ⟨ys, rfl, b, c⟩ := h _ (Yt ..)
  by_cases hr : r = []
  ·subst hr
   exact ⟨ys ++ [], rfl, by simpa using b, fun y hy => c y (by simpa using hy)⟩
  ·obtain ⟨zs, a', b', c'⟩ := ZeV hr fun x hx => h x (List.mem_cons_of_mem _ hx)
   refine ⟨ys ++ zs, by rw [Ze9, a'], by simp [b], fun y hy => ?_⟩
   rcases YM.1 hy with hy | hy
   ·exact c y hy
   ·exact c' y hy
theorem Zeo {M : Option (List γ)} {k : γ → Option (List β)} {Q : γ → Prop} {R : β → Prop} (h : Zgi M Q) (hk : ∀ z, Q z → Zgi (k z) R) : Zgi (Zdk M k) R := by
 obtain ⟨ys, rfl, b, c⟩ := h
 show Zgi (Ze9 (ys.map k)) R
 refine ZeV (by simpa using b) fun x hx => ?_
 obtain ⟨y, hy, rfl⟩ := Yr.1 hx
 exact hk y (c y hy)
theorem ZpX {os : Nat} {V : Type} [Mv V] {xs : List (ByteArray × V)} {k0 : PT os (List β)} {k1 : ByteArray × V → List (ByteArray × V) → PT os (List β)} {Q : β → Prop}
  (h0 : xs = [] → Zgi k0.m Q) (h1 : ∀ i x, xs[i]? = some x → Zgi (k1 x (xs.eraseIdx i)).m Q) : Zgi (nxN xs k0 k1).m Q := by
 cases xs with
 | nil => exact h0 rfl
 | cons a r =>
  show Zgi (Ze9 _) Q
  refine ZeV (by simp) fun x hx => ?_
  obtain ⟨i, hi, rfl⟩ := Yr.1 hx
  have hi := Y4.1 hi
  have e : (a :: r)[i]? = some ((a :: r)[i]) := Yc hi
  have e2 : (a :: r).getD i (⟨#[]⟩, Mv.z) = (a :: r)[i] := by rw [YL, e]; rfl
  rw [e2]
  exact h1 i _ e
theorem Zeb {B : σ → Option (List (Lv σ ξ ρ))} (I : Nat → σ → Prop) (Q : ξ ⊕ ρ → Prop)
  (h : ∀ k v, I k v → Zgi (B v) fun o => match o with | .nx v' => ∃ k', k' < k ∧ I k' v' | .ex b => Q (.inl b) | .rt y => Q (.inr y)) :
  ∀ N k v, k < N → I k v → Zgi (Zc4 B N v) Q
 | 0, k, v, hk, _ => absurd hk (Yak _)
 | N + 1, k, v, hk, hI => by
  rw [Zc4]
  refine Zeo (h k v hI) fun o ho => ?_
  cases o with
  | nx v' => obtain ⟨k', h3, h4⟩ := ho; exact Zeb I Q h N k' v' (by omega) h4
  | ex b => exact Zbz ho
  | rt y => exact Zbz ho
theorem Zk3 [DecidableEq β] {M : Option (List β)} {y : β} (h : Zgi M fun z => z = y) : ZrQ M = some y := by
 obtain ⟨ys, a, b, c⟩ := h
 exact Zp2 a b c
end
section
variable {V : Type}
def Zb2 (r : List (ByteArray × V)) : List ByteArray := r.map (·.1)
theorem Zd3 (x y : ByteArray) (v : V) : ∀ r : List (ByteArray × V), ZeS y (ZbN x v r) = if x = y then some v else ZeS y r
 | [] => by
  unfold ZbN ZeS
  by_cases h : x = y <;> simp [h, ZeS]
 | p :: r => by
  unfold ZbN
  by_cases h : p.1 = x
  ·rw [show decide (p.1 = x) = true from decide_eq_true h]
   show ZeS y ((x, v) :: r) = _
   unfold ZeS
   by_cases h2 : x = y
   ·simp [h2]
   ·simp [h2, show ¬ p.1 = y from fun h3 => h2 (h.symm.trans h3)]
  ·rw [show decide (p.1 = x) = false from decide_eq_false h]
   show ZeS y (p :: ZbN x v r) = _
   unfold ZeS
   rw [Zd3 x y v r]
   by_cases h2 : p.1 = y
   ·simp [h2, show ¬ x = y from fun h3 => h (h2.trans h3.symm)]
   ·simp [h2]
theorem Zf5 (x : ByteArray) (v : V) : ∀ r : List (ByteArray × V), (x ∈ Zb2 r ∧ Zb2 (ZbN x v r) = Zb2 r) ∨ (x ∉ Zb2 r ∧ Zb2 (ZbN x v r) = Zb2 r ++ [x])
 | [] => .inr ⟨by simp [Zb2], rfl⟩
 | p :: r => by
  have ih := Zf5 x v r
  unfold ZbN
  by_cases h : p.1 = x
  ·rw [show decide (p.1 = x) = true from decide_eq_true h]
   exact .inl ⟨by unfold Zb2; simp [h], by unfold Zb2; simp [h]⟩
  ·rw [show decide (p.1 = x) = false from decide_eq_false h]
   have h2 : ¬ x = p.1 := fun e => h e.symm
   show (x ∈ p.1 :: Zb2 r ∧ p.1 :: Zb2 (ZbN x v r) = p.1 :: Zb2 r) ∨ (x ∉ p.1 :: Zb2 r ∧ p.1 :: Zb2 (ZbN x v r) = p.1 :: Zb2 r ++ [x])
   rcases ih with ⟨h3, h4⟩ | ⟨h3, h4⟩
   ·exact .inl ⟨List.mem_cons_of_mem _ h3, by rw [h4]⟩
   ·exact .inr ⟨fun hm => (Yp.1 hm).elim h2 h3, by rw [h4]; rfl⟩
theorem Zpb (x : ByteArray) (v : V) {r : List (ByteArray × V)} (h : (Zb2 r).Nodup) : (Zb2 (ZbN x v r)).Nodup := by
 rcases Zf5 x v r with ⟨_, e⟩ | ⟨hx, e⟩
 ·rw [e]; exact h
 ·rw [e, List.nodup_append]
  exact ⟨h, by simp, fun a ha b hb => by simp at hb; subst hb; exact fun e => hx (e ▸ ha)⟩
theorem ZkO (x : ByteArray) : ∀ r : List (ByteArray × V), x ∈ Zb2 r ↔ (ZeS x r).isSome = true
 | [] => by simp [Zb2, ZeS]
 | p :: r => by
  have ih := ZkO x r
  unfold ZeS
  by_cases h : p.1 = x
  ·simp [Zb2, h]
  ·have h2 : ¬ x = p.1 := fun e => h e.symm
   simp only [h, decide_false, Zb2, YP, Yp, h2, false_or]
   exact ih
theorem ZpZ (x : ByteArray) (v : V) (r : List (ByteArray × V)) : (ZbN x v r).length ≤ r.length + 1 := by
 have e : ∀ r : List (ByteArray × V), r.length = (Zb2 r).length := fun r => (Ym _).symm
 rw [e, e r]
 rcases Zf5 x v r with ⟨_, e⟩ | ⟨_, e⟩ <;> rw [e] <;> simp
end
def ZqO (s : Scm) (n : ByteArray) : Option Msg := s.messages.find? fun m => decide (m.name = n)
def isM (s : Scm) (n : ByteArray) : Bool := (ZqO s n).isSome
def isE (s : Scm) (n : ByteArray) : Bool := s.enums.any fun e => decide (e.name = n)
def ZgG (s : Scm) (n : ByteArray) : List Fld := ((ZqO s n).map Msg.fields).getD []
def toF (s : Scm) (f : Fld) : Bool := isM s f.type.name && decide (f.type.kind = 10)
def ldF (s : Scm) (f : Fld) : Bool := toF s f || (decide (f.type.kind = 9) && isE s f.type.name)
def Zbg (s : Scm) (n : ByteArray) : List ByteArray := ((ZgG s n).filter (toF s)).map fun f => f.type.name
def Zcr (s : Scm) (n : ByteArray) : List ByteArray := ((ZgG s n).filter (ldF s)).map fun f => f.type.name
structure Fw (s : Scm) : Prop where
 m : s.messages.length ≤ 8
 e : s.enums.length ≤ 8
 f : ∀ m ∈ s.messages, m.fields.length ≤ 10
theorem Fw.fl {s : Scm} (h : Fw s) (n : ByteArray) : (ZgG s n).length ≤ 10 := by
 unfold ZgG
 cases hm : ZqO s n with
 | none => simp
 | some m => exact h.f m (List.mem_of_find?_eq_some hm)
theorem Fw.nl {s : Scm} (h : Fw s) (n : ByteArray) : (Zbg s n).length ≤ 10 := by
 unfold Zbg
 rw [Ym]
 exact YS (Y0 _ _) (h.fl n)
theorem Fw.ul {s : Scm} (h : Fw s) (n : ByteArray) : (Zcr s n).length ≤ 10 := by
 unfold Zcr
 rw [Ym]
 exact YS (Y0 _ _) (h.fl n)
theorem ZiD {s : Scm} {n x : ByteArray} (h : x ∈ Zbg s n) : isM s x = true := by
 unfold Zbg at h
 obtain ⟨f, hf, rfl⟩ := Yr.1 h
 have := (YE.1 hf).2
 unfold toF at this
 exact (YaY.1 this).1
def nmM (s : Scm) : List ByteArray := s.messages.map Msg.name
theorem Zdf {s : Scm} {n : ByteArray} : isM s n = true ↔ n ∈ nmM s := by
 unfold isM ZqO nmM
 rw [List.find?_isSome]
 simp [Yr]
theorem ZpE {s : Scm} {n : ByteArray} : isE s n = true ↔ n ∈ s.enums.map Enm.name := by
 unfold isE
 simp [YI, Yr]
structure WOk (s : Scm) (w : Web) : Prop where
 m : ∀ n, ZeS n w.messages = ZqO s n
 e : ∀ n, lkM n w.enums = isE s n
 nd : (Zb2 w.messages).Nodup
 l : w.messages.length ≤ s.messages.length
theorem WOk.im {s : Scm} {w : Web} (h : WOk s w) (n : ByteArray) : inM n w.messages = isM s n := by unfold inM isM; rw [h.m]
theorem WOk.fl {s : Scm} {w : Web} (h : WOk s w) (n : ByteArray) : (lkM n w.messages).fields = ZgG s n := by
 unfold lkM ZgG
 rw [h.m]
 cases ZqO s n <;> rfl
theorem WOk.key {s : Scm} {w : Web} (h : WOk s w) (n : ByteArray) : n ∈ Zb2 w.messages ↔ isM s n = true := by rw [ZkO, h.m]; rfl
end Go.Eng
namespace Go.Proofs.Ythhipejbnbochaa
set_option linter.all false
open Go Go.Eng
def wvM (l : List Msg) : List (ByteArray × Msg) := l.foldl (fun r m => if inM m.name r = true then r else ZbN m.name m r) []
def wvE (l : List Enm) : List (ByteArray × Bool) := l.foldl (fun r e => ZbN e.name true r) []
theorem Zh7 (l : List Msg) (m : Msg) : wvM (l ++ [m]) = if inM m.name (wvM l) = true then wvM l else ZbN m.name m (wvM l) := by unfold wvM; rw [List.foldl_append]; rfl
theorem ZiL (l : List Enm) (e : Enm) : wvE (l ++ [e]) = ZbN e.name true (wvE l) := by unfold wvE; rw [List.foldl_append]; rfl
theorem Zk5 {α : Type} {P : List α → Prop} (h0 : P []) (h1 : ∀ l x, P l → P (l ++ [x])) (l : List α) : P l := by
 have : ∀ l : List α, P l.reverse := fun l => by
  induction l with
  | nil => exact h0
  | cons x l ih => rw [List.reverse_cons]; exact h1 _ _ ih
 simpa using this l.reverse
theorem Zv0 (l : List Msg) : (∀ n, ZeS n (wvM l) = l.find? fun m => decide (m.name = n)) ∧ (Zb2 (wvM l)).Nodup ∧ (wvM l).length ≤ l.length := by
 refine Zk5 (P := fun l => (∀ n, ZeS n (wvM l) = l.find? fun m => decide (m.name = n)) ∧ (Zb2 (wvM l)).Nodup ∧ (wvM l).length ≤ l.length) ⟨fun n => rfl, by simp [wvM, Zb2], Yf _⟩ (fun l m ⟨a, b, c⟩ => ?_) l
 rw [Zh7]
 split
 ·rename_i h
  refine ⟨fun n => ?_, b, by simp; omega⟩
  rw [a, List.find?_append]
  cases hf : l.find? fun m => decide (m.name = n) with
  | some x => rfl
  | none =>
   have : ¬ m.name = n := fun e => by
    subst e
    unfold inM at h
    rw [a, hf] at h
    cases h
   simp [this]
 ·rename_i h
  refine ⟨fun n => ?_, Zpb _ _ b, YS (ZpZ ..) (by simp; omega)⟩
  rw [Zd3, List.find?_append, a]
  by_cases e : m.name = n
  ·subst e
   have : l.find? (fun x => decide (x.name = m.name)) = none := by
    unfold inM at h
    rw [a] at h
    simpa using h
   simp [this]
  ·simp only [e, if_false]
   cases l.find? fun m => decide (m.name = n) <;> simp [e]
theorem Zuw (l : List Enm) (n : ByteArray) : lkM n (wvE l) = l.any fun e => decide (e.name = n) := by
 refine Zk5 (P := fun l => lkM n (wvE l) = l.any fun e => decide (e.name = n)) rfl (fun l e ih => ?_) l
 rw [ZiL, List.any_append, ← ih]
 unfold lkM
 rw [Zd3]
 by_cases h : e.name = n <;> simp [h]
def ZwD (s : Scm) : Web := ⟨wvM s.messages, wvE s.enums⟩
theorem Zkf (s : Scm) : WOk s (ZwD s) := by
 obtain ⟨a, b, c⟩ := Zv0 s.messages
 exact ⟨a, Zuw s.enums, b, c⟩
theorem m32 {s : Scm} (h : Fw s) : Zck s = some (ZwD s) := by
 have hm := h.m
 have he := h.e
 have q1 : Zar (Zji s) big (0, []) = some (.inl (wvM s.messages)) := by
  have := Zdv (B := Zji s) (N := big) s.messages wvM (fun i b => (i, b)) id (hN := Zbq (by omega)) (he := by simp [Zji, ZnW, br, ix, vw, vs, ln, lxe, wa, mlk, mpu]) (hs := fun i x hx => by
   have g1 := Zdq hx
   have g0 := (Yg.1 hx).1
   have g2 : i + 1 < 9223372036854775808 := by omega
   dsimp only [Zji, ZnW, br, ix, vw, vs, ln, lxe, wa, mlk, mpu]
   simp only [g1, g2, hx, decide_true, if_true, Option.bind_some, Zh7]
   cases inM x.name (wvM (s.messages.take i)) <;> simp)
  exact this
 have q2 : Zar (Zjf s (wvM s.messages)) big (0, []) = some (.inl (wvE s.enums)) := by
  have := Zdv (B := Zjf s (wvM s.messages)) (N := big) s.enums wvE (fun i b => (i, b)) id (hN := Zbq (by omega)) (he := by simp [Zjf, Zm6, br, ix, vw, vs, ln, lxe, wa, mpu]) (hs := fun i x hx => by
   have g1 := Zdq hx
   have g0 := (Yg.1 hx).1
   have g2 : i + 1 < 9223372036854775808 := by omega
   dsimp only [Zjf, Zm6, br, ix, vw, vs, ln, lxe, wa, mpu]
   simp only [g1, g2, hx, decide_true, if_true, Option.bind_some, ZiL])
  exact this
 dsimp only [Zck, ZpL, Zrb, Zrk, Zrg, vz, vw, lr, lc, eqL]
 rw [q1]
 simp only [Option.bind_some, Sum.elim_inl, q2]
 rfl
section
variable {s : Scm} {w : Web} (hw : WOk s w) (h : Fw s)
include hw
theorem m62 (f : Fld) : ZbX w f = some (toF s f) := by
 dsimp only [ZbX, Zql, vw, lr, mlk]
 rw [hw.im]
 rfl
theorem m66 (f : Fld) : Zbk w f = some (ldF s f) := by
 dsimp only [Zbk, ZqS, vw, lr, cl, mlg]
 simp only [m62 hw, Option.bind_some, hw.e]
 rfl
include h
theorem m56 (n : ByteArray) : ZaT w n = some (Zbg s n) := by
 have hl := h.fl n
 have e := hw.fl n
 have q1 : Zar (Zjn w (lkM n w.messages)) big ([], 0) = some (.inl (Zbg s n)) := by
  have := Zdv (B := Zjn w (lkM n w.messages)) (N := big) (ZgG s n) (fun p => (p.filter (toF s)).map fun f => f.type.name) (fun i b => (b, i)) id (hN := Zbq (by omega)) (he := by simp [Zjn, Zox, br, ix, vz, vw, vs, ln, lxe, ap, cl, wa, fl, e]) (hs := fun i x hx => by
   have g1 := Zdq hx
   have g0 := (Yg.1 hx).1
   have g2 : i + 1 < 9223372036854775808 := by omega
   have g3 : ((((ZgG s n).take i).filter (toF s)).map fun f => f.type.name).length < 549755813887 := by
    rw [Ym]
    have := Y0 (toF s) ((ZgG s n).take i)
    rw [YW] at this
    omega
   dsimp only [Zjn, Zox, br, ix, vz, vw, vs, ln, lxe, ap, cl, wa, fl]
   simp only [e, g1, g2, g3, hx, m62 hw, decide_true, if_true, Option.bind_some, List.filter_append, YaC]
   cases hb : toF s x <;> simp [Ybj, hb])
  exact this
 dsimp only [ZaT, Zsk, Zrt, ZqW, Zri, vz, vw, lr, lc, mv, mlk, fl, eqL]
 rw [q1]
 rfl
theorem m50 (n : ByteArray) : Zbu w n = some (ZcM (Zcr s n)) := by
 have hl := h.fl n
 have e := hw.fl n
 have q1 : Zar (Zi9 w (lkM n w.messages)) big ([], 0) = some (.inl (Zcr s n)) := by
  have := Zdv (B := Zi9 w (lkM n w.messages)) (N := big) (ZgG s n) (fun p => (p.filter (ldF s)).map fun f => f.type.name) (fun i b => (b, i)) id (hN := Zbq (by omega)) (he := by simp [Zi9, Zos, br, ix, vz, vw, vs, ln, lxe, ap, cl, wa, fl, e]) (hs := fun i x hx => by
   have g1 := Zdq hx
   have g0 := (Yg.1 hx).1
   have g2 : i + 1 < 9223372036854775808 := by omega
   have g3 : ((((ZgG s n).take i).filter (ldF s)).map fun f => f.type.name).length < 549755813887 := by
    rw [Ym]
    have := Y0 (ldF s) ((ZgG s n).take i)
    rw [YW] at this
    omega
   dsimp only [Zi9, Zos, br, ix, vz, vw, vs, ln, lxe, ap, cl, wa, fl]
   simp only [e, g1, g2, g3, hx, m66 hw, decide_true, if_true, Option.bind_some, List.filter_append, YaC]
   cases hb : ldF s x <;> simp [Ybj, hb])
  exact this
 have hu := h.ul n
 have hs : (Zez (Zcr s n)).length = (Zcr s n).length := (Zb3 _).length_eq
 dsimp only [Zbu, Zp1, Zqu, ZpI, ZqE, ZpJ, Zq7, Zqj, ZpC, vz, vw, lr, lc, rn, mlk, fl, fr, eqL]
 rw [q1]
 simp only [Option.bind_some, Sum.elim_inl]
 unfold Za8 ZaU
 rw [if_pos (by omega)]
 simp only [Option.bind_some, hs, if_true]
 rw [if_pos (by omega)]
 rfl
end
theorem m29 {s : Scm} (h : Fw s) (n : ByteArray) : ZcC s n = some (ZcM (Zcr s n)) := by
 dsimp only [ZcC, Zqs, vw, lr, cl]
 simp only [m32 h, Option.bind_some, m50 (Zkf s) h]
theorem ZdN {l r : List ByteArray} (h : l.Nodup) (hs : ∀ x ∈ l, x ∈ r) : l.length ≤ r.length := List.Nodup.length_le_of_subset h hs
theorem Zfs {α : Type} : ∀ {l : List α} {i : Nat} {x : α}, l[i]? = some x → (x :: l.eraseIdx i).Perm l
 | a :: l, 0, x, h => by simp at h; subst h; exact .refl _
 | a :: l, i + 1, x, h => by
  simp at h
  exact (List.Perm.swap ..).trans ((Zfs h).cons a)
inductive Rch (s : Scm) (a : ByteArray) : ByteArray → Prop
 | one {b : ByteArray} : b ∈ Zbg s a → Rch s a b
 | tl {b c : ByteArray} : Rch s a b → c ∈ Zbg s b → Rch s a c
theorem Rch.isM {s : Scm} {a b : ByteArray} (h : Rch s a b) : isM s b = true := by
 cases h with
 | one h => exact ZiD h
 | tl _ h => exact ZiD h
theorem Rch.trans {s : Scm} {a b c : ByteArray} (h : Rch s a b) (k : Rch s b c) : Rch s a c := by
 induction k with
 | one k => exact .tl h k
 | tl _ k ih => exact .tl ih k
theorem Rch.hd {s : Scm} {a b c : ByteArray} (h : b ∈ Zbg s a) (k : Rch s b c) : Rch s a c := (Rch.one h).trans k
structure ROk (s : Scm) (n : ByteArray) (r : List (ByteArray × Bool)) : Prop where
 i : ∀ x, lkM x r = true ↔ Rch s n x
 k : ∀ x, x ∈ Zb2 r ↔ lkM x r = true
 nd : (Zb2 r).Nodup
 l : r.length ≤ 8
structure RInv (s : Scm) (n : ByteArray) (todo : List ByteArray) (r : List (ByteArray × Bool)) : Prop where
 t : ∀ x ∈ todo, Rch s n x
 o : ∀ x, lkM x r = true → Rch s n x
 c0 : ∀ x ∈ Zbg s n, x ∈ todo ∨ lkM x r = true
 c : ∀ y, lkM y r = true → ∀ x ∈ Zbg s y, x ∈ todo ∨ lkM x r = true
 k : ∀ x, x ∈ Zb2 r ↔ lkM x r = true
 nd : (Zb2 r).Nodup
theorem Zfp (x y : ByteArray) (r : List (ByteArray × Bool)) : lkM y (ZbN x true r) = true ↔ x = y ∨ lkM y r = true := by
 unfold lkM
 rw [Zd3]
 by_cases h : x = y <;> simp [h]
def Zoc (s : Scm) (r : List (ByteArray × Bool)) : Nat := ((nmM s).filter fun x => !lkM x r).length
theorem ZnC {s : Scm} {x : ByteArray} {r : List (ByteArray × Bool)} (h : isM s x = true) (hx : lkM x r = false) : Zoc s (ZbN x true r) < Zoc s r := by
 unfold Zoc
 have hm := Zdf.1 h
 have e : ((nmM s).filter fun y => !lkM y (ZbN x true r)) = ((nmM s).filter fun y => !lkM y r).filter fun y => decide (y ≠ x) := by
  rw [List.filter_filter]
  refine List.filter_congr fun y _ => ?_
  have := Zfp x y r
  by_cases e : x = y
  ·subst e
   simp [this.2 (.inl rfl)]
  ·have e2 : ¬ y = x := fun q => e q.symm
   cases hy : lkM y r with
   | true => simp [this.2 (.inr hy)]
   | false =>
    have : lkM y (ZbN x true r) = false := by
     cases hq : lkM y (ZbN x true r) with
     | false => rfl
     | true => rcases this.1 hq with q | q; exact absurd q e; rw [hy] at q; cases q
    simp [this, e2]
 rw [e]
 refine Nat.lt_of_le_of_ne (Y0 _ _) fun q => ?_
 rw [List.length_filter_eq_length_iff] at q
 have := q x (YE.2 ⟨hm, by rw [hx]; rfl⟩)
 simp at this
section
variable {s : Scm} {w : Web} (hw : WOk s w) (h : Fw s)
include hw h
theorem m34 (n : ByteArray) : ∃ r, Zbj w n = some r ∧ ROk s n r := by
 have hl8 : (nmM s).length ≤ 8 := by unfold nmM; rw [Ym]; exact h.m
 have q1 := ZcR (B := ZjY w) (I := fun k v => Zoc s v.2 * 11 + v.1.length = k ∧ k ≤ 98 ∧ RInv s n v.1 v.2) (Q := fun o => Sum.elim (fun r => ROk s n r) (fun _ => False) o) (fun k v hI => by
  obtain ⟨r2, r3⟩ := v
  obtain ⟨h1, h2, hI⟩ := hI
  simp only at h1 hI
  cases r2 with
  | nil =>
   refine ⟨.ex r3, by simp [ZjY, Zml, Zmt, Zmo, Zkl, Zkm, Zlz, Zmm, Zmn, br, vz, vw, vs, ln, lxe, lc, ar, ir, ca, sR, rb, mlk, mpu, fl, eqN, Bd.c, Bd.vl], ?_⟩
   have hi : ∀ x, lkM x r3 = true ↔ Rch s n x := fun x => ⟨hI.o x, fun hr => by
    induction hr with
    | one hx => exact (hI.c0 _ hx).resolve_left (by simp)
    | tl _ hx ih => exact (hI.c _ ih _ hx).resolve_left (by simp)⟩
   refine ⟨hi, hI.k, hI.nd, ?_⟩
   have := ZdN hI.nd (r := nmM s) fun x hx => Zdf.1 ((hi x).1 ((hI.k x).1 hx)).isM
   simp only [Zb2, Ym] at this
   omega
  | cons x r2 =>
   simp only [Y8] at h1
   have hx := hI.t x (Yt ..)
   have g0 : (0 : Int) < ((r2.length + 1 : Nat) : Int) := by omega
   have hnl := h.nl x
   cases hk : lkM x r3 with
   | true =>
    refine ⟨.nx (r2, r3), by dsimp only [ZjY, Zml, Zmt, Zmo, Zkl, Zkm, Zlz, Zmm, Zmn, br, vz, vw, vs, ln, lxe, lc, ar, ir, ca, sR, rb, mlk, mpu, fl, eqN, Bd.c, Bd.vl]; simp [hk] <;> omega, Zoc s r3 * 11 + r2.length, by omega, rfl, by omega, ⟨fun y hy => hI.t y (List.mem_cons_of_mem _ hy), hI.o, fun y hy => ?_, fun z hz y hy => ?_, hI.k, hI.nd⟩⟩
    ·rcases hI.c0 y hy with q | q
     ·rcases Yp.1 q with rfl | q
      ·exact .inr hk
      ·exact .inl q
     ·exact .inr q
    ·rcases hI.c z hz y hy with q | q
     ·rcases Yp.1 q with rfl | q
      ·exact .inr hk
      ·exact .inl q
     ·exact .inr q
   | false =>
    have hp := ZnC (s := s) (x := x) (r := r3) hx.isM hk
    refine ⟨.nx (r2 ++ Zbg s x, ZbN x true r3), by dsimp only [ZjY, Zml, Zmt, Zmo, Zkl, Zkm, Zlz, Zmm, Zmn, br, vz, vw, vs, ln, lxe, lc, ar, ir, ca, sR, rb, mlk, mpu, fl, eqN, Bd.c, Bd.vl]; simp [hk, m56 hw h] <;> omega, Zoc s (ZbN x true r3) * 11 + (r2 ++ Zbg s x).length, by rw [List.length_append]; omega, rfl, by rw [List.length_append]; omega, ⟨fun y hy => ?_, fun y hy => ?_, fun y hy => ?_, fun z hz y hy => ?_, fun y => ?_, Zpb _ _ hI.nd⟩⟩
    ·rcases YM.1 hy with q | q
     ·exact hI.t y (List.mem_cons_of_mem _ q)
     ·exact .tl hx q
    ·rcases (Zfp x y r3).1 hy with rfl | q
     ·exact hx
     ·exact hI.o y q
    ·rw [Zfp]
     rcases hI.c0 y hy with q | q
     ·rcases Yp.1 q with rfl | q
      ·exact .inr (.inl rfl)
      ·exact .inl (YO _ q)
     ·exact .inr (.inr q)
    ·rw [Zfp]
     rcases (Zfp x z r3).1 hz with rfl | hz
     ·exact .inl (Yad _ hy)
     ·rcases hI.c z hz y hy with q | q
      ·rcases Yp.1 q with rfl | q
       ·exact .inr (.inl rfl)
       ·exact .inl (YO _ q)
      ·exact .inr (.inr q)
    ·rw [Zfp, ← hI.k y]
     rcases Zf5 x true r3 with ⟨a, e⟩ | ⟨a, e⟩
     ·rw [e]
      exact ⟨.inr, fun q => q.elim (fun q => q ▸ a) id⟩
     ·rw [e, YM, YN]
      exact ⟨fun q => q.elim .inr fun q => .inl q.symm, fun q => q.elim (fun q => .inr q.symm) .inl⟩) big (Zoc s [] * 11 + (Zbg s n).length) (Zbg s n, []) (Zbq (by
   have h1 : Zoc s [] ≤ (nmM s).length := Y0 _ _
   have := h.nl n
   omega)) ⟨rfl, by
   have h1 : Zoc s [] ≤ (nmM s).length := Y0 _ _
   have := h.nl n
   omega, ⟨fun x hx => .one hx, fun x hx => by simp [lkM, ZeS, Mv.z] at hx, fun x hx => .inl hx, fun y hy => by simp [lkM, ZeS, Mv.z] at hy, fun x => by simp [Zb2, lkM, ZeS, Mv.z], by simp [Zb2]⟩⟩
 obtain ⟨o, e, hq⟩ := q1
 cases o with
 | inr _ => exact hq.elim
 | inl r =>
  refine ⟨r, ?_, hq⟩
  dsimp only [Zbj, ZlF, ZkG, Zlv, Zsp, vz, vw, lr, lc, fl]
  simp only [m56 hw h, Option.bind_some, e, Sum.elim_inl]
end
theorem Zf8 {α : Type} (p : α → Bool) : ∀ l : List α, l.find? p = (l.findIdx? p).bind fun i => l[i]?
 | [] => rfl
 | x :: l => by
  rw [List.find?_cons, Ya7]
  cases h : p x with
  | true => simp
  | false =>
   rw [Zf8 p l]
   cases List.findIdx? p l <;> simp
theorem Zgd {α : Type} {p : α → Bool} : ∀ {l : List α}, (l.findIdx? p).isSome = l.any p
 | [] => rfl
 | x :: l => by
  rw [Ya7, List.any_cons, ← Zgd (l := l)]
  cases p x <;> simp
def ixM (s : Scm) (n : ByteArray) : Option Nat := s.messages.findIdx? fun m => decide (m.name = n)
def ixE (s : Scm) (n : ByteArray) : Option Nat := s.enums.findIdx? fun m => decide (m.name = n)
def zM : Msg := ⟨⟨#[]⟩, [], [], [], []⟩
def zE : Enm := ⟨⟨#[]⟩, false, [], [], []⟩
def ZmJ (s : Scm) (n : ByteArray) : Msg × Int := (ixM s n).elim (zM, -1) fun i => (s.messages.getD i zM, (i : Int))
def ZsG (s : Scm) (n : ByteArray) : Enm × Int := (ixE s n).elim (zE, -1) fun i => (s.enums.getD i zE, (i : Int))
theorem Zli (s : Scm) (n : ByteArray) : ZqO s n = (ixM s n).bind fun i => s.messages[i]? := Zf8 _ _
theorem ZoA {s : Scm} {n : ByteArray} {i : Nat} (h : ixM s n = some i) : i < s.messages.length := by
 unfold ixM at h
 rw [YaL] at h
 exact h.1
theorem Zn9 (s : Scm) (n : ByteArray) : (ixM s n).isSome = isM s n := by
 unfold isM
 rw [Zli]
 cases h : ixM s n with
 | none => rfl
 | some i => simp [Yc (ZoA h)]
theorem ZpB (s : Scm) (n : ByteArray) : (ZmJ s n).1.fields = ZgG s n := by
 unfold ZmJ ZgG
 rw [Zli]
 cases h : ixM s n with
 | none => rfl
 | some i => simp [Yc (ZoA h), YL]
theorem Zl5 (s : Scm) (n : ByteArray) : decide (0 ≤ (ZmJ s n).2) = isM s n := by
 rw [← Zn9]
 unfold ZmJ
 cases ixM s n with
 | none => rfl
 | some i => simp
theorem Zvx (s : Scm) (n : ByteArray) : decide ((ZmJ s n).2 < 0) = !isM s n := by
 rw [← Zl5]
 by_cases h : (ZmJ s n).2 < 0
 ·rw [decide_eq_true h, decide_eq_false (by omega)]; rfl
 ·rw [decide_eq_false h, decide_eq_true (by omega)]; rfl
theorem ZoT (s : Scm) (n : ByteArray) : decide (0 ≤ (ZsG s n).2) = isE s n := by
 have e : (ixE s n).isSome = isE s n := Zgd
 rw [← e]
 unfold ZsG
 cases ixE s n with
 | none => rfl
 | some i => simp
theorem ZsL (s : Scm) (n : ByteArray) : decide ((ZsG s n).2 < 0) = !isE s n := by
 rw [← ZoT]
 by_cases h : (ZsG s n).2 < 0
 ·rw [decide_eq_true h, decide_eq_false (by omega)]; rfl
 ·rw [decide_eq_false h, decide_eq_true (by omega)]; rfl
theorem m18 {s : Scm} (h : Fw s) (n : ByteArray) : ZaC s n = some (ZmJ s n) := by
 have hm := h.m
 have q1 := ZeI (B := ZmE s n) (N := big) s.messages (fun m => decide (m.name = n)) (fun i => (s.messages.getD i zM, (i : Int))) () (fun i x hx => by
  have g1 := Zdq hx
  have g0 := (Yg.1 hx).1
  have g2 : i + 1 < 9223372036854775808 := by omega
  dsimp only [ZmE, Zm2, br, ix, vz, vw, vs, lrt, ln, lxe, wa, eqL]
  simp only [g1, g2, hx, decide_true, if_true, Option.bind_some, YL, Y7]
  cases decide (x.name = n) <;> simp) (by simp [ZmE, Zm2, br, ix, vz, vw, vs, lrt, ln, lxe, wa, eqL]) (Zbq (by omega))
 dsimp only [ZaC, ZrZ, Zqb, Zrr, vw, lr, lc]
 rw [q1]
 unfold ZmJ ixM
 cases s.messages.findIdx? fun m => decide (m.name = n) <;> rfl
theorem m46 {s : Scm} (h : Fw s) (n : ByteArray) : ZaZ s n = some (ZsG s n) := by
 have hm := h.e
 have q1 := ZeI (B := ZkE s n) (N := big) s.enums (fun m => decide (m.name = n)) (fun i => (s.enums.getD i zE, (i : Int))) () (fun i x hx => by
  have g1 := Zdq hx
  have g0 := (Yg.1 hx).1
  have g2 : i + 1 < 9223372036854775808 := by omega
  dsimp only [ZkE, Zn4, br, ix, vz, vw, vs, lrt, ln, lxe, wa, eqL]
  simp only [g1, g2, hx, decide_true, if_true, Option.bind_some, YL, Y7]
  cases decide (x.name = n) <;> simp) (by simp [ZkE, Zn4, br, ix, vz, vw, vs, lrt, ln, lxe, wa, eqL]) (Zbq (by omega))
 dsimp only [ZaZ, ZqF, ZrW, ZrX, vw, lr, lc]
 rw [q1]
 unfold ZsG ixE
 cases s.enums.findIdx? fun m => decide (m.name = n) <;> rfl
def ZsD (l : List ByteArray) (x : ByteArray) : Bool := l.any fun y => decide (y = x)
theorem Zh3 {l : List ByteArray} {x : ByteArray} : ZsD l x = true ↔ x ∈ l := by
 unfold ZsD
 simp [YI]
theorem m27 {l : List ByteArray} (h : l.length < 4611686018427387904) (x : ByteArray) : Za3 l x = some (ZsD l x) := by
 have q1 := ZeI (B := Zkp l x) (N := big) l (fun y => decide (y = x)) (fun i => true) () (fun i y hy => by
  have g1 := Zdq hy
  have g0 := (Yg.1 hy).1
  have g2 : i + 1 < 9223372036854775808 := by omega
  dsimp only [Zkp, ZnX, br, ix, vz, vs, lrt, ln, lxe, wa, eqL]
  simp only [g1, g2, hy, decide_true, if_true, Option.bind_some]
  cases decide (y = x) <;> simp) (by simp [Zkp, ZnX, br, ix, vz, vs, lrt, ln, lxe, wa, eqL]) (Zbq h)
 dsimp only [Za3, Zrm, ZrA, Zq1, lr, lc]
 rw [q1]
 unfold ZsD
 rw [← Zgd]
 cases l.findIdx? fun y => decide (y = x) <;> rfl
def Zbr (l : List ByteArray) (x : ByteArray) : List ByteArray := if ZsD l x = true then l else (l.takeWhile (fun y => sLt y x) ++ [x]) ++ l.drop (l.takeWhile fun y => sLt y x).length
theorem Zhk {α : Type} (p : α → Bool) (l : List α) : l.drop (l.takeWhile p).length = l.dropWhile p := by
 conv => lhs; arg 2; rw [← Yaf (p := p) (l := l)]
 rw [List.drop_left]
theorem Zg2 (l : List ByteArray) (x : ByteArray) : (Zbr l x).length ≤ l.length + 1 := by
 unfold Zbr
 split
 ·omega
 ·rw [Zhk, List.length_append, List.length_append]
  have := congrArg List.length (Yaf (p := fun y => sLt y x) (l := l))
  rw [List.length_append] at this
  simp
  omega
theorem Zkg (l : List ByteArray) (x y : ByteArray) : y ∈ Zbr l x ↔ y = x ∨ y ∈ l := by
 unfold Zbr
 split
 ·rename_i h
  exact ⟨.inr, fun h2 => h2.elim (fun e => e ▸ Zh3.1 h) id⟩
 ·rw [Zhk]
  have h2 : y ∈ l ↔ y ∈ l.takeWhile (fun y => sLt y x) ∨ y ∈ l.dropWhile (fun y => sLt y x) := by
   conv => lhs; rw [← Yaf (p := fun y => sLt y x) (l := l)]
   exact YM
  rw [YM, YM, YN, h2]
  constructor
  ·rintro ((h | h) | h)
   ·exact .inr (.inl h)
   ·exact .inl h
   ·exact .inr (.inr h)
  ·rintro (h | h | h)
   ·exact .inl (.inr h)
   ·exact .inl (.inl h)
   ·exact .inr h
theorem Zpx {p : ByteArray → Bool} {x : ByteArray} : ∀ {l : List ByteArray}, x ∈ l.takeWhile p → p x = true
 | [], h => by cases h
 | y :: l, h => by
  rw [Ya0] at h
  split at h
  ·rename_i hy
   rcases Yp.1 h with rfl | h
   ·exact hy
   ·exact Zpx h
  ·cases h
theorem ZlV {l : List ByteArray} (h : Asc l) (x : ByteArray) : Asc (Zbr l x) := by
 unfold Zbr
 split
 ·exact h
 ·rename_i hx
  have hs : x ∉ l := fun q => hx (Zh3.2 q)
  rw [Zhk, Y5]
  have e := Yaf (p := fun y => sLt y x) (l := l)
  have h' := h
  rw [← e] at h'
  obtain ⟨h1, h2, h3⟩ := List.pairwise_append.1 h'
  have t2 : ∀ y ∈ l.dropWhile (fun y => sLt y x), sLt x y = true := fun y hy => by
   cases hd : l.dropWhile (fun y => sLt y x) with
   | nil => rw [hd] at hy; cases hy
   | cons b r =>
    have hb : sLt b x = false := by
     have := List.head?_dropWhile_not (fun y => sLt y x) l
     rw [hd] at this
     simpa using this
    have hbl : b ∈ l := by
     rw [← e, hd]
     exact Yad _ (Yt ..)
    have hsb : sLt x b = true := Zrp hb fun e => hs (e ▸ hbl)
    rw [hd] at hy h2
    rcases Yp.1 hy with rfl | hy
    ·exact hsb
    ·exact Zo3 hsb (List.rel_of_pairwise_cons h2 hy)
  refine List.pairwise_append.2 ⟨h1, Yau.2 ⟨t2, h2⟩, fun a ha b hb => ?_⟩
  rcases Yp.1 hb with rfl | hb
  ·exact Zpx (p := fun y => sLt y b) ha
  ·exact h3 a ha b hb
theorem ZhY {α : Type} {p : α → Bool} : ∀ {l : List α} {i : Nat}, (∀ y ∈ l.take i, p y = true) → (∀ y, l[i]? = some y → p y = false) → l.takeWhile p = l.take i
 | [], i, _, _ => by simp
 | x :: l, 0, _, h => by rw [Ya0, h x rfl]; rfl
 | x :: l, i + 1, h1, h2 => by
  rw [Ya0, h1 x (by simp), List.take_succ_cons]
  simp only [if_true]
  rw [ZhY (i := i) (fun y hy => h1 y (by simp [hy])) (fun y hy => h2 y (by simpa using hy))]
theorem m53 {l : List ByteArray} (h : l.length ≤ 1000000) (x : ByteArray) : Za0 l x = some (Zbr l x) := by
 have q1 := ZcR (B := Zjt l x) (I := fun k v => k + v.2 = l.length ∧ v.1 = l.take v.2 ∧ ∀ y ∈ v.1, sLt y x = true) (Q := fun o => o = .inl (l.takeWhile fun y => sLt y x)) (fun k v hI => by
  obtain ⟨r, i⟩ := v
  obtain ⟨h1, h2, h3⟩ := hI
  simp only at h1 h2 h3
  subst h2
  have hl : (l.take i).length = i := by rw [YW]; omega
  cases hk : l[i]? with
  | none =>
   have hge := Yan.1 hk
   refine ⟨.ex (l.take i), by dsimp only [Zjt, ZkF, br, ix, ixg, vz, vw, vs, ln, lxe, ap, wa, fl, eqL]; simp [show ¬ (i : Int) < (l.length : Int) by omega], ?_⟩
   rw [ZhY h3 (fun y hy => by rw [hk] at hy; cases hy)]
  | some y =>
   have g1 := Zdq hk
   obtain ⟨g0, rfl⟩ := Yg.1 hk
   have g2 : i + 1 < 9223372036854775808 := by omega
   have e : l.getD i (Rw.z) = l[i] := by rw [YL, hk]; rfl
   cases hy : sLt l[i] x with
   | false =>
    refine ⟨.ex (l.take i), by dsimp only [Zjt, ZkF, br, ix, ixg, vz, vw, vs, ln, lxe, ap, wa, fl, eqL]; simp [g1, g0, e, hy], ?_⟩
    rw [ZhY h3 (fun z hz => by rw [hk] at hz; cases hz; exact hy)]
   | true =>
    refine ⟨.nx (l.take i ++ [l[i]], i + 1), by dsimp only [Zjt, ZkF, br, ix, ixg, vz, vw, vs, ln, lxe, ap, wa, fl, eqL]; simp [g1, g0, g2, e, hy, hk, hl]; omega, k - 1, by omega, by simp only; omega, ?_, fun z hz => ?_⟩
    ·simp only
     rw [Y2 g0]
    ·rcases YM.1 hz with q | q
     ·exact h3 z q
     ·rw [YN.1 q]; exact hy) big l.length ([], 0) (Zbq (by omega)) ⟨rfl, by simp, fun y hy => by cases hy⟩
 obtain ⟨o, e, rfl⟩ := q1
 have hlt : (l.takeWhile fun y => sLt y x).length ≤ l.length := (List.takeWhile_sublist _).length_le
 dsimp only [Za0, ZpY, Zq9, ZpR, ZrB, ZqC, br, vz, vw, lr, lc, ap, aq, cl, sL, fl, fr, eqN, Bd.c, Bd.vl]
 simp only [m27 (l := l) (by omega), Option.bind_some, e, Sum.elim_inl]
 unfold Zbr
 cases ZsD l x with
 | true => rfl
 | false =>
  simp [hlt]
  exact ⟨by omega, by omega, Yav (by rw [Yai]; exact Yf _)⟩
theorem ZfN (l a : List ByteArray) : (l.foldl Zbr a).length ≤ a.length + l.length := by
 induction l generalizing a with
 | nil => exact Yf _
 | cons x l ih => rw [Yat]; have := ih (Zbr a x); have := Zg2 a x; simp; omega
theorem Zic (l a : List ByteArray) (y : ByteArray) : y ∈ l.foldl Zbr a ↔ y ∈ l ∨ y ∈ a := by
 induction l generalizing a with
 | nil => simp
 | cons x l ih => rw [Yat, ih, Zkg, Yp, or_assoc, or_left_comm]
theorem Zib {l a : List ByteArray} (h : Asc a) : Asc (l.foldl Zbr a) := by
 induction l generalizing a with
 | nil => exact h
 | cons x l ih => rw [Yat]; exact ih (ZlV h x)
theorem Zdm (l : List ByteArray) : l.foldl Zbr [] = ZcM l := (ZlK (Zib .nil) fun x => by rw [Zic]; simp).symm
theorem ZcQ (l : List ByteArray) : (ZcM l).length ≤ l.length := by rw [← Zdm]; have := ZfN l []; simpa using this
theorem Zb9 {α ρ : Type} {B : List ByteArray × Nat → Option (Lv (List ByteArray × Nat) (List ByteArray) ρ)} (l : List α) (c : α → Option ByteArray) (a : List ByteArray) (ha : a.length + l.length ≤ 1000000)
  (hs : ∀ (i : Nat) b x, l[i]? = some x → b.length ≤ 1000000 → i + 1 < 9223372036854775808 → (i : Int) < (l.length : Int) → B (b, i) = some (.nx ((c x).elim b (Zbr b), i + 1))) (he : ∀ b, B (b, l.length) = some (.ex b)) : Zar B big (a, 0) = some (.inl ((l.filterMap c).foldl Zbr a)) := by
 have := ZeU (B := B) (N := big) l (fun i b => (b, i)) (fun i b => b.length ≤ a.length + i) (fun b x => (.inl ((c x).elim b (Zbr b)) : List ByteArray ⊕ ρ)) id (fun i b x hx hI => by
  have hlt := (Yg.1 hx).1
  refine ⟨hs i b x hx (by omega) (by omega) (Zdq hx), fun b' e => ?_⟩
  cases e
  cases c x with
  | none => simp; omega
  | some y => have := Zg2 b y; simp; omega) (fun b _ => he b) a (by omega) (Zbq (by omega))
 rw [this, Zdl (fun b x => (c x).elim b (Zbr b)) (fun _ _ => rfl)]
 congr 2
 clear this hs he ha
 show _ = _
 induction l generalizing a with
 | nil => rfl
 | cons x l ih =>
  rw [Yat, ih, List.filterMap_cons]
  cases c x <;> rfl
section
variable {s : Scm} (h : Fw s)
include h
theorem m19 (f : Fld) : ZaO s f = some (if ldF s f = true then (f.type.name, true) else (⟨#[]⟩, false)) := by
 have e1 := Zvx s f.type.name
 have e2 := ZsL s f.type.name
 have hne : ¬ (10 : Int) = 9 := by decide
 unfold ldF toF
 dsimp only [ZaO, ZpV, br, vw, lr, cl]
 simp only [m18 h, m46 h, Option.bind_some, e1, e2]
 by_cases h1 : f.type.kind = 10
 ·simp only [h1, hne, decide_true, decide_false, if_true, if_false, Bool.and_true, Bool.false_and, Bool.or_false]
  cases isM s f.type.name <;> simp
 ·by_cases h2 : f.type.kind = 9
  ·simp only [h1, h2, decide_true, decide_false, if_true, if_false, Bool.and_false, Bool.true_and, YaM]
   cases isE s f.type.name <;> simp
  ·simp [h1, h2]
omit h in
theorem Zd2 {α β : Type} (p : α → Bool) (g : α → β) (l : List α) : l.filterMap (fun x => if p x = true then some (g x) else none) = (l.filter p).map g := by
 induction l with
 | nil => rfl
 | cons x l ih =>
  rw [List.filterMap_cons, Ybj, ih]
  cases p x <;> rfl
theorem m30 (n : ByteArray) : ZaX s n = some (ZcM (Zcr s n)) := by
 have hl := h.fl n
 have e := ZpB s n
 have q1 := Zb9 (B := Zmd s (ZmJ s n)) (ZgG s n) (fun f => if ldF s f = true then some f.type.name else none) [] (by simp; omega) (fun i b x hx hb g2 g1 => by
  dsimp only [Zmd, Zns, br, ix, vz, vw, vs, v2, ln, lxe, cl, wa, eqL]
  simp only [e, g1, g2, hx, m19 h, decide_true, if_true, Option.bind_some]
  cases ldF s x with
  | true => simp [m53 hb]
  | false => simp) (fun b => by dsimp only [Zmd, Zns, br, ix, vz, vw, vs, v2, ln, lxe, cl, wa, eqL]; simp [e])
 rw [Zd2] at q1
 dsimp only [ZaX, Zqr, Zrc, ZrK, ZrE, vz, vw, lr, lc, cl, fz]
 simp only [m18 h, Option.bind_some, q1, Sum.elim_inl]
 rw [Zdm]
 rfl
theorem m54 (n : ByteArray) : ZaD s n = some (isM s n || isE s n) := by
 dsimp only [ZaD, ZqI, vw, lr, cl]
 simp only [m18 h, m46 h, Option.bind_some, Zl5, ZoT]
theorem Zw3 (f : Fld) : (ldF s f && decide (f.type.kind = 10)) = toF s f := by
 unfold ldF toF
 by_cases h1 : f.type.kind = 10
 ·simp [h1]
 ·simp [h1]
theorem m61 (n : ByteArray) : ZaY s n = some (ZcM (Zbg s n)) := by
 have hl := h.fl n
 have e := ZpB s n
 have q1 := Zb9 (B := Zlr s (ZmJ s n)) (ZgG s n) (fun f => if toF s f = true then some f.type.name else none) [] (by simp; omega) (fun i b x hx hb g2 g1 => by
  have g0 := (Yg.1 hx).1
  have e3 : (ZgG s n).getD i Rw.z = x := by rw [YL, hx]; rfl
  have e4 := Zw3 h x
  dsimp only [Zlr, Zot, br, ix, ixg, vz, vw, vs, v2, ln, lxe, cl, wa, eqL]
  simp only [e, g1, g2, hx, m19 h, decide_true, if_true, Option.bind_some, Int.toNat_natCast, e3]
  rw [← e4]
  cases hq : ldF s x with
  | true =>
   by_cases h2 : x.type.kind = 10
   ·simp [m53 hb, h2, g0]
   ·simp [h2, g0]
  | false => simp) (fun b => by dsimp only [Zlr, Zot, br, ix, ixg, vz, vw, vs, v2, ln, lxe, cl, wa, eqL]; simp [e])
 rw [Zd2] at q1
 dsimp only [ZaY, Zr7, Zqv, Zsj, Zqt, vz, vw, lr, lc, cl, fz]
 simp only [m18 h, Option.bind_some, q1, Sum.elim_inl]
 rw [Zdm]
 rfl
def ZmK (s : Scm) (v : List ByteArray) : List ByteArray := v.foldl (fun a y => (ZcM (Zbg s y)).foldl Zbr a) v
omit h in
theorem Zhv (g : ByteArray → List ByteArray) : ∀ (v a : List ByteArray), (Asc a → Asc (v.foldl (fun a y => (g y).foldl Zbr a) a)) ∧ ∀ x, x ∈ v.foldl (fun a y => (g y).foldl Zbr a) a ↔ x ∈ a ∨ ∃ y ∈ v, x ∈ g y
 | [], a => ⟨id, fun x => by simp⟩
 | y :: v, a => by
  obtain ⟨p, q⟩ := Zhv g v ((g y).foldl Zbr a)
  refine ⟨fun ha => p (Zib ha), fun x => ?_⟩
  rw [Yat, q, Zic]
  simp only [Yp, exists_eq_or_imp, or_assoc, or_left_comm]
theorem ZwF (v : List ByteArray) (hv : v.length ≤ 8) : Zar (Zi7 s v) big (v, 0) = some (.inl (ZmK s v)) := by
 have := ZeU (B := Zi7 s v) (N := big) v (fun i b => (b, i)) (fun i b => b.length ≤ 8 + i * 10) (fun b y => (.inl ((ZcM (Zbg s y)).foldl Zbr b) : List ByteArray ⊕ List ByteArray)) id (fun i b y hy hI => by
  have g1 := Zdq hy
  have g0 := (Yg.1 hy).1
  have g2 : i + 1 < 9223372036854775808 := by omega
  have h1 := ZfN (ZcM (Zbg s y)) b
  have h2 := ZcQ (Zbg s y)
  have h3 := h.nl y
  have q := Zb9 (B := Zl6 s v i (ZcM (Zbg s y))) (ZcM (Zbg s y)) some b (by omega) (fun j c x hx hc g4 g3 => by
   dsimp only [Zl6, ZnN, br, ix, vz, vs, ln, lxe, cl, wa, eqL]
   simp only [g3, g4, hx, m53 hc, decide_true, if_true, Option.bind_some, Option.elim_some]) (fun c => by dsimp only [Zl6, ZnN, br, ix, vz, vs, ln, lxe, cl, wa, eqL]; simp)
  rw [List.filterMap_some] at q
  refine ⟨?_, fun b' e => by cases e; omega⟩
  dsimp only [Zi7, Znw, Zok, ZnG, br, ix, vz, vs, ln, lxe, lc, cl, wa, eqL]
  simp only [g1, g2, hy, m61 h, q, decide_true, if_true, Option.bind_some, Sum.elim_inl]) (fun b _ => by dsimp only [Zi7, Znw, Zok, ZnG, br, ix, vz, vs, ln, lxe, lc, cl, wa, eqL]; simp) v (by omega) (Zbq (by omega))
 rw [this, Zdl (fun b y => (ZcM (Zbg s y)).foldl Zbr b) (fun _ _ => rfl)]
 rfl
end
structure AOk (s : Scm) (ns : List ByteArray) (l : List ByteArray) : Prop where
 a : Asc l
 m : ∀ x, x ∈ l ↔ (x ∈ ns ∧ isM s x = true) ∨ ∃ y ∈ ns, isM s y = true ∧ Rch s y x
theorem AOk.len {s : Scm} (h : Fw s) {ns l : List ByteArray} (k : AOk s ns l) : l.length ≤ 8 := by
 have := ZdN (ZcY k.a) (r := nmM s) fun x hx => Zdf.1 (by
  rcases (k.m x).1 hx with ⟨_, q⟩ | ⟨y, _, _, q⟩
  ·exact q
  ·exact q.isM)
 have h2 := h.m
 unfold nmM at this
 rw [Ym] at this
 omega
theorem Zuh {l r : List ByteArray} (hl : l.Nodup) (hs : ∀ x ∈ l, x ∈ r) (hn : r.length ≤ l.length) (hr : r.Nodup) : ∀ x ∈ r, x ∈ l := fun x hx => by
 apply YaD
 intro hc
 have := ZdN (l := x :: l) (r := r) (Ybn.2 ⟨hc, hl⟩) fun y hy => by
  rcases Yp.1 hy with rfl | hy
  ·exact hx
  ·exact hs y hy
 simp at this
 omega
theorem m55 {s : Scm} (h : Fw s) (ns : List ByteArray) (hn : ns.length ≤ 1000) : ∃ l, Za5 s ns = some l ∧ AOk s ns l := by
 have q1 := Zb9 (B := Zkx s ns) ns (fun x => if isM s x = true then some x else none) [] (by simp; omega) (fun i b x hx hb g2 g1 => by
  dsimp only [Zkx, Znh, Znd, ZnA, Zej, ZmX, br, ix, vz, vw, vs, v2, ln, lxe, lc, cl, wa, du, eqL]
  simp only [g1, g2, hx, m18 h, Zl5, decide_true, if_true, Option.bind_some]
  cases isM s x with
  | true => simp [m53 hb]
  | false => simp) (fun b => by dsimp only [Zkx, Znh, Znd, ZnA, Zej, ZmX, br, ix, vz, vw, vs, v2, ln, lxe, lc, cl, wa, du, eqL]; simp)
 have e0 : ns.filterMap (fun x => if isM s x = true then some x else none) = ns.filter (isM s) := by
  have := Zd2 (isM s) (fun x : ByteArray => x) ns
  rwa [List.map_id'] at this
 rw [e0, Zdm] at q1
 obtain ⟨v0, hv0⟩ : ∃ v0, v0 = ZcM (ns.filter (isM s)) := ⟨_, rfl⟩
 rw [← hv0] at q1
 have a0 : Asc v0 := hv0 ▸ ZfL _
 have mem0 : ∀ x, x ∈ v0 ↔ x ∈ ns ∧ isM s x = true := fun x => by rw [hv0, ZbB, YE]
 have hnm : (nmM s).length ≤ 8 := by unfold nmM; rw [Ym]; exact h.m
 have q2 := ZcR (B := Zkh s) (I := fun k v => Asc v.1 ∧ (∀ x ∈ v0, x ∈ v.1) ∧ (∀ x ∈ v.1, x ∈ v0 ∨ ∃ y ∈ v0, Rch s y x) ∧ (v.2 = false → ∀ y ∈ v.1, ∀ x ∈ Zbg s y, x ∈ v.1) ∧ (v.2 = true → k + v.1.length = 10) ∧ (v.2 = false → k = 0)) (Q := fun o => Sum.elim (fun l => AOk s ns l) (fun _ => False) o) (fun k v hI => by
  obtain ⟨v, ag⟩ := v
  obtain ⟨i1, i2, i3, i4, i5, i6⟩ := hI
  simp only at i1 i2 i3 i4 i5 i6
  have hM : ∀ x ∈ v, isM s x = true := fun x hx => by
   rcases i3 x hx with q | ⟨y, _, q⟩
   ·exact ((mem0 x).1 q).2
   ·exact q.isM
  have hv8 : v.length ≤ 8 := YS (ZdN (ZcY i1) fun x hx => Zdf.1 (hM x hx)) hnm
  cases ag with
  | false =>
   refine ⟨.ex v, by dsimp only [Zkh, Zio, Zii, ZiI, ZiQ, br, vz, ln, lxe, lc, eqL]; simp, i1, fun x => ⟨fun hx => ?_, fun hx => ?_⟩⟩
   ·rcases i3 x hx with q | ⟨y, hy, q⟩
    ·exact .inl ((mem0 x).1 q)
    ·exact .inr ⟨y, ((mem0 y).1 hy).1, ((mem0 y).1 hy).2, q⟩
   ·have hcl : ∀ y ∈ v, ∀ x, Rch s y x → x ∈ v := fun y hy x hr => by
     induction hr with
     | one q => exact i4 rfl y hy _ q
     | tl _ q ih => exact i4 rfl _ ih _ q
    rcases hx with q | ⟨y, hy, hm, q⟩
    ·exact i2 x ((mem0 x).2 q)
    ·exact hcl y (i2 y ((mem0 y).2 ⟨hy, hm⟩)) x q
  | true =>
   have q3 := ZwF h v hv8
   obtain ⟨g1, g2⟩ := Zhv (fun y => ZcM (Zbg s y)) v v
   have g1 : Asc (ZmK s v) := g1 i1
   have g2 : ∀ x, x ∈ ZmK s v ↔ x ∈ v ∨ ∃ y ∈ v, x ∈ Zbg s y := fun x => by
    have := g2 x
    simp only [ZbB] at this
    exact this
   have hR : ∀ x ∈ ZmK s v, x ∈ v0 ∨ ∃ y ∈ v0, Rch s y x := fun x hx => by
    rcases (g2 x).1 hx with q | ⟨y, hy, q⟩
    ·exact i3 x q
    ·rcases i3 y hy with p | ⟨z, hz, p⟩
     ·exact .inr ⟨y, p, .one q⟩
     ·exact .inr ⟨z, hz, .tl p q⟩
   have hr8 : (ZmK s v).length ≤ 8 := YS (ZdN (ZcY g1) fun x hx => Zdf.1 (by
    rcases hR x hx with q | ⟨y, _, q⟩
    ·exact ((mem0 x).1 q).2
    ·exact q.isM)) hnm
   have hge : v.length ≤ (ZmK s v).length := ZdN (ZcY i1) fun x hx => (g2 x).2 (.inl hx)
   have i5 := i5 rfl
   refine ⟨.nx (ZmK s v, decide ((v.length : Int) < ((ZmK s v).length : Int))), by dsimp only [Zkh, Zio, Zii, ZiI, ZiQ, br, vz, ln, lxe, lc, eqL]; simp [q3], if v.length < (ZmK s v).length then 10 - (ZmK s v).length else 0, by split <;> omega, g1, fun x hx => (g2 x).2 (.inl (i2 x hx)), hR, fun hf y hy x hx => ?_, fun hf => ?_, fun hf => ?_⟩
   ·have hlt := of_decide_eq_false hf
    have hall := Zuh (ZcY i1) (fun x hx => (g2 x).2 (.inl hx)) (by omega) (ZcY g1)
    exact (g2 x).2 (.inr ⟨y, hall y hy, hx⟩)
   ·have := of_decide_eq_true hf
    rw [if_pos (by omega)]
    simp only
    omega
   ·have := of_decide_eq_false hf
    rw [if_neg (by omega)]) big (10 - v0.length) (v0, true) (Zbq (by omega)) ⟨a0, fun x hx => hx, fun x hx => .inl hx, fun q => (by cases q), fun _ => (by
   have := YS (ZdN (ZcY a0) fun x hx => Zdf.1 ((mem0 x).1 hx).2) hnm
   simp only
   omega), fun q => (by cases q)⟩
 obtain ⟨o, e, hq⟩ := q2
 cases o with
 | inr _ => exact hq.elim
 | inl l =>
  refine ⟨l, ?_, hq⟩
  dsimp only [Za5, Zlg, ZkI, Zko, Zlj, Zmi, vz, vw, lr, lc, fz]
  simp only [q1, e, Option.bind_some, Sum.elim_inl]
section
variable {s : Scm} (h : Fw s)
include h
structure ClOk (s : Scm) (ns : List ByteArray) (l : List ByteArray) : Prop where
 a : Asc l
 m : ∀ x, x ∈ l ↔ (x ∈ ns ∧ (isM s x = true ∨ isE s x = true)) ∨ ∃ n ∈ ns, isM s n = true ∧ (x ∈ Zcr s n ∨ ∃ y, Rch s n y ∧ x ∈ Zcr s y)
end
end Go.Proofs.Ythhipejbnbochaa
namespace Go.Proofs.Ythhipejbnbochaa
set_option linter.all false
open Go Go.Eng
set_option maxRecDepth 100000 in
theorem awk : Zbd = some true := by kernel_rfl
end Go.Proofs.Ythhipejbnbochaa
