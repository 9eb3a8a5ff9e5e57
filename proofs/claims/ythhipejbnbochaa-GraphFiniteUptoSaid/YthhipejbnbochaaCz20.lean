/-
  What is proved: the second form of wireschemalaw13.GraphFinite: the law returns true and leaves its arguments as they were.
  Condition: the arguments are together of bulk at most 1048576 (the given second form); nothing else.
-/
import Derived.Test.YthhipejbnbochaaCz14
import Derived.Test.YthhipejbnbochaaCz15
import Derived.Test.YthhipejbnbochaaCz19
import Derived.Test.YthhipejbnbochaaCz13
import Derived.Test.YthhipejbnbochaaRows
import Derived.WalkKit
import Derived.ProofKit
import Derived.OpenShut
import Derived.JoinedCond
import Derived.Test.YthhipejbnbochaaCz00
namespace Go.Eng
set_option linter.all false
open Go
section
variable {σ ξ ρ β γ : Type}
def ZfF (M : Option (List β)) (Q : β → Prop) : Prop := ∃ ys, M = some ys ∧ ys ≠ [] ∧ ∀ y ∈ ys, Q y
theorem ZfF.imp {M : Option (List β)} {Q R : β → Prop} (h : ZfF M Q) (k : ∀ y, Q y → R y) : ZfF M R := by
 obtain ⟨ys, a, b, c⟩ := h
 exact ⟨ys, a, b, fun y hy => k y (c y hy)⟩
theorem ZcU {y : β} {Q : β → Prop} (h : Q y) : ZfF (some [y]) Q := ⟨[y], rfl, by simp, fun z hz => by rw [YX.1 hz]; exact h⟩
theorem Zd1 {Q : β → Prop} : ∀ {l : List (Option (List β))}, l ≠ [] → (∀ x ∈ l, ZfF x Q) → ZfF (Zev l) Q
 | [], h, _ => absurd rfl h
 | x :: r, _, h => by
  obtain ⟨ys, rfl, b, c⟩ := h _ (Yv ..)
  by_cases hr : r = []
  ·subst hr
   exact ⟨ys ++ [], rfl, by simpa using b, fun y hy => c y (by simpa using hy)⟩
  ·obtain ⟨zs, a', b', c'⟩ := Zd1 hr fun x hx => h x (Yp _ hx)
   refine ⟨ys ++ zs, by rw [Zev, a'], by simp [b], fun y hy => ?_⟩
   rcases Yai.1 hy with hy | hy
   ·exact c y hy
   ·exact c' y hy
theorem ZfO {M : Option (List γ)} {k : γ → Option (List β)} {Q : γ → Prop} {R : β → Prop} (h : ZfF M Q) (hk : ∀ z, Q z → ZfF (k z) R) : ZfF (Zdr M k) R := by
 obtain ⟨ys, rfl, b, c⟩ := h
 show ZfF (Zev (ys.map k)) R
 refine Zd1 (by simpa using b) fun x hx => ?_
 obtain ⟨y, hy, rfl⟩ := YB.1 hx
 exact hk y (c y hy)
theorem Zod {os : Nat} {V : Type} [Mv V] {xs : List (ByteArray × V)} {k0 : PT os (List β)} {k1 : ByteArray × V → List (ByteArray × V) → PT os (List β)} {Q : β → Prop}
  (h0 : xs = [] → ZfF k0.m Q) (h1 : ∀ i x, xs[i]? = some x → ZfF (k1 x (xs.eraseIdx i)).m Q) : ZfF (nxN xs k0 k1).m Q := by
 cases xs with
 | nil => exact h0 rfl
 | cons a r =>
  show ZfF (Zev _) Q
  refine Zd1 (by simp) fun x hx => ?_
  obtain ⟨i, hi, rfl⟩ := YB.1 hx
  have hi := Yan.1 hi
  have e : (a :: r)[i]? = some ((a :: r)[i]) := Yc hi
  have e2 : (a :: r).getD i (⟨#[]⟩, Mv.z) = (a :: r)[i] := by rw [YO, e]; rfl
  rw [e2]
  exact h1 i _ e
theorem ZgG {B : σ → Option (List (Lv σ ξ ρ))} (I : Nat → σ → Prop) (Q : ξ ⊕ ρ → Prop)
  (h : ∀ k v, I k v → ZfF (B v) fun o => match o with | .nx v' => ∃ k', k' < k ∧ I k' v' | .ex b => Q (.inl b) | .rt y => Q (.inr y)) :
  ∀ N k v, k < N → I k v → ZfF (Zc1 B N v) Q
 | 0, k, v, hk, _ => absurd hk (Yah _)
 | N + 1, k, v, hk, hI => by
  rw [Zc1]
  refine ZfO (h k v hI) fun o ho => ?_
  cases o with
  | nx v' => obtain ⟨k', h3, h4⟩ := ho; exact ZgG I Q h N k' v' (by omega) h4
  | ex b => exact ZcU ho
  | rt y => exact ZcU ho
theorem Zjw [DecidableEq β] {M : Option (List β)} {y : β} (h : ZfF M fun z => z = y) : Zp5 M = some y := by
 obtain ⟨ys, a, b, c⟩ := h
 exact Zn2 a b c
end
section
variable {V : Type}
def ZbT (r : List (ByteArray × V)) : List ByteArray := r.map (·.1)
theorem ZdD (x y : ByteArray) (v : V) : ∀ r : List (ByteArray × V), ZeB y (ZbV x v r) = if x = y then some v else ZeB y r
 | [] => by
  unfold ZbV ZeB
  by_cases h : x = y <;> simp [h, ZeB]
 | p :: r => by
  unfold ZbV
  by_cases h : p.1 = x
  ·rw [show decide (p.1 = x) = true from decide_eq_true h]
   show ZeB y ((x, v) :: r) = _
   unfold ZeB
   by_cases h2 : x = y
   ·simp [h2]
   ·simp [h2, show ¬ p.1 = y from fun h3 => h2 (h.symm.trans h3)]
  ·rw [show decide (p.1 = x) = false from decide_eq_false h]
   show ZeB y (p :: ZbV x v r) = _
   unfold ZeB
   rw [ZdD x y v r]
   by_cases h2 : p.1 = y
   ·simp [h2, show ¬ x = y from fun h3 => h (h2.trans h3.symm)]
   ·simp [h2]
theorem Zhk (x : ByteArray) (v : V) : ∀ r : List (ByteArray × V), (x ∈ ZbT r ∧ ZbT (ZbV x v r) = ZbT r) ∨ (x ∉ ZbT r ∧ ZbT (ZbV x v r) = ZbT r ++ [x])
 | [] => .inr ⟨by simp [ZbT], rfl⟩
 | p :: r => by
  have ih := Zhk x v r
  unfold ZbV
  by_cases h : p.1 = x
  ·rw [show decide (p.1 = x) = true from decide_eq_true h]
   exact .inl ⟨by unfold ZbT; simp [h], by unfold ZbT; simp [h]⟩
  ·rw [show decide (p.1 = x) = false from decide_eq_false h]
   have h2 : ¬ x = p.1 := fun e => h e.symm
   show (x ∈ p.1 :: ZbT r ∧ p.1 :: ZbT (ZbV x v r) = p.1 :: ZbT r) ∨ (x ∉ p.1 :: ZbT r ∧ p.1 :: ZbT (ZbV x v r) = p.1 :: ZbT r ++ [x])
   rcases ih with ⟨h3, h4⟩ | ⟨h3, h4⟩
   ·exact .inl ⟨Yp _ h3, by rw [h4]⟩
   ·exact .inr ⟨fun hm => (Ys.1 hm).elim h2 h3, by rw [h4]; rfl⟩
theorem Zsu (x : ByteArray) (v : V) {r : List (ByteArray × V)} (h : (ZbT r).Nodup) : (ZbT (ZbV x v r)).Nodup := by
 rcases Zhk x v r with ⟨_, e⟩ | ⟨hx, e⟩
 ·rw [e]; exact h
 ·rw [e, List.nodup_append]
  exact ⟨h, by simp, fun a ha b hb => by simp at hb; subst hb; exact fun e => hx (e ▸ ha)⟩
theorem Zlh (x : ByteArray) : ∀ r : List (ByteArray × V), x ∈ ZbT r ↔ (ZeB x r).isSome = true
 | [] => by simp [ZbT, ZeB]
 | p :: r => by
  have ih := Zlh x r
  unfold ZeB
  by_cases h : p.1 = x
  ·simp [ZbT, h]
  ·have h2 : ¬ x = p.1 := fun e => h e.symm
   simp only [h, decide_false, ZbT, YN, Ys, h2, false_or]
   exact ih
theorem Zpb (x : ByteArray) (v : V) (r : List (ByteArray × V)) : (ZbV x v r).length ≤ r.length + 1 := by
 have e : ∀ r : List (ByteArray × V), r.length = (ZbT r).length := fun r => (Yq _).symm
 rw [e, e r]
 rcases Zhk x v r with ⟨_, e⟩ | ⟨_, e⟩ <;> rw [e] <;> simp
end
def Zow (s : Scm) (n : ByteArray) : Option Msg := s.messages.find? fun m => decide (m.name = n)
def isM (s : Scm) (n : ByteArray) : Bool := (Zow s n).isSome
def isE (s : Scm) (n : ByteArray) : Bool := s.enums.any fun e => decide (e.name = n)
def Zle (s : Scm) (n : ByteArray) : List Fld := ((Zow s n).map Msg.fields).getD []
def toF (s : Scm) (f : Fld) : Bool := isM s f.type.name && decide (f.type.kind = 10)
def ldF (s : Scm) (f : Fld) : Bool := toF s f || (decide (f.type.kind = 9) && isE s f.type.name)
def Ze7 (s : Scm) (n : ByteArray) : List ByteArray := ((Zle s n).filter (toF s)).map fun f => f.type.name
def ZtJ (s : Scm) (n : ByteArray) : List ByteArray := ((Zle s n).filter (ldF s)).map fun f => f.type.name
structure Fw (s : Scm) : Prop where
 m : s.messages.length ≤ 8
 e : s.enums.length ≤ 8
 f : ∀ m ∈ s.messages, m.fields.length ≤ 10
theorem Fw.fl {s : Scm} (h : Fw s) (n : ByteArray) : (Zle s n).length ≤ 10 := by
 unfold Zle
 cases hm : Zow s n with
 | none => simp
 | some m => exact h.f m (List.mem_of_find?_eq_some hm)
theorem Fw.nl {s : Scm} (h : Fw s) (n : ByteArray) : (Ze7 s n).length ≤ 10 := by
 unfold Ze7
 rw [Yq]
 exact Yac (List.length_filter_le _ _) (h.fl n)
theorem Zh8 {s : Scm} {n x : ByteArray} (h : x ∈ Ze7 s n) : isM s x = true := by
 unfold Ze7 at h
 obtain ⟨f, hf, rfl⟩ := YB.1 h
 have := (Y3.1 hf).2
 unfold toF at this
 exact (YaS.1 this).1
def nmM (s : Scm) : List ByteArray := s.messages.map Msg.name
theorem Zhv {s : Scm} {n : ByteArray} : isM s n = true ↔ n ∈ nmM s := by
 unfold isM Zow nmM
 rw [List.find?_isSome]
 simp [YB]
theorem ZoU {s : Scm} {n : ByteArray} : isE s n = true ↔ n ∈ s.enums.map Enm.name := by
 unfold isE
 simp [YK, YB]
structure WOk (s : Scm) (w : Web) : Prop where
 m : ∀ n, ZeB n w.messages = Zow s n
 e : ∀ n, lkM n w.enums = isE s n
 nd : (ZbT w.messages).Nodup
 l : w.messages.length ≤ s.messages.length
theorem WOk.im {s : Scm} {w : Web} (h : WOk s w) (n : ByteArray) : inM n w.messages = isM s n := by unfold inM isM; rw [h.m]
theorem WOk.fl {s : Scm} {w : Web} (h : WOk s w) (n : ByteArray) : (lkM n w.messages).fields = Zle s n := by
 unfold lkM Zle
 rw [h.m]
 cases Zow s n <;> rfl
theorem WOk.key {s : Scm} {w : Web} (h : WOk s w) (n : ByteArray) : n ∈ ZbT w.messages ↔ isM s n = true := by rw [Zlh, h.m]; rfl
end Go.Eng
namespace Go.Proofs.Ythhipejbnbochaa
set_option linter.all false
open Go Go.Eng
def wvM (l : List Msg) : List (ByteArray × Msg) := l.foldl (fun r m => if inM m.name r = true then r else ZbV m.name m r) []
def wvE (l : List Enm) : List (ByteArray × Bool) := l.foldl (fun r e => ZbV e.name true r) []
theorem ZhT (l : List Msg) (m : Msg) : wvM (l ++ [m]) = if inM m.name (wvM l) = true then wvM l else ZbV m.name m (wvM l) := by unfold wvM; rw [List.foldl_append]; rfl
theorem Zik (l : List Enm) (e : Enm) : wvE (l ++ [e]) = ZbV e.name true (wvE l) := by unfold wvE; rw [List.foldl_append]; rfl
theorem Zla {α : Type} {P : List α → Prop} (h0 : P []) (h1 : ∀ l x, P l → P (l ++ [x])) (l : List α) : P l := by
 have : ∀ l : List α, P l.reverse := fun l => by
  induction l with
  | nil => exact h0
  | cons x l ih => rw [List.reverse_cons]; exact h1 _ _ ih
 simpa using this l.reverse
theorem Zri (l : List Msg) : (∀ n, ZeB n (wvM l) = l.find? fun m => decide (m.name = n)) ∧ (ZbT (wvM l)).Nodup ∧ (wvM l).length ≤ l.length := by
 refine Zla (P := fun l => (∀ n, ZeB n (wvM l) = l.find? fun m => decide (m.name = n)) ∧ (ZbT (wvM l)).Nodup ∧ (wvM l).length ≤ l.length) ⟨fun n => rfl, by simp [wvM, ZbT], Yg _⟩ (fun l m ⟨a, b, c⟩ => ?_) l
 rw [ZhT]
 split
 ·rename_i h
  refine ⟨fun n => ?_, b, by simp; omega⟩
  rw [a, List.find?_append]
  cases hf : l.find? fun m => decide (m.name = n) with
  | some x => rfl
  | none =>
   have : ¬ m.name = n := fun e => by
    subst e
    unfold inM at h
    rw [a, hf] at h
    cases h
   simp [this]
 ·rename_i h
  refine ⟨fun n => ?_, Zsu _ _ b, Yac (Zpb ..) (by simp; omega)⟩
  rw [ZdD, List.find?_append, a]
  by_cases e : m.name = n
  ·subst e
   have : l.find? (fun x => decide (x.name = m.name)) = none := by
    unfold inM at h
    rw [a] at h
    simpa using h
   simp [this]
  ·simp only [e, if_false]
   cases l.find? fun m => decide (m.name = n) <;> simp [e]
theorem ZrV (l : List Enm) (n : ByteArray) : lkM n (wvE l) = l.any fun e => decide (e.name = n) := by
 refine Zla (P := fun l => lkM n (wvE l) = l.any fun e => decide (e.name = n)) rfl (fun l e ih => ?_) l
 rw [Zik, List.any_append, ← ih]
 unfold lkM
 rw [ZdD]
 by_cases h : e.name = n <;> simp [h]
def Zvq (s : Scm) : Web := ⟨wvM s.messages, wvE s.enums⟩
theorem Zok (s : Scm) : WOk s (Zvq s) := by
 obtain ⟨a, b, c⟩ := Zri s.messages
 exact ⟨a, ZrV s.enums, b, c⟩
theorem m32 {s : Scm} (h : Fw s) : ZbY s = some (Zvq s) := by
 have hm := h.m
 have he := h.e
 have q1 : ZaI (Ziy s) big (0, []) = some (.inl (wvM s.messages)) := by
  have := Zge (B := Ziy s) (N := big) s.messages wvM (fun i b => (i, b)) id (hN := Zcc (by omega)) (he := by simp [Ziy, Zmx, br, ix, vw, vs, ln, lxe, wa, mlk, mpu]) (hs := fun i x hx => by
   have g1 := Zgp hx
   have g0 := (Yh.1 hx).1
   have g2 : i + 1 < 9223372036854775808 := by omega
   dsimp only [Ziy, Zmx, br, ix, vw, vs, ln, lxe, wa, mlk, mpu]
   simp only [g1, g2, hx, decide_true, if_true, YD, ZhT]
   cases inM x.name (wvM (s.messages.take i)) <;> simp)
  exact this
 have q2 : ZaI (ZiA s (wvM s.messages)) big (0, []) = some (.inl (wvE s.enums)) := by
  have := Zge (B := ZiA s (wvM s.messages)) (N := big) s.enums wvE (fun i b => (i, b)) id (hN := Zcc (by omega)) (he := by simp [ZiA, ZmE, br, ix, vw, vs, ln, lxe, wa, mpu]) (hs := fun i x hx => by
   have g1 := Zgp hx
   have g0 := (Yh.1 hx).1
   have g2 : i + 1 < 9223372036854775808 := by omega
   dsimp only [ZiA, ZmE, br, ix, vw, vs, ln, lxe, wa, mpu]
   simp only [g1, g2, hx, decide_true, if_true, YD, Zik])
  exact this
 dsimp only [ZbY, ZpK, Zo7, Zpt, Zpm, vz, vw, lr, lc, eqL]
 rw [q1]
 simp only [YD, Ybn, q2]
 rfl
section
variable {s : Scm} {w : Web} (hw : WOk s w) (h : Fw s)
include hw
theorem m62 (f : Fld) : ZbH w f = some (toF s f) := by
 dsimp only [ZbH, Zo5, vw, lr, mlk]
 rw [hw.im]
 rfl
include h
end
theorem Zg4 {l r : List ByteArray} (h : l.Perm r) : Zfq l = Zfq r :=
 (((Za7 l).trans h).trans (Za7 r).symm).eq_of_pairwise (fun a b _ _ h1 h2 => ZkL (List.le_antisymm h1 h2)) (ZdG l) (ZdG r)
theorem ZkU {l r : List ByteArray} (h : l.Nodup) (hs : ∀ x ∈ l, x ∈ r) : l.length ≤ r.length := List.Nodup.length_le_of_subset h hs
theorem ZeE {α : Type} : ∀ {l : List α} {i : Nat} {x : α}, l[i]? = some x → (x :: l.eraseIdx i).Perm l
 | a :: l, 0, x, h => by simp at h; subst h; exact .refl _
 | a :: l, i + 1, x, h => by
  simp at h
  exact (List.Perm.swap ..).trans ((ZeE h).cons a)
def nmW (w : Web) : List ByteArray := Zfq (ZbT w.messages)
section
variable {s : Scm} {w : Web} (hw : WOk s w) (h : Fw s)
include hw
theorem Zha (n : ByteArray) : n ∈ nmW w ↔ isM s n = true := by
 unfold nmW
 rw [(Za7 _).mem_iff, hw.key]
include h
theorem Zpr : (nmW w).length ≤ 8 := by
 unfold nmW
 rw [(Za7 _).length_eq]
 have := hw.l
 have := h.m
 simp only [ZbT, Yq]
 omega
theorem n33 : ZbM w = some (nmW w) := by
 have hl := hw.l
 have hm := h.m
 refine Zjw ?_
 have q1 : ZfF (Zc1 Zji big ([], w.messages)) fun o => Sum.elim (fun l => l.Perm (ZbT w.messages)) (fun _ => False) o := by
  refine ZgG (B := Zji) (fun k v => v.2.length = k ∧ (v.1 ++ ZbT v.2).Perm (ZbT w.messages)) _ (fun k v hI => ?_) big w.messages.length ([], w.messages) (Zcc (by omega)) ⟨rfl, .refl _⟩
  obtain ⟨r1, r2⟩ := v
  obtain ⟨h1, h2⟩ := hI
  simp only at h1 h2
  have hlen : r1.length ≤ 8 := by
   have := h2.length_eq
   simp only [Yr, ZbT, Yq] at this
   omega
  unfold Zji
  simp only
  unfold ZlZ
  refine Zod (fun e => ?_) (fun i x hx => ?_)
  ·subst e
   refine ZcU ?_
   simpa [ZbT] using h2
  ·have hlt := (Yh.1 hx).1
   dsimp only [Zji, ZlZ, vz, vw, ap, nxN, lnN, Zp9, fl]
   rw [if_pos (by omega)]
   refine ZcU ⟨(r2.eraseIdx i).length, by rw [List.length_eraseIdx_of_lt hlt]; omega, rfl, ?_⟩
   have e := (Yh.1 hx).2
   have hp : (x :: r2.eraseIdx i).Perm r2 := ZeE hx
   refine .trans ?_ h2
   rw [Y2]
   refine List.Perm.append_left _ ?_
   exact hp.map (·.1)
 dsimp only [Za9, Zoy, ZoX, Zpe, ZpS, Zn9, Zo9, vz, vw, lc, rn, lrN, fl, fr]
 refine ZfO q1 fun o ho => ?_
 cases o with
 | inr _ => exact ho.elim
 | inl l =>
  have ho : l.Perm (ZbT w.messages) := ho
  have hlen : l.length ≤ 8 := by
   have := ho.length_eq
   simp only [ZbT, Yq] at this
   omega
  have hs : (Zfq l).length = l.length := (Za7 l).length_eq
  simp only [Ybn]
  unfold ZbU
  rw [if_pos (by omega)]
  simp only [YD, hs, if_true]
  exact ZcU (Zg4 ho)
end
inductive Rch (s : Scm) (a : ByteArray) : ByteArray → Prop
 | one {b : ByteArray} : b ∈ Ze7 s a → Rch s a b
 | tl {b c : ByteArray} : Rch s a b → c ∈ Ze7 s b → Rch s a c
theorem Rch.isM {s : Scm} {a b : ByteArray} (h : Rch s a b) : isM s b = true := by
 cases h with
 | one h => exact Zh8 h
 | tl _ h => exact Zh8 h
theorem Rch.trans {s : Scm} {a b c : ByteArray} (h : Rch s a b) (k : Rch s b c) : Rch s a c := by
 induction k with
 | one k => exact .tl h k
 | tl _ k ih => exact .tl ih k
theorem Rch.hd {s : Scm} {a b c : ByteArray} (h : b ∈ Ze7 s a) (k : Rch s b c) : Rch s a c := (Rch.one h).trans k
structure ROk (s : Scm) (n : ByteArray) (r : List (ByteArray × Bool)) : Prop where
 i : ∀ x, lkM x r = true ↔ Rch s n x
 k : ∀ x, x ∈ ZbT r ↔ lkM x r = true
 nd : (ZbT r).Nodup
 l : r.length ≤ 8
structure RInv (s : Scm) (n : ByteArray) (todo : List ByteArray) (r : List (ByteArray × Bool)) : Prop where
 t : ∀ x ∈ todo, Rch s n x
 o : ∀ x, lkM x r = true → Rch s n x
 c0 : ∀ x ∈ Ze7 s n, x ∈ todo ∨ lkM x r = true
 c : ∀ y, lkM y r = true → ∀ x ∈ Ze7 s y, x ∈ todo ∨ lkM x r = true
 k : ∀ x, x ∈ ZbT r ↔ lkM x r = true
 nd : (ZbT r).Nodup
theorem Zfx {α : Type} (p : α → Bool) : ∀ l : List α, l.find? p = (l.findIdx? p).bind fun i => l[i]?
 | [] => rfl
 | x :: l => by
  rw [List.find?_cons, Ya1]
  cases h : p x with
  | true => simp
  | false =>
   rw [Zfx p l]
   cases List.findIdx? p l <;> simp
theorem ZhP {α : Type} {p : α → Bool} : ∀ {l : List α}, (l.findIdx? p).isSome = l.any p
 | [] => rfl
 | x :: l => by
  rw [Ya1, List.any_cons, ← ZhP (l := l)]
  cases p x <;> simp
def ixM (s : Scm) (n : ByteArray) : Option Nat := s.messages.findIdx? fun m => decide (m.name = n)
def ixE (s : Scm) (n : ByteArray) : Option Nat := s.enums.findIdx? fun m => decide (m.name = n)
def zM : Msg := ⟨⟨#[]⟩, [], [], [], []⟩
def zE : Enm := ⟨⟨#[]⟩, false, [], [], []⟩
def Zim (s : Scm) (n : ByteArray) : Msg × Int := (ixM s n).elim (zM, -1) fun i => (s.messages.getD i zM, (i : Int))
def Zp3 (s : Scm) (n : ByteArray) : Enm × Int := (ixE s n).elim (zE, -1) fun i => (s.enums.getD i zE, (i : Int))
theorem Zkm (s : Scm) (n : ByteArray) : Zow s n = (ixM s n).bind fun i => s.messages[i]? := Zfx _ _
theorem Znq {s : Scm} {n : ByteArray} {i : Nat} (h : ixM s n = some i) : i < s.messages.length := by
 unfold ixM at h
 rw [YaG] at h
 exact h.1
theorem ZhB (s : Scm) (n : ByteArray) : (ixM s n).isSome = isM s n := by
 unfold isM
 rw [Zkm]
 cases h : ixM s n with
 | none => rfl
 | some i => simp [Yc (Znq h)]
theorem ZqS (s : Scm) (n : ByteArray) : (Zim s n).1.fields = Zle s n := by
 unfold Zim Zle
 rw [Zkm]
 cases h : ixM s n with
 | none => rfl
 | some i => simp [Yc (Znq h), YO]
theorem Zqd (s : Scm) (n : ByteArray) : decide (0 ≤ (Zim s n).2) = isM s n := by
 rw [← ZhB]
 unfold Zim
 cases ixM s n with
 | none => rfl
 | some i => simp
theorem Zsb (s : Scm) (n : ByteArray) : decide ((Zim s n).2 < 0) = !isM s n := by
 rw [← Zqd]
 by_cases h : (Zim s n).2 < 0
 ·rw [decide_eq_true h, decide_eq_false (by omega)]; rfl
 ·rw [decide_eq_false h, decide_eq_true (by omega)]; rfl
theorem ZqQ (s : Scm) (n : ByteArray) : decide (0 ≤ (Zp3 s n).2) = isE s n := by
 have e : (ixE s n).isSome = isE s n := ZhP
 rw [← e]
 unfold Zp3
 cases ixE s n with
 | none => rfl
 | some i => simp
theorem ZsF (s : Scm) (n : ByteArray) : decide ((Zp3 s n).2 < 0) = !isE s n := by
 rw [← ZqQ]
 by_cases h : (Zp3 s n).2 < 0
 ·rw [decide_eq_true h, decide_eq_false (by omega)]; rfl
 ·rw [decide_eq_false h, decide_eq_true (by omega)]; rfl
theorem m18 {s : Scm} (h : Fw s) (n : ByteArray) : ZaA s n = some (Zim s n) := by
 have hm := h.m
 have q1 := Zgu (B := ZjH s n) (N := big) s.messages (fun m => decide (m.name = n)) (fun i => (s.messages.getD i zM, (i : Int))) () (fun i x hx => by
  have g1 := Zgp hx
  have g0 := (Yh.1 hx).1
  have g2 : i + 1 < 9223372036854775808 := by omega
  dsimp only [ZjH, ZmA, br, ix, vz, vw, vs, lrt, ln, lxe, wa, eqL]
  simp only [g1, g2, hx, decide_true, if_true, YD, YO, YZ]
  cases decide (x.name = n) <;> simp) (by simp [ZjH, ZmA, br, ix, vz, vw, vs, lrt, ln, lxe, wa, eqL]) (Zcc (by omega))
 dsimp only [ZaA, ZoL, ZnU, ZpA, vw, lr, lc]
 rw [q1]
 unfold Zim ixM
 cases s.messages.findIdx? fun m => decide (m.name = n) <;> rfl
theorem m46 {s : Scm} (h : Fw s) (n : ByteArray) : ZaS s n = some (Zp3 s n) := by
 have hm := h.e
 have q1 := Zgu (B := ZkE s n) (N := big) s.enums (fun m => decide (m.name = n)) (fun i => (s.enums.getD i zE, (i : Int))) () (fun i x hx => by
  have g1 := Zgp hx
  have g0 := (Yh.1 hx).1
  have g2 : i + 1 < 9223372036854775808 := by omega
  dsimp only [ZkE, ZmD, br, ix, vz, vw, vs, lrt, ln, lxe, wa, eqL]
  simp only [g1, g2, hx, decide_true, if_true, YD, YO, YZ]
  cases decide (x.name = n) <;> simp) (by simp [ZkE, ZmD, br, ix, vz, vw, vs, lrt, ln, lxe, wa, eqL]) (Zcc (by omega))
 dsimp only [ZaS, Zps, Zor, ZoJ, vw, lr, lc]
 rw [q1]
 unfold Zp3 ixE
 cases s.enums.findIdx? fun m => decide (m.name = n) <;> rfl
section
variable {s : Scm} (h : Fw s)
include h
theorem m19 (f : Fld) : ZaJ s f = some (if ldF s f = true then (f.type.name, true) else (⟨#[]⟩, false)) := by
 have e1 := Zsb s f.type.name
 have e2 := ZsF s f.type.name
 have hne : ¬ (10 : Int) = 9 := by decide
 unfold ldF toF
 dsimp only [ZaJ, ZoH, br, vw, lr, cl]
 simp only [m18 h, m46 h, YD, e1, e2]
 by_cases h1 : f.type.kind = 10
 ·simp only [h1, hne, decide_true, decide_false, if_true, if_false, Bool.and_true, Bool.false_and, Bool.or_false]
  cases isM s f.type.name <;> simp
 ·by_cases h2 : f.type.kind = 9
  ·simp only [h1, h2, decide_true, decide_false, if_true, if_false, Bool.and_false, Bool.true_and, Yau]
   cases isE s f.type.name <;> simp
  ·simp [h1, h2]
theorem Zt3 (f : Fld) : (ldF s f && decide (f.type.kind = 10)) = toF s f := by
 unfold ldF toF
 by_cases h1 : f.type.kind = 10
 ·simp [h1]
 ·simp [h1]
end
structure AOk (s : Scm) (ns : List ByteArray) (l : List ByteArray) : Prop where
 a : Asc l
 m : ∀ x, x ∈ l ↔ (x ∈ ns ∧ isM s x = true) ∨ ∃ y ∈ ns, isM s y = true ∧ Rch s y x
theorem AOk.len {s : Scm} (h : Fw s) {ns l : List ByteArray} (k : AOk s ns l) : l.length ≤ 8 := by
 have := ZkU (Zh0 k.a) (r := nmM s) fun x hx => Zhv.1 (by
  rcases (k.m x).1 hx with ⟨_, q⟩ | ⟨y, _, _, q⟩
  ·exact q
  ·exact q.isM)
 have h2 := h.m
 unfold nmM at this
 rw [Yq] at this
 omega
section
variable {s : Scm} (h : Fw s)
include h
structure ClOk (s : Scm) (ns : List ByteArray) (l : List ByteArray) : Prop where
 a : Asc l
 m : ∀ x, x ∈ l ↔ (x ∈ ns ∧ (isM s x = true ∨ isE s x = true)) ∨ ∃ n ∈ ns, isM s n = true ∧ (x ∈ ZtJ s n ∨ ∃ y, Rch s n y ∧ x ∈ ZtJ s y)
end
end Go.Proofs.Ythhipejbnbochaa
namespace Go.Proofs.Ythhipejbnbochaa
set_option linter.all false
open Go Go.Eng
set_option maxRecDepth 100000 in
theorem awk : Za2 = some true := by kernel_rfl
theorem ZkH {s : Scm} {n x : ByteArray} (h : x ∈ ZtJ s n) : isM s x = true ∨ isE s x = true := by
 unfold ZtJ at h
 obtain ⟨f, hf, rfl⟩ := YB.1 h
 have := (Y3.1 hf).2
 unfold ldF toF at this
 rcases Bool.or_eq_true_iff.1 this with q | q
 ·exact .inl (YaS.1 q).1
 ·exact .inr (YaS.1 q).2
theorem ClOk.uniq {s : Scm} {ns l r : List ByteArray} (h : ClOk s ns l) (k : ClOk s ns r) : l = r := Zrc h.a k.a fun x => (h.m x).trans (k.m x).symm
theorem ClOk.defd {s : Scm} {ns l : List ByteArray} (h : ClOk s ns l) {x : ByteArray} (hx : x ∈ l) : isM s x = true ∨ isE s x = true := by
 rcases (h.m x).1 hx with ⟨_, q⟩ | ⟨n, _, _, q | ⟨y, _, q⟩⟩
 ·exact q
 ·exact ZkH q
 ·exact ZkH q
theorem ClOk.len {s : Scm} (hs : Fw s) {ns l : List ByteArray} (h : ClOk s ns l) : l.length ≤ 16 := by
 have := ZkU (Zh0 h.a) (r := nmM s ++ s.enums.map Enm.name) fun x hx => by
  rcases h.defd hx with q | q
  ·exact Y0 _ (Zhv.1 q)
  ·exact Ybg _ (ZoU.1 q)
 have h1 := hs.m
 have h2 := hs.e
 simp only [nmM, Yr, Yq] at this
 omega
theorem m11 (s : Scm) (hm : s.messages.length ≤ 1048576) : ∃ b, ZaU s = some b ∧ (b = true → Fw s) := by
 dsimp only [ZaU, ZpC, Zpd, ZoI, br, vz, vy, vw, lr, lc, eqL]
 by_cases h1 : (8 : Int) < (s.messages.length : Int)
 ·exact ⟨false, by simp [h1], fun q => by cases q⟩
 ·by_cases h2 : (8 : Int) < (s.enums.length : Int)
  ·exact ⟨false, by simp [h2], fun q => by cases q⟩
  ·have q1 := ZcN (B := ZiP s) (I := fun k i => k + i = s.messages.length ∧ ∀ m ∈ s.messages.take i, m.fields.length ≤ 10) (Q := fun o => Sum.elim (fun _ => ∀ m ∈ s.messages, m.fields.length ≤ 10) (fun b => b = false) o) (fun k i hI => by
    obtain ⟨i1, i2⟩ := hI
    cases hk : s.messages[i]? with
    | none =>
     have := Yax.1 hk
     rw [YaF this] at i2
     exact ⟨.ex (), by dsimp only [ZiP, Zkq, br, ix, vz, vw, vs, lrt, ln, lxe, wa, eqL]; simp [show ¬ (i : Int) < (s.messages.length : Int) by omega], i2⟩
    | some x =>
     have g1 := Zgp hk
     obtain ⟨g0, rfl⟩ := Yh.1 hk
     have g2 : i + 1 < 9223372036854775808 := by omega
     by_cases hf : (10 : Int) < (s.messages[i].fields.length : Int)
     ·exact ⟨.rt false, by dsimp only [ZiP, Zkq, br, ix, vz, vw, vs, lrt, ln, lxe, wa, eqL]; simp [g0, hk, hf], rfl⟩
     ·refine ⟨.nx (i + 1), by dsimp only [ZiP, Zkq, br, ix, vz, vw, vs, lrt, ln, lxe, wa, eqL]; simp [g0, g2, hk, hf], k - 1, by omega, by omega, fun m hmm => ?_⟩
      rw [Yab g0] at hmm
      rcases Yai.1 hmm with q | q
      ·exact i2 m q
      ·rw [YX.1 q]; omega) big s.messages.length 0 (Zcc (by omega)) ⟨rfl, by simp⟩
   obtain ⟨o, e, hq⟩ := q1
   cases o with
   | inl u => exact ⟨true, by simp [h1, h2, e], fun _ => ⟨by omega, by omega, hq⟩⟩
   | inr b => exact ⟨b, by simp [h1, h2, e], fun q => by have : b = false := hq; rw [this] at q; cases q⟩
theorem Zop {s : Scm} (h : bkL (Zdw s) ≤ 1048576) : s.messages.length ≤ 1048576 := by
 have := ZnL (e := Zcq) s.messages
 simp only [Zdw, bkL, bk] at h
 omega
def rqF (s : Scm) (f : Fld) : Bool := decide (f.card = 1) && toF s f
def rqL (s : Scm) (n : ByteArray) : List ByteArray := ((Zle s n).filter (rqF s)).map fun f => f.type.name
def hgL (K : ByteArray → Int) (l : List ByteArray) : Int := if l.any (fun x => decide (K x = 0)) = true then 0 else l.foldl (fun h x => max h (K x + 1)) 1
theorem ZkQ {K : ByteArray → Int} {l : List ByteArray} : l.any (fun x => decide (K x = 0)) = true ↔ ∃ x ∈ l, K x = 0 := by simp [YK]
theorem Zc8 (K : ByteArray → Int) : ∀ (l : List ByteArray) (a : Int), a ≤ l.foldl (fun h x => max h (K x + 1)) a ∧ ∀ x ∈ l, K x + 1 ≤ l.foldl (fun h x => max h (K x + 1)) a
 | [], a => ⟨Int.le_refl _, fun x h => by cases h⟩
 | y :: l, a => by
  obtain ⟨h1, h2⟩ := Zc8 K l (max a (K y + 1))
  rw [Yaf]
  refine ⟨by omega, fun x hx => ?_⟩
  rcases Ys.1 hx with rfl | hx
  ·omega
  ·exact h2 x hx
theorem ZgV (K : ByteArray → Int) : ∀ (l : List ByteArray) (a : Int), l.foldl (fun h x => max h (K x + 1)) a = a ∨ ∃ x ∈ l, l.foldl (fun h x => max h (K x + 1)) a = K x + 1
 | [], a => .inl rfl
 | y :: l, a => by
  rw [Yaf]
  rcases ZgV K l (max a (K y + 1)) with h | ⟨x, hx, h⟩
  ·by_cases hc : a ≤ K y + 1
   ·exact .inr ⟨y, Yv .., by rw [h]; omega⟩
   ·exact .inl (by rw [h]; omega)
  ·exact .inr ⟨x, Yp _ hx, h⟩
theorem Zez {K : ByteArray → Int} {l : List ByteArray} (h : hgL K l ≠ 0) : (∀ x ∈ l, K x ≠ 0) ∧ hgL K l = l.foldl (fun h x => max h (K x + 1)) 1 := by
 unfold hgL at *
 split at h
 ·exact absurd rfl h
 ·rename_i hc
  rw [if_neg hc]
  exact ⟨fun x hx e => hc (ZkQ.2 ⟨x, hx, e⟩), rfl⟩
theorem ZdF {K J : ByteArray → Int} {l : List ByteArray} (h : ∀ x ∈ l, K x = J x) : hgL K l = hgL J l := by
 unfold hgL
 have e1 : l.any (fun x => decide (K x = 0)) = l.any (fun x => decide (J x = 0)) := by
  rw [Bool.eq_iff_iff, ZkQ, ZkQ]
  exact ⟨fun ⟨x, a, b⟩ => ⟨x, a, by rw [← h x a]; exact b⟩, fun ⟨x, a, b⟩ => ⟨x, a, by rw [h x a]; exact b⟩⟩
 have e2 : ∀ a : Int, l.foldl (fun h x => max h (K x + 1)) a = l.foldl (fun h x => max h (J x + 1)) a := by
  clear e1
  induction l with
  | nil => intro a; rfl
  | cons y l ih =>
   intro a
   rw [Yaf, Yaf, h y (Yv ..)]
   exact ih (fun x hx => h x (Yp _ hx)) _
 rw [e1, e2]
def jac (s : Scm) : Nat → ByteArray → Int
 | 0, _ => 0
 | k + 1, n => if isM s n = true then hgL (jac s k) (rqL s n) else 0
theorem ZgD (s : Scm) : ∀ (k : Nat) (n : ByteArray), 0 ≤ jac s k n ∧ jac s k n ≤ k
 | 0, n => ⟨Int.le_refl _, Int.le_refl _⟩
 | k + 1, n => by
  unfold jac
  split
  ·by_cases h : hgL (jac s k) (rqL s n) = 0
   ·rw [h]; omega
   ·obtain ⟨h1, h2⟩ := Zez h
    rw [h2]
    have h3 := (Zc8 (jac s k) (rqL s n) 1).1
    rcases ZgV (jac s k) (rqL s n) 1 with h4 | ⟨x, hx, h4⟩
    ·omega
    ·have := (ZgD s k x).2
     omega
  ·omega
theorem Zko (s : Scm) : ∀ (k : Nat) (n : ByteArray), jac s k n ≠ 0 → jac s (k + 1) n = jac s k n
 | 0, n, h => absurd rfl h
 | k + 1, n, h => by
  rw [show jac s (k + 1 + 1) n = if isM s n = true then hgL (jac s (k + 1)) (rqL s n) else 0 from rfl]
  have e : jac s (k + 1) n = if isM s n = true then hgL (jac s k) (rqL s n) else 0 := rfl
  rw [e] at h ⊢
  by_cases hm : isM s n = true
  ·rw [if_pos hm] at h ⊢
   rw [if_pos hm]
   exact ZdF fun x hx => Zko s k x ((Zez h).1 x hx)
  ·rw [if_neg hm] at h; exact absurd rfl h
theorem Ze1 (s : Scm) (k : Nat) {n : ByteArray} (h : jac s k n ≠ 0) : ∀ j, jac s (k + j) n = jac s k n
 | 0 => rfl
 | j + 1 => by
  have := Ze1 s k h j
  rw [← Yx, Zko s (k + j) n (by rw [this]; exact h), this]
theorem Zno (s : Scm) : ∀ (k : Nat) (n : ByteArray), jac s k n ≠ 0 → jac s (jac s k n).toNat n = jac s k n
 | 0, n, h => absurd rfl h
 | k + 1, n, h => by
  have e : jac s (k + 1) n = if isM s n = true then hgL (jac s k) (rqL s n) else 0 := rfl
  by_cases hm : isM s n = true
  ·rw [if_pos hm] at e
   rw [e] at h ⊢
   obtain ⟨h1, h2⟩ := Zez h
   obtain ⟨d, hd⟩ : ∃ d : Nat, hgL (jac s k) (rqL s n) = (d + 1 : Nat) := by
    have := (Zc8 (jac s k) (rqL s n) 1).1
    rw [← h2] at this
    exact ⟨(hgL (jac s k) (rqL s n)).toNat - 1, by omega⟩
   rw [hd, Int.toNat_natCast]
   rw [show jac s (d + 1) n = if isM s n = true then hgL (jac s d) (rqL s n) else 0 from rfl, if_pos hm, ← hd]
   refine ZdF fun x hx => ?_
   have h3 := (Zc8 (jac s k) (rqL s n) 1).2 x hx
   rw [← h2, hd] at h3
   have h4 := Zno s k x (h1 x hx)
   have h5 := (ZgD s k x).1
   obtain ⟨j, hj⟩ : ∃ j, d = (jac s k x).toNat + j := ⟨d - (jac s k x).toNat, by omega⟩
   rw [hj, Ze1 s _ (by rw [h4]; exact h1 x hx) j, h4]
  ·rw [if_neg hm] at e
   exact absurd e h
theorem Znj (s : Scm) : ∀ (d : Nat) (k : Nat) (n : ByteArray), jac s k n = (d : Int) → ∃ l : List ByteArray, l.length = d ∧ l.Nodup ∧ (∀ x ∈ l, isM s x = true ∧ jac s k x ≤ (d : Int) ∧ jac s k x ≠ 0)
 | 0, k, n, h => ⟨[], rfl, .nil, fun x hx => by cases hx⟩
 | d + 1, 0, n, h => by
  have : (0 : Int) = ((d + 1 : Nat) : Int) := h
  omega
 | d + 1, k + 1, n, h => by
  have e : jac s (k + 1) n = if isM s n = true then hgL (jac s k) (rqL s n) else 0 := rfl
  have hne : jac s (k + 1) n ≠ 0 := by rw [h]; omega
  by_cases hm : isM s n = true
  ·rw [if_pos hm] at e
   have hne2 : hgL (jac s k) (rqL s n) ≠ 0 := by rw [← e]; exact hne
   obtain ⟨h1, h2⟩ := Zez hne2
   rcases ZgV (jac s k) (rqL s n) 1 with h4 | ⟨x, hx, h4⟩
   ·have : d = 0 := by rw [e, h2, h4] at h; omega
    subst this
    exact ⟨[n], rfl, by simp, fun y hy => by rw [YX.1 hy]; exact ⟨hm, by rw [h]; omega, hne⟩⟩
   ·have hx2 : jac s (k + 1) x = (d : Int) := by rw [Zko s k x (h1 x hx)]; rw [e, h2, h4] at h; omega
    obtain ⟨l, l1, l2, l3⟩ := Znj s d (k + 1) x hx2
    refine ⟨n :: l, by simp [l1], Ybd.2 ⟨fun hn => ?_, l2⟩, fun y hy => ?_⟩
    ·have := (l3 n hn).2.1
     omega
    ·rcases Ys.1 hy with rfl | hy
     ·exact ⟨hm, by rw [h]; omega, hne⟩
     ·obtain ⟨a, b, c⟩ := l3 y hy
      exact ⟨a, by omega, c⟩
  ·rw [if_neg hm] at e
   exact absurd e hne
theorem Znz {s : Scm} {r : List ByteArray} (hr : ∀ n, isM s n = true → n ∈ r) (k : Nat) (n : ByteArray) : jac s k n ≤ (r.length : Int) := by
 have h0 := (ZgD s k n).1
 obtain ⟨l, h1, h2, h3⟩ := Znj s (jac s k n).toNat k n (by omega)
 have := ZkU h2 (r := r) fun x hx => hr x (h3 x hx).1
 omega
theorem ZoQ {s : Scm} {N : Nat} (hN : ∀ k n, jac s k n ≤ (N : Int)) : ∀ (j : Nat) (n : ByteArray), jac s (N + j) n = jac s N n := fun j n => by
 by_cases h : jac s N n = 0
 ·by_cases h2 : jac s (N + j) n = 0
  ·rw [h, h2]
  ·have h3 := Zno s (N + j) n h2
   have h4 := (ZgD s (N + j) n).1
   have h5 := hN (N + j) n
   obtain ⟨i, hi⟩ : ∃ i, N = (jac s (N + j) n).toNat + i := ⟨N - (jac s (N + j) n).toNat, by omega⟩
   have h6 := Ze1 s (jac s (N + j) n).toNat (n := n) (by rw [h3]; exact h2) i
   rw [← hi, h3] at h6
   rw [h6]
 ·exact Ze1 s N h j
def hgt (s : Scm) (n : ByteArray) : Int := jac s s.messages.length n
theorem ZnO {s : Scm} (k : Nat) (n : ByteArray) : jac s k n ≤ (s.messages.length : Int) := by
 have := Znz (s := s) (r := nmM s) (fun n h => Zhv.1 h) k n
 unfold nmM at this
 rwa [Yq] at this
theorem Zoo (s : Scm) (j : Nat) (n : ByteArray) : jac s (s.messages.length + j) n = hgt s n := ZoQ ZnO j n
theorem Zk3 (s : Scm) (n : ByteArray) : hgt s n = if isM s n = true then hgL (hgt s) (rqL s n) else 0 := by
 rw [← Zoo s 1 n]
 rfl
theorem ZgI (s : Scm) (n : ByteArray) : 0 ≤ hgt s n ∧ hgt s n ≤ (s.messages.length : Int) := ⟨(ZgD s _ n).1, ZnO _ n⟩
def ZpH (s : Scm) (K : ByteArray → Int) (r : Int) : Prop := (∀ n, K n = 0 ∨ K n = hgt s n) ∧ ∀ n, hgt s n ≠ 0 → hgt s n ≤ r → K n = hgt s n
theorem ZpH.hg {s : Scm} {K : ByteArray → Int} {r : Int} (h : ZpH s K r) {n : ByteArray} (hm : isM s n = true) : (hgL K (rqL s n) = 0 ∨ hgL K (rqL s n) = hgt s n) ∧ (hgt s n ≠ 0 → hgt s n ≤ r + 1 → hgL K (rqL s n) = hgt s n) := by
 have e := Zk3 s n
 rw [if_pos hm] at e
 refine ⟨?_, fun h1 h2 => ?_⟩
 ·by_cases hz : hgL K (rqL s n) = 0
  ·exact .inl hz
  ·refine .inr ?_
   rw [e]
   exact ZdF fun x hx => (h.1 x).resolve_left ((Zez hz).1 x hx)
 ·rw [e]
  have h3 : hgL (hgt s) (rqL s n) ≠ 0 := by rw [← e]; exact h1
  obtain ⟨h4, h5⟩ := Zez h3
  refine ZdF fun x hx => h.2 x (h4 x hx) ?_
  have := (Zc8 (hgt s) (rqL s n) 1).2 x hx
  rw [← h5, ← e] at this
  omega
theorem ZgS (x y : ByteArray) (v : Int) (r : List (ByteArray × Int)) : lkM y (ZbV x v r) = if x = y then v else lkM y r := by
 unfold lkM
 rw [ZdD]
 split <;> rfl
section
variable {s : Scm} {w : Web} (hw : WOk s w) (h : Fw s)
include hw h
theorem m65 (n : ByteArray) (K : List (ByteArray × Int)) (hK : ∀ x, 0 ≤ lkM x K ∧ lkM x K ≤ 1000) : ZaE w n K = some (hgL (fun x => lkM x K) (rqL s n)) := by
 have hl := h.fl n
 have e := hw.fl n
 have q1 := Zgn (B := Zeh w K (lkM n w.messages)) (N := big) (Zle s n) (fun i (v : Int) => (v, i)) (fun i v => 1 ≤ v ∧ v ≤ 1001) (fun v f => if rqF s f = true then (if lkM f.type.name K = 0 then .inr 0 else .inl (max v (lkM f.type.name K + 1))) else (.inl v : Int ⊕ Int)) id (fun i v f hf hI => by
  have g1 := Zgp hf
  have g0 := (Yh.1 hf).1
  have g2 : i + 1 < 9223372036854775808 := by omega
  obtain ⟨k1, k2⟩ := hK f.type.name
  refine ⟨?_, fun b' q => ?_⟩
  ·dsimp only [Zeh, ZeZ, br, ix, vw, vs, lrt, ln, lxe, clg, wa, wi, mlk]
   unfold rqF
   simp only [e, g1, g2, hf, m62 hw, decide_true, if_true, YD, Option.isSome_some, implies_true, YZ]
   by_cases hc : f.card = 1
   ·cases ht : toF s f with
    | false => simp [hc]
    | true =>
     by_cases hz : lkM f.type.name K = 0
     ·simp [hc, hz]
     ·have g3 : mmI true v (lkM f.type.name K + 1) = max v (lkM f.type.name K + 1) := by unfold mmI; simp only [if_true]; omega
      have g4 : (-9223372036854775808 : Int) ≤ lkM f.type.name K + 1 ∧ lkM f.type.name K + 1 < 9223372036854775808 := by omega
      simp [hc, hz, g3, g4]
   ·simp [hc]
  ·split at q
   ·split at q
    ·cases q
    ·cases q; omega
   ·cases q; exact hI) (fun v _ => by dsimp only [Zeh, ZeZ, br, ix, vw, vs, lrt, ln, lxe, clg, wa, wi, mlk]; simp [e]) 1 (by omega) (Zcc (by omega))
 have e2 : ∀ (l : List Fld) (a : Int), Zgo (fun v f => if rqF s f = true then (if lkM f.type.name K = 0 then .inr 0 else .inl (max v (lkM f.type.name K + 1))) else (.inl v : Int ⊕ Int)) a l = if (((l.filter (rqF s)).map fun f => f.type.name).any fun x => decide (lkM x K = 0)) = true then .inr 0 else .inl (((l.filter (rqF s)).map fun f => f.type.name).foldl (fun h x => max h (lkM x K + 1)) a) := fun l => by
  induction l with
  | nil => intro a; rfl
  | cons f l ih =>
   intro a
   rw [Zgo, List.filter_cons]
   cases hr : rqF s f with
   | false => simp [ih]
   | true =>
    by_cases hz : lkM f.type.name K = 0
    ·simp [hz]
    ·simp [hz, ih]
 rw [e2] at q1
 dsimp only [ZaE, ZgR, ZgT, Zg8, vz, vw, lr, lc, mlk, eqL]
 rw [q1]
 unfold hgL rqL
 split <;> rfl
end
section
variable {s : Scm} {w : Web} (hw : WOk s w) (h : Fw s)
include hw h
theorem ZtU {K : List (ByteArray × Int)} {r : Int} (hI : ZpH s (fun x => lkM x K) r) (x : ByteArray) : 0 ≤ lkM x K ∧ lkM x K ≤ 1000 := by
 have h1 := ZgI s x
 have h2 := h.m
 rcases hI.1 x with e | e
 ·have e : lkM x K = 0 := e
  omega
 ·have e : lkM x K = hgt s x := e
  omega
theorem m47 : ∃ K, Za0 w = some K ∧ ∀ n, lkM n K = hgt s n := by
 have hn := Zpr hw h
 have q1 := ZcN (B := ZkB w (nmW w)) (I := fun k v => k + v.1 = (nmW w).length ∧ ZpH s (fun x => lkM x v.2) v.1) (Q := fun o => Sum.elim (fun K => ZpH s (fun x => lkM x K) (nmW w).length) (fun _ => False) o) (fun k v hI => by
  obtain ⟨r, K⟩ := v
  obtain ⟨i1, i2⟩ := hI
  simp only at i1 i2
  by_cases hr : r < (nmW w).length
  ·have q2 := ZcN (B := Zjs w (nmW w) r) (I := fun k v => k + v.1 = (nmW w).length ∧ ZpH s (fun x => lkM x v.2) r ∧ ∀ n ∈ (nmW w).take v.1, hgt s n ≠ 0 → hgt s n ≤ (r : Int) + 1 → lkM n v.2 = hgt s n) (Q := fun o => Sum.elim (fun K => ZpH s (fun x => lkM x K) ((r : Int) + 1)) (fun _ => False) o) (fun k v hJ => by
    obtain ⟨i, K⟩ := v
    obtain ⟨j1, j2, j3⟩ := hJ
    simp only at j1 j2 j3
    cases hk : (nmW w)[i]? with
    | none =>
     have hge := Yax.1 hk
     rw [YaF hge] at j3
     refine ⟨.ex K, by dsimp only [Zjs, Zjz, br, ix, vw, vs, v2, ln, lxe, cs, wa, mpu]; simp [show ¬ (i : Int) < ((nmW w).length : Int) by omega], j2.1, fun n h1 h2 => j3 n ?_ h1 h2⟩
     rw [Zha hw]
     cases hm : isM s n with
     | true => rfl
     | false => rw [Zk3, hm] at h1; exact absurd rfl h1
    | some n =>
     have g1 := Zgp hk
     obtain ⟨g0, hgi⟩ := Yh.1 hk
     have g2 : i + 1 < 9223372036854775808 := by omega
     have hmem : n ∈ nmW w := Yu hk
     have hm : isM s n = true := (Zha hw n).1 hmem
     have q := m65 hw h n K (ZtU hw h j2)
     obtain ⟨h1, h2⟩ := j2.hg hm
     have htk : ∀ x, x ∈ (nmW w).take (i + 1) → x ∈ (nmW w).take i ∨ x = n := fun x hx => by
      obtain ⟨_, rfl⟩ := Yh.1 hk
      rw [Yab g0] at hx
      rcases Yai.1 hx with q | q
      ·exact .inl q
      ·exact .inr (YX.1 q)
     by_cases hz : 0 < hgL (fun x => lkM x K) (rqL s n)
     ·have he : hgL (fun x => lkM x K) (rqL s n) = hgt s n := h1.resolve_left (by omega)
      refine ⟨.nx (i + 1, ZbV n (hgL (fun x => lkM x K) (rqL s n)) K), by dsimp only [Zjs, Zjz, br, ix, vw, vs, v2, ln, lxe, cs, wa, mpu]; simp [g1, g0, g2, hk, hgi, q, hz], k - 1, by omega, by simp only; omega, ⟨fun x => ?_, fun x h3 h4 => ?_⟩, fun x hx h3 h4 => ?_⟩
      ·simp only [ZgS]
       split
       ·rename_i e; subst e; exact .inr he
       ·exact j2.1 x
      ·simp only [ZgS]
       split
       ·rename_i e; subst e; exact he
       ·exact j2.2 x h3 h4
      ·simp only [ZgS]
       split
       ·rename_i e; subst e; exact he
       ·rename_i e
        exact j3 x ((htk x hx).resolve_right fun q => e q.symm) h3 h4
     ·refine ⟨.nx (i + 1, K), by dsimp only [Zjs, Zjz, br, ix, vw, vs, v2, ln, lxe, cs, wa, mpu]; simp [g1, g0, g2, hk, hgi, q, hz], k - 1, by omega, by simp only; omega, j2, fun x hx h3 h4 => ?_⟩
      rcases htk x hx with q | rfl
      ·exact j3 x q h3 h4
      ·have := h2 h3 h4
       have := (ZgI s x).1
       omega) big (nmW w).length (0, K) (Zcc (by omega)) ⟨rfl, i2, fun n hn => by simp at hn⟩
   obtain ⟨o, e, hq⟩ := q2
   cases o with
   | inr _ => exact hq.elim
   | inl K' =>
    have g2 : r + 1 < 9223372036854775808 := by omega
    exact ⟨.nx (r + 1, K'), by dsimp only [ZkB, ZlC, ZlS, Zmw, br, vz, vs, v2, ln, lxe, lc, wa, eqL]; simp [hr, e, g2], k - 1, by omega, by simp only; omega, hq⟩
  ·refine ⟨.ex K, by dsimp only [ZkB, ZlC, ZlS, Zmw, br, vz, vs, v2, ln, lxe, lc, wa, eqL]; simp [show ¬ (r : Int) < ((nmW w).length : Int) by omega], ?_⟩
   have : r = (nmW w).length := by omega
   subst this
   exact i2) big (nmW w).length (0, []) (Zcc (by omega)) ⟨rfl, fun n => .inl rfl, fun n h1 h2 => by
    have := (ZgI s n).1
    simp only at h2
    omega⟩
 obtain ⟨o, e, hq⟩ := q1
 cases o with
 | inr _ => exact hq.elim
 | inl K =>
  refine ⟨K, ?_, fun n => ?_⟩
  ·dsimp only [Za0, Zpg, Zph, ZoT, vz, vw, lr, lc, cl, eqL]
   simp only [n33 hw h, YD, e, Ybn]
  ·by_cases hz : hgt s n = 0
   ·rcases hq.1 n with e | e
    ·exact e.trans hz.symm
    ·exact e
   ·exact hq.2 n hz (Znz (fun x hx => (Zha hw x).2 hx) _ _)
end
theorem m20 {s : Scm} (h : Fw s) (n : ByteArray) : ZbJ s n = some (hgt s n) := by
 obtain ⟨K, e, k⟩ := m47 (Zok s) h
 dsimp only [ZbJ, ZoM, vw, lr, cl, mlk]
 simp only [m32 h, e, YD, k]
def rqI (s : Scm) (l : List Fld) : List ByteArray := (l.filter (rqF s)).map fun f => f.type.name
theorem Zdo (s : Scm) (hm : s.messages.length ≤ 1048576) : Zak s = some true := by
 obtain ⟨b, e, hb⟩ := m11 s hm
 dsimp only [Zak, Zpf, ZoB, ZoW, ZtY, br, vw, lr, lc, cl]
 simp only [e, YD]
 cases b with
 | false => simp
 | true =>
  have h := hb rfl
  have h8 := h.m
  have q1 := ZcN (B := Zp6 s) (I := fun k i => k + i = s.messages.length) (Q := fun o => o = .inl ()) (fun k i hI => by
   cases hk : s.messages[i]? with
   | none =>
    have := Yax.1 hk
    exact ⟨.ex (), by dsimp only [Zp6, ZrC, Zsd, ZrR, ZsW, Zrf, Zq2, Zr3, br, ix, vz, vy, vw, vs, vg, v2, lrt, ln, lxe, lc, lxc, cl, wa, wi, du, eqL]; simp [show ¬ i < s.messages.length by omega], rfl⟩
   | some m =>
    obtain ⟨g0, hgi⟩ := Yh.1 hk
    have g2 : i + 1 < 9223372036854775808 := by omega
    refine ⟨.nx (i + 1), ?_, k - 1, by omega, by omega⟩
    by_cases hat : (Zim s m.name).2 = (i : Int)
    ·have hx : ixM s m.name = some i := by
      unfold Zim at hat
      cases hx : ixM s m.name with
      | none => rw [hx] at hat; have : (-1 : Int) = i := hat; omega
      | some p => rw [hx] at hat; have : (p : Int) = i := hat; rw [Int.ofNat_inj.1 this]
     have hM : isM s m.name = true := by rw [← ZhB, hx]; rfl
     have hf : (Zim s m.name).1 = m := by unfold Zim; rw [hx]; show s.messages.getD i zM = m; rw [YO, hk]; rfl
     have hfl : Zle s m.name = m.fields := by rw [← ZqS, hf]
     have hl10 := h.f m (Yu hk)
     have q2 := Zgn (B := Zqr s i (Zim s m.name)) (N := big) m.fields (fun j (v : Int × Bool) => (v.1, v.2, j)) (fun _ v => 0 ≤ v.1 ∧ v.1 ≤ 8) (fun v f => (.inl (if rqF s f = true then (max v.1 (hgt s f.type.name), v.2 || decide (hgt s f.type.name = 0)) else v) : (Int × Bool) ⊕ Bool)) id (fun j v f hj hI => by
      obtain ⟨j0, hje⟩ := Yh.1 hj
      have j1 := Zgp hj
      have j2 : j + 1 < 9223372036854775808 := by omega
      have hr := ZgI s f.type.name
      have g3 : mmI true v.1 (hgt s f.type.name) = max v.1 (hgt s f.type.name) := by unfold mmI; simp only [if_true]; omega
      refine ⟨?_, fun b' q => ?_⟩
      ·dsimp only [Zqr, ZtD, br, ix, ixg, vz, vw, vs, v2, ln, lxe, cl, wa, eqL]
       unfold rqF
       have tl := Zt3 h f
       cases hld : ldF s f with
       | false =>
        have : toF s f = false := by rw [← tl, hld]; rfl
        simp [hf, j0, j2, hj, hje, m19 h, hld, this]
       | true =>
        by_cases hc : f.card = 1
        ·by_cases hkd : f.type.kind = 10
         ·have : toF s f = true := by rw [← tl, hld, hkd]; rfl
          simp [hf, j0, j2, hj, hje, m19 h, hld, hc, hkd, this, m20 h, g3]
         ·have : toF s f = false := by rw [← tl, hld]; simp [hkd]
          simp [hf, j0, j2, hj, hje, m19 h, hld, hc, hkd, this]
        ·simp [hf, j0, j2, hj, hje, m19 h, hld, hc]
      ·cases q
       split
       ·simp only; omega
       ·exact hI) (fun v _ => by dsimp only [Zqr, ZtD, br, ix, ixg, vz, vw, vs, v2, ln, lxe, cl, wa, eqL]; simp [hf]) (0, false) (by decide) (Zcc (by omega))
     rw [ZgH (fun v f => if rqF s f = true then (max v.1 (hgt s f.type.name), v.2 || decide (hgt s f.type.name = 0)) else v) (fun _ _ => rfl)] at q2
     have e2 : ∀ (l : List Fld) (a : Int) (c : Bool), l.foldl (fun (v : Int × Bool) f => if rqF s f = true then (max v.1 (hgt s f.type.name), v.2 || decide (hgt s f.type.name = 0)) else v) (a, c) = ((rqI s l).foldl (fun h x => max h (hgt s x + 1)) (a + 1) - 1, c || (rqI s l).any fun x => decide (hgt s x = 0)) := fun l => by
      induction l with
      | nil => intro a c; simp [rqI]
      | cons f l ih =>
       intro a c
       rw [Yaf]
       unfold rqI at ih ⊢
       rw [List.filter_cons]
       cases hr : rqF s f with
       | false => simp [ih]
       | true =>
        simp only [if_true, ih, YN, Yaf, List.any_cons, Bool.or_assoc]
        rw [show max a (hgt s f.type.name) + 1 = max (a + 1) (hgt s f.type.name + 1) by omega]
     have e3 : rqI s m.fields = rqL s m.name := by unfold rqI rqL; rw [hfl]
     rw [e2, e3] at q2
     have e4 := Zk3 s m.name
     rw [if_pos hM] at e4
     have hb := ZgI s m.name
     have hnm : (Zim s m.name).1.name = m.name := by rw [hf]
     obtain ⟨st, hst⟩ : ∃ st, st = (rqL s m.name).any fun x => decide (hgt s x = 0) := ⟨_, rfl⟩
     obtain ⟨ft, hft⟩ : ∃ ft, ft = (rqL s m.name).foldl (fun h x => max h (hgt s x + 1)) 1 := ⟨_, rfl⟩
     rw [Int.zero_add, ← hst, ← hft, Yau] at q2
     unfold hgL at e4
     rw [← hst, ← hft] at e4
     dsimp only [Zp6, ZrC, Zsd, ZrR, ZsW, Zrf, Zq2, Zr3, br, ix, vz, vy, vw, vs, vg, v2, lrt, ln, lxe, lc, lxc, cl, wa, wi, du, eqL]
     cases hs : st with
     | true =>
      rw [hs, if_pos rfl] at e4
      rw [hs] at q2
      simp [g0, hk, hgi, m18 h, hat, q2, hnm, m20 h, e4, g2]
     | false =>
      rw [hs, if_neg (by decide)] at e4
      rw [hs] at q2
      have f1 := (Zc8 (hgt s) (rqL s m.name) 1).1
      rw [← hft] at f1
      have f2 : ¬ ft < 0 := by omega
      have f3 : ¬ (s.messages.length : Int) < ft := by omega
      have f4 : ft - 1 + 1 = ft := by omega
      have f5 : (-9223372036854775808 : Int) ≤ ft ∧ ft < 9223372036854775808 := by omega
      simp [g0, hk, hgi, m18 h, hat, q2, hnm, m20 h, e4, g2, f2, f3, f4, f5]
    ·dsimp only [Zp6, ZrC, Zsd, ZrR, ZsW, Zrf, Zq2, Zr3, br, ix, vz, vy, vw, vs, vg, v2, lrt, ln, lxe, lc, lxc, cl, wa, wi, du, eqL]
     simp [g0, hk, hgi, m18 h, hat, g2]) big s.messages.length 0 (Zcc (by omega)) rfl
  obtain ⟨o, e, rfl⟩ := q1
  simp [e, awk]
theorem ZfA {s : Scm} (h : bkL (Zdw s) ≤ 1048576) : Zak s = some true := Zdo s (Zop h)
end Go.Proofs.Ythhipejbnbochaa
namespace Go.Proofs.Ythhipejbnbochaa
set_option linter.all false
open Go Go.Eng Go.ChangeShapes Go.WideShapes Go.ChangeAt Go.RowKit
theorem own : ownKnob Try.prog.godebug = none := by kernel_rfl
namespace GraphFinite
open Go.Proofs.Ythhipejbnbochaa
set_option maxRecDepth 100000 in
theorem contract (H : Type) (enc : TypeId × Value → H) (W : World) (base : Nat) (args : Array Value) (ds gs : List (DataW H)) (before : List MemPlace)
  (hval : ∀ (j : Nat) t v, Try.f5.params[j]? = some t → args[j]? = some v → Value.okWide Try.prog W .any base t v)
  (hW : DataW.Whole enc Try.prog Try.f5.params.toList Rows.graphFiniteSpec.vars false W args.toList ds gs before) (hk : Rows.uptoSmall H (ds ++ gs) = true) :
  Calls Try.prog 5 args W fun e W' => ∃ v, e = .returned v ∧ Rows.graphFiniteSpec.post enc Try.prog Try.f5 false true false false W args v W' := by
 obtain ⟨p, q, hA0, hV, rfl, hfz, hnd⟩ := id hW
 have hA : DataW.TrodAll enc Try.prog W 0 (fun _ => true) true Try.f5.params.toList args.toList ds p := hA0
 rw [Try.params5] at hA hval
 obtain ⟨v0, vs0, d0, ds0, p0, q0, hargs, rfl, rfl, h0, r0⟩ := trodAll_cons hA
 obtain ⟨rfl, rfl, rfl⟩ := trodAll_nil r0
 obtain rfl : args = #[v0] := by cases args; simp_all
 have hb : Rows.uptoBulkAll ([d0] ++ gs) ≤ 1048576 := of_decide_eq_true hk
 simp only [YaH, Yag, Rows.uptoBulkAll] at hb
 obtain ⟨s, re0, fe0⟩ := Zn4 Zth Try.underlying26 (hval 0 26 v0 rfl rfl) h0
 obtain ⟨rfl, rfl⟩ := trodVars_none hV
 have A := (K_5 s).k 0 Hp0 true (ZfA (by omega))
 refine (A.2 (fun _ => ⟨0, 0, 0⟩) (· < W.heap.size) W #[v0] (ok0 _) (ZnS (xs := [.agg ((Zdw s).map .d)]) (vs := [v0]) ⟨re0 _ _, trivial⟩)).mono fun e W' ⟨r, v, H', m', S', he, hp, hO, hr, hx⟩ => ?_
 obtain ⟨hp, _⟩ := hp
 subst he
 subst hp
 cases hr
 rename_i hd
 cases hd
 exact ⟨_, rfl, ZkO hW rfl (by kernel_rfl) (by rw [Try.params5]; exact (by decide +kernel)) (by kernel_rfl) Try.underlying4 rfl ⟨hx.os, hx.tape, hx.output, hx.size, hx.blk⟩⟩
set_option maxRecDepth 100000 in
theorem lifted (os : Os) (started : os.Started) (H : Type) (enc : TypeId × Value → H) (F : Stop.Interp) :
  ReturnsInHanded {} Try.checked os 5 .any ((Rows.OpenSpec.upto Rows.graphFiniteSpec).pre6 enc Try.prog Try.f5 Rows.graphFiniteUptoRow.domain false) (((Rows.OpenSpec.upto Rows.graphFiniteSpec).at F).post enc Try.prog Try.f5 false true false false) := by
 refine returnsInHanded_of_cond (C := Try.checked) (s := Rows.OpenSpec.upto Rows.graphFiniteSpec) (k := Rows.uptoSmall) rfl own started (by kernel_rfl) Try.func5
  (OpenSpec.witness (enc := enc) (C := Try.checked) (s := Rows.OpenSpec.upto Rows.graphFiniteSpec) (k := Rows.uptoSmall) rfl false ⟨#[], #[.agg #[.slice none 0 0, .slice none 0 0, .slice none 0 0]], []⟩ 8 (by kernel_rfl) (by kernel_rfl) (by kernel_rfl)
   (x := ([.agg [.nil, .nil, .nil]], [], [])) (by kernel_rfl) rfl (by kernel_rfl)) ?_
 intro W base args ds gs before hval hW _ hk _
 exact contract H enc W base args ds gs before hval hW hk
theorem holds : Rows.GraphFiniteUptoSaid :=
 OpenClaim.holds_of_cond 5 Try.f5 rfl rfl rfl rfl rfl rfl rfl ⟨rfl, rfl, rfl, rfl, rfl⟩ rfl rfl rfl rfl rfl (by kernel_rfl) Try.func5 (by kernel_rfl)
  (of_decide_eq_true (by kernel_rfl)) (by unfold Func.isWrapper; first | (rw [if_pos (by decide +kernel)]; kernel_rfl) | (rw [if_neg (by decide +kernel)]; exact ⟨rfl, rfl⟩))
  (fun os started H enc _ F => lifted os started H enc F)
end GraphFinite
end Go.Proofs.Ythhipejbnbochaa
