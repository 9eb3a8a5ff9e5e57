/-
  What is proved: the second form of wireschemalaw13.GraphGroups: the law returns true and leaves its arguments as they were.
  Condition: the arguments are together of bulk at most 1048576 (the given second form); nothing else.
-/
import Derived.Test.YthhipejbnbochaaCs22
import Derived.Test.YthhipejbnbochaaCs21
import Derived.Test.YthhipejbnbochaaRows
import Derived.WalkKit
import Derived.ProofKit
import Derived.OpenShut
import Derived.JoinedCond
import Derived.Test.YthhipejbnbochaaCs00
namespace Go.Proofs.Ythhipejbnbochaa
set_option linter.all false
open Go Go.Eng
def lxB : List Int → List Int → Bool
 | [], [] => false
 | [], _ :: _ => true
 | _ :: _, [] => false
 | a :: p, b :: q => decide (a < b) || (decide (a = b) && lxB p q)
theorem ZsF (a b : Int) (p q : List Int) : lxB (a :: p) (b :: q) = (decide (a < b) || (decide (a = b) && lxB p q)) := rfl
theorem Zqy : ∀ p : List Int, lxB p p = false
 | [] => rfl
 | a :: p => by unfold lxB; simp [Zqy p]
theorem Zr9 : ∀ {p q r : List Int}, lxB p q = true → lxB q r = true → lxB p r = true
 | [], [], r, h, _ => by cases h
 | [], b :: q, [], _, k => by cases k
 | [], b :: q, c :: r, _, _ => rfl
 | a :: p, [], r, h, _ => by cases h
 | a :: p, b :: q, [], _, k => by cases k
 | a :: p, b :: q, c :: r, h, k => by
  unfold lxB at *
  simp only [Yz, Yc, decide_eq_true_eq] at *
  rcases h with h | ⟨h1, h2⟩
  ·rcases k with k | ⟨k1, k2⟩
   ·exact .inl (by omega)
   ·exact .inl (by omega)
  ·rcases k with k | ⟨k1, k2⟩
   ·exact .inl (by omega)
   ·exact .inr ⟨by omega, Zr9 h2 k2⟩
theorem Zk9 : ∀ {p q : List Int}, lxB p q = false → lxB q p = false → p = q
 | [], [], _, _ => rfl
 | [], b :: q, h, _ => by cases h
 | a :: p, [], _, k => by cases k
 | a :: p, b :: q, h, k => by
  unfold lxB at h k
  simp only [Ya9, Ya2, decide_eq_false_iff_not] at h k
  have e : a = b := by omega
  subst e
  rw [Zk9 (h.2.resolve_left fun q => q rfl) (k.2.resolve_left fun q => q rfl)]
theorem Zym {p q r : List Int} (h : lxB q p = false) (k : lxB r q = false) : lxB r p = false := by
 cases hr : lxB r p with
 | false => rfl
 | true =>
  cases hp : lxB p q with
  | true => rw [Zr9 hr hp] at k; cases k
  | false => rw [Zk9 hp h] at hr; rw [hr] at k; cases k
theorem ZnW {x y : Int} : ∀ {p q : List Int}, p.length = q.length → lxB (p ++ [x]) (q ++ [y]) = (lxB p q || (decide (p = q) && decide (x < y)))
 | [], [], _ => by simp [lxB]
 | [], b :: q, h => by simp at h
 | a :: p, [], h => by simp at h
 | a :: p, b :: q, h => by
  have ih := ZnW (x := x) (y := y) (p := p) (q := q) (by simpa using h)
  show (decide (a < b) || (decide (a = b) && lxB (p ++ [x]) (q ++ [y]))) = _
  rw [ih, ZsF]
  by_cases h1 : a < b
  ·simp [h1]
  ·by_cases h2 : a = b
   ·subst h2; simp
   ·have : ¬ (a :: p = b :: q) := fun e => h2 (List.cons.inj e).1
    simp [h1, h2, this]
structure FOk (C : ByteArray → List Int → Prop) (fd : List (ByteArray × List Int)) : Prop where
 s : ∀ t p, Zb9 t fd = some p → C t p ∧ ∀ q, C t q → lxB q p = false
 n : ∀ t, Zb9 t fd = none → ∀ q, ¬ C t q
 nd : (ZbO fd).Nodup
def ZxF (fd : List (ByteArray × List Int)) (t : ByteArray) (p : List Int) : List (ByteArray × List Int) := if (!inM t fd || lxB p (lkM t fd)) = true then ZbR t p fd else fd
theorem FOk.congr {C D : ByteArray → List Int → Prop} {fd : List (ByteArray × List Int)} (h : FOk C fd) (k : ∀ t p, C t p ↔ D t p) : FOk D fd :=
 ⟨fun t p e => ⟨(k t p).1 (h.s t p e).1, fun q hq => (h.s t p e).2 q ((k t q).2 hq)⟩, fun t e q hq => h.n t e q ((k t q).2 hq), h.nd⟩
theorem FOk.put {C : ByteArray → List Int → Prop} {fd : List (ByteArray × List Int)} (h : FOk C fd) (t : ByteArray) (p : List Int) : FOk (fun t' q => C t' q ∨ (t' = t ∧ q = p)) (ZxF fd t p) := by
 unfold ZxF
 split
 ·rename_i hc
  refine ⟨fun t' q e => ?_, fun t' e q hq => ?_, ZnS _ _ h.nd⟩
  ·rw [ZcC] at e
   split at e
   ·rename_i ht
    subst ht
    cases e
    refine ⟨.inr ⟨rfl, rfl⟩, fun q hq => ?_⟩
    rcases hq with hq | ⟨_, rfl⟩
    ·cases hg : Zb9 t fd with
     | none => exact absurd hq (h.n t hg q)
     | some r =>
      have h1 := (h.s t r hg).2 q hq
      have e1 : lkM t fd = r := by unfold lkM; rw [hg]; rfl
      have e2 : inM t fd = true := by unfold inM; rw [hg]; rfl
      rw [e1, e2] at hc
      have hc : lxB p r = true := by simpa using hc
      cases hx : lxB q p with
      | false => rfl
      | true => rw [Zr9 hx hc] at h1; cases h1
    ·exact Zqy _
   ·rename_i ht
    obtain ⟨a, b⟩ := h.s t' q e
    refine ⟨.inl a, fun q' hq => ?_⟩
    rcases hq with hq | ⟨rfl, _⟩
    ·exact b q' hq
    ·exact absurd rfl ht
  ·rw [ZcC] at e
   split at e
   ·cases e
   ·rename_i ht
    rcases hq with hq | ⟨rfl, _⟩
    ·exact h.n t' e q hq
    ·exact ht rfl
 ·rename_i hc
  have hc : inM t fd = true ∧ lxB p (lkM t fd) = false := by
   cases h1 : inM t fd <;> cases h2 : lxB p (lkM t fd) <;> simp [h1, h2] at hc ⊢
  refine ⟨fun t' q e => ?_, fun t' e q hq => ?_, h.nd⟩
  ·obtain ⟨a, b⟩ := h.s t' q e
   refine ⟨.inl a, fun q' hq => ?_⟩
   rcases hq with hq | ⟨rfl, rfl⟩
   ·exact b q' hq
   ·have e1 : lkM t' fd = q := by unfold lkM; rw [e]; rfl
    rw [e1] at hc
    exact hc.2
  ·rcases hq with hq | ⟨rfl, _⟩
   ·exact h.n t' e q hq
   ·have := hc.1
    unfold inM at this
    rw [e] at this
    cases this
def inF (s : Scm) (best : List (ByteArray × List Int)) (n : ByteArray) (r : List (ByteArray × List Int)) (f : Fld) : List (ByteArray × List Int) := if (inM f.type.name best || !toF s f) = true then r else ZxF r f.type.name (lkM n best ++ [f.num])
def fdF (s : Scm) (best : List (ByteArray × List Int)) (row : List ByteArray) : List (ByteArray × List Int) := row.foldl (fun r n => (Zfm s n).foldl (inF s best n) r) []
def CdP (s : Scm) (best : List (ByteArray × List Int)) (n : ByteArray) (l : List Fld) (t : ByteArray) (q : List Int) : Prop := ∃ f ∈ l, inM f.type.name best = false ∧ toF s f = true ∧ t = f.type.name ∧ q = lkM n best ++ [f.num]
theorem ZtB {s : Scm} {best : List (ByteArray × List Int)} {n : ByteArray} : ∀ (l : List Fld) {C : ByteArray → List Int → Prop} {r : List (ByteArray × List Int)}, FOk C r → FOk (fun t q => C t q ∨ CdP s best n l t q) (l.foldl (inF s best n) r)
 | [], C, r, h => h.congr fun t q => by simp [CdP]
 | f :: l, C, r, h => by
  rw [Yaj]
  by_cases hc : (inM f.type.name best || !toF s f) = true
  ·have e : inF s best n r f = r := by unfold inF; rw [if_pos hc]
   rw [e]
   refine (ZtB l h).congr fun t q => or_congr Iff.rfl ⟨fun ⟨g, hg, a⟩ => ⟨g, List.mem_cons_of_mem _ hg, a⟩, fun ⟨g, hg, a, b, c⟩ => ?_⟩
   rcases Yo.1 hg with rfl | hg
   ·rw [a, b] at hc; cases hc
   ·exact ⟨g, hg, a, b, c⟩
  ·have e : inF s best n r f = ZxF r f.type.name (lkM n best ++ [f.num]) := by unfold inF; rw [if_neg hc]
   have hc : inM f.type.name best = false ∧ toF s f = true := by
    cases h1 : inM f.type.name best <;> cases h2 : toF s f <;> simp [h1, h2] at hc ⊢
   rw [e]
   refine (ZtB l (h.put f.type.name (lkM n best ++ [f.num]))).congr fun t q => ?_
   rw [or_assoc]
   refine or_congr Iff.rfl ⟨?_, fun ⟨g, hg, a⟩ => ?_⟩
   ·rintro (⟨rfl, rfl⟩ | ⟨g, hg, a⟩)
    ·exact ⟨f, Yu .., hc.1, hc.2, rfl, rfl⟩
    ·exact ⟨g, List.mem_cons_of_mem _ hg, a⟩
   ·rcases Yo.1 hg with rfl | hg
    ·exact .inl a.2.2
    ·exact .inr ⟨g, hg, a⟩
theorem Zyc (s : Scm) (best : List (ByteArray × List Int)) (row : List ByteArray) : FOk (fun t q => ∃ n ∈ row, CdP s best n (Zfm s n) t q) (fdF s best row) := by
 have : ∀ (row : List ByteArray) {C : ByteArray → List Int → Prop} {r : List (ByteArray × List Int)}, FOk C r → FOk (fun t q => C t q ∨ ∃ n ∈ row, CdP s best n (Zfm s n) t q) (row.foldl (fun r n => (Zfm s n).foldl (inF s best n) r) r) := fun row => by
  induction row with
  | nil => intro C r h; exact h.congr fun t q => by simp
  | cons n row ih =>
   intro C r h
   rw [Yaj]
   refine (ih (ZtB (s := s) (best := best) (n := n) (Zfm s n) h)).congr fun t q => ?_
   simp only [Yo, exists_eq_or_imp, or_assoc]
 refine (this row (C := fun _ _ => False) (r := []) ⟨fun t p e => (by cases e), fun t _ q => id, by simp [ZbO]⟩).congr fun t q => by simp
structure MgOk (best fd : List (ByteArray × List Int)) (y : List ByteArray × List (ByteArray × List Int)) : Prop where
 o : y.1.Perm (ZbO fd)
 g : ∀ t, Zb9 t y.2 = (Zb9 t fd).or (Zb9 t best)
 nd : (ZbO y.2).Nodup
 l : y.2.length = best.length + fd.length
end Go.Proofs.Ythhipejbnbochaa
namespace Go.Proofs.Ythhipejbnbochaa
set_option linter.all false
open Go Go.Eng
inductive Wk (s : Scm) (a : ByteArray) : List Int → ByteArray → Prop
 | nil : Wk s a [] a
 | snoc {p : List Int} {b : ByteArray} {f : Fld} : Wk s a p b → f ∈ Zfm s b → toF s f = true → Wk s a (p ++ [f.num]) f.type.name
theorem Wk.inv {s : Scm} {a t : ByteArray} {p : List Int} (h : Wk s a p t) : (p = [] ∧ t = a) ∨ ∃ q b f, p = q ++ [f.num] ∧ Wk s a q b ∧ f ∈ Zfm s b ∧ toF s f = true ∧ t = f.type.name := by
 cases h with
 | nil => exact .inl ⟨rfl, rfl⟩
 | snoc h1 h2 h3 => exact .inr ⟨_, _, _, rfl, h1, h2, h3, rfl⟩
theorem Wk.isM {s : Scm} {a t : ByteArray} {p : List Int} (h : Wk s a p t) (ha : Go.Eng.isM s a = true) : Go.Eng.isM s t = true := by
 cases h with
 | nil => exact ha
 | snoc _ _ h3 => unfold toF at h3; exact (YaK.1 h3).1
theorem Wk.cut {s : Scm} {a t : ByteArray} {q : List Int} (h : Wk s a q t) : ∀ k, k ≤ q.length → ∃ q1 q2 n, q = q1 ++ q2 ∧ q1.length = k ∧ Wk s a q1 n ∧ ∀ p, Wk s a p n → Wk s a (p ++ q2) t := by
 induction h with
 | nil => intro k hk; exact ⟨[], [], a, rfl, by simp at hk; simp [hk], .nil, fun p hp => by simpa using hp⟩
 | snoc h1 h2 h3 ih =>
  rename_i p b f
  intro k hk
  rw [List.length_append, YaH] at hk
  by_cases he : k = p.length + 1
  ·exact ⟨p ++ [f.num], [], _, by simp, by simp [he], .snoc h1 h2 h3, fun r hr => by simpa using hr⟩
  ·obtain ⟨q1, q2, n, e1, e2, e3, e4⟩ := ih k (by omega)
   exact ⟨q1, q2 ++ [f.num], n, by rw [e1, YS], e2, e3, fun r hr => by rw [← YS]; exact .snoc (e4 r hr) h2 h3⟩
structure Best (s : Scm) (a t : ByteArray) (p : List Int) : Prop where
 w : Wk s a p t
 l : ∀ q, Wk s a q t → p.length ≤ q.length ∧ (p.length = q.length → lxB q p = false)
theorem Best.uniq {s : Scm} {a t : ByteArray} {p q : List Int} (h : Best s a t p) (k : Best s a t q) : p = q := by
 obtain ⟨h1, h2⟩ := h.l q k.w
 obtain ⟨k1, k2⟩ := k.l p h.w
 exact Zk9 (k2 (by omega)) (h2 (by omega))
structure BOk (s : Scm) (a : ByteArray) (k : Nat) (r : List (ByteArray × List Int)) : Prop where
 sm : ∀ t p, Zb9 t r = some p → Best s a t p ∧ p.length ≤ k
 n : ∀ t, Zb9 t r = none → ∀ q, Wk s a q t → k < q.length
 nd : (ZbO r).Nodup
theorem BOk.lk {s : Scm} {a : ByteArray} {k : Nat} {r : List (ByteArray × List Int)} (h : BOk s a k r) (n : ByteArray) : (lkM n r).length ≤ k := by
 unfold lkM
 cases hg : Zb9 n r with
 | none => simp [Mv.z]
 | some p => exact (h.sm n p hg).2
theorem BOk.len {s : Scm} (hs : Fw s) {a : ByteArray} (ha : isM s a = true) {k : Nat} {r : List (ByteArray × List Int)} (h : BOk s a k r) : r.length ≤ s.messages.length := by
 have := Zdj h.nd (r := nmM s) fun x hx => ZbJ.1 (by
  obtain ⟨p, hp⟩ := YK.1 ((Zgz x r).1 hx)
  exact (h.sm x p hp).1.w.isM ha)
 simp only [ZbO, nmM, Yn] at this
 exact this
theorem BOk.next {s : Scm} {a : ByteArray} {k : Nat} {r : List (ByteArray × List Int)} (h : BOk s a k r) {row : List ByteArray} (hrow : ∀ t, t ∈ row ↔ ∃ p, Zb9 t r = some p ∧ p.length = k) {y : List ByteArray × List (ByteArray × List Int)} (hy : MgOk r (fdF s r row) y) :
  BOk s a (k + 1) y.2 ∧ ∀ t, t ∈ y.1 ↔ ∃ p, Zb9 t y.2 = some p ∧ p.length = k + 1 := by
 have ok := Zyc s r row
 have hcd : ∀ t q, (∃ n ∈ row, CdP s r n (Zfm s n) t q) → Zb9 t r = none ∧ Wk s a q t ∧ q.length = k + 1 := fun t q ⟨n, hn, f, hf, h1, h2, h3, h4⟩ => by
  obtain ⟨p, hp, hpl⟩ := (hrow n).1 hn
  have e : lkM n r = p := by unfold lkM; rw [hp]; rfl
  subst h3
  rw [e] at h4
  subst h4
  refine ⟨?_, .snoc (h.sm n p hp).1.w hf h2, by simp [hpl]⟩
  unfold inM at h1
  cases hg : Zb9 f.type.name r with
  | none => rfl
  | some x => rw [hg] at h1; cases h1
 have hway : ∀ t q, Zb9 t r = none → Wk s a q t → q.length = k + 1 → ∃ c, (∃ n ∈ row, CdP s r n (Zfm s n) t c) ∧ lxB q c = false := fun t q hn hq hl => by
  rcases hq.inv with ⟨rfl, _⟩ | ⟨q0, b, f, rfl, h1, h2, h3, rfl⟩
  ·simp at hl
  ·rw [List.length_append, YaH] at hl
   cases hb : Zb9 b r with
   | none => have := h.n b hb q0 h1; omega
   | some p0 =>
    obtain ⟨hb1, hb2⟩ := h.sm b p0 hb
    obtain ⟨hb3, hb4⟩ := hb1.l q0 h1
    have hpl : p0.length = k := by
     have := h.n _ hn (p0 ++ [f.num]) (.snoc hb1.w h2 h3)
     rw [List.length_append, YaH] at this
     omega
    refine ⟨p0 ++ [f.num], ⟨b, (hrow b).2 ⟨p0, hb, hpl⟩, f, h2, ?_, h3, rfl, ?_⟩, ?_⟩
    ·unfold inM; rw [hn]; rfl
    ·unfold lkM; rw [hb]; rfl
    ·rw [ZnW (by omega), hb4 (by omega)]
     simp
 refine ⟨⟨fun t p e => ?_, fun t e q hq => ?_, hy.nd⟩, fun t => ?_⟩
 ·rw [hy.g] at e
  cases hf : Zb9 t (fdF s r row) with
  | some p' =>
   rw [hf] at e
   have e : p' = p := by simpa using e
   subst e
   obtain ⟨c1, c2⟩ := ok.s t p' hf
   obtain ⟨d1, d2, d3⟩ := hcd t p' c1
   refine ⟨⟨d2, fun q hq => ?_⟩, by omega⟩
   have hlt := h.n t d1 q hq
   refine ⟨by omega, fun hl => ?_⟩
   obtain ⟨c, hc, hle⟩ := hway t q d1 hq (by omega)
   exact Zym (c2 c hc) hle
  | none =>
   rw [hf] at e
   have e : Zb9 t r = some p := by simpa using e
   exact ⟨(h.sm t p e).1, by have := (h.sm t p e).2; omega⟩
 ·rw [hy.g] at e
  cases hf : Zb9 t (fdF s r row) with
  | some p' => rw [hf] at e; cases e
  | none =>
   rw [hf] at e
   have e : Zb9 t r = none := by simpa using e
   have hlt := h.n t e q hq
   by_cases hl : q.length = k + 1
   ·obtain ⟨c, hc, _⟩ := hway t q e hq hl
    exact absurd hc (ok.n t hf c)
   ·omega
 ·rw [hy.o.mem_iff, Zgz, hy.g]
  constructor
  ·intro hs
   obtain ⟨p, hp⟩ := YK.1 hs
   exact ⟨p, by rw [hp]; rfl, (hcd t p (ok.s t p hp).1).2.2⟩
  ·rintro ⟨p, hp, hl⟩
   cases hf : Zb9 t (fdF s r row) with
   | some p' => rfl
   | none =>
    rw [hf] at hp
    have hp : Zb9 t r = some p := by simpa using hp
    have := (h.sm t p hp).2
    omega
def Zrp (s : Scm) (a b : ByteArray) (y : List Int × Int) : Prop := (∃ p, y = (p, 0) ∧ isM s a = true ∧ isM s b = true ∧ Best s a b p ∧ p.length < s.messages.length) ∨ (y = ([], 10) ∧ ¬ (isM s a = true ∧ isM s b = true ∧ ∃ p, Wk s a p b))
theorem Zrp.uniq {s : Scm} {a b : ByteArray} {y z : List Int × Int} (h : Zrp s a b y) (k : Zrp s a b z) : y = z := by
 rcases h with ⟨p, rfl, h1, h2, h3, _⟩ | ⟨rfl, h1⟩
 ·rcases k with ⟨q, rfl, _, _, k3, _⟩ | ⟨rfl, k1⟩
  ·rw [h3.uniq k3]
  ·exact absurd ⟨h1, h2, p, h3.w⟩ k1
 ·rcases k with ⟨q, rfl, k1, k2, k3, _⟩ | ⟨rfl, k1⟩
  ·exact absurd ⟨k1, k2, q, k3.w⟩ h1
  ·rfl
structure PrtOk (s : Scm) (A : List (List ByteArray)) : Prop where
 l : A.length ≤ 8
 gl : ∀ g ∈ A, g.length ≤ 8
 u : ∀ (i j : Nat) (g g' : List ByteArray) (x : ByteArray), A[i]? = some g → A[j]? = some g' → x ∈ g → x ∈ g' → i = j
 c : ∀ x, isM s x = true → ∃ (i : Nat) (g : List ByteArray), A[i]? = some g ∧ x ∈ g
 m : ∀ g ∈ A, ∀ x ∈ g, isM s x = true
 e : ∀ g ∈ A, ∀ x ∈ g, ∀ y ∈ g, eqB s x y = true
 o : ∀ (i : Nat) (g : List ByteArray), A[i]? = some g → ∀ x ∈ g, ∀ y ∈ ZaM s x, ∃ (j : Nat) (g' : List ByteArray), j ≤ i ∧ A[j]? = some g' ∧ y ∈ g'
theorem Zxr {s : Scm} (h : Fw s) {l : List (List ByteArray)} (k : Gps s (nmW (ZwP s)) l) : PrtOk s (Zlt s l) := by
 have hw := Zd1 s
 have hl8 : l.length ≤ 8 := YR k.len (ZcT hw h)
 have a := Zio hw h k l.length (Yg _)
 have hlen := a.len
 have e2 : (sts s l l.length).2 = [] := YF (by omega)
 have hp : (Zlt s l).Perm l := by
  have := a.p
  rw [e2, YaL] at this
  exact this
 have hnd : (Zlt s l).Pairwise fun g z => hdB g ≠ hdB z := by
  have : l.Pairwise fun g z => hdB g ≠ hdB z := List.Pairwise.imp (fun {a b} q e => by rw [e, ZcD] at q; cases q) (YaF.1 k.a)
  exact this.perm hp.symm fun {a b} q e => q e.symm
 have eq : ∀ g ∈ l, ∀ x ∈ g, ∀ y ∈ g, eqB s x y = true := fun g hg x hx y hy => ZbX h (ZcI h ((k.mem hg x).1 hx).2) ((k.mem hg y).1 hy).2
 refine ⟨?_, fun g hg => ?_, fun i j g g' x hi hj hx hx' => ?_, fun x hx => ?_, fun g hg x hx => ?_, fun g hg => eq g (hp.mem_iff.1 hg), a.o⟩
 ·rw [hp.length_eq]; exact hl8
 ·have := k.f g (hp.mem_iff.1 hg)
  rw [this]
  exact YR (Y8 ..) (ZcT hw h)
 ·have hg := hp.mem_iff.1 (Ym hi)
  have hg' := hp.mem_iff.1 (Ym hj)
  have e := k.uniq h hg hg' (ZbX h ((k.mem hg x).1 hx).2 (ZcI h ((k.mem hg' x).1 hx').2))
  subst e
  obtain ⟨h1, e1⟩ := Yb.1 hi
  obtain ⟨h2, e2⟩ := Yb.1 hj
  rcases Yam i j with q | q | q
  ·exact absurd (by rw [e1, e2]) (Y2.1 hnd i j h1 h2 q)
  ·exact q
  ·exact absurd (by rw [e1, e2]) (Y2.1 hnd j i h2 h1 q)
 ·obtain ⟨g, hg, q⟩ := k.c x ((ZdU hw x).2 hx)
  obtain ⟨i, hi⟩ := Yx.1 (hp.mem_iff.2 hg)
  exact ⟨i, g, hi, q⟩
 ·exact (ZdU hw x).1 ((k.mem (hp.mem_iff.1 hg) x).1 hx).1
theorem ZzE {s : Scm} (h : Fw s) (a b : ByteArray) : Zaw s a b = some (rB s a b) := by
 obtain ⟨v, e, _⟩ := m49 h a b
 unfold rB
 rw [e]; rfl
def ZtG (r : List (List ByteArray)) (x : ByteArray) : Bool := r.any fun g => ZkA g x
theorem Zgx {r : List (List ByteArray)} {x : ByteArray} : ZtG r x = true ↔ ∃ g ∈ r, x ∈ g := by
 unfold ZtG
 simp [YL, ZdK]
theorem ZyX {r : List (List ByteArray)} (hr : r.length ≤ 8) (hg : ∀ g ∈ r, g.length ≤ 8) (x : ByteArray) : Zat r x = some (ZtG r x) := by
 have q1 := ZbW (B := ZeX r x) (N := big) r (fun g => ZkA g x) (fun i => true) () (fun i g hx => by
  obtain ⟨g0, g7⟩ := Yb.1 hx
  have g1 := ZcU hx
  have g2 : i + 1 < 9223372036854775808 := by omega
  have e := m27 (l := g) (by have := hg g (Ym hx); omega) x
  dsimp only [ZeX, ZgB, br, vz, vs, lrt, ln, lxe, cl, wa, ir, ca, fl, eqN]
  simp only [g0, g1, g2, hx, g7, e, decide_true, if_true, Option.bind_some]
  cases q : ZkA g x <;> simp [hx, e, q, g0, g7]) (by simp [ZeX, ZgB, br, vz, vs, lrt, ln, lxe, cl, wa, ir, ca, fl, eqN]) (Zbg (by omega))
 dsimp only [Zat, Ziv, Zig, Zir, vz, lr, lc, fl]
 rw [q1]
 unfold ZtG
 rw [← Zdy]
 cases r.findIdx? fun g => ZkA g x <;> rfl
def okY (r : List (List ByteArray)) (g : List ByteArray) (y : ByteArray) : Bool := ZkA g y || ZtG r y
def rdD (s : Scm) (r : List (List ByteArray)) (g : List ByteArray) : Bool := g.all fun x => (ZdO (ZaM s x)).all fun y => okY r g y
theorem Zr2 {s : Scm} {r : List (List ByteArray)} {g : List ByteArray} : rdD s r g = true ↔ ∀ x ∈ g, ∀ y ∈ ZaM s x, y ∈ g ∨ ∃ g' ∈ r, y ∈ g' := by
 unfold rdD okY
 simp only [Yj, ZdC, Yz, ZdK, Zgx]
section
variable {s : Scm} (h : Fw s)
include h
theorem Zz8 {r : List (List ByteArray)} {g : List ByteArray} (hr : r.length ≤ 8) (hrg : ∀ g ∈ r, g.length ≤ 8) (hg : g.length ≤ 8) : ZaH s r g = some (rdD s r g) := by
 have inner : ∀ (i : Nat) (x : ByteArray), ZaA (ZdY s r g i (ZdO (ZaM s x))) big 0 = some (if (ZdO (ZaM s x)).all (fun y => okY r g y) = true then .inl () else .inr false) := fun i x => by
  have hl : (ZdO (ZaM s x)).length ≤ 10 := YR (Zf7 _) (h.nl x)
  generalize ZdO (ZaM s x) = L at *
  have q1 := ZbW (B := ZdY s r g i L) (N := big) L (fun y => !okY r g y) (fun i => false) () (fun j y hy => by
   obtain ⟨g0, g7⟩ := Yb.1 hy
   have g1 := ZcU hy
   have g2 : j + 1 < 9223372036854775808 := by omega
   have e1 := m27 (l := g) (by omega) y
   have e2 := ZyX hr hrg y
   dsimp only [ZdY, ZgO, br, ix, ixg, vz, vs, lrt, ln, lxe, cl, csg, wa, fl, eqL]
   unfold okY
   cases q : ZkA g y with
   | true => simp [g0, g2, hy, g7, e1, e2, q]
   | false => cases q' : ZtG r y <;> simp [g0, g2, hy, g7, e1, e2, q, q']) (by simp [ZdY, ZgO, br, ix, ixg, vz, vs, lrt, ln, lxe, cl, csg, wa, fl, eqL]) (Zbg (by omega))
  rw [q1]
  cases e : L.findIdx? fun y => !okY r g y with
  | none =>
   have : L.all (fun y => okY r g y) = true := Yj.2 fun y hy => by simpa using Yah.1 e y hy
   rw [if_pos this]
  | some j =>
   obtain ⟨hj, hj2, _⟩ := YU.1 e
   have : ¬ L.all (fun y => okY r g y) = true := fun q => by
    have := Yj.1 q _ (Yay hj)
    rw [this] at hj2; cases hj2
   rw [if_neg this]
 have q2 := ZbW (B := Ze4 s r g) (N := big) g (fun x => !(ZdO (ZaM s x)).all (fun y => okY r g y)) (fun i => false) () (fun i x hx => by
  obtain ⟨g0, g7⟩ := Yb.1 hx
  have g1 := ZcU hx
  have g2 : i + 1 < 9223372036854775808 := by omega
  dsimp only [Ze4, Zgi, ZgN, ZgE, br, ix, vz, vw, vs, ln, lxe, lc, cl, wa, fl, eqL]
  have e := inner i x
  cases q : (ZdO (ZaM s x)).all (fun y => okY r g y) with
  | false =>
   rw [q, if_neg (by decide)] at e
   simp [g0, g2, hx, g7, m61 h, e]
  | true =>
   rw [q, if_pos rfl] at e
   simp [g0, g2, hx, g7, m61 h, e]) (by simp [Ze4, Zgi, ZgN, ZgE, br, ix, vz, vw, vs, ln, lxe, lc, cl, wa, fl, eqL]) (Zbg (by omega))
 dsimp only [ZaH, Zh6, ZiB, Ziw, vz, lr, lc, fl]
 rw [q2]
 unfold rdD
 cases e : g.findIdx? fun x => !(ZdO (ZaM s x)).all (fun y => okY r g y) with
 | none =>
  have : g.all (fun x => (ZdO (ZaM s x)).all (fun y => okY r g y)) = true := Yj.2 fun y hy => by simpa using Yah.1 e y hy
  rw [this]; rfl
 | some j =>
  obtain ⟨hj, hj2, _⟩ := YU.1 e
  have : g.all (fun x => (ZdO (ZaM s x)).all (fun y => okY r g y)) = false := by
   rw [Bool.eq_false_iff]
   intro q
   have := Yj.1 q _ (Yay hj)
   rw [this] at hj2; cases hj2
  rw [this]; rfl
theorem m39 {ns : List ByteArray} (hns : ∀ x, x ∈ ns ↔ isM s x = true) (ha : Asc ns) {l : List (List ByteArray)} (k : Gps s ns l) {g : List ByteArray} (hg : g ∈ l) {n : ByteArray} (hn : n ∈ g) : Za7 s n = some g := by
 have h8 := h.m
 have q1 := ZdM (B := Zmr s n) s.messages (fun m => if (rB s n m.name && rB s m.name n) = true then some m.name else none) [n] (by simp; omega) (fun i b m hm hb g2 g1 => by
  obtain ⟨g0, g7⟩ := Yb.1 hm
  dsimp only [Zmr, ZpC, br, ix, vz, vw, vs, v2, ln, lxe, cl, clg, wa, eqL]
  cases q1 : rB s n m.name with
  | false => simp [g0, g2, hm, g7, ZzE h, q1]
  | true => cases q2 : rB s m.name n <;> simp [g0, g2, hm, g7, ZzE h, q1, q2, m53 hb]) (fun b => by simp [Zmr, ZpC, br, ix, vz, vw, vs, v2, ln, lxe, cl, clg, wa, eqL])
 have e : (s.messages.filterMap (fun m => if (rB s n m.name && rB s m.name n) = true then some m.name else none)).foldl ZbP [n] = g := by
  refine Znp (Zf8 (by simp [Asc])) (by rw [k.f g hg]; exact ha.sublist List.filter_sublist) fun x => ?_
  rw [ZgP, k.mem hg, Ybi, hns, ZbJ]
  have en := ((k.mem hg n).1 hn).2
  rw [Zhm h en]
  unfold nmM eqB
  rw [Yr]
  constructor
  ·rintro (⟨m, hm, q⟩ | q)
   ·split at q
    ·rename_i q'
     cases q
     exact ⟨⟨m, hm, rfl⟩, by rw [q', Bool.or_true]⟩
    ·cases q
   ·have q : x = n := by simpa using q
    subst q
    refine ⟨?_, by simp⟩
    have := (hns x).1 ((k.mem hg x).1 hn).1
    exact Yr.1 (ZbJ.1 this)
  ·rintro ⟨⟨m, hm, rfl⟩, q⟩
   rw [Yz, decide_eq_true_eq] at q
   rcases q with q | q
   ·right; simp [q]
   ·exact .inl ⟨m, hm, by rw [if_pos q]⟩
 rw [e] at q1
 dsimp only [Za7, ZsW, Zug, Zrq, vw, lr, lc]
 rw [q1]
 rfl
end
section
variable {s : Scm} (h : Fw s) {l : List (List ByteArray)} (k : Gps s (nmW (ZwP s)) l)
include h k
theorem ZjL {v : List (List ByteArray) × List (List ByteArray)} {j : Nat} (a : AInv s l j v) {g : List ByteArray} (h1 : g ∈ v.1) (h2 : g ∈ v.2) : False := by
 have hl : l.Nodup := List.Pairwise.imp (fun {a b} q e => by rw [e, ZcD] at q; cases q) (YaF.1 k.a)
 have := a.p.nodup_iff.2 hl
 exact (Ybp.1 this).2.2 g h1 g h2 rfl
theorem ZyI {v : List (List ByteArray) × List (List ByteArray)} {j : Nat} (a : AInv s l j v) {g : List ByteArray} (hg : g ∈ v.2) : rdD s v.1 g = ZhT s v.2 g := by
 have hw := Zd1 s
 have hgl := a.sb.subset hg
 rw [YbB, Zr2]
 constructor
 ·intro q
  rw [ZiZ]
  intro z hz
  cases e : rB s (hdB g) (hdB z) with
  | false => exact .inr rfl
  | true =>
   left
   have all : ∀ t, Rch s (hdB g) t → t ∈ g ∨ ∃ g' ∈ v.1, t ∈ g' := fun t ht => by
    have stepG : ∀ x y, (x ∈ g ∨ ∃ g' ∈ v.1, x ∈ g') → y ∈ ZaM s x → y ∈ g ∨ ∃ g' ∈ v.1, y ∈ g' := fun x y hx hy => by
     rcases hx with hx | ⟨g', hg', hx⟩
     ·exact q x hx y hy
     ·obtain ⟨i, hi⟩ := Yx.1 hg'
      obtain ⟨j', g'', _, h2, h3⟩ := a.o i g' hi x hx y hy
      exact .inr ⟨g'', Ym h2, h3⟩
    induction ht with
    | one hx => exact stepG _ _ (.inl (ZfY (k.n g hgl))) hx
    | tl _ hx ih => exact stepG _ _ ih hx
   have hzl := a.sb.subset hz
   have hz0 := ZfY (k.n z hzl)
   rcases all _ ((ZhC h _ _).1 e) with q1 | ⟨g', q1, q2⟩
   ·have := k.uniq h hgl hzl ((k.mem hgl _).1 q1).2
    rw [this]
   ·have hg'l := a.p.mem_iff.1 (YN _ q1)
    have := k.uniq h hg'l hzl ((k.mem hg'l _).1 q2).2
    subst this
    exact (ZjL h k a q1 hz).elim
 ·intro q x hx y hy
  exact ZlD hw h k a hg q hx hy
def Zps (s : Scm) (L : List (List ByteArray)) (seen : List Msg) (v : List ByteArray) : Prop :=
 (v = [] ∧ ∀ m ∈ seen, ∀ g ∈ L, m.name ∈ g → ZhT s L g = false) ∨ (v ∈ L ∧ ZhT s L v = true ∧ ∀ m ∈ seen, ∀ g ∈ L, m.name ∈ g → ZhT s L g = true → sLt (hdB g) (hdB v) = false)
omit h k in
theorem Zvc {g : List ByteArray} (hg : g ≠ []) : g.getD 0 Rw.z = hdB g ∧ 0 < g.length ∧ ¬ ((g.length : Int) = 0) := by
 cases g with
 | nil => exact absurd rfl hg
 | cons a t => exact ⟨rfl, by simp, by simp; omega⟩
theorem ZyA {v : List (List ByteArray) × List (List ByteArray)} {j : Nat} (a : AInv s l j v) : ∃ y, ZaA (Zfr s v.1) big ([], 0) = some (.inl y) ∧ Zps s v.2 s.messages y := by
 have hw := Zd1 s
 have h8 := h.m
 have hl8 : l.length ≤ 8 := YR k.len (ZcT hw h)
 have hgl : ∀ g ∈ l, g.length ≤ 8 := fun g hg => by
  rw [k.f g hg]
  exact YR (Y8 ..) (ZcT hw h)
 obtain ⟨out, L⟩ := v
 have hol : ∀ g ∈ out, g ∈ l := fun g hg => a.p.mem_iff.1 (YN _ hg)
 have hLl : ∀ g ∈ L, g ∈ l := fun g hg => a.sb.subset hg
 have ho8 : out.length ≤ 8 := by have := a.len; have := a.le; simp only at *; omega
 have q1 := Zbs (B := Zfr s out) (I := fun c v => c + v.2 = s.messages.length ∧ Zps s L (s.messages.take v.2) v.1) (Q := fun o => Sum.elim (fun y => Zps s L s.messages y) (fun _ => False) o) (fun c v hI => by
  obtain ⟨v3, i⟩ := v
  obtain ⟨h1, h2⟩ := hI
  simp only at h1 h2
  cases hk : s.messages[i]? with
  | none =>
   have hge := Y7.1 hk
   refine ⟨.ex v3, by simp [Zfr, ZhH, br, ix, ixg, vz, vy, vw, vs, ln, lxe, cl, cs, wa, fl, eqL, show ¬ i < s.messages.length by omega], ?_⟩
   rw [Yab hge] at h2
   exact h2
  | some m =>
   obtain ⟨g0, g7⟩ := Yb.1 hk
   have g2 : i + 1 < 9223372036854775808 := by omega
   have hM : isM s m.name = true := ZbJ.2 (Yr.2 ⟨m, Ym hk, rfl⟩)
   obtain ⟨g, hg, hng⟩ := k.c m.name ((ZdU hw _).2 hM)
   have only : ∀ g' ∈ l, m.name ∈ g' → g' = g := fun g' hg' hn' => k.uniq h hg' hg (ZbX h ((k.mem hg' _).1 hn').2 (ZcI h ((k.mem hg _).1 hng).2))
   have e1 := ZyX ho8 (fun g hg => hgl g (hol g hg)) m.name
   have et : s.messages.take (i + 1) = s.messages.take i ++ [m] := by rw [Ybq, hk]; rfl
   have e2 := m39 h (fun x => ZdU hw x) (Zog hw) k hg hng
   have e3 := Zz8 h ho8 (fun g hg => hgl g (hol g hg)) (hgl g hg)
   cases q : ZtG out m.name with
   | true =>
    obtain ⟨g', hg', hn'⟩ := Zgx.1 q
    have eg := only g' (hol g' hg') hn'
    subst eg
    refine ⟨.nx (v3, i + 1), by simp [Zfr, ZhH, br, ix, ixg, vz, vy, vw, vs, ln, lxe, cl, cs, wa, fl, eqL, g0, g2, hk, g7, e1, q], c - 1, by omega, by simp only; omega, ?_⟩
    simp only
    rw [et]
    have no : ∀ g'' ∈ L, m.name ∈ g'' → False := fun g'' hg'' hn'' => by
     have := only g'' (hLl g'' hg'') hn''
     subst this
     exact ZjL h k a hg' hg''
    rcases h2 with ⟨p1, p2⟩ | ⟨p1, p2, p3⟩
    ·refine .inl ⟨p1, fun m' hm' g'' hg'' hn'' => ?_⟩
     rcases YD.1 hm' with hm' | hm'
     ·exact p2 m' hm' g'' hg'' hn''
     ·rw [YG.1 hm'] at hn''
      exact (no g'' hg'' hn'').elim
    ·refine .inr ⟨p1, p2, fun m' hm' g'' hg'' hn'' hr => ?_⟩
     rcases YD.1 hm' with hm' | hm'
     ·exact p3 m' hm' g'' hg'' hn'' hr
     ·rw [YG.1 hm'] at hn''
      exact (no g'' hg'' hn'').elim
   | false =>
    have hgL : g ∈ L := by
     rcases YD.1 (a.p.mem_iff.2 hg) with q' | q'
     ·have := Zgx.2 ⟨g, q', hng⟩
      rw [q] at this; cases this
     ·exact q'
    rw [ZyI h k a hgL] at e3
    simp only at e3
    obtain ⟨x1, x2, x3⟩ := Zvc (k.n g hg)
    have only' : ∀ g'' ∈ L, m.name ∈ g'' → g'' = g := fun g'' hg'' hn'' => only g'' (hLl g'' hg'') hn''
    cases hr : ZhT s L g with
    | false =>
     rw [hr] at e3
     refine ⟨.nx (v3, i + 1), by simp [Zfr, ZhH, br, ix, ixg, vz, vy, vw, vs, ln, lxe, cl, cs, wa, fl, eqL, g0, g2, hk, g7, e1, q, e2, e3], c - 1, by omega, by simp only; omega, ?_⟩
     simp only
     rw [et]
     rcases h2 with ⟨p1, p2⟩ | ⟨p1, p2, p3⟩
     ·refine .inl ⟨p1, fun m' hm' g'' hg'' hn'' => ?_⟩
      rcases YD.1 hm' with hm' | hm'
      ·exact p2 m' hm' g'' hg'' hn''
      ·rw [YG.1 hm'] at hn''
       rw [only' g'' hg'' hn'']; exact hr
     ·refine .inr ⟨p1, p2, fun m' hm' g'' hg'' hn'' hr' => ?_⟩
      rcases YD.1 hm' with hm' | hm'
      ·exact p3 m' hm' g'' hg'' hn'' hr'
      ·rw [YG.1 hm'] at hn''
       rw [only' g'' hg'' hn'', hr] at hr'; cases hr'
    | true =>
     rw [hr] at e3
     rcases h2 with ⟨p1, p2⟩ | ⟨p1, p2, p3⟩
     ·subst p1
      refine ⟨.nx (g, i + 1), by simp [Zfr, ZhH, br, ix, ixg, vz, vy, vw, vs, ln, lxe, cl, cs, wa, fl, eqL, g0, g2, hk, g7, e1, q, e2, e3], c - 1, by omega, by simp only; omega, ?_⟩
      simp only
      rw [et]
      refine .inr ⟨hgL, hr, fun m' hm' g'' hg'' hn'' hr' => ?_⟩
      rcases YD.1 hm' with hm' | hm'
      ·rw [p2 m' hm' g'' hg'' hn''] at hr'; cases hr'
      ·rw [YG.1 hm'] at hn''
       rw [only' g'' hg'' hn'']; exact ZcD _
     ·obtain ⟨y1, y2, y3⟩ := Zvc (k.n v3 (hLl v3 p1))
      have y4 : ¬ v3 = [] := k.n v3 (hLl v3 p1)
      cases hs : sLt (hdB g) (hdB v3) with
      | true =>
       refine ⟨.nx (g, i + 1), ?_, c - 1, by omega, by simp only; omega, ?_⟩
       ·obtain ⟨ga, gt, eg⟩ := Yau (k.n g hg)
        obtain ⟨va, vt, ev⟩ := Yau y4
        have hs' : sLt ga va = true := by have := hs; rw [eg, ev] at this; exact this
        rw [eg] at e2 e3
        rw [eg, ev]
        dsimp only [Zfr, ZhH, br, ix, ixg, vz, vy, vw, vs, ln, lxe, cl, cs, wa, fl, eqL]
        simp [g0, g2, hk, g7, e1, q, e2, e3, hs']
        try omega
       ·simp only
        rw [et]
        refine .inr ⟨hgL, hr, fun m' hm' g'' hg'' hn'' hr' => ?_⟩
        rcases YD.1 hm' with hm' | hm'
        ·have := p3 m' hm' g'' hg'' hn'' hr'
         cases q4 : sLt (hdB g'') (hdB g) with
         | false => rfl
         | true => rw [Zle q4 hs] at this; cases this
        ·rw [YG.1 hm'] at hn''
         rw [only' g'' hg'' hn'']; exact ZcD _
      | false =>
       refine ⟨.nx (v3, i + 1), ?_, c - 1, by omega, by simp only; omega, ?_⟩
       ·obtain ⟨ga, gt, eg⟩ := Yau (k.n g hg)
        obtain ⟨va, vt, ev⟩ := Yau y4
        have hs' : sLt ga va = false := by have := hs; rw [eg, ev] at this; exact this
        rw [eg] at e2 e3
        rw [ev]
        dsimp only [Zfr, ZhH, br, ix, ixg, vz, vy, vw, vs, ln, lxe, cl, cs, wa, fl, eqL]
        simp [g0, g2, hk, g7, e1, q, e2, e3, hs']
        try omega
       ·simp only
        rw [et]
        refine .inr ⟨p1, p2, fun m' hm' g'' hg'' hn'' hr' => ?_⟩
        rcases YD.1 hm' with hm' | hm'
        ·exact p3 m' hm' g'' hg'' hn'' hr'
        ·rw [YG.1 hm'] at hn''
         rw [only' g'' hg'' hn'']; exact hs) big s.messages.length ([], 0) (Zbg (by omega)) ⟨by simp, .inl ⟨rfl, by simp⟩⟩
 obtain ⟨o, e, q⟩ := q1
 cases o with
 | inl y => exact ⟨y, e, q⟩
 | inr z => exact absurd q (by simp)
theorem Zws {v : List (List ByteArray) × List (List ByteArray)} {j : Nat} (a : AInv s l j v) {y : List ByteArray} (b : Zps s v.2 s.messages y) : (v.2 = [] ∧ y = []) ∨ (∃ i, stp s v = (v.1 ++ [y], v.2.eraseIdx i) ∧ y ≠ [] ∧ v.2 ≠ []) := by
 have hw := Zd1 s
 by_cases hne : v.2 = []
 ·refine .inl ⟨hne, ?_⟩
  rcases b with ⟨p1, _⟩ | ⟨p1, _⟩
  ·exact p1
  ·rw [hne] at p1; cases p1
 ·obtain ⟨i, g, e1, e2, e3, _⟩ := a.step hw h k hne
  obtain ⟨hi, hi2, hi3⟩ := YU.1 e1
  have hgi : v.2[i] = g := (Yb.1 e2).2
  have hg : g ∈ v.2 := Ym e2
  have hgl := a.sb.subset hg
  rw [hgi] at hi2
  have hhd := ZfY (k.n g hgl)
  obtain ⟨m, hm, hmn⟩ := Yr.1 (ZbJ.1 ((ZdU hw _).1 (k.hd hgl)))
  rcases b with ⟨p1, p2⟩ | ⟨p1, p2, p3⟩
  ·have := p2 m hm g hg (by rw [hmn]; exact hhd)
   rw [this] at hi2; cases hi2
  ·refine .inr ⟨i, ?_, k.n y (a.sb.subset p1), hne⟩
   have hlt := p3 m hm g hg (by rw [hmn]; exact hhd) hi2
   obtain ⟨j', hj'⟩ := Yx.1 p1
   obtain ⟨hj, hjy⟩ := Yb.1 hj'
   have : y = g := by
    rcases Yam i j' with q | q | q
    ·exfalso
     have hasc : Asc (v.2.map hdB) := k.a.sublist (a.sb.map hdB)
     have := Y2.1 hasc i j' (by simp; exact hi) (by simp; exact hj) q
     simp only [YaX, hgi, hjy] at this
     rw [hlt] at this; cases this
    ·subst q
     rw [← hjy, hgi]
    ·exfalso
     have := hi3 j' q
     rw [hjy, p2] at this
     exact this rfl
   subst this
   exact e3
theorem m13 : ZaY s = some (Zlt s l) := by
 have hw := Zd1 s
 have hl8 : l.length ≤ 8 := YR k.len (ZcT hw h)
 have q1 := Zbs (B := Zkz s) (I := fun c v => ∃ j, j ≤ l.length ∧ v.1 = (sts s l j).1 ∧ (v.2 = false → j = l.length) ∧ c = 2 * (l.length - j) + (if v.2 = true then 1 else 0)) (Q := fun o => o = .inl (Zlt s l)) (fun c v hI => by
  obtain ⟨r1, f⟩ := v
  obtain ⟨j, hj, e1, e2, e3⟩ := hI
  simp only at e1 e2 e3
  cases f with
  | false =>
   have := e2 rfl
   subst this
   refine ⟨.ex r1, by simp [Zkz, ZlQ, Zmy, ZnE, Zmk, ZlL, br, vz, vw, v2, ln, lxe, lc, ap, fl, fz, eqL], ?_⟩
   rw [e1]; rfl
  | true =>
   have a := Zio hw h k j hj
   obtain ⟨y, eq, b⟩ := ZyA h k a
   rw [← e1] at eq
   have hr1 : r1.length < 549755813887 := by have := a.le; rw [← e1] at this; omega
   rcases Zws h k a b with ⟨p1, p2⟩ | ⟨i, p1, p2, p3⟩
   ·subst p2
    have ej : j = l.length := by have := a.len; rw [p1] at this; simpa using this
    refine ⟨.nx (r1, false), by simp [Zkz, ZlQ, Zmy, ZnE, Zmk, ZlL, br, vz, vw, v2, ln, lxe, lc, ap, fl, fz, eqL, eq], 0, by rw [e3, if_pos rfl]; omega, j, hj, e1, fun _ => ej, by simp [ej]⟩
   ·have hjl : j < l.length := by
     have := a.len
     have : (sts s l j).2.length ≠ 0 := fun q => p3 (YF q)
     omega
    have y3 : 0 < y.length := Ybb.2 p2
    refine ⟨.nx (r1 ++ [y], true), ?_, 2 * (l.length - (j + 1)) + 1, by rw [e3, if_pos rfl]; omega, j + 1, by omega, ?_, (fun q => by cases q), by simp⟩
    ·simp [Zkz, ZlQ, Zmy, ZnE, Zmk, ZlL, br, vz, vw, v2, ln, lxe, lc, ap, fl, fz, eqL, eq, y3, hr1]
    ·show r1 ++ [y] = (stp s (sts s l j)).1
     rw [p1, ← e1]) big (2 * l.length + 1) ([], true) (Zbg (by omega)) ⟨0, by omega, rfl, (fun q => by cases q), by simp⟩
 obtain ⟨o, e, q⟩ := q1
 subst q
 dsimp only [ZaY, Zm9, Ztu, Zq9, ZtZ, vz, vw, lr, lc, fl, fr]
 rw [e]
 rfl
end
theorem Zei (s : Scm) (hm : s.messages.length ≤ 1048576) : Zax s = some true := by
 obtain ⟨b, e, hb⟩ := m11 s hm
 dsimp only [Zax, Zyh, Zye, ZyM, br, vz, vw, lr, lc, cl, eqL]
 simp only [e, Option.bind_some]
 cases b with
 | false => simp
 | true =>
  have h := hb rfl
  obtain ⟨l, eG, k⟩ := m12 h
  have e13 := m13 h k
  have p := Zxr h k
  generalize Zlt s l = A at *
  have hA := p.l
  have q1 := Zbs (B := ZuI A A) (I := fun k i => k + i = A.length) (Q := fun o => o = .inl ()) (fun k i hI => by
   cases hk : A[i]? with
   | none =>
    have := Y7.1 hk
    exact ⟨.ex (), by dsimp only [ZuI, Zxz, br, ix, vz, vs, lrt, ln, lxe, cl, wa, eqL]; simp [show ¬ i < A.length by omega], rfl⟩
   | some g =>
    obtain ⟨g0, hgi⟩ := Yb.1 hk
    have g2 : i + 1 < 9223372036854775808 := by omega
    have := p.gl g (Ym hk)
    have e14 := m14 (l := g) (by omega)
    refine ⟨.nx (i + 1), ?_, k - 1, by omega, by omega⟩
    dsimp only [ZuI, Zxz, br, ix, vz, vs, lrt, ln, lxe, cl, wa, eqL]
    simp [g0, hgi, hk, g2, e14]) big A.length 0 (Zbg (by omega)) (by simp)
  obtain ⟨o, eo, rfl⟩ := q1
  simp [eG, e13, eo, awk]
theorem Zf6 {s : Scm} (h : bkL (ZcE s) ≤ 1048576) : Zax s = some true := Zei s (ZsQ h)
end Go.Proofs.Ythhipejbnbochaa
namespace Go.Proofs.Ythhipejbnbochaa
set_option linter.all false
open Go Go.Eng Go.ChangeShapes Go.WideShapes Go.ChangeAt Go.RowKit
theorem own : ownKnob Try.prog.godebug = none := by kernel_rfl
namespace GraphGroups
open Go.Proofs.Ythhipejbnbochaa
set_option maxRecDepth 100000 in
theorem contract (H : Type) (enc : TypeId × Value → H) (W : World) (base : Nat) (args : Array Value) (ds gs : List (DataW H)) (before : List MemPlace)
  (hval : ∀ (j : Nat) t v, Try.f3.params[j]? = some t → args[j]? = some v → Value.okWide Try.prog W .any base t v)
  (hW : DataW.Whole enc Try.prog Try.f3.params.toList Rows.graphGroupsSpec.vars false W args.toList ds gs before) (hk : Rows.uptoSmall H (ds ++ gs) = true) :
  Calls Try.prog 3 args W fun e W' => ∃ v, e = .returned v ∧ Rows.graphGroupsSpec.post enc Try.prog Try.f3 false true false false W args v W' := by
 obtain ⟨p, q, hA0, hV, rfl, hfz, hnd⟩ := id hW
 have hA : DataW.TrodAll enc Try.prog W 0 (fun _ => true) true Try.f3.params.toList args.toList ds p := hA0
 rw [Try.params3] at hA hval
 obtain ⟨v0, vs0, d0, ds0, p0, q0, hargs, rfl, rfl, h0, r0⟩ := trodAll_cons hA
 obtain ⟨rfl, rfl, rfl⟩ := trodAll_nil r0
 obtain rfl : args = #[v0] := by cases args; simp_all
 have hb : Rows.uptoBulkAll ([d0] ++ gs) ≤ 1048576 := of_decide_eq_true hk
 simp only [YaY, Yak, Rows.uptoBulkAll] at hb
 obtain ⟨s, re0, fe0⟩ := Zs1 ZwH Try.underlying26 (hval 0 26 v0 rfl rfl) h0
 obtain ⟨rfl, rfl⟩ := trodVars_none hV
 have A := (K_3 s).k 0 Hp0 true (Zf6 (by omega))
 refine (A.2 (fun _ => ⟨0, 0, 0⟩) (· < W.heap.size) W #[v0] (ok0 _) (Ztj (xs := [.agg ((ZcE s).map .d)]) (vs := [v0]) ⟨re0 _ _, trivial⟩)).mono fun e W' ⟨r, v, H', m', S', he, hp, hO, hr, hx⟩ => ?_
 obtain ⟨hp, _⟩ := hp
 subst he
 subst hp
 cases hr
 rename_i hd
 cases hd
 exact ⟨_, rfl, ZmJ hW rfl (by kernel_rfl) (by rw [Try.params3]; exact (by decide +kernel)) (by kernel_rfl) Try.underlying4 rfl ⟨hx.os, hx.tape, hx.output, hx.size, hx.blk⟩⟩
set_option maxRecDepth 100000 in
theorem lifted (os : Os) (started : os.Started) (H : Type) (enc : TypeId × Value → H) (F : Stop.Interp) :
  ReturnsInHanded {} Try.checked os 3 .any ((Rows.OpenSpec.upto Rows.graphGroupsSpec).pre6 enc Try.prog Try.f3 Rows.graphGroupsUptoRow.domain false) (((Rows.OpenSpec.upto Rows.graphGroupsSpec).at F).post enc Try.prog Try.f3 false true false false) := by
 refine returnsInHanded_of_cond (C := Try.checked) (s := Rows.OpenSpec.upto Rows.graphGroupsSpec) (k := Rows.uptoSmall) rfl own started (by kernel_rfl) Try.func3
  (OpenSpec.witness (enc := enc) (C := Try.checked) (s := Rows.OpenSpec.upto Rows.graphGroupsSpec) (k := Rows.uptoSmall) rfl false ⟨#[], #[.agg #[.slice none 0 0, .slice none 0 0, .slice none 0 0]], []⟩ 8 (by kernel_rfl) (by kernel_rfl) (by kernel_rfl)
   (x := ([.agg [.nil, .nil, .nil]], [], [])) (by kernel_rfl) rfl (by kernel_rfl)) ?_
 intro W base args ds gs before hval hW _ hk _
 exact contract H enc W base args ds gs before hval hW hk
theorem holds : Rows.GraphGroupsUptoSaid :=
 OpenClaim.holds_of_cond 3 Try.f3 rfl rfl rfl rfl rfl rfl rfl ⟨rfl, rfl, rfl, rfl, rfl⟩ rfl rfl rfl rfl rfl (by kernel_rfl) Try.func3 (by kernel_rfl)
  (of_decide_eq_true (by kernel_rfl)) (by unfold Func.isWrapper; first | (rw [if_pos (by decide +kernel)]; kernel_rfl) | (rw [if_neg (by decide +kernel)]; exact ⟨rfl, rfl⟩))
  (fun os started H enc _ F => lifted os started H enc F)
end GraphGroups
end Go.Proofs.Ythhipejbnbochaa
