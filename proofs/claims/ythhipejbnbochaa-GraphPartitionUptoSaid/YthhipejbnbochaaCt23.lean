/-
  What is proved: the second form of wireschemalaw13.GraphPartition: the law returns true and leaves its arguments as they were.
  Condition: the arguments are together of bulk at most 1048576 (the given second form); nothing else.
-/
import Derived.Test.YthhipejbnbochaaCt22
import Derived.Test.YthhipejbnbochaaCt21
import Derived.Test.YthhipejbnbochaaRows
import Derived.WalkKit
import Derived.ProofKit
import Derived.OpenShut
import Derived.JoinedCond
import Derived.Test.YthhipejbnbochaaCt00
namespace Go.Proofs.Ythhipejbnbochaa
set_option linter.all false
open Go Go.Eng
inductive Wk (s : Scm) (a : ByteArray) : List Int → ByteArray → Prop
 | nil : Wk s a [] a
 | snoc {p : List Int} {b : ByteArray} {f : Fld} : Wk s a p b → f ∈ Zdd s b → toF s f = true → Wk s a (p ++ [f.num]) f.type.name
theorem Wk.inv {s : Scm} {a t : ByteArray} {p : List Int} (h : Wk s a p t) : (p = [] ∧ t = a) ∨ ∃ q b f, p = q ++ [f.num] ∧ Wk s a q b ∧ f ∈ Zdd s b ∧ toF s f = true ∧ t = f.type.name := by
 cases h with
 | nil => exact .inl ⟨rfl, rfl⟩
 | snoc h1 h2 h3 => exact .inr ⟨_, _, _, rfl, h1, h2, h3, rfl⟩
theorem Wk.isM {s : Scm} {a t : ByteArray} {p : List Int} (h : Wk s a p t) (ha : Go.Eng.isM s a = true) : Go.Eng.isM s t = true := by
 cases h with
 | nil => exact ha
 | snoc _ _ h3 => unfold toF at h3; exact (Yay.1 h3).1
theorem Wk.cut {s : Scm} {a t : ByteArray} {q : List Int} (h : Wk s a q t) : ∀ k, k ≤ q.length → ∃ q1 q2 n, q = q1 ++ q2 ∧ q1.length = k ∧ Wk s a q1 n ∧ ∀ p, Wk s a p n → Wk s a (p ++ q2) t := by
 induction h with
 | nil => intro k hk; exact ⟨[], [], a, rfl, by simp at hk; simp [hk], .nil, fun p hp => by simpa using hp⟩
 | snoc h1 h2 h3 ih =>
  rename_i p b f
  intro k hk
  rw [List.length_append, Yas] at hk
  by_cases he : k = p.length + 1
  ·exact ⟨p ++ [f.num], [], _, by simp, by simp [he], .snoc h1 h2 h3, fun r hr => by simpa using hr⟩
  ·obtain ⟨q1, q2, n, e1, e2, e3, e4⟩ := ih k (by omega)
   exact ⟨q1, q2 ++ [f.num], n, by rw [e1, YQ], e2, e3, fun r hr => by rw [← YQ]; exact .snoc (e4 r hr) h2 h3⟩
structure Best (s : Scm) (a t : ByteArray) (p : List Int) : Prop where
 w : Wk s a p t
 l : ∀ q, Wk s a q t → p.length ≤ q.length ∧ (p.length = q.length → lxB q p = false)
theorem Best.uniq {s : Scm} {a t : ByteArray} {p q : List Int} (h : Best s a t p) (k : Best s a t q) : p = q := by
 obtain ⟨h1, h2⟩ := h.l q k.w
 obtain ⟨k1, k2⟩ := k.l p h.w
 exact ZnS (k2 (by omega)) (h2 (by omega))
structure BOk (s : Scm) (a : ByteArray) (k : Nat) (r : List (ByteArray × List Int)) : Prop where
 sm : ∀ t p, Zbx t r = some p → Best s a t p ∧ p.length ≤ k
 n : ∀ t, Zbx t r = none → ∀ q, Wk s a q t → k < q.length
 nd : (Zbo r).Nodup
theorem BOk.lk {s : Scm} {a : ByteArray} {k : Nat} {r : List (ByteArray × List Int)} (h : BOk s a k r) (n : ByteArray) : (lkM n r).length ≤ k := by
 unfold lkM
 cases hg : Zbx n r with
 | none => simp [Mv.z]
 | some p => exact (h.sm n p hg).2
theorem BOk.len {s : Scm} (hs : Fw s) {a : ByteArray} (ha : isM s a = true) {k : Nat} {r : List (ByteArray × List Int)} (h : BOk s a k r) : r.length ≤ s.messages.length := by
 have := ZcU h.nd (r := nmM s) fun x hx => Zcg.1 (by
  obtain ⟨p, hp⟩ := YF.1 ((Zcz x r).1 hx)
  exact (h.sm x p hp).1.w.isM ha)
 simp only [Zbo, nmM, Yk] at this
 exact this
theorem BOk.next {s : Scm} {a : ByteArray} {k : Nat} {r : List (ByteArray × List Int)} (h : BOk s a k r) {row : List ByteArray} (hrow : ∀ t, t ∈ row ↔ ∃ p, Zbx t r = some p ∧ p.length = k) {y : List ByteArray × List (ByteArray × List Int)} (hy : MgOk r (fdF s r row) y) :
  BOk s a (k + 1) y.2 ∧ ∀ t, t ∈ y.1 ↔ ∃ p, Zbx t y.2 = some p ∧ p.length = k + 1 := by
 have ok := Zt2 s r row
 have hcd : ∀ t q, (∃ n ∈ row, CdP s r n (Zdd s n) t q) → Zbx t r = none ∧ Wk s a q t ∧ q.length = k + 1 := fun t q ⟨n, hn, f, hf, h1, h2, h3, h4⟩ => by
  obtain ⟨p, hp, hpl⟩ := (hrow n).1 hn
  have e : lkM n r = p := by unfold lkM; rw [hp]; rfl
  subst h3
  rw [e] at h4
  subst h4
  refine ⟨?_, .snoc (h.sm n p hp).1.w hf h2, by simp [hpl]⟩
  unfold inM at h1
  cases hg : Zbx f.type.name r with
  | none => rfl
  | some x => rw [hg] at h1; cases h1
 have hway : ∀ t q, Zbx t r = none → Wk s a q t → q.length = k + 1 → ∃ c, (∃ n ∈ row, CdP s r n (Zdd s n) t c) ∧ lxB q c = false := fun t q hn hq hl => by
  rcases hq.inv with ⟨rfl, _⟩ | ⟨q0, b, f, rfl, h1, h2, h3, rfl⟩
  ·simp at hl
  ·rw [List.length_append, Yas] at hl
   cases hb : Zbx b r with
   | none => have := h.n b hb q0 h1; omega
   | some p0 =>
    obtain ⟨hb1, hb2⟩ := h.sm b p0 hb
    obtain ⟨hb3, hb4⟩ := hb1.l q0 h1
    have hpl : p0.length = k := by
     have := h.n _ hn (p0 ++ [f.num]) (.snoc hb1.w h2 h3)
     rw [List.length_append, Yas] at this
     omega
    refine ⟨p0 ++ [f.num], ⟨b, (hrow b).2 ⟨p0, hb, hpl⟩, f, h2, ?_, h3, rfl, ?_⟩, ?_⟩
    ·unfold inM; rw [hn]; rfl
    ·unfold lkM; rw [hb]; rfl
    ·rw [Zk8 (by omega), hb4 (by omega)]
     simp
 refine ⟨⟨fun t p e => ?_, fun t e q hq => ?_, hy.nd⟩, fun t => ?_⟩
 ·rw [hy.g] at e
  cases hf : Zbx t (fdF s r row) with
  | some p' =>
   rw [hf] at e
   have e : p' = p := by simpa using e
   subst e
   obtain ⟨c1, c2⟩ := ok.s t p' hf
   obtain ⟨d1, d2, d3⟩ := hcd t p' c1
   refine ⟨⟨d2, fun q hq => ?_⟩, by omega⟩
   have hlt := h.n t d1 q hq
   refine ⟨by omega, fun hl => ?_⟩
   obtain ⟨c, hc, hle⟩ := hway t q d1 hq (by omega)
   exact ZxJ (c2 c hc) hle
  | none =>
   rw [hf] at e
   have e : Zbx t r = some p := by simpa using e
   exact ⟨(h.sm t p e).1, by have := (h.sm t p e).2; omega⟩
 ·rw [hy.g] at e
  cases hf : Zbx t (fdF s r row) with
  | some p' => rw [hf] at e; cases e
  | none =>
   rw [hf] at e
   have e : Zbx t r = none := by simpa using e
   have hlt := h.n t e q hq
   by_cases hl : q.length = k + 1
   ·obtain ⟨c, hc, _⟩ := hway t q e hq hl
    exact absurd hc (ok.n t hf c)
   ·omega
 ·rw [hy.o.mem_iff, Zcz, hy.g]
  constructor
  ·intro hs
   obtain ⟨p, hp⟩ := YF.1 hs
   exact ⟨p, by rw [hp]; rfl, (hcd t p (ok.s t p hp).1).2.2⟩
  ·rintro ⟨p, hp, hl⟩
   cases hf : Zbx t (fdF s r row) with
   | some p' => rfl
   | none =>
    rw [hf] at hp
    have hp : Zbx t r = some p := by simpa using hp
    have := (h.sm t p hp).2
    omega
theorem BOk.stop {s : Scm} {a : ByteArray} {k : Nat} {r : List (ByteArray × List Int)} (h : BOk s a k r) (hrow : ∀ t p, Zbx t r = some p → p.length ≠ k) {t : ByteArray} (ht : Zbx t r = none) : ∀ (m : Nat) (q : List Int), q.length ≤ m → ¬ Wk s a q t
 | 0, q, hm, hq => by have := h.n t ht q hq; omega
 | m + 1, q, hm, hq => by
  have hk := h.n t ht q hq
  obtain ⟨q1, q2, n, rfl, e2, e3, e4⟩ := hq.cut k (by omega)
  cases hn : Zbx n r with
  | none => have := h.n n hn q1 e3; omega
  | some p =>
   obtain ⟨p1, p2⟩ := h.sm n p hn
   have := hrow n p hn
   refine h.stop hrow ht m (p ++ q2) ?_ (e4 p p1.w)
   rw [List.length_append] at hm ⊢
   omega
def ZhP (s : Scm) (a b : ByteArray) (y : List Int × Int) : Prop := (∃ p, y = (p, 0) ∧ isM s a = true ∧ isM s b = true ∧ Best s a b p ∧ p.length < s.messages.length) ∨ (y = ([], 10) ∧ ¬ (isM s a = true ∧ isM s b = true ∧ ∃ p, Wk s a p b))
theorem ZhP.uniq {s : Scm} {a b : ByteArray} {y z : List Int × Int} (h : ZhP s a b y) (k : ZhP s a b z) : y = z := by
 rcases h with ⟨p, rfl, h1, h2, h3, _⟩ | ⟨rfl, h1⟩
 ·rcases k with ⟨q, rfl, _, _, k3, _⟩ | ⟨rfl, k1⟩
  ·rw [h3.uniq k3]
  ·exact absurd ⟨h1, h2, p, h3.w⟩ k1
 ·rcases k with ⟨q, rfl, k1, k2, k3, _⟩ | ⟨rfl, k1⟩
  ·exact absurd ⟨k1, k2, q, k3.w⟩ h1
  ·rfl
theorem Zsq {β : Type} [DecidableEq β] {M : Option (List β)} {Q : β → Prop} (h : ZeS M Q) (k : ∀ a b, Q a → Q b → a = b) : ∃ y, ZtY M = some y ∧ Q y := by
 obtain ⟨ys, a, b, c⟩ := h
 cases ys with
 | nil => exact absurd rfl b
 | cons y r => exact ⟨y, Zmu a b fun z hz => k z y (c z hz) (c y (Yt ..)), c y (Yt ..)⟩
theorem Zqk {s : Scm} (hs : Fw s) (best : List (ByteArray × List Int)) (row : List ByteArray) : (fdF s best row).length ≤ 8 := by
 have ok := Zt2 s best row
 have := ZcU ok.nd (r := nmM s) fun x hx => Zcg.1 (by
  obtain ⟨p, hp⟩ := YF.1 ((Zcz x _).1 hx)
  obtain ⟨n, _, f, _, _, b, c, _⟩ := (ok.s x p hp).1
  rw [c]
  unfold toF at b
  exact (Yay.1 b).1)
 have h8 := hs.m
 simp only [Zbo, nmM, Yk] at this
 omega
theorem n16 {s : Scm} (h : Fw s) (a b : ByteArray) : ∃ y, Zd9 s a b = some y ∧ ZhP s a b y := by
 refine Zsq ?_ fun y z => ZhP.uniq
 have h8 := h.m
 obtain ⟨w, hw⟩ : ∃ w, w = Zwe s := ⟨_, rfl⟩
 have ok : WOk s w := hw ▸ ZhI s
 dsimp only [ZcT, Ztp, ZsW, Zt0, br, vw, lc, cl, mlk, mpu, lrN]
 simp only [m32 h, Option.bind_some, ← hw, ok.im]
 cases ha : isM s a with
 | false => exact ZaI (.inr ⟨rfl, fun q => by rw [ha] at q; cases q.1⟩)
 | true =>
  cases hb : isM s b with
  | false => exact ZaI (.inr ⟨rfl, fun q => by rw [hb] at q; cases q.2.1⟩)
  | true =>
   have q1 : ZeS (Zdg (Zkd b w) big ([a], ZbM a [] [])) fun o => Sum.elim (fun _ => ZhP s a b ([], 10)) (ZhP s a b) o := by
    refine Zcq (B := Zkd b w) (fun m v => ∃ k, BOk s a k v.2 ∧ (∀ t, t ∈ v.1 ↔ ∃ p, Zbx t v.2 = some p ∧ p.length = k) ∧ v.1.length ≤ 8 ∧ (v.1 ≠ [] → k < v.2.length) ∧ (v.1 = [] → Zbx b v.2 = none) ∧ m = (10 - v.2.length) * 2 + min v.1.length 1) _ (fun m v hI => ?_) big 19 ([a], ZbM a [] []) (ZaZ (by decide)) ⟨0, ?_, ?_, by simp, fun _ => by simp [ZbM], fun q => (by simp at q), by simp [ZbM]⟩
    ·obtain ⟨row, r⟩ := v
     obtain ⟨k, i1, i2, i3, i4, i5, i6⟩ := hI
     simp only at i1 i2 i3 i4 i5 i6
     have hrl := i1.len h ha
     by_cases hr : row = []
     ·subst hr
      have hnb := i5 rfl
      dsimp only [Zkd, ZpZ, Zo3, Zpa, Zpn, br, vz, vw, lc, mlk, ZxA, lnN, ZkD, eqL]
      refine ZaI (.inr ⟨rfl, fun ⟨_, _, p, hp⟩ => ?_⟩)
      exact i1.stop (fun t p e hl => by have := (i2 t).2 ⟨p, e, hl⟩; cases this) hnb p.length p (Yg _) hp
     ·have hpos : 0 < row.length := YaK.2 hr
      have g0 : (0 : Int) < (row.length : Int) := by omega
      have i4 := i4 hr
      dsimp only [Zkd, ZpZ, Zo3, Zpa, Zpn, br, vz, vw, lc, mlk, ZxA, lnN, ZkD, eqL]
      simp only [g0, decide_true, if_true]
      cases hgb : Zbx b r with
      | some p =>
       have e1 : inM b r = true := by unfold inM; rw [hgb]; rfl
       have e2 : lkM b r = p := by unfold lkM; rw [hgb]; rfl
       obtain ⟨p1, p2⟩ := i1.sm b p hgb
       simp only [e1, e2, if_true]
       exact ZaI (.inl ⟨p, rfl, ha, hb, p1, by omega⟩)
      | none =>
       have e1 : inM b r = false := by unfold inM; rw [hgb]; rfl
       simp only [e1, YaB, if_false]
       refine ZbX (m42 ok h row r (by omega) (fun n => Y0 (i1.lk n) (by omega)) i1.nd (by have := Zqk h r row; omega)) fun y hy => ?_
       obtain ⟨j1, j2⟩ := i1.next i2 hy
       have hyl := j1.len h ha
       have hl := hy.l
       have hol : y.1.length = (fdF s r row).length := by
        have := hy.o.length_eq
        simpa [Zbo] using this
       refine ZaI ⟨(10 - y.2.length) * 2 + min y.1.length 1, ?_, k + 1, j1, j2, (by have := Zqk h r row; show y.1.length ≤ 8; omega), fun q => ?_, fun q => ?_, rfl⟩
       ·omega
       ·have := YaK.2 (show y.1 ≠ [] from q)
        show k + 1 < y.2.length
        omega
       ·rw [hy.g, hgb]
        have : (fdF s r row) = [] := YD (by rw [← hol, q]; rfl)
        rw [this]; rfl
    ·refine ⟨fun t p e => ?_, fun t e q hq => ?_, by simp [ZbM, Zbo]⟩
     ·simp only [ZbA] at e
      split at e
      ·rename_i e2; subst e2; cases e
       exact ⟨⟨.nil, fun q hq => ⟨Yaj _, fun hl => by
        have : q = [] := YD hl.symm
        subst this; rfl⟩⟩, Yg _⟩
      ·cases e
     ·simp only [ZbA] at e
      split at e
      ·cases e
      ·rename_i e2
       rcases hq.inv with ⟨rfl, rfl⟩ | ⟨q0, _, f, rfl, _⟩
       ·exact absurd rfl e2
       ·simp
    ·intro t
     simp only [YT, ZbA]
     constructor
     ·rintro rfl; exact ⟨[], by simp, rfl⟩
     ·rintro ⟨p, e, _⟩
      split at e
      ·rename_i e2; exact e2.symm
      ·cases e
   simp only [Ybp, YaZ, YaB, if_false]
   refine ZbX q1 fun o ho => ?_
   cases o with
   | inl u => exact ZaI ho
   | inr z => exact ZaI ho
end Go.Proofs.Ythhipejbnbochaa
namespace Go.Proofs.Ythhipejbnbochaa
set_option linter.all false
open Go Go.Eng
theorem Zi5 {s : Scm} {n x : ByteArray} (h : x ∈ Za7 s n) : ∃ f ∈ Zdd s n, toF s f = true ∧ f.type.name = x := by
 unfold Za7 at h
 obtain ⟨f, hf, rfl⟩ := Yq.1 h
 obtain ⟨a, b⟩ := YH.1 hf
 exact ⟨f, a, b, rfl⟩
theorem Zux {s : Scm} {a b : ByteArray} (h : Rch s a b) : ∃ p, Wk s a p b := by
 induction h with
 | one h =>
  obtain ⟨f, h1, h2, rfl⟩ := Zi5 h
  exact ⟨_, .snoc .nil h1 h2⟩
 | tl _ h ih =>
  obtain ⟨p, ih⟩ := ih
  obtain ⟨f, h1, h2, rfl⟩ := Zi5 h
  exact ⟨_, .snoc ih h1 h2⟩
structure PrtOk (s : Scm) (A : List (List ByteArray)) : Prop where
 l : A.length ≤ 8
 gl : ∀ g ∈ A, g.length ≤ 8
 u : ∀ (i j : Nat) (g g' : List ByteArray) (x : ByteArray), A[i]? = some g → A[j]? = some g' → x ∈ g → x ∈ g' → i = j
 c : ∀ x, isM s x = true → ∃ (i : Nat) (g : List ByteArray), A[i]? = some g ∧ x ∈ g
 m : ∀ g ∈ A, ∀ x ∈ g, isM s x = true
 e : ∀ g ∈ A, ∀ x ∈ g, ∀ y ∈ g, eqB s x y = true
 o : ∀ (i : Nat) (g : List ByteArray), A[i]? = some g → ∀ x ∈ g, ∀ y ∈ Za7 s x, ∃ (j : Nat) (g' : List ByteArray), j ≤ i ∧ A[j]? = some g' ∧ y ∈ g'
theorem Zwm {s : Scm} (h : Fw s) {l : List (List ByteArray)} (k : Gps s (nmW (Zwe s)) l) : PrtOk s (Zo2 s l) := by
 have hw := ZhI s
 have hl8 : l.length ≤ 8 := Y0 k.len (Zfc hw h)
 have a := Zno hw h k l.length (Yg _)
 have hlen := a.len
 have e2 : (sts s l l.length).2 = [] := YD (by omega)
 have hp : (Zo2 s l).Perm l := by
  have := a.p
  rw [e2, YaL] at this
  exact this
 have hnd : (Zo2 s l).Pairwise fun g z => hdB g ≠ hdB z := by
  have : l.Pairwise fun g z => hdB g ≠ hdB z := List.Pairwise.imp (fun {a b} q e => by rw [e, ZdS] at q; cases q) (YaU.1 k.a)
  exact this.perm hp.symm fun {a b} q e => q e.symm
 have eq : ∀ g ∈ l, ∀ x ∈ g, ∀ y ∈ g, eqB s x y = true := fun g hg x hx y hy => Zct h (Zc3 h ((k.mem hg x).1 hx).2) ((k.mem hg y).1 hy).2
 refine ⟨?_, fun g hg => ?_, fun i j g g' x hi hj hx hx' => ?_, fun x hx => ?_, fun g hg x hx => ?_, fun g hg => eq g (hp.mem_iff.1 hg), a.o⟩
 ·rw [hp.length_eq]; exact hl8
 ·have := k.f g (hp.mem_iff.1 hg)
  rw [this]
  exact Y0 (Yab ..) (Zfc hw h)
 ·have hg := hp.mem_iff.1 (Yj hi)
  have hg' := hp.mem_iff.1 (Yj hj)
  have e := k.uniq h hg hg' (Zct h ((k.mem hg x).1 hx).2 (Zc3 h ((k.mem hg' x).1 hx').2))
  subst e
  obtain ⟨h1, e1⟩ := Yb.1 hi
  obtain ⟨h2, e2⟩ := Yb.1 hj
  rcases Yaw i j with q | q | q
  ·exact absurd (by rw [e1, e2]) (Y8.1 hnd i j h1 h2 q)
  ·exact q
  ·exact absurd (by rw [e1, e2]) (Y8.1 hnd j i h2 h1 q)
 ·obtain ⟨g, hg, q⟩ := k.c x ((Zio hw x).2 hx)
  obtain ⟨i, hi⟩ := YB.1 (hp.mem_iff.2 hg)
  exact ⟨i, g, hi, q⟩
 ·exact (Zio hw x).1 ((k.mem (hp.mem_iff.1 hg) x).1 hx).1
theorem m21 {s : Scm} {A : List (List ByteArray)} (p : PrtOk s A) {n : ByteArray} {i : Nat} {g : List ByteArray} (hi : A[i]? = some g) (hn : n ∈ g) : ZaH A n = some (i : Int) := by
 have hl := p.l
 have hil := (Yb.1 hi).1
 have q1 := Zbk (B := ZjW A n) (I := fun k v => k + v.2 = A.length ∧ v.1 = if i < v.2 then (i : Int) else -1) (Q := fun o => o = .inl (i : Int)) (fun k v hI => by
  obtain ⟨v1, j⟩ := v
  obtain ⟨h1, h2⟩ := hI
  simp only at h1 h2
  cases hk : A[j]? with
  | none =>
   have hge := YL.1 hk
   refine ⟨.ex v1, by simp [ZjW, Zmy, br, ix, vz, vs, v2, lrt, ln, lxe, cl, wa, eqL, show ¬ j < A.length by omega], ?_⟩
   rw [h2, if_pos (by omega)]
  | some z =>
   obtain ⟨g0, hz⟩ := Yb.1 hk
   have g2 : j + 1 < 9223372036854775808 := by omega
   have e := m27 (l := z) (by have := p.gl z (Yj hk); omega) n
   by_cases hij : i = j
   ·subst hij
    rw [hi] at hk
    cases hk
    have hb : ZhM g n = true := Zby.2 hn
    rw [hb] at e
    rw [if_neg (by omega)] at h2
    subst h2
    refine ⟨.nx ((i : Int), i + 1), ?_, k - 1, by omega, by simp only; omega, by simp only; rw [if_pos (by omega)]⟩
    simp [ZjW, Zmy, br, ix, vz, vs, v2, lrt, ln, lxe, cl, wa, eqL, g0, g2, hz, e]
   ·have hb : ZhM z n = false := by
     cases q : ZhM z n with
     | false => rfl
     | true => exact absurd (p.u i j g z n hi hk hn (Zby.1 q)) hij
    rw [hb] at e
    refine ⟨.nx (v1, j + 1), ?_, k - 1, by omega, by simp only; omega, ?_⟩
    ·simp [ZjW, Zmy, br, ix, vz, vs, v2, lrt, ln, lxe, cl, wa, eqL, g0, g2, hz, e]
    ·simp only
     rw [h2]
     by_cases q : i < j
     ·rw [if_pos q, if_pos (by omega)]
     ·rw [if_neg q, if_neg (by omega)]) big A.length ((-1), 0) (ZaZ (by omega)) ⟨by simp, by simp⟩
 obtain ⟨o, e, hq⟩ := q1
 subst hq
 dsimp only [ZaH, ZsR, ZrB, Zsg, lr, lc]
 rw [e]
 rfl
theorem Zdu (s : Scm) (hm : s.messages.length ≤ 1048576) : Zas s = some true := by
 obtain ⟨b, e, hb⟩ := m11 s hm
 dsimp only [Zas, Zrb, ZrQ, ZsE, Ztm, br, vw, lr, lc, cl]
 simp only [e, Option.bind_some]
 cases b with
 | false => simp
 | true =>
  have h := hb rfl
  have h8 := h.m
  obtain ⟨l, eG, k⟩ := m12 h
  have p := Zwm h k
  generalize Zo2 s l = A at *
  have hA := p.l
  have q1 := Zbk (B := Zud s A) (I := fun k i => k + i = s.messages.length) (Q := fun o => o = .inl ()) (fun k i hI => by
   cases hk : s.messages[i]? with
   | none =>
    have := YL.1 hk
    exact ⟨.ex (), by dsimp only [Zud, ZvF, Zvm, ZvS, Zuy, Zu3, Zwa, ZuU, br, ix, vz, vw, vs, lrt, ln, lxe, lc, lxc, cl, wa, du, eqL]; simp [show ¬ i < s.messages.length by omega], rfl⟩
   | some m =>
    obtain ⟨g0, hgi⟩ := Yb.1 hk
    have g2 : i + 1 < 9223372036854775808 := by omega
    refine ⟨.nx (i + 1), ?_, k - 1, by omega, by omega⟩
    by_cases hat : (ZfJ s m.name).2 = (i : Int)
    ·have hx : ixM s m.name = some i := by
      unfold ZfJ at hat
      cases hx : ixM s m.name with
      | none => rw [hx] at hat; have : (-1 : Int) = i := hat; omega
      | some p => rw [hx] at hat; have : (p : Int) = i := hat; rw [Int.ofNat_inj.1 this]
     have hM : isM s m.name = true := by rw [← Zf7, hx]; rfl
     have hf : (ZfJ s m.name).1 = m := by unfold ZfJ; rw [hx]; show s.messages.getD i zM = m; rw [Yu, hk]; rfl
     have hfl : Zdd s m.name = m.fields := by rw [← ZqJ, hf]
     have hl10 := h.f m (Yj hk)
     have hnm : (ZfJ s m.name).1.name = m.name := by rw [hf]
     obtain ⟨a, g, ha, hg⟩ := p.c m.name hM
     have hal := (Yb.1 ha).1
     have ha7 := (Yb.1 ha).2
     have eP := m21 p ha hg
     have q2 := Zbk (B := Zvf s A i (ZfJ s m.name) (a : Int)) (I := fun k j => k + j = m.fields.length) (Q := fun o => o = .inl ()) (fun k j hI => by
      cases hj : m.fields[j]? with
      | none =>
       have := YL.1 hj
       exact ⟨.ex (), by dsimp only [Zvf, ZwW, br, ix, ixg, vz, vw, vs, lrt, ln, lxe, cl, clg, wa, eqL]; simp [hf, show ¬ j < m.fields.length by omega], rfl⟩
      | some f =>
       obtain ⟨j0, hje⟩ := Yb.1 hj
       have j2 : j + 1 < 9223372036854775808 := by omega
       refine ⟨.nx (j + 1), ?_, k - 1, by omega, by omega⟩
       have tl := ZvW h f
       dsimp only [Zvf, ZwW, br, ix, ixg, vz, vw, vs, lrt, ln, lxe, cl, clg, wa, eqL]
       cases hld : ldF s f with
       | false => simp [hf, j0, j2, hj, hje, m19 h, hld]
       | true =>
        by_cases hkd : f.type.kind = 10
        ·have ht : toF s f = true := by rw [← tl, hld, hkd]; rfl
         have hnx : f.type.name ∈ Za7 s m.name := Yq.2 ⟨f, YH.2 ⟨by rw [hfl]; exact Yj hj, ht⟩, rfl⟩
         obtain ⟨b, g', hba, hb1, hb2⟩ := p.o a g ha m.name hg f.type.name hnx
         have eQ := m21 p hb1 hb2
         have x1 : ¬ (b : Int) < 0 := by omega
         have x2 : ¬ (a : Int) < b := by omega
         simp [hf, j0, j2, hj, hje, m19 h, hld, hkd, eQ, x1, x2]
         try omega
        ·simp [hf, j0, j2, hj, hje, m19 h, hld, hkd]) big m.fields.length 0 (ZaZ (by omega)) (by simp)
     have hgl := p.gl g (Yj ha)
     have q3 := Zbk (B := ZuS s A i (ZfJ s m.name) (a : Int)) (I := fun k j => k + j = g.length) (Q := fun o => o = .inl ()) (fun k j hI => by
      have ed : A.getD a Rw.z = g := by rw [Yu, ha]; rfl
      cases hj : g[j]? with
      | none =>
       have := YL.1 hj
       exact ⟨.ex (), by dsimp only [ZuS, Zw9, br, ix, ixi, vz, vw, vs, lrt, ln, lxe, cl, wa, eqL]; simp [hal, ha7, ha, ed, show ¬ j < g.length by omega], rfl⟩
      | some x =>
       obtain ⟨j0, hje⟩ := Yb.1 hj
       have j2 : j + 1 < 9223372036854775808 := by omega
       refine ⟨.nx (j + 1), ?_, k - 1, by omega, by omega⟩
       have hx := Yj hj
       obtain ⟨y, ey, hy⟩ := n16 h m.name x
       have y2 : y.2 = 0 := by
        rcases hy with ⟨q, rfl, _⟩ | ⟨_, hc⟩
        ·rfl
        ·exfalso
         refine hc ⟨hM, p.m g (Yj ha) x hx, ?_⟩
         rcases (ZdY h).1 (p.e g (Yj ha) m.name hg x hx) with q | q
         ·rw [← q]; exact ⟨[], .nil⟩
         ·exact Zux q.1
       dsimp only [ZuS, Zw9, br, ix, ixi, vz, vw, vs, lrt, ln, lxe, cl, wa, eqL]
       simp [hal, ha7, ha, ed, j0, j2, hj, hje, hnm, ey, y2]) big g.length 0 (ZaZ (by omega)) (by simp)
     obtain ⟨o2, e2, rfl⟩ := q2
     obtain ⟨o3, e3, rfl⟩ := q3
     dsimp only [Zud, ZvF, Zvm, ZvS, Zuy, Zu3, Zwa, ZuU, br, ix, vz, vw, vs, lrt, ln, lxe, lc, lxc, cl, wa, du, eqL]
     have x0 : ¬ (a : Int) < 0 := by omega
     simp [g0, hk, hgi, m18 h, hat, hnm, eP, x0, e2, e3, g2]
    ·obtain ⟨y, hy⟩ : ∃ y : Int, ZaH A (ZfJ s m.name).1.name = some y := by
      by_cases q : isM s (ZfJ s m.name).1.name = true
      ·obtain ⟨a, g, ha, hg⟩ := p.c _ q
       exact ⟨_, m21 p ha hg⟩
      ·exfalso
       have hM : isM s m.name = true := Zcg.2 (Yq.2 ⟨m, Yj hk, rfl⟩)
       have hx : (ixM s m.name).isSome = true := by rw [Zf7]; exact hM
       obtain ⟨p', hp'⟩ := YF.1 hx
       have := Zib s m.name
       rw [hp'] at this
       have hl' := ZmL hp'
       have e5 : ZpK s m.name = some s.messages[p'] := by rw [this]; exact Yc hl'
       have e6 := ZnC e5
       have e7 : (ZfJ s m.name).1 = s.messages[p'] := by
        unfold ZfJ; rw [hp']
        show s.messages.getD p' zM = _
        rw [Yu, Yc hl']; rfl
       rw [e7, e6] at q
       exact q hM
     dsimp only [Zud, ZvF, Zvm, ZvS, Zuy, Zu3, Zwa, ZuU, br, ix, vz, vw, vs, lrt, ln, lxe, lc, lxc, cl, wa, du, eqL]
     simp [g0, hk, hgi, m18 h, hat, hy, g2]) big s.messages.length 0 (ZaZ (by omega)) (by simp)
  obtain ⟨o, eo, rfl⟩ := q1
  simp [eG, eo, awk]
theorem Zea {s : Scm} (h : bkL (Zb0 s) ≤ 1048576) : Zas s = some true := Zdu s (Zsh h)
end Go.Proofs.Ythhipejbnbochaa
namespace Go.Proofs.Ythhipejbnbochaa
set_option linter.all false
open Go Go.Eng Go.ChangeShapes Go.WideShapes Go.ChangeAt Go.RowKit
theorem own : ownKnob Try.prog.godebug = none := by kernel_rfl
namespace GraphPartition
open Go.Proofs.Ythhipejbnbochaa
set_option maxRecDepth 100000 in
theorem contract (H : Type) (enc : TypeId × Value → H) (W : World) (base : Nat) (args : Array Value) (ds gs : List (DataW H)) (before : List MemPlace)
  (hval : ∀ (j : Nat) t v, Try.f6.params[j]? = some t → args[j]? = some v → Value.okWide Try.prog W .any base t v)
  (hW : DataW.Whole enc Try.prog Try.f6.params.toList Rows.graphPartitionSpec.vars false W args.toList ds gs before) (hk : Rows.uptoSmall H (ds ++ gs) = true) :
  Calls Try.prog 6 args W fun e W' => ∃ v, e = .returned v ∧ Rows.graphPartitionSpec.post enc Try.prog Try.f6 false true false false W args v W' := by
 obtain ⟨p, q, hA0, hV, rfl, hfz, hnd⟩ := id hW
 have hA : DataW.TrodAll enc Try.prog W 0 (fun _ => true) true Try.f6.params.toList args.toList ds p := hA0
 rw [Try.params6] at hA hval
 obtain ⟨v0, vs0, d0, ds0, p0, q0, hargs, rfl, rfl, h0, r0⟩ := trodAll_cons hA
 obtain ⟨rfl, rfl, rfl⟩ := trodAll_nil r0
 obtain rfl : args = #[v0] := by cases args; simp_all
 have hb : Rows.uptoBulkAll ([d0] ++ gs) ≤ 1048576 := of_decide_eq_true hk
 simp only [Ya1, Yal, Rows.uptoBulkAll] at hb
 obtain ⟨s, re0, fe0⟩ := Zsj Zwr Try.underlying26 (hval 0 26 v0 rfl rfl) h0
 obtain ⟨rfl, rfl⟩ := trodVars_none hV
 have A := (K_6 s).k 0 Hp0 true (Zea (by omega))
 refine (A.2 (fun _ => ⟨0, 0, 0⟩) (· < W.heap.size) W #[v0] (ok0 _) (Zth (xs := [.agg ((Zb0 s).map .d)]) (vs := [v0]) ⟨re0 _ _, trivial⟩)).mono fun e W' ⟨r, v, H', m', S', he, hp, hO, hr, hx⟩ => ?_
 obtain ⟨hp, _⟩ := hp
 subst he
 subst hp
 cases hr
 rename_i hd
 cases hd
 exact ⟨_, rfl, Zn6 hW rfl (by kernel_rfl) (by rw [Try.params6]; exact (by decide +kernel)) (by kernel_rfl) Try.underlying4 rfl ⟨hx.os, hx.tape, hx.output, hx.size, hx.blk⟩⟩
set_option maxRecDepth 100000 in
theorem lifted (os : Os) (started : os.Started) (H : Type) (enc : TypeId × Value → H) (F : Stop.Interp) :
  ReturnsInHanded {} Try.checked os 6 .any ((Rows.OpenSpec.upto Rows.graphPartitionSpec).pre6 enc Try.prog Try.f6 Rows.graphPartitionUptoRow.domain false) (((Rows.OpenSpec.upto Rows.graphPartitionSpec).at F).post enc Try.prog Try.f6 false true false false) := by
 refine returnsInHanded_of_cond (C := Try.checked) (s := Rows.OpenSpec.upto Rows.graphPartitionSpec) (k := Rows.uptoSmall) rfl own started (by kernel_rfl) Try.func6
  (OpenSpec.witness (enc := enc) (C := Try.checked) (s := Rows.OpenSpec.upto Rows.graphPartitionSpec) (k := Rows.uptoSmall) rfl false ⟨#[], #[.agg #[.slice none 0 0, .slice none 0 0, .slice none 0 0]], []⟩ 8 (by kernel_rfl) (by kernel_rfl) (by kernel_rfl)
   (x := ([.agg [.nil, .nil, .nil]], [], [])) (by kernel_rfl) rfl (by kernel_rfl)) ?_
 intro W base args ds gs before hval hW _ hk _
 exact contract H enc W base args ds gs before hval hW hk
theorem holds : Rows.GraphPartitionUptoSaid :=
 OpenClaim.holds_of_cond 6 Try.f6 rfl rfl rfl rfl rfl rfl rfl ⟨rfl, rfl, rfl, rfl, rfl⟩ rfl rfl rfl rfl rfl (by kernel_rfl) Try.func6 (by kernel_rfl)
  (of_decide_eq_true (by kernel_rfl)) (by unfold Func.isWrapper; first | (rw [if_pos (by decide +kernel)]; kernel_rfl) | (rw [if_neg (by decide +kernel)]; exact ⟨rfl, rfl⟩))
  (fun os started H enc _ F => lifted os started H enc F)
end GraphPartition
end Go.Proofs.Ythhipejbnbochaa
