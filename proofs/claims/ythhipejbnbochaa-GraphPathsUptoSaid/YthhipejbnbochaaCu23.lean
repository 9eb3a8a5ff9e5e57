/-
  What is proved: the second form of wireschemalaw13.GraphPaths: the law returns true and leaves its arguments as they were.
  Condition: the arguments are together of bulk at most 1048576 (the given second form); nothing else.
-/
import Derived.Test.YthhipejbnbochaaCu22
import Derived.Test.YthhipejbnbochaaCu21
import Derived.Test.YthhipejbnbochaaRows
import Derived.WalkKit
import Derived.ProofKit
import Derived.OpenShut
import Derived.JoinedCond
import Derived.Test.YthhipejbnbochaaCu00
namespace Go.Proofs.Ythhipejbnbochaa
set_option linter.all false
open Go Go.Eng
theorem Wk.app {s : Scm} {a b c : ByteArray} {p q : List Int} (h : Wk s a p b) (k : Wk s b q c) : Wk s a (p ++ q) c := by
 induction k with
 | nil => simpa using h
 | snoc k1 k2 k3 ih => rw [← YR]; exact .snoc ih k2 k3
theorem Wk.split {s : Scm} {a c : ByteArray} {r : List Int} (h : Wk s a r c) : ∀ p q, r = p ++ q → ∃ b, Wk s a p b ∧ Wk s b q c := by
 induction h with
 | nil =>
  intro p q e
  obtain ⟨rfl, rfl⟩ := List.append_eq_nil_iff.1 e.symm
  exact ⟨a, .nil, .nil⟩
 | snoc h1 h2 h3 ih =>
  rename_i p0 b f
  intro p q e
  rcases List.eq_nil_or_concat q with rfl | ⟨q', x, rfl⟩
  ·refine ⟨_, ?_, .nil⟩
   rw [YaF] at e
   rw [← e]
   exact .snoc h1 h2 h3
  ·rw [YbB, ← YR] at e
   obtain ⟨e1, e2⟩ := ZnN e
   obtain ⟨b', c1, c2⟩ := ih p q' e1
   refine ⟨b', c1, ?_⟩
   rw [YbB, ← e2]
   exact .snoc c2 h2 h3
theorem Wk.one {s : Scm} {a c : ByteArray} {x : Int} (h : Wk s a [x] c) : ∃ f ∈ Zbm s a, toF s f = true ∧ f.num = x ∧ f.type.name = c := by
 rcases h.inv with ⟨e, _⟩ | ⟨q, b, f, e, h1, h2, h3, rfl⟩
 ·cases e
 ·have : q = [] ∧ x = f.num := by
   cases q with
   | nil => simpa using e
   | cons y q => simp at e
  obtain ⟨rfl, rfl⟩ := this
  rcases h1.inv with ⟨_, rfl⟩ | ⟨q, b, f, e, _⟩
  ·exact ⟨f, h2, h3, rfl, rfl⟩
  ·simp at e
theorem Zu5 (u v w : List Int) {x y : Int} (h : x < y) : lxB (u ++ x :: v) (u ++ y :: w) = true := by
 induction u with
 | nil => show lxB (x :: v) (y :: w) = true; rw [Zf3]; simp [h]
 | cons a u ih => show lxB (a :: (u ++ x :: v)) (a :: (u ++ y :: w)) = true; rw [Zf3, ih]; simp
def Wn (s : Scm) (a : ByteArray) (k : Nat) (t : ByteArray) : Prop := ∃ p, Wk s a p t ∧ p.length = k
theorem Zhz {s : Scm} {a t : ByteArray} {k : Nat} : Wn s a (k + 1) t ↔ ∃ b, Wn s a k b ∧ t ∈ ZbO s b := by
 constructor
 ·rintro ⟨p, h, hl⟩
  rcases h.inv with ⟨rfl, _⟩ | ⟨q, b, f, rfl, h1, h2, h3, rfl⟩
  ·simp at hl
  ·exact ⟨b, ⟨q, h1, by simpa using hl⟩, ZnD h2 h3⟩
 ·rintro ⟨b, ⟨p, h, hl⟩, ht⟩
  obtain ⟨f, h1, h2, rfl⟩ := Zov ht
  exact ⟨_, .snoc h h1 h2, by simp [hl]⟩
section
variable {s : Scm} (h : Fw s)
include h
theorem m45 (fr : List ByteArray) (num : Int) (hf : fr.length ≤ 1000) : ∃ l, ZaF s fr num = some l ∧ Asc l ∧ ∀ x, x ∈ l ↔ ∃ n ∈ fr, ∃ f ∈ Zbm s n, toF s f = true ∧ f.num = num ∧ f.type.name = x := by
 obtain ⟨c, hc⟩ : ∃ c : Fld → Option ByteArray, c = fun f => if (toF s f && decide (f.num = num)) = true then some f.type.name else none := ⟨_, rfl⟩
 have hcl : ∀ n, ((Zbm s n).filterMap c).length ≤ 10 := fun n => Yac (List.length_filterMap_le ..) (h.fl n)
 have q1 := ZeC (B := ZlL s fr num) (N := big) fr (fun i b => (b, i)) (fun i b => b.length ≤ i * 10) (fun b n => (.inl (((Zbm s n).filterMap c).foldl ZbE b) : List ByteArray ⊕ List ByteArray)) id (fun i b n hn hI => by
  obtain ⟨g0, hgi⟩ := Yg.1 hn
  have g2 : i + 1 < 9223372036854775808 := by omega
  have hf10 := h.fl n
  have ef := ZlD s n
  have h1 := ZfV ((Zbm s n).filterMap c) b
  have h2 := hcl n
  have q := Zes (B := ZkD s fr num i (Zh8 s n)) (Zbm s n) c b (by omega) (fun j d f hj hd g4 g3 => by
   obtain ⟨j0, hje⟩ := Yg.1 hj
   have tl := Ztk h f
   rw [hc]
   dsimp only [ZkD, ZoD, br, ix, ixg, vz, vw, vs, v2, ln, lxe, cl, wa, eqL]
   cases hld : ldF s f with
   | false =>
    have : toF s f = false := by rw [← tl, hld]; rfl
    simp [ef, j0, g4, hj, hje, m19 h, hld, this]
   | true =>
    by_cases hkd : f.type.kind = 10
    ·have ht : toF s f = true := by rw [← tl, hld, hkd]; rfl
     by_cases hnum : f.num = num
     ·simp [ef, j0, g4, hj, hje, m19 h, hld, hkd, ht, hnum, m53 hd]
     ·simp [ef, j0, g4, hj, hje, m19 h, hld, hkd, ht, hnum]
    ·have ht : toF s f = false := by rw [← tl, hld]; simp [hkd]
     simp [ef, j0, g4, hj, hje, m19 h, hld, hkd, ht]) (fun d => by dsimp only [ZkD, ZoD, br, ix, ixg, vz, vw, vs, v2, ln, lxe, cl, wa, eqL]; simp [ef])
  refine ⟨?_, fun b' e => by cases e; omega⟩
  dsimp only [ZlL, Zoe, ZnY, ZnO, ZnW, br, ix, vz, vw, vs, v2, ln, lxe, lc, cl, wa, du, eqL]
  simp [g0, g2, hn, hgi, m18 h, q]) (fun b _ => by dsimp only [ZlL, Zoe, ZnY, ZnO, ZnW, br, ix, vz, vw, vs, v2, ln, lxe, lc, cl, wa, du, eqL]; simp) [] (by simp) (Zbl (by omega))
 rw [ZdA (fun b n => ((Zbm s n).filterMap c).foldl ZbE b) (fun _ _ => rfl)] at q1
 obtain ⟨p, q⟩ := ZhL (fun n => (Zbm s n).filterMap c) fr []
 refine ⟨fr.foldl (fun b n => ((Zbm s n).filterMap c).foldl ZbE b) [], ?_, p .nil, fun x => ?_⟩
 ·dsimp only [ZaF, ZqB, Zs2, ZqN, Zr5, vz, vw, lr, lc, fz]
  rw [q1]
  rfl
 ·rw [q]
  simp only [Ybo, false_or, Ya7]
  constructor
  ·rintro ⟨n, hn, f, hf, e⟩
   rw [hc] at e
   simp only at e
   split at e
   ·rename_i hb
    rw [Yaf] at hb
    exact ⟨n, hn, f, hf, hb.1, of_decide_eq_true hb.2, Ybu e⟩
   ·cases e
  ·rintro ⟨n, hn, f, hf, h1, h2, h3⟩
   refine ⟨n, hn, f, hf, ?_⟩
   rw [hc]
   simp [h1, h2, h3]
def Zu2 (s : Scm) (fr : List ByteArray) (t : ByteArray) (d : Int) : Prop := (d = -1 ∧ ∀ k, k ≤ s.messages.length → ¬ ∃ a ∈ fr, Wn s a k t) ∨ ∃ k : Nat, d = k ∧ k ≤ s.messages.length ∧ (∃ a ∈ fr, Wn s a k t) ∧ ∀ j, j < k → ¬ ∃ a ∈ fr, Wn s a j t
theorem m43 (fr : List ByteArray) (t : ByteArray) (hf : fr.length ≤ 1000) : ∃ d, ZaC s fr t = some d ∧ Zu2 s fr t d := by
 have h8 := h.m
 have q1 := ZbP (B := ZjU s t) (I := fun c v => c + v.2 = s.messages.length + 1 ∧ v.1.length ≤ 1000 ∧ (∀ x, x ∈ v.1 ↔ ∃ a ∈ fr, Wn s a v.2 x) ∧ ∀ j, j < v.2 → ¬ ∃ a ∈ fr, Wn s a j t) (Q := fun o => Sum.elim (fun _ => Zu2 s fr t (-1)) (Zu2 s fr t) o) (fun c v hI => by
  obtain ⟨v, k⟩ := v
  obtain ⟨i1, i2, i3, i4⟩ := hI
  simp only at i1 i2 i3 i4
  by_cases hk : k ≤ s.messages.length
  ·have e27 := m27 (l := v) (by omega) t
   cases hb : Zkt v t with
   | true =>
    exact ⟨.rt (k : Int), by dsimp only [ZjU, Zg4, Zlj, Zme, ZlB, Zla, ZmJ, br, vz, vw, vs, v2, lrt, ln, lxe, lc, cl, wa, fz, eqL]; simp [hk, e27, hb], .inr ⟨k, rfl, hk, (i3 t).1 (ZbB.1 hb), i4⟩⟩
   | false =>
    have hnt : ¬ ∃ a ∈ fr, Wn s a k t := fun q => by rw [ZbB.2 ((i3 t).2 q)] at hb; cases hb
    have q2 := ZeC (B := Zmd s t v k) (N := big) v (fun i b => (b, i)) (fun i b => b.length ≤ i * 10) (fun b y => (.inl ((Zhr (ZbO s y)).foldl ZbE b) : List ByteArray ⊕ Int)) id (fun i b y hy hJ => by
     obtain ⟨g0, hgi⟩ := Yg.1 hy
     have g2 : i + 1 < 9223372036854775808 := by omega
     have h1 := ZfV (Zhr (ZbO s y)) b
     have h2 := Zo3 (ZbO s y)
     have h3 := h.nl y
     have q := Zes (B := Zne s t v k i (Zhr (ZbO s y))) (Zhr (ZbO s y)) some b (by omega) (fun j d x hx hd g4 g3 => by
      dsimp only [Zne, Zn5, br, ix, vz, vs, v2, ln, lxe, cl, wa, eqL]
      simp only [g3, g4, hx, m53 hd, decide_true, if_true, Option.bind_some, Option.elim_some]) (fun d => by dsimp only [Zne, Zn5, br, ix, vz, vs, v2, ln, lxe, cl, wa, eqL]; simp)
     rw [List.filterMap_some] at q
     refine ⟨?_, fun b' e => by cases e; omega⟩
     dsimp only [Zmd, Zo6, ZoH, ZnI, br, ix, vz, vw, vs, v2, ln, lxe, lc, cl, wa, eqL]
     simp [g0, g2, hy, hgi, m61 h, q]) (fun b _ => by dsimp only [Zmd, Zo6, ZoH, ZnI, br, ix, vz, vw, vs, v2, ln, lxe, lc, cl, wa, eqL]; simp) [] (by simp) (Zbl (by omega))
    rw [ZdA (fun b y => (Zhr (ZbO s y)).foldl ZbE b) (fun _ _ => rfl)] at q2
    obtain ⟨p1, p2⟩ := ZhL (fun y => Zhr (ZbO s y)) v []
    obtain ⟨v', hv'⟩ : ∃ v', v' = v.foldl (fun b y => (Zhr (ZbO s y)).foldl ZbE b) [] := ⟨_, rfl⟩
    rw [← hv'] at q2 p1
    have hm : ∀ x, x ∈ v' ↔ ∃ a ∈ fr, Wn s a (k + 1) x := fun x => by
     rw [hv', p2]
     simp only [Ybo, false_or, Zjl]
     constructor
     ·rintro ⟨y, hy, q⟩
      obtain ⟨a, ha, w⟩ := (i3 y).1 hy
      exact ⟨a, ha, Zhz.2 ⟨y, w, q⟩⟩
     ·rintro ⟨a, ha, w⟩
      obtain ⟨y, w1, w2⟩ := Zhz.1 w
      exact ⟨y, (i3 y).2 ⟨a, ha, w1⟩, w2⟩
    have hl : v'.length ≤ 8 := by
     have := ZeF (Zef (p1 .nil)) (r := nmM s) fun x hx => Zdi.1 (by
      obtain ⟨a, _, w⟩ := (hm x).1 hx
      obtain ⟨y, _, w2⟩ := Zhz.1 w
      exact ZfR w2)
     unfold nmM at this
     rw [Yp] at this
     omega
    have g2 : k + 1 < 9223372036854775808 := by omega
    refine ⟨.nx (v', k + 1), by dsimp only [ZjU, Zg4, Zlj, Zme, ZlB, Zla, ZmJ, br, vz, vw, vs, v2, lrt, ln, lxe, lc, cl, wa, fz, eqL]; simp [hk, e27, hb, q2, g2], c - 1, by omega, by simp only; omega, by simp only; omega, hm, fun j hj => ?_⟩
    simp only at hj
    by_cases hjk : j = k
    ·subst hjk; exact hnt
    ·exact i4 j (by omega)
  ·refine ⟨.ex (), by dsimp only [ZjU, Zg4, Zlj, Zme, ZlB, Zla, ZmJ, br, vz, vw, vs, v2, lrt, ln, lxe, lc, cl, wa, fz, eqL]; simp [show ¬ k ≤ s.messages.length by omega], .inl ⟨rfl, fun j hj => i4 j (by omega)⟩⟩) big (s.messages.length + 1) (fr, 0) (Zbl (by omega)) ⟨rfl, hf, fun x => ⟨fun hx => ⟨x, hx, [], .nil, rfl⟩, fun ⟨a, ha, p, hp, hl⟩ => by
   have : p = [] := YD hl
   subst this
   rcases hp.inv with ⟨_, rfl⟩ | ⟨q, b, f, e, _⟩
   ·exact ha
   ·simp at e⟩, fun j hj => by simp only at hj; omega⟩
 obtain ⟨o, e, hq⟩ := q1
 cases o with
 | inl u => exact ⟨-1, by dsimp only [ZaC, ZiA, Zi5, Zip, lr, lc]; simp [e], hq⟩
 | inr d => exact ⟨d, by dsimp only [ZaC, ZiA, Zi5, Zip, lr, lc]; simp [e], hq⟩
omit h in
theorem Zu2.at {s : Scm} {fr : List ByteArray} {t : ByteArray} {d : Int} (h : Zu2 s fr t d) {k : Nat} (hk : k ≤ s.messages.length) (h1 : ∃ a ∈ fr, Wn s a k t) (h2 : ∀ j, j < k → ¬ ∃ a ∈ fr, Wn s a j t) : d = k := by
 rcases h with ⟨_, q⟩ | ⟨j, rfl, _, q1, q2⟩
 ·exact absurd h1 (q k hk)
 ·rcases Yay j k with hlt | rfl | hgt
  ·exact absurd q1 (h2 j hlt)
  ·rfl
  ·exact absurd h1 (q2 k hgt)
def Cnd (s : Scm) (t : ByteArray) (lf : Nat) (b : ByteArray) (x : Int) : Prop := (∃ c, Wk s b [x] c ∧ Wn s c lf t) ∧ ∀ j, j < lf → ¬ ∃ c, Wk s b [x] c ∧ Wn s c j t
def LeO (P : Int → Prop) (v : Int × Bool) : Prop := (v.2 = false ∧ ∀ n, ¬ P n) ∨ (v.2 = true ∧ P v.1 ∧ ∀ n, P n → v.1 ≤ n)
omit h in
theorem LeO.congr {P Q : Int → Prop} {v : Int × Bool} (h : LeO P v) (k : ∀ n, P n ↔ Q n) : LeO Q v := by
 rcases h with ⟨a, b⟩ | ⟨a, b, c⟩
 ·exact .inl ⟨a, fun n q => b n ((k n).2 q)⟩
 ·exact .inr ⟨a, (k _).1 b, fun n q => c n ((k n).2 q)⟩
omit h in
theorem LeO.put {P : Int → Prop} {v : Int} {fd : Bool} (h : LeO P (v, fd)) (x : Int) : LeO (fun n => P n ∨ n = x) (if (!fd || decide (x < v)) = true then (x, true) else (v, fd)) := by
 rcases h with ⟨a, b⟩ | ⟨a, b, c⟩
 ·have a : fd = false := a
  subst a
  exact .inr ⟨rfl, .inr rfl, fun n q => by rcases q with q | rfl; exact absurd q (b n); exact Int.le_refl _⟩
 ·have a : fd = true := a
  subst a
  by_cases hx : x < v
  ·have : (!true || decide (x < v)) = true := by simp [hx]
   rw [if_pos this]
   exact .inr ⟨rfl, .inr rfl, fun n q => by
    rcases q with q | rfl
    ·have := c n q; simp only at this ⊢; omega
    ·exact Int.le_refl _⟩
  ·have : ¬ (!true || decide (x < v)) = true := by simp [hx]
   rw [if_neg this]
   exact .inr ⟨rfl, .inl b, fun n q => by
    rcases q with q | rfl
    ·exact c n q
    ·simp only; omega⟩
theorem q44 (t : ByteArray) (lf : Nat) (hlf : lf ≤ s.messages.length) (b : ByteArray) (x : Int) : ∃ l d, ZaF s [b] x = some l ∧ ZaC s l t = some d ∧ (d = (lf : Int) ↔ Cnd s t lf b x) := by
 obtain ⟨l, e1, l1, l2⟩ := m45 h [b] x (by simp)
 have hw : ∀ c, c ∈ l ↔ Wk s b [x] c := fun c => by
  rw [l2]
  constructor
  ·rintro ⟨n, hn, f, hf, h1, h2, h3⟩
   obtain rfl := YO.1 hn
   have := Wk.snoc (Wk.nil (s := s) (a := n)) hf h1
   rw [h2, h3] at this
   exact this
  ·intro q
   obtain ⟨f, h1, h2, h3, h4⟩ := q.one
   exact ⟨b, by simp, f, h1, h2, h3, h4⟩
 have hll : l.length ≤ 1000 := by
  have h8 := h.m
  have := ZeF (l := l) (r := nmM s) (Zef l1) fun c hc => Zdi.1 (by
   obtain ⟨f, _, h2, _, h4⟩ := ((hw c).1 hc).one
   rw [← h4]
   unfold toF at h2
   exact (Yaf.1 h2).1)
  unfold nmM at this
  rw [Yp] at this
  omega
 obtain ⟨d, e2, k⟩ := m43 h l t hll
 have hex : ∀ j, (∃ a ∈ l, Wn s a j t) ↔ ∃ c, Wk s b [x] c ∧ Wn s c j t := fun j => ⟨fun ⟨a, ha, q⟩ => ⟨a, (hw a).1 ha, q⟩, fun ⟨c, hc, q⟩ => ⟨c, (hw c).2 hc, q⟩⟩
 refine ⟨l, d, e1, e2, fun hd => ?_, fun hc => ?_⟩
 ·rcases k with ⟨q, _⟩ | ⟨j, q, _, q1, q2⟩
  ·omega
  ·have : j = lf := by omega
   subst this
   exact ⟨(hex j).1 q1, fun i hi q => q2 i hi ((hex i).2 q)⟩
 ·exact k.at hlf ((hex lf).2 hc.1) fun j hj q => hc.2 j hj ((hex j).1 q)
theorem m44 (fr : List ByteArray) (t : ByteArray) (lf : Nat) (hlf : lf ≤ s.messages.length) (hf : fr.length ≤ 1000) : ∃ v : Int × Bool, Zba s fr t ((lf : Int) + 1) = some v.1 ∧ LeO (fun n => ∃ b ∈ fr, ∃ f ∈ Zbm s b, f.num = n ∧ Cnd s t lf b n) v := by
 have h8 := h.m
 have e0 : (lf : Int) + 1 - 1 = lf := by omega
 have ew : (-9223372036854775808 : Int) ≤ lf ∧ (lf : Int) < 9223372036854775808 := by omega
 have q1 := ZbP (B := ZmL s fr t ((lf : Int) + 1)) (I := fun c v => c + v.2.2 = fr.length ∧ LeO (fun n => ∃ b ∈ fr.take v.2.2, ∃ f ∈ Zbm s b, f.num = n ∧ Cnd s t lf b n) (v.1, v.2.1)) (Q := fun o => Sum.elim (fun x => ∃ fd, LeO (fun n => ∃ b ∈ fr, ∃ f ∈ Zbm s b, f.num = n ∧ Cnd s t lf b n) (x, fd)) (fun _ => False) o) (fun c v hI => by
  obtain ⟨bs, fd, i⟩ := v
  obtain ⟨i1, i2⟩ := hI
  simp only at i1 i2
  cases hk : fr[i]? with
  | none =>
   have hge := Y2.1 hk
   rw [Yaa hge] at i2
   exact ⟨.ex bs, by dsimp only [ZmL, ZnT, Zoc, ZnX, ZoJ, br, ix, vz, vw, vs, v2, ln, lxe, lc, cl, wa, du, eqL]; simp [show ¬ i < fr.length by omega], fd, i2⟩
  | some b =>
   obtain ⟨g0, hgi⟩ := Yg.1 hk
   have g2 : i + 1 < 9223372036854775808 := by omega
   have ef := ZlD s b
   have hf10 := h.fl b
   have q2 := ZbP (B := Zhv s fr t ((lf : Int) + 1) i (Zh8 s b)) (I := fun c v => c + v.2.2 = (Zbm s b).length ∧ LeO (fun n => (∃ b ∈ fr.take i, ∃ f ∈ Zbm s b, f.num = n ∧ Cnd s t lf b n) ∨ ∃ f ∈ (Zbm s b).take v.2.2, f.num = n ∧ Cnd s t lf b n) (v.1, v.2.1)) (Q := fun o => Sum.elim (fun v => LeO (fun n => (∃ b ∈ fr.take i, ∃ f ∈ Zbm s b, f.num = n ∧ Cnd s t lf b n) ∨ ∃ f ∈ Zbm s b, f.num = n ∧ Cnd s t lf b n) v) (fun _ => False) o) (fun c v hJ => by
    obtain ⟨bs, fd, j⟩ := v
    obtain ⟨j1, j2⟩ := hJ
    simp only at j1 j2
    cases hj : (Zbm s b)[j]? with
    | none =>
     have hge := Y2.1 hj
     rw [Yaa hge] at j2
     exact ⟨.ex (bs, fd), by dsimp only [Zhv, Zjv, br, ix, vz, vw, vs, ln, lxe, cl, wa, wi, eqL]; simp [ef, show ¬ j < (Zbm s b).length by omega], j2⟩
    | some f =>
     obtain ⟨j0, hje⟩ := Yg.1 hj
     have jj : j + 1 < 9223372036854775808 := by omega
     obtain ⟨l, d, e1, e2, kd⟩ := q44 h t lf hlf b f.num
     have htk : ∀ n, ((∃ b ∈ fr.take i, ∃ f ∈ Zbm s b, f.num = n ∧ Cnd s t lf b n) ∨ ∃ f' ∈ (Zbm s b).take (j + 1), f'.num = n ∧ Cnd s t lf b n) ↔ (((∃ b ∈ fr.take i, ∃ f ∈ Zbm s b, f.num = n ∧ Cnd s t lf b n) ∨ ∃ f' ∈ (Zbm s b).take j, f'.num = n ∧ Cnd s t lf b n) ∨ (f.num = n ∧ Cnd s t lf b n)) := fun n => by
      rw [YG j0, hje, or_assoc]
      refine or_congr Iff.rfl ⟨fun ⟨f', hf', q⟩ => ?_, fun q => ?_⟩
      ·rcases Y5.1 hf' with r | r
       ·exact .inl ⟨f', r, q⟩
       ·rw [YO.1 r] at q; exact .inr q
      ·rcases q with ⟨f', r, q⟩ | q
       ·exact ⟨f', Y4 _ r, q⟩
       ·exact ⟨f, Yaz _ (by simp), q⟩
     by_cases hd : d = (lf : Int)
     ·have hc := kd.1 hd
      have hp := j2.put f.num
      have hq := hp.congr (Q := fun n => (∃ b ∈ fr.take i, ∃ f ∈ Zbm s b, f.num = n ∧ Cnd s t lf b n) ∨ ∃ f' ∈ (Zbm s b).take (j + 1), f'.num = n ∧ Cnd s t lf b n) fun n => by
       rw [htk n]
       refine or_congr Iff.rfl ⟨fun q => ?_, fun q => q.1.symm⟩
       subst q; exact ⟨rfl, hc⟩
      by_cases hcnd : (!fd || decide (f.num < bs)) = true
      ·rw [if_pos hcnd] at hq
       refine ⟨.nx (f.num, true, j + 1), ?_, c - 1, by omega, by simp only; omega, hq⟩
       dsimp only [Zhv, Zjv, br, ix, vz, vw, vs, ln, lxe, cl, wa, wi, eqL]
       rw [e0]
       simp only [ef, show (j : Int) < ((Zbm s b).length : Int) by omega, hj, hk, e1, e2, hd, decide_true, if_true, Option.bind_some, hcnd, YbD, jj, ew, and_self]
      ·rw [if_neg hcnd] at hq
       refine ⟨.nx (bs, fd, j + 1), ?_, c - 1, by omega, by simp only; omega, hq⟩
       have hcnd : (!fd || decide (f.num < bs)) = false := by simpa using hcnd
       dsimp only [Zhv, Zjv, br, ix, vz, vw, vs, ln, lxe, cl, wa, wi, eqL]
       rw [e0]
       simp only [ef, show (j : Int) < ((Zbm s b).length : Int) by omega, hj, hk, e1, e2, hd, decide_true, if_true, Option.bind_some, hcnd, YbD, Yaj, if_false, jj, ew, and_self]
     ·refine ⟨.nx (bs, fd, j + 1), ?_, c - 1, by omega, by simp only; omega, j2.congr fun n => ?_⟩
      ·dsimp only [Zhv, Zjv, br, ix, vz, vw, vs, ln, lxe, cl, wa, wi, eqL]
       rw [e0]
       simp only [ef, show (j : Int) < ((Zbm s b).length : Int) by omega, hj, hk, e1, e2, hd, decide_true, decide_false, if_true, Option.bind_some, Bool.false_and, Yaj, if_false, jj, ew, and_self]
      ·rw [htk n]
       refine ⟨.inl, fun q => q.resolve_right fun ⟨q1, q2⟩ => ?_⟩
       subst q1
       exact hd (kd.2 q2)) big (Zbm s b).length (bs, fd, 0) (Zbl (by omega)) ⟨rfl, i2.congr fun n => by simp⟩
   obtain ⟨o, e, hq⟩ := q2
   cases o with
   | inr _ => exact hq.elim
   | inl v =>
    obtain ⟨bs', fd'⟩ := v
    refine ⟨.nx (bs', fd', i + 1), by dsimp only [ZmL, ZnT, Zoc, ZnX, ZoJ, br, ix, vz, vw, vs, v2, ln, lxe, lc, cl, wa, du, eqL]; simp [g0, g2, hk, hgi, m18 h, e], c - 1, by omega, by simp only; omega, hq.congr fun n => ?_⟩
    simp only
    rw [YG g0, hgi]
    simp only [Y5, YO, or_and_right, exists_or, exists_eq_left]) big fr.length (0, false, 0) (Zbl (by omega)) ⟨rfl, .inl ⟨rfl, fun n q => by simp at q⟩⟩
 obtain ⟨o, e, hq⟩ := q1
 cases o with
 | inr _ => exact hq.elim
 | inl x =>
  obtain ⟨fd, hq⟩ := hq
  exact ⟨(x, fd), by dsimp only [Zba, Zqp, Zq8, ZqM, Zra, vw, lr, lc]; simp [e], hq⟩
theorem m17 (a b : ByteArray) {y : List Int × Int} (hy : Zgy s a b y) : Zay s a b = some y := by
 have h8 := h.m
 have na := Zmo s a
 have nb := Zmo s b
 obtain ⟨d, ed, kd⟩ := m43 h [a] b (by simp)
 by_cases hab : isM s a = true ∧ isM s b = true
 ·obtain ⟨ha, hb⟩ := hab
  rw [ha] at na
  rw [hb] at nb
  have na := of_decide_eq_false na
  have nb := of_decide_eq_false nb
  rcases hy with ⟨p, rfl, _, _, kp, kl⟩ | ⟨rfl, kn⟩
  ·have hd : d = (p.length : Int) := kd.at (by omega) ⟨a, by simp, p, kp.w, rfl⟩ fun j hj ⟨a', ha', q, hq, hl⟩ => by
    obtain rfl := YO.1 ha'
    have := (kp.l q hq).1
    omega
   have q1 := ZbP (B := ZmU s b) (I := fun c v => ∃ i, i ≤ p.length ∧ c + i = p.length ∧ v.2.1 = ((p.length - i : Nat) : Int) ∧ v.2.2 = p.take i ∧ v.1.length ≤ 8 ∧ ∀ x, x ∈ v.1 ↔ Wk s a (p.take i) x) (Q := fun o => o = .inl p) (fun c v hI => by
    obtain ⟨now, lf, out⟩ := v
    obtain ⟨i, i1, i2, i3, i4, i5, i6⟩ := hI
    simp only at i3 i4 i5 i6
    subst i4
    by_cases hi : i < p.length
    ·obtain ⟨m, hm⟩ : ∃ m, p.length - i = m + 1 := ⟨p.length - i - 1, by omega⟩
     have i3 : lf = (m : Int) + 1 := by omega
     subst i3
     obtain ⟨v, ev, kv⟩ := m44 h now b m (by omega) (by omega)
     have hp : p = p.take i ++ p[i] :: p.drop (i + 1) := by rw [← YV hi, Yby]
     have hcnd : ∀ n, (∃ b' ∈ now, ∃ f ∈ Zbm s b', f.num = n ∧ Cnd s b m b' n) ↔ ∃ b' c', Wk s a (p.take i) b' ∧ Wk s b' [n] c' ∧ Wn s c' m b := fun n => by
      constructor
      ·rintro ⟨b', hb', f, _, _, hc⟩
       obtain ⟨⟨c', c1, c2⟩, _⟩ := hc
       exact ⟨b', c', (i6 b').1 hb', c1, c2⟩
      ·rintro ⟨b', c', w1, w2, w3⟩
       obtain ⟨f, f1, f2, f3, f4⟩ := w2.one
       refine ⟨b', (i6 b').2 w1, f, f1, f3, ⟨c', w2, w3⟩, fun j hj ⟨c'', u1, q, u2, u3⟩ => ?_⟩
       have := (kp.l _ ((w1.app u1).app u2)).1
       simp only [Ym, YY, Yab] at this
       omega
     have hpi : ∃ b' c', Wk s a (p.take i) b' ∧ Wk s b' [p[i]] c' ∧ Wn s c' m b := by
      obtain ⟨b', w1, w2⟩ := kp.w.split (p.take i) (p[i] :: p.drop (i + 1)) hp
      obtain ⟨c', w3, w4⟩ := w2.split [p[i]] (p.drop (i + 1)) rfl
      exact ⟨b', c', w1, w3, p.drop (i + 1), w4, by rw [Yad]; omega⟩
     have hv : v.1 = p[i] := by
      rcases kv with ⟨_, q⟩ | ⟨_, q1, q2⟩
      ·exact absurd ((hcnd _).2 hpi) (q _)
      ·have hle := q2 _ ((hcnd _).2 hpi)
       by_cases heq : v.1 = p[i]
       ·exact heq
       ·obtain ⟨b', c', w1, w2, q, w3, w4⟩ := (hcnd _).1 q1
        have hw := (w1.app w2).app w3
        have hlen : p.length = (p.take i ++ [v.1] ++ q).length := by
         simp only [Ym, YY, Yab]
         omega
        have := (kp.l _ hw).2 hlen
        have hlt : lxB (p.take i ++ v.1 :: q) (p.take i ++ p[i] :: p.drop (i + 1)) = true := Zu5 _ _ _ (by omega)
        rw [← hp] at hlt
        rw [YR, show [v.1] ++ q = v.1 :: q from rfl, hlt] at this
        cases this
     obtain ⟨l, el, la, lm⟩ := m45 h now v.1 (by omega)
     have hlw : ∀ x, x ∈ l ↔ Wk s a (p.take (i + 1)) x := fun x => by
      rw [lm, YG hi, hv]
      constructor
      ·rintro ⟨n, hn, f, hf, f1, f2, f3⟩
       have := Wk.snoc ((i6 n).1 hn) hf f1
       rw [f2, f3] at this
       exact this
      ·intro w
       obtain ⟨b', w1, w2⟩ := w.split (p.take i) [p[i]] rfl
       obtain ⟨f, f1, f2, f3, f4⟩ := w2.one
       exact ⟨b', (i6 b').2 w1, f, f1, f2, f3, f4⟩
     have hl8 : l.length ≤ 8 := by
      have := ZeF (Zef la) (r := nmM s) fun x hx => Zdi.1 (((hlw x).1 hx).isM ha)
      unfold nmM at this
      rw [Yp] at this
      omega
     have g1 : (p.take i).length < 549755813887 := by rw [YY]; omega
     have e0 : (m : Int) + 1 - 1 = m := by omega
     have ew : (-9223372036854775808 : Int) ≤ m ∧ (m : Int) < 9223372036854775808 := by omega
     have g0 : (0 : Int) < (m : Int) + 1 := by omega
     refine ⟨.nx (l, (m : Int), p.take i ++ [v.1]), ?_, c - 1, by omega, i + 1, by omega, by omega, by simp only; omega, ?_, hl8, hlw⟩
     ·dsimp only [ZmU, ZnC, br, vz, vw, vs, ln, lxe, ap, cl, wi, fl]
      rw [e0]
      simp only [g0, ev, el, g1, ew, and_self, decide_true, if_true, Option.bind_some]
     ·simp only
      rw [YG hi, hv]
    ·have hie : i = p.length := by omega
     subst hie
     have i3 : lf = 0 := by rw [i3]; simp
     subst i3
     exact ⟨.ex (p.take p.length), by dsimp only [ZmU, ZnC, br, vz, vw, vs, ln, lxe, ap, cl, wi, fl]; simp, by rw [List.take_length]⟩) big p.length ([a], (p.length : Int), []) (Zbl (by omega)) ⟨0, Nat.zero_le _, rfl, by simp, by simp, by simp, fun x => by
     simp only [YO, List.take_zero]
     constructor
     ·rintro rfl; exact .nil
     ·intro w
      rcases w.inv with ⟨_, q⟩ | ⟨q, _, _, e, _⟩
      ·exact q
      ·simp at e⟩
   obtain ⟨o, e, rfl⟩ := q1
   have hd2 : ¬ d < 0 := by omega
   dsimp only [Zay, ZlM, Zk9, ZmR, br, vz, vw, lr, lc, cl, fl, fr]
   simp [m18 h, na, nb, ed, hd2]
   rw [hd, e]
   rfl
  ·have hd : d < 0 := by
    rcases kd with ⟨rfl, _⟩ | ⟨k, _, _, ⟨a', ha', q, hq, _⟩, _⟩
    ·decide
    ·obtain rfl := YO.1 ha'
     exact absurd ⟨ha, hb, q, hq⟩ kn
   dsimp only [Zay, ZlM, Zk9, ZmR, br, vz, vw, lr, lc, cl, fl, fr]
   simp [m18 h, na, nb, ed, hd]
 ·have hy : y = ([], 10) := by
   rcases hy with ⟨p, _, k1, k2, _⟩ | ⟨rfl, _⟩
   ·exact absurd ⟨k1, k2⟩ hab
   ·rfl
  subst hy
  have hor : decide ((Zh8 s a).2 < 0) = true ∨ decide ((Zh8 s b).2 < 0) = true := by
   rw [na, nb]
   cases h1 : isM s a with
   | false => exact .inl rfl
   | true =>
    cases h2 : isM s b with
    | false => exact .inr rfl
    | true => exact absurd ⟨h1, h2⟩ hab
  have hor2 : (Zh8 s a).2 < 0 ∨ (Zh8 s b).2 < 0 := hor.imp of_decide_eq_true of_decide_eq_true
  dsimp only [Zay, ZlM, Zk9, ZmR, br, vz, vw, lr, lc, cl, fl, fr]
  simp [m18 h, hor2]
end
theorem ZeK (s : Scm) (a b : ByteArray) (hm : s.messages.length ≤ 1048576) : Zap s a b = some true := by
 obtain ⟨fw, e, hb⟩ := m11 s hm
 cases fw with
 | false => dsimp only [Zap, Zwt, Zwv, ZwA, br, vy, vw, lr, lc, cl, eqL]; simp [e]
 | true =>
  have h := hb rfl
  have h8 := h.m
  obtain ⟨y, e16, ky⟩ := n16 h a b
  have e17 := m17 h a b ky
  have hyl : y.1.length ≤ 8 := by
   rcases ky with ⟨p, rfl, _, _, _, kl⟩ | ⟨rfl, _⟩
   ·show p.length ≤ 8; omega
   ·simp
  have q1 := ZbP (B := Zwi y y) (I := fun k i => k + i = y.1.length) (Q := fun o => o = .inl ()) (fun k i hI => by
   cases hk : y.1[i]? with
   | none =>
    have := Y2.1 hk
    exact ⟨.ex (), by dsimp only [Zwi, ZwH, br, ix, vz, vs, lrt, ln, lxe, wa, eqL]; simp [show ¬ i < y.1.length by omega], rfl⟩
   | some x =>
    obtain ⟨g0, hgi⟩ := Yg.1 hk
    have g2 : i + 1 < 9223372036854775808 := by omega
    exact ⟨.nx (i + 1), by dsimp only [Zwi, ZwH, br, ix, vz, vs, lrt, ln, lxe, wa, eqL]; simp [g0, g2, hk, hgi], k - 1, by omega, by omega⟩) big y.1.length 0 (Zbl (by omega)) rfl
  obtain ⟨o, eo, rfl⟩ := q1
  dsimp only [Zap, Zwt, Zwv, ZwA, br, vy, vw, lr, lc, cl, eqL]
  simp [e, e16, e17, eo, awk]
end Go.Proofs.Ythhipejbnbochaa
namespace Go.Proofs.Ythhipejbnbochaa
set_option linter.all false
open Go Go.Eng
theorem Zhd {s : Scm} {a b : ByteArray} (h : bkL (Zc5 s) ≤ 1048576) : Zap s a b = some true := ZeK s a b (Zsw h)
end Go.Proofs.Ythhipejbnbochaa
namespace Go.Proofs.Ythhipejbnbochaa
set_option linter.all false
open Go Go.Eng Go.ChangeShapes Go.WideShapes Go.ChangeAt Go.RowKit
theorem own : ownKnob Try.prog.godebug = none := by kernel_rfl
namespace GraphPaths
open Go.Proofs.Ythhipejbnbochaa
set_option maxRecDepth 100000 in
theorem contract (H : Type) (enc : TypeId × Value → H) (W : World) (base : Nat) (args : Array Value) (ds gs : List (DataW H)) (before : List MemPlace)
  (hval : ∀ (j : Nat) t v, Try.f4.params[j]? = some t → args[j]? = some v → Value.okWide Try.prog W .any base t v)
  (hW : DataW.Whole enc Try.prog Try.f4.params.toList Rows.graphPathsSpec.vars false W args.toList ds gs before) (hk : Rows.uptoSmall H (ds ++ gs) = true) :
  Calls Try.prog 4 args W fun e W' => ∃ v, e = .returned v ∧ Rows.graphPathsSpec.post enc Try.prog Try.f4 false true false false W args v W' := by
 obtain ⟨p, q, hA0, hV, rfl, hfz, hnd⟩ := id hW
 have hA : DataW.TrodAll enc Try.prog W 0 (fun _ => true) true Try.f4.params.toList args.toList ds p := hA0
 rw [Try.params4] at hA hval
 obtain ⟨v0, vs0, d0, ds0, p0, q0, hargs, rfl, rfl, h0, r0⟩ := trodAll_cons hA
 obtain ⟨v1, vs1, d1, ds1, p1, q1, rfl, rfl, rfl, h1, r1⟩ := trodAll_cons r0
 obtain ⟨v2, vs2, d2, ds2, p2, q2, rfl, rfl, rfl, h2, r2⟩ := trodAll_cons r1
 obtain ⟨rfl, rfl, rfl⟩ := trodAll_nil r2
 obtain rfl : args = #[v0, v1, v2] := by cases args; simp_all
 have hb : Rows.uptoBulkAll ([d0, d1, d2] ++ gs) ≤ 1048576 := of_decide_eq_true hk
 simp only [YaQ, Yaq, Rows.uptoBulkAll] at hb
 obtain ⟨s, re0, fe0⟩ := ZsV ZuK Try.underlying26 (hval 0 26 v0 rfl rfl) h0
 obtain ⟨a, re1, fe1⟩ := Zm6 Try.underlying9 (hval 1 9 v1 rfl rfl) h1
 obtain ⟨b, re2, fe2⟩ := Zm6 Try.underlying9 (hval 2 9 v2 rfl rfl) h2
 obtain ⟨rfl, rfl⟩ := trodVars_none hV
 have A := (K_4 s a b).k 0 Hp0 true (Zhd (by omega))
 refine (A.2 (fun _ => ⟨0, 0, 0⟩) (· < W.heap.size) W #[v0, v1, v2] (ok0 _) (ZsU (xs := [.agg ((Zc5 s).map .d), .d (.str a), .d (.str b)]) (vs := [v0, v1, v2]) ⟨re0 _ _, re1 _ _ _ _, re2 _ _ _ _, trivial⟩)).mono fun e W' ⟨r, v, H', m', S', he, hp, hO, hr, hx⟩ => ?_
 obtain ⟨hp, _⟩ := hp
 subst he
 subst hp
 cases hr
 rename_i hd
 cases hd
 exact ⟨_, rfl, ZkW hW rfl (by kernel_rfl) (by rw [Try.params4]; exact (by decide +kernel)) (by kernel_rfl) Try.underlying4 rfl ⟨hx.os, hx.tape, hx.output, hx.size, hx.blk⟩⟩
set_option maxRecDepth 100000 in
theorem lifted (os : Os) (started : os.Started) (H : Type) (enc : TypeId × Value → H) (F : Stop.Interp) :
  ReturnsInHanded {} Try.checked os 4 .any ((Rows.OpenSpec.upto Rows.graphPathsSpec).pre6 enc Try.prog Try.f4 Rows.graphPathsUptoRow.domain false) (((Rows.OpenSpec.upto Rows.graphPathsSpec).at F).post enc Try.prog Try.f4 false true false false) := by
 refine returnsInHanded_of_cond (C := Try.checked) (s := Rows.OpenSpec.upto Rows.graphPathsSpec) (k := Rows.uptoSmall) rfl own started (by kernel_rfl) Try.func4
  (OpenSpec.witness (enc := enc) (C := Try.checked) (s := Rows.OpenSpec.upto Rows.graphPathsSpec) (k := Rows.uptoSmall) rfl false ⟨#[], #[.agg #[.slice none 0 0, .slice none 0 0, .slice none 0 0], .string ⟨#[]⟩, .string ⟨#[]⟩], []⟩ 8 (by kernel_rfl) (by kernel_rfl) (by kernel_rfl)
   (x := ([.agg [.nil, .nil, .nil], .lit (.string []), .lit (.string [])], [], [])) (by kernel_rfl) rfl (by kernel_rfl)) ?_
 intro W base args ds gs before hval hW _ hk _
 exact contract H enc W base args ds gs before hval hW hk
theorem holds : Rows.GraphPathsUptoSaid :=
 OpenClaim.holds_of_cond 4 Try.f4 rfl rfl rfl rfl rfl rfl rfl ⟨rfl, rfl, rfl, rfl, rfl⟩ rfl rfl rfl rfl rfl (by kernel_rfl) Try.func4 (by kernel_rfl)
  (of_decide_eq_true (by kernel_rfl)) (by unfold Func.isWrapper; first | (rw [if_pos (by decide +kernel)]; kernel_rfl) | (rw [if_neg (by decide +kernel)]; exact ⟨rfl, rfl⟩))
  (fun os started H enc _ F => lifted os started H enc F)
end GraphPaths
end Go.Proofs.Ythhipejbnbochaa
