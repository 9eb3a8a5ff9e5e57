import Derived.Test.YthhipejbnbochaaCu20
import Derived.Test.YthhipejbnbochaaCu21
import Derived.Test.YthhipejbnbochaaCu00
namespace Go.Proofs.Ythhipejbnbochaa
set_option linter.all false
open Go Go.Eng
set_option maxRecDepth 100000 in
theorem awk : Zbo = some true := by kernel_rfl
end Go.Proofs.Ythhipejbnbochaa
namespace Go.Proofs.Ythhipejbnbochaa
set_option linter.all false
open Go Go.Eng
theorem Zmz {s : Scm} {n x : ByteArray} (h : x ∈ Ztg s n) : isM s x = true ∨ isE s x = true := by
 unfold Ztg at h
 obtain ⟨f, hf, rfl⟩ := Yq.1 h
 have := (YJ.1 hf).2
 unfold ldF toF at this
 rcases Bool.or_eq_true_iff.1 this with q | q
 ·exact .inl (Yaf.1 q).1
 ·exact .inr (Yaf.1 q).2
theorem Zjb {s : Scm} {n x : ByteArray} (h : x ∈ Ztg s n) (he : isE s x = false) : x ∈ ZbO s n := by
 unfold Ztg at h
 unfold ZbO
 obtain ⟨f, hf, rfl⟩ := Yq.1 h
 obtain ⟨a, b⟩ := YJ.1 hf
 refine Yq.2 ⟨f, YJ.2 ⟨a, ?_⟩, rfl⟩
 unfold ldF at b
 rw [he, Ybx, Ybb] at b
 exact b
theorem ClOk.uniq {s : Scm} {ns l r : List ByteArray} (h : ClOk s ns l) (k : ClOk s ns r) : l = r := Zpm h.a k.a fun x => (h.m x).trans (k.m x).symm
theorem ClOk.defd {s : Scm} {ns l : List ByteArray} (h : ClOk s ns l) {x : ByteArray} (hx : x ∈ l) : isM s x = true ∨ isE s x = true := by
 rcases (h.m x).1 hx with ⟨_, q⟩ | ⟨n, _, _, q | ⟨y, _, q⟩⟩
 ·exact q
 ·exact Zmz q
 ·exact Zmz q
theorem ClOk.len {s : Scm} (hs : Fw s) {ns l : List ByteArray} (h : ClOk s ns l) : l.length ≤ 16 := by
 have := ZeF (Zef h.a) (r := nmM s ++ s.enums.map Enm.name) fun x hx => by
  rcases h.defd hx with q | q
  ·exact Y4 _ (Zdi.1 q)
  ·exact Yaz _ (Zq0.1 q)
 have h1 := hs.m
 have h2 := hs.e
 simp only [nmM, Ym, Yp] at this
 omega
theorem m11 (s : Scm) (hm : s.messages.length ≤ 1048576) : ∃ b, Zbd s = some b ∧ (b = true → Fw s) := by
 dsimp only [Zbd, ZqY, ZrF, ZsB, br, vz, vy, vw, lr, lc, eqL]
 by_cases h1 : (8 : Int) < (s.messages.length : Int)
 ·exact ⟨false, by simp [h1], fun q => by cases q⟩
 ·by_cases h2 : (8 : Int) < (s.enums.length : Int)
  ·exact ⟨false, by simp [h2], fun q => by cases q⟩
  ·have q1 := ZbP (B := Zj6 s) (I := fun k i => k + i = s.messages.length ∧ ∀ m ∈ s.messages.take i, m.fields.length ≤ 10) (Q := fun o => Sum.elim (fun _ => ∀ m ∈ s.messages, m.fields.length ≤ 10) (fun b => b = false) o) (fun k i hI => by
    obtain ⟨i1, i2⟩ := hI
    cases hk : s.messages[i]? with
    | none =>
     have := Y2.1 hk
     rw [Yaa this] at i2
     exact ⟨.ex (), by dsimp only [Zj6, ZlI, br, ix, vz, vw, vs, lrt, ln, lxe, wa, eqL]; simp [show ¬ (i : Int) < (s.messages.length : Int) by omega], i2⟩
    | some x =>
     have g1 := Zfb hk
     obtain ⟨g0, rfl⟩ := Yg.1 hk
     have g2 : i + 1 < 9223372036854775808 := by omega
     by_cases hf : (10 : Int) < (s.messages[i].fields.length : Int)
     ·exact ⟨.rt false, by dsimp only [Zj6, ZlI, br, ix, vz, vw, vs, lrt, ln, lxe, wa, eqL]; simp [g0, hk, hf], rfl⟩
     ·refine ⟨.nx (i + 1), by dsimp only [Zj6, ZlI, br, ix, vz, vw, vs, lrt, ln, lxe, wa, eqL]; simp [g0, g2, hk, hf], k - 1, by omega, by omega, fun m hmm => ?_⟩
      rw [YG g0] at hmm
      rcases Y5.1 hmm with q | q
      ·exact i2 m q
      ·rw [YO.1 q]; omega) big s.messages.length 0 (Zbl (by omega)) ⟨rfl, by simp⟩
   obtain ⟨o, e, hq⟩ := q1
   cases o with
   | inl u => exact ⟨true, by simp [h1, h2, e], fun _ => ⟨by omega, by omega, hq⟩⟩
   | inr b => exact ⟨b, by simp [h1, h2, e], fun q => by have : b = false := hq; rw [this] at q; cases q⟩
theorem Zsw {s : Scm} (h : bkL (Zc5 s) ≤ 1048576) : s.messages.length ≤ 1048576 := by
 have := Zpx (e := Zbs) s.messages
 simp only [Zc5, bkL, bk] at h
 omega
theorem ClOk.self {s : Scm} {ns l : List ByteArray} (k : ClOk s ns l) (hs : ∀ n, isM s n = true → isE s n = false) : ClOk s l l := by
 refine ⟨k.a, fun x => ⟨fun hx => .inl ⟨hx, k.defd hx⟩, ?_⟩⟩
 rintro (⟨hx, _⟩ | ⟨n, hn, hm, q⟩)
 ·exact hx
 ·
  have he := hs n hm
  have key : ∀ n0, (n0 ∈ ns ∧ isM s n0 = true) → (n = n0 ∨ Rch s n0 n) → x ∈ l := fun n0 ⟨h1, h2⟩ h3 => by
   refine (k.m x).2 (.inr ⟨n0, h1, h2, ?_⟩)
   rcases h3 with rfl | h3
   ·exact q
   ·rcases q with q | ⟨y, q, q2⟩
    ·exact .inr ⟨n, h3, q⟩
    ·exact .inr ⟨y, h3.trans q, q2⟩
  rcases (k.m n).1 hn with ⟨h1, _⟩ | ⟨n0, h1, h2, h3 | ⟨y, h3, h4⟩⟩
  ·exact key n ⟨h1, hm⟩ (.inl rfl)
  ·exact key n0 ⟨h1, h2⟩ (.inr (.one (Zjb h3 he)))
  ·exact key n0 ⟨h1, h2⟩ (.inr (.tl h3 (Zjb h4 he)))
def lxB : List Int → List Int → Bool
 | [], [] => false
 | [], _ :: _ => true
 | _ :: _, [] => false
 | a :: p, b :: q => decide (a < b) || (decide (a = b) && lxB p q)
theorem Zf3 (a b : Int) (p q : List Int) : lxB (a :: p) (b :: q) = (decide (a < b) || (decide (a = b) && lxB p q)) := rfl
theorem Zp5 : ∀ p : List Int, lxB p p = false
 | [] => rfl
 | a :: p => by unfold lxB; simp [Zp5 p]
theorem ZqL : ∀ {p q r : List Int}, lxB p q = true → lxB q r = true → lxB p r = true
 | [], [], r, h, _ => by cases h
 | [], b :: q, [], _, k => by cases k
 | [], b :: q, c :: r, _, _ => rfl
 | a :: p, [], r, h, _ => by cases h
 | a :: p, b :: q, [], _, k => by cases k
 | a :: p, b :: q, c :: r, h, k => by
  unfold lxB at *
  simp only [YC, Yb, decide_eq_true_eq] at *
  rcases h with h | ⟨h1, h2⟩
  ·rcases k with k | ⟨k1, k2⟩
   ·exact .inl (by omega)
   ·exact .inl (by omega)
  ·rcases k with k | ⟨k1, k2⟩
   ·exact .inl (by omega)
   ·exact .inr ⟨by omega, ZqL h2 k2⟩
theorem ZmH : ∀ {p q : List Int}, lxB p q = false → lxB q p = false → p = q
 | [], [], _, _ => rfl
 | [], b :: q, h, _ => by cases h
 | a :: p, [], _, k => by cases k
 | a :: p, b :: q, h, k => by
  unfold lxB at h k
  simp only [YaZ, YaT, decide_eq_false_iff_not] at h k
  have e : a = b := by omega
  subst e
  rw [ZmH (h.2.resolve_left fun q => q rfl) (k.2.resolve_left fun q => q rfl)]
theorem Zxo {p q r : List Int} (h : lxB q p = false) (k : lxB r q = false) : lxB r p = false := by
 cases hr : lxB r p with
 | false => rfl
 | true =>
  cases hp : lxB p q with
  | true => rw [ZqL hr hp] at k; cases k
  | false => rw [ZmH hp h] at hr; rw [hr] at k; cases k
theorem Znk {x y : Int} : ∀ {p q : List Int}, p.length = q.length → lxB (p ++ [x]) (q ++ [y]) = (lxB p q || (decide (p = q) && decide (x < y)))
 | [], [], _ => by simp [lxB]
 | [], b :: q, h => by simp at h
 | a :: p, [], h => by simp at h
 | a :: p, b :: q, h => by
  have ih := Znk (x := x) (y := y) (p := p) (q := q) (by simpa using h)
  show (decide (a < b) || (decide (a = b) && lxB (p ++ [x]) (q ++ [y]))) = _
  rw [ih, Zf3]
  by_cases h1 : a < b
  ·simp [h1]
  ·by_cases h2 : a = b
   ·subst h2; simp
   ·have : ¬ (a :: p = b :: q) := fun e => h2 (List.cons.inj e).1
    simp [h1, h2, this]
theorem m69 (x y : Int) : Zby x y = some (if x < y then -1 else if y < x then 1 else 0) := by
 dsimp only [Zby, ZrA, br, lr, cl, ZcR, Zrq, lr]
 by_cases h1 : x < y
 ·simp [h1]
 ·by_cases h2 : y < x <;> simp [h1, h2]
theorem m64 (p q : List Int) (h : p.length < 4611686018427387904) : ∃ c, Zbr p q = some c ∧ decide (c < 0) = lxB p q := by
 have q1 := ZbP (B := Zhh p q) (I := fun k i => k + i = p.length ∧ i ≤ q.length ∧ lxB p q = lxB (p.drop i) (q.drop i)) (Q := fun o => Sum.elim (fun _ => p.length ≤ q.length ∧ lxB p q = decide (p.length < q.length)) (fun c => decide (c < 0) = lxB p q) o) (fun k i hI => by
  obtain ⟨i1, i2, i3⟩ := hI
  cases hk : p[i]? with
  | none =>
   have hge := Y2.1 hk
   refine ⟨.ex (), by dsimp only [Zhh, ZhE, br, ix, vz, vs, lrt, ln, lxe, cl, wa, eqL]; simp [show ¬ i < p.length by omega], by omega, ?_⟩
   rw [i3, YaN hge]
   have : i = p.length := by omega
   subst this
   cases hd : q.drop p.length with
   | nil =>
    have := List.drop_eq_nil_iff.1 hd
    rw [decide_eq_false (by omega)]; rfl
   | cons a r =>
    have := congrArg List.length hd
    rw [Yad] at this
    simp at this
    rw [decide_eq_true (by omega)]; rfl
  | some x =>
   obtain ⟨g0, hgi⟩ := Yg.1 hk
   have g2 : i + 1 < 9223372036854775808 := by omega
   have e1 : p.drop i = x :: p.drop (i + 1) := by rw [YV g0, hgi]
   by_cases hq : q.length ≤ i
   ·refine ⟨.rt 1, by dsimp only [Zhh, ZhE, br, ix, vz, vs, lrt, ln, lxe, cl, wa, eqL]; simp [g0, hk, hgi, hq], ?_⟩
    show decide ((1 : Int) < 0) = lxB p q
    rw [i3, e1, YaN hq]; rfl
   ·have q0 : i < q.length := by omega
    have e2 : q.drop i = q[i] :: q.drop (i + 1) := YV q0
    rw [e1, e2, Zf3] at i3
    by_cases c1 : x < q[i]
    ·refine ⟨.rt (-1), by dsimp only [Zhh, ZhE, br, ix, vz, vs, lrt, ln, lxe, cl, wa, eqL]; simp [g0, q0, hk, hgi, hq, m69, c1], ?_⟩
     show decide ((-1 : Int) < 0) = lxB p q
     rw [i3]; simp [c1]
    ·by_cases c2 : q[i] < x
     ·refine ⟨.rt 1, by dsimp only [Zhh, ZhE, br, ix, vz, vs, lrt, ln, lxe, cl, wa, eqL]; simp [g0, q0, hk, hgi, hq, m69, c1, c2], ?_⟩
      show decide ((1 : Int) < 0) = lxB p q
      rw [i3]; simp [c1, show ¬ x = q[i] by omega]
     ·refine ⟨.nx (i + 1), by dsimp only [Zhh, ZhE, br, ix, vz, vs, lrt, ln, lxe, cl, wa, eqL]; simp [g0, q0, g2, hk, hgi, hq, m69, c1, c2], k - 1, by omega, by omega, by omega, ?_⟩
      rw [i3]; simp [show x = q[i] by omega]) big p.length 0 (Zbl h) ⟨rfl, Nat.zero_le _, by simp⟩
 obtain ⟨o, e, hq⟩ := q1
 cases o with
 | inl u =>
  obtain ⟨h1, h2⟩ := hq
  by_cases hl : p.length < q.length
  ·exact ⟨-1, by dsimp only [Zbr, Zkx, ZmD, Znd, br, vz, lr, lc, eqL]; simp [e, hl], by rw [h2]; simp [hl]⟩
  ·exact ⟨0, by dsimp only [Zbr, Zkx, ZmD, Znd, br, vz, lr, lc, eqL]; simp [e, hl], by rw [h2]; simp [hl]⟩
 | inr c => exact ⟨c, by dsimp only [Zbr, Zkx, ZmD, Znd, br, vz, lr, lc, eqL]; simp [e], hq⟩
theorem m63 (p : List Int) (h : p.length < 549755813888) : Zbj p = some p := by
 dsimp only [Zbj, ZsW, al, br, vw, lr, a0, mv]
 simp [h]
structure FOk (C : ByteArray → List Int → Prop) (fd : List (ByteArray × List Int)) : Prop where
 s : ∀ t p, Zbu t fd = some p → C t p ∧ ∀ q, C t q → lxB q p = false
 n : ∀ t, Zbu t fd = none → ∀ q, ¬ C t q
 nd : (Zbx fd).Nodup
def Zuq (fd : List (ByteArray × List Int)) (t : ByteArray) (p : List Int) : List (ByteArray × List Int) := if (!inM t fd || lxB p (lkM t fd)) = true then Zb2 t p fd else fd
theorem FOk.congr {C D : ByteArray → List Int → Prop} {fd : List (ByteArray × List Int)} (h : FOk C fd) (k : ∀ t p, C t p ↔ D t p) : FOk D fd :=
 ⟨fun t p e => ⟨(k t p).1 (h.s t p e).1, fun q hq => (h.s t p e).2 q ((k t q).2 hq)⟩, fun t e q hq => h.n t e q ((k t q).2 hq), h.nd⟩
theorem FOk.put {C : ByteArray → List Int → Prop} {fd : List (ByteArray × List Int)} (h : FOk C fd) (t : ByteArray) (p : List Int) : FOk (fun t' q => C t' q ∨ (t' = t ∧ q = p)) (Zuq fd t p) := by
 unfold Zuq
 split
 ·rename_i hc
  refine ⟨fun t' q e => ?_, fun t' e q hq => ?_, Zmv _ _ h.nd⟩
  ·rw [ZbM] at e
   split at e
   ·rename_i ht
    subst ht
    cases e
    refine ⟨.inr ⟨rfl, rfl⟩, fun q hq => ?_⟩
    rcases hq with hq | ⟨_, rfl⟩
    ·cases hg : Zbu t fd with
     | none => exact absurd hq (h.n t hg q)
     | some r =>
      have h1 := (h.s t r hg).2 q hq
      have e1 : lkM t fd = r := by unfold lkM; rw [hg]; rfl
      have e2 : inM t fd = true := by unfold inM; rw [hg]; rfl
      rw [e1, e2] at hc
      have hc : lxB p r = true := by simpa using hc
      cases hx : lxB q p with
      | false => rfl
      | true => rw [ZqL hx hc] at h1; cases h1
    ·exact Zp5 _
   ·rename_i ht
    obtain ⟨a, b⟩ := h.s t' q e
    refine ⟨.inl a, fun q' hq => ?_⟩
    rcases hq with hq | ⟨rfl, _⟩
    ·exact b q' hq
    ·exact absurd rfl ht
  ·rw [ZbM] at e
   split at e
   ·cases e
   ·rename_i ht
    rcases hq with hq | ⟨rfl, _⟩
    ·exact h.n t' e q hq
    ·exact ht rfl
 ·rename_i hc
  have hc : inM t fd = true ∧ lxB p (lkM t fd) = false := by
   cases h1 : inM t fd <;> cases h2 : lxB p (lkM t fd) <;> simp [h1, h2] at hc ⊢
  refine ⟨fun t' q e => ?_, fun t' e q hq => ?_, h.nd⟩
  ·obtain ⟨a, b⟩ := h.s t' q e
   refine ⟨.inl a, fun q' hq => ?_⟩
   rcases hq with hq | ⟨rfl, rfl⟩
   ·exact b q' hq
   ·have e1 : lkM t' fd = q := by unfold lkM; rw [e]; rfl
    rw [e1] at hc
    exact hc.2
  ·rcases hq with hq | ⟨rfl, _⟩
   ·exact h.n t' e q hq
   ·have := hc.1
    unfold inM at this
    rw [e] at this
    cases this
def inF (s : Scm) (best : List (ByteArray × List Int)) (n : ByteArray) (r : List (ByteArray × List Int)) (f : Fld) : List (ByteArray × List Int) := if (inM f.type.name best || !toF s f) = true then r else Zuq r f.type.name (lkM n best ++ [f.num])
def fdF (s : Scm) (best : List (ByteArray × List Int)) (row : List ByteArray) : List (ByteArray × List Int) := row.foldl (fun r n => (Zbm s n).foldl (inF s best n) r) []
def CdP (s : Scm) (best : List (ByteArray × List Int)) (n : ByteArray) (l : List Fld) (t : ByteArray) (q : List Int) : Prop := ∃ f ∈ l, inM f.type.name best = false ∧ toF s f = true ∧ t = f.type.name ∧ q = lkM n best ++ [f.num]
theorem Zrn {s : Scm} {best : List (ByteArray × List Int)} {n : ByteArray} : ∀ (l : List Fld) {C : ByteArray → List Int → Prop} {r : List (ByteArray × List Int)}, FOk C r → FOk (fun t q => C t q ∨ CdP s best n l t q) (l.foldl (inF s best n) r)
 | [], C, r, h => h.congr fun t q => by simp [CdP]
 | f :: l, C, r, h => by
  rw [Yal]
  by_cases hc : (inM f.type.name best || !toF s f) = true
  ·have e : inF s best n r f = r := by unfold inF; rw [if_pos hc]
   rw [e]
   refine (Zrn l h).congr fun t q => or_congr Iff.rfl ⟨fun ⟨g, hg, a⟩ => ⟨g, Yt _ hg, a⟩, fun ⟨g, hg, a, b, c⟩ => ?_⟩
   rcases Yr.1 hg with rfl | hg
   ·rw [a, b] at hc; cases hc
   ·exact ⟨g, hg, a, b, c⟩
  ·have e : inF s best n r f = Zuq r f.type.name (lkM n best ++ [f.num]) := by unfold inF; rw [if_neg hc]
   have hc : inM f.type.name best = false ∧ toF s f = true := by
    cases h1 : inM f.type.name best <;> cases h2 : toF s f <;> simp [h1, h2] at hc ⊢
   rw [e]
   refine (Zrn l (h.put f.type.name (lkM n best ++ [f.num]))).congr fun t q => ?_
   rw [or_assoc]
   refine or_congr Iff.rfl ⟨?_, fun ⟨g, hg, a⟩ => ?_⟩
   ·rintro (⟨rfl, rfl⟩ | ⟨g, hg, a⟩)
    ·exact ⟨f, Yv .., hc.1, hc.2, rfl, rfl⟩
    ·exact ⟨g, Yt _ hg, a⟩
   ·rcases Yr.1 hg with rfl | hg
    ·exact .inl a.2.2
    ·exact .inr ⟨g, hg, a⟩
theorem Zsh (s : Scm) (best : List (ByteArray × List Int)) (row : List ByteArray) : FOk (fun t q => ∃ n ∈ row, CdP s best n (Zbm s n) t q) (fdF s best row) := by
 have : ∀ (row : List ByteArray) {C : ByteArray → List Int → Prop} {r : List (ByteArray × List Int)}, FOk C r → FOk (fun t q => C t q ∨ ∃ n ∈ row, CdP s best n (Zbm s n) t q) (row.foldl (fun r n => (Zbm s n).foldl (inF s best n) r) r) := fun row => by
  induction row with
  | nil => intro C r h; exact h.congr fun t q => by simp
  | cons n row ih =>
   intro C r h
   rw [Yal]
   refine (ih (Zrn (s := s) (best := best) (n := n) (Zbm s n) h)).congr fun t q => ?_
   simp only [Yr, exists_eq_or_imp, or_assoc]
 refine (this row (C := fun _ _ => False) (r := []) ⟨fun t p e => (by cases e), fun t _ q => id, by simp [Zbx]⟩).congr fun t q => by simp
structure MgOk (best fd : List (ByteArray × List Int)) (y : List ByteArray × List (ByteArray × List Int)) : Prop where
 o : y.1.Perm (Zbx fd)
 g : ∀ t, Zbu t y.2 = (Zbu t fd).or (Zbu t best)
 nd : (Zbx y.2).Nodup
 l : y.2.length = best.length + fd.length
section
variable {s : Scm} {w : Web} (hw : WOk s w) (h : Fw s)
include hw h
theorem m42 (row : List ByteArray) (best : List (ByteArray × List Int)) (hr : row.length ≤ 1000) (hb : ∀ n, (lkM n best).length ≤ 1000) (hnd : (Zbx best).Nodup) (hfl : (fdF s best row).length ≤ 1000) : Zfa (Za1 w row best) (MgOk best (fdF s best row)) := by
 have q1 : Zfa (Zdn (ZjX w row best) big (0, [])) fun o => o = .inl (fdF s best row) := by
  refine ZcS (B := ZjX w row best) (fun k v => k + v.1 = row.length ∧ v.2 = fdF s best (row.take v.1)) _ (fun k v hI => ?_) big row.length (0, []) (Zbl (by omega)) ⟨rfl, rfl⟩
  obtain ⟨i, r⟩ := v
  obtain ⟨i1, i2⟩ := hI
  simp only at i1 i2
  subst i2
  cases hk : row[i]? with
  | none =>
   have hge := Y2.1 hk
   dsimp only [ZjX, Zir, Zjh, ZiS, br, ix, vz, vw, vs, lc, wa, mlk, lnN, Zku, eqL]
   rw [show decide ((i : Int) < (row.length : Int)) = false from decide_eq_false (by omega)]
   exact ZaT (by rw [Yaa hge])
  | some n =>
   obtain ⟨g0, hgi⟩ := Yg.1 hk
   have g1 := Zfb hk
   have g2 : i + 1 < 9223372036854775808 := by omega
   have e := hw.fl n
   have hf10 := h.fl n
   have hbn := hb n
   dsimp only [ZjX, Zir, Zjh, ZiS, br, ix, vz, vw, vs, lc, wa, mlk, lnN, Zku, eqL]
   simp only [g1, hk, decide_true, if_true, Option.bind_some]
   refine Zck (Q := fun o => o = .inl ((Zbm s n).foldl (inF s best n) (fdF s best (row.take i)))) ?_ fun o ho => ?_
   ·refine ZcS (B := ZjB w row best i n (lkM n w.messages)) (fun k v => k + v.1 = (Zbm s n).length ∧ v.2 = ((Zbm s n).take v.1).foldl (inF s best n) (fdF s best (row.take i))) _ (fun k v hJ => ?_) big (Zbm s n).length (0, fdF s best (row.take i)) (Zbl (by omega)) ⟨rfl, rfl⟩
    obtain ⟨j, r⟩ := v
    obtain ⟨j1, jj⟩ := hJ
    simp only at j1 jj
    subst jj
    cases hj : (Zbm s n)[j]? with
    | none =>
     have hge := Y2.1 hj
     dsimp only [ZjB, Zjk, Zio, Zjj, Zob, ZsY, ZoK, ZsE, ZhQ, ZmF, Zn2, Zel, Zpf, br, ix, vz, vw, vs, lc, lxc, ap, clg, wa, mlk, mpu, lnN, Zku, tw, ch, fl, fz]
     rw [e, show decide ((j : Int) < ((Zbm s n).length : Int)) = false from decide_eq_false (by omega)]
     exact ZaT (by rw [Yaa hge])
    | some f =>
     obtain ⟨j0, hje⟩ := Yg.1 hj
     have jl := Zfb hj
     have j2 : j + 1 < 9223372036854775808 := by omega
     have htk : ((Zbm s n).take (j + 1)).foldl (inF s best n) (fdF s best (row.take i)) = inF s best n (((Zbm s n).take j).foldl (inF s best n) (fdF s best (row.take i))) f := by
      rw [YG j0, YaM, hje]; rfl
     obtain ⟨r, hr'⟩ : ∃ r, r = ((Zbm s n).take j).foldl (inF s best n) (fdF s best (row.take i)) := ⟨_, rfl⟩
     rw [← hr'] at htk ⊢
     have g3 : (lkM n best).length < 549755813887 := by omega
     have g4 : (lkM n best).length < 549755813888 := by omega
     obtain ⟨c, ec, kc⟩ := m64 (lkM n best ++ [f.num]) (lkM f.type.name r) (by rw [Ym, Yab]; omega)
     have hB : ZjB w row best i n (lkM n w.messages) (j, r) = some [.nx (j + 1, inF s best n r f)] := by
      dsimp only [ZjB, Zjk, Zio, Zjj, Zob, ZsY, ZoK, ZsE, ZhQ, ZmF, Zn2, Zel, Zpf, br, ix, vz, vw, vs, lc, lxc, ap, clg, wa, mlk, mpu, lnN, Zku, tw, ch, fl, fz]
      simp only [e, jl, hj, m62 hw, m63 _ g4, ec, kc, g3, j2, decide_true, if_true, Option.bind_some, Option.isSome_some, implies_true, Y6]
      unfold inF Zuq
      split
      ·rfl
      ·split <;> rfl
     rw [hB]
     refine ZaT ⟨k - 1, by omega, by simp only; omega, ?_⟩
     simp only
     rw [htk]
   ·subst ho
    simp only [Ya0, g2, if_true]
    refine ZaT ⟨k - 1, by omega, by simp only; omega, ?_⟩
    simp only
    unfold fdF
    rw [YG g0, YaM, hgi]
    rfl
 obtain ⟨fd, hfd⟩ : ∃ fd, fd = fdF s best row := ⟨_, rfl⟩
 have ok := Zsh s best row
 rw [← hfd] at q1 hfl ok ⊢
 have hdis : ∀ t ∈ Zbx fd, inM t best = false := fun t ht => by
  obtain ⟨p, hp⟩ := YH.1 ((ZcA t fd).1 ht)
  obtain ⟨n, _, f, _, a, _, c, _⟩ := (ok.s t p hp).1
  rw [c]; exact a
 have q2 : Zfa (Zdn Zj4 big ([], best, fd)) fun o => Sum.elim (fun v : (List (ByteArray × List Int)) × List ByteArray => MgOk best fd (v.2, v.1)) (fun _ => False) o := by
  refine ZcS (B := Zj4) (fun k v => k = v.2.2.length ∧ (v.1 ++ Zbx v.2.2).Perm (Zbx fd) ∧ (∀ t, Zbu t v.2.1 = if Zkt v.1 t = true then Zbu t fd else Zbu t best) ∧ (Zbx v.2.1).Nodup ∧ v.2.1.length + v.2.2.length = best.length + fd.length ∧ ∀ x ∈ v.2.2, x ∈ fd) _ (fun k v hI => ?_) big fd.length ([], best, fd) (Zbl (by omega)) ⟨rfl, .refl _, fun t => by simp [Zkt], hnd, rfl, fun x hx => hx⟩
  obtain ⟨a, b, c⟩ := v
  obtain ⟨i1, i2, i3, i4, i5, i6⟩ := hI
  simp only at i1 i2 i3 i4 i5 i6
  have hal : a.length ≤ 1000 := by
   have := i2.length_eq
   simp only [Ym, Zbx, Yp] at this
   omega
  unfold Zj4
  simp only
  unfold ZiL
  refine ZsC (fun e => ?_) fun j x hx => ?_
  ·subst e
   have hp : a.Perm (Zbx fd) := by simpa [Zbx] using i2
   refine ZaT ⟨hp, fun t => ?_, i4, by simpa using i5⟩
   simp only
   rw [i3]
   split
   ·rename_i ht
    have := (ZcA t fd).1 (hp.mem_iff.1 (ZbB.1 ht))
    cases hg : Zbu t fd with
    | none => rw [hg] at this; cases this
    | some p => rfl
   ·rename_i ht
    have : Zbu t fd = none := by
     cases hg : Zbu t fd with
     | none => rfl
     | some p => exact absurd (ZbB.2 (hp.mem_iff.2 ((ZcA t fd).2 (by rw [hg]; rfl)))) ht
    rw [this]; rfl
  ·have hlt := (Yg.1 hx).1
   have hxm : x ∈ fd := i6 x (Yw hx)
   have hxk : x.1 ∈ Zbx fd := Yq.2 ⟨x, hxm, rfl⟩
   have hxa : x.1 ∉ a := fun hc => by
    have hnd2 := i2.nodup_iff.2 ok.nd
    rw [Ybf] at hnd2
    exact hnd2.2.2 x.1 hc x.1 (Yq.2 ⟨x, Yw hx, rfl⟩) rfl
   have hgx : Zbu x.1 fd = some x.2 := Zl4 ok.nd hxm
   have hnb : x.1 ∉ Zbx b := fun hc => by
    have := (ZcA x.1 b).1 hc
    rw [i3, if_neg fun q => hxa (ZbB.1 q)] at this
    have h2 := hdis x.1 hxk
    unfold inM at h2
    rw [this] at h2; cases h2
   have g3 : a.length < 549755813887 := by omega
   dsimp only [Zj4, ZiL, vz, vw, ap, mpu, nxN, lnN, Zku, vwr, fl]
   simp only [g3, if_true]
   refine ZaT ⟨(c.eraseIdx j).length, by rw [Ybd hlt]; omega, rfl, ?_, fun t => ?_, Zmv _ _ i4, ?_, fun y hy => i6 y (List.mem_of_mem_eraseIdx hy)⟩
   ·refine .trans ?_ i2
    rw [YR]
    have hpm : (x.1 :: Zbx (c.eraseIdx j)).Perm (Zbx c) := (Zfs hx).map (fun p : ByteArray × List Int => p.1)
    exact List.Perm.append_left _ hpm
   ·simp only
    rw [ZbM, i3]
    by_cases e : x.1 = t
    ·subst e
     have : Zkt (a ++ [x.1]) x.1 = true := ZbB.2 (by simp)
     simp [hgx, this]
    ·have e2 : Zkt (a ++ [x.1]) t = Zkt a t := by rw [Bool.eq_iff_iff, ZbB, ZbB]; simp [show ¬ t = x.1 from fun q => e q.symm]
     simp [e, e2]
   ·have : (Zb2 x.1 x.2 b).length = b.length + 1 := by
     have e : ∀ r : List (ByteArray × List Int), r.length = (Zbx r).length := fun r => (Yp _).symm
     rw [e, e b]
     rcases Zgb x.1 x.2 b with ⟨q, _⟩ | ⟨_, q⟩
     ·exact absurd q hnb
     ·rw [q]; simp
    simp only
    rw [this, Ybd hlt]
    omega
 dsimp only [Za1, ZmG, Zmk, ZkH, Zk4, ZlV, ZlQ, vz, vw, lc, lrN, fl, fr, eqL]
 refine Zck q1 fun o ho => ?_
 subst ho
 simp only [Ya0]
 refine Zck q2 fun o ho => ?_
 cases o with
 | inr _ => exact ho.elim
 | inl v => exact ZaT ho
end
inductive Wk (s : Scm) (a : ByteArray) : List Int → ByteArray → Prop
 | nil : Wk s a [] a
 | snoc {p : List Int} {b : ByteArray} {f : Fld} : Wk s a p b → f ∈ Zbm s b → toF s f = true → Wk s a (p ++ [f.num]) f.type.name
theorem ZnN {α : Type} {p q : List α} {x y : α} (h : p ++ [x] = q ++ [y]) : p = q ∧ x = y := by
 have := List.append_inj' h rfl
 exact ⟨this.1, by simpa using this.2⟩
theorem Wk.inv {s : Scm} {a t : ByteArray} {p : List Int} (h : Wk s a p t) : (p = [] ∧ t = a) ∨ ∃ q b f, p = q ++ [f.num] ∧ Wk s a q b ∧ f ∈ Zbm s b ∧ toF s f = true ∧ t = f.type.name := by
 cases h with
 | nil => exact .inl ⟨rfl, rfl⟩
 | snoc h1 h2 h3 => exact .inr ⟨_, _, _, rfl, h1, h2, h3, rfl⟩
theorem Wk.isM {s : Scm} {a t : ByteArray} {p : List Int} (h : Wk s a p t) (ha : Go.Eng.isM s a = true) : Go.Eng.isM s t = true := by
 cases h with
 | nil => exact ha
 | snoc _ _ h3 => unfold toF at h3; exact (Yaf.1 h3).1
theorem Wk.cut {s : Scm} {a t : ByteArray} {q : List Int} (h : Wk s a q t) : ∀ k, k ≤ q.length → ∃ q1 q2 n, q = q1 ++ q2 ∧ q1.length = k ∧ Wk s a q1 n ∧ ∀ p, Wk s a p n → Wk s a (p ++ q2) t := by
 induction h with
 | nil => intro k hk; exact ⟨[], [], a, rfl, by simp at hk; simp [hk], .nil, fun p hp => by simpa using hp⟩
 | snoc h1 h2 h3 ih =>
  rename_i p b f
  intro k hk
  rw [Ym, Yab] at hk
  by_cases he : k = p.length + 1
  ·exact ⟨p ++ [f.num], [], _, by simp, by simp [he], .snoc h1 h2 h3, fun r hr => by simpa using hr⟩
  ·obtain ⟨q1, q2, n, e1, e2, e3, e4⟩ := ih k (by omega)
   exact ⟨q1, q2 ++ [f.num], n, by rw [e1, YR], e2, e3, fun r hr => by rw [← YR]; exact .snoc (e4 r hr) h2 h3⟩
structure Best (s : Scm) (a t : ByteArray) (p : List Int) : Prop where
 w : Wk s a p t
 l : ∀ q, Wk s a q t → p.length ≤ q.length ∧ (p.length = q.length → lxB q p = false)
theorem Best.uniq {s : Scm} {a t : ByteArray} {p q : List Int} (h : Best s a t p) (k : Best s a t q) : p = q := by
 obtain ⟨h1, h2⟩ := h.l q k.w
 obtain ⟨k1, k2⟩ := k.l p h.w
 exact ZmH (k2 (by omega)) (h2 (by omega))
structure BOk (s : Scm) (a : ByteArray) (k : Nat) (r : List (ByteArray × List Int)) : Prop where
 sm : ∀ t p, Zbu t r = some p → Best s a t p ∧ p.length ≤ k
 n : ∀ t, Zbu t r = none → ∀ q, Wk s a q t → k < q.length
 nd : (Zbx r).Nodup
theorem BOk.lk {s : Scm} {a : ByteArray} {k : Nat} {r : List (ByteArray × List Int)} (h : BOk s a k r) (n : ByteArray) : (lkM n r).length ≤ k := by
 unfold lkM
 cases hg : Zbu n r with
 | none => simp [Mv.z]
 | some p => exact (h.sm n p hg).2
theorem BOk.len {s : Scm} (hs : Fw s) {a : ByteArray} (ha : isM s a = true) {k : Nat} {r : List (ByteArray × List Int)} (h : BOk s a k r) : r.length ≤ s.messages.length := by
 have := ZeF h.nd (r := nmM s) fun x hx => Zdi.1 (by
  obtain ⟨p, hp⟩ := YH.1 ((ZcA x r).1 hx)
  exact (h.sm x p hp).1.w.isM ha)
 simp only [Zbx, nmM, Yp] at this
 exact this
theorem BOk.next {s : Scm} {a : ByteArray} {k : Nat} {r : List (ByteArray × List Int)} (h : BOk s a k r) {row : List ByteArray} (hrow : ∀ t, t ∈ row ↔ ∃ p, Zbu t r = some p ∧ p.length = k) {y : List ByteArray × List (ByteArray × List Int)} (hy : MgOk r (fdF s r row) y) :
  BOk s a (k + 1) y.2 ∧ ∀ t, t ∈ y.1 ↔ ∃ p, Zbu t y.2 = some p ∧ p.length = k + 1 := by
 have ok := Zsh s r row
 have hcd : ∀ t q, (∃ n ∈ row, CdP s r n (Zbm s n) t q) → Zbu t r = none ∧ Wk s a q t ∧ q.length = k + 1 := fun t q ⟨n, hn, f, hf, h1, h2, h3, h4⟩ => by
  obtain ⟨p, hp, hpl⟩ := (hrow n).1 hn
  have e : lkM n r = p := by unfold lkM; rw [hp]; rfl
  subst h3
  rw [e] at h4
  subst h4
  refine ⟨?_, .snoc (h.sm n p hp).1.w hf h2, by simp [hpl]⟩
  unfold inM at h1
  cases hg : Zbu f.type.name r with
  | none => rfl
  | some x => rw [hg] at h1; cases h1
 have hway : ∀ t q, Zbu t r = none → Wk s a q t → q.length = k + 1 → ∃ c, (∃ n ∈ row, CdP s r n (Zbm s n) t c) ∧ lxB q c = false := fun t q hn hq hl => by
  rcases hq.inv with ⟨rfl, _⟩ | ⟨q0, b, f, rfl, h1, h2, h3, rfl⟩
  ·simp at hl
  ·rw [Ym, Yab] at hl
   cases hb : Zbu b r with
   | none => have := h.n b hb q0 h1; omega
   | some p0 =>
    obtain ⟨hb1, hb2⟩ := h.sm b p0 hb
    obtain ⟨hb3, hb4⟩ := hb1.l q0 h1
    have hpl : p0.length = k := by
     have := h.n _ hn (p0 ++ [f.num]) (.snoc hb1.w h2 h3)
     rw [Ym, Yab] at this
     omega
    refine ⟨p0 ++ [f.num], ⟨b, (hrow b).2 ⟨p0, hb, hpl⟩, f, h2, ?_, h3, rfl, ?_⟩, ?_⟩
    ·unfold inM; rw [hn]; rfl
    ·unfold lkM; rw [hb]; rfl
    ·rw [Znk (by omega), hb4 (by omega)]
     simp
 refine ⟨⟨fun t p e => ?_, fun t e q hq => ?_, hy.nd⟩, fun t => ?_⟩
 ·rw [hy.g] at e
  cases hf : Zbu t (fdF s r row) with
  | some p' =>
   rw [hf] at e
   have e : p' = p := by simpa using e
   subst e
   obtain ⟨c1, c2⟩ := ok.s t p' hf
   obtain ⟨d1, d2, d3⟩ := hcd t p' c1
   refine ⟨⟨d2, fun q hq => ?_⟩, by omega⟩
   have hlt := h.n t d1 q hq
   refine ⟨by omega, fun hl => ?_⟩
   obtain ⟨c, hc, hle⟩ := hway t q d1 hq (by omega)
   exact Zxo (c2 c hc) hle
  | none =>
   rw [hf] at e
   have e : Zbu t r = some p := by simpa using e
   exact ⟨(h.sm t p e).1, by have := (h.sm t p e).2; omega⟩
 ·rw [hy.g] at e
  cases hf : Zbu t (fdF s r row) with
  | some p' => rw [hf] at e; cases e
  | none =>
   rw [hf] at e
   have e : Zbu t r = none := by simpa using e
   have hlt := h.n t e q hq
   by_cases hl : q.length = k + 1
   ·obtain ⟨c, hc, _⟩ := hway t q e hq hl
    exact absurd hc (ok.n t hf c)
   ·omega
 ·rw [hy.o.mem_iff, ZcA, hy.g]
  constructor
  ·intro hs
   obtain ⟨p, hp⟩ := YH.1 hs
   exact ⟨p, by rw [hp]; rfl, (hcd t p (ok.s t p hp).1).2.2⟩
  ·rintro ⟨p, hp, hl⟩
   cases hf : Zbu t (fdF s r row) with
   | some p' => rfl
   | none =>
    rw [hf] at hp
    have hp : Zbu t r = some p := by simpa using hp
    have := (h.sm t p hp).2
    omega
theorem BOk.stop {s : Scm} {a : ByteArray} {k : Nat} {r : List (ByteArray × List Int)} (h : BOk s a k r) (hrow : ∀ t p, Zbu t r = some p → p.length ≠ k) {t : ByteArray} (ht : Zbu t r = none) : ∀ (m : Nat) (q : List Int), q.length ≤ m → ¬ Wk s a q t
 | 0, q, hm, hq => by have := h.n t ht q hq; omega
 | m + 1, q, hm, hq => by
  have hk := h.n t ht q hq
  obtain ⟨q1, q2, n, rfl, e2, e3, e4⟩ := hq.cut k (by omega)
  cases hn : Zbu n r with
  | none => have := h.n n hn q1 e3; omega
  | some p =>
   obtain ⟨p1, p2⟩ := h.sm n p hn
   have := hrow n p hn
   refine h.stop hrow ht m (p ++ q2) ?_ (e4 p p1.w)
   rw [Ym] at hm ⊢
   omega
def Zgy (s : Scm) (a b : ByteArray) (y : List Int × Int) : Prop := (∃ p, y = (p, 0) ∧ isM s a = true ∧ isM s b = true ∧ Best s a b p ∧ p.length < s.messages.length) ∨ (y = ([], 10) ∧ ¬ (isM s a = true ∧ isM s b = true ∧ ∃ p, Wk s a p b))
theorem Zgy.uniq {s : Scm} {a b : ByteArray} {y z : List Int × Int} (h : Zgy s a b y) (k : Zgy s a b z) : y = z := by
 rcases h with ⟨p, rfl, h1, h2, h3, _⟩ | ⟨rfl, h1⟩
 ·rcases k with ⟨q, rfl, _, _, k3, _⟩ | ⟨rfl, k1⟩
  ·rw [h3.uniq k3]
  ·exact absurd ⟨h1, h2, p, h3.w⟩ k1
 ·rcases k with ⟨q, rfl, k1, k2, k3, _⟩ | ⟨rfl, k1⟩
  ·exact absurd ⟨k1, k2, q, k3.w⟩ h1
  ·rfl
theorem Zq7 {β : Type} [DecidableEq β] {M : Option (List β)} {Q : β → Prop} (h : Zfa M Q) (k : ∀ a b, Q a → Q b → a = b) : ∃ y, Zs7 M = some y ∧ Q y := by
 obtain ⟨ys, a, b, c⟩ := h
 cases ys with
 | nil => exact absurd rfl b
 | cons y r => exact ⟨y, ZsZ a b fun z hz => k z y (c z hz) (c y (Yv ..)), c y (Yv ..)⟩
theorem Zpz {s : Scm} (hs : Fw s) (best : List (ByteArray × List Int)) (row : List ByteArray) : (fdF s best row).length ≤ 8 := by
 have ok := Zsh s best row
 have := ZeF ok.nd (r := nmM s) fun x hx => Zdi.1 (by
  obtain ⟨p, hp⟩ := YH.1 ((ZcA x _).1 hx)
  obtain ⟨n, _, f, _, _, b, c, _⟩ := (ok.s x p hp).1
  rw [c]
  unfold toF at b
  exact (Yaf.1 b).1)
 have h8 := hs.m
 simp only [Zbx, nmM, Yp] at this
 omega
theorem n16 {s : Scm} (h : Fw s) (a b : ByteArray) : ∃ y, ZdS s a b = some y ∧ Zgy s a b y := by
 refine Zq7 ?_ fun y z => Zgy.uniq
 have h8 := h.m
 obtain ⟨w, hw⟩ : ∃ w, w = Zxc s := ⟨_, rfl⟩
 have ok : WOk s w := hw ▸ ZqR s
 dsimp only [ZcM, ZqU, ZrB, ZrH, br, vw, lc, cl, mlk, mpu, lrN]
 simp only [m32 h, Option.bind_some, ← hw, ok.im]
 cases ha : isM s a with
 | false => exact ZaT (.inr ⟨rfl, fun q => by rw [ha] at q; cases q.1⟩)
 | true =>
  cases hb : isM s b with
  | false => exact ZaT (.inr ⟨rfl, fun q => by rw [hb] at q; cases q.2.1⟩)
  | true =>
   have q1 : Zfa (Zdn (Zkk b w) big ([a], Zb2 a [] [])) fun o => Sum.elim (fun _ => Zgy s a b ([], 10)) (Zgy s a b) o := by
    refine ZcS (B := Zkk b w) (fun m v => ∃ k, BOk s a k v.2 ∧ (∀ t, t ∈ v.1 ↔ ∃ p, Zbu t v.2 = some p ∧ p.length = k) ∧ v.1.length ≤ 8 ∧ (v.1 ≠ [] → k < v.2.length) ∧ (v.1 = [] → Zbu b v.2 = none) ∧ m = (10 - v.2.length) * 2 + min v.1.length 1) _ (fun m v hI => ?_) big 19 ([a], Zb2 a [] []) (Zbl (by decide)) ⟨0, ?_, ?_, by simp, fun _ => by simp [Zb2], fun q => (by simp at q), by simp [Zb2]⟩
    ·obtain ⟨row, r⟩ := v
     obtain ⟨k, i1, i2, i3, i4, i5, i6⟩ := hI
     simp only at i1 i2 i3 i4 i5 i6
     have hrl := i1.len h ha
     by_cases hr : row = []
     ·subst hr
      have hnb := i5 rfl
      dsimp only [Zkk, ZoV, Zn6, ZoZ, Zoy, br, vz, vw, lc, mlk, Zxn, lnN, Zku, eqL]
      refine ZaT (.inr ⟨rfl, fun ⟨_, _, p, hp⟩ => ?_⟩)
      exact i1.stop (fun t p e hl => by have := (i2 t).2 ⟨p, e, hl⟩; cases this) hnb p.length p (Ye _) hp
     ·have hpos : 0 < row.length := YaD.2 hr
      have g0 : (0 : Int) < (row.length : Int) := by omega
      have i4 := i4 hr
      dsimp only [Zkk, ZoV, Zn6, ZoZ, Zoy, br, vz, vw, lc, mlk, Zxn, lnN, Zku, eqL]
      simp only [g0, decide_true, if_true]
      cases hgb : Zbu b r with
      | some p =>
       have e1 : inM b r = true := by unfold inM; rw [hgb]; rfl
       have e2 : lkM b r = p := by unfold lkM; rw [hgb]; rfl
       obtain ⟨p1, p2⟩ := i1.sm b p hgb
       simp only [e1, e2, if_true]
       exact ZaT (.inl ⟨p, rfl, ha, hb, p1, by omega⟩)
      | none =>
       have e1 : inM b r = false := by unfold inM; rw [hgb]; rfl
       simp only [e1, Yaj, if_false]
       refine Zck (m42 ok h row r (by omega) (fun n => Yac (i1.lk n) (by omega)) i1.nd (by have := Zpz h r row; omega)) fun y hy => ?_
       obtain ⟨j1, j2⟩ := i1.next i2 hy
       have hyl := j1.len h ha
       have hl := hy.l
       have hol : y.1.length = (fdF s r row).length := by
        have := hy.o.length_eq
        simpa [Zbx] using this
       refine ZaT ⟨(10 - y.2.length) * 2 + min y.1.length 1, ?_, k + 1, j1, j2, (by have := Zpz h r row; show y.1.length ≤ 8; omega), fun q => ?_, fun q => ?_, rfl⟩
       ·omega
       ·have := YaD.2 (show y.1 ≠ [] from q)
        show k + 1 < y.2.length
        omega
       ·rw [hy.g, hgb]
        have : (fdF s r row) = [] := YD (by rw [← hol, q]; rfl)
        rw [this]; rfl
    ·refine ⟨fun t p e => ?_, fun t e q hq => ?_, by simp [Zb2, Zbx]⟩
     ·simp only [ZbM] at e
      split at e
      ·rename_i e2; subst e2; cases e
       exact ⟨⟨.nil, fun q hq => ⟨Nat.zero_le _, fun hl => by
        have : q = [] := YD hl.symm
        subst this; rfl⟩⟩, Ye _⟩
      ·cases e
     ·simp only [ZbM] at e
      split at e
      ·cases e
      ·rename_i e2
       rcases hq.inv with ⟨rfl, rfl⟩ | ⟨q0, _, f, rfl, _⟩
       ·exact absurd rfl e2
       ·simp
    ·intro t
     simp only [YO, ZbM]
     constructor
     ·rintro rfl; exact ⟨[], by simp, rfl⟩
     ·rintro ⟨p, e, _⟩
      split at e
      ·rename_i e2; exact e2.symm
      ·cases e
   simp only [Ybc, Ybb, Yaj, if_false]
   refine Zck q1 fun o ho => ?_
   cases o with
   | inl u => exact ZaT ho
   | inr z => exact ZaT ho
theorem Zov {s : Scm} {n x : ByteArray} (h : x ∈ ZbO s n) : ∃ f ∈ Zbm s n, toF s f = true ∧ f.type.name = x := by
 unfold ZbO at h
 obtain ⟨f, hf, rfl⟩ := Yq.1 h
 obtain ⟨a, b⟩ := YJ.1 hf
 exact ⟨f, a, b, rfl⟩
theorem ZnD {s : Scm} {n : ByteArray} {f : Fld} (hf : f ∈ Zbm s n) (ht : toF s f = true) : f.type.name ∈ ZbO s n := Yq.2 ⟨f, YJ.2 ⟨hf, ht⟩, rfl⟩
end Go.Proofs.Ythhipejbnbochaa
