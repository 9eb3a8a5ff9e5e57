import Derived.Test.YthhipejbnbochaaCt21
import Derived.Test.YthhipejbnbochaaCt20
import Derived.Test.YthhipejbnbochaaCt00
namespace Go.Proofs.Ythhipejbnbochaa
set_option linter.all false
open Go Go.Eng
section
variable {s : Scm} (h : Fw s)
include h
theorem m19 (f : Fld) : Za4 s f = some (if ldF s f = true then (f.type.name, true) else (⟨#[]⟩, false)) := by
 have e1 := ZuE s f.type.name
 have e2 := Zva s f.type.name
 have hne : ¬ (10 : Int) = 9 := by decide
 unfold ldF toF
 dsimp only [Za4, ZsT, br, vw, lr, cl]
 simp only [m18 h, m46 h, Option.bind_some, e1, e2]
 by_cases h1 : f.type.kind = 10
 ·simp only [h1, hne, decide_true, decide_false, if_true, if_false, Bool.and_true, Bool.false_and, YaZ]
  cases isM s f.type.name <;> simp
 ·by_cases h2 : f.type.kind = 9
  ·simp only [h1, h2, decide_true, decide_false, if_true, if_false, YbE, Bool.true_and, Ya0]
   cases isE s f.type.name <;> simp
  ·simp [h1, h2]
omit h in
theorem Zjm {α β : Type} (p : α → Bool) (g : α → β) (l : List α) : l.filterMap (fun x => if p x = true then some (g x) else none) = (l.filter p).map g := by
 induction l with
 | nil => rfl
 | cons x l ih =>
  rw [List.filterMap_cons, List.filter_cons, ih]
  cases p x <;> rfl
theorem ZvW (f : Fld) : (ldF s f && decide (f.type.kind = 10)) = toF s f := by
 unfold ldF toF
 by_cases h1 : f.type.kind = 10
 ·simp [h1]
 ·simp [h1]
theorem m61 (n : ByteArray) : Zbd s n = some (ZgF (Za7 s n)) := by
 have hl := h.fl n
 have e := ZqJ s n
 have q1 := Zex (B := ZmO s (ZfJ s n)) (Zdd s n) (fun f => if toF s f = true then some f.type.name else none) [] (by simp; omega) (fun i b x hx hb g2 g1 => by
  have g0 := (Yb.1 hx).1
  have e3 : (Zdd s n).getD i Rw.z = x := by rw [Yu, hx]; rfl
  have e4 := ZvW h x
  dsimp only [ZmO, Zo6, br, ix, ixg, vz, vw, vs, v2, ln, lxe, cl, wa, eqL]
  simp only [e, g1, g2, hx, m19 h, decide_true, if_true, Option.bind_some, Ybq, e3]
  rw [← e4]
  cases hq : ldF s x with
  | true =>
   by_cases h2 : x.type.kind = 10
   ·simp [m53 hb, h2, g0]
   ·simp [h2, g0]
  | false => simp) (fun b => by dsimp only [ZmO, Zo6, br, ix, ixg, vz, vw, vs, v2, ln, lxe, cl, wa, eqL]; simp [e])
 rw [Zjm] at q1
 dsimp only [Zbd, Zrr, Zrh, ZtI, Zq2, vz, vw, lr, lc, cl, fz]
 simp only [m18 h, Option.bind_some, q1, Sum.elim_inl]
 rw [Zf1]
 rfl
def Zod (s : Scm) (v : List ByteArray) : List ByteArray := v.foldl (fun a y => (ZgF (Za7 s y)).foldl ZbT a) v
omit h in
theorem ZnV (g : ByteArray → List ByteArray) : ∀ (v a : List ByteArray), (Asc a → Asc (v.foldl (fun a y => (g y).foldl ZbT a) a)) ∧ ∀ x, x ∈ v.foldl (fun a y => (g y).foldl ZbT a) a ↔ x ∈ a ∨ ∃ y ∈ v, x ∈ g y
 | [], a => ⟨id, fun x => by simp⟩
 | y :: v, a => by
  obtain ⟨p, q⟩ := ZnV g v ((g y).foldl ZbT a)
  refine ⟨fun ha => p (ZiW ha), fun x => ?_⟩
  rw [Yak, q, Zjt]
  simp only [Yo, exists_eq_or_imp, or_assoc, or_left_comm]
theorem ZxP (v : List ByteArray) (hv : v.length ≤ 8) : ZaE (ZjK s v) big (v, 0) = some (.inl (Zod s v)) := by
 have := Zhd (B := ZjK s v) (N := big) v (fun i b => (b, i)) (fun i b => b.length ≤ 8 + i * 10) (fun b y => (.inl ((ZgF (Za7 s y)).foldl ZbT b) : List ByteArray ⊕ List ByteArray)) id (fun i b y hy hI => by
  have g1 := Zdr hy
  have g0 := (Yb.1 hy).1
  have g2 : i + 1 < 9223372036854775808 := by omega
  have h1 := ZiL (ZgF (Za7 s y)) b
  have h2 := Ziq (Za7 s y)
  have h3 := h.nl y
  have q := Zex (B := Zl0 s v i (ZgF (Za7 s y))) (ZgF (Za7 s y)) some b (by omega) (fun j c x hx hc g4 g3 => by
   dsimp only [Zl0, Zpl, br, ix, vz, vs, ln, lxe, cl, wa, eqL]
   simp only [g3, g4, hx, m53 hc, decide_true, if_true, Option.bind_some, Option.elim_some]) (fun c => by dsimp only [Zl0, Zpl, br, ix, vz, vs, ln, lxe, cl, wa, eqL]; simp)
  rw [List.filterMap_some] at q
  refine ⟨?_, fun b' e => by cases e; omega⟩
  dsimp only [ZjK, Zp0, ZoQ, Zog, br, ix, vz, vs, ln, lxe, lc, cl, wa, eqL]
  simp only [g1, g2, hy, m61 h, q, decide_true, if_true, Option.bind_some, Sum.elim_inl]) (fun b _ => by dsimp only [ZjK, Zp0, ZoQ, Zog, br, ix, vz, vs, ln, lxe, lc, cl, wa, eqL]; simp) v (by omega) (ZaZ (by omega))
 rw [this, ZeH (fun b y => (ZgF (Za7 s y)).foldl ZbT b) (fun _ _ => rfl)]
 rfl
end
structure AOk (s : Scm) (ns : List ByteArray) (l : List ByteArray) : Prop where
 a : Asc l
 m : ∀ x, x ∈ l ↔ (x ∈ ns ∧ isM s x = true) ∨ ∃ y ∈ ns, isM s y = true ∧ Rch s y x
theorem AOk.len {s : Scm} (h : Fw s) {ns l : List ByteArray} (k : AOk s ns l) : l.length ≤ 8 := by
 have := ZcU (ZcV k.a) (r := nmM s) fun x hx => Zcg.1 (by
  rcases (k.m x).1 hx with ⟨_, q⟩ | ⟨y, _, _, q⟩
  ·exact q
  ·exact q.isM)
 have h2 := h.m
 unfold nmM at this
 rw [Yk] at this
 omega
theorem Zwk {l r : List ByteArray} (hl : l.Nodup) (hs : ∀ x ∈ l, x ∈ r) (hn : r.length ≤ l.length) (hr : r.Nodup) : ∀ x ∈ r, x ∈ l := fun x hx => by
 apply YaO
 intro hc
 have := ZcU (l := x :: l) (r := r) (Ybf.2 ⟨hc, hl⟩) fun y hy => by
  rcases Yo.1 hy with rfl | hy
  ·exact hx
  ·exact hs y hy
 simp at this
 omega
theorem m55 {s : Scm} (h : Fw s) (ns : List ByteArray) (hn : ns.length ≤ 1000) : ∃ l, Zbi s ns = some l ∧ AOk s ns l := by
 have q1 := Zex (B := Zld s ns) ns (fun x => if isM s x = true then some x else none) [] (by simp; omega) (fun i b x hx hb g2 g1 => by
  dsimp only [Zld, ZpC, ZoU, ZoR, Zey, ZpS, br, ix, vz, vw, vs, v2, ln, lxe, lc, cl, wa, du, eqL]
  simp only [g1, g2, hx, m18 h, Zqr, decide_true, if_true, Option.bind_some]
  cases isM s x with
  | true => simp [m53 hb]
  | false => simp) (fun b => by dsimp only [Zld, ZpC, ZoU, ZoR, Zey, ZpS, br, ix, vz, vw, vs, v2, ln, lxe, lc, cl, wa, du, eqL]; simp)
 have e0 : ns.filterMap (fun x => if isM s x = true then some x else none) = ns.filter (isM s) := by
  have := Zjm (isM s) (fun x : ByteArray => x) ns
  rwa [List.map_id'] at this
 rw [e0, Zf1] at q1
 obtain ⟨v0, hv0⟩ : ∃ v0, v0 = ZgF (ns.filter (isM s)) := ⟨_, rfl⟩
 rw [← hv0] at q1
 have a0 : Asc v0 := hv0 ▸ ZiA _
 have mem0 : ∀ x, x ∈ v0 ↔ x ∈ ns ∧ isM s x = true := fun x => by rw [hv0, Zet, YH]
 have hnm : (nmM s).length ≤ 8 := by unfold nmM; rw [Yk]; exact h.m
 have q2 := Zbk (B := Zlu s) (I := fun k v => Asc v.1 ∧ (∀ x ∈ v0, x ∈ v.1) ∧ (∀ x ∈ v.1, x ∈ v0 ∨ ∃ y ∈ v0, Rch s y x) ∧ (v.2 = false → ∀ y ∈ v.1, ∀ x ∈ Za7 s y, x ∈ v.1) ∧ (v.2 = true → k + v.1.length = 10) ∧ (v.2 = false → k = 0)) (Q := fun o => Sum.elim (fun l => AOk s ns l) (fun _ => False) o) (fun k v hI => by
  obtain ⟨v, ag⟩ := v
  obtain ⟨i1, i2, i3, i4, i5, i6⟩ := hI
  simp only at i1 i2 i3 i4 i5 i6
  have hM : ∀ x ∈ v, isM s x = true := fun x hx => by
   rcases i3 x hx with q | ⟨y, _, q⟩
   ·exact ((mem0 x).1 q).2
   ·exact q.isM
  have hv8 : v.length ≤ 8 := Y0 (ZcU (ZcV i1) fun x hx => Zcg.1 (hM x hx)) hnm
  cases ag with
  | false =>
   refine ⟨.ex v, by dsimp only [Zlu, Zjg, Zjx, ZiM, Zjo, br, vz, ln, lxe, lc, eqL]; simp, i1, fun x => ⟨fun hx => ?_, fun hx => ?_⟩⟩
   ·rcases i3 x hx with q | ⟨y, hy, q⟩
    ·exact .inl ((mem0 x).1 q)
    ·exact .inr ⟨y, ((mem0 y).1 hy).1, ((mem0 y).1 hy).2, q⟩
   ·have hcl : ∀ y ∈ v, ∀ x, Rch s y x → x ∈ v := fun y hy x hr => by
     induction hr with
     | one q => exact i4 rfl y hy _ q
     | tl _ q ih => exact i4 rfl _ ih _ q
    rcases hx with q | ⟨y, hy, hm, q⟩
    ·exact i2 x ((mem0 x).2 q)
    ·exact hcl y (i2 y ((mem0 y).2 ⟨hy, hm⟩)) x q
  | true =>
   have q3 := ZxP h v hv8
   obtain ⟨g1, g2⟩ := ZnV (fun y => ZgF (Za7 s y)) v v
   have g1 : Asc (Zod s v) := g1 i1
   have g2 : ∀ x, x ∈ Zod s v ↔ x ∈ v ∨ ∃ y ∈ v, x ∈ Za7 s y := fun x => by
    have := g2 x
    simp only [Zet] at this
    exact this
   have hR : ∀ x ∈ Zod s v, x ∈ v0 ∨ ∃ y ∈ v0, Rch s y x := fun x hx => by
    rcases (g2 x).1 hx with q | ⟨y, hy, q⟩
    ·exact i3 x q
    ·rcases i3 y hy with p | ⟨z, hz, p⟩
     ·exact .inr ⟨y, p, .one q⟩
     ·exact .inr ⟨z, hz, .tl p q⟩
   have hr8 : (Zod s v).length ≤ 8 := Y0 (ZcU (ZcV g1) fun x hx => Zcg.1 (by
    rcases hR x hx with q | ⟨y, _, q⟩
    ·exact ((mem0 x).1 q).2
    ·exact q.isM)) hnm
   have hge : v.length ≤ (Zod s v).length := ZcU (ZcV i1) fun x hx => (g2 x).2 (.inl hx)
   have i5 := i5 rfl
   refine ⟨.nx (Zod s v, decide ((v.length : Int) < ((Zod s v).length : Int))), by dsimp only [Zlu, Zjg, Zjx, ZiM, Zjo, br, vz, ln, lxe, lc, eqL]; simp [q3], if v.length < (Zod s v).length then 10 - (Zod s v).length else 0, by split <;> omega, g1, fun x hx => (g2 x).2 (.inl (i2 x hx)), hR, fun hf y hy x hx => ?_, fun hf => ?_, fun hf => ?_⟩
   ·have hlt := of_decide_eq_false hf
    have hall := Zwk (ZcV i1) (fun x hx => (g2 x).2 (.inl hx)) (by omega) (ZcV g1)
    exact (g2 x).2 (.inr ⟨y, hall y hy, hx⟩)
   ·have := of_decide_eq_true hf
    rw [if_pos (by omega)]
    simp only
    omega
   ·have := of_decide_eq_false hf
    rw [if_neg (by omega)]) big (10 - v0.length) (v0, true) (ZaZ (by omega)) ⟨a0, fun x hx => hx, fun x hx => .inl hx, fun q => (by cases q), fun _ => (by
   have := Y0 (ZcU (ZcV a0) fun x hx => Zcg.1 ((mem0 x).1 hx).2) hnm
   simp only
   omega), fun q => (by cases q)⟩
 obtain ⟨o, e, hq⟩ := q2
 cases o with
 | inr _ => exact hq.elim
 | inl l =>
  refine ⟨l, ?_, hq⟩
  dsimp only [Zbi, Zmg, Zk1, ZlG, Zne, ZlR, vz, vw, lr, lc, fz]
  simp only [q1, e, Option.bind_some, Sum.elim_inl]
section
variable {s : Scm} (h : Fw s)
include h
theorem m49 (a b : ByteArray) : ∃ v, ZaT s a b = some v ∧ (v = true ↔ Rch s a b) := by
 obtain ⟨l, e, k⟩ := m55 h (ZgF (Za7 s a)) (by have := Ziq (Za7 s a); have := h.nl a; omega)
 refine ⟨ZhM l b, ?_, ?_⟩
 ·dsimp only [ZaT, ZwK, vw, lr, cl]
  simp only [m61 h, e, Option.bind_some, m27 (l := l) (by have := k.len h; omega)]
 ·rw [Zby, k.m]
  simp only [Zet]
  constructor
  ·rintro (⟨q, _⟩ | ⟨y, q, _, r⟩)
   ·exact .one q
   ·exact .hd q r
  ·intro hr
   have : ∀ {x}, Rch s a x → x ∈ Za7 s a ∨ ∃ y ∈ Za7 s a, Rch s y x := fun {x} hr => by
    induction hr with
    | one q => exact .inl q
    | tl _ q ih =>
     rcases ih with p | ⟨y, p, r⟩
     ·exact .inr ⟨_, p, .one q⟩
     ·exact .inr ⟨y, p, .tl r q⟩
   rcases this hr with q | ⟨y, q, r⟩
   ·exact .inl ⟨q, hr.isM⟩
   ·exact .inr ⟨y, q, Zep q, r⟩
structure ClOk (s : Scm) (ns : List ByteArray) (l : List ByteArray) : Prop where
 a : Asc l
 m : ∀ x, x ∈ l ↔ (x ∈ ns ∧ (isM s x = true ∨ isE s x = true)) ∨ ∃ n ∈ ns, isM s n = true ∧ (x ∈ Zt6 s n ∨ ∃ y, Rch s n y ∧ x ∈ Zt6 s y)
end
end Go.Proofs.Ythhipejbnbochaa
namespace Go.Proofs.Ythhipejbnbochaa
set_option linter.all false
open Go Go.Eng
set_option maxRecDepth 100000 in
theorem awk : Zbw = some true := by kernel_rfl
theorem ZnL {s : Scm} {n x : ByteArray} (h : x ∈ Zt6 s n) : isM s x = true ∨ isE s x = true := by
 unfold Zt6 at h
 obtain ⟨f, hf, rfl⟩ := Yq.1 h
 have := (YH.1 hf).2
 unfold ldF toF at this
 rcases Bool.or_eq_true_iff.1 this with q | q
 ·exact .inl (Yay.1 q).1
 ·exact .inr (Yay.1 q).2
theorem ZjF {s : Scm} {n x : ByteArray} (h : x ∈ Zt6 s n) (he : isE s x = false) : x ∈ Za7 s n := by
 unfold Zt6 at h
 unfold Za7
 obtain ⟨f, hf, rfl⟩ := Yq.1 h
 obtain ⟨a, b⟩ := YH.1 hf
 refine Yq.2 ⟨f, YH.2 ⟨a, ?_⟩, rfl⟩
 unfold ldF at b
 rw [he, YbE, YaZ] at b
 exact b
theorem ClOk.uniq {s : Scm} {ns l r : List ByteArray} (h : ClOk s ns l) (k : ClOk s ns r) : l = r := Zqw h.a k.a fun x => (h.m x).trans (k.m x).symm
theorem ClOk.defd {s : Scm} {ns l : List ByteArray} (h : ClOk s ns l) {x : ByteArray} (hx : x ∈ l) : isM s x = true ∨ isE s x = true := by
 rcases (h.m x).1 hx with ⟨_, q⟩ | ⟨n, _, _, q | ⟨y, _, q⟩⟩
 ·exact q
 ·exact ZnL q
 ·exact ZnL q
theorem ClOk.len {s : Scm} (hs : Fw s) {ns l : List ByteArray} (h : ClOk s ns l) : l.length ≤ 16 := by
 have := ZcU (ZcV h.a) (r := nmM s ++ s.enums.map Enm.name) fun x hx => by
  rcases h.defd hx with q | q
  ·exact YS _ (Zcg.1 q)
  ·exact Yaq _ (Ztu.1 q)
 have h1 := hs.m
 have h2 := hs.e
 simp only [nmM, List.length_append, Yk] at this
 omega
theorem m11 (s : Scm) (hm : s.messages.length ≤ 1048576) : ∃ b, Zbg s = some b ∧ (b = true → Fw s) := by
 dsimp only [Zbg, Zrp, Zq3, ZqP, br, vz, vy, vw, lr, lc, eqL]
 by_cases h1 : (8 : Int) < (s.messages.length : Int)
 ·exact ⟨false, by simp [h1], fun q => by cases q⟩
 ·by_cases h2 : (8 : Int) < (s.enums.length : Int)
  ·exact ⟨false, by simp [h2], fun q => by cases q⟩
  ·have q1 := Zbk (B := Zkv s) (I := fun k i => k + i = s.messages.length ∧ ∀ m ∈ s.messages.take i, m.fields.length ≤ 10) (Q := fun o => Sum.elim (fun _ => ∀ m ∈ s.messages, m.fields.length ≤ 10) (fun b => b = false) o) (fun k i hI => by
    obtain ⟨i1, i2⟩ := hI
    cases hk : s.messages[i]? with
    | none =>
     have := YL.1 hk
     rw [Y7 this] at i2
     exact ⟨.ex (), by dsimp only [Zkv, Znf, br, ix, vz, vw, vs, lrt, ln, lxe, wa, eqL]; simp [show ¬ (i : Int) < (s.messages.length : Int) by omega], i2⟩
    | some x =>
     have g1 := Zdr hk
     obtain ⟨g0, rfl⟩ := Yb.1 hk
     have g2 : i + 1 < 9223372036854775808 := by omega
     by_cases hf : (10 : Int) < (s.messages[i].fields.length : Int)
     ·exact ⟨.rt false, by dsimp only [Zkv, Znf, br, ix, vz, vw, vs, lrt, ln, lxe, wa, eqL]; simp [g0, hk, hf], rfl⟩
     ·refine ⟨.nx (i + 1), by dsimp only [Zkv, Znf, br, ix, vz, vw, vs, lrt, ln, lxe, wa, eqL]; simp [g0, g2, hk, hf], k - 1, by omega, by omega, fun m hmm => ?_⟩
      rw [Y4 g0] at hmm
      rcases YO.1 hmm with q | q
      ·exact i2 m q
      ·rw [YT.1 q]; omega) big s.messages.length 0 (ZaZ (by omega)) ⟨rfl, by simp⟩
   obtain ⟨o, e, hq⟩ := q1
   cases o with
   | inl u => exact ⟨true, by simp [h1, h2, e], fun _ => ⟨by omega, by omega, hq⟩⟩
   | inr b => exact ⟨b, by simp [h1, h2, e], fun q => by have : b = false := hq; rw [this] at q; cases q⟩
theorem Zsh {s : Scm} (h : bkL (Zb0 s) ≤ 1048576) : s.messages.length ≤ 1048576 := by
 have := ZqO (e := Zcx) s.messages
 simp only [Zb0, bkL, bk] at h
 omega
def rB (s : Scm) (a b : ByteArray) : Bool := (ZaT s a b).getD false
def eqB (s : Scm) (a b : ByteArray) : Bool := decide (a = b) || (rB s a b && rB s b a)
def hdB (g : List ByteArray) : ByteArray := g.headD ⟨#[]⟩
theorem Zrl {g : List ByteArray} (h : g ≠ []) : hdB g ∈ g := by
 cases g with
 | nil => exact absurd rfl h
 | cons a t => exact Yt ..
theorem Znd {g r : List ByteArray} (h : g ≠ []) : hdB (g ++ r) = hdB g := by
 cases g with
 | nil => exact absurd rfl h
 | cons a t => rfl
section
variable {s : Scm} (h : Fw s)
include h
theorem ZiV (a b : ByteArray) : rB s a b = true ↔ Rch s a b := by
 obtain ⟨v, e, k⟩ := m49 h a b
 unfold rB
 rw [e]
 exact k
theorem ZdY {a b : ByteArray} : eqB s a b = true ↔ a = b ∨ (Rch s a b ∧ Rch s b a) := by
 unfold eqB
 simp [ZiV h]
omit h in
theorem ZiS (a : ByteArray) : eqB s a a = true := by simp [eqB]
theorem Zc3 {a b : ByteArray} (k : eqB s a b = true) : eqB s b a = true := by
 rw [ZdY h] at k ⊢
 rcases k with rfl | k
 ·exact .inl rfl
 ·exact .inr ⟨k.2, k.1⟩
theorem Zct {a b c : ByteArray} (k : eqB s a b = true) (k' : eqB s b c = true) : eqB s a c = true := by
 rw [ZdY h] at k k' ⊢
 rcases k with rfl | k
 ·exact k'
 ·rcases k' with rfl | k'
  ·exact .inr k
  ·exact .inr ⟨k.1.trans k'.1, k'.2.trans k.2⟩
theorem ZlW {a b : ByteArray} (k : eqB s a b = true) (x : ByteArray) : eqB s a x = eqB s b x := by
 rw [YbC]
 exact ⟨fun q => Zct h (Zc3 h k) q, fun q => Zct h k q⟩
end
structure Gps (s : Scm) (p : List ByteArray) (l : List (List ByteArray)) : Prop where
 n : ∀ g ∈ l, g ≠ []
 f : ∀ g ∈ l, g = p.filter (eqB s (hdB g))
 c : ∀ x ∈ p, ∃ g ∈ l, x ∈ g
 a : Asc (l.map hdB)
theorem Zis {p : List ByteArray} {n : ByteArray} : Asc (p ++ [n]) ↔ Asc p ∧ ∀ x ∈ p, sLt x n = true := by
 unfold Asc
 rw [Ybg]
 simp
theorem Zwp {l : List ByteArray} (h : Asc l) {i j : Nat} {x : ByteArray} (hi : l[i]? = some x) (hj : l[j]? = some x) : i = j := by
 obtain ⟨h1, e1⟩ := Yb.1 hi
 obtain ⟨h2, e2⟩ := Yb.1 hj
 rcases Yaw i j with q | q | q
 ·have := Y8.1 h i j h1 h2 q
  rw [e1, e2, ZdS] at this; cases this
 ·exact q
 ·have := Y8.1 h j i h2 h1 q
  rw [e1, e2, ZdS] at this; cases this
theorem Gps.mem {s : Scm} {p : List ByteArray} {l : List (List ByteArray)} (k : Gps s p l) {g : List ByteArray} (hg : g ∈ l) (x : ByteArray) : x ∈ g ↔ x ∈ p ∧ eqB s (hdB g) x = true := by
 conv => lhs; rw [k.f g hg]
 exact YH
theorem Gps.hd {s : Scm} {p : List ByteArray} {l : List (List ByteArray)} (k : Gps s p l) {g : List ByteArray} (hg : g ∈ l) : hdB g ∈ p := ((k.mem hg _).1 (Zrl (k.n g hg))).1
theorem Gps.uniq {s : Scm} (h : Fw s) {p : List ByteArray} {l : List (List ByteArray)} (k : Gps s p l) {g g' : List ByteArray} (hg : g ∈ l) (hg' : g' ∈ l) (e : eqB s (hdB g) (hdB g') = true) : g = g' := by
 rw [k.f g hg, k.f g' hg']
 exact congrArg (fun q => p.filter q) (funext fun x => ZlW h e x)
theorem Gps.len {s : Scm} {p : List ByteArray} {l : List (List ByteArray)} (k : Gps s p l) : l.length ≤ p.length := by
 have := ZcU (ZcV k.a) (r := p) fun x hx => by
  obtain ⟨g, hg, rfl⟩ := Yq.1 hx
  exact k.hd hg
 rwa [Yk] at this
theorem Gps.nil (s : Scm) : Gps s [] [] := ⟨by simp, by simp, by simp, List.Pairwise.nil⟩
theorem Gps.new {s : Scm} (h : Fw s) {p : List ByteArray} {l : List (List ByteArray)} (k : Gps s p l) {n : ByteArray} (ha : Asc (p ++ [n])) (hn : ∀ g ∈ l, (rB s (hdB g) n && rB s n (hdB g)) = false) : Gps s (p ++ [n]) (l ++ [[n]]) := by
 obtain ⟨a1, a2⟩ := Zis.1 ha
 have nn : n ∉ p := fun q => by have := a2 n q; rw [ZdS] at this; cases this
 have ne : ∀ g ∈ l, eqB s (hdB g) n = false := fun g hg => by
  unfold eqB
  rw [hn g hg, YaZ, decide_eq_false_iff_not]
  exact fun e => nn (e ▸ k.hd hg)
 refine ⟨fun g hg => ?_, fun g hg => ?_, fun x hx => ?_, ?_⟩
 ·rcases YO.1 hg with hg | hg
  ·exact k.n g hg
  ·rw [YT.1 hg]; simp
 ·rcases YO.1 hg with hg | hg
  ·rw [YaF, ← k.f g hg]
   simp [ne g hg]
  ·rw [YT.1 hg, YaF]
   have e1 : p.filter (eqB s (hdB [n])) = [] := by
    rw [YaX]
    intro x hx q
    obtain ⟨g, hg, hxg⟩ := k.c x hx
    have q1 := ((k.mem hg x).1 hxg).2
    have q2 := Zct h q1 (Zc3 h q)
    rw [show hdB [n] = n from rfl, ne g hg] at q2
    cases q2
   rw [e1]
   simp [hdB, ZiS]
 ·rcases YO.1 hx with hx | hx
  ·obtain ⟨g, hg, q⟩ := k.c x hx
   exact ⟨g, YS _ hg, q⟩
  ·exact ⟨[n], by simp, hx⟩
 ·rw [YaM]
  refine Zis.2 ⟨k.a, fun x hx => ?_⟩
  obtain ⟨g, hg, rfl⟩ := Yq.1 hx
  exact a2 _ (k.hd hg)
theorem ZtW {l : List (List ByteArray)} {i : Nat} {g g' : List ByteArray} (hi : l[i]? = some g) (e : hdB g' = hdB g) : (l.set i g').map hdB = l.map hdB := by
 apply List.ext_getElem?
 intro j
 rw [Ys, Ys, Yax]
 split
 ·rename_i q
  subst q
  rw [hi]
  have := (Yb.1 hi).1
  simp [this, e]
 ·rfl
theorem Gps.put {s : Scm} (h : Fw s) {p : List ByteArray} {l : List (List ByteArray)} (k : Gps s p l) {n : ByteArray} (ha : Asc (p ++ [n])) {i : Nat} {g : List ByteArray} (hi : l[i]? = some g) (hn : (rB s (hdB g) n && rB s n (hdB g)) = true) : Gps s (p ++ [n]) (l.set i (g ++ [n])) := by
 have hg := Yj hi
 have hne := k.n g hg
 have e1 : eqB s (hdB g) n = true := by unfold eqB; rw [hn, Bool.or_true]
 have at_ : ∀ g' ∈ l.set i (g ++ [n]), g' = g ++ [n] ∨ (g' ∈ l ∧ eqB s (hdB g') n = false) := fun g' hg' => by
  obtain ⟨j, hj⟩ := YB.1 hg'
  rw [Yax] at hj
  split at hj
  ·split at hj
   ·cases hj; exact .inl rfl
   ·cases hj
  ·rename_i hij
   have hgl := Yj hj
   refine .inr ⟨hgl, ?_⟩
   cases q : eqB s (hdB g') n with
   | false => rfl
   | true =>
    exfalso
    have := k.uniq h hgl hg (Zct h q (Zc3 h e1))
    subst this
    exact hij (Zwp k.a (by rw [Ys, hi]; rfl) (by rw [Ys, hj]; rfl))
 refine ⟨fun g' hg' => ?_, fun g' hg' => ?_, fun x hx => ?_, ?_⟩
 ·rcases at_ g' hg' with rfl | ⟨q, _⟩
  ·simp
  ·exact k.n g' q
 ·rcases at_ g' hg' with rfl | ⟨q, q'⟩
  ·rw [Znd hne, YaF, ← k.f g hg]
   simp [e1]
  ·rw [YaF, ← k.f g' q]
   simp [q']
 ·have hil := (Yb.1 hi).1
  have hin : g ++ [n] ∈ l.set i (g ++ [n]) := YB.2 ⟨i, by simp [hil]⟩
  rcases YO.1 hx with hx | hx
  ·obtain ⟨g', hg', q⟩ := k.c x hx
   obtain ⟨j, hj⟩ := YB.1 hg'
   by_cases hij : i = j
   ·subst hij
    rw [hi] at hj
    cases hj
    exact ⟨_, hin, YS _ q⟩
   ·exact ⟨g', YB.2 ⟨j, by rw [Yax, if_neg hij]; exact hj⟩, q⟩
  ·exact ⟨_, hin, Yaq _ hx⟩
 ·rw [ZtW hi (Znd hne)]
  exact k.a
theorem m35 {l : List (List ByteArray)} {pf : List ByteArray → Option Bool} {q : List ByteArray → Bool} (hl : l.length ≤ 1000000) (hq : ∀ g ∈ l, pf g = some (q g)) : Zai l pf = some ((l.findIdx? q).elim (-1) fun i => (i : Int)) := by
 have q1 := ZdG (B := ZlO l pf) (N := big) l q (fun i => (i : Int)) () (fun i x hx => by
  have g1 := Zdr hx
  have g0 := (Yb.1 hx).1
  have g2 : i + 1 < 9223372036854775808 := by omega
  have e := hq x (Yj hx)
  dsimp only [ZlO, Zpd, br, ix, vs, lrt, ln, lxe, cf, wa]
  simp only [g1, g2, hx, e, decide_true, if_true, Option.bind_some]
  cases q x <;> simp) (by simp [ZlO, Zpd, br, ix, vs, lrt, ln, lxe, cf, wa]) (ZaZ (by omega))
 dsimp only [Zai, Zs0, Zrt, ZtD, vz, lr, lc, eqL]
 rw [q1]
 cases l.findIdx? q <;> rfl
theorem ZtC {V : Type} [Mv V] (x y : ByteArray) (v : V) (r : List (ByteArray × V)) : lkM y (ZbM x v r) = if x = y then v else lkM y r := by
 unfold lkM
 rw [ZbA]
 split <;> rfl
def ROs (s : Scm) (ns : List ByteArray) (r : List (ByteArray × List (ByteArray × Bool))) : Prop := ∀ n ∈ ns, ROk s n (lkM n r)
section
variable {s : Scm} {w : Web} (hw : WOk s w) (h : Fw s)
include h
theorem ROs.at {ns : List ByteArray} {r : List (ByteArray × List (ByteArray × Bool))} (k : ROs s ns r) {n : ByteArray} (hn : n ∈ ns) (x : ByteArray) : lkM x (lkM n r) = rB s n x := by
 rw [YbC, (k n hn).i, ZiV h]
theorem m36 {ns : List ByteArray} {r : List (ByteArray × List (ByteArray × Bool))} (k : ROs s ns r) {g : List ByteArray} (hg : g ≠ []) (hh : hdB g ∈ ns) {n : ByteArray} (hn : n ∈ ns) : Zaq g r n = some (rB s (hdB g) n && rB s n (hdB g)) := by
 cases g with
 | nil => exact absurd rfl hg
 | cons a t =>
  have e1 := k.at h hh n
  have e2 := k.at h hn a
  have e3 : hdB (a :: t) = a := rfl
  rw [e3] at e1 ⊢
  dsimp only [Zaq, Zr6, ix, ixg, lr, mlk, mlg]
  simp [e1, e2]
include hw
theorem Zxz : ∃ r, ZaE (Zkk w (nmW w)) big (0, []) = some (.inl r) ∧ ROs s (nmW w) r := by
 have hl8 := Zfc hw h
 have q1 := Zbk (B := Zkk w (nmW w)) (I := fun k v => k + v.1 = (nmW w).length ∧ ROs s ((nmW w).take v.1) v.2) (Q := fun o => Sum.elim (fun r => ROs s (nmW w) r) (fun _ => False) o) (fun k v hI => by
  obtain ⟨i, r⟩ := v
  obtain ⟨h1, h2⟩ := hI
  simp only at h1 h2
  cases hk : (nmW w)[i]? with
  | none =>
   have hge := YL.1 hk
   have : ¬ ((i : Int) < ((nmW w).length : Int)) := by omega
   refine ⟨.ex r, by simp [Zkk, Zpc, Zpi, Zpu, ZjI, br, ix, vw, vs, ln, lxe, lc, cl, wa, mpu, tw, this], ?_⟩
   rw [Y7 hge] at h2
   exact h2
  | some x =>
   have hlt := (Yb.1 hk).1
   have g1 := Zdr hk
   have g2 : i + 1 < 9223372036854775808 := by omega
   obtain ⟨y, e, hy⟩ := m34 hw h x
   have ex : (nmW w).getD i Rw.z = x := by rw [Yu, hk]; rfl
   refine ⟨.nx (i + 1, ZbM x y r), by
    have h7 := (Yb.1 hk).2
    simp [Zkk, Zpc, Zpi, Zpu, ZjI, br, ix, vw, vs, ln, lxe, lc, cl, wa, mpu, tw, hlt, g2, ex, e, h7], k - 1, by omega, by simp only; omega, ?_⟩
   simp only
   rw [List.take_add_one, hk]
   intro n hn
   rw [ZtC]
   split
   ·rename_i q; subst q; exact hy
   ·rename_i q
    rcases YO.1 hn with hn | hn
    ·exact h2 n hn
    ·exact absurd (by simpa using hn : n = x).symm q) big (nmW w).length (0, []) (ZaZ (by omega)) ⟨by simp, fun n hn => by simp at hn⟩
 obtain ⟨o, e, k⟩ := q1
 cases o with
 | inl r => exact ⟨r, e, k⟩
 | inr z => exact absurd k (by simp)
omit hw h in
theorem ZxT (l : List (List ByteArray)) (k : PT 0 (Lv (List (List ByteArray) × Nat) (List (List ByteArray)) (List (List ByteArray)))) (hl : l.length < 8) : (apW l k).m = k.m := by
 cases l with
 | nil => rfl
 | cons g r => show (if (g :: r).length < 8 then k.m else none) = k.m; rw [if_pos hl]
omit hw h in
theorem ZyE (r : List (ByteArray × List (ByteArray × Bool))) (l : List (List ByteArray)) : (ZxL r l).m = some (.ex l) := by
 cases l with
 | nil => rfl
 | cons g t => show (vfz 0 (g :: t) _).m = _; rw [Zup]
theorem Zxv {r : List (ByteArray × List (ByteArray × Bool))} (hr : ROs s (nmW w) r) : ∃ l, ZaE (ZoZ r (nmW w)) big ([], 0) = some (.inl l) ∧ Gps s (nmW w) l := by
 have hl8 := Zfc hw h
 have hasc := ZrJ hw (s := s)
 generalize hns : nmW w = ns at *
 have q1 := Zbk (B := ZoZ r ns) (I := fun k v => k + v.2 = ns.length ∧ Gps s (ns.take v.2) v.1) (Q := fun o => Sum.elim (fun l => Gps s ns l) (fun _ => False) o) (fun k v hI => by
  obtain ⟨l, i⟩ := v
  obtain ⟨h1, h2⟩ := hI
  simp only at h1 h2
  have hll := h2.len
  rw [YX] at hll
  have hl8' : l.length ≤ 8 := by omega
  cases hk : ns[i]? with
  | none =>
   have hge := YL.1 hk
   have hn : ¬ ((i : Int) < (ns.length : Int)) := by omega
   refine ⟨.ex l, ?_, ?_⟩
   ·show (if l.length ≤ 8 then G12 r ns l i (I12 r ns l i) else none) = _
    rw [if_pos hl8']
    unfold I12
    rw [hk]
    cases l with
    | nil =>
     show (Zbj r ns [] i).m = _
     unfold Zbj
     simp only [hn, decide_false]
     exact ZyE r []
    | cons g t =>
     show (if 0 < (g :: t).length then (Zaf r ns (g :: t) 0 i).m else none) = _
     rw [if_pos (by simp)]
     unfold Zaf
     simp only [hn, decide_false]
     exact ZyE r _
   ·rw [Y7 hge] at h2
    exact h2
  | some x =>
   have hlt := (Yb.1 hk).1
   have g1 := Zdr hk
   have g2 : i + 1 < 9223372036854775808 := by omega
   have g3 : l.length < 8 := by omega
   have hx := Yj hk
   have hsub : ∀ y ∈ ns.take i, y ∈ ns := fun y hy => Yba hy
   have eI := m35 (l := l) (pf := fun z => Zaq z r x) (q := fun g => rB s (hdB g) x && rB s x (hdB g)) (by omega) fun g hg => m36 h hr (h2.n g hg) (hsub _ (h2.hd hg)) hx
   have et : ns.take (i + 1) = ns.take i ++ [x] := by rw [List.take_add_one, hk]; rfl
   have ha : Asc (ns.take i ++ [x]) := by rw [← et]; exact hasc.sublist (List.take_sublist ..)
   have exx : ns.getD i Rw.z = x := by rw [Yu, hk]; rfl
   cases hf : l.findIdx? fun g => rB s (hdB g) x && rB s x (hdB g) with
   | none =>
    rw [hf] at eI
    have eI : Zai l (fun z => Zaq z r x) = some (-1) := eI
    refine ⟨.nx (l ++ [[x]], i + 1), ?_, k - 1, by omega, by simp only; omega, ?_⟩
    ·show (if l.length ≤ 8 then G12 r ns l i (I12 r ns l i) else none) = _
     rw [if_pos hl8']
     unfold I12
     rw [hk]
     simp only [eI, Y3]
     show (if l.length < 8 then (Zbj r ns l i).m else none) = _
     rw [if_pos g3]
     simp only [Zbj, Zfm, Zft, Zfl, Zfv, br, ix, cs, Zq7, ZxT _ _ g3, Zti, g1, g2, hlt, exx, eI, decide_true, if_true, Option.bind_some]
     rw [hk, Option.bind_some, eI, Option.bind_some, if_pos rfl, Option.bind_some]
    ·simp only
     rw [et]
     exact h2.new h ha fun g hg => by simpa using YaN.1 hf g hg
   | some j =>
    rw [hf] at eI
    have eI : Zai l (fun z => Zaq z r x) = some (j : Int) := eI
    obtain ⟨hj, hj2, _⟩ := Yaf.1 hf
    have hjg : l[j]? = some l[j] := Yc hj
    have ed : l.getD j [] = l[j] := by rw [Yu, hjg]; rfl
    have hgl : (l[j]).length ≤ 8 := by
     have := (h2.f _ (Yj hjg))
     rw [this]
     refine Y0 (Yab ..) ?_
     rw [YX]; omega
    refine ⟨.nx (l.set j (l[j] ++ [x]), i + 1), ?_, k - 1, by omega, by simp only; omega, ?_⟩
    ·show (if l.length ≤ 8 then G12 r ns l i (I12 r ns l i) else none) = _
     rw [if_pos hl8']
     unfold I12
     rw [hk]
     simp only [eI, Y3]
     show (if j < l.length then (Zaf r ns l j i).m else none) = _
     rw [if_pos hj]
     have g5 : (l[j]).length + 1 < 549755813888 := by omega
     simp only [Zaf, ZaB, ZaA, Za8, br, ix, cs, Zq7, Zti, g1, g2, hlt, hj, exx, ed, eI, decide_true, if_true, Option.bind_some]
     simp [Zq7, g2, hj, g5]
     rw [hk, Option.bind_some, eI, Option.bind_some, if_pos rfl, Option.bind_some, if_pos (by omega)]
    ·simp only
     rw [et]
     exact h2.put h ha hjg hj2) big ns.length ([], 0) (ZaZ (by omega)) ⟨by simp, by simpa using Gps.nil s⟩
 obtain ⟨o, e, k⟩ := q1
 cases o with
 | inl r => exact ⟨r, e, k⟩
 | inr z => exact absurd k (by simp)
end
def ZhB (s : Scm) (g z : List ByteArray) : Bool := !decide (hdB z = hdB g) && rB s (hdB g) (hdB z)
def Zlt (s : Scm) (l : List (List ByteArray)) (g : List ByteArray) : Bool := !l.any (ZhB s g)
def stp (s : Scm) (v : List (List ByteArray) × List (List ByteArray)) : List (List ByteArray) × List (List ByteArray) := match v.2.findIdx? (Zlt s v.2) with
 | none => v
 | some i => (v.1 ++ [v.2.getD i []], v.2.eraseIdx i)
def sts (s : Scm) (l : List (List ByteArray)) : Nat → List (List ByteArray) × List (List ByteArray)
 | 0 => ([], l)
 | k + 1 => stp s (sts s l k)
theorem ZpI {s : Scm} {l : List (List ByteArray)} {g : List ByteArray} : Zlt s l g = true ↔ ∀ z ∈ l, hdB z = hdB g ∨ rB s (hdB g) (hdB z) = false := by
 unfold Zlt ZhB
 rw [YP, List.any_eq_false]
 refine ⟨fun q z hz => ?_, fun q z hz => ?_⟩
 ·have := q z hz
  by_cases e : hdB z = hdB g
  ·exact .inl e
  ·right
   cases hr : rB s (hdB g) (hdB z) with
   | false => rfl
   | true => exact absurd (by simp [e, hr]) this
 ·rcases q z hz with e | e
  ·simp [e]
  ·simp [e]
section
variable {s : Scm} (h : Fw s) {ns : List ByteArray} {l : List (List ByteArray)} (k : Gps s ns l)
include h k
theorem ZuP {g z : List ByteArray} (hg : g ∈ l) (hz : z ∈ l) (e : hdB z = hdB g) : z = g := k.uniq h hz hg (by rw [e]; exact ZiS _)
theorem ZqR {a b c : List ByteArray} (ha : a ∈ l) (hb : b ∈ l) (hc : c ∈ l) (p : ZhB s a b = true) (q : ZhB s b c = true) : ZhB s a c = true := by
 unfold ZhB at *
 simp only [Yd, YP, decide_eq_false_iff_not, ZiV h] at *
 refine ⟨fun e => p.1 ?_, p.2.trans q.2⟩
 rw [e] at q
 have := k.uniq h ha hb ((ZdY h).2 (.inr ⟨p.2, q.2⟩))
 rw [this]
theorem Zus : ∀ L : List (List ByteArray), L ≠ [] → (∀ g ∈ L, g ∈ l) → ∃ m ∈ L, ∀ z ∈ L, ZhB s m z = false
 | [], hn, _ => absurd rfl hn
 | a :: t, _, hl => by
  have irr : ∀ g, ZhB s g g = false := fun g => by simp [ZhB]
  by_cases ht : t = []
  ·subst ht
   exact ⟨a, by simp, fun z hz => by rw [YT.1 hz]; exact irr a⟩
  ·obtain ⟨m, hm, hz⟩ := Zus t ht fun g hg => hl g (List.mem_cons_of_mem _ hg)
   cases q : ZhB s m a with
   | false =>
    refine ⟨m, List.mem_cons_of_mem _ hm, fun z hz' => ?_⟩
    rcases Yo.1 hz' with rfl | hz'
    ·exact q
    ·exact hz z hz'
   | true =>
    refine ⟨a, Yt .., fun z hz' => ?_⟩
    rcases Yo.1 hz' with rfl | hz'
    ·exact irr z
    ·cases q' : ZhB s a z with
     | false => rfl
     | true =>
      have := ZqR h k (hl m (List.mem_cons_of_mem _ hm)) (hl a (Yt ..)) (hl z (List.mem_cons_of_mem _ hz')) q q'
      rw [hz z hz'] at this; cases this
theorem Zvl {L : List (List ByteArray)} (hL : L ≠ []) (hl : ∀ g ∈ L, g ∈ l) : ∃ i, L.findIdx? (Zlt s L) = some i := by
 obtain ⟨m, hm, q⟩ := Zus h k L hL hl
 cases e : L.findIdx? (Zlt s L) with
 | some i => exact ⟨i, rfl⟩
 | none =>
  exfalso
  have := YaN.1 e m hm
  have q' : Zlt s L m = true := by
   unfold Zlt
   rw [YP, List.any_eq_false]
   exact fun z hz => by rw [q z hz]; simp
  rw [q'] at this; cases this
end
structure AInv (s : Scm) (l : List (List ByteArray)) (j : Nat) (v : List (List ByteArray) × List (List ByteArray)) : Prop where
 p : (v.1 ++ v.2).Perm l
 sb : v.2.Sublist l
 le : v.1.length = j
 o : ∀ (i : Nat) (g : List ByteArray), v.1[i]? = some g → ∀ x ∈ g, ∀ y ∈ Za7 s x, ∃ (j : Nat) (g' : List ByteArray), j ≤ i ∧ v.1[j]? = some g' ∧ y ∈ g'
section
variable {s : Scm} {w : Web} (hw : WOk s w) (h : Fw s) {l : List (List ByteArray)} (k : Gps s (nmW w) l)
include h k hw
theorem Gps.into {g g' : List ByteArray} (hg : g ∈ l) (hg' : g' ∈ l) {x y : ByteArray} (hx : x ∈ g) (hy : y ∈ g') (q : Rch s x y) : Rch s (hdB g) (hdB g') := by
 have q1 := (ZdY h).1 ((k.mem hg x).1 hx).2
 have q2 := (ZdY h).1 (Zc3 h ((k.mem hg' y).1 hy).2)
 have q3 : Rch s (hdB g) y := by
  rcases q1 with e | e
  ·rw [e]; exact q
  ·exact e.1.trans q
 rcases q2 with e | e
 ·rw [← e]; exact q3
 ·exact q3.trans e.1
theorem Zrg {v : List (List ByteArray) × List (List ByteArray)} {j : Nat} (a : AInv s l j v) {g : List ByteArray} (hg : g ∈ v.2) (hr : Zlt s v.2 g = true) {x y : ByteArray} (hx : x ∈ g) (hy : y ∈ Za7 s x) : y ∈ g ∨ ∃ g' ∈ v.1, y ∈ g' := by
 obtain ⟨g', hg', hyg⟩ := k.c y ((Zio hw y).2 (Zep hy))
 rcases YO.1 (a.p.mem_iff.2 hg') with q | q
 ·exact .inr ⟨g', q, hyg⟩
 ·left
  have hgl := a.sb.subset hg
  rcases ZpI.1 hr g' q with e | e
  ·rw [← ZuP h k hgl hg' e]; exact hyg
  ·have := (ZiV h _ _).2 (k.into hw h hgl hg' hx hyg (.one hy))
   rw [e] at this; cases this
theorem AInv.step {v : List (List ByteArray) × List (List ByteArray)} {j : Nat} (a : AInv s l j v) (hne : v.2 ≠ []) : ∃ i g, v.2.findIdx? (Zlt s v.2) = some i ∧ v.2[i]? = some g ∧ stp s v = (v.1 ++ [g], v.2.eraseIdx i) ∧ AInv s l (j + 1) (v.1 ++ [g], v.2.eraseIdx i) := by
 obtain ⟨i, hi⟩ := Zvl h k hne fun g hg => a.sb.subset hg
 obtain ⟨hj, hj2, _⟩ := Yaf.1 hi
 have hjg : v.2[i]? = some v.2[i] := Yc hj
 have ed : v.2.getD i [] = v.2[i] := by rw [Yu, hjg]; rfl
 refine ⟨i, v.2[i], hi, hjg, ?_, ?_, ?_, ?_, ?_⟩
 ·unfold stp
  rw [hi]
  simp only [ed]
 ·refine List.Perm.trans ?_ a.p
  rw [YQ]
  exact Ya8 _ (Zc4 hjg)
 ·exact (List.eraseIdx_sublist ..).trans a.sb
 ·simp [a.le]
 ·intro i' g' hi' x hx y hy
  simp only at hi' ⊢
  rw [List.getElem?_append] at hi'
  split at hi'
  ·rename_i hlt
   obtain ⟨j', g'', h1, h2, h3⟩ := a.o i' g' hi' x hx y hy
   exact ⟨j', g'', h1, by rw [Yi (Yb.1 h2).1]; exact h2, h3⟩
  ·rename_i hge
   have e0 : i' = v.1.length := by
    have := (Yb.1 hi').1
    simp at this; omega
   subst e0
   simp at hi'
   subst hi'
   rcases Zrg hw h k a (Ya4 hj) hj2 hx hy with q | ⟨g'', q1, q2⟩
   ·exact ⟨v.1.length, _, Yg _, by simp, q⟩
   ·obtain ⟨j', hj'⟩ := YB.1 q1
    have := (Yb.1 hj').1
    exact ⟨j', g'', by omega, by rw [Yi this]; exact hj', q2⟩
omit h k hw in
theorem AInv.zero (s : Scm) (l : List (List ByteArray)) : AInv s l 0 ([], l) := ⟨by simp, List.Sublist.refl _, rfl, fun i g hi => by simp at hi⟩
omit h k hw in
theorem AInv.len {v : List (List ByteArray) × List (List ByteArray)} {j : Nat} (a : AInv s l j v) : j + v.2.length = l.length := by
 have := a.p.length_eq
 rw [List.length_append, a.le] at this
 exact this
theorem Zno : ∀ j, j ≤ l.length → AInv s l j (sts s l j)
 | 0, _ => AInv.zero s l
 | j + 1, hj => by
  have a := Zno j (by omega)
  have hne : (sts s l j).2 ≠ [] := fun e => by
   have := a.len
   rw [e] at this; simp at this; omega
  obtain ⟨i, g, _, _, e, q⟩ := a.step hw h k hne
  show AInv s l (j + 1) (stp s (sts s l j))
  rw [e]; exact q
end
def Zo2 (s : Scm) (l : List (List ByteArray)) : List (List ByteArray) := (sts s l l.length).1
section
variable {s : Scm} {w : Web} (hw : WOk s w) (h : Fw s) {r : List (ByteArray × List (ByteArray × Bool))} (hr : ROs s (nmW w) r)
include h hr
theorem m59 {g z : List ByteArray} (hg : g ≠ []) (hz : z ≠ []) (hh : hdB g ∈ nmW w) : Zau z g r = some (ZhB s g z) := by
 cases g with
 | nil => exact absurd rfl hg
 | cons a t =>
  cases z with
  | nil => exact absurd rfl hz
  | cons b u =>
   have e1 := hr.at h hh b
   have e2 : hdB (a :: t) = a := rfl
   have e3 : hdB (b :: u) = b := rfl
   rw [e2] at e1
   unfold ZhB
   rw [e2, e3]
   dsimp only [Zau, ZsM, ix, ixg, vw, lr, mlg]
   simp [e1]
theorem m57 {L : List (List ByteArray)} {g : List ByteArray} (hg : g ≠ []) (hL : ∀ z ∈ L, z ≠ []) (hl : L.length ≤ 1000000) (hh : hdB g ∈ nmW w) : ZaF g L r = some (Zlt s L g) := by
 have e := m35 (l := L) (pf := fun z => Zau z g r) (q := ZhB s g) hl fun z hz => m59 h hr hg (hL z hz) hh
 have e2 : ZaP L (fun z => Zau z g r) = some (L.any (ZhB s g)) := by
  dsimp only [ZaP, ZqW, lr, cs]
  rw [e, ← Zeo]
  cases L.findIdx? (ZhB s g) <;> simp
 dsimp only [ZaF, ZqY, lr, cs]
 rw [e2]
 rfl
include hw
theorem m37 {l : List (List ByteArray)} (k : Gps s (nmW w) l) : Zbs l r = some (Zo2 s l, []) := by
 have hl8 : l.length ≤ 8 := Y0 k.len (Zfc hw h)
 have q1 := Zbk (B := ZnD r) (I := fun c v => v.2.length = c ∧ ∃ j, v = sts s l j ∧ AInv s l j v) (Q := fun o => o = .inl ([], Zo2 s l)) (fun c v hI => by
  obtain ⟨r1, r2⟩ := v
  obtain ⟨h1, j, hj, a⟩ := hI
  simp only at h1
  have hlen := a.len
  simp only at hlen
  by_cases hne : r2 = []
  ·subst hne
   have ej : j = l.length := by simpa using hlen
   subst ej
   refine ⟨.ex ([], r1), by simp [ZnD, ZpD, Zox, ZoW, Zpw, br, vz, vw, vs, ln, lxe, lc, ap, cs, wi, iri, ca, fl, eqN], ?_⟩
   have : Zo2 s l = r1 := by unfold Zo2; rw [← hj]
   rw [this]
  ·obtain ⟨i, g, e1, e2, e3, b⟩ := a.step hw h k hne
   simp only at e1 e2 e3 b
   have hi := (Yb.1 e2).1
   have hi7 := (Yb.1 e2).2
   have hpos : (0 : Int) < (r2.length : Int) := by omega
   have ed : r2.getD i Rw.z = g := by rw [Yu, e2]; rfl
   have hsub : ∀ z ∈ r2, z ∈ l := fun z hz => a.sb.subset hz
   have eI : Zai r2 (fun z => ZaF z r2 r) = some (i : Int) := by
    rw [m35 (l := r2) (q := Zlt s r2) (by omega) fun z hz => m57 h hr (k.n z (hsub z hz)) (fun y hy => k.n y (hsub y hy)) (by omega) (k.hd (hsub z hz)), e1]
    rfl
   have eD : Zeu r2 (i : Int) ((i : Int) + 1) = some (r2.eraseIdx i) := by
    unfold Zeu
    rw [if_pos (by omega)]
    have : ((i : Int) + 1).toNat = i + 1 := by omega
    rw [this, Ybq, List.eraseIdx_eq_take_drop_succ]
   have hr1 : r1.length ≤ 8 := by have := a.le; simp only at this; omega
   refine ⟨.nx (r1 ++ [g], r2.eraseIdx i), ?_, c - 1, ?_, ?_, j + 1, ?_, b⟩
   ·have g1 : (i : Int) < r2.length := by omega
    have g2 : (-9223372036854775808 : Int) ≤ (i : Int) + 1 ∧ (i : Int) + 1 < 9223372036854775808 := by omega
    have g3 : r1.length < 549755813887 := by omega
    simp only [ZnD, ZpD, Zox, ZoW, Zpw, br, vz, vw, vs, ln, lxe, lc, ap, cs, wi, iri, ca, fl, eqN, hpos, eI, decide_true, if_true, Option.bind_some]
    simp [hi, hi7, g1, g2, g3, ed, eD, e2]
    try omega
   ·omega
   ·simp only
    rw [Yau hi]; omega
   ·show _ = stp s (sts s l j)
    rw [← hj, e3]) big l.length ([], l) (ZaZ (by omega)) ⟨rfl, 0, rfl, AInv.zero s l⟩
 obtain ⟨o, e, k1⟩ := q1
 subst k1
 dsimp only [Zbs, Zs9, ZrU, Zsi, vz, vw, lr, lc, fl, fr]
 rw [e]
 rfl
end
theorem m12 {s : Scm} (h : Fw s) : ∃ l, Zck s = some (Zo2 s l) ∧ Gps s (nmW (Zwe s)) l := by
 have hw := ZhI s
 obtain ⟨r, e1, hr⟩ := Zxz hw h
 obtain ⟨l, e2, k⟩ := Zxv hw h hr
 refine ⟨l, ?_, k⟩
 have e3 := m37 hw h hr k
 dsimp only [Zck, Zlh, Zmj, ZmH, Zls, Zni, ZmR, ZkY, ZmN, ZnT, vz, vw, lr, lc, cl, fl, eqL]
 simp only [m32 h, n33 hw h, e1, e2, e3, Option.bind_some, Sum.elim_inl]
theorem ClOk.self {s : Scm} {ns l : List ByteArray} (k : ClOk s ns l) (hs : ∀ n, isM s n = true → isE s n = false) : ClOk s l l := by
 refine ⟨k.a, fun x => ⟨fun hx => .inl ⟨hx, k.defd hx⟩, ?_⟩⟩
 rintro (⟨hx, _⟩ | ⟨n, hn, hm, q⟩)
 ·exact hx
 ·
  have he := hs n hm
  have key : ∀ n0, (n0 ∈ ns ∧ isM s n0 = true) → (n = n0 ∨ Rch s n0 n) → x ∈ l := fun n0 ⟨h1, h2⟩ h3 => by
   refine (k.m x).2 (.inr ⟨n0, h1, h2, ?_⟩)
   rcases h3 with rfl | h3
   ·exact q
   ·rcases q with q | ⟨y, q, q2⟩
    ·exact .inr ⟨n, h3, q⟩
    ·exact .inr ⟨y, h3.trans q, q2⟩
  rcases (k.m n).1 hn with ⟨h1, _⟩ | ⟨n0, h1, h2, h3 | ⟨y, h3, h4⟩⟩
  ·exact key n ⟨h1, hm⟩ (.inl rfl)
  ·exact key n0 ⟨h1, h2⟩ (.inr (.one (ZjF h3 he)))
  ·exact key n0 ⟨h1, h2⟩ (.inr (.tl h3 (ZjF h4 he)))
def lxB : List Int → List Int → Bool
 | [], [] => false
 | [], _ :: _ => true
 | _ :: _, [] => false
 | a :: p, b :: q => decide (a < b) || (decide (a = b) && lxB p q)
theorem ZmD (a b : Int) (p q : List Int) : lxB (a :: p) (b :: q) = (decide (a < b) || (decide (a = b) && lxB p q)) := rfl
theorem Zp5 : ∀ p : List Int, lxB p p = false
 | [] => rfl
 | a :: p => by unfold lxB; simp [Zp5 p]
theorem Zsy : ∀ {p q r : List Int}, lxB p q = true → lxB q r = true → lxB p r = true
 | [], [], r, h, _ => by cases h
 | [], b :: q, [], _, k => by cases k
 | [], b :: q, c :: r, _, _ => rfl
 | a :: p, [], r, h, _ => by cases h
 | a :: p, b :: q, [], _, k => by cases k
 | a :: p, b :: q, c :: r, h, k => by
  unfold lxB at *
  simp only [YC, Yd, decide_eq_true_eq] at *
  rcases h with h | ⟨h1, h2⟩
  ·rcases k with k | ⟨k1, k2⟩
   ·exact .inl (by omega)
   ·exact .inl (by omega)
  ·rcases k with k | ⟨k1, k2⟩
   ·exact .inl (by omega)
   ·exact .inr ⟨by omega, Zsy h2 k2⟩
theorem ZnS : ∀ {p q : List Int}, lxB p q = false → lxB q p = false → p = q
 | [], [], _, _ => rfl
 | [], b :: q, h, _ => by cases h
 | a :: p, [], _, k => by cases k
 | a :: p, b :: q, h, k => by
  unfold lxB at h k
  simp only [Ybe, Ya6, decide_eq_false_iff_not] at h k
  have e : a = b := by omega
  subst e
  rw [ZnS (h.2.resolve_left fun q => q rfl) (k.2.resolve_left fun q => q rfl)]
theorem ZxJ {p q r : List Int} (h : lxB q p = false) (k : lxB r q = false) : lxB r p = false := by
 cases hr : lxB r p with
 | false => rfl
 | true =>
  cases hp : lxB p q with
  | true => rw [Zsy hr hp] at k; cases k
  | false => rw [ZnS hp h] at hr; rw [hr] at k; cases k
theorem Zk8 {x y : Int} : ∀ {p q : List Int}, p.length = q.length → lxB (p ++ [x]) (q ++ [y]) = (lxB p q || (decide (p = q) && decide (x < y)))
 | [], [], _ => by simp [lxB]
 | [], b :: q, h => by simp at h
 | a :: p, [], h => by simp at h
 | a :: p, b :: q, h => by
  have ih := Zk8 (x := x) (y := y) (p := p) (q := q) (by simpa using h)
  show (decide (a < b) || (decide (a = b) && lxB (p ++ [x]) (q ++ [y]))) = _
  rw [ih, ZmD]
  by_cases h1 : a < b
  ·simp [h1]
  ·by_cases h2 : a = b
   ·subst h2; simp
   ·have : ¬ (a :: p = b :: q) := fun e => h2 (List.cons.inj e).1
    simp [h1, h2, this]
theorem m69 (x y : Int) : ZbE x y = some (if x < y then -1 else if y < x then 1 else 0) := by
 dsimp only [ZbE, ZsY, br, lr, cl, ZcX, ZsC, lr]
 by_cases h1 : x < y
 ·simp [h1]
 ·by_cases h2 : y < x <;> simp [h1, h2]
theorem m64 (p q : List Int) (h : p.length < 4611686018427387904) : ∃ c, Zbv p q = some c ∧ decide (c < 0) = lxB p q := by
 have q1 := Zbk (B := ZgN p q) (I := fun k i => k + i = p.length ∧ i ≤ q.length ∧ lxB p q = lxB (p.drop i) (q.drop i)) (Q := fun o => Sum.elim (fun _ => p.length ≤ q.length ∧ lxB p q = decide (p.length < q.length)) (fun c => decide (c < 0) = lxB p q) o) (fun k i hI => by
  obtain ⟨i1, i2, i3⟩ := hI
  cases hk : p[i]? with
  | none =>
   have hge := YL.1 hk
   refine ⟨.ex (), by dsimp only [ZgN, ZhT, br, ix, vz, vs, lrt, ln, lxe, cl, wa, eqL]; simp [show ¬ i < p.length by omega], by omega, ?_⟩
   rw [i3, YaG hge]
   have : i = p.length := by omega
   subst this
   cases hd : q.drop p.length with
   | nil =>
    have := List.drop_eq_nil_iff.1 hd
    rw [decide_eq_false (by omega)]; rfl
   | cons a r =>
    have := congrArg List.length hd
    rw [Yah] at this
    simp at this
    rw [decide_eq_true (by omega)]; rfl
  | some x =>
   obtain ⟨g0, hgi⟩ := Yb.1 hk
   have g2 : i + 1 < 9223372036854775808 := by omega
   have e1 : p.drop i = x :: p.drop (i + 1) := by rw [YW g0, hgi]
   by_cases hq : q.length ≤ i
   ·refine ⟨.rt 1, by dsimp only [ZgN, ZhT, br, ix, vz, vs, lrt, ln, lxe, cl, wa, eqL]; simp [g0, hk, hgi, hq], ?_⟩
    show decide ((1 : Int) < 0) = lxB p q
    rw [i3, e1, YaG hq]; rfl
   ·have q0 : i < q.length := by omega
    have e2 : q.drop i = q[i] :: q.drop (i + 1) := YW q0
    rw [e1, e2, ZmD] at i3
    by_cases c1 : x < q[i]
    ·refine ⟨.rt (-1), by dsimp only [ZgN, ZhT, br, ix, vz, vs, lrt, ln, lxe, cl, wa, eqL]; simp [g0, q0, hk, hgi, hq, m69, c1], ?_⟩
     show decide ((-1 : Int) < 0) = lxB p q
     rw [i3]; simp [c1]
    ·by_cases c2 : q[i] < x
     ·refine ⟨.rt 1, by dsimp only [ZgN, ZhT, br, ix, vz, vs, lrt, ln, lxe, cl, wa, eqL]; simp [g0, q0, hk, hgi, hq, m69, c1, c2], ?_⟩
      show decide ((1 : Int) < 0) = lxB p q
      rw [i3]; simp [c1, show ¬ x = q[i] by omega]
     ·refine ⟨.nx (i + 1), by dsimp only [ZgN, ZhT, br, ix, vz, vs, lrt, ln, lxe, cl, wa, eqL]; simp [g0, q0, g2, hk, hgi, hq, m69, c1, c2], k - 1, by omega, by omega, by omega, ?_⟩
      rw [i3]; simp [show x = q[i] by omega]) big p.length 0 (ZaZ h) ⟨rfl, Yaj _, by simp⟩
 obtain ⟨o, e, hq⟩ := q1
 cases o with
 | inl u =>
  obtain ⟨h1, h2⟩ := hq
  by_cases hl : p.length < q.length
  ·exact ⟨-1, by dsimp only [Zbv, Zlv, ZnI, Znu, br, vz, lr, lc, eqL]; simp [e, hl], by rw [h2]; simp [hl]⟩
  ·exact ⟨0, by dsimp only [Zbv, Zlv, ZnI, Znu, br, vz, lr, lc, eqL]; simp [e, hl], by rw [h2]; simp [hl]⟩
 | inr c => exact ⟨c, by dsimp only [Zbv, Zlv, ZnI, Znu, br, vz, lr, lc, eqL]; simp [e], hq⟩
theorem m63 (p : List Int) (h : p.length < 549755813888) : Zbt p = some p := by
 dsimp only [Zbt, Zs4, al, br, vw, lr, a0, mv]
 simp [h]
structure FOk (C : ByteArray → List Int → Prop) (fd : List (ByteArray × List Int)) : Prop where
 s : ∀ t p, Zbx t fd = some p → C t p ∧ ∀ q, C t q → lxB q p = false
 n : ∀ t, Zbx t fd = none → ∀ q, ¬ C t q
 nd : (Zbo fd).Nodup
def ZwN (fd : List (ByteArray × List Int)) (t : ByteArray) (p : List Int) : List (ByteArray × List Int) := if (!inM t fd || lxB p (lkM t fd)) = true then ZbM t p fd else fd
theorem FOk.congr {C D : ByteArray → List Int → Prop} {fd : List (ByteArray × List Int)} (h : FOk C fd) (k : ∀ t p, C t p ↔ D t p) : FOk D fd :=
 ⟨fun t p e => ⟨(k t p).1 (h.s t p e).1, fun q hq => (h.s t p e).2 q ((k t q).2 hq)⟩, fun t e q hq => h.n t e q ((k t q).2 hq), h.nd⟩
theorem FOk.put {C : ByteArray → List Int → Prop} {fd : List (ByteArray × List Int)} (h : FOk C fd) (t : ByteArray) (p : List Int) : FOk (fun t' q => C t' q ∨ (t' = t ∧ q = p)) (ZwN fd t p) := by
 unfold ZwN
 split
 ·rename_i hc
  refine ⟨fun t' q e => ?_, fun t' e q hq => ?_, ZiD _ _ h.nd⟩
  ·rw [ZbA] at e
   split at e
   ·rename_i ht
    subst ht
    cases e
    refine ⟨.inr ⟨rfl, rfl⟩, fun q hq => ?_⟩
    rcases hq with hq | ⟨_, rfl⟩
    ·cases hg : Zbx t fd with
     | none => exact absurd hq (h.n t hg q)
     | some r =>
      have h1 := (h.s t r hg).2 q hq
      have e1 : lkM t fd = r := by unfold lkM; rw [hg]; rfl
      have e2 : inM t fd = true := by unfold inM; rw [hg]; rfl
      rw [e1, e2] at hc
      have hc : lxB p r = true := by simpa using hc
      cases hx : lxB q p with
      | false => rfl
      | true => rw [Zsy hx hc] at h1; cases h1
    ·exact Zp5 _
   ·rename_i ht
    obtain ⟨a, b⟩ := h.s t' q e
    refine ⟨.inl a, fun q' hq => ?_⟩
    rcases hq with hq | ⟨rfl, _⟩
    ·exact b q' hq
    ·exact absurd rfl ht
  ·rw [ZbA] at e
   split at e
   ·cases e
   ·rename_i ht
    rcases hq with hq | ⟨rfl, _⟩
    ·exact h.n t' e q hq
    ·exact ht rfl
 ·rename_i hc
  have hc : inM t fd = true ∧ lxB p (lkM t fd) = false := by
   cases h1 : inM t fd <;> cases h2 : lxB p (lkM t fd) <;> simp [h1, h2] at hc ⊢
  refine ⟨fun t' q e => ?_, fun t' e q hq => ?_, h.nd⟩
  ·obtain ⟨a, b⟩ := h.s t' q e
   refine ⟨.inl a, fun q' hq => ?_⟩
   rcases hq with hq | ⟨rfl, rfl⟩
   ·exact b q' hq
   ·have e1 : lkM t' fd = q := by unfold lkM; rw [e]; rfl
    rw [e1] at hc
    exact hc.2
  ·rcases hq with hq | ⟨rfl, _⟩
   ·exact h.n t' e q hq
   ·have := hc.1
    unfold inM at this
    rw [e] at this
    cases this
def inF (s : Scm) (best : List (ByteArray × List Int)) (n : ByteArray) (r : List (ByteArray × List Int)) (f : Fld) : List (ByteArray × List Int) := if (inM f.type.name best || !toF s f) = true then r else ZwN r f.type.name (lkM n best ++ [f.num])
def fdF (s : Scm) (best : List (ByteArray × List Int)) (row : List ByteArray) : List (ByteArray × List Int) := row.foldl (fun r n => (Zdd s n).foldl (inF s best n) r) []
def CdP (s : Scm) (best : List (ByteArray × List Int)) (n : ByteArray) (l : List Fld) (t : ByteArray) (q : List Int) : Prop := ∃ f ∈ l, inM f.type.name best = false ∧ toF s f = true ∧ t = f.type.name ∧ q = lkM n best ++ [f.num]
theorem Zrq {s : Scm} {best : List (ByteArray × List Int)} {n : ByteArray} : ∀ (l : List Fld) {C : ByteArray → List Int → Prop} {r : List (ByteArray × List Int)}, FOk C r → FOk (fun t q => C t q ∨ CdP s best n l t q) (l.foldl (inF s best n) r)
 | [], C, r, h => h.congr fun t q => by simp [CdP]
 | f :: l, C, r, h => by
  rw [Yak]
  by_cases hc : (inM f.type.name best || !toF s f) = true
  ·have e : inF s best n r f = r := by unfold inF; rw [if_pos hc]
   rw [e]
   refine (Zrq l h).congr fun t q => or_congr Iff.rfl ⟨fun ⟨g, hg, a⟩ => ⟨g, List.mem_cons_of_mem _ hg, a⟩, fun ⟨g, hg, a, b, c⟩ => ?_⟩
   rcases Yo.1 hg with rfl | hg
   ·rw [a, b] at hc; cases hc
   ·exact ⟨g, hg, a, b, c⟩
  ·have e : inF s best n r f = ZwN r f.type.name (lkM n best ++ [f.num]) := by unfold inF; rw [if_neg hc]
   have hc : inM f.type.name best = false ∧ toF s f = true := by
    cases h1 : inM f.type.name best <;> cases h2 : toF s f <;> simp [h1, h2] at hc ⊢
   rw [e]
   refine (Zrq l (h.put f.type.name (lkM n best ++ [f.num]))).congr fun t q => ?_
   rw [or_assoc]
   refine or_congr Iff.rfl ⟨?_, fun ⟨g, hg, a⟩ => ?_⟩
   ·rintro (⟨rfl, rfl⟩ | ⟨g, hg, a⟩)
    ·exact ⟨f, Yt .., hc.1, hc.2, rfl, rfl⟩
    ·exact ⟨g, List.mem_cons_of_mem _ hg, a⟩
   ·rcases Yo.1 hg with rfl | hg
    ·exact .inl a.2.2
    ·exact .inr ⟨g, hg, a⟩
theorem Zt2 (s : Scm) (best : List (ByteArray × List Int)) (row : List ByteArray) : FOk (fun t q => ∃ n ∈ row, CdP s best n (Zdd s n) t q) (fdF s best row) := by
 have : ∀ (row : List ByteArray) {C : ByteArray → List Int → Prop} {r : List (ByteArray × List Int)}, FOk C r → FOk (fun t q => C t q ∨ ∃ n ∈ row, CdP s best n (Zdd s n) t q) (row.foldl (fun r n => (Zdd s n).foldl (inF s best n) r) r) := fun row => by
  induction row with
  | nil => intro C r h; exact h.congr fun t q => by simp
  | cons n row ih =>
   intro C r h
   rw [Yak]
   refine (ih (Zrq (s := s) (best := best) (n := n) (Zdd s n) h)).congr fun t q => ?_
   simp only [Yo, exists_eq_or_imp, or_assoc]
 refine (this row (C := fun _ _ => False) (r := []) ⟨fun t p e => (by cases e), fun t _ q => id, by simp [Zbo]⟩).congr fun t q => by simp
structure MgOk (best fd : List (ByteArray × List Int)) (y : List ByteArray × List (ByteArray × List Int)) : Prop where
 o : y.1.Perm (Zbo fd)
 g : ∀ t, Zbx t y.2 = (Zbx t fd).or (Zbx t best)
 nd : (Zbo y.2).Nodup
 l : y.2.length = best.length + fd.length
section
variable {s : Scm} {w : Web} (hw : WOk s w) (h : Fw s)
include hw h
theorem m42 (row : List ByteArray) (best : List (ByteArray × List Int)) (hr : row.length ≤ 1000) (hb : ∀ n, (lkM n best).length ≤ 1000) (hnd : (Zbo best).Nodup) (hfl : (fdF s best row).length ≤ 1000) : ZeS (Za5 w row best) (MgOk best (fdF s best row)) := by
 have q1 : ZeS (Zdg (Zj5 w row best) big (0, [])) fun o => o = .inl (fdF s best row) := by
  refine Zcq (B := Zj5 w row best) (fun k v => k + v.1 = row.length ∧ v.2 = fdF s best (row.take v.1)) _ (fun k v hI => ?_) big row.length (0, []) (ZaZ (by omega)) ⟨rfl, rfl⟩
  obtain ⟨i, r⟩ := v
  obtain ⟨i1, i2⟩ := hI
  simp only at i1 i2
  subst i2
  cases hk : row[i]? with
  | none =>
   have hge := YL.1 hk
   dsimp only [Zj5, Zjp, Zjh, Zjr, br, ix, vz, vw, vs, lc, wa, mlk, lnN, ZkD, eqL]
   rw [show decide ((i : Int) < (row.length : Int)) = false from decide_eq_false (by omega)]
   exact ZaI (by rw [Y7 hge])
  | some n =>
   obtain ⟨g0, hgi⟩ := Yb.1 hk
   have g1 := Zdr hk
   have g2 : i + 1 < 9223372036854775808 := by omega
   have e := hw.fl n
   have hf10 := h.fl n
   have hbn := hb n
   dsimp only [Zj5, Zjp, Zjh, Zjr, br, ix, vz, vw, vs, lc, wa, mlk, lnN, ZkD, eqL]
   simp only [g1, hk, decide_true, if_true, Option.bind_some]
   refine ZbX (Q := fun o => o = .inl ((Zdd s n).foldl (inF s best n) (fdF s best (row.take i)))) ?_ fun o ho => ?_
   ·refine Zcq (B := ZkA w row best i n (lkM n w.messages)) (fun k v => k + v.1 = (Zdd s n).length ∧ v.2 = ((Zdd s n).take v.1).foldl (inF s best n) (fdF s best (row.take i))) _ (fun k v hJ => ?_) big (Zdd s n).length (0, fdF s best (row.take i)) (ZaZ (by omega)) ⟨rfl, rfl⟩
    obtain ⟨j, r⟩ := v
    obtain ⟨j1, jj⟩ := hJ
    simp only at j1 jj
    subst jj
    cases hj : (Zdd s n)[j]? with
    | none =>
     have hge := YL.1 hj
     dsimp only [ZkA, ZjE, Zjv, Zi6, Zo1, Zs3, ZpM, ZrH, ZhQ, Zmd, Zpt, Zfi, Zpv, br, ix, vz, vw, vs, lc, lxc, ap, clg, wa, mlk, mpu, lnN, ZkD, tw, ch, fl, fz]
     rw [e, show decide ((j : Int) < ((Zdd s n).length : Int)) = false from decide_eq_false (by omega)]
     exact ZaI (by rw [Y7 hge])
    | some f =>
     obtain ⟨j0, hje⟩ := Yb.1 hj
     have jl := Zdr hj
     have j2 : j + 1 < 9223372036854775808 := by omega
     have htk : ((Zdd s n).take (j + 1)).foldl (inF s best n) (fdF s best (row.take i)) = inF s best n (((Zdd s n).take j).foldl (inF s best n) (fdF s best (row.take i))) f := by
      rw [Y4 j0, YaV, hje]; rfl
     obtain ⟨r, hr'⟩ : ∃ r, r = ((Zdd s n).take j).foldl (inF s best n) (fdF s best (row.take i)) := ⟨_, rfl⟩
     rw [← hr'] at htk ⊢
     have g3 : (lkM n best).length < 549755813887 := by omega
     have g4 : (lkM n best).length < 549755813888 := by omega
     obtain ⟨c, ec, kc⟩ := m64 (lkM n best ++ [f.num]) (lkM f.type.name r) (by rw [List.length_append, Yas]; omega)
     have hB : ZkA w row best i n (lkM n w.messages) (j, r) = some [.nx (j + 1, inF s best n r f)] := by
      dsimp only [ZkA, ZjE, Zjv, Zi6, Zo1, Zs3, ZpM, ZrH, ZhQ, Zmd, Zpt, Zfi, Zpv, br, ix, vz, vw, vs, lc, lxc, ap, clg, wa, mlk, mpu, lnN, ZkD, tw, ch, fl, fz]
      simp only [e, jl, hj, m62 hw, m63 _ g4, ec, kc, g3, j2, decide_true, if_true, Option.bind_some, Option.isSome_some, implies_true, Y3]
      unfold inF ZwN
      split
      ·rfl
      ·split <;> rfl
     rw [hB]
     refine ZaI ⟨k - 1, by omega, by simp only; omega, ?_⟩
     simp only
     rw [htk]
   ·subst ho
    simp only [Sum.elim_inl, g2, if_true]
    refine ZaI ⟨k - 1, by omega, by simp only; omega, ?_⟩
    simp only
    unfold fdF
    rw [Y4 g0, YaV, hgi]
    rfl
 obtain ⟨fd, hfd⟩ : ∃ fd, fd = fdF s best row := ⟨_, rfl⟩
 have ok := Zt2 s best row
 rw [← hfd] at q1 hfl ok ⊢
 have hdis : ∀ t ∈ Zbo fd, inM t best = false := fun t ht => by
  obtain ⟨p, hp⟩ := YF.1 ((Zcz t fd).1 ht)
  obtain ⟨n, _, f, _, a, _, c, _⟩ := (ok.s t p hp).1
  rw [c]; exact a
 have q2 : ZeS (Zdg Zky big ([], best, fd)) fun o => Sum.elim (fun v : (List (ByteArray × List Int)) × List ByteArray => MgOk best fd (v.2, v.1)) (fun _ => False) o := by
  refine Zcq (B := Zky) (fun k v => k = v.2.2.length ∧ (v.1 ++ Zbo v.2.2).Perm (Zbo fd) ∧ (∀ t, Zbx t v.2.1 = if ZhM v.1 t = true then Zbx t fd else Zbx t best) ∧ (Zbo v.2.1).Nodup ∧ v.2.1.length + v.2.2.length = best.length + fd.length ∧ ∀ x ∈ v.2.2, x ∈ fd) _ (fun k v hI => ?_) big fd.length ([], best, fd) (ZaZ (by omega)) ⟨rfl, .refl _, fun t => by simp [ZhM], hnd, rfl, fun x hx => hx⟩
  obtain ⟨a, b, c⟩ := v
  obtain ⟨i1, i2, i3, i4, i5, i6⟩ := hI
  simp only at i1 i2 i3 i4 i5 i6
  have hal : a.length ≤ 1000 := by
   have := i2.length_eq
   simp only [List.length_append, Zbo, Yk] at this
   omega
  unfold Zky
  simp only
  unfold Ziw
  refine Zl1 (fun e => ?_) fun j x hx => ?_
  ·subst e
   have hp : a.Perm (Zbo fd) := by simpa [Zbo] using i2
   refine ZaI ⟨hp, fun t => ?_, i4, by simpa using i5⟩
   simp only
   rw [i3]
   split
   ·rename_i ht
    have := (Zcz t fd).1 (hp.mem_iff.1 (Zby.1 ht))
    cases hg : Zbx t fd with
    | none => rw [hg] at this; cases this
    | some p => rfl
   ·rename_i ht
    have : Zbx t fd = none := by
     cases hg : Zbx t fd with
     | none => rfl
     | some p => exact absurd (Zby.2 (hp.mem_iff.2 ((Zcz t fd).2 (by rw [hg]; rfl)))) ht
    rw [this]; rfl
  ·have hlt := (Yb.1 hx).1
   have hxm : x ∈ fd := i6 x (Yj hx)
   have hxk : x.1 ∈ Zbo fd := Yq.2 ⟨x, hxm, rfl⟩
   have hxa : x.1 ∉ a := fun hc => by
    have hnd2 := i2.nodup_iff.2 ok.nd
    rw [Ybr] at hnd2
    exact hnd2.2.2 x.1 hc x.1 (Yq.2 ⟨x, Yj hx, rfl⟩) rfl
   have hgx : Zbx x.1 fd = some x.2 := Zm8 ok.nd hxm
   have hnb : x.1 ∉ Zbo b := fun hc => by
    have := (Zcz x.1 b).1 hc
    rw [i3, if_neg fun q => hxa (Zby.1 q)] at this
    have h2 := hdis x.1 hxk
    unfold inM at h2
    rw [this] at h2; cases h2
   have g3 : a.length < 549755813887 := by omega
   dsimp only [Zky, Ziw, vz, vw, ap, mpu, nxN, lnN, ZkD, vwr, fl]
   simp only [g3, if_true]
   refine ZaI ⟨(c.eraseIdx j).length, by rw [Yau hlt]; omega, rfl, ?_, fun t => ?_, ZiD _ _ i4, ?_, fun y hy => i6 y (List.mem_of_mem_eraseIdx hy)⟩
   ·refine .trans ?_ i2
    rw [YQ]
    have hpm : (x.1 :: Zbo (c.eraseIdx j)).Perm (Zbo c) := (Zc4 hx).map (fun p : ByteArray × List Int => p.1)
    exact Ya8 _ hpm
   ·simp only
    rw [ZbA, i3]
    by_cases e : x.1 = t
    ·subst e
     have : ZhM (a ++ [x.1]) x.1 = true := Zby.2 (by simp)
     simp [hgx, this]
    ·have e2 : ZhM (a ++ [x.1]) t = ZhM a t := by rw [YbC, Zby, Zby]; simp [show ¬ t = x.1 from fun q => e q.symm]
     simp [e, e2]
   ·have : (ZbM x.1 x.2 b).length = b.length + 1 := by
     have e : ∀ r : List (ByteArray × List Int), r.length = (Zbo r).length := fun r => (Yk _).symm
     rw [e, e b]
     rcases ZeV x.1 x.2 b with ⟨q, _⟩ | ⟨_, q⟩
     ·exact absurd q hnb
     ·rw [q]; simp
    simp only
    rw [this, Yau hlt]
    omega
 dsimp only [Za5, Zlj, ZmB, Zlk, Zmo, Zl2, ZmQ, vz, vw, lc, lrN, fl, fr, eqL]
 refine ZbX q1 fun o ho => ?_
 subst ho
 simp only [Sum.elim_inl]
 refine ZbX q2 fun o ho => ?_
 cases o with
 | inr _ => exact ho.elim
 | inl v => exact ZaI ho
end
end Go.Proofs.Ythhipejbnbochaa
