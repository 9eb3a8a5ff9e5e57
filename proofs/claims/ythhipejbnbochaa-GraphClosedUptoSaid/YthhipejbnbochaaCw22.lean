/-
  What is proved: the second form of wireschemalaw13.GraphClosed: the law returns true and leaves its arguments as they were.
  Condition: the arguments are together of bulk at most 1048576 (the given second form); nothing else.
-/
import Derived.Test.YthhipejbnbochaaCw21
import Derived.Test.YthhipejbnbochaaCw20
import Derived.Test.YthhipejbnbochaaRows
import Derived.WalkKit
import Derived.ProofKit
import Derived.OpenShut
import Derived.JoinedCond
import Derived.Test.YthhipejbnbochaaCw00
namespace Go.Proofs.Ythhipejbnbochaa
set_option linter.all false
open Go Go.Eng
section
variable {s : Scm} (h : Fw s)
include h
theorem m19 (f : Fld) : ZaN s f = some (if ldF s f = true then (f.type.name, true) else (⟨#[]⟩, false)) := by
 have e1 := Zth s f.type.name
 have e2 := ZtY s f.type.name
 have hne : ¬ (10 : Int) = 9 := by decide
 unfold ldF toF
 dsimp only [ZaN, Zr5, br, vw, lr, cl]
 simp only [m18 h, m46 h, Option.bind_some, e1, e2]
 by_cases h1 : f.type.kind = 10
 ·simp only [h1, hne, decide_true, decide_false, if_true, if_false, Bool.and_true, Bool.false_and, Bool.or_false]
  cases isM s f.type.name <;> simp
 ·by_cases h2 : f.type.kind = 9
  ·simp only [h1, h2, decide_true, decide_false, if_true, if_false, Bool.and_false, Bool.true_and, YaM]
   cases isE s f.type.name <;> simp
  ·simp [h1, h2]
omit h in
theorem Zec {α β : Type} (p : α → Bool) (g : α → β) (l : List α) : l.filterMap (fun x => if p x = true then some (g x) else none) = (l.filter p).map g := by
 induction l with
 | nil => rfl
 | cons x l ih =>
  rw [List.filterMap_cons, Ybj, ih]
  cases p x <;> rfl
theorem m30 (n : ByteArray) : ZaX s n = some (Zcm (Zbw s n)) := by
 have hl := h.fl n
 have e := Zo0 s n
 have q1 := Zci (B := Zl7 s (ZmY s n)) (Zgr s n) (fun f => if ldF s f = true then some f.type.name else none) [] (by simp; omega) (fun i b x hx hb g2 g1 => by
  dsimp only [Zl7, Zn0, br, ix, vz, vw, vs, v2, ln, lxe, cl, wa, eqL]
  simp only [e, g1, g2, hx, m19 h, decide_true, if_true, Option.bind_some]
  cases ldF s x with
  | true => simp [m53 hb]
  | false => simp) (fun b => by dsimp only [Zl7, Zn0, br, ix, vz, vw, vs, v2, ln, lxe, cl, wa, eqL]; simp [e])
 rw [Zec] at q1
 dsimp only [ZaX, Zsm, Zqd, Zr9, Zrx, vz, vw, lr, lc, cl, fz]
 simp only [m18 h, Option.bind_some, q1, Sum.elim_inl]
 rw [Zdt]
 rfl
theorem m54 (n : ByteArray) : ZaH s n = some (isM s n || isE s n) := by
 dsimp only [ZaH, Zra, vw, lr, cl]
 simp only [m18 h, m46 h, Option.bind_some, ZkL, Zlk]
theorem Zxo (f : Fld) : (ldF s f && decide (f.type.kind = 10)) = toF s f := by
 unfold ldF toF
 by_cases h1 : f.type.kind = 10
 ·simp [h1]
 ·simp [h1]
theorem m61 (n : ByteArray) : Za0 s n = some (Zcm (Zbg s n)) := by
 have hl := h.fl n
 have e := Zo0 s n
 have q1 := Zci (B := ZkT s (ZmY s n)) (Zgr s n) (fun f => if toF s f = true then some f.type.name else none) [] (by simp; omega) (fun i b x hx hb g2 g1 => by
  have g0 := (Yd.1 hx).1
  have e3 : (Zgr s n).getD i Rw.z = x := by rw [YE, hx]; rfl
  have e4 := Zxo h x
  dsimp only [ZkT, Znq, br, ix, ixg, vz, vw, vs, v2, ln, lxe, cl, wa, eqL]
  simp only [e, g1, g2, hx, m19 h, decide_true, if_true, Option.bind_some, Int.toNat_natCast, e3]
  rw [← e4]
  cases hq : ldF s x with
  | true =>
   by_cases h2 : x.type.kind = 10
   ·simp [m53 hb, h2, g0]
   ·simp [h2, g0]
  | false => simp) (fun b => by dsimp only [ZkT, Znq, br, ix, ixg, vz, vw, vs, v2, ln, lxe, cl, wa, eqL]; simp [e])
 rw [Zec] at q1
 dsimp only [Za0, ZrQ, Zsh, Zq8, Zr3, vz, vw, lr, lc, cl, fz]
 simp only [m18 h, Option.bind_some, q1, Sum.elim_inl]
 rw [Zdt]
 rfl
def Zm1 (s : Scm) (v : List ByteArray) : List ByteArray := v.foldl (fun a y => (Zcm (Zbg s y)).foldl Zbu a) v
omit h in
theorem Zh7 (g : ByteArray → List ByteArray) : ∀ (v a : List ByteArray), (Asc a → Asc (v.foldl (fun a y => (g y).foldl Zbu a) a)) ∧ ∀ x, x ∈ v.foldl (fun a y => (g y).foldl Zbu a) a ↔ x ∈ a ∨ ∃ y ∈ v, x ∈ g y
 | [], a => ⟨id, fun x => by simp⟩
 | y :: v, a => by
  obtain ⟨p, q⟩ := Zh7 g v ((g y).foldl Zbu a)
  refine ⟨fun ha => p (ZiI ha), fun x => ?_⟩
  rw [Yah, q, ZiL]
  simp only [Yo, exists_eq_or_imp, or_assoc, or_left_comm]
theorem Zxa (v : List ByteArray) (hv : v.length ≤ 8) : Zao (ZjW s v) big (v, 0) = some (.inl (Zm1 s v)) := by
 have := Zdu (B := ZjW s v) (N := big) v (fun i b => (b, i)) (fun i b => b.length ≤ 8 + i * 10) (fun b y => (.inl ((Zcm (Zbg s y)).foldl Zbu b) : List ByteArray ⊕ List ByteArray)) id (fun i b y hy hI => by
  have g1 := Zdw hy
  have g0 := (Yd.1 hy).1
  have g2 : i + 1 < 9223372036854775808 := by omega
  have h1 := Zf6 (Zcm (Zbg s y)) b
  have h2 := Zcs (Zbg s y)
  have h3 := h.nl y
  have q := Zci (B := Zmb s v i (Zcm (Zbg s y))) (Zcm (Zbg s y)) some b (by omega) (fun j c x hx hc g4 g3 => by
   dsimp only [Zmb, ZnL, br, ix, vz, vs, ln, lxe, cl, wa, eqL]
   simp only [g3, g4, hx, m53 hc, decide_true, if_true, Option.bind_some, Option.elim_some]) (fun c => by dsimp only [Zmb, ZnL, br, ix, vz, vs, ln, lxe, cl, wa, eqL]; simp)
  rw [List.filterMap_some] at q
  refine ⟨?_, fun b' e => by cases e; omega⟩
  dsimp only [ZjW, Zot, Zoz, Zno, br, ix, vz, vs, ln, lxe, lc, cl, wa, eqL]
  simp only [g1, g2, hy, m61 h, q, decide_true, if_true, Option.bind_some, Sum.elim_inl]) (fun b _ => by dsimp only [ZjW, Zot, Zoz, Zno, br, ix, vz, vs, ln, lxe, lc, cl, wa, eqL]; simp) v (by omega) (Zba (by omega))
 rw [this, ZcM (fun b y => (Zcm (Zbg s y)).foldl Zbu b) (fun _ _ => rfl)]
 rfl
end
structure AOk (s : Scm) (ns : List ByteArray) (l : List ByteArray) : Prop where
 a : Asc l
 m : ∀ x, x ∈ l ↔ (x ∈ ns ∧ isM s x = true) ∨ ∃ y ∈ ns, isM s y = true ∧ Rch s y x
theorem AOk.len {s : Scm} (h : Fw s) {ns l : List ByteArray} (k : AOk s ns l) : l.length ≤ 8 := by
 have := ZdO (Zc5 k.a) (r := nmM s) fun x hx => ZcA.1 (by
  rcases (k.m x).1 hx with ⟨_, q⟩ | ⟨y, _, _, q⟩
  ·exact q
  ·exact q.isM)
 have h2 := h.m
 unfold nmM at this
 rw [Ym] at this
 omega
theorem ZvB {l r : List ByteArray} (hl : l.Nodup) (hs : ∀ x ∈ l, x ∈ r) (hn : r.length ≤ l.length) (hr : r.Nodup) : ∀ x ∈ r, x ∈ l := fun x hx => by
 apply YaD
 intro hc
 have := ZdO (l := x :: l) (r := r) (Ybn.2 ⟨hc, hl⟩) fun y hy => by
  rcases Yo.1 hy with rfl | hy
  ·exact hx
  ·exact hs y hy
 simp at this
 omega
theorem m55 {s : Scm} (h : Fw s) (ns : List ByteArray) (hn : ns.length ≤ 1000) : ∃ l, Za5 s ns = some l ∧ AOk s ns l := by
 have q1 := Zci (B := ZlR s ns) ns (fun x => if isM s x = true then some x else none) [] (by simp; omega) (fun i b x hx hb g2 g1 => by
  dsimp only [ZlR, ZnF, Znp, Znj, Zer, Zn8, br, ix, vz, vw, vs, v2, ln, lxe, lc, cl, wa, du, eqL]
  simp only [g1, g2, hx, m18 h, ZkL, decide_true, if_true, Option.bind_some]
  cases isM s x with
  | true => simp [m53 hb]
  | false => simp) (fun b => by dsimp only [ZlR, ZnF, Znp, Znj, Zer, Zn8, br, ix, vz, vw, vs, v2, ln, lxe, lc, cl, wa, du, eqL]; simp)
 have e0 : ns.filterMap (fun x => if isM s x = true then some x else none) = ns.filter (isM s) := by
  have := Zec (isM s) (fun x : ByteArray => x) ns
  rwa [List.map_id'] at this
 rw [e0, Zdt] at q1
 obtain ⟨v0, hv0⟩ : ∃ v0, v0 = Zcm (ns.filter (isM s)) := ⟨_, rfl⟩
 rw [← hv0] at q1
 have a0 : Asc v0 := hv0 ▸ ZfM _
 have mem0 : ∀ x, x ∈ v0 ↔ x ∈ ns ∧ isM s x = true := fun x => by rw [hv0, Zbo, YC]
 have hnm : (nmM s).length ≤ 8 := by unfold nmM; rw [Ym]; exact h.m
 have q2 := ZbF (B := Zmd s) (I := fun k v => Asc v.1 ∧ (∀ x ∈ v0, x ∈ v.1) ∧ (∀ x ∈ v.1, x ∈ v0 ∨ ∃ y ∈ v0, Rch s y x) ∧ (v.2 = false → ∀ y ∈ v.1, ∀ x ∈ Zbg s y, x ∈ v.1) ∧ (v.2 = true → k + v.1.length = 10) ∧ (v.2 = false → k = 0)) (Q := fun o => Sum.elim (fun l => AOk s ns l) (fun _ => False) o) (fun k v hI => by
  obtain ⟨v, ag⟩ := v
  obtain ⟨i1, i2, i3, i4, i5, i6⟩ := hI
  simp only at i1 i2 i3 i4 i5 i6
  have hM : ∀ x ∈ v, isM s x = true := fun x hx => by
   rcases i3 x hx with q | ⟨y, _, q⟩
   ·exact ((mem0 x).1 q).2
   ·exact q.isM
  have hv8 : v.length ≤ 8 := YS (ZdO (Zc5 i1) fun x hx => ZcA.1 (hM x hx)) hnm
  cases ag with
  | false =>
   refine ⟨.ex v, by dsimp only [Zmd, ZiZ, Zjb, ZiN, ZiQ, br, vz, ln, lxe, lc, eqL]; simp, i1, fun x => ⟨fun hx => ?_, fun hx => ?_⟩⟩
   ·rcases i3 x hx with q | ⟨y, hy, q⟩
    ·exact .inl ((mem0 x).1 q)
    ·exact .inr ⟨y, ((mem0 y).1 hy).1, ((mem0 y).1 hy).2, q⟩
   ·have hcl : ∀ y ∈ v, ∀ x, Rch s y x → x ∈ v := fun y hy x hr => by
     induction hr with
     | one q => exact i4 rfl y hy _ q
     | tl _ q ih => exact i4 rfl _ ih _ q
    rcases hx with q | ⟨y, hy, hm, q⟩
    ·exact i2 x ((mem0 x).2 q)
    ·exact hcl y (i2 y ((mem0 y).2 ⟨hy, hm⟩)) x q
  | true =>
   have q3 := Zxa h v hv8
   obtain ⟨g1, g2⟩ := Zh7 (fun y => Zcm (Zbg s y)) v v
   have g1 : Asc (Zm1 s v) := g1 i1
   have g2 : ∀ x, x ∈ Zm1 s v ↔ x ∈ v ∨ ∃ y ∈ v, x ∈ Zbg s y := fun x => by
    have := g2 x
    simp only [Zbo] at this
    exact this
   have hR : ∀ x ∈ Zm1 s v, x ∈ v0 ∨ ∃ y ∈ v0, Rch s y x := fun x hx => by
    rcases (g2 x).1 hx with q | ⟨y, hy, q⟩
    ·exact i3 x q
    ·rcases i3 y hy with p | ⟨z, hz, p⟩
     ·exact .inr ⟨y, p, .one q⟩
     ·exact .inr ⟨z, hz, .tl p q⟩
   have hr8 : (Zm1 s v).length ≤ 8 := YS (ZdO (Zc5 g1) fun x hx => ZcA.1 (by
    rcases hR x hx with q | ⟨y, _, q⟩
    ·exact ((mem0 x).1 q).2
    ·exact q.isM)) hnm
   have hge : v.length ≤ (Zm1 s v).length := ZdO (Zc5 i1) fun x hx => (g2 x).2 (.inl hx)
   have i5 := i5 rfl
   refine ⟨.nx (Zm1 s v, decide ((v.length : Int) < ((Zm1 s v).length : Int))), by dsimp only [Zmd, ZiZ, Zjb, ZiN, ZiQ, br, vz, ln, lxe, lc, eqL]; simp [q3], if v.length < (Zm1 s v).length then 10 - (Zm1 s v).length else 0, by split <;> omega, g1, fun x hx => (g2 x).2 (.inl (i2 x hx)), hR, fun hf y hy x hx => ?_, fun hf => ?_, fun hf => ?_⟩
   ·have hlt := of_decide_eq_false hf
    have hall := ZvB (Zc5 i1) (fun x hx => (g2 x).2 (.inl hx)) (by omega) (Zc5 g1)
    exact (g2 x).2 (.inr ⟨y, hall y hy, hx⟩)
   ·have := of_decide_eq_true hf
    rw [if_pos (by omega)]
    simp only
    omega
   ·have := of_decide_eq_false hf
    rw [if_neg (by omega)]) big (10 - v0.length) (v0, true) (Zba (by omega)) ⟨a0, fun x hx => hx, fun x hx => .inl hx, fun q => (by cases q), fun _ => (by
   have := YS (ZdO (Zc5 a0) fun x hx => ZcA.1 ((mem0 x).1 hx).2) hnm
   simp only
   omega), fun q => (by cases q)⟩
 obtain ⟨o, e, hq⟩ := q2
 cases o with
 | inr _ => exact hq.elim
 | inl l =>
  refine ⟨l, ?_, hq⟩
  dsimp only [Za5, Zme, ZmN, ZmT, ZmO, ZlY, vz, vw, lr, lc, fz]
  simp only [q1, e, Option.bind_some, Sum.elim_inl]
section
variable {s : Scm} (h : Fw s)
include h
structure ClOk (s : Scm) (ns : List ByteArray) (l : List ByteArray) : Prop where
 a : Asc l
 m : ∀ x, x ∈ l ↔ (x ∈ ns ∧ (isM s x = true ∨ isE s x = true)) ∨ ∃ n ∈ ns, isM s n = true ∧ (x ∈ Zbw s n ∨ ∃ y, Rch s n y ∧ x ∈ Zbw s y)
end
end Go.Proofs.Ythhipejbnbochaa
namespace Go.Proofs.Ythhipejbnbochaa
set_option linter.all false
open Go Go.Eng
set_option maxRecDepth 100000 in
theorem awk : Zbi = some true := by kernel_rfl
theorem Zu4 {s : Scm} {f : Fld} (h : toF s f = true) : ldF s f = true := by unfold ldF; rw [h]; rfl
theorem Zeb {s : Scm} {n x : ByteArray} (h : x ∈ Zbg s n) : x ∈ Zbw s n := by
 unfold Zbg at h
 unfold Zbw
 obtain ⟨f, hf, rfl⟩ := Yr.1 h
 obtain ⟨a, b⟩ := YC.1 hf
 exact Yr.2 ⟨f, YC.2 ⟨a, Zu4 b⟩, rfl⟩
theorem Zlr {s : Scm} {n x : ByteArray} (h : x ∈ Zbw s n) : isM s x = true ∨ isE s x = true := by
 unfold Zbw at h
 obtain ⟨f, hf, rfl⟩ := Yr.1 h
 have := (YC.1 hf).2
 unfold ldF toF at this
 rcases Bool.or_eq_true_iff.1 this with q | q
 ·exact .inl (YaY.1 q).1
 ·exact .inr (YaY.1 q).2
theorem Zix {s : Scm} {n x : ByteArray} (h : x ∈ Zbw s n) (he : isE s x = false) : x ∈ Zbg s n := by
 unfold Zbw at h
 unfold Zbg
 obtain ⟨f, hf, rfl⟩ := Yr.1 h
 obtain ⟨a, b⟩ := YC.1 hf
 refine Yr.2 ⟨f, YC.2 ⟨a, ?_⟩, rfl⟩
 unfold ldF at b
 rw [he, Bool.and_false, Bool.or_false] at b
 exact b
theorem ZsB {s : Scm} {n x : ByteArray} (h : x ∈ Zbw s n) : isM s n = true := by
 unfold Zbw Zgr at h
 unfold isM
 cases hm : Zo4 s n with
 | none => rw [hm] at h; simp at h
 | some m => rfl
def ClP (s : Scm) (ns : List ByteArray) (x : ByteArray) : Prop := (x ∈ ns ∧ (isM s x = true ∨ isE s x = true)) ∨ ∃ n ∈ ns, isM s n = true ∧ (x ∈ Zbw s n ∨ ∃ y, Rch s n y ∧ x ∈ Zbw s y)
theorem ClOk.uniq {s : Scm} {ns l r : List ByteArray} (h : ClOk s ns l) (k : ClOk s ns r) : l = r := ZpD h.a k.a fun x => (h.m x).trans (k.m x).symm
theorem ClOk.defd {s : Scm} {ns l : List ByteArray} (h : ClOk s ns l) {x : ByteArray} (hx : x ∈ l) : isM s x = true ∨ isE s x = true := by
 rcases (h.m x).1 hx with ⟨_, q⟩ | ⟨n, _, _, q | ⟨y, _, q⟩⟩
 ·exact q
 ·exact Zlr q
 ·exact Zlr q
theorem ClOk.len {s : Scm} (hs : Fw s) {ns l : List ByteArray} (h : ClOk s ns l) : l.length ≤ 16 := by
 have := ZdO (Zc5 h.a) (r := nmM s ++ s.enums.map Enm.name) fun x hx => by
  rcases h.defd hx with q | q
  ·exact YO _ (ZcA.1 q)
  ·exact Yae _ (Zq3.1 q)
 have h1 := hs.m
 have h2 := hs.e
 simp only [nmM, List.length_append, Ym] at this
 omega
section
variable {s : Scm} (h : Fw s)
include h
theorem m31 (ns : List ByteArray) (hn : ns.length ≤ 1000) : ∃ l, Zbb s ns = some l ∧ ClOk s ns l := by
 have q1 := Zci (B := Zoa s ns) ns (fun x => if (isM s x || isE s x) = true then some x else none) [] (by simp; omega) (fun i b x hx hb g2 g1 => by
  dsimp only [Zoa, ZsK, br, ix, vz, vw, vs, v2, ln, lxe, cl, wa, eqL]
  simp only [g1, g2, hx, m54 h, decide_true, if_true, Option.bind_some]
  cases isM s x || isE s x with
  | true => simp [m53 hb]
  | false => simp) (fun b => by dsimp only [Zoa, ZsK, br, ix, vz, vw, vs, v2, ln, lxe, cl, wa, eqL]; simp)
 have e0 : ns.filterMap (fun x => if (isM s x || isE s x) = true then some x else none) = ns.filter (fun x => isM s x || isE s x) := by
  have := Zec (fun x => isM s x || isE s x) (fun x : ByteArray => x) ns
  rwa [List.map_id'] at this
 rw [e0, Zdt] at q1
 obtain ⟨v0, hv0⟩ : ∃ v0, v0 = Zcm (ns.filter fun x => isM s x || isE s x) := ⟨_, rfl⟩
 rw [← hv0] at q1
 have a0 : Asc v0 := hv0 ▸ ZfM _
 have mem0 : ∀ x, x ∈ v0 ↔ x ∈ ns ∧ (isM s x = true ∨ isE s x = true) := fun x => by rw [hv0, Zbo, YC, Bool.or_eq_true_iff]
 have l0 : v0.length ≤ 1000 := by
  rw [hv0]
  exact YS (Zcs _) (YS (Y1 _ _) hn)
 obtain ⟨y8, e8, k8⟩ := m55 h ns hn
 have hy8 := k8.len h
 have q2 := Zdu (B := Zok s y8) (N := big) y8 (fun i b => (b, i)) (fun i b => b.length ≤ 1000 + i * 10) (fun b y => (.inl ((Zcm (Zbw s y)).foldl Zbu b) : List ByteArray ⊕ List ByteArray)) id (fun i b y hy hI => by
  have g1 := Zdw hy
  have g0 := (Yd.1 hy).1
  have g2 : i + 1 < 9223372036854775808 := by omega
  have h1 := Zf6 (Zcm (Zbw s y)) b
  have h2 := Zcs (Zbw s y)
  have h3 := h.ul y
  have q := Zci (B := Zn4 s y8 i (Zcm (Zbw s y))) (Zcm (Zbw s y)) some b (by omega) (fun j c x hx hc g4 g3 => by
   dsimp only [Zn4, Zqz, br, ix, vz, vs, ln, lxe, cl, wa, eqL]
   simp only [g3, g4, hx, m53 hc, decide_true, if_true, Option.bind_some, Option.elim_some]) (fun c => by dsimp only [Zn4, Zqz, br, ix, vz, vs, ln, lxe, cl, wa, eqL]; simp)
  rw [List.filterMap_some] at q
  refine ⟨?_, fun b' e => by cases e; omega⟩
  dsimp only [Zok, ZsR, ZsO, Zru, br, ix, vz, vw, vs, ln, lxe, lc, cl, wa, eqL]
  simp only [g1, g2, hy, m30 h, q, decide_true, if_true, Option.bind_some, Sum.elim_inl]) (fun b _ => by dsimp only [Zok, ZsR, ZsO, Zru, br, ix, vz, vw, vs, ln, lxe, lc, cl, wa, eqL]; simp) v0 (by omega) (Zba (by omega))
 rw [ZcM (fun b y => (Zcm (Zbw s y)).foldl Zbu b) (fun _ _ => rfl)] at q2
 obtain ⟨g1, g2⟩ := Zh7 (fun y => Zcm (Zbw s y)) y8 v0
 refine ⟨y8.foldl (fun a y => (Zcm (Zbw s y)).foldl Zbu a) v0, ?_, g1 a0, fun x => ?_⟩
 ·dsimp only [Zbb, Zpj, ZpN, Zul, ZuR, Ztb, Zvy, vz, vw, lr, lc, cl, fz]
  rw [q1]
  simp only [Option.bind_some, Sum.elim_inl, e8]
  rw [q2]
  rfl
 ·rw [g2, mem0]
  refine or_congr Iff.rfl ⟨fun ⟨y, hy, q⟩ => ?_, fun ⟨n, hn, hm, q⟩ => ?_⟩
  ·rw [Zbo] at q
   rcases (k8.m y).1 hy with ⟨p, p2⟩ | ⟨z, hz, p, p2⟩
   ·exact ⟨y, p, p2, .inl q⟩
   ·exact ⟨z, hz, p, .inr ⟨y, p2, q⟩⟩
  ·rcases q with q | ⟨y, q, q2⟩
   ·exact ⟨n, (k8.m n).2 (.inl ⟨hn, hm⟩), (Zbo _ _).2 q⟩
   ·exact ⟨y, (k8.m y).2 (.inr ⟨n, hn, hm, q⟩), (Zbo _ _).2 q2⟩
theorem n28 (ns l : List ByteArray) (hn : ns.length ≤ 1000) (hl : ClOk s ns l) : ZcH s ns = some l := by
 refine Zlw ?_
 obtain ⟨w, hw⟩ : ∃ w, w = Zxy s := ⟨_, rfl⟩
 have ok : WOk s w := hw ▸ ZkA s
 have q1 : Zgp (Zda (Zkc ns w) big ([], 0)) fun o => Sum.elim (fun r => r.length ≤ 1000000 ∧ ∀ x, x ∈ r ↔ ClP s ns x) (fun _ => False) o := by
  refine ZeZ (B := Zkc ns w) (fun k v => k + v.2 = ns.length ∧ v.1.length ≤ v.2 * 200 ∧ ∀ x, x ∈ v.1 ↔ ClP s (ns.take v.2) x) _ (fun k v hI => ?_) big ns.length ([], 0) (Zba (by omega)) ⟨rfl, by simp, fun x => by simp [ClP]⟩
  obtain ⟨r, i⟩ := v
  obtain ⟨h1, h2, h3⟩ := hI
  simp only at h1 h2 h3
  have hP : ∀ n x, ns[i]? = some n → (ClP s (ns.take (i + 1)) x ↔ ClP s (ns.take i) x ∨ (x = n ∧ (isM s n = true ∨ isE s n = true)) ∨ (isM s n = true ∧ (x ∈ Zbw s n ∨ ∃ y, Rch s n y ∧ x ∈ Zbw s y))) := fun n x hnx => by
   obtain ⟨g0, rfl⟩ := Yd.1 hnx
   unfold ClP
   rw [YW g0]
   constructor
   ·rintro (⟨q, q2⟩ | ⟨m, q, q2⟩)
    ·rcases YH.1 q with q | q
     ·exact .inl (.inl ⟨q, q2⟩)
     ·obtain rfl := YM.1 q
      exact .inr (.inl ⟨rfl, q2⟩)
    ·rcases YH.1 q with q | q
     ·exact .inl (.inr ⟨m, q, q2⟩)
     ·obtain rfl := YM.1 q
      exact .inr (.inr q2)
   ·rintro ((⟨q, q2⟩ | ⟨m, q, q2⟩) | ⟨rfl, q2⟩ | q2)
    ·exact .inl ⟨YO _ q, q2⟩
    ·exact .inr ⟨m, YO _ q, q2⟩
    ·exact .inl ⟨Yae _ (by simp), q2⟩
    ·exact .inr ⟨_, Yae _ (by simp), q2⟩
  cases hk : ns[i]? with
  | none =>
   have hge := Y2.1 hk
   have e : ns.take i = ns := Yal hge
   rw [e] at h3
   dsimp only [Zkc, Zis, Zoi, ZeT, Zne, Znf, ZoF, Zny, br, ix, vz, vw, vs, lc, lxc, ap, aq, cl, wa, mlk, lnN, ZmZ, fl]
   rw [show decide ((i : Int) < (ns.length : Int)) = false from decide_eq_false (by omega)]
   refine ZbD ⟨?_, h3⟩
   omega
  | some n =>
   have g1 := Zdw hk
   have g0 := (Yd.1 hk).1
   have g2 : i + 1 < 9223372036854775808 := by omega
   have g3 : r.length < 549755813887 := by omega
   have h4 := hP n
   dsimp only [Zkc, Zis, Zoi, ZeT, Zne, Znf, ZoF, Zny, br, ix, vz, vw, vs, lc, lxc, ap, aq, cl, wa, mlk, lnN, ZmZ, fl]
   simp only [g1, g2, g3, hk, ok.im, ok.e, decide_true, if_true, Option.bind_some]
   cases hM : isM s n with
   | false =>
    cases hE : isE s n with
    | false =>
     refine ZbD ⟨k - 1, by omega, by simp only; omega, by simp only; omega, fun x => ?_⟩
     rw [h4 x hk, h3, hM, hE]
     simp
    | true =>
     refine ZbD ⟨k - 1, by omega, by simp only; omega, by simp only [List.length_append, Yaf]; omega, fun x => ?_⟩
     rw [h4 x hk, YH, h3, hM, hE]
     simp
   | true =>
    obtain ⟨rr, e34, kr⟩ := m34 ok h n
    have hu := h.ul n
    have hsl := Zcs (Zbw s n)
    have g5 : (r ++ [n]).length + (Zcm (Zbw s n)).length < 549755813888 := by rw [List.length_append, Yaf]; omega
    simp only [m50 ok h, e34, Option.bind_some, g5, if_true, Ya8, YaE, if_false]
    refine Zev (Q := fun o => Sum.elim (fun r' => r'.length ≤ r.length + 200 ∧ ∀ x, x ∈ r' ↔ x ∈ (r ++ [n]) ++ Zcm (Zbw s n) ∨ ∃ y ∈ Zb8 rr, x = y ∨ x ∈ Zbw s y) (fun _ => False) o) ?_ fun o ho => ?_
    ·refine ZeZ (B := ZlU ns w i) (fun k v => k = v.2.length ∧ k ≤ 8 ∧ v.1.length + k * 11 ≤ r.length + 111 ∧ ∀ x, (x ∈ v.1 ∨ ∃ y ∈ Zb8 v.2, x = y ∨ x ∈ Zbw s y) ↔ (x ∈ (r ++ [n]) ++ Zcm (Zbw s n) ∨ ∃ y ∈ Zb8 rr, x = y ∨ x ∈ Zbw s y)) _ (fun k v hI => ?_) big rr.length ((r ++ [n]) ++ Zcm (Zbw s n), rr) (Zba (by have := kr.l; omega)) ⟨rfl, kr.l, by have := kr.l; simp only [List.length_append, Yaf]; omega, fun x => Iff.rfl⟩
     obtain ⟨a, b⟩ := v
     obtain ⟨i1, i2, i3, i4⟩ := hI
     simp only at i1 i2 i3 i4
     unfold ZlU
     simp only
     unfold ZoI
     refine Zr6 (fun e => ?_) fun j p hp => ?_
     ·subst e
      refine ZbD ⟨by omega, fun x => ?_⟩
      have := i4 x
      simpa [Zb8] using this
     ·have hlt := (Yd.1 hp).1
      have hup := h.ul p.1
      have hsp := Zcs (Zbw s p.1)
      have g6 : a.length < 549755813887 := by omega
      have g7 : (a ++ [p.1]).length + (Zcm (Zbw s p.1)).length < 549755813888 := by rw [List.length_append, Yaf]; omega
      dsimp only [ZlU, ZoI, Zr8, ZrH, vz, vw, lc, ap, aq, cl, nxN, lnN, ZmZ, fl]
      simp only [m50 ok h, Option.bind_some, g6, g7, if_true]
      refine ZbD ⟨(b.eraseIdx j).length, by rw [Yaz hlt]; omega, rfl, by rw [Yaz hlt]; omega, ?_, fun x => ?_⟩
      ·rw [Yaz hlt]
       simp only [List.length_append, Yaf]
       omega
      ·rw [← i4 x]
       have hperm := (Zfr hp).map (·.1)
       have hmem : ∀ y, y ∈ Zb8 b ↔ y = p.1 ∨ y ∈ Zb8 (b.eraseIdx j) := fun y => by
        rw [show (y ∈ Zb8 b ↔ y ∈ List.map (·.1) (p :: b.eraseIdx j)) from hperm.mem_iff.symm]
        simp [Zb8]
       simp only [YH, YM, Zbo]
       constructor
       ·rintro (((q | q) | q) | ⟨y, q, q2⟩)
        ·exact .inl q
        ·exact .inr ⟨p.1, (hmem _).2 (.inl rfl), .inl q⟩
        ·exact .inr ⟨p.1, (hmem _).2 (.inl rfl), .inr q⟩
        ·exact .inr ⟨y, (hmem _).2 (.inr q), q2⟩
       ·rintro (q | ⟨y, q, q2⟩)
        ·exact .inl (.inl (.inl q))
        ·rcases (hmem y).1 q with rfl | q
         ·rcases q2 with q2 | q2
          ·exact .inl (.inl (.inr q2))
          ·exact .inl (.inr q2)
         ·exact .inr ⟨y, q, q2⟩
    ·cases o with
     | inr _ => exact ho.elim
     | inl r' =>
      obtain ⟨l1, l2⟩ := ho
      simp only [Sum.elim_inl]
      refine ZbD ⟨k - 1, by omega, by simp only; omega, by simp only; omega, fun x => ?_⟩
      rw [h4 x hk, l2, hM]
      simp only [YH, YM, Zbo, h3, true_or, and_true, true_and]
      constructor
      ·rintro (((q | q) | q) | ⟨y, q, q2⟩)
       ·exact .inl q
       ·exact .inr (.inl q)
       ·exact .inr (.inr (.inl q))
       ·have hr : Rch s n y := (kr.i y).1 ((kr.k y).1 q)
        rcases q2 with rfl | q2
        ·cases hr with
         | one q => exact .inr (.inr (.inl (Zeb q)))
         | tl p q => exact .inr (.inr (.inr ⟨_, p, Zeb q⟩))
        ·exact .inr (.inr (.inr ⟨y, hr, q2⟩))
      ·rintro (q | q | q | ⟨y, q, q2⟩)
       ·exact .inl (.inl (.inl q))
       ·exact .inl (.inl (.inr q))
       ·exact .inl (.inr q)
       ·exact .inr ⟨y, (kr.k y).2 ((kr.i y).2 q), .inr q2⟩
 dsimp only [ZbO, ZmF, ZlM, Zmk, ZkM, Zl4, Zmg, ZkP, ZlD, vz, vw, lc, cl, rn, lrN, fl, fr, eqL]
 simp only [m32 h, Option.bind_some, ← hw]
 refine Zev q1 fun o ho => ?_
 cases o with
 | inr _ => exact ho.elim
 | inl r =>
  obtain ⟨l1, l2⟩ := ho
  have hs : (Zem r).length = r.length := (Zcb r).length_eq
  simp only [Sum.elim_inl]
  unfold Za8 ZaQ
  rw [if_pos (by omega)]
  simp only [Option.bind_some, hs, if_true]
  rw [if_pos (by omega)]
  refine ZbD ?_
  exact Zkq hl.a fun x => (hl.m x).trans (l2 x).symm
end
theorem m14 {l : List ByteArray} (h : l.length < 1000000) : ZaO l l = some true := by
 have q1 := ZbF (B := Zli l l) (I := fun k i => k + i = l.length) (Q := fun o => o = .inl ()) (fun k i hI => by
  cases hk : l[i]? with
  | none =>
   have := Y2.1 hk
   exact ⟨.ex (), by dsimp only [Zli, Znv, br, ix, vz, vs, lrt, ln, lxe, wa, eqL]; simp [show ¬ (i : Int) < (l.length : Int) by omega], rfl⟩
  | some x =>
   have g1 := Zdw hk
   have g0 := (Yd.1 hk).1
   have g2 : i + 1 < 9223372036854775808 := by omega
   exact ⟨.nx (i + 1), by dsimp only [Zli, Znv, br, ix, vz, vs, lrt, ln, lxe, wa, eqL]; simp [g1, g2, hk], k - 1, by omega, by omega⟩) big l.length 0 (Zba (by omega)) rfl
 obtain ⟨o, e, rfl⟩ := q1
 dsimp only [ZaO, ZsD, Zrg, ZsE, br, vz, lr, lc, eqL]
 rw [e]
 simp
theorem m11 (s : Scm) (hm : s.messages.length ≤ 1048576) : ∃ b, Za3 s = some b ∧ (b = true → Fw s) := by
 dsimp only [Za3, Zss, ZrC, Zq0, br, vz, vy, vw, lr, lc, eqL]
 by_cases h1 : (8 : Int) < (s.messages.length : Int)
 ·exact ⟨false, by simp [h1], fun q => by cases q⟩
 ·by_cases h2 : (8 : Int) < (s.enums.length : Int)
  ·exact ⟨false, by simp [h2], fun q => by cases q⟩
  ·have q1 := ZbF (B := Zjn s) (I := fun k i => k + i = s.messages.length ∧ ∀ m ∈ s.messages.take i, m.fields.length ≤ 10) (Q := fun o => Sum.elim (fun _ => ∀ m ∈ s.messages, m.fields.length ≤ 10) (fun b => b = false) o) (fun k i hI => by
    obtain ⟨i1, i2⟩ := hI
    cases hk : s.messages[i]? with
    | none =>
     have := Y2.1 hk
     rw [Yal this] at i2
     exact ⟨.ex (), by dsimp only [Zjn, Zk8, br, ix, vz, vw, vs, lrt, ln, lxe, wa, eqL]; simp [show ¬ (i : Int) < (s.messages.length : Int) by omega], i2⟩
    | some x =>
     have g1 := Zdw hk
     obtain ⟨g0, rfl⟩ := Yd.1 hk
     have g2 : i + 1 < 9223372036854775808 := by omega
     by_cases hf : (10 : Int) < (s.messages[i].fields.length : Int)
     ·exact ⟨.rt false, by dsimp only [Zjn, Zk8, br, ix, vz, vw, vs, lrt, ln, lxe, wa, eqL]; simp [g0, hk, hf], rfl⟩
     ·refine ⟨.nx (i + 1), by dsimp only [Zjn, Zk8, br, ix, vz, vw, vs, lrt, ln, lxe, wa, eqL]; simp [g0, g2, hk, hf], k - 1, by omega, by omega, fun m hmm => ?_⟩
      rw [YW g0] at hmm
      rcases YH.1 hmm with q | q
      ·exact i2 m q
      ·rw [YM.1 q]; omega) big s.messages.length 0 (Zba (by omega)) ⟨rfl, by simp⟩
   obtain ⟨o, e, hq⟩ := q1
   cases o with
   | inl u => exact ⟨true, by simp [h1, h2, e], fun _ => ⟨by omega, by omega, hq⟩⟩
   | inr b => exact ⟨b, by simp [h1, h2, e], fun q => by have : b = false := hq; rw [this] at q; cases q⟩
theorem ZrK {s : Scm} (h : bkL (ZbR s) ≤ 1048576) : s.messages.length ≤ 1048576 := by
 have := ZpH (e := Zbe) s.messages
 simp only [ZbR, bkL, bk] at h
 omega
theorem m26 {s : Scm} (h : Fw s) : ∃ b, Zax s = some b ∧ (b = false → ∀ n, isM s n = true → isE s n = false) := by
 have h8 := h.m
 have q1 := ZbF (B := Zki s) (I := fun k i => k + i = s.messages.length ∧ ∀ m ∈ s.messages.take i, isE s m.name = false) (Q := fun o => Sum.elim (fun _ => ∀ m ∈ s.messages, isE s m.name = false) (fun b => b = true) o) (fun k i hI => by
  obtain ⟨i1, i2⟩ := hI
  cases hk : s.messages[i]? with
  | none =>
   have := Y2.1 hk
   rw [Yal this] at i2
   exact ⟨.ex (), by dsimp only [Zki, Zk0, ZkH, Zkx, Zml, br, ix, vz, vw, vs, lrt, ln, lxe, lc, cl, wa, du, eqL]; simp [show ¬ i < s.messages.length by omega], i2⟩
  | some m =>
   obtain ⟨g0, hgi⟩ := Yd.1 hk
   have g2 : i + 1 < 9223372036854775808 := by omega
   have e := Zlk s m.name
   cases hE : isE s m.name with
   | true =>
    rw [hE] at e
    have e := of_decide_eq_true e
    exact ⟨.rt true, by dsimp only [Zki, Zk0, ZkH, Zkx, Zml, br, ix, vz, vw, vs, lrt, ln, lxe, lc, cl, wa, du, eqL]; simp [g0, hk, hgi, m46 h, e], rfl⟩
   | false =>
    rw [hE] at e
    have e := of_decide_eq_false e
    refine ⟨.nx (i + 1), by dsimp only [Zki, Zk0, ZkH, Zkx, Zml, br, ix, vz, vw, vs, lrt, ln, lxe, lc, cl, wa, du, eqL]; simp [g0, g2, hk, hgi, m46 h, e], k - 1, by omega, by omega, fun x hx => ?_⟩
    rw [YW g0, hgi] at hx
    rcases YH.1 hx with q | q
    ·exact i2 x q
    ·rw [YM.1 q]; exact hE) big s.messages.length 0 (Zba (by omega)) ⟨rfl, by simp⟩
 obtain ⟨o, e, hq⟩ := q1
 cases o with
 | inl u =>
  refine ⟨false, by dsimp only [Zax, Zn2, ZoD, ZnS, ZnJ, vw, lr, lc]; simp [e], fun _ n hn => ?_⟩
  obtain ⟨m, hm, rfl⟩ := Yr.1 (ZcA.1 hn)
  exact hq m hm
 | inr b =>
  have hq : b = true := hq
  subst hq
  exact ⟨true, by dsimp only [Zax, Zn2, ZoD, ZnS, ZnJ, vw, lr, lc]; simp [e], fun q => by cases q⟩
theorem ClOk.self {s : Scm} {ns l : List ByteArray} (k : ClOk s ns l) (hs : ∀ n, isM s n = true → isE s n = false) : ClOk s l l := by
 refine ⟨k.a, fun x => ⟨fun hx => .inl ⟨hx, k.defd hx⟩, ?_⟩⟩
 rintro (⟨hx, _⟩ | ⟨n, hn, hm, q⟩)
 ·exact hx
 ·
  have he := hs n hm
  have key : ∀ n0, (n0 ∈ ns ∧ isM s n0 = true) → (n = n0 ∨ Rch s n0 n) → x ∈ l := fun n0 ⟨h1, h2⟩ h3 => by
   refine (k.m x).2 (.inr ⟨n0, h1, h2, ?_⟩)
   rcases h3 with rfl | h3
   ·exact q
   ·rcases q with q | ⟨y, q, q2⟩
    ·exact .inr ⟨n, h3, q⟩
    ·exact .inr ⟨y, h3.trans q, q2⟩
  rcases (k.m n).1 hn with ⟨h1, _⟩ | ⟨n0, h1, h2, h3 | ⟨y, h3, h4⟩⟩
  ·exact key n ⟨h1, hm⟩ (.inl rfl)
  ·exact key n0 ⟨h1, h2⟩ (.inr (.one (Zix h3 he)))
  ·exact key n0 ⟨h1, h2⟩ (.inr (.tl h3 (Zix h4 he)))
theorem Ztn {l : List ByteArray} (h : Asc l) {i : Nat} {x y : ByteArray} (hx : l[i]? = some x) (hy : l[i + 1]? = some y) : sLt x y = true := by
 obtain ⟨a, rfl⟩ := Yd.1 hx
 obtain ⟨b, rfl⟩ := Yd.1 hy
 exact Yaq.1 h i (i + 1) a b (by omega)
theorem Zd0 (s : Scm) (ns : List ByteArray) (hm : s.messages.length ≤ 1048576) : Zai s ns = some true := by
 obtain ⟨b, e, hb⟩ := m11 s hm
 cases b with
 | false => dsimp only [Zai, Zff, Zfh, Zfv, Zjh, Zjz, Zjs, ZjZ, br, vz, vy, vw, lr, lc, cl, clg, fl, fz, eqL]; simp [e]
 | true =>
  have h := hb rfl
  have h8 := h.m
  by_cases h20 : (20 : Int) < (ns.length : Int)
  ·dsimp only [Zai, Zff, Zfh, Zfv, Zjh, Zjz, Zjs, ZjZ, br, vz, vy, vw, lr, lc, cl, clg, fl, fz, eqL]; simp [e, h20]
  ·obtain ⟨sh, e26, ks⟩ := m26 h
   cases sh with
   | true => dsimp only [Zai, Zff, Zfh, Zfv, Zjh, Zjz, Zjs, ZjZ, br, vz, vy, vw, lr, lc, cl, clg, fl, fz, eqL]; simp [e, h20, e26]
   | false =>
    have ks := ks rfl
    obtain ⟨l, _, kk⟩ := m31 h ns (by omega)
    have hl := kk.len h
    have eC := n28 h ns l (by omega) kk
    have eC2 := n28 h l l (by omega) (kk.self ks)
    have q1 := Zdu (B := Zlm s ns l) (N := big) l (fun i b => (b, i)) (fun i b => b.length ≤ i * 10) (fun b n => (.inl (b ++ Zcm (Zbw s n)) : List ByteArray ⊕ Bool)) id (fun i b n hn hI => by
     obtain ⟨g0, hgi⟩ := Yd.1 hn
     have g2 : i + 1 < 9223372036854775808 := by omega
     have h1 := Zcs (Zbw s n)
     have h2 := h.ul n
     have g3 : b.length + (Zcm (Zbw s n)).length < 549755813888 := by omega
     refine ⟨by dsimp only [Zlm, Zm4, Znx, ZnA, br, ix, vz, vw, vs, ln, lxe, lc, aq, cl, wa, fl, eqL]; simp [g0, g2, g3, hn, hgi, m29 h], fun b' q => by cases q; rw [List.length_append]; omega⟩) (fun b _ => by dsimp only [Zlm, Zm4, Znx, ZnA, br, ix, vz, vw, vs, ln, lxe, lc, aq, cl, wa, fl, eqL]; simp) [] (by simp) (Zba (by omega))
    rw [ZcM (fun b n => b ++ Zcm (Zbw s n)) (fun _ _ => rfl)] at q1
    obtain ⟨r, hr⟩ : ∃ r, r = l.foldl (fun b n => b ++ Zcm (Zbw s n)) [] := ⟨_, rfl⟩
    rw [← hr] at q1
    have rm : ∀ x, x ∈ r ↔ ∃ n ∈ l, x ∈ Zbw s n := by
     have : ∀ (l a : List ByteArray) x, x ∈ l.foldl (fun b n => b ++ Zcm (Zbw s n)) a ↔ x ∈ a ∨ ∃ n ∈ l, x ∈ Zbw s n := fun l => by
      induction l with
      | nil => intro a x; simp
      | cons n l ih =>
       intro a x
       rw [Yah, ih, YH, Zbo]
       simp only [Yo, exists_eq_or_imp, or_assoc]
     intro x
     rw [hr, this]
     simp
    have rl : r.length ≤ 160 := by
     have : ∀ (l a : List ByteArray), (l.foldl (fun b n => b ++ Zcm (Zbw s n)) a).length ≤ a.length + l.length * 10 := fun l => by
      induction l with
      | nil => intro a; simp
      | cons n l ih =>
       intro a
       rw [Yah]
       have h0 := ih (a ++ Zcm (Zbw s n))
       have h1 := Zcs (Zbw s n)
       have h2 := h.ul n
       rw [List.length_append] at h0
       simp only [Y4]
       omega
     have := this l []
     rw [← hr] at this
     simp at this
     omega
    have hin : ∀ x ∈ r, x ∈ l := fun x hx => by
     obtain ⟨n, hn, q⟩ := (rm x).1 hx
     exact ((kk.self ks).m x).2 (.inr ⟨n, hn, ZsB q, .inl q⟩)
    have q2 := ZbF (B := Zmy ns l r) (I := fun k i => k + i = r.length) (Q := fun o => o = .inl ()) (fun k i hI => by
     cases hk : r[i]? with
     | none =>
      have := Y2.1 hk
      exact ⟨.ex (), by dsimp only [Zmy, ZoR, br, vz, vs, lrt, ln, lxe, cl, wa, ir, ca, fl, eqN]; simp [show ¬ i < r.length by omega], rfl⟩
     | some x =>
      obtain ⟨g0, hgi⟩ := Yd.1 hk
      have g2 : i + 1 < 9223372036854775808 := by omega
      have := Zdq.2 (hin x (Yt hk))
      exact ⟨.nx (i + 1), by dsimp only [Zmy, ZoR, br, vz, vs, lrt, ln, lxe, cl, wa, ir, ca, fl, eqN]; simp [g0, g2, hk, hgi, m27 (l := l) (by omega), this], k - 1, by omega, by omega⟩) big r.length 0 (Zba (by omega)) rfl
    obtain ⟨o2, e2, rfl⟩ := q2
    have q3 := ZbF (B := ZjK ns l r) (I := fun k i => k + i = l.length) (Q := fun o => o = .inl ()) (fun k i hI => by
     cases hk : l[i]? with
     | none =>
      have := Y2.1 hk
      exact ⟨.ex (), by dsimp only [ZjK, Zly, br, ix, ixg, vz, vs, vg, lrt, ln, lxe, cl, clg, wa, wi, eqL]; simp [show ¬ i < l.length by omega], rfl⟩
     | some x =>
      obtain ⟨g0, hgi⟩ := Yd.1 hk
      have g2 : i + 1 < 9223372036854775808 := by omega
      have hx : x ∈ l := Yt hk
      have hor : x ∈ ns ∨ x ∈ r := by
       rcases (kk.m x).1 hx with ⟨q, _⟩ | ⟨n, hn, hM, q | ⟨y, q, q2⟩⟩
       ·exact .inl q
       ·exact .inr ((rm x).2 ⟨n, (kk.m n).2 (.inl ⟨hn, .inl hM⟩), q⟩)
       ·refine .inr ((rm x).2 ⟨y, (kk.m y).2 (.inr ⟨n, hn, hM, ?_⟩), q2⟩)
        cases q with
        | one q => exact .inl (Zeb q)
        | tl p q => exact .inr ⟨_, p, Zeb q⟩
      have hb : (!Zic ns x && !Zic r x) = false := by
       rcases hor with q | q
       ·rw [Zdq.2 q]; rfl
       ·rw [Zdq.2 q]; simp
      have e27a := m27 (l := ns) (by omega) x
      have e27b := m27 (l := r) (by omega) x
      have gx : l.getD i Rw.z = x := by rw [YE, hk]; rfl
      refine ⟨.nx (i + 1), ?_, k - 1, by omega, by omega⟩
      cases i with
      | zero =>
       dsimp only [ZjK, Zly, br, ix, ixg, vz, vs, vg, lrt, ln, lxe, cl, clg, wa, wi, eqL]
       cases hA : Zic ns x with
       | true => simp [g0, g2, hk, hgi, e27a, hA]
       | false =>
        have hB : Zic r x = true := by
         cases hB : Zic r x with
         | true => rfl
         | false => rw [hA, hB] at hb; cases hb
        simp [g0, g2, hk, hgi, e27a, e27b, hA, hB]
      | succ j =>
       have g5 : j < l.length := by omega
       have hj : l[j]? = some l[j] := Yc g5
       have hlt := Ztn kk.a hj hk
       have gj : l.getD j Rw.z = l[j] := by rw [YE, hj]; rfl
       have g6 : ((j + 1 : Nat) : Int) - 1 = (j : Int) := by omega
       have g7 : (-9223372036854775808 : Int) ≤ j ∧ (j : Int) < 9223372036854775808 := by omega
       have g8 : (j : Int) + 1 < (l.length : Int) := by omega
       have g9 : (0 : Int) ≤ (j : Int) + 1 := by omega
       dsimp only [ZjK, Zly, br, ix, ixg, vz, vs, vg, lrt, ln, lxe, cl, clg, wa, wi, eqL]
       rw [g6]
       cases hA : Zic ns x with
       | true => simp [g0, g2, g5, g7, g8, g9, hk, hgi, e27a, hA, hlt]
       | false =>
        have hB : Zic r x = true := by
         cases hB : Zic r x with
         | true => rfl
         | false => rw [hA, hB] at hb; cases hb
        simp [g0, g2, g5, g7, g8, g9, hk, hgi, e27a, e27b, hA, hB, hlt]) big l.length 0 (Zba (by omega)) rfl
    obtain ⟨o3, e3, rfl⟩ := q3
    dsimp only [Zai, Zff, Zfh, Zfv, Zjh, Zjz, Zjs, ZjZ, br, vz, vy, vw, lr, lc, cl, clg, fl, fz, eqL]
    simp [e, h20, e26, eC, eC2, m14 (l := l) (by omega), q1, e2, e3, awk]
theorem Zgf {s : Scm} {ns : List ByteArray} (h : bkL (ZbR s) ≤ 1048576) : Zai s ns = some true := Zd0 s ns (ZrK h)
end Go.Proofs.Ythhipejbnbochaa
namespace Go.Proofs.Ythhipejbnbochaa
set_option linter.all false
open Go Go.Eng Go.ChangeShapes Go.WideShapes Go.ChangeAt Go.RowKit
theorem own : ownKnob Try.prog.godebug = none := by kernel_rfl
namespace GraphClosed
open Go.Proofs.Ythhipejbnbochaa
set_option maxRecDepth 100000 in
theorem contract (H : Type) (enc : TypeId × Value → H) (W : World) (base : Nat) (args : Array Value) (ds gs : List (DataW H)) (before : List MemPlace)
  (hval : ∀ (j : Nat) t v, Try.f10.params[j]? = some t → args[j]? = some v → Value.okWide Try.prog W .any base t v)
  (hW : DataW.Whole enc Try.prog Try.f10.params.toList Rows.graphClosedSpec.vars false W args.toList ds gs before) (hk : Rows.uptoSmall H (ds ++ gs) = true) :
  Calls Try.prog 10 args W fun e W' => ∃ v, e = .returned v ∧ Rows.graphClosedSpec.post enc Try.prog Try.f10 false true false false W args v W' := by
 obtain ⟨p, q, hA0, hV, rfl, hfz, hnd⟩ := id hW
 have hA : DataW.TrodAll enc Try.prog W 0 (fun _ => true) true Try.f10.params.toList args.toList ds p := hA0
 rw [Try.params10] at hA hval
 obtain ⟨v0, vs0, d0, ds0, p0, q0, hargs, rfl, rfl, h0, r0⟩ := trodAll_cons hA
 obtain ⟨v1, vs1, d1, ds1, p1, q1, rfl, rfl, rfl, h1, r1⟩ := trodAll_cons r0
 obtain ⟨rfl, rfl, rfl⟩ := trodAll_nil r1
 obtain rfl : args = #[v0, v1] := by cases args; simp_all
 have hb : Rows.uptoBulkAll ([d0, d1] ++ gs) ≤ 1048576 := of_decide_eq_true hk
 simp only [YaN, Yam, Rows.uptoBulkAll] at hb
 obtain ⟨s, re0, fe0⟩ := Zq6 Zum Try.underlying26 (hval 0 26 v0 rfl rfl) h0
 obtain ⟨ns, re1, fe1⟩ := Zk1 (e := Zac) (fun n => Zay Try.underlying31 (by kernel_rfl : Try.prog.cellsOf 9 = 1) (by decide) (fun _ => rfl) (fun m _ => ZbM Try.underlying9)) Try.underlying31 (hval 1 31 v1 rfl rfl) h1
 simp only [bk] at fe1
 obtain ⟨rfl, rfl⟩ := trodVars_none hV
 have A := (Zzv s ns).k 0 Hp0 true (Zgf (by omega))
 refine (A.2 (fun _ => ⟨0, 0, 0⟩) (· < W.heap.size) W #[v0, v1] (ok0 _) (Zrd (xs := [.agg ((ZbR s).map .d), .d (.list (ns.map Zac))]) (vs := [v0, v1]) ⟨re0 _ _, re1 _ _ _, trivial⟩)).mono fun e W' ⟨r, v, H', m', S', he, hp, hO, hr, hx⟩ => ?_
 obtain ⟨hp, _⟩ := hp
 subst he
 subst hp
 cases hr
 rename_i hd
 cases hd
 exact ⟨_, rfl, Zlo hW rfl (by kernel_rfl) (by rw [Try.params10]; exact (by decide +kernel)) (by kernel_rfl) Try.underlying4 rfl ⟨hx.os, hx.tape, hx.output, hx.size, hx.blk⟩⟩
set_option maxRecDepth 100000 in
theorem lifted (os : Os) (started : os.Started) (H : Type) (enc : TypeId × Value → H) (F : Stop.Interp) :
  ReturnsInHanded {} Try.checked os 10 .any ((Rows.OpenSpec.upto Rows.graphClosedSpec).pre6 enc Try.prog Try.f10 Rows.graphClosedUptoRow.domain false) (((Rows.OpenSpec.upto Rows.graphClosedSpec).at F).post enc Try.prog Try.f10 false true false false) := by
 refine returnsInHanded_of_cond (C := Try.checked) (s := Rows.OpenSpec.upto Rows.graphClosedSpec) (k := Rows.uptoSmall) rfl own started (by kernel_rfl) Try.func10
  (OpenSpec.witness (enc := enc) (C := Try.checked) (s := Rows.OpenSpec.upto Rows.graphClosedSpec) (k := Rows.uptoSmall) rfl false ⟨#[], #[.agg #[.slice none 0 0, .slice none 0 0, .slice none 0 0], .slice none 0 0], []⟩ 8 (by kernel_rfl) (by kernel_rfl) (by kernel_rfl)
   (x := ([.agg [.nil, .nil, .nil], .nil], [], [])) (by kernel_rfl) rfl (by kernel_rfl)) ?_
 intro W base args ds gs before hval hW _ hk _
 exact contract H enc W base args ds gs before hval hW hk
theorem holds : Rows.GraphClosedUptoSaid :=
 OpenClaim.holds_of_cond 10 Try.f10 rfl rfl rfl rfl rfl rfl rfl ⟨rfl, rfl, rfl, rfl, rfl⟩ rfl rfl rfl rfl rfl (by kernel_rfl) Try.func10 (by kernel_rfl)
  (of_decide_eq_true (by kernel_rfl)) (by unfold Func.isWrapper; first | (rw [if_pos (by decide +kernel)]; kernel_rfl) | (rw [if_neg (by decide +kernel)]; exact ⟨rfl, rfl⟩))
  (fun os started H enc _ F => lifted os started H enc F)
end GraphClosed
end Go.Proofs.Ythhipejbnbochaa
