/-
  What is proved: the second form of wireschemalaw13.GraphUses: the law returns true and leaves its arguments as they were.
  Condition: the arguments are together of bulk at most 1048576 (the given second form); nothing else.
-/
import Derived.Test.YthhipejbnbochaaCx21
import Derived.Test.YthhipejbnbochaaCx20
import Derived.Test.YthhipejbnbochaaRows
import Derived.WalkKit
import Derived.ProofKit
import Derived.OpenShut
import Derived.JoinedCond
import Derived.Test.YthhipejbnbochaaCx00
namespace Go.Proofs.Ythhipejbnbochaa
set_option linter.all false
open Go Go.Eng
theorem Zvw {s : Scm} {f : Fld} (h : toF s f = true) : ldF s f = true := by unfold ldF; rw [h]; rfl
theorem ZiH {s : Scm} {n x : ByteArray} (h : x ∈ Zbg s n) : x ∈ Zcr s n := by
 unfold Zbg at h
 unfold Zcr
 obtain ⟨f, hf, rfl⟩ := Yr.1 h
 obtain ⟨a, b⟩ := YE.1 hf
 exact Yr.2 ⟨f, YE.2 ⟨a, Zvw b⟩, rfl⟩
theorem Zla {s : Scm} {n x : ByteArray} (h : x ∈ Zcr s n) : isM s x = true ∨ isE s x = true := by
 unfold Zcr at h
 obtain ⟨f, hf, rfl⟩ := Yr.1 h
 have := (YE.1 hf).2
 unfold ldF toF at this
 rcases Bool.or_eq_true_iff.1 this with q | q
 ·exact .inl (YaY.1 q).1
 ·exact .inr (YaY.1 q).2
def ClP (s : Scm) (ns : List ByteArray) (x : ByteArray) : Prop := (x ∈ ns ∧ (isM s x = true ∨ isE s x = true)) ∨ ∃ n ∈ ns, isM s n = true ∧ (x ∈ Zcr s n ∨ ∃ y, Rch s n y ∧ x ∈ Zcr s y)
theorem ClOk.uniq {s : Scm} {ns l r : List ByteArray} (h : ClOk s ns l) (k : ClOk s ns r) : l = r := ZoY h.a k.a fun x => (h.m x).trans (k.m x).symm
theorem ClOk.defd {s : Scm} {ns l : List ByteArray} (h : ClOk s ns l) {x : ByteArray} (hx : x ∈ l) : isM s x = true ∨ isE s x = true := by
 rcases (h.m x).1 hx with ⟨_, q⟩ | ⟨n, _, _, q | ⟨y, _, q⟩⟩
 ·exact q
 ·exact Zla q
 ·exact Zla q
theorem ClOk.len {s : Scm} (hs : Fw s) {ns l : List ByteArray} (h : ClOk s ns l) : l.length ≤ 16 := by
 have := ZdN (ZcY h.a) (r := nmM s ++ s.enums.map Enm.name) fun x hx => by
  rcases h.defd hx with q | q
  ·exact YO _ (Zdf.1 q)
  ·exact Yad _ (ZpE.1 q)
 have h1 := hs.m
 have h2 := hs.e
 simp only [nmM, List.length_append, Ym] at this
 omega
section
variable {s : Scm} (h : Fw s)
include h
theorem m31 (ns : List ByteArray) (hn : ns.length ≤ 1000) : ∃ l, ZaE s ns = some l ∧ ClOk s ns l := by
 have q1 := Zb9 (B := Zma s ns) ns (fun x => if (isM s x || isE s x) = true then some x else none) [] (by simp; omega) (fun i b x hx hb g2 g1 => by
  dsimp only [Zma, Zn1, br, ix, vz, vw, vs, v2, ln, lxe, cl, wa, eqL]
  simp only [g1, g2, hx, m54 h, decide_true, if_true, Option.bind_some]
  cases isM s x || isE s x with
  | true => simp [m53 hb]
  | false => simp) (fun b => by dsimp only [Zma, Zn1, br, ix, vz, vw, vs, v2, ln, lxe, cl, wa, eqL]; simp)
 have e0 : ns.filterMap (fun x => if (isM s x || isE s x) = true then some x else none) = ns.filter (fun x => isM s x || isE s x) := by
  have := Zd2 (fun x => isM s x || isE s x) (fun x : ByteArray => x) ns
  rwa [List.map_id'] at this
 rw [e0, Zdm] at q1
 obtain ⟨v0, hv0⟩ : ∃ v0, v0 = ZcM (ns.filter fun x => isM s x || isE s x) := ⟨_, rfl⟩
 rw [← hv0] at q1
 have a0 : Asc v0 := hv0 ▸ ZfL _
 have mem0 : ∀ x, x ∈ v0 ↔ x ∈ ns ∧ (isM s x = true ∨ isE s x = true) := fun x => by rw [hv0, ZbB, YE, Bool.or_eq_true_iff]
 have l0 : v0.length ≤ 1000 := by
  rw [hv0]
  exact YS (ZcQ _) (YS (Y0 _ _) hn)
 obtain ⟨y8, e8, k8⟩ := m55 h ns hn
 have hy8 := k8.len h
 have q2 := ZeU (B := Zlu s y8) (N := big) y8 (fun i b => (b, i)) (fun i b => b.length ≤ 1000 + i * 10) (fun b y => (.inl ((ZcM (Zcr s y)).foldl Zbr b) : List ByteArray ⊕ List ByteArray)) id (fun i b y hy hI => by
  have g1 := Zdq hy
  have g0 := (Yg.1 hy).1
  have g2 : i + 1 < 9223372036854775808 := by omega
  have h1 := ZfN (ZcM (Zcr s y)) b
  have h2 := ZcQ (Zcr s y)
  have h3 := h.ul y
  have q := Zb9 (B := Zki s y8 i (ZcM (Zcr s y))) (ZcM (Zcr s y)) some b (by omega) (fun j c x hx hc g4 g3 => by
   dsimp only [Zki, Zm0, br, ix, vz, vs, ln, lxe, cl, wa, eqL]
   simp only [g3, g4, hx, m53 hc, decide_true, if_true, Option.bind_some, Option.elim_some]) (fun c => by dsimp only [Zki, Zm0, br, ix, vz, vs, ln, lxe, cl, wa, eqL]; simp)
  rw [List.filterMap_some] at q
  refine ⟨?_, fun b' e => by cases e; omega⟩
  dsimp only [Zlu, ZnK, ZnO, ZmU, br, ix, vz, vw, vs, ln, lxe, lc, cl, wa, eqL]
  simp only [g1, g2, hy, m30 h, q, decide_true, if_true, Option.bind_some, Sum.elim_inl]) (fun b _ => by dsimp only [Zlu, ZnK, ZnO, ZmU, br, ix, vz, vw, vs, ln, lxe, lc, cl, wa, eqL]; simp) v0 (by omega) (Zbq (by omega))
 rw [Zdl (fun b y => (ZcM (Zcr s y)).foldl Zbr b) (fun _ _ => rfl)] at q2
 obtain ⟨g1, g2⟩ := Zhv (fun y => ZcM (Zcr s y)) y8 v0
 refine ⟨y8.foldl (fun a y => (ZcM (Zcr s y)).foldl Zbr a) v0, ?_, g1 a0, fun x => ?_⟩
 ·dsimp only [ZaE, ZmH, Zme, Zqi, Zr9, Zp6, Zr4, vz, vw, lr, lc, cl, fz]
  rw [q1]
  simp only [Option.bind_some, Sum.elim_inl, e8]
  rw [q2]
  rfl
 ·rw [g2, mem0]
  refine or_congr Iff.rfl ⟨fun ⟨y, hy, q⟩ => ?_, fun ⟨n, hn, hm, q⟩ => ?_⟩
  ·rw [ZbB] at q
   rcases (k8.m y).1 hy with ⟨p, p2⟩ | ⟨z, hz, p, p2⟩
   ·exact ⟨y, p, p2, .inl q⟩
   ·exact ⟨z, hz, p, .inr ⟨y, p2, q⟩⟩
  ·rcases q with q | ⟨y, q, q2⟩
   ·exact ⟨n, (k8.m n).2 (.inl ⟨hn, hm⟩), (ZbB _ _).2 q⟩
   ·exact ⟨y, (k8.m y).2 (.inr ⟨n, hn, hm, q⟩), (ZbB _ _).2 q2⟩
theorem n28 (ns l : List ByteArray) (hn : ns.length ≤ 1000) (hl : ClOk s ns l) : Zcx s ns = some l := by
 refine Zk3 ?_
 obtain ⟨w, hw⟩ : ∃ w, w = ZwD s := ⟨_, rfl⟩
 have ok : WOk s w := hw ▸ Zkf s
 have q1 : Zgi (Zc4 (ZjB ns w) big ([], 0)) fun o => Sum.elim (fun r => r.length ≤ 1000000 ∧ ∀ x, x ∈ r ↔ ClP s ns x) (fun _ => False) o := by
  refine Zeb (B := ZjB ns w) (fun k v => k + v.2 = ns.length ∧ v.1.length ≤ v.2 * 200 ∧ ∀ x, x ∈ v.1 ↔ ClP s (ns.take v.2) x) _ (fun k v hI => ?_) big ns.length ([], 0) (Zbq (by omega)) ⟨rfl, by simp, fun x => by simp [ClP]⟩
  obtain ⟨r, i⟩ := v
  obtain ⟨h1, h2, h3⟩ := hI
  simp only at h1 h2 h3
  have hP : ∀ n x, ns[i]? = some n → (ClP s (ns.take (i + 1)) x ↔ ClP s (ns.take i) x ∨ (x = n ∧ (isM s n = true ∨ isE s n = true)) ∨ (isM s n = true ∧ (x ∈ Zcr s n ∨ ∃ y, Rch s n y ∧ x ∈ Zcr s y))) := fun n x hnx => by
   obtain ⟨g0, rfl⟩ := Yg.1 hnx
   unfold ClP
   rw [Y2 g0]
   constructor
   ·rintro (⟨q, q2⟩ | ⟨m, q, q2⟩)
    ·rcases YM.1 q with q | q
     ·exact .inl (.inl ⟨q, q2⟩)
     ·obtain rfl := YN.1 q
      exact .inr (.inl ⟨rfl, q2⟩)
    ·rcases YM.1 q with q | q
     ·exact .inl (.inr ⟨m, q, q2⟩)
     ·obtain rfl := YN.1 q
      exact .inr (.inr q2)
   ·rintro ((⟨q, q2⟩ | ⟨m, q, q2⟩) | ⟨rfl, q2⟩ | q2)
    ·exact .inl ⟨YO _ q, q2⟩
    ·exact .inr ⟨m, YO _ q, q2⟩
    ·exact .inl ⟨Yad _ (by simp), q2⟩
    ·exact .inr ⟨_, Yad _ (by simp), q2⟩
  cases hk : ns[i]? with
  | none =>
   have hge := Yan.1 hk
   have e : ns.take i = ns := Yav hge
   rw [e] at h3
   dsimp only [ZjB, Ziw, ZmR, ZeM, ZmV, Zm9, ZnF, Znu, br, ix, vz, vw, vs, lc, lxc, ap, aq, cl, wa, mlk, lnN, ZmP, fl]
   rw [show decide ((i : Int) < (ns.length : Int)) = false from decide_eq_false (by omega)]
   refine Zbz ⟨?_, h3⟩
   omega
  | some n =>
   have g1 := Zdq hk
   have g0 := (Yg.1 hk).1
   have g2 : i + 1 < 9223372036854775808 := by omega
   have g3 : r.length < 549755813887 := by omega
   have h4 := hP n
   dsimp only [ZjB, Ziw, ZmR, ZeM, ZmV, Zm9, ZnF, Znu, br, ix, vz, vw, vs, lc, lxc, ap, aq, cl, wa, mlk, lnN, ZmP, fl]
   simp only [g1, g2, g3, hk, ok.im, ok.e, decide_true, if_true, Option.bind_some]
   cases hM : isM s n with
   | false =>
    cases hE : isE s n with
    | false =>
     refine Zbz ⟨k - 1, by omega, by simp only; omega, by simp only; omega, fun x => ?_⟩
     rw [h4 x hk, h3, hM, hE]
     simp
    | true =>
     refine Zbz ⟨k - 1, by omega, by simp only; omega, by simp only [List.length_append, Yae]; omega, fun x => ?_⟩
     rw [h4 x hk, YM, h3, hM, hE]
     simp
   | true =>
    obtain ⟨rr, e34, kr⟩ := m34 ok h n
    have hu := h.ul n
    have hsl := ZcQ (Zcr s n)
    have g5 : (r ++ [n]).length + (ZcM (Zcr s n)).length < 549755813888 := by rw [List.length_append, Yae]; omega
    simp only [m50 ok h, e34, Option.bind_some, g5, if_true, Ya8, YaE, if_false]
    refine Zeo (Q := fun o => Sum.elim (fun r' => r'.length ≤ r.length + 200 ∧ ∀ x, x ∈ r' ↔ x ∈ (r ++ [n]) ++ ZcM (Zcr s n) ∨ ∃ y ∈ Zb2 rr, x = y ∨ x ∈ Zcr s y) (fun _ => False) o) ?_ fun o ho => ?_
    ·refine Zeb (B := ZlN ns w i) (fun k v => k = v.2.length ∧ k ≤ 8 ∧ v.1.length + k * 11 ≤ r.length + 111 ∧ ∀ x, (x ∈ v.1 ∨ ∃ y ∈ Zb2 v.2, x = y ∨ x ∈ Zcr s y) ↔ (x ∈ (r ++ [n]) ++ ZcM (Zcr s n) ∨ ∃ y ∈ Zb2 rr, x = y ∨ x ∈ Zcr s y)) _ (fun k v hI => ?_) big rr.length ((r ++ [n]) ++ ZcM (Zcr s n), rr) (Zbq (by have := kr.l; omega)) ⟨rfl, kr.l, by have := kr.l; simp only [List.length_append, Yae]; omega, fun x => Iff.rfl⟩
     obtain ⟨a, b⟩ := v
     obtain ⟨i1, i2, i3, i4⟩ := hI
     simp only at i1 i2 i3 i4
     unfold ZlN
     simp only
     unfold ZnD
     refine ZpX (fun e => ?_) fun j p hp => ?_
     ·subst e
      refine Zbz ⟨by omega, fun x => ?_⟩
      have := i4 x
      simpa [Zb2] using this
     ·have hlt := (Yg.1 hp).1
      have hup := h.ul p.1
      have hsp := ZcQ (Zcr s p.1)
      have g6 : a.length < 549755813887 := by omega
      have g7 : (a ++ [p.1]).length + (ZcM (Zcr s p.1)).length < 549755813888 := by rw [List.length_append, Yae]; omega
      dsimp only [ZlN, ZnD, Zru, ZrS, vz, vw, lc, ap, aq, cl, nxN, lnN, ZmP, fl]
      simp only [m50 ok h, Option.bind_some, g6, g7, if_true]
      refine Zbz ⟨(b.eraseIdx j).length, by rw [Yay hlt]; omega, rfl, by rw [Yay hlt]; omega, ?_, fun x => ?_⟩
      ·rw [Yay hlt]
       simp only [List.length_append, Yae]
       omega
      ·rw [← i4 x]
       have hperm := (Zfs hp).map (·.1)
       have hmem : ∀ y, y ∈ Zb2 b ↔ y = p.1 ∨ y ∈ Zb2 (b.eraseIdx j) := fun y => by
        rw [show (y ∈ Zb2 b ↔ y ∈ List.map (·.1) (p :: b.eraseIdx j)) from hperm.mem_iff.symm]
        simp [Zb2]
       simp only [YM, YN, ZbB]
       constructor
       ·rintro (((q | q) | q) | ⟨y, q, q2⟩)
        ·exact .inl q
        ·exact .inr ⟨p.1, (hmem _).2 (.inl rfl), .inl q⟩
        ·exact .inr ⟨p.1, (hmem _).2 (.inl rfl), .inr q⟩
        ·exact .inr ⟨y, (hmem _).2 (.inr q), q2⟩
       ·rintro (q | ⟨y, q, q2⟩)
        ·exact .inl (.inl (.inl q))
        ·rcases (hmem y).1 q with rfl | q
         ·rcases q2 with q2 | q2
          ·exact .inl (.inl (.inr q2))
          ·exact .inl (.inr q2)
         ·exact .inr ⟨y, q, q2⟩
    ·cases o with
     | inr _ => exact ho.elim
     | inl r' =>
      obtain ⟨l1, l2⟩ := ho
      simp only [Sum.elim_inl]
      refine Zbz ⟨k - 1, by omega, by simp only; omega, by simp only; omega, fun x => ?_⟩
      rw [h4 x hk, l2, hM]
      simp only [YM, YN, ZbB, h3, true_or, and_true, true_and]
      constructor
      ·rintro (((q | q) | q) | ⟨y, q, q2⟩)
       ·exact .inl q
       ·exact .inr (.inl q)
       ·exact .inr (.inr (.inl q))
       ·have hr : Rch s n y := (kr.i y).1 ((kr.k y).1 q)
        rcases q2 with rfl | q2
        ·cases hr with
         | one q => exact .inr (.inr (.inl (ZiH q)))
         | tl p q => exact .inr (.inr (.inr ⟨_, p, ZiH q⟩))
        ·exact .inr (.inr (.inr ⟨y, hr, q2⟩))
      ·rintro (q | q | q | ⟨y, q, q2⟩)
       ·exact .inl (.inl (.inl q))
       ·exact .inl (.inl (.inr q))
       ·exact .inl (.inr q)
       ·exact .inr ⟨y, (kr.k y).2 ((kr.i y).2 q), .inr q2⟩
 dsimp only [ZbI, Zk7, Zkj, Zls, Zl9, Zmq, ZlB, Zke, ZmF, vz, vw, lc, cl, rn, lrN, fl, fr, eqL]
 simp only [m32 h, Option.bind_some, ← hw]
 refine Zeo q1 fun o ho => ?_
 cases o with
 | inr _ => exact ho.elim
 | inl r =>
  obtain ⟨l1, l2⟩ := ho
  have hs : (Zez r).length = r.length := (Zb3 r).length_eq
  simp only [Sum.elim_inl]
  unfold Za8 ZaU
  rw [if_pos (by omega)]
  simp only [Option.bind_some, hs, if_true]
  rw [if_pos (by omega)]
  refine Zbz ?_
  exact ZlK hl.a fun x => (hl.m x).trans (l2 x).symm
end
theorem m14 {l : List ByteArray} (h : l.length < 1000000) : ZaN l l = some true := by
 have q1 := ZcR (B := Zmu l l) (I := fun k i => k + i = l.length) (Q := fun o => o = .inl ()) (fun k i hI => by
  cases hk : l[i]? with
  | none =>
   have := Yan.1 hk
   exact ⟨.ex (), by dsimp only [Zmu, ZnB, br, ix, vz, vs, lrt, ln, lxe, wa, eqL]; simp [show ¬ (i : Int) < (l.length : Int) by omega], rfl⟩
  | some x =>
   have g1 := Zdq hk
   have g0 := (Yg.1 hk).1
   have g2 : i + 1 < 9223372036854775808 := by omega
   exact ⟨.nx (i + 1), by dsimp only [Zmu, ZnB, br, ix, vz, vs, lrt, ln, lxe, wa, eqL]; simp [g1, g2, hk], k - 1, by omega, by omega⟩) big l.length 0 (Zbq (by omega)) rfl
 obtain ⟨o, e, rfl⟩ := q1
 dsimp only [ZaN, Zqh, Zr1, Zrh, br, vz, lr, lc, eqL]
 rw [e]
 simp
theorem m11 (s : Scm) (hm : s.messages.length ≤ 1048576) : ∃ b, Za4 s = some b ∧ (b = true → Fw s) := by
 dsimp only [Za4, ZqX, Zqd, ZrR, br, vz, vy, vw, lr, lc, eqL]
 by_cases h1 : (8 : Int) < (s.messages.length : Int)
 ·exact ⟨false, by simp [h1], fun q => by cases q⟩
 ·by_cases h2 : (8 : Int) < (s.enums.length : Int)
  ·exact ⟨false, by simp [h2], fun q => by cases q⟩
  ·have q1 := ZcR (B := Zja s) (I := fun k i => k + i = s.messages.length ∧ ∀ m ∈ s.messages.take i, m.fields.length ≤ 10) (Q := fun o => Sum.elim (fun _ => ∀ m ∈ s.messages, m.fields.length ≤ 10) (fun b => b = false) o) (fun k i hI => by
    obtain ⟨i1, i2⟩ := hI
    cases hk : s.messages[i]? with
    | none =>
     have := Yan.1 hk
     rw [Yav this] at i2
     exact ⟨.ex (), by dsimp only [Zja, Zle, br, ix, vz, vw, vs, lrt, ln, lxe, wa, eqL]; simp [show ¬ (i : Int) < (s.messages.length : Int) by omega], i2⟩
    | some x =>
     have g1 := Zdq hk
     obtain ⟨g0, rfl⟩ := Yg.1 hk
     have g2 : i + 1 < 9223372036854775808 := by omega
     by_cases hf : (10 : Int) < (s.messages[i].fields.length : Int)
     ·exact ⟨.rt false, by dsimp only [Zja, Zle, br, ix, vz, vw, vs, lrt, ln, lxe, wa, eqL]; simp [g0, hk, hf], rfl⟩
     ·refine ⟨.nx (i + 1), by dsimp only [Zja, Zle, br, ix, vz, vw, vs, lrt, ln, lxe, wa, eqL]; simp [g0, g2, hk, hf], k - 1, by omega, by omega, fun m hmm => ?_⟩
      rw [Y2 g0] at hmm
      rcases YM.1 hmm with q | q
      ·exact i2 m q
      ·rw [YN.1 q]; omega) big s.messages.length 0 (Zbq (by omega)) ⟨rfl, by simp⟩
   obtain ⟨o, e, hq⟩ := q1
   cases o with
   | inl u => exact ⟨true, by simp [h1, h2, e], fun _ => ⟨by omega, by omega, hq⟩⟩
   | inr b => exact ⟨b, by simp [h1, h2, e], fun q => by have : b = false := hq; rw [this] at q; cases q⟩
theorem Ze6 (s : Scm) (n : ByteArray) (ns : List ByteArray) (hm : s.messages.length ≤ 1048576) : Zao s n ns = some true := by
 obtain ⟨b, e, hb⟩ := m11 s hm
 dsimp only [Zao, Zw2, br, vy, vw, lr, cl, clg, eqL]
 simp only [e, Option.bind_some]
 cases b with
 | false => simp
 | true =>
  have h := hb rfl
  by_cases h20 : (20 : Int) < (ns.length : Int)
  ·simp [h20]
  ·obtain ⟨l, e2, k⟩ := m31 h ns (by omega)
   have hu := h.ul n
   have hsl := ZcQ (Zcr s n)
   have hl := k.len h
   simp [h20, m29 h, m30 h, m14 (l := ZcM (Zcr s n)) (by omega), n28 h ns l (by omega) k, e2, m14 (l := l) (by omega), awk]
end Go.Proofs.Ythhipejbnbochaa
namespace Go.Proofs.Ythhipejbnbochaa
set_option linter.all false
open Go Go.Eng
theorem ZqA {s : Scm} (h : bkL (Zcg s) ≤ 1048576) : s.messages.length ≤ 1048576 := by
 have := Zpk (e := Zbl) s.messages
 simp only [Zcg, bkL, bk] at h
 omega
theorem ZhO {s : Scm} {n : ByteArray} {ns : List ByteArray} (h : bkL (Zcg s) ≤ 1048576) : Zao s n ns = some true := Ze6 s n ns (ZqA h)
end Go.Proofs.Ythhipejbnbochaa
namespace Go.Proofs.Ythhipejbnbochaa
set_option linter.all false
open Go Go.Eng Go.ChangeShapes Go.WideShapes Go.ChangeAt Go.RowKit
theorem own : ownKnob Try.prog.godebug = none := by kernel_rfl
namespace GraphUses
open Go.Proofs.Ythhipejbnbochaa
set_option maxRecDepth 100000 in
theorem contract (H : Type) (enc : TypeId × Value → H) (W : World) (base : Nat) (args : Array Value) (ds gs : List (DataW H)) (before : List MemPlace)
  (hval : ∀ (j : Nat) t v, Try.f9.params[j]? = some t → args[j]? = some v → Value.okWide Try.prog W .any base t v)
  (hW : DataW.Whole enc Try.prog Try.f9.params.toList Rows.graphUsesSpec.vars false W args.toList ds gs before) (hk : Rows.uptoSmall H (ds ++ gs) = true) :
  Calls Try.prog 9 args W fun e W' => ∃ v, e = .returned v ∧ Rows.graphUsesSpec.post enc Try.prog Try.f9 false true false false W args v W' := by
 obtain ⟨p, q, hA0, hV, rfl, hfz, hnd⟩ := id hW
 have hA : DataW.TrodAll enc Try.prog W 0 (fun _ => true) true Try.f9.params.toList args.toList ds p := hA0
 rw [Try.params9] at hA hval
 obtain ⟨v0, vs0, d0, ds0, p0, q0, hargs, rfl, rfl, h0, r0⟩ := trodAll_cons hA
 obtain ⟨v1, vs1, d1, ds1, p1, q1, rfl, rfl, rfl, h1, r1⟩ := trodAll_cons r0
 obtain ⟨v2, vs2, d2, ds2, p2, q2, rfl, rfl, rfl, h2, r2⟩ := trodAll_cons r1
 obtain ⟨rfl, rfl, rfl⟩ := trodAll_nil r2
 obtain rfl : args = #[v0, v1, v2] := by cases args; simp_all
 have hb : Rows.uptoBulkAll ([d0, d1, d2] ++ gs) ≤ 1048576 := of_decide_eq_true hk
 simp only [YaN, Yaj, Rows.uptoBulkAll] at hb
 obtain ⟨s, re0, fe0⟩ := Zr0 ZvT Try.underlying26 (hval 0 26 v0 rfl rfl) h0
 obtain ⟨n, re1, fe1⟩ := Zrj Try.underlying9 (hval 1 9 v1 rfl rfl) h1
 obtain ⟨ns, re2, fe2⟩ := Zly (e := Zad) (fun n => Zaw Try.underlying31 (by kernel_rfl : Try.prog.cellsOf 9 = 1) (by decide) (fun _ => rfl) (fun m _ => ZbK Try.underlying9)) Try.underlying31 (hval 2 31 v2 rfl rfl) h2
 simp only [bk] at fe2
 obtain ⟨rfl, rfl⟩ := trodVars_none hV
 have A := (K_9 s n ns).k 0 Hp0 true (ZhO (by omega))
 refine (A.2 (fun _ => ⟨0, 0, 0⟩) (· < W.heap.size) W #[v0, v1, v2] (ok0 _) (ZrO (xs := [.agg ((Zcg s).map .d), .d (.str n), .d (.list (ns.map Zad))]) (vs := [v0, v1, v2]) ⟨re0 _ _, re1 _ _ _ _, re2 _ _ _, trivial⟩)).mono fun e W' ⟨r, v, H', m', S', he, hp, hO, hr, hx⟩ => ?_
 obtain ⟨hp, _⟩ := hp
 subst he
 subst hp
 cases hr
 rename_i hd
 cases hd
 exact ⟨_, rfl, ZlQ hW rfl (by kernel_rfl) (by rw [Try.params9]; exact (by decide +kernel)) (by kernel_rfl) Try.underlying4 rfl ⟨hx.os, hx.tape, hx.output, hx.size, hx.blk⟩⟩
set_option maxRecDepth 100000 in
theorem lifted (os : Os) (started : os.Started) (H : Type) (enc : TypeId × Value → H) (F : Stop.Interp) :
  ReturnsInHanded {} Try.checked os 9 .any ((Rows.OpenSpec.upto Rows.graphUsesSpec).pre6 enc Try.prog Try.f9 Rows.graphUsesUptoRow.domain false) (((Rows.OpenSpec.upto Rows.graphUsesSpec).at F).post enc Try.prog Try.f9 false true false false) := by
 refine returnsInHanded_of_cond (C := Try.checked) (s := Rows.OpenSpec.upto Rows.graphUsesSpec) (k := Rows.uptoSmall) rfl own started (by kernel_rfl) Try.func9
  (OpenSpec.witness (enc := enc) (C := Try.checked) (s := Rows.OpenSpec.upto Rows.graphUsesSpec) (k := Rows.uptoSmall) rfl false ⟨#[], #[.agg #[.slice none 0 0, .slice none 0 0, .slice none 0 0], .string ⟨#[]⟩, .slice none 0 0], []⟩ 8 (by kernel_rfl) (by kernel_rfl) (by kernel_rfl)
   (x := ([.agg [.nil, .nil, .nil], .lit (.string []), .nil], [], [])) (by kernel_rfl) rfl (by kernel_rfl)) ?_
 intro W base args ds gs before hval hW _ hk _
 exact contract H enc W base args ds gs before hval hW hk
theorem holds : Rows.GraphUsesUptoSaid :=
 OpenClaim.holds_of_cond 9 Try.f9 rfl rfl rfl rfl rfl rfl rfl ⟨rfl, rfl, rfl, rfl, rfl⟩ rfl rfl rfl rfl rfl (by kernel_rfl) Try.func9 (by kernel_rfl)
  (of_decide_eq_true (by kernel_rfl)) (by unfold Func.isWrapper; first | (rw [if_pos (by decide +kernel)]; kernel_rfl) | (rw [if_neg (by decide +kernel)]; exact ⟨rfl, rfl⟩))
  (fun os started H enc _ F => lifted os started H enc F)
end GraphUses
end Go.Proofs.Ythhipejbnbochaa
