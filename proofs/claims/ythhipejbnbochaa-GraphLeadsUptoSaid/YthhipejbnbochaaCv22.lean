import Derived.Test.YthhipejbnbochaaCv21
import Derived.Test.YthhipejbnbochaaCv20
import Derived.Test.YthhipejbnbochaaCv00
namespace Go.Proofs.Ythhipejbnbochaa
set_option linter.all false
open Go Go.Eng
theorem Zvf {s : Scm} {f : Fld} (h : toF s f = true) : ldF s f = true := by unfold ldF; rw [h]; rfl
theorem Zel {s : Scm} {n x : ByteArray} (h : x ∈ Zbe s n) : x ∈ ZcK s n := by
 unfold Zbe at h
 unfold ZcK
 obtain ⟨f, hf, rfl⟩ := Yq.1 h
 obtain ⟨a, b⟩ := Yz.1 hf
 exact Yq.2 ⟨f, Yz.2 ⟨a, Zvf b⟩, rfl⟩
theorem Zmp {s : Scm} {n x : ByteArray} (h : x ∈ ZcK s n) : isM s x = true ∨ isE s x = true := by
 unfold ZcK at h
 obtain ⟨f, hf, rfl⟩ := Yq.1 h
 have := (Yz.1 hf).2
 unfold ldF toF at this
 rcases Bool.or_eq_true_iff.1 this with q | q
 ·exact .inl (Yav.1 q).1
 ·exact .inr (Yav.1 q).2
theorem Zee {s : Scm} {n x : ByteArray} (h : x ∈ ZcK s n) (he : isE s x = false) : x ∈ Zbe s n := by
 unfold ZcK at h
 unfold Zbe
 obtain ⟨f, hf, rfl⟩ := Yq.1 h
 obtain ⟨a, b⟩ := Yz.1 hf
 refine Yq.2 ⟨f, Yz.2 ⟨a, ?_⟩, rfl⟩
 unfold ldF at b
 rw [he, Bool.and_false, YbB] at b
 exact b
def ClP (s : Scm) (ns : List ByteArray) (x : ByteArray) : Prop := (x ∈ ns ∧ (isM s x = true ∨ isE s x = true)) ∨ ∃ n ∈ ns, isM s n = true ∧ (x ∈ ZcK s n ∨ ∃ y, Rch s n y ∧ x ∈ ZcK s y)
theorem ClOk.uniq {s : Scm} {ns l r : List ByteArray} (h : ClOk s ns l) (k : ClOk s ns r) : l = r := ZpG h.a k.a fun x => (h.m x).trans (k.m x).symm
theorem ClOk.defd {s : Scm} {ns l : List ByteArray} (h : ClOk s ns l) {x : ByteArray} (hx : x ∈ l) : isM s x = true ∨ isE s x = true := by
 rcases (h.m x).1 hx with ⟨_, q⟩ | ⟨n, _, _, q | ⟨y, _, q⟩⟩
 ·exact q
 ·exact Zmp q
 ·exact Zmp q
theorem ClOk.len {s : Scm} (hs : Fw s) {ns l : List ByteArray} (h : ClOk s ns l) : l.length ≤ 16 := by
 have := Zdf (Zde h.a) (r := nmM s ++ s.enums.map Enm.name) fun x hx => by
  rcases h.defd hx with q | q
  ·exact YR _ (Zcf.1 q)
  ·exact Yaj _ (Zr2.1 q)
 have h1 := hs.m
 have h2 := hs.e
 simp only [nmM, List.length_append, Yj] at this
 omega
section
variable {s : Scm} (h : Fw s)
include h
theorem m31 (ns : List ByteArray) (hn : ns.length ≤ 1000) : ∃ l, Zbh s ns = some l ∧ ClOk s ns l := by
 have q1 := Zco (B := ZnY s ns) ns (fun x => if (isM s x || isE s x) = true then some x else none) [] (by simp; omega) (fun i b x hx hb g2 g1 => by
  dsimp only [ZnY, Zr4, br, ix, vz, vw, vs, v2, ln, lxe, cl, wa, eqL]
  simp only [g1, g2, hx, m54 h, decide_true, if_true, Option.bind_some]
  cases isM s x || isE s x with
  | true => simp [m53 hb]
  | false => simp) (fun b => by dsimp only [ZnY, Zr4, br, ix, vz, vw, vs, v2, ln, lxe, cl, wa, eqL]; simp)
 have e0 : ns.filterMap (fun x => if (isM s x || isE s x) = true then some x else none) = ns.filter (fun x => isM s x || isE s x) := by
  have := Zek (fun x => isM s x || isE s x) (fun x : ByteArray => x) ns
  rwa [List.map_id'] at this
 rw [e0, ZdG] at q1
 obtain ⟨v0, hv0⟩ : ∃ v0, v0 = Zdh (ns.filter fun x => isM s x || isE s x) := ⟨_, rfl⟩
 rw [← hv0] at q1
 have a0 : Asc v0 := hv0 ▸ Zgn _
 have mem0 : ∀ x, x ∈ v0 ↔ x ∈ ns ∧ (isM s x = true ∨ isE s x = true) := fun x => by rw [hv0, ZbP, Yz, Bool.or_eq_true_iff]
 have l0 : v0.length ≤ 1000 := by
  rw [hv0]
  exact YU (Zdz _) (YU (Y5 _ _) hn)
 obtain ⟨y8, e8, k8⟩ := m55 h ns hn
 have hy8 := k8.len h
 have q2 := ZcY (B := Zoj s y8) (N := big) y8 (fun i b => (b, i)) (fun i b => b.length ≤ 1000 + i * 10) (fun b y => (.inl ((Zdh (ZcK s y)).foldl ZbD b) : List ByteArray ⊕ List ByteArray)) id (fun i b y hy hI => by
  have g1 := Zdp hy
  have g0 := (Yd.1 hy).1
  have g2 : i + 1 < 9223372036854775808 := by omega
  have h1 := Zgb (Zdh (ZcK s y)) b
  have h2 := Zdz (ZcK s y)
  have h3 := h.ul y
  have q := Zco (B := ZnJ s y8 i (Zdh (ZcK s y))) (Zdh (ZcK s y)) some b (by omega) (fun j c x hx hc g4 g3 => by
   dsimp only [ZnJ, ZrJ, br, ix, vz, vs, ln, lxe, cl, wa, eqL]
   simp only [g3, g4, hx, m53 hc, decide_true, if_true, Option.bind_some, Option.elim_some]) (fun c => by dsimp only [ZnJ, ZrJ, br, ix, vz, vs, ln, lxe, cl, wa, eqL]; simp)
  rw [List.filterMap_some] at q
  refine ⟨?_, fun b' e => by cases e; omega⟩
  dsimp only [Zoj, ZqP, ZrI, Zs3, br, ix, vz, vw, vs, ln, lxe, lc, cl, wa, eqL]
  simp only [g1, g2, hy, m30 h, q, decide_true, if_true, Option.bind_some, Sum.elim_inl]) (fun b _ => by dsimp only [Zoj, ZqP, ZrI, Zs3, br, ix, vz, vw, vs, ln, lxe, lc, cl, wa, eqL]; simp) v0 (by omega) (ZaN (by omega))
 rw [Zcr (fun b y => (Zdh (ZcK s y)).foldl ZbD b) (fun _ _ => rfl)] at q2
 obtain ⟨g1, g2⟩ := ZhN (fun y => Zdh (ZcK s y)) y8 v0
 refine ⟨y8.foldl (fun a y => (Zdh (ZcK s y)).foldl ZbD a) v0, ?_, g1 a0, fun x => ?_⟩
 ·dsimp only [Zbh, ZpY, ZpN, Zvg, ZtM, Zvc, Zwx, vz, vw, lr, lc, cl, fz]
  rw [q1]
  simp only [Option.bind_some, Sum.elim_inl, e8]
  rw [q2]
  rfl
 ·rw [g2, mem0]
  refine or_congr Iff.rfl ⟨fun ⟨y, hy, q⟩ => ?_, fun ⟨n, hn, hm, q⟩ => ?_⟩
  ·rw [ZbP] at q
   rcases (k8.m y).1 hy with ⟨p, p2⟩ | ⟨z, hz, p, p2⟩
   ·exact ⟨y, p, p2, .inl q⟩
   ·exact ⟨z, hz, p, .inr ⟨y, p2, q⟩⟩
  ·rcases q with q | ⟨y, q, q2⟩
   ·exact ⟨n, (k8.m n).2 (.inl ⟨hn, hm⟩), (ZbP _ _).2 q⟩
   ·exact ⟨y, (k8.m y).2 (.inr ⟨n, hn, hm, q⟩), (ZbP _ _).2 q2⟩
theorem n28 (ns l : List ByteArray) (hn : ns.length ≤ 1000) (hl : ClOk s ns l) : ZcU s ns = some l := by
 refine ZmZ ?_
 obtain ⟨w, hw⟩ : ∃ w, w = Zxo s := ⟨_, rfl⟩
 have ok : WOk s w := hw ▸ Zmn s
 have q1 : Ze4 (ZcI (Zjz ns w) big ([], 0)) fun o => Sum.elim (fun r => r.length ≤ 1000000 ∧ ∀ x, x ∈ r ↔ ClP s ns x) (fun _ => False) o := by
  refine ZbR (B := Zjz ns w) (fun k v => k + v.2 = ns.length ∧ v.1.length ≤ v.2 * 200 ∧ ∀ x, x ∈ v.1 ↔ ClP s (ns.take v.2) x) _ (fun k v hI => ?_) big ns.length ([], 0) (ZaN (by omega)) ⟨rfl, by simp, fun x => by simp [ClP]⟩
  obtain ⟨r, i⟩ := v
  obtain ⟨h1, h2, h3⟩ := hI
  simp only at h1 h2 h3
  have hP : ∀ n x, ns[i]? = some n → (ClP s (ns.take (i + 1)) x ↔ ClP s (ns.take i) x ∨ (x = n ∧ (isM s n = true ∨ isE s n = true)) ∨ (isM s n = true ∧ (x ∈ ZcK s n ∨ ∃ y, Rch s n y ∧ x ∈ ZcK s y))) := fun n x hnx => by
   obtain ⟨g0, rfl⟩ := Yd.1 hnx
   unfold ClP
   rw [YP g0]
   constructor
   ·rintro (⟨q, q2⟩ | ⟨m, q, q2⟩)
    ·rcases YM.1 q with q | q
     ·exact .inl (.inl ⟨q, q2⟩)
     ·obtain rfl := YF.1 q
      exact .inr (.inl ⟨rfl, q2⟩)
    ·rcases YM.1 q with q | q
     ·exact .inl (.inr ⟨m, q, q2⟩)
     ·obtain rfl := YF.1 q
      exact .inr (.inr q2)
   ·rintro ((⟨q, q2⟩ | ⟨m, q, q2⟩) | ⟨rfl, q2⟩ | q2)
    ·exact .inl ⟨YR _ q, q2⟩
    ·exact .inr ⟨m, YR _ q, q2⟩
    ·exact .inl ⟨Yaj _ (by simp), q2⟩
    ·exact .inr ⟨_, Yaj _ (by simp), q2⟩
  cases hk : ns[i]? with
  | none =>
   have hge := YS.1 hk
   have e : ns.take i = ns := Yaa hge
   rw [e] at h3
   dsimp only [Zjz, Zik, Zn3, Ze0, Zow, ZoA, Zo9, ZnR, br, ix, vz, vw, vs, lc, lxc, ap, aq, cl, wa, mlk, lnN, Zhb, fl]
   rw [show decide ((i : Int) < (ns.length : Int)) = false from decide_eq_false (by omega)]
   refine Zaq ⟨?_, h3⟩
   omega
  | some n =>
   have g1 := Zdp hk
   have g0 := (Yd.1 hk).1
   have g2 : i + 1 < 9223372036854775808 := by omega
   have g3 : r.length < 549755813887 := by omega
   have h4 := hP n
   dsimp only [Zjz, Zik, Zn3, Ze0, Zow, ZoA, Zo9, ZnR, br, ix, vz, vw, vs, lc, lxc, ap, aq, cl, wa, mlk, lnN, Zhb, fl]
   simp only [g1, g2, g3, hk, ok.im, ok.e, decide_true, if_true, Option.bind_some]
   cases hM : isM s n with
   | false =>
    cases hE : isE s n with
    | false =>
     refine Zaq ⟨k - 1, by omega, by simp only; omega, by simp only; omega, fun x => ?_⟩
     rw [h4 x hk, h3, hM, hE]
     simp
    | true =>
     refine Zaq ⟨k - 1, by omega, by simp only; omega, by simp only [List.length_append, YV]; omega, fun x => ?_⟩
     rw [h4 x hk, YM, h3, hM, hE]
     simp
   | true =>
    obtain ⟨rr, e34, kr⟩ := m34 ok h n
    have hu := h.ul n
    have hsl := Zdz (ZcK s n)
    have g5 : (r ++ [n]).length + (Zdh (ZcK s n)).length < 549755813888 := by rw [List.length_append, YV]; omega
    simp only [m50 ok h, e34, Option.bind_some, g5, if_true, YaQ, Yao, if_false]
    refine ZbF (Q := fun o => Sum.elim (fun r' => r'.length ≤ r.length + 200 ∧ ∀ x, x ∈ r' ↔ x ∈ (r ++ [n]) ++ Zdh (ZcK s n) ∨ ∃ y ∈ Zbf rr, x = y ∨ x ∈ ZcK s y) (fun _ => False) o) ?_ fun o ho => ?_
    ·refine ZbR (B := Znl ns w i) (fun k v => k = v.2.length ∧ k ≤ 8 ∧ v.1.length + k * 11 ≤ r.length + 111 ∧ ∀ x, (x ∈ v.1 ∨ ∃ y ∈ Zbf v.2, x = y ∨ x ∈ ZcK s y) ↔ (x ∈ (r ++ [n]) ++ Zdh (ZcK s n) ∨ ∃ y ∈ Zbf rr, x = y ∨ x ∈ ZcK s y)) _ (fun k v hI => ?_) big rr.length ((r ++ [n]) ++ Zdh (ZcK s n), rr) (ZaN (by have := kr.l; omega)) ⟨rfl, kr.l, by have := kr.l; simp only [List.length_append, YV]; omega, fun x => Iff.rfl⟩
     obtain ⟨a, b⟩ := v
     obtain ⟨i1, i2, i3, i4⟩ := hI
     simp only at i1 i2 i3 i4
     unfold Znl
     simp only
     unfold Zom
     refine Znu (fun e => ?_) fun j p hp => ?_
     ·subst e
      refine Zaq ⟨by omega, fun x => ?_⟩
      have := i4 x
      simpa [Zbf] using this
     ·have hlt := (Yd.1 hp).1
      have hup := h.ul p.1
      have hsp := Zdz (ZcK s p.1)
      have g6 : a.length < 549755813887 := by omega
      have g7 : (a ++ [p.1]).length + (Zdh (ZcK s p.1)).length < 549755813888 := by rw [List.length_append, YV]; omega
      dsimp only [Znl, Zom, ZsO, ZsH, vz, vw, lc, ap, aq, cl, nxN, lnN, Zhb, fl]
      simp only [m50 ok h, Option.bind_some, g6, g7, if_true]
      refine Zaq ⟨(b.eraseIdx j).length, by rw [Yah hlt]; omega, rfl, by rw [Yah hlt]; omega, ?_, fun x => ?_⟩
      ·rw [Yah hlt]
       simp only [List.length_append, YV]
       omega
      ·rw [← i4 x]
       have hperm := (ZdR hp).map (·.1)
       have hmem : ∀ y, y ∈ Zbf b ↔ y = p.1 ∨ y ∈ Zbf (b.eraseIdx j) := fun y => by
        rw [show (y ∈ Zbf b ↔ y ∈ List.map (·.1) (p :: b.eraseIdx j)) from hperm.mem_iff.symm]
        simp [Zbf]
       simp only [YM, YF, ZbP]
       constructor
       ·rintro (((q | q) | q) | ⟨y, q, q2⟩)
        ·exact .inl q
        ·exact .inr ⟨p.1, (hmem _).2 (.inl rfl), .inl q⟩
        ·exact .inr ⟨p.1, (hmem _).2 (.inl rfl), .inr q⟩
        ·exact .inr ⟨y, (hmem _).2 (.inr q), q2⟩
       ·rintro (q | ⟨y, q, q2⟩)
        ·exact .inl (.inl (.inl q))
        ·rcases (hmem y).1 q with rfl | q
         ·rcases q2 with q2 | q2
          ·exact .inl (.inl (.inr q2))
          ·exact .inl (.inr q2)
         ·exact .inr ⟨y, q, q2⟩
    ·cases o with
     | inr _ => exact ho.elim
     | inl r' =>
      obtain ⟨l1, l2⟩ := ho
      simp only [Sum.elim_inl]
      refine Zaq ⟨k - 1, by omega, by simp only; omega, by simp only; omega, fun x => ?_⟩
      rw [h4 x hk, l2, hM]
      simp only [YM, YF, ZbP, h3, true_or, and_true, true_and]
      constructor
      ·rintro (((q | q) | q) | ⟨y, q, q2⟩)
       ·exact .inl q
       ·exact .inr (.inl q)
       ·exact .inr (.inr (.inl q))
       ·have hr : Rch s n y := (kr.i y).1 ((kr.k y).1 q)
        rcases q2 with rfl | q2
        ·cases hr with
         | one q => exact .inr (.inr (.inl (Zel q)))
         | tl p q => exact .inr (.inr (.inr ⟨_, p, Zel q⟩))
        ·exact .inr (.inr (.inr ⟨y, hr, q2⟩))
      ·rintro (q | q | q | ⟨y, q, q2⟩)
       ·exact .inl (.inl (.inl q))
       ·exact .inl (.inl (.inr q))
       ·exact .inl (.inr q)
       ·exact .inr ⟨y, (kr.k y).2 ((kr.i y).2 q), .inr q2⟩
 dsimp only [ZbT, Zl3, ZmM, Zmg, Zmh, Zlz, Zk9, ZlP, Zlu, vz, vw, lc, cl, rn, lrN, fl, fr, eqL]
 simp only [m32 h, Option.bind_some, ← hw]
 refine ZbF q1 fun o ho => ?_
 cases o with
 | inr _ => exact ho.elim
 | inl r =>
  obtain ⟨l1, l2⟩ := ho
  have hs : (ZeQ r).length = r.length := (Zcq r).length_eq
  simp only [Sum.elim_inl]
  unfold Zbc ZaY
  rw [if_pos (by omega)]
  simp only [Option.bind_some, hs, if_true]
  rw [if_pos (by omega)]
  refine Zaq ?_
  exact Zmf hl.a fun x => (hl.m x).trans (l2 x).symm
end
theorem m11 (s : Scm) (hm : s.messages.length ≤ 1048576) : ∃ b, Za9 s = some b ∧ (b = true → Fw s) := by
 dsimp only [Za9, ZrN, ZrU, Zr0, br, vz, vy, vw, lr, lc, eqL]
 by_cases h1 : (8 : Int) < (s.messages.length : Int)
 ·exact ⟨false, by simp [h1], fun q => by cases q⟩
 ·by_cases h2 : (8 : Int) < (s.enums.length : Int)
  ·exact ⟨false, by simp [h2], fun q => by cases q⟩
  ·have q1 := ZbA (B := ZjX s) (I := fun k i => k + i = s.messages.length ∧ ∀ m ∈ s.messages.take i, m.fields.length ≤ 10) (Q := fun o => Sum.elim (fun _ => ∀ m ∈ s.messages, m.fields.length ≤ 10) (fun b => b = false) o) (fun k i hI => by
    obtain ⟨i1, i2⟩ := hI
    cases hk : s.messages[i]? with
    | none =>
     have := YS.1 hk
     rw [Yaa this] at i2
     exact ⟨.ex (), by dsimp only [ZjX, ZlS, br, ix, vz, vw, vs, lrt, ln, lxe, wa, eqL]; simp [show ¬ (i : Int) < (s.messages.length : Int) by omega], i2⟩
    | some x =>
     have g1 := Zdp hk
     obtain ⟨g0, rfl⟩ := Yd.1 hk
     have g2 : i + 1 < 9223372036854775808 := by omega
     by_cases hf : (10 : Int) < (s.messages[i].fields.length : Int)
     ·exact ⟨.rt false, by dsimp only [ZjX, ZlS, br, ix, vz, vw, vs, lrt, ln, lxe, wa, eqL]; simp [g0, hk, hf], rfl⟩
     ·refine ⟨.nx (i + 1), by dsimp only [ZjX, ZlS, br, ix, vz, vw, vs, lrt, ln, lxe, wa, eqL]; simp [g0, g2, hk, hf], k - 1, by omega, by omega, fun m hmm => ?_⟩
      rw [YP g0] at hmm
      rcases YM.1 hmm with q | q
      ·exact i2 m q
      ·rw [YF.1 q]; omega) big s.messages.length 0 (ZaN (by omega)) ⟨rfl, by simp⟩
   obtain ⟨o, e, hq⟩ := q1
   cases o with
   | inl u => exact ⟨true, by simp [h1, h2, e], fun _ => ⟨by omega, by omega, hq⟩⟩
   | inr b => exact ⟨b, by simp [h1, h2, e], fun q => by have : b = false := hq; rw [this] at q; cases q⟩
end Go.Proofs.Ythhipejbnbochaa
namespace Go.Proofs.Ythhipejbnbochaa
set_option linter.all false
open Go Go.Eng
theorem Zq9 {s : Scm} (h : bkL (ZbY s) ≤ 1048576) : s.messages.length ≤ 1048576 := by
 have := Zqe (e := Za1) s.messages
 simp only [ZbY, bkL, bk] at h
 omega
theorem m26 {s : Scm} (h : Fw s) : ∃ b, Zax s = some b ∧ (b = false → ∀ n, isM s n = true → isE s n = false) := by
 have h8 := h.m
 have q1 := ZbA (B := Zkg s) (I := fun k i => k + i = s.messages.length ∧ ∀ m ∈ s.messages.take i, isE s m.name = false) (Q := fun o => Sum.elim (fun _ => ∀ m ∈ s.messages, isE s m.name = false) (fun b => b = true) o) (fun k i hI => by
  obtain ⟨i1, i2⟩ := hI
  cases hk : s.messages[i]? with
  | none =>
   have := YS.1 hk
   rw [Yaa this] at i2
   exact ⟨.ex (), by dsimp only [Zkg, Zk6, ZlN, ZlB, Zmc, br, ix, vz, vw, vs, lrt, ln, lxe, lc, cl, wa, du, eqL]; simp [show ¬ i < s.messages.length by omega], i2⟩
  | some m =>
   obtain ⟨g0, hgi⟩ := Yd.1 hk
   have g2 : i + 1 < 9223372036854775808 := by omega
   have e := ZkN s m.name
   cases hE : isE s m.name with
   | true =>
    rw [hE] at e
    have e := of_decide_eq_true e
    exact ⟨.rt true, by dsimp only [Zkg, Zk6, ZlN, ZlB, Zmc, br, ix, vz, vw, vs, lrt, ln, lxe, lc, cl, wa, du, eqL]; simp [g0, hk, hgi, m46 h, e], rfl⟩
   | false =>
    rw [hE] at e
    have e := of_decide_eq_false e
    refine ⟨.nx (i + 1), by dsimp only [Zkg, Zk6, ZlN, ZlB, Zmc, br, ix, vz, vw, vs, lrt, ln, lxe, lc, cl, wa, du, eqL]; simp [g0, g2, hk, hgi, m46 h, e], k - 1, by omega, by omega, fun x hx => ?_⟩
    rw [YP g0, hgi] at hx
    rcases YM.1 hx with q | q
    ·exact i2 x q
    ·rw [YF.1 q]; exact hE) big s.messages.length 0 (ZaN (by omega)) ⟨rfl, by simp⟩
 obtain ⟨o, e, hq⟩ := q1
 cases o with
 | inl u =>
  refine ⟨false, by dsimp only [Zax, Zpj, Zpp, ZnU, ZnI, vw, lr, lc]; simp [e], fun _ n hn => ?_⟩
  obtain ⟨m, hm, rfl⟩ := Yq.1 (Zcf.1 hn)
  exact hq m hm
 | inr b =>
  have hq : b = true := hq
  subst hq
  exact ⟨true, by dsimp only [Zax, Zpj, Zpp, ZnU, ZnI, vw, lr, lc]; simp [e], fun q => by cases q⟩
theorem ClOk.self {s : Scm} {ns l : List ByteArray} (k : ClOk s ns l) (hs : ∀ n, isM s n = true → isE s n = false) : ClOk s l l := by
 refine ⟨k.a, fun x => ⟨fun hx => .inl ⟨hx, k.defd hx⟩, ?_⟩⟩
 rintro (⟨hx, _⟩ | ⟨n, hn, hm, q⟩)
 ·exact hx
 ·
  have he := hs n hm
  have key : ∀ n0, (n0 ∈ ns ∧ isM s n0 = true) → (n = n0 ∨ Rch s n0 n) → x ∈ l := fun n0 ⟨h1, h2⟩ h3 => by
   refine (k.m x).2 (.inr ⟨n0, h1, h2, ?_⟩)
   rcases h3 with rfl | h3
   ·exact q
   ·rcases q with q | ⟨y, q, q2⟩
    ·exact .inr ⟨n, h3, q⟩
    ·exact .inr ⟨y, h3.trans q, q2⟩
  rcases (k.m n).1 hn with ⟨h1, _⟩ | ⟨n0, h1, h2, h3 | ⟨y, h3, h4⟩⟩
  ·exact key n ⟨h1, hm⟩ (.inl rfl)
  ·exact key n0 ⟨h1, h2⟩ (.inr (.one (Zee h3 he)))
  ·exact key n0 ⟨h1, h2⟩ (.inr (.tl h3 (Zee h4 he)))
def lxB : List Int → List Int → Bool
 | [], [] => false
 | [], _ :: _ => true
 | _ :: _, [] => false
 | a :: p, b :: q => decide (a < b) || (decide (a = b) && lxB p q)
theorem Zln (a b : Int) (p q : List Int) : lxB (a :: p) (b :: q) = (decide (a < b) || (decide (a = b) && lxB p q)) := rfl
theorem ZpU : ∀ p : List Int, lxB p p = false
 | [] => rfl
 | a :: p => by unfold lxB; simp [ZpU p]
theorem ZsW : ∀ {p q r : List Int}, lxB p q = true → lxB q r = true → lxB p r = true
 | [], [], r, h, _ => by cases h
 | [], b :: q, [], _, k => by cases k
 | [], b :: q, c :: r, _, _ => rfl
 | a :: p, [], r, h, _ => by cases h
 | a :: p, b :: q, [], _, k => by cases k
 | a :: p, b :: q, c :: r, h, k => by
  unfold lxB at *
  simp only [YD, Yc, decide_eq_true_eq] at *
  rcases h with h | ⟨h1, h2⟩
  ·rcases k with k | ⟨k1, k2⟩
   ·exact .inl (by omega)
   ·exact .inl (by omega)
  ·rcases k with k | ⟨k1, k2⟩
   ·exact .inl (by omega)
   ·exact .inr ⟨by omega, ZsW h2 k2⟩
theorem ZlY : ∀ {p q : List Int}, lxB p q = false → lxB q p = false → p = q
 | [], [], _, _ => rfl
 | [], b :: q, h, _ => by cases h
 | a :: p, [], _, k => by cases k
 | a :: p, b :: q, h, k => by
  unfold lxB at h k
  simp only [Ya4, YaX, decide_eq_false_iff_not] at h k
  have e : a = b := by omega
  subst e
  rw [ZlY (h.2.resolve_left fun q => q rfl) (k.2.resolve_left fun q => q rfl)]
theorem ZxR {p q r : List Int} (h : lxB q p = false) (k : lxB r q = false) : lxB r p = false := by
 cases hr : lxB r p with
 | false => rfl
 | true =>
  cases hp : lxB p q with
  | true => rw [ZsW hr hp] at k; cases k
  | false => rw [ZlY hp h] at hr; rw [hr] at k; cases k
theorem Zng {x y : Int} : ∀ {p q : List Int}, p.length = q.length → lxB (p ++ [x]) (q ++ [y]) = (lxB p q || (decide (p = q) && decide (x < y)))
 | [], [], _ => by simp [lxB]
 | [], b :: q, h => by simp at h
 | a :: p, [], h => by simp at h
 | a :: p, b :: q, h => by
  have ih := Zng (x := x) (y := y) (p := p) (q := q) (by simpa using h)
  show (decide (a < b) || (decide (a = b) && lxB (p ++ [x]) (q ++ [y]))) = _
  rw [ih, Zln]
  by_cases h1 : a < b
  ·simp [h1]
  ·by_cases h2 : a = b
   ·subst h2; simp
   ·have : ¬ (a :: p = b :: q) := fun e => h2 (List.cons.inj e).1
    simp [h1, h2, this]
theorem m69 (x y : Int) : Zbu x y = some (if x < y then -1 else if y < x then 1 else 0) := by
 dsimp only [Zbu, Zq8, br, lr, cl, ZcN, Zre, lr]
 by_cases h1 : x < y
 ·simp [h1]
 ·by_cases h2 : y < x <;> simp [h1, h2]
theorem m64 (p q : List Int) (h : p.length < 4611686018427387904) : ∃ c, Zbm p q = some c ∧ decide (c < 0) = lxB p q := by
 have q1 := ZbA (B := Zhj p q) (I := fun k i => k + i = p.length ∧ i ≤ q.length ∧ lxB p q = lxB (p.drop i) (q.drop i)) (Q := fun o => Sum.elim (fun _ => p.length ≤ q.length ∧ lxB p q = decide (p.length < q.length)) (fun c => decide (c < 0) = lxB p q) o) (fun k i hI => by
  obtain ⟨i1, i2, i3⟩ := hI
  cases hk : p[i]? with
  | none =>
   have hge := YS.1 hk
   refine ⟨.ex (), by dsimp only [Zhj, ZhX, br, ix, vz, vs, lrt, ln, lxe, cl, wa, eqL]; simp [show ¬ i < p.length by omega], by omega, ?_⟩
   rw [i3, YaO hge]
   have : i = p.length := by omega
   subst this
   cases hd : q.drop p.length with
   | nil =>
    have := List.drop_eq_nil_iff.1 hd
    rw [decide_eq_false (by omega)]; rfl
   | cons a r =>
    have := congrArg List.length hd
    rw [Yai] at this
    simp at this
    rw [decide_eq_true (by omega)]; rfl
  | some x =>
   obtain ⟨g0, hgi⟩ := Yd.1 hk
   have g2 : i + 1 < 9223372036854775808 := by omega
   have e1 : p.drop i = x :: p.drop (i + 1) := by rw [Y0 g0, hgi]
   by_cases hq : q.length ≤ i
   ·refine ⟨.rt 1, by dsimp only [Zhj, ZhX, br, ix, vz, vs, lrt, ln, lxe, cl, wa, eqL]; simp [g0, hk, hgi, hq], ?_⟩
    show decide ((1 : Int) < 0) = lxB p q
    rw [i3, e1, YaO hq]; rfl
   ·have q0 : i < q.length := by omega
    have e2 : q.drop i = q[i] :: q.drop (i + 1) := Y0 q0
    rw [e1, e2, Zln] at i3
    by_cases c1 : x < q[i]
    ·refine ⟨.rt (-1), by dsimp only [Zhj, ZhX, br, ix, vz, vs, lrt, ln, lxe, cl, wa, eqL]; simp [g0, q0, hk, hgi, hq, m69, c1], ?_⟩
     show decide ((-1 : Int) < 0) = lxB p q
     rw [i3]; simp [c1]
    ·by_cases c2 : q[i] < x
     ·refine ⟨.rt 1, by dsimp only [Zhj, ZhX, br, ix, vz, vs, lrt, ln, lxe, cl, wa, eqL]; simp [g0, q0, hk, hgi, hq, m69, c1, c2], ?_⟩
      show decide ((1 : Int) < 0) = lxB p q
      rw [i3]; simp [c1, show ¬ x = q[i] by omega]
     ·refine ⟨.nx (i + 1), by dsimp only [Zhj, ZhX, br, ix, vz, vs, lrt, ln, lxe, cl, wa, eqL]; simp [g0, q0, g2, hk, hgi, hq, m69, c1, c2], k - 1, by omega, by omega, by omega, ?_⟩
      rw [i3]; simp [show x = q[i] by omega]) big p.length 0 (ZaN h) ⟨rfl, Yal _, by simp⟩
 obtain ⟨o, e, hq⟩ := q1
 cases o with
 | inl u =>
  obtain ⟨h1, h2⟩ := hq
  by_cases hl : p.length < q.length
  ·exact ⟨-1, by dsimp only [Zbm, ZlH, Zlo, ZkL, br, vz, lr, lc, eqL]; simp [e, hl], by rw [h2]; simp [hl]⟩
  ·exact ⟨0, by dsimp only [Zbm, ZlH, Zlo, ZkL, br, vz, lr, lc, eqL]; simp [e, hl], by rw [h2]; simp [hl]⟩
 | inr c => exact ⟨c, by dsimp only [Zbm, ZlH, Zlo, ZkL, br, vz, lr, lc, eqL]; simp [e], hq⟩
theorem m63 (p : List Int) (h : p.length < 549755813888) : Zbk p = some p := by
 dsimp only [Zbk, ZqW, al, br, vw, lr, a0, mv]
 simp [h]
structure FOk (C : ByteArray → List Int → Prop) (fd : List (ByteArray × List Int)) : Prop where
 s : ∀ t p, Zbp t fd = some p → C t p ∧ ∀ q, C t q → lxB q p = false
 n : ∀ t, Zbp t fd = none → ∀ q, ¬ C t q
 nd : (Zbf fd).Nodup
def Zwq (fd : List (ByteArray × List Int)) (t : ByteArray) (p : List Int) : List (ByteArray × List Int) := if (!inM t fd || lxB p (lkM t fd)) = true then ZbI t p fd else fd
theorem FOk.congr {C D : ByteArray → List Int → Prop} {fd : List (ByteArray × List Int)} (h : FOk C fd) (k : ∀ t p, C t p ↔ D t p) : FOk D fd :=
 ⟨fun t p e => ⟨(k t p).1 (h.s t p e).1, fun q hq => (h.s t p e).2 q ((k t q).2 hq)⟩, fun t e q hq => h.n t e q ((k t q).2 hq), h.nd⟩
theorem FOk.put {C : ByteArray → List Int → Prop} {fd : List (ByteArray × List Int)} (h : FOk C fd) (t : ByteArray) (p : List Int) : FOk (fun t' q => C t' q ∨ (t' = t ∧ q = p)) (Zwq fd t p) := by
 unfold Zwq
 split
 ·rename_i hc
  refine ⟨fun t' q e => ?_, fun t' e q hq => ?_, Zie _ _ h.nd⟩
  ·rw [ZbB] at e
   split at e
   ·rename_i ht
    subst ht
    cases e
    refine ⟨.inr ⟨rfl, rfl⟩, fun q hq => ?_⟩
    rcases hq with hq | ⟨_, rfl⟩
    ·cases hg : Zbp t fd with
     | none => exact absurd hq (h.n t hg q)
     | some r =>
      have h1 := (h.s t r hg).2 q hq
      have e1 : lkM t fd = r := by unfold lkM; rw [hg]; rfl
      have e2 : inM t fd = true := by unfold inM; rw [hg]; rfl
      rw [e1, e2] at hc
      have hc : lxB p r = true := by simpa using hc
      cases hx : lxB q p with
      | false => rfl
      | true => rw [ZsW hx hc] at h1; cases h1
    ·exact ZpU _
   ·rename_i ht
    obtain ⟨a, b⟩ := h.s t' q e
    refine ⟨.inl a, fun q' hq => ?_⟩
    rcases hq with hq | ⟨rfl, _⟩
    ·exact b q' hq
    ·exact absurd rfl ht
  ·rw [ZbB] at e
   split at e
   ·cases e
   ·rename_i ht
    rcases hq with hq | ⟨rfl, _⟩
    ·exact h.n t' e q hq
    ·exact ht rfl
 ·rename_i hc
  have hc : inM t fd = true ∧ lxB p (lkM t fd) = false := by
   cases h1 : inM t fd <;> cases h2 : lxB p (lkM t fd) <;> simp [h1, h2] at hc ⊢
  refine ⟨fun t' q e => ?_, fun t' e q hq => ?_, h.nd⟩
  ·obtain ⟨a, b⟩ := h.s t' q e
   refine ⟨.inl a, fun q' hq => ?_⟩
   rcases hq with hq | ⟨rfl, rfl⟩
   ·exact b q' hq
   ·have e1 : lkM t' fd = q := by unfold lkM; rw [e]; rfl
    rw [e1] at hc
    exact hc.2
  ·rcases hq with hq | ⟨rfl, _⟩
   ·exact h.n t' e q hq
   ·have := hc.1
    unfold inM at this
    rw [e] at this
    cases this
def inF (s : Scm) (best : List (ByteArray × List Int)) (n : ByteArray) (r : List (ByteArray × List Int)) (f : Fld) : List (ByteArray × List Int) := if (inM f.type.name best || !toF s f) = true then r else Zwq r f.type.name (lkM n best ++ [f.num])
def fdF (s : Scm) (best : List (ByteArray × List Int)) (row : List ByteArray) : List (ByteArray × List Int) := row.foldl (fun r n => (Zcu s n).foldl (inF s best n) r) []
def CdP (s : Scm) (best : List (ByteArray × List Int)) (n : ByteArray) (l : List Fld) (t : ByteArray) (q : List Int) : Prop := ∃ f ∈ l, inM f.type.name best = false ∧ toF s f = true ∧ t = f.type.name ∧ q = lkM n best ++ [f.num]
theorem Zr9 {s : Scm} {best : List (ByteArray × List Int)} {n : ByteArray} : ∀ (l : List Fld) {C : ByteArray → List Int → Prop} {r : List (ByteArray × List Int)}, FOk C r → FOk (fun t q => C t q ∨ CdP s best n l t q) (l.foldl (inF s best n) r)
 | [], C, r, h => h.congr fun t q => by simp [CdP]
 | f :: l, C, r, h => by
  rw [Yab]
  by_cases hc : (inM f.type.name best || !toF s f) = true
  ·have e : inF s best n r f = r := by unfold inF; rw [if_pos hc]
   rw [e]
   refine (Zr9 l h).congr fun t q => or_congr Iff.rfl ⟨fun ⟨g, hg, a⟩ => ⟨g, List.mem_cons_of_mem _ hg, a⟩, fun ⟨g, hg, a, b, c⟩ => ?_⟩
   rcases Yn.1 hg with rfl | hg
   ·rw [a, b] at hc; cases hc
   ·exact ⟨g, hg, a, b, c⟩
  ·have e : inF s best n r f = Zwq r f.type.name (lkM n best ++ [f.num]) := by unfold inF; rw [if_neg hc]
   have hc : inM f.type.name best = false ∧ toF s f = true := by
    cases h1 : inM f.type.name best <;> cases h2 : toF s f <;> simp [h1, h2] at hc ⊢
   rw [e]
   refine (Zr9 l (h.put f.type.name (lkM n best ++ [f.num]))).congr fun t q => ?_
   rw [or_assoc]
   refine or_congr Iff.rfl ⟨?_, fun ⟨g, hg, a⟩ => ?_⟩
   ·rintro (⟨rfl, rfl⟩ | ⟨g, hg, a⟩)
    ·exact ⟨f, Ys .., hc.1, hc.2, rfl, rfl⟩
    ·exact ⟨g, List.mem_cons_of_mem _ hg, a⟩
   ·rcases Yn.1 hg with rfl | hg
    ·exact .inl a.2.2
    ·exact .inr ⟨g, hg, a⟩
theorem Ztd (s : Scm) (best : List (ByteArray × List Int)) (row : List ByteArray) : FOk (fun t q => ∃ n ∈ row, CdP s best n (Zcu s n) t q) (fdF s best row) := by
 have : ∀ (row : List ByteArray) {C : ByteArray → List Int → Prop} {r : List (ByteArray × List Int)}, FOk C r → FOk (fun t q => C t q ∨ ∃ n ∈ row, CdP s best n (Zcu s n) t q) (row.foldl (fun r n => (Zcu s n).foldl (inF s best n) r) r) := fun row => by
  induction row with
  | nil => intro C r h; exact h.congr fun t q => by simp
  | cons n row ih =>
   intro C r h
   rw [Yab]
   refine (ih (Zr9 (s := s) (best := best) (n := n) (Zcu s n) h)).congr fun t q => ?_
   simp only [Yn, exists_eq_or_imp, or_assoc]
 refine (this row (C := fun _ _ => False) (r := []) ⟨fun t p e => (by cases e), fun t _ q => id, by simp [Zbf]⟩).congr fun t q => by simp
structure MgOk (best fd : List (ByteArray × List Int)) (y : List ByteArray × List (ByteArray × List Int)) : Prop where
 o : y.1.Perm (Zbf fd)
 g : ∀ t, Zbp t y.2 = (Zbp t fd).or (Zbp t best)
 nd : (Zbf y.2).Nodup
 l : y.2.length = best.length + fd.length
section
variable {s : Scm} {w : Web} (hw : WOk s w) (h : Fw s)
include hw h
theorem m42 (row : List ByteArray) (best : List (ByteArray × List Int)) (hr : row.length ≤ 1000) (hb : ∀ n, (lkM n best).length ≤ 1000) (hnd : (Zbf best).Nodup) (hfl : (fdF s best row).length ≤ 1000) : Ze4 (ZaS w row best) (MgOk best (fdF s best row)) := by
 have q1 : Ze4 (ZcI (Zky w row best) big (0, [])) fun o => o = .inl (fdF s best row) := by
  refine ZbR (B := Zky w row best) (fun k v => k + v.1 = row.length ∧ v.2 = fdF s best (row.take v.1)) _ (fun k v hI => ?_) big row.length (0, []) (ZaN (by omega)) ⟨rfl, rfl⟩
  obtain ⟨i, r⟩ := v
  obtain ⟨i1, i2⟩ := hI
  simp only at i1 i2
  subst i2
  cases hk : row[i]? with
  | none =>
   have hge := YS.1 hk
   dsimp only [Zky, Zi4, ZiO, Zjg, br, ix, vz, vw, vs, lc, wa, mlk, lnN, Zhb, eqL]
   rw [show decide ((i : Int) < (row.length : Int)) = false from decide_eq_false (by omega)]
   exact Zaq (by rw [Yaa hge])
  | some n =>
   obtain ⟨g0, hgi⟩ := Yd.1 hk
   have g1 := Zdp hk
   have g2 : i + 1 < 9223372036854775808 := by omega
   have e := hw.fl n
   have hf10 := h.fl n
   have hbn := hb n
   dsimp only [Zky, Zi4, ZiO, Zjg, br, ix, vz, vw, vs, lc, wa, mlk, lnN, Zhb, eqL]
   simp only [g1, hk, decide_true, if_true, Option.bind_some]
   refine ZbF (Q := fun o => o = .inl ((Zcu s n).foldl (inF s best n) (fdF s best (row.take i)))) ?_ fun o ho => ?_
   ·refine ZbR (B := ZjY w row best i n (lkM n w.messages)) (fun k v => k + v.1 = (Zcu s n).length ∧ v.2 = ((Zcu s n).take v.1).foldl (inF s best n) (fdF s best (row.take i))) _ (fun k v hJ => ?_) big (Zcu s n).length (0, fdF s best (row.take i)) (ZaN (by omega)) ⟨rfl, rfl⟩
    obtain ⟨j, r⟩ := v
    obtain ⟨j1, jj⟩ := hJ
    simp only at j1 jj
    subst jj
    cases hj : (Zcu s n)[j]? with
    | none =>
     have hge := YS.1 hj
     dsimp only [ZjY, Zis, Ziy, Zjc, Zop, Zsc, Zpn, Zsb, Zh7, Zmo, Zoe, ZeU, ZoP, br, ix, vz, vw, vs, lc, lxc, ap, clg, wa, mlk, mpu, lnN, Zhb, tw, ch, fl, fz]
     rw [e, show decide ((j : Int) < ((Zcu s n).length : Int)) = false from decide_eq_false (by omega)]
     exact Zaq (by rw [Yaa hge])
    | some f =>
     obtain ⟨j0, hje⟩ := Yd.1 hj
     have jl := Zdp hj
     have j2 : j + 1 < 9223372036854775808 := by omega
     have htk : ((Zcu s n).take (j + 1)).foldl (inF s best n) (fdF s best (row.take i)) = inF s best n (((Zcu s n).take j).foldl (inF s best n) (fdF s best (row.take i))) f := by
      rw [YP j0, YaA, hje]; rfl
     obtain ⟨r, hr'⟩ : ∃ r, r = ((Zcu s n).take j).foldl (inF s best n) (fdF s best (row.take i)) := ⟨_, rfl⟩
     rw [← hr'] at htk ⊢
     have g3 : (lkM n best).length < 549755813887 := by omega
     have g4 : (lkM n best).length < 549755813888 := by omega
     obtain ⟨c, ec, kc⟩ := m64 (lkM n best ++ [f.num]) (lkM f.type.name r) (by rw [List.length_append, YV]; omega)
     have hB : ZjY w row best i n (lkM n w.messages) (j, r) = some [.nx (j + 1, inF s best n r f)] := by
      dsimp only [ZjY, Zis, Ziy, Zjc, Zop, Zsc, Zpn, Zsb, Zh7, Zmo, Zoe, ZeU, ZoP, br, ix, vz, vw, vs, lc, lxc, ap, clg, wa, mlk, mpu, lnN, Zhb, tw, ch, fl, fz]
      simp only [e, jl, hj, m62 hw, m63 _ g4, ec, kc, g3, j2, decide_true, if_true, Option.bind_some, Option.isSome_some, implies_true, Y7]
      unfold inF Zwq
      split
      ·rfl
      ·split <;> rfl
     rw [hB]
     refine Zaq ⟨k - 1, by omega, by simp only; omega, ?_⟩
     simp only
     rw [htk]
   ·subst ho
    simp only [Sum.elim_inl, g2, if_true]
    refine Zaq ⟨k - 1, by omega, by simp only; omega, ?_⟩
    simp only
    unfold fdF
    rw [YP g0, YaA, hgi]
    rfl
 obtain ⟨fd, hfd⟩ : ∃ fd, fd = fdF s best row := ⟨_, rfl⟩
 have ok := Ztd s best row
 rw [← hfd] at q1 hfl ok ⊢
 have hdis : ∀ t ∈ Zbf fd, inM t best = false := fun t ht => by
  obtain ⟨p, hp⟩ := YH.1 ((Zcy t fd).1 ht)
  obtain ⟨n, _, f, _, a, _, c, _⟩ := (ok.s t p hp).1
  rw [c]; exact a
 have q2 : Ze4 (ZcI ZjF big ([], best, fd)) fun o => Sum.elim (fun v : (List (ByteArray × List Int)) × List ByteArray => MgOk best fd (v.2, v.1)) (fun _ => False) o := by
  refine ZbR (B := ZjF) (fun k v => k = v.2.2.length ∧ (v.1 ++ Zbf v.2.2).Perm (Zbf fd) ∧ (∀ t, Zbp t v.2.1 = if Zhv v.1 t = true then Zbp t fd else Zbp t best) ∧ (Zbf v.2.1).Nodup ∧ v.2.1.length + v.2.2.length = best.length + fd.length ∧ ∀ x ∈ v.2.2, x ∈ fd) _ (fun k v hI => ?_) big fd.length ([], best, fd) (ZaN (by omega)) ⟨rfl, .refl _, fun t => by simp [Zhv], hnd, rfl, fun x hx => hx⟩
  obtain ⟨a, b, c⟩ := v
  obtain ⟨i1, i2, i3, i4, i5, i6⟩ := hI
  simp only at i1 i2 i3 i4 i5 i6
  have hal : a.length ≤ 1000 := by
   have := i2.length_eq
   simp only [List.length_append, Zbf, Yj] at this
   omega
  unfold ZjF
  simp only
  unfold ZiQ
  refine Znu (fun e => ?_) fun j x hx => ?_
  ·subst e
   have hp : a.Perm (Zbf fd) := by simpa [Zbf] using i2
   refine Zaq ⟨hp, fun t => ?_, i4, by simpa using i5⟩
   simp only
   rw [i3]
   split
   ·rename_i ht
    have := (Zcy t fd).1 (hp.mem_iff.1 (ZbO.1 ht))
    cases hg : Zbp t fd with
    | none => rw [hg] at this; cases this
    | some p => rfl
   ·rename_i ht
    have : Zbp t fd = none := by
     cases hg : Zbp t fd with
     | none => rfl
     | some p => exact absurd (ZbO.2 (hp.mem_iff.2 ((Zcy t fd).2 (by rw [hg]; rfl)))) ht
    rw [this]; rfl
  ·have hlt := (Yd.1 hx).1
   have hxm : x ∈ fd := i6 x (Yu hx)
   have hxk : x.1 ∈ Zbf fd := Yq.2 ⟨x, hxm, rfl⟩
   have hxa : x.1 ∉ a := fun hc => by
    have hnd2 := i2.nodup_iff.2 ok.nd
    rw [Ybh] at hnd2
    exact hnd2.2.2 x.1 hc x.1 (Yq.2 ⟨x, Yu hx, rfl⟩) rfl
   have hgx : Zbp x.1 fd = some x.2 := ZmC ok.nd hxm
   have hnb : x.1 ∉ Zbf b := fun hc => by
    have := (Zcy x.1 b).1 hc
    rw [i3, if_neg fun q => hxa (ZbO.1 q)] at this
    have h2 := hdis x.1 hxk
    unfold inM at h2
    rw [this] at h2; cases h2
   have g3 : a.length < 549755813887 := by omega
   dsimp only [ZjF, ZiQ, vz, vw, ap, mpu, nxN, lnN, Zhb, vwr, fl]
   simp only [g3, if_true]
   refine Zaq ⟨(c.eraseIdx j).length, by rw [Yah hlt]; omega, rfl, ?_, fun t => ?_, Zie _ _ i4, ?_, fun y hy => i6 y (List.mem_of_mem_eraseIdx hy)⟩
   ·refine .trans ?_ i2
    rw [YY]
    have hpm : (x.1 :: Zbf (c.eraseIdx j)).Perm (Zbf c) := (ZdR hx).map (fun p : ByteArray × List Int => p.1)
    exact List.Perm.append_left _ hpm
   ·simp only
    rw [ZbB, i3]
    by_cases e : x.1 = t
    ·subst e
     have : Zhv (a ++ [x.1]) x.1 = true := ZbO.2 (by simp)
     simp [hgx, this]
    ·have e2 : Zhv (a ++ [x.1]) t = Zhv a t := by rw [Bool.eq_iff_iff, ZbO, ZbO]; simp [show ¬ t = x.1 from fun q => e q.symm]
     simp [e, e2]
   ·have : (ZbI x.1 x.2 b).length = b.length + 1 := by
     have e : ∀ r : List (ByteArray × List Int), r.length = (Zbf r).length := fun r => (Yj _).symm
     rw [e, e b]
     rcases Ze5 x.1 x.2 b with ⟨q, _⟩ | ⟨_, q⟩
     ·exact absurd q hnb
     ·rw [q]; simp
    simp only
    rw [this, Yah hlt]
    omega
 dsimp only [ZaS, ZlO, Zme, Zmk, Zmi, Zk7, ZmG, vz, vw, lc, lrN, fl, fr, eqL]
 refine ZbF q1 fun o ho => ?_
 subst ho
 simp only [Sum.elim_inl]
 refine ZbF q2 fun o ho => ?_
 cases o with
 | inr _ => exact ho.elim
 | inl v => exact Zaq ho
end
inductive Wk (s : Scm) (a : ByteArray) : List Int → ByteArray → Prop
 | nil : Wk s a [] a
 | snoc {p : List Int} {b : ByteArray} {f : Fld} : Wk s a p b → f ∈ Zcu s b → toF s f = true → Wk s a (p ++ [f.num]) f.type.name
theorem Wk.inv {s : Scm} {a t : ByteArray} {p : List Int} (h : Wk s a p t) : (p = [] ∧ t = a) ∨ ∃ q b f, p = q ++ [f.num] ∧ Wk s a q b ∧ f ∈ Zcu s b ∧ toF s f = true ∧ t = f.type.name := by
 cases h with
 | nil => exact .inl ⟨rfl, rfl⟩
 | snoc h1 h2 h3 => exact .inr ⟨_, _, _, rfl, h1, h2, h3, rfl⟩
theorem Wk.isM {s : Scm} {a t : ByteArray} {p : List Int} (h : Wk s a p t) (ha : Go.Eng.isM s a = true) : Go.Eng.isM s t = true := by
 cases h with
 | nil => exact ha
 | snoc _ _ h3 => unfold toF at h3; exact (Yav.1 h3).1
theorem Wk.cut {s : Scm} {a t : ByteArray} {q : List Int} (h : Wk s a q t) : ∀ k, k ≤ q.length → ∃ q1 q2 n, q = q1 ++ q2 ∧ q1.length = k ∧ Wk s a q1 n ∧ ∀ p, Wk s a p n → Wk s a (p ++ q2) t := by
 induction h with
 | nil => intro k hk; exact ⟨[], [], a, rfl, by simp at hk; simp [hk], .nil, fun p hp => by simpa using hp⟩
 | snoc h1 h2 h3 ih =>
  rename_i p b f
  intro k hk
  rw [List.length_append, YV] at hk
  by_cases he : k = p.length + 1
  ·exact ⟨p ++ [f.num], [], _, by simp, by simp [he], .snoc h1 h2 h3, fun r hr => by simpa using hr⟩
  ·obtain ⟨q1, q2, n, e1, e2, e3, e4⟩ := ih k (by omega)
   exact ⟨q1, q2 ++ [f.num], n, by rw [e1, YY], e2, e3, fun r hr => by rw [← YY]; exact .snoc (e4 r hr) h2 h3⟩
structure Best (s : Scm) (a t : ByteArray) (p : List Int) : Prop where
 w : Wk s a p t
 l : ∀ q, Wk s a q t → p.length ≤ q.length ∧ (p.length = q.length → lxB q p = false)
theorem Best.uniq {s : Scm} {a t : ByteArray} {p q : List Int} (h : Best s a t p) (k : Best s a t q) : p = q := by
 obtain ⟨h1, h2⟩ := h.l q k.w
 obtain ⟨k1, k2⟩ := k.l p h.w
 exact ZlY (k2 (by omega)) (h2 (by omega))
structure BOk (s : Scm) (a : ByteArray) (k : Nat) (r : List (ByteArray × List Int)) : Prop where
 sm : ∀ t p, Zbp t r = some p → Best s a t p ∧ p.length ≤ k
 n : ∀ t, Zbp t r = none → ∀ q, Wk s a q t → k < q.length
 nd : (Zbf r).Nodup
theorem BOk.lk {s : Scm} {a : ByteArray} {k : Nat} {r : List (ByteArray × List Int)} (h : BOk s a k r) (n : ByteArray) : (lkM n r).length ≤ k := by
 unfold lkM
 cases hg : Zbp n r with
 | none => simp [Mv.z]
 | some p => exact (h.sm n p hg).2
theorem BOk.len {s : Scm} (hs : Fw s) {a : ByteArray} (ha : isM s a = true) {k : Nat} {r : List (ByteArray × List Int)} (h : BOk s a k r) : r.length ≤ s.messages.length := by
 have := Zdf h.nd (r := nmM s) fun x hx => Zcf.1 (by
  obtain ⟨p, hp⟩ := YH.1 ((Zcy x r).1 hx)
  exact (h.sm x p hp).1.w.isM ha)
 simp only [Zbf, nmM, Yj] at this
 exact this
theorem BOk.next {s : Scm} {a : ByteArray} {k : Nat} {r : List (ByteArray × List Int)} (h : BOk s a k r) {row : List ByteArray} (hrow : ∀ t, t ∈ row ↔ ∃ p, Zbp t r = some p ∧ p.length = k) {y : List ByteArray × List (ByteArray × List Int)} (hy : MgOk r (fdF s r row) y) :
  BOk s a (k + 1) y.2 ∧ ∀ t, t ∈ y.1 ↔ ∃ p, Zbp t y.2 = some p ∧ p.length = k + 1 := by
 have ok := Ztd s r row
 have hcd : ∀ t q, (∃ n ∈ row, CdP s r n (Zcu s n) t q) → Zbp t r = none ∧ Wk s a q t ∧ q.length = k + 1 := fun t q ⟨n, hn, f, hf, h1, h2, h3, h4⟩ => by
  obtain ⟨p, hp, hpl⟩ := (hrow n).1 hn
  have e : lkM n r = p := by unfold lkM; rw [hp]; rfl
  subst h3
  rw [e] at h4
  subst h4
  refine ⟨?_, .snoc (h.sm n p hp).1.w hf h2, by simp [hpl]⟩
  unfold inM at h1
  cases hg : Zbp f.type.name r with
  | none => rfl
  | some x => rw [hg] at h1; cases h1
 have hway : ∀ t q, Zbp t r = none → Wk s a q t → q.length = k + 1 → ∃ c, (∃ n ∈ row, CdP s r n (Zcu s n) t c) ∧ lxB q c = false := fun t q hn hq hl => by
  rcases hq.inv with ⟨rfl, _⟩ | ⟨q0, b, f, rfl, h1, h2, h3, rfl⟩
  ·simp at hl
  ·rw [List.length_append, YV] at hl
   cases hb : Zbp b r with
   | none => have := h.n b hb q0 h1; omega
   | some p0 =>
    obtain ⟨hb1, hb2⟩ := h.sm b p0 hb
    obtain ⟨hb3, hb4⟩ := hb1.l q0 h1
    have hpl : p0.length = k := by
     have := h.n _ hn (p0 ++ [f.num]) (.snoc hb1.w h2 h3)
     rw [List.length_append, YV] at this
     omega
    refine ⟨p0 ++ [f.num], ⟨b, (hrow b).2 ⟨p0, hb, hpl⟩, f, h2, ?_, h3, rfl, ?_⟩, ?_⟩
    ·unfold inM; rw [hn]; rfl
    ·unfold lkM; rw [hb]; rfl
    ·rw [Zng (by omega), hb4 (by omega)]
     simp
 refine ⟨⟨fun t p e => ?_, fun t e q hq => ?_, hy.nd⟩, fun t => ?_⟩
 ·rw [hy.g] at e
  cases hf : Zbp t (fdF s r row) with
  | some p' =>
   rw [hf] at e
   have e : p' = p := by simpa using e
   subst e
   obtain ⟨c1, c2⟩ := ok.s t p' hf
   obtain ⟨d1, d2, d3⟩ := hcd t p' c1
   refine ⟨⟨d2, fun q hq => ?_⟩, by omega⟩
   have hlt := h.n t d1 q hq
   refine ⟨by omega, fun hl => ?_⟩
   obtain ⟨c, hc, hle⟩ := hway t q d1 hq (by omega)
   exact ZxR (c2 c hc) hle
  | none =>
   rw [hf] at e
   have e : Zbp t r = some p := by simpa using e
   exact ⟨(h.sm t p e).1, by have := (h.sm t p e).2; omega⟩
 ·rw [hy.g] at e
  cases hf : Zbp t (fdF s r row) with
  | some p' => rw [hf] at e; cases e
  | none =>
   rw [hf] at e
   have e : Zbp t r = none := by simpa using e
   have hlt := h.n t e q hq
   by_cases hl : q.length = k + 1
   ·obtain ⟨c, hc, _⟩ := hway t q e hq hl
    exact absurd hc (ok.n t hf c)
   ·omega
 ·rw [hy.o.mem_iff, Zcy, hy.g]
  constructor
  ·intro hs
   obtain ⟨p, hp⟩ := YH.1 hs
   exact ⟨p, by rw [hp]; rfl, (hcd t p (ok.s t p hp).1).2.2⟩
  ·rintro ⟨p, hp, hl⟩
   cases hf : Zbp t (fdF s r row) with
   | some p' => rfl
   | none =>
    rw [hf] at hp
    have hp : Zbp t r = some p := by simpa using hp
    have := (h.sm t p hp).2
    omega
theorem BOk.stop {s : Scm} {a : ByteArray} {k : Nat} {r : List (ByteArray × List Int)} (h : BOk s a k r) (hrow : ∀ t p, Zbp t r = some p → p.length ≠ k) {t : ByteArray} (ht : Zbp t r = none) : ∀ (m : Nat) (q : List Int), q.length ≤ m → ¬ Wk s a q t
 | 0, q, hm, hq => by have := h.n t ht q hq; omega
 | m + 1, q, hm, hq => by
  have hk := h.n t ht q hq
  obtain ⟨q1, q2, n, rfl, e2, e3, e4⟩ := hq.cut k (by omega)
  cases hn : Zbp n r with
  | none => have := h.n n hn q1 e3; omega
  | some p =>
   obtain ⟨p1, p2⟩ := h.sm n p hn
   have := hrow n p hn
   refine h.stop hrow ht m (p ++ q2) ?_ (e4 p p1.w)
   rw [List.length_append] at hm ⊢
   omega
def Zh8 (s : Scm) (a b : ByteArray) (y : List Int × Int) : Prop := (∃ p, y = (p, 0) ∧ isM s a = true ∧ isM s b = true ∧ Best s a b p ∧ p.length < s.messages.length) ∨ (y = ([], 10) ∧ ¬ (isM s a = true ∧ isM s b = true ∧ ∃ p, Wk s a p b))
theorem Zh8.uniq {s : Scm} {a b : ByteArray} {y z : List Int × Int} (h : Zh8 s a b y) (k : Zh8 s a b z) : y = z := by
 rcases h with ⟨p, rfl, h1, h2, h3, _⟩ | ⟨rfl, h1⟩
 ·rcases k with ⟨q, rfl, _, _, k3, _⟩ | ⟨rfl, k1⟩
  ·rw [h3.uniq k3]
  ·exact absurd ⟨h1, h2, p, h3.w⟩ k1
 ·rcases k with ⟨q, rfl, k1, k2, k3, _⟩ | ⟨rfl, k1⟩
  ·exact absurd ⟨k1, k2, q, k3.w⟩ h1
  ·rfl
theorem ZsP {β : Type} [DecidableEq β] {M : Option (List β)} {Q : β → Prop} (h : Ze4 M Q) (k : ∀ a b, Q a → Q b → a = b) : ∃ y, Zqj M = some y ∧ Q y := by
 obtain ⟨ys, a, b, c⟩ := h
 cases ys with
 | nil => exact absurd rfl b
 | cons y r => exact ⟨y, Znr a b fun z hz => k z y (c z hz) (c y (Ys ..)), c y (Ys ..)⟩
theorem Zp6 {s : Scm} (hs : Fw s) (best : List (ByteArray × List Int)) (row : List ByteArray) : (fdF s best row).length ≤ 8 := by
 have ok := Ztd s best row
 have := Zdf ok.nd (r := nmM s) fun x hx => Zcf.1 (by
  obtain ⟨p, hp⟩ := YH.1 ((Zcy x _).1 hx)
  obtain ⟨n, _, f, _, _, b, c, _⟩ := (ok.s x p hp).1
  rw [c]
  unfold toF at b
  exact (Yav.1 b).1)
 have h8 := hs.m
 simp only [Zbf, nmM, Yj] at this
 omega
theorem n16 {s : Scm} (h : Fw s) (a b : ByteArray) : ∃ y, Zd4 s a b = some y ∧ Zh8 s a b y := by
 refine ZsP ?_ fun y z => Zh8.uniq
 have h8 := h.m
 obtain ⟨w, hw⟩ : ∃ w, w = Zxo s := ⟨_, rfl⟩
 have ok : WOk s w := hw ▸ Zmn s
 dsimp only [ZcQ, ZrV, ZrG, ZqY, br, vw, lc, cl, mlk, mpu, lrN]
 simp only [m32 h, Option.bind_some, ← hw, ok.im]
 cases ha : isM s a with
 | false => exact Zaq (.inr ⟨rfl, fun q => by rw [ha] at q; cases q.1⟩)
 | true =>
  cases hb : isM s b with
  | false => exact Zaq (.inr ⟨rfl, fun q => by rw [hb] at q; cases q.2.1⟩)
  | true =>
   have q1 : Ze4 (ZcI (ZjQ b w) big ([a], ZbI a [] [])) fun o => Sum.elim (fun _ => Zh8 s a b ([], 10)) (Zh8 s a b) o := by
    refine ZbR (B := ZjQ b w) (fun m v => ∃ k, BOk s a k v.2 ∧ (∀ t, t ∈ v.1 ↔ ∃ p, Zbp t v.2 = some p ∧ p.length = k) ∧ v.1.length ≤ 8 ∧ (v.1 ≠ [] → k < v.2.length) ∧ (v.1 = [] → Zbp b v.2 = none) ∧ m = (10 - v.2.length) * 2 + min v.1.length 1) _ (fun m v hI => ?_) big 19 ([a], ZbI a [] []) (ZaN (by decide)) ⟨0, ?_, ?_, by simp, fun _ => by simp [ZbI], fun q => (by simp at q), by simp [ZbI]⟩
    ·obtain ⟨row, r⟩ := v
     obtain ⟨k, i1, i2, i3, i4, i5, i6⟩ := hI
     simp only at i1 i2 i3 i4 i5 i6
     have hrl := i1.len h ha
     by_cases hr : row = []
     ·subst hr
      have hnb := i5 rfl
      dsimp only [ZjQ, ZoN, ZnH, Zo1, Zoo, br, vz, vw, lc, mlk, Zxt, lnN, Zhb, eqL]
      refine Zaq (.inr ⟨rfl, fun ⟨_, _, p, hp⟩ => ?_⟩)
      exact i1.stop (fun t p e hl => by have := (i2 t).2 ⟨p, e, hl⟩; cases this) hnb p.length p (Yg _) hp
     ·have hpos : 0 < row.length := YaD.2 hr
      have g0 : (0 : Int) < (row.length : Int) := by omega
      have i4 := i4 hr
      dsimp only [ZjQ, ZoN, ZnH, Zo1, Zoo, br, vz, vw, lc, mlk, Zxt, lnN, Zhb, eqL]
      simp only [g0, decide_true, if_true]
      cases hgb : Zbp b r with
      | some p =>
       have e1 : inM b r = true := by unfold inM; rw [hgb]; rfl
       have e2 : lkM b r = p := by unfold lkM; rw [hgb]; rfl
       obtain ⟨p1, p2⟩ := i1.sm b p hgb
       simp only [e1, e2, if_true]
       exact Zaq (.inl ⟨p, rfl, ha, hb, p1, by omega⟩)
      | none =>
       have e1 : inM b r = false := by unfold inM; rw [hgb]; rfl
       simp only [e1, Yao, if_false]
       refine ZbF (m42 ok h row r (by omega) (fun n => YU (i1.lk n) (by omega)) i1.nd (by have := Zp6 h r row; omega)) fun y hy => ?_
       obtain ⟨j1, j2⟩ := i1.next i2 hy
       have hyl := j1.len h ha
       have hl := hy.l
       have hol : y.1.length = (fdF s r row).length := by
        have := hy.o.length_eq
        simpa [Zbf] using this
       refine Zaq ⟨(10 - y.2.length) * 2 + min y.1.length 1, ?_, k + 1, j1, j2, (by have := Zp6 h r row; show y.1.length ≤ 8; omega), fun q => ?_, fun q => ?_, rfl⟩
       ·omega
       ·have := YaD.2 (show y.1 ≠ [] from q)
        show k + 1 < y.2.length
        omega
       ·rw [hy.g, hgb]
        have : (fdF s r row) = [] := YC (by rw [← hol, q]; rfl)
        rw [this]; rfl
    ·refine ⟨fun t p e => ?_, fun t e q hq => ?_, by simp [ZbI, Zbf]⟩
     ·simp only [ZbB] at e
      split at e
      ·rename_i e2; subst e2; cases e
       exact ⟨⟨.nil, fun q hq => ⟨Yal _, fun hl => by
        have : q = [] := YC hl.symm
        subst this; rfl⟩⟩, Yg _⟩
      ·cases e
     ·simp only [ZbB] at e
      split at e
      ·cases e
      ·rename_i e2
       rcases hq.inv with ⟨rfl, rfl⟩ | ⟨q0, _, f, rfl, _⟩
       ·exact absurd rfl e2
       ·simp
    ·intro t
     simp only [YF, ZbB]
     constructor
     ·rintro rfl; exact ⟨[], by simp, rfl⟩
     ·rintro ⟨p, e, _⟩
      split at e
      ·rename_i e2; exact e2.symm
      ·cases e
   simp only [YaQ, YbB, Yao, if_false]
   refine ZbF q1 fun o ho => ?_
   cases o with
   | inl u => exact Zaq ho
   | inr z => exact Zaq ho
end Go.Proofs.Ythhipejbnbochaa
