/-
  What is proved: the second form of wireschemalaw11.LinkNames: the law returns true and leaves its arguments as they were.
  Condition: the arguments are together of bulk at most 1048576 (the given second form); nothing else.
-/
import Derived.Test.YthagpbkmakocjaaCn23
import Derived.Test.YthagpbkmakocjaaCn22
import Derived.Test.YthagpbkmakocjaaRows
import Derived.WalkKit
import Derived.ProofKit
import Derived.OpenShut
import Derived.JoinedCond
namespace Go.Proofs.Ythagpbkmakocjaa
set_option linter.all false
open Go Go.Eng
theorem ZIo (g : Fil) (ht : tot g ≤ 1048576) : Zay [Zei g, Zfd g, Zj1 g] = some (ZaD g) := by
 have h6 : tot g = g.messages.length + g.enums.length + g.services.length := rfl
 rw [m47 _ (by simp only [List.map_cons, List.map_nil, List.sum_cons, List.sum_nil, Zcn, Zda, Zdj]; omega) (by simp)]
 simp [ZaD]
theorem ZfH (fs : List Fil) : (Zaf fs).length = (fs.map tot).sum := Zhv ZaD tot ZcM fs
theorem Zpy {fs : List Fil} (h : SzA fs) {i : Nat} {f : Fil} (hf : fs[i]? = some f) : (Zaf (fs.take i)).length + tot f ≤ 1048576 := by
 have := Zci tot hf
 have := h.t
 rw [ZfH]
 omega
theorem m20 (fs : List Fil) (h : SzA fs) : ZdK fs = some (ZcO (ZcL (Zaf fs))) := by
 have hn := h.n
 have q1 : Zad (ZnY fs) big ([], 0) = some (.inl (Zaf fs)) := Zbk (B := ZnY fs) (N := big) fs Zaf (fun i b => (b, i)) id (hN := Zar (by omega)) (he := by simp [ZnY, Zvd, Ztn, Zum, Zuw, Zto, br, ix, vz, vw, vs]) (hs := fun i x hx => by
  have g1 := ZiP hx
  have g0 := (List.getElem?_eq_some_iff.1 hx).1
  have g2 : i + 1 < 9223372036854775808 := by omega
  have hm := List.mem_of_getElem? hx
  have g3 := m24 x (h.f x hm)
  have g4 := Zpy h hx
  have g5 := ZIo x (by omega)
  have g6 : (Zaf (fs.take i)).length + (ZaD x).length < 549755813888 := by rw [ZcM]; omega
  dsimp only [ZnY, Zvd, Ztn, Zum, Zuw, Zto, al, frt, stp, br, ix, ixi, vz, vy, vw, vs, vg, v2, lr, lrt, ln, lxe, lc, lf, lfe, ap, aq, a0, a1, ad, cl, cs, cf, wa, wi, ir, ca, cp, dd, mv, st, ss, sL, Bd.c, Bd.vl, ar]
  simp only [g1, g2, g3, g5, g6, hx, decide_true, if_true, Option.bind_some]
  simp only [Zaf, List.flatMap_append, List.flatMap_cons, List.flatMap_nil, List.append_nil])
 have l1 : (Zaf fs).length < 4611686018427387904 := by have := h.t; rw [ZfH]; omega
 have l2 : (ZcL (Zaf fs)).length < 4611686018427387904 := by rw [Zeq]; exact l1
 have l3 : (Zaf fs).length = (ZcL (Zaf fs)).length := (Zeq _).symm
 unfold ZdK
 dsimp only [Zrf, Zq2, Zqh, ZpX, Zx7, ZzR, ZyA, ZxA, al, frt, stp, br, ix, ixi, vz, vy, vw, vs, vg, v2, lr, lrt, ln, lxe, lc, lf, lfe, ap, aq, a0, a1, ad, cl, cs, cf, wa, wi, ir, ca, cp, dd, mv, st, ss, sL, Bd.c, Bd.vl, rn, Zdg, Zcx]
 simp only [q1, Option.bind_some, Sum.elim_inl, if_pos l1, if_pos l2, if_pos l3]
def ZiF (s : ByteArray) (b : List ByteArray × Bool) (t : ByteArray) : List ByteArray × Bool := if ((!b.2) && (!(sLt t s || decide (t = s)))) = true then ((b.1 ++ [s]) ++ [t], true) else (b.1 ++ [t], b.2)
def ZlH (s : ByteArray) (l : List ByteArray) : List ByteArray × Bool := l.foldl (ZiF s) ([], false)
theorem Zi7 (s : ByteArray) : ∀ (l acc : List ByteArray), l.foldl (ZiF s) (acc, true) = (acc ++ l, true)
 | [], acc => by simp
 | t :: l, acc => by
  rw [List.foldl_cons, show ZiF s (acc, true) t = (acc ++ [t], true) from by unfold ZiF; simp, Zi7 s l]
  simp
theorem ZhN (s : ByteArray) : ∀ (l acc : List ByteArray), (if (!(l.foldl (ZiF s) (acc, false)).2) = true then (l.foldl (ZiF s) (acc, false)).1 ++ [s] else (l.foldl (ZiF s) (acc, false)).1) = acc ++ Zkh l s
 | [], acc => by simp [Zkh]
 | t :: l, acc => by
  rw [List.foldl_cons]
  by_cases h : Zce s t = true
  ·have e : ZiF s (acc, false) t = (acc ++ [t], false) := by unfold ZiF; unfold Zce at h; simp [h]
   have e2 : Zkh (t :: l) s = t :: Zkh l s := by unfold Zkh; rw [List.takeWhile_cons, List.dropWhile_cons, if_pos h, if_pos h]; rfl
   rw [e, ZhN s l, e2]
   simp
  ·have e : ZiF s (acc, false) t = ((acc ++ [s]) ++ [t], true) := by unfold ZiF; unfold Zce at h; simp [h]
   have e2 : Zkh (t :: l) s = s :: t :: l := by unfold Zkh; rw [List.takeWhile_cons, List.dropWhile_cons, if_neg h, if_neg h]; rfl
   rw [e, Zi7, e2]
   simp
theorem ZuJ (s : ByteArray) (b : List ByteArray × Bool) (t : ByteArray) : (ZiF s b t).1.length ≤ b.1.length + 2 := by
 unfold ZiF; split <;> simp
theorem Zlj (s : ByteArray) : ∀ (l : List ByteArray) (b : List ByteArray × Bool), (l.foldl (ZiF s) b).1.length ≤ b.1.length + 2 * l.length
 | [], b => by simp
 | t :: l, b => by
  rw [List.foldl_cons]
  have := Zlj s l (ZiF s b t)
  have := ZuJ s b t
  rw [List.length_cons]
  omega
theorem Zt6 (out : List ByteArray) (s : ByteArray) : (ZhY out s).length ≤ out.length + 1 := by
 unfold ZhY; split
 ·omega
 ·rw [Ztj]; omega
theorem ZkM : ∀ (l out : List ByteArray), (l.foldl ZhY out).length ≤ out.length + l.length
 | [], out => by simp
 | s :: l, out => by
  rw [List.foldl_cons]
  have := ZkM l (ZhY out s)
  have := Zt6 out s
  rw [List.length_cons]
  omega
theorem ZFE (fs : List Fil) (w2 : Nat) (y4 v5 : List ByteArray) (v6 : Nat) (s : ByteArray) (hl : v5.length ≤ 1048576) : Zad (Znu fs w2 y4 v5 v6 s) big ([], false, 0) = some (.inl ((ZlH s v5).2, (ZlH s v5).1)) :=
 Zbk (B := Znu fs w2 y4 v5 v6 s) (N := big) v5 (fun p => ZlH s p) (fun i b => (b.1, b.2, i)) (fun b => (b.2, b.1)) (hN := Zar (by omega)) (he := by simp [Znu, Ztr, br]) (hs := fun i x hx => by
  have g1 := ZiP hx
  have g0 := (List.getElem?_eq_some_iff.1 hx).1
  have g2 : i + 1 < 9223372036854775808 := by omega
  have g3 := Zlj s (v5.take i) ([], false)
  have g4 : (v5.take i).length ≤ i := by rw [List.length_take]; omega
  have e : ZlH s (v5.take i ++ [x]) = ZiF s (ZlH s (v5.take i)) x := by unfold ZlH; rw [List.foldl_append]; rfl
  rw [e]
  unfold ZlH
  generalize (v5.take i).foldl (ZiF s) ([], false) = b at *
  simp only [List.length_nil] at g3
  have g5 : b.1.length < 549755813887 := by omega
  have g6 : (b.1 ++ [s]).length < 549755813887 := by rw [List.length_append, List.length_singleton]; omega
  dsimp only [Znu, Ztr, al, frt, stp, br, ix, ixi, vz, vy, vw, vs, vg, v2, lr, lrt, ln, lxe, lc, lf, lfe, ap, aq, a0, a1, ad, cl, cs, cf, wa, wi, ir, ca, cp, dd, mv, st, ss, sL, Bd.c, Bd.vl]
  simp only [g1, hx, decide_true, if_true, Option.bind_some, g2, g5, g6]
  unfold ZiF
  by_cases hc : ((!b.2) && (!(sLt x s || decide (x = s)))) = true
  ·rw [if_pos hc, if_pos hc]
  ·rw [if_neg hc, if_neg hc])
theorem ZzU (l : List ByteArray) (x : ByteArray) : (l.any fun y => decide (y = x)) = ZgY l x := by
 rw [Bool.eq_iff_iff, ZeN, List.any_eq_true]
 exact ⟨fun ⟨y, hy, e⟩ => by simpa using (of_decide_eq_true e) ▸ hy, fun h => ⟨x, h, by simp⟩⟩
theorem ZE7 (fs : List Fil) (w2 : Nat) (y4 v1 : List ByteArray) (hl : v1.length + y4.length ≤ 1048576) : Zad (ZmP fs w2 y4) big (v1, 0) = some (.inl (y4.foldl ZhY v1)) :=
 Zbk (B := ZmP fs w2 y4) (N := big) y4 (fun p => p.foldl ZhY v1) (fun i b => (b, i)) id (hN := Zar (by omega)) (he := by simp [ZmP, Zt3, Zf5, Zuv, Zsf, Zs2, ZrY, ZsG, ZsO, br, ix, vz, vw, vs]) (hs := fun i x hx => by
  have g1 := ZiP hx
  have g0 := (List.getElem?_eq_some_iff.1 hx).1
  have g2 : i + 1 < 9223372036854775808 := by omega
  have g3 := ZkM (y4.take i) v1
  have g4 : (y4.take i).length ≤ i := by rw [List.length_take]; omega
  rw [List.foldl_append, List.foldl_cons, List.foldl_nil]
  generalize (y4.take i).foldl ZhY v1 = out at *
  have hq := m45 out x (by omega)
  rw [ZzU] at hq
  have g5 := ZFE fs w2 y4 out i x (by omega)
  have g6 := Zlj x out ([], false)
  have g7 : (ZlH x out).1.length < 549755813887 := by unfold ZlH; simp only [List.length_nil] at g6; omega
  have g8 := ZhN x out []
  rw [List.nil_append] at g8
  dsimp only [ZmP, ZsO, ZsG, ZrY, Zs2, Zsf, Zuv, Zf5, Zt3, al, frt, stp, br, ix, ixi, vz, vy, vw, vs, vg, v2, lr, lrt, ln, lxe, lc, lf, lfe, ap, aq, a0, a1, ad, cl, cs, cf, wa, wi, ir, ca, cp, dd, mv, st, ss, sL, Bd.c, Bd.vl, lxc]
  simp only [g1, hx, hq, g2, g5, g7, decide_true, if_true, Option.bind_some, Sum.elim_inl]
  unfold ZhY
  by_cases hm : ZgY out x = true
  ·rw [if_pos hm, if_pos hm]
  ·rw [if_neg hm, if_neg hm, ← g8]
   show (if (!(ZlH x out).2) = true then _ else _) = some (Lv.nx ((if (!(ZlH x out).2) = true then (ZlH x out).1 ++ [x] else (ZlH x out).1), i + 1))
   by_cases hc : (!(ZlH x out).2) = true
   ·rw [if_pos hc, if_pos hc]
   ·rw [if_neg hc, if_neg hc])
theorem m21 (fs : List Fil) (h : SzA fs) : Zbu fs = some ((Zaf fs).foldl ZhY []) := by
 have hn := h.n
 have q1 : Zad (Znk fs) big ([], 0) = some (.inl ((Zaf fs).foldl ZhY [])) := Zbk (B := Znk fs) (N := big) fs (fun p => (Zaf p).foldl ZhY []) (fun i b => (b, i)) id (hN := Zar (by omega)) (he := by simp [Znk, ZlT, ZlQ, Zl5, br, ix, vs]) (hs := fun i x hx => by
  have g1 := ZiP hx
  have g0 := (List.getElem?_eq_some_iff.1 hx).1
  have g2 : i + 1 < 9223372036854775808 := by omega
  have hm := List.mem_of_getElem? hx
  have g3 : Zbl x = some (ZaD x) := m50 x (h.f x hm)
  have g4 := Zpy h hx
  have g5 := ZkM (Zaf (fs.take i)) []
  have g6 := ZE7 fs i (ZaD x) ((Zaf (fs.take i)).foldl ZhY []) (by rw [ZcM]; simp only [List.length_nil] at g5; omega)
  dsimp only [Znk, Zl5, ZlQ, ZlT, al, frt, stp, br, ix, ixi, vz, vy, vw, vs, vg, v2, lr, lrt, ln, lxe, lc, lf, lfe, ap, aq, a0, a1, ad, cl, cs, cf, wa, wi, ir, ca, cp, dd, mv, st, ss, sL, Bd.c, Bd.vl]
  simp only [g1, g2, g3, g6, hx, decide_true, if_true, Option.bind_some, Sum.elim_inl]
  simp only [Zaf, List.flatMap_append, List.flatMap_cons, List.flatMap_nil, List.append_nil, List.foldl_append])
 unfold Zbu
 dsimp only [ZpE, ZoT, Zp3, ZoL, al, frt, stp, br, ix, ixi, vz, vy, vw, vs, vg, v2, lr, lrt, ln, lxe, lc, lf, lfe, ap, aq, a0, a1, ad, cl, cs, cf, wa, wi, ir, ca, cp, dd, mv, st, ss, sL, Bd.c, Bd.vl]
 simp only [q1, Option.bind_some, Sum.elim_inl]
theorem ZIF (fs : List Fil) (l : List ByteArray) (hl : l.length ≤ 1048576) (hs : l.Pairwise fun x y => sLt x y = true) : Zad (ZAW fs l l) big 0 = some (.inl ()) :=
 Zbk (B := ZAW fs l l) (N := big) l (fun _ => ()) (fun i _ => i) (fun _ => ()) (hN := Zar (by omega)) (he := by simp [ZAW, ZEp, vz]) (hs := fun i x hx => by
  have g1 := ZiP hx
  have g0 := (List.getElem?_eq_some_iff.1 hx).1
  have g2 : i + 1 < 9223372036854775808 := by omega
  obtain ⟨p1, p2⟩ := ZwN (fun x : ByteArray => x) hs hx
  have e1 : (!decide (x = x)) = false := by simp
  have g4 : ((!(!true)) && decide ((0 : Int) < (i : Int))) = true → -9223372036854775808 ≤ (i : Int) - 1 ∧ (i : Int) - 1 < 9223372036854775808 := fun _ => by omega
  have g5 : ((!(!true)) && decide ((0 : Int) < (i : Int))) = true → 0 ≤ (i : Int) - 1 ∧ (i : Int) - 1 < (l.length : Int) := fun q => p2 (by simpa using q)
  have g6 : ((!(!true)) && decide ((0 : Int) < (i : Int))) = true → 0 ≤ (i : Int) ∧ (i : Int) < (l.length : Int) := fun q => by omega
  have e2 : l.getD (i : Int).toNat Rw.z = x := by rw [Int.toNat_natCast, List.getD_eq_getElem?_getD, hx]; rfl
  dsimp only [ZAW, ZEp, al, frt, stp, br, ix, ixi, vz, vy, vw, vs, vg, v2, lr, lrt, ln, lxe, lc, lf, lfe, ap, aq, a0, a1, ad, cl, cs, cf, wa, wi, ir, ca, cp, dd, mv, st, ss, sL, Bd.c, Bd.vl, ixg]
  simp only [decide_eq_true g1, hx, decide_true, if_true, Option.bind_some]
  rw [if_pos g4, if_pos g5, if_pos g6, e2, Bool.not_true, Bool.false_or, p1]
  simp only [g2, Bool.false_eq_true, if_false, if_true])
theorem ZH4 (l : List ByteArray) (y : Scm × ByteArray × Int) (hl : l.length < 4611686018427387904) (hs : y.1.messages.length ≤ 1048576) (hm : ∀ x ∈ y.1.messages, x.name ∈ l) : Zad (ZAV l y) big 0 = some (.inl ()) :=
 Zbk (B := ZAV l y) (N := big) y.1.messages (fun _ => ()) (fun i _ => i) (fun _ => ()) (hN := Zar (by omega)) (he := by simp [ZAV, ZEi, br]) (hs := fun i x hx => by
  have g1 := ZiP hx
  have g0 := (List.getElem?_eq_some_iff.1 hx).1
  have g2 : i + 1 < 9223372036854775808 := by omega
  have g3 := Zpr hl (hm x (List.mem_of_getElem? hx))
  dsimp only [ZAV, ZEi, al, frt, stp, br, ix, ixi, vz, vy, vw, vs, vg, v2, lr, lrt, ln, lxe, lc, lf, lfe, ap, aq, a0, a1, ad, cl, cs, cf, wa, wi, ir, ca, cp, dd, mv, st, ss, sL, Bd.c, Bd.vl]
  simp only [g1, g2, g3, hx, decide_true, if_true, Option.bind_some, Bool.not_true, Bool.false_eq_true, if_false])
theorem ZHk (l : List ByteArray) (y : Scm × ByteArray × Int) (hl : l.length < 4611686018427387904) (hs : y.1.enums.length ≤ 1048576) (hm : ∀ x ∈ y.1.enums, x.name ∈ l) : Zad (ZA7 l y) big 0 = some (.inl ()) :=
 Zbk (B := ZA7 l y) (N := big) y.1.enums (fun _ => ()) (fun i _ => i) (fun _ => ()) (hN := Zar (by omega)) (he := by simp [ZA7, ZEw, br]) (hs := fun i x hx => by
  have g1 := ZiP hx
  have g0 := (List.getElem?_eq_some_iff.1 hx).1
  have g2 : i + 1 < 9223372036854775808 := by omega
  have g3 := Zpr hl (hm x (List.mem_of_getElem? hx))
  dsimp only [ZA7, ZEw, al, frt, stp, br, ix, ixi, vz, vy, vw, vs, vg, v2, lr, lrt, ln, lxe, lc, lf, lfe, ap, aq, a0, a1, ad, cl, cs, cf, wa, wi, ir, ca, cp, dd, mv, st, ss, sL, Bd.c, Bd.vl]
  simp only [g1, g2, g3, hx, decide_true, if_true, Option.bind_some, Bool.not_true, Bool.false_eq_true, if_false])
theorem ZIm (l : List ByteArray) (y : Scm × ByteArray × Int) (hl : l.length < 4611686018427387904) (hs : y.1.services.length ≤ 1048576) (hm : ∀ x ∈ y.1.services, x.name ∈ l) : Zad (ZAU l y) big 0 = some (.inl ()) :=
 Zbk (B := ZAU l y) (N := big) y.1.services (fun _ => ()) (fun i _ => i) (fun _ => ()) (hN := Zar (by omega)) (he := by simp [ZAU, ZEu, br]) (hs := fun i x hx => by
  have g1 := ZiP hx
  have g0 := (List.getElem?_eq_some_iff.1 hx).1
  have g2 : i + 1 < 9223372036854775808 := by omega
  have g3 := Zpr hl (hm x (List.mem_of_getElem? hx))
  dsimp only [ZAU, ZEu, al, frt, stp, br, ix, ixi, vz, vy, vw, vs, vg, v2, lr, lrt, ln, lxe, lc, lf, lfe, ap, aq, a0, a1, ad, cl, cs, cf, wa, wi, ir, ca, cp, dd, mv, st, ss, sL, Bd.c, Bd.vl]
  simp only [g1, g2, g3, hx, decide_true, if_true, Option.bind_some, Bool.not_true, Bool.false_eq_true, if_false])
theorem Zhc {fs : List Fil} (h : Zez (fs.map Zas) ≤ 1048576) : Zbg fs = some true := by
 obtain ⟨hA, _, _⟩ := szs h
 obtain ⟨p1, p2, p3⟩ := ZCj h
 have r1 := m20 fs hA
 have r2 := m21 fs hA
 rw [Zsp] at r2
 have hpw := Zrx (Zaf fs)
 have hmem := ZlO (Zaf fs)
 have hlen : (ZcO (ZcL (Zaf fs))).length ≤ 1048576 := by
  have := ZhW (ZcL (Zaf fs))
  have := hA.t
  rw [Zeq, ZfH] at *
  omega
 have hcnt : (Zaf fs).Nodup → (ZcO (ZcL (Zaf fs))).length = (Zaf fs).length := fun hn =>
  ((List.perm_ext_iff_of_nodup (Zxr hpw) hn).2 hmem).length_eq
 generalize ZcO (ZcL (Zaf fs)) = l at *
 have q1 := ZIF fs l hlen hpw
 unfold Zbg
 dsimp only [Zy0, ZAD, ZFX, al, frt, stp, br, ix, ixi, vz, vy, vw, vs, vg, v2, lr, lrt, ln, lxe, lc, lf, lfe, ap, aq, a0, a1, ad, cl, cs, cf, wa, wi, ir, ca, cp, dd, mv, st, ss, sL, Bd.c, Bd.vl]
 simp only [r1, r2, q1, p1, Option.bind_some, Sum.elim_inl, decide_true, Bool.not_true, Bool.false_eq_true, if_false]
 by_cases h0 : (ZeZ fs).2 = 0
 ·obtain ⟨hB, he, hb⟩ := p3 h0
  have hd := ZDY h0
  have hc := hcnt hd
  have e : Zcg fs = ⟨ZlJ (fun y => y.name) (fs.flatMap (Zel fs)), ZlJ (fun y => y.name) (ZaN fs), ZlJ (fun y => y.name) (fs.flatMap (Zd3 fs))⟩ := by unfold Zcg; rw [if_pos h0]
  have e1 := Zzz he
  have e2 := ZAK fs
  have e3 := ZAv he
  have l1 : (Zcg fs).messages.length = Zkg fs := by rw [e]; show (ZlJ _ _).length = _; rw [ZiA, Zgo]
  have l2 : (Zcg fs).enums.length = Zk3 fs := by rw [e]; show (ZlJ _ _).length = _; rw [ZiA, ZeB]
  have l3 : (Zcg fs).services.length = Zk5 fs := by rw [e]; show (ZlJ _ _).length = _; rw [ZiA, Zf3]
  have sub : ∀ (g : Fil → List ByteArray), (∀ f, ∀ x ∈ g f, x ∈ ZaD f) → ∀ x ∈ fs.flatMap g, x ∈ l := fun g hg x hx => by
   obtain ⟨f, hf, hx⟩ := List.mem_flatMap.1 hx
   exact (hmem x).2 (List.mem_flatMap.2 ⟨f, hf, hg f x hx⟩)
  have i1 : ∀ x ∈ (Zcg fs).messages, x.name ∈ l := fun x hx => by
   rw [e] at hx
   refine sub Zei (fun f x hx => by unfold ZaD; simp [hx]) _ ?_
   show x.name ∈ ZaP fs
   rw [← e1]
   exact List.mem_map.2 ⟨x, (Zck _).mem_iff.1 hx, rfl⟩
  have i2 : ∀ x ∈ (Zcg fs).enums, x.name ∈ l := fun x hx => by
   rw [e] at hx
   refine sub Zfd (fun f x hx => by unfold ZaD; simp [hx]) _ ?_
   rw [← e2]
   exact List.mem_map.2 ⟨x, (Zck _).mem_iff.1 hx, rfl⟩
  have i3 : ∀ x ∈ (Zcg fs).services, x.name ∈ l := fun x hx => by
   rw [e] at hx
   refine sub Zj1 (fun f x hx => by unfold ZaD; simp [hx]) _ ?_
   rw [← e3]
   exact List.mem_map.2 ⟨x, (Zck _).mem_iff.1 hx, rfl⟩
  unfold Zon at hb
  have hsum := ZDn fs
  rw [ZfH] at hc
  have q2 := ZH4 l (Zcg fs, ZeZ fs) (by omega) (show (Zcg fs).messages.length ≤ _ by omega) i1
  have q3 := ZHk l (Zcg fs, ZeZ fs) (by omega) (show (Zcg fs).enums.length ≤ _ by omega) i2
  have q4 := ZIm l (Zcg fs, ZeZ fs) (by omega) (show (Zcg fs).services.length ≤ _ by omega) i3
  have w1 : (Zcg fs).messages.length + (Zcg fs).enums.length < 9223372036854775808 := by omega
  have w2 : (Zcg fs).messages.length + (Zcg fs).enums.length + (Zcg fs).services.length < 9223372036854775808 := by omega
  have w3 : (((Zcg fs).messages.length + (Zcg fs).enums.length + (Zcg fs).services.length : Nat) : Int) = (l.length : Int) := by omega
  simp only [h0, decide_true, Bool.not_true, Bool.false_eq_true, if_false]
  dsimp only [ZFz, ZFL, ZFZ, ZFv, al, frt, stp, br, ix, ixi, vz, vy, vw, vs, vg, v2, lr, lrt, ln, lxe, lc, lf, lfe, ap, aq, a0, a1, ad, cl, cs, cf, wa, wi, ir, ca, cp, dd, mv, st, ss, sL, Bd.c, Bd.vl, clg]
  simp only [q2, q3, q4, w1, w2, w3, aw', decide_true, if_true, Option.bind_some, Sum.elim_inl, Option.isSome_some, Option.getD_some, Bool.and_self, implies_true]
 ·simp [h0, aw']
end Go.Proofs.Ythagpbkmakocjaa
namespace Go.Proofs.Ythagpbkmakocjaa
set_option linter.all false
open Go Go.Eng Go.ChangeShapes Go.WideShapes Go.ChangeAt Go.RowKit
theorem own : ownKnob Try.prog.godebug = none := by kernel_rfl
namespace LinkNames
open Go.Proofs.Ythagpbkmakocjaa
set_option maxRecDepth 100000 in
theorem contract (H : Type) (enc : TypeId × Value → H) (W : World) (base : Nat) (args : Array Value) (ds gs : List (DataW H)) (before : List MemPlace)
  (hval : ∀ (j : Nat) t v, Try.f8.params[j]? = some t → args[j]? = some v → Value.okWide Try.prog W .any base t v)
  (hW : DataW.Whole enc Try.prog Try.f8.params.toList Rows.linkNamesSpec.vars false W args.toList ds gs before) (hk : Rows.uptoSmall H (ds ++ gs) = true) :
  Calls Try.prog 8 args W fun e W' => ∃ v, e = .returned v ∧ Rows.linkNamesSpec.post enc Try.prog Try.f8 false true false false W args v W' := by
 obtain ⟨p, q, hA0, hV, rfl, hfz, hnd⟩ := id hW
 have hA : DataW.TrodAll enc Try.prog W 0 (fun _ => true) true Try.f8.params.toList args.toList ds p := hA0
 rw [Try.params8] at hA hval
 obtain ⟨v0, vs0, d0, ds0, p0, q0, hargs, rfl, rfl, h0, r0⟩ := trodAll_cons hA
 obtain ⟨rfl, rfl, rfl⟩ := trodAll_nil r0
 obtain rfl : args = #[v0] := by cases args; simp_all
 have hb : Rows.uptoBulkAll ([d0] ++ gs) ≤ 1048576 := of_decide_eq_true hk
 simp only [List.cons_append, List.nil_append, Rows.uptoBulkAll] at hb
 obtain ⟨files, re0, fe0⟩ := ZoZ (e := Zas) (fun n => ZaX Try.underlying22 (by kernel_rfl : Try.prog.cellsOf 61 = 6) (by decide) (fun _ => rfl) (fun m _ => ZCw m)) Try.underlying22 (hval 0 22 v0 rfl rfl) h0
 simp only [bk] at fe0
 obtain ⟨rfl, rfl⟩ := trodVars_none hV
 have A := (K_8 files).k 0 Hp0 true (Zhc (by omega))
 refine (A.2 (fun _ => ⟨0, 0, 0⟩) (· < W.heap.size) W #[v0] (ok0 _) (Zwv (xs := [.d (.list (files.map Zas))]) (vs := [v0]) ⟨re0 _ _ _, trivial⟩)).mono fun e W' ⟨r, v, H', m', S', he, hp, hO, hr, hx⟩ => ?_
 obtain ⟨hp, _⟩ := hp
 subst he
 subst hp
 cases hr
 rename_i hd
 cases hd
 exact ⟨_, rfl, Zpb hW rfl (by kernel_rfl) (by rw [Try.params8]; exact (by decide +kernel)) (by kernel_rfl) Try.underlying4 rfl ⟨hx.os, hx.tape, hx.output, hx.size, hx.blk⟩⟩
set_option maxRecDepth 100000 in
theorem lifted (os : Os) (started : os.Started) (H : Type) (enc : TypeId × Value → H) (F : Stop.Interp) :
  ReturnsInHanded {} Try.checked os 8 .any ((Rows.OpenSpec.upto Rows.linkNamesSpec).pre6 enc Try.prog Try.f8 Rows.linkNamesUptoRow.domain false) (((Rows.OpenSpec.upto Rows.linkNamesSpec).at F).post enc Try.prog Try.f8 false true false false) := by
 refine returnsInHanded_of_cond (C := Try.checked) (s := Rows.OpenSpec.upto Rows.linkNamesSpec) (k := Rows.uptoSmall) rfl own started (by kernel_rfl) Try.func8
  (OpenSpec.witness (enc := enc) (C := Try.checked) (s := Rows.OpenSpec.upto Rows.linkNamesSpec) (k := Rows.uptoSmall) rfl false ⟨#[], #[.slice none 0 0], []⟩ 8 (by kernel_rfl) (by kernel_rfl) (by kernel_rfl)
   (x := ([.nil], [], [])) (by kernel_rfl) rfl (by kernel_rfl)) ?_
 intro W base args ds gs before hval hW _ hk _
 exact contract H enc W base args ds gs before hval hW hk
theorem holds : Rows.LinkNamesUptoSaid :=
 OpenClaim.holds_of_cond 8 Try.f8 rfl rfl rfl rfl rfl rfl rfl ⟨rfl, rfl, rfl, rfl, rfl⟩ rfl rfl rfl rfl rfl (by kernel_rfl) Try.func8 (by kernel_rfl)
  (of_decide_eq_true (by kernel_rfl)) (by unfold Func.isWrapper; first | (rw [if_pos (by decide +kernel)]; kernel_rfl) | (rw [if_neg (by decide +kernel)]; exact ⟨rfl, rfl⟩))
  (fun os started H enc _ F => lifted os started H enc F)
end LinkNames
end Go.Proofs.Ythagpbkmakocjaa
