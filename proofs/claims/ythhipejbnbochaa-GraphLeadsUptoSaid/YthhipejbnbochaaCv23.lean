/-
  What is proved: the second form of wireschemalaw13.GraphLeads: the law returns true and leaves its arguments as they were.
  Condition: the arguments are together of bulk at most 1048576 (the given second form); nothing else.
-/
import Derived.Test.YthhipejbnbochaaCv22
import Derived.Test.YthhipejbnbochaaCv20
import Derived.Test.YthhipejbnbochaaRows
import Derived.WalkKit
import Derived.ProofKit
import Derived.OpenShut
import Derived.JoinedCond
import Derived.Test.YthhipejbnbochaaCv00
namespace Go.Proofs.Ythhipejbnbochaa
set_option linter.all false
open Go Go.Eng
def ZvR (m : Msg) : Prop := ∀ (j k : Nat) (f g : Fld), j < k → m.fields[j]? = some f → m.fields[k]? = some g → f.num ≠ g.num
theorem ZxB (s : Scm) (i : Nat) (m : Msg) (hl : m.fields.length ≤ 10) (k : Nat) (g : Fld) (hg : m.fields[k]? = some g) : ∃ o, Zan (ZhZ s i m k) big 0 = some o ∧ Sum.elim (fun _ => ∀ j f, j < k → m.fields[j]? = some f → f.num ≠ g.num) (fun b => b = true) o := by
 obtain ⟨k0, hke⟩ := Yd.1 hg
 refine ZbA (B := ZhZ s i m k) (I := fun c n => c + n = k ∧ ∀ j f, j < n → m.fields[j]? = some f → f.num ≠ g.num) (Q := fun o => Sum.elim (fun _ => ∀ j f, j < k → m.fields[j]? = some f → f.num ≠ g.num) (fun b => b = true) o) (fun c n hI => ?_) big k 0 (ZaN (by omega)) ⟨rfl, fun j f hj => by omega⟩
 obtain ⟨i1, i2⟩ := hI
 by_cases hn : n < k
 ·have n0 : n < m.fields.length := by omega
  obtain ⟨f, hf⟩ : ∃ f, f = m.fields[n] := ⟨_, rfl⟩
  have hfe : m.fields[n]? = some f := by rw [Yb n0, hf]
  have g2 : n + 1 < 9223372036854775808 := by omega
  by_cases he : f.num = g.num
  ·exact ⟨.rt true, by dsimp only [ZhZ, Zmj, br, ix, vs, lrt, ln, lxe, wa]; simp [hn, n0, k0, hfe, ← hf, hg, hke, he], rfl⟩
  ·refine ⟨.nx (n + 1), by dsimp only [ZhZ, Zmj, br, ix, vs, lrt, ln, lxe, wa]; simp [hn, n0, k0, hfe, ← hf, hg, hke, he, g2], c - 1, by omega, by omega, fun j f' hj hf' => ?_⟩
   by_cases hjn : j = n
   ·subst hjn; rw [hfe] at hf'; cases hf'; exact he
   ·exact i2 j f' (by omega) hf'
 ·refine ⟨.ex (), by dsimp only [ZhZ, Zmj, br, ix, vs, lrt, ln, lxe, wa]; simp [hn], ?_⟩
  have : n = k := by omega
  subst this
  exact i2
theorem m25 {s : Scm} (h : Fw s) : ∃ b, Zav s = some b ∧ (b = false → ∀ m ∈ s.messages, ZvR m) := by
 have h8 := h.m
 have q1 := ZbA (B := Zkl s) (I := fun k i => k + i = s.messages.length ∧ ∀ j m, j < i → s.messages[j]? = some m → ZvR m) (Q := fun o => Sum.elim (fun _ => ∀ m ∈ s.messages, ZvR m) (fun b => b = true) o) (fun k i hI => by
  obtain ⟨i1, i2⟩ := hI
  cases hk : s.messages[i]? with
  | none =>
   have hge := YS.1 hk
   refine ⟨.ex (), by dsimp only [Zkl, Zlh, ZlD, Zlk, br, ix, vz, vw, vs, ln, lxe, lc, wa, eqL]; simp [show ¬ i < s.messages.length by omega], fun m hm => ?_⟩
   obtain ⟨j, hj, rfl⟩ := Ya6.1 hm
   exact i2 j _ (by omega) (Yb hj)
  | some m =>
   obtain ⟨g0, hgi⟩ := Yd.1 hk
   have hl := h.f m (Yu hk)
   have g2 : i + 1 < 9223372036854775808 := by omega
   have q2 := ZbA (B := ZjC s i m) (I := fun c k => c + k = m.fields.length ∧ ∀ (j p : Nat) (f g : Fld), p < k → j < p → m.fields[j]? = some f → m.fields[p]? = some g → f.num ≠ g.num) (Q := fun o => Sum.elim (fun _ => ZvR m) (fun b => b = true) o) (fun c k hJ => by
    obtain ⟨j1, j2⟩ := hJ
    cases hg : m.fields[k]? with
    | none =>
     have hge := YS.1 hg
     refine ⟨.ex (), by dsimp only [ZjC, Zk5, Znh, Zm5, br, vz, vs, ln, lxe, lc, wa, eqL]; simp [show ¬ k < m.fields.length by omega], fun j p f g hjp hf hp => ?_⟩
     have := (Yd.1 hp).1
     exact j2 j p f g (by omega) hjp hf hp
    | some g =>
     obtain ⟨k0, hke⟩ := Yd.1 hg
     have k2 : k + 1 < 9223372036854775808 := by omega
     obtain ⟨o, e, ho⟩ := ZxB s i m hl k g hg
     cases o with
     | inr b =>
      have ho : b = true := ho
      subst ho
      exact ⟨.rt true, by dsimp only [ZjC, Zk5, Znh, Zm5, br, vz, vs, ln, lxe, lc, wa, eqL]; simp [k0, e], rfl⟩
     | inl u =>
      refine ⟨.nx (k + 1), by dsimp only [ZjC, Zk5, Znh, Zm5, br, vz, vs, ln, lxe, lc, wa, eqL]; simp [k0, e, k2], c - 1, by omega, by omega, fun j p f g' hp hjp hf hg' => ?_⟩
      by_cases hpk : p = k
      ·subst hpk; rw [hg] at hg'; cases hg'; exact ho j f hjp hf
      ·exact j2 j p f g' (by omega) hjp hf hg') big m.fields.length 0 (ZaN (by omega)) ⟨rfl, fun j p f g hp => by omega⟩
   obtain ⟨o, e, ho⟩ := q2
   cases o with
   | inr b =>
    have ho : b = true := ho
    subst ho
    exact ⟨.rt true, by dsimp only [Zkl, Zlh, ZlD, Zlk, br, ix, vz, vw, vs, ln, lxe, lc, wa, eqL]; simp [g0, hk, hgi, e], rfl⟩
   | inl u =>
    refine ⟨.nx (i + 1), by dsimp only [Zkl, Zlh, ZlD, Zlk, br, ix, vz, vw, vs, ln, lxe, lc, wa, eqL]; simp [g0, hk, hgi, e, g2], k - 1, by omega, by omega, fun j m' hj hm' => ?_⟩
    by_cases hji : j = i
    ·subst hji; rw [hk] at hm'; cases hm'; exact ho
    ·exact i2 j m' (by omega) hm') big s.messages.length 0 (ZaN (by omega)) ⟨rfl, fun j m hj => by omega⟩
 obtain ⟨o, e, hq⟩ := q1
 cases o with
 | inl u => exact ⟨false, by dsimp only [Zav, ZiR, ZoE, Zpe, lr, lc]; simp [e], fun _ => hq⟩
 | inr b =>
  have hq : b = true := hq
  subst hq
  exact ⟨true, by dsimp only [Zav, ZiR, ZoE, Zpe, lr, lc]; simp [e], fun q => by cases q⟩
def ZtA (s : Scm) (now : ByteArray) (num : Int) : ByteArray := (Zcu s now).foldl (fun v f => if (toF s f && decide (f.num = num)) = true then f.type.name else v) ⟨#[]⟩
theorem ZiU {s : Scm} {num : Int} : ∀ (l : List Fld) (v : ByteArray), (∀ f ∈ l, f.num ≠ num) → l.foldl (fun v f => if (toF s f && decide (f.num = num)) = true then f.type.name else v) v = v
 | [], v, _ => rfl
 | f :: l, v, h => by
  rw [Yab, if_neg (by simp [h f (Ys ..)])]
  exact ZiU l v fun g hg => h g (List.mem_cons_of_mem _ hg)
theorem Zp7 {s : Scm} : ∀ {l : List Fld} {v : ByteArray} {f : Fld}, (l.Pairwise fun a b => a.num ≠ b.num) → f ∈ l → toF s f = true → l.foldl (fun v g => if (toF s g && decide (g.num = f.num)) = true then g.type.name else v) v = f.type.name
 | g :: l, v, f, hp, hf, ht => by
  rw [Yap] at hp
  rw [Yab]
  rcases Yn.1 hf with rfl | hf
  ·rw [if_pos (by simp [ht])]
   exact ZiU l _ fun x hx e => hp.1 x hx e.symm
  ·exact Zp7 hp.2 hf ht
theorem ZwF {s : Scm} (hd : ∀ m ∈ s.messages, ZvR m) {a t : ByteArray} {p : List Int} (h : Wk s a p t) : p.foldl (ZtA s) a = t := by
 induction h with
 | nil => rfl
 | snoc h1 h2 h3 ih =>
  rename_i p b f
  rw [YaA, ih]
  show ZtA s b f.num = _
  refine Zp7 ?_ h2 h3
  have hf : ∃ m ∈ s.messages, Zcu s b = m.fields := by
   unfold Zcu at h2 ⊢
   cases hm : Zp4 s b with
   | none => rw [hm] at h2; simp at h2
   | some m => exact ⟨m, Ybk hm, rfl⟩
  obtain ⟨m, hm, e⟩ := hf
  rw [e, Yau]
  intro i j hi hj hij
  exact hd m hm i j _ _ hij (Yb hi) (Yb hj)
theorem ZiM {s : Scm} {n x : ByteArray} (h : x ∈ Zbe s n) : ∃ f ∈ Zcu s n, toF s f = true ∧ f.type.name = x := by
 unfold Zbe at h
 obtain ⟨f, hf, rfl⟩ := Yq.1 h
 obtain ⟨a, b⟩ := Yz.1 hf
 exact ⟨f, a, b, rfl⟩
theorem Zjm {s : Scm} {n : ByteArray} {f : Fld} (hf : f ∈ Zcu s n) (ht : toF s f = true) : f.type.name ∈ Zbe s n := Yq.2 ⟨f, Yz.2 ⟨hf, ht⟩, rfl⟩
theorem ZpZ {s : Scm} {a b : ByteArray} (h : Rch s a b) : ∃ p, Wk s a p b := by
 induction h with
 | one h =>
  obtain ⟨f, h1, h2, rfl⟩ := ZiM h
  exact ⟨_, .snoc .nil h1 h2⟩
 | tl _ h ih =>
  obtain ⟨p, ih⟩ := ih
  obtain ⟨f, h1, h2, rfl⟩ := ZiM h
  exact ⟨_, .snoc ih h1 h2⟩
theorem Zwf {s : Scm} {a b : ByteArray} {p : List Int} (h : Wk s a p b) : b = a ∨ Rch s a b := by
 induction h with
 | nil => exact .inl rfl
 | snoc h1 h2 h3 ih =>
  rcases ih with rfl | ih
  ·exact .inr (.one (Zjm h2 h3))
  ·exact .inr (.tl ih (Zjm h2 h3))
theorem Zez (s : Scm) (a b : ByteArray) (hm : s.messages.length ≤ 1048576) : Zai s a b = some true := by
 obtain ⟨fw, e, hb⟩ := m11 s hm
 cases fw with
 | false => dsimp only [Zai, Zrr, Zry, Zrd, br, vy, vw, vg, lr, lc, cl, clg, wa, eqL]; simp [e]
 | true =>
  have h := hb rfl
  have h8 := h.m
  obtain ⟨db, e25, kd⟩ := m25 h
  cases db with
  | true => dsimp only [Zai, Zrr, Zry, Zrd, br, vy, vw, vg, lr, lc, cl, clg, wa, eqL]; simp [e, e25]
  | false =>
   have kd := kd rfl
   obtain ⟨y, e16, ky⟩ := n16 h a b
   obtain ⟨sh, e26, ks⟩ := m26 h
   obtain ⟨l, _, kl⟩ := m31 h [a] (by simp)
   have eC := n28 h [a] l (by simp) kl
   have hl := kl.len h
   have e27 := m27 (l := l) (by omega) b
   have na := Zlf s a
   have nb := Zlf s b
   by_cases hab : isM s a = true ∧ isM s b = true
   ·obtain ⟨ha, hbm⟩ := hab
    have hcl : sh = false → (Zhv l b = true ↔ ∃ p, Wk s a p b) := fun hs => by
     have ks := ks hs
     rw [ZbO, kl.m]
     constructor
     ·rintro (⟨q, _⟩ | ⟨n, q, _, r⟩)
      ·rw [YF.1 q]; exact ⟨[], .nil⟩
      ·obtain rfl := YF.1 q
       rcases r with r | ⟨y, r1, r2⟩
       ·exact ZpZ (.one (Zee r (ks b hbm)))
       ·exact ZpZ (.tl r1 (Zee r2 (ks b hbm)))
     ·rintro ⟨p, hp⟩
      rcases Zwf hp with q | q
      ·exact .inl ⟨by rw [q]; simp, .inl hbm⟩
      ·refine .inr ⟨a, by simp, ha, ?_⟩
       cases q with
       | one q => exact .inl (Zel q)
       | tl q1 q2 => exact .inr ⟨_, q1, Zel q2⟩
    rw [ha] at na
    rw [hbm] at nb
    have na := of_decide_eq_false na
    have nb := of_decide_eq_false nb
    rcases ky with ⟨p, rfl, _, _, kp, kpl⟩ | ⟨rfl, kn⟩
    ·have hc : sh = false → Zhv l b = true := fun hs => (hcl hs).2 ⟨p, kp.w⟩
     have q1 := ZcY (B := Zuh s b (p, 0)) (N := big) p (fun i v => (v, i)) (fun _ _ => True) (fun v x => (.inl (ZtA s v x) : ByteArray ⊕ Bool)) id (fun i v x hx _ => by
      obtain ⟨g0, hgi⟩ := Yd.1 hx
      have g2 : i + 1 < 9223372036854775808 := by omega
      have ef := ZlV s v
      have q2 := ZcY (B := ZtG s b (p, 0) i (Zho s v)) (N := big) (Zcu s v) (fun j c => (c, j)) (fun _ _ => True) (fun c f => (.inl (if (toF s f && decide (f.num = x)) = true then f.type.name else c) : ByteArray ⊕ Bool)) id (fun j c f hf _ => by
       obtain ⟨j0, hje⟩ := Yd.1 hf
       have hf10 := h.fl v
       have j2 : j + 1 < 9223372036854775808 := by omega
       have tl := ZwC h f
       refine ⟨?_, fun _ _ => trivial⟩
       dsimp only [ZtG, Zxl, br, ix, ixg, vz, vw, vs, ln, lxe, cl, wa, eqL]
       cases hld : ldF s f with
       | false =>
        have : toF s f = false := by rw [← tl, hld]; rfl
        simp [ef, j0, j2, hf, hje, m19 h, hld, this]
       | true =>
        by_cases hnum : f.num = x
        ·by_cases hkd : f.type.kind = 10
         ·have : toF s f = true := by rw [← tl, hld, hkd]; rfl
          simp [ef, j0, j2, hf, hje, g0, hx, hgi, m19 h, hld, hnum, hkd, this]
         ·have : toF s f = false := by rw [← tl, hld]; simp [hkd]
          simp [ef, j0, j2, hf, hje, g0, hx, hgi, m19 h, hld, hnum, hkd, this]
        ·simp [ef, j0, j2, hf, hje, g0, hx, hgi, m19 h, hld, hnum]) (fun c _ => by dsimp only [ZtG, Zxl, br, ix, ixg, vz, vw, vs, ln, lxe, cl, wa, eqL]; simp [ef]) ⟨#[]⟩ trivial (ZaN (by have := h.fl v; omega))
      rw [Zcr (fun c f => if (toF s f && decide (f.num = x)) = true then f.type.name else c) (fun _ _ => rfl)] at q2
      have q2 : Zan (ZtG s b (p, 0) i (Zho s v)) big (⟨#[]⟩, 0) = some (.inl (ZtA s v x)) := q2
      refine ⟨?_, fun _ _ => trivial⟩
      dsimp only [Zuh, Zxp, Zxf, Zxj, br, vz, vw, vs, ln, lxe, lc, cl, wa, eqL]
      simp [g0, g2, m18 h, q2]) (fun v _ => by dsimp only [Zuh, Zxp, Zxf, Zxj, br, vz, vw, vs, ln, lxe, lc, cl, wa, eqL]; simp) a trivial (ZaN (by omega))
     rw [Zcr (fun v x => ZtA s v x) (fun _ _ => rfl)] at q1
     have hfin : p.foldl (fun v x => ZtA s v x) a = b := ZwF kd kp.w
     rw [hfin] at q1
     have g3 : s.messages.length + 1 < 9223372036854775808 := by omega
     have g4 : (p.length : Int) < ((s.messages.length + 1 : Nat) : Int) := by omega
     dsimp only [Zai, Zrr, Zry, Zrd, br, vy, vw, vg, lr, lc, cl, clg, wa, eqL]
     cases sh with
     | true => simp [e, e25, e16, m18 h, na, nb, e26, q1, g3, awk]; omega
     | false => simp [e, e25, e16, m18 h, na, nb, e26, eC, e27, hc rfl, q1, g3, awk]; omega
    ·have hno : ¬ ∃ p, Wk s a p b := fun q => kn ⟨ha, hbm, q⟩
     dsimp only [Zai, Zrr, Zry, Zrd, br, vy, vw, vg, lr, lc, cl, clg, wa, eqL]
     cases sh with
     | true => simp [e, e25, e16, m18 h, na, nb, e26, awk]
     | false =>
      have hc : Zhv l b = false := by
       cases hx : Zhv l b with
       | false => rfl
       | true => exact absurd ((hcl rfl).1 hx) hno
      simp [e, e25, e16, m18 h, na, nb, e26, eC, e27, hc, awk]
   ·have ky : y = ([], 10) := by
     rcases ky with ⟨p, _, k1, k2, _⟩ | ⟨rfl, _⟩
     ·exact absurd ⟨k1, k2⟩ hab
     ·rfl
    subst ky
    have hor : decide ((Zho s a).2 < 0) = true ∨ decide ((Zho s b).2 < 0) = true := by
     rw [na, nb]
     cases h1 : isM s a with
     | false => exact .inl rfl
     | true =>
      cases h2 : isM s b with
      | false => exact .inr rfl
      | true => exact absurd ⟨h1, h2⟩ hab
    have hor2 : (Zho s a).2 < 0 ∨ (Zho s b).2 < 0 := hor.imp of_decide_eq_true of_decide_eq_true
    dsimp only [Zai, Zrr, Zry, Zrd, br, vy, vw, vg, lr, lc, cl, clg, wa, eqL]
    simp [e, e25, e16, m18 h, hor2, awk]
end Go.Proofs.Ythhipejbnbochaa
namespace Go.Proofs.Ythhipejbnbochaa
set_option linter.all false
open Go Go.Eng
theorem Zg3 {s : Scm} {a b : ByteArray} (h : bkL (ZbY s) ≤ 1048576) : Zai s a b = some true := Zez s a b (Zq9 h)
end Go.Proofs.Ythhipejbnbochaa
namespace Go.Proofs.Ythhipejbnbochaa
set_option linter.all false
open Go Go.Eng Go.ChangeShapes Go.WideShapes Go.ChangeAt Go.RowKit
theorem own : ownKnob Try.prog.godebug = none := by kernel_rfl
namespace GraphLeads
open Go.Proofs.Ythhipejbnbochaa
set_option maxRecDepth 100000 in
theorem contract (H : Type) (enc : TypeId × Value → H) (W : World) (base : Nat) (args : Array Value) (ds gs : List (DataW H)) (before : List MemPlace)
  (hval : ∀ (j : Nat) t v, Try.f8.params[j]? = some t → args[j]? = some v → Value.okWide Try.prog W .any base t v)
  (hW : DataW.Whole enc Try.prog Try.f8.params.toList Rows.graphLeadsSpec.vars false W args.toList ds gs before) (hk : Rows.uptoSmall H (ds ++ gs) = true) :
  Calls Try.prog 8 args W fun e W' => ∃ v, e = .returned v ∧ Rows.graphLeadsSpec.post enc Try.prog Try.f8 false true false false W args v W' := by
 obtain ⟨p, q, hA0, hV, rfl, hfz, hnd⟩ := id hW
 have hA : DataW.TrodAll enc Try.prog W 0 (fun _ => true) true Try.f8.params.toList args.toList ds p := hA0
 rw [Try.params8] at hA hval
 obtain ⟨v0, vs0, d0, ds0, p0, q0, hargs, rfl, rfl, h0, r0⟩ := trodAll_cons hA
 obtain ⟨v1, vs1, d1, ds1, p1, q1, rfl, rfl, rfl, h1, r1⟩ := trodAll_cons r0
 obtain ⟨v2, vs2, d2, ds2, p2, q2, rfl, rfl, rfl, h2, r2⟩ := trodAll_cons r1
 obtain ⟨rfl, rfl, rfl⟩ := trodAll_nil r2
 obtain rfl : args = #[v0, v1, v2] := by cases args; simp_all
 have hb : Rows.uptoBulkAll ([d0, d1, d2] ++ gs) ≤ 1048576 := of_decide_eq_true hk
 simp only [YaS, Yaq, Rows.uptoBulkAll] at hb
 obtain ⟨s, re0, fe0⟩ := ZrK Zu8 Try.underlying26 (hval 0 26 v0 rfl rfl) h0
 obtain ⟨a, re1, fe1⟩ := ZmH Try.underlying9 (hval 1 9 v1 rfl rfl) h1
 obtain ⟨b, re2, fe2⟩ := ZmH Try.underlying9 (hval 2 9 v2 rfl rfl) h2
 obtain ⟨rfl, rfl⟩ := trodVars_none hV
 have A := (K_8 s a b).k 0 Hp0 true (Zg3 (by omega))
 refine (A.2 (fun _ => ⟨0, 0, 0⟩) (· < W.heap.size) W #[v0, v1, v2] (ok0 _) (Zr8 (xs := [.agg ((ZbY s).map .d), .d (.str a), .d (.str b)]) (vs := [v0, v1, v2]) ⟨re0 _ _, re1 _ _ _ _, re2 _ _ _ _, trivial⟩)).mono fun e W' ⟨r, v, H', m', S', he, hp, hO, hr, hx⟩ => ?_
 obtain ⟨hp, _⟩ := hp
 subst he
 subst hp
 cases hr
 rename_i hd
 cases hd
 exact ⟨_, rfl, ZkY hW rfl (by kernel_rfl) (by rw [Try.params8]; exact (by decide +kernel)) (by kernel_rfl) Try.underlying4 rfl ⟨hx.os, hx.tape, hx.output, hx.size, hx.blk⟩⟩
set_option maxRecDepth 100000 in
theorem lifted (os : Os) (started : os.Started) (H : Type) (enc : TypeId × Value → H) (F : Stop.Interp) :
  ReturnsInHanded {} Try.checked os 8 .any ((Rows.OpenSpec.upto Rows.graphLeadsSpec).pre6 enc Try.prog Try.f8 Rows.graphLeadsUptoRow.domain false) (((Rows.OpenSpec.upto Rows.graphLeadsSpec).at F).post enc Try.prog Try.f8 false true false false) := by
 refine returnsInHanded_of_cond (C := Try.checked) (s := Rows.OpenSpec.upto Rows.graphLeadsSpec) (k := Rows.uptoSmall) rfl own started (by kernel_rfl) Try.func8
  (OpenSpec.witness (enc := enc) (C := Try.checked) (s := Rows.OpenSpec.upto Rows.graphLeadsSpec) (k := Rows.uptoSmall) rfl false ⟨#[], #[.agg #[.slice none 0 0, .slice none 0 0, .slice none 0 0], .string ⟨#[]⟩, .string ⟨#[]⟩], []⟩ 8 (by kernel_rfl) (by kernel_rfl) (by kernel_rfl)
   (x := ([.agg [.nil, .nil, .nil], .lit (.string []), .lit (.string [])], [], [])) (by kernel_rfl) rfl (by kernel_rfl)) ?_
 intro W base args ds gs before hval hW _ hk _
 exact contract H enc W base args ds gs before hval hW hk
theorem holds : Rows.GraphLeadsUptoSaid :=
 OpenClaim.holds_of_cond 8 Try.f8 rfl rfl rfl rfl rfl rfl rfl ⟨rfl, rfl, rfl, rfl, rfl⟩ rfl rfl rfl rfl rfl (by kernel_rfl) Try.func8 (by kernel_rfl)
  (of_decide_eq_true (by kernel_rfl)) (by unfold Func.isWrapper; first | (rw [if_pos (by decide +kernel)]; kernel_rfl) | (rw [if_neg (by decide +kernel)]; exact ⟨rfl, rfl⟩))
  (fun os started H enc _ F => lifted os started H enc F)
end GraphLeads
end Go.Proofs.Ythhipejbnbochaa
