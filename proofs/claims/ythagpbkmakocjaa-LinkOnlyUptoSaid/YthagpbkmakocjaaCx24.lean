/-
  What is proved: the second form of wireschemalaw11.LinkOnly: the law returns true and leaves its arguments as they were.
  Condition: the arguments are together of bulk at most 1048576 (the given second form); nothing else.
-/
import Derived.Test.YthagpbkmakocjaaCx23
import Derived.Test.YthagpbkmakocjaaCx22
import Derived.Test.YthagpbkmakocjaaRows
import Derived.WalkKit
import Derived.ProofKit
import Derived.OpenShut
import Derived.JoinedCond
namespace Go.Proofs.Ythagpbkmakocjaa
set_option linter.all false
open Go Go.Eng
structure IO1 (s : Scm) (ns : List ByteArray) (todo : List ByteArray) (rest : List (ByteArray × Bool)) : Prop where
 nd : (Zba rest).Nodup
 b : todo.length + ZvK (fun x => (Zbz s x).length) rest ≤ 5242880
 n : ∀ x ∈ ns, lkM x rest = false ∨ x ∈ todo
 c : ∀ x, lkM x rest = false → x ∈ nmS s → ∀ y ∈ Zbz s x, y ∈ nmS s → lkM y rest = false ∨ y ∈ todo
 l : ∀ x ∈ nmS s, lkM x rest = false → Cl s ns x
 t : ∀ x ∈ todo, x ∈ nmS s → Cl s ns x
 k : ∀ x, lkM x rest = true → x ∈ nmS s
theorem Zq1 (s : Scm) {ns : List ByteArray} (h : SzO s ns) (hn : ∀ x ∈ ns, x ∈ nmS s) : IO1 s ns ns (Zk1 s) where
 nd := ZpH s
 b := by
  have h1 := Zlr s (ZpH s)
  have h2 := h.t
  have h3 := h.n
  unfold ZvK
  omega
 n := fun x hx => .inr hx
 c := fun x hx hm => by rw [(ZfE s x).2 hm] at hx; cases hx
 l := fun x hm hx => by rw [(ZfE s x).2 hm] at hx; cases hx
 t := fun x hx _ => .base hx
 k := fun x hx => (ZfE s x).1 hx
theorem ZAE {s : Scm} {ns : List ByteArray} {e : ByteArray} {td : List ByteArray} {r : List (ByteArray × Bool)} (h : IO1 s ns (e :: td) r) (he : lkM e r = true) :
  IO1 s ns (td ++ Zbz s e) (ZeL e r) ∧ (td ++ Zbz s e).length + ZvK (fun x => (Zbz s x).length) (ZeL e r) < (e :: td).length + ZvK (fun x => (Zbz s x).length) r := by
 have hs := ZqJ (fun x => (Zbz s x).length) (ZDP he)
 have hb := h.b
 rw [List.length_cons] at hb
 have hm := h.k e he
 have hc := h.t e (by simp) hm
 have hd : ∀ y, lkM y (ZeL e r) = (decide (e ≠ y) && lkM y r) := fun y => Zyr h.nd
 have hf : ∀ y, lkM y (ZeL e r) = false → y = e ∨ lkM y r = false := fun y hy => by
  rw [hd] at hy
  by_cases e1 : e = y
  ·exact .inl e1.symm
  ·exact .inr (by simpa [e1] using hy)
 have hg : ∀ y, lkM y r = false → lkM y (ZeL e r) = false := fun y hy => by rw [hd, hy, Bool.and_false]
 have hh : ∀ y, lkM y r = false ∨ y ∈ e :: td → lkM y (ZeL e r) = false ∨ y ∈ td ++ Zbz s e := fun y hy => by
  rcases hy with hy | hy
  ·exact .inl (hg y hy)
  ·rcases List.mem_cons.1 hy with rfl | hy
   ·exact .inl (by rw [hd]; simp)
   ·exact .inr (List.mem_append_left _ hy)
 refine ⟨⟨ZCP e h.nd, by rw [List.length_append]; omega, fun x hx => hh x (h.n x hx), fun x hx hm y hy hym => ?_, fun x hm hx => ?_, fun x hx hm => ?_, fun x hx => ?_⟩, by rw [List.length_append, List.length_cons]; omega⟩
 ·rcases hf x hx with rfl | hx
  ·exact .inr (List.mem_append_right _ hy)
  ·exact hh y (h.c x hx hm y hy hym)
 ·rcases hf x hx with rfl | hx
  ·exact hc
  ·exact h.l x hm hx
 ·rcases List.mem_append.1 hx with hx | hx
  ·exact h.t x (List.mem_cons_of_mem _ hx) hm
  ·exact .step hc hx hm
 ·rw [hd] at hx
  simp only [Bool.and_eq_true] at hx
  exact h.k x hx.2
theorem Zz7 {s : Scm} {ns : List ByteArray} {e : ByteArray} {td : List ByteArray} {r : List (ByteArray × Bool)} (h : IO1 s ns (e :: td) r) (he : lkM e r = false) : IO1 s ns td r := by
 have hb := h.b
 rw [List.length_cons] at hb
 have hh : ∀ y, lkM y r = false ∨ y ∈ e :: td → lkM y r = false ∨ y ∈ td := fun y hy => by
  rcases hy with hy | hy
  ·exact .inl hy
  ·rcases List.mem_cons.1 hy with rfl | hy
   ·exact .inl he
   ·exact .inr hy
 exact ⟨h.nd, by omega, fun x hx => hh x (h.n x hx), fun x hx hm y hy hym => hh y (h.c x hx hm y hy hym), h.l, fun x hx hm => h.t x (List.mem_cons_of_mem _ hx) hm, h.k⟩
theorem ZCl {s : Scm} {ns : List ByteArray} {r : List (ByteArray × Bool)} (h : IO1 s ns [] r) (hn : ∀ x ∈ ns, x ∈ nmS s) : ∀ x ∈ nmS s, (!lkM x r) = true ↔ Cl s ns x := by
 have f : ∀ {P : Prop} {x : ByteArray}, P ∨ x ∈ ([] : List ByteArray) → P := fun h => h.elim id fun h => by cases h
 intro x hx
 rw [Bool.not_eq_true']
 refine ⟨h.l x hx, fun hc => ?_⟩
 exact (hc.sub (P := fun x => x ∈ nmS s ∧ lkM x r = false) (fun y hy => ⟨hn y hy, f (h.n y hy)⟩) fun y hy z hz hzm => ⟨hzm, f (h.c y hy.2 hy.1 z hz hzm)⟩).2
theorem Zr8 (s : Scm) {ns : List ByteArray} (h : SzO s ns) (hn : ∀ x ∈ ns, x ∈ nmS s) : ∃ r, Zaj (Zjs s) big (ns, Zk1 s) = some (.inl r) ∧ IO1 s ns [] r := by
 have hx0 := Zq1 s h hn
 obtain ⟨o, h1, h2⟩ := ZhD (B := Zjs s) (fun k v => IO1 s ns v.1 v.2 ∧ v.1.length + ZvK (fun x => (Zbz s x).length) v.2 = k) (fun o => ∃ r, o = .inl r ∧ IO1 s ns [] r) (fun k v hI => by
  obtain ⟨td, r⟩ := v
  obtain ⟨hI, hk⟩ := hI
  dsimp only at hI hk
  cases td with
  | nil =>
   refine ⟨.ex r, ?_, r, rfl, hI⟩
   dsimp only [Zjs, Zqk, al, frt, stp, br, ix, ixi, vz, vy, vw, vs, vg, v2, lr, lrt, ln, lxe, lc, lf, lfe, ap, aq, a0, a1, ad, cl, cs, cf, wa, wi, ir, ca, cp, dd, mv, st, ss, sL, Bd.c, Bd.vl, mlk, mpu, mdl, mvm, rb, cr, tro, ch]
   simp
  | cons e td =>
   have hb := hI.b
   have l0 : (e :: td).length = td.length + 1 := rfl
   have l1 : (0 : Int) < ((e :: td).length : Int) := by omega
   have l2 : 0 < (e :: td).length := by omega
   have hg : (e :: td)[0]? = some e := rfl
   cases he : lkM e r with
   | true =>
    obtain ⟨hJ, hlt⟩ := ZAE hI he
    have g1 := m42 s e h
    have g2 : (e :: td).length + (Zbz s e).length < 549755813888 := by
     have := Zdb s e
     have := h.t
     omega
    refine ⟨.nx (td ++ Zbz s e, ZeL e r), ?_, _, by rw [← hk]; exact hlt, hJ, rfl⟩
    dsimp only [Zjs, Zqk, Zt4, ZyG, ZwR, ZxD, vw, vs, vg, vz, br, lc, ln, lf, ir, ca, mlk, mdl, cl, aq]
    simp only [l1, l2, hg, he, g1, g2, decide_true, if_true, Option.bind_some]
    simp [al, frt, stp, br, ix, ixi, vz, vy, vw, vs, vg, v2, lr, lrt, ln, lxe, lc, lf, lfe, ap, aq, a0, a1, ad, cl, cs, cf, wa, wi, ir, ca, cp, dd, mv, st, ss, sL, Bd.c, Bd.vl, mlk, mpu, mdl, mvm, rb, cr, tro, ch]
   | false =>
    have hJ := Zz7 hI he
    refine ⟨.nx (td, r), ?_, _, by dsimp only; omega, hJ, rfl⟩
    dsimp only [Zjs, Zqk, Zt4, Zzk, Zx5, vw, vs, vg, vz, br, lc, ln, lf, ir, ca, mlk, mdl, cl, aq]
    simp only [l1, l2, hg, he, decide_true, if_true, Option.bind_some, Bool.false_eq_true, if_false]
    simp [al, frt, stp, br, ix, ixi, vz, vy, vw, vs, vg, v2, lr, lrt, ln, lxe, lc, lf, lfe, ap, aq, a0, a1, ad, cl, cs, cf, wa, wi, ir, ca, cp, dd, mv, st, ss, sL, Bd.c, Bd.vl, mlk, mpu, mdl, mvm, rb, cr, tro, ch]) big _ (ns, Zk1 s) (by have := hx0.b; exact Nat.lt_of_le_of_lt this (by decide)) ⟨hx0, rfl⟩
 obtain ⟨r, rfl, h3⟩ := h2
 exact ⟨r, h1, h3⟩
open Classical in
theorem m18 (s : Scm) {ns : List ByteArray} (h : SzO s ns) : ∃ r, Zdz s ns = some r ∧
  (((∀ x ∈ ns, x ∈ nmS s) ∧ r.2 = 0 ∧ ∃ p : ByteArray → Bool, r.1 = ZeS s p ∧ ∀ x ∈ nmS s, p x = true ↔ Cl s ns x) ∨ ((¬ ∀ x ∈ ns, x ∈ nmS s) ∧ r = (⟨[], [], []⟩, 10))) := by
 have hl := h.n
 have q1 : Zaj (Zow s ns (Zk1 s)) big 0 = some (if ∀ x ∈ ns, x ∈ nmS s then .inl () else .inr (⟨[], [], []⟩, 10)) := by
  rw [ZcB ns (fun x => !lkM x (Zk1 s)) (fun _ => ((⟨[], [], []⟩, 10) : Scm × Int)) () (hN := Zaz (by omega)) (he := by simp [Zow, ZsX, al, frt, stp, br, ix, ixi, vz, vy, vw, vs, vg, v2, lr, lrt, ln, lxe, lc, lf, lfe, ap, aq, a0, a1, ad, cl, cs, cf, wa, wi, ir, ca, cp, dd, mv, st, ss, sL, Bd.c, Bd.vl, mlk, mpu, mdl, mvm, rb, cr, tro, ch]) (hs := by
   intro i y hy
   obtain ⟨h1, rfl⟩ := List.getElem?_eq_some_iff.1 hy
   have h2 : i + 1 < 9223372036854775808 := by omega
   simp [Zow, ZsX, al, frt, stp, br, ix, ixi, vz, vy, vw, vs, vg, v2, lr, lrt, ln, lxe, lc, lf, lfe, ap, aq, a0, a1, ad, cl, cs, cf, wa, wi, ir, ca, cp, dd, mv, st, ss, sL, Bd.c, Bd.vl, mlk, mpu, mdl, mvm, rb, cr, tro, ch, h1, h2]
   cases lkM ns[i] (Zk1 s) <;> rfl)]
  congr 1
  by_cases ha : ∀ x ∈ ns, x ∈ nmS s
  ·rw [if_pos ha, List.findIdx?_eq_none_iff.2 fun x hx => by rw [(ZfE s x).2 (ha x hx)]; rfl]
  ·rw [if_neg ha]
   cases hf : ns.findIdx? fun x => !lkM x (Zk1 s) with
   | none =>
    refine absurd (fun x hx => ?_) ha
    have := List.findIdx?_eq_none_iff.1 hf x hx
    exact (ZfE s x).1 (by simpa using this)
   | some i => rfl
 unfold Zdz
 dsimp only [ZoC, Zme, Zl5, Zj1, Zkm, Zls, Ztp, vw, vs, vg, vz, br, lc, lr, lf, cl]
 rw [m40 s h, ZKw s h]
 dsimp only [Option.bind_some, Zme, Zl5, Zj1, Zkm, Zls, Ztp, vw, vs, vg, vz, br, lc, lr, lf, cl]
 rw [q1]
 by_cases ha : ∀ x ∈ ns, x ∈ nmS s
 ·obtain ⟨r, e1, hr⟩ := Zr8 s h ha
  rw [if_pos ha]
  simp only [Option.bind_some, Sum.elim_inl, m41 ns (by omega), e1, m43 s r h]
  exact ⟨_, rfl, .inl ⟨ha, rfl, _, rfl, ZCl hr ha⟩⟩
 ·rw [if_neg ha]
  simp only [Option.bind_some, Sum.elim_inr]
  exact ⟨_, rfl, .inr ⟨ha, rfl⟩⟩
theorem Zr9 {l : List ByteArray} {x : ByteArray} : (l.any fun y => decide (y = x)) = true ↔ x ∈ l := by
 rw [List.any_eq_true]
 exact ⟨fun ⟨y, hy, e⟩ => of_decide_eq_true e ▸ hy, fun hx => ⟨x, hx, decide_eq_true rfl⟩⟩
def dnS (r : List ByteArray) (x : ByteArray) : List ByteArray := if (r.any fun y => decide (y = x)) = true then r else r ++ [x]
def grS (K r : List ByteArray) (x : ByteArray) : List ByteArray := if ((K.any fun y => decide (y = x)) && !(r.any fun y => decide (y = x))) = true then r ++ [x] else r
theorem Zv3 {r : List ByteArray} {x y : ByteArray} : y ∈ dnS r x ↔ y ∈ r ∨ y = x := by
 unfold dnS
 split
 ·rename_i h
  have := Zr9.1 h
  exact ⟨.inl, fun h2 => h2.elim id fun e => e ▸ this⟩
 ·simp
theorem ZFL {r : List ByteArray} {x : ByteArray} (h : r.Nodup) : (dnS r x).Nodup := by
 unfold dnS
 split
 ·exact h
 ·rename_i hx
  rw [List.nodup_append]
  exact ⟨h, by simp, fun a ha b hb => by simp at hb; subst hb; exact fun e => hx (Zr9.2 (e ▸ ha))⟩
theorem dnF (ns : List ByteArray) : ∀ r : List ByteArray, r.Nodup → (ns.foldl dnS r).Nodup ∧ (∀ y, y ∈ ns.foldl dnS r ↔ y ∈ r ∨ y ∈ ns) := by
 induction ns with
 | nil => intro r h; exact ⟨h, fun y => by simp⟩
 | cons x ns ih =>
  intro r h
  obtain ⟨h1, h2⟩ := ih (dnS r x) (ZFL h)
  refine ⟨h1, fun y => ?_⟩
  rw [List.foldl_cons, h2, Zv3, List.mem_cons]
  constructor
  ·rintro ((h | h) | h)
   ·exact .inl h
   ·exact .inr (.inl h)
   ·exact .inr (.inr h)
  ·rintro (h | h | h)
   ·exact .inl (.inl h)
   ·exact .inl (.inr h)
   ·exact .inr h
theorem ZyV {K r : List ByteArray} {x y : ByteArray} : y ∈ grS K r x ↔ y ∈ r ∨ (y = x ∧ x ∈ K) := by
 unfold grS
 split
 ·rename_i h
  simp only [Bool.and_eq_true] at h
  have := Zr9.1 h.1
  simp [this]
 ·rename_i h
  simp only [Bool.and_eq_true, Bool.not_eq_true', not_and, Bool.not_eq_false] at h
  refine ⟨.inl, fun h2 => h2.elim id fun ⟨e, hk⟩ => ?_⟩
  rw [e]
  exact Zr9.1 (h (Zr9.2 hk))
theorem ZCw {K r : List ByteArray} {x : ByteArray} (h : r.Nodup) : (grS K r x).Nodup := by
 unfold grS
 split
 ·rename_i hc
  simp only [Bool.and_eq_true, Bool.not_eq_true'] at hc
  rw [List.nodup_append]
  refine ⟨h, by simp, fun a ha b hb e => ?_⟩
  rw [List.mem_singleton] at hb
  have := Zr9.2 (hb ▸ e ▸ ha)
  rw [hc.2] at this
  cases this
 ·exact h
theorem Zw4 {K r : List ByteArray} {x : ByteArray} : ∃ t, grS K r x = r ++ t := by
 unfold grS
 split
 ·exact ⟨_, rfl⟩
 ·exact ⟨[], by simp⟩
theorem grF (K us : List ByteArray) : ∀ r : List ByteArray, r.Nodup → (us.foldl (grS K) r).Nodup ∧ (∀ y, y ∈ us.foldl (grS K) r ↔ y ∈ r ∨ (y ∈ us ∧ y ∈ K)) ∧ ∃ t, us.foldl (grS K) r = r ++ t := by
 induction us with
 | nil => intro r h; exact ⟨h, fun y => by simp, [], by simp⟩
 | cons x us ih =>
  intro r h
  obtain ⟨h1, h2, t, h3⟩ := ih (grS K r x) (ZCw h)
  obtain ⟨t2, h4⟩ := Zw4 (K := K) (r := r) (x := x)
  refine ⟨h1, fun y => ?_, t2 ++ t, by rw [List.foldl_cons, h3, h4, List.append_assoc]⟩
  rw [List.foldl_cons, h2, ZyV, List.mem_cons]
  constructor
  ·rintro ((h | ⟨h, k⟩) | ⟨h, k⟩)
   ·exact .inl h
   ·exact .inr ⟨.inl h, h ▸ k⟩
   ·exact .inr ⟨.inr h, k⟩
  ·rintro (h | ⟨h | h, k⟩)
   ·exact .inl (.inl h)
   ·exact .inl (.inr ⟨h, h ▸ k⟩)
   ·exact .inr ⟨h, k⟩
structure IO2 (s : Scm) (ns : List ByteArray) (r : List ByteArray) (v : Nat) : Prop where
 nd : r.Nodup
 vl : v ≤ r.length
 su : ∀ x ∈ r, x ∈ nmS s
 n : ∀ x ∈ ns, x ∈ r
 l : ∀ x ∈ r, Cl s ns x
 c : ∀ x ∈ r.take v, ∀ y ∈ Zbz s x, y ∈ nmS s → y ∈ r
theorem ZsM (s : Scm) {ns : List ByteArray} (h : SzO s ns) (hn : ∀ x ∈ ns, x ∈ nmS s) : ∃ r, Zaj (ZnJ s (nmS s)) big (ns.foldl dnS [], 0) = some (.inl r) ∧ r.length ≤ 3145728 ∧ ∀ x, x ∈ r ↔ Cl s ns x := by
 obtain ⟨d1, d2⟩ := dnF ns [] List.nodup_nil
 have hL : (nmS s).length ≤ 3145728 := by
  have h1 := h.m
  have h2 := h.e
  have h3 := h.v
  unfold nmS
  simp only [List.length_append, List.length_map]
  omega
 have q3 : ∀ (v : Nat) (us r : List ByteArray), us.length ≤ 4194304 → r.Nodup → (∀ x ∈ r, x ∈ nmS s) → Zaj (ZnL s (nmS s) v us) big (r, 0) = some (.inl (us.foldl (grS (nmS s)) r)) := fun v us r hu hr hs => by
  have := Zav (B := ZnL s (nmS s) v us) (N := big) us (fun p => p.foldl (grS (nmS s)) r) (fun i b => (b, i)) id (hN := Zaz (by omega)) (he := by simp [ZnL, Zte, al, frt, stp, br, ix, ixi, vz, vy, vw, vs, vg, v2, lr, lrt, ln, lxe, lc, lf, lfe, ap, aq, a0, a1, ad, cl, cs, cf, wa, wi, ir, ca, cp, dd, mv, st, ss, sL, Bd.c, Bd.vl, mlk, mpu, mdl, mvm, rb, cr, tro, ch]) (hs := fun i x hx => by
   have g1 := Zcj hx
   have g0 := (List.getElem?_eq_some_iff.1 hx).1
   have g2 : i + 1 < 9223372036854775808 := by omega
   obtain ⟨f1, f2, _⟩ := grF (nmS s) (us.take i) r hr
   have g4 : ((us.take i).foldl (grS (nmS s)) r).length ≤ 3145728 := Nat.le_trans (Zko f1 fun y hy => ((f2 y).1 hy).elim (hs y) fun h => h.2) hL
   have g5 := m45 (nmS s) x (by omega)
   have g6 := ZDY ((us.take i).foldl (grS (nmS s)) r) x (by omega)
   have g7 : ((us.take i).foldl (grS (nmS s)) r).length < 549755813887 := by omega
   rw [List.foldl_append, List.foldl_cons, List.foldl_nil]
   generalize (us.take i).foldl (grS (nmS s)) r = rr at *
   unfold grS
   dsimp only [ZnL, Zte, csg, al, frt, stp, br, ix, ixi, vz, vy, vw, vs, vg, v2, lr, lrt, ln, lxe, lc, lf, lfe, ap, aq, a0, a1, ad, cl, cs, cf, wa, wi, ir, ca, cp, dd, mv, st, ss, sL, Bd.c, Bd.vl, mlk, mpu, mdl, mvm, rb, cr, tro, ch]
   simp only [g1, g2, g5, g7, hx, decide_true, if_true, Option.bind_some]
   cases (nmS s).any fun y => decide (y = x) with
   | false => simp
   | true =>
    simp only [if_true, g6, Option.bind_some]
    cases rr.any fun y => decide (y = x) <;> simp)
  exact this
 obtain ⟨o, h1, h2⟩ := ZhD (B := ZnJ s (nmS s)) (fun k v => IO2 s ns v.1 v.2 ∧ (nmS s).length - v.2 = k) (fun o => ∃ r, o = .inl r ∧ r.length ≤ 3145728 ∧ ∀ x, x ∈ r ↔ Cl s ns x) (fun k v hI => by
  obtain ⟨r, v⟩ := v
  obtain ⟨hI, hk⟩ := hI
  dsimp only at hI hk
  have hv := hI.vl
  have hr : r.length ≤ (nmS s).length := Zko hI.nd hI.su
  by_cases hlt : v < r.length
  ·have l1 : (v : Int) < (r.length : Int) := by omega
   have hg : r[v]? = some r[v] := List.getElem?_eq_getElem hlt
   have g1 := m46 s r[v] h
   have g2 := q3 v (Zbz s r[v]) r (by have := Zdb s r[v]; have := h.t; omega) hI.nd hI.su
   have g3 : v + 1 < 9223372036854775808 := by omega
   obtain ⟨f1, f2, t, f3⟩ := grF (nmS s) (Zbz s r[v]) r hI.nd
   have hc := hI.l _ (List.getElem_mem hlt)
   have ht : r.take (v + 1) = r.take v ++ [r[v]] := List.take_succ_eq_append_getElem hlt
   refine ⟨.nx ((Zbz s r[v]).foldl (grS (nmS s)) r, v + 1), ?_, (nmS s).length - (v + 1), by omega, ⟨f1, by rw [f3, List.length_append]; omega, fun x hx => ((f2 x).1 hx).elim (hI.su x) fun h => h.2, fun x hx => (f2 x).2 (.inl (hI.n x hx)), fun x hx => ((f2 x).1 hx).elim (hI.l x) fun h => .step hc h.1 h.2, fun x hx y hy hm => ?_⟩, rfl⟩
   ·dsimp only [ZnJ, Ztn, Zt0, al, frt, stp, br, ix, ixi, vz, vy, vw, vs, vg, v2, lr, lrt, ln, lxe, lc, lf, lfe, ap, aq, a0, a1, ad, cl, cs, cf, wa, wi, ir, ca, cp, dd, mv, st, ss, sL, Bd.c, Bd.vl, mlk, mpu, mdl, mvm, rb, cr, tro, ch]
    simp only [l1, hlt, hg, g1, g2, decide_true, if_true, Option.bind_some, Sum.elim_inl]
    dsimp only [ZwG, al, frt, stp, br, ix, ixi, vz, vy, vw, vs, vg, v2, lr, lrt, ln, lxe, lc, lf, lfe, ap, aq, a0, a1, ad, cl, cs, cf, wa, wi, ir, ca, cp, dd, mv, st, ss, sL, Bd.c, Bd.vl, mlk, mpu, mdl, mvm, rb, cr, tro, ch]
    simp only [g3, if_true]
   ·rw [f3, List.take_append_of_le_length (by omega), ht] at hx
    rw [f2]
    rcases List.mem_append.1 hx with hx | hx
    ·exact .inl (hI.c x hx y hy hm)
    ·rw [List.mem_singleton] at hx
     subst hx
     exact .inr ⟨hy, hm⟩
  ·have hve : v = r.length := by omega
   refine ⟨.ex r, ?_, r, rfl, by omega, fun x => ⟨hI.l x, fun hc => ?_⟩⟩
   ·dsimp only [ZnJ, Ztn, Zt0, al, frt, stp, br, ix, ixi, vz, vy, vw, vs, vg, v2, lr, lrt, ln, lxe, lc, lf, lfe, ap, aq, a0, a1, ad, cl, cs, cf, wa, wi, ir, ca, cp, dd, mv, st, ss, sL, Bd.c, Bd.vl, mlk, mpu, mdl, mvm, rb, cr, tro, ch]
    simp [hve]
   ·have hcc := hI.c
    rw [hve, List.take_length] at hcc
    exact hc.sub (P := fun x => x ∈ r) hI.n hcc) big _ (ns.foldl dnS [], 0) (by dsimp only; exact Nat.lt_of_le_of_lt (Nat.le_trans (Nat.sub_le _ _) hL) (by decide)) ⟨⟨d1, Nat.zero_le _, fun x hx => hn x (((d2 x).1 hx).elim (fun h => by cases h) id), fun x hx => (d2 x).2 (.inr hx), fun x hx => .base (((d2 x).1 hx).elim (fun h => by cases h) id), fun x hx => by simp at hx⟩, rfl⟩
 obtain ⟨r, rfl, h3⟩ := h2
 exact ⟨r, h1, h3⟩
theorem Zry (s : Scm) {ns : List ByteArray} (h : SzO s ns) (r : List ByteArray) (hr : r.length ≤ 3145728) : (ZkP s r).m = some (ZeS s (fun x => r.any fun y => decide (y = x)), 0) := by
 have q4 : ∀ (_ : Unit), Zaj (ZmB s r) big (0, []) = some (.inl (s.messages.filter fun m => r.any fun y => decide (y = m.name))) := fun _ => by
  have := Zav (B := ZmB s r) (N := big) s.messages (fun p => p.filter fun m => r.any fun y => decide (y = m.name)) (fun i b => (i, b)) id (hN := Zaz (by have := h.m; omega)) (he := by simp [ZmB, Zrw, al, frt, stp, br, ix, ixi, vz, vy, vw, vs, vg, v2, lr, lrt, ln, lxe, lc, lf, lfe, ap, aq, a0, a1, ad, cl, cs, cf, wa, wi, ir, ca, cp, dd, mv, st, ss, sL, Bd.c, Bd.vl, mlk, mpu, mdl, mvm, rb, cr, tro, ch]) (hs := fun i m hx => by
   have g1 := Zcj hx
   have g0 := (List.getElem?_eq_some_iff.1 hx).1
   have g3 := h.m
   have g2 : i + 1 < 9223372036854775808 := by omega
   have g4 := m45 r m.name (by omega)
   have g5 : ((s.messages.take i).filter fun m => r.any fun y => decide (y = m.name)).length < 549755813887 := by
    have := List.length_filter_le (fun m : Msg => r.any fun y => decide (y = m.name)) (s.messages.take i)
    rw [List.length_take] at this
    omega
   rw [List.filter_append, List.filter_cons, List.filter_nil]
   dsimp only [ZmB, Zrw, al, frt, stp, br, ix, ixi, vz, vy, vw, vs, vg, v2, lr, lrt, ln, lxe, lc, lf, lfe, ap, aq, a0, a1, ad, cl, cs, cf, wa, wi, ir, ca, cp, dd, mv, st, ss, sL, Bd.c, Bd.vl, mlk, mpu, mdl, mvm, rb, cr, tro, ch]
   simp only [g1, g2, g4, g5, hx, decide_true, if_true, Option.bind_some]
   cases r.any fun y => decide (y = m.name) <;> simp)
  exact this
 have q5 : ∀ (a : List Msg), Zaj (Znu s r a) big (0, []) = some (.inl (s.enums.filter fun m => r.any fun y => decide (y = m.name))) := fun a => by
  have := Zav (B := Znu s r a) (N := big) s.enums (fun p => p.filter fun m => r.any fun y => decide (y = m.name)) (fun i b => (i, b)) id (hN := Zaz (by have := h.e; omega)) (he := by simp [Znu, Zra, al, frt, stp, br, ix, ixi, vz, vy, vw, vs, vg, v2, lr, lrt, ln, lxe, lc, lf, lfe, ap, aq, a0, a1, ad, cl, cs, cf, wa, wi, ir, ca, cp, dd, mv, st, ss, sL, Bd.c, Bd.vl, mlk, mpu, mdl, mvm, rb, cr, tro, ch]) (hs := fun i m hx => by
   have g1 := Zcj hx
   have g0 := (List.getElem?_eq_some_iff.1 hx).1
   have g3 := h.e
   have g2 : i + 1 < 9223372036854775808 := by omega
   have g4 := m45 r m.name (by omega)
   have g5 : ((s.enums.take i).filter fun m => r.any fun y => decide (y = m.name)).length < 549755813887 := by
    have := List.length_filter_le (fun m : Enm => r.any fun y => decide (y = m.name)) (s.enums.take i)
    rw [List.length_take] at this
    omega
   rw [List.filter_append, List.filter_cons, List.filter_nil]
   dsimp only [Znu, Zra, al, frt, stp, br, ix, ixi, vz, vy, vw, vs, vg, v2, lr, lrt, ln, lxe, lc, lf, lfe, ap, aq, a0, a1, ad, cl, cs, cf, wa, wi, ir, ca, cp, dd, mv, st, ss, sL, Bd.c, Bd.vl, mlk, mpu, mdl, mvm, rb, cr, tro, ch]
   simp only [g1, g2, g4, g5, hx, decide_true, if_true, Option.bind_some]
   cases r.any fun y => decide (y = m.name) <;> simp)
  exact this
 have q6 : ∀ (a : List Msg) (b : List Enm), Zaj (Zm9 s r a b) big (0, []) = some (.inl (s.services.filter fun m => r.any fun y => decide (y = m.name))) := fun a b => by
  have := Zav (B := Zm9 s r a b) (N := big) s.services (fun p => p.filter fun m => r.any fun y => decide (y = m.name)) (fun i b => (i, b)) id (hN := Zaz (by have := h.v; omega)) (he := by simp [Zm9, ZrX, al, frt, stp, br, ix, ixi, vz, vy, vw, vs, vg, v2, lr, lrt, ln, lxe, lc, lf, lfe, ap, aq, a0, a1, ad, cl, cs, cf, wa, wi, ir, ca, cp, dd, mv, st, ss, sL, Bd.c, Bd.vl, mlk, mpu, mdl, mvm, rb, cr, tro, ch]) (hs := fun i m hx => by
   have g1 := Zcj hx
   have g0 := (List.getElem?_eq_some_iff.1 hx).1
   have g3 := h.v
   have g2 : i + 1 < 9223372036854775808 := by omega
   have g4 := m45 r m.name (by omega)
   have g5 : ((s.services.take i).filter fun m => r.any fun y => decide (y = m.name)).length < 549755813887 := by
    have := List.length_filter_le (fun m : Svc => r.any fun y => decide (y = m.name)) (s.services.take i)
    rw [List.length_take] at this
    omega
   rw [List.filter_append, List.filter_cons, List.filter_nil]
   dsimp only [Zm9, ZrX, al, frt, stp, br, ix, ixi, vz, vy, vw, vs, vg, v2, lr, lrt, ln, lxe, lc, lf, lfe, ap, aq, a0, a1, ad, cl, cs, cf, wa, wi, ir, ca, cp, dd, mv, st, ss, sL, Bd.c, Bd.vl, mlk, mpu, mdl, mvm, rb, cr, tro, ch]
   simp only [g1, g2, g4, g5, hx, decide_true, if_true, Option.bind_some]
   cases r.any fun y => decide (y = m.name) <;> simp)
  exact this
 dsimp only [ZkP, ZoJ, Zpa, al, frt, stp, br, ix, ixi, vz, vy, vw, vs, vg, v2, lr, lrt, ln, lxe, lc, lf, lfe, ap, aq, a0, a1, ad, cl, cs, cf, wa, wi, ir, ca, cp, dd, mv, st, ss, sL, Bd.c, Bd.vl, mlk, mpu, mdl, mvm, rb, cr, tro, ch]
 rw [q4 ()]
 dsimp only [Option.bind_some, Sum.elim_inl, ZoY, ZpO, al, frt, stp, br, ix, ixi, vz, vy, vw, vs, vg, v2, lr, lrt, ln, lxe, lc, lf, lfe, ap, aq, a0, a1, ad, cl, cs, cf, wa, wi, ir, ca, cp, dd, mv, st, ss, sL, Bd.c, Bd.vl, mlk, mpu, mdl, mvm, rb, cr, tro, ch]
 rw [q5]
 dsimp only [Option.bind_some, Sum.elim_inl, ZpM, Zog, al, frt, stp, br, ix, ixi, vz, vy, vw, vs, vg, v2, lr, lrt, ln, lxe, lc, lf, lfe, ap, aq, a0, a1, ad, cl, cs, cf, wa, wi, ir, ca, cp, dd, mv, st, ss, sL, Bd.c, Bd.vl, mlk, mpu, mdl, mvm, rb, cr, tro, ch]
 rw [q6]
 dsimp only [Option.bind_some, Sum.elim_inl, ZwQ, al, frt, stp, br, ix, ixi, vz, vy, vw, vs, vg, v2, lr, lrt, ln, lxe, lc, lf, lfe, ap, aq, a0, a1, ad, cl, cs, cf, wa, wi, ir, ca, cp, dd, mv, st, ss, sL, Bd.c, Bd.vl, mlk, mpu, mdl, mvm, rb, cr, tro, ch]
 rfl
open Classical in
theorem m19 (s : Scm) {ns : List ByteArray} (h : SzO s ns) : ∃ r, Zbb s ns = some r ∧
  (((∀ x ∈ ns, x ∈ nmS s) ∧ r.2 = 0 ∧ ∃ p : ByteArray → Bool, r.1 = ZeS s p ∧ ∀ x ∈ nmS s, p x = true ↔ Cl s ns x) ∨ ((¬ ∀ x ∈ ns, x ∈ nmS s) ∧ r = (⟨[], [], []⟩, 10))) := by
 have hl := h.n
 have hL : (nmS s).length ≤ 3145728 := by
  have h1 := h.m
  have h2 := h.e
  have h3 := h.v
  unfold nmS
  simp only [List.length_append, List.length_map]
  omega
 have q1 : Zaj (ZmV s ns (nmS s)) big ([], 0) = some ((Zdu (fun _ x => if (nmS s).any (fun y => decide (y = x)) = true then none else some ((⟨[], [], []⟩, 10) : Scm × Int)) [] ns).elim (.inl (ns.foldl dnS [])) .inr) := by
  have := Zmb (B := ZmV s ns (nmS s)) (N := big) ns (fun p => p.foldl dnS []) (fun _ x => if (nmS s).any (fun y => decide (y = x)) = true then none else some ((⟨[], [], []⟩, 10) : Scm × Int)) (fun i b => (b, i)) id (hN := Zaz (by omega)) (he := by simp [ZmV, ZsY, al, frt, stp, br, ix, ixi, vz, vy, vw, vs, vg, v2, lr, lrt, ln, lxe, lc, lf, lfe, ap, aq, a0, a1, ad, cl, cs, cf, wa, wi, ir, ca, cp, dd, mv, st, ss, sL, Bd.c, Bd.vl, mlk, mpu, mdl, mvm, rb, cr, tro, ch]) (hs := fun i x hx => by
   have g1 := Zcj hx
   have g0 := (List.getElem?_eq_some_iff.1 hx).1
   have g2 : i + 1 < 9223372036854775808 := by omega
   have g3 := m45 (nmS s) x (by omega)
   obtain ⟨f1, f2⟩ := dnF (ns.take i) [] List.nodup_nil
   have g4 : ((ns.take i).foldl dnS []).length ≤ 1048576 := by
    have := Zko (k := ns) f1 fun y hy => ((f2 y).1 hy).elim (fun h => by cases h) fun h => List.mem_of_mem_take h
    omega
   have g5 := ZDY ((ns.take i).foldl dnS []) x (by omega)
   have g6 : ((ns.take i).foldl dnS []).length < 549755813887 := by omega
   rw [List.foldl_append, List.foldl_cons, List.foldl_nil]
   generalize (ns.take i).foldl dnS [] = rr at *
   unfold dnS
   dsimp only [ZmV, ZsY, lrt, al, frt, stp, br, ix, ixi, vz, vy, vw, vs, vg, v2, lr, lrt, ln, lxe, lc, lf, lfe, ap, aq, a0, a1, ad, cl, cs, cf, wa, wi, ir, ca, cp, dd, mv, st, ss, sL, Bd.c, Bd.vl, mlk, mpu, mdl, mvm, rb, cr, tro, ch]
   simp only [g1, g2, g3, g5, g6, hx, decide_true, if_true, Option.bind_some]
   cases (nmS s).any (fun y => decide (y = x)) <;> cases rr.any (fun y => decide (y = x)) <;> simp)
  exact this
 have q2 : ∀ (l p : List ByteArray), Zdu (fun _ x => if (nmS s).any (fun y => decide (y = x)) = true then none else some ((⟨[], [], []⟩, 10) : Scm × Int)) p l = if ∀ x ∈ l, x ∈ nmS s then none else some (⟨[], [], []⟩, 10) := by
  intro l
  induction l with
  | nil => intro p; simp [Zdu]
  | cons x l ih =>
   intro p
   rw [Zdu]
   by_cases hx : x ∈ nmS s
   ·rw [if_pos (Zr9.2 hx)]
    dsimp only
    rw [ih]
    simp [hx]
   ·rw [if_neg fun h => hx (Zr9.1 h)]
    simp [hx]
 rw [q2] at q1
 unfold Zbb
 dsimp only [ZoD, ZlA, Zl6, Zly, al, frt, stp, br, ix, ixi, vz, vy, vw, vs, vg, v2, lr, lrt, ln, lxe, lc, lf, lfe, ap, aq, a0, a1, ad, cl, cs, cf, wa, wi, ir, ca, cp, dd, mv, st, ss, sL, Bd.c, Bd.vl, mlk, mpu, mdl, mvm, rb, cr, tro, ch]
 rw [m44 s h]
 dsimp only [Option.bind_some, ZlA, Zl6, Zly, al, frt, stp, br, ix, ixi, vz, vy, vw, vs, vg, v2, lr, lrt, ln, lxe, lc, lf, lfe, ap, aq, a0, a1, ad, cl, cs, cf, wa, wi, ir, ca, cp, dd, mv, st, ss, sL, Bd.c, Bd.vl, mlk, mpu, mdl, mvm, rb, cr, tro, ch]
 rw [q1]
 by_cases ha : ∀ x ∈ ns, x ∈ nmS s
 ·obtain ⟨r, e1, hr, hc⟩ := ZsM s h ha
  rw [if_pos ha]
  simp only [Option.elim_none, Option.bind_some, Sum.elim_inl, e1, Zry s h r hr]
  exact ⟨_, rfl, .inl ⟨ha, rfl, _, rfl, fun x _ => Zr9.trans (hc x)⟩⟩
 ·rw [if_neg ha]
  simp only [Option.elim_some, Option.bind_some, Sum.elim_inr]
  exact ⟨_, rfl, .inr ⟨ha, rfl⟩⟩
theorem ZFe (d : Fld) : d.type.name.size + Zel (d.notes.map eNt) ≤ bkL (Zc2 d) := by
 simp only [Zc2, bkL, bk]; omega
theorem ZpT (m : Msg) : m.name.size + Zel (m.fields.map Zc2) + Zel (m.reserved.map ZeI) + Zel (m.gone.map Zah) + Zel (m.notes.map eNt) ≤ bkL (Zak m) := by
 simp only [Zak, bkL, bk]; omega
theorem ZFG (d : Itm) : Zel (d.notes.map eNt) ≤ bkL (ZmG d) := by
 simp only [ZmG, bkL, bk]; omega
theorem ZBl (m : Enm) : m.name.size + Zel (m.items.map ZmG) + Zel (m.reserved.map ZeI) + Zel (m.notes.map eNt) ≤ bkL (Zag m) := by
 simp only [Zag, bkL, bk]; omega
theorem ZDN (d : Mth) : d.inn.size + d.out.size + Zel (d.notes.map eNt) ≤ bkL (Zd4 d) := by
 simp only [Zd4, bkL, bk]; omega
theorem Zqz (m : Svc) : m.name.size + Zel (m.methods.map Zd4) + Zel (m.notes.map eNt) ≤ bkL (Zal m) := by
 simp only [Zal, bkL, bk]; omega
theorem ZBX {m : Msg} (h : bkL (Zak m) ≤ 1048576) : OkM m := by
 have h1 := ZpT m
 have a := Zbg (e := Zc2) m.fields
 have b := Zbg (e := ZeI) m.reserved
 have c := Zbg (e := Zah) m.gone
 have d := Zbg (e := eNt) m.notes
 refine ⟨by omega, by omega, by omega, by omega, fun x hx => ?_⟩
 have e := Zed (e := Zc2) hx
 have f := ZFe x
 have g := Zbg (e := eNt) x.notes
 omega
theorem ZFy {m : Enm} (h : bkL (Zag m) ≤ 1048576) : OkE m := by
 have h1 := ZBl m
 have a := Zbg (e := ZmG) m.items
 have b := Zbg (e := ZeI) m.reserved
 have d := Zbg (e := eNt) m.notes
 refine ⟨by omega, by omega, by omega, fun x hx => ?_⟩
 have e := Zed (e := ZmG) hx
 have f := ZFG x
 have g := Zbg (e := eNt) x.notes
 omega
theorem ZD4 {m : Svc} (h : bkL (Zal m) ≤ 1048576) : OkV m := by
 have h1 := Zqz m
 have a := Zbg (e := Zd4) m.methods
 have d := Zbg (e := eNt) m.notes
 refine ⟨by omega, by omega, fun x hx => ?_⟩
 have e := Zed (e := Zd4) hx
 have f := ZDN x
 have g := Zbg (e := eNt) x.notes
 omega
theorem ZvE (s : Scm) : Zel (s.messages.map Zak) + Zel (s.enums.map Zag) + Zel (s.services.map Zal) ≤ bkL (ZeV s) := by
 simp only [ZeV, bkL, bk]; omega
theorem ZCd {s : Scm} (h : bkL (ZeV s) ≤ 1048576) : OkS s := by
 have h1 := ZvE s
 have b := Zbg (e := Zak) s.messages
 have c := Zbg (e := Zag) s.enums
 have d := Zbg (e := Zal) s.services
 exact ⟨by omega, by omega, by omega, fun m hm => ZBX (by have := Zed (e := Zak) hm; omega), fun m hm => ZFy (by have := Zed (e := Zag) hm; omega), fun m hm => ZD4 (by have := Zed (e := Zal) hm; omega)⟩
theorem Zqu {α : Type} (e : α → List D) (w : α → Nat) (c : Nat) (h : ∀ x, w x ≤ c * bkL (e x)) : ∀ l : List α, (l.map w).sum ≤ c * Zel (l.map e)
 | [] => by simp
 | x :: l => by
  have h1 := h x
  have h2 := Zqu e w c h l
  simp only [List.map_cons, List.sum_cons, Zel, Nat.mul_add]
  omega
theorem ZEU {s : Scm} {ns : List ByteArray} (h : bkL (ZeV s) ≤ 1048576) (hn : Zel (ns.map Zah) ≤ 1048576) : SzO s ns := by
 have h1 := ZvE s
 have a := Zbg (e := Zah) ns
 have b := Zbg (e := Zak) s.messages
 have c := Zbg (e := Zag) s.enums
 have d := Zbg (e := Zal) s.services
 refine ⟨by omega, by omega, by omega, by omega, fun m hm => ?_, fun m hm => ?_, ?_⟩
 ·have := Zed (e := Zak) hm; have := ZpT m; have := Zbg (e := Zc2) m.fields; omega
 ·have := Zed (e := Zal) hm; have := Zqz m; have := Zbg (e := Zd4) m.methods; omega
 ·have p := Zqu Zak (fun m => m.fields.length) 1 (fun m => by have := ZpT m; have := Zbg (e := Zc2) m.fields; omega) s.messages
  have q := Zqu Zal (fun m => 2 * m.methods.length) 2 (fun m => by have := Zqz m; have := Zbg (e := Zd4) m.methods; omega) s.services
  unfold ZAn
  omega
theorem ZjP {α : Type} (w : α → Nat) (p : α → Bool) : ∀ l : List α, ((l.filter p).map w).sum ≤ (l.map w).sum
 | [] => Nat.le_refl _
 | x :: l => by
  have := ZjP w p l
  rw [List.filter_cons]
  split <;> simp only [List.map_cons, List.sum_cons] <;> omega
theorem Zxo {s : Scm} {ns : List ByteArray} (h : SzO s ns) (p : ByteArray → Bool) : SzO (ZeS s p) ns := by
 unfold ZeS
 refine ⟨h.n, Nat.le_trans (List.length_filter_le _ _) h.m, Nat.le_trans (List.length_filter_le _ _) h.e, Nat.le_trans (List.length_filter_le _ _) h.v, fun m hm => h.f m (List.mem_filter.1 hm).1, fun m hm => h.d m (List.mem_filter.1 hm).1, ?_⟩
 have h1 := ZjP (fun m : Msg => m.fields.length) (fun m => p m.name) s.messages
 have h2 := ZjP (fun m : Svc => 2 * m.methods.length) (fun m => p m.name) s.services
 have h3 := h.t
 unfold ZAn at h3 ⊢
 dsimp only
 omega
theorem ZpI {s : Scm} (h : OkS s) (p : ByteArray → Bool) : OkS (ZeS s p) :=
 ⟨Nat.lt_of_le_of_lt (List.length_filter_le _ _) h.m, Nat.lt_of_le_of_lt (List.length_filter_le _ _) h.e, Nat.lt_of_le_of_lt (List.length_filter_le _ _) h.v, fun m hm => h.om m (List.mem_filter.1 hm).1, fun m hm => h.oe m (List.mem_filter.1 hm).1, fun m hm => h.ov m (List.mem_filter.1 hm).1⟩
theorem ZrR : OkS ⟨[], [], []⟩ := by
 refine ⟨by decide, by decide, by decide, ?_, ?_, ?_⟩ <;> (intro m hm; cases hm)
theorem ZgM {s : Scm} {ns : List ByteArray} (h : bkL (ZeV s) ≤ 1048576) (hn : Zel (ns.map Zah) ≤ 1048576) : ZaT s ns = some true := by
 have hz := ZEU h hn
 have ho := ZCd h
 obtain ⟨r1, e1, c1⟩ := m18 s hz
 obtain ⟨r2, e2, c2⟩ := m19 s hz
 have he : r1 = r2 ∧ OkS r1.1 := by
  rcases c1 with ⟨ha, b1, p, d1, f1⟩ | ⟨ha, b1⟩ <;> rcases c2 with ⟨ha2, b2, q, d2, f2⟩ | ⟨ha2, b2⟩
  ·refine ⟨Prod.ext ?_ (b1.trans b2.symm), d1 ▸ ZpI ho p⟩
   rw [d1, d2]
   exact Zgr s fun x hx => Bool.eq_iff_iff.2 ((f1 x hx).trans (f2 x hx).symm)
  ·exact absurd ha ha2
  ·exact absurd ha2 ha
  ·exact ⟨b1.trans b2.symm, by rw [b1]; exact ZrR⟩
 obtain ⟨rfl, hk⟩ := he
 unfold ZaT
 dsimp only [ZHu, cl, clg, vw, br, lr, lf]
 rw [e1, e2]
 dsimp only [Option.bind_some]
 rw [r11 _ hk]
 rcases c1 with ⟨ha, b1, p, d1, f1⟩ | ⟨ha, b1⟩
 ·obtain ⟨r3, e3, c3⟩ := m18 (ZeS s p) (Zxo hz p)
  have hp : ∀ x ∈ ns, x ∈ nmS (ZeS s p) := fun x hx => by
   rw [ZgQ, List.mem_filter]
   exact ⟨ha x hx, (f1 x (ha x hx)).2 (.base hx)⟩
  have h3 : r3 = (ZeS s p, 0) := by
   rcases c3 with ⟨_, b3, q, d3, f3⟩ | ⟨ha3, _⟩
   ·refine Prod.ext ?_ b3
    rw [d3]
    show ZeS (ZeS s p) q = ZeS s p
    rw [← Zec s p]
    refine (Zgr _ fun x hx => ?_).trans (by rw [Zec, Zec])
    have hx2 := hx
    rw [Zec, ZgQ, List.mem_filter] at hx2
    have := (f3 x (by rw [Zec] at hx; exact hx)).trans (Zys s ha f1 x)
    rw [hx2.2]
    exact this.2 ((f1 x hx2.1).1 hx2.2)
   ·exact absurd hp ha3
  subst h3
  rw [b1, d1, e3]
  dsimp only [Option.bind_some]
  rw [r11 _ (ZpI ho p), aw]
  simp
 ·rw [b1, aw]
  simp
end Go.Proofs.Ythagpbkmakocjaa
namespace Go.Proofs.Ythagpbkmakocjaa
set_option linter.all false
open Go Go.Eng Go.ChangeShapes Go.WideShapes Go.ChangeAt Go.RowKit
theorem own : ownKnob Try.prog.godebug = none := by kernel_rfl
namespace LinkOnly
open Go.Proofs.Ythagpbkmakocjaa
set_option maxRecDepth 100000 in
theorem contract (H : Type) (enc : TypeId × Value → H) (W : World) (base : Nat) (args : Array Value) (ds gs : List (DataW H)) (before : List MemPlace)
  (hval : ∀ (j : Nat) t v, Try.f7.params[j]? = some t → args[j]? = some v → Value.okWide Try.prog W .any base t v)
  (hW : DataW.Whole enc Try.prog Try.f7.params.toList Rows.linkOnlySpec.vars false W args.toList ds gs before) (hk : Rows.uptoSmall H (ds ++ gs) = true) :
  Calls Try.prog 7 args W fun e W' => ∃ v, e = .returned v ∧ Rows.linkOnlySpec.post enc Try.prog Try.f7 false true false false W args v W' := by
 obtain ⟨p, q, hA0, hV, rfl, hfz, hnd⟩ := id hW
 have hA : DataW.TrodAll enc Try.prog W 0 (fun _ => true) true Try.f7.params.toList args.toList ds p := hA0
 rw [Try.params7] at hA hval
 obtain ⟨v0, vs0, d0, ds0, p0, q0, hargs, rfl, rfl, h0, r0⟩ := trodAll_cons hA
 obtain ⟨v1, vs1, d1, ds1, p1, q1, rfl, rfl, rfl, h1, r1⟩ := trodAll_cons r0
 obtain ⟨rfl, rfl, rfl⟩ := trodAll_nil r1
 obtain rfl : args = #[v0, v1] := by cases args; simp_all
 have hb : Rows.uptoBulkAll ([d0, d1] ++ gs) ≤ 1048576 := of_decide_eq_true hk
 simp only [List.cons_append, List.nil_append, Rows.uptoBulkAll] at hb
 obtain ⟨schema, re0, fe0⟩ := Zy5 ZCt Try.underlying27 (hval 0 27 v0 rfl rfl) h0
 obtain ⟨names, re1, fe1⟩ := ZpC (e := Zah) (fun n => ZaN Try.underlying34 (by kernel_rfl : Try.prog.cellsOf 9 = 1) (by decide) (fun _ => rfl) (fun m _ => Zcc Try.underlying9)) Try.underlying34 (hval 1 34 v1 rfl rfl) h1
 simp only [bk] at fe1
 obtain ⟨rfl, rfl⟩ := trodVars_none hV
 have A := (K_7 schema names).k 0 Hp0 true (ZgM (by omega) (by omega))
 refine (A.2 (fun _ => ⟨0, 0, 0⟩) (· < W.heap.size) W #[v0, v1] (ok0 _) (Zyp (xs := [.agg ((ZeV schema).map .d), .d (.list (names.map Zah))]) (vs := [v0, v1]) ⟨re0 _ _, re1 _ _ _, trivial⟩)).mono fun e W' ⟨r, v, H', m', S', he, hp, hO, hr, hx⟩ => ?_
 obtain ⟨hp, _⟩ := hp
 subst he
 subst hp
 cases hr
 rename_i hd
 cases hd
 exact ⟨_, rfl, ZqA hW rfl (by kernel_rfl) (by rw [Try.params7]; exact (by decide +kernel)) (by kernel_rfl) Try.underlying4 rfl ⟨hx.os, hx.tape, hx.output, hx.size, hx.blk⟩⟩
set_option maxRecDepth 100000 in
theorem lifted (os : Os) (started : os.Started) (H : Type) (enc : TypeId × Value → H) (F : Stop.Interp) :
  ReturnsInHanded {} Try.checked os 7 .any ((Rows.OpenSpec.upto Rows.linkOnlySpec).pre6 enc Try.prog Try.f7 Rows.linkOnlyUptoRow.domain false) (((Rows.OpenSpec.upto Rows.linkOnlySpec).at F).post enc Try.prog Try.f7 false true false false) := by
 refine returnsInHanded_of_cond (C := Try.checked) (s := Rows.OpenSpec.upto Rows.linkOnlySpec) (k := Rows.uptoSmall) rfl own started (by kernel_rfl) Try.func7
  (OpenSpec.witness (enc := enc) (C := Try.checked) (s := Rows.OpenSpec.upto Rows.linkOnlySpec) (k := Rows.uptoSmall) rfl false ⟨#[], #[.agg #[.slice none 0 0, .slice none 0 0, .slice none 0 0], .slice none 0 0], []⟩ 8 (by kernel_rfl) (by kernel_rfl) (by kernel_rfl)
   (x := ([.agg [.nil, .nil, .nil], .nil], [], [])) (by kernel_rfl) rfl (by kernel_rfl)) ?_
 intro W base args ds gs before hval hW _ hk _
 exact contract H enc W base args ds gs before hval hW hk
theorem holds : Rows.LinkOnlyUptoSaid :=
 OpenClaim.holds_of_cond 7 Try.f7 rfl rfl rfl rfl rfl rfl rfl ⟨rfl, rfl, rfl, rfl, rfl⟩ rfl rfl rfl rfl rfl (by kernel_rfl) Try.func7 (by kernel_rfl)
  (of_decide_eq_true (by kernel_rfl)) (by unfold Func.isWrapper; first | (rw [if_pos (by decide +kernel)]; kernel_rfl) | (rw [if_neg (by decide +kernel)]; exact ⟨rfl, rfl⟩))
  (fun os started H enc _ F => lifted os started H enc F)
end LinkOnly
end Go.Proofs.Ythagpbkmakocjaa
