import Derived.Test.YthagpbkmakocjaaGreatCy14
import Derived.Test.YthagpbkmakocjaaGreatCy20
import Derived.Test.YthagpbkmakocjaaGreatCy23
namespace Go.Proofs.YthagpbkmakocjaaGreat
set_option linter.all false
open Go Go.Eng
theorem ZlR (x y : ByteArray) (v : Bool) : ∀ r : List (ByteArray × Bool), ZkC y (Zky x v r) = if x = y then some v else ZkC y r
 | [] => by
  unfold Zky ZkC
  by_cases h : x = y <;> simp [h, ZkC]
 | p :: r => by
  unfold Zky
  by_cases h : p.1 = x
  ·rw [show decide (p.1 = x) = true from decide_eq_true h]
   show ZkC y ((x, v) :: r) = _
   unfold ZkC
   by_cases h2 : x = y
   ·simp [h2]
   ·simp [h2, show ¬ p.1 = y from fun h3 => h2 (h.symm.trans h3)]
  ·rw [show decide (p.1 = x) = false from decide_eq_false h]
   show ZkC y (p :: Zky x v r) = _
   unfold ZkC
   rw [ZlR x y v r]
   by_cases h2 : p.1 = y
   ·simp [h2, show ¬ x = y from fun h3 => h (h2.trans h3.symm)]
   ·simp [h2]
theorem Zyx (x y : ByteArray) (r : List (ByteArray × Bool)) : lkM y (Zky x true r) = (decide (x = y) || lkM y r) := by
 unfold lkM
 rw [ZlR]
 by_cases h : x = y <;> simp [h]
def nmS (s : Scm) : List ByteArray := s.messages.map (·.name) ++ s.enums.map (·.name) ++ s.services.map (·.name)
def uF (x : ByteArray) (m : Msg) (d : Fld) : List ByteArray := if (decide (m.name = x) && (decide (d.type.kind = (10 : Int)) || decide (d.type.kind = (9 : Int)))) = true then [d.type.name] else []
def uM (x : ByteArray) (m : Msg) : List ByteArray := m.fields.flatMap (uF x m)
def uE (x : ByteArray) (v : Svc) (d : Mth) : List ByteArray := if decide (v.name = x) = true then [d.inn, d.out] else []
def uV (x : ByteArray) (v : Svc) : List ByteArray := v.methods.flatMap (uE x v)
def ZHj (s : Scm) (x : ByteArray) : List ByteArray := s.messages.flatMap (uM x) ++ s.services.flatMap (uV x)
open Classical in
def ZLK (s : Scm) : Nat := (s.messages.map fun m => m.fields.length).sum + (s.services.map fun v => 2 * v.methods.length).sum
inductive Cl (s : Scm) (ns : List ByteArray) : ByteArray → Prop
 | base {x : ByteArray} : x ∈ ns → Cl s ns x
 | step {x y : ByteArray} : Cl s ns x → y ∈ ZHj s x → y ∈ nmS s → Cl s ns y
theorem Cl.nm {s : Scm} {ns : List ByteArray} (h : ∀ x ∈ ns, x ∈ nmS s) {x : ByteArray} (hc : Cl s ns x) : x ∈ nmS s := by
 cases hc with
 | base hx => exact h _ hx
 | step _ _ hy => exact hy
theorem Cl.sub {s : Scm} {ns : List ByteArray} {P : ByteArray → Prop} (h1 : ∀ x ∈ ns, P x) (h2 : ∀ x, P x → ∀ y ∈ ZHj s x, y ∈ nmS s → P y) {x : ByteArray} (h : Cl s ns x) : P x := by
 induction h with
 | base h => exact h1 _ h
 | step _ hy hm ih => exact h2 _ ih _ hy hm
end Go.Proofs.YthagpbkmakocjaaGreat
namespace Go.Proofs.YthagpbkmakocjaaGreat
set_option linter.all false
open Go Go.Eng
theorem j25 (l k : List Msg) (h : l.length < 4611686018427387904) (ho : ∀ m ∈ l, OkM m) : ZaX l k = some (eqZ mP l k) := by
 have q2 : ∀ (v : Nat) (x y : Msg), OkM x → x.fields.length = y.fields.length → Zad (Zqh l k v x y) big 0 = some (if ZdQ fP x.fields y.fields = true then .inl () else .inr false) := fun v x y hm hl => ZbA x.fields y.fields fP () false hl (hN := hm.f) (he := by simp [Zqh, Zmx, vw]) (hs := by
   intro i d f hx hy
   obtain ⟨h1, e1⟩ := List.getElem?_eq_some_iff.1 hx
   obtain ⟨h3, e3⟩ := List.getElem?_eq_some_iff.1 hy
   have g0 := hm.f
   have g1 := Zcu hx
   have g2 : i + 1 < 9223372036854775808 := by omega
   have g3 := j72 d f (hm.d d (List.mem_of_getElem? hx))
   dsimp only [Zqh, Zmx, al, frt, stp, br, ix, ixi, vz, vy, vw, vs, vg, v2, lr, lrt, ln, lxe, lc, lf, lfe, ap, aq, a0, a1, ad, cl, cs, cf, wa, wi, ir, ca, cp, dd, mv, st, ss, sL, Bd.c, Bd.vl, clg, csg, cfg, sL, Bd.c, Bd.vl, mlk, mpu, mdl, mvm, ixg]
   simp only [g1, g2, hx, hy, decide_true, if_true, Option.bind_some]
   simp only [g3, Option.bind_some]
   cases fP d f <;> simp)
 have q3 : ∀ (v : Nat) (x y : Msg), OkM x → x.gone.length = y.gone.length → Zad (Zo8 l k v x y) big 0 = some (if ZdQ btP x.gone y.gone = true then .inl () else .inr false) := fun v x y hm hl => ZbA x.gone y.gone btP () false hl (hN := hm.g) (he := by simp [Zo8, ZmE, vw]) (hs := by
   intro i d f hx hy
   obtain ⟨h1, e1⟩ := List.getElem?_eq_some_iff.1 hx
   obtain ⟨h3, e3⟩ := List.getElem?_eq_some_iff.1 hy
   have g0 := hm.g
   have g1 := Zcu hx
   have g2 : i + 1 < 9223372036854775808 := by omega
   dsimp only [Zo8, ZmE, al, frt, stp, br, ix, ixi, vz, vy, vw, vs, vg, v2, lr, lrt, ln, lxe, lc, lf, lfe, ap, aq, a0, a1, ad, cl, cs, cf, wa, wi, ir, ca, cp, dd, mv, st, ss, sL, Bd.c, Bd.vl, clg, csg, cfg, sL, Bd.c, Bd.vl, mlk, mpu, mdl, mvm, ixg]
   simp only [g1, g2, hx, hy, decide_true, if_true, Option.bind_some]
   unfold btP
   by_cases q : d = f <;> simp [q])
 unfold ZaX
 rw [show eqZ mP l k = (decide (l.length = k.length) && ZdQ mP l k) from rfl]
 by_cases hl : l.length = k.length
 ·have hi : ((l.length : Int) = (k.length : Int)) = True := eq_true (by omega)
  have q1 : Zad (Zqn l k) big 0 = some (if ZdQ mP l k = true then .inl () else .inr false) := ZbA l k mP () false hl (hN := h) (he := by simp [Zqn, Zng, ZmI, Zol, ZnJ, Zn0, ix, vz, vs, lc]) (hs := by
   intro i x y hx hy
   have g1 := Zcu hx
   have g0 := (List.getElem?_eq_some_iff.1 hx).1
   have g2 : i + 1 < 9223372036854775808 := by omega
   have hm := ho x (List.mem_of_getElem? hx)
   have e1 := j70 x.reserved y.reserved hm.r
   have e2 := j71 x.notes y.notes hm.n
   have i2 : ((x.fields.length : Int) = (y.fields.length : Int)) = (x.fields.length = y.fields.length) := propext ⟨by omega, by omega⟩
   have i4 : ((x.gone.length : Int) = (y.gone.length : Int)) = (x.gone.length = y.gone.length) := propext ⟨by omega, by omega⟩
   dsimp only [Zqn, Zng, ZmI, Zol, ZnJ, Zn0, al, frt, stp, br, ix, ixi, vz, vy, vw, vs, vg, v2, lr, lrt, ln, lxe, lc, lf, lfe, ap, aq, a0, a1, ad, cl, cs, cf, wa, wi, ir, ca, cp, dd, mv, st, ss, sL, Bd.c, Bd.vl, clg, csg, cfg, sL, Bd.c, Bd.vl, mlk, mpu, mdl, mvm]
   simp only [g1, hx, hy, decide_true, if_true, Option.bind_some, Option.isSome_some, Option.getD_some, implies_true, e1, e2, i2, i4]
   rw [show mP x y = ((((decide (x.name = y.name) && (decide (x.fields.length = y.fields.length) && ZdQ fP x.fields y.fields)) && eqZ spP x.reserved y.reserved) && (decide (x.gone.length = y.gone.length) && ZdQ btP x.gone y.gone)) && eqZ nP x.notes y.notes) from rfl]
   generalize eqZ spP x.reserved y.reserved = s1
   generalize eqZ nP x.notes y.notes = s2
   by_cases c1 : x.name = y.name
   ·by_cases c2 : x.fields.length = y.fields.length
    ·by_cases c4 : x.gone.length = y.gone.length
     ·simp only [c1, c2, c4, q2 i x y hm c2, q3 i x y hm c4, decide_true, Bool.not_true, Bool.false_or, Bool.true_and]
      cases s1 <;> cases s2 <;> cases ZdQ fP x.fields y.fields <;> cases ZdQ btP x.gone y.gone <;> simp [g2]
     ·simp only [c1, c2, c4, decide_true, decide_false]
      cases s1 <;> simp
    ·simp only [c1, c2, decide_true, decide_false]
     simp
   ·simp only [c1, decide_false]
    simp)
  dsimp only [Zmx, ZmE, Zng, ZmI, Zol, ZnJ, Zn0, Zto, Ztv, Zlp, al, frt, stp, br, ix, ixi, vz, vy, vw, vs, vg, v2, lr, lrt, ln, lxe, lc, lf, lfe, ap, aq, a0, a1, ad, cl, cs, cf, wa, wi, ir, ca, cp, dd, mv, st, ss, sL, Bd.c, Bd.vl, clg, csg, cfg, sL, Bd.c, Bd.vl, mlk, mpu, mdl, mvm]
  rw [q1]
  simp only [hl, decide_true, Bool.not_true, Bool.false_eq_true, if_false, Option.bind_some, Bool.true_and]
  cases ZdQ mP l k <;> rfl
 ·have hi : ((l.length : Int) = (k.length : Int)) = False := eq_false (by omega)
  dsimp only [Zmx, ZmE, Zng, ZmI, Zol, ZnJ, Zn0, Zto, Ztv, Zlp, al, frt, stp, br, ix, ixi, vz, vy, vw, vs, vg, v2, lr, lrt, ln, lxe, lc, lf, lfe, ap, aq, a0, a1, ad, cl, cs, cf, wa, wi, ir, ca, cp, dd, mv, st, ss, sL, Bd.c, Bd.vl, clg, csg, cfg, sL, Bd.c, Bd.vl, mlk, mpu, mdl, mvm]
  simp only [hi, hl, decide_false, Bool.not_false, if_true, Bool.false_and]
theorem j27 (l k : List Enm) (h : l.length < 4611686018427387904) (ho : ∀ m ∈ l, OkE m) : Za9 l k = some (eqZ eP l k) := by
 have q2 : ∀ (v : Nat) (x y : Enm), OkE x → x.items.length = y.items.length → Zad (Zos l k v x y) big 0 = some (if ZdQ itP x.items y.items = true then .inl () else .inr false) := fun v x y hm hl => ZbA x.items y.items itP () false hl (hN := hm.i) (he := by simp [Zos, ZmX, vw]) (hs := by
   intro i d f hx hy
   obtain ⟨h1, e1⟩ := List.getElem?_eq_some_iff.1 hx
   obtain ⟨h3, e3⟩ := List.getElem?_eq_some_iff.1 hy
   have g0 := hm.i
   have g1 := Zcu hx
   have g2 : i + 1 < 9223372036854775808 := by omega
   have g3 := j71 d.notes f.notes (hm.d d (List.mem_of_getElem? hx))
   dsimp only [Zos, ZmX, al, frt, stp, br, ix, ixi, vz, vy, vw, vs, vg, v2, lr, lrt, ln, lxe, lc, lf, lfe, ap, aq, a0, a1, ad, cl, cs, cf, wa, wi, ir, ca, cp, dd, mv, st, ss, sL, Bd.c, Bd.vl, clg, csg, cfg, sL, Bd.c, Bd.vl, mlk, mpu, mdl, mvm, ixg]
   simp only [g1, g2, hx, hy, decide_true, if_true, Option.bind_some]
   unfold itP
   simp [h1, h3, e1, e3, g3, List.getD_eq_getElem?_getD]
   by_cases q1 : d.name = f.name <;> by_cases q2 : d.num = f.num <;> simp [q1, q2] <;> cases eqZ nP d.notes f.notes <;> simp)
 unfold Za9
 rw [show eqZ eP l k = (decide (l.length = k.length) && ZdQ eP l k) from rfl]
 by_cases hl : l.length = k.length
 ·have hi : ((l.length : Int) = (k.length : Int)) = True := eq_true (by omega)
  have q1 : Zad (ZpO l k) big 0 = some (if ZdQ eP l k = true then .inl () else .inr false) := ZbA l k eP () false hl (hN := h) (he := by simp [ZpO, Zm5, ZnT, Zn3, ix, vz, vs]) (hs := by
   intro i x y hx hy
   have g1 := Zcu hx
   have g0 := (List.getElem?_eq_some_iff.1 hx).1
   have g2 : i + 1 < 9223372036854775808 := by omega
   have hm := ho x (List.mem_of_getElem? hx)
   have e1 := j70 x.reserved y.reserved hm.r
   have e2 := j71 x.notes y.notes hm.n
   have i2 : ((x.items.length : Int) = (y.items.length : Int)) = (x.items.length = y.items.length) := propext ⟨by omega, by omega⟩
   dsimp only [ZpO, Zm5, ZnT, Zn3, al, frt, stp, br, ix, ixi, vz, vy, vw, vs, vg, v2, lr, lrt, ln, lxe, lc, lf, lfe, ap, aq, a0, a1, ad, cl, cs, cf, wa, wi, ir, ca, cp, dd, mv, st, ss, sL, Bd.c, Bd.vl, clg, csg, cfg, sL, Bd.c, Bd.vl, mlk, mpu, mdl, mvm]
   simp only [g1, hx, hy, decide_true, if_true, Option.bind_some, Option.isSome_some, Option.getD_some, implies_true, e1, e2, i2]
   rw [show eP x y = ((((decide (x.name = y.name) && (x.opn == y.opn)) && (decide (x.items.length = y.items.length) && ZdQ itP x.items y.items)) && eqZ spP x.reserved y.reserved) && eqZ nP x.notes y.notes) from rfl]
   generalize eqZ spP x.reserved y.reserved = s1
   generalize eqZ nP x.notes y.notes = s2
   generalize (x.opn == y.opn) = s3
   by_cases c1 : x.name = y.name
   ·by_cases c2 : x.items.length = y.items.length
    ·simp only [c1, c2, q2 i x y hm c2, decide_true, Bool.not_true, Bool.false_or, Bool.true_and]
     cases s1 <;> cases s2 <;> cases s3 <;> cases ZdQ itP x.items y.items <;> simp [g2]
    ·simp only [c1, c2, decide_true, decide_false]
     cases s3 <;> simp
   ·simp only [c1, decide_false]
    simp)
  dsimp only [ZmX, Zm5, ZnT, Zn3, Zsx, Ztz, ZtT, al, frt, stp, br, ix, ixi, vz, vy, vw, vs, vg, v2, lr, lrt, ln, lxe, lc, lf, lfe, ap, aq, a0, a1, ad, cl, cs, cf, wa, wi, ir, ca, cp, dd, mv, st, ss, sL, Bd.c, Bd.vl, clg, csg, cfg, sL, Bd.c, Bd.vl, mlk, mpu, mdl, mvm]
  rw [q1]
  simp only [hl, decide_true, Bool.not_true, Bool.false_eq_true, if_false, Option.bind_some, Bool.true_and]
  cases ZdQ eP l k <;> rfl
 ·have hi : ((l.length : Int) = (k.length : Int)) = False := eq_false (by omega)
  dsimp only [ZmX, Zm5, ZnT, Zn3, Zsx, Ztz, ZtT, al, frt, stp, br, ix, ixi, vz, vy, vw, vs, vg, v2, lr, lrt, ln, lxe, lc, lf, lfe, ap, aq, a0, a1, ad, cl, cs, cf, wa, wi, ir, ca, cp, dd, mv, st, ss, sL, Bd.c, Bd.vl, clg, csg, cfg, sL, Bd.c, Bd.vl, mlk, mpu, mdl, mvm]
  simp only [hi, hl, decide_false, Bool.not_false, if_true, Bool.false_and]
theorem j29 (l k : List Svc) (h : l.length < 4611686018427387904) (ho : ∀ m ∈ l, OkV m) : Za1 l k = some (eqZ svP l k) := by
 have q2 : ∀ (v : Nat) (x y : Svc), OkV x → x.methods.length = y.methods.length → Zad (Zqw l k v x y) big 0 = some (if ZdQ mtP x.methods y.methods = true then .inl () else .inr false) := fun v x y hm hl => ZbA x.methods y.methods mtP () false hl (hN := hm.m) (he := by simp [Zqw, ZmW, vw]) (hs := by
   intro i d f hx hy
   obtain ⟨h1, e1⟩ := List.getElem?_eq_some_iff.1 hx
   obtain ⟨h3, e3⟩ := List.getElem?_eq_some_iff.1 hy
   have g0 := hm.m
   have g1 := Zcu hx
   have g2 : i + 1 < 9223372036854775808 := by omega
   have g3 := j71 d.notes f.notes (hm.d d (List.mem_of_getElem? hx))
   dsimp only [Zqw, ZmW, al, frt, stp, br, ix, ixi, vz, vy, vw, vs, vg, v2, lr, lrt, ln, lxe, lc, lf, lfe, ap, aq, a0, a1, ad, cl, cs, cf, wa, wi, ir, ca, cp, dd, mv, st, ss, sL, Bd.c, Bd.vl, clg, csg, cfg, sL, Bd.c, Bd.vl, mlk, mpu, mdl, mvm, ixg]
   simp only [g1, g2, hx, hy, decide_true, if_true, Option.bind_some]
   unfold mtP
   simp only [g3, Option.isSome_some, Option.getD_some, implies_true, if_true]
   by_cases q1 : d.name = f.name <;> by_cases q2 : d.inn = f.inn <;> by_cases q3 : d.out = f.out <;> by_cases q4 : d.shape = f.shape <;> simp [q1, q2, q3, q4] <;> cases eqZ nP d.notes f.notes <;> simp)
 unfold Za1
 rw [show eqZ svP l k = (decide (l.length = k.length) && ZdQ svP l k) from rfl]
 by_cases hl : l.length = k.length
 ·have hi : ((l.length : Int) = (k.length : Int)) = True := eq_true (by omega)
  have q1 : Zad (ZoC l k) big 0 = some (if ZdQ svP l k = true then .inl () else .inr false) := ZbA l k svP () false hl (hN := h) (he := by simp [ZoC, Zno, ZmK, ZmH, ix, vz, vs]) (hs := by
   intro i x y hx hy
   have g1 := Zcu hx
   have g0 := (List.getElem?_eq_some_iff.1 hx).1
   have g2 : i + 1 < 9223372036854775808 := by omega
   have hm := ho x (List.mem_of_getElem? hx)
   have e2 := j71 x.notes y.notes hm.n
   have i2 : ((x.methods.length : Int) = (y.methods.length : Int)) = (x.methods.length = y.methods.length) := propext ⟨by omega, by omega⟩
   dsimp only [ZoC, Zno, ZmK, ZmH, al, frt, stp, br, ix, ixi, vz, vy, vw, vs, vg, v2, lr, lrt, ln, lxe, lc, lf, lfe, ap, aq, a0, a1, ad, cl, cs, cf, wa, wi, ir, ca, cp, dd, mv, st, ss, sL, Bd.c, Bd.vl, clg, csg, cfg, sL, Bd.c, Bd.vl, mlk, mpu, mdl, mvm]
   simp only [g1, hx, hy, decide_true, if_true, Option.bind_some, Option.isSome_some, Option.getD_some, implies_true, e2, i2]
   rw [show svP x y = ((decide (x.name = y.name) && (decide (x.methods.length = y.methods.length) && ZdQ mtP x.methods y.methods)) && eqZ nP x.notes y.notes) from rfl]
   generalize eqZ nP x.notes y.notes = s2
   by_cases c1 : x.name = y.name
   ·by_cases c2 : x.methods.length = y.methods.length
    ·simp only [c1, c2, q2 i x y hm c2, decide_true, Bool.not_true, Bool.false_or, Bool.true_and]
     cases s2 <;> cases ZdQ mtP x.methods y.methods <;> simp [g2]
    ·simp only [c1, c2, decide_true, decide_false]
     simp
   ·simp only [c1, decide_false]
    simp)
  dsimp only [ZmW, Zno, ZmK, ZmH, Zt7, Zsc, ZuL, al, frt, stp, br, ix, ixi, vz, vy, vw, vs, vg, v2, lr, lrt, ln, lxe, lc, lf, lfe, ap, aq, a0, a1, ad, cl, cs, cf, wa, wi, ir, ca, cp, dd, mv, st, ss, sL, Bd.c, Bd.vl, clg, csg, cfg, sL, Bd.c, Bd.vl, mlk, mpu, mdl, mvm]
  rw [q1]
  simp only [hl, decide_true, Bool.not_true, Bool.false_eq_true, if_false, Option.bind_some, Bool.true_and]
  cases ZdQ svP l k <;> rfl
 ·have hi : ((l.length : Int) = (k.length : Int)) = False := eq_false (by omega)
  dsimp only [ZmW, Zno, ZmK, ZmH, Zt7, Zsc, ZuL, al, frt, stp, br, ix, ixi, vz, vy, vw, vs, vg, v2, lr, lrt, ln, lxe, lc, lf, lfe, ap, aq, a0, a1, ad, cl, cs, cf, wa, wi, ir, ca, cp, dd, mv, st, ss, sL, Bd.c, Bd.vl, clg, csg, cfg, sL, Bd.c, Bd.vl, mlk, mpu, mdl, mvm]
  simp only [hi, hl, decide_false, Bool.not_false, if_true, Bool.false_and]
theorem ZjP {α : Type} {p : α → α → Bool} (h : ∀ x, p x x = true) : ∀ l : List α, ZdQ p l l = true
 | [] => rfl
 | x :: l => by
  have := ZjP h l
  unfold ZdQ at this ⊢
  rw [List.zip_cons_cons, List.all_cons, h, this]
  rfl
theorem Zby {α : Type} {p : α → α → Bool} (h : ∀ x, p x x = true) (l : List α) : eqZ p l l = true := by
 unfold eqZ
 rw [ZjP h]
 simp
theorem Zfh (x : Nt) : nP x x = true := by simp [nP, vP]
theorem ZCe (x : Fld) : fP x x = true := by simp [fP, vP, Zby Zfh]
theorem ZyX (x : Msg) : mP x x = true := by simp [mP, Zby Zfh, Zby ZCe, Zby (p := spP) (fun x => by simp [spP]), Zby (p := btP) (fun x => by simp [btP])]
theorem ZrM (x : Itm) : itP x x = true := by simp [itP, Zby Zfh]
theorem Zxd (x : Enm) : eP x x = true := by simp [eP, Zby Zfh, Zby ZrM, Zby (p := spP) (fun x => by simp [spP])]
theorem ZsE (x : Mth) : mtP x x = true := by simp [mtP, Zby Zfh]
theorem ZsW (x : Svc) : svP x x = true := by simp [svP, Zby Zfh, Zby ZsE]
theorem f26 (s : Scm) (x : ByteArray) (h : s.messages.length < 4611686018427387904) : ZaW s x = some (match s.messages.find? (fun m => decide (m.name = x)) with | some m => [m] | none => []) := by
 unfold ZaW
 dsimp only [ZzZ, ZzR, ZwX, al, frt, stp, br, ix, ixi, vz, vy, vw, vs, vg, v2, lr, lrt, ln, lxe, lc, lf, lfe, ap, aq, a0, a1, ad, cl, cs, cf, wa, wi, ir, ca, cp, dd, mv, st, ss, sL, Bd.c, Bd.vl, clg, csg, cfg, sL, Bd.c, Bd.vl, mlk, mpu, mdl, mvm]
 rw [ZcE s.messages (fun m => decide (m.name = x)) (fun i => (s.messages.take (i + 1)).drop i) () (hN := ZaP h) (he := by simp [Zs0, Zrk, vw, Bd.vl, Bd.vl]) (hs := by
  intro i y hy
  obtain ⟨h1, rfl⟩ := List.getElem?_eq_some_iff.1 hy
  have h2 : i + 1 < 9223372036854775808 := by omega
  have h3 : i + 1 ≤ s.messages.length := by omega
  simp [Zs0, Zrk, vw, Bd.c, Bd.vl, Bd.c, Bd.vl, h1, h2, h3]
  split <;> simp [List.drop_take])]
 cases hf : s.messages.findIdx? fun m => decide (m.name = x) with
 | none =>
  rw [List.find?_eq_none.2 fun m hm => by rw [List.findIdx?_eq_none_iff.1 hf m hm]; simp]
  rfl
 | some i =>
  obtain ⟨h1, h2, h3⟩ := List.findIdx?_eq_some_iff_getElem.1 hf
  have : s.messages.find? (fun m => decide (m.name = x)) = some s.messages[i] := List.find?_eq_some_iff_getElem.2 ⟨h2, i, h1, rfl, fun j hj => by simpa using h3 j hj⟩
  rw [this]
  simp only [Option.bind_some, Sum.elim_inr]
  rw [List.take_succ_eq_append_getElem h1, List.drop_append_of_le_length (by rw [List.length_take]; omega)]
  simp
theorem f28 (s : Scm) (x : ByteArray) (h : s.enums.length < 4611686018427387904) : Zbc s x = some (match s.enums.find? (fun m => decide (m.name = x)) with | some m => [m] | none => []) := by
 unfold Zbc
 dsimp only [ZxJ, ZCb, ZxF, al, frt, stp, br, ix, ixi, vz, vy, vw, vs, vg, v2, lr, lrt, ln, lxe, lc, lf, lfe, ap, aq, a0, a1, ad, cl, cs, cf, wa, wi, ir, ca, cp, dd, mv, st, ss, sL, Bd.c, Bd.vl, clg, csg, cfg, sL, Bd.c, Bd.vl, mlk, mpu, mdl, mvm]
 rw [ZcE s.enums (fun m => decide (m.name = x)) (fun i => (s.enums.take (i + 1)).drop i) () (hN := ZaP h) (he := by simp [ZtO, Zss, vw, Bd.vl, Bd.vl]) (hs := by
  intro i y hy
  obtain ⟨h1, rfl⟩ := List.getElem?_eq_some_iff.1 hy
  have h2 : i + 1 < 9223372036854775808 := by omega
  have h3 : i + 1 ≤ s.enums.length := by omega
  simp [ZtO, Zss, vw, Bd.c, Bd.vl, Bd.c, Bd.vl, h1, h2, h3]
  split <;> simp [List.drop_take])]
 cases hf : s.enums.findIdx? fun m => decide (m.name = x) with
 | none =>
  rw [List.find?_eq_none.2 fun m hm => by rw [List.findIdx?_eq_none_iff.1 hf m hm]; simp]
  rfl
 | some i =>
  obtain ⟨h1, h2, h3⟩ := List.findIdx?_eq_some_iff_getElem.1 hf
  have : s.enums.find? (fun m => decide (m.name = x)) = some s.enums[i] := List.find?_eq_some_iff_getElem.2 ⟨h2, i, h1, rfl, fun j hj => by simpa using h3 j hj⟩
  rw [this]
  simp only [Option.bind_some, Sum.elim_inr]
  rw [List.take_succ_eq_append_getElem h1, List.drop_append_of_le_length (by rw [List.length_take]; omega)]
  simp
theorem f30 (s : Scm) (x : ByteArray) (h : s.services.length < 4611686018427387904) : ZaZ s x = some (match s.services.find? (fun m => decide (m.name = x)) with | some m => [m] | none => []) := by
 unfold ZaZ
 dsimp only [Zxt, Zyn, ZAE, al, frt, stp, br, ix, ixi, vz, vy, vw, vs, vg, v2, lr, lrt, ln, lxe, lc, lf, lfe, ap, aq, a0, a1, ad, cl, cs, cf, wa, wi, ir, ca, cp, dd, mv, st, ss, sL, Bd.c, Bd.vl, clg, csg, cfg, sL, Bd.c, Bd.vl, mlk, mpu, mdl, mvm]
 rw [ZcE s.services (fun m => decide (m.name = x)) (fun i => (s.services.take (i + 1)).drop i) () (hN := ZaP h) (he := by simp [Zsl, ZtS, vw, Bd.vl, Bd.vl]) (hs := by
  intro i y hy
  obtain ⟨h1, rfl⟩ := List.getElem?_eq_some_iff.1 hy
  have h2 : i + 1 < 9223372036854775808 := by omega
  have h3 : i + 1 ≤ s.services.length := by omega
  simp [Zsl, ZtS, vw, Bd.c, Bd.vl, Bd.c, Bd.vl, h1, h2, h3]
  split <;> simp [List.drop_take])]
 cases hf : s.services.findIdx? fun m => decide (m.name = x) with
 | none =>
  rw [List.find?_eq_none.2 fun m hm => by rw [List.findIdx?_eq_none_iff.1 hf m hm]; simp]
  rfl
 | some i =>
  obtain ⟨h1, h2, h3⟩ := List.findIdx?_eq_some_iff_getElem.1 hf
  have : s.services.find? (fun m => decide (m.name = x)) = some s.services[i] := List.find?_eq_some_iff_getElem.2 ⟨h2, i, h1, rfl, fun j hj => by simpa using h3 j hj⟩
  rw [this]
  simp only [Option.bind_some, Sum.elim_inr]
  rw [List.take_succ_eq_append_getElem h1, List.drop_append_of_le_length (by rw [List.length_take]; omega)]
  simp
structure SzO (s : Scm) (ns : List ByteArray) : Prop where
 n : ns.length ≤ 1048576
 m : s.messages.length ≤ 1048576
 e : s.enums.length ≤ 1048576
 v : s.services.length ≤ 1048576
 f : ∀ m ∈ s.messages, m.fields.length ≤ 1048576
 d : ∀ v ∈ s.services, v.methods.length ≤ 1048576
 t : ZLK s ≤ 4194304
def Znb (r : List (ByteArray × Bool)) (l : List ByteArray) : List (ByteArray × Bool) := l.foldl (fun r x => Zky x true r) r
theorem ZfL (r : List (ByteArray × Bool)) (l k : List ByteArray) : Znb r (l ++ k) = Znb (Znb r l) k := List.foldl_append
theorem Zpm (y : ByteArray) : ∀ (l : List ByteArray) (r : List (ByteArray × Bool)), lkM y (Znb r l) = true ↔ y ∈ l ∨ lkM y r = true
 | [], r => by simp [Znb]
 | x :: l, r => by
  show lkM y (Znb (Zky x true r) l) = true ↔ _
  rw [Zpm y l, Zyx]
  simp only [List.mem_cons, Bool.or_eq_true, decide_eq_true_eq]
  constructor
  ·rintro (h | h | h)
   ·exact .inl (.inr h)
   ·exact .inl (.inl h.symm)
   ·exact .inr h
  ·rintro ((h | h) | h)
   ·exact .inr (.inl h.symm)
   ·exact .inl h
   ·exact .inr (.inr h)
def Zvu (s : Scm) : List (ByteArray × Bool) := Znb [] (nmS s)
theorem ZxU (s : Scm) (y : ByteArray) : lkM y (Zvu s) = true ↔ y ∈ nmS s := by
 unfold Zvu
 rw [Zpm]
 simp [lkM, ZkC, Mv.z]
theorem j40 (s : Scm) {ns : List ByteArray} (h : SzO s ns) : Zfc s = some (Zvu s) := by
 have q1 : ∀ r, Zad (Zm8 s) big (0, r) = some (.inl (Znb r (s.messages.map (·.name)))) := fun r => by
  have := Zcm (B := Zm8 s) (N := big) s.messages (fun p => Znb r (p.map (·.name))) (fun i b => (i, b)) id (hN := ZaP (by have := h.m; omega)) (he := by simp [Zm8, ZtF, br]) (hs := fun i x hx => by
   have g1 := Zcu hx
   have g0 := (List.getElem?_eq_some_iff.1 hx).1
   have g3 := h.m
   have g2 : i + 1 < 9223372036854775808 := by omega
   dsimp only [Zm8, ZtF, al, frt, stp, br, ix, ixi, vz, vy, vw, vs, vg, v2, lr, lrt, ln, lxe, lc, lf, lfe, ap, aq, a0, a1, ad, cl, cs, cf, wa, wi, ir, ca, cp, dd, mv, st, ss, sL, Bd.c, Bd.vl, mlk, mpu, mdl, mvm, rb, cr, tro, ch]
   simp only [g1, g2, hx, decide_true, if_true, Option.bind_some, List.map_append, List.map_cons, List.map_nil, ZfL]
   rfl)
  exact this
 have q2 : ∀ r, Zad (Zmz s) big (0, r) = some (.inl (Znb r (s.enums.map (·.name)))) := fun r => by
  have := Zcm (B := Zmz s) (N := big) s.enums (fun p => Znb r (p.map (·.name))) (fun i b => (i, b)) id (hN := ZaP (by have := h.e; omega)) (he := by simp [Zmz, ZrF, br]) (hs := fun i x hx => by
   have g1 := Zcu hx
   have g0 := (List.getElem?_eq_some_iff.1 hx).1
   have g3 := h.e
   have g2 : i + 1 < 9223372036854775808 := by omega
   dsimp only [Zmz, ZrF, al, frt, stp, br, ix, ixi, vz, vy, vw, vs, vg, v2, lr, lrt, ln, lxe, lc, lf, lfe, ap, aq, a0, a1, ad, cl, cs, cf, wa, wi, ir, ca, cp, dd, mv, st, ss, sL, Bd.c, Bd.vl, mlk, mpu, mdl, mvm, rb, cr, tro, ch]
   simp only [g1, g2, hx, decide_true, if_true, Option.bind_some, List.map_append, List.map_cons, List.map_nil, ZfL]
   rfl)
  exact this
 have q3 : ∀ r, Zad (Zoa s) big (0, r) = some (.inl (Znb r (s.services.map (·.name)))) := fun r => by
  have := Zcm (B := Zoa s) (N := big) s.services (fun p => Znb r (p.map (·.name))) (fun i b => (i, b)) id (hN := ZaP (by have := h.v; omega)) (he := by simp [Zoa, Zru, br]) (hs := fun i x hx => by
   have g1 := Zcu hx
   have g0 := (List.getElem?_eq_some_iff.1 hx).1
   have g3 := h.v
   have g2 : i + 1 < 9223372036854775808 := by omega
   dsimp only [Zoa, Zru, al, frt, stp, br, ix, ixi, vz, vy, vw, vs, vg, v2, lr, lrt, ln, lxe, lc, lf, lfe, ap, aq, a0, a1, ad, cl, cs, cf, wa, wi, ir, ca, cp, dd, mv, st, ss, sL, Bd.c, Bd.vl, mlk, mpu, mdl, mvm, rb, cr, tro, ch]
   simp only [g1, g2, hx, decide_true, if_true, Option.bind_some, List.map_append, List.map_cons, List.map_nil, ZfL]
   rfl)
  exact this
 unfold Zfc
 dsimp only [Zx3, Zyv, ZyD, Zzu, Zyz, al, frt, stp, br, ix, ixi, vz, vy, vw, vs, vg, v2, lr, lrt, ln, lxe, lc, lf, lfe, ap, aq, a0, a1, ad, cl, cs, cf, wa, wi, ir, ca, cp, dd, mv, st, ss, sL, Bd.c, Bd.vl, mlk, mpu, mdl, mvm, rb, cr, tro, ch]
 simp only [q1, q2, q3, Option.bind_some, Sum.elim_inl, Zvu, nmS, ZfL]
theorem j44 (s : Scm) {ns : List ByteArray} (h : SzO s ns) : Zbk s = some (nmS s) := by
 have q1 : ∀ r : List ByteArray, r.length ≤ 2097152 → Zad (ZnC s) big (r, 0) = some (.inl (r ++ s.messages.map (·.name))) := fun r hr => by
  have := Zcm (B := ZnC s) (N := big) s.messages (fun p => r ++ p.map (·.name)) (fun i b => (b, i)) id (hN := ZaP (by have := h.m; omega)) (he := by simp [ZnC, Zqt, br]) (hs := fun i x hx => by
   have g1 := Zcu hx
   have g0 := (List.getElem?_eq_some_iff.1 hx).1
   have g3 := h.m
   have g2 : i + 1 < 9223372036854775808 := by omega
   have g4 : (r ++ (s.messages.take i).map (·.name)).length < 549755813887 := by rw [List.length_append, List.length_map, List.length_take]; omega
   dsimp only [ZnC, Zqt, al, frt, stp, br, ix, ixi, vz, vy, vw, vs, vg, v2, lr, lrt, ln, lxe, lc, lf, lfe, ap, aq, a0, a1, ad, cl, cs, cf, wa, wi, ir, ca, cp, dd, mv, st, ss, sL, Bd.c, Bd.vl, mlk, mpu, mdl, mvm, rb, cr, tro, ch]
   simp only [g1, g2, g4, hx, decide_true, if_true, Option.bind_some, List.map_append, List.map_cons, List.map_nil, List.append_assoc])
  simpa using this
 have q2 : ∀ r : List ByteArray, r.length ≤ 2097152 → Zad (ZnH s) big (r, 0) = some (.inl (r ++ s.enums.map (·.name))) := fun r hr => by
  have := Zcm (B := ZnH s) (N := big) s.enums (fun p => r ++ p.map (·.name)) (fun i b => (b, i)) id (hN := ZaP (by have := h.e; omega)) (he := by simp [ZnH, ZqZ, br]) (hs := fun i x hx => by
   have g1 := Zcu hx
   have g0 := (List.getElem?_eq_some_iff.1 hx).1
   have g3 := h.e
   have g2 : i + 1 < 9223372036854775808 := by omega
   have g4 : (r ++ (s.enums.take i).map (·.name)).length < 549755813887 := by rw [List.length_append, List.length_map, List.length_take]; omega
   dsimp only [ZnH, ZqZ, al, frt, stp, br, ix, ixi, vz, vy, vw, vs, vg, v2, lr, lrt, ln, lxe, lc, lf, lfe, ap, aq, a0, a1, ad, cl, cs, cf, wa, wi, ir, ca, cp, dd, mv, st, ss, sL, Bd.c, Bd.vl, mlk, mpu, mdl, mvm, rb, cr, tro, ch]
   simp only [g1, g2, g4, hx, decide_true, if_true, Option.bind_some, List.map_append, List.map_cons, List.map_nil, List.append_assoc])
  simpa using this
 have q3 : ∀ r : List ByteArray, r.length ≤ 2097152 → Zad (ZmD s) big (r, 0) = some (.inl (r ++ s.services.map (·.name))) := fun r hr => by
  have := Zcm (B := ZmD s) (N := big) s.services (fun p => r ++ p.map (·.name)) (fun i b => (b, i)) id (hN := ZaP (by have := h.v; omega)) (he := by simp [ZmD, ZoZ, br]) (hs := fun i x hx => by
   have g1 := Zcu hx
   have g0 := (List.getElem?_eq_some_iff.1 hx).1
   have g3 := h.v
   have g2 : i + 1 < 9223372036854775808 := by omega
   have g4 : (r ++ (s.services.take i).map (·.name)).length < 549755813887 := by rw [List.length_append, List.length_map, List.length_take]; omega
   dsimp only [ZmD, ZoZ, al, frt, stp, br, ix, ixi, vz, vy, vw, vs, vg, v2, lr, lrt, ln, lxe, lc, lf, lfe, ap, aq, a0, a1, ad, cl, cs, cf, wa, wi, ir, ca, cp, dd, mv, st, ss, sL, Bd.c, Bd.vl, mlk, mpu, mdl, mvm, rb, cr, tro, ch]
   simp only [g1, g2, g4, hx, decide_true, if_true, Option.bind_some, List.map_append, List.map_cons, List.map_nil, List.append_assoc])
  simpa using this
 have g1 := h.m
 have g2 := h.e
 have e1 := q1 [] (by simp)
 rw [List.nil_append] at e1
 unfold Zbk
 dsimp only [Zq0, Zq5, Zo7, ZoA, ZqC, Zq1, al, frt, stp, br, ix, ixi, vz, vy, vw, vs, vg, v2, lr, lrt, ln, lxe, lc, lf, lfe, ap, aq, a0, a1, ad, cl, cs, cf, wa, wi, ir, ca, cp, dd, mv, st, ss, sL, Bd.c, Bd.vl, mlk, mpu, mdl, mvm, rb, cr, tro, ch]
 rw [e1]
 dsimp only [Option.bind_some, Sum.elim_inl, Zq0, Zq5, Zo7, ZoA, ZqC, Zq1, al, frt, stp, br, ix, ixi, vz, vy, vw, vs, vg, v2, lr, lrt, ln, lxe, lc, lf, lfe, ap, aq, a0, a1, ad, cl, cs, cf, wa, wi, ir, ca, cp, dd, mv, st, ss, sL, Bd.c, Bd.vl, mlk, mpu, mdl, mvm, rb, cr, tro, ch]
 rw [q2 _ (by rw [List.length_map]; omega)]
 dsimp only [Option.bind_some, Sum.elim_inl, Zqt, ZqZ, ZoZ, Zq0, Zq5, Zo7, ZoA, ZqC, Zq1, al, frt, stp, br, ix, ixi, vz, vy, vw, vs, vg, v2, lr, lrt, ln, lxe, lc, lf, lfe, ap, aq, a0, a1, ad, cl, cs, cf, wa, wi, ir, ca, cp, dd, mv, st, ss, sL, Bd.c, Bd.vl, mlk, mpu, mdl, mvm, rb, cr, tro, ch]
 rw [q3 _ (by rw [List.length_append, List.length_map, List.length_map]; omega)]
 rfl
theorem j45 (l : List ByteArray) (x : ByteArray) (h : l.length < 4611686018427387904) : ZbX l x = some (l.any fun y => decide (y = x)) := by
 unfold ZbX
 simp only [Zxv, Zz8, ZBY, lr, lc, lf]
 rw [ZcE l (fun y => decide (y = x)) (fun _ => true) () (hN := ZaP h) (he := by simp [ZtU, Zuu, vz]) (hs := by
  intro i y hy
  obtain ⟨h1, rfl⟩ := List.getElem?_eq_some_iff.1 hy
  have h2 : i + 1 < 9223372036854775808 := by omega
  simp [ZtU, Zuu, vz, h1, h2]
  split <;> rfl)]
 rw [← List.findIdx?_isSome]
 cases l.findIdx? _ <;> rfl
theorem j75 (l : List Msg) (h : l.length < 549755813888) : Zcj l = some l := by
 unfold Zcj
 simp only [ZyA, al, Bool.false_eq_true, if_false, h, if_true]
theorem j26 (l : List Enm) (h : l.length < 549755813888) : ZcC l = some l := by
 unfold ZcC
 simp only [ZAv, al, Bool.false_eq_true, if_false, h, if_true]
theorem j80 (l : List Svc) (h : l.length < 549755813888) : Zco l = some l := by
 unfold Zco
 simp only [Zzx, al, Bool.false_eq_true, if_false, h, if_true]
end Go.Proofs.YthagpbkmakocjaaGreat
namespace Go.Proofs.YthagpbkmakocjaaGreat
set_option linter.all false
open Go Go.Eng
def ixQ {α : Type} (l : List α) (p : α → Bool) : Int := match l.findIdx? p with
 | some i => (i : Int)
 | none => -1
section
variable {α : Type}
def fnd (nm : α → ByteArray) (a : List α) (x : α) : Option α := a.find? fun z => decide (nm z = nm x)
def Zeq (nm : α → ByteArray) (p : α → α → Bool) (K : List ByteArray) (a : List α) (x : α) : Bool := match fnd nm a x with
 | some z => !p z x
 | none => K.any fun y => decide (y = nm x)
def Zdy (nm : α → ByteArray) (a b : List α) : List α := a ++ b.filter fun x => (fnd nm a x).isNone
theorem ZbE (nm : α → ByteArray) (a b : List α) : (Zdy nm a b).length ≤ a.length + b.length := by
 unfold Zdy
 rw [List.length_append]
 have := List.length_filter_le (fun x => (fnd nm a x).isNone) b
 omega
theorem Zim {nm : α → ByteArray} {a b : List α} {x : α} (h : x ∈ Zdy nm a b) : x ∈ a ∨ x ∈ b := by
 unfold Zdy at h
 exact (List.mem_append.1 h).elim .inl fun h => .inr (List.mem_filter.1 h).1
theorem Zdo (nm : α → ByteArray) (a p : List α) (x : α) : Zdy nm a (p ++ [x]) = Zdy nm a p ++ (if (fnd nm a x).isNone = true then [x] else []) := by
 unfold Zdy
 rw [List.filter_append, List.filter_cons, List.filter_nil, List.append_assoc]
theorem Zek (nm : α → ByteArray) (a : List α) : Zdy nm a [] = a := by simp [Zdy]
theorem Zio {nm : α → ByteArray} {a : List α} {x : α} (h : a.findIdx? (fun z => decide (nm z = nm x)) = none) : fnd nm a x = none := by
 unfold fnd
 exact List.find?_eq_none.2 fun m hm => by rw [List.findIdx?_eq_none_iff.1 h m hm]; simp
theorem Zic {nm : α → ByteArray} {a : List α} {x : α} {i : Nat} (h : a.findIdx? (fun z => decide (nm z = nm x)) = some i) : ∃ h1 : i < a.length, fnd nm a x = some a[i] := by
 obtain ⟨h1, h2, h3⟩ := List.findIdx?_eq_some_iff_getElem.1 h
 exact ⟨h1, List.find?_eq_some_iff_getElem.2 ⟨h2, i, h1, rfl, fun j hj => by simpa using h3 j hj⟩⟩
theorem ZbV {ρ : Type} (bad : α → Bool) (z : ρ) : ∀ (l p : List α), Zd9 (fun _ x => if bad x = true then some z else none) p l = if l.any bad = true then some z else none
 | [], p => rfl
 | x :: l, p => by
  rw [Zd9]
  cases h : bad x with
  | true => simp [h]
  | false =>
   simp only [h, Bool.false_eq_true, if_false, List.any_cons, Bool.false_or]
   exact ZbV bad z l _
end
theorem j47 (l : List Msg) (f : Msg → Option Bool) (p : Msg → Bool) (hf : ∀ x ∈ l, f x = some (p x)) (h : l.length < 4611686018427387904) : ZbD l f = some (ixQ l p) := by
 unfold ZbD
 simp only [ZBs, Zze, Zxm, vz, lr, lc, lf]
 rw [ZcE l p (fun i => (i : Int)) () (hN := ZaP h) (he := by simp [Zum, ZtG, br]) (hs := by
  intro i y hy
  obtain ⟨h1, rfl⟩ := List.getElem?_eq_some_iff.1 hy
  have h2 : i + 1 < 9223372036854775808 := by omega
  have h3 := hf l[i] (List.mem_of_getElem? hy)
  simp [Zum, ZtG, br, h1, h2, h3]
  cases p l[i] <;> rfl)]
 unfold ixQ
 cases l.findIdx? _ <;> rfl
theorem j13 (a b : List Msg) (h : List (ByteArray × Bool)) (K : List ByteArray) (hk : ∀ y, lkM y h = K.any fun z => decide (z = y)) (hl : a.length + b.length ≤ 1048576) (ho : ∀ m ∈ a, OkM m) :
  Zbp a b h = some (if b.any (Zeq (fun m => m.name) mP K a) = true then (false, []) else (true, Zdy (fun m => m.name) a b)) := by
 have q1 : Zad (Zoe a b h) big (a, 0) = some ((Zd9 (fun _ x => if Zeq (fun m => m.name) mP K a x = true then some ((false, []) : Bool × List Msg) else none) [] b).elim (.inl (Zdy (fun m => m.name) a b)) .inr) := by
  have := ZdF (B := Zoe a b h) (N := big) b (fun p => Zdy (fun m => m.name) a p) (fun _ x => if Zeq (fun m => m.name) mP K a x = true then some ((false, []) : Bool × List Msg) else none) (fun i c => (c, i)) id (hN := ZaP (by omega)) (he := by simp [Zoe, ZtX, br]) (hs := fun i x hx => by
   have g1 := Zcu hx
   have g0 := (List.getElem?_eq_some_iff.1 hx).1
   have g2 : i + 1 < 9223372036854775808 := by omega
   have g3 := j47 a (fun z0 => Zbe z0 x) (fun z => decide (z.name = x.name)) (fun z _ => rfl) (by omega)
   have g4 : (Zdy (fun m : Msg => m.name) a (b.take i)).length < 549755813887 := by
    have := ZbE (fun m : Msg => m.name) a (b.take i)
    rw [List.length_take] at this
    omega
   have g5 : ZeS x = some x.name := rfl
   rw [Zdo]
   dsimp only [Zoe, ZtX, al, frt, stp, br, ix, ixi, vz, vy, vw, vs, vg, v2, lr, lrt, ln, lxe, lc, lf, lfe, ap, aq, a0, a1, ad, cl, cs, cf, wa, wi, ir, ca, cp, dd, mv, st, ss, sL, Bd.c, Bd.vl, clg, csg, cfg, sL, Bd.c, Bd.vl, mlk, mpu, mdl, mvm, mlg, ixg, tw, du, lxc, lrt]
   simp only [g1, g2, g3, g4, g5, hx, decide_true, if_true, Option.bind_some]
   unfold Zeq
   cases hf : a.findIdx? fun z => decide (z.name = x.name) with
   | none =>
    have e1 : ixQ a (fun z => decide (z.name = x.name)) = -1 := by unfold ixQ; rw [hf]
    rw [Zio (nm := fun m : Msg => m.name) hf, e1]
    simp [hk]
    try (split <;> simp_all)
   | some j =>
    have e1 : ixQ a (fun z => decide (z.name = x.name)) = (j : Int) := by unfold ixQ; rw [hf]
    obtain ⟨hj, e2⟩ := Zic (nm := fun m : Msg => m.name) hf
    have e3 := j15 a[j] x (ho _ (List.getElem_mem hj))
    rw [e2, e1]
    have b1 : (0 : Int) ≤ (j : Int) := by omega
    have b2 : (j : Int) < (a.length : Int) := by omega
    have b3 : ¬ (j : Int) < 0 := by omega
    simp [b1, b2, b3, hj, e3, List.getD_eq_getElem?_getD]
    cases mP a[j] x <;> simp)
  rw [Zek] at this
  exact this
 rw [ZbV] at q1
 unfold Zbp
 dsimp only [ZBr, Zxz, Zs1, Zuc, al, frt, stp, br, ix, ixi, vz, vy, vw, vs, vg, v2, lr, lrt, ln, lxe, lc, lf, lfe, ap, aq, a0, a1, ad, cl, cs, cf, wa, wi, ir, ca, cp, dd, mv, st, ss, sL, Bd.c, Bd.vl, clg, csg, cfg, sL, Bd.c, Bd.vl, mlk, mpu, mdl, mvm, mlg, ixg, tw, du, lxc, lrt]
 rw [j75 a (by omega)]
 dsimp only [Option.bind_some, Zs1, Zuc, al, frt, stp, br, ix, ixi, vz, vy, vw, vs, vg, v2, lr, lrt, ln, lxe, lc, lf, lfe, ap, aq, a0, a1, ad, cl, cs, cf, wa, wi, ir, ca, cp, dd, mv, st, ss, sL, Bd.c, Bd.vl, clg, csg, cfg, sL, Bd.c, Bd.vl, mlk, mpu, mdl, mvm, mlg, ixg, tw, du, lxc, lrt]
 rw [q1]
 by_cases hb : b.any (Zeq (fun m => m.name) mP K a) = true
 ·rw [if_pos hb, if_pos hb]
  rfl
 ·rw [if_neg hb, if_neg hb]
  rfl
theorem j54 (l : List Enm) (f : Enm → Option Bool) (p : Enm → Bool) (hf : ∀ x ∈ l, f x = some (p x)) (h : l.length < 4611686018427387904) : ZbK l f = some (ixQ l p) := by
 unfold ZbK
 simp only [ZBl, Zxk, ZzC, vz, lr, lc, lf]
 rw [ZcE l p (fun i => (i : Int)) () (hN := ZaP h) (he := by simp [Zug, Ztj, br]) (hs := by
  intro i y hy
  obtain ⟨h1, rfl⟩ := List.getElem?_eq_some_iff.1 hy
  have h2 : i + 1 < 9223372036854775808 := by omega
  have h3 := hf l[i] (List.mem_of_getElem? hy)
  simp [Zug, Ztj, br, h1, h2, h3]
  cases p l[i] <;> rfl)]
 unfold ixQ
 cases l.findIdx? _ <;> rfl
theorem j16 (a b : List Enm) (h : List (ByteArray × Bool)) (K : List ByteArray) (hk : ∀ y, lkM y h = K.any fun z => decide (z = y)) (hl : a.length + b.length ≤ 1048576) (ho : ∀ m ∈ a, OkE m) :
  ZbY a b h = some (if b.any (Zeq (fun m => m.name) eP K a) = true then (false, []) else (true, Zdy (fun m => m.name) a b)) := by
 have q1 : Zad (ZmC a b h) big (a, 0) = some ((Zd9 (fun _ x => if Zeq (fun m => m.name) eP K a x = true then some ((false, []) : Bool × List Enm) else none) [] b).elim (.inl (Zdy (fun m => m.name) a b)) .inr) := by
  have := ZdF (B := ZmC a b h) (N := big) b (fun p => Zdy (fun m => m.name) a p) (fun _ x => if Zeq (fun m => m.name) eP K a x = true then some ((false, []) : Bool × List Enm) else none) (fun i c => (c, i)) id (hN := ZaP (by omega)) (he := by simp [ZmC, Zso, br]) (hs := fun i x hx => by
   have g1 := Zcu hx
   have g0 := (List.getElem?_eq_some_iff.1 hx).1
   have g2 : i + 1 < 9223372036854775808 := by omega
   have g3 := j54 a (fun z0 => ZbF z0 x) (fun z => decide (z.name = x.name)) (fun z _ => rfl) (by omega)
   have g4 : (Zdy (fun m : Enm => m.name) a (b.take i)).length < 549755813887 := by
    have := ZbE (fun m : Enm => m.name) a (b.take i)
    rw [List.length_take] at this
    omega
   have g5 : ZeT x = some x.name := rfl
   rw [Zdo]
   dsimp only [ZmC, Zso, al, frt, stp, br, ix, ixi, vz, vy, vw, vs, vg, v2, lr, lrt, ln, lxe, lc, lf, lfe, ap, aq, a0, a1, ad, cl, cs, cf, wa, wi, ir, ca, cp, dd, mv, st, ss, sL, Bd.c, Bd.vl, clg, csg, cfg, sL, Bd.c, Bd.vl, mlk, mpu, mdl, mvm, mlg, ixg, tw, du, lxc, lrt]
   simp only [g1, g2, g3, g4, g5, hx, decide_true, if_true, Option.bind_some]
   unfold Zeq
   cases hf : a.findIdx? fun z => decide (z.name = x.name) with
   | none =>
    have e1 : ixQ a (fun z => decide (z.name = x.name)) = -1 := by unfold ixQ; rw [hf]
    rw [Zio (nm := fun m : Enm => m.name) hf, e1]
    simp [hk]
    try (split <;> simp_all)
   | some j =>
    have e1 : ixQ a (fun z => decide (z.name = x.name)) = (j : Int) := by unfold ixQ; rw [hf]
    obtain ⟨hj, e2⟩ := Zic (nm := fun m : Enm => m.name) hf
    have e3 := j18 a[j] x (ho _ (List.getElem_mem hj))
    rw [e2, e1]
    have b1 : (0 : Int) ≤ (j : Int) := by omega
    have b2 : (j : Int) < (a.length : Int) := by omega
    have b3 : ¬ (j : Int) < 0 := by omega
    simp [b1, b2, b3, hj, e3, List.getD_eq_getElem?_getD]
    cases eP a[j] x <;> simp)
  rw [Zek] at this
  exact this
 rw [ZbV] at q1
 unfold ZbY
 dsimp only [ZAy, Zz6, Ztw, Zrv, al, frt, stp, br, ix, ixi, vz, vy, vw, vs, vg, v2, lr, lrt, ln, lxe, lc, lf, lfe, ap, aq, a0, a1, ad, cl, cs, cf, wa, wi, ir, ca, cp, dd, mv, st, ss, sL, Bd.c, Bd.vl, clg, csg, cfg, sL, Bd.c, Bd.vl, mlk, mpu, mdl, mvm, mlg, ixg, tw, du, lxc, lrt]
 rw [j26 a (by omega)]
 dsimp only [Option.bind_some, Ztw, Zrv, al, frt, stp, br, ix, ixi, vz, vy, vw, vs, vg, v2, lr, lrt, ln, lxe, lc, lf, lfe, ap, aq, a0, a1, ad, cl, cs, cf, wa, wi, ir, ca, cp, dd, mv, st, ss, sL, Bd.c, Bd.vl, clg, csg, cfg, sL, Bd.c, Bd.vl, mlk, mpu, mdl, mvm, mlg, ixg, tw, du, lxc, lrt]
 rw [q1]
 by_cases hb : b.any (Zeq (fun m => m.name) eP K a) = true
 ·rw [if_pos hb, if_pos hb]
  rfl
 ·rw [if_neg hb, if_neg hb]
  rfl
theorem j59 (l : List Svc) (f : Svc → Option Bool) (p : Svc → Bool) (hf : ∀ x ∈ l, f x = some (p x)) (h : l.length < 4611686018427387904) : ZbB l f = some (ixQ l p) := by
 unfold ZbB
 simp only [ZAB, ZyY, ZyQ, vz, lr, lc, lf]
 rw [ZcE l p (fun i => (i : Int)) () (hN := ZaP h) (he := by simp [ZsB, Zrj, br]) (hs := by
  intro i y hy
  obtain ⟨h1, rfl⟩ := List.getElem?_eq_some_iff.1 hy
  have h2 : i + 1 < 9223372036854775808 := by omega
  have h3 := hf l[i] (List.mem_of_getElem? hy)
  simp [ZsB, Zrj, br, h1, h2, h3]
  cases p l[i] <;> rfl)]
 unfold ixQ
 cases l.findIdx? _ <;> rfl
theorem j19 (a b : List Svc) (h : List (ByteArray × Bool)) (K : List ByteArray) (hk : ∀ y, lkM y h = K.any fun z => decide (z = y)) (hl : a.length + b.length ≤ 1048576) (ho : ∀ m ∈ a, OkV m) :
  Zbo a b h = some (if b.any (Zeq (fun m => m.name) svP K a) = true then (false, []) else (true, Zdy (fun m => m.name) a b)) := by
 have q1 : Zad (Znc a b h) big (a, 0) = some ((Zd9 (fun _ x => if Zeq (fun m => m.name) svP K a x = true then some ((false, []) : Bool × List Svc) else none) [] b).elim (.inl (Zdy (fun m => m.name) a b)) .inr) := by
  have := ZdF (B := Znc a b h) (N := big) b (fun p => Zdy (fun m => m.name) a p) (fun _ x => if Zeq (fun m => m.name) svP K a x = true then some ((false, []) : Bool × List Svc) else none) (fun i c => (c, i)) id (hN := ZaP (by omega)) (he := by simp [Znc, Ztt, br]) (hs := fun i x hx => by
   have g1 := Zcu hx
   have g0 := (List.getElem?_eq_some_iff.1 hx).1
   have g2 : i + 1 < 9223372036854775808 := by omega
   have g3 := j59 a (fun z0 => Zbf z0 x) (fun z => decide (z.name = x.name)) (fun z _ => rfl) (by omega)
   have g4 : (Zdy (fun m : Svc => m.name) a (b.take i)).length < 549755813887 := by
    have := ZbE (fun m : Svc => m.name) a (b.take i)
    rw [List.length_take] at this
    omega
   have g5 : Ze0 x = some x.name := rfl
   rw [Zdo]
   dsimp only [Znc, Ztt, al, frt, stp, br, ix, ixi, vz, vy, vw, vs, vg, v2, lr, lrt, ln, lxe, lc, lf, lfe, ap, aq, a0, a1, ad, cl, cs, cf, wa, wi, ir, ca, cp, dd, mv, st, ss, sL, Bd.c, Bd.vl, clg, csg, cfg, sL, Bd.c, Bd.vl, mlk, mpu, mdl, mvm, mlg, ixg, tw, du, lxc, lrt]
   simp only [g1, g2, g3, g4, g5, hx, decide_true, if_true, Option.bind_some]
   unfold Zeq
   cases hf : a.findIdx? fun z => decide (z.name = x.name) with
   | none =>
    have e1 : ixQ a (fun z => decide (z.name = x.name)) = -1 := by unfold ixQ; rw [hf]
    rw [Zio (nm := fun m : Svc => m.name) hf, e1]
    simp [hk]
    try (split <;> simp_all)
   | some j =>
    have e1 : ixQ a (fun z => decide (z.name = x.name)) = (j : Int) := by unfold ixQ; rw [hf]
    obtain ⟨hj, e2⟩ := Zic (nm := fun m : Svc => m.name) hf
    have e3 := j21 a[j] x (ho _ (List.getElem_mem hj))
    rw [e2, e1]
    have b1 : (0 : Int) ≤ (j : Int) := by omega
    have b2 : (j : Int) < (a.length : Int) := by omega
    have b3 : ¬ (j : Int) < 0 := by omega
    simp [b1, b2, b3, hj, e3, List.getD_eq_getElem?_getD]
    cases svP a[j] x <;> simp)
  rw [Zek] at this
  exact this
 rw [ZbV] at q1
 unfold Zbo
 dsimp only [ZBA, ZBW, Zuq, ZrY, al, frt, stp, br, ix, ixi, vz, vy, vw, vs, vg, v2, lr, lrt, ln, lxe, lc, lf, lfe, ap, aq, a0, a1, ad, cl, cs, cf, wa, wi, ir, ca, cp, dd, mv, st, ss, sL, Bd.c, Bd.vl, clg, csg, cfg, sL, Bd.c, Bd.vl, mlk, mpu, mdl, mvm, mlg, ixg, tw, du, lxc, lrt]
 rw [j80 a (by omega)]
 dsimp only [Option.bind_some, Zuq, ZrY, al, frt, stp, br, ix, ixi, vz, vy, vw, vs, vg, v2, lr, lrt, ln, lxe, lc, lf, lfe, ap, aq, a0, a1, ad, cl, cs, cf, wa, wi, ir, ca, cp, dd, mv, st, ss, sL, Bd.c, Bd.vl, clg, csg, cfg, sL, Bd.c, Bd.vl, mlk, mpu, mdl, mvm, mlg, ixg, tw, du, lxc, lrt]
 rw [q1]
 by_cases hb : b.any (Zeq (fun m => m.name) svP K a) = true
 ·rw [if_pos hb, if_pos hb]
  rfl
 ·rw [if_neg hb, if_neg hb]
  rfl
theorem ZM4 (s t : Scm) (K : List ByteArray) (hK : K.length < 4611686018427387904) (hk : ∀ m ∈ s.messages, m.name ∈ K) (hl : s.messages.length + t.messages.length ≤ 1048576) (ho : ∀ m ∈ s.messages, OkM m) :
  Zad (ZCx s t K) big (0, s.messages) = some (if t.messages.any (Zeq (fun m => m.name) mP K s.messages) = true then .inr ((⟨[], [], []⟩, 9) : Scm × Int) else .inl (Zdy (fun m => m.name) s.messages t.messages)) := by
 have := ZdF (B := ZCx s t K) (N := big) t.messages (fun p => Zdy (fun m => m.name) s.messages p) (fun _ x => if Zeq (fun m => m.name) mP K s.messages x = true then some ((⟨[], [], []⟩, 9) : Scm × Int) else none) (fun i c => (i, c)) id (hN := ZaP (by omega)) (he := by simp [ZCx, ZCB, ZwO, ZIV, ZI4, ZJb, ZIT, br, ix, vw, vs]) (hs := fun i x hx => by
  have g1 := Zcu hx
  have g0 := (List.getElem?_eq_some_iff.1 hx).1
  have g2 : i + 1 < 9223372036854775808 := by omega
  have g3 := j45 K x.name hK
  have g4 : (Zdy (fun m : Msg => m.name) s.messages (t.messages.take i)).length < 549755813887 := by
   have := ZbE (fun m : Msg => m.name) s.messages (t.messages.take i)
   rw [List.length_take] at this
   omega
  have g5 := f26 s x.name (by omega)
  rw [Zdo]
  dsimp only [ZCx, ZCB, ZwO, ZIV, ZI4, ZJb, ZIT, al, frt, stp, br, ix, ixi, vz, vy, vw, vs, vg, v2, lr, lrt, ln, lxe, lc, lf, lfe, ap, aq, a0, a1, ad, cl, cs, cf, wa, wi, ir, ca, cp, dd, mv, st, ss, sL, Bd.c, Bd.vl, clg, csg, cfg, sL, Bd.c, Bd.vl, mlk, mpu, mdl, mvm, mlg, ixg, tw, du, lxc, lrt]
  simp only [g1, g2, g3, g4, g5, hx, decide_true, if_true, Option.bind_some]
  unfold Zeq
  rw [show s.messages.find? (fun m => decide (m.name = x.name)) = fnd (fun m => m.name) s.messages x from rfl]
  cases hf : fnd (fun m : Msg => m.name) s.messages x with
  | none =>
   have e1 := j25 [] [x] (by simp) (fun m hm => by cases hm)
   have e2 : eqZ mP [] [x] = false := rfl
   cases hb : K.any fun y => decide (y = x.name) <;> simp [e1, e2]
  | some z =>
   have hz : z ∈ s.messages := List.mem_of_find?_eq_some hf
   have hn : z.name = x.name := by simpa using List.find?_some hf
   have hb : (K.any fun y => decide (y = x.name)) = true := List.any_eq_true.2 ⟨z.name, hk z hz, decide_eq_true hn⟩
   have e1 := j25 [z] [x] (by simp) (fun m hm => by rw [List.mem_singleton] at hm; rw [hm]; exact ho z hz)
   have e2 : eqZ mP [z] [x] = mP z x := by simp [eqZ, ZdQ]
   rw [hb]
   simp [e1, e2]
   cases mP z x <;> simp)
 rw [Zek, ZbV] at this
 rw [this]
 by_cases hb : t.messages.any (Zeq (fun m => m.name) mP K s.messages) = true
 ·rw [if_pos hb, if_pos hb]; rfl
 ·rw [if_neg hb, if_neg hb]; rfl
theorem ZNk (s t : Scm) (K : List ByteArray) (r8 : List Msg) (hK : K.length < 4611686018427387904) (hk : ∀ m ∈ s.enums, m.name ∈ K) (hl : s.enums.length + t.enums.length ≤ 1048576) (ho : ∀ m ∈ s.enums, OkE m) :
  Zad (ZCr s t K r8) big (0, s.enums) = some (if t.enums.any (Zeq (fun m => m.name) eP K s.enums) = true then .inr ((⟨[], [], []⟩, 9) : Scm × Int) else .inl (Zdy (fun m => m.name) s.enums t.enums)) := by
 have := ZdF (B := ZCr s t K r8) (N := big) t.enums (fun p => Zdy (fun m => m.name) s.enums p) (fun _ x => if Zeq (fun m => m.name) eP K s.enums x = true then some ((⟨[], [], []⟩, 9) : Scm × Int) else none) (fun i c => (i, c)) id (hN := ZaP (by omega)) (he := by simp [ZCr, ZCt, ZwA, ZIP, Zr1, Zsa, Zsu, br, ix, vw, vs]) (hs := fun i x hx => by
  have g1 := Zcu hx
  have g0 := (List.getElem?_eq_some_iff.1 hx).1
  have g2 : i + 1 < 9223372036854775808 := by omega
  have g3 := j45 K x.name hK
  have g4 : (Zdy (fun m : Enm => m.name) s.enums (t.enums.take i)).length < 549755813887 := by
   have := ZbE (fun m : Enm => m.name) s.enums (t.enums.take i)
   rw [List.length_take] at this
   omega
  have g5 := f28 s x.name (by omega)
  rw [Zdo]
  dsimp only [ZCr, ZCt, ZwA, ZIP, Zr1, Zsa, Zsu, al, frt, stp, br, ix, ixi, vz, vy, vw, vs, vg, v2, lr, lrt, ln, lxe, lc, lf, lfe, ap, aq, a0, a1, ad, cl, cs, cf, wa, wi, ir, ca, cp, dd, mv, st, ss, sL, Bd.c, Bd.vl, clg, csg, cfg, sL, Bd.c, Bd.vl, mlk, mpu, mdl, mvm, mlg, ixg, tw, du, lxc, lrt]
  simp only [g1, g2, g3, g4, g5, hx, decide_true, if_true, Option.bind_some]
  unfold Zeq
  rw [show s.enums.find? (fun m => decide (m.name = x.name)) = fnd (fun m => m.name) s.enums x from rfl]
  cases hf : fnd (fun m : Enm => m.name) s.enums x with
  | none =>
   have e1 := j27 [] [x] (by simp) (fun m hm => by cases hm)
   have e2 : eqZ eP [] [x] = false := rfl
   cases hb : K.any fun y => decide (y = x.name) <;> simp [e1, e2]
  | some z =>
   have hz : z ∈ s.enums := List.mem_of_find?_eq_some hf
   have hn : z.name = x.name := by simpa using List.find?_some hf
   have hb : (K.any fun y => decide (y = x.name)) = true := List.any_eq_true.2 ⟨z.name, hk z hz, decide_eq_true hn⟩
   have e1 := j27 [z] [x] (by simp) (fun m hm => by rw [List.mem_singleton] at hm; rw [hm]; exact ho z hz)
   have e2 : eqZ eP [z] [x] = eP z x := by simp [eqZ, ZdQ]
   rw [hb]
   simp [e1, e2]
   cases eP z x <;> simp)
 rw [Zek, ZbV] at this
 rw [this]
 by_cases hb : t.enums.any (Zeq (fun m => m.name) eP K s.enums) = true
 ·rw [if_pos hb, if_pos hb]; rfl
 ·rw [if_neg hb, if_neg hb]; rfl
theorem ZNx (s t : Scm) (K : List ByteArray) (r8 : List Msg) (r15 : List Enm) (hK : K.length < 4611686018427387904) (hk : ∀ m ∈ s.services, m.name ∈ K) (hl : s.services.length + t.services.length ≤ 1048576) (ho : ∀ m ∈ s.services, OkV m) :
  Zad (ZCs s t K r8 r15) big (0, s.services) = some (if t.services.any (Zeq (fun m => m.name) svP K s.services) = true then .inr ((⟨[], [], []⟩, 9) : Scm × Int) else .inl (Zdy (fun m => m.name) s.services t.services)) := by
 have := ZdF (B := ZCs s t K r8 r15) (N := big) t.services (fun p => Zdy (fun m => m.name) s.services p) (fun _ x => if Zeq (fun m => m.name) svP K s.services x = true then some ((⟨[], [], []⟩, 9) : Scm × Int) else none) (fun i c => (i, c)) id (hN := ZaP (by omega)) (he := by simp [ZCs, ZmR, ZjW, ZtH, ZrT, ZuD, Zr0, br, ix, vw, vs]) (hs := fun i x hx => by
  have g1 := Zcu hx
  have g0 := (List.getElem?_eq_some_iff.1 hx).1
  have g2 : i + 1 < 9223372036854775808 := by omega
  have g3 := j45 K x.name hK
  have g4 : (Zdy (fun m : Svc => m.name) s.services (t.services.take i)).length < 549755813887 := by
   have := ZbE (fun m : Svc => m.name) s.services (t.services.take i)
   rw [List.length_take] at this
   omega
  have g5 := f30 s x.name (by omega)
  rw [Zdo]
  dsimp only [ZCs, ZmR, ZjW, ZtH, ZrT, ZuD, Zr0, al, frt, stp, br, ix, ixi, vz, vy, vw, vs, vg, v2, lr, lrt, ln, lxe, lc, lf, lfe, ap, aq, a0, a1, ad, cl, cs, cf, wa, wi, ir, ca, cp, dd, mv, st, ss, sL, Bd.c, Bd.vl, clg, csg, cfg, sL, Bd.c, Bd.vl, mlk, mpu, mdl, mvm, mlg, ixg, tw, du, lxc, lrt]
  simp only [g1, g2, g3, g4, g5, hx, decide_true, if_true, Option.bind_some]
  unfold Zeq
  rw [show s.services.find? (fun m => decide (m.name = x.name)) = fnd (fun m => m.name) s.services x from rfl]
  cases hf : fnd (fun m : Svc => m.name) s.services x with
  | none =>
   have e1 := j29 [] [x] (by simp) (fun m hm => by cases hm)
   have e2 : eqZ svP [] [x] = false := rfl
   cases hb : K.any fun y => decide (y = x.name) <;> simp [e1, e2]
  | some z =>
   have hz : z ∈ s.services := List.mem_of_find?_eq_some hf
   have hn : z.name = x.name := by simpa using List.find?_some hf
   have hb : (K.any fun y => decide (y = x.name)) = true := List.any_eq_true.2 ⟨z.name, hk z hz, decide_eq_true hn⟩
   have e1 := j29 [z] [x] (by simp) (fun m hm => by rw [List.mem_singleton] at hm; rw [hm]; exact ho z hz)
   have e2 : eqZ svP [z] [x] = svP z x := by simp [eqZ, ZdQ]
   rw [hb]
   simp [e1, e2]
   cases svP z x <;> simp)
 rw [Zek, ZbV] at this
 rw [this]
 by_cases hb : t.services.any (Zeq (fun m => m.name) svP K s.services) = true
 ·rw [if_pos hb, if_pos hb]; rfl
 ·rw [if_neg hb, if_neg hb]; rfl
end Go.Proofs.YthagpbkmakocjaaGreat
