import Derived.Test.YthagpbkmakocjaaGreatCz19
import Derived.Test.YthagpbkmakocjaaGreatCz25
import Derived.Test.YthagpbkmakocjaaGreatCz24
import Derived.Test.YthagpbkmakocjaaGreatCz23
import Derived.Test.YthagpbkmakocjaaGreatCz00
namespace Go.Proofs.YthagpbkmakocjaaGreat
set_option linter.all false
open Go Go.Eng
def ZeR {α : Type} (p : α → α → Bool) (l k : List α) : Bool := (l.zip k).all fun w => p w.1 w.2
def eqZ {α : Type} (p : α → α → Bool) (l k : List α) : Bool := decide (l.length = k.length) && ZeR p l k
theorem ZbW {α ρ ξ : Type} {B : Nat → Option (Lv Nat ξ ρ)} (l k : List α) (p : α → α → Bool) (e : ξ) (z : ρ) (hl : l.length = k.length)
  (hs : ∀ i x y, l[i]? = some x → k[i]? = some y → B i = some (if p x y = true then .nx (i + 1) else .rt z)) (he : B l.length = some (.ex e)) (hN : l.length < 4611686018427387904) :
  Zaa B big 0 = some (if ZeR p l k = true then .inl e else .inr z) := by
 have hz : (l.zip k).length = l.length := by rw [List.length_zip]; omega
 rw [Za8 (l.zip k) (fun w => !p w.1 w.2) (fun _ => z) e (hN := Zag (by omega)) (he := by rw [hz]; exact he) (hs := by
  intro i w hw
  rw [List.getElem?_zip_eq_some] at hw
  rw [hs i w.1 w.2 hw.1 hw.2]
  cases p w.1 w.2 <;> rfl)]
 unfold ZeR
 cases hf : (l.zip k).findIdx? fun w => !p w.1 w.2 with
 | none =>
  have := Yar.1 hf
  rw [if_pos (Yp.2 fun w hw => by simpa using this w hw)]
 | some i =>
  obtain ⟨h1, h2, _⟩ := YX.1 hf
  rw [if_neg fun h => by rw [Yp.1 h _ (Y9 h1)] at h2; cases h2]
def jvP (a b : Val) : Bool := (decide (a.kind = b.kind) && decide (a.bits = b.bits)) && decide (a.text = b.text)
def jnP (a b : Nt) : Bool := decide (a.name = b.name) && jvP a.val b.val
def Zjt (a b : Spn) : Bool := decide (a.lo = b.lo) && (decide (a.hi = b.hi) && true)
def Zqb (a b : ByteArray) : Bool := decide (a = b)
def jfP (p0 p1 : Fld) : Bool := ((((((((decide (p0.num = p1.num) && decide (p0.name = p1.name)) && decide (p0.card = p1.card)) && decide (p0.key = p1.key)) && (decide (p0.type.kind = p1.type.kind) && (decide (p0.type.name = p1.type.name) && true))) && decide (p0.union = p1.union)) && (p0.hasDefault == p1.hasDefault)) && jvP p0.dflt p1.dflt) && eqZ jnP p0.notes p1.notes)
def jmP (p0 p1 : Msg) : Bool := ((((decide (p0.name = p1.name) && eqZ jfP p0.fields p1.fields) && eqZ Zjt p0.reserved p1.reserved) && eqZ Zqb p0.gone p1.gone) && eqZ jnP p0.notes p1.notes)
def ZuE (p0 p1 : Itm) : Bool := (decide (p0.name = p1.name) && decide (p0.num = p1.num)) && eqZ jnP p0.notes p1.notes
def jeP (p0 p1 : Enm) : Bool := ((((decide (p0.name = p1.name) && (p0.opn == p1.opn)) && eqZ ZuE p0.items p1.items) && eqZ Zjt p0.reserved p1.reserved) && eqZ jnP p0.notes p1.notes)
def ZuI (p0 p1 : Mth) : Bool := ((((decide (p0.name = p1.name) && decide (p0.inn = p1.inn)) && decide (p0.out = p1.out)) && decide (p0.shape = p1.shape)) && eqZ jnP p0.notes p1.notes)
def Zkv (p0 p1 : Svc) : Bool := ((decide (p0.name = p1.name) && eqZ ZuI p0.methods p1.methods) && eqZ jnP p0.notes p1.notes)
theorem j49 (l k : List Fld) (f : Fld → Fld → Option Bool) (p : Fld → Fld → Bool) (hf : ∀ x ∈ l, ∀ y, f x y = some (p x y)) (h : l.length < 4611686018427387904) : Zcm l k f = some (eqZ p l k) := by
 unfold Zcm eqZ
 dsimp only [ZGt, ZJh, ZGN, br, vz, lr, lc, lf, clg, csg, cfg, sL, Bd.c, Bd.vl]
 by_cases hl : l.length = k.length
 ·have hi : ((l.length : Int) = (k.length : Int)) = True := eq_true (by omega)
  rw [ZbW l k p () false hl (hN := h) (he := by simp [ZwP, ZDo, br]) (hs := by
   intro i x y hx hy
   have g1 := Zcl hx
   have g0 := (Ya.1 hx).1
   have g2 : i + 1 < 9223372036854775808 := by omega
   have g3 := hf x (Ye hx) y
   dsimp only [ZwP, ZDo, br, ix, vw, vs, lrt, ln, lxe, lf, cf, wa, clg, csg, cfg, sL, Bd.c, Bd.vl]
   simp only [g1, g2, g3, hx, hy, decide_true, if_true, Option.bind_some]
   cases p x y <;> simp)]
  simp only [hl, decide_true, Yz, Yf, if_false, Option.bind_some, Yan]
  cases ZeR p l k <;> rfl
 ·have hi : ((l.length : Int) = (k.length : Int)) = False := eq_false (by omega)
  simp only [hi, hl, decide_false, YK, if_true, Yah]
theorem j56 (l k : List Itm) (f : Itm → Itm → Option Bool) (p : Itm → Itm → Bool) (hf : ∀ x ∈ l, ∀ y, f x y = some (p x y)) (h : l.length < 4611686018427387904) : Zcu l k f = some (eqZ p l k) := by
 unfold Zcu eqZ
 dsimp only [ZHY, ZLa, ZIL, br, vz, lr, lc, lf, clg, csg, cfg, sL, Bd.c, Bd.vl]
 by_cases hl : l.length = k.length
 ·have hi : ((l.length : Int) = (k.length : Int)) = True := eq_true (by omega)
  rw [ZbW l k p () false hl (hN := h) (he := by simp [ZxB, ZEe, br]) (hs := by
   intro i x y hx hy
   have g1 := Zcl hx
   have g0 := (Ya.1 hx).1
   have g2 : i + 1 < 9223372036854775808 := by omega
   have g3 := hf x (Ye hx) y
   dsimp only [ZxB, ZEe, br, ix, vw, vs, lrt, ln, lxe, lf, cf, wa, clg, csg, cfg, sL, Bd.c, Bd.vl]
   simp only [g1, g2, g3, hx, hy, decide_true, if_true, Option.bind_some]
   cases p x y <;> simp)]
  simp only [hl, decide_true, Yz, Yf, if_false, Option.bind_some, Yan]
  cases ZeR p l k <;> rfl
 ·have hi : ((l.length : Int) = (k.length : Int)) = False := eq_false (by omega)
  simp only [hi, hl, decide_false, YK, if_true, Yah]
theorem j61 (l k : List Mth) (f : Mth → Mth → Option Bool) (p : Mth → Mth → Bool) (hf : ∀ x ∈ l, ∀ y, f x y = some (p x y)) (h : l.length < 4611686018427387904) : Zcb l k f = some (eqZ p l k) := by
 unfold Zcb eqZ
 dsimp only [ZKY, ZHD, ZKy, br, vz, lr, lc, lf, clg, csg, cfg, sL, Bd.c, Bd.vl]
 by_cases hl : l.length = k.length
 ·have hi : ((l.length : Int) = (k.length : Int)) = True := eq_true (by omega)
  rw [ZbW l k p () false hl (hN := h) (he := by simp [Zwv, Zz4, br]) (hs := by
   intro i x y hx hy
   have g1 := Zcl hx
   have g0 := (Ya.1 hx).1
   have g2 : i + 1 < 9223372036854775808 := by omega
   have g3 := hf x (Ye hx) y
   dsimp only [Zwv, Zz4, br, ix, vw, vs, lrt, ln, lxe, lf, cf, wa, clg, csg, cfg, sL, Bd.c, Bd.vl]
   simp only [g1, g2, g3, hx, hy, decide_true, if_true, Option.bind_some]
   cases p x y <;> simp)]
  simp only [hl, decide_true, Yz, Yf, if_false, Option.bind_some, Yan]
  cases ZeR p l k <;> rfl
 ·have hi : ((l.length : Int) = (k.length : Int)) = False := eq_false (by omega)
  simp only [hi, hl, decide_false, YK, if_true, Yah]
theorem j91 (l k : List Nt) (f : Nt → Nt → Option Bool) (p : Nt → Nt → Bool) (hf : ∀ x ∈ l, ∀ y, f x y = some (p x y)) (h : l.length < 4611686018427387904) : ZcA l k f = some (eqZ p l k) := by
 unfold ZcA eqZ
 dsimp only [ZIE, ZJe, ZJH, br, vz, lr, lc, lf, clg, csg, cfg, sL, Bd.c, Bd.vl]
 by_cases hl : l.length = k.length
 ·have hi : ((l.length : Int) = (k.length : Int)) = True := eq_true (by omega)
  rw [ZbW l k p () false hl (hN := h) (he := by simp [Zvc, ZEc, br]) (hs := by
   intro i x y hx hy
   have g1 := Zcl hx
   have g0 := (Ya.1 hx).1
   have g2 : i + 1 < 9223372036854775808 := by omega
   have g3 := hf x (Ye hx) y
   dsimp only [Zvc, ZEc, br, ix, vw, vs, lrt, ln, lxe, lf, cf, wa, clg, csg, cfg, sL, Bd.c, Bd.vl]
   simp only [g1, g2, g3, hx, hy, decide_true, if_true, Option.bind_some]
   cases p x y <;> simp)]
  simp only [hl, decide_true, Yz, Yf, if_false, Option.bind_some, Yan]
  cases ZeR p l k <;> rfl
 ·have hi : ((l.length : Int) = (k.length : Int)) = False := eq_false (by omega)
  simp only [hi, hl, decide_false, YK, if_true, Yah]
theorem j51 (l k : List Spn) (h : l.length < 4611686018427387904) : Zeu l k = some (eqZ Zjt l k) := by
 unfold Zeu eqZ
 dsimp only [ZI1, ZJV, ZIS, br, vz, lr, lc, lf, clg, csg, cfg, sL, Bd.c, Bd.vl]
 by_cases hl : l.length = k.length
 ·have hi : ((l.length : Int) = (k.length : Int)) = True := eq_true (by omega)
  rw [ZbW l k Zjt () false hl (hN := h) (he := by simp [Zvt, ZCj, br]) (hs := by
   intro i x y hx hy
   obtain ⟨h1, e1⟩ := Ya.1 hx
   obtain ⟨h3, e3⟩ := Ya.1 hy
   have g1 := Zcl hx
   have g2 : i + 1 < 9223372036854775808 := by omega
   unfold Zjt
   dsimp only [Zvt, ZCj, br, ix, vs, lrt, ln, lxe, lf, wa, clg, csg, cfg, sL, Bd.c, Bd.vl, ixg]
   simp only [g1, g2, hx, hy, decide_true, if_true, Option.bind_some]
   simp [hx]
   by_cases q1 : x.lo = y.lo <;> by_cases q2 : x.hi = y.hi <;> simp [q1, q2])]
  simp only [hl, decide_true, Yz, Yf, if_false, Option.bind_some, Yan]
  cases ZeR Zjt l k <;> rfl
 ·have hi : ((l.length : Int) = (k.length : Int)) = False := eq_false (by omega)
  simp only [hi, hl, decide_false, YK, if_true, Yah]
theorem j52 (l k : List ByteArray) (h : l.length < 4611686018427387904) : ZdF l k = some (eqZ Zqb l k) := by
 unfold ZdF eqZ
 dsimp only [ZKj, ZKn, ZKU, br, vz, lr, lc, lf, clg, csg, cfg, sL, Bd.c, Bd.vl]
 by_cases hl : l.length = k.length
 ·have hi : ((l.length : Int) = (k.length : Int)) = True := eq_true (by omega)
  rw [ZbW l k Zqb () false hl (hN := h) (he := by simp [Zwn, ZBv, br]) (hs := by
   intro i x y hx hy
   obtain ⟨h1, e1⟩ := Ya.1 hx
   obtain ⟨h3, e3⟩ := Ya.1 hy
   have g1 := Zcl hx
   have g2 : i + 1 < 9223372036854775808 := by omega
   unfold Zqb
   dsimp only [Zwn, ZBv, br, ix, vs, lrt, ln, lxe, lf, wa, clg, csg, cfg, sL, Bd.c, Bd.vl, ixg]
   simp only [g1, g2, hx, hy, decide_true, if_true, Option.bind_some]
   simp [hx]
   split <;> rfl)]
  simp only [hl, decide_true, Yz, Yf, if_false, Option.bind_some, Yan]
  cases ZeR Zqb l k <;> rfl
 ·have hi : ((l.length : Int) = (k.length : Int)) = False := eq_false (by omega)
  simp only [hi, hl, decide_false, YK, if_true, Yah]
theorem j70 (l k : List Spn) (h : l.length < 4611686018427387904) : Zaw l k = some (eqZ Zjt l k) := by
 unfold Zaw eqZ
 dsimp only [ZBu, ZAk, ZE3, br, vz, lr, lc, lf, clg, csg, cfg, sL, Bd.c, Bd.vl]
 by_cases hl : l.length = k.length
 ·have hi : ((l.length : Int) = (k.length : Int)) = True := eq_true (by omega)
  rw [ZbW l k Zjt () false hl (hN := h) (he := by simp [ZlZ, Zt1, vz]) (hs := by
   intro i x y hx hy
   obtain ⟨h1, e1⟩ := Ya.1 hx
   obtain ⟨h3, e3⟩ := Ya.1 hy
   have g1 := Zcl hx
   have g2 : i + 1 < 9223372036854775808 := by omega
   unfold Zjt
   dsimp only [ZlZ, Zt1, br, ix, vz, vs, lrt, ln, lxe, lf, wa, clg, csg, cfg, sL, Bd.c, Bd.vl, ixg]
   simp only [g1, g2, hx, hy, decide_true, if_true, Option.bind_some]
   simp [hx]
   by_cases q1 : x.lo = y.lo <;> by_cases q2 : x.hi = y.hi <;> simp [q1, q2])]
  simp only [hl, decide_true, Yz, Yf, if_false, Option.bind_some, Yan]
  cases ZeR Zjt l k <;> rfl
 ·have hi : ((l.length : Int) = (k.length : Int)) = False := eq_false (by omega)
  simp only [hi, hl, decide_false, YK, if_true, Yah]
theorem j71 (l k : List Nt) (h : l.length < 4611686018427387904) : ZaS l k = some (eqZ jnP l k) := by
 unfold ZaS eqZ
 dsimp only [ZBT, ZCN, ZB5, br, vz, lr, lc, lf, clg, csg, cfg, sL, Bd.c, Bd.vl]
 by_cases hl : l.length = k.length
 ·have hi : ((l.length : Int) = (k.length : Int)) = True := eq_true (by omega)
  rw [ZbW l k jnP () false hl (hN := h) (he := by simp [Zlx, ZtS, vz]) (hs := by
   intro i x y hx hy
   obtain ⟨h1, e1⟩ := Ya.1 hx
   obtain ⟨h3, e3⟩ := Ya.1 hy
   have g1 := Zcl hx
   have g2 : i + 1 < 9223372036854775808 := by omega
   unfold jnP jvP
   dsimp only [Zlx, ZtS, br, ix, vz, vs, lrt, ln, lxe, lf, wa, clg, csg, cfg, sL, Bd.c, Bd.vl, ixg]
   simp only [g1, g2, hx, hy, decide_true, if_true, Option.bind_some]
   simp [h1, h3, e1, e3, Yj]
   by_cases q1 : x.name = y.name <;> by_cases q2 : x.val.kind = y.val.kind <;> by_cases q3 : x.val.bits = y.val.bits <;> by_cases q4 : x.val.text = y.val.text <;> simp [q1, q2, q3, q4])]
  simp only [hl, decide_true, Yz, Yf, if_false, Option.bind_some, Yan]
  cases ZeR jnP l k <;> rfl
 ·have hi : ((l.length : Int) = (k.length : Int)) = False := eq_false (by omega)
  simp only [hi, hl, decide_false, YK, if_true, Yah]
theorem j90 (a b : Val) : Zeo a b = some (jvP a b) := rfl
theorem j92 (a b : Nt) : Zbu a b = some (jnP a b) := by
 unfold Zbu jnP
 simp [ZIW, vw, j90]
theorem j53 (l k : List Nt) (h : l.length < 4611686018427387904) : Zdc l k = some (eqZ jnP l k) := by
 unfold Zdc
 dsimp only [ZJ2, lr, lf, cs, clg, csg, cfg, sL, Bd.c, Bd.vl]
 rw [j91 l k _ jnP (fun x _ y => j92 x y) h]
 rfl
theorem j50 (a b : Fld) (h : a.notes.length < 4611686018427387904) : Zb3 a b = some (jfP a b) := by
 unfold Zb3
 dsimp only [ZJY, vw, lr, lf, clg, csg, cfg, sL, Bd.c, Bd.vl]
 simp only [j90, j53 a.notes b.notes h, Y1, YJ, implies_true, if_true]
 rfl
theorem j57 (a b : Itm) (h : a.notes.length < 4611686018427387904) : Zch a b = some (ZuE a b) := by
 unfold Zch
 dsimp only [ZKw, vw, lr, lf, clg, csg, cfg, sL, Bd.c, Bd.vl]
 simp only [j53 a.notes b.notes h, Y1, YJ, implies_true, if_true]
 rfl
theorem j62 (a b : Mth) (h : a.notes.length < 4611686018427387904) : ZbG a b = some (ZuI a b) := by
 unfold ZbG
 dsimp only [ZGm, vw, lr, lf, clg, csg, cfg, sL, Bd.c, Bd.vl]
 simp only [j53 a.notes b.notes h, Y1, YJ, implies_true, if_true]
 rfl
theorem j15 (a b : Msg) (h : OkM a) : ZcQ a b = some (jmP a b) := by
 unfold ZcQ
 dsimp only [ZGb, vw, lr, lf, clg, csg, cfg, sL, Bd.c, Bd.vl]
 simp only [j49 a.fields b.fields _ jfP (fun x hx y => j50 x y (h.d x hx)) h.f, j51 a.reserved b.reserved h.r, j52 a.gone b.gone h.g, j53 a.notes b.notes h.n, Y1, YJ, implies_true, if_true]
 rfl
theorem j18 (a b : Enm) (h : OkE a) : Zdr a b = some (jeP a b) := by
 unfold Zdr
 dsimp only [ZKf, vw, lr, lf, clg, csg, cfg, sL, Bd.c, Bd.vl]
 simp only [j56 a.items b.items _ ZuE (fun x hx y => j57 x y (h.d x hx)) h.i, j51 a.reserved b.reserved h.r, j53 a.notes b.notes h.n, Y1, YJ, implies_true, if_true]
 rfl
theorem j21 (a b : Svc) (h : OkV a) : ZcP a b = some (Zkv a b) := by
 unfold ZcP
 dsimp only [ZIA, vw, lr, lf, clg, csg, cfg, sL, Bd.c, Bd.vl]
 simp only [j61 a.methods b.methods _ ZuI (fun x hx y => j62 x y (h.d x hx)) h.m, j53 a.notes b.notes h.n, Y1, YJ, implies_true, if_true]
 rfl
theorem j72 (a b : Fld) (h : a.notes.length < 4611686018427387904) : Zaz a b = some (jfP a b) := by
 unfold Zaz jfP jvP
 dsimp only [ZAT, br, vw, lr, lf, clg, csg, cfg, sL, Bd.c, Bd.vl]
 simp only [j71 a.notes b.notes h, Y1, YJ, implies_true, if_true]
 grind
end Go.Proofs.YthagpbkmakocjaaGreat
namespace Go.Proofs.YthagpbkmakocjaaGreat
set_option linter.all false
open Go Go.Eng
theorem j25 (l k : List Msg) (h : l.length < 4611686018427387904) (ho : ∀ m ∈ l, OkM m) : Zap l k = some (eqZ jmP l k) := by
 have q2 : ∀ (v : Nat) (x y : Msg), OkM x → x.fields.length = y.fields.length → Zaa (Zk0 l k v x y) big 0 = some (if ZeR jfP x.fields y.fields = true then .inl () else .inr false) := fun v x y hm hl => ZbW x.fields y.fields jfP () false hl (hN := hm.f) (he := by simp [Zk0, ZlI, vw]) (hs := by
   intro i d f hx hy
   obtain ⟨h1, e1⟩ := Ya.1 hx
   obtain ⟨h3, e3⟩ := Ya.1 hy
   have g0 := hm.f
   have g1 := Zcl hx
   have g2 : i + 1 < 9223372036854775808 := by omega
   have g3 := j72 d f (hm.d d (Ye hx))
   dsimp only [Zk0, ZlI, br, ix, vz, vw, vs, lrt, ln, lxe, lf, cl, wa, clg, csg, cfg, sL, Bd.c, Bd.vl, mlk, mpu, mdl, mvm, ixg]
   simp only [g1, g2, hx, hy, decide_true, if_true, Option.bind_some]
   simp only [g3, Option.bind_some]
   cases jfP d f <;> simp)
 have q3 : ∀ (v : Nat) (x y : Msg), OkM x → x.gone.length = y.gone.length → Zaa (ZjG l k v x y) big 0 = some (if ZeR Zqb x.gone y.gone = true then .inl () else .inr false) := fun v x y hm hl => ZbW x.gone y.gone Zqb () false hl (hN := hm.g) (he := by simp [ZjG, ZmA, vw]) (hs := by
   intro i d f hx hy
   obtain ⟨h1, e1⟩ := Ya.1 hx
   obtain ⟨h3, e3⟩ := Ya.1 hy
   have g0 := hm.g
   have g1 := Zcl hx
   have g2 : i + 1 < 9223372036854775808 := by omega
   dsimp only [ZjG, ZmA, br, ix, vz, vw, vs, lrt, ln, lxe, lf, wa, clg, csg, cfg, sL, Bd.c, Bd.vl, mlk, mpu, mdl, mvm, ixg]
   simp only [g1, g2, hx, hy, decide_true, if_true, Option.bind_some]
   unfold Zqb
   by_cases q : d = f <;> simp [q])
 unfold Zap
 rw [show eqZ jmP l k = (decide (l.length = k.length) && ZeR jmP l k) from rfl]
 by_cases hl : l.length = k.length
 ·have hi : ((l.length : Int) = (k.length : Int)) = True := eq_true (by omega)
  have q1 : Zaa (Zkr l k) big 0 = some (if ZeR jmP l k = true then .inl () else .inr false) := ZbW l k jmP () false hl (hN := h) (he := by simp [Zkr, ZlO, ZmH, ZmP, ZlJ, ZlW, ix, vz, vs, lc]) (hs := by
   intro i x y hx hy
   have g1 := Zcl hx
   have g0 := (Ya.1 hx).1
   have g2 : i + 1 < 9223372036854775808 := by omega
   have hm := ho x (Ye hx)
   have e1 := j70 x.reserved y.reserved hm.r
   have e2 := j71 x.notes y.notes hm.n
   have i2 : ((x.fields.length : Int) = (y.fields.length : Int)) = (x.fields.length = y.fields.length) := propext ⟨by omega, by omega⟩
   have i4 : ((x.gone.length : Int) = (y.gone.length : Int)) = (x.gone.length = y.gone.length) := propext ⟨by omega, by omega⟩
   dsimp only [Zkr, ZlO, ZmH, ZmP, ZlJ, ZlW, br, ix, vz, vy, vw, vs, lrt, ln, lxe, lc, lf, wa, clg, csg, cfg, sL, Bd.c, Bd.vl, mlk, mpu, mdl, mvm]
   simp only [g1, hx, hy, decide_true, if_true, Option.bind_some, Y1, YJ, implies_true, e1, e2, i2, i4]
   rw [show jmP x y = ((((decide (x.name = y.name) && (decide (x.fields.length = y.fields.length) && ZeR jfP x.fields y.fields)) && eqZ Zjt x.reserved y.reserved) && (decide (x.gone.length = y.gone.length) && ZeR Zqb x.gone y.gone)) && eqZ jnP x.notes y.notes) from rfl]
   generalize eqZ Zjt x.reserved y.reserved = s1
   generalize eqZ jnP x.notes y.notes = s2
   by_cases c1 : x.name = y.name
   ·by_cases c2 : x.fields.length = y.fields.length
    ·by_cases c4 : x.gone.length = y.gone.length
     ·simp only [c1, c2, c4, q2 i x y hm c2, q3 i x y hm c4, decide_true, Yz, YaR, Yan]
      cases s1 <;> cases s2 <;> cases ZeR jfP x.fields y.fields <;> cases ZeR Zqb x.gone y.gone <;> simp [g2]
     ·simp only [c1, c2, c4, decide_true, decide_false]
      cases s1 <;> simp
    ·simp only [c1, c2, decide_true, decide_false]
     simp
   ·simp only [c1, decide_false]
    simp)
  dsimp only [ZlI, ZmA, ZlO, ZmH, ZmP, ZlJ, ZlW, ZuZ, Zxp, ZmU, br, ix, vz, vy, vw, vs, lr, lrt, ln, lxe, lc, lf, cl, wa, clg, csg, cfg, sL, Bd.c, Bd.vl, mlk, mpu, mdl, mvm]
  rw [q1]
  simp only [hl, decide_true, Yz, Yf, if_false, Option.bind_some, Yan]
  cases ZeR jmP l k <;> rfl
 ·have hi : ((l.length : Int) = (k.length : Int)) = False := eq_false (by omega)
  dsimp only [ZlI, ZmA, ZlO, ZmH, ZmP, ZlJ, ZlW, ZuZ, Zxp, ZmU, br, ix, vz, vy, vw, vs, lr, lrt, ln, lxe, lc, lf, cl, wa, clg, csg, cfg, sL, Bd.c, Bd.vl, mlk, mpu, mdl, mvm]
  simp only [hi, hl, decide_false, YK, if_true, Yah]
theorem j27 (l k : List Enm) (h : l.length < 4611686018427387904) (ho : ∀ m ∈ l, OkE m) : ZaB l k = some (eqZ jeP l k) := by
 have q2 : ∀ (v : Nat) (x y : Enm), OkE x → x.items.length = y.items.length → Zaa (ZjV l k v x y) big 0 = some (if ZeR ZuE x.items y.items = true then .inl () else .inr false) := fun v x y hm hl => ZbW x.items y.items ZuE () false hl (hN := hm.i) (he := by simp [ZjV, Zmc, vw]) (hs := by
   intro i d f hx hy
   obtain ⟨h1, e1⟩ := Ya.1 hx
   obtain ⟨h3, e3⟩ := Ya.1 hy
   have g0 := hm.i
   have g1 := Zcl hx
   have g2 : i + 1 < 9223372036854775808 := by omega
   have g3 := j71 d.notes f.notes (hm.d d (Ye hx))
   dsimp only [ZjV, Zmc, br, ix, vz, vw, vs, lrt, ln, lxe, lf, wa, clg, csg, cfg, sL, Bd.c, Bd.vl, mlk, mpu, mdl, mvm, ixg]
   simp only [g1, g2, hx, hy, decide_true, if_true, Option.bind_some]
   unfold ZuE
   simp [h1, h3, e1, e3, g3, Yj]
   by_cases q1 : d.name = f.name <;> by_cases q2 : d.num = f.num <;> simp [q1, q2] <;> cases eqZ jnP d.notes f.notes <;> simp)
 unfold ZaB
 rw [show eqZ jeP l k = (decide (l.length = k.length) && ZeR jeP l k) from rfl]
 by_cases hl : l.length = k.length
 ·have hi : ((l.length : Int) = (k.length : Int)) = True := eq_true (by omega)
  have q1 : Zaa (ZjI l k) big 0 = some (if ZeR jeP l k = true then .inl () else .inr false) := ZbW l k jeP () false hl (hN := h) (he := by simp [ZjI, Zmk, ZmE, ZmC, ix, vz, vs]) (hs := by
   intro i x y hx hy
   have g1 := Zcl hx
   have g0 := (Ya.1 hx).1
   have g2 : i + 1 < 9223372036854775808 := by omega
   have hm := ho x (Ye hx)
   have e1 := j70 x.reserved y.reserved hm.r
   have e2 := j71 x.notes y.notes hm.n
   have i2 : ((x.items.length : Int) = (y.items.length : Int)) = (x.items.length = y.items.length) := propext ⟨by omega, by omega⟩
   dsimp only [ZjI, Zmk, ZmE, ZmC, br, ix, vz, vy, vw, vs, lrt, ln, lxe, lc, lf, wa, clg, csg, cfg, sL, Bd.c, Bd.vl, mlk, mpu, mdl, mvm]
   simp only [g1, hx, hy, decide_true, if_true, Option.bind_some, Y1, YJ, implies_true, e1, e2, i2]
   rw [show jeP x y = ((((decide (x.name = y.name) && (x.opn == y.opn)) && (decide (x.items.length = y.items.length) && ZeR ZuE x.items y.items)) && eqZ Zjt x.reserved y.reserved) && eqZ jnP x.notes y.notes) from rfl]
   generalize eqZ Zjt x.reserved y.reserved = s1
   generalize eqZ jnP x.notes y.notes = s2
   generalize (x.opn == y.opn) = s3
   by_cases c1 : x.name = y.name
   ·by_cases c2 : x.items.length = y.items.length
    ·simp only [c1, c2, q2 i x y hm c2, decide_true, Yz, YaR, Yan]
     cases s1 <;> cases s2 <;> cases s3 <;> cases ZeR ZuE x.items y.items <;> simp [g2]
    ·simp only [c1, c2, decide_true, decide_false]
     cases s3 <;> simp
   ·simp only [c1, decide_false]
    simp)
  dsimp only [Zmc, Zmk, ZmE, ZmC, Zxk, ZvG, ZxE, br, ix, vz, vy, vw, vs, lr, lrt, ln, lxe, lc, lf, wa, clg, csg, cfg, sL, Bd.c, Bd.vl, mlk, mpu, mdl, mvm]
  rw [q1]
  simp only [hl, decide_true, Yz, Yf, if_false, Option.bind_some, Yan]
  cases ZeR jeP l k <;> rfl
 ·have hi : ((l.length : Int) = (k.length : Int)) = False := eq_false (by omega)
  dsimp only [Zmc, Zmk, ZmE, ZmC, Zxk, ZvG, ZxE, br, ix, vz, vy, vw, vs, lr, lrt, ln, lxe, lc, lf, wa, clg, csg, cfg, sL, Bd.c, Bd.vl, mlk, mpu, mdl, mvm]
  simp only [hi, hl, decide_false, YK, if_true, Yah]
theorem j29 (l k : List Svc) (h : l.length < 4611686018427387904) (ho : ∀ m ∈ l, OkV m) : Zaq l k = some (eqZ Zkv l k) := by
 have q2 : ∀ (v : Nat) (x y : Svc), OkV x → x.methods.length = y.methods.length → Zaa (Zkg l k v x y) big 0 = some (if ZeR ZuI x.methods y.methods = true then .inl () else .inr false) := fun v x y hm hl => ZbW x.methods y.methods ZuI () false hl (hN := hm.m) (he := by simp [Zkg, Zmu, vw]) (hs := by
   intro i d f hx hy
   obtain ⟨h1, e1⟩ := Ya.1 hx
   obtain ⟨h3, e3⟩ := Ya.1 hy
   have g0 := hm.m
   have g1 := Zcl hx
   have g2 : i + 1 < 9223372036854775808 := by omega
   have g3 := j71 d.notes f.notes (hm.d d (Ye hx))
   dsimp only [Zkg, Zmu, br, ix, vz, vw, vs, lrt, ln, lxe, lf, wa, clg, csg, cfg, sL, Bd.c, Bd.vl, mlk, mpu, mdl, mvm, ixg]
   simp only [g1, g2, hx, hy, decide_true, if_true, Option.bind_some]
   unfold ZuI
   simp only [g3, Y1, YJ, implies_true, if_true]
   by_cases q1 : d.name = f.name <;> by_cases q2 : d.inn = f.inn <;> by_cases q3 : d.out = f.out <;> by_cases q4 : d.shape = f.shape <;> simp [q1, q2, q3, q4] <;> cases eqZ jnP d.notes f.notes <;> simp)
 unfold Zaq
 rw [show eqZ Zkv l k = (decide (l.length = k.length) && ZeR Zkv l k) from rfl]
 by_cases hl : l.length = k.length
 ·have hi : ((l.length : Int) = (k.length : Int)) = True := eq_true (by omega)
  have q1 : Zaa (ZkT l k) big 0 = some (if ZeR Zkv l k = true then .inl () else .inr false) := ZbW l k Zkv () false hl (hN := h) (he := by simp [ZkT, ZlL, Zl8, ZmN, ix, vz, vs]) (hs := by
   intro i x y hx hy
   have g1 := Zcl hx
   have g0 := (Ya.1 hx).1
   have g2 : i + 1 < 9223372036854775808 := by omega
   have hm := ho x (Ye hx)
   have e2 := j71 x.notes y.notes hm.n
   have i2 : ((x.methods.length : Int) = (y.methods.length : Int)) = (x.methods.length = y.methods.length) := propext ⟨by omega, by omega⟩
   dsimp only [ZkT, ZlL, Zl8, ZmN, br, ix, vz, vy, vw, vs, lrt, ln, lxe, lc, lf, wa, clg, csg, cfg, sL, Bd.c, Bd.vl, mlk, mpu, mdl, mvm]
   simp only [g1, hx, hy, decide_true, if_true, Option.bind_some, Y1, YJ, implies_true, e2, i2]
   rw [show Zkv x y = ((decide (x.name = y.name) && (decide (x.methods.length = y.methods.length) && ZeR ZuI x.methods y.methods)) && eqZ jnP x.notes y.notes) from rfl]
   generalize eqZ jnP x.notes y.notes = s2
   by_cases c1 : x.name = y.name
   ·by_cases c2 : x.methods.length = y.methods.length
    ·simp only [c1, c2, q2 i x y hm c2, decide_true, Yz, YaR, Yan]
     cases s2 <;> cases ZeR ZuI x.methods y.methods <;> simp [g2]
    ·simp only [c1, c2, decide_true, decide_false]
     simp
   ·simp only [c1, decide_false]
    simp)
  dsimp only [Zmu, ZlL, Zl8, ZmN, ZwJ, ZuT, Zxu, br, ix, vz, vy, vw, vs, lr, lrt, ln, lxe, lc, lf, wa, clg, csg, cfg, sL, Bd.c, Bd.vl, mlk, mpu, mdl, mvm]
  rw [q1]
  simp only [hl, decide_true, Yz, Yf, if_false, Option.bind_some, Yan]
  cases ZeR Zkv l k <;> rfl
 ·have hi : ((l.length : Int) = (k.length : Int)) = False := eq_false (by omega)
  dsimp only [Zmu, ZlL, Zl8, ZmN, ZwJ, ZuT, Zxu, br, ix, vz, vy, vw, vs, lr, lrt, ln, lxe, lc, lf, wa, clg, csg, cfg, sL, Bd.c, Bd.vl, mlk, mpu, mdl, mvm]
  simp only [hi, hl, decide_false, YK, if_true, Yah]
theorem Zk3 {α : Type} {p : α → α → Bool} (h : ∀ x, p x x = true) : ∀ l : List α, ZeR p l l = true
 | [] => rfl
 | x :: l => by
  have := Zk3 h l
  unfold ZeR at this ⊢
  rw [List.zip_cons_cons, YaP, h, this]
  rfl
theorem ZbP {α : Type} {p : α → α → Bool} (h : ∀ x, p x x = true) (l : List α) : eqZ p l l = true := by
 unfold eqZ
 rw [Zk3 h]
 simp
theorem Zf8 (x : Nt) : jnP x x = true := by simp [jnP, jvP]
theorem ZCW (x : Fld) : jfP x x = true := by simp [jfP, jvP, ZbP Zf8]
theorem Zsh (x : Msg) : jmP x x = true := by simp [jmP, ZbP Zf8, ZbP ZCW, ZbP (p := Zjt) (fun x => by simp [Zjt]), ZbP (p := Zqb) (fun x => by simp [Zqb])]
theorem ZwK (x : Itm) : ZuE x x = true := by simp [ZuE, ZbP Zf8]
theorem Zsx (x : Enm) : jeP x x = true := by simp [jeP, ZbP Zf8, ZbP ZwK, ZbP (p := Zjt) (fun x => by simp [Zjt])]
theorem ZxO (x : Mth) : ZuI x x = true := by simp [ZuI, ZbP Zf8]
theorem ZoE (x : Svc) : Zkv x x = true := by simp [Zkv, ZbP Zf8, ZbP ZxO]
theorem j40 (s : Scm) {ns : List ByteArray} (h : SzO s ns) : ZdX s = some (Zii s) := by
 have q1 : ∀ r, Zaa (ZhE s) big (0, r) = some (.inl (Zgk r (s.messages.map (·.name)))) := fun r => by
  have := Zax (B := ZhE s) (N := big) s.messages (fun p => Zgk r (p.map (·.name))) (fun i b => (i, b)) id (hN := Zag (by have := h.m; omega)) (he := by simp [ZhE, ZqQ, br]) (hs := fun i x hx => by
   have g1 := Zcl hx
   have g0 := (Ya.1 hx).1
   have g3 := h.m
   have g2 : i + 1 < 9223372036854775808 := by omega
   dsimp only [ZhE, ZqQ, br, ix, vw, vs, ln, lxe, lf, wa, mlk, mpu, mdl, mvm, rb, cr, tro, ch]
   simp only [g1, g2, hx, decide_true, if_true, Option.bind_some, YE, Yo, YT, Zcz]
   rfl)
  exact this
 have q2 : ∀ r, Zaa (ZhG s) big (0, r) = some (.inl (Zgk r (s.enums.map (·.name)))) := fun r => by
  have := Zax (B := ZhG s) (N := big) s.enums (fun p => Zgk r (p.map (·.name))) (fun i b => (i, b)) id (hN := Zag (by have := h.e; omega)) (he := by simp [ZhG, ZtZ, br]) (hs := fun i x hx => by
   have g1 := Zcl hx
   have g0 := (Ya.1 hx).1
   have g3 := h.e
   have g2 : i + 1 < 9223372036854775808 := by omega
   dsimp only [ZhG, ZtZ, br, ix, vw, vs, ln, lxe, lf, wa, mlk, mpu, mdl, mvm, rb, cr, tro, ch]
   simp only [g1, g2, hx, decide_true, if_true, Option.bind_some, YE, Yo, YT, Zcz]
   rfl)
  exact this
 have q3 : ∀ r, Zaa (ZhJ s) big (0, r) = some (.inl (Zgk r (s.services.map (·.name)))) := fun r => by
  have := Zax (B := ZhJ s) (N := big) s.services (fun p => Zgk r (p.map (·.name))) (fun i b => (i, b)) id (hN := Zag (by have := h.v; omega)) (he := by simp [ZhJ, Zri, br]) (hs := fun i x hx => by
   have g1 := Zcl hx
   have g0 := (Ya.1 hx).1
   have g3 := h.v
   have g2 : i + 1 < 9223372036854775808 := by omega
   dsimp only [ZhJ, Zri, br, ix, vw, vs, ln, lxe, lf, wa, mlk, mpu, mdl, mvm, rb, cr, tro, ch]
   simp only [g1, g2, hx, decide_true, if_true, Option.bind_some, YE, Yo, YT, Zcz]
   rfl)
  exact this
 unfold ZdX
 dsimp only [ZFd, ZBE, ZCh, Zz7, ZAs, vz, vw, lr, lc, lf, mlk, mpu, mdl, mvm, rb, cr, tro, ch]
 simp only [q1, q2, q3, Option.bind_some, Sum.elim_inl, Zii, nmS, Zcz]
theorem j75 (l : List Msg) (h : l.length < 549755813888) : Zbh l = some l := by
 unfold Zbh
 simp only [ZCD, al, Yf, if_false, h, if_true]
theorem j26 (l : List Enm) (h : l.length < 549755813888) : Zbd l = some l := by
 unfold Zbd
 simp only [ZxU, al, Yf, if_false, h, if_true]
theorem j80 (l : List Svc) (h : l.length < 549755813888) : Zbg l = some l := by
 unfold Zbg
 simp only [ZDu, al, Yf, if_false, h, if_true]
section
variable {α : Type}
def ZzD (nm : α → ByteArray) (a : List α) (x : α) : Option α := a.find? fun z => decide (nm z = nm x)
def Zhk (nm : α → ByteArray) (p : α → α → Bool) (K : List ByteArray) (a : List α) (x : α) : Bool := match ZzD nm a x with
 | some z => !p z x
 | none => K.any fun y => decide (y = nm x)
def Zev (nm : α → ByteArray) (a b : List α) : List α := a ++ b.filter fun x => (ZzD nm a x).isNone
theorem ZeV (nm : α → ByteArray) (a b : List α) : (Zev nm a b).length ≤ a.length + b.length := by
 unfold Zev
 grind
theorem Zhm (nm : α → ByteArray) (a p : List α) (x : α) : Zev nm a (p ++ [x]) = Zev nm a p ++ (if (ZzD nm a x).isNone = true then [x] else []) := by
 unfold Zev
 grind
theorem Zjg (nm : α → ByteArray) (a : List α) : Zev nm a [] = a := by simp [Zev]
theorem Zjf {nm : α → ByteArray} {a : List α} {x : α} (h : a.findIdx? (fun z => decide (nm z = nm x)) = none) : ZzD nm a x = none := by
 unfold ZzD
 grind
theorem ZiU {nm : α → ByteArray} {a : List α} {x : α} {i : Nat} (h : a.findIdx? (fun z => decide (nm z = nm x)) = some i) : ∃ h1 : i < a.length, ZzD nm a x = some a[i] := by
 obtain ⟨h1, h2, h3⟩ := YX.1 h
 exact ⟨h1, List.find?_eq_some_iff_getElem.2 ⟨h2, i, h1, rfl, fun j hj => by simpa using h3 j hj⟩⟩
theorem ZdB {ρ : Type} (bad : α → Bool) (z : ρ) : ∀ (l p : List α), ZaM (fun _ x => if bad x = true then some z else none) p l = if l.any bad = true then some z else none
 | [], p => rfl
 | x :: l, p => by
  rw [ZaM]
  cases h : bad x with
  | true => simp [h]
  | false =>
   simp only [h, Yf, if_false, List.any_cons, YaR]
   exact ZdB bad z l _
end
theorem j47 (l : List Msg) (f : Msg → Option Bool) (p : Msg → Bool) (hf : ∀ x ∈ l, f x = some (p x)) (h : l.length < 4611686018427387904) : ZbO l f = some (ixQ l p) := by
 unfold ZbO
 simp only [ZJN, ZHt, ZF3, vz, lr, lc, lf]
 rw [Za8 l p (fun i => (i : Int)) () (hN := Zag h) (he := by simp [ZwF, ZCp, br]) (hs := by
  intro i y hy
  obtain ⟨h1, rfl⟩ := Ya.1 hy
  have h2 : i + 1 < 9223372036854775808 := by omega
  have h3 := hf l[i] (Ye hy)
  simp [ZwF, ZCp, br, h1, h2, h3]
  cases p l[i] <;> rfl)]
 unfold ixQ
 cases l.findIdx? _ <;> rfl
theorem j13 (a b : List Msg) (h : List (ByteArray × Bool)) (K : List ByteArray) (hk : ∀ y, lkM y h = K.any fun z => decide (z = y)) (hl : a.length + b.length ≤ 1048576) (ho : ∀ m ∈ a, OkM m) :
  ZbB a b h = some (if b.any (Zhk (fun m => m.name) jmP K a) = true then (false, []) else (true, Zev (fun m => m.name) a b)) := by
 have q1 : Zaa (ZoN a b h) big (a, 0) = some ((ZaM (fun _ x => if Zhk (fun m => m.name) jmP K a x = true then some ((false, []) : Bool × List Msg) else none) [] b).elim (.inl (Zev (fun m => m.name) a b)) .inr) := by
  have := ZbU (B := ZoN a b h) (N := big) b (fun p => Zev (fun m => m.name) a p) (fun _ x => if Zhk (fun m => m.name) jmP K a x = true then some ((false, []) : Bool × List Msg) else none) (fun i c => (c, i)) id (hN := Zag (by omega)) (he := by simp [ZoN, ZEH, br]) (hs := fun i x hx => by
   have g1 := Zcl hx
   have g0 := (Ya.1 hx).1
   have g2 : i + 1 < 9223372036854775808 := by omega
   have g3 := j47 a (fun z0 => Zbj z0 x) (fun z => decide (z.name = x.name)) (fun z _ => rfl) (by omega)
   have g4 : (Zev (fun m : Msg => m.name) a (b.take i)).length < 549755813887 := by
    have := ZeV (fun m : Msg => m.name) a (b.take i)
    rw [Yr] at this
    omega
   have g5 : ZfR x = some x.name := rfl
   rw [Zhm]
   dsimp only [ZoN, ZEH, br, ix, vz, vw, vs, lrt, ln, lxe, lf, ap, cs, wa, mv, clg, csg, cfg, sL, Bd.c, Bd.vl, mlk, mpu, mdl, mvm, mlg, ixg, tw, du, lxc, lrt]
   simp only [g1, g2, g3, g4, g5, hx, decide_true, if_true, Option.bind_some]
   unfold Zhk
   cases hf : a.findIdx? fun z => decide (z.name = x.name) with
   | none =>
    have e1 : ixQ a (fun z => decide (z.name = x.name)) = -1 := by unfold ixQ; rw [hf]
    rw [Zjf (nm := fun m : Msg => m.name) hf, e1]
    simp [hk]
    try (split <;> simp_all)
   | some j =>
    have e1 : ixQ a (fun z => decide (z.name = x.name)) = (j : Int) := by unfold ixQ; rw [hf]
    obtain ⟨hj, e2⟩ := ZiU (nm := fun m : Msg => m.name) hf
    have e3 := j15 a[j] x (ho _ (Y9 hj))
    rw [e2, e1]
    have b1 : (0 : Int) ≤ (j : Int) := by omega
    have b2 : (j : Int) < (a.length : Int) := by omega
    have b3 : ¬ (j : Int) < 0 := by omega
    simp [b1, b2, b3, hj, e3, Yj]
    cases jmP a[j] x <;> simp)
  rw [Zjg] at this
  exact this
 rw [ZdB] at q1
 unfold ZbB
 dsimp only [ZK1, ZKI, ZEF, ZBe, vz, lc, clg, csg, cfg, sL, Bd.c, Bd.vl, mlk, mpu, mdl, mvm, mlg, ixg, tw, du, lxc, lrt]
 rw [j75 a (by omega)]
 dsimp only [Option.bind_some, ZEF, ZBe, vz, lc, clg, csg, cfg, sL, Bd.c, Bd.vl, mlk, mpu, mdl, mvm, mlg, ixg, tw, du, lxc, lrt]
 rw [q1]
 by_cases hb : b.any (Zhk (fun m => m.name) jmP K a) = true
 ·rw [if_pos hb, if_pos hb]
  rfl
 ·rw [if_neg hb, if_neg hb]
  rfl
theorem j54 (l : List Enm) (f : Enm → Option Bool) (p : Enm → Bool) (hf : ∀ x ∈ l, f x = some (p x)) (h : l.length < 4611686018427387904) : Za5 l f = some (ixQ l p) := by
 unfold Za5
 simp only [ZBy, ZAv, Zz9, vz, lr, lc, lf]
 rw [Za8 l p (fun i => (i : Int)) () (hN := Zag h) (he := by simp [ZpI, ZtL, br]) (hs := by
  intro i y hy
  obtain ⟨h1, rfl⟩ := Ya.1 hy
  have h2 : i + 1 < 9223372036854775808 := by omega
  have h3 := hf l[i] (Ye hy)
  simp [ZpI, ZtL, br, h1, h2, h3]
  cases p l[i] <;> rfl)]
 unfold ixQ
 cases l.findIdx? _ <;> rfl
theorem j16 (a b : List Enm) (h : List (ByteArray × Bool)) (K : List ByteArray) (hk : ∀ y, lkM y h = K.any fun z => decide (z = y)) (hl : a.length + b.length ≤ 1048576) (ho : ∀ m ∈ a, OkE m) :
  Zcn a b h = some (if b.any (Zhk (fun m => m.name) jeP K a) = true then (false, []) else (true, Zev (fun m => m.name) a b)) := by
 have q1 : Zaa (Zpb a b h) big (a, 0) = some ((ZaM (fun _ x => if Zhk (fun m => m.name) jeP K a x = true then some ((false, []) : Bool × List Enm) else none) [] b).elim (.inl (Zev (fun m => m.name) a b)) .inr) := by
  have := ZbU (B := Zpb a b h) (N := big) b (fun p => Zev (fun m => m.name) a p) (fun _ x => if Zhk (fun m => m.name) jeP K a x = true then some ((false, []) : Bool × List Enm) else none) (fun i c => (c, i)) id (hN := Zag (by omega)) (he := by simp [Zpb, ZEy, br]) (hs := fun i x hx => by
   have g1 := Zcl hx
   have g0 := (Ya.1 hx).1
   have g2 : i + 1 < 9223372036854775808 := by omega
   have g3 := j54 a (fun z0 => ZbY z0 x) (fun z => decide (z.name = x.name)) (fun z _ => rfl) (by omega)
   have g4 : (Zev (fun m : Enm => m.name) a (b.take i)).length < 549755813887 := by
    have := ZeV (fun m : Enm => m.name) a (b.take i)
    rw [Yr] at this
    omega
   have g5 : ZfA x = some x.name := rfl
   rw [Zhm]
   dsimp only [Zpb, ZEy, br, ix, vz, vw, vs, lrt, ln, lxe, lf, ap, cs, wa, mv, clg, csg, cfg, sL, Bd.c, Bd.vl, mlk, mpu, mdl, mvm, mlg, ixg, tw, du, lxc, lrt]
   simp only [g1, g2, g3, g4, g5, hx, decide_true, if_true, Option.bind_some]
   unfold Zhk
   cases hf : a.findIdx? fun z => decide (z.name = x.name) with
   | none =>
    have e1 : ixQ a (fun z => decide (z.name = x.name)) = -1 := by unfold ixQ; rw [hf]
    rw [Zjf (nm := fun m : Enm => m.name) hf, e1]
    simp [hk]
    try (split <;> simp_all)
   | some j =>
    have e1 : ixQ a (fun z => decide (z.name = x.name)) = (j : Int) := by unfold ixQ; rw [hf]
    obtain ⟨hj, e2⟩ := ZiU (nm := fun m : Enm => m.name) hf
    have e3 := j18 a[j] x (ho _ (Y9 hj))
    rw [e2, e1]
    have b1 : (0 : Int) ≤ (j : Int) := by omega
    have b2 : (j : Int) < (a.length : Int) := by omega
    have b3 : ¬ (j : Int) < 0 := by omega
    simp [b1, b2, b3, hj, e3, Yj]
    cases jeP a[j] x <;> simp)
  rw [Zjg] at this
  exact this
 rw [ZdB] at q1
 unfold Zcn
 dsimp only [ZKD, ZJb, ZB3, ZAp, vz, lc, clg, csg, cfg, sL, Bd.c, Bd.vl, mlk, mpu, mdl, mvm, mlg, ixg, tw, du, lxc, lrt]
 rw [j26 a (by omega)]
 dsimp only [Option.bind_some, ZB3, ZAp, vz, lc, clg, csg, cfg, sL, Bd.c, Bd.vl, mlk, mpu, mdl, mvm, mlg, ixg, tw, du, lxc, lrt]
 rw [q1]
 by_cases hb : b.any (Zhk (fun m => m.name) jeP K a) = true
 ·rw [if_pos hb, if_pos hb]
  rfl
 ·rw [if_neg hb, if_neg hb]
  rfl
theorem j59 (l : List Svc) (f : Svc → Option Bool) (p : Svc → Bool) (hf : ∀ x ∈ l, f x = some (p x)) (h : l.length < 4611686018427387904) : ZbX l f = some (ixQ l p) := by
 unfold ZbX
 simp only [ZIu, ZK8, ZIe, vz, lr, lc, lf]
 rw [Za8 l p (fun i => (i : Int)) () (hN := Zag h) (he := by simp [Zvo, ZEX, br]) (hs := by
  intro i y hy
  obtain ⟨h1, rfl⟩ := Ya.1 hy
  have h2 : i + 1 < 9223372036854775808 := by omega
  have h3 := hf l[i] (Ye hy)
  simp [Zvo, ZEX, br, h1, h2, h3]
  cases p l[i] <;> rfl)]
 unfold ixQ
 cases l.findIdx? _ <;> rfl
theorem j19 (a b : List Svc) (h : List (ByteArray × Bool)) (K : List ByteArray) (hk : ∀ y, lkM y h = K.any fun z => decide (z = y)) (hl : a.length + b.length ≤ 1048576) (ho : ∀ m ∈ a, OkV m) :
  ZbD a b h = some (if b.any (Zhk (fun m => m.name) Zkv K a) = true then (false, []) else (true, Zev (fun m => m.name) a b)) := by
 have q1 : Zaa (Zo1 a b h) big (a, 0) = some ((ZaM (fun _ x => if Zhk (fun m => m.name) Zkv K a x = true then some ((false, []) : Bool × List Svc) else none) [] b).elim (.inl (Zev (fun m => m.name) a b)) .inr) := by
  have := ZbU (B := Zo1 a b h) (N := big) b (fun p => Zev (fun m => m.name) a p) (fun _ x => if Zhk (fun m => m.name) Zkv K a x = true then some ((false, []) : Bool × List Svc) else none) (fun i c => (c, i)) id (hN := Zag (by omega)) (he := by simp [Zo1, ZBs, br]) (hs := fun i x hx => by
   have g1 := Zcl hx
   have g0 := (Ya.1 hx).1
   have g2 : i + 1 < 9223372036854775808 := by omega
   have g3 := j59 a (fun z0 => Zbk z0 x) (fun z => decide (z.name = x.name)) (fun z _ => rfl) (by omega)
   have g4 : (Zev (fun m : Svc => m.name) a (b.take i)).length < 549755813887 := by
    have := ZeV (fun m : Svc => m.name) a (b.take i)
    rw [Yr] at this
    omega
   have g5 : ZfS x = some x.name := rfl
   rw [Zhm]
   dsimp only [Zo1, ZBs, br, ix, vz, vw, vs, lrt, ln, lxe, lf, ap, cs, wa, mv, clg, csg, cfg, sL, Bd.c, Bd.vl, mlk, mpu, mdl, mvm, mlg, ixg, tw, du, lxc, lrt]
   simp only [g1, g2, g3, g4, g5, hx, decide_true, if_true, Option.bind_some]
   unfold Zhk
   cases hf : a.findIdx? fun z => decide (z.name = x.name) with
   | none =>
    have e1 : ixQ a (fun z => decide (z.name = x.name)) = -1 := by unfold ixQ; rw [hf]
    rw [Zjf (nm := fun m : Svc => m.name) hf, e1]
    simp [hk]
    try (split <;> simp_all)
   | some j =>
    have e1 : ixQ a (fun z => decide (z.name = x.name)) = (j : Int) := by unfold ixQ; rw [hf]
    obtain ⟨hj, e2⟩ := ZiU (nm := fun m : Svc => m.name) hf
    have e3 := j21 a[j] x (ho _ (Y9 hj))
    rw [e2, e1]
    have b1 : (0 : Int) ≤ (j : Int) := by omega
    have b2 : (j : Int) < (a.length : Int) := by omega
    have b3 : ¬ (j : Int) < 0 := by omega
    simp [b1, b2, b3, hj, e3, Yj]
    cases Zkv a[j] x <;> simp)
  rw [Zjg] at this
  exact this
 rw [ZdB] at q1
 unfold ZbD
 dsimp only [ZKC, ZGV, ZB0, ZAW, vz, lc, clg, csg, cfg, sL, Bd.c, Bd.vl, mlk, mpu, mdl, mvm, mlg, ixg, tw, du, lxc, lrt]
 rw [j80 a (by omega)]
 dsimp only [Option.bind_some, ZB0, ZAW, vz, lc, clg, csg, cfg, sL, Bd.c, Bd.vl, mlk, mpu, mdl, mvm, mlg, ixg, tw, du, lxc, lrt]
 rw [q1]
 by_cases hb : b.any (Zhk (fun m => m.name) Zkv K a) = true
 ·rw [if_pos hb, if_pos hb]
  rfl
 ·rw [if_neg hb, if_neg hb]
  rfl
theorem ZjL {α : Type} (e : α → List D) (w : α → Nat) (c : Nat) (h : ∀ x, w x ≤ c * bkL (e x)) : ∀ l : List α, (l.map w).sum ≤ c * Zer (l.map e)
 | [] => by simp
 | x :: l => by
  have h1 := h x
  have h2 := ZjL e w c h l
  simp only [Yo, YY, Zer, Nat.mul_add]
  omega
def bJ (a b : Scm) : Bool := (b.messages.any (Zhk (fun m => m.name) jmP (nmS a) a.messages) || b.enums.any (Zhk (fun m => m.name) jeP (nmS a) a.enums)) || b.services.any (Zhk (fun m => m.name) Zkv (nmS a) a.services)
def sJ (a b : Scm) : Scm := ⟨Zip (fun y => y.name) (Zev (fun m => m.name) a.messages b.messages), Zip (fun y => y.name) (Zev (fun m => m.name) a.enums b.enums), Zip (fun y => y.name) (Zev (fun m => m.name) a.services b.services)⟩
structure SzJ (a b : Scm) : Prop where
 z : SzO a []
 o : OkS a
 o2 : OkS b
 m : a.messages.length + b.messages.length ≤ 1048576
 e : a.enums.length + b.enums.length ≤ 1048576
 v : a.services.length + b.services.length ≤ 1048576
theorem ZAt (s : Scm) (y : ByteArray) : lkM y (Zii s) = (nmS s).any fun z => decide (z = y) := by
 rw [YbT, ZfZ, Y0]
 grind
theorem jp5 (a b : Scm) (h : SzJ a b) (n1 : ((Zev (fun m : Msg => m.name) a.messages b.messages).map fun y => y.name).Nodup) (n2 : ((Zev (fun m : Enm => m.name) a.enums b.enums).map fun y => y.name).Nodup) (n3 : ((Zev (fun m : Svc => m.name) a.services b.services).map fun y => y.name).Nodup) : Zfp a b = some (if bJ a b = true then (⟨[], [], []⟩, 9) else (sJ a b, 0)) := by
 have e1 := j13 a.messages b.messages (Zii a) (nmS a) (ZAt a) h.m h.o.om
 have e2 := j16 a.enums b.enums (Zii a) (nmS a) (ZAt a) h.e h.o.oe
 have e3 := j19 a.services b.services (Zii a) (nmS a) (ZAt a) h.v h.o.ov
 have s0 := ZOf (Zev (fun m => m.name) a.messages b.messages) (Zev (fun m => m.name) a.enums b.enums) (Zev (fun m => m.name) a.services b.services)
  (Yaj (ZeV _ _ _) h.m) (Yaj (ZeV _ _ _) h.e) (Yaj (ZeV _ _ _) h.v) n1 n2 n3
 unfold Zfp bJ sJ
 dsimp only [ZKs, ZKV, ZO5, ZOp, ZPe, ZOa, ZOh, ZOm, ZOk, br, vz, vw, lr, lc, lf, cl, clg, csg, cfg, sL, Bd.c, Bd.vl, mlk, mpu, mdl, mvm, mlg, ixg, tw, du, lxc, lrt]
 simp only [j40 a h.z, e1, e2, e3, Option.bind_some]
 generalize b.messages.any _ = b1
 generalize b.enums.any _ = b2
 generalize b.services.any _ = b3
 cases b1 <;> cases b2 <;> cases b3 <;> simp only [Yf, if_true, if_false, Yz, YK, Bool.or_true, Bool.or_false, s0, Option.bind_some] <;> rfl
theorem Zt6 (s : Scm) (h : OkS s) : ZaR s s = some true := by
 unfold ZaR
 simp [ZME, vw, j25 _ _ h.m h.om, j27 _ _ h.e h.oe, j29 _ _ h.v h.ov, ZbP Zsh, ZbP Zsx, ZbP ZoE]
set_option maxRecDepth 100000 in
theorem aw : ZcS = some true := by kernel_rfl
theorem ZM2 {α : Type} (a b c d e f : List α) : (a ++ d ++ (b ++ e) ++ (c ++ f)).Perm ((a ++ b ++ c) ++ (d ++ e ++ f)) := by
 classical
 rw [List.perm_iff_count]
 intro x
 simp only [List.count_append]
 omega
section
variable {α : Type} (nm : α → ByteArray) (p q : ByteArray → Bool)
theorem ZID {l : List α} (hn : (l.map nm).Nodup) {x y : α} (hx : x ∈ l) (hy : y ∈ l) (e : nm x = nm y) : x = y := by
 induction l with
 | nil => cases hx
 | cons a l ih =>
  rw [Yo, Ya7] at hn
  rcases Yx.1 hx with h1 | h1 <;> rcases Yx.1 hy with h2 | h2
  ·rw [h1, h2]
  ·rw [h1] at e; exact absurd (by rw [e]; exact YaD (f := nm) h2) hn.1
  ·rw [h2] at e; exact absurd (by rw [← e]; exact YaD (f := nm) h1) hn.1
  ·exact ih hn.2 h1 h2
theorem Zk2 {l : List α} (hn : (l.map nm).Nodup) {x : α} (hx : x ∈ l) : ZzD nm (l.filter fun m => p (nm m)) x = if p (nm x) = true then some x else none := by
 unfold ZzD
 cases hf : (l.filter fun m => p (nm m)).find? fun z => decide (nm z = nm x) with
 | none =>
  split
  ·rename_i h
   have := List.find?_eq_none.1 hf x (Y8.2 ⟨hx, h⟩)
   simp at this
  ·rfl
 | some z =>
  have h1 := Y8.1 (YbD hf)
  have h2 : nm z = nm x := by simpa using List.find?_some hf
  have h3 := ZID nm hn h1.1 hx h2
  subst h3
  rw [if_pos h1.2]
theorem Zi7 {P : α → α → Bool} (hP : ∀ x, P x x = true) {l : List α} (hn : (l.map nm).Nodup) {K : List ByteArray} (hK : ∀ x ∈ l, nm x ∈ K → p (nm x) = true) :
  (l.filter fun m => q (nm m)).any (Zhk nm P K (l.filter fun m => p (nm m))) = false := by
 rw [List.any_eq_false]
 intro x hx
 have hx := (Y8.1 hx).1
 unfold Zhk
 rw [Zk2 nm p hn hx]
 cases hp : p (nm x) with
 | true => simp [hP]
 | false =>
  simp
  intro hy
  have := hK x hx hy
  rw [hp] at this
  cases this
theorem Zhz (a b : α → Bool) : ∀ l : List α, (l.filter a ++ l.filter fun x => b x && !a x).Perm (l.filter fun x => a x || b x)
 | [] => .refl _
 | x :: l => by
  have ih := Zhz a b l
  cases ha : a x <;> cases hb : b x <;> simp only [List.filter_cons, ha, hb, Bool.or_false, Bool.or_true, Bool.and_true, Ybt, Yz, YK, if_true, Yf, if_false, YaZ]
  ·exact ih
  ·exact List.perm_middle.trans (ih.cons x)
  ·exact ih.cons x
  ·exact ih.cons x
theorem Znh {l : List α} (hn : (l.map nm).Nodup) : Zev nm (l.filter fun m => p (nm m)) (l.filter fun m => q (nm m)) = (l.filter fun m => p (nm m)) ++ l.filter fun m => q (nm m) && !p (nm m) := by
 unfold Zev
 rw [List.filter_filter]
 congr 1
 refine List.filter_congr fun x hx => ?_
 rw [Zk2 nm p hn hx]
 cases p (nm x) <;> simp
theorem Zjo [Rw α] {l : List α} (hs : l.Pairwise fun x y => sLt (nm x) (nm y) = true) : ((Zev nm (l.filter fun m => p (nm m)) (l.filter fun m => q (nm m))).map nm).Nodup := by
 have nd : ∀ {k : List α}, (k.Pairwise fun x y => sLt (nm x) (nm y) = true) → (k.map nm).Nodup := fun h => Ybe.2 (h.imp fun {a b} h e => by rw [e, Zmx] at h; cases h)
 rw [Znh nm p q (nd hs)]
 exact (((Zhz (fun m => p (nm m)) (fun m => q (nm m)) l).map nm).nodup_iff).2 (nd (hs.sublist List.filter_sublist))
theorem ZiN [Rw α] {l : List α} (hs : l.Pairwise fun x y => sLt (nm x) (nm y) = true) : Zip nm (Zev nm (l.filter fun m => p (nm m)) (l.filter fun m => q (nm m))) = l.filter fun m => p (nm m) || q (nm m) := by
 have h1 := ZbA nm (Zjo nm p q hs)
 have hn : (l.map nm).Nodup := Ybe.2 (hs.imp fun {a b} h e => by rw [e, Zmx] at h; cases h)
 refine Zov (lt := fun x y : α => sLt (nm x) (nm y) = true) (fun a b k1 k2 => by have := ZzT k1 k2; rw [Zmx] at this; cases this) h1.2 (hs.sublist List.filter_sublist) (h1.1.trans ?_)
 rw [Znh nm p q hn]
 exact Zhz (fun m => p (nm m)) (fun m => q (nm m)) l
end
structure Uq (s : Scm) : Prop where
 n : (nmS s).Nodup
 m : s.messages.Pairwise fun x y => sLt x.name y.name = true
 e : s.enums.Pairwise fun x y => sLt x.name y.name = true
 v : s.services.Pairwise fun x y => sLt x.name y.name = true
theorem Zq4 {s : Scm} (h : Uq s) (p q : ByteArray → Bool) : bJ (ZeN s p) (ZeN s q) = false ∧ sJ (ZeN s p) (ZeN s q) = ZeN s fun x => p x || q x := by
 have n0 := h.n
 unfold nmS at n0
 obtain ⟨n1, n2, n3⟩ := YaS.1 n0
 obtain ⟨n4, n5, n6⟩ := YaS.1 n1
 have hK : ∀ x ∈ nmS (ZeN s p), p x = true := fun x hx => by
  rw [ZFv] at hx
  exact (Y8.1 hx).2
 refine ⟨?_, ?_⟩
 ·unfold bJ
  rw [show (ZeN s q).messages.any (Zhk (fun m => m.name) jmP (nmS (ZeN s p)) (ZeN s p).messages) = false from Zi7 (fun m : Msg => m.name) p q Zsh n4 fun x _ hx => hK _ hx,
   show (ZeN s q).enums.any (Zhk (fun m => m.name) jeP (nmS (ZeN s p)) (ZeN s p).enums) = false from Zi7 (fun m : Enm => m.name) p q Zsx n5 fun x _ hx => hK _ hx,
   show (ZeN s q).services.any (Zhk (fun m => m.name) Zkv (nmS (ZeN s p)) (ZeN s p).services) = false from Zi7 (fun m : Svc => m.name) p q ZoE n2 fun x _ hx => hK _ hx]
  rfl
 ·unfold sJ
  have a := ZiN (fun m : Msg => m.name) p q h.m
  have b := ZiN (fun m : Enm => m.name) p q h.e
  have c := ZiN (fun m : Svc => m.name) p q h.v
  show (⟨_, _, _⟩ : Scm) = ⟨_, _, _⟩
  rw [show Zip (fun y : Msg => y.name) (Zev (fun m => m.name) (ZeN s p).messages (ZeN s q).messages) = _ from a, show Zip (fun y : Enm => y.name) (Zev (fun m => m.name) (ZeN s p).enums (ZeN s q).enums) = _ from b, show Zip (fun y : Svc => y.name) (Zev (fun m => m.name) (ZeN s p).services (ZeN s q).services) = _ from c]
open Classical in
theorem ZF9 {s : Scm} {a b : List ByteArray} (x : ByteArray) : Cl s (a ++ b) x ↔ Cl s a x ∨ Cl s b x := by
 constructor
 ·intro h
  refine h.sub (P := fun x => Cl s a x ∨ Cl s b x) (fun x hx => ?_) fun x hx y hy hm => ?_
  ·exact (YaB.1 hx).imp .base .base
  ·exact hx.imp (fun h => .step h hy hm) fun h => .step h hy hm
 ·rintro (h | h)
  ·exact h.sub (P := fun x => Cl s (a ++ b) x) (fun x hx => .base (Yay _ hx)) fun x hx y hy hm => .step hx hy hm
  ·exact h.sub (P := fun x => Cl s (a ++ b) x) (fun x hx => .base (YbZ _ hx)) fun x hx y hy hm => .step hx hy hm
theorem ZBP {fs : List Fil} (h0 : (Zfx fs).2 = 0) (he : fs.findSome? (Zh0 fs) = none) : Uq (ZbV fs) ∧ ∀ x, x ∈ nmS (ZbV fs) ↔ x ∈ Zai fs := by
 have e : ZbV fs = ⟨Zip (fun y => y.name) (fs.flatMap (Zef fs)), Zip (fun y => y.name) (ZaK fs), Zip (fun y => y.name) (fs.flatMap (ZdU fs))⟩ := by unfold ZbV; rw [if_pos h0]
 have hd := Ztm h0
 obtain ⟨d1, d2, d3⟩ := Zh1 hd
 have e1 := Zjm he
 have e2 := Zjb fs
 have e3 := Zi9 he
 have hp : (nmS (ZbV fs)).Perm (Zai fs) := by
  rw [e]
  unfold nmS
  refine (((((ZbA _ (by rw [e1]; exact d1)).1).map _).append (((ZbA _ (by rw [e2]; exact d2)).1).map _)).append (((ZbA _ (by rw [e3]; exact d3)).1).map _)).trans ?_
  rw [e1, e2, e3]
  unfold ZaJ
  clear h0 he e hd d1 d2 d3 e1 e2 e3
  induction fs with
  | nil => exact .refl _
  | cons f l ih =>
   simp only [YG, Zai]
   exact (ZM2 _ _ _ _ _ _).trans (List.Perm.append_left _ ih)
 refine ⟨⟨(hp.nodup_iff).2 hd, ?_, ?_, ?_⟩, fun x => hp.mem_iff⟩
 ·rw [e]; exact (ZbA _ (by rw [e1]; exact d1)).2
 ·rw [e]; exact (ZbA _ (by rw [e2]; exact d2)).2
 ·rw [e]; exact (ZbA _ (by rw [e3]; exact d3)).2
theorem ZmZ {fs : List Fil} (h0 : (Zfx fs).2 = 0) (he : fs.findSome? (Zh0 fs) = none) : (ZbV fs).messages.Perm (fs.flatMap (Zef fs)) ∧ (ZbV fs).services.Perm (fs.flatMap (ZdU fs)) ∧ (ZbV fs).messages.length = Zlk fs ∧ (ZbV fs).enums.length = ZlG fs ∧ (ZbV fs).services.length = ZlX fs := by
 obtain ⟨d1, d2, d3⟩ := Zh1 (Ztm h0)
 unfold ZbV
 rw [if_pos h0]
 have p1 := (ZbA (fun y : Msg => y.name) (by rw [Zjm he]; exact d1)).1
 have p2 := (ZbA (fun y : Enm => y.name) (by rw [Zjb]; exact d2)).1
 have p3 := (ZbA (fun y : Svc => y.name) (by rw [Zi9 he]; exact d3)).1
 exact ⟨p1, p3, by rw [← Zg6]; exact p1.length_eq, by rw [← Zfy]; exact p2.length_eq, by rw [← Zg1]; exact p3.length_eq⟩
end Go.Proofs.YthagpbkmakocjaaGreat
