/-
  What is proved: the second form of wireschemalaw18.PresentUnions: the law returns true and leaves its arguments as they were.
  Condition: the arguments are together of bulk at most 1048576 (the given second form); nothing else.
-/
import Derived.Test.YtpjofefihlbppaaGreatCu31
import Derived.Test.YtpjofefihlbppaaGreatCu29
import Derived.Test.YtpjofefihlbppaaGreatRows
import Derived.WalkKit
import Derived.ProofKit
import Derived.OpenShut
import Derived.JoinedCond
import Derived.Test.YtpjofefihlbppaaGreatCu00
namespace Go.Proofs.YtpjofefihlbppaaGreat
set_option linter.all false
open Go Go.Eng
theorem ZI7 {α ρ : Type} {B : Int × Int × List α → Option (Lv (Int × Int × List α) (Int × List α) ρ)} (l : List α) (p : α → Bool)
  (h1 : ∀ (i j : Nat) (r : List α) x, i ≤ j → r.length = l.length → r[j]? = some x → l[j]? = some x → B ((i : Int), (j : Int), r) = some (.nx (if p x then ((i : Int), ((j + 1 : Nat) : Int), r) else (((i + 1 : Nat) : Int), ((j + 1 : Nat) : Int), r.set i x))))
  (h2 : ∀ (i : Nat) r, B ((i : Int), (l.length : Int), r) = some (.ex ((i : Int), r))) :
  ∀ (k N i j : Nat) (r : List α), j + k = l.length → k < N → i ≤ j → r.length = l.length → r.take i = (l.take j).filter (fun x => !p x) → i = ((l.take j).filter fun x => !p x).length → r.drop j = l.drop j →
  ∃ (i' : Nat) (r' : List α), Zag B N ((i : Int), (j : Int), r) = some (.inl ((i' : Int), r')) ∧ r'.take i' = l.filter (fun x => !p x) ∧ i' = (l.filter fun x => !p x).length ∧ r'.length = l.length := by
 intro k
 induction k with
 | zero =>
  intro N i j r hj hN hij hr ht hi hd
  obtain ⟨N, rfl⟩ : ∃ m, N = m + 1 := ⟨N - 1, by omega⟩
  have : j = l.length := by omega
  subst this
  rw [Ya5] at ht hi
  exact ⟨i, r, by rw [Zag, h2], ht, hi, hr⟩
 | succ k ih =>
  intro N i j r hj hN hij hr ht hi hd
  obtain ⟨N, rfl⟩ : ∃ m, N = m + 1 := ⟨N - 1, by omega⟩
  have hlt : j < l.length := by omega
  have hl : l[j]? = some l[j] := Yb hlt
  have hrj : r[j]? = some l[j] := by
   have := congrArg (fun z => z[0]?) hd
   simpa [YJ, hlt] using this
  have e0 : l.take (j + 1) = l.take j ++ [l[j]] := YY hlt
  rw [Zag, h1 i j r l[j] hij hr hrj hl]
  cases hp : p l[j] with
  | true =>
   refine ih N i (j + 1) r (by omega) (by omega) (by omega) hr ?_ ?_ ?_
   ·rw [e0, Yae, ht]; simp [hp]
   ·rw [e0, Yae]; simpa [hp] using hi
   ·have := congrArg (List.drop 1) hd
    simpa [Yax] using this
  | false =>
   have hir : i < r.length := by omega
   refine ih N (i + 1) (j + 1) (r.set i l[j]) (by omega) (by omega) (by omega) (by rw [List.length_set]; exact hr) ?_ ?_ ?_
   ·rw [e0, Yae, ← ht, YY (by rw [List.length_set]; exact hir), List.take_set_of_le (Ye _), Ybc]
    simp [hp]
   ·rw [e0, Yae, Yp, ← hi]
    simp [hp]
   ·rw [List.drop_set_of_lt (by omega)]
    have := congrArg (List.drop 1) hd
    simpa [Yax] using this
def ixQ {α : Type} (l : List α) (p : α → Bool) : Int := match l.findIdx? p with
 | some i => (i : Int)
 | none => -1
theorem m58 (l : List Fld) (h : l.length < 549755813888) : ZcE l = some l := by
 unfold ZcE
 simp only [Zxw, al, frt, stp, br, ix, ixi, vz, vy, vw, vs, vg, v2, lr, lrt, ln, lxe, lc, lf, lfe, ap, aq, a0, a1, ad, cl, cs, cf, wa, wi, ir, ca, cp, dd, mv, st, ss, sL, Bd.c, Bd.vl, sR, iri, Y2, if_false, h, if_true]
theorem ZE7 (l : List Fld) (f : Fld → Option Bool) (p : Fld → Bool) (hf : ∀ x ∈ l, f x = some (p x)) (h : l.length < 4611686018427387904) : Zbs l f = some (ixQ l p) := by
 unfold Zbs
 simp only [Zfr, Zfq, ZfG, Zfj, al, frt, stp, br, ix, ixi, vz, vy, vw, vs, vg, v2, lr, lrt, ln, lxe, lc, lf, lfe, ap, aq, a0, a1, ad, cl, cs, cf, wa, wi, ir, ca, cp, dd, mv, st, ss, sL, Bd.c, Bd.vl, sR, iri]
 rw [ZcU l p (fun i => (i : Int)) () (hN := Zd9 h) (he := by simp [Zhi, Zfr, Zfq, ZfG, Zfj, al, frt, stp, br, ix, ixi, vz, vy, vw, vs, vg, v2, lr, lrt, ln, lxe, lc, lf, lfe, ap, aq, a0, a1, ad, cl, cs, cf, wa, wi, ir, ca, cp, dd, mv, st, ss, sL, Bd.c, Bd.vl, sR, iri]) (hs := by
  intro i y hy
  obtain ⟨h1, rfl⟩ := Yi.1 hy
  have h2 : i + 1 < 9223372036854775808 := by omega
  have h3 := hf l[i] (Yq hy)
  simp [Zhi, Zfr, Zfq, ZfG, Zfj, al, frt, stp, br, ix, ixi, vz, vy, vw, vs, vg, v2, lr, lrt, ln, lxe, lc, lf, lfe, ap, aq, a0, a1, ad, cl, cs, cf, wa, wi, ir, ca, cp, dd, mv, st, ss, sL, Bd.c, Bd.vl, sR, iri, h1, h2, h3]
  cases p l[i] <;> rfl)]
 unfold ixQ
 cases l.findIdx? _ <;> rfl
theorem m57 (l : List Fld) (f : Fld → Option Bool) (p : Fld → Bool) (hf : ∀ x ∈ l, f x = some (p x)) (h : l.length < 549755813888) : ZbT l f = some (l.filter fun x => !p x) := by
 have e0 := ZE7 l f p hf (by omega)
 unfold ZbT
 dsimp only [Zyn, ZuH, vw, vs, vg, vz, cs, br, lr, lf, lc, wi]
 rw [e0, Option.bind_some]
 cases hi : l.findIdx? p with
 | none =>
  rw [show ixQ l p = -1 from by unfold ixQ; rw [hi]]
  rw [show l.filter (fun x => !p x) = l from YaP.2 fun x hx => by rw [Ya0.1 hi x hx]; rfl]
  rfl
 | some i =>
  obtain ⟨h1, h2, h3⟩ := Y6.1 hi
  rw [show ixQ l p = (i : Int) from by unfold ixQ; rw [hi]]
  have hni : ((i : Int) = -1) = False := eq_false (by omega)
  have hw : -9223372036854775808 ≤ (i : Int) + 1 ∧ (i : Int) + 1 < 9223372036854775808 := by omega
  have ht : (l.take i).filter (fun x => !p x) = l.take i := YaP.2 fun x hx => by
   obtain ⟨j, hj, rfl⟩ := List.mem_take_iff_getElem.1 hx
   rw [Bool.eq_false_iff.2 (h3 j (by omega))]; rfl
  have e1 : (l.take (i + 1)).filter (fun x => !p x) = l.take i := by rw [YY h1, Yae, ht]; simp [h2]
  obtain ⟨i', r', q1, q2, q3, q4⟩ := ZI7 (B := ZnL l f) l p (fun i j r x hij hr hx hl => by
    have g0 := (Yi.1 hl).1
    have g1 : (j : Int) < (l.length : Int) := by omega
    have g3 := hf x (Yq hl)
    have w1 : -9223372036854775808 ≤ (i : Int) + 1 ∧ (i : Int) + 1 < 9223372036854775808 := by omega
    have w2 : -9223372036854775808 ≤ (j : Int) + 1 ∧ (j : Int) + 1 < 9223372036854775808 := by omega
    have b1 : (0 : Int) ≤ (j : Int) := by omega
    have b2 : (0 : Int) ≤ (i : Int) := by omega
    have b3 : (i : Int) < (l.length : Int) := by omega
    have b4 : i < r.length := by omega
    dsimp only [ZnL, Zqb, al, frt, stp, br, ix, ixi, vz, vy, vw, vs, vg, v2, lr, lrt, ln, lxe, lc, lf, lfe, ap, aq, a0, a1, ad, cl, cs, cf, wa, wi, ir, ca, cp, dd, mv, st, ss, sL, Bd.c, Bd.vl, sR, iri, mlk, mpu, mdl, mvm, rb, cr, tro, ch]
    simp only [vwr, iri, g1, g3, w1, w2, b1, b2, b3, b4, hx, and_self, and_true, true_and, decide_true, if_true, Int.toNat_natCast, Option.bind_some]
    cases p x <;> simp)
   (fun i r => by
    dsimp only [ZnL, Zqb, al, frt, stp, br, ix, ixi, vz, vy, vw, vs, vg, v2, lr, lrt, ln, lxe, lc, lf, lfe, ap, aq, a0, a1, ad, cl, cs, cf, wa, wi, ir, ca, cp, dd, mv, st, ss, sL, Bd.c, Bd.vl, sR, iri, mlk, mpu, mdl, mvm, rb, cr, tro, ch]
    simp)
   (l.length - (i + 1)) big i (i + 1) l (by omega) (Zd9 (by omega)) (by omega) rfl e1.symm (by rw [e1, YH]; omega) rfl
  rw [show ((i : Int) + 1) = ((i + 1 : Nat) : Int) from rfl] at hw ⊢
  simp only [hni, hw, q1, decide_false, decide_true, Y2, and_self, if_true, if_false, Option.bind_some, Sum.elim_inl]
  have b1 : i' ≤ l.length := by rw [q3]; exact YaG _ _
  have b2 : (i' : Int) = ((r'.take i').length : Int) := by rw [YH]; omega
  simp [ZxW, q2, q4, al, frt, stp, br, ix, ixi, vz, vy, vw, vs, vg, v2, lr, lrt, ln, lxe, lc, lf, lfe, ap, aq, a0, a1, ad, cl, cs, cf, wa, wi, ir, ca, cp, dd, mv, st, ss, sL, Bd.c, Bd.vl, sR, iri, mlk, mpu, mdl, mvm, rb, cr, tro, ch]
  omega
theorem Zfa {α : Type} (p : α → Bool) : ∀ l : List α, l.find? p = (l.findIdx? p).bind fun i => l[i]?
 | [] => rfl
 | x :: l => by
  rw [List.find?_cons, List.findIdx?_cons]
  cases h : p x with
  | true => simp
  | false =>
   rw [Zfa p l]
   cases List.findIdx? p l <;> simp
def Zfd {α : Type} [Inhabited α] (l : List α) (z : α) (p : α → Bool) : α × Bool := (l.find? p).elim (z, false) fun x => (x, true)
theorem ZiK {α : Type} [Inhabited α] (l : List α) (z : α) (p : α → Bool) : Zfd l z p = match l.findIdx? p with | some i => (l.getD i default, true) | none => (z, false) := by
 unfold Zfd
 rw [Zfa]
 cases h : l.findIdx? p with
 | none => rfl
 | some i =>
  have := (Y6.1 h).1
  simp [this]
def zM : Msg := .mk ⟨#[]⟩ [] [] [] []
def zF : Fld := .mk 0 ⟨#[]⟩ 0 0 (.mk 0 ⟨#[]⟩) ⟨#[]⟩ false (.mk 0 0 ⟨#[]⟩ [] [] [] []) []
theorem m32 (s : Scm) (n : ByteArray) (h : s.messages.length ≤ 1048576) : Zba s n = some (Zfd s.messages zM fun m => decide (m.name = n)) := by
 have q1 := ZcU (B := Zn9 s n) (N := big) s.messages (fun m => decide (m.name = n)) (fun i => (s.messages.getD i default, true)) () (fun i x hx => by
  have g1 := ZhZ hx
  have g0 := (Yi.1 hx).1
  have g2 : i + 1 < 9223372036854775808 := by omega
  dsimp only [Zn9, Zrx, br, ix, vz, vw, vs, lrt, ln, lxe, wa, eqL, br]
  simp only [g1, g2, hx, decide_true, if_true, Option.bind_some, Yr, YU]
  cases decide (x.name = n) <;> simp) (by simp [Zn9, Zrx, br, ix, vz, vw, vs, lrt, ln, lxe, wa, eqL, br]) (Zd9 (by omega))
 dsimp only [Zba, ZwY, Zxe, ZwD, vw, lr, lc]
 rw [q1, ZiK]
 cases s.messages.findIdx? fun m => decide (m.name = n) <;> rfl
theorem m34 (m : Msg) (k : Int) (h : m.fields.length ≤ 1048576) : Zbu m k = some (Zfd m.fields zF fun f => decide (f.num = k)) := by
 have q1 := ZcU (B := Zpn m k) (N := big) m.fields (fun f => decide (f.num = k)) (fun i => (m.fields.getD i default, true)) () (fun i x hx => by
  have g1 := ZhZ hx
  have g0 := (Yi.1 hx).1
  have g2 : i + 1 < 9223372036854775808 := by omega
  dsimp only [Zpn, Zrh, br, ix, vz, vw, vs, lrt, ln, lxe, wa, eqL, br]
  simp only [g1, g2, hx, decide_true, if_true, Option.bind_some, Yr, YU]
  cases decide (x.num = k) <;> simp) (by simp [Zpn, Zrh, br, ix, vz, vw, vs, lrt, ln, lxe, wa, eqL, br]) (Zd9 (by omega))
 dsimp only [Zbu, ZuQ, Zwq, Zu6, vw, lr, lc]
 rw [q1, ZiK]
 cases m.fields.findIdx? fun f => decide (f.num = k) <;> rfl
theorem m84 (l : List Msg) (n : ByteArray) (h : l.length ≤ 1048576) : Zbf l (fun z => Za6 z n) = some (Zfd l zM fun m => decide (m.name = n)) := by
 have q1 := ZcU (B := ZmA l fun z => Za6 z n) (N := big) l (fun m => decide (m.name = n)) (fun i => (l.getD i default, true)) () (fun i x hx => by
  have g1 := ZhZ hx
  have g0 := (Yi.1 hx).1
  have g2 : i + 1 < 9223372036854775808 := by omega
  have e : Za6 x n = some (decide (x.name = n)) := rfl
  dsimp only [ZmA, ZqY, br, ix, vw, vs, lrt, ln, lxe, cf, wa, br]
  simp only [g1, g2, hx, e, decide_true, if_true, Option.bind_some, Yr, YU]
  cases decide (x.name = n) <;> simp) (by simp [ZmA, ZqY, br, ix, vw, vs, lrt, ln, lxe, cf, wa, br]) (Zd9 (by omega))
 dsimp only [Zbf, Zw9, Zwm, ZwH, vz, vw, lr, lc, eqL]
 rw [q1, ZiK]
 cases l.findIdx? fun m => decide (m.name = n) <;> rfl
theorem m28 (s : Scm) (n : ByteArray) (h : s.messages.length ≤ 1048576) : Zcy s n = some (.mk (Zfd s.messages zM fun m => decide (m.name = n)).1 s, (Zfd s.messages zM fun m => decide (m.name = n)).2) := by
 dsimp only [Zcy, Zva, vw, lr, cl, Zeb, ZuX, vw, lr, cs]
 rw [m84 _ _ h]
 rfl
theorem m33 (m : Msg) (u : ByteArray) (h : m.fields.length ≤ 1048576) (hu : u ≠ ⟨#[]⟩) : ZaH m u = some (m.fields.filter fun f => decide (f.union = u)) := by
 have q1 := ZhN (B := Zh5 m u) (N := big) (ρ := List Fld) m.fields (fun p => p.filter fun f => decide (f.union = u)) (fun i b => (b, i)) id (fun i x hx => by
  have g1 := ZhZ hx
  have g0 := (Yi.1 hx).1
  have g2 : i + 1 < 9223372036854775808 := by omega
  have g3 : ((m.fields.take i).filter fun f => decide (f.union = u)).length ≤ 1048576 := Yad (YaG _ _) (by rw [YH]; omega)
  have g4 : ((m.fields.take i).filter fun f => decide (f.union = u)).length < 549755813887 := by omega
  have g5 : m.fields[i] = x := by
   have := (Yi.1 hx).2
   exact this
  dsimp only [Zh5, Zlk, br, ix, ixg, vz, vw, vs, v2, ln, lxe, ap, wa, fl, eqL, br]
  simp [g0, g1, g2, g4, g5, hx, hu, Yae]
  by_cases e : x.union = u <;> simp [e]) (by simp [Zh5, Zlk, br, ix, ixg, vz, vw, vs, v2, ln, lxe, ap, wa, fl, eqL, br]) (Zd9 (by omega))
 dsimp only [ZaH, Zq5, Zra, Zqj, ZqH, vz, vw, lr, lc, fl, fr]
 rw [List.filter_nil] at q1
 rw [q1]
 rfl
theorem ZIT (m : Msg) (h : m.fields.length ≤ 1048576) : ZaH m ⟨#[]⟩ = some [] := by
 have q1 := ZhN (B := Zh5 m ⟨#[]⟩) (N := big) (ρ := List Fld) m.fields (fun _ => ([] : List Fld)) (fun i b => (b, i)) id (fun i x hx => by
  have g1 := ZhZ hx
  have g0 := (Yi.1 hx).1
  have g2 : i + 1 < 9223372036854775808 := by omega
  dsimp only [Zh5, Zlk, br, ix, ixg, vz, vw, vs, v2, ln, lxe, ap, wa, fl, eqL, br]
  simp [g0, g1, g2, hx]) (by simp [Zh5, Zlk, br, ix, ixg, vz, vw, vs, v2, ln, lxe, ap, wa, fl, eqL, br]) (Zd9 (by omega))
 dsimp only [ZaH, Zq5, Zra, Zqj, ZqH, vz, vw, lr, lc, fl, fr]
 rw [q1]
 rfl
theorem m29 (m : Msg) (u : ByteArray) (h : m.fields.length ≤ 1048576) (hu : u ≠ ⟨#[]⟩) : Zc5 m u = some (m.fields.filter fun f => decide (f.union = u)) := by
 dsimp only [Zc5, Zw0, Zui, ZyP, ZvU, ZxF, br, vz, vw, lr, lc, fl, fr, br]
 rw [m58 _ (by omega), Option.bind_some, m57 _ (fun z => Zcr z u) (fun f => !decide (f.union = u)) (fun x _ => rfl) (by omega)]
 simp [hu]
theorem ZIr (m : Msg) : Zc5 m ⟨#[]⟩ = some [] := rfl
theorem m60 (l : List Fld) (f : Fld → Option Bool) (p : Fld → Bool) (hf : ∀ x ∈ l, f x = some (p x)) (h : l.length < 4611686018427387904) : Zb2 l f = some (ixQ l p) := by
 have q1 := ZcU (B := ZlL l f) (N := big) l p (fun i => (i : Int)) () (fun i x hx => by
  have g1 := ZhZ hx
  have g0 := (Yi.1 hx).1
  have g2 : i + 1 < 9223372036854775808 := by omega
  have g3 := hf x (Yq hx)
  dsimp only [ZlL, ZqJ, br, ix, vs, lrt, ln, lxe, cf, wa, br]
  simp only [g1, g2, g3, hx, decide_true, if_true, Option.bind_some]
  cases p x <;> simp) (by simp [ZlL, ZqJ, br, ix, vs, lrt, ln, lxe, cf, wa, br]) (Zd9 h)
 dsimp only [Zb2, Zya, ZxX, Zv7, vz, lr, lc, eqL]
 rw [q1]
 unfold ixQ
 cases l.findIdx? p <;> rfl
theorem m30 (l : List Fld) (k : Slt) (h : l.length < 4611686018427387904) : ZaR l (fun z => ZaX z k) = some (l.any fun f => decide (f.num = k.num)) := by
 dsimp only [ZaR, ZxI, lr, cs]
 rw [m60 _ (fun z => ZaX z k) (fun f => decide (f.num = k.num)) (fun x _ => rfl) h]
 unfold ixQ
 rw [← List.findIdx?_isSome]
 cases l.findIdx? _ <;> rfl
def slR (l : List Slt) (p : Slt → Bool) : Int × Int := ((l.find? p).elim 0 Slt.num, 0)
theorem ZsH (l : List Slt) (p : Slt → Bool) : slR l p = match l.findIdx? p with | some i => ((l.getD i default).num, 0) | none => (0, 0) := by
 unfold slR
 rw [Zfa]
 cases h : l.findIdx? p with
 | none => rfl
 | some i =>
  have := (Y6.1 h).1
  simp [this]
def flQ (m : Msg) (u : ByteArray) (k : Slt) : Bool := (m.fields.filter fun f => decide (f.union = u)).any fun f => decide (f.num = k.num)
def fnQ (m : Msg) (u : ByteArray) (k : Slt) : Bool := (Zfd m.fields zF fun f => decide (f.num = k.num)).2 && decide ((Zfd m.fields zF fun f => decide (f.num = k.num)).1.union = u)
abbrev whR (s : Scm) (n : ByteArray) (v : Val) (u : ByteArray) (q : Msg → Slt → Bool) : Int × Int :=
 if (Zfd s.messages zM fun m => decide (m.name = n)).2 = true then
  if u = ⟨#[]⟩ ∨ ((Zfd s.messages zM fun m => decide (m.name = n)).1.fields.filter fun f => decide (f.union = u)) = [] then (0, 8) else slR v.slots (q (Zfd s.messages zM fun m => decide (m.name = n)).1)
 else (0, 10)
theorem Zma {s : Scm} (h : SzS s) (n : ByteArray) : (Zfd s.messages zM fun m => decide (m.name = n)).1.fields.length ≤ 1048576 := by
 unfold Zfd
 cases e : s.messages.find? fun m => decide (m.name = n) with
 | none => simp [zM]
 | some m => exact (h.m _ (Yat e)).fl
theorem m13 (s : Scm) (n : ByteArray) (v : Val) (u : ByteArray) (h : SzS s) (hv : v.slots.length ≤ 1048576) : ZcS s n v u = some (whR s n v u fun m => flQ m u) := by
 have h0 := Zma h n
 unfold whR
 dsimp only [ZcS, Zx9, Zyt, Zut, br, vz, vw, lr, lc, cl, eqL, br]
 rw [m28 _ _ h.ml, Option.bind_some]
 generalize Zfd s.messages zM (fun m => decide (m.name = n)) = mb at *
 obtain ⟨m, b⟩ := mb
 dsimp only at h0
 cases b with
 | false => rfl
 | true =>
  dsimp only
  by_cases hu : u = ⟨#[]⟩
  ·subst hu
   rw [ZIr]
   simp
  ·rw [m29 _ _ h0 hu]
   have q1 := ZcU (B := Zoy v (m.fields.filter fun f => decide (f.union = u))) (N := big) v.slots (flQ m u) (fun i => ((v.slots.getD i default).num, (0 : Int))) () (fun i x hx => by
    have g1 := ZhZ hx
    have g0 := (Yi.1 hx).1
    have g2 : i + 1 < 9223372036854775808 := by omega
    have g3 : ZaR (m.fields.filter fun f => decide (f.union = u)) (fun z => ZaX z x) = some (flQ m u x) := m30 (m.fields.filter fun f => decide (f.union = u)) x (Nat.lt_of_le_of_lt (YaG _ _) (by omega))
    dsimp only [Zoy, Zrv, br, ix, vw, vs, lrt, ln, lxe, cs, wa, br]
    simp only [g1, g2, g3, hx, decide_true, if_true, Option.bind_some, Yr, YU]
    cases flQ m u x <;> simp) (by simp [Zoy, Zrv, br, ix, vw, vs, lrt, ln, lxe, cs, wa, br]) (Zd9 (by omega))
   dsimp only [Option.bind_some]
   rw [q1]
   by_cases e : (m.fields.filter fun f => decide (f.union = u)) = []
   ·simp [e, hu]
   ·have e2 : ((m.fields.filter fun f => decide (f.union = u)).length : Int) ≠ 0 := by
     have := Yas.2 e
     omega
    simp only [e, e2, hu, or_self, decide_false, Y2, if_false, YaV, if_true, ZsH]
    cases v.slots.findIdx? (flQ m u) <;> rfl
theorem m14 (s : Scm) (n : ByteArray) (v : Val) (u : ByteArray) (h : SzS s) (hv : v.slots.length ≤ 1048576) : Zbt s n v u = some (whR s n v u fun m => fnQ m u) := by
 have h0 := Zma h n
 unfold whR
 dsimp only [Zbt, ZyX, Zvk, ZwC, Zw5, br, vz, vw, lr, lc, cl, eqL, br]
 rw [m32 _ _ h.ml, Option.bind_some]
 generalize hmb : Zfd s.messages zM (fun m => decide (m.name = n)) = mb at *
 obtain ⟨m, b⟩ := mb
 dsimp only at h0
 cases b with
 | false => rfl
 | true =>
  dsimp only
  by_cases hu : u = ⟨#[]⟩
  ·subst hu
   rw [ZIT _ h0]
   simp
  ·rw [m33 _ _ h0 hu]
   have q1 := ZcU (B := ZlY v u (m, true)) (N := big) v.slots (fnQ m u) (fun i => ((v.slots.getD i default).num, (0 : Int))) () (fun i x hx => by
    have g1 := ZhZ hx
    have g0 := (Yi.1 hx).1
    have g2 : i + 1 < 9223372036854775808 := by omega
    have g3 := m34 m x.num h0
    have g4 : fnQ m u x = true → (Zfd m.fields zF fun f => decide (f.num = x.num)).1.num = x.num := by
     unfold fnQ Zfd
     cases e : m.fields.find? fun f => decide (f.num = x.num) with
     | none => simp
     | some f => exact fun _ => by simpa using List.find?_some e
    dsimp only [ZlY, Zp9, ZrT, Zqy, Zr1, br, ix, vz, vw, vs, lrt, ln, lxe, lc, cl, wa, du, eqL, br]
    simp only [g1, g2, g3, hx, decide_true, if_true, Option.bind_some, Yr, YU]
    have g5 : ((Zfd m.fields zF fun f => decide (f.num = x.num)).2 && decide ((Zfd m.fields zF fun f => decide (f.num = x.num)).1.union = u)) = fnQ m u x := rfl
    rw [g5]
    cases e : fnQ m u x with
    | false => simp
    | true => rw [g4 e]; simp) (by simp [ZlY, Zp9, ZrT, Zqy, Zr1, br, ix, vz, vw, vs, lrt, ln, lxe, lc, cl, wa, du, eqL, br]) (Zd9 (by omega))
   dsimp only [Option.bind_some]
   rw [q1]
   by_cases e : (m.fields.filter fun f => decide (f.union = u)) = []
   ·simp [e, hu]
   ·have e2 : ((m.fields.filter fun f => decide (f.union = u)).length : Int) ≠ 0 := by
     have := Yas.2 e
     omega
    simp only [e, e2, hu, or_self, decide_false, Y2, if_false, YaV, if_true, ZsH]
    cases v.slots.findIdx? (fnQ m u) <;> rfl
end Go.Proofs.YtpjofefihlbppaaGreat
namespace Go.Proofs.YtpjofefihlbppaaGreat
set_option linter.all false
open Go Go.Eng
theorem Znu {l : List Fld} (h : Zy5 l l.length) {i : Nat} : ∀ (d : Nat) (a b : Fld), l[i]? = some a → l[i + 1 + d]? = some b → a.num < b.num
 | 0, a, b, h1, h2 => h i a b (Yi.1 h2).1 h1 h2
 | d + 1, a, b, h1, h2 => by
  have g := (Yi.1 h2).1
  have g2 : i + 1 + d < l.length := by omega
  have h3 := Znu h d a l[i + 1 + d] h1 (Yb g2)
  have h4 := h (i + 1 + d) l[i + 1 + d] b (by omega) (Yb g2) h2
  omega
theorem ZzH {l : List Fld} (h : Zy5 l l.length) {a b : Fld} (ha : a ∈ l) (hb : b ∈ l) (e : a.num = b.num) : a = b := by
 obtain ⟨i, h1⟩ := YB.1 ha
 obtain ⟨j, h2⟩ := YB.1 hb
 rcases Yan i j with hl | hl | hl
 ·have := Znu h (j - (i + 1)) a b h1 (by rw [show i + 1 + (j - (i + 1)) = j by omega]; exact h2)
  omega
 ·subst hl
  rw [h1] at h2
  cases h2
  rfl
 ·have := Znu h (i - (j + 1)) b a h2 (by rw [show j + 1 + (i - (j + 1)) = i by omega]; exact h1)
  omega
theorem ZGa {m : Msg} (h : GdM m) (u : ByteArray) (k : Slt) : flQ m u k = fnQ m u k := by
 unfold flQ fnQ Zfd
 rw [Bool.eq_iff_iff, YI]
 cases e : m.fields.find? fun f => decide (f.num = k.num) with
 | none =>
  have h1 := List.find?_eq_none.1 e
  simp only [Option.elim_none, Bool.false_and, Y2, iff_false, not_exists]
  rintro f ⟨h2, h3⟩
  exact h1 f (YW.1 h2).1 h3
 | some g =>
  have h1 : g.num = k.num := by simpa using List.find?_some e
  have h2 := Yat e
  simp only [Option.elim_some, Bool.true_and, decide_eq_true_eq]
  constructor
  ·rintro ⟨f, h3, h4⟩
   have h5 := YW.1 h3
   have := ZzH h h2 h5.1 (h1.trans h4.symm)
   subst this
   exact h5.2
  ·intro h3
   exact ⟨g, YW.2 ⟨h2, h3⟩, h1⟩
theorem o5 (s : Scm) (n : ByteArray) (h : SzS s) : Ok (fun b => b = true → ∀ (i : Nat) (m : Msg), s.messages[i]? = some m → GdM m) (ZbL s n) := by
 dsimp only [ZbL, ZE8, vz, vw, lr, clg, eqN]
 (repeat' (first | with_reducible refine Ok.br (fun _ => ?_) (fun _ => ?_) | with_reducible refine Ok.pure ?_ | (with_reducible apply Ok.bind; (exact o15 _ h); intro _ _) | (with_reducible apply Ok.bind; (exact o16 _ h (by simp_all)); intro _ _) | (with_reducible apply Ok.clg; (exact fun _ => o15 _ h); intro _) | (with_reducible apply Ok.clg; (exact fun _ => o16 _ h (by simp_all)); intro _) | with_reducible refine Ok.if ?_ ?_))
 simp_all
 rename_i q
 exact q
theorem ZFZ {s : Scm} (h : ∀ (i : Nat) (m : Msg), s.messages[i]? = some m → GdM m) (n : ByteArray) (v : Val) (u : ByteArray) : (whR s n v u fun m => flQ m u) = whR s n v u fun m => fnQ m u := by
 unfold whR
 have e : flQ (Zfd s.messages zM fun m => decide (m.name = n)).1 u = fnQ (Zfd s.messages zM fun m => decide (m.name = n)).1 u := by
  funext k
  apply ZGa
  unfold Zfd
  cases e : s.messages.find? fun m => decide (m.name = n) with
  | none => intro i a b hi; simp [zM] at hi
  | some m =>
   obtain ⟨i, hi⟩ := YB.1 (Yat e)
   exact h i m hi
 dsimp only
 rw [e]
theorem Zfs {s : Scm} {n : ByteArray} {v : Val} {u : ByteArray} (hs : bkL (Zcj s) ≤ 1048576) (_ : (0 : Nat) ≤ 1) (hv : bkL (ZaZ v) ≤ 1048576) (_ : (0 : Nat) ≤ 1) : ZaL s n v u = some true := by
 have h := szS hs
 have k := szV hv
 obtain ⟨y1, e1, g1⟩ := o5 s n h
 obtain ⟨y2, e2, _⟩ := o6 v hv
 dsimp only [ZaL, ZGn, br, vy, vw, lr, cl, clg, eqN, br]
 rw [e1, Option.bind_some, e2, m13 s n v u h k.s, m14 s n v u h k.s, aw]
 cases y1 with
 | false => simp
 | true => rw [ZFZ (g1 rfl)]; simp
end Go.Proofs.YtpjofefihlbppaaGreat
namespace Go.Proofs.YtpjofefihlbppaaGreat
set_option linter.all false
open Go Go.Eng Go.ChangeShapes Go.WideShapes Go.ChangeAt Go.RowKit
theorem own : ownKnob Tryz.prog.godebug = none := by kernel_rfl
namespace PresentUnions
open Go.Proofs.YtpjofefihlbppaaGreat
set_option maxRecDepth 100000 in
theorem contract (H : Type) (enc : TypeId × Value → H) (W : World) (base : Nat) (args : Array Value) (ds gs : List (DataW H)) (before : List MemPlace)
  (hval : ∀ (j : Nat) t v, Tryz.f4.params[j]? = some t → args[j]? = some v → Value.okWide Tryz.prog W .any base t v)
  (hW : DataW.Whole enc Tryz.prog Tryz.f4.params.toList Rows.presentUnionsSpec.vars false W args.toList ds gs before) (hk : Rows.uptoSmall H (ds ++ gs) = true) :
  Calls Tryz.prog 4 args W fun e W' => ∃ v, e = .returned v ∧ Rows.presentUnionsSpec.post enc Tryz.prog Tryz.f4 false true false false W args v W' := by
 obtain ⟨p, q, hA0, hV, rfl, hfz, hnd⟩ := id hW
 have hA : DataW.TrodAll enc Tryz.prog W 0 (fun _ => true) true Tryz.f4.params.toList args.toList ds p := hA0
 rw [Tryz.params4] at hA hval
 obtain ⟨v0, vs0, d0, ds0, p0, q0, hargs, rfl, rfl, h0, r0⟩ := trodAll_cons hA
 obtain ⟨v1, vs1, d1, ds1, p1, q1, rfl, rfl, rfl, h1, r1⟩ := trodAll_cons r0
 obtain ⟨v2, vs2, d2, ds2, p2, q2, rfl, rfl, rfl, h2, r2⟩ := trodAll_cons r1
 obtain ⟨v3, vs3, d3, ds3, p3, q3, rfl, rfl, rfl, h3, r3⟩ := trodAll_cons r2
 obtain ⟨rfl, rfl, rfl⟩ := trodAll_nil r3
 obtain rfl : args = #[v0, v1, v2, v3] := by cases args; simp_all
 have hb : Rows.uptoBulkAll ([d0, d1, d2, d3] ++ gs) ≤ 1048576 := of_decide_eq_true hk
 simp only [YaD, Y9, Rows.uptoBulkAll] at hb
 obtain ⟨s, re0, fe0⟩ := Zos ZCv Tryz.underlying26 (hval 0 26 v0 rfl rfl) h0
 obtain ⟨n, re1, fe1⟩ := ZnI Tryz.underlying9 (hval 1 9 v1 rfl rfl) h1
 obtain ⟨v, re2, fe2⟩ := Zos ZoZ Tryz.underlying33 (hval 2 33 v2 rfl rfl) h2
 obtain ⟨u, re3, fe3⟩ := ZnI Tryz.underlying9 (hval 3 9 v3 rfl rfl) h3
 obtain ⟨rfl, rfl⟩ := trodVars_none hV
 have A := (K_4 s n v u).k 0 Hp0 true (Zfs (by omega) (by omega) (by omega) (by omega))
 refine (A.2 (fun _ => ⟨0, 0, 0⟩) (· < W.heap.size) W #[v0, v1, v2, v3] (ok0 _) (Zu3 (xs := [.agg ((Zcj s).map .d), .d (.str n), .agg ((ZaZ v).map .d), .d (.str u)]) (vs := [v0, v1, v2, v3]) ⟨re0 _ _, re1 _ _ _ _, re2 _ _, re3 _ _ _ _, trivial⟩)).mono fun e W' ⟨r, v, H', m', S', he, hp, hO, hr, hx⟩ => ?_
 obtain ⟨hp, _⟩ := hp
 subst he
 subst hp
 cases hr
 rename_i hd
 cases hd
 exact ⟨_, rfl, Zpp hW rfl (by kernel_rfl) (by rw [Tryz.params4]; exact (by decide +kernel)) (by kernel_rfl) Tryz.underlying4 rfl ⟨hx.os, hx.tape, hx.output, hx.size, hx.blk⟩⟩
set_option maxRecDepth 100000 in
theorem lifted (os : Os) (started : os.Started) (H : Type) (enc : TypeId × Value → H) (F : Stop.Interp) :
  ReturnsInHanded {} Tryz.checked os 4 .any ((Rows.OpenSpec.upto Rows.presentUnionsSpec).pre6 enc Tryz.prog Tryz.f4 Rows.presentUnionsUptoRow.domain false) (((Rows.OpenSpec.upto Rows.presentUnionsSpec).at F).post enc Tryz.prog Tryz.f4 false true false false) := by
 refine returnsInHanded_of_cond (C := Tryz.checked) (s := Rows.OpenSpec.upto Rows.presentUnionsSpec) (k := Rows.uptoSmall) rfl own started (by kernel_rfl) Tryz.func4
  (OpenSpec.witness (enc := enc) (C := Tryz.checked) (s := Rows.OpenSpec.upto Rows.presentUnionsSpec) (k := Rows.uptoSmall) rfl false ⟨#[], #[.agg #[.slice none 0 0, .slice none 0 0, .slice none 0 0], .string ⟨#[]⟩, .agg #[.int .i64 0, .int .u64 0, .string ⟨#[]⟩, .slice none 0 0, .slice none 0 0, .slice none 0 0, .slice none 0 0], .string ⟨#[]⟩], []⟩ 8 (by kernel_rfl) (by kernel_rfl) (by kernel_rfl)
   (x := ([.agg [.nil, .nil, .nil], .lit (.string []), .agg [.lit (.int .i64 0), .lit (.int .u64 0), .lit (.string []), .nil, .nil, .nil, .nil], .lit (.string [])], [], [])) (by kernel_rfl) rfl (by kernel_rfl)) ?_
 intro W base args ds gs before hval hW _ hk _
 exact contract H enc W base args ds gs before hval hW hk
theorem holds : Rows.PresentUnionsUptoSaid :=
 OpenClaim.holds_of_cond 4 Tryz.f4 rfl rfl rfl rfl rfl rfl rfl ⟨rfl, rfl, rfl, rfl, rfl⟩ rfl rfl rfl rfl rfl (by kernel_rfl) Tryz.func4 (by kernel_rfl)
  (of_decide_eq_true (by kernel_rfl)) (by unfold Func.isWrapper; first | (rw [if_pos (by decide +kernel)]; kernel_rfl) | (rw [if_neg (by decide +kernel)]; exact ⟨rfl, rfl⟩))
  (fun os started H enc _ F => lifted os started H enc F)
end PresentUnions
end Go.Proofs.YtpjofefihlbppaaGreat
