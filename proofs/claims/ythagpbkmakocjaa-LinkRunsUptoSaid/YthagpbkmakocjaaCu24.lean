/-
  What is proved: the second form of wireschemalaw11.LinkRuns: the law returns true and leaves its arguments as they were.
  Condition: the arguments are together of bulk at most 1048576 (the given second form); nothing else.
-/
import Derived.Test.YthagpbkmakocjaaCu23
import Derived.Test.YthagpbkmakocjaaCu09
import Derived.Test.YthagpbkmakocjaaRows
import Derived.WalkKit
import Derived.ProofKit
import Derived.OpenShut
import Derived.Carry
import Derived.Deep.DeepHandedRow
import Derived.JoinedCond
namespace Go.Proofs.Ythagpbkmakocjaa
set_option linter.all false
open Go Go.Eng
theorem ZHW {α : Type} (z : α) (fu : Nat) (l : List α) (a m b : Nat) (cf : α → α → Int) (s : Nat) :
  (cond ((decide (((s : Nat) : Int) < ((m : Nat) : Int)) && decide (((m : Nat) : Int) < (((((a + b) / 2) + m) - s : Nat) : Int)))) (cond ((decide (((a : Nat) : Int) < ((s : Nat) : Int)) && decide (((s : Nat) : Int) < (((a + b) / 2 : Nat) : Int)))) (cond ((decide ((((a + b) / 2 : Nat) : Int) < (((((a + b) / 2) + m) - s : Nat) : Int)) && decide ((((((a + b) / 2) + m) - s : Nat) : Int) < ((b : Nat) : Int)))) ((Zad z fu (Zad z fu (ZaE z l s m ((((a + b) / 2) + m) - s) cf) a s ((a + b) / 2) cf) ((a + b) / 2) ((((a + b) / 2) + m) - s) b cf)) ((Zad z fu (ZaE z l s m ((((a + b) / 2) + m) - s) cf) a s ((a + b) / 2) cf))) (cond ((decide ((((a + b) / 2 : Nat) : Int) < (((((a + b) / 2) + m) - s : Nat) : Int)) && decide ((((((a + b) / 2) + m) - s : Nat) : Int) < ((b : Nat) : Int)))) ((Zad z fu (ZaE z l s m ((((a + b) / 2) + m) - s) cf) ((a + b) / 2) ((((a + b) / 2) + m) - s) b cf)) ((ZaE z l s m ((((a + b) / 2) + m) - s) cf)))) (cond ((decide (((a : Nat) : Int) < ((s : Nat) : Int)) && decide (((s : Nat) : Int) < (((a + b) / 2 : Nat) : Int)))) (cond ((decide ((((a + b) / 2 : Nat) : Int) < (((((a + b) / 2) + m) - s : Nat) : Int)) && decide ((((((a + b) / 2) + m) - s : Nat) : Int) < ((b : Nat) : Int)))) ((Zad z fu (Zad z fu l a s ((a + b) / 2) cf) ((a + b) / 2) ((((a + b) / 2) + m) - s) b cf)) ((Zad z fu l a s ((a + b) / 2) cf))) (cond ((decide ((((a + b) / 2 : Nat) : Int) < (((((a + b) / 2) + m) - s : Nat) : Int)) && decide ((((((a + b) / 2) + m) - s : Nat) : Int) < ((b : Nat) : Int)))) ((Zad z fu l ((a + b) / 2) ((((a + b) / 2) + m) - s) b cf)) (l)))) = Zd1 z fu l a m b cf s := by
 unfold Zd1
 dsimp only
 generalize (decide (((s : Nat) : Int) < ((m : Nat) : Int)) && decide (((m : Nat) : Int) < (((((a + b) / 2) + m) - s : Nat) : Int))) = c1
 generalize (decide (((a : Nat) : Int) < ((s : Nat) : Int)) && decide (((s : Nat) : Int) < (((a + b) / 2 : Nat) : Int))) = c2
 generalize (decide ((((a + b) / 2 : Nat) : Int) < (((((a + b) / 2) + m) - s : Nat) : Int)) && decide ((((((a + b) / 2) + m) - s : Nat) : Int) < ((b : Nat) : Int))) = c3
 cases c1 <;> cases c2 <;> cases c3 <;> rfl
section
variable {α : Type} [Rw α] [Tid α]
theorem Zz6 (R : List α → Int → Int → Int → (α → α → Option Int) → Option (List α)) (pf : α → α → Option Int) (cmp : α → α → Int) (fu : Nat)
  (ih : ∀ (l : List α) (a m b : Nat), l.length ≤ 1048576 → b - a < fu → a < m → m < b → b ≤ l.length → R l (a : Int) (m : Int) (b : Int) pf = some (Zad Rw.z fu l a m b cmp) ∧ (Zad (Rw.z : α) fu l a m b cmp).length = l.length)
  (l : List α) (a m b s : Nat) (hl : l.length ≤ 1048576) (hf : b - a < fu + 1) (h1 : a < m) (h2 : m < b) (h3 : b ≤ l.length) (h4 : 4 ≤ b - a) (h5 : s ≤ (a + b) / 2) (h6 : (a + b) / 2 + m ≤ b + s) :
  (Zfm l (a : Int) (m : Int) (b : Int) pf R (s : Int)).m = some (Zd1 (Rw.z : α) fu l a m b cmp s) ∧ (Zd1 (Rw.z : α) fu l a m b cmp s).length = l.length := by
 have mab := ZzE (x := a) (y := b) (by omega)
 have e3 : (((a + b) / 2 : Nat) : Int) + (m : Int) - (s : Int) = (((a + b) / 2 + m - s : Nat) : Int) := by omega
 have w : -9223372036854775808 ≤ (((a + b) / 2 + m - s : Nat) : Int) ∧ (((a + b) / 2 + m - s : Nat) : Int) < 9223372036854775808 := by omega
 have g1 : a < (a + b) / 2 := by omega
 have g2 : (a + b) / 2 < b := by omega
 unfold Zd1
 dsimp only [Zam, ZfL, Zhw, Ziv, Zim, Zh7, ZfM, ZfT, Ziu, ZhZ, ZfC, Zc7, ZgV, Zg1, ZgF, ZgH, Zgn, Zgr, Zgs, Zhq, ZgY, ZgX, ZhC, Zgl, Zgx, ZgK, ZgT, Zha, ZgC, Zg4, Zhx, ZhB, ZgA, Zhm, Zhy, Zhp, Zhl, Zg9, Zgq, ZgS, Zhc, Zgo, ZgJ, ZgP, Zfm, ZcS, ZeV, ZeN, Zd9, Zd7, Zdx, br, vz, vg, vs, v2, wi, wk, shr, iri, ca, cag, cf, cfg, lc, ln, lf, lxe, fl, st, vwr, lr]
 simp only [mab, e3]
 generalize (a + b) / 2 = h at *
 generalize h + m - s = e at *
 simp only [w, and_self, if_true]
 have g3 : e ≤ b := by omega
 by_cases c1 : s < m ∧ m < e <;> by_cases c2 : a < s ∧ s < h <;> by_cases c3 : h < e ∧ e < b
 ·
   have hr := ZKT l s m e cmp hl c1.1 c1.2 (by omega)
   have lr0 := (Zhe (z := (Rw.z : α)) l s m e cmp c1.1 c1.2 (by omega)).1
   obtain ⟨i2, j2⟩ := ih (ZaE (Rw.z : α) l s m e cmp) a s h (by omega) (by omega) c2.1 c2.2 (by omega)
   obtain ⟨i3, j3⟩ := ih (Zad (Rw.z : α) fu (ZaE (Rw.z : α) l s m e cmp) a s h cmp) h e b (by omega) (by omega) c3.1 c3.2 (by omega)
   simp only [Zcn c1, Zcn c2, Zcn c3, hr, lr0, i2, j2, i3, j3, if_true, Option.bind_some, cond_true]
   first | exact ⟨trivial, trivial⟩ | exact ⟨trivial, by omega⟩
 ·
   have hr := ZKT l s m e cmp hl c1.1 c1.2 (by omega)
   have lr0 := (Zhe (z := (Rw.z : α)) l s m e cmp c1.1 c1.2 (by omega)).1
   obtain ⟨i2, j2⟩ := ih (ZaE (Rw.z : α) l s m e cmp) a s h (by omega) (by omega) c2.1 c2.2 (by omega)
   simp only [Zcn c1, Zcn c2, Zb0 c3, hr, lr0, i2, j2, Bool.false_eq_true, if_true, if_false, Option.bind_some, cond_true, cond_false]
   first | exact ⟨trivial, trivial⟩ | exact ⟨trivial, by omega⟩
 ·
   have hr := ZKT l s m e cmp hl c1.1 c1.2 (by omega)
   have lr0 := (Zhe (z := (Rw.z : α)) l s m e cmp c1.1 c1.2 (by omega)).1
   obtain ⟨i3, j3⟩ := ih (ZaE (Rw.z : α) l s m e cmp) h e b (by omega) (by omega) c3.1 c3.2 (by omega)
   simp only [Zcn c1, Zb0 c2, Zcn c3, hr, lr0, i3, j3, Bool.false_eq_true, if_true, if_false, Option.bind_some, cond_true, cond_false]
   first | exact ⟨trivial, trivial⟩ | exact ⟨trivial, by omega⟩
 ·
   have hr := ZKT l s m e cmp hl c1.1 c1.2 (by omega)
   have lr0 := (Zhe (z := (Rw.z : α)) l s m e cmp c1.1 c1.2 (by omega)).1
   simp only [Zcn c1, Zb0 c2, Zb0 c3, hr, lr0, Bool.false_eq_true, if_true, if_false, Option.bind_some, cond_true, cond_false]
   first | exact ⟨trivial, trivial⟩ | exact ⟨trivial, by omega⟩
 ·
   obtain ⟨i2, j2⟩ := ih l a s h (by omega) (by omega) c2.1 c2.2 (by omega)
   obtain ⟨i3, j3⟩ := ih (Zad (Rw.z : α) fu l a s h cmp) h e b (by omega) (by omega) c3.1 c3.2 (by omega)
   simp only [Zb0 c1, Zcn c2, Zcn c3, i2, j2, i3, j3, Bool.false_eq_true, if_true, if_false, Option.bind_some, cond_true, cond_false]
   first | exact ⟨trivial, trivial⟩ | exact ⟨trivial, by omega⟩
 ·
   obtain ⟨i2, j2⟩ := ih l a s h (by omega) (by omega) c2.1 c2.2 (by omega)
   simp only [Zb0 c1, Zcn c2, Zb0 c3, i2, j2, Bool.false_eq_true, if_true, if_false, Option.bind_some, cond_true, cond_false]
   first | exact ⟨trivial, trivial⟩ | exact ⟨trivial, by omega⟩
 ·
   obtain ⟨i3, j3⟩ := ih l h e b (by omega) (by omega) c3.1 c3.2 (by omega)
   simp only [Zb0 c1, Zb0 c2, Zcn c3, i3, j3, Bool.false_eq_true, if_true, if_false, Option.bind_some, cond_true, cond_false]
   first | exact ⟨trivial, trivial⟩ | exact ⟨trivial, by omega⟩
 ·
   simp only [Zb0 c1, Zb0 c2, Zb0 c3, Bool.false_eq_true, if_false, cond_false]
   first | exact ⟨trivial, trivial⟩ | exact ⟨trivial, by omega⟩
theorem Zrc {pf : α → α → Option Int} {cmp : α → α → Int} (hp : ∀ x y, pf x y = some (cmp x y)) : Zus pf cmp := by
 intro fu
 induction fu with
 | zero => intro l a m b _ h; omega
 | succ fu ih =>
  intro l a m b hl hf h1 h2 h3
  rw [Zad]
  show (Zdx l (a : Int) (m : Int) (b : Int) pf (Zau fu)).m = _ ∧ _
  have wa : -9223372036854775808 ≤ ((m - a : Nat) : Int) ∧ ((m - a : Nat) : Int) < 9223372036854775808 := by omega
  have wb : -9223372036854775808 ≤ ((b - m : Nat) : Int) ∧ ((b - m : Nat) : Int) < 9223372036854775808 := by omega
  have ea : (m : Int) - (a : Int) = ((m - a : Nat) : Int) := by omega
  have eb : (b : Int) - (m : Int) = ((b - m : Nat) : Int) := by omega
  by_cases k1 : m - a = 1
  ·have k1' : ((m - a : Nat) : Int) = 1 := by omega
   obtain ⟨i, j, p1, p2, p3, p4⟩ := ZtD l a pf cmp hp hl (by omega) (b - m) m b big (b - m + 1) (Nat.le_refl _) (Zaf (by omega)) (Nat.lt_succ_self _) (by omega) h3
   obtain ⟨i2, v, q1, q2, q3⟩ := Zzl l pf (i, j) hl (show 1 ≤ i by omega) (show i ≤ l.length by omega) (i - 1 - a) a l big (i - a + 1) (Nat.le_refl _) (Zaf (by omega)) (by dsimp only; omega) rfl (by omega)
   dsimp only [Zdx, Zam, Zh7, Zim, Ziv, br, vz, vg, vs, v2, wi, wk, shr, iri, ca, cag, cf, cfg, lc, ln, lf, lxe, fl, st, vwr, lr]
   simp only [ea, k1', decide_true, if_true, cond_true, p1, p2, q1, q2, Option.bind_some, Sum.elim_inl]
   exact ⟨if_pos (by decide), q3⟩
  ·have k1' : ¬ ((m - a : Nat) : Int) = 1 := by omega
   by_cases k2 : b - m = 1
   ·have k2' : ((b - m : Nat) : Int) = 1 := by omega
    obtain ⟨i, j, p1, p2, p3, p4⟩ := Ztt l m pf cmp hp hl (by omega) (m - a) a m big (m - a + 1) (Nat.le_refl _) (Zaf (by omega)) (Nat.lt_succ_self _) (by omega) (by omega)
    obtain ⟨i2, v, q1, q2, q3⟩ := ZKp l pf (i, j) hl m l big (m + 1) (Zaf (by omega)) (Nat.lt_succ_self _) rfl (by omega)
    dsimp only [Zdx, Zam, Zd7, Zd9, ZfC, ZhZ, Ziu, br, vz, vg, vs, v2, wi, wk, shr, iri, ca, cag, cf, cfg, lc, ln, lf, lxe, fl, st, vwr, lr]
    simp only [ea, wa, k1', eb, k2', decide_true, decide_false, Bool.false_eq_true, if_true, if_false, and_self, cond_true, cond_false, p1, p2, q1, q2, Option.bind_some, Sum.elim_inl]
    exact ⟨if_pos (by decide), q3⟩
   ·have k2' : ¬ ((b - m : Nat) : Int) = 1 := by omega
    have mab := ZzE (x := a) (y := b) (by omega)
    have w1 : -9223372036854775808 ≤ (a : Int) + (b : Int) ∧ (a : Int) + (b : Int) < 9223372036854775808 := by omega
    have e1 : (((a + b) / 2 : Nat) : Int) + (m : Int) = (((a + b) / 2 + m : Nat) : Int) := by omega
    have w2 : -9223372036854775808 ≤ (((a + b) / 2 + m : Nat) : Int) ∧ (((a + b) / 2 + m : Nat) : Int) < 9223372036854775808 := by omega
    have w3 : -9223372036854775808 ≤ (((a + b) / 2 + m : Nat) : Int) - 1 ∧ (((a + b) / 2 + m : Nat) : Int) - 1 < 9223372036854775808 := by omega
    have hone : (0 : Int) ≤ 1 := by decide
    by_cases k3 : (a + b) / 2 < m
    ·have k3' : (((a + b) / 2 : Nat) : Int) < (m : Int) := by omega
     have e4 : (((a + b) / 2 + m : Nat) : Int) - (b : Int) = (((a + b) / 2 + m - b : Nat) : Int) := by omega
     have w4 : -9223372036854775808 ≤ (((a + b) / 2 + m - b : Nat) : Int) ∧ (((a + b) / 2 + m - b : Nat) : Int) < 9223372036854775808 := by omega
     obtain ⟨i, j, p1, p2, p3, p4⟩ := ZlX l a m b pf cmp hp hl h1 h2 h3 ((a + b) / 2 - ((a + b) / 2 + m - b)) ((a + b) / 2 + m - b) ((a + b) / 2) big ((a + b) / 2 - ((a + b) / 2 + m - b) + 1) (Nat.le_refl _) (Zaf (by omega)) (Nat.lt_succ_self _) (by omega) (by omega) (by omega)
     obtain ⟨t1, t2⟩ := Zz6 (Zau fu) pf cmp fu ih l a m b i hl hf h1 h2 h3 (by omega) (by omega) (by omega)
     have tt := ZHW (Rw.z : α) fu l a m b cmp i
     dsimp only [Zdx, Zam, Zd7, Zd9, ZeN, ZeV, ZcS, br, vz, vg, vs, v2, wi, wk, shr, iri, ca, cag, cf, cfg, lc, ln, lf, lxe, fl, st, vwr, lr]
     simp only [ea, wa, k1', eb, wb, k2', mab, w1, hone, e1, w2, w3, k3', e4, w4, decide_true, decide_false, Bool.false_eq_true, if_true, if_false, and_self, cond_true, cond_false, p1, p2, Option.bind_some, Sum.elim_inl, t1, tt]
     exact ⟨trivial, t2⟩
    ·have k3' : ¬ (((a + b) / 2 : Nat) : Int) < (m : Int) := by omega
     obtain ⟨i, j, p1, p2, p3, p4⟩ := ZlF l a m b pf cmp hp hl h1 h2 h3 (m - a) a m big (m - a + 1) (Nat.le_refl _) (Zaf (by omega)) (Nat.lt_succ_self _) (by omega) (by omega) (by omega)
     obtain ⟨t1, t2⟩ := Zz6 (Zau fu) pf cmp fu ih l a m b i hl hf h1 h2 h3 (by omega) (by omega) (by omega)
     have tt := ZHW (Rw.z : α) fu l a m b cmp i
     dsimp only [Zdx, Zam, Zd7, Zd9, ZeN, ZeV, ZcS, br, vz, vg, vs, v2, wi, wk, shr, iri, ca, cag, cf, cfg, lc, ln, lf, lxe, fl, st, vwr, lr]
     simp only [ea, wa, k1', eb, wb, k2', mab, w1, hone, e1, w2, w3, k3', decide_false, Bool.false_eq_true, if_true, if_false, and_self, cond_false, p1, p2, Option.bind_some, Sum.elim_inl, t1, tt]
     exact ⟨trivial, t2⟩
end
theorem ZMa : Zfk := Zlr (Zrc fun x y => m60 x y) (Zrc fun x y => m63 x y) (Zrc fun x y => m65 x y)
end Go.Proofs.Ythagpbkmakocjaa
namespace Go.Proofs.Ythagpbkmakocjaa
set_option linter.all false
open Go Go.Eng Go.ChangeShapes Go.WideShapes Go.ChangeAt Go.RowKit
theorem ZuB {H : Type} (b : List UInt8) : Rows.uptoBulk (DataW.lit (H := H) (.string b)) = b.length + 1 := by simp only [Rows.uptoBulk]
theorem Zpc {H : Type} (a b : List (DataW H)) : Rows.uptoBulk (.slice a b) = Rows.uptoBulkAll a + Rows.uptoBulkAll b + 1 := by simp only [Rows.uptoBulk]
theorem Zw8 {H : Type} (a : List (DataW H)) : Rows.uptoBulk (.agg a) = Rows.uptoBulkAll a + 1 := by simp only [Rows.uptoBulk]
def Zog (W : World) (ds : List D) (cs : List Value) (o : Nat) : Prop := ∀ (i : Nat) (d : D), ds[i]? = some d → ∃ c, cs[o + i]? = some c ∧ RepD W (· < W.heap.size) d c
def Zl5 (W : World) (ds : List D) (cs : List Value) : Prop := ds.length = cs.length ∧ Zog W ds cs 0
theorem Zog.app {W : World} {ds es : List D} {cs : List Value} {o : Nat} (h : Zog W ds cs o) (k : Zog W es cs (o + ds.length)) : Zog W (ds ++ es) cs o := fun i d hi => by
 rcases Nat.lt_or_ge i ds.length with hl | hl
 ·rw [List.getElem?_append_left hl] at hi; exact h i d hi
 ·rw [List.getElem?_append_right hl] at hi
  obtain ⟨c, h1, h2⟩ := k _ d hi
  exact ⟨c, by rw [← h1]; congr 1; omega, h2⟩
theorem Zl5.at {W : World} {ds : List D} {cs : List Value} {o k : Nat} (h : Zl5 W ds ((cs.drop o).take k)) : Zog W ds cs o := fun i d hi => by
 obtain ⟨c, h1, h2⟩ := h.2 i d hi
 rw [Nat.zero_add, List.getElem?_take] at h1
 split at h1
 ·rw [List.getElem?_drop] at h1; exact ⟨c, h1, h2⟩
 ·cases h1
mutual
def bk : D → Nat
 | .int _ _ => 0
 | .bool _ => 0
 | .str s => s.size
 | .list es => Zfb es
def bkL : List D → Nat
 | [] => 0
 | d :: l => bk d + bkL l
def Zfb : List (List D) → Nat
 | [] => 0
 | e :: l => bkL e + 1 + Zfb l
end
theorem ZqY : ∀ a b : List D, bkL (a ++ b) = bkL a + bkL b
 | [], b => by rw [List.nil_append, bkL, Nat.zero_add]
 | d :: a, b => by rw [List.cons_append, bkL, bkL, ZqY a b, Nat.add_assoc]
theorem Zlq (d : D) : bkL [d] = bk d := by rw [bkL, bkL, Nat.add_zero]
theorem Zb2 {α : Type} {e : α → List D} : ∀ l : List α, l.length ≤ Zfb (l.map e)
 | [] => Nat.zero_le _
 | x :: l => by have := Zb2 (e := e) l; rw [List.map_cons, Zfb, List.length_cons]; omega
theorem ZcE {α : Type} {e : α → List D} {x : α} : ∀ {l : List α}, x ∈ l → bkL (e x) + 1 ≤ Zfb (l.map e)
 | y :: l, h => by
  rw [List.map_cons, Zfb]
  cases List.mem_cons.1 h with
  | inl h => subst h; omega
  | inr h => have := ZcE (e := e) h; omega
section
variable {H : Type} (enc : TypeId × Value → H) (P : Program) (W : World)
def RdN {α : Type} (n : Nat) (t : TypeId) (e : α → List D) : Prop :=
 ∀ cs x, DataW.trod enc P W 0 (fun _ => true) true n t cs = some x → ∃ v : α, Zl5 W (e v) cs ∧ bkL (e v) + 1 ≤ Rows.uptoBulk x.1
end
section
variable {H : Type} {enc : TypeId × Value → H} {P : Program} {W : World} {n : Nat} {t : TypeId}
theorem Zi9 (d : DataW H) : 1 ≤ Rows.uptoBulk d := by cases d <;> (try (rename_i l; cases l)) <;> simp [Rows.uptoBulk]
theorem Zeg {d : D} {c : Value} (h : RepD W (· < W.heap.size) d c) : Zl5 W [d] [c] := ⟨rfl, fun i d' hi => by
 cases i with
 | zero => cases hi; exact ⟨c, rfl, h⟩
 | succ i => simp at hi⟩
theorem Zdj {k : IntKind} (ht : P.underlying t = some (.int k)) : RdN enc P W n t (fun v : Int => [.int k v]) := fun cs x hx => by
 obtain ⟨m, rfl, rfl, _⟩ := DataW.trod_int ht hx
 exact ⟨m, Zeg (.int _ _), Zi9 _⟩
theorem Zt2 (ht : P.underlying t = some .bool) : RdN enc P W n t (fun v : Bool => [.bool v]) := fun cs x hx => by
 obtain ⟨m, rfl, rfl⟩ := DataW.trod_bool ht hx
 exact ⟨m, Zeg (.bool _), Zi9 _⟩
theorem ZcR (ht : P.underlying t = some .string) : RdN enc P W n t (fun v : ByteArray => [.str v]) := fun cs x hx => by
 obtain ⟨m, rfl, rfl, _⟩ := DataW.trod_string ht hx
 refine ⟨m, Zeg (.str _), ?_⟩
 rw [ZuB, Zlq]
 exact Nat.le_refl _
theorem Zz0 {α : Type} {e : α → List D} : ∀ (l : List α) (xs : List (DataW H × List MemPlace)), l.length = xs.length → (∀ (i : Nat) (v : α), l[i]? = some v → ∃ y : DataW H × List MemPlace, xs[i]? = some y ∧ bkL (e v) + 1 ≤ Rows.uptoBulk y.1) → Zfb (l.map e) ≤ Rows.uptoBulkAll (xs.map (·.1))
 | [], _, _, _ => Nat.zero_le _
 | x :: l, [], h, _ => by cases h
 | x :: l, y :: xs, h, k => by
  have := Zz0 l xs (Nat.succ.inj h) (fun i v hi => k (i + 1) v hi)
  obtain ⟨y', h1, h2⟩ := k 0 x rfl
  cases h1
  rw [List.map_cons, List.map_cons, Zfb]
  simp only [Rows.uptoBulkAll]
  omega
theorem ZqH {α : Type} {Q : Nat → α → Prop} : ∀ (len : Nat), (∀ i, i < len → ∃ v, Q i v) → ∃ l : List α, l.length = len ∧ ∀ i v, l[i]? = some v → Q i v
 | 0, _ => ⟨[], rfl, fun i v h => by simp at h⟩
 | len + 1, h => by
  obtain ⟨l, h1, h2⟩ := ZqH len (fun i hi => h i (by omega))
  obtain ⟨v, hv⟩ := h len (by omega)
  refine ⟨l ++ [v], by simp [h1], fun i w hi => ?_⟩
  rcases Nat.lt_or_ge i l.length with hl | hl
  ·rw [List.getElem?_append_left hl] at hi; exact h2 i w hi
  ·rw [List.getElem?_append_right hl] at hi
   have : i - l.length = 0 := by
    rcases Nat.eq_zero_or_pos (i - l.length) with h0 | h0
    ·exact h0
    ·rw [List.getElem?_eq_none (by simp; omega)] at hi; cases hi
   rw [this] at hi
   cases hi
   have : i = len := by omega
   subst this
   exact hv
theorem Za6 {α : Type} {e : TypeId} {enc' : α → List D} {sz : Nat} (ht : P.underlying t = some (.slice e)) (hsz : P.cellsOf e = sz) (hs0 : sz ≠ 0) (hl : ∀ x, (enc' x).length = sz) (h : ∀ m, m < n → RdN enc P W m e enc') :
  RdN enc P W n t (fun l : List α => [.list (l.map enc')]) := fun cs x hx => by
 rcases DataW.trod_slice ht hx with ⟨rfl, rfl⟩ | ⟨a, len, cap, elems, rest, m, rfl, rfl, rfl, hb, hlc, hcm, hel, hi, _, _⟩
 ·exact ⟨[], Zeg .nil, Zi9 _⟩
 ·have each : ∀ i, i < len → ∃ v : α, ∃ y cs', elems[i]? = some y ∧ W.cells? 0 (a.add (i * sz)) sz = some cs' ∧ Zl5 W (enc' v) cs' ∧ bkL (enc' v) + 1 ≤ Rows.uptoBulk y.1 := fun i hlt => by
   have h1 := hi i hlt
   rw [List.getElem?_eq_getElem (by omega), hsz] at h1
   obtain ⟨cs', h2, h3⟩ := Option.bind_eq_some_iff.1 h1
   obtain ⟨v, h4, h5⟩ := h m (by omega) cs' _ h3
   exact ⟨v, _, cs', List.getElem?_eq_getElem (by omega), h2, h4, h5⟩
  obtain ⟨l, hll, hlq⟩ := ZqH len each
  have cell : ∀ (i j : Nat) (e' : List D) (x : D), (l.map enc')[i]? = some e' → e'[j]? = some x → ∃ c, W.cell? (a.add (i * sz + j)) = some c ∧ RepD W (· < W.heap.size) x c := fun i j e' x hi' hj => by
   rw [List.getElem?_map] at hi'
   cases hv : l[i]? with
   | none => rw [hv] at hi'; cases hi'
   | some v =>
    rw [hv] at hi'
    cases hi'
    obtain ⟨y, cs', g1, g2, g3, g4⟩ := hlq i v hv
    obtain ⟨c, g5, g6⟩ := g3.2 j x hj
    rw [Nat.zero_add] at g5
    obtain ⟨_, g7, g8⟩ := World.cells?_some g2
    have hjl : j < sz := by
     rw [← hl v]
     rcases Nat.lt_or_ge j (enc' v).length with h | h
     ·exact h
     ·rw [List.getElem?_eq_none h] at hj; cases hj
    refine ⟨c, ?_, g6⟩
    rw [← Go.Eng.add_add, g8 j hjl, g5]
  refine ⟨l, Zeg ?_, ?_⟩
  ·have hlen : (l.map enc').length = len := by simp [hll]
   have := RepD.list (w := W) (S := (· < W.heap.size)) (l.map enc') a sz cap (fun i j => (W.cell? (a.add (i * sz + j))).getD undef) (fun hne => by
     have h0 : 0 < len := by
      rcases Nat.eq_zero_or_pos len with h | h
      ·exact absurd (List.eq_nil_of_length_eq_zero (hlen.trans h)) hne
      ·exact h
     obtain ⟨v, y, cs', _, g2, _⟩ := each 0 h0
     have := World.cells?_block g2 (by omega)
     rw [Nat.zero_mul] at this
     rw [← Go.Eng.block_add a 0]; exact this)
    (by rw [hlen]; exact hlc) (fun e' he => by obtain ⟨y, _, rfl⟩ := List.mem_map.1 he; exact hl y)
    (fun i j e' x hi' hj => by obtain ⟨c, g1, _⟩ := cell i j e' x hi' hj; rw [g1]; rfl)
    (fun i j e' x hi' hj => by obtain ⟨c, g1, g2⟩ := cell i j e' x hi' hj; rw [g1]; exact g2)
   rw [hlen] at this
   exact this
  ·rw [Zpc, Zlq, bk]
   have := Zz0 (e := enc') l elems (by omega) (fun i v hv => by
    obtain ⟨y, cs', g1, g2, g3, g4⟩ := hlq i v hv
    exact ⟨y, g1, g4⟩)
   omega
def FB (xs : List (DataW H × List MemPlace)) (i : Nat) : Nat := Rows.uptoBulkAll ((xs.drop i).map (·.1))
theorem ZaN {xs : List (DataW H × List MemPlace)} {i : Nat} {a b : List D} (h : bkL a + 1 + FB xs (i + 1) ≤ FB xs i) (k : bkL b ≤ FB xs (i + 1)) : bkL (a ++ b) ≤ FB xs i := by
 rw [ZqY]; omega
theorem Zdo {xs : List (DataW H × List MemPlace)} {i : Nat} {a : List D} (h : bkL a + 1 + FB xs (i + 1) ≤ FB xs i) : bkL a ≤ FB xs i := by omega
theorem Zdh {xs : List (DataW H × List MemPlace)} {a : List D} (h : bkL a ≤ FB xs 0) : bkL a + 1 ≤ Rows.uptoBulk (.agg (xs.map (·.1))) := by
 rw [Zw8]; exact Nat.succ_le_succ h
theorem Zu2 {α : Type} {e : α → List D} {m i : Nat} {t' : TypeId} {piece : List Value} {xs : List (DataW H × List MemPlace)} (h : RdN enc P W m t' e) (hf : DataW.trod enc P W 0 (fun _ => true) true m t' piece = xs[i]?) (hi : i < xs.length) :
  ∃ v, Zl5 W (e v) piece ∧ bkL (e v) + 1 + FB xs (i + 1) ≤ FB xs i := by
 rw [List.getElem?_eq_getElem hi] at hf
 obtain ⟨v, h1, h2⟩ := h _ _ hf
 refine ⟨v, h1, ?_⟩
 unfold FB
 rw [List.drop_eq_getElem_cons hi, List.map_cons]
 simp only [Rows.uptoBulkAll]
 omega
theorem rf {α : Type} {e : α → List D} {m i k : Nat} {t' : TypeId} {piece : List Value} {xs : List (DataW H × List MemPlace)} (h : RdN enc P W m t' e) (hf : DataW.trod enc P W 0 (fun _ => true) true m t' piece = xs[i]?) (hx : xs.length = k) (hi : Nat.blt i k = true := by kernel_rfl) :
  ∃ v, Zl5 W (e v) piece ∧ bkL (e v) + 1 + FB xs (i + 1) ≤ FB xs i := Zu2 h hf (by rw [hx]; exact Nat.le_of_ble_eq_true hi)
theorem Zrv {α : Type} {e e' : α → List D} (he : ∀ x, e x = e' x) (h : RdN enc P W n t e') : RdN enc P W n t e := fun cs x hx => by
 obtain ⟨v, h1, h2⟩ := h cs x hx
 exact ⟨v, by rw [he]; exact h1, by rw [he]; exact h2⟩
theorem Zq0 {α : Type} {e : α → List D} {u : TypeId} {r : Reach} {base : Nat} {v : Value} {d : DataW H} {p : List MemPlace} (rd : ∀ n, RdN enc P W n t (fun l : List α => [.list (l.map e)])) (ht : P.underlying t = some (.slice u)) (hv : Value.okWide P W r base t v)
  (h : DataW.Trod enc P W 0 (fun _ => true) true t v d p) : ∃ x : List α, (∀ Hp m l, RepA W (· < W.heap.size) Hp m l (.d (.list (x.map e))) v) ∧ bk (.list (x.map e)) + 1 ≤ Rows.uptoBulk d := by
 obtain ⟨a, len, cap, rfl⟩ := okWide_slice ht hv
 obtain ⟨n, hn⟩ := h
 obtain ⟨x, h1, h2⟩ := rd n _ _ hn
 obtain ⟨c, h3, h4⟩ := h1.2 0 _ rfl
 have : c = .slice a len cap := by simpa [Value.cells] using h3.symm
 subst this
 exact ⟨x, fun _ _ _ => .d _ _ h4, by rw [← Zlq]; exact h2⟩
def Hp0 : Hp := fun _ => ⟨0, false, 0, 0, []⟩
theorem ok0 (m : Mu) : Ok 0 Hp0 m (· < W.heap.size) W := ⟨fun _ h => h, fun _ _ h => (by cases h), fun _ _ h => (by cases h), fun _ _ _ _ h => (by cases h), fun _ _ h => (by cases h)⟩
def ZM1 (w : World) (S : Nat → Prop) (Hp : Hp) (m : Mu) (l : Nat) : List AV → List Value → Prop
 | [], [] => True
 | x :: xs, v :: vs => RepA w S Hp m l x v ∧ ZM1 w S Hp m l xs vs
 | _, _ => False
theorem ZE9 {w : World} {S : Nat → Prop} {Hp : Hp} {m : Mu} {l : Nat} {xs : List AV} {vs : List Value} (h : ZM1 w S Hp m l xs vs) : ZeM w S Hp m l xs vs.toArray := by
 suffices hh : xs.length = vs.length ∧ ∀ (i : Nat) (x : AV) (v : Value), xs[i]? = some x → vs[i]? = some v → RepA w S Hp m l x v by
  exact ⟨by simpa using hh.1, fun i x v hx hv => hh.2 i x v hx (by simpa using hv)⟩
 induction xs generalizing vs with
 | nil => cases vs with
  | nil => exact ⟨rfl, fun i x v h => by simp at h⟩
  | cons _ _ => exact h.elim
 | cons x xs ih => cases vs with
  | nil => exact h.elim
  | cons v vs =>
   obtain ⟨h1, h2⟩ := ih h.2
   refine ⟨by simp [h1], fun i y u hy hu => ?_⟩
   cases i with
   | zero => simp at hy hu; subst hy; subst hu; exact h.1
   | succ i => exact h2 i y u (by simpa using hy) (by simpa using hu)
theorem Zsv {f : Func} {s : ChangeSpec} {W' : World} {args : Array Value} {ds gs : List (DataW H)} {before : List MemPlace} {u : TypeId} (hW : DataW.Whole enc P f.params.toList s.vars false W args.toList ds gs before) (hvars : s.vars = [])
  (hlaid : laidOutB P = true) (hrd : ∀ t ∈ f.params.toList, P.readableRec t = true ∧ t < P.types.size) (hres : f.resultTypes.toList = [u]) (hu : P.underlying u = some .bool)
  (hfn : s.fn H (ds ++ gs) = { results := [.lit (.bool true)], args := ds }) (hb : Below W.heap.size W W') : s.post enc P f false true false false W args (.bool true) W' := by
 obtain ⟨p, q, hA, hV, rfl, hfz, hnd⟩ := id hW
 rw [hvars] at hV
 obtain ⟨rfl, rfl⟩ := trodVars_none hV
 refine ⟨ds, [], p ++ [], [], p, [], hW, ?_, ?_, ?_, ?_, fun h => by cases h⟩
 ·rw [hfn, hres]
  have : (Value.bool true).resultList f.resultTypes.size = [.bool true] := by
   have : f.resultTypes.size = 1 := by rw [← Array.length_toList, hres]; rfl
   rw [this]; rfl
  rw [this]
  exact trodAll_cons_mk (shut_bool hu _) trodAll_mk0
 ·rw [hfn]
  have key : ∀ (ts : List TypeId) (vs : List Value) (es : List (DataW H)) (ps : List MemPlace), (∀ t ∈ ts, P.readableRec t = true ∧ t < P.types.size) → DataW.TrodAll enc P W 0 (fun _ => true) true ts vs es ps →
    DataW.TrodAll enc P W' 0 (fun b => decide (b < W.heap.size)) true ts vs es ps := by
   intro ts
   induction ts with
   | nil => intro vs es ps _ h; obtain ⟨rfl, rfl, rfl⟩ := trodAll_nil h; exact trodAll_mk0
   | cons t ts ih =>
    intro vs es ps hr h
    have hlt := DataW.TrodAll.lt h
    obtain ⟨v, vs1, d, ds1, a, b, rfl, rfl, rfl, h1, h2⟩ := trodAll_cons h
    exact trodAll_cons_mk (Below.trod hlaid (hr t (by simp)).1 (hr t (by simp)).2 h1 hb (fun x hx => hlt x (List.mem_append_left _ hx))) (ih _ _ _ (fun t ht => hr t (by simp [ht])) h2)
  exact key _ _ _ _ hrd hA
 ·rw [hvars, hfn]; exact rfl
 ·refine ⟨hb.os, hb.output, fun i hi => ?_⟩
  rw [hb.block i hi]
  cases W.heap[i]? with
  | none => rfl
  | some o => cases o <;> simp
end
end Go.Proofs.Ythagpbkmakocjaa
namespace Go.Proofs.Ythagpbkmakocjaa
set_option linter.all false
open Go Go.Eng
section
variable {H : Type} {enc : TypeId × Value → H} {W : World}
set_option maxRecDepth 100000
theorem ZHP (n : Nat) : RdN enc Try.prog W n 218 Zva := fun cs x hx => by
 obtain ⟨xs, m, rfl, rfl, hcl, hxl, hf⟩ := DataW.trod_struct Try.underlying218 hx
 obtain ⟨v0, r0, b0⟩ := rf (Zdj Try.underlying3) (hf 0 _ rfl) hxl
 obtain ⟨v1, r1, b1⟩ := rf (Zdj Try.underlying3) (hf 1 _ rfl) hxl
 obtain ⟨v2, r2, b2⟩ := rf (Zdj Try.underlying45) (hf 2 _ rfl) hxl
 obtain ⟨v3, r3, b3⟩ := rf (ZcR Try.underlying9) (hf 3 _ rfl) hxl
 have q := Zdh (ZaN b0 (ZaN b1 (ZaN b2 (Zdo b3))))
 exact ⟨.mk v0 v1 v2 v3, ⟨by rw [hcl]; kernel_rfl, (r0.at.app (r1.at.app (r2.at.app r3.at)))⟩, q⟩
theorem Zyw (n : Nat) (h : ∀ k, k < n → RdN enc Try.prog W k 51 ZC5) : RdN enc Try.prog W n 214 ePr := fun cs x hx => by
 obtain ⟨xs, m, rfl, rfl, hcl, hxl, hf⟩ := DataW.trod_struct Try.underlying214 hx
 obtain ⟨v0, r0, b0⟩ := rf (h m (by omega)) (hf 0 _ rfl) hxl
 obtain ⟨v1, r1, b1⟩ := rf (h m (by omega)) (hf 1 _ rfl) hxl
 have q := Zdh (ZaN b0 (Zdo b1))
 exact ⟨.mk v0 v1, ⟨by rw [hcl]; kernel_rfl, (r0.at.app r1.at)⟩, q⟩
theorem Zq7 (n : Nat) (h : ∀ k, k < n → RdN enc Try.prog W k 51 ZC5) : RdN enc Try.prog W n 216 ZLp := fun cs x hx => by
 obtain ⟨xs, m, rfl, rfl, hcl, hxl, hf⟩ := DataW.trod_struct Try.underlying216 hx
 obtain ⟨v0, r0, b0⟩ := rf (Zdj Try.underlying3) (hf 0 _ rfl) hxl
 obtain ⟨v1, r1, b1⟩ := rf (h m (by omega)) (hf 1 _ rfl) hxl
 have q := Zdh (ZaN b0 (Zdo b1))
 exact ⟨.mk v0 v1, ⟨by rw [hcl]; kernel_rfl, (r0.at.app r1.at)⟩, q⟩
theorem Zzh (n : Nat) : RdN enc Try.prog W n 51 ZC5 := by
 induction n using Nat.strongRecOn with
 | ind n ih =>
 intro cs x hx
 obtain ⟨xs, m, rfl, rfl, hcl, hxl, hf⟩ := DataW.trod_struct Try.underlying51 hx
 obtain ⟨v0, r0, b0⟩ := rf (Zdj Try.underlying3) (hf 0 _ rfl) hxl
 obtain ⟨v1, r1, b1⟩ := rf (Zdj Try.underlying45) (hf 1 _ rfl) hxl
 obtain ⟨v2, r2, b2⟩ := rf (ZcR Try.underlying9) (hf 2 _ rfl) hxl
 obtain ⟨v3, r3, b3⟩ := rf (Za6 Try.underlying46 (by kernel_rfl : Try.prog.cellsOf 51 = 7) (by decide) (fun x => by rw [ZiT]; rfl) (fun k hk => (Zrv ZiT (ih k (by omega))))) (hf 3 _ rfl) hxl
 obtain ⟨v4, r4, b4⟩ := rf (Za6 Try.underlying47 (by kernel_rfl : Try.prog.cellsOf 214 = 14) (by decide) (fun x => by rw [Zzx]; rfl) (fun k hk => (Zrv Zzx (Zyw k (fun j hj => ih j (by omega)))))) (hf 4 _ rfl) hxl
 obtain ⟨v5, r5, b5⟩ := rf (Za6 Try.underlying48 (by kernel_rfl : Try.prog.cellsOf 216 = 8) (by decide) (fun x => by rw [Zuk]; rfl) (fun k hk => (Zrv Zuk (Zq7 k (fun j hj => ih j (by omega)))))) (hf 5 _ rfl) hxl
 obtain ⟨v6, r6, b6⟩ := rf (Za6 Try.underlying49 (by kernel_rfl : Try.prog.cellsOf 218 = 4) (by decide) (fun _ => rfl) (fun k hk => (ZHP k))) (hf 6 _ rfl) hxl
 have q := Zdh (ZaN b0 (ZaN b1 (ZaN b2 (ZaN b3 (ZaN b4 (ZaN b5 (Zdo b6)))))))
 exact ⟨.mk v0 v1 v2 v3 v4 v5 v6, ⟨by rw [hcl]; kernel_rfl, (r0.at.app (r1.at.app (r2.at.app (r3.at.app (r4.at.app (r5.at.app r6.at))))))⟩, q⟩
theorem ZH0 (n : Nat) : RdN enc Try.prog W n 44 ZN2 := fun cs x hx => by
 obtain ⟨xs, m, rfl, rfl, hcl, hxl, hf⟩ := DataW.trod_struct Try.underlying44 hx
 obtain ⟨v0, r0, b0⟩ := rf (Zdj Try.underlying3) (hf 0 _ rfl) hxl
 obtain ⟨v1, r1, b1⟩ := rf (ZcR Try.underlying9) (hf 1 _ rfl) hxl
 have q := Zdh (ZaN b0 (Zdo b1))
 exact ⟨.mk v0 v1, ⟨by rw [hcl]; kernel_rfl, (r0.at.app r1.at)⟩, q⟩
theorem ZpL (n : Nat) : RdN enc Try.prog W n 159 eNt := fun cs x hx => by
 obtain ⟨xs, m, rfl, rfl, hcl, hxl, hf⟩ := DataW.trod_struct Try.underlying159 hx
 obtain ⟨v0, r0, b0⟩ := rf (ZcR Try.underlying9) (hf 0 _ rfl) hxl
 obtain ⟨v1, r1, b1⟩ := rf (Zzh m) (hf 1 _ rfl) hxl
 have q := Zdh (ZaN b0 (Zdo b1))
 exact ⟨.mk v0 v1, ⟨by rw [hcl]; kernel_rfl, (r0.at.app r1.at)⟩, q⟩
theorem ZIh (n : Nat) : RdN enc Try.prog W n 53 ZdA := fun cs x hx => by
 obtain ⟨xs, m, rfl, rfl, hcl, hxl, hf⟩ := DataW.trod_struct Try.underlying53 hx
 obtain ⟨v0, r0, b0⟩ := rf (Zdj Try.underlying3) (hf 0 _ rfl) hxl
 obtain ⟨v1, r1, b1⟩ := rf (ZcR Try.underlying9) (hf 1 _ rfl) hxl
 obtain ⟨v2, r2, b2⟩ := rf (Zdj Try.underlying3) (hf 2 _ rfl) hxl
 obtain ⟨v3, r3, b3⟩ := rf (Zdj Try.underlying3) (hf 3 _ rfl) hxl
 obtain ⟨v4, r4, b4⟩ := rf (ZH0 m) (hf 4 _ rfl) hxl
 obtain ⟨v5, r5, b5⟩ := rf (ZcR Try.underlying9) (hf 5 _ rfl) hxl
 obtain ⟨v6, r6, b6⟩ := rf (Zt2 Try.underlying4) (hf 6 _ rfl) hxl
 obtain ⟨v7, r7, b7⟩ := rf (Zzh m) (hf 7 _ rfl) hxl
 obtain ⟨v8, r8, b8⟩ := rf (Za6 Try.underlying37 (by kernel_rfl : Try.prog.cellsOf 159 = 8) (by decide) (fun _ => rfl) (fun k hk => (ZpL k))) (hf 8 _ rfl) hxl
 have q := Zdh (ZaN b0 (ZaN b1 (ZaN b2 (ZaN b3 (ZaN b4 (ZaN b5 (ZaN b6 (ZaN b7 (Zdo b8)))))))))
 exact ⟨.mk v0 v1 v2 v3 v4 v5 v6 v7 v8, ⟨by rw [hcl]; kernel_rfl, (r0.at.app (r1.at.app (r2.at.app (r3.at.app (r4.at.app (r5.at.app (r6.at.app (r7.at.app r8.at))))))))⟩, q⟩
theorem ZzF (n : Nat) : RdN enc Try.prog W n 157 Zfv := fun cs x hx => by
 obtain ⟨xs, m, rfl, rfl, hcl, hxl, hf⟩ := DataW.trod_struct Try.underlying157 hx
 obtain ⟨v0, r0, b0⟩ := rf (Zdj Try.underlying3) (hf 0 _ rfl) hxl
 obtain ⟨v1, r1, b1⟩ := rf (Zdj Try.underlying3) (hf 1 _ rfl) hxl
 have q := Zdh (ZaN b0 (Zdo b1))
 exact ⟨.mk v0 v1, ⟨by rw [hcl]; kernel_rfl, (r0.at.app r1.at)⟩, q⟩
theorem ZJH (n : Nat) : RdN enc Try.prog W n 39 Zal := fun cs x hx => by
 obtain ⟨xs, m, rfl, rfl, hcl, hxl, hf⟩ := DataW.trod_struct Try.underlying39 hx
 obtain ⟨v0, r0, b0⟩ := rf (ZcR Try.underlying9) (hf 0 _ rfl) hxl
 obtain ⟨v1, r1, b1⟩ := rf (Za6 Try.underlying35 (by kernel_rfl : Try.prog.cellsOf 53 = 16) (by decide) (fun _ => rfl) (fun k hk => (ZIh k))) (hf 1 _ rfl) hxl
 obtain ⟨v2, r2, b2⟩ := rf (Za6 Try.underlying36 (by kernel_rfl : Try.prog.cellsOf 157 = 2) (by decide) (fun _ => rfl) (fun k hk => (ZzF k))) (hf 2 _ rfl) hxl
 obtain ⟨v3, r3, b3⟩ := rf (Za6 Try.underlying34 (by kernel_rfl : Try.prog.cellsOf 9 = 1) (by decide) (fun _ => rfl) (fun k hk => (ZcR Try.underlying9))) (hf 3 _ rfl) hxl
 obtain ⟨v4, r4, b4⟩ := rf (Za6 Try.underlying37 (by kernel_rfl : Try.prog.cellsOf 159 = 8) (by decide) (fun _ => rfl) (fun k hk => (ZpL k))) (hf 4 _ rfl) hxl
 have q := Zdh (ZaN b0 (ZaN b1 (ZaN b2 (ZaN b3 (Zdo b4)))))
 exact ⟨.mk v0 v1 v2 v3 v4, ⟨by rw [hcl]; kernel_rfl, (r0.at.app (r1.at.app (r2.at.app (r3.at.app r4.at))))⟩, q⟩
theorem ZH8 (n : Nat) : RdN enc Try.prog W n 127 ZkV := fun cs x hx => by
 obtain ⟨xs, m, rfl, rfl, hcl, hxl, hf⟩ := DataW.trod_struct Try.underlying127 hx
 obtain ⟨v0, r0, b0⟩ := rf (ZcR Try.underlying9) (hf 0 _ rfl) hxl
 obtain ⟨v1, r1, b1⟩ := rf (Zdj Try.underlying3) (hf 1 _ rfl) hxl
 obtain ⟨v2, r2, b2⟩ := rf (Za6 Try.underlying37 (by kernel_rfl : Try.prog.cellsOf 159 = 8) (by decide) (fun _ => rfl) (fun k hk => (ZpL k))) (hf 2 _ rfl) hxl
 have q := Zdh (ZaN b0 (ZaN b1 (Zdo b2)))
 exact ⟨.mk v0 v1 v2, ⟨by rw [hcl]; kernel_rfl, (r0.at.app (r1.at.app r2.at))⟩, q⟩
theorem ZIk (n : Nat) : RdN enc Try.prog W n 42 Zag := fun cs x hx => by
 obtain ⟨xs, m, rfl, rfl, hcl, hxl, hf⟩ := DataW.trod_struct Try.underlying42 hx
 obtain ⟨v0, r0, b0⟩ := rf (ZcR Try.underlying9) (hf 0 _ rfl) hxl
 obtain ⟨v1, r1, b1⟩ := rf (Zt2 Try.underlying4) (hf 1 _ rfl) hxl
 obtain ⟨v2, r2, b2⟩ := rf (Za6 Try.underlying40 (by kernel_rfl : Try.prog.cellsOf 127 = 3) (by decide) (fun _ => rfl) (fun k hk => (ZH8 k))) (hf 2 _ rfl) hxl
 obtain ⟨v3, r3, b3⟩ := rf (Za6 Try.underlying36 (by kernel_rfl : Try.prog.cellsOf 157 = 2) (by decide) (fun _ => rfl) (fun k hk => (ZzF k))) (hf 3 _ rfl) hxl
 obtain ⟨v4, r4, b4⟩ := rf (Za6 Try.underlying37 (by kernel_rfl : Try.prog.cellsOf 159 = 8) (by decide) (fun _ => rfl) (fun k hk => (ZpL k))) (hf 4 _ rfl) hxl
 have q := Zdh (ZaN b0 (ZaN b1 (ZaN b2 (ZaN b3 (Zdo b4)))))
 exact ⟨.mk v0 v1 v2 v3 v4, ⟨by rw [hcl]; kernel_rfl, (r0.at.app (r1.at.app (r2.at.app (r3.at.app r4.at))))⟩, q⟩
theorem ZJv (n : Nat) : RdN enc Try.prog W n 59 Zey := fun cs x hx => by
 obtain ⟨xs, m, rfl, rfl, hcl, hxl, hf⟩ := DataW.trod_struct Try.underlying59 hx
 obtain ⟨v0, r0, b0⟩ := rf (ZcR Try.underlying9) (hf 0 _ rfl) hxl
 obtain ⟨v1, r1, b1⟩ := rf (ZcR Try.underlying9) (hf 1 _ rfl) hxl
 obtain ⟨v2, r2, b2⟩ := rf (ZcR Try.underlying9) (hf 2 _ rfl) hxl
 obtain ⟨v3, r3, b3⟩ := rf (Zdj Try.underlying3) (hf 3 _ rfl) hxl
 obtain ⟨v4, r4, b4⟩ := rf (Za6 Try.underlying37 (by kernel_rfl : Try.prog.cellsOf 159 = 8) (by decide) (fun _ => rfl) (fun k hk => (ZpL k))) (hf 4 _ rfl) hxl
 have q := Zdh (ZaN b0 (ZaN b1 (ZaN b2 (ZaN b3 (Zdo b4)))))
 exact ⟨.mk v0 v1 v2 v3 v4, ⟨by rw [hcl]; kernel_rfl, (r0.at.app (r1.at.app (r2.at.app (r3.at.app r4.at))))⟩, q⟩
theorem ZJZ (n : Nat) : RdN enc Try.prog W n 57 Zao := fun cs x hx => by
 obtain ⟨xs, m, rfl, rfl, hcl, hxl, hf⟩ := DataW.trod_struct Try.underlying57 hx
 obtain ⟨v0, r0, b0⟩ := rf (ZcR Try.underlying9) (hf 0 _ rfl) hxl
 obtain ⟨v1, r1, b1⟩ := rf (Za6 Try.underlying55 (by kernel_rfl : Try.prog.cellsOf 59 = 5) (by decide) (fun _ => rfl) (fun k hk => (ZJv k))) (hf 1 _ rfl) hxl
 obtain ⟨v2, r2, b2⟩ := rf (Za6 Try.underlying37 (by kernel_rfl : Try.prog.cellsOf 159 = 8) (by decide) (fun _ => rfl) (fun k hk => (ZpL k))) (hf 2 _ rfl) hxl
 have q := Zdh (ZaN b0 (ZaN b1 (Zdo b2)))
 exact ⟨.mk v0 v1 v2, ⟨by rw [hcl]; kernel_rfl, (r0.at.app (r1.at.app r2.at))⟩, q⟩
theorem ZH1 (n : Nat) : RdN enc Try.prog W n 61 Zar := fun cs x hx => by
 obtain ⟨xs, m, rfl, rfl, hcl, hxl, hf⟩ := DataW.trod_struct Try.underlying61 hx
 obtain ⟨v0, r0, b0⟩ := rf (ZcR Try.underlying9) (hf 0 _ rfl) hxl
 obtain ⟨v1, r1, b1⟩ := rf (ZcR Try.underlying9) (hf 1 _ rfl) hxl
 obtain ⟨v2, r2, b2⟩ := rf (Za6 Try.underlying34 (by kernel_rfl : Try.prog.cellsOf 9 = 1) (by decide) (fun _ => rfl) (fun k hk => (ZcR Try.underlying9))) (hf 2 _ rfl) hxl
 obtain ⟨v3, r3, b3⟩ := rf (Za6 Try.underlying23 (by kernel_rfl : Try.prog.cellsOf 39 = 5) (by decide) (fun _ => rfl) (fun k hk => (ZJH k))) (hf 3 _ rfl) hxl
 obtain ⟨v4, r4, b4⟩ := rf (Za6 Try.underlying24 (by kernel_rfl : Try.prog.cellsOf 42 = 5) (by decide) (fun _ => rfl) (fun k hk => (ZIk k))) (hf 4 _ rfl) hxl
 obtain ⟨v5, r5, b5⟩ := rf (Za6 Try.underlying25 (by kernel_rfl : Try.prog.cellsOf 57 = 3) (by decide) (fun _ => rfl) (fun k hk => (ZJZ k))) (hf 5 _ rfl) hxl
 have q := Zdh (ZaN b0 (ZaN b1 (ZaN b2 (ZaN b3 (ZaN b4 (Zdo b5))))))
 exact ⟨.mk v0 v1 v2 v3 v4 v5, ⟨by rw [hcl]; kernel_rfl, (r0.at.app (r1.at.app (r2.at.app (r3.at.app (r4.at.app r5.at)))))⟩, q⟩
end
end Go.Proofs.Ythagpbkmakocjaa
namespace Go.Proofs.Ythagpbkmakocjaa
set_option linter.all false
open Go Go.Eng
structure OkF (f : Fil) : Prop where
 m : ∀ m ∈ f.messages, OkM m
 e : ∀ e ∈ f.enums, OkE e
 v : ∀ v ∈ f.services, OkV v
theorem ZzC (d : Fld) : d.type.name.size + Zfb (d.notes.map eNt) ≤ bkL (ZdA d) := by
 simp only [ZdA, bkL, bk]; omega
theorem ZnL (m : Msg) : m.name.size + Zfb (m.fields.map ZdA) + Zfb (m.reserved.map Zfv) + Zfb (m.gone.map Zah) + Zfb (m.notes.map eNt) ≤ bkL (Zal m) := by
 simp only [Zal, bkL, bk]; omega
theorem ZHv (d : Itm) : Zfb (d.notes.map eNt) ≤ bkL (ZkV d) := by
 simp only [ZkV, bkL, bk]; omega
theorem ZtU (m : Enm) : m.name.size + Zfb (m.items.map ZkV) + Zfb (m.reserved.map Zfv) + Zfb (m.notes.map eNt) ≤ bkL (Zag m) := by
 simp only [Zag, bkL, bk]; omega
theorem ZAe (d : Mth) : d.inn.size + d.out.size + Zfb (d.notes.map eNt) ≤ bkL (Zey d) := by
 simp only [Zey, bkL, bk]; omega
theorem ZnT (m : Svc) : m.name.size + Zfb (m.methods.map Zey) + Zfb (m.notes.map eNt) ≤ bkL (Zao m) := by
 simp only [Zao, bkL, bk]; omega
theorem Znf (f : Fil) : f.name.size + f.space.size + Zfb (f.imports.map Zah) + Zfb (f.messages.map Zal) + Zfb (f.enums.map Zag) + Zfb (f.services.map Zao) ≤ bkL (Zar f) := by
 simp only [Zar, bkL, bk]; omega
theorem ZIi {m : Msg} (h : bkL (Zal m) ≤ 1048576) : OkM m := by
 have h1 := ZnL m
 have a := Zb2 (e := ZdA) m.fields
 have b := Zb2 (e := Zfv) m.reserved
 have c := Zb2 (e := Zah) m.gone
 have d := Zb2 (e := eNt) m.notes
 refine ⟨by omega, by omega, by omega, by omega, fun x hx => ?_⟩
 have e := ZcE (e := ZdA) hx
 have f := ZzC x
 have g := Zb2 (e := eNt) x.notes
 omega
theorem ZIb {m : Enm} (h : bkL (Zag m) ≤ 1048576) : OkE m := by
 have h1 := ZtU m
 have a := Zb2 (e := ZkV) m.items
 have b := Zb2 (e := Zfv) m.reserved
 have d := Zb2 (e := eNt) m.notes
 refine ⟨by omega, by omega, by omega, fun x hx => ?_⟩
 have e := ZcE (e := ZkV) hx
 have f := ZHv x
 have g := Zb2 (e := eNt) x.notes
 omega
theorem ZJr {m : Svc} (h : bkL (Zao m) ≤ 1048576) : OkV m := by
 have h1 := ZnT m
 have a := Zb2 (e := Zey) m.methods
 have d := Zb2 (e := eNt) m.notes
 refine ⟨by omega, by omega, fun x hx => ?_⟩
 have e := ZcE (e := Zey) hx
 have f := ZAe x
 have g := Zb2 (e := eNt) x.notes
 omega
theorem ZJq {f : Fil} (h : bkL (Zar f) ≤ 1048576) : OkF f := by
 have h1 := Znf f
 exact ⟨fun m hm => ZIi (by have := ZcE (e := Zal) hm; omega), fun m hm => ZIb (by have := ZcE (e := Zag) hm; omega), fun m hm => ZJr (by have := ZcE (e := Zao) hm; omega)⟩
theorem ZJp {f : Fil} (h : bkL (Zar f) ≤ 1048576) : SzF f := by
 have h1 := Znf f
 have a := Zb2 (e := Zah) f.imports
 have b := Zb2 (e := Zal) f.messages
 have c := Zb2 (e := Zag) f.enums
 have d := Zb2 (e := Zao) f.services
 refine ⟨by omega, by omega, by omega, by omega, by omega, by omega, fun x hx => ?_, fun x hx => ?_, fun x hx => ?_⟩
 ·have := ZcE (e := Zal) hx; have := ZnL x; omega
 ·have := ZcE (e := Zag) hx; have := ZtU x; omega
 ·have := ZcE (e := Zao) hx; have := ZnT x; omega
theorem ZHn {f : Fil} (h : bkL (Zar f) ≤ 1048576) : SzG f := by
 have h1 := Znf f
 refine ⟨fun x hx => ?_, fun x hx d hd => ?_, fun x hx => ?_, fun x hx d hd => ?_, fun x hx => ?_⟩
 ·have := ZcE (e := Zal) hx; have := ZnL x; have := Zb2 (e := ZdA) x.fields; omega
 ·have := ZcE (e := Zal) hx; have := ZnL x; have := ZcE (e := ZdA) hd; have := ZzC d; omega
 ·have := ZcE (e := Zao) hx; have := ZnT x; have := Zb2 (e := Zey) x.methods; omega
 ·have := ZcE (e := Zao) hx; have := ZnT x; have := ZcE (e := Zey) hd; have := ZAe d; omega
 ·have := ZcE (e := Zag) hx; have := ZtU x; have := Zb2 (e := ZkV) x.items; omega
theorem ZI7 {α : Type} (a b : α → Nat) {x y : α} : ∀ {l : List α}, x ∈ l → y ∈ l → a x + b y ≤ (l.map fun z => a z + b z).sum
 | z :: l, hx, hy => by
  have one : ∀ (c : α → Nat) {w : α} {l : List α}, w ∈ l → c w ≤ (l.map c).sum := fun c w l hw => by
   induction l with
   | nil => cases hw
   | cons v l ih => rw [List.map_cons, List.sum_cons]; cases List.mem_cons.1 hw with
    | inl h => subst h; omega
    | inr h => have := ih h; omega
  have spl : ∀ l : List α, (l.map fun z => a z + b z).sum = (l.map a).sum + (l.map b).sum := fun l => by
   induction l with
   | nil => rfl
   | cons v l ih => simp only [List.map_cons, List.sum_cons, ih]; omega
  rw [spl]
  have := one a hx
  have := one b hy
  omega
theorem ZzQ : ∀ fs : List Fil, (fs.map fun f => f.imports.length + tot f).sum ≤ Zfb (fs.map Zar)
 | [] => Nat.le_refl _
 | f :: l => by
  have := ZzQ l
  have h1 := Znf f
  have a := Zb2 (e := Zah) f.imports
  have b := Zb2 (e := Zal) f.messages
  have c := Zb2 (e := Zag) f.enums
  have d := Zb2 (e := Zao) f.services
  simp only [List.map_cons, List.sum_cons, Zfb, tot] at *
  omega
theorem Zsi : ∀ fs : List Fil, (fs.map tot).sum ≤ (fs.map fun f => f.imports.length + tot f).sum
 | [] => Nat.le_refl _
 | f :: l => by have := Zsi l; simp only [List.map_cons, List.sum_cons]; omega
theorem szs {fs : List Fil} (h : Zfb (fs.map Zar) ≤ 1048576) : SzA fs ∧ (∀ f ∈ fs, SzG f) ∧ ∀ f ∈ fs, OkF f := by
 have k : ∀ f ∈ fs, bkL (Zar f) ≤ 1048576 := fun f hf => by have := ZcE (e := Zar) hf; omega
 have a := Zb2 (e := Zar) fs
 have b := ZzQ fs
 have c := Zsi fs
 exact ⟨⟨fun f hf => ZJp (k f hf), by omega, by omega, fun f hf g hg => by have := ZI7 (fun f : Fil => f.imports.length) tot hg hf; omega⟩, fun f hf => ZHn (k f hf), fun f hf => ZJq (k f hf)⟩
theorem Zl2 (known msgs : List ByteArray) (en : List Enm) (scope : ByteArray) (d : Fld) : (ZaW known msgs en scope d).1.notes = d.notes := by
 unfold ZaW
 repeat' split
 all_goals rfl
theorem Zt8 (known msgs : List ByteArray) (space : ByteArray) (d : Mth) : (ZdB known msgs space d).1.notes = d.notes := by
 unfold ZdB
 repeat' split
 all_goals rfl
theorem ZA4 {fs : List Fil} {f : Fil} {m : Msg} (h : OkM m) : OkM (mS fs f m).1 := by
 unfold mS ZzP
 split
 ·exact h
 ·refine ⟨by simpa using h.f, h.r, h.g, h.n, fun d hd => ?_⟩
  obtain ⟨x, hx, rfl⟩ := List.mem_map.1 hd
  rw [Zl2]
  exact h.d x hx
theorem ZC8 {fs : List Fil} {f : Fil} {m : Svc} (h : OkV m) : OkV (vS' fs f m).1 := by
 unfold vS' Zz1
 split
 ·exact h
 ·refine ⟨by simpa using h.m, h.n, fun d hd => ?_⟩
  obtain ⟨x, hx, rfl⟩ := List.mem_map.1 hd
  rw [Zt8]
  exact h.d x hx
theorem Zwz {fs : List Fil} {s : Scm} (hF : ∀ f ∈ fs, OkF f) (hb : ¬ Zp7 fs) (h1 : s.messages.Perm (fs.flatMap (Zdz fs))) (h2 : s.enums.Perm (Zat fs)) (h3 : s.services.Perm (fs.flatMap (Zdf fs))) : OkS s := by
 unfold Zp7 at hb
 refine ⟨by rw [h1.length_eq, Zkh]; omega, by rw [h2.length_eq, Zg7]; omega, by rw [h3.length_eq, ZkB]; omega, fun m hm => ?_, fun m hm => ?_, fun m hm => ?_⟩
 ·obtain ⟨f, hf, hm⟩ := List.mem_flatMap.1 (h1.mem_iff.1 hm)
  obtain ⟨x, hx, rfl⟩ := List.mem_map.1 hm
  exact ZA4 ((hF f hf).m x hx)
 ·obtain ⟨f, hf, hm⟩ := List.mem_flatMap.1 (h2.mem_iff.1 hm)
  obtain ⟨x, hx, rfl⟩ := List.mem_map.1 hm
  exact ⟨((hF f hf).e x hx).i, ((hF f hf).e x hx).r, ((hF f hf).e x hx).n, ((hF f hf).e x hx).d⟩
 ·obtain ⟨f, hf, hm⟩ := List.mem_flatMap.1 (h3.mem_iff.1 hm)
  obtain ⟨x, hx, rfl⟩ := List.mem_map.1 hm
  exact ZC8 ((hF f hf).v x hx)
end Go.Proofs.Ythagpbkmakocjaa
namespace Go.Proofs.Ythagpbkmakocjaa
set_option linter.all false
open Go Go.Eng
set_option maxRecDepth 100000 in
theorem aw : ZcB = some true := by kernel_rfl
theorem ZGv {fs : List Fil} (h : Zfb (fs.map Zar) ≤ 1048576) :
  ∃ s, ZdK fs = some (s, ZhL fs) ∧ ZbB fs = some (s, ZhL fs) ∧ ((ZhL fs).2 ≠ 0 → s = ⟨[], [], []⟩) ∧ OkS s ∧
   ((ZhL fs).2 = 0 → Base0 fs ∧ fs.findSome? (ZhG fs) = none ∧ ¬ Zp7 fs ∧ s.messages.Perm (fs.flatMap (Zdz fs)) ∧ s.enums.Perm (Zat fs) ∧ s.services.Perm (fs.flatMap (Zdf fs))) := by
 obtain ⟨h1, h2, h3⟩ := szs h
 obtain ⟨s, a, b, c, d⟩ := Zp9 ZMa fs h1 h2
 refine ⟨s, a, b, c, ?_, d⟩
 by_cases h0 : (ZhL fs).2 = 0
 ·obtain ⟨_, _, e, f, g, k⟩ := d h0
  exact Zwz h3 e f g k
 ·rw [c h0]
  refine ⟨by decide, by decide, by decide, ?_, ?_, ?_⟩ <;> (intro m hm; cases hm)
theorem Zji {fs : List Fil} (h : Zfb (fs.map Zar) ≤ 1048576) : ZbD fs = some true := by
 obtain ⟨s, a, b, c, d, _⟩ := ZGv h
 unfold ZbD
 dsimp only [ZMD, cl, clg, vw, lr, lf]
 simp [a, b, r11 s d, aw]
end Go.Proofs.Ythagpbkmakocjaa
namespace Go.Proofs.Ythagpbkmakocjaa
set_option linter.all false
open Go Go.Eng Go.ChangeShapes Go.WideShapes Go.ChangeAt Go.RowKit
theorem own : ownKnob Try.prog.godebug = none := by kernel_rfl
namespace LinkRuns
open Go.Proofs.Ythagpbkmakocjaa
set_option maxRecDepth 100000 in
theorem contract (H : Type) (enc : TypeId × Value → H) (W : World) (base : Nat) (args : Array Value) (ds gs : List (DataW H)) (before : List MemPlace)
  (hval : ∀ (j : Nat) t v, Try.f3.params[j]? = some t → args[j]? = some v → Value.okWide Try.prog W .any base t v)
  (hW : DataW.Whole enc Try.prog Try.f3.params.toList Rows.linkRunsSpec.vars false W args.toList ds gs before) (hk : Rows.uptoSmall H (ds ++ gs) = true) :
  Calls Try.prog 3 args W fun e W' => ∃ v, e = .returned v ∧ Rows.linkRunsSpec.post enc Try.prog Try.f3 false true false false W args v W' := by
 obtain ⟨p, q, hA0, hV, rfl, hfz, hnd⟩ := id hW
 have hA : DataW.TrodAll enc Try.prog W 0 (fun _ => true) true Try.f3.params.toList args.toList ds p := hA0
 rw [Try.params3] at hA hval
 obtain ⟨v0, vs0, d0, ds0, p0, q0, hargs, rfl, rfl, h0, r0⟩ := trodAll_cons hA
 obtain ⟨rfl, rfl, rfl⟩ := trodAll_nil r0
 obtain rfl : args = #[v0] := by cases args; simp_all
 have hb : Rows.uptoBulkAll ([d0] ++ gs) ≤ 1048576 := of_decide_eq_true hk
 simp only [List.cons_append, List.nil_append, Rows.uptoBulkAll] at hb
 obtain ⟨files, re0, fe0⟩ := Zq0 (e := Zar) (fun n => Za6 Try.underlying22 (by kernel_rfl : Try.prog.cellsOf 61 = 6) (by decide) (fun _ => rfl) (fun m _ => ZH1 m)) Try.underlying22 (hval 0 22 v0 rfl rfl) h0
 simp only [bk] at fe0
 obtain ⟨rfl, rfl⟩ := trodVars_none hV
 have A := (K_3 files).k 0 Hp0 true (Zji (by omega))
 refine (A.2 (fun _ => ⟨0, 0, 0⟩) (· < W.heap.size) W #[v0] (ok0 _) (ZE9 (xs := [.d (.list (files.map Zar))]) (vs := [v0]) ⟨re0 _ _ _, trivial⟩)).mono fun e W' ⟨r, v, H', m', S', he, hp, hO, hr, hx⟩ => ?_
 obtain ⟨hp, _⟩ := hp
 subst he
 subst hp
 cases hr
 rename_i hd
 cases hd
 exact ⟨_, rfl, Zsv hW rfl (by kernel_rfl) (by rw [Try.params3]; exact (by decide +kernel)) (by kernel_rfl) Try.underlying4 rfl ⟨hx.os, hx.tape, hx.output, hx.size, hx.blk⟩⟩
set_option maxRecDepth 100000 in
theorem lifted (os : Os) (started : os.Started) (H : Type) (enc : TypeId × Value → H) (F : Stop.Interp) :
  ReturnsInHanded {} Try.checked os 3 .any ((Rows.OpenSpec.upto Rows.linkRunsSpec).pre6 enc Try.prog Try.f3 Rows.linkRunsUptoRow.domain false) (((Rows.OpenSpec.upto Rows.linkRunsSpec).at F).post enc Try.prog Try.f3 false true false false) := by
 refine returnsInHanded_of_cond (C := Try.checked) (s := Rows.OpenSpec.upto Rows.linkRunsSpec) (k := Rows.uptoSmall) rfl own started (by kernel_rfl) Try.func3
  (OpenSpec.witness (enc := enc) (C := Try.checked) (s := Rows.OpenSpec.upto Rows.linkRunsSpec) (k := Rows.uptoSmall) rfl false ⟨#[], #[.slice none 0 0], []⟩ 8 (by kernel_rfl) (by kernel_rfl) (by kernel_rfl)
   (x := ([.nil], [], [])) (by kernel_rfl) rfl (by kernel_rfl)) ?_
 intro W base args ds gs before hval hW _ hk _
 exact contract H enc W base args ds gs before hval hW hk
theorem holds : Rows.LinkRunsUptoSaid :=
 OpenClaim.holds_of_cond 3 Try.f3 rfl rfl rfl rfl rfl rfl rfl ⟨rfl, rfl, rfl, rfl, rfl⟩ rfl rfl rfl rfl rfl (by kernel_rfl) Try.func3 (by kernel_rfl)
  (of_decide_eq_true (by kernel_rfl)) (by unfold Func.isWrapper; first | (rw [if_pos (by decide +kernel)]; kernel_rfl) | (rw [if_neg (by decide +kernel)]; exact ⟨rfl, rfl⟩))
  (fun os started H enc _ F => lifted os started H enc F)
end LinkRuns
end Go.Proofs.Ythagpbkmakocjaa
