import Derived.Test.YthagpbkmakocjaaGreatCy22
import Derived.Test.YthagpbkmakocjaaGreatCy11
import Derived.Test.YthagpbkmakocjaaGreatCy10
import Derived.Test.YthagpbkmakocjaaGreatRows
import Derived.WalkKit
import Derived.ProofKit
import Derived.OpenShut
import Derived.Carry
import Derived.Deep.DeepHandedRow
import Derived.Test.YthagpbkmakocjaaGreatCy20
namespace Go.Proofs.YthagpbkmakocjaaGreat
set_option linter.all false
open Go Go.Eng
theorem ZDg {α : Type} (z : α) (fu : Nat) (l : List α) (a m b : Nat) (cf : α → α → Int) (s : Nat) :
  (cond ((decide (((s : Nat) : Int) < ((m : Nat) : Int)) && decide (((m : Nat) : Int) < (((((a + b) / 2) + m) - s : Nat) : Int)))) (cond ((decide (((a : Nat) : Int) < ((s : Nat) : Int)) && decide (((s : Nat) : Int) < (((a + b) / 2 : Nat) : Int)))) (cond ((decide ((((a + b) / 2 : Nat) : Int) < (((((a + b) / 2) + m) - s : Nat) : Int)) && decide ((((((a + b) / 2) + m) - s : Nat) : Int) < ((b : Nat) : Int)))) ((Zac z fu (Zac z fu (ZaA z l s m ((((a + b) / 2) + m) - s) cf) a s ((a + b) / 2) cf) ((a + b) / 2) ((((a + b) / 2) + m) - s) b cf)) ((Zac z fu (ZaA z l s m ((((a + b) / 2) + m) - s) cf) a s ((a + b) / 2) cf))) (cond ((decide ((((a + b) / 2 : Nat) : Int) < (((((a + b) / 2) + m) - s : Nat) : Int)) && decide ((((((a + b) / 2) + m) - s : Nat) : Int) < ((b : Nat) : Int)))) ((Zac z fu (ZaA z l s m ((((a + b) / 2) + m) - s) cf) ((a + b) / 2) ((((a + b) / 2) + m) - s) b cf)) ((ZaA z l s m ((((a + b) / 2) + m) - s) cf)))) (cond ((decide (((a : Nat) : Int) < ((s : Nat) : Int)) && decide (((s : Nat) : Int) < (((a + b) / 2 : Nat) : Int)))) (cond ((decide ((((a + b) / 2 : Nat) : Int) < (((((a + b) / 2) + m) - s : Nat) : Int)) && decide ((((((a + b) / 2) + m) - s : Nat) : Int) < ((b : Nat) : Int)))) ((Zac z fu (Zac z fu l a s ((a + b) / 2) cf) ((a + b) / 2) ((((a + b) / 2) + m) - s) b cf)) ((Zac z fu l a s ((a + b) / 2) cf))) (cond ((decide ((((a + b) / 2 : Nat) : Int) < (((((a + b) / 2) + m) - s : Nat) : Int)) && decide ((((((a + b) / 2) + m) - s : Nat) : Int) < ((b : Nat) : Int)))) ((Zac z fu l ((a + b) / 2) ((((a + b) / 2) + m) - s) b cf)) (l)))) = ZdI z fu l a m b cf s := by
 unfold ZdI
 dsimp only
 generalize (decide (((s : Nat) : Int) < ((m : Nat) : Int)) && decide (((m : Nat) : Int) < (((((a + b) / 2) + m) - s : Nat) : Int))) = c1
 generalize (decide (((a : Nat) : Int) < ((s : Nat) : Int)) && decide (((s : Nat) : Int) < (((a + b) / 2 : Nat) : Int))) = c2
 generalize (decide ((((a + b) / 2 : Nat) : Int) < (((((a + b) / 2) + m) - s : Nat) : Int)) && decide ((((((a + b) / 2) + m) - s : Nat) : Int) < ((b : Nat) : Int))) = c3
 cases c1 <;> cases c2 <;> cases c3 <;> rfl
section
variable {α : Type} [Rw α] [Tid α]
theorem ZwK (R : List α → Int → Int → Int → (α → α → Option Int) → Option (List α)) (pf : α → α → Option Int) (cmp : α → α → Int) (fu : Nat)
  (ih : ∀ (l : List α) (a m b : Nat), l.length ≤ 1048576 → b - a < fu → a < m → m < b → b ≤ l.length → R l (a : Int) (m : Int) (b : Int) pf = some (Zac Rw.z fu l a m b cmp) ∧ (Zac (Rw.z : α) fu l a m b cmp).length = l.length)
  (l : List α) (a m b s : Nat) (hl : l.length ≤ 1048576) (hf : b - a < fu + 1) (h1 : a < m) (h2 : m < b) (h3 : b ≤ l.length) (h4 : 4 ≤ b - a) (h5 : s ≤ (a + b) / 2) (h6 : (a + b) / 2 + m ≤ b + s) :
  (Zff l (a : Int) (m : Int) (b : Int) pf R (s : Int)).m = some (ZdI (Rw.z : α) fu l a m b cmp s) ∧ (ZdI (Rw.z : α) fu l a m b cmp s).length = l.length := by
 have mab := ZvF (x := a) (y := b) (by omega)
 have e3 : (((a + b) / 2 : Nat) : Int) + (m : Int) - (s : Int) = (((a + b) / 2 + m - s : Nat) : Int) := by omega
 have w : -9223372036854775808 ≤ (((a + b) / 2 + m - s : Nat) : Int) ∧ (((a + b) / 2 + m - s : Nat) : Int) < 9223372036854775808 := by omega
 have g1 : a < (a + b) / 2 := by omega
 have g2 : (a + b) / 2 < b := by omega
 unfold ZdI
 dsimp only [Zam, Zfv, Zge, ZhT, ZhD, ZhY, Zfn, Zfw, ZhX, ZhO, Zfd, ZcT, Zgh, Zgm, ZgA, ZgV, Zgg, ZfT, Zhh, ZgK, ZgH, Zf4, ZgC, Zgl, Zgw, ZgS, ZfQ, ZgR, Zgo, Zgs, Zgf, Zhj, ZfZ, Zf9, ZgX, Zgn, Zhf, ZgU, Zf7, ZgJ, Zgx, ZfX, Zgu, ZgD, Zff, ZcA, Zey, ZeG, Zd5, Zd1, Zdi, br, vz, vg, vs, v2, wi, wk, shr, iri, ca, cag, cf, cfg, lc, ln, lf, lxe, fl, st, vwr, lr]
 simp only [mab, e3]
 generalize (a + b) / 2 = h at *
 generalize h + m - s = e at *
 simp only [w, and_self, if_true]
 have g3 : e ≤ b := by omega
 by_cases c1 : s < m ∧ m < e <;> by_cases c2 : a < s ∧ s < h <;> by_cases c3 : h < e ∧ e < b
 ·
   have hr := ZIS l s m e cmp hl c1.1 c1.2 (by omega)
   have lr0 := (ZgQ (z := (Rw.z : α)) l s m e cmp c1.1 c1.2 (by omega)).1
   obtain ⟨i2, j2⟩ := ih (ZaA (Rw.z : α) l s m e cmp) a s h (by omega) (by omega) c2.1 c2.2 (by omega)
   obtain ⟨i3, j3⟩ := ih (Zac (Rw.z : α) fu (ZaA (Rw.z : α) l s m e cmp) a s h cmp) h e b (by omega) (by omega) c3.1 c3.2 (by omega)
   simp only [Zcc c1, Zcc c2, Zcc c3, hr, lr0, i2, j2, i3, j3, if_true, Option.bind_some, cond_true]
   first | exact ⟨trivial, trivial⟩ | exact ⟨trivial, by omega⟩
 ·
   have hr := ZIS l s m e cmp hl c1.1 c1.2 (by omega)
   have lr0 := (ZgQ (z := (Rw.z : α)) l s m e cmp c1.1 c1.2 (by omega)).1
   obtain ⟨i2, j2⟩ := ih (ZaA (Rw.z : α) l s m e cmp) a s h (by omega) (by omega) c2.1 c2.2 (by omega)
   simp only [Zcc c1, Zcc c2, Zbz c3, hr, lr0, i2, j2, Bool.false_eq_true, if_true, if_false, Option.bind_some, cond_true, cond_false]
   first | exact ⟨trivial, trivial⟩ | exact ⟨trivial, by omega⟩
 ·
   have hr := ZIS l s m e cmp hl c1.1 c1.2 (by omega)
   have lr0 := (ZgQ (z := (Rw.z : α)) l s m e cmp c1.1 c1.2 (by omega)).1
   obtain ⟨i3, j3⟩ := ih (ZaA (Rw.z : α) l s m e cmp) h e b (by omega) (by omega) c3.1 c3.2 (by omega)
   simp only [Zcc c1, Zbz c2, Zcc c3, hr, lr0, i3, j3, Bool.false_eq_true, if_true, if_false, Option.bind_some, cond_true, cond_false]
   first | exact ⟨trivial, trivial⟩ | exact ⟨trivial, by omega⟩
 ·
   have hr := ZIS l s m e cmp hl c1.1 c1.2 (by omega)
   have lr0 := (ZgQ (z := (Rw.z : α)) l s m e cmp c1.1 c1.2 (by omega)).1
   simp only [Zcc c1, Zbz c2, Zbz c3, hr, lr0, Bool.false_eq_true, if_true, if_false, Option.bind_some, cond_true, cond_false]
   first | exact ⟨trivial, trivial⟩ | exact ⟨trivial, by omega⟩
 ·
   obtain ⟨i2, j2⟩ := ih l a s h (by omega) (by omega) c2.1 c2.2 (by omega)
   obtain ⟨i3, j3⟩ := ih (Zac (Rw.z : α) fu l a s h cmp) h e b (by omega) (by omega) c3.1 c3.2 (by omega)
   simp only [Zbz c1, Zcc c2, Zcc c3, i2, j2, i3, j3, Bool.false_eq_true, if_true, if_false, Option.bind_some, cond_true, cond_false]
   first | exact ⟨trivial, trivial⟩ | exact ⟨trivial, by omega⟩
 ·
   obtain ⟨i2, j2⟩ := ih l a s h (by omega) (by omega) c2.1 c2.2 (by omega)
   simp only [Zbz c1, Zcc c2, Zbz c3, i2, j2, Bool.false_eq_true, if_true, if_false, Option.bind_some, cond_true, cond_false]
   first | exact ⟨trivial, trivial⟩ | exact ⟨trivial, by omega⟩
 ·
   obtain ⟨i3, j3⟩ := ih l h e b (by omega) (by omega) c3.1 c3.2 (by omega)
   simp only [Zbz c1, Zbz c2, Zcc c3, i3, j3, Bool.false_eq_true, if_true, if_false, Option.bind_some, cond_true, cond_false]
   first | exact ⟨trivial, trivial⟩ | exact ⟨trivial, by omega⟩
 ·
   simp only [Zbz c1, Zbz c2, Zbz c3, Bool.false_eq_true, if_false, cond_false]
   first | exact ⟨trivial, trivial⟩ | exact ⟨trivial, by omega⟩
theorem ZqT {pf : α → α → Option Int} {cmp : α → α → Int} (hp : ∀ x y, pf x y = some (cmp x y)) : ZzE pf cmp := by
 intro fu
 induction fu with
 | zero => intro l a m b _ h; omega
 | succ fu ih =>
  intro l a m b hl hf h1 h2 h3
  rw [Zac]
  show (Zdi l (a : Int) (m : Int) (b : Int) pf (Zaq fu)).m = _ ∧ _
  have wa : -9223372036854775808 ≤ ((m - a : Nat) : Int) ∧ ((m - a : Nat) : Int) < 9223372036854775808 := by omega
  have wb : -9223372036854775808 ≤ ((b - m : Nat) : Int) ∧ ((b - m : Nat) : Int) < 9223372036854775808 := by omega
  have ea : (m : Int) - (a : Int) = ((m - a : Nat) : Int) := by omega
  have eb : (b : Int) - (m : Int) = ((b - m : Nat) : Int) := by omega
  by_cases k1 : m - a = 1
  ·have k1' : ((m - a : Nat) : Int) = 1 := by omega
   obtain ⟨i, j, p1, p2, p3, p4⟩ := Zpj l a pf cmp hp hl (by omega) (b - m) m b big (b - m + 1) (Nat.le_refl _) (ZaP (by omega)) (Nat.lt_succ_self _) (by omega) h3
   obtain ⟨i2, v, q1, q2, q3⟩ := Zv0 l pf (i, j) hl (show 1 ≤ i by omega) (show i ≤ l.length by omega) (i - 1 - a) a l big (i - a + 1) (Nat.le_refl _) (ZaP (by omega)) (by dsimp only; omega) rfl (by omega)
   dsimp only [Zdi, Zam, ZhY, ZhD, ZhT, br, vz, vg, vs, v2, wi, wk, shr, iri, ca, cag, cf, cfg, lc, ln, lf, lxe, fl, st, vwr, lr]
   simp only [ea, k1', decide_true, if_true, cond_true, p1, p2, q1, q2, Option.bind_some, Sum.elim_inl]
   exact ⟨if_pos (by decide), q3⟩
  ·have k1' : ¬ ((m - a : Nat) : Int) = 1 := by omega
   by_cases k2 : b - m = 1
   ·have k2' : ((b - m : Nat) : Int) = 1 := by omega
    obtain ⟨i, j, p1, p2, p3, p4⟩ := ZoG l m pf cmp hp hl (by omega) (m - a) a m big (m - a + 1) (Nat.le_refl _) (ZaP (by omega)) (Nat.lt_succ_self _) (by omega) (by omega)
    obtain ⟨i2, v, q1, q2, q3⟩ := ZGh l pf (i, j) hl m l big (m + 1) (ZaP (by omega)) (Nat.lt_succ_self _) rfl (by omega)
    dsimp only [Zdi, Zam, Zd1, Zd5, Zfd, ZhO, ZhX, br, vz, vg, vs, v2, wi, wk, shr, iri, ca, cag, cf, cfg, lc, ln, lf, lxe, fl, st, vwr, lr]
    simp only [ea, wa, k1', eb, k2', decide_true, decide_false, Bool.false_eq_true, if_true, if_false, and_self, cond_true, cond_false, p1, p2, q1, q2, Option.bind_some, Sum.elim_inl]
    exact ⟨if_pos (by decide), q3⟩
   ·have k2' : ¬ ((b - m : Nat) : Int) = 1 := by omega
    have mab := ZvF (x := a) (y := b) (by omega)
    have w1 : -9223372036854775808 ≤ (a : Int) + (b : Int) ∧ (a : Int) + (b : Int) < 9223372036854775808 := by omega
    have e1 : (((a + b) / 2 : Nat) : Int) + (m : Int) = (((a + b) / 2 + m : Nat) : Int) := by omega
    have w2 : -9223372036854775808 ≤ (((a + b) / 2 + m : Nat) : Int) ∧ (((a + b) / 2 + m : Nat) : Int) < 9223372036854775808 := by omega
    have w3 : -9223372036854775808 ≤ (((a + b) / 2 + m : Nat) : Int) - 1 ∧ (((a + b) / 2 + m : Nat) : Int) - 1 < 9223372036854775808 := by omega
    have hone : (0 : Int) ≤ 1 := by decide
    by_cases k3 : (a + b) / 2 < m
    ·have k3' : (((a + b) / 2 : Nat) : Int) < (m : Int) := by omega
     have e4 : (((a + b) / 2 + m : Nat) : Int) - (b : Int) = (((a + b) / 2 + m - b : Nat) : Int) := by omega
     have w4 : -9223372036854775808 ≤ (((a + b) / 2 + m - b : Nat) : Int) ∧ (((a + b) / 2 + m - b : Nat) : Int) < 9223372036854775808 := by omega
     obtain ⟨i, j, p1, p2, p3, p4⟩ := Zkh l a m b pf cmp hp hl h1 h2 h3 ((a + b) / 2 - ((a + b) / 2 + m - b)) ((a + b) / 2 + m - b) ((a + b) / 2) big ((a + b) / 2 - ((a + b) / 2 + m - b) + 1) (Nat.le_refl _) (ZaP (by omega)) (Nat.lt_succ_self _) (by omega) (by omega) (by omega)
     obtain ⟨t1, t2⟩ := ZwK (Zaq fu) pf cmp fu ih l a m b i hl hf h1 h2 h3 (by omega) (by omega) (by omega)
     have tt := ZDg (Rw.z : α) fu l a m b cmp i
     dsimp only [Zdi, Zam, Zd1, Zd5, ZeG, Zey, ZcA, br, vz, vg, vs, v2, wi, wk, shr, iri, ca, cag, cf, cfg, lc, ln, lf, lxe, fl, st, vwr, lr]
     simp only [ea, wa, k1', eb, wb, k2', mab, w1, hone, e1, w2, w3, k3', e4, w4, decide_true, decide_false, Bool.false_eq_true, if_true, if_false, and_self, cond_true, cond_false, p1, p2, Option.bind_some, Sum.elim_inl, t1, tt]
     exact ⟨trivial, t2⟩
    ·have k3' : ¬ (((a + b) / 2 : Nat) : Int) < (m : Int) := by omega
     obtain ⟨i, j, p1, p2, p3, p4⟩ := Zks l a m b pf cmp hp hl h1 h2 h3 (m - a) a m big (m - a + 1) (Nat.le_refl _) (ZaP (by omega)) (Nat.lt_succ_self _) (by omega) (by omega) (by omega)
     obtain ⟨t1, t2⟩ := ZwK (Zaq fu) pf cmp fu ih l a m b i hl hf h1 h2 h3 (by omega) (by omega) (by omega)
     have tt := ZDg (Rw.z : α) fu l a m b cmp i
     dsimp only [Zdi, Zam, Zd1, Zd5, ZeG, Zey, ZcA, br, vz, vg, vs, v2, wi, wk, shr, iri, ca, cag, cf, cfg, lc, ln, lf, lxe, fl, st, vwr, lr]
     simp only [ea, wa, k1', eb, wb, k2', mab, w1, hone, e1, w2, w3, k3', decide_false, Bool.false_eq_true, if_true, if_false, and_self, cond_false, p1, p2, Option.bind_some, Sum.elim_inl, t1, tt]
     exact ⟨trivial, t2⟩
end
end Go.Proofs.YthagpbkmakocjaaGreat
namespace Go.Proofs.YthagpbkmakocjaaGreat
set_option linter.all false
open Go Go.Eng Go.ChangeShapes Go.WideShapes Go.ChangeAt Go.RowKit
theorem Zt8 {H : Type} (b : List UInt8) : Rows.uptoBulk (DataW.lit (H := H) (.string b)) = b.length + 1 := by simp only [Rows.uptoBulk]
theorem ZnD {H : Type} (a b : List (DataW H)) : Rows.uptoBulk (.slice a b) = Rows.uptoBulkAll a + Rows.uptoBulkAll b + 1 := by simp only [Rows.uptoBulk]
theorem Zs9 {H : Type} (a : List (DataW H)) : Rows.uptoBulk (.agg a) = Rows.uptoBulkAll a + 1 := by simp only [Rows.uptoBulk]
def Zj8 (W : World) (ds : List D) (cs : List Value) (o : Nat) : Prop := ∀ (i : Nat) (d : D), ds[i]? = some d → ∃ c, cs[o + i]? = some c ∧ RepD W (· < W.heap.size) d c
def ZkA (W : World) (ds : List D) (cs : List Value) : Prop := ds.length = cs.length ∧ Zj8 W ds cs 0
theorem Zj8.app {W : World} {ds es : List D} {cs : List Value} {o : Nat} (h : Zj8 W ds cs o) (k : Zj8 W es cs (o + ds.length)) : Zj8 W (ds ++ es) cs o := fun i d hi => by
 rcases Nat.lt_or_ge i ds.length with hl | hl
 ·rw [List.getElem?_append_left hl] at hi; exact h i d hi
 ·rw [List.getElem?_append_right hl] at hi
  obtain ⟨c, h1, h2⟩ := k _ d hi
  exact ⟨c, by rw [← h1]; congr 1; omega, h2⟩
theorem Zj8.nil {W : World} {cs : List Value} {o : Nat} : Zj8 W [] cs o := fun i d h => by simp at h
theorem ZkA.at {W : World} {ds : List D} {cs : List Value} {o k : Nat} (h : ZkA W ds ((cs.drop o).take k)) : Zj8 W ds cs o := fun i d hi => by
 obtain ⟨c, h1, h2⟩ := h.2 i d hi
 rw [Nat.zero_add, List.getElem?_take] at h1
 split at h1
 ·rw [List.getElem?_drop] at h1; exact ⟨c, h1, h2⟩
 ·cases h1
mutual
def bk : D → Nat
 | .int _ _ => 0
 | .bool _ => 0
 | .str s => s.size
 | .list es => Ze3 es
 | .map _ es => Ze3 es
def bkL : List D → Nat
 | [] => 0
 | d :: l => bk d + bkL l
def Ze3 : List (List D) → Nat
 | [] => 0
 | e :: l => bkL e + 1 + Ze3 l
end
theorem ZoO : ∀ a b : List D, bkL (a ++ b) = bkL a + bkL b
 | [], b => by rw [List.nil_append, bkL, Nat.zero_add]
 | d :: a, b => by rw [List.cons_append, bkL, bkL, ZoO a b, Nat.add_assoc]
theorem Zo3 (d : D) : bkL [d] = bk d := by rw [bkL, bkL, Nat.add_zero]
theorem Zbg {α : Type} {e : α → List D} : ∀ l : List α, l.length ≤ Ze3 (l.map e)
 | [] => Nat.zero_le _
 | x :: l => by have := Zbg (e := e) l; rw [List.map_cons, Ze3, List.length_cons]; omega
theorem Ze2 {α : Type} {e : α → List D} {x : α} : ∀ {l : List α}, x ∈ l → bkL (e x) + 1 ≤ Ze3 (l.map e)
 | y :: l, h => by
  rw [List.map_cons, Ze3]
  cases List.mem_cons.1 h with
  | inl h => subst h; omega
  | inr h => have := Ze2 (e := e) h; omega
section
variable {H : Type} (enc : TypeId × Value → H) (P : Program) (W : World)
def RdN {α : Type} (n : Nat) (t : TypeId) (e : α → List D) : Prop :=
 ∀ cs x, DataW.trod enc P W 0 (fun _ => true) true n t cs = some x → ∃ v : α, ZkA W (e v) cs ∧ bkL (e v) + 1 ≤ Rows.uptoBulk x.1
end
section
variable {H : Type} {enc : TypeId × Value → H} {P : Program} {W : World} {n : Nat} {t : TypeId}
theorem Zih (d : DataW H) : 1 ≤ Rows.uptoBulk d := by cases d <;> (try (rename_i l; cases l)) <;> simp [Rows.uptoBulk]
theorem Zd4 {d : D} {c : Value} (h : RepD W (· < W.heap.size) d c) : ZkA W [d] [c] := ⟨rfl, fun i d' hi => by
 cases i with
 | zero => cases hi; exact ⟨c, rfl, h⟩
 | succ i => simp at hi⟩
theorem Zc5 {k : IntKind} (ht : P.underlying t = some (.int k)) : RdN enc P W n t (fun v : Int => [.int k v]) := fun cs x hx => by
 obtain ⟨m, rfl, rfl, _⟩ := DataW.trod_int ht hx
 exact ⟨m, Zd4 (.int _ _), Zih _⟩
theorem ZoB (ht : P.underlying t = some .bool) : RdN enc P W n t (fun v : Bool => [.bool v]) := fun cs x hx => by
 obtain ⟨m, rfl, rfl⟩ := DataW.trod_bool ht hx
 exact ⟨m, Zd4 (.bool _), Zih _⟩
theorem Zc6 (ht : P.underlying t = some .string) : RdN enc P W n t (fun v : ByteArray => [.str v]) := fun cs x hx => by
 obtain ⟨m, rfl, rfl, _⟩ := DataW.trod_string ht hx
 refine ⟨m, Zd4 (.str _), ?_⟩
 rw [Zt8, Zo3]
 exact Nat.le_refl _
theorem ZvR {α : Type} {e : α → List D} : ∀ (l : List α) (xs : List (DataW H × List MemPlace)), l.length = xs.length → (∀ (i : Nat) (v : α), l[i]? = some v → ∃ y : DataW H × List MemPlace, xs[i]? = some y ∧ bkL (e v) + 1 ≤ Rows.uptoBulk y.1) → Ze3 (l.map e) ≤ Rows.uptoBulkAll (xs.map (·.1))
 | [], _, _, _ => Nat.zero_le _
 | x :: l, [], h, _ => by cases h
 | x :: l, y :: xs, h, k => by
  have := ZvR l xs (Nat.succ.inj h) (fun i v hi => k (i + 1) v hi)
  obtain ⟨y', h1, h2⟩ := k 0 x rfl
  cases h1
  rw [List.map_cons, List.map_cons, Ze3]
  simp only [Rows.uptoBulkAll]
  omega
theorem ZoF {α : Type} {Q : Nat → α → Prop} : ∀ (len : Nat), (∀ i, i < len → ∃ v, Q i v) → ∃ l : List α, l.length = len ∧ ∀ i v, l[i]? = some v → Q i v
 | 0, _ => ⟨[], rfl, fun i v h => by simp at h⟩
 | len + 1, h => by
  obtain ⟨l, h1, h2⟩ := ZoF len (fun i hi => h i (by omega))
  obtain ⟨v, hv⟩ := h len (by omega)
  refine ⟨l ++ [v], by simp [h1], fun i w hi => ?_⟩
  rcases Nat.lt_or_ge i l.length with hl | hl
  ·rw [List.getElem?_append_left hl] at hi; exact h2 i w hi
  ·rw [List.getElem?_append_right hl] at hi
   have : i - l.length = 0 := by
    rcases Nat.eq_zero_or_pos (i - l.length) with h0 | h0
    ·exact h0
    ·rw [List.getElem?_eq_none (by simp; omega)] at hi; cases hi
   rw [this] at hi
   cases hi
   have : i = len := by omega
   subst this
   exact hv
theorem Za6 {α : Type} {e : TypeId} {enc' : α → List D} {sz : Nat} (ht : P.underlying t = some (.slice e)) (hsz : P.cellsOf e = sz) (hs0 : sz ≠ 0) (hl : ∀ x, (enc' x).length = sz) (h : ∀ m, m < n → RdN enc P W m e enc') :
  RdN enc P W n t (fun l : List α => [.list (l.map enc')]) := fun cs x hx => by
 rcases DataW.trod_slice ht hx with ⟨rfl, rfl⟩ | ⟨a, len, cap, elems, rest, m, rfl, rfl, rfl, hb, hlc, hcm, hel, hi, _, _⟩
 ·exact ⟨[], Zd4 .nil, Zih _⟩
 ·have each : ∀ i, i < len → ∃ v : α, ∃ y cs', elems[i]? = some y ∧ W.cells? 0 (a.add (i * sz)) sz = some cs' ∧ ZkA W (enc' v) cs' ∧ bkL (enc' v) + 1 ≤ Rows.uptoBulk y.1 := fun i hlt => by
   have h1 := hi i hlt
   rw [List.getElem?_eq_getElem (by omega), hsz] at h1
   obtain ⟨cs', h2, h3⟩ := Option.bind_eq_some_iff.1 h1
   obtain ⟨v, h4, h5⟩ := h m (by omega) cs' _ h3
   exact ⟨v, _, cs', List.getElem?_eq_getElem (by omega), h2, h4, h5⟩
  obtain ⟨l, hll, hlq⟩ := ZoF len each
  have cell : ∀ (i j : Nat) (e' : List D) (x : D), (l.map enc')[i]? = some e' → e'[j]? = some x → ∃ c, W.cell? (a.add (i * sz + j)) = some c ∧ RepD W (· < W.heap.size) x c := fun i j e' x hi' hj => by
   rw [List.getElem?_map] at hi'
   cases hv : l[i]? with
   | none => rw [hv] at hi'; cases hi'
   | some v =>
    rw [hv] at hi'
    cases hi'
    obtain ⟨y, cs', g1, g2, g3, g4⟩ := hlq i v hv
    obtain ⟨c, g5, g6⟩ := g3.2 j x hj
    rw [Nat.zero_add] at g5
    obtain ⟨_, g7, g8⟩ := World.cells?_some g2
    have hjl : j < sz := by
     rw [← hl v]
     rcases Nat.lt_or_ge j (enc' v).length with h | h
     ·exact h
     ·rw [List.getElem?_eq_none h] at hj; cases hj
    refine ⟨c, ?_, g6⟩
    rw [← Go.Eng.add_add, g8 j hjl, g5]
  refine ⟨l, Zd4 ?_, ?_⟩
  ·have hlen : (l.map enc').length = len := by simp [hll]
   have := RepD.list (w := W) (S := (· < W.heap.size)) (l.map enc') a sz cap (fun i j => (W.cell? (a.add (i * sz + j))).getD undef) (fun hne => by
     have h0 : 0 < len := by
      rcases Nat.eq_zero_or_pos len with h | h
      ·exact absurd (List.eq_nil_of_length_eq_zero (hlen.trans h)) hne
      ·exact h
     obtain ⟨v, y, cs', _, g2, _⟩ := each 0 h0
     have := World.cells?_block g2 (by omega)
     rw [Nat.zero_mul] at this
     rw [← Go.Eng.block_add a 0]; exact this)
    (by rw [hlen]; exact hlc) (fun e' he => by obtain ⟨y, _, rfl⟩ := List.mem_map.1 he; exact hl y)
    (fun i j e' x hi' hj => by obtain ⟨c, g1, _⟩ := cell i j e' x hi' hj; rw [g1]; rfl)
    (fun i j e' x hi' hj => by obtain ⟨c, g1, g2⟩ := cell i j e' x hi' hj; rw [g1]; exact g2)
   rw [hlen] at this
   exact this
  ·rw [ZnD, Zo3, bk]
   have := ZvR (e := enc') l elems (by omega) (fun i v hv => by
    obtain ⟨y, cs', g1, g2, g3, g4⟩ := hlq i v hv
    exact ⟨y, g1, g4⟩)
   omega
def FB (xs : List (DataW H × List MemPlace)) (i : Nat) : Nat := Rows.uptoBulkAll ((xs.drop i).map (·.1))
theorem ZaM {xs : List (DataW H × List MemPlace)} {i : Nat} {a b : List D} (h : bkL a + 1 + FB xs (i + 1) ≤ FB xs i) (k : bkL b ≤ FB xs (i + 1)) : bkL (a ++ b) ≤ FB xs i := by
 rw [ZoO]; omega
theorem Zdc {xs : List (DataW H × List MemPlace)} {i : Nat} {a : List D} (h : bkL a + 1 + FB xs (i + 1) ≤ FB xs i) : bkL a ≤ FB xs i := by omega
theorem Zc3 {xs : List (DataW H × List MemPlace)} {a : List D} (h : bkL a ≤ FB xs 0) : bkL a + 1 ≤ Rows.uptoBulk (.agg (xs.map (·.1))) := by
 rw [Zs9]; exact Nat.succ_le_succ h
theorem ZrD {α : Type} {e : α → List D} {m i : Nat} {t' : TypeId} {piece : List Value} {xs : List (DataW H × List MemPlace)} (h : RdN enc P W m t' e) (hf : DataW.trod enc P W 0 (fun _ => true) true m t' piece = xs[i]?) (hi : i < xs.length) :
  ∃ v, ZkA W (e v) piece ∧ bkL (e v) + 1 + FB xs (i + 1) ≤ FB xs i := by
 rw [List.getElem?_eq_getElem hi] at hf
 obtain ⟨v, h1, h2⟩ := h _ _ hf
 refine ⟨v, h1, ?_⟩
 unfold FB
 rw [List.drop_eq_getElem_cons hi, List.map_cons]
 simp only [Rows.uptoBulkAll]
 omega
theorem rf {α : Type} {e : α → List D} {m i k : Nat} {t' : TypeId} {piece : List Value} {xs : List (DataW H × List MemPlace)} (h : RdN enc P W m t' e) (hf : DataW.trod enc P W 0 (fun _ => true) true m t' piece = xs[i]?) (hx : xs.length = k) (hi : Nat.blt i k = true := by kernel_rfl) :
  ∃ v, ZkA W (e v) piece ∧ bkL (e v) + 1 + FB xs (i + 1) ≤ FB xs i := ZrD h hf (by rw [hx]; exact Nat.le_of_ble_eq_true hi)
theorem ZoM {α : Type} {e e' : α → List D} (he : ∀ x, e x = e' x) (h : RdN enc P W n t e') : RdN enc P W n t e := fun cs x hx => by
 obtain ⟨v, h1, h2⟩ := h cs x hx
 exact ⟨v, by rw [he]; exact h1, by rw [he]; exact h2⟩
theorem Zpt {α : Type} {e : α → List D} {fs : Array Field} {r : Reach} {base : Nat} {v : Value} {d : DataW H} {p : List MemPlace} (rd : ∀ n, RdN enc P W n t e) (ht : P.underlying t = some (.struct fs)) (hv : Value.okWide P W r base t v)
  (h : DataW.Trod enc P W 0 (fun _ => true) true t v d p) : ∃ x : α, (∀ m l, RepA W (· < W.heap.size) (fun _ => ⟨0, false, 0, 0, []⟩) m l (.agg ((e x).map .d)) v) ∧ bkL (e x) + 1 ≤ Rows.uptoBulk d := by
 obtain ⟨cs, rfl, _⟩ := okWide_struct ht hv
 obtain ⟨n, hn⟩ := h
 obtain ⟨x, h1, h2⟩ := rd n _ _ hn
 have hl : (e x).length = cs.size := by rw [h1.1]; simp [Value.cells]
 have key : ∀ (i : Nat) (c : Value) , cs[i]? = some c → ∃ d, (e x)[i]? = some d ∧ RepD W (· < W.heap.size) d c := fun i c hc => by
  have hlt : i < (e x).length := by
   rw [hl]
   rcases Nat.lt_or_ge i cs.size with h | h
   ·exact h
   ·rw [Array.getElem?_eq_none h] at hc; cases hc
  obtain ⟨c', h3, h4⟩ := h1.2 i _ (List.getElem?_eq_getElem hlt)
  have : c' = c := by
   rw [Nat.zero_add] at h3
   have : cs.toList[i]? = some c' := h3
   rw [Array.getElem?_toList, hc] at this
   exact (Option.some.inj this).symm
  subst this
  exact ⟨_, List.getElem?_eq_getElem hlt, h4⟩
 refine ⟨x, fun m l => .agg _ _ (by rw [List.length_map, hl]) (fun i c hc => ?_) (fun i y c hy hc => ?_), h2⟩
 ·obtain ⟨d, _, h3⟩ := key i c hc; exact h3.one
 ·obtain ⟨d, h3, h4⟩ := key i c hc
  rw [List.getElem?_map, h3] at hy
  cases hy
  exact .d _ _ h4
def Hp0 : Hp := fun _ => ⟨0, false, 0, 0, []⟩
theorem ok0 (m : Mu) : Ok 0 Hp0 m (· < W.heap.size) W := ⟨fun _ h => h, fun _ _ h => (by cases h), fun _ _ h => (by cases h), fun _ _ _ _ h => (by cases h), fun _ _ h => (by cases h), ⟨fun _ _ h => (by cases h), fun _ _ h => (by cases h), fun _ _ _ _ h => (by cases h)⟩⟩
def ZLU (w : World) (S : Nat → Prop) (Hp : Hp) (m : Mu) (l : Nat) : List AV → List Value → Prop
 | [], [] => True
 | x :: xs, v :: vs => RepA w S Hp m l x v ∧ ZLU w S Hp m l xs vs
 | _, _ => False
theorem ZBk {w : World} {S : Nat → Prop} {Hp : Hp} {m : Mu} {l : Nat} {xs : List AV} {vs : List Value} (h : ZLU w S Hp m l xs vs) : ZeD w S Hp m l xs vs.toArray := by
 suffices hh : xs.length = vs.length ∧ ∀ (i : Nat) (x : AV) (v : Value), xs[i]? = some x → vs[i]? = some v → RepA w S Hp m l x v by
  exact ⟨by simpa using hh.1, fun i x v hx hv => hh.2 i x v hx (by simpa using hv)⟩
 induction xs generalizing vs with
 | nil => cases vs with
  | nil => exact ⟨rfl, fun i x v h => by simp at h⟩
  | cons _ _ => exact h.elim
 | cons x xs ih => cases vs with
  | nil => exact h.elim
  | cons v vs =>
   obtain ⟨h1, h2⟩ := ih h.2
   refine ⟨by simp [h1], fun i y u hy hu => ?_⟩
   cases i with
   | zero => simp at hy hu; subst hy; subst hu; exact h.1
   | succ i => exact h2 i y u (by simpa using hy) (by simpa using hu)
theorem Zp2 {f : Func} {s : ChangeSpec} {W' : World} {args : Array Value} {ds gs : List (DataW H)} {before : List MemPlace} {u : TypeId} (hW : DataW.Whole enc P f.params.toList s.vars false W args.toList ds gs before) (hvars : s.vars = [])
  (hlaid : laidOutB P = true) (hrd : ∀ t ∈ f.params.toList, P.readableRec t = true ∧ t < P.types.size) (hres : f.resultTypes.toList = [u]) (hu : P.underlying u = some .bool)
  (hfn : s.fn H (ds ++ gs) = { results := [.lit (.bool true)], args := ds }) (hb : Below W.heap.size W W') : s.post enc P f false true false false W args (.bool true) W' := by
 obtain ⟨p, q, hA, hV, rfl, hfz, hnd⟩ := id hW
 rw [hvars] at hV
 obtain ⟨rfl, rfl⟩ := trodVars_none hV
 refine ⟨ds, [], p ++ [], [], p, [], hW, ?_, ?_, ?_, ?_, fun h => by cases h⟩
 ·rw [hfn, hres]
  have : (Value.bool true).resultList f.resultTypes.size = [.bool true] := by
   have : f.resultTypes.size = 1 := by rw [← Array.length_toList, hres]; rfl
   rw [this]; rfl
  rw [this]
  exact trodAll_cons_mk (shut_bool hu _) trodAll_mk0
 ·rw [hfn]
  have key : ∀ (ts : List TypeId) (vs : List Value) (es : List (DataW H)) (ps : List MemPlace), (∀ t ∈ ts, P.readableRec t = true ∧ t < P.types.size) → DataW.TrodAll enc P W 0 (fun _ => true) true ts vs es ps →
    DataW.TrodAll enc P W' 0 (fun b => decide (b < W.heap.size)) true ts vs es ps := by
   intro ts
   induction ts with
   | nil => intro vs es ps _ h; obtain ⟨rfl, rfl, rfl⟩ := trodAll_nil h; exact trodAll_mk0
   | cons t ts ih =>
    intro vs es ps hr h
    have hlt := DataW.TrodAll.lt h
    obtain ⟨v, vs1, d, ds1, a, b, rfl, rfl, rfl, h1, h2⟩ := trodAll_cons h
    exact trodAll_cons_mk (Below.trod hlaid (hr t (by simp)).1 (hr t (by simp)).2 h1 hb (fun x hx => hlt x (List.mem_append_left _ hx))) (ih _ _ _ (fun t ht => hr t (by simp [ht])) h2)
  exact key _ _ _ _ hrd hA
 ·rw [hvars, hfn]; exact rfl
 ·refine ⟨hb.os, hb.output, fun i hi => ?_⟩
  rw [hb.block i hi]
  cases W.heap[i]? with
  | none => rfl
  | some o => cases o <;> simp
end
end Go.Proofs.YthagpbkmakocjaaGreat
namespace Go.Proofs.YthagpbkmakocjaaGreat
set_option linter.all false
open Go Go.Eng
section
variable {H : Type} {enc : TypeId × Value → H} {W : World}
set_option maxRecDepth 100000
theorem ZID (n : Nat) : RdN enc Tryz.prog W n 230 Zvn := fun cs x hx => by
 obtain ⟨xs, m, rfl, rfl, hcl, hxl, hf⟩ := DataW.trod_struct Tryz.underlying230 hx
 obtain ⟨v0, r0, b0⟩ := rf (Zc5 Tryz.underlying3) (hf 0 _ rfl) hxl
 obtain ⟨v1, r1, b1⟩ := rf (Zc5 Tryz.underlying3) (hf 1 _ rfl) hxl
 obtain ⟨v2, r2, b2⟩ := rf (Zc5 Tryz.underlying76) (hf 2 _ rfl) hxl
 obtain ⟨v3, r3, b3⟩ := rf (Zc6 Tryz.underlying9) (hf 3 _ rfl) hxl
 have q := Zc3 (ZaM b0 (ZaM b1 (ZaM b2 (Zdc b3))))
 exact ⟨.mk v0 v1 v2 v3, ⟨by rw [hcl]; kernel_rfl, (r0.at.app (r1.at.app (r2.at.app r3.at)))⟩, q⟩
theorem ZtY (n : Nat) (h : ∀ k, k < n → RdN enc Tryz.prog W k 82 Zsv) : RdN enc Tryz.prog W n 226 ePr := fun cs x hx => by
 obtain ⟨xs, m, rfl, rfl, hcl, hxl, hf⟩ := DataW.trod_struct Tryz.underlying226 hx
 obtain ⟨v0, r0, b0⟩ := rf (h m (by omega)) (hf 0 _ rfl) hxl
 obtain ⟨v1, r1, b1⟩ := rf (h m (by omega)) (hf 1 _ rfl) hxl
 have q := Zc3 (ZaM b0 (Zdc b1))
 exact ⟨.mk v0 v1, ⟨by rw [hcl]; kernel_rfl, (r0.at.app r1.at)⟩, q⟩
theorem ZpI (n : Nat) (h : ∀ k, k < n → RdN enc Tryz.prog W k 82 Zsv) : RdN enc Tryz.prog W n 228 ZKm := fun cs x hx => by
 obtain ⟨xs, m, rfl, rfl, hcl, hxl, hf⟩ := DataW.trod_struct Tryz.underlying228 hx
 obtain ⟨v0, r0, b0⟩ := rf (Zc5 Tryz.underlying3) (hf 0 _ rfl) hxl
 obtain ⟨v1, r1, b1⟩ := rf (h m (by omega)) (hf 1 _ rfl) hxl
 have q := Zc3 (ZaM b0 (Zdc b1))
 exact ⟨.mk v0 v1, ⟨by rw [hcl]; kernel_rfl, (r0.at.app r1.at)⟩, q⟩
theorem ZvU (n : Nat) : RdN enc Tryz.prog W n 82 Zsv := by
 induction n using Nat.strongRecOn with
 | ind n ih =>
 intro cs x hx
 obtain ⟨xs, m, rfl, rfl, hcl, hxl, hf⟩ := DataW.trod_struct Tryz.underlying82 hx
 obtain ⟨v0, r0, b0⟩ := rf (Zc5 Tryz.underlying3) (hf 0 _ rfl) hxl
 obtain ⟨v1, r1, b1⟩ := rf (Zc5 Tryz.underlying76) (hf 1 _ rfl) hxl
 obtain ⟨v2, r2, b2⟩ := rf (Zc6 Tryz.underlying9) (hf 2 _ rfl) hxl
 obtain ⟨v3, r3, b3⟩ := rf (Za6 Tryz.underlying77 (by kernel_rfl : Tryz.prog.cellsOf 82 = 7) (by decide) (fun x => by rw [Zh4]; rfl) (fun k hk => (ZoM Zh4 (ih k (by omega))))) (hf 3 _ rfl) hxl
 obtain ⟨v4, r4, b4⟩ := rf (Za6 Tryz.underlying78 (by kernel_rfl : Tryz.prog.cellsOf 226 = 14) (by decide) (fun x => by rw [ZwQ]; rfl) (fun k hk => (ZoM ZwQ (ZtY k (fun j hj => ih j (by omega)))))) (hf 4 _ rfl) hxl
 obtain ⟨v5, r5, b5⟩ := rf (Za6 Tryz.underlying79 (by kernel_rfl : Tryz.prog.cellsOf 228 = 8) (by decide) (fun x => by rw [ZpY]; rfl) (fun k hk => (ZoM ZpY (ZpI k (fun j hj => ih j (by omega)))))) (hf 5 _ rfl) hxl
 obtain ⟨v6, r6, b6⟩ := rf (Za6 Tryz.underlying80 (by kernel_rfl : Tryz.prog.cellsOf 230 = 4) (by decide) (fun _ => rfl) (fun k hk => (ZID k))) (hf 6 _ rfl) hxl
 have q := Zc3 (ZaM b0 (ZaM b1 (ZaM b2 (ZaM b3 (ZaM b4 (ZaM b5 (Zdc b6)))))))
 exact ⟨.mk v0 v1 v2 v3 v4 v5 v6, ⟨by rw [hcl]; kernel_rfl, (r0.at.app (r1.at.app (r2.at.app (r3.at.app (r4.at.app (r5.at.app r6.at))))))⟩, q⟩
theorem ZFC (n : Nat) : RdN enc Tryz.prog W n 75 ZNL := fun cs x hx => by
 obtain ⟨xs, m, rfl, rfl, hcl, hxl, hf⟩ := DataW.trod_struct Tryz.underlying75 hx
 obtain ⟨v0, r0, b0⟩ := rf (Zc5 Tryz.underlying3) (hf 0 _ rfl) hxl
 obtain ⟨v1, r1, b1⟩ := rf (Zc6 Tryz.underlying9) (hf 1 _ rfl) hxl
 have q := Zc3 (ZaM b0 (Zdc b1))
 exact ⟨.mk v0 v1, ⟨by rw [hcl]; kernel_rfl, (r0.at.app r1.at)⟩, q⟩
theorem Znu (n : Nat) : RdN enc Tryz.prog W n 159 eNt := fun cs x hx => by
 obtain ⟨xs, m, rfl, rfl, hcl, hxl, hf⟩ := DataW.trod_struct Tryz.underlying159 hx
 obtain ⟨v0, r0, b0⟩ := rf (Zc6 Tryz.underlying9) (hf 0 _ rfl) hxl
 obtain ⟨v1, r1, b1⟩ := rf (ZvU m) (hf 1 _ rfl) hxl
 have q := Zc3 (ZaM b0 (Zdc b1))
 exact ⟨.mk v0 v1, ⟨by rw [hcl]; kernel_rfl, (r0.at.app r1.at)⟩, q⟩
theorem ZHo (n : Nat) : RdN enc Tryz.prog W n 84 ZcG := fun cs x hx => by
 obtain ⟨xs, m, rfl, rfl, hcl, hxl, hf⟩ := DataW.trod_struct Tryz.underlying84 hx
 obtain ⟨v0, r0, b0⟩ := rf (Zc5 Tryz.underlying3) (hf 0 _ rfl) hxl
 obtain ⟨v1, r1, b1⟩ := rf (Zc6 Tryz.underlying9) (hf 1 _ rfl) hxl
 obtain ⟨v2, r2, b2⟩ := rf (Zc5 Tryz.underlying3) (hf 2 _ rfl) hxl
 obtain ⟨v3, r3, b3⟩ := rf (Zc5 Tryz.underlying3) (hf 3 _ rfl) hxl
 obtain ⟨v4, r4, b4⟩ := rf (ZFC m) (hf 4 _ rfl) hxl
 obtain ⟨v5, r5, b5⟩ := rf (Zc6 Tryz.underlying9) (hf 5 _ rfl) hxl
 obtain ⟨v6, r6, b6⟩ := rf (ZoB Tryz.underlying4) (hf 6 _ rfl) hxl
 obtain ⟨v7, r7, b7⟩ := rf (ZvU m) (hf 7 _ rfl) hxl
 obtain ⟨v8, r8, b8⟩ := rf (Za6 Tryz.underlying46 (by kernel_rfl : Tryz.prog.cellsOf 159 = 8) (by decide) (fun _ => rfl) (fun k hk => (Znu k))) (hf 8 _ rfl) hxl
 have q := Zc3 (ZaM b0 (ZaM b1 (ZaM b2 (ZaM b3 (ZaM b4 (ZaM b5 (ZaM b6 (ZaM b7 (Zdc b8)))))))))
 exact ⟨.mk v0 v1 v2 v3 v4 v5 v6 v7 v8, ⟨by rw [hcl]; kernel_rfl, (r0.at.app (r1.at.app (r2.at.app (r3.at.app (r4.at.app (r5.at.app (r6.at.app (r7.at.app r8.at))))))))⟩, q⟩
theorem Zv9 (n : Nat) : RdN enc Tryz.prog W n 116 Zdh := fun cs x hx => by
 obtain ⟨xs, m, rfl, rfl, hcl, hxl, hf⟩ := DataW.trod_struct Tryz.underlying116 hx
 obtain ⟨v0, r0, b0⟩ := rf (Zc5 Tryz.underlying3) (hf 0 _ rfl) hxl
 obtain ⟨v1, r1, b1⟩ := rf (Zc5 Tryz.underlying3) (hf 1 _ rfl) hxl
 have q := Zc3 (ZaM b0 (Zdc b1))
 exact ⟨.mk v0 v1, ⟨by rw [hcl]; kernel_rfl, (r0.at.app r1.at)⟩, q⟩
theorem ZH2 (n : Nat) : RdN enc Tryz.prog W n 48 Zaj := fun cs x hx => by
 obtain ⟨xs, m, rfl, rfl, hcl, hxl, hf⟩ := DataW.trod_struct Tryz.underlying48 hx
 obtain ⟨v0, r0, b0⟩ := rf (Zc6 Tryz.underlying9) (hf 0 _ rfl) hxl
 obtain ⟨v1, r1, b1⟩ := rf (Za6 Tryz.underlying44 (by kernel_rfl : Tryz.prog.cellsOf 84 = 16) (by decide) (fun _ => rfl) (fun k hk => (ZHo k))) (hf 1 _ rfl) hxl
 obtain ⟨v2, r2, b2⟩ := rf (Za6 Tryz.underlying45 (by kernel_rfl : Tryz.prog.cellsOf 116 = 2) (by decide) (fun _ => rfl) (fun k hk => (Zv9 k))) (hf 2 _ rfl) hxl
 obtain ⟨v3, r3, b3⟩ := rf (Za6 Tryz.underlying36 (by kernel_rfl : Tryz.prog.cellsOf 9 = 1) (by decide) (fun _ => rfl) (fun k hk => (Zc6 Tryz.underlying9))) (hf 3 _ rfl) hxl
 obtain ⟨v4, r4, b4⟩ := rf (Za6 Tryz.underlying46 (by kernel_rfl : Tryz.prog.cellsOf 159 = 8) (by decide) (fun _ => rfl) (fun k hk => (Znu k))) (hf 4 _ rfl) hxl
 have q := Zc3 (ZaM b0 (ZaM b1 (ZaM b2 (ZaM b3 (Zdc b4)))))
 exact ⟨.mk v0 v1 v2 v3 v4, ⟨by rw [hcl]; kernel_rfl, (r0.at.app (r1.at.app (r2.at.app (r3.at.app r4.at))))⟩, q⟩
theorem ZC0 (n : Nat) : RdN enc Tryz.prog W n 123 Zec := fun cs x hx => by
 obtain ⟨xs, m, rfl, rfl, hcl, hxl, hf⟩ := DataW.trod_struct Tryz.underlying123 hx
 obtain ⟨v0, r0, b0⟩ := rf (Zc6 Tryz.underlying9) (hf 0 _ rfl) hxl
 obtain ⟨v1, r1, b1⟩ := rf (Zc5 Tryz.underlying3) (hf 1 _ rfl) hxl
 obtain ⟨v2, r2, b2⟩ := rf (Za6 Tryz.underlying46 (by kernel_rfl : Tryz.prog.cellsOf 159 = 8) (by decide) (fun _ => rfl) (fun k hk => (Znu k))) (hf 2 _ rfl) hxl
 have q := Zc3 (ZaM b0 (ZaM b1 (Zdc b2)))
 exact ⟨.mk v0 v1 v2, ⟨by rw [hcl]; kernel_rfl, (r0.at.app (r1.at.app r2.at))⟩, q⟩
theorem ZEb (n : Nat) : RdN enc Tryz.prog W n 55 Zag := fun cs x hx => by
 obtain ⟨xs, m, rfl, rfl, hcl, hxl, hf⟩ := DataW.trod_struct Tryz.underlying55 hx
 obtain ⟨v0, r0, b0⟩ := rf (Zc6 Tryz.underlying9) (hf 0 _ rfl) hxl
 obtain ⟨v1, r1, b1⟩ := rf (ZoB Tryz.underlying4) (hf 1 _ rfl) hxl
 obtain ⟨v2, r2, b2⟩ := rf (Za6 Tryz.underlying53 (by kernel_rfl : Tryz.prog.cellsOf 123 = 3) (by decide) (fun _ => rfl) (fun k hk => (ZC0 k))) (hf 2 _ rfl) hxl
 obtain ⟨v3, r3, b3⟩ := rf (Za6 Tryz.underlying45 (by kernel_rfl : Tryz.prog.cellsOf 116 = 2) (by decide) (fun _ => rfl) (fun k hk => (Zv9 k))) (hf 3 _ rfl) hxl
 obtain ⟨v4, r4, b4⟩ := rf (Za6 Tryz.underlying46 (by kernel_rfl : Tryz.prog.cellsOf 159 = 8) (by decide) (fun _ => rfl) (fun k hk => (Znu k))) (hf 4 _ rfl) hxl
 have q := Zc3 (ZaM b0 (ZaM b1 (ZaM b2 (ZaM b3 (Zdc b4)))))
 exact ⟨.mk v0 v1 v2 v3 v4, ⟨by rw [hcl]; kernel_rfl, (r0.at.app (r1.at.app (r2.at.app (r3.at.app r4.at))))⟩, q⟩
theorem ZDu (n : Nat) : RdN enc Tryz.prog W n 130 Zc1 := fun cs x hx => by
 obtain ⟨xs, m, rfl, rfl, hcl, hxl, hf⟩ := DataW.trod_struct Tryz.underlying130 hx
 obtain ⟨v0, r0, b0⟩ := rf (Zc6 Tryz.underlying9) (hf 0 _ rfl) hxl
 obtain ⟨v1, r1, b1⟩ := rf (Zc6 Tryz.underlying9) (hf 1 _ rfl) hxl
 obtain ⟨v2, r2, b2⟩ := rf (Zc6 Tryz.underlying9) (hf 2 _ rfl) hxl
 obtain ⟨v3, r3, b3⟩ := rf (Zc5 Tryz.underlying3) (hf 3 _ rfl) hxl
 obtain ⟨v4, r4, b4⟩ := rf (Za6 Tryz.underlying46 (by kernel_rfl : Tryz.prog.cellsOf 159 = 8) (by decide) (fun _ => rfl) (fun k hk => (Znu k))) (hf 4 _ rfl) hxl
 have q := Zc3 (ZaM b0 (ZaM b1 (ZaM b2 (ZaM b3 (Zdc b4)))))
 exact ⟨.mk v0 v1 v2 v3 v4, ⟨by rw [hcl]; kernel_rfl, (r0.at.app (r1.at.app (r2.at.app (r3.at.app r4.at))))⟩, q⟩
theorem ZGE (n : Nat) : RdN enc Tryz.prog W n 62 Zal := fun cs x hx => by
 obtain ⟨xs, m, rfl, rfl, hcl, hxl, hf⟩ := DataW.trod_struct Tryz.underlying62 hx
 obtain ⟨v0, r0, b0⟩ := rf (Zc6 Tryz.underlying9) (hf 0 _ rfl) hxl
 obtain ⟨v1, r1, b1⟩ := rf (Za6 Tryz.underlying60 (by kernel_rfl : Tryz.prog.cellsOf 130 = 5) (by decide) (fun _ => rfl) (fun k hk => (ZDu k))) (hf 1 _ rfl) hxl
 obtain ⟨v2, r2, b2⟩ := rf (Za6 Tryz.underlying46 (by kernel_rfl : Tryz.prog.cellsOf 159 = 8) (by decide) (fun _ => rfl) (fun k hk => (Znu k))) (hf 2 _ rfl) hxl
 have q := Zc3 (ZaM b0 (ZaM b1 (Zdc b2)))
 exact ⟨.mk v0 v1 v2, ⟨by rw [hcl]; kernel_rfl, (r0.at.app (r1.at.app r2.at))⟩, q⟩
theorem ZwC (n : Nat) : RdN enc Tryz.prog W n 26 Zeb := fun cs x hx => by
 obtain ⟨xs, m, rfl, rfl, hcl, hxl, hf⟩ := DataW.trod_struct Tryz.underlying26 hx
 obtain ⟨v0, r0, b0⟩ := rf (Za6 Tryz.underlying22 (by kernel_rfl : Tryz.prog.cellsOf 48 = 5) (by decide) (fun _ => rfl) (fun k hk => (ZH2 k))) (hf 0 _ rfl) hxl
 obtain ⟨v1, r1, b1⟩ := rf (Za6 Tryz.underlying23 (by kernel_rfl : Tryz.prog.cellsOf 55 = 5) (by decide) (fun _ => rfl) (fun k hk => (ZEb k))) (hf 1 _ rfl) hxl
 obtain ⟨v2, r2, b2⟩ := rf (Za6 Tryz.underlying24 (by kernel_rfl : Tryz.prog.cellsOf 62 = 3) (by decide) (fun _ => rfl) (fun k hk => (ZGE k))) (hf 2 _ rfl) hxl
 have q := Zc3 (ZaM b0 (ZaM b1 (Zdc b2)))
 exact ⟨.mk v0 v1 v2, ⟨by rw [hcl]; kernel_rfl, (r0.at.app (r1.at.app r2.at))⟩, q⟩
end
end Go.Proofs.YthagpbkmakocjaaGreat
namespace Go.Proofs.YthagpbkmakocjaaGreat
set_option linter.all false
open Go Go.Eng
def ZdQ {α : Type} (p : α → α → Bool) (l k : List α) : Bool := (l.zip k).all fun w => p w.1 w.2
def eqZ {α : Type} (p : α → α → Bool) (l k : List α) : Bool := decide (l.length = k.length) && ZdQ p l k
theorem ZbA {α ρ ξ : Type} {B : Nat → Option (Lv Nat ξ ρ)} (l k : List α) (p : α → α → Bool) (e : ξ) (z : ρ) (hl : l.length = k.length)
  (hs : ∀ i x y, l[i]? = some x → k[i]? = some y → B i = some (if p x y = true then .nx (i + 1) else .rt z)) (he : B l.length = some (.ex e)) (hN : l.length < 4611686018427387904) :
  Zad B big 0 = some (if ZdQ p l k = true then .inl e else .inr z) := by
 have hz : (l.zip k).length = l.length := by rw [List.length_zip]; omega
 rw [ZcE (l.zip k) (fun w => !p w.1 w.2) (fun _ => z) e (hN := ZaP (by omega)) (he := by rw [hz]; exact he) (hs := by
  intro i w hw
  rw [List.getElem?_zip_eq_some] at hw
  rw [hs i w.1 w.2 hw.1 hw.2]
  cases p w.1 w.2 <;> rfl)]
 unfold ZdQ
 cases hf : (l.zip k).findIdx? fun w => !p w.1 w.2 with
 | none =>
  have := List.findIdx?_eq_none_iff.1 hf
  rw [if_pos (List.all_eq_true.2 fun w hw => by simpa using this w hw)]
 | some i =>
  obtain ⟨h1, h2, _⟩ := List.findIdx?_eq_some_iff_getElem.1 hf
  rw [if_neg fun h => by rw [List.all_eq_true.1 h _ (List.getElem_mem h1)] at h2; cases h2]
def vP (a b : Val) : Bool := (decide (a.kind = b.kind) && decide (a.bits = b.bits)) && decide (a.text = b.text)
def nP (a b : Nt) : Bool := decide (a.name = b.name) && vP a.val b.val
def spP (a b : Spn) : Bool := decide (a.lo = b.lo) && (decide (a.hi = b.hi) && true)
def btP (a b : ByteArray) : Bool := decide (a = b)
def fP (p0 p1 : Fld) : Bool := ((((((((decide (p0.num = p1.num) && decide (p0.name = p1.name)) && decide (p0.card = p1.card)) && decide (p0.key = p1.key)) && (decide (p0.type.kind = p1.type.kind) && (decide (p0.type.name = p1.type.name) && true))) && decide (p0.union = p1.union)) && (p0.hasDefault == p1.hasDefault)) && vP p0.dflt p1.dflt) && eqZ nP p0.notes p1.notes)
def mP (p0 p1 : Msg) : Bool := ((((decide (p0.name = p1.name) && eqZ fP p0.fields p1.fields) && eqZ spP p0.reserved p1.reserved) && eqZ btP p0.gone p1.gone) && eqZ nP p0.notes p1.notes)
def itP (p0 p1 : Itm) : Bool := (decide (p0.name = p1.name) && decide (p0.num = p1.num)) && eqZ nP p0.notes p1.notes
def eP (p0 p1 : Enm) : Bool := ((((decide (p0.name = p1.name) && (p0.opn == p1.opn)) && eqZ itP p0.items p1.items) && eqZ spP p0.reserved p1.reserved) && eqZ nP p0.notes p1.notes)
def mtP (p0 p1 : Mth) : Bool := ((((decide (p0.name = p1.name) && decide (p0.inn = p1.inn)) && decide (p0.out = p1.out)) && decide (p0.shape = p1.shape)) && eqZ nP p0.notes p1.notes)
def svP (p0 p1 : Svc) : Bool := ((decide (p0.name = p1.name) && eqZ mtP p0.methods p1.methods) && eqZ nP p0.notes p1.notes)
theorem j49 (l k : List Fld) (f : Fld → Fld → Option Bool) (p : Fld → Fld → Bool) (hf : ∀ x ∈ l, ∀ y, f x y = some (p x y)) (h : l.length < 4611686018427387904) : Zb0 l k f = some (eqZ p l k) := by
 unfold Zb0 eqZ
 dsimp only [Zx5, ZwZ, ZzQ, al, frt, stp, br, ix, ixi, vz, vy, vw, vs, vg, v2, lr, lrt, ln, lxe, lc, lf, lfe, ap, aq, a0, a1, ad, cl, cs, cf, wa, wi, ir, ca, cp, dd, mv, st, ss, sL, Bd.c, Bd.vl, clg, csg, cfg, sL, Bd.c, Bd.vl]
 by_cases hl : l.length = k.length
 ·have hi : ((l.length : Int) = (k.length : Int)) = True := eq_true (by omega)
  rw [ZbA l k p () false hl (hN := h) (he := by simp [ZtZ, ZuQ, br]) (hs := by
   intro i x y hx hy
   have g1 := Zcu hx
   have g0 := (List.getElem?_eq_some_iff.1 hx).1
   have g2 : i + 1 < 9223372036854775808 := by omega
   have g3 := hf x (List.mem_of_getElem? hx) y
   dsimp only [ZtZ, ZuQ, al, frt, stp, br, ix, ixi, vz, vy, vw, vs, vg, v2, lr, lrt, ln, lxe, lc, lf, lfe, ap, aq, a0, a1, ad, cl, cs, cf, wa, wi, ir, ca, cp, dd, mv, st, ss, sL, Bd.c, Bd.vl, clg, csg, cfg, sL, Bd.c, Bd.vl]
   simp only [g1, g2, g3, hx, hy, decide_true, if_true, Option.bind_some]
   cases p x y <;> simp)]
  simp only [hl, decide_true, Bool.not_true, Bool.false_eq_true, if_false, Option.bind_some, Bool.true_and]
  cases ZdQ p l k <;> rfl
 ·have hi : ((l.length : Int) = (k.length : Int)) = False := eq_false (by omega)
  simp only [hi, hl, decide_false, Bool.not_false, if_true, Bool.false_and]
theorem j56 (l k : List Itm) (f : Itm → Itm → Option Bool) (p : Itm → Itm → Bool) (hf : ∀ x ∈ l, ∀ y, f x y = some (p x y)) (h : l.length < 4611686018427387904) : Zb4 l k f = some (eqZ p l k) := by
 unfold Zb4 eqZ
 dsimp only [Zw0, Zyq, ZwW, al, frt, stp, br, ix, ixi, vz, vy, vw, vs, vg, v2, lr, lrt, ln, lxe, lc, lf, lfe, ap, aq, a0, a1, ad, cl, cs, cf, wa, wi, ir, ca, cp, dd, mv, st, ss, sL, Bd.c, Bd.vl, clg, csg, cfg, sL, Bd.c, Bd.vl]
 by_cases hl : l.length = k.length
 ·have hi : ((l.length : Int) = (k.length : Int)) = True := eq_true (by omega)
  rw [ZbA l k p () false hl (hN := h) (he := by simp [ZuB, ZrJ, br]) (hs := by
   intro i x y hx hy
   have g1 := Zcu hx
   have g0 := (List.getElem?_eq_some_iff.1 hx).1
   have g2 : i + 1 < 9223372036854775808 := by omega
   have g3 := hf x (List.mem_of_getElem? hx) y
   dsimp only [ZuB, ZrJ, al, frt, stp, br, ix, ixi, vz, vy, vw, vs, vg, v2, lr, lrt, ln, lxe, lc, lf, lfe, ap, aq, a0, a1, ad, cl, cs, cf, wa, wi, ir, ca, cp, dd, mv, st, ss, sL, Bd.c, Bd.vl, clg, csg, cfg, sL, Bd.c, Bd.vl]
   simp only [g1, g2, g3, hx, hy, decide_true, if_true, Option.bind_some]
   cases p x y <;> simp)]
  simp only [hl, decide_true, Bool.not_true, Bool.false_eq_true, if_false, Option.bind_some, Bool.true_and]
  cases ZdQ p l k <;> rfl
 ·have hi : ((l.length : Int) = (k.length : Int)) = False := eq_false (by omega)
  simp only [hi, hl, decide_false, Bool.not_false, if_true, Bool.false_and]
theorem j61 (l k : List Mth) (f : Mth → Mth → Option Bool) (p : Mth → Mth → Bool) (hf : ∀ x ∈ l, ∀ y, f x y = some (p x y)) (h : l.length < 4611686018427387904) : ZbR l k f = some (eqZ p l k) := by
 unfold ZbR eqZ
 dsimp only [Zw8, Zz9, ZBq, al, frt, stp, br, ix, ixi, vz, vy, vw, vs, vg, v2, lr, lrt, ln, lxe, lc, lf, lfe, ap, aq, a0, a1, ad, cl, cs, cf, wa, wi, ir, ca, cp, dd, mv, st, ss, sL, Bd.c, Bd.vl, clg, csg, cfg, sL, Bd.c, Bd.vl]
 by_cases hl : l.length = k.length
 ·have hi : ((l.length : Int) = (k.length : Int)) = True := eq_true (by omega)
  rw [ZbA l k p () false hl (hN := h) (he := by simp [ZtQ, Zuh, br]) (hs := by
   intro i x y hx hy
   have g1 := Zcu hx
   have g0 := (List.getElem?_eq_some_iff.1 hx).1
   have g2 : i + 1 < 9223372036854775808 := by omega
   have g3 := hf x (List.mem_of_getElem? hx) y
   dsimp only [ZtQ, Zuh, al, frt, stp, br, ix, ixi, vz, vy, vw, vs, vg, v2, lr, lrt, ln, lxe, lc, lf, lfe, ap, aq, a0, a1, ad, cl, cs, cf, wa, wi, ir, ca, cp, dd, mv, st, ss, sL, Bd.c, Bd.vl, clg, csg, cfg, sL, Bd.c, Bd.vl]
   simp only [g1, g2, g3, hx, hy, decide_true, if_true, Option.bind_some]
   cases p x y <;> simp)]
  simp only [hl, decide_true, Bool.not_true, Bool.false_eq_true, if_false, Option.bind_some, Bool.true_and]
  cases ZdQ p l k <;> rfl
 ·have hi : ((l.length : Int) = (k.length : Int)) = False := eq_false (by omega)
  simp only [hi, hl, decide_false, Bool.not_false, if_true, Bool.false_and]
theorem j91 (l k : List Nt) (f : Nt → Nt → Option Bool) (p : Nt → Nt → Bool) (hf : ∀ x ∈ l, ∀ y, f x y = some (p x y)) (h : l.length < 4611686018427387904) : Zb5 l k f = some (eqZ p l k) := by
 unfold Zb5 eqZ
 dsimp only [ZzV, Zzf, Zyy, al, frt, stp, br, ix, ixi, vz, vy, vw, vs, vg, v2, lr, lrt, ln, lxe, lc, lf, lfe, ap, aq, a0, a1, ad, cl, cs, cf, wa, wi, ir, ca, cp, dd, mv, st, ss, sL, Bd.c, Bd.vl, clg, csg, cfg, sL, Bd.c, Bd.vl]
 by_cases hl : l.length = k.length
 ·have hi : ((l.length : Int) = (k.length : Int)) = True := eq_true (by omega)
  rw [ZbA l k p () false hl (hN := h) (he := by simp [Zr7, Ztn, br]) (hs := by
   intro i x y hx hy
   have g1 := Zcu hx
   have g0 := (List.getElem?_eq_some_iff.1 hx).1
   have g2 : i + 1 < 9223372036854775808 := by omega
   have g3 := hf x (List.mem_of_getElem? hx) y
   dsimp only [Zr7, Ztn, al, frt, stp, br, ix, ixi, vz, vy, vw, vs, vg, v2, lr, lrt, ln, lxe, lc, lf, lfe, ap, aq, a0, a1, ad, cl, cs, cf, wa, wi, ir, ca, cp, dd, mv, st, ss, sL, Bd.c, Bd.vl, clg, csg, cfg, sL, Bd.c, Bd.vl]
   simp only [g1, g2, g3, hx, hy, decide_true, if_true, Option.bind_some]
   cases p x y <;> simp)]
  simp only [hl, decide_true, Bool.not_true, Bool.false_eq_true, if_false, Option.bind_some, Bool.true_and]
  cases ZdQ p l k <;> rfl
 ·have hi : ((l.length : Int) = (k.length : Int)) = False := eq_false (by omega)
  simp only [hi, hl, decide_false, Bool.not_false, if_true, Bool.false_and]
theorem j51 (l k : List Spn) (h : l.length < 4611686018427387904) : ZdS l k = some (eqZ spP l k) := by
 unfold ZdS eqZ
 dsimp only [Zza, ZAm, ZAO, al, frt, stp, br, ix, ixi, vz, vy, vw, vs, vg, v2, lr, lrt, ln, lxe, lc, lf, lfe, ap, aq, a0, a1, ad, cl, cs, cf, wa, wi, ir, ca, cp, dd, mv, st, ss, sL, Bd.c, Bd.vl, clg, csg, cfg, sL, Bd.c, Bd.vl]
 by_cases hl : l.length = k.length
 ·have hi : ((l.length : Int) = (k.length : Int)) = True := eq_true (by omega)
  rw [ZbA l k spP () false hl (hN := h) (he := by simp [ZsD, ZtV, br]) (hs := by
   intro i x y hx hy
   obtain ⟨h1, e1⟩ := List.getElem?_eq_some_iff.1 hx
   obtain ⟨h3, e3⟩ := List.getElem?_eq_some_iff.1 hy
   have g1 := Zcu hx
   have g2 : i + 1 < 9223372036854775808 := by omega
   unfold spP
   dsimp only [ZsD, ZtV, al, frt, stp, br, ix, ixi, vz, vy, vw, vs, vg, v2, lr, lrt, ln, lxe, lc, lf, lfe, ap, aq, a0, a1, ad, cl, cs, cf, wa, wi, ir, ca, cp, dd, mv, st, ss, sL, Bd.c, Bd.vl, clg, csg, cfg, sL, Bd.c, Bd.vl, ixg]
   simp only [g1, g2, hx, hy, decide_true, if_true, Option.bind_some]
   simp [hx]
   by_cases q1 : x.lo = y.lo <;> by_cases q2 : x.hi = y.hi <;> simp [q1, q2])]
  simp only [hl, decide_true, Bool.not_true, Bool.false_eq_true, if_false, Option.bind_some, Bool.true_and]
  cases ZdQ spP l k <;> rfl
 ·have hi : ((l.length : Int) = (k.length : Int)) = False := eq_false (by omega)
  simp only [hi, hl, decide_false, Bool.not_false, if_true, Bool.false_and]
theorem j52 (l k : List ByteArray) (h : l.length < 4611686018427387904) : Zdj l k = some (eqZ btP l k) := by
 unfold Zdj eqZ
 dsimp only [Zzl, ZzK, ZxN, al, frt, stp, br, ix, ixi, vz, vy, vw, vs, vg, v2, lr, lrt, ln, lxe, lc, lf, lfe, ap, aq, a0, a1, ad, cl, cs, cf, wa, wi, ir, ca, cp, dd, mv, st, ss, sL, Bd.c, Bd.vl, clg, csg, cfg, sL, Bd.c, Bd.vl]
 by_cases hl : l.length = k.length
 ·have hi : ((l.length : Int) = (k.length : Int)) = True := eq_true (by omega)
  rw [ZbA l k btP () false hl (hN := h) (he := by simp [ZuC, Zty, br]) (hs := by
   intro i x y hx hy
   obtain ⟨h1, e1⟩ := List.getElem?_eq_some_iff.1 hx
   obtain ⟨h3, e3⟩ := List.getElem?_eq_some_iff.1 hy
   have g1 := Zcu hx
   have g2 : i + 1 < 9223372036854775808 := by omega
   unfold btP
   dsimp only [ZuC, Zty, al, frt, stp, br, ix, ixi, vz, vy, vw, vs, vg, v2, lr, lrt, ln, lxe, lc, lf, lfe, ap, aq, a0, a1, ad, cl, cs, cf, wa, wi, ir, ca, cp, dd, mv, st, ss, sL, Bd.c, Bd.vl, clg, csg, cfg, sL, Bd.c, Bd.vl, ixg]
   simp only [g1, g2, hx, hy, decide_true, if_true, Option.bind_some]
   simp [hx]
   split <;> rfl)]
  simp only [hl, decide_true, Bool.not_true, Bool.false_eq_true, if_false, Option.bind_some, Bool.true_and]
  cases ZdQ btP l k <;> rfl
 ·have hi : ((l.length : Int) = (k.length : Int)) = False := eq_false (by omega)
  simp only [hi, hl, decide_false, Bool.not_false, if_true, Bool.false_and]
theorem j70 (l k : List Spn) (h : l.length < 4611686018427387904) : Zbb l k = some (eqZ spP l k) := by
 unfold Zbb eqZ
 dsimp only [ZBG, Zw2, ZB7, al, frt, stp, br, ix, ixi, vz, vy, vw, vs, vg, v2, lr, lrt, ln, lxe, lc, lf, lfe, ap, aq, a0, a1, ad, cl, cs, cf, wa, wi, ir, ca, cp, dd, mv, st, ss, sL, Bd.c, Bd.vl, clg, csg, cfg, sL, Bd.c, Bd.vl]
 by_cases hl : l.length = k.length
 ·have hi : ((l.length : Int) = (k.length : Int)) = True := eq_true (by omega)
  rw [ZbA l k spP () false hl (hN := h) (he := by simp [Zsn, ZrK, vz]) (hs := by
   intro i x y hx hy
   obtain ⟨h1, e1⟩ := List.getElem?_eq_some_iff.1 hx
   obtain ⟨h3, e3⟩ := List.getElem?_eq_some_iff.1 hy
   have g1 := Zcu hx
   have g2 : i + 1 < 9223372036854775808 := by omega
   unfold spP
   dsimp only [Zsn, ZrK, al, frt, stp, br, ix, ixi, vz, vy, vw, vs, vg, v2, lr, lrt, ln, lxe, lc, lf, lfe, ap, aq, a0, a1, ad, cl, cs, cf, wa, wi, ir, ca, cp, dd, mv, st, ss, sL, Bd.c, Bd.vl, clg, csg, cfg, sL, Bd.c, Bd.vl, ixg]
   simp only [g1, g2, hx, hy, decide_true, if_true, Option.bind_some]
   simp [hx]
   by_cases q1 : x.lo = y.lo <;> by_cases q2 : x.hi = y.hi <;> simp [q1, q2])]
  simp only [hl, decide_true, Bool.not_true, Bool.false_eq_true, if_false, Option.bind_some, Bool.true_and]
  cases ZdQ spP l k <;> rfl
 ·have hi : ((l.length : Int) = (k.length : Int)) = False := eq_false (by omega)
  simp only [hi, hl, decide_false, Bool.not_false, if_true, Bool.false_and]
theorem j71 (l k : List Nt) (h : l.length < 4611686018427387904) : ZbN l k = some (eqZ nP l k) := by
 unfold ZbN eqZ
 dsimp only [ZBT, ZAh, ZBE, al, frt, stp, br, ix, ixi, vz, vy, vw, vs, vg, v2, lr, lrt, ln, lxe, lc, lf, lfe, ap, aq, a0, a1, ad, cl, cs, cf, wa, wi, ir, ca, cp, dd, mv, st, ss, sL, Bd.c, Bd.vl, clg, csg, cfg, sL, Bd.c, Bd.vl]
 by_cases hl : l.length = k.length
 ·have hi : ((l.length : Int) = (k.length : Int)) = True := eq_true (by omega)
  rw [ZbA l k nP () false hl (hN := h) (he := by simp [Zt1, ZuM, vz]) (hs := by
   intro i x y hx hy
   obtain ⟨h1, e1⟩ := List.getElem?_eq_some_iff.1 hx
   obtain ⟨h3, e3⟩ := List.getElem?_eq_some_iff.1 hy
   have g1 := Zcu hx
   have g2 : i + 1 < 9223372036854775808 := by omega
   unfold nP vP
   dsimp only [Zt1, ZuM, al, frt, stp, br, ix, ixi, vz, vy, vw, vs, vg, v2, lr, lrt, ln, lxe, lc, lf, lfe, ap, aq, a0, a1, ad, cl, cs, cf, wa, wi, ir, ca, cp, dd, mv, st, ss, sL, Bd.c, Bd.vl, clg, csg, cfg, sL, Bd.c, Bd.vl, ixg]
   simp only [g1, g2, hx, hy, decide_true, if_true, Option.bind_some]
   simp [h1, h3, e1, e3, List.getD_eq_getElem?_getD]
   by_cases q1 : x.name = y.name <;> by_cases q2 : x.val.kind = y.val.kind <;> by_cases q3 : x.val.bits = y.val.bits <;> by_cases q4 : x.val.text = y.val.text <;> simp [q1, q2, q3, q4])]
  simp only [hl, decide_true, Bool.not_true, Bool.false_eq_true, if_false, Option.bind_some, Bool.true_and]
  cases ZdQ nP l k <;> rfl
 ·have hi : ((l.length : Int) = (k.length : Int)) = False := eq_false (by omega)
  simp only [hi, hl, decide_false, Bool.not_false, if_true, Bool.false_and]
theorem j90 (a b : Val) : ZdJ a b = some (vP a b) := rfl
theorem j92 (a b : Nt) : Zbh a b = some (nP a b) := by
 unfold Zbh nP
 simp [Zxb, vw, j90]
theorem j53 (l k : List Nt) (h : l.length < 4611686018427387904) : ZcJ l k = some (eqZ nP l k) := by
 unfold ZcJ
 dsimp only [Zw5, al, frt, stp, br, ix, ixi, vz, vy, vw, vs, vg, v2, lr, lrt, ln, lxe, lc, lf, lfe, ap, aq, a0, a1, ad, cl, cs, cf, wa, wi, ir, ca, cp, dd, mv, st, ss, sL, Bd.c, Bd.vl, clg, csg, cfg, sL, Bd.c, Bd.vl]
 rw [j91 l k _ nP (fun x _ y => j92 x y) h]
 rfl
theorem j50 (a b : Fld) (h : a.notes.length < 4611686018427387904) : ZbJ a b = some (fP a b) := by
 unfold ZbJ
 dsimp only [Zzg, al, frt, stp, br, ix, ixi, vz, vy, vw, vs, vg, v2, lr, lrt, ln, lxe, lc, lf, lfe, ap, aq, a0, a1, ad, cl, cs, cf, wa, wi, ir, ca, cp, dd, mv, st, ss, sL, Bd.c, Bd.vl, clg, csg, cfg, sL, Bd.c, Bd.vl]
 simp only [j90, j53 a.notes b.notes h, Option.isSome_some, Option.getD_some, implies_true, if_true]
 rfl
theorem j57 (a b : Itm) (h : a.notes.length < 4611686018427387904) : ZbW a b = some (itP a b) := by
 unfold ZbW
 dsimp only [ZyE, al, frt, stp, br, ix, ixi, vz, vy, vw, vs, vg, v2, lr, lrt, ln, lxe, lc, lf, lfe, ap, aq, a0, a1, ad, cl, cs, cf, wa, wi, ir, ca, cp, dd, mv, st, ss, sL, Bd.c, Bd.vl, clg, csg, cfg, sL, Bd.c, Bd.vl]
 simp only [j53 a.notes b.notes h, Option.isSome_some, Option.getD_some, implies_true, if_true]
 rfl
theorem j62 (a b : Mth) (h : a.notes.length < 4611686018427387904) : Zbu a b = some (mtP a b) := by
 unfold Zbu
 dsimp only [ZxW, al, frt, stp, br, ix, ixi, vz, vy, vw, vs, vg, v2, lr, lrt, ln, lxe, lc, lf, lfe, ap, aq, a0, a1, ad, cl, cs, cf, wa, wi, ir, ca, cp, dd, mv, st, ss, sL, Bd.c, Bd.vl, clg, csg, cfg, sL, Bd.c, Bd.vl]
 simp only [j53 a.notes b.notes h, Option.isSome_some, Option.getD_some, implies_true, if_true]
 rfl
structure OkM (m : Msg) : Prop where
 f : m.fields.length < 4611686018427387904
 r : m.reserved.length < 4611686018427387904
 g : m.gone.length < 4611686018427387904
 n : m.notes.length < 4611686018427387904
 d : ∀ d ∈ m.fields, d.notes.length < 4611686018427387904
structure OkE (e : Enm) : Prop where
 i : e.items.length < 4611686018427387904
 r : e.reserved.length < 4611686018427387904
 n : e.notes.length < 4611686018427387904
 d : ∀ d ∈ e.items, d.notes.length < 4611686018427387904
structure OkV (v : Svc) : Prop where
 m : v.methods.length < 4611686018427387904
 n : v.notes.length < 4611686018427387904
 d : ∀ d ∈ v.methods, d.notes.length < 4611686018427387904
theorem j15 (a b : Msg) (h : OkM a) : Zcl a b = some (mP a b) := by
 unfold Zcl
 dsimp only [ZzX, al, frt, stp, br, ix, ixi, vz, vy, vw, vs, vg, v2, lr, lrt, ln, lxe, lc, lf, lfe, ap, aq, a0, a1, ad, cl, cs, cf, wa, wi, ir, ca, cp, dd, mv, st, ss, sL, Bd.c, Bd.vl, clg, csg, cfg, sL, Bd.c, Bd.vl]
 simp only [j49 a.fields b.fields _ fP (fun x hx y => j50 x y (h.d x hx)) h.f, j51 a.reserved b.reserved h.r, j52 a.gone b.gone h.g, j53 a.notes b.notes h.n, Option.isSome_some, Option.getD_some, implies_true, if_true]
 rfl
theorem j18 (a b : Enm) (h : OkE a) : ZcY a b = some (eP a b) := by
 unfold ZcY
 dsimp only [ZBC, al, frt, stp, br, ix, ixi, vz, vy, vw, vs, vg, v2, lr, lrt, ln, lxe, lc, lf, lfe, ap, aq, a0, a1, ad, cl, cs, cf, wa, wi, ir, ca, cp, dd, mv, st, ss, sL, Bd.c, Bd.vl, clg, csg, cfg, sL, Bd.c, Bd.vl]
 simp only [j56 a.items b.items _ itP (fun x hx y => j57 x y (h.d x hx)) h.i, j51 a.reserved b.reserved h.r, j53 a.notes b.notes h.n, Option.isSome_some, Option.getD_some, implies_true, if_true]
 rfl
theorem j21 (a b : Svc) (h : OkV a) : Zcq a b = some (svP a b) := by
 unfold Zcq
 dsimp only [Zw7, al, frt, stp, br, ix, ixi, vz, vy, vw, vs, vg, v2, lr, lrt, ln, lxe, lc, lf, lfe, ap, aq, a0, a1, ad, cl, cs, cf, wa, wi, ir, ca, cp, dd, mv, st, ss, sL, Bd.c, Bd.vl, clg, csg, cfg, sL, Bd.c, Bd.vl]
 simp only [j61 a.methods b.methods _ mtP (fun x hx y => j62 x y (h.d x hx)) h.m, j53 a.notes b.notes h.n, Option.isSome_some, Option.getD_some, implies_true, if_true]
 rfl
theorem j72 (a b : Fld) (h : a.notes.length < 4611686018427387904) : Za8 a b = some (fP a b) := by
 unfold Za8 fP vP
 dsimp only [Zyi, al, frt, stp, br, ix, ixi, vz, vy, vw, vs, vg, v2, lr, lrt, ln, lxe, lc, lf, lfe, ap, aq, a0, a1, ad, cl, cs, cf, wa, wi, ir, ca, cp, dd, mv, st, ss, sL, Bd.c, Bd.vl, clg, csg, cfg, sL, Bd.c, Bd.vl]
 simp only [j71 a.notes b.notes h, Option.isSome_some, Option.getD_some, implies_true, if_true]
 generalize eqZ nP a.notes b.notes = q
 generalize decide (a.num = b.num) = x1
 generalize decide (a.name = b.name) = x2
 generalize decide (a.card = b.card) = x3
 generalize decide (a.key = b.key) = x4
 generalize decide (a.type.kind = b.type.kind) = x5
 generalize decide (a.type.name = b.type.name) = x6
 generalize decide (a.union = b.union) = x7
 generalize (a.hasDefault == b.hasDefault) = x8
 cases x1 <;> (try rfl) <;> cases x2 <;> (try rfl) <;> cases x3 <;> (try rfl) <;> cases x4 <;> (try rfl) <;> cases x5 <;> (try rfl) <;> cases x6 <;> (try rfl) <;> cases x7 <;> (try rfl) <;> cases x8 <;> simp
end Go.Proofs.YthagpbkmakocjaaGreat
