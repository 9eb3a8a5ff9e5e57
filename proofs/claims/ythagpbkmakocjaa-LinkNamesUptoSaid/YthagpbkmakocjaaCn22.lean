import Derived.Test.YthagpbkmakocjaaCn21
import Derived.Test.YthagpbkmakocjaaCn11
import Derived.Shelf.Sort.Plain
import Derived.Shelf.Slices.In.SortNone
import Derived.Shelf.Slices.CompactS
import Derived.Test.YthagpbkmakocjaaCn16
namespace Go.Proofs.Ythagpbkmakocjaa
set_option linter.all false
open Go Go.Eng
theorem ZDB {α : Type} (z : α) (fu : Nat) (l : List α) (a m b : Nat) (cf : α → α → Int) (s : Nat) :
  (cond ((decide (((s : Nat) : Int) < ((m : Nat) : Int)) && decide (((m : Nat) : Int) < (((((a + b) / 2) + m) - s : Nat) : Int)))) (cond ((decide (((a : Nat) : Int) < ((s : Nat) : Int)) && decide (((s : Nat) : Int) < (((a + b) / 2 : Nat) : Int)))) (cond ((decide ((((a + b) / 2 : Nat) : Int) < (((((a + b) / 2) + m) - s : Nat) : Int)) && decide ((((((a + b) / 2) + m) - s : Nat) : Int) < ((b : Nat) : Int)))) ((Zab z fu (Zab z fu (ZaB z l s m ((((a + b) / 2) + m) - s) cf) a s ((a + b) / 2) cf) ((a + b) / 2) ((((a + b) / 2) + m) - s) b cf)) ((Zab z fu (ZaB z l s m ((((a + b) / 2) + m) - s) cf) a s ((a + b) / 2) cf))) (cond ((decide ((((a + b) / 2 : Nat) : Int) < (((((a + b) / 2) + m) - s : Nat) : Int)) && decide ((((((a + b) / 2) + m) - s : Nat) : Int) < ((b : Nat) : Int)))) ((Zab z fu (ZaB z l s m ((((a + b) / 2) + m) - s) cf) ((a + b) / 2) ((((a + b) / 2) + m) - s) b cf)) ((ZaB z l s m ((((a + b) / 2) + m) - s) cf)))) (cond ((decide (((a : Nat) : Int) < ((s : Nat) : Int)) && decide (((s : Nat) : Int) < (((a + b) / 2 : Nat) : Int)))) (cond ((decide ((((a + b) / 2 : Nat) : Int) < (((((a + b) / 2) + m) - s : Nat) : Int)) && decide ((((((a + b) / 2) + m) - s : Nat) : Int) < ((b : Nat) : Int)))) ((Zab z fu (Zab z fu l a s ((a + b) / 2) cf) ((a + b) / 2) ((((a + b) / 2) + m) - s) b cf)) ((Zab z fu l a s ((a + b) / 2) cf))) (cond ((decide ((((a + b) / 2 : Nat) : Int) < (((((a + b) / 2) + m) - s : Nat) : Int)) && decide ((((((a + b) / 2) + m) - s : Nat) : Int) < ((b : Nat) : Int)))) ((Zab z fu l ((a + b) / 2) ((((a + b) / 2) + m) - s) b cf)) (l)))) = Zdu z fu l a m b cf s := by
 unfold Zdu
 dsimp only
 generalize (decide (((s : Nat) : Int) < ((m : Nat) : Int)) && decide (((m : Nat) : Int) < (((((a + b) / 2) + m) - s : Nat) : Int))) = c1
 generalize (decide (((a : Nat) : Int) < ((s : Nat) : Int)) && decide (((s : Nat) : Int) < (((a + b) / 2 : Nat) : Int))) = c2
 generalize (decide ((((a + b) / 2 : Nat) : Int) < (((((a + b) / 2) + m) - s : Nat) : Int)) && decide ((((((a + b) / 2) + m) - s : Nat) : Int) < ((b : Nat) : Int))) = c3
 cases c1 <;> cases c2 <;> cases c3 <;> rfl
section
variable {α : Type} [Rw α] [Tid α]
theorem Zvs (R : List α → Int → Int → Int → (α → α → Option Int) → Option (List α)) (pf : α → α → Option Int) (cmp : α → α → Int) (fu : Nat)
  (ih : ∀ (l : List α) (a m b : Nat), l.length ≤ 1048576 → b - a < fu → a < m → m < b → b ≤ l.length → R l (a : Int) (m : Int) (b : Int) pf = some (Zab Rw.z fu l a m b cmp) ∧ (Zab (Rw.z : α) fu l a m b cmp).length = l.length)
  (l : List α) (a m b s : Nat) (hl : l.length ≤ 1048576) (hf : b - a < fu + 1) (h1 : a < m) (h2 : m < b) (h3 : b ≤ l.length) (h4 : 4 ≤ b - a) (h5 : s ≤ (a + b) / 2) (h6 : (a + b) / 2 + m ≤ b + s) :
  (Ze4 l (a : Int) (m : Int) (b : Int) pf R (s : Int)).m = some (Zdu (Rw.z : α) fu l a m b cmp s) ∧ (Zdu (Rw.z : α) fu l a m b cmp s).length = l.length := by
 have mab := Zv7 (x := a) (y := b) (by omega)
 have e3 : (((a + b) / 2 : Nat) : Int) + (m : Int) - (s : Int) = (((a + b) / 2 + m - s : Nat) : Int) := by omega
 have w : -9223372036854775808 ≤ (((a + b) / 2 + m - s : Nat) : Int) ∧ (((a + b) / 2 + m - s : Nat) : Int) < 9223372036854775808 := by omega
 have g1 : a < (a + b) / 2 := by omega
 have g2 : (a + b) / 2 < b := by omega
 unfold Zdu
 dsimp only [Zak, Zfi, Zgj, Zhp, ZhI, Zhx, Zff, Zfb, ZhQ, Zhw, ZeQ, ZcH, ZfY, ZgS, Zf1, ZgZ, ZgN, ZgK, ZgO, Zgv, Zgc, ZgD, ZgL, Zgm, ZgF, Zf8, Zg0, Zgr, Zgq, ZgA, ZgC, Zf7, Zg3, ZgJ, Zgb, ZgH, Zgw, Zf6, Zf9, ZgT, ZgR, Zge, ZfW, Zgh, Ze4, Zcs, Zed, Zen, ZdI, ZdQ, ZcZ, br, vz, vg, vs, v2, wi, wk, shr, iri, ca, cag, cf, cfg, lc, ln, lf, lxe, fl, st, vwr, lr]
 simp only [mab, e3]
 generalize (a + b) / 2 = h at *
 generalize h + m - s = e at *
 simp only [w, and_self, if_true]
 have g3 : e ≤ b := by omega
 by_cases c1 : s < m ∧ m < e <;> by_cases c2 : a < s ∧ s < h <;> by_cases c3 : h < e ∧ e < b
 ·
   have hr := ZEF l s m e cmp hl c1.1 c1.2 (by omega)
   have lr0 := (ZfP (z := (Rw.z : α)) l s m e cmp c1.1 c1.2 (by omega)).1
   obtain ⟨i2, j2⟩ := ih (ZaB (Rw.z : α) l s m e cmp) a s h (by omega) (by omega) c2.1 c2.2 (by omega)
   obtain ⟨i3, j3⟩ := ih (Zab (Rw.z : α) fu (ZaB (Rw.z : α) l s m e cmp) a s h cmp) h e b (by omega) (by omega) c3.1 c3.2 (by omega)
   simp only [Zb0 c1, Zb0 c2, Zb0 c3, hr, lr0, i2, j2, i3, j3, if_true, Option.bind_some, cond_true]
   first | exact ⟨trivial, trivial⟩ | exact ⟨trivial, by omega⟩
 ·
   have hr := ZEF l s m e cmp hl c1.1 c1.2 (by omega)
   have lr0 := (ZfP (z := (Rw.z : α)) l s m e cmp c1.1 c1.2 (by omega)).1
   obtain ⟨i2, j2⟩ := ih (ZaB (Rw.z : α) l s m e cmp) a s h (by omega) (by omega) c2.1 c2.2 (by omega)
   simp only [Zb0 c1, Zb0 c2, Zbs c3, hr, lr0, i2, j2, Bool.false_eq_true, if_true, if_false, Option.bind_some, cond_true, cond_false]
   first | exact ⟨trivial, trivial⟩ | exact ⟨trivial, by omega⟩
 ·
   have hr := ZEF l s m e cmp hl c1.1 c1.2 (by omega)
   have lr0 := (ZfP (z := (Rw.z : α)) l s m e cmp c1.1 c1.2 (by omega)).1
   obtain ⟨i3, j3⟩ := ih (ZaB (Rw.z : α) l s m e cmp) h e b (by omega) (by omega) c3.1 c3.2 (by omega)
   simp only [Zb0 c1, Zbs c2, Zb0 c3, hr, lr0, i3, j3, Bool.false_eq_true, if_true, if_false, Option.bind_some, cond_true, cond_false]
   first | exact ⟨trivial, trivial⟩ | exact ⟨trivial, by omega⟩
 ·
   have hr := ZEF l s m e cmp hl c1.1 c1.2 (by omega)
   have lr0 := (ZfP (z := (Rw.z : α)) l s m e cmp c1.1 c1.2 (by omega)).1
   simp only [Zb0 c1, Zbs c2, Zbs c3, hr, lr0, Bool.false_eq_true, if_true, if_false, Option.bind_some, cond_true, cond_false]
   first | exact ⟨trivial, trivial⟩ | exact ⟨trivial, by omega⟩
 ·
   obtain ⟨i2, j2⟩ := ih l a s h (by omega) (by omega) c2.1 c2.2 (by omega)
   obtain ⟨i3, j3⟩ := ih (Zab (Rw.z : α) fu l a s h cmp) h e b (by omega) (by omega) c3.1 c3.2 (by omega)
   simp only [Zbs c1, Zb0 c2, Zb0 c3, i2, j2, i3, j3, Bool.false_eq_true, if_true, if_false, Option.bind_some, cond_true, cond_false]
   first | exact ⟨trivial, trivial⟩ | exact ⟨trivial, by omega⟩
 ·
   obtain ⟨i2, j2⟩ := ih l a s h (by omega) (by omega) c2.1 c2.2 (by omega)
   simp only [Zbs c1, Zb0 c2, Zbs c3, i2, j2, Bool.false_eq_true, if_true, if_false, Option.bind_some, cond_true, cond_false]
   first | exact ⟨trivial, trivial⟩ | exact ⟨trivial, by omega⟩
 ·
   obtain ⟨i3, j3⟩ := ih l h e b (by omega) (by omega) c3.1 c3.2 (by omega)
   simp only [Zbs c1, Zbs c2, Zb0 c3, i3, j3, Bool.false_eq_true, if_true, if_false, Option.bind_some, cond_true, cond_false]
   first | exact ⟨trivial, trivial⟩ | exact ⟨trivial, by omega⟩
 ·
   simp only [Zbs c1, Zbs c2, Zbs c3, Bool.false_eq_true, if_false, cond_false]
   first | exact ⟨trivial, trivial⟩ | exact ⟨trivial, by omega⟩
theorem Zo6 {pf : α → α → Option Int} {cmp : α → α → Int} (hp : ∀ x y, pf x y = some (cmp x y)) : ZEB pf cmp := by
 intro fu
 induction fu with
 | zero => intro l a m b _ h; omega
 | succ fu ih =>
  intro l a m b hl hf h1 h2 h3
  rw [Zab]
  show (ZcZ l (a : Int) (m : Int) (b : Int) pf (Zan fu)).m = _ ∧ _
  have wa : -9223372036854775808 ≤ ((m - a : Nat) : Int) ∧ ((m - a : Nat) : Int) < 9223372036854775808 := by omega
  have wb : -9223372036854775808 ≤ ((b - m : Nat) : Int) ∧ ((b - m : Nat) : Int) < 9223372036854775808 := by omega
  have ea : (m : Int) - (a : Int) = ((m - a : Nat) : Int) := by omega
  have eb : (b : Int) - (m : Int) = ((b - m : Nat) : Int) := by omega
  by_cases k1 : m - a = 1
  ·have k1' : ((m - a : Nat) : Int) = 1 := by omega
   obtain ⟨i, j, p1, p2, p3, p4⟩ := Zrl l a pf cmp hp hl (by omega) (b - m) m b big (b - m + 1) (Nat.le_refl _) (Zar (by omega)) (Nat.lt_succ_self _) (by omega) h3
   obtain ⟨i2, v, q1, q2, q3⟩ := Zvz l pf (i, j) hl (show 1 ≤ i by omega) (show i ≤ l.length by omega) (i - 1 - a) a l big (i - a + 1) (Nat.le_refl _) (Zar (by omega)) (by dsimp only; omega) rfl (by omega)
   dsimp only [ZcZ, Zak, Zhx, ZhI, Zhp, br, vz, vg, vs, v2, wi, wk, shr, iri, ca, cag, cf, cfg, lc, ln, lf, lxe, fl, st, vwr, lr]
   simp only [ea, k1', decide_true, if_true, cond_true, p1, p2, q1, q2, Option.bind_some, Sum.elim_inl]
   exact ⟨if_pos (by decide), q3⟩
  ·have k1' : ¬ ((m - a : Nat) : Int) = 1 := by omega
   by_cases k2 : b - m = 1
   ·have k2' : ((b - m : Nat) : Int) = 1 := by omega
    obtain ⟨i, j, p1, p2, p3, p4⟩ := ZqW l m pf cmp hp hl (by omega) (m - a) a m big (m - a + 1) (Nat.le_refl _) (Zar (by omega)) (Nat.lt_succ_self _) (by omega) (by omega)
    obtain ⟨i2, v, q1, q2, q3⟩ := ZD3 l pf (i, j) hl m l big (m + 1) (Zar (by omega)) (Nat.lt_succ_self _) rfl (by omega)
    dsimp only [ZcZ, Zak, ZdQ, ZdI, ZeQ, Zhw, ZhQ, br, vz, vg, vs, v2, wi, wk, shr, iri, ca, cag, cf, cfg, lc, ln, lf, lxe, fl, st, vwr, lr]
    simp only [ea, wa, k1', eb, k2', decide_true, decide_false, Bool.false_eq_true, if_true, if_false, and_self, cond_true, cond_false, p1, p2, q1, q2, Option.bind_some, Sum.elim_inl]
    exact ⟨if_pos (by decide), q3⟩
   ·have k2' : ¬ ((b - m : Nat) : Int) = 1 := by omega
    have mab := Zv7 (x := a) (y := b) (by omega)
    have w1 : -9223372036854775808 ≤ (a : Int) + (b : Int) ∧ (a : Int) + (b : Int) < 9223372036854775808 := by omega
    have e1 : (((a + b) / 2 : Nat) : Int) + (m : Int) = (((a + b) / 2 + m : Nat) : Int) := by omega
    have w2 : -9223372036854775808 ≤ (((a + b) / 2 + m : Nat) : Int) ∧ (((a + b) / 2 + m : Nat) : Int) < 9223372036854775808 := by omega
    have w3 : -9223372036854775808 ≤ (((a + b) / 2 + m : Nat) : Int) - 1 ∧ (((a + b) / 2 + m : Nat) : Int) - 1 < 9223372036854775808 := by omega
    have hone : (0 : Int) ≤ 1 := by decide
    by_cases k3 : (a + b) / 2 < m
    ·have k3' : (((a + b) / 2 : Nat) : Int) < (m : Int) := by omega
     have e4 : (((a + b) / 2 + m : Nat) : Int) - (b : Int) = (((a + b) / 2 + m - b : Nat) : Int) := by omega
     have w4 : -9223372036854775808 ≤ (((a + b) / 2 + m - b : Nat) : Int) ∧ (((a + b) / 2 + m - b : Nat) : Int) < 9223372036854775808 := by omega
     obtain ⟨i, j, p1, p2, p3, p4⟩ := Zkv l a m b pf cmp hp hl h1 h2 h3 ((a + b) / 2 - ((a + b) / 2 + m - b)) ((a + b) / 2 + m - b) ((a + b) / 2) big ((a + b) / 2 - ((a + b) / 2 + m - b) + 1) (Nat.le_refl _) (Zar (by omega)) (Nat.lt_succ_self _) (by omega) (by omega) (by omega)
     obtain ⟨t1, t2⟩ := Zvs (Zan fu) pf cmp fu ih l a m b i hl hf h1 h2 h3 (by omega) (by omega) (by omega)
     have tt := ZDB (Rw.z : α) fu l a m b cmp i
     dsimp only [ZcZ, Zak, ZdQ, ZdI, Zen, Zed, Zcs, br, vz, vg, vs, v2, wi, wk, shr, iri, ca, cag, cf, cfg, lc, ln, lf, lxe, fl, st, vwr, lr]
     simp only [ea, wa, k1', eb, wb, k2', mab, w1, hone, e1, w2, w3, k3', e4, w4, decide_true, decide_false, Bool.false_eq_true, if_true, if_false, and_self, cond_true, cond_false, p1, p2, Option.bind_some, Sum.elim_inl, t1, tt]
     exact ⟨trivial, t2⟩
    ·have k3' : ¬ (((a + b) / 2 : Nat) : Int) < (m : Int) := by omega
     obtain ⟨i, j, p1, p2, p3, p4⟩ := ZkK l a m b pf cmp hp hl h1 h2 h3 (m - a) a m big (m - a + 1) (Nat.le_refl _) (Zar (by omega)) (Nat.lt_succ_self _) (by omega) (by omega) (by omega)
     obtain ⟨t1, t2⟩ := Zvs (Zan fu) pf cmp fu ih l a m b i hl hf h1 h2 h3 (by omega) (by omega) (by omega)
     have tt := ZDB (Rw.z : α) fu l a m b cmp i
     dsimp only [ZcZ, Zak, ZdQ, ZdI, Zen, Zed, Zcs, br, vz, vg, vs, v2, wi, wk, shr, iri, ca, cag, cf, cfg, lc, ln, lf, lxe, fl, st, vwr, lr]
     simp only [ea, wa, k1', eb, wb, k2', mab, w1, hone, e1, w2, w3, k3', decide_false, Bool.false_eq_true, if_true, if_false, and_self, cond_false, p1, p2, Option.bind_some, Sum.elim_inl, t1, tt]
     exact ⟨trivial, t2⟩
end
end Go.Proofs.Ythagpbkmakocjaa
namespace Go.Eng
set_option linter.all false
open Go Go.RowKit Go.Shelf
theorem Ok.grown {l : Nat} {H : Hp} {m : Mu} {S : Nat → Prop} {w w' : World} (h : Ok l H m S w) (os : Array Obj) (hw : w'.heap = w.heap ++ os) (h1 : w'.os = w.os) (h2 : w'.tape = w.tape) (h3 : w'.output = w.output) : Ok l H m S w' ∧ Ext l H m S w H m S w' := by
 have hb : ∀ b, b < w.heap.size → w'.heap[b]? = w.heap[b]? := fun b hb => by rw [hw, Array.getElem?_append_left hb]
 have hext : Ext l H m S w H m S w' := ⟨fun _ h => h, fun b hs => hb b (h.sub b hs), fun _ _ => Nat.le_refl _, fun k hk hg hl => ⟨hl, rfl, rfl⟩, h1, h2, h3, by rw [hw, Array.size_append]; omega⟩
 refine ⟨⟨fun b hs => by have := h.sub b hs; rw [hw, Array.size_append]; omega, h.empty, h.fresh, h.inj, fun k hk hl hc => ?_⟩, hext⟩
 obtain ⟨C, c1, c2, c3, c4⟩ := h.blk k hk hl hc
 have hlt : (m k).b < w.heap.size := (Array.getElem?_eq_some_iff.1 c1).1
 exact ⟨C, by rw [hb _ hlt]; exact c1, c2, c3, fun i x v hx hv => ⟨(c4 i x v hx hv).1, (c4 i x v hx hv).2.ext hext hk⟩⟩
theorem Zie (xs : List ByteArray) : Zaa Zag xs = xs.map fun x => .d (.str x) := by
 induction xs with
 | nil => rfl
 | cons x l ih => rw [ZbT, ih]; rfl
def bl8 (x : ByteArray) : List UInt8 := x.data.toList
def ZcL (xs : List ByteArray) : List ByteArray := xs.mergeSort fun x y => decide (bl8 x ≤ bl8 y)
theorem Zeq (xs : List ByteArray) : (ZcL xs).length = xs.length := List.length_mergeSort _
theorem Zqi (xs : List ByteArray) : (xs.map bl8).mergeSort (fun x y => decide (x ≤ y)) = (ZcL xs).map bl8 := by
 unfold ZcL
 rw [List.map_mergeSort (s := fun x y => decide (x ≤ y)) (f := bl8) (fun _ _ _ _ => rfl)]
theorem ZqL (x : ByteArray) : Go.Proofs.encStr (bl8 x) = .string x := by
 unfold bl8
 obtain ⟨⟨l⟩⟩ := x
 rfl
theorem ZCa {off : Nat} {d : Array (List UInt8)} {C : Array Value} {i : Nat} (hi : i < d.size) (hC : off + i < C.size) : (Go.Sort.putCells Go.Proofs.encStr off d C)[off + i]? = some (Go.Proofs.encStr d[i]!) := by
 unfold Go.Sort.putCells
 rw [Array.getElem?_mapIdx, Array.getElem?_eq_getElem hC, Option.map_some, if_pos (by omega)]
 rw [show off + i - off = i from by omega]
theorem Zs0 {off : Nat} {d : Array (List UInt8)} {C : Array Value} : (Go.Sort.putCells Go.Proofs.encStr off d C).size = C.size := by
 unfold Go.Sort.putCells
 rw [Array.size_mapIdx]
theorem ZC7 (w : World) (b : Nat) (f : Array Value → Array Value) {C : Array Value} {e : TypeId} {fr : Nat × Nat} (h : w.heap[b]? = some (.cells C e fr)) (i : Nat) : (Go.Sort.mapBlock w b f).heap[i]? = if i = b then some (.cells (f C) e fr) else w.heap[i]? := by
 unfold Go.Sort.mapBlock
 show (w.heap.modify b _)[i]? = _
 rw [Array.getElem?_modify]
 by_cases hi : b = i
 ·subst hi; rw [if_pos rfl, if_pos rfl, h]; rfl
 ·rw [if_neg hi, if_neg fun e => hi e.symm]
theorem ZjX {P : Program} {f : FuncId} (hb : ∃ fn c, P.funcs[f]? = some fn ∧ fn.body = some c ∧ (fn.name == "runtime.NumGoroutine") = false) {ℓ : Nat} {ℋ : Hp} {k : Key} (hk : k.1 ≤ ℓ) {g : Nat} {e : TypeId} (xs ys zs : List ByteArray)
  (hH : ℋ k = ⟨g, true, e, 1, Zaa Zag xs⟩) (hy : ys.length = xs.length) (hp : zs <+: ys) (z : AV) (R : Option Addr → Nat → Value)
  (p0 : xs = [] → ∀ a cap w, Calls P f #[.slice a 0 cap] w fun e' w' => e' = .returned (R a cap) ∧ w' = w)
  (p1 : ∀ blk off cap w, Go.Sort.Holds Go.Proofs.encStr w blk off (xs.map bl8).toArray → blk < w.heap.size → xs.length ≤ cap → Calls P f #[.slice (some ⟨blk, off, none⟩) xs.length cap] w fun e' w' =>
   e' = .returned (R (some ⟨blk, off, none⟩) cap) ∧ ∃ n os, w' = Go.Sort.grow (Go.Sort.putRow Go.Proofs.encStr (Go.Sort.ahead w n) blk off (ys.map bl8).toArray) os)
  (hz : ∀ (w' : World) (S' : Nat → Prop) (H' : Hp) (m' : Mu) (a : Option Addr), (H' k).g = g → (H' k).live = true → xs.length ≤ (m' k).cap → (0 < (m' k).cap → a = some ⟨(m' k).b, (m' k).o, none⟩) → RepA w' S' H' m' ℓ z (R a (m' k).cap))
  {Post : AV → Hp → Prop} (h : Post z (updH ℋ k ⟨g, true, e, 1, Zaa Zag zs⟩)) : Zcu P f ℓ [.ref k g 0 xs.length] ℋ Post :=
 ⟨hb, fun m S w vs hO hA => by
  obtain ⟨hs, hr⟩ := hA
  obtain ⟨vl⟩ := vs
  match vl, hs, hr with
  | [v0], _, hr =>
   have h0 := hr 0 _ v0 rfl rfl
   have hl : (ℋ k).live = true := by rw [hH]
   have hg : (ℋ k).g = g := by rw [hH]
   cases h0 with
   | refD _ _ _ _ _ _ _ hd _ => rw [hd hg.symm] at hl; cases hl
   | refL _ _ _ a _ _ hcap ha =>
    rw [Nat.sub_zero, Nat.zero_add] at *
    have ha : 0 < (m k).cap → a = some ⟨(m k).b, (m k).o, none⟩ := fun q => by rw [ha q, Nat.zero_mul, Nat.add_zero]
    by_cases hz0 : xs.length = 0
    ·have : xs = [] := List.length_eq_zero_iff.1 hz0
     subst this
     have : ys = [] := List.length_eq_zero_iff.1 hy
     subst this
     have : zs = [] := List.prefix_nil.1 hp
     subst this
     refine (p0 rfl a _ w).mono fun e' w' ⟨h1, h2⟩ => ?_
     subst h2
     have eq : updH ℋ k ⟨(ℋ k).g, true, e, 1, Zaa Zag []⟩ = ℋ := by
      funext q
      by_cases hq : q = k
      ·subst hq; rw [Zac]; exact hH.symm
      ·rw [Zal _ _ hq]
     rw [eq] at h
     exact ⟨_, _, _, m, S, h1, h, hO, hz _ _ _ _ _ rfl hl hcap ha, ⟨fun _ h => h, fun _ _ => rfl, fun _ _ => Nat.le_refl _, fun q hq hg hl => ⟨hl, rfl, rfl⟩, rfl, rfl, rfl, Nat.le_refl _⟩⟩
    ·have hc0 : (m k).cap ≠ 0 := by omega
     obtain ⟨C, c1, c2, c3, c4⟩ := hO.blk k hk hl hc0
     rw [hH] at c1 c2 c3 c4
     have ha' := ha (by omega)
     subst ha'
     rw [Nat.mul_one] at c2 c3
     have cell : ∀ (i : Nat) (x : ByteArray), xs[i]? = some x → C[(m k).o + i]? = some (.string x) := fun i x hx => by
      have hlt := (List.getElem?_eq_some_iff.1 hx).1
      have hC : (m k).o + i < C.size := by omega
      obtain ⟨v, hv⟩ : ∃ v, C[(m k).o + i]? = some v := ⟨_, Array.getElem?_eq_getElem hC⟩
      have := (c4 i (.d (.str x)) v (by show (Zaa Zag xs)[i]? = _; rw [Zie, List.getElem?_map, hx]; rfl) hv).2
      rw [hv]
      cases this with
      | d _ _ hd => cases hd with
       | str => rfl
     have hlt : (m k).b < w.heap.size := (Array.getElem?_eq_some_iff.1 c1).1
     have hHolds : Go.Sort.Holds Go.Proofs.encStr w (m k).b (m k).o (xs.map bl8).toArray := fun j hj => by
      have hj' : j < xs.length := by simpa using hj
      have e1 : (xs.map bl8).toArray[j]! = bl8 xs[j] := by rw [getElem!_pos _ j hj]; simp
      rw [e1, ZqL]
      refine ⟨?_, ?_⟩
      ·unfold World.cell?
       simp only [c1]
       exact cell j xs[j] (List.getElem?_eq_getElem hj')
      ·unfold World.frozen?
       simp only [c1]
       simp
     refine (p1 (m k).b (m k).o (m k).cap w hHolds hlt hcap).mono fun e' w' ⟨h1, n, os, h2⟩ => ?_
     have hwr := hO.write k hk hl hc0 (Zaa Zag zs) (Go.Sort.putCells Go.Proofs.encStr (m k).o (ys.map bl8).toArray C) (by rw [Zs0, c2, hH, Nat.mul_one]) (by have := hp.length_le; rw [hH, Zie, List.length_map, Nat.mul_one]; omega)
      (Go.Sort.putRow Go.Proofs.encStr (Go.Sort.ahead w n) (m k).b (m k).o (ys.map bl8).toArray) (fun b => by rw [hH]; exact ZC7 (Go.Sort.ahead w n) (m k).b _ c1 b) (by rw [Go.Sort.size_putRow]; rfl) rfl rfl rfl (fun i x v hx hv => by
       rw [Zie, List.getElem?_map] at hx
       cases hq' : zs[i]? with
       | none => rw [hq'] at hx; cases hx
       | some y =>
        rw [hq'] at hx
        cases hx
        have hq : ys[i]? = some y := by
         obtain ⟨t, rfl⟩ := hp
         rw [List.getElem?_append_left (List.getElem?_eq_some_iff.1 hq').1]; exact hq'
        have hi := (List.getElem?_eq_some_iff.1 hq).1
        rw [ZCa (by simpa using hi) (by omega)] at hv
        have e2 : (ys.map bl8).toArray[i]! = bl8 y := by
         rw [getElem!_pos _ i (by simpa using hi)]
         simp [(List.getElem?_eq_some_iff.1 hq).2]
        rw [e2, ZqL] at hv
        cases hv
        exact ⟨rfl, .d _ _ (.str _)⟩)
     rw [hH] at hwr
     obtain ⟨k1, k2⟩ := hwr
     obtain ⟨k3, k4⟩ := k1.grown os (w' := w') (by rw [h2]; rfl) (by rw [h2]; rfl) (by rw [h2]; rfl) (by rw [h2]; rfl)
     exact ⟨_, _, _, _, _, h1, h, k3, hz _ _ _ _ _ (by rw [Zac]) (by rw [Zac]) hcap (fun _ => rfl), k2.trans k4⟩⟩
theorem Znj {P : Program} {ρ : Go.Shelf.Ren} (L : Go.Proofs.Lays.n190 P ρ) (hb : ∃ fn c, P.funcs[ρ.f 190]? = some fn ∧ fn.body = some c ∧ (fn.name == "runtime.NumGoroutine") = false) {ℓ : Nat} {ℋ : Hp} {k : Key} (hk : k.1 ≤ ℓ) {g : Nat} {e : TypeId} (xs : List ByteArray)
  (hH : ℋ k = ⟨g, true, e, 1, Zaa Zag xs⟩) (hn : xs.length < 4611686018427387904) {Post : AV → Hp → Prop} (h : Post (.tup []) (updH ℋ k ⟨g, true, e, 1, Zaa Zag (ZcL xs)⟩)) : Zcu P (ρ.f 190) ℓ [.ref k g 0 xs.length] ℋ Post :=
 ZjX hb hk xs (ZcL xs) (ZcL xs) hH (Zeq xs) (List.prefix_refl _) (.tup []) (fun _ _ => .tuple #[]) (fun _ a cap w => Go.Proofs.Any.slices_Sort_string_none L a cap w)
  (fun blk off cap w hHo hlt _ => by
   have key := Go.Proofs.Any.slices_Sort_string L blk off cap (xs.map bl8) w hHo hlt (by rw [List.length_map]; exact hn)
   rw [List.length_map, Zqi] at key
   exact key)
  (fun _ _ _ _ _ _ _ _ _ => .tup _ _ rfl (fun i x v hx => by simp at hx)) h
def ZcO (xs : List ByteArray) : List ByteArray := (Go.Lib.compact (xs.map bl8)).map fun l => ⟨l.toArray⟩
theorem ZDP (l : List UInt8) : bl8 ⟨l.toArray⟩ = l := rfl
theorem Zgn (xs : List ByteArray) : (ZcO xs).map bl8 = Go.Lib.compact (xs.map bl8) := by
 unfold ZcO
 rw [List.map_map]
 exact (List.map_congr_left fun l _ => ZDP l).trans (List.map_id _)
theorem ZhW (xs : List ByteArray) : (ZcO xs).length ≤ xs.length := by
 unfold ZcO Go.Lib.compact Go.Lib.compactUpTo
 rw [List.length_map, List.length_map]
 refine Nat.le_trans (List.length_filter_le _ _) ?_
 rw [List.length_range, List.length_map]
 exact Nat.le_refl _
def Zyi (xs : List ByteArray) : List ByteArray := ZcO xs ++ List.replicate (xs.length - (ZcO xs).length) ⟨#[]⟩
theorem Zil {P : Program} {ρ : Go.Shelf.Ren} (L : Go.Proofs.Lays.n194 P ρ) (hb : ∃ fn c, P.funcs[ρ.f 194]? = some fn ∧ fn.body = some c ∧ (fn.name == "runtime.NumGoroutine") = false) {ℓ : Nat} {ℋ : Hp} {k : Key} (hk : k.1 ≤ ℓ) {g : Nat} {e : TypeId} (xs : List ByteArray)
  (hH : ℋ k = ⟨g, true, e, 1, Zaa Zag xs⟩) (hn : xs.length < 4611686018427387904) {Post : AV → Hp → Prop} (h : Post (.ref k g 0 (ZcO xs).length) (updH ℋ k ⟨g, true, e, 1, Zaa Zag (ZcO xs)⟩)) : Zcu P (ρ.f 194) ℓ [.ref k g 0 xs.length] ℋ Post :=
 ZjX hb hk xs (Zyi xs) (ZcO xs) hH (by have := ZhW xs; unfold Zyi; rw [List.length_append, List.length_replicate]; omega) (List.prefix_append _ _) (.ref k g 0 (ZcO xs).length) (fun a cap => .slice a (ZcO xs).length cap)
  (fun hx a cap w => by subst hx; exact Go.Proofs.Any.slices_Compact_string_empty L a cap w)
  (fun blk off cap w hHo hlt hc => by
   have key := Go.Proofs.Any.slices_Compact_string L blk off cap (xs.map bl8) w hHo (by rw [List.length_map]; omega) (by rw [List.length_map]; exact hc)
   rw [List.length_map] at key
   refine key.mono fun e' w' hh => ?_
   obtain ⟨h1, q, h2⟩ := hh
   rw [← Zgn, List.length_map] at h1 h2
   refine ⟨h1, q, #[], ?_⟩
   rw [h2, Go.Sort.grow_empty]
   unfold Zyi
   rw [List.map_append, List.map_replicate]
   rfl)
  (fun w' S' H' m' a hg hl hc ha => by
   have := RepA.refL (w := w') (S := S') (H := H') (m := m') (l := ℓ) k 0 (ZcO xs).length a hk hl (by have := ZhW xs; omega) (fun q => by rw [Nat.zero_mul, Nat.add_zero]; exact ha q)
   rw [hg, Nat.sub_zero] at this
   exact this) h
end Go.Eng
namespace Go.Proofs.Ythagpbkmakocjaa
set_option linter.all false
set_option maxRecDepth 100000
open Go Go.Eng
noncomputable section
def ZkR : Go.Shelf.Ren := ⟨fun | 190 => 48 | 125 => 84 | 258 => 83 | 128 => 114 | 129 => 115 | 302 => 105 | 303 => 106 | 304 => 107 | 305 => 108 | 306 => 109 | 307 => 110 | 308 => 111 | 309 => 112 | 310 => 113 | 333 => 130 | 329 => 131 | 330 => 132 | 334 => 133 | 335 => 134 | 336 => 96 | 344 => 141 | n => n, fun | 31 => 34 | 9 => 9 | 3 => 3 | 46 => 140 | 0 => 0 | 51 => 173 | 53 => 45 | 4 => 4 | 183 => 165 | 182 => 164 | 131 => 170 | 5 => 5 | 218 => 186 | 222 => 190 | 228 => 194 | 229 => 195 | n => n, fun | n => n⟩
theorem ZAG : Go.Proofs.Lays.n190 tp ZkR := { mixed := by kernel_rfl, f125 := Try.func84.trans (congrArg some (by kernel_rfl)), f128 := Try.func114.trans (congrArg some (by kernel_rfl)), f129 := Try.func115.trans (congrArg some (by kernel_rfl)), f190 := Try.func48.trans (congrArg some (by kernel_rfl)), f258 := Try.func83.trans (congrArg some (by kernel_rfl)), f302 := Try.func105.trans (congrArg some (by kernel_rfl)), f303 := Try.func106.trans (congrArg some (by kernel_rfl)), f304 := Try.func107.trans (congrArg some (by kernel_rfl)), f305 := Try.func108.trans (congrArg some (by kernel_rfl)), f306 := Try.func109.trans (congrArg some (by kernel_rfl)), f307 := Try.func110.trans (congrArg some (by kernel_rfl)), f308 := Try.func111.trans (congrArg some (by kernel_rfl)), f309 := Try.func112.trans (congrArg some (by kernel_rfl)), f310 := Try.func113.trans (congrArg some (by kernel_rfl)), f329 := Try.func131.trans (congrArg some (by kernel_rfl)), f330 := Try.func132.trans (congrArg some (by kernel_rfl)), f333 := Try.func130.trans (congrArg some (by kernel_rfl)), f334 := Try.func133.trans (congrArg some (by kernel_rfl)), f335 := Try.func134.trans (congrArg some (by kernel_rfl)), f336 := Try.func96.trans (congrArg some (by kernel_rfl)), f344 := Try.func141.trans (congrArg some (by kernel_rfl)), t0 := Try.underlying0, a0 := Try.isAgg0, z0 := Try.sizeOf0, v0 := Try.zeroValue0, t3 := Try.underlying3, a3 := Try.isAgg3, z3 := Try.sizeOf3, v3 := Try.zeroValue3, t4 := Try.underlying4, a4 := Try.isAgg4, z4 := Try.sizeOf4, v4 := Try.zeroValue4, t5 := Try.underlying5, a5 := Try.isAgg5, z5 := Try.sizeOf5, v5 := Try.zeroValue5, t9 := Try.underlying9, a9 := Try.isAgg9, z9 := Try.sizeOf9, v9 := Try.zeroValue9, t31 := Try.underlying34, a31 := Try.isAgg34, z31 := Try.sizeOf34, v31 := Try.zeroValue34, t46 := Try.underlying140, a46 := Try.isAgg140, z46 := Try.sizeOf140, v46 := Try.zeroValue140, t51 := Try.underlying173, a51 := Try.isAgg173, z51 := Try.sizeOf173, v51 := Try.zeroValue173, t53 := Try.underlying45, a53 := Try.isAgg45, z53 := Try.sizeOf45, v53 := Try.zeroValue45, t131 := Try.underlying170, a131 := Try.isAgg170, z131 := Try.sizeOf170, v131 := Try.zeroValue170, t182 := Try.underlying164, a182 := Try.isAgg164, z182 := Try.sizeOf164, v182 := Try.zeroValue164, t183 := Try.underlying165, a183 := Try.isAgg165, z183 := Try.sizeOf165, v183 := Try.zeroValue165, t218 := Try.underlying186, a218 := Try.isAgg186, z218 := Try.sizeOf186, v218 := Try.zeroValue186, t222 := Try.underlying190, a222 := Try.isAgg190, z222 := Try.sizeOf190, v222 := Try.zeroValue190, t228 := Try.underlying194, a228 := Try.isAgg194, z228 := Try.sizeOf194, v228 := Try.zeroValue194, t229 := Try.underlying195, a229 := Try.isAgg195, z229 := Try.sizeOf195, v229 := Try.zeroValue195 }
abbrev E48 : List Bt → AV := fun y => .tup []
@[reducible] def G48 : List Bt → List Blk := fun y => [⟨0, true, 9, 1, Zaa Zag y⟩]
def Zdg (p0 : List Bt) : Option (List Bt) := if p0.length < 4611686018427387904 then some (ZcL p0) else none
theorem ZHB (p0 : List Bt) : KO tp 48 1 [.ref (0, 0) 0 0 p0.length] [⟨0, true, 9, 1, Zaa Zag p0⟩] (fun _ _ _ _ => True) (Zdg p0) E48 (G48) := ⟨fun l H ks gs θ hks hlow hnd hH _ y hy => by
 obtain ⟨h0, hy⟩ := ZaC hy
 cases hy
 match ks, hks with
 | [k0], _ => exact Znj ZAG ⟨_, Zai Try.f48, Try.func48, by kernel_rfl, by kernel_rfl⟩ hlow.1 p0 ((hH.1.2 rfl).trans (ZeM (Zaj _ _))) h0 ⟨rfl, by show _ = updH H k0 (ZbQ _ _ _); rw [ZeM (Zaj _ _)]⟩⟩
def Zlg : Go.Shelf.Ren := ⟨fun | 194 => 49 | n => n, fun | 31 => 34 | 9 => 9 | 3 => 3 | 4 => 4 | 0 => 0 | n => n, fun | n => n⟩
theorem Zx9 : Go.Proofs.Lays.n194 tp Zlg := { mixed := by kernel_rfl, f194 := Try.func49.trans (congrArg some (by kernel_rfl)), t0 := Try.underlying0, a0 := Try.isAgg0, z0 := Try.sizeOf0, v0 := Try.zeroValue0, t3 := Try.underlying3, a3 := Try.isAgg3, z3 := Try.sizeOf3, v3 := Try.zeroValue3, t4 := Try.underlying4, a4 := Try.isAgg4, z4 := Try.sizeOf4, v4 := Try.zeroValue4, t9 := Try.underlying9, a9 := Try.isAgg9, z9 := Try.sizeOf9, v9 := Try.zeroValue9, t31 := Try.underlying34, a31 := Try.isAgg34, z31 := Try.sizeOf34, v31 := Try.zeroValue34 }
abbrev E49 : List Bt → AV := fun y => .ref (0, 0) 0 0 y.length
@[reducible] def G49 : List Bt → List Blk := fun y => [⟨0, true, 9, 1, Zaa Zag y⟩]
def Zcx (p0 : List Bt) : Option (List Bt) := if p0.length < 4611686018427387904 then some (ZcO p0) else none
theorem ZIg (p0 : List Bt) : KO tp 49 1 [.ref (0, 0) 0 0 p0.length] [⟨0, true, 9, 1, Zaa Zag p0⟩] (fun _ _ _ _ => True) (Zcx p0) E49 (G49) := ⟨fun l H ks gs θ hks hlow hnd hH _ y hy => by
 obtain ⟨h0, hy⟩ := ZaC hy
 cases hy
 match ks, hks with
 | [k0], _ => exact Zil Zx9 ⟨_, Zai Try.f49, Try.func49, by kernel_rfl, by kernel_rfl⟩ hlow.1 p0 ((hH.1.2 rfl).trans (ZeM (Zaj _ _))) h0 ⟨rfl, by show _ = updH H k0 (ZbQ _ _ _); rw [ZeM (Zaj _ _)]⟩⟩
abbrev E20 : List Bt → AV := fun y => vL Zag y
section
variable {C : Cx} (p0 : List Fil) (r1 : List Bt) (v2 : Nat) (y5 y8 y7 r6 : List Bt)
abbrev Zp2 := PT 0 (Lv (List Bt × Nat) (List Bt) (List Bt))
abbrev Zjy := PT 0 (List Bt)
abbrev ZsL : List (Key × Blk) := [((1, 3), ⟨0, true, 9, 1, Zaa Zag r1⟩)]
abbrev ZDU : List (Nat × AV) := [(3, .ref (1, 3) 0 0 r1.length), (9, vL Zas p0), (10, vN p0.length), (11, vN v2)]
def ZAA : List Bt × Nat → St := fun (r1, v2) => mkS (ZDU p0 r1 v2) (ZsL r1)
def ZBC : List Bt → Nat × St := fun r6 => (0, mkS [(3, .ref (1, 3) 0 0 r6.length)] [((1, 3), ⟨0, true, 9, 1, Zaa Zag r6⟩)])
def Zvd : Zp2 := vs (wa v2 1) <| vz (fl (r1 ++ y5)) <| ln (ZAA p0) (r1 ++ y5, v2 + 1)
def Ztn : Zp2 := ar r1 y5 (1, 26) 1 <| vz (fl (r1 ++ y5)) <| lc (mkS [(3, .ref (1, 3) 0 0 (r1 ++ y5).length), (9, vL Zas p0), (10, vN p0.length), (11, vN v2)] [((1, 3), ⟨0, true, 9, 1, Zaa Zag (r1 ++ y5)⟩)]) ((Zvd p0 r1 v2 y5).m)
def Zum (y4 : List Bt × List Bt × List Bt) : Zp2 := vw .sep <| vw .sep <| vz (fl r1) <| lc (mkS [(9, vL Zas p0), (10, vN p0.length), (11, vN v2), (21, .ref (1, 3) 0 0 r1.length), (25, .d (.list [ZbR y4.1, ZbR y4.2.1, ZbR y4.2.2]))] (ZsL r1)) ((Zay ([y4.1, y4.2.1, y4.2.2] : List (List Bt))).bind fun y5 => (Ztn p0 r1 v2 y5).m)
def Zuw : Zp2 := ix p0 v2 fun e3 => vw .go <| vw .go <| cl (ZCp e3) fun y4 => vz (fl r1) <| lc (mkS [(3, .ref (1, 3) 0 0 r1.length), (6, vL Zag y4.1), (7, vL Zag y4.2.1), (8, vL Zag y4.2.2), (9, vL Zas p0), (10, vN p0.length), (11, vN v2)] (ZsL r1)) ((Zum p0 r1 v2 y4).m)
def Zto : Zp2 := br (decide ((v2 : Int) < (p0.length : Int))) (vz (fl r1) <| lc (mkS (ZDU p0 r1 v2) (ZsL r1)) ((Zuw p0 r1 v2).m)) (vz (fl r1) <| lxe (ZBC) r1)
def ZnY := fun ((r1, v2) : List Bt × Nat) => (Zto p0 r1 v2).m
def ZxA : Zjy := vz (fr y8) <| lr E20 (fun _ => []) y8
def ZyA : Zjy := vz (fl y8) <| lc (mkS [(2, .ref (1, 3) 0 0 y8.length)] [((1, 3), ⟨0, true, 9, 1, Zaa Zag y8⟩)]) ((ZxA y8).m)
def ZzR : Zjy := vz (fl y7) <| lc (mkS [(31, .ref (1, 3) 0 0 y7.length)] [((1, 3), ⟨0, true, 9, 1, Zaa Zag y7⟩)]) ((Zcx y7).bind fun y8 => (ZyA y8).m)
def Zx7 : Zjy := rn 3 3 r6.length y7 <| vz (fl y7) <| lc (mkS [(3, .ref (1, 3) 0 0 y7.length)] [((1, 3), ⟨0, true, 9, 1, Zaa Zag y7⟩)]) ((ZzR y7).m)
def ZpX : Zjy := vz (fl r6) <| lc (mkS [(3, .ref (1, 3) 0 0 r6.length), (29, .ref (1, 3) 0 0 r6.length)] [((1, 3), ⟨0, true, 9, 1, Zaa Zag r6⟩)]) ((Zdg r6).bind fun y7 => (Zx7 y7 r6).m)
def Zqh : Zjy := vw (.ads 3 3 9 1) <| vz (fl ([] : List Bt)) <| lc (ZAA p0 (([] : List Bt), 0)) ((Zad (ZnY p0) big (([] : List Bt), 0)).bind (Sum.elim (fun r6 => (ZpX r6).m) some))
def Zq2 : Zjy := vz (eqL p0) <| lc (mkS [(3, .e0), (9, vL Zas p0), (10, vN p0.length), (11, vI 0)] []) ((Zqh p0).m)
def Zrf : Zjy := lc (mkS [(0, vL Zas p0), (3, .e0)] []) ((Zq2 p0).m)
def ZdK (p0 : List Fil) : Option (List Bt) := (Zrf p0).m
theorem Zyb (co : CO C 0) : Kl 33 C (pa [0, 0, 1, 0, 1, 1] (Zai Try.f20)) [.tmp 2] 0 (ZAA p0) (ZBC) E20 (fun _ => []) (ZnY p0) := fun (r1, v2) _ m Q Post hQ L => mi co 2 (Zto p0 r1 v2) (lf2 [3, 9, 10, 11] [((1, 3), true)]) (lf2 [3] [((1, 3), true)]) hQ m L fun r g => ⟨fun _ m L => sq (bk 1 (mi co 2 (Zuw p0 r1 v2) (lf2 [3, 6, 7, 8, 9, 10, 11] [((1, 3), true)]) nl hQ m L fun r g e3 y4 _ m L => rg (Zb8 co tok 5 (Zum p0 r1 v2 y4) (lf2 [9, 10, 11, 21, 25] [((1, 3), true)]) m L fun r g _ m L => ZaS co m 47 [.d (.list [ZbR y4.1, ZbR y4.2.1, ZbR y4.2.2])] [(1, 26)] ([((1, 26), ⟨0, false, 0, 0, []⟩)] ++ []) (fun z => .ref (1, 26) 1 0 z.length) (fun z => [((1, 26), ⟨1, true, 9, 1, Zaa Zag z⟩)]) [(1, 3)] (fun z => trivial) (⟨Zaj _ _, trivial⟩) (fun z hz r g => Zae (ZEq ([y4.1, y4.2.1, y4.2.2] : List (List Bt))) hz co g [((1, 26), ⟨0, false, 0, 0, []⟩)] [] [((1, 26), ⟨1, true, 9, 1, Zaa Zag z⟩)] (lkS []) (fun H' hg ho => trivial) (fun H => ⟨(fun h => by cases h), by kernel_rfl, trivial⟩) (fun H => ⟨fun _ => ⟨rfl, bz⟩, by kernel_rfl, trivial⟩)) fun y5 m => Zb4 co tok (Ztn p0 r1 v2 y5) (lf2 [3, 9, 10, 11] [((1, 3), true)]) m L fun r g _ m L => en co (Zvd p0 r1 v2 y5) (lf2 [3, 9, 10, 11] [((1, 3), true)]) nl hQ m L fun r g => id))), id⟩
end
theorem ZIy (p0 : List Fil) : KC tp 20 [vL Zas p0] (ZdK p0) E20 := kc1 Try.func20 Try.ntmps20 tok [.tmp 2] fun C co y m Post L => mi co 2 (Zrf p0) (lf1 [0, 3]) nl ii m L fun r g _ m L => sq (mi co 1 (Zq2 p0) (lf1 [3, 9, 10, 11]) nl ii m L fun r g _ m L => bk 0 (Zn7 co (Zqh p0) (lf2 [3, 9, 10, 11] [((1, 3), true)]) m L fun r g _ m L => lo (lpF (Zyb p0 co) ii m L (fun r6 m => sq (rg (Zb8 co tok 1 (ZpX r6) (lf2 [3, 29] [((1, 3), true)]) m L fun r g _ m L => ZaS co m 48 [.ref (1, 3) 0 0 r6.length] [(1, 3)] ([((1, 3), ⟨0, true, 9, 1, Zaa Zag r6⟩)] ++ []) (fun z => .tup []) (fun z => [((1, 3), ⟨0, true, 9, 1, Zaa Zag z⟩)]) [] (fun z => trivial) (trivial) (fun z hz r g => Zae (ZHB r6) hz co g [((1, 3), ⟨0, true, 9, 1, Zaa Zag r6⟩)] [] [((1, 3), ⟨0, true, 9, 1, Zaa Zag z⟩)] (lkS []) (fun H' hg ho => trivial) (fun H => ⟨fun _ => ⟨rfl, bz⟩, by kernel_rfl, trivial⟩) (fun H => ⟨fun _ => ⟨rfl, bz⟩, by kernel_rfl, trivial⟩)) fun y7 m => Zb4 co tok (Zx7 y7 r6) (lf2 [3] [((1, 3), true)]) m L fun r g _ m L => sq (rg (Zb8 co tok 1 (ZzR y7) (lf2 [31] [((1, 3), true)]) m L fun r g _ m L => ZaS co m 49 [.ref (1, 3) 0 0 y7.length] [(1, 3)] ([((1, 3), ⟨0, true, 9, 1, Zaa Zag y7⟩)] ++ []) (fun z => .ref (1, 3) 0 0 z.length) (fun z => [((1, 3), ⟨0, true, 9, 1, Zaa Zag z⟩)]) [] (fun z => trivial) (trivial) (fun z hz r g => Zae (ZIg y7) hz co g [((1, 3), ⟨0, true, 9, 1, Zaa Zag y7⟩)] [] [((1, 3), ⟨0, true, 9, 1, Zaa Zag z⟩)] (lkS []) (fun H' hg ho => trivial) (fun H => ⟨fun _ => ⟨rfl, bz⟩, by kernel_rfl, trivial⟩) (fun H => ⟨fun _ => ⟨rfl, bz⟩, by kernel_rfl, trivial⟩)) fun y8 m => Zb4 co tok (ZyA y8) (lf2 [2] [((1, 3), true)]) m L fun r g _ m L => fo co (ZxA y8) m L fun r g => id))))))))
abbrev E21 : List Bt → AV := fun y => vL Zag y
section
variable {C : Cx} (co : CO C 0) (p0 : List Fil) (v2 : Nat) (y4 v5 : List Bt) (v6 : Nat) (e7 : Bt) (v1 : List Bt)
abbrev Zhj := PT 0 (Lv (List Bt × Nat) (List Bt) (List Bt))
abbrev Zsv := PT 0 (List Bt)
abbrev Zw0 : List (Nat × AV) := [(3, vL Zag v5), (12, vL Zas p0), (13, vN p0.length), (14, vN v2), (19, vL Zag y4), (20, vN y4.length), (21, vN v6)]
abbrev Zm9 : List Nat := [3, 12, 13, 14, 19, 20, 21]
abbrev ZyR : List Nat := [7, 8, 9, 12, 13, 14, 19, 20, 21, 28, 29, 30]
abbrev Zz9 : List (Nat × AV) := [(12, vL Zas p0), (13, vN p0.length), (14, vN v2), (19, vL Zag y4), (20, vN y4.length), (21, vN v6)]
def Zzi : List Bt × Nat → St := fun (v1, v2) => mkS [(3, vL Zag v1), (12, vL Zas p0), (13, vN p0.length), (14, vN v2)] []
def ZCe : List Bt → Nat × St := fun v17 => (0, mkS [(3, vL Zag v17)] [])
def Ztq : List Bt × Nat → St := fun (v5, v6) => mkS (Zw0 p0 v2 y4 v5 v6) []
def ZCk : List Bt → Nat × St := fun v16 => (2, mkS [(3, vL Zag v16), (12, vL Zas p0), (13, vN p0.length), (14, vN v2)] [])
def Zu8 : List Bt × Bool × Nat → St := fun (r9, v10, v11) => mkS [(7, vS e7), (8, .ref (1, 8) 0 0 r9.length), (9, vB v10), (12, vL Zas p0), (13, vN p0.length), (14, vN v2), (19, vL Zag y4), (20, vN y4.length), (21, vN v6), (28, vL Zag v5), (29, vN v5.length), (30, vN v11)] [((1, 8), ⟨0, true, 9, 1, Zaa Zag r9⟩)]
def ZEc : Bool × List Bt → Nat × St := fun (v13, r14) => (4, mkS ((7, vS e7) :: (8, .ref (1, 8) 0 0 r14.length) :: (9, vB v13) :: Zz9 p0 v2 y4 v6) [((1, 8), ⟨0, true, 9, 1, Zaa Zag r14⟩)])
def Ztr (r9 : List Bt) (v10 : Bool) (v11 : Nat) : PT 0 (Lv (List Bt × Bool × Nat) (Bool × List Bt) (List Bt)) := br (decide ((v11 : Int) < (v5.length : Int))) (ix v5 v11 fun e12 => br ((!v10) && (!(sLt e12 e7 || decide (e12 = e7)))) (vw .sep <| vw .sep <| ap r9 (e7 : Bt) <| vw .sep <| vw .sep <| vw .sep <| ap (r9 ++ [e7]) (e12 : Bt) <| vs (wa v11 1) <| vz (fl ((r9 ++ [e7]) ++ [e12])) <| ln (Zu8 p0 v2 y4 v5 v6 e7) ((r9 ++ [e7]) ++ [e12], true, v11 + 1)) (vw .sep <| vw .sep <| ap r9 (e12 : Bt) <| vs (wa v11 1) <| vz (fl (r9 ++ [e12])) <| ln (Zu8 p0 v2 y4 v5 v6 e7) (r9 ++ [e12], v10, v11 + 1))) (vz (fl r9) <| lxe (ZEc p0 v2 y4 v6 e7) (v10, r9))
def Znu := fun ((r9, v10, v11) : List Bt × Bool × Nat) => (Ztr p0 v2 y4 v5 v6 e7 r9 v10 v11).m
def Zt3 (r15 : List Bt) : Zhj := vs (wa v6 1) <| vw (.frz 8 [(3, (r15.map Zag))] []) <| vz (fz r15) <| ln (Ztq p0 v2 y4) (r15, v6 + 1)
def Zpg : List Bt → St := fun r15 => mkS ((3, .ref (1, 8) 0 0 r15.length) :: Zz9 p0 v2 y4 v6) [((1, 8), ⟨0, true, 9, 1, Zaa Zag r15⟩)]
def Zf5 : List Bt → Option (Lv (List Bt × Nat) (List Bt) (List Bt)) := fun r15 => (Zt3 p0 v2 y4 v6 r15).m
def Zuv (v13 : Bool) (r14 : List Bt) : Zhj := br (!v13) (vw .sep <| vw .sep <| ap r14 (e7 : Bt) <| vz (fl (r14 ++ [e7])) <| lc (Zpg p0 v2 y4 v6 (r14 ++ [e7])) (Zf5 p0 v2 y4 v6 (r14 ++ [e7]))) (vz (fl r14) <| lc (Zpg p0 v2 y4 v6 r14) (Zf5 p0 v2 y4 v6 r14))
def Zsf : Zhj := vw (.ads 8 8 9 1) <| vz (fl ([] : List Bt)) <| lc (Zu8 p0 v2 y4 v5 v6 e7 (([] : List Bt), false, 0)) ((Zad (Znu p0 v2 y4 v5 v6 e7) big (([] : List Bt), false, 0)).bind (Sum.elim (fun (v13, r14) => (Zuv p0 v2 y4 v6 e7 v13 r14).m) (fun z => some (.rt z))))
def Zs2 : Zhj := vz (eqL v5) <| lc (mkS [(7, vS e7), (8, .e0), (9, vB false), (12, vL Zas p0), (13, vN p0.length), (14, vN v2), (19, vL Zag y4), (20, vN y4.length), (21, vN v6), (28, vL Zag v5), (29, vN v5.length), (30, vI 0)] []) ((Zsf p0 v2 y4 v5 v6 e7).m)
def ZrY : Zhj := vs (wa v6 1) <| ln (Ztq p0 v2 y4) (v5, v6 + 1)
def ZsG : Zhj := ix y4 v6 fun e7 => cl (ZIw v5 e7) fun y8 => br y8 (lxc 3 (mkS (Zw0 p0 v2 y4 v5 v6) []) ((ZrY p0 v2 y4 v5 v6).m)) (lc (mkS ((3, vL Zag v5) :: (7, vS e7) :: (8, .e0) :: (9, vB false) :: Zz9 p0 v2 y4 v6) []) ((Zs2 p0 v2 y4 v5 v6 e7).m))
def ZsO : Zhj := br (decide ((v6 : Int) < (y4.length : Int))) (lc (mkS (Zw0 p0 v2 y4 v5 v6) []) ((ZsG p0 v2 y4 v5 v6).m)) (lxe (ZCk p0 v2) v5)
def ZmP := fun ((v5, v6) : List Bt × Nat) => (ZsO p0 v2 y4 v5 v6).m
def ZlT (v16 : List Bt) : Zhj := vs (wa v2 1) <| ln (Zzi p0) (v16, v2 + 1)
def ZlQ : Zhj := ix p0 v2 fun e3 => vw .go <| vw .go <| cl (ZIr e3) fun y4 => vz (eqL y4) <| lc (Ztq p0 v2 y4 (v1, 0)) ((Zad (ZmP p0 v2 y4) big (v1, 0)).bind (Sum.elim (fun v16 => (ZlT p0 v2 v16).m) (fun z => some (.rt z))))
def Zl5 : Zhj := br (decide ((v2 : Int) < (p0.length : Int))) (lc (mkS [(3, vL Zag v1), (12, vL Zas p0), (13, vN p0.length), (14, vN v2)] []) ((ZlQ p0 v2 v1).m)) (lxe (ZCe) v1)
def Znk := fun ((v1, v2) : List Bt × Nat) => (Zl5 p0 v2 v1).m
def ZoL (v17 : List Bt) : Zsv := lr E21 (fun _ => []) v17
def Zp3 : Zsv := vw (.ads 3 3 9 1) <| vw (.frz 3 [(3, (([] : List Bt).map Zag))] []) <| vz (fz ([] : List Bt)) <| lc (Zzi p0 (([] : List Bt), 0)) ((Zad (Znk p0) big (([] : List Bt), 0)).bind (Sum.elim (fun v17 => (ZoL v17).m) some))
def ZoT : Zsv := vz (eqL p0) <| lc (mkS [(3, .e0), (12, vL Zas p0), (13, vN p0.length), (14, vI 0)] []) ((Zp3 p0).m)
def ZpE : Zsv := lc (mkS [(0, vL Zas p0), (3, .e0)] []) ((ZoT p0).m)
def Zbu (p0 : List Fil) : Option (List Bt) := (ZpE p0).m
section
include co
theorem ZxU : Kl 60 C (pa [0, 0, 1, 0, 1, 1, 1, 1, 0, 0, 1, 1, 0, 0, 1, 1, 0, 0, 1, 1, 0, 0, 1, 0, 1, 1] (Zai Try.f21)) [.tmp 2] 0 (Zu8 p0 v2 y4 v5 v6 e7) (ZEc p0 v2 y4 v6 e7) E21 (fun _ => []) (Znu p0 v2 y4 v5 v6 e7) := fun (r9, v10, v11) _ m Q Post hQ L => en co (Ztr p0 v2 y4 v5 v6 e7 r9 v10 v11) (lf2 ZyR [((1, 8), true)]) (lf2 [7, 8, 9, 12, 13, 14, 19, 20, 21] [((1, 8), true)]) hQ m L fun r g => ⟨fun e12 => ⟨id, id⟩, id⟩
theorem ZyM : Kl 60 C (pa [0, 0, 1, 1, 0, 0, 1, 1, 0, 0, 1, 0, 1, 1] (Zai Try.f21)) [.tmp 2] 0 (Ztq p0 v2 y4) (ZCk p0 v2) E21 (fun _ => []) (ZmP p0 v2 y4) := fun (v5, v6) _ m Q Post hQ L => mi co 2 (ZsO p0 v2 y4 v5 v6) (lf1 Zm9) (lf1 [3, 12, 13, 14]) hQ m L fun r g => ⟨fun _ m L => sq (bk 3 (mi co 4 (ZsG p0 v2 y4 v5 v6) (lf1 [3, 7, 8, 9, 12, 13, 14, 19, 20, 21]) (lf1 Zm9) hQ m L fun r g e7 y8 => ⟨fun _ m L => en co (ZrY p0 v2 y4 v5 v6) (lf1 Zm9) nl hQ m L fun r g => id, fun _ m L => sq (mi co 1 (Zs2 p0 v2 y4 v5 v6 e7) (lf1 ZyR) nl hQ m L fun r g _ m L => bk 4 (Zn7 co (Zsf p0 v2 y4 v5 v6 e7) (lf2 ZyR [((1, 8), true)]) m L fun r g _ m L => lo (lpL (ZxU co p0 v2 y4 v5 v6 e7) hQ m L (fun (v13, r14) m => ZFu co tok tmo (Zuv p0 v2 y4 v6 e7 v13 r14) (lf2 Zm9 [((1, 8), true)]) nl hQ m L (.normal) (Zpg p0 v2 y4 v6) (Zf5 p0 v2 y4 v6) (fun r15 _ m L => en co (Zt3 p0 v2 y4 v6 r15) (lf1 Zm9) nl hQ m L fun r g => id) fun J3 r g => ⟨J3 (r14 ++ [e7]), J3 r14⟩))))⟩)), id⟩
theorem Zxm : Kl 60 C (pa [0, 0, 1, 0, 1, 1] (Zai Try.f21)) [.tmp 2] 0 (Zzi p0) (ZCe) E21 (fun _ => []) (Znk p0) := fun (v1, v2) _ m Q Post hQ L => mi co 2 (Zl5 p0 v2 v1) (lf1 [3, 12, 13, 14]) (lf1 [3]) hQ m L fun r g => ⟨fun _ m L => sq (bk 1 (mi co 2 (ZlQ p0 v2 v1) (lf1 Zm9) nl hQ m L fun r g e3 y4 _ m L => bk 2 (lo (lpL (ZyM co p0 v2 y4) hQ m L (fun v16 m => en co (ZlT p0 v2 v16) (lf1 [3, 12, 13, 14]) nl hQ m L fun r g => id))))), id⟩
end
end
theorem ZHy (p0 : List Fil) : KC tp 21 [vL Zas p0] (Zbu p0) E21 := kc1 Try.func21 Try.ntmps21 tok [.tmp 2] fun C co y m Post L => mi co 2 (ZpE p0) (lf1 [0, 3]) nl ii m L fun r g _ m L => sq (mi co 1 (ZoT p0) (lf1 [3, 12, 13, 14]) nl ii m L fun r g _ m L => bk 0 (Zn7 co (Zp3 p0) (lf1 [3, 12, 13, 14]) m L fun r g _ m L => lo (lpF (Zxm co p0) ii m L (fun v17 m => fo co (ZoL v17) m L fun r g => id))))
abbrev E8 : Bool → AV := fun y => vB y
section
variable {C : Cx} (co : CO C 0) (p0 : List Fil) (y1 y2 : List Bt) (y8 : Scm × Bt × Int)
abbrev ZxI := PT 0 (Bool)
abbrev Zxa : List (Key × Blk) := [((1, 6), ⟨0, true, 27, 3, [vL Zap y8.1.messages, vL Zam y8.1.enums, vL Zaq y8.1.services]⟩)]
abbrev ZEE : List (Nat × AV) := [(3, vL Zag y1), (6, .ptr (1, 6) 0 0)]
def ZFO : Nat → St := fun v3 => mkS [(0, vL Zas p0), (3, vL Zag y1), (4, vL Zag y2), (5, vN v3)] []
def ZG4 : Unit → Nat × St := fun _ => (0, mkS [(0, vL Zas p0), (3, vL Zag y1)] [])
def ZEp (v3 : Nat) : PT 0 (Lv (Nat) (Unit) (Bool)) := vz (eqL y1) <| br (decide ((v3 : Int) < (y1.length : Int))) (ix y1 v3 fun e4 => ix y2 v3 fun e5 => vg ((!(!decide (e4 = e5))) && decide ((0 : Int) < (v3 : Int))) (wi ((v3 : Int) - 1)) <| ixg ((!(!decide (e4 = e5))) && decide ((0 : Int) < (v3 : Int))) y1 ((v3 : Int) - 1) fun e6 => ixg ((!(!decide (e4 = e5))) && decide ((0 : Int) < (v3 : Int))) y1 (v3 : Int) fun e7 => br ((!decide (e4 = e5)) || (decide ((0 : Int) < (v3 : Int)) && (!sLt e6 e7))) (lrt E8 (fun _ => []) false) (vs (wa v3 1) <| ln (ZFO p0 y1 y2) (v3 + 1))) (lxe (ZG4 p0 y1) ())
def ZAW := fun (v3 : Nat) => (ZEp p0 y1 y2 v3).m
def ZF7 : Nat → St := fun v10 => mkS [(3, vL Zag y1), (6, .ptr (1, 6) 0 0), (65, vL Zap y8.1.messages), (66, vN y8.1.messages.length), (67, vN v10)] (Zxa y8)
def ZGT : Unit → Nat × St := fun _ => (2, mkS (ZEE y1) (Zxa y8))
def ZEi (v10 : Nat) : PT 0 (Lv (Nat) (Unit) (Bool)) := br (decide ((v10 : Int) < (y8.1.messages.length : Int))) (ix y8.1.messages v10 fun e11 => vw .go <| vw .go <| cl (ZFf y1 e11.name) fun y12 => br (!y12) (lrt E8 (fun _ => []) false) (vs (wa v10 1) <| ln (ZF7 y1 y8) (v10 + 1))) (lxe (ZGT y1 y8) ())
def ZAV := fun (v10 : Nat) => (ZEi y1 y8 v10).m
def ZE3 : Nat → St := fun v13 => mkS [(3, vL Zag y1), (6, .ptr (1, 6) 0 0), (78, vL Zam y8.1.enums), (79, vN y8.1.enums.length), (80, vN v13)] (Zxa y8)
def ZGP : Unit → Nat × St := fun _ => (4, mkS (ZEE y1) (Zxa y8))
def ZEw (v13 : Nat) : PT 0 (Lv (Nat) (Unit) (Bool)) := br (decide ((v13 : Int) < (y8.1.enums.length : Int))) (ix y8.1.enums v13 fun e14 => vw .go <| vw .go <| cl (ZFf y1 e14.name) fun y15 => br (!y15) (lrt E8 (fun _ => []) false) (vs (wa v13 1) <| ln (ZE3 y1 y8) (v13 + 1))) (lxe (ZGP y1 y8) ())
def ZA7 := fun (v13 : Nat) => (ZEw y1 y8 v13).m
def ZFl : Nat → St := fun v16 => mkS [(3, vL Zag y1), (6, .ptr (1, 6) 0 0), (91, vL Zaq y8.1.services), (92, vN y8.1.services.length), (93, vN v16)] (Zxa y8)
def ZGg : Unit → Nat × St := fun _ => (6, mkS (ZEE y1) (Zxa y8))
def ZEu (v16 : Nat) : PT 0 (Lv (Nat) (Unit) (Bool)) := br (decide ((v16 : Int) < (y8.1.services.length : Int))) (ix y8.1.services v16 fun e17 => vw .go <| vw .go <| cl (ZFf y1 e17.name) fun y18 => br (!y18) (lrt E8 (fun _ => []) false) (vs (wa v16 1) <| ln (ZFl y1 y8) (v16 + 1))) (lxe (ZGg y1 y8) ())
def ZAU := fun (v16 : Nat) => (ZEu y1 y8 v16).m
def ZFv : ZxI := vw .go <| vz (eqL y8.1.messages) <| vw .go <| vz (eqL y8.1.enums) <| vs (wa y8.1.messages.length y8.1.enums.length) <| vw .go <| vz (eqL y8.1.services) <| vs (wa (y8.1.messages.length + y8.1.enums.length) y8.1.services.length) <| vz (eqL y1) <| clg (decide ((((y8.1.messages.length + y8.1.enums.length) + y8.1.services.length : Nat) : Int) = (y1.length : Int))) (ZGH) fun y19 => lr E8 (fun _ => []) (decide ((((y8.1.messages.length + y8.1.enums.length) + y8.1.services.length : Nat) : Int) = (y1.length : Int)) && y19)
def ZFZ : ZxI := vw .go <| vz (eqL y8.1.services) <| lc (ZFl y1 y8 0) ((Zad (ZAU y1 y8) big 0).bind (Sum.elim (fun _ => (ZFv y1 y8).m) some))
def ZFL : ZxI := vw .go <| vz (eqL y8.1.enums) <| lc (ZE3 y1 y8 0) ((Zad (ZA7 y1 y8) big 0).bind (Sum.elim (fun _ => (ZFZ y1 y8).m) some))
def ZFz : ZxI := vw .go <| vz (eqL y8.1.messages) <| lc (ZF7 y1 y8 0) ((Zad (ZAV y1 y8) big 0).bind (Sum.elim (fun _ => (ZFL y1 y8).m) some))
def ZFX : ZxI := cl (K_9 p0) fun y8 => vw .go <| br (!decide (y8.2.2 = (0 : Int))) (cl (ZGH) fun y9 => lr E8 (fun _ => []) y9) (lc (mkS (ZEE y1) (Zxa y8)) ((ZFz y1 y8).m))
def ZAD : ZxI := lc (ZFO p0 y1 y2 0) ((Zad (ZAW p0 y1 y2) big 0).bind (Sum.elim (fun _ => (ZFX p0 y1).m) some))
def Zy0 : ZxI := cl (ZIy p0) fun y1 => cl (ZHy p0) fun y2 => vz (eqL y1) <| vz (eqL y2) <| br (!decide ((y1.length : Int) = (y2.length : Int))) (lr E8 (fun _ => []) false) (lc (mkS [(0, vL Zas p0), (3, vL Zag y1), (4, vL Zag y2)] []) ((ZAD p0 y1 y2).m))
def Zbg (p0 : List Fil) : Option (Bool) := (Zy0 p0).m
section
include co
theorem ZDd : Kl 120 C (pa [0, 0, 1, 0, 1, 1, 1, 1] (Zai Try.f8)) [.tmp 2] 0 (ZFO p0 y1 y2) (ZG4 p0 y1) E8 (fun _ => []) (ZAW p0 y1 y2) := fun v3 _ m Q Post hQ L => en co (ZEp p0 y1 y2 v3) (lf1 [0, 3, 4, 5]) (lf1 [0, 3]) hQ m L fun r g => ⟨fun e4 e5 e6 e7 => ⟨id, id⟩, id⟩
theorem ZCH : Kl 120 C (pa [0, 0, 1, 0, 1, 1, 1, 1, 1, 1, 1] (Zai Try.f8)) [.tmp 2] 0 (ZF7 y1 y8) (ZGT y1 y8) E8 (fun _ => []) (ZAV y1 y8) := fun v10 _ m Q Post hQ L => en co (ZEi y1 y8 v10) (lf2 [3, 6, 65, 66, 67] [((1, 6), false)]) (lf2 [3, 6] [((1, 6), false)]) hQ m L fun r g => ⟨fun e11 y12 => ⟨id, id⟩, id⟩
theorem ZCS : Kl 120 C (pa [0, 0, 1, 0, 1, 1, 1, 1, 1, 1, 1, 1] (Zai Try.f8)) [.tmp 2] 0 (ZE3 y1 y8) (ZGP y1 y8) E8 (fun _ => []) (ZA7 y1 y8) := fun v13 _ m Q Post hQ L => en co (ZEw y1 y8 v13) (lf2 [3, 6, 78, 79, 80] [((1, 6), false)]) (lf2 [3, 6] [((1, 6), false)]) hQ m L fun r g => ⟨fun e14 y15 => ⟨id, id⟩, id⟩
theorem ZB7 : Kl 120 C (pa [0, 0, 1, 0, 1, 1, 1, 1, 1, 1, 1, 1, 1] (Zai Try.f8)) [.tmp 2] 0 (ZFl y1 y8) (ZGg y1 y8) E8 (fun _ => []) (ZAU y1 y8) := fun v16 _ m Q Post hQ L => en co (ZEu y1 y8 v16) (lf2 [3, 6, 91, 92, 93] [((1, 6), false)]) (lf2 [3, 6] [((1, 6), false)]) hQ m L fun r g => ⟨fun e17 y18 => ⟨id, id⟩, id⟩
end
end
theorem K_8 (p0 : List Fil) : KC tp 8 [vL Zas p0] (Zbg p0) E8 := kc1 Try.func8 Try.ntmps8 tok [.tmp 2] fun C co y m Post L => mi co 4 (Zy0 p0) (lf1 [0, 3, 4]) nl ii m L fun r g y1 y2 => ⟨id, fun _ m L => sq (mi co 1 (ZAD p0 y1 y2) (lf1 [0, 3, 4, 5]) nl ii m L fun r g _ m L => bk 0 (lo (lpF (ZDd co p0 y1 y2) ii m L (fun _ m => mi co 2 (ZFX p0 y1) (lf2 [3, 6] [((1, 6), false)]) nl ii m L fun r g y8 => ⟨fun y9 => id, fun _ m L => sq (mi co 1 (ZFz y1 y8) (lf2 [3, 6, 65, 66, 67] [((1, 6), false)]) nl ii m L fun r g _ m L => bk 2 (lo (lpF (ZCH co y1 y8) ii m L (fun _ m => sq (mi co 1 (ZFL y1 y8) (lf2 [3, 6, 78, 79, 80] [((1, 6), false)]) nl ii m L fun r g _ m L => bk 4 (lo (lpF (ZCS co y1 y8) ii m L (fun _ m => sq (mi co 1 (ZFZ y1 y8) (lf2 [3, 6, 91, 92, 93] [((1, 6), false)]) nl ii m L fun r g _ m L => bk 6 (lo (lpF (ZB7 co y1 y8) ii m L (fun _ m => fo co (ZFv y1 y8) m L fun r g y19 => id))))))))))))⟩))))⟩
end
end Go.Proofs.Ythagpbkmakocjaa
