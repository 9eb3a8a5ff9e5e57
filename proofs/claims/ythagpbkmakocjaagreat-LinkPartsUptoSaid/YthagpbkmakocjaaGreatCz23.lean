import Derived.Test.YthagpbkmakocjaaGreatCz22
import Derived.Test.YthagpbkmakocjaaGreatCz00
namespace Go.Proofs.YthagpbkmakocjaaGreat
set_option linter.all false
open Go Go.Eng
section
variable {α : Type} [Rw α] [Tid α]
theorem ZtF (l : List α) (m : Nat) (cmp : α → α → Int) (hl : l.length ≤ 1048576) : ∀ (d i j : Nat) (v : List α) (N fu : Nat), i + j ≤ d → d < N → i + j < fu → 0 < i → 0 < j → i ≤ m → m + j ≤ l.length → v.length = l.length →
  ∃ i' j' v', ZbM (Rw.z : α) m cmp fu i j v = .inl (i', j', v') ∧ Zaa (Zex l (m : Int)) N ((i : Int), (j : Int), v) = some (.inl ((i' : Int), v')) ∧ i' ≤ m ∧ m + i' ≤ l.length ∧ v'.length = l.length
 | 0, i, j, v, N, fu, hd, hN, hf, h0, h1, hi, hj, hv => by omega
 | d + 1, i, j, v, N, fu, hd, hN, hf, h0, h1, hi, hj, hv => by
  obtain ⟨N, rfl⟩ : ∃ m, N = m + 1 := ⟨N - 1, by omega⟩
  obtain ⟨fu, rfl⟩ : ∃ m, fu = m + 1 := ⟨fu - 1, by omega⟩
  by_cases he : i = j
  ·subst he
   refine ⟨i, i, v, by rw [ZbM]; simp, ?_, hi, hj, hv⟩
   rw [Zaa]
   have hB : Zex l (m : Int) ((i : Int), (i : Int), v) = some (.ex ((i : Int), v)) := by
    dsimp only [Zex, Znb, Zoa, Zop, Znn, Zoc, Zog, Zol, ZnN, br, vz, vs, wi, lc, ln, lf, lxe, fl]
    simp
   rw [hB]
  ·have hne : ¬ (i : Int) = (j : Int) := by omega
   by_cases hlt : j < i
   ·have hlt' : (j : Int) < (i : Int) := by omega
    have e1 : (m : Int) - (i : Int) = ((m - i : Nat) : Int) := by omega
    have w1 : -9223372036854775808 ≤ ((m - i : Nat) : Int) ∧ ((m - i : Nat) : Int) < 9223372036854775808 := by omega
    have w2 : -9223372036854775808 ≤ ((i - j : Nat) : Int) ∧ ((i - j : Nat) : Int) < 9223372036854775808 := by omega
    have e2 : (i : Int) - (j : Int) = ((i - j : Nat) : Int) := by omega
    have hs := ZNG v (m - i) m j cmp (by omega) (by omega) (by omega)
    obtain ⟨s1, _, _⟩ := Zkz (z := (Rw.z : α)) v (m - i) m j cmp (by omega) (by omega)
    obtain ⟨i', j', v', r1, r2, r3⟩ := ZtF l m cmp hl d (i - j) j (ZaD Rw.z v (m - i) m j cmp) N fu (by omega) (by omega) (by omega) (by omega) h1 (by omega) hj (by rw [s1]; exact hv)
    refine ⟨i', j', v', by rw [ZbM]; simp only [hne, hlt', decide_false, decide_true, YK, cond_true]; exact r1, ?_, r3⟩
    have hB : Zex l (m : Int) ((i : Int), (j : Int), v) = some (.nx (((i - j : Nat) : Int), (j : Int), ZaD Rw.z v (m - i) m j cmp)) := by
     dsimp only [Zex, Znb, Zoa, Zop, Znn, Zoc, Zog, Zol, ZnN, br, vz, vs, wi, lc, ln, lf, lxe, fl]
     grind
    rw [Zaa, hB]
    exact r2
   ·have hlt' : ¬ (j : Int) < (i : Int) := by omega
    have e1 : (m : Int) - (i : Int) = ((m - i : Nat) : Int) := by omega
    have e2 : (j : Int) - (i : Int) = ((j - i : Nat) : Int) := by omega
    have e3 : (m : Int) + (j : Int) = ((m + j : Nat) : Int) := by omega
    have e4 : ((m + j : Nat) : Int) - (i : Int) = ((m + j - i : Nat) : Int) := by omega
    have w1 : -9223372036854775808 ≤ ((m - i : Nat) : Int) ∧ ((m - i : Nat) : Int) < 9223372036854775808 := by omega
    have w2 : -9223372036854775808 ≤ ((j - i : Nat) : Int) ∧ ((j - i : Nat) : Int) < 9223372036854775808 := by omega
    have w3 : -9223372036854775808 ≤ ((m + j : Nat) : Int) ∧ ((m + j : Nat) : Int) < 9223372036854775808 := by omega
    have w4 : -9223372036854775808 ≤ ((m + j - i : Nat) : Int) ∧ ((m + j - i : Nat) : Int) < 9223372036854775808 := by omega
    have hs := ZNG v (m - i) (m + j - i) i cmp (by omega) (by omega) (by omega)
    obtain ⟨s1, _, _⟩ := Zkz (z := (Rw.z : α)) v (m - i) (m + j - i) i cmp (by omega) (by omega)
    obtain ⟨i', j', v', r1, r2, r3⟩ := ZtF l m cmp hl d i (j - i) (ZaD Rw.z v (m - i) (m + j - i) i cmp) N fu (by omega) (by omega) (by omega) h0 (by omega) hi (by omega) (by rw [s1]; exact hv)
    refine ⟨i', j', v', by rw [ZbM]; simp only [hne, hlt', decide_false, YK, cond_true, cond_false]; exact r1, ?_, r3⟩
    have hB : Zex l (m : Int) ((i : Int), (j : Int), v) = some (.nx ((i : Int), ((j - i : Nat) : Int), ZaD Rw.z v (m - i) (m + j - i) i cmp)) := by
     dsimp only [Zex, Znb, Zoa, Zop, Znn, Zoc, Zog, Zol, ZnN, br, vz, vs, wi, lc, ln, lf, lxe, fl]
     grind
    rw [Zaa, hB]
    exact r2
theorem ZL0 (l : List α) (a m b : Nat) (cmp : α → α → Int) (hl : l.length ≤ 1048576) (h1 : a < m) (h2 : m < b) (h3 : b ≤ l.length) : ZbH l (a : Int) (m : Int) (b : Int) = some (ZaL Rw.z l a m b cmp) := by
 obtain ⟨i', j', v', r1, r2, r3, r4, r5⟩ := ZtF l m cmp hl ((m - a) + (b - m)) (m - a) (b - m) l big ((m - a) + (b - m) + 1) (Nat.le_refl _) (Zag (by omega)) (by omega) (by omega) (by omega) (by omega) (by omega) rfl
 have e1 : (m : Int) - (a : Int) = ((m - a : Nat) : Int) := by omega
 have e2 : (b : Int) - (m : Int) = ((b - m : Nat) : Int) := by omega
 have e3 : (m : Int) - (i' : Int) = ((m - i' : Nat) : Int) := by omega
 have w1 : -9223372036854775808 ≤ ((m - a : Nat) : Int) ∧ ((m - a : Nat) : Int) < 9223372036854775808 := by omega
 have w2 : -9223372036854775808 ≤ ((b - m : Nat) : Int) ∧ ((b - m : Nat) : Int) < 9223372036854775808 := by omega
 have w3 : -9223372036854775808 ≤ ((m - i' : Nat) : Int) ∧ ((m - i' : Nat) : Int) < 9223372036854775808 := by omega
 have hs := ZNG v' (m - i') m i' cmp (by omega) (by omega) (by omega)
 unfold ZbH ZaL
 rw [r1]
 dsimp only [Zkx, Zuf, Zq1, ZsX, br, vz, vs, wi, lc, ln, lf, lxe, fl, lr]
 grind
end
end Go.Proofs.YthagpbkmakocjaaGreat
namespace Go.Proofs.YthagpbkmakocjaaGreat
set_option linter.all false
open Go Go.Eng
section
variable {α : Type} [Rw α] [Tid α]
theorem ZHO (l : List α) (a b : Nat) (pf : α → α → Option Int) (cmp : α → α → Int) (hp : ∀ x y, pf x y = some (cmp x y)) (v1 : Int) (hl : l.length ≤ 1048576) : ∀ (j : Nat) (v : List α) (N fu : Nat), j < N → j < fu → j < l.length → v.length = l.length →
  ∃ j' v', Zbc (Rw.z : α) a cmp fu j v = .inl (j', v') ∧ Zaa (ZdZ l (a : Int) (b : Int) pf v1) N ((j : Int), v) = some (.inl v') ∧ v'.length = l.length := by
 intro j
 induction j with
 | zero =>
  intro v N fu hN hf hj hv
  obtain ⟨N, rfl⟩ : ∃ m, N = m + 1 := ⟨N - 1, by omega⟩
  obtain ⟨fu, rfl⟩ : ∃ m, fu = m + 1 := ⟨fu - 1, by omega⟩
  have g : ¬ (a : Int) < ((0 : Nat) : Int) := by omega
  refine ⟨0, v, by rw [Zbc]; simp only [g, decide_false, Yah, cond_false], ?_, hv⟩
  have hB : ZdZ l (a : Int) (b : Int) pf v1 (((0 : Nat) : Int), v) = some (.ex v) := by
   dsimp only [ZdZ, Zkn, br, vz, vg, vs, wi, iri, ca, cag, cf, cfg, lc, ln, lf, lxe, fl, st, vwr, lr]
   grind
  rw [Zaa, hB]
 | succ j ih =>
  intro v N fu hN hf hj hv
  obtain ⟨N, rfl⟩ : ∃ m, N = m + 1 := ⟨N - 1, by omega⟩
  obtain ⟨fu, rfl⟩ : ∃ m, fu = m + 1 := ⟨fu - 1, by omega⟩
  by_cases g : (a : Int) < ((j + 1 : Nat) : Int)
  ·have e1 : ((j + 1 : Nat) : Int) - 1 = (j : Int) := by omega
   have w1 : -9223372036854775808 ≤ (j : Int) ∧ (j : Int) < 9223372036854775808 := by omega
   have r1 : (0 : Int) ≤ ((j + 1 : Nat) : Int) ∧ ((j + 1 : Nat) : Int) < (l.length : Int) := by omega
   have r2 : (0 : Int) ≤ (j : Int) ∧ (j : Int) < (l.length : Int) := by omega
   have k1 : j + 1 < v.length := by omega
   have k2 : j < v.length := by omega
   have v1' : v[j + 1]? = some (v.getD (j + 1) Rw.z) := by rw [Yj, Yc k1]; rfl
   have v2' : v[j]? = some (v.getD j Rw.z) := by rw [Yj, Yc k2]; rfl
   have e2 : j + 1 - 1 = j := rfl
   by_cases hc : cmp (v.getD (j + 1) Rw.z) (v.getD j Rw.z) < 0
   ·obtain ⟨j', v', q1, q2, q3⟩ := ih ((v.set (j + 1) (v.getD j Rw.z)).set j (v.getD (j + 1) Rw.z)) N fu (by omega) (by omega) (by omega) (by simp [hv])
    refine ⟨j', v', by rw [Zbc]; simp only [g, e2, hc, decide_true, Yb4, cond_true]; exact q1, ?_, q3⟩
    have hB : ZdZ l (a : Int) (b : Int) pf v1 (((j + 1 : Nat) : Int), v) = some (.nx ((j : Int), (v.set (j + 1) (v.getD j Rw.z)).set j (v.getD (j + 1) Rw.z))) := by
     dsimp only [ZdZ, Zkn, br, vz, vg, vs, wi, iri, ca, cag, cf, cfg, lc, ln, lf, lxe, fl, st, vwr, lr]
     simp only [g, e1, w1, r1, r2, k1, k2, v1', v2', hp, hc, decide_true, forall_const, and_self, Yb4, if_true, Yac, Y1, YJ, Option.bind_some, YaC]
    rw [Zaa, hB]
    exact q2
   ·refine ⟨j + 1, v, by rw [Zbc]; simp only [g, e2, hc, decide_true, decide_false, Ybt, cond_false], ?_, hv⟩
    have hB : ZdZ l (a : Int) (b : Int) pf v1 (((j + 1 : Nat) : Int), v) = some (.ex v) := by
     dsimp only [ZdZ, Zkn, br, vz, vg, vs, wi, iri, ca, cag, cf, cfg, lc, ln, lf, lxe, fl, st, vwr, lr]
     simp only [g, e1, w1, r1, r2, k1, k2, hp, hc, decide_true, decide_false, forall_const, and_self, Ybt, Yf, if_true, if_false, Yac, Y1, YJ]
    rw [Zaa, hB]
  ·refine ⟨j + 1, v, by rw [Zbc]; simp only [g, decide_false, Yah, cond_false], ?_, hv⟩
   have hB : ZdZ l (a : Int) (b : Int) pf v1 (((j + 1 : Nat) : Int), v) = some (.ex v) := by
    dsimp only [ZdZ, Zkn, br, vz, vg, vs, wi, iri, ca, cag, cf, cfg, lc, ln, lf, lxe, fl, st, vwr, lr]
    simp only [g, decide_false, Yf, false_implies, Yah, if_true, if_false]
   rw [Zaa, hB]
theorem Zr5 (l : List α) (a b : Nat) (pf : α → α → Option Int) (cmp : α → α → Int) (hp : ∀ x y, pf x y = some (cmp x y)) (hl : l.length ≤ 1048576) (hb : b ≤ l.length) : ∀ (d i : Nat) (v : List α) (N fu : Nat), b - i ≤ d → d < N → b - i < fu → v.length = l.length →
  ∃ i' v', ZbK (Rw.z : α) a b cmp fu i v = .inl (i', v') ∧ (i < 4611686018427387904 → Zaa (ZfI l (a : Int) (b : Int) pf) N ((i : Int), v) = some (.inl v')) ∧ v'.length = l.length
 | d, i, v, N, fu, hd, hN, hf, hv => by
  obtain ⟨N, rfl⟩ : ∃ m, N = m + 1 := ⟨N - 1, by omega⟩
  obtain ⟨fu, rfl⟩ : ∃ m, fu = m + 1 := ⟨fu - 1, by omega⟩
  by_cases g : i < b
  ·obtain ⟨d, rfl⟩ : ∃ m, d = m + 1 := ⟨d - 1, by omega⟩
   have g' : (i : Int) < (b : Int) := by omega
   obtain ⟨j', w, q1, q2, q3⟩ := ZHO l a b pf cmp hp (i : Int) hl i v big (i + 1) (Zag (by omega)) (by omega) (by omega) hv
   obtain ⟨i', v', r1, r2, r3⟩ := Zr5 l a b pf cmp hp hl hb d (i + 1) w N fu (by omega) (by omega) (by omega) q3
   refine ⟨i', v', by rw [ZbK]; simp only [g', decide_true, cond_true, q1, Sum.elim_inl]; exact r1, fun hi => ?_, r3⟩
   have w1 : -9223372036854775808 ≤ (i : Int) + 1 ∧ (i : Int) + 1 < 9223372036854775808 := by omega
   have hB : ZfI l (a : Int) (b : Int) pf ((i : Int), v) = some (.nx ((i : Int) + 1, w)) := by
    dsimp only [ZfI, Zqy, ZqD, Zsv, br, vz, vg, vs, wi, iri, ca, cag, cf, cfg, lc, ln, lf, lxe, fl, st, vwr, lr]
    grind
   rw [Zaa, hB]
   grind
  ·have g' : ¬ (i : Int) < (b : Int) := by omega
   refine ⟨i, v, by rw [ZbK]; simp only [g', decide_false, cond_false], fun _ => ?_, hv⟩
   have hB : ZfI l (a : Int) (b : Int) pf ((i : Int), v) = some (.ex v) := by
    dsimp only [ZfI, Zqy, ZqD, Zsv, br, vz, vg, vs, wi, iri, ca, cag, cf, cfg, lc, ln, lf, lxe, fl, st, vwr, lr]
    grind
   rw [Zaa, hB]
theorem ZPg (l : List α) (a b : Nat) (pf : α → α → Option Int) (cmp : α → α → Int) (hp : ∀ x y, pf x y = some (cmp x y)) (hl : l.length ≤ 1048576) (ha : a ≤ 1048576) (hb : b ≤ l.length) : Zau l (a : Int) (b : Int) pf = some (Zbn Rw.z l a b cmp) := by
 obtain ⟨i', v', r1, r2, r3⟩ := Zr5 l a b pf cmp hp hl hb (b - (a + 1)) (a + 1) l big (b - (a + 1) + 1) (Nat.le_refl _) (Zag (by omega)) (by omega) rfl
 have w1 : -9223372036854775808 ≤ (a : Int) + 1 ∧ (a : Int) + 1 < 9223372036854775808 := by omega
 have r4 := r2 (by omega)
 rw [show ((a + 1 : Nat) : Int) = (a : Int) + 1 from by omega] at r4
 unfold Zau Zbn
 rw [r1]
 dsimp only [ZkS, Zyq, br, vz, vg, vs, wi, iri, ca, cag, cf, cfg, lc, ln, lf, lxe, fl, st, vwr, lr]
 grind
end
section
variable {α : Type} [Rw α] [Tid α]
theorem Zki (l : List α) (a b : Nat) (cmp : α → α → Int) (hl : l.length ≤ 1048576) (hb : b ≤ l.length) : (Zbn (Rw.z : α) l a b cmp).length = l.length := by
 obtain ⟨i', v', r1, _, r3⟩ := Zr5 l a b (fun x y => some (cmp x y)) cmp (fun _ _ => rfl) hl hb (b - (a + 1)) (a + 1) l (b - (a + 1) + 1) (b - (a + 1) + 1) (Nat.le_refl _) (by omega) (by omega) rfl
 unfold Zbn
 grind
def ZLU (pf : α → α → Option Int) (cmp : α → α → Int) : Prop := ∀ (fu : Nat) (l : List α) (a m b : Nat), l.length ≤ 1048576 → b - a < fu → a < m → m < b → b ≤ l.length → Zam fu l (a : Int) (m : Int) (b : Int) pf = some (Zae Rw.z fu l a m b cmp) ∧ (Zae (Rw.z : α) fu l a m b cmp).length = l.length
section
variable {pf : α → α → Option Int} {cmp : α → α → Int}
theorem ZK6 (hp : ∀ x y, pf x y = some (cmp x y)) (l : List α) (hl : l.length ≤ 1048576) : ∀ (d x y : Nat) (v : List α) (N fu : Nat), l.length + 1 - y ≤ d → d < N → l.length + 1 - y < fu → x ≤ l.length → v.length = l.length →
  ∃ x' y' v', ZcD (Rw.z : α) l.length cmp fu x y v = .inl (x', y', v') ∧ Zaa (ZiV l (l.length : Int) pf) N (x, y, v) = some (.inl (x', v')) ∧ v'.length = l.length ∧ x' ≤ l.length
 | d, x, y, v, N, fu, hd, hN, hf, hx, hv => by
  obtain ⟨N, rfl⟩ : ∃ m, N = m + 1 := ⟨N - 1, by omega⟩
  obtain ⟨fu, rfl⟩ : ∃ m, fu = m + 1 := ⟨fu - 1, by omega⟩
  by_cases g : y ≤ l.length
  ·obtain ⟨d, rfl⟩ : ∃ m, d = m + 1 := ⟨d - 1, by omega⟩
   have g' : (y : Int) ≤ (l.length : Int) := by omega
   have hs := ZPg v x y pf cmp hp (by omega) (by omega) (by omega)
   have hlen := Zki v x y cmp (by omega) (by omega)
   obtain ⟨x', y', v', q1, q2, q3⟩ := ZK6 hp l hl d y (y + 20) (Zbn Rw.z v x y cmp) N fu (by omega) (by omega) (by omega) g (by omega)
   refine ⟨x', y', v', by rw [ZcD, decide_eq_true g', cond_true]; exact q1, ?_, q3⟩
   have w1 : y + 20 < 9223372036854775808 := by omega
   have hB : ZiV l (l.length : Int) pf (x, y, v) = some (.nx (y, y + 20, Zbn Rw.z v x y cmp)) := by
    dsimp only [ZiV, ZAj, ZEU, ZC0, ZBt, br, vz, vs, wa, wm, wi, lc, ln, lf, lxe, fl, lr, eqN]
    grind
   rw [Zaa, hB]
   exact q2
  ·have g' : ¬ (y : Int) ≤ (l.length : Int) := by omega
   refine ⟨x, y, v, by rw [ZcD, decide_eq_false g', cond_false], ?_, hv, hx⟩
   have hB : ZiV l (l.length : Int) pf (x, y, v) = some (.ex (x, v)) := by
    dsimp only [ZiV, ZAj, ZEU, ZC0, ZBt, br, vz, vs, wa, wm, wi, lc, ln, lf, lxe, fl, lr, eqN]
    grind
   rw [Zaa, hB]
theorem ZHN (hM : ZLU pf cmp) (l : List α) (hl : l.length ≤ 1048576) (s : Nat) (hs0 : 0 < s) (hs1 : s ≤ l.length) : ∀ (d x y : Nat) (v : List α) (N fu : Nat), l.length + 1 - y ≤ d → d < N → l.length + 1 - y < fu → x ≤ l.length → y = x + 2 * s → v.length = l.length →
  ∃ x' y' v', ZcG (Rw.z : α) l.length cmp s fu x y v = .inl (x', y', v') ∧ Zaa (Zi1 l (l.length : Int) pf s) N (x, y, v) = some (.inl (x', v')) ∧ v'.length = l.length ∧ x' ≤ l.length
 | d, x, y, v, N, fu, hd, hN, hf, hx, hy, hv => by
  obtain ⟨N, rfl⟩ : ∃ m, N = m + 1 := ⟨N - 1, by omega⟩
  obtain ⟨fu, rfl⟩ : ∃ m, fu = m + 1 := ⟨fu - 1, by omega⟩
  by_cases g : y ≤ l.length
  ·obtain ⟨d, rfl⟩ : ∃ m, d = m + 1 := ⟨d - 1, by omega⟩
   have g' : (y : Int) ≤ (l.length : Int) := by omega
   obtain ⟨hs, hlen⟩ := hM (y - x + 1) v x (x + s) y (by omega) (by omega) (by omega) (by omega) (by omega)
   obtain ⟨x', y', v', q1, q2, q3⟩ := ZHN hM l hl s hs0 hs1 d y (y + 2 * s) (Zae Rw.z (y - x + 1) v x (x + s) y cmp) N fu (by omega) (by omega) (by omega) g rfl (by omega)
   refine ⟨x', y', v', by rw [ZcG, decide_eq_true g', cond_true]; exact q1, ?_, q3⟩
   have w1 : y + 2 * s < 9223372036854775808 := by omega
   have w2 : 2 * s < 9223372036854775808 := by omega
   have w3 : x + s < 9223372036854775808 := by omega
   have e1 : ((y : Int) - (x : Int) + 1).toNat = y - x + 1 := by omega
   have hB : Zi1 l (l.length : Int) pf s (x, y, v) = some (.nx (y, y + 2 * s, Zae Rw.z (y - x + 1) v x (x + s) y cmp)) := by
    dsimp only [Zi1, ZCO, ZDP, ZB7, ZE2, br, vz, vs, wa, wm, wi, lc, ln, lf, lxe, fl, lr, eqN]
    grind
   rw [Zaa, hB]
   exact q2
  ·have g' : ¬ (y : Int) ≤ (l.length : Int) := by omega
   refine ⟨x, y, v, by rw [ZcG, decide_eq_false g', cond_false], ?_, hv, hx⟩
   have hB : Zi1 l (l.length : Int) pf s (x, y, v) = some (.ex (x, v)) := by
    dsimp only [Zi1, ZCO, ZDP, ZB7, ZE2, br, vz, vs, wa, wm, wi, lc, ln, lf, lxe, fl, lr, eqN]
    grind
   rw [Zaa, hB]
theorem ZCT (hM : ZLU pf cmp) (l : List α) (hl : l.length ≤ 1048576) : ∀ (d s : Nat) (v : List α) (N fu : Nat), 0 < s → l.length - s ≤ d → d < N → l.length - s < fu → v.length = l.length →
  ∃ s' v', ZbR (Rw.z : α) l.length cmp fu s v = .inl (s', v') ∧ Zaa (Zhs l (l.length : Int) pf) N (s, v) = some (.inl v') ∧ v'.length = l.length
 | d, s, v, N, fu, hs0, hd, hN, hf, hv => by
  obtain ⟨N, rfl⟩ : ∃ m, N = m + 1 := ⟨N - 1, by omega⟩
  obtain ⟨fu, rfl⟩ : ∃ m, fu = m + 1 := ⟨fu - 1, by omega⟩
  by_cases g : s < l.length
  ·obtain ⟨d, rfl⟩ : ∃ m, d = m + 1 := ⟨d - 1, by omega⟩
   have g' : (s : Int) < (l.length : Int) := by omega
   obtain ⟨x, y, w, p1, p2, p3, p4⟩ := ZHN hM l hl s hs0 (by omega) (l.length + 1 - 2 * s) 0 (2 * s) v big (l.length + 1 - 2 * s + 1) (Nat.le_refl _) (Zag (by omega)) (by omega) (by omega) (by omega) hv
   have w1 : s * 2 < 9223372036854775808 := by omega
   have w2 : 2 * s < 9223372036854775808 := by omega
   have w3 : x + s < 9223372036854775808 := by omega
   by_cases hc : x + s < l.length
   ·have hc' : ((x + s : Nat) : Int) < (l.length : Int) := by omega
    obtain ⟨hs, hlen⟩ := hM (l.length - x + 1) w x (x + s) l.length (by omega) (by omega) (by omega) hc (by omega)
    obtain ⟨s', v', q1, q2, q3⟩ := ZCT hM l hl d (s * 2) (Zae Rw.z (l.length - x + 1) w x (x + s) l.length cmp) N fu (by omega) (by omega) (by omega) (by omega) (by omega)
    refine ⟨s', v', by rw [ZbR, decide_eq_true g', cond_true, p1]; simp only [Sum.elim_inl, decide_eq_true hc', cond_true]; exact q1, ?_, q3⟩
    have e1 : ((l.length : Int) - (x : Int) + 1).toNat = l.length - x + 1 := by omega
    have hB : Zhs l (l.length : Int) pf (s, v) = some (.nx (s * 2, Zae Rw.z (l.length - x + 1) w x (x + s) l.length cmp)) := by
     dsimp only [Zhs, ZwL, ZoI, ZnB, ZnE, Zm7, Zox, ZoK, Znr, br, vz, vs, wa, wm, wi, lc, ln, lf, lxe, fl, lr, eqN]
     grind
    rw [Zaa, hB]
    exact q2
   ·have hc' : ¬ ((x + s : Nat) : Int) < (l.length : Int) := by omega
    obtain ⟨s', v', q1, q2, q3⟩ := ZCT hM l hl d (s * 2) w N fu (by omega) (by omega) (by omega) (by omega) p3
    refine ⟨s', v', by rw [ZbR, decide_eq_true g', cond_true, p1]; simp only [Sum.elim_inl, decide_eq_false hc', cond_false]; exact q1, ?_, q3⟩
    have hB : Zhs l (l.length : Int) pf (s, v) = some (.nx (s * 2, w)) := by
     dsimp only [Zhs, ZwL, ZoI, ZnB, ZnE, Zm7, Zox, ZoK, Znr, br, vz, vs, wa, wm, wi, lc, ln, lf, lxe, fl, lr, eqN]
     grind
    rw [Zaa, hB]
    exact q2
  ·have g' : ¬ (s : Int) < (l.length : Int) := by omega
   refine ⟨s, v, by rw [ZbR, decide_eq_false g', cond_false], ?_, hv⟩
   have hB : Zhs l (l.length : Int) pf (s, v) = some (.ex v) := by
    dsimp only [Zhs, ZwL, ZoI, ZnB, ZnE, Zm7, Zox, ZoK, Znr, br, vz, vs, wa, wm, wi, lc, ln, lf, lxe, fl, lr, eqN]
    grind
   rw [Zaa, hB]
theorem m59 (hM : ZLU pf cmp) (hp : ∀ x y, pf x y = some (cmp x y)) (l : List α) (hl : l.length ≤ 1048576) : ZaP l pf = some (Zcf Rw.z l cmp) := by
 obtain ⟨x, y, w, p1, p2, p3, p4⟩ := ZK6 hp l hl (l.length + 1 - 20) 0 20 l big (l.length + 1 - 20 + 1) (Nat.le_refl _) (Zag (by omega)) (by omega) (by omega) rfl
 have hs := ZPg w x l.length pf cmp hp (by omega) (by omega) (by omega)
 have hlen := Zki w x l.length cmp (by omega) (by omega)
 obtain ⟨s', v', q1, q2, q3⟩ := ZCT hM l hl (l.length - 20) 20 (Zbn Rw.z w x l.length cmp) big (l.length - 20 + 1) (by omega) (Nat.le_refl _) (Zag (by omega)) (by omega) (by omega)
 unfold ZaP Zcf Ziw
 rw [p1]
 dsimp only [Zcj, Zuo, ZLk, ZLq, Zle, Zzu, Zzo, Zz3, br, vz, vs, wa, wm, wi, lc, ln, lf, lxe, fl, lr, eqN]
 grind
end
end
theorem ZNB {n : Nat} (h : n < 9223372036854775808) : IntKind.u64.wrap (n : Int) = (n : Int) := by
 simp only [IntKind.wrap, IntKind.bits, IntKind.signed]
 simp
 omega
theorem ZL3 {n : Nat} (h : n < 9223372036854775808) : IntKind.i64.wrap (n : Int) = (n : Int) := by
 simp only [IntKind.wrap, IntKind.bits, IntKind.signed]
 simp
 omega
theorem ZyY {x y : Nat} (h : x + y < 9223372036854775808) : IntKind.i64.wrap (Zbx .u64 (IntKind.u64.wrap ((x : Int) + (y : Int))) 1) = (((x + y) / 2 : Nat) : Int) := by
 rw [show (x : Int) + (y : Int) = ((x + y : Nat) : Int) from by omega, ZNB h]
 have : Zbx .u64 ((x + y : Nat) : Int) 1 = (((x + y) / 2 : Nat) : Int) := by
  unfold Zbx
  have e : (2 : Int) ^ (min (1 : Int).toNat IntKind.u64.bits) = 2 := by decide
  rw [e, Int.fdiv_eq_ediv_of_nonneg _ (by decide)]
  omega
 rw [this]
 exact ZL3 (by omega)
section
variable {α : Type} [Rw α] [Tid α]
theorem Ztg (l : List α) (a : Nat) (pf : α → α → Option Int) (cmp : α → α → Int) (hp : ∀ x y, pf x y = some (cmp x y)) (hl : l.length ≤ 1048576) (ha : a < l.length) : ∀ (d i j N fu : Nat), j - i ≤ d → d < N → j - i < fu → i ≤ j → j ≤ l.length →
  ∃ i' j', ZaX (Rw.z : α) l a cmp fu i j = .inl (i', j') ∧ Zaa (ZeH l (a : Int) pf) N ((i : Int), (j : Int)) = some (.inl (i' : Int)) ∧ i ≤ i' ∧ i' ≤ j
 | d, i, j, N, fu, hd, hN, hf, hij, hj => by
  obtain ⟨N, rfl⟩ : ∃ m, N = m + 1 := ⟨N - 1, by omega⟩
  obtain ⟨fu, rfl⟩ : ∃ m, fu = m + 1 := ⟨fu - 1, by omega⟩
  by_cases g : i < j
  ·obtain ⟨d, rfl⟩ : ∃ m, d = m + 1 := ⟨d - 1, by omega⟩
   have g' : (i : Int) < (j : Int) := by omega
   have hh1 : i ≤ (i + j) / 2 := by omega
   have hh2 : (i + j) / 2 < j := by omega
   have mid := ZyY (x := i) (y := j) (by omega)
   have w1 : -9223372036854775808 ≤ (i : Int) + (j : Int) ∧ (i : Int) + (j : Int) < 9223372036854775808 := by omega
   have hone : (0 : Int) ≤ 1 := by decide
   by_cases hc : cmp (l.getD ((i + j) / 2) Rw.z) (l.getD a Rw.z) < 0
   ·obtain ⟨i', j', q1, q2, q3, q4⟩ := Ztg l a pf cmp hp hl ha d ((i + j) / 2 + 1) j N fu (by omega) (by omega) (by omega) (by omega) (by omega)
    refine ⟨i', j', by rw [ZaX, decide_eq_true g', cond_true, decide_eq_true hc]; exact q1, ?_, by omega, by omega⟩
    have hB : ZeH l (a : Int) pf ((i : Int), (j : Int)) = some (.nx (((((i + j) / 2 : Nat) : Int) + 1), (j : Int))) := by
     dsimp only [ZeH, Zj8, br, vz, vg, vs, v2, wi, wk, shr, iri, ca, cag, cf, cfg, lc, ln, lf, lxe, fl, st, vwr, lr]
     grind
    rw [Zaa, hB]
    exact q2
   ·obtain ⟨i', j', q1, q2, q3, q4⟩ := Ztg l a pf cmp hp hl ha d i ((i + j) / 2) N fu (by omega) (by omega) (by omega) (by omega) (by omega)
    refine ⟨i', j', by rw [ZaX, decide_eq_true g', cond_true, decide_eq_false hc]; exact q1, ?_, by omega, by omega⟩
    have hB : ZeH l (a : Int) pf ((i : Int), (j : Int)) = some (.nx ((i : Int), (((i + j) / 2 : Nat) : Int))) := by
     dsimp only [ZeH, Zj8, br, vz, vg, vs, v2, wi, wk, shr, iri, ca, cag, cf, cfg, lc, ln, lf, lxe, fl, st, vwr, lr]
     grind
    rw [Zaa, hB]
    exact q2
  ·have g' : ¬ (i : Int) < (j : Int) := by omega
   refine ⟨i, j, by rw [ZaX, decide_eq_false g', cond_false], ?_, Nat.le_refl _, hij⟩
   have hB : ZeH l (a : Int) pf ((i : Int), (j : Int)) = some (.ex (i : Int)) := by
    dsimp only [ZeH, Zj8, br, vz, vg, vs, v2, wi, wk, shr, iri, ca, cag, cf, cfg, lc, ln, lf, lxe, fl, st, vwr, lr]
    grind
   rw [Zaa, hB]
theorem Zt3 (l : List α) (a : Nat) (pf : α → α → Option Int) (cmp : α → α → Int) (hp : ∀ x y, pf x y = some (cmp x y)) (hl : l.length ≤ 1048576) (ha : a < l.length) : ∀ (d i j N fu : Nat), j - i ≤ d → d < N → j - i < fu → i ≤ j → j ≤ l.length →
  ∃ i' j', ZaV (Rw.z : α) l a cmp fu i j = .inl (i', j') ∧ Zaa (Zes l (a : Int) pf) N ((i : Int), (j : Int)) = some (.inl (i' : Int)) ∧ i ≤ i' ∧ i' ≤ j
 | d, i, j, N, fu, hd, hN, hf, hij, hj => by
  obtain ⟨N, rfl⟩ : ∃ m, N = m + 1 := ⟨N - 1, by omega⟩
  obtain ⟨fu, rfl⟩ : ∃ m, fu = m + 1 := ⟨fu - 1, by omega⟩
  by_cases g : i < j
  ·obtain ⟨d, rfl⟩ : ∃ m, d = m + 1 := ⟨d - 1, by omega⟩
   have g' : (i : Int) < (j : Int) := by omega
   have hh1 : i ≤ (i + j) / 2 := by omega
   have hh2 : (i + j) / 2 < j := by omega
   have mid := ZyY (x := i) (y := j) (by omega)
   have w1 : -9223372036854775808 ≤ (i : Int) + (j : Int) ∧ (i : Int) + (j : Int) < 9223372036854775808 := by omega
   have hone : (0 : Int) ≤ 1 := by decide
   by_cases hc : cmp (l.getD a Rw.z) (l.getD ((i + j) / 2) Rw.z) < 0
   ·obtain ⟨i', j', q1, q2, q3, q4⟩ := Zt3 l a pf cmp hp hl ha d i ((i + j) / 2) N fu (by omega) (by omega) (by omega) (by omega) (by omega)
    refine ⟨i', j', by rw [ZaV, decide_eq_true g', cond_true, decide_eq_true hc]; exact q1, ?_, by omega, by omega⟩
    have hB : Zes l (a : Int) pf ((i : Int), (j : Int)) = some (.nx ((i : Int), (((i + j) / 2 : Nat) : Int))) := by
     dsimp only [Zes, Zkj, br, vz, vg, vs, v2, wi, wk, shr, iri, ca, cag, cf, cfg, lc, ln, lf, lxe, fl, st, vwr, lr]
     grind
    rw [Zaa, hB]
    exact q2
   ·obtain ⟨i', j', q1, q2, q3, q4⟩ := Zt3 l a pf cmp hp hl ha d ((i + j) / 2 + 1) j N fu (by omega) (by omega) (by omega) (by omega) (by omega)
    refine ⟨i', j', by rw [ZaV, decide_eq_true g', cond_true, decide_eq_false hc]; exact q1, ?_, by omega, by omega⟩
    have hB : Zes l (a : Int) pf ((i : Int), (j : Int)) = some (.nx (((((i + j) / 2 : Nat) : Int) + 1), (j : Int))) := by
     dsimp only [Zes, Zkj, br, vz, vg, vs, v2, wi, wk, shr, iri, ca, cag, cf, cfg, lc, ln, lf, lxe, fl, st, vwr, lr]
     grind
    rw [Zaa, hB]
    exact q2
  ·have g' : ¬ (i : Int) < (j : Int) := by omega
   refine ⟨i, j, by rw [ZaV, decide_eq_false g', cond_false], ?_, Nat.le_refl _, hij⟩
   have hB : Zes l (a : Int) pf ((i : Int), (j : Int)) = some (.ex (i : Int)) := by
    dsimp only [Zes, Zkj, br, vz, vg, vs, v2, wi, wk, shr, iri, ca, cag, cf, cfg, lc, ln, lf, lxe, fl, st, vwr, lr]
    grind
   rw [Zaa, hB]
end
section
variable {α : Type} [Rw α] [Tid α]
theorem Zx7 (l : List α) (pf : α → α → Option Int) (a0 : Nat × Nat) (hl : l.length ≤ 1048576) (h0 : 1 ≤ a0.1) (h1 : a0.1 ≤ l.length) : ∀ (d i : Nat) (v : List α) (N fu : Nat), a0.1 - 1 - i ≤ d → d < N → a0.1 - 1 - i < fu → v.length = l.length → i ≤ l.length →
  ∃ i' v', Zbr (Rw.z : α) a0 fu i v = .inl (i', v') ∧ Zaa (ZfM l (a0.1 : Int)) N ((i : Int), v) = some (.inl v') ∧ v'.length = l.length
 | d, i, v, N, fu, hd, hN, hf, hv, hi => by
  obtain ⟨N, rfl⟩ : ∃ m, N = m + 1 := ⟨N - 1, by omega⟩
  obtain ⟨fu, rfl⟩ : ∃ m, fu = m + 1 := ⟨fu - 1, by omega⟩
  have ee : (a0.1 : Int) - 1 = ((a0.1 - 1 : Nat) : Int) := by omega
  have ww : -9223372036854775808 ≤ ((a0.1 - 1 : Nat) : Int) ∧ ((a0.1 - 1 : Nat) : Int) < 9223372036854775808 := by omega
  by_cases g : i < a0.1 - 1
  ·obtain ⟨d, rfl⟩ : ∃ m, d = m + 1 := ⟨d - 1, by omega⟩
   have g' : (i : Int) < ((a0.1 - 1 : Nat) : Int) := by omega
   obtain ⟨i', v', q1, q2, q3⟩ := Zx7 l pf a0 hl h0 h1 d (i + 1) ((v.set i (v.getD (i + 1) Rw.z)).set (i + 1) (v.getD i Rw.z)) N fu (by omega) (by omega) (by omega) (by simp [hv]) (by omega)
   refine ⟨i', v', by rw [Zbr, decide_eq_true g', cond_true]; exact q1, ?_, q3⟩
   have e1 : (i : Int) + 1 = ((i + 1 : Nat) : Int) := by omega
   have w1 : -9223372036854775808 ≤ ((i + 1 : Nat) : Int) ∧ ((i + 1 : Nat) : Int) < 9223372036854775808 := by omega
   have r1 : (0 : Int) ≤ (i : Int) ∧ (i : Int) < (l.length : Int) := by omega
   have r2 : (0 : Int) ≤ ((i + 1 : Nat) : Int) ∧ ((i + 1 : Nat) : Int) < (l.length : Int) := by omega
   have j1 : i < v.length := by omega
   have j2 : i + 1 < v.length := by omega
   have v1 : v[i]? = some (v.getD i Rw.z) := by rw [Yj, Yc j1]; rfl
   have v2 : v[i + 1]? = some (v.getD (i + 1) Rw.z) := by rw [Yj, Yc j2]; rfl
   have hB : ZfM l (a0.1 : Int) ((i : Int), v) = some (.nx (((i + 1 : Nat) : Int), (v.set i (v.getD (i + 1) Rw.z)).set (i + 1) (v.getD i Rw.z))) := by
    dsimp only [ZfM, ZoD, br, vz, vg, vs, v2, wi, wk, shr, iri, ca, cag, cf, cfg, lc, ln, lf, lxe, fl, st, vwr, lr]
    grind
   rw [Zaa, hB]
   exact q2
  ·have g' : ¬ (i : Int) < ((a0.1 - 1 : Nat) : Int) := by omega
   refine ⟨i, v, by rw [Zbr, decide_eq_false g', cond_false], ?_, hv⟩
   have hB : ZfM l (a0.1 : Int) ((i : Int), v) = some (.ex v) := by
    dsimp only [ZfM, ZoD, br, vz, vg, vs, v2, wi, wk, shr, iri, ca, cag, cf, cfg, lc, ln, lf, lxe, fl, st, vwr, lr]
    grind
   rw [Zaa, hB]
theorem ZJ5 (l : List α) (pf : α → α → Option Int) (a2 : Nat × Nat) (hl : l.length ≤ 1048576) : ∀ (i : Nat) (v : List α) (N fu : Nat), i < N → i < fu → v.length = l.length → i < l.length →
  ∃ i' v', Zba (Rw.z : α) a2 fu i v = .inl (i', v') ∧ Zaa (Zez l (a2.1 : Int)) N ((i : Int), v) = some (.inl v') ∧ v'.length = l.length := by
 intro i
 induction i with
 | zero =>
  intro v N fu hN hf hv hi
  obtain ⟨N, rfl⟩ : ∃ m, N = m + 1 := ⟨N - 1, by omega⟩
  obtain ⟨fu, rfl⟩ : ∃ m, fu = m + 1 := ⟨fu - 1, by omega⟩
  have g' : ¬ (a2.1 : Int) < ((0 : Nat) : Int) := by omega
  refine ⟨0, v, by rw [Zba, decide_eq_false g', cond_false], ?_, hv⟩
  have hB : Zez l (a2.1 : Int) (((0 : Nat) : Int), v) = some (.ex v) := by
   dsimp only [Zez, ZkY, br, vz, vg, vs, v2, wi, wk, shr, iri, ca, cag, cf, cfg, lc, ln, lf, lxe, fl, st, vwr, lr]
   grind
  rw [Zaa, hB]
 | succ i ih =>
  intro v N fu hN hf hv hi
  obtain ⟨N, rfl⟩ : ∃ m, N = m + 1 := ⟨N - 1, by omega⟩
  obtain ⟨fu, rfl⟩ : ∃ m, fu = m + 1 := ⟨fu - 1, by omega⟩
  by_cases g' : (a2.1 : Int) < ((i + 1 : Nat) : Int)
  ·obtain ⟨i', v', q1, q2, q3⟩ := ih ((v.set (i + 1) (v.getD i Rw.z)).set i (v.getD (i + 1) Rw.z)) N fu (by omega) (by omega) (by simp [hv]) (by omega)
   refine ⟨i', v', by rw [Zba, decide_eq_true g', cond_true]; exact q1, ?_, q3⟩
   have e1 : ((i + 1 : Nat) : Int) - 1 = (i : Int) := by omega
   have w1 : -9223372036854775808 ≤ (i : Int) ∧ (i : Int) < 9223372036854775808 := by omega
   have r1 : (0 : Int) ≤ (i : Int) ∧ (i : Int) < (l.length : Int) := by omega
   have r2 : (0 : Int) ≤ ((i + 1 : Nat) : Int) ∧ ((i + 1 : Nat) : Int) < (l.length : Int) := by omega
   have j1 : i < v.length := by omega
   have j2 : i + 1 < v.length := by omega
   have v1 : v[i]? = some (v.getD i Rw.z) := by rw [Yj, Yc j1]; rfl
   have v2 : v[i + 1]? = some (v.getD (i + 1) Rw.z) := by rw [Yj, Yc j2]; rfl
   have hB : Zez l (a2.1 : Int) (((i + 1 : Nat) : Int), v) = some (.nx ((i : Int), (v.set (i + 1) (v.getD i Rw.z)).set i (v.getD (i + 1) Rw.z))) := by
    dsimp only [Zez, ZkY, br, vz, vg, vs, v2, wi, wk, shr, iri, ca, cag, cf, cfg, lc, ln, lf, lxe, fl, st, vwr, lr]
    simp only [g', e1, w1, r1, r2, j1, j2, v1, v2, decide_true, if_true, and_self, Yac, Option.bind_some, YaC]
   rw [Zaa, hB]
   exact q2
  ·refine ⟨i + 1, v, by rw [Zba, decide_eq_false g', cond_false], ?_, hv⟩
   have hB : Zez l (a2.1 : Int) (((i + 1 : Nat) : Int), v) = some (.ex v) := by
    dsimp only [Zez, ZkY, br, vz, vg, vs, v2, wi, wk, shr, iri, ca, cag, cf, cfg, lc, ln, lf, lxe, fl, st, vwr, lr]
    simp only [g', decide_false, Yf, if_false]
   rw [Zaa, hB]
end
section
variable {α : Type} [Rw α] [Tid α]
theorem Zmq (l : List α) (a m b : Nat) (pf : α → α → Option Int) (cmp : α → α → Int) (hp : ∀ x y, pf x y = some (cmp x y)) (hl : l.length ≤ 1048576) (h1 : a < m) (h2 : m < b) (h3 : b ≤ l.length) : ∀ (d i j N fu : Nat), j - i ≤ d → d < N → j - i < fu → i ≤ j → j ≤ (a + b) / 2 + m ∧ j ≤ l.length → (a + b) / 2 + m ≤ l.length + i →
  ∃ i' j', Zbb (Rw.z : α) l a m b cmp fu i j = .inl (i', j') ∧ Zaa (ZcV l (a : Int) (m : Int) (b : Int) pf) N ((i : Int), (j : Int)) = some (.inl (i' : Int)) ∧ i ≤ i' ∧ i' ≤ j
 | d, i, j, N, fu, hd, hN, hf, hij, hj, hi => by
  obtain ⟨N, rfl⟩ : ∃ m, N = m + 1 := ⟨N - 1, by omega⟩
  obtain ⟨fu, rfl⟩ : ∃ m, fu = m + 1 := ⟨fu - 1, by omega⟩
  by_cases g : i < j
  ·obtain ⟨d, rfl⟩ : ∃ m, d = m + 1 := ⟨d - 1, by omega⟩
   have g' : (i : Int) < (j : Int) := by omega
   have hh1 : i ≤ (i + j) / 2 := by omega
   have hh2 : (i + j) / 2 < j := by omega
   have mid := ZyY (x := i) (y := j) (by omega)
   have mab := ZyY (x := a) (y := b) (by omega)
   have e0 : (((a + b) / 2 : Nat) : Int) + (m : Int) - 1 = (((a + b) / 2 + m - 1 : Nat) : Int) := by omega
   have w1 : -9223372036854775808 ≤ (i : Int) + (j : Int) ∧ (i : Int) + (j : Int) < 9223372036854775808 := by omega
   have hone : (0 : Int) ≤ 1 := by decide
   by_cases hc : cmp (l.getD ((a + b) / 2 + m - 1 - (i + j) / 2) Rw.z) (l.getD ((i + j) / 2) Rw.z) < 0
   ·obtain ⟨i', j', q1, q2, q3, q4⟩ := Zmq l a m b pf cmp hp hl h1 h2 h3 d i ((i + j) / 2) N fu (by omega) (by omega) (by omega) (by omega) (by omega) (by omega)
    refine ⟨i', j', by rw [Zbb, decide_eq_true g', cond_true, decide_eq_true hc]; exact q1, ?_, by omega, by omega⟩
    have hB : ZcV l (a : Int) (m : Int) (b : Int) pf ((i : Int), (j : Int)) = some (.nx ((i : Int), (((i + j) / 2 : Nat) : Int))) := by
     dsimp only [ZcV, Zah, Zey, br, vz, vg, vs, v2, wi, wk, shr, iri, ca, cag, cf, cfg, lc, ln, lf, lxe, fl, st, vwr, lr]
     rw [mid, mab, e0]
     grind
    rw [Zaa, hB]
    exact q2
   ·obtain ⟨i', j', q1, q2, q3, q4⟩ := Zmq l a m b pf cmp hp hl h1 h2 h3 d ((i + j) / 2 + 1) j N fu (by omega) (by omega) (by omega) (by omega) (by omega) (by omega)
    refine ⟨i', j', by rw [Zbb, decide_eq_true g', cond_true, decide_eq_false hc]; exact q1, ?_, by omega, by omega⟩
    have hB : ZcV l (a : Int) (m : Int) (b : Int) pf ((i : Int), (j : Int)) = some (.nx (((((i + j) / 2 : Nat) : Int) + 1), (j : Int))) := by
     dsimp only [ZcV, Zah, Zey, br, vz, vg, vs, v2, wi, wk, shr, iri, ca, cag, cf, cfg, lc, ln, lf, lxe, fl, st, vwr, lr]
     rw [mid, mab, e0]
     grind
    rw [Zaa, hB]
    exact q2
  ·have g' : ¬ (i : Int) < (j : Int) := by omega
   refine ⟨i, j, by rw [Zbb, decide_eq_false g', cond_false], ?_, Nat.le_refl _, hij⟩
   have hB : ZcV l (a : Int) (m : Int) (b : Int) pf ((i : Int), (j : Int)) = some (.ex (i : Int)) := by
    dsimp only [ZcV, Zah, Zey, br, vz, vg, vs, v2, wi, wk, shr, iri, ca, cag, cf, cfg, lc, ln, lf, lxe, fl, st, vwr, lr]
    grind
   rw [Zaa, hB]
theorem ZlD (l : List α) (a m b : Nat) (pf : α → α → Option Int) (cmp : α → α → Int) (hp : ∀ x y, pf x y = some (cmp x y)) (hl : l.length ≤ 1048576) (h1 : a < m) (h2 : m < b) (h3 : b ≤ l.length) : ∀ (d i j N fu : Nat), j - i ≤ d → d < N → j - i < fu → i ≤ j → j ≤ (a + b) / 2 + m ∧ j ≤ l.length → (a + b) / 2 + m ≤ l.length + i →
  ∃ i' j', Za9 (Rw.z : α) l a m b cmp fu i j = .inl (i', j') ∧ Zaa (ZcV l (a : Int) (m : Int) (b : Int) pf) N ((i : Int), (j : Int)) = some (.inl (i' : Int)) ∧ i ≤ i' ∧ i' ≤ j
 | d, i, j, N, fu, hd, hN, hf, hij, hj, hi => by
  obtain ⟨N, rfl⟩ : ∃ m, N = m + 1 := ⟨N - 1, by omega⟩
  obtain ⟨fu, rfl⟩ : ∃ m, fu = m + 1 := ⟨fu - 1, by omega⟩
  by_cases g : i < j
  ·obtain ⟨d, rfl⟩ : ∃ m, d = m + 1 := ⟨d - 1, by omega⟩
   have g' : (i : Int) < (j : Int) := by omega
   have hh1 : i ≤ (i + j) / 2 := by omega
   have hh2 : (i + j) / 2 < j := by omega
   have mid := ZyY (x := i) (y := j) (by omega)
   have mab := ZyY (x := a) (y := b) (by omega)
   have e0 : (((a + b) / 2 : Nat) : Int) + (m : Int) - 1 = (((a + b) / 2 + m - 1 : Nat) : Int) := by omega
   have w1 : -9223372036854775808 ≤ (i : Int) + (j : Int) ∧ (i : Int) + (j : Int) < 9223372036854775808 := by omega
   have hone : (0 : Int) ≤ 1 := by decide
   by_cases hc : cmp (l.getD ((a + b) / 2 + m - 1 - (i + j) / 2) Rw.z) (l.getD ((i + j) / 2) Rw.z) < 0
   ·obtain ⟨i', j', q1, q2, q3, q4⟩ := ZlD l a m b pf cmp hp hl h1 h2 h3 d i ((i + j) / 2) N fu (by omega) (by omega) (by omega) (by omega) (by omega) (by omega)
    refine ⟨i', j', by rw [Za9, decide_eq_true g', cond_true, decide_eq_true hc]; exact q1, ?_, by omega, by omega⟩
    have hB : ZcV l (a : Int) (m : Int) (b : Int) pf ((i : Int), (j : Int)) = some (.nx ((i : Int), (((i + j) / 2 : Nat) : Int))) := by
     dsimp only [ZcV, Zah, Zey, br, vz, vg, vs, v2, wi, wk, shr, iri, ca, cag, cf, cfg, lc, ln, lf, lxe, fl, st, vwr, lr]
     rw [mid, mab, e0]
     grind
    rw [Zaa, hB]
    exact q2
   ·obtain ⟨i', j', q1, q2, q3, q4⟩ := ZlD l a m b pf cmp hp hl h1 h2 h3 d ((i + j) / 2 + 1) j N fu (by omega) (by omega) (by omega) (by omega) (by omega) (by omega)
    refine ⟨i', j', by rw [Za9, decide_eq_true g', cond_true, decide_eq_false hc]; exact q1, ?_, by omega, by omega⟩
    have hB : ZcV l (a : Int) (m : Int) (b : Int) pf ((i : Int), (j : Int)) = some (.nx (((((i + j) / 2 : Nat) : Int) + 1), (j : Int))) := by
     dsimp only [ZcV, Zah, Zey, br, vz, vg, vs, v2, wi, wk, shr, iri, ca, cag, cf, cfg, lc, ln, lf, lxe, fl, st, vwr, lr]
     rw [mid, mab, e0]
     grind
    rw [Zaa, hB]
    exact q2
  ·have g' : ¬ (i : Int) < (j : Int) := by omega
   refine ⟨i, j, by rw [Za9, decide_eq_false g', cond_false], ?_, Nat.le_refl _, hij⟩
   have hB : ZcV l (a : Int) (m : Int) (b : Int) pf ((i : Int), (j : Int)) = some (.ex (i : Int)) := by
    dsimp only [ZcV, Zah, Zey, br, vz, vg, vs, v2, wi, wk, shr, iri, ca, cag, cf, cfg, lc, ln, lf, lxe, fl, st, vwr, lr]
    grind
   rw [Zaa, hB]
end
theorem ZGg {α : Type} (z : α) (fu : Nat) (l : List α) (a m b : Nat) (cf : α → α → Int) (s : Nat) :
  (cond ((decide (((s : Nat) : Int) < ((m : Nat) : Int)) && decide (((m : Nat) : Int) < (((((a + b) / 2) + m) - s : Nat) : Int)))) (cond ((decide (((a : Nat) : Int) < ((s : Nat) : Int)) && decide (((s : Nat) : Int) < (((a + b) / 2 : Nat) : Int)))) (cond ((decide ((((a + b) / 2 : Nat) : Int) < (((((a + b) / 2) + m) - s : Nat) : Int)) && decide ((((((a + b) / 2) + m) - s : Nat) : Int) < ((b : Nat) : Int)))) ((Zae z fu (Zae z fu (ZaL z l s m ((((a + b) / 2) + m) - s) cf) a s ((a + b) / 2) cf) ((a + b) / 2) ((((a + b) / 2) + m) - s) b cf)) ((Zae z fu (ZaL z l s m ((((a + b) / 2) + m) - s) cf) a s ((a + b) / 2) cf))) (cond ((decide ((((a + b) / 2 : Nat) : Int) < (((((a + b) / 2) + m) - s : Nat) : Int)) && decide ((((((a + b) / 2) + m) - s : Nat) : Int) < ((b : Nat) : Int)))) ((Zae z fu (ZaL z l s m ((((a + b) / 2) + m) - s) cf) ((a + b) / 2) ((((a + b) / 2) + m) - s) b cf)) ((ZaL z l s m ((((a + b) / 2) + m) - s) cf)))) (cond ((decide (((a : Nat) : Int) < ((s : Nat) : Int)) && decide (((s : Nat) : Int) < (((a + b) / 2 : Nat) : Int)))) (cond ((decide ((((a + b) / 2 : Nat) : Int) < (((((a + b) / 2) + m) - s : Nat) : Int)) && decide ((((((a + b) / 2) + m) - s : Nat) : Int) < ((b : Nat) : Int)))) ((Zae z fu (Zae z fu l a s ((a + b) / 2) cf) ((a + b) / 2) ((((a + b) / 2) + m) - s) b cf)) ((Zae z fu l a s ((a + b) / 2) cf))) (cond ((decide ((((a + b) / 2 : Nat) : Int) < (((((a + b) / 2) + m) - s : Nat) : Int)) && decide ((((((a + b) / 2) + m) - s : Nat) : Int) < ((b : Nat) : Int)))) ((Zae z fu l ((a + b) / 2) ((((a + b) / 2) + m) - s) b cf)) (l)))) = Zem z fu l a m b cf s := by
 unfold Zem
 grind
section
variable {α : Type} [Rw α] [Tid α]
theorem Zy7 (R : List α → Int → Int → Int → (α → α → Option Int) → Option (List α)) (pf : α → α → Option Int) (cmp : α → α → Int) (fu : Nat)
  (ih : ∀ (l : List α) (a m b : Nat), l.length ≤ 1048576 → b - a < fu → a < m → m < b → b ≤ l.length → R l (a : Int) (m : Int) (b : Int) pf = some (Zae Rw.z fu l a m b cmp) ∧ (Zae (Rw.z : α) fu l a m b cmp).length = l.length)
  (l : List α) (a m b s : Nat) (hl : l.length ≤ 1048576) (hf : b - a < fu + 1) (h1 : a < m) (h2 : m < b) (h3 : b ≤ l.length) (h4 : 4 ≤ b - a) (h5 : s ≤ (a + b) / 2) (h6 : (a + b) / 2 + m ≤ b + s) :
  (ZlT l (a : Int) (m : Int) (b : Int) pf R (s : Int)).m = some (Zem (Rw.z : α) fu l a m b cmp s) ∧ (Zem (Rw.z : α) fu l a m b cmp s).length = l.length := by
 have mab := ZyY (x := a) (y := b) (by omega)
 have e3 : (((a + b) / 2 : Nat) : Int) + (m : Int) - (s : Int) = (((a + b) / 2 + m - s : Nat) : Int) := by omega
 have w : -9223372036854775808 ≤ (((a + b) / 2 + m - s : Nat) : Int) ∧ (((a + b) / 2 + m - s : Nat) : Int) < 9223372036854775808 := by omega
 have g1 : a < (a + b) / 2 := by omega
 have g2 : (a + b) / 2 < b := by omega
 unfold Zem
 dsimp only [Zah, Zj8, ZoD, ZrD, Zuu, Zrq, Zkj, ZkY, Zst, Zr2, Zmb, Zey, Zhj, ZrH, Zqn, Zq6, Zq5, ZqJ, ZqZ, ZgQ, ZtC, ZtJ, Zrr, Zud, Zqk, ZtB, Zra, ZqR, Zhc, Zqh, ZrK, Zrz, ZsZ, Zur, Zro, ZgN, ZtQ, ZrQ, Zrf, Zqw, ZrE, ZqO, Zre, ZrZ, ZlT, Zc8, Zff, ZiY, Zg4, ZgT, Zfd, br, vz, vg, vs, v2, wi, wk, shr, iri, ca, cag, cf, cfg, lc, ln, lf, lxe, fl, st, vwr, lr]
 simp only [mab, e3]
 generalize (a + b) / 2 = h at *
 generalize h + m - s = e at *
 simp only [w, and_self, if_true]
 have g3 : e ≤ b := by omega
 by_cases c1 : s < m ∧ m < e <;> by_cases c2 : a < s ∧ s < h <;> by_cases c3 : h < e ∧ e < b
 ·
   have hr := ZL0 l s m e cmp hl c1.1 c1.2 (by omega)
   have lr0 := (ZhA (z := (Rw.z : α)) l s m e cmp c1.1 c1.2 (by omega)).1
   obtain ⟨i2, j2⟩ := ih (ZaL (Rw.z : α) l s m e cmp) a s h (by omega) (by omega) c2.1 c2.2 (by omega)
   obtain ⟨i3, j3⟩ := ih (Zae (Rw.z : α) fu (ZaL (Rw.z : α) l s m e cmp) a s h cmp) h e b (by omega) (by omega) c3.1 c3.2 (by omega)
   simp only [ZcI c1, ZcI c2, ZcI c3, hr, lr0, i2, j2, i3, j3, if_true, Option.bind_some, cond_true]
   first | exact ⟨trivial, trivial⟩ | exact ⟨trivial, by omega⟩
 ·
   have hr := ZL0 l s m e cmp hl c1.1 c1.2 (by omega)
   have lr0 := (ZhA (z := (Rw.z : α)) l s m e cmp c1.1 c1.2 (by omega)).1
   obtain ⟨i2, j2⟩ := ih (ZaL (Rw.z : α) l s m e cmp) a s h (by omega) (by omega) c2.1 c2.2 (by omega)
   simp only [ZcI c1, ZcI c2, Zcw c3, hr, lr0, i2, j2, Yf, if_true, if_false, Option.bind_some, cond_true, cond_false]
   first | exact ⟨trivial, trivial⟩ | exact ⟨trivial, by omega⟩
 ·
   have hr := ZL0 l s m e cmp hl c1.1 c1.2 (by omega)
   have lr0 := (ZhA (z := (Rw.z : α)) l s m e cmp c1.1 c1.2 (by omega)).1
   obtain ⟨i3, j3⟩ := ih (ZaL (Rw.z : α) l s m e cmp) h e b (by omega) (by omega) c3.1 c3.2 (by omega)
   simp only [ZcI c1, Zcw c2, ZcI c3, hr, lr0, i3, j3, Yf, if_true, if_false, Option.bind_some, cond_true, cond_false]
   first | exact ⟨trivial, trivial⟩ | exact ⟨trivial, by omega⟩
 ·
   have hr := ZL0 l s m e cmp hl c1.1 c1.2 (by omega)
   have lr0 := (ZhA (z := (Rw.z : α)) l s m e cmp c1.1 c1.2 (by omega)).1
   simp only [ZcI c1, Zcw c2, Zcw c3, hr, lr0, Yf, if_true, if_false, Option.bind_some, cond_true, cond_false]
   first | exact ⟨trivial, trivial⟩ | exact ⟨trivial, by omega⟩
 ·
   obtain ⟨i2, j2⟩ := ih l a s h (by omega) (by omega) c2.1 c2.2 (by omega)
   obtain ⟨i3, j3⟩ := ih (Zae (Rw.z : α) fu l a s h cmp) h e b (by omega) (by omega) c3.1 c3.2 (by omega)
   simp only [Zcw c1, ZcI c2, ZcI c3, i2, j2, i3, j3, Yf, if_true, if_false, Option.bind_some, cond_true, cond_false]
   first | exact ⟨trivial, trivial⟩ | exact ⟨trivial, by omega⟩
 ·
   obtain ⟨i2, j2⟩ := ih l a s h (by omega) (by omega) c2.1 c2.2 (by omega)
   simp only [Zcw c1, ZcI c2, Zcw c3, i2, j2, Yf, if_true, if_false, Option.bind_some, cond_true, cond_false]
   first | exact ⟨trivial, trivial⟩ | exact ⟨trivial, by omega⟩
 ·
   obtain ⟨i3, j3⟩ := ih l h e b (by omega) (by omega) c3.1 c3.2 (by omega)
   simp only [Zcw c1, Zcw c2, ZcI c3, i3, j3, Yf, if_true, if_false, Option.bind_some, cond_true, cond_false]
   first | exact ⟨trivial, trivial⟩ | exact ⟨trivial, by omega⟩
 grind
theorem Zqi {pf : α → α → Option Int} {cmp : α → α → Int} (hp : ∀ x y, pf x y = some (cmp x y)) : ZLU pf cmp := by
 intro fu
 induction fu with
 | zero => intro l a m b _ h; omega
 | succ fu ih =>
  intro l a m b hl hf h1 h2 h3
  rw [Zae]
  show (Zfd l (a : Int) (m : Int) (b : Int) pf (Zam fu)).m = _ ∧ _
  have wa : -9223372036854775808 ≤ ((m - a : Nat) : Int) ∧ ((m - a : Nat) : Int) < 9223372036854775808 := by omega
  have wb : -9223372036854775808 ≤ ((b - m : Nat) : Int) ∧ ((b - m : Nat) : Int) < 9223372036854775808 := by omega
  have ea : (m : Int) - (a : Int) = ((m - a : Nat) : Int) := by omega
  have eb : (b : Int) - (m : Int) = ((b - m : Nat) : Int) := by omega
  by_cases k1 : m - a = 1
  ·have k1' : ((m - a : Nat) : Int) = 1 := by omega
   obtain ⟨i, j, p1, p2, p3, p4⟩ := Ztg l a pf cmp hp hl (by omega) (b - m) m b big (b - m + 1) (Nat.le_refl _) (Zag (by omega)) (YB _) (by omega) h3
   obtain ⟨i2, v, q1, q2, q3⟩ := Zx7 l pf (i, j) hl (show 1 ≤ i by omega) (show i ≤ l.length by omega) (i - 1 - a) a l big (i - a + 1) (Nat.le_refl _) (Zag (by omega)) (by dsimp only; omega) rfl (by omega)
   dsimp only [Zfd, Zah, Zrq, Zuu, ZrD, br, vz, vg, vs, v2, wi, wk, shr, iri, ca, cag, cf, cfg, lc, ln, lf, lxe, fl, st, vwr, lr]
   grind
  ·have k1' : ¬ ((m - a : Nat) : Int) = 1 := by omega
   by_cases k2 : b - m = 1
   ·have k2' : ((b - m : Nat) : Int) = 1 := by omega
    obtain ⟨i, j, p1, p2, p3, p4⟩ := Zt3 l m pf cmp hp hl (by omega) (m - a) a m big (m - a + 1) (Nat.le_refl _) (Zag (by omega)) (YB _) (by omega) (by omega)
    obtain ⟨i2, v, q1, q2, q3⟩ := ZJ5 l pf (i, j) hl m l big (m + 1) (Zag (by omega)) (YB _) rfl (by omega)
    dsimp only [Zfd, Zah, ZgT, Zg4, Zmb, Zr2, Zst, br, vz, vg, vs, v2, wi, wk, shr, iri, ca, cag, cf, cfg, lc, ln, lf, lxe, fl, st, vwr, lr]
    grind
   ·have k2' : ¬ ((b - m : Nat) : Int) = 1 := by omega
    have mab := ZyY (x := a) (y := b) (by omega)
    have w1 : -9223372036854775808 ≤ (a : Int) + (b : Int) ∧ (a : Int) + (b : Int) < 9223372036854775808 := by omega
    have e1 : (((a + b) / 2 : Nat) : Int) + (m : Int) = (((a + b) / 2 + m : Nat) : Int) := by omega
    have w2 : -9223372036854775808 ≤ (((a + b) / 2 + m : Nat) : Int) ∧ (((a + b) / 2 + m : Nat) : Int) < 9223372036854775808 := by omega
    have w3 : -9223372036854775808 ≤ (((a + b) / 2 + m : Nat) : Int) - 1 ∧ (((a + b) / 2 + m : Nat) : Int) - 1 < 9223372036854775808 := by omega
    have hone : (0 : Int) ≤ 1 := by decide
    by_cases k3 : (a + b) / 2 < m
    ·have k3' : (((a + b) / 2 : Nat) : Int) < (m : Int) := by omega
     have e4 : (((a + b) / 2 + m : Nat) : Int) - (b : Int) = (((a + b) / 2 + m - b : Nat) : Int) := by omega
     have w4 : -9223372036854775808 ≤ (((a + b) / 2 + m - b : Nat) : Int) ∧ (((a + b) / 2 + m - b : Nat) : Int) < 9223372036854775808 := by omega
     obtain ⟨i, j, p1, p2, p3, p4⟩ := Zmq l a m b pf cmp hp hl h1 h2 h3 ((a + b) / 2 - ((a + b) / 2 + m - b)) ((a + b) / 2 + m - b) ((a + b) / 2) big ((a + b) / 2 - ((a + b) / 2 + m - b) + 1) (Nat.le_refl _) (Zag (by omega)) (YB _) (by omega) (by omega) (by omega)
     obtain ⟨t1, t2⟩ := Zy7 (Zam fu) pf cmp fu ih l a m b i hl hf h1 h2 h3 (by omega) (by omega) (by omega)
     have tt := ZGg (Rw.z : α) fu l a m b cmp i
     dsimp only [Zfd, Zah, ZgT, Zg4, ZiY, Zff, Zc8, br, vz, vg, vs, v2, wi, wk, shr, iri, ca, cag, cf, cfg, lc, ln, lf, lxe, fl, st, vwr, lr]
     grind
    ·have k3' : ¬ (((a + b) / 2 : Nat) : Int) < (m : Int) := by omega
     obtain ⟨i, j, p1, p2, p3, p4⟩ := ZlD l a m b pf cmp hp hl h1 h2 h3 (m - a) a m big (m - a + 1) (Nat.le_refl _) (Zag (by omega)) (YB _) (by omega) (by omega) (by omega)
     obtain ⟨t1, t2⟩ := Zy7 (Zam fu) pf cmp fu ih l a m b i hl hf h1 h2 h3 (by omega) (by omega) (by omega)
     have tt := ZGg (Rw.z : α) fu l a m b cmp i
     dsimp only [Zfd, Zah, ZgT, Zg4, ZiY, Zff, Zc8, br, vz, vg, vs, v2, wi, wk, shr, iri, ca, cag, cf, cfg, lc, ln, lf, lxe, fl, st, vwr, lr]
     grind
end
end Go.Proofs.YthagpbkmakocjaaGreat
