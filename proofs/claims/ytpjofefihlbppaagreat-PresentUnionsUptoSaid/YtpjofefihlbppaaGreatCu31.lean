import Derived.Test.YtpjofefihlbppaaGreatCu30
import Derived.Test.YtpjofefihlbppaaGreatCu28
import Derived.Test.YtpjofefihlbppaaGreatCu00
namespace Go.Proofs.YtpjofefihlbppaaGreat
set_option linter.all false
open Go Go.Eng
def Zy5 (l : List Fld) (n : Nat) : Prop := ∀ (i : Nat) (a b : Fld), i + 1 < n → l[i]? = some a → l[i + 1]? = some b → a.num < b.num
theorem Zqd {l : List Fld} {v : Nat} {a b : Fld} (h : Zy5 l v) (h1 : l[v]? = some a) (h2 : 0 < v → l[v - 1]? = some b ∧ b.num < a.num) : Zy5 l (v + 1) := by
 intro i x y hi hx hy
 by_cases e : i + 1 < v
 ·exact h i x y e hx hy
 ·have e1 : i + 1 = v := by omega
  have e2 : v - 1 = i := by omega
  rw [e1] at hy
  obtain ⟨h3, h4⟩ := h2 (by omega)
  rw [e2] at h3
  rw [h1] at hy
  rw [h3] at hx
  cases hx
  cases hy
  exact h4
def GdM (m : Msg) : Prop := Zy5 m.fields m.fields.length
theorem ZFc (d : ByteArray) (b : Bool) (n e : Int) : Ok (fun y => y.length ≤ 1) (Zaa d [] b n e) := (o62 d [] b n e (by simp)).mono fun y h => by simpa using h.2.1
theorem o66 (s : Scm) (m : Msg) (l : List Bool) (h : SzS s) (hm : SzM m) (hl : l.length = s.messages.length) : Ok (fun y => y.length ≤ 67108864 ∧ (y.length = 0 → GdM m)) (Zbb s m l) := by
 have h1 := hm.fl
 have h2 := hm.r
 have h3 := hm.gl
 have q2 : ∀ (v : Nat) (r : List Prb) (e : Fld), v ≤ m.fields.length → Ok (Sum.elim Tr No) (Zag (Zrt s m l v r e) big (false, 0)) := by
  intro w r e hw
  refine Ok.loop (fun v : Bool × Nat => v.2 ≤ w) (fun v : Bool × Nat => w - v.2) (by simp) (ZaF (by omega)) fun v hv => ?_
  obtain ⟨b, i⟩ := v
  dsimp only at hv
  dsimp only [Zrt, ZvP, br, ix, vz, vw, vs, ln, lxe, wa, fl, br]
  (repeat' (first | with_reducible refine Ok.br (fun _ => ?_) (fun _ => ?_) | with_reducible refine Ok.pure ?_ | with_reducible refine Ok.idx ?_ (fun _ _ _ => ?_) | with_reducible refine Ok.if ?_ ?_)) <;> (first | trivial | assumption | contradiction | omega | grind | (simp only [Bd.c, Bd.vl, ByteArray.size_append, ByteArray.size_extract, sz0] at *; grind))
 have q1 : ∀ r0 : List Prb, r0.length ≤ 9 → Ok (Sum.elim (fun y : List Prb => y.length ≤ 10485769 ∧ (y.length = 0 → GdM m)) No) (Zag (ZqO s m l) big (0, r0)) := by
  intro r0 hr0
  refine Ok.loop (fun v : Nat × List Prb => v.1 ≤ m.fields.length ∧ v.2.length ≤ 9 + 10 * v.1 ∧ (v.2.length = 0 → Zy5 m.fields v.1)) (fun v : Nat × List Prb => m.fields.length - v.1) ⟨by simp, by simpa using hr0, fun _ i x y hi => by simp at hi⟩ (ZaF (by omega)) fun v hv => ?_
  obtain ⟨v, r⟩ := v
  obtain ⟨h4, h5, h6⟩ := hv
  dsimp only at h4 h5 h6
  dsimp only [ZqO, Zno, Zl0, Znw, ZnG, Zou, Zm3, Zog, Zoj, ZoE, ZnE, Zm4, Zne, ZlP, Zo2, ZnT, Zpu, ZyK, Zxh, Zv9, ZwB, Zv1, ZwT, ZxO, Zuk, br, ix, ixg, vz, vw, vs, vg, ln, lxe, lc, cl, clg, wa, wi, fl, eqL, br]
  (repeat' (first | with_reducible refine Ok.br (fun _ => ?_) (fun _ => ?_) | with_reducible refine Ok.pure ?_ | with_reducible refine Ok.idx ?_ (fun _ _ _ => ?_) | (with_reducible apply Ok.lb; (exact q2 _ _ _ (by omega)); all_goals (intro _ _; try dsimp only)) | (with_reducible apply Ok.bind; (exact o62 _ _ _ _ _ (by omega)); intro _ _) | (with_reducible apply Ok.bind; (exact o89 _ (hm.f _ (by assumption)).n); intro _ _) | (with_reducible apply Ok.bind; (exact o90 _ _ h2); intro _ _) | (with_reducible apply Ok.bind; (exact o86 _ _ h3); intro _ _) | (with_reducible apply Ok.bind; (exact o91 _); intro _ _) | (with_reducible apply Ok.bind; (exact o92 _ _ h); intro _ _) | (with_reducible apply Ok.bind; (exact o93 _ _ hm (by (first | trivial | assumption | contradiction | omega | solve_by_elim | (simp only [Bool.and_eq_true, Bool.or_eq_true, Bool.not_eq_true', Bool.and_eq_false_iff, Bool.or_eq_false_iff, decide_eq_true_eq, decide_eq_false_iff_not] at *; omega) | grind))); intro _ _) | (with_reducible apply Ok.bind; (exact o94 _ _ h (hm.f _ (by assumption))); intro _ _) | (with_reducible apply Ok.bind; (exact o95 _ _ _ _ _ (by omega) (hm.f _ (by assumption)).o); intro _ _) | (with_reducible apply Ok.clg; (exact fun _ => o62 _ _ _ _ _ (by omega)); intro _) | (with_reducible apply Ok.clg; (exact fun _ => o89 _ (hm.f _ (by assumption)).n); intro _) | (with_reducible apply Ok.clg; (exact fun _ => o90 _ _ h2); intro _) | (with_reducible apply Ok.clg; (exact fun _ => o86 _ _ h3); intro _) | (with_reducible apply Ok.clg; (exact fun _ => o91 _); intro _) | (with_reducible apply Ok.clg; (exact fun _ => o92 _ _ h); intro _) | (with_reducible apply Ok.clg; (exact fun _ => o93 _ _ hm (by (first | trivial | assumption | contradiction | omega | solve_by_elim | (simp only [Bool.and_eq_true, Bool.or_eq_true, Bool.not_eq_true', Bool.and_eq_false_iff, Bool.or_eq_false_iff, decide_eq_true_eq, decide_eq_false_iff_not] at *; omega) | grind))); intro _) | (with_reducible apply Ok.clg; (exact fun _ => o94 _ _ h (hm.f _ (by assumption))); intro _) | (with_reducible apply Ok.clg; (exact fun _ => o95 _ _ _ _ _ (by omega) (hm.f _ (by assumption)).o); intro _) | with_reducible refine Ok.idxg ?_ (fun _ => ?_) | with_reducible refine Ok.if ?_ ?_))
  all_goals try (first | trivial | assumption | contradiction | omega | solve_by_elim | (simp only [Bool.and_eq_true, Bool.or_eq_true, Bool.not_eq_true', Bool.and_eq_false_iff, Bool.or_eq_false_iff, decide_eq_true_eq, decide_eq_false_iff_not] at *; omega) | grind)
  have hx := ‹decide (0 < (v : Int)) = true → m.fields[((v : Int) - 1).toNat]? = some (m.fields.getD ((v : Int) - 1).toNat Rw.z) ∧ _›
  have he := ‹m.fields[v]? = some _›
  dsimp only
  refine ⟨⟨by (first | trivial | assumption | contradiction | omega | solve_by_elim | (simp only [Bool.and_eq_true, Bool.or_eq_true, Bool.not_eq_true', Bool.and_eq_false_iff, Bool.or_eq_false_iff, decide_eq_true_eq, decide_eq_false_iff_not] at *; omega) | grind), by omega, fun h0 => Zqd (b := m.fields.getD ((v : Int) - 1).toNat Rw.z) (h6 (by omega)) he fun hv => ?_⟩, by (first | trivial | assumption | contradiction | omega | solve_by_elim | (simp only [Bool.and_eq_true, Bool.or_eq_true, Bool.not_eq_true', Bool.and_eq_false_iff, Bool.or_eq_false_iff, decide_eq_true_eq, decide_eq_false_iff_not] at *; omega) | grind)⟩
  have ev : ((v : Int) - 1).toNat = v - 1 := by omega
  refine ⟨ev ▸ (hx (decide_eq_true (by omega))).1, ?_⟩
  rcases Int.lt_or_le (m.fields.getD ((v : Int) - 1).toNat Rw.z).num (Fld.num _) with hlt | hge
  ·exact hlt
  ·exfalso
   have hb := Bool.and_eq_true _ _ ▸ And.intro (decide_eq_true (show (0 : Int) < v by omega)) (decide_eq_true hge)
   grind
  have ee : v = m.fields.length := by (first | trivial | assumption | contradiction | omega | solve_by_elim | (simp only [Bool.and_eq_true, Bool.or_eq_true, Bool.not_eq_true', Bool.and_eq_false_iff, Bool.or_eq_false_iff, decide_eq_true_eq, decide_eq_false_iff_not] at *; omega) | grind)
  subst ee
  exact ⟨by (first | trivial | assumption | contradiction | omega | solve_by_elim | (simp only [Bool.and_eq_true, Bool.or_eq_true, Bool.not_eq_true', Bool.and_eq_false_iff, Bool.or_eq_false_iff, decide_eq_true_eq, decide_eq_false_iff_not] at *; omega) | grind), h6⟩
 have q3 : ∀ r0 : List Prb, r0.length ≤ 20000000 → Ok (Sum.elim (fun y : List Prb => r0.length ≤ y.length ∧ y.length ≤ 22000000) No) (Zag (Zri s m l) big (0, r0)) := by
  intro r0 hr0
  refine Ok.loop (fun v : Nat × List Prb => v.1 ≤ m.gone.length ∧ v.2.length ≤ 20000000 + v.1 ∧ r0.length ≤ v.2.length) (fun v : Nat × List Prb => m.gone.length - v.1) ⟨by simp, by simpa using hr0, by simp⟩ (ZaF (by omega)) fun v hv => ?_
  obtain ⟨v, r⟩ := v
  obtain ⟨h4, h5, h6⟩ := hv
  dsimp only at h4 h5 h6
  dsimp only [Zri, Znf, ZmI, ZlQ, ZoR, br, ix, vz, vw, vs, ln, lxe, lc, cl, wa, fl, eqL, br]
  (repeat' (first | with_reducible refine Ok.br (fun _ => ?_) (fun _ => ?_) | with_reducible refine Ok.pure ?_ | with_reducible refine Ok.idx ?_ (fun _ _ _ => ?_) | (with_reducible apply Ok.bind; (exact o62 _ _ _ _ _ (by omega)); intro _ _) | (with_reducible apply Ok.bind; (exact o97 _ (hm.g _ (by assumption))); intro _ _) | with_reducible refine Ok.if ?_ ?_)) <;> (first | trivial | assumption | contradiction | omega | grind | (simp only [Bd.c, Bd.vl, ByteArray.size_append, ByteArray.size_extract, sz0] at *; grind))
 dsimp only [Zbb, Zlv, Zn3, Zmi, Zny, Zob, ZlT, Zl6, ZmX, Zor, Zl4, Zom, Zls, ZlO, Zmj, vz, vy, vw, lr, lc, cl, fl, fr, eqL]
 (repeat' (first | with_reducible refine Ok.br (fun _ => ?_) (fun _ => ?_) | with_reducible refine Ok.pure ?_ | (with_reducible apply Ok.lb; (exact q1 _ (by (first | trivial | assumption | contradiction | omega | solve_by_elim | (simp only [Bool.and_eq_true, Bool.or_eq_true, Bool.not_eq_true', Bool.and_eq_false_iff, Bool.or_eq_false_iff, decide_eq_true_eq, decide_eq_false_iff_not] at *; omega) | grind))); all_goals (intro _ _; try dsimp only)) | (with_reducible apply Ok.lb; (exact q3 _ (by omega)); all_goals (intro _ _; try dsimp only)) | (with_reducible apply Ok.bind; (exact o88 _ hm.n); intro _ _) | (with_reducible apply Ok.bind; (exact ZFc _ _ _ _); intro _ _) | (with_reducible apply Ok.bind; (exact o62 _ _ _ _ _ (by omega)); intro _ _) | (with_reducible apply Ok.bind; (exact o95 _ _ _ _ _ (by omega) hm.o); intro _ _) | (with_reducible apply Ok.bind; (exact o96 _ _ _ _ _ (by omega) h2); intro _ _) | (with_reducible apply Ok.bind; (exact o87 _ _ _ h hm hl); intro _ _) | with_reducible refine Ok.if ?_ ?_)) <;> (first | trivial | assumption | contradiction | omega | grind | (simp only [Bd.c, Bd.vl, ByteArray.size_append, ByteArray.size_extract, sz0] at *; grind))
theorem o67 (e : Enm) (hm : SzE e) : Ok (fun y => y.length ≤ 67108864) (ZbI e) := by
 have h1 := hm.il
 have h2 := hm.r
 have q2 : ∀ (v : Nat) (r : List Prb) (x : Itm), v ≤ e.items.length → Ok (Sum.elim Tr No) (Zag (Zr2 e v r x) big (false, 0)) := by
  intro w r x hw
  refine Ok.loop (fun v : Bool × Nat => v.2 ≤ w) (fun v : Bool × Nat => w - v.2) (by simp) (ZaF (by omega)) fun v hv => ?_
  obtain ⟨b, i⟩ := v
  dsimp only at hv
  dsimp only [Zr2, Zvt, br, ix, vz, vw, vs, ln, lxe, wa, fl, br]
  (repeat' (first | with_reducible refine Ok.br (fun _ => ?_) (fun _ => ?_) | with_reducible refine Ok.pure ?_ | with_reducible refine Ok.idx ?_ (fun _ _ _ => ?_) | with_reducible refine Ok.if ?_ ?_)) <;> (first | trivial | assumption | contradiction | omega | grind | (simp only [Bd.c, Bd.vl, ByteArray.size_append, ByteArray.size_extract, sz0] at *; grind))
 have q1 : ∀ r0 : List Prb, r0.length ≤ 9 → Ok (Sum.elim (fun y : List Prb => y.length ≤ 10485769) No) (Zag (ZpH e) big (0, r0)) := by
  intro r0 hr0
  refine Ok.loop (fun v : Nat × List Prb => v.1 ≤ e.items.length ∧ v.2.length ≤ 9 + 10 * v.1) (fun v : Nat × List Prb => e.items.length - v.1) ⟨by simp, by simpa using hr0⟩ (ZaF (by omega)) fun v hv => ?_
  obtain ⟨v, r⟩ := v
  obtain ⟨h4, h5⟩ := hv
  dsimp only at h4 h5
  dsimp only [ZpH, Zlx, Zlw, Zpb, Zo4, ZmQ, ZmE, Zpl, ZoH, Zyb, Zyo, Zu0, ZwI, ZvV, ZvQ, Zyi, ZvY, br, ix, ixg, vz, vw, vs, vg, ln, lxe, lc, cl, wa, wi, fl, eqL, br]
  (repeat' (first | with_reducible refine Ok.br (fun _ => ?_) (fun _ => ?_) | with_reducible refine Ok.pure ?_ | with_reducible refine Ok.idx ?_ (fun _ _ _ => ?_) | (with_reducible apply Ok.lb; (exact q2 _ _ _ (by omega)); all_goals (intro _ _; try dsimp only)) | (with_reducible apply Ok.bind; (exact o62 _ _ _ _ _ (by omega)); intro _ _) | (with_reducible apply Ok.bind; (exact o89 _ (hm.i _ (by assumption)).n); intro _ _) | (with_reducible apply Ok.bind; (exact o90 _ _ h2); intro _ _) | (with_reducible apply Ok.bind; (exact o95 _ _ _ _ _ (by omega) (hm.i _ (by assumption)).o); intro _ _) | with_reducible refine Ok.idxg ?_ (fun _ => ?_) | with_reducible refine Ok.if ?_ ?_)) <;> (first | trivial | assumption | contradiction | omega | grind | (simp only [Bd.c, Bd.vl, ByteArray.size_append, ByteArray.size_extract, sz0] at *; grind))
 dsimp only [ZbI, ZnU, Zn5, Zpo, ZmH, Zmv, Zn6, Zn2, Zo8, ZnW, Zot, Zna, Zlt, Zn0, ixg, vz, vy, vw, lr, lc, cl, fl, fr, eqL]
 (repeat' (first | with_reducible refine Ok.br (fun _ => ?_) (fun _ => ?_) | with_reducible refine Ok.pure ?_ | (with_reducible apply Ok.lb; (exact q1 _ (by (first | trivial | assumption | contradiction | omega | solve_by_elim | (simp only [Bool.and_eq_true, Bool.or_eq_true, Bool.not_eq_true', Bool.and_eq_false_iff, Bool.or_eq_false_iff, decide_eq_true_eq, decide_eq_false_iff_not] at *; omega) | grind))); all_goals (intro _ _; try dsimp only)) | (with_reducible apply Ok.bind; (exact o88 _ hm.n); intro _ _) | (with_reducible apply Ok.bind; (exact ZFc _ _ _ _); intro _ _) | (with_reducible apply Ok.bind; (exact o62 _ _ _ _ _ (by omega)); intro _ _) | (with_reducible apply Ok.bind; (exact o95 _ _ _ _ _ (by omega) hm.o); intro _ _) | (with_reducible apply Ok.bind; (exact o96 _ _ _ _ _ (by omega) h2); intro _ _) | with_reducible refine Ok.idxg ?_ (fun _ => ?_) | with_reducible refine Ok.if ?_ ?_)) <;> (first | trivial | assumption | contradiction | omega | grind | (simp only [Bd.c, Bd.vl, ByteArray.size_append, ByteArray.size_extract, sz0] at *; grind))
theorem o68 (s : Scm) (e : Svc) (h : SzS s) (hm : SzW e) : Ok (fun y => y.length ≤ 67108864) (Zbe s e) := by
 have h1 := hm.ml
 have q1 : ∀ r0 : List Prb, r0.length ≤ 9 → Ok (Sum.elim (fun y : List Prb => y.length ≤ 10485769) No) (Zag (ZqB s e) big (0, r0)) := by
  intro r0 hr0
  refine Ok.loop (fun v : Nat × List Prb => v.1 ≤ e.methods.length ∧ v.2.length ≤ 9 + 10 * v.1) (fun v : Nat × List Prb => e.methods.length - v.1) ⟨by simp, by simpa using hr0⟩ (ZaF (by omega)) fun v hv => ?_
  obtain ⟨v, r⟩ := v
  obtain ⟨h4, h5⟩ := hv
  dsimp only at h4 h5
  dsimp only [ZqB, ZlM, Zmd, Zoe, ZnF, Zwe, ZvG, Zyz, ZvO, Zum, Zv5, Zvl, ZxT, Zyf, br, ix, ixg, vz, vw, vs, vg, ln, lxe, lc, cl, clg, wa, wi, fl, eqL, br]
  (repeat' (first | with_reducible refine Ok.br (fun _ => ?_) (fun _ => ?_) | with_reducible refine Ok.pure ?_ | with_reducible refine Ok.idx ?_ (fun _ _ _ => ?_) | (with_reducible apply Ok.bind; (exact o62 _ _ _ _ _ (by omega)); intro _ _) | (with_reducible apply Ok.bind; (exact o98 _ _ h); intro _ _) | (with_reducible apply Ok.bind; (exact o89 _ (hm.m _ (by assumption)).n); intro _ _) | (with_reducible apply Ok.bind; (exact o95 _ _ _ _ _ (by omega) (hm.m _ (by assumption)).o); intro _ _) | (with_reducible apply Ok.clg; (exact fun _ => o62 _ _ _ _ _ (by omega)); intro _) | (with_reducible apply Ok.clg; (exact fun _ => o98 _ _ h); intro _) | (with_reducible apply Ok.clg; (exact fun _ => o89 _ (hm.m _ (by assumption)).n); intro _) | (with_reducible apply Ok.clg; (exact fun _ => o95 _ _ _ _ _ (by omega) (hm.m _ (by assumption)).o); intro _) | with_reducible refine Ok.idxg ?_ (fun _ => ?_) | with_reducible refine Ok.if ?_ ?_)) <;> (first | trivial | assumption | contradiction | omega | grind | (simp only [Bd.c, Bd.vl, ByteArray.size_append, ByteArray.size_extract, sz0] at *; grind))
 dsimp only [Zbe, ZmT, Zox, Zoh, Zpg, ZmZ, Zpi, ZnS, Znz, ZlI, vz, vw, lr, lc, cl, fl, fr, eqL]
 (repeat' (first | with_reducible refine Ok.br (fun _ => ?_) (fun _ => ?_) | with_reducible refine Ok.pure ?_ | (with_reducible apply Ok.lb; (exact q1 _ (by (first | trivial | assumption | contradiction | omega | solve_by_elim | (simp only [Bool.and_eq_true, Bool.or_eq_true, Bool.not_eq_true', Bool.and_eq_false_iff, Bool.or_eq_false_iff, decide_eq_true_eq, decide_eq_false_iff_not] at *; omega) | grind))); all_goals (intro _ _; try dsimp only)) | (with_reducible apply Ok.bind; (exact o88 _ hm.n); intro _ _) | (with_reducible apply Ok.bind; (exact ZFc _ _ _ _); intro _ _) | (with_reducible apply Ok.bind; (exact o62 _ _ _ _ _ (by omega)); intro _ _) | (with_reducible apply Ok.bind; (exact o95 _ _ _ _ _ (by omega) hm.o); intro _ _) | with_reducible refine Ok.if ?_ ?_)) <;> (first | trivial | assumption | contradiction | omega | grind | (simp only [Bd.c, Bd.vl, ByteArray.size_append, ByteArray.size_extract, sz0] at *; grind))
structure Few (s : Scm) : Prop where
 m : s.messages.length ≤ 150
 e : s.enums.length ≤ 150
 w : s.services.length ≤ 150
theorem o37 (s : Scm) (h : SzS s) (k : Few s) : Ok (fun y => y.length = 0 → ∀ (i : Nat) (m : Msg), s.messages[i]? = some m → GdM m) (Zb1 s) := by
 have k1 := k.m
 have k2 := k.e
 have k3 := k.w
 have q1 : Ok (Sum.elim (fun y : List Prb => y.length ≤ 9) No) (Zag (Zrg s) big (1, [])) := by
  refine Ok.loop (fun v : Nat × List Prb => 1 ≤ v.1 ∧ v.1 ≤ 4 ∧ v.2.length ≤ 2 * v.1) (fun v : Nat × List Prb => 4 - v.1) ⟨by simp, by simp, by simp⟩ (ZaF (by omega)) fun v hv => ?_
  obtain ⟨v, r⟩ := v
  obtain ⟨h4, h5, h6⟩ := hv
  dsimp only at h4 h5 h6
  dsimp only [Zrg, ZuN, Zxr, ZwL, ZvR, Zwx, ZuL, ZuV, br, vz, vw, vs, ln, lxe, lc, cl, wa, fl, eqL, br]
  (repeat' (first | with_reducible refine Ok.br (fun _ => ?_) (fun _ => ?_) | with_reducible refine Ok.pure ?_ | (with_reducible apply Ok.bind; (exact o61 _ _ h); intro _ _) | (with_reducible apply Ok.bind; (exact o62 _ _ _ _ _ (by omega)); intro _ _) | (with_reducible apply Ok.bind; (exact o63 _ (by assumption)); intro _ _) | with_reducible refine Ok.if ?_ ?_)) <;> (first | trivial | assumption | contradiction | omega | grind | (simp only [Bd.c, Bd.vl, ByteArray.size_append, ByteArray.size_extract, sz0] at *; grind))
 have q2 : ∀ (r0 : List Prb) (l : List Bool), r0.length ≤ 10 → l.length = s.messages.length → Ok (Sum.elim (fun y : List Prb => y.length ≤ 10066329610 ∧ (y.length = 0 → ∀ (i : Nat) (m : Msg), s.messages[i]? = some m → GdM m)) No) (Zag (Zq9 s l) big (0, r0)) := by
  intro r0 l hr0 hl
  refine Ok.loop (fun v : Nat × List Prb => v.1 ≤ s.messages.length ∧ v.2.length ≤ 10 + 67108864 * v.1 ∧ (v.2.length = 0 → ∀ (i : Nat) (m : Msg), i < v.1 → s.messages[i]? = some m → GdM m)) (fun v : Nat × List Prb => s.messages.length - v.1) ⟨by simp, by simpa using hr0, fun _ i m hi => by simp at hi⟩ (ZaF (by omega)) fun v hv => ?_
  obtain ⟨v, r⟩ := v
  obtain ⟨h4, h5, h6⟩ := hv
  dsimp only at h4 h5 h6
  dsimp only [Zq9, Zm2, ZwW, ZoG, br, ix, vz, vw, vs, ln, lxe, lc, aq, cl, wa, tw, fl, eqL, br]
  (repeat' (first | with_reducible refine Ok.br (fun _ => ?_) (fun _ => ?_) | with_reducible refine Ok.pure ?_ | with_reducible refine Ok.idx ?_ (fun _ _ _ => ?_) | (with_reducible apply Ok.bind; (exact o66 _ _ _ h (h.m _ (by assumption)) hl); intro _ _) | with_reducible refine Ok.if ?_ ?_)) <;> (first | trivial | assumption | contradiction | omega | grind | (simp only [Bd.c, Bd.vl, ByteArray.size_append, ByteArray.size_extract, sz0] at *; grind))
 have q3 : ∀ r0 : List Prb, r0.length ≤ 10066329610 → Ok (Sum.elim (fun y : List Prb => r0.length ≤ y.length ∧ y.length ≤ 20132659210) No) (Zag (ZrC s) big (0, r0)) := by
  intro r0 hr0
  refine Ok.loop (fun v : Nat × List Prb => v.1 ≤ s.enums.length ∧ v.2.length ≤ 10066329610 + 67108864 * v.1 ∧ r0.length ≤ v.2.length) (fun v : Nat × List Prb => s.enums.length - v.1) ⟨by simp, by simpa using hr0, by simp⟩ (ZaF (by omega)) fun v hv => ?_
  obtain ⟨v, r⟩ := v
  obtain ⟨h4, h5, h6⟩ := hv
  dsimp only at h4 h5 h6
  dsimp only [ZrC, ZmS, Zpq, Zh0, br, ix, vz, vw, vs, ln, lxe, lc, aq, cl, wa, tw, fl, eqL, br]
  (repeat' (first | with_reducible refine Ok.br (fun _ => ?_) (fun _ => ?_) | with_reducible refine Ok.pure ?_ | with_reducible refine Ok.idx ?_ (fun _ _ _ => ?_) | (with_reducible apply Ok.bind; (exact o67 _ (h.e _ (by assumption))); intro _ _) | with_reducible refine Ok.if ?_ ?_)) <;> (first | trivial | assumption | contradiction | omega | grind | (simp only [Bd.c, Bd.vl, ByteArray.size_append, ByteArray.size_extract, sz0] at *; grind))
 have q4 : ∀ r0 : List Prb, r0.length ≤ 20132659210 → Ok (Sum.elim (fun y : List Prb => r0.length ≤ y.length) No) (Zag (ZqR s) big (0, r0)) := by
  intro r0 hr0
  refine Ok.loop (fun v : Nat × List Prb => v.1 ≤ s.services.length ∧ v.2.length ≤ 20132659210 + 67108864 * v.1 ∧ r0.length ≤ v.2.length) (fun v : Nat × List Prb => s.services.length - v.1) ⟨by simp, by simpa using hr0, by simp⟩ (ZaF (by omega)) fun v hv => ?_
  obtain ⟨v, r⟩ := v
  obtain ⟨h4, h5, h6⟩ := hv
  dsimp only at h4 h5 h6
  dsimp only [ZqR, Zmb, ZmW, Zh4, br, ix, vz, vw, vs, ln, lxe, lc, aq, cl, wa, tw, fl, eqL, br]
  (repeat' (first | with_reducible refine Ok.br (fun _ => ?_) (fun _ => ?_) | with_reducible refine Ok.pure ?_ | with_reducible refine Ok.idx ?_ (fun _ _ _ => ?_) | (with_reducible apply Ok.bind; (exact o68 _ _ h (h.w _ (by assumption))); intro _ _) | with_reducible refine Ok.if ?_ ?_)) <;> (first | trivial | assumption | contradiction | omega | grind | (simp only [Bd.c, Bd.vl, ByteArray.size_append, ByteArray.size_extract, sz0] at *; grind))
 dsimp only [Zb1, Zo7, ZoY, ZmD, ZmN, Zpe, Zmc, Zl5, Znn, Zps, ZoJ, ZlH, Zon, vz, vw, lr, lc, cl, clg, fl, fr]
 (repeat' (first | with_reducible refine Ok.br (fun _ => ?_) (fun _ => ?_) | with_reducible refine Ok.pure ?_ | (with_reducible apply Ok.lb; (exact q1); all_goals (intro _ _; try dsimp only)) | (with_reducible apply Ok.lb; (exact q2 _ _ (by omega) (by assumption)); all_goals (intro _ _; try dsimp only)) | (with_reducible apply Ok.lb; (exact q3 _ (by omega)); all_goals (intro _ _; try dsimp only)) | (with_reducible apply Ok.lb; (exact q4 _ (by omega)); all_goals (intro _ _; try dsimp only)) | (with_reducible apply Ok.bind; (exact o61 _ _ h); intro _ _) | (with_reducible apply Ok.bind; (exact o64 _ _ (by assumption) (by assumption)); intro _ _) | (with_reducible apply Ok.bind; (exact o65 _ h); intro _ _) | (with_reducible apply Ok.bind; (exact o62 _ _ _ _ _ (by omega)); intro _ _) | (with_reducible apply Ok.clg; (exact fun _ => o61 _ _ h); intro _) | (with_reducible apply Ok.clg; (exact fun _ => o64 _ _ (by assumption) (by assumption)); intro _) | (with_reducible apply Ok.clg; (exact fun _ => o65 _ h); intro _) | (with_reducible apply Ok.clg; (exact fun _ => o62 _ _ _ _ _ (by omega)); intro _) | with_reducible refine Ok.if ?_ ?_)) <;> (first | trivial | assumption | contradiction | omega | grind | (simp only [Bd.c, Bd.vl, ByteArray.size_append, ByteArray.size_extract, sz0] at *; grind))
theorem o16 (s : Scm) (h : SzS s) (k : Few s) : Ok (fun b => b = true → ∀ (i : Nat) (m : Msg), s.messages[i]? = some m → GdM m) (Zby s) := by
 dsimp only [Zby, Zwt, vz, vw, lr, cl, eqL]
 (repeat' (first | with_reducible refine Ok.br (fun _ => ?_) (fun _ => ?_) | with_reducible refine Ok.pure ?_ | (with_reducible apply Ok.bind; (exact o37 _ h k); intro _ _) | with_reducible refine Ok.if ?_ ?_)) <;> (first | trivial | assumption | contradiction | omega | grind | (simp only [Bd.c, Bd.vl, ByteArray.size_append, ByteArray.size_extract, sz0] at *; grind))
end Go.Proofs.YtpjofefihlbppaaGreat
namespace Go.Proofs.YtpjofefihlbppaaGreat
set_option linter.all false
open Go Go.Eng
theorem o36 (l : List ByteArray) (n : Int) (h : l.length ≤ 1048576) (hn : 0 ≤ n) (hn2 : n ≤ 400) : Ok (fun y : Int => 0 ≤ y ∧ y ≤ 1048986 ∧ (l.length ≤ 10 → (l.length : Int) ≤ y)) (Za4 l n) := by
 have q : Ok (Sum.elim Tr fun y : Int => 10 ≤ y ∧ y ≤ 410) (Zag (ZrI l n) big 0) := by
  refine Ok.loop (fun v : Nat => v ≤ l.length) (fun v : Nat => l.length - v) (by omega) (ZaF (by omega)) fun v hv => ?_
  dsimp only [ZrI, ZxP, br, ix, vz, vs, lrt, ln, lxe, wa, wi, eqL, eqN, br]
  (repeat' (first | with_reducible refine Ok.br (fun _ => ?_) (fun _ => ?_) | with_reducible refine Ok.pure ?_ | with_reducible refine Ok.idx ?_ (fun _ _ _ => ?_) | with_reducible refine Ok.if ?_ ?_)) <;> (first | trivial | assumption | contradiction | omega | grind | (simp only [Bd.c, Bd.vl, ByteArray.size_append, ByteArray.size_extract, sz0] at *; grind))
 dsimp only [Za4, Zu9, ZvL, Zuv, vz, lr, lc, eqL]
 (repeat' (first | with_reducible refine Ok.br (fun _ => ?_) (fun _ => ?_) | with_reducible refine Ok.pure ?_ | (with_reducible apply Ok.lb; (exact q); all_goals (intro _ _; try dsimp only)) | with_reducible refine Ok.if ?_ ?_)) <;> (first | trivial | assumption | contradiction | omega | grind | (simp only [Bd.c, Bd.vl, ByteArray.size_append, ByteArray.size_extract, sz0] at *; grind))
theorem o35 (l : List Nt) (n : Int) (h : ZpB l) (hn : 0 ≤ n) (hn2 : n ≤ 400) : Ok (fun y : Int => 0 ≤ y ∧ y ≤ 1048986) (Za3 l n) := by
 obtain ⟨h1, h2⟩ := h
 have k1 : ∀ x ∈ l, x.val.list.length ≤ 1048576 := fun x hx => (h2 x hx).v.l
 have k2 : ∀ x ∈ l, x.val.pairs.length ≤ 1048576 := fun x hx => (h2 x hx).v.p
 have k3 : ∀ x ∈ l, x.val.slots.length ≤ 1048576 := fun x hx => (h2 x hx).v.s
 have k4 : ∀ x ∈ l, x.val.raws.length ≤ 1048576 := fun x hx => (h2 x hx).v.r
 have q : Ok (Sum.elim Tr fun y : Int => 10 ≤ y ∧ y ≤ 410) (Zag (Zqm l n) big 0) := by
  refine Ok.loop (fun v : Nat => v ≤ l.length) (fun v : Nat => l.length - v) (by omega) (ZaF (by omega)) fun v hv => ?_
  dsimp only [Zqm, Zxd, br, ix, vz, vy, vw, vs, vg, lrt, ln, lxe, wa, wi, eqL, eqN, br]
  (repeat' (first | with_reducible refine Ok.br (fun _ => ?_) (fun _ => ?_) | with_reducible refine Ok.pure ?_ | with_reducible refine Ok.idx ?_ (fun _ _ _ => ?_) | with_reducible refine Ok.if ?_ ?_)) <;> (first | trivial | assumption | contradiction | omega | grind | (simp only [Bd.c, Bd.vl, ByteArray.size_append, ByteArray.size_extract, sz0] at *; grind))
 dsimp only [Za3, Zwu, Zwi, ZyM, vz, lr, lc, eqL]
 (repeat' (first | with_reducible refine Ok.br (fun _ => ?_) (fun _ => ?_) | with_reducible refine Ok.pure ?_ | (with_reducible apply Ok.lb; (exact q); all_goals (intro _ _; try dsimp only)) | with_reducible refine Ok.if ?_ ?_)) <;> (first | trivial | assumption | contradiction | omega | grind | (simp only [Bd.c, Bd.vl, ByteArray.size_append, ByteArray.size_extract, sz0] at *; grind))
theorem o15 (s : Scm) (h : SzS s) : Ok (fun b => b = true → Few s) (Zbr s) := by
 have h1 := h.ml
 have h2 := h.el
 have h3 := h.wl
 have q2 : ∀ (v : Nat) (m : Msg) (n : Int), SzM m → -10000000 ≤ n → n ≤ 400 → Ok (Sum.elim (fun y : Int => -10000000 ≤ y ∧ y ≤ 400) No) (Zag (ZqT s v m) big (n, 0)) := by
  intro w m n hm hn hn2
  have h4 := hm.fl
  refine Ok.loop (fun v : Int × Nat => v.2 ≤ m.fields.length ∧ -10000000 ≤ v.1 ∧ v.1 ≤ 400) (fun v : Int × Nat => m.fields.length - v.2) ⟨by omega, by omega, by omega⟩ (ZaF (by omega)) fun v hv => ?_
  obtain ⟨n, v⟩ := v
  obtain ⟨h5, h6, h7⟩ := hv
  dsimp only at h5 h6 h7
  dsimp only [ZqT, ZuO, br, ix, vz, vw, vs, v2, ln, lxe, cl, wa, wi, eqL, eqN, br]
  (repeat' (first | with_reducible refine Ok.br (fun _ => ?_) (fun _ => ?_) | with_reducible refine Ok.pure ?_ | with_reducible refine Ok.idx ?_ (fun _ _ _ => ?_) | (with_reducible apply Ok.bind; (exact o35 _ _ (hm.f _ (by assumption)).o (by (first | trivial | assumption | contradiction | omega | solve_by_elim | (simp only [Bool.and_eq_true, Bool.or_eq_true, Bool.not_eq_true', Bool.and_eq_false_iff, Bool.or_eq_false_iff, decide_eq_true_eq, decide_eq_false_iff_not] at *; omega) | grind)) h7); intro _ _) | (with_reducible apply Ok.bind; (exact o36 _ _ (by simp) (by (first | trivial | assumption | contradiction | omega | solve_by_elim | (simp only [Bool.and_eq_true, Bool.or_eq_true, Bool.not_eq_true', Bool.and_eq_false_iff, Bool.or_eq_false_iff, decide_eq_true_eq, decide_eq_false_iff_not] at *; omega) | grind)) h7); intro _ _) | with_reducible refine Ok.if ?_ ?_)) <;> (first | trivial | assumption | contradiction | omega | grind | (simp only [Bd.c, Bd.vl, ByteArray.size_append, ByteArray.size_extract, sz0] at *; grind))
 have q1 : Ok (Sum.elim (fun y : Int => -10000000 ≤ y ∧ y ≤ 400) No) (Zag (ZqX s) big (400, 0)) := by
  refine Ok.loop (fun v : Int × Nat => v.2 ≤ s.messages.length ∧ -10000000 ≤ v.1 ∧ v.1 ≤ 400) (fun v : Int × Nat => s.messages.length - v.2) ⟨by omega, by omega, by omega⟩ (ZaF (by omega)) fun v hv => ?_
  obtain ⟨n, v⟩ := v
  obtain ⟨h5, h6, h7⟩ := hv
  dsimp only at h5 h6 h7
  dsimp only [ZqX, ZwR, Zxo, ZyD, br, ix, vz, vw, vs, v2, ln, lxe, lc, cl, wa, wi, eqL, br]
  have r1 : ∀ x ∈ s.messages, x.reserved.length ≤ 1048576 := fun x hx => (h.m x hx).r
  (repeat' (first | with_reducible refine Ok.br (fun _ => ?_) (fun _ => ?_) | with_reducible refine Ok.pure ?_ | with_reducible refine Ok.idx ?_ (fun _ _ _ => ?_) | (with_reducible apply Ok.lb; (exact q2 _ _ _ (h.m _ (by assumption)) (by (first | trivial | assumption | contradiction | omega | solve_by_elim | (simp only [Bool.and_eq_true, Bool.or_eq_true, Bool.not_eq_true', Bool.and_eq_false_iff, Bool.or_eq_false_iff, decide_eq_true_eq, decide_eq_false_iff_not] at *; omega) | grind)) (by (first | trivial | assumption | contradiction | omega | solve_by_elim | (simp only [Bool.and_eq_true, Bool.or_eq_true, Bool.not_eq_true', Bool.and_eq_false_iff, Bool.or_eq_false_iff, decide_eq_true_eq, decide_eq_false_iff_not] at *; omega) | grind))); all_goals (intro _ _; try dsimp only)) | (with_reducible apply Ok.bind; (exact o35 _ _ (h.m _ (by assumption)).o (by (first | trivial | assumption | contradiction | omega | solve_by_elim | (simp only [Bool.and_eq_true, Bool.or_eq_true, Bool.not_eq_true', Bool.and_eq_false_iff, Bool.or_eq_false_iff, decide_eq_true_eq, decide_eq_false_iff_not] at *; omega) | grind)) h7); intro _ _) | (with_reducible apply Ok.bind; (exact o36 _ _ (h.m _ (by assumption)).gl (by (first | trivial | assumption | contradiction | omega | solve_by_elim | (simp only [Bool.and_eq_true, Bool.or_eq_true, Bool.not_eq_true', Bool.and_eq_false_iff, Bool.or_eq_false_iff, decide_eq_true_eq, decide_eq_false_iff_not] at *; omega) | grind)) h7); intro _ _) | (with_reducible apply Ok.bind; (exact o36 _ _ (by simp) (by (first | trivial | assumption | contradiction | omega | solve_by_elim | (simp only [Bool.and_eq_true, Bool.or_eq_true, Bool.not_eq_true', Bool.and_eq_false_iff, Bool.or_eq_false_iff, decide_eq_true_eq, decide_eq_false_iff_not] at *; omega) | grind)) h7); intro _ _) | with_reducible refine Ok.if ?_ ?_)) <;> (first | trivial | assumption | contradiction | omega | grind | (simp only [Bd.c, Bd.vl, ByteArray.size_append, ByteArray.size_extract, sz0] at *; grind))
 have q4 : ∀ (v : Nat) (m : Enm) (n : Int), SzE m → -10000000 ≤ n → n ≤ 400 → Ok (Sum.elim (fun y : Int => -10000000 ≤ y ∧ y ≤ 400) No) (Zag (Zqt s v m) big (n, 0)) := by
  intro w m n hm hn hn2
  have h4 := hm.il
  refine Ok.loop (fun v : Int × Nat => v.2 ≤ m.items.length ∧ -10000000 ≤ v.1 ∧ v.1 ≤ 400) (fun v : Int × Nat => m.items.length - v.2) ⟨by omega, by omega, by omega⟩ (ZaF (by omega)) fun v hv => ?_
  obtain ⟨n, v⟩ := v
  obtain ⟨h5, h6, h7⟩ := hv
  dsimp only at h5 h6 h7
  dsimp only [Zqt, Zxa, br, ix, vz, vw, vs, ln, lxe, cl, wa, wi, eqL, br]
  (repeat' (first | with_reducible refine Ok.br (fun _ => ?_) (fun _ => ?_) | with_reducible refine Ok.pure ?_ | with_reducible refine Ok.idx ?_ (fun _ _ _ => ?_) | (with_reducible apply Ok.bind; (exact o35 _ _ (hm.i _ (by assumption)).o (by (first | trivial | assumption | contradiction | omega | solve_by_elim | (simp only [Bool.and_eq_true, Bool.or_eq_true, Bool.not_eq_true', Bool.and_eq_false_iff, Bool.or_eq_false_iff, decide_eq_true_eq, decide_eq_false_iff_not] at *; omega) | grind)) h7); intro _ _) | (with_reducible apply Ok.bind; (exact o36 _ _ (by simp) (by (first | trivial | assumption | contradiction | omega | solve_by_elim | (simp only [Bool.and_eq_true, Bool.or_eq_true, Bool.not_eq_true', Bool.and_eq_false_iff, Bool.or_eq_false_iff, decide_eq_true_eq, decide_eq_false_iff_not] at *; omega) | grind)) h7); intro _ _) | with_reducible refine Ok.if ?_ ?_)) <;> (first | trivial | assumption | contradiction | omega | grind | (simp only [Bd.c, Bd.vl, ByteArray.size_append, ByteArray.size_extract, sz0] at *; grind))
 have q3 : ∀ n : Int, -10000000 ≤ n → n ≤ 400 → Ok (Sum.elim (fun y : Int => -10000000 ≤ y ∧ y ≤ 400) No) (Zag (ZpU s) big (n, 0)) := by
  intro n hn hn2
  refine Ok.loop (fun v : Int × Nat => v.2 ≤ s.enums.length ∧ -10000000 ≤ v.1 ∧ v.1 ≤ 400) (fun v : Int × Nat => s.enums.length - v.2) ⟨by omega, by omega, by omega⟩ (ZaF (by omega)) fun v hv => ?_
  obtain ⟨n, v⟩ := v
  obtain ⟨h5, h6, h7⟩ := hv
  dsimp only at h5 h6 h7
  dsimp only [ZpU, ZxA, ZwJ, ZvJ, br, ix, vz, vw, vs, ln, lxe, lc, cl, wa, wi, eqL, br]
  have r1 : ∀ x ∈ s.enums, x.reserved.length ≤ 1048576 := fun x hx => (h.e x hx).r
  (repeat' (first | with_reducible refine Ok.br (fun _ => ?_) (fun _ => ?_) | with_reducible refine Ok.pure ?_ | with_reducible refine Ok.idx ?_ (fun _ _ _ => ?_) | (with_reducible apply Ok.lb; (exact q4 _ _ _ (h.e _ (by assumption)) (by (first | trivial | assumption | contradiction | omega | solve_by_elim | (simp only [Bool.and_eq_true, Bool.or_eq_true, Bool.not_eq_true', Bool.and_eq_false_iff, Bool.or_eq_false_iff, decide_eq_true_eq, decide_eq_false_iff_not] at *; omega) | grind)) (by (first | trivial | assumption | contradiction | omega | solve_by_elim | (simp only [Bool.and_eq_true, Bool.or_eq_true, Bool.not_eq_true', Bool.and_eq_false_iff, Bool.or_eq_false_iff, decide_eq_true_eq, decide_eq_false_iff_not] at *; omega) | grind))); all_goals (intro _ _; try dsimp only)) | (with_reducible apply Ok.bind; (exact o35 _ _ (h.e _ (by assumption)).o (by (first | trivial | assumption | contradiction | omega | solve_by_elim | (simp only [Bool.and_eq_true, Bool.or_eq_true, Bool.not_eq_true', Bool.and_eq_false_iff, Bool.or_eq_false_iff, decide_eq_true_eq, decide_eq_false_iff_not] at *; omega) | grind)) h7); intro _ _) | (with_reducible apply Ok.bind; (exact o36 _ _ (by simp) (by (first | trivial | assumption | contradiction | omega | solve_by_elim | (simp only [Bool.and_eq_true, Bool.or_eq_true, Bool.not_eq_true', Bool.and_eq_false_iff, Bool.or_eq_false_iff, decide_eq_true_eq, decide_eq_false_iff_not] at *; omega) | grind)) h7); intro _ _) | with_reducible refine Ok.if ?_ ?_)) <;> (first | trivial | assumption | contradiction | omega | grind | (simp only [Bd.c, Bd.vl, ByteArray.size_append, ByteArray.size_extract, sz0] at *; grind))
 have q6 : ∀ (v : Nat) (m : Svc) (n : Int), SzW m → -10000000 ≤ n → n ≤ 400 → Ok (Sum.elim (fun y : Int => -10000000 ≤ y ∧ y ≤ 400) No) (Zag (Zrn s v m) big (n, 0)) := by
  intro w m n hm hn hn2
  have h4 := hm.ml
  refine Ok.loop (fun v : Int × Nat => v.2 ≤ m.methods.length ∧ -10000000 ≤ v.1 ∧ v.1 ≤ 400) (fun v : Int × Nat => m.methods.length - v.2) ⟨by omega, by omega, by omega⟩ (ZaF (by omega)) fun v hv => ?_
  obtain ⟨n, v⟩ := v
  obtain ⟨h5, h6, h7⟩ := hv
  dsimp only at h5 h6 h7
  dsimp only [Zrn, Zu8, br, ix, vz, vw, vs, ln, lxe, cl, wa, wi, eqL, br]
  (repeat' (first | with_reducible refine Ok.br (fun _ => ?_) (fun _ => ?_) | with_reducible refine Ok.pure ?_ | with_reducible refine Ok.idx ?_ (fun _ _ _ => ?_) | (with_reducible apply Ok.bind; (exact o35 _ _ (hm.m _ (by assumption)).o (by (first | trivial | assumption | contradiction | omega | solve_by_elim | (simp only [Bool.and_eq_true, Bool.or_eq_true, Bool.not_eq_true', Bool.and_eq_false_iff, Bool.or_eq_false_iff, decide_eq_true_eq, decide_eq_false_iff_not] at *; omega) | grind)) h7); intro _ _) | (with_reducible apply Ok.bind; (exact o36 _ _ (by simp) (by (first | trivial | assumption | contradiction | omega | solve_by_elim | (simp only [Bool.and_eq_true, Bool.or_eq_true, Bool.not_eq_true', Bool.and_eq_false_iff, Bool.or_eq_false_iff, decide_eq_true_eq, decide_eq_false_iff_not] at *; omega) | grind)) h7); intro _ _) | with_reducible refine Ok.if ?_ ?_)) <;> (first | trivial | assumption | contradiction | omega | grind | (simp only [Bd.c, Bd.vl, ByteArray.size_append, ByteArray.size_extract, sz0] at *; grind))
 have q5 : ∀ n : Int, -10000000 ≤ n → n ≤ 400 → Ok (Sum.elim (fun y : Int => -10000000 ≤ y ∧ y ≤ 400) No) (Zag (Zp6 s) big (n, 0)) := by
  intro n hn hn2
  refine Ok.loop (fun v : Int × Nat => v.2 ≤ s.services.length ∧ -10000000 ≤ v.1 ∧ v.1 ≤ 400) (fun v : Int × Nat => s.services.length - v.2) ⟨by omega, by omega, by omega⟩ (ZaF (by omega)) fun v hv => ?_
  obtain ⟨n, v⟩ := v
  obtain ⟨h5, h6, h7⟩ := hv
  dsimp only at h5 h6 h7
  dsimp only [Zp6, ZnD, ZlS, ZmY, br, ix, vz, vw, vs, ln, lxe, lc, cl, wa, wi, eqL, br]
  (repeat' (first | with_reducible refine Ok.br (fun _ => ?_) (fun _ => ?_) | with_reducible refine Ok.pure ?_ | with_reducible refine Ok.idx ?_ (fun _ _ _ => ?_) | (with_reducible apply Ok.lb; (exact q6 _ _ _ (h.w _ (by assumption)) (by (first | trivial | assumption | contradiction | omega | solve_by_elim | (simp only [Bool.and_eq_true, Bool.or_eq_true, Bool.not_eq_true', Bool.and_eq_false_iff, Bool.or_eq_false_iff, decide_eq_true_eq, decide_eq_false_iff_not] at *; omega) | grind)) (by (first | trivial | assumption | contradiction | omega | solve_by_elim | (simp only [Bool.and_eq_true, Bool.or_eq_true, Bool.not_eq_true', Bool.and_eq_false_iff, Bool.or_eq_false_iff, decide_eq_true_eq, decide_eq_false_iff_not] at *; omega) | grind))); all_goals (intro _ _; try dsimp only)) | (with_reducible apply Ok.bind; (exact o35 _ _ (h.w _ (by assumption)).o (by (first | trivial | assumption | contradiction | omega | solve_by_elim | (simp only [Bool.and_eq_true, Bool.or_eq_true, Bool.not_eq_true', Bool.and_eq_false_iff, Bool.or_eq_false_iff, decide_eq_true_eq, decide_eq_false_iff_not] at *; omega) | grind)) h7); intro _ _) | (with_reducible apply Ok.bind; (exact o36 _ _ (by simp) (by (first | trivial | assumption | contradiction | omega | solve_by_elim | (simp only [Bool.and_eq_true, Bool.or_eq_true, Bool.not_eq_true', Bool.and_eq_false_iff, Bool.or_eq_false_iff, decide_eq_true_eq, decide_eq_false_iff_not] at *; omega) | grind)) h7); intro _ _) | with_reducible refine Ok.if ?_ ?_)) <;> (first | trivial | assumption | contradiction | omega | grind | (simp only [Bd.c, Bd.vl, ByteArray.size_append, ByteArray.size_extract, sz0] at *; grind))
 dsimp only [Zbr, ZnQ, Zmq, ZoQ, Zl8, ZlW, br, vz, vy, vw, vg, lr, lc, wa, eqL, br]
 (repeat' (first | with_reducible refine Ok.br (fun _ => ?_) (fun _ => ?_) | with_reducible refine Ok.pure ?_ | (with_reducible apply Ok.lb; (exact q1); all_goals (intro _ _; try dsimp only)) | (with_reducible apply Ok.lb; (exact q3 _ (by (first | trivial | assumption | contradiction | omega | solve_by_elim | (simp only [Bool.and_eq_true, Bool.or_eq_true, Bool.not_eq_true', Bool.and_eq_false_iff, Bool.or_eq_false_iff, decide_eq_true_eq, decide_eq_false_iff_not] at *; omega) | grind)) (by (first | trivial | assumption | contradiction | omega | solve_by_elim | (simp only [Bool.and_eq_true, Bool.or_eq_true, Bool.not_eq_true', Bool.and_eq_false_iff, Bool.or_eq_false_iff, decide_eq_true_eq, decide_eq_false_iff_not] at *; omega) | grind))); all_goals (intro _ _; try dsimp only)) | (with_reducible apply Ok.lb; (exact q5 _ (by (first | trivial | assumption | contradiction | omega | solve_by_elim | (simp only [Bool.and_eq_true, Bool.or_eq_true, Bool.not_eq_true', Bool.and_eq_false_iff, Bool.or_eq_false_iff, decide_eq_true_eq, decide_eq_false_iff_not] at *; omega) | grind)) (by (first | trivial | assumption | contradiction | omega | solve_by_elim | (simp only [Bool.and_eq_true, Bool.or_eq_true, Bool.not_eq_true', Bool.and_eq_false_iff, Bool.or_eq_false_iff, decide_eq_true_eq, decide_eq_false_iff_not] at *; omega) | grind))); all_goals (intro _ _; try dsimp only)) | with_reducible refine Ok.if ?_ ?_)) <;> first | (first | trivial | assumption | contradiction | omega | grind | (simp only [Bd.c, Bd.vl, ByteArray.size_append, ByteArray.size_extract, sz0] at *; grind)) | exact fun _ => ⟨by (first | trivial | assumption | contradiction | omega | solve_by_elim | (simp only [Bool.and_eq_true, Bool.or_eq_true, Bool.not_eq_true', Bool.and_eq_false_iff, Bool.or_eq_false_iff, decide_eq_true_eq, decide_eq_false_iff_not] at *; omega) | grind), by (first | trivial | assumption | contradiction | omega | solve_by_elim | (simp only [Bool.and_eq_true, Bool.or_eq_true, Bool.not_eq_true', Bool.and_eq_false_iff, Bool.or_eq_false_iff, decide_eq_true_eq, decide_eq_false_iff_not] at *; omega) | grind), by (first | trivial | assumption | contradiction | omega | solve_by_elim | (simp only [Bool.and_eq_true, Bool.or_eq_true, Bool.not_eq_true', Bool.and_eq_false_iff, Bool.or_eq_false_iff, decide_eq_true_eq, decide_eq_false_iff_not] at *; omega) | grind)⟩
abbrev BkV (v : Val) : Prop := bkL (ZaZ v) ≤ 1048576
theorem ZFJ {v x : Val} (h : BkV v) (hx : x ∈ v.list) : BkV x := by
 have h1 := ZdD (e := ZaI) hx
 rw [Zed] at h1
 unfold BkV at *
 conv at h => unfold ZaZ
 simp only [bkL, bk] at h
 omega
theorem ZDJ {v : Val} {x : Pr} (h : BkV v) (hx : x ∈ v.pairs) : BkV x.key ∧ BkV x.val := by
 have h1 := ZdD (e := rPr) hx
 have e : rPr x = ZaZ x.key ++ ZaZ x.val := by rw [Zij]; rfl
 rw [e, Zjl] at h1
 unfold BkV at *
 conv at h => unfold ZaZ
 simp only [bkL, bk] at h
 omega
theorem ZF8 {v : Val} {x : Slt} (h : BkV v) (hx : x ∈ v.slots) : BkV x.val := by
 have h1 := ZdD (e := Zar) hx
 have e : Zar x = D.int .i64 x.num :: ZaZ x.val := by rw [ZdR]; rfl
 rw [e, bkL] at h1
 unfold BkV at *
 conv at h => unfold ZaZ
 simp only [bkL, bk] at h
 omega
theorem o17 : ∀ (fu : Nat) (v : Val) (lv n : Int), BkV v → 1 ≤ lv → 42 - lv < fu → lv ≤ 41 → 0 ≤ n → n ≤ 2000 → Ok (fun y : Int => -1 ≤ y ∧ y ≤ 2000) (Zao fu v lv n)
 | 0, v, lv, n, h, h1, h2, h3, h4, h5 => by omega
 | fu + 1, v, lv, n, h, h1, h2, h3, h4, h5 => by
  obtain ⟨s1, s2, s3, s4, s5⟩ := szV h
  have R : ∀ (x : Val) (n : Int), BkV x → lv ≤ 40 → 0 ≤ n → n ≤ 2000 → Ok (fun y : Int => -1 ≤ y ∧ y ≤ 2000) (Zao fu x (lv + 1) n) := fun x n hx hl hn hn2 => o17 fu x (lv + 1) n hx (by omega) (by omega) (by omega) hn hn2
  have q1 : Ok (Sum.elim Tr (fun y : Int => y = -1)) (Zag (Zrq v lv n (Zao fu)) big 0) := by
   refine Ok.loop (fun i : Nat => i ≤ v.raws.length) (fun i : Nat => v.raws.length - i) (by omega) (ZaF (by omega)) fun i hi => ?_
   dsimp only [Zrq, ZxY, br, ix, vz, vw, vs, lrt, ln, lxe, wa, eqL, eqN, br]
   (repeat' (first | with_reducible refine Ok.br (fun _ => ?_) (fun _ => ?_) | with_reducible refine Ok.pure ?_ | with_reducible refine Ok.idx ?_ (fun _ _ _ => ?_) | with_reducible refine Ok.if ?_ ?_)) <;> (first | trivial | assumption | contradiction | omega | grind | (simp only [Bd.c, Bd.vl, ByteArray.size_append, ByteArray.size_extract, sz0] at *; grind))
  have q2 : ∀ m : Int, lv ≤ 40 → -1 ≤ m → m ≤ 2000 → Ok (Sum.elim (fun y : Int => -1 ≤ y ∧ y ≤ 2000) No) (Zag (ZqI v lv (Zao fu)) big (m, 0)) := by
   intro m hl hm hm2
   refine Ok.loop (fun i : Int × Nat => i.2 ≤ v.list.length ∧ -1 ≤ i.1 ∧ i.1 ≤ 2000) (fun i : Int × Nat => v.list.length - i.2) ⟨by omega, by omega, by omega⟩ (ZaF (by omega)) fun i hi => ?_
   obtain ⟨m, i⟩ := i
   obtain ⟨h6, h7, h8⟩ := hi
   dsimp only at h6 h7 h8
   dsimp only [ZqI, Zuq, br, ix, vz, vw, vs, ln, lxe, cs, wa, wi, eqL, br]
   (repeat' (first | with_reducible refine Ok.br (fun _ => ?_) (fun _ => ?_) | with_reducible refine Ok.pure ?_ | with_reducible refine Ok.idx ?_ (fun _ _ _ => ?_) | (with_reducible apply Ok.bind; (exact R _ _ (ZFJ h (by assumption)) hl (by (first | trivial | assumption | contradiction | omega | solve_by_elim | (simp only [Bool.and_eq_true, Bool.or_eq_true, Bool.not_eq_true', Bool.and_eq_false_iff, Bool.or_eq_false_iff, decide_eq_true_eq, decide_eq_false_iff_not] at *; omega) | grind)) h8); intro _ _) | with_reducible refine Ok.if ?_ ?_)) <;> (first | trivial | assumption | contradiction | omega | grind | (simp only [Bd.c, Bd.vl, ByteArray.size_append, ByteArray.size_extract, sz0] at *; grind))
  have q3 : ∀ m : Int, lv ≤ 40 → -1 ≤ m → m ≤ 2000 → Ok (Sum.elim (fun y : Int => -1 ≤ y ∧ y ≤ 2000) No) (Zag (ZqF v lv (Zao fu)) big (m, 0)) := by
   intro m hl hm hm2
   refine Ok.loop (fun i : Int × Nat => i.2 ≤ v.pairs.length ∧ -1 ≤ i.1 ∧ i.1 ≤ 2000) (fun i : Int × Nat => v.pairs.length - i.2) ⟨by omega, by omega, by omega⟩ (ZaF (by omega)) fun i hi => ?_
   obtain ⟨m, i⟩ := i
   obtain ⟨h6, h7, h8⟩ := hi
   dsimp only at h6 h7 h8
   dsimp only [ZqF, ZvC, br, ix, vz, vw, vs, ln, lxe, cs, wa, wi, eqL, br]
   (repeat' (first | with_reducible refine Ok.br (fun _ => ?_) (fun _ => ?_) | with_reducible refine Ok.pure ?_ | with_reducible refine Ok.idx ?_ (fun _ _ _ => ?_) | (with_reducible apply Ok.bind; (exact R _ _ (ZDJ h (by assumption)).1 hl (by (first | trivial | assumption | contradiction | omega | solve_by_elim | (simp only [Bool.and_eq_true, Bool.or_eq_true, Bool.not_eq_true', Bool.and_eq_false_iff, Bool.or_eq_false_iff, decide_eq_true_eq, decide_eq_false_iff_not] at *; omega) | grind)) h8); intro _ _) | (with_reducible apply Ok.bind; (exact R _ _ (ZDJ h (by assumption)).2 hl (by (first | trivial | assumption | contradiction | omega | solve_by_elim | (simp only [Bool.and_eq_true, Bool.or_eq_true, Bool.not_eq_true', Bool.and_eq_false_iff, Bool.or_eq_false_iff, decide_eq_true_eq, decide_eq_false_iff_not] at *; omega) | grind)) (by (first | trivial | assumption | contradiction | omega | solve_by_elim | (simp only [Bool.and_eq_true, Bool.or_eq_true, Bool.not_eq_true', Bool.and_eq_false_iff, Bool.or_eq_false_iff, decide_eq_true_eq, decide_eq_false_iff_not] at *; omega) | grind))); intro _ _) | with_reducible refine Ok.if ?_ ?_)) <;> (first | trivial | assumption | contradiction | omega | grind | (simp only [Bd.c, Bd.vl, ByteArray.size_append, ByteArray.size_extract, sz0] at *; grind))
  have q4 : ∀ m : Int, lv ≤ 40 → -1 ≤ m → m ≤ 2000 → Ok (Sum.elim (fun y : Int => -1 ≤ y ∧ y ≤ 2000) No) (Zag (ZrY v lv (Zao fu)) big (m, 0)) := by
   intro m hl hm hm2
   refine Ok.loop (fun i : Int × Nat => i.2 ≤ v.slots.length ∧ -1 ≤ i.1 ∧ i.1 ≤ 2000) (fun i : Int × Nat => v.slots.length - i.2) ⟨by omega, by omega, by omega⟩ (ZaF (by omega)) fun i hi => ?_
   obtain ⟨m, i⟩ := i
   obtain ⟨h6, h7, h8⟩ := hi
   dsimp only at h6 h7 h8
   dsimp only [ZrY, Zwn, br, ix, vz, vw, vs, ln, lxe, cs, wa, wi, eqL, br]
   (repeat' (first | with_reducible refine Ok.br (fun _ => ?_) (fun _ => ?_) | with_reducible refine Ok.pure ?_ | with_reducible refine Ok.idx ?_ (fun _ _ _ => ?_) | (with_reducible apply Ok.bind; (exact R _ _ (ZF8 h (by assumption)) hl (by (first | trivial | assumption | contradiction | omega | solve_by_elim | (simp only [Bool.and_eq_true, Bool.or_eq_true, Bool.not_eq_true', Bool.and_eq_false_iff, Bool.or_eq_false_iff, decide_eq_true_eq, decide_eq_false_iff_not] at *; omega) | grind)) h8); intro _ _) | with_reducible refine Ok.if ?_ ?_)) <;> (first | trivial | assumption | contradiction | omega | grind | (simp only [Bd.c, Bd.vl, ByteArray.size_append, ByteArray.size_extract, sz0] at *; grind))
  show Ok _ (ZEf (Zao fu) v lv n)
  dsimp only [ZEf, ZlX, ZwV, Zxt, ZuS, ZyQ, ZvX, br, vz, vy, vw, vs, lr, lc, wi, eqL, eqN, br]
  (repeat' (first | with_reducible refine Ok.br (fun _ => ?_) (fun _ => ?_) | with_reducible refine Ok.pure ?_ | (with_reducible apply Ok.lb; (exact q1); all_goals (intro _ _; try dsimp only)) | (with_reducible apply Ok.lb; (exact q2 _ (by (first | trivial | assumption | contradiction | omega | solve_by_elim | (simp only [Bool.and_eq_true, Bool.or_eq_true, Bool.not_eq_true', Bool.and_eq_false_iff, Bool.or_eq_false_iff, decide_eq_true_eq, decide_eq_false_iff_not] at *; omega) | grind)) (by (first | trivial | assumption | contradiction | omega | solve_by_elim | (simp only [Bool.and_eq_true, Bool.or_eq_true, Bool.not_eq_true', Bool.and_eq_false_iff, Bool.or_eq_false_iff, decide_eq_true_eq, decide_eq_false_iff_not] at *; omega) | grind)) (by (first | trivial | assumption | contradiction | omega | solve_by_elim | (simp only [Bool.and_eq_true, Bool.or_eq_true, Bool.not_eq_true', Bool.and_eq_false_iff, Bool.or_eq_false_iff, decide_eq_true_eq, decide_eq_false_iff_not] at *; omega) | grind))); all_goals (intro _ _; try dsimp only)) | (with_reducible apply Ok.lb; (exact q3 _ (by (first | trivial | assumption | contradiction | omega | solve_by_elim | (simp only [Bool.and_eq_true, Bool.or_eq_true, Bool.not_eq_true', Bool.and_eq_false_iff, Bool.or_eq_false_iff, decide_eq_true_eq, decide_eq_false_iff_not] at *; omega) | grind)) (by (first | trivial | assumption | contradiction | omega | solve_by_elim | (simp only [Bool.and_eq_true, Bool.or_eq_true, Bool.not_eq_true', Bool.and_eq_false_iff, Bool.or_eq_false_iff, decide_eq_true_eq, decide_eq_false_iff_not] at *; omega) | grind)) (by (first | trivial | assumption | contradiction | omega | solve_by_elim | (simp only [Bool.and_eq_true, Bool.or_eq_true, Bool.not_eq_true', Bool.and_eq_false_iff, Bool.or_eq_false_iff, decide_eq_true_eq, decide_eq_false_iff_not] at *; omega) | grind))); all_goals (intro _ _; try dsimp only)) | (with_reducible apply Ok.lb; (exact q4 _ (by (first | trivial | assumption | contradiction | omega | solve_by_elim | (simp only [Bool.and_eq_true, Bool.or_eq_true, Bool.not_eq_true', Bool.and_eq_false_iff, Bool.or_eq_false_iff, decide_eq_true_eq, decide_eq_false_iff_not] at *; omega) | grind)) (by (first | trivial | assumption | contradiction | omega | solve_by_elim | (simp only [Bool.and_eq_true, Bool.or_eq_true, Bool.not_eq_true', Bool.and_eq_false_iff, Bool.or_eq_false_iff, decide_eq_true_eq, decide_eq_false_iff_not] at *; omega) | grind)) (by (first | trivial | assumption | contradiction | omega | solve_by_elim | (simp only [Bool.and_eq_true, Bool.or_eq_true, Bool.not_eq_true', Bool.and_eq_false_iff, Bool.or_eq_false_iff, decide_eq_true_eq, decide_eq_false_iff_not] at *; omega) | grind))); all_goals (intro _ _; try dsimp only)) | with_reducible refine Ok.if ?_ ?_)) <;> (first | trivial | assumption | contradiction | omega | grind | (simp only [Bd.c, Bd.vl, ByteArray.size_append, ByteArray.size_extract, sz0] at *; grind))
theorem o6 (v : Val) (h : BkV v) : Ok Tr (ZbW v 2000) := by
 dsimp only [ZbW, ZFv, vw, lr, cl]
 (repeat' (first | with_reducible refine Ok.br (fun _ => ?_) (fun _ => ?_) | with_reducible refine Ok.pure ?_ | (with_reducible apply Ok.bind; (exact o17 big _ _ _ h (by omega) (by unfold big; omega) (by omega) (by omega) (by omega)); intro _ _) | with_reducible refine Ok.if ?_ ?_)) <;> (first | trivial | assumption | contradiction | omega | grind | (simp only [Bd.c, Bd.vl, ByteArray.size_append, ByteArray.size_extract, sz0] at *; grind))
theorem aw : Zcg = some true := by kernel_rfl
end Go.Proofs.YtpjofefihlbppaaGreat
