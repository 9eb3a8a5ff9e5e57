import Derived.Test.YtchkcemlglpobaaGreatCl28
import Derived.Test.YtchkcemlglpobaaGreatCl26
import Derived.Test.YtchkcemlglpobaaGreatCl27
import Derived.Test.YtchkcemlglpobaaGreatCl00
namespace Go.Proofs.YtchkcemlglpobaaGreat
set_option linter.all false
open Go Go.Eng
theorem o36 (l : List ByteArray) (n : Int) (h : l.length ≤ 1048576) (hn : 0 ≤ n) (hn2 : n ≤ 400) : Ok (fun y : Int => 0 ≤ y ∧ y ≤ 1048986 ∧ (l.length ≤ 10 → (l.length : Int) ≤ y)) (ZaY l n) := by
 have q : Ok (Sum.elim Tr fun y : Int => 10 ≤ y ∧ y ≤ 410) (Zaf (Zta l n) big 0) := by
  refine Ok.loop (fun v : Nat => v ≤ l.length) (fun v : Nat => l.length - v) (by omega) (Zat (by omega)) fun v hv => ?_
  dsimp only [Zta, Zyr, br, ix, vz, vs, lrt, ln, lxe, wa, wi, eqL, eqN, br]
  (repeat' (first | with_reducible refine Ok.br (fun _ => ?_) (fun _ => ?_) | with_reducible refine Ok.pure ?_ | with_reducible refine Ok.idx ?_ (fun _ _ _ => ?_) | with_reducible refine Ok.if ?_ ?_)) <;> (first | trivial | assumption | contradiction | omega | grind | (simp only [Bd.c, Bd.vl, ByteArray.size_append, ByteArray.size_extract, sz0] at *; grind))
 dsimp only [ZaY, Zxr, Zxq, Zw7, vz, lr, lc, eqL]
 (repeat' (first | with_reducible refine Ok.br (fun _ => ?_) (fun _ => ?_) | with_reducible refine Ok.pure ?_ | (with_reducible apply Ok.lb; (exact q); all_goals (intro _ _; try dsimp only)) | with_reducible refine Ok.if ?_ ?_)) <;> (first | trivial | assumption | contradiction | omega | grind | (simp only [Bd.c, Bd.vl, ByteArray.size_append, ByteArray.size_extract, sz0] at *; grind))
theorem o35 (l : List Nt) (n : Int) (h : ZrJ l) (hn : 0 ≤ n) (hn2 : n ≤ 400) : Ok (fun y : Int => 0 ≤ y ∧ y ≤ 1048986) (ZaV l n) := by
 obtain ⟨h1, h2⟩ := h
 have k1 : ∀ x ∈ l, x.val.list.length ≤ 1048576 := fun x hx => (h2 x hx).v.l
 have k2 : ∀ x ∈ l, x.val.pairs.length ≤ 1048576 := fun x hx => (h2 x hx).v.p
 have k3 : ∀ x ∈ l, x.val.slots.length ≤ 1048576 := fun x hx => (h2 x hx).v.s
 have k4 : ∀ x ∈ l, x.val.raws.length ≤ 1048576 := fun x hx => (h2 x hx).v.r
 have q : Ok (Sum.elim Tr fun y : Int => 10 ≤ y ∧ y ≤ 410) (Zaf (Zsb l n) big 0) := by
  refine Ok.loop (fun v : Nat => v ≤ l.length) (fun v : Nat => l.length - v) (by omega) (Zat (by omega)) fun v hv => ?_
  dsimp only [Zsb, Zw4, br, ix, vz, vy, vw, vs, vg, lrt, ln, lxe, wa, wi, eqL, eqN, br]
  (repeat' (first | with_reducible refine Ok.br (fun _ => ?_) (fun _ => ?_) | with_reducible refine Ok.pure ?_ | with_reducible refine Ok.idx ?_ (fun _ _ _ => ?_) | with_reducible refine Ok.if ?_ ?_)) <;> (first | trivial | assumption | contradiction | omega | grind | (simp only [Bd.c, Bd.vl, ByteArray.size_append, ByteArray.size_extract, sz0] at *; grind))
 dsimp only [ZaV, Zyu, Zyg, ZzJ, vz, lr, lc, eqL]
 (repeat' (first | with_reducible refine Ok.br (fun _ => ?_) (fun _ => ?_) | with_reducible refine Ok.pure ?_ | (with_reducible apply Ok.lb; (exact q); all_goals (intro _ _; try dsimp only)) | with_reducible refine Ok.if ?_ ?_)) <;> (first | trivial | assumption | contradiction | omega | grind | (simp only [Bd.c, Bd.vl, ByteArray.size_append, ByteArray.size_extract, sz0] at *; grind))
theorem o15 (s : Scm) (h : SzS s) : Ok (fun b => b = true → Few s) (Zbm s) := by
 have h1 := h.ml
 have h2 := h.el
 have h3 := h.wl
 have q2 : ∀ (v : Nat) (m : Msg) (n : Int), SzM m → -10000000 ≤ n → n ≤ 400 → Ok (Sum.elim (fun y : Int => -10000000 ≤ y ∧ y ≤ 400) No) (Zaf (ZtB s v m) big (n, 0)) := by
  intro w m n hm hn hn2
  have h4 := hm.fl
  refine Ok.loop (fun v : Int × Nat => v.2 ≤ m.fields.length ∧ -10000000 ≤ v.1 ∧ v.1 ≤ 400) (fun v : Int × Nat => m.fields.length - v.2) ⟨by omega, by omega, by omega⟩ (Zat (by omega)) fun v hv => ?_
  obtain ⟨n, v⟩ := v
  obtain ⟨h5, h6, h7⟩ := hv
  dsimp only at h5 h6 h7
  dsimp only [ZtB, Zzf, br, ix, vz, vw, vs, v2, ln, lxe, cl, wa, wi, eqL, eqN, br]
  (repeat' (first | with_reducible refine Ok.br (fun _ => ?_) (fun _ => ?_) | with_reducible refine Ok.pure ?_ | with_reducible refine Ok.idx ?_ (fun _ _ _ => ?_) | (with_reducible apply Ok.bind; (exact o35 _ _ (hm.f _ (by assumption)).o (by (first | trivial | assumption | contradiction | omega | solve_by_elim | (simp only [Bool.and_eq_true, Bool.or_eq_true, Bool.not_eq_true', Bool.and_eq_false_iff, Bool.or_eq_false_iff, decide_eq_true_eq, decide_eq_false_iff_not] at *; omega) | grind)) h7); intro _ _) | (with_reducible apply Ok.bind; (exact o36 _ _ (by simp) (by (first | trivial | assumption | contradiction | omega | solve_by_elim | (simp only [Bool.and_eq_true, Bool.or_eq_true, Bool.not_eq_true', Bool.and_eq_false_iff, Bool.or_eq_false_iff, decide_eq_true_eq, decide_eq_false_iff_not] at *; omega) | grind)) h7); intro _ _) | with_reducible refine Ok.if ?_ ?_)) <;> (first | trivial | assumption | contradiction | omega | grind | (simp only [Bd.c, Bd.vl, ByteArray.size_append, ByteArray.size_extract, sz0] at *; grind))
 have q1 : Ok (Sum.elim (fun y : Int => -10000000 ≤ y ∧ y ≤ 400) No) (Zaf (Zth s) big (400, 0)) := by
  refine Ok.loop (fun v : Int × Nat => v.2 ≤ s.messages.length ∧ -10000000 ≤ v.1 ∧ v.1 ≤ 400) (fun v : Int × Nat => s.messages.length - v.2) ⟨by omega, by omega, by omega⟩ (Zat (by omega)) fun v hv => ?_
  obtain ⟨n, v⟩ := v
  obtain ⟨h5, h6, h7⟩ := hv
  dsimp only at h5 h6 h7
  dsimp only [Zth, Zz2, ZwA, ZyY, br, ix, vz, vw, vs, v2, ln, lxe, lc, cl, wa, wi, eqL, br]
  have r1 : ∀ x ∈ s.messages, x.reserved.length ≤ 1048576 := fun x hx => (h.m x hx).r
  (repeat' (first | with_reducible refine Ok.br (fun _ => ?_) (fun _ => ?_) | with_reducible refine Ok.pure ?_ | with_reducible refine Ok.idx ?_ (fun _ _ _ => ?_) | (with_reducible apply Ok.lb; (exact q2 _ _ _ (h.m _ (by assumption)) (by (first | trivial | assumption | contradiction | omega | solve_by_elim | (simp only [Bool.and_eq_true, Bool.or_eq_true, Bool.not_eq_true', Bool.and_eq_false_iff, Bool.or_eq_false_iff, decide_eq_true_eq, decide_eq_false_iff_not] at *; omega) | grind)) (by (first | trivial | assumption | contradiction | omega | solve_by_elim | (simp only [Bool.and_eq_true, Bool.or_eq_true, Bool.not_eq_true', Bool.and_eq_false_iff, Bool.or_eq_false_iff, decide_eq_true_eq, decide_eq_false_iff_not] at *; omega) | grind))); all_goals (intro _ _; try dsimp only)) | (with_reducible apply Ok.bind; (exact o35 _ _ (h.m _ (by assumption)).o (by (first | trivial | assumption | contradiction | omega | solve_by_elim | (simp only [Bool.and_eq_true, Bool.or_eq_true, Bool.not_eq_true', Bool.and_eq_false_iff, Bool.or_eq_false_iff, decide_eq_true_eq, decide_eq_false_iff_not] at *; omega) | grind)) h7); intro _ _) | (with_reducible apply Ok.bind; (exact o36 _ _ (h.m _ (by assumption)).gl (by (first | trivial | assumption | contradiction | omega | solve_by_elim | (simp only [Bool.and_eq_true, Bool.or_eq_true, Bool.not_eq_true', Bool.and_eq_false_iff, Bool.or_eq_false_iff, decide_eq_true_eq, decide_eq_false_iff_not] at *; omega) | grind)) h7); intro _ _) | (with_reducible apply Ok.bind; (exact o36 _ _ (by simp) (by (first | trivial | assumption | contradiction | omega | solve_by_elim | (simp only [Bool.and_eq_true, Bool.or_eq_true, Bool.not_eq_true', Bool.and_eq_false_iff, Bool.or_eq_false_iff, decide_eq_true_eq, decide_eq_false_iff_not] at *; omega) | grind)) h7); intro _ _) | with_reducible refine Ok.if ?_ ?_)) <;> (first | trivial | assumption | contradiction | omega | grind | (simp only [Bd.c, Bd.vl, ByteArray.size_append, ByteArray.size_extract, sz0] at *; grind))
 have q4 : ∀ (v : Nat) (m : Enm) (n : Int), SzE m → -10000000 ≤ n → n ≤ 400 → Ok (Sum.elim (fun y : Int => -10000000 ≤ y ∧ y ≤ 400) No) (Zaf (Zt3 s v m) big (n, 0)) := by
  intro w m n hm hn hn2
  have h4 := hm.il
  refine Ok.loop (fun v : Int × Nat => v.2 ≤ m.items.length ∧ -10000000 ≤ v.1 ∧ v.1 ≤ 400) (fun v : Int × Nat => m.items.length - v.2) ⟨by omega, by omega, by omega⟩ (Zat (by omega)) fun v hv => ?_
  obtain ⟨n, v⟩ := v
  obtain ⟨h5, h6, h7⟩ := hv
  dsimp only at h5 h6 h7
  dsimp only [Zt3, Zyd, br, ix, vz, vw, vs, ln, lxe, cl, wa, wi, eqL, br]
  (repeat' (first | with_reducible refine Ok.br (fun _ => ?_) (fun _ => ?_) | with_reducible refine Ok.pure ?_ | with_reducible refine Ok.idx ?_ (fun _ _ _ => ?_) | (with_reducible apply Ok.bind; (exact o35 _ _ (hm.i _ (by assumption)).o (by (first | trivial | assumption | contradiction | omega | solve_by_elim | (simp only [Bool.and_eq_true, Bool.or_eq_true, Bool.not_eq_true', Bool.and_eq_false_iff, Bool.or_eq_false_iff, decide_eq_true_eq, decide_eq_false_iff_not] at *; omega) | grind)) h7); intro _ _) | (with_reducible apply Ok.bind; (exact o36 _ _ (by simp) (by (first | trivial | assumption | contradiction | omega | solve_by_elim | (simp only [Bool.and_eq_true, Bool.or_eq_true, Bool.not_eq_true', Bool.and_eq_false_iff, Bool.or_eq_false_iff, decide_eq_true_eq, decide_eq_false_iff_not] at *; omega) | grind)) h7); intro _ _) | with_reducible refine Ok.if ?_ ?_)) <;> (first | trivial | assumption | contradiction | omega | grind | (simp only [Bd.c, Bd.vl, ByteArray.size_append, ByteArray.size_extract, sz0] at *; grind))
 have q3 : ∀ n : Int, -10000000 ≤ n → n ≤ 400 → Ok (Sum.elim (fun y : Int => -10000000 ≤ y ∧ y ≤ 400) No) (Zaf (Ztc s) big (n, 0)) := by
  intro n hn hn2
  refine Ok.loop (fun v : Int × Nat => v.2 ≤ s.enums.length ∧ -10000000 ≤ v.1 ∧ v.1 ≤ 400) (fun v : Int × Nat => s.enums.length - v.2) ⟨by omega, by omega, by omega⟩ (Zat (by omega)) fun v hv => ?_
  obtain ⟨n, v⟩ := v
  obtain ⟨h5, h6, h7⟩ := hv
  dsimp only at h5 h6 h7
  dsimp only [Ztc, Zzl, ZAU, Zw8, br, ix, vz, vw, vs, ln, lxe, lc, cl, wa, wi, eqL, br]
  have r1 : ∀ x ∈ s.enums, x.reserved.length ≤ 1048576 := fun x hx => (h.e x hx).r
  (repeat' (first | with_reducible refine Ok.br (fun _ => ?_) (fun _ => ?_) | with_reducible refine Ok.pure ?_ | with_reducible refine Ok.idx ?_ (fun _ _ _ => ?_) | (with_reducible apply Ok.lb; (exact q4 _ _ _ (h.e _ (by assumption)) (by (first | trivial | assumption | contradiction | omega | solve_by_elim | (simp only [Bool.and_eq_true, Bool.or_eq_true, Bool.not_eq_true', Bool.and_eq_false_iff, Bool.or_eq_false_iff, decide_eq_true_eq, decide_eq_false_iff_not] at *; omega) | grind)) (by (first | trivial | assumption | contradiction | omega | solve_by_elim | (simp only [Bool.and_eq_true, Bool.or_eq_true, Bool.not_eq_true', Bool.and_eq_false_iff, Bool.or_eq_false_iff, decide_eq_true_eq, decide_eq_false_iff_not] at *; omega) | grind))); all_goals (intro _ _; try dsimp only)) | (with_reducible apply Ok.bind; (exact o35 _ _ (h.e _ (by assumption)).o (by (first | trivial | assumption | contradiction | omega | solve_by_elim | (simp only [Bool.and_eq_true, Bool.or_eq_true, Bool.not_eq_true', Bool.and_eq_false_iff, Bool.or_eq_false_iff, decide_eq_true_eq, decide_eq_false_iff_not] at *; omega) | grind)) h7); intro _ _) | (with_reducible apply Ok.bind; (exact o36 _ _ (by simp) (by (first | trivial | assumption | contradiction | omega | solve_by_elim | (simp only [Bool.and_eq_true, Bool.or_eq_true, Bool.not_eq_true', Bool.and_eq_false_iff, Bool.or_eq_false_iff, decide_eq_true_eq, decide_eq_false_iff_not] at *; omega) | grind)) h7); intro _ _) | with_reducible refine Ok.if ?_ ?_)) <;> (first | trivial | assumption | contradiction | omega | grind | (simp only [Bd.c, Bd.vl, ByteArray.size_append, ByteArray.size_extract, sz0] at *; grind))
 have q6 : ∀ (v : Nat) (m : Svc) (n : Int), SzW m → -10000000 ≤ n → n ≤ 400 → Ok (Sum.elim (fun y : Int => -10000000 ≤ y ∧ y ≤ 400) No) (Zaf (Zty s v m) big (n, 0)) := by
  intro w m n hm hn hn2
  have h4 := hm.ml
  refine Ok.loop (fun v : Int × Nat => v.2 ≤ m.methods.length ∧ -10000000 ≤ v.1 ∧ v.1 ≤ 400) (fun v : Int × Nat => m.methods.length - v.2) ⟨by omega, by omega, by omega⟩ (Zat (by omega)) fun v hv => ?_
  obtain ⟨n, v⟩ := v
  obtain ⟨h5, h6, h7⟩ := hv
  dsimp only at h5 h6 h7
  dsimp only [Zty, Zxs, br, ix, vz, vw, vs, ln, lxe, cl, wa, wi, eqL, br]
  (repeat' (first | with_reducible refine Ok.br (fun _ => ?_) (fun _ => ?_) | with_reducible refine Ok.pure ?_ | with_reducible refine Ok.idx ?_ (fun _ _ _ => ?_) | (with_reducible apply Ok.bind; (exact o35 _ _ (hm.m _ (by assumption)).o (by (first | trivial | assumption | contradiction | omega | solve_by_elim | (simp only [Bool.and_eq_true, Bool.or_eq_true, Bool.not_eq_true', Bool.and_eq_false_iff, Bool.or_eq_false_iff, decide_eq_true_eq, decide_eq_false_iff_not] at *; omega) | grind)) h7); intro _ _) | (with_reducible apply Ok.bind; (exact o36 _ _ (by simp) (by (first | trivial | assumption | contradiction | omega | solve_by_elim | (simp only [Bool.and_eq_true, Bool.or_eq_true, Bool.not_eq_true', Bool.and_eq_false_iff, Bool.or_eq_false_iff, decide_eq_true_eq, decide_eq_false_iff_not] at *; omega) | grind)) h7); intro _ _) | with_reducible refine Ok.if ?_ ?_)) <;> (first | trivial | assumption | contradiction | omega | grind | (simp only [Bd.c, Bd.vl, ByteArray.size_append, ByteArray.size_extract, sz0] at *; grind))
 have q5 : ∀ n : Int, -10000000 ≤ n → n ≤ 400 → Ok (Sum.elim (fun y : Int => -10000000 ≤ y ∧ y ≤ 400) No) (Zaf (ZrS s) big (n, 0)) := by
  intro n hn hn2
  refine Ok.loop (fun v : Int × Nat => v.2 ≤ s.services.length ∧ -10000000 ≤ v.1 ∧ v.1 ≤ 400) (fun v : Int × Nat => s.services.length - v.2) ⟨by omega, by omega, by omega⟩ (Zat (by omega)) fun v hv => ?_
  obtain ⟨n, v⟩ := v
  obtain ⟨h5, h6, h7⟩ := hv
  dsimp only at h5 h6 h7
  dsimp only [ZrS, ZqX, ZoG, ZmC, br, ix, vz, vw, vs, ln, lxe, lc, cl, wa, wi, eqL, br]
  (repeat' (first | with_reducible refine Ok.br (fun _ => ?_) (fun _ => ?_) | with_reducible refine Ok.pure ?_ | with_reducible refine Ok.idx ?_ (fun _ _ _ => ?_) | (with_reducible apply Ok.lb; (exact q6 _ _ _ (h.w _ (by assumption)) (by (first | trivial | assumption | contradiction | omega | solve_by_elim | (simp only [Bool.and_eq_true, Bool.or_eq_true, Bool.not_eq_true', Bool.and_eq_false_iff, Bool.or_eq_false_iff, decide_eq_true_eq, decide_eq_false_iff_not] at *; omega) | grind)) (by (first | trivial | assumption | contradiction | omega | solve_by_elim | (simp only [Bool.and_eq_true, Bool.or_eq_true, Bool.not_eq_true', Bool.and_eq_false_iff, Bool.or_eq_false_iff, decide_eq_true_eq, decide_eq_false_iff_not] at *; omega) | grind))); all_goals (intro _ _; try dsimp only)) | (with_reducible apply Ok.bind; (exact o35 _ _ (h.w _ (by assumption)).o (by (first | trivial | assumption | contradiction | omega | solve_by_elim | (simp only [Bool.and_eq_true, Bool.or_eq_true, Bool.not_eq_true', Bool.and_eq_false_iff, Bool.or_eq_false_iff, decide_eq_true_eq, decide_eq_false_iff_not] at *; omega) | grind)) h7); intro _ _) | (with_reducible apply Ok.bind; (exact o36 _ _ (by simp) (by (first | trivial | assumption | contradiction | omega | solve_by_elim | (simp only [Bool.and_eq_true, Bool.or_eq_true, Bool.not_eq_true', Bool.and_eq_false_iff, Bool.or_eq_false_iff, decide_eq_true_eq, decide_eq_false_iff_not] at *; omega) | grind)) h7); intro _ _) | with_reducible refine Ok.if ?_ ?_)) <;> (first | trivial | assumption | contradiction | omega | grind | (simp only [Bd.c, Bd.vl, ByteArray.size_append, ByteArray.size_extract, sz0] at *; grind))
 dsimp only [Zbm, Zqu, Zql, ZmU, Zop, Zng, br, vz, vy, vw, vg, lr, lc, wa, eqL, br]
 (repeat' (first | with_reducible refine Ok.br (fun _ => ?_) (fun _ => ?_) | with_reducible refine Ok.pure ?_ | (with_reducible apply Ok.lb; (exact q1); all_goals (intro _ _; try dsimp only)) | (with_reducible apply Ok.lb; (exact q3 _ (by (first | trivial | assumption | contradiction | omega | solve_by_elim | (simp only [Bool.and_eq_true, Bool.or_eq_true, Bool.not_eq_true', Bool.and_eq_false_iff, Bool.or_eq_false_iff, decide_eq_true_eq, decide_eq_false_iff_not] at *; omega) | grind)) (by (first | trivial | assumption | contradiction | omega | solve_by_elim | (simp only [Bool.and_eq_true, Bool.or_eq_true, Bool.not_eq_true', Bool.and_eq_false_iff, Bool.or_eq_false_iff, decide_eq_true_eq, decide_eq_false_iff_not] at *; omega) | grind))); all_goals (intro _ _; try dsimp only)) | (with_reducible apply Ok.lb; (exact q5 _ (by (first | trivial | assumption | contradiction | omega | solve_by_elim | (simp only [Bool.and_eq_true, Bool.or_eq_true, Bool.not_eq_true', Bool.and_eq_false_iff, Bool.or_eq_false_iff, decide_eq_true_eq, decide_eq_false_iff_not] at *; omega) | grind)) (by (first | trivial | assumption | contradiction | omega | solve_by_elim | (simp only [Bool.and_eq_true, Bool.or_eq_true, Bool.not_eq_true', Bool.and_eq_false_iff, Bool.or_eq_false_iff, decide_eq_true_eq, decide_eq_false_iff_not] at *; omega) | grind))); all_goals (intro _ _; try dsimp only)) | with_reducible refine Ok.if ?_ ?_)) <;> first | (first | trivial | assumption | contradiction | omega | grind | (simp only [Bd.c, Bd.vl, ByteArray.size_append, ByteArray.size_extract, sz0] at *; grind)) | exact fun _ => ⟨by (first | trivial | assumption | contradiction | omega | solve_by_elim | (simp only [Bool.and_eq_true, Bool.or_eq_true, Bool.not_eq_true', Bool.and_eq_false_iff, Bool.or_eq_false_iff, decide_eq_true_eq, decide_eq_false_iff_not] at *; omega) | grind), by (first | trivial | assumption | contradiction | omega | solve_by_elim | (simp only [Bool.and_eq_true, Bool.or_eq_true, Bool.not_eq_true', Bool.and_eq_false_iff, Bool.or_eq_false_iff, decide_eq_true_eq, decide_eq_false_iff_not] at *; omega) | grind), by (first | trivial | assumption | contradiction | omega | solve_by_elim | (simp only [Bool.and_eq_true, Bool.or_eq_true, Bool.not_eq_true', Bool.and_eq_false_iff, Bool.or_eq_false_iff, decide_eq_true_eq, decide_eq_false_iff_not] at *; omega) | grind)⟩
end Go.Proofs.YtchkcemlglpobaaGreat
namespace Go.Proofs.YtchkcemlglpobaaGreat
set_option linter.all false
open Go Go.Eng
abbrev BkV (v : Val) : Prop := bkL (Zay v) ≤ 1048576
theorem ZIi {v x : Val} (h : BkV v) (hx : x ∈ v.list) : BkV x := by
 have h1 := ZcR (e := Zb7) hx
 rw [Zd2] at h1
 unfold BkV at *
 conv at h => unfold Zay
 simp only [bkL, bk] at h
 omega
theorem ZDY {v : Val} {x : Pr} (h : BkV v) (hx : x ∈ v.pairs) : BkV x.key ∧ BkV x.val := by
 have h1 := ZcR (e := rPr) hx
 have e : rPr x = Zay x.key ++ Zay x.val := by rw [Zg1]; rfl
 rw [e, ZhD] at h1
 unfold BkV at *
 conv at h => unfold Zay
 simp only [bkL, bk] at h
 omega
theorem ZI5 {v : Val} {x : Slt} (h : BkV v) (hx : x ∈ v.slots) : BkV x.val := by
 have h1 := ZcR (e := Zar) hx
 have e : Zar x = D.int .i64 x.num :: Zay x.val := by rw [Zc7]; rfl
 rw [e, bkL] at h1
 unfold BkV at *
 conv at h => unfold Zay
 simp only [bkL, bk] at h
 omega
theorem Zfo {α : Type} (p : α → Bool) : ∀ l : List α, l.find? p = (l.findIdx? p).bind fun i => l[i]?
 | [] => rfl
 | x :: l => by
  rw [List.find?_cons, List.findIdx?_cons]
  cases h : p x with
  | true => simp
  | false =>
   rw [Zfo p l]
   cases List.findIdx? p l <;> simp
def Zur {α : Type} [Inhabited α] (l : List α) (z : α) (p : α → Bool) : α × Bool := (l.find? p).elim (z, false) fun x => (x, true)
theorem ZpE {α : Type} [Inhabited α] (l : List α) (z : α) (p : α → Bool) : Zur l z p = match l.findIdx? p with | some i => (l.getD i default, true) | none => (z, false) := by
 unfold Zur
 rw [Zfo]
 cases h : l.findIdx? p with
 | none => rfl
 | some i =>
  have := (Yal.1 h).1
  simp [this]
def zM : Msg := .mk ⟨#[]⟩ [] [] [] []
theorem m32 (s : Scm) (n : ByteArray) (h : s.messages.length ≤ 1048576) : Za6 s n = some (Zur s.messages zM fun m => decide (m.name = n)) := by
 have q1 := ZeP (B := Zp6 s n) (N := big) s.messages (fun m => decide (m.name = n)) (fun i => (s.messages.getD i default, true)) () (fun i x hx => by
  have g1 := ZhT hx
  have g0 := (List.getElem?_eq_some_iff.1 hx).1
  have g2 : i + 1 < 9223372036854775808 := by omega
  dsimp only [Zp6, Zs6, br, ix, vz, vw, vs, lrt, ln, lxe, wa, eqL, br]
  simp only [g1, g2, hx, decide_true, if_true, Yn, Yt, YV]
  cases decide (x.name = n) <;> simp) (by simp [Zp6, Zs6, br, ix, vz, vw, vs, lrt, ln, lxe, wa, eqL, br]) (Zdt (by omega))
 dsimp only [Za6, ZzP, ZxD, ZAy, vw, lr, lc]
 rw [q1, ZpE]
 cases s.messages.findIdx? fun m => decide (m.name = n) <;> rfl
theorem m84 (l : List Msg) (n : ByteArray) (h : l.length ≤ 1048576) : Zba l (fun z => Za0 z n) = some (Zur l zM fun m => decide (m.name = n)) := by
 have q1 := ZeP (B := Zov l fun z => Za0 z n) (N := big) l (fun m => decide (m.name = n)) (fun i => (l.getD i default, true)) () (fun i x hx => by
  have g1 := ZhT hx
  have g0 := (List.getElem?_eq_some_iff.1 hx).1
  have g2 : i + 1 < 9223372036854775808 := by omega
  have e : Za0 x n = some (decide (x.name = n)) := rfl
  dsimp only [Zov, Zt8, br, ix, vw, vs, lrt, ln, lxe, cf, wa, br]
  simp only [g1, g2, hx, e, decide_true, if_true, Yn, Yt, YV]
  cases decide (x.name = n) <;> simp) (by simp [Zov, Zt8, br, ix, vw, vs, lrt, ln, lxe, cf, wa, br]) (Zdt (by omega))
 dsimp only [Zba, Zzw, ZxJ, ZzQ, vz, vw, lr, lc, eqL]
 rw [q1, ZpE]
 cases l.findIdx? fun m => decide (m.name = n) <;> rfl
def wvM (l : List Msg) : List (ByteArray × Msg) := l.foldl (fun r m => if inM m.name r = true then r else Zfh m.name m r) []
def wvE (l : List Enm) : List (ByteArray × Bool) := l.foldl (fun r e => Zfh e.name true r) []
theorem Zln (l : List Msg) (m : Msg) : wvM (l ++ [m]) = if inM m.name (wvM l) = true then wvM l else Zfh m.name m (wvM l) := by unfold wvM; rw [YaZ]; rfl
theorem Zlc (l : List Enm) (e : Enm) : wvE (l ++ [e]) = Zfh e.name true (wvE l) := by unfold wvE; rw [YaZ]; rfl
theorem ZqR {α : Type} {P : List α → Prop} (h0 : P []) (h1 : ∀ l x, P l → P (l ++ [x])) (l : List α) : P l := by
 have : ∀ l : List α, P l.reverse := fun l => by
  induction l with
  | nil => exact h0
  | cons x l ih => rw [List.reverse_cons]; exact h1 _ _ ih
 simpa using this l.reverse
theorem ZEo (l : List Msg) : (∀ n, ZgX n (wvM l) = l.find? fun m => decide (m.name = n)) ∧ (ZdV (wvM l)).Nodup ∧ (wvM l).length ≤ l.length := by
 refine ZqR (P := fun l => (∀ n, ZgX n (wvM l) = l.find? fun m => decide (m.name = n)) ∧ (ZdV (wvM l)).Nodup ∧ (wvM l).length ≤ l.length) ⟨fun n => rfl, by simp [wvM, ZdV], Yd _⟩ (fun l m ⟨a, b, c⟩ => ?_) l
 rw [Zln]
 split
 ·rename_i h
  refine ⟨fun n => ?_, b, by simp; omega⟩
  rw [a, List.find?_append]
  cases hf : l.find? fun m => decide (m.name = n) with
  | some x => rfl
  | none =>
   have : ¬ m.name = n := fun e => by
    subst e
    unfold inM at h
    rw [a, hf] at h
    cases h
   simp [this]
 ·rename_i h
  refine ⟨fun n => ?_, ZBA _ _ b, Y9 (Zyc ..) (by simp; omega)⟩
  rw [Zfw, List.find?_append, a]
  by_cases e : m.name = n
  ·subst e
   have : l.find? (fun x => decide (x.name = m.name)) = none := by
    unfold inM at h
    rw [a] at h
    simpa using h
   simp [this]
  ·simp only [e, if_false]
   cases l.find? fun m => decide (m.name = n) <;> simp [e]
theorem ZCX (l : List Enm) (n : ByteArray) : lkM n (wvE l) = l.any fun e => decide (e.name = n) := by
 refine ZqR (P := fun l => lkM n (wvE l) = l.any fun e => decide (e.name = n)) rfl (fun l e ih => ?_) l
 rw [Zlc, List.any_append, ← ih]
 unfold lkM
 rw [Zfw]
 by_cases h : e.name = n <;> simp [h]
def ZK5 (s : Scm) : Web := ⟨wvM s.messages, wvE s.enums⟩
theorem ZAT (s : Scm) : WOk s (ZK5 s) := by
 obtain ⟨a, b, c⟩ := ZEo s.messages
 exact ⟨a, ZCX s.enums, b, c⟩
theorem ZNh {s : Scm} (h : Fw s) : ZdB s = some (ZK5 s) := by
 have hm := h.m
 have he := h.e
 have q1 : Zaf (ZlK s) big (0, []) = some (.inl (wvM s.messages)) := by
  have := Zja (B := ZlK s) (N := big) s.messages wvM (fun i b => (i, b)) id (hN := Zdt (by omega)) (he := by simp [ZlK, ZrZ, br, ix, vw, vs, ln, lxe, wa, mlk, mpu, br]) (hs := fun i x hx => by
   have g1 := ZhT hx
   have g0 := (List.getElem?_eq_some_iff.1 hx).1
   have g2 : i + 1 < 9223372036854775808 := by omega
   dsimp only [ZlK, ZrZ, br, ix, vw, vs, ln, lxe, wa, mlk, mpu, br]
   simp only [g1, g2, hx, decide_true, if_true, Yn, Zln]
   cases inM x.name (wvM (s.messages.take i)) <;> simp)
  exact this
 have q2 : Zaf (ZlL s (wvM s.messages)) big (0, []) = some (.inl (wvE s.enums)) := by
  have := Zja (B := ZlL s (wvM s.messages)) (N := big) s.enums wvE (fun i b => (i, b)) id (hN := Zdt (by omega)) (he := by simp [ZlL, Zse, br, ix, vw, vs, ln, lxe, wa, mpu, br]) (hs := fun i x hx => by
   have g1 := ZhT hx
   have g0 := (List.getElem?_eq_some_iff.1 hx).1
   have g2 : i + 1 < 9223372036854775808 := by omega
   dsimp only [ZlL, Zse, br, ix, vw, vs, ln, lxe, wa, mpu, br]
   simp only [g1, g2, hx, decide_true, if_true, Yn, Zlc])
  exact this
 dsimp only [ZdB, Zxv, Zz3, Zz5, Zzq, vz, vw, lr, lc, eqL]
 rw [q1]
 simp only [Yn, Ya8, q2]
 rfl
section
variable {s : Scm} {w : Web} (hw : WOk s w) (h : Fw s)
include hw
theorem ZMj (f : Fld) : Zc8 w f = some (toF s f) := by
 dsimp only [Zc8, ZpI, vw, lr, mlk]
 rw [hw.im]
 rfl
end
theorem Zjv {l r : List ByteArray} (h : l.Perm r) : Zhx l = Zhx r :=
 (((Zck l).trans h).trans (Zck r).symm).eq_of_pairwise (fun a b _ _ h1 h2 => ZnF (List.le_antisymm h1 h2)) (ZfC l) (ZfC r)
theorem ZDv {l r : List ByteArray} (h : l.Nodup) (hs : ∀ x ∈ l, x ∈ r) : l.length ≤ r.length := List.Nodup.length_le_of_subset h hs
theorem Zhb {α : Type} : ∀ {l : List α} {i : Nat} {x : α}, l[i]? = some x → (x :: l.eraseIdx i).Perm l
 | a :: l, 0, x, h => by simp at h; subst h; exact .refl _
 | a :: l, i + 1, x, h => by
  simp at h
  exact (List.Perm.swap ..).trans ((Zhb h).cons a)
def nmW (w : Web) : List ByteArray := Zhx (ZdV w.messages)
section
variable {s : Scm} {w : Web} (hw : WOk s w) (h : Fw s)
include hw
theorem ZjV (n : ByteArray) : n ∈ nmW w ↔ isM s n = true := by
 unfold nmW
 rw [(Zck _).mem_iff, hw.key]
include h
theorem ZAs : (nmW w).length ≤ 900 := by
 unfold nmW
 rw [(Zck _).length_eq]
 have := hw.l
 have := h.m
 simp only [ZdV, Yu]
 omega
theorem n33 : Zdn w = some (nmW w) := by
 have hl := hw.l
 have hm := h.m
 refine Zqb ?_
 have q1 : Zia (ZiX Zl5 big ([], w.messages)) fun o => Sum.elim (fun l => l.Perm (ZdV w.messages)) (fun _ => False) o := by
  refine Zi7 (B := Zl5) (fun k v => v.2.length = k ∧ (v.1 ++ ZdV v.2).Perm (ZdV w.messages)) _ (fun k v hI => ?_) big w.messages.length ([], w.messages) (Zdt (by omega)) ⟨rfl, .refl _⟩
  obtain ⟨r1, r2⟩ := v
  obtain ⟨h1, h2⟩ := hI
  simp only at h1 h2
  have hlen : r1.length ≤ 900 := by
   have := h2.length_eq
   simp only [Yr, ZdV, Yu] at this
   omega
  unfold Zl5
  simp only
  unfold ZtF
  refine Zxt (fun e => ?_) (fun i x hx => ?_)
  ·subst e
   refine ZeO ?_
   simpa [ZdV] using h2
  ·have hlt := (List.getElem?_eq_some_iff.1 hx).1
   dsimp only [Zl5, ZtF, vz, vw, ap, nxN, lnN, ZJP, fl]
   rw [if_pos (by omega)]
   refine ZeO ⟨(r2.eraseIdx i).length, by rw [List.length_eraseIdx_of_lt hlt]; omega, rfl, ?_⟩
   have e := (List.getElem?_eq_some_iff.1 hx).2
   have hp : (x :: r2.eraseIdx i).Perm r2 := Zhb hx
   refine .trans ?_ h2
   rw [YW]
   refine List.Perm.append_left _ ?_
   exact hp.map (·.1)
 dsimp only [Zcl, Zxz, Zxk, ZzN, ZAb, Zx5, ZwM, vz, vw, lc, rn, lrN, fl, fr]
 refine Zjg q1 fun o ho => ?_
 cases o with
 | inr _ => exact ho.elim
 | inl l =>
  have ho : l.Perm (ZdV w.messages) := ho
  have hlen : l.length ≤ 900 := by
   have := ho.length_eq
   simp only [ZdV, Yu] at this
   omega
  have hs : (Zhx l).length = l.length := (Zck l).length_eq
  simp only [Ya8]
  unfold ZdI
  rw [if_pos (by omega)]
  simp only [Yn, hs, if_true]
  exact ZeO (Zjv ho)
end
def ixM (s : Scm) (n : ByteArray) : Option Nat := s.messages.findIdx? fun m => decide (m.name = n)
def Ztk (s : Scm) (n : ByteArray) : Msg × Int := (ixM s n).elim (zM, -1) fun i => (s.messages.getD i zM, (i : Int))
theorem Zox (s : Scm) (n : ByteArray) : Zri s n = (ixM s n).bind fun i => s.messages[i]? := Zfo _ _
theorem Ziz {s : Scm} {n : ByteArray} {i : Nat} (h : ixM s n = some i) : i < s.messages.length := by
 unfold ixM at h
 rw [Yal] at h
 exact h.1
theorem Zfs (s : Scm) (n : ByteArray) : (ixM s n).isSome = isM s n := by
 unfold isM
 rw [Zox]
 cases h : ixM s n with
 | none => rfl
 | some i => simp [Yb (Ziz h)]
theorem ZES {s : Scm} (h : Fw s) (n : ByteArray) : Za2 s n = some (Ztk s n) := by
 have hm := h.m
 have q1 := ZeP (B := ZqG s n) (N := big) s.messages (fun m => decide (m.name = n)) (fun i => (s.messages.getD i zM, (i : Int))) () (fun i x hx => by
  have g1 := ZhT hx
  have g0 := (List.getElem?_eq_some_iff.1 hx).1
  have g2 : i + 1 < 9223372036854775808 := by omega
  dsimp only [ZqG, Zs2, br, ix, vz, vw, vs, lrt, ln, lxe, wa, eqL, br]
  simp only [g1, g2, hx, decide_true, if_true, Yn, Yt, YV]
  cases decide (x.name = n) <;> simp) (by simp [ZqG, Zs2, br, ix, vz, vw, vs, lrt, ln, lxe, wa, eqL, br]) (Zdt (by omega))
 dsimp only [Za2, Zwy, Zx7, Zxb, vw, lr, lc]
 rw [q1]
 unfold Ztk ixM
 cases s.messages.findIdx? fun m => decide (m.name = n) <;> rfl
def rqF (s : Scm) (f : Fld) : Bool := decide (f.card = 1) && toF s f
def rqL (s : Scm) (n : ByteArray) : List ByteArray := ((Zdl s n).filter (rqF s)).map fun f => f.type.name
def hgL (K : ByteArray → Int) (l : List ByteArray) : Int := if l.any (fun x => decide (K x = 0)) = true then 0 else l.foldl (fun h x => max h (K x + 1)) 1
theorem ZiJ {K : ByteArray → Int} {l : List ByteArray} : l.any (fun x => decide (K x = 0)) = true ↔ ∃ x ∈ l, K x = 0 := by simp [YH]
theorem Zxa {K : ByteArray → Int} {l : List ByteArray} (h : ∃ x ∈ l, K x = 0) : hgL K l = 0 := by unfold hgL; rw [if_pos (ZiJ.2 h)]
theorem Zer (K : ByteArray → Int) : ∀ (l : List ByteArray) (a : Int), a ≤ l.foldl (fun h x => max h (K x + 1)) a ∧ ∀ x ∈ l, K x + 1 ≤ l.foldl (fun h x => max h (K x + 1)) a
 | [], a => ⟨YaS _, fun x h => by cases h⟩
 | y :: l, a => by
  obtain ⟨h1, h2⟩ := Zer K l (max a (K y + 1))
  rw [Yap]
  refine ⟨by omega, fun x hx => ?_⟩
  rcases Ys.1 hx with rfl | hx
  ·omega
  ·exact h2 x hx
theorem ZhP (K : ByteArray → Int) : ∀ (l : List ByteArray) (a : Int), l.foldl (fun h x => max h (K x + 1)) a = a ∨ ∃ x ∈ l, l.foldl (fun h x => max h (K x + 1)) a = K x + 1
 | [], a => .inl rfl
 | y :: l, a => by
  rw [Yap]
  rcases ZhP K l (max a (K y + 1)) with h | ⟨x, hx, h⟩
  ·by_cases hc : a ≤ K y + 1
   ·exact .inr ⟨y, Yw .., by rw [h]; omega⟩
   ·exact .inl (by rw [h]; omega)
  ·exact .inr ⟨x, Yq _ hx, h⟩
theorem Ze9 {K : ByteArray → Int} {l : List ByteArray} (h : hgL K l ≠ 0) : (∀ x ∈ l, K x ≠ 0) ∧ hgL K l = l.foldl (fun h x => max h (K x + 1)) 1 := by
 unfold hgL at *
 split at h
 ·exact absurd rfl h
 ·rename_i hc
  rw [if_neg hc]
  exact ⟨fun x hx e => hc (ZiJ.2 ⟨x, hx, e⟩), rfl⟩
theorem ZeI {K J : ByteArray → Int} {l : List ByteArray} (h : ∀ x ∈ l, K x = J x) : hgL K l = hgL J l := by
 unfold hgL
 have e1 : l.any (fun x => decide (K x = 0)) = l.any (fun x => decide (J x = 0)) := by
  rw [Bool.eq_iff_iff, ZiJ, ZiJ]
  exact ⟨fun ⟨x, a, b⟩ => ⟨x, a, by rw [← h x a]; exact b⟩, fun ⟨x, a, b⟩ => ⟨x, a, by rw [h x a]; exact b⟩⟩
 have e2 : ∀ a : Int, l.foldl (fun h x => max h (K x + 1)) a = l.foldl (fun h x => max h (J x + 1)) a := by
  clear e1
  induction l with
  | nil => intro a; rfl
  | cons y l ih =>
   intro a
   rw [Yap, Yap, h y (Yw ..)]
   exact ih (fun x hx => h x (Yq _ hx)) _
 rw [e1, e2]
def jac (s : Scm) : Nat → ByteArray → Int
 | 0, _ => 0
 | k + 1, n => if isM s n = true then hgL (jac s k) (rqL s n) else 0
theorem Zg3 (s : Scm) : ∀ (k : Nat) (n : ByteArray), 0 ≤ jac s k n ∧ jac s k n ≤ k
 | 0, n => ⟨YaS _, YaS _⟩
 | k + 1, n => by
  unfold jac
  split
  ·by_cases h : hgL (jac s k) (rqL s n) = 0
   ·rw [h]; omega
   ·obtain ⟨h1, h2⟩ := Ze9 h
    rw [h2]
    have h3 := (Zer (jac s k) (rqL s n) 1).1
    rcases ZhP (jac s k) (rqL s n) 1 with h4 | ⟨x, hx, h4⟩
    ·omega
    ·have := (Zg3 s k x).2
     omega
  ·omega
theorem ZpM (s : Scm) : ∀ (k : Nat) (n : ByteArray), jac s k n ≠ 0 → jac s (k + 1) n = jac s k n
 | 0, n, h => absurd rfl h
 | k + 1, n, h => by
  rw [show jac s (k + 1 + 1) n = if isM s n = true then hgL (jac s (k + 1)) (rqL s n) else 0 from rfl]
  have e : jac s (k + 1) n = if isM s n = true then hgL (jac s k) (rqL s n) else 0 := rfl
  rw [e] at h ⊢
  by_cases hm : isM s n = true
  ·rw [if_pos hm] at h ⊢
   rw [if_pos hm]
   exact ZeI fun x hx => ZpM s k x ((Ze9 h).1 x hx)
  ·rw [if_neg hm] at h; exact absurd rfl h
theorem Zhy (s : Scm) (k : Nat) {n : ByteArray} (h : jac s k n ≠ 0) : ∀ j, jac s (k + j) n = jac s k n
 | 0 => rfl
 | j + 1 => by
  have := Zhy s k h j
  rw [← Yp, ZpM s (k + j) n (by rw [this]; exact h), this]
theorem ZvB (s : Scm) : ∀ (k : Nat) (n : ByteArray), jac s k n ≠ 0 → jac s (jac s k n).toNat n = jac s k n
 | 0, n, h => absurd rfl h
 | k + 1, n, h => by
  have e : jac s (k + 1) n = if isM s n = true then hgL (jac s k) (rqL s n) else 0 := rfl
  by_cases hm : isM s n = true
  ·rw [if_pos hm] at e
   rw [e] at h ⊢
   obtain ⟨h1, h2⟩ := Ze9 h
   obtain ⟨d, hd⟩ : ∃ d : Nat, hgL (jac s k) (rqL s n) = (d + 1 : Nat) := by
    have := (Zer (jac s k) (rqL s n) 1).1
    rw [← h2] at this
    exact ⟨(hgL (jac s k) (rqL s n)).toNat - 1, by omega⟩
   rw [hd, YaX]
   rw [show jac s (d + 1) n = if isM s n = true then hgL (jac s d) (rqL s n) else 0 from rfl, if_pos hm, ← hd]
   refine ZeI fun x hx => ?_
   have h3 := (Zer (jac s k) (rqL s n) 1).2 x hx
   rw [← h2, hd] at h3
   have h4 := ZvB s k x (h1 x hx)
   have h5 := (Zg3 s k x).1
   obtain ⟨j, hj⟩ : ∃ j, d = (jac s k x).toNat + j := ⟨d - (jac s k x).toNat, by omega⟩
   rw [hj, Zhy s _ (by rw [h4]; exact h1 x hx) j, h4]
  ·rw [if_neg hm] at e
   exact absurd e h
theorem Zv4 (s : Scm) : ∀ (d : Nat) (k : Nat) (n : ByteArray), jac s k n = (d : Int) → ∃ l : List ByteArray, l.length = d ∧ l.Nodup ∧ (∀ x ∈ l, isM s x = true ∧ jac s k x ≤ (d : Int) ∧ jac s k x ≠ 0)
 | 0, k, n, h => ⟨[], rfl, .nil, fun x hx => by cases hx⟩
 | d + 1, 0, n, h => by
  have : (0 : Int) = ((d + 1 : Nat) : Int) := h
  omega
 | d + 1, k + 1, n, h => by
  have e : jac s (k + 1) n = if isM s n = true then hgL (jac s k) (rqL s n) else 0 := rfl
  have hne : jac s (k + 1) n ≠ 0 := by rw [h]; omega
  by_cases hm : isM s n = true
  ·rw [if_pos hm] at e
   have hne2 : hgL (jac s k) (rqL s n) ≠ 0 := by rw [← e]; exact hne
   obtain ⟨h1, h2⟩ := Ze9 hne2
   rcases ZhP (jac s k) (rqL s n) 1 with h4 | ⟨x, hx, h4⟩
   ·have : d = 0 := by rw [e, h2, h4] at h; omega
    subst this
    exact ⟨[n], rfl, by simp, fun y hy => by rw [Y3.1 hy]; exact ⟨hm, by rw [h]; omega, hne⟩⟩
   ·have hx2 : jac s (k + 1) x = (d : Int) := by rw [ZpM s k x (h1 x hx)]; rw [e, h2, h4] at h; omega
    obtain ⟨l, l1, l2, l3⟩ := Zv4 s d (k + 1) x hx2
    refine ⟨n :: l, by simp [l1], Ybd.2 ⟨fun hn => ?_, l2⟩, fun y hy => ?_⟩
    ·have := (l3 n hn).2.1
     omega
    ·rcases Ys.1 hy with rfl | hy
     ·exact ⟨hm, by rw [h]; omega, hne⟩
     ·obtain ⟨a, b, c⟩ := l3 y hy
      exact ⟨a, by omega, c⟩
  ·rw [if_neg hm] at e
   exact absurd e hne
theorem Zvf {s : Scm} {r : List ByteArray} (hr : ∀ n, isM s n = true → n ∈ r) (k : Nat) (n : ByteArray) : jac s k n ≤ (r.length : Int) := by
 have h0 := (Zg3 s k n).1
 obtain ⟨l, h1, h2, h3⟩ := Zv4 s (jac s k n).toNat k n (by omega)
 have := ZDv h2 (r := r) fun x hx => hr x (h3 x hx).1
 omega
theorem ZxP {s : Scm} {N : Nat} (hN : ∀ k n, jac s k n ≤ (N : Int)) : ∀ (j : Nat) (n : ByteArray), jac s (N + j) n = jac s N n := fun j n => by
 by_cases h : jac s N n = 0
 ·by_cases h2 : jac s (N + j) n = 0
  ·rw [h, h2]
  ·have h3 := ZvB s (N + j) n h2
   have h4 := (Zg3 s (N + j) n).1
   have h5 := hN (N + j) n
   obtain ⟨i, hi⟩ : ∃ i, N = (jac s (N + j) n).toNat + i := ⟨N - (jac s (N + j) n).toNat, by omega⟩
   have h6 := Zhy s (jac s (N + j) n).toNat (n := n) (by rw [h3]; exact h2) i
   rw [← hi, h3] at h6
   rw [h6]
 ·exact Zhy s N h j
def hgt (s : Scm) (n : ByteArray) : Int := jac s s.messages.length n
theorem Zws {s : Scm} (k : Nat) (n : ByteArray) : jac s k n ≤ (s.messages.length : Int) := by
 have := Zvf (s := s) (r := nmM s) (fun n h => ZxC.1 h) k n
 unfold nmM at this
 rwa [Yu] at this
theorem Zz9 (s : Scm) (j : Nat) (n : ByteArray) : jac s (s.messages.length + j) n = hgt s n := ZxP Zws j n
theorem ZkO (s : Scm) (n : ByteArray) : hgt s n = if isM s n = true then hgL (hgt s) (rqL s n) else 0 := by
 rw [← Zz9 s 1 n]
 rfl
theorem ZiN (s : Scm) (n : ByteArray) : 0 ≤ hgt s n ∧ hgt s n ≤ (s.messages.length : Int) := ⟨(Zg3 s _ n).1, Zws _ n⟩
def ZxM (s : Scm) (K : ByteArray → Int) (r : Int) : Prop := (∀ n, K n = 0 ∨ K n = hgt s n) ∧ ∀ n, hgt s n ≠ 0 → hgt s n ≤ r → K n = hgt s n
theorem ZxM.hg {s : Scm} {K : ByteArray → Int} {r : Int} (h : ZxM s K r) {n : ByteArray} (hm : isM s n = true) : (hgL K (rqL s n) = 0 ∨ hgL K (rqL s n) = hgt s n) ∧ (hgt s n ≠ 0 → hgt s n ≤ r + 1 → hgL K (rqL s n) = hgt s n) := by
 have e := ZkO s n
 rw [if_pos hm] at e
 refine ⟨?_, fun h1 h2 => ?_⟩
 ·by_cases hz : hgL K (rqL s n) = 0
  ·exact .inl hz
  ·refine .inr ?_
   rw [e]
   exact ZeI fun x hx => (h.1 x).resolve_left ((Ze9 hz).1 x hx)
 ·rw [e]
  have h3 : hgL (hgt s) (rqL s n) ≠ 0 := by rw [← e]; exact h1
  obtain ⟨h4, h5⟩ := Ze9 h3
  refine ZeI fun x hx => h.2 x (h4 x hx) ?_
  have := (Zer (hgt s) (rqL s n) 1).2 x hx
  rw [← h5, ← e] at this
  omega
theorem ZjC (x y : ByteArray) (v : Int) (r : List (ByteArray × Int)) : lkM y (Zfh x v r) = if x = y then v else lkM y r := by
 unfold lkM
 rw [Zfw]
 split <;> rfl
section
variable {s : Scm} {w : Web} (hw : WOk s w) (h : Fw s)
include hw h
theorem ZLO (n : ByteArray) (K : List (ByteArray × Int)) (hK : ∀ x, 0 ≤ lkM x K ∧ lkM x K ≤ 1000) : Zbc w n K = some (hgL (fun x => lkM x K) (rqL s n)) := by
 have hl := h.fl n
 have e := hw.fl n
 have q1 := Zrr (B := ZfN w K (lkM n w.messages)) (N := big) (Zdl s n) (fun i (v : Int) => (v, i)) (fun i v => 1 ≤ v ∧ v ≤ 1001) (fun v f => if rqF s f = true then (if lkM f.type.name K = 0 then .inr 0 else .inl (max v (lkM f.type.name K + 1))) else (.inl v : Int ⊕ Int)) id (fun i v f hf hI => by
  have g1 := ZhT hf
  have g0 := (List.getElem?_eq_some_iff.1 hf).1
  have g2 : i + 1 < 9223372036854775808 := by omega
  obtain ⟨k1, k2⟩ := hK f.type.name
  refine ⟨?_, fun b' q => ?_⟩
  ·dsimp only [ZfN, ZhI, br, ix, vw, vs, lrt, ln, lxe, clg, wa, wi, mlk, br]
   unfold rqF
   simp only [e, g1, g2, hf, ZMj hw, decide_true, if_true, Yn, Option.isSome_some, implies_true, YV]
   by_cases hc : f.card = 1
   ·cases ht : toF s f with
    | false => simp [hc]
    | true =>
     by_cases hz : lkM f.type.name K = 0
     ·simp [hc, hz]
     ·have g3 : mmI true v (lkM f.type.name K + 1) = max v (lkM f.type.name K + 1) := by unfold mmI; simp only [if_true]; omega
      have g4 : (-9223372036854775808 : Int) ≤ lkM f.type.name K + 1 ∧ lkM f.type.name K + 1 < 9223372036854775808 := by omega
      simp [hc, hz, g3, g4]
   ·simp [hc]
  ·split at q
   ·split at q
    ·cases q
    ·cases q; omega
   ·cases q; exact hI) (fun v _ => by dsimp only [ZfN, ZhI, br, ix, vw, vs, lrt, ln, lxe, clg, wa, wi, mlk, br]; simp [e]) 1 (by omega) (Zdt (by omega))
 have e2 : ∀ (l : List Fld) (a : Int), ZlE (fun v f => if rqF s f = true then (if lkM f.type.name K = 0 then .inr 0 else .inl (max v (lkM f.type.name K + 1))) else (.inl v : Int ⊕ Int)) a l = if (((l.filter (rqF s)).map fun f => f.type.name).any fun x => decide (lkM x K = 0)) = true then .inr 0 else .inl (((l.filter (rqF s)).map fun f => f.type.name).foldl (fun h x => max h (lkM x K + 1)) a) := fun l => by
  induction l with
  | nil => intro a; rfl
  | cons f l ih =>
   intro a
   rw [ZlE, Ya9]
   cases hr : rqF s f with
   | false => simp [ih]
   | true =>
    by_cases hz : lkM f.type.name K = 0
    ·simp [hz]
    ·simp [hz, ih]
 rw [e2] at q1
 dsimp only [Zbc, Zj1, Zkb, ZjG, vz, vw, lr, lc, mlk, eqL]
 rw [q1]
 unfold hgL rqL
 split <;> rfl
end
section
variable {s : Scm} {w : Web} (hw : WOk s w) (h : Fw s)
include hw h
theorem ZHF {K : List (ByteArray × Int)} {r : Int} (hI : ZxM s (fun x => lkM x K) r) (x : ByteArray) : 0 ≤ lkM x K ∧ lkM x K ≤ 1000 := by
 have h1 := ZiN s x
 have h2 := h.m
 rcases hI.1 x with e | e
 ·have e : lkM x K = 0 := e
  omega
 ·have e : lkM x K = hgt s x := e
  omega
theorem ZMV : ∃ K, Zb8 w = some K ∧ ∀ n, lkM n K = hgt s n := by
 have hn := ZAs hw h
 have q1 := ZdH (B := Zpl w (nmW w)) (I := fun k v => k + v.1 = (nmW w).length ∧ ZxM s (fun x => lkM x v.2) v.1) (Q := fun o => Sum.elim (fun K => ZxM s (fun x => lkM x K) (nmW w).length) (fun _ => False) o) (fun k v hI => by
  obtain ⟨r, K⟩ := v
  obtain ⟨i1, i2⟩ := hI
  simp only at i1 i2
  by_cases hr : r < (nmW w).length
  ·have q2 := ZdH (B := Zmd w (nmW w) r) (I := fun k v => k + v.1 = (nmW w).length ∧ ZxM s (fun x => lkM x v.2) r ∧ ∀ n ∈ (nmW w).take v.1, hgt s n ≠ 0 → hgt s n ≤ (r : Int) + 1 → lkM n v.2 = hgt s n) (Q := fun o => Sum.elim (fun K => ZxM s (fun x => lkM x K) ((r : Int) + 1)) (fun _ => False) o) (fun k v hJ => by
    obtain ⟨i, K⟩ := v
    obtain ⟨j1, j2, j3⟩ := hJ
    simp only at j1 j2 j3
    cases hk : (nmW w)[i]? with
    | none =>
     have hge := Y8.1 hk
     rw [Yas hge] at j3
     refine ⟨.ex K, by dsimp only [Zmd, ZpS, br, ix, vw, vs, v2, ln, lxe, cs, wa, mpu, br]; simp [show ¬ (i : Int) < ((nmW w).length : Int) by omega], j2.1, fun n h1 h2 => j3 n ?_ h1 h2⟩
     rw [ZjV hw]
     cases hm : isM s n with
     | true => rfl
     | false => rw [ZkO, hm] at h1; exact absurd rfl h1
    | some n =>
     have g1 := ZhT hk
     obtain ⟨g0, hgi⟩ := List.getElem?_eq_some_iff.1 hk
     have g2 : i + 1 < 9223372036854775808 := by omega
     have hmem : n ∈ nmW w := Yj hk
     have hm : isM s n = true := (ZjV hw n).1 hmem
     have q := ZLO hw h n K (ZHF hw h j2)
     obtain ⟨h1, h2⟩ := j2.hg hm
     have htk : ∀ x, x ∈ (nmW w).take (i + 1) → x ∈ (nmW w).take i ∨ x = n := fun x hx => by
      obtain ⟨_, rfl⟩ := List.getElem?_eq_some_iff.1 hk
      rw [Y0 g0] at hx
      rcases Yai.1 hx with q | q
      ·exact .inl q
      ·exact .inr (Y3.1 q)
     by_cases hz : 0 < hgL (fun x => lkM x K) (rqL s n)
     ·have he : hgL (fun x => lkM x K) (rqL s n) = hgt s n := h1.resolve_left (by omega)
      refine ⟨.nx (i + 1, Zfh n (hgL (fun x => lkM x K) (rqL s n)) K), by dsimp only [Zmd, ZpS, br, ix, vw, vs, v2, ln, lxe, cs, wa, mpu, br]; simp [g1, g0, g2, hk, hgi, q, hz], k - 1, by omega, by simp only; omega, ⟨fun x => ?_, fun x h3 h4 => ?_⟩, fun x hx h3 h4 => ?_⟩
      ·simp only [ZjC]
       split
       ·rename_i e; subst e; exact .inr he
       ·exact j2.1 x
      ·simp only [ZjC]
       split
       ·rename_i e; subst e; exact he
       ·exact j2.2 x h3 h4
      ·simp only [ZjC]
       split
       ·rename_i e; subst e; exact he
       ·rename_i e
        exact j3 x ((htk x hx).resolve_right fun q => e q.symm) h3 h4
     ·refine ⟨.nx (i + 1, K), by dsimp only [Zmd, ZpS, br, ix, vw, vs, v2, ln, lxe, cs, wa, mpu, br]; simp [g1, g0, g2, hk, hgi, q, hz], k - 1, by omega, by simp only; omega, j2, fun x hx h3 h4 => ?_⟩
      rcases htk x hx with q | rfl
      ·exact j3 x q h3 h4
      ·have := h2 h3 h4
       have := (ZiN s x).1
       omega) big (nmW w).length (0, K) (Zdt (by omega)) ⟨rfl, i2, fun n hn => by simp at hn⟩
   obtain ⟨o, e, hq⟩ := q2
   cases o with
   | inr _ => exact hq.elim
   | inl K' =>
    have g2 : r + 1 < 9223372036854775808 := by omega
    exact ⟨.nx (r + 1, K'), by dsimp only [Zpl, Zuj, ZrP, ZtV, br, vz, vs, v2, ln, lxe, lc, wa, eqL, br]; simp [hr, e, g2], k - 1, by omega, by simp only; omega, hq⟩
  ·refine ⟨.ex K, by dsimp only [Zpl, Zuj, ZrP, ZtV, br, vz, vs, v2, ln, lxe, lc, wa, eqL, br]; simp [show ¬ (r : Int) < ((nmW w).length : Int) by omega], ?_⟩
   have : r = (nmW w).length := by omega
   subst this
   exact i2) big (nmW w).length (0, []) (Zdt (by omega)) ⟨rfl, fun n => .inl rfl, fun n h1 h2 => by
    have := (ZiN s n).1
    simp only at h2
    omega⟩
 obtain ⟨o, e, hq⟩ := q1
 cases o with
 | inr _ => exact hq.elim
 | inl K =>
  refine ⟨K, ?_, fun n => ?_⟩
  ·dsimp only [Zb8, ZxW, Zy3, ZwE, vz, vw, lr, lc, cl, eqL]
   simp only [n33 hw h, Yn, e, Ya8]
  ·by_cases hz : hgt s n = 0
   ·rcases hq.1 n with e | e
    ·exact e.trans hz.symm
    ·exact e
   ·exact hq.2 n hz (Zvf (fun x hx => (ZjV hw x).2 hx) _ _)
end
theorem ZL2 {s : Scm} (h : Fw s) (n : ByteArray) : Zc9 s n = some (hgt s n) := by
 obtain ⟨K, e, k⟩ := ZMV (ZAT s) h
 dsimp only [Zc9, ZAk, vw, lr, cl, mlk]
 simp only [ZNh h, e, Yn, k]
def rqI (s : Scm) (l : List Fld) : List ByteArray := (l.filter (rqF s)).map fun f => f.type.name
theorem ZtI (s : Scm) (l : List Fld) (f : Fld) : rqI s (l ++ [f]) = rqI s l ++ (if rqF s f = true then [f.type.name] else []) := by
 unfold rqI
 rw [YaV, YaN]
 cases hq : rqF s f <;> simp [Ya9, hq]
def knF (s : Scm) (K : List Int) (x : ByteArray) : Int := (ixM s x).elim 0 fun i => K.getD i 0
section
variable {s : Scm} (h : Fw s)
include h
theorem q48 (K : List Int) (hl : K.length = s.messages.length) (hK : ∀ x ∈ K, 0 ≤ x ∧ x ≤ 1000) (i : Nat) (m : Msg) (hm : s.messages[i]? = some m) (r2 : List Int) : ∃ v, Zaf (ZfJ s K i r2) big (0, 0) = some (.inl v) ∧ v + 1 = hgL (knF s K) (rqI s m.fields) ∧ -1 ≤ v ∧ v ≤ 1000 := by
 have hf := h.f m (Yj hm)
 have hb : ∀ x, 0 ≤ knF s K x ∧ knF s K x ≤ 1000 := fun x => by
  unfold knF
  cases hx : ixM s x with
  | none => exact ⟨YaS _, show (0 : Int) ≤ 1000 by decide⟩
  | some j =>
   have hj := Ziz hx
   have e : K[j]? = some K[j] := Yb (by omega)
   show 0 ≤ K.getD j 0 ∧ K.getD j 0 ≤ 1000
   rw [Yt, e]
   exact hK _ (Yan _)
 have q1 := ZdH (B := ZfJ s K i r2) (I := fun k v => k + v.2 = m.fields.length ∧ ((0 ≤ v.1 ∧ v.1 ≤ 1000 ∧ (∀ x ∈ rqI s (m.fields.take v.2), knF s K x ≠ 0) ∧ v.1 + 1 = (rqI s (m.fields.take v.2)).foldl (fun h x => max h (knF s K x + 1)) 1) ∨ (v.1 = -1 ∧ ∃ x ∈ rqI s m.fields, knF s K x = 0))) (Q := fun o => Sum.elim (fun v => v + 1 = hgL (knF s K) (rqI s m.fields) ∧ -1 ≤ v ∧ v ≤ 1000) (fun _ => False) o) (fun k v hI => by
  obtain ⟨v, j⟩ := v
  obtain ⟨i1, i2⟩ := hI
  simp only at i1 i2
  have e1 : s.messages.getD i zM = m := by rw [Yt, hm]; rfl
  rcases i2 with ⟨a1, a2, a3, a4⟩ | ⟨a1, a2⟩
  ·cases hk : m.fields[j]? with
   | none =>
    have hge := Y8.1 hk
    rw [Yas hge] at a3 a4
    refine ⟨.ex v, by dsimp only [ZfJ, ZhZ, br, ix, ixi, ixg, vz, vw, vs, ln, lxe, cl, wa, fl, eqL, br]; simp [hm, show ¬ j < m.fields.length by omega], ?_, by omega, by omega⟩
    unfold hgL
    rw [if_neg fun q => by obtain ⟨x, hx, e⟩ := ZiJ.1 q; exact a3 x hx e]
    exact a4
   | some f =>
    obtain ⟨g0, hfe⟩ := List.getElem?_eq_some_iff.1 hk
    have g1 := ZhT hk
    have g2 : j + 1 < 9223372036854775808 := by omega
    have hsn := ZtI s (m.fields.take j) f
    rw [show m.fields.take j ++ [f] = m.fields.take (j + 1) by rw [Y0 g0, hfe]] at hsn
    have hb1 := hb f.type.name
    have hms := Zfs s f.type.name
    have key : knF s K f.type.name = (ixM s f.type.name).elim 0 fun i => K.getD i 0 := rfl
    by_cases hc : f.card = 1
    ·by_cases hkd : f.type.kind = 10
     ·cases hx : ixM s f.type.name with
      | none =>
       have hr : rqF s f = false := by unfold rqF toF; rw [← hms, hx]; simp
       rw [hr] at hsn
       refine ⟨.nx (v, j + 1), by dsimp only [ZfJ, ZhZ, br, ix, ixi, ixg, vz, vw, vs, ln, lxe, cl, wa, fl, eqL, br]; simp [hm, g0, g2, a1, hk, hfe, hc, hkd, ZES h, Ztk, hx], k - 1, by omega, by simp only; omega, .inl ⟨a1, a2, ?_, ?_⟩⟩
       ·simpa [hsn] using a3
       ·simpa [hsn] using a4
      | some p =>
       have hp := Ziz hx
       have hr : rqF s f = true := by unfold rqF toF; rw [← hms, hx]; simp [hc, hkd]
       rw [hr] at hsn
       have e2 : K[p]? = some K[p] := Yb (by omega)
       have e3 : knF s K f.type.name = K[p] := by rw [key, hx]; show K.getD p 0 = _; rw [Yt, e2]; rfl
       have hpK : p < K.length := by omega
       have e4 : K.getD p Rw.z = K[p] := by rw [Yt, e2]; rfl
       by_cases hz : K[p] = 0
       ·refine ⟨.nx (-1, j + 1), by dsimp only [ZfJ, ZhZ, br, ix, ixi, ixg, vz, vw, vs, ln, lxe, cl, wa, fl, eqL, br]; simp [hm, g0, g2, a1, hk, hfe, hc, hkd, ZES h, Ztk, hx, hpK, hz], k - 1, by omega, by simp only; omega, .inr ⟨rfl, f.type.name, ?_, by rw [e3]; exact hz⟩⟩
        unfold rqI
        exact Yy.2 ⟨f, YX.2 ⟨Yj hk, hr⟩, rfl⟩
       ·rw [e3] at hb1
        have g3 : mmI true v K[p] = max v K[p] := by unfold mmI; simp only [if_true]; omega
        refine ⟨.nx (max v K[p], j + 1), by dsimp only [ZfJ, ZhZ, br, ix, ixi, ixg, vz, vw, vs, ln, lxe, cl, wa, fl, eqL, br]; simp [hm, g0, g2, a1, hk, hfe, hc, hkd, ZES h, Ztk, hx, hpK, hz, g3], k - 1, by omega, by simp only; omega, .inl ⟨by simp only; omega, by simp only; omega, fun x hx => ?_, ?_⟩⟩
        ·simp only [hsn, if_true] at hx
         rcases Yai.1 hx with q | q
         ·exact a3 x q
         ·rw [Y3.1 q, e3]; exact hz
        ·simp only [hsn, if_true, YaZ, Yap, List.foldl_nil, ← a4, e3]
         omega
     ·have hr : rqF s f = false := by unfold rqF toF; simp [hkd]
      rw [hr] at hsn
      refine ⟨.nx (v, j + 1), by dsimp only [ZfJ, ZhZ, br, ix, ixi, ixg, vz, vw, vs, ln, lxe, cl, wa, fl, eqL, br]; simp [hm, g0, g2, a1, hk, hfe, hc, hkd], k - 1, by omega, by simp only; omega, .inl ⟨a1, a2, ?_, ?_⟩⟩
      ·simpa [hsn] using a3
      ·simpa [hsn] using a4
    ·have hr : rqF s f = false := by unfold rqF; simp [hc]
     rw [hr] at hsn
     refine ⟨.nx (v, j + 1), by dsimp only [ZfJ, ZhZ, br, ix, ixi, ixg, vz, vw, vs, ln, lxe, cl, wa, fl, eqL, br]; simp [hm, g0, g2, a1, hk, hfe, hc], k - 1, by omega, by simp only; omega, .inl ⟨a1, a2, ?_, ?_⟩⟩
     ·simpa [hsn] using a3
     ·simpa [hsn] using a4
  ·refine ⟨.ex v, by dsimp only [ZfJ, ZhZ, br, ix, ixi, ixg, vz, vw, vs, ln, lxe, cl, wa, fl, eqL, br]; simp [hm, a1], ?_, by omega, by omega⟩
   rw [Zxa a2, a1]
   rfl) big m.fields.length (0, 0) (Zdt (by omega)) ⟨rfl, .inl ⟨by decide, by decide, by simp [rqI], by simp [rqI]⟩⟩
 obtain ⟨o, e, hq⟩ := q1
 cases o with
 | inr _ => exact hq.elim
 | inl v => exact ⟨v, e, hq⟩
theorem ZNe (K : List Int) (hl : K.length = s.messages.length) (hK : ∀ x ∈ K, 0 ≤ x ∧ x ≤ 1000) : ∃ L, Za7 s K = some L ∧ L.length = s.messages.length ∧ ∀ (i : Nat) (m : Msg), s.messages[i]? = some m → L[i]? = some (hgL (knF s K) (rqI s m.fields)) := by
 have hm := h.m
 have q1 := ZdH (B := Zpz s K) (I := fun k v => k + v.1 = s.messages.length ∧ v.2.length = s.messages.length ∧ ∀ (i : Nat) (m : Msg), i < v.1 → s.messages[i]? = some m → v.2[i]? = some (hgL (knF s K) (rqI s m.fields))) (Q := fun o => Sum.elim (fun L => L.length = s.messages.length ∧ ∀ (i : Nat) (m : Msg), s.messages[i]? = some m → L[i]? = some (hgL (knF s K) (rqI s m.fields))) (fun _ => False) o) (fun k v hI => by
  obtain ⟨i, r⟩ := v
  obtain ⟨i1, i2, i3⟩ := hI
  simp only at i1 i2 i3
  cases hk : s.messages[i]? with
  | none =>
   have hge := Y8.1 hk
   exact ⟨.ex r, by dsimp only [Zpz, Zsk, Zuq, Zup, Zsi, ZtX, br, vz, vs, ln, lxe, lc, wa, wi, ir, st, rn, fl, eqN, br]; simp [show ¬ (i : Int) < (r.length : Int) by omega], i2, fun j m hj => i3 j m (by have := (List.getElem?_eq_some_iff.1 hj).1; omega) hj⟩
  | some m =>
   have g0 := (List.getElem?_eq_some_iff.1 hk).1
   have g2 : i + 1 < 9223372036854775808 := by omega
   obtain ⟨v, e, v1, v2, v3⟩ := q48 h K hl hK i m hk r
   have g3 : (-9223372036854775808 : Int) ≤ v + 1 ∧ v + 1 < 9223372036854775808 := by omega
   have g4 : i < r.length := by omega
   refine ⟨.nx (i + 1, r.set i (v + 1)), by dsimp only [Zpz, Zsk, Zuq, Zup, Zsi, ZtX, br, vz, vs, ln, lxe, lc, wa, wi, ir, st, rn, fl, eqN, br]; simp [g4, e, g2, g3], k - 1, by omega, by simp only; omega, by simp [i2], fun j m' hj hm' => ?_⟩
   simp only
   by_cases e2 : i = j
   ·subst e2
    rw [hk] at hm'
    cases hm'
    rw [List.getElem?_set_self g4, v1]
   ·rw [List.getElem?_set_ne e2]
    exact i3 j m' (by simp only at hj; omega) hm') big s.messages.length (0, List.replicate s.messages.length 0) (Zdt (by omega)) ⟨rfl, by simp, fun j m hj => by simp only at hj; omega⟩
 obtain ⟨o, e, hq⟩ := q1
 cases o with
 | inr _ => exact hq.elim
 | inl L =>
  refine ⟨L, ?_, hq⟩
  dsimp only [Za7, ZAN, Zw9, ZAu, vz, vw, lr, lc, ms, fl, fr, eqL]
  rw [if_pos (by omega), e]
  rfl
theorem ZMY (n : ByteArray) : ZaI s n = some (hgt s n) := by
 have hm := h.m
 cases hx : ixM s n with
 | none =>
  have e : hgt s n = 0 := by
   rw [ZkO, ← Zfs, hx]
   rfl
  dsimp only [ZaI, Zui, ZsD, Zt1, ZrV, br, ixi, vz, vw, lr, lc, cl, ms, fl, fz, eqL, br]
  simp [ZES h, Ztk, hx, e]
 | some p =>
  have q1 := ZdH (B := Zo8 s (Ztk s n)) (I := fun k v => k + v.2 = s.messages.length ∧ v.1.length = s.messages.length ∧ (∀ x i, ixM s x = some i → v.1[i]? = some (jac s v.2 x)) ∧ ∀ x ∈ v.1, 0 ≤ x ∧ x ≤ 1000) (Q := fun o => Sum.elim (fun L => L.length = s.messages.length ∧ ∀ x i, ixM s x = some i → L[i]? = some (hgt s x)) (fun _ => False) o) (fun k v hI => by
   obtain ⟨K, r⟩ := v
   obtain ⟨i1, i2, i3, i4⟩ := hI
   simp only at i1 i2 i3 i4
   by_cases hr : r < s.messages.length
   ·obtain ⟨L, e, l1, l2⟩ := ZNe h K i2 i4
    have g2 : r + 1 < 9223372036854775808 := by omega
    have hkn : ∀ x, knF s K x = jac s r x := fun x => by
     unfold knF
     cases hx : ixM s x with
     | none =>
      have : isM s x = false := by rw [← Zfs, hx]; rfl
      cases r with
      | zero => rfl
      | succ r => show 0 = if isM s x = true then _ else 0; rw [this]; rfl
     | some i =>
      show K.getD i 0 = _
      rw [Yt, i3 x i hx]; rfl
    refine ⟨.nx (L, r + 1), by dsimp only [Zo8, ZsO, br, vz, vw, vs, v2, ln, lxe, cl, wa, eqL, br]; simp [hr, e, g2], k - 1, by omega, by simp only; omega, l1, fun x i hx => ?_, fun x hx => ?_⟩
    ·have hi := Ziz hx
     have hmi : s.messages[i]? = some s.messages[i] := Yb hi
     simp only
     rw [l2 i _ hmi]
     have hM : isM s x = true := by rw [← Zfs, hx]; rfl
     have hfl : Zdl s x = s.messages[i].fields := by unfold Zdl; rw [Zox, hx]; simp [hmi]
     show _ = some (if isM s x = true then hgL (jac s r) (rqL s x) else 0)
     rw [if_pos hM]
     unfold rqL
     rw [hfl]
     exact congrArg some (ZeI fun y _ => hkn y)
    ·obtain ⟨i, hi, rfl⟩ := List.mem_iff_getElem.1 hx
     have hmi : s.messages[i]? = some s.messages[i] := Yb (by simp only at hi; omega)
     have := l2 i _ hmi
     simp only at hi
     rw [Yb hi] at this
     have e5 := Option.some.inj this
     simp only
     rw [e5]
     by_cases hz : hgL (knF s K) (rqI s s.messages[i].fields) = 0
     ·rw [hz]; decide
     ·obtain ⟨_, z2⟩ := Ze9 hz
      rw [z2]
      have z3 := (Zer (knF s K) (rqI s s.messages[i].fields) 1).1
      rcases ZhP (knF s K) (rqI s s.messages[i].fields) 1 with z4 | ⟨y, hy, z4⟩
      ·omega
      ·have := (Zg3 s r y).2
       rw [← hkn] at this
       omega
   ·refine ⟨.ex K, by dsimp only [Zo8, ZsO, br, vz, vw, vs, v2, ln, lxe, cl, wa, eqL, br]; simp [show ¬ (r : Int) < (s.messages.length : Int) by omega], i2, ?_⟩
    have : r = s.messages.length := by omega
    subst this
    exact i3) big s.messages.length (List.replicate s.messages.length 0, 0) (Zdt (by omega)) ⟨rfl, by simp, fun x i hx => by
     have := Ziz hx
     simp [List.getElem?_replicate, this, jac], fun x hx => by
     rw [(Yax.1 hx).2]; decide⟩
  obtain ⟨o, e, hq⟩ := q1
  cases o with
  | inr _ => exact hq.elim
  | inl L =>
   have := hq.2 n p hx
   dsimp only [ZaI, Zui, ZsD, Zt1, ZrV, br, ixi, vz, vw, lr, lc, cl, ms, fl, fz, eqL, br]
   simp only [ZES h, Yn]
   have e1 : (Ztk s n).2 = (p : Int) := by unfold Ztk; rw [hx]; rfl
   have g3 : s.messages.length ≤ 549755813888 := by omega
   rw [e]
   have g5 : ¬ (p : Int) < 0 := by omega
   simp [e1, g3, this, g5]
end
end Go.Proofs.YtchkcemlglpobaaGreat
