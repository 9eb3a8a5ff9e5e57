/-
  What is proved: the second form of wireschemalaw18.PresentGets: the law returns true and leaves its arguments as they were.
  Condition: the arguments are together of bulk at most 1048576 (the given second form); nothing else.
-/
import Derived.Test.YtpjofefihlbppaaGreatCg29
import Derived.Test.YtpjofefihlbppaaGreatCg27
import Derived.Test.YtpjofefihlbppaaGreatCg28
import Derived.Test.YtpjofefihlbppaaGreatRows
import Derived.WalkKit
import Derived.ProofKit
import Derived.OpenShut
import Derived.JoinedCond
import Derived.Test.YtpjofefihlbppaaGreatCg00
namespace Go.Proofs.YtpjofefihlbppaaGreat
set_option linter.all false
open Go Go.Eng
theorem o36 (l : List ByteArray) (n : Int) (h : l.length ≤ 1048576) (hn : 0 ≤ n) (hn2 : n ≤ 400) : Ok (fun y : Int => 0 ≤ y ∧ y ≤ 1048986 ∧ (l.length ≤ 10 → (l.length : Int) ≤ y)) (ZaX l n) := by
 have q : Ok (Sum.elim Tr fun y : Int => 10 ≤ y ∧ y ≤ 410) (Zag (Zp4 l n) big 0) := by
  refine Ok.loop (fun v : Nat => v ≤ l.length) (fun v : Nat => l.length - v) (by omega) (Zax (by omega)) fun v hv => ?_
  dsimp only [Zp4, Zvp, br, ix, vz, vs, lrt, ln, lxe, wa, wi, eqL, eqN, br]
  (repeat' (first | with_reducible refine Ok.br (fun _ => ?_) (fun _ => ?_) | with_reducible refine Ok.pure ?_ | with_reducible refine Ok.idx ?_ (fun _ _ _ => ?_) | with_reducible refine Ok.if ?_ ?_)) <;> (first | trivial | assumption | contradiction | omega | grind | (simp only [Bd.c, Bd.vl, ByteArray.size_append, ByteArray.size_extract, sz0] at *; grind))
 dsimp only [ZaX, ZxM, Zvj, Zu2, vz, lr, lc, eqL]
 (repeat' (first | with_reducible refine Ok.br (fun _ => ?_) (fun _ => ?_) | with_reducible refine Ok.pure ?_ | (with_reducible apply Ok.lb; (exact q); all_goals (intro _ _; try dsimp only)) | with_reducible refine Ok.if ?_ ?_)) <;> (first | trivial | assumption | contradiction | omega | grind | (simp only [Bd.c, Bd.vl, ByteArray.size_append, ByteArray.size_extract, sz0] at *; grind))
theorem o35 (l : List Nt) (n : Int) (h : ZpE l) (hn : 0 ≤ n) (hn2 : n ≤ 400) : Ok (fun y : Int => 0 ≤ y ∧ y ≤ 1048986) (ZaZ l n) := by
 obtain ⟨h1, h2⟩ := h
 have k1 : ∀ x ∈ l, x.val.list.length ≤ 1048576 := fun x hx => (h2 x hx).v.l
 have k2 : ∀ x ∈ l, x.val.pairs.length ≤ 1048576 := fun x hx => (h2 x hx).v.p
 have k3 : ∀ x ∈ l, x.val.slots.length ≤ 1048576 := fun x hx => (h2 x hx).v.s
 have k4 : ∀ x ∈ l, x.val.raws.length ≤ 1048576 := fun x hx => (h2 x hx).v.r
 have q : Ok (Sum.elim Tr fun y : Int => 10 ≤ y ∧ y ≤ 410) (Zag (Zqa l n) big 0) := by
  refine Ok.loop (fun v : Nat => v ≤ l.length) (fun v : Nat => l.length - v) (by omega) (Zax (by omega)) fun v hv => ?_
  dsimp only [Zqa, ZuG, br, ix, vz, vy, vw, vs, vg, lrt, ln, lxe, wa, wi, eqL, eqN, br]
  (repeat' (first | with_reducible refine Ok.br (fun _ => ?_) (fun _ => ?_) | with_reducible refine Ok.pure ?_ | with_reducible refine Ok.idx ?_ (fun _ _ _ => ?_) | with_reducible refine Ok.if ?_ ?_)) <;> (first | trivial | assumption | contradiction | omega | grind | (simp only [Bd.c, Bd.vl, ByteArray.size_append, ByteArray.size_extract, sz0] at *; grind))
 dsimp only [ZaZ, Zwr, Zxv, Zvu, vz, lr, lc, eqL]
 (repeat' (first | with_reducible refine Ok.br (fun _ => ?_) (fun _ => ?_) | with_reducible refine Ok.pure ?_ | (with_reducible apply Ok.lb; (exact q); all_goals (intro _ _; try dsimp only)) | with_reducible refine Ok.if ?_ ?_)) <;> (first | trivial | assumption | contradiction | omega | grind | (simp only [Bd.c, Bd.vl, ByteArray.size_append, ByteArray.size_extract, sz0] at *; grind))
theorem o15 (s : Scm) (h : SzS s) : Ok (fun b => b = true → Few s) (ZbA s) := by
 have h1 := h.ml
 have h2 := h.el
 have h3 := h.wl
 have q2 : ∀ (v : Nat) (m : Msg) (n : Int), SzM m → -10000000 ≤ n → n ≤ 400 → Ok (Sum.elim (fun y : Int => -10000000 ≤ y ∧ y ≤ 400) No) (Zag (Zru s v m) big (n, 0)) := by
  intro w m n hm hn hn2
  have h4 := hm.fl
  refine Ok.loop (fun v : Int × Nat => v.2 ≤ m.fields.length ∧ -10000000 ≤ v.1 ∧ v.1 ≤ 400) (fun v : Int × Nat => m.fields.length - v.2) ⟨by omega, by omega, by omega⟩ (Zax (by omega)) fun v hv => ?_
  obtain ⟨n, v⟩ := v
  obtain ⟨h5, h6, h7⟩ := hv
  dsimp only at h5 h6 h7
  dsimp only [Zru, Zxy, br, ix, vz, vw, vs, v2, ln, lxe, cl, wa, wi, eqL, eqN, br]
  (repeat' (first | with_reducible refine Ok.br (fun _ => ?_) (fun _ => ?_) | with_reducible refine Ok.pure ?_ | with_reducible refine Ok.idx ?_ (fun _ _ _ => ?_) | (with_reducible apply Ok.bind; (exact o35 _ _ (hm.f _ (by assumption)).o (by (first | trivial | assumption | contradiction | omega | solve_by_elim | (simp only [Bool.and_eq_true, Bool.or_eq_true, Bool.not_eq_true', Bool.and_eq_false_iff, Bool.or_eq_false_iff, decide_eq_true_eq, decide_eq_false_iff_not] at *; omega) | grind)) h7); intro _ _) | (with_reducible apply Ok.bind; (exact o36 _ _ (by simp) (by (first | trivial | assumption | contradiction | omega | solve_by_elim | (simp only [Bool.and_eq_true, Bool.or_eq_true, Bool.not_eq_true', Bool.and_eq_false_iff, Bool.or_eq_false_iff, decide_eq_true_eq, decide_eq_false_iff_not] at *; omega) | grind)) h7); intro _ _) | with_reducible refine Ok.if ?_ ?_)) <;> (first | trivial | assumption | contradiction | omega | grind | (simp only [Bd.c, Bd.vl, ByteArray.size_append, ByteArray.size_extract, sz0] at *; grind))
 have q1 : Ok (Sum.elim (fun y : Int => -10000000 ≤ y ∧ y ≤ 400) No) (Zag (Zq2 s) big (400, 0)) := by
  refine Ok.loop (fun v : Int × Nat => v.2 ≤ s.messages.length ∧ -10000000 ≤ v.1 ∧ v.1 ≤ 400) (fun v : Int × Nat => s.messages.length - v.2) ⟨by omega, by omega, by omega⟩ (Zax (by omega)) fun v hv => ?_
  obtain ⟨n, v⟩ := v
  obtain ⟨h5, h6, h7⟩ := hv
  dsimp only at h5 h6 h7
  dsimp only [Zq2, Zyq, ZuN, ZvW, br, ix, vz, vw, vs, v2, ln, lxe, lc, cl, wa, wi, eqL, br]
  have r1 : ∀ x ∈ s.messages, x.reserved.length ≤ 1048576 := fun x hx => (h.m x hx).r
  (repeat' (first | with_reducible refine Ok.br (fun _ => ?_) (fun _ => ?_) | with_reducible refine Ok.pure ?_ | with_reducible refine Ok.idx ?_ (fun _ _ _ => ?_) | (with_reducible apply Ok.lb; (exact q2 _ _ _ (h.m _ (by assumption)) (by (first | trivial | assumption | contradiction | omega | solve_by_elim | (simp only [Bool.and_eq_true, Bool.or_eq_true, Bool.not_eq_true', Bool.and_eq_false_iff, Bool.or_eq_false_iff, decide_eq_true_eq, decide_eq_false_iff_not] at *; omega) | grind)) (by (first | trivial | assumption | contradiction | omega | solve_by_elim | (simp only [Bool.and_eq_true, Bool.or_eq_true, Bool.not_eq_true', Bool.and_eq_false_iff, Bool.or_eq_false_iff, decide_eq_true_eq, decide_eq_false_iff_not] at *; omega) | grind))); all_goals (intro _ _; try dsimp only)) | (with_reducible apply Ok.bind; (exact o35 _ _ (h.m _ (by assumption)).o (by (first | trivial | assumption | contradiction | omega | solve_by_elim | (simp only [Bool.and_eq_true, Bool.or_eq_true, Bool.not_eq_true', Bool.and_eq_false_iff, Bool.or_eq_false_iff, decide_eq_true_eq, decide_eq_false_iff_not] at *; omega) | grind)) h7); intro _ _) | (with_reducible apply Ok.bind; (exact o36 _ _ (h.m _ (by assumption)).gl (by (first | trivial | assumption | contradiction | omega | solve_by_elim | (simp only [Bool.and_eq_true, Bool.or_eq_true, Bool.not_eq_true', Bool.and_eq_false_iff, Bool.or_eq_false_iff, decide_eq_true_eq, decide_eq_false_iff_not] at *; omega) | grind)) h7); intro _ _) | (with_reducible apply Ok.bind; (exact o36 _ _ (by simp) (by (first | trivial | assumption | contradiction | omega | solve_by_elim | (simp only [Bool.and_eq_true, Bool.or_eq_true, Bool.not_eq_true', Bool.and_eq_false_iff, Bool.or_eq_false_iff, decide_eq_true_eq, decide_eq_false_iff_not] at *; omega) | grind)) h7); intro _ _) | with_reducible refine Ok.if ?_ ?_)) <;> (first | trivial | assumption | contradiction | omega | grind | (simp only [Bd.c, Bd.vl, ByteArray.size_append, ByteArray.size_extract, sz0] at *; grind))
 have q4 : ∀ (v : Nat) (m : Enm) (n : Int), SzE m → -10000000 ≤ n → n ≤ 400 → Ok (Sum.elim (fun y : Int => -10000000 ≤ y ∧ y ≤ 400) No) (Zag (ZpV s v m) big (n, 0)) := by
  intro w m n hm hn hn2
  have h4 := hm.il
  refine Ok.loop (fun v : Int × Nat => v.2 ≤ m.items.length ∧ -10000000 ≤ v.1 ∧ v.1 ≤ 400) (fun v : Int × Nat => m.items.length - v.2) ⟨by omega, by omega, by omega⟩ (Zax (by omega)) fun v hv => ?_
  obtain ⟨n, v⟩ := v
  obtain ⟨h5, h6, h7⟩ := hv
  dsimp only at h5 h6 h7
  dsimp only [ZpV, Zyo, br, ix, vz, vw, vs, ln, lxe, cl, wa, wi, eqL, br]
  (repeat' (first | with_reducible refine Ok.br (fun _ => ?_) (fun _ => ?_) | with_reducible refine Ok.pure ?_ | with_reducible refine Ok.idx ?_ (fun _ _ _ => ?_) | (with_reducible apply Ok.bind; (exact o35 _ _ (hm.i _ (by assumption)).o (by (first | trivial | assumption | contradiction | omega | solve_by_elim | (simp only [Bool.and_eq_true, Bool.or_eq_true, Bool.not_eq_true', Bool.and_eq_false_iff, Bool.or_eq_false_iff, decide_eq_true_eq, decide_eq_false_iff_not] at *; omega) | grind)) h7); intro _ _) | (with_reducible apply Ok.bind; (exact o36 _ _ (by simp) (by (first | trivial | assumption | contradiction | omega | solve_by_elim | (simp only [Bool.and_eq_true, Bool.or_eq_true, Bool.not_eq_true', Bool.and_eq_false_iff, Bool.or_eq_false_iff, decide_eq_true_eq, decide_eq_false_iff_not] at *; omega) | grind)) h7); intro _ _) | with_reducible refine Ok.if ?_ ?_)) <;> (first | trivial | assumption | contradiction | omega | grind | (simp only [Bd.c, Bd.vl, ByteArray.size_append, ByteArray.size_extract, sz0] at *; grind))
 have q3 : ∀ n : Int, -10000000 ≤ n → n ≤ 400 → Ok (Sum.elim (fun y : Int => -10000000 ≤ y ∧ y ≤ 400) No) (Zag (ZpJ s) big (n, 0)) := by
  intro n hn hn2
  refine Ok.loop (fun v : Int × Nat => v.2 ≤ s.enums.length ∧ -10000000 ≤ v.1 ∧ v.1 ≤ 400) (fun v : Int × Nat => s.enums.length - v.2) ⟨by omega, by omega, by omega⟩ (Zax (by omega)) fun v hv => ?_
  obtain ⟨n, v⟩ := v
  obtain ⟨h5, h6, h7⟩ := hv
  dsimp only at h5 h6 h7
  dsimp only [ZpJ, Zy3, ZuR, Zxf, br, ix, vz, vw, vs, ln, lxe, lc, cl, wa, wi, eqL, br]
  have r1 : ∀ x ∈ s.enums, x.reserved.length ≤ 1048576 := fun x hx => (h.e x hx).r
  (repeat' (first | with_reducible refine Ok.br (fun _ => ?_) (fun _ => ?_) | with_reducible refine Ok.pure ?_ | with_reducible refine Ok.idx ?_ (fun _ _ _ => ?_) | (with_reducible apply Ok.lb; (exact q4 _ _ _ (h.e _ (by assumption)) (by (first | trivial | assumption | contradiction | omega | solve_by_elim | (simp only [Bool.and_eq_true, Bool.or_eq_true, Bool.not_eq_true', Bool.and_eq_false_iff, Bool.or_eq_false_iff, decide_eq_true_eq, decide_eq_false_iff_not] at *; omega) | grind)) (by (first | trivial | assumption | contradiction | omega | solve_by_elim | (simp only [Bool.and_eq_true, Bool.or_eq_true, Bool.not_eq_true', Bool.and_eq_false_iff, Bool.or_eq_false_iff, decide_eq_true_eq, decide_eq_false_iff_not] at *; omega) | grind))); all_goals (intro _ _; try dsimp only)) | (with_reducible apply Ok.bind; (exact o35 _ _ (h.e _ (by assumption)).o (by (first | trivial | assumption | contradiction | omega | solve_by_elim | (simp only [Bool.and_eq_true, Bool.or_eq_true, Bool.not_eq_true', Bool.and_eq_false_iff, Bool.or_eq_false_iff, decide_eq_true_eq, decide_eq_false_iff_not] at *; omega) | grind)) h7); intro _ _) | (with_reducible apply Ok.bind; (exact o36 _ _ (by simp) (by (first | trivial | assumption | contradiction | omega | solve_by_elim | (simp only [Bool.and_eq_true, Bool.or_eq_true, Bool.not_eq_true', Bool.and_eq_false_iff, Bool.or_eq_false_iff, decide_eq_true_eq, decide_eq_false_iff_not] at *; omega) | grind)) h7); intro _ _) | with_reducible refine Ok.if ?_ ?_)) <;> (first | trivial | assumption | contradiction | omega | grind | (simp only [Bd.c, Bd.vl, ByteArray.size_append, ByteArray.size_extract, sz0] at *; grind))
 have q6 : ∀ (v : Nat) (m : Svc) (n : Int), SzW m → -10000000 ≤ n → n ≤ 400 → Ok (Sum.elim (fun y : Int => -10000000 ≤ y ∧ y ≤ 400) No) (Zag (ZpQ s v m) big (n, 0)) := by
  intro w m n hm hn hn2
  have h4 := hm.ml
  refine Ok.loop (fun v : Int × Nat => v.2 ≤ m.methods.length ∧ -10000000 ≤ v.1 ∧ v.1 ≤ 400) (fun v : Int × Nat => m.methods.length - v.2) ⟨by omega, by omega, by omega⟩ (Zax (by omega)) fun v hv => ?_
  obtain ⟨n, v⟩ := v
  obtain ⟨h5, h6, h7⟩ := hv
  dsimp only at h5 h6 h7
  dsimp only [ZpQ, Zv8, br, ix, vz, vw, vs, ln, lxe, cl, wa, wi, eqL, br]
  (repeat' (first | with_reducible refine Ok.br (fun _ => ?_) (fun _ => ?_) | with_reducible refine Ok.pure ?_ | with_reducible refine Ok.idx ?_ (fun _ _ _ => ?_) | (with_reducible apply Ok.bind; (exact o35 _ _ (hm.m _ (by assumption)).o (by (first | trivial | assumption | contradiction | omega | solve_by_elim | (simp only [Bool.and_eq_true, Bool.or_eq_true, Bool.not_eq_true', Bool.and_eq_false_iff, Bool.or_eq_false_iff, decide_eq_true_eq, decide_eq_false_iff_not] at *; omega) | grind)) h7); intro _ _) | (with_reducible apply Ok.bind; (exact o36 _ _ (by simp) (by (first | trivial | assumption | contradiction | omega | solve_by_elim | (simp only [Bool.and_eq_true, Bool.or_eq_true, Bool.not_eq_true', Bool.and_eq_false_iff, Bool.or_eq_false_iff, decide_eq_true_eq, decide_eq_false_iff_not] at *; omega) | grind)) h7); intro _ _) | with_reducible refine Ok.if ?_ ?_)) <;> (first | trivial | assumption | contradiction | omega | grind | (simp only [Bd.c, Bd.vl, ByteArray.size_append, ByteArray.size_extract, sz0] at *; grind))
 have q5 : ∀ n : Int, -10000000 ≤ n → n ≤ 400 → Ok (Sum.elim (fun y : Int => -10000000 ≤ y ∧ y ≤ 400) No) (Zag (Zqj s) big (n, 0)) := by
  intro n hn hn2
  refine Ok.loop (fun v : Int × Nat => v.2 ≤ s.services.length ∧ -10000000 ≤ v.1 ∧ v.1 ≤ 400) (fun v : Int × Nat => s.services.length - v.2) ⟨by omega, by omega, by omega⟩ (Zax (by omega)) fun v hv => ?_
  obtain ⟨n, v⟩ := v
  obtain ⟨h5, h6, h7⟩ := hv
  dsimp only at h5 h6 h7
  dsimp only [Zqj, Zmt, Zon, ZmX, br, ix, vz, vw, vs, ln, lxe, lc, cl, wa, wi, eqL, br]
  (repeat' (first | with_reducible refine Ok.br (fun _ => ?_) (fun _ => ?_) | with_reducible refine Ok.pure ?_ | with_reducible refine Ok.idx ?_ (fun _ _ _ => ?_) | (with_reducible apply Ok.lb; (exact q6 _ _ _ (h.w _ (by assumption)) (by (first | trivial | assumption | contradiction | omega | solve_by_elim | (simp only [Bool.and_eq_true, Bool.or_eq_true, Bool.not_eq_true', Bool.and_eq_false_iff, Bool.or_eq_false_iff, decide_eq_true_eq, decide_eq_false_iff_not] at *; omega) | grind)) (by (first | trivial | assumption | contradiction | omega | solve_by_elim | (simp only [Bool.and_eq_true, Bool.or_eq_true, Bool.not_eq_true', Bool.and_eq_false_iff, Bool.or_eq_false_iff, decide_eq_true_eq, decide_eq_false_iff_not] at *; omega) | grind))); all_goals (intro _ _; try dsimp only)) | (with_reducible apply Ok.bind; (exact o35 _ _ (h.w _ (by assumption)).o (by (first | trivial | assumption | contradiction | omega | solve_by_elim | (simp only [Bool.and_eq_true, Bool.or_eq_true, Bool.not_eq_true', Bool.and_eq_false_iff, Bool.or_eq_false_iff, decide_eq_true_eq, decide_eq_false_iff_not] at *; omega) | grind)) h7); intro _ _) | (with_reducible apply Ok.bind; (exact o36 _ _ (by simp) (by (first | trivial | assumption | contradiction | omega | solve_by_elim | (simp only [Bool.and_eq_true, Bool.or_eq_true, Bool.not_eq_true', Bool.and_eq_false_iff, Bool.or_eq_false_iff, decide_eq_true_eq, decide_eq_false_iff_not] at *; omega) | grind)) h7); intro _ _) | with_reducible refine Ok.if ?_ ?_)) <;> (first | trivial | assumption | contradiction | omega | grind | (simp only [Bd.c, Bd.vl, ByteArray.size_append, ByteArray.size_extract, sz0] at *; grind))
 dsimp only [ZbA, ZmL, ZlM, ZnL, Zmc, Zm9, br, vz, vy, vw, vg, lr, lc, wa, eqL, br]
 (repeat' (first | with_reducible refine Ok.br (fun _ => ?_) (fun _ => ?_) | with_reducible refine Ok.pure ?_ | (with_reducible apply Ok.lb; (exact q1); all_goals (intro _ _; try dsimp only)) | (with_reducible apply Ok.lb; (exact q3 _ (by (first | trivial | assumption | contradiction | omega | solve_by_elim | (simp only [Bool.and_eq_true, Bool.or_eq_true, Bool.not_eq_true', Bool.and_eq_false_iff, Bool.or_eq_false_iff, decide_eq_true_eq, decide_eq_false_iff_not] at *; omega) | grind)) (by (first | trivial | assumption | contradiction | omega | solve_by_elim | (simp only [Bool.and_eq_true, Bool.or_eq_true, Bool.not_eq_true', Bool.and_eq_false_iff, Bool.or_eq_false_iff, decide_eq_true_eq, decide_eq_false_iff_not] at *; omega) | grind))); all_goals (intro _ _; try dsimp only)) | (with_reducible apply Ok.lb; (exact q5 _ (by (first | trivial | assumption | contradiction | omega | solve_by_elim | (simp only [Bool.and_eq_true, Bool.or_eq_true, Bool.not_eq_true', Bool.and_eq_false_iff, Bool.or_eq_false_iff, decide_eq_true_eq, decide_eq_false_iff_not] at *; omega) | grind)) (by (first | trivial | assumption | contradiction | omega | solve_by_elim | (simp only [Bool.and_eq_true, Bool.or_eq_true, Bool.not_eq_true', Bool.and_eq_false_iff, Bool.or_eq_false_iff, decide_eq_true_eq, decide_eq_false_iff_not] at *; omega) | grind))); all_goals (intro _ _; try dsimp only)) | with_reducible refine Ok.if ?_ ?_)) <;> first | (first | trivial | assumption | contradiction | omega | grind | (simp only [Bd.c, Bd.vl, ByteArray.size_append, ByteArray.size_extract, sz0] at *; grind)) | exact fun _ => ⟨by (first | trivial | assumption | contradiction | omega | solve_by_elim | (simp only [Bool.and_eq_true, Bool.or_eq_true, Bool.not_eq_true', Bool.and_eq_false_iff, Bool.or_eq_false_iff, decide_eq_true_eq, decide_eq_false_iff_not] at *; omega) | grind), by (first | trivial | assumption | contradiction | omega | solve_by_elim | (simp only [Bool.and_eq_true, Bool.or_eq_true, Bool.not_eq_true', Bool.and_eq_false_iff, Bool.or_eq_false_iff, decide_eq_true_eq, decide_eq_false_iff_not] at *; omega) | grind), by (first | trivial | assumption | contradiction | omega | solve_by_elim | (simp only [Bool.and_eq_true, Bool.or_eq_true, Bool.not_eq_true', Bool.and_eq_false_iff, Bool.or_eq_false_iff, decide_eq_true_eq, decide_eq_false_iff_not] at *; omega) | grind)⟩
end Go.Proofs.YtpjofefihlbppaaGreat
namespace Go.Proofs.YtpjofefihlbppaaGreat
set_option linter.all false
open Go Go.Eng
abbrev BkV (v : Val) : Prop := bkL (Zaz v) ≤ 1048576
theorem ZDJ {v x : Val} (h : BkV v) (hx : x ∈ v.list) : BkV x := by
 have h1 := Zcv (e := ZaK) hx
 rw [ZdX] at h1
 unfold BkV at *
 conv at h => unfold Zaz
 simp only [bkL, bk] at h
 omega
theorem ZrI {v : Val} {x : Pr} (h : BkV v) (hx : x ∈ v.pairs) : BkV x.key ∧ BkV x.val := by
 have h1 := Zcv (e := rPr) hx
 have e : rPr x = Zaz x.key ++ Zaz x.val := by rw [ZgA]; rfl
 rw [e, Zhs] at h1
 unfold BkV at *
 conv at h => unfold Zaz
 simp only [bkL, bk] at h
 omega
theorem Zzc {v : Val} {x : Slt} (h : BkV v) (hx : x ∈ v.slots) : BkV x.val := by
 have h1 := Zcv (e := Zar) hx
 have e : Zar x = D.int .i64 x.num :: Zaz x.val := by rw [ZdI]; rfl
 rw [e, bkL] at h1
 unfold BkV at *
 conv at h => unfold Zaz
 simp only [bkL, bk] at h
 omega
theorem o17 : ∀ (fu : Nat) (v : Val) (lv n : Int), BkV v → 1 ≤ lv → 42 - lv < fu → lv ≤ 41 → 0 ≤ n → n ≤ 2000 → Ok (fun y : Int => -1 ≤ y ∧ y ≤ 2000) (Zao fu v lv n)
 | 0, v, lv, n, h, h1, h2, h3, h4, h5 => by omega
 | fu + 1, v, lv, n, h, h1, h2, h3, h4, h5 => by
  obtain ⟨s1, s2, s3, s4, s5⟩ := szV h
  have R : ∀ (x : Val) (n : Int), BkV x → lv ≤ 40 → 0 ≤ n → n ≤ 2000 → Ok (fun y : Int => -1 ≤ y ∧ y ≤ 2000) (Zao fu x (lv + 1) n) := fun x n hx hl hn hn2 => o17 fu x (lv + 1) n hx (by omega) (by omega) (by omega) hn hn2
  have q1 : Ok (Sum.elim Tr (fun y : Int => y = -1)) (Zag (Zqk v lv n (Zao fu)) big 0) := by
   refine Ok.loop (fun i : Nat => i ≤ v.raws.length) (fun i : Nat => v.raws.length - i) (by omega) (Zax (by omega)) fun i hi => ?_
   dsimp only [Zqk, Zyf, br, ix, vz, vw, vs, lrt, ln, lxe, wa, eqL, eqN, br]
   (repeat' (first | with_reducible refine Ok.br (fun _ => ?_) (fun _ => ?_) | with_reducible refine Ok.pure ?_ | with_reducible refine Ok.idx ?_ (fun _ _ _ => ?_) | with_reducible refine Ok.if ?_ ?_)) <;> (first | trivial | assumption | contradiction | omega | grind | (simp only [Bd.c, Bd.vl, ByteArray.size_append, ByteArray.size_extract, sz0] at *; grind))
  have q2 : ∀ m : Int, lv ≤ 40 → -1 ≤ m → m ≤ 2000 → Ok (Sum.elim (fun y : Int => -1 ≤ y ∧ y ≤ 2000) No) (Zag (Zrc v lv (Zao fu)) big (m, 0)) := by
   intro m hl hm hm2
   refine Ok.loop (fun i : Int × Nat => i.2 ≤ v.list.length ∧ -1 ≤ i.1 ∧ i.1 ≤ 2000) (fun i : Int × Nat => v.list.length - i.2) ⟨by omega, by omega, by omega⟩ (Zax (by omega)) fun i hi => ?_
   obtain ⟨m, i⟩ := i
   obtain ⟨h6, h7, h8⟩ := hi
   dsimp only at h6 h7 h8
   dsimp only [Zrc, ZuH, br, ix, vz, vw, vs, ln, lxe, cs, wa, wi, eqL, br]
   (repeat' (first | with_reducible refine Ok.br (fun _ => ?_) (fun _ => ?_) | with_reducible refine Ok.pure ?_ | with_reducible refine Ok.idx ?_ (fun _ _ _ => ?_) | (with_reducible apply Ok.bind; (exact R _ _ (ZDJ h (by assumption)) hl (by (first | trivial | assumption | contradiction | omega | solve_by_elim | (simp only [Bool.and_eq_true, Bool.or_eq_true, Bool.not_eq_true', Bool.and_eq_false_iff, Bool.or_eq_false_iff, decide_eq_true_eq, decide_eq_false_iff_not] at *; omega) | grind)) h8); intro _ _) | with_reducible refine Ok.if ?_ ?_)) <;> (first | trivial | assumption | contradiction | omega | grind | (simp only [Bd.c, Bd.vl, ByteArray.size_append, ByteArray.size_extract, sz0] at *; grind))
  have q3 : ∀ m : Int, lv ≤ 40 → -1 ≤ m → m ≤ 2000 → Ok (Sum.elim (fun y : Int => -1 ≤ y ∧ y ≤ 2000) No) (Zag (ZqX v lv (Zao fu)) big (m, 0)) := by
   intro m hl hm hm2
   refine Ok.loop (fun i : Int × Nat => i.2 ≤ v.pairs.length ∧ -1 ≤ i.1 ∧ i.1 ≤ 2000) (fun i : Int × Nat => v.pairs.length - i.2) ⟨by omega, by omega, by omega⟩ (Zax (by omega)) fun i hi => ?_
   obtain ⟨m, i⟩ := i
   obtain ⟨h6, h7, h8⟩ := hi
   dsimp only at h6 h7 h8
   dsimp only [ZqX, ZwF, br, ix, vz, vw, vs, ln, lxe, cs, wa, wi, eqL, br]
   (repeat' (first | with_reducible refine Ok.br (fun _ => ?_) (fun _ => ?_) | with_reducible refine Ok.pure ?_ | with_reducible refine Ok.idx ?_ (fun _ _ _ => ?_) | (with_reducible apply Ok.bind; (exact R _ _ (ZrI h (by assumption)).1 hl (by (first | trivial | assumption | contradiction | omega | solve_by_elim | (simp only [Bool.and_eq_true, Bool.or_eq_true, Bool.not_eq_true', Bool.and_eq_false_iff, Bool.or_eq_false_iff, decide_eq_true_eq, decide_eq_false_iff_not] at *; omega) | grind)) h8); intro _ _) | (with_reducible apply Ok.bind; (exact R _ _ (ZrI h (by assumption)).2 hl (by (first | trivial | assumption | contradiction | omega | solve_by_elim | (simp only [Bool.and_eq_true, Bool.or_eq_true, Bool.not_eq_true', Bool.and_eq_false_iff, Bool.or_eq_false_iff, decide_eq_true_eq, decide_eq_false_iff_not] at *; omega) | grind)) (by (first | trivial | assumption | contradiction | omega | solve_by_elim | (simp only [Bool.and_eq_true, Bool.or_eq_true, Bool.not_eq_true', Bool.and_eq_false_iff, Bool.or_eq_false_iff, decide_eq_true_eq, decide_eq_false_iff_not] at *; omega) | grind))); intro _ _) | with_reducible refine Ok.if ?_ ?_)) <;> (first | trivial | assumption | contradiction | omega | grind | (simp only [Bd.c, Bd.vl, ByteArray.size_append, ByteArray.size_extract, sz0] at *; grind))
  have q4 : ∀ m : Int, lv ≤ 40 → -1 ≤ m → m ≤ 2000 → Ok (Sum.elim (fun y : Int => -1 ≤ y ∧ y ≤ 2000) No) (Zag (Zqm v lv (Zao fu)) big (m, 0)) := by
   intro m hl hm hm2
   refine Ok.loop (fun i : Int × Nat => i.2 ≤ v.slots.length ∧ -1 ≤ i.1 ∧ i.1 ≤ 2000) (fun i : Int × Nat => v.slots.length - i.2) ⟨by omega, by omega, by omega⟩ (Zax (by omega)) fun i hi => ?_
   obtain ⟨m, i⟩ := i
   obtain ⟨h6, h7, h8⟩ := hi
   dsimp only at h6 h7 h8
   dsimp only [Zqm, Zwe, br, ix, vz, vw, vs, ln, lxe, cs, wa, wi, eqL, br]
   (repeat' (first | with_reducible refine Ok.br (fun _ => ?_) (fun _ => ?_) | with_reducible refine Ok.pure ?_ | with_reducible refine Ok.idx ?_ (fun _ _ _ => ?_) | (with_reducible apply Ok.bind; (exact R _ _ (Zzc h (by assumption)) hl (by (first | trivial | assumption | contradiction | omega | solve_by_elim | (simp only [Bool.and_eq_true, Bool.or_eq_true, Bool.not_eq_true', Bool.and_eq_false_iff, Bool.or_eq_false_iff, decide_eq_true_eq, decide_eq_false_iff_not] at *; omega) | grind)) h8); intro _ _) | with_reducible refine Ok.if ?_ ?_)) <;> (first | trivial | assumption | contradiction | omega | grind | (simp only [Bd.c, Bd.vl, ByteArray.size_append, ByteArray.size_extract, sz0] at *; grind))
  show Ok _ (ZFk (Zao fu) v lv n)
  dsimp only [ZFk, ZlQ, ZwS, ZwK, Zyy, ZvN, ZuV, br, vz, vy, vw, vs, lr, lc, wi, eqL, eqN, br]
  (repeat' (first | with_reducible refine Ok.br (fun _ => ?_) (fun _ => ?_) | with_reducible refine Ok.pure ?_ | (with_reducible apply Ok.lb; (exact q1); all_goals (intro _ _; try dsimp only)) | (with_reducible apply Ok.lb; (exact q2 _ (by (first | trivial | assumption | contradiction | omega | solve_by_elim | (simp only [Bool.and_eq_true, Bool.or_eq_true, Bool.not_eq_true', Bool.and_eq_false_iff, Bool.or_eq_false_iff, decide_eq_true_eq, decide_eq_false_iff_not] at *; omega) | grind)) (by (first | trivial | assumption | contradiction | omega | solve_by_elim | (simp only [Bool.and_eq_true, Bool.or_eq_true, Bool.not_eq_true', Bool.and_eq_false_iff, Bool.or_eq_false_iff, decide_eq_true_eq, decide_eq_false_iff_not] at *; omega) | grind)) (by (first | trivial | assumption | contradiction | omega | solve_by_elim | (simp only [Bool.and_eq_true, Bool.or_eq_true, Bool.not_eq_true', Bool.and_eq_false_iff, Bool.or_eq_false_iff, decide_eq_true_eq, decide_eq_false_iff_not] at *; omega) | grind))); all_goals (intro _ _; try dsimp only)) | (with_reducible apply Ok.lb; (exact q3 _ (by (first | trivial | assumption | contradiction | omega | solve_by_elim | (simp only [Bool.and_eq_true, Bool.or_eq_true, Bool.not_eq_true', Bool.and_eq_false_iff, Bool.or_eq_false_iff, decide_eq_true_eq, decide_eq_false_iff_not] at *; omega) | grind)) (by (first | trivial | assumption | contradiction | omega | solve_by_elim | (simp only [Bool.and_eq_true, Bool.or_eq_true, Bool.not_eq_true', Bool.and_eq_false_iff, Bool.or_eq_false_iff, decide_eq_true_eq, decide_eq_false_iff_not] at *; omega) | grind)) (by (first | trivial | assumption | contradiction | omega | solve_by_elim | (simp only [Bool.and_eq_true, Bool.or_eq_true, Bool.not_eq_true', Bool.and_eq_false_iff, Bool.or_eq_false_iff, decide_eq_true_eq, decide_eq_false_iff_not] at *; omega) | grind))); all_goals (intro _ _; try dsimp only)) | (with_reducible apply Ok.lb; (exact q4 _ (by (first | trivial | assumption | contradiction | omega | solve_by_elim | (simp only [Bool.and_eq_true, Bool.or_eq_true, Bool.not_eq_true', Bool.and_eq_false_iff, Bool.or_eq_false_iff, decide_eq_true_eq, decide_eq_false_iff_not] at *; omega) | grind)) (by (first | trivial | assumption | contradiction | omega | solve_by_elim | (simp only [Bool.and_eq_true, Bool.or_eq_true, Bool.not_eq_true', Bool.and_eq_false_iff, Bool.or_eq_false_iff, decide_eq_true_eq, decide_eq_false_iff_not] at *; omega) | grind)) (by (first | trivial | assumption | contradiction | omega | solve_by_elim | (simp only [Bool.and_eq_true, Bool.or_eq_true, Bool.not_eq_true', Bool.and_eq_false_iff, Bool.or_eq_false_iff, decide_eq_true_eq, decide_eq_false_iff_not] at *; omega) | grind))); all_goals (intro _ _; try dsimp only)) | with_reducible refine Ok.if ?_ ?_)) <;> (first | trivial | assumption | contradiction | omega | grind | (simp only [Bd.c, Bd.vl, ByteArray.size_append, ByteArray.size_extract, sz0] at *; grind))
theorem o6 (v : Val) (h : BkV v) : Ok Tr (ZbY v 2000) := by
 dsimp only [ZbY, ZHG, vw, lr, cl]
 (repeat' (first | with_reducible refine Ok.br (fun _ => ?_) (fun _ => ?_) | with_reducible refine Ok.pure ?_ | (with_reducible apply Ok.bind; (exact o17 big _ _ _ h (by omega) (by unfold big; omega) (by omega) (by omega) (by omega)); intro _ _) | with_reducible refine Ok.if ?_ ?_)) <;> (first | trivial | assumption | contradiction | omega | grind | (simp only [Bd.c, Bd.vl, ByteArray.size_append, ByteArray.size_extract, sz0] at *; grind))
theorem aw : Zcf = some true := by kernel_rfl
def ixQ {α : Type} (l : List α) (p : α → Bool) : Int := match l.findIdx? p with
 | some i => (i : Int)
 | none => -1
theorem Zhj {α : Type} (p : α → Bool) : ∀ l : List α, l.find? p = (l.findIdx? p).bind fun i => l[i]?
 | [] => rfl
 | x :: l => by
  rw [List.find?_cons, List.findIdx?_cons]
  cases h : p x with
  | true => simp
  | false =>
   rw [Zhj p l]
   cases List.findIdx? p l <;> simp
def Zft {α : Type} [Inhabited α] (l : List α) (z : α) (p : α → Bool) : α × Bool := (l.find? p).elim (z, false) fun x => (x, true)
theorem ZgS {α : Type} [Inhabited α] (l : List α) (z : α) (p : α → Bool) : Zft l z p = match l.findIdx? p with | some i => (l.getD i default, true) | none => (z, false) := by
 unfold Zft
 rw [Zhj]
 cases h : l.findIdx? p with
 | none => rfl
 | some i =>
  have := (Y2.1 h).1
  simp [this]
def zM : Msg := .mk ⟨#[]⟩ [] [] [] []
def zF : Fld := .mk 0 ⟨#[]⟩ 0 0 (.mk 0 ⟨#[]⟩) ⟨#[]⟩ false (.mk 0 0 ⟨#[]⟩ [] [] [] []) []
theorem m32 (s : Scm) (n : ByteArray) (h : s.messages.length ≤ 1048576) : Za7 s n = some (Zft s.messages zM fun m => decide (m.name = n)) := by
 have q1 := ZcY (B := Zno s n) (N := big) s.messages (fun m => decide (m.name = n)) (fun i => (s.messages.getD i default, true)) () (fun i x hx => by
  have g1 := ZiY hx
  have g0 := (Yo.1 hx).1
  have g2 : i + 1 < 9223372036854775808 := by omega
  dsimp only [Zno, ZqP, br, ix, vz, vw, vs, lrt, ln, lxe, wa, eqL, br]
  simp only [g1, g2, hx, decide_true, if_true, Yr, Yw, YU]
  cases decide (x.name = n) <;> simp) (by simp [Zno, ZqP, br, ix, vz, vw, vs, lrt, ln, lxe, wa, eqL, br]) (Zf3 (by omega))
 dsimp only [Za7, ZyT, ZuQ, Zwh, vw, lr, lc]
 rw [q1, ZgS]
 cases s.messages.findIdx? fun m => decide (m.name = n) <;> rfl
theorem m34 (m : Msg) (k : Int) (h : m.fields.length ≤ 1048576) : Zbv m k = some (Zft m.fields zF fun f => decide (f.num = k)) := by
 have q1 := ZcY (B := ZnN m k) (N := big) m.fields (fun f => decide (f.num = k)) (fun i => (m.fields.getD i default, true)) () (fun i x hx => by
  have g1 := ZiY hx
  have g0 := (Yo.1 hx).1
  have g2 : i + 1 < 9223372036854775808 := by omega
  dsimp only [ZnN, Zq1, br, ix, vz, vw, vs, lrt, ln, lxe, wa, eqL, br]
  simp only [g1, g2, hx, decide_true, if_true, Yr, Yw, YU]
  cases decide (x.num = k) <;> simp) (by simp [ZnN, Zq1, br, ix, vz, vw, vs, lrt, ln, lxe, wa, eqL, br]) (Zf3 (by omega))
 dsimp only [Zbv, Zx1, Zvq, ZyR, vw, lr, lc]
 rw [q1, ZgS]
 cases m.fields.findIdx? fun f => decide (f.num = k) <;> rfl
theorem m84 (l : List Msg) (n : ByteArray) (h : l.length ≤ 1048576) : Zba l (fun z => Za0 z n) = some (Zft l zM fun m => decide (m.name = n)) := by
 have q1 := ZcY (B := Zof l fun z => Za0 z n) (N := big) l (fun m => decide (m.name = n)) (fun i => (l.getD i default, true)) () (fun i x hx => by
  have g1 := ZiY hx
  have g0 := (Yo.1 hx).1
  have g2 : i + 1 < 9223372036854775808 := by omega
  have e : Za0 x n = some (decide (x.name = n)) := rfl
  dsimp only [Zof, Zqn, br, ix, vw, vs, lrt, ln, lxe, cf, wa, br]
  simp only [g1, g2, hx, e, decide_true, if_true, Yr, Yw, YU]
  cases decide (x.name = n) <;> simp) (by simp [Zof, Zqn, br, ix, vw, vs, lrt, ln, lxe, cf, wa, br]) (Zf3 (by omega))
 dsimp only [Zba, ZuU, Zzf, ZxA, vz, vw, lr, lc, eqL]
 rw [q1, ZgS]
 cases l.findIdx? fun m => decide (m.name = n) <;> rfl
theorem m28 (s : Scm) (n : ByteArray) (h : s.messages.length ≤ 1048576) : Zcz s n = some (.mk (Zft s.messages zM fun m => decide (m.name = n)).1 s, (Zft s.messages zM fun m => decide (m.name = n)).2) := by
 dsimp only [Zcz, ZwL, vw, lr, cl, Zeh, Zur, vw, lr, cs]
 rw [m84 _ _ h]
 rfl
theorem ZmS {s : Scm} (h : SzS s) (n : ByteArray) : (Zft s.messages zM fun m => decide (m.name = n)).1.fields.length ≤ 1048576 := by
 unfold Zft
 cases e : s.messages.find? fun m => decide (m.name = n) with
 | none => simp [zM]
 | some m => exact (h.m _ (YaO e)).fl
theorem o5 (s : Scm) (n : ByteArray) (h : SzS s) : Ok (fun b => b = true → ∀ (i : Nat) (m : Msg), s.messages[i]? = some m → GdM m) (ZbK s n) := by
 dsimp only [ZbK, ZGc, vz, vw, lr, clg, eqN]
 (repeat' (first | with_reducible refine Ok.br (fun _ => ?_) (fun _ => ?_) | with_reducible refine Ok.pure ?_ | (with_reducible apply Ok.bind; (exact o15 _ h); intro _ _) | (with_reducible apply Ok.bind; (exact o16 _ h (by simp_all)); intro _ _) | (with_reducible apply Ok.clg; (exact fun _ => o15 _ h); intro _) | (with_reducible apply Ok.clg; (exact fun _ => o16 _ h (by simp_all)); intro _) | with_reducible refine Ok.if ?_ ?_))
 simp_all
 rename_i q
 exact q
theorem ZHm {v x : Val} (hx : x ∈ v.list) : bkL (Zaz x) < bkL (Zaz v) := by
 have h1 := Zcv (e := ZaK) hx
 rw [ZdX] at h1
 conv => rhs; unfold Zaz
 simp only [bkL, bk]
 omega
theorem ZB8 {v : Val} {x : Pr} (hx : x ∈ v.pairs) : bkL (Zaz x.key) < bkL (Zaz v) ∧ bkL (Zaz x.val) < bkL (Zaz v) := by
 have h1 := Zcv (e := rPr) hx
 have e : rPr x = Zaz x.key ++ Zaz x.val := by rw [ZgA]; rfl
 rw [e, Zhs] at h1
 have e2 : bkL (Zaz v) = bkL [.int .i64 v.kind, .int .u64 v.bits, .str v.text, .list (v.list.map ZaK), .list (v.pairs.map rPr), .list (v.slots.map Zar), .list (v.raws.map ZaS)] := rfl
 rw [e2]
 simp only [bkL, bk]
 omega
theorem ZGW {v : Val} {x : Slt} (hx : x ∈ v.slots) : bkL (Zaz x.val) < bkL (Zaz v) := by
 have h1 := Zcv (e := Zar) hx
 have e : Zar x = D.int .i64 x.num :: Zaz x.val := by rw [ZdI]; rfl
 rw [e, bkL] at h1
 have e2 : bkL (Zaz v) = bkL [.int .i64 v.kind, .int .u64 v.bits, .str v.text, .list (v.list.map ZaK), .list (v.pairs.map rPr), .list (v.slots.map Zar), .list (v.raws.map ZaS)] := rfl
 rw [e2]
 simp only [bkL, bk] at h1 ⊢
 omega
theorem Ztz {α : Type} {l : List α} {i : Nat} (z : α) (h : i < l.length) : l[i]? = some (l.getD ((i : Int)).toNat z) := by
 rw [Int.toNat_natCast, Yw, Yb h]
 rfl
theorem o12 : ∀ (fu : Nat) (v : Val), bkL (Zaz v) < fu → BkV v → Ok (fun b => b = true) (Zai fu v v)
 | 0, v, h, _ => by omega
 | fu + 1, v, h, k => by
  obtain ⟨s1, s2, s3, s4, s5⟩ := szV k
  have R1 : ∀ (i : Nat) (x y : Val), v.list[i]? = some x → v.list[i]? = some y → Ok (fun b => b = true) (Zai fu x y) := fun i x y hx hy => by
   rw [hx] at hy
   cases hy
   have hm := Yp hx
   exact o12 fu x (by have := ZHm hm; omega) (ZDJ k hm)
  have R2 : ∀ (i : Nat) (x y : Pr), v.pairs[i]? = some x → v.pairs[i]? = some y → Ok (fun b => b = true) (Zai fu x.key y.key) ∧ Ok (fun b => b = true) (Zai fu x.val y.val) := fun i x y hx hy => by
   rw [hx] at hy
   cases hy
   have hm := Yp hx
   exact ⟨o12 fu _ (by have := (ZB8 hm).1; omega) (ZrI k hm).1, o12 fu _ (by have := (ZB8 hm).2; omega) (ZrI k hm).2⟩
  have R3 : ∀ (i : Nat) (x y : Slt), v.slots[i]? = some x → v.slots[i]? = some y → Ok (fun b => b = true) (Zai fu x.val y.val) := fun i x y hx hy => by
   rw [hx] at hy
   cases hy
   have hm := Yp hx
   exact o12 fu _ (by have := ZGW hm; omega) (Zzc k hm)
  have q1 : Ok (Sum.elim Tr No) (Zag (Zro v v (Zai fu)) big 0) := by
   refine Ok.loop (fun i : Nat => i ≤ v.list.length) (fun i : Nat => v.list.length - i) (by omega) (Zax (by omega)) fun i hi => ?_
   dsimp only [Zro, Zxu, br, ix, vz, vw, vs, lrt, ln, lxe, cs, wa, eqL, br]
   (repeat' (first | with_reducible refine Ok.br (fun _ => ?_) (fun _ => ?_) | with_reducible refine Ok.pure ?_ | with_reducible refine Ok.idx ?_ (fun _ _ _ => ?_) | (with_reducible apply Ok.bind; (exact R1 i _ _ (by assumption) (by assumption)); intro _ _) | with_reducible refine Ok.if ?_ ?_)) <;> (first | trivial | assumption | contradiction | omega | grind | (simp only [Bd.c, Bd.vl, ByteArray.size_append, ByteArray.size_extract, sz0] at *; grind))
  have q2 : Ok (Sum.elim Tr No) (Zag (ZrS v v (Zai fu)) big 0) := by
   refine Ok.loop (fun i : Nat => i ≤ v.pairs.length) (fun i : Nat => v.pairs.length - i) (by omega) (Zax (by omega)) fun i hi => ?_
   dsimp only [ZrS, ZxO, br, ix, ixg, vz, vw, vs, lrt, ln, lxe, cs, csg, wa, eqL, br]
   (repeat' (first | with_reducible refine Ok.br (fun _ => ?_) (fun _ => ?_) | with_reducible refine Ok.pure ?_ | with_reducible refine Ok.idx ?_ (fun _ _ _ => ?_) | (with_reducible apply Ok.bind; (exact (R2 i _ _ (by assumption) (by assumption)).1); intro _ _) | (with_reducible apply Ok.bind; (exact (R2 i _ _ (Ztz _ (by (first | trivial | assumption | contradiction | omega | solve_by_elim | (simp only [Bool.and_eq_true, Bool.or_eq_true, Bool.not_eq_true', Bool.and_eq_false_iff, Bool.or_eq_false_iff, decide_eq_true_eq, decide_eq_false_iff_not] at *; omega) | grind))) (Ztz _ (by (first | trivial | assumption | contradiction | omega | solve_by_elim | (simp only [Bool.and_eq_true, Bool.or_eq_true, Bool.not_eq_true', Bool.and_eq_false_iff, Bool.or_eq_false_iff, decide_eq_true_eq, decide_eq_false_iff_not] at *; omega) | grind)))).2); intro _ _) | (with_reducible apply Ok.clg; (exact fun _ => (R2 i _ _ (by assumption) (by assumption)).1); intro _) | (with_reducible apply Ok.clg; (exact fun _ => (R2 i _ _ (Ztz _ (by (first | trivial | assumption | contradiction | omega | solve_by_elim | (simp only [Bool.and_eq_true, Bool.or_eq_true, Bool.not_eq_true', Bool.and_eq_false_iff, Bool.or_eq_false_iff, decide_eq_true_eq, decide_eq_false_iff_not] at *; omega) | grind))) (Ztz _ (by (first | trivial | assumption | contradiction | omega | solve_by_elim | (simp only [Bool.and_eq_true, Bool.or_eq_true, Bool.not_eq_true', Bool.and_eq_false_iff, Bool.or_eq_false_iff, decide_eq_true_eq, decide_eq_false_iff_not] at *; omega) | grind)))).2); intro _) | with_reducible refine Ok.idxg ?_ (fun _ => ?_) | with_reducible refine Ok.if ?_ ?_)) <;> (first | trivial | assumption | contradiction | omega | grind | (simp only [Bd.c, Bd.vl, ByteArray.size_append, ByteArray.size_extract, sz0] at *; grind))
  have q3 : Ok (Sum.elim Tr No) (Zag (Zre v v (Zai fu)) big 0) := by
   refine Ok.loop (fun i : Nat => i ≤ v.slots.length) (fun i : Nat => v.slots.length - i) (by omega) (Zax (by omega)) fun i hi => ?_
   dsimp only [Zre, Zvn, br, ix, ixg, vz, vw, vs, lrt, ln, lxe, csg, wa, eqL, br]
   (repeat' (first | with_reducible refine Ok.br (fun _ => ?_) (fun _ => ?_) | with_reducible refine Ok.pure ?_ | with_reducible refine Ok.idx ?_ (fun _ _ _ => ?_) | (with_reducible apply Ok.bind; (exact R3 i _ _ (Ztz _ (by (first | trivial | assumption | contradiction | omega | solve_by_elim | (simp only [Bool.and_eq_true, Bool.or_eq_true, Bool.not_eq_true', Bool.and_eq_false_iff, Bool.or_eq_false_iff, decide_eq_true_eq, decide_eq_false_iff_not] at *; omega) | grind))) (Ztz _ (by (first | trivial | assumption | contradiction | omega | solve_by_elim | (simp only [Bool.and_eq_true, Bool.or_eq_true, Bool.not_eq_true', Bool.and_eq_false_iff, Bool.or_eq_false_iff, decide_eq_true_eq, decide_eq_false_iff_not] at *; omega) | grind)))); intro _ _) | (with_reducible apply Ok.clg; (exact fun _ => R3 i _ _ (Ztz _ (by (first | trivial | assumption | contradiction | omega | solve_by_elim | (simp only [Bool.and_eq_true, Bool.or_eq_true, Bool.not_eq_true', Bool.and_eq_false_iff, Bool.or_eq_false_iff, decide_eq_true_eq, decide_eq_false_iff_not] at *; omega) | grind))) (Ztz _ (by (first | trivial | assumption | contradiction | omega | solve_by_elim | (simp only [Bool.and_eq_true, Bool.or_eq_true, Bool.not_eq_true', Bool.and_eq_false_iff, Bool.or_eq_false_iff, decide_eq_true_eq, decide_eq_false_iff_not] at *; omega) | grind)))); intro _) | with_reducible refine Ok.idxg ?_ (fun _ => ?_) | with_reducible refine Ok.if ?_ ?_)) <;> (first | trivial | assumption | contradiction | omega | grind | (simp only [Bd.c, Bd.vl, ByteArray.size_append, ByteArray.size_extract, sz0] at *; grind))
  have q4 : Ok (Sum.elim Tr No) (Zag (Zrx v v (Zai fu)) big 0) := by
   refine Ok.loop (fun i : Nat => i ≤ v.raws.length) (fun i : Nat => v.raws.length - i) (by omega) (Zax (by omega)) fun i hi => ?_
   dsimp only [Zrx, ZvP, br, ix, vz, vw, vs, lrt, ln, lxe, wa, eqL, br]
   (repeat' (first | with_reducible refine Ok.br (fun _ => ?_) (fun _ => ?_) | with_reducible refine Ok.pure ?_ | with_reducible refine Ok.idx ?_ (fun _ _ _ => ?_) | with_reducible refine Ok.if ?_ ?_)) <;> (first | trivial | assumption | contradiction | omega | grind | (simp only [Bd.c, Bd.vl, ByteArray.size_append, ByteArray.size_extract, sz0] at *; grind))
  show Ok _ (ZE3 (Zai fu) v v)
  dsimp only [ZE3, Znm, Zxm, ZyA, Zv0, Zw2, Zvz, br, vy, vw, lr, lc, eqL, br]
  (repeat' (first | with_reducible refine Ok.br (fun _ => ?_) (fun _ => ?_) | with_reducible refine Ok.pure ?_ | (with_reducible apply Ok.lb; (exact q1); all_goals (intro _ _; try dsimp only)) | (with_reducible apply Ok.lb; (exact q2); all_goals (intro _ _; try dsimp only)) | (with_reducible apply Ok.lb; (exact q3); all_goals (intro _ _; try dsimp only)) | (with_reducible apply Ok.lb; (exact q4); all_goals (intro _ _; try dsimp only)) | with_reducible refine Ok.if ?_ ?_)) <;> first | rfl | contradiction | (simp at *; done)
def zV : Val := .mk 0 0 ⟨#[]⟩ [] [] [] []
def unQ (f : Fld) : Val := if f.hasDefault = true then f.dflt else if f.card = 4 then .mk 11 0 ⟨#[]⟩ [] [] [] [] else if f.card = 5 then .mk 12 0 ⟨#[]⟩ [] [] [] [] else if f.type.kind = 10 then .mk 10 0 ⟨#[]⟩ [] [] [] [] else if 1 ≤ f.type.kind ∧ f.type.kind ≤ 9 then .mk f.type.kind 0 ⟨#[]⟩ [] [] [] [] else zV
theorem m25 (f : Fld) : ZcR f = some (unQ f) := by
 dsimp only [ZcR, Zw1, br, vw, lr, cl, br, Zeu, ZuE, br, vw, lr, cl, br, Zf6, Zui, lr]
 unfold unQ zV
 simp only [Yr, decide_eq_true_eq, Bool.not_eq_true', Bool.and_eq_false_iff, decide_eq_false_iff_not]
 grind
theorem m27 (f : Fld) : Zbp f = some (unQ f) := by
 dsimp only [Zbp, Zyh, br, vw, lr, cl, br, Zcj, ZvY, br, vw, lr, cl, br, Zbb, ZqB, lr]
 unfold unQ zV
 simp only [Yr, decide_eq_true_eq, Bool.not_eq_true', Bool.and_eq_false_iff, decide_eq_false_iff_not]
 grind
theorem m79 (l : List Fld) (k : Int) (h : l.length ≤ 1048576) : ZbS l (fun z => ZbE z k) = some (Zft l zF fun f => decide (f.num = k)) := by
 have q1 := ZcY (B := ZlH l fun z => ZbE z k) (N := big) l (fun f => decide (f.num = k)) (fun i => (l.getD i default, true)) () (fun i x hx => by
  have g1 := ZiY hx
  have g0 := (Yo.1 hx).1
  have g2 : i + 1 < 9223372036854775808 := by omega
  have e : ZbE x k = some (decide (x.num = k)) := rfl
  dsimp only [ZlH, ZqU, br, ix, vw, vs, lrt, ln, lxe, cf, wa, br]
  simp only [g1, g2, hx, e, decide_true, if_true, Yr, Yw, YU]
  cases decide (x.num = k) <;> simp) (by simp [ZlH, ZqU, br, ix, vw, vs, lrt, ln, lxe, cf, wa, br]) (Zf3 (by omega))
 dsimp only [ZbS, Zx0, ZwB, ZvM, vz, vw, lr, lc, eqL]
 rw [q1, ZgS]
 cases l.findIdx? fun f => decide (f.num = k) <;> rfl
def fdR (s : Scm) (n : ByteArray) (k : Int) : Fld × Int :=
 if (Zft s.messages zM fun m => decide (m.name = n)).2 = true then
  if (Zft (Zft s.messages zM fun m => decide (m.name = n)).1.fields zF fun f => decide (f.num = k)).2 = true then ((Zft (Zft s.messages zM fun m => decide (m.name = n)).1.fields zF fun f => decide (f.num = k)).1, 0) else (zF, 8)
 else (zF, 10)
theorem m23 (s : Scm) (n : ByteArray) (k : Int) (h : SzS s) : Ok (fun y => y.2 = fdR s n k) (ZcW s n k) := by
 have h0 := ZmS h n
 unfold fdR
 dsimp only [ZcW, ZxI, Zwz, Zu7, br, vw, lr, lc, cl, br, ZeW, ZvU, vw, lr, cs]
 rw [m28 _ _ h.ml, Yr]
 generalize Zft s.messages zM (fun m => decide (m.name = n)) = mb at *
 obtain ⟨m, b⟩ := mb
 cases b with
 | false => exact ⟨_, rfl, rfl⟩
 | true =>
  dsimp only at h0 ⊢
  rw [m79 _ _ h0]
  generalize Zft m.fields zF (fun f => decide (f.num = k)) = fb
  obtain ⟨f, b⟩ := fb
  cases b <;> exact ⟨_, rfl, rfl⟩
theorem m26 (s : Scm) (n : ByteArray) (k : Int) (h : SzS s) : Ok (fun y => y.2 = fdR s n k) (ZbN s n k) := by
 have h0 := ZmS h n
 unfold fdR
 dsimp only [ZbN, ZuB, Zvy, ZxX, br, vw, lr, lc, cl, br]
 rw [m32 _ _ h.ml, Yr]
 generalize Zft s.messages zM (fun m => decide (m.name = n)) = mb at *
 obtain ⟨m, b⟩ := mb
 cases b with
 | false => exact ⟨_, rfl, rfl⟩
 | true =>
  dsimp only at h0 ⊢
  rw [m34 _ _ h0]
  generalize Zft m.fields zF (fun f => decide (f.num = k)) = fb
  obtain ⟨f, b⟩ := fb
  cases b <;> exact ⟨_, rfl, rfl⟩
theorem m24 (l : List Slt) (k : Int) (h : l.length ≤ 1048576) : ZcP l k = some (ixQ l fun x => decide (x.num = k)) := by
 have q1 := ZcY (B := Zow l fun z => Zbc z k) (N := big) l (fun x => decide (x.num = k)) (fun i => (i : Int)) () (fun i x hx => by
  have g1 := ZiY hx
  have g0 := (Yo.1 hx).1
  have g2 : i + 1 < 9223372036854775808 := by omega
  have e : Zbc x k = some (decide (x.num = k)) := rfl
  dsimp only [Zow, Zp0, br, ix, vs, lrt, ln, lxe, cf, wa, br]
  simp only [g1, g2, hx, e, decide_true, if_true, Yr]
  cases decide (x.num = k) <;> simp) (by simp [Zow, Zp0, br, ix, vs, lrt, ln, lxe, cf, wa, br]) (Zf3 (by omega))
 dsimp only [ZcP, ZuF, lr, cs, Zb9, Zu0, ZxZ, Zyd, vz, lr, lc, eqL]
 rw [q1]
 unfold ixQ
 cases l.findIdx? fun x => decide (x.num = k) <;> rfl
theorem Zy8 {α : Type} (l : List α) (p : α → Bool) : decide (0 ≤ ixQ l p) = l.any p := by
 unfold ixQ
 rw [← List.findIdx?_isSome]
 cases l.findIdx? p <;> simp
theorem m10 (v : Val) (k : Int) (h : SzV v) : Zdz v k = some (v.slots.any fun x => decide (x.num = k)) := by
 dsimp only [Zdz, ZyP, vw, lr, cl]
 rw [m24 _ _ h.s, Yr, Zy8]
theorem m11 (v : Val) (k : Int) (h : SzV v) : ZbW v k = some (v.slots.any fun x => decide (x.num = k)) := by
 have h0 := h.s
 have q1 := ZcY (B := ZmG v k) (N := big) v.slots (fun x => decide (x.num = k)) (fun i => true) () (fun i x hx => by
  have g1 := ZiY hx
  have g0 := (Yo.1 hx).1
  have g2 : i + 1 < 9223372036854775808 := by omega
  dsimp only [ZmG, Zq0, br, ix, vz, vw, vs, lrt, ln, lxe, wa, eqL, br]
  simp only [g1, g2, hx, decide_true, if_true, Yr]
  cases decide (x.num = k) <;> simp) (by simp [ZmG, Zq0, br, ix, vz, vw, vs, lrt, ln, lxe, wa, eqL, br]) (Zf3 (by omega))
 dsimp only [ZbW, Zyn, ZwW, Zwv, lr, lc]
 rw [q1, ← List.findIdx?_isSome]
 cases v.slots.findIdx? fun x => decide (x.num = k) <;> rfl
def gtQ (s : Scm) (n : ByteArray) (v : Val) (k : Int) : Val × Int :=
 if (fdR s n k).2 = 0 then
  match v.slots.findIdx? fun x => decide (x.num = k) with
  | some i => ((v.slots.getD i default).val, 0)
  | none => (unQ (fdR s n k).1, 0)
 else (zV, (fdR s n k).2)
theorem m8 (s : Scm) (n : ByteArray) (v : Val) (k : Int) (h : SzS s) (hv : SzV v) : ZdH s n v k = some (gtQ s n v k) := by
 obtain ⟨y, e, hy⟩ := m23 s n k h
 have h0 := hv.s
 unfold gtQ
 dsimp only [ZdH, ZGn, br, ixi, vw, lr, cl, br]
 rw [e, Yr, hy, m24 _ _ hv.s, Yr]
 by_cases e0 : (fdR s n k).2 = 0
 ·cases hi : v.slots.findIdx? fun x => decide (x.num = k) with
  | none =>
   have e1 : ixQ v.slots (fun x => decide (x.num = k)) = -1 := by unfold ixQ; rw [hi]
   simp [e0, e1, m25]
  | some i =>
   have e1 : ixQ v.slots (fun x => decide (x.num = k)) = (i : Int) := by unfold ixQ; rw [hi]
   have e2 := (Y2.1 hi).1
   simp [e0, e1, e2]
 ·simp [e0, zV]
theorem m9 (s : Scm) (n : ByteArray) (v : Val) (k : Int) (h : SzS s) (hv : SzV v) : Zb1 s n v k = some (gtQ s n v k) := by
 obtain ⟨y, e, hy⟩ := m26 s n k h
 have h0 := hv.s
 have q1 := ZcY (B := ZCu v k y) (N := big) v.slots (fun x => decide (x.num = k)) (fun i => ((v.slots.getD i default).val, (0 : Int))) () (fun i x hx => by
  have g1 := ZiY hx
  have g0 := (Yo.1 hx).1
  have g2 : i + 1 < 9223372036854775808 := by omega
  dsimp only [ZCu, ZFx, br, ix, vz, vw, vs, v2, lrt, ln, lxe, wa, eqL, br]
  simp only [g1, g2, hx, decide_true, if_true, Yr, Yw, YU]
  cases decide (x.num = k) <;> simp) (by simp [ZCu, ZFx, br, ix, vz, vw, vs, v2, lrt, ln, lxe, wa, eqL, br]) (Zf3 (by omega))
 unfold gtQ
 dsimp only [Zb1, ZFP, ZF9, ZG8, br, vw, lr, lc, cl, br]
 rw [e, Yr, q1]
 by_cases e0 : (fdR s n k).2 = 0
 ·cases hi : v.slots.findIdx? fun x => decide (x.num = k) with
  | none => simp [hy, e0, m27]
  | some i => simp [hy, e0]
 ·simp [hy, e0, zV]
theorem ZGA (k : Int) : BkV (.mk k 0 ⟨#[]⟩ [] [] [] []) := by
 show bkL (Zaz (.mk k 0 ⟨#[]⟩ [] [] [] [])) ≤ 1048576
 have e : Zaz (.mk k 0 ⟨#[]⟩ [] [] [] []) = [.int .i64 k, .int .u64 0, .str ⟨#[]⟩, .list [], .list [], .list [], .list []] := rfl
 rw [e]
 simp only [bkL, bk, ZkJ, sz0]
 omega
theorem ZHg {f : Fld} (h : bkL (ZaD f) ≤ 1048576) : BkV f.dflt := by
 have e : bkL (ZaD f) = f.name.size + f.type.name.size + f.union.size + bkL (Zaz f.dflt) + ZkJ (f.notes.map eNt) := by
  simp only [ZaD, Zaz, bkL, bk]
  omega
 unfold BkV
 omega
theorem Zoq {α : Type} [Inhabited α] (l : List α) (z : α) (p : α → Bool) : (Zft l z p).1 = z ∨ (Zft l z p).1 ∈ l := by
 unfold Zft
 cases e : l.find? p with
 | none => exact .inl rfl
 | some x => exact .inr (YaO e)
theorem ZHw {s : Scm} (h : bkL (Zcc s) ≤ 1048576) (n : ByteArray) (k : Int) : BkV (fdR s n k).1.dflt := by
 have hz : BkV zF.dflt := ZGA 0
 unfold fdR
 split
 ·split
  ·dsimp only
   rcases Zoq (Zft s.messages zM fun m => decide (m.name = n)).1.fields zF (fun f => decide (f.num = k)) with e | e
   ·rw [e]
    exact hz
   ·rcases Zoq s.messages zM (fun m => decide (m.name = n)) with e1 | e1
    ·rw [e1] at e
     cases e
    ·have h2 := Zcv (e := Zbn) e1
     have h3 := Zcv (e := ZaD) e
     simp only [Zcc, bkL, bk] at h
     conv at h2 => lhs; unfold Zbn
     simp only [bkL, bk] at h2
     exact ZHg (by omega)
  ·exact hz
 ·exact hz
theorem ZBn {f : Fld} (h : BkV f.dflt) : BkV (unQ f) := by
 unfold unQ zV
 repeat' split
 all_goals first | exact h | exact ZGA _
theorem ZG2 {s : Scm} {v : Val} (h : bkL (Zcc s) ≤ 1048576) (hv : BkV v) (n : ByteArray) (k : Int) : BkV (gtQ s n v k).1 := by
 unfold gtQ
 split
 ·split
  ·rename_i i hi
   obtain ⟨h1, _⟩ := Y2.1 hi
   have : v.slots.getD i default ∈ v.slots := by
    rw [Yw, Yb h1]
    exact Yag h1
   exact Zzc hv this
  ·exact ZBn (ZHw h n k)
 ·exact ZGA 0
theorem Zhb {s : Scm} {n : ByteArray} {v : Val} {k : Int} (hs : bkL (Zcc s) ≤ 1048576) (_ : (0 : Nat) ≤ 1) (hv : bkL (Zaz v) ≤ 1048576) : ZaM s n v k = some true := by
 have h := szS hs
 have hk := szV hv
 obtain ⟨y1, e1, g1⟩ := o5 s n h
 obtain ⟨y2, e2, _⟩ := o6 v hv
 have hb := ZG2 hs hv n k
 obtain ⟨y3, e3, g3⟩ := o12 big (gtQ s n v k).1 (Nat.lt_of_le_of_lt hb (by unfold big; omega)) hb
 cases g3
 dsimp only [ZaM, ZGI, br, vw, lr, cl, clg, br]
 rw [e1, Yr, e2, m8 s n v k h hk, m9 s n v k h hk, m10 v k hk, m11 v k hk, aw]
 cases y1 with
 | false => simp
 | true => simp [e3]
end Go.Proofs.YtpjofefihlbppaaGreat
namespace Go.Proofs.YtpjofefihlbppaaGreat
set_option linter.all false
open Go Go.Eng Go.ChangeShapes Go.WideShapes Go.ChangeAt Go.RowKit
theorem own : ownKnob Tryz.prog.godebug = none := by kernel_rfl
namespace PresentGets
open Go.Proofs.YtpjofefihlbppaaGreat
set_option maxRecDepth 100000 in
theorem contract (H : Type) (enc : TypeId × Value → H) (W : World) (base : Nat) (args : Array Value) (ds gs : List (DataW H)) (before : List MemPlace)
  (hval : ∀ (j : Nat) t v, Tryz.f3.params[j]? = some t → args[j]? = some v → Value.okWide Tryz.prog W .any base t v)
  (hW : DataW.Whole enc Tryz.prog Tryz.f3.params.toList Rows.presentGetsSpec.vars false W args.toList ds gs before) (hk : Rows.uptoSmall H (ds ++ gs) = true) :
  Calls Tryz.prog 3 args W fun e W' => ∃ v, e = .returned v ∧ Rows.presentGetsSpec.post enc Tryz.prog Tryz.f3 false true false false W args v W' := by
 obtain ⟨p, q, hA0, hV, rfl, hfz, hnd⟩ := id hW
 have hA : DataW.TrodAll enc Tryz.prog W 0 (fun _ => true) true Tryz.f3.params.toList args.toList ds p := hA0
 rw [Tryz.params3] at hA hval
 obtain ⟨v0, vs0, d0, ds0, p0, q0, hargs, rfl, rfl, h0, r0⟩ := trodAll_cons hA
 obtain ⟨v1, vs1, d1, ds1, p1, q1, rfl, rfl, rfl, h1, r1⟩ := trodAll_cons r0
 obtain ⟨v2, vs2, d2, ds2, p2, q2, rfl, rfl, rfl, h2, r2⟩ := trodAll_cons r1
 obtain ⟨v3, vs3, d3, ds3, p3, q3, rfl, rfl, rfl, h3, r3⟩ := trodAll_cons r2
 obtain ⟨rfl, rfl, rfl⟩ := trodAll_nil r3
 obtain rfl : args = #[v0, v1, v2, v3] := by cases args; simp_all
 have hb : Rows.uptoBulkAll ([d0, d1, d2, d3] ++ gs) ≤ 1048576 := of_decide_eq_true hk
 simp only [Yau, Yaa, Rows.uptoBulkAll] at hb
 obtain ⟨s, re0, fe0⟩ := ZmA ZBi Tryz.underlying26 (hval 0 26 v0 rfl rfl) h0
 obtain ⟨n, re1, fe1⟩ := ZwR Tryz.underlying9 (hval 1 9 v1 rfl rfl) h1
 obtain ⟨v, re2, fe2⟩ := ZmA Zm0 Tryz.underlying33 (hval 2 33 v2 rfl rfl) h2
 obtain ⟨k, re3⟩ := Zwk (d := d3) (p := p3) (k := .i64) Tryz.underlying3 (hval 3 3 v3 rfl rfl)
 obtain ⟨rfl, rfl⟩ := trodVars_none hV
 have A := (K_3 s n v k).k 0 Hp0 true (Zhb (by omega) (by omega) (by omega))
 refine (A.2 (fun _ => ⟨0, 0, 0⟩) (· < W.heap.size) W #[v0, v1, v2, v3] (ok0 _) (ZuJ (xs := [.agg ((Zcc s).map .d), .d (.str n), .agg ((Zaz v).map .d), .d (.int .i64 k)]) (vs := [v0, v1, v2, v3]) ⟨re0 _ _, re1 _ _ _ _, re2 _ _, re3 _ _ _ _, trivial⟩)).mono fun e W' ⟨r, v, H', m', S', he, hp, hO, hr, hx⟩ => ?_
 obtain ⟨hp, _⟩ := hp
 subst he
 subst hp
 cases hr
 rename_i hd
 cases hd
 exact ⟨_, rfl, Zlr hW rfl (by kernel_rfl) (by rw [Tryz.params3]; exact (by decide +kernel)) (by kernel_rfl) Tryz.underlying4 rfl ⟨hx.os, hx.tape, hx.output, hx.size, hx.blk⟩⟩
set_option maxRecDepth 100000 in
theorem lifted (os : Os) (started : os.Started) (H : Type) (enc : TypeId × Value → H) (F : Stop.Interp) :
  ReturnsInHanded {} Tryz.checked os 3 .any ((Rows.OpenSpec.upto Rows.presentGetsSpec).pre6 enc Tryz.prog Tryz.f3 Rows.presentGetsUptoRow.domain false) (((Rows.OpenSpec.upto Rows.presentGetsSpec).at F).post enc Tryz.prog Tryz.f3 false true false false) := by
 refine returnsInHanded_of_cond (C := Tryz.checked) (s := Rows.OpenSpec.upto Rows.presentGetsSpec) (k := Rows.uptoSmall) rfl own started (by kernel_rfl) Tryz.func3
  (OpenSpec.witness (enc := enc) (C := Tryz.checked) (s := Rows.OpenSpec.upto Rows.presentGetsSpec) (k := Rows.uptoSmall) rfl false ⟨#[], #[.agg #[.slice none 0 0, .slice none 0 0, .slice none 0 0], .string ⟨#[]⟩, .agg #[.int .i64 0, .int .u64 0, .string ⟨#[]⟩, .slice none 0 0, .slice none 0 0, .slice none 0 0, .slice none 0 0], .int .i64 0], []⟩ 8 (by kernel_rfl) (by kernel_rfl) (by kernel_rfl)
   (x := ([.agg [.nil, .nil, .nil], .lit (.string []), .agg [.lit (.int .i64 0), .lit (.int .u64 0), .lit (.string []), .nil, .nil, .nil, .nil], .lit (.int .i64 0)], [], [])) (by kernel_rfl) rfl (by kernel_rfl)) ?_
 intro W base args ds gs before hval hW _ hk _
 exact contract H enc W base args ds gs before hval hW hk
theorem holds : Rows.PresentGetsUptoSaid :=
 OpenClaim.holds_of_cond 3 Tryz.f3 rfl rfl rfl rfl rfl rfl rfl ⟨rfl, rfl, rfl, rfl, rfl⟩ rfl rfl rfl rfl rfl (by kernel_rfl) Tryz.func3 (by kernel_rfl)
  (of_decide_eq_true (by kernel_rfl)) (by unfold Func.isWrapper; first | (rw [if_pos (by decide +kernel)]; kernel_rfl) | (rw [if_neg (by decide +kernel)]; exact ⟨rfl, rfl⟩))
  (fun os started H enc _ F => lifted os started H enc F)
end PresentGets
end Go.Proofs.YtpjofefihlbppaaGreat
