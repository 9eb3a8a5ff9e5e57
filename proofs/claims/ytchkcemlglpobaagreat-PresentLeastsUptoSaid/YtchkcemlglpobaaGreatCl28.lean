import Derived.Test.YtchkcemlglpobaaGreatCl27
import Derived.Test.YtchkcemlglpobaaGreatCl00
namespace Go.Proofs.YtchkcemlglpobaaGreat
set_option linter.all false
open Go Go.Eng
theorem o62 (d : ByteArray) (l : List Prb) (b : Bool) (n e : Int) (h : l.length < 549755813887) : Ok (fun y => l.length ≤ y.length ∧ y.length ≤ l.length + 1 ∧ (b = true → l.length + 1 ≤ y.length)) (Zaa d l b n e) := by
 dsimp only [Zaa, ZxE, ZAF, ZAq, ZAA, vz, vw, lr, lc, ap, vwr, fl]
 (repeat' (first | with_reducible refine Ok.br (fun _ => ?_) (fun _ => ?_) | with_reducible refine Ok.pure ?_ | with_reducible refine Ok.if ?_ ?_)) <;> first | (first | trivial | assumption | contradiction | omega | grind | (simp only [Bd.c, Bd.vl, ByteArray.size_append, ByteArray.size_extract, sz0] at *; grind)) | simp_all
theorem o95 (d : ByteArray) (l : List Prb) (x : List Nt) (t n : Int) (h : l.length < 549755813887) (hx : ZrJ x) : Ok (fun y => l.length ≤ y.length ∧ y.length ≤ l.length + 1) (Zaj d l x t n) := by
 dsimp only [Zaj, Znx, Zow, ZpK, ZoY, vz, lr, lc, cl, fl]
 (repeat' (first | with_reducible refine Ok.br (fun _ => ?_) (fun _ => ?_) | with_reducible refine Ok.pure ?_ | (with_reducible apply Ok.bind; (exact ZMn _ _ hx); intro _ _) | (with_reducible apply Ok.bind; (exact o62 _ _ _ _ _ h); intro _ _) | with_reducible refine Ok.if ?_ ?_)) <;> (first | trivial | assumption | contradiction | omega | grind | (simp only [Bd.c, Bd.vl, ByteArray.size_append, ByteArray.size_extract, sz0] at *; grind))
theorem o96 (d : ByteArray) (l : List Prb) (x : List Spn) (t n : Int) (h : l.length < 500000000000) (hx : x.length ≤ 1048576) : Ok (fun y => l.length ≤ y.length ∧ y.length ≤ l.length + 2 * x.length) (Zas d l x t n) := by
 have q : Ok (Sum.elim (fun y : List Prb => l.length ≤ y.length ∧ y.length ≤ l.length + 2 * x.length) No) (Zaf (Zko d x t n) big (0, l)) := by
  refine Ok.loop (fun v : Nat × List Prb => v.1 ≤ x.length ∧ l.length ≤ v.2.length ∧ v.2.length ≤ l.length + 2 * v.1) (fun v : Nat × List Prb => x.length - v.1) ⟨by omega, by simp, by simp⟩ (Zat (by omega)) fun v hv => ?_
  obtain ⟨i, r⟩ := v
  obtain ⟨h1, h2, h3⟩ := hv
  dsimp only at h1 h2 h3
  dsimp only [Zko, ZmP, Zru, Zq2, Zpb, Znq, ZnK, br, ix, ixg, vz, vs, vg, ln, lxe, lc, wa, wi, fl, eqL, br]
  (repeat' (first | with_reducible refine Ok.br (fun _ => ?_) (fun _ => ?_) | with_reducible refine Ok.pure ?_ | with_reducible refine Ok.idx ?_ (fun _ _ _ => ?_) | (with_reducible apply Ok.bind; (exact o62 _ _ _ _ _ (by omega)); intro _ _) | with_reducible refine Ok.idxg ?_ (fun _ => ?_) | with_reducible refine Ok.if ?_ ?_)) <;> (first | trivial | assumption | contradiction | omega | grind | (simp only [Bd.c, Bd.vl, ByteArray.size_append, ByteArray.size_extract, sz0] at *; grind))
 dsimp only [Zas, Zo9, Zrw, vz, lr, lc, fl]
 (repeat' (first | with_reducible refine Ok.br (fun _ => ?_) (fun _ => ?_) | with_reducible refine Ok.pure ?_ | (with_reducible apply Ok.lb; (exact q); all_goals (intro _ _; try dsimp only)) | with_reducible refine Ok.if ?_ ?_)) <;> (first | trivial | assumption | contradiction | omega | grind | (simp only [Bd.c, Bd.vl, ByteArray.size_append, ByteArray.size_extract, sz0] at *; grind))
theorem o61 (s : Scm) (w : Int) (h : SzS s) : Ok (fun y => y.length ≤ 3145728) (Zbs s w) := by
 have h1 := h.ml
 have h2 := h.el
 have h3 := h.wl
 have q1 : Ok (Sum.elim (fun y : List ByteArray => y.length ≤ 1048576) No) (Zaf (Zs1 s w) big ([], 0)) := by
  refine Ok.loop (fun v : List ByteArray × Nat => v.2 ≤ s.messages.length ∧ v.1.length ≤ v.2) (fun v : List ByteArray × Nat => s.messages.length - v.2) ⟨by omega, by simp⟩ (Zat (by omega)) fun v hv => ?_
  obtain ⟨r, i⟩ := v
  obtain ⟨h1, h2⟩ := hv
  dsimp only at h1 h2
  dsimp only [Zs1, Zye, br, ix, vz, vy, vw, vs, v2, ln, lxe, ap, wa, fl, eqL, br]
  (repeat' (first | with_reducible refine Ok.br (fun _ => ?_) (fun _ => ?_) | with_reducible refine Ok.pure ?_ | with_reducible refine Ok.idx ?_ (fun _ _ _ => ?_) | with_reducible refine Ok.if ?_ ?_)) <;> (first | trivial | assumption | contradiction | omega | grind | (simp only [Bd.c, Bd.vl, ByteArray.size_append, ByteArray.size_extract, sz0] at *; grind))
 have q2 : ∀ r : List ByteArray, r.length ≤ 1048576 → Ok (Sum.elim (fun y : List ByteArray => y.length ≤ 2097152) No) (Zaf (Ztn s w) big (r, 0)) := by
  intro r hr
  refine Ok.loop (fun v : List ByteArray × Nat => v.2 ≤ s.enums.length ∧ v.1.length ≤ 1048576 + v.2) (fun v : List ByteArray × Nat => s.enums.length - v.2) ⟨by omega, by simpa using hr⟩ (Zat (by omega)) fun v hv => ?_
  obtain ⟨r, i⟩ := v
  obtain ⟨h1, h2⟩ := hv
  dsimp only at h1 h2
  dsimp only [Ztn, Zz7, br, ix, vz, vy, vw, vs, ln, lxe, ap, wa, fl, eqL, br]
  (repeat' (first | with_reducible refine Ok.br (fun _ => ?_) (fun _ => ?_) | with_reducible refine Ok.pure ?_ | with_reducible refine Ok.idx ?_ (fun _ _ _ => ?_) | with_reducible refine Ok.if ?_ ?_)) <;> (first | trivial | assumption | contradiction | omega | grind | (simp only [Bd.c, Bd.vl, ByteArray.size_append, ByteArray.size_extract, sz0] at *; grind))
 have q3 : ∀ r : List ByteArray, r.length ≤ 2097152 → Ok (Sum.elim (fun y : List ByteArray => y.length ≤ 3145728) No) (Zaf (Zti s w) big (r, 0)) := by
  intro r hr
  refine Ok.loop (fun v : List ByteArray × Nat => v.2 ≤ s.services.length ∧ v.1.length ≤ 2097152 + v.2) (fun v : List ByteArray × Nat => s.services.length - v.2) ⟨by omega, by simpa using hr⟩ (Zat (by omega)) fun v hv => ?_
  obtain ⟨r, i⟩ := v
  obtain ⟨h1, h2⟩ := hv
  dsimp only at h1 h2
  dsimp only [Zti, ZwW, br, ix, vz, vy, vw, vs, ln, lxe, ap, wa, fl, eqL, br]
  (repeat' (first | with_reducible refine Ok.br (fun _ => ?_) (fun _ => ?_) | with_reducible refine Ok.pure ?_ | with_reducible refine Ok.idx ?_ (fun _ _ _ => ?_) | with_reducible refine Ok.if ?_ ?_)) <;> (first | trivial | assumption | contradiction | omega | grind | (simp only [Bd.c, Bd.vl, ByteArray.size_append, ByteArray.size_extract, sz0] at *; grind))
 dsimp only [Zbs, ZA2, ZxO, ZwL, Zyy, ZxR, ZyC, vz, vw, lr, lc, fl, fr]
 (repeat' (first | with_reducible refine Ok.br (fun _ => ?_) (fun _ => ?_) | with_reducible refine Ok.pure ?_ | (with_reducible apply Ok.lb; (exact q1); all_goals (intro _ _; try dsimp only)) | (with_reducible apply Ok.lb; (exact q2 _ (by assumption)); all_goals (intro _ _; try dsimp only)) | (with_reducible apply Ok.lb; (exact q3 _ (by assumption)); all_goals (intro _ _; try dsimp only)) | with_reducible refine Ok.if ?_ ?_)) <;> (first | trivial | assumption | contradiction | omega | grind | (simp only [Bd.c, Bd.vl, ByteArray.size_append, ByteArray.size_extract, sz0] at *; grind))
theorem o63 (l : List ByteArray) (h : l.length ≤ 3145728) : Ok Tr (ZaT l) := by
 have q : Ok Ts (Zaf (ZtT l) big 1) := by
  refine Ok.loop (fun v : Nat => 1 ≤ v ∧ v ≤ l.length + 1) (fun v : Nat => l.length + 1 - v) ⟨by omega, by omega⟩ (by unfold big; omega) fun v hv => ?_
  dsimp only [ZtT, ZyT, br, ix, ixi, vz, vs, lrt, ln, lxe, wa, wi, eqL, br]
  (repeat' (first | with_reducible refine Ok.br (fun _ => ?_) (fun _ => ?_) | with_reducible refine Ok.pure ?_ | with_reducible refine Ok.idx ?_ (fun _ _ _ => ?_) | with_reducible refine Ok.if ?_ ?_)) <;> (first | trivial | assumption | contradiction | omega | grind | (simp only [Bd.c, Bd.vl, ByteArray.size_append, ByteArray.size_extract, sz0] at *; grind))
 dsimp only [ZaT, Zw1, ZzH, ZAZ, lr, lc]
 (repeat' (first | with_reducible refine Ok.br (fun _ => ?_) (fun _ => ?_) | with_reducible refine Ok.pure ?_ | (with_reducible apply Ok.lb; (exact q); all_goals (intro _ _; try dsimp only)) | with_reducible refine Ok.if ?_ ?_)) <;> (first | trivial | assumption | contradiction | omega | grind | (simp only [Bd.c, Bd.vl, ByteArray.size_append, ByteArray.size_extract, sz0] at *; grind))
theorem ZM1 (l : List ByteArray) (x : ByteArray) (h : l.length ≤ 3145728) : Ok Tr (ZaF l x) := by
 have q : Ok Ts (Zaf (ZgM l x) big 0) := by
  refine Ok.loop (fun v : Nat => v ≤ l.length) (fun v : Nat => l.length - v) (by omega) (by unfold big; omega) fun v hv => ?_
  dsimp only [ZgM, Zki, br, ix, vz, vs, lrt, ln, lxe, wa, eqL, br]
  (repeat' (first | with_reducible refine Ok.br (fun _ => ?_) (fun _ => ?_) | with_reducible refine Ok.pure ?_ | with_reducible refine Ok.idx ?_ (fun _ _ _ => ?_) | with_reducible refine Ok.if ?_ ?_)) <;> (first | trivial | assumption | contradiction | omega | grind | (simp only [Bd.c, Bd.vl, ByteArray.size_append, ByteArray.size_extract, sz0] at *; grind))
 dsimp only [ZaF, Zkh, ZkI, Zkz, lr, lc]
 (repeat' (first | with_reducible refine Ok.br (fun _ => ?_) (fun _ => ?_) | with_reducible refine Ok.pure ?_ | (with_reducible apply Ok.lb; (exact q); all_goals (intro _ _; try dsimp only)) | with_reducible refine Ok.if ?_ ?_)) <;> (first | trivial | assumption | contradiction | omega | grind | (simp only [Bd.c, Bd.vl, ByteArray.size_append, ByteArray.size_extract, sz0] at *; grind))
theorem o64 (l k : List ByteArray) (h : l.length ≤ 3145728) (hk : k.length ≤ 3145728) : Ok Tr (ZbL l k) := by
 have q : Ok Ts (Zaf (ZtR l k) big 0) := by
  refine Ok.loop (fun v : Nat => v ≤ l.length) (fun v : Nat => l.length - v) (by omega) (by unfold big; omega) fun v hv => ?_
  dsimp only [ZtR, ZAQ, br, ix, vz, vs, lrt, ln, lxe, cl, wa, eqL, br]
  (repeat' (first | with_reducible refine Ok.br (fun _ => ?_) (fun _ => ?_) | with_reducible refine Ok.pure ?_ | with_reducible refine Ok.idx ?_ (fun _ _ _ => ?_) | (with_reducible apply Ok.bind; (exact ZM1 _ _ hk); intro _ _) | with_reducible refine Ok.if ?_ ?_)) <;> (first | trivial | assumption | contradiction | omega | grind | (simp only [Bd.c, Bd.vl, ByteArray.size_append, ByteArray.size_extract, sz0] at *; grind))
 dsimp only [ZbL, ZwO, ZwY, ZyD, lr, lc]
 (repeat' (first | with_reducible refine Ok.br (fun _ => ?_) (fun _ => ?_) | with_reducible refine Ok.pure ?_ | (with_reducible apply Ok.lb; (exact q); all_goals (intro _ _; try dsimp only)) | with_reducible refine Ok.if ?_ ?_)) <;> (first | trivial | assumption | contradiction | omega | grind | (simp only [Bd.c, Bd.vl, ByteArray.size_append, ByteArray.size_extract, sz0] at *; grind))
theorem o92 (s : Scm) (f : Fld) (h : SzS s) : Ok Tr (ZbT s f) := by
 dsimp only [ZbT, Znr, br, vw, lr, cl, br]
 (repeat' (first | with_reducible refine Ok.br (fun _ => ?_) (fun _ => ?_) | with_reducible refine Ok.pure ?_ | (with_reducible apply Ok.bind; (exact ZHL _ _ h); intro _ _) | (with_reducible apply Ok.bind; (exact o98 _ _ h); intro _ _) | with_reducible refine Ok.if ?_ ?_)) <;> (first | trivial | assumption | contradiction | omega | grind | (simp only [Bd.c, Bd.vl, ByteArray.size_append, ByteArray.size_extract, sz0] at *; grind))
theorem o93 (m : Msg) (i : Nat) (h : SzM m) (hi : i < m.fields.length) : Ok Tr (Zbr m i) := by
 have hl := h.fl
 have q : ∀ e, Ok (Sum.elim (fun b : Bool => b = true → 0 < i) Tr) (Zaf (Zli m i e) big (false, 0)) := by
  intro e
  refine Ok.loop (fun v : Bool × Nat => v.2 ≤ m.fields.length ∧ (v.1 = true → 0 < i)) (fun v : Bool × Nat => m.fields.length - v.2) ⟨by omega, by simp⟩ (Zat (by omega)) fun v hv => ?_
  obtain ⟨b, j⟩ := v
  obtain ⟨h1, h2⟩ := hv
  dsimp only at h1 h2
  dsimp only [Zli, Zpw, br, ix, ixg, vz, vw, vs, lrt, ln, lxe, wa, eqL, br]
  (repeat' (first | with_reducible refine Ok.br (fun _ => ?_) (fun _ => ?_) | with_reducible refine Ok.pure ?_ | with_reducible refine Ok.idx ?_ (fun _ _ _ => ?_) | with_reducible refine Ok.idxg ?_ (fun _ => ?_) | with_reducible refine Ok.if ?_ ?_)) <;> (first | trivial | assumption | contradiction | omega | grind | (simp only [Bd.c, Bd.vl, ByteArray.size_append, ByteArray.size_extract, sz0] at *; grind))
 dsimp only [Zbr, ZnZ, Zoh, Zno, br, ixi, ixg, vw, vg, lr, lc, clg, wi, br]
 (repeat' (first | with_reducible refine Ok.br (fun _ => ?_) (fun _ => ?_) | with_reducible refine Ok.pure ?_ | with_reducible refine Ok.idx ?_ (fun _ _ _ => ?_) | (with_reducible apply Ok.lb; (exact q _); all_goals (intro _ _; try dsimp only)) | (with_reducible apply Ok.bind; (exact o89 _ ((h.f _ (by assumption)).u)); intro _ _) | (with_reducible apply Ok.clg; (exact fun _ => o89 _ ((h.f _ (by assumption)).u)); intro _) | with_reducible refine Ok.idxg ?_ (fun _ => ?_) | with_reducible refine Ok.if ?_ ?_)) <;> (first | trivial | assumption | contradiction | omega | grind | (simp only [Bd.c, Bd.vl, ByteArray.size_append, ByteArray.size_extract, sz0] at *; grind))
theorem o94 (s : Scm) (f : Fld) (h : SzS s) (hf : SzF f) : Ok Tr (Zbn s f) := by
 have h0 : SzV (.mk 0 0 ⟨#[]⟩ [] [] [] []) := by constructor <;> decide
 have he : ∀ y, y ∈ s.enums → y.items.length ≤ 1048576 := fun y hy => (h.e y hy).il
 have q : ∀ y : Int, 0 ≤ y → y < s.enums.length → Ok Ts (Zaf (ZkC s f y) big 0) := by
  intro y hy hy2
  refine Ok.loop (fun v : Nat => v ≤ 1048576) (fun v : Nat => 1048576 - v) (by omega) (Zat (by omega)) fun v hv => ?_
  dsimp only [ZkC, Zrx, br, ix, ixi, vz, vw, vs, lrt, ln, lxe, wa, eqL, br]
  (repeat' (first | with_reducible refine Ok.br (fun _ => ?_) (fun _ => ?_) | with_reducible refine Ok.pure ?_ | with_reducible refine Ok.idx ?_ (fun _ _ _ => ?_) | with_reducible refine Ok.if ?_ ?_)) <;> (first | trivial | assumption | contradiction | omega | grind | (simp only [Bd.c, Bd.vl, ByteArray.size_append, ByteArray.size_extract, sz0] at *; grind))
 dsimp only [Zbn, ZqP, Zq9, ZmW, br, vw, lr, lc, cl, clg, br]
 (repeat' (first | with_reducible refine Ok.br (fun _ => ?_) (fun _ => ?_) | with_reducible refine Ok.pure ?_ | (with_reducible apply Ok.lb; (exact q _ (by (first | trivial | assumption | contradiction | omega | solve_by_elim | (simp only [Bool.and_eq_true, Bool.or_eq_true, Bool.not_eq_true', Bool.and_eq_false_iff, Bool.or_eq_false_iff, decide_eq_true_eq, decide_eq_false_iff_not] at *; omega) | grind)) (by (first | trivial | assumption | contradiction | omega | solve_by_elim | (simp only [Bool.and_eq_true, Bool.or_eq_true, Bool.not_eq_true', Bool.and_eq_false_iff, Bool.or_eq_false_iff, decide_eq_true_eq, decide_eq_false_iff_not] at *; omega) | grind))); all_goals (intro _ _; try dsimp only)) | (with_reducible apply Ok.bind; (exact ZGG _ _ hf.d h0); intro _ _) | (with_reducible apply Ok.bind; (exact ZHg _ _ hf.d); intro _ _) | (with_reducible apply Ok.bind; (exact ZLe _ hf.d); intro _ _) | (with_reducible apply Ok.bind; (exact ZGG _ _ hf.d (by solve_by_elim)); intro _ _) | (with_reducible apply Ok.bind; (exact ZHL _ _ h); intro _ _) | (with_reducible apply Ok.clg; (exact fun _ => ZGG _ _ hf.d h0); intro _) | (with_reducible apply Ok.clg; (exact fun _ => ZHg _ _ hf.d); intro _) | (with_reducible apply Ok.clg; (exact fun _ => ZLe _ hf.d); intro _) | (with_reducible apply Ok.clg; (exact fun _ => ZGG _ _ hf.d (by solve_by_elim)); intro _) | (with_reducible apply Ok.clg; (exact fun _ => ZHL _ _ h); intro _) | with_reducible refine Ok.if ?_ ?_)) <;> (first | trivial | assumption | contradiction | omega | grind | (simp only [Bd.c, Bd.vl, ByteArray.size_append, ByteArray.size_extract, sz0] at *; grind))
theorem o87 (s : Scm) (m : Msg) (l : List Bool) (h : SzS s) (hm : SzM m) (hl : l.length = s.messages.length) : Ok Tr (Zbv s m l) := by
 have h1 := hm.fl
 have q : Ok Ts (Zaf (Zlr s m l) big 0) := by
  refine Ok.loop (fun v : Nat => v ≤ m.fields.length) (fun v : Nat => m.fields.length - v) (by omega) (Zat (by omega)) fun v hv => ?_
  dsimp only [Zlr, ZpL, br, ix, ixg, vz, vw, vs, lrt, ln, lxe, cl, wa, eqL, br]
  (repeat' (first | with_reducible refine Ok.br (fun _ => ?_) (fun _ => ?_) | with_reducible refine Ok.pure ?_ | with_reducible refine Ok.idx ?_ (fun _ _ _ => ?_) | (with_reducible apply Ok.bind; (exact o98 _ _ h); intro _ _) | with_reducible refine Ok.idxg ?_ (fun _ => ?_) | with_reducible refine Ok.if ?_ ?_)) <;> (first | trivial | assumption | contradiction | omega | grind | (simp only [Bd.c, Bd.vl, ByteArray.size_append, ByteArray.size_extract, sz0] at *; grind))
 dsimp only [Zbv, ZqL, ZoL, ZqQ, lr, lc]
 (repeat' (first | with_reducible refine Ok.br (fun _ => ?_) (fun _ => ?_) | with_reducible refine Ok.pure ?_ | (with_reducible apply Ok.lb; (exact q); all_goals (intro _ _; try dsimp only)) | with_reducible refine Ok.if ?_ ?_)) <;> (first | trivial | assumption | contradiction | omega | grind | (simp only [Bd.c, Bd.vl, ByteArray.size_append, ByteArray.size_extract, sz0] at *; grind))
theorem ZCb (s : Scm) (m : Msg) (l : List Bool) (h : SzS s) (hm : SzM m) (hl : l.length = s.messages.length) : Ok Tr (ZaD s m l) := by
 have h1 := hm.fl
 have q : Ok Ts (Zaf (Zfp s m l) big 0) := by
  refine Ok.loop (fun v : Nat => v ≤ m.fields.length) (fun v : Nat => m.fields.length - v) (by omega) (Zat (by omega)) fun v hv => ?_
  dsimp only [Zfp, ZhB, br, ix, vz, vw, vs, vg, lrt, ln, lxe, cl, wa, iri, cag, fl, eqL, br, iri]
  (repeat' (first | with_reducible refine Ok.br (fun _ => ?_) (fun _ => ?_) | with_reducible refine Ok.pure ?_ | with_reducible refine Ok.idx ?_ (fun _ _ _ => ?_) | (with_reducible apply Ok.bind; (exact o98 _ _ h); intro _ _) | with_reducible refine Ok.if ?_ ?_)) <;> (first | trivial | assumption | contradiction | omega | grind | (simp only [Bd.c, Bd.vl, ByteArray.size_append, ByteArray.size_extract, sz0] at *; grind))
 dsimp only [ZaD, ZhR, Zh4, ZhU, vz, lr, lc, fl]
 (repeat' (first | with_reducible refine Ok.br (fun _ => ?_) (fun _ => ?_) | with_reducible refine Ok.pure ?_ | (with_reducible apply Ok.lb; (exact q); all_goals (intro _ _; try dsimp only)) | with_reducible refine Ok.if ?_ ?_)) <;> (first | trivial | assumption | contradiction | omega | grind | (simp only [Bd.c, Bd.vl, ByteArray.size_append, ByteArray.size_extract, sz0] at *; grind))
theorem o65 (s : Scm) (h : SzS s) : Ok (fun y => y.length = s.messages.length) (Zbg s) := by
 have h1 := h.ml
 have q : ∀ (v : Nat) (r : List Bool), r.length = s.messages.length → Ok (Sum.elim (fun y : Bool × List Bool => y.2.length = s.messages.length) No) (Zaf (Ztd s v) big (false, 0, r)) := by
  intro w r hr
  refine Ok.loop (fun v : Bool × Nat × List Bool => v.2.1 ≤ s.messages.length ∧ v.2.2.length = s.messages.length) (fun v : Bool × Nat × List Bool => s.messages.length - v.2.1) ⟨by simp, hr⟩ (Zat (by simp; omega)) fun v hv => ?_
  obtain ⟨b, i, r⟩ := v
  obtain ⟨h2, h3⟩ := hv
  dsimp only at h2 h3
  dsimp only [Ztd, Zyn, br, ixg, vz, vw, vs, v2, ln, lxe, csg, wa, ir, ca, st, rn, fl, eqL, br]
  (repeat' (first | with_reducible refine Ok.br (fun _ => ?_) (fun _ => ?_) | with_reducible refine Ok.pure ?_ | with_reducible refine Ok.idx ?_ (fun _ _ _ => ?_) | (with_reducible apply Ok.bind; (exact ZCb _ _ _ h (h.m _ (by grind)) h3); intro _ _) | (with_reducible apply Ok.clg; (exact fun _ => ZCb _ _ _ h (h.m _ (by grind)) h3); intro _) | with_reducible refine Ok.idxg ?_ (fun _ => ?_) | with_reducible refine Ok.if ?_ ?_)) <;> (first | trivial | assumption | contradiction | omega | grind | (simp only [Bd.c, Bd.vl, ByteArray.size_append, ByteArray.size_extract, sz0] at *; grind))
 have q2 : Ok (Sum.elim (fun y : List Bool => y.length = s.messages.length) No) (Zaf (Zt6 s) big (true, 0, List.replicate s.messages.length false)) := by
  refine Ok.loop (fun v : Bool × Nat × List Bool => v.2.1 ≤ s.messages.length ∧ v.2.2.length = s.messages.length) (fun v : Bool × Nat × List Bool => s.messages.length - v.2.1) ⟨by simp, by simp⟩ (Zat (by simp; omega)) fun v hv => ?_
  obtain ⟨b, i, r⟩ := v
  obtain ⟨h2, h3⟩ := hv
  dsimp only at h2 h3
  dsimp only [Zt6, Zyp, ZA0, ZwZ, br, vz, vw, vs, v2, ln, lxe, lc, wa, fl, eqL, br]
  (repeat' (first | with_reducible refine Ok.br (fun _ => ?_) (fun _ => ?_) | with_reducible refine Ok.pure ?_ | (with_reducible apply Ok.lb; (exact q _ _ h3); all_goals (intro _ _; try dsimp only)) | with_reducible refine Ok.if ?_ ?_)) <;> (first | trivial | assumption | contradiction | omega | grind | (simp only [Bd.c, Bd.vl, ByteArray.size_append, ByteArray.size_extract, sz0] at *; grind))
 dsimp only [Zbg, ZyB, ZAg, Zyf, vz, vw, lr, lc, ms, fl, fr, eqL]
 (repeat' (first | with_reducible refine Ok.br (fun _ => ?_) (fun _ => ?_) | with_reducible refine Ok.pure ?_ | (with_reducible apply Ok.lb; (exact q2); all_goals (intro _ _; try dsimp only)) | with_reducible refine Ok.if ?_ ?_)) <;> (first | trivial | assumption | contradiction | omega | grind | (simp only [Bd.c, Bd.vl, ByteArray.size_append, ByteArray.size_extract, sz0] at *; grind))
end Go.Proofs.YtchkcemlglpobaaGreat
namespace Go.Proofs.YtchkcemlglpobaaGreat
set_option linter.all false
open Go Go.Eng
def ZsV (l : List Fld) (n : Nat) : Prop := ∀ (i : Nat) (a b : Fld), i + 1 < n → l[i]? = some a → l[i + 1]? = some b → a.num < b.num
theorem Zsj {l : List Fld} {v : Nat} {a b : Fld} (h : ZsV l v) (h1 : l[v]? = some a) (h2 : 0 < v → l[v - 1]? = some b ∧ b.num < a.num) : ZsV l (v + 1) := by
 intro i x y hi hx hy
 by_cases e : i + 1 < v
 ·exact h i x y e hx hy
 ·have e1 : i + 1 = v := by omega
  have e2 : v - 1 = i := by omega
  rw [e1] at hy
  obtain ⟨h3, h4⟩ := h2 (by omega)
  rw [e2] at h3
  rw [h1] at hy
  rw [h3] at hx
  cases hx
  cases hy
  exact h4
def GdM (m : Msg) : Prop := ZsV m.fields m.fields.length
theorem ZI4 (d : ByteArray) (b : Bool) (n e : Int) : Ok (fun y => y.length ≤ 1) (Zaa d [] b n e) := (o62 d [] b n e (by simp)).mono fun y h => by simpa using h.2.1
theorem o66 (s : Scm) (m : Msg) (l : List Bool) (h : SzS s) (hm : SzM m) (hl : l.length = s.messages.length) : Ok (fun y => y.length ≤ 67108864 ∧ (y.length = 0 → GdM m)) (Za3 s m l) := by
 have h1 := hm.fl
 have h2 := hm.r
 have h3 := hm.gl
 have q2 : ∀ (v : Nat) (r : List Prb) (e : Fld), v ≤ m.fields.length → Ok (Sum.elim Tr No) (Zaf (Zr7 s m l v r e) big (false, 0)) := by
  intro w r e hw
  refine Ok.loop (fun v : Bool × Nat => v.2 ≤ w) (fun v : Bool × Nat => w - v.2) (by simp) (Zat (by omega)) fun v hv => ?_
  obtain ⟨b, i⟩ := v
  dsimp only at hv
  dsimp only [Zr7, Zy2, br, ix, vz, vw, vs, ln, lxe, wa, fl, br]
  (repeat' (first | with_reducible refine Ok.br (fun _ => ?_) (fun _ => ?_) | with_reducible refine Ok.pure ?_ | with_reducible refine Ok.idx ?_ (fun _ _ _ => ?_) | with_reducible refine Ok.if ?_ ?_)) <;> (first | trivial | assumption | contradiction | omega | grind | (simp only [Bd.c, Bd.vl, ByteArray.size_append, ByteArray.size_extract, sz0] at *; grind))
 have q1 : ∀ r0 : List Prb, r0.length ≤ 9 → Ok (Sum.elim (fun y : List Prb => y.length ≤ 10485769 ∧ (y.length = 0 → GdM m)) No) (Zaf (ZtH s m l) big (0, r0)) := by
  intro r0 hr0
  refine Ok.loop (fun v : Nat × List Prb => v.1 ≤ m.fields.length ∧ v.2.length ≤ 9 + 10 * v.1 ∧ (v.2.length = 0 → ZsV m.fields v.1)) (fun v : Nat × List Prb => m.fields.length - v.1) ⟨by simp, by simpa using hr0, fun _ i x y hi => by simp at hi⟩ (Zat (by omega)) fun v hv => ?_
  obtain ⟨v, r⟩ := v
  obtain ⟨h4, h5, h6⟩ := hv
  dsimp only at h4 h5 h6
  dsimp only [ZtH, Zn5, ZoN, ZpG, ZmV, ZqE, Zqv, ZoZ, ZoP, Zrv, Zp8, Zne, Zoo, ZqU, Znp, ZnB, Znf, Zxw, ZyU, Zy9, Zy4, ZwQ, ZAd, ZAt, Zy6, br, ix, ixg, vz, vw, vs, vg, ln, lxe, lc, cl, clg, wa, wi, fl, eqL, br]
  (repeat' (first | with_reducible refine Ok.br (fun _ => ?_) (fun _ => ?_) | with_reducible refine Ok.pure ?_ | with_reducible refine Ok.idx ?_ (fun _ _ _ => ?_) | (with_reducible apply Ok.lb; (exact q2 _ _ _ (by omega)); all_goals (intro _ _; try dsimp only)) | (with_reducible apply Ok.bind; (exact o62 _ _ _ _ _ (by omega)); intro _ _) | (with_reducible apply Ok.bind; (exact o89 _ (hm.f _ (by assumption)).n); intro _ _) | (with_reducible apply Ok.bind; (exact o90 _ _ h2); intro _ _) | (with_reducible apply Ok.bind; (exact o86 _ _ h3); intro _ _) | (with_reducible apply Ok.bind; (exact o91 _); intro _ _) | (with_reducible apply Ok.bind; (exact o92 _ _ h); intro _ _) | (with_reducible apply Ok.bind; (exact o93 _ _ hm (by (first | trivial | assumption | contradiction | omega | solve_by_elim | (simp only [Bool.and_eq_true, Bool.or_eq_true, Bool.not_eq_true', Bool.and_eq_false_iff, Bool.or_eq_false_iff, decide_eq_true_eq, decide_eq_false_iff_not] at *; omega) | grind))); intro _ _) | (with_reducible apply Ok.bind; (exact o94 _ _ h (hm.f _ (by assumption))); intro _ _) | (with_reducible apply Ok.bind; (exact o95 _ _ _ _ _ (by omega) (hm.f _ (by assumption)).o); intro _ _) | (with_reducible apply Ok.clg; (exact fun _ => o62 _ _ _ _ _ (by omega)); intro _) | (with_reducible apply Ok.clg; (exact fun _ => o89 _ (hm.f _ (by assumption)).n); intro _) | (with_reducible apply Ok.clg; (exact fun _ => o90 _ _ h2); intro _) | (with_reducible apply Ok.clg; (exact fun _ => o86 _ _ h3); intro _) | (with_reducible apply Ok.clg; (exact fun _ => o91 _); intro _) | (with_reducible apply Ok.clg; (exact fun _ => o92 _ _ h); intro _) | (with_reducible apply Ok.clg; (exact fun _ => o93 _ _ hm (by (first | trivial | assumption | contradiction | omega | solve_by_elim | (simp only [Bool.and_eq_true, Bool.or_eq_true, Bool.not_eq_true', Bool.and_eq_false_iff, Bool.or_eq_false_iff, decide_eq_true_eq, decide_eq_false_iff_not] at *; omega) | grind))); intro _) | (with_reducible apply Ok.clg; (exact fun _ => o94 _ _ h (hm.f _ (by assumption))); intro _) | (with_reducible apply Ok.clg; (exact fun _ => o95 _ _ _ _ _ (by omega) (hm.f _ (by assumption)).o); intro _) | with_reducible refine Ok.idxg ?_ (fun _ => ?_) | with_reducible refine Ok.if ?_ ?_))
  all_goals try (first | trivial | assumption | contradiction | omega | solve_by_elim | (simp only [Bool.and_eq_true, Bool.or_eq_true, Bool.not_eq_true', Bool.and_eq_false_iff, Bool.or_eq_false_iff, decide_eq_true_eq, decide_eq_false_iff_not] at *; omega) | grind)
  have hx := ‹decide (0 < (v : Int)) = true → m.fields[((v : Int) - 1).toNat]? = some (m.fields.getD ((v : Int) - 1).toNat Rw.z) ∧ _›
  have he := ‹m.fields[v]? = some _›
  dsimp only
  refine ⟨⟨by (first | trivial | assumption | contradiction | omega | solve_by_elim | (simp only [Bool.and_eq_true, Bool.or_eq_true, Bool.not_eq_true', Bool.and_eq_false_iff, Bool.or_eq_false_iff, decide_eq_true_eq, decide_eq_false_iff_not] at *; omega) | grind), by omega, fun h0 => Zsj (b := m.fields.getD ((v : Int) - 1).toNat Rw.z) (h6 (by omega)) he fun hv => ?_⟩, by (first | trivial | assumption | contradiction | omega | solve_by_elim | (simp only [Bool.and_eq_true, Bool.or_eq_true, Bool.not_eq_true', Bool.and_eq_false_iff, Bool.or_eq_false_iff, decide_eq_true_eq, decide_eq_false_iff_not] at *; omega) | grind)⟩
  have ev : ((v : Int) - 1).toNat = v - 1 := by omega
  refine ⟨ev ▸ (hx (decide_eq_true (by omega))).1, ?_⟩
  rcases Ybo (m.fields.getD ((v : Int) - 1).toNat Rw.z).num (Fld.num _) with hlt | hge
  ·exact hlt
  ·exfalso
   have hb := Bool.and_eq_true _ _ ▸ And.intro (decide_eq_true (show (0 : Int) < v by omega)) (decide_eq_true hge)
   grind
  have ee : v = m.fields.length := by (first | trivial | assumption | contradiction | omega | solve_by_elim | (simp only [Bool.and_eq_true, Bool.or_eq_true, Bool.not_eq_true', Bool.and_eq_false_iff, Bool.or_eq_false_iff, decide_eq_true_eq, decide_eq_false_iff_not] at *; omega) | grind)
  subst ee
  exact ⟨by (first | trivial | assumption | contradiction | omega | solve_by_elim | (simp only [Bool.and_eq_true, Bool.or_eq_true, Bool.not_eq_true', Bool.and_eq_false_iff, Bool.or_eq_false_iff, decide_eq_true_eq, decide_eq_false_iff_not] at *; omega) | grind), h6⟩
 have q3 : ∀ r0 : List Prb, r0.length ≤ 20000000 → Ok (Sum.elim (fun y : List Prb => r0.length ≤ y.length ∧ y.length ≤ 22000000) No) (Zaf (ZsH s m l) big (0, r0)) := by
  intro r0 hr0
  refine Ok.loop (fun v : Nat × List Prb => v.1 ≤ m.gone.length ∧ v.2.length ≤ 20000000 + v.1 ∧ r0.length ≤ v.2.length) (fun v : Nat × List Prb => m.gone.length - v.1) ⟨by simp, by simpa using hr0, by simp⟩ (Zat (by omega)) fun v hv => ?_
  obtain ⟨v, r⟩ := v
  obtain ⟨h4, h5, h6⟩ := hv
  dsimp only at h4 h5 h6
  dsimp only [ZsH, Zo6, Zp1, ZpZ, Zqe, br, ix, vz, vw, vs, ln, lxe, lc, cl, wa, fl, eqL, br]
  (repeat' (first | with_reducible refine Ok.br (fun _ => ?_) (fun _ => ?_) | with_reducible refine Ok.pure ?_ | with_reducible refine Ok.idx ?_ (fun _ _ _ => ?_) | (with_reducible apply Ok.bind; (exact o62 _ _ _ _ _ (by omega)); intro _ _) | (with_reducible apply Ok.bind; (exact o97 _ (hm.g _ (by assumption))); intro _ _) | with_reducible refine Ok.if ?_ ?_)) <;> (first | trivial | assumption | contradiction | omega | grind | (simp only [Bd.c, Bd.vl, ByteArray.size_append, ByteArray.size_extract, sz0] at *; grind))
 dsimp only [Za3, ZnY, ZqV, Zpq, Zpt, ZnD, ZmK, ZnE, ZqH, ZnH, Zm3, Zp4, Zqc, ZnQ, Zm4, vz, vy, vw, lr, lc, cl, fl, fr, eqL]
 (repeat' (first | with_reducible refine Ok.br (fun _ => ?_) (fun _ => ?_) | with_reducible refine Ok.pure ?_ | (with_reducible apply Ok.lb; (exact q1 _ (by (first | trivial | assumption | contradiction | omega | solve_by_elim | (simp only [Bool.and_eq_true, Bool.or_eq_true, Bool.not_eq_true', Bool.and_eq_false_iff, Bool.or_eq_false_iff, decide_eq_true_eq, decide_eq_false_iff_not] at *; omega) | grind))); all_goals (intro _ _; try dsimp only)) | (with_reducible apply Ok.lb; (exact q3 _ (by omega)); all_goals (intro _ _; try dsimp only)) | (with_reducible apply Ok.bind; (exact o88 _ hm.n); intro _ _) | (with_reducible apply Ok.bind; (exact ZI4 _ _ _ _); intro _ _) | (with_reducible apply Ok.bind; (exact o62 _ _ _ _ _ (by omega)); intro _ _) | (with_reducible apply Ok.bind; (exact o95 _ _ _ _ _ (by omega) hm.o); intro _ _) | (with_reducible apply Ok.bind; (exact o96 _ _ _ _ _ (by omega) h2); intro _ _) | (with_reducible apply Ok.bind; (exact o87 _ _ _ h hm hl); intro _ _) | with_reducible refine Ok.if ?_ ?_)) <;> (first | trivial | assumption | contradiction | omega | grind | (simp only [Bd.c, Bd.vl, ByteArray.size_append, ByteArray.size_extract, sz0] at *; grind))
theorem o67 (e : Enm) (hm : SzE e) : Ok (fun y => y.length ≤ 67108864) (ZbK e) := by
 have h1 := hm.il
 have h2 := hm.r
 have q2 : ∀ (v : Nat) (r : List Prb) (x : Itm), v ≤ e.items.length → Ok (Sum.elim Tr No) (Zaf (Zto e v r x) big (false, 0)) := by
  intro w r x hw
  refine Ok.loop (fun v : Bool × Nat => v.2 ≤ w) (fun v : Bool × Nat => w - v.2) (by simp) (Zat (by omega)) fun v hv => ?_
  obtain ⟨b, i⟩ := v
  dsimp only at hv
  dsimp only [Zto, ZA1, br, ix, vz, vw, vs, ln, lxe, wa, fl, br]
  (repeat' (first | with_reducible refine Ok.br (fun _ => ?_) (fun _ => ?_) | with_reducible refine Ok.pure ?_ | with_reducible refine Ok.idx ?_ (fun _ _ _ => ?_) | with_reducible refine Ok.if ?_ ?_)) <;> (first | trivial | assumption | contradiction | omega | grind | (simp only [Bd.c, Bd.vl, ByteArray.size_append, ByteArray.size_extract, sz0] at *; grind))
 have q1 : ∀ r0 : List Prb, r0.length ≤ 9 → Ok (Sum.elim (fun y : List Prb => y.length ≤ 10485769) No) (Zaf (Zul e) big (0, r0)) := by
  intro r0 hr0
  refine Ok.loop (fun v : Nat × List Prb => v.1 ≤ e.items.length ∧ v.2.length ≤ 9 + 10 * v.1) (fun v : Nat × List Prb => e.items.length - v.1) ⟨by simp, by simpa using hr0⟩ (Zat (by omega)) fun v hv => ?_
  obtain ⟨v, r⟩ := v
  obtain ⟨h4, h5⟩ := hv
  dsimp only at h4 h5
  dsimp only [Zul, Znz, Znt, Znu, ZqS, ZoK, ZmM, ZpF, Zn1, Zzn, Zy5, Zzj, ZAY, ZwN, Zxx, ZAh, ZAM, br, ix, ixg, vz, vw, vs, vg, ln, lxe, lc, cl, wa, wi, fl, eqL, br]
  (repeat' (first | with_reducible refine Ok.br (fun _ => ?_) (fun _ => ?_) | with_reducible refine Ok.pure ?_ | with_reducible refine Ok.idx ?_ (fun _ _ _ => ?_) | (with_reducible apply Ok.lb; (exact q2 _ _ _ (by omega)); all_goals (intro _ _; try dsimp only)) | (with_reducible apply Ok.bind; (exact o62 _ _ _ _ _ (by omega)); intro _ _) | (with_reducible apply Ok.bind; (exact o89 _ (hm.i _ (by assumption)).n); intro _ _) | (with_reducible apply Ok.bind; (exact o90 _ _ h2); intro _ _) | (with_reducible apply Ok.bind; (exact o95 _ _ _ _ _ (by omega) (hm.i _ (by assumption)).o); intro _ _) | with_reducible refine Ok.idxg ?_ (fun _ => ?_) | with_reducible refine Ok.if ?_ ?_)) <;> (first | trivial | assumption | contradiction | omega | grind | (simp only [Bd.c, Bd.vl, ByteArray.size_append, ByteArray.size_extract, sz0] at *; grind))
 dsimp only [ZbK, ZpJ, Zmz, Zp3, ZrD, Znw, ZoW, Zn2, Zqm, ZmO, Zqg, ZmI, ZpC, Zq3, ixg, vz, vy, vw, lr, lc, cl, fl, fr, eqL]
 (repeat' (first | with_reducible refine Ok.br (fun _ => ?_) (fun _ => ?_) | with_reducible refine Ok.pure ?_ | (with_reducible apply Ok.lb; (exact q1 _ (by (first | trivial | assumption | contradiction | omega | solve_by_elim | (simp only [Bool.and_eq_true, Bool.or_eq_true, Bool.not_eq_true', Bool.and_eq_false_iff, Bool.or_eq_false_iff, decide_eq_true_eq, decide_eq_false_iff_not] at *; omega) | grind))); all_goals (intro _ _; try dsimp only)) | (with_reducible apply Ok.bind; (exact o88 _ hm.n); intro _ _) | (with_reducible apply Ok.bind; (exact ZI4 _ _ _ _); intro _ _) | (with_reducible apply Ok.bind; (exact o62 _ _ _ _ _ (by omega)); intro _ _) | (with_reducible apply Ok.bind; (exact o95 _ _ _ _ _ (by omega) hm.o); intro _ _) | (with_reducible apply Ok.bind; (exact o96 _ _ _ _ _ (by omega) h2); intro _ _) | with_reducible refine Ok.idxg ?_ (fun _ => ?_) | with_reducible refine Ok.if ?_ ?_)) <;> (first | trivial | assumption | contradiction | omega | grind | (simp only [Bd.c, Bd.vl, ByteArray.size_append, ByteArray.size_extract, sz0] at *; grind))
theorem o68 (s : Scm) (e : Svc) (h : SzS s) (hm : SzW e) : Ok (fun y => y.length ≤ 67108864) (Za8 s e) := by
 have h1 := hm.ml
 have q1 : ∀ r0 : List Prb, r0.length ≤ 9 → Ok (Sum.elim (fun y : List Prb => y.length ≤ 10485769) No) (Zaf (ZsU s e) big (0, r0)) := by
  intro r0 hr0
  refine Ok.loop (fun v : Nat × List Prb => v.1 ≤ e.methods.length ∧ v.2.length ≤ 9 + 10 * v.1) (fun v : Nat × List Prb => e.methods.length - v.1) ⟨by simp, by simpa using hr0⟩ (Zat (by omega)) fun v hv => ?_
  obtain ⟨v, r⟩ := v
  obtain ⟨h4, h5⟩ := hv
  dsimp only at h4 h5
  dsimp only [ZsU, ZqW, Zqx, Zrg, ZnT, Zxm, Zzr, ZAK, Zze, ZyG, ZyK, ZyJ, ZyF, ZAz, br, ix, ixg, vz, vw, vs, vg, ln, lxe, lc, cl, clg, wa, wi, fl, eqL, br]
  (repeat' (first | with_reducible refine Ok.br (fun _ => ?_) (fun _ => ?_) | with_reducible refine Ok.pure ?_ | with_reducible refine Ok.idx ?_ (fun _ _ _ => ?_) | (with_reducible apply Ok.bind; (exact o62 _ _ _ _ _ (by omega)); intro _ _) | (with_reducible apply Ok.bind; (exact o98 _ _ h); intro _ _) | (with_reducible apply Ok.bind; (exact o89 _ (hm.m _ (by assumption)).n); intro _ _) | (with_reducible apply Ok.bind; (exact o95 _ _ _ _ _ (by omega) (hm.m _ (by assumption)).o); intro _ _) | (with_reducible apply Ok.clg; (exact fun _ => o62 _ _ _ _ _ (by omega)); intro _) | (with_reducible apply Ok.clg; (exact fun _ => o98 _ _ h); intro _) | (with_reducible apply Ok.clg; (exact fun _ => o89 _ (hm.m _ (by assumption)).n); intro _) | (with_reducible apply Ok.clg; (exact fun _ => o95 _ _ _ _ _ (by omega) (hm.m _ (by assumption)).o); intro _) | with_reducible refine Ok.idxg ?_ (fun _ => ?_) | with_reducible refine Ok.if ?_ ?_)) <;> (first | trivial | assumption | contradiction | omega | grind | (simp only [Bd.c, Bd.vl, ByteArray.size_append, ByteArray.size_extract, sz0] at *; grind))
 dsimp only [Za8, Zo3, ZpY, ZrE, ZnJ, Zqo, Zrc, Zqy, ZmB, Zpx, vz, vw, lr, lc, cl, fl, fr, eqL]
 (repeat' (first | with_reducible refine Ok.br (fun _ => ?_) (fun _ => ?_) | with_reducible refine Ok.pure ?_ | (with_reducible apply Ok.lb; (exact q1 _ (by (first | trivial | assumption | contradiction | omega | solve_by_elim | (simp only [Bool.and_eq_true, Bool.or_eq_true, Bool.not_eq_true', Bool.and_eq_false_iff, Bool.or_eq_false_iff, decide_eq_true_eq, decide_eq_false_iff_not] at *; omega) | grind))); all_goals (intro _ _; try dsimp only)) | (with_reducible apply Ok.bind; (exact o88 _ hm.n); intro _ _) | (with_reducible apply Ok.bind; (exact ZI4 _ _ _ _); intro _ _) | (with_reducible apply Ok.bind; (exact o62 _ _ _ _ _ (by omega)); intro _ _) | (with_reducible apply Ok.bind; (exact o95 _ _ _ _ _ (by omega) hm.o); intro _ _) | with_reducible refine Ok.if ?_ ?_)) <;> (first | trivial | assumption | contradiction | omega | grind | (simp only [Bd.c, Bd.vl, ByteArray.size_append, ByteArray.size_extract, sz0] at *; grind))
structure Few (s : Scm) : Prop where
 m : s.messages.length ≤ 150
 e : s.enums.length ≤ 150
 w : s.services.length ≤ 150
theorem o37 (s : Scm) (h : SzS s) (k : Few s) : Ok (fun y => y.length = 0 → ∀ (i : Nat) (m : Msg), s.messages[i]? = some m → GdM m) (ZbX s) := by
 have k1 := k.m
 have k2 := k.e
 have k3 := k.w
 have q1 : Ok (Sum.elim (fun y : List Prb => y.length ≤ 9) No) (Zaf (Zt5 s) big (1, [])) := by
  refine Ok.loop (fun v : Nat × List Prb => 1 ≤ v.1 ∧ v.1 ≤ 4 ∧ v.2.length ≤ 2 * v.1) (fun v : Nat × List Prb => 4 - v.1) ⟨by simp, by simp, by simp⟩ (Zat (by omega)) fun v hv => ?_
  obtain ⟨v, r⟩ := v
  obtain ⟨h4, h5, h6⟩ := hv
  dsimp only at h4 h5 h6
  dsimp only [Zt5, ZzV, Zxf, Zxy, Zys, Zxc, Zxh, Zzk, br, vz, vw, vs, ln, lxe, lc, cl, wa, fl, eqL, br]
  (repeat' (first | with_reducible refine Ok.br (fun _ => ?_) (fun _ => ?_) | with_reducible refine Ok.pure ?_ | (with_reducible apply Ok.bind; (exact o61 _ _ h); intro _ _) | (with_reducible apply Ok.bind; (exact o62 _ _ _ _ _ (by omega)); intro _ _) | (with_reducible apply Ok.bind; (exact o63 _ (by assumption)); intro _ _) | with_reducible refine Ok.if ?_ ?_)) <;> (first | trivial | assumption | contradiction | omega | grind | (simp only [Bd.c, Bd.vl, ByteArray.size_append, ByteArray.size_extract, sz0] at *; grind))
 have q2 : ∀ (r0 : List Prb) (l : List Bool), r0.length ≤ 10 → l.length = s.messages.length → Ok (Sum.elim (fun y : List Prb => y.length ≤ 10066329610 ∧ (y.length = 0 → ∀ (i : Nat) (m : Msg), s.messages[i]? = some m → GdM m)) No) (Zaf (ZtJ s l) big (0, r0)) := by
  intro r0 l hr0 hl
  refine Ok.loop (fun v : Nat × List Prb => v.1 ≤ s.messages.length ∧ v.2.length ≤ 10 + 67108864 * v.1 ∧ (v.2.length = 0 → ∀ (i : Nat) (m : Msg), i < v.1 → s.messages[i]? = some m → GdM m)) (fun v : Nat × List Prb => s.messages.length - v.1) ⟨by simp, by simpa using hr0, fun _ i m hi => by simp at hi⟩ (Zat (by omega)) fun v hv => ?_
  obtain ⟨v, r⟩ := v
  obtain ⟨h4, h5, h6⟩ := hv
  dsimp only at h4 h5 h6
  dsimp only [ZtJ, Zm8, Zzy, ZrA, br, ix, vz, vw, vs, ln, lxe, lc, aq, cl, wa, tw, fl, eqL, br]
  (repeat' (first | with_reducible refine Ok.br (fun _ => ?_) (fun _ => ?_) | with_reducible refine Ok.pure ?_ | with_reducible refine Ok.idx ?_ (fun _ _ _ => ?_) | (with_reducible apply Ok.bind; (exact o66 _ _ _ h (h.m _ (by assumption)) hl); intro _ _) | with_reducible refine Ok.if ?_ ?_)) <;> (first | trivial | assumption | contradiction | omega | grind | (simp only [Bd.c, Bd.vl, ByteArray.size_append, ByteArray.size_extract, sz0] at *; grind))
 have q3 : ∀ r0 : List Prb, r0.length ≤ 10066329610 → Ok (Sum.elim (fun y : List Prb => r0.length ≤ y.length ∧ y.length ≤ 20132659210) No) (Zaf (ZtP s) big (0, r0)) := by
  intro r0 hr0
  refine Ok.loop (fun v : Nat × List Prb => v.1 ≤ s.enums.length ∧ v.2.length ≤ 10066329610 + 67108864 * v.1 ∧ r0.length ≤ v.2.length) (fun v : Nat × List Prb => s.enums.length - v.1) ⟨by simp, by simpa using hr0, by simp⟩ (Zat (by omega)) fun v hv => ?_
  obtain ⟨v, r⟩ := v
  obtain ⟨h4, h5, h6⟩ := hv
  dsimp only at h4 h5 h6
  dsimp only [ZtP, Zrb, Zof, ZiU, br, ix, vz, vw, vs, ln, lxe, lc, aq, cl, wa, tw, fl, eqL, br]
  (repeat' (first | with_reducible refine Ok.br (fun _ => ?_) (fun _ => ?_) | with_reducible refine Ok.pure ?_ | with_reducible refine Ok.idx ?_ (fun _ _ _ => ?_) | (with_reducible apply Ok.bind; (exact o67 _ (h.e _ (by assumption))); intro _ _) | with_reducible refine Ok.if ?_ ?_)) <;> (first | trivial | assumption | contradiction | omega | grind | (simp only [Bd.c, Bd.vl, ByteArray.size_append, ByteArray.size_extract, sz0] at *; grind))
 have q4 : ∀ r0 : List Prb, r0.length ≤ 20132659210 → Ok (Sum.elim (fun y : List Prb => r0.length ≤ y.length) No) (Zaf (ZtA s) big (0, r0)) := by
  intro r0 hr0
  refine Ok.loop (fun v : Nat × List Prb => v.1 ≤ s.services.length ∧ v.2.length ≤ 20132659210 + 67108864 * v.1 ∧ r0.length ≤ v.2.length) (fun v : Nat × List Prb => s.services.length - v.1) ⟨by simp, by simpa using hr0, by simp⟩ (Zat (by omega)) fun v hv => ?_
  obtain ⟨v, r⟩ := v
  obtain ⟨h4, h5, h6⟩ := hv
  dsimp only at h4 h5 h6
  dsimp only [ZtA, ZqO, ZmZ, Zid, br, ix, vz, vw, vs, ln, lxe, lc, aq, cl, wa, tw, fl, eqL, br]
  (repeat' (first | with_reducible refine Ok.br (fun _ => ?_) (fun _ => ?_) | with_reducible refine Ok.pure ?_ | with_reducible refine Ok.idx ?_ (fun _ _ _ => ?_) | (with_reducible apply Ok.bind; (exact o68 _ _ h (h.w _ (by assumption))); intro _ _) | with_reducible refine Ok.if ?_ ?_)) <;> (first | trivial | assumption | contradiction | omega | grind | (simp only [Bd.c, Bd.vl, ByteArray.size_append, ByteArray.size_extract, sz0] at *; grind))
 dsimp only [ZbX, Zq5, ZqD, Znh, Zns, Znc, Zp0, Zpn, Zp7, Zrp, Zod, Zn0, Zqr, vz, vw, lr, lc, cl, clg, fl, fr]
 (repeat' (first | with_reducible refine Ok.br (fun _ => ?_) (fun _ => ?_) | with_reducible refine Ok.pure ?_ | (with_reducible apply Ok.lb; (exact q1); all_goals (intro _ _; try dsimp only)) | (with_reducible apply Ok.lb; (exact q2 _ _ (by omega) (by assumption)); all_goals (intro _ _; try dsimp only)) | (with_reducible apply Ok.lb; (exact q3 _ (by omega)); all_goals (intro _ _; try dsimp only)) | (with_reducible apply Ok.lb; (exact q4 _ (by omega)); all_goals (intro _ _; try dsimp only)) | (with_reducible apply Ok.bind; (exact o61 _ _ h); intro _ _) | (with_reducible apply Ok.bind; (exact o64 _ _ (by assumption) (by assumption)); intro _ _) | (with_reducible apply Ok.bind; (exact o65 _ h); intro _ _) | (with_reducible apply Ok.bind; (exact o62 _ _ _ _ _ (by omega)); intro _ _) | (with_reducible apply Ok.clg; (exact fun _ => o61 _ _ h); intro _) | (with_reducible apply Ok.clg; (exact fun _ => o64 _ _ (by assumption) (by assumption)); intro _) | (with_reducible apply Ok.clg; (exact fun _ => o65 _ h); intro _) | (with_reducible apply Ok.clg; (exact fun _ => o62 _ _ _ _ _ (by omega)); intro _) | with_reducible refine Ok.if ?_ ?_)) <;> (first | trivial | assumption | contradiction | omega | grind | (simp only [Bd.c, Bd.vl, ByteArray.size_append, ByteArray.size_extract, sz0] at *; grind))
theorem o16 (s : Scm) (h : SzS s) (k : Few s) : Ok (fun b => b = true → ∀ (i : Nat) (m : Msg), s.messages[i]? = some m → GdM m) (ZaL s) := by
 dsimp only [ZaL, ZyR, vz, vw, lr, cl, eqL]
 (repeat' (first | with_reducible refine Ok.br (fun _ => ?_) (fun _ => ?_) | with_reducible refine Ok.pure ?_ | (with_reducible apply Ok.bind; (exact o37 _ h k); intro _ _) | with_reducible refine Ok.if ?_ ?_)) <;> (first | trivial | assumption | contradiction | omega | grind | (simp only [Bd.c, Bd.vl, ByteArray.size_append, ByteArray.size_extract, sz0] at *; grind))
end Go.Proofs.YtchkcemlglpobaaGreat
