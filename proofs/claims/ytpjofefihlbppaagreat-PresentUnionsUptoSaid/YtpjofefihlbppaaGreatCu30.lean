import Derived.Test.YtpjofefihlbppaaGreatCu29
import Derived.Test.YtpjofefihlbppaaGreatCu00
namespace Go.Proofs.YtpjofefihlbppaaGreat
set_option linter.all false
open Go Go.Eng
theorem Zji (x : ByteArray) : x.data.toList.length = x.size := by rw [YQ]; rfl
theorem ZaF {n : Nat} (h : n ≤ 2097152) : n < big := by unfold big; omega
theorem ZJc (x : ByteArray) (h : x.size ≤ 1048576) : Ok Tr (ZbY x) := by
 have q : Ok Ts (Zag (Zkm x) big 0) := by
  refine Ok.loop (fun v : Int => 0 ≤ v ∧ v ≤ x.size + 4) (fun v : Int => (x.size + 4 - v).toNat) ⟨by omega, by omega⟩ (ZaF (by omega)) fun v hv => ?_
  dsimp only [Zkm, Znl, br, vz, vs, lrt, ln, lxe, cl, wi, eqN, br]
  (repeat' (first | with_reducible refine Ok.br (fun _ => ?_) (fun _ => ?_) | with_reducible refine Ok.pure ?_ | (with_reducible apply Ok.bind; (exact ZJb _ _ hv.1 (by (first | trivial | assumption | contradiction | omega | solve_by_elim | (simp only [Bool.and_eq_true, Bool.or_eq_true, Bool.not_eq_true', Bool.and_eq_false_iff, Bool.or_eq_false_iff, decide_eq_true_eq, decide_eq_false_iff_not] at *; omega) | grind)) h); intro _ _) | with_reducible refine Ok.if ?_ ?_)) <;> (first | trivial | assumption | contradiction | omega | grind | (simp only [Bd.c, Bd.vl, ByteArray.size_append, ByteArray.size_extract, sz0] at *; grind))
 dsimp only [ZbY, Zof, ZmB, ZlC, lr, lc]
 (repeat' (first | with_reducible refine Ok.br (fun _ => ?_) (fun _ => ?_) | with_reducible refine Ok.pure ?_ | (with_reducible apply Ok.lb; (exact q); all_goals (intro _ _; try dsimp only)) | with_reducible refine Ok.if ?_ ?_)) <;> (first | trivial | assumption | contradiction | omega | solve_by_elim | (simp only [Bool.and_eq_true, Bool.or_eq_true, Bool.not_eq_true', Bool.and_eq_false_iff, Bool.or_eq_false_iff, decide_eq_true_eq, decide_eq_false_iff_not] at *; omega) | grind)
theorem o97 (x : ByteArray) (h : x.size ≤ 1048576) : Ok Tr (Zbx x) := by
 dsimp only [Zbx, Zxc, lr, cl]
 (repeat' (first | with_reducible refine Ok.br (fun _ => ?_) (fun _ => ?_) | with_reducible refine Ok.pure ?_ | (with_reducible apply Ok.bind; (exact ZJc _ h); intro _ _) | with_reducible refine Ok.if ?_ ?_)) <;> (first | trivial | assumption | contradiction | omega | solve_by_elim | (simp only [Bool.and_eq_true, Bool.or_eq_true, Bool.not_eq_true', Bool.and_eq_false_iff, Bool.or_eq_false_iff, decide_eq_true_eq, decide_eq_false_iff_not] at *; omega) | grind)
theorem ZEB (x : ByteArray) (h : x.size ≤ 1048576) : Ok Tr (Zbo x) := by
 have hl := Zji x
 have q : Ok Ts (Zag (ZjT x) big 1) := by
  refine Ok.loop (fun v : Nat => v ≤ 1048577) (fun v : Nat => 1048577 - v) (by omega) (ZaF (by omega)) fun v hv => ?_
  dsimp only [ZjT, Zmz, br, vz, vs, lrt, ln, lxe, cl, clg, wa, eqN, br, ib, ibg]
  (repeat' (first | with_reducible refine Ok.br (fun _ => ?_) (fun _ => ?_) | with_reducible refine Ok.pure ?_ | with_reducible refine Ok.idx ?_ (fun _ _ _ => ?_) | (with_reducible apply Ok.bind; (exact ZEt _); intro _ _) | (with_reducible apply Ok.bind; (exact ZEj _); intro _ _) | (with_reducible apply Ok.clg; (exact fun _ => ZEt _); intro _) | (with_reducible apply Ok.clg; (exact fun _ => ZEj _); intro _) | with_reducible refine Ok.if ?_ ?_)) <;> (first | trivial | assumption | contradiction | omega | grind | (simp only [Bd.c, Bd.vl, ByteArray.size_append, ByteArray.size_extract, sz0] at *; grind))
 dsimp only [Zbo, Zov, Zpk, Znp, br, vz, vy, lr, lc, clg, eqN, br, ibg]
 (repeat' (first | with_reducible refine Ok.br (fun _ => ?_) (fun _ => ?_) | with_reducible refine Ok.pure ?_ | (with_reducible apply Ok.lb; (exact q); all_goals (intro _ _; try dsimp only)) | (with_reducible apply Ok.bind; (exact ZEt _); intro _ _) | (with_reducible apply Ok.bind; (exact ZEj _); intro _ _) | (with_reducible apply Ok.clg; (exact fun _ => ZEt _); intro _) | (with_reducible apply Ok.clg; (exact fun _ => ZEj _); intro _) | with_reducible refine Ok.if ?_ ?_)) <;> (first | trivial | assumption | contradiction | omega | solve_by_elim | (simp only [Bool.and_eq_true, Bool.or_eq_true, Bool.not_eq_true', Bool.and_eq_false_iff, Bool.or_eq_false_iff, decide_eq_true_eq, decide_eq_false_iff_not] at *; omega) | grind)
theorem ZIQ (x : ByteArray) (h : x.size ≤ 1048576) : Ok Tr (Zbk x) := by
 have hl := Zji x
 have q : Ok (Sum.elim (fun b : ByteArray => b.size ≤ 1048576) Tr) (Zag (Zka x) big (⟨#[]⟩, 0)) := by
  refine Ok.loop (fun v : ByteArray × Nat => v.1.size ≤ v.2 ∧ v.2 ≤ x.size) (fun v : ByteArray × Nat => x.size - v.2) ⟨by rw [sz0]; omega, by omega⟩ (ZaF (by omega)) fun v hv => ?_
  obtain ⟨v, i⟩ := v
  obtain ⟨hv, hi⟩ := hv
  dsimp only at hv hi
  dsimp only [Zka, ZnK, br, vz, vs, v2, lrt, ln, lxe, ad, cl, wa, ss, eqN, br, ib]
  (repeat' (first | with_reducible refine Ok.br (fun _ => ?_) (fun _ => ?_) | with_reducible refine Ok.pure ?_ | with_reducible refine Ok.idx ?_ (fun _ _ _ => ?_) | (with_reducible apply Ok.bind; (exact ZEB _ (by omega)); intro _ _) | with_reducible refine Ok.ss ?_ ?_ | with_reducible refine Ok.if ?_ ?_)) <;> (first | trivial | assumption | contradiction | omega | grind | (simp only [Bd.c, Bd.vl, ByteArray.size_append, ByteArray.size_extract, sz0] at *; grind))
 dsimp only [Zbk, Zm0, ZoU, Zpt, br, vz, lr, lc, cl, eqN, br]
 (repeat' (first | with_reducible refine Ok.br (fun _ => ?_) (fun _ => ?_) | with_reducible refine Ok.pure ?_ | (with_reducible apply Ok.lb; (exact q); all_goals (intro _ _; try dsimp only)) | (with_reducible apply Ok.bind; (exact ZEB _ (by assumption)); intro _ _) | with_reducible refine Ok.if ?_ ?_)) <;> (first | trivial | assumption | contradiction | omega | solve_by_elim | (simp only [Bool.and_eq_true, Bool.or_eq_true, Bool.not_eq_true', Bool.and_eq_false_iff, Bool.or_eq_false_iff, decide_eq_true_eq, decide_eq_false_iff_not] at *; omega) | grind)
set_option maxRecDepth 20000 in
theorem ZIZ (x : ByteArray) (h : x.size ≤ 1048576) : Ok (fun y => y.1.size ≤ 1048576 ∧ y.2.size ≤ 1048576) (ZbC x) := by
 have hl := Zji x
 have q : Ok (Sum.elim Tr (fun y : ByteArray × ByteArray => y.1.size ≤ 1048576 ∧ y.2.size ≤ 1048576)) (Zag (Zkk x) big ((x.size : Int) - 1)) := by
  refine Ok.loop (fun v : Int => -1 ≤ v ∧ v < x.size) (fun v : Int => (v + 1).toNat) ⟨by omega, by omega⟩ (ZaF (by omega)) fun v hv => ?_
  dsimp only [Zkk, Znj, br, vs, lrt, ln, lxe, wi, ss, br, ibi]
  (repeat' (first | with_reducible refine Ok.br (fun _ => ?_) (fun _ => ?_) | with_reducible refine Ok.pure ?_ | with_reducible refine Ok.idx ?_ (fun _ _ _ => ?_) | with_reducible refine Ok.ss ?_ ?_ | with_reducible refine Ok.if ?_ ?_)) <;> (first | trivial | assumption | contradiction | omega | grind | (simp only [Bd.c, Bd.vl, ByteArray.size_append, ByteArray.size_extract, sz0] at *; grind))
 dsimp only [ZbC, Zow, ZoF, Zop, vz, vs, lr, lc, wi, eqN]
 (repeat' (first | with_reducible refine Ok.br (fun _ => ?_) (fun _ => ?_) | with_reducible refine Ok.pure ?_ | (with_reducible apply Ok.lb; (exact q); all_goals (intro _ _; try dsimp only)) | with_reducible refine Ok.if ?_ ?_)) <;> (first | trivial | assumption | contradiction | omega | grind | (simp only [Bd.c, Bd.vl, ByteArray.size_append, ByteArray.size_extract, sz0] at *; grind))
set_option maxRecDepth 20000 in
theorem o88 (x : ByteArray) (h : x.size ≤ 1048576) : Ok Tr (Zbl x) := by
 have q : Ok Ts (Zag Zrs big (x, 0)) := by
  refine Ok.loop (fun v : ByteArray × Nat => v.1.size ≤ 1048576 ∧ v.2 ≤ 120) (fun v : ByteArray × Nat => 120 - v.2) ⟨h, by omega⟩ (ZaF (by omega)) fun v hv => ?_
  obtain ⟨v, i⟩ := v
  obtain ⟨hv, hi⟩ := hv
  dsimp only at hv hi
  dsimp only [Zrs, Zuz, br, vs, v2, lrt, ln, lxe, cl, wa, br]
  (repeat' (first | with_reducible refine Ok.br (fun _ => ?_) (fun _ => ?_) | with_reducible refine Ok.pure ?_ | (with_reducible apply Ok.bind; (exact ZIZ _ hv); intro _ _) | (with_reducible apply Ok.bind; (exact ZGB _); intro _ _) | with_reducible refine Ok.if ?_ ?_)) <;> (first | trivial | assumption | contradiction | omega | grind | (simp only [Bd.c, Bd.vl, ByteArray.size_append, ByteArray.size_extract, sz0] at *; grind))
 dsimp only [Zbl, Zvv, ZyV, Zye, br, lr, lc, cl, br]
 (repeat' (first | with_reducible refine Ok.br (fun _ => ?_) (fun _ => ?_) | with_reducible refine Ok.pure ?_ | (with_reducible apply Ok.lb; (exact q); all_goals (intro _ _; try dsimp only)) | (with_reducible apply Ok.bind; (exact ZIQ _ h); intro _ _) | with_reducible refine Ok.if ?_ ?_)) <;> (first | trivial | assumption | contradiction | omega | grind | (simp only [Bd.c, Bd.vl, ByteArray.size_append, ByteArray.size_extract, sz0] at *; grind))
set_option maxRecDepth 20000 in
theorem o89 (x : ByteArray) (h : x.size ≤ 1048576) : Ok Tr (ZaS x) := by
 dsimp only [ZaS, Zuj, lr, cl, clg]
 (repeat' (first | with_reducible refine Ok.br (fun _ => ?_) (fun _ => ?_) | with_reducible refine Ok.pure ?_ | (with_reducible apply Ok.bind; (exact ZEB _ h); intro _ _) | (with_reducible apply Ok.bind; (exact ZGB _); intro _ _) | (with_reducible apply Ok.clg; (exact fun _ => ZEB _ h); intro _) | (with_reducible apply Ok.clg; (exact fun _ => ZGB _); intro _) | with_reducible refine Ok.if ?_ ?_)) <;> (first | trivial | assumption | contradiction | omega | grind | (simp only [Bd.c, Bd.vl, ByteArray.size_append, ByteArray.size_extract, sz0] at *; grind))
theorem o86 (l : List ByteArray) (x : ByteArray) (h : l.length ≤ 1048576) : Ok Tr (ZaO l x) := by
 have q : Ok Ts (Zag (ZkS l x) big 0) := by
  refine Ok.loop (fun v : Nat => v ≤ l.length) (fun v : Nat => l.length - v) (by omega) (ZaF (by omega)) fun v hv => ?_
  dsimp only [ZkS, ZrG, br, ix, vz, vs, lrt, ln, lxe, wa, eqL, br]
  (repeat' (first | with_reducible refine Ok.br (fun _ => ?_) (fun _ => ?_) | with_reducible refine Ok.pure ?_ | with_reducible refine Ok.idx ?_ (fun _ _ _ => ?_) | with_reducible refine Ok.if ?_ ?_)) <;> (first | trivial | assumption | contradiction | omega | grind | (simp only [Bd.c, Bd.vl, ByteArray.size_append, ByteArray.size_extract, sz0] at *; grind))
 dsimp only [ZaO, ZrM, ZpG, Zqo, lr, lc]
 (repeat' (first | with_reducible refine Ok.br (fun _ => ?_) (fun _ => ?_) | with_reducible refine Ok.pure ?_ | (with_reducible apply Ok.lb; (exact q); all_goals (intro _ _; try dsimp only)) | with_reducible refine Ok.if ?_ ?_)) <;> (first | trivial | assumption | contradiction | omega | grind | (simp only [Bd.c, Bd.vl, ByteArray.size_append, ByteArray.size_extract, sz0] at *; grind))
theorem o90 (l : List Spn) (x : Int) (h : l.length ≤ 1048576) : Ok Tr (Za5 l x) := by
 have q : Ok Ts (Zag (Zrl l x) big 0) := by
  refine Ok.loop (fun v : Nat => v ≤ l.length) (fun v : Nat => l.length - v) (by omega) (ZaF (by omega)) fun v hv => ?_
  dsimp only [Zrl, ZxB, br, ix, ixg, vz, vs, lrt, ln, lxe, wa, eqL, br]
  (repeat' (first | with_reducible refine Ok.br (fun _ => ?_) (fun _ => ?_) | with_reducible refine Ok.pure ?_ | with_reducible refine Ok.idx ?_ (fun _ _ _ => ?_) | with_reducible refine Ok.idxg ?_ (fun _ => ?_) | with_reducible refine Ok.if ?_ ?_)) <;> (first | trivial | assumption | contradiction | omega | grind | (simp only [Bd.c, Bd.vl, ByteArray.size_append, ByteArray.size_extract, sz0] at *; grind))
 dsimp only [Za5, Zx3, Zyc, ZvE, lr, lc]
 (repeat' (first | with_reducible refine Ok.br (fun _ => ?_) (fun _ => ?_) | with_reducible refine Ok.pure ?_ | (with_reducible apply Ok.lb; (exact q); all_goals (intro _ _; try dsimp only)) | with_reducible refine Ok.if ?_ ?_)) <;> (first | trivial | assumption | contradiction | omega | grind | (simp only [Bd.c, Bd.vl, ByteArray.size_append, ByteArray.size_extract, sz0] at *; grind))
theorem o98 (s : Scm) (x : ByteArray) (h : SzS s) : Ok (fun y : Int => y < s.messages.length) (ZaV s x) := by
 have hm := h.ml
 have q : Ok (Sum.elim Tr fun y : Int => y < s.messages.length) (Zag (ZpN s x) big 0) := by
  refine Ok.loop (fun v : Nat => v ≤ s.messages.length) (fun v : Nat => s.messages.length - v) (by omega) (ZaF (by omega)) fun v hv => ?_
  dsimp only [ZpN, ZuB, br, ix, vz, vw, vs, lrt, ln, lxe, wa, eqL, br]
  (repeat' (first | with_reducible refine Ok.br (fun _ => ?_) (fun _ => ?_) | with_reducible refine Ok.pure ?_ | with_reducible refine Ok.idx ?_ (fun _ _ _ => ?_) | with_reducible refine Ok.if ?_ ?_)) <;> (first | trivial | assumption | contradiction | omega | grind | (simp only [Bd.c, Bd.vl, ByteArray.size_append, ByteArray.size_extract, sz0] at *; grind))
 dsimp only [ZaV, Zxm, ZxE, ZuR, lr, lc]
 (repeat' (first | with_reducible refine Ok.br (fun _ => ?_) (fun _ => ?_) | with_reducible refine Ok.pure ?_ | (with_reducible apply Ok.lb; (exact q); all_goals (intro _ _; try dsimp only)) | with_reducible refine Ok.if ?_ ?_)) <;> (first | trivial | assumption | contradiction | omega | grind | (simp only [Bd.c, Bd.vl, ByteArray.size_append, ByteArray.size_extract, sz0] at *; grind))
theorem ZEP (s : Scm) (x : ByteArray) (h : SzS s) : Ok (fun y : Int => y < s.enums.length) (Zbd s x) := by
 have hm := h.el
 have q : Ok (Sum.elim Tr fun y : Int => y < s.enums.length) (Zag (ZjV s x) big 0) := by
  refine Ok.loop (fun v : Nat => v ≤ s.enums.length) (fun v : Nat => s.enums.length - v) (by omega) (ZaF (by omega)) fun v hv => ?_
  dsimp only [ZjV, Znv, br, ix, vz, vw, vs, lrt, ln, lxe, wa, eqL, br]
  (repeat' (first | with_reducible refine Ok.br (fun _ => ?_) (fun _ => ?_) | with_reducible refine Ok.pure ?_ | with_reducible refine Ok.idx ?_ (fun _ _ _ => ?_) | with_reducible refine Ok.if ?_ ?_)) <;> (first | trivial | assumption | contradiction | omega | grind | (simp only [Bd.c, Bd.vl, ByteArray.size_append, ByteArray.size_extract, sz0] at *; grind))
 dsimp only [Zbd, Zn1, Zo0, Zms, lr, lc]
 (repeat' (first | with_reducible refine Ok.br (fun _ => ?_) (fun _ => ?_) | with_reducible refine Ok.pure ?_ | (with_reducible apply Ok.lb; (exact q); all_goals (intro _ _; try dsimp only)) | with_reducible refine Ok.if ?_ ?_)) <;> (first | trivial | assumption | contradiction | omega | grind | (simp only [Bd.c, Bd.vl, ByteArray.size_append, ByteArray.size_extract, sz0] at *; grind))
theorem ZEs (v w : Val) (h : SzV v) (k : SzV w) : Ok Tr (ZaW v w) := by
 obtain ⟨_, _, _, _, _⟩ := h
 obtain ⟨_, _, _, _, _⟩ := k
 dsimp only [ZaW, Zmf, vy, vw, vg, lr, wa, eqL]
 (repeat' (first | with_reducible refine Ok.br (fun _ => ?_) (fun _ => ?_) | with_reducible refine Ok.pure ?_ | with_reducible refine Ok.if ?_ ?_)) <;> (first | trivial | assumption | contradiction | omega | grind | (simp only [Bd.c, Bd.vl, ByteArray.size_append, ByteArray.size_extract, sz0] at *; grind))
theorem ZEp (n : Int) (v : Val) (h : SzV v) : Ok Tr (ZbP n v) := by
 have h1 := h.t
 dsimp only [ZbP, ZlB, br, vz, vy, vw, lr, cl, clg, eqN, br]
 (repeat' (first | with_reducible refine Ok.br (fun _ => ?_) (fun _ => ?_) | with_reducible refine Ok.pure ?_ | (with_reducible apply Ok.bind; (exact o83 _); intro _ _) | (with_reducible apply Ok.bind; (exact ZHd _); intro _ _) | (with_reducible apply Ok.bind; (exact ZHf _); intro _ _) | (with_reducible apply Ok.bind; (exact o97 _ h1); intro _ _) | (with_reducible apply Ok.clg; (exact fun _ => o83 _); intro _) | (with_reducible apply Ok.clg; (exact fun _ => ZHd _); intro _) | (with_reducible apply Ok.clg; (exact fun _ => ZHf _); intro _) | (with_reducible apply Ok.clg; (exact fun _ => o97 _ h1); intro _) | with_reducible refine Ok.if ?_ ?_)) <;> (first | trivial | assumption | contradiction | omega | grind | (simp only [Bd.c, Bd.vl, ByteArray.size_append, ByteArray.size_extract, sz0] at *; grind))
theorem ZHY (v : Val) (h : SzV v) : Ok SzV (ZbR v) := by
 dsimp only [ZbR, ZoV, br, vw, lr, clg, br]
 (repeat' (first | with_reducible refine Ok.br (fun _ => ?_) (fun _ => ?_) | with_reducible refine Ok.pure ?_ | (with_reducible apply Ok.bind; (exact ZHk _); intro _ _) | (with_reducible apply Ok.clg; (exact fun _ => ZHk _); intro _) | with_reducible refine Ok.if ?_ ?_)) <;> first | exact h | exact ⟨h.t, h.l, h.p, h.s, h.r⟩
theorem ZJw (x : Nt) (h : SzN x) : Ok Tr (Zbq x) := by
 dsimp only [Zbq, Zmh, vw, lr, cl, clg]
 (repeat' (first | with_reducible refine Ok.br (fun _ => ?_) (fun _ => ?_) | with_reducible refine Ok.pure ?_ | (with_reducible apply Ok.bind; (exact ZF1 _); intro _ _) | (with_reducible apply Ok.bind; (exact ZEp _ _ h.v); intro _ _) | (with_reducible apply Ok.clg; (exact fun _ => ZF1 _); intro _) | (with_reducible apply Ok.clg; (exact fun _ => ZEp _ _ h.v); intro _) | with_reducible refine Ok.if ?_ ?_)) <;> (first | trivial | assumption | contradiction | omega | grind | (simp only [Bd.c, Bd.vl, ByteArray.size_append, ByteArray.size_extract, sz0] at *; grind))
theorem ZJA (l : List Nt) (n : Int) (h : ZpB l) : Ok Tr (Zbv l n) := by
 obtain ⟨h1, h2⟩ := h
 have q : Ok Ts (Zag (ZjG l n) big 0) := by
  refine Ok.loop (fun v : Nat => v ≤ l.length) (fun v : Nat => l.length - v) (by omega) (ZaF (by omega)) fun v hv => ?_
  dsimp only [ZjG, ZmM, br, ix, ixg, vz, vs, vg, lrt, ln, lxe, cl, wa, wi, eqL, br]
  (repeat' (first | with_reducible refine Ok.br (fun _ => ?_) (fun _ => ?_) | with_reducible refine Ok.pure ?_ | with_reducible refine Ok.idx ?_ (fun _ _ _ => ?_) | (with_reducible apply Ok.bind; (exact ZF1 _); intro _ _) | (with_reducible apply Ok.bind; (exact ZJ1 _ _); intro _ _) | (with_reducible apply Ok.bind; (exact ZJw _ (h2 _ (by assumption))); intro _ _) | with_reducible refine Ok.idxg ?_ (fun _ => ?_) | with_reducible refine Ok.if ?_ ?_)) <;> (first | trivial | assumption | contradiction | omega | grind | (simp only [Bd.c, Bd.vl, ByteArray.size_append, ByteArray.size_extract, sz0] at *; grind))
 dsimp only [Zbv, ZmV, Znb, Zm9, br, vz, lr, lc, eqL, br]
 (repeat' (first | with_reducible refine Ok.br (fun _ => ?_) (fun _ => ?_) | with_reducible refine Ok.pure ?_ | (with_reducible apply Ok.lb; (exact q); all_goals (intro _ _; try dsimp only)) | with_reducible refine Ok.if ?_ ?_)) <;> (first | trivial | assumption | contradiction | omega | grind | (simp only [Bd.c, Bd.vl, ByteArray.size_append, ByteArray.size_extract, sz0] at *; grind))
end Go.Proofs.YtpjofefihlbppaaGreat
namespace Go.Proofs.YtpjofefihlbppaaGreat
set_option linter.all false
open Go Go.Eng
theorem o62 (d : ByteArray) (l : List Prb) (b : Bool) (n e : Int) (h : l.length < 549755813887) : Ok (fun y => l.length ≤ y.length ∧ y.length ≤ l.length + 1 ∧ (b = true → l.length + 1 ≤ y.length)) (Zaa d l b n e) := by
 dsimp only [Zaa, Zxf, Zwv, ZyG, Zwk, vz, vw, lr, lc, ap, vwr, fl]
 (repeat' (first | with_reducible refine Ok.br (fun _ => ?_) (fun _ => ?_) | with_reducible refine Ok.pure ?_ | with_reducible refine Ok.if ?_ ?_)) <;> first | (first | trivial | assumption | contradiction | omega | grind | (simp only [Bd.c, Bd.vl, ByteArray.size_append, ByteArray.size_extract, sz0] at *; grind)) | simp_all
theorem o95 (d : ByteArray) (l : List Prb) (x : List Nt) (t n : Int) (h : l.length < 549755813887) (hx : ZpB x) : Ok (fun y => l.length ≤ y.length ∧ y.length ≤ l.length + 1) (Zaj d l x t n) := by
 dsimp only [Zaj, Zxp, Zvs, Zu7, ZyJ, vz, lr, lc, cl, fl]
 (repeat' (first | with_reducible refine Ok.br (fun _ => ?_) (fun _ => ?_) | with_reducible refine Ok.pure ?_ | (with_reducible apply Ok.bind; (exact ZJA _ _ hx); intro _ _) | (with_reducible apply Ok.bind; (exact o62 _ _ _ _ _ h); intro _ _) | with_reducible refine Ok.if ?_ ?_)) <;> (first | trivial | assumption | contradiction | omega | grind | (simp only [Bd.c, Bd.vl, ByteArray.size_append, ByteArray.size_extract, sz0] at *; grind))
theorem o96 (d : ByteArray) (l : List Prb) (x : List Spn) (t n : Int) (h : l.length < 500000000000) (hx : x.length ≤ 1048576) : Ok (fun y => l.length ≤ y.length ∧ y.length ≤ l.length + 2 * x.length) (Zaz d l x t n) := by
 have q : Ok (Sum.elim (fun y : List Prb => l.length ≤ y.length ∧ y.length ≤ l.length + 2 * x.length) No) (Zag (ZrH d x t n) big (0, l)) := by
  refine Ok.loop (fun v : Nat × List Prb => v.1 ≤ x.length ∧ l.length ≤ v.2.length ∧ v.2.length ≤ l.length + 2 * v.1) (fun v : Nat × List Prb => x.length - v.1) ⟨by omega, by simp, by simp⟩ (ZaF (by omega)) fun v hv => ?_
  obtain ⟨i, r⟩ := v
  obtain ⟨h1, h2, h3⟩ := hv
  dsimp only at h1 h2 h3
  dsimp only [ZrH, ZyA, Zx0, ZuP, Zyv, ZvD, Zyp, br, ix, ixg, vz, vs, vg, ln, lxe, lc, wa, wi, fl, eqL, br]
  (repeat' (first | with_reducible refine Ok.br (fun _ => ?_) (fun _ => ?_) | with_reducible refine Ok.pure ?_ | with_reducible refine Ok.idx ?_ (fun _ _ _ => ?_) | (with_reducible apply Ok.bind; (exact o62 _ _ _ _ _ (by omega)); intro _ _) | with_reducible refine Ok.idxg ?_ (fun _ => ?_) | with_reducible refine Ok.if ?_ ?_)) <;> (first | trivial | assumption | contradiction | omega | grind | (simp only [Bd.c, Bd.vl, ByteArray.size_append, ByteArray.size_extract, sz0] at *; grind))
 dsimp only [Zaz, ZuJ, Zvc, vz, lr, lc, fl]
 (repeat' (first | with_reducible refine Ok.br (fun _ => ?_) (fun _ => ?_) | with_reducible refine Ok.pure ?_ | (with_reducible apply Ok.lb; (exact q); all_goals (intro _ _; try dsimp only)) | with_reducible refine Ok.if ?_ ?_)) <;> (first | trivial | assumption | contradiction | omega | grind | (simp only [Bd.c, Bd.vl, ByteArray.size_append, ByteArray.size_extract, sz0] at *; grind))
theorem o61 (s : Scm) (w : Int) (h : SzS s) : Ok (fun y => y.length ≤ 3145728) (ZbB s w) := by
 have h1 := h.ml
 have h2 := h.el
 have h3 := h.wl
 have q1 : Ok (Sum.elim (fun y : List ByteArray => y.length ≤ 1048576) No) (Zag (ZpF s w) big ([], 0)) := by
  refine Ok.loop (fun v : List ByteArray × Nat => v.2 ≤ s.messages.length ∧ v.1.length ≤ v.2) (fun v : List ByteArray × Nat => s.messages.length - v.2) ⟨by omega, by simp⟩ (ZaF (by omega)) fun v hv => ?_
  obtain ⟨r, i⟩ := v
  obtain ⟨h1, h2⟩ := hv
  dsimp only at h1 h2
  dsimp only [ZpF, Zw2, br, ix, vz, vy, vw, vs, v2, ln, lxe, ap, wa, fl, eqL, br]
  (repeat' (first | with_reducible refine Ok.br (fun _ => ?_) (fun _ => ?_) | with_reducible refine Ok.pure ?_ | with_reducible refine Ok.idx ?_ (fun _ _ _ => ?_) | with_reducible refine Ok.if ?_ ?_)) <;> (first | trivial | assumption | contradiction | omega | grind | (simp only [Bd.c, Bd.vl, ByteArray.size_append, ByteArray.size_extract, sz0] at *; grind))
 have q2 : ∀ r : List ByteArray, r.length ≤ 1048576 → Ok (Sum.elim (fun y : List ByteArray => y.length ≤ 2097152) No) (Zag (ZpI s w) big (r, 0)) := by
  intro r hr
  refine Ok.loop (fun v : List ByteArray × Nat => v.2 ≤ s.enums.length ∧ v.1.length ≤ 1048576 + v.2) (fun v : List ByteArray × Nat => s.enums.length - v.2) ⟨by omega, by simpa using hr⟩ (ZaF (by omega)) fun v hv => ?_
  obtain ⟨r, i⟩ := v
  obtain ⟨h1, h2⟩ := hv
  dsimp only at h1 h2
  dsimp only [ZpI, Zyu, br, ix, vz, vy, vw, vs, ln, lxe, ap, wa, fl, eqL, br]
  (repeat' (first | with_reducible refine Ok.br (fun _ => ?_) (fun _ => ?_) | with_reducible refine Ok.pure ?_ | with_reducible refine Ok.idx ?_ (fun _ _ _ => ?_) | with_reducible refine Ok.if ?_ ?_)) <;> (first | trivial | assumption | contradiction | omega | grind | (simp only [Bd.c, Bd.vl, ByteArray.size_append, ByteArray.size_extract, sz0] at *; grind))
 have q3 : ∀ r : List ByteArray, r.length ≤ 2097152 → Ok (Sum.elim (fun y : List ByteArray => y.length ≤ 3145728) No) (Zag (ZqV s w) big (r, 0)) := by
  intro r hr
  refine Ok.loop (fun v : List ByteArray × Nat => v.2 ≤ s.services.length ∧ v.1.length ≤ 2097152 + v.2) (fun v : List ByteArray × Nat => s.services.length - v.2) ⟨by omega, by simpa using hr⟩ (ZaF (by omega)) fun v hv => ?_
  obtain ⟨r, i⟩ := v
  obtain ⟨h1, h2⟩ := hv
  dsimp only at h1 h2
  dsimp only [ZqV, Zug, br, ix, vz, vy, vw, vs, ln, lxe, ap, wa, fl, eqL, br]
  (repeat' (first | with_reducible refine Ok.br (fun _ => ?_) (fun _ => ?_) | with_reducible refine Ok.pure ?_ | with_reducible refine Ok.idx ?_ (fun _ _ _ => ?_) | with_reducible refine Ok.if ?_ ?_)) <;> (first | trivial | assumption | contradiction | omega | grind | (simp only [Bd.c, Bd.vl, ByteArray.size_append, ByteArray.size_extract, sz0] at *; grind))
 dsimp only [ZbB, ZwX, Zvx, ZwF, Zv3, Zvy, ZxC, vz, vw, lr, lc, fl, fr]
 (repeat' (first | with_reducible refine Ok.br (fun _ => ?_) (fun _ => ?_) | with_reducible refine Ok.pure ?_ | (with_reducible apply Ok.lb; (exact q1); all_goals (intro _ _; try dsimp only)) | (with_reducible apply Ok.lb; (exact q2 _ (by assumption)); all_goals (intro _ _; try dsimp only)) | (with_reducible apply Ok.lb; (exact q3 _ (by assumption)); all_goals (intro _ _; try dsimp only)) | with_reducible refine Ok.if ?_ ?_)) <;> (first | trivial | assumption | contradiction | omega | grind | (simp only [Bd.c, Bd.vl, ByteArray.size_append, ByteArray.size_extract, sz0] at *; grind))
theorem o63 (l : List ByteArray) (h : l.length ≤ 3145728) : Ok Tr (Za1 l) := by
 have q : Ok Ts (Zag (ZpR l) big 1) := by
  refine Ok.loop (fun v : Nat => 1 ≤ v ∧ v ≤ l.length + 1) (fun v : Nat => l.length + 1 - v) ⟨by omega, by omega⟩ (by unfold big; omega) fun v hv => ?_
  dsimp only [ZpR, ZwS, br, ix, ixi, vz, vs, lrt, ln, lxe, wa, wi, eqL, br]
  (repeat' (first | with_reducible refine Ok.br (fun _ => ?_) (fun _ => ?_) | with_reducible refine Ok.pure ?_ | with_reducible refine Ok.idx ?_ (fun _ _ _ => ?_) | with_reducible refine Ok.if ?_ ?_)) <;> (first | trivial | assumption | contradiction | omega | grind | (simp only [Bd.c, Bd.vl, ByteArray.size_append, ByteArray.size_extract, sz0] at *; grind))
 dsimp only [Za1, Zvw, Zv0, Zvu, lr, lc]
 (repeat' (first | with_reducible refine Ok.br (fun _ => ?_) (fun _ => ?_) | with_reducible refine Ok.pure ?_ | (with_reducible apply Ok.lb; (exact q); all_goals (intro _ _; try dsimp only)) | with_reducible refine Ok.if ?_ ?_)) <;> (first | trivial | assumption | contradiction | omega | grind | (simp only [Bd.c, Bd.vl, ByteArray.size_append, ByteArray.size_extract, sz0] at *; grind))
theorem ZJN (l : List ByteArray) (x : ByteArray) (h : l.length ≤ 3145728) : Ok Tr (ZaO l x) := by
 have q : Ok Ts (Zag (ZkS l x) big 0) := by
  refine Ok.loop (fun v : Nat => v ≤ l.length) (fun v : Nat => l.length - v) (by omega) (by unfold big; omega) fun v hv => ?_
  dsimp only [ZkS, ZrG, br, ix, vz, vs, lrt, ln, lxe, wa, eqL, br]
  (repeat' (first | with_reducible refine Ok.br (fun _ => ?_) (fun _ => ?_) | with_reducible refine Ok.pure ?_ | with_reducible refine Ok.idx ?_ (fun _ _ _ => ?_) | with_reducible refine Ok.if ?_ ?_)) <;> (first | trivial | assumption | contradiction | omega | grind | (simp only [Bd.c, Bd.vl, ByteArray.size_append, ByteArray.size_extract, sz0] at *; grind))
 dsimp only [ZaO, ZrM, ZpG, Zqo, lr, lc]
 (repeat' (first | with_reducible refine Ok.br (fun _ => ?_) (fun _ => ?_) | with_reducible refine Ok.pure ?_ | (with_reducible apply Ok.lb; (exact q); all_goals (intro _ _; try dsimp only)) | with_reducible refine Ok.if ?_ ?_)) <;> (first | trivial | assumption | contradiction | omega | grind | (simp only [Bd.c, Bd.vl, ByteArray.size_append, ByteArray.size_extract, sz0] at *; grind))
theorem o64 (l k : List ByteArray) (h : l.length ≤ 3145728) (hk : k.length ≤ 3145728) : Ok Tr (ZbN l k) := by
 have q : Ok Ts (Zag (Zqe l k) big 0) := by
  refine Ok.loop (fun v : Nat => v ≤ l.length) (fun v : Nat => l.length - v) (by omega) (by unfold big; omega) fun v hv => ?_
  dsimp only [Zqe, Zwp, br, ix, vz, vs, lrt, ln, lxe, cl, wa, eqL, br]
  (repeat' (first | with_reducible refine Ok.br (fun _ => ?_) (fun _ => ?_) | with_reducible refine Ok.pure ?_ | with_reducible refine Ok.idx ?_ (fun _ _ _ => ?_) | (with_reducible apply Ok.bind; (exact ZJN _ _ hk); intro _ _) | with_reducible refine Ok.if ?_ ?_)) <;> (first | trivial | assumption | contradiction | omega | grind | (simp only [Bd.c, Bd.vl, ByteArray.size_append, ByteArray.size_extract, sz0] at *; grind))
 dsimp only [ZbN, ZxG, ZwU, Zxg, lr, lc]
 (repeat' (first | with_reducible refine Ok.br (fun _ => ?_) (fun _ => ?_) | with_reducible refine Ok.pure ?_ | (with_reducible apply Ok.lb; (exact q); all_goals (intro _ _; try dsimp only)) | with_reducible refine Ok.if ?_ ?_)) <;> (first | trivial | assumption | contradiction | omega | grind | (simp only [Bd.c, Bd.vl, ByteArray.size_append, ByteArray.size_extract, sz0] at *; grind))
theorem o92 (s : Scm) (f : Fld) (h : SzS s) : Ok Tr (Zb0 s f) := by
 dsimp only [Zb0, ZxJ, br, vw, lr, cl, br]
 (repeat' (first | with_reducible refine Ok.br (fun _ => ?_) (fun _ => ?_) | with_reducible refine Ok.pure ?_ | (with_reducible apply Ok.bind; (exact ZEP _ _ h); intro _ _) | (with_reducible apply Ok.bind; (exact o98 _ _ h); intro _ _) | with_reducible refine Ok.if ?_ ?_)) <;> (first | trivial | assumption | contradiction | omega | grind | (simp only [Bd.c, Bd.vl, ByteArray.size_append, ByteArray.size_extract, sz0] at *; grind))
theorem o93 (m : Msg) (i : Nat) (h : SzM m) (hi : i < m.fields.length) : Ok Tr (ZbA m i) := by
 have hl := h.fl
 have q : ∀ e, Ok (Sum.elim (fun b : Bool => b = true → 0 < i) Tr) (Zag (ZpK m i e) big (false, 0)) := by
  intro e
  refine Ok.loop (fun v : Bool × Nat => v.2 ≤ m.fields.length ∧ (v.1 = true → 0 < i)) (fun v : Bool × Nat => m.fields.length - v.2) ⟨by omega, by simp⟩ (ZaF (by omega)) fun v hv => ?_
  obtain ⟨b, j⟩ := v
  obtain ⟨h1, h2⟩ := hv
  dsimp only at h1 h2
  dsimp only [ZpK, ZvT, br, ix, ixg, vz, vw, vs, lrt, ln, lxe, wa, eqL, br]
  (repeat' (first | with_reducible refine Ok.br (fun _ => ?_) (fun _ => ?_) | with_reducible refine Ok.pure ?_ | with_reducible refine Ok.idx ?_ (fun _ _ _ => ?_) | with_reducible refine Ok.idxg ?_ (fun _ => ?_) | with_reducible refine Ok.if ?_ ?_)) <;> (first | trivial | assumption | contradiction | omega | grind | (simp only [Bd.c, Bd.vl, ByteArray.size_append, ByteArray.size_extract, sz0] at *; grind))
 dsimp only [ZbA, ZuW, Zul, Zxy, br, ixi, ixg, vw, vg, lr, lc, clg, wi, br]
 (repeat' (first | with_reducible refine Ok.br (fun _ => ?_) (fun _ => ?_) | with_reducible refine Ok.pure ?_ | with_reducible refine Ok.idx ?_ (fun _ _ _ => ?_) | (with_reducible apply Ok.lb; (exact q _); all_goals (intro _ _; try dsimp only)) | (with_reducible apply Ok.bind; (exact o89 _ ((h.f _ (by assumption)).u)); intro _ _) | (with_reducible apply Ok.clg; (exact fun _ => o89 _ ((h.f _ (by assumption)).u)); intro _) | with_reducible refine Ok.idxg ?_ (fun _ => ?_) | with_reducible refine Ok.if ?_ ?_)) <;> (first | trivial | assumption | contradiction | omega | grind | (simp only [Bd.c, Bd.vl, ByteArray.size_append, ByteArray.size_extract, sz0] at *; grind))
theorem o94 (s : Scm) (f : Fld) (h : SzS s) (hf : SzF f) : Ok Tr (ZbD s f) := by
 have h0 : SzV (.mk 0 0 ⟨#[]⟩ [] [] [] []) := by constructor <;> decide
 have he : ∀ y, y ∈ s.enums → y.items.length ≤ 1048576 := fun y hy => (h.e y hy).il
 have q : ∀ y : Int, 0 ≤ y → y < s.enums.length → Ok Ts (Zag (ZrF s f y) big 0) := by
  intro y hy hy2
  refine Ok.loop (fun v : Nat => v ≤ 1048576) (fun v : Nat => 1048576 - v) (by omega) (ZaF (by omega)) fun v hv => ?_
  dsimp only [ZrF, Zw1, br, ix, ixi, vz, vw, vs, lrt, ln, lxe, wa, eqL, br]
  (repeat' (first | with_reducible refine Ok.br (fun _ => ?_) (fun _ => ?_) | with_reducible refine Ok.pure ?_ | with_reducible refine Ok.idx ?_ (fun _ _ _ => ?_) | with_reducible refine Ok.if ?_ ?_)) <;> (first | trivial | assumption | contradiction | omega | grind | (simp only [Bd.c, Bd.vl, ByteArray.size_append, ByteArray.size_extract, sz0] at *; grind))
 dsimp only [ZbD, Zxq, ZvB, Zwh, br, vw, lr, lc, cl, clg, br]
 (repeat' (first | with_reducible refine Ok.br (fun _ => ?_) (fun _ => ?_) | with_reducible refine Ok.pure ?_ | (with_reducible apply Ok.lb; (exact q _ (by (first | trivial | assumption | contradiction | omega | solve_by_elim | (simp only [Bool.and_eq_true, Bool.or_eq_true, Bool.not_eq_true', Bool.and_eq_false_iff, Bool.or_eq_false_iff, decide_eq_true_eq, decide_eq_false_iff_not] at *; omega) | grind)) (by (first | trivial | assumption | contradiction | omega | solve_by_elim | (simp only [Bool.and_eq_true, Bool.or_eq_true, Bool.not_eq_true', Bool.and_eq_false_iff, Bool.or_eq_false_iff, decide_eq_true_eq, decide_eq_false_iff_not] at *; omega) | grind))); all_goals (intro _ _; try dsimp only)) | (with_reducible apply Ok.bind; (exact ZEs _ _ hf.d h0); intro _ _) | (with_reducible apply Ok.bind; (exact ZEp _ _ hf.d); intro _ _) | (with_reducible apply Ok.bind; (exact ZHY _ hf.d); intro _ _) | (with_reducible apply Ok.bind; (exact ZEs _ _ hf.d (by solve_by_elim)); intro _ _) | (with_reducible apply Ok.bind; (exact ZEP _ _ h); intro _ _) | (with_reducible apply Ok.clg; (exact fun _ => ZEs _ _ hf.d h0); intro _) | (with_reducible apply Ok.clg; (exact fun _ => ZEp _ _ hf.d); intro _) | (with_reducible apply Ok.clg; (exact fun _ => ZHY _ hf.d); intro _) | (with_reducible apply Ok.clg; (exact fun _ => ZEs _ _ hf.d (by solve_by_elim)); intro _) | (with_reducible apply Ok.clg; (exact fun _ => ZEP _ _ h); intro _) | with_reducible refine Ok.if ?_ ?_)) <;> (first | trivial | assumption | contradiction | omega | grind | (simp only [Bd.c, Bd.vl, ByteArray.size_append, ByteArray.size_extract, sz0] at *; grind))
theorem o87 (s : Scm) (m : Msg) (l : List Bool) (h : SzS s) (hm : SzM m) (hl : l.length = s.messages.length) : Ok Tr (Zbw s m l) := by
 have h1 := hm.fl
 have q : Ok Ts (Zag (ZqK s m l) big 0) := by
  refine Ok.loop (fun v : Nat => v ≤ m.fields.length) (fun v : Nat => m.fields.length - v) (by omega) (ZaF (by omega)) fun v hv => ?_
  dsimp only [ZqK, ZyT, br, ix, ixg, vz, vw, vs, lrt, ln, lxe, cl, wa, eqL, br]
  (repeat' (first | with_reducible refine Ok.br (fun _ => ?_) (fun _ => ?_) | with_reducible refine Ok.pure ?_ | with_reducible refine Ok.idx ?_ (fun _ _ _ => ?_) | (with_reducible apply Ok.bind; (exact o98 _ _ h); intro _ _) | with_reducible refine Ok.idxg ?_ (fun _ => ?_) | with_reducible refine Ok.if ?_ ?_)) <;> (first | trivial | assumption | contradiction | omega | grind | (simp only [Bd.c, Bd.vl, ByteArray.size_append, ByteArray.size_extract, sz0] at *; grind))
 dsimp only [Zbw, Zuf, ZuM, ZyE, lr, lc]
 (repeat' (first | with_reducible refine Ok.br (fun _ => ?_) (fun _ => ?_) | with_reducible refine Ok.pure ?_ | (with_reducible apply Ok.lb; (exact q); all_goals (intro _ _; try dsimp only)) | with_reducible refine Ok.if ?_ ?_)) <;> (first | trivial | assumption | contradiction | omega | grind | (simp only [Bd.c, Bd.vl, ByteArray.size_append, ByteArray.size_extract, sz0] at *; grind))
theorem ZAq (s : Scm) (m : Msg) (l : List Bool) (h : SzS s) (hm : SzM m) (hl : l.length = s.messages.length) : Ok Tr (ZaM s m l) := by
 have h1 := hm.fl
 have q : Ok Ts (Zag (Zhl s m l) big 0) := by
  refine Ok.loop (fun v : Nat => v ≤ m.fields.length) (fun v : Nat => m.fields.length - v) (by omega) (ZaF (by omega)) fun v hv => ?_
  dsimp only [Zhl, ZiZ, br, ix, vz, vw, vs, vg, lrt, ln, lxe, cl, wa, iri, cag, fl, eqL, br, iri]
  (repeat' (first | with_reducible refine Ok.br (fun _ => ?_) (fun _ => ?_) | with_reducible refine Ok.pure ?_ | with_reducible refine Ok.idx ?_ (fun _ _ _ => ?_) | (with_reducible apply Ok.bind; (exact o98 _ _ h); intro _ _) | with_reducible refine Ok.if ?_ ?_)) <;> (first | trivial | assumption | contradiction | omega | grind | (simp only [Bd.c, Bd.vl, ByteArray.size_append, ByteArray.size_extract, sz0] at *; grind))
 dsimp only [ZaM, ZiQ, Zi3, Zi1, vz, lr, lc, fl]
 (repeat' (first | with_reducible refine Ok.br (fun _ => ?_) (fun _ => ?_) | with_reducible refine Ok.pure ?_ | (with_reducible apply Ok.lb; (exact q); all_goals (intro _ _; try dsimp only)) | with_reducible refine Ok.if ?_ ?_)) <;> (first | trivial | assumption | contradiction | omega | grind | (simp only [Bd.c, Bd.vl, ByteArray.size_append, ByteArray.size_extract, sz0] at *; grind))
theorem o65 (s : Scm) (h : SzS s) : Ok (fun y => y.length = s.messages.length) (Zbp s) := by
 have h1 := h.ml
 have q : ∀ (v : Nat) (r : List Bool), r.length = s.messages.length → Ok (Sum.elim (fun y : Bool × List Bool => y.2.length = s.messages.length) No) (Zag (Zr0 s v) big (false, 0, r)) := by
  intro w r hr
  refine Ok.loop (fun v : Bool × Nat × List Bool => v.2.1 ≤ s.messages.length ∧ v.2.2.length = s.messages.length) (fun v : Bool × Nat × List Bool => s.messages.length - v.2.1) ⟨by simp, hr⟩ (ZaF (by simp; omega)) fun v hv => ?_
  obtain ⟨b, i, r⟩ := v
  obtain ⟨h2, h3⟩ := hv
  dsimp only at h2 h3
  dsimp only [Zr0, Zyk, br, ixg, vz, vw, vs, v2, ln, lxe, csg, wa, ir, ca, st, rn, fl, eqL, br]
  (repeat' (first | with_reducible refine Ok.br (fun _ => ?_) (fun _ => ?_) | with_reducible refine Ok.pure ?_ | with_reducible refine Ok.idx ?_ (fun _ _ _ => ?_) | (with_reducible apply Ok.bind; (exact ZAq _ _ _ h (h.m _ (by grind)) h3); intro _ _) | (with_reducible apply Ok.clg; (exact fun _ => ZAq _ _ _ h (h.m _ (by grind)) h3); intro _) | with_reducible refine Ok.idxg ?_ (fun _ => ?_) | with_reducible refine Ok.if ?_ ?_)) <;> (first | trivial | assumption | contradiction | omega | grind | (simp only [Bd.c, Bd.vl, ByteArray.size_append, ByteArray.size_extract, sz0] at *; grind))
 have q2 : Ok (Sum.elim (fun y : List Bool => y.length = s.messages.length) No) (Zag (Zrz s) big (true, 0, List.replicate s.messages.length false)) := by
  refine Ok.loop (fun v : Bool × Nat × List Bool => v.2.1 ≤ s.messages.length ∧ v.2.2.length = s.messages.length) (fun v : Bool × Nat × List Bool => s.messages.length - v.2.1) ⟨by simp, by simp⟩ (ZaF (by simp; omega)) fun v hv => ?_
  obtain ⟨b, i, r⟩ := v
  obtain ⟨h2, h3⟩ := hv
  dsimp only at h2 h3
  dsimp only [Zrz, Zvm, ZxH, Zxj, br, vz, vw, vs, v2, ln, lxe, lc, wa, fl, eqL, br]
  (repeat' (first | with_reducible refine Ok.br (fun _ => ?_) (fun _ => ?_) | with_reducible refine Ok.pure ?_ | (with_reducible apply Ok.lb; (exact q _ _ h3); all_goals (intro _ _; try dsimp only)) | with_reducible refine Ok.if ?_ ?_)) <;> (first | trivial | assumption | contradiction | omega | grind | (simp only [Bd.c, Bd.vl, ByteArray.size_append, ByteArray.size_extract, sz0] at *; grind))
 dsimp only [Zbp, Zyy, ZuG, ZvS, vz, vw, lr, lc, ms, fl, fr, eqL]
 (repeat' (first | with_reducible refine Ok.br (fun _ => ?_) (fun _ => ?_) | with_reducible refine Ok.pure ?_ | (with_reducible apply Ok.lb; (exact q2); all_goals (intro _ _; try dsimp only)) | with_reducible refine Ok.if ?_ ?_)) <;> (first | trivial | assumption | contradiction | omega | grind | (simp only [Bd.c, Bd.vl, ByteArray.size_append, ByteArray.size_extract, sz0] at *; grind))
end Go.Proofs.YtpjofefihlbppaaGreat
