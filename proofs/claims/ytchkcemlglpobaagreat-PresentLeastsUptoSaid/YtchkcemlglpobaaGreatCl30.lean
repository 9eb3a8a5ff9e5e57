/-
  What is proved: the second form of wireschemalaw18.PresentLeasts: the law returns true and leaves its arguments as they were.
  Condition: the arguments are together of bulk at most 1048576 (the given second form); nothing else.
-/
import Derived.Test.YtchkcemlglpobaaGreatCl29
import Derived.Test.YtchkcemlglpobaaGreatCl26
import Derived.Test.YtchkcemlglpobaaGreatRows
import Derived.WalkKit
import Derived.ProofKit
import Derived.OpenShut
import Derived.JoinedCond
import Derived.Test.YtchkcemlglpobaaGreatCl00
namespace Go.Proofs.YtchkcemlglpobaaGreat
set_option linter.all false
open Go Go.Eng
theorem ZJr {v x : Val} (hx : x ∈ v.list) : bkL (Zay x) < bkL (Zay v) := by
 have h1 := ZcR (e := Zb7) hx
 rw [Zd2] at h1
 conv => rhs; unfold Zay
 simp only [bkL, bk]
 omega
theorem ZGj {v : Val} {x : Pr} (hx : x ∈ v.pairs) : bkL (Zay x.key) < bkL (Zay v) ∧ bkL (Zay x.val) < bkL (Zay v) := by
 have h1 := ZcR (e := rPr) hx
 have e : rPr x = Zay x.key ++ Zay x.val := by rw [Zg1]; rfl
 rw [e, ZhD] at h1
 have e2 : bkL (Zay v) = bkL [.int .i64 v.kind, .int .u64 v.bits, .str v.text, .list (v.list.map Zb7), .list (v.pairs.map rPr), .list (v.slots.map Zar), .list (v.raws.map Zcg)] := rfl
 rw [e2]
 simp only [bkL, bk]
 omega
theorem ZIn {v : Val} {x : Slt} (hx : x ∈ v.slots) : bkL (Zay x.val) < bkL (Zay v) := by
 have h1 := ZcR (e := Zar) hx
 have e : Zar x = D.int .i64 x.num :: Zay x.val := by rw [Zc7]; rfl
 rw [e, bkL] at h1
 have e2 : bkL (Zay v) = bkL [.int .i64 v.kind, .int .u64 v.bits, .str v.text, .list (v.list.map Zb7), .list (v.pairs.map rPr), .list (v.slots.map Zar), .list (v.raws.map Zcg)] := rfl
 rw [e2]
 simp only [bkL, bk] at h1 ⊢
 omega
theorem ZvS {α : Type} {l : List α} {i : Nat} (z : α) (h : i < l.length) : l[i]? = some (l.getD ((i : Int)).toNat z) := by
 rw [YaX, Yt, Yb h]
 rfl
theorem o12 : ∀ (fu : Nat) (v : Val), bkL (Zay v) < fu → BkV v → Ok (fun b => b = true) (Zah fu v v)
 | 0, v, h, _ => by omega
 | fu + 1, v, h, k => by
  obtain ⟨s1, s2, s3, s4, s5⟩ := szV k
  have R1 : ∀ (i : Nat) (x y : Val), v.list[i]? = some x → v.list[i]? = some y → Ok (fun b => b = true) (Zah fu x y) := fun i x y hx hy => by
   rw [hx] at hy
   cases hy
   have hm := Yj hx
   exact o12 fu x (by have := ZJr hm; omega) (ZIi k hm)
  have R2 : ∀ (i : Nat) (x y : Pr), v.pairs[i]? = some x → v.pairs[i]? = some y → Ok (fun b => b = true) (Zah fu x.key y.key) ∧ Ok (fun b => b = true) (Zah fu x.val y.val) := fun i x y hx hy => by
   rw [hx] at hy
   cases hy
   have hm := Yj hx
   exact ⟨o12 fu _ (by have := (ZGj hm).1; omega) (ZDY k hm).1, o12 fu _ (by have := (ZGj hm).2; omega) (ZDY k hm).2⟩
  have R3 : ∀ (i : Nat) (x y : Slt), v.slots[i]? = some x → v.slots[i]? = some y → Ok (fun b => b = true) (Zah fu x.val y.val) := fun i x y hx hy => by
   rw [hx] at hy
   cases hy
   have hm := Yj hx
   exact o12 fu _ (by have := ZIn hm; omega) (ZI5 k hm)
  have q1 : Ok (Sum.elim Tr No) (Zaf (Ztz v v (Zah fu)) big 0) := by
   refine Ok.loop (fun i : Nat => i ≤ v.list.length) (fun i : Nat => v.list.length - i) (by omega) (Zat (by omega)) fun i hi => ?_
   dsimp only [Ztz, Zyk, br, ix, vz, vw, vs, lrt, ln, lxe, cs, wa, eqL, br]
   (repeat' (first | with_reducible refine Ok.br (fun _ => ?_) (fun _ => ?_) | with_reducible refine Ok.pure ?_ | with_reducible refine Ok.idx ?_ (fun _ _ _ => ?_) | (with_reducible apply Ok.bind; (exact R1 i _ _ (by assumption) (by assumption)); intro _ _) | with_reducible refine Ok.if ?_ ?_)) <;> (first | trivial | assumption | contradiction | omega | grind | (simp only [Bd.c, Bd.vl, ByteArray.size_append, ByteArray.size_extract, sz0] at *; grind))
  have q2 : Ok (Sum.elim Tr No) (Zaf (Zsd v v (Zah fu)) big 0) := by
   refine Ok.loop (fun i : Nat => i ≤ v.pairs.length) (fun i : Nat => v.pairs.length - i) (by omega) (Zat (by omega)) fun i hi => ?_
   dsimp only [Zsd, ZxF, br, ix, ixg, vz, vw, vs, lrt, ln, lxe, cs, csg, wa, eqL, br]
   (repeat' (first | with_reducible refine Ok.br (fun _ => ?_) (fun _ => ?_) | with_reducible refine Ok.pure ?_ | with_reducible refine Ok.idx ?_ (fun _ _ _ => ?_) | (with_reducible apply Ok.bind; (exact (R2 i _ _ (by assumption) (by assumption)).1); intro _ _) | (with_reducible apply Ok.bind; (exact (R2 i _ _ (ZvS _ (by (first | trivial | assumption | contradiction | omega | solve_by_elim | (simp only [Bool.and_eq_true, Bool.or_eq_true, Bool.not_eq_true', Bool.and_eq_false_iff, Bool.or_eq_false_iff, decide_eq_true_eq, decide_eq_false_iff_not] at *; omega) | grind))) (ZvS _ (by (first | trivial | assumption | contradiction | omega | solve_by_elim | (simp only [Bool.and_eq_true, Bool.or_eq_true, Bool.not_eq_true', Bool.and_eq_false_iff, Bool.or_eq_false_iff, decide_eq_true_eq, decide_eq_false_iff_not] at *; omega) | grind)))).2); intro _ _) | (with_reducible apply Ok.clg; (exact fun _ => (R2 i _ _ (by assumption) (by assumption)).1); intro _) | (with_reducible apply Ok.clg; (exact fun _ => (R2 i _ _ (ZvS _ (by (first | trivial | assumption | contradiction | omega | solve_by_elim | (simp only [Bool.and_eq_true, Bool.or_eq_true, Bool.not_eq_true', Bool.and_eq_false_iff, Bool.or_eq_false_iff, decide_eq_true_eq, decide_eq_false_iff_not] at *; omega) | grind))) (ZvS _ (by (first | trivial | assumption | contradiction | omega | solve_by_elim | (simp only [Bool.and_eq_true, Bool.or_eq_true, Bool.not_eq_true', Bool.and_eq_false_iff, Bool.or_eq_false_iff, decide_eq_true_eq, decide_eq_false_iff_not] at *; omega) | grind)))).2); intro _) | with_reducible refine Ok.idxg ?_ (fun _ => ?_) | with_reducible refine Ok.if ?_ ?_)) <;> (first | trivial | assumption | contradiction | omega | grind | (simp only [Bd.c, Bd.vl, ByteArray.size_append, ByteArray.size_extract, sz0] at *; grind))
  have q3 : Ok (Sum.elim Tr No) (Zaf (Ztt v v (Zah fu)) big 0) := by
   refine Ok.loop (fun i : Nat => i ≤ v.slots.length) (fun i : Nat => v.slots.length - i) (by omega) (Zat (by omega)) fun i hi => ?_
   dsimp only [Ztt, ZAX, br, ix, ixg, vz, vw, vs, lrt, ln, lxe, csg, wa, eqL, br]
   (repeat' (first | with_reducible refine Ok.br (fun _ => ?_) (fun _ => ?_) | with_reducible refine Ok.pure ?_ | with_reducible refine Ok.idx ?_ (fun _ _ _ => ?_) | (with_reducible apply Ok.bind; (exact R3 i _ _ (ZvS _ (by (first | trivial | assumption | contradiction | omega | solve_by_elim | (simp only [Bool.and_eq_true, Bool.or_eq_true, Bool.not_eq_true', Bool.and_eq_false_iff, Bool.or_eq_false_iff, decide_eq_true_eq, decide_eq_false_iff_not] at *; omega) | grind))) (ZvS _ (by (first | trivial | assumption | contradiction | omega | solve_by_elim | (simp only [Bool.and_eq_true, Bool.or_eq_true, Bool.not_eq_true', Bool.and_eq_false_iff, Bool.or_eq_false_iff, decide_eq_true_eq, decide_eq_false_iff_not] at *; omega) | grind)))); intro _ _) | (with_reducible apply Ok.clg; (exact fun _ => R3 i _ _ (ZvS _ (by (first | trivial | assumption | contradiction | omega | solve_by_elim | (simp only [Bool.and_eq_true, Bool.or_eq_true, Bool.not_eq_true', Bool.and_eq_false_iff, Bool.or_eq_false_iff, decide_eq_true_eq, decide_eq_false_iff_not] at *; omega) | grind))) (ZvS _ (by (first | trivial | assumption | contradiction | omega | solve_by_elim | (simp only [Bool.and_eq_true, Bool.or_eq_true, Bool.not_eq_true', Bool.and_eq_false_iff, Bool.or_eq_false_iff, decide_eq_true_eq, decide_eq_false_iff_not] at *; omega) | grind)))); intro _) | with_reducible refine Ok.idxg ?_ (fun _ => ?_) | with_reducible refine Ok.if ?_ ?_)) <;> (first | trivial | assumption | contradiction | omega | grind | (simp only [Bd.c, Bd.vl, ByteArray.size_append, ByteArray.size_extract, sz0] at *; grind))
  have q4 : Ok (Sum.elim Tr No) (Zaf (Zsn v v (Zah fu)) big 0) := by
   refine Ok.loop (fun i : Nat => i ≤ v.raws.length) (fun i : Nat => v.raws.length - i) (by omega) (Zat (by omega)) fun i hi => ?_
   dsimp only [Zsn, ZwK, br, ix, vz, vw, vs, lrt, ln, lxe, wa, eqL, br]
   (repeat' (first | with_reducible refine Ok.br (fun _ => ?_) (fun _ => ?_) | with_reducible refine Ok.pure ?_ | with_reducible refine Ok.idx ?_ (fun _ _ _ => ?_) | with_reducible refine Ok.if ?_ ?_)) <;> (first | trivial | assumption | contradiction | omega | grind | (simp only [Bd.c, Bd.vl, ByteArray.size_append, ByteArray.size_extract, sz0] at *; grind))
  show Ok _ (ZGZ (Zah fu) v v)
  dsimp only [ZGZ, ZnC, ZAV, ZxX, Zyj, ZwR, ZxQ, br, vy, vw, lr, lc, eqL, br]
  (repeat' (first | with_reducible refine Ok.br (fun _ => ?_) (fun _ => ?_) | with_reducible refine Ok.pure ?_ | (with_reducible apply Ok.lb; (exact q1); all_goals (intro _ _; try dsimp only)) | (with_reducible apply Ok.lb; (exact q2); all_goals (intro _ _; try dsimp only)) | (with_reducible apply Ok.lb; (exact q3); all_goals (intro _ _; try dsimp only)) | (with_reducible apply Ok.lb; (exact q4); all_goals (intro _ _; try dsimp only)) | with_reducible refine Ok.if ?_ ?_)) <;> first | rfl | contradiction | (simp at *; done)
end Go.Proofs.YtchkcemlglpobaaGreat
namespace Go.Proofs.YtchkcemlglpobaaGreat
set_option linter.all false
open Go Go.Eng
theorem aw : Zcd = some true := by kernel_rfl
def zvV (k : Int) : Val := if (decide (1 ≤ k) && decide (k ≤ 9)) = true then .mk k 0 ⟨#[]⟩ [] [] [] [] else .mk 0 0 ⟨#[]⟩ [] [] [] []
def elQ (R : ByteArray → Val × Nat) (f : Fld) : Val × Nat := if f.type.kind = 10 then R f.type.name else (zvV f.type.kind, 1)
def rqQ (l : List Fld) : List Fld := l.filter fun f => decide (f.card = 1)
def ZdS (R : ByteArray → Val × Nat) (l : List Fld) : Nat := ((rqQ l).map fun f => (elQ R f).2).sum
def Zha (R : ByteArray → Val × Nat) (l : List Fld) : List Slt := (rqQ l).map fun f => .mk f.num (elQ R f).1
def ZgP (s : Scm) : Nat → ByteArray → Val × Nat
 | 0, _ => (.mk 10 0 ⟨#[]⟩ [] [] [] [], 1)
 | k + 1, n => (.mk 10 0 ⟨#[]⟩ [] [] (Zha (ZgP s k) (Zdl s n)) [], 1 + ZdS (ZgP s k) (Zdl s n))
theorem Zkk (l : List Fld) (f : Fld) : rqQ (l ++ [f]) = rqQ l ++ (if f.card = 1 then [f] else []) := by
 unfold rqQ
 rw [YaV]
 by_cases h : f.card = 1 <;> simp [Ya9, h]
theorem ZiK (R : ByteArray → Val × Nat) (l : List Fld) (f : Fld) : ZdS R (l ++ [f]) = ZdS R l + (if f.card = 1 then (elQ R f).2 else 0) := by
 unfold ZdS
 rw [Zkk]
 by_cases h : f.card = 1 <;> simp [h]
theorem Zi4 (R : ByteArray → Val × Nat) (l : List Fld) (f : Fld) : Zha R (l ++ [f]) = Zha R l ++ (if f.card = 1 then [.mk f.num (elQ R f).1] else []) := by
 unfold Zha
 rw [Zkk]
 by_cases h : f.card = 1 <;> simp [h]
theorem Zpa (R : ByteArray → Val × Nat) (l : List Fld) (i : Nat) : ZdS R (l.take i) ≤ ZdS R l := by
 have h : l = l.take i ++ l.drop i := (YaI i l).symm
 have e : ZdS R l = ZdS R (l.take i) + ZdS R (l.drop i) := by
  conv => lhs; rw [h]
  unfold ZdS rqQ
  rw [YaV, YaN, List.sum_append]
 omega
theorem ZsC (R : ByteArray → Val × Nat) (l : List Fld) : (Zha R l).length ≤ l.length := by
 unfold Zha rqQ
 rw [Yu]
 exact Ybl _ _
theorem Zrm {α : Type} {l : List α} {i : Nat} {x : α} (h : l[i]? = some x) : l.take (i + 1) = l.take i ++ [x] := by
 obtain ⟨h1, rfl⟩ := List.getElem?_eq_some_iff.1 h
 exact Y0 h1
theorem ZvC {l : List Fld} (h : ZsV l l.length) : ∀ (d i : Nat) (a b : Fld), l[i]? = some a → l[i + 1 + d]? = some b → a.num < b.num
 | 0, i, a, b, h1, h2 => h i a b (List.getElem?_eq_some_iff.1 h2).1 h1 h2
 | d + 1, i, a, b, h1, h2 => by
  have g := (List.getElem?_eq_some_iff.1 h2).1
  have g2 : i + 1 + d < l.length := by omega
  have h3 := ZvC h d i a l[i + 1 + d] h1 (Yb g2)
  have h4 := h (i + 1 + d) l[i + 1 + d] b (by omega) (Yb g2) h2
  omega
theorem ZsM {R : ByteArray → Val × Nat} {l : List Fld} (h : ZsV l l.length) {i : Nat} {f : Fld} (hf : l[i]? = some f) : ∀ x ∈ Zha R (l.take i), x.num < f.num := fun x hx => by
 unfold Zha rqQ at hx
 obtain ⟨g, hg, rfl⟩ := Yy.1 hx
 obtain ⟨j, hj, rfl⟩ := List.mem_take_iff_getElem.1 (YX.1 hg).1
 exact ZvC h (i - (j + 1)) j _ f (Yb (by omega)) (by rw [show j + 1 + (i - (j + 1)) = i by omega]; exact hf)
theorem k62 (k : Int) : ZdA k = some (zvV k) := by
 dsimp only [ZdA, Zyq, br, vw, lr, cl, br, Zf0, Zz4, lr]
 unfold zvV
 cases (decide (1 ≤ k) && decide (k ≤ 9)) <;> rfl
theorem k65 (k : Int) : ZbD k = some (zvV k) := by
 dsimp only [ZbD, ZzT, br, vw, lr, cl, br, Zbb, ZkA, lr]
 unfold zvV
 cases (decide (1 ≤ k) && decide (k ≤ 9)) <;> rfl
theorem k61 (s : Scm) (n : ByteArray) (h : s.messages.length ≤ 1048576) : Zdd s n = some (Zur s.messages zM fun m => decide (m.name = n)) := by
 dsimp only [Zdd, ZxH, vw, lr, cs]
 rw [m84 _ _ h]
 rfl
theorem Zu7 (s : Scm) (n : ByteArray) : (Zur s.messages zM fun m => decide (m.name = n)).1.fields = Zdl s n := by
 unfold Zur Zdl Zri
 cases s.messages.find? fun m => decide (m.name = n) <;> rfl
theorem k57 (l : List Slt) (h : l.length < 549755813888) : ZbW l = some l := by
 cases l with
 | nil => rfl
 | cons x r =>
  dsimp only [ZbW, ZzI, al, br, vw, lr, a0, mv, br]
  simp only [YZ] at h
  simp
  omega
theorem k70 (l : List Slt) (f : Slt → Option Bool) (p : Slt → Bool) (hf : ∀ x ∈ l, f x = some (p x)) (h : l.length < 4611686018427387904) (hn : ∀ x ∈ l, p x = false) : ZbA l f = some (-1) := by
 have q1 := ZeP (B := Zqw l f) (N := big) l p (fun i => (i : Int)) () (fun i x hx => by
  have g1 := ZhT hx
  have g0 := (List.getElem?_eq_some_iff.1 hx).1
  have g2 : i + 1 < 9223372036854775808 := by omega
  have g3 := hf x (Yj hx)
  dsimp only [Zqw, ZsR, br, ix, vs, lrt, ln, lxe, cf, wa, br]
  simp only [g1, g2, g3, hx, decide_true, if_true, Yn]
  cases p x <;> simp) (by simp [Zqw, ZsR, br, ix, vs, lrt, ln, lxe, cf, wa, br]) (Zdt h)
 dsimp only [ZbA, ZAL, Zw2, Zxu, vz, lr, lc, eqL]
 rw [q1, Ya1.2 hn]
 rfl
theorem k34 (l : List Slt) (x : Slt) (h : l.length ≤ 1048576) (hn : ∀ y ∈ l, y.num < x.num) : ZcC l x = some (l ++ [x]) := by
 have e1 := k70 l (fun z => Zcc z x) (fun y => decide (x.num < y.num)) (fun y _ => rfl) (by omega) (fun y hy => by have := hn y hy; simp; omega)
 have e2 := k57 l (by omega)
 have e3 : Zb0 l (l.length : Int) [x] = some (l ++ [x]) := by
  dsimp only [Zb0, ZxG, vz, lr, aq, sR, vwr, eqL, eqN, bT, bF]
  simp [Bd.c, Bd.vl]
  omega
 dsimp only [ZcC, ZAD, Zhz, ZAE, Zj4, br, vz, vw, v2, lr, lc, cs, tw, ch, fl, fr, eqL, br]
 rw [e1]
 simp [e2, e3]
def z0V : Val := .mk 0 0 ⟨#[]⟩ [] [] [] []
def Zuu (r : Val × Nat) : Val × Int × Bool := if r.2 ≤ 4096 then (r.1, (r.2 : Int), true) else (z0V, 0, false)
theorem ZoR {R : ByteArray → Val × Nat} (h : ∀ x, 1 ≤ (R x).2) (f : Fld) : 1 ≤ (elQ R f).2 := by
 unfold elQ
 split
 ·exact h _
 ·exact Yd _
theorem Zfz (s : Scm) : ∀ (k : Nat) (x : ByteArray), 1 ≤ (ZgP s k x).2
 | 0, _ => Yd _
 | k + 1, _ => by show 1 ≤ 1 + _; omega
theorem k26 {s : Scm} {n : ByteArray} (hs : s.messages.length ≤ 1048576) (hl : (Zdl s n).length ≤ 1048576) (ha : ZsV (Zdl s n) (Zdl s n).length) (R : ByteArray → Val × Nat) (fu : Nat)
  (hR : ∀ f ∈ Zdl s n, f.card = 1 → f.type.kind = 10 → ZaG fu s f.type.name = some (Zuu (R f.type.name))) (hp : ∀ x, 1 ≤ (R x).2) :
  ZaG (fu + 1) s n = some (Zuu (.mk 10 0 ⟨#[]⟩ [] [] (Zha R (Zdl s n)) [], 1 + ZdS R (Zdl s n))) := by
 obtain ⟨mb, hmb⟩ : ∃ mb, mb = Zur s.messages zM fun m => decide (m.name = n) := ⟨_, rfl⟩
 have hF : mb.1.fields = Zdl s n := by rw [hmb]; exact Zu7 s n
 obtain ⟨F, hFe⟩ : ∃ F, F = Zdl s n := ⟨_, rfl⟩
 rw [← hFe] at hF hl ha hR ⊢
 have q1 : Ok (Sum.elim (fun v : Int × List Slt => v.1 = ((1 + ZdS R F : Nat) : Int) ∧ 1 + ZdS R F ≤ 4096 ∧ v.2 = Zha R F) (fun y => y = (z0V, 0, false) ∧ 4096 < 1 + ZdS R F)) (Zaf (ZsE s (ZaG fu) mb) big (1, 0, ([] : List Slt))) := by
  refine Ok.loop (fun v : Int × Nat × List Slt => v.2.1 ≤ F.length ∧ v.1 = ((1 + ZdS R (F.take v.2.1) : Nat) : Int) ∧ 1 + ZdS R (F.take v.2.1) ≤ 4096 ∧ v.2.2 = Zha R (F.take v.2.1)) (fun v : Int × Nat × List Slt => F.length - v.2.1) ⟨Y4 _, by simp [ZdS, rqQ], by simp [ZdS, rqQ], by simp [Zha, rqQ]⟩ (Zat (by omega)) fun v hv => ?_
  obtain ⟨v, i, c⟩ := v
  obtain ⟨h1, h2, h3, h4⟩ := hv
  dsimp only at h1 h2 h3 h4
  dsimp only [ZsE, ZzL, br, ix, vw, vs, v2, lrt, ln, lxe, cl, cs, wa, wi, br]
  rw [hF]
  cases hk : F[i]? with
  | none =>
   have hge := Y8.1 hk
   have hi : i = F.length := by omega
   subst hi
   rw [YaH] at h2 h3 h4
   have g : ¬ ((F.length : Int) < (F.length : Int)) := by omega
   simp only [g, decide_false, YN, if_false]
   exact Ok.pure ⟨h2, h3, h4⟩
  | some f =>
   have hi := (List.getElem?_eq_some_iff.1 hk).1
   have g1 : (i : Int) < (F.length : Int) := by omega
   have g2 : i + 1 < 9223372036854775808 := by omega
   have hm := Yj hk
   have e1 := ZiK R (F.take i) f
   have e2 := Zi4 R (F.take i) f
   rw [← Zrm hk] at e1 e2
   have e3 := Zpa R F (i + 1)
   have hw : i < 9223372036854775807 := by omega
   simp only [g1, decide_true, if_true, Yn]
   by_cases hc : f.card = 1
   ·rw [if_pos hc] at e1 e2
    have hlen : c.length ≤ 1048576 := by
     have := ZsC R (F.take i)
     rw [← h4, YU] at this
     omega
    have hput : ∀ x : Val, ZcC c (.mk f.num x) = some (c ++ [.mk f.num x]) := fun x => k34 c (.mk f.num x) hlen fun y hy => ZsM ha hk y (by rw [← h4]; exact hy)
    have hpos := ZoR hp f
    simp only [hc, k62, Yn, decide_true, YaD, YN, if_false]
    by_cases ht : f.type.kind = 10
    ·have hel : elQ R f = R f.type.name := by unfold elQ; rw [if_pos ht]
     rw [hel] at e1 e2 hpos
     have hr := hR f hm hc ht
     simp only [ht, decide_true, if_true, hr, Yn]
     unfold Zuu
     by_cases hq : (R f.type.name).2 ≤ 4096
     ·have w1 : -9223372036854775808 ≤ v + ((R f.type.name).2 : Int) ∧ v + ((R f.type.name).2 : Int) < 9223372036854775808 := by omega
      simp only [hq, if_true, w1, and_self, YaD, YaE]
      by_cases ho : (4096 : Int) < v + ((R f.type.name).2 : Int)
      ·simp only [ho, decide_true, if_true]
       exact Ok.pure ⟨rfl, by omega⟩
      ·simp only [ho, decide_false, YN, if_false, hput, Yn, g2, if_true]
       refine Ok.pure ⟨⟨by show i + 1 ≤ _; omega, ?_, ?_, ?_⟩, by show F.length - (i + 1) < F.length - i; omega⟩
       ·show v + _ = ((1 + ZdS R (F.take (i + 1)) : Nat) : Int); omega
       ·show 1 + ZdS R (F.take (i + 1)) ≤ 4096; omega
       ·show c ++ _ = _; rw [e2, h4]
     ·have w1 : -9223372036854775808 ≤ v + (0 : Int) ∧ v + (0 : Int) < 9223372036854775808 := by omega
      simp only [hq, if_false, w1, and_self, if_true, Ybm, Bool.true_or]
      exact Ok.pure ⟨rfl, by omega⟩
    ·have hel : elQ R f = (zvV f.type.kind, 1) := by unfold elQ; rw [if_neg ht]
     rw [hel] at e1 e2
     have w1 : -9223372036854775808 ≤ v + (1 : Int) ∧ v + (1 : Int) < 9223372036854775808 := by omega
     simp only [ht, decide_false, YN, if_false, w1, and_self, if_true]
     by_cases ho : (4096 : Int) < v + 1
     ·simp only [ho, decide_true, if_true]
      exact Ok.pure ⟨rfl, by simp only at e1; omega⟩
     ·simp only [ho, decide_false, YN, if_false, hput, Yn, g2, if_true]
      refine Ok.pure ⟨⟨by show i + 1 ≤ _; omega, ?_, ?_, ?_⟩, by show F.length - (i + 1) < F.length - i; omega⟩
      ·show v + 1 = ((1 + ZdS R (F.take (i + 1)) : Nat) : Int); simp only at e1; omega
      ·show 1 + ZdS R (F.take (i + 1)) ≤ 4096; simp only at e1; omega
      ·show c ++ _ = _; rw [e2, h4]
   ·rw [if_neg hc] at e1 e2
    simp only [hc, decide_false, Ybm, if_true, g2]
    refine Ok.pure ⟨⟨by show i + 1 ≤ _; omega, ?_, ?_, ?_⟩, by show F.length - (i + 1) < F.length - i; omega⟩
    ·show v = ((1 + ZdS R (F.take (i + 1)) : Nat) : Int); omega
    ·show 1 + ZdS R (F.take (i + 1)) ≤ 4096; omega
    ·show c = _; rw [e2, h4, Yar]
 obtain ⟨y, e, hq⟩ := q1
 show ZGM (ZaG fu) s n = _
 dsimp only [ZGM, Zx6, ZxV, Zyb, Zxd, vz, vw, lr, lc, cl, fz, eqL]
 rw [k61 _ _ hs, Yn, ← hmb, e]
 cases y with
 | inl b =>
  obtain ⟨b1, b2, b3⟩ := hq
  obtain ⟨b, c⟩ := b
  dsimp only at b1 b2 b3
  subst b3
  subst b1
  unfold Zuu
  rw [if_pos b2]
  rfl
 | inr y =>
  obtain ⟨b1, b2⟩ := hq
  subst b1
  unfold Zuu
  rw [if_neg (by show ¬ 1 + ZdS R F ≤ 4096; omega)]
  rfl
def lfP (r : Val × Nat) (left : Int) (y : Val × Int) : Prop := -1 ≤ y.2 ∧ y.2 ≤ left ∧ ((r.2 : Int) ≤ left → y = (r.1, left - r.2)) ∧ (left < (r.2 : Int) → y.2 < 0)
theorem k28 {s : Scm} {n : ByteArray} (hs : s.messages.length ≤ 1048576) (hl : (Zdl s n).length ≤ 1048576) (R : ByteArray → Val × Nat) (fu : Nat) (left : Int) (h0 : 0 ≤ left) (h1 : left ≤ 4096)
  (hR : ∀ f ∈ Zdl s n, f.card = 1 → f.type.kind = 10 → ∀ l : Int, 0 ≤ l → l ≤ 4096 → Ok (lfP (R f.type.name) l) (Zao fu s f.type.name l)) (hp : ∀ x, 1 ≤ (R x).2) :
  Ok (lfP (.mk 10 0 ⟨#[]⟩ [] [] (Zha R (Zdl s n)) [], 1 + ZdS R (Zdl s n)) left) (Zao (fu + 1) s n left) := by
 obtain ⟨mb, hmb⟩ : ∃ mb, mb = Zur s.messages zM fun m => decide (m.name = n) := ⟨_, rfl⟩
 have hF : mb.1.fields = Zdl s n := by rw [hmb]; exact Zu7 s n
 obtain ⟨F, hFe⟩ : ∃ F, F = Zdl s n := ⟨_, rfl⟩
 rw [← hFe] at hF hl hR ⊢
 have q1 : Ok (Sum.elim (fun v : Int × List Slt => v.2.length ≤ F.length ∧ lfP (.mk 10 0 ⟨#[]⟩ [] [] (Zha R F) [], 1 + ZdS R F) left (.mk 10 0 ⟨#[]⟩ [] [] v.2 [], v.1)) No) (Zaf (Ztf s (Zao fu) mb) big (left - 1, 0, ([] : List Slt))) := by
  refine Ok.loop (fun v : Int × Nat × List Slt => v.2.1 ≤ F.length ∧ v.2.2.length ≤ v.2.1 ∧ -1 ≤ v.1 ∧ v.1 ≤ left ∧ (0 ≤ v.1 → v.1 = left - ((1 + ZdS R (F.take v.2.1) : Nat) : Int) ∧ v.2.2 = Zha R (F.take v.2.1)) ∧ (v.1 < 0 → left < ((1 + ZdS R F : Nat) : Int))) (fun v : Int × Nat × List Slt => F.length - v.2.1) ⟨Y4 _, Y4 _, by show -1 ≤ left - 1; omega, by show left - 1 ≤ left; omega, fun _ => ⟨by simp [ZdS, rqQ], by simp [Zha, rqQ]⟩, fun h => by have h : left - 1 < 0 := h; omega⟩ (Zat (by omega)) fun v hv => ?_
  obtain ⟨v, i, c⟩ := v
  obtain ⟨h2, h3, h4, h5, h6, h7⟩ := hv
  dsimp only at h2 h3 h4 h5 h6 h7
  dsimp only [Ztf, ZAC, br, ix, vz, vw, vs, v2, ln, lxe, ap, cl, cs, wa, wi, fl, eqL, br]
  rw [hF]
  by_cases hv0 : 0 ≤ v
  ·obtain ⟨h8, h9⟩ := h6 hv0
   cases hk : F[i]? with
   | none =>
    have hge := Y8.1 hk
    have hi : i = F.length := by omega
    subst hi
    rw [YaH] at h8 h9
    have g : ¬ ((F.length : Int) < (F.length : Int)) := by omega
    simp only [g, decide_false, Bool.false_and, YN, if_false]
    refine Ok.pure ⟨by show c.length ≤ _; omega, by show -1 ≤ v; omega, by show v ≤ left; omega, fun _ => ?_, fun h => ?_⟩
    ·show (_, v) = (_, left - _)
     rw [h9, h8]
    ·have h : left < ((1 + ZdS R F : Nat) : Int) := h
     omega
   | some f =>
    have hi := (List.getElem?_eq_some_iff.1 hk).1
    have g1 : (i : Int) < (F.length : Int) := by omega
    have g2 : i + 1 < 9223372036854775808 := by omega
    have hm := Yj hk
    have e1 := ZiK R (F.take i) f
    have e2 := Zi4 R (F.take i) f
    rw [← Zrm hk] at e1 e2
    have e3 := Zpa R F (i + 1)
    have hw : i < 9223372036854775807 := by omega
    have g3 : c.length < 549755813887 := by omega
    have g4 : c.length + 1 < 549755813888 := by omega
    simp only [g1, hv0, decide_true, Bool.and_self, if_true, Yn]
    by_cases hc : f.card = 1
    ·rw [if_pos hc] at e1 e2
     have hpos := ZoR hp f
     simp only [hc, k65, Yn, decide_true, YaD, YN, if_false]
     by_cases ht : f.type.kind = 10
     ·have hel : elQ R f = R f.type.name := by unfold elQ; rw [if_pos ht]
      rw [hel] at e1 e2 hpos
      obtain ⟨y, ey, hy1, hy2, hy3, hy4⟩ := hR f hm hc ht v hv0 (by omega)
      simp only [ht, decide_true, if_true, ey, Yn, g3, g4, g2]
      refine Ok.pure ⟨⟨by show i + 1 ≤ _; omega, by show (c ++ _).length ≤ i + 1; simp; omega, by show -1 ≤ y.2; omega, by show y.2 ≤ left; omega, fun h => ?_, fun h => ?_⟩, by show F.length - (i + 1) < F.length - i; omega⟩
      ·have h : 0 ≤ y.2 := h
       have hq : ((R f.type.name).2 : Int) ≤ v := by
        rcases Ybo v ((R f.type.name).2 : Int) with hq | hq
        ·have := hy4 hq; omega
        ·exact hq
       have hy := hy3 hq
       subst hy
       refine ⟨?_, ?_⟩
       ·show v - _ = left - ((1 + ZdS R (F.take (i + 1)) : Nat) : Int); omega
       ·show c ++ _ = _; rw [e2, h9]
      ·have h : y.2 < 0 := h
       rcases Ybo v ((R f.type.name).2 : Int) with hq | hq
       ·omega
       ·have hy := hy3 hq
        subst hy
        have h : v - ((R f.type.name).2 : Int) < 0 := h
        omega
     ·have hel : elQ R f = (zvV f.type.kind, 1) := by unfold elQ; rw [if_neg ht]
      rw [hel] at e1 e2
      simp only at e1 e2
      have w1 : -9223372036854775808 ≤ v - (1 : Int) ∧ v - (1 : Int) < 9223372036854775808 := by omega
      simp only [ht, decide_false, YN, if_false, w1, and_self, if_true, g3, g4, g2]
      refine Ok.pure ⟨⟨by show i + 1 ≤ _; omega, by show (c ++ _).length ≤ i + 1; simp; omega, by show -1 ≤ v - 1; omega, by show v - 1 ≤ left; omega, fun h => ⟨?_, ?_⟩, fun h => ?_⟩, by show F.length - (i + 1) < F.length - i; omega⟩
      ·show v - 1 = left - ((1 + ZdS R (F.take (i + 1)) : Nat) : Int); omega
      ·show c ++ _ = _; rw [e2, h9]
      ·have h : v - 1 < 0 := h
       omega
    ·rw [if_neg hc] at e1 e2
     simp only [hc, decide_false, Ybm, if_true, g2]
     refine Ok.pure ⟨⟨by show i + 1 ≤ _; omega, by show c.length ≤ i + 1; omega, h4, h5, fun _ => ⟨?_, ?_⟩, h7⟩, by show F.length - (i + 1) < F.length - i; omega⟩
     ·show v = left - ((1 + ZdS R (F.take (i + 1)) : Nat) : Int); omega
     ·show c = _; rw [e2, h9, Yar]
  ·simp only [hv0, decide_false, Bool.and_false, YN, if_false]
   have h8 := h7 (by omega)
   refine Ok.pure ⟨by show c.length ≤ _; omega, h4, h5, fun h => ?_, fun _ => by show v < 0; omega⟩
   have h : ((1 + ZdS R F : Nat) : Int) ≤ left := h
   omega
 obtain ⟨y, e, hq⟩ := q1
 show Ok _ (ZHl (Zao fu) s n left)
 have w1 : -9223372036854775808 ≤ left - (1 : Int) ∧ left - (1 : Int) < 9223372036854775808 := by omega
 dsimp only [ZHl, ZyL, ZyA, Zzs, ZxZ, vz, vw, vs, lr, lc, cl, wi, fl, fr]
 rw [m32 _ _ hs]
 simp only [w1, and_self, if_true, Yn]
 rw [← hmb, e]
 cases y with
 | inl b =>
  obtain ⟨b1, b2⟩ := hq
  have g3 : b.2.length < 549755813888 := by omega
  simp only [Yn, Ya8]
  first | exact Ok.pure b2 | (rw [if_pos (by omega)]; exact Ok.pure b2)
 | inr y => exact hq.elim
theorem ZuS {s : Scm} {n : ByteArray} {k : Nat} (h : isM s n = true → hgt s n ≠ 0 ∧ hgt s n ≤ ((k + 1 : Nat) : Int)) {f : Fld} (hf : f ∈ Zdl s n) (hc : f.card = 1) (ht : f.type.kind = 10) : isM s f.type.name = true → hgt s f.type.name ≠ 0 ∧ hgt s f.type.name ≤ (k : Int) := fun hx => by
 have hm : isM s n = true := by
  unfold isM
  unfold Zdl at hf
  cases e : Zri s n with
  | none => rw [e] at hf; simp at hf
  | some m => rfl
 obtain ⟨h1, h2⟩ := h hm
 have e := ZkO s n
 rw [if_pos hm] at e
 rw [e] at h1
 obtain ⟨h3, h4⟩ := Ze9 h1
 have hr : f.type.name ∈ rqL s n := by
  unfold rqL
  refine Yy.2 ⟨f, YX.2 ⟨hf, ?_⟩, rfl⟩
  unfold rqF toF
  simp [hc, ht, hx]
 have h5 := (Zer (hgt s) (rqL s n) 1).2 _ hr
 exact ⟨h3 _ hr, by omega⟩
theorem ZvO {s : Scm} {n : ByteArray} (h : isM s n = true → hgt s n ≠ 0 ∧ hgt s n ≤ ((0 : Nat) : Int)) {f : Fld} (hf : f ∈ Zdl s n) : False := by
 have hm : isM s n = true := by
  unfold isM
  unfold Zdl at hf
  cases e : Zri s n with
  | none => rw [e] at hf; simp at hf
  | some m => rfl
 have := h hm
 have := (ZiN s n).1
 omega
section
variable {s : Scm} (hs : s.messages.length ≤ 1048576) (hl : ∀ n, (Zdl s n).length ≤ 1048576)
include hs hl
theorem ZKz (ha : ∀ n, ZsV (Zdl s n) (Zdl s n).length) : ∀ (k fu : Nat) (n : ByteArray), (isM s n = true → hgt s n ≠ 0 ∧ hgt s n ≤ (k : Int)) → k < fu → ZaG fu s n = some (Zuu (ZgP s (k + 1) n))
 | k, 0, n, h, hf => by omega
 | 0, fu + 1, n, h, hf => k26 hs (hl n) (ha n) (ZgP s 0) fu (fun f hf _ _ => (ZvO h hf).elim) (Zfz s 0)
 | k + 1, fu + 1, n, h, hf => k26 hs (hl n) (ha n) (ZgP s (k + 1)) fu (fun f hm hc ht => ZKz ha k fu _ (ZuS h hm hc ht) (by omega)) (Zfz s _)
theorem ZLx : ∀ (k fu : Nat) (n : ByteArray) (l : Int), (isM s n = true → hgt s n ≠ 0 ∧ hgt s n ≤ (k : Int)) → k < fu → 0 ≤ l → l ≤ 4096 → Ok (lfP (ZgP s (k + 1) n) l) (Zao fu s n l)
 | k, 0, n, l, h, hf, h0, h1 => by omega
 | 0, fu + 1, n, l, h, hf, h0, h1 => k28 hs (hl n) (ZgP s 0) fu l h0 h1 (fun f hf _ _ => (ZvO h hf).elim) (Zfz s 0)
 | k + 1, fu + 1, n, l, h, hf, h0, h1 => k28 hs (hl n) (ZgP s (k + 1)) fu l h0 h1 (fun f hm hc ht l h0 h1 => ZLx k fu _ l (ZuS h hm hc ht) (by omega) h0 h1) (Zfz s _)
end
theorem Zlj (k : Int) : bkL (Zay (.mk k 0 ⟨#[]⟩ [] [] [] [])) = 0 := by
 show bkL [.int .i64 k, .int .u64 0, .str ⟨#[]⟩, .list [], .list [], .list [], .list []] = 0
 simp only [bkL, bk, Zjw, sz0]
theorem ZEi (k : Int) : bkL (Zay (zvV k)) = 0 := by
 unfold zvV
 split <;> exact Zlj _
theorem Zwj (R : ByteArray → Val × Nat) (h : ∀ x, bkL (Zay (R x).1) + 1 ≤ (R x).2) : ∀ l : List Fld, Zjw ((l.map fun f => (.mk f.num (elQ R f).1 : Slt)).map Zar) ≤ (l.map fun f => (elQ R f).2).sum
 | [] => Yd _
 | f :: l => by
  have ih := Zwj R h l
  have e : Zar (.mk f.num (elQ R f).1) = D.int .i64 f.num :: Zay (elQ R f).1 := by rw [Zc7]; rfl
  have h1 : bkL (Zay (elQ R f).1) + 1 ≤ (elQ R f).2 := by
   unfold elQ
   split
   ·exact h _
   ·rw [ZEi]; exact Yd _
  simp only [YE, List.sum_cons, Zjw, e, bkL, bk]
  omega
theorem Zu6 (s : Scm) : ∀ (k : Nat) (n : ByteArray), bkL (Zay (ZgP s k n).1) + 1 ≤ (ZgP s k n).2
 | 0, n => by
  unfold ZgP
  rw [Zlj]
  exact Yd _
 | k + 1, n => by
  have h := Zwj (ZgP s k) (Zu6 s k) (rqQ (Zdl s n))
  unfold ZgP
  show bkL (Zay (.mk 10 0 ⟨#[]⟩ [] [] (Zha (ZgP s k) (Zdl s n)) [])) + 1 ≤ 1 + ZdS (ZgP s k) (Zdl s n)
  have e2 : bkL (Zay (.mk 10 0 ⟨#[]⟩ [] [] (Zha (ZgP s k) (Zdl s n)) [])) = bkL [.int .i64 10, .int .u64 0, .str ⟨#[]⟩, .list [], .list [], .list ((Zha (ZgP s k) (Zdl s n)).map Zar), .list []] := rfl
  rw [e2]
  simp only [bkL, bk, Zjw, sz0]
  unfold Zha ZdS
  omega
theorem ZBZ {s : Scm} (h : ∀ (i : Nat) (m : Msg), s.messages[i]? = some m → GdM m) (n : ByteArray) : ZsV (Zdl s n) (Zdl s n).length := by
 unfold Zdl Zri
 cases e : s.messages.find? fun m => decide (m.name = n) with
 | none => intro i a b hi; simp at hi
 | some m =>
  obtain ⟨i, hi⟩ := YF.1 (Ya2 e)
  exact h i m hi
theorem o6g (s : Scm) (n : ByteArray) (h : SzS s) : Ok (fun b => b = true → Few s ∧ ∀ (i : Nat) (m : Msg), s.messages[i]? = some m → GdM m) (ZbI s n) := by
 dsimp only [ZbI, ZIv, vz, vw, lr, clg, eqN]
 have h15 := o15 _ h
 have h16 : ∀ k : Few s, Ok (fun b => b = true → ∀ (i : Nat) (m : Msg), s.messages[i]? = some m → GdM m) (ZaL s) := fun k => o16 _ h k
 (repeat' (first | with_reducible refine Ok.br (fun _ => ?_) (fun _ => ?_) | with_reducible refine Ok.pure ?_ | (with_reducible apply Ok.bind; (exact h15); intro _ _) | (with_reducible apply Ok.bind; (exact h16 (by simp_all)); intro _ _) | (with_reducible apply Ok.clg; (exact fun _ => h15); intro _) | (with_reducible apply Ok.clg; (exact fun _ => h16 (by simp_all)); intro _) | with_reducible refine Ok.if ?_ ?_)) <;> (simp_all <;> (rename_i q; exact q))
theorem ZfP {s : Scm} {n : ByteArray} (hs : bkL (Zb4 s) ≤ 1048576) (_ : (0 : Nat) ≤ 1) : ZaC s n = some true := by
 have h := szS hs
 obtain ⟨b, e1, g1⟩ := o6g s n h
 dsimp only [ZaC, ZI9, br, vw, lr, cl, clg, br]
 rw [e1, Yn, aw]
 cases b with
 | false => simp
 | true =>
  obtain ⟨hw, hg⟩ := g1 rfl
  have hF : Fw s := ⟨by have := hw.m; omega, by have := hw.e; omega, fun m hm => (h.m m hm).fl⟩
  have hr := ZiN s n
  have key : ∃ v b, ZcT s n = some (v, b) ∧ Zbx s n = some (v, b) ∧ BkV v := by
   dsimp only [ZcT, ZIV, br, vw, lr, cl, br, Zbx, ZI7, br, vw, lr, cl, br]
   rw [ZL2 hF n, ZMY hF n]
   simp only [Yn]
   by_cases h1 : hgt s n = 0 ∨ 16 < hgt s n
   ·have h2 : (decide (hgt s n = 0) || decide ((16 : Int) < hgt s n)) = true := by simpa using h1
    have h3 : (decide (hgt s n < 1) || decide ((16 : Int) < hgt s n)) = true := by
     simp only [Bool.or_eq_true, decide_eq_true_eq]
     omega
    rw [if_pos h2, if_pos h3]
    exact ⟨_, _, rfl, rfl, by unfold BkV; rw [Zlj]; exact Y4 _⟩
   ·have h2 : ¬ (decide (hgt s n = 0) || decide ((16 : Int) < hgt s n)) = true := by simpa using h1
    have h3 : ¬ (decide (hgt s n < 1) || decide ((16 : Int) < hgt s n)) = true := by
     simp only [Bool.or_eq_true, decide_eq_true_eq]
     omega
    rw [if_neg h2, if_neg h3]
    have hk : isM s n = true → hgt s n ≠ 0 ∧ hgt s n ≤ ((hgt s n).toNat : Int) := fun _ => ⟨by omega, by omega⟩
    have hb : (hgt s n).toNat < big := by unfold big; omega
    have q1 := ZKz h.ml (fun n => hF.fl n) (ZBZ hg) (hgt s n).toNat big n hk hb
    obtain ⟨y, q2, y1, y2, y3, y4⟩ := ZLx h.ml (fun n => hF.fl n) (hgt s n).toNat big n 4096 hk hb (by omega) (by omega)
    have hbk := Zu6 s ((hgt s n).toNat + 1) n
    rw [q1, q2]
    simp only [Yn]
    by_cases hq : (ZgP s ((hgt s n).toNat + 1) n).2 ≤ 4096
    ·have hy := y3 (by omega)
     subst hy
     have g : ¬ (4096 - ((ZgP s ((hgt s n).toNat + 1) n).2 : Int) < 0) := by omega
     unfold Zuu
     simp only [hq, if_true, g, decide_false, YN, if_false]
     exact ⟨_, _, rfl, rfl, by unfold BkV; omega⟩
    ·have hy := y4 (by omega)
     unfold Zuu
     simp only [hq, if_false, hy, decide_true, if_true]
     exact ⟨_, _, rfl, rfl, by unfold BkV z0V; rw [Zlj]; exact Y4 _⟩
  obtain ⟨v, b, k1, k2, k3⟩ := key
  have hbig : bkL (Zay v) < big := by
   have : bkL (Zay v) ≤ 1048576 := k3
   exact Zat (by omega)
  obtain ⟨y, e5, hy⟩ := o12 big v hbig k3
  rw [k1, k2]
  simp [e5, hy]
end Go.Proofs.YtchkcemlglpobaaGreat
namespace Go.Proofs.YtchkcemlglpobaaGreat
set_option linter.all false
open Go Go.Eng Go.ChangeShapes Go.WideShapes Go.ChangeAt Go.RowKit
theorem own : ownKnob Tryz.prog.godebug = none := by kernel_rfl
namespace PresentLeasts
open Go.Proofs.YtchkcemlglpobaaGreat
set_option maxRecDepth 100000 in
theorem contract (H : Type) (enc : TypeId × Value → H) (W : World) (base : Nat) (args : Array Value) (ds gs : List (DataW H)) (before : List MemPlace)
  (hval : ∀ (j : Nat) t v, Tryz.f3.params[j]? = some t → args[j]? = some v → Value.okWide Tryz.prog W .any base t v)
  (hW : DataW.Whole enc Tryz.prog Tryz.f3.params.toList Rows.presentLeastsSpec.vars false W args.toList ds gs before) (hk : Rows.uptoSmall H (ds ++ gs) = true) :
  Calls Tryz.prog 3 args W fun e W' => ∃ v, e = .returned v ∧ Rows.presentLeastsSpec.post enc Tryz.prog Tryz.f3 false true false false W args v W' := by
 obtain ⟨p, q, hA0, hV, rfl, hfz, hnd⟩ := id hW
 have hA : DataW.TrodAll enc Tryz.prog W 0 (fun _ => true) true Tryz.f3.params.toList args.toList ds p := hA0
 rw [Tryz.params3] at hA hval
 obtain ⟨v0, vs0, d0, ds0, p0, q0, hargs, rfl, rfl, h0, r0⟩ := trodAll_cons hA
 obtain ⟨v1, vs1, d1, ds1, p1, q1, rfl, rfl, rfl, h1, r1⟩ := trodAll_cons r0
 obtain ⟨rfl, rfl, rfl⟩ := trodAll_nil r1
 obtain rfl : args = #[v0, v1] := by cases args; simp_all
 have hb : Rows.uptoBulkAll ([d0, d1] ++ gs) ≤ 1048576 := of_decide_eq_true hk
 simp only [YaF, Yag, Rows.uptoBulkAll] at hb
 obtain ⟨s, re0, fe0⟩ := ZAJ ZB3 Tryz.underlying26 (hval 0 26 v0 rfl rfl) h0
 obtain ⟨n, re1, fe1⟩ := Zx4 Tryz.underlying9 (hval 1 9 v1 rfl rfl) h1
 obtain ⟨rfl, rfl⟩ := trodVars_none hV
 have A := (K_3 s n).k 0 Hp0 true (ZfP (by omega) (by omega))
 refine (A.2 (fun _ => ⟨0, 0, 0⟩) (· < W.heap.size) W #[v0, v1] (ok0 _) (Zym (xs := [.agg ((Zb4 s).map .d), .d (.str n)]) (vs := [v0, v1]) ⟨re0 _ _, re1 _ _ _ _, trivial⟩)).mono fun e W' ⟨r, v, H', m', S', he, hp, hO, hr, hx⟩ => ?_
 obtain ⟨hp, _⟩ := hp
 subst he
 subst hp
 cases hr
 rename_i hd
 cases hd
 exact ⟨_, rfl, ZpB hW rfl (by kernel_rfl) (by rw [Tryz.params3]; exact (by decide +kernel)) (by kernel_rfl) Tryz.underlying4 rfl ⟨hx.os, hx.tape, hx.output, hx.size, hx.blk⟩⟩
set_option maxRecDepth 100000 in
theorem lifted (os : Os) (started : os.Started) (H : Type) (enc : TypeId × Value → H) (F : Stop.Interp) :
  ReturnsInHanded {} Tryz.checked os 3 .any ((Rows.OpenSpec.upto Rows.presentLeastsSpec).pre6 enc Tryz.prog Tryz.f3 Rows.presentLeastsUptoRow.domain false) (((Rows.OpenSpec.upto Rows.presentLeastsSpec).at F).post enc Tryz.prog Tryz.f3 false true false false) := by
 refine returnsInHanded_of_cond (C := Tryz.checked) (s := Rows.OpenSpec.upto Rows.presentLeastsSpec) (k := Rows.uptoSmall) rfl own started (by kernel_rfl) Tryz.func3
  (OpenSpec.witness (enc := enc) (C := Tryz.checked) (s := Rows.OpenSpec.upto Rows.presentLeastsSpec) (k := Rows.uptoSmall) rfl false ⟨#[], #[.agg #[.slice none 0 0, .slice none 0 0, .slice none 0 0], .string ⟨#[]⟩], []⟩ 8 (by kernel_rfl) (by kernel_rfl) (by kernel_rfl)
   (x := ([.agg [.nil, .nil, .nil], .lit (.string [])], [], [])) (by kernel_rfl) rfl (by kernel_rfl)) ?_
 intro W base args ds gs before hval hW _ hk _
 exact contract H enc W base args ds gs before hval hW hk
theorem holds : Rows.PresentLeastsUptoSaid :=
 OpenClaim.holds_of_cond 3 Tryz.f3 rfl rfl rfl rfl rfl rfl rfl ⟨rfl, rfl, rfl, rfl, rfl⟩ rfl rfl rfl rfl rfl (by kernel_rfl) Tryz.func3 (by kernel_rfl)
  (of_decide_eq_true (by kernel_rfl)) (by unfold Func.isWrapper; first | (rw [if_pos (by decide +kernel)]; kernel_rfl) | (rw [if_neg (by decide +kernel)]; exact ⟨rfl, rfl⟩))
  (fun os started H enc _ F => lifted os started H enc F)
end PresentLeasts
end Go.Proofs.YtchkcemlglpobaaGreat
