/-
  What is proved: the second form of wireschemalaw11.LinkJoins: the law returns true and leaves its arguments as they were.
  Condition: the arguments are together of bulk at most 1048576 (the given second form); nothing else.
-/
import Derived.Test.YthagpbkmakocjaaGreatCy24
import Derived.Test.YthagpbkmakocjaaGreatCy23
import Derived.Test.YthagpbkmakocjaaGreatRows
import Derived.WalkKit
import Derived.ProofKit
import Derived.OpenShut
import Derived.JoinedCond
namespace Go.Proofs.YthagpbkmakocjaaGreat
set_option linter.all false
open Go Go.Eng
structure OkS (s : Scm) : Prop where
 m : s.messages.length < 4611686018427387904
 e : s.enums.length < 4611686018427387904
 v : s.services.length < 4611686018427387904
 om : ∀ m ∈ s.messages, OkM m
 oe : ∀ m ∈ s.enums, OkE m
 ov : ∀ m ∈ s.services, OkV m
theorem ZHm (d : Fld) : d.type.name.size + Ze3 (d.notes.map eNt) ≤ bkL (ZcG d) := by
 simp only [ZcG, bkL, bk]; omega
theorem ZpH (m : Msg) : m.name.size + Ze3 (m.fields.map ZcG) + Ze3 (m.reserved.map Zdh) + Ze3 (m.gone.map Zan) + Ze3 (m.notes.map eNt) ≤ bkL (Zaj m) := by
 simp only [Zaj, bkL, bk]; omega
theorem ZEz (d : Itm) : Ze3 (d.notes.map eNt) ≤ bkL (Zec d) := by
 simp only [Zec, bkL, bk]; omega
theorem ZCP (m : Enm) : m.name.size + Ze3 (m.items.map Zec) + Ze3 (m.reserved.map Zdh) + Ze3 (m.notes.map eNt) ≤ bkL (Zag m) := by
 simp only [Zag, bkL, bk]; omega
theorem ZCL (d : Mth) : d.inn.size + d.out.size + Ze3 (d.notes.map eNt) ≤ bkL (Zc1 d) := by
 simp only [Zc1, bkL, bk]; omega
theorem ZoU (m : Svc) : m.name.size + Ze3 (m.methods.map Zc1) + Ze3 (m.notes.map eNt) ≤ bkL (Zal m) := by
 simp only [Zal, bkL, bk]; omega
theorem ZFd {m : Msg} (h : bkL (Zaj m) ≤ 1048576) : OkM m := by
 have h1 := ZpH m
 have a := Zbg (e := ZcG) m.fields
 have b := Zbg (e := Zdh) m.reserved
 have c := Zbg (e := Zan) m.gone
 have d := Zbg (e := eNt) m.notes
 refine ⟨by omega, by omega, by omega, by omega, fun x hx => ?_⟩
 have e := Ze2 (e := ZcG) hx
 have f := ZHm x
 have g := Zbg (e := eNt) x.notes
 omega
theorem ZIq {m : Enm} (h : bkL (Zag m) ≤ 1048576) : OkE m := by
 have h1 := ZCP m
 have a := Zbg (e := Zec) m.items
 have b := Zbg (e := Zdh) m.reserved
 have d := Zbg (e := eNt) m.notes
 refine ⟨by omega, by omega, by omega, fun x hx => ?_⟩
 have e := Ze2 (e := Zec) hx
 have f := ZEz x
 have g := Zbg (e := eNt) x.notes
 omega
theorem ZIr {m : Svc} (h : bkL (Zal m) ≤ 1048576) : OkV m := by
 have h1 := ZoU m
 have a := Zbg (e := Zc1) m.methods
 have d := Zbg (e := eNt) m.notes
 refine ⟨by omega, by omega, fun x hx => ?_⟩
 have e := Ze2 (e := Zc1) hx
 have f := ZCL x
 have g := Zbg (e := eNt) x.notes
 omega
theorem Zmn (s : Scm) : Ze3 (s.messages.map Zaj) + Ze3 (s.enums.map Zag) + Ze3 (s.services.map Zal) ≤ bkL (Zeb s) := by
 simp only [Zeb, bkL, bk]; omega
theorem Zv8 {s : Scm} (h : bkL (Zeb s) ≤ 1048576) : OkS s := by
 have h1 := Zmn s
 have b := Zbg (e := Zaj) s.messages
 have c := Zbg (e := Zag) s.enums
 have d := Zbg (e := Zal) s.services
 exact ⟨by omega, by omega, by omega, fun m hm => ZFd (by have := Ze2 (e := Zaj) hm; omega), fun m hm => ZIq (by have := Ze2 (e := Zag) hm; omega), fun m hm => ZIr (by have := Ze2 (e := Zal) hm; omega)⟩
theorem ZpE {α : Type} (e : α → List D) (w : α → Nat) (c : Nat) (h : ∀ x, w x ≤ c * bkL (e x)) : ∀ l : List α, (l.map w).sum ≤ c * Ze3 (l.map e)
 | [] => by simp
 | x :: l => by
  have h1 := h x
  have h2 := ZpE e w c h l
  simp only [List.map_cons, List.sum_cons, Ze3, Nat.mul_add]
  omega
theorem ZEM {s : Scm} {ns : List ByteArray} (h : bkL (Zeb s) ≤ 1048576) (hn : Ze3 (ns.map Zan) ≤ 1048576) : SzO s ns := by
 have h1 := Zmn s
 have a := Zbg (e := Zan) ns
 have b := Zbg (e := Zaj) s.messages
 have c := Zbg (e := Zag) s.enums
 have d := Zbg (e := Zal) s.services
 refine ⟨by omega, by omega, by omega, by omega, fun m hm => ?_, fun m hm => ?_, ?_⟩
 ·have := Ze2 (e := Zaj) hm; have := ZpH m; have := Zbg (e := ZcG) m.fields; omega
 ·have := Ze2 (e := Zal) hm; have := ZoU m; have := Zbg (e := Zc1) m.methods; omega
 ·have p := ZpE Zaj (fun m => m.fields.length) 1 (fun m => by have := ZpH m; have := Zbg (e := ZcG) m.fields; omega) s.messages
  have q := ZpE Zal (fun m => 2 * m.methods.length) 2 (fun m => by have := ZoU m; have := Zbg (e := Zc1) m.methods; omega) s.services
  unfold ZLK
  omega
def bJ (a b : Scm) : Bool := (b.messages.any (Zeq (fun m => m.name) mP (nmS a) a.messages) || b.enums.any (Zeq (fun m => m.name) eP (nmS a) a.enums)) || b.services.any (Zeq (fun m => m.name) svP (nmS a) a.services)
def sJ (a b : Scm) : Scm := ⟨Zar (fun y => y.name) (Zdy (fun m => m.name) a.messages b.messages), Zar (fun y => y.name) (Zdy (fun m => m.name) a.enums b.enums), Zar (fun y => y.name) (Zdy (fun m => m.name) a.services b.services)⟩
structure SzJ (a b : Scm) : Prop where
 z : SzO a []
 o : OkS a
 o2 : OkS b
 m : a.messages.length + b.messages.length ≤ 1048576
 e : a.enums.length + b.enums.length ≤ 1048576
 v : a.services.length + b.services.length ≤ 1048576
theorem ZAb (s : Scm) (y : ByteArray) : lkM y (Zvu s) = (nmS s).any fun z => decide (z = y) := by
 rw [Bool.eq_iff_iff, ZxU, List.any_eq_true]
 exact ⟨fun h => ⟨y, h, by simp⟩, fun ⟨z, hz, e⟩ => of_decide_eq_true e ▸ hz⟩
theorem jp5 (a b : Scm) (h : SzJ a b) : ZeE a b = some (if bJ a b = true then (⟨[], [], []⟩, 9) else (sJ a b, 0)) := by
 have e1 := j13 a.messages b.messages (Zvu a) (nmS a) (ZAb a) h.m h.o.om
 have e2 := j16 a.enums b.enums (Zvu a) (nmS a) (ZAb a) h.e h.o.oe
 have e3 := j19 a.services b.services (Zvu a) (nmS a) (ZAb a) h.v h.o.ov
 have s0 := m30 (ZqT fun x y => m60 x y) (ZqT fun x y => m63 x y) (ZqT fun x y => m65 x y) (Zdy (fun m => m.name) a.messages b.messages) (Zdy (fun m => m.name) a.enums b.enums) (Zdy (fun m => m.name) a.services b.services)
  (Nat.le_trans (ZbE _ _ _) h.m) (Nat.le_trans (ZbE _ _ _) h.e) (Nat.le_trans (ZbE _ _ _) h.v)
 unfold ZeE bJ sJ
 dsimp only [ZzN, Zye, ZJo, ZKy, ZJs, ZJJ, ZJF, ZJl, ZJr, al, frt, stp, br, ix, ixi, vz, vy, vw, vs, vg, v2, lr, lrt, ln, lxe, lc, lf, lfe, ap, aq, a0, a1, ad, cl, cs, cf, wa, wi, ir, ca, cp, dd, mv, st, ss, sL, Bd.c, Bd.vl, clg, csg, cfg, sL, Bd.c, Bd.vl, mlk, mpu, mdl, mvm, mlg, ixg, tw, du, lxc, lrt]
 simp only [j40 a h.z, e1, e2, e3, Option.bind_some]
 generalize b.messages.any _ = b1
 generalize b.enums.any _ = b2
 generalize b.services.any _ = b3
 cases b1 <;> cases b2 <;> cases b3 <;> simp only [Bool.false_eq_true, if_true, if_false, Bool.not_true, Bool.not_false, Bool.or_true, Bool.or_false, s0, Option.bind_some] <;> rfl
theorem jr6 (a b : Scm) (h : SzJ a b) : ZbL a b = some (if bJ a b = true then (⟨[], [], []⟩, 9) else (sJ a b, 0)) := by
 have hm := h.m
 have he := h.e
 have hv := h.v
 have hK : (nmS a).length < 4611686018427387904 := by
  unfold nmS
  simp only [List.length_append, List.length_map]
  omega
 have e1 := ZM4 a b (nmS a) hK (fun m hm => by unfold nmS; simp only [List.mem_append]; exact .inl (.inl (List.mem_map_of_mem (f := fun m : Msg => m.name) hm))) h.m h.o.om
 have e2 := fun r8 => ZNk a b (nmS a) r8 hK (fun m hm => by unfold nmS; simp only [List.mem_append]; exact .inl (.inr (List.mem_map_of_mem (f := fun m : Enm => m.name) hm))) h.e h.o.oe
 have e3 := fun r8 r15 => ZNx a b (nmS a) r8 r15 hK (fun m hm => by unfold nmS; simp only [List.mem_append]; exact .inr (List.mem_map_of_mem (f := fun m : Svc => m.name) hm)) h.v h.o.ov
 have s0 := m36 ⟨Zdy (fun m => m.name) a.messages b.messages, Zdy (fun m => m.name) a.enums b.enums, Zdy (fun m => m.name) a.services b.services⟩
  (Nat.le_trans (ZbE _ _ _) h.m) (Nat.le_trans (ZbE _ _ _) h.e) (Nat.le_trans (ZbE _ _ _) h.v)
 have l1 : a.messages.length < 549755813888 := by omega
 have l2 : a.enums.length < 549755813888 := by omega
 have l3 : a.services.length < 549755813888 := by omega
 unfold ZbL bJ sJ
 dsimp only [ZxV, Zy3, ZBc, ZB9, Zfg, ZzI, ZGQ, Zup, Zr3, Zz1, ZAe, ZBL, ZIf, ZrG, Zuv, ZAI, ZrW, Zx0, ZBJ, ZDa, ZAD, ZzS, ZIa, Zzr, ZDZ, ZDY, ZGT, ZxP, ZB2, al, frt, stp, br, ix, ixi, vz, vy, vw, vs, vg, v2, lr, lrt, ln, lxe, lc, lf, lfe, ap, aq, a0, a1, ad, cl, cs, cf, wa, wi, ir, ca, cp, dd, mv, st, ss, sL, Bd.c, Bd.vl, clg, csg, cfg, sL, Bd.c, Bd.vl, mlk, mpu, mdl, mvm, mlg, ixg, tw, du, lxc, lrt]
 simp only [j44 a h.z, l1, l2, l3, if_true, Option.bind_some]
 rw [e1]
 by_cases c1 : b.messages.any (Zeq (fun m => m.name) mP (nmS a) a.messages) = true
 ·rw [if_pos c1]
  simp [c1]
 rw [if_neg c1]
 simp only [Option.bind_some, Sum.elim_inl]
 rw [e2]
 by_cases c2 : b.enums.any (Zeq (fun m => m.name) eP (nmS a) a.enums) = true
 ·rw [if_pos c2]
  simp [c2]
 rw [if_neg c2]
 simp only [Option.bind_some, Sum.elim_inl]
 rw [e3]
 by_cases c3 : b.services.any (Zeq (fun m => m.name) svP (nmS a) a.services) = true
 ·rw [if_pos c3]
  simp [c3]
 rw [if_neg c3]
 simp only [Option.bind_some, Sum.elim_inl]
 rw [s0]
 simp only [Bool.not_eq_true] at c1 c2 c3
 simp only [c1, c2, c3, Bool.or_false, Bool.false_eq_true, if_false, Option.bind_some]
theorem Zjx (s : Scm) (h : OkS s) : Zbd s s = some true := by
 unfold Zbd
 simp [ZJp, vw, j25 _ _ h.m h.om, j27 _ _ h.e h.oe, j29 _ _ h.v h.ov, Zby ZyX, Zby Zxd, Zby ZsW]
set_option maxRecDepth 100000 in
theorem aw : Zcn = some true := by kernel_rfl
theorem Zr8 : OkS ⟨[], [], []⟩ := by
 refine ⟨by decide, by decide, by decide, ?_, ?_, ?_⟩ <;> (intro m hm; cases hm)
theorem ZuJ {a b : Scm} (h : SzJ a b) : OkS (sJ a b) := by
 have hm := h.m
 have he := h.e
 have hv := h.v
 unfold sJ
 refine ⟨?_, ?_, ?_, fun m hm => ?_, fun m hm => ?_, fun m hm => ?_⟩
 ·dsimp only; rw [Zcb]; have := ZbE (fun m : Msg => m.name) a.messages b.messages; omega
 ·dsimp only; rw [Zcb]; have := ZbE (fun m : Enm => m.name) a.enums b.enums; omega
 ·dsimp only; rw [Zcb]; have := ZbE (fun m : Svc => m.name) a.services b.services; omega
 ·exact (Zim ((Zd2 _ _).mem_iff.1 hm)).elim (h.o.om m) (h.o2.om m)
 ·exact (Zim ((Zd2 _ _).mem_iff.1 hm)).elim (h.o.oe m) (h.o2.oe m)
 ·exact (Zim ((Zd2 _ _).mem_iff.1 hm)).elim (h.o.ov m) (h.o2.ov m)
theorem Zhz {a b : Scm} (h : bkL (Zeb a) + bkL (Zeb b) ≤ 1048576) : Zba a b = some true := by
 have hz : SzJ a b := by
  have h1 := Zmn a
  have h2 := Zmn b
  have c1 := Zbg (e := Zaj) a.messages
  have c2 := Zbg (e := Zag) a.enums
  have c3 := Zbg (e := Zal) a.services
  have d1 := Zbg (e := Zaj) b.messages
  have d2 := Zbg (e := Zag) b.enums
  have d3 := Zbg (e := Zal) b.services
  exact ⟨ZEM (by omega) (by decide), Zv8 (by omega), Zv8 (by omega), by omega, by omega, by omega⟩
 unfold Zba
 dsimp only [ZKf, cl, clg, vw, br, lr, lf]
 rw [jp5 a b hz, jr6 a b hz]
 dsimp only [Option.bind_some]
 have hs : Zbd (if bJ a b = true then ((⟨[], [], []⟩, 9) : Scm × Int) else (sJ a b, 0)).1 (if bJ a b = true then ((⟨[], [], []⟩, 9) : Scm × Int) else (sJ a b, 0)).1 = some true := by
  split
  ·exact Zjx _ Zr8
  ·exact Zjx _ (ZuJ hz)
 rw [hs, aw]
 simp
end Go.Proofs.YthagpbkmakocjaaGreat
namespace Go.Proofs.YthagpbkmakocjaaGreat
set_option linter.all false
open Go Go.Eng Go.ChangeShapes Go.WideShapes Go.ChangeAt Go.RowKit
theorem own : ownKnob Tryz.prog.godebug = none := by kernel_rfl
namespace LinkJoins
open Go.Proofs.YthagpbkmakocjaaGreat
set_option maxRecDepth 100000 in
theorem contract (H : Type) (enc : TypeId × Value → H) (W : World) (base : Nat) (args : Array Value) (ds gs : List (DataW H)) (before : List MemPlace)
  (hval : ∀ (j : Nat) t v, Tryz.f3.params[j]? = some t → args[j]? = some v → Value.okWide Tryz.prog W .any base t v)
  (hW : DataW.Whole enc Tryz.prog Tryz.f3.params.toList Rows.linkJoinsSpec.vars false W args.toList ds gs before) (hk : Rows.uptoSmall H (ds ++ gs) = true) :
  Calls Tryz.prog 3 args W fun e W' => ∃ v, e = .returned v ∧ Rows.linkJoinsSpec.post enc Tryz.prog Tryz.f3 false true false false W args v W' := by
 obtain ⟨p, q, hA0, hV, rfl, hfz, hnd⟩ := id hW
 have hA : DataW.TrodAll enc Tryz.prog W 0 (fun _ => true) true Tryz.f3.params.toList args.toList ds p := hA0
 rw [Tryz.params3] at hA hval
 obtain ⟨v0, vs0, d0, ds0, p0, q0, hargs, rfl, rfl, h0, r0⟩ := trodAll_cons hA
 obtain ⟨v1, vs1, d1, ds1, p1, q1, rfl, rfl, rfl, h1, r1⟩ := trodAll_cons r0
 obtain ⟨rfl, rfl, rfl⟩ := trodAll_nil r1
 obtain rfl : args = #[v0, v1] := by cases args; simp_all
 have hb : Rows.uptoBulkAll ([d0, d1] ++ gs) ≤ 1048576 := of_decide_eq_true hk
 simp only [List.cons_append, List.nil_append, Rows.uptoBulkAll] at hb
 obtain ⟨one, re0, fe0⟩ := Zpt ZwC Tryz.underlying26 (hval 0 26 v0 rfl rfl) h0
 obtain ⟨two, re1, fe1⟩ := Zpt ZwC Tryz.underlying26 (hval 1 26 v1 rfl rfl) h1
 obtain ⟨rfl, rfl⟩ := trodVars_none hV
 have A := (K_3 one two).k 0 Hp0 true (Zhz (by omega))
 refine (A.2 (fun _ => ⟨0, 0, 0⟩) (· < W.heap.size) W #[v0, v1] (ok0 _) (ZBk (xs := [.agg ((Zeb one).map .d), .agg ((Zeb two).map .d)]) (vs := [v0, v1]) ⟨re0 _ _, re1 _ _, trivial⟩)).mono fun e W' ⟨r, v, H', m', S', he, hp, hO, hr, hx⟩ => ?_
 obtain ⟨hp, _⟩ := hp
 subst he
 subst hp
 cases hr
 rename_i hd
 cases hd
 exact ⟨_, rfl, Zp2 hW rfl (by kernel_rfl) (by rw [Tryz.params3]; exact (by decide +kernel)) (by kernel_rfl) Tryz.underlying4 rfl ⟨hx.os, hx.tape, hx.output, hx.size, hx.blk⟩⟩
set_option maxRecDepth 100000 in
theorem lifted (os : Os) (started : os.Started) (H : Type) (enc : TypeId × Value → H) (F : Stop.Interp) :
  ReturnsInHanded {} Tryz.checked os 3 .any ((Rows.OpenSpec.upto Rows.linkJoinsSpec).pre6 enc Tryz.prog Tryz.f3 Rows.linkJoinsUptoRow.domain false) (((Rows.OpenSpec.upto Rows.linkJoinsSpec).at F).post enc Tryz.prog Tryz.f3 false true false false) := by
 refine returnsInHanded_of_cond (C := Tryz.checked) (s := Rows.OpenSpec.upto Rows.linkJoinsSpec) (k := Rows.uptoSmall) rfl own started (by kernel_rfl) Tryz.func3
  (OpenSpec.witness (enc := enc) (C := Tryz.checked) (s := Rows.OpenSpec.upto Rows.linkJoinsSpec) (k := Rows.uptoSmall) rfl false ⟨#[], #[.agg #[.slice none 0 0, .slice none 0 0, .slice none 0 0], .agg #[.slice none 0 0, .slice none 0 0, .slice none 0 0]], []⟩ 8 (by kernel_rfl) (by kernel_rfl) (by kernel_rfl)
   (x := ([.agg [.nil, .nil, .nil], .agg [.nil, .nil, .nil]], [], [])) (by kernel_rfl) rfl (by kernel_rfl)) ?_
 intro W base args ds gs before hval hW _ hk _
 exact contract H enc W base args ds gs before hval hW hk
theorem holds : Rows.LinkJoinsUptoSaid :=
 OpenClaim.holds_of_cond 3 Tryz.f3 rfl rfl rfl rfl rfl rfl rfl ⟨rfl, rfl, rfl, rfl, rfl⟩ rfl rfl rfl rfl rfl (by kernel_rfl) Tryz.func3 (by kernel_rfl)
  (of_decide_eq_true (by kernel_rfl)) (by unfold Func.isWrapper; first | (rw [if_pos (by decide +kernel)]; kernel_rfl) | (rw [if_neg (by decide +kernel)]; exact ⟨rfl, rfl⟩))
  (fun os started H enc _ F => lifted os started H enc F)
end LinkJoins
end Go.Proofs.YthagpbkmakocjaaGreat
