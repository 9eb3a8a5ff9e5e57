/-
  What is proved: the second form of wireschemalaw11.LinkResolves: the law returns true and leaves its arguments as they were.
  Condition: the arguments are together of bulk at most 1048576 (the given second form); nothing else.
-/
import Derived.Test.YthagpbkmakocjaaCs24
import Derived.Test.YthagpbkmakocjaaRows
import Derived.WalkKit
import Derived.ProofKit
import Derived.OpenShut
import Derived.JoinedCond
namespace Go.Proofs.Ythagpbkmakocjaa
set_option linter.all false
open Go Go.Eng
structure OkF (f : Fil) : Prop where
 m : ∀ m ∈ f.messages, OkM m
 e : ∀ e ∈ f.enums, OkE e
 v : ∀ v ∈ f.services, OkV v
theorem bk_Fld (d : Fld) : d.type.name.size + bkLL (d.notes.map eNt) ≤ bkL (eFld d) := by
 simp only [eFld, bkL, bk]; omega
theorem bk_Msg (m : Msg) : m.name.size + bkLL (m.fields.map eFld) + bkLL (m.reserved.map eSpn) + bkLL (m.gone.map eStr) + bkLL (m.notes.map eNt) ≤ bkL (eMsg m) := by
 simp only [eMsg, bkL, bk]; omega
theorem bk_Itm (d : Itm) : bkLL (d.notes.map eNt) ≤ bkL (eItm d) := by
 simp only [eItm, bkL, bk]; omega
theorem bk_Enm (m : Enm) : m.name.size + bkLL (m.items.map eItm) + bkLL (m.reserved.map eSpn) + bkLL (m.notes.map eNt) ≤ bkL (eEnm m) := by
 simp only [eEnm, bkL, bk]; omega
theorem bk_Mth (d : Mth) : d.inn.size + d.out.size + bkLL (d.notes.map eNt) ≤ bkL (eMth d) := by
 simp only [eMth, bkL, bk]; omega
theorem bk_Svc (m : Svc) : m.name.size + bkLL (m.methods.map eMth) + bkLL (m.notes.map eNt) ≤ bkL (eSvc m) := by
 simp only [eSvc, bkL, bk]; omega
theorem bk_Fil (f : Fil) : f.name.size + f.space.size + bkLL (f.imports.map eStr) + bkLL (f.messages.map eMsg) + bkLL (f.enums.map eEnm) + bkLL (f.services.map eSvc) ≤ bkL (eFil f) := by
 simp only [eFil, bkL, bk]; omega
theorem okM_of {m : Msg} (h : bkL (eMsg m) ≤ 1048576) : OkM m := by
 have h1 := bk_Msg m
 have a := bk_len (e := eFld) m.fields
 have b := bk_len (e := eSpn) m.reserved
 have c := bk_len (e := eStr) m.gone
 have d := bk_len (e := eNt) m.notes
 refine ⟨by omega, by omega, by omega, by omega, fun x hx => ?_⟩
 have e := bk_mem (e := eFld) hx
 have f := bk_Fld x
 have g := bk_len (e := eNt) x.notes
 omega
theorem okE_of {m : Enm} (h : bkL (eEnm m) ≤ 1048576) : OkE m := by
 have h1 := bk_Enm m
 have a := bk_len (e := eItm) m.items
 have b := bk_len (e := eSpn) m.reserved
 have d := bk_len (e := eNt) m.notes
 refine ⟨by omega, by omega, by omega, fun x hx => ?_⟩
 have e := bk_mem (e := eItm) hx
 have f := bk_Itm x
 have g := bk_len (e := eNt) x.notes
 omega
theorem okV_of {m : Svc} (h : bkL (eSvc m) ≤ 1048576) : OkV m := by
 have h1 := bk_Svc m
 have a := bk_len (e := eMth) m.methods
 have d := bk_len (e := eNt) m.notes
 refine ⟨by omega, by omega, fun x hx => ?_⟩
 have e := bk_mem (e := eMth) hx
 have f := bk_Mth x
 have g := bk_len (e := eNt) x.notes
 omega
theorem okF_of {f : Fil} (h : bkL (eFil f) ≤ 1048576) : OkF f := by
 have h1 := bk_Fil f
 exact ⟨fun m hm => okM_of (by have := bk_mem (e := eMsg) hm; omega), fun m hm => okE_of (by have := bk_mem (e := eEnm) hm; omega), fun m hm => okV_of (by have := bk_mem (e := eSvc) hm; omega)⟩
theorem szF_of {f : Fil} (h : bkL (eFil f) ≤ 1048576) : SzF f := by
 have h1 := bk_Fil f
 have a := bk_len (e := eStr) f.imports
 have b := bk_len (e := eMsg) f.messages
 have c := bk_len (e := eEnm) f.enums
 have d := bk_len (e := eSvc) f.services
 refine ⟨by omega, by omega, by omega, by omega, by omega, by omega, fun x hx => ?_, fun x hx => ?_, fun x hx => ?_⟩
 ·have := bk_mem (e := eMsg) hx; have := bk_Msg x; omega
 ·have := bk_mem (e := eEnm) hx; have := bk_Enm x; omega
 ·have := bk_mem (e := eSvc) hx; have := bk_Svc x; omega
theorem szG_of {f : Fil} (h : bkL (eFil f) ≤ 1048576) : SzG f := by
 have h1 := bk_Fil f
 refine ⟨fun x hx => ?_, fun x hx d hd => ?_, fun x hx => ?_, fun x hx d hd => ?_, fun x hx => ?_⟩
 ·have := bk_mem (e := eMsg) hx; have := bk_Msg x; have := bk_len (e := eFld) x.fields; omega
 ·have := bk_mem (e := eMsg) hx; have := bk_Msg x; have := bk_mem (e := eFld) hd; have := bk_Fld d; omega
 ·have := bk_mem (e := eSvc) hx; have := bk_Svc x; have := bk_len (e := eMth) x.methods; omega
 ·have := bk_mem (e := eSvc) hx; have := bk_Svc x; have := bk_mem (e := eMth) hd; have := bk_Mth d; omega
 ·have := bk_mem (e := eEnm) hx; have := bk_Enm x; have := bk_len (e := eItm) x.items; omega
theorem two_le {α : Type} (a b : α → Nat) {x y : α} : ∀ {l : List α}, x ∈ l → y ∈ l → a x + b y ≤ (l.map fun z => a z + b z).sum
 | z :: l, hx, hy => by
  have one : ∀ (c : α → Nat) {w : α} {l : List α}, w ∈ l → c w ≤ (l.map c).sum := fun c w l hw => by
   induction l with
   | nil => cases hw
   | cons v l ih => rw [List.map_cons, List.sum_cons]; cases List.mem_cons.1 hw with
    | inl h => subst h; omega
    | inr h => have := ih h; omega
  have spl : ∀ l : List α, (l.map fun z => a z + b z).sum = (l.map a).sum + (l.map b).sum := fun l => by
   induction l with
   | nil => rfl
   | cons v l ih => simp only [List.map_cons, List.sum_cons, ih]; omega
  rw [spl]
  have := one a hx
  have := one b hy
  omega
theorem bk_sum : ∀ fs : List Fil, (fs.map fun f => f.imports.length + tot f).sum ≤ bkLL (fs.map eFil)
 | [] => Nat.le_refl _
 | f :: l => by
  have := bk_sum l
  have h1 := bk_Fil f
  have a := bk_len (e := eStr) f.imports
  have b := bk_len (e := eMsg) f.messages
  have c := bk_len (e := eEnm) f.enums
  have d := bk_len (e := eSvc) f.services
  simp only [List.map_cons, List.sum_cons, bkLL, tot] at *
  omega
theorem tot_sum : ∀ fs : List Fil, (fs.map tot).sum ≤ (fs.map fun f => f.imports.length + tot f).sum
 | [] => Nat.le_refl _
 | f :: l => by have := tot_sum l; simp only [List.map_cons, List.sum_cons]; omega
theorem szs {fs : List Fil} (h : bkLL (fs.map eFil) ≤ 1048576) : SzA fs ∧ (∀ f ∈ fs, SzG f) ∧ ∀ f ∈ fs, OkF f := by
 have k : ∀ f ∈ fs, bkL (eFil f) ≤ 1048576 := fun f hf => by have := bk_mem (e := eFil) hf; omega
 have a := bk_len (e := eFil) fs
 have b := bk_sum fs
 have c := tot_sum fs
 exact ⟨⟨fun f hf => szF_of (k f hf), by omega, by omega, fun f hf g hg => by have := two_le (fun f : Fil => f.imports.length) tot hg hf; omega⟩, fun f hf => szG_of (k f hf), fun f hf => okF_of (k f hf)⟩
theorem field_notes (known msgs : List ByteArray) (en : List Enm) (scope : ByteArray) (d : Fld) : (fieldS known msgs en scope d).1.notes = d.notes := by
 unfold fieldS
 repeat' split
 all_goals rfl
theorem mth_notes (known msgs : List ByteArray) (space : ByteArray) (d : Mth) : (mthS known msgs space d).1.notes = d.notes := by
 unfold mthS
 repeat' split
 all_goals rfl
theorem okM_msg {fs : List Fil} {f : Fil} {m : Msg} (h : OkM m) : OkM (mS fs f m).1 := by
 unfold mS msgS
 split
 ·exact h
 ·refine ⟨by simpa using h.f, h.r, h.g, h.n, fun d hd => ?_⟩
  obtain ⟨x, hx, rfl⟩ := List.mem_map.1 hd
  rw [field_notes]
  exact h.d x hx
theorem okV_svc {fs : List Fil} {f : Fil} {m : Svc} (h : OkV m) : OkV (vS' fs f m).1 := by
 unfold vS' svcS
 split
 ·exact h
 ·refine ⟨by simpa using h.m, h.n, fun d hd => ?_⟩
  obtain ⟨x, hx, rfl⟩ := List.mem_map.1 hd
  rw [mth_notes]
  exact h.d x hx
theorem okS_link {fs : List Fil} {s : Scm} (hF : ∀ f ∈ fs, OkF f) (hb : ¬ bigS fs) (h1 : s.messages.Perm (fs.flatMap (msgsF fs))) (h2 : s.enums.Perm (enmsAll fs)) (h3 : s.services.Perm (fs.flatMap (svcsF fs))) : OkS s := by
 unfold bigS at hb
 refine ⟨by rw [h1.length_eq, len_msgsF]; omega, by rw [h2.length_eq, len_enmsF]; omega, by rw [h3.length_eq, len_svcsF]; omega, fun m hm => ?_, fun m hm => ?_, fun m hm => ?_⟩
 ·obtain ⟨f, hf, hm⟩ := List.mem_flatMap.1 (h1.mem_iff.1 hm)
  obtain ⟨x, hx, rfl⟩ := List.mem_map.1 hm
  exact okM_msg ((hF f hf).m x hx)
 ·obtain ⟨f, hf, hm⟩ := List.mem_flatMap.1 (h2.mem_iff.1 hm)
  obtain ⟨x, hx, rfl⟩ := List.mem_map.1 hm
  exact ⟨((hF f hf).e x hx).i, ((hF f hf).e x hx).r, ((hF f hf).e x hx).n, ((hF f hf).e x hx).d⟩
 ·obtain ⟨f, hf, hm⟩ := List.mem_flatMap.1 (h3.mem_iff.1 hm)
  obtain ⟨x, hx, rfl⟩ := List.mem_map.1 hm
  exact okV_svc ((hF f hf).v x hx)
end Go.Proofs.Ythagpbkmakocjaa
namespace Go.Proofs.Ythagpbkmakocjaa
set_option linter.all false
open Go Go.Eng
set_option maxRecDepth 100000 in
theorem aw' : M_wireschemalaw11_awake = some true := by kernel_rfl
def srtB {α : Type} (nm : α → ByteArray) (l : List α) : List α := sortR (fun x y => cmpI (nm x) (nm y)) l
theorem srtB_len {α : Type} (nm : α → ByteArray) (l : List α) : (srtB nm l).length = l.length := sortR_length l
theorem m30p (ms : List Msg) (es : List Enm) (us : List Svc) (l1 : ms.length ≤ 1048576) (l2 : es.length ≤ 1048576) (l3 : us.length ≤ 1048576) : M_link_sorted ms es us = some (srtB (fun y : Msg => y.name) ms, srtB (fun y : Enm => y.name) es, srtB (fun y : Svc => y.name) us) := by
 have s1 := m59 (mer123 fun x y => m60 x y) (fun x y => m60 x y) ms l1
 have s2 := m59 (mer123 fun x y => m63 x y) (fun x y => m63 x y) es l2
 have s3 := m59 (mer123 fun x y => m65 x y) (fun x y => m65 x y) us l3
 rw [stable_sortR (cmp_law fun y : Msg => y.name)] at s1
 rw [stable_sortR (cmp_law fun y : Enm => y.name)] at s2
 rw [stable_sortR (cmp_law fun y : Svc => y.name)] at s3
 unfold M_link_sorted srtB
 dsimp only [T30_1, T30_2, T30_3, T30_4, T30_5, T30_6, T30_7, T30_8, br, vz, vs, wa, wm, wi, lc, ln, lf, lfe, lxe, fl, lr, vw]
 simp only [s1, s2, s3, Option.bind_some, sortR_length, and_self, if_true]
def linkS (fs : List Fil) : Scm := if (linkE fs).2 = 0 then ⟨srtB (fun y => y.name) (fs.flatMap (msgsF fs)), srtB (fun y => y.name) (enmsAll fs), srtB (fun y => y.name) (fs.flatMap (svcsF fs))⟩ else ⟨[], [], []⟩
theorem link_p {fs : List Fil} (h : bkLL (fs.map eFil) ≤ 1048576) :
  M_link_Link fs = some (linkS fs, linkE fs) ∧ OkS (linkS fs) ∧ ((linkE fs).2 = 0 → Base0 fs ∧ fs.findSome? (errF fs) = none ∧ ¬ bigS fs) := by
 obtain ⟨hA, hG, hO⟩ := szs h
 have hi : ∀ f ∈ fs, f.imports.length < 2147483648 := fun f hf => (hA.f f hf).is
 obtain ⟨l1, o1⟩ := m22 fs hi hA.n
 have c1 := m23 fs hA
 rw [cnt_eq] at c1
 have key : M_link_Link fs = some (linkS fs, linkE fs) ∧ ((linkE fs).2 = 0 → Base0 fs ∧ fs.findSome? (errF fs) = none ∧ ¬ bigS fs) := by
  unfold M_link_Link linkS linkE
  simp only [T9_1, T9_2, T9_3, T9_4, T9_5, T9_6, T9_7, T9_8, T9_9, T9_10, T9_11, T9_12, T9_13, T9_14, T9_15, T9_16, T9_17, T9_18, T9_19, T9_20, T9_21, T9_22, T9_23, T9_24, T9_25, T9_26, T9_27, T9_28, T9_29, T9_30, T9_31, T9_32, T9_33, T9_34, T9_35, T9_36, T9_37, T9_38, al, frt, stp, br, ix, ixi, vz, vy, vw, vs, vg, v2, lr, lrt, ln, lxe, lc, lf, lfe, ap, aq, a0, a1, ad, cl, cs, cf, wa, wi, ir, ca, cp, dd, mv, st, ss, sL, Bd.c, Bd.vl, o1, c1, Option.bind_some]
  by_cases h0 : (ordS fs).2 = 0
  ·simp only [h0, decide_true, Bool.not_true, Bool.false_eq_true, if_false, ne_eq, not_true_eq_false]
   by_cases hb : bigS fs
   ·simp only [hb, if_true, decide_true]
    exact ⟨rfl, fun h => absurd h (by decide)⟩
   ·simp only [hb, if_false, decide_false, Bool.false_eq_true]
    cases hd : dup0 fs with
    | some x => exact ⟨rfl, fun h => absurd h (by decide : ¬ (9 : Int) = 0)⟩
    | none =>
     have hB := base0 hA hG (ordS_zero h0) hd
     have hM : (msgsAll fs).length < 4611686018427387904 := by
      have e : (msgsAll fs).length = sum1 fs := len_fm own1 _ len_own1 fs
      have := hA.t
      have := sums fs
      omega
     have hE : (enmsAll fs).length < 549755813888 := by
      have e := len_enmsF fs
      have := hA.t
      have := sums fs
      omega
     simp only [Option.map_none, Option.getD_none, Bool.false_eq_true, if_false, m9_1 fs hA, m26 (enmsAll fs) hE, m9_3 fs hB _ hM (by omega), Option.bind_some, Sum.elim_inl, decide_true, Bool.not_true]
     cases he : fs.findSome? (errF fs) with
     | some r =>
      have hr : r.2 ≠ 0 := by
       obtain ⟨f, _, hf⟩ := List.exists_of_findSome?_eq_some he
       exact errF_ne hf
      simp only [hr, if_false]
      exact ⟨rfl, fun h => absurd h id⟩
     | none =>
      unfold bigS at hb
      simp only [Option.elim, Sum.elim_inl, Option.bind_some, m30p (fs.flatMap (msgsF fs)) (enmsAll fs) (fs.flatMap (svcsF fs)) (by rw [len_msgsF]; omega) (by rw [len_enmsF]; omega) (by rw [len_svcsF]; omega)]
      exact ⟨rfl, fun _ => ⟨hB, trivial, id⟩⟩
  ·simp only [h0, decide_false, Bool.not_false, if_true, if_false, ne_eq, not_false_eq_true]
   exact ⟨trivial, fun h => h.elim⟩
 refine ⟨key.1, ?_, key.2⟩
 unfold linkS
 by_cases h0 : (linkE fs).2 = 0
 ·obtain ⟨_, _, e⟩ := key.2 h0
  rw [if_pos h0]
  exact okS_link hO e (sortR_perm _) (sortR_perm _) (sortR_perm _)
 ·rw [if_neg h0]
  refine ⟨by decide, by decide, by decide, ?_, ?_, ?_⟩ <;> (intro m hm; cases hm)
end Go.Proofs.Ythagpbkmakocjaa
namespace Go.Proofs.Ythagpbkmakocjaa
set_option linter.all false
open Go Go.Eng
def raw3 (_ : List Fld) (d : Fld) : Option Bool := if (decide (d.type.kind = (10 : Int)) || decide (d.type.kind = (9 : Int))) = true then some true else none
def raw2 (_ : List Msg) (m : Msg) : Option Bool := firstR raw3 [] m.fields
def raw1 (_ : List Fil) (f : Fil) : Option Bool := firstR raw2 [] f.messages
theorem m13 (fs : List Fil) (h : fs.length ≤ 1048576) (h1 : ∀ f ∈ fs, f.messages.length < 2147483648) (h2 : ∀ f ∈ fs, ∀ m ∈ f.messages, m.fields.length < 2147483648) : M_wireschemalaw11_raw fs = some ((firstR raw1 [] fs).elim false id) := by
 have q3 : ∀ (v1 : Nat) (f : Fil) (v3 : Nat) (m : Msg), m.fields.length < 2147483648 → loopM (B13_3 fs v1 f v3 m) big 0 = some ((firstR raw3 [] m.fields).elim (.inl ()) .inr) := fun v1 f v3 m hm =>
  loop_pre (B := B13_3 fs v1 f v3 m) (N := big) m.fields (fun _ => ()) raw3 (fun i _ => i) (fun _ => ()) (hN := big_gt (by omega)) (he := by simp [B13_3, T13_1, T13_2, T13_3, T13_4, T13_5, T13_6, T13_7, T13_8, T13_9, T13_10, al, frt, stp, br, ix, ixi, vz, vy, vw, vs, vg, v2, lr, lrt, ln, lxe, lc, lf, lfe, ap, aq, a0, a1, ad, cl, cs, cf, wa, wi, ir, ca, cp, dd, mv, st, ss, sL, Bd.c, Bd.vl]) (hs := fun i x hx => by
   have g1 := at_lt hx
   have g0 := (List.getElem?_eq_some_iff.1 hx).1
   have g2 : i + 1 < 9223372036854775808 := by omega
   dsimp only [B13_3, T13_1, T13_2, T13_3, T13_4, T13_5, T13_6, T13_7, T13_8, T13_9, T13_10, al, frt, stp, br, ix, ixi, vz, vy, vw, vs, vg, v2, lr, lrt, ln, lxe, lc, lf, lfe, ap, aq, a0, a1, ad, cl, cs, cf, wa, wi, ir, ca, cp, dd, mv, st, ss, sL, Bd.c, Bd.vl, raw3]
   simp only [g1, g2, hx, decide_true, if_true, Option.bind_some]
   by_cases hc : (decide (x.type.kind = (10 : Int)) || decide (x.type.kind = (9 : Int))) = true
   ·rw [if_pos hc, if_pos hc]
   ·rw [if_neg hc, if_neg hc])
 have q2 : ∀ (v1 : Nat) (f : Fil), f ∈ fs → loopM (B13_2 fs v1 f) big 0 = some ((firstR raw2 [] f.messages).elim (.inl ()) .inr) := fun v1 f hf =>
  loop_pre (B := B13_2 fs v1 f) (N := big) f.messages (fun _ => ()) raw2 (fun i _ => i) (fun _ => ()) (hN := big_gt (by have := h1 f hf; omega)) (he := by simp [B13_2, T13_1, T13_2, T13_3, T13_4, T13_5, T13_6, T13_7, T13_8, T13_9, T13_10, al, frt, stp, br, ix, ixi, vz, vy, vw, vs, vg, v2, lr, lrt, ln, lxe, lc, lf, lfe, ap, aq, a0, a1, ad, cl, cs, cf, wa, wi, ir, ca, cp, dd, mv, st, ss, sL, Bd.c, Bd.vl]) (hs := fun i x hx => by
   have g1 := at_lt hx
   have g0 := (List.getElem?_eq_some_iff.1 hx).1
   have g2 : i + 1 < 9223372036854775808 := by have := h1 f hf; omega
   have g3 := q3 v1 f i x (h2 f hf x (List.mem_of_getElem? hx))
   dsimp only [B13_2, T13_1, T13_2, T13_3, T13_4, T13_5, T13_6, T13_7, T13_8, T13_9, T13_10, al, frt, stp, br, ix, ixi, vz, vy, vw, vs, vg, v2, lr, lrt, ln, lxe, lc, lf, lfe, ap, aq, a0, a1, ad, cl, cs, cf, wa, wi, ir, ca, cp, dd, mv, st, ss, sL, Bd.c, Bd.vl]
   simp only [g1, g2, g3, hx, decide_true, if_true, Option.bind_some, raw2]
   cases firstR raw3 [] x.fields <;> rfl)
 have q1 : loopM (B13_1 fs) big 0 = some ((firstR raw1 [] fs).elim (.inl ()) .inr) :=
  loop_pre (B := B13_1 fs) (N := big) fs (fun _ => ()) raw1 (fun i _ => i) (fun _ => ()) (hN := big_gt (by omega)) (he := by simp [B13_1, T13_1, T13_2, T13_3, T13_4, T13_5, T13_6, T13_7, T13_8, T13_9, T13_10, al, frt, stp, br, ix, ixi, vz, vy, vw, vs, vg, v2, lr, lrt, ln, lxe, lc, lf, lfe, ap, aq, a0, a1, ad, cl, cs, cf, wa, wi, ir, ca, cp, dd, mv, st, ss, sL, Bd.c, Bd.vl]) (hs := fun i x hx => by
   have g1 := at_lt hx
   have g0 := (List.getElem?_eq_some_iff.1 hx).1
   have g2 : i + 1 < 9223372036854775808 := by omega
   have g3 := q2 i x (List.mem_of_getElem? hx)
   dsimp only [B13_1, T13_1, T13_2, T13_3, T13_4, T13_5, T13_6, T13_7, T13_8, T13_9, T13_10, al, frt, stp, br, ix, ixi, vz, vy, vw, vs, vg, v2, lr, lrt, ln, lxe, lc, lf, lfe, ap, aq, a0, a1, ad, cl, cs, cf, wa, wi, ir, ca, cp, dd, mv, st, ss, sL, Bd.c, Bd.vl]
   simp only [g1, g2, g3, hx, decide_true, if_true, Option.bind_some, raw1]
   cases firstR raw2 [] x.messages <;> rfl)
 unfold M_wireschemalaw11_raw
 simp only [T13_1, T13_2, T13_3, T13_4, T13_5, T13_6, T13_7, T13_8, T13_9, T13_10, al, frt, stp, br, ix, ixi, vz, vy, vw, vs, vg, v2, lr, lrt, ln, lxe, lc, lf, lfe, ap, aq, a0, a1, ad, cl, cs, cf, wa, wi, ir, ca, cp, dd, mv, st, ss, sL, Bd.c, Bd.vl, q1, Option.bind_some]
 cases firstR raw1 [] fs <;> rfl
theorem firstR_all {α ρ : Type} {R : List α → α → Option ρ} {l : List α} (h : firstR R [] l = none) (hR : ∀ p q x, R p x = R q x) {x : α} (hx : x ∈ l) : R [] x = none := by
 obtain ⟨i, hi⟩ := List.mem_iff_getElem?.1 hx
 rw [hR [] ([] ++ l.take i)]
 exact firstR_noneP h i x hi
theorem raw_none {fs : List Fil} (h : firstR raw1 [] fs = none) : ∀ f ∈ fs, ∀ m ∈ f.messages, ∀ d ∈ m.fields, d.type.kind ≠ 10 ∧ d.type.kind ≠ 9 := fun f hf m hm d hd => by
 have a := firstR_all (firstR_all (firstR_all h (fun _ _ _ => rfl) hf) (fun _ _ _ => rfl) hm) (fun _ _ _ => rfl) hd
 unfold raw3 at a
 split at a
 ·cases a
 ·rename_i k
  exact ⟨fun e => k (by simp [e]), fun e => k (by simp [e])⟩
theorem prev_ok {α : Type} [Rw α] (nm : α → ByteArray) {l : List α} (hs : l.Pairwise fun x y => sLt (nm x) (nm y) = true) {i : Nat} {x : α} (hx : l[i]? = some x) :
  (decide ((0 : Int) < (i : Int)) && !sLt (nm (l.getD ((i : Int) - 1).toNat Rw.z)) (nm x)) = false ∧ (decide ((0 : Int) < (i : Int)) = true → 0 ≤ (i : Int) - 1 ∧ (i : Int) - 1 < (l.length : Int)) := by
 obtain ⟨h1, h2⟩ := List.getElem?_eq_some_iff.1 hx
 refine ⟨?_, fun h => by have := of_decide_eq_true h; omega⟩
 cases i with
 | zero => simp
 | succ k =>
  have e : (((k + 1 : Nat) : Int) - 1).toNat = k := by omega
  have e2 : l.getD k Rw.z = l[k] := by rw [List.getD_eq_getElem?_getD, List.getElem?_eq_getElem (by omega)]; rfl
  have := List.pairwise_iff_getElem.1 hs k (k + 1) (by omega) h1 (by omega)
  rw [h2] at this
  rw [e, e2, this]
  simp
structure Res (s : Scm) : Prop where
 m : s.messages.Pairwise fun x y => sLt x.name y.name = true
 e : s.enums.Pairwise fun x y => sLt x.name y.name = true
 v : s.services.Pairwise fun x y => sLt x.name y.name = true
 f : ∀ x ∈ s.messages, ∀ d ∈ x.fields, d.type.kind ≠ 0 ∧ (d.type.kind = 10 → d.type.name ∈ s.messages.map fun x => x.name) ∧ (d.type.kind = 9 → d.type.name ∈ s.enums.map fun x => x.name)
 t : ∀ x ∈ s.services, ∀ d ∈ x.methods, d.inn ∈ (s.messages.map fun x => x.name) ∧ d.out ∈ s.messages.map fun x => x.name
theorem r4_1 (y3 : Scm × ByteArray × Int) (hl : y3.1.messages.length < 549755813887) (hs : y3.1.messages.Pairwise fun x y => sLt x.name y.name = true) : loopM (B4_1 y3) big ([], 0) = some (.inl (y3.1.messages.map fun x => x.name)) :=
 loop_pre0 (B := B4_1 y3) (N := big) y3.1.messages (fun p : List Msg => p.map fun x : Msg => x.name) (fun i b => (b, i)) id (hN := big_gt (by omega)) (he := by simp [B4_1, T4_1, T4_2, T4_3, T4_4, T4_5, T4_6, T4_7, T4_8, T4_9, T4_10, T4_11, T4_12, T4_13, T4_14, T4_15, T4_16, T4_17, T4_18, T4_19, al, frt, stp, br, ix, ixi, vz, vy, vw, vs, vg, v2, lr, lrt, ln, lxe, lc, lf, lfe, ap, aq, a0, a1, ad, cl, cs, cf, wa, wi, ir, ca, cp, dd, mv, st, ss, sL, Bd.c, Bd.vl]) (hs := fun i x hx => by
  have g1 := at_lt hx
  have g0 := (List.getElem?_eq_some_iff.1 hx).1
  obtain ⟨p1, p2⟩ := prev_ok (fun x : Msg => x.name) hs hx
  have g2 : i + 1 < 9223372036854775808 := by omega
  have g3 : i < 549755813887 := by omega
  have g4 : decide ((0 : Int) < (i : Int)) = true → -9223372036854775808 ≤ (i : Int) - 1 ∧ (i : Int) - 1 < 9223372036854775808 := fun _ => by omega
  have g5 : ((y3.1.messages.take i).map fun x => x.name).length = i := by rw [List.length_map, List.length_take]; omega
  dsimp only [B4_1, T4_1, T4_2, T4_3, T4_4, T4_5, T4_6, T4_7, T4_8, T4_9, T4_10, T4_11, T4_12, T4_13, T4_14, T4_15, T4_16, T4_17, T4_18, T4_19, al, frt, stp, br, ix, ixi, vz, vy, vw, vs, vg, v2, lr, lrt, ln, lxe, lc, lf, lfe, ap, aq, a0, a1, ad, cl, cs, cf, wa, wi, ir, ca, cp, dd, mv, st, ss, sL, Bd.c, Bd.vl, ixg]
  simp only [g1, decide_true, if_true, hx, Option.bind_some]
  rw [if_pos g4, if_pos p2, p1]
  simp only [g5, g2, g3, Bool.false_eq_true, if_false, if_true, List.map_append]
  rfl)
theorem r4_2 (y3 : Scm × ByteArray × Int) (r9 : List ByteArray) (hl : y3.1.enums.length < 549755813887) (hs : y3.1.enums.Pairwise fun x y => sLt x.name y.name = true) : loopM (B4_2 y3 r9) big ([], 0) = some (.inl (y3.1.enums.map fun x => x.name)) :=
 loop_pre0 (B := B4_2 y3 r9) (N := big) y3.1.enums (fun p : List Enm => p.map fun x : Enm => x.name) (fun i b => (b, i)) id (hN := big_gt (by omega)) (he := by simp [B4_2, T4_1, T4_2, T4_3, T4_4, T4_5, T4_6, T4_7, T4_8, T4_9, T4_10, T4_11, T4_12, T4_13, T4_14, T4_15, T4_16, T4_17, T4_18, T4_19, al, frt, stp, br, ix, ixi, vz, vy, vw, vs, vg, v2, lr, lrt, ln, lxe, lc, lf, lfe, ap, aq, a0, a1, ad, cl, cs, cf, wa, wi, ir, ca, cp, dd, mv, st, ss, sL, Bd.c, Bd.vl]) (hs := fun i x hx => by
  have g1 := at_lt hx
  have g0 := (List.getElem?_eq_some_iff.1 hx).1
  obtain ⟨p1, p2⟩ := prev_ok (fun x : Enm => x.name) hs hx
  have g2 : i + 1 < 9223372036854775808 := by omega
  have g3 : i < 549755813887 := by omega
  have g4 : decide ((0 : Int) < (i : Int)) = true → -9223372036854775808 ≤ (i : Int) - 1 ∧ (i : Int) - 1 < 9223372036854775808 := fun _ => by omega
  have g5 : ((y3.1.enums.take i).map fun x => x.name).length = i := by rw [List.length_map, List.length_take]; omega
  dsimp only [B4_2, T4_1, T4_2, T4_3, T4_4, T4_5, T4_6, T4_7, T4_8, T4_9, T4_10, T4_11, T4_12, T4_13, T4_14, T4_15, T4_16, T4_17, T4_18, T4_19, al, frt, stp, br, ix, ixi, vz, vy, vw, vs, vg, v2, lr, lrt, ln, lxe, lc, lf, lfe, ap, aq, a0, a1, ad, cl, cs, cf, wa, wi, ir, ca, cp, dd, mv, st, ss, sL, Bd.c, Bd.vl, ixg]
  simp only [g1, decide_true, if_true, hx, Option.bind_some]
  rw [if_pos g4, if_pos p2, p1]
  simp only [g5, g2, g3, Bool.false_eq_true, if_false, if_true, List.map_append]
  rfl)
theorem has_in {l : List ByteArray} {x : ByteArray} (hl : l.length < 4611686018427387904) (h : x ∈ l) : M_wireschemalaw11_has l x = some true := by
 rw [m14 l x hl]
 congr 1
 rw [List.any_eq_true]
 exact ⟨x, h, by simp⟩
section
variable (y3 : Scm × ByteArray × Int) (ms es : List ByteArray) (n1 : ms.length < 4611686018427387904) (n2 : es.length < 4611686018427387904)
include n1
section
include n2
theorem r4_4 (v15 : Nat) (x : Msg) (hO : OkM x) (hf : ∀ d ∈ x.fields, d.type.kind ≠ 0 ∧ (d.type.kind = 10 → d.type.name ∈ ms) ∧ (d.type.kind = 9 → d.type.name ∈ es)) : loopM (B4_4 y3 ms es v15 x) big 0 = some (.inl ()) :=
 loop_pre0 (B := B4_4 y3 ms es v15 x) (N := big) x.fields (fun _ => ()) (fun i _ => i) (fun _ => ()) (hN := big_gt hO.f) (he := by simp [B4_4, T4_1, T4_2, T4_3, T4_4, T4_5, T4_6, T4_7, T4_8, T4_9, T4_10, T4_11, T4_12, T4_13, T4_14, T4_15, T4_16, T4_17, T4_18, T4_19, al, frt, stp, br, ix, ixi, vz, vy, vw, vs, vg, v2, lr, lrt, ln, lxe, lc, lf, lfe, ap, aq, a0, a1, ad, cl, cs, cf, wa, wi, ir, ca, cp, dd, mv, st, ss, sL, Bd.c, Bd.vl]) (hs := fun i d hd => by
  have g1 := at_lt hd
  have g0 := (List.getElem?_eq_some_iff.1 hd).1
  have g3 := hO.f
  have g2 : i + 1 < 9223372036854775808 := by omega
  obtain ⟨k1, k2, k3⟩ := hf d (List.mem_of_getElem? hd)
  dsimp only [B4_4, T4_3, al, frt, stp, br, ix, ixi, vz, vy, vw, vs, vg, v2, lr, lrt, ln, lxe, lc, lf, lfe, ap, aq, a0, a1, ad, cl, cs, cf, wa, wi, ir, ca, cp, dd, mv, st, ss, sL, Bd.c, Bd.vl, clg]
  simp only [g1, hd, decide_true, if_true, Option.bind_some]
  by_cases e10 : d.type.kind = 10
  ·have h1 := has_in n1 (k2 e10)
   simp [e10, h1, g2]
  ·by_cases e9 : d.type.kind = 9
   ·have h1 := has_in n2 (k3 e9)
    simp [e9, h1, g2]
   ·simp [e9, e10, k1, g2])
theorem r4_3 (hl : y3.1.messages.length ≤ 64) (hO : ∀ x ∈ y3.1.messages, OkM x) (hf : ∀ x ∈ y3.1.messages, ∀ d ∈ x.fields, d.type.kind ≠ 0 ∧ (d.type.kind = 10 → d.type.name ∈ ms) ∧ (d.type.kind = 9 → d.type.name ∈ es)) : loopM (B4_3 y3 ms es) big 0 = some (.inl ()) :=
 loop_pre0 (B := B4_3 y3 ms es) (N := big) y3.1.messages (fun _ => ()) (fun i _ => i) (fun _ => ()) (hN := big_gt (by omega)) (he := by simp [B4_3, T4_1, T4_2, T4_3, T4_4, T4_5, T4_6, T4_7, T4_8, T4_9, T4_10, T4_11, T4_12, T4_13, T4_14, T4_15, T4_16, T4_17, T4_18, T4_19, al, frt, stp, br, ix, ixi, vz, vy, vw, vs, vg, v2, lr, lrt, ln, lxe, lc, lf, lfe, ap, aq, a0, a1, ad, cl, cs, cf, wa, wi, ir, ca, cp, dd, mv, st, ss, sL, Bd.c, Bd.vl]) (hs := fun i x hx => by
  have g1 := at_lt hx
  have g0 := (List.getElem?_eq_some_iff.1 hx).1
  have g2 : i + 1 < 9223372036854775808 := by omega
  have hm := List.mem_of_getElem? hx
  have g3 := r4_4 y3 ms es n1 n2 i x (hO x hm) (hf x hm)
  dsimp only [B4_3, T4_6, T4_5, T4_4, al, frt, stp, br, ix, ixi, vz, vy, vw, vs, vg, v2, lr, lrt, ln, lxe, lc, lf, lfe, ap, aq, a0, a1, ad, cl, cs, cf, wa, wi, ir, ca, cp, dd, mv, st, ss, sL, Bd.c, Bd.vl]
  simp only [g1, g2, g3, hx, decide_true, if_true, Option.bind_some, Sum.elim_inl])
end
theorem r4_6 (v21 : Nat) (x : Svc) (hO : OkV x) (hf : ∀ d ∈ x.methods, d.inn ∈ ms ∧ d.out ∈ ms) : loopM (B4_6 y3 ms v21 x) big 0 = some (.inl ()) :=
 loop_pre0 (B := B4_6 y3 ms v21 x) (N := big) x.methods (fun _ => ()) (fun i _ => i) (fun _ => ()) (hN := big_gt hO.m) (he := by simp [B4_6, T4_1, T4_2, T4_3, T4_4, T4_5, T4_6, T4_7, T4_8, T4_9, T4_10, T4_11, T4_12, T4_13, T4_14, T4_15, T4_16, T4_17, T4_18, T4_19, al, frt, stp, br, ix, ixi, vz, vy, vw, vs, vg, v2, lr, lrt, ln, lxe, lc, lf, lfe, ap, aq, a0, a1, ad, cl, cs, cf, wa, wi, ir, ca, cp, dd, mv, st, ss, sL, Bd.c, Bd.vl]) (hs := fun i d hd => by
  have g1 := at_lt hd
  have g0 := (List.getElem?_eq_some_iff.1 hd).1
  have g3 := hO.m
  have g2 : i + 1 < 9223372036854775808 := by omega
  obtain ⟨k1, k2⟩ := hf d (List.mem_of_getElem? hd)
  have h1 := has_in n1 k1
  have h2 := has_in n1 k2
  dsimp only [B4_6, T4_7, al, frt, stp, br, ix, ixi, vz, vy, vw, vs, vg, v2, lr, lrt, ln, lxe, lc, lf, lfe, ap, aq, a0, a1, ad, cl, cs, cf, wa, wi, ir, ca, cp, dd, mv, st, ss, sL, Bd.c, Bd.vl, clg]
  simp only [g1, hd, decide_true, if_true, Option.bind_some, h1]
  simp [h2, g2])
theorem r4_5 (hl : y3.1.services.length ≤ 64) (hs : y3.1.services.Pairwise fun x y => sLt x.name y.name = true) (hO : ∀ x ∈ y3.1.services, OkV x) (hf : ∀ x ∈ y3.1.services, ∀ d ∈ x.methods, d.inn ∈ ms ∧ d.out ∈ ms) : loopM (B4_5 y3 ms) big 0 = some (.inl ()) :=
 loop_pre0 (B := B4_5 y3 ms) (N := big) y3.1.services (fun _ => ()) (fun i _ => i) (fun _ => ()) (hN := big_gt (by omega)) (he := by simp [B4_5, T4_1, T4_2, T4_3, T4_4, T4_5, T4_6, T4_7, T4_8, T4_9, T4_10, T4_11, T4_12, T4_13, T4_14, T4_15, T4_16, T4_17, T4_18, T4_19, al, frt, stp, br, ix, ixi, vz, vy, vw, vs, vg, v2, lr, lrt, ln, lxe, lc, lf, lfe, ap, aq, a0, a1, ad, cl, cs, cf, wa, wi, ir, ca, cp, dd, mv, st, ss, sL, Bd.c, Bd.vl]) (hs := fun i x hx => by
  have g1 := at_lt hx
  have g0 := (List.getElem?_eq_some_iff.1 hx).1
  have g2 : i + 1 < 9223372036854775808 := by omega
  have hm := List.mem_of_getElem? hx
  have g3 := r4_6 y3 ms n1 i x (hO x hm) (hf x hm)
  obtain ⟨p1, p2⟩ := prev_ok (fun x : Svc => x.name) hs hx
  have g4 : decide ((0 : Int) < (i : Int)) = true → -9223372036854775808 ≤ (i : Int) - 1 ∧ (i : Int) - 1 < 9223372036854775808 := fun _ => by omega
  dsimp only [B4_5, T4_10, T4_9, T4_8, al, frt, stp, br, ix, ixi, vz, vy, vw, vs, vg, v2, lr, lrt, ln, lxe, lc, lf, lfe, ap, aq, a0, a1, ad, cl, cs, cf, wa, wi, ir, ca, cp, dd, mv, st, ss, sL, Bd.c, Bd.vl, ixg]
  simp only [g1, hx, decide_true, if_true, Option.bind_some]
  rw [if_pos g4, if_pos p2, p1]
  simp only [g2, g3, Bool.false_eq_true, if_false, if_true, Option.bind_some, Sum.elim_inl])
end
theorem res_walk (s : Scm) (a : ByteArray) (c : Int) (hs : Res s) (hO : OkS s) (l1 : s.messages.length ≤ 64) (l2 : s.enums.length ≤ 64) (l3 : s.services.length ≤ 64) : (T4_18 (s, a, c)).m = some true := by
 have n1 : (s.messages.map fun x => x.name).length < 4611686018427387904 := by rw [List.length_map]; omega
 have n2 : (s.enums.map fun x => x.name).length < 4611686018427387904 := by rw [List.length_map]; omega
 have q1 := r4_1 (s, a, c) (show s.messages.length < _ by omega) hs.m
 have q2 := r4_2 (s, a, c) (s.messages.map fun x => x.name) (show s.enums.length < _ by omega) hs.e
 have q3 := r4_3 (s, a, c) (s.messages.map fun x => x.name) (s.enums.map fun x => x.name) n1 n2 l1 hO.om hs.f
 have q5 := r4_5 (s, a, c) (s.messages.map fun x => x.name) n1 l3 hs.v hO.ov hs.t
 dsimp only at q1 q2 q3 q5
 dsimp only [T4_18, T4_17, T4_16, T4_15, T4_14, T4_13, T4_12, T4_11, al, frt, stp, br, ix, ixi, vz, vy, vw, vs, vg, v2, lr, lrt, ln, lxe, lc, lf, lfe, ap, aq, a0, a1, ad, cl, cs, cf, wa, wi, ir, ca, cp, dd, mv, st, ss, sL, Bd.c, Bd.vl]
 simp only [q1, q2, q3, q5, aw', Option.bind_some, Sum.elim_inl]
theorem srtB_strict {α : Type} (nm : α → ByteArray) {l : List α} (h : (l.map nm).Nodup) : (srtB nm l).Pairwise fun x y => sLt (nm x) (nm y) = true := by
 have h1 := sortR_sorted (cmp_law nm) l
 have h2 : ((srtB nm l).map nm).Nodup := ((sortR_perm l).map nm).nodup_iff.2 h
 have h3 := List.pairwise_map.1 h2
 unfold srtB at *
 refine (h1.and h3).imp fun {x y} hxy => ?_
 have : sLt (nm y) (nm x) = false := by
  cases hh : sLt (nm y) (nm x) with
  | false => rfl
  | true => exact absurd ((cmpI_lt _ _).2 hh) hxy.1
 exact sLt_tot this fun e => hxy.2 e.symm
theorem errN_none {α β : Type} {g : α → β × Int} {nm : α → ByteArray} {l : List α} (h : errN g nm l = none) : ∀ x ∈ l, (g x).2 = 0 := fun x hx => by
 unfold errN at h
 have := List.findSome?_eq_none_iff.1 h x hx
 split at this
 ·assumption
 ·cases this
theorem msgS_ok {known msgs : List ByteArray} {en : List Enm} {space : ByteArray} {m : Msg} (h : (msgS known msgs en space m).2 = 0) : (∀ d ∈ m.fields, (fieldS known msgs en (joinB space m.name) d).2 = 0) ∧ (msgS known msgs en space m).1 = { m with name := joinB space m.name, fields := m.fields.map fun d => (fieldS known msgs en (joinB space m.name) d).1 } := by
 unfold msgS at h ⊢
 split at h
 ·rename_i c hc
  exfalso
  unfold errS at hc
  obtain ⟨x, _, hx⟩ := List.exists_of_findSome?_eq_some hc
  split at hx
  ·cases hx
  ·rename_i k; cases hx; exact k h
 ·rename_i hc
  exact ⟨fun d hd => errS_none hc hd, rfl⟩
theorem svcS_ok {known msgs : List ByteArray} {space : ByteArray} {m : Svc} (h : (svcS known msgs space m).2 = 0) : (∀ d ∈ m.methods, (mthS known msgs space d).2 = 0) ∧ (svcS known msgs space m).1 = { m with name := joinB space m.name, methods := m.methods.map fun d => (mthS known msgs space d).1 } := by
 unfold svcS at h ⊢
 split at h
 ·rename_i c hc
  exfalso
  unfold errS at hc
  obtain ⟨x, _, hx⟩ := List.exists_of_findSome?_eq_some hc
  split at hx
  ·cases hx
  ·rename_i k; cases hx; exact k h
 ·rename_i hc
  exact ⟨fun d hd => errS_none hc hd, rfl⟩
theorem errF_none {fs : List Fil} (h : fs.findSome? (errF fs) = none) {f : Fil} (hf : f ∈ fs) : (∀ m ∈ f.messages, (mS fs f m).2 = 0) ∧ ∀ v ∈ f.services, (vS' fs f v).2 = 0 := by
 have h1 := List.findSome?_eq_none_iff.1 h f hf
 unfold errF at h1
 rw [Option.or_eq_none_iff] at h1
 exact ⟨errN_none h1.1, errN_none h1.2⟩
theorem names_m {fs : List Fil} (h : fs.findSome? (errF fs) = none) : (fs.flatMap (msgsF fs)).map (fun x => x.name) = msgsAll fs := by
 have key : ∀ l : List Fil, (∀ f ∈ l, f ∈ fs) → (l.flatMap (msgsF fs)).map (fun x => x.name) = l.flatMap own1 := fun l => by
  induction l with
  | nil => intro _; rfl
  | cons f l ih =>
   intro hl
   rw [List.flatMap_cons, List.flatMap_cons, List.map_append, ih fun g hg => hl g (List.mem_cons_of_mem _ hg)]
   congr 1
   unfold msgsF own1
   rw [List.map_map]
   refine List.map_congr_left fun m hm => ?_
   have := (msgS_ok ((errF_none h (hl f (List.mem_cons_self ..))).1 m hm)).2
   show (mS fs f m).1.name = _
   unfold mS
   rw [this]
 exact key fs fun _ h => h
theorem names_v {fs : List Fil} (h : fs.findSome? (errF fs) = none) : (fs.flatMap (svcsF fs)).map (fun x => x.name) = fs.flatMap own3 := by
 have key : ∀ l : List Fil, (∀ f ∈ l, f ∈ fs) → (l.flatMap (svcsF fs)).map (fun x => x.name) = l.flatMap own3 := fun l => by
  induction l with
  | nil => intro _; rfl
  | cons f l ih =>
   intro hl
   rw [List.flatMap_cons, List.flatMap_cons, List.map_append, ih fun g hg => hl g (List.mem_cons_of_mem _ hg)]
   congr 1
   unfold svcsF own3
   rw [List.map_map]
   refine List.map_congr_left fun m hm => ?_
   have := (svcS_ok ((errF_none h (hl f (List.mem_cons_self ..))).2 m hm)).2
   show (vS' fs f m).1.name = _
   unfold vS'
   rw [this]
 exact key fs fun _ h => h
theorem names_e (fs : List Fil) : (enmsAll fs).map (fun e => e.name) = fs.flatMap own2 := by
 unfold enmsAll
 induction fs with
 | nil => rfl
 | cons f l ih => rw [List.flatMap_cons, List.flatMap_cons, List.map_append, ih]; simp [own2]
theorem sub_fm {g k : Fil → List ByteArray} (h : ∀ f, (g f).Sublist (k f)) : ∀ fs : List Fil, (fs.flatMap g).Sublist (fs.flatMap k)
 | [] => List.Sublist.refl _
 | f :: l => by rw [List.flatMap_cons, List.flatMap_cons]; exact List.Sublist.append (h f) (sub_fm h l)
theorem nodups {fs : List Fil} (h : (namesAll fs).Nodup) : (msgsAll fs).Nodup ∧ (fs.flatMap own2).Nodup ∧ (fs.flatMap own3).Nodup :=
 ⟨h.sublist (sub_fm (fun f => by unfold namesOf; rw [List.append_assoc]; exact List.sublist_append_left _ _) fs), h.sublist (sub_fm (fun f => by unfold namesOf; exact (List.sublist_append_right (own1 f) _).trans (List.sublist_append_left _ _)) fs),
  h.sublist (sub_fm (fun f => by unfold namesOf; exact List.sublist_append_right _ _) fs)⟩
theorem dup_of {fs : List Fil} (h : (linkE fs).2 = 0) : (namesAll fs).Nodup := by
 unfold linkE at h
 split at h
 ·rename_i k; exact absurd h k
 ·split at h
  ·exact absurd h (by decide)
  ·split at h
   ·exact absurd h (by decide : ¬ (9 : Int) = 0)
   ·rename_i hd
    exact (dup_none hd).1
theorem fieldS_ok {known msgs : List ByteArray} {en : List Enm} {scope : ByteArray} {d : Fld} (h : (fieldS known msgs en scope d).2 = 0) (h10 : d.type.kind ≠ 10) (h9 : d.type.kind ≠ 9) :
  (fieldS known msgs en scope d).1.type.kind ≠ 0 ∧ ((fieldS known msgs en scope d).1.type.kind = 10 → (fieldS known msgs en scope d).1.type.name ∈ msgs) ∧ ((fieldS known msgs en scope d).1.type.kind = 9 → (fieldS known msgs en scope d).1.type.name ∈ en.map fun e => e.name) := by
 unfold fieldS at h ⊢
 by_cases k0 : d.type.kind = 0
 ·rw [if_pos k0] at h ⊢
  by_cases k1 : (resB scope d.type.name known).2 = false
  ·rw [if_pos k1] at h; exact absurd h (by decide : ¬ (8 : Int) = 0)
  ·rw [if_neg k1] at h ⊢
   by_cases k2 : memB msgs (resB scope d.type.name known).1 = true
   ·rw [if_pos k2] at h ⊢
    by_cases k3 : d.hasDefault = true
    ·rw [if_pos k3] at h; exact absurd h (by decide : ¬ (12 : Int) = 0)
    ·rw [if_neg k3]
     exact ⟨(by decide : ¬ (10 : Int) = 0), fun _ => memB_iff.1 k2, fun e => absurd e (by decide : ¬ (10 : Int) = 9)⟩
   ·rw [if_neg k2] at h ⊢
    cases hf : en.find? (fun e => decide (e.name = (resB scope d.type.name known).1)) with
    | none => rw [hf] at h; exact absurd h (by decide : ¬ (12 : Int) = 0)
    | some e =>
     rw [hf] at h
     have hn : (resB scope d.type.name known).1 ∈ en.map fun e => e.name := List.mem_map.2 ⟨e, List.mem_of_find?_eq_some hf, by simpa using List.find?_some hf⟩
     dsimp only at h ⊢
     by_cases k3 : d.hasDefault = false
     ·rw [if_pos k3]
      exact ⟨(by decide : ¬ (9 : Int) = 0), fun e => absurd e (by decide : ¬ (9 : Int) = 10), fun _ => hn⟩
     ·rw [if_neg k3] at h ⊢
      by_cases k4 : d.dflt.kind ≠ 9
      ·rw [if_pos k4] at h; exact absurd h (by decide : ¬ (12 : Int) = 0)
      ·rw [if_neg k4] at h ⊢
       cases hi : e.items.find? (fun i => decide (i.name = d.dflt.text)) with
       | none => rw [hi] at h; exact absurd h (by decide : ¬ (16 : Int) = 0)
       | some i => exact ⟨(by decide : ¬ (9 : Int) = 0), fun e => absurd e (by decide : ¬ (9 : Int) = 10), fun _ => hn⟩
 ·rw [if_neg k0] at h ⊢
  have key : ∀ x : Fld × Int, x.1 = d → x.1.type.kind ≠ 0 ∧ (x.1.type.kind = 10 → x.1.type.name ∈ msgs) ∧ (x.1.type.kind = 9 → x.1.type.name ∈ en.map fun e => e.name) := fun x hx => by
   rw [hx]; exact ⟨k0, fun e => absurd e h10, fun e => absurd e h9⟩
  refine key _ ?_
  repeat' split
  all_goals rfl
theorem sideS_ok {known msgs : List ByteArray} {space s : ByteArray} (h : (sideS known msgs space s).2 = 0) : (sideS known msgs space s).1 ∈ msgs := by
 unfold sideS at h ⊢
 by_cases k1 : (resB space s known).2 = false
 ·rw [if_pos k1] at h; exact absurd h (by decide : ¬ (8 : Int) = 0)
 ·rw [if_neg k1] at h ⊢
  by_cases k2 : memB msgs (resB space s known).1 = false
  ·rw [if_pos k2] at h; exact absurd h (by decide : ¬ (12 : Int) = 0)
  ·rw [if_neg k2]
   exact memB_iff.1 (by simpa using k2)
theorem mthS_ok {known msgs : List ByteArray} {space : ByteArray} {d : Mth} (h : (mthS known msgs space d).2 = 0) : (mthS known msgs space d).1.inn ∈ msgs ∧ (mthS known msgs space d).1.out ∈ msgs := by
 unfold mthS at h ⊢
 by_cases k1 : (sideS known msgs space d.inn).2 ≠ 0
 ·rw [if_pos k1] at h; exact absurd h k1
 ·rw [if_neg k1] at h ⊢
  by_cases k2 : (sideS known msgs space d.out).2 ≠ 0
  ·rw [if_pos k2] at h; exact absurd h k2
  ·rw [if_neg k2]
   exact ⟨sideS_ok (Decidable.not_not.1 k1), sideS_ok (Decidable.not_not.1 k2)⟩
theorem link_res {fs : List Fil} (h0 : (linkE fs).2 = 0) (he : fs.findSome? (errF fs) = none) (hr : ∀ f ∈ fs, ∀ m ∈ f.messages, ∀ d ∈ m.fields, d.type.kind ≠ 10 ∧ d.type.kind ≠ 9) : Res (linkS fs) := by
 obtain ⟨n1, n2, n3⟩ := nodups (dup_of h0)
 have e1 := names_m he
 have e2 := names_e fs
 have e3 := names_v he
 have inM : ∀ x, x ∈ msgsAll fs → x ∈ (srtB (fun y : Msg => y.name) (fs.flatMap (msgsF fs))).map fun x => x.name := fun x hx => by
  rw [← e1] at hx
  exact ((sortR_perm _).map _).mem_iff.2 hx
 have inE : ∀ x, x ∈ ((enmsAll fs).map fun e => e.name) → x ∈ (srtB (fun y : Enm => y.name) (enmsAll fs)).map fun x => x.name := fun x hx => ((sortR_perm _).map _).mem_iff.2 hx
 unfold linkS
 rw [if_pos h0]
 refine ⟨srtB_strict _ (by rw [e1]; exact n1), srtB_strict _ (by rw [e2]; exact n2), srtB_strict _ (by rw [e3]; exact n3), fun x hx d hd => ?_, fun x hx d hd => ?_⟩
 ·obtain ⟨f, hf, hm⟩ := List.mem_flatMap.1 ((sortR_perm _).mem_iff.1 hx)
  obtain ⟨m, hm', rfl⟩ := List.mem_map.1 hm
  obtain ⟨k1, k2⟩ := msgS_ok ((errF_none he hf).1 m hm')
  unfold mS at hd
  rw [k2] at hd
  obtain ⟨d', hd', rfl⟩ := List.mem_map.1 hd
  obtain ⟨a, b, c⟩ := fieldS_ok (k1 d' hd') (hr f hf m hm' d' hd').1 (hr f hf m hm' d' hd').2
  exact ⟨a, fun e => inM _ (b e), fun e => inE _ (c e)⟩
 ·obtain ⟨f, hf, hm⟩ := List.mem_flatMap.1 ((sortR_perm _).mem_iff.1 hx)
  obtain ⟨m, hm', rfl⟩ := List.mem_map.1 hm
  obtain ⟨k1, k2⟩ := svcS_ok ((errF_none he hf).2 m hm')
  unfold vS' at hd
  rw [k2] at hd
  obtain ⟨d', hd', rfl⟩ := List.mem_map.1 hd
  obtain ⟨a, b⟩ := mthS_ok (k1 d' hd')
  exact ⟨inM _ a, inM _ b⟩
theorem LinkResolves_true {fs : List Fil} (h : bkLL (fs.map eFil) ≤ 1048576) : M_wireschemalaw11_LinkResolves fs = some true := by
 obtain ⟨hA, hG, _⟩ := szs h
 obtain ⟨p1, p2, p3⟩ := link_p h
 have r0 := m13 fs hA.n (fun f hf => (hA.f f hf).ms) (fun f hf => (hG f hf).fl)
 unfold M_wireschemalaw11_LinkResolves
 dsimp only [T4_19, al, frt, stp, br, ix, ixi, vz, vy, vw, vs, vg, v2, lr, lrt, ln, lxe, lc, lf, lfe, ap, aq, a0, a1, ad, cl, cs, cf, wa, wi, ir, ca, cp, dd, mv, st, ss, sL, Bd.c, Bd.vl, clg]
 simp only [r0, Option.bind_some]
 cases hr : firstR raw1 [] fs with
 | some b =>
  cases b with
  | true => simp [aw']
  | false =>
   exfalso
   obtain ⟨p, x, hx⟩ := firstR_from hr
   obtain ⟨p, x, hx⟩ := firstR_from hx
   obtain ⟨p, x, hx⟩ := firstR_from hx
   unfold raw3 at hx
   split at hx <;> cases hx
 | none =>
  simp only [Option.elim, Bool.false_eq_true, if_false, p1, Option.bind_some]
  by_cases h0 : (linkE fs).2 = 0
  ·obtain ⟨hB, he, hb⟩ := p3 h0
   simp only [h0, decide_true, Bool.not_true, Bool.false_eq_true, if_false]
   unfold bigS at hb
   have R := link_res h0 he (raw_none hr)
   refine res_walk (linkS fs) (linkE fs).1 (linkE fs).2 R p2 ?_ ?_ ?_ <;> (unfold linkS; rw [if_pos h0])
   ·show (srtB _ _).length ≤ _
    rw [srtB_len, len_msgsF]; omega
   ·show (srtB _ _).length ≤ _
    rw [srtB_len, len_enmsF]; omega
   ·show (srtB _ _).length ≤ _
    rw [srtB_len, len_svcsF]; omega
  ·have e : linkS fs = ⟨[], [], []⟩ := by unfold linkS; rw [if_neg h0]
   simp [h0, e, aw']
end Go.Proofs.Ythagpbkmakocjaa
namespace Go.Proofs.Ythagpbkmakocjaa
set_option linter.all false
open Go Go.Eng Go.ChangeShapes Go.WideShapes Go.ChangeAt Go.RowKit
theorem own : ownKnob Try.prog.godebug = none := by kernel_rfl
namespace LinkResolves
open Go.Proofs.Ythagpbkmakocjaa
set_option maxRecDepth 100000 in
theorem contract (H : Type) (enc : TypeId × Value → H) (W : World) (base : Nat) (args : Array Value) (ds gs : List (DataW H)) (before : List MemPlace)
  (hval : ∀ (j : Nat) t v, Try.f4.params[j]? = some t → args[j]? = some v → Value.okWide Try.prog W .any base t v)
  (hW : DataW.Whole enc Try.prog Try.f4.params.toList Rows.linkResolvesSpec.vars false W args.toList ds gs before) (hk : Rows.uptoSmall H (ds ++ gs) = true) :
  Calls Try.prog 4 args W fun e W' => ∃ v, e = .returned v ∧ Rows.linkResolvesSpec.post enc Try.prog Try.f4 false true false false W args v W' := by
 obtain ⟨p, q, hA0, hV, rfl, hfz, hnd⟩ := id hW
 have hA : DataW.TrodAll enc Try.prog W 0 (fun _ => true) true Try.f4.params.toList args.toList ds p := hA0
 rw [Try.params4] at hA hval
 obtain ⟨v0, vs0, d0, ds0, p0, q0, hargs, rfl, rfl, h0, r0⟩ := trodAll_cons hA
 obtain ⟨rfl, rfl, rfl⟩ := trodAll_nil r0
 obtain rfl : args = #[v0] := by cases args; simp_all
 have hb : Rows.uptoBulkAll ([d0] ++ gs) ≤ 1048576 := of_decide_eq_true hk
 simp only [List.cons_append, List.nil_append, Rows.uptoBulkAll] at hb
 obtain ⟨files, re0, fe0⟩ := arg_slice (e := eFil) (fun n => rd_slice Try.underlying22 (by kernel_rfl : Try.prog.cellsOf 61 = 6) (by decide) (fun _ => rfl) (fun m _ => rd_Fil m)) Try.underlying22 (hval 0 22 v0 rfl rfl) h0
 simp only [bk] at fe0
 obtain ⟨rfl, rfl⟩ := trodVars_none hV
 have A := (K_4 files).k 0 Hp0 true (LinkResolves_true (by omega))
 refine (A.2 (fun _ => ⟨0, 0, 0⟩) (· < W.heap.size) W #[v0] (ok0 _) (args_of (xs := [.d (.list (files.map eFil))]) (vs := [v0]) ⟨re0 _ _ _, trivial⟩)).mono fun e W' ⟨r, v, H', m', S', he, hp, hO, hr, hx⟩ => ?_
 obtain ⟨hp, _⟩ := hp
 subst he
 subst hp
 cases hr
 rename_i hd
 cases hd
 exact ⟨_, rfl, post_true hW rfl (by kernel_rfl) (by rw [Try.params4]; exact (by decide +kernel)) (by kernel_rfl) Try.underlying4 rfl ⟨hx.os, hx.tape, hx.output, hx.size, hx.blk⟩⟩
set_option maxRecDepth 100000 in
theorem lifted (os : Os) (started : os.Started) (H : Type) (enc : TypeId × Value → H) (F : Stop.Interp) :
  ReturnsInHanded {} Try.checked os 4 .any ((Rows.OpenSpec.upto Rows.linkResolvesSpec).pre6 enc Try.prog Try.f4 Rows.linkResolvesUptoRow.domain false) (((Rows.OpenSpec.upto Rows.linkResolvesSpec).at F).post enc Try.prog Try.f4 false true false false) := by
 refine returnsInHanded_of_cond (C := Try.checked) (s := Rows.OpenSpec.upto Rows.linkResolvesSpec) (k := Rows.uptoSmall) rfl own started (by kernel_rfl) Try.func4
  (OpenSpec.witness (enc := enc) (C := Try.checked) (s := Rows.OpenSpec.upto Rows.linkResolvesSpec) (k := Rows.uptoSmall) rfl false ⟨#[], #[.slice none 0 0], []⟩ 8 (by kernel_rfl) (by kernel_rfl) (by kernel_rfl)
   (x := ([.nil], [], [])) (by kernel_rfl) rfl (by kernel_rfl)) ?_
 intro W base args ds gs before hval hW _ hk _
 exact contract H enc W base args ds gs before hval hW hk
theorem holds : Rows.LinkResolvesUptoSaid :=
 OpenClaim.holds_of_cond 4 Try.f4 rfl rfl rfl rfl rfl rfl rfl ⟨rfl, rfl, rfl, rfl, rfl⟩ rfl rfl rfl rfl rfl (by kernel_rfl) Try.func4 (by kernel_rfl)
  (of_decide_eq_true (by kernel_rfl)) (by unfold Func.isWrapper; first | (rw [if_pos (by decide +kernel)]; kernel_rfl) | (rw [if_neg (by decide +kernel)]; exact ⟨rfl, rfl⟩))
  (fun os started H enc _ F => lifted os started H enc F)
end LinkResolves
end Go.Proofs.Ythagpbkmakocjaa
