/-
  What is proved: the second form of wireschemalaw11.LinkTurns: the law returns true and leaves its arguments as they were.
  Condition: the arguments are together of bulk at most 1048576 (the given second form); nothing else.
-/
import Derived.Test.YthagpbkmakocjaaCt24
import Derived.Test.YthagpbkmakocjaaRows
import Derived.WalkKit
import Derived.ProofKit
import Derived.OpenShut
import Derived.JoinedCond
namespace Go.Proofs.Ythagpbkmakocjaa
set_option linter.all false
open Go Go.Eng
structure OkF (f : Fil) : Prop where
 m : ∀ m ∈ f.messages, OkM m
 e : ∀ e ∈ f.enums, OkE e
 v : ∀ v ∈ f.services, OkV v
theorem bk_Fld (d : Fld) : d.type.name.size + bkLL (d.notes.map eNt) ≤ bkL (eFld d) := by
 simp only [eFld, bkL, bk]; omega
theorem bk_Msg (m : Msg) : m.name.size + bkLL (m.fields.map eFld) + bkLL (m.reserved.map eSpn) + bkLL (m.gone.map eStr) + bkLL (m.notes.map eNt) ≤ bkL (eMsg m) := by
 simp only [eMsg, bkL, bk]; omega
theorem bk_Itm (d : Itm) : bkLL (d.notes.map eNt) ≤ bkL (eItm d) := by
 simp only [eItm, bkL, bk]; omega
theorem bk_Enm (m : Enm) : m.name.size + bkLL (m.items.map eItm) + bkLL (m.reserved.map eSpn) + bkLL (m.notes.map eNt) ≤ bkL (eEnm m) := by
 simp only [eEnm, bkL, bk]; omega
theorem bk_Mth (d : Mth) : d.inn.size + d.out.size + bkLL (d.notes.map eNt) ≤ bkL (eMth d) := by
 simp only [eMth, bkL, bk]; omega
theorem bk_Svc (m : Svc) : m.name.size + bkLL (m.methods.map eMth) + bkLL (m.notes.map eNt) ≤ bkL (eSvc m) := by
 simp only [eSvc, bkL, bk]; omega
theorem bk_Fil (f : Fil) : f.name.size + f.space.size + bkLL (f.imports.map eStr) + bkLL (f.messages.map eMsg) + bkLL (f.enums.map eEnm) + bkLL (f.services.map eSvc) ≤ bkL (eFil f) := by
 simp only [eFil, bkL, bk]; omega
theorem okM_of {m : Msg} (h : bkL (eMsg m) ≤ 1048576) : OkM m := by
 have h1 := bk_Msg m
 have a := bk_len (e := eFld) m.fields
 have b := bk_len (e := eSpn) m.reserved
 have c := bk_len (e := eStr) m.gone
 have d := bk_len (e := eNt) m.notes
 refine ⟨by omega, by omega, by omega, by omega, fun x hx => ?_⟩
 have e := bk_mem (e := eFld) hx
 have f := bk_Fld x
 have g := bk_len (e := eNt) x.notes
 omega
theorem okE_of {m : Enm} (h : bkL (eEnm m) ≤ 1048576) : OkE m := by
 have h1 := bk_Enm m
 have a := bk_len (e := eItm) m.items
 have b := bk_len (e := eSpn) m.reserved
 have d := bk_len (e := eNt) m.notes
 refine ⟨by omega, by omega, by omega, fun x hx => ?_⟩
 have e := bk_mem (e := eItm) hx
 have f := bk_Itm x
 have g := bk_len (e := eNt) x.notes
 omega
theorem okV_of {m : Svc} (h : bkL (eSvc m) ≤ 1048576) : OkV m := by
 have h1 := bk_Svc m
 have a := bk_len (e := eMth) m.methods
 have d := bk_len (e := eNt) m.notes
 refine ⟨by omega, by omega, fun x hx => ?_⟩
 have e := bk_mem (e := eMth) hx
 have f := bk_Mth x
 have g := bk_len (e := eNt) x.notes
 omega
theorem okF_of {f : Fil} (h : bkL (eFil f) ≤ 1048576) : OkF f := by
 have h1 := bk_Fil f
 exact ⟨fun m hm => okM_of (by have := bk_mem (e := eMsg) hm; omega), fun m hm => okE_of (by have := bk_mem (e := eEnm) hm; omega), fun m hm => okV_of (by have := bk_mem (e := eSvc) hm; omega)⟩
theorem szF_of {f : Fil} (h : bkL (eFil f) ≤ 1048576) : SzF f := by
 have h1 := bk_Fil f
 have a := bk_len (e := eStr) f.imports
 have b := bk_len (e := eMsg) f.messages
 have c := bk_len (e := eEnm) f.enums
 have d := bk_len (e := eSvc) f.services
 refine ⟨by omega, by omega, by omega, by omega, by omega, by omega, fun x hx => ?_, fun x hx => ?_, fun x hx => ?_⟩
 ·have := bk_mem (e := eMsg) hx; have := bk_Msg x; omega
 ·have := bk_mem (e := eEnm) hx; have := bk_Enm x; omega
 ·have := bk_mem (e := eSvc) hx; have := bk_Svc x; omega
theorem szG_of {f : Fil} (h : bkL (eFil f) ≤ 1048576) : SzG f := by
 have h1 := bk_Fil f
 refine ⟨fun x hx => ?_, fun x hx d hd => ?_, fun x hx => ?_, fun x hx d hd => ?_, fun x hx => ?_⟩
 ·have := bk_mem (e := eMsg) hx; have := bk_Msg x; have := bk_len (e := eFld) x.fields; omega
 ·have := bk_mem (e := eMsg) hx; have := bk_Msg x; have := bk_mem (e := eFld) hd; have := bk_Fld d; omega
 ·have := bk_mem (e := eSvc) hx; have := bk_Svc x; have := bk_len (e := eMth) x.methods; omega
 ·have := bk_mem (e := eSvc) hx; have := bk_Svc x; have := bk_mem (e := eMth) hd; have := bk_Mth d; omega
 ·have := bk_mem (e := eEnm) hx; have := bk_Enm x; have := bk_len (e := eItm) x.items; omega
theorem two_le {α : Type} (a b : α → Nat) {x y : α} : ∀ {l : List α}, x ∈ l → y ∈ l → a x + b y ≤ (l.map fun z => a z + b z).sum
 | z :: l, hx, hy => by
  have one : ∀ (c : α → Nat) {w : α} {l : List α}, w ∈ l → c w ≤ (l.map c).sum := fun c w l hw => by
   induction l with
   | nil => cases hw
   | cons v l ih => rw [List.map_cons, List.sum_cons]; cases List.mem_cons.1 hw with
    | inl h => subst h; omega
    | inr h => have := ih h; omega
  have spl : ∀ l : List α, (l.map fun z => a z + b z).sum = (l.map a).sum + (l.map b).sum := fun l => by
   induction l with
   | nil => rfl
   | cons v l ih => simp only [List.map_cons, List.sum_cons, ih]; omega
  rw [spl]
  have := one a hx
  have := one b hy
  omega
theorem bk_sum : ∀ fs : List Fil, (fs.map fun f => f.imports.length + tot f).sum ≤ bkLL (fs.map eFil)
 | [] => Nat.le_refl _
 | f :: l => by
  have := bk_sum l
  have h1 := bk_Fil f
  have a := bk_len (e := eStr) f.imports
  have b := bk_len (e := eMsg) f.messages
  have c := bk_len (e := eEnm) f.enums
  have d := bk_len (e := eSvc) f.services
  simp only [List.map_cons, List.sum_cons, bkLL, tot] at *
  omega
theorem tot_sum : ∀ fs : List Fil, (fs.map tot).sum ≤ (fs.map fun f => f.imports.length + tot f).sum
 | [] => Nat.le_refl _
 | f :: l => by have := tot_sum l; simp only [List.map_cons, List.sum_cons]; omega
theorem szs {fs : List Fil} (h : bkLL (fs.map eFil) ≤ 1048576) : SzA fs ∧ (∀ f ∈ fs, SzG f) ∧ ∀ f ∈ fs, OkF f := by
 have k : ∀ f ∈ fs, bkL (eFil f) ≤ 1048576 := fun f hf => by have := bk_mem (e := eFil) hf; omega
 have a := bk_len (e := eFil) fs
 have b := bk_sum fs
 have c := tot_sum fs
 exact ⟨⟨fun f hf => szF_of (k f hf), by omega, by omega, fun f hf g hg => by have := two_le (fun f : Fil => f.imports.length) tot hg hf; omega⟩, fun f hf => szG_of (k f hf), fun f hf => okF_of (k f hf)⟩
theorem field_notes (known msgs : List ByteArray) (en : List Enm) (scope : ByteArray) (d : Fld) : (fieldS known msgs en scope d).1.notes = d.notes := by
 unfold fieldS
 repeat' split
 all_goals rfl
theorem mth_notes (known msgs : List ByteArray) (space : ByteArray) (d : Mth) : (mthS known msgs space d).1.notes = d.notes := by
 unfold mthS
 repeat' split
 all_goals rfl
theorem okM_msg {fs : List Fil} {f : Fil} {m : Msg} (h : OkM m) : OkM (mS fs f m).1 := by
 unfold mS msgS
 split
 ·exact h
 ·refine ⟨by simpa using h.f, h.r, h.g, h.n, fun d hd => ?_⟩
  obtain ⟨x, hx, rfl⟩ := List.mem_map.1 hd
  rw [field_notes]
  exact h.d x hx
theorem okV_svc {fs : List Fil} {f : Fil} {m : Svc} (h : OkV m) : OkV (vS' fs f m).1 := by
 unfold vS' svcS
 split
 ·exact h
 ·refine ⟨by simpa using h.m, h.n, fun d hd => ?_⟩
  obtain ⟨x, hx, rfl⟩ := List.mem_map.1 hd
  rw [mth_notes]
  exact h.d x hx
theorem okS_link {fs : List Fil} {s : Scm} (hF : ∀ f ∈ fs, OkF f) (hb : ¬ bigS fs) (h1 : s.messages.Perm (fs.flatMap (msgsF fs))) (h2 : s.enums.Perm (enmsAll fs)) (h3 : s.services.Perm (fs.flatMap (svcsF fs))) : OkS s := by
 unfold bigS at hb
 refine ⟨by rw [h1.length_eq, len_msgsF]; omega, by rw [h2.length_eq, len_enmsF]; omega, by rw [h3.length_eq, len_svcsF]; omega, fun m hm => ?_, fun m hm => ?_, fun m hm => ?_⟩
 ·obtain ⟨f, hf, hm⟩ := List.mem_flatMap.1 (h1.mem_iff.1 hm)
  obtain ⟨x, hx, rfl⟩ := List.mem_map.1 hm
  exact okM_msg ((hF f hf).m x hx)
 ·obtain ⟨f, hf, hm⟩ := List.mem_flatMap.1 (h2.mem_iff.1 hm)
  obtain ⟨x, hx, rfl⟩ := List.mem_map.1 hm
  exact ⟨((hF f hf).e x hx).i, ((hF f hf).e x hx).r, ((hF f hf).e x hx).n, ((hF f hf).e x hx).d⟩
 ·obtain ⟨f, hf, hm⟩ := List.mem_flatMap.1 (h3.mem_iff.1 hm)
  obtain ⟨x, hx, rfl⟩ := List.mem_map.1 hm
  exact okV_svc ((hF f hf).v x hx)
end Go.Proofs.Ythagpbkmakocjaa
namespace Go.Proofs.Ythagpbkmakocjaa
set_option linter.all false
open Go Go.Eng
set_option maxRecDepth 100000 in
theorem aw' : M_wireschemalaw11_awake = some true := by kernel_rfl
def srtB {α : Type} (nm : α → ByteArray) (l : List α) : List α := sortR (fun x y => cmpI (nm x) (nm y)) l
theorem m30p (ms : List Msg) (es : List Enm) (us : List Svc) (l1 : ms.length ≤ 1048576) (l2 : es.length ≤ 1048576) (l3 : us.length ≤ 1048576) : M_link_sorted ms es us = some (srtB (fun y : Msg => y.name) ms, srtB (fun y : Enm => y.name) es, srtB (fun y : Svc => y.name) us) := by
 have s1 := m59 (mer123 fun x y => m60 x y) (fun x y => m60 x y) ms l1
 have s2 := m59 (mer123 fun x y => m63 x y) (fun x y => m63 x y) es l2
 have s3 := m59 (mer123 fun x y => m65 x y) (fun x y => m65 x y) us l3
 rw [stable_sortR (cmp_law fun y : Msg => y.name)] at s1
 rw [stable_sortR (cmp_law fun y : Enm => y.name)] at s2
 rw [stable_sortR (cmp_law fun y : Svc => y.name)] at s3
 unfold M_link_sorted srtB
 dsimp only [T30_1, T30_2, T30_3, T30_4, T30_5, T30_6, T30_7, T30_8, br, vz, vs, wa, wm, wi, lc, ln, lf, lfe, lxe, fl, lr, vw]
 simp only [s1, s2, s3, Option.bind_some, sortR_length, and_self, if_true]
def linkS (fs : List Fil) : Scm := if (linkE fs).2 = 0 then ⟨srtB (fun y => y.name) (fs.flatMap (msgsF fs)), srtB (fun y => y.name) (enmsAll fs), srtB (fun y => y.name) (fs.flatMap (svcsF fs))⟩ else ⟨[], [], []⟩
theorem link_p {fs : List Fil} (h : bkLL (fs.map eFil) ≤ 1048576) :
  M_link_Link fs = some (linkS fs, linkE fs) ∧ OkS (linkS fs) ∧ ((linkE fs).2 = 0 → Base0 fs ∧ fs.findSome? (errF fs) = none ∧ ¬ bigS fs) := by
 obtain ⟨hA, hG, hO⟩ := szs h
 have hi : ∀ f ∈ fs, f.imports.length < 2147483648 := fun f hf => (hA.f f hf).is
 obtain ⟨l1, o1⟩ := m22 fs hi hA.n
 have c1 := m23 fs hA
 rw [cnt_eq] at c1
 have key : M_link_Link fs = some (linkS fs, linkE fs) ∧ ((linkE fs).2 = 0 → Base0 fs ∧ fs.findSome? (errF fs) = none ∧ ¬ bigS fs) := by
  unfold M_link_Link linkS linkE
  simp only [T9_1, T9_2, T9_3, T9_4, T9_5, T9_6, T9_7, T9_8, T9_9, T9_10, T9_11, T9_12, T9_13, T9_14, T9_15, T9_16, T9_17, T9_18, T9_19, T9_20, T9_21, T9_22, T9_23, T9_24, T9_25, T9_26, T9_27, T9_28, T9_29, T9_30, T9_31, T9_32, T9_33, T9_34, T9_35, T9_36, T9_37, T9_38, al, frt, stp, br, ix, ixi, vz, vy, vw, vs, vg, v2, lr, lrt, ln, lxe, lc, lf, lfe, ap, aq, a0, a1, ad, cl, cs, cf, wa, wi, ir, ca, cp, dd, mv, st, ss, sL, Bd.c, Bd.vl, o1, c1, Option.bind_some]
  by_cases h0 : (ordS fs).2 = 0
  ·simp only [h0, decide_true, Bool.not_true, Bool.false_eq_true, if_false, ne_eq, not_true_eq_false]
   by_cases hb : bigS fs
   ·simp only [hb, if_true, decide_true]
    exact ⟨rfl, fun h => absurd h (by decide)⟩
   ·simp only [hb, if_false, decide_false, Bool.false_eq_true]
    cases hd : dup0 fs with
    | some x => exact ⟨rfl, fun h => absurd h (by decide : ¬ (9 : Int) = 0)⟩
    | none =>
     have hB := base0 hA hG (ordS_zero h0) hd
     have hM : (msgsAll fs).length < 4611686018427387904 := by
      have e : (msgsAll fs).length = sum1 fs := len_fm own1 _ len_own1 fs
      have := hA.t
      have := sums fs
      omega
     have hE : (enmsAll fs).length < 549755813888 := by
      have e := len_enmsF fs
      have := hA.t
      have := sums fs
      omega
     simp only [Option.map_none, Option.getD_none, Bool.false_eq_true, if_false, m9_1 fs hA, m26 (enmsAll fs) hE, m9_3 fs hB _ hM (by omega), Option.bind_some, Sum.elim_inl, decide_true, Bool.not_true]
     cases he : fs.findSome? (errF fs) with
     | some r =>
      have hr : r.2 ≠ 0 := by
       obtain ⟨f, _, hf⟩ := List.exists_of_findSome?_eq_some he
       exact errF_ne hf
      simp only [hr, if_false]
      exact ⟨rfl, fun h => absurd h id⟩
     | none =>
      unfold bigS at hb
      simp only [Option.elim, Sum.elim_inl, Option.bind_some, m30p (fs.flatMap (msgsF fs)) (enmsAll fs) (fs.flatMap (svcsF fs)) (by rw [len_msgsF]; omega) (by rw [len_enmsF]; omega) (by rw [len_svcsF]; omega)]
      exact ⟨rfl, fun _ => ⟨hB, trivial, id⟩⟩
  ·simp only [h0, decide_false, Bool.not_false, if_true, if_false, ne_eq, not_false_eq_true]
   exact ⟨trivial, fun h => h.elim⟩
 refine ⟨key.1, ?_, key.2⟩
 unfold linkS
 by_cases h0 : (linkE fs).2 = 0
 ·obtain ⟨_, _, e⟩ := key.2 h0
  rw [if_pos h0]
  exact okS_link hO e (sortR_perm _) (sortR_perm _) (sortR_perm _)
 ·rw [if_neg h0]
  refine ⟨by decide, by decide, by decide, ?_, ?_, ?_⟩ <;> (intro m hm; cases hm)
end Go.Proofs.Ythagpbkmakocjaa
namespace Go.Proofs.Ythagpbkmakocjaa
set_option linter.all false
open Go Go.Eng
structure Res (s : Scm) : Prop where
 m : s.messages.Pairwise fun x y => sLt x.name y.name = true
 e : s.enums.Pairwise fun x y => sLt x.name y.name = true
 v : s.services.Pairwise fun x y => sLt x.name y.name = true
 f : ∀ x ∈ s.messages, ∀ d ∈ x.fields, d.type.kind ≠ 0 ∧ (d.type.kind = 10 → d.type.name ∈ s.messages.map fun x => x.name) ∧ (d.type.kind = 9 → d.type.name ∈ s.enums.map fun x => x.name)
 t : ∀ x ∈ s.services, ∀ d ∈ x.methods, d.inn ∈ (s.messages.map fun x => x.name) ∧ d.out ∈ s.messages.map fun x => x.name
theorem srtB_strict {α : Type} (nm : α → ByteArray) {l : List α} (h : (l.map nm).Nodup) : (srtB nm l).Pairwise fun x y => sLt (nm x) (nm y) = true := by
 have h1 := sortR_sorted (cmp_law nm) l
 have h2 : ((srtB nm l).map nm).Nodup := ((sortR_perm l).map nm).nodup_iff.2 h
 have h3 := List.pairwise_map.1 h2
 unfold srtB at *
 refine (h1.and h3).imp fun {x y} hxy => ?_
 have : sLt (nm y) (nm x) = false := by
  cases hh : sLt (nm y) (nm x) with
  | false => rfl
  | true => exact absurd ((cmpI_lt _ _).2 hh) hxy.1
 exact sLt_tot this fun e => hxy.2 e.symm
theorem errN_none {α β : Type} {g : α → β × Int} {nm : α → ByteArray} {l : List α} (h : errN g nm l = none) : ∀ x ∈ l, (g x).2 = 0 := fun x hx => by
 unfold errN at h
 have := List.findSome?_eq_none_iff.1 h x hx
 split at this
 ·assumption
 ·cases this
theorem msgS_ok {known msgs : List ByteArray} {en : List Enm} {space : ByteArray} {m : Msg} (h : (msgS known msgs en space m).2 = 0) : (∀ d ∈ m.fields, (fieldS known msgs en (joinB space m.name) d).2 = 0) ∧ (msgS known msgs en space m).1 = { m with name := joinB space m.name, fields := m.fields.map fun d => (fieldS known msgs en (joinB space m.name) d).1 } := by
 unfold msgS at h ⊢
 split at h
 ·rename_i c hc
  exfalso
  unfold errS at hc
  obtain ⟨x, _, hx⟩ := List.exists_of_findSome?_eq_some hc
  split at hx
  ·cases hx
  ·rename_i k; cases hx; exact k h
 ·rename_i hc
  exact ⟨fun d hd => errS_none hc hd, rfl⟩
theorem svcS_ok {known msgs : List ByteArray} {space : ByteArray} {m : Svc} (h : (svcS known msgs space m).2 = 0) : (∀ d ∈ m.methods, (mthS known msgs space d).2 = 0) ∧ (svcS known msgs space m).1 = { m with name := joinB space m.name, methods := m.methods.map fun d => (mthS known msgs space d).1 } := by
 unfold svcS at h ⊢
 split at h
 ·rename_i c hc
  exfalso
  unfold errS at hc
  obtain ⟨x, _, hx⟩ := List.exists_of_findSome?_eq_some hc
  split at hx
  ·cases hx
  ·rename_i k; cases hx; exact k h
 ·rename_i hc
  exact ⟨fun d hd => errS_none hc hd, rfl⟩
theorem errF_none {fs : List Fil} (h : fs.findSome? (errF fs) = none) {f : Fil} (hf : f ∈ fs) : (∀ m ∈ f.messages, (mS fs f m).2 = 0) ∧ ∀ v ∈ f.services, (vS' fs f v).2 = 0 := by
 have h1 := List.findSome?_eq_none_iff.1 h f hf
 unfold errF at h1
 rw [Option.or_eq_none_iff] at h1
 exact ⟨errN_none h1.1, errN_none h1.2⟩
theorem names_m {fs : List Fil} (h : fs.findSome? (errF fs) = none) : (fs.flatMap (msgsF fs)).map (fun x => x.name) = msgsAll fs := by
 have key : ∀ l : List Fil, (∀ f ∈ l, f ∈ fs) → (l.flatMap (msgsF fs)).map (fun x => x.name) = l.flatMap own1 := fun l => by
  induction l with
  | nil => intro _; rfl
  | cons f l ih =>
   intro hl
   rw [List.flatMap_cons, List.flatMap_cons, List.map_append, ih fun g hg => hl g (List.mem_cons_of_mem _ hg)]
   congr 1
   unfold msgsF own1
   rw [List.map_map]
   refine List.map_congr_left fun m hm => ?_
   have := (msgS_ok ((errF_none h (hl f (List.mem_cons_self ..))).1 m hm)).2
   show (mS fs f m).1.name = _
   unfold mS
   rw [this]
 exact key fs fun _ h => h
theorem names_v {fs : List Fil} (h : fs.findSome? (errF fs) = none) : (fs.flatMap (svcsF fs)).map (fun x => x.name) = fs.flatMap own3 := by
 have key : ∀ l : List Fil, (∀ f ∈ l, f ∈ fs) → (l.flatMap (svcsF fs)).map (fun x => x.name) = l.flatMap own3 := fun l => by
  induction l with
  | nil => intro _; rfl
  | cons f l ih =>
   intro hl
   rw [List.flatMap_cons, List.flatMap_cons, List.map_append, ih fun g hg => hl g (List.mem_cons_of_mem _ hg)]
   congr 1
   unfold svcsF own3
   rw [List.map_map]
   refine List.map_congr_left fun m hm => ?_
   have := (svcS_ok ((errF_none h (hl f (List.mem_cons_self ..))).2 m hm)).2
   show (vS' fs f m).1.name = _
   unfold vS'
   rw [this]
 exact key fs fun _ h => h
theorem names_e (fs : List Fil) : (enmsAll fs).map (fun e => e.name) = fs.flatMap own2 := by
 unfold enmsAll
 induction fs with
 | nil => rfl
 | cons f l ih => rw [List.flatMap_cons, List.flatMap_cons, List.map_append, ih]; simp [own2]
theorem sub_fm {g k : Fil → List ByteArray} (h : ∀ f, (g f).Sublist (k f)) : ∀ fs : List Fil, (fs.flatMap g).Sublist (fs.flatMap k)
 | [] => List.Sublist.refl _
 | f :: l => by rw [List.flatMap_cons, List.flatMap_cons]; exact List.Sublist.append (h f) (sub_fm h l)
theorem nodups {fs : List Fil} (h : (namesAll fs).Nodup) : (msgsAll fs).Nodup ∧ (fs.flatMap own2).Nodup ∧ (fs.flatMap own3).Nodup :=
 ⟨h.sublist (sub_fm (fun f => by unfold namesOf; rw [List.append_assoc]; exact List.sublist_append_left _ _) fs), h.sublist (sub_fm (fun f => by unfold namesOf; exact (List.sublist_append_right (own1 f) _).trans (List.sublist_append_left _ _)) fs),
  h.sublist (sub_fm (fun f => by unfold namesOf; exact List.sublist_append_right _ _) fs)⟩
theorem dup_of {fs : List Fil} (h : (linkE fs).2 = 0) : (namesAll fs).Nodup := by
 unfold linkE at h
 split at h
 ·rename_i k; exact absurd h k
 ·split at h
  ·exact absurd h (by decide)
  ·split at h
   ·exact absurd h (by decide : ¬ (9 : Int) = 0)
   ·rename_i hd
    exact (dup_none hd).1
end Go.Proofs.Ythagpbkmakocjaa
namespace Go.Proofs.Ythagpbkmakocjaa
set_option linter.all false
open Go Go.Eng
def nmsF (fs : List Fil) : List ByteArray := fs.map fun f => f.name
theorem found_iff {fs : List Fil} {s : ByteArray} : (0 ≤ ixP fs fun y => decide (y.name = s)) ↔ ∃ g ∈ fs, g.name = s := by
 rw [← decide_eq_true_eq (p := 0 ≤ ixP fs fun y => decide (y.name = s)), ixP_ge, List.any_eq_true]
 exact ⟨fun ⟨g, h1, h2⟩ => ⟨g, h1, by simpa using h2⟩, fun ⟨g, h1, h2⟩ => ⟨g, h1, by simpa using h2⟩⟩
theorem one_name {fs : List Fil} (hn : (nmsF fs).Nodup) {f g : Fil} (hf : f ∈ fs) (hg : g ∈ fs) (h : f.name = g.name) : f = g := by
 obtain ⟨i, hi, rfl⟩ := List.mem_iff_getElem.1 hf
 obtain ⟨j, hj, rfl⟩ := List.mem_iff_getElem.1 hg
 have : i = j := by
  rcases Nat.lt_trichotomy i j with h' | h' | h'
  ·exact absurd h (List.pairwise_iff_getElem.1 (List.pairwise_map.1 hn) i j hi hj h')
  ·exact h'
  ·exact absurd h.symm (List.pairwise_iff_getElem.1 (List.pairwise_map.1 hn) j i hj hi h')
 subst this
 rfl
theorem fileOf_eq {fs : List Fil} (hn : (nmsF fs).Nodup) {g : Fil} (hg : g ∈ fs) : fileOf fs g.name = g := by
 obtain ⟨_, h2, h3⟩ := fileOf_at (found_iff.2 ⟨g, hg, rfl⟩)
 exact one_name hn h3 hg h2
theorem dist_nd {fs : List Fil} (h : DistF fs) : (nmsF fs).Nodup := by
 unfold nmsF
 refine List.pairwise_map.2 (List.pairwise_iff_getElem.2 fun i j hi hj hij e => ?_)
 have h1 := h i _ (List.getElem?_eq_getElem hi)
 have h2 := h j _ (List.getElem?_eq_getElem hj)
 rw [← e, h1] at h2
 omega
theorem nd_chk1 {fs : List Fil} (hn : (nmsF fs).Nodup) : chk1 fs = none := by
 cases hc : chk1 fs with
 | none => rfl
 | some s =>
  exfalso
  unfold chk1 at hc
  have key : ∀ (l p : List Fil), p ++ l = fs → firstR (fun p (f : Fil) => if (ixP fs fun y => decide (y.name = f.name)) < (p.length : Int) then some f.name else none) p l = some s → False := fun l => by
   induction l with
   | nil => intro p _ h; cases h
   | cons x l ih =>
    intro p hp hq
    rw [firstR] at hq
    have hlt : p.length < fs.length := by rw [← hp]; simp
    have hx : fs[p.length]? = some x := by rw [← hp]; simp
    have hno : ¬ (ixP fs fun y => decide (y.name = x.name)) < (p.length : Int) := fun q => by
     have hge : 0 ≤ ixP fs fun y => decide (y.name = x.name) := found_iff.2 ⟨x, List.mem_of_getElem? hx, rfl⟩
     obtain ⟨j, g, e1, e2, e3, e4⟩ := ixP_at hge
     rw [e1] at q
     have hj : j < fs.length := (List.getElem?_eq_some_iff.1 e2).1
     have e5 := (List.getElem?_eq_some_iff.1 e2).2
     have e6 := (List.getElem?_eq_some_iff.1 hx).2
     have := List.pairwise_iff_getElem.1 (List.pairwise_map.1 hn) j p.length hj hlt (by omega)
     rw [e5, e6] at this
     exact this (by simpa using e3)
    rw [if_neg hno] at hq
    exact ih (p ++ [x]) (by simpa using hp) hq
  exact key fs [] rfl hc
theorem found_chk2 {fs : List Fil} (h : AllF fs) : chk2 fs = none := by
 unfold chk2
 refine List.findSome?_eq_none_iff.2 fun f hf => ?_
 have : lost fs f = false := by
  unfold lost
  rw [List.any_eq_false]
  intro s hs
  have := h f hf s hs
  simp only [decide_eq_true_eq]
  omega
 rw [this]
 rfl
theorem ordS_ok {fs : List Fil} (h : (ordS fs).2 = 0) : (1 ≤ fs.length ∧ fs.length ≤ 16) ∧ (nmsF fs).Nodup ∧ AllF fs ∧ ∀ a, a < fs.length → ¬ Rch fs a a := by
 have hF := ordS_zero h
 unfold ordS at h
 split at h
 ·exact absurd h (by decide)
 ·rename_i hl
  split at h
  ·exact absurd h (by decide : ¬ (9 : Int) = 0)
  ·rename_i h1
   split at h
   ·exact absurd h (by decide : ¬ (10 : Int) = 0)
   ·split at h
    ·exact absurd h (by decide : ¬ (19 : Int) = 0)
    ·rename_i h3
     refine ⟨by omega, dist_nd (dist_chk h1), hF, fun a ha hr => ?_⟩
     obtain ⟨s, hs⟩ := cyc_some hF ha hr
     rw [hs] at h3
     cases h3
theorem ordS_of {fs : List Fil} (h0 : 1 ≤ fs.length ∧ fs.length ≤ 16) (hn : (nmsF fs).Nodup) (hF : AllF fs) (hc : ∀ a, a < fs.length → ¬ Rch fs a a) : (ordS fs).2 = 0 := by
 unfold ordS
 rw [if_neg (by omega), nd_chk1 hn, found_chk2 hF, cyc_none hF hc]
section
variable {fs gs : List Fil} (hp : gs.Perm fs)
include hp
theorem nms_perm (h : (nmsF fs).Nodup) : (nmsF gs).Nodup := (hp.map _).nodup_iff.2 h
theorem found_perm (h : AllF fs) : AllF gs := fun f hf s hs => by
 obtain ⟨g, h1, h2⟩ := found_iff.1 (h f (hp.mem_iff.1 hf) s hs)
 exact found_iff.2 ⟨g, hp.mem_iff.2 h1, h2⟩
theorem fileOf_perm (hn : (nmsF fs).Nodup) {s : ByteArray} (h : 0 ≤ ixP fs fun y => decide (y.name = s)) : fileOf gs s = fileOf fs s := by
 obtain ⟨g, h1, rfl⟩ := found_iff.1 h
 rw [fileOf_eq hn h1, fileOf_eq (nms_perm hp hn) (hp.mem_iff.2 h1)]
theorem at_perm (hn : (nmsF fs).Nodup) {a : Nat} (ha : a < gs.length) : fs.getD (fi fs (gs.getD a zFil).name) zFil = gs.getD a zFil ∧ fi fs (gs.getD a zFil).name < fs.length := by
 have hm : gs.getD a zFil ∈ fs := by
  rw [List.getD_eq_getElem?_getD, List.getElem?_eq_getElem ha]
  exact hp.mem_iff.1 (List.getElem_mem ha)
 exact ⟨fileOf_eq hn hm, (fi_lt (found_iff.2 ⟨_, hm, rfl⟩)).1⟩
theorem dpx_perm (hn : (nmsF fs).Nodup) (hF : AllF fs) {a j : Nat} (h : j ∈ dpx gs a) : fi fs (gs.getD j zFil).name ∈ dpx fs (fi fs (gs.getD a zFil).name) := by
 have hlt := dpx_lt (found_perm hp hF) h
 unfold dpx at h ⊢
 rw [(at_perm hp hn hlt.1).1]
 obtain ⟨s, hs, rfl⟩ := List.mem_map.1 h
 refine List.mem_map.2 ⟨s, hs, ?_⟩
 have hm : gs.getD a zFil ∈ gs := by
  rw [List.getD_eq_getElem?_getD, List.getElem?_eq_getElem hlt.1]
  exact List.getElem_mem hlt.1
 have hf := found_perm hp hF _ hm s hs
 have : (gs.getD (fi gs s) zFil).name = s := (fileOf_at hf).2.1
 rw [this]
theorem rch_perm (hn : (nmsF fs).Nodup) (hF : AllF fs) {a k : Nat} (h : Rch gs a k) : Rch fs (fi fs (gs.getD a zFil).name) (fi fs (gs.getD k zFil).name) := by
 induction h with
 | one h => exact .one (dpx_perm hp hn hF h)
 | step h k ih => exact .step ih (dpx_perm hp hn hF k)
theorem ordS_perm (h : (ordS fs).2 = 0) : (ordS gs).2 = 0 := by
 obtain ⟨h0, hn, hF, hc⟩ := ordS_ok h
 have hl := hp.length_eq
 exact ordS_of (by omega) (nms_perm hp hn) (found_perm hp hF) fun a ha hr => hc _ (at_perm hp hn ha).2 (rch_perm hp hn hF hr)
theorem big_perm : bigS gs ↔ bigS fs := by
 unfold bigS sum1 sum2 sum3
 rw [(hp.map _).sum_nat, (hp.map (fun f : Fil => f.enums.length)).sum_nat, (hp.map (fun f : Fil => f.services.length)).sum_nat]
theorem names_perm : (namesAll gs).Perm (namesAll fs) := hp.flatMap_right _
theorem msgs_perm (x : ByteArray) : memB (msgsAll gs) x = memB (msgsAll fs) x := by
 rw [Bool.eq_iff_iff, memB_iff, memB_iff]
 exact (hp.flatMap_right own1).mem_iff
theorem vis_perm (hn : (nmsF fs).Nodup) {f : Fil} (hF : FoundI fs f) : visOf gs f = visOf fs f := by
 unfold visOf visB
 congr 1
 have key : ∀ l : List ByteArray, (∀ s ∈ l, 0 ≤ ixP fs fun y => decide (y.name = s)) → (l.flatMap fun s => namesOf (fileOf gs s)) = l.flatMap fun s => namesOf (fileOf fs s) := fun l => by
  induction l with
  | nil => intro _; rfl
  | cons s l ih => intro h; rw [List.flatMap_cons, List.flatMap_cons, ih fun t ht => h t (List.mem_cons_of_mem _ ht), fileOf_perm hp hn (h s (List.mem_cons_self ..))]
 exact key _ hF
theorem enms_perm (h : (namesAll fs).Nodup) (x : ByteArray) : (enmsAll gs).find? (fun e => decide (e.name = x)) = (enmsAll fs).find? (fun e => decide (e.name = x)) := by
 have hq : (enmsAll gs).Perm (enmsAll fs) := hp.flatMap_right _
 have hu := uniq_u h
 have hu' := hu.imp (S := fun a b : Enm => a.name ≠ b.name) id
 cases h1 : (enmsAll fs).find? (fun e => decide (e.name = x)) with
 | none =>
  rw [List.find?_eq_none] at h1 ⊢
  exact fun e he => h1 e (hq.mem_iff.1 he)
 | some e =>
  have m1 := List.mem_of_find?_eq_some h1
  have p1 : e.name = x := by simpa using List.find?_some h1
  cases h2 : (enmsAll gs).find? (fun e => decide (e.name = x)) with
  | none =>
   rw [List.find?_eq_none] at h2
   exact absurd (h2 e (hq.mem_iff.2 m1)) (by simp [p1])
  | some e' =>
   have m2 := hq.mem_iff.1 (List.mem_of_find?_eq_some h2)
   have p2 : e'.name = x := by simpa using List.find?_some h2
   congr 1
   obtain ⟨i, hi, rfl⟩ := List.mem_iff_getElem.1 m1
   obtain ⟨j, hj, rfl⟩ := List.mem_iff_getElem.1 m2
   rcases Nat.lt_trichotomy i j with h' | h' | h'
   ·exact absurd (p1.trans p2.symm) (List.pairwise_iff_getElem.1 hu i j hi hj h')
   ·subst h'; rfl
   ·exact absurd (p2.trans p1.symm) (List.pairwise_iff_getElem.1 hu j i hj hi h')
end
theorem field_congr {known : List ByteArray} {m m' : List ByteArray} {en en' : List Enm} (h1 : ∀ x, memB m x = memB m' x) (h2 : ∀ x, en.find? (fun e => decide (e.name = x)) = en'.find? (fun e => decide (e.name = x))) (scope : ByteArray) (d : Fld) :
  fieldS known m en scope d = fieldS known m' en' scope d := by
 unfold fieldS
 rw [h1, h2]
theorem msg_congr {known : List ByteArray} {m m' : List ByteArray} {en en' : List Enm} (h1 : ∀ x, memB m x = memB m' x) (h2 : ∀ x, en.find? (fun e => decide (e.name = x)) = en'.find? (fun e => decide (e.name = x))) (space : ByteArray) (g : Msg) :
  msgS known m en space g = msgS known m' en' space g := by
 have : fieldS known m en (joinB space g.name) = fieldS known m' en' (joinB space g.name) := funext fun d => field_congr h1 h2 _ d
 unfold msgS
 rw [this]
theorem svc_congr {known : List ByteArray} {m m' : List ByteArray} (h1 : ∀ x, memB m x = memB m' x) (space : ByteArray) (g : Svc) : svcS known m space g = svcS known m' space g := by
 have e : ∀ s, sideS known m space s = sideS known m' space s := fun s => by unfold sideS; rw [h1]
 have : mthS known m space = mthS known m' space := funext fun d => by unfold mthS; rw [e, e]
 unfold svcS
 rw [this]
section
variable {fs gs : List Fil} (hp : gs.Perm fs)
include hp
theorem mS_perm (hn : (nmsF fs).Nodup) (hu : (namesAll fs).Nodup) {f : Fil} (hF : FoundI fs f) : mS gs f = mS fs f ∧ vS' gs f = vS' fs f := by
 unfold mS vS'
 rw [vis_perm hp hn hF]
 exact ⟨funext fun g => msg_congr (msgs_perm hp) (enms_perm hp hu) _ g, funext fun g => svc_congr (msgs_perm hp) _ g⟩
theorem dup_perm (h : (namesAll fs).Nodup) : dup0 gs = none := by
 have hn : (namesAll gs).Nodup := (names_perm hp).nodup_iff.2 h
 unfold dup0
 have key : ∀ (l p : List ByteArray), (p ++ l).Nodup → firstR (dupR fun x => x) p l = none := fun l => by
  induction l with
  | nil => intro p _; rfl
  | cons x l ih =>
   intro p hq
   rw [firstR]
   have : dupR (fun x => x) p x = none := by
    unfold dupR
    rw [if_neg]
    intro hh
    obtain ⟨y, hy, e⟩ := List.any_eq_true.1 hh
    have e : x = y := by simpa using e
    subst e
    exact (List.nodup_append.1 hq).2.2 x hy x (List.mem_cons_self ..) rfl
   rw [this]
   exact ih (p ++ [x]) (by simpa using hq)
 exact key _ [] hn
theorem link_perm (h : (linkE fs).2 = 0) (he : fs.findSome? (errF fs) = none) (hb : ¬ bigS fs) : (linkE gs).2 = 0 ∧ linkS gs = linkS fs := by
 have h0 : (ordS fs).2 = 0 := by
  by_cases h0 : (ordS fs).2 = 0
  ·exact h0
  ·unfold linkE at h; rw [if_pos h0] at h; exact absurd h h0
 obtain ⟨_, hn, hF, _⟩ := ordS_ok h0
 have hu := dup_of h
 have hM : ∀ f ∈ gs, mS gs f = mS fs f ∧ vS' gs f = vS' fs f := fun f hf => mS_perm hp hn hu (hF f (hp.mem_iff.1 hf))
 have he' : gs.findSome? (errF gs) = none := by
  refine List.findSome?_eq_none_iff.2 fun f hf => ?_
  have := List.findSome?_eq_none_iff.1 he f (hp.mem_iff.1 hf)
  unfold errF err1 err2 at this ⊢
  rw [(hM f hf).1, (hM f hf).2]
  exact this
 have e0 : (linkE gs).2 = 0 := by
  unfold linkE
  rw [if_neg (by rw [ordS_perm hp h0]; exact fun q => q rfl), if_neg (by rw [big_perm hp]; exact hb), dup_perm hp hu, he']
 refine ⟨e0, ?_⟩
 obtain ⟨n1, n2, n3⟩ := nodups hu
 have fm : ∀ {β : Type} (a b : Fil → List β) (l : List Fil), (∀ f ∈ l, a f = b f) → l.flatMap a = l.flatMap b := fun {β} a b l => by
  induction l with
  | nil => intro _; rfl
  | cons f l ih => intro h; rw [List.flatMap_cons, List.flatMap_cons, ih fun g hg => h g (List.mem_cons_of_mem _ hg), h f (List.mem_cons_self ..)]
 have p1 : (gs.flatMap (msgsF gs)).Perm (fs.flatMap (msgsF fs)) := by
  rw [fm (msgsF gs) (msgsF fs) gs fun f hf => by unfold msgsF; rw [(hM f hf).1]]
  exact hp.flatMap_right _
 have p2 : (enmsAll gs).Perm (enmsAll fs) := hp.flatMap_right _
 have p3 : (gs.flatMap (svcsF gs)).Perm (fs.flatMap (svcsF fs)) := by
  rw [fm (svcsF gs) (svcsF fs) gs fun f hf => by unfold svcsF; rw [(hM f hf).2]]
  exact hp.flatMap_right _
 have q : ∀ {β : Type} (nm : β → ByteArray) {l r : List β}, (r.map nm).Nodup → l.Perm r → srtB nm l = srtB nm r := fun {β} nm {l r} hr hlr =>
  eq_of_pw (lt := fun x y => sLt (nm x) (nm y) = true) (fun a b h1 h2 => by have := sLt_tr h1 h2; rw [sLt_irr] at this; cases this) (srtB_strict nm ((hlr.map nm).nodup_iff.2 hr)) (srtB_strict nm hr) ((sortR_perm l).trans (hlr.trans (sortR_perm r).symm))
 unfold linkS
 rw [if_pos e0, if_pos h, q _ (by rw [names_m he]; exact n1) p1, q _ (by rw [names_e]; exact n2) p2, q _ (by rw [names_v he]; exact n3) p3]
end
theorem bkLL_app : ∀ a b : List (List D), bkLL (a ++ b) = bkLL a + bkLL b
 | [], b => by rw [List.nil_append, bkLL, Nat.zero_add]
 | d :: a, b => by rw [List.cons_append, bkLL, bkLL, bkLL_app a b]; omega
theorem bkLL_rev : ∀ l : List (List D), bkLL l.reverse = bkLL l
 | [] => rfl
 | x :: l => by rw [List.reverse_cons, bkLL_app, bkLL_rev l, bkLL, bkLL, bkLL]; omega
theorem m5_1 (fs : List Fil) (h : fs.length ≤ 1048576) : loopM (B5_1 fs) big ([], (fs.length : Int) - 1) = some (.inl fs.reverse) := by
 have := loop_pre0 (B := B5_1 fs) (N := big) fs.reverse (fun p : List Fil => p) (fun i b => (b, (fs.length : Int) - 1 - (i : Int))) id (hN := big_gt (by rw [List.length_reverse]; omega))
  (he := by
   have g : ¬ (0 : Int) ≤ (fs.length : Int) - 1 - (fs.reverse.length : Int) := by rw [List.length_reverse]; omega
   dsimp only [B5_1, T5_1, T5_2, T5_3, T5_4, T5_5, al, frt, stp, br, ix, ixi, vz, vy, vw, vs, vg, v2, lr, lrt, ln, lxe, lc, lf, lfe, ap, aq, a0, a1, ad, cl, cs, cf, wa, wi, ir, ca, cp, dd, mv, st, ss, sL, Bd.c, Bd.vl]
   simp only [g, decide_false, Bool.false_eq_true, if_false]
   rfl)
  (hs := fun i x hx => by
   have g0 := (List.getElem?_eq_some_iff.1 hx).1
   rw [List.length_reverse] at g0
   have g1 : (0 : Int) ≤ (fs.length : Int) - 1 - (i : Int) := by omega
   have g2 : ((fs.length : Int) - 1 - (i : Int)).toNat = fs.length - 1 - i := by omega
   have g3 : fs[fs.length - 1 - i]? = some x := by rw [List.getElem?_reverse g0] at hx; exact hx
   have g4 : -9223372036854775808 ≤ (fs.length : Int) - 1 - (i : Int) - 1 ∧ (fs.length : Int) - 1 - (i : Int) - 1 < 9223372036854775808 := by omega
   have g5 : (fs.reverse.take i).length < 549755813887 := by rw [List.length_take]; omega
   have g6 : (fs.length : Int) - 1 - ((i + 1 : Nat) : Int) = (fs.length : Int) - 1 - (i : Int) - 1 := by omega
   rw [g6]
   dsimp only [B5_1, T5_1, T5_2, T5_3, T5_4, T5_5, al, frt, stp, br, ix, ixi, vz, vy, vw, vs, vg, v2, lr, lrt, ln, lxe, lc, lf, lfe, ap, aq, a0, a1, ad, cl, cs, cf, wa, wi, ir, ca, cp, dd, mv, st, ss, sL, Bd.c, Bd.vl]
   simp only [g1, g2, g3, g4, g5, decide_true, if_true, and_self, Option.bind_some])
 simpa using this
theorem LinkTurns_true {fs : List Fil} (h : bkLL (fs.map eFil) ≤ 1048576) : M_wireschemalaw11_LinkTurns fs = some true := by
 have h' : bkLL (fs.reverse.map eFil) ≤ 1048576 := by rw [List.map_reverse, bkLL_rev]; exact h
 obtain ⟨hA, _, _⟩ := szs h
 obtain ⟨a1, a2, a3⟩ := link_p h
 obtain ⟨b1, b2, b3⟩ := link_p h'
 have key : ((linkE fs).2 = 0 ↔ (linkE fs.reverse).2 = 0) ∧ linkS fs.reverse = linkS fs := by
  by_cases k1 : (linkE fs).2 = 0
  ·obtain ⟨_, he, hb⟩ := a3 k1
   obtain ⟨e1, e2⟩ := link_perm fs.reverse_perm k1 he hb
   exact ⟨⟨fun _ => e1, fun _ => k1⟩, e2⟩
  ·by_cases k2 : (linkE fs.reverse).2 = 0
   ·obtain ⟨_, he, hb⟩ := b3 k2
    exact absurd (link_perm fs.reverse_perm.symm k2 he hb).1 k1
   ·refine ⟨⟨fun e => absurd e k1, fun e => absurd e k2⟩, ?_⟩
    unfold linkS
    rw [if_neg k1, if_neg k2]
 have hn := hA.n
 have g1 : -9223372036854775808 ≤ (fs.length : Int) - 1 ∧ (fs.length : Int) - 1 < 9223372036854775808 := by omega
 have g2 : (decide ((linkE fs).2 = 0) == decide ((linkE fs.reverse).2 = 0)) = true := by
  rw [beq_iff_eq]
  by_cases k : (linkE fs).2 = 0
  ·rw [decide_eq_true k, decide_eq_true (key.1.1 k)]
  ·rw [decide_eq_false k, decide_eq_false fun q => k (key.1.2 q)]
 unfold M_wireschemalaw11_LinkTurns
 dsimp only [T5_1, T5_2, T5_3, T5_4, T5_5, al, frt, stp, br, ix, ixi, vz, vy, vw, vs, vg, v2, lr, lrt, ln, lxe, lc, lf, lfe, ap, aq, a0, a1, ad, cl, cs, cf, wa, wi, ir, ca, cp, dd, mv, st, ss, sL, Bd.c, Bd.vl, clg]
 simp only [g1, and_self, if_true, m5_1 fs hn, Option.bind_some, Sum.elim_inl, a1, b1, key.2, r11 _ a2, g2, aw', Option.isSome_some, Bool.and_self, Option.getD_some, implies_true]
end Go.Proofs.Ythagpbkmakocjaa
namespace Go.Proofs.Ythagpbkmakocjaa
set_option linter.all false
open Go Go.Eng Go.ChangeShapes Go.WideShapes Go.ChangeAt Go.RowKit
theorem own : ownKnob Try.prog.godebug = none := by kernel_rfl
namespace LinkTurns
open Go.Proofs.Ythagpbkmakocjaa
set_option maxRecDepth 100000 in
theorem contract (H : Type) (enc : TypeId × Value → H) (W : World) (base : Nat) (args : Array Value) (ds gs : List (DataW H)) (before : List MemPlace)
  (hval : ∀ (j : Nat) t v, Try.f5.params[j]? = some t → args[j]? = some v → Value.okWide Try.prog W .any base t v)
  (hW : DataW.Whole enc Try.prog Try.f5.params.toList Rows.linkTurnsSpec.vars false W args.toList ds gs before) (hk : Rows.uptoSmall H (ds ++ gs) = true) :
  Calls Try.prog 5 args W fun e W' => ∃ v, e = .returned v ∧ Rows.linkTurnsSpec.post enc Try.prog Try.f5 false true false false W args v W' := by
 obtain ⟨p, q, hA0, hV, rfl, hfz, hnd⟩ := id hW
 have hA : DataW.TrodAll enc Try.prog W 0 (fun _ => true) true Try.f5.params.toList args.toList ds p := hA0
 rw [Try.params5] at hA hval
 obtain ⟨v0, vs0, d0, ds0, p0, q0, hargs, rfl, rfl, h0, r0⟩ := trodAll_cons hA
 obtain ⟨rfl, rfl, rfl⟩ := trodAll_nil r0
 obtain rfl : args = #[v0] := by cases args; simp_all
 have hb : Rows.uptoBulkAll ([d0] ++ gs) ≤ 1048576 := of_decide_eq_true hk
 simp only [List.cons_append, List.nil_append, Rows.uptoBulkAll] at hb
 obtain ⟨files, re0, fe0⟩ := arg_slice (e := eFil) (fun n => rd_slice Try.underlying22 (by kernel_rfl : Try.prog.cellsOf 61 = 6) (by decide) (fun _ => rfl) (fun m _ => rd_Fil m)) Try.underlying22 (hval 0 22 v0 rfl rfl) h0
 simp only [bk] at fe0
 obtain ⟨rfl, rfl⟩ := trodVars_none hV
 have A := (K_5 files).k 0 Hp0 true (LinkTurns_true (by omega))
 refine (A.2 (fun _ => ⟨0, 0, 0⟩) (· < W.heap.size) W #[v0] (ok0 _) (args_of (xs := [.d (.list (files.map eFil))]) (vs := [v0]) ⟨re0 _ _ _, trivial⟩)).mono fun e W' ⟨r, v, H', m', S', he, hp, hO, hr, hx⟩ => ?_
 obtain ⟨hp, _⟩ := hp
 subst he
 subst hp
 cases hr
 rename_i hd
 cases hd
 exact ⟨_, rfl, post_true hW rfl (by kernel_rfl) (by rw [Try.params5]; exact (by decide +kernel)) (by kernel_rfl) Try.underlying4 rfl ⟨hx.os, hx.tape, hx.output, hx.size, hx.blk⟩⟩
set_option maxRecDepth 100000 in
theorem lifted (os : Os) (started : os.Started) (H : Type) (enc : TypeId × Value → H) (F : Stop.Interp) :
  ReturnsInHanded {} Try.checked os 5 .any ((Rows.OpenSpec.upto Rows.linkTurnsSpec).pre6 enc Try.prog Try.f5 Rows.linkTurnsUptoRow.domain false) (((Rows.OpenSpec.upto Rows.linkTurnsSpec).at F).post enc Try.prog Try.f5 false true false false) := by
 refine returnsInHanded_of_cond (C := Try.checked) (s := Rows.OpenSpec.upto Rows.linkTurnsSpec) (k := Rows.uptoSmall) rfl own started (by kernel_rfl) Try.func5
  (OpenSpec.witness (enc := enc) (C := Try.checked) (s := Rows.OpenSpec.upto Rows.linkTurnsSpec) (k := Rows.uptoSmall) rfl false ⟨#[], #[.slice none 0 0], []⟩ 8 (by kernel_rfl) (by kernel_rfl) (by kernel_rfl)
   (x := ([.nil], [], [])) (by kernel_rfl) rfl (by kernel_rfl)) ?_
 intro W base args ds gs before hval hW _ hk _
 exact contract H enc W base args ds gs before hval hW hk
theorem holds : Rows.LinkTurnsUptoSaid :=
 OpenClaim.holds_of_cond 5 Try.f5 rfl rfl rfl rfl rfl rfl rfl ⟨rfl, rfl, rfl, rfl, rfl⟩ rfl rfl rfl rfl rfl (by kernel_rfl) Try.func5 (by kernel_rfl)
  (of_decide_eq_true (by kernel_rfl)) (by unfold Func.isWrapper; first | (rw [if_pos (by decide +kernel)]; kernel_rfl) | (rw [if_neg (by decide +kernel)]; exact ⟨rfl, rfl⟩))
  (fun os started H enc _ F => lifted os started H enc F)
end LinkTurns
end Go.Proofs.Ythagpbkmakocjaa
