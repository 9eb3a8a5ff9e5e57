import Derived.Test.YthagpbkmakocjaaCs19
namespace Go.Proofs.Ythagpbkmakocjaa
set_option linter.all false
open Go Go.Eng
theorem errF_ne {fs : List Fil} {f : Fil} {r : ByteArray × Int} (h : errF fs f = some r) : r.2 ≠ 0 := by
 unfold errF at h
 cases h1 : err1 fs f with
 | some r1 => rw [h1] at h; cases h; exact errN_ne h1
 | none => rw [h1] at h; exact errN_ne (show err2 fs f = some r from h)
def msgsF (fs : List Fil) (f : Fil) : List Msg := f.messages.map fun m => (mS fs f m).1
def svcsF (fs : List Fil) (f : Fil) : List Svc := f.services.map fun v => (vS' fs f v).1
def enmsF (f : Fil) : List Enm := f.enums.map fun e => { e with name := joinB f.space e.name }
theorem msgsAll_snoc (l : List Fil) (x : Fil) : msgsAll (l ++ [x]) = msgsAll l ++ own1 x := by simp [msgsAll]
theorem enmsAll_snoc (l : List Fil) (x : Fil) : enmsAll (l ++ [x]) = enmsAll l ++ enmsF x := by simp [enmsAll, enmsF]
theorem flat_snoc {α : Type} (g : Fil → List α) (l : List Fil) (x : Fil) : (l ++ [x]).flatMap g = l.flatMap g ++ g x := by simp
theorem len_fm {α : Type} (g : Fil → List α) (n : Fil → Nat) (hg : ∀ f, (g f).length = n f) (l : List Fil) : (l.flatMap g).length = (l.map n).sum := by
 rw [len_flatMap]; congr 1; congr 1; funext f; exact hg f
theorem len_part {fs : List Fil} (h : SzA fs) {α : Type} (g : Fil → List α) (n : Fil → Nat) (hg : ∀ f, (g f).length = n f) (hn : ∀ f, n f ≤ tot f) {i : Nat} {f : Fil} (hf : fs[i]? = some f) : ((fs.take i).flatMap g).length + n f ≤ 1048576 := by
 have h1 := sum_take_at tot hf
 have h2 := h.t
 have h3 : ((fs.take i).flatMap g).length ≤ ((fs.take i).map tot).sum := by
  rw [len_fm g n hg]
  generalize fs.take i = l
  induction l with
  | nil => exact Nat.le_refl _
  | cons x l ih => simp only [List.map_cons, List.sum_cons]; have := hn x; omega
 have := hn f
 omega
theorem tot1 (f : Fil) : f.messages.length ≤ tot f := by unfold tot; omega
theorem tot2 (f : Fil) : f.enums.length ≤ tot f := by unfold tot; omega
theorem tot3 (f : Fil) : f.services.length ≤ tot f := by unfold tot; omega
theorem m26 (l : List Enm) (h : l.length < 549755813888) : M_Clone_Enum l = some l := by
 unfold M_Clone_Enum
 simp only [T26_1, al, frt, stp, br, ix, ixi, vz, vy, vw, vs, vg, v2, lr, lrt, ln, lxe, lc, lf, lfe, ap, aq, a0, a1, ad, cl, cs, cf, wa, wi, ir, ca, cp, dd, mv, st, ss, sL, Bd.c, Bd.vl, Bool.false_eq_true, if_false, h, if_true]
theorem m9_1 (fs : List Fil) (h : SzA fs) : loopM (B9_1 fs) big (0, [], []) = some (.inl (msgsAll fs, enmsAll fs)) := by
 have hn := h.n
 have q2 : ∀ (v : Nat) (r4 : List ByteArray) (f : Fil) (y : List ByteArray × List ByteArray × List ByteArray) (b : List Enm), SzF f → b.length + f.enums.length ≤ 1048576 → loopM (B9_2 fs v r4 f y) big (0, b) = some (.inl (b ++ enmsF f)) := fun v r4 f y b hf hb => by
  have z := hf.sp
  have := loop_pre0 (B := B9_2 fs v r4 f y) (N := big) f.enums (fun p => b ++ p.map fun e => ({ e with name := joinB f.space e.name } : Enm)) (fun i c => (i, c)) id (hN := big_gt (by omega)) (he := by simp [B9_2, B9_1, B9_4, B9_5, B9_3, T9_1, T9_2, T9_3, T9_4, T9_5, T9_6, T9_7, T9_8, T9_9, T9_10, T9_11, T9_12, T9_13, T9_14, T9_15, T9_16, T9_17, T9_18, T9_19, T9_20, T9_21, T9_22, T9_23, T9_24, T9_25, T9_26, T9_27, T9_28, T9_29, T9_30, T9_31, T9_32, T9_33, T9_34, T9_35, T9_36, T9_37, T9_38, al, frt, stp, br, ix, ixi, vz, vy, vw, vs, vg, v2, lr, lrt, ln, lxe, lc, lf, lfe, ap, aq, a0, a1, ad, cl, cs, cf, wa, wi, ir, ca, cp, dd, mv, st, ss, sL, Bd.c, Bd.vl]) (hs := by
   intro i e he
   have g1 := (List.getElem?_eq_some_iff.1 he).1
   have g2 : i + 1 < 9223372036854775808 := by omega
   have g3 : (b ++ (f.enums.take i).map fun e => ({ e with name := joinB f.space e.name } : Enm)).length < 549755813887 := by rw [List.length_append, List.length_map, List.length_take]; omega
   have g4 := m25 f.space e.name (by omega) (by have := hf.nm2 e (List.mem_of_getElem? he); omega)
   simp only [B9_2, T9_1, T9_2, T9_3, T9_4, T9_5, T9_6, T9_7, T9_8, T9_9, T9_10, T9_11, T9_12, T9_13, T9_14, T9_15, T9_16, T9_17, T9_18, T9_19, T9_20, T9_21, T9_22, T9_23, T9_24, T9_25, T9_26, T9_27, T9_28, T9_29, T9_30, T9_31, T9_32, T9_33, T9_34, T9_35, T9_36, T9_37, T9_38, al, frt, stp, br, ix, ixi, vz, vy, vw, vs, vg, v2, lr, lrt, ln, lxe, lc, lf, lfe, ap, aq, a0, a1, ad, cl, cs, cf, wa, wi, ir, ca, cp, dd, mv, st, ss, sL, Bd.c, Bd.vl, g1, g2, g3, g4, he, Option.bind_some, Int.ofNat_lt, decide_true, if_true, List.map_append, List.map_cons, List.map_nil, List.append_assoc])
  rw [List.map_nil, List.append_nil] at this
  exact this
 exact loop_pre0 (B := B9_1 fs) (N := big) fs (fun p => (msgsAll p, enmsAll p)) (fun i c => (i, c.1, c.2)) id (hN := big_gt (by omega)) (he := by simp [B9_1, T9_1, T9_2, T9_3, T9_4, T9_5, T9_6, T9_7, T9_8, T9_9, T9_10, T9_11, T9_12, T9_13, T9_14, T9_15, T9_16, T9_17, T9_18, T9_19, T9_20, T9_21, T9_22, T9_23, T9_24, T9_25, T9_26, T9_27, T9_28, T9_29, T9_30, T9_31, T9_32, T9_33, T9_34, T9_35, T9_36, T9_37, T9_38, al, frt, stp, br, ix, ixi, vz, vy, vw, vs, vg, v2, lr, lrt, ln, lxe, lc, lf, lfe, ap, aq, a0, a1, ad, cl, cs, cf, wa, wi, ir, ca, cp, dd, mv, st, ss, sL, Bd.c, Bd.vl]) (hs := by
  intro i f hf
  have g1 := (List.getElem?_eq_some_iff.1 hf).1
  have g2 : i + 1 < 9223372036854775808 := by omega
  have hz := h.f f (List.mem_of_getElem? hf)
  have g3 := len_part h own1 (fun f => f.messages.length) len_own1 tot1 hf
  have g4 := len_part h enmsF (fun f => f.enums.length) (fun f => by simp [enmsF]) tot2 hf
  have g5 : (msgsAll (fs.take i)).length + (own1 f).length < 549755813888 := by rw [len_own1]; exact Nat.lt_of_le_of_lt g3 (by decide)
  have g6 := q2 i (msgsAll (fs.take i)) f (own1 f, own2 f, own3 f) (enmsAll (fs.take i)) hz g4
  simp only [B9_1, T9_1, T9_2, T9_3, T9_4, T9_5, T9_6, T9_7, T9_8, T9_9, T9_10, T9_11, T9_12, T9_13, T9_14, T9_15, T9_16, T9_17, T9_18, T9_19, T9_20, T9_21, T9_22, T9_23, T9_24, T9_25, T9_26, T9_27, T9_28, T9_29, T9_30, T9_31, T9_32, T9_33, T9_34, T9_35, T9_36, T9_37, T9_38, al, frt, stp, br, ix, ixi, vz, vy, vw, vs, vg, v2, lr, lrt, ln, lxe, lc, lf, lfe, ap, aq, a0, a1, ad, cl, cs, cf, wa, wi, ir, ca, cp, dd, mv, st, ss, sL, Bd.c, Bd.vl, g1, g2, g5, g6, m24 f hz, hf, Option.bind_some, Int.ofNat_lt, decide_true, if_true, Sum.elim_inl, msgsAll_snoc, enmsAll_snoc])
theorem m9_4 (fs : List Fil) (h : Base0 fs) (f : Fil) (hf : f ∈ fs) (y15 : List Enm) (v : Nat) (r18 : List Svc) (b : List Msg) (hb : b.length + f.messages.length ≤ 1048576) (hM : (msgsAll fs).length < 4611686018427387904) (hE : (enmsAll fs).length < 4611686018427387904) :
  loopM (B9_4 fs (enmsAll fs) y15 v r18 (msgsAll fs) f (visOf fs f)) big (0, b) = some ((err1 fs f).elim (.inl (b ++ msgsF fs f)) fun r => .inr (⟨[], [], []⟩, r.1, r.2)) := by
 have hz := h.a.f f hf
 have hg := h.g f hf
 have hv := vis_len h hf
 have z1 := hz.sp
 have hE2 : ∀ e ∈ enmsAll fs, e.items.length < 4611686018427387904 := fun e he => by
  obtain ⟨f', hf', he⟩ := List.mem_flatMap.1 he
  obtain ⟨e', he', rfl⟩ := List.mem_map.1 he
  have := (h.g f' hf').ei e' he'
  exact Nat.lt_of_lt_of_le this (by decide)
 have := loop_pre (B := B9_4 fs (enmsAll fs) y15 v r18 (msgsAll fs) f (visOf fs f)) (N := big) f.messages (fun p => b ++ p.map fun m => (mS fs f m).1) (fun _ m => if (mS fs f m).2 = 0 then none else some (⟨[], [], []⟩, joinB f.space m.name, (mS fs f m).2)) (fun i c => (i, c)) (fun c => c) (hN := big_gt (by omega)) (he := by simp [B9_4, T9_1, T9_2, T9_3, T9_4, T9_5, T9_6, T9_7, T9_8, T9_9, T9_10, T9_11, T9_12, T9_13, T9_14, T9_15, T9_16, T9_17, T9_18, T9_19, T9_20, T9_21, T9_22, T9_23, T9_24, T9_25, T9_26, T9_27, T9_28, T9_29, T9_30, T9_31, T9_32, T9_33, T9_34, T9_35, T9_36, T9_37, T9_38, al, frt, stp, br, ix, ixi, vz, vy, vw, vs, vg, v2, lr, lrt, ln, lxe, lc, lf, lfe, ap, aq, a0, a1, ad, cl, cs, cf, wa, wi, ir, ca, cp, dd, mv, st, ss, sL, Bd.c, Bd.vl]) (hs := by
  intro i m hm
  have g1 := (List.getElem?_eq_some_iff.1 hm).1
  have g2 : i + 1 < 9223372036854775808 := by omega
  have hmm := List.mem_of_getElem? hm
  have g3 : (b ++ (f.messages.take i).map fun m => (mS fs f m).1).length < 549755813887 := by rw [List.length_append, List.length_map, List.length_take]; omega
  obtain ⟨y, y1, y2, y3⟩ := m28 ⟨fs, f, visOf fs f, msgsAll fs, enmsAll fs⟩ m z1 (hz.nm1 m hmm) (hg.fl m hmm) (hg.ft m hmm) (by show (visOf fs f).length < _; omega) hM hE hE2 h.u
  change M_link_linker_message _ m = some (y, (mS fs f m).2) at y1
  change y.name = joinB f.space m.name at y2
  change (mS fs f m).2 = 0 → y = (mS fs f m).1 at y3
  simp only [B9_4, T9_1, T9_2, T9_3, T9_4, T9_5, T9_6, T9_7, T9_8, T9_9, T9_10, T9_11, T9_12, T9_13, T9_14, T9_15, T9_16, T9_17, T9_18, T9_19, T9_20, T9_21, T9_22, T9_23, T9_24, T9_25, T9_26, T9_27, T9_28, T9_29, T9_30, T9_31, T9_32, T9_33, T9_34, T9_35, T9_36, T9_37, T9_38, al, frt, stp, br, ix, ixi, vz, vy, vw, vs, vg, v2, lr, lrt, ln, lxe, lc, lf, lfe, ap, aq, a0, a1, ad, cl, cs, cf, wa, wi, ir, ca, cp, dd, mv, st, ss, sL, Bd.c, Bd.vl, g1, g2, g3, y1, hm, Option.bind_some, Int.ofNat_lt, decide_true, if_true, List.map_append, List.map_cons, List.map_nil]
  by_cases hc : (mS fs f m).2 = 0
  ·simp only [hc, y3 hc, decide_true, Bool.not_true, Bool.false_eq_true, if_false, if_true, List.append_assoc]
  ·simp only [hc, y2, decide_false, Bool.not_false, if_true, if_false])
 rw [List.map_nil, List.append_nil, firstR_some, find_errN (mS fs f) (fun m => joinB f.space m.name) (fun n c => ((⟨[], [], []⟩, n, c) : Scm × ByteArray × Int))] at this
 rw [this]
 unfold err1 msgsF
 cases errN (mS fs f) (fun m => joinB f.space m.name) f.messages <;> rfl
theorem m9_5 (fs : List Fil) (h : Base0 fs) (f : Fil) (hf : f ∈ fs) (y15 : List Enm) (v : Nat) (r33 : List Msg) (b : List Svc) (hb : b.length + f.services.length ≤ 1048576) (hM : (msgsAll fs).length < 4611686018427387904) :
  loopM (B9_5 fs (enmsAll fs) y15 v (msgsAll fs) f (visOf fs f) r33) big (0, b) = some ((err2 fs f).elim (.inl (b ++ svcsF fs f)) fun r => .inr (⟨[], [], []⟩, r.1, r.2)) := by
 have hz := h.a.f f hf
 have hg := h.g f hf
 have hv := vis_len h hf
 have z1 := hz.sp
 have := loop_pre (B := B9_5 fs (enmsAll fs) y15 v (msgsAll fs) f (visOf fs f) r33) (N := big) f.services (fun p => b ++ p.map fun m => (vS' fs f m).1) (fun _ m => if (vS' fs f m).2 = 0 then none else some (⟨[], [], []⟩, joinB f.space m.name, (vS' fs f m).2)) (fun i c => (i, c)) (fun c => c) (hN := big_gt (by omega)) (he := by simp [B9_5, T9_1, T9_2, T9_3, T9_4, T9_5, T9_6, T9_7, T9_8, T9_9, T9_10, T9_11, T9_12, T9_13, T9_14, T9_15, T9_16, T9_17, T9_18, T9_19, T9_20, T9_21, T9_22, T9_23, T9_24, T9_25, T9_26, T9_27, T9_28, T9_29, T9_30, T9_31, T9_32, T9_33, T9_34, T9_35, T9_36, T9_37, T9_38, al, frt, stp, br, ix, ixi, vz, vy, vw, vs, vg, v2, lr, lrt, ln, lxe, lc, lf, lfe, ap, aq, a0, a1, ad, cl, cs, cf, wa, wi, ir, ca, cp, dd, mv, st, ss, sL, Bd.c, Bd.vl]) (hs := by
  intro i m hm
  have g1 := (List.getElem?_eq_some_iff.1 hm).1
  have g2 : i + 1 < 9223372036854775808 := by omega
  have hmm := List.mem_of_getElem? hm
  have g3 : (b ++ (f.services.take i).map fun m => (vS' fs f m).1).length < 549755813887 := by rw [List.length_append, List.length_map, List.length_take]; omega
  obtain ⟨y, y1, y2, y3⟩ := m29 ⟨fs, f, visOf fs f, msgsAll fs, enmsAll fs⟩ m z1 (hz.nm3 m hmm) (hg.ml m hmm) (hg.mi m hmm) (by show (visOf fs f).length < _; omega) hM
  change M_link_linker_service _ m = some (y, (vS' fs f m).2) at y1
  change y.name = joinB f.space m.name at y2
  change (vS' fs f m).2 = 0 → y = (vS' fs f m).1 at y3
  simp only [B9_5, T9_1, T9_2, T9_3, T9_4, T9_5, T9_6, T9_7, T9_8, T9_9, T9_10, T9_11, T9_12, T9_13, T9_14, T9_15, T9_16, T9_17, T9_18, T9_19, T9_20, T9_21, T9_22, T9_23, T9_24, T9_25, T9_26, T9_27, T9_28, T9_29, T9_30, T9_31, T9_32, T9_33, T9_34, T9_35, T9_36, T9_37, T9_38, al, frt, stp, br, ix, ixi, vz, vy, vw, vs, vg, v2, lr, lrt, ln, lxe, lc, lf, lfe, ap, aq, a0, a1, ad, cl, cs, cf, wa, wi, ir, ca, cp, dd, mv, st, ss, sL, Bd.c, Bd.vl, g1, g2, g3, y1, hm, Option.bind_some, Int.ofNat_lt, decide_true, if_true, List.map_append, List.map_cons, List.map_nil]
  by_cases hc : (vS' fs f m).2 = 0
  ·simp only [hc, y3 hc, decide_true, Bool.not_true, Bool.false_eq_true, if_false, if_true, List.append_assoc]
  ·simp only [hc, y2, decide_false, Bool.not_false, if_true, if_false])
 rw [List.map_nil, List.append_nil, firstR_some, find_errN (vS' fs f) (fun m => joinB f.space m.name) (fun n c => ((⟨[], [], []⟩, n, c) : Scm × ByteArray × Int))] at this
 rw [this]
 unfold err2 svcsF
 cases errN (vS' fs f) (fun m => joinB f.space m.name) f.services <;> rfl
def lastI (fs p : List Fil) : ByteArray × ByteArray × List ByteArray × List Msg × List Enm × List Svc × List ByteArray := match p.getLast? with
 | none => (⟨#[]⟩, ⟨#[]⟩, [], [], [], [], [])
 | some f => (f.name, f.space, f.imports, f.messages, f.enums, f.services, visOf fs f)
theorem lastI_snoc (fs p : List Fil) (f : Fil) : lastI fs (p ++ [f]) = (f.name, f.space, f.imports, f.messages, f.enums, f.services, visOf fs f) := by unfold lastI; rw [List.getLast?_concat]
theorem m9_3 (fs : List Fil) (h : Base0 fs) (y15 : List Enm) (hM : (msgsAll fs).length < 4611686018427387904) (hE : (enmsAll fs).length < 4611686018427387904) :
  loopM (B9_3 fs (enmsAll fs) y15) big (0, [], [], ⟨#[]⟩, ⟨#[]⟩, [], [], [], [], [], msgsAll fs) = some ((fs.findSome? (errF fs)).elim (.inl (fs.flatMap (msgsF fs), fs.flatMap (svcsF fs))) fun r => .inr (⟨[], [], []⟩, r.1, r.2)) := by
 have hn := h.a.n
 have := loop_pre (B := B9_3 fs (enmsAll fs) y15) (N := big) fs (fun p => (p.flatMap (msgsF fs), p.flatMap (svcsF fs), lastI fs p)) (fun _ f => (errF fs f).map fun r => ((⟨[], [], []⟩, r.1, r.2) : Scm × ByteArray × Int)) (fun i c => (i, c.1, c.2.1, c.2.2.1, c.2.2.2.1, c.2.2.2.2.1, c.2.2.2.2.2.1, c.2.2.2.2.2.2.1, c.2.2.2.2.2.2.2.1, c.2.2.2.2.2.2.2.2, msgsAll fs)) (fun c => (c.1, c.2.1)) (hN := big_gt (by omega)) (he := by simp [B9_3, T9_1, T9_2, T9_3, T9_4, T9_5, T9_6, T9_7, T9_8, T9_9, T9_10, T9_11, T9_12, T9_13, T9_14, T9_15, T9_16, T9_17, T9_18, T9_19, T9_20, T9_21, T9_22, T9_23, T9_24, T9_25, T9_26, T9_27, T9_28, T9_29, T9_30, T9_31, T9_32, T9_33, T9_34, T9_35, T9_36, T9_37, T9_38, al, frt, stp, br, ix, ixi, vz, vy, vw, vs, vg, v2, lr, lrt, ln, lxe, lc, lf, lfe, ap, aq, a0, a1, ad, cl, cs, cf, wa, wi, ir, ca, cp, dd, mv, st, ss, sL, Bd.c, Bd.vl]) (hs := by
  intro i f hf
  have g1 := (List.getElem?_eq_some_iff.1 hf).1
  have g2 : i + 1 < 9223372036854775808 := by omega
  have hm := List.mem_of_getElem? hf
  have g3 := len_part h.a (msgsF fs) (fun f => f.messages.length) (fun f => by simp [msgsF]) tot1 hf
  have g4 := len_part h.a (svcsF fs) (fun f => f.services.length) (fun f => by simp [svcsF]) tot3 hf
  have g5 := m9_4 fs h f hm y15 i ((fs.take i).flatMap (svcsF fs)) _ g3 hM hE
  have g6 := fun r33 => m9_5 fs h f hm y15 i r33 _ g4 hM
  simp only [B9_3, T9_1, T9_2, T9_3, T9_4, T9_5, T9_6, T9_7, T9_8, T9_9, T9_10, T9_11, T9_12, T9_13, T9_14, T9_15, T9_16, T9_17, T9_18, T9_19, T9_20, T9_21, T9_22, T9_23, T9_24, T9_25, T9_26, T9_27, T9_28, T9_29, T9_30, T9_31, T9_32, T9_33, T9_34, T9_35, T9_36, T9_37, T9_38, al, frt, stp, br, ix, ixi, vz, vy, vw, vs, vg, v2, lr, lrt, ln, lxe, lc, lf, lfe, ap, aq, a0, a1, ad, cl, cs, cf, wa, wi, ir, ca, cp, dd, mv, st, ss, sL, Bd.c, Bd.vl, g1, g2, g5, m27 fs f h.a hm (h.i f hm), hf, Option.bind_some, Int.ofNat_lt, decide_true, if_true, errF]
  cases err1 fs f with
  | some r => rfl
  | none =>
   simp only [Option.elim, Option.bind_some, Sum.elim_inl, Option.or, g6]
   cases err2 fs f with
   | some r => rfl
   | none => simp only [Option.elim, Option.bind_some, Sum.elim_inl, Option.map_none, g2, if_true, flat_snoc, lastI_snoc])
 rw [firstR_some] at this
 refine this.trans ?_
 congr 1
 clear this
 have : ∀ l : List Fil, (l.findSome? fun f => (errF fs f).map fun r => ((⟨[], [], []⟩, r.1, r.2) : Scm × ByteArray × Int)) = (l.findSome? (errF fs)).map fun r => (⟨[], [], []⟩, r.1, r.2) := fun l => by
  induction l with
  | nil => rfl
  | cons f l ih =>
   rw [List.findSome?_cons, List.findSome?_cons]
   cases errF fs f with
   | some r => rfl
   | none => exact ih
 rw [this]
 cases fs.findSome? (errF fs) <;> rfl
end Go.Proofs.Ythagpbkmakocjaa
namespace Go.Proofs.Ythagpbkmakocjaa
set_option linter.all false
open Go Go.Eng
structure OkM (m : Msg) : Prop where
 f : m.fields.length < 4611686018427387904
 r : m.reserved.length < 4611686018427387904
 g : m.gone.length < 4611686018427387904
 n : m.notes.length < 4611686018427387904
 d : ∀ d ∈ m.fields, d.notes.length < 4611686018427387904
structure OkE (e : Enm) : Prop where
 i : e.items.length < 4611686018427387904
 r : e.reserved.length < 4611686018427387904
 n : e.notes.length < 4611686018427387904
 d : ∀ d ∈ e.items, d.notes.length < 4611686018427387904
structure OkV (v : Svc) : Prop where
 m : v.methods.length < 4611686018427387904
 n : v.notes.length < 4611686018427387904
 d : ∀ d ∈ v.methods, d.notes.length < 4611686018427387904
structure OkS (s : Scm) : Prop where
 m : s.messages.length < 4611686018427387904
 e : s.enums.length < 4611686018427387904
 v : s.services.length < 4611686018427387904
 om : ∀ m ∈ s.messages, OkM m
 oe : ∀ m ∈ s.enums, OkE m
 ov : ∀ m ∈ s.services, OkV m
theorem dup_none {ρ : Type} {n : ByteArray → ρ} : ∀ {l p : List ByteArray}, firstR (dupR n) p l = none → l.Nodup ∧ ∀ x ∈ l, x ∉ p
 | [], p, _ => ⟨List.nodup_nil, fun x h => by cases h⟩
 | x :: l, p, h => by
  rw [firstR] at h
  have hx : dupR n p x = none := by cases hd : dupR n p x with | none => rfl | some r => rw [hd] at h; cases h
  rw [hx] at h
  obtain ⟨h1, h2⟩ := dup_none h
  have hxp : x ∉ p := fun hm => by
   unfold dupR at hx
   rw [if_pos (List.any_eq_true.2 ⟨x, hm, by simp⟩)] at hx
   cases hx
  refine ⟨List.nodup_cons.2 ⟨fun hm => h2 x hm (by simp), h1⟩, fun y hy => ?_⟩
  rcases List.mem_cons.1 hy with rfl | hy
  ·exact hxp
  ·exact fun hm => h2 y hy (by simp [hm])
theorem memB_iff {l : List ByteArray} {x : ByteArray} : memB l x = true ↔ x ∈ l := by
 unfold memB
 rw [List.any_eq_true]
 exact ⟨fun ⟨y, hy, h⟩ => by simpa [of_decide_eq_true h] using hy, fun h => ⟨x, h, by simp⟩⟩
theorem enum_mem {f : Fil} {x : ByteArray} {e : Enm} (h : f.enums.find? (fun y => decide (joinB f.space y.name = x)) = some e) : x ∈ own2 f := by
 have h1 := List.mem_of_find?_eq_some h
 have h2 := List.find?_some h
 unfold own2
 exact List.mem_map.2 ⟨e, h1, by simpa using h2⟩
theorem enumR_mem {fs : List Fil} {x : ByteArray} {e : Enm} (h : enumR fs x = some e) : x ∈ namesAll fs := by
 unfold enumR at h
 obtain ⟨f, hf, h⟩ := List.exists_of_findSome?_eq_some h
 exact List.mem_flatMap.2 ⟨f, hf, by unfold namesOf; simp [enum_mem h]⟩
theorem uniq_d : ∀ {fs : List Fil}, (namesAll fs).Nodup → ∀ x, memB (msgsAll fs) x = true → enumR fs x = none
 | [], _, x, h => rfl
 | f :: fs, hn, x, h => by
  rw [show namesAll (f :: fs) = namesOf f ++ namesAll fs from by simp [namesAll], List.nodup_append] at hn
  obtain ⟨n1, n2, n3⟩ := hn
  rw [memB_iff, show msgsAll (f :: fs) = own1 f ++ msgsAll fs from by simp [msgsAll], List.mem_append] at h
  show List.findSome? _ (f :: fs) = none
  rw [List.findSome?_cons]
  have hsub : ∀ y, y ∈ msgsAll fs → y ∈ namesAll fs := fun y hy => by
   obtain ⟨g, hg, hy⟩ := List.mem_flatMap.1 hy
   exact List.mem_flatMap.2 ⟨g, hg, by unfold namesOf; simp [hy]⟩
  cases he : f.enums.find? (fun y => decide (joinB f.space y.name = x)) with
  | some e =>
   exfalso
   have h2 := enum_mem he
   rcases h with h | h
   ·unfold namesOf at n1
    rw [List.append_assoc, List.nodup_append] at n1
    exact n1.2.2 x h x (by simp [h2]) rfl
   ·exact n3 x (by unfold namesOf; simp [h2]) x (hsub x h) rfl
  | none =>
   show enumR fs x = none
   rcases h with h | h
   ·cases hr : enumR fs x with
    | none => rfl
    | some e => exact absurd rfl (n3 x (by unfold namesOf; simp [h]) x (enumR_mem hr))
   ·exact uniq_d n2 x (memB_iff.2 h)
theorem uniq_u {fs : List Fil} (hn : (namesAll fs).Nodup) : (enmsAll fs).Pairwise fun a b => a.name ≠ b.name := by
 have h1 : (enmsAll fs).map (fun e => e.name) = fs.flatMap own2 := by
  unfold enmsAll
  clear hn
  induction fs with
  | nil => rfl
  | cons f l ih => rw [List.flatMap_cons, List.flatMap_cons, List.map_append, ih]; simp [own2]
 have h2 : (fs.flatMap own2).Sublist (namesAll fs) := by
  unfold namesAll
  clear hn h1
  induction fs with
  | nil => exact List.Sublist.refl _
  | cons f l ih =>
   rw [List.flatMap_cons, List.flatMap_cons]
   refine List.Sublist.append ?_ ih
   unfold namesOf
   exact (List.sublist_append_right (own1 f) (own2 f)).trans (List.sublist_append_left _ _)
 have h3 := hn.sublist h2
 rw [← h1] at h3
 exact List.pairwise_map.1 h3
end Go.Proofs.Ythagpbkmakocjaa
namespace Go.Proofs.Ythagpbkmakocjaa
set_option linter.all false
open Go Go.Eng
def chk1 (fs : List Fil) : Option ByteArray := firstR (fun p (f : Fil) => if (ixP fs fun y => decide (y.name = f.name)) < (p.length : Int) then some f.name else none) [] fs
def lost (fs : List Fil) (f : Fil) : Bool := f.imports.any fun s => decide ((ixP fs fun y => decide (y.name = s)) < 0)
def chk2 (fs : List Fil) : Option ByteArray := fs.findSome? fun f => if lost fs f = true then some f.name else none
theorem firstR_mapR {α ρ τ : Type} {R : List α → α → Option ρ} {R' : List α → α → Option τ} {g : ρ → τ} (h : ∀ p x, R' p x = (R p x).map g) : ∀ (l p : List α), firstR R' p l = (firstR R p l).map g
 | [], p => rfl
 | x :: l, p => by
  rw [firstR, firstR, h]
  cases R p x with
  | some r => rfl
  | none => exact firstR_mapR h l _
theorem m22_1 (fs : List Fil) (h : fs.length ≤ 1048576) : loopM (B22_1 fs) big 0 = some ((chk1 fs).elim (.inl ()) fun s => .inr ([], s, 9)) := by
 have := loop_pre (B := B22_1 fs) (N := big) fs (fun _ => ()) (fun p (f : Fil) => if (ixP fs fun y => decide (y.name = f.name)) < (p.length : Int) then some (([], f.name, 9) : List Int × ByteArray × Int) else none) (fun i _ => i) (fun _ => ()) (hN := big_gt (by omega)) (he := by simp [B22_1, T22_1, T22_2, T22_3, T22_4, T22_5, T22_6, T22_7, T22_8, T22_9, T22_10, T22_11, T22_12, al, frt, stp, br, ix, ixi, vz, vy, vw, vs, vg, v2, lr, lrt, ln, lxe, lc, lf, lfe, ap, aq, a0, a1, ad, cl, cs, cf, wa, wi, ir, ca, cp, dd, mv, st, ss, sL, Bd.c, Bd.vl]) (hs := by
  intro i f hf
  have g1 := (List.getElem?_eq_some_iff.1 hf).1
  have g2 : i + 1 < 9223372036854775808 := by omega
  have g3 := m51 fs f.name (by omega)
  have g4 : (fs.take i).length = i := by rw [List.length_take]; omega
  simp only [B22_1, T22_1, T22_2, T22_3, T22_4, T22_5, T22_6, T22_7, T22_8, T22_9, T22_10, T22_11, T22_12, al, frt, stp, br, ix, ixi, vz, vy, vw, vs, vg, v2, lr, lrt, ln, lxe, lc, lf, lfe, ap, aq, a0, a1, ad, cl, cs, cf, wa, wi, ir, ca, cp, dd, mv, st, ss, sL, Bd.c, Bd.vl, g1, g2, g3, g4, hf, Option.bind_some, Int.ofNat_lt, decide_true, if_true, decide_eq_true_eq]
  split <;> rfl)
 rw [this]
 unfold chk1
 rw [firstR_mapR (g := fun s => (([], s, 9) : List Int × ByteArray × Int)) (R := fun p (f : Fil) => if (ixP fs fun y => decide (y.name = f.name)) < (p.length : Int) then some f.name else none) (fun p x => by split <;> rfl)]
 cases firstR (fun p (f : Fil) => if (ixP fs fun y => decide (y.name = f.name)) < (p.length : Int) then some f.name else none) [] fs <;> rfl
theorem m22_2 (fs : List Fil) (h : fs.length ≤ 1048576) (hi : ∀ f ∈ fs, f.imports.length < 2147483648) : loopM (B22_2 fs) big 0 = some ((chk2 fs).elim (.inl ()) fun s => .inr ([], s, 10)) := by
 have q2 : ∀ (v : Nat) (f : Fil), fs[v]? = some f → loopM (B22_3 fs v f) big 0 = some (match f.imports.findIdx? (fun s => decide ((ixP fs fun y => decide (y.name = s)) < 0)) with | some i => .inr ([], f.name, 10) | none => .inl ()) := fun v f hf => by
  have h0 := hi f (List.mem_of_getElem? hf)
  refine loop_find f.imports (fun s => decide ((ixP fs fun y => decide (y.name = s)) < 0)) (fun _ => ([], f.name, 10)) () (hN := big_gt (by omega)) (he := by simp [B22_3, T22_1, T22_2, T22_3, T22_4, T22_5, T22_6, T22_7, T22_8, T22_9, T22_10, T22_11, T22_12, al, frt, stp, br, ix, ixi, vz, vy, vw, vs, vg, v2, lr, lrt, ln, lxe, lc, lf, lfe, ap, aq, a0, a1, ad, cl, cs, cf, wa, wi, ir, ca, cp, dd, mv, st, ss, sL, Bd.c, Bd.vl]) (hs := ?_)
  intro i s hs
  have g1 := (List.getElem?_eq_some_iff.1 hs).1
  have g2 : i + 1 < 9223372036854775808 := by omega
  have g3 := m51 fs s (by omega)
  simp only [B22_3, T22_1, T22_2, T22_3, T22_4, T22_5, T22_6, T22_7, T22_8, T22_9, T22_10, T22_11, T22_12, al, frt, stp, br, ix, ixi, vz, vy, vw, vs, vg, v2, lr, lrt, ln, lxe, lc, lf, lfe, ap, aq, a0, a1, ad, cl, cs, cf, wa, wi, ir, ca, cp, dd, mv, st, ss, sL, Bd.c, Bd.vl, g1, g2, g3, hs, hf, Option.bind_some, Int.ofNat_lt, decide_true, if_true]
  split <;> rfl
 have := loop_pre (B := B22_2 fs) (N := big) fs (fun _ => ()) (fun _ (f : Fil) => if lost fs f = true then some (([], f.name, 10) : List Int × ByteArray × Int) else none) (fun i _ => i) (fun _ => ()) (hN := big_gt (by omega)) (he := by simp [B22_2, T22_1, T22_2, T22_3, T22_4, T22_5, T22_6, T22_7, T22_8, T22_9, T22_10, T22_11, T22_12, al, frt, stp, br, ix, ixi, vz, vy, vw, vs, vg, v2, lr, lrt, ln, lxe, lc, lf, lfe, ap, aq, a0, a1, ad, cl, cs, cf, wa, wi, ir, ca, cp, dd, mv, st, ss, sL, Bd.c, Bd.vl]) (hs := by
  intro i f hf
  have g1 := (List.getElem?_eq_some_iff.1 hf).1
  have g2 : i + 1 < 9223372036854775808 := by omega
  have g3 := q2 i f hf
  have g4 : lost fs f = (f.imports.findIdx? fun s => decide ((ixP fs fun y => decide (y.name = s)) < 0)).isSome := by unfold lost; rw [List.findIdx?_isSome]
  simp only [B22_2, T22_1, T22_2, T22_3, T22_4, T22_5, T22_6, T22_7, T22_8, T22_9, T22_10, T22_11, T22_12, al, frt, stp, br, ix, ixi, vz, vy, vw, vs, vg, v2, lr, lrt, ln, lxe, lc, lf, lfe, ap, aq, a0, a1, ad, cl, cs, cf, wa, wi, ir, ca, cp, dd, mv, st, ss, sL, Bd.c, Bd.vl, g1, g2, g3, hf, Option.bind_some, Int.ofNat_lt, decide_true, if_true, g4]
  cases f.imports.findIdx? (fun s => decide ((ixP fs fun y => decide (y.name = s)) < 0)) <;> rfl)
 rw [this, firstR_some]
 unfold chk2
 congr 1
 have : ∀ l : List Fil, (l.findSome? fun f => if lost fs f = true then some (([], f.name, 10) : List Int × ByteArray × Int) else none) = (l.findSome? fun f => if lost fs f = true then some f.name else none).map fun s => ([], s, 10) := fun l => by
  induction l with
  | nil => rfl
  | cons f l ih =>
   rw [List.findSome?_cons, List.findSome?_cons]
   cases lost fs f with
   | true => rfl
   | false => exact ih
 rw [this]
 cases fs.findSome? (fun f => if lost fs f = true then some f.name else none) <;> rfl
theorem chk2_none {fs : List Fil} (h : chk2 fs = none) : ∀ f ∈ fs, FoundI fs f := fun f hf s hs => by
 have h1 := List.findSome?_eq_none_iff.1 h f hf
 have h2 : lost fs f = false := by cases hl : lost fs f with | false => rfl | true => rw [hl] at h1; cases h1
 unfold lost at h2
 rw [List.any_eq_false] at h2
 have := h2 s hs
 simp only [decide_eq_true_eq] at this
 omega
def fi (fs : List Fil) (s : ByteArray) : Nat := (ixP fs fun y => decide (y.name = s)).toNat
def markL (fs : List Fil) (l : List ByteArray) (r : List Bool) : List Bool := l.foldl (fun r s => r.set (fi fs s) true) r
def passL (fs : List Fil) (xs : List Nat) (r : List Bool) : List Bool := xs.foldl (fun r x => if r.getD x false = true then markL fs (fs.getD x zFil).imports r else r) r
def impP (fs : List Fil) (a : Nat) : List Bool := (List.range fs.length).foldl (fun r _ => passL fs (List.range fs.length) r) (markL fs (fs.getD a zFil).imports (List.replicate fs.length false))
theorem markL_len (fs : List Fil) : ∀ (l : List ByteArray) (r : List Bool), (markL fs l r).length = r.length
 | [], r => rfl
 | s :: l, r => by unfold markL; rw [List.foldl_cons]; exact (markL_len fs l _).trans (List.length_set)
theorem passL_len (fs : List Fil) : ∀ (xs : List Nat) (r : List Bool), (passL fs xs r).length = r.length
 | [], r => rfl
 | x :: xs, r => by
  unfold passL
  rw [List.foldl_cons]
  refine (passL_len fs xs _).trans ?_
  split
  ·exact markL_len _ _ _
  ·rfl
theorem fi_lt {fs : List Fil} {s : ByteArray} (h : 0 ≤ ixP fs fun y => decide (y.name = s)) : fi fs s < fs.length ∧ (ixP fs fun y => decide (y.name = s)) = (fi fs s : Int) := by
 obtain ⟨i, x, h1, h2, _⟩ := ixP_at h
 unfold fi
 rw [h1, Int.toNat_natCast]
 exact ⟨(List.getElem?_eq_some_iff.1 h2).1, rfl⟩
end Go.Proofs.Ythagpbkmakocjaa
namespace Go.Proofs.Ythagpbkmakocjaa
set_option linter.all false
open Go Go.Eng
def dpx (fs : List Fil) (x : Nat) : List Nat := (fs.getD x zFil).imports.map (fi fs)
inductive Rch (fs : List Fil) (a : Nat) : Nat → Prop
 | one {j : Nat} (h : j ∈ dpx fs a) : Rch fs a j
 | step {x j : Nat} (h : Rch fs a x) (k : j ∈ dpx fs x) : Rch fs a j
def AllF (fs : List Fil) : Prop := ∀ f ∈ fs, FoundI fs f
theorem dpx_lt {fs : List Fil} (hF : AllF fs) {x j : Nat} (h : j ∈ dpx fs x) : x < fs.length ∧ j < fs.length := by
 unfold dpx at h
 rcases Nat.lt_or_ge x fs.length with hx | hx
 ·refine ⟨hx, ?_⟩
  obtain ⟨s, hs, rfl⟩ := List.mem_map.1 h
  have hm : fs.getD x zFil ∈ fs := by rw [List.getD_eq_getElem?_getD, List.getElem?_eq_getElem hx]; exact List.getElem_mem hx
  exact (fi_lt (hF _ hm s hs)).1
 ·rw [List.getD_eq_getElem?_getD, List.getElem?_eq_none hx] at h
  cases h
theorem getD_setB {r : List Bool} {i k : Nat} (h : i < r.length) : (r.set i true).getD k false = true ↔ r.getD k false = true ∨ k = i := by
 rw [List.getD_eq_getElem?_getD, List.getD_eq_getElem?_getD, List.getElem?_set]
 by_cases hk : i = k
 ·subst hk; simp [h]
 ·rw [if_neg hk]
  exact ⟨.inl, fun h => h.resolve_right (fun e => hk e.symm)⟩
theorem markL_get (fs : List Fil) : ∀ (l : List ByteArray) (r : List Bool), (∀ s ∈ l, fi fs s < r.length) → ∀ k, (markL fs l r).getD k false = true ↔ r.getD k false = true ∨ k ∈ l.map (fi fs)
 | [], r, _, k => by simp [markL]
 | s :: l, r, h, k => by
  have e : markL fs (s :: l) r = markL fs l (r.set (fi fs s) true) := rfl
  rw [e, markL_get fs l _ (fun t ht => by rw [List.length_set]; exact h t (List.mem_cons_of_mem _ ht)), getD_setB (h s (List.mem_cons_self ..)), List.map_cons, List.mem_cons, or_assoc]
theorem mark_dep {fs : List Fil} (hF : AllF fs) {x : Nat} (hx : x < fs.length) {r : List Bool} (hr : r.length = fs.length) (k : Nat) : (markL fs (fs.getD x zFil).imports r).getD k false = true ↔ r.getD k false = true ∨ k ∈ dpx fs x := by
 have hm : fs.getD x zFil ∈ fs := by rw [List.getD_eq_getElem?_getD, List.getElem?_eq_getElem hx]; exact List.getElem_mem hx
 exact markL_get fs _ r (fun s hs => by rw [hr]; exact (fi_lt (hF _ hm s hs)).1) k
theorem passL_cons (fs : List Fil) (x : Nat) (xs : List Nat) (r : List Bool) : passL fs (x :: xs) r = passL fs xs (if r.getD x false = true then markL fs (fs.getD x zFil).imports r else r) := rfl
theorem pass_law {fs : List Fil} (hF : AllF fs) : ∀ (xs : List Nat) (r : List Bool), (∀ x ∈ xs, x < fs.length) → r.length = fs.length →
  (∀ k, r.getD k false = true → (passL fs xs r).getD k false = true) ∧ (∀ x ∈ xs, r.getD x false = true → ∀ j ∈ dpx fs x, (passL fs xs r).getD j false = true) ∧
  ∀ P : Nat → Prop, (∀ k, r.getD k false = true → P k) → (∀ x, P x → ∀ j ∈ dpx fs x, P j) → ∀ k, (passL fs xs r).getD k false = true → P k
 | [], r, _, _ => ⟨fun k h => h, fun x hx => (by cases hx), fun P h _ k hk => h k hk⟩
 | x :: xs, r, hx, hr => by
  rw [passL_cons]
  have h0 := hx x (List.mem_cons_self ..)
  by_cases hm : r.getD x false = true
  ·rw [if_pos hm]
   have hd := fun k => mark_dep hF h0 hr k
   obtain ⟨i1, i2, i3⟩ := pass_law hF xs (markL fs (fs.getD x zFil).imports r) (fun y hy => hx y (List.mem_cons_of_mem _ hy)) ((markL_len _ _ _).trans hr)
   refine ⟨fun k hk => i1 k ((hd k).2 (.inl hk)), fun y hy hyr j hj => ?_, fun P h1 h2 k hk => i3 P (fun k hk => ?_) h2 k hk⟩
   ·rcases List.mem_cons.1 hy with rfl | hy
    ·exact i1 j ((hd j).2 (.inr hj))
    ·exact i2 y hy ((hd y).2 (.inl hyr)) j hj
   ·rcases (hd k).1 hk with h | h
    ·exact h1 k h
    ·exact h2 x (h1 x hm) k h
  ·rw [if_neg hm]
   obtain ⟨i1, i2, i3⟩ := pass_law hF xs r (fun y hy => hx y (List.mem_cons_of_mem _ hy)) hr
   refine ⟨i1, fun y hy hyr j hj => ?_, i3⟩
   rcases List.mem_cons.1 hy with rfl | hy
   ·exact absurd hyr hm
   ·exact i2 y hy hyr j hj
theorem countP_lt {p q : Nat → Bool} : ∀ {l : List Nat}, (∀ x ∈ l, p x = true → q x = true) → (∃ x ∈ l, q x = true ∧ p x = false) → l.countP p < l.countP q
 | [], _, ⟨x, hx, _⟩ => by cases hx
 | y :: l, h, ⟨x, hx, h1, h2⟩ => by
  have hm : l.countP p ≤ l.countP q := List.countP_mono_left fun z hz => h z (List.mem_cons_of_mem _ hz)
  rw [List.countP_cons, List.countP_cons]
  rcases List.mem_cons.1 hx with rfl | hx
  ·rw [h1, h2]; simp; omega
  ·have := countP_lt (fun z hz => h z (List.mem_cons_of_mem _ hz)) ⟨x, hx, h1, h2⟩
   have h3 := h y (List.mem_cons_self ..)
   cases hp : p y with
   | false => simp; omega
   | true => rw [h3 hp]; simp; omega
def cntB (n : Nat) (r : List Bool) : Nat := (List.range n).countP fun k => r.getD k false
theorem cntB_le (n : Nat) (r : List Bool) : cntB n r ≤ n := by
 have := List.countP_le_length (p := fun k => r.getD k false) (l := List.range n)
 rwa [List.length_range] at this
def Cls (fs : List Fil) (r : List Bool) : Prop := ∀ x, r.getD x false = true → ∀ j ∈ dpx fs x, r.getD j false = true
def pass1 (fs : List Fil) (r : List Bool) : List Bool := passL fs (List.range fs.length) r
def itP (fs : List Fil) : Nat → List Bool → List Bool
 | 0, r => r
 | m + 1, r => itP fs m (pass1 fs r)
theorem foldl_itP (fs : List Fil) : ∀ (l : List Nat) (r : List Bool), l.foldl (fun r _ => passL fs (List.range fs.length) r) r = itP fs l.length r
 | [], r => rfl
 | x :: l, r => by rw [List.foldl_cons, foldl_itP fs l]; rfl
theorem itP_law {fs : List Fil} (hF : AllF fs) : ∀ (m : Nat) (r : List Bool), r.length = fs.length → (itP fs m r).length = fs.length ∧ (∀ k, r.getD k false = true → (itP fs m r).getD k false = true) ∧
  (∀ P : Nat → Prop, (∀ k, r.getD k false = true → P k) → (∀ x, P x → ∀ j ∈ dpx fs x, P j) → ∀ k, (itP fs m r).getD k false = true → P k) ∧ (Cls fs (itP fs m r) ∨ m + cntB fs.length r ≤ cntB fs.length (itP fs m r))
 | 0, r, hr => ⟨hr, fun _ h => h, fun P h _ k hk => h k hk, .inr (by simp [itP])⟩
 | m + 1, r, hr => by
  have hx : ∀ x ∈ List.range fs.length, x < fs.length := fun x hx => List.mem_range.1 hx
  obtain ⟨p1, p2, p3⟩ := pass_law hF (List.range fs.length) r hx hr
  have hl : (pass1 fs r).length = fs.length := (passL_len _ _ _).trans hr
  obtain ⟨i0, i1, i2, i3⟩ := itP_law hF m (pass1 fs r) hl
  refine ⟨i0, fun k hk => i1 k (p1 k hk), fun P h1 h2 k hk => i2 P (fun k hk => p3 P h1 h2 k hk) h2 k hk, ?_⟩
  by_cases hc : Cls fs r
  ·left
   have hP : ∀ k, (itP fs m (pass1 fs r)).getD k false = true → r.getD k false = true := fun k hk => i2 (fun k => r.getD k false = true) (fun k hk => p3 (fun k => r.getD k false = true) (fun _ h => h) hc k hk) hc k hk
   exact fun x hx j hj => i1 j (p1 j (hc x (hP x hx) j hj))
  ·rcases i3 with i3 | i3
   ·exact .inl i3
   ·right
    obtain ⟨x, hx1⟩ := Classical.not_forall.1 hc
    obtain ⟨hx2, hx3⟩ := Classical.not_imp.1 hx1
    obtain ⟨j, hj1⟩ := Classical.not_forall.1 hx3
    obtain ⟨hj2, hj3⟩ := Classical.not_imp.1 hj1
    have : cntB fs.length r < cntB fs.length (pass1 fs r) := countP_lt (fun k _ hk => p1 k hk) ⟨j, List.mem_range.2 (dpx_lt hF hj2).2, p2 x (List.mem_range.2 (dpx_lt hF hj2).1) hx2 j hj2, by simpa using hj3⟩
    show m + 1 + cntB fs.length r ≤ cntB fs.length (itP fs m (pass1 fs r))
    omega
theorem cls_full {fs : List Fil} (hF : AllF fs) {r : List Bool} (h : fs.length ≤ cntB fs.length r) : Cls fs r := fun x hx j hj => by
 have h1 : (List.range fs.length).countP (fun k => r.getD k false) = (List.range fs.length).length := by
  have := cntB_le fs.length r
  rw [List.length_range]
  unfold cntB at h this
  omega
 exact (List.countP_eq_length.1 h1) j (List.mem_range.2 (dpx_lt hF hj).2)
theorem imp_rch {fs : List Fil} (hF : AllF fs) {a : Nat} (ha : a < fs.length) (k : Nat) : (impP fs a).getD k false = true ↔ Rch fs a k := by
 have hd := fun k => mark_dep hF ha (r := List.replicate fs.length false) (by simp) k
 have hl : (markL fs (fs.getD a zFil).imports (List.replicate fs.length false)).length = fs.length := (markL_len _ _ _).trans (by simp)
 have h0 : ∀ k, (List.replicate fs.length false).getD k false = false := fun k => by
  rw [List.getD_eq_getElem?_getD, List.getElem?_replicate]; split <;> rfl
 unfold impP
 rw [foldl_itP, List.length_range]
 obtain ⟨i0, i1, i2, i3⟩ := itP_law hF fs.length _ hl
 have hc : Cls fs (itP fs fs.length (markL fs (fs.getD a zFil).imports (List.replicate fs.length false))) := by
  rcases i3 with i3 | i3
  ·exact i3
  ·exact cls_full hF (Nat.le_trans (Nat.le_add_right _ _) i3)
 constructor
 ·exact fun h => i2 (Rch fs a) (fun k hk => by
   rcases (hd k).1 hk with h | h
   ·rw [h0] at h; cases h
   ·exact .one h) (fun x hx j hj => .step hx hj) k h
 ·intro h
  induction h with
  | one h => exact i1 _ ((hd _).2 (.inr h))
  | step _ h ih => exact hc _ ih _ h
end Go.Proofs.Ythagpbkmakocjaa
namespace Go.Proofs.Ythagpbkmakocjaa
set_option linter.all false
open Go Go.Eng
def intsN (l : List Nat) : List Int := l.map fun i : Nat => (i : Int)
def rg1 (fs : List Fil) (a : Nat) (b : List Nat × List Bool) (s : ByteArray) : (List Nat × List Bool) ⊕ Bool :=
 if fi fs s = a then .inr true else if b.2.getD (fi fs s) false = true then .inl b else .inl (b.1 ++ [fi fs s], b.2.set (fi fs s) true)
theorem m53_2 (fs : List Fil) (h : fs.length ≤ 1048576) (a : Nat) (f : Fil) (hl : f.imports.length < 2147483648) (hF : FoundI fs f) (td : List Nat) (r : List Bool) (hr : r.length = fs.length) (ht : td.length ≤ 1048577) :
  loopM (B53_2 fs (a : Int) f) big (intsN td, 0, r) = some (Sum.map (fun b => (b.2, intsN b.1)) id (foldE (rg1 fs a) (td, r) f.imports)) := by
 exact loop_fold (B := B53_2 fs (a : Int) f) (N := big) f.imports (fun i b => (intsN b.1, i, b.2)) (fun i b => b.2.length = fs.length ∧ b.1.length ≤ 1048577 + i) (rg1 fs a) (fun b => (b.2, intsN b.1)) (he := by intro b _; simp [B53_2, T53_1, T53_2, T53_3, T53_4, T53_5, al, frt, stp, br, ix, ixi, vz, vy, vw, vs, vg, v2, lr, lrt, ln, lxe, lc, lf, lfe, ap, aq, a0, a1, ad, cl, cs, cf, wa, wi, ir, ca, cp, dd, mv, st, ss, sL, Bd.c, Bd.vl]) (b0 := (td, r)) (h0 := ⟨hr, ht⟩) (hN := big_gt (by omega)) (hs := by
  intro i b s hs hI
  obtain ⟨I1, I2⟩ := hI
  have g1 := (List.getElem?_eq_some_iff.1 hs).1
  have g2 : i + 1 < 9223372036854775808 := by omega
  obtain ⟨k1, k2⟩ := fi_lt (hF s (List.mem_of_getElem? hs))
  have g3 := m51 fs s (by omega)
  rw [k2] at g3
  have g5 : (0 : Int) ≤ (fi fs s : Int) := by omega
  have g6 : fi fs s < b.2.length := by omega
  have g7 : b.2[fi fs s]? = some (b.2.getD (fi fs s) false) := by rw [List.getD_eq_getElem?_getD, List.getElem?_eq_getElem g6]; rfl
  have g8 : (intsN b.1).length < 549755813887 := by unfold intsN; rw [List.length_map]; omega
  constructor
  ·simp only [B53_2, T53_1, T53_2, T53_3, T53_4, T53_5, al, frt, stp, br, ix, ixi, vz, vy, vw, vs, vg, v2, lr, lrt, ln, lxe, lc, lf, lfe, ap, aq, a0, a1, ad, cl, cs, cf, wa, wi, ir, ca, cp, dd, mv, st, ss, sL, Bd.c, Bd.vl, rn, g1, g2, g3, g5, g6, g7, g8, hs, Option.bind_some, Int.ofNat_lt, decide_true, if_true, Int.toNat_natCast, true_and, and_self, List.length_set, Int.natCast_inj, decide_eq_true_eq]
   unfold rg1
   by_cases hc : fi fs s = a
   ·simp only [hc, if_true]; rfl
   ·simp only [hc, if_false]
    cases b.2.getD (fi fs s) false with
    | true => rfl
    | false =>
     simp only [Bool.not_false, if_true, Bool.false_eq_true, if_false]
     show _ = some (Lv.nx (intsN (b.1 ++ [fi fs s]), i + 1, b.2.set (fi fs s) true))
     unfold intsN
     rw [List.map_append]
     rfl
  ·intro b' hb'
   unfold rg1 at hb'
   split at hb'
   ·cases hb'
   ·split at hb'
    ·cases hb'; exact ⟨I1, by omega⟩
    ·cases hb'
     exact ⟨by rw [List.length_set]; exact I1, by show (b.1 ++ [fi fs s]).length ≤ _; rw [List.length_append, List.length_singleton]; omega⟩)
theorem cnt_set {n k : Nat} {r : List Bool} (hk : k < n) (hr : r.length = n) (h : r.getD k false = false) : cntB n r + 1 ≤ cntB n (r.set k true) :=
 countP_lt (fun x _ hx => (getD_setB (by omega)).2 (.inl hx)) ⟨k, List.mem_range.2 hk, (getD_setB (by omega)).2 (.inr rfl), h⟩
def RgL (fs : List Fil) (a : Nat) (l : List ByteArray) (b : List Nat × List Bool) : (List Nat × List Bool) ⊕ Bool → Prop
 | .inr v => v = true ∧ a ∈ l.map (fi fs)
 | .inl b' => a ∉ l.map (fi fs) ∧ b'.2.length = fs.length ∧ (∀ k, b'.2.getD k false = true ↔ b.2.getD k false = true ∨ k ∈ l.map (fi fs)) ∧ (∀ k ∈ b.1, k ∈ b'.1) ∧ (∀ k ∈ b'.1, k ∈ b.1 ∨ k ∈ l.map (fi fs)) ∧
  (∀ k, b'.2.getD k false = true → b.2.getD k false = false → k ∈ b'.1) ∧ b'.1.length + cntB fs.length b.2 ≤ b.1.length + cntB fs.length b'.2
theorem rg_law (fs : List Fil) (a : Nat) : ∀ (l : List ByteArray) (b : List Nat × List Bool), (∀ s ∈ l, fi fs s < fs.length) → b.2.length = fs.length → RgL fs a l b (foldE (rg1 fs a) b l)
 | [], b, _, hb => ⟨by simp, hb, by simp, fun _ h => h, fun _ h => .inl h, fun k h1 h2 => (by rw [h2] at h1; cases h1), Nat.le_refl _⟩
 | s :: l, b, hl, hb => by
  have h0 := hl s (List.mem_cons_self ..)
  by_cases hc : fi fs s = a
  ·have e : rg1 fs a b s = .inr true := by unfold rg1; rw [if_pos hc]
   rw [foldE, e]
   exact ⟨rfl, by simp [hc]⟩
  ·by_cases hm : b.2.getD (fi fs s) false = true
   ·have e : rg1 fs a b s = .inl b := by unfold rg1; rw [if_neg hc, if_pos hm]
    rw [foldE, e]
    show RgL fs a (s :: l) b (foldE (rg1 fs a) b l)
    have ih := rg_law fs a l b (fun t ht => hl t (List.mem_cons_of_mem _ ht)) hb
    revert ih
    cases foldE (rg1 fs a) b l with
    | inr v => exact fun ⟨h1, h2⟩ => ⟨h1, by simp [h2]⟩
    | inl b' =>
     intro ⟨h1, h2, h3, h4, h5, h6, h7⟩
     refine ⟨?_, h2, fun k => ?_, h4, fun k hk => ?_, h6, h7⟩
     ·rw [List.map_cons, List.mem_cons]; exact fun h => h.elim (fun e => hc e.symm) h1
     ·rw [h3, List.map_cons, List.mem_cons]
      exact ⟨fun h => h.elim .inl fun h => .inr (.inr h), fun h => h.elim .inl fun h => h.elim (fun e => .inl (e ▸ hm)) .inr⟩
     ·rcases h5 k hk with h | h
      ·exact .inl h
      ·exact .inr (by simp [h])
   ·have e : rg1 fs a b s = .inl (b.1 ++ [fi fs s], b.2.set (fi fs s) true) := by unfold rg1; rw [if_neg hc, if_neg hm]
    rw [foldE, e]
    show RgL fs a (s :: l) b (foldE (rg1 fs a) (b.1 ++ [fi fs s], b.2.set (fi fs s) true) l)
    have hm' : b.2.getD (fi fs s) false = false := by simpa using hm
    have ih := rg_law fs a l (b.1 ++ [fi fs s], b.2.set (fi fs s) true) (fun t ht => hl t (List.mem_cons_of_mem _ ht)) (by rw [List.length_set]; exact hb)
    have hcs := cnt_set h0 hb hm'
    revert ih
    cases foldE (rg1 fs a) (b.1 ++ [fi fs s], b.2.set (fi fs s) true) l with
    | inr v => exact fun ⟨h1, h2⟩ => ⟨h1, by simp [h2]⟩
    | inl b' =>
     intro ⟨h1, h2, h3, h4, h5, h6, h7⟩
     have hset : ∀ k, (b.2.set (fi fs s) true).getD k false = true ↔ b.2.getD k false = true ∨ k = fi fs s := fun k => getD_setB (by omega)
     refine ⟨?_, h2, fun k => ?_, fun k hk => h4 k (by simp [hk]), fun k hk => ?_, fun k h8 h9 => ?_, ?_⟩
     ·rw [List.map_cons, List.mem_cons]; exact fun h => h.elim (fun e => hc e.symm) h1
     ·rw [h3, hset, List.map_cons, List.mem_cons, or_assoc]
     ·rcases h5 k hk with h | h
      ·rcases List.mem_append.1 h with h | h
       ·exact .inl h
       ·exact .inr (by simp at h; simp [h])
      ·exact .inr (by simp [h])
     ·by_cases hk : k = fi fs s
      ·subst hk; exact h4 _ (by simp)
      ·refine h6 k h8 ?_
       cases hq : (b.2.set (fi fs s) true).getD k false with
       | false => rfl
       | true =>
        rcases (hset k).1 hq with h | h
        ·rw [h9] at h; cases h
        ·exact absurd h hk
     ·simp only [List.length_append, List.length_singleton] at h7
      omega
def RchI (fs : List Fil) (a m : Nat) (v : List Int × List Bool) : Prop := ∃ td r, v = (intsN td, r) ∧ (∀ x ∈ td, x < fs.length) ∧ r.length = fs.length ∧ (∀ k, r.getD k false = true → Rch fs a k) ∧ (∀ x ∈ td, x = a ∨ Rch fs a x) ∧
 (∀ x, (x = a ∨ r.getD x false = true) → x ∉ td → ∀ j ∈ dpx fs x, r.getD j false = true ∧ j ≠ a) ∧ td.length + fs.length ≤ m + cntB fs.length r ∧ m ≤ fs.length + 1
theorem m53 (fs : List Fil) (h : fs.length ≤ 1048576) (hi : ∀ f ∈ fs, f.imports.length < 2147483648) (hF : AllF fs) (a : Nat) (ha : a < fs.length) : ∃ b, M_link_reaches fs (a : Int) = some b ∧ (b = true ↔ Rch fs a a) := by
 have q : ∃ o : Unit ⊕ Bool, loopM (B53_1 fs (a : Int)) big ([(a : Int)], List.replicate fs.length false) = some o ∧ (match o with | .inl _ => ¬ Rch fs a a | .inr b => b = true ∧ Rch fs a a) := by
  refine loop_inv (RchI fs a) (fun o : Unit ⊕ Bool => match o with | .inl _ => ¬ Rch fs a a | .inr b => b = true ∧ Rch fs a a) ?_ big (fs.length + 1) _ (big_gt (by omega)) ?_
  ·rintro k v ⟨td, r, rfl, h1, h2, h3, h4, h5, h6, h7⟩
   have hcb := cntB_le fs.length r
   cases td with
   | nil =>
    refine ⟨.ex (), by simp [B53_1, T53_1, T53_2, T53_3, T53_4, T53_5, al, frt, stp, br, ix, ixi, vz, vy, vw, vs, vg, v2, lr, lrt, ln, lxe, lc, lf, lfe, ap, aq, a0, a1, ad, cl, cs, cf, wa, wi, ir, ca, cp, dd, mv, st, ss, sL, Bd.c, Bd.vl, intsN], fun hr => ?_⟩
    have : ∀ j, Rch fs a j → r.getD j false = true ∧ j ≠ a := fun j hj => by
     induction hj with
     | one hj => exact h5 a (.inl rfl) (by simp) _ hj
     | step _ hj ih => exact h5 _ (.inr ih.1) (by simp) _ hj
    exact (this a hr).2 rfl
   | cons x td =>
    have hx := h1 x (List.mem_cons_self ..)
    have g5 : fs[x]? = some (fs.getD x zFil) := by rw [List.getD_eq_getElem?_getD, List.getElem?_eq_getElem hx]; rfl
    have hm := List.mem_of_getElem? g5
    simp only [List.length_cons] at h6
    have q2 := m53_2 fs h a (fs.getD x zFil) (hi _ hm) (hF _ hm) td r h2 (by omega)
    have q3 := rg_law fs a (fs.getD x zFil).imports (td, r) (fun s hs => (fi_lt (hF _ hm s hs)).1) h2
    have g6 : (0 : Int) < ((td.length + 1 : Nat) : Int) := by omega
    have g7 : (0 : Int) ≤ (x : Int) := by omega
    have e1 : intsN (x :: td) = (x : Int) :: intsN td := rfl
    have e2 : (intsN td).length = td.length := by simp [intsN]
    have e3 : B53_1 fs (a : Int) (intsN (x :: td), r) = (loopM (B53_2 fs (a : Int) (fs.getD x zFil)) big (intsN td, 0, r)).bind (Sum.elim (fun x => some (.nx (x.2, x.1))) fun z => some (.rt z)) := by
     rw [e1]
     simp only [B53_1, T53_1, T53_2, T53_3, T53_4, T53_5, al, frt, stp, br, ix, ixi, vz, vy, vw, vs, vg, v2, lr, lrt, ln, lxe, lc, lf, lfe, ap, aq, a0, a1, ad, cl, cs, cf, wa, wi, ir, ca, cp, dd, mv, st, ss, sL, Bd.c, Bd.vl, rb, g5, g7, e2, List.length_cons, List.getElem?_cons_zero, Option.bind_some, Int.toNat_natCast, if_true]
     simp [e2]
    rw [e3, q2]
    revert q3
    cases foldE (rg1 fs a) (td, r) (fs.getD x zFil).imports with
    | inr v =>
     rintro ⟨rfl, hv⟩
     refine ⟨.rt true, rfl, rfl, ?_⟩
     rcases h4 x (List.mem_cons_self ..) with rfl | hx'
     ·exact .one hv
     ·exact .step hx' hv
    | inl b' =>
     rintro ⟨c1, c2, c3, c4, c5, c6, c7⟩
     have hdp : ∀ j ∈ dpx fs x, Rch fs a j := fun j hj => by
      rcases h4 x (List.mem_cons_self ..) with rfl | hx'
      ·exact .one hj
      ·exact .step hx' hj
     refine ⟨.nx (intsN b'.1, b'.2), rfl, k - 1, ?_, b'.1, b'.2, rfl, fun y hy => ?_, c2, fun j hj => ?_, fun y hy => ?_, fun y hy hn j hj => ?_, ?_, by omega⟩
     ·omega
     ·rcases c5 y hy with hy | hy
      ·exact h1 y (List.mem_cons_of_mem _ hy)
      ·exact (dpx_lt hF (x := x) hy).2
     ·rcases (c3 j).1 hj with hj | hj
      ·exact h3 j hj
      ·exact hdp j hj
     ·rcases c5 y hy with hy | hy
      ·exact h4 y (List.mem_cons_of_mem _ hy)
      ·exact .inr (hdp y hy)
     ·by_cases hyx : y = x
      ·subst hyx
       exact ⟨(c3 j).2 (.inr hj), fun e => c1 (e ▸ hj)⟩
      ·have hyt : y ∉ x :: td := fun hm => by
        rcases List.mem_cons.1 hm with e | hm
        ·exact hyx e
        ·exact hn (c4 y hm)
       have hy' : y = a ∨ r.getD y false = true := by
        rcases hy with e | hy
        ·exact .inl e
        ·cases hq : r.getD y false with
         | true => exact .inr rfl
         | false => exact absurd (c6 y hy hq) hn
       obtain ⟨d1, d2⟩ := h5 y hy' hyt j hj
       exact ⟨(c3 j).2 (.inl d1), d2⟩
     ·simp only at c7
      have := cntB_le fs.length b'.2
      omega
  ·have h0 : ∀ k, (List.replicate fs.length false).getD k false = false := fun k => by
    rw [List.getD_eq_getElem?_getD, List.getElem?_replicate]; split <;> rfl
   refine ⟨[a], _, rfl, fun x hx => (by simp at hx; omega), by simp, fun k hk => (by rw [h0] at hk; cases hk), fun x hx => .inl (by simpa using hx), fun x hx hn => ?_, by simp; omega, Nat.le_refl _⟩
   rcases hx with rfl | hx
   ·exact absurd (by simp) hn
   ·rw [h0] at hx; cases hx
 obtain ⟨o, q1, q2⟩ := q
 have g10 : fs.length ≤ 549755813888 := by omega
 unfold M_link_reaches
 simp only [T53_1, T53_2, T53_3, T53_4, T53_5, al, frt, stp, br, ix, ixi, vz, vy, vw, vs, vg, v2, lr, lrt, ln, lxe, lc, lf, lfe, ap, aq, a0, a1, ad, cl, cs, cf, wa, wi, ir, ca, cp, dd, mv, st, ss, sL, Bd.c, Bd.vl, ms, g10, q1, Option.bind_some, if_true]
 cases o with
 | inl u => exact ⟨false, rfl, ⟨fun h => (by cases h), fun h => absurd h q2⟩⟩
 | inr b => exact ⟨b, rfl, ⟨fun _ => q2.2, fun _ => q2.1⟩⟩
end Go.Proofs.Ythagpbkmakocjaa
