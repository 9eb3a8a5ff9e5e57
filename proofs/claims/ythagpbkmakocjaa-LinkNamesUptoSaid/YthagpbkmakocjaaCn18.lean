import Derived.Test.YthagpbkmakocjaaCn17
namespace Go.Proofs.Ythagpbkmakocjaa
set_option linter.all false
open Go Go.Eng
theorem ZyN {fs : List Fil} {f : Fil} {r : ByteArray × Int} (h : ZiU fs f = some r) : r.2 ≠ 0 := by
 unfold ZiU at h
 cases h1 : ZBV fs f with
 | some r1 => rw [h1] at h; cases h; exact Zq4 h1
 | none => rw [h1] at h; exact Zq4 (show ZCo fs f = some r from h)
def Zel (fs : List Fil) (f : Fil) : List Msg := f.messages.map fun m => (mS fs f m).1
def Zd3 (fs : List Fil) (f : Fil) : List Svc := f.services.map fun v => (vS' fs f v).1
def ZkD (f : Fil) : List Enm := f.enums.map fun e => { e with name := ZaL f.space e.name }
theorem Zjj (l : List Fil) (x : Fil) : ZaP (l ++ [x]) = ZaP l ++ Zei x := by simp [ZaP]
theorem Zjb (l : List Fil) (x : Fil) : ZaN (l ++ [x]) = ZaN l ++ ZkD x := by simp [ZaN, ZkD]
theorem Zpj {α : Type} (g : Fil → List α) (l : List Fil) (x : Fil) : (l ++ [x]).flatMap g = l.flatMap g ++ g x := by simp
theorem Zhv {α : Type} (g : Fil → List α) (n : Fil → Nat) (hg : ∀ f, (g f).length = n f) (l : List Fil) : (l.flatMap g).length = (l.map n).sum := by
 rw [Zeo]; congr 1; congr 1; funext f; exact hg f
theorem ZfG {fs : List Fil} (h : SzA fs) {α : Type} (g : Fil → List α) (n : Fil → Nat) (hg : ∀ f, (g f).length = n f) (hn : ∀ f, n f ≤ tot f) {i : Nat} {f : Fil} (hf : fs[i]? = some f) : ((fs.take i).flatMap g).length + n f ≤ 1048576 := by
 have h1 := Zci tot hf
 have h2 := h.t
 have h3 : ((fs.take i).flatMap g).length ≤ ((fs.take i).map tot).sum := by
  rw [Zhv g n hg]
  generalize fs.take i = l
  induction l with
  | nil => exact Nat.le_refl _
  | cons x l ih => simp only [List.map_cons, List.sum_cons]; have := hn x; omega
 have := hn f
 omega
theorem ZGX (f : Fil) : f.messages.length ≤ tot f := by unfold tot; omega
theorem ZIa (f : Fil) : f.enums.length ≤ tot f := by unfold tot; omega
theorem ZIj (f : Fil) : f.services.length ≤ tot f := by unfold tot; omega
theorem m26 (l : List Enm) (h : l.length < 549755813888) : ZcR l = some l := by
 unfold ZcR
 simp only [ZAP, al, Bool.false_eq_true, if_false, h, if_true]
theorem ZHP (fs : List Fil) (h : SzA fs) : Zad (ZAY fs) big (0, [], []) = some (.inl (ZaP fs, ZaN fs)) := by
 have hn := h.n
 have q2 : ∀ (v : Nat) (r4 : List ByteArray) (f : Fil) (y : List ByteArray × List ByteArray × List ByteArray) (b : List Enm), SzF f → b.length + f.enums.length ≤ 1048576 → Zad (ZA9 fs v r4 f y) big (0, b) = some (.inl (b ++ ZkD f)) := fun v r4 f y b hf hb => by
  have z := hf.sp
  have := Zbk (B := ZA9 fs v r4 f y) (N := big) f.enums (fun p => b ++ p.map fun e => ({ e with name := ZaL f.space e.name } : Enm)) (fun i c => (i, c)) id (hN := Zar (by omega)) (he := by simp [ZA9, ZEI, ZEx, ZEL, ZEK, br, ix, vw, vs]) (hs := by
   intro i e he
   have g1 := (List.getElem?_eq_some_iff.1 he).1
   have g2 : i + 1 < 9223372036854775808 := by omega
   have g3 : (b ++ (f.enums.take i).map fun e => ({ e with name := ZaL f.space e.name } : Enm)).length < 549755813887 := by rw [List.length_append, List.length_map, List.length_take]; omega
   have g4 := m25 f.space e.name (by omega) (by have := hf.nm2 e (List.mem_of_getElem? he); omega)
   simp only [ZA9, ZEI, ZEx, ZEL, ZEK, br, ix, vw, vs, g1, g2, g3, g4, he, Option.bind_some, Int.ofNat_lt, decide_true, if_true, List.map_append, List.map_cons, List.map_nil, List.append_assoc])
  rw [List.map_nil, List.append_nil] at this
  exact this
 exact Zbk (B := ZAY fs) (N := big) fs (fun p => (ZaP p, ZaN p)) (fun i c => (i, c.1, c.2)) id (hN := Zar (by omega)) (he := by simp [ZAY, ZEl, ZEv, ZEG, br, ix, vs]) (hs := by
  intro i f hf
  have g1 := (List.getElem?_eq_some_iff.1 hf).1
  have g2 : i + 1 < 9223372036854775808 := by omega
  have hz := h.f f (List.mem_of_getElem? hf)
  have g3 := ZfG h Zei (fun f => f.messages.length) Zcn ZGX hf
  have g4 := ZfG h ZkD (fun f => f.enums.length) (fun f => by simp [ZkD]) ZIa hf
  have g5 : (ZaP (fs.take i)).length + (Zei f).length < 549755813888 := by rw [Zcn]; exact Nat.lt_of_le_of_lt g3 (by decide)
  have g6 := q2 i (ZaP (fs.take i)) f (Zei f, Zfd f, Zj1 f) (ZaN (fs.take i)) hz g4
  simp only [ZAY, ZEl, ZEv, ZEG, br, ix, vs, g1, g2, g5, g6, m24 f hz, hf, Option.bind_some, Int.ofNat_lt, decide_true, if_true, Sum.elim_inl, Zjj, Zjb])
theorem ZH3 (fs : List Fil) (h : Base0 fs) (f : Fil) (hf : f ∈ fs) (y15 : List Enm) (v : Nat) (r18 : List Svc) (b : List Msg) (hb : b.length + f.messages.length ≤ 1048576) (hM : (ZaP fs).length < 4611686018427387904) (hE : (ZaN fs).length < 4611686018427387904) :
  Zad (ZA8 fs (ZaN fs) y15 v r18 (ZaP fs) f (Zeb fs f)) big (0, b) = some ((ZBV fs f).elim (.inl (b ++ Zel fs f)) fun r => .inr (⟨[], [], []⟩, r.1, r.2)) := by
 have hz := h.a.f f hf
 have hg := h.g f hf
 have hv := Zpl h hf
 have z1 := hz.sp
 have hE2 : ∀ e ∈ ZaN fs, e.items.length < 4611686018427387904 := fun e he => by
  obtain ⟨f', hf', he⟩ := List.mem_flatMap.1 he
  obtain ⟨e', he', rfl⟩ := List.mem_map.1 he
  have := (h.g f' hf').ei e' he'
  exact Nat.lt_of_lt_of_le this (by decide)
 have := ZbW (B := ZA8 fs (ZaN fs) y15 v r18 (ZaP fs) f (Zeb fs f)) (N := big) f.messages (fun p => b ++ p.map fun m => (mS fs f m).1) (fun _ m => if (mS fs f m).2 = 0 then none else some (⟨[], [], []⟩, ZaL f.space m.name, (mS fs f m).2)) (fun i c => (i, c)) (fun c => c) (hN := Zar (by omega)) (he := by simp [ZA8, ZEt, ZEk, ZuW, Zts, Zt2, ZsM, ZrU, ZsX, br, ix, vz, vw, vs, lrt, lf]) (hs := by
  intro i m hm
  have g1 := (List.getElem?_eq_some_iff.1 hm).1
  have g2 : i + 1 < 9223372036854775808 := by omega
  have hmm := List.mem_of_getElem? hm
  have g3 : (b ++ (f.messages.take i).map fun m => (mS fs f m).1).length < 549755813887 := by rw [List.length_append, List.length_map, List.length_take]; omega
  obtain ⟨y, y1, y2, y3⟩ := m28 ⟨fs, f, Zeb fs f, ZaP fs, ZaN fs⟩ m z1 (hz.nm1 m hmm) (hg.fl m hmm) (hg.ft m hmm) (by show (Zeb fs f).length < _; omega) hM hE hE2 h.u
  change Za2 _ m = some (y, (mS fs f m).2) at y1
  change y.name = ZaL f.space m.name at y2
  change (mS fs f m).2 = 0 → y = (mS fs f m).1 at y3
  simp only [ZA8, ZEt, ZEk, ZuW, Zts, Zt2, ZsM, ZrU, ZsX, br, ix, vz, vw, vs, lrt, lf, g1, g2, g3, y1, hm, Option.bind_some, Int.ofNat_lt, decide_true, if_true, List.map_append, List.map_cons, List.map_nil]
  by_cases hc : (mS fs f m).2 = 0
  ·simp only [hc, y3 hc, decide_true, Bool.not_true, Bool.false_eq_true, if_false, if_true, List.append_assoc]
  ·simp only [hc, y2, decide_false, Bool.not_false, if_true, if_false])
 rw [List.map_nil, List.append_nil, ZbZ, ZjK (mS fs f) (fun m => ZaL f.space m.name) (fun n c => ((⟨[], [], []⟩, n, c) : Scm × ByteArray × Int))] at this
 rw [this]
 unfold ZBV Zel
 cases Ztz (mS fs f) (fun m => ZaL f.space m.name) f.messages <;> rfl
theorem ZIn (fs : List Fil) (h : Base0 fs) (f : Fil) (hf : f ∈ fs) (y15 : List Enm) (v : Nat) (r33 : List Msg) (b : List Svc) (hb : b.length + f.services.length ≤ 1048576) (hM : (ZaP fs).length < 4611686018427387904) :
  Zad (ZBa fs (ZaN fs) y15 v (ZaP fs) f (Zeb fs f) r33) big (0, b) = some ((ZCo fs f).elim (.inl (b ++ Zd3 fs f)) fun r => .inr (⟨[], [], []⟩, r.1, r.2)) := by
 have hz := h.a.f f hf
 have hg := h.g f hf
 have hv := Zpl h hf
 have z1 := hz.sp
 have := ZbW (B := ZBa fs (ZaN fs) y15 v (ZaP fs) f (Zeb fs f) r33) (N := big) f.services (fun p => b ++ p.map fun m => (vS' fs f m).1) (fun _ m => if (vS' fs f m).2 = 0 then none else some (⟨[], [], []⟩, ZaL f.space m.name, (vS' fs f m).2)) (fun i c => (i, c)) (fun c => c) (hN := Zar (by omega)) (he := by simp [ZBa, Ztt, Zu1, Ztf, Zsd, Zvf, ZrT, ZtV, ZtG, br, ix, vz, vw, vs, lrt, lf]) (hs := by
  intro i m hm
  have g1 := (List.getElem?_eq_some_iff.1 hm).1
  have g2 : i + 1 < 9223372036854775808 := by omega
  have hmm := List.mem_of_getElem? hm
  have g3 : (b ++ (f.services.take i).map fun m => (vS' fs f m).1).length < 549755813887 := by rw [List.length_append, List.length_map, List.length_take]; omega
  obtain ⟨y, y1, y2, y3⟩ := m29 ⟨fs, f, Zeb fs f, ZaP fs, ZaN fs⟩ m z1 (hz.nm3 m hmm) (hg.ml m hmm) (hg.mi m hmm) (by show (Zeb fs f).length < _; omega) hM
  change Za3 _ m = some (y, (vS' fs f m).2) at y1
  change y.name = ZaL f.space m.name at y2
  change (vS' fs f m).2 = 0 → y = (vS' fs f m).1 at y3
  simp only [ZBa, Ztt, Zu1, Ztf, Zsd, Zvf, ZrT, ZtV, ZtG, br, ix, vz, vw, vs, lrt, lf, g1, g2, g3, y1, hm, Option.bind_some, Int.ofNat_lt, decide_true, if_true, List.map_append, List.map_cons, List.map_nil]
  by_cases hc : (vS' fs f m).2 = 0
  ·simp only [hc, y3 hc, decide_true, Bool.not_true, Bool.false_eq_true, if_false, if_true, List.append_assoc]
  ·simp only [hc, y2, decide_false, Bool.not_false, if_true, if_false])
 rw [List.map_nil, List.append_nil, ZbZ, ZjK (vS' fs f) (fun m => ZaL f.space m.name) (fun n c => ((⟨[], [], []⟩, n, c) : Scm × ByteArray × Int))] at this
 rw [this]
 unfold ZCo Zd3
 cases Ztz (vS' fs f) (fun m => ZaL f.space m.name) f.services <;> rfl
def Zzv (fs p : List Fil) : ByteArray × ByteArray × List ByteArray × List Msg × List Enm × List Svc × List ByteArray := match p.getLast? with
 | none => (⟨#[]⟩, ⟨#[]⟩, [], [], [], [], [])
 | some f => (f.name, f.space, f.imports, f.messages, f.enums, f.services, Zeb fs f)
theorem Zng (fs p : List Fil) (f : Fil) : Zzv fs (p ++ [f]) = (f.name, f.space, f.imports, f.messages, f.enums, f.services, Zeb fs f) := by unfold Zzv; rw [List.getLast?_concat]
theorem ZIH (fs : List Fil) (h : Base0 fs) (y15 : List Enm) (hM : (ZaP fs).length < 4611686018427387904) (hE : (ZaN fs).length < 4611686018427387904) :
  Zad (ZAS fs (ZaN fs) y15) big (0, [], [], ⟨#[]⟩, ⟨#[]⟩, [], [], [], [], [], ZaP fs) = some ((fs.findSome? (ZiU fs)).elim (.inl (fs.flatMap (Zel fs), fs.flatMap (Zd3 fs))) fun r => .inr (⟨[], [], []⟩, r.1, r.2)) := by
 have hn := h.a.n
 have := ZbW (B := ZAS fs (ZaN fs) y15) (N := big) fs (fun p => (p.flatMap (Zel fs), p.flatMap (Zd3 fs), Zzv fs p)) (fun _ f => (ZiU fs f).map fun r => ((⟨[], [], []⟩, r.1, r.2) : Scm × ByteArray × Int)) (fun i c => (i, c.1, c.2.1, c.2.2.1, c.2.2.2.1, c.2.2.2.2.1, c.2.2.2.2.2.1, c.2.2.2.2.2.2.1, c.2.2.2.2.2.2.2.1, c.2.2.2.2.2.2.2.2, ZaP fs)) (fun c => (c.1, c.2.1)) (hN := Zar (by omega)) (he := by simp [ZAS, Zur, Zso, Zs1, Zt4, ZuL, br, ix, vw, vs]) (hs := by
  intro i f hf
  have g1 := (List.getElem?_eq_some_iff.1 hf).1
  have g2 : i + 1 < 9223372036854775808 := by omega
  have hm := List.mem_of_getElem? hf
  have g3 := ZfG h.a (Zel fs) (fun f => f.messages.length) (fun f => by simp [Zel]) ZGX hf
  have g4 := ZfG h.a (Zd3 fs) (fun f => f.services.length) (fun f => by simp [Zd3]) ZIj hf
  have g5 := ZH3 fs h f hm y15 i ((fs.take i).flatMap (Zd3 fs)) _ g3 hM hE
  have g6 := fun r33 => ZIn fs h f hm y15 i r33 _ g4 hM
  simp only [ZAS, Zur, Zso, Zs1, Zt4, ZuL, br, ix, vw, vs, g1, g2, g5, m27 fs f h.a hm (h.i f hm), hf, Option.bind_some, Int.ofNat_lt, decide_true, if_true, ZiU]
  cases ZBV fs f with
  | some r => rfl
  | none =>
   simp only [Option.elim, Option.bind_some, Sum.elim_inl, Option.or, g6]
   cases ZCo fs f with
   | some r => rfl
   | none => simp only [Sum.elim_inl, Option.map_none, Zpj, Zng])
 rw [ZbZ] at this
 refine this.trans ?_
 congr 1
 clear this
 have : ∀ l : List Fil, (l.findSome? fun f => (ZiU fs f).map fun r => ((⟨[], [], []⟩, r.1, r.2) : Scm × ByteArray × Int)) = (l.findSome? (ZiU fs)).map fun r => (⟨[], [], []⟩, r.1, r.2) := fun l => by
  induction l with
  | nil => rfl
  | cons f l ih =>
   rw [List.findSome?_cons, List.findSome?_cons]
   cases ZiU fs f with
   | some r => rfl
   | none => exact ih
 rw [this]
 cases fs.findSome? (ZiU fs) <;> rfl
end Go.Proofs.Ythagpbkmakocjaa
namespace Go.Proofs.Ythagpbkmakocjaa
set_option linter.all false
open Go Go.Eng
structure OkM (m : Msg) : Prop where
 f : m.fields.length < 4611686018427387904
 r : m.reserved.length < 4611686018427387904
 g : m.gone.length < 4611686018427387904
 n : m.notes.length < 4611686018427387904
 d : ∀ d ∈ m.fields, d.notes.length < 4611686018427387904
structure OkE (e : Enm) : Prop where
 i : e.items.length < 4611686018427387904
 r : e.reserved.length < 4611686018427387904
 n : e.notes.length < 4611686018427387904
 d : ∀ d ∈ e.items, d.notes.length < 4611686018427387904
structure OkV (v : Svc) : Prop where
 m : v.methods.length < 4611686018427387904
 n : v.notes.length < 4611686018427387904
 d : ∀ d ∈ v.methods, d.notes.length < 4611686018427387904
structure OkS (s : Scm) : Prop where
 m : s.messages.length < 4611686018427387904
 e : s.enums.length < 4611686018427387904
 v : s.services.length < 4611686018427387904
 om : ∀ m ∈ s.messages, OkM m
 oe : ∀ m ∈ s.enums, OkE m
 ov : ∀ m ∈ s.services, OkV m
theorem Zh6 {ρ : Type} {n : ByteArray → ρ} : ∀ {l p : List ByteArray}, Za5 (Zoj n) p l = none → l.Nodup ∧ ∀ x ∈ l, x ∉ p
 | [], p, _ => ⟨List.nodup_nil, fun x h => by cases h⟩
 | x :: l, p, h => by
  rw [Za5] at h
  have hx : Zoj n p x = none := by cases hd : Zoj n p x with | none => rfl | some r => rw [hd] at h; cases h
  rw [hx] at h
  obtain ⟨h1, h2⟩ := Zh6 h
  have hxp : x ∉ p := fun hm => by
   unfold Zoj at hx
   rw [if_pos (List.any_eq_true.2 ⟨x, hm, by simp⟩)] at hx
   cases hx
  refine ⟨List.nodup_cons.2 ⟨fun hm => h2 x hm (by simp), h1⟩, fun y hy => ?_⟩
  rcases List.mem_cons.1 hy with rfl | hy
  ·exact hxp
  ·exact fun hm => h2 y hy (by simp [hm])
theorem ZeN {l : List ByteArray} {x : ByteArray} : ZgY l x = true ↔ x ∈ l := by
 unfold ZgY
 rw [List.any_eq_true]
 exact ⟨fun ⟨y, hy, h⟩ => by simpa [of_decide_eq_true h] using hy, fun h => ⟨x, h, by simp⟩⟩
theorem ZlU {f : Fil} {x : ByteArray} {e : Enm} (h : f.enums.find? (fun y => decide (ZaL f.space y.name = x)) = some e) : x ∈ Zfd f := by
 have h1 := List.mem_of_find?_eq_some h
 have h2 := List.find?_some h
 unfold Zfd
 exact List.mem_map.2 ⟨e, h1, by simpa using h2⟩
theorem Zqv {fs : List Fil} {x : ByteArray} {e : Enm} (h : ZmV fs x = some e) : x ∈ Zaf fs := by
 unfold ZmV at h
 obtain ⟨f, hf, h⟩ := List.exists_of_findSome?_eq_some h
 exact List.mem_flatMap.2 ⟨f, hf, by unfold ZaD; simp [ZlU h]⟩
theorem Zvx : ∀ {fs : List Fil}, (Zaf fs).Nodup → ∀ x, ZgY (ZaP fs) x = true → ZmV fs x = none
 | [], _, x, h => rfl
 | f :: fs, hn, x, h => by
  rw [show Zaf (f :: fs) = ZaD f ++ Zaf fs from by simp [Zaf], List.nodup_append] at hn
  obtain ⟨n1, n2, n3⟩ := hn
  rw [ZeN, show ZaP (f :: fs) = Zei f ++ ZaP fs from by simp [ZaP], List.mem_append] at h
  show List.findSome? _ (f :: fs) = none
  rw [List.findSome?_cons]
  have hsub : ∀ y, y ∈ ZaP fs → y ∈ Zaf fs := fun y hy => by
   obtain ⟨g, hg, hy⟩ := List.mem_flatMap.1 hy
   exact List.mem_flatMap.2 ⟨g, hg, by unfold ZaD; simp [hy]⟩
  cases he : f.enums.find? (fun y => decide (ZaL f.space y.name = x)) with
  | some e =>
   exfalso
   have h2 := ZlU he
   rcases h with h | h
   ·unfold ZaD at n1
    rw [List.append_assoc, List.nodup_append] at n1
    exact n1.2.2 x h x (by simp [h2]) rfl
   ·exact n3 x (by unfold ZaD; simp [h2]) x (hsub x h) rfl
  | none =>
   show ZmV fs x = none
   rcases h with h | h
   ·cases hr : ZmV fs x with
    | none => rfl
    | some e => exact absurd rfl (n3 x (by unfold ZaD; simp [h]) x (Zqv hr))
   ·exact Zvx n2 x (ZeN.2 h)
theorem ZDy {fs : List Fil} (hn : (Zaf fs).Nodup) : (ZaN fs).Pairwise fun a b => a.name ≠ b.name := by
 have h1 : (ZaN fs).map (fun e => e.name) = fs.flatMap Zfd := by
  unfold ZaN
  clear hn
  induction fs with
  | nil => rfl
  | cons f l ih => rw [List.flatMap_cons, List.flatMap_cons, List.map_append, ih]; simp [Zfd]
 have h2 : (fs.flatMap Zfd).Sublist (Zaf fs) := by
  unfold Zaf
  clear hn h1
  induction fs with
  | nil => exact List.Sublist.refl _
  | cons f l ih =>
   rw [List.flatMap_cons, List.flatMap_cons]
   refine List.Sublist.append ?_ ih
   unfold ZaD
   exact (List.sublist_append_right (Zei f) (Zfd f)).trans (List.sublist_append_left _ _)
 have h3 := hn.sublist h2
 rw [← h1] at h3
 exact List.pairwise_map.1 h3
end Go.Proofs.Ythagpbkmakocjaa
namespace Go.Proofs.Ythagpbkmakocjaa
set_option linter.all false
open Go Go.Eng
def ZBp (fs : List Fil) : Option ByteArray := Za5 (fun p (f : Fil) => if (ixP fs fun y => decide (y.name = f.name)) < (p.length : Int) then some f.name else none) [] fs
def ZqY (fs : List Fil) (f : Fil) : Bool := f.imports.any fun s => decide ((ixP fs fun y => decide (y.name = s)) < 0)
def ZCu (fs : List Fil) : Option ByteArray := fs.findSome? fun f => if ZqY fs f = true then some f.name else none
theorem Zdc {α ρ τ : Type} {R : List α → α → Option ρ} {R' : List α → α → Option τ} {g : ρ → τ} (h : ∀ p x, R' p x = (R p x).map g) : ∀ (l p : List α), Za5 R' p l = (Za5 R p l).map g
 | [], p => rfl
 | x :: l, p => by
  rw [Za5, Za5, h]
  cases R p x with
  | some r => rfl
  | none => exact Zdc h l _
theorem ZFx (fs : List Fil) (h : fs.length ≤ 1048576) : Zad (Zns fs) big 0 = some ((ZBp fs).elim (.inl ()) fun s => .inr ([], s, 9)) := by
 have := ZbW (B := Zns fs) (N := big) fs (fun _ => ()) (fun p (f : Fil) => if (ixP fs fun y => decide (y.name = f.name)) < (p.length : Int) then some (([], f.name, 9) : List Int × ByteArray × Int) else none) (fun i _ => i) (fun _ => ()) (hN := Zar (by omega)) (he := by simp [Zns, Zth, br]) (hs := by
  intro i f hf
  have g1 := (List.getElem?_eq_some_iff.1 hf).1
  have g2 : i + 1 < 9223372036854775808 := by omega
  have g3 := m51 fs f.name (by omega)
  have g4 : (fs.take i).length = i := by rw [List.length_take]; omega
  simp only [Zns, Zth, br, g1, g2, g3, g4, hf, Option.bind_some, Int.ofNat_lt, decide_true, if_true, decide_eq_true_eq]
  split <;> rfl)
 rw [this]
 unfold ZBp
 rw [Zdc (g := fun s => (([], s, 9) : List Int × ByteArray × Int)) (R := fun p (f : Fil) => if (ixP fs fun y => decide (y.name = f.name)) < (p.length : Int) then some f.name else none) (fun p x => by split <;> rfl)]
 cases Za5 (fun p (f : Fil) => if (ixP fs fun y => decide (y.name = f.name)) < (p.length : Int) then some f.name else none) [] fs <;> rfl
theorem ZEO (fs : List Fil) (h : fs.length ≤ 1048576) (hi : ∀ f ∈ fs, f.imports.length < 2147483648) : Zad (ZnZ fs) big 0 = some ((ZCu fs).elim (.inl ()) fun s => .inr ([], s, 10)) := by
 have q2 : ∀ (v : Nat) (f : Fil), fs[v]? = some f → Zad (ZpP fs v f) big 0 = some (match f.imports.findIdx? (fun s => decide ((ixP fs fun y => decide (y.name = s)) < 0)) with | some i => .inr ([], f.name, 10) | none => .inl ()) := fun v f hf => by
  have h0 := hi f (List.mem_of_getElem? hf)
  refine ZbU f.imports (fun s => decide ((ixP fs fun y => decide (y.name = s)) < 0)) (fun _ => ([], f.name, 10)) () (hN := Zar (by omega)) (he := by simp [ZpP, Zsi, br]) (hs := ?_)
  intro i s hs
  have g1 := (List.getElem?_eq_some_iff.1 hs).1
  have g2 : i + 1 < 9223372036854775808 := by omega
  have g3 := m51 fs s (by omega)
  simp only [ZpP, Zsi, br, g1, g2, g3, hs, Option.bind_some, Int.ofNat_lt, decide_true, if_true]
  split <;> rfl
 have := ZbW (B := ZnZ fs) (N := big) fs (fun _ => ()) (fun _ (f : Fil) => if ZqY fs f = true then some (([], f.name, 10) : List Int × ByteArray × Int) else none) (fun i _ => i) (fun _ => ()) (hN := Zar (by omega)) (he := by simp [ZnZ, Zr8, ZuT, Zuh, br, ix, vs]) (hs := by
  intro i f hf
  have g1 := (List.getElem?_eq_some_iff.1 hf).1
  have g2 : i + 1 < 9223372036854775808 := by omega
  have g3 := q2 i f hf
  have g4 : ZqY fs f = (f.imports.findIdx? fun s => decide ((ixP fs fun y => decide (y.name = s)) < 0)).isSome := by unfold ZqY; rw [List.findIdx?_isSome]
  simp only [ZnZ, Zr8, ZuT, Zuh, br, ix, vs, g1, g2, g3, hf, Option.bind_some, Int.ofNat_lt, decide_true, if_true, g4]
  cases f.imports.findIdx? (fun s => decide ((ixP fs fun y => decide (y.name = s)) < 0)) <;> rfl)
 rw [this, ZbZ]
 unfold ZCu
 congr 1
 have : ∀ l : List Fil, (l.findSome? fun f => if ZqY fs f = true then some (([], f.name, 10) : List Int × ByteArray × Int) else none) = (l.findSome? fun f => if ZqY fs f = true then some f.name else none).map fun s => ([], s, 10) := fun l => by
  induction l with
  | nil => rfl
  | cons f l ih =>
   rw [List.findSome?_cons, List.findSome?_cons]
   cases ZqY fs f with
   | true => rfl
   | false => exact ih
 rw [this]
 cases fs.findSome? (fun f => if ZqY fs f = true then some f.name else none) <;> rfl
theorem ZiY {fs : List Fil} (h : ZCu fs = none) : ∀ f ∈ fs, Zhq fs f := fun f hf s hs => by
 have h1 := List.findSome?_eq_none_iff.1 h f hf
 have h2 : ZqY fs f = false := by cases hl : ZqY fs f with | false => rfl | true => rw [hl] at h1; cases h1
 unfold ZqY at h2
 rw [List.any_eq_false] at h2
 have := h2 s hs
 simp only [decide_eq_true_eq] at this
 omega
def fi (fs : List Fil) (s : ByteArray) : Nat := (ixP fs fun y => decide (y.name = s)).toNat
def Ze1 (fs : List Fil) (l : List ByteArray) (r : List Bool) : List Bool := l.foldl (fun r s => r.set (fi fs s) true) r
def Zhi (fs : List Fil) (xs : List Nat) (r : List Bool) : List Bool := xs.foldl (fun r x => if r.getD x false = true then Ze1 fs (fs.getD x ZiG).imports r else r) r
def ZrH (fs : List Fil) (a : Nat) : List Bool := (List.range fs.length).foldl (fun r _ => Zhi fs (List.range fs.length) r) (Ze1 fs (fs.getD a ZiG).imports (List.replicate fs.length false))
theorem Zer (fs : List Fil) : ∀ (l : List ByteArray) (r : List Bool), (Ze1 fs l r).length = r.length
 | [], r => rfl
 | s :: l, r => by unfold Ze1; rw [List.foldl_cons]; exact (Zer fs l _).trans (List.length_set)
theorem Zkd (fs : List Fil) : ∀ (xs : List Nat) (r : List Bool), (Zhi fs xs r).length = r.length
 | [], r => rfl
 | x :: xs, r => by
  unfold Zhi
  rw [List.foldl_cons]
  refine (Zkd fs xs _).trans ?_
  split
  ·exact Zer _ _ _
  ·rfl
theorem Znr {fs : List Fil} {s : ByteArray} (h : 0 ≤ ixP fs fun y => decide (y.name = s)) : fi fs s < fs.length ∧ (ixP fs fun y => decide (y.name = s)) = (fi fs s : Int) := by
 obtain ⟨i, x, h1, h2, _⟩ := Zl7 h
 unfold fi
 rw [h1, Int.toNat_natCast]
 exact ⟨(List.getElem?_eq_some_iff.1 h2).1, rfl⟩
end Go.Proofs.Ythagpbkmakocjaa
namespace Go.Proofs.Ythagpbkmakocjaa
set_option linter.all false
open Go Go.Eng
def dpx (fs : List Fil) (x : Nat) : List Nat := (fs.getD x ZiG).imports.map (fi fs)
inductive Rch (fs : List Fil) (a : Nat) : Nat → Prop
 | one {j : Nat} (h : j ∈ dpx fs a) : Rch fs a j
 | step {x j : Nat} (h : Rch fs a x) (k : j ∈ dpx fs x) : Rch fs a j
def Zj7 (fs : List Fil) : Prop := ∀ f ∈ fs, Zhq fs f
theorem ZjQ {fs : List Fil} (hF : Zj7 fs) {x j : Nat} (h : j ∈ dpx fs x) : x < fs.length ∧ j < fs.length := by
 unfold dpx at h
 rcases Nat.lt_or_ge x fs.length with hx | hx
 ·refine ⟨hx, ?_⟩
  obtain ⟨s, hs, rfl⟩ := List.mem_map.1 h
  have hm : fs.getD x ZiG ∈ fs := by rw [List.getD_eq_getElem?_getD, List.getElem?_eq_getElem hx]; exact List.getElem_mem hx
  exact (Znr (hF _ hm s hs)).1
 ·rw [List.getD_eq_getElem?_getD, List.getElem?_eq_none hx] at h
  cases h
theorem ZeI {r : List Bool} {i k : Nat} (h : i < r.length) : (r.set i true).getD k false = true ↔ r.getD k false = true ∨ k = i := by
 rw [List.getD_eq_getElem?_getD, List.getD_eq_getElem?_getD, List.getElem?_set]
 by_cases hk : i = k
 ·subst hk; simp [h]
 ·rw [if_neg hk]
  exact ⟨.inl, fun h => h.resolve_right (fun e => hk e.symm)⟩
theorem ZjZ (fs : List Fil) : ∀ (l : List ByteArray) (r : List Bool), (∀ s ∈ l, fi fs s < r.length) → ∀ k, (Ze1 fs l r).getD k false = true ↔ r.getD k false = true ∨ k ∈ l.map (fi fs)
 | [], r, _, k => by simp [Ze1]
 | s :: l, r, h, k => by
  have e : Ze1 fs (s :: l) r = Ze1 fs l (r.set (fi fs s) true) := rfl
  rw [e, ZjZ fs l _ (fun t ht => by rw [List.length_set]; exact h t (List.mem_cons_of_mem _ ht)), ZeI (h s (List.mem_cons_self ..)), List.map_cons, List.mem_cons, or_assoc]
theorem Zlv {fs : List Fil} (hF : Zj7 fs) {x : Nat} (hx : x < fs.length) {r : List Bool} (hr : r.length = fs.length) (k : Nat) : (Ze1 fs (fs.getD x ZiG).imports r).getD k false = true ↔ r.getD k false = true ∨ k ∈ dpx fs x := by
 have hm : fs.getD x ZiG ∈ fs := by rw [List.getD_eq_getElem?_getD, List.getElem?_eq_getElem hx]; exact List.getElem_mem hx
 exact ZjZ fs _ r (fun s hs => by rw [hr]; exact (Znr (hF _ hm s hs)).1) k
theorem ZmN (fs : List Fil) (x : Nat) (xs : List Nat) (r : List Bool) : Zhi fs (x :: xs) r = Zhi fs xs (if r.getD x false = true then Ze1 fs (fs.getD x ZiG).imports r else r) := rfl
theorem Zh3 {fs : List Fil} (hF : Zj7 fs) : ∀ (xs : List Nat) (r : List Bool), (∀ x ∈ xs, x < fs.length) → r.length = fs.length →
  (∀ k, r.getD k false = true → (Zhi fs xs r).getD k false = true) ∧ (∀ x ∈ xs, r.getD x false = true → ∀ j ∈ dpx fs x, (Zhi fs xs r).getD j false = true) ∧
  ∀ P : Nat → Prop, (∀ k, r.getD k false = true → P k) → (∀ x, P x → ∀ j ∈ dpx fs x, P j) → ∀ k, (Zhi fs xs r).getD k false = true → P k
 | [], r, _, _ => ⟨fun k h => h, fun x hx => (by cases hx), fun P h _ k hk => h k hk⟩
 | x :: xs, r, hx, hr => by
  rw [ZmN]
  have h0 := hx x (List.mem_cons_self ..)
  by_cases hm : r.getD x false = true
  ·rw [if_pos hm]
   have hd := fun k => Zlv hF h0 hr k
   obtain ⟨i1, i2, i3⟩ := Zh3 hF xs (Ze1 fs (fs.getD x ZiG).imports r) (fun y hy => hx y (List.mem_cons_of_mem _ hy)) ((Zer _ _ _).trans hr)
   refine ⟨fun k hk => i1 k ((hd k).2 (.inl hk)), fun y hy hyr j hj => ?_, fun P h1 h2 k hk => i3 P (fun k hk => ?_) h2 k hk⟩
   ·rcases List.mem_cons.1 hy with rfl | hy
    ·exact i1 j ((hd j).2 (.inr hj))
    ·exact i2 y hy ((hd y).2 (.inl hyr)) j hj
   ·rcases (hd k).1 hk with h | h
    ·exact h1 k h
    ·exact h2 x (h1 x hm) k h
  ·rw [if_neg hm]
   obtain ⟨i1, i2, i3⟩ := Zh3 hF xs r (fun y hy => hx y (List.mem_cons_of_mem _ hy)) hr
   refine ⟨i1, fun y hy hyr j hj => ?_, i3⟩
   rcases List.mem_cons.1 hy with rfl | hy
   ·exact absurd hyr hm
   ·exact i2 y hy hyr j hj
theorem Zgg {p q : Nat → Bool} : ∀ {l : List Nat}, (∀ x ∈ l, p x = true → q x = true) → (∃ x ∈ l, q x = true ∧ p x = false) → l.countP p < l.countP q
 | [], _, ⟨x, hx, _⟩ => by cases hx
 | y :: l, h, ⟨x, hx, h1, h2⟩ => by
  have hm : l.countP p ≤ l.countP q := List.countP_mono_left fun z hz => h z (List.mem_cons_of_mem _ hz)
  rw [List.countP_cons, List.countP_cons]
  rcases List.mem_cons.1 hx with rfl | hx
  ·rw [h1, h2]; simp; omega
  ·have := Zgg (fun z hz => h z (List.mem_cons_of_mem _ hz)) ⟨x, hx, h1, h2⟩
   have h3 := h y (List.mem_cons_self ..)
   cases hp : p y with
   | false => simp; omega
   | true => rw [h3 hp]; simp; omega
def Zmf (n : Nat) (r : List Bool) : Nat := (List.range n).countP fun k => r.getD k false
theorem ZkN (n : Nat) (r : List Bool) : Zmf n r ≤ n := by
 have := List.countP_le_length (p := fun k => r.getD k false) (l := List.range n)
 rwa [List.length_range] at this
def Cls (fs : List Fil) (r : List Bool) : Prop := ∀ x, r.getD x false = true → ∀ j ∈ dpx fs x, r.getD j false = true
def ZmZ (fs : List Fil) (r : List Bool) : List Bool := Zhi fs (List.range fs.length) r
def itP (fs : List Fil) : Nat → List Bool → List Bool
 | 0, r => r
 | m + 1, r => itP fs m (ZmZ fs r)
theorem Zjg (fs : List Fil) : ∀ (l : List Nat) (r : List Bool), l.foldl (fun r _ => Zhi fs (List.range fs.length) r) r = itP fs l.length r
 | [], r => rfl
 | x :: l, r => by rw [List.foldl_cons, Zjg fs l]; rfl
theorem ZoE {fs : List Fil} (hF : Zj7 fs) : ∀ (m : Nat) (r : List Bool), r.length = fs.length → (itP fs m r).length = fs.length ∧ (∀ k, r.getD k false = true → (itP fs m r).getD k false = true) ∧
  (∀ P : Nat → Prop, (∀ k, r.getD k false = true → P k) → (∀ x, P x → ∀ j ∈ dpx fs x, P j) → ∀ k, (itP fs m r).getD k false = true → P k) ∧ (Cls fs (itP fs m r) ∨ m + Zmf fs.length r ≤ Zmf fs.length (itP fs m r))
 | 0, r, hr => ⟨hr, fun _ h => h, fun P h _ k hk => h k hk, .inr (by simp [itP])⟩
 | m + 1, r, hr => by
  have hx : ∀ x ∈ List.range fs.length, x < fs.length := fun x hx => List.mem_range.1 hx
  obtain ⟨p1, p2, p3⟩ := Zh3 hF (List.range fs.length) r hx hr
  have hl : (ZmZ fs r).length = fs.length := (Zkd _ _ _).trans hr
  obtain ⟨i0, i1, i2, i3⟩ := ZoE hF m (ZmZ fs r) hl
  refine ⟨i0, fun k hk => i1 k (p1 k hk), fun P h1 h2 k hk => i2 P (fun k hk => p3 P h1 h2 k hk) h2 k hk, ?_⟩
  by_cases hc : Cls fs r
  ·left
   have hP : ∀ k, (itP fs m (ZmZ fs r)).getD k false = true → r.getD k false = true := fun k hk => i2 (fun k => r.getD k false = true) (fun k hk => p3 (fun k => r.getD k false = true) (fun _ h => h) hc k hk) hc k hk
   exact fun x hx j hj => i1 j (p1 j (hc x (hP x hx) j hj))
  ·rcases i3 with i3 | i3
   ·exact .inl i3
   ·right
    obtain ⟨x, hx1⟩ := Classical.not_forall.1 hc
    obtain ⟨hx2, hx3⟩ := Classical.not_imp.1 hx1
    obtain ⟨j, hj1⟩ := Classical.not_forall.1 hx3
    obtain ⟨hj2, hj3⟩ := Classical.not_imp.1 hj1
    have : Zmf fs.length r < Zmf fs.length (ZmZ fs r) := Zgg (fun k _ hk => p1 k hk) ⟨j, List.mem_range.2 (ZjQ hF hj2).2, p2 x (List.mem_range.2 (ZjQ hF hj2).1) hx2 j hj2, by simpa using hj3⟩
    show m + 1 + Zmf fs.length r ≤ Zmf fs.length (itP fs m (ZmZ fs r))
    omega
theorem Zt7 {fs : List Fil} (hF : Zj7 fs) {r : List Bool} (h : fs.length ≤ Zmf fs.length r) : Cls fs r := fun x hx j hj => by
 have h1 : (List.range fs.length).countP (fun k => r.getD k false) = (List.range fs.length).length := by
  have := ZkN fs.length r
  rw [List.length_range]
  unfold Zmf at h this
  omega
 exact (List.countP_eq_length.1 h1) j (List.mem_range.2 (ZjQ hF hj).2)
theorem Zlh {fs : List Fil} (hF : Zj7 fs) {a : Nat} (ha : a < fs.length) (k : Nat) : (ZrH fs a).getD k false = true ↔ Rch fs a k := by
 have hd := fun k => Zlv hF ha (r := List.replicate fs.length false) (by simp) k
 have hl : (Ze1 fs (fs.getD a ZiG).imports (List.replicate fs.length false)).length = fs.length := (Zer _ _ _).trans (by simp)
 have h0 : ∀ k, (List.replicate fs.length false).getD k false = false := fun k => by
  rw [List.getD_eq_getElem?_getD, List.getElem?_replicate]; split <;> rfl
 unfold ZrH
 rw [Zjg, List.length_range]
 obtain ⟨i0, i1, i2, i3⟩ := ZoE hF fs.length _ hl
 have hc : Cls fs (itP fs fs.length (Ze1 fs (fs.getD a ZiG).imports (List.replicate fs.length false))) := by
  rcases i3 with i3 | i3
  ·exact i3
  ·exact Zt7 hF (Nat.le_trans (Nat.le_add_right _ _) i3)
 constructor
 ·exact fun h => i2 (Rch fs a) (fun k hk => by
   rcases (hd k).1 hk with h | h
   ·rw [h0] at h; cases h
   ·exact .one h) (fun x hx j hj => .step hx hj) k h
 ·intro h
  induction h with
  | one h => exact i1 _ ((hd _).2 (.inr h))
  | step _ h ih => exact hc _ ih _ h
end Go.Proofs.Ythagpbkmakocjaa
namespace Go.Proofs.Ythagpbkmakocjaa
set_option linter.all false
open Go Go.Eng
def Zbi (l : List Nat) : List Int := l.map fun i : Nat => (i : Int)
def rg1 (fs : List Fil) (a : Nat) (b : List Nat × List Bool) (s : ByteArray) : (List Nat × List Bool) ⊕ Bool :=
 if fi fs s = a then .inr true else if b.2.getD (fi fs s) false = true then .inl b else .inl (b.1 ++ [fi fs s], b.2.set (fi fs s) true)
theorem ZFU (fs : List Fil) (h : fs.length ≤ 1048576) (a : Nat) (f : Fil) (hl : f.imports.length < 2147483648) (hF : Zhq fs f) (td : List Nat) (r : List Bool) (hr : r.length = fs.length) (ht : td.length ≤ 1048577) :
  Zad (Zk9 fs (a : Int) f) big (Zbi td, 0, r) = some (Sum.map (fun b => (b.2, Zbi b.1)) id (Zd7 (rg1 fs a) (td, r) f.imports)) := by
 exact ZjF (B := Zk9 fs (a : Int) f) (N := big) f.imports (fun i b => (Zbi b.1, i, b.2)) (fun i b => b.2.length = fs.length ∧ b.1.length ≤ 1048577 + i) (rg1 fs a) (fun b => (b.2, Zbi b.1)) (he := by intro b _; simp [Zk9, Zvc, br]) (b0 := (td, r)) (h0 := ⟨hr, ht⟩) (hN := Zar (by omega)) (hs := by
  intro i b s hs hI
  obtain ⟨I1, I2⟩ := hI
  have g1 := (List.getElem?_eq_some_iff.1 hs).1
  have g2 : i + 1 < 9223372036854775808 := by omega
  obtain ⟨k1, k2⟩ := Znr (hF s (List.mem_of_getElem? hs))
  have g3 := m51 fs s (by omega)
  rw [k2] at g3
  have g5 : (0 : Int) ≤ (fi fs s : Int) := by omega
  have g6 : fi fs s < b.2.length := by omega
  have g7 : b.2[fi fs s]? = some (b.2.getD (fi fs s) false) := by rw [List.getD_eq_getElem?_getD, List.getElem?_eq_getElem g6]; rfl
  have g8 : (Zbi b.1).length < 549755813887 := by unfold Zbi; rw [List.length_map]; omega
  constructor
  ·simp only [Zk9, Zvc, br, g1, g2, g3, g5, g6, g7, g8, hs, Option.bind_some, Int.ofNat_lt, decide_true, if_true, Int.toNat_natCast, true_and, and_self, List.length_set, Int.natCast_inj, decide_eq_true_eq]
   unfold rg1
   by_cases hc : fi fs s = a
   ·simp only [hc, if_true]; rfl
   ·simp only [hc, if_false]
    cases b.2.getD (fi fs s) false with
    | true => rfl
    | false =>
     simp only [Bool.not_false, if_true, Bool.false_eq_true, if_false]
     show _ = some (Lv.nx (Zbi (b.1 ++ [fi fs s]), i + 1, b.2.set (fi fs s) true))
     unfold Zbi
     rw [List.map_append]
     rfl
  ·intro b' hb'
   unfold rg1 at hb'
   split at hb'
   ·cases hb'
   ·split at hb'
    ·cases hb'; exact ⟨I1, by omega⟩
    ·cases hb'
     exact ⟨by rw [List.length_set]; exact I1, by show (b.1 ++ [fi fs s]).length ≤ _; rw [List.length_append, List.length_singleton]; omega⟩)
theorem ZAx {n k : Nat} {r : List Bool} (hk : k < n) (hr : r.length = n) (h : r.getD k false = false) : Zmf n r + 1 ≤ Zmf n (r.set k true) :=
 Zgg (fun x _ hx => (ZeI (by omega)).2 (.inl hx)) ⟨k, List.mem_range.2 hk, (ZeI (by omega)).2 (.inr rfl), h⟩
def RgL (fs : List Fil) (a : Nat) (l : List ByteArray) (b : List Nat × List Bool) : (List Nat × List Bool) ⊕ Bool → Prop
 | .inr v => v = true ∧ a ∈ l.map (fi fs)
 | .inl b' => a ∉ l.map (fi fs) ∧ b'.2.length = fs.length ∧ (∀ k, b'.2.getD k false = true ↔ b.2.getD k false = true ∨ k ∈ l.map (fi fs)) ∧ (∀ k ∈ b.1, k ∈ b'.1) ∧ (∀ k ∈ b'.1, k ∈ b.1 ∨ k ∈ l.map (fi fs)) ∧
  (∀ k, b'.2.getD k false = true → b.2.getD k false = false → k ∈ b'.1) ∧ b'.1.length + Zmf fs.length b.2 ≤ b.1.length + Zmf fs.length b'.2
theorem ZoU (fs : List Fil) (a : Nat) : ∀ (l : List ByteArray) (b : List Nat × List Bool), (∀ s ∈ l, fi fs s < fs.length) → b.2.length = fs.length → RgL fs a l b (Zd7 (rg1 fs a) b l)
 | [], b, _, hb => ⟨by simp, hb, by simp, fun _ h => h, fun _ h => .inl h, fun k h1 h2 => (by rw [h2] at h1; cases h1), Nat.le_refl _⟩
 | s :: l, b, hl, hb => by
  have h0 := hl s (List.mem_cons_self ..)
  by_cases hc : fi fs s = a
  ·have e : rg1 fs a b s = .inr true := by unfold rg1; rw [if_pos hc]
   rw [Zd7, e]
   exact ⟨rfl, by simp [hc]⟩
  ·by_cases hm : b.2.getD (fi fs s) false = true
   ·have e : rg1 fs a b s = .inl b := by unfold rg1; rw [if_neg hc, if_pos hm]
    rw [Zd7, e]
    show RgL fs a (s :: l) b (Zd7 (rg1 fs a) b l)
    have ih := ZoU fs a l b (fun t ht => hl t (List.mem_cons_of_mem _ ht)) hb
    revert ih
    cases Zd7 (rg1 fs a) b l with
    | inr v => exact fun ⟨h1, h2⟩ => ⟨h1, by simp [h2]⟩
    | inl b' =>
     intro ⟨h1, h2, h3, h4, h5, h6, h7⟩
     refine ⟨?_, h2, fun k => ?_, h4, fun k hk => ?_, h6, h7⟩
     ·rw [List.map_cons, List.mem_cons]; exact fun h => h.elim (fun e => hc e.symm) h1
     ·rw [h3, List.map_cons, List.mem_cons]
      exact ⟨fun h => h.elim .inl fun h => .inr (.inr h), fun h => h.elim .inl fun h => h.elim (fun e => .inl (e ▸ hm)) .inr⟩
     ·rcases h5 k hk with h | h
      ·exact .inl h
      ·exact .inr (by simp [h])
   ·have e : rg1 fs a b s = .inl (b.1 ++ [fi fs s], b.2.set (fi fs s) true) := by unfold rg1; rw [if_neg hc, if_neg hm]
    rw [Zd7, e]
    show RgL fs a (s :: l) b (Zd7 (rg1 fs a) (b.1 ++ [fi fs s], b.2.set (fi fs s) true) l)
    have hm' : b.2.getD (fi fs s) false = false := by simpa using hm
    have ih := ZoU fs a l (b.1 ++ [fi fs s], b.2.set (fi fs s) true) (fun t ht => hl t (List.mem_cons_of_mem _ ht)) (by rw [List.length_set]; exact hb)
    have hcs := ZAx h0 hb hm'
    revert ih
    cases Zd7 (rg1 fs a) (b.1 ++ [fi fs s], b.2.set (fi fs s) true) l with
    | inr v => exact fun ⟨h1, h2⟩ => ⟨h1, by simp [h2]⟩
    | inl b' =>
     intro ⟨h1, h2, h3, h4, h5, h6, h7⟩
     have hset : ∀ k, (b.2.set (fi fs s) true).getD k false = true ↔ b.2.getD k false = true ∨ k = fi fs s := fun k => ZeI (by omega)
     refine ⟨?_, h2, fun k => ?_, fun k hk => h4 k (by simp [hk]), fun k hk => ?_, fun k h8 h9 => ?_, ?_⟩
     ·rw [List.map_cons, List.mem_cons]; exact fun h => h.elim (fun e => hc e.symm) h1
     ·rw [h3, hset, List.map_cons, List.mem_cons, or_assoc]
     ·rcases h5 k hk with h | h
      ·rcases List.mem_append.1 h with h | h
       ·exact .inl h
       ·exact .inr (by simp at h; simp [h])
      ·exact .inr (by simp [h])
     ·by_cases hk : k = fi fs s
      ·subst hk; exact h4 _ (by simp)
      ·refine h6 k h8 ?_
       cases hq : (b.2.set (fi fs s) true).getD k false with
       | false => rfl
       | true =>
        rcases (hset k).1 hq with h | h
        ·rw [h9] at h; cases h
        ·exact absurd h hk
     ·simp only [List.length_append, List.length_singleton] at h7
      omega
def ZHf (fs : List Fil) (a m : Nat) (v : List Int × List Bool) : Prop := ∃ td r, v = (Zbi td, r) ∧ (∀ x ∈ td, x < fs.length) ∧ r.length = fs.length ∧ (∀ k, r.getD k false = true → Rch fs a k) ∧ (∀ x ∈ td, x = a ∨ Rch fs a x) ∧
 (∀ x, (x = a ∨ r.getD x false = true) → x ∉ td → ∀ j ∈ dpx fs x, r.getD j false = true ∧ j ≠ a) ∧ td.length + fs.length ≤ m + Zmf fs.length r ∧ m ≤ fs.length + 1
theorem m53 (fs : List Fil) (h : fs.length ≤ 1048576) (hi : ∀ f ∈ fs, f.imports.length < 2147483648) (hF : Zj7 fs) (a : Nat) (ha : a < fs.length) : ∃ b, Zcp fs (a : Int) = some b ∧ (b = true ↔ Rch fs a a) := by
 have q : ∃ o : Unit ⊕ Bool, Zad (Zna fs (a : Int)) big ([(a : Int)], List.replicate fs.length false) = some o ∧ (match o with | .inl _ => ¬ Rch fs a a | .inr b => b = true ∧ Rch fs a a) := by
  refine Ziq (ZHf fs a) (fun o : Unit ⊕ Bool => match o with | .inl _ => ¬ Rch fs a a | .inr b => b = true ∧ Rch fs a a) ?_ big (fs.length + 1) _ (Zar (by omega)) ?_
  ·rintro k v ⟨td, r, rfl, h1, h2, h3, h4, h5, h6, h7⟩
   have hcb := ZkN fs.length r
   cases td with
   | nil =>
    refine ⟨.ex (), by simp [Zna, Ztk, Zva, vz, vs, Bd.vl, Zbi], fun hr => ?_⟩
    have : ∀ j, Rch fs a j → r.getD j false = true ∧ j ≠ a := fun j hj => by
     induction hj with
     | one hj => exact h5 a (.inl rfl) (by simp) _ hj
     | step _ hj ih => exact h5 _ (.inr ih.1) (by simp) _ hj
    exact (this a hr).2 rfl
   | cons x td =>
    have hx := h1 x (List.mem_cons_self ..)
    have g5 : fs[x]? = some (fs.getD x ZiG) := by rw [List.getD_eq_getElem?_getD, List.getElem?_eq_getElem hx]; rfl
    have hm := List.mem_of_getElem? g5
    simp only [List.length_cons] at h6
    have q2 := ZFU fs h a (fs.getD x ZiG) (hi _ hm) (hF _ hm) td r h2 (by omega)
    have q3 := ZoU fs a (fs.getD x ZiG).imports (td, r) (fun s hs => (Znr (hF _ hm s hs)).1) h2
    have g6 : (0 : Int) < ((td.length + 1 : Nat) : Int) := by omega
    have g7 : (0 : Int) ≤ (x : Int) := by omega
    have e1 : Zbi (x :: td) = (x : Int) :: Zbi td := rfl
    have e2 : (Zbi td).length = td.length := by simp [Zbi]
    have e3 : Zna fs (a : Int) (Zbi (x :: td), r) = (Zad (Zk9 fs (a : Int) (fs.getD x ZiG)) big (Zbi td, 0, r)).bind (Sum.elim (fun x => some (.nx (x.2, x.1))) fun z => some (.rt z)) := by
     rw [e1]
     simp only [Zna, Ztk, Zva, vz, vs, Bd.c, Bd.vl, g5, g7, e2, List.length_cons, List.getElem?_cons_zero, Option.bind_some, Int.toNat_natCast, if_true]
     simp [e2]
    rw [e3, q2]
    revert q3
    cases Zd7 (rg1 fs a) (td, r) (fs.getD x ZiG).imports with
    | inr v =>
     rintro ⟨rfl, hv⟩
     refine ⟨.rt true, rfl, rfl, ?_⟩
     rcases h4 x (List.mem_cons_self ..) with rfl | hx'
     ·exact .one hv
     ·exact .step hx' hv
    | inl b' =>
     rintro ⟨c1, c2, c3, c4, c5, c6, c7⟩
     have hdp : ∀ j ∈ dpx fs x, Rch fs a j := fun j hj => by
      rcases h4 x (List.mem_cons_self ..) with rfl | hx'
      ·exact .one hj
      ·exact .step hx' hj
     refine ⟨.nx (Zbi b'.1, b'.2), rfl, k - 1, ?_, b'.1, b'.2, rfl, fun y hy => ?_, c2, fun j hj => ?_, fun y hy => ?_, fun y hy hn j hj => ?_, ?_, by omega⟩
     ·omega
     ·rcases c5 y hy with hy | hy
      ·exact h1 y (List.mem_cons_of_mem _ hy)
      ·exact (ZjQ hF (x := x) hy).2
     ·rcases (c3 j).1 hj with hj | hj
      ·exact h3 j hj
      ·exact hdp j hj
     ·rcases c5 y hy with hy | hy
      ·exact h4 y (List.mem_cons_of_mem _ hy)
      ·exact .inr (hdp y hy)
     ·by_cases hyx : y = x
      ·subst hyx
       exact ⟨(c3 j).2 (.inr hj), fun e => c1 (e ▸ hj)⟩
      ·have hyt : y ∉ x :: td := fun hm => by
        rcases List.mem_cons.1 hm with e | hm
        ·exact hyx e
        ·exact hn (c4 y hm)
       have hy' : y = a ∨ r.getD y false = true := by
        rcases hy with e | hy
        ·exact .inl e
        ·cases hq : r.getD y false with
         | true => exact .inr rfl
         | false => exact absurd (c6 y hy hq) hn
       obtain ⟨d1, d2⟩ := h5 y hy' hyt j hj
       exact ⟨(c3 j).2 (.inl d1), d2⟩
     ·simp only at c7
      have := ZkN fs.length b'.2
      omega
  ·have h0 : ∀ k, (List.replicate fs.length false).getD k false = false := fun k => by
    rw [List.getD_eq_getElem?_getD, List.getElem?_replicate]; split <;> rfl
   refine ⟨[a], _, rfl, fun x hx => (by simp at hx; omega), by simp, fun k hk => (by rw [h0] at hk; cases hk), fun x hx => .inl (by simpa using hx), fun x hx hn => ?_, by simp; omega, Nat.le_refl _⟩
   rcases hx with rfl | hx
   ·exact absurd (by simp) hn
   ·rw [h0] at hx; cases hx
 obtain ⟨o, q1, q2⟩ := q
 have g10 : fs.length ≤ 549755813888 := by omega
 unfold Zcp
 simp only [Zxs, ZAO, vz, lr, lf, g10, q1, Option.bind_some, if_true]
 cases o with
 | inl u => exact ⟨false, rfl, ⟨fun h => (by cases h), fun h => absurd h q2⟩⟩
 | inr b => exact ⟨b, rfl, ⟨fun _ => q2.2, fun _ => q2.1⟩⟩
end Go.Proofs.Ythagpbkmakocjaa
namespace Go.Proofs.Ythagpbkmakocjaa
set_option linter.all false
open Go Go.Eng
theorem ZED : ∀ (n : Nat) (l : List Nat), l.Nodup → (∀ x ∈ l, x < n) → l.length ≤ n
 | 0, l, _, h => by
  cases l with
  | nil => exact Nat.le_refl _
  | cons x l => exact absurd (h x (List.mem_cons_self ..)) (Nat.not_lt_zero _)
 | n + 1, l, hn, h => by
  have := ZED n (l.erase n) (hn.erase n) (fun x hx => by
   have h1 := (hn.mem_erase_iff).1 hx
   have := h x h1.2
   omega)
  have h2 := List.length_erase (a := n) (l := l)
  split at h2 <;> omega
theorem ZGc : ∀ (n : Nat) (l : List Nat), (∀ i, i < n → i ∈ l) → n ≤ l.length
 | 0, _, _ => Nat.zero_le _
 | n + 1, l, h => by
  have h1 := h n (Nat.lt_succ_self n)
  have := ZGc n (l.erase n) (fun i hi => (List.mem_erase_of_ne (by omega)).2 (h i (by omega)))
  rw [List.length_erase_of_mem h1] at this
  have := List.length_pos_of_mem h1
  omega
theorem ZIu (n : Nat) (s : Nat → Nat) (h : ∀ a, s a < n) : ∃ a b, a < b ∧ b ≤ n ∧ s a = s b := by
 refine Classical.byContradiction fun hc => ?_
 have hnd : ((List.range (n + 1)).map s).Nodup := by
  unfold List.Nodup
  rw [List.pairwise_map]
  exact List.Pairwise.imp_of_mem (fun {a b} ha hb hab => fun e => hc ⟨a, b, hab, by have := List.mem_range.1 hb; omega, e⟩) (List.pairwise_lt_range (n := n + 1))
 have := ZED n _ hnd (fun x hx => by obtain ⟨a, _, rfl⟩ := List.mem_map.1 hx; exact h a)
 simp at this
 omega
def ZnA (o : List Nat) (x : Int) : Bool := (Zbi o).any fun y => decide (x = y)
theorem Zfz {o : List Nat} {i : Nat} : ZnA o (i : Int) = true ↔ i ∈ o := by
 unfold ZnA Zbi
 rw [List.any_map, List.any_eq_true]
 constructor
 ·rintro ⟨y, hy, h⟩
  have : (i : Int) = (y : Int) := of_decide_eq_true h
  have : i = y := by omega
  exact this ▸ hy
 ·exact fun h => ⟨i, h, by simp [Function.comp]⟩
def rdF (fs : List Fil) (o : List Nat) (f : Fil) : Bool := !ZnA o (ixP fs fun y => decide (y.name = f.name)) && !(f.imports.any fun s => !ZnA o (ixP fs fun y => decide (y.name = s)))
theorem ZF6 (fs : List Fil) (o : List Nat) (f : Fil) (h1 : fs.length ≤ 1048576) (h2 : o.length ≤ 1048576) (h3 : f.imports.length < 2147483648) : Zbe f (Zbi o) fs = some (rdF fs o f) := by
 have hl : (Zbi o).length < 4611686018427387904 := by unfold Zbi; rw [List.length_map]; omega
 have e1 : ∀ x, Zbb (Zbi o) x = some (ZnA o x) := fun x => ZEX _ x hl
 have e2 : ∀ x, Zcm (Zbi o) x = some (ZnA o x) := fun x => m88 _ x hl
 have e2r : ∀ x, Zbb (Zbi o) x = some (ZnA o x) := e1
 have e3 : ∀ s, Zch s (Zbi o) fs = some (!ZnA o (ixP fs fun y => decide (y.name = s))) := fun s => by
  unfold Zch
  simp only [ZDk, vw, m51 fs s (by omega), e2, Option.bind_some]
 have e4 : ∀ s, ZaV s (Zbi o) fs = some (!ZnA o (ixP fs fun y => decide (y.name = s))) := fun s => by
  unfold ZaV
  simp only [Zk8, vw, m51 fs s (by omega), e1, Option.bind_some]
 have e5 := m89 f.imports (fun s => ZaV s (Zbi o) fs) (fun s => !ZnA o (ixP fs fun y => decide (y.name = s))) (fun s _ => e4 s) (by omega)
 have e6 := m89 f.imports (fun s => Zch s (Zbi o) fs) (fun s => !ZnA o (ixP fs fun y => decide (y.name = s))) (fun s _ => e3 s) (by omega)
 unfold Zbe rdF
 simp only [Zky, vw, m51 fs f.name (by omega), e1, e5, Option.bind_some]
 cases ZnA o (ixP fs fun y => decide (y.name = f.name)) <;> rfl
def Zxo (fs : List Fil) : Prop := ∀ (i : Nat) (f : Fil), fs[i]? = some f → (ixP fs fun y => decide (y.name = f.name)) = (i : Int)
theorem Zfm {α ρ : Type} {R : List α → α → Option ρ} : ∀ {l p : List α}, Za5 R p l = none → ∀ (i : Nat) (x : α), l[i]? = some x → R (p ++ l.take i) x = none
 | [], p, _, i, x, hx => by simp at hx
 | y :: l, p, h, i, x, hx => by
  rw [Za5] at h
  cases hr : R p y with
  | some r => rw [hr] at h; cases h
  | none =>
   rw [hr] at h
   cases i with
   | zero =>
    simp only [List.getElem?_cons_zero, Option.some.injEq] at hx
    subst hx
    simpa using hr
   | succ i =>
    have := Zfm (l := l) (p := p ++ [y]) h i x (by simpa using hx)
    simpa using this
theorem ZrS {fs : List Fil} (h : ZBp fs = none) : Zxo fs := fun i f hf => by
 have h1 := Zfm h i f hf
 have hlt := (List.getElem?_eq_some_iff.1 hf).1
 simp only [List.nil_append, List.length_take] at h1
 split at h1
 ·cases h1
 ·rename_i hn
  have hge : 0 ≤ ixP fs fun y => decide (y.name = f.name) := by omega
  obtain ⟨j, g, e1, e2, e3, e4⟩ := Zl7 hge
  rw [e1] at hn ⊢
  have : ¬ i < j := fun hij => by
   have := e4 i hij f hf
   simp at this
  omega
structure Cho (fs : List Fil) (o : List Nat) : Prop where
 lt : ∀ x ∈ o, x < fs.length
 nd : o.Nodup
 dep : ∀ (k x : Nat), o[k]? = some x → ∀ j ∈ dpx fs x, j ∈ o.take k
theorem ZoH {fs : List Fil} {o : List Nat} (h : Cho fs o) : o.length ≤ fs.length := ZED fs.length o h.nd h.lt
theorem Zvu {fs : List Fil} (hF : Zj7 fs) (hD : Zxo fs) {o : List Nat} {i : Nat} {f : Fil} (hf : fs[i]? = some f) : rdF fs o f = true ↔ i ∉ o ∧ ∀ j ∈ dpx fs i, j ∈ o := by
 have e : fs.getD i ZiG = f := by rw [List.getD_eq_getElem?_getD, hf]; rfl
 have hm := List.mem_of_getElem? hf
 unfold rdF dpx
 rw [hD i f hf, e, Bool.and_eq_true, Bool.not_eq_true', Bool.not_eq_true', List.any_eq_false]
 constructor
 ·rintro ⟨h1, h2⟩
  refine ⟨fun hi => (by rw [Zfz.2 hi] at h1; cases h1), fun j hj => ?_⟩
  obtain ⟨s, hs, rfl⟩ := List.mem_map.1 hj
  have := h2 s hs
  rw [(Znr (hF f hm s hs)).2] at this
  exact Zfz.1 (by simpa using this)
 ·rintro ⟨h1, h2⟩
  refine ⟨?_, fun s hs => ?_⟩
  ·cases hq : ZnA o (i : Int) with
   | false => rfl
   | true => exact absurd (Zfz.1 hq) h1
  ·rw [(Znr (hF f hm s hs)).2, Zfz.2 (h2 _ (List.mem_map.2 ⟨s, hs, rfl⟩))]
   simp
theorem m52 (fs : List Fil) (h : fs.length ≤ 1048576) (hi : ∀ f ∈ fs, f.imports.length < 2147483648) (hF : Zj7 fs) (hD : Zxo fs) : ∃ o, Zdd fs = some (Zbi o) ∧ Cho fs o ∧ (o.length = fs.length ∨ ∀ x, x < fs.length → x ∉ o → ∃ j ∈ dpx fs x, j ∉ o) := by
 have q : ∃ r : List Int ⊕ List Int, Zad (ZnP fs) big [] = some r ∧ ∃ o, (r = .inl (Zbi o) ∨ r = .inr (Zbi o)) ∧ Cho fs o ∧ (o.length = fs.length ∨ ∀ x, x < fs.length → x ∉ o → ∃ j ∈ dpx fs x, j ∉ o) := by
  refine Ziq (fun m v => ∃ o, v = Zbi o ∧ Cho fs o ∧ fs.length ≤ m + o.length) (fun r : List Int ⊕ List Int => ∃ o, (r = .inl (Zbi o) ∨ r = .inr (Zbi o)) ∧ Cho fs o ∧ (o.length = fs.length ∨ ∀ x, x < fs.length → x ∉ o → ∃ j ∈ dpx fs x, j ∉ o)) ?_ big fs.length [] (Zar (by omega)) ⟨[], rfl, ⟨fun x hx => (by cases hx), List.nodup_nil, fun k x hx => (by simp at hx)⟩, by simp⟩
  rintro m v ⟨o, rfl, hC, hm⟩
  have hol := ZoH hC
  have e0 : (Zbi o).length = o.length := by simp [Zbi]
  by_cases hlt : o.length < fs.length
  ·have g1 := m85 fs (fun z => Zbe z (Zbi o) fs) (rdF fs o) (fun f hf => ZF6 fs o f h (by omega) (hi f hf)) (by omega)
   by_cases hn : (ixP fs (rdF fs o)) < 0
   ·refine ⟨.rt (Zbi o), by simp only [ZnP, ZqH, vw, e0, hlt, g1, hn, Option.bind_some, Int.ofNat_lt, decide_true, if_true], o, .inr rfl, hC, .inr fun x hx hxo => ?_⟩
    apply Classical.byContradiction
    intro hne
    have hr : rdF fs o fs[x] = true := (Zvu hF hD (List.getElem?_eq_getElem hx)).2 ⟨hxo, fun j hj => Classical.byContradiction fun hjo => hne ⟨j, hj, hjo⟩⟩
    have := Zhn (l := fs) (p := rdF fs o)
    rw [List.any_eq_true.2 ⟨fs[x], List.getElem_mem hx, hr⟩] at this
    have := of_decide_eq_true this
    omega
   ·obtain ⟨i, f, e1, e2, e3, _⟩ := Zl7 (l := fs) (p := rdF fs o) (by omega)
    obtain ⟨r1, r2⟩ := (Zvu hF hD e2).1 e3
    have hil := (List.getElem?_eq_some_iff.1 e2).1
    rw [e1] at g1 hn
    have g3 : o.length < 549755813887 := by omega
    refine ⟨.nx (Zbi o ++ [(i : Int)]), by simp only [ZnP, ZqH, vw, e0, hlt, g1, hn, g3, Option.bind_some, Int.ofNat_lt, decide_true, decide_false, if_true, Bool.false_eq_true, if_false], m - 1, by omega, o ++ [i], by simp [Zbi], ⟨fun x hx => ?_, ?_, fun k x hx j hj => ?_⟩, by simp; omega⟩
    ·rcases List.mem_append.1 hx with hx | hx
     ·exact hC.lt x hx
     ·simp at hx; omega
    ·rw [List.nodup_append]
     exact ⟨hC.nd, by simp, fun a ha b hb => by simp at hb; subst hb; exact fun e => r1 (e ▸ ha)⟩
    ·have hk := (List.getElem?_eq_some_iff.1 hx).1
     rw [List.length_append, List.length_singleton] at hk
     rcases Nat.lt_or_ge k o.length with hk2 | hk2
     ·rw [List.getElem?_append_left hk2] at hx
      rw [List.take_append_of_le_length (by omega)]
      exact hC.dep k x hx j hj
     ·have : k = o.length := by omega
      subst this
      rw [List.getElem?_append_right (Nat.le_refl _), Nat.sub_self] at hx
      simp at hx
      subst hx
      rw [List.take_append_of_le_length (Nat.le_refl _), List.take_length]
      exact r2 j hj
  ·refine ⟨.ex (Zbi o), by simp [ZnP, ZqH, vw, e0, hlt], o, .inl rfl, hC, .inl (by omega)⟩
 obtain ⟨r, q1, o, q2, q3, q4⟩ := q
 refine ⟨o, ?_, q3, q4⟩
 unfold Zdd
 simp only [Zwg, ZyX, ZAR, vw, lc, q1, Option.bind_some]
 rcases q2 with rfl | rfl <;> rfl
theorem Zzk {fs : List Fil} {o : List Nat} (h : Cho fs o) {a j : Nat} (hr : Rch fs a j) : ∀ k : Nat, o[k]? = some a → ∃ m : Nat, m < k ∧ o[m]? = some j := by
 induction hr with
 | one hj =>
  intro k hk
  have := h.dep k _ hk _ hj
  obtain ⟨m, hm⟩ := List.mem_iff_getElem?.1 this
  have hml := (List.getElem?_eq_some_iff.1 hm).1
  rw [List.length_take] at hml
  rw [List.getElem?_take_of_lt (by omega)] at hm
  exact ⟨m, by omega, hm⟩
 | step _ hj ih =>
  intro k hk
  obtain ⟨m, hm, hx⟩ := ih k hk
  have := h.dep m _ hx _ hj
  obtain ⟨m2, hm2⟩ := List.mem_iff_getElem?.1 this
  have hml := (List.getElem?_eq_some_iff.1 hm2).1
  rw [List.length_take] at hml
  rw [List.getElem?_take_of_lt (by omega)] at hm2
  exact ⟨m2, by omega, hm2⟩
theorem ZkF {fs : List Fil} {o : List Nat} (h : Cho fs o) {a : Nat} (ha : a ∈ o) : ¬ Rch fs a a := fun hr => by
 obtain ⟨k, hk⟩ := List.mem_iff_getElem?.1 ha
 obtain ⟨m, hm, hx⟩ := Zzk h hr k hk
 obtain ⟨h1, e1⟩ := List.getElem?_eq_some_iff.1 hk
 obtain ⟨h2, e2⟩ := List.getElem?_eq_some_iff.1 hx
 exact (List.pairwise_iff_getElem.1 h.nd) m k h2 h1 hm (by rw [e1, e2])
theorem ZqA {fs : List Fil} (hF : Zj7 fs) {o : List Nat} (h : ∀ x, x < fs.length → x ∉ o → ∃ j ∈ dpx fs x, j ∉ o) {x : Nat} (hx : x < fs.length) (hxo : x ∉ o) : ∃ a, a < fs.length ∧ Rch fs a a := by
 let T := { y : Nat // y < fs.length ∧ y ∉ o }
 have hn : ∀ y : T, ∃ z : T, z.1 ∈ dpx fs y.1 := fun y => by
  obtain ⟨j, hj, hjo⟩ := h y.1 y.2.1 y.2.2
  exact ⟨⟨j, (ZjQ hF hj).2, hjo⟩, hj⟩
 let nx : T → T := fun y => Classical.choose (hn y)
 have hnx : ∀ y : T, (nx y).1 ∈ dpx fs y.1 := fun y => Classical.choose_spec (hn y)
 let s : Nat → T := fun n => Nat.rec ⟨x, hx, hxo⟩ (fun _ y => nx y) n
 have hs : ∀ n, (s (n + 1)).1 ∈ dpx fs (s n).1 := fun n => hnx (s n)
 have hr : ∀ a d, Rch fs (s a).1 (s (a + d + 1)).1 := fun a d => by
  induction d with
  | zero => exact .one (hs a)
  | succ d ih => exact .step ih (hs (a + d + 1))
 obtain ⟨a, b, hab, _, he⟩ := ZIu fs.length (fun n => (s n).1) (fun n => (s n).2.1)
 obtain ⟨d, rfl⟩ : ∃ d, b = a + d + 1 := ⟨b - a - 1, by omega⟩
 exact ⟨(s a).1, (s a).2.1, by have := hr a d; rw [← he] at this; exact this⟩
end Go.Proofs.Ythagpbkmakocjaa
namespace Go.Proofs.Ythagpbkmakocjaa
set_option linter.all false
open Go Go.Eng
def cyc (fs : List Fil) : Option ByteArray := Za5 (fun p (f : Fil) => if (ZrH fs p.length).getD p.length false = true then some f.name else none) [] fs
def Zx0 (fs : List Fil) : ByteArray × Int :=
 if fs.length < 1 ∨ 16 < fs.length then (⟨#[]⟩, 3) else match ZBp fs with
  | some s => (s, 9)
  | none => match ZCu fs with
   | some s => (s, 10)
   | none => match cyc fs with
    | some s => (s, 19)
    | none => (⟨#[]⟩, 0)
theorem ZIe (fs : List Fil) (h : fs.length ≤ 1048576) (hi : ∀ f ∈ fs, f.imports.length < 2147483648) (hF : Zj7 fs) (a : Nat) (ha : a < fs.length) : Zcp fs (a : Int) = some ((ZrH fs a).getD a false) := by
 obtain ⟨b, h1, h2⟩ := m53 fs h hi hF a ha
 rw [h1]
 congr 1
 rw [Bool.eq_iff_iff, h2, Zlh hF ha]
theorem ZFK (fs : List Fil) (h : fs.length ≤ 1048576) (hi : ∀ f ∈ fs, f.imports.length < 2147483648) (hF : Zj7 fs) : Zad (ZnB fs) big 0 = some ((cyc fs).elim (.inl ()) fun s => .inr ([], s, 19)) := by
 have := ZbW (B := ZnB fs) (N := big) fs (fun _ => ()) (fun p (f : Fil) => if (ZrH fs p.length).getD p.length false = true then some (([], f.name, 19) : List Int × ByteArray × Int) else none) (fun i _ => i) (fun _ => ()) (hN := Zar (by omega)) (he := by simp [ZnB, ZsF, br]) (hs := by
  intro i f hf
  have g1 := (List.getElem?_eq_some_iff.1 hf).1
  have g2 : i + 1 < 9223372036854775808 := by omega
  have g3 := ZIe fs h hi hF i g1
  have g4 : (fs.take i).length = i := by rw [List.length_take]; omega
  simp only [ZnB, ZsF, br, g1, g2, g3, g4, hf, Option.bind_some, Int.ofNat_lt, decide_true, if_true]
  cases (ZrH fs i).getD i false <;> rfl)
 rw [this]
 unfold cyc
 rw [Zdc (g := fun s => (([], s, 19) : List Int × ByteArray × Int)) (R := fun p (f : Fil) => if (ZrH fs p.length).getD p.length false = true then some f.name else none) (fun p x => by split <;> rfl)]
 cases Za5 (fun p (f : Fil) => if (ZrH fs p.length).getD p.length false = true then some f.name else none) [] fs <;> rfl
theorem ZeL {α ρ : Type} {R : List α → α → Option ρ} : ∀ {l p : List α} {i : Nat} {x : α}, l[i]? = some x → R (p ++ l.take i) x ≠ none → ∃ r, Za5 R p l = some r
 | [], p, i, x, hx, _ => by simp at hx
 | y :: l, p, i, x, hx, h => by
  rw [Za5]
  cases hr : R p y with
  | some r => exact ⟨r, rfl⟩
  | none =>
   cases i with
   | zero =>
    simp only [List.getElem?_cons_zero, Option.some.injEq] at hx
    subst hx
    exact absurd hr (by simpa using h)
   | succ i => exact ZeL (l := l) (p := p ++ [y]) (i := i) (x := x) (by simpa using hx) (by simpa using h)
theorem Zt8 {fs : List Fil} (hF : Zj7 fs) {a : Nat} (ha : a < fs.length) (hr : Rch fs a a) : ∃ s, cyc fs = some s :=
 ZeL (List.getElem?_eq_getElem ha) (by
  have e : (fs.take a).length = a := by rw [List.length_take]; omega
  simp only [List.nil_append, e]
  rw [if_pos ((Zlh hF ha a).2 hr)]
  simp)
theorem Zs3 {fs : List Fil} (hF : Zj7 fs) (h : ∀ a, a < fs.length → ¬ Rch fs a a) : cyc fs = none := by
 cases hc : cyc fs with
 | none => rfl
 | some s =>
  exfalso
  unfold cyc at hc
  have key : ∀ (l p : List Fil), p ++ l = fs → Za5 (fun p (f : Fil) => if (ZrH fs p.length).getD p.length false = true then some f.name else none) p l = some s → False := fun l => by
   induction l with
   | nil => intro p _ h; cases h
   | cons x l ih =>
    intro p hp hq
    rw [Za5] at hq
    have hlt : p.length < fs.length := by rw [← hp]; simp
    have hno : ¬ (ZrH fs p.length).getD p.length false = true := fun q => h _ hlt ((Zlh hF hlt _).1 q)
    rw [if_neg hno] at hq
    exact ih (p ++ [x]) (by simpa using hp) hq
  exact key fs [] rfl hc
theorem m22 (fs : List Fil) (hi : ∀ f ∈ fs, f.imports.length < 2147483648) (h : fs.length ≤ 1048576) : ∃ l, ZdG fs = some (l, Zx0 fs) := by
 unfold ZdG Zx0
 by_cases hn : fs.length < 1 ∨ 16 < fs.length
 ·have g : (decide ((fs.length : Int) < (1 : Int)) || decide ((16 : Int) < (fs.length : Int))) = true := by simp; omega
  simp only [ZtO, ZuP, ZrO, Zmu, ZmC, ZmF, vz, lr, lf, cl, g, if_true, hn]
  exact ⟨[], rfl⟩
 ·have g : (decide ((fs.length : Int) < (1 : Int)) || decide ((16 : Int) < (fs.length : Int))) = false := by simp; omega
  simp only [ZtO, ZuP, ZrO, Zmu, ZmC, ZmF, vz, lr, lf, cl, g, Bool.false_eq_true, if_false, hn, ZFx fs h, Option.bind_some]
  cases h1 : ZBp fs with
  | some s => exact ⟨[], rfl⟩
  | none =>
   simp only [Option.elim, Sum.elim_inl, ZEO fs h hi, Option.bind_some]
   cases h2 : ZCu fs with
   | some s => exact ⟨[], rfl⟩
   | none =>
    have hF : Zj7 fs := ZiY h2
    have hD := ZrS h1
    obtain ⟨o, o1, o2, o3⟩ := m52 fs h hi hF hD
    simp only [Sum.elim_inl, Option.bind_some, o1]
    have e0 : (Zbi o).length = o.length := by simp [Zbi]
    by_cases hl : o.length = fs.length
    ·have hall : ∀ a, a < fs.length → a ∈ o := fun a ha => by
      apply Classical.byContradiction
      intro hao
      have := ZED fs.length (a :: o) (List.nodup_cons.2 ⟨hao, o2.nd⟩) (fun x hx => by rcases List.mem_cons.1 hx with rfl | hx; exact ha; exact o2.lt x hx)
      simp at this
      omega
     rw [Zs3 hF fun a ha => ZkF o2 (hall a ha)]
     refine ⟨Zbi o, ?_⟩
     simp [e0, hl]
    ·obtain ⟨x, hx, hxo⟩ : ∃ x, x < fs.length ∧ x ∉ o := by
      apply Classical.byContradiction
      intro hne
      have := ZGc fs.length o (fun i hi' => Classical.byContradiction fun hio => hne ⟨i, hi', hio⟩)
      have := ZoH o2
      omega
     obtain ⟨a, ha, hr⟩ := ZqA hF (o3.resolve_left hl) hx hxo
     obtain ⟨s, hs⟩ := Zt8 hF ha hr
     refine ⟨[], ?_⟩
     have e9 : ¬ (o.length : Int) = (fs.length : Int) := by omega
     simp [e0, e9, ZFK fs h hi hF, hs]
end Go.Proofs.Ythagpbkmakocjaa
