import Derived.Test.YthagpbkmakocjaaCu18
namespace Go.Proofs.Ythagpbkmakocjaa
set_option linter.all false
open Go Go.Eng
theorem Zmn {α β τ : Type} (g : α → β × Int) (F : Int → τ) (l : List α) : (l.findSome? fun x => if (g x).2 = 0 then none else some (F (g x).2)) = (ZlL g l).map F := by
 unfold ZlL
 induction l with
 | nil => rfl
 | cons x l ih =>
  rw [List.findSome?_cons, List.findSome?_cons]
  by_cases h : (g x).2 = 0
  ·simp only [h, if_true]; exact ih
  ·simp only [h, if_false]; rfl
def ZwN {α β : Type} (g : α → β × Int) (nm : α → ByteArray) (l : List α) : Option (ByteArray × Int) := l.findSome? fun x => if (g x).2 = 0 then none else some (nm x, (g x).2)
theorem Ze3 {α β τ : Type} (g : α → β × Int) (nm : α → ByteArray) (F : ByteArray → Int → τ) (l : List α) : (l.findSome? fun x => if (g x).2 = 0 then none else some (F (nm x) (g x).2)) = (ZwN g nm l).map fun r => F r.1 r.2 := by
 unfold ZwN
 induction l with
 | nil => rfl
 | cons x l ih =>
  rw [List.findSome?_cons, List.findSome?_cons]
  by_cases h : (g x).2 = 0
  ·simp only [h, if_true]; exact ih
  ·simp only [h, if_false]; rfl
theorem Ztq {α β : Type} {g : α → β × Int} {nm : α → ByteArray} {l : List α} {c : ByteArray × Int} (h : ZwN g nm l = some c) : c.2 ≠ 0 := by
 obtain ⟨x, _, hx⟩ := List.exists_of_findSome?_eq_some h
 split at hx
 ·cases hx
 ·rename_i h0; cases hx; exact h0
structure Base0 (fs : List Fil) : Prop where
 a : SzA fs
 g : ∀ f ∈ fs, SzG f
 i : ∀ f ∈ fs, Zd3 fs f
 d : ∀ x, ZdR (Zak fs) x = true → ZeU fs x = none
 u : (Zat fs).Pairwise fun a b => a.name ≠ b.name
def mS (fs : List Fil) (f : Fil) : Msg → Msg × Int := ZzP (ZaX fs f) (Zak fs) (Zat fs) f.space
def vS' (fs : List Fil) (f : Fil) : Svc → Svc × Int := Zz1 (ZaX fs f) (Zak fs) f.space
def Zz4 (fs : List Fil) (f : Fil) : Option (ByteArray × Int) := ZwN (mS fs f) (fun m => Zaq f.space m.name) f.messages
def ZAm (fs : List Fil) (f : Fil) : Option (ByteArray × Int) := ZwN (vS' fs f) (fun v => Zaq f.space v.name) f.services
theorem ZiJ {fs : List Fil} (h : Base0 fs) {f : Fil} (hf : f ∈ fs) : (ZaX fs f).length ≤ 274878955520 := by
 have := Zi4 h.a hf (h.i f hf) (i := f.imports.length)
 rwa [List.take_length] at this
theorem ZLd (fs : List Fil) (h : Base0 fs) (f : Fil) (hf : f ∈ fs) : Zab (Zoq fs f (ZaX fs f)) big ([], 0) = some ((Zz4 fs f).elim (.inl (f.messages.map fun m => (mS fs f m).1)) fun r => .inr ([], [], r.1, r.2)) := by
 have hz := h.a.f f hf
 have hg := h.g f hf
 have hv := ZiJ h hf
 have z1 := hz.sp
 have z2 := hz.ms
 have q2 : ∀ (r2 : List Msg) (v3 : Nat) (m : Msg), m ∈ f.messages → Zab (Zpr fs f (ZaX fs f) r2 v3 m (Zaq f.space m.name)) big ([], 0) = some ((ZlL (ZaW (ZaX fs f) (Zak fs) (Zat fs) (Zaq f.space m.name)) m.fields).elim (.inl (m.fields.map fun d => (ZaW (ZaX fs f) (Zak fs) (Zat fs) (Zaq f.space m.name) d).1)) fun c => .inr ([], [], Zaq f.space m.name, c)) := fun r2 v3 m hm => by
  have hj := Zfy f.space m.name
  have hn := hz.nm1 m hm
  have hl := hg.fl m hm
  generalize Zaq f.space m.name = sc at *
  have := ZaO (B := Zpr fs f (ZaX fs f) r2 v3 m sc) (N := big) m.fields (fun p => p.map fun d => (ZaW (ZaX fs f) (Zak fs) (Zat fs) sc d).1) (fun _ d => if (ZaW (ZaX fs f) (Zak fs) (Zat fs) sc d).2 = 0 then none else some ([], [], sc, (ZaW (ZaX fs f) (Zak fs) (Zat fs) sc d).2)) (fun i c => (c, i)) (fun c => c) (hN := Zaf (by omega)) (he := by simp [Zpr, ZvX, br]) (hs := by
   intro i d hd
   have g1 := (List.getElem?_eq_some_iff.1 hd).1
   have g2 : i + 1 < 9223372036854775808 := by omega
   obtain ⟨y, hy1, hy2⟩ := m69 fs (ZaX fs f) sc d h.a (by omega) (by have := hg.ft m hm d (List.mem_of_getElem? hd); omega) (by omega) (fun f hf e he => by have := (h.g f hf).ei e he; omega) h.d
   have g3 : ((m.fields.take i).map fun d => (ZaW (ZaX fs f) (Zak fs) (Zat fs) sc d).1).length < 549755813887 := by rw [List.length_map, List.length_take]; omega
   simp only [Zpr, ZvX, br, g1, g2, g3, hy1, hd, Option.bind_some, Int.ofNat_lt, decide_true, if_true, List.map_append, List.map_cons, List.map_nil]
   by_cases hc : (ZaW (ZaX fs f) (Zak fs) (Zat fs) sc d).2 = 0
   ·simp only [hc, hy2 hc, decide_true, Bool.not_true, Bool.false_eq_true, if_false, if_true]
   ·simp only [hc, decide_false, Bool.not_false, if_true, if_false])
  rw [List.map_nil, ZaI, Zmn (ZaW (ZaX fs f) (Zak fs) (Zat fs) sc) (fun c => (([], [], sc, c) : List Msg × List Svc × ByteArray × Int))] at this
  rw [this]
  cases ZlL (ZaW (ZaX fs f) (Zak fs) (Zat fs) sc) m.fields <;> rfl
 have := ZaO (B := Zoq fs f (ZaX fs f)) (N := big) f.messages (fun p => p.map fun m => (mS fs f m).1) (fun _ m => if (mS fs f m).2 = 0 then none else some ([], [], Zaq f.space m.name, (mS fs f m).2)) (fun i c => (c, i)) (fun c => c) (hN := Zaf (by omega)) (he := by simp [Zoq, Zxi, Zvn, ZxA, ZxG, ZwF, Zwp, br, ix, vw, vs]) (hs := by
  intro i m hm
  have g1 := (List.getElem?_eq_some_iff.1 hm).1
  have g2 : i + 1 < 9223372036854775808 := by omega
  have hmm := List.mem_of_getElem? hm
  have g3 : ((f.messages.take i).map fun m => (mS fs f m).1).length < 549755813887 := by rw [List.length_map, List.length_take]; omega
  have g4 := m35 f.space m.name (by omega) (by have := hz.nm1 m hmm; omega)
  simp only [Zoq, Zxi, Zvn, ZxA, ZxG, ZwF, Zwp, br, ix, vw, vs, g1, g2, g3, g4, hm, q2 _ _ m hmm, Option.bind_some, Int.ofNat_lt, decide_true, if_true, List.map_append, List.map_cons, List.map_nil]
  cases he : ZlL (ZaW (ZaX fs f) (Zak fs) (Zat fs) (Zaq f.space m.name)) m.fields with
  | none =>
   have e : mS fs f m = ({ m with name := Zaq f.space m.name, fields := m.fields.map fun d => (ZaW (ZaX fs f) (Zak fs) (Zat fs) (Zaq f.space m.name) d).1 }, 0) := by unfold mS ZzP; rw [he]
   simp only [e, Option.elim, Sum.elim_inl, if_true]
  | some c =>
   have e : mS fs f m = (m, c) := by unfold mS ZzP; rw [he]
   simp only [e, Zi0 he, Option.elim, Sum.elim_inr, if_false])
 rw [List.map_nil, ZaI, Ze3 (mS fs f) (fun m => Zaq f.space m.name) (fun n c => (([], [], n, c) : List Msg × List Svc × ByteArray × Int))] at this
 rw [this]
 unfold Zz4
 cases ZwN (mS fs f) (fun m => Zaq f.space m.name) f.messages <;> rfl
theorem ZMI (fs : List Fil) (h : Base0 fs) (f : Fil) (hf : f ∈ fs) (r11 : List Msg) : Zab (ZpZ fs f (ZaX fs f) r11) big ([], 0) = some ((ZAm fs f).elim (.inl (f.services.map fun v => (vS' fs f v).1)) fun r => .inr ([], [], r.1, r.2)) := by
 have hz := h.a.f f hf
 have hg := h.g f hf
 have hv := ZiJ h hf
 have z1 := hz.sp
 have z2 := hz.vs
 have q2 : ∀ (r12 : List Svc) (v3 : Nat) (v : Svc), v ∈ f.services → Zab (Zov fs f (ZaX fs f) r11 r12 v3 v (Zaq f.space v.name)) big ([], 0) = some ((ZlL (ZdB (ZaX fs f) (Zak fs) f.space) v.methods).elim (.inl (v.methods.map fun d => (ZdB (ZaX fs f) (Zak fs) f.space d).1)) fun c => .inr ([], [], Zaq f.space v.name, c)) := fun r12 v3 v hm => by
  have hl := hg.ml v hm
  generalize Zaq f.space v.name = sc at *
  have := ZaO (B := Zov fs f (ZaX fs f) r11 r12 v3 v sc) (N := big) v.methods (fun p => p.map fun d => (ZdB (ZaX fs f) (Zak fs) f.space d).1) (fun _ d => if (ZdB (ZaX fs f) (Zak fs) f.space d).2 = 0 then none else some ([], [], sc, (ZdB (ZaX fs f) (Zak fs) f.space d).2)) (fun i c => (c, i)) (fun c => c) (hN := Zaf (by omega)) (he := by simp [Zov, Zu3, br]) (hs := by
   intro i d hd
   have g1 := (List.getElem?_eq_some_iff.1 hd).1
   have g2 : i + 1 < 9223372036854775808 := by omega
   have g4 := hg.mi v hm d (List.mem_of_getElem? hd)
   have s1 := m70 fs (ZaX fs f) f.space d.inn h.a (by omega) (by omega) (by omega)
   have s2 := m70 fs (ZaX fs f) f.space d.out h.a (by omega) (by omega) (by omega)
   have g3 : ((v.methods.take i).map fun d => (ZdB (ZaX fs f) (Zak fs) f.space d).1).length < 549755813887 := by rw [List.length_map, List.length_take]; omega
   simp only [Zov, Zu3, br, g1, g2, g3, s1, s2, hd, Option.bind_some, Int.ofNat_lt, decide_true, if_true, List.map_append, List.map_cons, List.map_nil]
   by_cases hc : (Zde (ZaX fs f) (Zak fs) f.space d.inn).2 = 0
   ·by_cases hc2 : (Zde (ZaX fs f) (Zak fs) f.space d.out).2 = 0
    ·have hm : ZdB (ZaX fs f) (Zak fs) f.space d = ({ d with inn := (Zde (ZaX fs f) (Zak fs) f.space d.inn).1, out := (Zde (ZaX fs f) (Zak fs) f.space d.out).1 }, 0) := by unfold ZdB; simp [hc, hc2]
     simp only [hc, hc2, hm, decide_true, Bool.not_true, Bool.false_eq_true, if_false, if_true]
    ·have hm : ZdB (ZaX fs f) (Zak fs) f.space d = (d, (Zde (ZaX fs f) (Zak fs) f.space d.out).2) := by unfold ZdB; simp [hc, hc2]
     simp only [hc, hc2, hm, decide_true, decide_false, Bool.not_true, Bool.not_false, Bool.false_eq_true, if_false, if_true]
   ·have hm : ZdB (ZaX fs f) (Zak fs) f.space d = (d, (Zde (ZaX fs f) (Zak fs) f.space d.inn).2) := by unfold ZdB; simp [hc]
    simp only [hc, hm, decide_false, Bool.not_false, if_true, if_false])
  rw [List.map_nil, ZaI, Zmn (ZdB (ZaX fs f) (Zak fs) f.space) (fun c => (([], [], sc, c) : List Msg × List Svc × ByteArray × Int))] at this
  rw [this]
  cases ZlL (ZdB (ZaX fs f) (Zak fs) f.space) v.methods <;> rfl
 have := ZaO (B := ZpZ fs f (ZaX fs f) r11) (N := big) f.services (fun p => p.map fun v => (vS' fs f v).1) (fun _ v => if (vS' fs f v).2 = 0 then none else some ([], [], Zaq f.space v.name, (vS' fs f v).2)) (fun i c => (c, i)) (fun c => c) (hN := Zaf (by omega)) (he := by simp [ZpZ, Zxw, Zny, Zoa, Znn, ZmT, Zm0, br, ix, vw, vs]) (hs := by
  intro i v hm
  have g1 := (List.getElem?_eq_some_iff.1 hm).1
  have g2 : i + 1 < 9223372036854775808 := by omega
  have hmm := List.mem_of_getElem? hm
  have g3 : ((f.services.take i).map fun v => (vS' fs f v).1).length < 549755813887 := by rw [List.length_map, List.length_take]; omega
  have g4 := m35 f.space v.name (by omega) (by have := hz.nm3 v hmm; omega)
  simp only [ZpZ, Zxw, Zny, Zoa, Znn, ZmT, Zm0, br, ix, vw, vs, g1, g2, g3, g4, hm, q2 _ _ v hmm, Option.bind_some, Int.ofNat_lt, decide_true, if_true, List.map_append, List.map_cons, List.map_nil]
  cases he : ZlL (ZdB (ZaX fs f) (Zak fs) f.space) v.methods with
  | none =>
   have e : vS' fs f v = ({ v with name := Zaq f.space v.name, methods := v.methods.map fun d => (ZdB (ZaX fs f) (Zak fs) f.space d).1 }, 0) := by unfold vS' Zz1; rw [he]
   simp only [e, Option.elim, Sum.elim_inl, if_true]
  | some c =>
   have e : vS' fs f v = (v, c) := by unfold vS' Zz1; rw [he]
   simp only [e, Zi0 he, Option.elim, Sum.elim_inr, if_false])
 rw [List.map_nil, ZaI, Ze3 (vS' fs f) (fun v => Zaq f.space v.name) (fun n c => (([], [], n, c) : List Msg × List Svc × ByteArray × Int))] at this
 rw [this]
 unfold ZAm
 cases ZwN (vS' fs f) (fun v => Zaq f.space v.name) f.services <;> rfl
def ZhG (fs : List Fil) (f : Fil) : Option (ByteArray × Int) := (Zz4 fs f).or (ZAm fs f)
theorem m34 (fs : List Fil) (h : Base0 fs) (f : Fil) (hf : f ∈ fs) : ZbO fs f = some ((ZhG fs f).elim (f.messages.map fun m => (mS fs f m).1, f.services.map fun v => (vS' fs f v).1, ⟨#[]⟩, 0) fun r => ([], [], r.1, r.2)) := by
 unfold ZbO ZhG
 simp only [Zqe, ZqG, ZrH, Ztl, Zti, Zqo, Zq6, vz, vw, m68 fs f h.a hf (h.i f hf), Option.bind_some, ZLd fs h f hf]
 cases Zz4 fs f with
 | some r => rfl
 | none =>
  simp only [Option.elim, Option.bind_some, Sum.elim_inl, ZMI fs h f hf, Option.or]
  cases ZAm fs f with
  | some r => rfl
  | none => rfl
end Go.Proofs.Ythagpbkmakocjaa
namespace Go.Proofs.Ythagpbkmakocjaa
set_option linter.all false
open Go Go.Eng
theorem Zs0 {fs : List Fil} {f : Fil} {r : ByteArray × Int} (h : ZhG fs f = some r) : r.2 ≠ 0 := by
 unfold ZhG at h
 cases h1 : Zz4 fs f with
 | some r1 => rw [h1] at h; cases h; exact Ztq h1
 | none => rw [h1] at h; exact Ztq (show ZAm fs f = some r from h)
def Zdz (fs : List Fil) (f : Fil) : List Msg := f.messages.map fun m => (mS fs f m).1
def Zdf (fs : List Fil) (f : Fil) : List Svc := f.services.map fun v => (vS' fs f v).1
def ZhU (f : Fil) : List Enm := f.enums.map fun e => { e with name := Zaq f.space e.name }
theorem ZjC (l : List Fil) (x : Fil) : Zak (l ++ [x]) = Zak l ++ ZdJ x := by simp [Zak]
theorem ZfN (l : List Fil) (x : Fil) : Zat (l ++ [x]) = Zat l ++ ZhU x := by simp [Zat, ZhU]
theorem ZkA {α : Type} (g : Fil → List α) (l : List Fil) (x : Fil) : (l ++ [x]).flatMap g = l.flatMap g ++ g x := by simp
theorem Zjt {α : Type} (g : Fil → List α) (n : Fil → Nat) (hg : ∀ f, (g f).length = n f) (l : List Fil) : (l.flatMap g).length = (l.map n).sum := by
 rw [ZeQ]; congr 1; congr 1; funext f; exact hg f
theorem ZdS {fs : List Fil} (h : SzA fs) {α : Type} (g : Fil → List α) (n : Fil → Nat) (hg : ∀ f, (g f).length = n f) (hn : ∀ f, n f ≤ tot f) {i : Nat} {f : Fil} (hf : fs[i]? = some f) : ((fs.take i).flatMap g).length + n f ≤ 1048576 := by
 have h1 := ZcG tot hf
 have h2 := h.t
 have h3 : ((fs.take i).flatMap g).length ≤ ((fs.take i).map tot).sum := by
  rw [Zjt g n hg]
  generalize fs.take i = l
  induction l with
  | nil => exact Nat.le_refl _
  | cons x l ih => simp only [List.map_cons, List.sum_cons]; have := hn x; omega
 have := hn f
 omega
theorem ZL6 (f : Fil) : f.messages.length ≤ tot f := by unfold tot; omega
theorem ZM7 (f : Fil) : f.enums.length ≤ tot f := by unfold tot; omega
theorem ZNB (f : Fil) : f.services.length ≤ tot f := by unfold tot; omega
theorem m26 (l : List Enm) (h : l.length < 549755813888) : Zdn l = some l := by
 unfold Zdn
 simp only [ZDV, al, Bool.false_eq_true, if_false, h, if_true]
theorem ZOQ (fs : List Fil) (h : SzA fs) : Zab (ZGT fs) big (0, [], []) = some (.inl (Zak fs, Zat fs)) := by
 have hn := h.n
 have q2 : ∀ (v : Nat) (r4 : List ByteArray) (f : Fil) (y : List ByteArray × List ByteArray × List ByteArray) (b : List Enm), SzF f → b.length + f.enums.length ≤ 1048576 → Zab (ZGD fs v r4 f y) big (0, b) = some (.inl (b ++ ZhU f)) := fun v r4 f y b hf hb => by
  have z := hf.sp
  have := Zbb (B := ZGD fs v r4 f y) (N := big) f.enums (fun p => b ++ p.map fun e => ({ e with name := Zaq f.space e.name } : Enm)) (fun i c => (i, c)) id (hN := Zaf (by omega)) (he := by simp [ZGD, ZK7, ZK5, ZK9, ZKV, br, ix, vw, vs]) (hs := by
   intro i e he
   have g1 := (List.getElem?_eq_some_iff.1 he).1
   have g2 : i + 1 < 9223372036854775808 := by omega
   have g3 : (b ++ (f.enums.take i).map fun e => ({ e with name := Zaq f.space e.name } : Enm)).length < 549755813887 := by rw [List.length_append, List.length_map, List.length_take]; omega
   have g4 := m25 f.space e.name (by omega) (by have := hf.nm2 e (List.mem_of_getElem? he); omega)
   simp only [ZGD, ZK7, ZK5, ZK9, ZKV, br, ix, vw, vs, g1, g2, g3, g4, he, Option.bind_some, Int.ofNat_lt, decide_true, if_true, List.map_append, List.map_cons, List.map_nil, List.append_assoc])
  rw [List.map_nil, List.append_nil] at this
  exact this
 exact Zbb (B := ZGT fs) (N := big) fs (fun p => (Zak p, Zat p)) (fun i c => (i, c.1, c.2)) id (hN := Zaf (by omega)) (he := by simp [ZGT, ZKS, ZKH, ZKK, br, ix, vs]) (hs := by
  intro i f hf
  have g1 := (List.getElem?_eq_some_iff.1 hf).1
  have g2 : i + 1 < 9223372036854775808 := by omega
  have hz := h.f f (List.mem_of_getElem? hf)
  have g3 := ZdS h ZdJ (fun f => f.messages.length) Zc0 ZL6 hf
  have g4 := ZdS h ZhU (fun f => f.enums.length) (fun f => by simp [ZhU]) ZM7 hf
  have g5 : (Zak (fs.take i)).length + (ZdJ f).length < 549755813888 := by rw [Zc0]; exact Nat.lt_of_le_of_lt g3 (by decide)
  have g6 := q2 i (Zak (fs.take i)) f (ZdJ f, Zfj f, Znr f) (Zat (fs.take i)) hz g4
  simp only [ZGT, ZKS, ZKH, ZKK, br, ix, vs, g1, g2, g5, g6, m24 f hz, hf, Option.bind_some, Int.ofNat_lt, decide_true, if_true, Sum.elim_inl, ZjC, ZfN])
theorem ZO7 (fs : List Fil) (h : Base0 fs) (f : Fil) (hf : f ∈ fs) (y15 : List Enm) (v : Nat) (r18 : List Svc) (b : List Msg) (hb : b.length + f.messages.length ≤ 1048576) (hM : (Zak fs).length < 4611686018427387904) (hE : (Zat fs).length < 4611686018427387904) :
  Zab (ZGQ fs (Zat fs) y15 v r18 (Zak fs) f (ZaX fs f)) big (0, b) = some ((Zz4 fs f).elim (.inl (b ++ Zdz fs f)) fun r => .inr (⟨[], [], []⟩, r.1, r.2)) := by
 have hz := h.a.f f hf
 have hg := h.g f hf
 have hv := ZiJ h hf
 have z1 := hz.sp
 have hE2 : ∀ e ∈ Zat fs, e.items.length < 4611686018427387904 := fun e he => by
  obtain ⟨f', hf', he⟩ := List.mem_flatMap.1 he
  obtain ⟨e', he', rfl⟩ := List.mem_map.1 he
  have := (h.g f' hf').ei e' he'
  exact Nat.lt_of_lt_of_le this (by decide)
 have := ZaO (B := ZGQ fs (Zat fs) y15 v r18 (Zak fs) f (ZaX fs f)) (N := big) f.messages (fun p => b ++ p.map fun m => (mS fs f m).1) (fun _ m => if (mS fs f m).2 = 0 then none else some (⟨[], [], []⟩, Zaq f.space m.name, (mS fs f m).2)) (fun i c => (i, c)) (fun c => c) (hN := Zaf (by omega)) (he := by simp [ZGQ, ZKE, ZK3, Zvm, ZxT, ZuS, Zuu, Zw3, Zw9, br, ix, vz, vw, vs, lrt, lf]) (hs := by
  intro i m hm
  have g1 := (List.getElem?_eq_some_iff.1 hm).1
  have g2 : i + 1 < 9223372036854775808 := by omega
  have hmm := List.mem_of_getElem? hm
  have g3 : (b ++ (f.messages.take i).map fun m => (mS fs f m).1).length < 549755813887 := by rw [List.length_append, List.length_map, List.length_take]; omega
  obtain ⟨y, y1, y2, y3⟩ := m28 ⟨fs, f, ZaX fs f, Zak fs, Zat fs⟩ m z1 (hz.nm1 m hmm) (hg.fl m hmm) (hg.ft m hmm) (by show (ZaX fs f).length < _; omega) hM hE hE2 h.u
  change Za9 _ m = some (y, (mS fs f m).2) at y1
  change y.name = Zaq f.space m.name at y2
  change (mS fs f m).2 = 0 → y = (mS fs f m).1 at y3
  simp only [ZGQ, ZKE, ZK3, Zvm, ZxT, ZuS, Zuu, Zw3, Zw9, br, ix, vz, vw, vs, lrt, lf, g1, g2, g3, y1, hm, Option.bind_some, Int.ofNat_lt, decide_true, if_true, List.map_append, List.map_cons, List.map_nil]
  by_cases hc : (mS fs f m).2 = 0
  ·simp only [hc, y3 hc, decide_true, Bool.not_true, Bool.false_eq_true, if_false, if_true, List.append_assoc]
  ·simp only [hc, y2, decide_false, Bool.not_false, if_true, if_false])
 rw [List.map_nil, List.append_nil, ZaI, Ze3 (mS fs f) (fun m => Zaq f.space m.name) (fun n c => ((⟨[], [], []⟩, n, c) : Scm × ByteArray × Int))] at this
 rw [this]
 unfold Zz4 Zdz
 cases ZwN (mS fs f) (fun m => Zaq f.space m.name) f.messages <;> rfl
theorem ZPf (fs : List Fil) (h : Base0 fs) (f : Fil) (hf : f ∈ fs) (y15 : List Enm) (v : Nat) (r33 : List Msg) (b : List Svc) (hb : b.length + f.services.length ≤ 1048576) (hM : (Zak fs).length < 4611686018427387904) :
  Zab (ZGW fs (Zat fs) y15 v (Zak fs) f (ZaX fs f) r33) big (0, b) = some ((ZAm fs f).elim (.inl (b ++ Zdf fs f)) fun r => .inr (⟨[], [], []⟩, r.1, r.2)) := by
 have hz := h.a.f f hf
 have hg := h.g f hf
 have hv := ZiJ h hf
 have z1 := hz.sp
 have := ZaO (B := ZGW fs (Zat fs) y15 v (Zak fs) f (ZaX fs f) r33) (N := big) f.services (fun p => b ++ p.map fun m => (vS' fs f m).1) (fun _ m => if (vS' fs f m).2 = 0 then none else some (⟨[], [], []⟩, Zaq f.space m.name, (vS' fs f m).2)) (fun i c => (i, c)) (fun c => c) (hN := Zaf (by omega)) (he := by simp [ZGW, Zyb, Zyz, ZyI, Zyj, Zvi, Zvo, Zye, Zwj, br, ix, vz, vw, vs, lrt, lf]) (hs := by
  intro i m hm
  have g1 := (List.getElem?_eq_some_iff.1 hm).1
  have g2 : i + 1 < 9223372036854775808 := by omega
  have hmm := List.mem_of_getElem? hm
  have g3 : (b ++ (f.services.take i).map fun m => (vS' fs f m).1).length < 549755813887 := by rw [List.length_append, List.length_map, List.length_take]; omega
  obtain ⟨y, y1, y2, y3⟩ := m29 ⟨fs, f, ZaX fs f, Zak fs, Zat fs⟩ m z1 (hz.nm3 m hmm) (hg.ml m hmm) (hg.mi m hmm) (by show (ZaX fs f).length < _; omega) hM
  change Zba _ m = some (y, (vS' fs f m).2) at y1
  change y.name = Zaq f.space m.name at y2
  change (vS' fs f m).2 = 0 → y = (vS' fs f m).1 at y3
  simp only [ZGW, Zyb, Zyz, ZyI, Zyj, Zvi, Zvo, Zye, Zwj, br, ix, vz, vw, vs, lrt, lf, g1, g2, g3, y1, hm, Option.bind_some, Int.ofNat_lt, decide_true, if_true, List.map_append, List.map_cons, List.map_nil]
  by_cases hc : (vS' fs f m).2 = 0
  ·simp only [hc, y3 hc, decide_true, Bool.not_true, Bool.false_eq_true, if_false, if_true, List.append_assoc]
  ·simp only [hc, y2, decide_false, Bool.not_false, if_true, if_false])
 rw [List.map_nil, List.append_nil, ZaI, Ze3 (vS' fs f) (fun m => Zaq f.space m.name) (fun n c => ((⟨[], [], []⟩, n, c) : Scm × ByteArray × Int))] at this
 rw [this]
 unfold ZAm Zdf
 cases ZwN (vS' fs f) (fun m => Zaq f.space m.name) f.services <;> rfl
def ZFT (fs p : List Fil) : ByteArray × ByteArray × List ByteArray × List Msg × List Enm × List Svc × List ByteArray := match p.getLast? with
 | none => (⟨#[]⟩, ⟨#[]⟩, [], [], [], [], [])
 | some f => (f.name, f.space, f.imports, f.messages, f.enums, f.services, ZaX fs f)
theorem Zof (fs p : List Fil) (f : Fil) : ZFT fs (p ++ [f]) = (f.name, f.space, f.imports, f.messages, f.enums, f.services, ZaX fs f) := by unfold ZFT; rw [List.getLast?_concat]
theorem ZOA (fs : List Fil) (h : Base0 fs) (y15 : List Enm) (hM : (Zak fs).length < 4611686018427387904) (hE : (Zat fs).length < 4611686018427387904) :
  Zab (ZGC fs (Zat fs) y15) big (0, [], [], ⟨#[]⟩, ⟨#[]⟩, [], [], [], [], [], Zak fs) = some ((fs.findSome? (ZhG fs)).elim (.inl (fs.flatMap (Zdz fs), fs.flatMap (Zdf fs))) fun r => .inr (⟨[], [], []⟩, r.1, r.2)) := by
 have hn := h.a.n
 have := ZaO (B := ZGC fs (Zat fs) y15) (N := big) fs (fun p => (p.flatMap (Zdz fs), p.flatMap (Zdf fs), ZFT fs p)) (fun _ f => (ZhG fs f).map fun r => ((⟨[], [], []⟩, r.1, r.2) : Scm × ByteArray × Int)) (fun i c => (i, c.1, c.2.1, c.2.2.1, c.2.2.2.1, c.2.2.2.2.1, c.2.2.2.2.2.1, c.2.2.2.2.2.2.1, c.2.2.2.2.2.2.2.1, c.2.2.2.2.2.2.2.2, Zak fs)) (fun c => (c.1, c.2.1)) (hN := Zaf (by omega)) (he := by simp [ZGC, Zu6, Zu7, ZxE, ZwP, Zya, br, ix, vw, vs]) (hs := by
  intro i f hf
  have g1 := (List.getElem?_eq_some_iff.1 hf).1
  have g2 : i + 1 < 9223372036854775808 := by omega
  have hm := List.mem_of_getElem? hf
  have g3 := ZdS h.a (Zdz fs) (fun f => f.messages.length) (fun f => by simp [Zdz]) ZL6 hf
  have g4 := ZdS h.a (Zdf fs) (fun f => f.services.length) (fun f => by simp [Zdf]) ZNB hf
  have g5 := ZO7 fs h f hm y15 i ((fs.take i).flatMap (Zdf fs)) _ g3 hM hE
  have g6 := fun r33 => ZPf fs h f hm y15 i r33 _ g4 hM
  simp only [ZGC, Zu6, Zu7, ZxE, ZwP, Zya, br, ix, vw, vs, g1, g2, g5, m27 fs f h.a hm (h.i f hm), hf, Option.bind_some, Int.ofNat_lt, decide_true, if_true, ZhG]
  cases Zz4 fs f with
  | some r => rfl
  | none =>
   simp only [Option.elim, Option.bind_some, Sum.elim_inl, Option.or, g6]
   cases ZAm fs f with
   | some r => rfl
   | none => simp only [Sum.elim_inl, Option.map_none, ZkA, Zof])
 rw [ZaI] at this
 refine this.trans ?_
 congr 1
 clear this
 have : ∀ l : List Fil, (l.findSome? fun f => (ZhG fs f).map fun r => ((⟨[], [], []⟩, r.1, r.2) : Scm × ByteArray × Int)) = (l.findSome? (ZhG fs)).map fun r => (⟨[], [], []⟩, r.1, r.2) := fun l => by
  induction l with
  | nil => rfl
  | cons f l ih =>
   rw [List.findSome?_cons, List.findSome?_cons]
   cases ZhG fs f with
   | some r => rfl
   | none => exact ih
 rw [this]
 cases fs.findSome? (ZhG fs) <;> rfl
theorem ZMG (fs : List Fil) (h : Base0 fs) : Zab (Zo9 fs) big (0, [], [], []) = some ((fs.findSome? (ZhG fs)).elim (.inl (fs.flatMap (Zdz fs), Zat fs, fs.flatMap (Zdf fs))) fun r => .inr (⟨[], [], []⟩, r.1, r.2)) := by
 have hn := h.a.n
 have q2 : ∀ (v : Nat) (r5 : List Msg) (r7 : List Svc) (f : Fil) (y : List Msg × List Svc × ByteArray × Int) (b : List Enm), SzF f → b.length + f.enums.length ≤ 1048576 → Zab (Zox fs v r5 r7 f y) big (0, b) = some (.inl (b ++ ZhU f)) := fun v r5 r7 f y b hf hb => by
  have z := hf.sp
  have := Zbb (B := Zox fs v r5 r7 f y) (N := big) f.enums (fun p => b ++ p.map fun e => ({ e with name := Zaq f.space e.name } : Enm)) (fun i c => (i, c)) id (hN := Zaf (by omega)) (he := by simp [Zox, Zv8, br]) (hs := by
   intro i e he
   have g1 := (List.getElem?_eq_some_iff.1 he).1
   have g2 : i + 1 < 9223372036854775808 := by omega
   have g3 : (b ++ (f.enums.take i).map fun e => ({ e with name := Zaq f.space e.name } : Enm)).length < 549755813887 := by rw [List.length_append, List.length_map, List.length_take]; omega
   have g4 := m35 f.space e.name (by omega) (by have := hf.nm2 e (List.mem_of_getElem? he); omega)
   simp only [Zox, Zv8, br, g1, g2, g3, g4, he, Option.bind_some, Int.ofNat_lt, decide_true, if_true, List.map_append, List.map_cons, List.map_nil, List.append_assoc])
  rw [List.map_nil, List.append_nil] at this
  exact this
 have := ZaO (B := Zo9 fs) (N := big) fs (fun p => (p.flatMap (Zdz fs), Zat p, p.flatMap (Zdf fs))) (fun _ f => (ZhG fs f).map fun r => ((⟨[], [], []⟩, r.1, r.2) : Scm × ByteArray × Int)) (fun i c => (i, c.1, c.2.1, c.2.2)) (fun c => c) (hN := Zaf (by omega)) (he := by simp [Zo9, Zu4, ZwD, ZyD, br, ix, vs]) (hs := by
  intro i f hf
  have g1 := (List.getElem?_eq_some_iff.1 hf).1
  have g2 : i + 1 < 9223372036854775808 := by omega
  have hm := List.mem_of_getElem? hf
  have g3 := ZdS h.a (Zdz fs) (fun f => f.messages.length) (fun f => by simp [Zdz]) ZL6 hf
  have g4 := ZdS h.a (Zdf fs) (fun f => f.services.length) (fun f => by simp [Zdf]) ZNB hf
  have g5 := ZdS h.a ZhU (fun f => f.enums.length) (fun f => by simp [ZhU]) ZM7 hf
  have g6 : ((fs.take i).flatMap (Zdz fs)).length + (Zdz fs f).length < 549755813888 := Nat.lt_of_le_of_lt (by rw [show (Zdz fs f).length = f.messages.length from by simp [Zdz]]; exact g3) (by decide)
  have g7 : ((fs.take i).flatMap (Zdf fs)).length + (Zdf fs f).length < 549755813888 := Nat.lt_of_le_of_lt (by rw [show (Zdf fs f).length = f.services.length from by simp [Zdf]]; exact g4) (by decide)
  have g8 := fun r5 r7 y => q2 i r5 r7 f y (Zat (fs.take i)) (h.a.f f hm) g5
  have e1 : f.messages.map (fun m => (mS fs f m).1) = Zdz fs f := rfl
  have e2 : f.services.map (fun v => (vS' fs f v).1) = Zdf fs f := rfl
  simp only [Zo9, Zu4, ZwD, ZyD, br, ix, vs, g1, g2, m34 fs h f hm, hf, Option.bind_some, Int.ofNat_lt, decide_true, if_true, e1, e2]
  cases he : ZhG fs f with
  | some r =>
   have hne := Zs0 he
   simp only [Option.elim, hne, decide_false, Bool.not_false, if_true, Option.map_some]
  | none =>
   simp only [Option.elim, decide_true, Bool.not_true, Bool.false_eq_true, if_false, g6, g7, g8, if_true, Option.bind_some, Sum.elim_inl, Option.map_none, ZkA, ZfN])
 rw [ZaI] at this
 refine this.trans ?_
 congr 1
 clear this
 have : ∀ l : List Fil, (l.findSome? fun f => (ZhG fs f).map fun r => ((⟨[], [], []⟩, r.1, r.2) : Scm × ByteArray × Int)) = (l.findSome? (ZhG fs)).map fun r => (⟨[], [], []⟩, r.1, r.2) := fun l => by
  induction l with
  | nil => rfl
  | cons f l ih =>
   rw [List.findSome?_cons, List.findSome?_cons]
   cases ZhG fs f with
   | some r => rfl
   | none => exact ih
 rw [this]
 cases fs.findSome? (ZhG fs) <;> rfl
end Go.Proofs.Ythagpbkmakocjaa
namespace Go.Proofs.Ythagpbkmakocjaa
set_option linter.all false
open Go Go.Eng
theorem Zc2 {ξ ρ : Type} {B : Nat → Option (Lv Nat ξ ρ)} {N n : Nat} (e : ξ) (hs : ∀ i, i < n → B i = some (.nx (i + 1))) (he : B n = some (.ex e)) (hN : n < N) : Zab B N 0 = some (.inl e) := by
 have := Zbb (B := B) (N := N) (List.range n) (fun _ => ()) (fun i _ => i) (fun _ => e) (hs := fun i x hx => hs i (by have := (List.getElem?_eq_some_iff.1 hx).1; rwa [List.length_range] at this)) (he := by rw [List.length_range]; exact he) (hN := by rw [List.length_range]; exact hN)
 exact this
theorem r71 (l : List Spn) (h : l.length < 4611686018427387904) : Zbv l l = some true := by
 have q : Zab (Zru l l) big 0 = some (.inl ()) := Zc2 () (hN := Zaf h) (he := by simp [Zru, ZvO, vz]) (hs := fun i hi => by
  have g2 : i + 1 < 9223372036854775808 := by omega
  simp [Zru, ZvO, vz, hi, g2])
 unfold Zbv
 simp only [ZE4, ZAV, ZCA, vz, lr, lc, lf, q, decide_true, Bool.not_true, Bool.false_eq_true, if_false, Option.bind_some, Sum.elim_inl]
theorem r72 (l : List Nt) (h : l.length < 4611686018427387904) : Zb6 l l = some true := by
 have q : Zab (ZrW l l) big 0 = some (.inl ()) := Zc2 () (hN := Zaf h) (he := by simp [ZrW, Zxv, vz]) (hs := fun i hi => by
  have g2 : i + 1 < 9223372036854775808 := by omega
  simp [ZrW, Zxv, vz, hi, g2])
 unfold Zb6
 simp only [ZEc, ZBA, ZDw, vz, lr, lc, lf, q, decide_true, Bool.not_true, Bool.false_eq_true, if_false, Option.bind_some, Sum.elim_inl]
theorem r73 (d : Fld) (h : d.notes.length < 4611686018427387904) : Zbs d d = some true := by
 unfold Zbs
 simp [ZFM, vw, r72 d.notes h]
structure OkM (m : Msg) : Prop where
 f : m.fields.length < 4611686018427387904
 r : m.reserved.length < 4611686018427387904
 g : m.gone.length < 4611686018427387904
 n : m.notes.length < 4611686018427387904
 d : ∀ d ∈ m.fields, d.notes.length < 4611686018427387904
structure OkE (e : Enm) : Prop where
 i : e.items.length < 4611686018427387904
 r : e.reserved.length < 4611686018427387904
 n : e.notes.length < 4611686018427387904
 d : ∀ d ∈ e.items, d.notes.length < 4611686018427387904
structure OkV (v : Svc) : Prop where
 m : v.methods.length < 4611686018427387904
 n : v.notes.length < 4611686018427387904
 d : ∀ d ∈ v.methods, d.notes.length < 4611686018427387904
theorem r37 (l : List Msg) (h : l.length < 4611686018427387904) (ho : ∀ m ∈ l, OkM m) : Zbd l l = some true := by
 have q2 : ∀ (v : Nat) (m : Msg), OkM m → Zab (Zs7 l l v m m) big 0 = some (.inl ()) := fun v m hm => Zc2 () (hN := Zaf hm.f) (he := by simp [Zs7, Zu5, vw]) (hs := fun i hi => by
  have g0 := hm.f
  have g2 : i + 1 < 9223372036854775808 := by omega
  have g3 := r73 m.fields[i] (hm.d _ (List.getElem_mem hi))
  simp [Zs7, Zu5, vw, hi, g2, g3])
 have q3 : ∀ (v : Nat) (m : Msg), OkM m → Zab (Zq9 l l v m m) big 0 = some (.inl ()) := fun v m hm => Zc2 () (hN := Zaf hm.g) (he := by simp [Zq9, Zvg, vw]) (hs := fun i hi => by
  have g0 := hm.g
  have g2 : i + 1 < 9223372036854775808 := by omega
  simp [Zq9, Zvg, vw, hi, g2])
 have q1 : Zab (Zrg l l) big 0 = some (.inl ()) := Zc2 () (hN := Zaf h) (he := by simp [Zrg, Zv2, ZyK, Zws, ZvQ, ZyC, ix, vz, vs, lc]) (hs := fun i hi => by
  have hm := ho l[i] (List.getElem_mem hi)
  have g2 : i + 1 < 9223372036854775808 := by omega
  have g3 := r71 _ hm.r
  have g4 := r72 _ hm.n
  simp [Zrg, Zv2, ZyK, Zws, ZvQ, ZyC, ix, vz, vs, lc, hi, g2, g3, g4, q2 _ _ hm, q3 _ _ hm])
 unfold Zbd
 simp only [ZDO, ZC6, ZsD, vz, lr, lc, lf, q1, decide_true, Bool.not_true, Bool.false_eq_true, if_false, Option.bind_some, Sum.elim_inl]
theorem r38 (l : List Enm) (h : l.length < 4611686018427387904) (ho : ∀ m ∈ l, OkE m) : Zbt l l = some true := by
 have q2 : ∀ (v : Nat) (m : Enm), OkE m → Zab (Zr7 l l v m m) big 0 = some (.inl ()) := fun v m hm => Zc2 () (hN := Zaf hm.i) (he := by simp [Zr7, ZwE, vw]) (hs := fun i hi => by
  have g0 := hm.i
  have g2 : i + 1 < 9223372036854775808 := by omega
  have g3 := r72 m.items[i].notes (hm.d _ (List.getElem_mem hi))
  simp [Zr7, ZwE, vw, hi, g2, g3])
 have q1 : Zab (Zta l l) big 0 = some (.inl ()) := Zc2 () (hN := Zaf h) (he := by simp [Zta, Zu8, ZxN, Zvy, ix, vz, vs]) (hs := fun i hi => by
  have hm := ho l[i] (List.getElem_mem hi)
  have g2 : i + 1 < 9223372036854775808 := by omega
  have g3 := r71 _ hm.r
  have g4 := r72 _ hm.n
  simp [Zta, Zu8, ZxN, Zvy, ix, vz, vs, hi, g2, g3, g4, q2 _ _ hm])
 unfold Zbt
 simp only [ZDi, ZGm, ZBD, vz, lr, lc, lf, q1, decide_true, Bool.not_true, Bool.false_eq_true, if_false, Option.bind_some, Sum.elim_inl]
theorem r39 (l : List Svc) (h : l.length < 4611686018427387904) (ho : ∀ m ∈ l, OkV m) : Za7 l l = some true := by
 have q2 : ∀ (v : Nat) (m : Svc), OkV m → Zab (ZqT l l v m m) big 0 = some (.inl ()) := fun v m hm => Zc2 () (hN := Zaf hm.m) (he := by simp [ZqT, Zuw, vw]) (hs := fun i hi => by
  have g0 := hm.m
  have g2 : i + 1 < 9223372036854775808 := by omega
  have g3 := r72 m.methods[i].notes (hm.d _ (List.getElem_mem hi))
  simp [ZqT, Zuw, vw, hi, g2, g3])
 have q1 : Zab (Zqy l l) big 0 = some (.inl ()) := Zc2 () (hN := Zaf h) (he := by simp [Zqy, ZxH, ZyM, Zy2, ix, vz, vs]) (hs := fun i hi => by
  have hm := ho l[i] (List.getElem_mem hi)
  have g2 : i + 1 < 9223372036854775808 := by omega
  have g4 := r72 _ hm.n
  simp [Zqy, ZxH, ZyM, Zy2, ix, vz, vs, hi, g2, g4, q2 _ _ hm])
 unfold Za7
 simp only [ZFQ, ZFd, ZBV, vz, lr, lc, lf, q1, decide_true, Bool.not_true, Bool.false_eq_true, if_false, Option.bind_some, Sum.elim_inl]
structure OkS (s : Scm) : Prop where
 m : s.messages.length < 4611686018427387904
 e : s.enums.length < 4611686018427387904
 v : s.services.length < 4611686018427387904
 om : ∀ m ∈ s.messages, OkM m
 oe : ∀ m ∈ s.enums, OkE m
 ov : ∀ m ∈ s.services, OkV m
theorem r11 (s : Scm) (h : OkS s) : Zb7 s s = some true := by
 unfold Zb7
 simp [ZBj, vw, r37 _ h.m h.om, r38 _ h.e h.oe, r39 _ h.v h.ov]
theorem Zn1 {ρ : Type} {n : ByteArray → ρ} : ∀ {l p : List ByteArray}, Zaw (ZhF n) p l = none → l.Nodup ∧ ∀ x ∈ l, x ∉ p
 | [], p, _ => ⟨List.nodup_nil, fun x h => by cases h⟩
 | x :: l, p, h => by
  rw [Zaw] at h
  have hx : ZhF n p x = none := by cases hd : ZhF n p x with | none => rfl | some r => rw [hd] at h; cases h
  rw [hx] at h
  obtain ⟨h1, h2⟩ := Zn1 h
  have hxp : x ∉ p := fun hm => by
   unfold ZhF at hx
   rw [if_pos (List.any_eq_true.2 ⟨x, hm, by simp⟩)] at hx
   cases hx
  refine ⟨List.nodup_cons.2 ⟨fun hm => h2 x hm (by simp), h1⟩, fun y hy => ?_⟩
  rcases List.mem_cons.1 hy with rfl | hy
  ·exact hxp
  ·exact fun hm => h2 y hy (by simp [hm])
theorem Zn2 {l : List ByteArray} {x : ByteArray} : ZdR l x = true ↔ x ∈ l := by
 unfold ZdR
 rw [List.any_eq_true]
 exact ⟨fun ⟨y, hy, h⟩ => by simpa [of_decide_eq_true h] using hy, fun h => ⟨x, h, by simp⟩⟩
theorem ZmS {f : Fil} {x : ByteArray} {e : Enm} (h : f.enums.find? (fun y => decide (Zaq f.space y.name = x)) = some e) : x ∈ Zfj f := by
 have h1 := List.mem_of_find?_eq_some h
 have h2 := List.find?_some h
 unfold Zfj
 exact List.mem_map.2 ⟨e, h1, by simpa using h2⟩
theorem Zs6 {fs : List Fil} {x : ByteArray} {e : Enm} (h : ZeU fs x = some e) : x ∈ Zas fs := by
 unfold ZeU at h
 obtain ⟨f, hf, h⟩ := List.exists_of_findSome?_eq_some h
 exact List.mem_flatMap.2 ⟨f, hf, by unfold ZaC; simp [ZmS h]⟩
theorem Zy8 : ∀ {fs : List Fil}, (Zas fs).Nodup → ∀ x, ZdR (Zak fs) x = true → ZeU fs x = none
 | [], _, x, h => rfl
 | f :: fs, hn, x, h => by
  rw [show Zas (f :: fs) = ZaC f ++ Zas fs from by simp [Zas], List.nodup_append] at hn
  obtain ⟨n1, n2, n3⟩ := hn
  rw [Zn2, show Zak (f :: fs) = ZdJ f ++ Zak fs from by simp [Zak], List.mem_append] at h
  show List.findSome? _ (f :: fs) = none
  rw [List.findSome?_cons]
  have hsub : ∀ y, y ∈ Zak fs → y ∈ Zas fs := fun y hy => by
   obtain ⟨g, hg, hy⟩ := List.mem_flatMap.1 hy
   exact List.mem_flatMap.2 ⟨g, hg, by unfold ZaC; simp [hy]⟩
  cases he : f.enums.find? (fun y => decide (Zaq f.space y.name = x)) with
  | some e =>
   exfalso
   have h2 := ZmS he
   rcases h with h | h
   ·unfold ZaC at n1
    rw [List.append_assoc, List.nodup_append] at n1
    exact n1.2.2 x h x (by simp [h2]) rfl
   ·exact n3 x (by unfold ZaC; simp [h2]) x (hsub x h) rfl
  | none =>
   show ZeU fs x = none
   rcases h with h | h
   ·cases hr : ZeU fs x with
    | none => rfl
    | some e => exact absurd rfl (n3 x (by unfold ZaC; simp [h]) x (Zs6 hr))
   ·exact Zy8 n2 x (Zn2.2 h)
theorem ZKv {fs : List Fil} (hn : (Zas fs).Nodup) : (Zat fs).Pairwise fun a b => a.name ≠ b.name := by
 have h1 : (Zat fs).map (fun e => e.name) = fs.flatMap Zfj := by
  unfold Zat
  clear hn
  induction fs with
  | nil => rfl
  | cons f l ih => rw [List.flatMap_cons, List.flatMap_cons, List.map_append, ih]; simp [Zfj]
 have h2 : (fs.flatMap Zfj).Sublist (Zas fs) := by
  unfold Zas
  clear hn h1
  induction fs with
  | nil => exact List.Sublist.refl _
  | cons f l ih =>
   rw [List.flatMap_cons, List.flatMap_cons]
   refine List.Sublist.append ?_ ih
   unfold ZaC
   exact (List.sublist_append_right (ZdJ f) (Zfj f)).trans (List.sublist_append_left _ _)
 have h3 := hn.sublist h2
 rw [← h1] at h3
 exact List.pairwise_map.1 h3
end Go.Proofs.Ythagpbkmakocjaa
namespace Go.Proofs.Ythagpbkmakocjaa
set_option linter.all false
open Go Go.Eng
def ZAi (fs : List Fil) : Option ByteArray := Zaw (fun p (f : Fil) => if (ixP fs fun y => decide (y.name = f.name)) < (p.length : Int) then some f.name else none) [] fs
def Zjm (fs : List Fil) (f : Fil) : Bool := f.imports.any fun s => decide ((ixP fs fun y => decide (y.name = s)) < 0)
def ZAn (fs : List Fil) : Option ByteArray := fs.findSome? fun f => if Zjm fs f = true then some f.name else none
theorem ZcL {α ρ τ : Type} {R : List α → α → Option ρ} {R' : List α → α → Option τ} {g : ρ → τ} (h : ∀ p x, R' p x = (R p x).map g) : ∀ (l p : List α), Zaw R' p l = (Zaw R p l).map g
 | [], p => rfl
 | x :: l, p => by
  rw [Zaw, Zaw, h]
  cases R p x with
  | some r => rfl
  | none => exact ZcL h l _
theorem ZLh (fs : List Fil) (h : fs.length ≤ 1048576) : Zab (ZpO fs) big 0 = some ((ZAi fs).elim (.inl ()) fun s => .inr ([], s, 9)) := by
 have := ZaO (B := ZpO fs) (N := big) fs (fun _ => ()) (fun p (f : Fil) => if (ixP fs fun y => decide (y.name = f.name)) < (p.length : Int) then some (([], f.name, 9) : List Int × ByteArray × Int) else none) (fun i _ => i) (fun _ => ()) (hN := Zaf (by omega)) (he := by simp [ZpO, ZyA, br]) (hs := by
  intro i f hf
  have g1 := (List.getElem?_eq_some_iff.1 hf).1
  have g2 : i + 1 < 9223372036854775808 := by omega
  have g3 := m51 fs f.name (by omega)
  have g4 : (fs.take i).length = i := by rw [List.length_take]; omega
  simp only [ZpO, ZyA, br, g1, g2, g3, g4, hf, Option.bind_some, Int.ofNat_lt, decide_true, if_true, decide_eq_true_eq]
  split <;> rfl)
 rw [this]
 unfold ZAi
 rw [ZcL (g := fun s => (([], s, 9) : List Int × ByteArray × Int)) (R := fun p (f : Fil) => if (ixP fs fun y => decide (y.name = f.name)) < (p.length : Int) then some f.name else none) (fun p x => by split <;> rfl)]
 cases Zaw (fun p (f : Fil) => if (ixP fs fun y => decide (y.name = f.name)) < (p.length : Int) then some f.name else none) [] fs <;> rfl
theorem ZLP (fs : List Fil) (h : fs.length ≤ 1048576) (hi : ∀ f ∈ fs, f.imports.length < 2147483648) : Zab (ZpE fs) big 0 = some ((ZAn fs).elim (.inl ()) fun s => .inr ([], s, 10)) := by
 have q2 : ∀ (v : Nat) (f : Fil), fs[v]? = some f → Zab (ZsO fs v f) big 0 = some (match f.imports.findIdx? (fun s => decide ((ixP fs fun y => decide (y.name = s)) < 0)) with | some i => .inr ([], f.name, 10) | none => .inl ()) := fun v f hf => by
  have h0 := hi f (List.mem_of_getElem? hf)
  refine Zbu f.imports (fun s => decide ((ixP fs fun y => decide (y.name = s)) < 0)) (fun _ => ([], f.name, 10)) () (hN := Zaf (by omega)) (he := by simp [ZsO, Zxo, br]) (hs := ?_)
  intro i s hs
  have g1 := (List.getElem?_eq_some_iff.1 hs).1
  have g2 : i + 1 < 9223372036854775808 := by omega
  have g3 := m51 fs s (by omega)
  simp only [ZsO, Zxo, br, g1, g2, g3, hs, Option.bind_some, Int.ofNat_lt, decide_true, if_true]
  split <;> rfl
 have := ZaO (B := ZpE fs) (N := big) fs (fun _ => ()) (fun _ (f : Fil) => if Zjm fs f = true then some (([], f.name, 10) : List Int × ByteArray × Int) else none) (fun i _ => i) (fun _ => ()) (hN := Zaf (by omega)) (he := by simp [ZpE, ZxP, ZxX, ZyJ, br, ix, vs]) (hs := by
  intro i f hf
  have g1 := (List.getElem?_eq_some_iff.1 hf).1
  have g2 : i + 1 < 9223372036854775808 := by omega
  have g3 := q2 i f hf
  have g4 : Zjm fs f = (f.imports.findIdx? fun s => decide ((ixP fs fun y => decide (y.name = s)) < 0)).isSome := by unfold Zjm; rw [List.findIdx?_isSome]
  simp only [ZpE, ZxP, ZxX, ZyJ, br, ix, vs, g1, g2, g3, hf, Option.bind_some, Int.ofNat_lt, decide_true, if_true, g4]
  cases f.imports.findIdx? (fun s => decide ((ixP fs fun y => decide (y.name = s)) < 0)) <;> rfl)
 rw [this, ZaI]
 unfold ZAn
 congr 1
 have : ∀ l : List Fil, (l.findSome? fun f => if Zjm fs f = true then some (([], f.name, 10) : List Int × ByteArray × Int) else none) = (l.findSome? fun f => if Zjm fs f = true then some f.name else none).map fun s => ([], s, 10) := fun l => by
  induction l with
  | nil => rfl
  | cons f l ih =>
   rw [List.findSome?_cons, List.findSome?_cons]
   cases Zjm fs f with
   | true => rfl
   | false => exact ih
 rw [this]
 cases fs.findSome? (fun f => if Zjm fs f = true then some f.name else none) <;> rfl
theorem ZL5 (fs : List Fil) (h : fs.length ≤ 1048576) : Zab (Zoi fs) big 0 = some ((ZAi fs).elim (.inl ()) fun s => .inr ([], s, 9)) := by
 have := ZaO (B := Zoi fs) (N := big) fs (fun _ => ()) (fun p (f : Fil) => if (ixP fs fun y => decide (y.name = f.name)) < (p.length : Int) then some (([], f.name, 9) : List Int × ByteArray × Int) else none) (fun i _ => i) (fun _ => ()) (hN := Zaf (by omega)) (he := by simp [Zoi, Zwg, vz]) (hs := by
  intro i f hf
  have g1 := (List.getElem?_eq_some_iff.1 hf).1
  have g2 : i + 1 < 9223372036854775808 := by omega
  have g3 := m66 fs f.name (by omega)
  have g4 : (fs.take i).length = i := by rw [List.length_take]; omega
  simp only [Zoi, Zwg, vz, g1, g2, g3, g4, hf, Option.bind_some, Int.ofNat_lt, decide_true, if_true, decide_eq_true_eq]
  split <;> rfl)
 rw [this]
 unfold ZAi
 rw [ZcL (g := fun s => (([], s, 9) : List Int × ByteArray × Int)) (R := fun p (f : Fil) => if (ixP fs fun y => decide (y.name = f.name)) < (p.length : Int) then some f.name else none) (fun p x => by split <;> rfl)]
 cases Zaw (fun p (f : Fil) => if (ixP fs fun y => decide (y.name = f.name)) < (p.length : Int) then some f.name else none) [] fs <;> rfl
theorem ZL3 (fs : List Fil) (h : fs.length ≤ 1048576) (hi : ∀ f ∈ fs, f.imports.length < 2147483648) : Zab (ZpP fs) big 0 = some ((ZAn fs).elim (.inl ()) fun s => .inr ([], s, 10)) := by
 have q2 : ∀ (v : Nat) (f : Fil), fs[v]? = some f → Zab (ZqD fs v f) big 0 = some (match f.imports.findIdx? (fun s => decide ((ixP fs fun y => decide (y.name = s)) < 0)) with | some i => .inr ([], f.name, 10) | none => .inl ()) := fun v f hf => by
  have h0 := hi f (List.mem_of_getElem? hf)
  refine Zbu f.imports (fun s => decide ((ixP fs fun y => decide (y.name = s)) < 0)) (fun _ => ([], f.name, 10)) () (hN := Zaf (by omega)) (he := by simp [ZqD, ZuD, br]) (hs := ?_)
  intro i s hs
  have g1 := (List.getElem?_eq_some_iff.1 hs).1
  have g2 : i + 1 < 9223372036854775808 := by omega
  have g3 := m66 fs s (by omega)
  simp only [ZqD, ZuD, br, g1, g2, g3, hs, hf, Option.bind_some, Int.ofNat_lt, decide_true, if_true]
  split <;> rfl
 have := ZaO (B := ZpP fs) (N := big) fs (fun _ => ()) (fun _ (f : Fil) => if Zjm fs f = true then some (([], f.name, 10) : List Int × ByteArray × Int) else none) (fun i _ => i) (fun _ => ()) (hN := Zaf (by omega)) (he := by simp [ZpP, Zw2, Zyt, ZwQ, ix, vz, vs]) (hs := by
  intro i f hf
  have g1 := (List.getElem?_eq_some_iff.1 hf).1
  have g2 : i + 1 < 9223372036854775808 := by omega
  have g3 := q2 i f hf
  have g4 : Zjm fs f = (f.imports.findIdx? fun s => decide ((ixP fs fun y => decide (y.name = s)) < 0)).isSome := by unfold Zjm; rw [List.findIdx?_isSome]
  simp only [ZpP, Zw2, Zyt, ZwQ, ix, vz, vs, g1, g2, g3, hf, Option.bind_some, Int.ofNat_lt, decide_true, if_true, g4]
  cases f.imports.findIdx? (fun s => decide ((ixP fs fun y => decide (y.name = s)) < 0)) <;> rfl)
 rw [this, ZaI]
 unfold ZAn
 congr 1
 have : ∀ l : List Fil, (l.findSome? fun f => if Zjm fs f = true then some (([], f.name, 10) : List Int × ByteArray × Int) else none) = (l.findSome? fun f => if Zjm fs f = true then some f.name else none).map fun s => ([], s, 10) := fun l => by
  induction l with
  | nil => rfl
  | cons f l ih =>
   rw [List.findSome?_cons, List.findSome?_cons]
   cases Zjm fs f with
   | true => rfl
   | false => exact ih
 rw [this]
 cases fs.findSome? (fun f => if Zjm fs f = true then some f.name else none) <;> rfl
theorem Zg8 {fs : List Fil} (h : ZAn fs = none) : ∀ f ∈ fs, Zd3 fs f := fun f hf s hs => by
 have h1 := List.findSome?_eq_none_iff.1 h f hf
 have h2 : Zjm fs f = false := by cases hl : Zjm fs f with | false => rfl | true => rw [hl] at h1; cases h1
 unfold Zjm at h2
 rw [List.any_eq_false] at h2
 have := h2 s hs
 simp only [decide_eq_true_eq] at this
 omega
def fi (fs : List Fil) (s : ByteArray) : Nat := (ixP fs fun y => decide (y.name = s)).toNat
def Zcx (fs : List Fil) (l : List ByteArray) (r : List Bool) : List Bool := l.foldl (fun r s => r.set (fi fs s) true) r
def ZcW (fs : List Fil) (xs : List Nat) (r : List Bool) : List Bool := xs.foldl (fun r x => if r.getD x false = true then Zcx fs (fs.getD x ZfW).imports r else r) r
def Zih (fs : List Fil) (a : Nat) : List Bool := (List.range fs.length).foldl (fun r _ => ZcW fs (List.range fs.length) r) (Zcx fs (fs.getD a ZfW).imports (List.replicate fs.length false))
theorem Zda (fs : List Fil) : ∀ (l : List ByteArray) (r : List Bool), (Zcx fs l r).length = r.length
 | [], r => rfl
 | s :: l, r => by unfold Zcx; rw [List.foldl_cons]; exact (Zda fs l _).trans (List.length_set)
theorem Zfi (fs : List Fil) : ∀ (xs : List Nat) (r : List Bool), (ZcW fs xs r).length = r.length
 | [], r => rfl
 | x :: xs, r => by
  unfold ZcW
  rw [List.foldl_cons]
  refine (Zfi fs xs _).trans ?_
  split
  ·exact Zda _ _ _
  ·rfl
theorem ZiD {fs : List Fil} {s : ByteArray} (h : 0 ≤ ixP fs fun y => decide (y.name = s)) : fi fs s < fs.length ∧ (ixP fs fun y => decide (y.name = s)) = (fi fs s : Int) := by
 obtain ⟨i, x, h1, h2, _⟩ := Zm4 h
 unfold fi
 rw [h1, Int.toNat_natCast]
 exact ⟨(List.getElem?_eq_some_iff.1 h2).1, rfl⟩
theorem ZMC (fs : List Fil) (h : fs.length ≤ 1048576) (p2 : Int) (f : Fil) (hl : f.imports.length < 2147483648) (hF : Zd3 fs f) (r : List Bool) (hr : r.length = fs.length) : Zab (ZoG fs p2 f) big (0, r) = some (.inl (Zcx fs f.imports r)) := by
 exact Zbb (B := ZoG fs p2 f) (N := big) f.imports (fun p => Zcx fs p r) (fun i c => (i, c)) id (hN := Zaf (by omega)) (he := by simp [ZoG, Zuz, br]) (hs := by
  intro i s hs
  have g1 := (List.getElem?_eq_some_iff.1 hs).1
  have g2 : i + 1 < 9223372036854775808 := by omega
  obtain ⟨k1, k2⟩ := ZiD (hF s (List.mem_of_getElem? hs))
  have g3 := m66 fs s (by omega)
  rw [k2] at g3
  have g4 : (Zcx fs (f.imports.take i) r).length = fs.length := (Zda _ _ _).trans hr
  have g5 : (0 : Int) ≤ (fi fs s : Int) := by omega
  have g6 : ((fi fs s : Nat) : Int) < (fs.length : Int) := by omega
  have e : Zcx fs (f.imports.take i ++ [s]) r = (Zcx fs (f.imports.take i) r).set (fi fs s) true := by unfold Zcx; rw [List.foldl_append]; rfl
  simp only [ZoG, Zuz, br, g1, g2, g3, g4, g5, g6, k1, hs, e, Option.bind_some, Int.ofNat_lt, decide_true, if_true, Int.toNat_natCast, true_and, and_self, List.length_set])
theorem ZMo (fs : List Fil) (h : fs.length ≤ 1048576) (p2 : Int) (v7 v9 : Nat) (f : Fil) (hl : f.imports.length < 2147483648) (hF : Zd3 fs f) (r : List Bool) (hr : r.length = fs.length) : Zab (ZpM fs p2 v7 v9 f) big (0, r) = some (.inl (Zcx fs f.imports r)) := by
 exact Zbb (B := ZpM fs p2 v7 v9 f) (N := big) f.imports (fun p => Zcx fs p r) (fun i c => (i, c)) id (hN := Zaf (by omega)) (he := by simp [ZpM, Zv4, br]) (hs := by
  intro i s hs
  have g1 := (List.getElem?_eq_some_iff.1 hs).1
  have g2 : i + 1 < 9223372036854775808 := by omega
  obtain ⟨k1, k2⟩ := ZiD (hF s (List.mem_of_getElem? hs))
  have g3 := m66 fs s (by omega)
  rw [k2] at g3
  have g4 : (Zcx fs (f.imports.take i) r).length = fs.length := (Zda _ _ _).trans hr
  have g5 : (0 : Int) ≤ (fi fs s : Int) := by omega
  have e : Zcx fs (f.imports.take i ++ [s]) r = (Zcx fs (f.imports.take i) r).set (fi fs s) true := by unfold Zcx; rw [List.foldl_append]; rfl
  simp only [ZpM, Zv4, br, g1, g2, g3, g4, g5, k1, hs, e, Option.bind_some, Int.ofNat_lt, decide_true, if_true, Int.toNat_natCast, true_and, and_self, List.length_set])
theorem ZLf (fs : List Fil) (h : fs.length ≤ 1048576) (hi : ∀ f ∈ fs, f.imports.length < 2147483648) (hF : ∀ f ∈ fs, Zd3 fs f) (p2 : Int) (v7 : Nat) (r : List Bool) (hr : r.length = fs.length) : Zab (Zoe fs p2 v7) big (0, r) = some (.inl (ZcW fs (List.range fs.length) r)) := by
 exact Zbb (B := Zoe fs p2 v7) (N := big) (List.range fs.length) (fun p => ZcW fs p r) (fun i c => (i, c)) id (hN := by rw [List.length_range]; exact Zaf (by omega)) (he := by simp [Zoe, Zv1, ZvY, ZuJ, ZwW, vz, vs]) (hs := by
  intro i x hx
  obtain ⟨g1, g0⟩ := List.getElem?_eq_some_iff.1 hx
  rw [List.length_range] at g1
  rw [List.getElem_range] at g0
  subst g0
  have g2 : i + 1 < 9223372036854775808 := by omega
  have g4 : (ZcW fs ((List.range fs.length).take i) r).length = fs.length := (Zfi _ _ _).trans hr
  have g5 : fs[i]? = some (fs.getD i ZfW) := by rw [List.getD_eq_getElem?_getD, List.getElem?_eq_getElem g1]; rfl
  have g6 : (ZcW fs ((List.range fs.length).take i) r)[i]? = some ((ZcW fs ((List.range fs.length).take i) r).getD i false) := by rw [List.getD_eq_getElem?_getD, List.getElem?_eq_getElem (by omega)]; rfl
  have hm := List.mem_of_getElem? g5
  have g7 := ZMo fs h p2 v7 i (fs.getD i ZfW) (hi _ hm) (hF _ hm) (ZcW fs ((List.range fs.length).take i) r) g4
  have e : ZcW fs ((List.range fs.length).take i ++ [i]) r = if (ZcW fs ((List.range fs.length).take i) r).getD i false = true then Zcx fs (fs.getD i ZfW).imports (ZcW fs ((List.range fs.length).take i) r) else ZcW fs ((List.range fs.length).take i) r := by unfold ZcW; rw [List.foldl_append]; rfl
  simp only [Zoe, Zv1, ZvY, ZuJ, ZwW, vz, vs, g1, g2, g4, g5, g6, g7, e, Option.bind_some, Int.ofNat_lt, decide_true, if_true]
  cases (ZcW fs ((List.range fs.length).take i) r).getD i false <;> rfl)
theorem m67 (fs : List Fil) (h : fs.length ≤ 1048576) (hi : ∀ f ∈ fs, f.imports.length < 2147483648) (hF : ∀ f ∈ fs, Zd3 fs f) (a : Nat) (ha : a < fs.length) : ZbJ fs (a : Int) (a : Int) = some ((Zih fs a).getD a false) := by
 have g5 : fs[a]? = some (fs.getD a ZfW) := by rw [List.getD_eq_getElem?_getD, List.getElem?_eq_getElem ha]; rfl
 have hm := List.mem_of_getElem? g5
 have q1 := ZMC fs h (a : Int) (fs.getD a ZfW) (hi _ hm) (hF _ hm) (List.replicate fs.length false) (by simp)
 have hl : ∀ l : List Nat, (l.foldl (fun r _ => ZcW fs (List.range fs.length) r) (Zcx fs (fs.getD a ZfW).imports (List.replicate fs.length false))).length = fs.length := fun l => by
  suffices H : ∀ (l : List Nat) (r : List Bool), r.length = fs.length → (l.foldl (fun r _ => ZcW fs (List.range fs.length) r) r).length = fs.length from H l _ ((Zda _ _ _).trans (by simp))
  intro l
  induction l with
  | nil => intro r hr; exact hr
  | cons x l ih => intro r hr; rw [List.foldl_cons]; exact ih _ ((Zfi _ _ _).trans hr)
 have q2 : Zab (ZoC fs (a : Int)) big (0, Zcx fs (fs.getD a ZfW).imports (List.replicate fs.length false)) = some (.inl (Zih fs a)) :=
  Zbb (B := ZoC fs (a : Int)) (N := big) (List.range fs.length) (fun p => p.foldl (fun r _ => ZcW fs (List.range fs.length) r) (Zcx fs (fs.getD a ZfW).imports (List.replicate fs.length false))) (fun i c => (i, c)) id (hN := by rw [List.length_range]; exact Zaf (by omega)) (he := by simp [ZoC, ZuO, ZxL, Zv6, vz, vs]) (hs := by
   intro i x hx
   obtain ⟨g1, g0⟩ := List.getElem?_eq_some_iff.1 hx
   rw [List.length_range] at g1
   have g2 : i + 1 < 9223372036854775808 := by omega
   have g4 := hl ((List.range fs.length).take i)
   have g7 := ZLf fs h hi hF (a : Int) i _ g4
   simp only [List.foldl_append, List.foldl_cons, List.foldl_nil]
   simp only [ZoC, ZuO, ZxL, Zv6, vz, vs, g1, g2, g7, Option.bind_some, Int.ofNat_lt, decide_true, if_true, Sum.elim_inl])
 have g8 : (Zih fs a).length = fs.length := hl _
 have g9 : (Zih fs a)[a]? = some ((Zih fs a).getD a false) := by rw [List.getD_eq_getElem?_getD, List.getElem?_eq_getElem (by omega)]; rfl
 have g10 : fs.length ≤ 549755813888 := by omega
 have g11 : (0 : Int) ≤ (a : Int) := by omega
 have g12 : (a : Int) < ((Zih fs a).length : Int) := by omega
 unfold ZbJ
 simp only [Zui, ZsT, Zrj, ZtO, ixi, vz, vs, g5, g10, g11, g12, g9, q1, q2, Option.bind_some, Sum.elim_inl, if_true, Int.toNat_natCast, and_self]
end Go.Proofs.Ythagpbkmakocjaa
