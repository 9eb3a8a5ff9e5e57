import Derived.Test.YthagpbkmakocjaaCn16
namespace Go.Proofs.Ythagpbkmakocjaa
set_option linter.all false
open Go Go.Eng
def ixP {α : Type} (l : List α) (p : α → Bool) : Int := match l.findIdx? p with
 | some i => (i : Int)
 | none => -1
theorem Zhn {α : Type} {l : List α} {p : α → Bool} : decide (0 ≤ ixP l p) = l.any p := by
 unfold ixP
 rw [← List.findIdx?_isSome]
 cases l.findIdx? p <;> simp
theorem ZIl (l : List Int) (x : Int) (h : l.length < 4611686018427387904) : Zef l x = some (ixP l (fun y => decide (x = y))) := by
 unfold Zef
 simp only [Zox, Zpx, Zrt, vz, lr, lc, lf]
 rw [ZbU l (fun y => decide (x = y)) (fun i => (i : Int)) () (hN := Zar h) (he := by simp [ZmH, Zmt, br]) (hs := by
  intro i y hy
  obtain ⟨h1, rfl⟩ := List.getElem?_eq_some_iff.1 hy
  have h2 : i + 1 < 9223372036854775808 := by omega
  simp [ZmH, Zmt, br, h1, h2]
  split <;> rfl)]
 unfold ixP
 cases l.findIdx? _ <;> rfl
theorem ZDs (l : List Int) (x : Int) (h : l.length < 4611686018427387904) : ZcD l x = some (ixP l (fun y => decide (x = y))) := by
 unfold ZcD
 simp only [Ziv, Ziu, ZhT, vz, lr, lf]
 rw [ZbU l (fun y => decide (x = y)) (fun i => (i : Int)) () (hN := Zar h) (he := by simp [ZfF, Zfx, br]) (hs := by
  intro i y hy
  obtain ⟨h1, rfl⟩ := List.getElem?_eq_some_iff.1 hy
  have h2 : i + 1 < 9223372036854775808 := by omega
  simp [ZfF, Zfx, br, h1, h2]
  split <;> rfl)]
 unfold ixP
 cases l.findIdx? _ <;> rfl
theorem m91 (l : List ByteArray) (x : ByteArray) (h : l.length < 4611686018427387904) : Zc4 l x = some (ixP l (fun y => decide (x = y))) := by
 unfold Zc4
 simp only [ZwE, Zxv, ZzL, vz, lr, lc, lf]
 rw [ZbU l (fun y => decide (x = y)) (fun i => (i : Int)) () (hN := Zar h) (he := by simp [Zuf, ZuD, br]) (hs := by
  intro i y hy
  obtain ⟨h1, rfl⟩ := List.getElem?_eq_some_iff.1 hy
  have h2 : i + 1 < 9223372036854775808 := by omega
  simp [Zuf, ZuD, br, h1, h2]
  split <;> rfl)]
 unfold ixP
 cases l.findIdx? _ <;> rfl
theorem m45 (l : List ByteArray) (x : ByteArray) (h : l.length < 4611686018427387904) : ZbJ l x = some (l.any fun y => decide (y = x)) := by
 unfold ZbJ
 simp only [ZzW, Zxp, ZAQ, lr, lc, lf]
 rw [ZbU l (fun y => decide (y = x)) (fun _ => true) () (hN := Zar h) (he := by simp [ZrK, Zr4, vz]) (hs := by
  intro i y hy
  obtain ⟨h1, rfl⟩ := List.getElem?_eq_some_iff.1 hy
  have h2 : i + 1 < 9223372036854775808 := by omega
  simp [ZrK, Zr4, vz, h1, h2]
  split <;> rfl)]
 rw [← List.findIdx?_isSome]
 cases l.findIdx? _ <;> rfl
theorem m14 (l : List ByteArray) (x : ByteArray) (h : l.length < 4611686018427387904) : Zbj l x = some (l.any fun y => decide (y = x)) := by
 unfold Zbj
 simp only [ZzX, Zw6, Zx3, lr, lc, lf]
 rw [ZbU l (fun y => decide (y = x)) (fun _ => true) () (hN := Zar h) (he := by simp [Zss, ZuF, vz]) (hs := by
  intro i y hy
  obtain ⟨h1, rfl⟩ := List.getElem?_eq_some_iff.1 hy
  have h2 : i + 1 < 9223372036854775808 := by omega
  simp [Zss, ZuF, vz, h1, h2]
  split <;> rfl)]
 rw [← List.findIdx?_isSome]
 cases l.findIdx? _ <;> rfl
theorem m85 (l : List Fil) (f : Fil → Option Bool) (p : Fil → Bool) (hf : ∀ x ∈ l, f x = some (p x)) (h : l.length < 4611686018427387904) : ZbE l f = some (ixP l (p)) := by
 unfold ZbE
 simp only [Zzg, ZxQ, Zwp, vz, lr, lc, lf]
 rw [ZbU l (p) (fun i => (i : Int)) () (hN := Zar h) (he := by simp [Zu3, ZrJ, br]) (hs := by
  intro i y hy
  obtain ⟨h1, rfl⟩ := List.getElem?_eq_some_iff.1 hy
  have h2 : i + 1 < 9223372036854775808 := by omega
  have h3 := hf l[i] (List.mem_of_getElem? hy)
  simp [Zu3, ZrJ, br, h1, h2, h3]
  cases p l[i] <;> rfl)]
 unfold ixP
 cases l.findIdx? _ <;> rfl
theorem ZHh (l : List ByteArray) (f : ByteArray → Option Bool) (p : ByteArray → Bool) (hf : ∀ x ∈ l, f x = some (p x)) (h : l.length < 4611686018427387904) : ZbI l f = some (ixP l (p)) := by
 unfold ZbI
 simp only [ZpJ, ZqX, Zpo, vz, lr, lc, lf]
 rw [ZbU l (p) (fun i => (i : Int)) () (hN := Zar h) (he := by simp [ZmG, ZlB, br]) (hs := by
  intro i y hy
  obtain ⟨h1, rfl⟩ := List.getElem?_eq_some_iff.1 hy
  have h2 : i + 1 < 9223372036854775808 := by omega
  have h3 := hf l[i] (List.mem_of_getElem? hy)
  simp [ZmG, ZlB, br, h1, h2, h3]
  cases p l[i] <;> rfl)]
 unfold ixP
 cases l.findIdx? _ <;> rfl
theorem ZH8 (l : List Enm) (f : Enm → Option Bool) (p : Enm → Bool) (hf : ∀ x ∈ l, f x = some (p x)) (h : l.length < 4611686018427387904) : ZbY l f = some (ixP l (p)) := by
 unfold ZbY
 simp only [Zqt, ZpO, Zph, vz, lr, lc, lf]
 rw [ZbU l (p) (fun i => (i : Int)) () (hN := Zar h) (he := by simp [ZmJ, Zme, br]) (hs := by
  intro i y hy
  obtain ⟨h1, rfl⟩ := List.getElem?_eq_some_iff.1 hy
  have h2 : i + 1 < 9223372036854775808 := by omega
  have h3 := hf l[i] (List.mem_of_getElem? hy)
  simp [ZmJ, Zme, br, h1, h2, h3]
  cases p l[i] <;> rfl)]
 unfold ixP
 cases l.findIdx? _ <;> rfl
theorem m88 (l : List Int) (x : Int) (h : l.length < 4611686018427387904) : Zcm l x = some (l.any fun y => decide (x = y)) := by
 unfold Zcm
 simp only [ZwX, cl, ZIl l x h, Option.bind_some, Zhn]
theorem ZEX (l : List Int) (x : Int) (h : l.length < 4611686018427387904) : Zbb l x = some (l.any fun y => decide (x = y)) := by
 unfold Zbb
 simp only [Zkx, cs, ZDs l x h, Option.bind_some, Zhn]
theorem m54 (l : List ByteArray) (x : ByteArray) (h : l.length < 4611686018427387904) : ZaW l x = some (l.any fun y => decide (x = y)) := by
 unfold ZaW
 simp only [ZzH, cl, m91 l x h, Option.bind_some, Zhn]
theorem m89 (l : List ByteArray) (f : ByteArray → Option Bool) (p : ByteArray → Bool) (hf : ∀ x ∈ l, f x = some (p x)) (h : l.length < 4611686018427387904) : Zbn l f = some (l.any p) := by
 unfold Zbn
 simp only [ZAJ, cs, ZHh l f p hf h, Option.bind_some, Zhn]
theorem ZHA (l : List Enm) (f : Enm → Option Bool) (p : Enm → Bool) (hf : ∀ x ∈ l, f x = some (p x)) (h : l.length < 4611686018427387904) : Zbx l f = some (l.any p) := by
 unfold Zbx
 simp only [ZoX, cs, ZH8 l f p hf h, Option.bind_some, Zhn]
theorem m51 (l : List Fil) (x : ByteArray) (h : l.length < 4611686018427387904) : Zde l x = some (ixP l fun y => decide (y.name = x)) := by
 unfold Zde
 simp only [ZxX, cs]
 rw [m85 l _ (fun y => decide (y.name = x)) (fun y _ => (by simp only [ZbK, ZAk, vw] : ZbK y x = _)) h]
 rfl
def ZaL (a b : ByteArray) : ByteArray := if a = ⟨#[]⟩ then b else a ++ ⟨#[46]⟩ ++ b
theorem Zhz (a b : ByteArray) : (ZaL a b).size ≤ a.size + 1 + b.size := by
 unfold ZaL
 split
 ·omega
 ·rw [ByteArray.size_append, ByteArray.size_append]; exact Nat.le_refl _
theorem m25 (a b : ByteArray) (ha : a.size < 4611686018427387904) (hb : b.size < 4611686018427387903) : ZdD a b = some (ZaL a b) := by
 unfold ZdD ZaL
 simp only [ZzJ, br]
 by_cases e : a = ⟨#[]⟩
 ·simp [e]
 ·have hd : (⟨#[46]⟩ : ByteArray).size = 1 := rfl
  have h1 : a.size + 1 ≤ 9223372036854775807 := by omega
  have h2 : a.size + 1 + b.size ≤ 9223372036854775807 := by omega
  simp [e, hd, h1, h2]
theorem m35 (a b : ByteArray) (ha : a.size < 4611686018427387904) (hb : b.size < 4611686018427387903) : ZbF a b = some (ZaL a b) := by
 unfold ZbF ZaL
 simp only [ZwB, br]
 by_cases e : a = ⟨#[]⟩
 ·simp [e]
 ·have hd : (⟨#[46]⟩ : ByteArray).size = 1 := rfl
  have h1 : a.size + 1 ≤ 9223372036854775807 := by omega
  have h2 : a.size + 1 + b.size ≤ 9223372036854775807 := by omega
  simp [e, hd, h1, h2]
structure SzF (f : Fil) : Prop where
 sp : f.space.size < 2147483648
 nm : f.name.size < 2147483648
 ms : f.messages.length < 2147483648
 es : f.enums.length < 2147483648
 vs : f.services.length < 2147483648
 is : f.imports.length < 2147483648
 nm1 : ∀ x ∈ f.messages, x.name.size < 2147483648
 nm2 : ∀ x ∈ f.enums, x.name.size < 2147483648
 nm3 : ∀ x ∈ f.services, x.name.size < 2147483648
def Zei (f : Fil) : List ByteArray := f.messages.map fun x => ZaL f.space x.name
def Zfd (f : Fil) : List ByteArray := f.enums.map fun x => ZaL f.space x.name
def Zj1 (f : Fil) : List ByteArray := f.services.map fun x => ZaL f.space x.name
theorem m24 (f : Fil) (hf : SzF f) : ZeS f = some (Zei f, Zfd f, Zj1 f) := by
 have g1 := hf.sp
 have g2 := hf.ms
 have g3 := hf.es
 have g4 := hf.vs
 have q1 : Zad (ZpI f) big ([], 0) = some (.inl ([] ++ f.messages.map fun x => ZaL f.space x.name)) := ZdU f.messages (fun x => ZaL f.space x.name) [] (hN := Zar (by omega)) (he := by intro b; simp [ZpI, Ztl, br]) (hs := by
  intro i b x hx hb
  obtain ⟨h1, rfl⟩ := List.getElem?_eq_some_iff.1 hx
  have h2 : i + 1 < 9223372036854775808 := by omega
  have h3 := m25 f.space (f.messages[i]).name (by omega) (by have := hf.nm1 _ (List.mem_of_getElem? hx); omega)
  have h4 : b.length < 549755813887 := by simp only [List.length_nil] at hb; omega
  simp [ZpI, Ztl, br, h1, h2, h3, h4])
 have q2 : ∀ r5 : List ByteArray, Zad (ZoA f r5) big ([], 0) = some (.inl ([] ++ f.enums.map fun x => ZaL f.space x.name)) := fun r5 => ZdU f.enums (fun x => ZaL f.space x.name) [] (hN := Zar (by omega)) (he := by intro b; simp [ZoA, ZtR, br]) (hs := by
  intro i b x hx hb
  obtain ⟨h1, rfl⟩ := List.getElem?_eq_some_iff.1 hx
  have h2 : i + 1 < 9223372036854775808 := by omega
  have h3 := m25 f.space (f.enums[i]).name (by omega) (by have := hf.nm2 _ (List.mem_of_getElem? hx); omega)
  have h4 : b.length < 549755813887 := by simp only [List.length_nil] at hb; omega
  simp [ZoA, ZtR, br, h1, h2, h3, h4])
 have q3 : ∀ r5 r10 : List ByteArray, Zad (Zq9 f r5 r10) big ([], 0) = some (.inl ([] ++ f.services.map fun x => ZaL f.space x.name)) := fun r5 r10 => ZdU f.services (fun x => ZaL f.space x.name) [] (hN := Zar (by omega)) (he := by intro b; simp [Zq9, ZrR, br]) (hs := by
  intro i b x hx hb
  obtain ⟨h1, rfl⟩ := List.getElem?_eq_some_iff.1 hx
  have h2 : i + 1 < 9223372036854775808 := by omega
  have h3 := m25 f.space (f.services[i]).name (by omega) (by have := hf.nm3 _ (List.mem_of_getElem? hx); omega)
  have h4 : b.length < 549755813887 := by simp only [List.length_nil] at hb; omega
  simp [Zq9, ZrR, br, h1, h2, h3, h4])
 unfold ZeS Zei Zfd Zj1
 simp only [Zyl, ZzD, Zx6, ZzF, Zxe, Zw4, Zqb, Zry, vz, vw, lc, q1, q2, q3, Option.bind_some, Sum.elim_inl, List.nil_append]
theorem m50 (f : Fil) (hf : SzF f) : Zbl f = some (Zei f ++ Zfd f ++ Zj1 f) := by
 have g1 := hf.sp
 have g2 := hf.ms
 have g3 := hf.es
 have g4 := hf.vs
 have q1 : Zad (ZoR f) big ([], 0) = some (.inl ([] ++ f.messages.map fun x => ZaL f.space x.name)) := ZdU f.messages (fun x => ZaL f.space x.name) [] (hN := Zar (by omega)) (he := by intro b; simp [ZoR, Zse, br]) (hs := by
  intro i b x hx hb
  obtain ⟨h1, rfl⟩ := List.getElem?_eq_some_iff.1 hx
  have h2 : i + 1 < 9223372036854775808 := by omega
  have h3 := m35 f.space (f.messages[i]).name (by omega) (by have := hf.nm1 _ (List.mem_of_getElem? hx); omega)
  have h4 : b.length < 549755813887 := by simp only [List.length_nil] at hb; omega
  simp [ZoR, Zse, br, h1, h2, h3, h4])
 have q2 : Zad (Zo8 f) big ((Zei f), 0) = some (.inl ((Zei f) ++ f.enums.map fun x => ZaL f.space x.name)) := ZdU f.enums (fun x => ZaL f.space x.name) (Zei f) (hN := Zar (by omega)) (he := by intro b; simp [Zo8, Zr2, br]) (hs := by
  intro i b x hx hb
  obtain ⟨h1, rfl⟩ := List.getElem?_eq_some_iff.1 hx
  have h2 : i + 1 < 9223372036854775808 := by omega
  have h3 := m35 f.space (f.enums[i]).name (by omega) (by have := hf.nm2 _ (List.mem_of_getElem? hx); omega)
  have h4 : b.length < 549755813887 := by simp only [List.length_map, Zei] at hb; omega
  simp [Zo8, Zr2, br, h1, h2, h3, h4])
 have q3 : Zad (Zop f) big ((Zei f ++ Zfd f), 0) = some (.inl ((Zei f ++ Zfd f) ++ f.services.map fun x => ZaL f.space x.name)) := ZdU f.services (fun x => ZaL f.space x.name) (Zei f ++ Zfd f) (hN := Zar (by omega)) (he := by intro b; simp [Zop, ZsH, br]) (hs := by
  intro i b x hx hb
  obtain ⟨h1, rfl⟩ := List.getElem?_eq_some_iff.1 hx
  have h2 : i + 1 < 9223372036854775808 := by omega
  have h3 := m35 f.space (f.services[i]).name (by omega) (by have := hf.nm3 _ (List.mem_of_getElem? hx); omega)
  have h4 : b.length < 549755813887 := by simp only [List.length_append, List.length_map, Zei, Zfd] at hb; omega
  simp [Zop, ZsH, br, h1, h2, h3, h4])
 unfold Zbl
 have e1 : Zei f = f.messages.map fun x => ZaL f.space x.name := rfl
 have e2 : Zfd f = f.enums.map fun x => ZaL f.space x.name := rfl
 have e3 : Zj1 f = f.services.map fun x => ZaL f.space x.name := rfl
 rw [← e1] at q1
 rw [← e2] at q2
 rw [← e3] at q3
 simp only [Zyo, ZxE, ZwA, Zw5, Zzy, ZAo, vz, vw, lc, q1, q2, q3, Option.bind_some, Sum.elim_inl, List.nil_append]
end Go.Proofs.Ythagpbkmakocjaa
namespace Go.Proofs.Ythagpbkmakocjaa
set_option linter.all false
open Go Go.Eng
theorem Zio {α : Type} (f : α → Nat) : ∀ (l : List α) (i : Nat), ((l.take i).map f).sum ≤ (l.map f).sum
 | [], i => by simp
 | x :: l, 0 => by simp
 | x :: l, i + 1 => by simp only [List.take_succ_cons, List.map_cons, List.sum_cons]; have := Zio f l i; omega
theorem Zci {α : Type} (f : α → Nat) {l : List α} {i : Nat} {x : α} (h : l[i]? = some x) : ((l.take i).map f).sum + f x ≤ (l.map f).sum := by
 obtain ⟨h1, rfl⟩ := List.getElem?_eq_some_iff.1 h
 have := Zio f l (i + 1)
 rw [List.take_succ_eq_append_getElem h1, List.map_append, List.sum_append] at this
 simpa using this
theorem m47 (ls : List (List ByteArray)) (h : (ls.map List.length).sum < 549755813888) (hl : ls.length < 4611686018427387904) : Zay ls = some ls.flatten := by
 have q1 : Zad (Zrc ls) big (0, 0) = some (.inl (ls.map List.length).sum) := Zbk ls (fun p => (p.map List.length).sum) (fun i b => (b, i)) id (hN := Zar hl) (he := by simp [Zrc, Zsj, br]) (hs := by
  intro i x hx
  have h3 := Zci List.length hx
  obtain ⟨h1, rfl⟩ := List.getElem?_eq_some_iff.1 hx
  have h2 : i + 1 < 9223372036854775808 := by omega
  have h4 : ((ls.take i).map List.length).sum + (ls[i]).length < 9223372036854775808 := by omega
  have h5 : ¬ (((ls.take i).map List.length).sum : Int) + ((ls[i]).length : Int) < 0 := by omega
  simp only [List.map_append, List.sum_append, List.map_cons, List.map_nil, List.sum_cons, List.sum_nil, Nat.add_zero]
  simp [Zrc, Zsj, br, h1, h2, h4, h5, -List.map_take])
 have q2 : Zad (Zrd ls) big ([], 0) = some (.inl ls.flatten) := Zbk ls (fun p => p.flatten) (fun i b => (b, i)) id (hN := Zar hl) (he := by simp [Zrd, Zsx, br]) (hs := by
  intro i x hx
  have h3 := Zci List.length hx
  obtain ⟨h1, rfl⟩ := List.getElem?_eq_some_iff.1 hx
  have h2 : i + 1 < 9223372036854775808 := by omega
  have h4 : (ls.take i).flatten.length + (ls[i]).length < 549755813888 := by rw [List.length_flatten]; omega
  simp only [List.flatten_append, List.flatten_cons, List.flatten_nil, List.append_nil]
  simp only [Zrd, Zsx, br]
  simp [h1, h2, h4, -List.length_flatten, -List.length_append])
 unfold Zay
 simp only [ZyK, Zww, Zyw, ZyD, ZAl, ZAf, vz, vw, lc, q1, q2, ZeT, h, if_true, Option.bind_some, Sum.elim_inl]
def tot (f : Fil) : Nat := f.messages.length + f.enums.length + f.services.length
def ZaD (f : Fil) : List ByteArray := Zei f ++ Zfd f ++ Zj1 f
theorem Zcn (f : Fil) : (Zei f).length = f.messages.length := by unfold Zei; rw [List.length_map]
theorem Zda (f : Fil) : (Zfd f).length = f.enums.length := by unfold Zfd; rw [List.length_map]
theorem Zdj (f : Fil) : (Zj1 f).length = f.services.length := by unfold Zj1; rw [List.length_map]
theorem ZcM (f : Fil) : (ZaD f).length = tot f := by unfold ZaD tot; rw [List.length_append, List.length_append, Zcn, Zda, Zdj]
structure SzA (fs : List Fil) : Prop where
 f : ∀ f ∈ fs, SzF f
 n : fs.length ≤ 1048576
 t : (fs.map tot).sum ≤ 1048576
 i : ∀ f ∈ fs, ∀ g ∈ fs, g.imports.length + tot f ≤ 1048576
def Zkg (l : List Fil) : Nat := (l.map fun f => f.messages.length).sum
def Zk3 (l : List Fil) : Nat := (l.map fun f => f.enums.length).sum
def Zk5 (l : List Fil) : Nat := (l.map fun f => f.services.length).sum
theorem ZDn : ∀ l : List Fil, Zkg l + Zk3 l + Zk5 l = (l.map tot).sum
 | [] => rfl
 | f :: l => by
  have := ZDn l
  simp only [Zkg, Zk3, Zk5, tot, List.map_cons, List.sum_cons] at *
  omega
theorem Zoy (l : List Fil) (x : Fil) : Zkg (l ++ [x]) = Zkg l + x.messages.length := by simp [Zkg]
theorem ZpD (l : List Fil) (x : Fil) : Zk3 (l ++ [x]) = Zk3 l + x.enums.length := by simp [Zk3]
theorem ZqM (l : List Fil) (x : Fil) : Zk5 (l ++ [x]) = Zk5 l + x.services.length := by simp [Zk5]
theorem Zpv {l : List Fil} {i : Nat} {x : Fil} (h : l[i]? = some x) : Zkg (l.take i) + Zk3 (l.take i) + Zk5 (l.take i) + tot x ≤ (l.map tot).sum := by
 rw [ZDn]; exact Zci tot h
theorem Zl7 {α : Type} {l : List α} {p : α → Bool} (h : 0 ≤ ixP l p) : ∃ (i : Nat) (x : α), ixP l p = (i : Int) ∧ l[i]? = some x ∧ p x = true ∧ ∀ j : Nat, j < i → ∀ y, l[j]? = some y → p y = false := by
 unfold ixP at h ⊢
 cases hf : l.findIdx? p with
 | none => rw [hf] at h; exact absurd h (by decide)
 | some i =>
  rw [List.findIdx?_eq_some_iff_getElem] at hf
  obtain ⟨h1, h2, h3⟩ := hf
  exact ⟨i, l[i], rfl, List.getElem?_eq_getElem h1, h2, fun j hj y hy => by
   obtain ⟨h4, rfl⟩ := List.getElem?_eq_some_iff.1 hy
   exact Bool.eq_false_iff.2 (h3 j hj)⟩
def Zoj {ρ : Type} (n : ByteArray → ρ) (p : List ByteArray) (x : ByteArray) : Option ρ := if (p.any fun y => decide (x = y)) = true then some (n x) else none
def Zaf (fs : List Fil) : List ByteArray := fs.flatMap ZaD
theorem ZiE (l : List Fil) (x : Fil) : Zaf (l ++ [x]) = Zaf l ++ ZaD x := by simp [Zaf]
theorem ZdM : ∀ l : List Fil, (Zaf l).length = (l.map tot).sum
 | [] => rfl
 | f :: l => by
  have := ZdM l
  simp only [Zaf, List.flatMap_cons, List.length_append, ZcM, List.map_cons, List.sum_cons] at *
  omega
def ZtU (fs : List Fil) : ByteArray × Int := if 64 < Zkg fs ∨ 64 < Zk3 fs ∨ 64 < Zk5 fs then (⟨#[]⟩, 3) else match Za5 (Zoj fun x => (x, (9 : Int))) [] (Zaf fs) with
 | some r => r
 | none => (⟨#[]⟩, 0)
theorem m23 (fs : List Fil) (h : SzA fs) : Zdf fs = some (ZtU fs) := by
 have hn := h.n
 have ht := h.t
 have q1 : Zad (Zo0 fs) big ([], 0, 0, 0, 0) = some (.inl (Zkg fs, Zk3 fs, Zk5 fs, Zaf fs)) := Zbk fs (fun p => (Zaf p, Zkg p, Zk3 p, Zk5 p)) (fun i b => (b.1, b.2.1, b.2.2.1, b.2.2.2, i)) (fun b => (b.2.1, b.2.2.1, b.2.2.2, b.1)) (hN := Zar (by omega)) (he := by simp [Zo0, ZrM, ZtK, Zsa, Zvh, Zsz, br, ix, vz, vw, vs]) (hs := by
  intro i x hx
  have h3 := Zpv hx
  have hz := h.f x (List.mem_of_getElem? hx)
  have h7 := Zci tot hx
  rw [← ZdM] at h7
  obtain ⟨h1, rfl⟩ := List.getElem?_eq_some_iff.1 hx
  have h6 : tot (fs[i]) = (fs[i]).messages.length + (fs[i]).enums.length + (fs[i]).services.length := rfl
  have h2 : i + 1 < 9223372036854775808 := by omega
  have g1 : Zkg (fs.take i) + (Zei fs[i]).length < 9223372036854775808 := by rw [Zcn]; omega
  have g2 : Zk3 (fs.take i) + (Zfd fs[i]).length < 9223372036854775808 := by rw [Zda]; omega
  have g3 : Zk5 (fs.take i) + (Zj1 fs[i]).length < 9223372036854775808 := by rw [Zdj]; omega
  have g4 : Zay [Zei fs[i], Zfd fs[i], Zj1 fs[i]] = some (ZaD fs[i]) := by
   rw [m47 _ (by simp only [List.map_cons, List.map_nil, List.sum_cons, List.sum_nil, Zcn, Zda, Zdj]; omega) (by simp)]
   simp [ZaD]
  have g5 : (Zaf (fs.take i)).length + (ZaD fs[i]).length < 549755813888 := by rw [ZcM]; omega
  simp only [ZiE, Zoy, ZpD, ZqM, Zo0, ZrM, ZtK, Zsa, Zvh, Zsz, br, ix, vz, vw, vs]
  have h8 := m24 _ hz
  simp only [← Zcn, ← Zda, ← Zdj]
  simp [h1, h2, h8, g1, g2, g3, g4, g5])
 have hl : (Zaf fs).length ≤ 1048576 := by rw [ZdM]; exact ht
 have q2 : Zad (Zod (Zaf fs)) big 0 = some ((Za5 (Zoj fun x => (x, (9 : Int))) [] (Zaf fs)).elim (.inl ()) .inr) := ZbW (B := Zod (Zaf fs)) (Zaf fs) (fun _ => ()) (Zoj fun x => (x, (9 : Int))) (fun i _ => i) id (hN := Zar (by omega)) (he := by simp [Zod, ZtA, br, Bd.vl]) (hs := by
  intro i x hx
  obtain ⟨h1, rfl⟩ := List.getElem?_eq_some_iff.1 hx
  have h2 : i + 1 < 9223372036854775808 := by omega
  have h3 : i ≤ (Zaf fs).length := by omega
  have h4 := m54 ((Zaf fs).take i) (Zaf fs)[i] (by rw [List.length_take]; omega)
  simp only [Zod, ZtA, br, Bd.c, Bd.vl, Zoj]
  simp only [h1, h2, h3, h4, Option.bind_some, decide_true, if_true, Int.ofNat_lt, and_self, Nat.zero_le, Nat.sub_zero, List.drop_zero, hx]
  cases ((Zaf fs).take i).any fun y => decide ((Zaf fs)[i] = y) <;> rfl)
 unfold Zdf
 simp only [Zzj, Zzm, ZxR, ZqC, Zq8, Zo3, ZoY, br, vz, vw, lr, lc, lf, q1, q2, Option.bind_some, Sum.elim_inl]
 unfold ZtU
 have hmm : (64 : Int) < mmI true (mmI true (Zkg fs : Int) (Zk3 fs : Int)) (Zk5 fs : Int) ↔ (64 < Zkg fs ∨ 64 < Zk3 fs ∨ 64 < Zk5 fs) := by
  simp only [mmI, if_true]
  omega
 simp only [decide_eq_true_eq, hmm]
 split
 ·rfl
 ·cases Za5 (Zoj fun x => (x, (9 : Int))) [] (Zaf fs) <;> rfl
end Go.Proofs.Ythagpbkmakocjaa
namespace Go.Proofs.Ythagpbkmakocjaa
set_option linter.all false
open Go Go.Eng
theorem sq4 (a b : Nat) : 4 * (a * b) ≤ (a + b) * (a + b) := by
 rcases Nat.le_total a b with h | h
 ·obtain ⟨d, rfl⟩ := Nat.le.dest h
  have h1 : (a + (a + d)) * (a + (a + d)) = 4 * (a * (a + d)) + d * d := by
   simp only [Nat.mul_add, Nat.add_mul, Nat.mul_comm d a]; omega
  omega
 ·obtain ⟨d, rfl⟩ := Nat.le.dest h
  have h1 : (b + d + b) * (b + d + b) = 4 * ((b + d) * b) + d * d := by
   simp only [Nat.mul_add, Nat.add_mul, Nat.mul_comm d b]; omega
  omega
theorem ZFS {a b : Nat} (h : a + b ≤ 1048576) : a * b ≤ 274877906944 := by
 have h1 := sq4 a b
 have h2 : (a + b) * (a + b) ≤ 1048576 * 1048576 := Nat.mul_le_mul h h
 omega
theorem Zv2 {α : Type} (f : α → Nat) (c : Nat) : ∀ l : List α, (∀ x ∈ l, f x ≤ c) → (l.map f).sum ≤ l.length * c
 | [], _ => by simp
 | x :: l, h => by
  have h1 := Zv2 f c l fun y hy => h y (List.mem_cons_of_mem _ hy)
  have h2 := h x (List.mem_cons_self ..)
  simp only [List.map_cons, List.sum_cons, List.length_cons, Nat.add_mul, Nat.one_mul]
  omega
def Zcr (fs : List Fil) (s : ByteArray) : Fil := fs.getD (ixP fs fun y => decide (y.name = s)).toNat ZiG
theorem ZjP {fs : List Fil} {s : ByteArray} (h : 0 ≤ ixP fs fun y => decide (y.name = s)) : fs[(ixP fs fun y => decide (y.name = s)).toNat]? = some (Zcr fs s) ∧ (Zcr fs s).name = s ∧ Zcr fs s ∈ fs := by
 obtain ⟨i, x, h1, h2, h3, _⟩ := Zl7 h
 have : Zcr fs s = x := by unfold Zcr; rw [h1, List.getD_eq_getElem?_getD, Int.toNat_natCast, h2]; rfl
 rw [this, h1, Int.toNat_natCast]
 exact ⟨h2, by simpa using h3, List.mem_of_getElem? h2⟩
def Zo5 (fs : List Fil) (f : Fil) (p : List ByteArray) : List ByteArray := ZaD f ++ p.flatMap fun s => ZaD (Zcr fs s)
theorem Zp7 (fs : List Fil) (f : Fil) (p : List ByteArray) (s : ByteArray) : Zo5 fs f (p ++ [s]) = Zo5 fs f p ++ ZaD (Zcr fs s) := by simp [Zo5]
theorem Zeo {α β : Type} (f : α → List β) : ∀ l : List α, (l.flatMap f).length = (l.map fun x => (f x).length).sum
 | [] => rfl
 | x :: l => by rw [List.flatMap_cons, List.length_append, Zeo f l]; rfl
def Zhq (fs : List Fil) (f : Fil) : Prop := ∀ s ∈ f.imports, 0 ≤ ixP fs fun y => decide (y.name = s)
theorem ZmK {fs : List Fil} {f : Fil} (h : SzA fs) (hf : f ∈ fs) (hF : Zhq fs f) {i : Nat} : (Zo5 fs f (f.imports.take i)).length ≤ 274878955520 := by
 unfold Zo5
 rw [List.length_append, ZcM, Zeo]
 have h0 := h.i f hf f hf
 have h1 := Zio (fun s => (ZaD (Zcr fs s)).length) f.imports i
 have h2 := Zv2 (fun s => (ZaD (Zcr fs s)).length) (1048576 - f.imports.length) f.imports fun s hs => by
  have := h.i (Zcr fs s) (ZjP (hF s hs)).2.2 f hf
  simp only [ZcM]
  omega
 have h3 := ZFS (a := f.imports.length) (b := 1048576 - f.imports.length) (by omega)
 omega
def Zeb (fs : List Fil) (f : Fil) : List ByteArray := Zo5 fs f f.imports
theorem m27 (fs : List Fil) (f : Fil) (h : SzA fs) (hf : f ∈ fs) (hF : Zhq fs f) : Zc3 fs f = some (Zeb fs f) := by
 have hn := h.n
 have hz := h.f f hf
 have hi := hz.is
 have hl : f.imports.length + tot f ≤ 1048576 := h.i f hf f hf
 have cc : ∀ g : Fil, SzF g → tot g ≤ 1048576 → Zay [Zei g, Zfd g, Zj1 g] = some (ZaD g) := fun g hg ht => by
  have h6 : tot g = g.messages.length + g.enums.length + g.services.length := rfl
  rw [m47 _ (by simp only [List.map_cons, List.map_nil, List.sum_cons, List.sum_nil, Zcn, Zda, Zdj]; omega) (by simp)]
  simp [ZaD]
 have q1 : Zad (Zn9 fs f) big (ZaD f, 0) = some (.inl (Zeb fs f)) := by
  have := Zbk (B := Zn9 fs f) (N := big) f.imports (Zo5 fs f) (fun i b => (b, i)) id (hN := Zar (by omega)) (he := by simp [Zn9, ZuK, ZrV, Zsb, ZsZ, Zux, br, ix, vz, vw, vs]) (hs := by
   intro i x hx
   obtain ⟨e1, e2, e3⟩ := ZjP (hF x (List.mem_of_getElem? hx))
   have g0 := hF x (List.mem_of_getElem? hx)
   have g1 := ZmK h hf hF (i := i)
   have g2 := h.f _ e3
   have g3 := h.i _ e3 f hf
   have g4 := m51 fs x (by omega)
   have g5 := m24 _ g2
   have g6 : Zay [Zo5 fs f (f.imports.take i), Zei (Zcr fs x), Zfd (Zcr fs x), Zj1 (Zcr fs x)] = some (Zo5 fs f (f.imports.take i ++ [x])) := by
    have h6 : tot (Zcr fs x) = (Zcr fs x).messages.length + (Zcr fs x).enums.length + (Zcr fs x).services.length := rfl
    rw [m47 _ (by simp only [List.map_cons, List.map_nil, List.sum_cons, List.sum_nil, Zcn, Zda, Zdj]; omega) (by simp), Zp7]
    simp [ZaD]
   obtain ⟨h1, rfl⟩ := List.getElem?_eq_some_iff.1 hx
   have h2 : i + 1 < 9223372036854775808 := by omega
   simp only [Zn9, ZuK, ZrV, Zsb, ZsZ, Zux, br, ix, vz, vw, vs]
   simp only [h1, h2, g0, e1, g4, g5, g6, Option.bind_some, decide_true, if_true, Int.ofNat_lt, hx])
  have e : Zo5 fs f [] = ZaD f := by simp [Zo5]
  rw [e] at this
  exact this
 unfold Zc3
 simp only [Zyr, ZzT, Zzr, Zwz, Zoq, ZqE, vz, vw, lr, lf, m24 f hz, cc f hz (by omega), q1, Option.bind_some, Sum.elim_inl]
end Go.Proofs.Ythagpbkmakocjaa
namespace Go.Proofs.Ythagpbkmakocjaa
set_option linter.all false
open Go Go.Eng
def ZrA (s : ByteArray) : Nat → Option Nat
 | 0 => none
 | n + 1 => if ((s.data.toList.getD n 0).toNat : Int) = 46 then some n else ZrA s n
theorem ZkX {s : ByteArray} : ∀ {n i : Nat}, ZrA s n = some i → i < n
 | 0, i, h => by cases h
 | n + 1, i, h => by
  unfold ZrA at h
  split at h
  ·cases h; omega
  ·have := ZkX h; omega
theorem ZvC (s : ByteArray) (hs : s.size < 4611686018427387904) : ∀ (n N : Nat), n ≤ s.size → n < N → Zad (Zjn s 46) N ((n : Int) - 1) = some (match ZrA s n with | some i => .inr (i : Int) | none => .inl ())
 | 0, N, _, hN => by
  obtain ⟨N, rfl⟩ : ∃ m, N = m + 1 := ⟨N - 1, by omega⟩
  rw [Zad]
  simp only [Zjn, ZlK, br]
  rfl
 | n + 1, N, hn, hN => by
  obtain ⟨N, rfl⟩ : ∃ m, N = m + 1 := ⟨N - 1, by omega⟩
  have ih := ZvC s hs n N (by omega) (by omega)
  have h1 : n < s.data.toList.length := by simpa using (show n < s.size by omega)
  rw [Zad, ZrA]
  have e : ((n + 1 : Nat) : Int) - 1 = (n : Int) := by omega
  have g1 : (0 : Int) ≤ (n : Int) := by omega
  have g2 : ((n : Int)).toNat = n := by omega
  have g3 : -9223372036854775808 ≤ (n : Int) - 1 ∧ (n : Int) - 1 < 9223372036854775808 := by omega
  have g4 : (n : Int) < (s.size : Int) := by omega
  have g5 : s.data.toList[n]? = some (s.data.toList.getD n 0) := by rw [List.getD_eq_getElem?_getD, List.getElem?_eq_getElem h1]; rfl
  simp only [Zjn, ZlK, br, e, g1, g2, g3, g4, decide_true, if_true, and_self]
  by_cases hd : ((s.data.toList.getD n 0).toNat : Int) = 46
  ·simp only [hd, decide_true, if_true]
  ·simp only [hd, decide_false, Bool.false_eq_true, if_false]
   exact ih
theorem ZHl (s : ByteArray) (hs : s.size < 4611686018427387904) : Zbz s 46 = some (match ZrA s s.size with | some i => (i : Int) | none => -1) := by
 have g3 : -9223372036854775808 ≤ (s.size : Int) - 1 ∧ (s.size : Int) - 1 < 9223372036854775808 := by omega
 unfold Zbz
 simp only [Zrq, vz, lr, lc, lf, cl, ZbB, Zrr, Zqe, Zov, g3, and_self, if_true, ZvC s hs s.size big (Nat.le_refl _) (Zar hs), Option.bind_some]
 cases ZrA s s.size <;> rfl
def Zet (s : ByteArray) : ByteArray × ByteArray := match ZrA s s.size with
 | some i => (s.extract 0 i, s.extract (i + 1) s.size)
 | none => (⟨#[]⟩, s)
theorem ZHo (s : ByteArray) (hs : s.size < 4611686018427387904) : Zdb s = some (Zet s) := by
 unfold Zdb Zet
 simp only [Zpn, cl, Bd.c, Bd.vl, ZHl s hs, Option.bind_some]
 cases h : ZrA s s.size with
 | none => rfl
 | some i =>
  have h1 := ZkX h
  have g1 : ¬ (i : Int) < 0 := by omega
  have g2 : (0 : Int) ≤ i := by omega
  have g3 : -9223372036854775808 ≤ (i : Int) + 1 ∧ (i : Int) + 1 < 9223372036854775808 := by omega
  have g4 : (0 : Int) ≤ (i : Int) + 1 := by omega
  have g5 : i ≤ s.size := by omega
  have g6 : ((i : Int) + 1).toNat = i + 1 := by omega
  have g7 : i + 1 ≤ s.size := by omega
  simp [g1, g2, g3, g4, g5, g6, g7]
theorem Zhr {s : ByteArray} (h : s ≠ ⟨#[]⟩) : (Zet s).1.size < s.size := by
 have h0 : s.size ≠ 0 := fun e => h (by
  obtain ⟨d⟩ := s
  have : d = #[] := Array.eq_empty_of_size_eq_zero e
  rw [this])
 unfold Zet
 cases hl : ZrA s s.size with
 | none => exact Nat.pos_of_ne_zero h0
 | some i =>
  have := ZkX hl
  simp only [ByteArray.size_extract]
  omega
def upF : Nat → ByteArray → List ByteArray
 | 0, _ => []
 | n + 1, s => if s = ⟨#[]⟩ then [] else (Zet s).1 :: upF n (Zet s).1
theorem Zl3 : ∀ (n : Nat) (s : ByteArray), ∀ x ∈ upF n s, x.size ≤ s.size
 | 0, s, x, h => by cases h
 | n + 1, s, x, h => by
  unfold upF at h
  split at h
  ·cases h
  ·rename_i hs
   have := Zhr hs
   rcases List.mem_cons.1 h with rfl | h
   ·omega
   ·have := Zl3 n _ x h; omega
theorem ZoF : ∀ (n : Nat) (s : ByteArray), (upF n s).length ≤ n
 | 0, s => Nat.le_refl _
 | n + 1, s => by
  unfold upF
  split
  ·simp
  ·have := ZoF n (Zet s).1
   simp only [List.length_cons]
   omega
def upB (s : ByteArray) : List ByteArray := s :: upF (s.size + 1) s
theorem ZuC {s x : ByteArray} (h : x ∈ upB s) : x.size ≤ s.size := by
 rcases List.mem_cons.1 h with rfl | h
 ·exact Nat.le_refl _
 ·exact Zl3 _ _ x h
theorem ZxF (s : ByteArray) : (upB s).length ≤ s.size + 2 := by
 have := ZoF (s.size + 1) s
 simp only [upB, List.length_cons]
 omega
theorem ZvP : ∀ (n : Nat) (s : ByteArray) (r : List ByteArray) (N : Nat), s.size < n → n ≤ N → r.length + n < 549755813887 → Zad ZlG N (s, r) = some (.inl (r ++ upF n s))
 | 0, s, r, N, h, _, _ => absurd h (Nat.not_lt_zero _)
 | n + 1, s, r, N, h, hN, hr => by
  obtain ⟨N, rfl⟩ : ∃ m, N = m + 1 := ⟨N - 1, by omega⟩
  have g1 := ZHo s (by omega)
  have g2 : r.length < 549755813887 := by omega
  rw [Zad, upF]
  simp only [ZlG, ZqI, br, g1, g2, Option.bind_some, if_true]
  by_cases hs : s = ⟨#[]⟩
  ·simp [hs]
  ·have := Zhr hs
   have ih := ZvP n (Zet s).1 (r ++ [(Zet s).1]) N (by omega) (by omega) (by rw [List.length_append, List.length_singleton]; omega)
   simp only [hs, decide_false, Bool.not_false, if_true, if_false]
   rw [ih]
   simp
theorem ZHN (s : ByteArray) (hs : s.size < 274877906944) : Ze0 s = some (upB s) := by
 unfold Ze0 upB
 simp only [ZqF, Zru, vz, vw, ZvP (s.size + 1) s [s] big (by omega) (Nat.le_of_lt (Zar (by omega))) (by simp only [List.length_singleton]; omega), Option.bind_some]
 rfl
def ZgY (l : List ByteArray) (x : ByteArray) : Bool := l.any fun y => decide (x = y)
def Zki (scope name : ByteArray) (known : List ByteArray) : ByteArray × Bool :=
 if 0 < name.size ∧ ((name.data.toList.getD 0 0).toNat : Int) = 46 then (if ZgY known (name.extract 1 name.size) = true then (name.extract 1 name.size, true) else (⟨#[]⟩, false))
 else match (upB scope).find? fun s => ZgY known (ZaL s name) with
  | some s => (ZaL s name, true)
  | none => (⟨#[]⟩, false)
theorem Zjd {s : ByteArray} (h : 0 < s.size) : s.extract 0 1 = ⟨#[46]⟩ ↔ ((s.data.toList.getD 0 0).toNat : Int) = 46 := by
 obtain ⟨d⟩ := s
 have h' : 0 < d.size := h
 have e : (ByteArray.extract ⟨d⟩ 0 1).data = d.extract 0 1 := by rw [ByteArray.data_extract]
 have e2 : d.extract 0 1 = #[d[0]] := by
  apply Array.ext
  ·simp; omega
  ·intro i h1 h2
   have : i = 0 := by simp at h2; omega
   subst this
   simp
 have e3 : d.toList.getD 0 0 = d[0] := by simp [List.getD_eq_getElem?_getD, h']
 show _ ↔ ((d.toList.getD 0 0).toNat : Int) = 46
 rw [e3]
 constructor
 ·intro hh
  have := congrArg ByteArray.data hh
  rw [e, e2] at this
  simp at this
  rw [this]; rfl
 ·intro hh
  have : d[0] = 46 := UInt8.toNat_inj.1 (by have : (46 : UInt8).toNat = 46 := rfl; omega)
  apply ByteArray.ext
  rw [e, e2, this]
theorem ZIA (s : ByteArray) (hs : s.size < 4611686018427387904) : Zb1 s ⟨#[46]⟩ = some (if 0 < s.size ∧ ((s.data.toList.getD 0 0).toNat : Int) = 46 then (s.extract 1 s.size, true) else (s, false)) := by
 have e : (⟨#[46]⟩ : ByteArray).size = 1 := rfl
 simp only [Zb1, Zcb, Zb7, ZqR, Zo9, ZpY, vz, cl, Bd.c, Bd.vl, e]
 by_cases h : 0 < s.size
 ·have h1 : (1 : Int) ≤ (s.size : Int) := by omega
  have h2 : 1 ≤ s.size := h
  by_cases hd : ((s.data.toList.getD 0 0).toNat : Int) = 46
  ·have h3 := (Zjd h).2 hd
   generalize s.data.toList.getD 0 0 = b at *
   simp [h, hd, h1, h2, h3]
  ·have h3 : ¬ s.extract 0 1 = ⟨#[46]⟩ := fun q => hd ((Zjd h).1 q)
   generalize s.data.toList.getD 0 0 = b at *
   simp [h, hd, h1, h2, h3]
 ·have h1 : ¬ (1 : Int) ≤ (s.size : Int) := by omega
  have h0 : s.size = 0 := by omega
  simp [h0]
theorem Zlo {α : Type} (l : List α) (p : α → Bool) : l.find? p = (l.findIdx? p).bind fun i => l[i]? := by
 induction l with
 | nil => rfl
 | cons x l ih =>
  rw [List.find?_cons, List.findIdx?_cons]
  cases p x with
  | true => simp
  | false =>
   simp only [Bool.false_eq_true, if_false]
   rw [ih]
   cases l.findIdx? p <;> simp
theorem m92 (scope name : ByteArray) (known : List ByteArray) (h1 : scope.size < 274877906944) (h2 : name.size < 274877906944) (h3 : known.length < 4611686018427387904) : ZcK scope name known = some (Zki scope name known) := by
 have hl := ZxF scope
 have q1 : Zad (Zrn name known (upB scope)) big 0 = some (match (upB scope).findIdx? (fun s => ZgY known (ZaL s name)) with | some i => .inr (ZaL ((upB scope).getD i ⟨#[]⟩) name, true) | none => .inl ()) := by
  refine ZbU (upB scope) (fun s => ZgY known (ZaL s name)) (fun i => (ZaL ((upB scope).getD i ⟨#[]⟩) name, true)) () (hN := Zar (by omega)) (he := by simp [Zrn, ZsB, br]) (hs := ?_)
  intro i x hx
  have g := ZuC (List.mem_of_getElem? hx)
  have e : (upB scope).getD i ⟨#[]⟩ = x := by rw [List.getD_eq_getElem?_getD, hx]; rfl
  have g1 := m25 x name (by omega) (by omega)
  have g2 : ZaW known (ZaL x name) = some (ZgY known (ZaL x name)) := m54 known (ZaL x name) h3
  have g3 := (List.getElem?_eq_some_iff.1 hx).1
  have g4 : i + 1 < 9223372036854775808 := by omega
  simp only [Zrn, ZsB, br, g1, g2, g3, g4, e, hx, Option.bind_some, Int.ofNat_lt, decide_true, if_true]
  cases ZgY known (ZaL x name) <;> rfl
 unfold ZcK Zki
 simp only [Zzt, ZxG, Zxt, lr, lf, cl, ZIA name (by omega), Option.bind_some]
 by_cases hd : 0 < name.size ∧ ((name.data.toList.getD 0 0).toNat : Int) = 46
 ·have g2 : ZaW known (name.extract 1 name.size) = some (ZgY known (name.extract 1 name.size)) := m54 known _ h3
  simp only [hd, and_self, if_true, g2, Option.bind_some]
  cases ZgY known (name.extract 1 name.size) <;> rfl
 ·simp only [if_neg hd, Bool.false_eq_true, if_false, ZHN scope h1, Option.bind_some, q1]
  rw [Zlo]
  cases hf : (upB scope).findIdx? (fun s => ZgY known (ZaL s name)) with
  | none => rfl
  | some i =>
   have hlt : i < (upB scope).length := (List.findIdx?_eq_some_iff_getElem.1 hf).1
   simp [List.getD_eq_getElem?_getD, hlt]
end Go.Proofs.Ythagpbkmakocjaa
namespace Go.Proofs.Ythagpbkmakocjaa
set_option linter.all false
open Go Go.Eng
theorem ZbZ {α ρ : Type} (g : α → Option ρ) : ∀ (l p : List α), Za5 (fun _ x => g x) p l = l.findSome? g
 | [], p => rfl
 | x :: l, p => by
  rw [Za5, List.findSome?_cons]
  cases g x with
  | some r => rfl
  | none => exact ZbZ g l _
def ZaP (fs : List Fil) : List ByteArray := fs.flatMap Zei
def ZmV (fs : List Fil) (x : ByteArray) : Option Enm := fs.findSome? fun f => f.enums.find? fun y => decide (ZaL f.space y.name = x)
theorem m93 (L : Lnk) (x : ByteArray) (h : L.enums.length < 4611686018427387904) : Zbc L x = some (L.enums.any fun e => decide (e.name = x)) := by
 unfold Zbc
 simp only [ZAi, vw]
 rw [ZHA L.enums _ (fun y => decide (y.name = x)) (fun y _ => (by simp only [ZaU, Zp6, vw] : ZaU y x = _)) h]
 rfl
def ZnJ (en : List Enm) (nm it : ByteArray) : Option Int := en.findSome? fun e => if e.name = nm then (e.items.find? fun i => decide (i.name = it)).map fun i => IntKind.u64.wrap i.num else none
theorem m94 (L : Lnk) (nm it : ByteArray) (h : L.enums.length < 4611686018427387904) (hi : ∀ e ∈ L.enums, e.items.length < 4611686018427387904) : Za8 L nm it = some (match ZnJ L.enums nm it with | some n => (n, true) | none => (0, false)) := by
 have q2 : ∀ (v : Nat) (e : Enm), e.items.length < 4611686018427387904 → Zad (ZnS L nm it v e) big 0 = some (((e.items.find? fun i => decide (i.name = it)).map fun i => (IntKind.u64.wrap i.num, true)).elim (.inl ()) .inr) := fun v e he => by
  have := ZbW (B := ZnS L nm it v e) (N := big) e.items (fun _ => ()) (fun _ y => if (decide (y.name = it)) = true then some (IntKind.u64.wrap y.num, true) else none) (fun i _ => i) (fun _ => ()) (hN := Zar he) (he := by simp [ZnS, Ztw, br]) (hs := by
   intro i y hy
   have h1 := (List.getElem?_eq_some_iff.1 hy).1
   have h2 : i + 1 < 9223372036854775808 := by omega
   simp only [ZnS, Ztw, br, h1, h2, hy, Option.bind_some, Int.ofNat_lt, decide_true, if_true]
   split <;> rfl)
  rw [this, ZbZ]
  congr 1
  clear this he
  induction e.items with
  | nil => rfl
  | cons y l ih =>
   rw [List.findSome?_cons, List.find?_cons]
   cases decide (y.name = it) with
   | true => rfl
   | false => exact ih
 have q1 : Zad (Znd L nm it) big 0 = some (((ZnJ L.enums nm it).map fun n => (n, true)).elim (.inl ()) .inr) := by
  have := ZbW (B := Znd L nm it) (N := big) L.enums (fun _ => ()) (fun _ e => if e.name = nm then ((e.items.find? fun i => decide (i.name = it)).map fun i => (IntKind.u64.wrap i.num, true)) else none) (fun i _ => i) (fun _ => ()) (hN := Zar h) (he := by simp [Znd, ZrI, Zut, Zui, Zsh, br, ix, vs]) (hs := by
   intro i e he
   have h1 := (List.getElem?_eq_some_iff.1 he).1
   have h2 : i + 1 < 9223372036854775808 := by omega
   have h3 := q2 i e (hi _ (List.mem_of_getElem? he))
   simp only [Znd, ZrI, Zut, Zui, Zsh, br, ix, vs, h1, h2, he, Option.bind_some, Int.ofNat_lt, decide_true, if_true]
   by_cases hne : e.name = nm
   ·simp only [hne, decide_true, Bool.not_true, Bool.false_eq_true, if_false, if_true, h3, Option.bind_some]
    cases e.items.find? (fun i => decide (i.name = it)) <;> rfl
   ·simp only [hne, decide_false, Bool.not_false, if_true, if_false])
  rw [this, ZbZ]
  congr 1
  clear this q2
  unfold ZnJ
  clear h hi
  induction L.enums with
  | nil => rfl
  | cons e l ih =>
   rw [List.findSome?_cons, List.findSome?_cons]
   by_cases hne : e.name = nm
   ·simp only [hne, if_true]
    cases e.items.find? (fun i => decide (i.name = it)) with
    | some n => rfl
    | none => exact ih
   ·simp only [hne, if_false]
    exact ih
 unfold Za8
 simp only [Zzx, ZxT, ZyF, vw, lr, lc, lf, q1, Option.bind_some]
 cases ZnJ L.enums nm it <;> rfl
def ZeH (known msgs : List ByteArray) (space s : ByteArray) : ByteArray × Int := if (Zki space s known).2 = false then (⟨#[]⟩, 8) else if ZgY msgs (Zki space s known).1 = false then (⟨#[]⟩, 12) else ((Zki space s known).1, 0)
theorem m58 (L : Lnk) (s : ByteArray) (h1 : L.f.space.size < 274877906944) (h2 : s.size < 274877906944) (h3 : L.known.length < 4611686018427387904) (h4 : L.messages.length < 4611686018427387904) : Zbm L s = some (ZeH L.known L.messages L.f.space s) := by
 unfold Zbm ZeH
 have e : ZaW L.messages (Zki L.f.space s L.known).1 = some (ZgY L.messages (Zki L.f.space s L.known).1) := m54 _ _ h4
 simp only [Zzs, vw, m92 L.f.space s L.known h1 h2 h3, e, Option.bind_some]
 cases (Zki L.f.space s L.known).2 <;> cases ZgY L.messages (Zki L.f.space s L.known).1 <;> rfl
def ZaN (fs : List Fil) : List Enm := fs.flatMap fun f => f.enums.map fun e => { e with name := ZaL f.space e.name }
def Zbr (known msgs : List ByteArray) (en : List Enm) (scope : ByteArray) (d : Fld) : Fld × Int :=
 if d.type.kind = 0 then
  if (Zki scope d.type.name known).2 = false then (d, 8)
  else if ZgY msgs (Zki scope d.type.name known).1 = true then
   (if d.hasDefault = true then (d, 12) else ({ d with type := ⟨10, (Zki scope d.type.name known).1⟩ }, 0))
  else match en.find? fun e => decide (e.name = (Zki scope d.type.name known).1) with
   | none => (d, 12)
   | some e => if d.hasDefault = false then ({ d with type := ⟨9, (Zki scope d.type.name known).1⟩ }, 0)
    else if d.dflt.kind ≠ 9 then (d, 12)
    else match e.items.find? fun i => decide (i.name = d.dflt.text) with
     | none => (d, 16)
     | some i => ({ d with type := ⟨9, (Zki scope d.type.name known).1⟩, dflt := .mk 9 (IntKind.u64.wrap i.num) ⟨#[]⟩ [] [] [] [] }, 0)
 else if d.hasDefault = false then (d, 0)
 else if d.dflt.kind ≠ d.type.kind then (d, 12) else (d, 0)
theorem ZpS {en : List Enm} (hu : en.Pairwise fun a b => a.name ≠ b.name) (nm it : ByteArray) : ZnJ en nm it = (en.find? fun e => decide (e.name = nm)).bind fun e => (e.items.find? fun i => decide (i.name = it)).map fun i => IntKind.u64.wrap i.num := by
 unfold ZnJ
 induction en with
 | nil => rfl
 | cons e l ih =>
  rw [List.findSome?_cons, List.find?_cons]
  have hl := List.pairwise_cons.1 hu
  by_cases hne : e.name = nm
  ·simp only [hne, decide_true, if_true, Option.bind_some]
   cases (e.items.find? fun i => decide (i.name = it)) with
   | some i => rfl
   | none =>
    have : ∀ l : List Enm, (∀ b ∈ l, nm ≠ b.name) → (l.findSome? fun e => if e.name = nm then (e.items.find? fun i => decide (i.name = it)).map fun i => IntKind.u64.wrap i.num else none) = none := fun l h => by
     rw [List.findSome?_eq_none_iff]
     intro b hb
     rw [if_neg fun q => h b hb q.symm]
    exact this l fun b hb => hne ▸ hl.1 b hb
  ·simp only [hne, decide_false, if_false]
   exact ih hl.2
end Go.Proofs.Ythagpbkmakocjaa
namespace Go.Proofs.Ythagpbkmakocjaa
set_option linter.all false
open Go Go.Eng
theorem Zte {α : Type} (l : List α) (p : α → Bool) : l.any p = (l.find? p).isSome := by
 induction l with
 | nil => rfl
 | cons x l ih =>
  rw [List.any_cons, List.find?_cons]
  cases p x with
  | true => rfl
  | false => simpa using ih
theorem m56 (L : Lnk) (scope : ByteArray) (d : Fld) (h1 : scope.size < 274877906944) (h2 : d.type.name.size < 274877906944) (h3 : L.known.length < 4611686018427387904) (h4 : L.messages.length < 4611686018427387904) (h5 : L.enums.length < 4611686018427387904) (h6 : ∀ e ∈ L.enums, e.items.length < 4611686018427387904) (hu : L.enums.Pairwise fun a b => a.name ≠ b.name) :
  ∃ y, Zbw L scope d = some (y, (Zbr L.known L.messages L.enums scope d).2) ∧ ((Zbr L.known L.messages L.enums scope d).2 = 0 → y = (Zbr L.known L.messages L.enums scope d).1) := by
 have e : ∀ x, ZaW L.messages x = some (ZgY L.messages x) := fun x => m54 _ _ h4
 have e2 : ∀ x, Zbc L x = some (L.enums.find? fun e => decide (e.name = x)).isSome := fun x => by rw [m93 L x h5, Zte]
 unfold Zbw Zbr
 simp only [Zw2, vw, m92 scope d.type.name L.known h1 h2 h3, e, e2, m94 L _ _ h5 h6, ZpS hu, Option.bind_some]
 generalize Zki scope d.type.name L.known = r
 obtain ⟨full, ok⟩ := r
 by_cases hk : d.type.kind = 0
 ·simp only [hk, decide_true, if_true, Bool.true_or, Bool.true_and]
  cases ok with
  | false => exact ⟨_, rfl, fun h => by cases h⟩
  | true =>
   simp only [Bool.not_true, Bool.false_eq_true, if_false, Bool.true_eq_false]
   cases ZgY L.messages full with
   | true =>
    simp only [if_true]
    cases d.hasDefault with
    | false => exact ⟨_, rfl, fun _ => rfl⟩
    | true => exact ⟨_, rfl, fun h => by cases h⟩
   | false =>
    simp only [Bool.false_eq_true, if_false]
    cases hf : L.enums.find? fun e => decide (e.name = full) with
    | none => exact ⟨_, rfl, fun h => by cases h⟩
    | some en =>
     simp only [Option.isSome_some, if_true, Option.bind_some]
     cases d.hasDefault with
     | false => exact ⟨_, rfl, fun _ => rfl⟩
     | true =>
      simp only [Bool.not_true, Bool.false_eq_true, if_false, Bool.true_eq_false]
      by_cases h9 : d.dflt.kind = 9
      ·simp only [h9, decide_true, Bool.not_true, Bool.false_eq_true, if_false, ne_eq, not_true_eq_false]
       cases en.items.find? fun i => decide (i.name = d.dflt.text) with
       | none => exact ⟨_, rfl, fun h => by cases h⟩
       | some i => exact ⟨_, rfl, fun _ => rfl⟩
      ·simp only [h9, decide_false, Bool.not_false, if_true, ne_eq, not_false_eq_true]
       exact ⟨_, rfl, fun h => by cases h⟩
 ·simp only [hk, decide_false, Bool.false_eq_true, if_false, Bool.false_or, Bool.false_and]
  cases d.hasDefault with
  | false => exact ⟨_, rfl, fun _ => rfl⟩
  | true =>
   simp only [Bool.not_true, Bool.false_eq_true, if_false, Bool.true_eq_false]
   by_cases h9 : d.dflt.kind = d.type.kind
   ·simp only [h9, decide_true, Bool.not_true, Bool.false_eq_true, if_false, ne_eq, not_true_eq_false]
    exact ⟨_, rfl, fun _ => rfl⟩
   ·simp only [h9, decide_false, Bool.not_false, if_true, ne_eq, not_false_eq_true]
    exact ⟨_, rfl, fun h => by cases h⟩
end Go.Proofs.Ythagpbkmakocjaa
namespace Go.Proofs.Ythagpbkmakocjaa
set_option linter.all false
open Go Go.Eng
structure SzG (f : Fil) : Prop where
 fl : ∀ m ∈ f.messages, m.fields.length < 2147483648
 ft : ∀ m ∈ f.messages, ∀ d ∈ m.fields, d.type.name.size < 2147483648
 ml : ∀ v ∈ f.services, v.methods.length < 2147483648
 mi : ∀ v ∈ f.services, ∀ d ∈ v.methods, d.inn.size < 2147483648 ∧ d.out.size < 2147483648
 ei : ∀ e ∈ f.enums, e.items.length < 2147483648
theorem ZeV {α ρ τ : Type} {R : List α → α → Option ρ} {g : ρ → τ} {k : α → Option τ} (h : ∀ p x, (R p x).map g = k x) : ∀ (l p : List α), (Za5 R p l).map g = l.findSome? k
 | [], p => rfl
 | x :: l, p => by
  rw [Za5, List.findSome?_cons, ← h p x]
  cases R p x with
  | some r => rfl
  | none => exact ZeV h l _
theorem Zeh {α ρ : Type} {R : List α → α → Option ρ} {r : ρ} : ∀ {l p : List α}, Za5 R p l = some r → ∃ q x, R q x = some r
 | [], p, h => by cases h
 | x :: l, p, h => by
  rw [Za5] at h
  cases hr : R p x with
  | some r' => rw [hr] at h; cases h; exact ⟨p, x, hr⟩
  | none => rw [hr] at h; exact Zeh h
def ZrF {α β : Type} (g : α → β × Int) (l : List α) : Option Int := l.findSome? fun x => if (g x).2 = 0 then none else some (g x).2
theorem ZiM {α β : Type} {g : α → β × Int} {l : List α} (h : ZrF g l = none) {x : α} (hx : x ∈ l) : (g x).2 = 0 := by
 have := List.findSome?_eq_none_iff.1 h x hx
 split at this
 ·assumption
 ·cases this
theorem Zqm {α β : Type} {g : α → β × Int} {l : List α} {c : Int} (h : ZrF g l = some c) : c ≠ 0 := by
 obtain ⟨x, _, hx⟩ := List.exists_of_findSome?_eq_some h
 split at hx
 ·cases hx
 ·rename_i h0; cases hx; exact h0
def Zvb (known msgs : List ByteArray) (en : List Enm) (space : ByteArray) (m : Msg) : Msg × Int := match ZrF (Zbr known msgs en (ZaL space m.name)) m.fields with
 | some c => (m, c)
 | none => ({ m with name := ZaL space m.name, fields := m.fields.map fun d => (Zbr known msgs en (ZaL space m.name) d).1 }, 0)
theorem ZoQ {α : Type} {l : List α} {i : Nat} {x : α} (h : l[i]? = some x) : l.drop i = x :: l.drop (i + 1) := by
 obtain ⟨h1, rfl⟩ := List.getElem?_eq_some_iff.1 h
 exact List.drop_eq_getElem_cons h1
theorem Zv3 {α : Type} {l : List α} {i : Nat} {x : α} (g : α → α) (h : l[i]? = some x) : ((l.take i).map g ++ l.drop i)[i]? = some x ∧ ((l.take i).map g ++ l.drop i).length = l.length ∧ ∀ y, y = g x → ((l.take i).map g ++ l.drop i).set i y = (l.take i ++ [x]).map g ++ l.drop (i + 1) := by
 have hl := (List.getElem?_eq_some_iff.1 h).1
 have e : ((l.take i).map g).length = i := by rw [List.length_map, List.length_take]; omega
 refine ⟨?_, ?_, fun y hy => ?_⟩
 ·rw [ZoQ h, List.getElem?_append_right (by omega), e, Nat.sub_self]; rfl
 ·rw [List.length_append, e, List.length_drop]; omega
 ·rw [ZoQ h, List.set_append_right _ _ (by omega), e, Nat.sub_self, hy]
  simp
theorem m55 (l : List Fld) (h : l.length < 549755813888) : ZcE l = some l := by
 unfold ZcE
 simp only [ZzV, al, Bool.false_eq_true, if_false, h, if_true]
theorem m57 (l : List Mth) (h : l.length < 549755813888) : Zco l = some l := by
 unfold Zco
 simp only [Zxb, al, Bool.false_eq_true, if_false, h, if_true]
theorem m28 (L : Lnk) (m : Msg) (h1 : L.f.space.size < 2147483648) (h0 : m.name.size < 2147483648) (hl : m.fields.length < 2147483648) (h2 : ∀ d ∈ m.fields, d.type.name.size < 2147483648) (h3 : L.known.length < 4611686018427387904) (h4 : L.messages.length < 4611686018427387904) (h5 : L.enums.length < 4611686018427387904) (h6 : ∀ e ∈ L.enums, e.items.length < 4611686018427387904) (hu : L.enums.Pairwise fun a b => a.name ≠ b.name) :
  ∃ y, Za2 L m = some (y, (Zvb L.known L.messages L.enums L.f.space m).2) ∧ y.name = ZaL L.f.space m.name ∧ ((Zvb L.known L.messages L.enums L.f.space m).2 = 0 → y = (Zvb L.known L.messages L.enums L.f.space m).1) := by
 have hj := Zhz L.f.space m.name
 have e0 := m25 L.f.space m.name (by omega) (by omega)
 generalize hsc : ZaL L.f.space m.name = sc at *
 have q := ZbW (B := Zqp L m sc m.fields) (N := big) m.fields (fun p => p.map (fun d => (Zbr L.known L.messages L.enums sc d).1) ++ m.fields.drop p.length)
  (fun p d => if (Zbr L.known L.messages L.enums sc d).2 = 0 then none else some (Msg.mk sc (p.map (fun d => (Zbr L.known L.messages L.enums sc d).1) ++ m.fields.drop p.length) m.reserved m.gone m.notes, (Zbr L.known L.messages L.enums sc d).2)) (fun i c => (i, c)) (fun c => c) (hN := Zar (by omega)) (he := by simp [Zqp, Zub, br]) (hs := by
  intro i d hd
  have g1 := (List.getElem?_eq_some_iff.1 hd).1
  have g2 : i + 1 < 9223372036854775808 := by omega
  obtain ⟨r1, r2, r3⟩ := Zv3 (fun d => (Zbr L.known L.messages L.enums sc d).1) hd
  obtain ⟨y, hy1, hy2⟩ := m56 L sc d (by omega) (by have := h2 d (List.mem_of_getElem? hd); omega) h3 h4 h5 h6 hu
  have e1 : (m.fields.take i).length = i := by rw [List.length_take]; omega
  have e2 : (m.fields.take i ++ [d]).length = i + 1 := by rw [List.length_append, e1]; rfl
  simp only [Zqp, Zub, br, e1, e2, g1, g2, r1, r2, hy1, Option.bind_some, Int.ofNat_lt, decide_true, if_true]
  by_cases hc : (Zbr L.known L.messages L.enums sc d).2 = 0
  ·have := r3 y (hy2 hc)
   simp only [hc, decide_true, Bool.not_true, Bool.false_eq_true, if_false, if_true, this]
  ·simp only [hc, decide_false, Bool.not_false, if_true, if_false])
 rw [List.map_nil, List.nil_append, List.length_nil, List.drop_zero] at q
 unfold Za2 Zvb
 rw [hsc]
 simp only [Zxk, ZwI, ZzP, ZwG, Zym, vw, e0, m55 m.fields (by omega), Option.bind_some, q]
 have hm := ZeV (R := fun p d => if (Zbr L.known L.messages L.enums sc d).2 = 0 then none else some (Msg.mk sc (p.map (fun d => (Zbr L.known L.messages L.enums sc d).1) ++ m.fields.drop p.length) m.reserved m.gone m.notes, (Zbr L.known L.messages L.enums sc d).2)) (g := fun r => r.2) (k := fun d => if (Zbr L.known L.messages L.enums sc d).2 = 0 then none else some (Zbr L.known L.messages L.enums sc d).2) (fun p x => by split <;> rfl) m.fields []
 cases hf : Za5 (fun p d => if (Zbr L.known L.messages L.enums sc d).2 = 0 then none else some (Msg.mk sc (p.map (fun d => (Zbr L.known L.messages L.enums sc d).1) ++ m.fields.drop p.length) m.reserved m.gone m.notes, (Zbr L.known L.messages L.enums sc d).2)) [] m.fields with
 | none =>
  rw [hf] at hm
  have hz : ZrF (Zbr L.known L.messages L.enums sc) m.fields = none := hm.symm
  rw [hz]
  simp only [Option.elim, Sum.elim_inl, List.length_map, List.drop_length, if_true, List.append_nil]
  exact ⟨_, rfl, rfl, fun _ => rfl⟩
 | some r =>
  rw [hf] at hm
  have hz : ZrF (Zbr L.known L.messages L.enums sc) m.fields = some r.2 := hm.symm
  rw [hz]
  have hne := Zqm hz
  obtain ⟨p, x, hx⟩ := Zeh hf
  split at hx
  ·cases hx
  ·cases hx
   exact ⟨_, rfl, rfl, fun h => absurd h hne⟩
def ZeO (known msgs : List ByteArray) (space : ByteArray) (d : Mth) : Mth × Int :=
 if (ZeH known msgs space d.inn).2 ≠ 0 then (d, (ZeH known msgs space d.inn).2)
 else if (ZeH known msgs space d.out).2 ≠ 0 then (d, (ZeH known msgs space d.out).2)
 else ({ d with inn := (ZeH known msgs space d.inn).1, out := (ZeH known msgs space d.out).1 }, 0)
def ZrP (known msgs : List ByteArray) (space : ByteArray) (v : Svc) : Svc × Int := match ZrF (ZeO known msgs space) v.methods with
 | some c => (v, c)
 | none => ({ v with name := ZaL space v.name, methods := v.methods.map fun d => (ZeO known msgs space d).1 }, 0)
theorem m29 (L : Lnk) (v : Svc) (h1 : L.f.space.size < 2147483648) (h0 : v.name.size < 2147483648) (hl : v.methods.length < 2147483648) (h2 : ∀ d ∈ v.methods, d.inn.size < 2147483648 ∧ d.out.size < 2147483648) (h3 : L.known.length < 4611686018427387904) (h4 : L.messages.length < 4611686018427387904) :
  ∃ y, Za3 L v = some (y, (ZrP L.known L.messages L.f.space v).2) ∧ y.name = ZaL L.f.space v.name ∧ ((ZrP L.known L.messages L.f.space v).2 = 0 → y = (ZrP L.known L.messages L.f.space v).1) := by
 have hj := Zhz L.f.space v.name
 have e0 := m25 L.f.space v.name (by omega) (by omega)
 generalize hsc : ZaL L.f.space v.name = sc at *
 have q := ZbW (B := Zpq L v sc v.methods) (N := big) v.methods (fun p => p.map (fun d => (ZeO L.known L.messages L.f.space d).1) ++ v.methods.drop p.length)
  (fun p d => if (ZeO L.known L.messages L.f.space d).2 = 0 then none else some (Svc.mk sc (p.map (fun d => (ZeO L.known L.messages L.f.space d).1) ++ v.methods.drop p.length) v.notes, (ZeO L.known L.messages L.f.space d).2)) (fun i c => (i, c)) (fun c => c) (hN := Zar (by omega)) (he := by simp [Zpq, Zu5, br]) (hs := by
  intro i d hd
  have g1 := (List.getElem?_eq_some_iff.1 hd).1
  have g2 : i + 1 < 9223372036854775808 := by omega
  obtain ⟨r1, r2, r3⟩ := Zv3 (fun d => (ZeO L.known L.messages L.f.space d).1) hd
  have g3 := h2 d (List.mem_of_getElem? hd)
  have s1 := m58 L d.inn (by omega) (by omega) h3 h4
  have s2 := m58 L d.out (by omega) (by omega) h3 h4
  have e1 : (v.methods.take i).length = i := by rw [List.length_take]; omega
  have e2 : (v.methods.take i ++ [d]).length = i + 1 := by rw [List.length_append, e1]; rfl
  have r4 : i < ((v.methods.take i).map (fun d => (ZeO L.known L.messages L.f.space d).1) ++ v.methods.drop i).length := by omega
  simp only [Zpq, Zu5, br, e1, e2, g1, g2, r1, r2, s1, s2, Option.bind_some, Int.ofNat_lt, decide_true, if_true]
  by_cases hc : (ZeH L.known L.messages L.f.space d.inn).2 = 0
  ·by_cases hc2 : (ZeH L.known L.messages L.f.space d.out).2 = 0
   ·have hm : ZeO L.known L.messages L.f.space d = ({ d with inn := (ZeH L.known L.messages L.f.space d.inn).1, out := (ZeH L.known L.messages L.f.space d.out).1 }, 0) := by unfold ZeO; simp [hc, hc2]
    have := r3 _ rfl
    simp only [hm] at this
    simp only [hc, hc2, hm, decide_true, Bool.not_true, Bool.false_eq_true, if_false, if_true, List.getElem?_set_self r4, Option.bind_some, List.set_set, this]
   ·have hm : ZeO L.known L.messages L.f.space d = (d, (ZeH L.known L.messages L.f.space d.out).2) := by unfold ZeO; simp [hc, hc2]
    simp only [hc, hc2, hm, decide_true, decide_false, Bool.not_true, Bool.not_false, Bool.false_eq_true, if_false, if_true]
  ·have hm : ZeO L.known L.messages L.f.space d = (d, (ZeH L.known L.messages L.f.space d.inn).2) := by unfold ZeO; simp [hc]
   simp only [hc, hm, decide_false, Bool.not_false, if_true, if_false])
 rw [List.map_nil, List.nil_append, List.length_nil, List.drop_zero] at q
 unfold Za3 ZrP
 rw [hsc]
 simp only [Zys, ZAz, ZyG, ZAs, ZxK, vw, e0, m57 v.methods (by omega), Option.bind_some, q]
 have hm := ZeV (R := fun p d => if (ZeO L.known L.messages L.f.space d).2 = 0 then none else some (Svc.mk sc (p.map (fun d => (ZeO L.known L.messages L.f.space d).1) ++ v.methods.drop p.length) v.notes, (ZeO L.known L.messages L.f.space d).2)) (g := fun r => r.2) (k := fun d => if (ZeO L.known L.messages L.f.space d).2 = 0 then none else some (ZeO L.known L.messages L.f.space d).2) (fun p x => by split <;> rfl) v.methods []
 cases hf : Za5 (fun p d => if (ZeO L.known L.messages L.f.space d).2 = 0 then none else some (Svc.mk sc (p.map (fun d => (ZeO L.known L.messages L.f.space d).1) ++ v.methods.drop p.length) v.notes, (ZeO L.known L.messages L.f.space d).2)) [] v.methods with
 | none =>
  rw [hf] at hm
  have hz : ZrF (ZeO L.known L.messages L.f.space) v.methods = none := hm.symm
  rw [hz]
  simp only [Option.elim, Sum.elim_inl, List.length_map, List.drop_length, if_true, List.append_nil]
  exact ⟨_, rfl, rfl, fun _ => rfl⟩
 | some r =>
  rw [hf] at hm
  have hz : ZrF (ZeO L.known L.messages L.f.space) v.methods = some r.2 := hm.symm
  rw [hz]
  have hne := Zqm hz
  obtain ⟨p, x, hx⟩ := Zeh hf
  split at hx
  ·cases hx
  ·cases hx
   exact ⟨_, rfl, rfl, fun h => absurd h hne⟩
end Go.Proofs.Ythagpbkmakocjaa
namespace Go.Proofs.Ythagpbkmakocjaa
set_option linter.all false
open Go Go.Eng
def Ztz {α β : Type} (g : α → β × Int) (nm : α → ByteArray) (l : List α) : Option (ByteArray × Int) := l.findSome? fun x => if (g x).2 = 0 then none else some (nm x, (g x).2)
theorem ZjK {α β τ : Type} (g : α → β × Int) (nm : α → ByteArray) (F : ByteArray → Int → τ) (l : List α) : (l.findSome? fun x => if (g x).2 = 0 then none else some (F (nm x) (g x).2)) = (Ztz g nm l).map fun r => F r.1 r.2 := by
 unfold Ztz
 induction l with
 | nil => rfl
 | cons x l ih =>
  rw [List.findSome?_cons, List.findSome?_cons]
  by_cases h : (g x).2 = 0
  ·simp only [h, if_true]; exact ih
  ·simp only [h, if_false]; rfl
theorem Zq4 {α β : Type} {g : α → β × Int} {nm : α → ByteArray} {l : List α} {c : ByteArray × Int} (h : Ztz g nm l = some c) : c.2 ≠ 0 := by
 obtain ⟨x, _, hx⟩ := List.exists_of_findSome?_eq_some h
 split at hx
 ·cases hx
 ·rename_i h0; cases hx; exact h0
structure Base0 (fs : List Fil) : Prop where
 a : SzA fs
 g : ∀ f ∈ fs, SzG f
 i : ∀ f ∈ fs, Zhq fs f
 d : ∀ x, ZgY (ZaP fs) x = true → ZmV fs x = none
 u : (ZaN fs).Pairwise fun a b => a.name ≠ b.name
def mS (fs : List Fil) (f : Fil) : Msg → Msg × Int := Zvb (Zeb fs f) (ZaP fs) (ZaN fs) f.space
def vS' (fs : List Fil) (f : Fil) : Svc → Svc × Int := ZrP (Zeb fs f) (ZaP fs) f.space
def ZBV (fs : List Fil) (f : Fil) : Option (ByteArray × Int) := Ztz (mS fs f) (fun m => ZaL f.space m.name) f.messages
def ZCo (fs : List Fil) (f : Fil) : Option (ByteArray × Int) := Ztz (vS' fs f) (fun v => ZaL f.space v.name) f.services
theorem Zpl {fs : List Fil} (h : Base0 fs) {f : Fil} (hf : f ∈ fs) : (Zeb fs f).length ≤ 274878955520 := by
 have := ZmK h.a hf (h.i f hf) (i := f.imports.length)
 rwa [List.take_length] at this
def ZiU (fs : List Fil) (f : Fil) : Option (ByteArray × Int) := (ZBV fs f).or (ZCo fs f)
end Go.Proofs.Ythagpbkmakocjaa
