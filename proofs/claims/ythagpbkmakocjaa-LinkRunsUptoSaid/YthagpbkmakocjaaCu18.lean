import Derived.Test.YthagpbkmakocjaaCu17
namespace Go.Proofs.Ythagpbkmakocjaa
set_option linter.all false
open Go Go.Eng
theorem sq4 (a b : Nat) : 4 * (a * b) ≤ (a + b) * (a + b) := by
 rcases Nat.le_total a b with h | h
 ·obtain ⟨d, rfl⟩ := Nat.le.dest h
  have h1 : (a + (a + d)) * (a + (a + d)) = 4 * (a * (a + d)) + d * d := by
   simp only [Nat.mul_add, Nat.add_mul, Nat.mul_comm d a]; omega
  omega
 ·obtain ⟨d, rfl⟩ := Nat.le.dest h
  have h1 : (b + d + b) * (b + d + b) = 4 * ((b + d) * b) + d * d := by
   simp only [Nat.mul_add, Nat.add_mul, Nat.mul_comm d b]; omega
  omega
theorem ZMi {a b : Nat} (h : a + b ≤ 1048576) : a * b ≤ 274877906944 := by
 have h1 := sq4 a b
 have h2 : (a + b) * (a + b) ≤ 1048576 * 1048576 := Nat.mul_le_mul h h
 omega
theorem ZAh {α : Type} (f : α → Nat) (c : Nat) : ∀ l : List α, (∀ x ∈ l, f x ≤ c) → (l.map f).sum ≤ l.length * c
 | [], _ => by simp
 | x :: l, h => by
  have h1 := ZAh f c l fun y hy => h y (List.mem_cons_of_mem _ hy)
  have h2 := h x (List.mem_cons_self ..)
  simp only [List.map_cons, List.sum_cons, List.length_cons, Nat.add_mul, Nat.one_mul]
  omega
def Zcr (fs : List Fil) (s : ByteArray) : Fil := fs.getD (ixP fs fun y => decide (y.name = s)).toNat ZfW
theorem Zg2 {fs : List Fil} {s : ByteArray} (h : 0 ≤ ixP fs fun y => decide (y.name = s)) : fs[(ixP fs fun y => decide (y.name = s)).toNat]? = some (Zcr fs s) ∧ (Zcr fs s).name = s ∧ Zcr fs s ∈ fs := by
 obtain ⟨i, x, h1, h2, h3, _⟩ := Zm4 h
 have : Zcr fs s = x := by unfold Zcr; rw [h1, List.getD_eq_getElem?_getD, Int.toNat_natCast, h2]; rfl
 rw [this, h1, Int.toNat_natCast]
 exact ⟨h2, by simpa using h3, List.mem_of_getElem? h2⟩
def Zl1 (fs : List Fil) (f : Fil) (p : List ByteArray) : List ByteArray := ZaC f ++ p.flatMap fun s => ZaC (Zcr fs s)
theorem Zki (fs : List Fil) (f : Fil) (p : List ByteArray) (s : ByteArray) : Zl1 fs f (p ++ [s]) = Zl1 fs f p ++ ZaC (Zcr fs s) := by simp [Zl1]
theorem ZeQ {α β : Type} (f : α → List β) : ∀ l : List α, (l.flatMap f).length = (l.map fun x => (f x).length).sum
 | [] => rfl
 | x :: l => by rw [List.flatMap_cons, List.length_append, ZeQ f l]; rfl
def Zd3 (fs : List Fil) (f : Fil) : Prop := ∀ s ∈ f.imports, 0 ≤ ixP fs fun y => decide (y.name = s)
theorem Zi4 {fs : List Fil} {f : Fil} (h : SzA fs) (hf : f ∈ fs) (hF : Zd3 fs f) {i : Nat} : (Zl1 fs f (f.imports.take i)).length ≤ 274878955520 := by
 unfold Zl1
 rw [List.length_append, Zdc, ZeQ]
 have h0 := h.i f hf f hf
 have h1 := ZiE (fun s => (ZaC (Zcr fs s)).length) f.imports i
 have h2 := ZAh (fun s => (ZaC (Zcr fs s)).length) (1048576 - f.imports.length) f.imports fun s hs => by
  have := h.i (Zcr fs s) (Zg2 (hF s hs)).2.2 f hf
  simp only [Zdc]
  omega
 have h3 := ZMi (a := f.imports.length) (b := 1048576 - f.imports.length) (by omega)
 omega
def ZaX (fs : List Fil) (f : Fil) : List ByteArray := Zl1 fs f f.imports
theorem m27 (fs : List Fil) (f : Fil) (h : SzA fs) (hf : f ∈ fs) (hF : Zd3 fs f) : Zds fs f = some (ZaX fs f) := by
 have hn := h.n
 have hz := h.f f hf
 have hi := hz.is
 have hl : f.imports.length + tot f ≤ 1048576 := h.i f hf f hf
 have cc : ∀ g : Fil, SzF g → tot g ≤ 1048576 → ZaV [ZdJ g, Zfj g, Znr g] = some (ZaC g) := fun g hg ht => by
  have h6 : tot g = g.messages.length + g.enums.length + g.services.length := rfl
  rw [m47 _ (by simp only [List.map_cons, List.map_nil, List.sum_cons, List.sum_nil, Zc0, ZeC, Zer]; omega) (by simp)]
  simp [ZaC]
 have q1 : Zab (ZoU fs f) big (ZaC f, 0) = some (.inl (ZaX fs f)) := by
  have := Zbb (B := ZoU fs f) (N := big) f.imports (Zl1 fs f) (fun i b => (b, i)) id (hN := Zaf (by omega)) (he := by simp [ZoU, Zwy, ZyR, ZuK, Zxl, Zyi, br, ix, vz, vw, vs]) (hs := by
   intro i x hx
   obtain ⟨e1, e2, e3⟩ := Zg2 (hF x (List.mem_of_getElem? hx))
   have g0 := hF x (List.mem_of_getElem? hx)
   have g1 := Zi4 h hf hF (i := i)
   have g2 := h.f _ e3
   have g3 := h.i _ e3 f hf
   have g4 := m51 fs x (by omega)
   have g5 := m24 _ g2
   have g6 : ZaV [Zl1 fs f (f.imports.take i), ZdJ (Zcr fs x), Zfj (Zcr fs x), Znr (Zcr fs x)] = some (Zl1 fs f (f.imports.take i ++ [x])) := by
    have h6 : tot (Zcr fs x) = (Zcr fs x).messages.length + (Zcr fs x).enums.length + (Zcr fs x).services.length := rfl
    rw [m47 _ (by simp only [List.map_cons, List.map_nil, List.sum_cons, List.sum_nil, Zc0, ZeC, Zer]; omega) (by simp), Zki]
    simp [ZaC]
   obtain ⟨h1, rfl⟩ := List.getElem?_eq_some_iff.1 hx
   have h2 : i + 1 < 9223372036854775808 := by omega
   simp only [ZoU, Zwy, ZyR, ZuK, Zxl, Zyi, br, ix, vz, vw, vs]
   simp only [h1, h2, g0, e1, g4, g5, g6, Option.bind_some, decide_true, if_true, Int.ofNat_lt, hx])
  have e : Zl1 fs f [] = ZaC f := by simp [Zl1]
  rw [e] at this
  exact this
 unfold Zds
 simp only [ZAD, ZB3, ZBT, ZBL, ZtZ, Zq5, vz, vw, lr, lf, m24 f hz, cc f hz (by omega), q1, Option.bind_some, Sum.elim_inl]
theorem m68 (fs : List Fil) (f : Fil) (h : SzA fs) (hf : f ∈ fs) (hF : Zd3 fs f) : ZbX fs f = some (ZaX fs f) := by
 have hn := h.n
 have hz := h.f f hf
 have hi := hz.is
 have hl : f.imports.length + tot f ≤ 1048576 := h.i f hf f hf
 have q2 : ∀ (v : Nat) (l b : List ByteArray), l.length ≤ 1048576 → b.length + l.length < 549755813888 → Zab (Zpk fs f v l) big (b, 0) = some (.inl (b ++ l)) := fun v l b hl hb => by
  have := ZcO (B := Zpk fs f v l) (N := big) l (fun x => x) b (hN := Zaf (by omega)) (he := by intro b; simp [Zpk, Zxn, br]) (hs := by
   intro i c x hx hc
   obtain ⟨h1, rfl⟩ := List.getElem?_eq_some_iff.1 hx
   have h2 : i + 1 < 9223372036854775808 := by omega
   have h5 : c.length < 549755813887 := by omega
   simp [Zpk, Zxn, br, h1, h2, h5])
  rw [List.map_id'] at this
  exact this
 have q1 : Zab (Zoy fs f) big (ZaC f, 0) = some (.inl (ZaX fs f)) := by
  have := Zbb (B := Zoy fs f) (N := big) f.imports (Zl1 fs f) (fun i b => (b, i)) id (hN := Zaf (by omega)) (he := by simp [Zoy, Zy1, ZuE, Zvp, br, ix, vs]) (hs := by
   intro i x hx
   obtain ⟨e1, e2, e3⟩ := Zg2 (hF x (List.mem_of_getElem? hx))
   have g0 := hF x (List.mem_of_getElem? hx)
   have g1 := Zi4 h hf hF (i := i)
   have g2 := h.f _ e3
   have g3 := h.i _ e3 f hf
   have g4 := m66 fs x (by omega)
   have g5 : Zbe (Zcr fs x) = some (ZaC (Zcr fs x)) := m50 _ g2
   have g6 := q2 i (ZaC (Zcr fs x)) (Zl1 fs f (f.imports.take i)) (by rw [Zdc]; omega) (by rw [Zdc]; omega)
   rw [← Zki] at g6
   obtain ⟨h1, rfl⟩ := List.getElem?_eq_some_iff.1 hx
   have h2 : i + 1 < 9223372036854775808 := by omega
   simp only [Zoy, Zy1, ZuE, Zvp, br, ix, vs]
   simp only [h1, h2, g0, e1, g4, g5, g6, Option.bind_some, decide_true, if_true, Int.ofNat_lt, hx, Sum.elim_inl])
  have e : Zl1 fs f [] = ZaC f := by simp [Zl1]
  rw [e] at this
  exact this
 unfold ZbX
 have e0 : Za2 f = some (ZaC f) := ZPx _ hz
 simp only [ZB7, ZCO, ZDp, ZEi, ZAN, vz, vw, lc, e0, q1, Option.bind_some, Sum.elim_inl]
end Go.Proofs.Ythagpbkmakocjaa
namespace Go.Proofs.Ythagpbkmakocjaa
set_option linter.all false
open Go Go.Eng
def Zo6 (s : ByteArray) : Nat → Option Nat
 | 0 => none
 | n + 1 => if ((s.data.toList.getD n 0).toNat : Int) = 46 then some n else Zo6 s n
theorem Zlp {s : ByteArray} : ∀ {n i : Nat}, Zo6 s n = some i → i < n
 | 0, i, h => by cases h
 | n + 1, i, h => by
  unfold Zo6 at h
  split at h
  ·cases h; omega
  ·have := Zlp h; omega
theorem ZzT (s : ByteArray) (hs : s.size < 4611686018427387904) : ∀ (n N : Nat), n ≤ s.size → n < N → Zab (ZkF s 46) N ((n : Int) - 1) = some (match Zo6 s n with | some i => .inr (i : Int) | none => .inl ())
 | 0, N, _, hN => by
  obtain ⟨N, rfl⟩ : ∃ m, N = m + 1 := ⟨N - 1, by omega⟩
  rw [Zab]
  simp only [ZkF, ZmU, br]
  rfl
 | n + 1, N, hn, hN => by
  obtain ⟨N, rfl⟩ : ∃ m, N = m + 1 := ⟨N - 1, by omega⟩
  have ih := ZzT s hs n N (by omega) (by omega)
  have h1 : n < s.data.toList.length := by simpa using (show n < s.size by omega)
  rw [Zab, Zo6]
  have e : ((n + 1 : Nat) : Int) - 1 = (n : Int) := by omega
  have g1 : (0 : Int) ≤ (n : Int) := by omega
  have g2 : ((n : Int)).toNat = n := by omega
  have g3 : -9223372036854775808 ≤ (n : Int) - 1 ∧ (n : Int) - 1 < 9223372036854775808 := by omega
  have g4 : (n : Int) < (s.size : Int) := by omega
  have g5 : s.data.toList[n]? = some (s.data.toList.getD n 0) := by rw [List.getD_eq_getElem?_getD, List.getElem?_eq_getElem h1]; rfl
  simp only [ZkF, ZmU, br, e, g1, g2, g3, g4, decide_true, if_true, and_self]
  by_cases hd : ((s.data.toList.getD n 0).toNat : Int) = 46
  ·simp only [hd, decide_true, if_true]
  ·simp only [hd, decide_false, Bool.false_eq_true, if_false]
   exact ih
theorem ZOn (s : ByteArray) (hs : s.size < 4611686018427387904) : ZbY s 46 = some (match Zo6 s s.size with | some i => (i : Int) | none => -1) := by
 have g3 : -9223372036854775808 ≤ (s.size : Int) - 1 ∧ (s.size : Int) - 1 < 9223372036854775808 := by omega
 unfold ZbY
 simp only [ZtV, vz, lr, lc, lf, cl, Zb3, ZsR, Zr1, ZqJ, g3, and_self, if_true, ZzT s hs s.size big (Nat.le_refl _) (Zaf hs), Option.bind_some]
 cases Zo6 s s.size <;> rfl
def ZdG (s : ByteArray) : ByteArray × ByteArray := match Zo6 s s.size with
 | some i => (s.extract 0 i, s.extract (i + 1) s.size)
 | none => (⟨#[]⟩, s)
theorem ZOW (s : ByteArray) (hs : s.size < 4611686018427387904) : Zd0 s = some (ZdG s) := by
 unfold Zd0 ZdG
 simp only [Zsj, cl, Bd.c, Bd.vl, ZOn s hs, Option.bind_some]
 cases h : Zo6 s s.size with
 | none => rfl
 | some i =>
  have h1 := Zlp h
  have g1 : ¬ (i : Int) < 0 := by omega
  have g2 : (0 : Int) ≤ i := by omega
  have g3 : -9223372036854775808 ≤ (i : Int) + 1 ∧ (i : Int) + 1 < 9223372036854775808 := by omega
  have g4 : (0 : Int) ≤ (i : Int) + 1 := by omega
  have g5 : i ≤ s.size := by omega
  have g6 : ((i : Int) + 1).toNat = i + 1 := by omega
  have g7 : i + 1 ≤ s.size := by omega
  simp [g1, g2, g3, g4, g5, g6, g7]
theorem Zzn (s : ByteArray) (hs : s.size < 4611686018427387904) : ∀ (n N : Nat), n ≤ s.size → n < N → Zab (Zku s) N ((n : Int) - 1) = some (match Zo6 s n with | some i => .inr (s.extract 0 i, s.extract (i + 1) s.size) | none => .inl ())
 | 0, N, _, hN => by
  obtain ⟨N, rfl⟩ : ∃ m, N = m + 1 := ⟨N - 1, by omega⟩
  rw [Zab]
  simp only [Zku, ZmA, br, Bd.c, Bd.vl]
  rfl
 | n + 1, N, hn, hN => by
  obtain ⟨N, rfl⟩ : ∃ m, N = m + 1 := ⟨N - 1, by omega⟩
  have ih := Zzn s hs n N (by omega) (by omega)
  have h1 : n < s.data.toList.length := by simpa using (show n < s.size by omega)
  rw [Zab, Zo6]
  have e : ((n + 1 : Nat) : Int) - 1 = (n : Int) := by omega
  have g1 : (0 : Int) ≤ (n : Int) := by omega
  have g2 : ((n : Int)).toNat = n := by omega
  have g3 : -9223372036854775808 ≤ (n : Int) - 1 ∧ (n : Int) - 1 < 9223372036854775808 := by omega
  have g4 : (n : Int) < (s.size : Int) := by omega
  have g5 : s.data.toList[n]? = some (s.data.toList.getD n 0) := by rw [List.getD_eq_getElem?_getD, List.getElem?_eq_getElem h1]; rfl
  have g6 : -9223372036854775808 ≤ (n : Int) + 1 ∧ (n : Int) + 1 < 9223372036854775808 := by omega
  have g7 : (0 : Int) ≤ (n : Int) + 1 := by omega
  have g8 : ((n : Int) + 1).toNat = n + 1 := by omega
  have g9 : n ≤ s.size := by omega
  simp only [Zku, ZmA, br, Bd.c, Bd.vl, e, g1, g2, g3, g4, decide_true, if_true, and_self]
  by_cases hd : ((s.data.toList.getD n 0).toNat : Int) = 46
  ·simp only [hd, decide_true, if_true, g6, g7, g8, g9, hn, and_self, Nat.zero_le, Nat.le_refl]
  ·simp only [hd, decide_false, Bool.false_eq_true, if_false]
   exact ih
theorem ZPb (s : ByteArray) (hs : s.size < 4611686018427387904) : ZbW s = some (ZdG s) := by
 have g3 : -9223372036854775808 ≤ (s.size : Int) - 1 ∧ (s.size : Int) - 1 < 9223372036854775808 := by omega
 unfold ZbW ZdG
 simp only [Zqw, Zsn, Zt0, vz, lr, lc, lf, g3, and_self, if_true, Zzn s hs s.size big (Nat.le_refl _) (Zaf hs), Option.bind_some]
 cases Zo6 s s.size <;> rfl
theorem Zfs {s : ByteArray} (h : s ≠ ⟨#[]⟩) : (ZdG s).1.size < s.size := by
 have h0 : s.size ≠ 0 := fun e => h (by
  obtain ⟨d⟩ := s
  have : d = #[] := Array.eq_empty_of_size_eq_zero e
  rw [this])
 unfold ZdG
 cases hl : Zo6 s s.size with
 | none => exact Nat.pos_of_ne_zero h0
 | some i =>
  have := Zlp hl
  simp only [ByteArray.size_extract]
  omega
def upF : Nat → ByteArray → List ByteArray
 | 0, _ => []
 | n + 1, s => if s = ⟨#[]⟩ then [] else (ZdG s).1 :: upF n (ZdG s).1
theorem Zm5 : ∀ (n : Nat) (s : ByteArray), ∀ x ∈ upF n s, x.size ≤ s.size
 | 0, s, x, h => by cases h
 | n + 1, s, x, h => by
  unfold upF at h
  split at h
  ·cases h
  ·rename_i hs
   have := Zfs hs
   rcases List.mem_cons.1 h with rfl | h
   ·omega
   ·have := Zm5 n _ x h; omega
theorem Zsh : ∀ (n : Nat) (s : ByteArray), (upF n s).length ≤ n
 | 0, s => Nat.le_refl _
 | n + 1, s => by
  unfold upF
  split
  ·simp
  ·have := Zsh n (ZdG s).1
   simp only [List.length_cons]
   omega
def upB (s : ByteArray) : List ByteArray := s :: upF (s.size + 1) s
theorem ZmN {s x : ByteArray} (h : x ∈ upB s) : x.size ≤ s.size := by
 rcases List.mem_cons.1 h with rfl | h
 ·exact Nat.le_refl _
 ·exact Zm5 _ _ x h
theorem Zs4 (s : ByteArray) : (upB s).length ≤ s.size + 2 := by
 have := Zsh (s.size + 1) s
 simp only [upB, List.length_cons]
 omega
theorem Zzg : ∀ (n : Nat) (s : ByteArray) (r : List ByteArray) (N : Nat), s.size < n → n ≤ N → r.length + n < 549755813887 → Zab Zn6 N (s, r) = some (.inl (r ++ upF n s))
 | 0, s, r, N, h, _, _ => absurd h (Nat.not_lt_zero _)
 | n + 1, s, r, N, h, hN, hr => by
  obtain ⟨N, rfl⟩ : ∃ m, N = m + 1 := ⟨N - 1, by omega⟩
  have g1 := ZOW s (by omega)
  have g2 : r.length < 549755813887 := by omega
  rw [Zab, upF]
  simp only [Zn6, Zso, br, g1, g2, Option.bind_some, if_true]
  by_cases hs : s = ⟨#[]⟩
  ·simp [hs]
  ·have := Zfs hs
   have ih := Zzg n (ZdG s).1 (r ++ [(ZdG s).1]) N (by omega) (by omega) (by rw [List.length_append, List.length_singleton]; omega)
   simp only [hs, decide_false, Bool.not_false, if_true, if_false]
   rw [ih]
   simp
theorem ZN5 (s : ByteArray) (hs : s.size < 274877906944) : Zfr s = some (upB s) := by
 unfold Zfr upB
 simp only [Zst, ZsV, vz, vw, Zzg (s.size + 1) s [s] big (by omega) (Nat.le_of_lt (Zaf (by omega))) (by simp only [List.length_singleton]; omega), Option.bind_some]
 rfl
theorem Zzb : ∀ (n : Nat) (s : ByteArray) (r : List ByteArray) (N : Nat), s.size < n → n ≤ N → r.length + n < 549755813887 → Zab ZnQ N (s, r) = some (.inl (r ++ upF n s))
 | 0, s, r, N, h, _, _ => absurd h (Nat.not_lt_zero _)
 | n + 1, s, r, N, h, hN, hr => by
  obtain ⟨N, rfl⟩ : ∃ m, N = m + 1 := ⟨N - 1, by omega⟩
  have g1 := ZPb s (by omega)
  have g2 : r.length < 549755813887 := by omega
  rw [Zab, upF]
  simp only [ZnQ, Ztx, br, g1, g2, Option.bind_some, if_true]
  by_cases hs : s = ⟨#[]⟩
  ·simp [hs]
  ·have := Zfs hs
   have ih := Zzb n (ZdG s).1 (r ++ [(ZdG s).1]) N (by omega) (by omega) (by rw [List.length_append, List.length_singleton]; omega)
   simp only [hs, decide_false, Bool.not_false, if_true, if_false]
   rw [ih]
   simp
theorem ZMX (s : ByteArray) (hs : s.size < 274877906944) : Zci s = some (upB s) := by
 unfold Zci upB
 simp only [Zrr, ZtK, vz, vw, Zzb (s.size + 1) s [s] big (by omega) (Nat.le_of_lt (Zaf (by omega))) (by simp only [List.length_singleton]; omega), Option.bind_some]
 rfl
def ZdR (l : List ByteArray) (x : ByteArray) : Bool := l.any fun y => decide (x = y)
def ZhX (scope name : ByteArray) (known : List ByteArray) : ByteArray × Bool :=
 if 0 < name.size ∧ ((name.data.toList.getD 0 0).toNat : Int) = 46 then (if ZdR known (name.extract 1 name.size) = true then (name.extract 1 name.size, true) else (⟨#[]⟩, false))
 else match (upB scope).find? fun s => ZdR known (Zaq s name) with
  | some s => (Zaq s name, true)
  | none => (⟨#[]⟩, false)
theorem ZkP {s : ByteArray} (h : 0 < s.size) : s.extract 0 1 = ⟨#[46]⟩ ↔ ((s.data.toList.getD 0 0).toNat : Int) = 46 := by
 obtain ⟨d⟩ := s
 have h' : 0 < d.size := h
 have e : (ByteArray.extract ⟨d⟩ 0 1).data = d.extract 0 1 := by rw [ByteArray.data_extract]
 have e2 : d.extract 0 1 = #[d[0]] := by
  apply Array.ext
  ·simp; omega
  ·intro i h1 h2
   have : i = 0 := by simp at h2; omega
   subst this
   simp
 have e3 : d.toList.getD 0 0 = d[0] := by simp [List.getD_eq_getElem?_getD, h']
 show _ ↔ ((d.toList.getD 0 0).toNat : Int) = 46
 rw [e3]
 constructor
 ·intro hh
  have := congrArg ByteArray.data hh
  rw [e, e2] at this
  simp at this
  rw [this]; rfl
 ·intro hh
  have : d[0] = 46 := UInt8.toNat_inj.1 (by have : (46 : UInt8).toNat = 46 := rfl; omega)
  apply ByteArray.ext
  rw [e, e2, this]
theorem ZPo (s : ByteArray) (hs : s.size < 4611686018427387904) : Zcp s ⟨#[46]⟩ = some (if 0 < s.size ∧ ((s.data.toList.getD 0 0).toNat : Int) = 46 then (s.extract 1 s.size, true) else (s, false)) := by
 have e : (⟨#[46]⟩ : ByteArray).size = 1 := rfl
 simp only [Zcp, Zcy, Zcu, Zse, ZqW, ZsG, vz, cl, Bd.c, Bd.vl, e]
 by_cases h : 0 < s.size
 ·have h1 : (1 : Int) ≤ (s.size : Int) := by omega
  have h2 : 1 ≤ s.size := h
  by_cases hd : ((s.data.toList.getD 0 0).toNat : Int) = 46
  ·have h3 := (ZkP h).2 hd
   generalize s.data.toList.getD 0 0 = b at *
   simp [h, hd, h1, h2, h3]
  ·have h3 : ¬ s.extract 0 1 = ⟨#[46]⟩ := fun q => hd ((ZkP h).1 q)
   generalize s.data.toList.getD 0 0 = b at *
   simp [h, hd, h1, h2, h3]
 ·have h1 : ¬ (1 : Int) ≤ (s.size : Int) := by omega
  have h0 : s.size = 0 := by omega
  simp [h0]
theorem Zgc {α : Type} (l : List α) (p : α → Bool) : l.find? p = (l.findIdx? p).bind fun i => l[i]? := by
 induction l with
 | nil => rfl
 | cons x l ih =>
  rw [List.find?_cons, List.findIdx?_cons]
  cases p x with
  | true => simp
  | false =>
   simp only [Bool.false_eq_true, if_false]
   rw [ih]
   cases l.findIdx? p <;> simp
theorem m92 (scope name : ByteArray) (known : List ByteArray) (h1 : scope.size < 274877906944) (h2 : name.size < 274877906944) (h3 : known.length < 4611686018427387904) : Zc8 scope name known = some (ZhX scope name known) := by
 have hl := Zs4 scope
 have q1 : Zab (ZqV name known (upB scope)) big 0 = some (match (upB scope).findIdx? (fun s => ZdR known (Zaq s name)) with | some i => .inr (Zaq ((upB scope).getD i ⟨#[]⟩) name, true) | none => .inl ()) := by
  refine Zbu (upB scope) (fun s => ZdR known (Zaq s name)) (fun i => (Zaq ((upB scope).getD i ⟨#[]⟩) name, true)) () (hN := Zaf (by omega)) (he := by simp [ZqV, ZyT, br]) (hs := ?_)
  intro i x hx
  have g := ZmN (List.mem_of_getElem? hx)
  have e : (upB scope).getD i ⟨#[]⟩ = x := by rw [List.getD_eq_getElem?_getD, hx]; rfl
  have g1 := m25 x name (by omega) (by omega)
  have g2 : Za4 known (Zaq x name) = some (ZdR known (Zaq x name)) := m54 known (Zaq x name) h3
  have g3 := (List.getElem?_eq_some_iff.1 hx).1
  have g4 : i + 1 < 9223372036854775808 := by omega
  simp only [ZqV, ZyT, br, g1, g2, g3, g4, e, hx, Option.bind_some, Int.ofNat_lt, decide_true, if_true]
  cases ZdR known (Zaq x name) <;> rfl
 unfold Zc8 ZhX
 simp only [ZAK, ZEe, ZDv, lr, lf, cl, ZPo name (by omega), Option.bind_some]
 by_cases hd : 0 < name.size ∧ ((name.data.toList.getD 0 0).toNat : Int) = 46
 ·have g2 : Za4 known (name.extract 1 name.size) = some (ZdR known (name.extract 1 name.size)) := m54 known _ h3
  simp only [hd, and_self, if_true, g2, Option.bind_some]
  cases ZdR known (name.extract 1 name.size) <;> rfl
 ·simp only [if_neg hd, Bool.false_eq_true, if_false, ZN5 scope h1, Option.bind_some, q1]
  rw [Zgc]
  cases hf : (upB scope).findIdx? (fun s => ZdR known (Zaq s name)) with
  | none => rfl
  | some i =>
   have hlt : i < (upB scope).length := (List.findIdx?_eq_some_iff_getElem.1 hf).1
   simp [List.getD_eq_getElem?_getD, hlt]
theorem m99 (scope name : ByteArray) (known : List ByteArray) (h1 : scope.size < 274877906944) (h2 : name.size < 274877906944) (h3 : known.length < 4611686018427387904) : ZbH scope name known = some (ZhX scope name known) := by
 have hl := Zs4 scope
 have hh : ∀ x, ZbG known x = some (ZdR known x) := fun x => by rw [ZPu known x h3, ZM4]; rfl
 have q1 : Zab (ZtJ name known (upB scope)) big 0 = some (match (upB scope).findIdx? (fun s => ZdR known (Zaq s name)) with | some i => .inr (Zaq ((upB scope).getD i ⟨#[]⟩) name, true) | none => .inl ()) := by
  refine Zbu (upB scope) (fun s => ZdR known (Zaq s name)) (fun i => (Zaq ((upB scope).getD i ⟨#[]⟩) name, true)) () (hN := Zaf (by omega)) (he := by simp [ZtJ, Zyo, vz]) (hs := ?_)
  intro i x hx
  have g := ZmN (List.mem_of_getElem? hx)
  have e : (upB scope).getD i ⟨#[]⟩ = x := by rw [List.getD_eq_getElem?_getD, hx]; rfl
  have g1 := m35 x name (by omega) (by omega)
  have g3 := (List.getElem?_eq_some_iff.1 hx).1
  have g4 : i + 1 < 9223372036854775808 := by omega
  simp only [ZtJ, Zyo, vz, g1, hh, g3, g4, e, hx, Option.bind_some, Int.ofNat_lt, decide_true, if_true]
  cases ZdR known (Zaq x name) <;> rfl
 unfold ZbH ZhX
 simp only [ZFs, ZBd, ZCB, vz, lr, lc, lf, Bd.c, Bd.vl, Int.toNat_zero]
 obtain ⟨b, hb⟩ : ∃ b, name.data.toList.getD 0 0 = b := ⟨_, rfl⟩
 simp only [hb]
 by_cases hs : 0 < name.size
 ·have g1 : (0 : Int) < (name.size : Int) := by omega
  by_cases hd : (b.toNat : Int) = 46
  ·have g5 : 1 ≤ name.size := hs
   simp [hs, hd, g5, hh]
   cases ZdR known (name.extract 1 name.size) <;> rfl
  ·simp only [hs, hd, g1, true_and, and_true, and_false, decide_true, decide_false, if_true, if_false, forall_const, Int.le_refl, ZMX scope h1, Option.bind_some, q1, Bool.false_eq_true, Bool.and_false]
   rw [Zgc]
   cases hf : (upB scope).findIdx? (fun s => ZdR known (Zaq s name)) with
   | none => rfl
   | some i =>
    have hlt : i < (upB scope).length := (List.findIdx?_eq_some_iff_getElem.1 hf).1
    simp [List.getD_eq_getElem?_getD, hlt]
 ·have g1 : ¬ (0 : Int) < (name.size : Int) := by omega
  simp only [hs, g1, false_and, decide_false, Bool.false_and, if_true, if_false, false_implies, ZMX scope h1, Option.bind_some, q1, Bool.false_eq_true]
  rw [Zgc]
  cases hf : (upB scope).findIdx? (fun s => ZdR known (Zaq s name)) with
  | none => rfl
  | some i =>
   have hlt : i < (upB scope).length := (List.findIdx?_eq_some_iff_getElem.1 hf).1
   simp [List.getD_eq_getElem?_getD, hlt]
end Go.Proofs.Ythagpbkmakocjaa
namespace Go.Proofs.Ythagpbkmakocjaa
set_option linter.all false
open Go Go.Eng
theorem ZaI {α ρ : Type} (g : α → Option ρ) : ∀ (l p : List α), Zaw (fun _ x => g x) p l = l.findSome? g
 | [], p => rfl
 | x :: l, p => by
  rw [Zaw, List.findSome?_cons]
  cases g x with
  | some r => rfl
  | none => exact ZaI g l _
def Zak (fs : List Fil) : List ByteArray := fs.flatMap ZdJ
theorem Zv9 {α : Type} (l : List α) (f : α → ByteArray) (x : ByteArray) : ZdR (l.map f) x = l.any fun y => decide (f y = x) := by
 unfold ZdR
 rw [List.any_map]
 congr 1
 funext y
 rw [Bool.eq_iff_iff]
 simp only [Function.comp, decide_eq_true_eq]
 exact eq_comm
theorem Ztm {α : Type} (l : List α) (f : α → List ByteArray) (x : ByteArray) : ZdR (l.flatMap f) x = l.any fun y => ZdR (f y) x := by
 unfold ZdR
 rw [List.any_flatMap]
theorem ZNa (fs : List Fil) (x : ByteArray) (h : SzA fs) : ZbL fs x = some (ZdR (Zak fs) x) := by
 have hn := h.n
 have q2 : ∀ (v : Nat) (f : Fil), SzF f → Zab (ZkG fs x v f) big 0 = some (match f.messages.findIdx? (fun y => decide (Zaq f.space y.name = x)) with | some i => .inr true | none => .inl ()) := fun v f hf => by
  have g1 := hf.ms
  have g2 := hf.sp
  refine Zbu f.messages (fun y => decide (Zaq f.space y.name = x)) (fun _ => true) () (hN := Zaf (by omega)) (he := by simp [ZkG, Znc, br]) (hs := ?_)
  intro i y hy
  have h3 := m35 f.space y.name (by omega) (by have := hf.nm1 _ (List.mem_of_getElem? hy); omega)
  have h1 := (List.getElem?_eq_some_iff.1 hy).1
  have h2 : i + 1 < 9223372036854775808 := by omega
  simp only [ZkG, Znc, br, h1, h2, h3, hy, Option.bind_some, Int.ofNat_lt, decide_true, if_true]
  split <;> rfl
 have q1 : Zab (Zjn fs x) big 0 = some (match fs.findIdx? (fun f => ZdR (ZdJ f) x) with | some i => .inr true | none => .inl ()) := by
  refine Zbu fs (fun f => ZdR (ZdJ f) x) (fun _ => true) () (hN := Zaf (by omega)) (he := by simp [Zjn, Znl, Zn7, Zob, br, ix, vs]) (hs := ?_)
  intro i f hf
  have h1 := (List.getElem?_eq_some_iff.1 hf).1
  have h2 : i + 1 < 9223372036854775808 := by omega
  have h3 := q2 i f (h.f _ (List.mem_of_getElem? hf))
  have h4 : ZdR (ZdJ f) x = f.messages.any fun y => decide (Zaq f.space y.name = x) := Zv9 _ _ _
  rw [← List.findIdx?_isSome] at h4
  simp only [Zjn, Znl, Zn7, Zob, br, ix, vs, h1, h2, h3, hf, Option.bind_some, Int.ofNat_lt, decide_true, if_true, h4]
  cases f.messages.findIdx? (fun y => decide (Zaq f.space y.name = x)) <;> rfl
 unfold ZbL
 simp only [Zs1, ZtM, Zqh, vz, lr, lc, lf, q1, Option.bind_some]
 rw [Zak, Ztm, ← List.findIdx?_isSome]
 cases fs.findIdx? (fun f => ZdR (ZdJ f) x) <;> rfl
def ZeU (fs : List Fil) (x : ByteArray) : Option Enm := fs.findSome? fun f => f.enums.find? fun y => decide (Zaq f.space y.name = x)
theorem ZN8 (fs : List Fil) (x : ByteArray) (h : SzA fs) : Zb8 fs x = some (match ZeU fs x with | some e => (e, true) | none => (.mk ⟨#[]⟩ false [] [] [], false)) := by
 have hn := h.n
 have q2 : ∀ (v : Nat) (f : Fil), SzF f → Zab (ZhY fs x v f) big 0 = some ((f.enums.find? (fun y => decide (Zaq f.space y.name = x))).elim (.inl ()) fun e => .inr (e, true)) := fun v f hf => by
  have g1 := hf.es
  have g2 := hf.sp
  have := ZaO (B := ZhY fs x v f) (N := big) f.enums (fun _ => ()) (fun _ y => if (decide (Zaq f.space y.name = x)) = true then some (y, true) else none) (fun i _ => i) (fun _ => ()) (hN := Zaf (by omega)) (he := by simp [ZhY, ZmL, br]) (hs := by
   intro i y hy
   have h3 := m35 f.space y.name (by omega) (by have := hf.nm2 _ (List.mem_of_getElem? hy); omega)
   have h1 := (List.getElem?_eq_some_iff.1 hy).1
   have h2 : i + 1 < 9223372036854775808 := by omega
   simp only [ZhY, ZmL, br, h1, h2, h3, hy, Option.bind_some, Int.ofNat_lt, decide_true, if_true]
   split <;> rfl)
  rw [this, ZaI]
  congr 1
  induction f.enums with
  | nil => rfl
  | cons y l ih =>
   rw [List.findSome?_cons, List.find?_cons]
   cases decide (Zaq f.space y.name = x) with
   | true => rfl
   | false => exact ih
 have q1 : Zab (Zii fs x) big 0 = some ((ZeU fs x).elim (.inl ()) fun e => .inr (e, true)) := by
  have := ZaO (B := Zii fs x) (N := big) fs (fun _ => ()) (fun _ f => (f.enums.find? (fun y => decide (Zaq f.space y.name = x))).map fun e => (e, true)) (fun i _ => i) (fun _ => ()) (hN := Zaf (by omega)) (he := by simp [Zii, ZnP, ZnW, Zns, br, ix, vs]) (hs := by
   intro i f hf
   have h1 := (List.getElem?_eq_some_iff.1 hf).1
   have h2 : i + 1 < 9223372036854775808 := by omega
   have h3 := q2 i f (h.f _ (List.mem_of_getElem? hf))
   simp only [Zii, ZnP, ZnW, Zns, br, ix, vs, h1, h2, h3, hf, Option.bind_some, Int.ofNat_lt, decide_true, if_true]
   cases f.enums.find? (fun y => decide (Zaq f.space y.name = x)) <;> rfl)
  rw [this, ZaI]
  congr 1
  unfold ZeU
  clear this q2 hn h
  induction fs with
  | nil => rfl
  | cons f l ih =>
   rw [List.findSome?_cons, List.findSome?_cons]
   cases f.enums.find? (fun y => decide (Zaq f.space y.name = x)) with
   | some e => rfl
   | none => exact ih
 unfold Zb8
 simp only [Zs5, Zsx, ZrJ, vz, vw, lc, q1, Option.bind_some]
 cases ZeU fs x <;> rfl
theorem m93 (L : Lnk) (x : ByteArray) (h : L.enums.length < 4611686018427387904) : Zbm L x = some (L.enums.any fun e => decide (e.name = x)) := by
 unfold Zbm
 simp only [ZDQ, vw]
 rw [ZNX L.enums _ (fun y => decide (y.name = x)) (fun y _ => (by simp only [Za1, ZrV, vw] : Za1 y x = _)) h]
 rfl
def Zot (en : List Enm) (nm it : ByteArray) : Option Int := en.findSome? fun e => if e.name = nm then (e.items.find? fun i => decide (i.name = it)).map fun i => IntKind.u64.wrap i.num else none
theorem m94 (L : Lnk) (nm it : ByteArray) (h : L.enums.length < 4611686018427387904) (hi : ∀ e ∈ L.enums, e.items.length < 4611686018427387904) : Zbh L nm it = some (match Zot L.enums nm it with | some n => (n, true) | none => (0, false)) := by
 have q2 : ∀ (v : Nat) (e : Enm), e.items.length < 4611686018427387904 → Zab (Zo7 L nm it v e) big 0 = some (((e.items.find? fun i => decide (i.name = it)).map fun i => (IntKind.u64.wrap i.num, true)).elim (.inl ()) .inr) := fun v e he => by
  have := ZaO (B := Zo7 L nm it v e) (N := big) e.items (fun _ => ()) (fun _ y => if (decide (y.name = it)) = true then some (IntKind.u64.wrap y.num, true) else none) (fun i _ => i) (fun _ => ()) (hN := Zaf he) (he := by simp [Zo7, ZwJ, br]) (hs := by
   intro i y hy
   have h1 := (List.getElem?_eq_some_iff.1 hy).1
   have h2 : i + 1 < 9223372036854775808 := by omega
   simp only [Zo7, ZwJ, br, h1, h2, hy, Option.bind_some, Int.ofNat_lt, decide_true, if_true]
   split <;> rfl)
  rw [this, ZaI]
  congr 1
  clear this he
  induction e.items with
  | nil => rfl
  | cons y l ih =>
   rw [List.findSome?_cons, List.find?_cons]
   cases decide (y.name = it) with
   | true => rfl
   | false => exact ih
 have q1 : Zab (ZoZ L nm it) big 0 = some (((Zot L.enums nm it).map fun n => (n, true)).elim (.inl ()) .inr) := by
  have := ZaO (B := ZoZ L nm it) (N := big) L.enums (fun _ => ()) (fun _ e => if e.name = nm then ((e.items.find? fun i => decide (i.name = it)).map fun i => (IntKind.u64.wrap i.num, true)) else none) (fun i _ => i) (fun _ => ()) (hN := Zaf h) (he := by simp [ZoZ, Zxb, Zvu, Zyk, Zyl, br, ix, vs]) (hs := by
   intro i e he
   have h1 := (List.getElem?_eq_some_iff.1 he).1
   have h2 : i + 1 < 9223372036854775808 := by omega
   have h3 := q2 i e (hi _ (List.mem_of_getElem? he))
   simp only [ZoZ, Zxb, Zvu, Zyk, Zyl, br, ix, vs, h1, h2, he, Option.bind_some, Int.ofNat_lt, decide_true, if_true]
   by_cases hne : e.name = nm
   ·simp only [hne, decide_true, Bool.not_true, Bool.false_eq_true, if_false, if_true, h3, Option.bind_some]
    cases e.items.find? (fun i => decide (i.name = it)) <;> rfl
   ·simp only [hne, decide_false, Bool.not_false, if_true, if_false])
  rw [this, ZaI]
  congr 1
  clear this q2
  unfold Zot
  clear h hi
  induction L.enums with
  | nil => rfl
  | cons e l ih =>
   rw [List.findSome?_cons, List.findSome?_cons]
   by_cases hne : e.name = nm
   ·simp only [hne, if_true]
    cases e.items.find? (fun i => decide (i.name = it)) with
    | some n => rfl
    | none => exact ih
   ·simp only [hne, if_false]
    exact ih
 unfold Zbh
 simp only [ZD2, ZDH, ZGb, vw, lr, lc, lf, q1, Option.bind_some]
 cases Zot L.enums nm it <;> rfl
def Zde (known msgs : List ByteArray) (space s : ByteArray) : ByteArray × Int := if (ZhX space s known).2 = false then (⟨#[]⟩, 8) else if ZdR msgs (ZhX space s known).1 = false then (⟨#[]⟩, 12) else ((ZhX space s known).1, 0)
theorem m58 (L : Lnk) (s : ByteArray) (h1 : L.f.space.size < 274877906944) (h2 : s.size < 274877906944) (h3 : L.known.length < 4611686018427387904) (h4 : L.messages.length < 4611686018427387904) : ZbF L s = some (Zde L.known L.messages L.f.space s) := by
 unfold ZbF Zde
 have e : Za4 L.messages (ZhX L.f.space s L.known).1 = some (ZdR L.messages (ZhX L.f.space s L.known).1) := m54 _ _ h4
 simp only [ZET, vw, m92 L.f.space s L.known h1 h2 h3, e, Option.bind_some]
 cases (ZhX L.f.space s L.known).2 <;> cases ZdR L.messages (ZhX L.f.space s L.known).1 <;> rfl
theorem m70 (fs : List Fil) (known : List ByteArray) (space s : ByteArray) (h : SzA fs) (h1 : space.size < 274877906944) (h2 : s.size < 274877906944) (h3 : known.length < 4611686018427387904) : ZbN fs known space s = some (Zde known (Zak fs) space s) := by
 unfold ZbN Zde
 simp only [ZBJ, cl, m99 space s known h1 h2 h3, ZNa fs _ h, Option.bind_some]
 cases (ZhX space s known).2 <;> cases ZdR (Zak fs) (ZhX space s known).1 <;> rfl
def Zat (fs : List Fil) : List Enm := fs.flatMap fun f => f.enums.map fun e => { e with name := Zaq f.space e.name }
def ZaW (known msgs : List ByteArray) (en : List Enm) (scope : ByteArray) (d : Fld) : Fld × Int :=
 if d.type.kind = 0 then
  if (ZhX scope d.type.name known).2 = false then (d, 8)
  else if ZdR msgs (ZhX scope d.type.name known).1 = true then
   (if d.hasDefault = true then (d, 12) else ({ d with type := ⟨10, (ZhX scope d.type.name known).1⟩ }, 0))
  else match en.find? fun e => decide (e.name = (ZhX scope d.type.name known).1) with
   | none => (d, 12)
   | some e => if d.hasDefault = false then ({ d with type := ⟨9, (ZhX scope d.type.name known).1⟩ }, 0)
    else if d.dflt.kind ≠ 9 then (d, 12)
    else match e.items.find? fun i => decide (i.name = d.dflt.text) with
     | none => (d, 16)
     | some i => ({ d with type := ⟨9, (ZhX scope d.type.name known).1⟩, dflt := .mk 9 (IntKind.u64.wrap i.num) ⟨#[]⟩ [] [] [] [] }, 0)
 else if d.hasDefault = false then (d, 0)
 else if d.dflt.kind ≠ d.type.kind then (d, 12) else (d, 0)
theorem Ztu {en : List Enm} (hu : en.Pairwise fun a b => a.name ≠ b.name) (nm it : ByteArray) : Zot en nm it = (en.find? fun e => decide (e.name = nm)).bind fun e => (e.items.find? fun i => decide (i.name = it)).map fun i => IntKind.u64.wrap i.num := by
 unfold Zot
 induction en with
 | nil => rfl
 | cons e l ih =>
  rw [List.findSome?_cons, List.find?_cons]
  have hl := List.pairwise_cons.1 hu
  by_cases hne : e.name = nm
  ·simp only [hne, decide_true, if_true, Option.bind_some]
   cases (e.items.find? fun i => decide (i.name = it)) with
   | some i => rfl
   | none =>
    have : ∀ l : List Enm, (∀ b ∈ l, nm ≠ b.name) → (l.findSome? fun e => if e.name = nm then (e.items.find? fun i => decide (i.name = it)).map fun i => IntKind.u64.wrap i.num else none) = none := fun l h => by
     rw [List.findSome?_eq_none_iff]
     intro b hb
     rw [if_neg fun q => h b hb q.symm]
    exact this l fun b hb => hne ▸ hl.1 b hb
  ·simp only [hne, decide_false, if_false]
   exact ih hl.2
end Go.Proofs.Ythagpbkmakocjaa
namespace Go.Proofs.Ythagpbkmakocjaa
set_option linter.all false
open Go Go.Eng
theorem Zyg {α : Type} (l : List α) (p : α → Bool) : l.any p = (l.find? p).isSome := by
 induction l with
 | nil => rfl
 | cons x l ih =>
  rw [List.any_cons, List.find?_cons]
  cases p x with
  | true => rfl
  | false => simpa using ih
theorem m56 (L : Lnk) (scope : ByteArray) (d : Fld) (h1 : scope.size < 274877906944) (h2 : d.type.name.size < 274877906944) (h3 : L.known.length < 4611686018427387904) (h4 : L.messages.length < 4611686018427387904) (h5 : L.enums.length < 4611686018427387904) (h6 : ∀ e ∈ L.enums, e.items.length < 4611686018427387904) (hu : L.enums.Pairwise fun a b => a.name ≠ b.name) :
  ∃ y, ZbU L scope d = some (y, (ZaW L.known L.messages L.enums scope d).2) ∧ ((ZaW L.known L.messages L.enums scope d).2 = 0 → y = (ZaW L.known L.messages L.enums scope d).1) := by
 have e : ∀ x, Za4 L.messages x = some (ZdR L.messages x) := fun x => m54 _ _ h4
 have e2 : ∀ x, Zbm L x = some (L.enums.find? fun e => decide (e.name = x)).isSome := fun x => by rw [m93 L x h5, Zyg]
 unfold ZbU ZaW
 simp only [ZFt, vw, m92 scope d.type.name L.known h1 h2 h3, e, e2, m94 L _ _ h5 h6, Ztu hu, Option.bind_some]
 generalize ZhX scope d.type.name L.known = r
 obtain ⟨full, ok⟩ := r
 by_cases hk : d.type.kind = 0
 ·simp only [hk, decide_true, if_true, Bool.true_or, Bool.true_and]
  cases ok with
  | false => exact ⟨_, rfl, fun h => by cases h⟩
  | true =>
   simp only [Bool.not_true, Bool.false_eq_true, if_false, Bool.true_eq_false]
   cases ZdR L.messages full with
   | true =>
    simp only [if_true]
    cases d.hasDefault with
    | false => exact ⟨_, rfl, fun _ => rfl⟩
    | true => exact ⟨_, rfl, fun h => by cases h⟩
   | false =>
    simp only [Bool.false_eq_true, if_false]
    cases hf : L.enums.find? fun e => decide (e.name = full) with
    | none => exact ⟨_, rfl, fun h => by cases h⟩
    | some en =>
     simp only [Option.isSome_some, if_true, Option.bind_some]
     cases d.hasDefault with
     | false => exact ⟨_, rfl, fun _ => rfl⟩
     | true =>
      simp only [Bool.not_true, Bool.false_eq_true, if_false, Bool.true_eq_false]
      by_cases h9 : d.dflt.kind = 9
      ·simp only [h9, decide_true, Bool.not_true, Bool.false_eq_true, if_false, ne_eq, not_true_eq_false]
       cases en.items.find? fun i => decide (i.name = d.dflt.text) with
       | none => exact ⟨_, rfl, fun h => by cases h⟩
       | some i => exact ⟨_, rfl, fun _ => rfl⟩
      ·simp only [h9, decide_false, Bool.not_false, if_true, ne_eq, not_false_eq_true]
       exact ⟨_, rfl, fun h => by cases h⟩
 ·simp only [hk, decide_false, Bool.false_eq_true, if_false, Bool.false_or, Bool.false_and]
  cases d.hasDefault with
  | false => exact ⟨_, rfl, fun _ => rfl⟩
  | true =>
   simp only [Bool.not_true, Bool.false_eq_true, if_false, Bool.true_eq_false]
   by_cases h9 : d.dflt.kind = d.type.kind
   ·simp only [h9, decide_true, Bool.not_true, Bool.false_eq_true, if_false, ne_eq, not_true_eq_false]
    exact ⟨_, rfl, fun _ => rfl⟩
   ·simp only [h9, decide_false, Bool.not_false, if_true, ne_eq, not_false_eq_true]
    exact ⟨_, rfl, fun h => by cases h⟩
theorem Zj2 (x : ByteArray) : ∀ fs : List Fil, (Zat fs).find? (fun e => decide (e.name = x)) = (ZeU fs x).map fun e => { e with name := x }
 | [] => rfl
 | f :: fs => by
  have ih := Zj2 x fs
  unfold Zat ZeU at *
  rw [List.flatMap_cons, List.find?_append, List.findSome?_cons, ih]
  have : (f.enums.map fun e => { e with name := Zaq f.space e.name }).find? (fun e : Enm => decide (e.name = x)) = (f.enums.find? fun y => decide (Zaq f.space y.name = x)).map fun e => { e with name := x } := by
   clear ih
   induction f.enums with
   | nil => rfl
   | cons e l ih =>
    rw [List.map_cons, List.find?_cons, List.find?_cons]
    by_cases h : Zaq f.space e.name = x
    ·simp only [h, decide_true, Option.map_some]
    ·simp only [h, decide_false]
     exact ih
  rw [this]
  cases f.enums.find? (fun y => decide (Zaq f.space y.name = x)) <;> rfl
theorem m69 (fs : List Fil) (known : List ByteArray) (scope : ByteArray) (d : Fld) (h : SzA fs) (h1 : scope.size < 274877906944) (h2 : d.type.name.size < 274877906944) (h3 : known.length < 4611686018427387904) (h6 : ∀ f ∈ fs, ∀ e ∈ f.enums, e.items.length < 4611686018427387904)
  (hd : ∀ x, ZdR (Zak fs) x = true → ZeU fs x = none) :
  ∃ y, ZbZ fs known scope d = some (y, (ZaW known (Zak fs) (Zat fs) scope d).2) ∧ ((ZaW known (Zak fs) (Zat fs) scope d).2 = 0 → y = (ZaW known (Zak fs) (Zat fs) scope d).1) := by
 have q : ∀ (c4 : Nat) (c5 : ByteArray) (c8 : List Itm), c8.length < 4611686018427387904 → Zab (ZpV d c4 c5 c8) big 0 = some ((c8.find? fun i => decide (i.name = d.dflt.text)).elim (.inl ()) fun i => .inr (.mk d.num d.name d.card d.key (.mk (c4 : Int) c5) d.union d.hasDefault (.mk 9 (IntKind.u64.wrap i.num) ⟨#[]⟩ [] [] [] []) d.notes, 0)) := fun c4 c5 c8 hc => by
  have := ZaO (B := ZpV d c4 c5 c8) (N := big) c8 (fun _ => ()) (fun _ i => if (decide (i.name = d.dflt.text)) = true then some (.mk d.num d.name d.card d.key (.mk (c4 : Int) c5) d.union d.hasDefault (.mk 9 (IntKind.u64.wrap i.num) ⟨#[]⟩ [] [] [] []) d.notes, 0) else none) (fun i _ => i) (fun _ => ()) (hN := Zaf hc) (he := by simp [ZpV, Zw6, br]) (hs := by
   intro i y hy
   have h1 := (List.getElem?_eq_some_iff.1 hy).1
   have h2 : i + 1 < 9223372036854775808 := by omega
   simp only [ZpV, Zw6, br, h1, h2, hy, Option.bind_some, Int.ofNat_lt, decide_true, if_true]
   split <;> rfl)
  rw [this, ZaI]
  congr 1
  clear this hc
  induction c8 with
  | nil => rfl
  | cons y l ih =>
   rw [List.findSome?_cons, List.find?_cons]
   cases decide (y.name = d.dflt.text) with
   | true => rfl
   | false => exact ih
 unfold ZbZ ZaW
 simp only [ZDb, ZFB, Zi5, ZEF, vw, m99 scope d.type.name known h1 h2 h3, ZNa fs _ h, ZN8 fs _ h, Option.bind_some, Zj2]
 generalize ZhX scope d.type.name known = r
 obtain ⟨full, ok⟩ := r
 by_cases hk : d.type.kind = 0
 ·simp only [hk, decide_true, if_true]
  cases ok with
  | false => exact ⟨_, rfl, fun h => by cases h⟩
  | true =>
   simp only [Bool.not_true, Bool.false_eq_true, if_false, Bool.true_eq_false]
   cases hm : ZdR (Zak fs) full with
   | true =>
    simp only [hd full hm, Bool.not_true, Bool.not_false, Bool.false_and, Bool.false_eq_true, if_false, if_true]
    cases d.hasDefault with
    | false => exact ⟨_, rfl, fun _ => rfl⟩
    | true => exact ⟨_, rfl, fun h => by cases h⟩
   | false =>
    cases hf : ZeU fs full with
    | none => exact ⟨_, rfl, fun h => by cases h⟩
    | some en =>
     simp only [Bool.not_true, Bool.not_false, Bool.true_and, Bool.false_eq_true, if_false, if_true, Option.map_some]
     have hei : en.items.length < 4611686018427387904 := by
      unfold ZeU at hf
      obtain ⟨f, hf1, hf2⟩ := List.exists_of_findSome?_eq_some hf
      exact h6 f hf1 en (List.mem_of_find?_eq_some hf2)
     cases hh : d.hasDefault with
     | false => exact ⟨_, rfl, fun _ => rfl⟩
     | true =>
      simp only [Bool.not_true, Bool.false_eq_true, if_false, Bool.true_eq_false]
      by_cases h9 : d.dflt.kind = 9
      ·simp only [h9, decide_true, Bool.not_true, Bool.false_eq_true, if_false, ne_eq, not_true_eq_false, q _ _ _ hei, Option.bind_some]
       cases en.items.find? fun i => decide (i.name = d.dflt.text) with
       | none => exact ⟨_, rfl, fun h => by cases h⟩
       | some i => exact ⟨_, rfl, fun _ => by rw [hh]; rfl⟩
      ·simp only [h9, decide_false, Bool.not_false, if_true, ne_eq, not_false_eq_true]
       exact ⟨_, rfl, fun h => by cases h⟩
 ·simp only [hk, decide_false, Bool.false_eq_true, if_false]
  cases d.hasDefault with
  | false => exact ⟨_, rfl, fun _ => rfl⟩
  | true =>
   simp only [Bool.not_true, Bool.false_eq_true, if_false, Bool.true_eq_false]
   by_cases h9 : d.dflt.kind = d.type.kind
   ·simp only [h9, decide_true, Bool.not_true, Bool.false_eq_true, if_false, ne_eq, not_true_eq_false]
    exact ⟨_, rfl, fun _ => rfl⟩
   ·simp only [h9, decide_false, Bool.not_false, if_true, ne_eq, not_false_eq_true]
    exact ⟨_, rfl, fun h => by cases h⟩
end Go.Proofs.Ythagpbkmakocjaa
namespace Go.Proofs.Ythagpbkmakocjaa
set_option linter.all false
open Go Go.Eng
structure SzG (f : Fil) : Prop where
 fl : ∀ m ∈ f.messages, m.fields.length < 2147483648
 ft : ∀ m ∈ f.messages, ∀ d ∈ m.fields, d.type.name.size < 2147483648
 ml : ∀ v ∈ f.services, v.methods.length < 2147483648
 mi : ∀ v ∈ f.services, ∀ d ∈ v.methods, d.inn.size < 2147483648 ∧ d.out.size < 2147483648
 ei : ∀ e ∈ f.enums, e.items.length < 2147483648
theorem ZfA {α ρ τ : Type} {R : List α → α → Option ρ} {g : ρ → τ} {k : α → Option τ} (h : ∀ p x, (R p x).map g = k x) : ∀ (l p : List α), (Zaw R p l).map g = l.findSome? k
 | [], p => rfl
 | x :: l, p => by
  rw [Zaw, List.findSome?_cons, ← h p x]
  cases R p x with
  | some r => rfl
  | none => exact ZfA h l _
theorem ZeT {α ρ : Type} {R : List α → α → Option ρ} {r : ρ} : ∀ {l p : List α}, Zaw R p l = some r → ∃ q x, R q x = some r
 | [], p, h => by cases h
 | x :: l, p, h => by
  rw [Zaw] at h
  cases hr : R p x with
  | some r' => rw [hr] at h; cases h; exact ⟨p, x, hr⟩
  | none => rw [hr] at h; exact ZeT h
def ZlL {α β : Type} (g : α → β × Int) (l : List α) : Option Int := l.findSome? fun x => if (g x).2 = 0 then none else some (g x).2
theorem Zi0 {α β : Type} {g : α → β × Int} {l : List α} {c : Int} (h : ZlL g l = some c) : c ≠ 0 := by
 obtain ⟨x, _, hx⟩ := List.exists_of_findSome?_eq_some h
 split at hx
 ·cases hx
 ·rename_i h0; cases hx; exact h0
def ZzP (known msgs : List ByteArray) (en : List Enm) (space : ByteArray) (m : Msg) : Msg × Int := match ZlL (ZaW known msgs en (Zaq space m.name)) m.fields with
 | some c => (m, c)
 | none => ({ m with name := Zaq space m.name, fields := m.fields.map fun d => (ZaW known msgs en (Zaq space m.name) d).1 }, 0)
theorem Zsz {α : Type} {l : List α} {i : Nat} {x : α} (h : l[i]? = some x) : l.drop i = x :: l.drop (i + 1) := by
 obtain ⟨h1, rfl⟩ := List.getElem?_eq_some_iff.1 h
 exact List.drop_eq_getElem_cons h1
theorem ZAk {α : Type} {l : List α} {i : Nat} {x : α} (g : α → α) (h : l[i]? = some x) : ((l.take i).map g ++ l.drop i)[i]? = some x ∧ ((l.take i).map g ++ l.drop i).length = l.length ∧ ∀ y, y = g x → ((l.take i).map g ++ l.drop i).set i y = (l.take i ++ [x]).map g ++ l.drop (i + 1) := by
 have hl := (List.getElem?_eq_some_iff.1 h).1
 have e : ((l.take i).map g).length = i := by rw [List.length_map, List.length_take]; omega
 refine ⟨?_, ?_, fun y hy => ?_⟩
 ·rw [Zsz h, List.getElem?_append_right (by omega), e, Nat.sub_self]; rfl
 ·rw [List.length_append, e, List.length_drop]; omega
 ·rw [Zsz h, List.set_append_right _ _ (by omega), e, Nat.sub_self, hy]
  simp
theorem m55 (l : List Fld) (h : l.length < 549755813888) : ZcY l = some l := by
 unfold ZcY
 simp only [ZB0, al, Bool.false_eq_true, if_false, h, if_true]
theorem m57 (l : List Mth) (h : l.length < 549755813888) : ZcM l = some l := by
 unfold ZcM
 simp only [ZDN, al, Bool.false_eq_true, if_false, h, if_true]
theorem m28 (L : Lnk) (m : Msg) (h1 : L.f.space.size < 2147483648) (h0 : m.name.size < 2147483648) (hl : m.fields.length < 2147483648) (h2 : ∀ d ∈ m.fields, d.type.name.size < 2147483648) (h3 : L.known.length < 4611686018427387904) (h4 : L.messages.length < 4611686018427387904) (h5 : L.enums.length < 4611686018427387904) (h6 : ∀ e ∈ L.enums, e.items.length < 4611686018427387904) (hu : L.enums.Pairwise fun a b => a.name ≠ b.name) :
  ∃ y, Za9 L m = some (y, (ZzP L.known L.messages L.enums L.f.space m).2) ∧ y.name = Zaq L.f.space m.name ∧ ((ZzP L.known L.messages L.enums L.f.space m).2 = 0 → y = (ZzP L.known L.messages L.enums L.f.space m).1) := by
 have hj := Zfy L.f.space m.name
 have e0 := m25 L.f.space m.name (by omega) (by omega)
 generalize hsc : Zaq L.f.space m.name = sc at *
 have q := ZaO (B := Zto L m sc m.fields) (N := big) m.fields (fun p => p.map (fun d => (ZaW L.known L.messages L.enums sc d).1) ++ m.fields.drop p.length)
  (fun p d => if (ZaW L.known L.messages L.enums sc d).2 = 0 then none else some (Msg.mk sc (p.map (fun d => (ZaW L.known L.messages L.enums sc d).1) ++ m.fields.drop p.length) m.reserved m.gone m.notes, (ZaW L.known L.messages L.enums sc d).2)) (fun i c => (i, c)) (fun c => c) (hN := Zaf (by omega)) (he := by simp [Zto, Zx8, br]) (hs := by
  intro i d hd
  have g1 := (List.getElem?_eq_some_iff.1 hd).1
  have g2 : i + 1 < 9223372036854775808 := by omega
  obtain ⟨r1, r2, r3⟩ := ZAk (fun d => (ZaW L.known L.messages L.enums sc d).1) hd
  obtain ⟨y, hy1, hy2⟩ := m56 L sc d (by omega) (by have := h2 d (List.mem_of_getElem? hd); omega) h3 h4 h5 h6 hu
  have e1 : (m.fields.take i).length = i := by rw [List.length_take]; omega
  have e2 : (m.fields.take i ++ [d]).length = i + 1 := by rw [List.length_append, e1]; rfl
  simp only [Zto, Zx8, br, e1, e2, g1, g2, r1, r2, hy1, Option.bind_some, Int.ofNat_lt, decide_true, if_true]
  by_cases hc : (ZaW L.known L.messages L.enums sc d).2 = 0
  ·have := r3 y (hy2 hc)
   simp only [hc, decide_true, Bool.not_true, Bool.false_eq_true, if_false, if_true, this]
  ·simp only [hc, decide_false, Bool.not_false, if_true, if_false])
 rw [List.map_nil, List.nil_append, List.length_nil, List.drop_zero] at q
 unfold Za9 ZzP
 rw [hsc]
 simp only [ZEV, ZA2, ZFi, ZDr, ZBc, vw, e0, m55 m.fields (by omega), Option.bind_some, q]
 have hm := ZfA (R := fun p d => if (ZaW L.known L.messages L.enums sc d).2 = 0 then none else some (Msg.mk sc (p.map (fun d => (ZaW L.known L.messages L.enums sc d).1) ++ m.fields.drop p.length) m.reserved m.gone m.notes, (ZaW L.known L.messages L.enums sc d).2)) (g := fun r => r.2) (k := fun d => if (ZaW L.known L.messages L.enums sc d).2 = 0 then none else some (ZaW L.known L.messages L.enums sc d).2) (fun p x => by split <;> rfl) m.fields []
 cases hf : Zaw (fun p d => if (ZaW L.known L.messages L.enums sc d).2 = 0 then none else some (Msg.mk sc (p.map (fun d => (ZaW L.known L.messages L.enums sc d).1) ++ m.fields.drop p.length) m.reserved m.gone m.notes, (ZaW L.known L.messages L.enums sc d).2)) [] m.fields with
 | none =>
  rw [hf] at hm
  have hz : ZlL (ZaW L.known L.messages L.enums sc) m.fields = none := hm.symm
  rw [hz]
  simp only [Option.elim, Sum.elim_inl, List.length_map, List.drop_length, if_true, List.append_nil]
  exact ⟨_, rfl, rfl, fun _ => rfl⟩
 | some r =>
  rw [hf] at hm
  have hz : ZlL (ZaW L.known L.messages L.enums sc) m.fields = some r.2 := hm.symm
  rw [hz]
  have hne := Zi0 hz
  obtain ⟨p, x, hx⟩ := ZeT hf
  split at hx
  ·cases hx
  ·cases hx
   exact ⟨_, rfl, rfl, fun h => absurd h hne⟩
def ZdB (known msgs : List ByteArray) (space : ByteArray) (d : Mth) : Mth × Int :=
 if (Zde known msgs space d.inn).2 ≠ 0 then (d, (Zde known msgs space d.inn).2)
 else if (Zde known msgs space d.out).2 ≠ 0 then (d, (Zde known msgs space d.out).2)
 else ({ d with inn := (Zde known msgs space d.inn).1, out := (Zde known msgs space d.out).1 }, 0)
def Zz1 (known msgs : List ByteArray) (space : ByteArray) (v : Svc) : Svc × Int := match ZlL (ZdB known msgs space) v.methods with
 | some c => (v, c)
 | none => ({ v with name := Zaq space v.name, methods := v.methods.map fun d => (ZdB known msgs space d).1 }, 0)
theorem m29 (L : Lnk) (v : Svc) (h1 : L.f.space.size < 2147483648) (h0 : v.name.size < 2147483648) (hl : v.methods.length < 2147483648) (h2 : ∀ d ∈ v.methods, d.inn.size < 2147483648 ∧ d.out.size < 2147483648) (h3 : L.known.length < 4611686018427387904) (h4 : L.messages.length < 4611686018427387904) :
  ∃ y, Zba L v = some (y, (Zz1 L.known L.messages L.f.space v).2) ∧ y.name = Zaq L.f.space v.name ∧ ((Zz1 L.known L.messages L.f.space v).2 = 0 → y = (Zz1 L.known L.messages L.f.space v).1) := by
 have hj := Zfy L.f.space v.name
 have e0 := m25 L.f.space v.name (by omega) (by omega)
 generalize hsc : Zaq L.f.space v.name = sc at *
 have q := ZaO (B := ZsF L v sc v.methods) (N := big) v.methods (fun p => p.map (fun d => (ZdB L.known L.messages L.f.space d).1) ++ v.methods.drop p.length)
  (fun p d => if (ZdB L.known L.messages L.f.space d).2 = 0 then none else some (Svc.mk sc (p.map (fun d => (ZdB L.known L.messages L.f.space d).1) ++ v.methods.drop p.length) v.notes, (ZdB L.known L.messages L.f.space d).2)) (fun i c => (i, c)) (fun c => c) (hN := Zaf (by omega)) (he := by simp [ZsF, Zwm, br]) (hs := by
  intro i d hd
  have g1 := (List.getElem?_eq_some_iff.1 hd).1
  have g2 : i + 1 < 9223372036854775808 := by omega
  obtain ⟨r1, r2, r3⟩ := ZAk (fun d => (ZdB L.known L.messages L.f.space d).1) hd
  have g3 := h2 d (List.mem_of_getElem? hd)
  have s1 := m58 L d.inn (by omega) (by omega) h3 h4
  have s2 := m58 L d.out (by omega) (by omega) h3 h4
  have e1 : (v.methods.take i).length = i := by rw [List.length_take]; omega
  have e2 : (v.methods.take i ++ [d]).length = i + 1 := by rw [List.length_append, e1]; rfl
  have r4 : i < ((v.methods.take i).map (fun d => (ZdB L.known L.messages L.f.space d).1) ++ v.methods.drop i).length := by omega
  simp only [ZsF, Zwm, br, e1, e2, g1, g2, r1, r2, s1, s2, Option.bind_some, Int.ofNat_lt, decide_true, if_true]
  by_cases hc : (Zde L.known L.messages L.f.space d.inn).2 = 0
  ·by_cases hc2 : (Zde L.known L.messages L.f.space d.out).2 = 0
   ·have hm : ZdB L.known L.messages L.f.space d = ({ d with inn := (Zde L.known L.messages L.f.space d.inn).1, out := (Zde L.known L.messages L.f.space d.out).1 }, 0) := by unfold ZdB; simp [hc, hc2]
    have := r3 _ rfl
    simp only [hm] at this
    simp only [hc, hc2, hm, decide_true, Bool.not_true, Bool.false_eq_true, if_false, if_true, List.getElem?_set_self r4, Option.bind_some, List.set_set, this]
   ·have hm : ZdB L.known L.messages L.f.space d = (d, (Zde L.known L.messages L.f.space d.out).2) := by unfold ZdB; simp [hc, hc2]
    simp only [hc, hc2, hm, decide_true, decide_false, Bool.not_true, Bool.not_false, Bool.false_eq_true, if_false, if_true]
  ·have hm : ZdB L.known L.messages L.f.space d = (d, (Zde L.known L.messages L.f.space d.inn).2) := by unfold ZdB; simp [hc]
   simp only [hc, hm, decide_false, Bool.not_false, if_true, if_false])
 rw [List.map_nil, List.nil_append, List.length_nil, List.drop_zero] at q
 unfold Zba Zz1
 rw [hsc]
 simp only [ZDS, ZBB, ZBI, ZDh, ZCw, vw, e0, m57 v.methods (by omega), Option.bind_some, q]
 have hm := ZfA (R := fun p d => if (ZdB L.known L.messages L.f.space d).2 = 0 then none else some (Svc.mk sc (p.map (fun d => (ZdB L.known L.messages L.f.space d).1) ++ v.methods.drop p.length) v.notes, (ZdB L.known L.messages L.f.space d).2)) (g := fun r => r.2) (k := fun d => if (ZdB L.known L.messages L.f.space d).2 = 0 then none else some (ZdB L.known L.messages L.f.space d).2) (fun p x => by split <;> rfl) v.methods []
 cases hf : Zaw (fun p d => if (ZdB L.known L.messages L.f.space d).2 = 0 then none else some (Svc.mk sc (p.map (fun d => (ZdB L.known L.messages L.f.space d).1) ++ v.methods.drop p.length) v.notes, (ZdB L.known L.messages L.f.space d).2)) [] v.methods with
 | none =>
  rw [hf] at hm
  have hz : ZlL (ZdB L.known L.messages L.f.space) v.methods = none := hm.symm
  rw [hz]
  simp only [Option.elim, Sum.elim_inl, List.length_map, List.drop_length, if_true, List.append_nil]
  exact ⟨_, rfl, rfl, fun _ => rfl⟩
 | some r =>
  rw [hf] at hm
  have hz : ZlL (ZdB L.known L.messages L.f.space) v.methods = some r.2 := hm.symm
  rw [hz]
  have hne := Zi0 hz
  obtain ⟨p, x, hx⟩ := ZeT hf
  split at hx
  ·cases hx
  ·cases hx
   exact ⟨_, rfl, rfl, fun h => absurd h hne⟩
end Go.Proofs.Ythagpbkmakocjaa
