import Derived.Test.YthagpbkmakocjaaCu20
namespace Go.Proofs.Ythagpbkmakocjaa
set_option linter.all false
open Go Go.Eng
def gtB (a b : ByteArray) : Bool := !(sLt a b || decide (a = b))
section
variable {α : Type} [Rw α]
def ZhE (nm : α → ByteArray) (out : List α) (x : α) : Nat → Nat
 | 0 => 0
 | k + 1 => if gtB (nm (out.getD k Rw.z)) (nm x) = true then ZhE nm out x k else k + 1
theorem Zgu (nm : α → ByteArray) (out : List α) (x : α) : ∀ k, ZhE nm out x k ≤ k
 | 0 => Nat.le_refl _
 | k + 1 => by
  unfold ZhE
  split
  ·have := Zgu nm out x k; omega
  ·exact Nat.le_refl _
def ZoR (nm : α → ByteArray) (out : List α) (x : α) : List α := out.take (ZhE nm out x out.length) ++ [x] ++ out.drop (ZhE nm out x out.length)
def Zax (nm : α → ByteArray) (l : List α) : List α := l.foldl (ZoR nm) []
theorem Zvw (nm : α → ByteArray) (out : List α) (x : α) : (ZoR nm out x).length = out.length + 1 := by
 have := Zgu nm out x out.length
 unfold ZoR
 simp only [List.length_append, List.length_take, List.length_drop, List.length_singleton]
 omega
theorem ZdQ (nm : α → ByteArray) (l : List α) : (Zax nm l).length = l.length := by
 suffices H : ∀ (l out : List α), (l.foldl (ZoR nm) out).length = out.length + l.length by
  have := H l []
  simpa [Zax] using this
 intro l
 induction l with
 | nil => intro out; rfl
 | cons x l ih => intro out; rw [List.foldl_cons, ih, Zvw, List.length_cons]; omega
theorem Zea (nm : α → ByteArray) (l : List α) (x : α) : Zax nm (l ++ [x]) = ZoR nm (Zax nm l) x := by unfold Zax; rw [List.foldl_append]; rfl
theorem ZrZ (nm : α → ByteArray) (out : List α) (x : α) : (ZoR nm out x).Perm (out ++ [x]) := by
 unfold ZoR
 generalize ZhE nm out x out.length = k
 have h1 : (out.take k ++ [x] ++ out.drop k).Perm (out.take k ++ out.drop k ++ [x]) := by
  rw [List.append_assoc, List.append_assoc]
  exact List.Perm.append_left _ List.perm_append_comm
 rwa [List.take_append_drop] at h1
theorem Zed (nm : α → ByteArray) (l : List α) : (Zax nm l).Perm l := by
 suffices H : ∀ (l out : List α), (l.foldl (ZoR nm) out).Perm (out ++ l) by
  have := H l []
  simpa [Zax] using this
 intro l
 induction l with
 | nil => intro out; simp
 | cons x l ih =>
  intro out
  rw [List.foldl_cons]
  refine (ih _).trans ?_
  have := (ZrZ nm out x).append_right l
  simpa using this
end
theorem ZIA (s : Scm) (v1 : Nat) (c : List Msg) (x : Msg) (hc : c.length ≤ 1048576) : ∀ (k N : Nat), k ≤ c.length → k < N → Zab (Zrh s v1 c x) N (k : Int) = some (.inl (ZhE (fun y : Msg => y.name) c x k : Int))
 | 0, N, _, hN => by
  obtain ⟨N, rfl⟩ : ∃ m, N = m + 1 := ⟨N - 1, by omega⟩
  rw [Zab]
  simp [Zrh, Zxa, vw, ZhE]
 | k + 1, N, hk, hN => by
  obtain ⟨N, rfl⟩ : ∃ m, N = m + 1 := ⟨N - 1, by omega⟩
  have ih := ZIA s v1 c x hc k N (by omega) (by omega)
  have g1 : (0 : Int) < ((k + 1 : Nat) : Int) := by omega
  have g2 : ((k + 1 : Nat) : Int) - 1 = (k : Int) := by omega
  have g3 : -9223372036854775808 ≤ (k : Int) ∧ (k : Int) < 9223372036854775808 := by omega
  have g4 : (0 : Int) ≤ (k : Int) := by omega
  have g5 : k < c.length := by omega
  rw [Zab, ZhE]
  simp only [Zrh, Zxa, vw, g1, g2, g3, g4, g5, decide_true, Bool.true_and, and_self, forall_const, if_true, Int.toNat_natCast, Int.ofNat_lt]
  unfold gtB
  cases hg : !(sLt (c.getD k Rw.z).name x.name || decide ((c.getD k Rw.z).name = x.name)) with
  | true => simp only [if_true]; exact ih
  | false => simp only [Bool.false_eq_true, if_false]
theorem ZLs (s : Scm) (hc : s.messages.length ≤ 1048576) : Zab (ZoF s ) big (0, []) = some (.inl (Zax (fun y : Msg => y.name) s.messages)) :=
 Zbb (B := ZoF s ) (N := big) s.messages (fun p => Zax (fun y : Msg => y.name) p) (fun i c => (i, c)) id (hN := Zaf (by omega)) (he := by simp [ZoF, Zyn, ZyV, Zx2, ZvL, br, ix, vw, vs, Bd.c, Bd.vl]) (hs := by
  intro i x hx
  have g1 := (List.getElem?_eq_some_iff.1 hx).1
  have g2 : i + 1 < 9223372036854775808 := by omega
  have g3 : (Zax (fun y : Msg => y.name) (s.messages.take i)).length = i := by rw [ZdQ, List.length_take]; omega
  have g4 := fun v1 => ZIA s v1 (Zax (fun y : Msg => y.name) (s.messages.take i)) x (by omega) _ big (Nat.le_refl _) (Zaf (by omega))
  have g5 := Zgu (fun y : Msg => y.name) (Zax (fun y : Msg => y.name) (s.messages.take i)) x (Zax (fun y : Msg => y.name) (s.messages.take i)).length
  rw [Zea]
  unfold ZoR
  generalize ZhE (fun y : Msg => y.name) (Zax (fun y : Msg => y.name) (s.messages.take i)) x (Zax (fun y : Msg => y.name) (s.messages.take i)).length = k at *
  generalize Zax (fun y : Msg => y.name) (s.messages.take i) = c at *
  have h1 : (0 : Int) ≤ (k : Int) := by omega
  have h2 : (c.take k).length = k := by rw [List.length_take]; omega
  have h3 : k < 549755813887 := by omega
  have h3' : k < 549755813888 := by omega
  have h4 : (c.take k ++ [x]).length + (c.drop k).length < 549755813888 := by rw [List.length_append, h2, List.length_drop, List.length_singleton]; omega
  have h5 : c.length = i := g3
  simp only [ZoF, Zyn, ZyV, Zx2, ZvL, br, ix, vw, vs, Bd.c, Bd.vl, g1, g2, g4, hx, Option.bind_some, Int.ofNat_lt, decide_true, if_true, Sum.elim_inl]
  simp only [Int.toNat_natCast, h1, g5, Nat.zero_le, Nat.le_refl, and_self, if_true, List.drop_zero, Nat.sub_zero, h2, h3, h3']
  rw [List.take_of_length_le (l := c.drop k) (by rw [List.length_drop]; exact Nat.le_refl _)]
  rw [if_pos h4])
theorem ZJP (s : Scm) (c9 : List Msg) (v1 : Nat) (c : List Enm) (x : Enm) (hc : c.length ≤ 1048576) : ∀ (k N : Nat), k ≤ c.length → k < N → Zab (ZrF s c9 v1 c x) N (k : Int) = some (.inl (ZhE (fun y : Enm => y.name) c x k : Int))
 | 0, N, _, hN => by
  obtain ⟨N, rfl⟩ : ∃ m, N = m + 1 := ⟨N - 1, by omega⟩
  rw [Zab]
  simp [ZrF, Zxg, vw, ZhE]
 | k + 1, N, hk, hN => by
  obtain ⟨N, rfl⟩ : ∃ m, N = m + 1 := ⟨N - 1, by omega⟩
  have ih := ZJP s c9 v1 c x hc k N (by omega) (by omega)
  have g1 : (0 : Int) < ((k + 1 : Nat) : Int) := by omega
  have g2 : ((k + 1 : Nat) : Int) - 1 = (k : Int) := by omega
  have g3 : -9223372036854775808 ≤ (k : Int) ∧ (k : Int) < 9223372036854775808 := by omega
  have g4 : (0 : Int) ≤ (k : Int) := by omega
  have g5 : k < c.length := by omega
  rw [Zab, ZhE]
  simp only [ZrF, Zxg, vw, g1, g2, g3, g4, g5, decide_true, Bool.true_and, and_self, forall_const, if_true, Int.toNat_natCast, Int.ofNat_lt]
  unfold gtB
  cases hg : !(sLt (c.getD k Rw.z).name x.name || decide ((c.getD k Rw.z).name = x.name)) with
  | true => simp only [if_true]; exact ih
  | false => simp only [Bool.false_eq_true, if_false]
theorem ZML (s : Scm) (c9 : List Msg) (hc : s.enums.length ≤ 1048576) : Zab (Zok s c9 ) big (0, []) = some (.inl (Zax (fun y : Enm => y.name) s.enums)) :=
 Zbb (B := Zok s c9 ) (N := big) s.enums (fun p => Zax (fun y : Enm => y.name) p) (fun i c => (i, c)) id (hN := Zaf (by omega)) (he := by simp [Zok, ZuU, ZwZ, ZyS, Zmg, br, ix, vw, vs, Bd.c, Bd.vl]) (hs := by
  intro i x hx
  have g1 := (List.getElem?_eq_some_iff.1 hx).1
  have g2 : i + 1 < 9223372036854775808 := by omega
  have g3 : (Zax (fun y : Enm => y.name) (s.enums.take i)).length = i := by rw [ZdQ, List.length_take]; omega
  have g4 := fun v1 => ZJP s c9 v1 (Zax (fun y : Enm => y.name) (s.enums.take i)) x (by omega) _ big (Nat.le_refl _) (Zaf (by omega))
  have g5 := Zgu (fun y : Enm => y.name) (Zax (fun y : Enm => y.name) (s.enums.take i)) x (Zax (fun y : Enm => y.name) (s.enums.take i)).length
  rw [Zea]
  unfold ZoR
  generalize ZhE (fun y : Enm => y.name) (Zax (fun y : Enm => y.name) (s.enums.take i)) x (Zax (fun y : Enm => y.name) (s.enums.take i)).length = k at *
  generalize Zax (fun y : Enm => y.name) (s.enums.take i) = c at *
  have h1 : (0 : Int) ≤ (k : Int) := by omega
  have h2 : (c.take k).length = k := by rw [List.length_take]; omega
  have h3 : k < 549755813887 := by omega
  have h3' : k < 549755813888 := by omega
  have h4 : (c.take k ++ [x]).length + (c.drop k).length < 549755813888 := by rw [List.length_append, h2, List.length_drop, List.length_singleton]; omega
  have h5 : c.length = i := g3
  simp only [Zok, ZuU, ZwZ, ZyS, Zmg, br, ix, vw, vs, Bd.c, Bd.vl, g1, g2, g4, hx, Option.bind_some, Int.ofNat_lt, decide_true, if_true, Sum.elim_inl]
  simp only [Int.toNat_natCast, h1, g5, Nat.zero_le, Nat.le_refl, and_self, if_true, List.drop_zero, Nat.sub_zero, h2, h3, h3']
  rw [List.take_of_length_le (l := c.drop k) (by rw [List.length_drop]; exact Nat.le_refl _)]
  rw [if_pos h4])
theorem ZKk (s : Scm) (c9 : List Msg) (c18 : List Enm) (v1 : Nat) (c : List Svc) (x : Svc) (hc : c.length ≤ 1048576) : ∀ (k N : Nat), k ≤ c.length → k < N → Zab (ZtP s c9 c18 v1 c x) N (k : Int) = some (.inl (ZhE (fun y : Svc => y.name) c x k : Int))
 | 0, N, _, hN => by
  obtain ⟨N, rfl⟩ : ∃ m, N = m + 1 := ⟨N - 1, by omega⟩
  rw [Zab]
  simp [ZtP, Zne, vw, ZhE]
 | k + 1, N, hk, hN => by
  obtain ⟨N, rfl⟩ : ∃ m, N = m + 1 := ⟨N - 1, by omega⟩
  have ih := ZKk s c9 c18 v1 c x hc k N (by omega) (by omega)
  have g1 : (0 : Int) < ((k + 1 : Nat) : Int) := by omega
  have g2 : ((k + 1 : Nat) : Int) - 1 = (k : Int) := by omega
  have g3 : -9223372036854775808 ≤ (k : Int) ∧ (k : Int) < 9223372036854775808 := by omega
  have g4 : (0 : Int) ≤ (k : Int) := by omega
  have g5 : k < c.length := by omega
  rw [Zab, ZhE]
  simp only [ZtP, Zne, vw, g1, g2, g3, g4, g5, decide_true, Bool.true_and, and_self, forall_const, if_true, Int.toNat_natCast, Int.ofNat_lt]
  unfold gtB
  cases hg : !(sLt (c.getD k Rw.z).name x.name || decide ((c.getD k Rw.z).name = x.name)) with
  | true => simp only [if_true]; exact ih
  | false => simp only [Bool.false_eq_true, if_false]
theorem ZMu (s : Scm) (c9 : List Msg) (c18 : List Enm) (hc : s.services.length ≤ 1048576) : Zab (ZoT s c9 c18 ) big (0, []) = some (.inl (Zax (fun y : Svc => y.name) s.services)) :=
 Zbb (B := ZoT s c9 c18 ) (N := big) s.services (fun p => Zax (fun y : Svc => y.name) p) (fun i c => (i, c)) id (hN := Zaf (by omega)) (he := by simp [ZoT, Zno, ZnU, Znb, Zn3, br, ix, vw, vs, Bd.c, Bd.vl]) (hs := by
  intro i x hx
  have g1 := (List.getElem?_eq_some_iff.1 hx).1
  have g2 : i + 1 < 9223372036854775808 := by omega
  have g3 : (Zax (fun y : Svc => y.name) (s.services.take i)).length = i := by rw [ZdQ, List.length_take]; omega
  have g4 := fun v1 => ZKk s c9 c18 v1 (Zax (fun y : Svc => y.name) (s.services.take i)) x (by omega) _ big (Nat.le_refl _) (Zaf (by omega))
  have g5 := Zgu (fun y : Svc => y.name) (Zax (fun y : Svc => y.name) (s.services.take i)) x (Zax (fun y : Svc => y.name) (s.services.take i)).length
  rw [Zea]
  unfold ZoR
  generalize ZhE (fun y : Svc => y.name) (Zax (fun y : Svc => y.name) (s.services.take i)) x (Zax (fun y : Svc => y.name) (s.services.take i)).length = k at *
  generalize Zax (fun y : Svc => y.name) (s.services.take i) = c at *
  have h1 : (0 : Int) ≤ (k : Int) := by omega
  have h2 : (c.take k).length = k := by rw [List.length_take]; omega
  have h3 : k < 549755813887 := by omega
  have h3' : k < 549755813888 := by omega
  have h4 : (c.take k ++ [x]).length + (c.drop k).length < 549755813888 := by rw [List.length_append, h2, List.length_drop, List.length_singleton]; omega
  have h5 : c.length = i := g3
  simp only [ZoT, Zno, ZnU, Znb, Zn3, br, ix, vw, vs, Bd.c, Bd.vl, g1, g2, g4, hx, Option.bind_some, Int.ofNat_lt, decide_true, if_true, Sum.elim_inl]
  simp only [Int.toNat_natCast, h1, g5, Nat.zero_le, Nat.le_refl, and_self, if_true, List.drop_zero, Nat.sub_zero, h2, h3, h3']
  rw [List.take_of_length_le (l := c.drop k) (by rw [List.length_drop]; exact Nat.le_refl _)]
  rw [if_pos h4])
theorem m36 (s : Scm) (h1 : s.messages.length ≤ 1048576) (h2 : s.enums.length ≤ 1048576) (h3 : s.services.length ≤ 1048576) : Zbz s = some ⟨Zax (fun y => y.name) s.messages, Zax (fun y => y.name) s.enums, Zax (fun y => y.name) s.services⟩ := by
 unfold Zbz
 simp only [Zrk, Zrm, Zsf, ZsN, Zqp, Zrf, Zrz, Zqg, vw, lc, ZLs s h1, ZML s _ h2, ZMu s _ _ h3, Option.bind_some, Sum.elim_inl]
end Go.Proofs.Ythagpbkmakocjaa
