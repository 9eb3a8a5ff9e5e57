import Derived.Test.YthagpbkmakocjaaGreatCy20
import Derived.Test.YthagpbkmakocjaaGreatCy21
namespace Go.Proofs.YthagpbkmakocjaaGreat
set_option linter.all false
open Go Go.Eng
def Zny (a b : ByteArray) : Int := if sLt a b = true then -1 else if gtB a b = true then 1 else 0
section
variable {α : Type} [Rw α]
theorem ZjX (nm : α → ByteArray) (out : List α) (x : α) : ∀ k, k ≤ out.length → Zhl nm out x k + ((out.take k).reverse.takeWhile fun y => gtB (nm y) (nm x)).length = k
 | 0, _ => by simp [Zhl]
 | k + 1, hk => by
  have hlt : k < out.length := by omega
  have e : out.getD k Rw.z = out[k] := by rw [List.getD_eq_getElem?_getD, List.getElem?_eq_getElem hlt]; rfl
  have ih := ZjX nm out x k (by omega)
  rw [Zhl, e, List.take_succ_eq_append_getElem hlt, List.reverse_append, List.reverse_singleton, List.singleton_append, List.takeWhile_cons]
  cases hg : gtB (nm out[k]) (nm x) with
  | true => simp only [if_true, List.length_cons]; omega
  | false => simp
theorem Zzm (nm : α → ByteArray) (cf : α → α → Int) (hcf : ∀ x y, decide (cf x y < 0) = gtB (nm y) (nm x)) (out : List α) (x : α) : ZnA nm out x = ZCF cf out x := by
 have h1 := ZjX nm out x out.length (Nat.le_refl _)
 rw [List.take_length] at h1
 have e : (fun y => decide (cf x y < 0)) = fun y => gtB (nm y) (nm x) := funext fun y => hcf x y
 unfold ZnA ZCF
 rw [e]
 have h2 := List.takeWhile_append_dropWhile (p := fun y => gtB (nm y) (nm x)) (l := out.reverse)
 generalize out.reverse.takeWhile (fun y => gtB (nm y) (nm x)) = A at *
 generalize out.reverse.dropWhile (fun y => gtB (nm y) (nm x)) = B at *
 have h3 : out = B.reverse ++ A.reverse := by
  have := congrArg List.reverse h2
  rw [List.reverse_append, List.reverse_reverse] at this
  exact this.symm
 have h4 : Zhl nm out x out.length = B.reverse.length := by
  have := congrArg List.length h3
  rw [List.length_append, List.length_reverse, List.length_reverse] at this
  rw [List.length_reverse]
  omega
 rw [h4]
 conv => lhs; rw [h3]
 rw [List.take_left, List.drop_left]
 simp
theorem ZnE (nm : α → ByteArray) (cf : α → α → Int) (hcf : ∀ x y, decide (cf x y < 0) = gtB (nm y) (nm x)) (l : List α) : Zar nm l = ZsU cf l := by
 unfold Zar ZsU
 congr 1
 funext out x
 exact Zzm nm cf hcf out x
end
end Go.Proofs.YthagpbkmakocjaaGreat
namespace Go.Proofs.YthagpbkmakocjaaGreat
set_option linter.all false
open Go Go.Eng
theorem ZvV : ∀ x : List UInt8, Op.bytesLess x x = false
 | [] => rfl
 | a :: x => by
  unfold Op.bytesLess
  rw [ZvV x]
  have : ¬ a < a := by rw [UInt8.lt_iff_toNat_lt]; omega
  simp [this]
theorem ZHx : ∀ x y z : List UInt8, Op.bytesLess x y = true → Op.bytesLess y z = true → Op.bytesLess x z = true
 | x, [], z, h, _ => by cases x <;> cases h
 | x, b :: y, [], _, h => by cases h
 | [], b :: y, c :: z, _, _ => rfl
 | a :: x, b :: y, c :: z, h1, h2 => by
  unfold Op.bytesLess at h1 h2 ⊢
  simp only [Bool.or_eq_true, Bool.and_eq_true, decide_eq_true_eq, beq_iff_eq, UInt8.lt_iff_toNat_lt] at h1 h2 ⊢
  rcases h1 with h1 | ⟨rfl, h1⟩
  ·rcases h2 with h2 | ⟨rfl, h2⟩
   ·exact .inl (by omega)
   ·exact .inl h1
  ·rcases h2 with h2 | ⟨rfl, h2⟩
   ·exact .inl h2
   ·exact .inr ⟨rfl, ZHx x y z h1 h2⟩
theorem Zu8 : ∀ x y : List UInt8, Op.bytesLess x y = false → x ≠ y → Op.bytesLess y x = true
 | [], [], _, h => absurd rfl h
 | [], b :: y, h, _ => by cases h
 | a :: x, [], _, _ => rfl
 | a :: x, b :: y, h, hne => by
  unfold Op.bytesLess at h ⊢
  simp only [Bool.or_eq_false_iff, Bool.and_eq_false_iff, decide_eq_false_iff_not, beq_eq_false_iff_ne, UInt8.lt_iff_toNat_lt, Bool.or_eq_true, Bool.and_eq_true, decide_eq_true_eq, beq_iff_eq] at h ⊢
  by_cases hab : a = b
  ·subst hab
   refine .inr ⟨rfl, Zu8 x y (h.2.resolve_left (fun q => q rfl)) (fun e => hne (by rw [e]))⟩
  ·have : a.toNat ≠ b.toNat := fun e => hab (UInt8.toNat_inj.1 e)
   exact .inl (by omega)
theorem ZF2 {a b : ByteArray} (h : a.toList = b.toList) : a = b := by
 rw [ByteArray.toList_eq, ByteArray.toList_eq] at h
 obtain ⟨⟨a⟩⟩ := a
 obtain ⟨⟨b⟩⟩ := b
 simp only at h
 rw [h]
theorem ZqR (a : ByteArray) : sLt a a = false := ZvV _
theorem Zpw {a b c : ByteArray} (h : sLt a b = true) (k : sLt b c = true) : sLt a c = true := ZHx _ _ _ h k
theorem Zoz {a b : ByteArray} (h : sLt a b = false) (hne : a ≠ b) : sLt b a = true := Zu8 _ _ h fun e => hne (ZF2 e)
theorem ZCV (a b : ByteArray) : gtB a b = sLt b a := by
 unfold gtB
 cases h : sLt a b with
 | true =>
  cases h2 : sLt b a with
  | true => have := Zpw h h2; rw [ZqR] at this; cases this
  | false => rfl
 | false =>
  by_cases e : a = b
  ·subst e; rw [h]; simp
  ·rw [Zoz h e]; simp [e]
theorem Zfk (a b : ByteArray) : Zny a b < 0 ↔ sLt a b = true := by
 unfold Zny
 cases sLt a b with
 | true => simp
 | false => cases gtB a b <;> simp
theorem Zy2 {α : Type} (nm : α → ByteArray) (x y : α) : decide (Zny (nm x) (nm y) < 0) = gtB (nm y) (nm x) := by
 rw [ZCV, Bool.eq_iff_iff, decide_eq_true_eq, Zfk]
theorem Zxu {α : Type} (nm : α → ByteArray) : CmpLaw fun x y : α => Zny (nm x) (nm y) where
 tr x y w h k := (Zfk _ _).2 (Zpw ((Zfk _ _).1 h) ((Zfk _ _).1 k))
 ng x y w h k q := by
  rw [Zfk] at h k q
  by_cases e : nm x = nm y
  ·rw [e] at q; exact k q
  ·have h1 := Zoz (by simpa using h) e
   exact k (Zpw h1 q)
 ir x h := by rw [Zfk, ZqR] at h; cases h
theorem m61 (a b : ByteArray) : Zb2 a b = some (Zny a b) := by
 unfold Zb2 Zny gtB
 simp only [ZBb, ZyZ, lr, lf, cl, Zc4, Option.bind_some, decide_true, Bool.not_true, Bool.false_eq_true, if_false]
 cases sLt a b with
 | true => rfl
 | false =>
  simp only [Bool.false_eq_true, if_false, Bool.false_or]
  by_cases e : a = b <;> simp [e]
theorem m60 (x y : Msg) : Zbx x y = some (Zny x.name y.name) := by
 unfold Zbx
 simp only [Zzn, vw, m61, Option.bind_some]
theorem m63 (x y : Enm) : Zbr x y = some (Zny x.name y.name) := by
 unfold Zbr
 simp only [ZAf, vw, m61, Option.bind_some]
theorem m65 (x y : Svc) : Zbv x y = some (Zny x.name y.name) := by
 unfold Zbv
 simp only [ZAK, vw, m61, Option.bind_some]
theorem Zdg {α : Type} [Rw α] (nm : α → ByteArray) (z : α) (l : List α) : ZaS z l (fun x y => Zny (nm x) (nm y)) = Zar nm l :=
 (Zji (Zxu nm) l).trans (ZnE nm _ (Zy2 nm) l).symm
end Go.Proofs.YthagpbkmakocjaaGreat
namespace Go.Proofs.YthagpbkmakocjaaGreat
set_option linter.all false
open Go Go.Eng
section
variable {α : Type} [Rw α] [Tid α]
set_option maxRecDepth 20000 in
theorem ZvC (l : List α) (a b n : Nat) (hl : l.length ≤ 1048576) (ha : a + n ≤ l.length) (hb : b + n ≤ l.length) : ∀ (d i : Nat) (v : List α) (N fu : Nat), i + d = n → d < N → d < fu → v.length = l.length →
  ∃ i' v', ZaN (Rw.z : α) a b n fu i v = .inl (i', v') ∧ Zad (Zfm l (a : Int) (b : Int) (n : Int)) N (i, v) = some (.inl v')
 | 0, i, v, N, fu, hi, hN, hf, hv => by
  obtain ⟨N, rfl⟩ : ∃ m, N = m + 1 := ⟨N - 1, by omega⟩
  obtain ⟨fu, rfl⟩ : ∃ m, fu = m + 1 := ⟨fu - 1, by omega⟩
  have e : i = n := by omega
  subst e
  refine ⟨i, v, by rw [ZaN]; simp, ?_⟩
  rw [Zad]
  simp [Zfm, ZhQ, br]
 | d + 1, i, v, N, fu, hi, hN, hf, hv => by
  obtain ⟨N, rfl⟩ : ∃ m, N = m + 1 := ⟨N - 1, by omega⟩
  obtain ⟨fu, rfl⟩ : ∃ m, fu = m + 1 := ⟨fu - 1, by omega⟩
  obtain ⟨i', v', h1, h2⟩ := ZvC l a b n hl ha hb d (i + 1) ((v.set (a + i) (v.getD (b + i) Rw.z)).set (b + i) (v.getD (a + i) Rw.z)) N fu (by omega) (by omega) (by omega) (by simp [hv])
  have g1 : i < n := by omega
  have g2 : i + 1 < 9223372036854775808 := by omega
  have ea : ((a : Int) + (i : Int)) = ((a + i : Nat) : Int) := by omega
  have eb : ((b : Int) + (i : Int)) = ((b + i : Nat) : Int) := by omega
  have wa1 : -9223372036854775808 ≤ ((a + i : Nat) : Int) ∧ ((a + i : Nat) : Int) < 9223372036854775808 := by omega
  have wb1 : -9223372036854775808 ≤ ((b + i : Nat) : Int) ∧ ((b + i : Nat) : Int) < 9223372036854775808 := by omega
  have ra1 : (0 : Int) ≤ ((a + i : Nat) : Int) ∧ ((a + i : Nat) : Int) < (l.length : Int) := by omega
  have rb1 : (0 : Int) ≤ ((b + i : Nat) : Int) ∧ ((b + i : Nat) : Int) < (l.length : Int) := by omega
  have ja : a + i < v.length := by omega
  have jb : b + i < v.length := by omega
  have va : v[a + i]? = some (v.getD (a + i) Rw.z) := by rw [List.getD_eq_getElem?_getD, List.getElem?_eq_getElem ja]; rfl
  have vb : v[b + i]? = some (v.getD (b + i) Rw.z) := by rw [List.getD_eq_getElem?_getD, List.getElem?_eq_getElem jb]; rfl
  refine ⟨i', v', by rw [ZaN, decide_eq_true (by omega), cond_true]; exact h1, ?_⟩
  have hB : Zfm l (a : Int) (b : Int) (n : Int) (i, v) = some (.nx (i + 1, (v.set (a + i) (v.getD (b + i) Rw.z)).set (b + i) (v.getD (a + i) Rw.z))) := by
   dsimp only [Zfm, ZhQ, br, vz, vs, wi, wa, iri, ca, ln, lf, lxe, st, fl, vwr]
   simp only [ea, eb, wa1, wb1, ra1, rb1, ja, jb, va, vb, g1, g2, Int.toNat_natCast, Int.ofNat_lt, decide_true, if_true, and_self, Option.bind_some, List.length_set]
  rw [Zad, hB]
  exact h2
theorem ZJy (l : List α) (a b n : Nat) (cmp : α → α → Int) (hl : l.length ≤ 1048576) (ha : a + n ≤ l.length) (hb : b + n ≤ l.length) : ZaD l (a : Int) (b : Int) (n : Int) = some (Zau Rw.z l a b n cmp) := by
 obtain ⟨i', v', h1, h2⟩ := ZvC l a b n hl ha hb n 0 l big (n + 1) (by omega) (ZaP (by omega)) (by omega) rfl
 unfold ZaD Zau
 rw [Nat.sub_zero, h1]
 simp only [Zi5, Zjf, vz, lr, lf, h2, Option.bind_some]
 rfl
end
end Go.Proofs.YthagpbkmakocjaaGreat
namespace Go.Proofs.YthagpbkmakocjaaGreat
set_option linter.all false
open Go Go.Eng
section
variable {α : Type} [Rw α] [Tid α]
theorem ZpS (l : List α) (m : Nat) (cmp : α → α → Int) (hl : l.length ≤ 1048576) : ∀ (d i j : Nat) (v : List α) (N fu : Nat), i + j ≤ d → d < N → i + j < fu → 0 < i → 0 < j → i ≤ m → m + j ≤ l.length → v.length = l.length →
  ∃ i' j' v', Za5 (Rw.z : α) m cmp fu i j v = .inl (i', j', v') ∧ Zad (ZdX l (m : Int)) N ((i : Int), (j : Int), v) = some (.inl ((i' : Int), v')) ∧ i' ≤ m ∧ m + i' ≤ l.length ∧ v'.length = l.length
 | 0, i, j, v, N, fu, hd, hN, hf, h0, h1, hi, hj, hv => by omega
 | d + 1, i, j, v, N, fu, hd, hN, hf, h0, h1, hi, hj, hv => by
  obtain ⟨N, rfl⟩ : ∃ m, N = m + 1 := ⟨N - 1, by omega⟩
  obtain ⟨fu, rfl⟩ : ∃ m, fu = m + 1 := ⟨fu - 1, by omega⟩
  by_cases he : i = j
  ·subst he
   refine ⟨i, i, v, by rw [Za5]; simp, ?_, hi, hj, hv⟩
   rw [Zad]
   have hB : ZdX l (m : Int) ((i : Int), (i : Int), v) = some (.ex ((i : Int), v)) := by
    dsimp only [ZdX, Zhg, Zf5, Zgp, Zgt, ZgT, ZgE, Zgj, Zhc, br, vz, vs, wi, lc, ln, lf, lxe, fl]
    simp
   rw [hB]
  ·have hne : ¬ (i : Int) = (j : Int) := by omega
   by_cases hlt : j < i
   ·have hlt' : (j : Int) < (i : Int) := by omega
    have e1 : (m : Int) - (i : Int) = ((m - i : Nat) : Int) := by omega
    have w1 : -9223372036854775808 ≤ ((m - i : Nat) : Int) ∧ ((m - i : Nat) : Int) < 9223372036854775808 := by omega
    have w2 : -9223372036854775808 ≤ ((i - j : Nat) : Int) ∧ ((i - j : Nat) : Int) < 9223372036854775808 := by omega
    have e2 : (i : Int) - (j : Int) = ((i - j : Nat) : Int) := by omega
    have hs := ZJy v (m - i) m j cmp (by omega) (by omega) (by omega)
    obtain ⟨s1, _, _⟩ := Zi4 (z := (Rw.z : α)) v (m - i) m j cmp (by omega) (by omega)
    obtain ⟨i', j', v', r1, r2, r3⟩ := ZpS l m cmp hl d (i - j) j (Zau Rw.z v (m - i) m j cmp) N fu (by omega) (by omega) (by omega) (by omega) h1 (by omega) hj (by rw [s1]; exact hv)
    refine ⟨i', j', v', by rw [Za5]; simp only [hne, hlt', decide_false, decide_true, Bool.not_false, cond_true]; exact r1, ?_, r3⟩
    have hB : ZdX l (m : Int) ((i : Int), (j : Int), v) = some (.nx (((i - j : Nat) : Int), (j : Int), Zau Rw.z v (m - i) m j cmp)) := by
     dsimp only [ZdX, Zhg, Zf5, Zgp, Zgt, ZgT, ZgE, Zgj, Zhc, br, vz, vs, wi, lc, ln, lf, lxe, fl]
     simp only [hne, hlt', e1, e2, w1, w2, hs, hv, decide_false, decide_true, Bool.not_false, if_true, and_self, Option.bind_some]
    rw [Zad, hB]
    exact r2
   ·have hlt' : ¬ (j : Int) < (i : Int) := by omega
    have e1 : (m : Int) - (i : Int) = ((m - i : Nat) : Int) := by omega
    have e2 : (j : Int) - (i : Int) = ((j - i : Nat) : Int) := by omega
    have e3 : (m : Int) + (j : Int) = ((m + j : Nat) : Int) := by omega
    have e4 : ((m + j : Nat) : Int) - (i : Int) = ((m + j - i : Nat) : Int) := by omega
    have w1 : -9223372036854775808 ≤ ((m - i : Nat) : Int) ∧ ((m - i : Nat) : Int) < 9223372036854775808 := by omega
    have w2 : -9223372036854775808 ≤ ((j - i : Nat) : Int) ∧ ((j - i : Nat) : Int) < 9223372036854775808 := by omega
    have w3 : -9223372036854775808 ≤ ((m + j : Nat) : Int) ∧ ((m + j : Nat) : Int) < 9223372036854775808 := by omega
    have w4 : -9223372036854775808 ≤ ((m + j - i : Nat) : Int) ∧ ((m + j - i : Nat) : Int) < 9223372036854775808 := by omega
    have hs := ZJy v (m - i) (m + j - i) i cmp (by omega) (by omega) (by omega)
    obtain ⟨s1, _, _⟩ := Zi4 (z := (Rw.z : α)) v (m - i) (m + j - i) i cmp (by omega) (by omega)
    obtain ⟨i', j', v', r1, r2, r3⟩ := ZpS l m cmp hl d i (j - i) (Zau Rw.z v (m - i) (m + j - i) i cmp) N fu (by omega) (by omega) (by omega) h0 (by omega) hi (by omega) (by rw [s1]; exact hv)
    refine ⟨i', j', v', by rw [Za5]; simp only [hne, hlt', decide_false, Bool.not_false, cond_true, cond_false]; exact r1, ?_, r3⟩
    have hB : ZdX l (m : Int) ((i : Int), (j : Int), v) = some (.nx ((i : Int), ((j - i : Nat) : Int), Zau Rw.z v (m - i) (m + j - i) i cmp)) := by
     dsimp only [ZdX, Zhg, Zf5, Zgp, Zgt, ZgT, ZgE, Zgj, Zhc, br, vz, vs, wi, lc, ln, lf, lxe, fl]
     simp only [hne, hlt', e1, e2, e3, e4, w1, w2, w3, w4, hs, hv, decide_false, Bool.not_false, if_true, if_false, Bool.false_eq_true, and_self, Option.bind_some]
    rw [Zad, hB]
    exact r2
theorem ZIS (l : List α) (a m b : Nat) (cmp : α → α → Int) (hl : l.length ≤ 1048576) (h1 : a < m) (h2 : m < b) (h3 : b ≤ l.length) : Zbt l (a : Int) (m : Int) (b : Int) = some (ZaA Rw.z l a m b cmp) := by
 obtain ⟨i', j', v', r1, r2, r3, r4, r5⟩ := ZpS l m cmp hl ((m - a) + (b - m)) (m - a) (b - m) l big ((m - a) + (b - m) + 1) (Nat.le_refl _) (ZaP (by omega)) (by omega) (by omega) (by omega) (by omega) (by omega) rfl
 have e1 : (m : Int) - (a : Int) = ((m - a : Nat) : Int) := by omega
 have e2 : (b : Int) - (m : Int) = ((b - m : Nat) : Int) := by omega
 have e3 : (m : Int) - (i' : Int) = ((m - i' : Nat) : Int) := by omega
 have w1 : -9223372036854775808 ≤ ((m - a : Nat) : Int) ∧ ((m - a : Nat) : Int) < 9223372036854775808 := by omega
 have w2 : -9223372036854775808 ≤ ((b - m : Nat) : Int) ∧ ((b - m : Nat) : Int) < 9223372036854775808 := by omega
 have w3 : -9223372036854775808 ≤ ((m - i' : Nat) : Int) ∧ ((m - i' : Nat) : Int) < 9223372036854775808 := by omega
 have hs := ZJy v' (m - i') m i' cmp (by omega) (by omega) (by omega)
 unfold Zbt ZaA
 rw [r1]
 dsimp only [Zje, Zg0, ZfW, Zg2, br, vz, vs, wi, lc, ln, lf, lxe, fl, lr]
 simp only [e1, e2, w1, w2, r2, and_self, if_true, Option.bind_some, Sum.elim_inl, e3, w3, r5, hs]
end
end Go.Proofs.YthagpbkmakocjaaGreat
namespace Go.Proofs.YthagpbkmakocjaaGreat
set_option linter.all false
open Go Go.Eng
section
variable {α : Type} [Rw α] [Tid α]
theorem ZGs (l : List α) (a b : Nat) (pf : α → α → Option Int) (cmp : α → α → Int) (hp : ∀ x y, pf x y = some (cmp x y)) (v1 : Int) (hl : l.length ≤ 1048576) : ∀ (j : Nat) (v : List α) (N fu : Nat), j < N → j < fu → j < l.length → v.length = l.length →
  ∃ j' v', ZaK (Rw.z : α) a cmp fu j v = .inl (j', v') ∧ Zad (Zdr l (a : Int) (b : Int) pf v1) N ((j : Int), v) = some (.inl v') ∧ v'.length = l.length := by
 intro j
 induction j with
 | zero =>
  intro v N fu hN hf hj hv
  obtain ⟨N, rfl⟩ : ∃ m, N = m + 1 := ⟨N - 1, by omega⟩
  obtain ⟨fu, rfl⟩ : ∃ m, fu = m + 1 := ⟨fu - 1, by omega⟩
  have g : ¬ (a : Int) < ((0 : Nat) : Int) := by omega
  refine ⟨0, v, by rw [ZaK]; simp only [g, decide_false, Bool.false_and, cond_false], ?_, hv⟩
  have hB : Zdr l (a : Int) (b : Int) pf v1 (((0 : Nat) : Int), v) = some (.ex v) := by
   dsimp only [Zdr, Zft, br, vz, vg, vs, wi, iri, ca, cag, cf, cfg, lc, ln, lf, lxe, fl, st, vwr, lr]
   simp only [g, decide_false, Bool.false_eq_true, false_implies, Bool.false_and, if_true, if_false]
  rw [Zad, hB]
 | succ j ih =>
  intro v N fu hN hf hj hv
  obtain ⟨N, rfl⟩ : ∃ m, N = m + 1 := ⟨N - 1, by omega⟩
  obtain ⟨fu, rfl⟩ : ∃ m, fu = m + 1 := ⟨fu - 1, by omega⟩
  by_cases g : (a : Int) < ((j + 1 : Nat) : Int)
  ·have e1 : ((j + 1 : Nat) : Int) - 1 = (j : Int) := by omega
   have w1 : -9223372036854775808 ≤ (j : Int) ∧ (j : Int) < 9223372036854775808 := by omega
   have r1 : (0 : Int) ≤ ((j + 1 : Nat) : Int) ∧ ((j + 1 : Nat) : Int) < (l.length : Int) := by omega
   have r2 : (0 : Int) ≤ (j : Int) ∧ (j : Int) < (l.length : Int) := by omega
   have k1 : j + 1 < v.length := by omega
   have k2 : j < v.length := by omega
   have v1' : v[j + 1]? = some (v.getD (j + 1) Rw.z) := by rw [List.getD_eq_getElem?_getD, List.getElem?_eq_getElem k1]; rfl
   have v2' : v[j]? = some (v.getD j Rw.z) := by rw [List.getD_eq_getElem?_getD, List.getElem?_eq_getElem k2]; rfl
   have e2 : j + 1 - 1 = j := rfl
   by_cases hc : cmp (v.getD (j + 1) Rw.z) (v.getD j Rw.z) < 0
   ·obtain ⟨j', v', q1, q2, q3⟩ := ih ((v.set (j + 1) (v.getD j Rw.z)).set j (v.getD (j + 1) Rw.z)) N fu (by omega) (by omega) (by omega) (by simp [hv])
    refine ⟨j', v', by rw [ZaK]; simp only [g, e2, hc, decide_true, Bool.and_self, cond_true]; exact q1, ?_, q3⟩
    have hB : Zdr l (a : Int) (b : Int) pf v1 (((j + 1 : Nat) : Int), v) = some (.nx ((j : Int), (v.set (j + 1) (v.getD j Rw.z)).set j (v.getD (j + 1) Rw.z))) := by
     dsimp only [Zdr, Zft, br, vz, vg, vs, wi, iri, ca, cag, cf, cfg, lc, ln, lf, lxe, fl, st, vwr, lr]
     simp only [g, e1, w1, r1, r2, k1, k2, v1', v2', hp, hc, decide_true, forall_const, and_self, Bool.and_self, if_true, Int.toNat_natCast, Option.isSome_some, Option.getD_some, Option.bind_some, List.length_set]
    rw [Zad, hB]
    exact q2
   ·refine ⟨j + 1, v, by rw [ZaK]; simp only [g, e2, hc, decide_true, decide_false, Bool.and_false, cond_false], ?_, hv⟩
    have hB : Zdr l (a : Int) (b : Int) pf v1 (((j + 1 : Nat) : Int), v) = some (.ex v) := by
     dsimp only [Zdr, Zft, br, vz, vg, vs, wi, iri, ca, cag, cf, cfg, lc, ln, lf, lxe, fl, st, vwr, lr]
     simp only [g, e1, w1, r1, r2, k1, k2, hp, hc, decide_true, decide_false, forall_const, and_self, Bool.and_false, Bool.false_eq_true, if_true, if_false, Int.toNat_natCast, Option.isSome_some, Option.getD_some]
    rw [Zad, hB]
  ·refine ⟨j + 1, v, by rw [ZaK]; simp only [g, decide_false, Bool.false_and, cond_false], ?_, hv⟩
   have hB : Zdr l (a : Int) (b : Int) pf v1 (((j + 1 : Nat) : Int), v) = some (.ex v) := by
    dsimp only [Zdr, Zft, br, vz, vg, vs, wi, iri, ca, cag, cf, cfg, lc, ln, lf, lxe, fl, st, vwr, lr]
    simp only [g, decide_false, Bool.false_eq_true, false_implies, Bool.false_and, if_true, if_false]
   rw [Zad, hB]
theorem ZqB (l : List α) (a b : Nat) (pf : α → α → Option Int) (cmp : α → α → Int) (hp : ∀ x y, pf x y = some (cmp x y)) (hl : l.length ≤ 1048576) (hb : b ≤ l.length) : ∀ (d i : Nat) (v : List α) (N fu : Nat), b - i ≤ d → d < N → b - i < fu → v.length = l.length →
  ∃ i' v', Za0 (Rw.z : α) a b cmp fu i v = .inl (i', v') ∧ (i < 4611686018427387904 → Zad (ZeZ l (a : Int) (b : Int) pf) N ((i : Int), v) = some (.inl v')) ∧ v'.length = l.length
 | d, i, v, N, fu, hd, hN, hf, hv => by
  obtain ⟨N, rfl⟩ : ∃ m, N = m + 1 := ⟨N - 1, by omega⟩
  obtain ⟨fu, rfl⟩ : ∃ m, fu = m + 1 := ⟨fu - 1, by omega⟩
  by_cases g : i < b
  ·obtain ⟨d, rfl⟩ : ∃ m, d = m + 1 := ⟨d - 1, by omega⟩
   have g' : (i : Int) < (b : Int) := by omega
   obtain ⟨j', w, q1, q2, q3⟩ := ZGs l a b pf cmp hp (i : Int) hl i v big (i + 1) (ZaP (by omega)) (by omega) (by omega) hv
   obtain ⟨i', v', r1, r2, r3⟩ := ZqB l a b pf cmp hp hl hb d (i + 1) w N fu (by omega) (by omega) (by omega) q3
   refine ⟨i', v', by rw [Za0]; simp only [g', decide_true, cond_true, q1, Sum.elim_inl]; exact r1, fun hi => ?_, r3⟩
   have w1 : -9223372036854775808 ≤ (i : Int) + 1 ∧ (i : Int) + 1 < 9223372036854775808 := by omega
   have hB : ZeZ l (a : Int) (b : Int) pf ((i : Int), v) = some (.nx ((i : Int) + 1, w)) := by
    dsimp only [ZeZ, ZhE, ZhL, ZhP, br, vz, vg, vs, wi, iri, ca, cag, cf, cfg, lc, ln, lf, lxe, fl, st, vwr, lr]
    simp only [g', q2, w1, decide_true, if_true, and_self, Option.bind_some, Sum.elim_inl]
   rw [Zad, hB]
   exact r2 (by omega)
  ·have g' : ¬ (i : Int) < (b : Int) := by omega
   refine ⟨i, v, by rw [Za0]; simp only [g', decide_false, cond_false], fun _ => ?_, hv⟩
   have hB : ZeZ l (a : Int) (b : Int) pf ((i : Int), v) = some (.ex v) := by
    dsimp only [ZeZ, ZhE, ZhL, ZhP, br, vz, vg, vs, wi, iri, ca, cag, cf, cfg, lc, ln, lf, lxe, fl, st, vwr, lr]
    simp only [g', decide_false, Bool.false_eq_true, if_false]
   rw [Zad, hB]
theorem ZLa (l : List α) (a b : Nat) (pf : α → α → Option Int) (cmp : α → α → Int) (hp : ∀ x y, pf x y = some (cmp x y)) (hl : l.length ≤ 1048576) (ha : a ≤ 1048576) (hb : b ≤ l.length) : Zav l (a : Int) (b : Int) pf = some (ZaY Rw.z l a b cmp) := by
 obtain ⟨i', v', r1, r2, r3⟩ := ZqB l a b pf cmp hp hl hb (b - (a + 1)) (a + 1) l big (b - (a + 1) + 1) (Nat.le_refl _) (ZaP (by omega)) (by omega) rfl
 have w1 : -9223372036854775808 ≤ (a : Int) + 1 ∧ (a : Int) + 1 < 9223372036854775808 := by omega
 have r4 := r2 (by omega)
 rw [show ((a + 1 : Nat) : Int) = (a : Int) + 1 from by omega] at r4
 unfold Zav ZaY
 rw [r1]
 dsimp only [Zi9, ZiY, br, vz, vg, vs, wi, iri, ca, cag, cf, cfg, lc, ln, lf, lxe, fl, st, vwr, lr]
 simp only [w1, r4, and_self, if_true, Option.bind_some, Sum.elim_inl]
end
end Go.Proofs.YthagpbkmakocjaaGreat
namespace Go.Proofs.YthagpbkmakocjaaGreat
set_option linter.all false
open Go Go.Eng
section
variable {α : Type} [Rw α] [Tid α]
theorem ZiS (l : List α) (a b : Nat) (cmp : α → α → Int) (hl : l.length ≤ 1048576) (hb : b ≤ l.length) : (ZaY (Rw.z : α) l a b cmp).length = l.length := by
 obtain ⟨i', v', r1, _, r3⟩ := ZqB l a b (fun x y => some (cmp x y)) cmp (fun _ _ => rfl) hl hb (b - (a + 1)) (a + 1) l (b - (a + 1) + 1) (b - (a + 1) + 1) (Nat.le_refl _) (by omega) (by omega) rfl
 unfold ZaY
 rw [r1]
 exact r3
def ZzE (pf : α → α → Option Int) (cmp : α → α → Int) : Prop := ∀ (fu : Nat) (l : List α) (a m b : Nat), l.length ≤ 1048576 → b - a < fu → a < m → m < b → b ≤ l.length → Zaq fu l (a : Int) (m : Int) (b : Int) pf = some (Zac Rw.z fu l a m b cmp) ∧ (Zac (Rw.z : α) fu l a m b cmp).length = l.length
section
variable {pf : α → α → Option Int} {cmp : α → α → Int}
theorem ZFI (hp : ∀ x y, pf x y = some (cmp x y)) (l : List α) (hl : l.length ≤ 1048576) : ∀ (d x y : Nat) (v : List α) (N fu : Nat), l.length + 1 - y ≤ d → d < N → l.length + 1 - y < fu → x ≤ l.length → v.length = l.length →
  ∃ x' y' v', Zbl (Rw.z : α) l.length cmp fu x y v = .inl (x', y', v') ∧ Zad (ZiD l (l.length : Int) pf) N (x, y, v) = some (.inl (x', v')) ∧ v'.length = l.length ∧ x' ≤ l.length
 | d, x, y, v, N, fu, hd, hN, hf, hx, hv => by
  obtain ⟨N, rfl⟩ : ∃ m, N = m + 1 := ⟨N - 1, by omega⟩
  obtain ⟨fu, rfl⟩ : ∃ m, fu = m + 1 := ⟨fu - 1, by omega⟩
  by_cases g : y ≤ l.length
  ·obtain ⟨d, rfl⟩ : ∃ m, d = m + 1 := ⟨d - 1, by omega⟩
   have g' : (y : Int) ≤ (l.length : Int) := by omega
   have hs := ZLa v x y pf cmp hp (by omega) (by omega) (by omega)
   have hlen := ZiS v x y cmp (by omega) (by omega)
   obtain ⟨x', y', v', q1, q2, q3⟩ := ZFI hp l hl d y (y + 20) (ZaY Rw.z v x y cmp) N fu (by omega) (by omega) (by omega) g (by omega)
   refine ⟨x', y', v', by rw [Zbl, decide_eq_true g', cond_true]; exact q1, ?_, q3⟩
   have w1 : y + 20 < 9223372036854775808 := by omega
   have hB : ZiD l (l.length : Int) pf (x, y, v) = some (.nx (y, y + 20, ZaY Rw.z v x y cmp)) := by
    dsimp only [ZiD, Zog, Zm6, ZmA, Zne, br, vz, vs, wa, wm, wi, lc, ln, lf, lxe, fl, lr, eqN]
    simp only [g', hv, hs, w1, decide_true, if_true, Option.bind_some]
   rw [Zad, hB]
   exact q2
  ·have g' : ¬ (y : Int) ≤ (l.length : Int) := by omega
   refine ⟨x, y, v, by rw [Zbl, decide_eq_false g', cond_false], ?_, hv, hx⟩
   have hB : ZiD l (l.length : Int) pf (x, y, v) = some (.ex (x, v)) := by
    dsimp only [ZiD, Zog, Zm6, ZmA, Zne, br, vz, vs, wa, wm, wi, lc, ln, lf, lxe, fl, lr, eqN]
    simp only [g', decide_false, Bool.false_eq_true, if_false]
   rw [Zad, hB]
theorem ZFG (hM : ZzE pf cmp) (l : List α) (hl : l.length ≤ 1048576) (s : Nat) (hs0 : 0 < s) (hs1 : s ≤ l.length) : ∀ (d x y : Nat) (v : List α) (N fu : Nat), l.length + 1 - y ≤ d → d < N → l.length + 1 - y < fu → x ≤ l.length → y = x + 2 * s → v.length = l.length →
  ∃ x' y' v', Zbj (Rw.z : α) l.length cmp s fu x y v = .inl (x', y', v') ∧ Zad (ZiL l (l.length : Int) pf s) N (x, y, v) = some (.inl (x', v')) ∧ v'.length = l.length ∧ x' ≤ l.length
 | d, x, y, v, N, fu, hd, hN, hf, hx, hy, hv => by
  obtain ⟨N, rfl⟩ : ∃ m, N = m + 1 := ⟨N - 1, by omega⟩
  obtain ⟨fu, rfl⟩ : ∃ m, fu = m + 1 := ⟨fu - 1, by omega⟩
  by_cases g : y ≤ l.length
  ·obtain ⟨d, rfl⟩ : ∃ m, d = m + 1 := ⟨d - 1, by omega⟩
   have g' : (y : Int) ≤ (l.length : Int) := by omega
   obtain ⟨hs, hlen⟩ := hM (y - x + 1) v x (x + s) y (by omega) (by omega) (by omega) (by omega) (by omega)
   obtain ⟨x', y', v', q1, q2, q3⟩ := ZFG hM l hl s hs0 hs1 d y (y + 2 * s) (Zac Rw.z (y - x + 1) v x (x + s) y cmp) N fu (by omega) (by omega) (by omega) g rfl (by omega)
   refine ⟨x', y', v', by rw [Zbj, decide_eq_true g', cond_true]; exact q1, ?_, q3⟩
   have w1 : y + 2 * s < 9223372036854775808 := by omega
   have w2 : 2 * s < 9223372036854775808 := by omega
   have w3 : x + s < 9223372036854775808 := by omega
   have e1 : ((y : Int) - (x : Int) + 1).toNat = y - x + 1 := by omega
   have hB : ZiL l (l.length : Int) pf s (x, y, v) = some (.nx (y, y + 2 * s, Zac Rw.z (y - x + 1) v x (x + s) y cmp)) := by
    dsimp only [ZiL, Znj, Zm0, ZmN, Zn4, br, vz, vs, wa, wm, wi, lc, ln, lf, lxe, fl, lr, eqN]
    simp only [g', hv, e1, hs, w1, w2, w3, decide_true, if_true, Option.bind_some]
   rw [Zad, hB]
   exact q2
  ·have g' : ¬ (y : Int) ≤ (l.length : Int) := by omega
   refine ⟨x, y, v, by rw [Zbj, decide_eq_false g', cond_false], ?_, hv, hx⟩
   have hB : ZiL l (l.length : Int) pf s (x, y, v) = some (.ex (x, v)) := by
    dsimp only [ZiL, Znj, Zm0, ZmN, Zn4, br, vz, vs, wa, wm, wi, lc, ln, lf, lxe, fl, lr, eqN]
    simp only [g', decide_false, Bool.false_eq_true, if_false]
   rw [Zad, hB]
theorem Zyh (hM : ZzE pf cmp) (l : List α) (hl : l.length ≤ 1048576) : ∀ (d s : Nat) (v : List α) (N fu : Nat), 0 < s → l.length - s ≤ d → d < N → l.length - s < fu → v.length = l.length →
  ∃ s' v', Za4 (Rw.z : α) l.length cmp fu s v = .inl (s', v') ∧ Zad (Zgd l (l.length : Int) pf) N (s, v) = some (.inl v') ∧ v'.length = l.length
 | d, s, v, N, fu, hs0, hd, hN, hf, hv => by
  obtain ⟨N, rfl⟩ : ∃ m, N = m + 1 := ⟨N - 1, by omega⟩
  obtain ⟨fu, rfl⟩ : ∃ m, fu = m + 1 := ⟨fu - 1, by omega⟩
  by_cases g : s < l.length
  ·obtain ⟨d, rfl⟩ : ∃ m, d = m + 1 := ⟨d - 1, by omega⟩
   have g' : (s : Int) < (l.length : Int) := by omega
   obtain ⟨x, y, w, p1, p2, p3, p4⟩ := ZFG hM l hl s hs0 (by omega) (l.length + 1 - 2 * s) 0 (2 * s) v big (l.length + 1 - 2 * s + 1) (Nat.le_refl _) (ZaP (by omega)) (by omega) (by omega) (by omega) hv
   have w1 : s * 2 < 9223372036854775808 := by omega
   have w2 : 2 * s < 9223372036854775808 := by omega
   have w3 : x + s < 9223372036854775808 := by omega
   by_cases hc : x + s < l.length
   ·have hc' : ((x + s : Nat) : Int) < (l.length : Int) := by omega
    obtain ⟨hs, hlen⟩ := hM (l.length - x + 1) w x (x + s) l.length (by omega) (by omega) (by omega) hc (by omega)
    obtain ⟨s', v', q1, q2, q3⟩ := Zyh hM l hl d (s * 2) (Zac Rw.z (l.length - x + 1) w x (x + s) l.length cmp) N fu (by omega) (by omega) (by omega) (by omega) (by omega)
    refine ⟨s', v', by rw [Za4, decide_eq_true g', cond_true, p1]; simp only [Sum.elim_inl, decide_eq_true hc', cond_true]; exact q1, ?_, q3⟩
    have e1 : ((l.length : Int) - (x : Int) + 1).toNat = l.length - x + 1 := by omega
    have hB : Zgd l (l.length : Int) pf (s, v) = some (.nx (s * 2, Zac Rw.z (l.length - x + 1) w x (x + s) l.length cmp)) := by
     dsimp only [Zgd, ZkE, ZgW, Zf2, Zf3, Zgv, ZgO, Zf1, Zha, br, vz, vs, wa, wm, wi, lc, ln, lf, lxe, fl, lr, eqN]
     simp only [g', p2, p3, e1, hs, w1, w2, w3, hc', decide_true, if_true, Option.bind_some, Sum.elim_inl]
    rw [Zad, hB]
    exact q2
   ·have hc' : ¬ ((x + s : Nat) : Int) < (l.length : Int) := by omega
    obtain ⟨s', v', q1, q2, q3⟩ := Zyh hM l hl d (s * 2) w N fu (by omega) (by omega) (by omega) (by omega) p3
    refine ⟨s', v', by rw [Za4, decide_eq_true g', cond_true, p1]; simp only [Sum.elim_inl, decide_eq_false hc', cond_false]; exact q1, ?_, q3⟩
    have hB : Zgd l (l.length : Int) pf (s, v) = some (.nx (s * 2, w)) := by
     dsimp only [Zgd, ZkE, ZgW, Zf2, Zf3, Zgv, ZgO, Zf1, Zha, br, vz, vs, wa, wm, wi, lc, ln, lf, lxe, fl, lr, eqN]
     simp only [g', p2, p3, w1, w2, w3, hc', decide_true, decide_false, Bool.false_eq_true, if_true, if_false, Option.bind_some, Sum.elim_inl]
    rw [Zad, hB]
    exact q2
  ·have g' : ¬ (s : Int) < (l.length : Int) := by omega
   refine ⟨s, v, by rw [Za4, decide_eq_false g', cond_false], ?_, hv⟩
   have hB : Zgd l (l.length : Int) pf (s, v) = some (.ex v) := by
    dsimp only [Zgd, ZkE, ZgW, Zf2, Zf3, Zgv, ZgO, Zf1, Zha, br, vz, vs, wa, wm, wi, lc, ln, lf, lxe, fl, lr, eqN]
    simp only [g', decide_false, Bool.false_eq_true, if_false]
   rw [Zad, hB]
theorem m59 (hM : ZzE pf cmp) (hp : ∀ x y, pf x y = some (cmp x y)) (l : List α) (hl : l.length ≤ 1048576) : ZaR l pf = some (ZaS Rw.z l cmp) := by
 obtain ⟨x, y, w, p1, p2, p3, p4⟩ := ZFI hp l hl (l.length + 1 - 20) 0 20 l big (l.length + 1 - 20 + 1) (Nat.le_refl _) (ZaP (by omega)) (by omega) (by omega) rfl
 have hs := ZLa w x l.length pf cmp hp (by omega) (by omega) (by omega)
 have hlen := ZiS w x l.length cmp (by omega) (by omega)
 obtain ⟨s', v', q1, q2, q3⟩ := Zyh hM l hl (l.length - 20) 20 (ZaY Rw.z w x l.length cmp) big (l.length - 20 + 1) (by omega) (Nat.le_refl _) (ZaP (by omega)) (by omega) (by omega)
 unfold ZaR ZaS ZfJ
 rw [p1]
 dsimp only [ZbU, Zq4, ZoE, ZpF, Zj0, Zjj, Zjq, ZjR, br, vz, vs, wa, wm, wi, lc, ln, lf, lxe, fl, lr, eqN]
 simp only [p2, p3, hs, q1, q2, if_true, Option.bind_some, Sum.elim_inl]
end
end
end Go.Proofs.YthagpbkmakocjaaGreat
namespace Go.Proofs.YthagpbkmakocjaaGreat
set_option linter.all false
open Go Go.Eng
theorem m30 (h1 : ZzE (fun x y => Zbx x y) fun x y => Zny x.name y.name) (h2 : ZzE (fun x y => Zbr x y) fun x y => Zny x.name y.name) (h3 : ZzE (fun x y => Zbv x y) fun x y => Zny x.name y.name)
  (ms : List Msg) (es : List Enm) (us : List Svc) (l1 : ms.length ≤ 1048576) (l2 : es.length ≤ 1048576) (l3 : us.length ≤ 1048576) : Zck ms es us = some (Zar (fun y : Msg => y.name) ms, Zar (fun y : Enm => y.name) es, Zar (fun y : Svc => y.name) us) := by
 have s1 := m59 h1 (fun x y => m60 x y) ms l1
 have s2 := m59 h2 (fun x y => m63 x y) es l2
 have s3 := m59 h3 (fun x y => m65 x y) us l3
 rw [Zdg (fun y : Msg => y.name)] at s1
 rw [Zdg (fun y : Enm => y.name)] at s2
 rw [Zdg (fun y : Svc => y.name)] at s3
 unfold Zck
 dsimp only [ZCa, Zyb, Zyj, ZCh, ZxC, ZxL, Zxw, ZBB, br, vz, vs, wa, wm, wi, lc, ln, lf, lfe, lxe, fl, lr, vw]
 simp only [s1, s2, s3, Option.bind_some, Zcb, and_self, if_true]
end Go.Proofs.YthagpbkmakocjaaGreat
namespace Go.Proofs.YthagpbkmakocjaaGreat
set_option linter.all false
open Go Go.Eng
theorem ZJA {n : Nat} (h : n < 9223372036854775808) : IntKind.u64.wrap (n : Int) = (n : Int) := by
 simp only [IntKind.wrap, IntKind.bits, IntKind.signed]
 simp
 omega
theorem ZKF {n : Nat} (h : n < 9223372036854775808) : IntKind.i64.wrap (n : Int) = (n : Int) := by
 simp only [IntKind.wrap, IntKind.bits, IntKind.signed]
 simp
 omega
theorem ZvF {x y : Nat} (h : x + y < 9223372036854775808) : IntKind.i64.wrap (Zaw .u64 (IntKind.u64.wrap ((x : Int) + (y : Int))) 1) = (((x + y) / 2 : Nat) : Int) := by
 rw [show (x : Int) + (y : Int) = ((x + y : Nat) : Int) from by omega, ZJA h]
 have : Zaw .u64 ((x + y : Nat) : Int) 1 = (((x + y) / 2 : Nat) : Int) := by
  unfold Zaw
  have e : (2 : Int) ^ (min (1 : Int).toNat IntKind.u64.bits) = 2 := by decide
  rw [e, Int.fdiv_eq_ediv_of_nonneg _ (by decide)]
  omega
 rw [this]
 exact ZKF (by omega)
end Go.Proofs.YthagpbkmakocjaaGreat
namespace Go.Proofs.YthagpbkmakocjaaGreat
set_option linter.all false
open Go Go.Eng
section
variable {α : Type} [Rw α] [Tid α]
theorem Zpj (l : List α) (a : Nat) (pf : α → α → Option Int) (cmp : α → α → Int) (hp : ∀ x y, pf x y = some (cmp x y)) (hl : l.length ≤ 1048576) (ha : a < l.length) : ∀ (d i j N fu : Nat), j - i ≤ d → d < N → j - i < fu → i ≤ j → j ≤ l.length →
  ∃ i' j', Zaz (Rw.z : α) l a cmp fu i j = .inl (i', j') ∧ Zad (ZdT l (a : Int) pf) N ((i : Int), (j : Int)) = some (.inl (i' : Int)) ∧ i ≤ i' ∧ i' ≤ j
 | d, i, j, N, fu, hd, hN, hf, hij, hj => by
  obtain ⟨N, rfl⟩ : ∃ m, N = m + 1 := ⟨N - 1, by omega⟩
  obtain ⟨fu, rfl⟩ : ∃ m, fu = m + 1 := ⟨fu - 1, by omega⟩
  by_cases g : i < j
  ·obtain ⟨d, rfl⟩ : ∃ m, d = m + 1 := ⟨d - 1, by omega⟩
   have g' : (i : Int) < (j : Int) := by omega
   have hh1 : i ≤ (i + j) / 2 := by omega
   have hh2 : (i + j) / 2 < j := by omega
   have mid := ZvF (x := i) (y := j) (by omega)
   have w1 : -9223372036854775808 ≤ (i : Int) + (j : Int) ∧ (i : Int) + (j : Int) < 9223372036854775808 := by omega
   have hone : (0 : Int) ≤ 1 := by decide
   by_cases hc : cmp (l.getD ((i + j) / 2) Rw.z) (l.getD a Rw.z) < 0
   ·obtain ⟨i', j', q1, q2, q3, q4⟩ := Zpj l a pf cmp hp hl ha d ((i + j) / 2 + 1) j N fu (by omega) (by omega) (by omega) (by omega) (by omega)
    refine ⟨i', j', by rw [Zaz, decide_eq_true g', cond_true, decide_eq_true hc]; exact q1, ?_, by omega, by omega⟩
    have hB : ZdT l (a : Int) pf ((i : Int), (j : Int)) = some (.nx (((((i + j) / 2 : Nat) : Int) + 1), (j : Int))) := by
     dsimp only [ZdT, Zfv, br, vz, vg, vs, v2, wi, wk, shr, iri, ca, cag, cf, cfg, lc, ln, lf, lxe, fl, st, vwr, lr]
     rw [mid]
     generalize (i + j) / 2 = h at *
     have r1 : (0 : Int) ≤ (h : Int) ∧ (h : Int) < (l.length : Int) := by omega
     have r2 : (0 : Int) ≤ (a : Int) ∧ (a : Int) < (l.length : Int) := by omega
     have w2 : -9223372036854775808 ≤ (h : Int) + 1 ∧ (h : Int) + 1 < 9223372036854775808 := by omega
     have e1 : l[h]? = some (l.getD h Rw.z) := by rw [List.getD_eq_getElem?_getD, List.getElem?_eq_getElem (by omega)]; rfl
     have e2 : l[a]? = some (l.getD a Rw.z) := by rw [List.getD_eq_getElem?_getD, List.getElem?_eq_getElem (by omega)]; rfl
     simp only [g', w1, w2, r1, r2, e1, e2, hp, hc, hone, decide_true, if_true, and_self, Int.toNat_natCast, Option.bind_some]
     try rfl
    rw [Zad, hB]
    exact q2
   ·obtain ⟨i', j', q1, q2, q3, q4⟩ := Zpj l a pf cmp hp hl ha d i ((i + j) / 2) N fu (by omega) (by omega) (by omega) (by omega) (by omega)
    refine ⟨i', j', by rw [Zaz, decide_eq_true g', cond_true, decide_eq_false hc]; exact q1, ?_, by omega, by omega⟩
    have hB : ZdT l (a : Int) pf ((i : Int), (j : Int)) = some (.nx ((i : Int), (((i + j) / 2 : Nat) : Int))) := by
     dsimp only [ZdT, Zfv, br, vz, vg, vs, v2, wi, wk, shr, iri, ca, cag, cf, cfg, lc, ln, lf, lxe, fl, st, vwr, lr]
     rw [mid]
     generalize (i + j) / 2 = h at *
     have r1 : (0 : Int) ≤ (h : Int) ∧ (h : Int) < (l.length : Int) := by omega
     have r2 : (0 : Int) ≤ (a : Int) ∧ (a : Int) < (l.length : Int) := by omega
     have w2 : -9223372036854775808 ≤ (h : Int) + 1 ∧ (h : Int) + 1 < 9223372036854775808 := by omega
     have e1 : l[h]? = some (l.getD h Rw.z) := by rw [List.getD_eq_getElem?_getD, List.getElem?_eq_getElem (by omega)]; rfl
     have e2 : l[a]? = some (l.getD a Rw.z) := by rw [List.getD_eq_getElem?_getD, List.getElem?_eq_getElem (by omega)]; rfl
     simp only [g', w1, w2, r1, r2, e1, e2, hp, hc, hone, decide_true, decide_false, Bool.false_eq_true, if_true, if_false, and_self, Int.toNat_natCast, Option.bind_some]
     try rfl
    rw [Zad, hB]
    exact q2
  ·have g' : ¬ (i : Int) < (j : Int) := by omega
   refine ⟨i, j, by rw [Zaz, decide_eq_false g', cond_false], ?_, Nat.le_refl _, hij⟩
   have hB : ZdT l (a : Int) pf ((i : Int), (j : Int)) = some (.ex (i : Int)) := by
    dsimp only [ZdT, Zfv, br, vz, vg, vs, v2, wi, wk, shr, iri, ca, cag, cf, cfg, lc, ln, lf, lxe, fl, st, vwr, lr]
    simp only [g', decide_false, Bool.false_eq_true, if_false]
   rw [Zad, hB]
theorem ZoG (l : List α) (a : Nat) (pf : α → α → Option Int) (cmp : α → α → Int) (hp : ∀ x y, pf x y = some (cmp x y)) (hl : l.length ≤ 1048576) (ha : a < l.length) : ∀ (d i j N fu : Nat), j - i ≤ d → d < N → j - i < fu → i ≤ j → j ≤ l.length →
  ∃ i' j', ZaB (Rw.z : α) l a cmp fu i j = .inl (i', j') ∧ Zad (ZdR l (a : Int) pf) N ((i : Int), (j : Int)) = some (.inl (i' : Int)) ∧ i ≤ i' ∧ i' ≤ j
 | d, i, j, N, fu, hd, hN, hf, hij, hj => by
  obtain ⟨N, rfl⟩ : ∃ m, N = m + 1 := ⟨N - 1, by omega⟩
  obtain ⟨fu, rfl⟩ : ∃ m, fu = m + 1 := ⟨fu - 1, by omega⟩
  by_cases g : i < j
  ·obtain ⟨d, rfl⟩ : ∃ m, d = m + 1 := ⟨d - 1, by omega⟩
   have g' : (i : Int) < (j : Int) := by omega
   have hh1 : i ≤ (i + j) / 2 := by omega
   have hh2 : (i + j) / 2 < j := by omega
   have mid := ZvF (x := i) (y := j) (by omega)
   have w1 : -9223372036854775808 ≤ (i : Int) + (j : Int) ∧ (i : Int) + (j : Int) < 9223372036854775808 := by omega
   have hone : (0 : Int) ≤ 1 := by decide
   by_cases hc : cmp (l.getD a Rw.z) (l.getD ((i + j) / 2) Rw.z) < 0
   ·obtain ⟨i', j', q1, q2, q3, q4⟩ := ZoG l a pf cmp hp hl ha d i ((i + j) / 2) N fu (by omega) (by omega) (by omega) (by omega) (by omega)
    refine ⟨i', j', by rw [ZaB, decide_eq_true g', cond_true, decide_eq_true hc]; exact q1, ?_, by omega, by omega⟩
    have hB : ZdR l (a : Int) pf ((i : Int), (j : Int)) = some (.nx ((i : Int), (((i + j) / 2 : Nat) : Int))) := by
     dsimp only [ZdR, Zfn, br, vz, vg, vs, v2, wi, wk, shr, iri, ca, cag, cf, cfg, lc, ln, lf, lxe, fl, st, vwr, lr]
     rw [mid]
     generalize (i + j) / 2 = h at *
     have r1 : (0 : Int) ≤ (h : Int) ∧ (h : Int) < (l.length : Int) := by omega
     have r2 : (0 : Int) ≤ (a : Int) ∧ (a : Int) < (l.length : Int) := by omega
     have w2 : -9223372036854775808 ≤ (h : Int) + 1 ∧ (h : Int) + 1 < 9223372036854775808 := by omega
     have e1 : l[h]? = some (l.getD h Rw.z) := by rw [List.getD_eq_getElem?_getD, List.getElem?_eq_getElem (by omega)]; rfl
     have e2 : l[a]? = some (l.getD a Rw.z) := by rw [List.getD_eq_getElem?_getD, List.getElem?_eq_getElem (by omega)]; rfl
     simp only [g', w1, w2, r1, r2, e1, e2, hp, hc, hone, decide_true, Bool.not_true, Bool.false_eq_true, if_true, if_false, and_self, Int.toNat_natCast, Option.bind_some]
     try rfl
    rw [Zad, hB]
    exact q2
   ·obtain ⟨i', j', q1, q2, q3, q4⟩ := ZoG l a pf cmp hp hl ha d ((i + j) / 2 + 1) j N fu (by omega) (by omega) (by omega) (by omega) (by omega)
    refine ⟨i', j', by rw [ZaB, decide_eq_true g', cond_true, decide_eq_false hc]; exact q1, ?_, by omega, by omega⟩
    have hB : ZdR l (a : Int) pf ((i : Int), (j : Int)) = some (.nx (((((i + j) / 2 : Nat) : Int) + 1), (j : Int))) := by
     dsimp only [ZdR, Zfn, br, vz, vg, vs, v2, wi, wk, shr, iri, ca, cag, cf, cfg, lc, ln, lf, lxe, fl, st, vwr, lr]
     rw [mid]
     generalize (i + j) / 2 = h at *
     have r1 : (0 : Int) ≤ (h : Int) ∧ (h : Int) < (l.length : Int) := by omega
     have r2 : (0 : Int) ≤ (a : Int) ∧ (a : Int) < (l.length : Int) := by omega
     have w2 : -9223372036854775808 ≤ (h : Int) + 1 ∧ (h : Int) + 1 < 9223372036854775808 := by omega
     have e1 : l[h]? = some (l.getD h Rw.z) := by rw [List.getD_eq_getElem?_getD, List.getElem?_eq_getElem (by omega)]; rfl
     have e2 : l[a]? = some (l.getD a Rw.z) := by rw [List.getD_eq_getElem?_getD, List.getElem?_eq_getElem (by omega)]; rfl
     simp only [g', w1, w2, r1, r2, e1, e2, hp, hc, hone, decide_true, decide_false, Bool.not_false, if_true, and_self, Int.toNat_natCast, Option.bind_some]
     try rfl
    rw [Zad, hB]
    exact q2
  ·have g' : ¬ (i : Int) < (j : Int) := by omega
   refine ⟨i, j, by rw [ZaB, decide_eq_false g', cond_false], ?_, Nat.le_refl _, hij⟩
   have hB : ZdR l (a : Int) pf ((i : Int), (j : Int)) = some (.ex (i : Int)) := by
    dsimp only [ZdR, Zfn, br, vz, vg, vs, v2, wi, wk, shr, iri, ca, cag, cf, cfg, lc, ln, lf, lxe, fl, st, vwr, lr]
    simp only [g', decide_false, Bool.false_eq_true, if_false]
   rw [Zad, hB]
end
end Go.Proofs.YthagpbkmakocjaaGreat
namespace Go.Proofs.YthagpbkmakocjaaGreat
set_option linter.all false
open Go Go.Eng
section
variable {α : Type} [Rw α] [Tid α]
theorem Zv0 (l : List α) (pf : α → α → Option Int) (a0 : Nat × Nat) (hl : l.length ≤ 1048576) (h0 : 1 ≤ a0.1) (h1 : a0.1 ≤ l.length) : ∀ (d i : Nat) (v : List α) (N fu : Nat), a0.1 - 1 - i ≤ d → d < N → a0.1 - 1 - i < fu → v.length = l.length → i ≤ l.length →
  ∃ i' v', ZaQ (Rw.z : α) a0 fu i v = .inl (i', v') ∧ Zad (ZeU l (a0.1 : Int)) N ((i : Int), v) = some (.inl v') ∧ v'.length = l.length
 | d, i, v, N, fu, hd, hN, hf, hv, hi => by
  obtain ⟨N, rfl⟩ : ∃ m, N = m + 1 := ⟨N - 1, by omega⟩
  obtain ⟨fu, rfl⟩ : ∃ m, fu = m + 1 := ⟨fu - 1, by omega⟩
  have ee : (a0.1 : Int) - 1 = ((a0.1 - 1 : Nat) : Int) := by omega
  have ww : -9223372036854775808 ≤ ((a0.1 - 1 : Nat) : Int) ∧ ((a0.1 - 1 : Nat) : Int) < 9223372036854775808 := by omega
  by_cases g : i < a0.1 - 1
  ·obtain ⟨d, rfl⟩ : ∃ m, d = m + 1 := ⟨d - 1, by omega⟩
   have g' : (i : Int) < ((a0.1 - 1 : Nat) : Int) := by omega
   obtain ⟨i', v', q1, q2, q3⟩ := Zv0 l pf a0 hl h0 h1 d (i + 1) ((v.set i (v.getD (i + 1) Rw.z)).set (i + 1) (v.getD i Rw.z)) N fu (by omega) (by omega) (by omega) (by simp [hv]) (by omega)
   refine ⟨i', v', by rw [ZaQ, decide_eq_true g', cond_true]; exact q1, ?_, q3⟩
   have e1 : (i : Int) + 1 = ((i + 1 : Nat) : Int) := by omega
   have w1 : -9223372036854775808 ≤ ((i + 1 : Nat) : Int) ∧ ((i + 1 : Nat) : Int) < 9223372036854775808 := by omega
   have r1 : (0 : Int) ≤ (i : Int) ∧ (i : Int) < (l.length : Int) := by omega
   have r2 : (0 : Int) ≤ ((i + 1 : Nat) : Int) ∧ ((i + 1 : Nat) : Int) < (l.length : Int) := by omega
   have j1 : i < v.length := by omega
   have j2 : i + 1 < v.length := by omega
   have v1 : v[i]? = some (v.getD i Rw.z) := by rw [List.getD_eq_getElem?_getD, List.getElem?_eq_getElem j1]; rfl
   have v2 : v[i + 1]? = some (v.getD (i + 1) Rw.z) := by rw [List.getD_eq_getElem?_getD, List.getElem?_eq_getElem j2]; rfl
   have hB : ZeU l (a0.1 : Int) ((i : Int), v) = some (.nx (((i + 1 : Nat) : Int), (v.set i (v.getD (i + 1) Rw.z)).set (i + 1) (v.getD i Rw.z))) := by
    dsimp only [ZeU, Zge, br, vz, vg, vs, v2, wi, wk, shr, iri, ca, cag, cf, cfg, lc, ln, lf, lxe, fl, st, vwr, lr]
    simp only [ee, ww, g', e1, w1, r1, r2, j1, j2, v1, v2, decide_true, if_true, and_self, Int.toNat_natCast, Option.bind_some, List.length_set]
   rw [Zad, hB]
   exact q2
  ·have g' : ¬ (i : Int) < ((a0.1 - 1 : Nat) : Int) := by omega
   refine ⟨i, v, by rw [ZaQ, decide_eq_false g', cond_false], ?_, hv⟩
   have hB : ZeU l (a0.1 : Int) ((i : Int), v) = some (.ex v) := by
    dsimp only [ZeU, Zge, br, vz, vg, vs, v2, wi, wk, shr, iri, ca, cag, cf, cfg, lc, ln, lf, lxe, fl, st, vwr, lr]
    simp only [ee, ww, g', decide_false, Bool.false_eq_true, if_true, if_false, and_self]
   rw [Zad, hB]
theorem ZGh (l : List α) (pf : α → α → Option Int) (a2 : Nat × Nat) (hl : l.length ≤ 1048576) : ∀ (i : Nat) (v : List α) (N fu : Nat), i < N → i < fu → v.length = l.length → i < l.length →
  ∃ i' v', ZaF (Rw.z : α) a2 fu i v = .inl (i', v') ∧ Zad (Zea l (a2.1 : Int)) N ((i : Int), v) = some (.inl v') ∧ v'.length = l.length := by
 intro i
 induction i with
 | zero =>
  intro v N fu hN hf hv hi
  obtain ⟨N, rfl⟩ : ∃ m, N = m + 1 := ⟨N - 1, by omega⟩
  obtain ⟨fu, rfl⟩ : ∃ m, fu = m + 1 := ⟨fu - 1, by omega⟩
  have g' : ¬ (a2.1 : Int) < ((0 : Nat) : Int) := by omega
  refine ⟨0, v, by rw [ZaF, decide_eq_false g', cond_false], ?_, hv⟩
  have hB : Zea l (a2.1 : Int) (((0 : Nat) : Int), v) = some (.ex v) := by
   dsimp only [Zea, Zfw, br, vz, vg, vs, v2, wi, wk, shr, iri, ca, cag, cf, cfg, lc, ln, lf, lxe, fl, st, vwr, lr]
   simp only [g', decide_false, Bool.false_eq_true, if_false]
  rw [Zad, hB]
 | succ i ih =>
  intro v N fu hN hf hv hi
  obtain ⟨N, rfl⟩ : ∃ m, N = m + 1 := ⟨N - 1, by omega⟩
  obtain ⟨fu, rfl⟩ : ∃ m, fu = m + 1 := ⟨fu - 1, by omega⟩
  by_cases g' : (a2.1 : Int) < ((i + 1 : Nat) : Int)
  ·obtain ⟨i', v', q1, q2, q3⟩ := ih ((v.set (i + 1) (v.getD i Rw.z)).set i (v.getD (i + 1) Rw.z)) N fu (by omega) (by omega) (by simp [hv]) (by omega)
   refine ⟨i', v', by rw [ZaF, decide_eq_true g', cond_true]; exact q1, ?_, q3⟩
   have e1 : ((i + 1 : Nat) : Int) - 1 = (i : Int) := by omega
   have w1 : -9223372036854775808 ≤ (i : Int) ∧ (i : Int) < 9223372036854775808 := by omega
   have r1 : (0 : Int) ≤ (i : Int) ∧ (i : Int) < (l.length : Int) := by omega
   have r2 : (0 : Int) ≤ ((i + 1 : Nat) : Int) ∧ ((i + 1 : Nat) : Int) < (l.length : Int) := by omega
   have j1 : i < v.length := by omega
   have j2 : i + 1 < v.length := by omega
   have v1 : v[i]? = some (v.getD i Rw.z) := by rw [List.getD_eq_getElem?_getD, List.getElem?_eq_getElem j1]; rfl
   have v2 : v[i + 1]? = some (v.getD (i + 1) Rw.z) := by rw [List.getD_eq_getElem?_getD, List.getElem?_eq_getElem j2]; rfl
   have hB : Zea l (a2.1 : Int) (((i + 1 : Nat) : Int), v) = some (.nx ((i : Int), (v.set (i + 1) (v.getD i Rw.z)).set i (v.getD (i + 1) Rw.z))) := by
    dsimp only [Zea, Zfw, br, vz, vg, vs, v2, wi, wk, shr, iri, ca, cag, cf, cfg, lc, ln, lf, lxe, fl, st, vwr, lr]
    simp only [g', e1, w1, r1, r2, j1, j2, v1, v2, decide_true, if_true, and_self, Int.toNat_natCast, Option.bind_some, List.length_set]
   rw [Zad, hB]
   exact q2
  ·refine ⟨i + 1, v, by rw [ZaF, decide_eq_false g', cond_false], ?_, hv⟩
   have hB : Zea l (a2.1 : Int) (((i + 1 : Nat) : Int), v) = some (.ex v) := by
    dsimp only [Zea, Zfw, br, vz, vg, vs, v2, wi, wk, shr, iri, ca, cag, cf, cfg, lc, ln, lf, lxe, fl, st, vwr, lr]
    simp only [g', decide_false, Bool.false_eq_true, if_false]
   rw [Zad, hB]
end
end Go.Proofs.YthagpbkmakocjaaGreat
namespace Go.Proofs.YthagpbkmakocjaaGreat
set_option linter.all false
open Go Go.Eng
section
variable {α : Type} [Rw α] [Tid α]
theorem Zkh (l : List α) (a m b : Nat) (pf : α → α → Option Int) (cmp : α → α → Int) (hp : ∀ x y, pf x y = some (cmp x y)) (hl : l.length ≤ 1048576) (h1 : a < m) (h2 : m < b) (h3 : b ≤ l.length) : ∀ (d i j N fu : Nat), j - i ≤ d → d < N → j - i < fu → i ≤ j → j ≤ (a + b) / 2 + m ∧ j ≤ l.length → (a + b) / 2 + m ≤ l.length + i →
  ∃ i' j', ZaH (Rw.z : α) l a m b cmp fu i j = .inl (i', j') ∧ Zad (Zcs l (a : Int) (m : Int) (b : Int) pf) N ((i : Int), (j : Int)) = some (.inl (i' : Int)) ∧ i ≤ i' ∧ i' ≤ j
 | d, i, j, N, fu, hd, hN, hf, hij, hj, hi => by
  obtain ⟨N, rfl⟩ : ∃ m, N = m + 1 := ⟨N - 1, by omega⟩
  obtain ⟨fu, rfl⟩ : ∃ m, fu = m + 1 := ⟨fu - 1, by omega⟩
  by_cases g : i < j
  ·obtain ⟨d, rfl⟩ : ∃ m, d = m + 1 := ⟨d - 1, by omega⟩
   have g' : (i : Int) < (j : Int) := by omega
   have hh1 : i ≤ (i + j) / 2 := by omega
   have hh2 : (i + j) / 2 < j := by omega
   have mid := ZvF (x := i) (y := j) (by omega)
   have mab := ZvF (x := a) (y := b) (by omega)
   have e0 : (((a + b) / 2 : Nat) : Int) + (m : Int) - 1 = (((a + b) / 2 + m - 1 : Nat) : Int) := by omega
   have w1 : -9223372036854775808 ≤ (i : Int) + (j : Int) ∧ (i : Int) + (j : Int) < 9223372036854775808 := by omega
   have hone : (0 : Int) ≤ 1 := by decide
   by_cases hc : cmp (l.getD ((a + b) / 2 + m - 1 - (i + j) / 2) Rw.z) (l.getD ((i + j) / 2) Rw.z) < 0
   ·obtain ⟨i', j', q1, q2, q3, q4⟩ := Zkh l a m b pf cmp hp hl h1 h2 h3 d i ((i + j) / 2) N fu (by omega) (by omega) (by omega) (by omega) (by omega) (by omega)
    refine ⟨i', j', by rw [ZaH, decide_eq_true g', cond_true, decide_eq_true hc]; exact q1, ?_, by omega, by omega⟩
    have hB : Zcs l (a : Int) (m : Int) (b : Int) pf ((i : Int), (j : Int)) = some (.nx ((i : Int), (((i + j) / 2 : Nat) : Int))) := by
     dsimp only [Zcs, Zam, ZcT, br, vz, vg, vs, v2, wi, wk, shr, iri, ca, cag, cf, cfg, lc, ln, lf, lxe, fl, st, vwr, lr]
     rw [mid, mab, e0]
     generalize (i + j) / 2 = h at *
     have e3 : ((((a + b) / 2 + m - 1 : Nat) : Int)) - (h : Int) = (((a + b) / 2 + m - 1 - h : Nat) : Int) := by omega
     have p1 : (a + b) / 2 + m - 1 - h < l.length := by omega
     rw [e3]
     generalize (a + b) / 2 + m - 1 - h = p at *
     have r1 : (0 : Int) ≤ (h : Int) ∧ (h : Int) < (l.length : Int) := by omega
     have r2 : (0 : Int) ≤ (p : Int) ∧ (p : Int) < (l.length : Int) := by omega
     have w2 : -9223372036854775808 ≤ (h : Int) + 1 ∧ (h : Int) + 1 < 9223372036854775808 := by omega
     have w3 : -9223372036854775808 ≤ (p : Int) ∧ (p : Int) < 9223372036854775808 := by omega
     have e1 : l[h]? = some (l.getD h Rw.z) := by rw [List.getD_eq_getElem?_getD, List.getElem?_eq_getElem (by omega)]; rfl
     have e2 : l[p]? = some (l.getD p Rw.z) := by rw [List.getD_eq_getElem?_getD, List.getElem?_eq_getElem (by omega)]; rfl
     simp only [g', w1, w2, w3, r1, r2, e1, e2, hp, hc, hone, decide_true, Bool.not_true, Bool.false_eq_true, if_true, if_false, and_self, Int.toNat_natCast, Option.bind_some]
     try rfl
    rw [Zad, hB]
    exact q2
   ·obtain ⟨i', j', q1, q2, q3, q4⟩ := Zkh l a m b pf cmp hp hl h1 h2 h3 d ((i + j) / 2 + 1) j N fu (by omega) (by omega) (by omega) (by omega) (by omega) (by omega)
    refine ⟨i', j', by rw [ZaH, decide_eq_true g', cond_true, decide_eq_false hc]; exact q1, ?_, by omega, by omega⟩
    have hB : Zcs l (a : Int) (m : Int) (b : Int) pf ((i : Int), (j : Int)) = some (.nx (((((i + j) / 2 : Nat) : Int) + 1), (j : Int))) := by
     dsimp only [Zcs, Zam, ZcT, br, vz, vg, vs, v2, wi, wk, shr, iri, ca, cag, cf, cfg, lc, ln, lf, lxe, fl, st, vwr, lr]
     rw [mid, mab, e0]
     generalize (i + j) / 2 = h at *
     have e3 : ((((a + b) / 2 + m - 1 : Nat) : Int)) - (h : Int) = (((a + b) / 2 + m - 1 - h : Nat) : Int) := by omega
     have p1 : (a + b) / 2 + m - 1 - h < l.length := by omega
     rw [e3]
     generalize (a + b) / 2 + m - 1 - h = p at *
     have r1 : (0 : Int) ≤ (h : Int) ∧ (h : Int) < (l.length : Int) := by omega
     have r2 : (0 : Int) ≤ (p : Int) ∧ (p : Int) < (l.length : Int) := by omega
     have w2 : -9223372036854775808 ≤ (h : Int) + 1 ∧ (h : Int) + 1 < 9223372036854775808 := by omega
     have w3 : -9223372036854775808 ≤ (p : Int) ∧ (p : Int) < 9223372036854775808 := by omega
     have e1 : l[h]? = some (l.getD h Rw.z) := by rw [List.getD_eq_getElem?_getD, List.getElem?_eq_getElem (by omega)]; rfl
     have e2 : l[p]? = some (l.getD p Rw.z) := by rw [List.getD_eq_getElem?_getD, List.getElem?_eq_getElem (by omega)]; rfl
     simp only [g', w1, w2, w3, r1, r2, e1, e2, hp, hc, hone, decide_true, decide_false, Bool.not_false, if_true, and_self, Int.toNat_natCast, Option.bind_some]
     try rfl
    rw [Zad, hB]
    exact q2
  ·have g' : ¬ (i : Int) < (j : Int) := by omega
   refine ⟨i, j, by rw [ZaH, decide_eq_false g', cond_false], ?_, Nat.le_refl _, hij⟩
   have hB : Zcs l (a : Int) (m : Int) (b : Int) pf ((i : Int), (j : Int)) = some (.ex (i : Int)) := by
    dsimp only [Zcs, Zam, ZcT, br, vz, vg, vs, v2, wi, wk, shr, iri, ca, cag, cf, cfg, lc, ln, lf, lxe, fl, st, vwr, lr]
    simp only [g', decide_false, Bool.false_eq_true, if_false]
   rw [Zad, hB]
theorem Zks (l : List α) (a m b : Nat) (pf : α → α → Option Int) (cmp : α → α → Int) (hp : ∀ x y, pf x y = some (cmp x y)) (hl : l.length ≤ 1048576) (h1 : a < m) (h2 : m < b) (h3 : b ≤ l.length) : ∀ (d i j N fu : Nat), j - i ≤ d → d < N → j - i < fu → i ≤ j → j ≤ (a + b) / 2 + m ∧ j ≤ l.length → (a + b) / 2 + m ≤ l.length + i →
  ∃ i' j', ZaI (Rw.z : α) l a m b cmp fu i j = .inl (i', j') ∧ Zad (Zcs l (a : Int) (m : Int) (b : Int) pf) N ((i : Int), (j : Int)) = some (.inl (i' : Int)) ∧ i ≤ i' ∧ i' ≤ j
 | d, i, j, N, fu, hd, hN, hf, hij, hj, hi => by
  obtain ⟨N, rfl⟩ : ∃ m, N = m + 1 := ⟨N - 1, by omega⟩
  obtain ⟨fu, rfl⟩ : ∃ m, fu = m + 1 := ⟨fu - 1, by omega⟩
  by_cases g : i < j
  ·obtain ⟨d, rfl⟩ : ∃ m, d = m + 1 := ⟨d - 1, by omega⟩
   have g' : (i : Int) < (j : Int) := by omega
   have hh1 : i ≤ (i + j) / 2 := by omega
   have hh2 : (i + j) / 2 < j := by omega
   have mid := ZvF (x := i) (y := j) (by omega)
   have mab := ZvF (x := a) (y := b) (by omega)
   have e0 : (((a + b) / 2 : Nat) : Int) + (m : Int) - 1 = (((a + b) / 2 + m - 1 : Nat) : Int) := by omega
   have w1 : -9223372036854775808 ≤ (i : Int) + (j : Int) ∧ (i : Int) + (j : Int) < 9223372036854775808 := by omega
   have hone : (0 : Int) ≤ 1 := by decide
   by_cases hc : cmp (l.getD ((a + b) / 2 + m - 1 - (i + j) / 2) Rw.z) (l.getD ((i + j) / 2) Rw.z) < 0
   ·obtain ⟨i', j', q1, q2, q3, q4⟩ := Zks l a m b pf cmp hp hl h1 h2 h3 d i ((i + j) / 2) N fu (by omega) (by omega) (by omega) (by omega) (by omega) (by omega)
    refine ⟨i', j', by rw [ZaI, decide_eq_true g', cond_true, decide_eq_true hc]; exact q1, ?_, by omega, by omega⟩
    have hB : Zcs l (a : Int) (m : Int) (b : Int) pf ((i : Int), (j : Int)) = some (.nx ((i : Int), (((i + j) / 2 : Nat) : Int))) := by
     dsimp only [Zcs, Zam, ZcT, br, vz, vg, vs, v2, wi, wk, shr, iri, ca, cag, cf, cfg, lc, ln, lf, lxe, fl, st, vwr, lr]
     rw [mid, mab, e0]
     generalize (i + j) / 2 = h at *
     have e3 : ((((a + b) / 2 + m - 1 : Nat) : Int)) - (h : Int) = (((a + b) / 2 + m - 1 - h : Nat) : Int) := by omega
     have p1 : (a + b) / 2 + m - 1 - h < l.length := by omega
     rw [e3]
     generalize (a + b) / 2 + m - 1 - h = p at *
     have r1 : (0 : Int) ≤ (h : Int) ∧ (h : Int) < (l.length : Int) := by omega
     have r2 : (0 : Int) ≤ (p : Int) ∧ (p : Int) < (l.length : Int) := by omega
     have w2 : -9223372036854775808 ≤ (h : Int) + 1 ∧ (h : Int) + 1 < 9223372036854775808 := by omega
     have w3 : -9223372036854775808 ≤ (p : Int) ∧ (p : Int) < 9223372036854775808 := by omega
     have e1 : l[h]? = some (l.getD h Rw.z) := by rw [List.getD_eq_getElem?_getD, List.getElem?_eq_getElem (by omega)]; rfl
     have e2 : l[p]? = some (l.getD p Rw.z) := by rw [List.getD_eq_getElem?_getD, List.getElem?_eq_getElem (by omega)]; rfl
     simp only [g', w1, w2, w3, r1, r2, e1, e2, hp, hc, hone, decide_true, Bool.not_true, Bool.false_eq_true, if_true, if_false, and_self, Int.toNat_natCast, Option.bind_some]
     try rfl
    rw [Zad, hB]
    exact q2
   ·obtain ⟨i', j', q1, q2, q3, q4⟩ := Zks l a m b pf cmp hp hl h1 h2 h3 d ((i + j) / 2 + 1) j N fu (by omega) (by omega) (by omega) (by omega) (by omega) (by omega)
    refine ⟨i', j', by rw [ZaI, decide_eq_true g', cond_true, decide_eq_false hc]; exact q1, ?_, by omega, by omega⟩
    have hB : Zcs l (a : Int) (m : Int) (b : Int) pf ((i : Int), (j : Int)) = some (.nx (((((i + j) / 2 : Nat) : Int) + 1), (j : Int))) := by
     dsimp only [Zcs, Zam, ZcT, br, vz, vg, vs, v2, wi, wk, shr, iri, ca, cag, cf, cfg, lc, ln, lf, lxe, fl, st, vwr, lr]
     rw [mid, mab, e0]
     generalize (i + j) / 2 = h at *
     have e3 : ((((a + b) / 2 + m - 1 : Nat) : Int)) - (h : Int) = (((a + b) / 2 + m - 1 - h : Nat) : Int) := by omega
     have p1 : (a + b) / 2 + m - 1 - h < l.length := by omega
     rw [e3]
     generalize (a + b) / 2 + m - 1 - h = p at *
     have r1 : (0 : Int) ≤ (h : Int) ∧ (h : Int) < (l.length : Int) := by omega
     have r2 : (0 : Int) ≤ (p : Int) ∧ (p : Int) < (l.length : Int) := by omega
     have w2 : -9223372036854775808 ≤ (h : Int) + 1 ∧ (h : Int) + 1 < 9223372036854775808 := by omega
     have w3 : -9223372036854775808 ≤ (p : Int) ∧ (p : Int) < 9223372036854775808 := by omega
     have e1 : l[h]? = some (l.getD h Rw.z) := by rw [List.getD_eq_getElem?_getD, List.getElem?_eq_getElem (by omega)]; rfl
     have e2 : l[p]? = some (l.getD p Rw.z) := by rw [List.getD_eq_getElem?_getD, List.getElem?_eq_getElem (by omega)]; rfl
     simp only [g', w1, w2, w3, r1, r2, e1, e2, hp, hc, hone, decide_true, decide_false, Bool.not_false, if_true, and_self, Int.toNat_natCast, Option.bind_some]
     try rfl
    rw [Zad, hB]
    exact q2
  ·have g' : ¬ (i : Int) < (j : Int) := by omega
   refine ⟨i, j, by rw [ZaI, decide_eq_false g', cond_false], ?_, Nat.le_refl _, hij⟩
   have hB : Zcs l (a : Int) (m : Int) (b : Int) pf ((i : Int), (j : Int)) = some (.ex (i : Int)) := by
    dsimp only [Zcs, Zam, ZcT, br, vz, vg, vs, v2, wi, wk, shr, iri, ca, cag, cf, cfg, lc, ln, lf, lxe, fl, st, vwr, lr]
    simp only [g', decide_false, Bool.false_eq_true, if_false]
   rw [Zad, hB]
end
end Go.Proofs.YthagpbkmakocjaaGreat
