/-
  What is proved: the second form of wireschemalaw13.GraphHeights: the law returns true and leaves its arguments as they were.
  Condition: the arguments are together of bulk at most 1048576 (the given second form); nothing else.
-/
import Derived.Test.YthhipejbnbochaaCy20
import Derived.Test.YthhipejbnbochaaCy19
import Derived.Test.YthhipejbnbochaaRows
import Derived.WalkKit
import Derived.ProofKit
import Derived.OpenShut
import Derived.JoinedCond
import Derived.Test.YthhipejbnbochaaCy00
namespace Go.Proofs.Ythhipejbnbochaa
set_option linter.all false
open Go Go.Eng
theorem ZfM {α : Type} (p : α → Bool) : ∀ l : List α, l.find? p = (l.findIdx? p).bind fun i => l[i]?
 | [] => rfl
 | x :: l => by
  rw [List.find?_cons, Yba]
  cases h : p x with
  | true => simp
  | false =>
   rw [ZfM p l]
   cases List.findIdx? p l <;> simp
theorem ZfB {α : Type} {p : α → Bool} : ∀ {l : List α}, (l.findIdx? p).isSome = l.any p
 | [] => rfl
 | x :: l => by
  rw [Yba, List.any_cons, ← ZfB (l := l)]
  cases p x <;> simp
def ixM (s : Scm) (n : ByteArray) : Option Nat := s.messages.findIdx? fun m => decide (m.name = n)
def ixE (s : Scm) (n : ByteArray) : Option Nat := s.enums.findIdx? fun m => decide (m.name = n)
def zM : Msg := ⟨⟨#[]⟩, [], [], [], []⟩
def zE : Enm := ⟨⟨#[]⟩, false, [], [], []⟩
def Zhj (s : Scm) (n : ByteArray) : Msg × Int := (ixM s n).elim (zM, -1) fun i => (s.messages.getD i zM, (i : Int))
def Zsc (s : Scm) (n : ByteArray) : Enm × Int := (ixE s n).elim (zE, -1) fun i => (s.enums.getD i zE, (i : Int))
theorem ZhQ (s : Scm) (n : ByteArray) : ZpF s n = (ixM s n).bind fun i => s.messages[i]? := ZfM _ _
theorem Ze9 {s : Scm} {n : ByteArray} {i : Nat} (h : ixM s n = some i) : i < s.messages.length := by
 unfold ixM at h
 rw [YaH] at h
 exact h.1
theorem Zdc (s : Scm) (n : ByteArray) : (ixM s n).isSome = isM s n := by
 unfold isM
 rw [ZhQ]
 cases h : ixM s n with
 | none => rfl
 | some i => simp [Yb (Ze9 h)]
theorem Zve (s : Scm) (n : ByteArray) : (Zhj s n).1.fields = Zg2 s n := by
 unfold Zhj Zg2
 rw [ZhQ]
 cases h : ixM s n with
 | none => rfl
 | some i => simp [Yb (Ze9 h), Yw]
theorem Zoz (s : Scm) (n : ByteArray) : decide (0 ≤ (Zhj s n).2) = isM s n := by
 rw [← Zdc]
 unfold Zhj
 cases ixM s n with
 | none => rfl
 | some i => simp
theorem Ztj (s : Scm) (n : ByteArray) : decide ((Zhj s n).2 < 0) = !isM s n := by
 rw [← Zoz]
 by_cases h : (Zhj s n).2 < 0
 ·rw [decide_eq_true h, decide_eq_false (by omega)]; rfl
 ·rw [decide_eq_false h, decide_eq_true (by omega)]; rfl
theorem Ztm (s : Scm) (n : ByteArray) : decide (0 ≤ (Zsc s n).2) = isE s n := by
 have e : (ixE s n).isSome = isE s n := ZfB
 rw [← e]
 unfold Zsc
 cases ixE s n with
 | none => rfl
 | some i => simp
theorem Zu3 (s : Scm) (n : ByteArray) : decide ((Zsc s n).2 < 0) = !isE s n := by
 rw [← Ztm]
 by_cases h : (Zsc s n).2 < 0
 ·rw [decide_eq_true h, decide_eq_false (by omega)]; rfl
 ·rw [decide_eq_false h, decide_eq_true (by omega)]; rfl
theorem m18 {s : Scm} (h : Fw s) (n : ByteArray) : ZaE s n = some (Zhj s n) := by
 have hm := h.m
 have q1 := Zeo (B := Zkv s n) (N := big) s.messages (fun m => decide (m.name = n)) (fun i => (s.messages.getD i zM, (i : Int))) () (fun i x hx => by
  have g1 := Zdy hx
  have g0 := (List.getElem?_eq_some_iff.1 hx).1
  have g2 : i + 1 < 9223372036854775808 := by omega
  dsimp only [Zkv, ZnE, br, ix, vz, vw, vs, lrt, ln, lxe, wa, eqL]
  simp only [g1, g2, hx, decide_true, if_true, Option.bind_some, Yw, Y2]
  cases decide (x.name = n) <;> simp) (by simp [Zkv, ZnE, br, ix, vz, vw, vs, lrt, ln, lxe, wa, eqL]) (Zbi (by omega))
 dsimp only [ZaE, Zrw, ZqQ, Zry, vw, lr, lc]
 rw [q1]
 unfold Zhj ixM
 cases s.messages.findIdx? fun m => decide (m.name = n) <;> rfl
theorem m46 {s : Scm} (h : Fw s) (n : ByteArray) : ZaZ s n = some (Zsc s n) := by
 have hm := h.e
 have q1 := Zeo (B := Zmr s n) (N := big) s.enums (fun m => decide (m.name = n)) (fun i => (s.enums.getD i zE, (i : Int))) () (fun i x hx => by
  have g1 := Zdy hx
  have g0 := (List.getElem?_eq_some_iff.1 hx).1
  have g2 : i + 1 < 9223372036854775808 := by omega
  dsimp only [Zmr, ZnB, br, ix, vz, vw, vs, lrt, ln, lxe, wa, eqL]
  simp only [g1, g2, hx, decide_true, if_true, Option.bind_some, Yw, Y2]
  cases decide (x.name = n) <;> simp) (by simp [Zmr, ZnB, br, ix, vz, vw, vs, lrt, ln, lxe, wa, eqL]) (Zbi (by omega))
 dsimp only [ZaZ, Zps, ZrG, Zqy, vw, lr, lc]
 rw [q1]
 unfold Zsc ixE
 cases s.enums.findIdx? fun m => decide (m.name = n) <;> rfl
def ZrZ (l : List ByteArray) (x : ByteArray) : Bool := l.any fun y => decide (y = x)
theorem ZfT {l : List ByteArray} {x : ByteArray} : ZrZ l x = true ↔ x ∈ l := by
 unfold ZrZ
 simp [YF]
theorem m27 {l : List ByteArray} (h : l.length < 4611686018427387904) (x : ByteArray) : Za4 l x = some (ZrZ l x) := by
 have q1 := Zeo (B := ZlD l x) (N := big) l (fun y => decide (y = x)) (fun i => true) () (fun i y hy => by
  have g1 := Zdy hy
  have g0 := (List.getElem?_eq_some_iff.1 hy).1
  have g2 : i + 1 < 9223372036854775808 := by omega
  dsimp only [ZlD, Znu, br, ix, vz, vs, lrt, ln, lxe, wa, eqL]
  simp only [g1, g2, hy, decide_true, if_true, Option.bind_some]
  cases decide (y = x) <;> simp) (by simp [ZlD, Znu, br, ix, vz, vs, lrt, ln, lxe, wa, eqL]) (Zbi h)
 dsimp only [Za4, Zsa, ZrC, ZpJ, lr, lc]
 rw [q1]
 unfold ZrZ
 rw [← ZfB]
 cases l.findIdx? fun y => decide (y = x) <;> rfl
def ZbG (l : List ByteArray) (x : ByteArray) : List ByteArray := if ZrZ l x = true then l else (l.takeWhile (fun y => sLt y x) ++ [x]) ++ l.drop (l.takeWhile fun y => sLt y x).length
theorem ZhD {α : Type} (p : α → Bool) (l : List α) : l.drop (l.takeWhile p).length = l.dropWhile p := by
 conv => lhs; arg 2; rw [← Yad (p := p) (l := l)]
 rw [List.drop_left]
theorem Zg6 (l : List ByteArray) (x : ByteArray) : (ZbG l x).length ≤ l.length + 1 := by
 unfold ZbG
 split
 ·omega
 ·rw [ZhD, List.length_append, List.length_append]
  have := congrArg List.length (Yad (p := fun y => sLt y x) (l := l))
  rw [List.length_append] at this
  simp
  omega
theorem Zlt (l : List ByteArray) (x y : ByteArray) : y ∈ ZbG l x ↔ y = x ∨ y ∈ l := by
 unfold ZbG
 split
 ·rename_i h
  exact ⟨.inr, fun h2 => h2.elim (fun e => e ▸ ZfT.1 h) id⟩
 ·rw [ZhD]
  have h2 : y ∈ l ↔ y ∈ l.takeWhile (fun y => sLt y x) ∨ y ∈ l.dropWhile (fun y => sLt y x) := by
   conv => lhs; rw [← Yad (p := fun y => sLt y x) (l := l)]
   exact YO
  rw [YO, YO, YM, h2]
  constructor
  ·rintro ((h | h) | h)
   ·exact .inr (.inl h)
   ·exact .inl h
   ·exact .inr (.inr h)
  ·rintro (h | h | h)
   ·exact .inl (.inr h)
   ·exact .inl (.inl h)
   ·exact .inr h
theorem ZoP {p : ByteArray → Bool} {x : ByteArray} : ∀ {l : List ByteArray}, x ∈ l.takeWhile p → p x = true
 | [], h => by cases h
 | y :: l, h => by
  rw [Ya2] at h
  split at h
  ·rename_i hy
   rcases Ym.1 h with rfl | h
   ·exact hy
   ·exact ZoP h
  ·cases h
theorem ZlS {l : List ByteArray} (h : Asc l) (x : ByteArray) : Asc (ZbG l x) := by
 unfold ZbG
 split
 ·exact h
 ·rename_i hx
  have hs : x ∉ l := fun q => hx (ZfT.2 q)
  rw [ZhD, YZ]
  have e := Yad (p := fun y => sLt y x) (l := l)
  have h' := h
  rw [← e] at h'
  obtain ⟨h1, h2, h3⟩ := List.pairwise_append.1 h'
  have t2 : ∀ y ∈ l.dropWhile (fun y => sLt y x), sLt x y = true := fun y hy => by
   cases hd : l.dropWhile (fun y => sLt y x) with
   | nil => rw [hd] at hy; cases hy
   | cons b r =>
    have hb : sLt b x = false := by
     have := List.head?_dropWhile_not (fun y => sLt y x) l
     rw [hd] at this
     simpa using this
    have hbl : b ∈ l := by
     rw [← e, hd]
     exact Yat _ (Ys ..)
    have hsb : sLt x b = true := Zq5 hb fun e => hs (e ▸ hbl)
    rw [hd] at hy h2
    rcases Ym.1 hy with rfl | hy
    ·exact hsb
    ·exact Zpd hsb (List.rel_of_pairwise_cons h2 hy)
  refine List.pairwise_append.2 ⟨h1, Yas.2 ⟨t2, h2⟩, fun a ha b hb => ?_⟩
  rcases Ym.1 hb with rfl | hb
  ·exact ZoP (p := fun y => sLt y b) ha
  ·exact h3 a ha b hb
theorem ZhC {α : Type} {p : α → Bool} : ∀ {l : List α} {i : Nat}, (∀ y ∈ l.take i, p y = true) → (∀ y, l[i]? = some y → p y = false) → l.takeWhile p = l.take i
 | [], i, _, _ => by simp
 | x :: l, 0, _, h => by rw [Ya2, h x rfl]; rfl
 | x :: l, i + 1, h1, h2 => by
  rw [Ya2, h1 x (by simp), List.take_succ_cons]
  simp only [if_true]
  rw [ZhC (i := i) (fun y hy => h1 y (by simp [hy])) (fun y hy => h2 y (by simpa using hy))]
theorem m53 {l : List ByteArray} (h : l.length ≤ 1000000) (x : ByteArray) : ZaX l x = some (ZbG l x) := by
 have q1 := Zbp (B := Zj7 l x) (I := fun k v => k + v.2 = l.length ∧ v.1 = l.take v.2 ∧ ∀ y ∈ v.1, sLt y x = true) (Q := fun o => o = .inl (l.takeWhile fun y => sLt y x)) (fun k v hI => by
  obtain ⟨r, i⟩ := v
  obtain ⟨h1, h2, h3⟩ := hI
  simp only at h1 h2 h3
  subst h2
  have hl : (l.take i).length = i := by rw [YY]; omega
  cases hk : l[i]? with
  | none =>
   have hge := Yac.1 hk
   refine ⟨.ex (l.take i), by dsimp only [Zj7, Zl8, br, ix, ixg, vz, vw, vs, ln, lxe, ap, wa, fl, eqL]; simp [show ¬ (i : Int) < (l.length : Int) by omega], ?_⟩
   rw [ZhC h3 (fun y hy => by rw [hk] at hy; cases hy)]
  | some y =>
   have g1 := Zdy hk
   obtain ⟨g0, rfl⟩ := List.getElem?_eq_some_iff.1 hk
   have g2 : i + 1 < 9223372036854775808 := by omega
   have e : l.getD i (Rw.z) = l[i] := by rw [Yw, hk]; rfl
   cases hy : sLt l[i] x with
   | false =>
    refine ⟨.ex (l.take i), by dsimp only [Zj7, Zl8, br, ix, ixg, vz, vw, vs, ln, lxe, ap, wa, fl, eqL]; simp [g1, g0, e, hy], ?_⟩
    rw [ZhC h3 (fun z hz => by rw [hk] at hz; cases hz; exact hy)]
   | true =>
    refine ⟨.nx (l.take i ++ [l[i]], i + 1), by dsimp only [Zj7, Zl8, br, ix, ixg, vz, vw, vs, ln, lxe, ap, wa, fl, eqL]; simp [g1, g0, g2, e, hy, hk, hl]; omega, k - 1, by omega, by simp only; omega, ?_, fun z hz => ?_⟩
    ·simp only
     rw [YU g0]
    ·rcases YO.1 hz with q | q
     ·exact h3 z q
     ·rw [YM.1 q]; exact hy) big l.length ([], 0) (Zbi (by omega)) ⟨rfl, by simp, fun y hy => by cases hy⟩
 obtain ⟨o, e, rfl⟩ := q1
 have hlt : (l.takeWhile fun y => sLt y x).length ≤ l.length := (List.takeWhile_sublist _).length_le
 dsimp only [ZaX, Zrs, Zqf, Zr4, ZrV, ZqC, br, vz, vw, lr, lc, ap, aq, cl, sL, fl, fr, eqN, Bd.c, Bd.vl]
 simp only [m27 (l := l) (by omega), Option.bind_some, e, Sum.elim_inl]
 unfold ZbG
 cases ZrZ l x with
 | true => rfl
 | false =>
  simp [hlt]
  exact ⟨by omega, by omega, Yai (by rw [Yah]; exact Yf _)⟩
theorem Zi5 (l a : List ByteArray) : (l.foldl ZbG a).length ≤ a.length + l.length := by
 induction l generalizing a with
 | nil => exact Yf _
 | cons x l ih => rw [Y0]; have := ih (ZbG a x); have := Zg6 a x; simp; omega
theorem Zi0 (l a : List ByteArray) (y : ByteArray) : y ∈ l.foldl ZbG a ↔ y ∈ l ∨ y ∈ a := by
 induction l generalizing a with
 | nil => simp
 | cons x l ih => rw [Y0, ih, Zlt, Ym, or_assoc, or_left_comm]
theorem Ziz {l a : List ByteArray} (h : Asc a) : Asc (l.foldl ZbG a) := by
 induction l generalizing a with
 | nil => exact h
 | cons x l ih => rw [Y0]; exact ih (ZlS h x)
theorem ZfS (l : List ByteArray) : l.foldl ZbG [] = Zgf l := (ZqK (Ziz .nil) fun x => by rw [Zi0]; simp).symm
theorem Zjd (l : List ByteArray) : (Zgf l).length ≤ l.length := by rw [← ZfS]; have := Zi5 l []; simpa using this
theorem Zes {α ρ : Type} {B : List ByteArray × Nat → Option (Lv (List ByteArray × Nat) (List ByteArray) ρ)} (l : List α) (c : α → Option ByteArray) (a : List ByteArray) (ha : a.length + l.length ≤ 1000000)
  (hs : ∀ (i : Nat) b x, l[i]? = some x → b.length ≤ 1000000 → i + 1 < 9223372036854775808 → (i : Int) < (l.length : Int) → B (b, i) = some (.nx ((c x).elim b (ZbG b), i + 1))) (he : ∀ b, B (b, l.length) = some (.ex b)) : Zat B big (a, 0) = some (.inl ((l.filterMap c).foldl ZbG a)) := by
 have := ZeL (B := B) (N := big) l (fun i b => (b, i)) (fun i b => b.length ≤ a.length + i) (fun b x => (.inl ((c x).elim b (ZbG b)) : List ByteArray ⊕ ρ)) id (fun i b x hx hI => by
  have hlt := (List.getElem?_eq_some_iff.1 hx).1
  refine ⟨hs i b x hx (by omega) (by omega) (Zdy hx), fun b' e => ?_⟩
  cases e
  cases c x with
  | none => simp; omega
  | some y => have := Zg6 b y; simp; omega) (fun b _ => he b) a (by omega) (Zbi (by omega))
 rw [this, ZeD (fun b x => (c x).elim b (ZbG b)) (fun _ _ => rfl)]
 congr 2
 clear this hs he ha
 show _ = _
 induction l generalizing a with
 | nil => rfl
 | cons x l ih =>
  rw [Y0, ih, List.filterMap_cons]
  cases c x <;> rfl
end Go.Proofs.Ythhipejbnbochaa
namespace Go.Proofs.Ythhipejbnbochaa
set_option linter.all false
open Go Go.Eng
section
variable {s : Scm} (h : Fw s)
include h
theorem m19 (f : Fld) : ZaN s f = some (if ldF s f = true then (f.type.name, true) else (⟨#[]⟩, false)) := by
 have e1 := Ztj s f.type.name
 have e2 := Zu3 s f.type.name
 have hne : ¬ (10 : Int) = 9 := by decide
 unfold ldF toF
 dsimp only [ZaN, Zp1, br, vw, lr, cl]
 simp only [m18 h, m46 h, Option.bind_some, e1, e2]
 by_cases h1 : f.type.kind = 10
 ·simp only [h1, hne, decide_true, decide_false, if_true, if_false, Bool.and_true, Bool.false_and, Bool.or_false]
  cases isM s f.type.name <;> simp
 ·by_cases h2 : f.type.kind = 9
  ·simp only [h1, h2, decide_true, decide_false, if_true, if_false, Bool.and_false, Bool.true_and, YaI]
   cases isE s f.type.name <;> simp
  ·simp [h1, h2]
omit h in
theorem Ziw {α β : Type} (p : α → Bool) (g : α → β) (l : List α) : l.filterMap (fun x => if p x = true then some (g x) else none) = (l.filter p).map g := by
 induction l with
 | nil => rfl
 | cons x l ih =>
  rw [List.filterMap_cons, YaO, ih]
  cases p x <;> rfl
theorem Zv7 (f : Fld) : (ldF s f && decide (f.type.kind = 10)) = toF s f := by
 unfold ldF toF
 by_cases h1 : f.type.kind = 10
 ·simp [h1]
 ·simp [h1]
theorem m61 (n : ByteArray) : ZaY s n = some (Zgf (Zbe s n)) := by
 have hl := h.fl n
 have e := Zve s n
 have q1 := Zes (B := ZlI s (Zhj s n)) (Zg2 s n) (fun f => if toF s f = true then some f.type.name else none) [] (by simp; omega) (fun i b x hx hb g2 g1 => by
  have g0 := (List.getElem?_eq_some_iff.1 hx).1
  have e3 : (Zg2 s n).getD i Rw.z = x := by rw [Yw, hx]; rfl
  have e4 := Zv7 h x
  dsimp only [ZlI, ZmH, br, ix, ixg, vz, vw, vs, v2, ln, lxe, cl, wa, eqL]
  simp only [e, g1, g2, hx, m19 h, decide_true, if_true, Option.bind_some, Ybc, e3]
  rw [← e4]
  cases hq : ldF s x with
  | true =>
   by_cases h2 : x.type.kind = 10
   ·simp [m53 hb, h2, g0]
   ·simp [h2, g0]
  | false => simp) (fun b => by dsimp only [ZlI, ZmH, br, ix, ixg, vz, vw, vs, v2, ln, lxe, cl, wa, eqL]; simp [e])
 rw [Ziw] at q1
 dsimp only [ZaY, ZqL, ZpT, Zqm, Zrr, vz, vw, lr, lc, cl, fz]
 simp only [m18 h, Option.bind_some, q1, Sum.elim_inl]
 rw [ZfS]
 rfl
def Zmy (s : Scm) (v : List ByteArray) : List ByteArray := v.foldl (fun a y => (Zgf (Zbe s y)).foldl ZbG a) v
omit h in
theorem ZlK (g : ByteArray → List ByteArray) : ∀ (v a : List ByteArray), (Asc a → Asc (v.foldl (fun a y => (g y).foldl ZbG a) a)) ∧ ∀ x, x ∈ v.foldl (fun a y => (g y).foldl ZbG a) a ↔ x ∈ a ∨ ∃ y ∈ v, x ∈ g y
 | [], a => ⟨id, fun x => by simp⟩
 | y :: v, a => by
  obtain ⟨p, q⟩ := ZlK g v ((g y).foldl ZbG a)
  refine ⟨fun ha => p (Ziz ha), fun x => ?_⟩
  rw [Y0, q, Zi0]
  simp only [Ym, exists_eq_or_imp, or_assoc, or_left_comm]
theorem Zwl (v : List ByteArray) (hv : v.length ≤ 8) : Zat (Zj1 s v) big (v, 0) = some (.inl (Zmy s v)) := by
 have := ZeL (B := Zj1 s v) (N := big) v (fun i b => (b, i)) (fun i b => b.length ≤ 8 + i * 10) (fun b y => (.inl ((Zgf (Zbe s y)).foldl ZbG b) : List ByteArray ⊕ List ByteArray)) id (fun i b y hy hI => by
  have g1 := Zdy hy
  have g0 := (List.getElem?_eq_some_iff.1 hy).1
  have g2 : i + 1 < 9223372036854775808 := by omega
  have h1 := Zi5 (Zgf (Zbe s y)) b
  have h2 := Zjd (Zbe s y)
  have h3 := h.nl y
  have q := Zes (B := ZkD s v i (Zgf (Zbe s y))) (Zgf (Zbe s y)) some b (by omega) (fun j c x hx hc g4 g3 => by
   dsimp only [ZkD, ZnZ, br, ix, vz, vs, ln, lxe, cl, wa, eqL]
   simp only [g3, g4, hx, m53 hc, decide_true, if_true, Option.bind_some, Option.elim_some]) (fun c => by dsimp only [ZkD, ZnZ, br, ix, vz, vs, ln, lxe, cl, wa, eqL]; simp)
  rw [List.filterMap_some] at q
  refine ⟨?_, fun b' e => by cases e; omega⟩
  dsimp only [Zj1, Zn1, ZmR, Znd, br, ix, vz, vs, ln, lxe, lc, cl, wa, eqL]
  simp only [g1, g2, hy, m61 h, q, decide_true, if_true, Option.bind_some, Sum.elim_inl]) (fun b _ => by dsimp only [Zj1, Zn1, ZmR, Znd, br, ix, vz, vs, ln, lxe, lc, cl, wa, eqL]; simp) v (by omega) (Zbi (by omega))
 rw [this, ZeD (fun b y => (Zgf (Zbe s y)).foldl ZbG b) (fun _ _ => rfl)]
 rfl
end
structure AOk (s : Scm) (ns : List ByteArray) (l : List ByteArray) : Prop where
 a : Asc l
 m : ∀ x, x ∈ l ↔ (x ∈ ns ∧ isM s x = true) ∨ ∃ y ∈ ns, isM s y = true ∧ Rch s y x
theorem AOk.len {s : Scm} (h : Fw s) {ns l : List ByteArray} (k : AOk s ns l) : l.length ≤ 8 := by
 have := Zc9 (ZcR k.a) (r := nmM s) fun x hx => Zcu.1 (by
  rcases (k.m x).1 hx with ⟨_, q⟩ | ⟨y, _, _, q⟩
  ·exact q
  ·exact q.isM)
 have h2 := h.m
 unfold nmM at this
 rw [Yo] at this
 omega
theorem Zt9 {l r : List ByteArray} (hl : l.Nodup) (hs : ∀ x ∈ l, x ∈ r) (hn : r.length ≤ l.length) (hr : r.Nodup) : ∀ x ∈ r, x ∈ l := fun x hx => by
 apply Yaz
 intro hc
 have := Zc9 (l := x :: l) (r := r) (YaW.2 ⟨hc, hl⟩) fun y hy => by
  rcases Ym.1 hy with rfl | hy
  ·exact hx
  ·exact hs y hy
 simp at this
 omega
theorem m55 {s : Scm} (h : Fw s) (ns : List ByteArray) (hn : ns.length ≤ 1000) : ∃ l, Za2 s ns = some l ∧ AOk s ns l := by
 have q1 := Zes (B := ZkJ s ns) ns (fun x => if isM s x = true then some x else none) [] (by simp; omega) (fun i b x hx hb g2 g1 => by
  dsimp only [ZkJ, ZmT, ZmQ, ZnP, Zer, Zn6, br, ix, vz, vw, vs, v2, ln, lxe, lc, cl, wa, du, eqL]
  simp only [g1, g2, hx, m18 h, Zoz, decide_true, if_true, Option.bind_some]
  cases isM s x with
  | true => simp [m53 hb]
  | false => simp) (fun b => by dsimp only [ZkJ, ZmT, ZmQ, ZnP, Zer, Zn6, br, ix, vz, vw, vs, v2, ln, lxe, lc, cl, wa, du, eqL]; simp)
 have e0 : ns.filterMap (fun x => if isM s x = true then some x else none) = ns.filter (isM s) := by
  have := Ziw (isM s) (fun x : ByteArray => x) ns
  rwa [List.map_id'] at this
 rw [e0, ZfS] at q1
 obtain ⟨v0, hv0⟩ : ∃ v0, v0 = Zgf (ns.filter (isM s)) := ⟨_, rfl⟩
 rw [← hv0] at q1
 have a0 : Asc v0 := hv0 ▸ ZiQ _
 have mem0 : ∀ x, x ∈ v0 ↔ x ∈ ns ∧ isM s x = true := fun x => by rw [hv0, ZdY, YJ]
 have hnm : (nmM s).length ≤ 8 := by unfold nmM; rw [Yo]; exact h.m
 have q2 := Zbp (B := Zkz s) (I := fun k v => Asc v.1 ∧ (∀ x ∈ v0, x ∈ v.1) ∧ (∀ x ∈ v.1, x ∈ v0 ∨ ∃ y ∈ v0, Rch s y x) ∧ (v.2 = false → ∀ y ∈ v.1, ∀ x ∈ Zbe s y, x ∈ v.1) ∧ (v.2 = true → k + v.1.length = 10) ∧ (v.2 = false → k = 0)) (Q := fun o => Sum.elim (fun l => AOk s ns l) (fun _ => False) o) (fun k v hI => by
  obtain ⟨v, ag⟩ := v
  obtain ⟨i1, i2, i3, i4, i5, i6⟩ := hI
  simp only at i1 i2 i3 i4 i5 i6
  have hM : ∀ x ∈ v, isM s x = true := fun x hx => by
   rcases i3 x hx with q | ⟨y, _, q⟩
   ·exact ((mem0 x).1 q).2
   ·exact q.isM
  have hv8 : v.length ≤ 8 := Y3 (Zc9 (ZcR i1) fun x hx => Zcu.1 (hM x hx)) hnm
  cases ag with
  | false =>
   refine ⟨.ex v, by dsimp only [Zkz, ZiP, ZiB, ZiX, Zis, br, vz, ln, lxe, lc, eqL]; simp, i1, fun x => ⟨fun hx => ?_, fun hx => ?_⟩⟩
   ·rcases i3 x hx with q | ⟨y, hy, q⟩
    ·exact .inl ((mem0 x).1 q)
    ·exact .inr ⟨y, ((mem0 y).1 hy).1, ((mem0 y).1 hy).2, q⟩
   ·have hcl : ∀ y ∈ v, ∀ x, Rch s y x → x ∈ v := fun y hy x hr => by
     induction hr with
     | one q => exact i4 rfl y hy _ q
     | tl _ q ih => exact i4 rfl _ ih _ q
    rcases hx with q | ⟨y, hy, hm, q⟩
    ·exact i2 x ((mem0 x).2 q)
    ·exact hcl y (i2 y ((mem0 y).2 ⟨hy, hm⟩)) x q
  | true =>
   have q3 := Zwl h v hv8
   obtain ⟨g1, g2⟩ := ZlK (fun y => Zgf (Zbe s y)) v v
   have g1 : Asc (Zmy s v) := g1 i1
   have g2 : ∀ x, x ∈ Zmy s v ↔ x ∈ v ∨ ∃ y ∈ v, x ∈ Zbe s y := fun x => by
    have := g2 x
    simp only [ZdY] at this
    exact this
   have hR : ∀ x ∈ Zmy s v, x ∈ v0 ∨ ∃ y ∈ v0, Rch s y x := fun x hx => by
    rcases (g2 x).1 hx with q | ⟨y, hy, q⟩
    ·exact i3 x q
    ·rcases i3 y hy with p | ⟨z, hz, p⟩
     ·exact .inr ⟨y, p, .one q⟩
     ·exact .inr ⟨z, hz, .tl p q⟩
   have hr8 : (Zmy s v).length ≤ 8 := Y3 (Zc9 (ZcR g1) fun x hx => Zcu.1 (by
    rcases hR x hx with q | ⟨y, _, q⟩
    ·exact ((mem0 x).1 q).2
    ·exact q.isM)) hnm
   have hge : v.length ≤ (Zmy s v).length := Zc9 (ZcR i1) fun x hx => (g2 x).2 (.inl hx)
   have i5 := i5 rfl
   refine ⟨.nx (Zmy s v, decide ((v.length : Int) < ((Zmy s v).length : Int))), by dsimp only [Zkz, ZiP, ZiB, ZiX, Zis, br, vz, ln, lxe, lc, eqL]; simp [q3], if v.length < (Zmy s v).length then 10 - (Zmy s v).length else 0, by split <;> omega, g1, fun x hx => (g2 x).2 (.inl (i2 x hx)), hR, fun hf y hy x hx => ?_, fun hf => ?_, fun hf => ?_⟩
   ·have hlt := of_decide_eq_false hf
    have hall := Zt9 (ZcR i1) (fun x hx => (g2 x).2 (.inl hx)) (by omega) (ZcR g1)
    exact (g2 x).2 (.inr ⟨y, hall y hy, hx⟩)
   ·have := of_decide_eq_true hf
    rw [if_pos (by omega)]
    simp only
    omega
   ·have := of_decide_eq_false hf
    rw [if_neg (by omega)]) big (10 - v0.length) (v0, true) (Zbi (by omega)) ⟨a0, fun x hx => hx, fun x hx => .inl hx, fun q => (by cases q), fun _ => (by
   have := Y3 (Zc9 (ZcR a0) fun x hx => Zcu.1 ((mem0 x).1 hx).2) hnm
   simp only
   omega), fun q => (by cases q)⟩
 obtain ⟨o, e, hq⟩ := q2
 cases o with
 | inr _ => exact hq.elim
 | inl l =>
  refine ⟨l, ?_, hq⟩
  dsimp only [Za2, Zk8, ZkH, Zkh, Zmb, Zmv, vz, vw, lr, lc, fz]
  simp only [q1, e, Option.bind_some, Sum.elim_inl]
section
variable {s : Scm} (h : Fw s)
include h
theorem m49 (a b : ByteArray) : ∃ v, ZaD s a b = some v ∧ (v = true ↔ Rch s a b) := by
 obtain ⟨l, e, k⟩ := m55 h (Zgf (Zbe s a)) (by have := Zjd (Zbe s a); have := h.nl a; omega)
 refine ⟨ZrZ l b, ?_, ?_⟩
 ·dsimp only [ZaD, ZrK, vw, lr, cl]
  simp only [m61 h, e, Option.bind_some, m27 (l := l) (by have := k.len h; omega)]
 ·rw [ZfT, k.m]
  simp only [ZdY]
  constructor
  ·rintro (⟨q, _⟩ | ⟨y, q, _, r⟩)
   ·exact .one q
   ·exact .hd q r
  ·intro hr
   have : ∀ {x}, Rch s a x → x ∈ Zbe s a ∨ ∃ y ∈ Zbe s a, Rch s y x := fun {x} hr => by
    induction hr with
    | one q => exact .inl q
    | tl _ q ih =>
     rcases ih with p | ⟨y, p, r⟩
     ·exact .inr ⟨_, p, .one q⟩
     ·exact .inr ⟨y, p, .tl r q⟩
   rcases this hr with q | ⟨y, q, r⟩
   ·exact .inl ⟨q, hr.isM⟩
   ·exact .inr ⟨y, q, Zf8 q, r⟩
theorem m24 (a : ByteArray) : ∃ v, Zaz s a = some v ∧ (v = true ↔ Rch s a a) := by
 obtain ⟨v, e, k⟩ := m49 h a a
 refine ⟨v, ?_, k⟩
 dsimp only [Zaz, Zrp, vw, lr, cl]
 simp only [e, Option.bind_some]
theorem m23 (a : ByteArray) : ∃ v, Zbl s a = some v ∧ (v = true ↔ Rch s a a) := by
 obtain ⟨r, e, k⟩ := m34 (Zmf s) h a
 refine ⟨lkM a r, ?_, k.i a⟩
 dsimp only [Zbl, ZqM, vw, lr, cl, mlk]
 simp only [m32 h, e, Option.bind_some]
structure ClOk (s : Scm) (ns : List ByteArray) (l : List ByteArray) : Prop where
 a : Asc l
 m : ∀ x, x ∈ l ↔ (x ∈ ns ∧ (isM s x = true ∨ isE s x = true)) ∨ ∃ n ∈ ns, isM s n = true ∧ (x ∈ ZvI s n ∨ ∃ y, Rch s n y ∧ x ∈ ZvI s y)
end
end Go.Proofs.Ythhipejbnbochaa
namespace Go.Proofs.Ythhipejbnbochaa
set_option linter.all false
open Go Go.Eng
set_option maxRecDepth 100000 in
theorem awk : Zbj = some true := by kernel_rfl
theorem Zlx {s : Scm} {n x : ByteArray} (h : x ∈ ZvI s n) : isM s x = true ∨ isE s x = true := by
 unfold ZvI at h
 obtain ⟨f, hf, rfl⟩ := Yq.1 h
 have := (YJ.1 hf).2
 unfold ldF toF at this
 rcases Bool.or_eq_true_iff.1 this with q | q
 ·exact .inl (YaZ.1 q).1
 ·exact .inr (YaZ.1 q).2
theorem ClOk.uniq {s : Scm} {ns l r : List ByteArray} (h : ClOk s ns l) (k : ClOk s ns r) : l = r := ZoW h.a k.a fun x => (h.m x).trans (k.m x).symm
theorem ClOk.defd {s : Scm} {ns l : List ByteArray} (h : ClOk s ns l) {x : ByteArray} (hx : x ∈ l) : isM s x = true ∨ isE s x = true := by
 rcases (h.m x).1 hx with ⟨_, q⟩ | ⟨n, _, _, q | ⟨y, _, q⟩⟩
 ·exact q
 ·exact Zlx q
 ·exact Zlx q
theorem ClOk.len {s : Scm} (hs : Fw s) {ns l : List ByteArray} (h : ClOk s ns l) : l.length ≤ 16 := by
 have := Zc9 (ZcR h.a) (r := nmM s ++ s.enums.map Enm.name) fun x hx => by
  rcases h.defd hx with q | q
  ·exact YS _ (Zcu.1 q)
  ·exact Yat _ (Zqp.1 q)
 have h1 := hs.m
 have h2 := hs.e
 simp only [nmM, List.length_append, Yo] at this
 omega
theorem m11 (s : Scm) (hm : s.messages.length ≤ 1048576) : ∃ b, Za3 s = some b ∧ (b = true → Fw s) := by
 dsimp only [Za3, Zq9, Zp9, ZqW, br, vz, vy, vw, lr, lc, eqL]
 by_cases h1 : (8 : Int) < (s.messages.length : Int)
 ·exact ⟨false, by simp [h1], fun q => by cases q⟩
 ·by_cases h2 : (8 : Int) < (s.enums.length : Int)
  ·exact ⟨false, by simp [h2], fun q => by cases q⟩
  ·have q1 := Zbp (B := Zjk s) (I := fun k i => k + i = s.messages.length ∧ ∀ m ∈ s.messages.take i, m.fields.length ≤ 10) (Q := fun o => Sum.elim (fun _ => ∀ m ∈ s.messages, m.fields.length ≤ 10) (fun b => b = false) o) (fun k i hI => by
    obtain ⟨i1, i2⟩ := hI
    cases hk : s.messages[i]? with
    | none =>
     have := Yac.1 hk
     rw [Yai this] at i2
     exact ⟨.ex (), by dsimp only [Zjk, Zml, br, ix, vz, vw, vs, lrt, ln, lxe, wa, eqL]; simp [show ¬ (i : Int) < (s.messages.length : Int) by omega], i2⟩
    | some x =>
     have g1 := Zdy hk
     obtain ⟨g0, rfl⟩ := List.getElem?_eq_some_iff.1 hk
     have g2 : i + 1 < 9223372036854775808 := by omega
     by_cases hf : (10 : Int) < (s.messages[i].fields.length : Int)
     ·exact ⟨.rt false, by dsimp only [Zjk, Zml, br, ix, vz, vw, vs, lrt, ln, lxe, wa, eqL]; simp [g0, hk, hf], rfl⟩
     ·refine ⟨.nx (i + 1), by dsimp only [Zjk, Zml, br, ix, vz, vw, vs, lrt, ln, lxe, wa, eqL]; simp [g0, g2, hk, hf], k - 1, by omega, by omega, fun m hmm => ?_⟩
      rw [YU g0] at hmm
      rcases YO.1 hmm with q | q
      ·exact i2 m q
      ·rw [YM.1 q]; omega) big s.messages.length 0 (Zbi (by omega)) ⟨rfl, by simp⟩
   obtain ⟨o, e, hq⟩ := q1
   cases o with
   | inl u => exact ⟨true, by simp [h1, h2, e], fun _ => ⟨by omega, by omega, hq⟩⟩
   | inr b => exact ⟨b, by simp [h1, h2, e], fun q => by have : b = false := hq; rw [this] at q; cases q⟩
theorem Zrn {s : Scm} (h : bkL (Zcg s) ≤ 1048576) : s.messages.length ≤ 1048576 := by
 have := Zot (e := Zby) s.messages
 simp only [Zcg, bkL, bk] at h
 omega
def rqF (s : Scm) (f : Fld) : Bool := decide (f.card = 1) && toF s f
def rqL (s : Scm) (n : ByteArray) : List ByteArray := ((Zg2 s n).filter (rqF s)).map fun f => f.type.name
def hgL (K : ByteArray → Int) (l : List ByteArray) : Int := if l.any (fun x => decide (K x = 0)) = true then 0 else l.foldl (fun h x => max h (K x + 1)) 1
theorem Zgj {K : ByteArray → Int} {l : List ByteArray} : l.any (fun x => decide (K x = 0)) = true ↔ ∃ x ∈ l, K x = 0 := by simp [YF]
theorem Zpv {K : ByteArray → Int} {l : List ByteArray} (h : ∃ x ∈ l, K x = 0) : hgL K l = 0 := by unfold hgL; rw [if_pos (Zgj.2 h)]
theorem Zdz (K : ByteArray → Int) : ∀ (l : List ByteArray) (a : Int), a ≤ l.foldl (fun h x => max h (K x + 1)) a ∧ ∀ x ∈ l, K x + 1 ≤ l.foldl (fun h x => max h (K x + 1)) a
 | [], a => ⟨Ya6 _, fun x h => by cases h⟩
 | y :: l, a => by
  obtain ⟨h1, h2⟩ := Zdz K l (max a (K y + 1))
  rw [Y0]
  refine ⟨by omega, fun x hx => ?_⟩
  rcases Ym.1 hx with rfl | hx
  ·omega
  ·exact h2 x hx
theorem Zfr (K : ByteArray → Int) : ∀ (l : List ByteArray) (a : Int), l.foldl (fun h x => max h (K x + 1)) a = a ∨ ∃ x ∈ l, l.foldl (fun h x => max h (K x + 1)) a = K x + 1
 | [], a => .inl rfl
 | y :: l, a => by
  rw [Y0]
  rcases Zfr K l (max a (K y + 1)) with h | ⟨x, hx, h⟩
  ·by_cases hc : a ≤ K y + 1
   ·exact .inr ⟨y, Ys .., by rw [h]; omega⟩
   ·exact .inl (by rw [h]; omega)
  ·exact .inr ⟨x, List.mem_cons_of_mem _ hx, h⟩
theorem ZeC {K : ByteArray → Int} {l : List ByteArray} (h : hgL K l ≠ 0) : (∀ x ∈ l, K x ≠ 0) ∧ hgL K l = l.foldl (fun h x => max h (K x + 1)) 1 := by
 unfold hgL at *
 split at h
 ·exact absurd rfl h
 ·rename_i hc
  rw [if_neg hc]
  exact ⟨fun x hx e => hc (Zgj.2 ⟨x, hx, e⟩), rfl⟩
theorem Zdd {K J : ByteArray → Int} {l : List ByteArray} (h : ∀ x ∈ l, K x = J x) : hgL K l = hgL J l := by
 unfold hgL
 have e1 : l.any (fun x => decide (K x = 0)) = l.any (fun x => decide (J x = 0)) := by
  rw [Bool.eq_iff_iff, Zgj, Zgj]
  exact ⟨fun ⟨x, a, b⟩ => ⟨x, a, by rw [← h x a]; exact b⟩, fun ⟨x, a, b⟩ => ⟨x, a, by rw [h x a]; exact b⟩⟩
 have e2 : ∀ a : Int, l.foldl (fun h x => max h (K x + 1)) a = l.foldl (fun h x => max h (J x + 1)) a := by
  clear e1
  induction l with
  | nil => intro a; rfl
  | cons y l ih =>
   intro a
   rw [Y0, Y0, h y (Ys ..)]
   exact ih (fun x hx => h x (List.mem_cons_of_mem _ hx)) _
 rw [e1, e2]
def jac (s : Scm) : Nat → ByteArray → Int
 | 0, _ => 0
 | k + 1, n => if isM s n = true then hgL (jac s k) (rqL s n) else 0
theorem Zfj (s : Scm) : ∀ (k : Nat) (n : ByteArray), 0 ≤ jac s k n ∧ jac s k n ≤ k
 | 0, n => ⟨Ya6 _, Ya6 _⟩
 | k + 1, n => by
  unfold jac
  split
  ·by_cases h : hgL (jac s k) (rqL s n) = 0
   ·rw [h]; omega
   ·obtain ⟨h1, h2⟩ := ZeC h
    rw [h2]
    have h3 := (Zdz (jac s k) (rqL s n) 1).1
    rcases Zfr (jac s k) (rqL s n) 1 with h4 | ⟨x, hx, h4⟩
    ·omega
    ·have := (Zfj s k x).2
     omega
  ·omega
theorem ZkS (s : Scm) : ∀ (k : Nat) (n : ByteArray), jac s k n ≠ 0 → jac s (k + 1) n = jac s k n
 | 0, n, h => absurd rfl h
 | k + 1, n, h => by
  rw [show jac s (k + 1 + 1) n = if isM s n = true then hgL (jac s (k + 1)) (rqL s n) else 0 from rfl]
  have e : jac s (k + 1) n = if isM s n = true then hgL (jac s k) (rqL s n) else 0 := rfl
  rw [e] at h ⊢
  by_cases hm : isM s n = true
  ·rw [if_pos hm] at h ⊢
   rw [if_pos hm]
   exact Zdd fun x hx => ZkS s k x ((ZeC h).1 x hx)
  ·rw [if_neg hm] at h; exact absurd rfl h
theorem Zfs (s : Scm) (k : Nat) {n : ByteArray} (h : jac s k n ≠ 0) : ∀ j, jac s (k + j) n = jac s k n
 | 0 => rfl
 | j + 1 => by
  have := Zfs s k h j
  rw [← Yv, ZkS s (k + j) n (by rw [this]; exact h), this]
theorem ZoO (s : Scm) : ∀ (k : Nat) (n : ByteArray), jac s k n ≠ 0 → jac s (jac s k n).toNat n = jac s k n
 | 0, n, h => absurd rfl h
 | k + 1, n, h => by
  have e : jac s (k + 1) n = if isM s n = true then hgL (jac s k) (rqL s n) else 0 := rfl
  by_cases hm : isM s n = true
  ·rw [if_pos hm] at e
   rw [e] at h ⊢
   obtain ⟨h1, h2⟩ := ZeC h
   obtain ⟨d, hd⟩ : ∃ d : Nat, hgL (jac s k) (rqL s n) = (d + 1 : Nat) := by
    have := (Zdz (jac s k) (rqL s n) 1).1
    rw [← h2] at this
    exact ⟨(hgL (jac s k) (rqL s n)).toNat - 1, by omega⟩
   rw [hd, Ybc]
   rw [show jac s (d + 1) n = if isM s n = true then hgL (jac s d) (rqL s n) else 0 from rfl, if_pos hm, ← hd]
   refine Zdd fun x hx => ?_
   have h3 := (Zdz (jac s k) (rqL s n) 1).2 x hx
   rw [← h2, hd] at h3
   have h4 := ZoO s k x (h1 x hx)
   have h5 := (Zfj s k x).1
   obtain ⟨j, hj⟩ : ∃ j, d = (jac s k x).toNat + j := ⟨d - (jac s k x).toNat, by omega⟩
   rw [hj, Zfs s _ (by rw [h4]; exact h1 x hx) j, h4]
  ·rw [if_neg hm] at e
   exact absurd e h
theorem Zo9 (s : Scm) : ∀ (d : Nat) (k : Nat) (n : ByteArray), jac s k n = (d : Int) → ∃ l : List ByteArray, l.length = d ∧ l.Nodup ∧ (∀ x ∈ l, isM s x = true ∧ jac s k x ≤ (d : Int) ∧ jac s k x ≠ 0)
 | 0, k, n, h => ⟨[], rfl, .nil, fun x hx => by cases hx⟩
 | d + 1, 0, n, h => by
  have : (0 : Int) = ((d + 1 : Nat) : Int) := h
  omega
 | d + 1, k + 1, n, h => by
  have e : jac s (k + 1) n = if isM s n = true then hgL (jac s k) (rqL s n) else 0 := rfl
  have hne : jac s (k + 1) n ≠ 0 := by rw [h]; omega
  by_cases hm : isM s n = true
  ·rw [if_pos hm] at e
   have hne2 : hgL (jac s k) (rqL s n) ≠ 0 := by rw [← e]; exact hne
   obtain ⟨h1, h2⟩ := ZeC hne2
   rcases Zfr (jac s k) (rqL s n) 1 with h4 | ⟨x, hx, h4⟩
   ·have : d = 0 := by rw [e, h2, h4] at h; omega
    subst this
    exact ⟨[n], rfl, by simp, fun y hy => by rw [YM.1 hy]; exact ⟨hm, by rw [h]; omega, hne⟩⟩
   ·have hx2 : jac s (k + 1) x = (d : Int) := by rw [ZkS s k x (h1 x hx)]; rw [e, h2, h4] at h; omega
    obtain ⟨l, l1, l2, l3⟩ := Zo9 s d (k + 1) x hx2
    refine ⟨n :: l, by simp [l1], YaW.2 ⟨fun hn => ?_, l2⟩, fun y hy => ?_⟩
    ·have := (l3 n hn).2.1
     omega
    ·rcases Ym.1 hy with rfl | hy
     ·exact ⟨hm, by rw [h]; omega, hne⟩
     ·obtain ⟨a, b, c⟩ := l3 y hy
      exact ⟨a, by omega, c⟩
  ·rw [if_neg hm] at e
   exact absurd e hne
theorem Zoo {s : Scm} {r : List ByteArray} (hr : ∀ n, isM s n = true → n ∈ r) (k : Nat) (n : ByteArray) : jac s k n ≤ (r.length : Int) := by
 have h0 := (Zfj s k n).1
 obtain ⟨l, h1, h2, h3⟩ := Zo9 s (jac s k n).toNat k n (by omega)
 have := Zc9 h2 (r := r) fun x hx => hr x (h3 x hx).1
 omega
theorem ZpU {s : Scm} {N : Nat} (hN : ∀ k n, jac s k n ≤ (N : Int)) : ∀ (j : Nat) (n : ByteArray), jac s (N + j) n = jac s N n := fun j n => by
 by_cases h : jac s N n = 0
 ·by_cases h2 : jac s (N + j) n = 0
  ·rw [h, h2]
  ·have h3 := ZoO s (N + j) n h2
   have h4 := (Zfj s (N + j) n).1
   have h5 := hN (N + j) n
   obtain ⟨i, hi⟩ : ∃ i, N = (jac s (N + j) n).toNat + i := ⟨N - (jac s (N + j) n).toNat, by omega⟩
   have h6 := Zfs s (jac s (N + j) n).toNat (n := n) (by rw [h3]; exact h2) i
   rw [← hi, h3] at h6
   rw [h6]
 ·exact Zfs s N h j
def hgt (s : Scm) (n : ByteArray) : Int := jac s s.messages.length n
theorem Zov {s : Scm} (k : Nat) (n : ByteArray) : jac s k n ≤ (s.messages.length : Int) := by
 have := Zoo (s := s) (r := nmM s) (fun n h => Zcu.1 h) k n
 unfold nmM at this
 rwa [Yo] at this
theorem ZrR (s : Scm) (j : Nat) (n : ByteArray) : jac s (s.messages.length + j) n = hgt s n := ZpU Zov j n
theorem ZkW (s : Scm) (n : ByteArray) : hgt s n = if isM s n = true then hgL (hgt s) (rqL s n) else 0 := by
 rw [← ZrR s 1 n]
 rfl
theorem Zlq (s : Scm) (n : ByteArray) : 0 ≤ hgt s n ∧ hgt s n ≤ (s.messages.length : Int) := ⟨(Zfj s _ n).1, Zov _ n⟩
def ZpO (s : Scm) (K : ByteArray → Int) (r : Int) : Prop := (∀ n, K n = 0 ∨ K n = hgt s n) ∧ ∀ n, hgt s n ≠ 0 → hgt s n ≤ r → K n = hgt s n
theorem ZpO.hg {s : Scm} {K : ByteArray → Int} {r : Int} (h : ZpO s K r) {n : ByteArray} (hm : isM s n = true) : (hgL K (rqL s n) = 0 ∨ hgL K (rqL s n) = hgt s n) ∧ (hgt s n ≠ 0 → hgt s n ≤ r + 1 → hgL K (rqL s n) = hgt s n) := by
 have e := ZkW s n
 rw [if_pos hm] at e
 refine ⟨?_, fun h1 h2 => ?_⟩
 ·by_cases hz : hgL K (rqL s n) = 0
  ·exact .inl hz
  ·refine .inr ?_
   rw [e]
   exact Zdd fun x hx => (h.1 x).resolve_left ((ZeC hz).1 x hx)
 ·rw [e]
  have h3 : hgL (hgt s) (rqL s n) ≠ 0 := by rw [← e]; exact h1
  obtain ⟨h4, h5⟩ := ZeC h3
  refine Zdd fun x hx => h.2 x (h4 x hx) ?_
  have := (Zdz (hgt s) (rqL s n) 1).2 x hx
  rw [← h5, ← e] at this
  omega
theorem Zh6 (x y : ByteArray) (v : Int) (r : List (ByteArray × Int)) : lkM y (ZbJ x v r) = if x = y then v else lkM y r := by
 unfold lkM
 rw [Zc6]
 split <;> rfl
section
variable {s : Scm} {w : Web} (hw : WOk s w) (h : Fw s)
include hw h
theorem m65 (n : ByteArray) (K : List (ByteArray × Int)) (hK : ∀ x, 0 ≤ lkM x K ∧ lkM x K ≤ 1000) : ZaI w n K = some (hgL (fun x => lkM x K) (rqL s n)) := by
 have hl := h.fl n
 have e := hw.fl n
 have q1 := ZeL (B := Zd3 w K (lkM n w.messages)) (N := big) (Zg2 s n) (fun i (v : Int) => (v, i)) (fun i v => 1 ≤ v ∧ v ≤ 1001) (fun v f => if rqF s f = true then (if lkM f.type.name K = 0 then .inr 0 else .inl (max v (lkM f.type.name K + 1))) else (.inl v : Int ⊕ Int)) id (fun i v f hf hI => by
  have g1 := Zdy hf
  have g0 := (List.getElem?_eq_some_iff.1 hf).1
  have g2 : i + 1 < 9223372036854775808 := by omega
  obtain ⟨k1, k2⟩ := hK f.type.name
  refine ⟨?_, fun b' q => ?_⟩
  ·dsimp only [Zd3, ZfU, br, ix, vw, vs, lrt, ln, lxe, clg, wa, wi, mlk]
   unfold rqF
   simp only [e, g1, g2, hf, m62 hw, decide_true, if_true, Option.bind_some, Option.isSome_some, implies_true, Y2]
   by_cases hc : f.card = 1
   ·cases ht : toF s f with
    | false => simp [hc]
    | true =>
     by_cases hz : lkM f.type.name K = 0
     ·simp [hc, hz]
     ·have g3 : mmI true v (lkM f.type.name K + 1) = max v (lkM f.type.name K + 1) := by unfold mmI; simp only [if_true]; omega
      have g4 : (-9223372036854775808 : Int) ≤ lkM f.type.name K + 1 ∧ lkM f.type.name K + 1 < 9223372036854775808 := by omega
      simp [hc, hz, g3, g4]
   ·simp [hc]
  ·split at q
   ·split at q
    ·cases q
    ·cases q; omega
   ·cases q; exact hI) (fun v _ => by dsimp only [Zd3, ZfU, br, ix, vw, vs, lrt, ln, lxe, clg, wa, wi, mlk]; simp [e]) 1 (by omega) (Zbi (by omega))
 have e2 : ∀ (l : List Fld) (a : Int), ZgE (fun v f => if rqF s f = true then (if lkM f.type.name K = 0 then .inr 0 else .inl (max v (lkM f.type.name K + 1))) else (.inl v : Int ⊕ Int)) a l = if (((l.filter (rqF s)).map fun f => f.type.name).any fun x => decide (lkM x K = 0)) = true then .inr 0 else .inl (((l.filter (rqF s)).map fun f => f.type.name).foldl (fun h x => max h (lkM x K + 1)) a) := fun l => by
  induction l with
  | nil => intro a; rfl
  | cons f l ih =>
   intro a
   rw [ZgE, YaO]
   cases hr : rqF s f with
   | false => simp [ih]
   | true =>
    by_cases hz : lkM f.type.name K = 0
    ·simp [hz]
    ·simp [hz, ih]
 rw [e2] at q1
 dsimp only [ZaI, Zh0, ZhU, Zh3, vz, vw, lr, lc, mlk, eqL]
 rw [q1]
 unfold hgL rqL
 split <;> rfl
end
section
variable {s : Scm} {w : Web} (hw : WOk s w) (h : Fw s)
include hw h
theorem Zwr {K : List (ByteArray × Int)} {r : Int} (hI : ZpO s (fun x => lkM x K) r) (x : ByteArray) : 0 ≤ lkM x K ∧ lkM x K ≤ 1000 := by
 have h1 := Zlq s x
 have h2 := h.m
 rcases hI.1 x with e | e
 ·have e : lkM x K = 0 := e
  omega
 ·have e : lkM x K = hgt s x := e
  omega
theorem m47 : ∃ K, Zba w = some K ∧ ∀ n, lkM n K = hgt s n := by
 have hn := Zr3 hw h
 have q1 := Zbp (B := Zll w (nmW w)) (I := fun k v => k + v.1 = (nmW w).length ∧ ZpO s (fun x => lkM x v.2) v.1) (Q := fun o => Sum.elim (fun K => ZpO s (fun x => lkM x K) (nmW w).length) (fun _ => False) o) (fun k v hI => by
  obtain ⟨r, K⟩ := v
  obtain ⟨i1, i2⟩ := hI
  simp only at i1 i2
  by_cases hr : r < (nmW w).length
  ·have q2 := Zbp (B := ZjO w (nmW w) r) (I := fun k v => k + v.1 = (nmW w).length ∧ ZpO s (fun x => lkM x v.2) r ∧ ∀ n ∈ (nmW w).take v.1, hgt s n ≠ 0 → hgt s n ≤ (r : Int) + 1 → lkM n v.2 = hgt s n) (Q := fun o => Sum.elim (fun K => ZpO s (fun x => lkM x K) ((r : Int) + 1)) (fun _ => False) o) (fun k v hJ => by
    obtain ⟨i, K⟩ := v
    obtain ⟨j1, j2, j3⟩ := hJ
    simp only at j1 j2 j3
    cases hk : (nmW w)[i]? with
    | none =>
     have hge := Yac.1 hk
     rw [Yai hge] at j3
     refine ⟨.ex K, by dsimp only [ZjO, Zlf, br, ix, vw, vs, v2, ln, lxe, cs, wa, mpu]; simp [show ¬ (i : Int) < ((nmW w).length : Int) by omega], j2.1, fun n h1 h2 => j3 n ?_ h1 h2⟩
     rw [Zho hw]
     cases hm : isM s n with
     | true => rfl
     | false => rw [ZkW, hm] at h1; exact absurd rfl h1
    | some n =>
     have g1 := Zdy hk
     obtain ⟨g0, hgi⟩ := List.getElem?_eq_some_iff.1 hk
     have g2 : i + 1 < 9223372036854775808 := by omega
     have hmem : n ∈ nmW w := Yt hk
     have hm : isM s n = true := (Zho hw n).1 hmem
     have q := m65 hw h n K (Zwr hw h j2)
     obtain ⟨h1, h2⟩ := j2.hg hm
     have htk : ∀ x, x ∈ (nmW w).take (i + 1) → x ∈ (nmW w).take i ∨ x = n := fun x hx => by
      obtain ⟨_, rfl⟩ := List.getElem?_eq_some_iff.1 hk
      rw [YU g0] at hx
      rcases YO.1 hx with q | q
      ·exact .inl q
      ·exact .inr (YM.1 q)
     by_cases hz : 0 < hgL (fun x => lkM x K) (rqL s n)
     ·have he : hgL (fun x => lkM x K) (rqL s n) = hgt s n := h1.resolve_left (by omega)
      refine ⟨.nx (i + 1, ZbJ n (hgL (fun x => lkM x K) (rqL s n)) K), by dsimp only [ZjO, Zlf, br, ix, vw, vs, v2, ln, lxe, cs, wa, mpu]; simp [g1, g0, g2, hk, hgi, q, hz], k - 1, by omega, by simp only; omega, ⟨fun x => ?_, fun x h3 h4 => ?_⟩, fun x hx h3 h4 => ?_⟩
      ·simp only [Zh6]
       split
       ·rename_i e; subst e; exact .inr he
       ·exact j2.1 x
      ·simp only [Zh6]
       split
       ·rename_i e; subst e; exact he
       ·exact j2.2 x h3 h4
      ·simp only [Zh6]
       split
       ·rename_i e; subst e; exact he
       ·rename_i e
        exact j3 x ((htk x hx).resolve_right fun q => e q.symm) h3 h4
     ·refine ⟨.nx (i + 1, K), by dsimp only [ZjO, Zlf, br, ix, vw, vs, v2, ln, lxe, cs, wa, mpu]; simp [g1, g0, g2, hk, hgi, q, hz], k - 1, by omega, by simp only; omega, j2, fun x hx h3 h4 => ?_⟩
      rcases htk x hx with q | rfl
      ·exact j3 x q h3 h4
      ·have := h2 h3 h4
       have := (Zlq s x).1
       omega) big (nmW w).length (0, K) (Zbi (by omega)) ⟨rfl, i2, fun n hn => by simp at hn⟩
   obtain ⟨o, e, hq⟩ := q2
   cases o with
   | inr _ => exact hq.elim
   | inl K' =>
    have g2 : r + 1 < 9223372036854775808 := by omega
    exact ⟨.nx (r + 1, K'), by dsimp only [Zll, ZmJ, ZnW, ZnN, br, vz, vs, v2, ln, lxe, lc, wa, eqL]; simp [hr, e, g2], k - 1, by omega, by simp only; omega, hq⟩
  ·refine ⟨.ex K, by dsimp only [Zll, ZmJ, ZnW, ZnN, br, vz, vs, v2, ln, lxe, lc, wa, eqL]; simp [show ¬ (r : Int) < ((nmW w).length : Int) by omega], ?_⟩
   have : r = (nmW w).length := by omega
   subst this
   exact i2) big (nmW w).length (0, []) (Zbi (by omega)) ⟨rfl, fun n => .inl rfl, fun n h1 h2 => by
    have := (Zlq s n).1
    simp only at h2
    omega⟩
 obtain ⟨o, e, hq⟩ := q1
 cases o with
 | inr _ => exact hq.elim
 | inl K =>
  refine ⟨K, ?_, fun n => ?_⟩
  ·dsimp only [Zba, ZrJ, ZpZ, ZpY, vz, vw, lr, lc, cl, eqL]
   simp only [n33 hw h, Option.bind_some, e, Sum.elim_inl]
  ·by_cases hz : hgt s n = 0
   ·rcases hq.1 n with e | e
    ·exact e.trans hz.symm
    ·exact e
   ·exact hq.2 n hz (Zoo (fun x hx => (Zho hw x).2 hx) _ _)
end
theorem m20 {s : Scm} (h : Fw s) (n : ByteArray) : ZbX s n = some (hgt s n) := by
 obtain ⟨K, e, k⟩ := m47 (Zmf s) h
 dsimp only [ZbX, Zqn, vw, lr, cl, mlk]
 simp only [m32 h, e, Option.bind_some, k]
def rqI (s : Scm) (l : List Fld) : List ByteArray := (l.filter (rqF s)).map fun f => f.type.name
theorem ZnQ (s : Scm) (l : List Fld) (f : Fld) : rqI s (l ++ [f]) = rqI s l ++ (if rqF s f = true then [f.type.name] else []) := by
 unfold rqI
 rw [List.filter_append, YaX]
 cases hq : rqF s f <;> simp [YaO, hq]
def knF (s : Scm) (K : List Int) (x : ByteArray) : Int := (ixM s x).elim 0 fun i => K.getD i 0
section
variable {s : Scm} (h : Fw s)
include h
theorem q48 (K : List Int) (hl : K.length = s.messages.length) (hK : ∀ x ∈ K, 0 ≤ x ∧ x ≤ 1000) (i : Nat) (m : Msg) (hm : s.messages[i]? = some m) (r2 : List Int) : ∃ v, Zat (Zd7 s K i r2) big (0, 0) = some (.inl v) ∧ v + 1 = hgL (knF s K) (rqI s m.fields) ∧ -1 ≤ v ∧ v ≤ 1000 := by
 have hf := h.f m (Yt hm)
 have hb : ∀ x, 0 ≤ knF s K x ∧ knF s K x ≤ 1000 := fun x => by
  unfold knF
  cases hx : ixM s x with
  | none => exact ⟨Ya6 _, show (0 : Int) ≤ 1000 by decide⟩
  | some j =>
   have hj := Ze9 hx
   have e : K[j]? = some K[j] := Yb (by omega)
   show 0 ≤ K.getD j 0 ∧ K.getD j 0 ≤ 1000
   rw [Yw, e]
   exact hK _ (YaN _)
 have q1 := Zbp (B := Zd7 s K i r2) (I := fun k v => k + v.2 = m.fields.length ∧ ((0 ≤ v.1 ∧ v.1 ≤ 1000 ∧ (∀ x ∈ rqI s (m.fields.take v.2), knF s K x ≠ 0) ∧ v.1 + 1 = (rqI s (m.fields.take v.2)).foldl (fun h x => max h (knF s K x + 1)) 1) ∨ (v.1 = -1 ∧ ∃ x ∈ rqI s m.fields, knF s K x = 0))) (Q := fun o => Sum.elim (fun v => v + 1 = hgL (knF s K) (rqI s m.fields) ∧ -1 ≤ v ∧ v ≤ 1000) (fun _ => False) o) (fun k v hI => by
  obtain ⟨v, j⟩ := v
  obtain ⟨i1, i2⟩ := hI
  simp only at i1 i2
  have e1 : s.messages.getD i zM = m := by rw [Yw, hm]; rfl
  rcases i2 with ⟨a1, a2, a3, a4⟩ | ⟨a1, a2⟩
  ·cases hk : m.fields[j]? with
   | none =>
    have hge := Yac.1 hk
    rw [Yai hge] at a3 a4
    refine ⟨.ex v, by dsimp only [Zd7, Zft, br, ix, ixi, ixg, vz, vw, vs, ln, lxe, cl, wa, fl, eqL]; simp [hm, show ¬ j < m.fields.length by omega], ?_, by omega, by omega⟩
    unfold hgL
    rw [if_neg fun q => by obtain ⟨x, hx, e⟩ := Zgj.1 q; exact a3 x hx e]
    exact a4
   | some f =>
    obtain ⟨g0, hfe⟩ := List.getElem?_eq_some_iff.1 hk
    have g1 := Zdy hk
    have g2 : j + 1 < 9223372036854775808 := by omega
    have hsn := ZnQ s (m.fields.take j) f
    rw [show m.fields.take j ++ [f] = m.fields.take (j + 1) by rw [YU g0, hfe]] at hsn
    have hb1 := hb f.type.name
    have hms := Zdc s f.type.name
    have key : knF s K f.type.name = (ixM s f.type.name).elim 0 fun i => K.getD i 0 := rfl
    by_cases hc : f.card = 1
    ·by_cases hkd : f.type.kind = 10
     ·cases hx : ixM s f.type.name with
      | none =>
       have hr : rqF s f = false := by unfold rqF toF; rw [← hms, hx]; simp
       rw [hr] at hsn
       refine ⟨.nx (v, j + 1), by dsimp only [Zd7, Zft, br, ix, ixi, ixg, vz, vw, vs, ln, lxe, cl, wa, fl, eqL]; simp [hm, g0, g2, a1, hk, hfe, hc, hkd, m18 h, Zhj, hx], k - 1, by omega, by simp only; omega, .inl ⟨a1, a2, ?_, ?_⟩⟩
       ·simpa [hsn] using a3
       ·simpa [hsn] using a4
      | some p =>
       have hp := Ze9 hx
       have hr : rqF s f = true := by unfold rqF toF; rw [← hms, hx]; simp [hc, hkd]
       rw [hr] at hsn
       have e2 : K[p]? = some K[p] := Yb (by omega)
       have e3 : knF s K f.type.name = K[p] := by rw [key, hx]; show K.getD p 0 = _; rw [Yw, e2]; rfl
       have hpK : p < K.length := by omega
       have e4 : K.getD p Rw.z = K[p] := by rw [Yw, e2]; rfl
       by_cases hz : K[p] = 0
       ·refine ⟨.nx (-1, j + 1), by dsimp only [Zd7, Zft, br, ix, ixi, ixg, vz, vw, vs, ln, lxe, cl, wa, fl, eqL]; simp [hm, g0, g2, a1, hk, hfe, hc, hkd, m18 h, Zhj, hx, hpK, hz], k - 1, by omega, by simp only; omega, .inr ⟨rfl, f.type.name, ?_, by rw [e3]; exact hz⟩⟩
        unfold rqI
        exact Yq.2 ⟨f, YJ.2 ⟨Yt hk, hr⟩, rfl⟩
       ·rw [e3] at hb1
        have g3 : mmI true v K[p] = max v K[p] := by unfold mmI; simp only [if_true]; omega
        refine ⟨.nx (max v K[p], j + 1), by dsimp only [Zd7, Zft, br, ix, ixi, ixg, vz, vw, vs, ln, lxe, cl, wa, fl, eqL]; simp [hm, g0, g2, a1, hk, hfe, hc, hkd, m18 h, Zhj, hx, hpK, hz, g3], k - 1, by omega, by simp only; omega, .inl ⟨by simp only; omega, by simp only; omega, fun x hx => ?_, ?_⟩⟩
        ·simp only [hsn, if_true] at hx
         rcases YO.1 hx with q | q
         ·exact a3 x q
         ·rw [YM.1 q, e3]; exact hz
        ·simp only [hsn, if_true, Ybe, Y0, List.foldl_nil, ← a4, e3]
         omega
     ·have hr : rqF s f = false := by unfold rqF toF; simp [hkd]
      rw [hr] at hsn
      refine ⟨.nx (v, j + 1), by dsimp only [Zd7, Zft, br, ix, ixi, ixg, vz, vw, vs, ln, lxe, cl, wa, fl, eqL]; simp [hm, g0, g2, a1, hk, hfe, hc, hkd], k - 1, by omega, by simp only; omega, .inl ⟨a1, a2, ?_, ?_⟩⟩
      ·simpa [hsn] using a3
      ·simpa [hsn] using a4
    ·have hr : rqF s f = false := by unfold rqF; simp [hc]
     rw [hr] at hsn
     refine ⟨.nx (v, j + 1), by dsimp only [Zd7, Zft, br, ix, ixi, ixg, vz, vw, vs, ln, lxe, cl, wa, fl, eqL]; simp [hm, g0, g2, a1, hk, hfe, hc], k - 1, by omega, by simp only; omega, .inl ⟨a1, a2, ?_, ?_⟩⟩
     ·simpa [hsn] using a3
     ·simpa [hsn] using a4
  ·refine ⟨.ex v, by dsimp only [Zd7, Zft, br, ix, ixi, ixg, vz, vw, vs, ln, lxe, cl, wa, fl, eqL]; simp [hm, a1], ?_, by omega, by omega⟩
   rw [Zpv a2, a1]
   rfl) big m.fields.length (0, 0) (Zbi (by omega)) ⟨rfl, .inl ⟨by decide, by decide, by simp [rqI], by simp [rqI]⟩⟩
 obtain ⟨o, e, hq⟩ := q1
 cases o with
 | inr _ => exact hq.elim
 | inl v => exact ⟨v, e, hq⟩
theorem m48 (K : List Int) (hl : K.length = s.messages.length) (hK : ∀ x ∈ K, 0 ≤ x ∧ x ≤ 1000) : ∃ L, ZaG s K = some L ∧ L.length = s.messages.length ∧ ∀ (i : Nat) (m : Msg), s.messages[i]? = some m → L[i]? = some (hgL (knF s K) (rqI s m.fields)) := by
 have hm := h.m
 have q1 := Zbp (B := Zle s K) (I := fun k v => k + v.1 = s.messages.length ∧ v.2.length = s.messages.length ∧ ∀ (i : Nat) (m : Msg), i < v.1 → s.messages[i]? = some m → v.2[i]? = some (hgL (knF s K) (rqI s m.fields))) (Q := fun o => Sum.elim (fun L => L.length = s.messages.length ∧ ∀ (i : Nat) (m : Msg), s.messages[i]? = some m → L[i]? = some (hgL (knF s K) (rqI s m.fields))) (fun _ => False) o) (fun k v hI => by
  obtain ⟨i, r⟩ := v
  obtain ⟨i1, i2, i3⟩ := hI
  simp only at i1 i2 i3
  cases hk : s.messages[i]? with
  | none =>
   have hge := Yac.1 hk
   exact ⟨.ex r, by dsimp only [Zle, ZnJ, Zn4, ZmP, ZnT, ZmL, br, vz, vs, ln, lxe, lc, wa, wi, ir, st, rn, fl, eqN]; simp [show ¬ (i : Int) < (r.length : Int) by omega], i2, fun j m hj => i3 j m (by have := (List.getElem?_eq_some_iff.1 hj).1; omega) hj⟩
  | some m =>
   have g0 := (List.getElem?_eq_some_iff.1 hk).1
   have g2 : i + 1 < 9223372036854775808 := by omega
   obtain ⟨v, e, v1, v2, v3⟩ := q48 h K hl hK i m hk r
   have g3 : (-9223372036854775808 : Int) ≤ v + 1 ∧ v + 1 < 9223372036854775808 := by omega
   have g4 : i < r.length := by omega
   refine ⟨.nx (i + 1, r.set i (v + 1)), by dsimp only [Zle, ZnJ, Zn4, ZmP, ZnT, ZmL, br, vz, vs, ln, lxe, lc, wa, wi, ir, st, rn, fl, eqN]; simp [g4, e, g2, g3], k - 1, by omega, by simp only; omega, by simp [i2], fun j m' hj hm' => ?_⟩
   simp only
   by_cases e2 : i = j
   ·subst e2
    rw [hk] at hm'
    cases hm'
    rw [List.getElem?_set_self g4, v1]
   ·rw [List.getElem?_set_ne e2]
    exact i3 j m' (by simp only at hj; omega) hm') big s.messages.length (0, List.replicate s.messages.length 0) (Zbi (by omega)) ⟨rfl, by simp, fun j m hj => by simp only at hj; omega⟩
 obtain ⟨o, e, hq⟩ := q1
 cases o with
 | inr _ => exact hq.elim
 | inl L =>
  refine ⟨L, ?_, hq⟩
  dsimp only [ZaG, ZpX, ZrL, Zrl, vz, vw, lr, lc, ms, fl, fr, eqL]
  rw [if_pos (by omega), e]
  rfl
theorem m22 (n : ByteArray) : Zau s n = some (hgt s n) := by
 have hm := h.m
 cases hx : ixM s n with
 | none =>
  have e : hgt s n = 0 := by
   rw [ZkW, ← Zdc, hx]
   rfl
  dsimp only [Zau, ZnA, ZmB, Zm3, Zm0, br, ixi, vz, vw, lr, lc, cl, ms, fl, fz, eqL]
  simp [m18 h, Zhj, hx, e]
 | some p =>
  have q1 := Zbp (B := Zmc s (Zhj s n)) (I := fun k v => k + v.2 = s.messages.length ∧ v.1.length = s.messages.length ∧ (∀ x i, ixM s x = some i → v.1[i]? = some (jac s v.2 x)) ∧ ∀ x ∈ v.1, 0 ≤ x ∧ x ≤ 1000) (Q := fun o => Sum.elim (fun L => L.length = s.messages.length ∧ ∀ x i, ixM s x = some i → L[i]? = some (hgt s x)) (fun _ => False) o) (fun k v hI => by
   obtain ⟨K, r⟩ := v
   obtain ⟨i1, i2, i3, i4⟩ := hI
   simp only at i1 i2 i3 i4
   by_cases hr : r < s.messages.length
   ·obtain ⟨L, e, l1, l2⟩ := m48 h K i2 i4
    have g2 : r + 1 < 9223372036854775808 := by omega
    have hkn : ∀ x, knF s K x = jac s r x := fun x => by
     unfold knF
     cases hx : ixM s x with
     | none =>
      have : isM s x = false := by rw [← Zdc, hx]; rfl
      cases r with
      | zero => rfl
      | succ r => show 0 = if isM s x = true then _ else 0; rw [this]; rfl
     | some i =>
      show K.getD i 0 = _
      rw [Yw, i3 x i hx]; rfl
    refine ⟨.nx (L, r + 1), by dsimp only [Zmc, ZnX, br, vz, vw, vs, v2, ln, lxe, cl, wa, eqL]; simp [hr, e, g2], k - 1, by omega, by simp only; omega, l1, fun x i hx => ?_, fun x hx => ?_⟩
    ·have hi := Ze9 hx
     have hmi : s.messages[i]? = some s.messages[i] := Yb hi
     simp only
     rw [l2 i _ hmi]
     have hM : isM s x = true := by rw [← Zdc, hx]; rfl
     have hfl : Zg2 s x = s.messages[i].fields := by unfold Zg2; rw [ZhQ, hx]; simp [hmi]
     show _ = some (if isM s x = true then hgL (jac s r) (rqL s x) else 0)
     rw [if_pos hM]
     unfold rqL
     rw [hfl]
     exact congrArg some (Zdd fun y _ => hkn y)
    ·obtain ⟨i, hi, rfl⟩ := YaY.1 hx
     have hmi : s.messages[i]? = some s.messages[i] := Yb (by simp only at hi; omega)
     have := l2 i _ hmi
     simp only at hi
     rw [Yb hi] at this
     have e5 := Ybp this
     simp only
     rw [e5]
     by_cases hz : hgL (knF s K) (rqI s s.messages[i].fields) = 0
     ·rw [hz]; decide
     ·obtain ⟨_, z2⟩ := ZeC hz
      rw [z2]
      have z3 := (Zdz (knF s K) (rqI s s.messages[i].fields) 1).1
      rcases Zfr (knF s K) (rqI s s.messages[i].fields) 1 with z4 | ⟨y, hy, z4⟩
      ·omega
      ·have := (Zfj s r y).2
       rw [← hkn] at this
       omega
   ·refine ⟨.ex K, by dsimp only [Zmc, ZnX, br, vz, vw, vs, v2, ln, lxe, cl, wa, eqL]; simp [show ¬ (r : Int) < (s.messages.length : Int) by omega], i2, ?_⟩
    have : r = s.messages.length := by omega
    subst this
    exact i3) big s.messages.length (List.replicate s.messages.length 0, 0) (Zbi (by omega)) ⟨rfl, by simp, fun x i hx => by
     have := Ze9 hx
     simp [List.getElem?_replicate, this, jac], fun x hx => by
     rw [(YaC.1 hx).2]; decide⟩
  obtain ⟨o, e, hq⟩ := q1
  cases o with
  | inr _ => exact hq.elim
  | inl L =>
   have := hq.2 n p hx
   dsimp only [Zau, ZnA, ZmB, Zm3, Zm0, br, ixi, vz, vw, lr, lc, cl, ms, fl, fz, eqL]
   simp only [m18 h, Option.bind_some]
   have e1 : (Zhj s n).2 = (p : Int) := by unfold Zhj; rw [hx]; rfl
   have g3 : s.messages.length ≤ 549755813888 := by omega
   rw [e]
   have g5 : ¬ (p : Int) < 0 := by omega
   simp [e1, g3, this, g5]
end
theorem Zdo (s : Scm) (n : ByteArray) (hm : s.messages.length ≤ 1048576) : Zam s n = some true := by
 obtain ⟨b, e, hb⟩ := m11 s hm
 dsimp only [Zam, Zwm, br, vw, lr, cl, clg]
 simp only [e, Option.bind_some]
 cases b with
 | false => simp
 | true =>
  have h := hb rfl
  obtain ⟨x, e1, k1⟩ := m23 h n
  obtain ⟨y, e2, k2⟩ := m24 h n
  have : x = y := by rw [Bool.eq_iff_iff, k1, k2]
  subst this
  simp [m20 h, m22 h, e1, e2, awk]
theorem ZeZ {s : Scm} {n : ByteArray} (h : bkL (Zcg s) ≤ 1048576) : Zam s n = some true := Zdo s n (Zrn h)
end Go.Proofs.Ythhipejbnbochaa
namespace Go.Proofs.Ythhipejbnbochaa
set_option linter.all false
open Go Go.Eng Go.ChangeShapes Go.WideShapes Go.ChangeAt Go.RowKit
theorem own : ownKnob Try.prog.godebug = none := by kernel_rfl
namespace GraphHeights
open Go.Proofs.Ythhipejbnbochaa
set_option maxRecDepth 100000 in
theorem contract (H : Type) (enc : TypeId × Value → H) (W : World) (base : Nat) (args : Array Value) (ds gs : List (DataW H)) (before : List MemPlace)
  (hval : ∀ (j : Nat) t v, Try.f7.params[j]? = some t → args[j]? = some v → Value.okWide Try.prog W .any base t v)
  (hW : DataW.Whole enc Try.prog Try.f7.params.toList Rows.graphHeightsSpec.vars false W args.toList ds gs before) (hk : Rows.uptoSmall H (ds ++ gs) = true) :
  Calls Try.prog 7 args W fun e W' => ∃ v, e = .returned v ∧ Rows.graphHeightsSpec.post enc Try.prog Try.f7 false true false false W args v W' := by
 obtain ⟨p, q, hA0, hV, rfl, hfz, hnd⟩ := id hW
 have hA : DataW.TrodAll enc Try.prog W 0 (fun _ => true) true Try.f7.params.toList args.toList ds p := hA0
 rw [Try.params7] at hA hval
 obtain ⟨v0, vs0, d0, ds0, p0, q0, hargs, rfl, rfl, h0, r0⟩ := trodAll_cons hA
 obtain ⟨v1, vs1, d1, ds1, p1, q1, rfl, rfl, rfl, h1, r1⟩ := trodAll_cons r0
 obtain ⟨rfl, rfl, rfl⟩ := trodAll_nil r1
 obtain rfl : args = #[v0, v1] := by cases args; simp_all
 have hb : Rows.uptoBulkAll ([d0, d1] ++ gs) ≤ 1048576 := of_decide_eq_true hk
 simp only [YaJ, Yaj, Rows.uptoBulkAll] at hb
 obtain ⟨s, re0, fe0⟩ := ZrU Zuq Try.underlying26 (hval 0 26 v0 rfl rfl) h0
 obtain ⟨n, re1, fe1⟩ := Zq2 Try.underlying9 (hval 1 9 v1 rfl rfl) h1
 obtain ⟨rfl, rfl⟩ := trodVars_none hV
 have A := (K_7 s n).k 0 Hp0 true (ZeZ (by omega))
 refine (A.2 (fun _ => ⟨0, 0, 0⟩) (· < W.heap.size) W #[v0, v1] (ok0 _) (ZqU (xs := [.agg ((Zcg s).map .d), .d (.str n)]) (vs := [v0, v1]) ⟨re0 _ _, re1 _ _ _ _, trivial⟩)).mono fun e W' ⟨r, v, H', m', S', he, hp, hO, hr, hx⟩ => ?_
 obtain ⟨hp, _⟩ := hp
 subst he
 subst hp
 cases hr
 rename_i hd
 cases hd
 exact ⟨_, rfl, Zmh hW rfl (by kernel_rfl) (by rw [Try.params7]; exact (by decide +kernel)) (by kernel_rfl) Try.underlying4 rfl ⟨hx.os, hx.tape, hx.output, hx.size, hx.blk⟩⟩
set_option maxRecDepth 100000 in
theorem lifted (os : Os) (started : os.Started) (H : Type) (enc : TypeId × Value → H) (F : Stop.Interp) :
  ReturnsInHanded {} Try.checked os 7 .any ((Rows.OpenSpec.upto Rows.graphHeightsSpec).pre6 enc Try.prog Try.f7 Rows.graphHeightsUptoRow.domain false) (((Rows.OpenSpec.upto Rows.graphHeightsSpec).at F).post enc Try.prog Try.f7 false true false false) := by
 refine returnsInHanded_of_cond (C := Try.checked) (s := Rows.OpenSpec.upto Rows.graphHeightsSpec) (k := Rows.uptoSmall) rfl own started (by kernel_rfl) Try.func7
  (OpenSpec.witness (enc := enc) (C := Try.checked) (s := Rows.OpenSpec.upto Rows.graphHeightsSpec) (k := Rows.uptoSmall) rfl false ⟨#[], #[.agg #[.slice none 0 0, .slice none 0 0, .slice none 0 0], .string ⟨#[]⟩], []⟩ 8 (by kernel_rfl) (by kernel_rfl) (by kernel_rfl)
   (x := ([.agg [.nil, .nil, .nil], .lit (.string [])], [], [])) (by kernel_rfl) rfl (by kernel_rfl)) ?_
 intro W base args ds gs before hval hW _ hk _
 exact contract H enc W base args ds gs before hval hW hk
theorem holds : Rows.GraphHeightsUptoSaid :=
 OpenClaim.holds_of_cond 7 Try.f7 rfl rfl rfl rfl rfl rfl rfl ⟨rfl, rfl, rfl, rfl, rfl⟩ rfl rfl rfl rfl rfl (by kernel_rfl) Try.func7 (by kernel_rfl)
  (of_decide_eq_true (by kernel_rfl)) (by unfold Func.isWrapper; first | (rw [if_pos (by decide +kernel)]; kernel_rfl) | (rw [if_neg (by decide +kernel)]; exact ⟨rfl, rfl⟩))
  (fun os started H enc _ F => lifted os started H enc F)
end GraphHeights
end Go.Proofs.Ythhipejbnbochaa
