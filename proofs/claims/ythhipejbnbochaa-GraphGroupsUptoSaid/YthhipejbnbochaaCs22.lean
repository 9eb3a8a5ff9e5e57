import Derived.Test.YthhipejbnbochaaCs21
import Derived.Test.YthhipejbnbochaaCs20
import Derived.Test.YthhipejbnbochaaCs00
namespace Go.Proofs.Ythhipejbnbochaa
set_option linter.all false
open Go Go.Eng
theorem ZgK {α : Type} (p : α → Bool) : ∀ l : List α, l.find? p = (l.findIdx? p).bind fun i => l[i]?
 | [] => rfl
 | x :: l => by
  rw [List.find?_cons, Ybl]
  cases h : p x with
  | true => simp
  | false =>
   rw [ZgK p l]
   cases List.findIdx? p l <;> simp
theorem Zdy {α : Type} {p : α → Bool} : ∀ {l : List α}, (l.findIdx? p).isSome = l.any p
 | [] => rfl
 | x :: l => by
  rw [Ybl, List.any_cons, ← Zdy (l := l)]
  cases p x <;> simp
def ixM (s : Scm) (n : ByteArray) : Option Nat := s.messages.findIdx? fun m => decide (m.name = n)
def ixE (s : Scm) (n : ByteArray) : Option Nat := s.enums.findIdx? fun m => decide (m.name = n)
def zM : Msg := ⟨⟨#[]⟩, [], [], [], []⟩
def zE : Enm := ⟨⟨#[]⟩, false, [], [], []⟩
def ZoB (s : Scm) (n : ByteArray) : Msg × Int := (ixM s n).elim (zM, -1) fun i => (s.messages.getD i zM, (i : Int))
def Zuv (s : Scm) (n : ByteArray) : Enm × Int := (ixE s n).elim (zE, -1) fun i => (s.enums.getD i zE, (i : Int))
theorem Znu (s : Scm) (n : ByteArray) : Zso s n = (ixM s n).bind fun i => s.messages[i]? := ZgK _ _
theorem Zq4 {s : Scm} {n : ByteArray} {i : Nat} (h : ixM s n = some i) : i < s.messages.length := by
 unfold ixM at h
 rw [YU] at h
 exact h.1
theorem Zpi (s : Scm) (n : ByteArray) : (ixM s n).isSome = isM s n := by
 unfold isM
 rw [Znu]
 cases h : ixM s n with
 | none => rfl
 | some i => simp [Yd (Zq4 h)]
theorem Zxk (s : Scm) (n : ByteArray) : (ZoB s n).1.fields = Zfm s n := by
 unfold ZoB Zfm
 rw [Znu]
 cases h : ixM s n with
 | none => rfl
 | some i => simp [Yd (Zq4 h), Yw]
theorem ZqI (s : Scm) (n : ByteArray) : decide (0 ≤ (ZoB s n).2) = isM s n := by
 rw [← Zpi]
 unfold ZoB
 cases ixM s n with
 | none => rfl
 | some i => simp
theorem Zwc (s : Scm) (n : ByteArray) : decide ((ZoB s n).2 < 0) = !isM s n := by
 rw [← ZqI]
 by_cases h : (ZoB s n).2 < 0
 ·rw [decide_eq_true h, decide_eq_false (by omega)]; rfl
 ·rw [decide_eq_false h, decide_eq_true (by omega)]; rfl
theorem Zwz (s : Scm) (n : ByteArray) : decide (0 ≤ (Zuv s n).2) = isE s n := by
 have e : (ixE s n).isSome = isE s n := Zdy
 rw [← e]
 unfold Zuv
 cases ixE s n with
 | none => rfl
 | some i => simp
theorem ZuQ (s : Scm) (n : ByteArray) : decide ((Zuv s n).2 < 0) = !isE s n := by
 rw [← Zwz]
 by_cases h : (Zuv s n).2 < 0
 ·rw [decide_eq_true h, decide_eq_false (by omega)]; rfl
 ·rw [decide_eq_false h, decide_eq_true (by omega)]; rfl
theorem m18 {s : Scm} (h : Fw s) (n : ByteArray) : ZaW s n = some (ZoB s n) := by
 have hm := h.m
 have q1 := ZbW (B := ZmQ s n) (N := big) s.messages (fun m => decide (m.name = n)) (fun i => (s.messages.getD i zM, (i : Int))) () (fun i x hx => by
  have g1 := ZcU hx
  have g0 := (Yb.1 hx).1
  have g2 : i + 1 < 9223372036854775808 := by omega
  dsimp only [ZmQ, ZpE, br, ix, vz, vw, vs, lrt, ln, lxe, wa, eqL]
  simp only [g1, g2, hx, decide_true, if_true, Option.bind_some, Yw, Y4]
  cases decide (x.name = n) <;> simp) (by simp [ZmQ, ZpE, br, ix, vz, vw, vs, lrt, ln, lxe, wa, eqL]) (Zbg (by omega))
 dsimp only [ZaW, Zue, Zth, Zs7, vw, lr, lc]
 rw [q1]
 unfold ZoB ixM
 cases s.messages.findIdx? fun m => decide (m.name = n) <;> rfl
theorem m46 {s : Scm} (h : Fw s) (n : ByteArray) : Zbf s n = some (Zuv s n) := by
 have hm := h.e
 have q1 := ZbW (B := ZmN s n) (N := big) s.enums (fun m => decide (m.name = n)) (fun i => (s.enums.getD i zE, (i : Int))) () (fun i x hx => by
  have g1 := ZcU hx
  have g0 := (Yb.1 hx).1
  have g2 : i + 1 < 9223372036854775808 := by omega
  dsimp only [ZmN, ZoF, br, ix, vz, vw, vs, lrt, ln, lxe, wa, eqL]
  simp only [g1, g2, hx, decide_true, if_true, Option.bind_some, Yw, Y4]
  cases decide (x.name = n) <;> simp) (by simp [ZmN, ZoF, br, ix, vz, vw, vs, lrt, ln, lxe, wa, eqL]) (Zbg (by omega))
 dsimp only [Zbf, Zub, ZrJ, Zrn, vw, lr, lc]
 rw [q1]
 unfold Zuv ixE
 cases s.enums.findIdx? fun m => decide (m.name = n) <;> rfl
def ZkA (l : List ByteArray) (x : ByteArray) : Bool := l.any fun y => decide (y = x)
theorem ZdK {l : List ByteArray} {x : ByteArray} : ZkA l x = true ↔ x ∈ l := by
 unfold ZkA
 simp [YL]
theorem m27 {l : List ByteArray} (h : l.length < 4611686018427387904) (x : ByteArray) : Zbj l x = some (ZkA l x) := by
 have q1 := ZbW (B := Zk5 l x) (N := big) l (fun y => decide (y = x)) (fun i => true) () (fun i y hy => by
  have g1 := ZcU hy
  have g0 := (Yb.1 hy).1
  have g2 : i + 1 < 9223372036854775808 := by omega
  dsimp only [Zk5, Zp5, br, ix, vz, vs, lrt, ln, lxe, wa, eqL]
  simp only [g1, g2, hy, decide_true, if_true, Option.bind_some]
  cases decide (y = x) <;> simp) (by simp [Zk5, Zp5, br, ix, vz, vs, lrt, ln, lxe, wa, eqL]) (Zbg h)
 dsimp only [Zbj, ZrO, ZsS, Ztr, lr, lc]
 rw [q1]
 unfold ZkA
 rw [← Zdy]
 cases l.findIdx? fun y => decide (y = x) <;> rfl
def ZbP (l : List ByteArray) (x : ByteArray) : List ByteArray := if ZkA l x = true then l else (l.takeWhile (fun y => sLt y x) ++ [x]) ++ l.drop (l.takeWhile fun y => sLt y x).length
theorem ZiC {α : Type} (p : α → Bool) (l : List α) : l.drop (l.takeWhile p).length = l.dropWhile p := by
 conv => lhs; arg 2; rw [← Yai (p := p) (l := l)]
 rw [List.drop_left]
theorem Zg0 (l : List ByteArray) (x : ByteArray) : (ZbP l x).length ≤ l.length + 1 := by
 unfold ZbP
 split
 ·omega
 ·rw [ZiC, List.length_append, List.length_append]
  have := congrArg List.length (Yai (p := fun y => sLt y x) (l := l))
  rw [List.length_append] at this
  simp
  omega
theorem ZlX (l : List ByteArray) (x y : ByteArray) : y ∈ ZbP l x ↔ y = x ∨ y ∈ l := by
 unfold ZbP
 split
 ·rename_i h
  exact ⟨.inr, fun h2 => h2.elim (fun e => e ▸ ZdK.1 h) id⟩
 ·rw [ZiC]
  have h2 : y ∈ l ↔ y ∈ l.takeWhile (fun y => sLt y x) ∨ y ∈ l.dropWhile (fun y => sLt y x) := by
   conv => lhs; rw [← Yai (p := fun y => sLt y x) (l := l)]
   exact YD
  rw [YD, YD, YG, h2]
  constructor
  ·rintro ((h | h) | h)
   ·exact .inr (.inl h)
   ·exact .inl h
   ·exact .inr (.inr h)
  ·rintro (h | h | h)
   ·exact .inl (.inr h)
   ·exact .inl (.inl h)
   ·exact .inr h
theorem ZqM {p : ByteArray → Bool} {x : ByteArray} : ∀ {l : List ByteArray}, x ∈ l.takeWhile p → p x = true
 | [], h => by cases h
 | y :: l, h => by
  rw [Ybd] at h
  split at h
  ·rename_i hy
   rcases Yo.1 h with rfl | h
   ·exact hy
   ·exact ZqM h
  ·cases h
theorem ZnH {l : List ByteArray} (h : Asc l) (x : ByteArray) : Asc (ZbP l x) := by
 unfold ZbP
 split
 ·exact h
 ·rename_i hx
  have hs : x ∉ l := fun q => hx (ZdK.2 q)
  rw [ZiC, YS]
  have e := Yai (p := fun y => sLt y x) (l := l)
  have h' := h
  rw [← e] at h'
  obtain ⟨h1, h2, h3⟩ := Yba.1 h'
  have t2 : ∀ y ∈ l.dropWhile (fun y => sLt y x), sLt x y = true := fun y hy => by
   cases hd : l.dropWhile (fun y => sLt y x) with
   | nil => rw [hd] at hy; cases hy
   | cons b r =>
    have hb : sLt b x = false := by
     have := List.head?_dropWhile_not (fun y => sLt y x) l
     rw [hd] at this
     simpa using this
    have hbl : b ∈ l := by
     rw [← e, hd]
     exact Yar _ (Yu ..)
    have hsb : sLt x b = true := Zun hb fun e => hs (e ▸ hbl)
    rw [hd] at hy h2
    rcases Yo.1 hy with rfl | hy
    ·exact hsb
    ·exact Zle hsb (List.rel_of_pairwise_cons h2 hy)
  refine Yba.2 ⟨h1, YaD.2 ⟨t2, h2⟩, fun a ha b hb => ?_⟩
  rcases Yo.1 hb with rfl | hb
  ·exact ZqM (p := fun y => sLt y b) ha
  ·exact h3 a ha b hb
theorem Ziu {α : Type} {p : α → Bool} : ∀ {l : List α} {i : Nat}, (∀ y ∈ l.take i, p y = true) → (∀ y, l[i]? = some y → p y = false) → l.takeWhile p = l.take i
 | [], i, _, _ => by simp
 | x :: l, 0, _, h => by rw [Ybd, h x rfl]; rfl
 | x :: l, i + 1, h1, h2 => by
  rw [Ybd, h1 x (by simp), List.take_succ_cons]
  simp only [if_true]
  rw [Ziu (i := i) (fun y hy => h1 y (by simp [hy])) (fun y hy => h2 y (by simpa using hy))]
theorem m53 {l : List ByteArray} (h : l.length ≤ 1000000) (x : ByteArray) : Zbd l x = some (ZbP l x) := by
 have q1 := Zbs (B := ZkJ l x) (I := fun k v => k + v.2 = l.length ∧ v.1 = l.take v.2 ∧ ∀ y ∈ v.1, sLt y x = true) (Q := fun o => o = .inl (l.takeWhile fun y => sLt y x)) (fun k v hI => by
  obtain ⟨r, i⟩ := v
  obtain ⟨h1, h2, h3⟩ := hI
  simp only at h1 h2 h3
  subst h2
  have hl : (l.take i).length = i := by rw [YX]; omega
  cases hk : l[i]? with
  | none =>
   have hge := Y7.1 hk
   refine ⟨.ex (l.take i), by dsimp only [ZkJ, Zoe, br, ix, ixg, vz, vw, vs, ln, lxe, ap, wa, fl, eqL]; simp [show ¬ (i : Int) < (l.length : Int) by omega], ?_⟩
   rw [Ziu h3 (fun y hy => by rw [hk] at hy; cases hy)]
  | some y =>
   have g1 := ZcU hk
   obtain ⟨g0, rfl⟩ := Yb.1 hk
   have g2 : i + 1 < 9223372036854775808 := by omega
   have e : l.getD i (Rw.z) = l[i] := by rw [Yw, hk]; rfl
   cases hy : sLt l[i] x with
   | false =>
    refine ⟨.ex (l.take i), by dsimp only [ZkJ, Zoe, br, ix, ixg, vz, vw, vs, ln, lxe, ap, wa, fl, eqL]; simp [g1, g0, e, hy], ?_⟩
    rw [Ziu h3 (fun z hz => by rw [hk] at hz; cases hz; exact hy)]
   | true =>
    refine ⟨.nx (l.take i ++ [l[i]], i + 1), by dsimp only [ZkJ, Zoe, br, ix, ixg, vz, vw, vs, ln, lxe, ap, wa, fl, eqL]; simp [g1, g0, g2, e, hy, hk, hl]; omega, k - 1, by omega, by simp only; omega, ?_, fun z hz => ?_⟩
    ·simp only
     rw [Yag g0]
    ·rcases YD.1 hz with q | q
     ·exact h3 z q
     ·rw [YG.1 q]; exact hy) big l.length ([], 0) (Zbg (by omega)) ⟨rfl, by simp, fun y hy => by cases hy⟩
 obtain ⟨o, e, rfl⟩ := q1
 have hlt : (l.takeWhile fun y => sLt y x).length ≤ l.length := (List.takeWhile_sublist _).length_le
 dsimp only [Zbd, Zs8, Zsl, ZsZ, ZtL, Zt1, br, vz, vw, lr, lc, ap, aq, cl, sL, fl, fr, eqN, Bd.c, Bd.vl]
 simp only [m27 (l := l) (by omega), Option.bind_some, e, Sum.elim_inl]
 unfold ZbP
 cases ZkA l x with
 | true => rfl
 | false =>
  simp [hlt]
  exact ⟨by omega, by omega, Yab (by rw [Yao]; exact Yg _)⟩
theorem ZjM (l a : List ByteArray) : (l.foldl ZbP a).length ≤ a.length + l.length := by
 induction l generalizing a with
 | nil => exact Yg _
 | cons x l ih => rw [Yaj]; have := ih (ZbP a x); have := Zg0 a x; simp; omega
theorem ZgP (l a : List ByteArray) (y : ByteArray) : y ∈ l.foldl ZbP a ↔ y ∈ l ∨ y ∈ a := by
 induction l generalizing a with
 | nil => simp
 | cons x l ih => rw [Yaj, ih, ZlX, Yo, or_assoc, or_left_comm]
theorem Zf8 {l a : List ByteArray} (h : Asc a) : Asc (l.foldl ZbP a) := by
 induction l generalizing a with
 | nil => exact h
 | cons x l ih => rw [Yaj]; exact ih (ZnH h x)
theorem ZgH (l : List ByteArray) : l.foldl ZbP [] = ZdO l := (Ztk (Zf8 .nil) fun x => by rw [ZgP]; simp).symm
theorem Zf7 (l : List ByteArray) : (ZdO l).length ≤ l.length := by rw [← ZgH]; have := ZjM l []; simpa using this
theorem ZdM {α ρ : Type} {B : List ByteArray × Nat → Option (Lv (List ByteArray × Nat) (List ByteArray) ρ)} (l : List α) (c : α → Option ByteArray) (a : List ByteArray) (ha : a.length + l.length ≤ 1000000)
  (hs : ∀ (i : Nat) b x, l[i]? = some x → b.length ≤ 1000000 → i + 1 < 9223372036854775808 → (i : Int) < (l.length : Int) → B (b, i) = some (.nx ((c x).elim b (ZbP b), i + 1))) (he : ∀ b, B (b, l.length) = some (.ex b)) : ZaA B big (a, 0) = some (.inl ((l.filterMap c).foldl ZbP a)) := by
 have := ZgY (B := B) (N := big) l (fun i b => (b, i)) (fun i b => b.length ≤ a.length + i) (fun b x => (.inl ((c x).elim b (ZbP b)) : List ByteArray ⊕ ρ)) id (fun i b x hx hI => by
  have hlt := (Yb.1 hx).1
  refine ⟨hs i b x hx (by omega) (by omega) (ZcU hx), fun b' e => ?_⟩
  cases e
  cases c x with
  | none => simp; omega
  | some y => have := Zg0 b y; simp; omega) (fun b _ => he b) a (by omega) (Zbg (by omega))
 rw [this, Zfd (fun b x => (c x).elim b (ZbP b)) (fun _ _ => rfl)]
 congr 2
 clear this hs he ha
 show _ = _
 induction l generalizing a with
 | nil => rfl
 | cons x l ih =>
  rw [Yaj, ih, List.filterMap_cons]
  cases c x <;> rfl
end Go.Proofs.Ythhipejbnbochaa
namespace Go.Proofs.Ythhipejbnbochaa
set_option linter.all false
open Go Go.Eng
section
variable {s : Scm} (h : Fw s)
include h
theorem m19 (f : Fld) : Za6 s f = some (if ldF s f = true then (f.type.name, true) else (⟨#[]⟩, false)) := by
 have e1 := Zwc s f.type.name
 have e2 := ZuQ s f.type.name
 have hne : ¬ (10 : Int) = 9 := by decide
 unfold ldF toF
 dsimp only [Za6, ZtK, br, vw, lr, cl]
 simp only [m18 h, m46 h, Option.bind_some, e1, e2]
 by_cases h1 : f.type.kind = 10
 ·simp only [h1, hne, decide_true, decide_false, if_true, if_false, Bool.and_true, Bool.false_and, Ybm]
  cases isM s f.type.name <;> simp
 ·by_cases h2 : f.type.kind = 9
  ·simp only [h1, h2, decide_true, decide_false, if_true, if_false, YbE, Bool.true_and, YaW]
   cases isE s f.type.name <;> simp
  ·simp [h1, h2]
omit h in
theorem Zjh {α β : Type} (p : α → Bool) (g : α → β) (l : List α) : l.filterMap (fun x => if p x = true then some (g x) else none) = (l.filter p).map g := by
 induction l with
 | nil => rfl
 | cons x l ih =>
  rw [List.filterMap_cons, List.filter_cons, ih]
  cases p x <;> rfl
theorem Zyl (f : Fld) : (ldF s f && decide (f.type.kind = 10)) = toF s f := by
 unfold ldF toF
 by_cases h1 : f.type.kind = 10
 ·simp [h1]
 ·simp [h1]
theorem m61 (n : ByteArray) : Zbe s n = some (ZdO (ZaM s n)) := by
 have hl := h.fl n
 have e := Zxk s n
 have q1 := ZdM (B := Zoh s (ZoB s n)) (Zfm s n) (fun f => if toF s f = true then some f.type.name else none) [] (by simp; omega) (fun i b x hx hb g2 g1 => by
  have g0 := (Yb.1 hx).1
  have e3 : (Zfm s n).getD i Rw.z = x := by rw [Yw, hx]; rfl
  have e4 := Zyl h x
  dsimp only [Zoh, ZpR, br, ix, ixg, vz, vw, vs, v2, ln, lxe, cl, wa, eqL]
  simp only [e, g1, g2, hx, m19 h, decide_true, if_true, Option.bind_some, Ybo, e3]
  rw [← e4]
  cases hq : ldF s x with
  | true =>
   by_cases h2 : x.type.kind = 10
   ·simp [m53 hb, h2, g0]
   ·simp [h2, g0]
  | false => simp) (fun b => by dsimp only [Zoh, ZpR, br, ix, ixg, vz, vw, vs, v2, ln, lxe, cl, wa, eqL]; simp [e])
 rw [Zjh] at q1
 dsimp only [Zbe, ZsG, Ztg, ZrL, Zul, vz, vw, lr, lc, cl, fz]
 simp only [m18 h, Option.bind_some, q1, Sum.elim_inl]
 rw [ZgH]
 rfl
def Zok (s : Scm) (v : List ByteArray) : List ByteArray := v.foldl (fun a y => (ZdO (ZaM s y)).foldl ZbP a) v
omit h in
theorem Znh (g : ByteArray → List ByteArray) : ∀ (v a : List ByteArray), (Asc a → Asc (v.foldl (fun a y => (g y).foldl ZbP a) a)) ∧ ∀ x, x ∈ v.foldl (fun a y => (g y).foldl ZbP a) a ↔ x ∈ a ∨ ∃ y ∈ v, x ∈ g y
 | [], a => ⟨id, fun x => by simp⟩
 | y :: v, a => by
  obtain ⟨p, q⟩ := Znh g v ((g y).foldl ZbP a)
  refine ⟨fun ha => p (Zf8 ha), fun x => ?_⟩
  rw [Yaj, q, ZgP]
  simp only [Yo, exists_eq_or_imp, or_assoc, or_left_comm]
theorem Zx5 (v : List ByteArray) (hv : v.length ≤ 8) : ZaA (ZkS s v) big (v, 0) = some (.inl (Zok s v)) := by
 have := ZgY (B := ZkS s v) (N := big) v (fun i b => (b, i)) (fun i b => b.length ≤ 8 + i * 10) (fun b y => (.inl ((ZdO (ZaM s y)).foldl ZbP b) : List ByteArray ⊕ List ByteArray)) id (fun i b y hy hI => by
  have g1 := ZcU hy
  have g0 := (Yb.1 hy).1
  have g2 : i + 1 < 9223372036854775808 := by omega
  have h1 := ZjM (ZdO (ZaM s y)) b
  have h2 := Zf7 (ZaM s y)
  have h3 := h.nl y
  have q := ZdM (B := Zns s v i (ZdO (ZaM s y))) (ZdO (ZaM s y)) some b (by omega) (fun j c x hx hc g4 g3 => by
   dsimp only [Zns, ZoS, br, ix, vz, vs, ln, lxe, cl, wa, eqL]
   simp only [g3, g4, hx, m53 hc, decide_true, if_true, Option.bind_some, Option.elim_some]) (fun c => by dsimp only [Zns, ZoS, br, ix, vz, vs, ln, lxe, cl, wa, eqL]; simp)
  rw [List.filterMap_some] at q
  refine ⟨?_, fun b' e => by cases e; omega⟩
  dsimp only [ZkS, Zph, ZoG, Zo6, br, ix, vz, vs, ln, lxe, lc, cl, wa, eqL]
  simp only [g1, g2, hy, m61 h, q, decide_true, if_true, Option.bind_some, Sum.elim_inl]) (fun b _ => by dsimp only [ZkS, Zph, ZoG, Zo6, br, ix, vz, vs, ln, lxe, lc, cl, wa, eqL]; simp) v (by omega) (Zbg (by omega))
 rw [this, Zfd (fun b y => (ZdO (ZaM s y)).foldl ZbP b) (fun _ _ => rfl)]
 rfl
end
structure AOk (s : Scm) (ns : List ByteArray) (l : List ByteArray) : Prop where
 a : Asc l
 m : ∀ x, x ∈ l ↔ (x ∈ ns ∧ isM s x = true) ∨ ∃ y ∈ ns, isM s y = true ∧ Rch s y x
theorem AOk.len {s : Scm} (h : Fw s) {ns l : List ByteArray} (k : AOk s ns l) : l.length ≤ 8 := by
 have := Zdj (ZcZ k.a) (r := nmM s) fun x hx => ZbJ.1 (by
  rcases (k.m x).1 hx with ⟨_, q⟩ | ⟨y, _, _, q⟩
  ·exact q
  ·exact q.isM)
 have h2 := h.m
 unfold nmM at this
 rw [Yn] at this
 omega
theorem Zv2 {l r : List ByteArray} (hl : l.Nodup) (hs : ∀ x ∈ l, x ∈ r) (hn : r.length ≤ l.length) (hr : r.Nodup) : ∀ x ∈ r, x ∈ l := fun x hx => by
 apply YaN
 intro hc
 have := Zdj (l := x :: l) (r := r) (YbA.2 ⟨hc, hl⟩) fun y hy => by
  rcases Yo.1 hy with rfl | hy
  ·exact hx
  ·exact hs y hy
 simp at this
 omega
theorem m55 {s : Scm} (h : Fw s) (ns : List ByteArray) (hn : ns.length ≤ 1000) : ∃ l, Zbi s ns = some l ∧ AOk s ns l := by
 have q1 := ZdM (B := Znb s ns) ns (fun x => if isM s x = true then some x else none) [] (by simp; omega) (fun i b x hx hb g2 g1 => by
  dsimp only [Znb, Zp3, ZpH, Zpw, Ze9, ZoM, br, ix, vz, vw, vs, v2, ln, lxe, lc, cl, wa, du, eqL]
  simp only [g1, g2, hx, m18 h, ZqI, decide_true, if_true, Option.bind_some]
  cases isM s x with
  | true => simp [m53 hb]
  | false => simp) (fun b => by dsimp only [Znb, Zp3, ZpH, Zpw, Ze9, ZoM, br, ix, vz, vw, vs, v2, ln, lxe, lc, cl, wa, du, eqL]; simp)
 have e0 : ns.filterMap (fun x => if isM s x = true then some x else none) = ns.filter (isM s) := by
  have := Zjh (isM s) (fun x : ByteArray => x) ns
  rwa [List.map_id'] at this
 rw [e0, ZgH] at q1
 obtain ⟨v0, hv0⟩ : ∃ v0, v0 = ZdO (ns.filter (isM s)) := ⟨_, rfl⟩
 rw [← hv0] at q1
 have a0 : Asc v0 := hv0 ▸ Zi1 _
 have mem0 : ∀ x, x ∈ v0 ↔ x ∈ ns ∧ isM s x = true := fun x => by rw [hv0, ZdC, YJ]
 have hnm : (nmM s).length ≤ 8 := by unfold nmM; rw [Yn]; exact h.m
 have q2 := Zbs (B := ZnY s) (I := fun k v => Asc v.1 ∧ (∀ x ∈ v0, x ∈ v.1) ∧ (∀ x ∈ v.1, x ∈ v0 ∨ ∃ y ∈ v0, Rch s y x) ∧ (v.2 = false → ∀ y ∈ v.1, ∀ x ∈ ZaM s y, x ∈ v.1) ∧ (v.2 = true → k + v.1.length = 10) ∧ (v.2 = false → k = 0)) (Q := fun o => Sum.elim (fun l => AOk s ns l) (fun _ => False) o) (fun k v hI => by
  obtain ⟨v, ag⟩ := v
  obtain ⟨i1, i2, i3, i4, i5, i6⟩ := hI
  simp only at i1 i2 i3 i4 i5 i6
  have hM : ∀ x ∈ v, isM s x = true := fun x hx => by
   rcases i3 x hx with q | ⟨y, _, q⟩
   ·exact ((mem0 x).1 q).2
   ·exact q.isM
  have hv8 : v.length ≤ 8 := YR (Zdj (ZcZ i1) fun x hx => ZbJ.1 (hM x hx)) hnm
  cases ag with
  | false =>
   refine ⟨.ex v, by dsimp only [ZnY, Zjx, ZiN, Zjf, Zjs, br, vz, ln, lxe, lc, eqL]; simp, i1, fun x => ⟨fun hx => ?_, fun hx => ?_⟩⟩
   ·rcases i3 x hx with q | ⟨y, hy, q⟩
    ·exact .inl ((mem0 x).1 q)
    ·exact .inr ⟨y, ((mem0 y).1 hy).1, ((mem0 y).1 hy).2, q⟩
   ·have hcl : ∀ y ∈ v, ∀ x, Rch s y x → x ∈ v := fun y hy x hr => by
     induction hr with
     | one q => exact i4 rfl y hy _ q
     | tl _ q ih => exact i4 rfl _ ih _ q
    rcases hx with q | ⟨y, hy, hm, q⟩
    ·exact i2 x ((mem0 x).2 q)
    ·exact hcl y (i2 y ((mem0 y).2 ⟨hy, hm⟩)) x q
  | true =>
   have q3 := Zx5 h v hv8
   obtain ⟨g1, g2⟩ := Znh (fun y => ZdO (ZaM s y)) v v
   have g1 : Asc (Zok s v) := g1 i1
   have g2 : ∀ x, x ∈ Zok s v ↔ x ∈ v ∨ ∃ y ∈ v, x ∈ ZaM s y := fun x => by
    have := g2 x
    simp only [ZdC] at this
    exact this
   have hR : ∀ x ∈ Zok s v, x ∈ v0 ∨ ∃ y ∈ v0, Rch s y x := fun x hx => by
    rcases (g2 x).1 hx with q | ⟨y, hy, q⟩
    ·exact i3 x q
    ·rcases i3 y hy with p | ⟨z, hz, p⟩
     ·exact .inr ⟨y, p, .one q⟩
     ·exact .inr ⟨z, hz, .tl p q⟩
   have hr8 : (Zok s v).length ≤ 8 := YR (Zdj (ZcZ g1) fun x hx => ZbJ.1 (by
    rcases hR x hx with q | ⟨y, _, q⟩
    ·exact ((mem0 x).1 q).2
    ·exact q.isM)) hnm
   have hge : v.length ≤ (Zok s v).length := Zdj (ZcZ i1) fun x hx => (g2 x).2 (.inl hx)
   have i5 := i5 rfl
   refine ⟨.nx (Zok s v, decide ((v.length : Int) < ((Zok s v).length : Int))), by dsimp only [ZnY, Zjx, ZiN, Zjf, Zjs, br, vz, ln, lxe, lc, eqL]; simp [q3], if v.length < (Zok s v).length then 10 - (Zok s v).length else 0, by split <;> omega, g1, fun x hx => (g2 x).2 (.inl (i2 x hx)), hR, fun hf y hy x hx => ?_, fun hf => ?_, fun hf => ?_⟩
   ·have hlt := of_decide_eq_false hf
    have hall := Zv2 (ZcZ i1) (fun x hx => (g2 x).2 (.inl hx)) (by omega) (ZcZ g1)
    exact (g2 x).2 (.inr ⟨y, hall y hy, hx⟩)
   ·have := of_decide_eq_true hf
    rw [if_pos (by omega)]
    simp only
    omega
   ·have := of_decide_eq_false hf
    rw [if_neg (by omega)]) big (10 - v0.length) (v0, true) (Zbg (by omega)) ⟨a0, fun x hx => hx, fun x hx => .inl hx, fun q => (by cases q), fun _ => (by
   have := YR (Zdj (ZcZ a0) fun x hx => ZbJ.1 ((mem0 x).1 hx).2) hnm
   simp only
   omega), fun q => (by cases q)⟩
 obtain ⟨o, e, hq⟩ := q2
 cases o with
 | inr _ => exact hq.elim
 | inl l =>
  refine ⟨l, ?_, hq⟩
  dsimp only [Zbi, Zmt, Zmi, ZmL, Zlf, ZnA, vz, vw, lr, lc, fz]
  simp only [q1, e, Option.bind_some, Sum.elim_inl]
section
variable {s : Scm} (h : Fw s)
include h
theorem m49 (a b : ByteArray) : ∃ v, Zaw s a b = some v ∧ (v = true ↔ Rch s a b) := by
 obtain ⟨l, e, k⟩ := m55 h (ZdO (ZaM s a)) (by have := Zf7 (ZaM s a); have := h.nl a; omega)
 refine ⟨ZkA l b, ?_, ?_⟩
 ·dsimp only [Zaw, Zsw, vw, lr, cl]
  simp only [m61 h, e, Option.bind_some, m27 (l := l) (by have := k.len h; omega)]
 ·rw [ZdK, k.m]
  simp only [ZdC]
  constructor
  ·rintro (⟨q, _⟩ | ⟨y, q, _, r⟩)
   ·exact .one q
   ·exact .hd q r
  ·intro hr
   have : ∀ {x}, Rch s a x → x ∈ ZaM s a ∨ ∃ y ∈ ZaM s a, Rch s y x := fun {x} hr => by
    induction hr with
    | one q => exact .inl q
    | tl _ q ih =>
     rcases ih with p | ⟨y, p, r⟩
     ·exact .inr ⟨_, p, .one q⟩
     ·exact .inr ⟨y, p, .tl r q⟩
   rcases this hr with q | ⟨y, q, r⟩
   ·exact .inl ⟨q, hr.isM⟩
   ·exact .inr ⟨y, q, Zex q, r⟩
structure ClOk (s : Scm) (ns : List ByteArray) (l : List ByteArray) : Prop where
 a : Asc l
 m : ∀ x, x ∈ l ↔ (x ∈ ns ∧ (isM s x = true ∨ isE s x = true)) ∨ ∃ n ∈ ns, isM s n = true ∧ (x ∈ Zup s n ∨ ∃ y, Rch s n y ∧ x ∈ Zup s y)
end
end Go.Proofs.Ythhipejbnbochaa
namespace Go.Proofs.Ythhipejbnbochaa
set_option linter.all false
open Go Go.Eng
set_option maxRecDepth 100000 in
theorem awk : Zbw = some true := by kernel_rfl
theorem Zn8 {s : Scm} {n x : ByteArray} (h : x ∈ Zup s n) : isM s x = true ∨ isE s x = true := by
 unfold Zup at h
 obtain ⟨f, hf, rfl⟩ := Yr.1 h
 have := (YJ.1 hf).2
 unfold ldF toF at this
 rcases Bool.or_eq_true_iff.1 this with q | q
 ·exact .inl (YaK.1 q).1
 ·exact .inr (YaK.1 q).2
theorem Zi8 {s : Scm} {n x : ByteArray} (h : x ∈ Zup s n) (he : isE s x = false) : x ∈ ZaM s n := by
 unfold Zup at h
 unfold ZaM
 obtain ⟨f, hf, rfl⟩ := Yr.1 h
 obtain ⟨a, b⟩ := YJ.1 hf
 refine Yr.2 ⟨f, YJ.2 ⟨a, ?_⟩, rfl⟩
 unfold ldF at b
 rw [he, YbE, Ybm] at b
 exact b
theorem ClOk.uniq {s : Scm} {ns l r : List ByteArray} (h : ClOk s ns l) (k : ClOk s ns r) : l = r := Znp h.a k.a fun x => (h.m x).trans (k.m x).symm
theorem ClOk.defd {s : Scm} {ns l : List ByteArray} (h : ClOk s ns l) {x : ByteArray} (hx : x ∈ l) : isM s x = true ∨ isE s x = true := by
 rcases (h.m x).1 hx with ⟨_, q⟩ | ⟨n, _, _, q | ⟨y, _, q⟩⟩
 ·exact q
 ·exact Zn8 q
 ·exact Zn8 q
theorem ClOk.len {s : Scm} (hs : Fw s) {ns l : List ByteArray} (h : ClOk s ns l) : l.length ≤ 16 := by
 have := Zdj (ZcZ h.a) (r := nmM s ++ s.enums.map Enm.name) fun x hx => by
  rcases h.defd hx with q | q
  ·exact YN _ (ZbJ.1 q)
  ·exact Yar _ (ZtM.1 q)
 have h1 := hs.m
 have h2 := hs.e
 simp only [nmM, List.length_append, Yn] at this
 omega
theorem m14 {l : List ByteArray} (h : l.length < 1000000) : Za5 l l = some true := by
 have q1 := Zbs (B := Zlp l l) (I := fun k i => k + i = l.length) (Q := fun o => o = .inl ()) (fun k i hI => by
  cases hk : l[i]? with
  | none =>
   have := Y7.1 hk
   exact ⟨.ex (), by dsimp only [Zlp, ZpA, br, ix, vz, vs, lrt, ln, lxe, wa, eqL]; simp [show ¬ (i : Int) < (l.length : Int) by omega], rfl⟩
  | some x =>
   have g1 := ZcU hk
   have g0 := (Yb.1 hk).1
   have g2 : i + 1 < 9223372036854775808 := by omega
   exact ⟨.nx (i + 1), by dsimp only [Zlp, ZpA, br, ix, vz, vs, lrt, ln, lxe, wa, eqL]; simp [g1, g2, hk], k - 1, by omega, by omega⟩) big l.length 0 (Zbg (by omega)) rfl
 obtain ⟨o, e, rfl⟩ := q1
 dsimp only [Za5, Zta, Zro, Zt9, br, vz, lr, lc, eqL]
 rw [e]
 simp
theorem m11 (s : Scm) (hm : s.messages.length ≤ 1048576) : ∃ b, Zbk s = some b ∧ (b = true → Fw s) := by
 dsimp only [Zbk, ZsH, ZrR, Zrd, br, vz, vy, vw, lr, lc, eqL]
 by_cases h1 : (8 : Int) < (s.messages.length : Int)
 ·exact ⟨false, by simp [h1], fun q => by cases q⟩
 ·by_cases h2 : (8 : Int) < (s.enums.length : Int)
  ·exact ⟨false, by simp [h2], fun q => by cases q⟩
  ·have q1 := Zbs (B := Zkf s) (I := fun k i => k + i = s.messages.length ∧ ∀ m ∈ s.messages.take i, m.fields.length ≤ 10) (Q := fun o => Sum.elim (fun _ => ∀ m ∈ s.messages, m.fields.length ≤ 10) (fun b => b = false) o) (fun k i hI => by
    obtain ⟨i1, i2⟩ := hI
    cases hk : s.messages[i]? with
    | none =>
     have := Y7.1 hk
     rw [Yab this] at i2
     exact ⟨.ex (), by dsimp only [Zkf, ZlK, br, ix, vz, vw, vs, lrt, ln, lxe, wa, eqL]; simp [show ¬ (i : Int) < (s.messages.length : Int) by omega], i2⟩
    | some x =>
     have g1 := ZcU hk
     obtain ⟨g0, rfl⟩ := Yb.1 hk
     have g2 : i + 1 < 9223372036854775808 := by omega
     by_cases hf : (10 : Int) < (s.messages[i].fields.length : Int)
     ·exact ⟨.rt false, by dsimp only [Zkf, ZlK, br, ix, vz, vw, vs, lrt, ln, lxe, wa, eqL]; simp [g0, hk, hf], rfl⟩
     ·refine ⟨.nx (i + 1), by dsimp only [Zkf, ZlK, br, ix, vz, vw, vs, lrt, ln, lxe, wa, eqL]; simp [g0, g2, hk, hf], k - 1, by omega, by omega, fun m hmm => ?_⟩
      rw [Yag g0] at hmm
      rcases YD.1 hmm with q | q
      ·exact i2 m q
      ·rw [YG.1 q]; omega) big s.messages.length 0 (Zbg (by omega)) ⟨rfl, by simp⟩
   obtain ⟨o, e, hq⟩ := q1
   cases o with
   | inl u => exact ⟨true, by simp [h1, h2, e], fun _ => ⟨by omega, by omega, hq⟩⟩
   | inr b => exact ⟨b, by simp [h1, h2, e], fun q => by have : b = false := hq; rw [this] at q; cases q⟩
theorem ZsQ {s : Scm} (h : bkL (ZcE s) ≤ 1048576) : s.messages.length ≤ 1048576 := by
 have := ZqS (e := Zbx) s.messages
 simp only [ZcE, bkL, bk] at h
 omega
def rB (s : Scm) (a b : ByteArray) : Bool := (Zaw s a b).getD false
def eqB (s : Scm) (a b : ByteArray) : Bool := decide (a = b) || (rB s a b && rB s b a)
def hdB (g : List ByteArray) : ByteArray := g.headD ⟨#[]⟩
theorem ZfY {g : List ByteArray} (h : g ≠ []) : hdB g ∈ g := by
 cases g with
 | nil => exact absurd rfl h
 | cons a t => exact Yu ..
theorem Zl1 {g r : List ByteArray} (h : g ≠ []) : hdB (g ++ r) = hdB g := by
 cases g with
 | nil => exact absurd rfl h
 | cons a t => rfl
section
variable {s : Scm} (h : Fw s)
include h
theorem ZhC (a b : ByteArray) : rB s a b = true ↔ Rch s a b := by
 obtain ⟨v, e, k⟩ := m49 h a b
 unfold rB
 rw [e]
 exact k
theorem Ze6 {a b : ByteArray} : eqB s a b = true ↔ a = b ∨ (Rch s a b ∧ Rch s b a) := by
 unfold eqB
 simp [ZhC h]
omit h in
theorem Zjz (a : ByteArray) : eqB s a a = true := by simp [eqB]
theorem ZcI {a b : ByteArray} (k : eqB s a b = true) : eqB s b a = true := by
 rw [Ze6 h] at k ⊢
 rcases k with rfl | k
 ·exact .inl rfl
 ·exact .inr ⟨k.2, k.1⟩
theorem ZbX {a b c : ByteArray} (k : eqB s a b = true) (k' : eqB s b c = true) : eqB s a c = true := by
 rw [Ze6 h] at k k' ⊢
 rcases k with rfl | k
 ·exact k'
 ·rcases k' with rfl | k'
  ·exact .inr k
  ·exact .inr ⟨k.1.trans k'.1, k'.2.trans k.2⟩
theorem Zhm {a b : ByteArray} (k : eqB s a b = true) (x : ByteArray) : eqB s a x = eqB s b x := by
 rw [YbB]
 exact ⟨fun q => ZbX h (ZcI h k) q, fun q => ZbX h k q⟩
end
structure Gps (s : Scm) (p : List ByteArray) (l : List (List ByteArray)) : Prop where
 n : ∀ g ∈ l, g ≠ []
 f : ∀ g ∈ l, g = p.filter (eqB s (hdB g))
 c : ∀ x ∈ p, ∃ g ∈ l, x ∈ g
 a : Asc (l.map hdB)
theorem Zi0 {p : List ByteArray} {n : ByteArray} : Asc (p ++ [n]) ↔ Asc p ∧ ∀ x ∈ p, sLt x n = true := by
 unfold Asc
 rw [Yba]
 simp
theorem Zxc {l : List ByteArray} (h : Asc l) {i j : Nat} {x : ByteArray} (hi : l[i]? = some x) (hj : l[j]? = some x) : i = j := by
 obtain ⟨h1, e1⟩ := Yb.1 hi
 obtain ⟨h2, e2⟩ := Yb.1 hj
 rcases Yam i j with q | q | q
 ·have := Y2.1 h i j h1 h2 q
  rw [e1, e2, ZcD] at this; cases this
 ·exact q
 ·have := Y2.1 h j i h2 h1 q
  rw [e1, e2, ZcD] at this; cases this
theorem Gps.mem {s : Scm} {p : List ByteArray} {l : List (List ByteArray)} (k : Gps s p l) {g : List ByteArray} (hg : g ∈ l) (x : ByteArray) : x ∈ g ↔ x ∈ p ∧ eqB s (hdB g) x = true := by
 conv => lhs; rw [k.f g hg]
 exact YJ
theorem Gps.hd {s : Scm} {p : List ByteArray} {l : List (List ByteArray)} (k : Gps s p l) {g : List ByteArray} (hg : g ∈ l) : hdB g ∈ p := ((k.mem hg _).1 (ZfY (k.n g hg))).1
theorem Gps.uniq {s : Scm} (h : Fw s) {p : List ByteArray} {l : List (List ByteArray)} (k : Gps s p l) {g g' : List ByteArray} (hg : g ∈ l) (hg' : g' ∈ l) (e : eqB s (hdB g) (hdB g') = true) : g = g' := by
 rw [k.f g hg, k.f g' hg']
 exact congrArg (fun q => p.filter q) (funext fun x => Zhm h e x)
theorem Gps.len {s : Scm} {p : List ByteArray} {l : List (List ByteArray)} (k : Gps s p l) : l.length ≤ p.length := by
 have := Zdj (ZcZ k.a) (r := p) fun x hx => by
  obtain ⟨g, hg, rfl⟩ := Yr.1 hx
  exact k.hd hg
 rwa [Yn] at this
theorem Gps.nil (s : Scm) : Gps s [] [] := ⟨by simp, by simp, by simp, List.Pairwise.nil⟩
theorem Gps.new {s : Scm} (h : Fw s) {p : List ByteArray} {l : List (List ByteArray)} (k : Gps s p l) {n : ByteArray} (ha : Asc (p ++ [n])) (hn : ∀ g ∈ l, (rB s (hdB g) n && rB s n (hdB g)) = false) : Gps s (p ++ [n]) (l ++ [[n]]) := by
 obtain ⟨a1, a2⟩ := Zi0.1 ha
 have nn : n ∉ p := fun q => by have := a2 n q; rw [ZcD] at this; cases this
 have ne : ∀ g ∈ l, eqB s (hdB g) n = false := fun g hg => by
  unfold eqB
  rw [hn g hg, Ybm, decide_eq_false_iff_not]
  exact fun e => nn (e ▸ k.hd hg)
 refine ⟨fun g hg => ?_, fun g hg => ?_, fun x hx => ?_, ?_⟩
 ·rcases YD.1 hg with hg | hg
  ·exact k.n g hg
  ·rw [YG.1 hg]; simp
 ·rcases YD.1 hg with hg | hg
  ·rw [YaE, ← k.f g hg]
   simp [ne g hg]
  ·rw [YG.1 hg, YaE]
   have e1 : p.filter (eqB s (hdB [n])) = [] := by
    rw [YaU]
    intro x hx q
    obtain ⟨g, hg, hxg⟩ := k.c x hx
    have q1 := ((k.mem hg x).1 hxg).2
    have q2 := ZbX h q1 (ZcI h q)
    rw [show hdB [n] = n from rfl, ne g hg] at q2
    cases q2
   rw [e1]
   simp [hdB, Zjz]
 ·rcases YD.1 hx with hx | hx
  ·obtain ⟨g, hg, q⟩ := k.c x hx
   exact ⟨g, YN _ hg, q⟩
  ·exact ⟨[n], by simp, hx⟩
 ·rw [YaM]
  refine Zi0.2 ⟨k.a, fun x hx => ?_⟩
  obtain ⟨g, hg, rfl⟩ := Yr.1 hx
  exact a2 _ (k.hd hg)
theorem Ztn {l : List (List ByteArray)} {i : Nat} {g g' : List ByteArray} (hi : l[i]? = some g) (e : hdB g' = hdB g) : (l.set i g').map hdB = l.map hdB := by
 apply List.ext_getElem?
 intro j
 rw [Ys, Ys, Yaw]
 split
 ·rename_i q
  subst q
  rw [hi]
  have := (Yb.1 hi).1
  simp [this, e]
 ·rfl
theorem Gps.put {s : Scm} (h : Fw s) {p : List ByteArray} {l : List (List ByteArray)} (k : Gps s p l) {n : ByteArray} (ha : Asc (p ++ [n])) {i : Nat} {g : List ByteArray} (hi : l[i]? = some g) (hn : (rB s (hdB g) n && rB s n (hdB g)) = true) : Gps s (p ++ [n]) (l.set i (g ++ [n])) := by
 have hg := Ym hi
 have hne := k.n g hg
 have e1 : eqB s (hdB g) n = true := by unfold eqB; rw [hn, Bool.or_true]
 have at_ : ∀ g' ∈ l.set i (g ++ [n]), g' = g ++ [n] ∨ (g' ∈ l ∧ eqB s (hdB g') n = false) := fun g' hg' => by
  obtain ⟨j, hj⟩ := Yx.1 hg'
  rw [Yaw] at hj
  split at hj
  ·split at hj
   ·cases hj; exact .inl rfl
   ·cases hj
  ·rename_i hij
   have hgl := Ym hj
   refine .inr ⟨hgl, ?_⟩
   cases q : eqB s (hdB g') n with
   | false => rfl
   | true =>
    exfalso
    have := k.uniq h hgl hg (ZbX h q (ZcI h e1))
    subst this
    exact hij (Zxc k.a (by rw [Ys, hi]; rfl) (by rw [Ys, hj]; rfl))
 refine ⟨fun g' hg' => ?_, fun g' hg' => ?_, fun x hx => ?_, ?_⟩
 ·rcases at_ g' hg' with rfl | ⟨q, _⟩
  ·simp
  ·exact k.n g' q
 ·rcases at_ g' hg' with rfl | ⟨q, q'⟩
  ·rw [Zl1 hne, YaE, ← k.f g hg]
   simp [e1]
  ·rw [YaE, ← k.f g' q]
   simp [q']
 ·have hil := (Yb.1 hi).1
  have hin : g ++ [n] ∈ l.set i (g ++ [n]) := Yx.2 ⟨i, by simp [hil]⟩
  rcases YD.1 hx with hx | hx
  ·obtain ⟨g', hg', q⟩ := k.c x hx
   obtain ⟨j, hj⟩ := Yx.1 hg'
   by_cases hij : i = j
   ·subst hij
    rw [hi] at hj
    cases hj
    exact ⟨_, hin, YN _ q⟩
   ·exact ⟨g', Yx.2 ⟨j, by rw [Yaw, if_neg hij]; exact hj⟩, q⟩
  ·exact ⟨_, hin, Yar _ hx⟩
 ·rw [Ztn hi (Zl1 hne)]
  exact k.a
theorem m35 {l : List (List ByteArray)} {pf : List ByteArray → Option Bool} {q : List ByteArray → Bool} (hl : l.length ≤ 1000000) (hq : ∀ g ∈ l, pf g = some (q g)) : Zal l pf = some ((l.findIdx? q).elim (-1) fun i => (i : Int)) := by
 have q1 := ZbW (B := Zoj l pf) (N := big) l q (fun i => (i : Int)) () (fun i x hx => by
  have g1 := ZcU hx
  have g0 := (Yb.1 hx).1
  have g2 : i + 1 < 9223372036854775808 := by omega
  have e := hq x (Ym hx)
  dsimp only [Zoj, Zo1, br, ix, vs, lrt, ln, lxe, cf, wa]
  simp only [g1, g2, hx, e, decide_true, if_true, Option.bind_some]
  cases q x <;> simp) (by simp [Zoj, Zo1, br, ix, vs, lrt, ln, lxe, cf, wa]) (Zbg (by omega))
 dsimp only [Zal, ZrY, Zr7, Zsh, vz, lr, lc, eqL]
 rw [q1]
 cases l.findIdx? q <;> rfl
theorem ZsK {V : Type} [Mv V] (x y : ByteArray) (v : V) (r : List (ByteArray × V)) : lkM y (ZbR x v r) = if x = y then v else lkM y r := by
 unfold lkM
 rw [ZcC]
 split <;> rfl
def ROs (s : Scm) (ns : List ByteArray) (r : List (ByteArray × List (ByteArray × Bool))) : Prop := ∀ n ∈ ns, ROk s n (lkM n r)
section
variable {s : Scm} {w : Web} (hw : WOk s w) (h : Fw s)
include h
theorem ROs.at {ns : List ByteArray} {r : List (ByteArray × List (ByteArray × Bool))} (k : ROs s ns r) {n : ByteArray} (hn : n ∈ ns) (x : ByteArray) : lkM x (lkM n r) = rB s n x := by
 rw [YbB, (k n hn).i, ZhC h]
theorem m36 {ns : List ByteArray} {r : List (ByteArray × List (ByteArray × Bool))} (k : ROs s ns r) {g : List ByteArray} (hg : g ≠ []) (hh : hdB g ∈ ns) {n : ByteArray} (hn : n ∈ ns) : Zar g r n = some (rB s (hdB g) n && rB s n (hdB g)) := by
 cases g with
 | nil => exact absurd rfl hg
 | cons a t =>
  have e1 := k.at h hh n
  have e2 := k.at h hn a
  have e3 : hdB (a :: t) = a := rfl
  rw [e3] at e1 ⊢
  dsimp only [Zar, ZrW, ix, ixg, lr, mlk, mlg]
  simp [e1, e2]
include hw
theorem Zyj : ∃ r, ZaA (ZjU w (nmW w)) big (0, []) = some (.inl r) ∧ ROs s (nmW w) r := by
 have hl8 := ZcT hw h
 have q1 := Zbs (B := ZjU w (nmW w)) (I := fun k v => k + v.1 = (nmW w).length ∧ ROs s ((nmW w).take v.1) v.2) (Q := fun o => Sum.elim (fun r => ROs s (nmW w) r) (fun _ => False) o) (fun k v hI => by
  obtain ⟨i, r⟩ := v
  obtain ⟨h1, h2⟩ := hI
  simp only at h1 h2
  cases hk : (nmW w)[i]? with
  | none =>
   have hge := Y7.1 hk
   have : ¬ ((i : Int) < ((nmW w).length : Int)) := by omega
   refine ⟨.ex r, by simp [ZjU, Zou, Zpa, Zpt, Zke, br, ix, vw, vs, ln, lxe, lc, cl, wa, mpu, tw, this], ?_⟩
   rw [Yab hge] at h2
   exact h2
  | some x =>
   have hlt := (Yb.1 hk).1
   have g1 := ZcU hk
   have g2 : i + 1 < 9223372036854775808 := by omega
   obtain ⟨y, e, hy⟩ := m34 hw h x
   have ex : (nmW w).getD i Rw.z = x := by rw [Yw, hk]; rfl
   refine ⟨.nx (i + 1, ZbR x y r), by
    have h7 := (Yb.1 hk).2
    simp [ZjU, Zou, Zpa, Zpt, Zke, br, ix, vw, vs, ln, lxe, lc, cl, wa, mpu, tw, hlt, g2, ex, e, h7], k - 1, by omega, by simp only; omega, ?_⟩
   simp only
   rw [Ybq, hk]
   intro n hn
   rw [ZsK]
   split
   ·rename_i q; subst q; exact hy
   ·rename_i q
    rcases YD.1 hn with hn | hn
    ·exact h2 n hn
    ·exact absurd (by simpa using hn : n = x).symm q) big (nmW w).length (0, []) (Zbg (by omega)) ⟨by simp, fun n hn => by simp at hn⟩
 obtain ⟨o, e, k⟩ := q1
 cases o with
 | inl r => exact ⟨r, e, k⟩
 | inr z => exact absurd k (by simp)
omit hw h in
theorem Zyq (l : List (List ByteArray)) (k : PT 0 (Lv (List (List ByteArray) × Nat) (List (List ByteArray)) (List (List ByteArray)))) (hl : l.length < 8) : (apW l k).m = k.m := by
 cases l with
 | nil => rfl
 | cons g r => show (if (g :: r).length < 8 then k.m else none) = k.m; rw [if_pos hl]
omit hw h in
theorem Zzo (r : List (ByteArray × List (ByteArray × Bool))) (l : List (List ByteArray)) : (ZxV r l).m = some (.ex l) := by
 cases l with
 | nil => rfl
 | cons g t => show (vfz 0 (g :: t) _).m = _; rw [Zvx]
theorem ZyD {r : List (ByteArray × List (ByteArray × Bool))} (hr : ROs s (nmW w) r) : ∃ l, ZaA (ZpD r (nmW w)) big ([], 0) = some (.inl l) ∧ Gps s (nmW w) l := by
 have hl8 := ZcT hw h
 have hasc := Zog hw (s := s)
 generalize hns : nmW w = ns at *
 have q1 := Zbs (B := ZpD r ns) (I := fun k v => k + v.2 = ns.length ∧ Gps s (ns.take v.2) v.1) (Q := fun o => Sum.elim (fun l => Gps s ns l) (fun _ => False) o) (fun k v hI => by
  obtain ⟨l, i⟩ := v
  obtain ⟨h1, h2⟩ := hI
  simp only at h1 h2
  have hll := h2.len
  rw [YX] at hll
  have hl8' : l.length ≤ 8 := by omega
  cases hk : ns[i]? with
  | none =>
   have hge := Y7.1 hk
   have hn : ¬ ((i : Int) < (ns.length : Int)) := by omega
   refine ⟨.ex l, ?_, ?_⟩
   ·show (if l.length ≤ 8 then G12 r ns l i (I12 r ns l i) else none) = _
    rw [if_pos hl8']
    unfold I12
    rw [hk]
    cases l with
    | nil =>
     show (Zbl r ns [] i).m = _
     unfold Zbl
     simp only [hn, decide_false]
     exact Zzo r []
    | cons g t =>
     show (if 0 < (g :: t).length then (Zaf r ns (g :: t) 0 i).m else none) = _
     rw [if_pos (by simp)]
     unfold Zaf
     simp only [hn, decide_false]
     exact Zzo r _
   ·rw [Yab hge] at h2
    exact h2
  | some x =>
   have hlt := (Yb.1 hk).1
   have g1 := ZcU hk
   have g2 : i + 1 < 9223372036854775808 := by omega
   have g3 : l.length < 8 := by omega
   have hx := Ym hk
   have hsub : ∀ y ∈ ns.take i, y ∈ ns := fun y hy => Ya5 hy
   have eI := m35 (l := l) (pf := fun z => Zar z r x) (q := fun g => rB s (hdB g) x && rB s x (hdB g)) (by omega) fun g hg => m36 h hr (h2.n g hg) (hsub _ (h2.hd hg)) hx
   have et : ns.take (i + 1) = ns.take i ++ [x] := by rw [Ybq, hk]; rfl
   have ha : Asc (ns.take i ++ [x]) := by rw [← et]; exact hasc.sublist (List.take_sublist ..)
   have exx : ns.getD i Rw.z = x := by rw [Yw, hk]; rfl
   cases hf : l.findIdx? fun g => rB s (hdB g) x && rB s x (hdB g) with
   | none =>
    rw [hf] at eI
    have eI : Zal l (fun z => Zar z r x) = some (-1) := eI
    refine ⟨.nx (l ++ [[x]], i + 1), ?_, k - 1, by omega, by simp only; omega, ?_⟩
    ·show (if l.length ≤ 8 then G12 r ns l i (I12 r ns l i) else none) = _
     rw [if_pos hl8']
     unfold I12
     rw [hk]
     simp only [eI, Y4]
     show (if l.length < 8 then (Zbl r ns l i).m else none) = _
     rw [if_pos g3]
     simp only [Zbl, Zfs, Zfo, Zfx, Zfu, br, ix, cs, ZsE, Zyq _ _ g3, Zsn, g1, g2, hlt, exx, eI, decide_true, if_true, Option.bind_some]
     rw [hk, Option.bind_some, eI, Option.bind_some, if_pos rfl, Option.bind_some]
    ·simp only
     rw [et]
     exact h2.new h ha fun g hg => by simpa using Yah.1 hf g hg
   | some j =>
    rw [hf] at eI
    have eI : Zal l (fun z => Zar z r x) = some (j : Int) := eI
    obtain ⟨hj, hj2, _⟩ := YU.1 hf
    have hjg : l[j]? = some l[j] := Yd hj
    have ed : l.getD j [] = l[j] := by rw [Yw, hjg]; rfl
    have hgl : (l[j]).length ≤ 8 := by
     have := (h2.f _ (Ym hjg))
     rw [this]
     refine YR (Y8 ..) ?_
     rw [YX]; omega
    refine ⟨.nx (l.set j (l[j] ++ [x]), i + 1), ?_, k - 1, by omega, by simp only; omega, ?_⟩
    ·show (if l.length ≤ 8 then G12 r ns l i (I12 r ns l i) else none) = _
     rw [if_pos hl8']
     unfold I12
     rw [hk]
     simp only [eI, Y4]
     show (if j < l.length then (Zaf r ns l j i).m else none) = _
     rw [if_pos hj]
     have g5 : (l[j]).length + 1 < 549755813888 := by omega
     simp only [Zaf, ZaD, ZaE, Zba, br, ix, cs, ZsE, Zsn, g1, g2, hlt, hj, exx, ed, eI, decide_true, if_true, Option.bind_some]
     simp [ZsE, g2, hj, g5]
     rw [hk, Option.bind_some, eI, Option.bind_some, if_pos rfl, Option.bind_some, if_pos (by omega)]
    ·simp only
     rw [et]
     exact h2.put h ha hjg hj2) big ns.length ([], 0) (Zbg (by omega)) ⟨by simp, by simpa using Gps.nil s⟩
 obtain ⟨o, e, k⟩ := q1
 cases o with
 | inl r => exact ⟨r, e, k⟩
 | inr z => exact absurd k (by simp)
end
def ZhS (s : Scm) (g z : List ByteArray) : Bool := !decide (hdB z = hdB g) && rB s (hdB g) (hdB z)
def ZhT (s : Scm) (l : List (List ByteArray)) (g : List ByteArray) : Bool := !l.any (ZhS s g)
def stp (s : Scm) (v : List (List ByteArray) × List (List ByteArray)) : List (List ByteArray) × List (List ByteArray) := match v.2.findIdx? (ZhT s v.2) with
 | none => v
 | some i => (v.1 ++ [v.2.getD i []], v.2.eraseIdx i)
def sts (s : Scm) (l : List (List ByteArray)) : Nat → List (List ByteArray) × List (List ByteArray)
 | 0 => ([], l)
 | k + 1 => stp s (sts s l k)
theorem ZiZ {s : Scm} {l : List (List ByteArray)} {g : List ByteArray} : ZhT s l g = true ↔ ∀ z ∈ l, hdB z = hdB g ∨ rB s (hdB g) (hdB z) = false := by
 unfold ZhT ZhS
 rw [YQ, List.any_eq_false]
 refine ⟨fun q z hz => ?_, fun q z hz => ?_⟩
 ·have := q z hz
  by_cases e : hdB z = hdB g
  ·exact .inl e
  ·right
   cases hr : rB s (hdB g) (hdB z) with
   | false => rfl
   | true => exact absurd (by simp [e, hr]) this
 ·rcases q z hz with e | e
  ·simp [e]
  ·simp [e]
section
variable {s : Scm} (h : Fw s) {ns : List ByteArray} {l : List (List ByteArray)} (k : Gps s ns l)
include h k
theorem Zvp {g z : List ByteArray} (hg : g ∈ l) (hz : z ∈ l) (e : hdB z = hdB g) : z = g := k.uniq h hz hg (by rw [e]; exact Zjz _)
theorem Zs5 {a b c : List ByteArray} (ha : a ∈ l) (hb : b ∈ l) (hc : c ∈ l) (p : ZhS s a b = true) (q : ZhS s b c = true) : ZhS s a c = true := by
 unfold ZhS at *
 simp only [Yc, YQ, decide_eq_false_iff_not, ZhC h] at *
 refine ⟨fun e => p.1 ?_, p.2.trans q.2⟩
 rw [e] at q
 have := k.uniq h ha hb ((Ze6 h).2 (.inr ⟨p.2, q.2⟩))
 rw [this]
theorem ZvL : ∀ L : List (List ByteArray), L ≠ [] → (∀ g ∈ L, g ∈ l) → ∃ m ∈ L, ∀ z ∈ L, ZhS s m z = false
 | [], hn, _ => absurd rfl hn
 | a :: t, _, hl => by
  have irr : ∀ g, ZhS s g g = false := fun g => by simp [ZhS]
  by_cases ht : t = []
  ·subst ht
   exact ⟨a, by simp, fun z hz => by rw [YG.1 hz]; exact irr a⟩
  ·obtain ⟨m, hm, hz⟩ := ZvL t ht fun g hg => hl g (List.mem_cons_of_mem _ hg)
   cases q : ZhS s m a with
   | false =>
    refine ⟨m, List.mem_cons_of_mem _ hm, fun z hz' => ?_⟩
    rcases Yo.1 hz' with rfl | hz'
    ·exact q
    ·exact hz z hz'
   | true =>
    refine ⟨a, Yu .., fun z hz' => ?_⟩
    rcases Yo.1 hz' with rfl | hz'
    ·exact irr z
    ·cases q' : ZhS s a z with
     | false => rfl
     | true =>
      have := Zs5 h k (hl m (List.mem_cons_of_mem _ hm)) (hl a (Yu ..)) (hl z (List.mem_cons_of_mem _ hz')) q q'
      rw [hz z hz'] at this; cases this
theorem Zvk {L : List (List ByteArray)} (hL : L ≠ []) (hl : ∀ g ∈ L, g ∈ l) : ∃ i, L.findIdx? (ZhT s L) = some i := by
 obtain ⟨m, hm, q⟩ := ZvL h k L hL hl
 cases e : L.findIdx? (ZhT s L) with
 | some i => exact ⟨i, rfl⟩
 | none =>
  exfalso
  have := Yah.1 e m hm
  have q' : ZhT s L m = true := by
   unfold ZhT
   rw [YQ, List.any_eq_false]
   exact fun z hz => by rw [q z hz]; simp
  rw [q'] at this; cases this
end
structure AInv (s : Scm) (l : List (List ByteArray)) (j : Nat) (v : List (List ByteArray) × List (List ByteArray)) : Prop where
 p : (v.1 ++ v.2).Perm l
 sb : v.2.Sublist l
 le : v.1.length = j
 o : ∀ (i : Nat) (g : List ByteArray), v.1[i]? = some g → ∀ x ∈ g, ∀ y ∈ ZaM s x, ∃ (j : Nat) (g' : List ByteArray), j ≤ i ∧ v.1[j]? = some g' ∧ y ∈ g'
section
variable {s : Scm} {w : Web} (hw : WOk s w) (h : Fw s) {l : List (List ByteArray)} (k : Gps s (nmW w) l)
include h k hw
theorem Gps.into {g g' : List ByteArray} (hg : g ∈ l) (hg' : g' ∈ l) {x y : ByteArray} (hx : x ∈ g) (hy : y ∈ g') (q : Rch s x y) : Rch s (hdB g) (hdB g') := by
 have q1 := (Ze6 h).1 ((k.mem hg x).1 hx).2
 have q2 := (Ze6 h).1 (ZcI h ((k.mem hg' y).1 hy).2)
 have q3 : Rch s (hdB g) y := by
  rcases q1 with e | e
  ·rw [e]; exact q
  ·exact e.1.trans q
 rcases q2 with e | e
 ·rw [← e]; exact q3
 ·exact q3.trans e.1
theorem ZlD {v : List (List ByteArray) × List (List ByteArray)} {j : Nat} (a : AInv s l j v) {g : List ByteArray} (hg : g ∈ v.2) (hr : ZhT s v.2 g = true) {x y : ByteArray} (hx : x ∈ g) (hy : y ∈ ZaM s x) : y ∈ g ∨ ∃ g' ∈ v.1, y ∈ g' := by
 obtain ⟨g', hg', hyg⟩ := k.c y ((ZdU hw y).2 (Zex hy))
 rcases YD.1 (a.p.mem_iff.2 hg') with q | q
 ·exact .inr ⟨g', q, hyg⟩
 ·left
  have hgl := a.sb.subset hg
  rcases ZiZ.1 hr g' q with e | e
  ·rw [← Zvp h k hgl hg' e]; exact hyg
  ·have := (ZhC h _ _).2 (k.into hw h hgl hg' hx hyg (.one hy))
   rw [e] at this; cases this
theorem AInv.step {v : List (List ByteArray) × List (List ByteArray)} {j : Nat} (a : AInv s l j v) (hne : v.2 ≠ []) : ∃ i g, v.2.findIdx? (ZhT s v.2) = some i ∧ v.2[i]? = some g ∧ stp s v = (v.1 ++ [g], v.2.eraseIdx i) ∧ AInv s l (j + 1) (v.1 ++ [g], v.2.eraseIdx i) := by
 obtain ⟨i, hi⟩ := Zvk h k hne fun g hg => a.sb.subset hg
 obtain ⟨hj, hj2, _⟩ := YU.1 hi
 have hjg : v.2[i]? = some v.2[i] := Yd hj
 have ed : v.2.getD i [] = v.2[i] := by rw [Yw, hjg]; rfl
 refine ⟨i, v.2[i], hi, hjg, ?_, ?_, ?_, ?_, ?_⟩
 ·unfold stp
  rw [hi]
  simp only [ed]
 ·refine List.Perm.trans ?_ a.p
  rw [YS]
  exact YbI _ (ZdP hjg)
 ·exact (List.eraseIdx_sublist ..).trans a.sb
 ·simp [a.le]
 ·intro i' g' hi' x hx y hy
  simp only at hi' ⊢
  rw [List.getElem?_append] at hi'
  split at hi'
  ·rename_i hlt
   obtain ⟨j', g'', h1, h2, h3⟩ := a.o i' g' hi' x hx y hy
   exact ⟨j', g'', h1, by rw [Yi (Yb.1 h2).1]; exact h2, h3⟩
  ·rename_i hge
   have e0 : i' = v.1.length := by
    have := (Yb.1 hi').1
    simp at this; omega
   subst e0
   simp at hi'
   subst hi'
   rcases ZlD hw h k a (Yay hj) hj2 hx hy with q | ⟨g'', q1, q2⟩
   ·exact ⟨v.1.length, _, Yg _, by simp, q⟩
   ·obtain ⟨j', hj'⟩ := Yx.1 q1
    have := (Yb.1 hj').1
    exact ⟨j', g'', by omega, by rw [Yi this]; exact hj', q2⟩
omit h k hw in
theorem AInv.zero (s : Scm) (l : List (List ByteArray)) : AInv s l 0 ([], l) := ⟨by simp, List.Sublist.refl _, rfl, fun i g hi => by simp at hi⟩
omit h k hw in
theorem AInv.len {v : List (List ByteArray) × List (List ByteArray)} {j : Nat} (a : AInv s l j v) : j + v.2.length = l.length := by
 have := a.p.length_eq
 rw [List.length_append, a.le] at this
 exact this
theorem Zio : ∀ j, j ≤ l.length → AInv s l j (sts s l j)
 | 0, _ => AInv.zero s l
 | j + 1, hj => by
  have a := Zio j (by omega)
  have hne : (sts s l j).2 ≠ [] := fun e => by
   have := a.len
   rw [e] at this; simp at this; omega
  obtain ⟨i, g, _, _, e, q⟩ := a.step hw h k hne
  show AInv s l (j + 1) (stp s (sts s l j))
  rw [e]; exact q
end
def Zlt (s : Scm) (l : List (List ByteArray)) : List (List ByteArray) := (sts s l l.length).1
section
variable {s : Scm} {w : Web} (hw : WOk s w) (h : Fw s) {r : List (ByteArray × List (ByteArray × Bool))} (hr : ROs s (nmW w) r)
include h hr
theorem m59 {g z : List ByteArray} (hg : g ≠ []) (hz : z ≠ []) (hh : hdB g ∈ nmW w) : Zau z g r = some (ZhS s g z) := by
 cases g with
 | nil => exact absurd rfl hg
 | cons a t =>
  cases z with
  | nil => exact absurd rfl hz
  | cons b u =>
   have e1 := hr.at h hh b
   have e2 : hdB (a :: t) = a := rfl
   have e3 : hdB (b :: u) = b := rfl
   rw [e2] at e1
   unfold ZhS
   rw [e2, e3]
   dsimp only [Zau, ZrD, ix, ixg, vw, lr, mlg]
   simp [e1]
theorem m57 {L : List (List ByteArray)} {g : List ByteArray} (hg : g ≠ []) (hL : ∀ z ∈ L, z ≠ []) (hl : L.length ≤ 1000000) (hh : hdB g ∈ nmW w) : ZaI g L r = some (ZhT s L g) := by
 have e := m35 (l := L) (pf := fun z => Zau z g r) (q := ZhS s g) hl fun z hz => m59 h hr hg (hL z hz) hh
 have e2 : ZaT L (fun z => Zau z g r) = some (L.any (ZhS s g)) := by
  dsimp only [ZaT, Zs2, lr, cs]
  rw [e, ← Zdy]
  cases L.findIdx? (ZhS s g) <;> simp
 dsimp only [ZaI, Zsx, lr, cs]
 rw [e2]
 rfl
include hw
theorem m37 {l : List (List ByteArray)} (k : Gps s (nmW w) l) : Zbr l r = some (Zlt s l, []) := by
 have hl8 : l.length ≤ 8 := YR k.len (ZcT hw h)
 have q1 := Zbs (B := ZlN r) (I := fun c v => v.2.length = c ∧ ∃ j, v = sts s l j ∧ AInv s l j v) (Q := fun o => o = .inl ([], Zlt s l)) (fun c v hI => by
  obtain ⟨r1, r2⟩ := v
  obtain ⟨h1, j, hj, a⟩ := hI
  simp only at h1
  have hlen := a.len
  simp only at hlen
  by_cases hne : r2 = []
  ·subst hne
   have ej : j = l.length := by simpa using hlen
   subst ej
   refine ⟨.ex ([], r1), by simp [ZlN, ZpK, Zp4, Zpr, Zpz, br, vz, vw, vs, ln, lxe, lc, ap, cs, wi, iri, ca, fl, eqN], ?_⟩
   have : Zlt s l = r1 := by unfold Zlt; rw [← hj]
   rw [this]
  ·obtain ⟨i, g, e1, e2, e3, b⟩ := a.step hw h k hne
   simp only at e1 e2 e3 b
   have hi := (Yb.1 e2).1
   have hi7 := (Yb.1 e2).2
   have hpos : (0 : Int) < (r2.length : Int) := by omega
   have ed : r2.getD i Rw.z = g := by rw [Yw, e2]; rfl
   have hsub : ∀ z ∈ r2, z ∈ l := fun z hz => a.sb.subset hz
   have eI : Zal r2 (fun z => ZaI z r2 r) = some (i : Int) := by
    rw [m35 (l := r2) (q := ZhT s r2) (by omega) fun z hz => m57 h hr (k.n z (hsub z hz)) (fun y hy => k.n y (hsub y hy)) (by omega) (k.hd (hsub z hz)), e1]
    rfl
   have eD : Zet r2 (i : Int) ((i : Int) + 1) = some (r2.eraseIdx i) := by
    unfold Zet
    rw [if_pos (by omega)]
    have : ((i : Int) + 1).toNat = i + 1 := by omega
    rw [this, Ybo, List.eraseIdx_eq_take_drop_succ]
   have hr1 : r1.length ≤ 8 := by have := a.le; simp only at this; omega
   refine ⟨.nx (r1 ++ [g], r2.eraseIdx i), ?_, c - 1, ?_, ?_, j + 1, ?_, b⟩
   ·have g1 : (i : Int) < r2.length := by omega
    have g2 : (-9223372036854775808 : Int) ≤ (i : Int) + 1 ∧ (i : Int) + 1 < 9223372036854775808 := by omega
    have g3 : r1.length < 549755813887 := by omega
    simp only [ZlN, ZpK, Zp4, Zpr, Zpz, br, vz, vw, vs, ln, lxe, lc, ap, cs, wi, iri, ca, fl, eqN, hpos, eI, decide_true, if_true, Option.bind_some]
    simp [hi, hi7, g1, g2, g3, ed, eD, e2]
    try omega
   ·omega
   ·simp only
    rw [Ybn hi]; omega
   ·show _ = stp s (sts s l j)
    rw [← hj, e3]) big l.length ([], l) (Zbg (by omega)) ⟨rfl, 0, rfl, AInv.zero s l⟩
 obtain ⟨o, e, k1⟩ := q1
 subst k1
 dsimp only [Zbr, Zsj, Zr3, ZtU, vz, vw, lr, lc, fl, fr]
 rw [e]
 rfl
end
theorem m12 {s : Scm} (h : Fw s) : ∃ l, Zck s = some (Zlt s l) ∧ Gps s (nmW (ZwP s)) l := by
 have hw := Zd1 s
 obtain ⟨r, e1, hr⟩ := Zyj hw h
 obtain ⟨l, e2, k⟩ := ZyD hw h hr
 refine ⟨l, ?_, k⟩
 have e3 := m37 hw h hr k
 dsimp only [Zck, ZmV, Zl3, Zk4, ZmR, ZlW, Zn6, Zlz, Zob, Zlm, vz, vw, lr, lc, cl, fl, eqL]
 simp only [m32 h, n33 hw h, e1, e2, e3, Option.bind_some, Sum.elim_inl]
theorem ClOk.self {s : Scm} {ns l : List ByteArray} (k : ClOk s ns l) (hs : ∀ n, isM s n = true → isE s n = false) : ClOk s l l := by
 refine ⟨k.a, fun x => ⟨fun hx => .inl ⟨hx, k.defd hx⟩, ?_⟩⟩
 rintro (⟨hx, _⟩ | ⟨n, hn, hm, q⟩)
 ·exact hx
 ·
  have he := hs n hm
  have key : ∀ n0, (n0 ∈ ns ∧ isM s n0 = true) → (n = n0 ∨ Rch s n0 n) → x ∈ l := fun n0 ⟨h1, h2⟩ h3 => by
   refine (k.m x).2 (.inr ⟨n0, h1, h2, ?_⟩)
   rcases h3 with rfl | h3
   ·exact q
   ·rcases q with q | ⟨y, q, q2⟩
    ·exact .inr ⟨n, h3, q⟩
    ·exact .inr ⟨y, h3.trans q, q2⟩
  rcases (k.m n).1 hn with ⟨h1, _⟩ | ⟨n0, h1, h2, h3 | ⟨y, h3, h4⟩⟩
  ·exact key n ⟨h1, hm⟩ (.inl rfl)
  ·exact key n0 ⟨h1, h2⟩ (.inr (.one (Zi8 h3 he)))
  ·exact key n0 ⟨h1, h2⟩ (.inr (.tl h3 (Zi8 h4 he)))
end Go.Proofs.Ythhipejbnbochaa
