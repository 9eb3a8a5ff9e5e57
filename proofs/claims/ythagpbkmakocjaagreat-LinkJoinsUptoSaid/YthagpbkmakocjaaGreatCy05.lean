import Derived.Test.YthagpbkmakocjaaGreatCy04
namespace Go.Eng
set_option linter.all false
open Go Go.RowKit
structure TI where
 agg : Bool := false
 kin : Nat := 0
 siz : Nat := 1
 elm : Option (Nat × Nat) := none
 fld : List (Nat × Nat × Bool) := []
 zer : Option (List AV) := none
 eqt : Option (List Nat) := none
 str : Bool := false
 ik : Option IntKind := none
 byt : Option Nat := none
 mp : Option (Bool × List D) := none
def AV.flat : AV → Bool
 | .d _ | .e0 | .p _ | .iptr _ _ => true
 | _ => false
structure TIok (P : Program) (t : TypeId) (i : TI) : Prop where
 agg : Zkg P t = some i.agg
 kin : kin P t = i.kin
 siz : P.cellsOf t = i.siz
 elm : ∀ e, i.elm = some e → Go.Eng.elm P t = some e
 fld : ∀ (j : Nat) (x : Nat × Nat × Bool), i.fld[j]? = some x → Go.Eng.fld P t j = some (x.1, x.2.1) ∧ ZE8 P t j = some x
 zer : ∀ z, i.zer = some z → Go.Eng.zer P t = some z
 eqt : ∀ z, i.eqt = some z → eqT P t = some z
 str : i.str = true → ZI2 P t = true
 ik : ∀ z, i.ik = some z → P.underlying t = some (.int z)
 byt : ∀ z, i.byt = some z → P.bytesOf t ≤ z ∧ P.bytesOf t ≠ 0
 flt : ∀ z, i.zer = some z → z.all AV.flat = true
 mp : ∀ z, i.mp = some z → ZuY P t = some z
def TOk (P : Program) (T : Nat → Option TI) : Prop := ∀ t i, T t = some i → TIok P t i
inductive AT where
 | nil
 | go (r : AT)
 | av (x : AV) (r : AT)
 | cs (c : List AV) (r : AT)
 | ds (e : List D) (r : AT)
 | num (n : Int) (r : AT)
 | nat (n : Nat) (r : AT)
 | call (x : AV) (ks : List Key) (r : AT)
 | callH (x : AV) (ks : List Key) (hb : List (Key × List AV)) (r : AT)
 | br (a b : AT)
 | frz (d : Nat) (js : List (Nat × List (List D))) (cs : List (Key × Nat × List (List D))) (r : AT)
 | adc (k : Key) (i d : Nat) (e : TypeId) (sz : Nat) (r : AT)
 | mv (d j : Nat) (r : AT)
 | ads (j d : Nat) (e : TypeId) (sz : Nat) (r : AT)
 | trim (k : Key) (c : List AV) (r : AT)
 | reb (j d m : Nat) (c : List AV) (r : AT)
 | sep (r : AT)
 | hard (x : AV) (ks : List Key) (hb : List (Key × Blk)) (fr : List Key) (r : AT)
 | ents (es : List (List D)) (r : AT)
 | all (a : AT) (f : Nat → AT)
 | fzm (d : Nat) (js : List Nat) (r : AT)
 | fzb (d : Nat) (js : List Nat) (r : AT)
structure Ren where
 κ : Key → Key
 γ : Key → Nat
 θ : Nat → AV
 H0 : Hp
 no : Key → Prop
mutual
def ren (r : Ren) : AV → AV
 | .ref k g off n => .ref (r.κ k) (r.γ k + g) off n
 | .ptr k g off => .ptr (r.κ k) (r.γ k + g) off
 | .mp k g => .mp (r.κ k) (r.γ k + g)
 | .fn f xs ys => match f with
  | .yield i => r.θ i
  | f => .fn f (Zas r xs) (Zas r ys)
 | .agg xs => .agg (Zas r xs)
 | .tup xs => .tup (Zas r xs)
 | .top => .top
 | .d x => .d x
 | .e0 => .e0
 | .p x => .p x
 | .iptr cs off => .iptr cs off
def Zas (r : Ren) : List AV → List AV
 | [] => []
 | x :: xs => ren r x :: Zas r xs
end
def ZbG (r : Ren) (k : Key) (b : Blk) : Blk := ⟨r.γ k + b.g, true, b.e, b.sz, Zas r b.cells⟩
theorem ZcI {r : Ren} (xs : List AV) : Zas r xs = xs.map (ren r) := by
 induction xs with
 | nil => simp [Zas]
 | cons x xs ih => simp [Zas, ih]
theorem Za2 {r : Ren} (xs : List AV) : (Zas r xs).length = xs.length := by rw [ZcI, List.length_map]
theorem ZcP {r : Ren} (xs ys : List AV) : Zas r (xs ++ ys) = Zas r xs ++ Zas r ys := by simp [ZcI]
theorem ZbI {r : Ren} (xs : List AV) (n : Nat) : (Zas r xs).drop n = Zas r (xs.drop n) := by simp [ZcI]
theorem ZbT {r : Ren} (xs : List AV) (n : Nat) : (Zas r xs).take n = Zas r (xs.take n) := by simp [ZcI]
theorem Zez {r : Ren} (xs : List AV) (n : Nat) : (Zas r xs)[n]? = (xs[n]?).map (ren r) := by simp [ZcI]
theorem Zgi {r : Ren} (xs : List D) : Zas r (xs.map .d) = xs.map .d := by
 induction xs with
 | nil => simp [Zas]
 | cons x xs ih => simp only [List.map_cons, Zas, ren, ih]
theorem ZuU {r : Ren} {xs : List AV} (h : xs ≠ []) : Zas r xs ≠ [] := by cases xs <;> simp_all [Zas]
def Zi6 (r : Ren) (H H' : Hp) : Prop := ∀ k, (H k).live = true → H' (r.κ k) = ZbG r k (H k)
def nth {α : Type} : List α → Nat → Option α
 | [], _ => none
 | x :: _, 0 => some x
 | _ :: xs, i + 1 => nth xs i
theorem Zb1 {α : Type} : ∀ (xs : List α) (i : Nat), nth xs i = xs[i]?
 | [], i => by simp [nth]
 | x :: xs, 0 => by simp [nth]
 | x :: xs, i + 1 => by simp [nth, Zb1 xs i]
def ZjE {α : Type} : Nat → List α → Option (List α)
 | 0, _ => some []
 | n + 1, x :: xs => match ZjE n xs with | some r => some (x :: r) | none => none
 | _ + 1, [] => none
theorem Zij {α : Type} : ∀ (n : Nat) (xs r : List α), ZjE n xs = some r → xs.take n = r ∧ n ≤ xs.length
 | 0, xs, r, h => by simp only [ZjE, Option.some.injEq] at h; subst h; simp
 | n + 1, [], r, h => by simp [ZjE] at h
 | n + 1, x :: xs, r, h => by
  simp only [ZjE] at h
  split at h
  ·rename_i q hq
   cases h
   obtain ⟨h1, h2⟩ := Zij n xs q hq
   exact ⟨by simp [h1], by simp; omega⟩
  ·cases h
def ZbZ (H : Hp) (k : Key) (g : Nat) : Bool := Nat.beq g (H k).g && (H k).live
theorem Zbq {H : Hp} {k : Key} {g : Nat} (h : ZbZ H k g = true) : g = (H k).g ∧ (H k).live = true := by
 simp only [ZbZ, Bool.and_eq_true] at h
 exact ⟨Nat.eq_of_beq_eq_true h.1, h.2⟩
theorem Zi6.at {r : Ren} {H H' : Hp} (h : Zi6 r H H') {k : Key} {g : Nat} (hl : ZbZ H k g = true) : r.γ k + g = (H' (r.κ k)).g ∧ (H' (r.κ k)).live = true ∧ (H' (r.κ k)).e = (H k).e ∧ (H' (r.κ k)).sz = (H k).sz ∧ (H' (r.κ k)).cells = Zas r (H k).cells := by
 obtain ⟨h1, h2⟩ := Zbq hl
 rw [h k h2]
 subst h1
 exact ⟨rfl, rfl, rfl, rfl, rfl⟩
def sdP (g : Option Bool) (S : Prop) : Prop :=
 match g with
 | none => S
 | some b => b = true → S
theorem Zay {g : Option Bool} {S : Prop} (hg : ∀ b, g = some b → b = true) (h : sdP g S) : S := by
 unfold sdP at h
 split at h
 ·exact h
 ·exact h (hg _ rfl)
def Zb7 (cs : List AV) (off : Nat) (c : List AV) : Prop := (cs.drop off).take c.length = c
def Zwp (es : List (List D)) (n : Int) (e : List D) : Prop := 0 ≤ n ∧ es[n.toNat]? = some e
def ZCC (n : Int) (len off sz o : Nat) : Prop := 0 ≤ n ∧ n < len ∧ (off + n.toNat) * sz = o
def ZCn (s : ByteArray) (n b : Int) : Prop := 0 ≤ n ∧ ∃ x : UInt8, s.data.toList[n.toNat]? = some x ∧ b = x.toNat
def ZcR (k : IntKind) (a r : Int) : Prop := k.wrap a = r
def EqI (a b : Int) : Prop := a = b
def NeI (a b : Int) : Prop := a ≠ b
def LeI (a b : Int) : Prop := a ≤ b
def ZMF (a b : ByteArray) : Prop := a.size + b.size ≤ 9223372036854775807
def SlB (dflt : Nat) (o : Option AV) (l : Nat) : Prop :=
 match o with
 | none => l = dflt
 | some (.d (.int _ n)) => n = l
 | _ => False
def SlS (l h n : Nat) : Prop := l ≤ h ∧ h ≤ n
def SlD (es : List (List D)) (sz l h : Nat) (es' : List (List D)) : Prop := (∀ e, e ∈ es → e.length = sz) ∧ (es.drop l).take (h - l) = es'
def SlR (off l h o n : Nat) : Prop := off + l = o ∧ h - l = n
def ZzY (t : Bool) (a b : AV) : AV :=
 match a, b with
 | .d (.bool x), .d (.bool y) => .d (.bool (cond t x y))
 | a, b => cond t a b
theorem ZtP (t : Bool) (a b : AV) : ZzY t a b = if t then a else b := by
 unfold ZzY
 split <;> cases t <;> rfl
def Znz (i : TI) (H : Hp) (x : AV) (g : Option Bool) (a : AT) (K : AV → AT → Prop) : Prop :=
 match x with
 | .iptr cs off => match i.agg with
  | true => match Nat.ble 1 i.siz, ZjE i.siz (cs.drop off) with | true, some c => K (.agg (c.map .d)) a | _, _ => False
  | false => match nth cs off with | some c => K (.d c) a | none => False
 | .ptr k q off => match ZbZ H k q with
  | true => match a with
   | .go r => (match i.agg with
    | true => match Nat.ble 1 i.siz, ZjE i.siz ((H k).cells.drop off) with | true, some c => K (.agg c) r | _, _ => False
    | false => match nth (H k).cells off with | some c => K c r | none => False)
   | .cs c r => (match i.agg with
    | true => match Nat.ble 1 i.siz, Nat.beq c.length i.siz with | true, true => sdP g (Zb7 (H k).cells off c) ∧ K (.agg c) r | _, _ => False
    | false => match c with | [x] => sdP g (Zb7 (H k).cells off [x]) ∧ K x r | _ => False)
   | _ => False
  | false => False
 | _ => False
def Zef (i : TI) (H : Hp) (f : Nat) (x : AV) (a : AT) (K : AV → AT → Prop) : Prop :=
 match nth i.fld f with
 | some (o, n, _) => match Nat.ble 1 n with
  | true => (match x with
   | .iptr cs off => K (.iptr cs (off + o)) a
   | .ptr k q off => match ZbZ H k q with | true => K (.ptr k q (off + o)) a | false => False
   | _ => False)
  | false => False
 | none => False
def Zlx (i : TI) (f : Nat) (x : AV) (a : AT) (K : AV → AT → Prop) : Prop :=
 match nth i.fld f, x with
 | some (o, n, true), .agg cs => (match Nat.ble 1 n with | true => K (.agg ((cs.drop o).take n)) a | false => False)
 | some (o, _, false), .agg cs => (match nth cs o with | some c => K c a | none => False)
 | _, _ => False
def Zej (i : TI) (H : Hp) (x j : AV) (g : Option Bool) (a : AT) (K : AV → AT → Prop) : Prop :=
 match i.elm, j with
 | some (_, sz), .d (.int _ n) => (match x, a with
  | .d (.list es), .ds e r => (match Nat.beq e.length sz, Nat.ble 1 sz with | true, true => sdP g (Zwp es n e) ∧ K (.iptr e 0) r | _, _ => False)
  | .ref k q off len, .nat o r => (match ZbZ H k q, Nat.beq (H k).sz sz, Nat.ble 1 sz with | true, true, true => sdP g (ZCC n len off sz o) ∧ K (.ptr k q o) r | _, _, _ => False)
  | _, _ => False)
 | _, _ => False
def ZlI (i : TI) (x j : AV) (g : Option Bool) (a : AT) (K : AV → AT → Prop) : Prop :=
 match x, j, a with
 | .d (.str s), .d (.int _ n), .num b r => (match Nat.beq i.kin 2 with | true => sdP g (ZCn s n b) ∧ K (.d (.int .u8 b)) r | false => False)
 | _, _, _ => False
def ZI3 (op : BinOp) (k : IntKind) (x y : Int) (g : Option Bool) (a : AT) (K : AV → AT → Prop) : Prop :=
 match op with
 | .eql => K (.d (.bool (decide (x = y)))) a
 | .neq => K (.d (.bool (!decide (x = y)))) a
 | .lss => K (.d (.bool (decide (x < y)))) a
 | .leq => K (.d (.bool (decide (x ≤ y)))) a
 | .gtr => K (.d (.bool (decide (y < x)))) a
 | .geq => K (.d (.bool (decide (y ≤ x)))) a
 | .add => match a with | .num n r => sdP g (ZcR k (x + y) n) ∧ K (.d (.int k n)) r | _ => False
 | .sub => match a with | .num n r => sdP g (ZcR k (x - y) n) ∧ K (.d (.int k n)) r | _ => False
 | .mul => match a with | .num n r => sdP g (ZcR k (x * y) n) ∧ K (.d (.int k n)) r | _ => False
 | .quo => match a with | .num n r => sdP g (NeI y 0) ∧ sdP g (ZcR k (x.tdiv y) n) ∧ K (.d (.int k n)) r | _ => False
 | .rem => match a with | .num n r => sdP g (NeI y 0) ∧ sdP g (EqI (x.tmod y) n) ∧ K (.d (.int k n)) r | _ => False
 | .shr => match a with | .num n r => sdP g (LeI 0 y) ∧ sdP g (EqI (x.fdiv (2 ^ (min y.toNat k.bits))) n) ∧ K (.d (.int k n)) r | _ => False
 | .shl => match a with | .num n r => sdP g (LeI 0 y) ∧ sdP g (ZcR k (x * 2 ^ (min y.toNat k.bits)) n) ∧ K (.d (.int k n)) r | _ => False
 | _ => False
def ZJf (op : BinOp) (x y : ByteArray) (g : Option Bool) (a : AT) (K : AV → AT → Prop) : Prop :=
 match op with
 | .add => sdP g (ZMF x y) ∧ K (.d (.str (x ++ y))) a
 | .eql => K (.d (.bool (decide (x = y)))) a
 | .neq => K (.d (.bool (!decide (x = y)))) a
 | .lss => K (.d (.bool (sLt x y))) a
 | .leq => K (.d (.bool (sLt x y || decide (x = y)))) a
 | .gtr => K (.d (.bool (!(sLt x y || decide (x = y))))) a
 | .geq => K (.d (.bool (!sLt x y))) a
 | _ => False
def ZCo (H : Hp) (neg : Bool) (x : AV) (a : AT) (K : AV → AT → Prop) : Prop :=
 match x with
 | .e0 => ∀ b, K (.d (.bool b)) a
 | .d (.list es) => ∀ b, (es ≠ [] → b = neg) → K (.d (.bool b)) a
 | .ref k q _ n => (match ZbZ H k q with | true => ∀ b, (n ≠ 0 → b = neg) → K (.d (.bool b)) a | false => False)
 | _ => False
def ikB : IntKind → IntKind → Bool
 | .i8, .i8 | .i16, .i16 | .i32, .i32 | .i64, .i64 | .u8, .u8 | .u16, .u16 | .u32, .u32 | .u64, .u64 => true
 | _, _ => false
theorem ZHE {a b : IntKind} (h : ikB a b = true) : a = b := by cases a <;> cases b <;> first | rfl | cases h
def ZIU (i : TI) (H : Hp) (op : BinOp) (ny : Bool) (x y : AV) (g : Option Bool) (a : AT) (K : AV → AT → Prop) : Prop :=
 match x, y with
 | .d (.int k m), .d (.int k' n) => (match ikB k k' with | true => ZI3 op k m n g a K | false => False)
 | .d (.str m), .d (.str n) => ZJf op m n g a K
 | .d (.bool m), .d (.bool n) => (match Nat.beq i.kin 1 with
  | true => (match op with
   | .eql => K (.d (.bool (m == n))) a
   | .neq => K (.d (.bool (!(m == n)))) a
   | _ => False)
  | false => False)
 | .agg xs, .agg ys => (match i.eqt with
  | some ks => (match ZeP ks xs ys with
   | some b => (match op with
    | .eql => K (.d (.bool b)) a
    | .neq => K (.d (.bool (!b))) a
    | _ => False)
   | none => False)
  | none => False)
 | x, .e0 => (match ny, Nat.beq i.kin 4 with
  | true, true => (match op with
   | .eql => ZCo H false x a K
   | .neq => ZCo H true x a K
   | _ => False)
  | _, _ => False)
 | _, _ => False
def tUn (op : UnOp) (x : AV) (g : Option Bool) (a : AT) (K : AV → AT → Prop) : Prop :=
 match op, x with
 | .not, .d (.bool b) => K (.d (.bool (!b))) a
 | .neg, .d (.int k n) => (match a with | .num m r => sdP g (ZcR k (0 - n) m) ∧ K (.d (.int k m)) r | _ => False)
 | _, _ => False
def Zrn (s d : TI) (x : AV) (g : Option Bool) (a : AT) (K : AV → AT → Prop) : Prop :=
 match x with
 | .d (.int _ n) => (match s.ik, d.ik, a with | some _, some k, .num m r => sdP g (ZcR k n m) ∧ K (.d (.int k m)) r | _, _, _ => False)
 | .d (.str s') => (match Nat.beq s.kin 2, Nat.beq d.kin 2 with | true, true => K (.d (.str s')) a | _, _ => False)
 | _ => False
def Zl5 (i : TI) (H : Hp) (x : AV) (lo hi : Option AV) (mx : Bool) (g : Option Bool) (a : AT) (K : AV → AT → Prop) : Prop :=
 match mx, a with
 | false, .nat l (.nat h r) => (match x with
  | .d (.str s) => (match Nat.beq i.kin 2 with | true => sdP g (SlB 0 lo l) ∧ sdP g (SlB s.size hi h) ∧ sdP g (SlS l h s.size) ∧ K (.d (.str (s.extract l h))) r | false => False)
  | .d (.list es) => (match i.elm, r with
   | some (_, sz), .av (.d (.list es')) r => (match Nat.ble 1 sz with
    | true => sdP g (SlB 0 lo l) ∧ sdP g (SlB es.length hi h) ∧ sdP g (SlS l h es.length) ∧ sdP g (SlD es sz l h es') ∧ K (.d (.list es')) r
    | false => False)
   | _, _ => False)
  | .ref k q off n => (match i.elm, r, ZbZ H k q with
   | some (_, sz), .nat o' (.nat n' r), true => (match Nat.ble 1 sz, Nat.beq (H k).sz sz with
    | true, true => sdP g (SlB 0 lo l) ∧ sdP g (SlB n hi h) ∧ sdP g (SlS l h n) ∧ sdP g (SlR off l h o' n') ∧ K (.ref k q o' n') r
    | _, _ => False)
   | _, _, _ => False)
  | _ => False)
 | _, _ => False
def ZI6 (i : TI) (H : Hp) (x : AV) (g : Option Bool) (a : AT) (K : AV → AT → Prop) : Prop :=
 match x, a with
 | .d (.str s), .num n r => (match Nat.beq i.kin 2 with | true => sdP g (EqI s.size n) ∧ K (.d (.int .i64 n)) r | false => False)
 | .d (.list es), .num n r => (match Nat.beq i.kin 4 with | true => sdP g (EqI es.length n) ∧ K (.d (.int .i64 n)) r | false => False)
 | .e0, .num n r => (match Nat.beq i.kin 4 with | true => sdP g (EqI 0 n) ∧ K (.d (.int .i64 n)) r | false => False)
 | .ref k q _ m, .num n r => (match Nat.beq i.kin 4, ZbZ H k q with | true, true => sdP g (EqI m n) ∧ K (.d (.int .i64 n)) r | _, _ => False)
 | _, _ => False
def ZqH (H : Hp) : AV → Option (Bool × List (List D))
 | .d (.map q es) => some (q, es)
 | .mp k g => match ZbZ H k g, (H k).e with
  | true, .m q es => some (q, es)
  | _, _ => none
 | _ => none
def bqB : Bool → Bool → Bool
 | true, true => true
 | false, false => true
 | _, _ => false
theorem Zqa {a b : Bool} (h : bqB a b = true) : a = b := by cases a <;> cases b <;> first | rfl | cases h
def Znd (es : List (List D)) (s : ByteArray) (z vs : List D) (ok : Bool) : Prop := (ZfA s es).isSome = ok ∧ (ZfA s es).getD z = vs
def ZsZ (i : TI) (H : Hp) (x y : AV) (ck : Bool) (g : Option Bool) (a : AT) (K : AV → AT → Prop) : Prop :=
 match i.mp, ZqH H x, y, a with
 | some (q, z), some (q', es), .d (.str s), .av (.d (.bool ok)) (.ds vs r) => (match bqB q q' with
  | true => sdP g (Znd es s z vs ok) ∧ K (lkV ck q vs ok) r
  | false => False)
 | _, _, _, _ => False
def plc (i : TI) (f : Nat) : Option (Nat × Nat) := match nth i.fld f with | some (o, n, _) => some (o, n) | none => none
def Zqy (i : TI) (cells : List AV) : List (Nat × AV) → Option (List AV)
 | [] => some cells
 | (f, v) :: rest => match plc i f, Zbs v with
  | some (off, size), some vs => match Nat.beq vs.length size, Nat.ble (off + vs.length) cells.length with
   | true, true => Zqy i (cells.take off ++ vs ++ cells.drop (off + vs.length)) rest
   | _, _ => none
  | _, _ => none
def ZlH (i : TI) (parts : List (Nat × AV)) (a : AT) (K : AV → AT → Prop) : Prop :=
 match i.str, i.zer with
 | true, some z => (match Zqy i z parts with | some cs => K (.agg cs) a | none => False)
 | _, _ => False
def ZCu : AV → Bool
 | .fn (.yield _) _ _ => false
 | _ => true
def tV (T : Nat → Option TI) (H : Hp) (op : Op) (ρ : Operand → AV) (g : Option Bool) (a : AT) (K : AV → AT → Prop) : Prop :=
 match op with
 | .move x => K (ρ x) a
 | .assign x => K (ρ x) a
 | .pick c x y => match ρ c with | .d (.bool t) => K (ZzY t (ρ x) (ρ y)) a | _ => False
 | .load t x => match T t with | some i => Znz i H (ρ x) g a K | none => False
 | .fieldAddr t x f => match T t with | some i => Zef i H f (ρ x) a K | none => False
 | .field t x f => match T t with | some i => Zlx i f (ρ x) a K | none => False
 | .indexAddr t x j => match T t with | some i => Zej i H (ρ x) (ρ j) g a K | none => False
 | .index t x j => match T t with | some i => ZlI i (ρ x) (ρ j) g a K | none => False
 | .extract x j => match ρ x with | .tup vs => (match nth vs j with | some y => K y a | none => False) | _ => False
 | .binOp o t x y _ => match T t with | some i => ZIU i H o (Zfl y) (ρ x) (ρ y) g a K | none => False
 | .unOp o _ x => tUn o (ρ x) g a K
 | .nilCheck x => match ρ x with | .ptr k q off => (match ZbZ H k q with | true => K (.ptr k q off) a | false => False) | .iptr cs off => K (.iptr cs off) a | _ => False
 | .convert s d x => match T s, T d with | some i, some j => Zrn i j (ρ x) g a K | _, _ => False
 | .makeFunc fn first caps => match fn with | .yield _ => False | fn => K (.fn fn (first.toList.map ρ) (caps.toList.map ρ)) a
 | .slice t x lo hi mx => match T t with | some i => Zl5 i H (ρ x) (lo.map ρ) (hi.map ρ) mx.isSome g a K | none => False
 | .lookup t x y ck => match T t with | some i => ZsZ i H (ρ x) (ρ y) ck g a K | none => False
 | .build t parts => match T t, parts.toList.all (fun p => ZCu (ρ p.2)) with | some i, true => ZlH i (parts.toList.map fun p => (p.1, ρ p.2)) a K | _, _ => False
 | .call c => match c.callee, c.args.toList, c.argTypes.toList with
  | .builtin .len, [x], [t] => match T t with | some i => ZI6 i H (ρ x) g a K | none => False
  | .builtin .min, [x, y], _ => vMM false (ρ x) (ρ y) (fun v => K v a)
  | .builtin .max, [x, y], _ => vMM true (ρ x) (ρ y) (fun v => K v a)
  | .builtin .max, [x, y, z], _ => Zrh true (ρ x) (ρ y) (ρ z) (fun v => K v a)
  | _, _, _ => False
 | _ => False
end Go.Eng
namespace Go.Eng
set_option linter.all false
open Go Go.RowKit
section
variable {P : Program} {T : Nat → Option TI} {r : Ren} {H H' : Hp} {g : Option Bool} {a : AT} {K : AV → AT → Prop}
def KR (r : Ren) (K : AV → AT → Prop) (y : AV) : Prop := ∃ v a', y = ren r v ∧ K v a'
theorem KR.mk {v : AV} {a : AT} (h : K v a) : KR r K (ren r v) := ⟨v, a, rfl, h⟩
theorem KR.mk' {v y : AV} {a : AT} (h : K v a) (e : y = ren r v) : KR r K y := ⟨v, a, e, h⟩
theorem ZeB {t : TypeId} {i : TI} (hi : TIok P t i) (hH : Zi6 r H H') (hg : ∀ b, g = some b → b = true) {x : AV} (h : Znz i H x g a K) : ZeX P H' t (ren r x) (KR r K) := by
 unfold Znz at h
 cases x <;> simp only at h <;> try exact h.elim
 case iptr cs off =>
  simp only [ren, ZeX, hi.agg, hi.siz]
  split at h
  ·rename_i he
   rw [he]
   split at h
   ·rename_i c h1 h2
    obtain ⟨e1, e2⟩ := Zij _ _ _ h2
    have h1 := Nat.le_of_ble_eq_true h1
    rw [List.length_drop] at e2
    exact ⟨by omega, by omega, .mk' h (by rw [e1, ren, Zgi])⟩
   ·exact h.elim
  ·rename_i he
   rw [he]
   rw [Zb1] at h
   simp only
   split at h
   ·rename_i c hc; simp only [hc]; exact .mk' h rfl
   ·exact h.elim
 case ptr k q off =>
  simp only [ren, ZeX, hi.agg, hi.siz]
  split at h
  ·rename_i hl
   obtain ⟨g1, g2, g3, g4, g5⟩ := hH.at hl
   refine ⟨g1, g2, ?_⟩
   rw [g5]
   split at h
   ·split at h
    ·rename_i he
     rw [he]
     split at h
     ·rename_i c h1 h2
      obtain ⟨e1, e2⟩ := Zij _ _ _ h2
      have h1 := Nat.le_of_ble_eq_true h1
      rw [List.length_drop] at e2
      exact ⟨by omega, by rw [Za2]; omega, .mk' h (by rw [ren, ZbI, ZbT, e1])⟩
     ·exact h.elim
    ·rename_i he
     rw [he]
     rw [Zb1] at h
     split at h
     ·rename_i c hc; simp only [Zez, hc, Option.map_some]; exact .mk' h rfl
     ·exact h.elim
   ·split at h
    ·rename_i he
     rw [he]
     split at h
     ·rename_i c r' h1 h2
      have h1 := Nat.le_of_ble_eq_true h1
      have h2 := Nat.eq_of_beq_eq_true h2
      have h3 : Zb7 _ _ _ := Zay hg h.1
      unfold Zb7 at h3
      rw [h2] at h3
      have h4 := congrArg List.length h3
      rw [List.length_take, List.length_drop] at h4
      exact ⟨by omega, by rw [Za2]; omega, .mk' h.2 (by rw [ren, ZbI, ZbT, h3])⟩
     ·exact h.elim
    ·rename_i he
     rw [he]
     split at h
     ·rename_i x
      have h3 : Zb7 _ _ _ := Zay hg h.1
      unfold Zb7 at h3
      have e : (H k).cells[off]? = some x := by
       have := congrArg (fun l => l[0]?) h3
       simpa using this
      simp only [Zez, e, Option.map_some]
      exact .mk' h.2 rfl
     ·exact h.elim
   ·exact h.elim
  ·exact h.elim
theorem Zlh {t : TypeId} {i : TI} (hi : TIok P t i) {f : Nat} {x : Nat × Nat × Bool} (h : nth i.fld f = some x) : fld P t f = some (x.1, x.2.1) ∧ ZE8 P t f = some x := by
 rw [Zb1] at h; exact hi.fld f x h
theorem ZfG {t : TypeId} {i : TI} (hi : TIok P t i) (hH : Zi6 r H H') {f : Nat} {x : AV} (h : Zef i H f x a K) : Za7 P H' t f (ren r x) (KR r K) := by
 unfold Zef at h
 split at h
 ·rename_i o n b hf
  have e := (Zlh hi hf).1
  split at h
  ·rename_i h1
   have h1 := Nat.le_of_ble_eq_true h1
   unfold Za7
   rw [e]
   split at h
   ·simp only [ren]; exact ⟨by omega, .mk' h rfl⟩
   ·split at h
    ·rename_i hl
     obtain ⟨g1, g2, _⟩ := hH.at hl
     simp only [ren]; exact ⟨by omega, g1, g2, .mk' h rfl⟩
    ·exact h.elim
   ·exact h.elim
  ·exact h.elim
 ·exact h.elim
theorem ZiV {t : TypeId} {i : TI} (hi : TIok P t i) {f : Nat} {x : AV} (h : Zlx i f x a K) : Zdq P t f (ren r x) (KR r K) := by
 unfold Zlx at h
 rw [ZpD]
 split at h
 ·rename_i o n cs hf
  rw [(Zlh hi hf).2]
  split at h
  ·rename_i h1
   have h1 := Nat.le_of_ble_eq_true h1
   simp only [ren, ZDB]
   exact ⟨by omega, .mk' h (by rw [ren, ZbI, ZbT])⟩
  ·exact h.elim
 ·rename_i o n cs hf
  rw [(Zlh hi hf).2]
  rw [Zb1] at h
  split at h
  ·rename_i c hc
   simp only [ren, ZDB, Zez, hc, Option.map_some]
   exact .mk' h rfl
  ·exact h.elim
 ·exact h.elim
theorem ZfC {t : TypeId} {i : TI} (hi : TIok P t i) (hH : Zi6 r H H') (hg : ∀ b, g = some b → b = true) {x j : AV} (h : Zej i H x j g a K) : Za3 P H' t (ren r x) (ren r j) (KR r K) := by
 unfold Zej at h
 split at h
 ·rename_i e sz k n he
  have he := hi.elm _ he
  split at h
  ·rename_i es e' q
   split at h
   ·rename_i h1 h2
    have h1 := Nat.eq_of_beq_eq_true h1
    have h2 := Nat.le_of_ble_eq_true h2
    obtain ⟨h3, h4⟩ : Zwp _ _ _ := Zay hg h.1
    simp only [ren, Za3, he]
    refine ⟨h3, ?_⟩
    rw [h4]
    exact ⟨h1, by omega, .mk' h.2 rfl⟩
   ·exact h.elim
  ·rename_i k q off len o r'
   split at h
   ·rename_i hl h1 h2
    have h1 := Nat.eq_of_beq_eq_true h1
    have h2 := Nat.le_of_ble_eq_true h2
    obtain ⟨g1, g2, g3, g4, g5⟩ := hH.at hl
    obtain ⟨h3, h4, h5⟩ : ZCC _ _ _ _ _ := Zay hg h.1
    simp only [ren, Za3, he]
    exact ⟨h3, h4, g1, g2, by rw [g4, h1], by omega, .mk' h.2 (by rw [ren, h5])⟩
   ·exact h.elim
  ·exact h.elim
 ·exact h.elim
theorem Zjm {t : TypeId} {i : TI} (hi : TIok P t i) (hg : ∀ b, g = some b → b = true) {x j : AV} (h : ZlI i x j g a K) : ZdK P t (ren r x) (ren r j) (KR r K) := by
 unfold ZlI at h
 split at h
 ·rename_i s k n b q
  split at h
  ·rename_i h1
   have h1 := Nat.eq_of_beq_eq_true h1
   obtain ⟨h3, c, h4, h5⟩ : ZCn _ _ _ := Zay hg h.1
   simp only [ren, ZdK]
   refine ⟨by rw [hi.kin]; exact h1, h3, ?_⟩
   rw [h4]
   exact .mk' h.2 (by rw [ren, h5])
  ·exact h.elim
 ·exact h.elim
theorem Znl {op : BinOp} {k : IntKind} {x y : Int} (hg : ∀ b, g = some b → b = true) (h : ZI3 op k x y g a K) : ZqW op k x y (KR r K) := by
 unfold ZI3 at h
 cases op <;> simp only at h <;> try exact h.elim
 all_goals simp only [ZqW]
 case eql => exact .mk' h rfl
 case neq => exact .mk' h rfl
 case lss => exact .mk' h rfl
 case leq => exact .mk' h rfl
 case gtr => exact .mk' h rfl
 case geq => exact .mk' h rfl
 case add | sub | mul =>
  split at h
  ·have e : ZcR _ _ _ := Zay hg h.1
   unfold ZcR at e
   rw [e]; exact .mk' h.2 rfl
  ·exact h.elim
 case quo =>
  split at h
  ·have e : ZcR _ _ _ := Zay hg h.2.1
   unfold ZcR at e
   rw [e]; exact ⟨Zay hg h.1, .mk' h.2.2 rfl⟩
  ·exact h.elim
 case rem =>
  split at h
  ·have e : EqI _ _ := Zay hg h.2.1
   unfold EqI at e
   rw [e]; exact ⟨Zay hg h.1, .mk' h.2.2 rfl⟩
  ·exact h.elim
 case shr =>
  split at h
  ·have e : EqI _ _ := Zay hg h.2.1
   unfold EqI at e
   rw [e]; exact ⟨Zay hg h.1, .mk' h.2.2 rfl⟩
  ·exact h.elim
 case shl =>
  split at h
  ·have e : ZcR _ _ _ := Zay hg h.2.1
   unfold ZcR at e
   rw [e]; exact ⟨Zay hg h.1, .mk' h.2.2 rfl⟩
  ·exact h.elim
theorem Znh {op : BinOp} {x y : ByteArray} (hg : ∀ b, g = some b → b = true) (h : ZJf op x y g a K) : ZqI op x y (KR r K) := by
 unfold ZJf at h
 cases op <;> simp only at h <;> try exact h.elim
 all_goals simp only [ZqI]
 case add => exact ⟨Zay hg h.1, .mk' h.2 rfl⟩
 all_goals exact .mk' h rfl
theorem ZhR {neg : Bool} {x : AV} (hH : Zi6 r H H') (h : ZCo H neg x a K) : Zke H' neg (ren r x) (KR r K) := by
 unfold ZCo at h
 split at h
 ·simp only [ren, Zke]; exact fun b => .mk' (h b) rfl
 ·rename_i es
  cases es with
  | nil => simp only [ren, Zke]; exact fun b => .mk' (h b (fun e => absurd rfl e)) rfl
  | cons e es => simp only [ren, Zke]; exact .mk' (h neg (fun _ => rfl)) rfl
 ·rename_i k q off n
  split at h
  ·rename_i hl
   obtain ⟨g1, g2, _⟩ := hH.at hl
   simp only [ren, Zke]
   exact ⟨⟨g1, g2⟩, fun hn => .mk' (h neg (fun _ => rfl)) rfl, fun hn b => .mk' (h b (fun e => absurd hn e)) rfl⟩
  ·exact h.elim
 ·exact h.elim
theorem Zju : ∀ (ks : List Nat) (xs ys : List AV) (b : Bool), ZeP ks xs ys = some b → ZeP ks (Zas r xs) (Zas r ys) = some b
 | [], [], [], b, h => by simpa [Zas] using h
 | k :: ks, x :: xs, y :: ys, b, h => by
  cases x <;> cases y <;> simp only [ZeP] at h <;> try (cases h; done)
  rename_i x y
  simp only [Zas, ren, ZeP]
  split at h
  ·rename_i b1 b2 h1 h2
   simp only [h1, Zju ks xs ys _ h2]
   exact h
  ·cases h
 | [], [], _ :: _, b, h => by simp [ZeP] at h
 | [], _ :: _, _, b, h => by simp [ZeP] at h
 | _ :: _, [], _, b, h => by simp [ZeP] at h
 | _ :: _, x :: _, [], b, h => by cases x <;> simp [ZeP] at h
theorem Zy7 {H : Hp} {op : BinOp} {t : TypeId} {ny : Bool} {x : AV} {K : AV → Prop} : Zhn P H op t ny x .e0 K = (ny = true ∧ kin P t = 4 ∧ match op with | .eql => Zke H false x K | .neq => Zke H true x K | _ => False) := by
 unfold Zhn
 cases x <;> first | rfl | (rename_i d; cases d <;> rfl)
theorem Znt {t : TypeId} {i : TI} (hi : TIok P t i) (hH : Zi6 r H H') (hg : ∀ b, g = some b → b = true) {op : BinOp} {ny : Bool} {x y : AV} (h : ZIU i H op ny x y g a K) : Zhn P H' op t ny (ren r x) (ren r y) (KR r K) := by
 unfold ZIU at h
 split at h
 ·split at h
  ·rename_i hk
   simp only [ren, Zhn]
   exact ⟨ZHE hk, Znl hg h⟩
  ·exact h.elim
 ·simp only [ren, Zhn]; exact Znh hg h
 ·split at h
  ·rename_i hk
   simp only [ren, Zhn]
   refine ⟨by rw [hi.kin]; exact Nat.eq_of_beq_eq_true hk, ?_⟩
   split at h
   ·exact .mk' h rfl
   ·exact .mk' h rfl
   ·exact h.elim
  ·exact h.elim
 ·rename_i xs ys
  split at h
  ·rename_i ks hks
   split at h
   ·rename_i b hb
    simp only [ren, Zhn, Zrg, hi.eqt _ hks, Zju _ _ _ _ hb]
    split at h
    ·exact .mk' h rfl
    ·exact .mk' h rfl
    ·exact h.elim
   ·exact h.elim
  ·exact h.elim
 ·rw [show ren r .e0 = .e0 from by simp [ren], Zy7]
  split at h
  ·rename_i h5 h6
   refine ⟨rfl, by rw [hi.kin]; exact Nat.eq_of_beq_eq_true h6, ?_⟩
   split at h
   ·exact ZhR hH h
   ·exact ZhR hH h
   ·exact h.elim
  ·exact h.elim
 ·exact h.elim
theorem Zps {op : UnOp} {x : AV} (hg : ∀ b, g = some b → b = true) (h : tUn op x g a K) : vUn op (ren r x) (KR r K) := by
 unfold tUn at h
 split at h
 ·simp only [ren, vUn]; exact .mk' h rfl
 ·split at h
  ·have e : ZcR _ _ _ := Zay hg h.1
   unfold ZcR at e
   simp only [ren, vUn]
   rw [e]; exact .mk' h.2 rfl
  ·exact h.elim
 ·exact h.elim
theorem ZkW {s d : TypeId} {i j : TI} (hi : TIok P s i) (hj : TIok P d j) {x : AV} (hg : ∀ b, g = some b → b = true) (h : Zrn i j x g a K) : Zfb P s d (ren r x) (KR r K) := by
 unfold Zrn at h
 split at h
 ·split at h
  ·rename_i k1 n a' k' k'' m r' e1 e2
   have e : ZcR _ _ _ := Zay hg h.1
   unfold ZcR at e
   simp only [ren, Zfb, hi.ik _ e1, hj.ik _ e2]
   rw [e]; exact .mk' h.2 rfl
  ·exact h.elim
 ·split at h
  ·rename_i e1 e2
   simp only [ren, Zfb, ZdY (by rw [hi.kin]; exact Nat.eq_of_beq_eq_true e1), ZdY (by rw [hj.kin]; exact Nat.eq_of_beq_eq_true e2)]
   exact .mk' h rfl
  ·exact h.elim
 ·exact h.elim
theorem ZhK {d l : Nat} {o o' : Option AV} (h : SlB d o l) (ho : o' = o.map (ren r)) : bnd d o' = some l := by
 subst ho
 unfold SlB at h
 split at h
 ·simp [bnd, h]
 ·subst h
  simp [bnd, ren]
 ·exact h.elim
theorem ZjI {t : TypeId} {i : TI} (hi : TIok P t i) (hH : Zi6 r H H') (hg : ∀ b, g = some b → b = true) {x : AV} {lo hi' : Option AV} {mx : Bool} (h : Zl5 i H x lo hi' mx g a K) :
  Zc9 P H' t (ren r x) (lo.map (ren r)) (hi'.map (ren r)) mx (KR r K) := by
 unfold Zl5 at h
 split at h
 ·split at h
  ·split at h
   ·rename_i hk
    obtain ⟨h1, h2, h3, h4⟩ := h
    have b1 := ZhK (r := r) (Zay hg h1) rfl
    have b2 := ZhK (r := r) (Zay hg h2) rfl
    have b3 : SlS _ _ _ := Zay hg h3
    simp only [ren, Zc9, b1, b2]
    exact ⟨by rw [hi.kin]; exact Nat.eq_of_beq_eq_true hk, trivial, b3.1, b3.2, .mk' h4 rfl⟩
   ·exact h.elim
  ·split at h
   ·rename_i e sz es' r' he
    split at h
    ·rename_i h0
     have h0 := Nat.le_of_ble_eq_true h0
     obtain ⟨h1, h2, h3, h4, h5⟩ := h
     have b1 := ZhK (r := r) (Zay hg h1) rfl
     have b2 := ZhK (r := r) (Zay hg h2) rfl
     have b3 : SlS _ _ _ := Zay hg h3
     have b4 : SlD _ _ _ _ _ := Zay hg h4
     simp only [ren, Zc9, b1, b2, hi.elm _ he]
     exact ⟨trivial, by omega, b4.1, b3.1, b3.2, .mk' h5 (by rw [ren, b4.2])⟩
    ·exact h.elim
   ·exact h.elim
  ·split at h
   ·rename_i e sz o' n' r' he hl
    split at h
    ·rename_i h0 h00
     have h0 := Nat.le_of_ble_eq_true h0
     obtain ⟨g1, g2, g3, g4, g5⟩ := hH.at hl
     obtain ⟨h1, h2, h3, h4, h5⟩ := h
     have b1 := ZhK (r := r) (Zay hg h1) rfl
     have b2 := ZhK (r := r) (Zay hg h2) rfl
     have b3 : SlS _ _ _ := Zay hg h3
     have b4 : SlR _ _ _ _ _ := Zay hg h4
     simp only [ren, Zc9, b1, b2, hi.elm _ he]
     exact ⟨trivial, g1, g2, by omega, by rw [g4]; exact Nat.eq_of_beq_eq_true h00, b3.1, b3.2, .mk' h5 (by rw [ren, b4.1, b4.2])⟩
    ·exact h.elim
   ·exact h.elim
  ·exact h.elim
 ·exact h.elim
theorem ZnS {t : TypeId} {i : TI} (hi : TIok P t i) (hH : Zi6 r H H') (hg : ∀ b, g = some b → b = true) {x : AV} (h : ZI6 i H x g a K) : Zkf P H' t (ren r x) (KR r K) := by
 unfold ZI6 at h
 split at h
 ·split at h
  ·rename_i hk
   have e : EqI _ _ := Zay hg h.1
   unfold EqI at e
   simp only [ren, Zkf, hi.kin]
   exact ⟨Nat.eq_of_beq_eq_true hk, .mk' h.2 (by rw [ren, e])⟩
  ·exact h.elim
 ·split at h
  ·rename_i hk
   have e : EqI _ _ := Zay hg h.1
   unfold EqI at e
   simp only [ren, Zkf, hi.kin]
   exact ⟨Nat.eq_of_beq_eq_true hk, .mk' h.2 (by rw [ren, e])⟩
  ·exact h.elim
 ·split at h
  ·rename_i hk
   have e : EqI _ _ := Zay hg h.1
   unfold EqI at e
   simp only [ren, Zkf, hi.kin]
   exact ⟨Nat.eq_of_beq_eq_true hk, .mk' h.2 (by rw [ren, e])⟩
  ·exact h.elim
 ·split at h
  ·rename_i hk hl
   have e : EqI _ _ := Zay hg h.1
   unfold EqI at e
   obtain ⟨g1, g2, _⟩ := hH.at hl
   simp only [ren, Zkf, hi.kin]
   exact ⟨Nat.eq_of_beq_eq_true hk, g1, g2, .mk' h.2 (by rw [ren, e])⟩
  ·exact h.elim
 ·exact h.elim
theorem ZnL (hH : Zi6 r H H') {x : AV} {y : Bool × List (List D)} (h : ZqH H x = some y) : ZmY H' (ren r x) = some y := by
 unfold ZqH at h
 split at h
 ·simp only [ren, ZmY]; exact h
 ·split at h
  ·rename_i k g _ _ q es hl he
   obtain ⟨g1, g2, g3, _, _⟩ := hH.at hl
   simp only [ren, ZmY]
   rw [if_pos ⟨g1, g2⟩, g3, he]
   exact h
  ·cases h
 ·cases h
theorem Ziy (q : Bool) (ds : List D) : ren r (meA q ds) = meA q ds := by
 unfold meA
 split <;> simp [ren, Zgi]
theorem ZA0 (ck q : Bool) (ds : List D) (ok : Bool) : ren r (lkV ck q ds ok) = lkV ck q ds ok := by
 unfold lkV
 cases ck
 ·exact Ziy q ds
 ·simp only [ren, Zas, Ziy]
theorem ZkB {t : TypeId} {i : TI} (hi : TIok P t i) (hH : Zi6 r H H') (hg : ∀ b, g = some b → b = true) {x y : AV} {ck : Bool} (h : ZsZ i H x y ck g a K) : ZfY P H' t (ren r x) (ren r y) ck (KR r K) := by
 unfold ZsZ at h
 split at h
 ·rename_i q z q' es s ok vs a' h1 h2
  split at h
  ·rename_i hq
   obtain ⟨e1, e2⟩ : Znd _ _ _ _ _ := Zay hg h.1
   simp only [ZfY, hi.mp _ h1, ZnL hH h2, ren]
   exact ⟨Zqa hq, .mk' h.2 (by rw [e1, e2, ZA0])⟩
  ·exact h.elim
 ·exact h.elim
theorem ZdD {x : AV} {vs : List AV} (h : Zbs x = some vs) (hx : ∀ f xs ys, x ≠ .fn (.yield f) xs ys) : Zbs (ren r x) = some (Zas r vs) := by
 cases x <;> simp only [Zbs, Option.some.injEq] at h <;> try (cases h; done)
 case fn f xs ys =>
  subst h
  cases f with
  | yield i => exact absurd rfl (hx i xs ys)
  | _ => simp [ren, Zas, Zbs]
 all_goals (subst h; simp [ren, Zas, Zbs])
theorem Zif {x : AV} (h : ZCu x = true) : ∀ f xs ys, x ≠ .fn (.yield f) xs ys := by
 rintro f xs ys rfl; cases h
theorem ZDt {t : TypeId} {i : TI} (hi : TIok P t i) {f o n : Nat} (h : plc i f = some (o, n)) : fld P t f = some (o, n) := by
 unfold plc at h
 split at h
 ·rename_i o' n' b hf
  simp only [Option.some.injEq, Prod.mk.injEq] at h
  obtain ⟨rfl, rfl⟩ := h
  exact (Zlh hi hf).1
 ·cases h
theorem Zg3 {t : TypeId} {i : TI} (hi : TIok P t i) : ∀ (ps : List (Nat × AV)) (z cs : List AV), (∀ p ∈ ps, ZCu p.2 = true) → Zqy i z ps = some cs → ZdV (fld P t) (Zas r z) (ps.map fun p => (p.1, ren r p.2)) = some (Zas r cs)
 | [], z, cs, _, h => by
  simp only [Zqy, Option.some.injEq] at h
  subst h
  simp [ZdV]
 | (f, v) :: ps, z, cs, hn, h => by
  simp only [Zqy] at h
  split at h
  ·rename_i off size vs hp hv
   split at h
   ·rename_i h1 h2
    have h1 := Nat.eq_of_beq_eq_true h1
    have h2 := Nat.le_of_ble_eq_true h2
    have hv' := ZdD (r := r) hv (Zif (hn (f, v) (List.mem_cons_self ..)))
    simp only [List.map_cons, ZdV, ZDt hi hp, hv', Za2]
    rw [if_neg (by omega)]
    have := Zg3 hi ps _ cs (fun p hp => hn p (List.mem_cons_of_mem _ hp)) h
    rw [← this]
    simp only [ZcP, ZbT, ZbI]
   ·cases h
  ·cases h
theorem ZiZ {t : TypeId} {i : TI} (hi : TIok P t i) {parts : List (Nat × AV)} (hn : ∀ p ∈ parts, ZCu p.2 = true) (hz : ∀ z, i.zer = some z → Zas r z = z) (h : ZlH i parts a K) :
  ZdL P t (parts.map fun p => (p.1, ren r p.2)) (KR r K) := by
 unfold ZlH at h
 split at h
 ·rename_i z h1 h2
  split at h
  ·rename_i cs hf
   have := Zg3 (r := r) hi _ _ _ hn hf
   unfold ZdL
   rw [hi.zer _ h2]
   rw [hz z h2] at this
   simp only [this]
   exact ⟨hi.str h1, .mk' h rfl⟩
  ·exact h.elim
 ·exact h.elim
theorem Zsy {x : AV} (h : x.flat = true) : ren r x = x := by cases x <;> first | (simp [ren]; done) | cases h
theorem ZcZ {z : List AV} (h : z.all AV.flat = true) : Zas r z = z := by
 induction z with
 | nil => simp [Zas]
 | cons x z ih =>
  simp only [List.all_cons, Bool.and_eq_true] at h
  rw [Zas, Zsy h.1, ih h.2]
theorem Zf8 {c x y : Operand} {ρ ρ' : Operand → AV} {t : Bool} (hc : ρ c = .d (.bool t)) (hc' : ρ' c = ren r (ρ c)) (hx : t = true → ρ' x = ren r (ρ x)) (hy : t = false → ρ' y = ren r (ρ y)) (h : tV T H (.pick c x y) ρ g a K) :
  vOp P H' (.pick c x y) ρ' (KR r K) := by
 simp only [tV, hc] at h
 rw [hc] at hc'
 simp only [ren] at hc'
 simp only [vOp, hc']
 rw [ZtP] at h
 cases t
 ·exact .mk' h (by simp [hy rfl])
 ·exact .mk' h (by simp [hx rfl])
theorem ZkK {ρ ρ' : Operand → AV} {xs : List Operand} (h : ∀ x ∈ xs, ρ' x = ren r (ρ x)) : xs.map ρ' = Zas r (xs.map ρ) := by
 rw [ZcI, List.map_map]
 exact List.map_congr_left h
theorem ZlX {ρ ρ' : Operand → AV} {o : Option Operand} (h : ∀ x, o = some x → ρ' x = ren r (ρ x)) : o.map ρ' = (o.map ρ).map (ren r) := by
 cases o with
 | none => rfl
 | some x => simp [h x rfl]
theorem ZiW {r : Ren} {mx : Bool} {x y : AV} {a : AT} {K : AV → AT → Prop} (h : vMM mx x y (fun v => K v a)) : vMM mx (ren r x) (ren r y) (KR r K) := by
 unfold vMM at h
 split at h
 ·simp only [ren, vMM]; exact .mk' h rfl
 ·exact h.elim
theorem Zth (hT : TOk P T) (hH : Zi6 r H H') (hg : ∀ b, g = some b → b = true) {op : Op} {ρ ρ' : Operand → AV} (hρ : ∀ x ∈ op.operands, ρ' x = ren r (ρ x)) (h : tV T H op ρ g a K) : vOp P H' op ρ' (KR r K) := by
 have get : ∀ {x : Operand}, x ∈ op.operands → ρ' x = ren r (ρ x) := fun hx => hρ _ hx
 cases op <;> simp only [tV] at h <;> try exact h.elim
 case move x => exact .mk' h (get (by simp [Op.operands]))
 case assign x => exact .mk' h (get (by simp [Op.operands]))
 case pick c x y =>
  split at h
  ·rename_i t hc
   exact Zf8 (a := a) (g := g) (T := T) (H := H) hc (get (by simp [Op.operands])) (fun _ => get (by simp [Op.operands])) (fun _ => get (by simp [Op.operands])) (by simp only [tV, hc]; exact h)
  ·exact h.elim
 case load t x =>
  split at h
  ·rename_i i hi; simp only [vOp]; rw [get (x := x) (by simp [Op.operands])]; exact ZeB (hT _ _ hi) hH hg h
  ·exact h.elim
 case fieldAddr t x f =>
  split at h
  ·rename_i i hi; simp only [vOp]; rw [get (x := x) (by simp [Op.operands])]; exact ZfG (hT _ _ hi) hH h
  ·exact h.elim
 case field t x f =>
  split at h
  ·rename_i i hi; simp only [vOp]; rw [get (x := x) (by simp [Op.operands])]; exact ZiV (hT _ _ hi) h
  ·exact h.elim
 case indexAddr t x j =>
  split at h
  ·rename_i i hi; simp only [vOp]; rw [get (x := x) (by simp [Op.operands]), get (x := j) (by simp [Op.operands])]; exact ZfC (hT _ _ hi) hH hg h
  ·exact h.elim
 case index t x j =>
  split at h
  ·rename_i i hi; simp only [vOp]; rw [get (x := x) (by simp [Op.operands]), get (x := j) (by simp [Op.operands])]; exact Zjm (hT _ _ hi) hg h
  ·exact h.elim
 case extract x j =>
  simp only [vOp]
  rw [get (x := x) (by simp [Op.operands])]
  split at h
  ·rename_i vs hx
   rw [hx]
   simp only [ren, Zez]
   rw [Zb1] at h
   split at h
   ·rename_i y hy; rw [hy]; exact .mk' h rfl
   ·exact h.elim
  ·exact h.elim
 case binOp o t x y u =>
  split at h
  ·rename_i i hi; simp only [vOp]; rw [get (x := x) (by simp [Op.operands]), get (x := y) (by simp [Op.operands])]; exact Znt (hT _ _ hi) hH hg h
  ·exact h.elim
 case unOp o t x => simp only [vOp]; rw [get (x := x) (by simp [Op.operands])]; exact Zps hg h
 case nilCheck x =>
  split at h
  ·rename_i k q off hx
   split at h
   ·rename_i hl
    simp only [vOp]
    rw [get (x := x) (by simp [Op.operands]), hx]
    obtain ⟨g1, g2, _, _, _⟩ := hH.at hl
    simp only [ren, Zwk]
    exact ⟨g1.symm ▸ rfl, g2, .mk' h (by simp [ren])⟩
   ·exact h.elim
  ·rename_i cs off hx
   simp only [vOp]
   rw [get (x := x) (by simp [Op.operands]), hx]
   simp only [ren, Zwk]
   exact .mk' h (by simp [ren])
  ·exact h.elim
 case convert s d x =>
  split at h
  ·rename_i i j hi hj; simp only [vOp]; rw [get (x := x) (by simp [Op.operands])]; exact ZkW (hT _ _ hi) (hT _ _ hj) hg h
  ·exact h.elim
 case makeFunc fn first caps =>
  have e1 : first.toList.map ρ' = Zas r (first.toList.map ρ) := ZkK fun x hx => get (by simp only [Op.operands, Array.mem_append]; exact .inl (by simpa using hx))
  have e2 : caps.toList.map ρ' = Zas r (caps.toList.map ρ) := ZkK fun x hx => get (by simp only [Op.operands, Array.mem_append]; exact .inr (by simpa using hx))
  simp only [vOp]
  rw [e1, e2]
  split at h
  ·exact h.elim
  ·rename_i hne
   refine .mk' h ?_
   cases fn <;> first | exact absurd rfl (hne _) | simp [ren]
 case slice t x lo hi mx =>
  split at h
  ·rename_i i hi'
   simp only [vOp]
   rw [get (x := x) (by simp [Op.operands]), ZlX (o := lo) (fun y hy => get (by subst hy; simp [Op.operands])), ZlX (o := hi) (fun y hy => get (by subst hy; simp [Op.operands]))]
   exact ZjI (hT _ _ hi') hH hg h
  ·exact h.elim
 case build t parts =>
  split at h
  ·rename_i i hi hn
   simp only [vOp]
   have e : (parts.toList.map fun p => (p.1, ρ' p.2)) = (parts.toList.map fun p => (p.1, ρ p.2)).map fun p => (p.1, ren r p.2) := by
    rw [List.map_map]
    refine List.map_congr_left fun p hp => ?_
    simp only [Function.comp]
    rw [get (x := p.2) (by simp only [Op.operands, List.mem_toArray, List.mem_map]; exact ⟨p, hp, rfl⟩)]
   rw [e]
   refine ZiZ (hT _ _ hi) (fun p hp => ?_) (fun z hz => ZcZ ((hT _ _ hi).flt z hz)) h
   obtain ⟨q, hq, rfl⟩ := List.mem_map.1 hp
   exact List.all_eq_true.1 hn q hq
  ·exact h.elim
 case lookup t x y ck =>
  split at h
  ·rename_i i hi; simp only [vOp]; rw [get (x := x) (by simp [Op.operands]), get (x := y) (by simp [Op.operands])]; exact ZkB (hT _ _ hi) hH hg h
  ·exact h.elim
 case call c =>
  split at h
  ·rename_i x t hc hx ht
   split at h
   ·rename_i i hi
    have e1 : c.args = #[x] := Array.ext' (by simpa using hx)
    have e2 : c.argTypes = #[t] := Array.ext' (by simpa using ht)
    simp only [vOp, hc, e1, e2]
    show 1 = 1 ∧ Zkf P H' t (ρ' x) (KR r K)
    rw [get (x := x) (by simp [Op.operands, Call.operands, hc, e1])]
    exact ⟨rfl, ZnS (hT _ _ hi) hH hg h⟩
   ·exact h.elim
  ·rename_i x y hc hx
   have e1 : c.args = #[x, y] := Array.ext' (by simpa using hx)
   simp only [vOp, hc, e1]
   show vMM false (ρ' x) (ρ' y) (KR r K)
   rw [get (x := x) (by simp [Op.operands, Call.operands, hc, e1]), get (x := y) (by simp [Op.operands, Call.operands, hc, e1])]
   exact ZiW h
  ·rename_i x y hc hx
   have e1 : c.args = #[x, y] := Array.ext' (by simpa using hx)
   simp only [vOp, hc, e1]
   show vMM true (ρ' x) (ρ' y) (KR r K)
   rw [get (x := x) (by simp [Op.operands, Call.operands, hc, e1]), get (x := y) (by simp [Op.operands, Call.operands, hc, e1])]
   exact ZiW h
  ·rename_i x y z hc hx
   have e1 : c.args = #[x, y, z] := Array.ext' (by simpa using hx)
   simp only [vOp, hc, e1]
   show Zrh true (ρ' x) (ρ' y) (ρ' z) (KR r K)
   rw [get (x := x) (by simp [Op.operands, Call.operands, hc, e1]), get (x := y) (by simp [Op.operands, Call.operands, hc, e1]), get (x := z) (by simp [Op.operands, Call.operands, hc, e1])]
   unfold Zrh at h
   split at h
   ·rename_i h1 h2 h3
    rw [h1, h2, h3]
    simp only [ren, Zrh]; exact .mk' h rfl
   ·exact h.elim
  ·exact h.elim
end
end Go.Eng
namespace Go.Eng
set_option linter.all false
open Go Go.RowKit
abbrev Zde := List (Nat × Bool)
abbrev Env := List (Nat × Zde)
def lk : Env → Nat → Zde
 | [], _ => []
 | (i, c) :: r, j => match Nat.beq i j with | true => c | false => lk r j
def ZDo (t : Bool) : Bool → Bool
 | true => t
 | false => !t
theorem Zg8 {t b : Bool} : ZDo t b = true ↔ t = b := by cases t <;> cases b <;> simp [ZDo]
def ZyP : Zde → Zde → Bool
 | [], [] => true
 | (i, a) :: r, (j, b) :: q => Nat.beq i j && ZDo a b && ZyP r q
 | _, _ => false
theorem ZkM : ∀ {a b : Zde}, ZyP a b = true → a = b
 | [], [], _ => rfl
 | (i, a) :: r, (j, b) :: q, h => by
  simp only [ZyP, Bool.and_eq_true] at h
  rw [Nat.eq_of_beq_eq_true h.1.1, Zg8.1 h.1.2, ZkM h.2]
 | [], _ :: _, h => by simp [ZyP] at h
 | _ :: _, [], h => by simp [ZyP] at h
def ZIL (a : Zde) : Zde → Bool
 | [] => ZyP a []
 | q :: b => ZyP a (q :: b) || ZIL a b
theorem Zls {a : Zde} : ∀ {b : Zde}, ZIL a b = true → ∀ q ∈ a, q ∈ b
 | [], h, q, hq => by rw [ZkM h] at hq; exact hq
 | p :: b, h, q, hq => by
  simp only [ZIL, Bool.or_eq_true] at h
  rcases h with h | h
  ·rw [ZkM h] at hq; exact hq
  ·exact List.mem_cons_of_mem _ (Zls h q hq)
def ZhB (s : Nat → AV) (c : Zde) : Prop := ∀ q ∈ c, s q.1 = .d (.bool q.2)
def ZeQ (s : Nat → AV) : Zde → Option Bool
 | [] => some true
 | [(d, b)] => match s d with | .d (.bool t) => some (ZDo t b) | _ => none
 | (d, b) :: r => match s d, ZeQ s r with | .d (.bool t), some c => some (c && ZDo t b) | _, _ => none
theorem ZcS {s : Nat → AV} : ∀ {c : Zde} {g : Bool}, ZeQ s c = some g → (g = true ↔ ZhB s c)
 | [], g, h => by simp only [ZeQ, Option.some.injEq] at h; subst h; simp [ZhB]
 | [(d, b)], g, h => by
  simp only [ZeQ] at h
  split at h
  ·rename_i t ht
   simp only [Option.some.injEq] at h
   subst h
   rw [Zg8]
   simp [ZhB, ht]
  ·cases h
 | (d, b) :: q :: r, g, h => by
  simp only [ZeQ] at h
  split at h
  ·rename_i t c ht hc
   simp only [Option.some.injEq] at h
   subst h
   have ih := ZcS hc
   rw [Bool.and_eq_true, ih, Zg8]
   constructor
   ·rintro ⟨h1, rfl⟩ p hp
    rcases List.mem_cons.1 hp with rfl | hp
    ·exact ht
    ·exact h1 p hp
   ·intro h1
    refine ⟨fun p hp => h1 p (List.mem_cons_of_mem _ hp), ?_⟩
    have := h1 (d, b) (List.mem_cons_self ..)
    simp only [ht] at this
    injection this with this
    injection this
  ·cases h
def Zq6 (e : Nat) (c : Zde) : Bool := c.all fun q => !Nat.beq q.1 e
def fresh (e : Nat) (env : Env) : Bool := env.all fun p => Zq6 e p.2
theorem Zmg {s : Nat → AV} {e : Nat} {v : AV} {c : Zde} (h : Zq6 e c = true) : ZhB (upd s e v) c ↔ ZhB s c := by
 have key : ∀ q ∈ c, upd s e v q.1 = s q.1 := fun q hq => by
  have := List.all_eq_true.1 h q hq
  unfold upd
  rw [if_neg]
  intro he
  subst he
  simp at this
 constructor
 ·exact fun h q hq => (key q hq) ▸ h q hq
 ·exact fun h q hq => (key q hq).trans (h q hq)
theorem Zld {e : Nat} : ∀ {env : Env}, fresh e env = true → ∀ j, Zq6 e (lk env j) = true
 | [], _, j => rfl
 | (i, c) :: r, h, j => by
  simp only [fresh, List.all_cons, Bool.and_eq_true] at h
  simp only [lk]
  split
  ·exact h.1
  ·exact Zld h.2 j
theorem ZkG {env : Env} {e : Nat} {c : Zde} (j : Nat) : lk ((e, c) :: env) j = if j = e then c else lk env j := by
 simp only [lk]
 by_cases h : j = e
 ·subst h; simp
 ·rw [if_neg h]
  split
  ·rename_i h'; exact absurd (Nat.eq_of_beq_eq_true h').symm h
  ·rfl
def chk (env : Env) (c : Zde) : Operand → Bool
 | .tmp t => ZIL (lk env t) c
 | _ => true
def ZcH (env : Env) (c : Zde) : Op → Bool
 | .pick (.tmp d) x y => chk env c (.tmp d) && chk env ((d, true) :: c) x && chk env ((d, false) :: c) y
 | op => op.operands.toList.all (chk env c)
structure RenOk (r : Ren) (l outs : Nat) : Prop where
 own : ∀ d, r.κ (1, d) = (l + 1, d)
 out : ∀ i, i < outs → (r.κ (0, i)).1 ≤ l
 inj : ∀ i j, i < outs → j < outs → r.κ (0, i) = r.κ (0, j) → i = j
 no : ∀ k, r.no k → ∃ i, i < outs ∧ r.κ (0, i) = k
structure RG (r : Ren) (l outs : Nat) (env : Env) (τ σ : St) : Prop where
 s : ∀ j, (ZhB τ.s (lk env j) → σ.s j = ren r (τ.s j)) ∧ (¬ ZhB τ.s (lk env j) → σ.s j = .tup [])
 h : Zi6 r τ.H σ.H
 g : ∀ d, (σ.H (l + 1, d)).g = r.γ (1, d) + (τ.H (1, d)).g
 go : ∀ i, i < outs → (σ.H (r.κ (0, i))).g = r.γ (0, i) + (τ.H (0, i)).g
 k : ∀ k, (τ.H k).live = true → k.1 = 1 ∨ (k.1 = 0 ∧ k.2 < outs)
 o : ∀ k : Key, k.1 ≤ l → ¬ r.no k → σ.H k = r.H0 k
def Zie (P : Program) (l : Nat) (r : Ren) (f : FuncId) (xs : List AV) (hb : List (Key × Blk)) (x : AV) : Prop :=
 ∀ H', (∀ p ∈ hb, p.2.live = true → H' (r.κ p.1) = ZbG r p.1 p.2) → (∀ k : Key, k.1 ≤ l → ¬ r.no k → H' k = r.H0 k) → Zcw P f (l + 1) (Zas r xs) H' (fun y H'' => y = ren r x ∧ H'' = H')
def ZnO (P : Program) (l : Nat) (r : Ren) (i : Nat) (xs : List AV) (hb : List (Key × Blk)) (x : AV) : Prop :=
 ∃ f first caps, r.θ i = .fn (.func f) first caps ∧ ∀ H', (∀ p ∈ hb, p.2.live = true → H' (r.κ p.1) = ZbG r p.1 p.2) → (∀ k : Key, k.1 ≤ l → ¬ r.no k → H' k = r.H0 k) → Zcw P f (l + 1) (first ++ Zas r xs ++ caps) H' (fun y H'' => y = ren r x ∧ H'' = H')
def Ztu (P : Program) (l : Nat) (r : Ren) (H : Hp) (f : AV) (xs : List AV) (g : Option Bool) (a : AT) (K : AV → AT → Prop) : Prop :=
 match f, a with
 | .fn (.func i) first caps, .call x ks a => sdP g (Zie P l r i (first ++ xs ++ caps) (ks.map fun k => (k, H k)) x) ∧ K x a
 | .fn (.yield i) _ _, .call x ks a => sdP g (ZnO P l r i xs (ks.map fun k => (k, H k)) x) ∧ K x a
 | _, _ => False
def bsV (T : Nat → Option TI) (τ : St) (t : TypeId) (len : Nat) (parts : List (Nat × Operand)) (a : AT) (K : AV → AT → Prop) : Prop :=
 match T t with
 | some i => (match i.elm with
  | some (e, sz) => (match Nat.ble 1 sz, len with
   | true, 0 => (match parts with | [] => K .e0 a | _ => False)
   | true, len + 1 => (match T e, Nat.ble ((len + 1) * sz) 16777216 with
    | some j, true => (match j.zer with
     | some z => (match Nat.beq z.length sz, ZqN sz 0 (parts.map fun p => (p.1, ev τ.s p.2)) with
      | true, some es => (match Nat.beq es.length (len + 1) with | true => K (.d (.list es)) a | false => False)
      | _, _ => False)
     | none => False)
    | _, _ => False)
   | _, _ => False)
  | none => False)
 | none => False
def pV (P : Program) (T : Nat → Option TI) (l : Nat) (r : Ren) (τ : St) (op : Op) (g : Option Bool) (a : AT) (K : AV → AT → Prop) : Prop :=
 match op with
 | .call c => match c.callee with
  | .value f => Ztu P l r τ.H (ev τ.s f) (c.args.toList.map (ev τ.s)) g a K
  | _ => tV T τ.H op (ev τ.s) g a K
 | .buildSlice t len parts => bsV T τ t len parts.toList a K
 | op => tV T τ.H op (ev τ.s) g a K
def Zoo (n d : Nat) (K : St → AT → Prop) (τ : St) (v : AV) (a : AT) : Prop :=
 match Nat.ble (d + 1) n with
 | true => K ⟨upd τ.s d v, τ.H⟩ a
 | false => False
section
variable {P : Program} {T : Nat → Option TI} {r : Ren} {l n outs : Nat} {env : Env} {τ σ : St} {g : Option Bool} {a : AT} {c : Zde}
theorem ZF1 (v : Value) : ren r (cv v) = cv v := by unfold cv; split <;> simp [ren]
theorem Zgr (h : RG r l outs env τ σ) (hs : ZhB τ.s c) {x : Operand} (hx : chk env c x = true) : ev σ.s x = ren r (ev τ.s x) := by
 cases x with
 | tmp t => exact (h.s t).1 fun q hq => hs q (Zls hx q hq)
 | const v => exact (ZF1 v).symm
 | global g => simp [ev, ren]
 | func f => simp [ev, ren, Zas]
theorem Zdm (h : RG r l outs env τ σ) (hs : ZhB τ.s c) {op : Op} (hx : op.operands.toList.all (chk env c) = true) : ∀ x ∈ op.operands, ev σ.s x = ren r (ev τ.s x) :=
 fun x hm => Zgr h hs (List.all_eq_true.1 hx x (by simpa using hm))
theorem ZvX (hT : TOk P T) (h : RG r l outs env τ σ) (hs : ZhB τ.s c) (hg : ∀ b, g = some b → b = true) {op : Op} (hx : ZcH env c op = true) {K : AV → AT → Prop} (hp : tV T τ.H op (ev τ.s) g a K) :
  vOp P σ.H op (ev σ.s) (KR r K) := by
 unfold ZcH at hx
 split at hx
 ·rename_i d x y
  simp only [Bool.and_eq_true] at hx
  obtain ⟨⟨h1, h2⟩, h3⟩ := hx
  have hp' := hp
  simp only [tV] at hp'
  split at hp'
  ·rename_i t ht
   have h0 := Zgr h hs h1
   refine Zf8 (T := T) (H := τ.H) (g := g) (a := a) ht h0 (fun e => Zgr h (c := (d, true) :: c) ?_ h2) (fun e => Zgr h (c := (d, false) :: c) ?_ h3) hp
   all_goals
    subst e
    intro q hq
    rcases List.mem_cons.1 hq with rfl | hq
    ·exact ht
    ·exact hs q hq
  ·exact hp'.elim
 ·exact Zth hT h.h hg (Zdm h hs hx) hp
theorem ZfU (h : RG r l outs env τ σ) (hs : ZhB τ.s c) (hg : ∀ b, g = some b → b = true) {cl : Call} {f : Operand} (hc : cl.callee = .value f) (hx : ZcH env c (.call cl) = true) {K : AV → AT → Prop}
  (hp : Ztu P l r τ.H (ev τ.s f) (cl.args.toList.map (ev τ.s)) g a K) :
  ∃ i first caps x a', ev σ.s f = .fn (.func i) first caps ∧ Zcw P i (l + 1) (first ++ cl.args.toList.map (ev σ.s) ++ caps) σ.H (fun y H' => y = ren r x ∧ H' = σ.H) ∧ K x a' := by
 have hx : (Op.call cl).operands.toList.all (chk env c) = true := hx
 have hf := Zdm h hs hx f (by simp [Op.operands, Call.operands, hc])
 have ha : cl.args.toList.map (ev σ.s) = Zas r (cl.args.toList.map (ev τ.s)) := ZkK fun x hm => Zdm h hs hx x (by simp only [Op.operands, Call.operands, hc, Array.mem_append]; exact .inr (by simpa using hm))
 have hb : ∀ ks : List Key, ∀ p ∈ ks.map fun k => (k, τ.H k), p.2.live = true → σ.H (r.κ p.1) = ZbG r p.1 p.2 := fun ks p hp hl => by
  obtain ⟨k, hk, rfl⟩ := List.mem_map.1 hp
  exact h.h k hl
 unfold Ztu at hp
 split at hp
 ·rename_i i first caps x ks a' he
  have h1 : Zie _ _ _ _ _ _ _ := Zay hg hp.1
  refine ⟨i, Zas r first, Zas r caps, x, a', by rw [hf, he]; simp [ren], ?_, hp.2⟩
  rw [ha, ← ZcP, ← ZcP]
  exact h1 σ.H (hb ks) h.o
 ·rename_i i xs ys x ks a' he
  obtain ⟨f', first, caps, h2, h3⟩ : ZnO _ _ _ _ _ _ _ := Zay hg hp.1
  refine ⟨f', first, caps, x, a', by rw [hf, he]; simp [ren, h2], ?_, hp.2⟩
  rw [ha]
  exact h3 σ.H (hb ks) h.o
 ·exact hp.elim
theorem RG.put (h : RG r l outs env τ σ) {e : Nat} {ch : Zde} (hf : fresh e env = true) (hn : Zq6 e ch = true) {v : AV} {y : AV} (hy : ZhB τ.s ch → y = ren r v) (hno : ¬ ZhB τ.s ch → y = .tup []) :
  RG r l outs ((e, ch) :: env) ⟨upd τ.s e v, τ.H⟩ ⟨upd σ.s e y, σ.H⟩ := by
 refine ⟨fun j => ?_, h.h, h.g, h.go, h.k, h.o⟩
 simp only
 rw [ZkG]
 by_cases hj : j = e
 ·subst hj
  rw [if_pos rfl, Zmg hn]
  simp only [upd, if_true]
  exact ⟨hy, hno⟩
 ·rw [if_neg hj, Zmg (Zld hf j)]
  simp only [upd, if_neg hj]
  exact h.s j
end
end Go.Eng
