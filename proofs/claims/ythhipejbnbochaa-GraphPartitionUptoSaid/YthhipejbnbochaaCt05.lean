import Derived.Test.YthhipejbnbochaaCt04
import Derived.Test.YthhipejbnbochaaCt00
namespace Go.Eng
set_option linter.all false
open Go Go.RowKit
structure TI where
 agg : Bool := false
 kin : Nat := 0
 siz : Nat := 1
 elm : Option (Nat × Nat) := none
 fld : List (Nat × Nat × Bool) := []
 zer : Option (List AV) := none
 eqt : Option (List Nat) := none
 str : Bool := false
 ik : Option IntKind := none
 byt : Option Nat := none
 mp : Option (Bool × List D) := none
def AV.flat : AV → Bool
 | .d _ | .e0 | .p _ | .iptr _ _ => true
 | _ => false
structure TIok (P : Program) (t : TypeId) (i : TI) : Prop where
 agg : Zhz P t = some i.agg
 kin : kin P t = i.kin
 siz : P.cellsOf t = i.siz
 elm : ∀ e, i.elm = some e → Go.Eng.elm P t = some e
 fld : ∀ (j : Nat) (x : Nat × Nat × Bool), i.fld[j]? = some x → Go.Eng.fld P t j = some (x.1, x.2.1) ∧ ZuB P t j = some x
 zer : ∀ z, i.zer = some z → Go.Eng.zer P t = some z
 eqt : ∀ z, i.eqt = some z → eqT P t = some z
 str : i.str = true → ZwS P t = true
 ik : ∀ z, i.ik = some z → P.underlying t = some (.int z)
 byt : ∀ z, i.byt = some z → P.bytesOf t ≤ z ∧ P.bytesOf t ≠ 0
 flt : ∀ z, i.zer = some z → z.all AV.flat = true
 mp : ∀ z, i.mp = some z → Zqh P t = some z
def TOk (P : Program) (T : Nat → Option TI) : Prop := ∀ t i, T t = some i → TIok P t i
inductive AT where
 | nil
 | go (r : AT)
 | av (x : AV) (r : AT)
 | cs (c : List AV) (r : AT)
 | ds (e : List D) (r : AT)
 | num (n : Int) (r : AT)
 | nat (n : Nat) (r : AT)
 | call (x : AV) (ks : List Key) (r : AT)
 | callH (x : AV) (ks : List Key) (hb : List (Key × List AV)) (r : AT)
 | br (a b : AT)
 | frz (d : Nat) (js : List (Nat × List (List D))) (cs : List (Key × Nat × List (List D))) (r : AT)
 | adc (k : Key) (i d : Nat) (e : TypeId) (sz : Nat) (r : AT)
 | mv (d j : Nat) (r : AT)
 | ads (j d : Nat) (e : TypeId) (sz : Nat) (r : AT)
 | trim (k : Key) (c : List AV) (r : AT)
 | reb (j d m : Nat) (c : List AV) (r : AT)
 | sep (r : AT)
 | hard (x : AV) (ks : List Key) (hb : List (Key × Blk)) (fr : List Key) (r : AT)
 | ents (es : List (List D)) (r : AT)
 | all (a : AT) (f : Nat → AT)
 | fzm (d : Nat) (js : List Nat) (r : AT)
 | fzb (d : Nat) (js : List Nat) (r : AT)
 | rnm (d d' e i : Nat) (r : AT)
structure Ren where
 κ : Key → Key
 γ : Key → Nat
 θ : Nat → AV
 H0 : Hp
 no : Key → Prop
mutual
def ren (r : Ren) : AV → AV
 | .ref k g off n => .ref (r.κ k) (r.γ k + g) off n
 | .ptr k g off => .ptr (r.κ k) (r.γ k + g) off
 | .mp k g => .mp (r.κ k) (r.γ k + g)
 | .fn f xs ys => match f with
  | .yield i => r.θ i
  | f => .fn f (Zak r xs) (Zak r ys)
 | .agg xs => .agg (Zak r xs)
 | .tup xs => .tup (Zak r xs)
 | .top => .top
 | .d x => .d x
 | .e0 => .e0
 | .p x => .p x
 | .iptr cs off => .iptr cs off
def Zak (r : Ren) : List AV → List AV
 | [] => []
 | x :: xs => ren r x :: Zak r xs
end
def ZaL (r : Ren) (k : Key) (b : Blk) : Blk := ⟨r.γ k + b.g, true, b.e, b.sz, Zak r b.cells⟩
theorem ZbO {r : Ren} (xs : List AV) : Zak r xs = xs.map (ren r) := by
 induction xs with
 | nil => simp [Zak]
 | cons x xs ih => simp [Zak, ih]
theorem Zaz {r : Ren} (xs : List AV) : (Zak r xs).length = xs.length := by rw [ZbO, Yk]
theorem ZbJ {r : Ren} (xs ys : List AV) : Zak r (xs ++ ys) = Zak r xs ++ Zak r ys := by simp [ZbO]
theorem ZaX {r : Ren} (xs : List AV) (n : Nat) : (Zak r xs).drop n = Zak r (xs.drop n) := by simp [ZbO]
theorem Za6 {r : Ren} (xs : List AV) (n : Nat) : (Zak r xs).take n = Zak r (xs.take n) := by simp [ZbO]
theorem ZcE {r : Ren} (xs : List AV) (n : Nat) : (Zak r xs)[n]? = (xs[n]?).map (ren r) := by simp [ZbO]
theorem ZfC {r : Ren} (xs : List D) : Zak r (xs.map .d) = xs.map .d := by
 induction xs with
 | nil => simp [Zak]
 | cons x xs ih => simp only [YR, Zak, ren, ih]
theorem ZoX {r : Ren} {xs : List AV} (h : xs ≠ []) : Zak r xs ≠ [] := by cases xs <;> simp_all [Zak]
def Zhx (r : Ren) (H H' : Hp) : Prop := ∀ k, (H k).live = true → H' (r.κ k) = ZaL r k (H k)
def nth {α : Type} : List α → Nat → Option α
 | [], _ => none
 | x :: _, 0 => some x
 | _ :: xs, i + 1 => nth xs i
theorem Za0 {α : Type} : ∀ (xs : List α) (i : Nat), nth xs i = xs[i]?
 | [], i => by simp [nth]
 | x :: xs, 0 => by simp [nth]
 | x :: xs, i + 1 => by simp [nth, Za0 xs i]
def Zhk {α : Type} : Nat → List α → Option (List α)
 | 0, _ => some []
 | n + 1, x :: xs => match Zhk n xs with | some r => some (x :: r) | none => none
 | _ + 1, [] => none
theorem Zgw {α : Type} : ∀ (n : Nat) (xs r : List α), Zhk n xs = some r → xs.take n = r ∧ n ≤ xs.length
 | 0, xs, r, h => by simp only [Zhk, Ye] at h; subst h; simp
 | n + 1, [], r, h => by simp [Zhk] at h
 | n + 1, x :: xs, r, h => by
  simp only [Zhk] at h
  split at h
  ·rename_i q hq
   cases h
   obtain ⟨h1, h2⟩ := Zgw n xs q hq
   grind
  ·cases h
def Zbl (H : Hp) (k : Key) (g : Nat) : Bool := Nat.beq g (H k).g && (H k).live
theorem ZaV {H : Hp} {k : Key} {g : Nat} (h : Zbl H k g = true) : g = (H k).g ∧ (H k).live = true := by
 simp only [Zbl, Yd] at h
 exact ⟨Ya h.1, h.2⟩
theorem Zhx.at {r : Ren} {H H' : Hp} (h : Zhx r H H') {k : Key} {g : Nat} (hl : Zbl H k g = true) : r.γ k + g = (H' (r.κ k)).g ∧ (H' (r.κ k)).live = true ∧ (H' (r.κ k)).e = (H k).e ∧ (H' (r.κ k)).sz = (H k).sz ∧ (H' (r.κ k)).cells = Zak r (H k).cells := by
 obtain ⟨h1, h2⟩ := ZaV hl
 rw [h k h2]
 subst h1
 exact ⟨rfl, rfl, rfl, rfl, rfl⟩
def sdP (g : Option Bool) (S : Prop) : Prop :=
 match g with
 | none => S
 | some b => b = true → S
theorem Zat {g : Option Bool} {S : Prop} (hg : ∀ b, g = some b → b = true) (h : sdP g S) : S := by
 unfold sdP at h
 grind
def Zcf (cs : List AV) (off : Nat) (c : List AV) : Prop := (cs.drop off).take c.length = c
def Zqe (es : List (List D)) (n : Int) (e : List D) : Prop := 0 ≤ n ∧ es[n.toNat]? = some e
def Zt4 (n : Int) (len off sz o : Nat) : Prop := 0 ≤ n ∧ n < len ∧ (off + n.toNat) * sz = o
def ZyB (s : ByteArray) (n b : Int) : Prop := 0 ≤ n ∧ ∃ x : UInt8, s.data.toList[n.toNat]? = some x ∧ b = x.toNat
def Zb2 (k : IntKind) (a r : Int) : Prop := k.wrap a = r
def EqI (a b : Int) : Prop := a = b
def NeI (a b : Int) : Prop := a ≠ b
def LeI (a b : Int) : Prop := a ≤ b
def Zx4 (a b : ByteArray) : Prop := a.size + b.size ≤ 9223372036854775807
def SlB (dflt : Nat) (o : Option AV) (l : Nat) : Prop :=
 match o with
 | none => l = dflt
 | some (.d (.int _ n)) => n = l
 | _ => False
def SlS (l h n : Nat) : Prop := l ≤ h ∧ h ≤ n
def SlD (es : List (List D)) (sz l h : Nat) (es' : List (List D)) : Prop := (∀ e, e ∈ es → e.length = sz) ∧ (es.drop l).take (h - l) = es'
def SlR (off l h o n : Nat) : Prop := off + l = o ∧ h - l = n
def ZsI (t : Bool) (a b : AV) : AV :=
 match a, b with
 | .d (.bool x), .d (.bool y) => .d (.bool (cond t x y))
 | a, b => cond t a b
theorem ZpE (t : Bool) (a b : AV) : ZsI t a b = if t then a else b := by
 unfold ZsI
 grind
def Zkz (i : TI) (H : Hp) (x : AV) (g : Option Bool) (a : AT) (K : AV → AT → Prop) : Prop :=
 match x with
 | .iptr cs off => match i.agg with
  | true => match Nat.ble 1 i.siz, Zhk i.siz (cs.drop off) with | true, some c => K (.agg (c.map .d)) a | _, _ => False
  | false => match nth cs off with | some c => K (.d c) a | none => False
 | .ptr k q off => match Zbl H k q with
  | true => match a with
   | .go r => (match i.agg with
    | true => match Nat.ble 1 i.siz, Zhk i.siz ((H k).cells.drop off) with | true, some c => K (.agg c) r | _, _ => False
    | false => match nth (H k).cells off with | some c => K c r | none => False)
   | .cs c r => (match i.agg with
    | true => match Nat.ble 1 i.siz, Nat.beq c.length i.siz with | true, true => sdP g (Zcf (H k).cells off c) ∧ K (.agg c) r | _, _ => False
    | false => match c with | [x] => sdP g (Zcf (H k).cells off [x]) ∧ K x r | _ => False)
   | _ => False
  | false => False
 | _ => False
def ZcZ (i : TI) (H : Hp) (f : Nat) (x : AV) (a : AT) (K : AV → AT → Prop) : Prop :=
 match nth i.fld f with
 | some (o, n, _) => match Nat.ble 1 n with
  | true => (match x with
   | .iptr cs off => K (.iptr cs (off + o)) a
   | .ptr k q off => match Zbl H k q with | true => K (.ptr k q (off + o)) a | false => False
   | _ => False)
  | false => False
 | none => False
def ZiK (i : TI) (f : Nat) (x : AV) (a : AT) (K : AV → AT → Prop) : Prop :=
 match nth i.fld f, x with
 | some (o, n, true), .agg cs => (match Nat.ble 1 n with | true => K (.agg ((cs.drop o).take n)) a | false => False)
 | some (o, _, false), .agg cs => (match nth cs o with | some c => K c a | none => False)
 | _, _ => False
def Zdb (i : TI) (H : Hp) (x j : AV) (g : Option Bool) (a : AT) (K : AV → AT → Prop) : Prop :=
 match i.elm, j with
 | some (_, sz), .d (.int _ n) => (match x, a with
  | .d (.list es), .ds e r => (match Nat.beq e.length sz, Nat.ble 1 sz with | true, true => sdP g (Zqe es n e) ∧ K (.iptr e 0) r | _, _ => False)
  | .ref k q off len, .nat o r => (match Zbl H k q, Nat.beq (H k).sz sz, Nat.ble 1 sz with | true, true, true => sdP g (Zt4 n len off sz o) ∧ K (.ptr k q o) r | _, _, _ => False)
  | _, _ => False)
 | _, _ => False
def Zjy (i : TI) (x j : AV) (g : Option Bool) (a : AT) (K : AV → AT → Prop) : Prop :=
 match x, j, a with
 | .d (.str s), .d (.int _ n), .num b r => (match Nat.beq i.kin 2 with | true => sdP g (ZyB s n b) ∧ K (.d (.int .u8 b)) r | false => False)
 | _, _, _ => False
def ZwX (op : BinOp) (k : IntKind) (x y : Int) (g : Option Bool) (a : AT) (K : AV → AT → Prop) : Prop :=
 match op with
 | .eql => K (.d (.bool (decide (x = y)))) a
 | .neq => K (.d (.bool (!decide (x = y)))) a
 | .lss => K (.d (.bool (decide (x < y)))) a
 | .leq => K (.d (.bool (decide (x ≤ y)))) a
 | .gtr => K (.d (.bool (decide (y < x)))) a
 | .geq => K (.d (.bool (decide (y ≤ x)))) a
 | .add => match a with | .num n r => sdP g (Zb2 k (x + y) n) ∧ K (.d (.int k n)) r | _ => False
 | .sub => match a with | .num n r => sdP g (Zb2 k (x - y) n) ∧ K (.d (.int k n)) r | _ => False
 | .mul => match a with | .num n r => sdP g (Zb2 k (x * y) n) ∧ K (.d (.int k n)) r | _ => False
 | .quo => match a with | .num n r => sdP g (NeI y 0) ∧ sdP g (Zb2 k (x.tdiv y) n) ∧ K (.d (.int k n)) r | _ => False
 | .rem => match a with | .num n r => sdP g (NeI y 0) ∧ sdP g (EqI (x.tmod y) n) ∧ K (.d (.int k n)) r | _ => False
 | .shr => match a with | .num n r => sdP g (LeI 0 y) ∧ sdP g (EqI (x.fdiv (2 ^ (min y.toNat k.bits))) n) ∧ K (.d (.int k n)) r | _ => False
 | .shl => match a with | .num n r => sdP g (LeI 0 y) ∧ sdP g (Zb2 k (x * 2 ^ (min y.toNat k.bits)) n) ∧ K (.d (.int k n)) r | _ => False
 | _ => False
def ZwY (op : BinOp) (x y : ByteArray) (g : Option Bool) (a : AT) (K : AV → AT → Prop) : Prop :=
 match op with
 | .add => sdP g (Zx4 x y) ∧ K (.d (.str (x ++ y))) a
 | .eql => K (.d (.bool (decide (x = y)))) a
 | .neq => K (.d (.bool (!decide (x = y)))) a
 | .lss => K (.d (.bool (sLt x y))) a
 | .leq => K (.d (.bool (sLt x y || decide (x = y)))) a
 | .gtr => K (.d (.bool (!(sLt x y || decide (x = y))))) a
 | .geq => K (.d (.bool (!sLt x y))) a
 | _ => False
def Zt9 (H : Hp) (neg : Bool) (x : AV) (a : AT) (K : AV → AT → Prop) : Prop :=
 match x with
 | .e0 => ∀ b, K (.d (.bool b)) a
 | .d (.list es) => ∀ b, (es ≠ [] → b = neg) → K (.d (.bool b)) a
 | .ref k q _ n => (match Zbl H k q with | true => ∀ b, (n ≠ 0 → b = neg) → K (.d (.bool b)) a | false => False)
 | _ => False
def ikB : IntKind → IntKind → Bool
 | .i8, .i8 | .i16, .i16 | .i32, .i32 | .i64, .i64 | .u8, .u8 | .u16, .u16 | .u32, .u32 | .u64, .u64 => true
 | _, _ => false
theorem Zv9 {a b : IntKind} (h : ikB a b = true) : a = b := by cases a <;> cases b <;> first | rfl | cases h
def Zxd (i : TI) (H : Hp) (op : BinOp) (ny : Bool) (x y : AV) (g : Option Bool) (a : AT) (K : AV → AT → Prop) : Prop :=
 match x, y with
 | .d (.int k m), .d (.int k' n) => (match ikB k k' with | true => ZwX op k m n g a K | false => False)
 | .d (.str m), .d (.str n) => ZwY op m n g a K
 | .d (.bool m), .d (.bool n) => (match Nat.beq i.kin 1 with
  | true => (match op with
   | .eql => K (.d (.bool (m == n))) a
   | .neq => K (.d (.bool (!(m == n)))) a
   | _ => False)
  | false => False)
 | .agg xs, .agg ys => (match i.eqt with
  | some ks => (match ZdM ks xs ys with
   | some b => (match op with
    | .eql => K (.d (.bool b)) a
    | .neq => K (.d (.bool (!b))) a
    | _ => False)
   | none => False)
  | none => False)
 | x, .e0 => (match ny, Nat.beq i.kin 4 with
  | true, true => (match op with
   | .eql => Zt9 H false x a K
   | .neq => Zt9 H true x a K
   | _ => False)
  | _, _ => False)
 | _, _ => False
def tUn (op : UnOp) (x : AV) (g : Option Bool) (a : AT) (K : AV → AT → Prop) : Prop :=
 match op, x with
 | .not, .d (.bool b) => K (.d (.bool (!b))) a
 | .neg, .d (.int k n) => (match a with | .num m r => sdP g (Zb2 k (0 - n) m) ∧ K (.d (.int k m)) r | _ => False)
 | _, _ => False
def ZpP (s d : TI) (x : AV) (g : Option Bool) (a : AT) (K : AV → AT → Prop) : Prop :=
 match x with
 | .d (.int _ n) => (match s.ik, d.ik, a with | some _, some k, .num m r => sdP g (Zb2 k n m) ∧ K (.d (.int k m)) r | _, _, _ => False)
 | .d (.str s') => (match Nat.beq s.kin 2, Nat.beq d.kin 2 with | true, true => K (.d (.str s')) a | _, _ => False)
 | _ => False
def ZiB (i : TI) (H : Hp) (x : AV) (lo hi : Option AV) (mx : Bool) (g : Option Bool) (a : AT) (K : AV → AT → Prop) : Prop :=
 match mx, a with
 | false, .nat l (.nat h r) => (match x with
  | .d (.str s) => (match Nat.beq i.kin 2 with | true => sdP g (SlB 0 lo l) ∧ sdP g (SlB s.size hi h) ∧ sdP g (SlS l h s.size) ∧ K (.d (.str (s.extract l h))) r | false => False)
  | .d (.list es) => (match i.elm, r with
   | some (_, sz), .av (.d (.list es')) r => (match Nat.ble 1 sz with
    | true => sdP g (SlB 0 lo l) ∧ sdP g (SlB es.length hi h) ∧ sdP g (SlS l h es.length) ∧ sdP g (SlD es sz l h es') ∧ K (.d (.list es')) r
    | false => False)
   | _, _ => False)
  | .ref k q off n => (match i.elm, r, Zbl H k q with
   | some (_, sz), .nat o' (.nat n' r), true => (match Nat.ble 1 sz, Nat.beq (H k).sz sz with
    | true, true => sdP g (SlB 0 lo l) ∧ sdP g (SlB n hi h) ∧ sdP g (SlS l h n) ∧ sdP g (SlR off l h o' n') ∧ K (.ref k q o' n') r
    | _, _ => False)
   | _, _, _ => False)
  | _ => False)
 | _, _ => False
def Zw4 (i : TI) (H : Hp) (x : AV) (g : Option Bool) (a : AT) (K : AV → AT → Prop) : Prop :=
 match x, a with
 | .d (.str s), .num n r => (match Nat.beq i.kin 2 with | true => sdP g (EqI s.size n) ∧ K (.d (.int .i64 n)) r | false => False)
 | .d (.list es), .num n r => (match Nat.beq i.kin 4 with | true => sdP g (EqI es.length n) ∧ K (.d (.int .i64 n)) r | false => False)
 | .e0, .num n r => (match Nat.beq i.kin 4 with | true => sdP g (EqI 0 n) ∧ K (.d (.int .i64 n)) r | false => False)
 | .ref k q _ m, .num n r => (match Nat.beq i.kin 4, Zbl H k q with | true, true => sdP g (EqI m n) ∧ K (.d (.int .i64 n)) r | _, _ => False)
 | _, _ => False
def ZlZ (H : Hp) : AV → Option (Bool × List (List D))
 | .d (.map q es) => some (q, es)
 | .mp k g => match Zbl H k g, (H k).e with
  | true, .m q es => some (q, es)
  | _, _ => none
 | _ => none
def bqB : Bool → Bool → Bool
 | true, true => true
 | false, false => true
 | _, _ => false
theorem ZmJ {a b : Bool} (h : bqB a b = true) : a = b := by cases a <;> cases b <;> first | rfl | cases h
def ZjU (es : List (List D)) (s : ByteArray) (z vs : List D) (ok : Bool) : Prop := (Zeh s es).isSome = ok ∧ (Zeh s es).getD z = vs
def ZpT (i : TI) (H : Hp) (x y : AV) (ck : Bool) (g : Option Bool) (a : AT) (K : AV → AT → Prop) : Prop :=
 match i.mp, ZlZ H x, y, a with
 | some (q, z), some (q', es), .d (.str s), .av (.d (.bool ok)) (.ds vs r) => (match bqB q q' with
  | true => sdP g (ZjU es s z vs ok) ∧ K (lkV ck q vs ok) r
  | false => False)
 | _, _, _, _ => False
def plc (i : TI) (f : Nat) : Option (Nat × Nat) := match nth i.fld f with | some (o, n, _) => some (o, n) | none => none
def ZlF (i : TI) (cells : List AV) : List (Nat × AV) → Option (List AV)
 | [] => some cells
 | (f, v) :: rest => match plc i f, ZaW v with
  | some (off, size), some vs => match Nat.beq vs.length size, Nat.ble (off + vs.length) cells.length with
   | true, true => ZlF i (cells.take off ++ vs ++ cells.drop (off + vs.length)) rest
   | _, _ => none
  | _, _ => none
def ZiI (i : TI) (parts : List (Nat × AV)) (a : AT) (K : AV → AT → Prop) : Prop :=
 match i.str, i.zer with
 | true, some z => (match ZlF i z parts with | some cs => K (.agg cs) a | none => False)
 | _, _ => False
def ZqD : AV → Bool
 | .fn (.yield _) _ _ => false
 | _ => true
def tV (T : Nat → Option TI) (H : Hp) (op : Op) (ρ : Operand → AV) (g : Option Bool) (a : AT) (K : AV → AT → Prop) : Prop :=
 match op with
 | .move x => K (ρ x) a
 | .assign x => K (ρ x) a
 | .pick c x y => match ρ c with | .d (.bool t) => K (ZsI t (ρ x) (ρ y)) a | _ => False
 | .load t x => match T t with | some i => Zkz i H (ρ x) g a K | none => False
 | .fieldAddr t x f => match T t with | some i => ZcZ i H f (ρ x) a K | none => False
 | .field t x f => match T t with | some i => ZiK i f (ρ x) a K | none => False
 | .indexAddr t x j => match T t with | some i => Zdb i H (ρ x) (ρ j) g a K | none => False
 | .index t x j => match T t with | some i => Zjy i (ρ x) (ρ j) g a K | none => False
 | .extract x j => match ρ x with | .tup vs => (match nth vs j with | some y => K y a | none => False) | _ => False
 | .binOp o t x y _ => match T t with | some i => Zxd i H o (Zd2 y) (ρ x) (ρ y) g a K | none => False
 | .unOp o _ x => tUn o (ρ x) g a K
 | .nilCheck x => match ρ x with | .ptr k q off => (match Zbl H k q with | true => K (.ptr k q off) a | false => False) | .iptr cs off => K (.iptr cs off) a | _ => False
 | .convert s d x => match T s, T d with | some i, some j => ZpP i j (ρ x) g a K | _, _ => False
 | .makeFunc fn first caps => match fn with | .yield _ => False | fn => K (.fn fn (first.toList.map ρ) (caps.toList.map ρ)) a
 | .slice t x lo hi mx => match T t with | some i => ZiB i H (ρ x) (lo.map ρ) (hi.map ρ) mx.isSome g a K | none => False
 | .lookup t x y ck => match T t with | some i => ZpT i H (ρ x) (ρ y) ck g a K | none => False
 | .build t parts => match T t, parts.toList.all (fun p => ZqD (ρ p.2)) with | some i, true => ZiI i (parts.toList.map fun p => (p.1, ρ p.2)) a K | _, _ => False
 | .call c => match c.callee, c.args.toList, c.argTypes.toList with
  | .builtin .len, [x], [t] => match T t with | some i => Zw4 i H (ρ x) g a K | none => False
  | .builtin .min, [x, y], _ => vMM false (ρ x) (ρ y) (fun v => K v a)
  | .builtin .max, [x, y], _ => vMM true (ρ x) (ρ y) (fun v => K v a)
  | .builtin .max, [x, y, z], _ => Zoc true (ρ x) (ρ y) (ρ z) (fun v => K v a)
  | _, _, _ => False
 | _ => False
end Go.Eng
namespace Go.Eng
set_option linter.all false
open Go Go.RowKit
section
variable {P : Program} {T : Nat → Option TI} {r : Ren} {H H' : Hp} {g : Option Bool} {a : AT} {K : AV → AT → Prop}
def KR (r : Ren) (K : AV → AT → Prop) (y : AV) : Prop := ∃ v a', y = ren r v ∧ K v a'
theorem KR.mk {v : AV} {a : AT} (h : K v a) : KR r K (ren r v) := ⟨v, a, rfl, h⟩
theorem KR.mk' {v y : AV} {a : AT} (h : K v a) (e : y = ren r v) : KR r K y := ⟨v, a, e, h⟩
theorem Zdx {t : TypeId} {i : TI} (hi : TIok P t i) (hH : Zhx r H H') (hg : ∀ b, g = some b → b = true) {x : AV} (h : Zkz i H x g a K) : ZdD P H' t (ren r x) (KR r K) := by
 unfold Zkz at h
 cases x <;> simp only at h <;> try exact h.elim
 case iptr cs off =>
  simp only [ren, ZdD, hi.agg, hi.siz]
  split at h
  ·rename_i he
   rw [he]
   split at h
   ·rename_i c h1 h2
    obtain ⟨e1, e2⟩ := Zgw _ _ _ h2
    have h1 := Yf h1
    rw [Yah] at e2
    exact ⟨by omega, by omega, .mk' h (by rw [e1, ren, ZfC])⟩
   grind
  ·rename_i he
   rw [he]
   rw [Za0] at h
   simp only
   split at h
   ·rename_i c hc; simp only [hc]; exact .mk' h rfl
   grind
 case ptr k q off =>
  simp only [ren, ZdD, hi.agg, hi.siz]
  split at h
  ·rename_i hl
   obtain ⟨g1, g2, g3, g4, g5⟩ := hH.at hl
   refine ⟨g1, g2, ?_⟩
   rw [g5]
   split at h
   ·split at h
    ·rename_i he
     rw [he]
     split at h
     ·rename_i c h1 h2
      obtain ⟨e1, e2⟩ := Zgw _ _ _ h2
      have h1 := Yf h1
      rw [Yah] at e2
      exact ⟨by omega, by rw [Zaz]; omega, .mk' h (by rw [ren, ZaX, Za6, e1])⟩
     grind
    ·rename_i he
     rw [he]
     rw [Za0] at h
     split at h
     ·rename_i c hc; simp only [ZcE, hc, YG]; exact .mk' h rfl
     grind
   ·split at h
    ·rename_i he
     rw [he]
     split at h
     ·rename_i c r' h1 h2
      have h1 := Yf h1
      have h2 := Ya h2
      have h3 : Zcf _ _ _ := Zat hg h.1
      unfold Zcf at h3
      rw [h2] at h3
      have h4 := congrArg List.length h3
      rw [YX, Yah] at h4
      exact ⟨by omega, by rw [Zaz]; omega, .mk' h.2 (by rw [ren, ZaX, Za6, h3])⟩
     grind
    ·rename_i he
     rw [he]
     split at h
     ·rename_i x
      have h3 : Zcf _ _ _ := Zat hg h.1
      unfold Zcf at h3
      have e : (H k).cells[off]? = some x := by
       have := congrArg (fun l => l[0]?) h3
       grind
      simp only [ZcE, e, YG]
      exact .mk' h.2 rfl
     grind
   grind
  ·grind
theorem ZjD {t : TypeId} {i : TI} (hi : TIok P t i) {f : Nat} {x : Nat × Nat × Bool} (h : nth i.fld f = some x) : fld P t f = some (x.1, x.2.1) ∧ ZuB P t f = some x := by
 rw [Za0] at h; exact hi.fld f x h
theorem Zeb {t : TypeId} {i : TI} (hi : TIok P t i) (hH : Zhx r H H') {f : Nat} {x : AV} (h : ZcZ i H f x a K) : ZaK P H' t f (ren r x) (KR r K) := by
 unfold ZcZ at h
 split at h
 ·rename_i o n b hf
  have e := (ZjD hi hf).1
  split at h
  ·rename_i h1
   have h1 := Yf h1
   unfold ZaK
   rw [e]
   split at h
   ·simp only [ren]; exact ⟨by omega, .mk' h rfl⟩
   ·split at h
    ·rename_i hl
     obtain ⟨g1, g2, _⟩ := hH.at hl
     simp only [ren]; exact ⟨by omega, g1, g2, .mk' h rfl⟩
    grind
   grind
  grind
 grind
theorem Zg3 {t : TypeId} {i : TI} (hi : TIok P t i) {f : Nat} {x : AV} (h : ZiK i f x a K) : Zcw P t f (ren r x) (KR r K) := by
 unfold ZiK at h
 rw [Zl5]
 split at h
 ·rename_i o n cs hf
  rw [(ZjD hi hf).2]
  split at h
  ·rename_i h1
   have h1 := Yf h1
   simp only [ren, Zwc]
   exact ⟨by omega, .mk' h (by rw [ren, ZaX, Za6])⟩
  grind
 ·rename_i o n cs hf
  rw [(ZjD hi hf).2]
  rw [Za0] at h
  split at h
  ·rename_i c hc
   simp only [ren, Zwc, ZcE, hc, YG]
   exact .mk' h rfl
  grind
 grind
theorem Zej {t : TypeId} {i : TI} (hi : TIok P t i) (hH : Zhx r H H') (hg : ∀ b, g = some b → b = true) {x j : AV} (h : Zdb i H x j g a K) : ZaG P H' t (ren r x) (ren r j) (KR r K) := by
 unfold Zdb at h
 split at h
 ·rename_i e sz k n he
  have he := hi.elm _ he
  split at h
  ·rename_i es e' q
   split at h
   ·rename_i h1 h2
    have h1 := Ya h1
    have h2 := Yf h2
    obtain ⟨h3, h4⟩ : Zqe _ _ _ := Zat hg h.1
    simp only [ren, ZaG, he]
    refine ⟨h3, ?_⟩
    rw [h4]
    exact ⟨h1, by omega, .mk' h.2 rfl⟩
   grind
  ·rename_i k q off len o r'
   split at h
   ·rename_i hl h1 h2
    have h1 := Ya h1
    have h2 := Yf h2
    obtain ⟨g1, g2, g3, g4, g5⟩ := hH.at hl
    obtain ⟨h3, h4, h5⟩ : Zt4 _ _ _ _ _ := Zat hg h.1
    simp only [ren, ZaG, he]
    exact ⟨h3, h4, g1, g2, by rw [g4, h1], by omega, .mk' h.2 (by rw [ren, h5])⟩
   grind
  grind
 grind
theorem ZgQ {t : TypeId} {i : TI} (hi : TIok P t i) (hg : ∀ b, g = some b → b = true) {x j : AV} (h : Zjy i x j g a K) : ZcJ P t (ren r x) (ren r j) (KR r K) := by
 unfold Zjy at h
 split at h
 ·rename_i s k n b q
  split at h
  ·rename_i h1
   have h1 := Ya h1
   obtain ⟨h3, c, h4, h5⟩ : ZyB _ _ _ := Zat hg h.1
   simp only [ren, ZcJ]
   refine ⟨by rw [hi.kin]; exact h1, h3, ?_⟩
   rw [h4]
   exact .mk' h.2 (by rw [ren, h5])
  grind
 grind
theorem Zj6 {op : BinOp} {k : IntKind} {x y : Int} (hg : ∀ b, g = some b → b = true) (h : ZwX op k x y g a K) : ZmW op k x y (KR r K) := by
 unfold ZwX at h
 cases op <;> simp only at h <;> try exact h.elim
 all_goals simp only [ZmW]
 case eql => exact .mk' h rfl
 case neq => exact .mk' h rfl
 case lss => exact .mk' h rfl
 case leq => exact .mk' h rfl
 case gtr => exact .mk' h rfl
 case geq => exact .mk' h rfl
 case add | sub | mul =>
  split at h
  ·have e : Zb2 _ _ _ := Zat hg h.1
   unfold Zb2 at e
   rw [e]; exact .mk' h.2 rfl
  ·grind
 case quo =>
  split at h
  ·have e : Zb2 _ _ _ := Zat hg h.2.1
   unfold Zb2 at e
   rw [e]; exact ⟨Zat hg h.1, .mk' h.2.2 rfl⟩
  ·grind
 case rem =>
  split at h
  ·have e : EqI _ _ := Zat hg h.2.1
   unfold EqI at e
   rw [e]; exact ⟨Zat hg h.1, .mk' h.2.2 rfl⟩
  ·grind
 case shr =>
  split at h
  ·have e : EqI _ _ := Zat hg h.2.1
   unfold EqI at e
   rw [e]; exact ⟨Zat hg h.1, .mk' h.2.2 rfl⟩
  ·grind
 case shl =>
  split at h
  ·have e : Zb2 _ _ _ := Zat hg h.2.1
   unfold Zb2 at e
   rw [e]; exact ⟨Zat hg h.1, .mk' h.2.2 rfl⟩
  ·grind
theorem ZkM {op : BinOp} {x y : ByteArray} (hg : ∀ b, g = some b → b = true) (h : ZwY op x y g a K) : ZmU op x y (KR r K) := by
 unfold ZwY at h
 cases op <;> simp only at h <;> try exact h.elim
 all_goals simp only [ZmU]
 case add => exact ⟨Zat hg h.1, .mk' h.2 rfl⟩
 all_goals exact .mk' h rfl
theorem ZfG {neg : Bool} {x : AV} (hH : Zhx r H H') (h : Zt9 H neg x a K) : ZhC H' neg (ren r x) (KR r K) := by
 unfold Zt9 at h
 split at h
 ·simp only [ren, ZhC]; exact fun b => .mk' (h b) rfl
 ·rename_i es
  cases es with
  | nil => simp only [ren, ZhC]; exact fun b => .mk' (h b (fun e => absurd rfl e)) rfl
  | cons e es => simp only [ren, ZhC]; exact .mk' (h neg (fun _ => rfl)) rfl
 ·rename_i k q off n
  split at h
  ·rename_i hl
   obtain ⟨g1, g2, _⟩ := hH.at hl
   simp only [ren, ZhC]
   exact ⟨⟨g1, g2⟩, fun hn => .mk' (h neg (fun _ => rfl)) rfl, fun hn b => .mk' (h b (fun e => absurd hn e)) rfl⟩
  grind
 grind
theorem Zhp : ∀ (ks : List Nat) (xs ys : List AV) (b : Bool), ZdM ks xs ys = some b → ZdM ks (Zak r xs) (Zak r ys) = some b
 | [], [], [], b, h => by simpa [Zak] using h
 | k :: ks, x :: xs, y :: ys, b, h => by
  cases x <;> cases y <;> simp only [ZdM] at h <;> try (cases h; done)
  rename_i x y
  simp only [Zak, ren, ZdM]
  split at h
  ·rename_i b1 b2 h1 h2
   simp only [h1, Zhp ks xs ys _ h2]
   exact h
  ·cases h
 | [], [], _ :: _, b, h => by simp [ZdM] at h
 | [], _ :: _, _, b, h => by simp [ZdM] at h
 | _ :: _, [], _, b, h => by simp [ZdM] at h
 | _ :: _, x :: _, [], b, h => by cases x <;> simp [ZdM] at h
theorem Zrv {H : Hp} {op : BinOp} {t : TypeId} {ny : Bool} {x : AV} {K : AV → Prop} : Zfj P H op t ny x .e0 K = (ny = true ∧ kin P t = 4 ∧ match op with | .eql => ZhC H false x K | .neq => ZhC H true x K | _ => False) := by
 unfold Zfj
 grind
theorem ZjX {t : TypeId} {i : TI} (hi : TIok P t i) (hH : Zhx r H H') (hg : ∀ b, g = some b → b = true) {op : BinOp} {ny : Bool} {x y : AV} (h : Zxd i H op ny x y g a K) : Zfj P H' op t ny (ren r x) (ren r y) (KR r K) := by
 unfold Zxd at h
 split at h
 ·split at h
  ·rename_i hk
   simp only [ren, Zfj]
   exact ⟨Zv9 hk, Zj6 hg h⟩
  grind
 ·simp only [ren, Zfj]; exact ZkM hg h
 ·split at h
  ·rename_i hk
   simp only [ren, Zfj]
   refine ⟨by rw [hi.kin]; exact Ya hk, ?_⟩
   split at h
   ·exact .mk' h rfl
   ·exact .mk' h rfl
   grind
  grind
 ·rename_i xs ys
  split at h
  ·rename_i ks hks
   split at h
   ·rename_i b hb
    simp only [ren, Zfj, Zoa, hi.eqt _ hks, Zhp _ _ _ _ hb]
    split at h
    ·exact .mk' h rfl
    ·exact .mk' h rfl
    grind
   grind
  grind
 ·rw [show ren r .e0 = .e0 from by simp [ren], Zrv]
  split at h
  ·rename_i h5 h6
   refine ⟨rfl, by rw [hi.kin]; exact Ya h6, ?_⟩
   split at h
   ·exact ZfG hH h
   ·exact ZfG hH h
   grind
  grind
 grind
theorem Zn8 {op : UnOp} {x : AV} (hg : ∀ b, g = some b → b = true) (h : tUn op x g a K) : vUn op (ren r x) (KR r K) := by
 unfold tUn at h
 split at h
 ·simp only [ren, vUn]; exact .mk' h rfl
 ·split at h
  ·have e : Zb2 _ _ _ := Zat hg h.1
   unfold Zb2 at e
   simp only [ren, vUn]
   rw [e]; exact .mk' h.2 rfl
  grind
 grind
theorem ZhR {s d : TypeId} {i j : TI} (hi : TIok P s i) (hj : TIok P d j) {x : AV} (hg : ∀ b, g = some b → b = true) (h : ZpP i j x g a K) : ZdV P s d (ren r x) (KR r K) := by
 unfold ZpP at h
 split at h
 ·split at h
  ·rename_i k1 n a' k' k'' m r' e1 e2
   have e : Zb2 _ _ _ := Zat hg h.1
   unfold Zb2 at e
   simp only [ren, ZdV, hi.ik _ e1, hj.ik _ e2]
   rw [e]; exact .mk' h.2 rfl
  grind
 ·split at h
  ·rename_i e1 e2
   simp only [ren, ZdV, ZcO (by rw [hi.kin]; exact Ya e1), ZcO (by rw [hj.kin]; exact Ya e2)]
   exact .mk' h rfl
  grind
 grind
theorem ZfU {d l : Nat} {o o' : Option AV} (h : SlB d o l) (ho : o' = o.map (ren r)) : bnd d o' = some l := by
 subst ho
 unfold SlB at h
 split at h
 ·simp [bnd, h]
 ·subst h
  simp [bnd, ren]
 grind
theorem ZgW {t : TypeId} {i : TI} (hi : TIok P t i) (hH : Zhx r H H') (hg : ∀ b, g = some b → b = true) {x : AV} {lo hi' : Option AV} {mx : Bool} (h : ZiB i H x lo hi' mx g a K) :
  Zb7 P H' t (ren r x) (lo.map (ren r)) (hi'.map (ren r)) mx (KR r K) := by
 unfold ZiB at h
 split at h
 ·split at h
  ·split at h
   ·rename_i hk
    obtain ⟨h1, h2, h3, h4⟩ := h
    have b1 := ZfU (r := r) (Zat hg h1) rfl
    have b2 := ZfU (r := r) (Zat hg h2) rfl
    have b3 : SlS _ _ _ := Zat hg h3
    simp only [ren, Zb7, b1, b2]
    exact ⟨by rw [hi.kin]; exact Ya hk, trivial, b3.1, b3.2, .mk' h4 rfl⟩
   grind
  ·split at h
   ·rename_i e sz es' r' he
    split at h
    ·rename_i h0
     have h0 := Yf h0
     obtain ⟨h1, h2, h3, h4, h5⟩ := h
     have b1 := ZfU (r := r) (Zat hg h1) rfl
     have b2 := ZfU (r := r) (Zat hg h2) rfl
     have b3 : SlS _ _ _ := Zat hg h3
     have b4 : SlD _ _ _ _ _ := Zat hg h4
     simp only [ren, Zb7, b1, b2, hi.elm _ he]
     exact ⟨trivial, by omega, b4.1, b3.1, b3.2, .mk' h5 (by rw [ren, b4.2])⟩
    grind
   grind
  ·split at h
   ·rename_i e sz o' n' r' he hl
    split at h
    ·rename_i h0 h00
     have h0 := Yf h0
     obtain ⟨g1, g2, g3, g4, g5⟩ := hH.at hl
     obtain ⟨h1, h2, h3, h4, h5⟩ := h
     have b1 := ZfU (r := r) (Zat hg h1) rfl
     have b2 := ZfU (r := r) (Zat hg h2) rfl
     have b3 : SlS _ _ _ := Zat hg h3
     have b4 : SlR _ _ _ _ _ := Zat hg h4
     simp only [ren, Zb7, b1, b2, hi.elm _ he]
     exact ⟨trivial, g1, g2, by omega, by rw [g4]; exact Ya h00, b3.1, b3.2, .mk' h5 (by rw [ren, b4.1, b4.2])⟩
    grind
   grind
  grind
 grind
theorem ZjY {t : TypeId} {i : TI} (hi : TIok P t i) (hH : Zhx r H H') (hg : ∀ b, g = some b → b = true) {x : AV} (h : Zw4 i H x g a K) : ZhA P H' t (ren r x) (KR r K) := by
 unfold Zw4 at h
 split at h
 ·split at h
  ·rename_i hk
   have e : EqI _ _ := Zat hg h.1
   unfold EqI at e
   simp only [ren, ZhA, hi.kin]
   exact ⟨Ya hk, .mk' h.2 (by rw [ren, e])⟩
  grind
 ·split at h
  ·rename_i hk
   have e : EqI _ _ := Zat hg h.1
   unfold EqI at e
   simp only [ren, ZhA, hi.kin]
   exact ⟨Ya hk, .mk' h.2 (by rw [ren, e])⟩
  grind
 ·split at h
  ·rename_i hk
   have e : EqI _ _ := Zat hg h.1
   unfold EqI at e
   simp only [ren, ZhA, hi.kin]
   exact ⟨Ya hk, .mk' h.2 (by rw [ren, e])⟩
  grind
 ·split at h
  ·rename_i hk hl
   have e : EqI _ _ := Zat hg h.1
   unfold EqI at e
   obtain ⟨g1, g2, _⟩ := hH.at hl
   simp only [ren, ZhA, hi.kin]
   exact ⟨Ya hk, g1, g2, .mk' h.2 (by rw [ren, e])⟩
  grind
 grind
theorem ZkO (hH : Zhx r H H') {x : AV} {y : Bool × List (List D)} (h : ZlZ H x = some y) : ZjN H' (ren r x) = some y := by
 unfold ZlZ at h
 split at h
 ·simp only [ren, ZjN]; exact h
 ·split at h
  ·rename_i k g _ _ q es hl he
   obtain ⟨g1, g2, g3, _, _⟩ := hH.at hl
   simp only [ren, ZjN]
   grind
  ·cases h
 ·cases h
theorem ZfY (q : Bool) (ds : List D) : ren r (meA q ds) = meA q ds := by
 unfold meA
 split <;> simp [ren, ZfC]
theorem ZsA (ck q : Bool) (ds : List D) (ok : Bool) : ren r (lkV ck q ds ok) = lkV ck q ds ok := by
 unfold lkV
 cases ck
 ·exact ZfY q ds
 ·simp only [ren, Zak, ZfY]
theorem ZhZ {t : TypeId} {i : TI} (hi : TIok P t i) (hH : Zhx r H H') (hg : ∀ b, g = some b → b = true) {x y : AV} {ck : Bool} (h : ZpT i H x y ck g a K) : ZeB P H' t (ren r x) (ren r y) ck (KR r K) := by
 unfold ZpT at h
 split at h
 ·rename_i q z q' es s ok vs a' h1 h2
  split at h
  ·rename_i hq
   obtain ⟨e1, e2⟩ : ZjU _ _ _ _ _ := Zat hg h.1
   simp only [ZeB, hi.mp _ h1, ZkO hH h2, ren]
   exact ⟨ZmJ hq, .mk' h.2 (by rw [e1, e2, ZsA])⟩
  grind
 grind
theorem ZbZ {x : AV} {vs : List AV} (h : ZaW x = some vs) (hx : ∀ f xs ys, x ≠ .fn (.yield f) xs ys) : ZaW (ren r x) = some (Zak r vs) := by
 cases x <;> simp only [ZaW, Ye] at h <;> try (cases h; done)
 case fn f xs ys =>
  subst h
  cases f with
  | yield i => exact absurd rfl (hx i xs ys)
  | _ => simp [ren, Zak, ZaW]
 all_goals (subst h; simp [ren, Zak, ZaW])
theorem Zfb {x : AV} (h : ZqD x = true) : ∀ f xs ys, x ≠ .fn (.yield f) xs ys := by
 rintro f xs ys rfl; cases h
theorem ZuW {t : TypeId} {i : TI} (hi : TIok P t i) {f o n : Nat} (h : plc i f = some (o, n)) : fld P t f = some (o, n) := by
 unfold plc at h
 split at h
 ·rename_i o' n' b hf
  simp only [Ye, Yag] at h
  obtain ⟨rfl, rfl⟩ := h
  exact (ZjD hi hf).1
 ·cases h
theorem ZeR {t : TypeId} {i : TI} (hi : TIok P t i) : ∀ (ps : List (Nat × AV)) (z cs : List AV), (∀ p ∈ ps, ZqD p.2 = true) → ZlF i z ps = some cs → ZbV (fld P t) (Zak r z) (ps.map fun p => (p.1, ren r p.2)) = some (Zak r cs)
 | [], z, cs, _, h => by
  simp only [ZlF, Ye] at h
  subst h
  simp [ZbV]
 | (f, v) :: ps, z, cs, hn, h => by
  simp only [ZlF] at h
  split at h
  ·rename_i off size vs hp hv
   split at h
   ·rename_i h1 h2
    have h1 := Ya h1
    have h2 := Yf h2
    have hv' := ZbZ (r := r) hv (Zfb (hn (f, v) (Yt ..)))
    simp only [YR, ZbV, ZuW hi hp, hv', Zaz]
    rw [if_neg (by omega)]
    have := ZeR hi ps _ cs (fun p hp => hn p (List.mem_cons_of_mem _ hp)) h
    rw [← this]
    simp only [ZbJ, Za6, ZaX]
   ·cases h
  ·cases h
theorem ZgI {t : TypeId} {i : TI} (hi : TIok P t i) {parts : List (Nat × AV)} (hn : ∀ p ∈ parts, ZqD p.2 = true) (hz : ∀ z, i.zer = some z → Zak r z = z) (h : ZiI i parts a K) :
  ZcI P t (parts.map fun p => (p.1, ren r p.2)) (KR r K) := by
 unfold ZiI at h
 split at h
 ·rename_i z h1 h2
  split at h
  ·rename_i cs hf
   have := ZeR (r := r) hi _ _ _ hn hf
   unfold ZcI
   rw [hi.zer _ h2]
   rw [hz z h2] at this
   simp only [this]
   exact ⟨hi.str h1, .mk' h rfl⟩
  grind
 grind
theorem ZpG {x : AV} (h : x.flat = true) : ren r x = x := by cases x <;> first | (simp [ren]; done) | cases h
theorem ZbW {z : List AV} (h : z.all AV.flat = true) : Zak r z = z := by
 induction z with
 | nil => simp [Zak]
 | cons x z ih =>
  simp only [YaA, Yd] at h
  rw [Zak, ZpG h.1, ih h.2]
theorem ZeD {c x y : Operand} {ρ ρ' : Operand → AV} {t : Bool} (hc : ρ c = .d (.bool t)) (hc' : ρ' c = ren r (ρ c)) (hx : t = true → ρ' x = ren r (ρ x)) (hy : t = false → ρ' y = ren r (ρ y)) (h : tV T H (.pick c x y) ρ g a K) :
  vOp P H' (.pick c x y) ρ' (KR r K) := by
 simp only [tV, hc] at h
 rw [hc] at hc'
 simp only [ren] at hc'
 simp only [vOp, hc']
 rw [ZpE] at h
 cases t
 ·exact .mk' h (by simp [hy rfl])
 ·exact .mk' h (by simp [hx rfl])
theorem Zid {ρ ρ' : Operand → AV} {xs : List Operand} (h : ∀ x ∈ xs, ρ' x = ren r (ρ x)) : xs.map ρ' = Zak r (xs.map ρ) := by
 rw [ZbO, Yap]
 exact YV h
theorem ZiP {ρ ρ' : Operand → AV} {o : Option Operand} (h : ∀ x, o = some x → ρ' x = ren r (ρ x)) : o.map ρ' = (o.map ρ).map (ren r) := by
 cases o with
 | none => rfl
 | some x => simp [h x rfl]
theorem Zhu {r : Ren} {mx : Bool} {x y : AV} {a : AT} {K : AV → AT → Prop} (h : vMM mx x y (fun v => K v a)) : vMM mx (ren r x) (ren r y) (KR r K) := by
 unfold vMM at h
 split at h
 ·simp only [ren, vMM]; exact .mk' h rfl
 grind
theorem Zo5 (hT : TOk P T) (hH : Zhx r H H') (hg : ∀ b, g = some b → b = true) {op : Op} {ρ ρ' : Operand → AV} (hρ : ∀ x ∈ op.operands, ρ' x = ren r (ρ x)) (h : tV T H op ρ g a K) : vOp P H' op ρ' (KR r K) := by
 have get : ∀ {x : Operand}, x ∈ op.operands → ρ' x = ren r (ρ x) := fun hx => hρ _ hx
 cases op <;> simp only [tV] at h <;> try exact h.elim
 case move x => exact .mk' h (get (by simp [Op.operands]))
 case assign x => exact .mk' h (get (by simp [Op.operands]))
 case pick c x y =>
  split at h
  ·rename_i t hc
   exact ZeD (a := a) (g := g) (T := T) (H := H) hc (get (by simp [Op.operands])) (fun _ => get (by simp [Op.operands])) (fun _ => get (by simp [Op.operands])) (by simp only [tV, hc]; exact h)
  ·grind
 case load t x =>
  split at h
  ·rename_i i hi; simp only [vOp]; rw [get (x := x) (by simp [Op.operands])]; exact Zdx (hT _ _ hi) hH hg h
  ·grind
 case fieldAddr t x f =>
  split at h
  ·rename_i i hi; simp only [vOp]; rw [get (x := x) (by simp [Op.operands])]; exact Zeb (hT _ _ hi) hH h
  ·grind
 case field t x f =>
  split at h
  ·rename_i i hi; simp only [vOp]; rw [get (x := x) (by simp [Op.operands])]; exact Zg3 (hT _ _ hi) h
  ·grind
 case indexAddr t x j =>
  split at h
  ·rename_i i hi; simp only [vOp]; rw [get (x := x) (by simp [Op.operands]), get (x := j) (by simp [Op.operands])]; exact Zej (hT _ _ hi) hH hg h
  ·grind
 case index t x j =>
  split at h
  ·rename_i i hi; simp only [vOp]; rw [get (x := x) (by simp [Op.operands]), get (x := j) (by simp [Op.operands])]; exact ZgQ (hT _ _ hi) hg h
  ·grind
 case extract x j =>
  simp only [vOp]
  rw [get (x := x) (by simp [Op.operands])]
  split at h
  ·rename_i vs hx
   rw [hx]
   simp only [ren, ZcE]
   rw [Za0] at h
   split at h
   ·rename_i y hy; rw [hy]; exact .mk' h rfl
   grind
  ·grind
 case binOp o t x y u =>
  split at h
  ·rename_i i hi; simp only [vOp]; rw [get (x := x) (by simp [Op.operands]), get (x := y) (by simp [Op.operands])]; exact ZjX (hT _ _ hi) hH hg h
  ·grind
 case unOp o t x => simp only [vOp]; rw [get (x := x) (by simp [Op.operands])]; exact Zn8 hg h
 case nilCheck x =>
  split at h
  ·rename_i k q off hx
   split at h
   ·rename_i hl
    simp only [vOp]
    rw [get (x := x) (by simp [Op.operands]), hx]
    obtain ⟨g1, g2, _, _, _⟩ := hH.at hl
    simp only [ren, ZqM]
    exact ⟨g1.symm ▸ rfl, g2, .mk' h (by simp [ren])⟩
   grind
  ·rename_i cs off hx
   simp only [vOp]
   rw [get (x := x) (by simp [Op.operands]), hx]
   simp only [ren, ZqM]
   exact .mk' h (by simp [ren])
  ·grind
 case convert s d x =>
  split at h
  ·rename_i i j hi hj; simp only [vOp]; rw [get (x := x) (by simp [Op.operands])]; exact ZhR (hT _ _ hi) (hT _ _ hj) hg h
  ·grind
 case makeFunc fn first caps =>
  have e1 : first.toList.map ρ' = Zak r (first.toList.map ρ) := Zid fun x hx => get (by simp only [Op.operands, YaI]; exact .inl (by simpa using hx))
  have e2 : caps.toList.map ρ' = Zak r (caps.toList.map ρ) := Zid fun x hx => get (by simp only [Op.operands, YaI]; exact .inr (by simpa using hx))
  simp only [vOp]
  rw [e1, e2]
  split at h
  ·grind
  ·rename_i hne
   refine .mk' h ?_
   cases fn <;> first | exact absurd rfl (hne _) | simp [ren]
 case slice t x lo hi mx =>
  split at h
  ·rename_i i hi'
   simp only [vOp]
   rw [get (x := x) (by simp [Op.operands]), ZiP (o := lo) (fun y hy => get (by subst hy; simp [Op.operands])), ZiP (o := hi) (fun y hy => get (by subst hy; simp [Op.operands]))]
   exact ZgW (hT _ _ hi') hH hg h
  ·grind
 case build t parts =>
  split at h
  ·rename_i i hi hn
   simp only [vOp]
   have e : (parts.toList.map fun p => (p.1, ρ' p.2)) = (parts.toList.map fun p => (p.1, ρ p.2)).map fun p => (p.1, ren r p.2) := by
    rw [Yap]
    refine YV fun p hp => ?_
    simp only [Function.comp]
    rw [get (x := p.2) (by simp only [Op.operands, YaJ, Yq]; exact ⟨p, hp, rfl⟩)]
   rw [e]
   refine ZgI (hT _ _ hi) (fun p hp => ?_) (fun z hz => ZbW ((hT _ _ hi).flt z hz)) h
   obtain ⟨q, hq, rfl⟩ := Yq.1 hp
   grind
  ·grind
 case lookup t x y ck =>
  split at h
  ·rename_i i hi; simp only [vOp]; rw [get (x := x) (by simp [Op.operands]), get (x := y) (by simp [Op.operands])]; exact ZhZ (hT _ _ hi) hH hg h
  ·grind
 case call c =>
  split at h
  ·rename_i x t hc hx ht
   split at h
   ·rename_i i hi
    have e1 : c.args = #[x] := Y2 (by simpa using hx)
    have e2 : c.argTypes = #[t] := Y2 (by simpa using ht)
    simp only [vOp, hc, e1, e2]
    show 1 = 1 ∧ ZhA P H' t (ρ' x) (KR r K)
    rw [get (x := x) (by simp [Op.operands, Call.operands, hc, e1])]
    exact ⟨rfl, ZjY (hT _ _ hi) hH hg h⟩
   grind
  ·rename_i x y hc hx
   have e1 : c.args = #[x, y] := Y2 (by simpa using hx)
   simp only [vOp, hc, e1]
   show vMM false (ρ' x) (ρ' y) (KR r K)
   rw [get (x := x) (by simp [Op.operands, Call.operands, hc, e1]), get (x := y) (by simp [Op.operands, Call.operands, hc, e1])]
   exact Zhu h
  ·rename_i x y hc hx
   have e1 : c.args = #[x, y] := Y2 (by simpa using hx)
   simp only [vOp, hc, e1]
   show vMM true (ρ' x) (ρ' y) (KR r K)
   rw [get (x := x) (by simp [Op.operands, Call.operands, hc, e1]), get (x := y) (by simp [Op.operands, Call.operands, hc, e1])]
   exact Zhu h
  ·rename_i x y z hc hx
   have e1 : c.args = #[x, y, z] := Y2 (by simpa using hx)
   simp only [vOp, hc, e1]
   show Zoc true (ρ' x) (ρ' y) (ρ' z) (KR r K)
   rw [get (x := x) (by simp [Op.operands, Call.operands, hc, e1]), get (x := y) (by simp [Op.operands, Call.operands, hc, e1]), get (x := z) (by simp [Op.operands, Call.operands, hc, e1])]
   unfold Zoc at h
   split at h
   ·rename_i h1 h2 h3
    rw [h1, h2, h3]
    simp only [ren, Zoc]; exact .mk' h rfl
   grind
  ·grind
end
abbrev Zcl := List (Nat × Bool)
abbrev Env := List (Nat × Zcl)
def lk : Env → Nat → Zcl
 | [], _ => []
 | (i, c) :: r, j => match Nat.beq i j with | true => c | false => lk r j
def ZvO (t : Bool) : Bool → Bool
 | true => t
 | false => !t
theorem Zfh {t b : Bool} : ZvO t b = true ↔ t = b := by cases t <;> cases b <;> simp [ZvO]
def Zq9 : Zcl → Zcl → Bool
 | [], [] => true
 | (i, a) :: r, (j, b) :: q => Nat.beq i j && ZvO a b && Zq9 r q
 | _, _ => false
theorem ZhG : ∀ {a b : Zcl}, Zq9 a b = true → a = b
 | [], [], _ => rfl
 | (i, a) :: r, (j, b) :: q, h => by
  simp only [Zq9, Yd] at h
  rw [Ya h.1.1, Zfh.1 h.1.2, ZhG h.2]
 | [], _ :: _, h => by simp [Zq9] at h
 | _ :: _, [], h => by simp [Zq9] at h
def Zxc (a : Zcl) : Zcl → Bool
 | [] => Zq9 a []
 | q :: b => Zq9 a (q :: b) || Zxc a b
theorem Zjb {a : Zcl} : ∀ {b : Zcl}, Zxc a b = true → ∀ q ∈ a, q ∈ b
 | [], h, q, hq => by rw [ZhG h] at hq; exact hq
 | p :: b, h, q, hq => by
  simp only [Zxc, YC] at h
  rcases h with h | h
  ·rw [ZhG h] at hq; exact hq
  ·exact List.mem_cons_of_mem _ (Zjb h q hq)
def ZfN (s : Nat → AV) (c : Zcl) : Prop := ∀ q ∈ c, s q.1 = .d (.bool q.2)
def Zdh (s : Nat → AV) : Zcl → Option Bool
 | [] => some true
 | [(d, b)] => match s d with | .d (.bool t) => some (ZvO t b) | _ => none
 | (d, b) :: r => match s d, Zdh s r with | .d (.bool t), some c => some (c && ZvO t b) | _, _ => none
theorem ZbS {s : Nat → AV} : ∀ {c : Zcl} {g : Bool}, Zdh s c = some g → (g = true ↔ ZfN s c)
 | [], g, h => by simp only [Zdh, Ye] at h; subst h; simp [ZfN]
 | [(d, b)], g, h => by
  simp only [Zdh] at h
  split at h
  ·rename_i t ht
   simp only [Ye] at h
   subst h
   rw [Zfh]
   simp [ZfN, ht]
  ·cases h
 | (d, b) :: q :: r, g, h => by
  simp only [Zdh] at h
  split at h
  ·rename_i t c ht hc
   simp only [Ye] at h
   subst h
   have ih := ZbS hc
   rw [Yd, ih, Zfh]
   constructor
   ·rintro ⟨h1, rfl⟩ p hp
    rcases Yo.1 hp with rfl | hp
    ·exact ht
    ·exact h1 p hp
   ·intro h1
    refine ⟨fun p hp => h1 p (List.mem_cons_of_mem _ hp), ?_⟩
    have := h1 (d, b) (Yt ..)
    grind
  ·cases h
def ZkC (e : Nat) (c : Zcl) : Bool := c.all fun q => !Nat.beq q.1 e
def fresh (e : Nat) (env : Env) : Bool := env.all fun p => ZkC e p.2
theorem Zi7 {s : Nat → AV} {e : Nat} {v : AV} {c : Zcl} (h : ZkC e c = true) : ZfN (upd s e v) c ↔ ZfN s c := by
 have key : ∀ q ∈ c, upd s e v q.1 = s q.1 := fun q hq => by
  have := Ym.1 h q hq
  unfold upd
  rw [if_neg]
  intro he
  subst he
  simp at this
 constructor
 ·exact fun h q hq => (key q hq) ▸ h q hq
 ·exact fun h q hq => (key q hq).trans (h q hq)
theorem ZiJ {e : Nat} : ∀ {env : Env}, fresh e env = true → ∀ j, ZkC e (lk env j) = true
 | [], _, j => rfl
 | (i, c) :: r, h, j => by
  simp only [fresh, YaA, Yd] at h
  simp only [lk]
  split
  ·exact h.1
  ·exact ZiJ h.2 j
theorem Zh2 {env : Env} {e : Nat} {c : Zcl} (j : Nat) : lk ((e, c) :: env) j = if j = e then c else lk env j := by
 simp only [lk]
 by_cases h : j = e
 ·subst h; simp
 ·rw [if_neg h]
  split
  ·rename_i h'; exact absurd (Ya h').symm h
  ·rfl
def chk (env : Env) (c : Zcl) : Operand → Bool
 | .tmp t => Zxc (lk env t) c
 | _ => true
def ZbC (env : Env) (c : Zcl) : Op → Bool
 | .pick (.tmp d) x y => chk env c (.tmp d) && chk env ((d, true) :: c) x && chk env ((d, false) :: c) y
 | op => op.operands.toList.all (chk env c)
structure RenOk (r : Ren) (l outs : Nat) : Prop where
 own : ∀ d, r.κ (1, d) = (l + 1, d)
 out : ∀ i, i < outs → (r.κ (0, i)).1 ≤ l
 inj : ∀ i j, i < outs → j < outs → r.κ (0, i) = r.κ (0, j) → i = j
 no : ∀ k, r.no k → ∃ i, i < outs ∧ r.κ (0, i) = k
structure RG (r : Ren) (l outs : Nat) (env : Env) (τ σ : St) : Prop where
 s : ∀ j, (ZfN τ.s (lk env j) → σ.s j = ren r (τ.s j)) ∧ (¬ ZfN τ.s (lk env j) → σ.s j = .tup [])
 h : Zhx r τ.H σ.H
 g : ∀ d, (σ.H (l + 1, d)).g = r.γ (1, d) + (τ.H (1, d)).g
 go : ∀ i, i < outs → (σ.H (r.κ (0, i))).g = r.γ (0, i) + (τ.H (0, i)).g
 k : ∀ k, (τ.H k).live = true → k.1 = 1 ∨ (k.1 = 0 ∧ k.2 < outs)
 o : ∀ k : Key, k.1 ≤ l → ¬ r.no k → σ.H k = r.H0 k
def Zgy (P : Program) (l : Nat) (r : Ren) (f : FuncId) (xs : List AV) (hb : List (Key × Blk)) (x : AV) : Prop :=
 ∀ H', (∀ p ∈ hb, p.2.live = true → H' (r.κ p.1) = ZaL r p.1 p.2) → (∀ k : Key, k.1 ≤ l → ¬ r.no k → H' k = r.H0 k) → Za2 P f (l + 1) (Zak r xs) H' (fun y H'' => y = ren r x ∧ H'' = H')
def Zm0 (P : Program) (l : Nat) (r : Ren) (i : Nat) (xs : List AV) (hb : List (Key × Blk)) (x : AV) : Prop :=
 ∃ f first caps, r.θ i = .fn (.func f) first caps ∧ ∀ H', (∀ p ∈ hb, p.2.live = true → H' (r.κ p.1) = ZaL r p.1 p.2) → (∀ k : Key, k.1 ≤ l → ¬ r.no k → H' k = r.H0 k) → Za2 P f (l + 1) (first ++ Zak r xs ++ caps) H' (fun y H'' => y = ren r x ∧ H'' = H')
def ZpQ (P : Program) (l : Nat) (r : Ren) (H : Hp) (f : AV) (xs : List AV) (g : Option Bool) (a : AT) (K : AV → AT → Prop) : Prop :=
 match f, a with
 | .fn (.func i) first caps, .call x ks a => sdP g (Zgy P l r i (first ++ xs ++ caps) (ks.map fun k => (k, H k)) x) ∧ K x a
 | .fn (.yield i) _ _, .call x ks a => sdP g (Zm0 P l r i xs (ks.map fun k => (k, H k)) x) ∧ K x a
 | _, _ => False
def bsV (T : Nat → Option TI) (τ : St) (t : TypeId) (len : Nat) (parts : List (Nat × Operand)) (a : AT) (K : AV → AT → Prop) : Prop :=
 match T t with
 | some i => (match i.elm with
  | some (e, sz) => (match Nat.ble 1 sz, len with
   | true, 0 => (match parts with | [] => K .e0 a | _ => False)
   | true, len + 1 => (match T e, Nat.ble ((len + 1) * sz) 16777216 with
    | some j, true => (match j.zer with
     | some z => (match Nat.beq z.length sz, ZkP sz 0 (parts.map fun p => (p.1, ev τ.s p.2)) with
      | true, some es => (match Nat.beq es.length (len + 1) with | true => K (.d (.list es)) a | false => False)
      | _, _ => False)
     | none => False)
    | _, _ => False)
   | _, _ => False)
  | none => False)
 | none => False
def pV (P : Program) (T : Nat → Option TI) (l : Nat) (r : Ren) (τ : St) (op : Op) (g : Option Bool) (a : AT) (K : AV → AT → Prop) : Prop :=
 match op with
 | .call c => match c.callee with
  | .value f => ZpQ P l r τ.H (ev τ.s f) (c.args.toList.map (ev τ.s)) g a K
  | _ => tV T τ.H op (ev τ.s) g a K
 | .buildSlice t len parts => bsV T τ t len parts.toList a K
 | op => tV T τ.H op (ev τ.s) g a K
def ZjH (n d : Nat) (K : St → AT → Prop) (τ : St) (v : AV) (a : AT) : Prop :=
 match Nat.ble (d + 1) n with
 | true => K ⟨upd τ.s d v, τ.H⟩ a
 | false => False
section
variable {P : Program} {T : Nat → Option TI} {r : Ren} {l n outs : Nat} {env : Env} {τ σ : St} {g : Option Bool} {a : AT} {c : Zcl}
theorem Zvz (v : Value) : ren r (cv v) = cv v := by unfold cv; split <;> simp [ren]
theorem Zez (h : RG r l outs env τ σ) (hs : ZfN τ.s c) {x : Operand} (hx : chk env c x = true) : ev σ.s x = ren r (ev τ.s x) := by
 cases x with
 | tmp t => exact (h.s t).1 fun q hq => hs q (Zjb hx q hq)
 | const v => exact (Zvz v).symm
 | global g => simp [ev, ren]
 | func f => simp [ev, ren, Zak]
theorem ZbY (h : RG r l outs env τ σ) (hs : ZfN τ.s c) {op : Op} (hx : op.operands.toList.all (chk env c) = true) : ∀ x ∈ op.operands, ev σ.s x = ren r (ev τ.s x) :=
 fun x hm => Zez h hs (Ym.1 hx x (by simpa using hm))
theorem Zqd (hT : TOk P T) (h : RG r l outs env τ σ) (hs : ZfN τ.s c) (hg : ∀ b, g = some b → b = true) {op : Op} (hx : ZbC env c op = true) {K : AV → AT → Prop} (hp : tV T τ.H op (ev τ.s) g a K) :
  vOp P σ.H op (ev σ.s) (KR r K) := by
 unfold ZbC at hx
 split at hx
 ·rename_i d x y
  simp only [Yd] at hx
  obtain ⟨⟨h1, h2⟩, h3⟩ := hx
  have hp' := hp
  simp only [tV] at hp'
  split at hp'
  ·rename_i t ht
   have h0 := Zez h hs h1
   refine ZeD (T := T) (H := τ.H) (g := g) (a := a) ht h0 (fun e => Zez h (c := (d, true) :: c) ?_ h2) (fun e => Zez h (c := (d, false) :: c) ?_ h3) hp
   all_goals
    subst e
    intro q hq
    rcases Yo.1 hq with rfl | hq
    ·exact ht
    ·exact hs q hq
  grind
 ·exact Zo5 hT h.h hg (ZbY h hs hx) hp
theorem ZeF (h : RG r l outs env τ σ) (hs : ZfN τ.s c) (hg : ∀ b, g = some b → b = true) {cl : Call} {f : Operand} (hc : cl.callee = .value f) (hx : ZbC env c (.call cl) = true) {K : AV → AT → Prop}
  (hp : ZpQ P l r τ.H (ev τ.s f) (cl.args.toList.map (ev τ.s)) g a K) :
  ∃ i first caps x a', ev σ.s f = .fn (.func i) first caps ∧ Za2 P i (l + 1) (first ++ cl.args.toList.map (ev σ.s) ++ caps) σ.H (fun y H' => y = ren r x ∧ H' = σ.H) ∧ K x a' := by
 have hx : (Op.call cl).operands.toList.all (chk env c) = true := hx
 have hf := ZbY h hs hx f (by simp [Op.operands, Call.operands, hc])
 have ha : cl.args.toList.map (ev σ.s) = Zak r (cl.args.toList.map (ev τ.s)) := Zid fun x hm => ZbY h hs hx x (by simp only [Op.operands, Call.operands, hc, YaI]; exact .inr (by simpa using hm))
 have hb : ∀ ks : List Key, ∀ p ∈ ks.map fun k => (k, τ.H k), p.2.live = true → σ.H (r.κ p.1) = ZaL r p.1 p.2 := fun ks p hp hl => by
  obtain ⟨k, hk, rfl⟩ := Yq.1 hp
  exact h.h k hl
 unfold ZpQ at hp
 split at hp
 ·rename_i i first caps x ks a' he
  have h1 : Zgy _ _ _ _ _ _ _ := Zat hg hp.1
  refine ⟨i, Zak r first, Zak r caps, x, a', by rw [hf, he]; simp [ren], ?_, hp.2⟩
  rw [ha, ← ZbJ, ← ZbJ]
  exact h1 σ.H (hb ks) h.o
 ·rename_i i xs ys x ks a' he
  obtain ⟨f', first, caps, h2, h3⟩ : Zm0 _ _ _ _ _ _ _ := Zat hg hp.1
  refine ⟨f', first, caps, x, a', by rw [hf, he]; simp [ren, h2], ?_, hp.2⟩
  rw [ha]
  exact h3 σ.H (hb ks) h.o
 grind
theorem RG.put (h : RG r l outs env τ σ) {e : Nat} {ch : Zcl} (hf : fresh e env = true) (hn : ZkC e ch = true) {v : AV} {y : AV} (hy : ZfN τ.s ch → y = ren r v) (hno : ¬ ZfN τ.s ch → y = .tup []) :
  RG r l outs ((e, ch) :: env) ⟨upd τ.s e v, τ.H⟩ ⟨upd σ.s e y, σ.H⟩ := by
 refine ⟨fun j => ?_, h.h, h.g, h.go, h.k, h.o⟩
 simp only
 rw [Zh2]
 by_cases hj : j = e
 ·subst hj
  rw [if_pos rfl, Zi7 hn]
  simp only [upd, if_true]
  grind
 ·rw [if_neg hj, Zi7 (ZiJ hf j)]
  simp only [upd, if_neg hj]
  exact h.s j
end
end Go.Eng
