import Derived.Test.YthhipejbnbochaaCs04
import Derived.Test.YthhipejbnbochaaCs00
namespace Go.Eng
set_option linter.all false
open Go Go.RowKit
structure TI where
 agg : Bool := false
 kin : Nat := 0
 siz : Nat := 1
 elm : Option (Nat × Nat) := none
 fld : List (Nat × Nat × Bool) := []
 zer : Option (List AV) := none
 eqt : Option (List Nat) := none
 str : Bool := false
 ik : Option IntKind := none
 byt : Option Nat := none
 mp : Option (Bool × List D) := none
def AV.flat : AV → Bool
 | .d _ | .e0 | .p _ | .iptr _ _ => true
 | _ => false
structure TIok (P : Program) (t : TypeId) (i : TI) : Prop where
 agg : ZhW P t = some i.agg
 kin : kin P t = i.kin
 siz : P.cellsOf t = i.siz
 elm : ∀ e, i.elm = some e → Go.Eng.elm P t = some e
 fld : ∀ (j : Nat) (x : Nat × Nat × Bool), i.fld[j]? = some x → Go.Eng.fld P t j = some (x.1, x.2.1) ∧ Zwy P t j = some x
 zer : ∀ z, i.zer = some z → Go.Eng.zer P t = some z
 eqt : ∀ z, i.eqt = some z → eqT P t = some z
 str : i.str = true → ZxI P t = true
 ik : ∀ z, i.ik = some z → P.underlying t = some (.int z)
 byt : ∀ z, i.byt = some z → P.bytesOf t ≤ z ∧ P.bytesOf t ≠ 0
 flt : ∀ z, i.zer = some z → z.all AV.flat = true
 mp : ∀ z, i.mp = some z → ZqG P t = some z
def TOk (P : Program) (T : Nat → Option TI) : Prop := ∀ t i, T t = some i → TIok P t i
inductive AT where
 | nil
 | go (r : AT)
 | av (x : AV) (r : AT)
 | cs (c : List AV) (r : AT)
 | ds (e : List D) (r : AT)
 | num (n : Int) (r : AT)
 | nat (n : Nat) (r : AT)
 | call (x : AV) (ks : List Key) (r : AT)
 | callH (x : AV) (ks : List Key) (hb : List (Key × List AV)) (r : AT)
 | br (a b : AT)
 | frz (d : Nat) (js : List (Nat × List (List D))) (cs : List (Key × Nat × List (List D))) (r : AT)
 | adc (k : Key) (i d : Nat) (e : TypeId) (sz : Nat) (r : AT)
 | mv (d j : Nat) (r : AT)
 | ads (j d : Nat) (e : TypeId) (sz : Nat) (r : AT)
 | trim (k : Key) (c : List AV) (r : AT)
 | reb (j d m : Nat) (c : List AV) (r : AT)
 | sep (r : AT)
 | hard (x : AV) (ks : List Key) (hb : List (Key × Blk)) (fr : List Key) (r : AT)
 | ents (es : List (List D)) (r : AT)
 | all (a : AT) (f : Nat → AT)
 | fzm (d : Nat) (js : List Nat) (r : AT)
 | fzb (d : Nat) (js : List Nat) (r : AT)
 | rnm (d d' e i : Nat) (r : AT)
structure Ren where
 κ : Key → Key
 γ : Key → Nat
 θ : Nat → AV
 H0 : Hp
 no : Key → Prop
mutual
def ren (r : Ren) : AV → AV
 | .ref k g off n => .ref (r.κ k) (r.γ k + g) off n
 | .ptr k g off => .ptr (r.κ k) (r.γ k + g) off
 | .mp k g => .mp (r.κ k) (r.γ k + g)
 | .fn f xs ys => match f with
  | .yield i => r.θ i
  | f => .fn f (Zan r xs) (Zan r ys)
 | .agg xs => .agg (Zan r xs)
 | .tup xs => .tup (Zan r xs)
 | .top => .top
 | .d x => .d x
 | .e0 => .e0
 | .p x => .p x
 | .iptr cs off => .iptr cs off
def Zan (r : Ren) : List AV → List AV
 | [] => []
 | x :: xs => ren r x :: Zan r xs
end
def ZaN (r : Ren) (k : Key) (b : Blk) : Blk := ⟨r.γ k + b.g, true, b.e, b.sz, Zan r b.cells⟩
theorem ZbK {r : Ren} (xs : List AV) : Zan r xs = xs.map (ren r) := by
 induction xs with
 | nil => simp [Zan]
 | cons x xs ih => simp [Zan, ih]
theorem ZaC {r : Ren} (xs : List AV) : (Zan r xs).length = xs.length := by rw [ZbK, Yn]
theorem ZbF {r : Ren} (xs ys : List AV) : Zan r (xs ++ ys) = Zan r xs ++ Zan r ys := by simp [ZbK]
theorem Za1 {r : Ren} (xs : List AV) (n : Nat) : (Zan r xs).drop n = Zan r (xs.drop n) := by simp [ZbK]
theorem Za8 {r : Ren} (xs : List AV) (n : Nat) : (Zan r xs).take n = Zan r (xs.take n) := by simp [ZbK]
theorem Zcz {r : Ren} (xs : List AV) (n : Nat) : (Zan r xs)[n]? = (xs[n]?).map (ren r) := by simp [ZbK]
theorem ZfG {r : Ren} (xs : List D) : Zan r (xs.map .d) = xs.map .d := by
 induction xs with
 | nil => simp [Zan]
 | cons x xs ih => simp only [YT, Zan, ren, ih]
theorem Zov {r : Ren} {xs : List AV} (h : xs ≠ []) : Zan r xs ≠ [] := by cases xs <;> simp_all [Zan]
def Zhc (r : Ren) (H H' : Hp) : Prop := ∀ k, (H k).live = true → H' (r.κ k) = ZaN r k (H k)
def nth {α : Type} : List α → Nat → Option α
 | [], _ => none
 | x :: _, 0 => some x
 | _ :: xs, i + 1 => nth xs i
theorem Za2 {α : Type} : ∀ (xs : List α) (i : Nat), nth xs i = xs[i]?
 | [], i => by simp [nth]
 | x :: xs, 0 => by simp [nth]
 | x :: xs, i + 1 => by simp [nth, Za2 xs i]
def Zhj {α : Type} : Nat → List α → Option (List α)
 | 0, _ => some []
 | n + 1, x :: xs => match Zhj n xs with | some r => some (x :: r) | none => none
 | _ + 1, [] => none
theorem Zf4 {α : Type} : ∀ (n : Nat) (xs r : List α), Zhj n xs = some r → xs.take n = r ∧ n ≤ xs.length
 | 0, xs, r, h => by simp only [Zhj, Ye] at h; subst h; simp
 | n + 1, [], r, h => by simp [Zhj] at h
 | n + 1, x :: xs, r, h => by
  simp only [Zhj] at h
  split at h
  ·rename_i q hq
   cases h
   obtain ⟨h1, h2⟩ := Zf4 n xs q hq
   grind
  ·cases h
def Zbn (H : Hp) (k : Key) (g : Nat) : Bool := Nat.beq g (H k).g && (H k).live
theorem ZaX {H : Hp} {k : Key} {g : Nat} (h : Zbn H k g = true) : g = (H k).g ∧ (H k).live = true := by
 simp only [Zbn, Yc] at h
 exact ⟨Ya h.1, h.2⟩
theorem Zhc.at {r : Ren} {H H' : Hp} (h : Zhc r H H') {k : Key} {g : Nat} (hl : Zbn H k g = true) : r.γ k + g = (H' (r.κ k)).g ∧ (H' (r.κ k)).live = true ∧ (H' (r.κ k)).e = (H k).e ∧ (H' (r.κ k)).sz = (H k).sz ∧ (H' (r.κ k)).cells = Zan r (H k).cells := by
 obtain ⟨h1, h2⟩ := ZaX hl
 rw [h k h2]
 subst h1
 exact ⟨rfl, rfl, rfl, rfl, rfl⟩
def sdP (g : Option Bool) (S : Prop) : Prop :=
 match g with
 | none => S
 | some b => b = true → S
theorem Zas {g : Option Bool} {S : Prop} (hg : ∀ b, g = some b → b = true) (h : sdP g S) : S := by
 unfold sdP at h
 grind
def Zcl (cs : List AV) (off : Nat) (c : List AV) : Prop := (cs.drop off).take c.length = c
def Zs3 (es : List (List D)) (n : Int) (e : List D) : Prop := 0 ≤ n ∧ es[n.toNat]? = some e
def Zuq (n : Int) (len off sz o : Nat) : Prop := 0 ≤ n ∧ n < len ∧ (off + n.toNat) * sz = o
def ZyU (s : ByteArray) (n b : Int) : Prop := 0 ≤ n ∧ ∃ x : UInt8, s.data.toList[n.toNat]? = some x ∧ b = x.toNat
def Zb3 (k : IntKind) (a r : Int) : Prop := k.wrap a = r
def EqI (a b : Int) : Prop := a = b
def NeI (a b : Int) : Prop := a ≠ b
def LeI (a b : Int) : Prop := a ≤ b
def ZzK (a b : ByteArray) : Prop := a.size + b.size ≤ 9223372036854775807
def SlB (dflt : Nat) (o : Option AV) (l : Nat) : Prop :=
 match o with
 | none => l = dflt
 | some (.d (.int _ n)) => n = l
 | _ => False
def SlS (l h n : Nat) : Prop := l ≤ h ∧ h ≤ n
def SlD (es : List (List D)) (sz l h : Nat) (es' : List (List D)) : Prop := (∀ e, e ∈ es → e.length = sz) ∧ (es.drop l).take (h - l) = es'
def SlR (off l h o n : Nat) : Prop := off + l = o ∧ h - l = n
def Zuh (t : Bool) (a b : AV) : AV :=
 match a, b with
 | .d (.bool x), .d (.bool y) => .d (.bool (cond t x y))
 | a, b => cond t a b
theorem Zp6 (t : Bool) (a b : AV) : Zuh t a b = if t then a else b := by
 unfold Zuh
 grind
def ZkM (i : TI) (H : Hp) (x : AV) (g : Option Bool) (a : AT) (K : AV → AT → Prop) : Prop :=
 match x with
 | .iptr cs off => match i.agg with
  | true => match Nat.ble 1 i.siz, Zhj i.siz (cs.drop off) with | true, some c => K (.agg (c.map .d)) a | _, _ => False
  | false => match nth cs off with | some c => K (.d c) a | none => False
 | .ptr k q off => match Zbn H k q with
  | true => match a with
   | .go r => (match i.agg with
    | true => match Nat.ble 1 i.siz, Zhj i.siz ((H k).cells.drop off) with | true, some c => K (.agg c) r | _, _ => False
    | false => match nth (H k).cells off with | some c => K c r | none => False)
   | .cs c r => (match i.agg with
    | true => match Nat.ble 1 i.siz, Nat.beq c.length i.siz with | true, true => sdP g (Zcl (H k).cells off c) ∧ K (.agg c) r | _, _ => False
    | false => match c with | [x] => sdP g (Zcl (H k).cells off [x]) ∧ K x r | _ => False)
   | _ => False
  | false => False
 | _ => False
def Zc8 (i : TI) (H : Hp) (f : Nat) (x : AV) (a : AT) (K : AV → AT → Prop) : Prop :=
 match nth i.fld f with
 | some (o, n, _) => match Nat.ble 1 n with
  | true => (match x with
   | .iptr cs off => K (.iptr cs (off + o)) a
   | .ptr k q off => match Zbn H k q with | true => K (.ptr k q (off + o)) a | false => False
   | _ => False)
  | false => False
 | none => False
def ZiS (i : TI) (f : Nat) (x : AV) (a : AT) (K : AV → AT → Prop) : Prop :=
 match nth i.fld f, x with
 | some (o, n, true), .agg cs => (match Nat.ble 1 n with | true => K (.agg ((cs.drop o).take n)) a | false => False)
 | some (o, _, false), .agg cs => (match nth cs o with | some c => K c a | none => False)
 | _, _ => False
def Zc5 (i : TI) (H : Hp) (x j : AV) (g : Option Bool) (a : AT) (K : AV → AT → Prop) : Prop :=
 match i.elm, j with
 | some (_, sz), .d (.int _ n) => (match x, a with
  | .d (.list es), .ds e r => (match Nat.beq e.length sz, Nat.ble 1 sz with | true, true => sdP g (Zs3 es n e) ∧ K (.iptr e 0) r | _, _ => False)
  | .ref k q off len, .nat o r => (match Zbn H k q, Nat.beq (H k).sz sz, Nat.ble 1 sz with | true, true, true => sdP g (Zuq n len off sz o) ∧ K (.ptr k q o) r | _, _, _ => False)
  | _, _ => False)
 | _, _ => False
def ZiM (i : TI) (x j : AV) (g : Option Bool) (a : AT) (K : AV → AT → Prop) : Prop :=
 match x, j, a with
 | .d (.str s), .d (.int _ n), .num b r => (match Nat.beq i.kin 2 with | true => sdP g (ZyU s n b) ∧ K (.d (.int .u8 b)) r | false => False)
 | _, _, _ => False
def ZxR (op : BinOp) (k : IntKind) (x y : Int) (g : Option Bool) (a : AT) (K : AV → AT → Prop) : Prop :=
 match op with
 | .eql => K (.d (.bool (decide (x = y)))) a
 | .neq => K (.d (.bool (!decide (x = y)))) a
 | .lss => K (.d (.bool (decide (x < y)))) a
 | .leq => K (.d (.bool (decide (x ≤ y)))) a
 | .gtr => K (.d (.bool (decide (y < x)))) a
 | .geq => K (.d (.bool (decide (y ≤ x)))) a
 | .add => match a with | .num n r => sdP g (Zb3 k (x + y) n) ∧ K (.d (.int k n)) r | _ => False
 | .sub => match a with | .num n r => sdP g (Zb3 k (x - y) n) ∧ K (.d (.int k n)) r | _ => False
 | .mul => match a with | .num n r => sdP g (Zb3 k (x * y) n) ∧ K (.d (.int k n)) r | _ => False
 | .quo => match a with | .num n r => sdP g (NeI y 0) ∧ sdP g (Zb3 k (x.tdiv y) n) ∧ K (.d (.int k n)) r | _ => False
 | .rem => match a with | .num n r => sdP g (NeI y 0) ∧ sdP g (EqI (x.tmod y) n) ∧ K (.d (.int k n)) r | _ => False
 | .shr => match a with | .num n r => sdP g (LeI 0 y) ∧ sdP g (EqI (x.fdiv (2 ^ (min y.toNat k.bits))) n) ∧ K (.d (.int k n)) r | _ => False
 | .shl => match a with | .num n r => sdP g (LeI 0 y) ∧ sdP g (Zb3 k (x * 2 ^ (min y.toNat k.bits)) n) ∧ K (.d (.int k n)) r | _ => False
 | _ => False
def ZxJ (op : BinOp) (x y : ByteArray) (g : Option Bool) (a : AT) (K : AV → AT → Prop) : Prop :=
 match op with
 | .add => sdP g (ZzK x y) ∧ K (.d (.str (x ++ y))) a
 | .eql => K (.d (.bool (decide (x = y)))) a
 | .neq => K (.d (.bool (!decide (x = y)))) a
 | .lss => K (.d (.bool (sLt x y))) a
 | .leq => K (.d (.bool (sLt x y || decide (x = y)))) a
 | .gtr => K (.d (.bool (!(sLt x y || decide (x = y))))) a
 | .geq => K (.d (.bool (!sLt x y))) a
 | _ => False
def Zuo (H : Hp) (neg : Bool) (x : AV) (a : AT) (K : AV → AT → Prop) : Prop :=
 match x with
 | .e0 => ∀ b, K (.d (.bool b)) a
 | .d (.list es) => ∀ b, (es ≠ [] → b = neg) → K (.d (.bool b)) a
 | .ref k q _ n => (match Zbn H k q with | true => ∀ b, (n ≠ 0 → b = neg) → K (.d (.bool b)) a | false => False)
 | _ => False
def ikB : IntKind → IntKind → Bool
 | .i8, .i8 | .i16, .i16 | .i32, .i32 | .i64, .i64 | .u8, .u8 | .u16, .u16 | .u32, .u32 | .u64, .u64 => true
 | _, _ => false
theorem Zxd {a b : IntKind} (h : ikB a b = true) : a = b := by cases a <;> cases b <;> first | rfl | cases h
def ZxA (i : TI) (H : Hp) (op : BinOp) (ny : Bool) (x y : AV) (g : Option Bool) (a : AT) (K : AV → AT → Prop) : Prop :=
 match x, y with
 | .d (.int k m), .d (.int k' n) => (match ikB k k' with | true => ZxR op k m n g a K | false => False)
 | .d (.str m), .d (.str n) => ZxJ op m n g a K
 | .d (.bool m), .d (.bool n) => (match Nat.beq i.kin 1 with
  | true => (match op with
   | .eql => K (.d (.bool (m == n))) a
   | .neq => K (.d (.bool (!(m == n)))) a
   | _ => False)
  | false => False)
 | .agg xs, .agg ys => (match i.eqt with
  | some ks => (match ZdB ks xs ys with
   | some b => (match op with
    | .eql => K (.d (.bool b)) a
    | .neq => K (.d (.bool (!b))) a
    | _ => False)
   | none => False)
  | none => False)
 | x, .e0 => (match ny, Nat.beq i.kin 4 with
  | true, true => (match op with
   | .eql => Zuo H false x a K
   | .neq => Zuo H true x a K
   | _ => False)
  | _, _ => False)
 | _, _ => False
def tUn (op : UnOp) (x : AV) (g : Option Bool) (a : AT) (K : AV → AT → Prop) : Prop :=
 match op, x with
 | .not, .d (.bool b) => K (.d (.bool (!b))) a
 | .neg, .d (.int k n) => (match a with | .num m r => sdP g (Zb3 k (0 - n) m) ∧ K (.d (.int k m)) r | _ => False)
 | _, _ => False
def ZoJ (s d : TI) (x : AV) (g : Option Bool) (a : AT) (K : AV → AT → Prop) : Prop :=
 match x with
 | .d (.int _ n) => (match s.ik, d.ik, a with | some _, some k, .num m r => sdP g (Zb3 k n m) ∧ K (.d (.int k m)) r | _, _, _ => False)
 | .d (.str s') => (match Nat.beq s.kin 2, Nat.beq d.kin 2 with | true, true => K (.d (.str s')) a | _, _ => False)
 | _ => False
def Zi6 (i : TI) (H : Hp) (x : AV) (lo hi : Option AV) (mx : Bool) (g : Option Bool) (a : AT) (K : AV → AT → Prop) : Prop :=
 match mx, a with
 | false, .nat l (.nat h r) => (match x with
  | .d (.str s) => (match Nat.beq i.kin 2 with | true => sdP g (SlB 0 lo l) ∧ sdP g (SlB s.size hi h) ∧ sdP g (SlS l h s.size) ∧ K (.d (.str (s.extract l h))) r | false => False)
  | .d (.list es) => (match i.elm, r with
   | some (_, sz), .av (.d (.list es')) r => (match Nat.ble 1 sz with
    | true => sdP g (SlB 0 lo l) ∧ sdP g (SlB es.length hi h) ∧ sdP g (SlS l h es.length) ∧ sdP g (SlD es sz l h es') ∧ K (.d (.list es')) r
    | false => False)
   | _, _ => False)
  | .ref k q off n => (match i.elm, r, Zbn H k q with
   | some (_, sz), .nat o' (.nat n' r), true => (match Nat.ble 1 sz, Nat.beq (H k).sz sz with
    | true, true => sdP g (SlB 0 lo l) ∧ sdP g (SlB n hi h) ∧ sdP g (SlS l h n) ∧ sdP g (SlR off l h o' n') ∧ K (.ref k q o' n') r
    | _, _ => False)
   | _, _, _ => False)
  | _ => False)
 | _, _ => False
def ZxK (i : TI) (H : Hp) (x : AV) (g : Option Bool) (a : AT) (K : AV → AT → Prop) : Prop :=
 match x, a with
 | .d (.str s), .num n r => (match Nat.beq i.kin 2 with | true => sdP g (EqI s.size n) ∧ K (.d (.int .i64 n)) r | false => False)
 | .d (.list es), .num n r => (match Nat.beq i.kin 4 with | true => sdP g (EqI es.length n) ∧ K (.d (.int .i64 n)) r | false => False)
 | .e0, .num n r => (match Nat.beq i.kin 4 with | true => sdP g (EqI 0 n) ∧ K (.d (.int .i64 n)) r | false => False)
 | .ref k q _ m, .num n r => (match Nat.beq i.kin 4, Zbn H k q with | true, true => sdP g (EqI m n) ∧ K (.d (.int .i64 n)) r | _, _ => False)
 | _, _ => False
def Zm8 (H : Hp) : AV → Option (Bool × List (List D))
 | .d (.map q es) => some (q, es)
 | .mp k g => match Zbn H k g, (H k).e with
  | true, .m q es => some (q, es)
  | _, _ => none
 | _ => none
def bqB : Bool → Bool → Bool
 | true, true => true
 | false, false => true
 | _, _ => false
theorem Zlk {a b : Bool} (h : bqB a b = true) : a = b := by cases a <;> cases b <;> first | rfl | cases h
def Zkq (es : List (List D)) (s : ByteArray) (z vs : List D) (ok : Bool) : Prop := (Zej s es).isSome = ok ∧ (Zej s es).getD z = vs
def ZoX (i : TI) (H : Hp) (x y : AV) (ck : Bool) (g : Option Bool) (a : AT) (K : AV → AT → Prop) : Prop :=
 match i.mp, Zm8 H x, y, a with
 | some (q, z), some (q', es), .d (.str s), .av (.d (.bool ok)) (.ds vs r) => (match bqB q q' with
  | true => sdP g (Zkq es s z vs ok) ∧ K (lkV ck q vs ok) r
  | false => False)
 | _, _, _, _ => False
def plc (i : TI) (f : Nat) : Option (Nat × Nat) := match nth i.fld f with | some (o, n, _) => some (o, n) | none => none
def ZkW (i : TI) (cells : List AV) : List (Nat × AV) → Option (List AV)
 | [] => some cells
 | (f, v) :: rest => match plc i f, ZaZ v with
  | some (off, size), some vs => match Nat.beq vs.length size, Nat.ble (off + vs.length) cells.length with
   | true, true => ZkW i (cells.take off ++ vs ++ cells.drop (off + vs.length)) rest
   | _, _ => none
  | _, _ => none
def ZjB (i : TI) (parts : List (Nat × AV)) (a : AT) (K : AV → AT → Prop) : Prop :=
 match i.str, i.zer with
 | true, some z => (match ZkW i z parts with | some cs => K (.agg cs) a | none => False)
 | _, _ => False
def Zq3 : AV → Bool
 | .fn (.yield _) _ _ => false
 | _ => true
def tV (T : Nat → Option TI) (H : Hp) (op : Op) (ρ : Operand → AV) (g : Option Bool) (a : AT) (K : AV → AT → Prop) : Prop :=
 match op with
 | .move x => K (ρ x) a
 | .assign x => K (ρ x) a
 | .pick c x y => match ρ c with | .d (.bool t) => K (Zuh t (ρ x) (ρ y)) a | _ => False
 | .load t x => match T t with | some i => ZkM i H (ρ x) g a K | none => False
 | .fieldAddr t x f => match T t with | some i => Zc8 i H f (ρ x) a K | none => False
 | .field t x f => match T t with | some i => ZiS i f (ρ x) a K | none => False
 | .indexAddr t x j => match T t with | some i => Zc5 i H (ρ x) (ρ j) g a K | none => False
 | .index t x j => match T t with | some i => ZiM i (ρ x) (ρ j) g a K | none => False
 | .extract x j => match ρ x with | .tup vs => (match nth vs j with | some y => K y a | none => False) | _ => False
 | .binOp o t x y _ => match T t with | some i => ZxA i H o (Zeb y) (ρ x) (ρ y) g a K | none => False
 | .unOp o _ x => tUn o (ρ x) g a K
 | .nilCheck x => match ρ x with | .ptr k q off => (match Zbn H k q with | true => K (.ptr k q off) a | false => False) | .iptr cs off => K (.iptr cs off) a | _ => False
 | .convert s d x => match T s, T d with | some i, some j => ZoJ i j (ρ x) g a K | _, _ => False
 | .makeFunc fn first caps => match fn with | .yield _ => False | fn => K (.fn fn (first.toList.map ρ) (caps.toList.map ρ)) a
 | .slice t x lo hi mx => match T t with | some i => Zi6 i H (ρ x) (lo.map ρ) (hi.map ρ) mx.isSome g a K | none => False
 | .lookup t x y ck => match T t with | some i => ZoX i H (ρ x) (ρ y) ck g a K | none => False
 | .build t parts => match T t, parts.toList.all (fun p => Zq3 (ρ p.2)) with | some i, true => ZjB i (parts.toList.map fun p => (p.1, ρ p.2)) a K | _, _ => False
 | .call c => match c.callee, c.args.toList, c.argTypes.toList with
  | .builtin .len, [x], [t] => match T t with | some i => ZxK i H (ρ x) g a K | none => False
  | .builtin .min, [x, y], _ => vMM false (ρ x) (ρ y) (fun v => K v a)
  | .builtin .max, [x, y], _ => vMM true (ρ x) (ρ y) (fun v => K v a)
  | .builtin .max, [x, y, z], _ => Zom true (ρ x) (ρ y) (ρ z) (fun v => K v a)
  | _, _, _ => False
 | _ => False
end Go.Eng
namespace Go.Eng
set_option linter.all false
open Go Go.RowKit
section
variable {P : Program} {T : Nat → Option TI} {r : Ren} {H H' : Hp} {g : Option Bool} {a : AT} {K : AV → AT → Prop}
def KR (r : Ren) (K : AV → AT → Prop) (y : AV) : Prop := ∃ v a', y = ren r v ∧ K v a'
theorem KR.mk {v : AV} {a : AT} (h : K v a) : KR r K (ren r v) := ⟨v, a, rfl, h⟩
theorem KR.mk' {v y : AV} {a : AT} (h : K v a) (e : y = ren r v) : KR r K y := ⟨v, a, e, h⟩
theorem Zdq {t : TypeId} {i : TI} (hi : TIok P t i) (hH : Zhc r H H') (hg : ∀ b, g = some b → b = true) {x : AV} (h : ZkM i H x g a K) : ZdJ P H' t (ren r x) (KR r K) := by
 unfold ZkM at h
 cases x <;> simp only at h <;> try exact h.elim
 case iptr cs off =>
  simp only [ren, ZdJ, hi.agg, hi.siz]
  split at h
  ·rename_i he
   rw [he]
   split at h
   ·rename_i c h1 h2
    obtain ⟨e1, e2⟩ := Zf4 _ _ _ h2
    have h1 := Yf h1
    rw [Yao] at e2
    exact ⟨by omega, by omega, .mk' h (by rw [e1, ren, ZfG])⟩
   grind
  ·rename_i he
   rw [he]
   rw [Za2] at h
   simp only
   split at h
   ·rename_i c hc; simp only [hc]; exact .mk' h rfl
   grind
 case ptr k q off =>
  simp only [ren, ZdJ, hi.agg, hi.siz]
  split at h
  ·rename_i hl
   obtain ⟨g1, g2, g3, g4, g5⟩ := hH.at hl
   refine ⟨g1, g2, ?_⟩
   rw [g5]
   split at h
   ·split at h
    ·rename_i he
     rw [he]
     split at h
     ·rename_i c h1 h2
      obtain ⟨e1, e2⟩ := Zf4 _ _ _ h2
      have h1 := Yf h1
      rw [Yao] at e2
      exact ⟨by omega, by rw [ZaC]; omega, .mk' h (by rw [ren, Za1, Za8, e1])⟩
     grind
    ·rename_i he
     rw [he]
     rw [Za2] at h
     split at h
     ·rename_i c hc; simp only [Zcz, hc, YH]; exact .mk' h rfl
     grind
   ·split at h
    ·rename_i he
     rw [he]
     split at h
     ·rename_i c r' h1 h2
      have h1 := Yf h1
      have h2 := Ya h2
      have h3 : Zcl _ _ _ := Zas hg h.1
      unfold Zcl at h3
      rw [h2] at h3
      have h4 := congrArg List.length h3
      rw [YX, Yao] at h4
      exact ⟨by omega, by rw [ZaC]; omega, .mk' h.2 (by rw [ren, Za1, Za8, h3])⟩
     grind
    ·rename_i he
     rw [he]
     split at h
     ·rename_i x
      have h3 : Zcl _ _ _ := Zas hg h.1
      unfold Zcl at h3
      have e : (H k).cells[off]? = some x := by
       have := congrArg (fun l => l[0]?) h3
       grind
      simp only [Zcz, e, YH]
      exact .mk' h.2 rfl
     grind
   grind
  ·grind
theorem Zju {t : TypeId} {i : TI} (hi : TIok P t i) {f : Nat} {x : Nat × Nat × Bool} (h : nth i.fld f = some x) : fld P t f = some (x.1, x.2.1) ∧ Zwy P t f = some x := by
 rw [Za2] at h; exact hi.fld f x h
theorem Zeh {t : TypeId} {i : TI} (hi : TIok P t i) (hH : Zhc r H H') {f : Nat} {x : AV} (h : Zc8 i H f x a K) : ZaL P H' t f (ren r x) (KR r K) := by
 unfold Zc8 at h
 split at h
 ·rename_i o n b hf
  have e := (Zju hi hf).1
  split at h
  ·rename_i h1
   have h1 := Yf h1
   unfold ZaL
   rw [e]
   split at h
   ·simp only [ren]; exact ⟨by omega, .mk' h rfl⟩
   ·split at h
    ·rename_i hl
     obtain ⟨g1, g2, _⟩ := hH.at hl
     simp only [ren]; exact ⟨by omega, g1, g2, .mk' h rfl⟩
    grind
   grind
  grind
 grind
theorem Zhh {t : TypeId} {i : TI} (hi : TIok P t i) {f : Nat} {x : AV} (h : ZiS i f x a K) : Zcq P t f (ren r x) (KR r K) := by
 unfold ZiS at h
 rw [Zl5]
 split at h
 ·rename_i o n cs hf
  rw [(Zju hi hf).2]
  split at h
  ·rename_i h1
   have h1 := Yf h1
   simp only [ren, Zwg]
   exact ⟨by omega, .mk' h (by rw [ren, Za1, Za8])⟩
  grind
 ·rename_i o n cs hf
  rw [(Zju hi hf).2]
  rw [Za2] at h
  split at h
  ·rename_i c hc
   simp only [ren, Zwg, Zcz, hc, YH]
   exact .mk' h rfl
  grind
 grind
theorem Zel {t : TypeId} {i : TI} (hi : TIok P t i) (hH : Zhc r H H') (hg : ∀ b, g = some b → b = true) {x j : AV} (h : Zc5 i H x j g a K) : ZaJ P H' t (ren r x) (ren r j) (KR r K) := by
 unfold Zc5 at h
 split at h
 ·rename_i e sz k n he
  have he := hi.elm _ he
  split at h
  ·rename_i es e' q
   split at h
   ·rename_i h1 h2
    have h1 := Ya h1
    have h2 := Yf h2
    obtain ⟨h3, h4⟩ : Zs3 _ _ _ := Zas hg h.1
    simp only [ren, ZaJ, he]
    refine ⟨h3, ?_⟩
    rw [h4]
    exact ⟨h1, by omega, .mk' h.2 rfl⟩
   grind
  ·rename_i k q off len o r'
   split at h
   ·rename_i hl h1 h2
    have h1 := Ya h1
    have h2 := Yf h2
    obtain ⟨g1, g2, g3, g4, g5⟩ := hH.at hl
    obtain ⟨h3, h4, h5⟩ : Zuq _ _ _ _ _ := Zas hg h.1
    simp only [ren, ZaJ, he]
    exact ⟨h3, h4, g1, g2, by rw [g4, h1], by omega, .mk' h.2 (by rw [ren, h5])⟩
   grind
  grind
 grind
theorem Zhl {t : TypeId} {i : TI} (hi : TIok P t i) (hg : ∀ b, g = some b → b = true) {x j : AV} (h : ZiM i x j g a K) : ZcL P t (ren r x) (ren r j) (KR r K) := by
 unfold ZiM at h
 split at h
 ·rename_i s k n b q
  split at h
  ·rename_i h1
   have h1 := Ya h1
   obtain ⟨h3, c, h4, h5⟩ : ZyU _ _ _ := Zas hg h.1
   simp only [ren, ZcL]
   refine ⟨by rw [hi.kin]; exact h1, h3, ?_⟩
   rw [h4]
   exact .mk' h.2 (by rw [ren, h5])
  grind
 grind
theorem ZjX {op : BinOp} {k : IntKind} {x y : Int} (hg : ∀ b, g = some b → b = true) (h : ZxR op k x y g a K) : Zmm op k x y (KR r K) := by
 unfold ZxR at h
 cases op <;> simp only at h <;> try exact h.elim
 all_goals simp only [Zmm]
 case eql => exact .mk' h rfl
 case neq => exact .mk' h rfl
 case lss => exact .mk' h rfl
 case leq => exact .mk' h rfl
 case gtr => exact .mk' h rfl
 case geq => exact .mk' h rfl
 case add | sub | mul =>
  split at h
  ·have e : Zb3 _ _ _ := Zas hg h.1
   unfold Zb3 at e
   rw [e]; exact .mk' h.2 rfl
  ·grind
 case quo =>
  split at h
  ·have e : Zb3 _ _ _ := Zas hg h.2.1
   unfold Zb3 at e
   rw [e]; exact ⟨Zas hg h.1, .mk' h.2.2 rfl⟩
  ·grind
 case rem =>
  split at h
  ·have e : EqI _ _ := Zas hg h.2.1
   unfold EqI at e
   rw [e]; exact ⟨Zas hg h.1, .mk' h.2.2 rfl⟩
  ·grind
 case shr =>
  split at h
  ·have e : EqI _ _ := Zas hg h.2.1
   unfold EqI at e
   rw [e]; exact ⟨Zas hg h.1, .mk' h.2.2 rfl⟩
  ·grind
 case shl =>
  split at h
  ·have e : Zb3 _ _ _ := Zas hg h.2.1
   unfold Zb3 at e
   rw [e]; exact ⟨Zas hg h.1, .mk' h.2.2 rfl⟩
  ·grind
theorem ZjR {op : BinOp} {x y : ByteArray} (hg : ∀ b, g = some b → b = true) (h : ZxJ op x y g a K) : Zng op x y (KR r K) := by
 unfold ZxJ at h
 cases op <;> simp only at h <;> try exact h.elim
 all_goals simp only [Zng]
 case add => exact ⟨Zas hg h.1, .mk' h.2 rfl⟩
 all_goals exact .mk' h rfl
theorem ZfS {neg : Bool} {x : AV} (hH : Zhc r H H') (h : Zuo H neg x a K) : ZhV H' neg (ren r x) (KR r K) := by
 unfold Zuo at h
 split at h
 ·simp only [ren, ZhV]; exact fun b => .mk' (h b) rfl
 ·rename_i es
  cases es with
  | nil => simp only [ren, ZhV]; exact fun b => .mk' (h b (fun e => absurd rfl e)) rfl
  | cons e es => simp only [ren, ZhV]; exact .mk' (h neg (fun _ => rfl)) rfl
 ·rename_i k q off n
  split at h
  ·rename_i hl
   obtain ⟨g1, g2, _⟩ := hH.at hl
   simp only [ren, ZhV]
   exact ⟨⟨g1, g2⟩, fun hn => .mk' (h neg (fun _ => rfl)) rfl, fun hn b => .mk' (h b (fun e => absurd hn e)) rfl⟩
  grind
 grind
theorem ZhF : ∀ (ks : List Nat) (xs ys : List AV) (b : Bool), ZdB ks xs ys = some b → ZdB ks (Zan r xs) (Zan r ys) = some b
 | [], [], [], b, h => by simpa [Zan] using h
 | k :: ks, x :: xs, y :: ys, b, h => by
  cases x <;> cases y <;> simp only [ZdB] at h <;> try (cases h; done)
  rename_i x y
  simp only [Zan, ren, ZdB]
  split at h
  ·rename_i b1 b2 h1 h2
   simp only [h1, ZhF ks xs ys _ h2]
   exact h
  ·cases h
 | [], [], _ :: _, b, h => by simp [ZdB] at h
 | [], _ :: _, _, b, h => by simp [ZdB] at h
 | _ :: _, [], _, b, h => by simp [ZdB] at h
 | _ :: _, x :: _, [], b, h => by cases x <;> simp [ZdB] at h
theorem Zss {H : Hp} {op : BinOp} {t : TypeId} {ny : Bool} {x : AV} {K : AV → Prop} : Zfk P H op t ny x .e0 K = (ny = true ∧ kin P t = 4 ∧ match op with | .eql => ZhV H false x K | .neq => ZhV H true x K | _ => False) := by
 unfold Zfk
 grind
theorem ZkO {t : TypeId} {i : TI} (hi : TIok P t i) (hH : Zhc r H H') (hg : ∀ b, g = some b → b = true) {op : BinOp} {ny : Bool} {x y : AV} (h : ZxA i H op ny x y g a K) : Zfk P H' op t ny (ren r x) (ren r y) (KR r K) := by
 unfold ZxA at h
 split at h
 ·split at h
  ·rename_i hk
   simp only [ren, Zfk]
   exact ⟨Zxd hk, ZjX hg h⟩
  grind
 ·simp only [ren, Zfk]; exact ZjR hg h
 ·split at h
  ·rename_i hk
   simp only [ren, Zfk]
   refine ⟨by rw [hi.kin]; exact Ya hk, ?_⟩
   split at h
   ·exact .mk' h rfl
   ·exact .mk' h rfl
   grind
  grind
 ·rename_i xs ys
  split at h
  ·rename_i ks hks
   split at h
   ·rename_i b hb
    simp only [ren, Zfk, Zop, hi.eqt _ hks, ZhF _ _ _ _ hb]
    split at h
    ·exact .mk' h rfl
    ·exact .mk' h rfl
    grind
   grind
  grind
 ·rw [show ren r .e0 = .e0 from by simp [ren], Zss]
  split at h
  ·rename_i h5 h6
   refine ⟨rfl, by rw [hi.kin]; exact Ya h6, ?_⟩
   split at h
   ·exact ZfS hH h
   ·exact ZfS hH h
   grind
  grind
 grind
theorem Zk6 {op : UnOp} {x : AV} (hg : ∀ b, g = some b → b = true) (h : tUn op x g a K) : vUn op (ren r x) (KR r K) := by
 unfold tUn at h
 split at h
 ·simp only [ren, vUn]; exact .mk' h rfl
 ·split at h
  ·have e : Zb3 _ _ _ := Zas hg h.1
   unfold Zb3 at e
   simp only [ren, vUn]
   rw [e]; exact .mk' h.2 rfl
  grind
 grind
theorem Zik {s d : TypeId} {i j : TI} (hi : TIok P s i) (hj : TIok P d j) {x : AV} (hg : ∀ b, g = some b → b = true) (h : ZoJ i j x g a K) : ZdW P s d (ren r x) (KR r K) := by
 unfold ZoJ at h
 split at h
 ·split at h
  ·rename_i k1 n a' k' k'' m r' e1 e2
   have e : Zb3 _ _ _ := Zas hg h.1
   unfold Zb3 at e
   simp only [ren, ZdW, hi.ik _ e1, hj.ik _ e2]
   rw [e]; exact .mk' h.2 rfl
  grind
 ·split at h
  ·rename_i e1 e2
   simp only [ren, ZdW, ZcR (by rw [hi.kin]; exact Ya e1), ZcR (by rw [hj.kin]; exact Ya e2)]
   exact .mk' h rfl
  grind
 grind
theorem ZfE {d l : Nat} {o o' : Option AV} (h : SlB d o l) (ho : o' = o.map (ren r)) : bnd d o' = some l := by
 subst ho
 unfold SlB at h
 split at h
 ·simp [bnd, h]
 ·subst h
  simp [bnd, ren]
 grind
theorem Zhq {t : TypeId} {i : TI} (hi : TIok P t i) (hH : Zhc r H H') (hg : ∀ b, g = some b → b = true) {x : AV} {lo hi' : Option AV} {mx : Bool} (h : Zi6 i H x lo hi' mx g a K) :
  Zcb P H' t (ren r x) (lo.map (ren r)) (hi'.map (ren r)) mx (KR r K) := by
 unfold Zi6 at h
 split at h
 ·split at h
  ·split at h
   ·rename_i hk
    obtain ⟨h1, h2, h3, h4⟩ := h
    have b1 := ZfE (r := r) (Zas hg h1) rfl
    have b2 := ZfE (r := r) (Zas hg h2) rfl
    have b3 : SlS _ _ _ := Zas hg h3
    simp only [ren, Zcb, b1, b2]
    exact ⟨by rw [hi.kin]; exact Ya hk, trivial, b3.1, b3.2, .mk' h4 rfl⟩
   grind
  ·split at h
   ·rename_i e sz es' r' he
    split at h
    ·rename_i h0
     have h0 := Yf h0
     obtain ⟨h1, h2, h3, h4, h5⟩ := h
     have b1 := ZfE (r := r) (Zas hg h1) rfl
     have b2 := ZfE (r := r) (Zas hg h2) rfl
     have b3 : SlS _ _ _ := Zas hg h3
     have b4 : SlD _ _ _ _ _ := Zas hg h4
     simp only [ren, Zcb, b1, b2, hi.elm _ he]
     exact ⟨trivial, by omega, b4.1, b3.1, b3.2, .mk' h5 (by rw [ren, b4.2])⟩
    grind
   grind
  ·split at h
   ·rename_i e sz o' n' r' he hl
    split at h
    ·rename_i h0 h00
     have h0 := Yf h0
     obtain ⟨g1, g2, g3, g4, g5⟩ := hH.at hl
     obtain ⟨h1, h2, h3, h4, h5⟩ := h
     have b1 := ZfE (r := r) (Zas hg h1) rfl
     have b2 := ZfE (r := r) (Zas hg h2) rfl
     have b3 : SlS _ _ _ := Zas hg h3
     have b4 : SlR _ _ _ _ _ := Zas hg h4
     simp only [ren, Zcb, b1, b2, hi.elm _ he]
     exact ⟨trivial, g1, g2, by omega, by rw [g4]; exact Ya h00, b3.1, b3.2, .mk' h5 (by rw [ren, b4.1, b4.2])⟩
    grind
   grind
  grind
 grind
theorem ZjQ {t : TypeId} {i : TI} (hi : TIok P t i) (hH : Zhc r H H') (hg : ∀ b, g = some b → b = true) {x : AV} (h : ZxK i H x g a K) : ZhX P H' t (ren r x) (KR r K) := by
 unfold ZxK at h
 split at h
 ·split at h
  ·rename_i hk
   have e : EqI _ _ := Zas hg h.1
   unfold EqI at e
   simp only [ren, ZhX, hi.kin]
   exact ⟨Ya hk, .mk' h.2 (by rw [ren, e])⟩
  grind
 ·split at h
  ·rename_i hk
   have e : EqI _ _ := Zas hg h.1
   unfold EqI at e
   simp only [ren, ZhX, hi.kin]
   exact ⟨Ya hk, .mk' h.2 (by rw [ren, e])⟩
  grind
 ·split at h
  ·rename_i hk
   have e : EqI _ _ := Zas hg h.1
   unfold EqI at e
   simp only [ren, ZhX, hi.kin]
   exact ⟨Ya hk, .mk' h.2 (by rw [ren, e])⟩
  grind
 ·split at h
  ·rename_i hk hl
   have e : EqI _ _ := Zas hg h.1
   unfold EqI at e
   obtain ⟨g1, g2, _⟩ := hH.at hl
   simp only [ren, ZhX, hi.kin]
   exact ⟨Ya hk, g1, g2, .mk' h.2 (by rw [ren, e])⟩
  grind
 grind
theorem Zka (hH : Zhc r H H') {x : AV} {y : Bool × List (List D)} (h : Zm8 H x = some y) : ZkQ H' (ren r x) = some y := by
 unfold Zm8 at h
 split at h
 ·simp only [ren, ZkQ]; exact h
 ·split at h
  ·rename_i k g _ _ q es hl he
   obtain ⟨g1, g2, g3, _, _⟩ := hH.at hl
   simp only [ren, ZkQ]
   grind
  ·cases h
 ·cases h
theorem Zf0 (q : Bool) (ds : List D) : ren r (meA q ds) = meA q ds := by
 unfold meA
 split <;> simp [ren, ZfG]
theorem Zst (ck q : Bool) (ds : List D) (ok : Bool) : ren r (lkV ck q ds ok) = lkV ck q ds ok := by
 unfold lkV
 cases ck
 ·exact Zf0 q ds
 ·simp only [ren, Zan, Zf0]
theorem ZiH {t : TypeId} {i : TI} (hi : TIok P t i) (hH : Zhc r H H') (hg : ∀ b, g = some b → b = true) {x y : AV} {ck : Bool} (h : ZoX i H x y ck g a K) : Ze3 P H' t (ren r x) (ren r y) ck (KR r K) := by
 unfold ZoX at h
 split at h
 ·rename_i q z q' es s ok vs a' h1 h2
  split at h
  ·rename_i hq
   obtain ⟨e1, e2⟩ : Zkq _ _ _ _ _ := Zas hg h.1
   simp only [Ze3, hi.mp _ h1, Zka hH h2, ren]
   exact ⟨Zlk hq, .mk' h.2 (by rw [e1, e2, Zst])⟩
  grind
 grind
theorem Zb0 {x : AV} {vs : List AV} (h : ZaZ x = some vs) (hx : ∀ f xs ys, x ≠ .fn (.yield f) xs ys) : ZaZ (ren r x) = some (Zan r vs) := by
 cases x <;> simp only [ZaZ, Ye] at h <;> try (cases h; done)
 case fn f xs ys =>
  subst h
  cases f with
  | yield i => exact absurd rfl (hx i xs ys)
  | _ => simp [ren, Zan, ZaZ]
 all_goals (subst h; simp [ren, Zan, ZaZ])
theorem ZeF {x : AV} (h : Zq3 x = true) : ∀ f xs ys, x ≠ .fn (.yield f) xs ys := by
 rintro f xs ys rfl; cases h
theorem Zxa {t : TypeId} {i : TI} (hi : TIok P t i) {f o n : Nat} (h : plc i f = some (o, n)) : fld P t f = some (o, n) := by
 unfold plc at h
 split at h
 ·rename_i o' n' b hf
  simp only [Ye, Yaf] at h
  obtain ⟨rfl, rfl⟩ := h
  exact (Zju hi hf).1
 ·cases h
theorem Zfg {t : TypeId} {i : TI} (hi : TIok P t i) : ∀ (ps : List (Nat × AV)) (z cs : List AV), (∀ p ∈ ps, Zq3 p.2 = true) → ZkW i z ps = some cs → ZbS (fld P t) (Zan r z) (ps.map fun p => (p.1, ren r p.2)) = some (Zan r cs)
 | [], z, cs, _, h => by
  simp only [ZkW, Ye] at h
  subst h
  simp [ZbS]
 | (f, v) :: ps, z, cs, hn, h => by
  simp only [ZkW] at h
  split at h
  ·rename_i off size vs hp hv
   split at h
   ·rename_i h1 h2
    have h1 := Ya h1
    have h2 := Yf h2
    have hv' := Zb0 (r := r) hv (ZeF (hn (f, v) (Yu ..)))
    simp only [YT, ZbS, Zxa hi hp, hv', ZaC]
    rw [if_neg (by omega)]
    have := Zfg hi ps _ cs (fun p hp => hn p (List.mem_cons_of_mem _ hp)) h
    rw [← this]
    simp only [ZbF, Za8, Za1]
   ·cases h
  ·cases h
theorem Zg8 {t : TypeId} {i : TI} (hi : TIok P t i) {parts : List (Nat × AV)} (hn : ∀ p ∈ parts, Zq3 p.2 = true) (hz : ∀ z, i.zer = some z → Zan r z = z) (h : ZjB i parts a K) :
  ZcJ P t (parts.map fun p => (p.1, ren r p.2)) (KR r K) := by
 unfold ZjB at h
 split at h
 ·rename_i z h1 h2
  split at h
  ·rename_i cs hf
   have := Zfg (r := r) hi _ _ _ hn hf
   unfold ZcJ
   rw [hi.zer _ h2]
   rw [hz z h2] at this
   simp only [this]
   exact ⟨hi.str h1, .mk' h rfl⟩
  grind
 grind
theorem ZpL {x : AV} (h : x.flat = true) : ren r x = x := by cases x <;> first | (simp [ren]; done) | cases h
theorem ZbU {z : List AV} (h : z.all AV.flat = true) : Zan r z = z := by
 induction z with
 | nil => simp [Zan]
 | cons x z ih =>
  simp only [YaA, Yc] at h
  rw [Zan, ZpL h.1, ih h.2]
theorem Zez {c x y : Operand} {ρ ρ' : Operand → AV} {t : Bool} (hc : ρ c = .d (.bool t)) (hc' : ρ' c = ren r (ρ c)) (hx : t = true → ρ' x = ren r (ρ x)) (hy : t = false → ρ' y = ren r (ρ y)) (h : tV T H (.pick c x y) ρ g a K) :
  vOp P H' (.pick c x y) ρ' (KR r K) := by
 simp only [tV, hc] at h
 rw [hc] at hc'
 simp only [ren] at hc'
 simp only [vOp, hc']
 rw [Zp6] at h
 cases t
 ·exact .mk' h (by simp [hy rfl])
 ·exact .mk' h (by simp [hx rfl])
theorem ZhZ {ρ ρ' : Operand → AV} {xs : List Operand} (h : ∀ x ∈ xs, ρ' x = ren r (ρ x)) : xs.map ρ' = Zan r (xs.map ρ) := by
 rw [ZbK, Yaq]
 exact YW h
theorem Zjo {ρ ρ' : Operand → AV} {o : Option Operand} (h : ∀ x, o = some x → ρ' x = ren r (ρ x)) : o.map ρ' = (o.map ρ).map (ren r) := by
 cases o with
 | none => rfl
 | some x => simp [h x rfl]
theorem ZhB {r : Ren} {mx : Bool} {x y : AV} {a : AT} {K : AV → AT → Prop} (h : vMM mx x y (fun v => K v a)) : vMM mx (ren r x) (ren r y) (KR r K) := by
 unfold vMM at h
 split at h
 ·simp only [ren, vMM]; exact .mk' h rfl
 grind
theorem Zot (hT : TOk P T) (hH : Zhc r H H') (hg : ∀ b, g = some b → b = true) {op : Op} {ρ ρ' : Operand → AV} (hρ : ∀ x ∈ op.operands, ρ' x = ren r (ρ x)) (h : tV T H op ρ g a K) : vOp P H' op ρ' (KR r K) := by
 have get : ∀ {x : Operand}, x ∈ op.operands → ρ' x = ren r (ρ x) := fun hx => hρ _ hx
 cases op <;> simp only [tV] at h <;> try exact h.elim
 case move x => exact .mk' h (get (by simp [Op.operands]))
 case assign x => exact .mk' h (get (by simp [Op.operands]))
 case pick c x y =>
  split at h
  ·rename_i t hc
   exact Zez (a := a) (g := g) (T := T) (H := H) hc (get (by simp [Op.operands])) (fun _ => get (by simp [Op.operands])) (fun _ => get (by simp [Op.operands])) (by simp only [tV, hc]; exact h)
  ·grind
 case load t x =>
  split at h
  ·rename_i i hi; simp only [vOp]; rw [get (x := x) (by simp [Op.operands])]; exact Zdq (hT _ _ hi) hH hg h
  ·grind
 case fieldAddr t x f =>
  split at h
  ·rename_i i hi; simp only [vOp]; rw [get (x := x) (by simp [Op.operands])]; exact Zeh (hT _ _ hi) hH h
  ·grind
 case field t x f =>
  split at h
  ·rename_i i hi; simp only [vOp]; rw [get (x := x) (by simp [Op.operands])]; exact Zhh (hT _ _ hi) h
  ·grind
 case indexAddr t x j =>
  split at h
  ·rename_i i hi; simp only [vOp]; rw [get (x := x) (by simp [Op.operands]), get (x := j) (by simp [Op.operands])]; exact Zel (hT _ _ hi) hH hg h
  ·grind
 case index t x j =>
  split at h
  ·rename_i i hi; simp only [vOp]; rw [get (x := x) (by simp [Op.operands]), get (x := j) (by simp [Op.operands])]; exact Zhl (hT _ _ hi) hg h
  ·grind
 case extract x j =>
  simp only [vOp]
  rw [get (x := x) (by simp [Op.operands])]
  split at h
  ·rename_i vs hx
   rw [hx]
   simp only [ren, Zcz]
   rw [Za2] at h
   split at h
   ·rename_i y hy; rw [hy]; exact .mk' h rfl
   grind
  ·grind
 case binOp o t x y u =>
  split at h
  ·rename_i i hi; simp only [vOp]; rw [get (x := x) (by simp [Op.operands]), get (x := y) (by simp [Op.operands])]; exact ZkO (hT _ _ hi) hH hg h
  ·grind
 case unOp o t x => simp only [vOp]; rw [get (x := x) (by simp [Op.operands])]; exact Zk6 hg h
 case nilCheck x =>
  split at h
  ·rename_i k q off hx
   split at h
   ·rename_i hl
    simp only [vOp]
    rw [get (x := x) (by simp [Op.operands]), hx]
    obtain ⟨g1, g2, _, _, _⟩ := hH.at hl
    simp only [ren, ZqE]
    exact ⟨g1.symm ▸ rfl, g2, .mk' h (by simp [ren])⟩
   grind
  ·rename_i cs off hx
   simp only [vOp]
   rw [get (x := x) (by simp [Op.operands]), hx]
   simp only [ren, ZqE]
   exact .mk' h (by simp [ren])
  ·grind
 case convert s d x =>
  split at h
  ·rename_i i j hi hj; simp only [vOp]; rw [get (x := x) (by simp [Op.operands])]; exact Zik (hT _ _ hi) (hT _ _ hj) hg h
  ·grind
 case makeFunc fn first caps =>
  have e1 : first.toList.map ρ' = Zan r (first.toList.map ρ) := ZhZ fun x hx => get (by simp only [Op.operands, YaI]; exact .inl (by simpa using hx))
  have e2 : caps.toList.map ρ' = Zan r (caps.toList.map ρ) := ZhZ fun x hx => get (by simp only [Op.operands, YaI]; exact .inr (by simpa using hx))
  simp only [vOp]
  rw [e1, e2]
  split at h
  ·grind
  ·rename_i hne
   refine .mk' h ?_
   cases fn <;> first | exact absurd rfl (hne _) | simp [ren]
 case slice t x lo hi mx =>
  split at h
  ·rename_i i hi'
   simp only [vOp]
   rw [get (x := x) (by simp [Op.operands]), Zjo (o := lo) (fun y hy => get (by subst hy; simp [Op.operands])), Zjo (o := hi) (fun y hy => get (by subst hy; simp [Op.operands]))]
   exact Zhq (hT _ _ hi') hH hg h
  ·grind
 case build t parts =>
  split at h
  ·rename_i i hi hn
   simp only [vOp]
   have e : (parts.toList.map fun p => (p.1, ρ' p.2)) = (parts.toList.map fun p => (p.1, ρ p.2)).map fun p => (p.1, ren r p.2) := by
    rw [Yaq]
    refine YW fun p hp => ?_
    simp only [Function.comp]
    rw [get (x := p.2) (by simp only [Op.operands, YaJ, Yr]; exact ⟨p, hp, rfl⟩)]
   rw [e]
   refine Zg8 (hT _ _ hi) (fun p hp => ?_) (fun z hz => ZbU ((hT _ _ hi).flt z hz)) h
   obtain ⟨q, hq, rfl⟩ := Yr.1 hp
   grind
  ·grind
 case lookup t x y ck =>
  split at h
  ·rename_i i hi; simp only [vOp]; rw [get (x := x) (by simp [Op.operands]), get (x := y) (by simp [Op.operands])]; exact ZiH (hT _ _ hi) hH hg h
  ·grind
 case call c =>
  split at h
  ·rename_i x t hc hx ht
   split at h
   ·rename_i i hi
    have e1 : c.args = #[x] := Y1 (by simpa using hx)
    have e2 : c.argTypes = #[t] := Y1 (by simpa using ht)
    simp only [vOp, hc, e1, e2]
    show 1 = 1 ∧ ZhX P H' t (ρ' x) (KR r K)
    rw [get (x := x) (by simp [Op.operands, Call.operands, hc, e1])]
    exact ⟨rfl, ZjQ (hT _ _ hi) hH hg h⟩
   grind
  ·rename_i x y hc hx
   have e1 : c.args = #[x, y] := Y1 (by simpa using hx)
   simp only [vOp, hc, e1]
   show vMM false (ρ' x) (ρ' y) (KR r K)
   rw [get (x := x) (by simp [Op.operands, Call.operands, hc, e1]), get (x := y) (by simp [Op.operands, Call.operands, hc, e1])]
   exact ZhB h
  ·rename_i x y hc hx
   have e1 : c.args = #[x, y] := Y1 (by simpa using hx)
   simp only [vOp, hc, e1]
   show vMM true (ρ' x) (ρ' y) (KR r K)
   rw [get (x := x) (by simp [Op.operands, Call.operands, hc, e1]), get (x := y) (by simp [Op.operands, Call.operands, hc, e1])]
   exact ZhB h
  ·rename_i x y z hc hx
   have e1 : c.args = #[x, y, z] := Y1 (by simpa using hx)
   simp only [vOp, hc, e1]
   show Zom true (ρ' x) (ρ' y) (ρ' z) (KR r K)
   rw [get (x := x) (by simp [Op.operands, Call.operands, hc, e1]), get (x := y) (by simp [Op.operands, Call.operands, hc, e1]), get (x := z) (by simp [Op.operands, Call.operands, hc, e1])]
   unfold Zom at h
   split at h
   ·rename_i h1 h2 h3
    rw [h1, h2, h3]
    simp only [ren, Zom]; exact .mk' h rfl
   grind
  ·grind
end
abbrev Zci := List (Nat × Bool)
abbrev Env := List (Nat × Zci)
def lk : Env → Nat → Zci
 | [], _ => []
 | (i, c) :: r, j => match Nat.beq i j with | true => c | false => lk r j
def ZvD (t : Bool) : Bool → Bool
 | true => t
 | false => !t
theorem Ze8 {t b : Bool} : ZvD t b = true ↔ t = b := by cases t <;> cases b <;> simp [ZvD]
def Zr1 : Zci → Zci → Bool
 | [], [] => true
 | (i, a) :: r, (j, b) :: q => Nat.beq i j && ZvD a b && Zr1 r q
 | _, _ => false
theorem Zh0 : ∀ {a b : Zci}, Zr1 a b = true → a = b
 | [], [], _ => rfl
 | (i, a) :: r, (j, b) :: q, h => by
  simp only [Zr1, Yc] at h
  rw [Ya h.1.1, Ze8.1 h.1.2, Zh0 h.2]
 | [], _ :: _, h => by simp [Zr1] at h
 | _ :: _, [], h => by simp [Zr1] at h
def ZxG (a : Zci) : Zci → Bool
 | [] => Zr1 a []
 | q :: b => Zr1 a (q :: b) || ZxG a b
theorem Zjj {a : Zci} : ∀ {b : Zci}, ZxG a b = true → ∀ q ∈ a, q ∈ b
 | [], h, q, hq => by rw [Zh0 h] at hq; exact hq
 | p :: b, h, q, hq => by
  simp only [ZxG, Yz] at h
  rcases h with h | h
  ·rw [Zh0 h] at hq; exact hq
  ·exact List.mem_cons_of_mem _ (Zjj h q hq)
def ZfK (s : Nat → AV) (c : Zci) : Prop := ∀ q ∈ c, s q.1 = .d (.bool q.2)
def Zdh (s : Nat → AV) : Zci → Option Bool
 | [] => some true
 | [(d, b)] => match s d with | .d (.bool t) => some (ZvD t b) | _ => none
 | (d, b) :: r => match s d, Zdh s r with | .d (.bool t), some c => some (c && ZvD t b) | _, _ => none
theorem ZbQ {s : Nat → AV} : ∀ {c : Zci} {g : Bool}, Zdh s c = some g → (g = true ↔ ZfK s c)
 | [], g, h => by simp only [Zdh, Ye] at h; subst h; simp [ZfK]
 | [(d, b)], g, h => by
  simp only [Zdh] at h
  split at h
  ·rename_i t ht
   simp only [Ye] at h
   subst h
   rw [Ze8]
   simp [ZfK, ht]
  ·cases h
 | (d, b) :: q :: r, g, h => by
  simp only [Zdh] at h
  split at h
  ·rename_i t c ht hc
   simp only [Ye] at h
   subst h
   have ih := ZbQ hc
   rw [Yc, ih, Ze8]
   constructor
   ·rintro ⟨h1, rfl⟩ p hp
    rcases Yo.1 hp with rfl | hp
    ·exact ht
    ·exact h1 p hp
   ·intro h1
    refine ⟨fun p hp => h1 p (List.mem_cons_of_mem _ hp), ?_⟩
    have := h1 (d, b) (Yu ..)
    grind
  ·cases h
def Zj4 (e : Nat) (c : Zci) : Bool := c.all fun q => !Nat.beq q.1 e
def fresh (e : Nat) (env : Env) : Bool := env.all fun p => Zj4 e p.2
theorem Zi5 {s : Nat → AV} {e : Nat} {v : AV} {c : Zci} (h : Zj4 e c = true) : ZfK (upd s e v) c ↔ ZfK s c := by
 have key : ∀ q ∈ c, upd s e v q.1 = s q.1 := fun q hq => by
  have := Yj.1 h q hq
  unfold upd
  rw [if_neg]
  intro he
  subst he
  simp at this
 constructor
 ·exact fun h q hq => (key q hq) ▸ h q hq
 ·exact fun h q hq => (key q hq).trans (h q hq)
theorem Zi4 {e : Nat} : ∀ {env : Env}, fresh e env = true → ∀ j, Zj4 e (lk env j) = true
 | [], _, j => rfl
 | (i, c) :: r, h, j => by
  simp only [fresh, YaA, Yc] at h
  simp only [lk]
  split
  ·exact h.1
  ·exact Zi4 h.2 j
theorem Zit {env : Env} {e : Nat} {c : Zci} (j : Nat) : lk ((e, c) :: env) j = if j = e then c else lk env j := by
 simp only [lk]
 by_cases h : j = e
 ·subst h; simp
 ·rw [if_neg h]
  split
  ·rename_i h'; exact absurd (Ya h').symm h
  ·rfl
def chk (env : Env) (c : Zci) : Operand → Bool
 | .tmp t => ZxG (lk env t) c
 | _ => true
def Zbz (env : Env) (c : Zci) : Op → Bool
 | .pick (.tmp d) x y => chk env c (.tmp d) && chk env ((d, true) :: c) x && chk env ((d, false) :: c) y
 | op => op.operands.toList.all (chk env c)
structure RenOk (r : Ren) (l outs : Nat) : Prop where
 own : ∀ d, r.κ (1, d) = (l + 1, d)
 out : ∀ i, i < outs → (r.κ (0, i)).1 ≤ l
 inj : ∀ i j, i < outs → j < outs → r.κ (0, i) = r.κ (0, j) → i = j
 no : ∀ k, r.no k → ∃ i, i < outs ∧ r.κ (0, i) = k
structure RG (r : Ren) (l outs : Nat) (env : Env) (τ σ : St) : Prop where
 s : ∀ j, (ZfK τ.s (lk env j) → σ.s j = ren r (τ.s j)) ∧ (¬ ZfK τ.s (lk env j) → σ.s j = .tup [])
 h : Zhc r τ.H σ.H
 g : ∀ d, (σ.H (l + 1, d)).g = r.γ (1, d) + (τ.H (1, d)).g
 go : ∀ i, i < outs → (σ.H (r.κ (0, i))).g = r.γ (0, i) + (τ.H (0, i)).g
 k : ∀ k, (τ.H k).live = true → k.1 = 1 ∨ (k.1 = 0 ∧ k.2 < outs)
 o : ∀ k : Key, k.1 ≤ l → ¬ r.no k → σ.H k = r.H0 k
def Zfe (P : Program) (l : Nat) (r : Ren) (f : FuncId) (xs : List AV) (hb : List (Key × Blk)) (x : AV) : Prop :=
 ∀ H', (∀ p ∈ hb, p.2.live = true → H' (r.κ p.1) = ZaN r p.1 p.2) → (∀ k : Key, k.1 ≤ l → ¬ r.no k → H' k = r.H0 k) → Za3 P f (l + 1) (Zan r xs) H' (fun y H'' => y = ren r x ∧ H'' = H')
def Zl7 (P : Program) (l : Nat) (r : Ren) (i : Nat) (xs : List AV) (hb : List (Key × Blk)) (x : AV) : Prop :=
 ∃ f first caps, r.θ i = .fn (.func f) first caps ∧ ∀ H', (∀ p ∈ hb, p.2.live = true → H' (r.κ p.1) = ZaN r p.1 p.2) → (∀ k : Key, k.1 ≤ l → ¬ r.no k → H' k = r.H0 k) → Za3 P f (l + 1) (first ++ Zan r xs ++ caps) H' (fun y H'' => y = ren r x ∧ H'' = H')
def Zos (P : Program) (l : Nat) (r : Ren) (H : Hp) (f : AV) (xs : List AV) (g : Option Bool) (a : AT) (K : AV → AT → Prop) : Prop :=
 match f, a with
 | .fn (.func i) first caps, .call x ks a => sdP g (Zfe P l r i (first ++ xs ++ caps) (ks.map fun k => (k, H k)) x) ∧ K x a
 | .fn (.yield i) _ _, .call x ks a => sdP g (Zl7 P l r i xs (ks.map fun k => (k, H k)) x) ∧ K x a
 | _, _ => False
def bsV (T : Nat → Option TI) (τ : St) (t : TypeId) (len : Nat) (parts : List (Nat × Operand)) (a : AT) (K : AV → AT → Prop) : Prop :=
 match T t with
 | some i => (match i.elm with
  | some (e, sz) => (match Nat.ble 1 sz, len with
   | true, 0 => (match parts with | [] => K .e0 a | _ => False)
   | true, len + 1 => (match T e, Nat.ble ((len + 1) * sz) 16777216 with
    | some j, true => (match j.zer with
     | some z => (match Nat.beq z.length sz, ZkU sz 0 (parts.map fun p => (p.1, ev τ.s p.2)) with
      | true, some es => (match Nat.beq es.length (len + 1) with | true => K (.d (.list es)) a | false => False)
      | _, _ => False)
     | none => False)
    | _, _ => False)
   | _, _ => False)
  | none => False)
 | none => False
def pV (P : Program) (T : Nat → Option TI) (l : Nat) (r : Ren) (τ : St) (op : Op) (g : Option Bool) (a : AT) (K : AV → AT → Prop) : Prop :=
 match op with
 | .call c => match c.callee with
  | .value f => Zos P l r τ.H (ev τ.s f) (c.args.toList.map (ev τ.s)) g a K
  | _ => tV T τ.H op (ev τ.s) g a K
 | .buildSlice t len parts => bsV T τ t len parts.toList a K
 | op => tV T τ.H op (ev τ.s) g a K
def ZjO (n d : Nat) (K : St → AT → Prop) (τ : St) (v : AV) (a : AT) : Prop :=
 match Nat.ble (d + 1) n with
 | true => K ⟨upd τ.s d v, τ.H⟩ a
 | false => False
section
variable {P : Program} {T : Nat → Option TI} {r : Ren} {l n outs : Nat} {env : Env} {τ σ : St} {g : Option Bool} {a : AT} {c : Zci}
theorem ZvK (v : Value) : ren r (cv v) = cv v := by unfold cv; split <;> simp [ren]
theorem ZeQ (h : RG r l outs env τ σ) (hs : ZfK τ.s c) {x : Operand} (hx : chk env c x = true) : ev σ.s x = ren r (ev τ.s x) := by
 cases x with
 | tmp t => exact (h.s t).1 fun q hq => hs q (Zjj hx q hq)
 | const v => exact (ZvK v).symm
 | global g => simp [ev, ren]
 | func f => simp [ev, ren, Zan]
theorem ZbY (h : RG r l outs env τ σ) (hs : ZfK τ.s c) {op : Op} (hx : op.operands.toList.all (chk env c) = true) : ∀ x ∈ op.operands, ev σ.s x = ren r (ev τ.s x) :=
 fun x hm => ZeQ h hs (Yj.1 hx x (by simpa using hm))
theorem ZqJ (hT : TOk P T) (h : RG r l outs env τ σ) (hs : ZfK τ.s c) (hg : ∀ b, g = some b → b = true) {op : Op} (hx : Zbz env c op = true) {K : AV → AT → Prop} (hp : tV T τ.H op (ev τ.s) g a K) :
  vOp P σ.H op (ev σ.s) (KR r K) := by
 unfold Zbz at hx
 split at hx
 ·rename_i d x y
  simp only [Yc] at hx
  obtain ⟨⟨h1, h2⟩, h3⟩ := hx
  have hp' := hp
  simp only [tV] at hp'
  split at hp'
  ·rename_i t ht
   have h0 := ZeQ h hs h1
   refine Zez (T := T) (H := τ.H) (g := g) (a := a) ht h0 (fun e => ZeQ h (c := (d, true) :: c) ?_ h2) (fun e => ZeQ h (c := (d, false) :: c) ?_ h3) hp
   all_goals
    subst e
    intro q hq
    rcases Yo.1 hq with rfl | hq
    ·exact ht
    ·exact hs q hq
  grind
 ·exact Zot hT h.h hg (ZbY h hs hx) hp
theorem ZeI (h : RG r l outs env τ σ) (hs : ZfK τ.s c) (hg : ∀ b, g = some b → b = true) {cl : Call} {f : Operand} (hc : cl.callee = .value f) (hx : Zbz env c (.call cl) = true) {K : AV → AT → Prop}
  (hp : Zos P l r τ.H (ev τ.s f) (cl.args.toList.map (ev τ.s)) g a K) :
  ∃ i first caps x a', ev σ.s f = .fn (.func i) first caps ∧ Za3 P i (l + 1) (first ++ cl.args.toList.map (ev σ.s) ++ caps) σ.H (fun y H' => y = ren r x ∧ H' = σ.H) ∧ K x a' := by
 have hx : (Op.call cl).operands.toList.all (chk env c) = true := hx
 have hf := ZbY h hs hx f (by simp [Op.operands, Call.operands, hc])
 have ha : cl.args.toList.map (ev σ.s) = Zan r (cl.args.toList.map (ev τ.s)) := ZhZ fun x hm => ZbY h hs hx x (by simp only [Op.operands, Call.operands, hc, YaI]; exact .inr (by simpa using hm))
 have hb : ∀ ks : List Key, ∀ p ∈ ks.map fun k => (k, τ.H k), p.2.live = true → σ.H (r.κ p.1) = ZaN r p.1 p.2 := fun ks p hp hl => by
  obtain ⟨k, hk, rfl⟩ := Yr.1 hp
  exact h.h k hl
 unfold Zos at hp
 split at hp
 ·rename_i i first caps x ks a' he
  have h1 : Zfe _ _ _ _ _ _ _ := Zas hg hp.1
  refine ⟨i, Zan r first, Zan r caps, x, a', by rw [hf, he]; simp [ren], ?_, hp.2⟩
  rw [ha, ← ZbF, ← ZbF]
  exact h1 σ.H (hb ks) h.o
 ·rename_i i xs ys x ks a' he
  obtain ⟨f', first, caps, h2, h3⟩ : Zl7 _ _ _ _ _ _ _ := Zas hg hp.1
  refine ⟨f', first, caps, x, a', by rw [hf, he]; simp [ren, h2], ?_, hp.2⟩
  rw [ha]
  exact h3 σ.H (hb ks) h.o
 grind
theorem RG.put (h : RG r l outs env τ σ) {e : Nat} {ch : Zci} (hf : fresh e env = true) (hn : Zj4 e ch = true) {v : AV} {y : AV} (hy : ZfK τ.s ch → y = ren r v) (hno : ¬ ZfK τ.s ch → y = .tup []) :
  RG r l outs ((e, ch) :: env) ⟨upd τ.s e v, τ.H⟩ ⟨upd σ.s e y, σ.H⟩ := by
 refine ⟨fun j => ?_, h.h, h.g, h.go, h.k, h.o⟩
 simp only
 rw [Zit]
 by_cases hj : j = e
 ·subst hj
  rw [if_pos rfl, Zi5 hn]
  simp only [upd, if_true]
  grind
 ·rw [if_neg hj, Zi5 (Zi4 hf j)]
  simp only [upd, if_neg hj]
  exact h.s j
end
end Go.Eng
