/-
  Reckoning by the kernel, part O: a local state whose keys and generations are numerals; tables of the types; answers that are handed in; what one operation that writes nothing yields, and that this stays so under every renaming of keys.
-/
import Derived.Test.YthagpbkmakocjaaEngN
import Derived.Test.YthagpbkmakocjaaEngQa
namespace Go.Eng
set_option linter.all false
open Go Go.RowKit

/-- what is known of a type -/
structure TI where
  agg : Bool := false
  kin : Nat := 0
  siz : Nat := 1
  elm : Option (Nat × Nat) := none
  fld : List (Nat × Nat × Bool) := []
  zer : Option (List AV) := none
  eqt : Option (List Nat) := none
  str : Bool := false
  ik : Option IntKind := none
  byt : Option Nat := none

/-- no key in it -/
def AV.flat : AV → Bool
  | .d _ | .e0 | .p _ | .iptr _ _ => true
  | _ => false

structure TIok (P : Program) (t : TypeId) (i : TI) : Prop where
  agg : aggB P t = some i.agg
  kin : kin P t = i.kin
  siz : P.cellsOf t = i.siz
  elm : ∀ e, i.elm = some e → Go.Eng.elm P t = some e
  fld : ∀ (j : Nat) (x : Nat × Nat × Bool), i.fld[j]? = some x → Go.Eng.fld P t j = some (x.1, x.2.1) ∧ fldT P t j = some x
  zer : ∀ z, i.zer = some z → Go.Eng.zer P t = some z
  eqt : ∀ z, i.eqt = some z → eqT P t = some z
  str : i.str = true → strB P t = true
  ik : ∀ z, i.ik = some z → P.underlying t = some (.int z)
  byt : ∀ z, i.byt = some z → P.bytesOf t ≤ z ∧ P.bytesOf t ≠ 0
  flt : ∀ z, i.zer = some z → z.all AV.flat = true

def TOk (P : Program) (T : Nat → Option TI) : Prop := ∀ t i, T t = some i → TIok P t i

/-- answers, handed in where a reckoning alone does not go on -/
inductive AT where
  | nil
  | go (r : AT)
  | av (x : AV) (r : AT)
  | cs (c : List AV) (r : AT)
  | ds (e : List D) (r : AT)
  | num (n : Int) (r : AT)
  | nat (n : Nat) (r : AT)
  | call (x : AV) (ks : List Key) (r : AT)
  | callH (x : AV) (ks : List Key) (hb : List (Key × List AV)) (r : AT)
  | br (a b : AT)
  | frz (d : Nat) (js : List (Nat × List (List D))) (cs : List (Key × Nat × List (List D))) (r : AT)
  | adc (k : Key) (i d : Nat) (e : TypeId) (sz : Nat) (r : AT)
  | mv (d j : Nat) (r : AT)
  | ads (j d : Nat) (e : TypeId) (sz : Nat) (r : AT)
  | trim (k : Key) (c : List AV) (r : AT)
  | reb (j d m : Nat) (c : List AV) (r : AT)
  | sep (r : AT)
  | hard (x : AV) (ks : List Key) (hb : List (Key × Blk)) (fr : List Key) (r : AT)

structure Ren where
  κ : Key → Key
  γ : Key → Nat
  θ : Nat → AV
  H0 : Hp
  no : Key → Prop

mutual
def ren (r : Ren) : AV → AV
  | .ref k g off n => .ref (r.κ k) (r.γ k + g) off n
  | .ptr k g off => .ptr (r.κ k) (r.γ k + g) off
  | .fn f xs ys => match f with
    | .yield i => r.θ i
    | f => .fn f (rens r xs) (rens r ys)
  | .agg xs => .agg (rens r xs)
  | .tup xs => .tup (rens r xs)
  | .top => .top
  | .d x => .d x
  | .e0 => .e0
  | .p x => .p x
  | .iptr cs off => .iptr cs off
def rens (r : Ren) : List AV → List AV
  | [] => []
  | x :: xs => ren r x :: rens r xs
end
def renB (r : Ren) (k : Key) (b : Blk) : Blk := ⟨r.γ k + b.g, true, b.e, b.sz, rens r b.cells⟩

theorem rens_eq {r : Ren} (xs : List AV) : rens r xs = xs.map (ren r) := by
  induction xs with
  | nil => simp [rens]
  | cons x xs ih => simp [rens, ih]
theorem rens_len {r : Ren} (xs : List AV) : (rens r xs).length = xs.length := by rw [rens_eq, List.length_map]
theorem rens_app {r : Ren} (xs ys : List AV) : rens r (xs ++ ys) = rens r xs ++ rens r ys := by simp [rens_eq]
theorem rens_drop {r : Ren} (xs : List AV) (n : Nat) : (rens r xs).drop n = rens r (xs.drop n) := by simp [rens_eq]
theorem rens_take {r : Ren} (xs : List AV) (n : Nat) : (rens r xs).take n = rens r (xs.take n) := by simp [rens_eq]
theorem rens_at {r : Ren} (xs : List AV) (n : Nat) : (rens r xs)[n]? = (xs[n]?).map (ren r) := by simp [rens_eq]
theorem rens_d {r : Ren} (xs : List D) : rens r (xs.map .d) = xs.map .d := by
  induction xs with
  | nil => simp [rens]
  | cons x xs ih => simp only [List.map_cons, rens, ren, ih]
theorem rens_nil {r : Ren} {xs : List AV} (h : xs ≠ []) : rens r xs ≠ [] := by cases xs <;> simp_all [rens]

def HRel (r : Ren) (H H' : Hp) : Prop := ∀ k, (H k).live = true → H' (r.κ k) = renB r k (H k)

/-! ### Small functions that the kernel reckons -/
def nth {α : Type} : List α → Nat → Option α
  | [], _ => none
  | x :: _, 0 => some x
  | _ :: xs, i + 1 => nth xs i
theorem nth_eq {α : Type} : ∀ (xs : List α) (i : Nat), nth xs i = xs[i]?
  | [], i => by simp [nth]
  | x :: xs, 0 => by simp [nth]
  | x :: xs, i + 1 => by simp [nth, nth_eq xs i]
def takeX {α : Type} : Nat → List α → Option (List α)
  | 0, _ => some []
  | n + 1, x :: xs => match takeX n xs with | some r => some (x :: r) | none => none
  | _ + 1, [] => none
theorem takeX_eq {α : Type} : ∀ (n : Nat) (xs r : List α), takeX n xs = some r → xs.take n = r ∧ n ≤ xs.length
  | 0, xs, r, h => by simp only [takeX, Option.some.injEq] at h; subst h; simp
  | n + 1, [], r, h => by simp [takeX] at h
  | n + 1, x :: xs, r, h => by
    simp only [takeX] at h
    split at h
    · rename_i q hq
      cases h
      obtain ⟨h1, h2⟩ := takeX_eq n xs q hq
      exact ⟨by simp [h1], by simp; omega⟩
    · cases h
def liveB (H : Hp) (k : Key) (g : Nat) : Bool := Nat.beq g (H k).g && (H k).live
theorem liveB_eq {H : Hp} {k : Key} {g : Nat} (h : liveB H k g = true) : g = (H k).g ∧ (H k).live = true := by
  simp only [liveB, Bool.and_eq_true] at h
  exact ⟨Nat.eq_of_beq_eq_true h.1, h.2⟩
theorem HRel.at {r : Ren} {H H' : Hp} (h : HRel r H H') {k : Key} {g : Nat} (hl : liveB H k g = true) : r.γ k + g = (H' (r.κ k)).g ∧ (H' (r.κ k)).live = true ∧ (H' (r.κ k)).e = (H k).e ∧ (H' (r.κ k)).sz = (H k).sz ∧ (H' (r.κ k)).cells = rens r (H k).cells := by
  obtain ⟨h1, h2⟩ := liveB_eq hl
  rw [h k h2]
  subst h1
  exact ⟨rfl, rfl, rfl, rfl, rfl⟩

/-- what is to be shown beside; of a guarded operation only where it is wanted -/
def sdP (g : Option Bool) (S : Prop) : Prop :=
  match g with
  | none => S
  | some b => b = true → S
theorem sdP_get {g : Option Bool} {S : Prop} (hg : ∀ b, g = some b → b = true) (h : sdP g S) : S := by
  unfold sdP at h
  split at h
  · exact h
  · exact h (hg _ rfl)

def CellsAt (cs : List AV) (off : Nat) (c : List AV) : Prop := (cs.drop off).take c.length = c
def IdxS (es : List (List D)) (n : Int) (e : List D) : Prop := 0 ≤ n ∧ es[n.toNat]? = some e
def IdxR (n : Int) (len off sz o : Nat) : Prop := 0 ≤ n ∧ n < len ∧ (off + n.toNat) * sz = o
def IdxB (s : ByteArray) (n b : Int) : Prop := 0 ≤ n ∧ ∃ x : UInt8, s.data.toList[n.toNat]? = some x ∧ b = x.toNat
def WrapS (k : IntKind) (a r : Int) : Prop := k.wrap a = r
def EqI (a b : Int) : Prop := a = b
def NeI (a b : Int) : Prop := a ≠ b
def LeI (a b : Int) : Prop := a ≤ b
def AddS (a b : ByteArray) : Prop := a.size + b.size ≤ 9223372036854775807
def SlB (dflt : Nat) (o : Option AV) (l : Nat) : Prop :=
  match o with
  | none => l = dflt
  | some (.d (.int _ n)) => n = l
  | _ => False
def SlS (l h n : Nat) : Prop := l ≤ h ∧ h ≤ n
def SlD (es : List (List D)) (sz l h : Nat) (es' : List (List D)) : Prop := (∀ e, e ∈ es → e.length = sz) ∧ (es.drop l).take (h - l) = es'
def SlR (off l h o n : Nat) : Prop := off + l = o ∧ h - l = n

def pickV (t : Bool) (a b : AV) : AV :=
  match a, b with
  | .d (.bool x), .d (.bool y) => .d (.bool (cond t x y))
  | a, b => cond t a b
theorem pickV_eq (t : Bool) (a b : AV) : pickV t a b = if t then a else b := by
  unfold pickV
  split <;> cases t <;> rfl

/-! ### The values -/
def tLoad (i : TI) (H : Hp) (x : AV) (g : Option Bool) (a : AT) (K : AV → AT → Prop) : Prop :=
  match x with
  | .iptr cs off => match i.agg with
    | true => match Nat.ble 1 i.siz, takeX i.siz (cs.drop off) with | true, some c => K (.agg (c.map .d)) a | _, _ => False
    | false => match nth cs off with | some c => K (.d c) a | none => False
  | .ptr k q off => match liveB H k q with
    | true => match a with
      | .go r => (match i.agg with
        | true => match Nat.ble 1 i.siz, takeX i.siz ((H k).cells.drop off) with | true, some c => K (.agg c) r | _, _ => False
        | false => match nth (H k).cells off with | some c => K c r | none => False)
      | .cs c r => (match i.agg with
        | true => match Nat.ble 1 i.siz, Nat.beq c.length i.siz with | true, true => sdP g (CellsAt (H k).cells off c) ∧ K (.agg c) r | _, _ => False
        | false => match c with | [x] => sdP g (CellsAt (H k).cells off [x]) ∧ K x r | _ => False)
      | _ => False
    | false => False
  | _ => False

def tFieldAddr (i : TI) (H : Hp) (f : Nat) (x : AV) (a : AT) (K : AV → AT → Prop) : Prop :=
  match nth i.fld f with
  | some (o, n, _) => match Nat.ble 1 n with
    | true => (match x with
      | .iptr cs off => K (.iptr cs (off + o)) a
      | .ptr k q off => match liveB H k q with | true => K (.ptr k q (off + o)) a | false => False
      | _ => False)
    | false => False
  | none => False

def tField (i : TI) (f : Nat) (x : AV) (a : AT) (K : AV → AT → Prop) : Prop :=
  match nth i.fld f, x with
  | some (o, n, true), .agg cs => (match Nat.ble 1 n with | true => K (.agg ((cs.drop o).take n)) a | false => False)
  | some (o, _, false), .agg cs => (match nth cs o with | some c => K c a | none => False)
  | _, _ => False

def tIndexAddr (i : TI) (H : Hp) (x j : AV) (g : Option Bool) (a : AT) (K : AV → AT → Prop) : Prop :=
  match i.elm, j with
  | some (_, sz), .d (.int _ n) => (match x, a with
    | .d (.list es), .ds e r => (match Nat.beq e.length sz, Nat.ble 1 sz with | true, true => sdP g (IdxS es n e) ∧ K (.iptr e 0) r | _, _ => False)
    | .ref k q off len, .nat o r => (match liveB H k q, Nat.beq (H k).sz sz, Nat.ble 1 sz with | true, true, true => sdP g (IdxR n len off sz o) ∧ K (.ptr k q o) r | _, _, _ => False)
    | _, _ => False)
  | _, _ => False

def tIndex (i : TI) (x j : AV) (g : Option Bool) (a : AT) (K : AV → AT → Prop) : Prop :=
  match x, j, a with
  | .d (.str s), .d (.int _ n), .num b r => (match Nat.beq i.kin 2 with | true => sdP g (IdxB s n b) ∧ K (.d (.int .u8 b)) r | false => False)
  | _, _, _ => False

def tInt (op : BinOp) (k : IntKind) (x y : Int) (g : Option Bool) (a : AT) (K : AV → AT → Prop) : Prop :=
  match op with
  | .eql => K (.d (.bool (decide (x = y)))) a
  | .neq => K (.d (.bool (!decide (x = y)))) a
  | .lss => K (.d (.bool (decide (x < y)))) a
  | .leq => K (.d (.bool (decide (x ≤ y)))) a
  | .gtr => K (.d (.bool (decide (y < x)))) a
  | .geq => K (.d (.bool (decide (y ≤ x)))) a
  | .add => match a with | .num n r => sdP g (WrapS k (x + y) n) ∧ K (.d (.int k n)) r | _ => False
  | .sub => match a with | .num n r => sdP g (WrapS k (x - y) n) ∧ K (.d (.int k n)) r | _ => False
  | .mul => match a with | .num n r => sdP g (WrapS k (x * y) n) ∧ K (.d (.int k n)) r | _ => False
  | .quo => match a with | .num n r => sdP g (NeI y 0) ∧ sdP g (WrapS k (x.tdiv y) n) ∧ K (.d (.int k n)) r | _ => False
  | .rem => match a with | .num n r => sdP g (NeI y 0) ∧ sdP g (EqI (x.tmod y) n) ∧ K (.d (.int k n)) r | _ => False
  | .shr => match a with | .num n r => sdP g (LeI 0 y) ∧ sdP g (EqI (x.fdiv (2 ^ (min y.toNat k.bits))) n) ∧ K (.d (.int k n)) r | _ => False
  | .shl => match a with | .num n r => sdP g (LeI 0 y) ∧ sdP g (WrapS k (x * 2 ^ (min y.toNat k.bits)) n) ∧ K (.d (.int k n)) r | _ => False
  | _ => False

def tStr (op : BinOp) (x y : ByteArray) (g : Option Bool) (a : AT) (K : AV → AT → Prop) : Prop :=
  match op with
  | .add => sdP g (AddS x y) ∧ K (.d (.str (x ++ y))) a
  | .eql => K (.d (.bool (decide (x = y)))) a
  | .neq => K (.d (.bool (!decide (x = y)))) a
  | .lss => K (.d (.bool (sLt x y))) a
  | .leq => K (.d (.bool (sLt x y || decide (x = y)))) a
  | .gtr => K (.d (.bool (!(sLt x y || decide (x = y))))) a
  | .geq => K (.d (.bool (!sLt x y))) a
  | _ => False

def tNil (H : Hp) (neg : Bool) (x : AV) (a : AT) (K : AV → AT → Prop) : Prop :=
  match x with
  | .e0 => ∀ b, K (.d (.bool b)) a
  | .d (.list es) => ∀ b, (es ≠ [] → b = neg) → K (.d (.bool b)) a
  | .ref k q _ n => (match liveB H k q with | true => ∀ b, (n ≠ 0 → b = neg) → K (.d (.bool b)) a | false => False)
  | _ => False

def ikB : IntKind → IntKind → Bool
  | .i8, .i8 | .i16, .i16 | .i32, .i32 | .i64, .i64 | .u8, .u8 | .u16, .u16 | .u32, .u32 | .u64, .u64 => true
  | _, _ => false
theorem ikB_eq {a b : IntKind} (h : ikB a b = true) : a = b := by cases a <;> cases b <;> first | rfl | cases h

def tBin (i : TI) (H : Hp) (op : BinOp) (ny : Bool) (x y : AV) (g : Option Bool) (a : AT) (K : AV → AT → Prop) : Prop :=
  match x, y with
  | .d (.int k m), .d (.int k' n) => (match ikB k k' with | true => tInt op k m n g a K | false => False)
  | .d (.str m), .d (.str n) => tStr op m n g a K
  | .d (.bool m), .d (.bool n) => (match Nat.beq i.kin 1 with
    | true => (match op with
      | .eql => K (.d (.bool (m == n))) a
      | .neq => K (.d (.bool (!(m == n)))) a
      | _ => False)
    | false => False)
  | .agg xs, .agg ys => (match i.eqt with
    | some ks => (match eqAVs ks xs ys with
      | some b => (match op with
        | .eql => K (.d (.bool b)) a
        | .neq => K (.d (.bool (!b))) a
        | _ => False)
      | none => False)
    | none => False)
  | x, .e0 => (match ny, Nat.beq i.kin 4 with
    | true, true => (match op with
      | .eql => tNil H false x a K
      | .neq => tNil H true x a K
      | _ => False)
    | _, _ => False)
  | _, _ => False

def tUn (op : UnOp) (x : AV) (g : Option Bool) (a : AT) (K : AV → AT → Prop) : Prop :=
  match op, x with
  | .not, .d (.bool b) => K (.d (.bool (!b))) a
  | .neg, .d (.int k n) => (match a with | .num m r => sdP g (WrapS k (0 - n) m) ∧ K (.d (.int k m)) r | _ => False)
  | _, _ => False

def tConv (s d : TI) (x : AV) (g : Option Bool) (a : AT) (K : AV → AT → Prop) : Prop :=
  match x with
  | .d (.int _ n) => (match s.ik, d.ik, a with | some _, some k, .num m r => sdP g (WrapS k n m) ∧ K (.d (.int k m)) r | _, _, _ => False)
  | .d (.str s') => (match Nat.beq s.kin 2, Nat.beq d.kin 2 with | true, true => K (.d (.str s')) a | _, _ => False)
  | _ => False

def tSlice (i : TI) (H : Hp) (x : AV) (lo hi : Option AV) (mx : Bool) (g : Option Bool) (a : AT) (K : AV → AT → Prop) : Prop :=
  match mx, a with
  | false, .nat l (.nat h r) => (match x with
    | .d (.str s) => (match Nat.beq i.kin 2 with | true => sdP g (SlB 0 lo l) ∧ sdP g (SlB s.size hi h) ∧ sdP g (SlS l h s.size) ∧ K (.d (.str (s.extract l h))) r | false => False)
    | .d (.list es) => (match i.elm, r with
      | some (_, sz), .av (.d (.list es')) r => (match Nat.ble 1 sz with
        | true => sdP g (SlB 0 lo l) ∧ sdP g (SlB es.length hi h) ∧ sdP g (SlS l h es.length) ∧ sdP g (SlD es sz l h es') ∧ K (.d (.list es')) r
        | false => False)
      | _, _ => False)
    | .ref k q off n => (match i.elm, r, liveB H k q with
      | some (_, sz), .nat o' (.nat n' r), true => (match Nat.ble 1 sz, Nat.beq (H k).sz sz with
        | true, true => sdP g (SlB 0 lo l) ∧ sdP g (SlB n hi h) ∧ sdP g (SlS l h n) ∧ sdP g (SlR off l h o' n') ∧ K (.ref k q o' n') r
        | _, _ => False)
      | _, _, _ => False)
    | _ => False)
  | _, _ => False

def tLen (i : TI) (H : Hp) (x : AV) (g : Option Bool) (a : AT) (K : AV → AT → Prop) : Prop :=
  match x, a with
  | .d (.str s), .num n r => (match Nat.beq i.kin 2 with | true => sdP g (EqI s.size n) ∧ K (.d (.int .i64 n)) r | false => False)
  | .d (.list es), .num n r => (match Nat.beq i.kin 4 with | true => sdP g (EqI es.length n) ∧ K (.d (.int .i64 n)) r | false => False)
  | .e0, .num n r => (match Nat.beq i.kin 4 with | true => sdP g (EqI 0 n) ∧ K (.d (.int .i64 n)) r | false => False)
  | .ref k q _ m, .num n r => (match Nat.beq i.kin 4, liveB H k q with | true, true => sdP g (EqI m n) ∧ K (.d (.int .i64 n)) r | _, _ => False)
  | _, _ => False

/-- the places of a struct's fields -/
def plc (i : TI) (f : Nat) : Option (Nat × Nat) := match nth i.fld f with | some (o, n, _) => some (o, n) | none => none
def fillT (i : TI) (cells : List AV) : List (Nat × AV) → Option (List AV)
  | [] => some cells
  | (f, v) :: rest => match plc i f, cellsAV v with
    | some (off, size), some vs => match Nat.beq vs.length size, Nat.ble (off + vs.length) cells.length with
      | true, true => fillT i (cells.take off ++ vs ++ cells.drop (off + vs.length)) rest
      | _, _ => none
    | _, _ => none
def tBuild (i : TI) (parts : List (Nat × AV)) (a : AT) (K : AV → AT → Prop) : Prop :=
  match i.str, i.zer with
  | true, some z => (match fillT i z parts with | some cs => K (.agg cs) a | none => False)
  | _, _ => False

/-- no function value -/
def noFn : AV → Bool
  | .fn _ _ _ => false
  | _ => true

def tV (T : Nat → Option TI) (H : Hp) (op : Op) (ρ : Operand → AV) (g : Option Bool) (a : AT) (K : AV → AT → Prop) : Prop :=
  match op with
  | .move x => K (ρ x) a
  | .assign x => K (ρ x) a
  | .pick c x y => match ρ c with | .d (.bool t) => K (pickV t (ρ x) (ρ y)) a | _ => False
  | .load t x => match T t with | some i => tLoad i H (ρ x) g a K | none => False
  | .fieldAddr t x f => match T t with | some i => tFieldAddr i H f (ρ x) a K | none => False
  | .field t x f => match T t with | some i => tField i f (ρ x) a K | none => False
  | .indexAddr t x j => match T t with | some i => tIndexAddr i H (ρ x) (ρ j) g a K | none => False
  | .index t x j => match T t with | some i => tIndex i (ρ x) (ρ j) g a K | none => False
  | .extract x j => match ρ x with | .tup vs => (match nth vs j with | some y => K y a | none => False) | _ => False
  | .binOp o t x y _ => match T t with | some i => tBin i H o (isNilC y) (ρ x) (ρ y) g a K | none => False
  | .unOp o _ x => tUn o (ρ x) g a K
  | .nilCheck x => match ρ x with | .ptr k q off => (match liveB H k q with | true => K (.ptr k q off) a | false => False) | .iptr cs off => K (.iptr cs off) a | _ => False
  | .convert s d x => match T s, T d with | some i, some j => tConv i j (ρ x) g a K | _, _ => False
  | .makeFunc fn first caps => match fn with | .yield _ => False | fn => K (.fn fn (first.toList.map ρ) (caps.toList.map ρ)) a
  | .slice t x lo hi mx => match T t with | some i => tSlice i H (ρ x) (lo.map ρ) (hi.map ρ) mx.isSome g a K | none => False
  | .build t parts => match T t, parts.toList.all (fun p => noFn (ρ p.2)) with | some i, true => tBuild i (parts.toList.map fun p => (p.1, ρ p.2)) a K | _, _ => False
  | .call c => match c.callee, c.args.toList, c.argTypes.toList with
    | .builtin .len, [x], [t] => match T t with | some i => tLen i H (ρ x) g a K | none => False
    | .builtin .min, [x, y], _ => vMM false (ρ x) (ρ y) (fun v => K v a)
    | .builtin .max, [x, y], _ => vMM true (ρ x) (ρ y) (fun v => K v a)
    | .builtin .max, [x, y, z], _ => vMM3 true (ρ x) (ρ y) (ρ z) (fun v => K v a)
    | _, _, _ => False
  | _ => False
end Go.Eng
