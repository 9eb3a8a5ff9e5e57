/-
  A run at known arguments, reckoned whole by the kernel (part 1): what the operations of a region yield where all is known.
-/
import Derived.Test.YthagpbkmakocjaaEngZh
namespace Go.Eng
set_option linter.all false
open Go Go.RowKit

/-! ### Reckoned out -/
section
variable {β : Type}
def fN (n : Nat) (K : Nat → β) : β := match n with | 0 => K 0 | Nat.succ m => K (Nat.succ m)
theorem fN_eq (n : Nat) (K : Nat → β) : fN n K = K n := by cases n <;> rfl
def fI (n : Int) (K : Int → β) : β := match n with | .ofNat m => fN m (fun m => K (.ofNat m)) | .negSucc m => fN m (fun m => K (.negSucc m))
theorem fI_eq (n : Int) (K : Int → β) : fI n K = K n := by cases n <;> simp only [fI, fN_eq]
def fD (x : D) (K : D → β) : β := match x with | .int k n => fI n (fun n => K (.int k n)) | .bool b => (match b with | true => K (.bool true) | false => K (.bool false)) | .str s => K (.str s) | .list es => K (.list es)
theorem fD_eq (x : D) (K : D → β) : fD x K = K x := by
  cases x with
  | bool b => cases b <;> rfl
  | _ => simp only [fD, fI_eq]
def fA (x : AV) (K : AV → β) : β := match x with
  | .top => K .top | .d x => fD x (fun x => K (.d x)) | .e0 => K .e0 | .p v => K (.p v)
  | .ref k g off n => fN g fun g => fN off fun off => fN n fun n => K (.ref k g off n)
  | .ptr k g off => fN g fun g => fN off fun off => K (.ptr k g off)
  | .iptr cs off => fN off fun off => K (.iptr cs off)
  | .fn f a b => K (.fn f a b) | .agg xs => K (.agg xs) | .tup xs => K (.tup xs)
theorem fA_eq (x : AV) (K : AV → β) : fA x K = K x := by cases x <;> simp only [fA, fN_eq, fD_eq]
def fAs (xs : List AV) (K : List AV → β) : β := match xs with | [] => K [] | x :: r => fA x fun x => fAs r fun r => K (x :: r)
theorem fAs_eq : ∀ (xs : List AV) (K : List AV → β), fAs xs K = K xs
  | [], K => rfl
  | x :: r, K => by simp only [fAs, fA_eq, fAs_eq r]
def fU (xs : List UInt8) (K : List UInt8 → β) : β := match xs with | [] => K [] | x :: r => fU r fun r => K (x :: r)
theorem fU_eq : ∀ (xs : List UInt8) (K : List UInt8 → β), fU xs K = K xs
  | [], K => rfl
  | x :: r, K => by simp only [fU, fU_eq r]
end
/-- not a command -/
def isCmd : AT → Bool
  | .frz _ _ _ _ | .adc _ _ _ _ _ _ | .mv _ _ _ | .ads _ _ _ _ _ | .trim _ _ _ | .reb _ _ _ _ _ | .sep _ => true
  | _ => false
theorem cmds_plain {r : Ren} {os : Nat} {a : AT} {τ : St} {K : St → AT → Prop} (h : isCmd a = false) : cmds r os a τ K = K τ a := by
  cases a <;> first | rfl | cases h

/-! ### Texts -/
def eqU : List UInt8 → List UInt8 → Bool
  | [], [] => true
  | a :: r, b :: q => Nat.beq a.toNat b.toNat && eqU r q
  | _, _ => false
theorem eqU_iff : ∀ {a b : List UInt8}, eqU a b = true ↔ a = b
  | [], [] => by simp [eqU]
  | [], _ :: _ => by simp [eqU]
  | _ :: _, [] => by simp [eqU]
  | a :: r, b :: q => by
    simp only [eqU, Bool.and_eq_true, eqU_iff, List.cons.injEq]
    constructor
    · rintro ⟨h1, h2⟩; exact ⟨UInt8.toNat_inj.1 (Nat.eq_of_beq_eq_true h1), h2⟩
    · rintro ⟨rfl, h2⟩; exact ⟨Nat.beq_refl _, h2⟩
def eqS (a b : ByteArray) : Bool := eqU a.data.toList b.data.toList
theorem eqS_eq (a b : ByteArray) : eqS a b = decide (a = b) := by
  rw [Bool.eq_iff_iff, decide_eq_true_iff]
  unfold eqS
  rw [eqU_iff]
  constructor
  · intro h; exact ByteArray.ext (Array.ext' h)
  · rintro rfl; rfl
def catS (a b : ByteArray) : ByteArray := fU (a.data.toList ++ b.data.toList) fun l => ⟨⟨l⟩⟩
theorem catS_eq (a b : ByteArray) : catS a b = a ++ b := by
  unfold catS
  rw [fU_eq]
  refine ByteArray.ext (Array.ext' ?_)
  simp
def catK {β : Type} (a b : ByteArray) (K : ByteArray → β) : β := fU (a.data.toList ++ b.data.toList) fun l => K ⟨⟨l⟩⟩
theorem catK_eq {β : Type} (a b : ByteArray) (K : ByteArray → β) : catK a b K = K (a ++ b) := by
  rw [← catS_eq]; unfold catK catS; rw [fU_eq, fU_eq]
def subK' {β : Type} (s : ByteArray) (l h : Nat) (K : ByteArray → β) : β := fU ((s.data.toList.drop l).take (h - l)) fun l => K ⟨⟨l⟩⟩
def subS (s : ByteArray) (l h : Nat) : ByteArray := fU ((s.data.toList.drop l).take (h - l)) fun l => ⟨⟨l⟩⟩
theorem subS_eq (s : ByteArray) (l h : Nat) : subS s l h = s.extract l h := by
  unfold subS
  rw [fU_eq]
  refine ByteArray.ext (Array.ext' ?_)
  simp [List.take_drop]
  
theorem subK'_eq {β : Type} (s : ByteArray) (l h : Nat) (K : ByteArray → β) : subK' s l h K = K (s.extract l h) := by
  rw [← subS_eq]; unfold subK' subS; rw [fU_eq, fU_eq]
/-! ### One operation that writes nothing -/
def isF : Option Bool → Bool
  | some false => true
  | _ => false
theorem sdP_isF {g : Option Bool} {S : Prop} (h : isF g = true) : sdP g S := by
  cases g with
  | none => cases h
  | some b => cases b with
    | true => cases h
    | false => exact fun h => by cases h
theorem sdP_of {g : Option Bool} {S : Prop} (h : S) : sdP g S := by
  cases g with
  | none => exact h
  | some b => exact fun _ => h
/-- there are answers such that the value comes out -/
def Ans (F : AT → (AV → AT → Prop) → Prop) (b : AT) (v : AV) : Prop := ∃ a, isCmd a = false ∧ ∀ K : AV → AT → Prop, K v b → F a K
theorem Ans.self {F : AT → (AV → AT → Prop) → Prop} {b : AT} {v : AV} (hb : isCmd b = false) (h : ∀ K : AV → AT → Prop, K v b → F b K) : Ans F b v := ⟨b, hb, h⟩

def cLoad (i : TI) (H : Hp) : AV → Option AV
  | .iptr cs off => match i.agg with
    | true => (match Nat.ble 1 i.siz, takeX i.siz (cs.drop off) with | true, some c => some (.agg (c.map .d)) | _, _ => none)
    | false => (match nth cs off with | some c => some (.d c) | none => none)
  | .ptr k q off => match liveB H k q with
    | true => (match i.agg with
      | true => (match Nat.ble 1 i.siz, takeX i.siz ((H k).cells.drop off) with | true, some c => some (.agg c) | _, _ => none)
      | false => nth (H k).cells off)
    | false => none
  | _ => none
theorem cLoad_snd {i : TI} {H : Hp} {x v : AV} {g : Option Bool} {b : AT} (hb : isCmd b = false) (h : cLoad i H x = some v) : Ans (fun a K => tLoad i H x g a K) b v := by
  unfold cLoad at h
  split at h
  · refine .self hb fun K hK => ?_
    unfold tLoad
    split at h
    · rename_i e; simp only [e]
      split at h
      · rename_i c e1 e2; simp only [e1, e2]; cases h; exact hK
      · cases h
    · rename_i e; simp only [e]
      split at h
      · rename_i c e1; simp only [e1]; cases h; exact hK
      · cases h
  · refine ⟨.go b, rfl, fun K hK => ?_⟩
    unfold tLoad
    split at h
    · rename_i e; simp only [e]
      split at h
      · rename_i e'; simp only [e']
        split at h
        · rename_i c e1 e2; simp only [e1, e2]; cases h; exact hK
        · cases h
      · rename_i e'; simp only [e', h]; exact hK
    · cases h
  · cases h

def cFieldAddr (i : TI) (H : Hp) (f : Nat) (x : AV) : Option AV :=
  match nth i.fld f with
  | some (o, n, _) => match Nat.ble 1 n with
    | true => (match x with
      | .iptr cs off => fN (off + o) fun o => some (.iptr cs o)
      | .ptr k q off => (match liveB H k q with | true => fN (off + o) fun o => some (.ptr k q o) | false => none)
      | _ => none)
    | false => none
  | none => none
theorem cFieldAddr_snd {i : TI} {H : Hp} {f : Nat} {x v : AV} {b : AT} (hb : isCmd b = false) (h : cFieldAddr i H f x = some v) : Ans (fun a K => tFieldAddr i H f x a K) b v := by
  refine .self hb fun K hK => ?_
  unfold cFieldAddr at h
  unfold tFieldAddr
  split at h
  · rename_i o n z e; simp only [e]
    split at h
    · rename_i e1; simp only [e1]
      split at h
      · rw [fN_eq] at h; cases h; exact hK
      · split at h
        · rename_i e2; simp only [e2]; rw [fN_eq] at h; cases h; exact hK
        · cases h
      · cases h
    · cases h
  · cases h

def cField (i : TI) (f : Nat) (x : AV) : Option AV :=
  match nth i.fld f, x with
  | some (o, n, true), .agg cs => (match Nat.ble 1 n with | true => fAs ((cs.drop o).take n) fun c => some (.agg c) | false => none)
  | some (o, _, false), .agg cs => nth cs o
  | _, _ => none
theorem cField_snd {i : TI} {f : Nat} {x v : AV} {b : AT} (hb : isCmd b = false) (h : cField i f x = some v) : Ans (fun a K => tField i f x a K) b v := by
  refine .self hb fun K hK => ?_
  unfold cField at h
  unfold tField
  split at h
  · rename_i o n cs e; simp only [e]
    split at h
    · rename_i e1; simp only [e1]; rw [fAs_eq] at h; cases h; exact hK
    · cases h
  · rename_i o n cs e; simp only [e, h]; exact hK
  · cases h

def cIndexAddr (i : TI) (H : Hp) (x j : AV) (g : Option Bool) : Option AV :=
  match i.elm, j with
  | some (_, sz), .d (.int _ (.ofNat m)) => (match x with
    | .d (.list es) => (match nth es m with
      | some e => (match Nat.beq e.length sz, Nat.ble 1 sz with | true, true => some (.iptr e 0) | _, _ => none)
      | none => none)
    | .ref k q off len => (match liveB H k q, Nat.beq (H k).sz sz, Nat.ble 1 sz with
      | true, true, true => (match Nat.ble (m + 1) len, isF g with
        | true, _ => fN ((off + m) * sz) fun o => some (.ptr k q o)
        | false, true => some (.ptr k q 0)
        | _, _ => none)
      | _, _, _ => none)
    | _ => none)
  | some (_, sz), .d (.int _ _) => (match x, isF g with
    | .ref k q off len, true => (match liveB H k q, Nat.beq (H k).sz sz, Nat.ble 1 sz with
      | true, true, true => some (.ptr k q 0)
      | _, _, _ => none)
    | _, _ => none)
  | _, _ => none
theorem cIndexAddr_snd {i : TI} {H : Hp} {x j v : AV} {g : Option Bool} {b : AT} (hb : isCmd b = false) (h : cIndexAddr i H x j g = some v) : Ans (fun a K => tIndexAddr i H x j g a K) b v := by
  unfold cIndexAddr at h
  split at h
  · rename_i e0 sz k m he
    split at h
    · rename_i es
      split at h
      · rename_i e e1
        split at h
        · rename_i e2 e3
          cases h
          refine ⟨.ds e b, rfl, fun K hK => ?_⟩
          unfold tIndexAddr
          simp only [he, e2, e3]
          refine ⟨sdP_of ⟨Int.natCast_nonneg m, ?_⟩, hK⟩
          rw [nth_eq] at e1
          exact e1
        · cases h
      · cases h
    · rename_i k q off len
      split at h
      · rename_i e1 e2 e3
        split at h
        · rename_i e4
          rw [fN_eq] at h
          cases h
          refine ⟨.nat ((off + m) * sz) b, rfl, fun K hK => ?_⟩
          unfold tIndexAddr
          simp only [he, e1, e2, e3]
          refine ⟨sdP_of ⟨Int.natCast_nonneg m, ?_, rfl⟩, hK⟩
          have := Nat.le_of_ble_eq_true e4
          show (m : Int) < len
          omega
        · rename_i e4 e5
          cases h
          refine ⟨.nat 0 b, rfl, fun K hK => ?_⟩
          unfold tIndexAddr
          simp only [he, e1, e2, e3]
          exact ⟨sdP_isF e5, hK⟩
        · cases h
      · cases h
    · cases h
  · rename_i e0 sz k m _ he
    split at h
    · rename_i k q off len e5
      split at h
      · rename_i e1 e2 e3
        cases h
        refine ⟨.nat 0 b, rfl, fun K hK => ?_⟩
        unfold tIndexAddr
        simp only [he, e1, e2, e3]
        exact ⟨sdP_isF e5, hK⟩
      · cases h
    · cases h
  · cases h

def cIndex (i : TI) (x j : AV) : Option AV :=
  match x, j with
  | .d (.str s), .d (.int _ (.ofNat m)) => (match Nat.beq i.kin 2, nth s.data.toList m with | true, some c => fN c.toNat fun n => some (.d (.int .u8 n)) | _, _ => none)
  | _, _ => none
theorem cIndex_snd {i : TI} {x j v : AV} {g : Option Bool} {b : AT} (hb : isCmd b = false) (h : cIndex i x j = some v) : Ans (fun a K => tIndex i x j g a K) b v := by
  unfold cIndex at h
  split at h
  · rename_i s k m
    split at h
    · rename_i c e1 e2
      rw [fN_eq] at h
      cases h
      refine ⟨.num c.toNat b, rfl, fun K hK => ?_⟩
      unfold tIndex
      simp only [e1]
      refine ⟨sdP_of ⟨Int.natCast_nonneg m, c, ?_, rfl⟩, hK⟩
      rw [nth_eq] at e2
      exact e2
    · cases h
  · cases h

def cInt (op : BinOp) (k : IntKind) (x y : Int) : Option AV :=
  match op with
  | .eql => some (.d (.bool (decide (x = y))))
  | .neq => some (.d (.bool (!decide (x = y))))
  | .lss => some (.d (.bool (decide (x < y))))
  | .leq => some (.d (.bool (decide (x ≤ y))))
  | .gtr => some (.d (.bool (decide (y < x))))
  | .geq => some (.d (.bool (decide (y ≤ x))))
  | .add => fI (k.wrap (x + y)) fun n => some (.d (.int k n))
  | .sub => fI (k.wrap (x - y)) fun n => some (.d (.int k n))
  | .mul => fI (k.wrap (x * y)) fun n => some (.d (.int k n))
  | .quo => (match decide (y = 0) with | true => none | false => fI (k.wrap (x.tdiv y)) fun n => some (.d (.int k n)))
  | .rem => (match decide (y = 0) with | true => none | false => fI (x.tmod y) fun n => some (.d (.int k n)))
  | .shr => (match decide (0 ≤ y) with | true => fI (x.fdiv (2 ^ (min y.toNat k.bits))) fun n => some (.d (.int k n)) | false => none)
  | .shl => (match decide (0 ≤ y) with | true => fI (k.wrap (x * 2 ^ (min y.toNat k.bits))) fun n => some (.d (.int k n)) | false => none)
  | _ => none
theorem cInt_snd {op : BinOp} {k : IntKind} {x y : Int} {v : AV} {g : Option Bool} {b : AT} (hb : isCmd b = false) (h : cInt op k x y = some v) : Ans (fun a K => tInt op k x y g a K) b v := by
  unfold cInt at h
  cases op <;> simp only [fI_eq] at h <;> try (cases h; done)
  case eql | neq | lss | leq | gtr | geq => cases h; exact .self hb fun K hK => hK
  case add | sub | mul => cases h; exact ⟨.num _ b, rfl, fun K hK => ⟨sdP_of rfl, hK⟩⟩
  case quo | rem =>
    split at h
    · cases h
    · rename_i e
      cases h
      exact ⟨.num _ b, rfl, fun K hK => ⟨sdP_of (of_decide_eq_false e), sdP_of rfl, hK⟩⟩
  case shr | shl =>
    split at h
    · rename_i e
      cases h
      exact ⟨.num _ b, rfl, fun K hK => ⟨sdP_of (show (0 : Int) ≤ y from of_decide_eq_true e), sdP_of rfl, hK⟩⟩
    · cases h

def cStr (op : BinOp) (x y : ByteArray) : Option AV :=
  match op with
  | .add => (match Nat.ble (x.size + y.size) 9223372036854775807 with | true => catK x y fun s => some (.d (.str s)) | false => none)
  | .eql => some (.d (.bool (eqS x y)))
  | .neq => some (.d (.bool (!eqS x y)))
  | .lss => some (.d (.bool (Op.bytesLess x.data.toList y.data.toList)))
  | .leq => some (.d (.bool (Op.bytesLess x.data.toList y.data.toList || eqS x y)))
  | .gtr => some (.d (.bool (!(Op.bytesLess x.data.toList y.data.toList || eqS x y))))
  | .geq => some (.d (.bool (!Op.bytesLess x.data.toList y.data.toList)))
  | _ => none
theorem cStr_snd {op : BinOp} {x y : ByteArray} {v : AV} {g : Option Bool} {b : AT} (hb : isCmd b = false) (h : cStr op x y = some v) : Ans (fun a K => tStr op x y g a K) b v := by
  unfold cStr at h
  refine .self hb fun K hK => ?_
  unfold tStr sLt
  rw [ByteArray.toList_eq, ByteArray.toList_eq]
  cases op <;> simp only [eqS_eq, catK_eq] at h <;> try (cases h; done)
  case add =>
    split at h
    · rename_i e
      cases h
      exact ⟨sdP_of (Nat.le_of_ble_eq_true e), hK⟩
    · cases h
  all_goals (cases h; exact hK)
/-- a comparison with nil where it is known -/
def cNil (H : Hp) (neg : Bool) : AV → Option AV
  | .d (.list (_ :: _)) => some (.d (.bool neg))
  | .ref k q _ (_ + 1) => (match liveB H k q with | true => some (.d (.bool neg)) | false => none)
  | _ => none
theorem cNil_snd {H : Hp} {neg : Bool} {x v : AV} {b : AT} (hb : isCmd b = false) (h : cNil H neg x = some v) : Ans (fun a K => tNil H neg x a K) b v := by
  unfold cNil at h
  refine .self hb fun K hK => ?_
  split at h
  · cases h
    unfold tNil
    exact fun b' hb' => by rw [hb' (by simp)]; exact hK
  · split at h
    · rename_i e
      cases h
      unfold tNil
      simp only [e]
      exact fun b' hb' => by rw [hb' (by simp)]; exact hK
    · cases h
  · cases h
def cBin (i : TI) (H : Hp) (op : BinOp) (ny : Bool) (x y : AV) : Option AV :=
  match x, y with
  | .d (.int k m), .d (.int k' n) => (match ikB k k' with | true => cInt op k m n | false => none)
  | .d (.str m), .d (.str n) => cStr op m n
  | .d (.bool m), .d (.bool n) => (match Nat.beq i.kin 1 with
    | true => (match op with
      | .eql => some (.d (.bool (m == n)))
      | .neq => some (.d (.bool (!(m == n))))
      | _ => none)
    | false => none)
  | .agg xs, .agg ys => (match i.eqt with
    | some ks => (match eqAVs ks xs ys with
      | some b => (match op with
        | .eql => some (.d (.bool b))
        | .neq => some (.d (.bool (!b)))
        | _ => none)
      | none => none)
    | none => none)
  | x, .e0 => (match ny, Nat.beq i.kin 4 with
    | true, true => (match op with
      | .eql => cNil H false x
      | .neq => cNil H true x
      | _ => none)
    | _, _ => none)
  | _, _ => none
theorem cBin_snd {i : TI} {H : Hp} {op : BinOp} {ny : Bool} {x y v : AV} {g : Option Bool} {b : AT} (hb : isCmd b = false) (h : cBin i H op ny x y = some v) : Ans (fun a K => tBin i H op ny x y g a K) b v := by
  unfold cBin at h
  split at h
  · rename_i k m k' n
    split at h
    · rename_i e
      obtain ⟨a, h1, h2⟩ := cInt_snd (g := g) hb h
      exact ⟨a, h1, fun K hK => by unfold tBin; simp only [e]; exact h2 K hK⟩
    · cases h
  · obtain ⟨a, h1, h2⟩ := cStr_snd (g := g) hb h
    exact ⟨a, h1, fun K hK => by unfold tBin; exact h2 K hK⟩
  · split at h
    · rename_i e
      refine .self hb fun K hK => ?_
      unfold tBin
      simp only [e]
      cases op <;> simp only at h <;> first | (cases h; exact hK) | (cases h; done)
    · cases h
  · rename_i xs ys
    split at h
    · rename_i ks e1
      split at h
      · rename_i b' e2
        refine .self hb fun K hK => ?_
        unfold tBin
        simp only [e1, e2]
        cases op <;> simp only at h <;> first | (cases h; exact hK) | (cases h; done)
      · cases h
    · cases h
  · split at h
    · rename_i e2
      cases op <;> simp only at h <;> try (cases h; done)
      · obtain ⟨a, h1, h2⟩ := cNil_snd hb h
        refine ⟨a, h1, fun K hK => ?_⟩
        have := h2 K hK
        unfold tBin
        cases x <;> simp only [e2] <;> first | exact this | (rename_i d; cases d <;> exact this)
      · obtain ⟨a, h1, h2⟩ := cNil_snd hb h
        refine ⟨a, h1, fun K hK => ?_⟩
        have := h2 K hK
        unfold tBin
        cases x <;> simp only [e2] <;> first | exact this | (rename_i d; cases d <;> exact this)
    · cases h
  · cases h

def cUn (op : UnOp) (x : AV) : Option AV :=
  match op, x with
  | .not, .d (.bool b) => some (.d (.bool (!b)))
  | .neg, .d (.int k n) => fI (k.wrap (0 - n)) fun m => some (.d (.int k m))
  | _, _ => none
theorem cUn_snd {op : UnOp} {x v : AV} {g : Option Bool} {b : AT} (hb : isCmd b = false) (h : cUn op x = some v) : Ans (fun a K => tUn op x g a K) b v := by
  unfold cUn at h
  split at h
  · cases h; exact .self hb fun K hK => by unfold tUn; exact hK
  · rw [fI_eq] at h; cases h; exact ⟨.num _ b, rfl, fun K hK => by unfold tUn; exact ⟨sdP_of rfl, hK⟩⟩
  · cases h

def cConv (s d : TI) (x : AV) : Option AV :=
  match x with
  | .d (.int _ n) => (match s.ik, d.ik with | some _, some k => fI (k.wrap n) fun m => some (.d (.int k m)) | _, _ => none)
  | .d (.str s') => (match Nat.beq s.kin 2, Nat.beq d.kin 2 with | true, true => some (.d (.str s')) | _, _ => none)
  | _ => none
theorem cConv_snd {s d : TI} {x v : AV} {g : Option Bool} {b : AT} (hb : isCmd b = false) (h : cConv s d x = some v) : Ans (fun a K => tConv s d x g a K) b v := by
  unfold cConv at h
  split at h
  · split at h
    · rename_i e1 e2
      rw [fI_eq] at h; cases h
      exact ⟨.num _ b, rfl, fun K hK => by unfold tConv; simp only [e1, e2]; exact ⟨sdP_of rfl, hK⟩⟩
    · cases h
  · split at h
    · rename_i e1 e2
      cases h
      exact .self hb fun K hK => by unfold tConv; simp only [e1, e2]; exact hK
    · cases h
  · cases h

/-- a bound of a slice -/
def cBnd (dflt : Nat) : Option AV → Option Nat
  | none => some dflt
  | some (.d (.int _ (.ofNat n))) => some n
  | _ => none
theorem cBnd_snd {d l : Nat} {o : Option AV} (h : cBnd d o = some l) : SlB d o l := by
  unfold cBnd at h
  split at h
  · cases h; exact rfl
  · cases h; exact rfl
  · cases h
def allLen (sz : Nat) : List (List D) → Bool
  | [] => true
  | e :: r => Nat.beq e.length sz && allLen sz r
theorem allLen_at {sz : Nat} : ∀ {es : List (List D)}, allLen sz es = true → ∀ e ∈ es, e.length = sz
  | [], _, e, he => by cases he
  | x :: r, h, e, he => by
    simp only [allLen, Bool.and_eq_true] at h
    rcases List.mem_cons.1 he with rfl | he
    · exact Nat.eq_of_beq_eq_true h.1
    · exact allLen_at h.2 e he
def fEs {β : Type} (xs : List (List D)) (K : List (List D) → β) : β := match xs with | [] => K [] | x :: r => fEs r fun r => K (x :: r)
theorem fEs_eq {β : Type} : ∀ (xs : List (List D)) (K : List (List D) → β), fEs xs K = K xs
  | [], K => rfl
  | x :: r, K => by simp only [fEs, fEs_eq r]
def cSlice (i : TI) (H : Hp) (x : AV) (lo hi : Option AV) (mx : Bool) (g : Option Bool) : Option AV :=
  match mx with
  | true => none
  | false => (match x with
    | .d (.str s) => (match Nat.beq i.kin 2, cBnd 0 lo, cBnd s.size hi with
      | true, some l, some h => (match (Nat.ble l h && Nat.ble h s.size) || isF g with | true => subK' s l h fun s => some (.d (.str s)) | false => none)
      | _, _, _ => none)
    | .d (.list es) => (match i.elm, cBnd 0 lo, cBnd es.length hi with
      | some (_, sz), some l, some h => (match Nat.ble 1 sz, Nat.ble l h && Nat.ble h es.length, allLen sz es with | true, true, true => fEs ((es.drop l).take (h - l)) fun es => some (.d (.list es)) | _, _, _ => none)
      | _, _, _ => none)
    | .ref k q off n => (match i.elm, liveB H k q, cBnd 0 lo, cBnd n hi with
      | some (_, sz), true, some l, some h => (match Nat.ble 1 sz, Nat.beq (H k).sz sz, Nat.ble l h && Nat.ble h n with | true, true, true => fN (off + l) fun o => fN (h - l) fun n => some (.ref k q o n) | _, _, _ => none)
      | _, _, _, _ => none)
    | _ => none)
theorem and_ble {a b c : Nat} (h : (Nat.ble a b && Nat.ble b c) = true) : SlS a b c := by
  rw [Bool.and_eq_true] at h
  exact ⟨Nat.le_of_ble_eq_true h.1, Nat.le_of_ble_eq_true h.2⟩
theorem cSlice_snd {i : TI} {H : Hp} {x v : AV} {lo hi : Option AV} {mx : Bool} {g : Option Bool} {b : AT} (hb : isCmd b = false) (h : cSlice i H x lo hi mx g = some v) : Ans (fun a K => tSlice i H x lo hi mx g a K) b v := by
  unfold cSlice at h
  split at h
  · cases h
  · split at h
    · rename_i s
      split at h
      · rename_i l u e1 e2 e3
        split at h
        · rename_i e4
          rw [subK'_eq] at h
          cases h
          refine ⟨.nat l (.nat u b), rfl, fun K hK => ?_⟩
          unfold tSlice
          simp only [e1]
          refine ⟨sdP_of (cBnd_snd e2), sdP_of (cBnd_snd e3), ?_, hK⟩
          rw [Bool.or_eq_true] at e4
          rcases e4 with e4 | e4
          · exact sdP_of (and_ble e4)
          · exact sdP_isF e4
        · cases h
      · cases h
    · rename_i es
      split at h
      · rename_i e0 sz l u e1 e2 e3
        split at h
        · rename_i e4 e5 e6
          rw [fEs_eq] at h
          cases h
          refine ⟨.nat l (.nat u (.av (.d (.list ((es.drop l).take (u - l)))) b)), rfl, fun K hK => ?_⟩
          unfold tSlice
          simp only [e1, e4]
          exact ⟨sdP_of (cBnd_snd e2), sdP_of (cBnd_snd e3), sdP_of (and_ble e5), sdP_of ⟨allLen_at e6, rfl⟩, hK⟩
        · cases h
      · cases h
    · rename_i k q off n
      split at h
      · rename_i e0 sz l u e1 e2 e3 e4
        split at h
        · rename_i e5 e6 e7
          simp only [fN_eq] at h
          cases h
          refine ⟨.nat l (.nat u (.nat (off + l) (.nat (u - l) b))), rfl, fun K hK => ?_⟩
          unfold tSlice
          simp only [e1, e2, e5, e6]
          exact ⟨sdP_of (cBnd_snd e3), sdP_of (cBnd_snd e4), sdP_of (and_ble e7), sdP_of ⟨rfl, rfl⟩, hK⟩
        · cases h
      · cases h
    · cases h

def cLen (i : TI) (H : Hp) (x : AV) : Option AV :=
  match x with
  | .d (.str s) => (match Nat.beq i.kin 2 with | true => fN s.size fun n => some (.d (.int .i64 n)) | false => none)
  | .d (.list es) => (match Nat.beq i.kin 4 with | true => fN es.length fun n => some (.d (.int .i64 n)) | false => none)
  | .e0 => (match Nat.beq i.kin 4 with | true => some (.d (.int .i64 0)) | false => none)
  | .ref k q _ m => (match Nat.beq i.kin 4, liveB H k q with | true, true => some (.d (.int .i64 m)) | _, _ => none)
  | _ => none
theorem cLen_snd {i : TI} {H : Hp} {x v : AV} {g : Option Bool} {b : AT} (hb : isCmd b = false) (h : cLen i H x = some v) : Ans (fun a K => tLen i H x g a K) b v := by
  unfold cLen at h
  split at h
  · split at h
    · rename_i e; rw [fN_eq] at h; cases h
      exact ⟨.num _ b, rfl, fun K hK => by unfold tLen; simp only [e]; exact ⟨sdP_of rfl, hK⟩⟩
    · cases h
  · split at h
    · rename_i e; rw [fN_eq] at h; cases h
      exact ⟨.num _ b, rfl, fun K hK => by unfold tLen; simp only [e]; exact ⟨sdP_of rfl, hK⟩⟩
    · cases h
  · split at h
    · rename_i e; cases h
      exact ⟨.num _ b, rfl, fun K hK => by unfold tLen; simp only [e]; exact ⟨sdP_of rfl, hK⟩⟩
    · cases h
  · split at h
    · rename_i e1 e2; cases h
      exact ⟨.num _ b, rfl, fun K hK => by unfold tLen; simp only [e1, e2]; exact ⟨sdP_of rfl, hK⟩⟩
    · cases h
  · cases h

def cBuild (i : TI) (parts : List (Nat × AV)) : Option AV :=
  match i.str, i.zer with
  | true, some z => (match fillT i z parts with | some cs => fAs cs fun cs => some (.agg cs) | none => none)
  | _, _ => none
theorem cBuild_snd {i : TI} {parts : List (Nat × AV)} {v : AV} {b : AT} (hb : isCmd b = false) (h : cBuild i parts = some v) : Ans (fun a K => tBuild i parts a K) b v := by
  unfold cBuild at h
  refine .self hb fun K hK => ?_
  unfold tBuild
  split at h
  · rename_i z e1 e2
    simp only [e1, e2]
    split at h
    · rename_i cs e; simp only [e]; rw [fAs_eq] at h; cases h; exact hK
    · cases h
  · cases h

def cMM (mx : Bool) (x y : AV) : Option AV :=
  match x, y with
  | .d (.int k m), .d (.int _ n) => fI (mmI mx m n) fun n => some (.d (.int k n))
  | _, _ => none
def cMM3 (mx : Bool) (x y z : AV) : Option AV :=
  match x, y, z with
  | .d (.int k m), .d (.int _ n), .d (.int _ p) => fI (mmI mx (mmI mx m n) p) fun n => some (.d (.int k n))
  | _, _, _ => none
def noYd : Fn → Bool
  | .yield _ => false
  | _ => true
def cV (T : Nat → Option TI) (H : Hp) (op : Op) (ρ : Operand → AV) (g : Option Bool) : Option AV :=
  match op with
  | .move x => some (ρ x)
  | .assign x => some (ρ x)
  | .pick c x y => match ρ c with | .d (.bool t) => some (pickV t (ρ x) (ρ y)) | _ => none
  | .load t x => match T t with | some i => cLoad i H (ρ x) | none => none
  | .fieldAddr t x f => match T t with | some i => cFieldAddr i H f (ρ x) | none => none
  | .field t x f => match T t with | some i => cField i f (ρ x) | none => none
  | .indexAddr t x j => match T t with | some i => cIndexAddr i H (ρ x) (ρ j) g | none => none
  | .index t x j => match T t with | some i => cIndex i (ρ x) (ρ j) | none => none
  | .extract x j => match ρ x with | .tup vs => nth vs j | _ => none
  | .binOp o t x y _ => match T t with | some i => cBin i H o (isNilC y) (ρ x) (ρ y) | none => none
  | .unOp o _ x => cUn o (ρ x)
  | .nilCheck x => match ρ x with | .ptr k q off => (match liveB H k q with | true => some (.ptr k q off) | false => none) | .iptr cs off => some (.iptr cs off) | _ => none
  | .convert s d x => match T s, T d with | some i, some j => cConv i j (ρ x) | _, _ => none
  | .makeFunc fn first caps => match noYd fn with | false => none | true => fAs (first.toList.map ρ) fun a => fAs (caps.toList.map ρ) fun b => some (.fn fn a b)
  | .slice t x lo hi mx => match T t with | some i => cSlice i H (ρ x) (lo.map ρ) (hi.map ρ) mx.isSome g | none => none
  | .build t parts => match T t, parts.toList.all (fun p => noFn (ρ p.2)) with | some i, true => cBuild i (parts.toList.map fun p => (p.1, ρ p.2)) | _, _ => none
  | .call c => match c.callee, c.args.toList, c.argTypes.toList with
    | .builtin .len, [x], [t] => match T t with | some i => cLen i H (ρ x) | none => none
    | .builtin .min, [x, y], _ => cMM false (ρ x) (ρ y)
    | .builtin .max, [x, y], _ => cMM true (ρ x) (ρ y)
    | .builtin .max, [x, y, z], _ => cMM3 true (ρ x) (ρ y) (ρ z)
    | _, _, _ => none
  | _ => none
theorem cMM_snd {mx : Bool} {x y v : AV} {b : AT} (hb : isCmd b = false) (h : cMM mx x y = some v) : Ans (fun a K => vMM mx x y (fun v => K v a)) b v := by
  unfold cMM at h
  split at h
  · rw [fI_eq] at h; cases h; exact .self hb fun K hK => hK
  · cases h
theorem cMM3_snd {mx : Bool} {x y z v : AV} {b : AT} (hb : isCmd b = false) (h : cMM3 mx x y z = some v) : Ans (fun a K => vMM3 mx x y z (fun v => K v a)) b v := by
  unfold cMM3 at h
  split at h
  · rw [fI_eq] at h; cases h; exact .self hb fun K hK => hK
  · cases h
theorem cV_snd {T : Nat → Option TI} {H : Hp} {op : Op} {ρ : Operand → AV} {g : Option Bool} {v : AV} {b : AT} (hb : isCmd b = false) (h : cV T H op ρ g = some v) : Ans (fun a K => tV T H op ρ g a K) b v := by
  unfold cV at h
  unfold tV
  cases op <;> simp only at h ⊢ <;> try (cases h; done)
  case move | assign => cases h; exact .self hb fun K hK => hK
  case pick =>
    split at h
    · rename_i t e; cases h; exact .self hb fun K hK => by simp only [e]; exact hK
    · cases h
  case load =>
    split at h
    · rename_i i e; simp only [e]; exact cLoad_snd hb h
    · cases h
  case fieldAddr =>
    split at h
    · rename_i i e; simp only [e]; exact cFieldAddr_snd hb h
    · cases h
  case field =>
    split at h
    · rename_i i e; simp only [e]; exact cField_snd hb h
    · cases h
  case indexAddr =>
    split at h
    · rename_i i e; simp only [e]; exact cIndexAddr_snd hb h
    · cases h
  case index =>
    split at h
    · rename_i i e; simp only [e]; exact cIndex_snd hb h
    · cases h
  case extract =>
    split at h
    · rename_i vs e; exact .self hb fun K hK => by simp only [e, h]; exact hK
    · cases h
  case binOp =>
    split at h
    · rename_i i e; simp only [e]; exact cBin_snd hb h
    · cases h
  case unOp => exact cUn_snd hb h
  case nilCheck =>
    split at h
    · rename_i k q off e
      split at h
      · rename_i e2; cases h; exact .self hb fun K hK => by simp only [e, e2]; exact hK
      · cases h
    · rename_i cs off e; cases h; exact .self hb fun K hK => by simp only [e]; exact hK
    · cases h
  case convert =>
    split at h
    · rename_i i j e1 e2; simp only [e1, e2]; exact cConv_snd hb h
    · cases h
  case makeFunc fn first caps =>
    split at h
    · cases h
    · rename_i e
      simp only [fAs_eq] at h
      cases h
      exact .self hb fun K hK => by
        cases fn with
        | yield i => cases e
        | _ => exact hK
  case slice =>
    split at h
    · rename_i i e; simp only [e]; exact cSlice_snd hb h
    · cases h
  case build =>
    split at h
    · rename_i i e1 e2; simp only [e1, e2]; exact cBuild_snd hb h
    · cases h
  case call c =>
    split at h
    · rename_i x t e1 e2 e3
      split at h
      · rename_i i e; simp only [e1, e2, e3, e]; exact cLen_snd hb h
      · cases h
    · rename_i x y e1 e2; simp only [e1, e2]; exact cMM_snd hb h
    · rename_i x y e1 e2; simp only [e1, e2]; exact cMM_snd hb h
    · rename_i x y z e1 e2; simp only [e1, e2]; exact cMM3_snd hb h
    · cases h
end Go.Eng
