/-
  Reckoning by the kernel, part R: operations that write; regions; code without loops.
-/
import Derived.Test.YthagpbkmakocjaaEngQ
namespace Go.Eng
set_option linter.all false
open Go Go.RowKit

def keyB (a b : Key) : Bool := Nat.beq a.1 b.1 && Nat.beq a.2 b.2

def AV.onef : AV → Bool
  | .top | .agg _ | .tup _ | .fn _ _ _ => false
  | _ => true
/-- what an append takes -/
def SrcS (sz : Nat) (C : List AV) (y : AV) (c : Nat) (news : List AV) : Prop :=
  news.all AV.onef = true ∧ match y with
  | .e0 => c = 0 ∧ news = []
  | .d (.list es) => (∀ e ∈ es, e.length = sz) ∧ c = es.length ∧ news = es.flatten.map .d
  | .ref _ _ off n => c = n ∧ (off + n) * sz ≤ C.length ∧ news = (C.drop (off * sz)).take (n * sz)
  | _ => False
def AppS (C : List AV) (off c' c sz byt : Nat) (news C' : List AV) (n' : Nat) : Prop := (off + c') * sz = C.length ∧ C.drop (off * sz) ++ news = C' ∧ c' + c = n' ∧ n' * byt ≤ 140737488355328
def App0 (c byt : Nat) : Prop := c * byt ≤ 140737488355328
/-- blocks that came in: which of them may be written -/
def WrS (r : Ren) (k : Key) : Prop := k.1 = 0 ∧ r.no (r.κ k)
/-- what is written there is known there -/
def LowS (r : Ren) (k : Key) (vs : List AV) : Prop := (rens r vs).all (AV.low (r.κ k).1) = true
/-- the keys that may be written -/
def wrK (r : Ren) (k : Key) (vs : List AV) (A : Prop) : Prop :=
  match Nat.beq k.1 1 with
  | true => A
  | false => WrS r k ∧ LowS r k vs ∧ A
def StS (C : List AV) (off : Nat) (vs C' : List AV) : Prop := off + vs.length ≤ C.length ∧ C.take off ++ vs ++ C.drop (off + vs.length) = C'

def newT (n d : Nat) (e : TypeId) (sz : Nat) (cells : List AV) (x : Nat → AV) (K : St → AT → Prop) (τ : St) (a : AT) : Prop :=
  match Nat.ble (d + 1) n with
  | true => K ⟨upd τ.s d (x ((τ.H (1, d)).g + 1)), updH τ.H (1, d) ⟨(τ.H (1, d)).g + 1, true, e, sz, cells⟩⟩ a
  | false => False

/-- the cells of the block of a slice, where it is live -/
def cellsOf (H : Hp) : AV → List AV
  | .ref k g _ _ => match liveB H k g with | true => (H k).cells | false => []
  | _ => []
/-- a live slice, or none -/
def srcOk (H : Hp) (sz : Nat) : AV → Bool
  | .ref k g _ _ => liveB H k g && Nat.beq (H k).sz sz
  | _ => true

def pApp (T : Nat → Option TI) (r : Ren) (n d : Nat) (t : TypeId) (x y : AV) (a : AT) (K : St → AT → Prop) (τ : St) : Prop :=
  match T t with
  | some i => match i.elm with
    | some (e, sz) => match T e, Nat.ble 1 sz, srcOk τ.H sz y with
      | some j, true, true => (match j.byt, j.zer, x, a with
        | some byt, some _, .e0, .nat c (.cs news b) => SrcS sz (cellsOf τ.H y) y c news ∧ App0 c byt ∧ newT n d e sz news (fun g => .ref (1, d) g 0 c) K τ b
        | some byt, some _, .ref k q off c', .nat c (.cs news (.cs C' (.nat n' b))) => (match liveB τ.H k q, Nat.beq (τ.H k).sz sz, Nat.beq (τ.H k).e e, Nat.ble (d + 1) n with
          | true, true, true, true => SrcS sz (cellsOf τ.H y) y c news ∧ AppS (τ.H k).cells off c' c sz byt news C' n' ∧ wrK r k news (K ⟨upd τ.s d (.ref k (q + 1) 0 n'), updH τ.H k ⟨q + 1, true, e, sz, C'⟩⟩ b)
          | _, _, _, _ => False)
        | _, _, _, _ => False)
      | _, _, _ => False
    | none => False
  | none => False

def storeT (r : Ren) (n : Nat) (i : TI) (x : AV) (vs : Option (List AV)) (a : AT) (K : St → AT → Prop) (τ : St) : Prop :=
  match x, vs with
  | .ptr k q off, some vs => match liveB τ.H k q, Nat.beq vs.length i.siz, Nat.ble 1 vs.length with
    | true, true, true => (match a with
      | .go b => (match Nat.ble (off + vs.length) (τ.H k).cells.length with
        | true => wrK r k vs (K ⟨τ.s, updH τ.H k ⟨q, true, (τ.H k).e, (τ.H k).sz, (τ.H k).cells.take off ++ vs ++ (τ.H k).cells.drop (off + vs.length)⟩⟩ b)
        | false => False)
      | .cs C' b => StS (τ.H k).cells off vs C' ∧ wrK r k vs (K ⟨τ.s, updH τ.H k ⟨q, true, (τ.H k).e, (τ.H k).sz, C'⟩⟩ b)
      | _ => False)
    | _, _, _ => False
  | _, _ => False

/-- what a make lays -/
def MkS (c c' : Int) (byt m : Nat) (z C : List AV) : Prop := c = (m : Int) ∧ c ≤ c' ∧ (byt : Int) * c' ≤ 140737488355328 ∧ (List.replicate m z).flatten = C

def pOp1 (P : Program) (T : Nat → Option TI) (l n : Nat) (r : Ren) (o : Oper) (a : AT) (K : St → AT → Prop) (τ : St) : Prop :=
  match o.op with
  | .alloc t => match o.dst, T t with
    | some d, some i => (match i.zer with | some (z :: zs) => newT n d t (zs.length + 1) (z :: zs) (fun g => .ptr (1, d) g 0) K τ a | _ => False)
    | _, _ => False
  | .box t x => match o.dst, cellsAV (ev τ.s x), noFn (ev τ.s x) with
    | some d, some (z :: zs), true => newT n d t (zs.length + 1) (z :: zs) (fun g => .ptr (1, d) g 0) K τ a
    | _, _, _ => False
  | .store t p x => match o.dst, T t, noFn (ev τ.s x) with
    | none, some i, true => storeT r n i (ev τ.s p) (cellsAV (ev τ.s x)) a K τ
    | _, _, _ => False
  | .buildSlice t len parts => match o.dst, T t with
    | some d, some i => (match i.elm with
      | some (e, sz) => (match Nat.ble 1 sz, len with
        | true, 0 => (match parts.toList with | [] => put1 n d K τ .e0 a | _ => False)
        | true, len + 1 => (match T e, Nat.ble ((len + 1) * sz) 16777216 with
          | some j, true => (match j.zer with
            | some z => (match Nat.beq z.length sz, litD sz 0 (parts.toList.map fun p => (p.1, ev τ.s p.2)) with
              | true, some es => (match Nat.beq es.length (len + 1) with | true => put1 n d K τ (.d (.list es)) a | false => False)
              | _, _ => False)
            | none => False)
          | _, _ => False)
        | _, _ => False)
      | none => False)
    | _, _ => False
  | .makeSlice t x y => match o.dst, T t, ev τ.s x, ev τ.s y, a with
    | some d, some i, .d (.int _ c), .d (.int _ c'), .nat m (.cs C b) => (match i.elm with
      | some (e, sz) => (match T e, Nat.ble 1 sz with
        | some j, true => (match j.zer, j.byt with
          | some z, some byt => (match Nat.beq z.length sz with
            | true => MkS c c' byt m z C ∧ newT n d e sz C (fun g => .ref (1, d) g 0 m) K τ b
            | false => False)
          | _, _ => False)
        | _, _ => False)
      | none => False)
    | _, _, _, _, _ => False
  | .call c => match c.callee with
    | .builtin .append => (match o.dst, c.args.toList, c.argTypes.toList with
      | some d, [x, y], [t, t'] => (match Nat.beq t t' with | true => pApp T r n d t (ev τ.s x) (ev τ.s y) a K τ | false => False)
      | _, _, _ => False)
    | _ => (match o.dst with | some d => pV P T l r τ o.op none a (put1 n d K τ) | none => False)
  | _ => match o.dst with | some d => pV P T l r τ o.op none a (put1 n d K τ) | none => False

def dstK (n : Nat) (K : St → AT → Prop) (s : Nat → AV) (H : Hp) (v : AV) (b : AT) : Option Nat → Prop
  | some d => match Nat.ble (d + 1) n with | true => K ⟨upd s d v, H⟩ b | false => False
  | none => K ⟨s, H⟩ b
/-- copy, on a live slice; all of the source -/
def pCopy (T : Nat → Option TI) (r : Ren) (n : Nat) (dst : Option Nat) (t t' : Nat) (x y : AV) (a : AT) (K : St → AT → Prop) (τ : St) : Prop :=
  match T t, T t' with
  | some i, some i' => match i.elm, i'.elm with
    | some (e, sz), some (e', sz') => match Nat.beq e e', Nat.beq sz sz', T e, Nat.ble 1 sz, srcOk τ.H sz y with
      | true, true, some j, true, true => (match j.zer, x, a with
        | some _, .ref k q off cn, .nat c (.cs news (.cs C' b)) => (match liveB τ.H k q, Nat.beq (τ.H k).sz sz with
          | true, true => SrcS sz (cellsOf τ.H y) y c news ∧ c ≤ cn ∧ StS (τ.H k).cells (off * sz) news C' ∧ wrK r k news (dstK n K τ.s (updH τ.H k ⟨q, true, (τ.H k).e, (τ.H k).sz, C'⟩) (.d (.int .i64 c)) b dst)
          | _, _ => False)
        | _, _, _ => False)
      | _, _, _, _, _ => False
    | _, _ => False
  | _, _ => False
def ClrS (C : List AV) (off cn sz : Nat) (z C' : List AV) : Prop := (off + cn) * sz ≤ C.length ∧ C.take (off * sz) ++ (List.replicate cn z).flatten ++ C.drop ((off + cn) * sz) = C'
def pClear (T : Nat → Option TI) (r : Ren) (t : Nat) (x : AV) (a : AT) (K : St → AT → Prop) (τ : St) : Prop :=
  match T t with
  | some i => match i.elm with
    | some (e, sz) => match T e, Nat.ble 1 sz with
      | some j, true => (match j.zer, x, a with
        | some z, .ref k q off cn, .cs C' b => (match liveB τ.H k q, Nat.beq (τ.H k).sz sz, Nat.beq z.length sz with
          | true, true, true => ClrS (τ.H k).cells off cn sz z C' ∧ wrK r k z (K ⟨τ.s, updH τ.H k ⟨q, true, (τ.H k).e, (τ.H k).sz, C'⟩⟩ b)
          | _, _, _ => False)
        | _, _, _ => False)
      | _, _ => False
    | none => False
  | none => False
def pOp2 (P : Program) (T : Nat → Option TI) (l n : Nat) (r : Ren) (o : Oper) (a : AT) (K : St → AT → Prop) (τ : St) : Prop :=
  match o.op with
  | .call c => (match c.callee with
    | .builtin .copy => (match c.args.toList, c.argTypes.toList with | [x, y], [t, t'] => pCopy T r n o.dst t t' (ev τ.s x) (ev τ.s y) a K τ | _, _ => False)
    | .builtin .clear => (match c.args.toList, c.argTypes.toList, o.dst with | [x], [t], none => pClear T r t (ev τ.s x) a K τ | _, _, _ => False)
    | _ => pOp1 P T l n r o a K τ)
  | _ => pOp1 P T l n r o a K τ
/-- a slice that is written out, as a block of its own -/
def buildL (T : Nat → Option TI) (n : Nat) (dst : Option Nat) (t len : Nat) (vs : List (Nat × AV)) (a : AT) (K : St → AT → Prop) (τ : St) : Prop :=
  match dst, T t with
  | some d, some i => (match i.elm with
    | some (e, sz) => (match T e, Nat.ble 1 sz, Nat.ble ((len + 1) * sz) 16777216 with
      | some j, true, true => (match j.zer with
        | some z => (match Nat.beq z.length sz, fillA (fun i => some (i * sz, sz)) (List.replicate (len + 1) z).flatten vs, vs.all (fun p => p.2.flat) with
          | true, some cs, true => (match cs.all AV.flat with | true => newT n d e sz cs (fun g => .ref (1, d) g 0 (len + 1)) K τ a | false => False)
          | _, _, _ => False)
        | none => False)
      | _, _, _ => False)
    | none => False)
  | _, _ => False
def pOp3 (P : Program) (T : Nat → Option TI) (l n : Nat) (r : Ren) (o : Oper) (a : AT) (K : St → AT → Prop) (τ : St) : Prop :=
  match o.op with
  | .buildSlice t (len + 1) parts => (match a with
    | .go b => buildL T n o.dst t len (parts.toList.map fun p => (p.1, ev τ.s p.2)) b K τ
    | a => pOp2 P T l n r o a K τ)
  | _ => pOp2 P T l n r o a K τ
def stepE (env : Env) : Option Nat → Env
  | some d => (d, []) :: env
  | none => env
def freshO (env : Env) : Option Nat → Bool
  | some d => fresh d env
  | none => true

/-- the operations of a region, one behind the other -/
def pOps (P : Program) (T : Nat → Option TI) (l n : Nat) (r : Ren) (ds : List (Option Nat)) : List Oper → Env → AT → (St → Env → AT → Prop) → St → Prop
  | [], env, a, K, τ => K τ env a
  | o :: rest, env, a, K, τ => match o.guard with
    | none => (match chkOp env [] o.op, freshO env o.dst with
      | true, true => pOp3 P T l n r o a (fun τ' a' => pOps P T l n r ds rest (stepE env o.dst) a' K τ') τ
      | _, _ => False)
    | some (i, b) => (match nth ds i, o.dst with
      | some (some d), some e => (match chainB τ.s ((d, b) :: lk env d), chkOp env ((d, b) :: lk env d) o.op, fresh e env && notIn e ((d, b) :: lk env d), Nat.ble (e + 1) n with
        | some g, true, true, true => pV P T l r τ o.op (some g) a (fun v a' => pOps P T l n r ds rest ((e, (d, b) :: lk env d) :: env) a' K ⟨upd τ.s e v, τ.H⟩)
        | _, _, _, _ => False)
      | _, _ => False)
end Go.Eng
