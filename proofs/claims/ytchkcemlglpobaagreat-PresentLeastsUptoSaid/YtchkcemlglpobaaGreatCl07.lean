import Derived.Test.YtchkcemlglpobaaGreatCl06
import Derived.Test.YtchkcemlglpobaaGreatCl00
namespace Go.Eng
set_option linter.all false
open Go Go.RowKit
def ZKl (x : EK) (e : Nat) : Bool :=
 match x with
 | .t e' => Nat.beq e' e
 | _ => false
theorem ZxN {x : EK} {e : Nat} (h : ZKl x e = true) : x = .t e := by
 cases x with
 | t e' => rw [Ya (show Nat.beq e' e = true from h)]
 | _ => cases h
def ZdW (a b : Key) : Bool := Nat.beq a.1 b.1 && Nat.beq a.2 b.2
def AV.onef : AV → Bool
 | .top | .agg _ | .tup _ | .fn _ _ _ => false
 | _ => true
def Zry (sz : Nat) (C : List AV) (y : AV) (c : Nat) (news : List AV) : Prop :=
 news.all AV.onef = true ∧ match y with
 | .e0 => c = 0 ∧ news = []
 | .d (.list es) => (∀ e ∈ es, e.length = sz) ∧ c = es.length ∧ news = es.flatten.map .d
 | .ref _ _ off n => c = n ∧ (off + n) * sz ≤ C.length ∧ news = (C.drop (off * sz)).take (n * sz)
 | _ => False
def ZDg (C : List AV) (off c' c sz byt : Nat) (news C' : List AV) (n' : Nat) : Prop := (off + c') * sz = C.length ∧ C.drop (off * sz) ++ news = C' ∧ c' + c = n' ∧ n' * byt ≤ 140737488355328
def ZD4 (c byt : Nat) : Prop := c * byt ≤ 140737488355328
def WrS (r : Ren) (k : Key) : Prop := k.1 = 0 ∧ r.no (r.κ k)
def Zmy (r : Ren) (k : Key) (vs : List AV) : Prop := (Zan r vs).all (AV.low (r.κ k).1) = true
def wrK (r : Ren) (k : Key) (vs : List AV) (A : Prop) : Prop :=
 match Nat.beq k.1 1 with
 | true => A
 | false => WrS r k ∧ Zmy r k vs ∧ A
def StS (C : List AV) (off : Nat) (vs C' : List AV) : Prop := off + vs.length ≤ C.length ∧ C.take off ++ vs ++ C.drop (off + vs.length) = C'
def ZvL (n d : Nat) (e : TypeId) (sz : Nat) (cells : List AV) (x : Nat → AV) (K : St → AT → Prop) (τ : St) (a : AT) : Prop :=
 match Nat.ble (d + 1) n with
 | true => K ⟨upd τ.s d (x ((τ.H (1, d)).g + 1)), updH τ.H (1, d) ⟨(τ.H (1, d)).g + 1, true, e, sz, cells⟩⟩ a
 | false => False
def cellsOf (H : Hp) : AV → List AV
 | .ref k g _ _ => match ZbU H k g with | true => (H k).cells | false => []
 | _ => []
def Zuf (H : Hp) (sz : Nat) : AV → Bool
 | .ref k g _ _ => ZbU H k g && Nat.beq (H k).sz sz
 | _ => true
def ZJz (T : Nat → Option TI) (r : Ren) (n d : Nat) (t : TypeId) (x y : AV) (a : AT) (K : St → AT → Prop) (τ : St) : Prop :=
 match T t with
 | some i => match i.elm with
  | some (e, sz) => match T e, Nat.ble 1 sz, Zuf τ.H sz y with
   | some j, true, true => (match j.byt, j.zer, x, a with
    | some byt, some _, .e0, .nat c (.cs news b) => Zry sz (cellsOf τ.H y) y c news ∧ ZD4 c byt ∧ ZvL n d e sz news (fun g => .ref (1, d) g 0 c) K τ b
    | some byt, some _, .ref k q off c', .nat c (.cs news (.cs C' (.nat n' b))) => (match ZbU τ.H k q, Nat.beq (τ.H k).sz sz, ZKl (τ.H k).e e, Nat.ble (d + 1) n with
     | true, true, true, true => Zry sz (cellsOf τ.H y) y c news ∧ ZDg (τ.H k).cells off c' c sz byt news C' n' ∧ wrK r k news (K ⟨upd τ.s d (.ref k (q + 1) 0 n'), updH τ.H k ⟨q + 1, true, e, sz, C'⟩⟩ b)
     | _, _, _, _ => False)
    | _, _, _, _ => False)
   | _, _, _ => False
  | none => False
 | none => False
def Ziy (r : Ren) (n : Nat) (i : TI) (x : AV) (vs : Option (List AV)) (a : AT) (K : St → AT → Prop) (τ : St) : Prop :=
 match x, vs with
 | .ptr k q off, some vs => match ZbU τ.H k q, Nat.beq vs.length i.siz, Nat.ble 1 vs.length with
  | true, true, true => (match a with
   | .go b => (match Nat.ble (off + vs.length) (τ.H k).cells.length with
    | true => wrK r k vs (K ⟨τ.s, updH τ.H k ⟨q, true, (τ.H k).e, (τ.H k).sz, (τ.H k).cells.take off ++ vs ++ (τ.H k).cells.drop (off + vs.length)⟩⟩ b)
    | false => False)
   | .cs C' b => StS (τ.H k).cells off vs C' ∧ wrK r k vs (K ⟨τ.s, updH τ.H k ⟨q, true, (τ.H k).e, (τ.H k).sz, C'⟩⟩ b)
   | _ => False)
  | _, _, _ => False
 | _, _ => False
def MkS (c c' : Int) (byt m : Nat) (z C : List AV) : Prop := c = (m : Int) ∧ c ≤ c' ∧ (byt : Int) * c' ≤ 140737488355328 ∧ (List.replicate m z).flatten = C
def ZzF (P : Program) (T : Nat → Option TI) (l n : Nat) (r : Ren) (o : Oper) (a : AT) (K : St → AT → Prop) (τ : St) : Prop :=
 match o.op with
 | .alloc t => match o.dst, T t with
  | some d, some i => (match i.zer with | some (z :: zs) => ZvL n d t (zs.length + 1) (z :: zs) (fun g => .ptr (1, d) g 0) K τ a | _ => False)
  | _, _ => False
 | .box t x => match o.dst, Zbh (ev τ.s x), ZuC (ev τ.s x) with
  | some d, some (z :: zs), true => ZvL n d t (zs.length + 1) (z :: zs) (fun g => .ptr (1, d) g 0) K τ a
  | _, _, _ => False
 | .store t p x => match o.dst, T t, ZuC (ev τ.s x) with
  | none, some i, true => Ziy r n i (ev τ.s p) (Zbh (ev τ.s x)) a K τ
  | _, _, _ => False
 | .buildSlice t len parts => match o.dst, T t with
  | some d, some i => (match i.elm with
   | some (e, sz) => (match Nat.ble 1 sz, len with
    | true, 0 => (match parts.toList with | [] => ZlC n d K τ .e0 a | _ => False)
    | true, len + 1 => (match T e, Nat.ble ((len + 1) * sz) 16777216 with
     | some j, true => (match j.zer with
      | some z => (match Nat.beq z.length sz, Zmu sz 0 (parts.toList.map fun p => (p.1, ev τ.s p.2)) with
       | true, some es => (match Nat.beq es.length (len + 1) with | true => ZlC n d K τ (.d (.list es)) a | false => False)
       | _, _ => False)
      | none => False)
     | _, _ => False)
    | _, _ => False)
   | none => False)
  | _, _ => False
 | .makeSlice t x y => match o.dst, T t, ev τ.s x, ev τ.s y, a with
  | some d, some i, .d (.int _ c), .d (.int _ c'), .nat m (.cs C b) => (match i.elm with
   | some (e, sz) => (match T e, Nat.ble 1 sz with
    | some j, true => (match j.zer, j.byt with
     | some z, some byt => (match Nat.beq z.length sz with
      | true => MkS c c' byt m z C ∧ ZvL n d e sz C (fun g => .ref (1, d) g 0 m) K τ b
      | false => False)
     | _, _ => False)
    | _, _ => False)
   | none => False)
  | _, _, _, _, _ => False
 | .call c => match c.callee with
  | .builtin .append => (match o.dst, c.args.toList, c.argTypes.toList with
   | some d, [x, y], [t, t'] => (match Nat.beq t t' with | true => ZJz T r n d t (ev τ.s x) (ev τ.s y) a K τ | false => False)
   | _, _, _ => False)
  | _ => (match o.dst with | some d => pV P T l r τ o.op none a (ZlC n d K τ) | none => False)
 | _ => match o.dst with | some d => pV P T l r τ o.op none a (ZlC n d K τ) | none => False
def ZGE (n : Nat) (K : St → AT → Prop) (s : Nat → AV) (H : Hp) (v : AV) (b : AT) : Option Nat → Prop
 | some d => match Nat.ble (d + 1) n with | true => K ⟨upd s d v, H⟩ b | false => False
 | none => K ⟨s, H⟩ b
def ZDO (T : Nat → Option TI) (r : Ren) (n : Nat) (dst : Option Nat) (t t' : Nat) (x y : AV) (a : AT) (K : St → AT → Prop) (τ : St) : Prop :=
 match T t, T t' with
 | some i, some i' => match i.elm, i'.elm with
  | some (e, sz), some (e', sz') => match Nat.beq e e', Nat.beq sz sz', T e, Nat.ble 1 sz, Zuf τ.H sz y with
   | true, true, some j, true, true => (match j.zer, x, a with
    | some _, .ref k q off cn, .nat c (.cs news (.cs C' b)) => (match ZbU τ.H k q, Nat.beq (τ.H k).sz sz with
     | true, true => Zry sz (cellsOf τ.H y) y c news ∧ c ≤ cn ∧ StS (τ.H k).cells (off * sz) news C' ∧ wrK r k news (ZGE n K τ.s (updH τ.H k ⟨q, true, (τ.H k).e, (τ.H k).sz, C'⟩) (.d (.int .i64 c)) b dst)
     | _, _ => False)
    | _, _, _ => False)
   | _, _, _, _, _ => False
  | _, _ => False
 | _, _ => False
def ZIX (C : List AV) (off cn sz : Nat) (z C' : List AV) : Prop := (off + cn) * sz ≤ C.length ∧ C.take (off * sz) ++ (List.replicate cn z).flatten ++ C.drop ((off + cn) * sz) = C'
def Zv6 (T : Nat → Option TI) (r : Ren) (t : Nat) (x : AV) (a : AT) (K : St → AT → Prop) (τ : St) : Prop :=
 match T t with
 | some i => match i.elm with
  | some (e, sz) => match T e, Nat.ble 1 sz with
   | some j, true => (match j.zer, x, a with
    | some z, .ref k q off cn, .cs C' b => (match ZbU τ.H k q, Nat.beq (τ.H k).sz sz, Nat.beq z.length sz with
     | true, true, true => ZIX (τ.H k).cells off cn sz z C' ∧ wrK r k z (K ⟨τ.s, updH τ.H k ⟨q, true, (τ.H k).e, (τ.H k).sz, C'⟩⟩ b)
     | _, _, _ => False)
    | _, _, _ => False)
   | _, _ => False
  | none => False
 | none => False
def ZuB (P : Program) (T : Nat → Option TI) (l n : Nat) (r : Ren) (o : Oper) (a : AT) (K : St → AT → Prop) (τ : St) : Prop :=
 match o.op with
 | .call c => (match c.callee with
  | .builtin .copy => (match c.args.toList, c.argTypes.toList with | [x, y], [t, t'] => ZDO T r n o.dst t t' (ev τ.s x) (ev τ.s y) a K τ | _, _ => False)
  | .builtin .clear => (match c.args.toList, c.argTypes.toList, o.dst with | [x], [t], none => Zv6 T r t (ev τ.s x) a K τ | _, _, _ => False)
  | _ => ZzF P T l n r o a K τ)
 | _ => ZzF P T l n r o a K τ
def ZuT (T : Nat → Option TI) (n : Nat) (dst : Option Nat) (t len : Nat) (vs : List (Nat × AV)) (a : AT) (K : St → AT → Prop) (τ : St) : Prop :=
 match dst, T t with
 | some d, some i => (match i.elm with
  | some (e, sz) => (match T e, Nat.ble 1 sz, Nat.ble ((len + 1) * sz) 16777216 with
   | some j, true, true => (match j.zer with
    | some z => (match Nat.beq z.length sz, ZcP (fun i => some (i * sz, sz)) (List.replicate (len + 1) z).flatten vs, vs.all (fun p => ZuC p.2) with
     | true, some cs, true => (match z.all AV.flat with | true => ZvL n d e sz cs (fun g => .ref (1, d) g 0 (len + 1)) K τ a | false => False)
     | _, _, _ => False)
    | none => False)
   | _, _, _ => False)
  | none => False)
 | _, _ => False
def ZvV (P : Program) (T : Nat → Option TI) (l n : Nat) (r : Ren) (o : Oper) (a : AT) (K : St → AT → Prop) (τ : St) : Prop :=
 match o.op with
 | .buildSlice t (len + 1) parts => (match a with
  | .go b => ZuT T n o.dst t len (parts.toList.map fun p => (p.1, ev τ.s p.2)) b K τ
  | .sep b => ZuB P T l n r o b K τ
  | a => ZuB P T l n r o a K τ)
 | _ => ZuB P T l n r o a K τ
def Zqd (n d : Nat) (e : EK) (x : Nat → AV) (K : St → AT → Prop) (τ : St) (a : AT) : Prop :=
 match Nat.ble (d + 1) n with
 | true => K ⟨upd τ.s d (x ((τ.H (1, d)).g + 1)), updH τ.H (1, d) ⟨(τ.H (1, d)).g + 1, true, e, 0, []⟩⟩ a
 | false => False
def ZKf (s : Nat → AV) : Option Operand → Bool
 | none => true
 | some x => match ev s x with | .d (.int _ _) => true | _ => false
def ZLf (s : ByteArray) (ds : List D) (es es' : List (List D)) : Prop := Zh9 s ds es = es'
def ZMD (s : ByteArray) (es es' : List (List D)) : Prop := Zjk s es = es'
def ZKK (rest : List (List D)) (i : Nat) (e : List D) (es : List (List D)) : Prop := rest[i]? = some e ∧ rest.eraseIdx i = es
def pMs (T : Nat → Option TI) (r : Ren) (dst : Option Nat) (t : Nat) (x y z : AV) (a : AT) (K : St → AT → Prop) (τ : St) : Prop :=
 match dst, T t, x, y with
 | none, some i, .mp k g, .d (.str s) => (match i.mp, ZbU τ.H k g, (τ.H k).e with
  | some (q, _), true, .m q' es => (match bqB q q', Zzm q z, a with
   | true, some ds, .ents es' b => ZLf s ds es es' ∧ wrK r k [] (K ⟨τ.s, updH τ.H k ⟨g, true, .m q es', (τ.H k).sz, (τ.H k).cells⟩⟩ b)
   | _, _, _ => False)
  | _, _, _ => False)
 | _, _, _, _ => False
def pMd (T : Nat → Option TI) (r : Ren) (dst : Option Nat) (t : Nat) (x y : AV) (a : AT) (K : St → AT → Prop) (τ : St) : Prop :=
 match dst, T t, x, y with
 | none, some i, .mp k g, .d (.str s) => (match i.mp, ZbU τ.H k g, (τ.H k).e with
  | some (q, _), true, .m q' es => (match bqB q q', a with
   | true, .ents es' b => ZMD s es es' ∧ wrK r k [] (K ⟨τ.s, updH τ.H k ⟨g, true, .m q es', (τ.H k).sz, (τ.H k).cells⟩⟩ b)
   | _, _ => False)
  | _, _, _ => False)
 | _, _, _, _ => False
def pNx (n d : Nat) (k : Key) (g : Nat) (q : Bool) (rest : List (List D)) (a : AT) (K : St → AT → Prop) (τ : St) : Prop :=
 match Nat.ble (d + 1) n, a with
 | true, .all a0 f => (rest = [] → K ⟨upd τ.s d (.tup [.d (.bool false)]), τ.H⟩ a0) ∧ ∀ i, i < rest.length → (match f i with
  | .ds (.str s :: ds) (.ents es b) => ZKK rest i (.str s :: ds) es ∧ K ⟨upd τ.s d (.tup [.d (.bool true), .d (.str s), meA q ds]), updH τ.H k ⟨g, true, .i q es (some (.str s :: ds)), (τ.H k).sz, (τ.H k).cells⟩⟩ b
  | _ => False)
 | _, _ => False
def pNs (n d : Nat) (k : Key) (g : Nat) (z : ByteArray) (p : Nat) (a : AT) (K : St → AT → Prop) (τ : St) : Prop :=
 match Nat.ble (d + 1) n, a with
 | true, .br a1 a0 => (decide (p < z.size) = true → K ⟨upd τ.s d (.tup [.d (.bool true), .d (.int .i64 (p : Int)), .d (.int .i32 (dcC z p))]), updH τ.H k ⟨g, true, .s z (p + dcW z p), (τ.H k).sz, (τ.H k).cells⟩⟩ a1) ∧ (decide (p < z.size) = false → K ⟨upd τ.s d (.tup [.d (.bool false)]), τ.H⟩ a0)
 | _, _ => False
def Zs5 (P : Program) (T : Nat → Option TI) (l n : Nat) (r : Ren) (o : Oper) (a : AT) (K : St → AT → Prop) (τ : St) : Prop :=
 match o.op with
 | .makeMap t rs => (match o.dst, T t, ZKf τ.s rs with
  | some d, some i, true => (match i.mp with | some (q, _) => Zqd n d (.m q []) (fun g => .mp (1, d) g) K τ a | none => False)
  | _, _, _ => False)
 | .mapUpdate t x y z => pMs T r o.dst t (ev τ.s x) (ev τ.s y) (ev τ.s z) a K τ
 | .insert t x y z => pMs T r o.dst t (ev τ.s x) (ev τ.s y) (ev τ.s z) a K τ
 | .range t x => (match o.dst, T t, ev τ.s x with
  | some d, some i, .d (.map q es) => (match i.mp with | some _ => Zqd n d (.i q es none) (fun g => .ptr (1, d) g 0) K τ a | none => False)
  | some d, some i, .d (.str z) => (match Nat.beq i.kin 2 with | true => Zqd n d (.s z 0) (fun g => .ptr (1, d) g 0) K τ a | false => False)
  | _, _, _ => False)
 | .next x false => (match o.dst, ev τ.s x with
  | some d, .ptr k g 0 => (match Nat.beq k.1 1, ZbU τ.H k g, (τ.H k).e with
   | true, true, .i q rest _ => pNx n d k g q rest a K τ
   | _, _, _ => False)
  | _, _ => False)
 | .next x true => (match o.dst, ev τ.s x with
  | some d, .ptr k g 0 => (match Nat.beq k.1 1, ZbU τ.H k g, (τ.H k).e with
   | true, true, .s z p => pNs n d k g z p a K τ
   | _, _, _ => False)
  | _, _ => False)
 | .entry x => (match o.dst, ev τ.s x with
  | some d, .ptr k g 0 => (match Nat.beq k.1 1, ZbU τ.H k g, (τ.H k).e, Nat.ble (d + 1) n with
   | true, true, .i q rest (some (.str s :: ds)), true => K ⟨upd τ.s d (.tup [.d (.str s), meA q ds]), updH τ.H k ⟨g, true, .i q rest none, (τ.H k).sz, (τ.H k).cells⟩⟩ a
   | _, _, _, _ => False)
  | _, _ => False)
 | .call c => (match c.callee with
  | .builtin .delete => (match c.args.toList, c.argTypes.toList with | [x, y], [t, _] => pMd T r o.dst t (ev τ.s x) (ev τ.s y) a K τ | _, _ => False)
  | _ => ZvV P T l n r o a K τ)
 | _ => ZvV P T l n r o a K τ
def ZdT (env : Env) : Option Nat → Env
 | some d => (d, []) :: env
 | none => env
def ZdR (env : Env) : Option Nat → Bool
 | some d => fresh d env
 | none => true
def ZrH (P : Program) (T : Nat → Option TI) (l n : Nat) (r : Ren) (ds : List (Option Nat)) : List Oper → Env → AT → (St → Env → AT → Prop) → St → Prop
 | [], env, a, K, τ => K τ env a
 | o :: rest, env, a, K, τ => match o.guard with
  | none => (match Zcj env [] o.op, ZdR env o.dst with
   | true, true => Zs5 P T l n r o a (fun τ' a' => ZrH P T l n r ds rest (ZdT env o.dst) a' K τ') τ
   | _, _ => False)
  | some (i, b) => (match nth ds i, o.dst with
   | some (some d), some e => (match Zej τ.s ((d, b) :: lk env d), Zcj env ((d, b) :: lk env d) o.op, fresh e env && Zl9 e ((d, b) :: lk env d), Nat.ble (e + 1) n with
    | some g, true, true, true => pV P T l r τ o.op (some g) a (fun v a' => ZrH P T l n r ds rest ((e, (d, b) :: lk env d) :: env) a' K ⟨upd τ.s e v, τ.H⟩)
    | _, _, _, _ => False)
   | _, _ => False)
def ZJK (P : Program) (T : Nat → Option TI) (l n : Nat) (r : Ren) (o : Oper) (a : AT) (K : St → AT → Prop) (τ : St) : Prop :=
 match o.op, o.dst with
 | .buildSlice t (len + 1) ps, some d => pV P T l r τ (.buildSlice t (len + 1) ps) none a (ZlC n d K τ)
 | _, _ => Zs5 P T l n r o a K τ
def Zgy (P : Program) (T : Nat → Option TI) (l n : Nat) (r : Ren) (ds : List (Option Nat)) : List Oper → Env → AT → (St → Env → AT → Prop) → St → Prop
 | [], env, a, K, τ => K τ env a
 | o :: rest, env, a, K, τ => match o.guard with
  | none => (match Zcj env [] o.op, ZdR env o.dst with
   | true, true => ZJK P T l n r o a (fun τ' a' => Zgy P T l n r ds rest (ZdT env o.dst) a' K τ') τ
   | _, _ => False)
  | some (i, b) => (match nth ds i, o.dst with
   | some (some d), some e => (match Zej τ.s ((d, b) :: lk env d), Zcj env ((d, b) :: lk env d) o.op, fresh e env && Zl9 e ((d, b) :: lk env d), Nat.ble (e + 1) n with
    | some g, true, true, true => pV P T l r τ o.op (some g) a (fun v a' => Zgy P T l n r ds rest ((e, (d, b) :: lk env d) :: env) a' K ⟨upd τ.s e v, τ.H⟩)
    | _, _, _, _ => False)
   | _, _ => False)
end Go.Eng
namespace Go.Eng
set_option linter.all false
open Go Go.RowKit
section
variable {P : Program} {T : Nat → Option TI} {r : Ren} {l n outs : Nat} {B : Base} {env : Env} {τ σ : St} {a : AT} {o : Oper}
theorem R.adopt {act : Act} {w : World} {d : Nat} {e : TypeId} {sz : Nat} {s : Nat → AV} {H : Hp} (h : R l n B ⟨s, H⟩ act w) (k : Key) (hk : k.1 = l + 1) (g : Nat) (hgk : (H k).g < g) (hd : s d = .e0) : R l n B ⟨upd s d (.ref k g 0 0), updH H k ⟨g, true, e, sz, []⟩⟩ act w := by
 obtain ⟨m, S, hO, hn, hdf, hS, hex⟩ := h.un
 have hext : Ext (l + 1) H m S w (updH H k ⟨g, true, e, sz, []⟩) (ZcK m k ⟨0, 0, 0⟩) S w := by
  refine ⟨fun _ h => h, fun _ _ => rfl, fun q hq => ?_, fun q hq hg hl => ?_, rfl, rfl, rfl, Yd _⟩
  ·by_cases hqk : q = k
   ·subst hqk; rw [Zab]; simp only; omega
   ·rw [Zac _ _ hqk]; exact Yd _
  ·by_cases hqk : q = k
   ·subst hqk; rw [Zab] at hg; simp only at hg; omega
   ·rw [Zac _ _ hqk] at hl ⊢; rw [Zal _ _ hqk]; exact ⟨hl, rfl, rfl⟩
 have hO' : Ok (l + 1) (updH H k ⟨g, true, e, sz, []⟩) (ZcK m k ⟨0, 0, 0⟩) S w := by
  refine ⟨hO.sub, fun q hq hl hz => ?_, fun q hq hl hz => ?_, fun q q' hq hq' hl hl' hz hz' he => ?_, fun q hq hl hz => ?_, hO.mp.upd (Yd _) k _ rfl (fun q e => Zal _ _ e) (fun _ h => h) (fun _ h => .inl h) (fun _ _ => rfl) (fun _ _ h _ => h)⟩
  ·by_cases hqk : q = k
   ·subst hqk; rw [Zab]
   ·rw [Zac _ _ hqk] at hl ⊢; rw [Zal _ _ hqk] at hz; exact hO.empty q hq hl hz
  ·by_cases hqk : q = k
   ·subst hqk; rw [Zae] at hz; exact absurd rfl hz
   ·rw [Zac _ _ hqk] at hl; rw [Zal _ _ hqk] at hz ⊢; exact hO.fresh q hq hl hz
  ·have h1 : q ≠ k := by rintro rfl; rw [Zae] at hz; exact hz rfl
   have h2 : q' ≠ k := by rintro rfl; rw [Zae] at hz'; exact hz' rfl
   rw [Zac _ _ h1] at hl; rw [Zac _ _ h2] at hl'
   rw [Zal _ _ h1] at hz he; rw [Zal _ _ h2] at hz' he
   exact hO.inj q q' hq hq' hl hl' hz hz' he
  ·have h1 : q ≠ k := by rintro rfl; rw [Zae] at hz; exact hz rfl
   rw [Zac _ _ h1] at hl ⊢; rw [Zal _ _ h1] at hz ⊢
   obtain ⟨C, g1, g2, g3, g4⟩ := hO.blk q hq hl hz
   exact ⟨C, g1, g2, g3, fun i x v hi hv => ⟨(g4 i x v hi hv).1, (g4 i x v hi hv).2.ext hext hq⟩⟩
 refine ⟨_, _, hO', hn, hdf, fun i => ?_, hex.trans (hext.mono (by omega))⟩
 simp only [upd]
 by_cases hi : i = d
 ·subst hi
  rw [if_pos rfl]
  have := hS i
  rw [hd] at this
  generalize act.tmps.getD i Go.undef = v at this ⊢
  cases this with
  | e0 oa =>
   have := RepA.refL (w := w) (S := S) (H := updH H k ⟨g, true, e, sz, []⟩) (m := ZcK m k ⟨0, 0, 0⟩) (l := l + 1) k 0 0 oa (by omega) (by rw [Zab]) (by rw [Zae]; simp) (fun h => by rw [Zae] at h; simp at h)
   rw [Zab, Zae] at this
   exact this
 ·rw [if_neg hi]
  exact (hS i).ext hext (Yd _)
def Zz6 (r : Ren) (outs : Nat) (k : Key) : Prop := k.1 = 1 ∨ (k.1 = 0 ∧ k.2 < outs ∧ r.no (r.κ k))
theorem RenOk.ne (hr : RenOk r l outs) {q k : Key} (hq : q.1 = 1 ∨ (q.1 = 0 ∧ q.2 < outs)) (hk : k.1 = 1 ∨ (k.1 = 0 ∧ k.2 < outs)) (hqk : q ≠ k) : r.κ q ≠ r.κ k := fun he => by
 obtain ⟨q1, q2⟩ := q
 obtain ⟨k1, k2⟩ := k
 simp only at hq hk
 rcases hq with rfl | ⟨rfl, h1⟩ <;> rcases hk with rfl | ⟨rfl, h2⟩
 ·rw [hr.own, hr.own] at he; simp at he; exact hqk (by rw [he])
 ·rw [hr.own] at he; have := hr.out _ h2; rw [← he] at this; simp at this; omega
 ·rw [hr.own] at he; have := hr.out _ h1; rw [he] at this; simp at this; omega
 ·exact hqk (by rw [hr.inj _ _ h1 h2 he])
theorem Zz6.lk {k : Key} (h : Zz6 r outs k) : k.1 = 1 ∨ (k.1 = 0 ∧ k.2 < outs) := by
 rcases h with h | ⟨h1, h2, _⟩
 ·grind
 grind
theorem RG.updK (hr : RenOk r l outs) (h : RG r l outs env τ σ) (k : Key) (b b' : Blk) (hb : b.live = true → b' = ZaZ r k b) (hg : b'.g = r.γ k + b.g) (hk : Zz6 r outs k) :
  RG r l outs env ⟨τ.s, Go.Eng.updH τ.H k b⟩ ⟨σ.s, Go.Eng.updH σ.H (r.κ k) b'⟩ := by
 have hlk := hk.lk
 refine ⟨h.s, fun q hq => ?_, fun d => ?_, fun i hi => ?_, fun q hq => ?_, fun q hq hn => ?_⟩
 ·simp only at hq ⊢
  by_cases hqk : q = k
  ·subst hqk; rw [Zab] at hq ⊢; rw [Zab]; exact hb hq
  ·rw [Zac _ _ hqk] at hq ⊢; rw [Zac _ _ (hr.ne (h.k _ hq) hlk hqk)]; exact h.h q hq
 ·simp only
  by_cases hdk : ((1, d) : Key) = k
  ·subst hdk; rw [Zab, hr.own, Zab]; exact hg
  ·have e2 : ((l + 1, d) : Key) ≠ r.κ k := by rw [← hr.own d]; exact hr.ne (.inl rfl) hlk hdk
   rw [Zac _ _ hdk, Zac _ _ e2]
   exact h.g d
 ·simp only
  by_cases hdk : ((0, i) : Key) = k
  ·subst hdk; rw [Zab, Zab]; exact hg
  ·rw [Zac _ _ hdk, Zac _ _ (hr.ne (.inr ⟨rfl, hi⟩) hlk hdk)]
   exact h.go i hi
 ·simp only at hq
  by_cases hqk : q = k
  ·grind
  ·rw [Zac _ _ hqk] at hq; exact h.k q hq
 ·simp only
  have e2 : q ≠ r.κ k := by
   rintro rfl
   rcases hk with hk | ⟨_, _, hk⟩
   ·obtain ⟨k1, k2⟩ := k
    simp only at hk
    subst hk
    rw [hr.own] at hq
    grind
   grind
  rw [Zac _ _ e2]
  exact h.o q hq hn
theorem RG.updH (hr : RenOk r l outs) (h : RG r l outs env τ σ) (k : Key) (b : Blk) (hb : b.live = true) (hk : Zz6 r outs k) :
  RG r l outs env ⟨τ.s, Go.Eng.updH τ.H k b⟩ ⟨σ.s, Go.Eng.updH σ.H (r.κ k) (ZaZ r k b)⟩ := RG.updK hr h k b _ (fun _ => rfl) rfl hk
theorem Zhc (hr : RenOk r l outs) (h : RG r l outs env τ σ) {k : Key} (hl : (τ.H k).live = true) {vs : List AV} {A : Prop} (hw : wrK r k vs A) : A ∧ Zz6 r outs k ∧ ((r.κ k).1 = l + 1 ∨ (Zan r vs).all (AV.low (r.κ k).1) = true) := by
 unfold wrK at hw
 split at hw
 ·rename_i hk
  have hk := Ya hk
  obtain ⟨k1, k2⟩ := k
  simp only at hk
  subst hk
  exact ⟨hw, .inl rfl, .inl (by rw [hr.own])⟩
 ·obtain ⟨⟨h1, h2⟩, h3, h4⟩ := hw
  rcases h.k k hl with h5 | ⟨_, h5⟩
  ·omega
  ·exact ⟨h4, .inr ⟨h1, h5, h2⟩, .inr h3⟩
theorem Zak {s : Nat → AV} : ZgV s [] := fun q hq => by cases hq
theorem RG.put0 (h : RG r l outs env τ σ) {d : Nat} (hf : fresh d env = true) {v y : AV} (hy : y = ren r v) : RG r l outs ((d, []) :: env) ⟨upd τ.s d v, τ.H⟩ ⟨upd σ.s d y, σ.H⟩ :=
 h.put hf rfl (fun _ => hy) (fun hn => absurd Zak hn)
def Zjx (r : Ren) (l outs : Nat) (env : Env) (K : St → AT → Prop) (σ : St) : Prop := ∃ τ a, K τ a ∧ RG r l outs env τ σ
theorem Zdv (hr : RenOk r l outs) (h : RG r l outs env τ σ) {K : St → AT → Prop} {d : Nat} (hf : fresh d env = true) {e : TypeId} {sz : Nat} {cells : List AV} {x x' : Nat → AV} (hx : ∀ g, x' (r.γ (1, d) + g) = ren r (x g)) (hn : ZvL n d e sz cells x K τ a) :
  ZjH l n d e sz (Zan r cells) x' (Zjx r l outs ((d, []) :: env) K) σ := by
 unfold ZvL at hn
 split at hn
 ·rename_i hd
  have hd := Yc hd
  refine ⟨by omega, _, _, hn, ?_⟩
  have h1 := h.put0 (v := x ((τ.H (1, d)).g + 1)) (y := x' ((σ.H (l + 1, d)).g + 1)) hf (by rw [h.g, Yp]; exact hx _)
  have h2 := RG.updH hr h1 (1, d) ⟨(τ.H (1, d)).g + 1, true, e, sz, cells⟩ rfl (.inl rfl)
  have e1 : ZaZ r (1, d) ⟨(τ.H (1, d)).g + 1, true, e, sz, cells⟩ = ⟨(σ.H (l + 1, d)).g + 1, true, e, sz, Zan r cells⟩ := by
   simp only [ZaZ, h.g, Yp]
  rw [e1, hr.own] at h2
  exact h2
 grind
theorem ZfB {K : St → AT → Prop} (h : RG r l outs env τ σ) {d : Nat} (hf : fresh d env = true) {y : AV} (hy : KR r (ZlC n d K τ) y) : d < n ∧ Zjx r l outs ((d, []) :: env) K ⟨upd σ.s d y, σ.H⟩ := by
 obtain ⟨v, a', rfl, h1⟩ := hy
 unfold ZlC at h1
 split at h1
 ·rename_i hd
  have hd := Yc hd
  exact ⟨by omega, _, _, h1, h.put0 hf rfl⟩
 grind
section
variable {H : Hp} {K K' : AV → Prop} {t : TypeId} {x y : AV}
theorem Zgj (hk : ∀ y, K y → K' y) (h : ZeC P H t x K) : ZeC P H t x K' := by
 unfold ZeC at h ⊢
 split at h
 ·grind
 ·grind
 grind
theorem ZgD {i : Nat} (hk : ∀ y, K y → K' y) (h : ZaR P H t i x K) : ZaR P H t i x K' := by
 unfold ZaR at h ⊢
 grind
theorem Zmi {i : Nat} (hk : ∀ y, K y → K' y) (h : Zds P t i x K) : Zds P t i x K' := by
 unfold Zds at h ⊢
 split at h
 ·split at h
  ·grind
  grind
 grind
theorem ZgH (hk : ∀ y, K y → K' y) (h : ZaJ P H t x y K) : ZaJ P H t x y K' := by
 unfold ZaJ at h ⊢
 grind
theorem ZlW (hk : ∀ y, K y → K' y) (h : ZdP P t x y K) : ZdP P t x y K' := by
 unfold ZdP at h ⊢
 grind
theorem Zlo {neg : Bool} (hk : ∀ y, K y → K' y) (h : Zjm H neg x K) : Zjm H neg x K' := by
 unfold Zjm at h ⊢
 grind
theorem Zr4 {op : BinOp} {ny : Bool} (hk : ∀ y, K y → K' y) (h : Zgw P H op t ny x y K) : Zgw P H op t ny x y K' := by
 unfold Zgw at h ⊢
 split at h
 ·exact ⟨h.1, Ziv hk h.2⟩
 ·exact Zir hk h
 ·grind
 ·unfold ZrG at h ⊢
  split at h
  ·split at h
   ·grind
   grind
  grind
 ·refine ⟨h.1, h.2.1, ?_⟩
  replace h := h.2.2
  split at h
  ·exact Zlo hk h
  ·exact Zlo hk h
  grind
 grind
theorem Zzh {op : UnOp} (hk : ∀ y, K y → K' y) (h : vUn op x K) : vUn op x K' := by
 unfold vUn at h ⊢
 grind
theorem Zoz {u : TypeId} (hk : ∀ y, K y → K' y) (h : ZeZ P t u x K) : ZeZ P t u x K' := by
 unfold ZeZ at h ⊢
 grind
theorem Zmm {lo hi : Option AV} {mx : Bool} (hk : ∀ y, K y → K' y) (h : Zc3 P H t x lo hi mx K) : Zc3 P H t x lo hi mx K' := by
 unfold Zc3 at h ⊢
 grind
theorem Zts (hk : ∀ y, K y → K' y) (h : Zjp P H t x K) : Zjp P H t x K' := by
 unfold Zjp at h ⊢
 grind
theorem Zlz {ps : List (Nat × AV)} (hk : ∀ y, K y → K' y) (h : ZdQ P t ps K) : ZdQ P t ps K' := by
 unfold ZdQ at h ⊢
 grind
theorem Zhh {op : Op} {ρ : Operand → AV} (hk : ∀ y, K y → K' y) (h : vOp P H op ρ K) : vOp P H op ρ K' := by
 cases op <;> simp only [vOp] at h ⊢ <;> try exact h.elim
 case move x => exact hk _ h
 case assign x => exact hk _ h
 case pick c a b =>
  split at h
  ·grind
  ·grind
 case load => exact Zgj hk h
 case fieldAddr => exact ZgD hk h
 case field => exact Zmi hk h
 case indexAddr => exact ZgH hk h
 case index => exact ZlW hk h
 case extract =>
  split at h
  ·grind
  ·grind
 case makeInterface =>
  refine ⟨h.1, ?_⟩
  replace h := h.2
  repeat' split at h
  all_goals first | exact h.elim | exact hk _ h
 case typeAssert =>
  refine ⟨h.1, ?_⟩
  replace h := h.2
  repeat' split at h
  all_goals first | exact h.elim | exact ⟨h.1, hk _ h.2⟩
 case binOp => exact Zr4 hk h
 case unOp => exact Zzh hk h
 case convert => exact Zoz hk h
 case nilCheck =>
  unfold ZvG at h ⊢
  split at h
  ·grind
  ·grind
  ·grind
 case makeFunc => exact hk _ h
 case slice => exact Zmm hk h
 case build => exact Zlz hk h
 case lookup => exact Zjb hk h
 case call c =>
  split at h
  ·exact ⟨h.1, Zts hk h.2⟩
  ·split at h
   ·unfold vMM at h ⊢
    grind
   ·unfold ZrK at h ⊢
    grind
   grind
  ·grind
end
end
end Go.Eng
