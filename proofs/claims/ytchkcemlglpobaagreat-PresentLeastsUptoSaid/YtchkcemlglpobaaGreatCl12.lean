import Derived.Test.YtchkcemlglpobaaGreatCl11
import Derived.Test.YtchkcemlglpobaaGreatCl00
namespace Go.Eng
structure Raw where
 num : Int
 wire : Int
 bits : Int
 data : ByteArray
deriving Inhabited, DecidableEq
mutual
inductive Val where
 | mk (kind bits : Int) (text : ByteArray) (list : List Val) (pairs : List Pr) (slots : List Slt) (raws : List Raw)
inductive Pr where
 | mk (key val : Val)
inductive Slt where
 | mk (num : Int) (val : Val)
end
inductive Msk where
 | mk (num : Int) (subs : List Msk)
instance : Inhabited Val := ⟨.mk 0 0 .empty [] [] [] []⟩
instance : Inhabited Pr := ⟨.mk default default⟩
instance : Inhabited Slt := ⟨.mk 0 default⟩
instance : Inhabited Msk := ⟨.mk 0 []⟩
def Val.kind : Val → Int | .mk k _ _ _ _ _ _ => k
def Val.bits : Val → Int | .mk _ b _ _ _ _ _ => b
def Val.text : Val → ByteArray | .mk _ _ t _ _ _ _ => t
def Val.list : Val → List Val | .mk _ _ _ l _ _ _ => l
def Val.pairs : Val → List Pr | .mk _ _ _ _ p _ _ => p
def Val.slots : Val → List Slt | .mk _ _ _ _ _ s _ => s
def Val.raws : Val → List Raw | .mk _ _ _ _ _ _ r => r
def Pr.key : Pr → Val | .mk k _ => k
def Pr.val : Pr → Val | .mk _ v => v
def Slt.num : Slt → Int | .mk n _ => n
def Slt.val : Slt → Val | .mk _ v => v
def Msk.num : Msk → Int | .mk n _ => n
def Msk.subs : Msk → List Msk | .mk _ s => s
def ZaX (s : ByteArray) : List D := [.str s]
def Ze7 (s : Int) : List D := [.int .i64 s]
def ZbH (s : Bool) : List D := [.bool s]
def Zcg (x : Raw) : List D := [.int .i64 x.num, .int .i64 x.wire, .int .u64 x.bits, .str x.data]
mutual
def Zb7 : Val → List D
 | .mk k b t l p s r => [.int .i64 k, .int .u64 b, .str t, .list (ZtL l), .list (ZGw p), .list (Zs8 s), .list (r.map Zcg)]
def ZtL : List Val → List (List D)
 | [] => []
 | v :: vs => Zb7 v :: ZtL vs
def rPr : Pr → List D
 | .mk k v => Zb7 k ++ Zb7 v
def ZGw : List Pr → List (List D)
 | [] => []
 | v :: vs => rPr v :: ZGw vs
def Zar : Slt → List D
 | .mk n v => .int .i64 n :: Zb7 v
def Zs8 : List Slt → List (List D)
 | [] => []
 | v :: vs => Zar v :: Zs8 vs
end
mutual
def ZFh : Msk → List D
 | .mk n s => [.int .i64 n, .list (Zr6 s)]
def Zr6 : List Msk → List (List D)
 | [] => []
 | v :: vs => ZFh v :: Zr6 vs
end
theorem ZnP (l : List Val) : ZtL l = l.map Zb7 := by induction l with | nil => rfl | cons v l ih => simp [ZtL, ih]
theorem ZrU (l : List Pr) : ZGw l = l.map rPr := by induction l with | nil => rfl | cons v l ih => simp [ZGw, ih]
theorem Zpu (l : List Slt) : Zs8 l = l.map Zar := by induction l with | nil => rfl | cons v l ih => simp [Zs8, ih]
theorem Zpc (l : List Msk) : Zr6 l = l.map ZFh := by induction l with | nil => rfl | cons v l ih => simp [Zr6, ih]
def Zay (x : Val) : List D := [.int .i64 x.kind, .int .u64 x.bits, .str x.text, .list (x.list.map Zb7), .list (x.pairs.map rPr), .list (x.slots.map Zar), .list (x.raws.map Zcg)]
def ePr (x : Pr) : List D := [.int .i64 x.key.kind, .int .u64 x.key.bits, .str x.key.text, .list (x.key.list.map Zb7), .list (x.key.pairs.map rPr), .list (x.key.slots.map Zar), .list (x.key.raws.map Zcg), .int .i64 x.val.kind, .int .u64 x.val.bits, .str x.val.text, .list (x.val.list.map Zb7), .list (x.val.pairs.map rPr), .list (x.val.slots.map Zar), .list (x.val.raws.map Zcg)]
def Zh8 (x : Slt) : List D := [.int .i64 x.num, .int .i64 x.val.kind, .int .u64 x.val.bits, .str x.val.text, .list (x.val.list.map Zb7), .list (x.val.pairs.map rPr), .list (x.val.slots.map Zar), .list (x.val.raws.map Zcg)]
def ZJQ (x : Msk) : List D := [.int .i64 x.num, .list (x.subs.map ZFh)]
theorem Zd2 (v : Val) : Zb7 v = Zay v := by
 cases v; simp [Zb7, Zay, ZnP, ZrU, Zpu, Val.kind, Val.bits, Val.text, Val.list, Val.pairs, Val.slots, Val.raws]
theorem Zg1 (v : Pr) : rPr v = ePr v := by cases v; simp [rPr, Zd2, Zay, ePr, Pr.key, Pr.val]
theorem Zc7 (v : Slt) : Zar v = Zh8 v := by cases v; simp [Zar, Zd2, Zay, Zh8, Slt.num, Slt.val]
theorem ZHJ (v : Msk) : ZFh v = ZJQ v := by cases v; simp [ZFh, ZJQ, Zpc, Msk.num, Msk.subs]
structure Typ where
 kind : Int
 name : ByteArray
deriving Inhabited, DecidableEq
def ZGr (x : Typ) : List D := [.int .i64 x.kind, .str x.name]
structure Nt where
 name : ByteArray
 val : Val
deriving Inhabited
def eNt (x : Nt) : List D := [.str x.name, .int .i64 x.val.kind, .int .u64 x.val.bits, .str x.val.text, .list (x.val.list.map Zb7), .list (x.val.pairs.map rPr), .list (x.val.slots.map Zar), .list (x.val.raws.map Zcg)]
structure Fld where
 num : Int
 name : ByteArray
 card : Int
 key : Int
 type : Typ
 union : ByteArray
 hasDefault : Bool
 dflt : Val
 notes : List Nt
deriving Inhabited
def ZaH (x : Fld) : List D := [.int .i64 x.num, .str x.name, .int .i64 x.card, .int .i64 x.key, .int .i64 x.type.kind, .str x.type.name, .str x.union, .bool x.hasDefault, .int .i64 x.dflt.kind, .int .u64 x.dflt.bits, .str x.dflt.text, .list (x.dflt.list.map Zb7), .list (x.dflt.pairs.map rPr), .list (x.dflt.slots.map Zar), .list (x.dflt.raws.map Zcg), .list (x.notes.map eNt)]
structure Spn where
 lo : Int
 hi : Int
deriving Inhabited, DecidableEq
def Zdu (x : Spn) : List D := [.int .i64 x.lo, .int .i64 x.hi]
structure By where
 b : UInt8
deriving Inhabited, DecidableEq
def By.v (x : By) : Int := x.b.toNat
def eBy (x : By) : List D := [.int .u8 x.v]
structure Msg where
 name : ByteArray
 fields : List Fld
 reserved : List Spn
 gone : List ByteArray
 notes : List Nt
deriving Inhabited
def ZbG (x : Msg) : List D := [.str x.name, .list (x.fields.map ZaH), .list (x.reserved.map Zdu), .list (x.gone.map ZaX), .list (x.notes.map eNt)]
structure Itm where
 name : ByteArray
 num : Int
 notes : List Nt
deriving Inhabited
def ZrF (x : Itm) : List D := [.str x.name, .int .i64 x.num, .list (x.notes.map eNt)]
structure Enm where
 name : ByteArray
 opn : Bool
 items : List Itm
 reserved : List Spn
 notes : List Nt
deriving Inhabited
def Zca (x : Enm) : List D := [.str x.name, .bool x.opn, .list (x.items.map ZrF), .list (x.reserved.map Zdu), .list (x.notes.map eNt)]
structure Mth where
 name : ByteArray
 inn : ByteArray
 out : ByteArray
 shape : Int
 notes : List Nt
deriving Inhabited
def ZrN (x : Mth) : List D := [.str x.name, .str x.inn, .str x.out, .int .i64 x.shape, .list (x.notes.map eNt)]
structure Svc where
 name : ByteArray
 methods : List Mth
 notes : List Nt
deriving Inhabited
def ZcU (x : Svc) : List D := [.str x.name, .list (x.methods.map ZrN), .list (x.notes.map eNt)]
structure Scm where
 messages : List Msg
 enums : List Enm
 services : List Svc
deriving Inhabited
def Zb4 (x : Scm) : List D := [.list (x.messages.map ZbG), .list (x.enums.map Zca), .list (x.services.map ZcU)]
structure Fil where
 name : ByteArray
 space : ByteArray
 imports : List ByteArray
 messages : List Msg
 enums : List Enm
 services : List Svc
deriving Inhabited
def ZNl (x : Fil) : List D := [.str x.name, .str x.space, .list (x.imports.map ZaX), .list (x.messages.map ZbG), .list (x.enums.map Zca), .list (x.services.map ZcU)]
structure Prb where
 dfn : ByteArray
 num : Int
 err : Int
deriving Inhabited, DecidableEq
def ZaA (x : Prb) : List D := [.str x.dfn, .int .i64 x.num, .int .i64 x.err]
structure Stp where
 num : Int
 pos : Int
 hasKey : Bool
 key : Val
deriving Inhabited
structure Edt where
 path : List Stp
 kind : Int
 val : Val
deriving Inhabited
class Mv (V : Type) where
 q : Bool
 e : V → List D
 z : V
def eEt {V : Type} [Mv V] (p : ByteArray × V) : List D := .str p.1 :: Mv.e p.2
instance : Mv Bool := ⟨false, ZbH, false⟩
instance : Mv Int := ⟨false, Ze7, 0⟩
instance : Mv Msg := ⟨true, ZbG, ⟨⟨#[]⟩, [], [], [], []⟩⟩
instance : Mv (List Int) := ⟨false, fun x => [.list (x.map Ze7)], []⟩
instance (V : Type) [Mv V] : Mv (List (ByteArray × V)) := ⟨false, fun m => [.map (Mv.q V) (m.map eEt)], []⟩
structure Web where
 messages : List (ByteArray × Msg)
 enums : List (ByteArray × Bool)
deriving Inhabited
def ZxU (x : Web) : List D := [.map true (x.messages.map eEt), .map false (x.enums.map eEt)]
structure Lst where
 dfn : ByteArray
 l : List Prb
deriving Inhabited
structure Acs where
 m : Msg
 s : Scm
deriving Inhabited
def ZrI (x : Acs) : List D := [.str x.m.name, .list (x.m.fields.map ZaH), .list (x.m.reserved.map Zdu), .list (x.m.gone.map ZaX), .list (x.m.notes.map eNt), .list (x.s.messages.map ZbG), .list (x.s.enums.map Zca), .list (x.s.services.map ZcU)]
structure Lnk where
 files : List Fil
 f : Fil
 known : List ByteArray
 messages : List ByteArray
 enums : List Enm
deriving Inhabited
def ZNg : Raw := ⟨0, 0, 0, ⟨#[]⟩⟩
def ZBh : Val := .mk 0 0 ⟨#[]⟩ [] [] [] []
def zPr : Pr := .mk ZBh ZBh
def ZMh : Slt := .mk 0 ZBh
def ZNk : Msk := .mk 0 []
def ZLH : Typ := ⟨0, ⟨#[]⟩⟩
def zNt : Nt := ⟨⟨#[]⟩, ZBh⟩
def ZNj : Fld := ⟨0, ⟨#[]⟩, 0, 0, ZLH, ⟨#[]⟩, false, ZBh, []⟩
def ZMK : Spn := ⟨0, 0⟩
def zBy : By := ⟨0⟩
def ZLU : Msg := ⟨⟨#[]⟩, [], [], [], []⟩
def ZMJ : Itm := ⟨⟨#[]⟩, 0, []⟩
def ZNc : Enm := ⟨⟨#[]⟩, false, [], [], []⟩
def ZLT : Mth := ⟨⟨#[]⟩, ⟨#[]⟩, ⟨#[]⟩, 0, []⟩
def ZMf : Svc := ⟨⟨#[]⟩, [], []⟩
def ZNm : Fil := ⟨⟨#[]⟩, ⟨#[]⟩, [], [], [], []⟩
def ZL7 : Prb := ⟨⟨#[]⟩, 0, 0⟩
end Go.Eng
namespace Go.Eng
set_option linter.all false
open Go Go.RowKit
def cAt : List Nat → Code → Code
 | [], c => c
 | 0 :: p, .seq a _ => cAt p a
 | _ :: p, .seq _ b => cAt p b
 | 0 :: p, .cond _ a _ => cAt p a
 | _ :: p, .cond _ _ b => cAt p b
 | _ :: p, .block _ c => cAt p c
 | _ :: p, .loop c => cAt p c
 | _ :: p, .scope c => cAt p c
 | _, c => c
def Zai (f : Func) : Code := f.body.getD .skip
def Zad {α : Type} (e : α → List D) (xs : List α) : List AV := ((xs.map e).flatten).map .d
theorem Zag {α : Type} (e : α → List D) (xs : List α) : ZfG (Zad e xs) := fun x hx => by
 obtain ⟨d, _, rfl⟩ := Yy.1 hx; rfl
theorem Zd7 {α : Type} {e : α → List D} {sz : Nat} (he : ∀ x, (e x).length = sz) (xs : List α) : (Zad e xs).length = xs.length * sz := by
 unfold Zad
 induction xs with
 | nil => simp
 | cons x xs ih => simp only [Yu, YE, Yab, Yr, he, YZ, YB] at ih ⊢; omega
theorem Zle {α : Type} (e : α → List D) (xs ys : List α) : Zad e (xs ++ ys) = Zad e xs ++ Zad e ys := by simp [Zad]
section
variable {P : Program} {n : Nat} {C : Cx} {τ : St} {Q : Exit → St → Prop}
theorem ZnI {c : Code} (id : Nat) (x : Code) (hc : c = .block id x) (h : LW P n C x τ (fun e τ' => match e with | .exit i => (match Nat.beq i id with | true => Q .normal τ' | false => Q (.exit i) τ') | e => Q e τ')) : LW P n C c τ Q := hc ▸ ZtW (h.mono fun e τ' hq => by
 cases e with
 | exit i =>
  simp only at hq ⊢
  split at hq
  ·rename_i he; rw [if_pos (Ya he)]; exact hq
  ·rename_i he; rw [if_neg (by rintro rfl; simp at he)]; exact hq
 | _ => exact hq)
end
theorem ZgR {P : Program} {T : Nat → Option TI} {n : Nat} {f : FuncId} {fn : Func} (rs : List ResultVar) (c : Code) {l : Nat} {xs : List AV} {H : Hp} {Post : AV → Hp → Prop} (θ : Nat → AV) (ys : List AV)
  (hf : P.funcs[f]? = some fn) (hb : fn.body = some c) (hname : (fn.name == "runtime.NumGoroutine") = false) (hn : fn.ntmps = n) (hr : fn.results.toList = rs) (hx : xs.length ≤ n) (hT : TOk P T)
  (hxs : Zan ⟨fun k => (l + 1, k.2), fun _ => 0, θ, H, fun _ => False⟩ ys = xs) (h : ∀ B : Base, LW P n (cxP l θ H B) c (mkS (Zjn 0 ys) []) (FQ T rs 0 (fun y _ => Post y H))) : ZbY P f l xs H Post :=
 ZkK rs (cxP l θ H) (γ := fun _ => 0) (LPost := fun y _ => Post y H) hf hb hname hn hr hx hT (fun B => Zf2 l B θ H) (fun B => ⟨rfl, rfl, rfl, trivial⟩) (fun B => hxs) (fun _ => rfl) (fun _ => rfl) (fun B k hk => by simp [lkH, ZlH] at hk) (fun B i hi => absurd hi (Yah _))
  (fun B γ y bs H' _ hp ho hy => by rw [hy rfl, Zum ho]; exact hp) h
theorem Zxj {α : Type} (e : α → List D) (xs : List α) : EqI ((xs.map e).length : Nat) xs.length := by simp [EqI]
theorem Zq1 {α : Type} {e e' : α → List D} {xs : List α} {i : Nat} {x : α} (hx : xs[i]? = some x) (he : ∀ x, e x = e' x) : Zv8 (xs.map e) (i : Nat) (e' x) := ⟨by omega, by simp [hx, he]⟩
theorem ZAo {α : Type} {e e' : α → List D} {xs : List α} {i : Nat} {z : α} (hi : i < xs.length) (he : ∀ x, e x = e' x) : Zv8 (xs.map e) (i : Nat) (e' (xs.getD i z)) := by
 refine Zq1 ?_ he
 grind
theorem Zwk {a r : Int} (h : a = r) (h1 : -9223372036854775808 ≤ r) (h2 : r < 9223372036854775808) : ZcL .i64 a r := by
 subst h; exact IntWalk.i64_in _ ⟨h1, by omega⟩
theorem ZIP {i len sz : Nat} (h : i < len) : ZA9 (i : Nat) len 0 sz (i * sz) := ⟨by omega, by omega, by simp⟩
theorem ZtK {sz : Nat} {e : List D} (C : List AV) (he : e.length = sz) : Zry sz C (.d (.list [e])) 1 (e.map .d) := by
 refine ⟨Yh.2 fun x hx => ?_, fun q hq => ?_, rfl, by simp⟩
 ·obtain ⟨d, _, rfl⟩ := Yy.1 hx; rfl
 grind
theorem ZiL {α : Type} {sz : Nat} {e : α → List D} (C : List AV) (xs : List α) (he : ∀ x, (e x).length = sz) : Zry sz C (.d (.list (xs.map e))) xs.length (Zad e xs) := by
 refine ⟨Yh.2 fun x hx => ?_, fun q hq => ?_, by simp, rfl⟩
 ·obtain ⟨d, _, rfl⟩ := Yy.1 hx; rfl
 grind
theorem Ztb {α : Type} {sz byt : Nat} {e : α → List D} (xs ys : List α) {n' : Nat} (he : ∀ x, (e x).length = sz) (hn : xs.length + ys.length = n') (hb : n' * byt ≤ 140737488355328) :
  ZDg (Zad e xs) 0 xs.length ys.length sz byt (Zad e ys) (Zad e (xs ++ ys)) n' :=
 ⟨by rw [Zd7 he, Yz], by rw [Yay, Ybi, Zle], hn, hb⟩
theorem ZsL {α : Type} (e : α → List D) (x : α) : Zad e [x] = (e x).map .d := by simp [Zad]
theorem ZnL {α : Type} {sz : Nat} {e : α → List D} (xs : List α) (hz : sz ≠ 0) (he : ∀ x, (e x).length = sz) : FzR (Zad e xs) 0 xs.length sz (xs.map e) :=
 ⟨by simp, hz, fun q hq => by obtain ⟨x, _, rfl⟩ := Yy.1 hq; exact he x, by rw [Zd7 he]; simp, by rw [Yay, Ybi, ← Zd7 he xs, YaH]; rfl⟩
theorem Zlv {α : Type} {e e' : α → List D} {xs : List α} {i : Int} {z : α} (h0 : 0 ≤ i) (hi : i < xs.length) (he : ∀ x, e x = e' x) : Zv8 (xs.map e) i (e' (xs.getD i.toNat z)) := by
 have h := ZAo (e := e) (e' := e') (xs := xs) (i := i.toNat) (z := z) (by omega) he
 grind
theorem ZIJ (s : ByteArray) : s.data.toList.length = s.size := by simp
theorem ZAI {s : ByteArray} {i : Nat} {x : UInt8} (h : s.data.toList[i]? = some x) : Zwo s (i : Nat) (x.toNat : Nat) := ⟨by omega, x, by simpa using h, rfl⟩
theorem Zp5 {s : ByteArray} {i : Nat} (h : i < s.size) : Zwo s (i : Nat) ((s.data.toList.getD i 0).toNat : Nat) := by
 refine ZAI ?_
 rw [Yt, Yb (by rw [ZIJ]; exact h)]; rfl
theorem Zih {α : Type} {sz byt c : Nat} {e : α → List D} {news : List AV} (xs ys : List α) (he : ∀ x, (e x).length = sz) (hc : ys.length = c) (hn : news = Zad e ys) (hb : (xs.length + ys.length) * byt ≤ 140737488355328) :
  ZDg (Zad e xs) 0 xs.length c sz byt news (Zad e (xs ++ ys)) (xs ++ ys).length := by
 subst hc; subst hn
 exact Ztb xs ys he (by rw [Yr]) (by rw [Yr]; exact hb)
section
variable {P : Program} {l : Nat} {r : Ren} {f : FuncId} {xs xs' : List AV} {hb : List (Key × Blk)} {x x' : AV}
def Zil (P : Program) (l : Nat) (no : Key → Prop) (H : Hp) (c : AV) (aZ : List AV) (y : AV) : Prop :=
 ∃ f first caps, c = .fn (.func f) first caps ∧ ∀ l' H', l ≤ l' → (∀ k : Key, k.1 ≤ l → ¬ no k → H' k = H k) → ZbY P f l' (first ++ aZ ++ caps) H' (fun y' H'' => y' = y ∧ H'' = H')
theorem ZsG {i : Nat} {c : AV} (hθ : r.θ i = c) (h : Zil P l r.no r.H0 c xs' x') (h1 : Zan r xs = xs') (h2 : ren r x = x') : Zp2 P l r i xs hb x := by
 obtain ⟨f, first, caps, rfl, h⟩ := h
 exact ⟨f, first, caps, hθ, fun H' _ ho => by rw [h1, h2]; exact h (l + 1) H' (Nat.le_succ l) ho⟩
end
section
variable {P : Program} {T : Nat → Option TI} {n : Nat} {C : Cx} {τ : St} {Q : Exit → St → Prop}
theorem ZzY (hC : CxOk C) (hT : TOk P T) (hm : P.follows .mixedOrders = true) {os : Nat} {fx : List Nat} (hO : C.outs = os) (hF : C.fx = fx) {c : Code} (a : AT) (lf lx : Lf) (rs : List ResultVar) {Post : AV → List Blk → Prop} (q : Ren → (Exit → St → Prop) → (AV → List Blk → Prop) → Prop)
  (hq : ∀ r Q Post, Zdr P T C.l n os r c a τ (KB T rs os fx r Post lf lx Q) = q r Q Post) (hQ : ∀ τ, FQ T rs os Post .ret τ → Q .ret τ) (h : ∀ r, r.θ = C.θ → r.H0 = C.H0 → r.κ = C.κ → r.no = C.no → q r Q Post) : LW P n C c τ Q :=
 ZFj hC hT hm a lf lx (by rw [hO]; exact hQ) (fun γ => by rw [hO, hF, hq]; exact h _ rfl rfl rfl rfl)
theorem Zw0 (hC : CxOk C) (hT : TOk P T) (hm : P.follows .mixedOrders = true) {os : Nat} (hO : C.outs = os) {c : Code} (a : AT) (rs : List ResultVar) {Post : AV → List Blk → Prop} (q : Ren → (AV → List Blk → Prop) → Prop)
  (hq : ∀ r Post, Zdr P T C.l n os r c a τ (KF T rs os Post) = q r Post) (h : ∀ r, r.θ = C.θ → r.H0 = C.H0 → r.κ = C.κ → r.no = C.no → q r Post) : LW P n C c τ (FQ T rs os Post) := by
 subst hO
 exact ZEQ hC hT hm a (fun γ => by rw [hq]; exact h _ rfl rfl rfl rfl)
mutual
theorem ZtC {H : Hp} : ∀ (x : AV) {a : AT} {K K' : AV → AT → Prop}, (∀ y a, K y a → K' y a) → frz H x a K → frz H x a K'
 | .d x, a, K, K', hk, h => hk _ _ h
 | .e0, a, K, K', hk, h => hk _ _ h
 | .agg xs, a, K, K', hk, h => Zix xs (fun ys a h => hk _ _ h) h
 | .ref k g off m, a, K, K', hk, h => by
  unfold frz at h ⊢
  grind
 | .top, a, K, K', hk, h => by simp only [frz] at h
 | .p _, a, K, K', hk, h => by simp only [frz] at h
 | .ptr _ _ _, a, K, K', hk, h => by simp only [frz] at h
 | .mp k g, a, K, K', hk, h => by
  unfold frz at h ⊢
  grind
 | .iptr _ _, a, K, K', hk, h => by simp only [frz] at h
 | .ifc _ _ _, a, K, K', hk, h => hk _ _ h
 | .fn _ _ _, a, K, K', hk, h => by simp only [frz] at h
 | .tup _, a, K, K', hk, h => by simp only [frz] at h
theorem Zix {H : Hp} : ∀ (xs : List AV) {a : AT} {K K' : List AV → AT → Prop}, (∀ y a, K y a → K' y a) → ZuK H xs a K → ZuK H xs a K'
 | [], a, K, K', hk, h => hk _ _ h
 | x :: xs, a, K, K', hk, h => by
  simp only [ZuK] at h ⊢
  exact ZtC x (fun y a h => Zix xs (fun ys a h => hk _ _ h) h) h
end
end
theorem ZcS {α : Type} (e : α → List D) (x : α) (xs : List α) : Zad e (x :: xs) = (e x).map .d ++ Zad e xs := by simp [Zad]
theorem Zf7 {α : Type} {e : α → List D} {sz : Nat} (hl : ∀ x, (e x).length = sz) : ∀ (xs : List α) (j : Nat), (Zad e xs).drop (j * sz) = Zad e (xs.drop j)
 | [], j => by simp [Zad]
 | x :: xs, 0 => by simp
 | x :: xs, j + 1 => by
  have h1 : ((e x).map AV.d).length = sz := by rw [Yu, hl]
  rw [ZcS, YB, YaR, Ya6, ← List.drop_drop, List.drop_left' h1, Zf7 hl xs j]
  rfl
theorem Zgn {α : Type} {e : α → List D} {sz : Nat} (hl : ∀ x, (e x).length = sz) : ∀ (xs : List α) (j : Nat), (Zad e xs).take (j * sz) = Zad e (xs.take j)
 | [], j => by simp [Zad]
 | x :: xs, 0 => by simp [Zad]
 | x :: xs, j + 1 => by
  have h1 : ((e x).map AV.d).length = sz := by rw [Yu, hl]
  rw [ZcS, List.take_succ_cons, ZcS, YB, YaR, Ya6, List.take_append, h1, Nat.add_sub_cancel_left, Zgn hl xs j, Yas (by omega)]
theorem Zyo {α : Type} {xs : List α} {j : Nat} {z : α} (hj : j < xs.length) : xs.drop j = xs.getD j z :: xs.drop (j + 1) := by
 rw [Y2 hj, Yt, Yb hj]; rfl
theorem Zgf {α : Type} {e e' : α → List D} {xs : List α} {j sz : Nat} {z : α} (hj : j < xs.length) (hl : ∀ x, (e x).length = sz) (he : ∀ x, e x = e' x) : ZcM (Zad e xs) (j * sz) ((e' (xs.getD j z)).map .d) := by
 unfold ZcM
 rw [Zf7 hl, Zyo (z := z) hj, ZcS, he, List.take_left]
theorem ZAp {α : Type} {e : α → List D} {xs : List α} {j sz : Nat} {y : α} (hj : j < xs.length) (hl : ∀ x, (e x).length = sz) : StS (Zad e xs) (j * sz) ((e y).map .d) (Zad e (xs.set j y)) := by
 have h1 : ((e y).map AV.d).length = sz := by rw [Yu, hl]
 have h2 : (j + 1) * sz ≤ xs.length * sz := YJ _ hj
 rw [YB, YaR] at h2
 refine ⟨by rw [h1, Zd7 hl]; omega, ?_⟩
 rw [h1, Zgn hl, show j * sz + sz = (j + 1) * sz from by rw [YB, YaR], Zf7 hl, List.set_eq_take_append_cons_drop, if_pos hj, Zle, ZcS, YW]
def ZdN (r : Ren) : List (Key × Blk) → Hp → Hp
 | [], H => H
 | (k, b) :: rest, H => ZdN r rest (updH H (r.κ k) (ZaZ r k b))
def ZhJ (P : Program) (l : Nat) (r : Ren) (f : FuncId) (xs : List AV) (hb : List (Key × Blk)) (x : AV) (hb2 : List (Key × Blk)) (fr : List Key) : Prop :=
 ∀ H', (∀ p ∈ hb, (H' (r.κ p.1)).g = r.γ p.1 + p.2.g ∧ (p.2.live = true → H' (r.κ p.1) = ZaZ r p.1 p.2)) → (∀ k : Key, k.1 ≤ l → ¬ r.no k → H' k = r.H0 k) →
  ZbY P f (l + 1) (Zan r xs) H' (fun y H'' => ∃ γ' : Key → Nat, (∀ k, k ∉ fr → γ' k = r.γ k) ∧ y = ren ⟨r.κ, γ', r.θ, r.H0, r.no⟩ x ∧ H'' = ZdN ⟨r.κ, γ', r.θ, r.H0, r.no⟩ hb2 H')
mutual
def Zeo (fr : List Key) : AV → Bool
 | .ref k _ _ _ => fr.any (ZdW k)
 | .ptr k _ _ => fr.any (ZdW k)
 | .mp k _ => fr.any (ZdW k)
 | .fn _ xs ys => ZdG fr xs || ZdG fr ys
 | .agg xs => ZdG fr xs
 | .tup xs => ZdG fr xs
 | .top => false
 | .d _ => false
 | .e0 => false
 | .p _ => false
 | .iptr _ _ => false
 | .ifc _ _ _ => false
def ZdG (fr : List Key) : List AV → Bool
 | [] => false
 | x :: xs => Zeo fr x || ZdG fr xs
end
def Zes (fr : List Key) : List (Nat × AV) → List (Nat × AV)
 | [] => []
 | (j, x) :: r => (j, match Zeo fr x with | true => .top | false => x) :: Zes fr r
def Zdx (ks fr fl : List Key) : List (Key × Blk) → List (Key × Blk)
 | [] => []
 | (k, b) :: r => match ks.any (ZdW k), fl.any (ZdW k) || !ZdG fr b.cells with
  | false, true => (k, b) :: Zdx ks fr fl r
  | _, _ => Zdx (k :: ks) fr fl r
def ZrM : Option Nat → AV → List (Nat × AV) → List (Nat × AV)
 | some d, x, r => (d, x) :: r
 | none, _, r => r
def okK (os : Nat) (k : Key) : Bool := Nat.beq k.1 1 || (Nat.beq k.1 0 && Nat.ble (k.2 + 1) os)
def Zjd (os : Nat) : List (Key × Blk) → Bool
 | [] => true
 | (k, b) :: r => okK os k && b.live && !(r.any fun p => ZdW k p.1) && Zjd os r
mutual
theorem Zg4 {r : Ren} {γ' : Key → Nat} {fr : List Key} (hγ : ∀ k, k ∉ fr → γ' k = r.γ k) : ∀ (x : AV), Zeo fr x = false → ren ⟨r.κ, γ', r.θ, r.H0, r.no⟩ x = ren r x
 | .ref k g off n, h => by simp only [Zeo] at h; simp only [ren]; rw [hγ k (ZhM h)]
 | .ptr k g off, h => by simp only [Zeo] at h; simp only [ren]; rw [hγ k (ZhM h)]
 | .mp k g, h => by simp only [Zeo] at h; simp only [ren]; rw [hγ k (ZhM h)]
 | .fn f xs ys, h => by
  simp only [Zeo, Bool.or_eq_false_iff] at h
  have e1 := Zcq hγ xs h.1
  have e2 := Zcq hγ ys h.2
  cases f <;> simp only [ren, e1, e2]
 | .agg xs, h => by simp only [Zeo] at h; simp only [ren, Zcq hγ xs h]
 | .tup xs, h => by simp only [Zeo] at h; simp only [ren, Zcq hγ xs h]
 | .top, _ => by simp [ren]
 | .d _, _ => by simp [ren]
 | .e0, _ => by simp [ren]
 | .p _, _ => by simp [ren]
 | .iptr _ _, _ => by simp [ren]
 | .ifc _ _ _, _ => by simp [ren]
theorem Zcq {r : Ren} {γ' : Key → Nat} {fr : List Key} (hγ : ∀ k, k ∉ fr → γ' k = r.γ k) : ∀ (xs : List AV), ZdG fr xs = false → Zan ⟨r.κ, γ', r.θ, r.H0, r.no⟩ xs = Zan r xs
 | [], _ => by simp [Zan]
 | x :: xs, h => by
  simp only [ZdG, Bool.or_eq_false_iff] at h
  simp only [Zan, Zg4 hγ x h.1, Zcq hγ xs h.2]
theorem ZhM {k : Key} {fr : List Key} (h : fr.any (ZdW k) = false) : k ∉ fr := fun hm => by
 have : fr.any (ZdW k) = true := YH.2 ⟨k, hm, ZaM.2 rfl⟩
 grind
end
def Zcz : Code → Array Oper
 | .region _ ops _ => ops
 | _ => #[]
def ZCW : Code → Bool
 | .region _ _ false => true
 | _ => false
def Zio {α : Type} : Nat → List α → List α
 | 0, l => l
 | _ + 1, [] => []
 | n + 1, _ :: l => Zio n l
def Ziu {α : Type} : Nat → List α → List α
 | 0, _ => []
 | _ + 1, [] => []
 | n + 1, x :: l => x :: Ziu n l
theorem ZhN {α : Type} : ∀ (n : Nat) (l : List α), Zio n l = l.drop n
 | 0, l => rfl
 | n + 1, [] => rfl
 | n + 1, x :: l => ZhN n l
theorem ZfA {α : Type} : ∀ (n : Nat) (l : List α), Ziu n l = l.take n
 | 0, l => rfl
 | n + 1, [] => rfl
 | n + 1, x :: l => by rw [Ziu, ZfA n l]; rfl
def LO (P : Program) (n : Nat) (C : Cx) (c : Code) (k : Nat) (τ : St) (Q : Exit → St → Prop) : Prop :=
 ∀ γ σ act w, C.G γ → RG (C.r γ) C.l C.outs [] τ σ → R C.l n C.B σ act w → wpList P (Zcz c) (fun e a' w' => ∃ σ', Is n C (Q e) σ' ∧ R C.l n C.B σ' a' w') ((Zcz c).toList.drop k) act w
def Zek (c : Code) (k : Nat) : Option (Option Nat × Operand × List Operand) :=
 match nth (Zcz c).toList k with
 | some o => (match o.guard, o.op with
  | none, .call cl => (match cl.callee with | .value f => some (o.dst, f, cl.args.toList) | _ => none)
  | _, _ => none)
 | none => none
def wrL (C : Cx) : List (Key × Blk) → Prop
 | [] => True
 | (k, _) :: r => match Nat.beq k.1 1 with | true => wrL C r | false => C.no (C.κ k) ∧ wrL C r
def flL (H : Hp) : List Key → Prop
 | [] => True
 | k :: r => ZfG (H k).cells ∧ flL H r
def ZA5 (fr : List Key) (hb2 : List (Key × Blk)) : Bool := fr.all fun k => hb2.any fun p => ZdW k p.1
def Zhd (fr : List Key) (fx : List Nat) : Bool := fr.all fun k => !(Nat.beq k.1 0 && fx.any (Nat.beq k.2))
def ZhW : List (Key × Blk) → Bool
 | [] => true
 | (_, b) :: r => Nat.beq b.g 0 && ZhW r
def ZKx : Option Nat → (Nat → AV) → AV → Nat → AV
 | some d, s, v => upd s d v
 | none, s, _ => s
def Zme (n : Nat) : Option Nat → Bool
 | some d => Nat.ble (d + 1) n
 | none => true
section
variable {P : Program} {T : Nat → Option TI} {n : Nat} {C : Cx} {τ : St} {Q : Exit → St → Prop}
theorem ZlA {c : Code} (hc : ZCW c = true) (h : LO P n C c 0 τ Q) : LW P n C c τ Q := by
 cases c with
 | region id ops dr =>
  cases dr with
  | true => cases hc
  | false =>
   obtain ⟨opl, rfl⟩ : ∃ l : List Oper, ops = l.toArray := ⟨ops.toList, by simp⟩
   intro γ σ hg hG act w hR
   have := h γ σ act w hg hG hR
   simp only [Zcz, Ybi] at this
   exact wp_region_lit this
 | _ => cases hc
theorem ZBw (hC : CxOk C) (hT : TOk P T) {os : Nat} {fx : List Nat} (hO : C.outs = os) (hF : C.fx = fx) {c : Code} {k : Nat} (m : Nat) (a : AT) (lf : Lf) (q : Ren → (St → Prop) → Prop)
  (hq : ∀ r Φ, Zdk r os a τ (fun τ a => ZrH P T C.l n r ((Zcz c).toList.map (·.dst)) (Ziu m (Zio k (Zcz c).toList)) [] a (fun τ' env a' => Zdk r os a' (ZjR env τ') (fun τ _ => Zfk fx lf τ Φ)) τ) = q r Φ)
  (h : ∀ r, r.θ = C.θ → r.H0 = C.H0 → r.κ = C.κ → r.no = C.no → q r (fun τ' => LO P n C c (k + m) τ' Q)) : LO P n C c k τ Q := by
 subst hO
 subst hF
 intro γ σ act w hg hG hR
 have h1 := h (C.r γ) rfl rfl rfl rfl
 rw [← hq] at h1
 obtain ⟨τ₁, a₁, σ₁, h2, hG1, hw1⟩ := Zam (n := n) hC a h1 hG
 have e : (Zcz c).toList.drop k = Ziu m (Zio k (Zcz c).toList) ++ (Zcz c).toList.drop (k + m) := by
  rw [ZfA, ZhN, ← List.drop_drop, YaI]
 rw [e]
 refine Zdw (hC.ren γ) hT (B := C.B) _ (fun τ' env' a' σ' act' w' k1 k2 k3 => ?_) _ [] a₁ τ₁ σ₁ act w h2 hG1 (hw1 _ _ hR)
 obtain ⟨σ₂, g1, g2⟩ := Zdy (n := n) k2
 obtain ⟨τ₃, a₃, σ₃, f1, f2, f3⟩ := Zam (n := n) hC a' k1 g1
 obtain ⟨γ', τ₄, σ₄, j0, j1, j2, j3⟩ := Zb2 (n := n) hC f1 hg f2
 exact j1 γ' σ₄ act' w' j0 j2 (j3 _ _ (f3 _ _ (g2 _ _ k3)))
theorem ZBC (hC : CxOk C) (hT : TOk P T) {os : Nat} {fx : List Nat} (hO : C.outs = os) (hF : C.fx = fx) {c : Code} {k : Nat} (a : AT) (lf : Lf) (q : Ren → (Exit → St → Prop) → Prop)
  (hq : ∀ r Φ, Zdk r os a τ (fun τ a => ZrH P T C.l n r ((Zcz c).toList.map (·.dst)) (Zio k (Zcz c).toList) [] a (fun τ' env a' => Zdk r os a' (ZjR env τ') (fun τ _ => Zfk fx lf τ (Φ .normal))) τ) = q r Φ)
  (h : ∀ r, r.θ = C.θ → r.H0 = C.H0 → r.κ = C.κ → r.no = C.no → q r Q) : LO P n C c k τ Q := by
 subst hO
 subst hF
 intro γ σ act w hg hG hR
 have h1 := h (C.r γ) rfl rfl rfl rfl
 rw [← hq] at h1
 obtain ⟨τ₁, a₁, σ₁, h2, hG1, hw1⟩ := Zam (n := n) hC a h1 hG
 have e : (Zcz c).toList.drop k = Zio k (Zcz c).toList ++ [] := by rw [ZhN, Yar]
 rw [e]
 refine Zdw (hC.ren γ) hT (B := C.B) _ (fun τ' env' a' σ' act' w' k1 k2 k3 => ?_) _ [] a₁ τ₁ σ₁ act w h2 hG1 (hw1 _ _ hR)
 obtain ⟨σ₂, g1, g2⟩ := Zdy (n := n) k2
 obtain ⟨τ₃, a₃, σ₃, f1, f2, f3⟩ := Zam (n := n) hC a' k1 g1
 obtain ⟨γ', τ₄, σ₄, j0, j1, j2, j3⟩ := Zb2 (n := n) hC f1 hg f2
 unfold wpList
 exact ⟨σ₄, ⟨γ', τ₄, σ₄, j0, j1, j2, Wk.refl _⟩, j3 _ _ (f3 _ _ (g2 _ _ k3))⟩
theorem Zfq : ∀ {hs : List (Key × Blk)}, ZhW hs = true → ∀ k, (lkH hs k).g = 0
 | [], _, k => rfl
 | (k', b) :: r, h, k => by
  simp only [ZhW, Bool.and_eq_true] at h
  simp only [lkH]
  split
  ·exact Ya h.1
  ·exact Zfq h.2 k
theorem Zk1 {k : Key} {ks : List Key} : ks.any (ZdW k) = true ↔ k ∈ ks := by
 rw [YH]
 exact ⟨fun ⟨q, h1, h2⟩ => by rw [ZaM.1 h2]; exact h1, fun h => ⟨k, h, ZaM.2 rfl⟩⟩
theorem Zyw (a b : List (Key × Blk)) (k : Key) : lkH (a ++ b) k = if k ∈ a.map (·.1) then lkH a k else lkH b k := by
 induction a with
 | nil => simp
 | cons p a ih =>
  obtain ⟨q, b'⟩ := p
  simp only [YaF, lkH, YE, Ys]
  cases hq : ZdW q k with
  | true => rw [if_pos (.inl (ZaM.1 hq).symm)]
  | false =>
   have : k ≠ q := fun e => by rw [ZaM.2 e.symm] at hq; cases hq
   grind
theorem Zdm {fr fl : List Key} : ∀ (hs : List (Key × Blk)) (ks : List Key) (k : Key), (k ∈ ks → lkH (Zdx ks fr fl hs) k = ZlH) ∧ (k ∉ ks → (lkH (Zdx ks fr fl hs) k = lkH hs k ∧ (k ∈ fl ∨ ZdG fr (lkH hs k).cells = false)) ∨ lkH (Zdx ks fr fl hs) k = ZlH)
 | [], ks, k => ⟨fun _ => rfl, fun _ => .inr rfl⟩
 | (q, b) :: r, ks, k => by
  simp only [Zdx]
  split
  ·rename_i h1 h2
   have hqk : q ∉ ks := fun hm => by rw [Zk1.2 hm] at h1; cases h1
   simp only [lkH]
   cases hq : ZdW q k with
   | true =>
    have hq := ZaM.1 hq
    subst hq
    refine ⟨fun h => absurd h hqk, fun _ => .inl ⟨rfl, ?_⟩⟩
    simp only [Bool.or_eq_true, Bool.not_eq_true'] at h2
    rcases h2 with h2 | h2
    ·exact .inl (Zk1.1 h2)
    grind
   | false => exact Zdm r ks k
  ·obtain ⟨h1, h2⟩ := Zdm (fr := fr) (fl := fl) r (q :: ks) k
   refine ⟨fun h => h1 (Yq _ h), fun h => ?_⟩
   by_cases hq : k = q
   ·grind
   ·rcases h2 (fun hm => (Ys.1 hm).elim hq h) with ⟨e1, e2⟩ | e
    ·have : ZdW q k = false := by
      cases hb : ZdW q k with
      | true => exact absurd (ZaM.1 hb).symm hq
      | false => rfl
     simp only [lkH, this]
     grind
    grind
theorem ZdO {r : Ren} : ∀ (hb2 : List (Key × Blk)) (H : Hp) (q : Key), (∀ p ∈ hb2, r.κ p.1 ≠ q) → ZdN r hb2 H q = H q
 | [], H, q, h => rfl
 | (k, b) :: rest, H, q, h => by
  simp only [ZdN]
  rw [ZdO rest _ q (fun p hp => h p (Yq _ hp)), Zac _ _ (fun e => h (k, b) (Yw ..) e.symm)]
theorem ZkM {r : Ren} {os : Nat} (hinj : ∀ q k : Key, okK os q = true → okK os k = true → q ≠ k → r.κ q ≠ r.κ k) : ∀ (hb2 : List (Key × Blk)) (H : Hp), Zjd os hb2 = true → ∀ k b, (k, b) ∈ hb2 → ZdN r hb2 H (r.κ k) = ZaZ r k b ∧ lkH hb2 k = b ∧ okK os k = true ∧ b.live = true
 | [], H, _, k, b, hm => by cases hm
 | (q, c) :: rest, H, hok, k, b, hm => by
  simp only [Zjd, Bool.and_eq_true, Bool.not_eq_true'] at hok
  obtain ⟨⟨⟨h1, h2⟩, h3⟩, h4⟩ := hok
  have hno : ∀ p ∈ rest, p.1 ≠ q := fun p hp e => by
   have : (rest.any fun p => ZdW q p.1) = true := YH.2 ⟨p, hp, ZaM.2 e.symm⟩
   rw [this] at h3; cases h3
  have hoks : ∀ (l : List (Key × Blk)), Zjd os l = true → ∀ p ∈ l, okK os p.1 = true := by
   intro l
   induction l with
   | nil => intro _ p hp; cases hp
   | cons p l ih =>
    obtain ⟨p1, p2⟩ := p
    intro hl p hp
    simp only [Zjd, Bool.and_eq_true] at hl
    rcases Ys.1 hp with rfl | hp
    ·exact hl.1.1.1
    ·exact ih hl.2 p hp
  simp only [ZdN]
  rcases Ys.1 hm with e | hm
  ·cases e
   refine ⟨?_, by simp only [lkH, ZaM.2 rfl], h1, h2⟩
   rw [ZdO rest _ _ (fun p hp => hinj _ _ (hoks rest h4 p hp) h1 (hno p hp)), Zab]
  ·obtain ⟨g1, g2, g3, g4⟩ := ZkM hinj rest (updH H (r.κ q) (ZaZ r q c)) h4 k b hm
   refine ⟨g1, ?_, g3, g4⟩
   have : ZdW q k = false := by
    cases hb : ZdW q k with
    | true => exact absurd (ZaM.1 hb).symm (hno _ hm)
    | false => rfl
   simp only [lkH, this]
   exact g2
theorem Zom : ∀ {hb2 : List (Key × Blk)}, wrL C hb2 → ∀ p ∈ hb2, p.1.1 ≠ 1 → C.no (C.κ p.1)
 | (k, b) :: r, h, p, hp, hne => by
  simp only [wrL] at h
  split at h
  ·rename_i hk
   rcases Ys.1 hp with rfl | hp
   ·exact absurd (Ya hk) hne
   ·exact Zom h p hp hne
  ·rcases Ys.1 hp with rfl | hp
   ·exact h.1
   ·exact Zom h.2 p hp hne
theorem ZmT {H : Hp} : ∀ {ks : List Key}, flL H ks → ∀ k ∈ ks, ZfG (H k).cells
 | q :: r, h, k, hk => by
  rcases Ys.1 hk with rfl | hk
  ·exact h.1
  ·exact ZmT h.2 k hk
theorem Zd5 {os : Nat} {k : Key} (h : okK os k = true) : k.1 = 1 ∨ (k.1 = 0 ∧ k.2 < os) := by
 simp only [okK, Bool.or_eq_true, Bool.and_eq_true] at h
 rcases h with h | ⟨h1, h2⟩
 ·exact .inl (Ya h)
 ·exact .inr ⟨Ya h1, Yc h2⟩
theorem Zk2 {fr : List Key} : ∀ (ss : List (Nat × AV)) (j : Nat), lkS (Zes fr ss) j = .top ∨ (lkS (Zes fr ss) j = lkS ss j ∧ Zeo fr (lkS ss j) = false)
 | [], j => .inl rfl
 | (i, x) :: r, j => by
  simp only [Zes, lkS]
  split
  ·grind
  ·exact Zk2 r j
theorem ZsP (hC : CxOk C) {os : Nat} {fx : List Nat} (hO : C.outs = os) (hF : C.fx = fx) {c : Code} {k : Nat} {ss : List (Nat × AV)} {hs : List (Key × Blk)} (dst : Option Nat) (fo : Operand) (aZ : List Operand) (hop : Zek c k = some (dst, fo, aZ))
  (f : FuncId) (first caps xs : List AV) (hf : ev (lkS ss) fo = .fn (.func f) first caps) (hxs : first ++ aZ.map (ev (lkS ss)) ++ caps = xs) (ks : List Key) (hb : List (Key × Blk)) (hhb : (ks.map fun k => (k, lkH hs k)) = hb)
  {ι : Type} (I : ι → Prop) (xF : ι → AV) (hbF : ι → List (Key × Blk)) (fr fl : List Key) (hok0 : (Zhd fr fx && ZhW hs && Zme n dst && ks.all (okK os)) = true) (hok : ∀ i, (Zjd os (hbF i) && ZA5 fr (hbF i)) = true) (hwr : ∀ i, wrL C (hbF i)) (hfl : flL (lkH hs) fl)
  (hcall : ∀ r : Ren, r.θ = C.θ → r.H0 = C.H0 → r.κ = C.κ → r.no = C.no → ∀ H', (∀ p ∈ hb, (H' (r.κ p.1)).g = r.γ p.1 + p.2.g ∧ (p.2.live = true → H' (r.κ p.1) = ZaZ r p.1 p.2)) → (∀ k : Key, k.1 ≤ C.l → ¬ r.no k → H' k = r.H0 k) →
   ZbY P f (C.l + 1) (Zan r xs) H' (fun y H'' => ∃ i, I i ∧ ∃ γ' : Key → Nat, (∀ k, k ∉ fr → γ' k = r.γ k) ∧ y = ren ⟨r.κ, γ', r.θ, r.H0, r.no⟩ (xF i) ∧ H'' = ZdN ⟨r.κ, γ', r.θ, r.H0, r.no⟩ (hbF i) H'))
  (h : ∀ i, I i → LO P n C c (k + 1) (mkS (ZrM dst (xF i) (Zes fr ss)) (hbF i ++ Zdx ((hbF i).map (·.1)) fr fl hs)) Q) : LO P n C c k (mkS ss hs) Q := by
 subst hO
 subst hF
 simp only [Bool.and_eq_true] at hok0
 obtain ⟨⟨⟨k3, k4⟩, k5⟩, k6⟩ := hok0
 intro γ σ act w hg hG hR
 have hr := hC.ren γ
 have hs' : ∀ j, σ.s j = ren (C.r γ) (lkS ss j) := fun j => (hG.s j).1 Zak
 have heval : ∀ y : Operand, ev σ.s y = ren (C.r γ) (ev (lkS ss) y) := fun y => Zgh (c := []) hG Zak (by cases y <;> rfl)
 unfold Zek at hop
 split at hop
 case h_2 => cases hop
 rename_i o ho
 split at hop
 case h_2 => cases hop
 rename_i cl hgd hopc
 split at hop
 case h_2 => cases hop
 rename_i fo' hcal
 simp only [Ye, Y7] at hop
 obtain ⟨hd, rfl, rfl⟩ := hop
 rw [Zby] at ho
 have hlt : k < (Zcz c).toList.length := by
  grind
 have hrest : (Zcz c).toList.drop k = o :: (Zcz c).toList.drop (k + 1) := by
  rw [Y2 hlt]
  grind
 rw [hrest]
 have hinj : ∀ q k : Key, okK C.outs q = true → okK C.outs k = true → q ≠ k → (C.r γ).κ q ≠ (C.r γ).κ k := fun q k h1 h2 h3 => hr.ne (Zd5 h1) (Zd5 h2) h3
 have hA := hcall (C.r γ) rfl rfl rfl rfl σ.H (fun p hp => by
  rw [← hhb] at hp
  obtain ⟨q, hq, rfl⟩ := Yy.1 hp
  have hq' := Zd5 (Yh.1 k6 q hq)
  refine ⟨?_, fun hl => hG.h q hl⟩
  obtain ⟨q1, q2⟩ := q
  simp only at hq'
  rcases hq' with rfl | ⟨rfl, h2⟩
  ·have := hG.g q2
   rw [← hr.own] at this
   exact this
  ·exact hG.go q2 h2) hG.o
 have hargs : Zan (C.r γ) xs = Zan (C.r γ) first ++ cl.args.toList.map (ev σ.s) ++ Zan (C.r γ) caps := by
  rw [← hxs, Zcr, Zcr]
  congr 2
  rw [Zcx, Yam]
  exact YR fun y _ => (heval y).symm
 have hfe : ev σ.s fo' = .fn (.func f) (Zan (C.r γ) first) (Zan (C.r γ) caps) := by rw [heval, hf]; simp [ren]
 have hrop : rOp P C.l n o (fun σ' => ∃ i, I i ∧ ∃ γ' : Key → Nat, (∀ q, q ∉ fr → γ' q = γ q) ∧ σ' = ⟨ZKx dst σ.s (ren (C.r γ') (xF i)), ZdN (C.r γ') (hbF i) σ.H⟩) σ := by
  unfold rOp
  rw [hopc]
  simp only [hcal, hfe]
  rw [hargs] at hA
  refine hA.mono fun y H'' ⟨i, hi, γ', e1, e2, e3⟩ => ?_
  unfold ZCA ZfI
  rw [hd]
  cases dst with
  | none => exact ⟨i, hi, γ', e1, by rw [e3]; rfl⟩
  | some d => exact ⟨Yc k5, i, hi, γ', e1, by rw [e2, e3]; rfl⟩
 refine ZdF (by simp [Region.wanted, hgd]) (Zdp hrop) hR fun σ' act' w' hK hR' => ?_
 obtain ⟨i, hi, γ', e1, rfl⟩ := hK
 have h := h i hi
 have hwr := hwr i
 have hok := hok i
 generalize hbF i = hb2 at h hwr hok hR'
 generalize xF i = x at h hR'
 simp only [Bool.and_eq_true] at hok
 obtain ⟨k1, k2⟩ := hok
 have hsub : ∀ q, q ∈ fr → ∃ b, (q, b) ∈ hb2 := fun q hq => by
  obtain ⟨p, hp, hk⟩ := YH.1 (Yh.1 k2 q hq)
  rw [ZaM.1 hk]; exact ⟨p.2, hp⟩
 let τ2 : St := mkS (ZrM dst x (Zes fr ss)) (hb2 ++ Zdx (hb2.map (·.1)) fr fl hs)
 have hlow : ∀ q, lkH (hb2 ++ Zdx (hb2.map (·.1)) fr fl hs) q = if q ∈ hb2.map (·.1) then lkH hb2 q else lkH (Zdx (hb2.map (·.1)) fr fl hs) q := fun q => Zyw _ _ _
 have hin : ∀ q, q ∈ hb2.map (·.1) → ∃ b, (q, b) ∈ hb2 := fun q hq => by obtain ⟨p, hp, rfl⟩ := Yy.1 hq; exact ⟨p.2, hp⟩
 have hput : ∀ q b, (q, b) ∈ hb2 → ZdN (C.r γ') hb2 σ.H ((C.r γ').κ q) = ZaZ (C.r γ') q b ∧ lkH hb2 q = b ∧ okK C.outs q = true ∧ b.live = true := ZkM (r := C.r γ') hinj hb2 σ.H k1
 have hkeep : ∀ q, q ∉ hb2.map (·.1) → okK C.outs q = true → ZdN (C.r γ') hb2 σ.H ((C.r γ').κ q) = σ.H ((C.r γ').κ q) ∧ γ' q = γ q := fun q hq hkq => by
  refine ⟨ZdO _ _ _ fun p hp => hinj _ _ (hput p.1 p.2 hp).2.2.1 hkq fun e => hq (Yy.2 ⟨p, hp, e⟩), e1 q fun hf => ?_⟩
  grind
 have hgen : ∀ q, okK C.outs q = true → (σ.H (C.κ q)).g = γ q → (ZdN (C.r γ') hb2 σ.H (C.κ q)).g = γ' q + (lkH (hb2 ++ Zdx (hb2.map (·.1)) fr fl hs) q).g := fun q hkq hq0 => by
  rw [hlow]
  split
  ·rename_i hm
   obtain ⟨b, hb⟩ := hin q hm
   obtain ⟨a1, a2, _⟩ := hput q b hb
   rw [show C.κ q = (C.r γ').κ q from rfl, a1, a2]
   rfl
  ·rename_i hm
   obtain ⟨a1, a2⟩ := hkeep q hm hkq
   rw [show C.κ q = (C.r γ').κ q from rfl, a1, a2]
   have : (lkH (Zdx (hb2.map (·.1)) fr fl hs) q).g = 0 := by
    rcases (Zdm (fr := fr) (fl := fl) hs (hb2.map (·.1)) q).2 hm with ⟨e, _⟩ | e
    ·rw [e]; exact Zfq k4 q
    ·rw [e]; rfl
   rw [this]
   exact hq0
 have hG2 : RG (C.r γ') C.l C.outs [] τ2 ⟨fun j => ren (C.r γ') (τ2.s j), ZdN (C.r γ') hb2 σ.H⟩ := by
  refine ⟨fun j => ⟨fun _ => rfl, fun hn => absurd Zak hn⟩, fun q hq => ?_, fun d => ?_, fun i hi => ?_, fun q hq => ?_, fun q hq hn => ?_⟩
  ·show ZdN (C.r γ') hb2 σ.H ((C.r γ').κ q) = ZaZ (C.r γ') q (lkH (hb2 ++ Zdx (hb2.map (·.1)) fr fl hs) q)
   replace hq : (lkH (hb2 ++ Zdx (hb2.map (·.1)) fr fl hs) q).live = true := hq
   rw [hlow] at hq ⊢
   split at hq
   ·grind
   ·rename_i hm
    rw [if_neg hm]
    rcases (Zdm (fr := fr) (fl := fl) hs (hb2.map (·.1)) q).2 hm with ⟨e, e'⟩ | e
    ·rw [e] at hq ⊢
     have hkq := hG.k q hq
     have hok : okK C.outs q = true := by
      obtain ⟨q1, q2⟩ := q
      simp only at hkq
      simp only [okK, Bool.or_eq_true, Bool.and_eq_true]
      rcases hkq with rfl | ⟨rfl, h2⟩
      ·exact .inl rfl
      ·exact .inr ⟨rfl, Ybj h2⟩
     obtain ⟨a1, a2⟩ := hkeep q hm hok
     rw [a1]
     have hb := hG.h q hq
     have hcells : Zan (C.r γ') (lkH hs q).cells = Zan (C.r γ) (lkH hs q).cells := by
      rcases e' with e' | e'
      ·rw [Zb1 (ZmT hfl q e'), Zb1 (ZmT hfl q e')]
      ·exact Zcq (r := C.r γ) e1 _ e'
     show σ.H ((C.r γ).κ q) = _
     rw [hb]
     simp only [ZaZ]
     rw [hcells, show (C.r γ').γ q = γ' q from rfl, a2]
     rfl
    ·rw [e] at hq; cases hq
  ·have := hgen (1, d) rfl (by
    have := hG.g d
    rw [show ((mkS ss hs).H (1, d)).g = 0 from Zfq k4 _] at this
    rw [hC.own]; exact this)
   rw [hC.own] at this
   exact this
  ·exact hgen (0, i) (by simp only [okK, Bool.or_eq_true, Bool.and_eq_true]; exact .inr ⟨rfl, Ybj hi⟩) (by
    have := hG.go i hi
    rw [show ((mkS ss hs).H (0, i)).g = 0 from Zfq k4 _] at this
    exact this)
  ·replace hq : (lkH (hb2 ++ Zdx (hb2.map (·.1)) fr fl hs) q).live = true := hq
   rw [hlow] at hq
   split at hq
   ·rename_i hm
    obtain ⟨b, hb⟩ := hin q hm
    exact Zd5 (hput q b hb).2.2.1
   ·rename_i hm
    rcases (Zdm (fr := fr) (fl := fl) hs (hb2.map (·.1)) q).2 hm with ⟨e, e'⟩ | e
    ·rw [e] at hq; exact hG.k q hq
    ·rw [e] at hq; cases hq
  ·show ZdN (C.r γ') hb2 σ.H q = C.H0 q
   rw [ZdO _ _ _ fun p hp e => ?_]
   ·exact hG.o q hq hn
   ·by_cases h1 : p.1.1 = 1
    ·obtain ⟨⟨p1, p2⟩, p3⟩ := p
     simp only at h1
     subst h1
     rw [show (C.r γ').κ (1, p2) = (C.l + 1, p2) from hC.own p2] at e
     grind
    ·exact hn (by rw [← e]; exact Zom hwr p hp h1)
 refine h γ' _ act' w' (hC.G γ γ' (fun i hi => e1 _ fun hm => ?_) hg) hG2 (R.weaken hR' fun j => ?_)
 ·have := Yh.1 k3 _ hm
  simp only [Bool.not_eq_true', Bool.and_eq_false_iff] at this
  rcases this with h | h
  ·cases h
  ·have : (C.fx.any (Nat.beq i)) = true := YH.2 ⟨i, hi, by simp⟩
   grind
 ·have old : ren (C.r γ') (lkS (Zes fr ss) j) = σ.s j ∨ ren (C.r γ') (lkS (Zes fr ss) j) = .top := by
   rcases Zk2 (fr := fr) ss j with e | ⟨e, e'⟩
   ·right; rw [e]; simp [ren]
   ·left
    rw [e, hs' j]
    exact Zg4 (r := C.r γ) e1 _ e'
  show ren (C.r γ') (lkS (ZrM dst x (Zes fr ss)) j) = _ ∨ ren (C.r γ') (lkS (ZrM dst x (Zes fr ss)) j) = .top
  cases dst with
  | none => exact old
  | some d =>
   simp only [ZrM, lkS, ZKx, upd]
   cases hj : Nat.beq d j with
   | true =>
    have := Ya hj
    grind
   | false =>
    have : j ≠ d := fun e => by rw [e] at hj; simp at hj
    grind
theorem Zyz (hC : CxOk C) {os : Nat} {fx : List Nat} (hO : C.outs = os) (hF : C.fx = fx) {c : Code} {k : Nat} {ss : List (Nat × AV)} {hs : List (Key × Blk)} (dst : Option Nat) (fo : Operand) (aZ : List Operand) (hop : Zek c k = some (dst, fo, aZ))
  (f : FuncId) (first caps xs : List AV) (hf : ev (lkS ss) fo = .fn (.func f) first caps) (hxs : first ++ aZ.map (ev (lkS ss)) ++ caps = xs) (ks : List Key) (hb : List (Key × Blk)) (hhb : (ks.map fun k => (k, lkH hs k)) = hb)
  (x : AV) (hb2 : List (Key × Blk)) (fr fl : List Key) (hok : (Zjd os hb2 && ZA5 fr hb2 && Zhd fr fx && ZhW hs && Zme n dst && ks.all (okK os)) = true) (hwr : wrL C hb2) (hfl : flL (lkH hs) fl)
  (hcall : ∀ r : Ren, r.θ = C.θ → r.H0 = C.H0 → r.κ = C.κ → r.no = C.no → ZhJ P C.l r f xs hb x hb2 fr)
  (h : LO P n C c (k + 1) (mkS (ZrM dst x (Zes fr ss)) (hb2 ++ Zdx (hb2.map (·.1)) fr fl hs)) Q) : LO P n C c k (mkS ss hs) Q := by
 simp only [Bool.and_eq_true] at hok
 obtain ⟨⟨⟨⟨⟨k1, k2⟩, k3⟩, k4⟩, k5⟩, k6⟩ := hok
 exact ZsP hC hO hF dst fo aZ hop f first caps xs hf hxs ks hb hhb (ι := Unit) (fun _ => True) (fun _ => x) (fun _ => hb2) fr fl (by simp only [Bool.and_eq_true]; exact ⟨⟨⟨k3, k4⟩, k5⟩, k6⟩) (fun _ => by simp only [Bool.and_eq_true]; exact ⟨k1, k2⟩) (fun _ => hwr) hfl
  (fun r h1 h2 h3 h4 H' a b => (hcall r h1 h2 h3 h4 H' a b).mono fun y H'' hh => ⟨(), trivial, hh⟩) fun _ _ => h
end
end Go.Eng
