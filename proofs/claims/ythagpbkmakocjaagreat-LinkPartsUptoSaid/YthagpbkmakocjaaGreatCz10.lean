import Derived.Test.YthagpbkmakocjaaGreatCz09
import Derived.Test.YthagpbkmakocjaaGreatCz00
namespace Go.Eng
structure Raw where
 num : Int
 wire : Int
 bits : Int
 data : ByteArray
deriving Inhabited, DecidableEq
mutual
inductive Val where
 | mk (kind bits : Int) (text : ByteArray) (list : List Val) (pairs : List Pr) (slots : List Slt) (raws : List Raw)
inductive Pr where
 | mk (key val : Val)
inductive Slt where
 | mk (num : Int) (val : Val)
end
inductive Msk where
 | mk (num : Int) (subs : List Msk)
instance : Inhabited Val := ⟨.mk 0 0 .empty [] [] [] []⟩
def Val.kind : Val → Int | .mk k _ _ _ _ _ _ => k
def Val.bits : Val → Int | .mk _ b _ _ _ _ _ => b
def Val.text : Val → ByteArray | .mk _ _ t _ _ _ _ => t
def Val.list : Val → List Val | .mk _ _ _ l _ _ _ => l
def Val.pairs : Val → List Pr | .mk _ _ _ _ p _ _ => p
def Val.slots : Val → List Slt | .mk _ _ _ _ _ s _ => s
def Val.raws : Val → List Raw | .mk _ _ _ _ _ _ r => r
def Pr.key : Pr → Val | .mk k _ => k
def Pr.val : Pr → Val | .mk _ v => v
def Slt.num : Slt → Int | .mk n _ => n
def Slt.val : Slt → Val | .mk _ v => v
def Msk.num : Msk → Int | .mk n _ => n
def Msk.subs : Msk → List Msk | .mk _ s => s
def Zal (s : ByteArray) : List D := [.str s]
def ZqK (s : Int) : List D := [.int .i64 s]
def ZLK (s : Bool) : List D := [.bool s]
def ZzH (x : Raw) : List D := [.int .i64 x.num, .int .i64 x.wire, .int .u64 x.bits, .str x.data]
mutual
def Zpz : Val → List D
 | .mk k b t l p s r => [.int .i64 k, .int .u64 b, .str t, .list (Zxj l), .list (ZLQ p), .list (Zu2 s), .list (r.map ZzH)]
def Zxj : List Val → List (List D)
 | [] => []
 | v :: vs => Zpz v :: Zxj vs
def rPr : Pr → List D
 | .mk k v => Zpz k ++ Zpz v
def ZLQ : List Pr → List (List D)
 | [] => []
 | v :: vs => rPr v :: ZLQ vs
def ZuK : Slt → List D
 | .mk n v => .int .i64 n :: Zpz v
def Zu2 : List Slt → List (List D)
 | [] => []
 | v :: vs => ZuK v :: Zu2 vs
end
mutual
def ZKS : Msk → List D
 | .mk n s => [.int .i64 n, .list (Zv6 s)]
def Zv6 : List Msk → List (List D)
 | [] => []
 | v :: vs => ZKS v :: Zv6 vs
end
theorem ZsB (l : List Val) : Zxj l = l.map Zpz := by induction l with | nil => rfl | cons v l ih => simp [Zxj, ih]
theorem ZuO (l : List Pr) : ZLQ l = l.map rPr := by induction l with | nil => rfl | cons v l ih => simp [ZLQ, ih]
theorem Zsp (l : List Slt) : Zu2 l = l.map ZuK := by induction l with | nil => rfl | cons v l ih => simp [Zu2, ih]
theorem Zup (l : List Msk) : Zv6 l = l.map ZKS := by induction l with | nil => rfl | cons v l ih => simp [Zv6, ih]
def Zv5 (x : Val) : List D := [.int .i64 x.kind, .int .u64 x.bits, .str x.text, .list (x.list.map Zpz), .list (x.pairs.map rPr), .list (x.slots.map ZuK), .list (x.raws.map ZzH)]
def ePr (x : Pr) : List D := [.int .i64 x.key.kind, .int .u64 x.key.bits, .str x.key.text, .list (x.key.list.map Zpz), .list (x.key.pairs.map rPr), .list (x.key.slots.map ZuK), .list (x.key.raws.map ZzH), .int .i64 x.val.kind, .int .u64 x.val.bits, .str x.val.text, .list (x.val.list.map Zpz), .list (x.val.pairs.map rPr), .list (x.val.slots.map ZuK), .list (x.val.raws.map ZzH)]
def ZML (x : Slt) : List D := [.int .i64 x.num, .int .i64 x.val.kind, .int .u64 x.val.bits, .str x.val.text, .list (x.val.list.map Zpz), .list (x.val.pairs.map rPr), .list (x.val.slots.map ZuK), .list (x.val.raws.map ZzH)]
def ZOH (x : Msk) : List D := [.int .i64 x.num, .list (x.subs.map ZKS)]
theorem ZiJ (v : Val) : Zpz v = Zv5 v := by
 cases v; simp [Zpz, Zv5, ZsB, ZuO, Zsp, Val.kind, Val.bits, Val.text, Val.list, Val.pairs, Val.slots, Val.raws]
theorem Zzn (v : Pr) : rPr v = ePr v := by cases v; simp [rPr, ZiJ, Zv5, ePr, Pr.key, Pr.val]
theorem Zqr (v : Slt) : ZuK v = ZML v := by cases v; simp [ZuK, ZiJ, Zv5, ZML, Slt.num, Slt.val]
theorem ZNj (v : Msk) : ZKS v = ZOH v := by cases v; simp [ZKS, ZOH, Zup, Msk.num, Msk.subs]
structure Typ where
 kind : Int
 name : ByteArray
deriving Inhabited, DecidableEq
def ZQx (x : Typ) : List D := [.int .i64 x.kind, .str x.name]
structure Nt where
 name : ByteArray
 val : Val
deriving Inhabited
def eNt (x : Nt) : List D := [.str x.name, .int .i64 x.val.kind, .int .u64 x.val.bits, .str x.val.text, .list (x.val.list.map Zpz), .list (x.val.pairs.map rPr), .list (x.val.slots.map ZuK), .list (x.val.raws.map ZzH)]
structure Fld where
 num : Int
 name : ByteArray
 card : Int
 key : Int
 type : Typ
 union : ByteArray
 hasDefault : Bool
 dflt : Val
 notes : List Nt
deriving Inhabited
def Zdb (x : Fld) : List D := [.int .i64 x.num, .str x.name, .int .i64 x.card, .int .i64 x.key, .int .i64 x.type.kind, .str x.type.name, .str x.union, .bool x.hasDefault, .int .i64 x.dflt.kind, .int .u64 x.dflt.bits, .str x.dflt.text, .list (x.dflt.list.map Zpz), .list (x.dflt.pairs.map rPr), .list (x.dflt.slots.map ZuK), .list (x.dflt.raws.map ZzH), .list (x.notes.map eNt)]
structure Spn where
 lo : Int
 hi : Int
deriving Inhabited, DecidableEq
def Zd0 (x : Spn) : List D := [.int .i64 x.lo, .int .i64 x.hi]
structure By where
 b : UInt8
deriving Inhabited, DecidableEq
def By.v (x : By) : Int := x.b.toNat
def eBy (x : By) : List D := [.int .u8 x.v]
structure Msg where
 name : ByteArray
 fields : List Fld
 reserved : List Spn
 gone : List ByteArray
 notes : List Nt
deriving Inhabited
def ZaC (x : Msg) : List D := [.str x.name, .list (x.fields.map Zdb), .list (x.reserved.map Zd0), .list (x.gone.map Zal), .list (x.notes.map eNt)]
structure Itm where
 name : ByteArray
 num : Int
 notes : List Nt
deriving Inhabited
def Ze1 (x : Itm) : List D := [.str x.name, .int .i64 x.num, .list (x.notes.map eNt)]
structure Enm where
 name : ByteArray
 opn : Bool
 items : List Itm
 reserved : List Spn
 notes : List Nt
deriving Inhabited
def Zan (x : Enm) : List D := [.str x.name, .bool x.opn, .list (x.items.map Ze1), .list (x.reserved.map Zd0), .list (x.notes.map eNt)]
structure Mth where
 name : ByteArray
 inn : ByteArray
 out : ByteArray
 shape : Int
 notes : List Nt
deriving Inhabited
def Zdv (x : Mth) : List D := [.str x.name, .str x.inn, .str x.out, .int .i64 x.shape, .list (x.notes.map eNt)]
structure Svc where
 name : ByteArray
 methods : List Mth
 notes : List Nt
deriving Inhabited
def ZaG (x : Svc) : List D := [.str x.name, .list (x.methods.map Zdv), .list (x.notes.map eNt)]
structure Scm where
 messages : List Msg
 enums : List Enm
 services : List Svc
deriving Inhabited
def Zj4 (x : Scm) : List D := [.list (x.messages.map ZaC), .list (x.enums.map Zan), .list (x.services.map ZaG)]
structure Fil where
 name : ByteArray
 space : ByteArray
 imports : List ByteArray
 messages : List Msg
 enums : List Enm
 services : List Svc
deriving Inhabited
def Zat (x : Fil) : List D := [.str x.name, .str x.space, .list (x.imports.map Zal), .list (x.messages.map ZaC), .list (x.enums.map Zan), .list (x.services.map ZaG)]
structure Prb where
 dfn : ByteArray
 num : Int
 err : Int
deriving Inhabited, DecidableEq
structure Stp where
 num : Int
 pos : Int
 hasKey : Bool
 key : Val
deriving Inhabited
structure Edt where
 path : List Stp
 kind : Int
 val : Val
deriving Inhabited
class Mv (V : Type) where
 q : Bool
 e : V → List D
 z : V
def eEt {V : Type} [Mv V] (p : ByteArray × V) : List D := .str p.1 :: Mv.e p.2
instance : Mv Bool := ⟨false, ZLK, false⟩
instance : Mv (List Int) := ⟨false, fun x => [.list (x.map ZqK)], []⟩
instance (V : Type) [Mv V] : Mv (List (ByteArray × V)) := ⟨false, fun m => [.map (Mv.q V) (m.map eEt)], []⟩
structure Web where
 messages : List (ByteArray × Msg)
 enums : List (ByteArray × Bool)
deriving Inhabited
structure Lnk where
 files : List Fil
 f : Fil
 known : List ByteArray
 messages : List ByteArray
 enums : List Enm
deriving Inhabited
def ZdK (x : List ByteArray) : List D := [.list (x.map Zal)]
def ZRp : Raw := ⟨0, 0, 0, ⟨#[]⟩⟩
def ZIa : Val := .mk 0 0 ⟨#[]⟩ [] [] [] []
def zPr : Pr := .mk ZIa ZIa
def ZRq : Slt := .mk 0 ZIa
def ZRr : Msk := .mk 0 []
def ZPA : Typ := ⟨0, ⟨#[]⟩⟩
def zNt : Nt := ⟨⟨#[]⟩, ZIa⟩
def ZPr : Fld := ⟨0, ⟨#[]⟩, 0, 0, ZPA, ⟨#[]⟩, false, ZIa, []⟩
def ZQw : Spn := ⟨0, 0⟩
def zBy : By := ⟨0⟩
def ZQv : Msg := ⟨⟨#[]⟩, [], [], [], []⟩
def ZPV : Itm := ⟨⟨#[]⟩, 0, []⟩
def ZQ2 : Enm := ⟨⟨#[]⟩, false, [], [], []⟩
def ZQm : Mth := ⟨⟨#[]⟩, ⟨#[]⟩, ⟨#[]⟩, 0, []⟩
def ZQY : Svc := ⟨⟨#[]⟩, [], []⟩
def Zjs : Fil := ⟨⟨#[]⟩, ⟨#[]⟩, [], [], [], []⟩
end Go.Eng
namespace Go.Eng
set_option linter.all false
open Go Go.RowKit
def cAt : List Nat → Code → Code
 | [], c => c
 | 0 :: p, .seq a _ => cAt p a
 | _ :: p, .seq _ b => cAt p b
 | 0 :: p, .cond _ a _ => cAt p a
 | _ :: p, .cond _ _ b => cAt p b
 | _ :: p, .block _ c => cAt p c
 | _ :: p, .loop c => cAt p c
 | _ :: p, .scope c => cAt p c
 | _, c => c
def Zac (f : Func) : Code := f.body.getD .skip
def Zav {α : Type} (e : α → List D) (xs : List α) : List AV := ((xs.map e).flatten).map .d
theorem Zb2 {α : Type} (e : α → List D) (xs : List α) : ZhQ (Zav e xs) := fun x hx => by
 obtain ⟨d, _, rfl⟩ := Yy.1 hx; rfl
theorem ZcO {α : Type} {e : α → List D} {sz : Nat} (he : ∀ x, (e x).length = sz) (xs : List α) : (Zav e xs).length = xs.length * sz := by
 unfold Zav
 induction xs with
 | nil => simp
 | cons x xs ih => simp only [Yk, Yo, YaA, Yi, he, YU, YF] at ih ⊢; omega
theorem ZgF {α : Type} (e : α → List D) (xs ys : List α) : Zav e (xs ++ ys) = Zav e xs ++ Zav e ys := by simp [Zav]
section
variable {P : Program} {n : Nat} {C : Cx} {τ : St} {Q : Exit → St → Prop}
theorem ZsG {c : Code} (id : Nat) (x : Code) (hc : c = .block id x) (h : LW P n C x τ (fun e τ' => match e with | .exit i => (match Nat.beq i id with | true => Q .normal τ' | false => Q (.exit i) τ') | e => Q e τ')) : LW P n C c τ Q := hc ▸ ZxV (h.mono fun e τ' hq => by
 cases e with
 | exit i =>
  simp only at hq ⊢
  split at hq
  ·rename_i he; rw [if_pos (Yb he)]; exact hq
  ·rename_i he; rw [if_neg (by rintro rfl; simp at he)]; exact hq
 | _ => exact hq)
end
theorem ZpU {P : Program} {T : Nat → Option TI} {n : Nat} {f : FuncId} {fn : Func} (rs : List ResultVar) (c : Code) {l : Nat} {xs : List AV} {H : Hp} {Post : AV → Hp → Prop} (θ : Nat → AV) (ys : List AV)
  (hf : P.funcs[f]? = some fn) (hb : fn.body = some c) (hname : (fn.name == "runtime.NumGoroutine") = false) (hn : fn.ntmps = n) (hr : fn.results.toList = rs) (hx : xs.length ≤ n) (hT : TOk P T)
  (hxs : Zao ⟨fun k => (l + 1, k.2), fun _ => 0, θ, H, fun _ => False⟩ ys = xs) (h : ∀ B : Base, LW P n (cxP l θ H B) c (mkS (ZmF 0 ys) []) (FQ T rs 0 (fun y _ => Post y H))) : ZcN P f l xs H Post :=
 Znk rs (cxP l θ H) (γ := fun _ => 0) (LPost := fun y _ => Post y H) hf hb hname hn hr hx hT (fun B => Zks l B θ H) (fun B => ⟨rfl, rfl, rfl, trivial⟩) (fun B => hxs) (fun _ => rfl) (fun _ => rfl) (fun B k hk => by simp [lkH, Zqg] at hk) (fun B i hi => absurd hi (YQ _))
  (fun B γ y bs H' _ hp ho hy => by rw [hy rfl, Zvd ho]; exact hp) h
theorem ZBr {α : Type} (e : α → List D) (xs : List α) : EqI ((xs.map e).length : Nat) xs.length := by simp [EqI]
theorem Zss {α : Type} {e e' : α → List D} {xs : List α} {i : Nat} {x : α} (hx : xs[i]? = some x) (he : ∀ x, e x = e' x) : Zy4 (xs.map e) (i : Nat) (e' x) := ⟨by omega, by simp [hx, he]⟩
theorem ZCd {α : Type} {e e' : α → List D} {xs : List α} {i : Nat} {z : α} (hi : i < xs.length) (he : ∀ x, e x = e' x) : Zy4 (xs.map e) (i : Nat) (e' (xs.getD i z)) := by
 refine Zss ?_ he
 grind
theorem Zn6 {a r : Int} (h : a = r) (h1 : -9223372036854775808 ≤ r) (h2 : r < 9223372036854775808) : Zdl .i64 a r := by
 subst h; exact IntWalk.i64_in _ ⟨h1, by omega⟩
theorem ZNz {i len sz : Nat} (h : i < len) : ZFJ (i : Nat) len 0 sz (i * sz) := ⟨by omega, by omega, by simp⟩
theorem ZxA {sz : Nat} {e : List D} (C : List AV) (he : e.length = sz) : Zoj sz C (.d (.list [e])) 1 (e.map .d) := by
 refine ⟨Yp.2 fun x hx => ?_, fun q hq => ?_, rfl, by simp⟩
 ·obtain ⟨d, _, rfl⟩ := Yy.1 hx; rfl
 grind
theorem ZgV {α : Type} {sz : Nat} {e : α → List D} (C : List AV) (xs : List α) (he : ∀ x, (e x).length = sz) : Zoj sz C (.d (.list (xs.map e))) xs.length (Zav e xs) := by
 refine ⟨Yp.2 fun x hx => ?_, fun q hq => ?_, by simp, rfl⟩
 ·obtain ⟨d, _, rfl⟩ := Yy.1 hx; rfl
 grind
theorem Zxv {α : Type} {sz : Nat} {e : α → List D} (k : Key) (g : Nat) (xs : List α) (he : ∀ x, (e x).length = sz) : Zoj sz (Zav e xs) (.ref k g 0 xs.length) xs.length (Zav e xs) := by
 refine ⟨Yp.2 fun x hx => ?_, rfl, by rw [ZcO he]; simp, by rw [YaU, YaT, ← ZcO he xs, Ya1]⟩
 obtain ⟨d, _, rfl⟩ := Yy.1 hx; rfl
theorem ZvT {α : Type} {sz byt : Nat} {e : α → List D} (xs ys : List α) {n' : Nat} (he : ∀ x, (e x).length = sz) (hn : xs.length + ys.length = n') (hb : n' * byt ≤ 140737488355328) :
  ZEg (Zav e xs) 0 xs.length ys.length sz byt (Zav e ys) (Zav e (xs ++ ys)) n' :=
 ⟨by rw [ZcO he, YH], by rw [YaU, YaT, ZgF], hn, hb⟩
theorem ZvN {α : Type} (e : α → List D) (x : α) : Zav e [x] = (e x).map .d := by simp [Zav]
theorem ZmO {α : Type} {sz : Nat} {e : α → List D} (xs : List α) (hz : sz ≠ 0) (he : ∀ x, (e x).length = sz) : FzR (Zav e xs) 0 xs.length sz (xs.map e) :=
 ⟨by simp, hz, fun q hq => by obtain ⟨x, _, rfl⟩ := Yy.1 hq; exact he x, by rw [ZcO he]; simp, by rw [YaU, YaT, ← ZcO he xs, Ya1]; rfl⟩
theorem ZnU {α : Type} {e e' : α → List D} {xs : List α} {i : Int} {z : α} (h0 : 0 ≤ i) (hi : i < xs.length) (he : ∀ x, e x = e' x) : Zy4 (xs.map e) i (e' (xs.getD i.toNat z)) := by
 have h := ZCd (e := e) (e' := e') (xs := xs) (i := i.toNat) (z := z) (by omega) he
 grind
theorem ZMr (s : ByteArray) : s.data.toList.length = s.size := by simp
theorem ZDi {s : ByteArray} {i : Nat} {x : UInt8} (h : s.data.toList[i]? = some x) : ZFB s (i : Nat) (x.toNat : Nat) := ⟨by omega, x, by simpa using h, rfl⟩
theorem ZAE {s : ByteArray} {i : Nat} (h : i < s.size) : ZFB s (i : Nat) ((s.data.toList.getD i 0).toNat : Nat) := by
 refine ZDi ?_
 rw [Yj, Yc (by rw [ZMr]; exact h)]; rfl
theorem ZfT {α : Type} {sz byt c : Nat} {e : α → List D} {news : List AV} (xs ys : List α) (he : ∀ x, (e x).length = sz) (hc : ys.length = c) (hn : news = Zav e ys) (hb : (xs.length + ys.length) * byt ≤ 140737488355328) :
  ZEg (Zav e xs) 0 xs.length c sz byt news (Zav e (xs ++ ys)) (xs ++ ys).length := by
 subst hc; subst hn
 exact ZvT xs ys he (by rw [Yi]) (by rw [Yi]; exact hb)
section
variable {P : Program} {l : Nat} {r : Ren} {f : FuncId} {xs xs' : List AV} {hb : List (Key × Blk)} {x x' : AV}
def Zfq (P : Program) (l : Nat) (no : Key → Prop) (H : Hp) (c : AV) (aZ : List AV) (y : AV) : Prop :=
 ∃ f first caps, c = .fn (.func f) first caps ∧ ∀ l' H', l ≤ l' → (∀ k : Key, k.1 ≤ l → ¬ no k → H' k = H k) → ZcN P f l' (first ++ aZ ++ caps) H' (fun y' H'' => y' = y ∧ H'' = H')
theorem ZuP {i : Nat} {c : AV} (hθ : r.θ i = c) (h : Zfq P l r.no r.H0 c xs' x') (h1 : Zao r xs = xs') (h2 : ren r x = x') : Zpm P l r i xs hb x := by
 obtain ⟨f, first, caps, rfl, h⟩ := h
 exact ⟨f, first, caps, hθ, fun H' _ ho => by rw [h1, h2]; exact h (l + 1) H' (Nat.le_succ l) ho⟩
theorem Zvm {H : Hp} {no : Key → Prop} {aZ : List AV} {y : AV} (h : ∀ l' H', ZcN P f l' aZ H' (fun y' H'' => y' = y ∧ H'' = H')) : Zfq P l no H (.fn (.func f) [] []) aZ y :=
 ⟨f, [], [], rfl, fun l' H' _ _ => by simpa using h l' H'⟩
end
section
variable {P : Program} {T : Nat → Option TI} {n : Nat} {C : Cx} {τ : St} {Q : Exit → St → Prop}
theorem ZE7 (hC : CxOk C) (hT : TOk P T) (hm : P.follows .mixedOrders = true) {os : Nat} {fx : List Nat} (hO : C.outs = os) (hF : C.fx = fx) {c : Code} (a : AT) (lf lx : Lf) (rs : List ResultVar) {Post : AV → List Blk → Prop} (q : Ren → (Exit → St → Prop) → (AV → List Blk → Prop) → Prop)
  (hq : ∀ r Q Post, Zdu P T C.l n os r c a τ (KB T rs os fx r Post lf lx Q) = q r Q Post) (hQ : ∀ τ, FQ T rs os Post .ret τ → Q .ret τ) (h : ∀ r, r.θ = C.θ → r.H0 = C.H0 → r.κ = C.κ → r.no = C.no → q r Q Post) : LW P n C c τ Q :=
 ZIl hC hT hm a lf lx (by rw [hO]; exact hQ) (fun γ => by rw [hO, hF, hq]; exact h _ rfl rfl rfl rfl)
theorem ZC6 (hC : CxOk C) (hT : TOk P T) (hm : P.follows .mixedOrders = true) {os : Nat} (hO : C.outs = os) {c : Code} (a : AT) (rs : List ResultVar) {Post : AV → List Blk → Prop} (q : Ren → (AV → List Blk → Prop) → Prop)
  (hq : ∀ r Post, Zdu P T C.l n os r c a τ (KF T rs os Post) = q r Post) (h : ∀ r, r.θ = C.θ → r.H0 = C.H0 → r.κ = C.κ → r.no = C.no → q r Post) : LW P n C c τ (FQ T rs os Post) := by
 subst hO
 exact ZHn hC hT hm a (fun γ => by rw [hq]; exact h _ rfl rfl rfl rfl)
mutual
theorem ZwT {H : Hp} : ∀ (x : AV) {a : AT} {K K' : AV → AT → Prop}, (∀ y a, K y a → K' y a) → frz H x a K → frz H x a K'
 | .d x, a, K, K', hk, h => hk _ _ h
 | .e0, a, K, K', hk, h => hk _ _ h
 | .agg xs, a, K, K', hk, h => ZkI xs (fun ys a h => hk _ _ h) h
 | .ref k g off m, a, K, K', hk, h => by
  unfold frz at h ⊢
  grind
 | .top, a, K, K', hk, h => by simp only [frz] at h
 | .p _, a, K, K', hk, h => by simp only [frz] at h
 | .ptr _ _ _, a, K, K', hk, h => by simp only [frz] at h
 | .mp k g, a, K, K', hk, h => by
  unfold frz at h ⊢
  grind
 | .iptr _ _, a, K, K', hk, h => by simp only [frz] at h
 | .fn _ _ _, a, K, K', hk, h => by simp only [frz] at h
 | .tup _, a, K, K', hk, h => by simp only [frz] at h
theorem ZkI {H : Hp} : ∀ (xs : List AV) {a : AT} {K K' : List AV → AT → Prop}, (∀ y a, K y a → K' y a) → ZyP H xs a K → ZyP H xs a K'
 | [], a, K, K', hk, h => hk _ _ h
 | x :: xs, a, K, K', hk, h => by
  simp only [ZyP] at h ⊢
  exact ZwT x (fun y a h => ZkI xs (fun ys a h => hk _ _ h) h) h
end
end
theorem Zct {α : Type} (e : α → List D) (x : α) (xs : List α) : Zav e (x :: xs) = (e x).map .d ++ Zav e xs := by simp [Zav]
theorem ZeB {α : Type} {e : α → List D} {sz : Nat} (hl : ∀ x, (e x).length = sz) : ∀ (xs : List α) (j : Nat), (Zav e xs).drop (j * sz) = Zav e (xs.drop j)
 | [], j => by simp [Zav]
 | x :: xs, 0 => by simp
 | x :: xs, j + 1 => by
  have h1 : ((e x).map AV.d).length = sz := by rw [Yk, hl]
  rw [Zct, YF, Ya5, YbK, ← Ybc, List.drop_left' h1, ZeB hl xs j]
  rfl
theorem ZgL {α : Type} {e : α → List D} {sz : Nat} (hl : ∀ x, (e x).length = sz) : ∀ (xs : List α) (j : Nat), (Zav e xs).take (j * sz) = Zav e (xs.take j)
 | [], j => by simp [Zav]
 | x :: xs, 0 => by simp [Zav]
 | x :: xs, j + 1 => by
  have h1 : ((e x).map AV.d).length = sz := by rw [Yk, hl]
  rw [Zct, List.take_succ_cons, Zct, YF, Ya5, YbK, List.take_append, h1, Nat.add_sub_cancel_left, ZgL hl xs j, Ybf (by omega)]
theorem Zr9 {α : Type} {xs : List α} {j : Nat} {z : α} (hj : j < xs.length) : xs.drop j = xs.getD j z :: xs.drop (j + 1) := by
 rw [Yae hj, Yj, Yc hj]; rfl
theorem Zhu {α : Type} {e e' : α → List D} {xs : List α} {j sz : Nat} {z : α} (hj : j < xs.length) (hl : ∀ x, (e x).length = sz) (he : ∀ x, e x = e' x) : ZcF (Zav e xs) (j * sz) ((e' (xs.getD j z)).map .d) := by
 unfold ZcF
 rw [ZeB hl, Zr9 (z := z) hj, Zct, he, List.take_left]
theorem ZjO {α : Type} {e e' : α → List D} {xs : List α} {j sz o : Nat} {z : α} {c : List AV} (hj : j < xs.length) (hl : ∀ x, (e x).length = sz) (he : ∀ x, e x = e' x)
  (hc : (((e' (xs.getD j z)).map .d).drop o).take c.length = c) (ho : o + c.length ≤ sz) : ZcF (Zav e xs) (j * sz + o) c := by
 unfold ZcF
 have h1 : ((e' (xs.getD j z)).map AV.d).length = sz := by rw [Yk, ← he, hl]
 rw [← Ybc, ZeB hl, Zr9 (z := z) hj, Zct, he, Ybq (by omega), YaJ (by rw [Yav]; omega), hc]
theorem ZCx {α : Type} {e : α → List D} {xs : List α} {j sz : Nat} {y : α} (hj : j < xs.length) (hl : ∀ x, (e x).length = sz) : StS (Zav e xs) (j * sz) ((e y).map .d) (Zav e (xs.set j y)) := by
 have h1 : ((e y).map AV.d).length = sz := by rw [Yk, hl]
 have h2 : (j + 1) * sz ≤ xs.length * sz := YP _ hj
 rw [YF, Ya5] at h2
 refine ⟨by rw [h1, ZcO hl]; omega, ?_⟩
 rw [h1, ZgL hl, show j * sz + sz = (j + 1) * sz from by rw [YF, Ya5], ZeB hl, Ybg, if_pos hj, ZgF, Zct, YN]
def Zeg (r : Ren) : List (Key × Blk) → Hp → Hp
 | [], H => H
 | (k, b) :: rest, H => Zeg r rest (updH H (r.κ k) (Zb7 r k b))
def ZkQ (P : Program) (l : Nat) (r : Ren) (f : FuncId) (xs : List AV) (hb : List (Key × Blk)) (x : AV) (hb2 : List (Key × Blk)) (fr : List Key) : Prop :=
 ∀ H', (∀ p ∈ hb, (H' (r.κ p.1)).g = r.γ p.1 + p.2.g ∧ (p.2.live = true → H' (r.κ p.1) = Zb7 r p.1 p.2)) → (∀ k : Key, k.1 ≤ l → ¬ r.no k → H' k = r.H0 k) →
  ZcN P f (l + 1) (Zao r xs) H' (fun y H'' => ∃ γ' : Key → Nat, (∀ k, k ∉ fr → γ' k = r.γ k) ∧ y = ren ⟨r.κ, γ', r.θ, r.H0, r.no⟩ x ∧ H'' = Zeg ⟨r.κ, γ', r.θ, r.H0, r.no⟩ hb2 H')
mutual
def Ze8 (fr : List Key) : AV → Bool
 | .ref k _ _ _ => fr.any (Zfk k)
 | .ptr k _ _ => fr.any (Zfk k)
 | .mp k _ => fr.any (Zfk k)
 | .fn _ xs ys => Zeh fr xs || Zeh fr ys
 | .agg xs => Zeh fr xs
 | .tup xs => Zeh fr xs
 | .top => false
 | .d _ => false
 | .e0 => false
 | .p _ => false
 | .iptr _ _ => false
def Zeh (fr : List Key) : List AV → Bool
 | [] => false
 | x :: xs => Ze8 fr x || Zeh fr xs
end
def ZfK (fr : List Key) : List (Nat × AV) → List (Nat × AV)
 | [] => []
 | (j, x) :: r => (j, match Ze8 fr x with | true => .top | false => x) :: ZfK fr r
def Zd8 (ks fr fl : List Key) : List (Key × Blk) → List (Key × Blk)
 | [] => []
 | (k, b) :: r => match ks.any (Zfk k), fl.any (Zfk k) || !Zeh fr b.cells with
  | false, true => (k, b) :: Zd8 ks fr fl r
  | _, _ => Zd8 (k :: ks) fr fl r
def ZxM : Option Nat → AV → List (Nat × AV) → List (Nat × AV)
 | some d, x, r => (d, x) :: r
 | none, _, r => r
def okK (os : Nat) (k : Key) : Bool := Nat.beq k.1 1 || (Nat.beq k.1 0 && Nat.ble (k.2 + 1) os)
def Zlh (os : Nat) : List (Key × Blk) → Bool
 | [] => true
 | (k, b) :: r => okK os k && b.live && !(r.any fun p => Zfk k p.1) && Zlh os r
mutual
theorem ZhT {r : Ren} {γ' : Key → Nat} {fr : List Key} (hγ : ∀ k, k ∉ fr → γ' k = r.γ k) : ∀ (x : AV), Ze8 fr x = false → ren ⟨r.κ, γ', r.θ, r.H0, r.no⟩ x = ren r x
 | .ref k g off n, h => by simp only [Ze8] at h; simp only [ren]; rw [hγ k (ZiT h)]
 | .ptr k g off, h => by simp only [Ze8] at h; simp only [ren]; rw [hγ k (ZiT h)]
 | .mp k g, h => by simp only [Ze8] at h; simp only [ren]; rw [hγ k (ZiT h)]
 | .fn f xs ys, h => by
  simp only [Ze8, Ybn] at h
  have e1 := ZcX hγ xs h.1
  have e2 := ZcX hγ ys h.2
  cases f <;> simp only [ren, e1, e2]
 | .agg xs, h => by simp only [Ze8] at h; simp only [ren, ZcX hγ xs h]
 | .tup xs, h => by simp only [Ze8] at h; simp only [ren, ZcX hγ xs h]
 | .top, _ => by simp [ren]
 | .d _, _ => by simp [ren]
 | .e0, _ => by simp [ren]
 | .p _, _ => by simp [ren]
 | .iptr _ _, _ => by simp [ren]
theorem ZcX {r : Ren} {γ' : Key → Nat} {fr : List Key} (hγ : ∀ k, k ∉ fr → γ' k = r.γ k) : ∀ (xs : List AV), Zeh fr xs = false → Zao ⟨r.κ, γ', r.θ, r.H0, r.no⟩ xs = Zao r xs
 | [], _ => by simp [Zao]
 | x :: xs, h => by
  simp only [Zeh, Ybn] at h
  simp only [Zao, ZhT hγ x h.1, ZcX hγ xs h.2]
theorem ZiT {k : Key} {fr : List Key} (h : fr.any (Zfk k) = false) : k ∉ fr := fun hm => by
 have : fr.any (Zfk k) = true := Y0.2 ⟨k, hm, Zbz.2 rfl⟩
 grind
end
def Zdf : Code → Array Oper
 | .region _ ops _ => ops
 | _ => #[]
def ZHT : Code → Bool
 | .region _ _ false => true
 | _ => false
def ZhR {α : Type} : Nat → List α → List α
 | 0, l => l
 | _ + 1, [] => []
 | n + 1, _ :: l => ZhR n l
def Zmp {α : Type} : Nat → List α → List α
 | 0, _ => []
 | _ + 1, [] => []
 | n + 1, x :: l => x :: Zmp n l
theorem ZiQ {α : Type} : ∀ (n : Nat) (l : List α), ZhR n l = l.drop n
 | 0, l => rfl
 | n + 1, [] => rfl
 | n + 1, x :: l => ZiQ n l
theorem Zoe {α : Type} : ∀ (n : Nat) (l : List α), Zmp n l = l.take n
 | 0, l => rfl
 | n + 1, [] => rfl
 | n + 1, x :: l => by rw [Zmp, Zoe n l]; rfl
def LO (P : Program) (n : Nat) (C : Cx) (c : Code) (k : Nat) (τ : St) (Q : Exit → St → Prop) : Prop :=
 ∀ γ σ act w, C.G γ → RG (C.r γ) C.l C.outs [] τ σ → R C.l n C.B σ act w → wpList P (Zdf c) (fun e a' w' => ∃ σ', Is n C (Q e) σ' ∧ R C.l n C.B σ' a' w') ((Zdf c).toList.drop k) act w
def ZfH (c : Code) (k : Nat) : Option (Option Nat × Operand × List Operand) :=
 match nth (Zdf c).toList k with
 | some o => (match o.guard, o.op with
  | none, .call cl => (match cl.callee with | .value f => some (o.dst, f, cl.args.toList) | _ => none)
  | _, _ => none)
 | none => none
def wrL (C : Cx) : List (Key × Blk) → Prop
 | [] => True
 | (k, _) :: r => match Nat.beq k.1 1 with | true => wrL C r | false => C.no (C.κ k) ∧ wrL C r
def flL (H : Hp) : List Key → Prop
 | [] => True
 | k :: r => ZhQ (H k).cells ∧ flL H r
def ZGo (fr : List Key) (hb2 : List (Key × Blk)) : Bool := fr.all fun k => hb2.any fun p => Zfk k p.1
def Zj6 (fr : List Key) (fx : List Nat) : Bool := fr.all fun k => !(Nat.beq k.1 0 && fx.any (Nat.beq k.2))
def Zla : List (Key × Blk) → Bool
 | [] => true
 | (_, b) :: r => Nat.beq b.g 0 && Zla r
def ZNV : Option Nat → (Nat → AV) → AV → Nat → AV
 | some d, s, v => upd s d v
 | none, s, _ => s
def ZrG (n : Nat) : Option Nat → Bool
 | some d => Nat.ble (d + 1) n
 | none => true
section
variable {P : Program} {T : Nat → Option TI} {n : Nat} {C : Cx} {τ : St} {Q : Exit → St → Prop}
theorem ZpL {c : Code} (hc : ZHT c = true) (h : LO P n C c 0 τ Q) : LW P n C c τ Q := by
 cases c with
 | region id ops dr =>
  cases dr with
  | true => cases hc
  | false =>
   obtain ⟨opl, rfl⟩ : ∃ l : List Oper, ops = l.toArray := ⟨ops.toList, by simp⟩
   intro γ σ hg hG act w hR
   have := h γ σ act w hg hG hR
   simp only [Zdf, YaT] at this
   exact wp_region_lit this
 | _ => cases hc
theorem ZFU (hC : CxOk C) (hT : TOk P T) {os : Nat} {fx : List Nat} (hO : C.outs = os) (hF : C.fx = fx) {c : Code} {k : Nat} (m : Nat) (a : AT) (lf : Lf) (q : Ren → (St → Prop) → Prop)
  (hq : ∀ r Φ, Zd1 r os a τ (fun τ a => Zjr P T C.l n r ((Zdf c).toList.map (·.dst)) (Zmp m (ZhR k (Zdf c).toList)) [] a (fun τ' env a' => Zd1 r os a' (Zls env τ') (fun τ _ => Zf5 fx lf τ Φ)) τ) = q r Φ)
  (h : ∀ r, r.θ = C.θ → r.H0 = C.H0 → r.κ = C.κ → r.no = C.no → q r (fun τ' => LO P n C c (k + m) τ' Q)) : LO P n C c k τ Q := by
 subst hO
 subst hF
 intro γ σ act w hg hG hR
 have h1 := h (C.r γ) rfl rfl rfl rfl
 rw [← hq] at h1
 obtain ⟨τ₁, a₁, σ₁, h2, hG1, hw1⟩ := Zar (n := n) hC a h1 hG
 have e : (Zdf c).toList.drop k = Zmp m (ZhR k (Zdf c).toList) ++ (Zdf c).toList.drop (k + m) := by
  rw [Zoe, ZiQ, ← Ybc, YaX]
 rw [e]
 refine ZdT (hC.ren γ) hT (B := C.B) _ (fun τ' env' a' σ' act' w' k1 k2 k3 => ?_) _ [] a₁ τ₁ σ₁ act w h2 hG1 (hw1 _ _ hR)
 obtain ⟨σ₂, g1, g2⟩ := ZeQ (n := n) k2
 obtain ⟨τ₃, a₃, σ₃, f1, f2, f3⟩ := Zar (n := n) hC a' k1 g1
 obtain ⟨γ', τ₄, σ₄, j0, j1, j2, j3⟩ := ZcM (n := n) hC f1 hg f2
 exact j1 γ' σ₄ act' w' j0 j2 (j3 _ _ (f3 _ _ (g2 _ _ k3)))
theorem ZF4 (hC : CxOk C) (hT : TOk P T) {os : Nat} {fx : List Nat} (hO : C.outs = os) (hF : C.fx = fx) {c : Code} {k : Nat} (a : AT) (lf : Lf) (q : Ren → (Exit → St → Prop) → Prop)
  (hq : ∀ r Φ, Zd1 r os a τ (fun τ a => Zjr P T C.l n r ((Zdf c).toList.map (·.dst)) (ZhR k (Zdf c).toList) [] a (fun τ' env a' => Zd1 r os a' (Zls env τ') (fun τ _ => Zf5 fx lf τ (Φ .normal))) τ) = q r Φ)
  (h : ∀ r, r.θ = C.θ → r.H0 = C.H0 → r.κ = C.κ → r.no = C.no → q r Q) : LO P n C c k τ Q := by
 subst hO
 subst hF
 intro γ σ act w hg hG hR
 have h1 := h (C.r γ) rfl rfl rfl rfl
 rw [← hq] at h1
 obtain ⟨τ₁, a₁, σ₁, h2, hG1, hw1⟩ := Zar (n := n) hC a h1 hG
 have e : (Zdf c).toList.drop k = ZhR k (Zdf c).toList ++ [] := by rw [ZiQ, YW]
 rw [e]
 refine ZdT (hC.ren γ) hT (B := C.B) _ (fun τ' env' a' σ' act' w' k1 k2 k3 => ?_) _ [] a₁ τ₁ σ₁ act w h2 hG1 (hw1 _ _ hR)
 obtain ⟨σ₂, g1, g2⟩ := ZeQ (n := n) k2
 obtain ⟨τ₃, a₃, σ₃, f1, f2, f3⟩ := Zar (n := n) hC a' k1 g1
 obtain ⟨γ', τ₄, σ₄, j0, j1, j2, j3⟩ := ZcM (n := n) hC f1 hg f2
 unfold wpList
 exact ⟨σ₄, ⟨γ', τ₄, σ₄, j0, j1, j2, Wk.refl _⟩, j3 _ _ (f3 _ _ (g2 _ _ k3))⟩
theorem ZgJ : ∀ {hs : List (Key × Blk)}, Zla hs = true → ∀ k, (lkH hs k).g = 0
 | [], _, k => rfl
 | (k', b) :: r, h, k => by
  simp only [Zla, Yd] at h
  simp only [lkH]
  split
  ·exact Yb h.1
  ·exact ZgJ h.2 k
theorem ZnL {k : Key} {ks : List Key} : ks.any (Zfk k) = true ↔ k ∈ ks := by
 rw [Y0]
 exact ⟨fun ⟨q, h1, h2⟩ => by rw [Zbz.1 h2]; exact h1, fun h => ⟨k, h, Zbz.2 rfl⟩⟩
theorem ZBa (a b : List (Key × Blk)) (k : Key) : lkH (a ++ b) k = if k ∈ a.map (·.1) then lkH a k else lkH b k := by
 induction a with
 | nil => simp
 | cons p a ih =>
  obtain ⟨q, b'⟩ := p
  simp only [YaZ, lkH, Yo, Yx]
  cases hq : Zfk q k with
  | true => rw [if_pos (.inl (Zbz.1 hq).symm)]
  | false =>
   have : k ≠ q := fun e => by rw [Zbz.2 e.symm] at hq; cases hq
   grind
theorem ZdQ {fr fl : List Key} : ∀ (hs : List (Key × Blk)) (ks : List Key) (k : Key), (k ∈ ks → lkH (Zd8 ks fr fl hs) k = Zqg) ∧ (k ∉ ks → (lkH (Zd8 ks fr fl hs) k = lkH hs k ∧ (k ∈ fl ∨ Zeh fr (lkH hs k).cells = false)) ∨ lkH (Zd8 ks fr fl hs) k = Zqg)
 | [], ks, k => ⟨fun _ => rfl, fun _ => .inr rfl⟩
 | (q, b) :: r, ks, k => by
  simp only [Zd8]
  split
  ·rename_i h1 h2
   have hqk : q ∉ ks := fun hm => by rw [ZnL.2 hm] at h1; cases h1
   simp only [lkH]
   cases hq : Zfk q k with
   | true =>
    have hq := Zbz.1 hq
    subst hq
    refine ⟨fun h => absurd h hqk, fun _ => .inl ⟨rfl, ?_⟩⟩
    simp only [YI, Y3] at h2
    rcases h2 with h2 | h2
    ·exact .inl (ZnL.1 h2)
    grind
   | false => exact ZdQ r ks k
  ·obtain ⟨h1, h2⟩ := ZdQ (fr := fr) (fl := fl) r (q :: ks) k
   refine ⟨fun h => h1 (Yq _ h), fun h => ?_⟩
   by_cases hq : k = q
   ·grind
   ·rcases h2 (fun hm => (Yx.1 hm).elim hq h) with ⟨e1, e2⟩ | e
    ·have : Zfk q k = false := by
      cases hb : Zfk q k with
      | true => exact absurd (Zbz.1 hb).symm hq
      | false => rfl
     simp only [lkH, this]
     grind
    grind
theorem Zd2 {r : Ren} : ∀ (hb2 : List (Key × Blk)) (H : Hp) (q : Key), (∀ p ∈ hb2, r.κ p.1 ≠ q) → Zeg r hb2 H q = H q
 | [], H, q, h => rfl
 | (k, b) :: rest, H, q, h => by
  simp only [Zeg]
  rw [Zd2 rest _ q (fun p hp => h p (Yq _ hp)), Zad _ _ (fun e => h (k, b) (Yt ..) e.symm)]
theorem Zm9 {r : Ren} {os : Nat} (hinj : ∀ q k : Key, okK os q = true → okK os k = true → q ≠ k → r.κ q ≠ r.κ k) : ∀ (hb2 : List (Key × Blk)) (H : Hp), Zlh os hb2 = true → ∀ k b, (k, b) ∈ hb2 → Zeg r hb2 H (r.κ k) = Zb7 r k b ∧ lkH hb2 k = b ∧ okK os k = true ∧ b.live = true
 | [], H, _, k, b, hm => by cases hm
 | (q, c) :: rest, H, hok, k, b, hm => by
  simp only [Zlh, Yd, Y3] at hok
  obtain ⟨⟨⟨h1, h2⟩, h3⟩, h4⟩ := hok
  have hno : ∀ p ∈ rest, p.1 ≠ q := fun p hp e => by
   have : (rest.any fun p => Zfk q p.1) = true := Y0.2 ⟨p, hp, Zbz.2 e.symm⟩
   rw [this] at h3; cases h3
  have hoks : ∀ (l : List (Key × Blk)), Zlh os l = true → ∀ p ∈ l, okK os p.1 = true := by
   intro l
   induction l with
   | nil => intro _ p hp; cases hp
   | cons p l ih =>
    obtain ⟨p1, p2⟩ := p
    intro hl p hp
    simp only [Zlh, Yd] at hl
    rcases Yx.1 hp with rfl | hp
    ·exact hl.1.1.1
    ·exact ih hl.2 p hp
  simp only [Zeg]
  rcases Yx.1 hm with e | hm
  ·cases e
   refine ⟨?_, by simp only [lkH, Zbz.2 rfl], h1, h2⟩
   rw [Zd2 rest _ _ (fun p hp => hinj _ _ (hoks rest h4 p hp) h1 (hno p hp)), Zab]
  ·obtain ⟨g1, g2, g3, g4⟩ := Zm9 hinj rest (updH H (r.κ q) (Zb7 r q c)) h4 k b hm
   refine ⟨g1, ?_, g3, g4⟩
   have : Zfk q k = false := by
    cases hb : Zfk q k with
    | true => exact absurd (Zbz.1 hb).symm (hno _ hm)
    | false => rfl
   simp only [lkH, this]
   exact g2
theorem Zt0 : ∀ {hb2 : List (Key × Blk)}, wrL C hb2 → ∀ p ∈ hb2, p.1.1 ≠ 1 → C.no (C.κ p.1)
 | (k, b) :: r, h, p, hp, hne => by
  simp only [wrL] at h
  split at h
  ·rename_i hk
   rcases Yx.1 hp with rfl | hp
   ·exact absurd (Yb hk) hne
   ·exact Zt0 h p hp hne
  ·rcases Yx.1 hp with rfl | hp
   ·exact h.1
   ·exact Zt0 h.2 p hp hne
theorem Zs9 {H : Hp} : ∀ {ks : List Key}, flL H ks → ∀ k ∈ ks, ZhQ (H k).cells
 | q :: r, h, k, hk => by
  rcases Yx.1 hk with rfl | hk
  ·exact h.1
  ·exact Zs9 h.2 k hk
theorem ZeC {os : Nat} {k : Key} (h : okK os k = true) : k.1 = 1 ∨ (k.1 = 0 ∧ k.2 < os) := by
 simp only [okK, YI, Yd] at h
 rcases h with h | ⟨h1, h2⟩
 ·exact .inl (Yb h)
 ·exact .inr ⟨Yb h1, Yh h2⟩
theorem Zor {fr : List Key} : ∀ (ss : List (Nat × AV)) (j : Nat), lkS (ZfK fr ss) j = .top ∨ (lkS (ZfK fr ss) j = lkS ss j ∧ Ze8 fr (lkS ss j) = false)
 | [], j => .inl rfl
 | (i, x) :: r, j => by
  simp only [ZfK, lkS]
  split
  ·grind
  ·exact Zor r j
theorem Zw7 (hC : CxOk C) {os : Nat} {fx : List Nat} (hO : C.outs = os) (hF : C.fx = fx) {c : Code} {k : Nat} {ss : List (Nat × AV)} {hs : List (Key × Blk)} (dst : Option Nat) (fo : Operand) (aZ : List Operand) (hop : ZfH c k = some (dst, fo, aZ))
  (f : FuncId) (first caps xs : List AV) (hf : ev (lkS ss) fo = .fn (.func f) first caps) (hxs : first ++ aZ.map (ev (lkS ss)) ++ caps = xs) (ks : List Key) (hb : List (Key × Blk)) (hhb : (ks.map fun k => (k, lkH hs k)) = hb)
  {ι : Type} (I : ι → Prop) (xF : ι → AV) (hbF : ι → List (Key × Blk)) (fr fl : List Key) (hok0 : (Zj6 fr fx && Zla hs && ZrG n dst && ks.all (okK os)) = true) (hok : ∀ i, (Zlh os (hbF i) && ZGo fr (hbF i)) = true) (hwr : ∀ i, wrL C (hbF i)) (hfl : flL (lkH hs) fl)
  (hcall : ∀ r : Ren, r.θ = C.θ → r.H0 = C.H0 → r.κ = C.κ → r.no = C.no → ∀ H', (∀ p ∈ hb, (H' (r.κ p.1)).g = r.γ p.1 + p.2.g ∧ (p.2.live = true → H' (r.κ p.1) = Zb7 r p.1 p.2)) → (∀ k : Key, k.1 ≤ C.l → ¬ r.no k → H' k = r.H0 k) →
   ZcN P f (C.l + 1) (Zao r xs) H' (fun y H'' => ∃ i, I i ∧ ∃ γ' : Key → Nat, (∀ k, k ∉ fr → γ' k = r.γ k) ∧ y = ren ⟨r.κ, γ', r.θ, r.H0, r.no⟩ (xF i) ∧ H'' = Zeg ⟨r.κ, γ', r.θ, r.H0, r.no⟩ (hbF i) H'))
  (h : ∀ i, I i → LO P n C c (k + 1) (mkS (ZxM dst (xF i) (ZfK fr ss)) (hbF i ++ Zd8 ((hbF i).map (·.1)) fr fl hs)) Q) : LO P n C c k (mkS ss hs) Q := by
 subst hO
 subst hF
 simp only [Yd] at hok0
 obtain ⟨⟨⟨k3, k4⟩, k5⟩, k6⟩ := hok0
 intro γ σ act w hg hG hR
 have hr := hC.ren γ
 have hs' : ∀ j, σ.s j = ren (C.r γ) (lkS ss j) := fun j => (hG.s j).1 Zak
 have heval : ∀ y : Operand, ev σ.s y = ren (C.r γ) (ev (lkS ss) y) := fun y => Zg0 (c := []) hG Zak (by cases y <;> rfl)
 unfold ZfH at hop
 split at hop
 case h_2 => cases hop
 rename_i o ho
 split at hop
 case h_2 => cases hop
 rename_i cl hgd hopc
 split at hop
 case h_2 => cases hop
 rename_i fo' hcal
 simp only [Yg, YaG] at hop
 obtain ⟨hd, rfl, rfl⟩ := hop
 rw [Zcp] at ho
 have hlt : k < (Zdf c).toList.length := by
  grind
 have hrest : (Zdf c).toList.drop k = o :: (Zdf c).toList.drop (k + 1) := by
  rw [Yae hlt]
  grind
 rw [hrest]
 have hinj : ∀ q k : Key, okK C.outs q = true → okK C.outs k = true → q ≠ k → (C.r γ).κ q ≠ (C.r γ).κ k := fun q k h1 h2 h3 => hr.ne (ZeC h1) (ZeC h2) h3
 have hA := hcall (C.r γ) rfl rfl rfl rfl σ.H (fun p hp => by
  rw [← hhb] at hp
  obtain ⟨q, hq, rfl⟩ := Yy.1 hp
  have hq' := ZeC (Yp.1 k6 q hq)
  refine ⟨?_, fun hl => hG.h q hl⟩
  obtain ⟨q1, q2⟩ := q
  simp only at hq'
  rcases hq' with rfl | ⟨rfl, h2⟩
  ·have := hG.g q2
   rw [← hr.own] at this
   exact this
  ·exact hG.go q2 h2) hG.o
 have hargs : Zao (C.r γ) xs = Zao (C.r γ) first ++ cl.args.toList.map (ev σ.s) ++ Zao (C.r γ) caps := by
  rw [← hxs, Zdj, Zdj]
  congr 2
  rw [Zde, YaF]
  exact YO fun y _ => (heval y).symm
 have hfe : ev σ.s fo' = .fn (.func f) (Zao (C.r γ) first) (Zao (C.r γ) caps) := by rw [heval, hf]; simp [ren]
 have hrop : rOp P C.l n o (fun σ' => ∃ i, I i ∧ ∃ γ' : Key → Nat, (∀ q, q ∉ fr → γ' q = γ q) ∧ σ' = ⟨ZNV dst σ.s (ren (C.r γ') (xF i)), Zeg (C.r γ') (hbF i) σ.H⟩) σ := by
  unfold rOp
  rw [hopc]
  simp only [hcal, hfe]
  rw [hargs] at hA
  refine hA.mono fun y H'' ⟨i, hi, γ', e1, e2, e3⟩ => ?_
  unfold ZGB ZhD
  rw [hd]
  cases dst with
  | none => exact ⟨i, hi, γ', e1, by rw [e3]; rfl⟩
  | some d => exact ⟨Yh k5, i, hi, γ', e1, by rw [e2, e3]; rfl⟩
 refine Zee (by simp [Region.wanted, hgd]) (ZdV hrop) hR fun σ' act' w' hK hR' => ?_
 obtain ⟨i, hi, γ', e1, rfl⟩ := hK
 have h := h i hi
 have hwr := hwr i
 have hok := hok i
 generalize hbF i = hb2 at h hwr hok hR'
 generalize xF i = x at h hR'
 simp only [Yd] at hok
 obtain ⟨k1, k2⟩ := hok
 have hsub : ∀ q, q ∈ fr → ∃ b, (q, b) ∈ hb2 := fun q hq => by
  obtain ⟨p, hp, hk⟩ := Y0.1 (Yp.1 k2 q hq)
  rw [Zbz.1 hk]; exact ⟨p.2, hp⟩
 let τ2 : St := mkS (ZxM dst x (ZfK fr ss)) (hb2 ++ Zd8 (hb2.map (·.1)) fr fl hs)
 have hlow : ∀ q, lkH (hb2 ++ Zd8 (hb2.map (·.1)) fr fl hs) q = if q ∈ hb2.map (·.1) then lkH hb2 q else lkH (Zd8 (hb2.map (·.1)) fr fl hs) q := fun q => ZBa _ _ _
 have hin : ∀ q, q ∈ hb2.map (·.1) → ∃ b, (q, b) ∈ hb2 := fun q hq => by obtain ⟨p, hp, rfl⟩ := Yy.1 hq; exact ⟨p.2, hp⟩
 have hput : ∀ q b, (q, b) ∈ hb2 → Zeg (C.r γ') hb2 σ.H ((C.r γ').κ q) = Zb7 (C.r γ') q b ∧ lkH hb2 q = b ∧ okK C.outs q = true ∧ b.live = true := Zm9 (r := C.r γ') hinj hb2 σ.H k1
 have hkeep : ∀ q, q ∉ hb2.map (·.1) → okK C.outs q = true → Zeg (C.r γ') hb2 σ.H ((C.r γ').κ q) = σ.H ((C.r γ').κ q) ∧ γ' q = γ q := fun q hq hkq => by
  refine ⟨Zd2 _ _ _ fun p hp => hinj _ _ (hput p.1 p.2 hp).2.2.1 hkq fun e => hq (Yy.2 ⟨p, hp, e⟩), e1 q fun hf => ?_⟩
  grind
 have hgen : ∀ q, okK C.outs q = true → (σ.H (C.κ q)).g = γ q → (Zeg (C.r γ') hb2 σ.H (C.κ q)).g = γ' q + (lkH (hb2 ++ Zd8 (hb2.map (·.1)) fr fl hs) q).g := fun q hkq hq0 => by
  rw [hlow]
  split
  ·rename_i hm
   obtain ⟨b, hb⟩ := hin q hm
   obtain ⟨a1, a2, _⟩ := hput q b hb
   rw [show C.κ q = (C.r γ').κ q from rfl, a1, a2]
   rfl
  ·rename_i hm
   obtain ⟨a1, a2⟩ := hkeep q hm hkq
   rw [show C.κ q = (C.r γ').κ q from rfl, a1, a2]
   have : (lkH (Zd8 (hb2.map (·.1)) fr fl hs) q).g = 0 := by
    rcases (ZdQ (fr := fr) (fl := fl) hs (hb2.map (·.1)) q).2 hm with ⟨e, _⟩ | e
    ·rw [e]; exact ZgJ k4 q
    ·rw [e]; rfl
   rw [this]
   exact hq0
 have hG2 : RG (C.r γ') C.l C.outs [] τ2 ⟨fun j => ren (C.r γ') (τ2.s j), Zeg (C.r γ') hb2 σ.H⟩ := by
  refine ⟨fun j => ⟨fun _ => rfl, fun hn => absurd Zak hn⟩, fun q hq => ?_, fun d => ?_, fun i hi => ?_, fun q hq => ?_, fun q hq hn => ?_⟩
  ·show Zeg (C.r γ') hb2 σ.H ((C.r γ').κ q) = Zb7 (C.r γ') q (lkH (hb2 ++ Zd8 (hb2.map (·.1)) fr fl hs) q)
   replace hq : (lkH (hb2 ++ Zd8 (hb2.map (·.1)) fr fl hs) q).live = true := hq
   rw [hlow] at hq ⊢
   split at hq
   ·grind
   ·rename_i hm
    rw [if_neg hm]
    rcases (ZdQ (fr := fr) (fl := fl) hs (hb2.map (·.1)) q).2 hm with ⟨e, e'⟩ | e
    ·rw [e] at hq ⊢
     have hkq := hG.k q hq
     have hok : okK C.outs q = true := by
      obtain ⟨q1, q2⟩ := q
      simp only at hkq
      simp only [okK, YI, Yd]
      rcases hkq with rfl | ⟨rfl, h2⟩
      ·exact .inl rfl
      ·exact .inr ⟨rfl, Yb0 h2⟩
     obtain ⟨a1, a2⟩ := hkeep q hm hok
     rw [a1]
     have hb := hG.h q hq
     have hcells : Zao (C.r γ') (lkH hs q).cells = Zao (C.r γ) (lkH hs q).cells := by
      rcases e' with e' | e'
      ·rw [ZcL (Zs9 hfl q e'), ZcL (Zs9 hfl q e')]
      ·exact ZcX (r := C.r γ) e1 _ e'
     show σ.H ((C.r γ).κ q) = _
     rw [hb]
     simp only [Zb7]
     rw [hcells, show (C.r γ').γ q = γ' q from rfl, a2]
     rfl
    ·rw [e] at hq; cases hq
  ·have := hgen (1, d) rfl (by
    have := hG.g d
    rw [show ((mkS ss hs).H (1, d)).g = 0 from ZgJ k4 _] at this
    rw [hC.own]; exact this)
   rw [hC.own] at this
   exact this
  ·exact hgen (0, i) (by simp only [okK, YI, Yd]; exact .inr ⟨rfl, Yb0 hi⟩) (by
    have := hG.go i hi
    rw [show ((mkS ss hs).H (0, i)).g = 0 from ZgJ k4 _] at this
    exact this)
  ·replace hq : (lkH (hb2 ++ Zd8 (hb2.map (·.1)) fr fl hs) q).live = true := hq
   rw [hlow] at hq
   split at hq
   ·rename_i hm
    obtain ⟨b, hb⟩ := hin q hm
    exact ZeC (hput q b hb).2.2.1
   ·rename_i hm
    rcases (ZdQ (fr := fr) (fl := fl) hs (hb2.map (·.1)) q).2 hm with ⟨e, e'⟩ | e
    ·rw [e] at hq; exact hG.k q hq
    ·rw [e] at hq; cases hq
  ·show Zeg (C.r γ') hb2 σ.H q = C.H0 q
   rw [Zd2 _ _ _ fun p hp e => ?_]
   ·exact hG.o q hq hn
   ·by_cases h1 : p.1.1 = 1
    ·obtain ⟨⟨p1, p2⟩, p3⟩ := p
     simp only at h1
     subst h1
     rw [show (C.r γ').κ (1, p2) = (C.l + 1, p2) from hC.own p2] at e
     grind
    ·exact hn (by rw [← e]; exact Zt0 hwr p hp h1)
 refine h γ' _ act' w' (hC.G γ γ' (fun i hi => e1 _ fun hm => ?_) hg) hG2 (R.weaken hR' fun j => ?_)
 ·have := Yp.1 k3 _ hm
  simp only [Y3, YaY] at this
  rcases this with h | h
  ·cases h
  ·have : (C.fx.any (Nat.beq i)) = true := Y0.2 ⟨i, hi, by simp⟩
   grind
 ·have old : ren (C.r γ') (lkS (ZfK fr ss) j) = σ.s j ∨ ren (C.r γ') (lkS (ZfK fr ss) j) = .top := by
   rcases Zor (fr := fr) ss j with e | ⟨e, e'⟩
   ·right; rw [e]; simp [ren]
   ·left
    rw [e, hs' j]
    exact ZhT (r := C.r γ) e1 _ e'
  show ren (C.r γ') (lkS (ZxM dst x (ZfK fr ss)) j) = _ ∨ ren (C.r γ') (lkS (ZxM dst x (ZfK fr ss)) j) = .top
  cases dst with
  | none => exact old
  | some d =>
   simp only [ZxM, lkS, ZNV, upd]
   cases hj : Nat.beq d j with
   | true =>
    have := Yb hj
    grind
   | false =>
    have : j ≠ d := fun e => by rw [e] at hj; simp at hj
    grind
theorem ZD6 (hC : CxOk C) {os : Nat} {fx : List Nat} (hO : C.outs = os) (hF : C.fx = fx) {c : Code} {k : Nat} {ss : List (Nat × AV)} {hs : List (Key × Blk)} (dst : Option Nat) (fo : Operand) (aZ : List Operand) (hop : ZfH c k = some (dst, fo, aZ))
  (f : FuncId) (first caps xs : List AV) (hf : ev (lkS ss) fo = .fn (.func f) first caps) (hxs : first ++ aZ.map (ev (lkS ss)) ++ caps = xs) (ks : List Key) (hb : List (Key × Blk)) (hhb : (ks.map fun k => (k, lkH hs k)) = hb)
  (x : AV) (hb2 : List (Key × Blk)) (fr fl : List Key) (hok : (Zlh os hb2 && ZGo fr hb2 && Zj6 fr fx && Zla hs && ZrG n dst && ks.all (okK os)) = true) (hwr : wrL C hb2) (hfl : flL (lkH hs) fl)
  (hcall : ∀ r : Ren, r.θ = C.θ → r.H0 = C.H0 → r.κ = C.κ → r.no = C.no → ZkQ P C.l r f xs hb x hb2 fr)
  (h : LO P n C c (k + 1) (mkS (ZxM dst x (ZfK fr ss)) (hb2 ++ Zd8 (hb2.map (·.1)) fr fl hs)) Q) : LO P n C c k (mkS ss hs) Q := by
 simp only [Yd] at hok
 obtain ⟨⟨⟨⟨⟨k1, k2⟩, k3⟩, k4⟩, k5⟩, k6⟩ := hok
 exact Zw7 hC hO hF dst fo aZ hop f first caps xs hf hxs ks hb hhb (ι := Unit) (fun _ => True) (fun _ => x) (fun _ => hb2) fr fl (by simp only [Yd]; exact ⟨⟨⟨k3, k4⟩, k5⟩, k6⟩) (fun _ => by simp only [Yd]; exact ⟨k1, k2⟩) (fun _ => hwr) hfl
  (fun r h1 h2 h3 h4 H' a b => (hcall r h1 h2 h3 h4 H' a b).mono fun y H'' hh => ⟨(), trivial, hh⟩) fun _ _ => h
end
def kOf (l : Nat) (ks : List Key) : Key → Key
 | (0, i) => match nth ks i with | some k => k | none => (0, 0)
 | (_ + 1, d) => (l + 1, d)
def gOf (gs : List Nat) : Key → Nat
 | (0, i) => match nth gs i with | some g => g | none => 0
 | (_ + 1, _) => 0
def rOf (l : Nat) (ks : List Key) (gs : List Nat) (θ : Nat → AV) (H : Hp) : Ren := ⟨kOf l ks, gOf gs, θ, H, fun k => k ∈ ks⟩
def NmO (l : Nat) (ks : List Key) (gs : List Nat) (r : Ren) : Prop := r.κ = kOf l ks ∧ ∀ i, i < ks.length → r.γ (0, i) = gOf gs (0, i)
def Zeq (r : Ren) : Nat → List Blk → List Blk
 | _, [] => []
 | i, b :: bs => Zb7 r (0, i) b :: Zeq r (i + 1) bs
def ZlS (H : Hp) : List Key → List Blk → Hp
 | k :: ks, b :: bs => ZlS (updH H k b) ks bs
 | _, _ => H
theorem ZfE {r : Ren} {k : Key} {g : Nat} {e : TypeId} {sz : Nat} {cs : List AV} (h : ZhQ cs) : Zb7 r k ⟨g, true, e, sz, cs⟩ = ⟨r.γ k + g, true, e, sz, cs⟩ := by
 simp only [Zb7, ZcL h]
theorem Zf6 : ∀ (ks : List Key) (bs : List Blk) (H : Hp) (q : Key), q ∉ ks → ZlS H ks bs q = H q
 | [], bs, H, q, h => by cases bs <;> rfl
 | k :: ks, [], H, q, h => rfl
 | k :: ks, b :: bs, H, q, h => by
  simp only [ZlS]
  rw [Zf6 ks bs _ q (fun hm => h (Yq _ hm)), Zad _ _ (fun e => h (by rw [e]; exact Yt ..))]
theorem Zso : ∀ (ks : List Key) (bs : List Blk) (H : Hp), ks.Nodup → ∀ (j : Nat) (k : Key) (b : Blk), ks[j]? = some k → bs[j]? = some b → ZlS H ks bs k = b
 | [], bs, H, _, j, k, b, h, _ => by simp at h
 | q :: ks, [], H, _, _, _, _, _, h => by simp at h
 | q :: ks, c :: bs, H, hn, j, k, b, hk, hb => by
  simp only [ZlS]
  rw [Ya7] at hn
  cases j with
  | zero =>
   simp only [YS, Yg] at hk hb
   subst hk; subst hb
   rw [Zf6 ks bs _ _ hn.1, Zab]
  | succ j =>
   simp only [Yaz] at hk hb
   exact Zso ks bs _ hn.2 j k b hk hb
theorem Zoq {r : Ren} : ∀ (bs : List Blk) (i j : Nat), (Zeq r i bs)[j]? = (bs[j]?).map (Zb7 r (0, i + j))
 | [], i, j => by simp [Zeq]
 | b :: bs, i, 0 => by simp [Zeq]
 | b :: bs, i, j + 1 => by
  simp only [Zeq, Yaz, Zoq bs (i + 1) j, show i + 1 + j = i + (j + 1) from by omega]
theorem Zmr {P : Program} {T : Nat → Option TI} {n : Nat} {f : FuncId} {fn : Func} (rs : List ResultVar) (c : Code) {l : Nat} {xs : List AV} {H : Hp} {Post : AV → Hp → Prop} (ks : List Key) (gs : List Nat) (fx : List Nat) (θ : Nat → AV) (ys : List AV) (hs : List (Key × Blk)) (LPost : AV → List Blk → Prop)
  (hf : P.funcs[f]? = some fn) (hb : fn.body = some c) (hname : (fn.name == "runtime.NumGoroutine") = false) (hn : fn.ntmps = n) (hr : fn.results.toList = rs) (hx : xs.length ≤ n) (hT : TOk P T)
  (hks : ∀ k ∈ ks, k.1 ≤ l) (hnd : ks.Nodup) (hfx : ∀ i, i < ks.length → i ∈ fx) (hh : ∀ d, lkH hs (1, d) = Zqg) (hlv : ∀ k, (lkH hs k).live = true → k.1 = 0 ∧ k.2 < ks.length)
  (hH : ∀ i k, ks[i]? = some k → (H k).g = gOf gs (0, i) + (lkH hs (0, i)).g ∧ ((lkH hs (0, i)).live = true → H k = Zb7 (rOf l ks gs θ H) (0, i) (lkH hs (0, i))))
  (hxs : Zao (rOf l ks gs θ H) ys = xs)
  (h : ∀ C, CxOk C → C.outs = ks.length → C.fx = fx → C.l = l → C.H0 = H → C.θ = θ → C.κ = kOf l ks → C.no = (fun k => k ∈ ks) → LW P n C c (mkS (ZmF 0 ys) hs) (FQ T rs ks.length LPost))
  (hp : ∀ y b, LPost y b → b.length = ks.length ∧ (∀ x ∈ b, x.live = true) ∧ ∃ Y' bs', (∀ r, NmO l ks gs r → ren r y = Y') ∧ (∀ r, NmO l ks gs r → Zeq r 0 b = bs') ∧ Post Y' (ZlS H ks bs')) : ZcN P f l xs H Post := by
 let C : Base → Cx := fun B => ⟨l, B, kOf l ks, θ, H, ks.length, fun k => k ∈ ks, fx, fun γ => ∀ i ∈ fx, γ (0, i) = gOf gs (0, i)⟩
 have hkO : ∀ i, i < ks.length → ks[i]? = some (kOf l ks (0, i)) := fun i hi => by
  show _ = some (match nth ks i with | some k => k | none => (0, 0))
  rw [Zcp, Yc hi]
 have hlt : ∀ (i : Nat) (k : Key), ks[i]? = some k → i < ks.length := fun i k hi => by
  grind
 have hC : ∀ B, CxOk (C B) := fun B => by
  refine ⟨fun _ => rfl, fun i hi => hks _ (Ye (hkO i hi)), fun i j hi hj e => ?_, fun k hk => ?_, fun γ γ' he hg i hi => by rw [he i hi]; exact hg i hi⟩
  ·have h1 := hkO i hi
   have h2 := hkO j hj
   rw [show kOf l ks (0, i) = kOf l ks (0, j) from e] at h1
   have h3 : ks[i]? = ks[j]? := h1.trans h2.symm
   exact (List.getElem?_inj hi hnd).1 h3
  ·obtain ⟨i, hi⟩ := Yam.1 (show k ∈ ks from hk)
   grind
 refine Znk rs C (γ := gOf gs) (LPost := LPost) (ys := ys) (hs := hs) hf hb hname hn hr hx hT hC (fun B => ⟨rfl, rfl, rfl, fun i _ => rfl⟩) (fun B => hxs) (fun _ => rfl) hh (fun B k hk => ?_) (fun B i hi => ?_) (fun B γ y b H' hg hy ho _ => ?_) (fun B => h _ (hC B) rfl rfl rfl rfl rfl rfl rfl)
 ·obtain ⟨h1, h2⟩ := hlv k hk
  obtain ⟨k1, k2⟩ := k
  simp only at h1 h2
  subst h1
  exact ⟨rfl, h2, (hH k2 _ (hkO k2 h2)).2 hk⟩
 ·grind
 ·obtain ⟨hbl, hbv, Y', bs', hY, hB, hp⟩ := hp y b hy
  have hnm : NmO l ks gs ((C B).r γ) := ⟨rfl, fun i hi => hg i (hfx i hi)⟩
  have e1 := hB _ hnm
  have e2 : H' = ZlS H ks bs' := by
   funext q
   by_cases hq : q ∈ ks
   ·obtain ⟨i, hi⟩ := Yam.1 hq
    have hi' := hlt i q hi
    have hb' : b[i]? = some b[i] := Yc (by omega)
    have h1 := ho.live i _ hb' (hbv _ (Ye hb'))
    have h2 : kOf l ks (0, i) = q := by
     grind
    rw [show (C B).κ (0, i) = q from h2] at h1
    rw [h1, Zso ks bs' H hnd i q (Zb7 ((C B).r γ) (0, i) b[i]) hi]
    rw [← e1, Zoq, hb', YH]
    rfl
   ·rw [Zf6 ks bs' H q hq]
    exact ho.o q hq
  grind
theorem Zo7 {P : Program} {T : Nat → Option TI} {n : Nat} {f : FuncId} {fn : Func} (rs : List ResultVar) (c : Code) {l : Nat} {xs : List AV} {H : Hp} {Post : AV → Hp → Prop} (ks : List Key) (gs : List Nat) (fx : List Nat) (θ : Nat → AV) (ys : List AV) (hs : List (Key × Blk)) (Y : AV) (bs : List Blk) {Y' : AV} {bs' : List Blk}
  (hf : P.funcs[f]? = some fn) (hb : fn.body = some c) (hname : (fn.name == "runtime.NumGoroutine") = false) (hn : fn.ntmps = n) (hr : fn.results.toList = rs) (hx : xs.length ≤ n) (hT : TOk P T)
  (hks : ∀ k ∈ ks, k.1 ≤ l) (hnd : ks.Nodup) (hfx : ∀ i, i < ks.length → i ∈ fx) (hh : ∀ d, lkH hs (1, d) = Zqg) (hlv : ∀ k, (lkH hs k).live = true → k.1 = 0 ∧ k.2 < ks.length)
  (hH : ∀ i k, ks[i]? = some k → (H k).g = gOf gs (0, i) + (lkH hs (0, i)).g ∧ ((lkH hs (0, i)).live = true → H k = Zb7 (rOf l ks gs θ H) (0, i) (lkH hs (0, i))))
  (hxs : Zao (rOf l ks gs θ H) ys = xs) (hbl : bs.length = ks.length) (hbv : ∀ b ∈ bs, b.live = true) (hY : ∀ r, NmO l ks gs r → ren r Y = Y') (hB : ∀ r, NmO l ks gs r → Zeq r 0 bs = bs')
  (h : ∀ C, CxOk C → C.outs = ks.length → C.fx = fx → C.l = l → C.H0 = H → C.θ = θ → C.κ = kOf l ks → C.no = (fun k => k ∈ ks) → LW P n C c (mkS (ZmF 0 ys) hs) (FQ T rs ks.length (fun y b => y = Y ∧ b = bs)))
  (hp : Post Y' (ZlS H ks bs')) : ZcN P f l xs H Post := by
 exact Zmr rs c ks gs fx θ ys hs (fun y b => y = Y ∧ b = bs) hf hb hname hn hr hx hT hks hnd hfx hh hlv hH hxs h fun y b ⟨e1, e2⟩ => by subst e1; subst e2; exact ⟨hbl, hbv, Y', bs', hY, hB, hp⟩
section
variable {P : Program} {l : Nat} {r : Ren} {f : FuncId} {xs xs' : List AV} {hb hb2 : List (Key × Blk)} {x x' : AV}
theorem ZxJ (h1 : Zao r xs = xs') (h2 : ren r x = x') (h : ∀ H', (∀ p ∈ hb, (H' (r.κ p.1)).g = r.γ p.1 + p.2.g ∧ (p.2.live = true → H' (r.κ p.1) = Zb7 r p.1 p.2)) → (∀ k : Key, k.1 ≤ l → ¬ r.no k → H' k = r.H0 k) → ZcN P f (l + 1) xs' H' (fun y H'' => y = x' ∧ H'' = Zeg r hb2 H')) :
  ZkQ P l r f xs hb x hb2 [] := fun H' hb ho => by
 rw [h1]
 exact (h H' hb ho).mono fun y H'' ⟨e1, e2⟩ => ⟨r.γ, fun _ _ => rfl, by rw [e1, ← h2], e2⟩
end
theorem Zmo {r : Ren} {k : Key} {vs : List AV} (h : (Zao r vs).all (AV.low (r.κ k).1) = true) : ZFH r k vs := h
theorem ZeA {r : Ren} {k : Key} (ds : List D) : ZFH r k (ds.map .d) := by
 unfold ZFH
 rw [Zhg]
 refine Yp.2 fun x hx => ?_
 obtain ⟨d, _, rfl⟩ := Yy.1 hx
 rfl
theorem Zpp {α : Type} (e : α → List D) (xs : List α) : ZgW (Zav e xs) := fun x hx => by
 obtain ⟨d, _, rfl⟩ := Yy.1 hx; rfl
theorem Zu8 {α : Type} {e : α → List D} {xs : List α} {off cn sz : Nat} {z : List AV} (hl : ∀ x, (e x).length = sz) (h : off + cn ≤ xs.length) :
  ZMf (Zav e xs) off cn sz z ((Zav e xs).take (off * sz) ++ (List.replicate cn z).flatten ++ (Zav e xs).drop ((off + cn) * sz)) := by
 refine ⟨?_, rfl⟩
 rw [ZcO hl]
 exact YP _ h
theorem Zv7 {α : Type} {e : α → List D} {xs : List α} {off sz : Nat} {A B : List AV} (hl : ∀ x, (e x).length = sz) (h : off ≤ xs.length) : ∃ m, ((Zav e xs).take (off * sz) ++ A ++ B).take m = Zav e (xs.take off) := by
 refine ⟨off * sz, ?_⟩
 have h1 : ((Zav e xs).take (off * sz)).length = off * sz := by
  rw [Yr, ZcO hl]
  exact Yap (YP _ h)
 rw [YN, YaJ (by omega), Ybf (by omega), ZgL hl]
def ZyW (n : Nat) : List (Key × Blk) → Bool
 | [] => true
 | (k, _) :: r => Nat.beq k.1 0 && Nat.ble (k.2 + 1) n && ZyW n r
theorem ZtY {n : Nat} : ∀ {hs : List (Key × Blk)}, ZyW n hs = true → ∀ k, (lkH hs k).live = true → k.1 = 0 ∧ k.2 < n
 | [], _, k, h => by simp [lkH, Zqg] at h
 | (q, b) :: r, hi, k, h => by
  simp only [ZyW, Yd] at hi
  simp only [lkH] at h
  split at h
  ·rename_i hq
   have hq := Zbz.1 hq
   subst hq
   exact ⟨Yb hi.1.1, Yh hi.1.2⟩
  ·exact ZtY hi.2 k h
theorem Zko {n : Nat} : ∀ {hs : List (Key × Blk)}, ZyW n hs = true → ∀ d, lkH hs (1, d) = Zqg
 | [], _, d => rfl
 | (q, b) :: r, hi, d => by
  simp only [ZyW, Yd] at hi
  simp only [lkH]
  split
  ·rename_i hq
   have hq := Zbz.1 hq
   subst hq
   have := Yb hi.1.1
   grind
  ·exact Zko hi.2 d
def HOk (H : Hp) (r : Ren) (hs : List (Key × Blk)) : Nat → List Key → Prop
 | _, [] => True
 | i, k :: ks => ((H k).g = r.γ (0, i) + (lkH hs (0, i)).g ∧ ((lkH hs (0, i)).live = true → H k = Zb7 r (0, i) (lkH hs (0, i)))) ∧ HOk H r hs (i + 1) ks
theorem ZzQ {H : Hp} {r : Ren} {hs : List (Key × Blk)} : ∀ {ks : List Key} {i : Nat}, HOk H r hs i ks → ∀ j k, ks[j]? = some k → (H k).g = r.γ (0, i + j) + (lkH hs (0, i + j)).g ∧ ((lkH hs (0, i + j)).live = true → H k = Zb7 r (0, i + j) (lkH hs (0, i + j)))
 | [], i, _, j, k, h => by simp at h
 | q :: ks, i, h, 0, k, hk => by
  simp only [YS, Yg] at hk
  subst hk
  exact h.1
 | q :: ks, i, h, j + 1, k, hk => by
  have := ZzQ h.2 j k (by simpa using hk)
  grind
def ZDf (l : Nat) : List Key → Prop
 | [] => True
 | k :: ks => k.1 ≤ l ∧ ZDf l ks
theorem ZmG {l : Nat} : ∀ {ks : List Key}, ZDf l ks → ∀ k ∈ ks, k.1 ≤ l
 | q :: ks, h, k, hk => by
  rcases Yx.1 hk with rfl | hk
  ·exact h.1
  ·exact ZmG h.2 k hk
def Zgv : Nat → List Nat
 | 0 => []
 | n + 1 => Zgv n ++ [n]
theorem Zow : ∀ {n i : Nat}, i < n → i ∈ Zgv n
 | n + 1, i, h => by
  simp only [Zgv, YaB, Ybb]
  rcases Yw i n with h' | h'
  ·exact .inl (Zow h')
  grind
theorem ZlY {P : Program} {T : Nat → Option TI} {n : Nat} {f : FuncId} {fn : Func} (rs : List ResultVar) (c : Code) {l : Nat} {xs : List AV} {H : Hp} {Post : AV → Hp → Prop} (ks : List Key) (gs : List Nat) (os : Nat) (θ : Nat → AV) (ys : List AV) (hs : List (Key × Blk)) (Y : AV) (bs : List Blk) {Y' : AV} {bs' : List Blk}
  (hf : P.funcs[f]? = some fn) (hb : fn.body = some c) (hname : (fn.name == "runtime.NumGoroutine") = false) (hn : fn.ntmps = n) (hr : fn.results.toList = rs) (hx : xs.length ≤ n) (hT : TOk P T) (hos : ks.length = os)
  (hks : ZDf l ks) (hnd : ks.Nodup) (hin : ZyW os hs = true) (hH : HOk H (rOf l ks gs θ H) hs 0 ks) (hxs : Zao (rOf l ks gs θ H) ys = xs) (hbl : bs.length = os) (hbv : ∀ b ∈ bs, b.live = true) (hY : ∀ r, NmO l ks gs r → ren r Y = Y') (hB : ∀ r, NmO l ks gs r → Zeq r 0 bs = bs')
  (h : ∀ C, CxOk C → C.outs = os → C.fx = Zgv os → C.l = l → C.H0 = H → C.θ = θ → C.κ = kOf l ks → C.no = (fun k => k ∈ ks) → LW P n C c (mkS (ZmF 0 ys) hs) (FQ T rs os (fun y b => y = Y ∧ b = bs)))
  (hp : Post Y' (ZlS H ks bs')) : ZcN P f l xs H Post := by
 subst hos
 exact Zo7 rs c ks gs (Zgv ks.length) θ ys hs Y bs hf hb hname hn hr hx hT (ZmG hks) hnd (fun i hi => Zow hi) (Zko hin) (ZtY hin) (fun i k hk => by have := ZzQ hH i k hk; rw [YH] at this; exact this) hxs hbl hbv hY hB h hp
theorem Zpw {α : Type} {e e' : α → List D} {xs : List α} {j sz : Nat} {x : α} (hx : xs[j]? = some x) (hl : ∀ x, (e x).length = sz) (he : ∀ x, e x = e' x) : ZcF (Zav e xs) (j * sz) ((e' x).map .d) := by
 have hj : j < xs.length := by
  grind
 have := Zhu (z := x) hj hl he
 grind
theorem ZDO {P : Program} {l l1 : Nat} {no no1 : Key → Prop} {H H1 : Hp} {c : AV} {aZ : List AV} {y : AV} (h : Zfq P l no H c aZ y) (hl : l ≤ l1) (hno : ∀ q : Key, q.1 ≤ l → ¬ no q → ¬ no1 q) (hH : ∀ q : Key, q.1 ≤ l → ¬ no q → H1 q = H q) : Zfq P l1 no1 H1 c aZ y := by
 obtain ⟨f, first, caps, e, h⟩ := h
 exact ⟨f, first, caps, e, fun l' H' hl' ho => h l' H' (Yaj hl hl') fun k hk hn => by rw [ho k (Yaj hk hl) (hno k hk hn), hH k hk hn]⟩
def ZzS : Code → Operand
 | .cond o _ _ => o
 | _ => .tmp 0
def ZiS (c : Code) (k : Nat) : Option Nat := match ZfH c k with | some (d, _, _) => d | none => none
def callF (c : Code) (k : Nat) : Operand := match ZfH c k with | some (_, f, _) => f | none => .tmp 0
def ZmL (c : Code) (k : Nat) : List Operand := match ZfH c k with | some (_, _, xs) => xs | none => []
theorem Zve {P : Program} {n : Nat} {C : Cx} {Q : Exit → St → Prop} (hC : CxOk C) {os : Nat} {fx : List Nat} (hO : C.outs = os) (hF : C.fx = fx) {c : Code} {k : Nat} {ss : List (Nat × AV)} {hs : List (Key × Blk)}
  (f : FuncId) (first caps xs : List AV) (hop : ZfH c k = some (ZiS c k, callF c k, ZmL c k)) (hf : ev (lkS ss) (callF c k) = .fn (.func f) first caps) (hxs : first ++ (ZmL c k).map (ev (lkS ss)) ++ caps = xs) (ks : List Key) (hb : List (Key × Blk)) (hhb : (ks.map fun k => (k, lkH hs k)) = hb)
  (x : AV) (hb2 : List (Key × Blk)) (fr fl : List Key) (hok : (Zlh os hb2 && ZGo fr hb2 && Zj6 fr fx && Zla hs && ZrG n (ZiS c k) && ks.all (okK os)) = true) (hwr : wrL C hb2) (hfl : flL (lkH hs) fl)
  (hcall : ∀ r : Ren, r.θ = C.θ → r.H0 = C.H0 → r.κ = C.κ → r.no = C.no → ZkQ P C.l r f xs hb x hb2 fr)
  (h : LO P n C c (k + 1) (mkS (ZxM (ZiS c k) x (ZfK fr ss)) (hb2 ++ Zd8 (hb2.map (·.1)) fr fl hs)) Q) : LO P n C c k (mkS ss hs) Q :=
 ZD6 hC hO hF _ _ _ hop f first caps xs hf hxs ks hb hhb x hb2 fr fl hok hwr hfl hcall h
end Go.Eng
namespace Go.Eng
open Go
set_option linter.all false
end Go.Eng
