import Derived.Test.YthagpbkmakocjaaCn08
namespace Go.Eng
structure Raw where
 num : Int
 wire : Int
 bits : Int
 data : ByteArray
deriving Inhabited, DecidableEq
mutual
inductive Val where
 | mk (kind bits : Int) (text : ByteArray) (list : List Val) (pairs : List Pr) (slots : List Slt) (raws : List Raw)
inductive Pr where
 | mk (key val : Val)
inductive Slt where
 | mk (num : Int) (val : Val)
end
inductive Msk where
 | mk (num : Int) (subs : List Msk)
instance : Inhabited Val := ⟨.mk 0 0 .empty [] [] [] []⟩
def Val.kind : Val → Int | .mk k _ _ _ _ _ _ => k
def Val.bits : Val → Int | .mk _ b _ _ _ _ _ => b
def Val.text : Val → ByteArray | .mk _ _ t _ _ _ _ => t
def Val.list : Val → List Val | .mk _ _ _ l _ _ _ => l
def Val.pairs : Val → List Pr | .mk _ _ _ _ p _ _ => p
def Val.slots : Val → List Slt | .mk _ _ _ _ _ s _ => s
def Val.raws : Val → List Raw | .mk _ _ _ _ _ _ r => r
def Pr.key : Pr → Val | .mk k _ => k
def Pr.val : Pr → Val | .mk _ v => v
def Slt.num : Slt → Int | .mk n _ => n
def Slt.val : Slt → Val | .mk _ v => v
def Zag (s : ByteArray) : List D := [.str s]
def Zdt (s : Int) : List D := [.int .i64 s]
def ZCg (s : Bool) : List D := [.bool s]
def ZvM (x : Raw) : List D := [.int .i64 x.num, .int .i64 x.wire, .int .u64 x.bits, .str x.data]
mutual
def ZmX : Val → List D
 | .mk k b t l p s r => [.int .i64 k, .int .u64 b, .str t, .list (ZtT l), .list (ZEH p), .list (Zuo s), .list (r.map ZvM)]
def ZtT : List Val → List (List D)
 | [] => []
 | v :: vs => ZmX v :: ZtT vs
def rPr : Pr → List D
 | .mk k v => ZmX k ++ ZmX v
def ZEH : List Pr → List (List D)
 | [] => []
 | v :: vs => rPr v :: ZEH vs
def ZrB : Slt → List D
 | .mk n v => .int .i64 n :: ZmX v
def Zuo : List Slt → List (List D)
 | [] => []
 | v :: vs => ZrB v :: Zuo vs
end
mutual
def ZHr : Msk → List D
 | .mk n s => [.int .i64 n, .list (ZBP s)]
def ZBP : List Msk → List (List D)
 | [] => []
 | v :: vs => ZHr v :: ZBP vs
end
theorem ZoG (l : List Val) : ZtT l = l.map ZmX := by induction l with | nil => rfl | cons v l ih => simp [ZtT, ih]
theorem ZsQ (l : List Pr) : ZEH l = l.map rPr := by induction l with | nil => rfl | cons v l ih => simp [ZEH, ih]
theorem ZpV (l : List Slt) : Zuo l = l.map ZrB := by induction l with | nil => rfl | cons v l ih => simp [Zuo, ih]
def Zyd (x : Val) : List D := [.int .i64 x.kind, .int .u64 x.bits, .str x.text, .list (x.list.map ZmX), .list (x.pairs.map rPr), .list (x.slots.map ZrB), .list (x.raws.map ZvM)]
def ePr (x : Pr) : List D := [.int .i64 x.key.kind, .int .u64 x.key.bits, .str x.key.text, .list (x.key.list.map ZmX), .list (x.key.pairs.map rPr), .list (x.key.slots.map ZrB), .list (x.key.raws.map ZvM), .int .i64 x.val.kind, .int .u64 x.val.bits, .str x.val.text, .list (x.val.list.map ZmX), .list (x.val.pairs.map rPr), .list (x.val.slots.map ZrB), .list (x.val.raws.map ZvM)]
def ZFG (x : Slt) : List D := [.int .i64 x.num, .int .i64 x.val.kind, .int .u64 x.val.bits, .str x.val.text, .list (x.val.list.map ZmX), .list (x.val.pairs.map rPr), .list (x.val.slots.map ZrB), .list (x.val.raws.map ZvM)]
theorem Zis (v : Val) : ZmX v = Zyd v := by
 cases v; simp [ZmX, Zyd, ZoG, ZsQ, ZpV, Val.kind, Val.bits, Val.text, Val.list, Val.pairs, Val.slots, Val.raws]
theorem Zvw (v : Pr) : rPr v = ePr v := by cases v; simp [rPr, Zis, Zyd, ePr, Pr.key, Pr.val]
theorem ZpF (v : Slt) : ZrB v = ZFG v := by cases v; simp [ZrB, Zis, Zyd, ZFG, Slt.num, Slt.val]
structure Typ where
 kind : Int
 name : ByteArray
deriving Inhabited, DecidableEq
def ZHT (x : Typ) : List D := [.int .i64 x.kind, .str x.name]
structure Nt where
 name : ByteArray
 val : Val
deriving Inhabited
def eNt (x : Nt) : List D := [.str x.name, .int .i64 x.val.kind, .int .u64 x.val.bits, .str x.val.text, .list (x.val.list.map ZmX), .list (x.val.pairs.map rPr), .list (x.val.slots.map ZrB), .list (x.val.raws.map ZvM)]
structure Fld where
 num : Int
 name : ByteArray
 card : Int
 key : Int
 type : Typ
 union : ByteArray
 hasDefault : Bool
 dflt : Val
 notes : List Nt
deriving Inhabited
def ZeY (x : Fld) : List D := [.int .i64 x.num, .str x.name, .int .i64 x.card, .int .i64 x.key, .int .i64 x.type.kind, .str x.type.name, .str x.union, .bool x.hasDefault, .int .i64 x.dflt.kind, .int .u64 x.dflt.bits, .str x.dflt.text, .list (x.dflt.list.map ZmX), .list (x.dflt.pairs.map rPr), .list (x.dflt.slots.map ZrB), .list (x.dflt.raws.map ZvM), .list (x.notes.map eNt)]
structure Spn where
 lo : Int
 hi : Int
deriving Inhabited, DecidableEq
def ZpL (x : Spn) : List D := [.int .i64 x.lo, .int .i64 x.hi]
structure Msg where
 name : ByteArray
 fields : List Fld
 reserved : List Spn
 gone : List ByteArray
 notes : List Nt
deriving Inhabited
def Zap (x : Msg) : List D := [.str x.name, .list (x.fields.map ZeY), .list (x.reserved.map ZpL), .list (x.gone.map Zag), .list (x.notes.map eNt)]
structure Itm where
 name : ByteArray
 num : Int
 notes : List Nt
deriving Inhabited
def Zol (x : Itm) : List D := [.str x.name, .int .i64 x.num, .list (x.notes.map eNt)]
structure Enm where
 name : ByteArray
 opn : Bool
 items : List Itm
 reserved : List Spn
 notes : List Nt
deriving Inhabited
def Zam (x : Enm) : List D := [.str x.name, .bool x.opn, .list (x.items.map Zol), .list (x.reserved.map ZpL), .list (x.notes.map eNt)]
structure Mth where
 name : ByteArray
 inn : ByteArray
 out : ByteArray
 shape : Int
 notes : List Nt
deriving Inhabited
def ZgX (x : Mth) : List D := [.str x.name, .str x.inn, .str x.out, .int .i64 x.shape, .list (x.notes.map eNt)]
structure Svc where
 name : ByteArray
 methods : List Mth
 notes : List Nt
deriving Inhabited
def Zaq (x : Svc) : List D := [.str x.name, .list (x.methods.map ZgX), .list (x.notes.map eNt)]
structure Scm where
 messages : List Msg
 enums : List Enm
 services : List Svc
deriving Inhabited
def ZID (x : Scm) : List D := [.list (x.messages.map Zap), .list (x.enums.map Zam), .list (x.services.map Zaq)]
structure Fil where
 name : ByteArray
 space : ByteArray
 imports : List ByteArray
 messages : List Msg
 enums : List Enm
 services : List Svc
deriving Inhabited
def Zas (x : Fil) : List D := [.str x.name, .str x.space, .list (x.imports.map Zag), .list (x.messages.map Zap), .list (x.enums.map Zam), .list (x.services.map Zaq)]
structure Prb where
 dfn : ByteArray
 num : Int
 err : Int
deriving Inhabited, DecidableEq
structure Stp where
 num : Int
 pos : Int
 hasKey : Bool
 key : Val
deriving Inhabited
structure Edt where
 path : List Stp
 kind : Int
 val : Val
deriving Inhabited
structure Lnk where
 files : List Fil
 f : Fil
 known : List ByteArray
 messages : List ByteArray
 enums : List Enm
deriving Inhabited
def ZbR (x : List ByteArray) : List D := [.list (x.map Zag)]
def ZHH : Val := .mk 0 0 ⟨#[]⟩ [] [] [] []
def ZHQ : Typ := ⟨0, ⟨#[]⟩⟩
def ZH7 : Fld := ⟨0, ⟨#[]⟩, 0, 0, ZHQ, ⟨#[]⟩, false, ZHH, []⟩
def ZHW : Msg := ⟨⟨#[]⟩, [], [], [], []⟩
def ZIL : Itm := ⟨⟨#[]⟩, 0, []⟩
def ZHZ : Enm := ⟨⟨#[]⟩, false, [], [], []⟩
def ZH1 : Mth := ⟨⟨#[]⟩, ⟨#[]⟩, ⟨#[]⟩, 0, []⟩
def ZIB : Svc := ⟨⟨#[]⟩, [], []⟩
def ZiG : Fil := ⟨⟨#[]⟩, ⟨#[]⟩, [], [], [], []⟩
end Go.Eng
namespace Go.Eng
set_option linter.all false
open Go Go.RowKit
def cAt : List Nat → Code → Code
 | [], c => c
 | 0 :: p, .seq a _ => cAt p a
 | _ :: p, .seq _ b => cAt p b
 | 0 :: p, .cond _ a _ => cAt p a
 | _ :: p, .cond _ _ b => cAt p b
 | _ :: p, .block _ c => cAt p c
 | _ :: p, .loop c => cAt p c
 | _ :: p, .scope c => cAt p c
 | _, c => c
def Zai (f : Func) : Code := f.body.getD .skip
def Zaa {α : Type} (e : α → List D) (xs : List α) : List AV := ((xs.map e).flatten).map .d
theorem Zaj {α : Type} (e : α → List D) (xs : List α) : Zit (Zaa e xs) := fun x hx => by
 obtain ⟨d, _, rfl⟩ := List.mem_map.1 hx; rfl
theorem ZcB {α : Type} {e : α → List D} {sz : Nat} (he : ∀ x, (e x).length = sz) (xs : List α) : (Zaa e xs).length = xs.length * sz := by
 unfold Zaa
 induction xs with
 | nil => simp
 | cons x xs ih => simp only [List.length_map, List.map_cons, List.flatten_cons, List.length_append, he, List.length_cons, Nat.add_mul] at ih ⊢; omega
theorem ZfD {α : Type} (e : α → List D) (xs ys : List α) : Zaa e (xs ++ ys) = Zaa e xs ++ Zaa e ys := by simp [Zaa]
section
variable {P : Program} {n : Nat} {C : Cx} {τ : St} {Q : Exit → St → Prop}
theorem Zra {c : Code} (id : Nat) (x : Code) (hc : c = .block id x) (h : LW P n C x τ (fun e τ' => match e with | .exit i => (match Nat.beq i id with | true => Q .normal τ' | false => Q (.exit i) τ') | e => Q e τ')) : LW P n C c τ Q := hc ▸ ZsE (h.mono fun e τ' hq => by
 cases e with
 | exit i =>
  simp only at hq ⊢
  split at hq
  ·rename_i he; rw [if_pos (Nat.eq_of_beq_eq_true he)]; exact hq
  ·rename_i he; rw [if_neg (by rintro rfl; simp at he)]; exact hq
 | _ => exact hq)
end
theorem ZnI {P : Program} {T : Nat → Option TI} {n : Nat} {f : FuncId} {fn : Func} (rs : List ResultVar) (c : Code) {l : Nat} {xs : List AV} {H : Hp} {Post : AV → Hp → Prop} (θ : Nat → AV) (ys : List AV)
  (hf : P.funcs[f]? = some fn) (hb : fn.body = some c) (hname : (fn.name == "runtime.NumGoroutine") = false) (hn : fn.ntmps = n) (hr : fn.results.toList = rs) (hx : xs.length ≤ n) (hT : TOk P T)
  (hxs : Zav ⟨fun k => (l + 1, k.2), fun _ => 0, θ, H, fun _ => False⟩ ys = xs) (h : ∀ B : Base, LW P n (cxP l θ H B) c (mkS (Zom 0 ys) []) (FQ T rs 0 (fun y _ => Post y H))) : Zcu P f l xs H Post :=
 ZlZ rs (cxP l θ H) (γ := fun _ => 0) (LPost := fun y _ => Post y H) hf hb hname hn hr hx hT (fun B => Zkc l B θ H) (fun B => ⟨rfl, rfl, rfl, trivial⟩) (fun B => hxs) (fun _ => rfl) (fun _ => rfl) (fun B k hk => by simp [lkH, Zqk] at hk) (fun B i hi => absurd hi (Nat.not_lt_zero _))
  (fun B γ y bs H' _ hp ho hy => by rw [hy rfl, Zsw ho]; exact hp) h
theorem Zyy {α : Type} (e : α → List D) (xs : List α) : EqI ((xs.map e).length : Nat) xs.length := by simp [EqI]
theorem ZpT {α : Type} {e e' : α → List D} {xs : List α} {i : Nat} {x : α} (hx : xs[i]? = some x) (he : ∀ x, e x = e' x) : ZvY (xs.map e) (i : Nat) (e' x) := ⟨by omega, by simp [hx, he]⟩
theorem Zwj {α : Type} {e e' : α → List D} {xs : List α} {i : Nat} {z : α} (hi : i < xs.length) (he : ∀ x, e x = e' x) : ZvY (xs.map e) (i : Nat) (e' (xs.getD i z)) := by
 refine ZpT ?_ he
 rw [List.getD_eq_getElem?_getD, List.getElem?_eq_getElem hi]; rfl
theorem ZpN {a r : Int} (h : a = r) (h1 : -9223372036854775808 ≤ r) (h2 : r < 9223372036854775808) : ZcP .i64 a r := by
 subst h; exact IntWalk.i64_in _ ⟨h1, by omega⟩
theorem ZFW {i len sz : Nat} (h : i < len) : ZBc (i : Nat) len 0 sz (i * sz) := ⟨by omega, by omega, by simp⟩
theorem Zt5 {sz : Nat} {e : List D} (C : List AV) (he : e.length = sz) : ZnH sz C (.d (.list [e])) 1 (e.map .d) := by
 refine ⟨List.all_eq_true.2 fun x hx => ?_, fun q hq => ?_, rfl, by simp⟩
 ·obtain ⟨d, _, rfl⟩ := List.mem_map.1 hx; rfl
 ·simp at hq; subst hq; exact he
theorem Zkb {α : Type} {sz : Nat} {e : α → List D} (C : List AV) (xs : List α) (he : ∀ x, (e x).length = sz) : ZnH sz C (.d (.list (xs.map e))) xs.length (Zaa e xs) := by
 refine ⟨List.all_eq_true.2 fun x hx => ?_, fun q hq => ?_, by simp, rfl⟩
 ·obtain ⟨d, _, rfl⟩ := List.mem_map.1 hx; rfl
 ·obtain ⟨x, _, rfl⟩ := List.mem_map.1 hq; exact he x
theorem ZtH {α : Type} {sz : Nat} {e : α → List D} (k : Key) (g : Nat) (xs : List α) (he : ∀ x, (e x).length = sz) : ZnH sz (Zaa e xs) (.ref k g 0 xs.length) xs.length (Zaa e xs) := by
 refine ⟨List.all_eq_true.2 fun x hx => ?_, rfl, by rw [ZcB he]; simp, by rw [Nat.zero_mul, List.drop_zero, ← ZcB he xs, List.take_length]⟩
 obtain ⟨d, _, rfl⟩ := List.mem_map.1 hx; rfl
theorem Zty {α : Type} {sz byt : Nat} {e : α → List D} (xs ys : List α) {n' : Nat} (he : ∀ x, (e x).length = sz) (hn : xs.length + ys.length = n') (hb : n' * byt ≤ 140737488355328) :
  ZA2 (Zaa e xs) 0 xs.length ys.length sz byt (Zaa e ys) (Zaa e (xs ++ ys)) n' :=
 ⟨by rw [ZcB he, Nat.zero_add], by rw [Nat.zero_mul, List.drop_zero, ZfD], hn, hb⟩
theorem ZrN {α : Type} (e : α → List D) (x : α) : Zaa e [x] = (e x).map .d := by simp [Zaa]
theorem Zku {α : Type} {sz : Nat} {e : α → List D} (xs : List α) (hz : sz ≠ 0) (he : ∀ x, (e x).length = sz) : FzR (Zaa e xs) 0 xs.length sz (xs.map e) :=
 ⟨by simp, hz, fun q hq => by obtain ⟨x, _, rfl⟩ := List.mem_map.1 hq; exact he x, by rw [ZcB he]; simp, by rw [Nat.zero_mul, List.drop_zero, ← ZcB he xs, List.take_length]; rfl⟩
theorem Zlt {α : Type} {e e' : α → List D} {xs : List α} {i : Int} {z : α} (h0 : 0 ≤ i) (hi : i < xs.length) (he : ∀ x, e x = e' x) : ZvY (xs.map e) i (e' (xs.getD i.toNat z)) := by
 have h := Zwj (e := e) (e' := e') (xs := xs) (i := i.toNat) (z := z) (by omega) he
 rwa [Int.toNat_of_nonneg h0] at h
theorem ZEW (s : ByteArray) : s.data.toList.length = s.size := by simp
theorem ZAu {s : ByteArray} {i : Nat} {x : UInt8} (h : s.data.toList[i]? = some x) : ZA5 s (i : Nat) (x.toNat : Nat) := ⟨by omega, x, by simpa using h, rfl⟩
theorem ZxW {s : ByteArray} {i : Nat} (h : i < s.size) : ZA5 s (i : Nat) ((s.data.toList.getD i 0).toNat : Nat) := by
 refine ZAu ?_
 rw [List.getD_eq_getElem?_getD, List.getElem?_eq_getElem (by rw [ZEW]; exact h)]; rfl
theorem ZgB {α : Type} {sz byt c : Nat} {e : α → List D} {news : List AV} (xs ys : List α) (he : ∀ x, (e x).length = sz) (hc : ys.length = c) (hn : news = Zaa e ys) (hb : (xs.length + ys.length) * byt ≤ 140737488355328) :
  ZA2 (Zaa e xs) 0 xs.length c sz byt news (Zaa e (xs ++ ys)) (xs ++ ys).length := by
 subst hc; subst hn
 exact Zty xs ys he (by rw [List.length_append]) (by rw [List.length_append]; exact hb)
section
variable {P : Program} {l : Nat} {r : Ren} {f : FuncId} {xs xs' : List AV} {hb : List (Key × Blk)} {x x' : AV}
def ZiH (P : Program) (l : Nat) (no : Key → Prop) (H : Hp) (c : AV) (as : List AV) (y : AV) : Prop :=
 ∃ f first caps, c = .fn (.func f) first caps ∧ ∀ l' H', l ≤ l' → (∀ k : Key, k.1 ≤ l → ¬ no k → H' k = H k) → Zcu P f l' (first ++ as ++ caps) H' (fun y' H'' => y' = y ∧ H'' = H')
theorem Zt9 {i : Nat} {c : AV} (hθ : r.θ i = c) (h : ZiH P l r.no r.H0 c xs' x') (h1 : Zav r xs = xs') (h2 : ren r x = x') : ZnU P l r i xs hb x := by
 obtain ⟨f, first, caps, rfl, h⟩ := h
 exact ⟨f, first, caps, hθ, fun H' _ ho => by rw [h1, h2]; exact h (l + 1) H' (Nat.le_succ l) ho⟩
theorem ZtE {H : Hp} {no : Key → Prop} {as : List AV} {y : AV} (h : ∀ l' H', Zcu P f l' as H' (fun y' H'' => y' = y ∧ H'' = H')) : ZiH P l no H (.fn (.func f) [] []) as y :=
 ⟨f, [], [], rfl, fun l' H' _ _ => by simpa using h l' H'⟩
end
section
variable {P : Program} {T : Nat → Option TI} {n : Nat} {C : Cx} {τ : St} {Q : Exit → St → Prop}
theorem ZyQ (hC : CxOk C) (hT : TOk P T) (hm : P.follows .mixedOrders = true) {os : Nat} {fx : List Nat} (hO : C.outs = os) (hF : C.fx = fx) {c : Code} (a : AT) (lf lx : Lf) (rs : List ResultVar) {Post : AV → List Blk → Prop} (q : Ren → (Exit → St → Prop) → (AV → List Blk → Prop) → Prop)
  (hq : ∀ r Q Post, Zc2 P T C.l n os r c a τ (KB T rs os fx r Post lf lx Q) = q r Q Post) (hQ : ∀ τ, FQ T rs os Post .ret τ → Q .ret τ) (h : ∀ r, r.θ = C.θ → r.H0 = C.H0 → r.κ = C.κ → r.no = C.no → q r Q Post) : LW P n C c τ Q :=
 ZBg hC hT hm a lf lx (by rw [hO]; exact hQ) (fun γ => by rw [hO, hF, hq]; exact h _ rfl rfl rfl rfl)
theorem ZwS (hC : CxOk C) (hT : TOk P T) (hm : P.follows .mixedOrders = true) {os : Nat} (hO : C.outs = os) {c : Code} (a : AT) (rs : List ResultVar) {Post : AV → List Blk → Prop} (q : Ren → (AV → List Blk → Prop) → Prop)
  (hq : ∀ r Post, Zc2 P T C.l n os r c a τ (KF T rs os Post) = q r Post) (h : ∀ r, r.θ = C.θ → r.H0 = C.H0 → r.κ = C.κ → r.no = C.no → q r Post) : LW P n C c τ (FQ T rs os Post) := by
 subst hO
 exact ZBW hC hT hm a (fun γ => by rw [hq]; exact h _ rfl rfl rfl rfl)
mutual
theorem Zu7 {H : Hp} : ∀ (x : AV) {a : AT} {K K' : AV → AT → Prop}, (∀ y a, K y a → K' y a) → frz H x a K → frz H x a K'
 | .d x, a, K, K', hk, h => hk _ _ h
 | .e0, a, K, K', hk, h => hk _ _ h
 | .agg xs, a, K, K', hk, h => ZiW xs (fun ys a h => hk _ _ h) h
 | .ref k g off m, a, K, K', hk, h => by
  unfold frz at h ⊢
  split at h
  ·exact hk _ _ h
  ·split at h
   ·exact ⟨h.1, hk _ _ h.2⟩
   ·exact h.elim
  ·exact h.elim
 | .top, a, K, K', hk, h => by simp only [frz] at h
 | .p _, a, K, K', hk, h => by simp only [frz] at h
 | .ptr _ _ _, a, K, K', hk, h => by simp only [frz] at h
 | .iptr _ _, a, K, K', hk, h => by simp only [frz] at h
 | .fn _ _ _, a, K, K', hk, h => by simp only [frz] at h
 | .tup _, a, K, K', hk, h => by simp only [frz] at h
theorem ZiW {H : Hp} : ∀ (xs : List AV) {a : AT} {K K' : List AV → AT → Prop}, (∀ y a, K y a → K' y a) → ZvD H xs a K → ZvD H xs a K'
 | [], a, K, K', hk, h => hk _ _ h
 | x :: xs, a, K, K', hk, h => by
  simp only [ZvD] at h ⊢
  exact Zu7 x (fun y a h => ZiW xs (fun ys a h => hk _ _ h) h) h
end
end
end Go.Eng
namespace Go.Eng
set_option linter.all false
open Go Go.RowKit
theorem ZbT {α : Type} (e : α → List D) (x : α) (xs : List α) : Zaa e (x :: xs) = (e x).map .d ++ Zaa e xs := by simp [Zaa]
theorem Zdz {α : Type} {e : α → List D} {sz : Nat} (hl : ∀ x, (e x).length = sz) : ∀ (xs : List α) (j : Nat), (Zaa e xs).drop (j * sz) = Zaa e (xs.drop j)
 | [], j => by simp [Zaa]
 | x :: xs, 0 => by simp
 | x :: xs, j + 1 => by
  have h1 : ((e x).map AV.d).length = sz := by rw [List.length_map, hl]
  rw [ZbT, Nat.add_mul, Nat.one_mul, Nat.add_comm, ← List.drop_drop, List.drop_left' h1, Zdz hl xs j]
  rfl
theorem ZjC {α : Type} {e : α → List D} {sz : Nat} (hl : ∀ x, (e x).length = sz) : ∀ (xs : List α) (j : Nat), (Zaa e xs).take (j * sz) = Zaa e (xs.take j)
 | [], j => by simp [Zaa]
 | x :: xs, 0 => by simp [Zaa]
 | x :: xs, j + 1 => by
  have h1 : ((e x).map AV.d).length = sz := by rw [List.length_map, hl]
  rw [ZbT, List.take_succ_cons, ZbT, Nat.add_mul, Nat.one_mul, Nat.add_comm, List.take_append, h1, Nat.add_sub_cancel_left, ZjC hl xs j, List.take_of_length_le (by omega)]
theorem ZqG {α : Type} {xs : List α} {j : Nat} {z : α} (hj : j < xs.length) : xs.drop j = xs.getD j z :: xs.drop (j + 1) := by
 rw [List.drop_eq_getElem_cons hj, List.getD_eq_getElem?_getD, List.getElem?_eq_getElem hj]; rfl
theorem Zgy {α : Type} {e e' : α → List D} {xs : List α} {j sz : Nat} {z : α} (hj : j < xs.length) (hl : ∀ x, (e x).length = sz) (he : ∀ x, e x = e' x) : Zb2 (Zaa e xs) (j * sz) ((e' (xs.getD j z)).map .d) := by
 unfold Zb2
 rw [Zdz hl, ZqG (z := z) hj, ZbT, he, List.take_left]
theorem ZiI {α : Type} {e e' : α → List D} {xs : List α} {j sz o : Nat} {z : α} {c : List AV} (hj : j < xs.length) (hl : ∀ x, (e x).length = sz) (he : ∀ x, e x = e' x)
  (hc : (((e' (xs.getD j z)).map .d).drop o).take c.length = c) (ho : o + c.length ≤ sz) : Zb2 (Zaa e xs) (j * sz + o) c := by
 unfold Zb2
 have h1 : ((e' (xs.getD j z)).map AV.d).length = sz := by rw [List.length_map, ← he, hl]
 rw [← List.drop_drop, Zdz hl, ZqG (z := z) hj, ZbT, he, List.drop_append_of_le_length (by omega), List.take_append_of_le_length (by rw [List.length_drop]; omega), hc]
theorem ZzG {α : Type} {e : α → List D} {xs : List α} {j sz : Nat} {y : α} (hj : j < xs.length) (hl : ∀ x, (e x).length = sz) : StS (Zaa e xs) (j * sz) ((e y).map .d) (Zaa e (xs.set j y)) := by
 have h1 : ((e y).map AV.d).length = sz := by rw [List.length_map, hl]
 have h2 : (j + 1) * sz ≤ xs.length * sz := Nat.mul_le_mul_right _ hj
 rw [Nat.add_mul, Nat.one_mul] at h2
 refine ⟨by rw [h1, ZcB hl]; omega, ?_⟩
 rw [h1, ZjC hl, show j * sz + sz = (j + 1) * sz from by rw [Nat.add_mul, Nat.one_mul], Zdz hl, List.set_eq_take_append_cons_drop, if_pos hj, ZfD, ZbT, List.append_assoc]
end Go.Eng
namespace Go.Eng
set_option linter.all false
open Go Go.RowKit
def Zd5 (r : Ren) : List (Key × Blk) → Hp → Hp
 | [], H => H
 | (k, b) :: rest, H => Zd5 r rest (updH H (r.κ k) (ZbQ r k b))
def ZpU (P : Program) (l : Nat) (r : Ren) (f : FuncId) (xs : List AV) (hb : List (Key × Blk)) (x : AV) (hb2 : List (Key × Blk)) (fr : List Key) : Prop :=
 ∀ H', (∀ p ∈ hb, (H' (r.κ p.1)).g = r.γ p.1 + p.2.g ∧ (p.2.live = true → H' (r.κ p.1) = ZbQ r p.1 p.2)) → (∀ k : Key, k.1 ≤ l → ¬ r.no k → H' k = r.H0 k) →
  Zcu P f (l + 1) (Zav r xs) H' (fun y H'' => ∃ γ' : Key → Nat, (∀ k, k ∉ fr → γ' k = r.γ k) ∧ y = ren ⟨r.κ, γ', r.θ, r.H0, r.no⟩ x ∧ H'' = Zd5 ⟨r.κ, γ', r.θ, r.H0, r.no⟩ hb2 H')
mutual
def Zew (fr : List Key) : AV → Bool
 | .ref k _ _ _ => fr.any (Zep k)
 | .ptr k _ _ => fr.any (Zep k)
 | .fn _ xs ys => Zdh fr xs || Zdh fr ys
 | .agg xs => Zdh fr xs
 | .tup xs => Zdh fr xs
 | .top => false
 | .d _ => false
 | .e0 => false
 | .p _ => false
 | .iptr _ _ => false
def Zdh (fr : List Key) : List AV → Bool
 | [] => false
 | x :: xs => Zew fr x || Zdh fr xs
end
def Zft (fr : List Key) : List (Nat × AV) → List (Nat × AV)
 | [] => []
 | (j, x) :: r => (j, match Zew fr x with | true => .top | false => x) :: Zft fr r
def ZdA (ks fr fl : List Key) : List (Key × Blk) → List (Key × Blk)
 | [] => []
 | (k, b) :: r => match ks.any (Zep k), fl.any (Zep k) || !Zdh fr b.cells with
  | false, true => (k, b) :: ZdA ks fr fl r
  | _, _ => ZdA (k :: ks) fr fl r
def Zxd : Option Nat → AV → List (Nat × AV) → List (Nat × AV)
 | some d, x, r => (d, x) :: r
 | none, _, r => r
def okK (os : Nat) (k : Key) : Bool := Nat.beq k.1 1 || (Nat.beq k.1 0 && Nat.ble (k.2 + 1) os)
def ZvU (os : Nat) : List (Key × Blk) → Bool
 | [] => true
 | (k, b) :: r => okK os k && b.live && !(r.any fun p => Zep k p.1) && ZvU os r
mutual
theorem ZhH {r : Ren} {γ' : Key → Nat} {fr : List Key} (hγ : ∀ k, k ∉ fr → γ' k = r.γ k) : ∀ (x : AV), Zew fr x = false → ren ⟨r.κ, γ', r.θ, r.H0, r.no⟩ x = ren r x
 | .ref k g off n, h => by simp only [Zew] at h; simp only [ren]; rw [hγ k (Zkw h)]
 | .ptr k g off, h => by simp only [Zew] at h; simp only [ren]; rw [hγ k (Zkw h)]
 | .fn f xs ys, h => by
  simp only [Zew, Bool.or_eq_false_iff] at h
  have e1 := Zcl hγ xs h.1
  have e2 := Zcl hγ ys h.2
  cases f <;> simp only [ren, e1, e2]
 | .agg xs, h => by simp only [Zew] at h; simp only [ren, Zcl hγ xs h]
 | .tup xs, h => by simp only [Zew] at h; simp only [ren, Zcl hγ xs h]
 | .top, _ => by simp [ren]
 | .d _, _ => by simp [ren]
 | .e0, _ => by simp [ren]
 | .p _, _ => by simp [ren]
 | .iptr _ _, _ => by simp [ren]
theorem Zcl {r : Ren} {γ' : Key → Nat} {fr : List Key} (hγ : ∀ k, k ∉ fr → γ' k = r.γ k) : ∀ (xs : List AV), Zdh fr xs = false → Zav ⟨r.κ, γ', r.θ, r.H0, r.no⟩ xs = Zav r xs
 | [], _ => by simp [Zav]
 | x :: xs, h => by
  simp only [Zdh, Bool.or_eq_false_iff] at h
  simp only [Zav, ZhH hγ x h.1, Zcl hγ xs h.2]
theorem Zkw {k : Key} {fr : List Key} (h : fr.any (Zep k) = false) : k ∉ fr := fun hm => by
 have : fr.any (Zep k) = true := List.any_eq_true.2 ⟨k, hm, Zbv.2 rfl⟩
 rw [this] at h; cases h
end
def ZcJ : Code → Array Oper
 | .region _ ops _ => ops
 | _ => #[]
def ZDC : Code → Bool
 | .region _ _ false => true
 | _ => false
def ZiZ {α : Type} : Nat → List α → List α
 | 0, l => l
 | _ + 1, [] => []
 | n + 1, _ :: l => ZiZ n l
def ZmY {α : Type} : Nat → List α → List α
 | 0, _ => []
 | _ + 1, [] => []
 | n + 1, x :: l => x :: ZmY n l
theorem Zid {α : Type} : ∀ (n : Nat) (l : List α), ZiZ n l = l.drop n
 | 0, l => rfl
 | n + 1, [] => rfl
 | n + 1, x :: l => Zid n l
theorem Zmk {α : Type} : ∀ (n : Nat) (l : List α), ZmY n l = l.take n
 | 0, l => rfl
 | n + 1, [] => rfl
 | n + 1, x :: l => by rw [ZmY, Zmk n l]; rfl
def LO (P : Program) (n : Nat) (C : Cx) (c : Code) (k : Nat) (τ : St) (Q : Exit → St → Prop) : Prop :=
 ∀ γ σ act w, C.G γ → RG (C.r γ) C.l C.outs [] τ σ → R C.l n C.B σ act w → wpList P (ZcJ c) (fun e a' w' => ∃ σ', Is n C (Q e) σ' ∧ R C.l n C.B σ' a' w') ((ZcJ c).toList.drop k) act w
def Zf2 (c : Code) (k : Nat) : Option (Option Nat × Operand × List Operand) :=
 match nth (ZcJ c).toList k with
 | some o => (match o.guard, o.op with
  | none, .call cl => (match cl.callee with | .value f => some (o.dst, f, cl.args.toList) | _ => none)
  | _, _ => none)
 | none => none
def wrL (C : Cx) : List (Key × Blk) → Prop
 | [] => True
 | (k, _) :: r => match Nat.beq k.1 1 with | true => wrL C r | false => C.no (C.κ k) ∧ wrL C r
def flL (H : Hp) : List Key → Prop
 | [] => True
 | k :: r => Zit (H k).cells ∧ flL H r
def ZFr (fr : List Key) (hb2 : List (Key × Blk)) : Bool := fr.all fun k => hb2.any fun p => Zep k p.1
def Zq0 (fr : List Key) (fx : List Nat) : Bool := fr.all fun k => !(Nat.beq k.1 0 && fx.any (Nat.beq k.2))
def Zm2 : List (Key × Blk) → Bool
 | [] => true
 | (_, b) :: r => Nat.beq b.g 0 && Zm2 r
def ZGU : Option Nat → (Nat → AV) → AV → Nat → AV
 | some d, s, v => upd s d v
 | none, s, _ => s
def Zyn (n : Nat) : Option Nat → Bool
 | some d => Nat.ble (d + 1) n
 | none => true
section
variable {P : Program} {T : Nat → Option TI} {n : Nat} {C : Cx} {τ : St} {Q : Exit → St → Prop}
theorem ZmO {c : Code} (hc : ZDC c = true) (h : LO P n C c 0 τ Q) : LW P n C c τ Q := by
 cases c with
 | region id ops dr =>
  cases dr with
  | true => cases hc
  | false =>
   obtain ⟨opl, rfl⟩ : ∃ l : List Oper, ops = l.toArray := ⟨ops.toList, by simp⟩
   intro γ σ hg hG act w hR
   have := h γ σ act w hg hG hR
   simp only [ZcJ, List.drop_zero] at this
   exact wp_region_lit this
 | _ => cases hc
theorem ZCt (hC : CxOk C) (hT : TOk P T) {os : Nat} {fx : List Nat} (hO : C.outs = os) (hF : C.fx = fx) {c : Code} {k : Nat} (m : Nat) (a : AT) (lf : Lf) (q : Ren → (St → Prop) → Prop)
  (hq : ∀ r Φ, ZeA r os a τ (fun τ a => Zkk P T C.l n r ((ZcJ c).toList.map (·.dst)) (ZmY m (ZiZ k (ZcJ c).toList)) [] a (fun τ' env a' => ZeA r os a' (Zoh env τ') (fun τ _ => Zir fx lf τ Φ)) τ) = q r Φ)
  (h : ∀ r, r.θ = C.θ → r.H0 = C.H0 → r.κ = C.κ → r.no = C.no → q r (fun τ' => LO P n C c (k + m) τ' Q)) : LO P n C c k τ Q := by
 subst hO
 subst hF
 intro γ σ act w hg hG hR
 have h1 := h (C.r γ) rfl rfl rfl rfl
 rw [← hq] at h1
 obtain ⟨τ₁, a₁, σ₁, h2, hG1, hw1⟩ := ZaH (n := n) hC a h1 hG
 have e : (ZcJ c).toList.drop k = ZmY m (ZiZ k (ZcJ c).toList) ++ (ZcJ c).toList.drop (k + m) := by
  rw [Zmk, Zid, ← List.drop_drop, List.take_append_drop]
 rw [e]
 refine Zc5 (hC.ren γ) hT (B := C.B) _ (fun τ' env' a' σ' act' w' k1 k2 k3 => ?_) _ [] a₁ τ₁ σ₁ act w h2 hG1 (hw1 _ _ hR)
 obtain ⟨σ₂, g1, g2⟩ := Ze5 (n := n) k2
 obtain ⟨τ₃, a₃, σ₃, f1, f2, f3⟩ := ZaH (n := n) hC a' k1 g1
 obtain ⟨γ', τ₄, σ₄, j0, j1, j2, j3⟩ := Zcj (n := n) hC f1 hg f2
 exact j1 γ' σ₄ act' w' j0 j2 (j3 _ _ (f3 _ _ (g2 _ _ k3)))
theorem ZDm (hC : CxOk C) (hT : TOk P T) {os : Nat} {fx : List Nat} (hO : C.outs = os) (hF : C.fx = fx) {c : Code} {k : Nat} (a : AT) (lf : Lf) (q : Ren → (Exit → St → Prop) → Prop)
  (hq : ∀ r Φ, ZeA r os a τ (fun τ a => Zkk P T C.l n r ((ZcJ c).toList.map (·.dst)) (ZiZ k (ZcJ c).toList) [] a (fun τ' env a' => ZeA r os a' (Zoh env τ') (fun τ _ => Zir fx lf τ (Φ .normal))) τ) = q r Φ)
  (h : ∀ r, r.θ = C.θ → r.H0 = C.H0 → r.κ = C.κ → r.no = C.no → q r Q) : LO P n C c k τ Q := by
 subst hO
 subst hF
 intro γ σ act w hg hG hR
 have h1 := h (C.r γ) rfl rfl rfl rfl
 rw [← hq] at h1
 obtain ⟨τ₁, a₁, σ₁, h2, hG1, hw1⟩ := ZaH (n := n) hC a h1 hG
 have e : (ZcJ c).toList.drop k = ZiZ k (ZcJ c).toList ++ [] := by rw [Zid, List.append_nil]
 rw [e]
 refine Zc5 (hC.ren γ) hT (B := C.B) _ (fun τ' env' a' σ' act' w' k1 k2 k3 => ?_) _ [] a₁ τ₁ σ₁ act w h2 hG1 (hw1 _ _ hR)
 obtain ⟨σ₂, g1, g2⟩ := Ze5 (n := n) k2
 obtain ⟨τ₃, a₃, σ₃, f1, f2, f3⟩ := ZaH (n := n) hC a' k1 g1
 obtain ⟨γ', τ₄, σ₄, j0, j1, j2, j3⟩ := Zcj (n := n) hC f1 hg f2
 unfold wpList
 exact ⟨σ₄, ⟨γ', τ₄, σ₄, j0, j1, j2, Wk.refl _⟩, j3 _ _ (f3 _ _ (g2 _ _ k3))⟩
theorem Zfy : ∀ {hs : List (Key × Blk)}, Zm2 hs = true → ∀ k, (lkH hs k).g = 0
 | [], _, k => rfl
 | (k', b) :: r, h, k => by
  simp only [Zm2, Bool.and_eq_true] at h
  simp only [lkH]
  split
  ·exact Nat.eq_of_beq_eq_true h.1
  ·exact Zfy h.2 k
theorem Zlr {k : Key} {ks : List Key} : ks.any (Zep k) = true ↔ k ∈ ks := by
 rw [List.any_eq_true]
 exact ⟨fun ⟨q, h1, h2⟩ => by rw [Zbv.1 h2]; exact h1, fun h => ⟨k, h, Zbv.2 rfl⟩⟩
theorem ZzC (a b : List (Key × Blk)) (k : Key) : lkH (a ++ b) k = if k ∈ a.map (·.1) then lkH a k else lkH b k := by
 induction a with
 | nil => simp
 | cons p a ih =>
  obtain ⟨q, b'⟩ := p
  simp only [List.cons_append, lkH, List.map_cons, List.mem_cons]
  cases hq : Zep q k with
  | true => rw [if_pos (.inl (Zbv.1 hq).symm)]
  | false =>
   have : k ≠ q := fun e => by rw [Zbv.2 e.symm] at hq; cases hq
   simp only [this, false_or]
   exact ih
theorem Zc6 {fr fl : List Key} : ∀ (hs : List (Key × Blk)) (ks : List Key) (k : Key), (k ∈ ks → lkH (ZdA ks fr fl hs) k = Zqk) ∧ (k ∉ ks → (lkH (ZdA ks fr fl hs) k = lkH hs k ∧ (k ∈ fl ∨ Zdh fr (lkH hs k).cells = false)) ∨ lkH (ZdA ks fr fl hs) k = Zqk)
 | [], ks, k => ⟨fun _ => rfl, fun _ => .inr rfl⟩
 | (q, b) :: r, ks, k => by
  simp only [ZdA]
  split
  ·rename_i h1 h2
   have hqk : q ∉ ks := fun hm => by rw [Zlr.2 hm] at h1; cases h1
   simp only [lkH]
   cases hq : Zep q k with
   | true =>
    have hq := Zbv.1 hq
    subst hq
    refine ⟨fun h => absurd h hqk, fun _ => .inl ⟨rfl, ?_⟩⟩
    simp only [Bool.or_eq_true, Bool.not_eq_true'] at h2
    rcases h2 with h2 | h2
    ·exact .inl (Zlr.1 h2)
    ·exact .inr h2
   | false => exact Zc6 r ks k
  ·obtain ⟨h1, h2⟩ := Zc6 (fr := fr) (fl := fl) r (q :: ks) k
   refine ⟨fun h => h1 (List.mem_cons_of_mem _ h), fun h => ?_⟩
   by_cases hq : k = q
   ·exact .inr (h1 (by rw [hq]; exact List.mem_cons_self ..))
   ·rcases h2 (fun hm => (List.mem_cons.1 hm).elim hq h) with ⟨e1, e2⟩ | e
    ·have : Zep q k = false := by
      cases hb : Zep q k with
      | true => exact absurd (Zbv.1 hb).symm hq
      | false => rfl
     simp only [lkH, this]
     exact .inl ⟨e1, e2⟩
    ·exact .inr e
theorem Zdi {r : Ren} : ∀ (hb2 : List (Key × Blk)) (H : Hp) (q : Key), (∀ p ∈ hb2, r.κ p.1 ≠ q) → Zd5 r hb2 H q = H q
 | [], H, q, h => rfl
 | (k, b) :: rest, H, q, h => by
  simp only [Zd5]
  rw [Zdi rest _ q (fun p hp => h p (List.mem_cons_of_mem _ hp)), Zal _ _ (fun e => h (k, b) (List.mem_cons_self ..) e.symm)]
theorem Zmw {r : Ren} {os : Nat} (hinj : ∀ q k : Key, okK os q = true → okK os k = true → q ≠ k → r.κ q ≠ r.κ k) : ∀ (hb2 : List (Key × Blk)) (H : Hp), ZvU os hb2 = true → ∀ k b, (k, b) ∈ hb2 → Zd5 r hb2 H (r.κ k) = ZbQ r k b ∧ lkH hb2 k = b ∧ okK os k = true ∧ b.live = true
 | [], H, _, k, b, hm => by cases hm
 | (q, c) :: rest, H, hok, k, b, hm => by
  simp only [ZvU, Bool.and_eq_true, Bool.not_eq_true'] at hok
  obtain ⟨⟨⟨h1, h2⟩, h3⟩, h4⟩ := hok
  have hno : ∀ p ∈ rest, p.1 ≠ q := fun p hp e => by
   have : (rest.any fun p => Zep q p.1) = true := List.any_eq_true.2 ⟨p, hp, Zbv.2 e.symm⟩
   rw [this] at h3; cases h3
  have hoks : ∀ (l : List (Key × Blk)), ZvU os l = true → ∀ p ∈ l, okK os p.1 = true := by
   intro l
   induction l with
   | nil => intro _ p hp; cases hp
   | cons p l ih =>
    obtain ⟨p1, p2⟩ := p
    intro hl p hp
    simp only [ZvU, Bool.and_eq_true] at hl
    rcases List.mem_cons.1 hp with rfl | hp
    ·exact hl.1.1.1
    ·exact ih hl.2 p hp
  simp only [Zd5]
  rcases List.mem_cons.1 hm with e | hm
  ·cases e
   refine ⟨?_, by simp only [lkH, Zbv.2 rfl], h1, h2⟩
   rw [Zdi rest _ _ (fun p hp => hinj _ _ (hoks rest h4 p hp) h1 (hno p hp)), Zac]
  ·obtain ⟨g1, g2, g3, g4⟩ := Zmw hinj rest (updH H (r.κ q) (ZbQ r q c)) h4 k b hm
   refine ⟨g1, ?_, g3, g4⟩
   have : Zep q k = false := by
    cases hb : Zep q k with
    | true => exact absurd (Zbv.1 hb).symm (hno _ hm)
    | false => rfl
   simp only [lkH, this]
   exact g2
theorem Zo4 : ∀ {hb2 : List (Key × Blk)}, wrL C hb2 → ∀ p ∈ hb2, p.1.1 ≠ 1 → C.no (C.κ p.1)
 | (k, b) :: r, h, p, hp, hne => by
  simp only [wrL] at h
  split at h
  ·rename_i hk
   rcases List.mem_cons.1 hp with rfl | hp
   ·exact absurd (Nat.eq_of_beq_eq_true hk) hne
   ·exact Zo4 h p hp hne
  ·rcases List.mem_cons.1 hp with rfl | hp
   ·exact h.1
   ·exact Zo4 h.2 p hp hne
theorem ZpQ {H : Hp} : ∀ {ks : List Key}, flL H ks → ∀ k ∈ ks, Zit (H k).cells
 | q :: r, h, k, hk => by
  rcases List.mem_cons.1 hk with rfl | hk
  ·exact h.1
  ·exact ZpQ h.2 k hk
theorem Zfo {os : Nat} {k : Key} (h : okK os k = true) : k.1 = 1 ∨ (k.1 = 0 ∧ k.2 < os) := by
 simp only [okK, Bool.or_eq_true, Bool.and_eq_true] at h
 rcases h with h | ⟨h1, h2⟩
 ·exact .inl (Nat.eq_of_beq_eq_true h)
 ·exact .inr ⟨Nat.eq_of_beq_eq_true h1, Nat.le_of_ble_eq_true h2⟩
theorem Zmv {fr : List Key} : ∀ (ss : List (Nat × AV)) (j : Nat), lkS (Zft fr ss) j = .top ∨ (lkS (Zft fr ss) j = lkS ss j ∧ Zew fr (lkS ss j) = false)
 | [], j => .inl rfl
 | (i, x) :: r, j => by
  simp only [Zft, lkS]
  split
  ·split
   ·exact .inl rfl
   ·rename_i h; exact .inr ⟨rfl, h⟩
  ·exact Zmv r j
theorem Zwy (hC : CxOk C) {os : Nat} {fx : List Nat} (hO : C.outs = os) (hF : C.fx = fx) {c : Code} {k : Nat} {ss : List (Nat × AV)} {hs : List (Key × Blk)} (dst : Option Nat) (fo : Operand) (as : List Operand) (hop : Zf2 c k = some (dst, fo, as))
  (f : FuncId) (first caps xs : List AV) (hf : ev (lkS ss) fo = .fn (.func f) first caps) (hxs : first ++ as.map (ev (lkS ss)) ++ caps = xs) (ks : List Key) (hb : List (Key × Blk)) (hhb : (ks.map fun k => (k, lkH hs k)) = hb)
  (x : AV) (hb2 : List (Key × Blk)) (fr fl : List Key) (hok : (ZvU os hb2 && ZFr fr hb2 && Zq0 fr fx && Zm2 hs && Zyn n dst && ks.all (okK os)) = true) (hwr : wrL C hb2) (hfl : flL (lkH hs) fl)
  (hcall : ∀ r : Ren, r.θ = C.θ → r.H0 = C.H0 → r.κ = C.κ → r.no = C.no → ZpU P C.l r f xs hb x hb2 fr)
  (h : LO P n C c (k + 1) (mkS (Zxd dst x (Zft fr ss)) (hb2 ++ ZdA (hb2.map (·.1)) fr fl hs)) Q) : LO P n C c k (mkS ss hs) Q := by
 subst hO
 subst hF
 simp only [Bool.and_eq_true] at hok
 obtain ⟨⟨⟨⟨⟨k1, k2⟩, k3⟩, k4⟩, k5⟩, k6⟩ := hok
 intro γ σ act w hg hG hR
 have hr := hC.ren γ
 have hs' : ∀ j, σ.s j = ren (C.r γ) (lkS ss j) := fun j => (hG.s j).1 Zao
 have heval : ∀ y : Operand, ev σ.s y = ren (C.r γ) (ev (lkS ss) y) := fun y => ZgM (c := []) hG Zao (by cases y <;> rfl)
 unfold Zf2 at hop
 split at hop
 case h_2 => cases hop
 rename_i o ho
 split at hop
 case h_2 => cases hop
 rename_i cl hgd hopc
 split at hop
 case h_2 => cases hop
 rename_i fo' hcal
 simp only [Option.some.injEq, Prod.mk.injEq] at hop
 obtain ⟨hd, rfl, rfl⟩ := hop
 rw [Zct] at ho
 have hlt : k < (ZcJ c).toList.length := by
  rcases Nat.lt_or_ge k (ZcJ c).toList.length with h | h
  ·exact h
  ·rw [List.getElem?_eq_none h] at ho; cases ho
 have hrest : (ZcJ c).toList.drop k = o :: (ZcJ c).toList.drop (k + 1) := by
  rw [List.drop_eq_getElem_cons hlt]
  rw [List.getElem?_eq_getElem hlt] at ho
  simp only [Option.some.injEq] at ho
  rw [ho]
 rw [hrest]
 have hinj : ∀ q k : Key, okK C.outs q = true → okK C.outs k = true → q ≠ k → (C.r γ).κ q ≠ (C.r γ).κ k := fun q k h1 h2 h3 => hr.ne (Zfo h1) (Zfo h2) h3
 have hA := hcall (C.r γ) rfl rfl rfl rfl σ.H (fun p hp => by
  rw [← hhb] at hp
  obtain ⟨q, hq, rfl⟩ := List.mem_map.1 hp
  have hq' := Zfo (List.all_eq_true.1 k6 q hq)
  refine ⟨?_, fun hl => hG.h q hl⟩
  obtain ⟨q1, q2⟩ := q
  simp only at hq'
  rcases hq' with rfl | ⟨rfl, h2⟩
  ·have := hG.g q2
   rw [← hr.own] at this
   exact this
  ·exact hG.go q2 h2) hG.o
 have hargs : Zav (C.r γ) xs = Zav (C.r γ) first ++ cl.args.toList.map (ev σ.s) ++ Zav (C.r γ) caps := by
  rw [← hxs, ZcF, ZcF]
  congr 2
  rw [ZcI, List.map_map]
  exact List.map_congr_left fun y _ => (heval y).symm
 have hfe : ev σ.s fo' = .fn (.func f) (Zav (C.r γ) first) (Zav (C.r γ) caps) := by rw [heval, hf]; simp [ren]
 have hrop : rOp P C.l n o (fun σ' => ∃ γ' : Key → Nat, (∀ q, q ∉ fr → γ' q = γ q) ∧ σ' = ⟨ZGU dst σ.s (ren (C.r γ') x), Zd5 (C.r γ') hb2 σ.H⟩) σ := by
  unfold rOp
  rw [hopc]
  simp only [hcal, hfe]
  rw [hargs] at hA
  refine hA.mono fun y H'' ⟨γ', e1, e2, e3⟩ => ?_
  unfold ZBY Zg7
  rw [hd]
  cases dst with
  | none => exact ⟨γ', e1, by rw [e3]; rfl⟩
  | some d => exact ⟨Nat.le_of_ble_eq_true k5, γ', e1, by rw [e2, e3]; rfl⟩
 refine Zdl (by simp [Region.wanted, hgd]) (ZdC hrop) hR fun σ' act' w' hK hR' => ?_
 obtain ⟨γ', e1, rfl⟩ := hK
 have hsub : ∀ q, q ∈ fr → ∃ b, (q, b) ∈ hb2 := fun q hq => by
  obtain ⟨p, hp, hk⟩ := List.any_eq_true.1 (List.all_eq_true.1 k2 q hq)
  rw [Zbv.1 hk]; exact ⟨p.2, hp⟩
 let τ2 : St := mkS (Zxd dst x (Zft fr ss)) (hb2 ++ ZdA (hb2.map (·.1)) fr fl hs)
 have hlow : ∀ q, lkH (hb2 ++ ZdA (hb2.map (·.1)) fr fl hs) q = if q ∈ hb2.map (·.1) then lkH hb2 q else lkH (ZdA (hb2.map (·.1)) fr fl hs) q := fun q => ZzC _ _ _
 have hin : ∀ q, q ∈ hb2.map (·.1) → ∃ b, (q, b) ∈ hb2 := fun q hq => by obtain ⟨p, hp, rfl⟩ := List.mem_map.1 hq; exact ⟨p.2, hp⟩
 have hput : ∀ q b, (q, b) ∈ hb2 → Zd5 (C.r γ') hb2 σ.H ((C.r γ').κ q) = ZbQ (C.r γ') q b ∧ lkH hb2 q = b ∧ okK C.outs q = true ∧ b.live = true := Zmw (r := C.r γ') hinj hb2 σ.H k1
 have hkeep : ∀ q, q ∉ hb2.map (·.1) → okK C.outs q = true → Zd5 (C.r γ') hb2 σ.H ((C.r γ').κ q) = σ.H ((C.r γ').κ q) ∧ γ' q = γ q := fun q hq hkq => by
  refine ⟨Zdi _ _ _ fun p hp => hinj _ _ (hput p.1 p.2 hp).2.2.1 hkq fun e => hq (List.mem_map.2 ⟨p, hp, e⟩), e1 q fun hf => ?_⟩
  obtain ⟨b, hb⟩ := hsub q hf
  exact hq (List.mem_map.2 ⟨_, hb, rfl⟩)
 have hgen : ∀ q, okK C.outs q = true → (σ.H (C.κ q)).g = γ q → (Zd5 (C.r γ') hb2 σ.H (C.κ q)).g = γ' q + (lkH (hb2 ++ ZdA (hb2.map (·.1)) fr fl hs) q).g := fun q hkq hq0 => by
  rw [hlow]
  split
  ·rename_i hm
   obtain ⟨b, hb⟩ := hin q hm
   obtain ⟨a1, a2, _⟩ := hput q b hb
   rw [show C.κ q = (C.r γ').κ q from rfl, a1, a2]
   rfl
  ·rename_i hm
   obtain ⟨a1, a2⟩ := hkeep q hm hkq
   rw [show C.κ q = (C.r γ').κ q from rfl, a1, a2]
   have : (lkH (ZdA (hb2.map (·.1)) fr fl hs) q).g = 0 := by
    rcases (Zc6 (fr := fr) (fl := fl) hs (hb2.map (·.1)) q).2 hm with ⟨e, _⟩ | e
    ·rw [e]; exact Zfy k4 q
    ·rw [e]; rfl
   rw [this]
   exact hq0
 have hG2 : RG (C.r γ') C.l C.outs [] τ2 ⟨fun j => ren (C.r γ') (τ2.s j), Zd5 (C.r γ') hb2 σ.H⟩ := by
  refine ⟨fun j => ⟨fun _ => rfl, fun hn => absurd Zao hn⟩, fun q hq => ?_, fun d => ?_, fun i hi => ?_, fun q hq => ?_, fun q hq hn => ?_⟩
  ·show Zd5 (C.r γ') hb2 σ.H ((C.r γ').κ q) = ZbQ (C.r γ') q (lkH (hb2 ++ ZdA (hb2.map (·.1)) fr fl hs) q)
   replace hq : (lkH (hb2 ++ ZdA (hb2.map (·.1)) fr fl hs) q).live = true := hq
   rw [hlow] at hq ⊢
   split at hq
   ·rename_i hm
    rw [if_pos hm]
    obtain ⟨b, hb⟩ := hin q hm
    obtain ⟨a1, a2, _⟩ := hput q b hb
    rw [a1, a2]
   ·rename_i hm
    rw [if_neg hm]
    rcases (Zc6 (fr := fr) (fl := fl) hs (hb2.map (·.1)) q).2 hm with ⟨e, e'⟩ | e
    ·rw [e] at hq ⊢
     have hkq := hG.k q hq
     have hok : okK C.outs q = true := by
      obtain ⟨q1, q2⟩ := q
      simp only at hkq
      simp only [okK, Bool.or_eq_true, Bool.and_eq_true]
      rcases hkq with rfl | ⟨rfl, h2⟩
      ·exact .inl rfl
      ·exact .inr ⟨rfl, Nat.ble_eq_true_of_le h2⟩
     obtain ⟨a1, a2⟩ := hkeep q hm hok
     rw [a1]
     have hb := hG.h q hq
     have hcells : Zav (C.r γ') (lkH hs q).cells = Zav (C.r γ) (lkH hs q).cells := by
      rcases e' with e' | e'
      ·rw [Zb3 (ZpQ hfl q e'), Zb3 (ZpQ hfl q e')]
      ·exact Zcl (r := C.r γ) e1 _ e'
     show σ.H ((C.r γ).κ q) = _
     rw [hb]
     simp only [ZbQ]
     rw [hcells, show (C.r γ').γ q = γ' q from rfl, a2]
     rfl
    ·rw [e] at hq; cases hq
  ·have := hgen (1, d) rfl (by
    have := hG.g d
    rw [show ((mkS ss hs).H (1, d)).g = 0 from Zfy k4 _] at this
    rw [hC.own]; exact this)
   rw [hC.own] at this
   exact this
  ·exact hgen (0, i) (by simp only [okK, Bool.or_eq_true, Bool.and_eq_true]; exact .inr ⟨rfl, Nat.ble_eq_true_of_le hi⟩) (by
    have := hG.go i hi
    rw [show ((mkS ss hs).H (0, i)).g = 0 from Zfy k4 _] at this
    exact this)
  ·replace hq : (lkH (hb2 ++ ZdA (hb2.map (·.1)) fr fl hs) q).live = true := hq
   rw [hlow] at hq
   split at hq
   ·rename_i hm
    obtain ⟨b, hb⟩ := hin q hm
    exact Zfo (hput q b hb).2.2.1
   ·rename_i hm
    rcases (Zc6 (fr := fr) (fl := fl) hs (hb2.map (·.1)) q).2 hm with ⟨e, e'⟩ | e
    ·rw [e] at hq; exact hG.k q hq
    ·rw [e] at hq; cases hq
  ·show Zd5 (C.r γ') hb2 σ.H q = C.H0 q
   rw [Zdi _ _ _ fun p hp e => ?_]
   ·exact hG.o q hq hn
   ·by_cases h1 : p.1.1 = 1
    ·obtain ⟨⟨p1, p2⟩, p3⟩ := p
     simp only at h1
     subst h1
     rw [show (C.r γ').κ (1, p2) = (C.l + 1, p2) from hC.own p2] at e
     rw [← e] at hq
     simp at hq
     omega
    ·exact hn (by rw [← e]; exact Zo4 hwr p hp h1)
 refine h γ' _ act' w' (hC.G γ γ' (fun i hi => e1 _ fun hm => ?_) hg) hG2 (R.weaken hR' fun j => ?_)
 ·have := List.all_eq_true.1 k3 _ hm
  simp only [Bool.not_eq_true', Bool.and_eq_false_iff] at this
  rcases this with h | h
  ·cases h
  ·have : (C.fx.any (Nat.beq i)) = true := List.any_eq_true.2 ⟨i, hi, by simp⟩
   rw [this] at h; cases h
 ·have old : ren (C.r γ') (lkS (Zft fr ss) j) = σ.s j ∨ ren (C.r γ') (lkS (Zft fr ss) j) = .top := by
   rcases Zmv (fr := fr) ss j with e | ⟨e, e'⟩
   ·right; rw [e]; simp [ren]
   ·left
    rw [e, hs' j]
    exact ZhH (r := C.r γ) e1 _ e'
  show ren (C.r γ') (lkS (Zxd dst x (Zft fr ss)) j) = _ ∨ ren (C.r γ') (lkS (Zxd dst x (Zft fr ss)) j) = .top
  cases dst with
  | none => exact old
  | some d =>
   simp only [Zxd, lkS, ZGU, upd]
   cases hj : Nat.beq d j with
   | true =>
    have := Nat.eq_of_beq_eq_true hj
    subst this
    left; rw [if_pos rfl]
   | false =>
    have : j ≠ d := fun e => by rw [e] at hj; simp at hj
    rw [if_neg this]
    exact old
end
end Go.Eng
namespace Go.Eng
set_option linter.all false
open Go Go.RowKit
def kOf (l : Nat) (ks : List Key) : Key → Key
 | (0, i) => match nth ks i with | some k => k | none => (0, 0)
 | (_ + 1, d) => (l + 1, d)
def gOf (gs : List Nat) : Key → Nat
 | (0, i) => match nth gs i with | some g => g | none => 0
 | (_ + 1, _) => 0
def rOf (l : Nat) (ks : List Key) (gs : List Nat) (θ : Nat → AV) (H : Hp) : Ren := ⟨kOf l ks, gOf gs, θ, H, fun k => k ∈ ks⟩
def NmO (l : Nat) (ks : List Key) (gs : List Nat) (r : Ren) : Prop := r.κ = kOf l ks ∧ ∀ i, i < ks.length → r.γ (0, i) = gOf gs (0, i)
def Zd6 (r : Ren) : Nat → List Blk → List Blk
 | _, [] => []
 | i, b :: bs => ZbQ r (0, i) b :: Zd6 r (i + 1) bs
def Zni (H : Hp) : List Key → List Blk → Hp
 | k :: ks, b :: bs => Zni (updH H k b) ks bs
 | _, _ => H
theorem ZeM {r : Ren} {k : Key} {g : Nat} {e : TypeId} {sz : Nat} {cs : List AV} (h : Zit cs) : ZbQ r k ⟨g, true, e, sz, cs⟩ = ⟨r.γ k + g, true, e, sz, cs⟩ := by
 simp only [ZbQ, Zb3 h]
theorem ZeR : ∀ (ks : List Key) (bs : List Blk) (H : Hp) (q : Key), q ∉ ks → Zni H ks bs q = H q
 | [], bs, H, q, h => by cases bs <;> rfl
 | k :: ks, [], H, q, h => rfl
 | k :: ks, b :: bs, H, q, h => by
  simp only [Zni]
  rw [ZeR ks bs _ q (fun hm => h (List.mem_cons_of_mem _ hm)), Zal _ _ (fun e => h (by rw [e]; exact List.mem_cons_self ..))]
theorem Zp4 : ∀ (ks : List Key) (bs : List Blk) (H : Hp), ks.Nodup → ∀ (j : Nat) (k : Key) (b : Blk), ks[j]? = some k → bs[j]? = some b → Zni H ks bs k = b
 | [], bs, H, _, j, k, b, h, _ => by simp at h
 | q :: ks, [], H, _, _, _, _, _, h => by simp at h
 | q :: ks, c :: bs, H, hn, j, k, b, hk, hb => by
  simp only [Zni]
  rw [List.nodup_cons] at hn
  cases j with
  | zero =>
   simp only [List.getElem?_cons_zero, Option.some.injEq] at hk hb
   subst hk; subst hb
   rw [ZeR ks bs _ _ hn.1, Zac]
  | succ j =>
   simp only [List.getElem?_cons_succ] at hk hb
   exact Zp4 ks bs _ hn.2 j k b hk hb
theorem Zly {r : Ren} : ∀ (bs : List Blk) (i j : Nat), (Zd6 r i bs)[j]? = (bs[j]?).map (ZbQ r (0, i + j))
 | [], i, j => by simp [Zd6]
 | b :: bs, i, 0 => by simp [Zd6]
 | b :: bs, i, j + 1 => by
  simp only [Zd6, List.getElem?_cons_succ, Zly bs (i + 1) j, show i + 1 + j = i + (j + 1) from by omega]
theorem Znn {P : Program} {T : Nat → Option TI} {n : Nat} {f : FuncId} {fn : Func} (rs : List ResultVar) (c : Code) {l : Nat} {xs : List AV} {H : Hp} {Post : AV → Hp → Prop} (ks : List Key) (gs : List Nat) (fx : List Nat) (θ : Nat → AV) (ys : List AV) (hs : List (Key × Blk)) (Y : AV) (bs : List Blk) {Y' : AV} {bs' : List Blk}
  (hf : P.funcs[f]? = some fn) (hb : fn.body = some c) (hname : (fn.name == "runtime.NumGoroutine") = false) (hn : fn.ntmps = n) (hr : fn.results.toList = rs) (hx : xs.length ≤ n) (hT : TOk P T)
  (hks : ∀ k ∈ ks, k.1 ≤ l) (hnd : ks.Nodup) (hfx : ∀ i, i < ks.length → i ∈ fx) (hh : ∀ d, lkH hs (1, d) = Zqk) (hlv : ∀ k, (lkH hs k).live = true → k.1 = 0 ∧ k.2 < ks.length)
  (hH : ∀ i k, ks[i]? = some k → (H k).g = gOf gs (0, i) + (lkH hs (0, i)).g ∧ ((lkH hs (0, i)).live = true → H k = ZbQ (rOf l ks gs θ H) (0, i) (lkH hs (0, i))))
  (hxs : Zav (rOf l ks gs θ H) ys = xs) (hbl : bs.length = ks.length) (hbv : ∀ b ∈ bs, b.live = true) (hY : ∀ r, NmO l ks gs r → ren r Y = Y') (hB : ∀ r, NmO l ks gs r → Zd6 r 0 bs = bs')
  (h : ∀ C, CxOk C → C.outs = ks.length → C.fx = fx → C.l = l → C.H0 = H → C.θ = θ → C.κ = kOf l ks → C.no = (fun k => k ∈ ks) → LW P n C c (mkS (Zom 0 ys) hs) (FQ T rs ks.length (fun y b => y = Y ∧ b = bs)))
  (hp : Post Y' (Zni H ks bs')) : Zcu P f l xs H Post := by
 let C : Base → Cx := fun B => ⟨l, B, kOf l ks, θ, H, ks.length, fun k => k ∈ ks, fx, fun γ => ∀ i ∈ fx, γ (0, i) = gOf gs (0, i)⟩
 have hkO : ∀ i, i < ks.length → ks[i]? = some (kOf l ks (0, i)) := fun i hi => by
  show _ = some (match nth ks i with | some k => k | none => (0, 0))
  rw [Zct, List.getElem?_eq_getElem hi]
 have hlt : ∀ (i : Nat) (k : Key), ks[i]? = some k → i < ks.length := fun i k hi => by
  rcases Nat.lt_or_ge i ks.length with h | h
  ·exact h
  ·rw [List.getElem?_eq_none h] at hi; cases hi
 have hC : ∀ B, CxOk (C B) := fun B => by
  refine ⟨fun _ => rfl, fun i hi => hks _ (List.mem_of_getElem? (hkO i hi)), fun i j hi hj e => ?_, fun k hk => ?_, fun γ γ' he hg i hi => by rw [he i hi]; exact hg i hi⟩
  ·have h1 := hkO i hi
   have h2 := hkO j hj
   rw [show kOf l ks (0, i) = kOf l ks (0, j) from e] at h1
   have h3 : ks[i]? = ks[j]? := h1.trans h2.symm
   exact (List.getElem?_inj hi hnd).1 h3
  ·obtain ⟨i, hi⟩ := List.mem_iff_getElem?.1 (show k ∈ ks from hk)
   refine ⟨i, hlt i k hi, ?_⟩
   have := hkO i (hlt i k hi)
   rw [hi] at this
   simp only [Option.some.injEq] at this
   exact this.symm
 refine ZlZ rs C (γ := gOf gs) (LPost := fun y b => y = Y ∧ b = bs) (ys := ys) (hs := hs) hf hb hname hn hr hx hT hC (fun B => ⟨rfl, rfl, rfl, fun i _ => rfl⟩) (fun B => hxs) (fun _ => rfl) hh (fun B k hk => ?_) (fun B i hi => ?_) (fun B γ y b H' hg hy ho _ => ?_) (fun B => h _ (hC B) rfl rfl rfl rfl rfl rfl rfl)
 ·obtain ⟨h1, h2⟩ := hlv k hk
  obtain ⟨k1, k2⟩ := k
  simp only at h1 h2
  subst h1
  exact ⟨rfl, h2, (hH k2 _ (hkO k2 h2)).2 hk⟩
 ·exact (hH i _ (hkO i hi)).1
 ·obtain ⟨rfl, rfl⟩ := hy
  have hnm : NmO l ks gs ((C B).r γ) := ⟨rfl, fun i hi => hg i (hfx i hi)⟩
  have e1 := hB _ hnm
  have e2 : H' = Zni H ks bs' := by
   funext q
   by_cases hq : q ∈ ks
   ·obtain ⟨i, hi⟩ := List.mem_iff_getElem?.1 hq
    have hi' := hlt i q hi
    have hb' : b[i]? = some b[i] := List.getElem?_eq_getElem (by omega)
    have h1 := ho.live i _ hb' (hbv _ (List.mem_of_getElem? hb'))
    have h2 : kOf l ks (0, i) = q := by
     have := hkO i hi'
     rw [hi] at this
     simp only [Option.some.injEq] at this
     exact this.symm
    rw [show (C B).κ (0, i) = q from h2] at h1
    rw [h1, Zp4 ks bs' H hnd i q (ZbQ ((C B).r γ) (0, i) b[i]) hi]
    rw [← e1, Zly, hb', Nat.zero_add]
    rfl
   ·rw [ZeR ks bs' H q hq]
    exact ho.o q hq
  rw [e2, hY _ hnm]
  exact hp
section
variable {P : Program} {l : Nat} {r : Ren} {f : FuncId} {xs xs' : List AV} {hb hb2 : List (Key × Blk)} {x x' : AV}
theorem ZsA (h1 : Zav r xs = xs') (h2 : ren r x = x') (h : ∀ H', (∀ p ∈ hb, (H' (r.κ p.1)).g = r.γ p.1 + p.2.g ∧ (p.2.live = true → H' (r.κ p.1) = ZbQ r p.1 p.2)) → (∀ k : Key, k.1 ≤ l → ¬ r.no k → H' k = r.H0 k) → Zcu P f (l + 1) xs' H' (fun y H'' => y = x' ∧ H'' = Zd5 r hb2 H')) :
  ZpU P l r f xs hb x hb2 [] := fun H' hb ho => by
 rw [h1]
 exact (h H' hb ho).mono fun y H'' ⟨e1, e2⟩ => ⟨r.γ, fun _ _ => rfl, by rw [e1, ← h2], e2⟩
end
theorem Zfk {r : Ren} {k : Key} (ds : List D) : ZBh r k (ds.map .d) := by
 unfold ZBh
 rw [ZiV]
 refine List.all_eq_true.2 fun x hx => ?_
 obtain ⟨d, _, rfl⟩ := List.mem_map.1 hx
 rfl
theorem Zoc {α : Type} (e : α → List D) (xs : List α) : ZhJ (Zaa e xs) := fun x hx => by
 obtain ⟨d, _, rfl⟩ := List.mem_map.1 hx; rfl
def ZAn (n : Nat) : List (Key × Blk) → Bool
 | [] => true
 | (k, _) :: r => Nat.beq k.1 0 && Nat.ble (k.2 + 1) n && ZAn n r
theorem Zqg {n : Nat} : ∀ {hs : List (Key × Blk)}, ZAn n hs = true → ∀ k, (lkH hs k).live = true → k.1 = 0 ∧ k.2 < n
 | [], _, k, h => by simp [lkH, Zqk] at h
 | (q, b) :: r, hi, k, h => by
  simp only [ZAn, Bool.and_eq_true] at hi
  simp only [lkH] at h
  split at h
  ·rename_i hq
   have hq := Zbv.1 hq
   subst hq
   exact ⟨Nat.eq_of_beq_eq_true hi.1.1, Nat.le_of_ble_eq_true hi.1.2⟩
  ·exact Zqg hi.2 k h
theorem Zi1 {n : Nat} : ∀ {hs : List (Key × Blk)}, ZAn n hs = true → ∀ d, lkH hs (1, d) = Zqk
 | [], _, d => rfl
 | (q, b) :: r, hi, d => by
  simp only [ZAn, Bool.and_eq_true] at hi
  simp only [lkH]
  split
  ·rename_i hq
   have hq := Zbv.1 hq
   subst hq
   have := Nat.eq_of_beq_eq_true hi.1.1
   simp at this
  ·exact Zi1 hi.2 d
def HOk (H : Hp) (r : Ren) (hs : List (Key × Blk)) : Nat → List Key → Prop
 | _, [] => True
 | i, k :: ks => ((H k).g = r.γ (0, i) + (lkH hs (0, i)).g ∧ ((lkH hs (0, i)).live = true → H k = ZbQ r (0, i) (lkH hs (0, i)))) ∧ HOk H r hs (i + 1) ks
theorem Zvq {H : Hp} {r : Ren} {hs : List (Key × Blk)} : ∀ {ks : List Key} {i : Nat}, HOk H r hs i ks → ∀ j k, ks[j]? = some k → (H k).g = r.γ (0, i + j) + (lkH hs (0, i + j)).g ∧ ((lkH hs (0, i + j)).live = true → H k = ZbQ r (0, i + j) (lkH hs (0, i + j)))
 | [], i, _, j, k, h => by simp at h
 | q :: ks, i, h, 0, k, hk => by
  simp only [List.getElem?_cons_zero, Option.some.injEq] at hk
  subst hk
  exact h.1
 | q :: ks, i, h, j + 1, k, hk => by
  have := Zvq h.2 j k (by simpa using hk)
  rw [show i + 1 + j = i + (j + 1) from by omega] at this
  exact this
def ZAZ (l : Nat) : List Key → Prop
 | [] => True
 | k :: ks => k.1 ≤ l ∧ ZAZ l ks
theorem ZkG {l : Nat} : ∀ {ks : List Key}, ZAZ l ks → ∀ k ∈ ks, k.1 ≤ l
 | q :: ks, h, k, hk => by
  rcases List.mem_cons.1 hk with rfl | hk
  ·exact h.1
  ·exact ZkG h.2 k hk
def ZjG : Nat → List Nat
 | 0 => []
 | n + 1 => ZjG n ++ [n]
theorem Zlm : ∀ {n i : Nat}, i < n → i ∈ ZjG n
 | n + 1, i, h => by
  simp only [ZjG, List.mem_append, List.mem_singleton]
  rcases Nat.lt_or_ge i n with h' | h'
  ·exact .inl (Zlm h')
  ·exact .inr (by omega)
theorem Zla {P : Program} {T : Nat → Option TI} {n : Nat} {f : FuncId} {fn : Func} (rs : List ResultVar) (c : Code) {l : Nat} {xs : List AV} {H : Hp} {Post : AV → Hp → Prop} (ks : List Key) (gs : List Nat) (os : Nat) (θ : Nat → AV) (ys : List AV) (hs : List (Key × Blk)) (Y : AV) (bs : List Blk) {Y' : AV} {bs' : List Blk}
  (hf : P.funcs[f]? = some fn) (hb : fn.body = some c) (hname : (fn.name == "runtime.NumGoroutine") = false) (hn : fn.ntmps = n) (hr : fn.results.toList = rs) (hx : xs.length ≤ n) (hT : TOk P T) (hos : ks.length = os)
  (hks : ZAZ l ks) (hnd : ks.Nodup) (hin : ZAn os hs = true) (hH : HOk H (rOf l ks gs θ H) hs 0 ks) (hxs : Zav (rOf l ks gs θ H) ys = xs) (hbl : bs.length = os) (hbv : ∀ b ∈ bs, b.live = true) (hY : ∀ r, NmO l ks gs r → ren r Y = Y') (hB : ∀ r, NmO l ks gs r → Zd6 r 0 bs = bs')
  (h : ∀ C, CxOk C → C.outs = os → C.fx = ZjG os → C.l = l → C.H0 = H → C.θ = θ → C.κ = kOf l ks → C.no = (fun k => k ∈ ks) → LW P n C c (mkS (Zom 0 ys) hs) (FQ T rs os (fun y b => y = Y ∧ b = bs)))
  (hp : Post Y' (Zni H ks bs')) : Zcu P f l xs H Post := by
 subst hos
 exact Znn rs c ks gs (ZjG ks.length) θ ys hs Y bs hf hb hname hn hr hx hT (ZkG hks) hnd (fun i hi => Zlm hi) (Zi1 hin) (Zqg hin) (fun i k hk => by have := Zvq hH i k hk; rw [Nat.zero_add] at this; exact this) hxs hbl hbv hY hB h hp
theorem ZnQ {α : Type} {e e' : α → List D} {xs : List α} {j sz : Nat} {x : α} (hx : xs[j]? = some x) (hl : ∀ x, (e x).length = sz) (he : ∀ x, e x = e' x) : Zb2 (Zaa e xs) (j * sz) ((e' x).map .d) := by
 have hj : j < xs.length := by
  rcases Nat.lt_or_ge j xs.length with h | h
  ·exact h
  ·rw [List.getElem?_eq_none h] at hx; cases hx
 have := Zgy (z := x) hj hl he
 rw [List.getD_eq_getElem?_getD, hx] at this
 exact this
theorem Zye {P : Program} {l l1 : Nat} {no no1 : Key → Prop} {H H1 : Hp} {c : AV} {as : List AV} {y : AV} (h : ZiH P l no H c as y) (hl : l ≤ l1) (hno : ∀ q : Key, q.1 ≤ l → ¬ no q → ¬ no1 q) (hH : ∀ q : Key, q.1 ≤ l → ¬ no q → H1 q = H q) : ZiH P l1 no1 H1 c as y := by
 obtain ⟨f, first, caps, e, h⟩ := h
 exact ⟨f, first, caps, e, fun l' H' hl' ho => h l' H' (Nat.le_trans hl hl') fun k hk hn => by rw [ho k (Nat.le_trans hk hl) (hno k hk hn), hH k hk hn]⟩
def ZCC : Code → Operand
 | .cond o _ _ => o
 | _ => .tmp 0
def Zoe (c : Code) (k : Nat) : Option Nat := match Zf2 c k with | some (d, _, _) => d | none => none
def callF (c : Code) (k : Nat) : Operand := match Zf2 c k with | some (_, f, _) => f | none => .tmp 0
def Zsy (c : Code) (k : Nat) : List Operand := match Zf2 c k with | some (_, _, xs) => xs | none => []
theorem ZsC {P : Program} {n : Nat} {C : Cx} {Q : Exit → St → Prop} (hC : CxOk C) {os : Nat} {fx : List Nat} (hO : C.outs = os) (hF : C.fx = fx) {c : Code} {k : Nat} {ss : List (Nat × AV)} {hs : List (Key × Blk)}
  (f : FuncId) (first caps xs : List AV) (hop : Zf2 c k = some (Zoe c k, callF c k, Zsy c k)) (hf : ev (lkS ss) (callF c k) = .fn (.func f) first caps) (hxs : first ++ (Zsy c k).map (ev (lkS ss)) ++ caps = xs) (ks : List Key) (hb : List (Key × Blk)) (hhb : (ks.map fun k => (k, lkH hs k)) = hb)
  (x : AV) (hb2 : List (Key × Blk)) (fr fl : List Key) (hok : (ZvU os hb2 && ZFr fr hb2 && Zq0 fr fx && Zm2 hs && Zyn n (Zoe c k) && ks.all (okK os)) = true) (hwr : wrL C hb2) (hfl : flL (lkH hs) fl)
  (hcall : ∀ r : Ren, r.θ = C.θ → r.H0 = C.H0 → r.κ = C.κ → r.no = C.no → ZpU P C.l r f xs hb x hb2 fr)
  (h : LO P n C c (k + 1) (mkS (Zxd (Zoe c k) x (Zft fr ss)) (hb2 ++ ZdA (hb2.map (·.1)) fr fl hs)) Q) : LO P n C c k (mkS ss hs) Q :=
 Zwy hC hO hF _ _ _ hop f first caps xs hf hxs ks hb hhb x hb2 fr fl hok hwr hfl hcall h
end Go.Eng
namespace Go.Eng
open Go
set_option linter.all false
end Go.Eng
