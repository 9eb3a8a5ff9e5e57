/-
  The data of package api: Lean structures, the cells that they take. By program (gen_dat.py).
-/
import Derived.Test.YthagpbkmakocjaaEngZ
namespace Go.Eng

structure Raw where
  num : Int
  wire : Int
  bits : Int
  data : ByteArray
deriving Inhabited, DecidableEq

mutual
inductive Val where
  | mk (kind bits : Int) (text : ByteArray) (list : List Val) (pairs : List Pr) (slots : List Slt) (raws : List Raw)
inductive Pr where
  | mk (key val : Val)
inductive Slt where
  | mk (num : Int) (val : Val)
end
inductive Msk where
  | mk (num : Int) (subs : List Msk)
instance : Inhabited Val := ⟨.mk 0 0 .empty [] [] [] []⟩
instance : Inhabited Pr := ⟨.mk default default⟩
instance : Inhabited Slt := ⟨.mk 0 default⟩
instance : Inhabited Msk := ⟨.mk 0 []⟩
def Val.kind : Val → Int | .mk k _ _ _ _ _ _ => k
def Val.bits : Val → Int | .mk _ b _ _ _ _ _ => b
def Val.text : Val → ByteArray | .mk _ _ t _ _ _ _ => t
def Val.list : Val → List Val | .mk _ _ _ l _ _ _ => l
def Val.pairs : Val → List Pr | .mk _ _ _ _ p _ _ => p
def Val.slots : Val → List Slt | .mk _ _ _ _ _ s _ => s
def Val.raws : Val → List Raw | .mk _ _ _ _ _ _ r => r
def Pr.key : Pr → Val | .mk k _ => k
def Pr.val : Pr → Val | .mk _ v => v
def Slt.num : Slt → Int | .mk n _ => n
def Slt.val : Slt → Val | .mk _ v => v
def Msk.num : Msk → Int | .mk n _ => n
def Msk.subs : Msk → List Msk | .mk _ s => s

def eStr (s : ByteArray) : List D := [.str s]
def eInt (s : Int) : List D := [.int .i64 s]
def eBoo (s : Bool) : List D := [.bool s]
def eRaw (x : Raw) : List D := [.int .i64 x.num, .int .i64 x.wire, .int .u64 x.bits, .str x.data]
mutual
def rVal : Val → List D
  | .mk k b t l p s r => [.int .i64 k, .int .u64 b, .str t, .list (rVals l), .list (rPrs p), .list (rSlts s), .list (r.map eRaw)]
def rVals : List Val → List (List D)
  | [] => []
  | v :: vs => rVal v :: rVals vs
def rPr : Pr → List D
  | .mk k v => rVal k ++ rVal v
def rPrs : List Pr → List (List D)
  | [] => []
  | v :: vs => rPr v :: rPrs vs
def rSlt : Slt → List D
  | .mk n v => .int .i64 n :: rVal v
def rSlts : List Slt → List (List D)
  | [] => []
  | v :: vs => rSlt v :: rSlts vs
end
mutual
def rMsk : Msk → List D
  | .mk n s => [.int .i64 n, .list (rMsks s)]
def rMsks : List Msk → List (List D)
  | [] => []
  | v :: vs => rMsk v :: rMsks vs
end
theorem rVals_map (l : List Val) : rVals l = l.map rVal := by induction l with | nil => rfl | cons v l ih => simp [rVals, ih]
theorem rPrs_map (l : List Pr) : rPrs l = l.map rPr := by induction l with | nil => rfl | cons v l ih => simp [rPrs, ih]
theorem rSlts_map (l : List Slt) : rSlts l = l.map rSlt := by induction l with | nil => rfl | cons v l ih => simp [rSlts, ih]
theorem rMsks_map (l : List Msk) : rMsks l = l.map rMsk := by induction l with | nil => rfl | cons v l ih => simp [rMsks, ih]

def eVal (x : Val) : List D := [.int .i64 x.kind, .int .u64 x.bits, .str x.text, .list (x.list.map rVal), .list (x.pairs.map rPr), .list (x.slots.map rSlt), .list (x.raws.map eRaw)]
def ePr (x : Pr) : List D := [.int .i64 x.key.kind, .int .u64 x.key.bits, .str x.key.text, .list (x.key.list.map rVal), .list (x.key.pairs.map rPr), .list (x.key.slots.map rSlt), .list (x.key.raws.map eRaw), .int .i64 x.val.kind, .int .u64 x.val.bits, .str x.val.text, .list (x.val.list.map rVal), .list (x.val.pairs.map rPr), .list (x.val.slots.map rSlt), .list (x.val.raws.map eRaw)]
def eSlt (x : Slt) : List D := [.int .i64 x.num, .int .i64 x.val.kind, .int .u64 x.val.bits, .str x.val.text, .list (x.val.list.map rVal), .list (x.val.pairs.map rPr), .list (x.val.slots.map rSlt), .list (x.val.raws.map eRaw)]
def eMsk (x : Msk) : List D := [.int .i64 x.num, .list (x.subs.map rMsk)]
theorem rVal_eq (v : Val) : rVal v = eVal v := by
  cases v; simp [rVal, eVal, rVals_map, rPrs_map, rSlts_map, Val.kind, Val.bits, Val.text, Val.list, Val.pairs, Val.slots, Val.raws]
theorem rPr_eq (v : Pr) : rPr v = ePr v := by cases v; simp [rPr, rVal_eq, eVal, ePr, Pr.key, Pr.val]
theorem rSlt_eq (v : Slt) : rSlt v = eSlt v := by cases v; simp [rSlt, rVal_eq, eVal, eSlt, Slt.num, Slt.val]
theorem rMsk_eq (v : Msk) : rMsk v = eMsk v := by cases v; simp [rMsk, eMsk, rMsks_map, Msk.num, Msk.subs]

structure Typ where
  kind : Int
  name : ByteArray
deriving Inhabited, DecidableEq

def eTyp (x : Typ) : List D := [.int .i64 x.kind, .str x.name]
structure Nt where
  name : ByteArray
  val : Val
deriving Inhabited

def eNt (x : Nt) : List D := [.str x.name, .int .i64 x.val.kind, .int .u64 x.val.bits, .str x.val.text, .list (x.val.list.map rVal), .list (x.val.pairs.map rPr), .list (x.val.slots.map rSlt), .list (x.val.raws.map eRaw)]
structure Fld where
  num : Int
  name : ByteArray
  card : Int
  key : Int
  type : Typ
  union : ByteArray
  hasDefault : Bool
  dflt : Val
  notes : List Nt
deriving Inhabited

def eFld (x : Fld) : List D := [.int .i64 x.num, .str x.name, .int .i64 x.card, .int .i64 x.key, .int .i64 x.type.kind, .str x.type.name, .str x.union, .bool x.hasDefault, .int .i64 x.dflt.kind, .int .u64 x.dflt.bits, .str x.dflt.text, .list (x.dflt.list.map rVal), .list (x.dflt.pairs.map rPr), .list (x.dflt.slots.map rSlt), .list (x.dflt.raws.map eRaw), .list (x.notes.map eNt)]
structure Spn where
  lo : Int
  hi : Int
deriving Inhabited, DecidableEq

def eSpn (x : Spn) : List D := [.int .i64 x.lo, .int .i64 x.hi]
structure Msg where
  name : ByteArray
  fields : List Fld
  reserved : List Spn
  gone : List ByteArray
  notes : List Nt
deriving Inhabited

def eMsg (x : Msg) : List D := [.str x.name, .list (x.fields.map eFld), .list (x.reserved.map eSpn), .list (x.gone.map eStr), .list (x.notes.map eNt)]
structure Itm where
  name : ByteArray
  num : Int
  notes : List Nt
deriving Inhabited

def eItm (x : Itm) : List D := [.str x.name, .int .i64 x.num, .list (x.notes.map eNt)]
structure Enm where
  name : ByteArray
  opn : Bool
  items : List Itm
  reserved : List Spn
  notes : List Nt
deriving Inhabited

def eEnm (x : Enm) : List D := [.str x.name, .bool x.opn, .list (x.items.map eItm), .list (x.reserved.map eSpn), .list (x.notes.map eNt)]
structure Mth where
  name : ByteArray
  inn : ByteArray
  out : ByteArray
  shape : Int
  notes : List Nt
deriving Inhabited

def eMth (x : Mth) : List D := [.str x.name, .str x.inn, .str x.out, .int .i64 x.shape, .list (x.notes.map eNt)]
structure Svc where
  name : ByteArray
  methods : List Mth
  notes : List Nt
deriving Inhabited

def eSvc (x : Svc) : List D := [.str x.name, .list (x.methods.map eMth), .list (x.notes.map eNt)]
structure Scm where
  messages : List Msg
  enums : List Enm
  services : List Svc
deriving Inhabited

def eScm (x : Scm) : List D := [.list (x.messages.map eMsg), .list (x.enums.map eEnm), .list (x.services.map eSvc)]
structure Fil where
  name : ByteArray
  space : ByteArray
  imports : List ByteArray
  messages : List Msg
  enums : List Enm
  services : List Svc
deriving Inhabited

def eFil (x : Fil) : List D := [.str x.name, .str x.space, .list (x.imports.map eStr), .list (x.messages.map eMsg), .list (x.enums.map eEnm), .list (x.services.map eSvc)]
structure Prb where
  dfn : ByteArray
  num : Int
  err : Int
deriving Inhabited, DecidableEq

def ePrb (x : Prb) : List D := [.str x.dfn, .int .i64 x.num, .int .i64 x.err]
structure Stp where
  num : Int
  pos : Int
  hasKey : Bool
  key : Val
deriving Inhabited

def eStp (x : Stp) : List D := [.int .i64 x.num, .int .i64 x.pos, .bool x.hasKey, .int .i64 x.key.kind, .int .u64 x.key.bits, .str x.key.text, .list (x.key.list.map rVal), .list (x.key.pairs.map rPr), .list (x.key.slots.map rSlt), .list (x.key.raws.map eRaw)]
structure Edt where
  path : List Stp
  kind : Int
  val : Val
deriving Inhabited

def eEdt (x : Edt) : List D := [.list (x.path.map eStp), .int .i64 x.kind, .int .i64 x.val.kind, .int .u64 x.val.bits, .str x.val.text, .list (x.val.list.map rVal), .list (x.val.pairs.map rPr), .list (x.val.slots.map rSlt), .list (x.val.raws.map eRaw)]
structure Lnk where
  files : List Fil
  f : Fil
  known : List ByteArray
  messages : List ByteArray
  enums : List Enm
deriving Inhabited

def eLnk (x : Lnk) : List D := [.list (x.files.map eFil), .str x.f.name, .str x.f.space, .list (x.f.imports.map eStr), .list (x.f.messages.map eMsg), .list (x.f.enums.map eEnm), .list (x.f.services.map eSvc), .list (x.known.map eStr), .list (x.messages.map eStr), .list (x.enums.map eEnm)]
def eLRaw (x : List Raw) : List D := [.list (x.map eRaw)]
def eLVal (x : List Val) : List D := [.list (x.map rVal)]
def eLPr (x : List Pr) : List D := [.list (x.map rPr)]
def eLSlt (x : List Slt) : List D := [.list (x.map rSlt)]
def eLMsk (x : List Msk) : List D := [.list (x.map rMsk)]
def eLTyp (x : List Typ) : List D := [.list (x.map eTyp)]
def eLNt (x : List Nt) : List D := [.list (x.map eNt)]
def eLFld (x : List Fld) : List D := [.list (x.map eFld)]
def eLSpn (x : List Spn) : List D := [.list (x.map eSpn)]
def eLMsg (x : List Msg) : List D := [.list (x.map eMsg)]
def eLItm (x : List Itm) : List D := [.list (x.map eItm)]
def eLEnm (x : List Enm) : List D := [.list (x.map eEnm)]
def eLMth (x : List Mth) : List D := [.list (x.map eMth)]
def eLSvc (x : List Svc) : List D := [.list (x.map eSvc)]
def eLScm (x : List Scm) : List D := [.list (x.map eScm)]
def eLFil (x : List Fil) : List D := [.list (x.map eFil)]
def eLPrb (x : List Prb) : List D := [.list (x.map ePrb)]
def eLStp (x : List Stp) : List D := [.list (x.map eStp)]
def eLEdt (x : List Edt) : List D := [.list (x.map eEdt)]
def eLLnk (x : List Lnk) : List D := [.list (x.map eLnk)]
def eLStr (x : List ByteArray) : List D := [.list (x.map eStr)]
def eLInt (x : List Int) : List D := [.list (x.map eInt)]
theorem lenRaw (x : Raw) : (eRaw x).length = 4 := rfl
theorem lenVal (x : Val) : (eVal x).length = 7 := rfl
theorem lenPr (x : Pr) : (ePr x).length = 14 := rfl
theorem lenSlt (x : Slt) : (eSlt x).length = 8 := rfl
theorem lenMsk (x : Msk) : (eMsk x).length = 2 := rfl
theorem lenTyp (x : Typ) : (eTyp x).length = 2 := rfl
theorem lenNt (x : Nt) : (eNt x).length = 8 := rfl
theorem lenFld (x : Fld) : (eFld x).length = 16 := rfl
theorem lenSpn (x : Spn) : (eSpn x).length = 2 := rfl
theorem lenMsg (x : Msg) : (eMsg x).length = 5 := rfl
theorem lenItm (x : Itm) : (eItm x).length = 3 := rfl
theorem lenEnm (x : Enm) : (eEnm x).length = 5 := rfl
theorem lenMth (x : Mth) : (eMth x).length = 5 := rfl
theorem lenSvc (x : Svc) : (eSvc x).length = 3 := rfl
theorem lenScm (x : Scm) : (eScm x).length = 3 := rfl
theorem lenFil (x : Fil) : (eFil x).length = 6 := rfl
theorem lenPrb (x : Prb) : (ePrb x).length = 3 := rfl
theorem lenStp (x : Stp) : (eStp x).length = 10 := rfl
theorem lenEdt (x : Edt) : (eEdt x).length = 9 := rfl
theorem lenLnk (x : Lnk) : (eLnk x).length = 10 := rfl
def zRaw : Raw := ⟨0, 0, 0, ⟨#[]⟩⟩
def zVal : Val := .mk 0 0 ⟨#[]⟩ [] [] [] []
def zPr : Pr := .mk zVal zVal
def zSlt : Slt := .mk 0 zVal
def zMsk : Msk := .mk 0 []
def zTyp : Typ := ⟨0, ⟨#[]⟩⟩
def zNt : Nt := ⟨⟨#[]⟩, zVal⟩
def zFld : Fld := ⟨0, ⟨#[]⟩, 0, 0, zTyp, ⟨#[]⟩, false, zVal, []⟩
def zSpn : Spn := ⟨0, 0⟩
def zMsg : Msg := ⟨⟨#[]⟩, [], [], [], []⟩
def zItm : Itm := ⟨⟨#[]⟩, 0, []⟩
def zEnm : Enm := ⟨⟨#[]⟩, false, [], [], []⟩
def zMth : Mth := ⟨⟨#[]⟩, ⟨#[]⟩, ⟨#[]⟩, 0, []⟩
def zSvc : Svc := ⟨⟨#[]⟩, [], []⟩
def zScm : Scm := ⟨[], [], []⟩
def zFil : Fil := ⟨⟨#[]⟩, ⟨#[]⟩, [], [], [], []⟩
def zPrb : Prb := ⟨⟨#[]⟩, 0, 0⟩
def zStp : Stp := ⟨0, 0, false, zVal⟩
def zEdt : Edt := ⟨[], 0, zVal⟩
def zLnk : Lnk := ⟨[], zFil, [], [], []⟩
theorem fitL_nil : FitL [] := fun d h => by cases h
theorem fitL_cons {d : D} {l : List D} (h : Fit d) (k : FitL l) : FitL (d :: l) := fun e he => by
  rcases List.mem_cons.1 he with rfl | he
  · exact h
  · exact k e he
theorem fit_nil : Fit (.list []) := .list _ (by decide) (fun e he => by cases he)
theorem fzRaw : FitL (eRaw zRaw) := (fitL_cons (.int _ _) (fitL_cons (.int _ _) (fitL_cons (.int _ _) (fitL_cons (.str _ (by decide)) fitL_nil))))
theorem fzVal : FitL (eVal zVal) := (fitL_cons (.int _ _) (fitL_cons (.int _ _) (fitL_cons (.str _ (by decide)) (fitL_cons fit_nil (fitL_cons fit_nil (fitL_cons fit_nil (fitL_cons fit_nil fitL_nil)))))))
theorem fzPr : FitL (ePr zPr) := (fitL_cons (.int _ _) (fitL_cons (.int _ _) (fitL_cons (.str _ (by decide)) (fitL_cons fit_nil (fitL_cons fit_nil (fitL_cons fit_nil (fitL_cons fit_nil (fitL_cons (.int _ _) (fitL_cons (.int _ _) (fitL_cons (.str _ (by decide)) (fitL_cons fit_nil (fitL_cons fit_nil (fitL_cons fit_nil (fitL_cons fit_nil fitL_nil))))))))))))))
theorem fzSlt : FitL (eSlt zSlt) := (fitL_cons (.int _ _) (fitL_cons (.int _ _) (fitL_cons (.int _ _) (fitL_cons (.str _ (by decide)) (fitL_cons fit_nil (fitL_cons fit_nil (fitL_cons fit_nil (fitL_cons fit_nil fitL_nil))))))))
theorem fzMsk : FitL (eMsk zMsk) := (fitL_cons (.int _ _) (fitL_cons fit_nil fitL_nil))
theorem fzTyp : FitL (eTyp zTyp) := (fitL_cons (.int _ _) (fitL_cons (.str _ (by decide)) fitL_nil))
theorem fzNt : FitL (eNt zNt) := (fitL_cons (.str _ (by decide)) (fitL_cons (.int _ _) (fitL_cons (.int _ _) (fitL_cons (.str _ (by decide)) (fitL_cons fit_nil (fitL_cons fit_nil (fitL_cons fit_nil (fitL_cons fit_nil fitL_nil))))))))
theorem fzFld : FitL (eFld zFld) := (fitL_cons (.int _ _) (fitL_cons (.str _ (by decide)) (fitL_cons (.int _ _) (fitL_cons (.int _ _) (fitL_cons (.int _ _) (fitL_cons (.str _ (by decide)) (fitL_cons (.str _ (by decide)) (fitL_cons (.bool _) (fitL_cons (.int _ _) (fitL_cons (.int _ _) (fitL_cons (.str _ (by decide)) (fitL_cons fit_nil (fitL_cons fit_nil (fitL_cons fit_nil (fitL_cons fit_nil (fitL_cons fit_nil fitL_nil))))))))))))))))
theorem fzSpn : FitL (eSpn zSpn) := (fitL_cons (.int _ _) (fitL_cons (.int _ _) fitL_nil))
theorem fzMsg : FitL (eMsg zMsg) := (fitL_cons (.str _ (by decide)) (fitL_cons fit_nil (fitL_cons fit_nil (fitL_cons fit_nil (fitL_cons fit_nil fitL_nil)))))
theorem fzItm : FitL (eItm zItm) := (fitL_cons (.str _ (by decide)) (fitL_cons (.int _ _) (fitL_cons fit_nil fitL_nil)))
theorem fzEnm : FitL (eEnm zEnm) := (fitL_cons (.str _ (by decide)) (fitL_cons (.bool _) (fitL_cons fit_nil (fitL_cons fit_nil (fitL_cons fit_nil fitL_nil)))))
theorem fzMth : FitL (eMth zMth) := (fitL_cons (.str _ (by decide)) (fitL_cons (.str _ (by decide)) (fitL_cons (.str _ (by decide)) (fitL_cons (.int _ _) (fitL_cons fit_nil fitL_nil)))))
theorem fzSvc : FitL (eSvc zSvc) := (fitL_cons (.str _ (by decide)) (fitL_cons fit_nil (fitL_cons fit_nil fitL_nil)))
theorem fzScm : FitL (eScm zScm) := (fitL_cons fit_nil (fitL_cons fit_nil (fitL_cons fit_nil fitL_nil)))
theorem fzFil : FitL (eFil zFil) := (fitL_cons (.str _ (by decide)) (fitL_cons (.str _ (by decide)) (fitL_cons fit_nil (fitL_cons fit_nil (fitL_cons fit_nil (fitL_cons fit_nil fitL_nil))))))
theorem fzPrb : FitL (ePrb zPrb) := (fitL_cons (.str _ (by decide)) (fitL_cons (.int _ _) (fitL_cons (.int _ _) fitL_nil)))
theorem fzStp : FitL (eStp zStp) := (fitL_cons (.int _ _) (fitL_cons (.int _ _) (fitL_cons (.bool _) (fitL_cons (.int _ _) (fitL_cons (.int _ _) (fitL_cons (.str _ (by decide)) (fitL_cons fit_nil (fitL_cons fit_nil (fitL_cons fit_nil (fitL_cons fit_nil fitL_nil))))))))))
theorem fzEdt : FitL (eEdt zEdt) := (fitL_cons fit_nil (fitL_cons (.int _ _) (fitL_cons (.int _ _) (fitL_cons (.int _ _) (fitL_cons (.str _ (by decide)) (fitL_cons fit_nil (fitL_cons fit_nil (fitL_cons fit_nil (fitL_cons fit_nil fitL_nil)))))))))
theorem fzLnk : FitL (eLnk zLnk) := (fitL_cons fit_nil (fitL_cons (.str _ (by decide)) (fitL_cons (.str _ (by decide)) (fitL_cons fit_nil (fitL_cons fit_nil (fitL_cons fit_nil (fitL_cons fit_nil (fitL_cons fit_nil (fitL_cons fit_nil (fitL_cons fit_nil fitL_nil))))))))))
theorem fit_getD {α : Type} {e e' : α → List D} {xs : List α} {z : α} (h : Fit (.list (xs.map e))) (he : ∀ x, e x = e' x) (hz : FitL (e' z)) (i : Nat) : FitL (e' (xs.getD i z)) := by
  rw [List.getD_eq_getElem?_getD]
  cases hi : xs[i]? with
  | none => exact hz
  | some x => rw [Option.getD_some, ← he]; exact h.el hi
end Go.Eng
