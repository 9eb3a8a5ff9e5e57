import Derived.Test.YtchkcemlglpobaaGreatCf23
import Derived.Test.YtchkcemlglpobaaGreatCf10
import Derived.Test.YtchkcemlglpobaaGreatRows
import Derived.WalkKit
import Derived.ProofKit
import Derived.OpenShut
import Derived.Carry
import Derived.Deep.DeepHandedRow
import Derived.Test.YtchkcemlglpobaaGreatCf11
import Derived.Test.YtchkcemlglpobaaGreatCf00
namespace Go.Proofs.YtchkcemlglpobaaGreat
set_option maxRecDepth 100000
set_option linter.all false
open Go Go.Eng
abbrev LG:List (Ad×Bool):=[((1,6),false),((1,8),false),((1,9),true)]
abbrev I0:List (Ad×Bool):=[((1,6),false),((1,8),false),((1,11),true)]
abbrev Gp:List (Ad×Bool):=[((1,4),false),((1,5),false),((1,6),false),((1,8),false)]
abbrev Cm(a:Val):Ad×Blk:=((1,6),⟨0,true,35,7,[vI a.kind,.d (.int .u64 a.bits),vS a.text,vL Aq a.list,vL Ar a.pairs,vL Ai a.slots,vL Ay a.raws]⟩)
abbrev Cj:Ad×Blk:=((1,8),⟨0,true,35,7,[vI 0,.d (.int .u64 0),vS ⟨#[]⟩,.e0,.e0,.e0,.e0]⟩)
abbrev Gg(a:Scm):Ad×Blk:=((1,4),⟨0,true,26,3,[vL Aw a.messages,vL AO a.enums,vL AS a.services]⟩)
abbrev IR:Val→AV:=fun y=>.agg ((Ag y).map .d)
def q7(b:Scm)(c:Fld)(d:Val)(e:Bool):List Val×Nat→St:=fun(a,v2)=>Ab [(3,vB e),(4,.iptr (As b) 0),(5,.iptr (Ap c) 0),(6,.ptr (1,6) 0 0),(8,.ptr (1,8) 0 0),(9,.ref (1,9) 0 0 a.length),(10,vN v2)] [(Cm d),Cj,((1,9),⟨0,true,35,7,Af Aq a⟩)]
def n0(b:Val):List Val→Nat×St:=fun a=>(1,Ab [(6,.ptr (1,6) 0 0),(8,.ptr (1,8) 0 0),(9,.ref (1,9) 0 0 a.length)] [(Cm b),Cj,((1,9),⟨0,true,35,7,Af Aq a⟩)])
def R4(c:Scm)(d:Fld)(e:Val)(f:Bool)(b:List Val)(v2:Nat)(a:Val):PT 0 (Lv (List Val×Nat) (List Val) (Val)):=vs (wa v2 1)<|vz (fl (b++[a]))<|ln (q7 c d e f) (b++[a],v2+1)
def SL(d:Scm)(e:Fld)(h:Val)(f:Bool)(g:Scm→Typ→Val→Bool→Option (Val))(c:List Val)(v2:Nat):PT 0 (Lv (List Val×Nat) (List Val) (Val)):=vw .go<|ix h.list v2 fun b=>cs Tryz.prog 73 [.agg ((As d).map .d),.agg ((B1 e.type).map .d),.agg ((Ag b).map .d),vB f] [] [] (g d e.type b f) (fun y=>.agg ((Ag y).map .d)) fun a=>vw .sep<|ap c (a:Val)<|vz (fl (c++[a]))<|lc (Ab [(3,vB f),(4,.iptr (As d) 0),(5,.iptr (Ap e) 0),(6,.ptr (1,6) 0 0),(8,.ptr (1,8) 0 0),(9,.ref (1,9) 0 0 (c++[a]).length),(10,vN v2)] [(Cm h),Cj,((1,9),⟨0,true,35,7,Af Aq (c++[a])⟩)]) ((R4 d e h f c v2 a).m)
def R9(d:Scm)(e:Fld)(b:Val)(f:Bool)(c:Scm→Typ→Val→Bool→Option (Val))(a:List Val)(v2:Nat):PT 0 (Lv (List Val×Nat) (List Val) (Val)):=vw .go<|vz (Ah b.list)<|br (decide ((v2:Int)<(b.list.length:Int))) (vz (fl a)<|lc (Ab [(3,vB f),(4,.iptr (As d) 0),(5,.iptr (Ap e) 0),(6,.ptr (1,6) 0 0),(8,.ptr (1,8) 0 0),(9,.ref (1,9) 0 0 a.length),(10,vN v2)] [(Cm b),Cj,((1,9),⟨0,true,35,7,Af Aq a⟩)]) ((SL d e b f c a v2).m)) (vz (fl a)<|Al (n0 b) a)
def Nd(b:Scm)(c:Fld)(d:Val)(e:Bool)(a:Scm→Typ→Val→Bool→Option (Val)):List Val×Nat→Option (Lv (List Val×Nat) (List Val) (Val)):=fun(f,v2)=>(R9 b c d e a f v2).m
def M2(a:Val)(b:List Val):PT 0 (Val):=vw .go<|vw .go<|vw .go<|vz (fr b)<|lr IR (fun _=>[]) (.mk a.kind a.bits a.text b a.pairs a.slots a.raws:Val)
def MQ(d:Scm)(e:Fld)(b:Val)(f:Bool)(a:Scm→Typ→Val→Bool→Option (Val)):PT 0 (Val):=vw (.ads 9 9 35 7)<|vw (.fzb 4 [4])<|vw (.fzb 5 [5])<|vz (fl ([]:List Val))<|lc (Ab [(3,vB f),(4,.iptr (As d) 0),(5,.iptr (Ap e) 0),(6,.ptr (1,6) 0 0),(8,.ptr (1,8) 0 0),(9,.ref (1,9) 0 0 ([]:List Val).length),(10,vI 0)] [(Cm b),Cj,((1,9),⟨0,true,35,7,Af Aq ([]:List Val)⟩)]) ((Am (Nd d e b f a) Aj (([]:List Val),0)).bind (Sum.elim (fun c=>(M2 b c).m) some))
def M5(c:Scm)(a:Fld)(d:Val)(e:Bool)(b:Scm→Typ→Val→Bool→Option (Val)):PT 0 (Val):=lc (Ab [(3,vB e),(4,.ptr (1,4) 0 0),(5,.ptr (1,5) 0 0),(6,.ptr (1,6) 0 0),(8,.ptr (1,8) 0 0),(9,.e0),(10,vI 0)] [(Gg c),((1,5),⟨0,true,55,16,[vI a.num,vS a.name,vI a.card,vI a.key,vI a.type.kind,vS a.type.name,vS a.union,vB a.hasDefault,vI a.dflt.kind,.d (.int .u64 a.dflt.bits),vS a.dflt.text,vL Aq a.dflt.list,vL Ar a.dflt.pairs,vL Ai a.dflt.slots,vL Ay a.dflt.raws,vL AG a.notes]⟩),(Cm d),Cj]) ((MQ c a d e b).m)
def M6(c:Scm)(a:Fld)(d:Val)(e:Bool)(b:Scm→Typ→Val→Bool→Option (Val)):PT 0 (Val):=lc (Ab [(3,vB e),(4,.ptr (1,4) 0 0),(5,.ptr (1,5) 0 0),(6,.ptr (1,6) 0 0),(8,.ptr (1,8) 0 0),(9,.e0)] [(Gg c),((1,5),⟨0,true,55,16,[vI a.num,vS a.name,vI a.card,vI a.key,vI a.type.kind,vS a.type.name,vS a.union,vB a.hasDefault,vI a.dflt.kind,.d (.int .u64 a.dflt.bits),vS a.dflt.text,vL Aq a.dflt.list,vL Ar a.dflt.pairs,vL Ai a.dflt.slots,vL Ay a.dflt.raws,vL AG a.notes]⟩),(Cm d),Cj]) ((M5 c a d e b).m)
def nh(c:Scm)(d:Fld)(e:Val)(f:Bool):List Pr×Nat→St:=fun(a,b)=>Ab [(3,vB f),(4,.iptr (As c) 0),(5,.iptr (Ap d) 0),(6,.ptr (1,6) 0 0),(8,.ptr (1,8) 0 0),(11,.ref (1,11) 0 0 a.length),(12,vN b)] [(Cm e),Cj,((1,11),⟨0,true,71,14,Af Ar a⟩)]
def m0(b:Val):List Pr→Nat×St:=fun a=>(3,Ab [(6,.ptr (1,6) 0 0),(8,.ptr (1,8) 0 0),(11,.ref (1,11) 0 0 a.length)] [(Cm b),Cj,((1,11),⟨0,true,71,14,Af Ar a⟩)])
def Kd(e:Scm)(f:Fld)(g:Val)(h:Bool)(b:List Pr)(c:Nat)(a:Pr)(d:Val):PT 0 (Lv (List Pr×Nat) (List Pr) (Val)):=vs (wa c 1)<|vz (fl (b++([(.mk a.key d:Pr)])))<|ln (nh e f g h) (b++([(.mk a.key d:Pr)]),c+1)
def S3(f:Scm)(g:Fld)(i:Val)(h:Bool)(j:Scm→Typ→Val→Bool→Option (Val))(c:List Pr)(d:Nat):PT 0 (Lv (List Pr×Nat) (List Pr) (Val)):=vw .go<|ix i.pairs d fun e=>tw (vw .go<|ix i.pairs d fun a=>du (cs Tryz.prog 73 [.agg ((As f).map .d),.agg ((B1 g.type).map .d),.agg ((Ag e.val).map .d),vB h] [] [] (j f g.type e.val h) (fun y=>.agg ((Ag y).map .d)) fun b=>vw .sep<|ap c ((.mk a.key b:Pr):Pr)<|vz (fl (c++([(.mk a.key b:Pr)])))<|lc (Ab [(3,vB h),(4,.iptr (As f) 0),(5,.iptr (Ap g) 0),(6,.ptr (1,6) 0 0),(8,.ptr (1,8) 0 0),(11,.ref (1,11) 0 0 (c++([(.mk a.key b:Pr)])).length),(12,vN d)] [(Cm i),Cj,((1,11),⟨0,true,71,14,Af Ar (c++([(.mk a.key b:Pr)]))⟩)]) ((Kd f g i h c d a b).m))) (cs Tryz.prog 73 [.agg ((As f).map .d),.agg ((B1 g.type).map .d),.agg ((Ag e.val).map .d),vB h] [] [] (j f g.type e.val h) (fun y=>.agg ((Ag y).map .d)) fun b=>vw .go<|ix i.pairs d fun a=>vw .sep<|ap c ((.mk a.key b:Pr):Pr)<|vz (fl (c++([(.mk a.key b:Pr)])))<|lc (Ab [(3,vB h),(4,.iptr (As f) 0),(5,.iptr (Ap g) 0),(6,.ptr (1,6) 0 0),(8,.ptr (1,8) 0 0),(11,.ref (1,11) 0 0 (c++([(.mk a.key b:Pr)])).length),(12,vN d)] [(Cm i),Cj,((1,11),⟨0,true,71,14,Af Ar (c++([(.mk a.key b:Pr)]))⟩)]) ((Kd f g i h c d a b).m))
def QU(e:Scm)(f:Fld)(c:Val)(g:Bool)(d:Scm→Typ→Val→Bool→Option (Val))(a:List Pr)(b:Nat):PT 0 (Lv (List Pr×Nat) (List Pr) (Val)):=vw .go<|vz (Ah c.pairs)<|br (decide ((b:Int)<(c.pairs.length:Int))) (vz (fl a)<|lc (Ab [(3,vB g),(4,.iptr (As e) 0),(5,.iptr (Ap f) 0),(6,.ptr (1,6) 0 0),(8,.ptr (1,8) 0 0),(11,.ref (1,11) 0 0 a.length),(12,vN b)] [(Cm c),Cj,((1,11),⟨0,true,71,14,Af Ar a⟩)]) ((S3 e f c g d a b).m)) (vz (fl a)<|Al (m0 c) a)
def M0(d:Scm)(e:Fld)(f:Val)(g:Bool)(a:Scm→Typ→Val→Bool→Option (Val)):List Pr×Nat→Option (Lv (List Pr×Nat) (List Pr) (Val)):=fun(b,c)=>(QU d e f g a b c).m
def MC(b:Val)(a:List Pr):PT 0 (Val):=vw .go<|vw .go<|vw .go<|vz (fr a)<|lr IR (fun _=>[]) (.mk b.kind b.bits b.text b.list a b.slots b.raws:Val)
def Mt(d:Scm)(e:Fld)(c:Val)(f:Bool)(b:Scm→Typ→Val→Bool→Option (Val)):PT 0 (Val):=vw (.ads 11 11 71 14)<|vw (.fzb 4 [4])<|vw (.fzb 5 [5])<|vz (fl ([]:List Pr))<|lc (Ab [(3,vB f),(4,.iptr (As d) 0),(5,.iptr (Ap e) 0),(6,.ptr (1,6) 0 0),(8,.ptr (1,8) 0 0),(11,.ref (1,11) 0 0 ([]:List Pr).length),(12,vI 0)] [(Cm c),Cj,((1,11),⟨0,true,71,14,Af Ar ([]:List Pr)⟩)]) ((Am (M0 d e c f b) Aj (([]:List Pr),0)).bind (Sum.elim (fun a=>(MC c a).m) some))
def MI(c:Scm)(a:Fld)(d:Val)(e:Bool)(b:Scm→Typ→Val→Bool→Option (Val)):PT 0 (Val):=lc (Ab [(3,vB e),(4,.ptr (1,4) 0 0),(5,.ptr (1,5) 0 0),(6,.ptr (1,6) 0 0),(8,.ptr (1,8) 0 0),(11,.e0),(12,vI 0)] [(Gg c),((1,5),⟨0,true,55,16,[vI a.num,vS a.name,vI a.card,vI a.key,vI a.type.kind,vS a.type.name,vS a.union,vB a.hasDefault,vI a.dflt.kind,.d (.int .u64 a.dflt.bits),vS a.dflt.text,vL Aq a.dflt.list,vL Ar a.dflt.pairs,vL Ai a.dflt.slots,vL Ay a.dflt.raws,vL AG a.notes]⟩),(Cm d),Cj]) ((Mt c a d e b).m)
def Mw(c:Scm)(a:Fld)(d:Val)(e:Bool)(b:Scm→Typ→Val→Bool→Option (Val)):PT 0 (Val):=lc (Ab [(3,vB e),(4,.ptr (1,4) 0 0),(5,.ptr (1,5) 0 0),(6,.ptr (1,6) 0 0),(8,.ptr (1,8) 0 0),(11,.e0)] [(Gg c),((1,5),⟨0,true,55,16,[vI a.num,vS a.name,vI a.card,vI a.key,vI a.type.kind,vS a.type.name,vS a.union,vB a.hasDefault,vI a.dflt.kind,.d (.int .u64 a.dflt.bits),vS a.dflt.text,vL Aq a.dflt.list,vL Ar a.dflt.pairs,vL Ai a.dflt.slots,vL Ay a.dflt.raws,vL AG a.notes]⟩),(Cm d),Cj]) ((MI c a d e b).m)
def MM(c:Scm)(d:Fld)(e:Val)(f:Bool)(b:Scm→Typ→Val→Bool→Option (Val)):PT 0 (Val):=vw .go<|vw .go<|vw .go<|cs Tryz.prog 73 [.agg ((As c).map .d),.agg ((B1 d.type).map .d),.agg ((Ag e).map .d),vB f] [] [] (b c d.type e f) (fun y=>.agg ((Ag y).map .d)) fun a=>vw .go<|lr IR (fun _=>[]) a
def Mx(c:Scm)(a:Fld)(d:Val)(e:Bool)(b:Scm→Typ→Val→Bool→Option (Val)):PT 0 (Val):=lc (Ab [(3,vB e),(4,.ptr (1,4) 0 0),(5,.ptr (1,5) 0 0),(6,.ptr (1,6) 0 0),(8,.ptr (1,8) 0 0)] [(Gg c),((1,5),⟨0,true,55,16,[vI a.num,vS a.name,vI a.card,vI a.key,vI a.type.kind,vS a.type.name,vS a.union,vB a.hasDefault,vI a.dflt.kind,.d (.int .u64 a.dflt.bits),vS a.dflt.text,vL Aq a.dflt.list,vL Ar a.dflt.pairs,vL Ai a.dflt.slots,vL Ay a.dflt.raws,vL AG a.notes]⟩),(Cm d),Cj]) ((MM c a d e b).m)
def MD(c:Scm)(a:Fld)(d:Val)(e:Bool)(b:Scm→Typ→Val→Bool→Option (Val)):PT 0 (Val):=lc (Ab [(3,vB e),(4,.ptr (1,4) 0 0),(5,.ptr (1,5) 0 0),(6,.ptr (1,6) 0 0),(8,.ptr (1,8) 0 0),(40,vB (decide (a.card=(5:Int))))] [(Gg c),((1,5),⟨0,true,55,16,[vI a.num,vS a.name,vI a.card,vI a.key,vI a.type.kind,vS a.type.name,vS a.union,vB a.hasDefault,vI a.dflt.kind,.d (.int .u64 a.dflt.bits),vS a.dflt.text,vL Aq a.dflt.list,vL Ar a.dflt.pairs,vL Ai a.dflt.slots,vL Ay a.dflt.raws,vL AG a.notes]⟩),(Cm d),Cj]) (if decide (a.card=(5:Int))=true then(Mw c a d e b).m else(Mx c a d e b).m)
def ML(c:Scm)(a:Fld)(d:Val)(e:Bool)(b:Scm→Typ→Val→Bool→Option (Val)):PT 0 (Val):=lc (Ab [(3,vB e),(4,.ptr (1,4) 0 0),(5,.ptr (1,5) 0 0),(6,.ptr (1,6) 0 0),(8,.ptr (1,8) 0 0),(14,vI a.card),(15,vB (decide (a.card=(4:Int))))] [(Gg c),((1,5),⟨0,true,55,16,[vI a.num,vS a.name,vI a.card,vI a.key,vI a.type.kind,vS a.type.name,vS a.union,vB a.hasDefault,vI a.dflt.kind,.d (.int .u64 a.dflt.bits),vS a.dflt.text,vL Aq a.dflt.list,vL Ar a.dflt.pairs,vL Ai a.dflt.slots,vL Ay a.dflt.raws,vL AG a.notes]⟩),(Cm d),Cj]) (if decide (a.card=(4:Int))=true then(M6 c a d e b).m else(MD c a d e b).m)
def MK(c:Scm)(a:Fld)(d:Val)(e:Bool)(b:Scm→Typ→Val→Bool→Option (Val)):PT 0 (Val):=vw .go<|lc (Ab [(3,vB e),(4,.ptr (1,4) 0 0),(5,.ptr (1,5) 0 0),(6,.ptr (1,6) 0 0),(8,.ptr (1,8) 0 0),(14,vI a.card)] [(Gg c),((1,5),⟨0,true,55,16,[vI a.num,vS a.name,vI a.card,vI a.key,vI a.type.kind,vS a.type.name,vS a.union,vB a.hasDefault,vI a.dflt.kind,.d (.int .u64 a.dflt.bits),vS a.dflt.text,vL Aq a.dflt.list,vL Ar a.dflt.pairs,vL Ai a.dflt.slots,vL Ay a.dflt.raws,vL AG a.notes]⟩),(Cm d),Cj]) ((ML c a d e b).m)
def MO(c:Scm)(a:Fld)(d:Val)(e:Bool)(b:Scm→Typ→Val→Bool→Option (Val)):PT 0 (Val):=lc (Ab [(3,vB e),(4,.ptr (1,4) 0 0),(5,.ptr (1,5) 0 0),(6,.ptr (1,6) 0 0),(8,.ptr (1,8) 0 0)] [(Gg c),((1,5),⟨0,true,55,16,[vI a.num,vS a.name,vI a.card,vI a.key,vI a.type.kind,vS a.type.name,vS a.union,vB a.hasDefault,vI a.dflt.kind,.d (.int .u64 a.dflt.bits),vS a.dflt.text,vL Aq a.dflt.list,vL Ar a.dflt.pairs,vL Ai a.dflt.slots,vL Ay a.dflt.raws,vL AG a.notes]⟩),(Cm d),Cj]) ((MK c a d e b).m)
def Iq(a:Scm→Typ→Val→Bool→Option (Val))(b:Scm)(c:Fld)(d:Val)(e:Bool):Option (Val):=(MO b c d e a).m
theorem ZEe{C:Cx}(co:CO C 0)(a:Scm)(b:Fld)(e:Val)(c:Bool)(d:Scm→Typ→Val→Bool→Option (Val))(i:∀(a:Scm) (b:Typ) (e:Val) (c:Bool),KC Tryz.prog 73 [.agg ((As a).map .d),.agg ((B1 b).map .d),.agg ((Ag e).map .d),vB c] (d a b e c) Dz):KL Tryz.prog (AH tl) 79 C (pa [0,0,1,0,1,0,1,0,1,0,1] (AD Tryz.f36)) [.cell 8 35] 0 (q7 a b e c) (n0 e) IR (fun _=>[]) (Nd a b e c d):=fun(j,v2) _ hm Q l m h=>Ak co Aa Ac 1 (R9 a b e c d j v2) (Ae [3,4,5,6,8,9,10] LG) (Ae [6,8,9] LG) m hm h fun r g=>⟨fun _ hm h=>sq (bk 2 (C7 co Aa Ac (.fst 0 (.fst 1 (.fst 2 (.fst 3 (.fst 4 (.fst 6 (.fst 9 (.fst 5 (.fst 7 (.fst 8 (.fst 10 (.fst 11 (.fst 12 (.fst 13 .nil)))))))))))))) [4,5] (SL a b e c d j v2) (Ae [3,4,5,6,8,9,10] LG) hm h fun r g=>fun f=>⟨fun y hy n _ _=>by rw[(i a b.type f c).x,(i a b.type f c).e];exact(i a b.type f c).k _ n y hy,fun k=>fun _ hm h=>AA co Aa Ac (R4 a b e c j v2 k) (Ae [3,4,5,6,8,9,10] LG) nl m hm h fun r g=>id⟩)),id⟩
theorem ZE5{C:Cx}(co:CO C 0)(a:Scm)(b:Fld)(e:Val)(c:Bool)(f:Scm→Typ→Val→Bool→Option (Val))(n:∀(a:Scm) (b:Typ) (e:Val) (c:Bool),KC Tryz.prog 73 [.agg ((As a).map .d),.agg ((B1 b).map .d),.agg ((Ag e).map .d),vB c] (f a b e c) Dz):KL Tryz.prog (AH tl) 79 C (pa [0,0,1,0,1,0,1,1,1,0,1,0,1] (AD Tryz.f36)) [.cell 8 35] 0 (nh a b e c) (m0 e) IR (fun _=>[]) (M0 a b e c f):=fun(i,j) _ hm Q q p l=>Ak co Aa Ac 1 (QU a b e c f i j) (Ae [3,4,5,6,8,11,12] I0) (Ae [6,8,11] I0) p hm l fun r g=>⟨fun _ hm l=>sq (bk 4 (C7 co Aa Ac (.fst 0 (.fst 1 (.fst 3 (.fst 7 (.fst 8 (.fst 9 (.fst 10 (.fst 12 (.fst 16 (.fst 11 (.fst 13 (.fst 14 (.fst 15 (.two 2 17 (.fst 4 (.fst 5 (.two 6 17 (.fst 17 (.fst 18 (.fst 19 (.fst 20 (.fst 21 .nil))))) (.fst 6 (.fst 18 (.fst 19 (.fst 20 (.fst 21 .nil)))))))) (.fst 2 (.fst 4 (.fst 5 (.fst 6 (.fst 18 (.fst 19 (.fst 20 (.fst 21 .nil)))))))))))))))))))))) [4,5] (S3 a b e c f i j) (Ae [3,4,5,6,8,11,12] I0) hm l fun r g=>fun d=>⟨fun k=>⟨fun y hy o _ _=>by rw[(n a b.type d.val c).x,(n a b.type d.val c).e];exact(n a b.type d.val c).k _ o y hy,fun m=>fun _ hm l=>AA co Aa Ac (Kd a b e c i j k m) (Ae [3,4,5,6,8,11,12] I0) nl p hm l fun r g=>id⟩,⟨fun y hy o _ _=>by rw[(n a b.type d.val c).x,(n a b.type d.val c).e];exact(n a b.type d.val c).k _ o y hy,fun m=>fun k=>fun _ hm l=>AA co Aa Ac (Kd a b e c i j k m) (Ae [3,4,5,6,8,11,12] I0) nl p hm l fun r g=>id⟩,fun _ h=>by first|exact h|exact bcm h⟩)),id⟩
theorem I8(a:Scm→Typ→Val→Bool→Option (Val))(i:∀(e:Scm) (c:Typ) (d:Val) (f:Bool),KC Tryz.prog 73 [.agg ((As e).map .d),.agg ((B1 c).map .d),.agg ((Ag d).map .d),vB f] (a e c d f) Dz)(e:Scm)(c:Fld)(d:Val)(f:Bool):KC Tryz.prog 36 [.agg ((As e).map .d),.agg ((Ap c).map .d),.agg ((Ag d).map .d),vB f] (Iq a e c d f) IR:=Au Tryz.func36 Tryz.ntmps36 Aa [.cell 8 35] fun C co y hm l b=>Ak co Aa Ac 1 (MO e c d f a) (Ae [3,4,5,6,8] Gp) nl (fun _ h=>h) hm b fun r g=>fun _ hm b=>sq (Ak co Aa Ac 1 (MK e c d f a) (Ae [3,4,5,6,8,14] Gp) nl (fun _ h=>h) hm b fun r g=>fun _ hm b=>bk 0 (Ak co Aa Ac 1 (ML e c d f a) (Ae [3,4,5,6,8,14,15] Gp) nl (fun _ h=>h) hm b fun r g=>fun _ hm b=>cd (decide (c.card=(4:Int))) hm (fun hm=>Ak co Aa Ac 1 (M6 e c d f a) (Ae [3,4,5,6,8,9] Gp) nl (fun _ h=>h) hm b fun r g=>fun _ hm b=>sq (Ak co Aa Ac 1 (M5 e c d f a) (Ae [3,4,5,6,8,9,10] Gp) nl (fun _ h=>h) hm b fun r g=>fun _ hm b=>bk 1 (DR co (MQ e c d f a) (Ae [3,4,5,6,8,9,10] LG) hm b fun r g=>fun _ hm b=>lo (AL (ZEe co e c d f a i) (fun _ h=>h) hm b (fun k hm=>AA co Aa Ac (M2 d k) nl nl (fun _ h=>h) hm b fun r g=>id))))) (fun hm=>Ak co Aa Ac 1 (MD e c d f a) (Ae [3,4,5,6,8,40] Gp) nl (fun _ h=>h) hm b fun r g=>fun _ hm b=>cd (decide (c.card=(5:Int))) hm (fun hm=>Ak co Aa Ac 1 (Mw e c d f a) (Ae [3,4,5,6,8,11] Gp) nl (fun _ h=>h) hm b fun r g=>fun _ hm b=>sq (Ak co Aa Ac 1 (MI e c d f a) (Ae [3,4,5,6,8,11,12] Gp) nl (fun _ h=>h) hm b fun r g=>fun _ hm b=>bk 3 (DR co (Mt e c d f a) (Ae [3,4,5,6,8,11,12] I0) hm b fun r g=>fun _ hm b=>lo (AL (ZE5 co e c d f a i) (fun _ h=>h) hm b (fun j hm=>AA co Aa Ac (MC d j) nl nl (fun _ h=>h) hm b fun r g=>id))))) (fun hm=>AA co Aa Ac (Mx e c d f a) (Ae [3,4,5,6,8] Gp) nl (fun _ h=>h) hm b fun r g=>fun _ hm b=>Ao co Aa Ac (MM e c d f a) hm b fun r g=>⟨fun y hy n _ _=>by rw[(i e c.type d f).x,(i e c.type d f).e];exact(i e c.type d f).k _ n y hy,fun m=>id⟩))))
abbrev D2:List (Ad×Bool):=[((1,6),false),((1,9),true)]
abbrev X1:List (Ad×Bool):=[((1,6),false),((1,9),true),((1,11),false)]
abbrev Ex:Ad×Blk:=((1,6),⟨0,true,35,7,[vI 0,.d (.int .u64 0),vS ⟨#[]⟩,.e0,.e0,.e0,.e0]⟩)
abbrev qZ(a:Scm):Ad×Blk:=((1,3),⟨0,true,26,3,[vL Aw a.messages,vL AO a.enums,vL AS a.services]⟩)
abbrev qG(a:Val):Ad×Blk:=((1,5),⟨0,true,35,7,[vI a.kind,.d (.int .u64 a.bits),vS a.text,vL Aq a.list,vL Ar a.pairs,vL Ai a.slots,vL Ay a.raws]⟩)
abbrev m6(a:Msg×Bool):Ad×Blk:=((1,7),⟨0,true,49,5,[vS a.1.name,vL Ap a.1.fields,vL AW a.1.reserved,vL AE a.1.gone,vL AG a.1.notes]⟩)
abbrev Nx:Val→AV:=fun y=>.agg ((Ag y).map .d)
def qW(b:Scm)(c:Val)(d:Msg×Bool):List Slt×Nat→St:=fun(a,v3)=>Ab [(3,.iptr (As b) 0),(5,.iptr (Ag c) 0),(6,.ptr (1,6) 0 0),(7,.iptr (Aw d.1) 0),(9,.ref (1,9) 0 0 a.length),(10,vN v3)] [Ex,((1,9),⟨0,true,63,8,Af Ai a⟩)]
def qu(b:Val)(c:Msg×Bool):List Slt→Nat×St:=fun a=>(0,Ab [(5,.iptr (Ag b) 0),(6,.ptr (1,6) 0 0),(7,.iptr (Aw c.1) 0),(9,.ref (1,9) 0 0 a.length)] [Ex,((1,9),⟨0,true,63,8,Af Ai a⟩)])
def RV(d:Scm)(e:Val)(f:Msg×Bool)(b:List Slt)(v3:Nat)(a:Slt)(c:Val):PT 0 (Lv (List Slt×Nat) (List Slt) (Val)):=vs (wa v3 1)<|vz (fl (b++([(.mk a.num c:Slt)])))<|ln (qW d e f) (b++([(.mk a.num c:Slt)]),v3+1)
def RZ(d:Scm)(e:Val)(f:Scm→Typ→Val→Bool→Option (Val))(h:Msg×Bool)(b:List Slt)(v3:Nat)(i:Fld×Bool):PT 0 (Lv (List Slt×Nat) (List Slt) (Val)):=ix e.slots v3 fun a=>ix e.slots v3 fun g=>vw .go<|du (cs Tryz.prog 36 [.agg ((As d).map .d),.agg ((Ap i.1).map .d),.agg ((Ag g.val).map .d),vB true] [] [] (Iq f d i.1 g.val true) (fun y=>.agg ((Ag y).map .d)) fun c=>vw .sep<|ap b ((.mk a.num c:Slt):Slt)<|vz (fl (b++([(.mk a.num c:Slt)])))<|lc (Ab [(3,.iptr (As d) 0),(5,.iptr (Ag e) 0),(6,.ptr (1,6) 0 0),(7,.iptr (Aw h.1) 0),(9,.ref (1,9) 0 0 (b++([(.mk a.num c:Slt)])).length),(10,vN v3)] [Ex,((1,9),⟨0,true,63,8,Af Ai (b++([(.mk a.num c:Slt)]))⟩)]) ((RV d e h b v3 a c).m))
def Rs(f:Scm)(d:Val)(c:Scm→Typ→Val→Bool→Option (Val))(e:Msg×Bool)(b:List Slt)(v3:Nat):PT 0 (Lv (List Slt×Nat) (List Slt) (Val)):=ix d.slots v3 fun g=>du (cl (Lj e.1 g.num) fun a=>vw .go<|vz (fl b)<|lc (Ab [(3,.iptr (As f) 0),(5,.iptr (Ag d) 0),(6,.ptr (1,6) 0 0),(7,.iptr (Aw e.1) 0),(9,.ref (1,9) 0 0 b.length),(10,vN v3),(11,.ptr (1,11) 0 0)] [Ex,((1,9),⟨0,true,63,8,Af Ai b⟩),((1,11),⟨0,true,55,16,[vI a.1.num,vS a.1.name,vI a.1.card,vI a.1.key,vI a.1.type.kind,vS a.1.type.name,vS a.1.union,vB a.1.hasDefault,vI a.1.dflt.kind,.d (.int .u64 a.1.dflt.bits),vS a.1.dflt.text,vL Aq a.1.dflt.list,vL Ar a.1.dflt.pairs,vL Ai a.1.dflt.slots,vL Ay a.1.dflt.raws,vL AG a.1.notes]⟩)]) ((RZ f d c e b v3 a).m))
def SC(e:Scm)(b:Val)(c:Scm→Typ→Val→Bool→Option (Val))(d:Msg×Bool)(a:List Slt)(v3:Nat):PT 0 (Lv (List Slt×Nat) (List Slt) (Val)):=vz (Ah b.slots)<|br (decide ((v3:Int)<(b.slots.length:Int))) (vz (fl a)<|lc (Ab [(3,.iptr (As e) 0),(5,.iptr (Ag b) 0),(6,.ptr (1,6) 0 0),(7,.iptr (Aw d.1) 0),(9,.ref (1,9) 0 0 a.length),(10,vN v3)] [Ex,((1,9),⟨0,true,63,8,Af Ai a⟩)]) ((Rs e b c d a v3).m)) (vz (fl a)<|Al (qu b d) a)
def M7(b:Scm)(c:Val)(a:Scm→Typ→Val→Bool→Option (Val))(e:Msg×Bool):List Slt×Nat→Option (Lv (List Slt×Nat) (List Slt) (Val)):=fun(d,v3)=>(SC b c a e d v3).m
def V9(c:Val)(d:Msg×Bool):List Slt×Nat→St:=fun(a,b)=>Ab [(5,.iptr (Ag c) 0),(6,.ptr (1,6) 0 0),(7,.iptr (Aw d.1) 0),(9,vL Ai a),(13,vN b)] [Ex]
def pC(b:Val):List Slt→Nat×St:=fun a=>(2,Ab [(5,.iptr (Ag b) 0),(6,.ptr (1,6) 0 0),(9,vL Ai a)] [Ex])
def Sl(e:Val)(d:Msg×Bool)(c:List Slt)(b:Nat):PT 0 (Lv (List Slt×Nat) (List Slt) (Val)):=vz (Ah d.1.fields)<|br (decide ((b:Int)<(d.1.fields.length:Int))) (ix d.1.fields b fun a=>vw .go<|vw .go<|vw .go<|vw .go<|clg (a.hasDefault&&decide (a.union=(⟨#[]⟩:ByteArray))) (ZTQ e a.num) fun f=>br ((a.hasDefault&&decide (a.union=(⟨#[]⟩:ByteArray)))&&(!f)) (vw .go<|vw .go<|cl (ZT7 c (.mk a.num a.dflt:Slt)) fun g=>vs (wa b 1)<|ln (V9 e d) (g,b+1)) (vs (wa b 1)<|ln (V9 e d) (c,b+1))) (Al (pC e) c)
def MR(d:Val)(c:Scm→Typ→Val→Bool→Option (Val))(e:Msg×Bool):List Slt×Nat→Option (Lv (List Slt×Nat) (List Slt) (Val)):=fun(a,b)=>(Sl d e a b).m
def UZ(c:Val)(a:List Slt):PT 0 (Val):=cl (tL c a) fun b=>vw .go<|lr Nx (fun _=>[]) b
def WO(c:Val)(b:Scm→Typ→Val→Bool→Option (Val))(e:Msg×Bool)(a:List Slt):PT 0 (Val):=vw (.frz 9 [(9,(a.map Ai))] [])<|vz (fz a)<|lc (Ab [(5,.iptr (Ag c) 0),(6,.ptr (1,6) 0 0),(7,.iptr (Aw e.1) 0),(9,vL Ai a),(13,vI 0)] [Ex]) ((Am (MR c b e) Aj (a,0)).bind (Sum.elim (fun d=>(UZ c d).m) some))
def W6(c:Val)(b:Scm→Typ→Val→Bool→Option (Val))(d:Msg×Bool)(a:List Slt):PT 0 (Val):=vz (fl a)<|lc (Ab [(5,.iptr (Ag c) 0),(6,.ptr (1,6) 0 0),(7,.iptr (Aw d.1) 0),(9,.ref (1,9) 0 0 a.length),(13,vI 0)] [Ex,((1,9),⟨0,true,63,8,Af Ai a⟩)]) ((WO c b d a).m)
def Wg(d:Scm)(b:Val)(a:Scm→Typ→Val→Bool→Option (Val))(c:Msg×Bool):PT 0 (Val):=vw (.ads 9 9 63 8)<|vw (.fzb 3 [3])<|vw (.fzb 5 [5])<|vw (.fzb 7 [7])<|vz (fl ([]:List Slt))<|lc (Ab [(3,.iptr (As d) 0),(5,.iptr (Ag b) 0),(6,.ptr (1,6) 0 0),(7,.iptr (Aw c.1) 0),(9,.ref (1,9) 0 0 ([]:List Slt).length),(10,vI 0)] [Ex,((1,9),⟨0,true,63,8,Af Ai ([]:List Slt)⟩)]) ((Am (M7 d b a c) Aj (([]:List Slt),0)).bind (Sum.elim (fun e=>(W6 b a c e).m) some))
def iy(b:Scm)(c:Val)(a:Scm→Typ→Val→Bool→Option (Val))(d:Msg×Bool):PT 0 (Val):=lc (Ab [(3,.ptr (1,3) 0 0),(5,.ptr (1,5) 0 0),(6,.ptr (1,6) 0 0),(7,.ptr (1,7) 0 0),(9,.e0),(10,vI 0)] [(qZ b),(qG c),Ex,(m6 d)]) ((Wg b c a d).m)
def ec(b:Scm)(e:ByteArray)(c:Val)(a:Scm→Typ→Val→Bool→Option (Val)):PT 0 (Val):=vw .go<|cl (OG b e) fun d=>vw .go<|lc (Ab [(3,.ptr (1,3) 0 0),(5,.ptr (1,5) 0 0),(6,.ptr (1,6) 0 0),(7,.ptr (1,7) 0 0),(9,.e0)] [(qZ b),(qG c),Ex,(m6 d)]) ((iy b c a d).m)
def PJ(a:Scm→Typ→Val→Bool→Option (Val))(b:Scm)(c:ByteArray)(d:Val):Option (Val):=(ec b c d a).m
theorem ZCq{C:Cx}(co:CO C 0)(b:Scm)(c:Val)(a:Scm→Typ→Val→Bool→Option (Val))(e:Msg×Bool)(j:∀(b:Scm) (m:Typ) (c:Val) (n:Bool),KC Tryz.prog 73 [.agg ((As b).map .d),.agg ((B1 m).map .d),.agg ((Ag c).map .d),vB n] (a b m c n) Dz):KL Tryz.prog (AH tl) 94 C (pa [0,0,1,0,1,1,1] (AD Tryz.f14)) [.cell 6 35] 0 (qW b c e) (qu c e) Nx (fun _=>[]) (M7 b c a e):=fun(f,v3) _ hm Q k l d=>Ak co Aa Ac 1 (SC b c a e f v3) (Ae [3,5,6,7,9,10] D2) (Ae [5,6,7,9] D2) l hm d fun r g=>⟨fun _ hm d=>sq (bk 1 (sq (C7 co Aa Ac (.fst 0 (.fst 1 (.fst 2 (.fst 3 (.fst 4 (.fst 5 (.fst 6 (.two 7 11 (.fst 8 (.fst 9 (.fst 10 (.fst 11 (.fst 12 (.fst 13 .nil)))))) (.fst 7 (.fst 8 (.fst 9 (.fst 10 (.fst 12 (.fst 13 .nil)))))))))))))) [5,7] (Rs b c a e f v3) (Ae [3,5,6,7,9,10,11] X1) hm d fun r g=>fun s=>fun h=>fun _ hm d=>C7 co Aa Ac (.fst 0 (.fst 1 (.fst 2 (.fst 3 (.fst 4 (.fst 5 (.fst 7 (.fst 9 (.fst 10 (.fst 11 (.fst 12 (.fst 13 (.fst 8 (.fst 14 (.two 6 15 (.fst 15 (.fst 16 (.fst 17 (.fst 18 (.fst 19 .nil))))) (.fst 6 (.fst 16 (.fst 17 (.fst 18 (.fst 19 .nil)))))))))))))))))))) [3,5] (RZ b c a e f v3 h) (Ae [3,5,6,7,9,10] D2) hm d fun r g=>fun p=>fun i=>⟨fun y hy o _ _=>by rw[(I8 a j b h.1 i.val true).x,(I8 a j b h.1 i.val true).e];exact(I8 a j b h.1 i.val true).k _ o y hy,fun q=>fun _ hm d=>AA co Aa Ac (RV b c e f v3 p q) (Ae [3,5,6,7,9,10] D2) nl l hm d fun r g=>id⟩))),id⟩
theorem ZFH{C:Cx}(co:CO C 0)(a:Val)(b:Scm→Typ→Val→Bool→Option (Val))(e:Msg×Bool)(p:∀(h:Scm) (i:Typ) (a:Val) (j:Bool),KC Tryz.prog 73 [.agg ((As h).map .d),.agg ((B1 i).map .d),.agg ((Ag a).map .d),vB j] (b h i a j) Dz):KL Tryz.prog (AH tl) 94 C (pa [0,0,1,0,1,1,1,1] (AD Tryz.f14)) [.cell 6 35] 0 (V9 a e) (pC a) Nx (fun _=>[]) (MR a b e):=fun(c,d) _ hm Q f m l=>AA co Aa Ac (Sl a e c d) (Ae [5,6,7,9,13] [((1,6),false)]) (Ae [5,6,9] [((1,6),false)]) m hm l fun r g=>⟨fun k=>fun n=>⟨fun o=>id,id⟩,id⟩
theorem OE(a:Scm→Typ→Val→Bool→Option (Val))(k:∀(d:Scm) (e:Typ) (c:Val) (l:Bool),KC Tryz.prog 73 [.agg ((As d).map .d),.agg ((B1 e).map .d),.agg ((Ag c).map .d),vB l] (a d e c l) Dz)(d:Scm)(e:ByteArray)(c:Val):KC Tryz.prog 14 [.agg ((As d).map .d),vS e,.agg ((Ag c).map .d)] (PJ a d e c) Nx:=Au Tryz.func14 Tryz.ntmps14 Aa [.cell 6 35] fun C co y hm j b=>Ak co Aa Ac 3 (ec d e c a) (Ae [3,5,6,7,9] Jc) nl (fun _ h=>h) hm b fun r g=>fun f=>fun _ hm b=>sq (Ak co Aa Ac 1 (iy d c a f) (Ae [3,5,6,7,9,10] Jc) nl (fun _ h=>h) hm b fun r g=>fun _ hm b=>bk 0 (DR co (Wg d c a f) (Ae [3,5,6,7,9,10] D2) hm b fun r g=>fun _ hm b=>lo (AL (ZCq co d c a f k) (fun _ h=>h) hm b (fun m hm=>sq (Ak co Aa Ac 1 (W6 c a f m) (Ae [5,6,7,9,13] D2) nl (fun _ h=>h) hm b fun r g=>fun _ hm b=>bk 2 (DR co (WO c a f m) (Ae [5,6,7,9,13] [((1,6),false)]) hm b fun r g=>fun _ hm b=>lo (AL (ZFH co c a f k) (fun _ h=>h) hm b (fun i hm=>Ao co Aa Ac (UZ c i) hm b fun r g=>fun n=>id))))))))
abbrev Fv:Ad×Blk:=((1,6),⟨0,true,35,7,[vI 0,.d (.int .u64 0),vS ⟨#[]⟩,.e0,.e0,.e0,.e0]⟩)
abbrev Na(a:List Slt):Ad×Blk:=((1,9),⟨0,true,63,8,Af Ai a⟩)
abbrev p6(a:Fld×Bool):Ad×Blk:=((1,11),⟨0,true,55,16,[vI a.1.num,vS a.1.name,vI a.1.card,vI a.1.key,vI a.1.type.kind,vS a.1.type.name,vS a.1.union,vB a.1.hasDefault,vI a.1.dflt.kind,.d (.int .u64 a.1.dflt.bits),vS a.1.dflt.text,vL Aq a.1.dflt.list,vL Ar a.1.dflt.pairs,vL Ai a.1.dflt.slots,vL Ay a.1.dflt.raws,vL AG a.1.notes]⟩)
abbrev ou(a:Scm):Ad×Blk:=((1,3),⟨0,true,26,3,[vL Aw a.messages,vL AO a.enums,vL AS a.services]⟩)
abbrev oH(a:Val):Ad×Blk:=((1,5),⟨0,true,35,7,[vI a.kind,.d (.int .u64 a.bits),vS a.text,vL Aq a.list,vL Ar a.pairs,vL Ai a.slots,vL Ay a.raws]⟩)
abbrev pz(a:Msg×Bool):Ad×Blk:=((1,7),⟨0,true,49,5,[vS a.1.name,vL Ap a.1.fields,vL AW a.1.reserved,vL AE a.1.gone,vL AG a.1.notes]⟩)
abbrev Tv:Val→AV:=fun y=>.agg ((Ag y).map .d)
def WB(b:Scm)(c:Val)(d:Msg×Bool):List Slt×Nat→St:=fun(a,v3)=>Ab [(3,.iptr (As b) 0),(5,.iptr (Ag c) 0),(6,.ptr (1,6) 0 0),(7,.iptr (Aw d.1) 0),(9,.ref (1,9) 0 0 a.length),(10,vN v3)] [Fv,(Na a)]
def nA(b:Val):List Slt→Nat×St:=fun a=>(0,Ab [(5,.iptr (Ag b) 0),(6,.ptr (1,6) 0 0),(9,.ref (1,9) 0 0 a.length)] [Fv,((1,9),⟨0,true,63,8,Af Ai a⟩)])
def Si(d:Scm)(e:Val)(f:Msg×Bool)(c:List Slt)(v3:Nat)(b:Slt)(a:Val):PT 0 (Lv (List Slt×Nat) (List Slt) (Val)):=vs (wa v3 1)<|vz (fl (c++([(.mk b.num a:Slt)])))<|ln (WB d e f) (c++([(.mk b.num a:Slt)]),v3+1)
def R6(d:Scm)(e:Val)(f:Scm→Typ→Val→Bool→Option (Val))(h:Msg×Bool)(c:List Slt)(v3:Nat)(i:Fld×Bool):PT 0 (Lv (List Slt×Nat) (List Slt) (Val)):=ix e.slots v3 fun b=>ix e.slots v3 fun g=>vw .go<|du (cs Tryz.prog 36 [.agg ((As d).map .d),.agg ((Ap i.1).map .d),.agg ((Ag g.val).map .d),vB false] [] [] (Iq f d i.1 g.val false) (fun y=>.agg ((Ag y).map .d)) fun a=>vw .sep<|ap c ((.mk b.num a:Slt):Slt)<|vz (fl (c++([(.mk b.num a:Slt)])))<|lc (Ab [(3,.iptr (As d) 0),(5,.iptr (Ag e) 0),(6,.ptr (1,6) 0 0),(7,.iptr (Aw h.1) 0),(9,.ref (1,9) 0 0 (c++([(.mk b.num a:Slt)])).length),(10,vN v3)] [Fv,((1,9),⟨0,true,63,8,Af Ai (c++([(.mk b.num a:Slt)]))⟩)]) ((Si d e h c v3 b a).m))
def Sh(b:Scm)(c:Val)(d:Msg×Bool)(a:List Slt)(v3:Nat):PT 0 (Lv (List Slt×Nat) (List Slt) (Val)):=vs (wa v3 1)<|vz (fl a)<|ln (WB b c d) (a,v3+1)
def Sa(b:Scm)(c:Val)(d:Msg×Bool)(a:List Slt)(v3:Nat):PT 0 (Lv (List Slt×Nat) (List Slt) (Val)):=vz (fl a)<|lc (Ab [(3,.iptr (As b) 0),(5,.iptr (Ag c) 0),(6,.ptr (1,6) 0 0),(7,.iptr (Aw d.1) 0),(9,.ref (1,9) 0 0 a.length),(10,vN v3)] [Fv,(Na a)]) ((Sh b c d a v3).m)
def Su(e:Scm)(c:Val)(d:Scm→Typ→Val→Bool→Option (Val))(f:Msg×Bool)(b:List Slt)(v3:Nat)(a:Fld×Bool):PT 0 (Lv (List Slt×Nat) (List Slt) (Val)):=vw .go<|vw .go<|A2 (!(!a.1.hasDefault)) c.slots (v3:Int) fun h=>clg (!(!a.1.hasDefault)) (ZTo a.1.dflt h.val) fun g=>vz (fl b)<|lc (Ab [(3,.iptr (As e) 0),(5,.iptr (Ag c) 0),(6,.ptr (1,6) 0 0),(7,.iptr (Aw f.1) 0),(9,.ref (1,9) 0 0 b.length),(10,vN v3),(11,.ptr (1,11) 0 0),(51,vB ((!a.1.hasDefault)||(!g)))] [Fv,(Na b),(p6 a)]) (if((!a.1.hasDefault)||(!g))=true then(R6 e c d f b v3 a).m else(Sa e c f b v3).m)
def RP(e:Scm)(c:Val)(b:Scm→Typ→Val→Bool→Option (Val))(d:Msg×Bool)(a:List Slt)(v3:Nat):PT 0 (Lv (List Slt×Nat) (List Slt) (Val)):=ix c.slots v3 fun g=>du (cl (Lj d.1 g.num) fun f=>vw .go<|vz (fl a)<|lc (Ab [(3,.iptr (As e) 0),(5,.iptr (Ag c) 0),(6,.ptr (1,6) 0 0),(7,.iptr (Aw d.1) 0),(9,.ref (1,9) 0 0 a.length),(10,vN v3),(11,.ptr (1,11) 0 0)] [Fv,(Na a),(p6 f)]) ((Su e c b d a v3 f).m))
def S1(d:Scm)(b:Val)(c:Scm→Typ→Val→Bool→Option (Val))(e:Msg×Bool)(a:List Slt)(v3:Nat):PT 0 (Lv (List Slt×Nat) (List Slt) (Val)):=vz (Ah b.slots)<|br (decide ((v3:Int)<(b.slots.length:Int))) (vz (fl a)<|lc (Ab [(3,.iptr (As d) 0),(5,.iptr (Ag b) 0),(6,.ptr (1,6) 0 0),(7,.iptr (Aw e.1) 0),(9,.ref (1,9) 0 0 a.length),(10,vN v3)] [Fv,(Na a)]) ((RP d b c e a v3).m)) (vz (fl a)<|Al (nA b) a)
def Nh(b:Scm)(c:Val)(a:Scm→Typ→Val→Bool→Option (Val))(e:Msg×Bool):List Slt×Nat→Option (Lv (List Slt×Nat) (List Slt) (Val)):=fun(d,v3)=>(S1 b c a e d v3).m
def UR(c:Val)(a:List Slt):PT 0 (Val):=vw (.frz 9 [(9,(a.map Ai))] [])<|vz (fz a)<|vw .sep<|cl (tL c a) fun b=>vw .go<|lr Tv (fun _=>[]) b
def UY(d:Scm)(b:Val)(a:Scm→Typ→Val→Bool→Option (Val))(e:Msg×Bool):PT 0 (Val):=vw (.ads 9 9 63 8)<|vw (.fzb 3 [3])<|vw (.fzb 5 [5])<|vw (.fzb 7 [7])<|vz (fl ([]:List Slt))<|lc (Ab [(3,.iptr (As d) 0),(5,.iptr (Ag b) 0),(6,.ptr (1,6) 0 0),(7,.iptr (Aw e.1) 0),(9,.ref (1,9) 0 0 ([]:List Slt).length),(10,vI 0)] [Fv,((1,9),⟨0,true,63,8,Af Ai ([]:List Slt)⟩)]) ((Am (Nh d b a e) Aj (([]:List Slt),0)).bind (Sum.elim (fun c=>(UR b c).m) some))
def dF(b:Scm)(c:Val)(a:Scm→Typ→Val→Bool→Option (Val))(d:Msg×Bool):PT 0 (Val):=lc (Ab [(3,.ptr (1,3) 0 0),(5,.ptr (1,5) 0 0),(6,.ptr (1,6) 0 0),(7,.ptr (1,7) 0 0),(9,.e0),(10,vI 0)] [(ou b),(oH c),Fv,(pz d)]) ((UY b c a d).m)
def fm(b:Scm)(e:ByteArray)(c:Val)(a:Scm→Typ→Val→Bool→Option (Val)):PT 0 (Val):=vw .go<|cl (OG b e) fun d=>vw .go<|lc (Ab [(3,.ptr (1,3) 0 0),(5,.ptr (1,5) 0 0),(6,.ptr (1,6) 0 0),(7,.ptr (1,7) 0 0),(9,.e0)] [(ou b),(oH c),Fv,(pz d)]) ((dF b c a d).m)
def PH(a:Scm→Typ→Val→Bool→Option (Val))(b:Scm)(c:ByteArray)(d:Val):Option (Val):=(fm b c d a).m
theorem ZFI{C:Cx}(co:CO C 0)(b:Scm)(c:Val)(a:Scm→Typ→Val→Bool→Option (Val))(e:Msg×Bool)(k:∀(b:Scm) (n:Typ) (c:Val) (o:Bool),KC Tryz.prog 73 [.agg ((As b).map .d),.agg ((B1 n).map .d),.agg ((Ag c).map .d),vB o] (a b n c o) Dz):KL Tryz.prog (AH tl) 74 C (pa [0,0,1,0,1,1,1] (AD Tryz.f16)) [.cell 6 35] 0 (WB b c e) (nA c) Tv (fun _=>[]) (Nh b c a e):=fun(f,v3) _ hm Q m i d=>Ak co Aa Ac 1 (S1 b c a e f v3) (Ae [3,5,6,7,9,10] D2) (Ae [5,6,9] D2) i hm d fun r g=>⟨fun _ hm d=>sq (bk 1 (sq (C7 co Aa Ac (.fst 0 (.fst 1 (.fst 2 (.fst 3 (.fst 4 (.fst 5 (.fst 6 (.two 7 11 (.fst 8 (.fst 9 (.fst 10 (.fst 11 (.fst 12 (.fst 13 .nil)))))) (.fst 7 (.fst 8 (.fst 9 (.fst 10 (.fst 12 (.fst 13 .nil)))))))))))))) [5,7] (RP b c a e f v3) (Ae [3,5,6,7,9,10,11] X1) hm d fun r g=>fun t=>fun h=>fun _ hm d=>Ak co Aa Ac 1 (Su b c a e f v3 h) (Ae [3,5,6,7,9,10,11,51] X1) nl i hm d fun r g=>fun u=>fun s=>fun _ hm d=>cd ((!h.1.hasDefault)||(!s)) hm (fun hm=>C7 co Aa Ac (.fst 0 (.fst 1 (.fst 2 (.fst 3 (.fst 4 (.fst 5 (.fst 7 (.fst 9 (.fst 10 (.fst 11 (.fst 12 (.fst 13 (.fst 8 (.fst 14 (.two 6 15 (.fst 15 (.fst 16 (.fst 17 (.fst 18 (.fst 19 .nil))))) (.fst 6 (.fst 16 (.fst 17 (.fst 18 (.fst 19 .nil)))))))))))))))))))) [3,5] (R6 b c a e f v3 h) (Ae [3,5,6,7,9,10] D2) hm d fun r g=>fun q=>fun j=>⟨fun y hy p _ _=>by rw[(I8 a k b h.1 j.val false).x,(I8 a k b h.1 j.val false).e];exact(I8 a k b h.1 j.val false).k _ p y hy,fun l=>fun _ hm d=>AA co Aa Ac (Si b c e f v3 q l) (Ae [3,5,6,7,9,10] D2) nl i hm d fun r g=>id⟩) (fun hm=>AA co Aa Ac (Sa b c e f v3) (Ae [3,5,6,7,9,10] D2) nl i hm d fun r g=>fun _ hm d=>AA co Aa Ac (Sh b c e f v3) (Ae [3,5,6,7,9,10] D2) nl i hm d fun r g=>id)))),id⟩
theorem O0(a:Scm→Typ→Val→Bool→Option (Val))(l:∀(c:Scm) (e:Typ) (b:Val) (k:Bool),KC Tryz.prog 73 [.agg ((As c).map .d),.agg ((B1 e).map .d),.agg ((Ag b).map .d),vB k] (a c e b k) Dz)(c:Scm)(e:ByteArray)(b:Val):KC Tryz.prog 16 [.agg ((As c).map .d),vS e,.agg ((Ag b).map .d)] (PH a c e b) Tv:=Au Tryz.func16 Tryz.ntmps16 Aa [.cell 6 35] fun C co y hm j d=>Ak co Aa Ac 3 (fm c e b a) (Ae [3,5,6,7,9] Jc) nl (fun _ h=>h) hm d fun r g=>fun i=>fun _ hm d=>sq (Ak co Aa Ac 1 (dF c b a i) (Ae [3,5,6,7,9,10] Jc) nl (fun _ h=>h) hm d fun r g=>fun _ hm d=>bk 0 (DR co (UY c b a i) (Ae [3,5,6,7,9,10] D2) hm d fun r g=>fun _ hm d=>lo (AL (ZFI co c b a i l) (fun _ h=>h) hm d (fun f hm=>Ao co Aa Ac (UR b f) hm d fun r g=>fun m=>id))))
def Rx(d:Scm)(b:Typ)(c:Val)(e:Bool)(a:Scm→Typ→Val→Bool→Option (Val)):PT 0 (Val):=vw .go<|br (!decide (b.kind=(10:Int))) (vw .go<|vw .go<|lr Dz (fun _=>[]) c) (br e (vw .go<|vw .go<|vw .go<|cs Tryz.prog 14 [.agg ((As d).map .d),vS b.name,.agg ((Ag c).map .d)] [] [] (PJ a d b.name c) (fun y=>.agg ((Ag y).map .d)) fun f=>vw .go<|lr Dz (fun _=>[]) f) (vw .go<|vw .go<|vw .go<|cs Tryz.prog 16 [.agg ((As d).map .d),vS b.name,.agg ((Ag c).map .d)] [] [] (PH a d b.name c) (fun y=>.agg ((Ag y).map .d)) fun g=>vw .go<|lr Dz (fun _=>[]) g))
def Jn(a:Scm→Typ→Val→Bool→Option (Val))(b:Scm)(c:Typ)(d:Val)(e:Bool):Option (Val):=(Rx b c d e a).m
theorem ZPi(a:Scm→Typ→Val→Bool→Option (Val))(e:∀(b:Scm) (c:Typ) (d:Val) (f:Bool),KC Tryz.prog 73 [.agg ((As b).map .d),.agg ((B1 c).map .d),.agg ((Ag d).map .d),vB f] (a b c d f) Dz)(b:Scm)(c:Typ)(d:Val)(f:Bool):KC Tryz.prog 73 [.agg ((As b).map .d),.agg ((B1 c).map .d),.agg ((Ag d).map .d),vB f] (Jn a b c d f) Dz:=Au Tryz.func73 Tryz.ntmps73 Aa [.cell 8 35] fun C co y hm i j=>Ao co Aa Ac (Rx b c d f a) hm j fun r g=>⟨id,⟨⟨fun y hy h _ _=>by rw[(OE a e b c.name d).x,(OE a e b c.name d).e];exact(OE a e b c.name d).k _ h y hy,fun k=>id⟩,⟨fun y hy h _ _=>by rw[(O0 a e b c.name d).x,(O0 a e b c.name d).e];exact(O0 a e b c.name d).k _ h y hy,fun l=>id⟩⟩⟩
def DV:Nat→Scm→Typ→Val→Bool→Option (Val)
 |0=>fun _ _ _ _=>none
 |a+1=>Jn (DV a)
theorem Zb:∀(e:Nat) (a:Scm) (b:Typ) (c:Val) (d:Bool),KC Tryz.prog 73 [.agg ((As a).map .d),.agg ((B1 b).map .d),.agg ((Ag c).map .d),vB d] (DV e a b c d) Dz
 |0,a,b,c,d=>⟨fun _ _ _ h=>(by cases h),by intro r;kernel_rfl,by intro r y;kernel_rfl⟩
 |e+1,a,b,c,d=>ZPi (DV e) (Zb e) a b c d
abbrev E4:Bool→AV:=fun y=>vB y
def Xl(a:Scm)(b:ByteArray)(c:Val):PT 0 (Bool):=vw .go<|cl (zW a b) fun f=>vw .go<|clg (!(!f)) (ZUk c 2000) fun h=>vw .go<|vw .go<|clg (!((!f)||(!h))) (ZTu a b c) fun i=>br (((!f)||(!h))||(!decide (i=(0:Int)))) (cl (ky) fun j=>lr E4 (fun _=>[]) j) (vw .go<|vw .go<|cl (XX Aj a b c) fun k=>vw .go<|vw .go<|cl (OE (DV Aj) (Zb Aj) a b c) fun l=>cl (XL Aj k l) fun e=>vw .go<|vw .go<|clg e (X5 Aj a b c) fun m=>vw .go<|vw .go<|clg e (O0 (DV Aj) (Zb Aj) a b c) fun n=>clg e (XL Aj m n) fun d=>clg (e&&d) (ky) fun g=>lr E4 (fun _=>[]) ((e&&d)&&g))
def Zc(a:Scm)(b:ByteArray)(c:Val):Option (Bool):=(Xl a b c).m
theorem zV(a:Scm)(b:ByteArray)(c:Val):KC Tryz.prog 4 [.agg ((As a).map .d),vS b,.agg ((Ag c).map .d)] (Zc a b c) E4:=Au Tryz.func4 Tryz.ntmps4 Aa [.tmp 6] fun C co y hm d e=>Ao co Aa Ac (Xl a b c) hm e fun r g=>fun i=>fun j=>fun k=>⟨fun l=>id,fun m=>fun n=>fun o=>fun p=>fun q=>fun f=>fun h=>id⟩
end Go.Proofs.YtchkcemlglpobaaGreat
namespace Go.Proofs.YtchkcemlglpobaaGreat
set_option linter.all false
open Go Go.Eng
end Go.Proofs.YtchkcemlglpobaaGreat
namespace Go.Proofs.YtchkcemlglpobaaGreat
set_option linter.all false
open Go Go.Eng Go.ChangeShapes Go.WideShapes Go.ChangeAt Go.RowKit
theorem wb{H:Type}(b:List UInt8):Rows.uptoBulk (DataW.lit (H:=H) (.string b))=b.length+1:=by simp only[Rows.uptoBulk]
theorem ZnE{H:Type}(a b:List (DataW H)):Rows.uptoBulk (.slice a b)=Rows.uptoBulkAll a+Rows.uptoBulkAll b+1:=by simp only[Rows.uptoBulk]
theorem Zyz{H:Type}(a:List (DataW H)):Rows.uptoBulk (.agg a)=Rows.uptoBulkAll a+1:=by simp only[Rows.uptoBulk]
def Hd(W:World)(ds:List D)(cs:List Value)(o:Nat):Prop:=∀(i:Nat) (d:D),ds[i]?=some d→∃c,cs[o+i]?=some c∧RepD W (· <W.heap.size) d c
def IE(W:World)(ds:List D)(cs:List Value):Prop:=ds.length=cs.length∧Hd W ds cs 0
theorem Hd.app{W:World}{ds es:List D}{cs:List Value}{o:Nat}(h:Hd W ds cs o)(k:Hd W es cs (o+ds.length)):Hd W (ds++es) cs o:=fun i d hi=>by
 rcases Ys i ds.length with hl|hl
 ·rw[Yh hl]at hi;exact h i d hi
 ·rw[Yp hl]at hi
  obtain⟨c,a,b⟩:=k _ d hi
  grind
theorem Hd.nil{W:World}{cs:List Value}{o:Nat}:Hd W [] cs o:=fun i d h=>by simp at h
theorem IE.at{W:World}{ds:List D}{cs:List Value}{o k:Nat}(h:IE W ds ((cs.drop o).take k)):Hd W ds cs o:=fun i d hi=>by
 obtain⟨c,a,b⟩:=h.2 i d hi
 grind
def rk(k:IntKind)(n:Int):Nat:=if Lit.wf (.int k n)=true then 0 else 1000000000000
theorem ZP2{k:IntKind}{n:Int}(h:rk k n≤1048576):k.min≤n∧n≤k.max:=by
 unfold rk at h
 split at h
 ·rename_i a
  unfold Lit.wf at a
  rw[Bool.and_eq_true]at a
  exact⟨of_decide_eq_true a.1,of_decide_eq_true a.2⟩
 ·omega
mutual
def bk:D→Nat
 |.int k n=>rk k n
 |.bool _=>0
 |.str s=>s.size
 |.list es=>Bj es
 |.map _ es=>Bj es
def Az:List D→Nat
 |[]=>0
 |d::l=>bk d+Az l
def Bj:List (List D)→Nat
 |[]=>0
 |e::l=>Az e+1+Bj l
end
theorem Mm:∀a b:List D,Az (a++b)=Az a+Az b
 |[],b=>by rw[FV,Az,Yz]
 |d::a,b=>by rw[K5,Az,Az,Mm a b,Yt]
theorem ct(d:D):Az [d]=bk d:=by rw[Az,Az,Y8]
theorem C5{α:Type}{e:α→List D}:∀l:List α,l.length≤Bj (l.map e)
 |[]=>Eg _
 |x::l=>by have:=C5 (e:=e) l;rw[YS,Bj,YN];omega
theorem CE{α:Type}{e:α→List D}{x:α}:∀{l:List α},x∈l→Az (e x)+1≤Bj (l.map e)
 |y::l,h=>by
  rw[YS,Bj]
  cases Yy.1 h with
  |inl h=>subst h;omega
  |inr h=>have:=CE (e:=e) h;omega
section
variable {H:Type} (enc:TypeId×Value→H) (P:Program) (W:World)
def BQ{α:Type}(n:Nat)(t:TypeId)(e:α→List D):Prop:=
 ∀cs x,DataW.trod enc P W 0 (fun _=>true) true n t cs=some x→∃v:α,IE W (e v) cs∧Az (e v)+1≤Rows.uptoBulk x.1
end
section
variable {H:Type} {enc:TypeId×Value→H} {P:Program} {W:World} {n:Nat} {t:TypeId}
theorem bz(d:DataW H):1≤Rows.uptoBulk d:=by cases d<;>(try (rename_i l;cases l))<;>simp[Rows.uptoBulk]
theorem Mb{d:D}{c:Value}(h:RepD W (· <W.heap.size) d c):IE W [d] [c]:=⟨rfl,fun i d' hi=>by
 cases i with
 |zero=>cases hi;exact⟨c,rfl,h⟩
 |succ i=>simp at hi⟩
theorem DF{k:IntKind}(a:P.underlying t=some (.int k)):BQ enc P W n t (fun v:Int=>[.int k v]):=fun cs x c=>by
 obtain⟨m,rfl,rfl,b⟩:=DataW.trod_int a c
 refine⟨m,Mb (.int _ _),?_⟩
 rw[ct,bk,rk,if_pos b]
 exact bz _
theorem w7(a:P.underlying t=some .bool):BQ enc P W n t (fun v:Bool=>[.bool v]):=fun cs x b=>by
 obtain⟨m,rfl,rfl⟩:=DataW.trod_bool a b
 exact⟨m,Mb (.bool _),bz _⟩
theorem DG(a:P.underlying t=some .string):BQ enc P W n t (fun v:ByteArray=>[.str v]):=fun cs x b=>by
 obtain⟨m,rfl,rfl,_⟩:=DataW.trod_string a b
 refine⟨m,Mb (.str _),?_⟩
 rw[wb,ct]
 exact Ye _
theorem kX{α:Type}{e:α→List D}:∀(l:List α) (xs:List (DataW H×List MemPlace)),l.length=xs.length→(∀(i:Nat) (v:α),l[i]?=some v→∃y:DataW H×List MemPlace,xs[i]?=some y∧Az (e v)+1≤Rows.uptoBulk y.1)→Bj (l.map e)≤Rows.uptoBulkAll (xs.map (·.1))
 |[],_,_,_=>Eg _
 |x::l,[],h,_=>by cases h
 |x::l,y::xs,h,k=>by
  have:=kX l xs (K1 h) (fun i v hi=>k (i+1) v hi)
  obtain⟨c,a,b⟩:=k 0 x rfl
  cases a
  rw[YS,YS,Bj]
  simp only[Rows.uptoBulkAll]
  omega
theorem xr{α:Type}{Q:Nat→α→Prop}:∀(len:Nat),(∀i,i<len→∃v,Q i v)→∃l:List α,l.length=len∧∀i v,l[i]?=some v→Q i v
 |0,_=>⟨[],rfl,fun i v h=>by simp at h⟩
 |len+1,h=>by
  obtain⟨l,a,b⟩:=xr len (fun i hi=>h i (by omega))
  obtain⟨v,c⟩:=h len (by omega)
  refine⟨l++[v],by simp[a],fun i w hi=>?_⟩
  grind
theorem Cv{α:Type}{e:TypeId}{b:α→List D}{sz:Nat}(V:P.underlying t=some (.slice e))(E:P.cellsOf e=sz)(U:sz≠0)(hl:∀x,(b x).length=sz)(h:∀m,m<n→BQ enc P W m e b):
  BQ enc P W n t (fun l:List α=>[.list (l.map b)]):=fun cs x X=>by
 rcases DataW.trod_slice V X with⟨rfl,rfl⟩|⟨a,len,cap,g,rest,m,rfl,rfl,rfl,Z,z,R,T,hi,_,_⟩
 ·exact⟨[],Mb .nil,bz _⟩
 ·have k:∀i,i<len→∃v:α,∃y f,g[i]?=some y∧W.cells? 0 (a.add (i*sz)) sz=some f∧IE W (b v) f∧Az (b v)+1≤Rows.uptoBulk y.1:=fun i B=>by
   have I:=hi i B
   rw[Yb (by omega),E]at I
   obtain⟨f,M,N⟩:=kK.1 I
   obtain⟨v,O,Q⟩:=h m (by omega) f _ N
   exact⟨v,_,f,Yb (by omega),M,O,Q⟩
  obtain⟨l,A,r⟩:=xr len k
  have cell:∀(i j:Nat) (e':List D) (x:D),(l.map b)[i]?=some e'→e'[j]?=some x→∃c,W.cell? (a.add (i*sz+j))=some c∧RepD W (· <W.heap.size) x c:=fun i j e' x d o=>by
   rw[Yx]at d
   cases s:l[i]? with
   |none=>rw[s]at d;cases d
   |some v=>
    rw[s]at d
    cases d
    obtain⟨y,f,p,q,F,G⟩:=r i v s
    obtain⟨c,H,J⟩:=F.2 j x o
    rw[Yz]at H
    obtain⟨_,Y,K⟩:=World.cells?_some q
    have u:j<sz:=by
     rw[←hl v]
     rcases Ys j (b v).length with h|h
     ·exact h
     ·rw[YB h]at o;cases o
    refine⟨c,?_,J⟩
    rw[←Go.Eng.add_add,K j u,H]
  refine⟨l,Mb ?_,?_⟩
  ·have hlen:(l.map b).length=len:=by simp[A]
   have:=RepD.list (w:=W) (S:=(· <W.heap.size)) (l.map b) a sz cap (fun i j=>(W.cell? (a.add (i*sz+j))).getD undef) (fun C=>by
     have L:0<len:=by
      rcases T2 len with h|h
      ·exact absurd (YV (hlen.trans h)) C
      ·exact h
     obtain⟨v,y,f,_,q,_⟩:=k 0 L
     have:=World.cells?_block q (by omega)
     rw[FX]at this
     rw[←Go.Eng.block_add a 0];exact this)
    (by rw[hlen];exact z) (fun e' he=>by obtain⟨y,_,rfl⟩:=YC.1 he;exact hl y)
    (fun i j e' x d o=>by obtain⟨c,p,_⟩:=cell i j e' x d o;rw[p];rfl)
    (fun i j e' x d o=>by obtain⟨c,p,q⟩:=cell i j e' x d o;rw[p];exact q)
   rw[hlen]at this
   exact this
  ·rw[ZnE,ct,bk]
   have:=kX (e:=b) l g (by omega) (fun i v s=>by
    obtain⟨y,f,p,q,F,G⟩:=r i v s
    exact⟨y,p,G⟩)
   omega
def FB(xs:List (DataW H×List MemPlace))(i:Nat):Nat:=Rows.uptoBulkAll ((xs.drop i).map (·.1))
theorem Bi{xs:List (DataW H×List MemPlace)}{i:Nat}{a b:List D}(h:Az a+1+FB xs (i+1)≤FB xs i)(k:Az b≤FB xs (i+1)):Az (a++b)≤FB xs i:=by
 rw[Mm];omega
theorem DI{xs:List (DataW H×List MemPlace)}{i:Nat}{a:List D}(h:Az a+1+FB xs (i+1)≤FB xs i):Az a≤FB xs i:=by omega
theorem DE{xs:List (DataW H×List MemPlace)}{a:List D}(h:Az a≤FB xs 0):Az a+1≤Rows.uptoBulk (.agg (xs.map (·.1))):=by
 rw[Zyz];exact Nat.succ_le_succ h
theorem Zwe{α:Type}{e:α→List D}{m i:Nat}{c:TypeId}{a:List Value}{xs:List (DataW H×List MemPlace)}(h:BQ enc P W m c e)(b:DataW.trod enc P W 0 (fun _=>true) true m c a=xs[i]?)(hi:i<xs.length):
  ∃v,IE W (e v) a∧Az (e v)+1+FB xs (i+1)≤FB xs i:=by
 rw[Yb hi]at b
 obtain⟨v,d,f⟩:=h _ _ b
 refine⟨v,d,?_⟩
 unfold FB
 rw[Y7 hi,YS]
 simp only[Rows.uptoBulkAll]
 omega
theorem rf{α:Type}{e:α→List D}{m i k:Nat}{b:TypeId}{a:List Value}{xs:List (DataW H×List MemPlace)}(h:BQ enc P W m b e)(c:DataW.trod enc P W 0 (fun _=>true) true m b a=xs[i]?)(d:xs.length=k)(hi:Nat.blt i k=true:=by kernel_rfl):
  ∃v,IE W (e v) a∧Az (e v)+1+FB xs (i+1)≤FB xs i:=Zwe h c (by rw[d];exact Yd hi)
theorem fw{α:Type}{e e':α→List D}(he:∀x,e x=e' x)(h:BQ enc P W n t e'):BQ enc P W n t e:=fun cs x a=>by
 obtain⟨v,b,c⟩:=h cs x a
 grind
theorem wR{α:Type}{e:α→List D}{q:Array Field}{r:Reach}{b:Nat}{v:Value}{d:DataW H}{p:List MemPlace}(rd:∀n,BQ enc P W n t e)(w:P.underlying t=some (.struct q))(z:Value.okWide P W r b t v)
  (h:DataW.Trod enc P W 0 (fun _=>true) true t v d p):∃x:α,(∀m l,RepA W (· <W.heap.size) (fun _=>⟨0,false,0,0,[]⟩) m l (.agg ((e x).map .d)) v)∧Az (e x)+1≤Rows.uptoBulk d:=by
 obtain⟨cs,rfl,_⟩:=okWide_struct w z
 obtain⟨n,u⟩:=h
 obtain⟨x,k,s⟩:=rd n _ _ u
 have hl:(e x).length=cs.size:=by rw[k.1];simp[Value.cells]
 have key:∀(i:Nat) (c:Value),cs[i]?=some c→∃d,(e x)[i]?=some d∧RepD W (· <W.heap.size) d c:=fun i c f=>by
  have g:i<(e x).length:=by
   grind
  obtain⟨j,a,o⟩:=k.2 i _ (Yb g)
  have:j=c:=by
   rw[Yz]at a
   have:cs.toList[i]?=some j:=a
   grind
  grind
 refine⟨x,fun m l=>.agg _ _ (by rw[Yq,hl]) (fun i c f=>?_) (fun i y c hy f=>?_),s⟩
 ·obtain⟨d,_,a⟩:=key i c f;exact a.one
 ·obtain⟨d,a,o⟩:=key i c f
  rw[Yx,a]at hy
  cases hy
  exact .d _ _ o
theorem ZEX{r:Reach}{a:Nat}{v:Value}{d:DataW H}{p:List MemPlace}(e:P.underlying t=some .string)(g:Value.okWide P W r a t v)(h:DataW.Trod enc P W 0 (fun _=>true) true t v d p):
  ∃x:ByteArray,(∀S Hp m l,RepA W S Hp m l (.d (.str x)) v)∧x.size+1≤Rows.uptoBulk d:=by
 obtain⟨x,rfl⟩:=okWide_string e g
 obtain⟨n,f⟩:=h
 obtain⟨s,b,c,_⟩:=DataW.trod_string e f
 have b:x=s:=by simpa[Value.cells]using b
 subst b
 have c:d=.lit (.string x.data.toList):=congrArg Prod.fst c
 subst c
 refine⟨x,fun _ _ _ _=>.d _ _ (.str _),?_⟩
 rw[wb]
 exact Ye _
def kw:Hp:=fun _=>⟨0,false,0,0,[]⟩
theorem ok0(m:Mu):Ok 0 kw m (· <W.heap.size) W:=⟨fun _ h=>h,fun _ _ h=>(by cases h),fun _ _ h=>(by cases h),fun _ _ _ _ h=>(by cases h),fun _ _ h=>(by cases h),⟨fun _ _ h=>(by cases h),fun _ _ h=>(by cases h),fun _ _ _ _ h=>(by cases h)⟩⟩
def r9(w:World)(S:Nat→Prop)(Hp:Hp)(m:Mu)(l:Nat):List AV→List Value→Prop
 |[],[]=>True
 |x::xs,v::vs=>RepA w S Hp m l x v∧r9 w S Hp m l xs vs
 |_,_=>False
theorem ZBU{w:World}{S:Nat→Prop}{Hp:Hp}{m:Mu}{l:Nat}{xs:List AV}{vs:List Value}(h:r9 w S Hp m l xs vs):JQ w S Hp m l xs vs.toArray:=by
 suffices b:xs.length=vs.length∧∀(i:Nat) (x:AV) (v:Value),xs[i]?=some x→vs[i]?=some v→RepA w S Hp m l x v by
  exact⟨by simpa using b.1,fun i x v f e=>b.2 i x v f (by simpa using e)⟩
 induction xs generalizing vs with
 |nil=>cases vs with
  |nil=>exact⟨rfl,fun i x v h=>by simp at h⟩
  |cons _ _=>exact h.elim
 |cons x xs g=>cases vs with
  |nil=>exact h.elim
  |cons v vs=>
   obtain⟨c,d⟩:=g h.2
   refine⟨by simp[c],fun i y u hy a=>?_⟩
   cases i with
   |zero=>simp at hy a;subst hy;subst a;exact h.1
   |succ i=>exact d i y u (by simpa using hy) (by simpa using a)
theorem ZqG{f:Func}{s:ChangeSpec}{n:World}{args:Array Value}{ds z:List (DataW H)}{e:List MemPlace}{u:TypeId}(B:DataW.Whole enc P f.params.toList s.vars false W args.toList ds z e)(c:s.vars=[])
  (k:laidOutB P=true) (y:∀t∈f.params.toList,P.readableRec t=true∧t<P.types.size) (g:f.resultTypes.toList=[u]) (K:P.underlying u=some .bool)
  (j:s.fn H (ds++z)={results:=[.lit (.bool true)],args:=ds }) (m:Below W.heap.size W n):s.post enc P f false true false false W args (.bool true) n:=by
 obtain⟨p,q,F,A,rfl,G,I⟩:=id B
 rw[c]at A
 obtain⟨rfl,rfl⟩:=trodVars_none A
 refine⟨ds,[],p++[],[],p,[],B,?_,?_,?_,?_,fun h=>by cases h⟩
 ·rw[j,g]
  have:(Value.bool true).resultList f.resultTypes.size=[.bool true]:=by
   have:f.resultTypes.size=1:=by rw[←YI,g];rfl
   rw[this];rfl
  rw[this]
  exact trodAll_cons_mk (shut_bool K _) trodAll_mk0
 ·rw[j]
  have key:∀(l:List TypeId) (vs:List Value) (es:List (DataW H)) (ps:List MemPlace),(∀t∈l,P.readableRec t=true∧t<P.types.size)→DataW.TrodAll enc P W 0 (fun _=>true) true l vs es ps→
    DataW.TrodAll enc P n 0 (fun b=>decide (b<W.heap.size)) true l vs es ps:=by
   intro l
   induction l with
   |nil=>intro vs es ps _ h;obtain⟨rfl,rfl,rfl⟩:=trodAll_nil h;exact trodAll_mk0
   |cons t l M=>
    intro vs es ps w h
    have r:=DataW.TrodAll.lt h
    obtain⟨v,N,d,C,a,b,rfl,rfl,rfl,D,E⟩:=trodAll_cons h
    exact trodAll_cons_mk (Below.trod k (w t (by simp)).1 (w t (by simp)).2 D m (fun x L=>r x (HM _ L))) (M _ _ _ (fun t J=>w t (by simp[J])) E)
  exact key _ _ _ _ y F
 ·rw[c,j];exact rfl
 ·refine⟨m.os,m.output,fun i hi=>?_⟩
  rw[m.block i hi]
  cases W.heap[i]? with
  |none=>rfl
  |some o=>cases o<;>simp
end
end Go.Proofs.YtchkcemlglpobaaGreat
namespace Go.Proofs.YtchkcemlglpobaaGreat
set_option linter.all false
open Go Go.Eng
section
variable {H:Type} {enc:TypeId×Value→H} {W:World}
set_option maxRecDepth 100000
theorem ZLQ(n:Nat):BQ enc Tryz.prog W n 73 Ay:=fun cs x h=>by
 obtain⟨xs,m,rfl,rfl,c,a,b⟩:=DataW.trod_struct Tryz.underlying73 h
 obtain⟨v0,i,d⟩:=rf (DF Tryz.underlying3) (b 0 _ rfl) a
 obtain⟨o,j,e⟩:=rf (DF Tryz.underlying3) (b 1 _ rfl) a
 obtain⟨v2,k,f⟩:=rf (DF Tryz.underlying29) (b 2 _ rfl) a
 obtain⟨v3,l,g⟩:=rf (DG Tryz.underlying9) (b 3 _ rfl) a
 have q:=DE (Bi d (Bi e (Bi f (DI g))))
 exact⟨.mk v0 o v2 v3,⟨by rw[c];kernel_rfl,(i.at.app (j.at.app (k.at.app l.at)))⟩,q⟩
theorem Zv2(n:Nat)(h:∀k,k<n→BQ enc Tryz.prog W k 35 Ag):BQ enc Tryz.prog W n 71 Ti:=fun cs x f=>by
 obtain⟨xs,m,rfl,rfl,b,a,c⟩:=DataW.trod_struct Tryz.underlying71 f
 obtain⟨v0,g,d⟩:=rf (h m (by omega)) (c 0 _ rfl) a
 obtain⟨j,i,e⟩:=rf (h m (by omega)) (c 1 _ rfl) a
 have q:=DE (Bi d (DI e))
 exact⟨.mk v0 j,⟨by rw[b];kernel_rfl,(g.at.app i.at)⟩,q⟩
theorem ZuP(n:Nat)(h:∀k,k<n→BQ enc Tryz.prog W k 35 Ag):BQ enc Tryz.prog W n 63 Cp:=fun cs x f=>by
 obtain⟨xs,m,rfl,rfl,b,a,c⟩:=DataW.trod_struct Tryz.underlying63 f
 obtain⟨v0,g,d⟩:=rf (DF Tryz.underlying3) (c 0 _ rfl) a
 obtain⟨j,i,e⟩:=rf (h m (by omega)) (c 1 _ rfl) a
 have q:=DE (Bi d (DI e))
 exact⟨.mk v0 j,⟨by rw[b];kernel_rfl,(g.at.app i.at)⟩,q⟩
theorem fA(n:Nat):BQ enc Tryz.prog W n 35 Ag:=by
 induction n using Nat.strongRecOn with
 |ind n e=>
 intro cs x s
 obtain⟨xs,m,rfl,rfl,c,a,b⟩:=DataW.trod_struct Tryz.underlying35 s
 obtain⟨v0,t,f⟩:=rf (DF Tryz.underlying3) (b 0 _ rfl) a
 obtain⟨B,u,g⟩:=rf (DF Tryz.underlying29) (b 1 _ rfl) a
 obtain⟨v2,v,h⟩:=rf (DG Tryz.underlying9) (b 2 _ rfl) a
 obtain⟨v3,w,i⟩:=rf (Cv Tryz.underlying30 (by kernel_rfl:Tryz.prog.cellsOf 35=7) (by decide) (fun x=>by rw[F4];rfl) (fun k d=>(fw F4 (e k (by omega))))) (b 3 _ rfl) a
 obtain⟨v4,y,l⟩:=rf (Cv Tryz.underlying31 (by kernel_rfl:Tryz.prog.cellsOf 71=14) (by decide) (fun x=>by rw[Iz];rfl) (fun k d=>(fw Iz (Zv2 k (fun j r=>e j (by omega)))))) (b 4 _ rfl) a
 obtain⟨v5,z,o⟩:=rf (Cv Tryz.underlying32 (by kernel_rfl:Tryz.prog.cellsOf 63=8) (by decide) (fun x=>by rw[F5];rfl) (fun k d=>(fw F5 (ZuP k (fun j r=>e j (by omega)))))) (b 5 _ rfl) a
 obtain⟨C,A,p⟩:=rf (Cv Tryz.underlying33 (by kernel_rfl:Tryz.prog.cellsOf 73=4) (by decide) (fun _=>rfl) (fun k d=>(ZLQ k))) (b 6 _ rfl) a
 have q:=DE (Bi f (Bi g (Bi h (Bi i (Bi l (Bi o (DI p)))))))
 exact⟨.mk v0 B v2 v3 v4 v5 C,⟨by rw[c];kernel_rfl,(t.at.app (u.at.app (v.at.app (w.at.app (y.at.app (z.at.app A.at))))))⟩,q⟩
theorem ZLt(n:Nat):BQ enc Tryz.prog W n 53 B1:=fun cs x f=>by
 obtain⟨xs,m,rfl,rfl,b,a,c⟩:=DataW.trod_struct Tryz.underlying53 f
 obtain⟨v0,g,d⟩:=rf (DF Tryz.underlying3) (c 0 _ rfl) a
 obtain⟨i,h,e⟩:=rf (DG Tryz.underlying9) (c 1 _ rfl) a
 have q:=DE (Bi d (DI e))
 exact⟨.mk v0 i,⟨by rw[b];kernel_rfl,(g.at.app h.at)⟩,q⟩
theorem Kq(n:Nat):BQ enc Tryz.prog W n 135 AG:=fun cs x f=>by
 obtain⟨xs,m,rfl,rfl,b,a,c⟩:=DataW.trod_struct Tryz.underlying135 f
 obtain⟨v0,g,d⟩:=rf (DG Tryz.underlying9) (c 0 _ rfl) a
 obtain⟨i,h,e⟩:=rf (fA m) (c 1 _ rfl) a
 have q:=DE (Bi d (DI e))
 exact⟨.mk v0 i,⟨by rw[b];kernel_rfl,(g.at.app h.at)⟩,q⟩
theorem ZLg(n:Nat):BQ enc Tryz.prog W n 55 Ap:=fun cs x p=>by
 obtain⟨xs,m,rfl,rfl,c,a,b⟩:=DataW.trod_struct Tryz.underlying55 p
 obtain⟨v0,r,d⟩:=rf (DF Tryz.underlying3) (b 0 _ rfl) a
 obtain⟨B,s,e⟩:=rf (DG Tryz.underlying9) (b 1 _ rfl) a
 obtain⟨v2,t,f⟩:=rf (DF Tryz.underlying3) (b 2 _ rfl) a
 obtain⟨v3,u,g⟩:=rf (DF Tryz.underlying3) (b 3 _ rfl) a
 obtain⟨v4,v,h⟩:=rf (ZLt m) (b 4 _ rfl) a
 obtain⟨v5,w,i⟩:=rf (DG Tryz.underlying9) (b 5 _ rfl) a
 obtain⟨C,y,j⟩:=rf (w7 Tryz.underlying4) (b 6 _ rfl) a
 obtain⟨D,z,l⟩:=rf (fA m) (b 7 _ rfl) a
 obtain⟨E,A,o⟩:=rf (Cv Tryz.underlying47 (by kernel_rfl:Tryz.prog.cellsOf 135=8) (by decide) (fun _=>rfl) (fun k F=>(Kq k))) (b 8 _ rfl) a
 have q:=DE (Bi d (Bi e (Bi f (Bi g (Bi h (Bi i (Bi j (Bi l (DI o)))))))))
 exact⟨.mk v0 B v2 v3 v4 v5 C D E,⟨by rw[c];kernel_rfl,(r.at.app (s.at.app (t.at.app (u.at.app (v.at.app (w.at.app (y.at.app (z.at.app A.at))))))))⟩,q⟩
theorem kR(n:Nat):BQ enc Tryz.prog W n 209 AW:=fun cs x f=>by
 obtain⟨xs,m,rfl,rfl,b,a,c⟩:=DataW.trod_struct Tryz.underlying209 f
 obtain⟨v0,g,d⟩:=rf (DF Tryz.underlying3) (c 0 _ rfl) a
 obtain⟨i,h,e⟩:=rf (DF Tryz.underlying3) (c 1 _ rfl) a
 have q:=DE (Bi d (DI e))
 exact⟨.mk v0 i,⟨by rw[b];kernel_rfl,(g.at.app h.at)⟩,q⟩
theorem ZKX(n:Nat):BQ enc Tryz.prog W n 49 Aw:=fun cs x j=>by
 obtain⟨xs,m,rfl,rfl,c,a,b⟩:=DataW.trod_struct Tryz.underlying49 j
 obtain⟨v0,l,e⟩:=rf (DG Tryz.underlying9) (b 0 _ rfl) a
 obtain⟨t,o,f⟩:=rf (Cv Tryz.underlying44 (by kernel_rfl:Tryz.prog.cellsOf 55=16) (by decide) (fun _=>rfl) (fun k d=>(ZLg k))) (b 1 _ rfl) a
 obtain⟨v2,p,g⟩:=rf (Cv Tryz.underlying45 (by kernel_rfl:Tryz.prog.cellsOf 209=2) (by decide) (fun _=>rfl) (fun k d=>(kR k))) (b 2 _ rfl) a
 obtain⟨v3,r,h⟩:=rf (Cv Tryz.underlying46 (by kernel_rfl:Tryz.prog.cellsOf 9=1) (by decide) (fun _=>rfl) (fun k d=>(DG Tryz.underlying9))) (b 3 _ rfl) a
 obtain⟨v4,s,i⟩:=rf (Cv Tryz.underlying47 (by kernel_rfl:Tryz.prog.cellsOf 135=8) (by decide) (fun _=>rfl) (fun k d=>(Kq k))) (b 4 _ rfl) a
 have q:=DE (Bi e (Bi f (Bi g (Bi h (DI i)))))
 exact⟨.mk v0 t v2 v3 v4,⟨by rw[c];kernel_rfl,(l.at.app (o.at.app (p.at.app (r.at.app s.at))))⟩,q⟩
theorem ZLJ(n:Nat):BQ enc Tryz.prog W n 99 EZ:=fun cs x g=>by
 obtain⟨xs,m,rfl,rfl,b,a,c⟩:=DataW.trod_struct Tryz.underlying99 g
 obtain⟨v0,h,d⟩:=rf (DG Tryz.underlying9) (c 0 _ rfl) a
 obtain⟨l,i,e⟩:=rf (DF Tryz.underlying3) (c 1 _ rfl) a
 obtain⟨v2,j,f⟩:=rf (Cv Tryz.underlying47 (by kernel_rfl:Tryz.prog.cellsOf 135=8) (by decide) (fun _=>rfl) (fun k o=>(Kq k))) (c 2 _ rfl) a
 have q:=DE (Bi d (Bi e (DI f)))
 exact⟨.mk v0 l v2,⟨by rw[b];kernel_rfl,(h.at.app (i.at.app j.at))⟩,q⟩
theorem ZIX(n:Nat):BQ enc Tryz.prog W n 97 AO:=fun cs x j=>by
 obtain⟨xs,m,rfl,rfl,c,a,b⟩:=DataW.trod_struct Tryz.underlying97 j
 obtain⟨v0,l,e⟩:=rf (DG Tryz.underlying9) (b 0 _ rfl) a
 obtain⟨t,o,f⟩:=rf (w7 Tryz.underlying4) (b 1 _ rfl) a
 obtain⟨v2,p,g⟩:=rf (Cv Tryz.underlying95 (by kernel_rfl:Tryz.prog.cellsOf 99=3) (by decide) (fun _=>rfl) (fun k d=>(ZLJ k))) (b 2 _ rfl) a
 obtain⟨v3,r,h⟩:=rf (Cv Tryz.underlying45 (by kernel_rfl:Tryz.prog.cellsOf 209=2) (by decide) (fun _=>rfl) (fun k d=>(kR k))) (b 3 _ rfl) a
 obtain⟨v4,s,i⟩:=rf (Cv Tryz.underlying47 (by kernel_rfl:Tryz.prog.cellsOf 135=8) (by decide) (fun _=>rfl) (fun k d=>(Kq k))) (b 4 _ rfl) a
 have q:=DE (Bi e (Bi f (Bi g (Bi h (DI i)))))
 exact⟨.mk v0 t v2 v3 v4,⟨by rw[c];kernel_rfl,(l.at.app (o.at.app (p.at.app (r.at.app s.at))))⟩,q⟩
theorem ZJT(n:Nat):BQ enc Tryz.prog W n 104 FD:=fun cs x i=>by
 obtain⟨xs,m,rfl,rfl,c,a,b⟩:=DataW.trod_struct Tryz.underlying104 i
 obtain⟨v0,j,d⟩:=rf (DG Tryz.underlying9) (b 0 _ rfl) a
 obtain⟨s,l,e⟩:=rf (DG Tryz.underlying9) (b 1 _ rfl) a
 obtain⟨v2,o,f⟩:=rf (DG Tryz.underlying9) (b 2 _ rfl) a
 obtain⟨v3,p,g⟩:=rf (DF Tryz.underlying3) (b 3 _ rfl) a
 obtain⟨v4,r,h⟩:=rf (Cv Tryz.underlying47 (by kernel_rfl:Tryz.prog.cellsOf 135=8) (by decide) (fun _=>rfl) (fun k t=>(Kq k))) (b 4 _ rfl) a
 have q:=DE (Bi d (Bi e (Bi f (Bi g (DI h)))))
 exact⟨.mk v0 s v2 v3 v4,⟨by rw[c];kernel_rfl,(j.at.app (l.at.app (o.at.app (p.at.app r.at))))⟩,q⟩
theorem ZLE(n:Nat):BQ enc Tryz.prog W n 102 AS:=fun cs x h=>by
 obtain⟨xs,m,rfl,rfl,b,a,c⟩:=DataW.trod_struct Tryz.underlying102 h
 obtain⟨v0,i,d⟩:=rf (DG Tryz.underlying9) (c 0 _ rfl) a
 obtain⟨o,j,e⟩:=rf (Cv Tryz.underlying100 (by kernel_rfl:Tryz.prog.cellsOf 104=5) (by decide) (fun _=>rfl) (fun k g=>(ZJT k))) (c 1 _ rfl) a
 obtain⟨v2,l,f⟩:=rf (Cv Tryz.underlying47 (by kernel_rfl:Tryz.prog.cellsOf 135=8) (by decide) (fun _=>rfl) (fun k g=>(Kq k))) (c 2 _ rfl) a
 have q:=DE (Bi d (Bi e (DI f)))
 exact⟨.mk v0 o v2,⟨by rw[b];kernel_rfl,(i.at.app (j.at.app l.at))⟩,q⟩
theorem ZII(n:Nat):BQ enc Tryz.prog W n 26 As:=fun cs x h=>by
 obtain⟨xs,m,rfl,rfl,b,a,c⟩:=DataW.trod_struct Tryz.underlying26 h
 obtain⟨v0,i,e⟩:=rf (Cv Tryz.underlying22 (by kernel_rfl:Tryz.prog.cellsOf 49=5) (by decide) (fun _=>rfl) (fun k d=>(ZKX k))) (c 0 _ rfl) a
 obtain⟨o,j,f⟩:=rf (Cv Tryz.underlying23 (by kernel_rfl:Tryz.prog.cellsOf 97=5) (by decide) (fun _=>rfl) (fun k d=>(ZIX k))) (c 1 _ rfl) a
 obtain⟨v2,l,g⟩:=rf (Cv Tryz.underlying24 (by kernel_rfl:Tryz.prog.cellsOf 102=3) (by decide) (fun _=>rfl) (fun k d=>(ZLE k))) (c 2 _ rfl) a
 have q:=DE (Bi e (Bi f (DI g)))
 exact⟨.mk v0 o v2,⟨by rw[b];kernel_rfl,(i.at.app (j.at.app l.at))⟩,q⟩
end
end Go.Proofs.YtchkcemlglpobaaGreat
namespace Go.Eng
set_option linter.all false
open Go Go.RowKit
section
variable {σ ξ ρ α β γ:Type}
theorem Iu{B:Nat→Option (Lv Nat ξ ρ)}{N:Nat}(l:List α)(p:α→Bool)(f:Nat→ρ)(e:ξ)
  (hs:∀i x,l[i]?=some x→B i=some (if p x=true then .rt (f i)else .nx (i+1))) (he:B l.length=some (.ex e)) (hN:l.length<N):
  Am B N 0=some (match l.findIdx? p with|some i=>.inr (f i)|none=>.inl e):=by
 suffices H:∀k i N,i+k=l.length→k<N→Am B N i=some (match (l.drop i).findIdx? p with|some j=>.inr (f (i+j))|none=>.inl e)by
  have:=H l.length 0 N (by omega) hN
  simpa using this
 intro k
 induction k with
 |zero=>
  intro i N hi hN
  obtain⟨N,rfl⟩:∃m,N=m+1:=⟨N-1,by omega⟩
  have:i=l.length:=by omega
  subst this
  rw[Am,he,T7]
  rfl
 |succ k b=>
  intro i N hi hN
  obtain⟨N,rfl⟩:∃m,N=m+1:=⟨N-1,by omega⟩
  have a:i<l.length:=by omega
  rw[Am,hs i l[i] (Yb a),Y7 a,List.findIdx?_cons]
  cases c:p l[i]with
  |true=>simp
  |false=>
   simp only[Yu,if_false]
   rw[b (i+1) N (by omega) (by omega)]
   cases(List.drop (i+1) l).findIdx? p with
   |none=>rfl
   |some j=>simp[Yt,K2 1 j]
def Ka(R:List α→α→Option ρ):List α→List α→Option ρ
 |_,[]=>none
 |p,x::l=>match R p x with
  |some r=>some r
  |none=>Ka R (p++[x]) l
theorem Zxd{B:σ→Option (Lv σ ξ ρ)}{N:Nat}(l:List α)(S:List α→β)(R:List α→α→Option ρ)(mk:Nat→β→σ)(e:β→ξ)
  (hs:∀i x,l[i]?=some x→B (mk i (S (l.take i)))=some (match R (l.take i) x with|some r=>.rt r|none=>.nx (mk (i+1) (S (l.take i++[x])))))
  (he:B (mk l.length (S l))=some (.ex (e (S l)))) (hN:l.length<N):Am B N (mk 0 (S []))=some ((Ka R [] l).elim (.inl (e (S l))) .inr):=by
 suffices H:∀k i N,i+k=l.length→k<N→Am B N (mk i (S (l.take i)))=some ((Ka R (l.take i) (l.drop i)).elim (.inl (e (S l))) .inr)by
  have:=H l.length 0 N (by omega) hN
  grind
 intro k
 induction k with
 |zero=>
  intro i N hi hN
  obtain⟨N,rfl⟩:∃m,N=m+1:=⟨N-1,by omega⟩
  have:i=l.length:=by omega
  subst this
  rw[Am,IX,he,T7]
  rfl
 |succ k b=>
  intro i N hi hN
  obtain⟨N,rfl⟩:∃m,N=m+1:=⟨N-1,by omega⟩
  have a:i<l.length:=by omega
  rw[Am,hs i l[i] (Yb a),Y7 a,Ka]
  cases R (l.take i) l[i]with
  |some r=>rfl
  |none=>
   have:=b (i+1) N (by omega) (by omega)
   rw[YW a]at this
   exact this
theorem uR{R:List α→α→Option ρ}(h:∀p x,R p x=none):∀(l p:List α),Ka R p l=none
 |[],p=>rfl
 |x::l,p=>by rw[Ka,h];exact uR h l _
theorem Fp{B:σ→Option (Lv σ ξ ρ)}{N:Nat}(l:List α)(S:List α→β)(mk:Nat→β→σ)(e:β→ξ)
  (hs:∀i x,l[i]?=some x→B (mk i (S (l.take i)))=some (.nx (mk (i+1) (S (l.take i++[x])))))
  (he:B (mk l.length (S l))=some (.ex (e (S l)))) (hN:l.length<N):Am B N (mk 0 (S []))=some (.inl (e (S l))):=by
 rw[Zxd l S (fun _ _=>none) mk e hs he hN,uR fun _ _=>rfl]
 rfl
theorem wj{B:σ→Option (Lv σ ξ ρ)}(I:Nat→σ→Prop)(Q:ξ ⊕ ρ→Prop)
  (h:∀k v,I k v→∃o,B v=some o∧match o with|.nx c=>∃k',k'<k∧I k' c|.ex b=>Q (.inl b)|.rt y=>Q (.inr y)):
  ∀N k v,k<N→I k v→∃o,Am B N v=some o∧Q o
 |0,k,v,d,_=>absurd d (IU _)
 |N+1,k,v,d,g=>by
  obtain⟨o,e,a⟩:=h k v g
  rw[Am,e]
  cases o with
  |nx c=>obtain⟨k',i,f⟩:=a;exact wj I Q h N k' c (by omega) f
  |ex b=>exact⟨_,rfl,a⟩
  |rt y=>exact⟨_,rfl,a⟩
theorem Cy{l:List α}{i:Nat}{x:α}(h:l[i]?=some x):(i:Int)<(l.length:Int):=by
 grind
theorem BD{n:Nat}(h:n<4611686018427387904):n<Aj:=h
end
end Go.Eng
