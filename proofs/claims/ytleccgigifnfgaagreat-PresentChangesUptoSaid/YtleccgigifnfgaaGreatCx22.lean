import Derived.Test.YtleccgigifnfgaaGreatCx21
import Derived.Test.YtleccgigifnfgaaGreatCx09
import Derived.Test.YtleccgigifnfgaaGreatRows
import Derived.WalkKit
import Derived.ProofKit
import Derived.OpenShut
import Derived.Carry
import Derived.Deep.DeepHandedRow
import Derived.Test.YtleccgigifnfgaaGreatCx00
namespace Go.Proofs.YtleccgigifnfgaaGreat
set_option maxRecDepth 100000
set_option linter.all false
open Go Go.Eng
abbrev D2(a:Scm):Ad×Blk:=((1,3),⟨0,true,26,3,[vL AE a.messages,vL AP a.enums,vL AZ a.services]⟩)
abbrev DZ(a:Fld):Ad×Blk:=((1,4),⟨0,true,54,16,[vI a.num,vS a.name,vI a.card,vI a.key,vI a.type.kind,vS a.type.name,vS a.union,vB a.hasDefault,vI a.dflt.kind,.d (.int .u64 a.dflt.bits),vS a.dflt.text,vL Ar a.dflt.list,vL As a.dflt.pairs,vL Ah a.dflt.slots,vL Au a.dflt.raws,vL Ax a.notes]⟩)
abbrev D1(a:Val):Ad×Blk:=((1,5),⟨0,true,33,7,[vI a.kind,.d (.int .u64 a.bits),vS a.text,vL Ar a.list,vL As a.pairs,vL Ah a.slots,vL Au a.raws]⟩)
abbrev EL:Int→AV:=fun y=>vI y
def uC(a:Scm)(b:Fld)(c:Val):Nat→St:=fun d=>Ab [(3,.ptr (1,3) 0 0),(4,.ptr (1,4) 0 0),(5,.ptr (1,5) 0 0),(7,vN d)] [(D2 a),(DZ b),(D1 c)]
def xC:Unit→Nat×St:=fun _=>(0,Ab [] [])
def V6(c:Scm)(d:Fld)(a:Val)(b:Nat):PT 0 (Lv (Nat) (Unit) (Int)):=vw .go<|vz (Ag a.list)<|br (decide ((b:Int)<(a.list.length:Int))) (vw .go<|vw .go<|vw .go<|ix a.list b fun f=>cl (cg c d.type f) fun e=>br (!decide (e=(0:Int))) (Ap EL (fun _=>[]) e) (vs (wa b 1)<|ln (uC c d a) (b+1))) (Ak (xC) ())
def PJ(a:Scm)(b:Fld)(c:Val):Nat→Option (Lv (Nat) (Unit) (Int)):=fun d=>(V6 a b c d).m
def bJ:PT 0 (Int):=lr EL (fun _=>[]) 0
def bI(a:Scm)(b:Fld)(c:Val):PT 0 (Int):=lc (Ab [(3,.ptr (1,3) 0 0),(4,.ptr (1,4) 0 0),(5,.ptr (1,5) 0 0),(7,vI 0)] [(D2 a),(DZ b),(D1 c)]) ((An (PJ a b c) Aj 0).bind (Sum.elim (fun _=>(bJ).m) some))
def bN(b:Scm)(c:Fld)(a:Val):PT 0 (Int):=vw .go<|vw .go<|vw .go<|vw .go<|vy (!(((!decide (a.kind=(11:Int)))||(!decide (a.bits=(0:Int))))||(!decide (a.text=(⟨#[]⟩:ByteArray))))) (Ag a.pairs)<|vw .go<|vy (!(((!decide (a.kind=(11:Int)))||(!decide (a.bits=(0:Int))))||(!decide (a.text=(⟨#[]⟩:ByteArray))))) (Ag a.slots)<|vg (!(((!decide (a.kind=(11:Int)))||(!decide (a.bits=(0:Int))))||(!decide (a.text=(⟨#[]⟩:ByteArray))))) (wa a.pairs.length a.slots.length)<|vw .go<|vy (!(((!decide (a.kind=(11:Int)))||(!decide (a.bits=(0:Int))))||(!decide (a.text=(⟨#[]⟩:ByteArray))))) (Ag a.raws)<|vg (!(((!decide (a.kind=(11:Int)))||(!decide (a.bits=(0:Int))))||(!decide (a.text=(⟨#[]⟩:ByteArray))))) (wa (a.pairs.length+a.slots.length) a.raws.length)<|br ((((!decide (a.kind=(11:Int)))||(!decide (a.bits=(0:Int))))||(!decide (a.text=(⟨#[]⟩:ByteArray))))||decide ((0:Int)<(((a.pairs.length+a.slots.length)+a.raws.length:Nat):Int))) (lr EL (fun _=>[]) 12) (lc (Ab [(3,.ptr (1,3) 0 0),(4,.ptr (1,4) 0 0),(5,.ptr (1,5) 0 0)] [(D2 b),(DZ c),(D1 a)]) ((bI b c a).m))
def x9(a:Scm)(b:Fld)(c:Val):Nat→St:=fun v5=>Ab [(3,.ptr (1,3) 0 0),(4,.ptr (1,4) 0 0),(5,.ptr (1,5) 0 0),(9,vN v5)] [(D2 a),(DZ b),(D1 c)]
def xl:Unit→Nat×St:=fun _=>(2,Ab [] [])
def wU(a:Scm)(b:Fld)(c:Val)(v5:Nat):Nat→St:=fun d=>Ab [(3,.ptr (1,3) 0 0),(4,.ptr (1,4) 0 0),(5,.ptr (1,5) 0 0),(9,vN v5),(10,vN d)] [(D2 a),(DZ b),(D1 c)]
def xd(a:Scm)(b:Fld)(c:Val)(v5:Nat):Unit→Nat×St:=fun _=>(4,Ab [(3,.ptr (1,3) 0 0),(4,.ptr (1,4) 0 0),(5,.ptr (1,5) 0 0),(9,vN v5)] [(D2 a),(DZ b),(D1 c)])
def VX(e:Scm)(f:Fld)(a:Val)(v5:Nat)(b:Nat):PT 0 (Lv (Nat) (Unit) (Int)):=br (decide ((b:Int)<(v5:Int))) (vw .go<|ix a.pairs b fun g=>vw .go<|ix a.pairs v5 fun c=>cl (ZW0 g.key c.key) fun d=>br d (Ap EL (fun _=>[]) 9) (vs (wa b 1)<|ln (wU e f a v5) (b+1))) (Ak (xd e f a v5) ())
def Ms(a:Scm)(b:Fld)(c:Val)(v5:Nat):Nat→Option (Lv (Nat) (Unit) (Int)):=fun d=>(VX a b c v5 d).m
def We(a:Scm)(b:Fld)(c:Val)(v5:Nat):PT 0 (Lv (Nat) (Unit) (Int)):=vs (wa v5 1)<|ln (x9 a b c) (v5+1)
def Rm(c:Scm)(d:Fld)(e:Val)(v5:Nat):PT 0 (Lv (Nat) (Unit) (Int)):=vw .go<|vw .go<|vw .go<|ix e.pairs v5 fun b=>cl (cg c d.type b.val) fun a=>br (!decide (a=(0:Int))) (Ap EL (fun _=>[]) a) (lc (Ab [(3,.ptr (1,3) 0 0),(4,.ptr (1,4) 0 0),(5,.ptr (1,5) 0 0),(9,vN v5)] [(D2 c),(DZ d),(D1 e)]) ((We c d e v5).m))
def Rr(a:Scm)(b:Fld)(c:Val)(v5:Nat):PT 0 (Lv (Nat) (Unit) (Int)):=lc (Ab [(3,.ptr (1,3) 0 0),(4,.ptr (1,4) 0 0),(5,.ptr (1,5) 0 0),(9,vN v5),(10,vI 0)] [(D2 a),(DZ b),(D1 c)]) ((An (Ms a b c v5) Aj 0).bind (Sum.elim (fun _=>(Rm a b c v5).m) (fun z=>some (.rt z))))
def Rq(c:Scm)(a:Fld)(b:Val)(v5:Nat):PT 0 (Lv (Nat) (Unit) (Int)):=vw .go<|vw .go<|ix b.pairs v5 fun d=>cl (NL a.key d.key) fun e=>br (!e) (Ap EL (fun _=>[]) 12) (lc (Ab [(3,.ptr (1,3) 0 0),(4,.ptr (1,4) 0 0),(5,.ptr (1,5) 0 0),(9,vN v5)] [(D2 c),(DZ a),(D1 b)]) ((Rr c a b v5).m))
def UK(b:Scm)(c:Fld)(a:Val)(v5:Nat):PT 0 (Lv (Nat) (Unit) (Int)):=vw .go<|vz (Ag a.pairs)<|br (decide ((v5:Int)<(a.pairs.length:Int))) (lc (Ab [(3,.ptr (1,3) 0 0),(4,.ptr (1,4) 0 0),(5,.ptr (1,5) 0 0),(9,vN v5)] [(D2 b),(DZ c),(D1 a)]) ((Rq b c a v5).m)) (Ak (xl) ())
def PI(a:Scm)(b:Fld)(c:Val):Nat→Option (Lv (Nat) (Unit) (Int)):=fun v5=>(UK a b c v5).m
def jd:PT 0 (Int):=lr EL (fun _=>[]) 0
def lL(a:Scm)(b:Fld)(c:Val):PT 0 (Int):=lc (Ab [(3,.ptr (1,3) 0 0),(4,.ptr (1,4) 0 0),(5,.ptr (1,5) 0 0),(9,vI 0)] [(D2 a),(DZ b),(D1 c)]) ((An (PI a b c) Aj 0).bind (Sum.elim (fun _=>(jd).m) some))
def ni(c:Scm)(b:Fld)(a:Val):PT 0 (Int):=vw .go<|br (!decide (b.card=(5:Int))) (vw .go<|vw .go<|vw .go<|cl (cg c b.type a) fun d=>lr EL (fun _=>[]) d) (vw .go<|vw .go<|vw .go<|vw .go<|vy (!(((!decide (a.kind=(12:Int)))||(!decide (a.bits=(0:Int))))||(!decide (a.text=(⟨#[]⟩:ByteArray))))) (Ag a.list)<|vw .go<|vy (!(((!decide (a.kind=(12:Int)))||(!decide (a.bits=(0:Int))))||(!decide (a.text=(⟨#[]⟩:ByteArray))))) (Ag a.slots)<|vg (!(((!decide (a.kind=(12:Int)))||(!decide (a.bits=(0:Int))))||(!decide (a.text=(⟨#[]⟩:ByteArray))))) (wa a.list.length a.slots.length)<|vw .go<|vy (!(((!decide (a.kind=(12:Int)))||(!decide (a.bits=(0:Int))))||(!decide (a.text=(⟨#[]⟩:ByteArray))))) (Ag a.raws)<|vg (!(((!decide (a.kind=(12:Int)))||(!decide (a.bits=(0:Int))))||(!decide (a.text=(⟨#[]⟩:ByteArray))))) (wa (a.list.length+a.slots.length) a.raws.length)<|br ((((!decide (a.kind=(12:Int)))||(!decide (a.bits=(0:Int))))||(!decide (a.text=(⟨#[]⟩:ByteArray))))||decide ((0:Int)<(((a.list.length+a.slots.length)+a.raws.length:Nat):Int))) (lr EL (fun _=>[]) 12) (lc (Ab [(3,.ptr (1,3) 0 0),(4,.ptr (1,4) 0 0),(5,.ptr (1,5) 0 0)] [(D2 c),(DZ b),(D1 a)]) ((lL c b a).m)))
def mI(a:Scm)(b:Fld)(c:Val):PT 0 (Int):=lc (Ab [(3,.ptr (1,3) 0 0),(4,.ptr (1,4) 0 0),(5,.ptr (1,5) 0 0)] [(D2 a),(DZ b),(D1 c)]) ((ni a b c).m)
def jQ(b:Scm)(a:Fld)(c:Val):PT 0 (Int):=vw .go<|lc (Ab [(3,.ptr (1,3) 0 0),(4,.ptr (1,4) 0 0),(5,.ptr (1,5) 0 0),(14,vB (decide (a.card=(4:Int))))] [(D2 b),(DZ a),(D1 c)]) (if decide (a.card=(4:Int))=true then(bN b a c).m else(mI b a c).m)
def jt(a:Scm)(b:Fld)(c:Val):PT 0 (Int):=lc (Ab [(3,.ptr (1,3) 0 0),(4,.ptr (1,4) 0 0),(5,.ptr (1,5) 0 0)] [(D2 a),(DZ b),(D1 c)]) ((jQ a b c).m)
def eL(a:Scm)(b:Fld)(c:Val):Option (Int):=(jt a b c).m
theorem ZJE{C:Cx}(co:CO C 0)(a:Scm)(b:Fld)(c:Val):KL Tryz.prog (AF tl) 144 C (pa [0,0,1,0,1,0,1,0,1] (AB Tryz.f31)) [.tmp 6] 0 (uC a b c) (xC) EL (fun _=>[]) (PJ a b c):=fun h _ hm Q d f e=>AA co Aa Ac (V6 a b c h) (Ae [3,4,5,7] C1) nl f hm e fun r g=>⟨fun i=>fun j=>⟨id,id⟩,id⟩
theorem ZG9{C:Cx}(co:CO C 0)(a:Scm)(b:Fld)(c:Val)(v5:Nat):KL Tryz.prog (AF tl) 144 C (pa [0,0,1,0,1,0,0,1,0,0,1,0,1,1,1,1] (AB Tryz.f31)) [.tmp 6] 0 (wU a b c v5) (xd a b c v5) EL (fun _=>[]) (Ms a b c v5):=fun i _ hm Q d h f=>AA co Aa Ac (VX a b c v5 i) (Ae [3,4,5,9,10] C1) (Ae [3,4,5,9] C1) h hm f fun r g=>⟨fun k=>fun e=>fun j=>⟨id,id⟩,id⟩
theorem ZGh{C:Cx}(co:CO C 0)(b:Scm)(c:Fld)(d:Val):KL Tryz.prog (AF tl) 144 C (pa [0,0,1,0,1,1,1,1] (AB Tryz.f31)) [.tmp 6] 0 (x9 b c d) (xl) EL (fun _=>[]) (PI b c d):=fun v5 _ hm Q f e a=>Al co Aa Ac 1 (UK b c d v5) (Ae [3,4,5,9] C1) nl e hm a fun r g=>⟨fun _ hm a=>sq (bk 3 (Al co Aa Ac 1 (Rq b c d v5) (Ae [3,4,5,9] C1) nl e hm a fun r g=>fun j=>fun k=>⟨id,fun _ hm a=>sq (Al co Aa Ac 1 (Rr b c d v5) (Ae [3,4,5,9,10] C1) nl e hm a fun r g=>fun _ hm a=>bk 4 (lo (HH (ZG9 co b c d v5) e hm a (fun _ hm=>AA co Aa Ac (Rm b c d v5) (Ae [3,4,5,9] C1) nl e hm a fun r g=>fun h=>fun i=>⟨id,fun _ hm a=>AA co Aa Ac (We b c d v5) (Ae [3,4,5,9] C1) nl e hm a fun r g=>id⟩))))⟩)),id⟩
theorem ZWU(c:Scm)(b:Fld)(d:Val):KC Tryz.prog 31 [.agg ((Av c).map .d),.agg ((Aq b).map .d),.agg ((Ai d).map .d)] (eL c b d) EL:=Aw Tryz.func31 Tryz.ntmps31 Aa [.tmp 6] fun C co y hm e a=>Al co Aa Ac 1 (jt c b d) (Ae [3,4,5] C1) nl (fun _ h=>h) hm a fun r g=>fun _ hm a=>sq (Al co Aa Ac 1 (jQ c b d) (Ae [3,4,5,14] C1) nl (fun _ h=>h) hm a fun r g=>fun _ hm a=>cd (decide (b.card=(4:Int))) hm (fun hm=>Al co Aa Ac 1 (bN c b d) (Ae [3,4,5] C1) nl (fun _ h=>h) hm a fun r g=>⟨id,fun _ hm a=>sq (Al co Aa Ac 1 (bI c b d) (Ae [3,4,5,7] C1) nl (fun _ h=>h) hm a fun r g=>fun _ hm a=>bk 0 (lo (AG (ZJE co c b d) (fun _ h=>h) hm a (fun _ hm=>AA co Aa Ac (bJ) nl nl (fun _ h=>h) hm a fun r g=>id))))⟩) (fun hm=>AA co Aa Ac (mI c b d) (Ae [3,4,5] C1) nl (fun _ h=>h) hm a fun r g=>fun _ hm a=>Al co Aa Ac 2 (ni c b d) (Ae [3,4,5] C1) nl (fun _ h=>h) hm a fun r g=>⟨fun f=>id,⟨id,fun _ hm a=>sq (Al co Aa Ac 1 (lL c b d) (Ae [3,4,5,9] C1) nl (fun _ h=>h) hm a fun r g=>fun _ hm a=>bk 2 (lo (AG (ZGh co c b d) (fun _ h=>h) hm a (fun _ hm=>Am co Aa Ac (jd) hm a fun r g=>id))))⟩⟩))
abbrev ph:Bool→AV:=fun y=>vB y
def aI(a:Val):PT 0 (Bool):=vw .go<|cl (aY a.kind) fun b=>vw .go<|vw .go<|vw .go<|clg ((b&&decide (a.bits=(0:Int)))&&decide (a.text=(⟨#[]⟩:ByteArray))) (w3 a) fun c=>lr ph (fun _=>[]) (((b&&decide (a.bits=(0:Int)))&&decide (a.text=(⟨#[]⟩:ByteArray)))&&c)
def dQ(a:Val):Option (Bool):=(aI a).m
theorem ZW3(a:Val):KC Tryz.prog 68 [.agg ((Ai a).map .d)] (dQ a) ph:=Aw Tryz.func68 Tryz.ntmps68 Aa [.tmp 2] fun C co y hm b c=>Am co Aa Ac (aI a) hm c fun r g=>fun d=>fun e=>id
abbrev MT:Bool→AV:=fun y=>vB y
def XC(b:Fld)(a:Val):PT 0 (Bool):=vw .go<|br (decide (b.card=(3:Int))) (vw .go<|cl (ZW3 a) fun c=>lr MT (fun _=>[]) c) (br (decide (b.card=(4:Int))) (vw .go<|vz (Ag a.list)<|lr MT (fun _=>[]) (decide ((a.list.length:Int)=(0:Int)))) (br (decide (b.card=(5:Int))) (vw .go<|vz (Ag a.pairs)<|lr MT (fun _=>[]) (decide ((a.pairs.length:Int)=(0:Int)))) (lr MT (fun _=>[]) false)))
def eF(a:Fld)(b:Val):Option (Bool):=(XC a b).m
theorem ZXy(a:Fld)(b:Val):KC Tryz.prog 32 [.agg ((Aq a).map .d),.agg ((Ai b).map .d)] (eF a b) MT:=Aw Tryz.func32 Tryz.ntmps32 Aa [.tmp 4] fun C co y hm c d=>Am co Aa Ac (XC a b) hm d fun r g=>⟨fun e=>id,⟨id,⟨id,id⟩⟩⟩
abbrev PS(a:Slt):Ad×Blk:=((1,3),⟨0,true,67,8,[vI a.num,vI a.val.kind,.d (.int .u64 a.val.bits),vS a.val.text,vL Ar a.val.list,vL As a.val.pairs,vL Ah a.val.slots,vL Au a.val.raws]⟩)
abbrev Qb:List Slt→AV:=fun y=>vL Ah y
def Za(b:List Slt)(c:Slt):List Slt×Bool×Nat→St:=fun(a,v2,v3)=>Ab [(0,vL Ah b),(3,.ptr (1,3) 0 0),(5,.ref (1,5) 0 0 a.length),(6,vB v2),(7,vN v3)] [(PS c),((1,5),⟨0,true,67,8,Af Ah a⟩)]
def wo(b:Slt):Bool×List Slt→Nat×St:=fun(c,a)=>(0,Ab [(3,.ptr (1,3) 0 0),(5,.ref (1,5) 0 0 a.length),(6,vB c)] [(PS b),((1,5),⟨0,true,67,8,Af Ah a⟩)])
def Zw(c:List Slt)(b:Slt)(a:List Slt)(v2:Bool)(v3:Nat):PT 0 (Lv (List Slt×Bool×Nat) (Bool×List Slt) (List Slt)):=vz (Ag c)<|br (decide ((v3:Int)<(c.length:Int))) (A4 (!v2) c (v3:Int) fun f=>vw .go<|br ((!v2)&&decide (b.num<f.num)) (vw .go<|vw .sep<|ap a (b:Slt)<|ix c v3 fun d=>vw .sep<|ap (a++[b]) (d:Slt)<|vs (wa v3 1)<|vz (fl ((a++[b])++[d]))<|ln (Za c b) ((a++[b])++[d],true,v3+1)) (ix c v3 fun e=>vw .sep<|ap a (e:Slt)<|vs (wa v3 1)<|vz (fl (a++[e]))<|ln (Za c b) (a++[e],v2,v3+1))) (vz (fl a)<|Ak (wo b) (v2,a))
def Q1(a:List Slt)(b:Slt):List Slt×Bool×Nat→Option (Lv (List Slt×Bool×Nat) (Bool×List Slt) (List Slt)):=fun(c,v2,v3)=>(Zw a b c v2 v3).m
def Xk(b:Slt)(c:Bool)(a:List Slt):PT 0 (List Slt):=br (!c) (vw .go<|vw .sep<|ap a (b:Slt)<|vz (fr (a++[b]))<|lr Qb (fun _=>[]) (a++[b])) (vz (fr a)<|lr Qb (fun _=>[]) a)
def XM(b:List Slt)(a:Slt):PT 0 (List Slt):=vw (.ads 5 5 67 8)<|vz (fl ([]:List Slt))<|lc (Ab [(0,vL Ah b),(3,.ptr (1,3) 0 0),(5,.ref (1,5) 0 0 ([]:List Slt).length),(6,vB false),(7,vI 0)] [(PS a),((1,5),⟨0,true,67,8,Af Ah ([]:List Slt)⟩)]) ((An (Q1 b a) Aj (([]:List Slt),false,0)).bind (Sum.elim (fun(d,c)=>(Xk a d c).m) some))
def Xr(a:List Slt)(b:Slt):PT 0 (List Slt):=lc (Ab [(0,vL Ah a),(3,.ptr (1,3) 0 0),(5,.e0),(6,vB false),(7,vI 0)] [(PS b)]) ((XM a b).m)
def aH(a:List Slt)(b:Slt):PT 0 (List Slt):=lc (Ab [(0,vL Ah a),(3,.ptr (1,3) 0 0),(5,.e0),(6,vB false)] [(PS b)]) ((Xr a b).m)
def eo(a:List Slt)(b:Slt):Option (List Slt):=(aH a b).m
theorem ZKi{C:Cx}(co:CO C 0)(b:List Slt)(a:Slt):KL Tryz.prog (AF tl) 44 C (pa [0,0,1,0,1,1,1] (AB Tryz.f33)) [.tmp 4] 0 (Za b a) (wo a) Qb (fun _=>[]) (Q1 b a):=fun(f,v2,v3) _ hm Q c e d=>AA co Aa Ac (Zw b a f v2 v3) (Ae [0,3,5,6,7] [((1,3),false),((1,5),true)]) (Ae [3,5,6] [((1,3),false),((1,5),true)]) e hm d fun r g=>⟨fun h=>⟨fun i=>id,fun j=>id⟩,id⟩
theorem ZXK(c:List Slt)(b:Slt):KC Tryz.prog 33 [vL Ah c,.agg ((Cg b).map .d)] (eo c b) Qb:=Aw Tryz.func33 Tryz.ntmps33 Aa [.tmp 4] fun C co y hm d a=>Al co Aa Ac 3 (aH c b) (Ae [0,3,5,6] DP) nl (fun _ h=>h) hm a fun r g=>fun _ hm a=>sq (Al co Aa Ac 1 (Xr c b) (Ae [0,3,5,6,7] DP) nl (fun _ h=>h) hm a fun r g=>fun _ hm a=>bk 0 (Hy co (XM c b) (Ae [0,3,5,6,7] [((1,3),false),((1,5),true)]) hm a fun r g=>fun _ hm a=>lo (AG (ZKi co c b) (fun _ h=>h) hm a (fun(f,e) hm=>Am co Aa Ac (Xk b f e) hm a fun r g=>⟨id,id⟩))))
abbrev o0:Val→AV:=fun y=>.agg ((Ai y).map .d)
def yj(a:Val)(b:List Slt):PT 0 (Val):=vw .go<|vw .go<|vw .go<|lr o0 (fun _=>[]) (.mk a.kind a.bits a.text a.list a.pairs b a.raws:Val)
def Zdt(a:Val)(b:List Slt):Option (Val):=(yj a b).m
theorem bY(a:Val)(b:List Slt):KC Tryz.prog 34 [.agg ((Ai a).map .d),vL Ah b] (Zdt a b) o0:=Aw Tryz.func34 Tryz.ntmps34 Aa [.cell 4 33] fun C co y hm c d=>Am co Aa Ac (yj a b) hm d fun r g=>id
abbrev NN:List (Ad×Bool):=[((1,9),false),((1,10),false),((1,13),false),((1,15),true)]
abbrev zH:List (Ad×Bool):=[((1,7),false),((1,9),false),((1,10),false),((1,12),false),((1,13),false)]
abbrev IE(a:Val):Ad×Blk:=((1,9),⟨0,true,33,7,[vI a.kind,.d (.int .u64 a.bits),vS a.text,vL Ar a.list,vL As a.pairs,vL Ah a.slots,vL Au a.raws]⟩)
abbrev IL:Ad×Blk:=((1,10),⟨0,true,33,7,[vI 0,.d (.int .u64 0),vS ⟨#[]⟩,.e0,.e0,.e0,.e0]⟩)
abbrev IQ(o:Int)(p:ByteArray)(a:Int)(b:Int)(c:Int)(d:ByteArray)(e:ByteArray)(f:Bool)(g:Int)(h:Int)(i:ByteArray)(j:List Val)(k:List Pr)(l:List Slt)(m:List Raw)(n:List Nt):Ad×Blk:=((1,13),⟨0,true,54,16,[vI o,vS p,vI a,vI b,vI c,vS d,vS e,vB f,vI g,.d (.int .u64 h),vS i,vL Ar j,vL As k,vL Ah l,vL Au m,vL Ax n]⟩)
abbrev xk(a:Val):Ad×Blk:=((1,7),⟨0,true,33,7,[vI a.kind,.d (.int .u64 a.bits),vS a.text,vL Ar a.list,vL As a.pairs,vL Ah a.slots,vL Au a.raws]⟩)
abbrev E9:Val×Int→AV:=fun y=>.tup [.agg ((Ai y.1).map .d),vI y.2]
def yZ(w:Val)(x:Int)(y:Val)(q:ByteArray)(r:List Fld)(s:List Spn)(c6:List ByteArray)(t:List Nt)(u:Int)(v:ByteArray)(b:Int)(c:Int)(d:Int)(e:ByteArray)(f:ByteArray)(g:Bool)(h:Int)(i:Int)(j:ByteArray)(k:List Val)(l:List Pr)(m:List Slt)(n:List Raw)(o:List Nt):List Slt×Nat→St:=fun(a,p)=>Ab [(3,vI x),(7,.iptr (Ai w) 0),(9,.ptr (1,9) 0 0),(10,.ptr (1,10) 0 0),(12,.iptr (AE (.mk q r s c6 t:Msg)) 0),(13,.ptr (1,13) 0 0),(15,.ref (1,15) 0 0 a.length),(16,vN p)] [(IE y),IL,(IQ u v b c d e f g h i j k l m n o),((1,15),⟨0,true,67,8,Af Ah a⟩)]
def ZWj(r:Val)(s:Int)(t:Val)(p:Int)(q:ByteArray)(b:Int)(c:Int)(d:Int)(e:ByteArray)(f:ByteArray)(g:Bool)(h:Int)(i:Int)(j:ByteArray)(k:List Val)(l:List Pr)(m:List Slt)(n:List Raw)(o:List Nt):List Slt→Nat×St:=fun a=>(0,Ab [(3,vI s),(7,.iptr (Ai r) 0),(9,.ptr (1,9) 0 0),(10,.ptr (1,10) 0 0),(13,.ptr (1,13) 0 0),(15,.ref (1,15) 0 0 a.length)] [(IE t),IL,(IQ p q b c d e f g h i j k l m n o),((1,15),⟨0,true,67,8,Af Ah a⟩)])
def Sj(w:Val)(x:Int)(y:Val)(q:ByteArray)(r:List Fld)(s:List Spn)(c6:List ByteArray)(t:List Nt)(u:Int)(v:ByteArray)(c:Int)(d:Int)(e:Int)(f:ByteArray)(g:ByteArray)(h:Bool)(i:Int)(j:Int)(k:ByteArray)(l:List Val)(m:List Pr)(n:List Slt)(o:List Raw)(p:List Nt)(b:Nat)(a:List Slt):PT 0 (Lv (List Slt×Nat) (List Slt) (Val×Int)):=vs (wa b 1)<|vz (fl a)<|ln (yZ w x y q r s c6 t u v c d e f g h i j k l m n o p) (a,b+1)
def Zl(w:Val)(x:Int)(y:Val)(q:ByteArray)(r:List Fld)(s:List Spn)(c6:List ByteArray)(t:List Nt)(u:Int)(v:ByteArray)(b:Int)(c:Int)(d:Int)(e:ByteArray)(f:ByteArray)(g:Bool)(h:Int)(i:Int)(j:ByteArray)(k:List Val)(l:List Pr)(m:List Slt)(n:List Raw)(o:List Nt)(p:Nat):List Slt→St:=fun a=>Ab [(3,vI x),(7,.iptr (Ai w) 0),(9,.ptr (1,9) 0 0),(10,.ptr (1,10) 0 0),(12,.iptr (AE (.mk q r s c6 t:Msg)) 0),(13,.ptr (1,13) 0 0),(15,.ref (1,15) 0 0 a.length),(16,vN p)] [(IE y),IL,(IQ u v b c d e f g h i j k l m n o),((1,15),⟨0,true,67,8,Af Ah a⟩)]
def Ma(w:Val)(x:Int)(y:Val)(q:ByteArray)(r:List Fld)(s:List Spn)(c6:List ByteArray)(t:List Nt)(u:Int)(v:ByteArray)(a:Int)(b:Int)(c:Int)(d:ByteArray)(e:ByteArray)(f:Bool)(g:Int)(h:Int)(i:ByteArray)(j:List Val)(k:List Pr)(l:List Slt)(m:List Raw)(n:List Nt)(p:Nat):List Slt→Option (Lv (List Slt×Nat) (List Slt) (Val×Int)):=fun o=>(Sj w x y q r s c6 t u v a b c d e f g h i j k l m n p o).m
def RM(r:Val)(s:Int)(z:Val)(t:ByteArray)(u:List Fld)(v:List Spn)(c6:List ByteArray)(w:List Nt)(x:Int)(y:ByteArray)(d:Int)(e:Int)(f:Int)(g:ByteArray)(b:ByteArray)(h:Bool)(i:Int)(j:Int)(k:ByteArray)(l:List Val)(m:List Pr)(n:List Slt)(o:List Raw)(p:List Nt)(a:List Slt)(c:Nat)(B:Fld×Bool):PT 0 (Lv (List Slt×Nat) (List Slt) (Val×Int)):=ix r.slots c fun A=>vw .go<|vw .go<|vw .go<|br ((!decide (A.num=s))&&(decide (b=(⟨#[]⟩:ByteArray))||(!decide (B.1.union=b)))) (ix r.slots c fun q=>vw .sep<|ap a (q:Slt)<|vz (fl (a++[q]))<|lc (Zl r s z t u v c6 w x y d e f g b h i j k l m n o p c (a++[q])) (Ma r s z t u v c6 w x y d e f g b h i j k l m n o p c (a++[q]))) (vz (fl a)<|lc (Zl r s z t u v c6 w x y d e f g b h i j k l m n o p c a) (Ma r s z t u v c6 w x y d e f g b h i j k l m n o p c a))
def Sd(w:Val)(z:Int)(A:Val)(r:ByteArray)(s:List Fld)(t:List Spn)(c6:List ByteArray)(u:List Nt)(x:Int)(y:ByteArray)(d:Int)(e:Int)(f:Int)(g:ByteArray)(h:ByteArray)(i:Bool)(j:Int)(k:Int)(l:ByteArray)(m:List Val)(n:List Pr)(o:List Slt)(p:List Raw)(q:List Nt)(b:List Slt)(c:Nat):PT 0 (Lv (List Slt×Nat) (List Slt) (Val×Int)):=ix w.slots c fun v=>du (cl (Nu (.mk r s t c6 u:Msg) v.num) fun a=>vw .go<|vz (fl b)<|lc (Ab [(3,vI z),(7,.iptr (Ai w) 0),(9,.ptr (1,9) 0 0),(10,.ptr (1,10) 0 0),(12,.iptr (AE (.mk r s t c6 u:Msg)) 0),(13,.ptr (1,13) 0 0),(15,.ref (1,15) 0 0 b.length),(16,vN c),(17,.ptr (1,17) 0 0)] [(IE A),IL,(IQ x y d e f g h i j k l m n o p q),((1,15),⟨0,true,67,8,Af Ah b⟩),((1,17),⟨0,true,54,16,[vI a.1.num,vS a.1.name,vI a.1.card,vI a.1.key,vI a.1.type.kind,vS a.1.type.name,vS a.1.union,vB a.1.hasDefault,vI a.1.dflt.kind,.d (.int .u64 a.1.dflt.bits),vS a.1.dflt.text,vL Ar a.1.dflt.list,vL As a.1.dflt.pairs,vL Ah a.1.dflt.slots,vL Au a.1.dflt.raws,vL Ax a.1.notes]⟩)]) ((RM w z A r s t c6 u x y d e f g h i j k l m n o p q b c a).m))
def S0(q:Val)(t:Int)(u:Val)(v:ByteArray)(w:List Fld)(x:List Spn)(c6:List ByteArray)(y:List Nt)(r:Int)(s:ByteArray)(b:Int)(c:Int)(d:Int)(e:ByteArray)(f:ByteArray)(g:Bool)(h:Int)(i:Int)(j:ByteArray)(k:List Val)(l:List Pr)(m:List Slt)(n:List Raw)(o:List Nt)(a:List Slt)(p:Nat):PT 0 (Lv (List Slt×Nat) (List Slt) (Val×Int)):=vz (Ag q.slots)<|br (decide ((p:Int)<(q.slots.length:Int))) (vz (fl a)<|lc (Ab [(3,vI t),(7,.iptr (Ai q) 0),(9,.ptr (1,9) 0 0),(10,.ptr (1,10) 0 0),(12,.iptr (AE (.mk v w x c6 y:Msg)) 0),(13,.ptr (1,13) 0 0),(15,.ref (1,15) 0 0 a.length),(16,vN p)] [(IE u),IL,(IQ r s b c d e f g h i j k l m n o),((1,15),⟨0,true,67,8,Af Ah a⟩)]) ((Sd q t u v w x c6 y r s b c d e f g h i j k l m n o a p).m)) (vz (fl a)<|Ak (ZWj q t u r s b c d e f g h i j k l m n o) a)
def NU(w:Val)(x:Int)(y:Val)(q:ByteArray)(r:List Fld)(s:List Spn)(c6:List ByteArray)(t:List Nt)(u:Int)(v:ByteArray)(a:Int)(b:Int)(c:Int)(d:ByteArray)(e:ByteArray)(f:Bool)(g:Int)(h:Int)(i:ByteArray)(j:List Val)(k:List Pr)(l:List Slt)(m:List Raw)(n:List Nt):List Slt×Nat→Option (Lv (List Slt×Nat) (List Slt) (Val×Int)):=fun(o,p)=>(S0 w x y q r s c6 t u v a b c d e f g h i j k l m n o p).m
def RA(t:Val)(x:Int)(u:Val)(v:Int)(w:ByteArray)(b:Int)(c:Int)(d:Int)(e:ByteArray)(f:ByteArray)(g:Bool)(h:Int)(i:Int)(j:ByteArray)(k:List Val)(l:List Pr)(m:List Slt)(n:List Raw)(o:List Nt)(a:List Slt):PT 0 (Val×Int):=vw .go<|vw .go<|cl (ZXy (.mk v w b c (.mk d e:Typ) f g (.mk h i j k l m n:Val) o:Fld) u) fun p=>br (!p) (vw (.frz 15 [(15,(a.map Ah))] [])<|vz (fz a)<|vw .sep<|vw .go<|cl (ZXK a (.mk x u:Slt)) fun q=>cl (bY t q) fun r=>vw .go<|lr E9 (fun _=>[]) (r,0)) (vw (.frz 15 [(15,(a.map Ah))] [])<|vz (fz a)<|vw .sep<|cl (bY t a) fun s=>vw .go<|lr E9 (fun _=>[]) (s,0))
def RO(q:Val)(r:Int)(s:Val)(u:ByteArray)(v:List Fld)(w:List Spn)(c6:List ByteArray)(x:List Nt)(o:Int)(p:ByteArray)(a:Int)(b:Int)(c:Int)(d:ByteArray)(e:ByteArray)(f:Bool)(g:Int)(h:Int)(i:ByteArray)(j:List Val)(k:List Pr)(l:List Slt)(m:List Raw)(n:List Nt):PT 0 (Val×Int):=vw (.ads 15 15 67 8)<|vw (.fzb 12 [12])<|vw (.fzb 7 [7])<|vz (fl ([]:List Slt))<|lc (Ab [(3,vI r),(7,.iptr (Ai q) 0),(9,.ptr (1,9) 0 0),(10,.ptr (1,10) 0 0),(12,.iptr (AE (.mk u v w c6 x:Msg)) 0),(13,.ptr (1,13) 0 0),(15,.ref (1,15) 0 0 ([]:List Slt).length),(16,vI 0)] [(IE s),IL,(IQ o p a b c d e f g h i j k l m n),((1,15),⟨0,true,67,8,Af Ah ([]:List Slt)⟩)]) ((An (NU q r s u v w c6 x o p a b c d e f g h i j k l m n) Aj (([]:List Slt),0)).bind (Sum.elim (fun t=>(RA q r s o p a b c d e f g h i j k l m n t).m) some))
def SN(u:Val)(v:Int)(w:Val)(o:ByteArray)(p:List Fld)(q:List Spn)(c6:List ByteArray)(r:List Nt)(s:Int)(t:ByteArray)(a:Int)(b:Int)(c:Int)(d:ByteArray)(e:ByteArray)(f:Bool)(g:Int)(h:Int)(i:ByteArray)(j:List Val)(k:List Pr)(l:List Slt)(m:List Raw)(n:List Nt):PT 0 (Val×Int):=lc (Ab [(3,vI v),(7,.ptr (1,7) 0 0),(9,.ptr (1,9) 0 0),(10,.ptr (1,10) 0 0),(12,.ptr (1,12) 0 0),(13,.ptr (1,13) 0 0),(15,.e0),(16,vI 0)] [(xk u),(IE w),IL,((1,12),⟨0,true,48,5,[vS o,vL Aq p,vL AQ q,vL AC c6,vL Ax r]⟩),(IQ s t a b c d e f g h i j k l m n)]) ((RO u v w o p q c6 r s t a b c d e f g h i j k l m n).m)
def Z9(u:Val)(v:Int)(w:Val):ByteArray×List Fld×List Spn×List ByteArray×List Nt×Int×ByteArray×Int×Int×Int×ByteArray×ByteArray×Bool×Int×Int×ByteArray×List Val×List Pr×List Slt×List Raw×List Nt→St:=fun(o,p,q,c6,r,s,t,a,b,c,d,e,f,g,h,i,j,k,l,m,n)=>Ab [(3,vI v),(7,.ptr (1,7) 0 0),(9,.ptr (1,9) 0 0),(10,.ptr (1,10) 0 0),(12,.ptr (1,12) 0 0),(13,.ptr (1,13) 0 0),(15,.e0)] [(xk u),(IE w),IL,((1,12),⟨0,true,48,5,[vS o,vL Aq p,vL AQ q,vL AC c6,vL Ax r]⟩),(IQ s t a b c d e f g h i j k l m n)]
def L0(u:Val)(v:Int)(w:Val):ByteArray×List Fld×List Spn×List ByteArray×List Nt×Int×ByteArray×Int×Int×Int×ByteArray×ByteArray×Bool×Int×Int×ByteArray×List Val×List Pr×List Slt×List Raw×List Nt→Option (Val×Int):=fun(o,p,q,c6,r,s,t,a,b,c,d,e,f,g,h,i,j,k,l,m,n)=>(SN u v w o p q c6 r s t a b c d e f g h i j k l m n).m
def Re(e:Scm)(g:ByteArray)(d:Val)(b:Int)(c:Val):PT 0 (Val×Int):=vw .go<|cl (ZXo e g b) fun a=>vw .go<|vw .go<|br (decide (a.2.2=(0:Int))) (vw .go<|vw .go<|vw .go<|cl (ZWU e a.2.1 c) fun f=>br (!decide (f=(0:Int))) (vw .go<|lr E9 (fun _=>[]) ((.mk 0 0 ⟨#[]⟩ [] [] [] []:Val),f)) (lc (Z9 d b c (a.1.name,a.1.fields,a.1.reserved,a.1.gone,a.1.notes,a.2.1.num,a.2.1.name,a.2.1.card,a.2.1.key,a.2.1.type.kind,a.2.1.type.name,a.2.1.union,a.2.1.hasDefault,a.2.1.dflt.kind,a.2.1.dflt.bits,a.2.1.dflt.text,a.2.1.dflt.list,a.2.1.dflt.pairs,a.2.1.dflt.slots,a.2.1.dflt.raws,a.2.1.notes)) (L0 d b c (a.1.name,a.1.fields,a.1.reserved,a.1.gone,a.1.notes,a.2.1.num,a.2.1.name,a.2.1.card,a.2.1.key,a.2.1.type.kind,a.2.1.type.name,a.2.1.union,a.2.1.hasDefault,a.2.1.dflt.kind,a.2.1.dflt.bits,a.2.1.dflt.text,a.2.1.dflt.list,a.2.1.dflt.pairs,a.2.1.dflt.slots,a.2.1.dflt.raws,a.2.1.notes)))) (br (!decide (a.2.2=(0:Int))) (vw .go<|lr E9 (fun _=>[]) ((.mk 0 0 ⟨#[]⟩ [] [] [] []:Val),a.2.2)) (lc (Z9 d b c (a.1.name,a.1.fields,a.1.reserved,a.1.gone,a.1.notes,a.2.1.num,a.2.1.name,a.2.1.card,a.2.1.key,a.2.1.type.kind,a.2.1.type.name,a.2.1.union,a.2.1.hasDefault,a.2.1.dflt.kind,a.2.1.dflt.bits,a.2.1.dflt.text,a.2.1.dflt.list,a.2.1.dflt.pairs,a.2.1.dflt.slots,a.2.1.dflt.raws,a.2.1.notes)) (L0 d b c (a.1.name,a.1.fields,a.1.reserved,a.1.gone,a.1.notes,a.2.1.num,a.2.1.name,a.2.1.card,a.2.1.key,a.2.1.type.kind,a.2.1.type.name,a.2.1.union,a.2.1.hasDefault,a.2.1.dflt.kind,a.2.1.dflt.bits,a.2.1.dflt.text,a.2.1.dflt.list,a.2.1.dflt.pairs,a.2.1.dflt.slots,a.2.1.dflt.raws,a.2.1.notes))))
def S7(a:Scm)(b:ByteArray)(c:Val)(d:Int)(e:Val):Option (Val×Int):=(Re a b c d e).m
theorem ZQk{C:Cx}(co:CO C 0)(u:Val)(v:Int)(w:Val)(x:ByteArray)(y:List Fld)(z:List Spn)(c6:List ByteArray)(A:List Nt)(s:Int)(t:ByteArray)(a:Int)(b:Int)(c:Int)(d:ByteArray)(e:ByteArray)(f:Bool)(h:Int)(i:Int)(j:ByteArray)(k:List Val)(l:List Pr)(m:List Slt)(n:List Raw)(o:List Nt):KL Tryz.prog (AF tl) 95 C (pa [0,0,1,0,1,1,1,1,1] (AB Tryz.f9)) [.cell 10 33,.tmp 11] 0 (yZ u v w x y z c6 A s t a b c d e f h i j k l m n o) (ZWj u v w s t a b c d e f h i j k l m n o) E9 (fun _=>[]) (NU u v w x y z c6 A s t a b c d e f h i j k l m n o):=fun(q,p) _ hm Q I E B=>Al co Aa Ac 1 (S0 u v w x y z c6 A s t a b c d e f h i j k l m n o q p) (Ae [3,7,9,10,12,13,15,16] NN) (Ae [3,7,9,10,13,15] NN) E hm B fun r g=>⟨fun _ hm B=>sq (bk 1 (sq (F2 co Aa Ac (.fst 0 (.fst 1 (.fst 2 (.fst 3 (.fst 4 (.fst 5 (.fst 6 (.two 7 11 (.fst 8 (.fst 9 (.fst 10 (.fst 11 (.fst 12 (.fst 13 .nil)))))) (.fst 7 (.fst 8 (.fst 9 (.fst 10 (.fst 12 (.fst 13 .nil)))))))))))))) [7,12] (Sd u v w x y z c6 A s t a b c d e f h i j k l m n o q p) (Ae [3,7,9,10,12,13,15,16,17] [((1,9),false),((1,10),false),((1,13),false),((1,15),true),((1,17),false)]) hm B fun r g=>fun J=>fun G=>fun _ hm B=>ZSL co Aa Ac (RM u v w x y z c6 A s t a b c d e f h i j k l m n o q p G) (Ae [3,7,9,10,12,13,15,16] NN) nl E hm B (.normal) (Zl u v w x y z c6 A s t a b c d e f h i j k l m n o p) (Ma u v w x y z c6 A s t a b c d e f h i j k l m n o p) (fun F _ hm B=>AA co Aa Ac (Sj u v w x y z c6 A s t a b c d e f h i j k l m n o p F) (Ae [3,7,9,10,12,13,15,16] NN) nl E hm B fun r g=>id) fun H r g=>fun K=>⟨fun D=>H (q++[D]),H q⟩))),id⟩
theorem K_9(E:Scm)(F:ByteArray)(s:Val)(t:Int)(u:Val):KC Tryz.prog 9 [.agg ((Av E).map .d),vS F,.agg ((Ai s).map .d),vI t,.agg ((Ai u).map .d)] (S7 E F s t u) E9:=Aw Tryz.func9 Tryz.ntmps9 Aa [.cell 10 33,.tmp 11] fun C co y hm I v=>vr co Aa Ac 5 (Re E F s t u) (Ae [3,7,9,10,12,13,15] zH) nl (fun _ h=>h) hm v (Z9 s t u) (L0 s t u) (fun(z,A,B,c6,D,w,x,b,c,d,e,f,i,j,k,l,m,n,o,p,q) _ hm v=>sq (Al co Aa Ac 1 (SN s t u z A B c6 D w x b c d e f i j k l m n o p q) (Ae [3,7,9,10,12,13,15,16] zH) nl (fun _ h=>h) hm v fun r g=>fun _ hm v=>bk 0 (Hy co (RO s t u z A B c6 D w x b c d e f i j k l m n o p q) (Ae [3,7,9,10,12,13,15,16] NN) hm v fun r g=>fun _ hm v=>lo (AG (ZQk co s t u z A B c6 D w x b c d e f i j k l m n o p q) (fun _ h=>h) hm v (fun G hm=>Am co Aa Ac (RA s t u w x b c d e f i j k l m n o p q G) hm v fun r g=>fun J=>⟨fun K=>fun L=>id,fun M=>id⟩))))) fun H r g=>fun a=>⟨fun N=>⟨id,H (a.1.name,a.1.fields,a.1.reserved,a.1.gone,a.1.notes,a.2.1.num,a.2.1.name,a.2.1.card,a.2.1.key,a.2.1.type.kind,a.2.1.type.name,a.2.1.union,a.2.1.hasDefault,a.2.1.dflt.kind,a.2.1.dflt.bits,a.2.1.dflt.text,a.2.1.dflt.list,a.2.1.dflt.pairs,a.2.1.dflt.slots,a.2.1.dflt.raws,a.2.1.notes)⟩,⟨id,H (a.1.name,a.1.fields,a.1.reserved,a.1.gone,a.1.notes,a.2.1.num,a.2.1.name,a.2.1.card,a.2.1.key,a.2.1.type.kind,a.2.1.type.name,a.2.1.union,a.2.1.hasDefault,a.2.1.dflt.kind,a.2.1.dflt.bits,a.2.1.dflt.text,a.2.1.dflt.list,a.2.1.dflt.pairs,a.2.1.dflt.slots,a.2.1.dflt.raws,a.2.1.notes)⟩⟩
abbrev Fu(a:Val):Ad×Blk:=((1,2),⟨0,true,33,7,[vI a.kind,.d (.int .u64 a.bits),vS a.text,vL Ar a.list,vL As a.pairs,vL Ah a.slots,vL Au a.raws]⟩)
abbrev Fw(a:Val):Ad×Blk:=((1,3),⟨0,true,33,7,[vI a.kind,.d (.int .u64 a.bits),vS a.text,vL Ar a.list,vL As a.pairs,vL Ah a.slots,vL Au a.raws]⟩)
abbrev Dg:Bool→AV:=fun y=>vB y
def we(a:Val)(b:Val):Nat→St:=fun c=>Ab [(2,.ptr (1,2) 0 0),(3,.ptr (1,3) 0 0),(5,vN c)] [(Fu a),(Fw b)]
def xH(a:Val)(b:Val):Unit→Nat×St:=fun _=>(0,Ab [(2,.ptr (1,2) 0 0),(3,.ptr (1,3) 0 0)] [(Fu a),(Fw b)])
def VQ(a:Val)(d:Val)(c:Val→Val→Option (Bool))(b:Nat):PT 0 (Lv (Nat) (Unit) (Bool)):=vw .go<|vz (Ag a.list)<|br (decide ((b:Int)<(a.list.length:Int))) (vw .go<|ix a.list b fun e=>vw .go<|ix d.list b fun f=>cs Tryz.prog 10 [.agg ((Ai e).map .d),.agg ((Ai f).map .d)] [] [] (c e f) (fun y=>vB y) fun g=>br (!g) (Ap Dg (fun _=>[]) false) (vs (wa b 1)<|ln (we a d) (b+1))) (Ak (xH a d) ())
def MD(b:Val)(c:Val)(a:Val→Val→Option (Bool)):Nat→Option (Lv (Nat) (Unit) (Bool)):=fun d=>(VQ b c a d).m
def wF(a:Val)(b:Val):Nat→St:=fun v5=>Ab [(2,.ptr (1,2) 0 0),(3,.ptr (1,3) 0 0),(6,vN v5)] [(Fu a),(Fw b)]
def wc(a:Val)(b:Val):Unit→Nat×St:=fun _=>(2,Ab [(2,.ptr (1,2) 0 0),(3,.ptr (1,3) 0 0)] [(Fu a),(Fw b)])
def Wc(a:Val)(d:Val)(b:Val→Val→Option (Bool))(v5:Nat):PT 0 (Lv (Nat) (Unit) (Bool)):=vw .go<|vz (Ag a.pairs)<|br (decide ((v5:Int)<(a.pairs.length:Int))) (vw .go<|ix a.pairs v5 fun g=>vw .go<|ix d.pairs v5 fun h=>cs Tryz.prog 10 [.agg ((Ai g.key).map .d),.agg ((Ai h.key).map .d)] [] [] (b g.key h.key) (fun y=>vB y) fun e=>vw .go<|A4 (!(!e)) a.pairs (v5:Int) fun i=>vw .go<|A4 (!(!e)) d.pairs (v5:Int) fun c=>De (!(!e)) Tryz.prog 10 [.agg ((Ai i.val).map .d),.agg ((Ai c.val).map .d)] [] [] (b i.val c.val) (fun y=>vB y) fun f=>br ((!e)||(!f)) (Ap Dg (fun _=>[]) false) (vs (wa v5 1)<|ln (wF a d) (v5+1))) (Ak (wc a d) ())
def Mw(b:Val)(c:Val)(a:Val→Val→Option (Bool)):Nat→Option (Lv (Nat) (Unit) (Bool)):=fun v5=>(Wc b c a v5).m
def uV(b:Val)(c:Val):Nat→St:=fun a=>Ab [(2,.ptr (1,2) 0 0),(3,.ptr (1,3) 0 0),(7,vN a)] [(Fu b),(Fw c)]
def wV(a:Val)(b:Val):Unit→Nat×St:=fun _=>(4,Ab [(2,.ptr (1,2) 0 0),(3,.ptr (1,3) 0 0)] [(Fu a),(Fw b)])
def Rf(d:Val)(g:Val)(h:Val→Val→Option (Bool))(a:Nat):PT 0 (Lv (Nat) (Unit) (Bool)):=vw .go<|vz (Ag d.slots)<|br (decide ((a:Int)<(d.slots.length:Int))) (vw .go<|ix d.slots a fun b=>vw .go<|ix g.slots a fun c=>vw .go<|A4 (!(!decide (b.num=c.num))) d.slots (a:Int) fun e=>vw .go<|A4 (!(!decide (b.num=c.num))) g.slots (a:Int) fun f=>De (!(!decide (b.num=c.num))) Tryz.prog 10 [.agg ((Ai e.val).map .d),.agg ((Ai f.val).map .d)] [] [] (h e.val f.val) (fun y=>vB y) fun i=>br ((!decide (b.num=c.num))||(!i)) (Ap Dg (fun _=>[]) false) (vs (wa a 1)<|ln (uV d g) (a+1))) (Ak (wV d g) ())
def Mz(c:Val)(d:Val)(a:Val→Val→Option (Bool)):Nat→Option (Lv (Nat) (Unit) (Bool)):=fun b=>(Rf c d a b).m
def wy(b:Val)(c:Val):Nat→St:=fun a=>Ab [(2,.ptr (1,2) 0 0),(3,.ptr (1,3) 0 0),(8,vN a)] [(Fu b),(Fw c)]
def wS:Unit→Nat×St:=fun _=>(6,Ab [] [])
def V1(d:Val)(e:Val)(a:Nat):PT 0 (Lv (Nat) (Unit) (Bool)):=vw .go<|vz (Ag d.raws)<|br (decide ((a:Int)<(d.raws.length:Int))) (vw .go<|ix d.raws a fun b=>vw .go<|ix e.raws a fun c=>br (!(decide (b.num=c.num)&&(decide (b.wire=c.wire)&&(decide (b.bits=c.bits)&&(decide (b.data=c.data)&&true))))) (Ap Dg (fun _=>[]) false) (vs (wa a 1)<|ln (wy d e) (a+1))) (Ak (wS) ())
def MF(c:Val)(d:Val)(b:Val→Val→Option (Bool)):Nat→Option (Lv (Nat) (Unit) (Bool)):=fun a=>(V1 c d a).m
def Wd:PT 0 (Bool):=lr Dg (fun _=>[]) true
def QU(b:Val)(c:Val)(a:Val→Val→Option (Bool)):PT 0 (Bool):=lc (Ab [(2,.ptr (1,2) 0 0),(3,.ptr (1,3) 0 0),(8,vI 0)] [(Fu b),(Fw c)]) ((An (MF b c a) Aj 0).bind (Sum.elim (fun _=>(Wd).m) some))
def Wq(b:Val)(c:Val)(a:Val→Val→Option (Bool)):PT 0 (Bool):=lc (Ab [(2,.ptr (1,2) 0 0),(3,.ptr (1,3) 0 0),(7,vI 0)] [(Fu b),(Fw c)]) ((An (Mz b c a) Aj 0).bind (Sum.elim (fun _=>(QU b c a).m) some))
def Rt(b:Val)(c:Val)(a:Val→Val→Option (Bool)):PT 0 (Bool):=lc (Ab [(2,.ptr (1,2) 0 0),(3,.ptr (1,3) 0 0),(6,vI 0)] [(Fu b),(Fw c)]) ((An (Mw b c a) Aj 0).bind (Sum.elim (fun _=>(Wq b c a).m) some))
def V8(b:Val)(c:Val)(a:Val→Val→Option (Bool)):PT 0 (Bool):=lc (Ab [(2,.ptr (1,2) 0 0),(3,.ptr (1,3) 0 0),(5,vI 0)] [(Fu b),(Fw c)]) ((An (MD b c a) Aj 0).bind (Sum.elim (fun _=>(Rt b c a).m) some))
def U6(a:Val)(b:Val)(c:Val→Val→Option (Bool)):PT 0 (Bool):=vw .go<|vw .go<|vw .go<|vw .go<|vw .go<|vw .go<|vw .go<|vy (!(((!decide (a.kind=b.kind))||(!decide (a.bits=b.bits)))||(!decide (a.text=b.text)))) (Ag a.list)<|vw .go<|vy (!(((!decide (a.kind=b.kind))||(!decide (a.bits=b.bits)))||(!decide (a.text=b.text)))) (Ag b.list)<|vw .go<|vy (!((((!decide (a.kind=b.kind))||(!decide (a.bits=b.bits)))||(!decide (a.text=b.text)))||(!decide ((a.list.length:Int)=(b.list.length:Int))))) (Ag a.pairs)<|vw .go<|vy (!((((!decide (a.kind=b.kind))||(!decide (a.bits=b.bits)))||(!decide (a.text=b.text)))||(!decide ((a.list.length:Int)=(b.list.length:Int))))) (Ag b.pairs)<|vw .go<|vy (!(((((!decide (a.kind=b.kind))||(!decide (a.bits=b.bits)))||(!decide (a.text=b.text)))||(!decide ((a.list.length:Int)=(b.list.length:Int))))||(!decide ((a.pairs.length:Int)=(b.pairs.length:Int))))) (Ag a.slots)<|vw .go<|vy (!(((((!decide (a.kind=b.kind))||(!decide (a.bits=b.bits)))||(!decide (a.text=b.text)))||(!decide ((a.list.length:Int)=(b.list.length:Int))))||(!decide ((a.pairs.length:Int)=(b.pairs.length:Int))))) (Ag b.slots)<|vw .go<|vy (!((((((!decide (a.kind=b.kind))||(!decide (a.bits=b.bits)))||(!decide (a.text=b.text)))||(!decide ((a.list.length:Int)=(b.list.length:Int))))||(!decide ((a.pairs.length:Int)=(b.pairs.length:Int))))||(!decide ((a.slots.length:Int)=(b.slots.length:Int))))) (Ag a.raws)<|vw .go<|vy (!((((((!decide (a.kind=b.kind))||(!decide (a.bits=b.bits)))||(!decide (a.text=b.text)))||(!decide ((a.list.length:Int)=(b.list.length:Int))))||(!decide ((a.pairs.length:Int)=(b.pairs.length:Int))))||(!decide ((a.slots.length:Int)=(b.slots.length:Int))))) (Ag b.raws)<|br (((((((!decide (a.kind=b.kind))||(!decide (a.bits=b.bits)))||(!decide (a.text=b.text)))||(!decide ((a.list.length:Int)=(b.list.length:Int))))||(!decide ((a.pairs.length:Int)=(b.pairs.length:Int))))||(!decide ((a.slots.length:Int)=(b.slots.length:Int))))||(!decide ((a.raws.length:Int)=(b.raws.length:Int)))) (lr Dg (fun _=>[]) false) (lc (Ab [(2,.ptr (1,2) 0 0),(3,.ptr (1,3) 0 0)] [(Fu a),(Fw b)]) ((V8 a b c).m))
def Lh(a:Val→Val→Option (Bool))(b:Val)(c:Val):Option (Bool):=(U6 b c a).m
theorem ZGS{C:Cx}(co:CO C 0)(b:Val)(c:Val)(a:Val→Val→Option (Bool))(f:∀(b:Val) (c:Val),KC Tryz.prog 10 [.agg ((Ai b).map .d),.agg ((Ai c).map .d)] (a b c) Dg):KL Tryz.prog (AF tl) 174 C (pa [0,0,1,0,1,1] (AB Tryz.f10)) [.tmp 4] 0 (we b c) (xH b c) Dg (fun _=>[]) (MD b c a):=fun l _ hm Q h k j=>AA co Aa Ac (VQ b c a l) (Ae [2,3,5] EW) (Ae [2,3] EW) k hm j fun r g=>⟨fun d=>fun e=>⟨fun y hy i _ _=>by rw[(f d e).x,(f d e).e];exact(f d e).k _ i y hy,fun m=>⟨id,id⟩⟩,id⟩
theorem ZI4{C:Cx}(co:CO C 0)(c:Val)(d:Val)(a:Val→Val→Option (Bool))(e:∀(c:Val) (d:Val),KC Tryz.prog 10 [.agg ((Ai c).map .d),.agg ((Ai d).map .d)] (a c d) Dg):KL Tryz.prog (AF tl) 174 C (pa [0,0,1,0,1,1,1] (AB Tryz.f10)) [.tmp 4] 0 (wF c d) (wc c d) Dg (fun _=>[]) (Mw c d a):=fun v5 _ hm Q k m l=>AA co Aa Ac (Wc c d a v5) (Ae [2,3,6] EW) (Ae [2,3] EW) m hm l fun r g=>⟨fun h=>fun i=>⟨fun y hy f _ _=>by rw[(e h.key i.key).x,(e h.key i.key).e];exact(e h.key i.key).k _ f y hy,fun o=>fun j=>fun b=>⟨fun y hy f _ _=>by rw[(e j.val b.val).x,(e j.val b.val).e];exact(e j.val b.val).k _ f y hy,fun n=>⟨id,id⟩⟩⟩,id⟩
theorem ZKB{C:Cx}(co:CO C 0)(d:Val)(e:Val)(a:Val→Val→Option (Bool))(f:∀(d:Val) (e:Val),KC Tryz.prog 10 [.agg ((Ai d).map .d),.agg ((Ai e).map .d)] (a d e) Dg):KL Tryz.prog (AF tl) 174 C (pa [0,0,1,0,1,1,1,1] (AB Tryz.f10)) [.tmp 4] 0 (uV d e) (wV d e) Dg (fun _=>[]) (Mz d e a):=fun h _ hm Q i n m=>AA co Aa Ac (Rf d e a h) (Ae [2,3,7] EW) (Ae [2,3] EW) n hm m fun r g=>⟨fun k=>fun l=>fun b=>fun c=>⟨fun y hy j _ _=>by rw[(f b.val c.val).x,(f b.val c.val).e];exact(f b.val c.val).k _ j y hy,fun o=>⟨id,id⟩⟩,id⟩
theorem ZFT{C:Cx}(co:CO C 0)(a:Val)(b:Val)(c:Val→Val→Option (Bool))(k:∀(a:Val) (b:Val),KC Tryz.prog 10 [.agg ((Ai a).map .d),.agg ((Ai b).map .d)] (c a b) Dg):KL Tryz.prog (AF tl) 174 C (pa [0,0,1,0,1,1,1,1,1] (AB Tryz.f10)) [.tmp 4] 0 (wy a b) (wS) Dg (fun _=>[]) (MF a b c):=fun d _ hm Q e j i=>AA co Aa Ac (V1 a b d) (Ae [2,3,8] EW) nl j hm i fun r g=>⟨fun f=>fun h=>⟨id,id⟩,id⟩
theorem ZTv(a:Val→Val→Option (Bool))(e:∀(c:Val) (d:Val),KC Tryz.prog 10 [.agg ((Ai c).map .d),.agg ((Ai d).map .d)] (a c d) Dg)(c:Val)(d:Val):KC Tryz.prog 10 [.agg ((Ai c).map .d),.agg ((Ai d).map .d)] (Lh a c d) Dg:=Aw Tryz.func10 Tryz.ntmps10 Aa [.tmp 4] fun C co y hm f b=>Al co Aa Ac 2 (U6 c d a) (Ae [2,3] EW) nl (fun _ h=>h) hm b fun r g=>⟨id,fun _ hm b=>sq (Al co Aa Ac 1 (V8 c d a) (Ae [2,3,5] EW) nl (fun _ h=>h) hm b fun r g=>fun _ hm b=>bk 0 (lo (AG (ZGS co c d a e) (fun _ h=>h) hm b (fun _ hm=>sq (Al co Aa Ac 1 (Rt c d a) (Ae [2,3,6] EW) nl (fun _ h=>h) hm b fun r g=>fun _ hm b=>bk 2 (lo (AG (ZI4 co c d a e) (fun _ h=>h) hm b (fun _ hm=>sq (Al co Aa Ac 1 (Wq c d a) (Ae [2,3,7] EW) nl (fun _ h=>h) hm b fun r g=>fun _ hm b=>bk 4 (lo (AG (ZKB co c d a e) (fun _ h=>h) hm b (fun _ hm=>sq (Al co Aa Ac 1 (QU c d a) (Ae [2,3,8] EW) nl (fun _ h=>h) hm b fun r g=>fun _ hm b=>bk 6 (lo (AG (ZFT co c d a e) (fun _ h=>h) hm b (fun _ hm=>Am co Aa Ac (Wd) hm b fun r g=>id))))))))))))))))⟩
def BN:Nat→Val→Val→Option (Bool)
 |0=>fun _ _=>none
 |a+1=>Lh (BN a)
theorem cE:∀(c:Nat) (a:Val) (b:Val),KC Tryz.prog 10 [.agg ((Ai a).map .d),.agg ((Ai b).map .d)] (BN c a b) Dg
 |0,a,b=>⟨fun _ _ _ h=>(by cases h),by intro r;kernel_rfl,by intro r y;kernel_rfl⟩
 |c+1,a,b=>ZTv (BN c) (cE c) a b
abbrev cm:List (Ad×Bool):=[((1,2),false),((1,4),false),((1,5),true)]
abbrev PF(a:Val):Ad×Blk:=((1,2),⟨0,true,33,7,[vI a.kind,.d (.int .u64 a.bits),vS a.text,vL Ar a.list,vL As a.pairs,vL Ah a.slots,vL Au a.raws]⟩)
abbrev Pw:Ad×Blk:=((1,4),⟨0,true,33,7,[vI 0,.d (.int .u64 0),vS ⟨#[]⟩,.e0,.e0,.e0,.e0]⟩)
abbrev WD:Val→AV:=fun y=>.agg ((Ai y).map .d)
def aj(b:Val)(c:Int):List Slt×Nat→St:=fun(a,v2)=>Ab [(1,vI c),(2,.ptr (1,2) 0 0),(4,.ptr (1,4) 0 0),(5,.ref (1,5) 0 0 a.length),(6,vN v2)] [(PF b),Pw,((1,5),⟨0,true,67,8,Af Ah a⟩)]
def xW(b:Val):List Slt→Nat×St:=fun a=>(0,Ab [(2,.ptr (1,2) 0 0),(4,.ptr (1,4) 0 0),(5,.ref (1,5) 0 0 a.length)] [(PF b),Pw,((1,5),⟨0,true,67,8,Af Ah a⟩)])
def Rx(a:Val)(d:Int)(b:List Slt)(v2:Nat):PT 0 (Lv (List Slt×Nat) (List Slt) (Val)):=vw .go<|vz (Ag a.slots)<|br (decide ((v2:Int)<(a.slots.length:Int))) (vw .go<|ix a.slots v2 fun e=>br (!decide (e.num=d)) (vw .go<|ix a.slots v2 fun c=>vw .sep<|ap b (c:Slt)<|vs (wa v2 1)<|vz (fl (b++[c]))<|ln (aj a d) (b++[c],v2+1)) (vs (wa v2 1)<|vz (fl b)<|ln (aj a d) (b,v2+1))) (vz (fl b)<|Ak (xW a) b)
def Po(a:Val)(b:Int):List Slt×Nat→Option (Lv (List Slt×Nat) (List Slt) (Val)):=fun(c,v2)=>(Rx a b c v2).m
def aW(b:Val)(a:List Slt):PT 0 (Val):=vw (.frz 5 [(5,(a.map Ah))] [])<|vz (fz a)<|vw .sep<|vw .go<|cl (bY b a) fun c=>vw .go<|lr WD (fun _=>[]) c
def ZM(a:Val)(b:Int):PT 0 (Val):=vw (.ads 5 5 67 8)<|vz (fl ([]:List Slt))<|lc (Ab [(1,vI b),(2,.ptr (1,2) 0 0),(4,.ptr (1,4) 0 0),(5,.ref (1,5) 0 0 ([]:List Slt).length),(6,vI 0)] [(PF a),Pw,((1,5),⟨0,true,67,8,Af Ah ([]:List Slt)⟩)]) ((An (Po a b) Aj (([]:List Slt),0)).bind (Sum.elim (fun c=>(aW a c).m) some))
def Xn(a:Val)(b:Int):PT 0 (Val):=lc (Ab [(1,vI b),(2,.ptr (1,2) 0 0),(4,.ptr (1,4) 0 0),(5,.e0),(6,vI 0)] [(PF a),Pw]) ((ZM a b).m)
def Xh(a:Val)(b:Int):PT 0 (Val):=lc (Ab [(1,vI b),(2,.ptr (1,2) 0 0),(4,.ptr (1,4) 0 0),(5,.e0)] [(PF a),Pw]) ((Xn a b).m)
def dZ(a:Val)(b:Int):Option (Val):=(Xh a b).m
theorem ZG2{C:Cx}(co:CO C 0)(a:Val)(b:Int):KL Tryz.prog (AF tl) 33 C (pa [0,0,1,0,1,1] (AB Tryz.f12)) [.cell 4 33] 0 (aj a b) (xW a) WD (fun _=>[]) (Po a b):=fun(f,v2) _ hm Q c e d=>AA co Aa Ac (Rx a b f v2) (Ae [1,2,4,5,6] cm) (Ae [2,4,5] cm) e hm d fun r g=>⟨fun h=>⟨fun i=>id,id⟩,id⟩
theorem ZW8(b:Val)(c:Int):KC Tryz.prog 12 [.agg ((Ai b).map .d),vI c] (dZ b c) WD:=Aw Tryz.func12 Tryz.ntmps12 Aa [.cell 4 33] fun C co y hm d a=>Al co Aa Ac 2 (Xh b c) (Ae [1,2,4,5] F4) nl (fun _ h=>h) hm a fun r g=>fun _ hm a=>sq (Al co Aa Ac 1 (Xn b c) (Ae [1,2,4,5,6] F4) nl (fun _ h=>h) hm a fun r g=>fun _ hm a=>bk 0 (Hy co (ZM b c) (Ae [1,2,4,5,6] cm) hm a fun r g=>fun _ hm a=>lo (AG (ZG2 co b c) (fun _ h=>h) hm a (fun e hm=>Am co Aa Ac (aW b e) hm a fun r g=>fun f=>id))))
abbrev E3:Bool→AV:=fun y=>vB y
def db(g:Scm)(h:ByteArray)(c:Val)(f:Int)(i:Val):PT 0 (Bool):=vw .go<|cl (K_5 g h) fun j=>vw .go<|clg (!(!j)) (pO c 2000) fun l=>vw .go<|clg (!((!j)||(!l))) (pO i 2000) fun m=>br (((!j)||(!l))||(!m)) (cl (pP) fun n=>lr E3 (fun _=>[]) n) (vw .go<|vw .go<|vw .go<|cl (WV g h c f i) fun a=>vw .go<|vw .go<|vw .go<|vw .go<|cl (K_9 g h c f i) fun b=>vw .go<|vw .go<|vw .go<|clg (decide (a.2=b.2)) (cE Aj a.1 b.1) fun e=>vw .go<|clg (decide (a.2=b.2)&&e) (SL c f) fun o=>vw .go<|clg (decide (a.2=b.2)&&e) (ZW8 c f) fun p=>clg (decide (a.2=b.2)&&e) (cE Aj o p) fun d=>clg ((decide (a.2=b.2)&&e)&&d) (pP) fun k=>lr E3 (fun _=>[]) (((decide (a.2=b.2)&&e)&&d)&&k))
def dD(a:Scm)(b:ByteArray)(c:Val)(d:Int)(e:Val):Option (Bool):=(db a b c d e).m
theorem K_3(a:Scm)(b:ByteArray)(c:Val)(d:Int)(e:Val):KC Tryz.prog 3 [.agg ((Av a).map .d),vS b,.agg ((Ai c).map .d),vI d,.agg ((Ai e).map .d)] (dD a b c d e) E3:=Aw Tryz.func3 Tryz.ntmps3 Aa [.tmp 10] fun C co y hm f h=>Am co Aa Ac (db a b c d e) hm h fun r g=>fun k=>fun l=>fun m=>⟨fun n=>id,fun o=>fun p=>fun q=>fun s=>fun t=>fun i=>fun j=>id⟩
end Go.Proofs.YtleccgigifnfgaaGreat
namespace Go.Proofs.YtleccgigifnfgaaGreat
set_option linter.all false
open Go Go.Eng
end Go.Proofs.YtleccgigifnfgaaGreat
namespace Go.Proofs.YtleccgigifnfgaaGreat
set_option linter.all false
open Go Go.Eng Go.ChangeShapes Go.WideShapes Go.ChangeAt Go.RowKit
theorem Zn8{H:Type}(b:List UInt8):Rows.uptoBulk (DataW.lit (H:=H) (.string b))=b.length+1:=by simp only[Rows.uptoBulk]
theorem ZpE{H:Type}(a b:List (DataW H)):Rows.uptoBulk (.slice a b)=Rows.uptoBulkAll a+Rows.uptoBulkAll b+1:=by simp only[Rows.uptoBulk]
theorem ZBg{H:Type}(a:List (DataW H)):Rows.uptoBulk (.agg a)=Rows.uptoBulkAll a+1:=by simp only[Rows.uptoBulk]
def IF(W:World)(ds:List D)(cs:List Value)(o:Nat):Prop:=∀(i:Nat) (d:D),ds[i]?=some d→∃c,cs[o+i]?=some c∧RepD W (· <W.heap.size) d c
def J8(W:World)(ds:List D)(cs:List Value):Prop:=ds.length=cs.length∧IF W ds cs 0
theorem IF.app{W:World}{ds es:List D}{cs:List Value}{o:Nat}(h:IF W ds cs o)(k:IF W es cs (o+ds.length)):IF W (ds++es) cs o:=fun i d hi=>by
 rcases YL i ds.length with hl|hl
 ·rw[Yw hl]at hi;exact h i d hi
 ·rw[YF hl]at hi
  obtain⟨c,a,b⟩:=k _ d hi
  grind
theorem IF.nil{W:World}{cs:List Value}{o:Nat}:IF W [] cs o:=fun i d h=>by simp at h
theorem J8.at{W:World}{ds:List D}{cs:List Value}{o k:Nat}(h:J8 W ds ((cs.drop o).take k)):IF W ds cs o:=fun i d hi=>by
 obtain⟨c,a,b⟩:=h.2 i d hi
 grind
def rk(k:IntKind)(n:Int):Nat:=if Lit.wf (.int k n)=true then 0 else 1000000000000
theorem wH{k:IntKind}{n:Int}(h:rk k n≤1048576):k.min≤n∧n≤k.max:=by
 unfold rk at h
 split at h
 ·rename_i a
  unfold Lit.wf at a
  rw[Ya]at a
  exact⟨Fg a.1,Fg a.2⟩
 ·omega
mutual
def bk:D→Nat
 |.int k n=>rk k n
 |.bool _=>0
 |.str s=>s.size
 |.list es=>Do es
 |.map _ es=>Do es
def Ay:List D→Nat
 |[]=>0
 |d::l=>bk d+Ay l
def Do:List (List D)→Nat
 |[]=>0
 |e::l=>Ay e+1+Do l
end
theorem Ow:∀a b:List D,Ay (a++b)=Ay a+Ay b
 |[],b=>by rw[HW,Ay,YW]
 |d::a,b=>by rw[I5,Ay,Ay,Ow a b,YK]
theorem iA(d:D):Ay [d]=bk d:=by rw[Ay,Ay,Dw]
theorem DB{α:Type}{e:α→List D}:∀l:List α,l.length≤Do (l.map e)
 |[]=>DU _
 |x::l=>by have:=DB (e:=e) l;rw[CF,Do,CV];omega
theorem CJ{α:Type}{e:α→List D}{x:α}:∀{l:List α},x∈l→Ay (e x)+1≤Do (l.map e)
 |y::l,h=>by
  rw[CF,Do]
  cases YP.1 h with
  |inl h=>subst h;omega
  |inr h=>have:=CJ (e:=e) h;omega
section
variable {H:Type} (enc:TypeId×Value→H) (P:Program) (W:World)
def B6{α:Type}(n:Nat)(t:TypeId)(e:α→List D):Prop:=
 ∀cs x,DataW.trod enc P W 0 (fun _=>true) true n t cs=some x→∃v:α,J8 W (e v) cs∧Ay (e v)+1≤Rows.uptoBulk x.1
end
section
variable {H:Type} {enc:TypeId×Value→H} {P:Program} {W:World} {n:Nat} {t:TypeId}
theorem g6(d:DataW H):1≤Rows.uptoBulk d:=by cases d<;>(try (rename_i l;cases l))<;>simp[Rows.uptoBulk]
theorem Ol{d:D}{c:Value}(h:RepD W (· <W.heap.size) d c):J8 W [d] [c]:=⟨rfl,fun i d' hi=>by
 cases i with
 |zero=>cases hi;exact⟨c,rfl,h⟩
 |succ i=>simp at hi⟩
theorem Eo{k:IntKind}(a:P.underlying t=some (.int k)):B6 enc P W n t (fun v:Int=>[.int k v]):=fun cs x c=>by
 obtain⟨m,rfl,rfl,b⟩:=DataW.trod_int a c
 refine⟨m,Ol (.int _ _),?_⟩
 rw[iA,bk,rk,Yq b]
 exact g6 _
theorem ZsG(a:P.underlying t=some .bool):B6 enc P W n t (fun v:Bool=>[.bool v]):=fun cs x b=>by
 obtain⟨m,rfl,rfl⟩:=DataW.trod_bool a b
 exact⟨m,Ol (.bool _),g6 _⟩
theorem Er(a:P.underlying t=some .string):B6 enc P W n t (fun v:ByteArray=>[.str v]):=fun cs x b=>by
 obtain⟨m,rfl,rfl,_⟩:=DataW.trod_string a b
 refine⟨m,Ol (.str _),?_⟩
 rw[Zn8,iA]
 exact Yp _
theorem to{α:Type}{e:α→List D}:∀(l:List α) (xs:List (DataW H×List MemPlace)),l.length=xs.length→(∀(i:Nat) (v:α),l[i]?=some v→∃y:DataW H×List MemPlace,xs[i]?=some y∧Ay (e v)+1≤Rows.uptoBulk y.1)→Do (l.map e)≤Rows.uptoBulkAll (xs.map (·.1))
 |[],_,_,_=>DU _
 |x::l,[],h,_=>by cases h
 |x::l,y::xs,h,k=>by
  have:=to l xs (M6 h) (fun i v hi=>k (i+1) v hi)
  obtain⟨c,a,b⟩:=k 0 x rfl
  cases a
  rw[CF,CF,Do]
  simp only[Rows.uptoBulkAll]
  omega
theorem ZwU{α:Type}{Q:Nat→α→Prop}:∀(len:Nat),(∀i,i<len→∃v,Q i v)→∃l:List α,l.length=len∧∀i v,l[i]?=some v→Q i v
 |0,_=>⟨[],rfl,fun i v h=>by simp at h⟩
 |len+1,h=>by
  obtain⟨l,a,b⟩:=ZwU len (fun i hi=>h i (by omega))
  obtain⟨v,c⟩:=h len (by omega)
  refine⟨l++[v],by simp[a],fun i w hi=>?_⟩
  grind
theorem CY{α:Type}{e:TypeId}{b:α→List D}{sz:Nat}(V:P.underlying t=some (.slice e))(E:P.cellsOf e=sz)(U:sz≠0)(hl:∀x,(b x).length=sz)(h:∀m,m<n→B6 enc P W m e b):
  B6 enc P W n t (fun l:List α=>[.list (l.map b)]):=fun cs x X=>by
 rcases DataW.trod_slice V X with⟨rfl,rfl⟩|⟨a,len,cap,g,rest,m,rfl,rfl,rfl,Z,z,R,T,hi,_,_⟩
 ·exact⟨[],Ol .nil,g6 _⟩
 ·have k:∀i,i<len→∃v:α,∃y f,g[i]?=some y∧W.cells? 0 (a.add (i*sz)) sz=some f∧J8 W (b v) f∧Ay (b v)+1≤Rows.uptoBulk y.1:=fun i B=>by
   have I:=hi i B
   rw[Yn (by omega),E]at I
   obtain⟨f,M,N⟩:=pW.1 I
   obtain⟨v,O,Q⟩:=h m (by omega) f _ N
   exact⟨v,_,f,Yn (by omega),M,O,Q⟩
  obtain⟨l,A,r⟩:=ZwU len k
  have cell:∀(i j:Nat) (e':List D) (x:D),(l.map b)[i]?=some e'→e'[j]?=some x→∃c,W.cell? (a.add (i*sz+j))=some c∧RepD W (· <W.heap.size) x c:=fun i j e' x d o=>by
   rw[YS]at d
   cases s:l[i]? with
   |none=>rw[s]at d;cases d
   |some v=>
    rw[s]at d
    cases d
    obtain⟨y,f,p,q,F,G⟩:=r i v s
    obtain⟨c,H,J⟩:=F.2 j x o
    rw[YW]at H
    obtain⟨_,Y,K⟩:=World.cells?_some q
    have u:j<sz:=by
     rw[←hl v]
     rcases YL j (b v).length with h|h
     ·exact h
     ·rw[YV h]at o;cases o
    refine⟨c,?_,J⟩
    rw[←Go.Eng.add_add,K j u,H]
  refine⟨l,Ol ?_,?_⟩
  ·have hlen:(l.map b).length=len:=by simp[A]
   have:=RepD.list (w:=W) (S:=(· <W.heap.size)) (l.map b) a sz cap (fun i j=>(W.cell? (a.add (i*sz+j))).getD undef) (fun C=>by
     have L:0<len:=by
      rcases HU len with h|h
      ·exact absurd (YM (hlen.trans h)) C
      ·exact h
     obtain⟨v,y,f,_,q,_⟩:=k 0 L
     have:=World.cells?_block q (by omega)
     rw[GU]at this
     rw[←Go.Eng.block_add a 0];exact this)
    (by rw[hlen];exact z) (fun e' he=>by obtain⟨y,_,rfl⟩:=Y3.1 he;exact hl y)
    (fun i j e' x d o=>by obtain⟨c,p,_⟩:=cell i j e' x d o;rw[p];rfl)
    (fun i j e' x d o=>by obtain⟨c,p,q⟩:=cell i j e' x d o;rw[p];exact q)
   rw[hlen]at this
   exact this
  ·rw[ZpE,iA,bk]
   have:=to (e:=b) l g (by omega) (fun i v s=>by
    obtain⟨y,f,p,q,F,G⟩:=r i v s
    exact⟨y,p,G⟩)
   omega
def FB(xs:List (DataW H×List MemPlace))(i:Nat):Nat:=Rows.uptoBulkAll ((xs.drop i).map (·.1))
theorem Bm{xs:List (DataW H×List MemPlace)}{i:Nat}{a b:List D}(h:Ay a+1+FB xs (i+1)≤FB xs i)(k:Ay b≤FB xs (i+1)):Ay (a++b)≤FB xs i:=by
 rw[Ow];omega
theorem Et{xs:List (DataW H×List MemPlace)}{i:Nat}{a:List D}(h:Ay a+1+FB xs (i+1)≤FB xs i):Ay a≤FB xs i:=by omega
theorem Es{xs:List (DataW H×List MemPlace)}{a:List D}(h:Ay a≤FB xs 0):Ay a+1≤Rows.uptoBulk (.agg (xs.map (·.1))):=by
 rw[ZBg];exact Nat.succ_le_succ h
theorem ZyW{α:Type}{e:α→List D}{m i:Nat}{c:TypeId}{a:List Value}{xs:List (DataW H×List MemPlace)}(h:B6 enc P W m c e)(b:DataW.trod enc P W 0 (fun _=>true) true m c a=xs[i]?)(hi:i<xs.length):
  ∃v,J8 W (e v) a∧Ay (e v)+1+FB xs (i+1)≤FB xs i:=by
 rw[Yn hi]at b
 obtain⟨v,d,f⟩:=h _ _ b
 refine⟨v,d,?_⟩
 unfold FB
 rw[Jb hi,CF]
 simp only[Rows.uptoBulkAll]
 omega
theorem rf{α:Type}{e:α→List D}{m i k:Nat}{b:TypeId}{a:List Value}{xs:List (DataW H×List MemPlace)}(h:B6 enc P W m b e)(c:DataW.trod enc P W 0 (fun _=>true) true m b a=xs[i]?)(d:xs.length=k)(hi:Nat.blt i k=true:=by kernel_rfl):
  ∃v,J8 W (e v) a∧Ay (e v)+1+FB xs (i+1)≤FB xs i:=ZyW h c (by rw[d];exact Yo hi)
theorem la{α:Type}{e e':α→List D}(he:∀x,e x=e' x)(h:B6 enc P W n t e'):B6 enc P W n t e:=fun cs x a=>by
 obtain⟨v,b,c⟩:=h cs x a
 grind
theorem iB{α:Type}{e:α→List D}{q:Array Field}{r:Reach}{b:Nat}{v:Value}{d:DataW H}{p:List MemPlace}(rd:∀n,B6 enc P W n t e)(w:P.underlying t=some (.struct q))(z:Value.okWide P W r b t v)
  (h:DataW.Trod enc P W 0 (fun _=>true) true t v d p):∃x:α,(∀m l,RepA W (· <W.heap.size) (fun _=>⟨0,false,0,0,[]⟩) m l (.agg ((e x).map .d)) v)∧Ay (e x)+1≤Rows.uptoBulk d:=by
 obtain⟨cs,rfl,_⟩:=okWide_struct w z
 obtain⟨n,u⟩:=h
 obtain⟨x,k,s⟩:=rd n _ _ u
 have hl:(e x).length=cs.size:=by rw[k.1];simp[Value.cells]
 have key:∀(i:Nat) (c:Value),cs[i]?=some c→∃d,(e x)[i]?=some d∧RepD W (· <W.heap.size) d c:=fun i c f=>by
  have g:i<(e x).length:=by
   grind
  obtain⟨j,a,o⟩:=k.2 i _ (Yn g)
  have:j=c:=by
   rw[YW]at a
   have:cs.toList[i]?=some j:=a
   grind
  grind
 refine⟨x,fun m l=>.agg _ _ (by rw[YO,hl]) (fun i c f=>?_) (fun i y c hy f=>?_),s⟩
 ·obtain⟨d,_,a⟩:=key i c f;exact a.one
 ·obtain⟨d,a,o⟩:=key i c f
  rw[YS,a]at hy
  cases hy
  exact .d _ _ o
theorem ZHS{k:IntKind}{r:Reach}{a:Nat}{v:Value}{d:DataW H}{p:List MemPlace}(b:P.underlying t=some (.int k))(c:Value.okWide P W r a t v):
  ∃x:Int,∀S Hp m l,RepA W S Hp m l (.d (.int k x)) v:=by
 obtain⟨x,rfl⟩:=okWide_int b c
 exact⟨x,fun _ _ _ _=>.d _ _ (.int _ _)⟩
theorem ZGT{r:Reach}{a:Nat}{v:Value}{d:DataW H}{p:List MemPlace}(e:P.underlying t=some .string)(g:Value.okWide P W r a t v)(h:DataW.Trod enc P W 0 (fun _=>true) true t v d p):
  ∃x:ByteArray,(∀S Hp m l,RepA W S Hp m l (.d (.str x)) v)∧x.size+1≤Rows.uptoBulk d:=by
 obtain⟨x,rfl⟩:=okWide_string e g
 obtain⟨n,f⟩:=h
 obtain⟨s,b,c,_⟩:=DataW.trod_string e f
 have b:x=s:=by simpa[Value.cells]using b
 subst b
 have c:d=.lit (.string x.data.toList):=congrArg Prod.fst c
 subst c
 refine⟨x,fun _ _ _ _=>.d _ _ (.str _),?_⟩
 rw[Zn8]
 exact Yp _
def pN:Hp:=fun _=>⟨0,false,0,0,[]⟩
theorem ok0(m:Mu):Ok 0 pN m (· <W.heap.size) W:=⟨fun _ h=>h,fun _ _ h=>(by cases h),fun _ _ h=>(by cases h),fun _ _ _ _ h=>(by cases h),fun _ _ h=>(by cases h),⟨fun _ _ h=>(by cases h),fun _ _ h=>(by cases h),fun _ _ _ _ h=>(by cases h)⟩⟩
def yL(w:World)(S:Nat→Prop)(Hp:Hp)(m:Mu)(l:Nat):List AV→List Value→Prop
 |[],[]=>True
 |x::xs,v::vs=>RepA w S Hp m l x v∧yL w S Hp m l xs vs
 |_,_=>False
theorem ZIQ{w:World}{S:Nat→Prop}{Hp:Hp}{m:Mu}{l:Nat}{xs:List AV}{vs:List Value}(h:yL w S Hp m l xs vs):LQ w S Hp m l xs vs.toArray:=by
 suffices b:xs.length=vs.length∧∀(i:Nat) (x:AV) (v:Value),xs[i]?=some x→vs[i]?=some v→RepA w S Hp m l x v by
  exact⟨by simpa using b.1,fun i x v f e=>b.2 i x v f (by simpa using e)⟩
 induction xs generalizing vs with
 |nil=>cases vs with
  |nil=>exact⟨rfl,fun i x v h=>by simp at h⟩
  |cons _ _=>exact h.elim
 |cons x xs g=>cases vs with
  |nil=>exact h.elim
  |cons v vs=>
   obtain⟨c,d⟩:=g h.2
   refine⟨by simp[c],fun i y u hy a=>?_⟩
   cases i with
   |zero=>simp at hy a;subst hy;subst a;exact h.1
   |succ i=>exact d i y u (by simpa using hy) (by simpa using a)
theorem Zwh{f:Func}{s:ChangeSpec}{n:World}{args:Array Value}{ds z:List (DataW H)}{e:List MemPlace}{u:TypeId}(B:DataW.Whole enc P f.params.toList s.vars false W args.toList ds z e)(c:s.vars=[])
  (k:laidOutB P=true) (y:∀t∈f.params.toList,P.readableRec t=true∧t<P.types.size) (g:f.resultTypes.toList=[u]) (K:P.underlying u=some .bool)
  (j:s.fn H (ds++z)={results:=[.lit (.bool true)],args:=ds }) (m:Below W.heap.size W n):s.post enc P f false true false false W args (.bool true) n:=by
 obtain⟨p,q,F,A,rfl,G,I⟩:=id B
 rw[c]at A
 obtain⟨rfl,rfl⟩:=trodVars_none A
 refine⟨ds,[],p++[],[],p,[],B,?_,?_,?_,?_,fun h=>by cases h⟩
 ·rw[j,g]
  have:(Value.bool true).resultList f.resultTypes.size=[.bool true]:=by
   have:f.resultTypes.size=1:=by rw[←YY,g];rfl
   rw[this];rfl
  rw[this]
  exact trodAll_cons_mk (shut_bool K _) trodAll_mk0
 ·rw[j]
  have key:∀(l:List TypeId) (vs:List Value) (es:List (DataW H)) (ps:List MemPlace),(∀t∈l,P.readableRec t=true∧t<P.types.size)→DataW.TrodAll enc P W 0 (fun _=>true) true l vs es ps→
    DataW.TrodAll enc P n 0 (fun b=>decide (b<W.heap.size)) true l vs es ps:=by
   intro l
   induction l with
   |nil=>intro vs es ps _ h;obtain⟨rfl,rfl,rfl⟩:=trodAll_nil h;exact trodAll_mk0
   |cons t l M=>
    intro vs es ps w h
    have r:=DataW.TrodAll.lt h
    obtain⟨v,N,d,C,a,b,rfl,rfl,rfl,D,E⟩:=trodAll_cons h
    exact trodAll_cons_mk (Below.trod k (w t (by simp)).1 (w t (by simp)).2 D m (fun x L=>r x (I8 _ L))) (M _ _ _ (fun t J=>w t (by simp[J])) E)
  exact key _ _ _ _ y F
 ·rw[c,j];exact rfl
 ·refine⟨m.os,m.output,fun i hi=>?_⟩
  rw[m.block i hi]
  cases W.heap[i]? with
  |none=>rfl
  |some o=>cases o<;>simp
end
end Go.Proofs.YtleccgigifnfgaaGreat
