import Derived.Test.YthgmbpciandpiaaGreatLx20
import Derived.Test.YthgmbpciandpiaaGreatLx00
namespace Go.Proofs.YthgmbpciandpiaaGreat
set_option maxRecDepth 100000
set_option linter.all false
open Go Go.Eng
abbrev n9:Msg×Bool→AV:=fun y=>.tup [.agg ((AB y.1).map .d),vB y.2]
def ay(a:Scm)(b:ByteArray):PT 0 (Msg×Bool):=wg<|cs Tryz.prog 108 [vL AB a.messages,.fn (.func 109) [] [.ptr (1,3) 1 0]] [(1,3)] [((1,3),⟨1,true,9,1,[vS b]⟩)] (Tj a.messages (fun(z0:Msg)=>L8 z0 b)) (fun y=>.tup [.agg ((AB y.1).map .d),vB y.2]) fun c=>wg<|lr n9 nG (c.1,c.2)
def fi(a:Scm)(b:ByteArray):Option (Msg×Bool):=(ay a b).m
theorem Ta(b:Scm)(a:ByteArray):KC Tryz.prog 71 [.agg ((Al b).map .d),vS a] (fi b a) n9:=As Tryz.func71 Tryz.ntmps71 Aa [.cell 4 61,.tmp 5] fun C co y hm c d=>Ao co Aa Ac (ay b a) hm d fun r g=>⟨fun y hy=>B6 (ZWA b.messages (fun(z0:Msg)=>L8 z0 a)) hy co g [] [((1,3),⟨1,true,9,1,[vS a]⟩)] (AN [(1,.fn (.func 109) [] [.ptr (r.κ (1,3)) (r.γ (1,3)+1) 0])]) (fun f hg h=>(fun z0 y e=>D1 (ZVv z0 a) e co g [((1,3),⟨1,true,9,1,[vS a]⟩)] [] hg (by simp) (fun _=>.top) (fun _ _=>trivial) (fun l H=>⟨fun _=>⟨rfl,by kernel_rfl⟩,by kernel_rfl,trivial⟩))) (fun H=>trivial),fun i=>id⟩
abbrev nY:Acs×Bool→AV:=fun y=>.tup [.agg ((Cc y.1).map .d),vB y.2]
def yI(a:Scm)(c:ByteArray):PT 0 (Acs×Bool):=wg<|cl (Ta a c) fun b=>wg<|wg<|wg<|wg<|lr nY nG ((.mk b.1 a:Acs),b.2)
def ZgY(a:Scm)(b:ByteArray):Option (Acs×Bool):=(yI a b).m
theorem R2(a:Scm)(b:ByteArray):KC Tryz.prog 43 [.agg ((Al a).map .d),vS b] (ZgY a b) nY:=As Tryz.func43 Tryz.ntmps43 Aa [.cell 4 68,.tmp 5] fun C co y hm c d=>Ao co Aa Ac (yI a b) hm d fun r g=>fun e=>id
abbrev SF:Ad×Blk:=kk 4 56 16 [vI 0,vS ⟨#[]⟩,vI 0,vI 0,vI 0,vS ⟨#[]⟩,vS ⟨#[]⟩,vB false,vI 0,.d (.int .u64 0),vS ⟨#[]⟩,.e0,.e0,.e0,.e0,.e0]
abbrev QB:Fld×Bool→AV:=fun y=>.tup [.agg ((An y.1).map .d),vB y.2]
def oJ(a:Fld→Option Bool):Cl:=fun no l H θ=>(∀(z0:Fld) y,a z0=some y→CS Tryz.prog l no H (θ 1) [.agg ((An z0).map .d)] (vB y))
def y6(a:List Fld):Nat→St:=fun b=>Ab [(1,.fn (.yield 1) [] []),pp 4,(9,vL An a),(10,vN a.length),(11,vN b)] [SF]
def wU:Unit→Nat×St:=fun _=>(0,Ab [pp 4] [SF])
def yl(c:List Fld)(d:Fld→Option Bool)(a:Nat):PT 0 (Lv (Nat) (Unit) (Fld×Bool)):=br (decide ((a:Int)<(c.length:Int))) (ix c a fun b=>wg<|wg<|cf Tryz.prog 1 [.agg ((An b).map .d)] (d b) (fun y=>vB y) fun e=>br e (wg<|wg<|Au QB nG (b,true)) (vs (wa a 1)<|ln (y6 c) (a+1))) (Aj (wU) ())
def zH(b:List Fld)(a:Fld→Option Bool):Nat→Option (Lv (Nat) (Unit) (Fld×Bool)):=fun c=>(yl b a c).m
def zd:PT 0 (Fld×Bool):=wg<|wg<|lr QB nG ((.mk 0 ⟨#[]⟩ 0 0 (.mk 0 ⟨#[]⟩:Typ) ⟨#[]⟩ false (.mk 0 0 ⟨#[]⟩ [] [] [] []:Val) []:Fld),false)
def xk(a:List Fld)(b:Fld→Option Bool):PT 0 (Fld×Bool):=vz (Ah a)<|lc (Ab [(1,.fn (.yield 1) [] []),pp 4,(9,vL An a),(10,vN a.length),(11,vI 0)] [SF]) ((Am (zH a b) Ai 0).bind (Sum.elim (fun _=>(zd).m) some))
def vx(b:List Fld)(a:Fld→Option Bool):PT 0 (Fld×Bool):=lc (Ab [(0,vL An b),(1,.fn (.yield 1) [] []),pp 4] [SF]) ((xk b a).m)
def ZdW(b:List Fld)(a:Fld→Option Bool):Option (Fld×Bool):=(vx b a).m
theorem ZLI{C:Cx}(co:CO C 0)(b:List Fld)(a:Fld→Option Bool)(f:(oJ a) C.no C.l C.H0 C.θ):KL Tryz.prog (Az tl) 21 C (pa [0,0,1,0,1] (Aw Tryz.f87)) [.cell 4 56,.tmp 5] 0 (y6 b) (wU) QB nG (zH b a):=fun h _ hm Q c e d=>Av co Aa Ac (yl b a h) (Ae [1,4,9,10,11] D9) (Ae [4] D9) e hm d fun r g=>⟨fun i=>⟨⟨fun y hy=>f _ y hy,by intro r;kernel_rfl,by intro r y;kernel_rfl⟩,fun j=>⟨id,id⟩⟩,id⟩
theorem ZZ5(c:List Fld)(a:Fld→Option Bool):KO Tryz.prog 87 0 [vL An c,.fn (.yield 1) [] []] [] (oJ a) (ZdW c a) QB nG:=Bi Tryz.func87 Tryz.ntmps87 Aa [.cell 4 56,.tmp 5] 0 (fun C co e y hm d b=>Ak co Aa Ac 1 (vx c a) (Ae [0,1,4] D9) nl nH hm b fun r g=>fun _ hm b=>sq (Ak co Aa Ac 1 (xk c a) (Ae [1,4,9,10,11] D9) nl nH hm b fun r g=>fun _ hm b=>bk 0 (lo (AF (ZLI co c a e) nH hm b (fun _ hm=>Ao co Aa Ac (zd) hm b fun r g=>id)))))
abbrev od:Bool→AV:=fun y=>vB y
@[reducible] def oC(w0:Int):Bool→List Blk:=fun y=>[⟨0,true,3,1,[vI w0]⟩]
def yj(a:Fld)(w0:Int):PT 1 (Bool):=wg<|wg<|lr od (oC w0) (decide (a.num=w0))
def fJ(a:Fld)(w0:Int):Option (Bool):=(yj a w0).m
theorem ZZv(a:Fld)(w0:Int):KO Tryz.prog 88 1 [.agg ((An a).map .d),.ptr (0,0) 0 0] [⟨0,true,3,1,[vI w0]⟩] (fun _ _ _ _=>True) (fJ a w0) od (oC w0):=Bi Tryz.func88 Tryz.ntmps88 Aa [.tmp 3] 1 (fun C co d y hm b c=>Ao co Aa Ac (yj a w0) hm c fun r g=>id) (hB:=fun y=>⟨.inr (by kernel_rfl),rfl,trivial⟩)
abbrev n2:Fld×Bool→AV:=fun y=>.tup [.agg ((An y.1).map .d),vB y.2]
def w5(a:Msg)(b:Int):PT 0 (Fld×Bool):=wg<|cs Tryz.prog 87 [vL An a.fields,.fn (.func 88) [] [.ptr (1,3) 1 0]] [(1,3)] [((1,3),⟨1,true,3,1,[vI b]⟩)] (ZdW a.fields (fun(z0:Fld)=>fJ z0 b)) (fun y=>.tup [.agg ((An y.1).map .d),vB y.2]) fun c=>wg<|lr n2 nG (c.1,c.2)
def Zlh(a:Msg)(b:Int):Option (Fld×Bool):=(w5 a b).m
theorem LX(b:Msg)(a:Int):KC Tryz.prog 51 [.agg ((AB b).map .d),vI a] (Zlh b a) n2:=As Tryz.func51 Tryz.ntmps51 Aa [.cell 4 56,.tmp 5] fun C co y hm c d=>Ao co Aa Ac (w5 b a) hm d fun r g=>⟨fun y hy=>B6 (ZZ5 b.fields (fun(z0:Fld)=>fJ z0 a)) hy co g [] [((1,3),⟨1,true,3,1,[vI a]⟩)] (AN [(1,.fn (.func 88) [] [.ptr (r.κ (1,3)) (r.γ (1,3)+1) 0])]) (fun f hg h=>(fun z0 y e=>D1 (ZZv z0 a) e co g [((1,3),⟨1,true,3,1,[vI a]⟩)] [] hg (by simp) (fun _=>.top) (fun _ _=>trivial) (fun l H=>⟨fun _=>⟨rfl,by kernel_rfl⟩,by kernel_rfl,trivial⟩))) (fun H=>trivial),fun i=>id⟩
abbrev Ql:Acs×Fld×Int→AV:=fun y=>.tup [.agg ((Cc y.1).map .d),.agg ((An y.2.1).map .d),vI y.2.2]
def yZ(a:Acs×Bool)(b:Fld×Bool):PT 0 (Acs×Fld×Int):=lr Ql nG (a.1,b.1,0)
def yn(a:Acs×Bool)(b:Fld×Bool):PT 0 (Acs×Fld×Int):=vw (.fzb 9 [9])<|vw (.fzb 11 [11])<|vw .sep<|wg<|wg<|lc (Ab [pp 6,pp 7,(8,vI 0)] [kk 6 68 8 (cD (Cc a.1)),kk 7 56 16 (cD (An b.1))]) ((yZ a b).m)
def ya(c:Scm)(d:ByteArray)(e:Int):PT 0 (Acs×Fld×Int):=wg<|cl (R2 c d) fun a=>wg<|br (!a.2) (wg<|wg<|wg<|lr Ql nG (a.1,(.mk 0 ⟨#[]⟩ 0 0 (.mk 0 ⟨#[]⟩:Typ) ⟨#[]⟩ false (.mk 0 0 ⟨#[]⟩ [] [] [] []:Val) []:Fld),10)) (wg<|cl (LX a.1.m e) fun b=>wg<|br (!b.2) (wg<|wg<|wg<|lr Ql nG (a.1,(.mk 0 ⟨#[]⟩ 0 0 (.mk 0 ⟨#[]⟩:Typ) ⟨#[]⟩ false (.mk 0 0 ⟨#[]⟩ [] [] [] []:Val) []:Fld),8)) (lc (Ab [pp 6,pp 7,pp 9,pp 11] [kk 6 68 8 [vS ⟨#[]⟩,.e0,.e0,.e0,.e0,.e0,.e0,.e0],kk 7 56 16 [vI 0,vS ⟨#[]⟩,vI 0,vI 0,vI 0,vS ⟨#[]⟩,vS ⟨#[]⟩,vB false,vI 0,.d (.int .u64 0),vS ⟨#[]⟩,.e0,.e0,.e0,.e0,.e0],kk 9 68 8 (cD (Cc a.1)),kk 11 56 16 (cD (An b.1))]) ((yn a b).m)))
def ZhC(a:Scm)(b:ByteArray)(c:Int):Option (Acs×Fld×Int):=(ya a b c).m
theorem ZYq(b:Scm)(c:ByteArray)(d:Int):KC Tryz.prog 25 [.agg ((Al b).map .d),vS c,vI d] (ZhC b c d) Ql:=As Tryz.func25 Tryz.ntmps25 Aa [.cell 6 68,.cell 7 56,.tmp 8] fun C co y hm e a=>Ak co Aa Ac 5 (ya b c d) (Ae [6,7,9,11] [((1,6),false),((1,7),false),((1,9),false),((1,11),false)]) nl nH hm a fun r g=>fun f=>⟨id,fun h=>⟨id,fun _ hm a=>sq (Fg co Aa Ac (.fst 0 (.fst 1 (.fst 2 (.fst 3 (.fst 4 .nil))))) [9,11] (yn f h) (Ae [6,7,8] [((1,6),false),((1,7),false)]) hm a fun r g=>fun _ hm a=>Ao co Aa Ac (yZ f h) hm a fun r g=>id)⟩⟩
abbrev Qt:Int→AV:=fun y=>vI y
def oG(a:Slt→Option Bool):Cl:=fun no l H θ=>(∀(z0:Slt) y,a z0=some y→CS Tryz.prog l no H (θ 1) [.agg ((B2 z0).map .d)] (vB y))
def y5(a:List Slt):Nat→St:=fun b=>Ab [(0,vL Ap a),(1,.fn (.yield 1) [] []),(7,vN a.length),(8,vN b)] []
def wV:Unit→Nat×St:=fun _=>(0,Ab [] [])
def Ro(b:List Slt)(c:Slt→Option Bool)(a:Nat):PT 0 (Lv (Nat) (Unit) (Int)):=br (decide ((a:Int)<(b.length:Int))) (ix b a fun d=>cf Tryz.prog 1 [.agg ((B2 d).map .d)] (c d) (fun y=>vB y) fun e=>br e (Au Qt nG (a:Int)) (vs (wa a 1)<|ln (y5 b) (a+1))) (Aj (wV) ())
def Pv(b:List Slt)(a:Slt→Option Bool):Nat→Option (Lv (Nat) (Unit) (Int)):=fun c=>(Ro b a c).m
def ZN:PT 0 (Int):=lr Qt nG (-1)
def b9(a:List Slt)(b:Slt→Option Bool):PT 0 (Int):=vz (Ah a)<|lc (Ab [(0,vL Ap a),(1,.fn (.yield 1) [] []),(7,vN a.length),(8,vI 0)] []) ((Am (Pv a b) Ai 0).bind (Sum.elim (fun _=>(ZN).m) some))
def Z5(b:List Slt)(a:Slt→Option Bool):PT 0 (Int):=lc (Ab [(0,vL Ap b),(1,.fn (.yield 1) [] [])] []) ((b9 b a).m)
def L9(b:List Slt)(a:Slt→Option Bool):Option (Int):=(Z5 b a).m
theorem ZIz{C:Cx}(co:CO C 0)(b:List Slt)(a:Slt→Option Bool)(f:(oG a) C.no C.l C.H0 C.θ):KL Tryz.prog (Az tl) 19 C (pa [0,0,1,0,1] (Aw Tryz.f55)) [.tmp 4] 0 (y5 b) (wV) Qt nG (Pv b a):=fun h _ hm Q c e d=>Av co Aa Ac (Ro b a h) (AH [0,1,7,8]) nl e hm d fun r g=>⟨fun i=>⟨⟨fun y hy=>f _ y hy,by intro r;kernel_rfl,by intro r y;kernel_rfl⟩,fun j=>⟨id,id⟩⟩,id⟩
theorem di(c:List Slt)(a:Slt→Option Bool):KO Tryz.prog 55 0 [vL Ap c,.fn (.yield 1) [] []] [] (oG a) (L9 c a) Qt nG:=Bi Tryz.func55 Tryz.ntmps55 Aa [.tmp 4] 0 (fun C co e y hm d b=>Ak co Aa Ac 1 (Z5 c a) (AH [0,1]) nl nH hm b fun r g=>fun _ hm b=>sq (Ak co Aa Ac 1 (b9 c a) (AH [0,1,7,8]) nl nH hm b fun r g=>fun _ hm b=>bk 0 (lo (AF (ZIz co c a e) nH hm b (fun _ hm=>Ao co Aa Ac (ZN) hm b fun r g=>id)))))
abbrev n5:Bool→AV:=fun y=>vB y
@[reducible] def oy(w0:Int):Bool→List Blk:=fun y=>[⟨0,true,3,1,[vI w0]⟩]
def vK(a:Slt)(w0:Int):PT 1 (Bool):=wg<|wg<|lr n5 (oy w0) (decide (a.num=w0))
def fu(a:Slt)(w0:Int):Option (Bool):=(vK a w0).m
theorem ZZE(a:Slt)(w0:Int):KO Tryz.prog 56 1 [.agg ((B2 a).map .d),.ptr (0,0) 0 0] [⟨0,true,3,1,[vI w0]⟩] (fun _ _ _ _=>True) (fu a w0) n5 (oy w0):=Bi Tryz.func56 Tryz.ntmps56 Aa [.tmp 3] 1 (fun C co d y hm b c=>Ao co Aa Ac (vK a w0) hm c fun r g=>id) (hB:=fun y=>⟨.inr (by kernel_rfl),rfl,trivial⟩)
abbrev nU:Int→AV:=fun y=>vI y
def vh(a:List Slt)(b:Int):PT 0 (Int):=cs Tryz.prog 55 [vL Ap a,.fn (.func 56) [] [.ptr (1,3) 1 0]] [(1,3)] [((1,3),⟨1,true,3,1,[vI b]⟩)] (L9 a (fun(z0:Slt)=>fu z0 b)) (fun y=>vI y) fun c=>lr nU nG c
def Zh9(a:List Slt)(b:Int):Option (Int):=(vh a b).m
theorem ZXj(b:List Slt)(a:Int):KC Tryz.prog 26 [vL Ap b,vI a] (Zh9 b a) nU:=As Tryz.func26 Tryz.ntmps26 Aa [.tmp 4] fun C co y hm c d=>Ao co Aa Ac (vh b a) hm d fun r g=>⟨fun y hy=>B6 (di b (fun(z0:Slt)=>fu z0 a)) hy co g [] [((1,3),⟨1,true,3,1,[vI a]⟩)] (AN [(1,.fn (.func 56) [] [.ptr (r.κ (1,3)) (r.γ (1,3)+1) 0])]) (fun f hg h=>(fun z0 y e=>D1 (ZZE z0 a) e co g [((1,3),⟨1,true,3,1,[vI a]⟩)] [] hg (by simp) (fun _=>.top) (fun _ _=>trivial) (fun l H=>⟨fun _=>⟨rfl,by kernel_rfl⟩,by kernel_rfl,trivial⟩))) (fun H=>trivial),fun i=>id⟩
abbrev oe:Bool→AV:=fun y=>vB y
def Z6(a:Int):PT 0 (Bool):=lr oe nG (decide ((1:Int)≤a)&&decide (a≤(9:Int)))
def Zh7(a:Int):Option (Bool):=(Z6 a).m
theorem LY(a:Int):KC Tryz.prog 90 [vI a] (Zh7 a) oe:=As Tryz.func90 Tryz.ntmps90 Aa [.tmp 2] fun C co y hm b c=>Ao co Aa Ac (Z6 a) hm c fun r g=>id
abbrev W9:Val→AV:=fun y=>.agg ((Ag y).map .d)
def ci(a:Int):PT 0 (Val):=cl (LY a) fun b=>br (!b) (wg<|lr W9 nG (.mk 0 0 ⟨#[]⟩ [] [] [] []:Val)) (wg<|lr W9 nG (.mk a 0 ⟨#[]⟩ [] [] [] []:Val))
def fD(a:Int):Option (Val):=(ci a).m
theorem ZYs(a:Int):KC Tryz.prog 57 [vI a] (fD a) W9:=As Tryz.func57 Tryz.ntmps57 Aa [.cell 2 33] fun C co y hm b c=>Ao co Aa Ac (ci a) hm c fun r g=>fun d=>⟨id,id⟩
abbrev K4:Val→AV:=fun y=>.agg ((Ag y).map .d)
def zT(a:Fld):PT 0 (Val):=wg<|br a.hasDefault (wg<|wg<|lr K4 nG a.dflt) (wg<|br (decide (a.card=(4:Int))) (wg<|lr K4 nG (.mk 11 0 ⟨#[]⟩ [] [] [] []:Val)) (wg<|br (decide (a.card=(5:Int))) (wg<|lr K4 nG (.mk 12 0 ⟨#[]⟩ [] [] [] []:Val)) (wg<|br (decide (a.type.kind=(10:Int))) (wg<|lr K4 nG (.mk 10 0 ⟨#[]⟩ [] [] [] []:Val)) (wg<|cl (ZYs a.type.kind) fun b=>wg<|lr K4 nG b))))
def ZhH(a:Fld):Option (Val):=(zT a).m
theorem ZZr(a:Fld):KC Tryz.prog 27 [.agg ((An a).map .d)] (ZhH a) K4:=As Tryz.func27 Tryz.ntmps27 Aa [.cell 2 33] fun C co y hm b c=>Ao co Aa Ac (zT a) hm c fun r g=>⟨id,⟨id,⟨id,⟨id,fun d=>id⟩⟩⟩⟩
abbrev E9:Val×Int→AV:=fun y=>.tup [.agg ((Ag y.1).map .d),vI y.2]
def ZYL(f:Scm)(g:ByteArray)(b:Val)(c:Int):PT 0 (Val×Int):=wg<|cl (ZYq f g c) fun a=>wg<|wg<|br (!decide (a.2.2=(0:Int))) (wg<|lr E9 nG ((.mk 0 0 ⟨#[]⟩ [] [] [] []:Val),a.2.2)) (wg<|cl (ZXj b.slots c) fun d=>br (decide ((0:Int)≤d)) (wg<|CF b.slots d fun e=>wg<|lr E9 nG (e.val,0)) (wg<|cl (ZZr a.2.1) fun h=>wg<|lr E9 nG (h,0)))
def ZkD(a:Scm)(b:ByteArray)(c:Val)(d:Int):Option (Val×Int):=(ZYL a b c d).m
theorem K_9(a:Scm)(b:ByteArray)(c:Val)(d:Int):KC Tryz.prog 9 [.agg ((Al a).map .d),vS b,.agg ((Ag c).map .d),vI d] (ZkD a b c d) E9:=As Tryz.func9 Tryz.ntmps9 Aa [.cell 8 33,.tmp 9] fun C co y hm e f=>Ao co Aa Ac (ZYL a b c d) hm f fun r g=>fun i=>⟨id,fun j=>⟨fun h=>id,fun k=>id⟩⟩
abbrev nQ:Bool→AV:=fun y=>vB y
def uU(a:Val)(b:Int):PT 0 (Bool):=wg<|cl (ZXj a.slots b) fun c=>lr nQ nG (decide ((0:Int)≤c))
def Zj5(a:Val)(b:Int):Option (Bool):=(uU a b).m
theorem dt(a:Val)(b:Int):KC Tryz.prog 10 [.agg ((Ag a).map .d),vI b] (Zj5 a b) nQ:=As Tryz.func10 Tryz.ntmps10 Aa [.tmp 4] fun C co y hm c d=>Ao co Aa Ac (uU a b) hm d fun r g=>fun e=>id
abbrev Ri:Int→AV:=fun y=>vI y
@[reducible] def Rt(a:List Slt):Int→List Blk:=fun y=>[⟨0,true,65,8,Af Ap a⟩]
def zZ(a:Slt→Option Bool):Cl:=fun no l H θ=>(∀(z0:Slt) y,a z0=some y→CS Tryz.prog l no H (θ 1) [.agg ((B2 z0).map .d)] (vB y))
def ZwW(a:List Slt):Nat→St:=fun b=>Ab [(0,.ref (0,0) 0 0 a.length),(1,.fn (.yield 1) [] []),(7,vN a.length),(8,vN b)] [((0,0),⟨0,true,65,8,Af Ap a⟩)]
def ZtV(a:List Slt):Unit→Nat×St:=fun _=>(0,Ab [] [((0,0),⟨0,true,65,8,Af Ap a⟩)])
def Zru(a:List Slt)(c:Slt→Option Bool)(b:Nat):PT 1 (Lv (Nat) (Unit) (Int)):=br (decide ((b:Int)<(a.length:Int))) (vs (ir b a.length 8)<|ca a b fun d=>cf Tryz.prog 1 [.agg ((B2 d).map .d)] (c d) (fun y=>vB y) fun e=>br e (Au Ri (Rt a) (b:Int)) (vs (wa b 1)<|vz (fl a)<|ln (ZwW a) (b+1))) (vz (fl a)<|Aj (ZtV a) ())
def Zt0(b:List Slt)(a:Slt→Option Bool):Nat→Option (Lv (Nat) (Unit) (Int)):=fun c=>(Zru b a c).m
def Zrm(a:List Slt):PT 1 (Int):=lr Ri (Rt a) (-1)
def ZvZ(a:List Slt)(b:Slt→Option Bool):PT 1 (Int):=vz (A7 a.length)<|vz (fl a)<|lc (Ab [(0,.ref (0,0) 0 0 a.length),(1,.fn (.yield 1) [] []),(7,vN a.length),(8,vI 0)] [((0,0),⟨0,true,65,8,Af Ap a⟩)]) ((Am (Zt0 a b) Ai 0).bind (Sum.elim (fun _=>(Zrm a).m) some))
def ZvC(a:List Slt)(b:Slt→Option Bool):PT 1 (Int):=vz (fl a)<|lc (Ab [(0,.ref (0,0) 0 0 a.length),(1,.fn (.yield 1) [] [])] [((0,0),⟨0,true,65,8,Af Ap a⟩)]) ((ZvZ a b).m)
def ZdV(b:List Slt)(a:Slt→Option Bool):Option (Int):=(ZvC b a).m
theorem Zrs{C:Cx}(co:CO C 1)(b:List Slt)(a:Slt→Option Bool)(f:(zZ a) C.no C.l C.H0 C.θ):KL Tryz.prog (Az tl) 19 C (pa [0,0,1,0,1] (Aw Tryz.f55)) [.tmp 4] 1 (ZwW b) (ZtV b) Ri (Rt b) (Zt0 b a):=fun h _ hm Q c e d=>Av co Aa Ac (Zru b a h) (Ae [0,1,7,8] DT) (Ae [] DT) e hm d fun r g=>⟨fun i=>⟨⟨fun y hy=>f _ y hy,by intro r;kernel_rfl,by intro r y;kernel_rfl⟩,fun j=>⟨id,id⟩⟩,id⟩
theorem ZRk(b:List Slt)(a:Slt→Option Bool):KO Tryz.prog 55 1 [.ref (0,0) 0 0 b.length,.fn (.yield 1) [] []] [⟨0,true,65,8,Af Ap b⟩] (zZ a) (ZdV b a) Ri (Rt b):=Bi Tryz.func55 Tryz.ntmps55 Aa [.tmp 4] 1 (fun C co e y hm d c=>Ak co Aa Ac 1 (ZvC b a) (Ae [0,1] DT) nl nH hm c fun r g=>fun _ hm c=>sq (Ak co Aa Ac 1 (ZvZ b a) (Ae [0,1,7,8] DT) nl nH hm c fun r g=>fun _ hm c=>bk 0 (lo (AF (Zrs co b a e) nH hm c (fun _ hm=>Ao co Aa Ac (Zrm b) hm c fun r g=>id))))) (hB:=fun y=>⟨.inl (A2 _ _),rfl,trivial⟩)
abbrev N3(a:List Slt):Ad×Blk:=((0,0),⟨0,true,65,8,Af Ap a⟩)
abbrev W7:List Slt→AV:=fun y=>.ref (0,0) 0 0 y.length
@[reducible] def Xi:List Slt→List Blk:=fun y=>[⟨0,true,65,8,Af Ap y⟩]
def oF(a:Slt→Option Bool):Cl:=fun no l H θ=>(∀(z0:Slt) y,a z0=some y→CS Tryz.prog l no H (θ 1) [.agg ((B2 z0).map .d)] (vB y))
def aU(a:List Slt):Int×Int×List Slt→St:=fun(v2,v3,b)=>Ab [(0,.ref (0,0) 0 0 a.length),(1,.fn (.yield 1) [] []),(5,vI v2),(6,vI v3)] [((0,0),⟨0,true,65,8,Af Ap b⟩)]
def xV(a:List Slt):Int×List Slt→Nat×St:=fun(c,b)=>(0,Ab [(0,.ref (0,0) 0 0 a.length),(5,vI c)] [((0,0),⟨0,true,65,8,Af Ap b⟩)])
def yJ(b:List Slt)(d:Slt→Option Bool)(v2:Int)(v3:Int)(a:List Slt):PT 1 (Lv (Int×Int×List Slt) (Int×List Slt) (List Slt)):=vz (A7 b.length)<|br (decide (v3<(b.length:Int))) (vs (KT v3 b.length 8)<|ca a v3.toNat fun c=>wg<|wg<|cf Tryz.prog 1 [.agg ((B2 c).map .d)] (d c) (fun y=>vB y) fun e=>br (!e) (wg<|vs (KT v2 b.length 8)<|vs (st a v2.toNat c)<|Ji 0 ((Rw.f (c:Slt)).map .d) (fun _=>oY _)<|vs (wi (v2+1))<|vs (wi (v3+1))<|vz (fl (a.set v2.toNat c))<|ln (aU b) ((v2+1),(v3+1),a.set v2.toNat c)) (vs (wi (v3+1))<|vz (fl a)<|ln (aU b) (v2,(v3+1),a))) (vz (fl a)<|Aj (xV b) (v2,a))
def vR(b:List Slt)(a:Slt→Option Bool):Int×Int×List Slt→Option (Lv (Int×Int×List Slt) (Int×List Slt) (List Slt)):=fun(v2,v3,c)=>(yJ b a v2 v3 c).m
def zA(c:List Slt)(a:Int)(b:List Slt):PT 1 (List Slt):=sR c.length 0 (.it a) .no<|cr b (0+a.toNat) (c.length-a.toNat) [vI 0,vI 0,.d (.int .u64 0),vS ⟨#[]⟩,.e0,.e0,.e0,.e0]<|Ji 0 ([vI 0,vI 0,.d (.int .u64 0),vS ⟨#[]⟩,.e0,.e0,.e0,.e0]) (fun _=>Ztg (by kernel_rfl))<|tro 0 b (0+a.toNat) (c.length-a.toNat) [vI 0,vI 0,.d (.int .u64 0),vS ⟨#[]⟩,.e0,.e0,.e0,.e0]<|vw .sep<|sR c.length 0 .no (.it a)<|lfe (a.toNat=(b.take (0+a.toNat)).length) (fun E=>E.P (.ref (0,0) 0 0 a.toNat) ([⟨0,true,65,8,Af Ap (b.take (0+a.toNat))⟩])) (b.take (0+a.toNat))
def xI(a:List Slt)(c:Slt→Option Bool)(b:Int):PT 1 (List Slt):=vs (wi (b+1))<|vz (fl a)<|lc (Ab [(0,.ref (0,0) 0 0 a.length),(1,.fn (.yield 1) [] []),(5,vI b),(6,vI (b+1))] [(N3 a)]) ((Am (vR a c) Ai (b,(b+1),a)).bind (Sum.elim (fun(e,d)=>(zA a e d).m) some))
def zi(a:List Slt)(b:Slt→Option Bool):PT 1 (List Slt):=cs Tryz.prog 55 [.ref (0,0) 0 0 a.length,.fn (.yield 1) [] []] [(0,0)] [(N3 a)] (ZdV a b) (fun y=>vI y) fun c=>br (decide (c=((-1):Int))) (lr W7 (Xi) a) (vz (fl a)<|lc (Ab [(0,.ref (0,0) 0 0 a.length),(1,.fn (.yield 1) [] []),(5,vI c)] [(N3 a)]) ((xI a b c).m))
def fw(b:List Slt)(a:Slt→Option Bool):Option (List Slt):=(zi b a).m
theorem ZKN{C:Cx}(co:CO C 1)(b:List Slt)(a:Slt→Option Bool)(f:(oF a) C.no C.l C.H0 C.θ):KL Tryz.prog (Az tl) 42 C (pa [0,0,1,0,1,1,1] (Aw Tryz.f49)) [.tmp 4] 1 (aU b) (xV b) W7 (Xi) (vR b a):=fun(v2,v3,h) _ hm Q c e d=>Av co Aa Ac (yJ b a v2 v3 h) (Ae [0,1,5,6] DT) (Ae [0,5] DT) e hm d fun r g=>⟨fun i=>⟨⟨fun y hy=>f _ y hy,by intro r;kernel_rfl,by intro r y;kernel_rfl⟩,fun j=>⟨id,id⟩⟩,id⟩
theorem ZX2(b:List Slt)(a:Slt→Option Bool):KO Tryz.prog 49 1 [.ref (0,0) 0 0 b.length,.fn (.yield 1) [] []] [⟨0,true,65,8,Af Ap b⟩] (oF a) (fw b a) W7 (Xi):=Bi Tryz.func49 Tryz.ntmps49 Aa [.tmp 4] 1 (fun C co e y hm d c=>Ak co Aa Ac 3 (zi b a) (Ae [0,1,5] DT) nl nH hm c fun r g=>⟨fun y hy=>B6 (ZRk b a) hy co g [(N3 b)] [] (AN [(1,r.θ 1)]) (fun m hg f=>(fun z0 y i=>ME co g [(N3 b)] f (e z0 y i))) (fun H=>⟨fun _=>⟨rfl,BA (A2 _ _) (by kernel_rfl)⟩,by kernel_rfl,trivial⟩),fun l=>⟨id,fun _ hm c=>sq (Ak co Aa Ac 1 (xI b a l) (Ae [0,1,5,6] DT) nl nH hm c fun r g=>fun _ hm c=>bk 0 (lo (AF (ZKN co b a e) nH hm c (fun(k,j) hm=>Ao co Aa Ac (zA b k j) hm c fun r g=>fun h c=>lfx (congrArg (fun n=>(.ref (0,0) 0 0 n:AV)) h) c))))⟩⟩) (hB:=fun y=>⟨.inl (A2 _ _),rfl,trivial⟩)
abbrev W8:List Slt→AV:=fun y=>.ref (0,0) 1 0 y.length
@[reducible] def Xj:List Slt→List Blk:=fun y=>[⟨1,true,65,8,Af Ap y⟩]
def Za(a:List Slt):PT 1 (List Slt):=al Ap a false fun b=>br b (vw .sep<|vw (.ads 2 2 65 8)<|mv 2 0 ([]:List Slt)<|lr W8 (Xj) ([]:List Slt)) (a0 a<|mv 7 0 a<|lr W8 (Xj) a)
def Kd(a:List Slt):Option (List Slt):=(Za a).m
theorem Sc(a:List Slt):KO Tryz.prog 53 1 [vL Ap a] [⟨0,false,0,0,[]⟩] (fun _ _ _ _=>True) (Kd a) W8 (Xj):=Bi Tryz.func53 Tryz.ntmps53 Aa [.tmp 2] 1 (fun C co f y hm c d=>Ao co Aa Ac (Za a) hm d fun r g=>⟨fun e=>⟨id,id⟩,by intro b h;subst h;cases b<;>rfl⟩) (hB:=fun y=>⟨.inl (A2 _ _),rfl,trivial⟩)
abbrev n4:Bool→AV:=fun y=>vB y
@[reducible] def ox(w0:Int):Bool→List Blk:=fun y=>[⟨0,true,3,1,[vI w0]⟩]
def xB(a:Slt)(w0:Int):PT 1 (Bool):=wg<|wg<|lr n4 (ox w0) (decide (a.num=w0))
def fs(a:Slt)(w0:Int):Option (Bool):=(xB a w0).m
theorem ZZ3(a:Slt)(w0:Int):KO Tryz.prog 54 1 [.agg ((B2 a).map .d),.ptr (0,0) 0 0] [⟨0,true,3,1,[vI w0]⟩] (fun _ _ _ _=>True) (fs a w0) n4 (ox w0):=Bi Tryz.func54 Tryz.ntmps54 Aa [.tmp 3] 1 (fun C co d y hm b c=>Ao co Aa Ac (xB a w0) hm c fun r g=>id) (hB:=fun y=>⟨.inr (by kernel_rfl),rfl,trivial⟩)
abbrev Lw(a:Int):Ad×Blk:=kk 3 3 1 [vI a]
abbrev S7:Ad×Blk:=kk 4 33 7 [vI 0,.d (.int .u64 0),vS ⟨#[]⟩,.e0,.e0,.e0,.e0]
abbrev dF(a:Val):Ad×Blk:=kk 2 33 7 (cD (Ag a))
abbrev nT:Val→AV:=fun y=>.agg ((Ag y).map .d)
def yh(a:Val)(b:List Slt):PT 0 (Val):=wg<|wg<|vz (fr b)<|lr nT nG (.mk a.kind a.bits a.text a.list a.pairs b a.raws:Val)
def vj(a:Val)(b:List Slt):PT 0 (Val):=wg<|vz (fl b)<|lc (Ab [pp 2,pp 4] [kk 2 33 7 [vI a.kind,.d (.int .u64 a.bits),vS a.text,vL AM a.list,vL Ay a.pairs,.ref (1,7) 0 0 b.length,vL AZ a.raws],S7,kk 7 65 8 (Af Ap b)]) ((yh a b).m)
def xr(b:Val)(c:Int)(a:List Slt):PT 0 (Val):=vz (fl a)<|lc (Ab [pp 2,pp 4,(7,.ref (1,7) 0 0 a.length),(8,.fn (.func 54) [] [.ptr (1,3) 0 0])] [(dF b),(Lw c),S7,kk 7 65 8 (Af Ap a)]) ((fw a (fun(z0:Slt)=>fs z0 c)).bind fun d=>(vj b d).m)
def ym(a:Val)(b:Int):PT 0 (Val):=wg<|lc (Ab [pp 2,pp 3,pp 4,(6,vL Ap a.slots)] [(dF a),(Lw b),S7]) ((Kd a.slots).bind fun c=>(xr a b c).m)
def wv(a:Val)(b:Int):PT 0 (Val):=lc (Ab [pp 2,pp 3,pp 4] [(dF a),(Lw b),S7]) ((ym a b).m)
def Zh3(a:Val)(b:Int):Option (Val):=(wv a b).m
theorem dq(c:Val)(a:Int):KC Tryz.prog 24 [.agg ((Ag c).map .d),vI a] (Zh3 c a) nT:=As Tryz.func24 Tryz.ntmps24 Aa [.cell 4 33] fun C co y hm f b=>Ak co Aa Ac 1 (wv c a) (Ae [2,3,4] [((1,2),false),((1,3),false),((1,4),false)]) nl nH hm b fun r g=>fun _ hm b=>sq (rg (BJ co Aa 2 (ym c a) (Ae [2,3,4,6] [((1,2),false),((1,3),false),((1,4),false)]) hm b fun r g=>fun _ hm b=>HK co hm 53 [vL Ap c.slots] [(1,7)] ([((1,7),⟨0,false,0,0,[]⟩)]++[]) (fun z=>.ref (1,7) 1 0 z.length) (fun z=>[((1,7),⟨1,true,65,8,Af Ap z⟩)]) [] (fun z=>trivial) (trivial) (fun z e r g=>Eg (Sc c.slots) e co g [((1,7),⟨0,false,0,0,[]⟩)] [] [((1,7),⟨1,true,65,8,Af Ap z⟩)] (AN []) (fun j hg k=>trivial) (fun H=>⟨(fun h=>by cases h),by kernel_rfl,trivial⟩) (fun H=>⟨fun _=>⟨rfl,BA (A2 _ _) (by kernel_rfl)⟩,by kernel_rfl,trivial⟩)) fun d hm=>BJ co Aa 1 (xr c a d) (Ae [2,4,7,8] [((1,2),false),((1,3),false),((1,4),false),((1,7),true)]) hm b fun r g=>fun _ hm b=>HK co hm 49 [.ref (1,7) 0 0 d.length,.fn (.func 54) [] [.ptr (1,3) 0 0]] [(1,7),(1,3)] ([kk 7 65 8 (Af Ap d)]++[(Lw a)]) (fun z=>.ref (1,7) 0 0 z.length) (fun z=>[kk 7 65 8 (Af Ap z)]) [] (fun z=>trivial) (trivial) (fun z e r g=>Eg (ZX2 d (fun(z0:Slt)=>fs z0 a)) e co g [kk 7 65 8 (Af Ap d)] [(Lw a)] [kk 7 65 8 (Af Ap z)] (AN [(1,.fn (.func 54) [] [.ptr (r.κ (1,3)) (r.γ (1,3)+0) 0])]) (fun j hg k=>(fun z0 y e=>D1 (ZZ3 z0 a) e co g [(Lw a)] [kk 7 65 8 (Af Ap d)] hg (by simp) (fun _=>.top) (fun _ _=>trivial) (fun l H=>⟨fun _=>⟨rfl,by kernel_rfl⟩,by kernel_rfl,trivial⟩))) (fun H=>⟨fun _=>⟨rfl,BA (A2 _ _) (by kernel_rfl)⟩,by kernel_rfl,trivial⟩) (fun H=>⟨fun _=>⟨rfl,BA (A2 _ _) (by kernel_rfl)⟩,by kernel_rfl,trivial⟩)) fun i hm=>Bf co Aa (vj c i) (Ae [2,4] [((1,2),false),((1,4),false),((1,7),true)]) hm b fun r g=>fun _ hm b=>Ao co Aa Ac (yh c i) hm b fun r g=>id))
abbrev ZX8:Bool→AV:=fun y=>vB y
def p4(a:Int):PT 0 (Bool):=lr ZX8 nG (decide (a=(7:Int))||decide (a=(8:Int)))
def ZiO(a:Int):Option (Bool):=(p4 a).m
theorem vV(a:Int):KC Tryz.prog 146 [vI a] (ZiO a) ZX8:=As Tryz.func146 Tryz.ntmps146 Aa [.tmp 2] fun C co y hm b c=>Ao co Aa Ac (p4 a) hm c fun r g=>id
abbrev QC:Bool→AV:=fun y=>vB y
def zO(a:Val):PT 0 (Bool):=wg<|vz (Ah a.list)<|wg<|vz (Ah a.pairs)<|vs (wa a.list.length a.pairs.length)<|wg<|vz (Ah a.slots)<|vs (wa (a.list.length+a.pairs.length) a.slots.length)<|wg<|vz (Ah a.raws)<|vs (wa ((a.list.length+a.pairs.length)+a.slots.length) a.raws.length)<|br (decide ((0:Int)<((((a.list.length+a.pairs.length)+a.slots.length)+a.raws.length:Nat):Int))) (lr QC nG false) (wg<|cl (vV a.kind) fun b=>br b (wg<|lr QC nG (decide (a.bits=(0:Int)))) (wg<|lr QC nG (decide (a.text=(⟨#[]⟩:ByteArray)))))
def ZkM(a:Val):Option (Bool):=(zO a).m
theorem ZYg(a:Val):KC Tryz.prog 99 [.agg ((Ag a).map .d)] (ZkM a) QC:=As Tryz.func99 Tryz.ntmps99 Aa [.tmp 2] fun C co y hm b c=>Ao co Aa Ac (zO a) hm c fun r g=>⟨id,fun d=>⟨id,id⟩⟩
abbrev L0:Bool→AV:=fun y=>vB y
def qK(b:Int)(a:Int):PT 0 (Bool):=br (decide (b=(1:Int))) (lr L0 nG (decide (a≤(1:Int)))) (br (decide (b=(2:Int))) (vz (wk .i64 a)<|vy (decide (((-2147483648):Int)≤(IntKind.i64.wrap a))) (wk .i64 a)<|lr L0 nG (decide (((-2147483648):Int)≤(IntKind.i64.wrap a))&&decide ((IntKind.i64.wrap a)≤(2147483647:Int)))) (br (decide (b=(9:Int))) (lr L0 nG (decide (a≤(2147483647:Int)))) (br (decide (b=(4:Int))) (lr L0 nG (decide (a≤(4294967295:Int)))) (lr L0 nG true))))
def Ziv(a:Int)(b:Int):Option (Bool):=(qK a b).m
theorem ZWz(a:Int)(b:Int):KC Tryz.prog 138 [vI a,.d (.int .u64 b)] (Ziv a b) L0:=As Tryz.func138 Tryz.ntmps138 Aa [.tmp 4] fun C co y hm c d=>Ao co Aa Ac (qK a b) hm d fun r g=>⟨id,⟨id,⟨id,⟨id,id⟩⟩⟩⟩
abbrev ZXH:Bool→AV:=fun y=>vB y
def pW(b:ByteArray)(a:ByteArray):PT 0 (Bool):=vz (A7 b.size)<|vz (A7 a.size)<|vy (decide ((a.size:Int)≤(b.size:Int))) (A7 a.size)<|ssg (decide ((a.size:Int)≤(b.size:Int))) b .no (.nt a.size) fun s1=>lr ZXH nG (decide ((a.size:Int)≤(b.size:Int))&&decide (s1=a))
def ZeX(a:ByteArray)(b:ByteArray):Option (Bool):=(pW a b).m
theorem ZUM(a:ByteArray)(b:ByteArray):KC Tryz.prog 229 [vS a,vS b] (ZeX a b) ZXH:=As Tryz.func229 Tryz.ntmps229 Aa [.tmp 4] fun C co y hm c d=>Ao co Aa Ac (pW a b) hm d fun r g=>fun s1=>id
abbrev ZXX:Bool→AV:=fun y=>vB y
def qZ(a:ByteArray)(b:ByteArray):PT 0 (Bool):=cl (ZUM a b) fun c=>lr ZXX nG c
def ZfS(a:ByteArray)(b:ByteArray):Option (Bool):=(qZ a b).m
theorem ZVm(a:ByteArray)(b:ByteArray):KC Tryz.prog 216 [vS a,vS b] (ZfS a b) ZXX:=As Tryz.func216 Tryz.ntmps216 Aa [.tmp 4] fun C co y hm c d=>Ao co Aa Ac (qZ a b) hm d fun r g=>fun e=>id
abbrev ZXk:Bool→AV:=fun y=>vB y
def oZ(b:ByteArray)(c:Int)(a:Int):PT 0 (Bool):=ssg (decide (a=(65533:Int))) b (.it c) .no fun s1=>AC (decide (a=(65533:Int))) (ZVm s1 (⟨#[239,191,189]⟩)) fun d=>lr ZXk nG (decide (a=(65533:Int))&&(!d))
def Zm1(a:ByteArray)(b:Int)(c:Int):Option (Bool):=(oZ a b c).m
theorem ZWX(a:ByteArray)(b:Int)(c:Int):KC Tryz.prog 195 [vS a,vI b,.d (.int .i32 c)] (Zm1 a b c) ZXk:=As Tryz.func195 Tryz.ntmps195 Aa [.tmp 6] fun C co y hm d e=>Ao co Aa Ac (oZ a b c) hm e fun r g=>fun s1=>fun f=>id
abbrev Sv:Int→AV:=fun y=>vI y
def su(a:ByteArray):Nat→St:=fun b=>Ab [(0,vS a),pp 6] [kk 6 (.s a b) 0 []]
def ts:Unit→Nat×St:=fun _=>(0,Ab [] [])
def sN(b:ByteArray)(a:Nat):PT 0 (Lv (Nat) (Unit) (Int)):=br (decide (a<b.size)) (wg<|cl (ZWX b (a:Int) (Qd b a)) fun c=>br c (Au Sv nG (a:Int)) (ln (su b) (a+Gu b a))) (wg<|Aj (ts) ())
def qn(a:ByteArray):Nat→Option (Lv (Nat) (Unit) (Int)):=fun b=>(sN a b).m
def qc:PT 0 (Int):=lr Sv nG (-1)
def qQ(a:ByteArray):PT 0 (Int):=lc (Ab [(0,vS a),pp 6] [kk 6 (.s a 0) 0 []]) ((Am (qn a) Ai 0).bind (Sum.elim (fun _=>(qc).m) some))
def uH(a:ByteArray):PT 0 (Int):=lc (Ab [(0,vS a)] []) ((qQ a).m)
def Zu0(a:ByteArray):Option (Int):=(uH a).m
theorem ZAF{C:Cx}(co:CO C 0)(a:ByteArray):KL Tryz.prog (Az tl) 16 C (pa [0,0,1,0,1] (Aw Tryz.f173)) [.tmp 2] 0 (su a) (ts) Sv nG (qn a):=fun e _ hm Q b d c=>Av co Aa Ac (sN a e) (Ae [0,6] [((1,6),false)]) nl d hm c fun r g=>⟨fun f=>⟨id,id⟩,id⟩
theorem ZWl(b:ByteArray):KC Tryz.prog 173 [vS b] (Zu0 b) Sv:=As Tryz.func173 Tryz.ntmps173 Aa [.tmp 2] fun C co y hm c a=>Ak co Aa Ac 1 (uH b) (AH [0]) nl nH hm a fun r g=>fun _ hm a=>sq (Ak co Aa Ac 1 (qQ b) (Ae [0,6] [((1,6),false)]) nl nH hm a fun r g=>fun _ hm a=>bk 0 (lo (AF (ZAF co b) nH hm a (fun _ hm=>Ao co Aa Ac (qc) hm a fun r g=>id))))
abbrev ZYQ:Bool→AV:=fun y=>vB y
def qI(a:ByteArray):PT 0 (Bool):=cl (ZWl a) fun b=>lr ZYQ nG (decide (b<(0:Int)))
def Zmp(a:ByteArray):Option (Bool):=(qI a).m
theorem wx(a:ByteArray):KC Tryz.prog 139 [vS a] (Zmp a) ZYQ:=As Tryz.func139 Tryz.ntmps139 Aa [.tmp 2] fun C co y hm b c=>Ao co Aa Ac (qI a) hm c fun r g=>fun d=>id
abbrev Xh:Bool→AV:=fun y=>vB y
def wD(b:Int)(a:Val):PT 0 (Bool):=cl (LY b) fun c=>wg<|wg<|AC (!((!c)||(!decide (a.kind=b)))) (ZYg a) fun d=>wg<|AC (!(((!c)||(!decide (a.kind=b)))||(!d))) (ZWz b a.bits) fun e=>wg<|vy (!((((!c)||(!decide (a.kind=b)))||(!d))||(!e))) (A7 a.text.size)<|br (((((!c)||(!decide (a.kind=b)))||(!d))||(!e))||decide ((4096:Int)<(a.text.size:Int))) (lr Xh nG false) (wg<|AC (!(!decide (b=(7:Int)))) (wx a.text) fun f=>lr Xh nG ((!decide (b=(7:Int)))||f))
def Zkl(a:Int)(b:Val):Option (Bool):=(wD a b).m
theorem dz(a:Int)(b:Val):KC Tryz.prog 92 [vI a,.agg ((Ag b).map .d)] (Zkl a b) Xh:=As Tryz.func92 Tryz.ntmps92 Aa [.tmp 4] fun C co y hm c d=>Ao co Aa Ac (wD a b) hm d fun r g=>fun e=>fun f=>fun h=>⟨id,fun i=>id⟩
abbrev S0:Ad×Blk:=kk 4 92 5 [vS ⟨#[]⟩,vB false,.e0,.e0,.e0]
abbrev Sf:Enm×Bool→AV:=fun y=>.tup [.agg ((Bz y.1).map .d),vB y.2]
def ZYk(a:Enm→Option Bool):Cl:=fun no l H θ=>(∀(z0:Enm) y,a z0=some y→CS Tryz.prog l no H (θ 1) [.agg ((Bz z0).map .d)] (vB y))
def ue(a:List Enm):Nat→St:=fun b=>Ab [(1,.fn (.yield 1) [] []),pp 4,(9,vL Bz a),(10,vN a.length),(11,vN b)] [S0]
def pn:Unit→Nat×St:=fun _=>(0,Ab [pp 4] [S0])
def tM(c:List Enm)(d:Enm→Option Bool)(a:Nat):PT 0 (Lv (Nat) (Unit) (Enm×Bool)):=br (decide ((a:Int)<(c.length:Int))) (ix c a fun b=>wg<|wg<|cf Tryz.prog 1 [.agg ((Bz b).map .d)] (d b) (fun y=>vB y) fun e=>br e (wg<|wg<|Au Sf nG (b,true)) (vs (wa a 1)<|ln (ue c) (a+1))) (Aj (pn) ())
def tN(b:List Enm)(a:Enm→Option Bool):Nat→Option (Lv (Nat) (Unit) (Enm×Bool)):=fun c=>(tM b a c).m
def sd:PT 0 (Enm×Bool):=wg<|wg<|lr Sf nG ((.mk ⟨#[]⟩ false [] [] []:Enm),false)
def tr(a:List Enm)(b:Enm→Option Bool):PT 0 (Enm×Bool):=vz (Ah a)<|lc (Ab [(1,.fn (.yield 1) [] []),pp 4,(9,vL Bz a),(10,vN a.length),(11,vI 0)] [S0]) ((Am (tN a b) Ai 0).bind (Sum.elim (fun _=>(sd).m) some))
def sI(b:List Enm)(a:Enm→Option Bool):PT 0 (Enm×Bool):=lc (Ab [(0,vL Bz b),(1,.fn (.yield 1) [] []),pp 4] [S0]) ((tr b a).m)
def Zez(b:List Enm)(a:Enm→Option Bool):Option (Enm×Bool):=(sI b a).m
theorem ZyL{C:Cx}(co:CO C 0)(b:List Enm)(a:Enm→Option Bool)(f:(ZYk a) C.no C.l C.H0 C.θ):KL Tryz.prog (Az tl) 21 C (pa [0,0,1,0,1] (Aw Tryz.f141)) [.cell 4 92,.tmp 5] 0 (ue b) (pn) Sf nG (tN b a):=fun h _ hm Q c e d=>Av co Aa Ac (tM b a h) (Ae [1,4,9,10,11] D9) (Ae [4] D9) e hm d fun r g=>⟨fun i=>⟨⟨fun y hy=>f _ y hy,by intro r;kernel_rfl,by intro r y;kernel_rfl⟩,fun j=>⟨id,id⟩⟩,id⟩
theorem ZVD(c:List Enm)(a:Enm→Option Bool):KO Tryz.prog 141 0 [vL Bz c,.fn (.yield 1) [] []] [] (ZYk a) (Zez c a) Sf nG:=Bi Tryz.func141 Tryz.ntmps141 Aa [.cell 4 92,.tmp 5] 0 (fun C co e y hm d b=>Ak co Aa Ac 1 (sI c a) (Ae [0,1,4] D9) nl nH hm b fun r g=>fun _ hm b=>sq (Ak co Aa Ac 1 (tr c a) (Ae [1,4,9,10,11] D9) nl nH hm b fun r g=>fun _ hm b=>bk 0 (lo (AF (ZyL co c a e) nH hm b (fun _ hm=>Ao co Aa Ac (sd) hm b fun r g=>id)))))
abbrev ZX1:Bool→AV:=fun y=>vB y
@[reducible] def ZYX(w0:ByteArray):Bool→List Blk:=fun y=>[⟨0,true,9,1,[vS w0]⟩]
def tx(a:Enm)(w0:ByteArray):PT 1 (Bool):=wg<|wg<|lr ZX1 (ZYX w0) (decide (a.name=w0))
def fC(a:Enm)(w0:ByteArray):Option (Bool):=(tx a w0).m
theorem ZVr(a:Enm)(w0:ByteArray):KO Tryz.prog 142 1 [.agg ((Bz a).map .d),.ptr (0,0) 0 0] [⟨0,true,9,1,[vS w0]⟩] (fun _ _ _ _=>True) (fC a w0) ZX1 (ZYX w0):=Bi Tryz.func142 Tryz.ntmps142 Aa [.tmp 3] 1 (fun C co d y hm b c=>Ao co Aa Ac (tx a w0) hm c fun r g=>id) (hB:=fun y=>⟨.inr (by kernel_rfl),rfl,trivial⟩)
abbrev ol:Enm×Bool→AV:=fun y=>.tup [.agg ((Bz y.1).map .d),vB y.2]
def wS(a:Scm)(b:ByteArray):PT 0 (Enm×Bool):=wg<|cs Tryz.prog 141 [vL Bz a.enums,.fn (.func 142) [] [.ptr (1,3) 1 0]] [(1,3)] [((1,3),⟨1,true,9,1,[vS b]⟩)] (Zez a.enums (fun(z0:Enm)=>fC z0 b)) (fun y=>.tup [.agg ((Bz y.1).map .d),vB y.2]) fun c=>wg<|lr ol nG (c.1,c.2)
def Zny(a:Scm)(b:ByteArray):Option (Enm×Bool):=(wS a b).m
theorem Sn(b:Scm)(a:ByteArray):KC Tryz.prog 95 [.agg ((Al b).map .d),vS a] (Zny b a) ol:=As Tryz.func95 Tryz.ntmps95 Aa [.cell 4 92,.tmp 5] fun C co y hm c d=>Ao co Aa Ac (wS b a) hm d fun r g=>⟨fun y hy=>B6 (ZVD b.enums (fun(z0:Enm)=>fC z0 a)) hy co g [] [((1,3),⟨1,true,9,1,[vS a]⟩)] (AN [(1,.fn (.func 142) [] [.ptr (r.κ (1,3)) (r.γ (1,3)+1) 0])]) (fun f hg h=>(fun z0 y e=>D1 (ZVr z0 a) e co g [((1,3),⟨1,true,9,1,[vS a]⟩)] [] hg (by simp) (fun _=>.top) (fun _ _=>trivial) (fun l H=>⟨fun _=>⟨rfl,by kernel_rfl⟩,by kernel_rfl,trivial⟩))) (fun H=>trivial),fun i=>id⟩
abbrev SS:Int→AV:=fun y=>vI y
def ZXP(a:Itm→Option Bool):Cl:=fun no l H θ=>(∀(z0:Itm) y,a z0=some y→CS Tryz.prog l no H (θ 1) [.agg ((Cw z0).map .d)] (vB y))
def rR(a:List Itm):Nat→St:=fun b=>Ab [(0,vL Cw a),(1,.fn (.yield 1) [] []),(7,vN a.length),(8,vN b)] []
def qw:Unit→Nat×St:=fun _=>(0,Ab [] [])
def s7(b:List Itm)(c:Itm→Option Bool)(a:Nat):PT 0 (Lv (Nat) (Unit) (Int)):=br (decide ((a:Int)<(b.length:Int))) (ix b a fun d=>cf Tryz.prog 1 [.agg ((Cw d).map .d)] (c d) (fun y=>vB y) fun e=>br e (Au SS nG (a:Int)) (vs (wa a 1)<|ln (rR b) (a+1))) (Aj (qw) ())
def uw(b:List Itm)(a:Itm→Option Bool):Nat→Option (Lv (Nat) (Unit) (Int)):=fun c=>(s7 b a c).m
def rN:PT 0 (Int):=lr SS nG (-1)
def sF(a:List Itm)(b:Itm→Option Bool):PT 0 (Int):=vz (Ah a)<|lc (Ab [(0,vL Cw a),(1,.fn (.yield 1) [] []),(7,vN a.length),(8,vI 0)] []) ((Am (uw a b) Ai 0).bind (Sum.elim (fun _=>(rN).m) some))
def rI(b:List Itm)(a:Itm→Option Bool):PT 0 (Int):=lc (Ab [(0,vL Cw b),(1,.fn (.yield 1) [] [])] []) ((sF b a).m)
def Ze2(b:List Itm)(a:Itm→Option Bool):Option (Int):=(rI b a).m
theorem ZAp{C:Cx}(co:CO C 0)(b:List Itm)(a:Itm→Option Bool)(f:(ZXP a) C.no C.l C.H0 C.θ):KL Tryz.prog (Az tl) 19 C (pa [0,0,1,0,1] (Aw Tryz.f143)) [.tmp 4] 0 (rR b) (qw) SS nG (uw b a):=fun h _ hm Q c e d=>Av co Aa Ac (s7 b a h) (AH [0,1,7,8]) nl e hm d fun r g=>⟨fun i=>⟨⟨fun y hy=>f _ y hy,by intro r;kernel_rfl,by intro r y;kernel_rfl⟩,fun j=>⟨id,id⟩⟩,id⟩
theorem ZWh(c:List Itm)(a:Itm→Option Bool):KO Tryz.prog 143 0 [vL Cw c,.fn (.yield 1) [] []] [] (ZXP a) (Ze2 c a) SS nG:=Bi Tryz.func143 Tryz.ntmps143 Aa [.tmp 4] 0 (fun C co e y hm d b=>Ak co Aa Ac 1 (rI c a) (AH [0,1]) nl nH hm b fun r g=>fun _ hm b=>sq (Ak co Aa Ac 1 (sF c a) (AH [0,1,7,8]) nl nH hm b fun r g=>fun _ hm b=>bk 0 (lo (AF (ZAp co c a e) nH hm b (fun _ hm=>Ao co Aa Ac (rN) hm b fun r g=>id)))))
abbrev oo:Bool→AV:=fun y=>vB y
def H96(a:Itm→Option Bool):Cl:=fun no l H θ=>(∀(z0:Itm) y,a z0=some y→CS Tryz.prog l no H (θ 1) [.agg ((Cw z0).map .d)] (vB y))
def x6(b:List Itm)(a:Itm→Option Bool):PT 0 (Bool):=cs Tryz.prog 143 [vL Cw b,.fn (.yield 1) [] []] [] [] (Ze2 b a) (fun y=>vI y) fun c=>lr oo nG (decide ((0:Int)≤c))
def eT(b:List Itm)(a:Itm→Option Bool):Option (Bool):=(x6 b a).m
theorem ZYZ(b:List Itm)(a:Itm→Option Bool):KO Tryz.prog 96 0 [vL Cw b,.fn (.yield 1) [] []] [] (H96 a) (eT b a) oo nG:=Bi Tryz.func96 Tryz.ntmps96 Aa [.tmp 4] 0 (fun C co e y hm c d=>Ao co Aa Ac (x6 b a) hm d fun r g=>⟨fun y hy=>B6 (ZWh b a) hy co g [] [] (AN [(1,r.θ 1)]) (fun i hg f=>(fun z0 y h=>ME co g [] f (e z0 y h))) (fun H=>trivial),fun j=>id⟩)
abbrev oq:Bool→AV:=fun y=>vB y
@[reducible] def oE(w0:Val):Bool→List Blk:=fun y=>[⟨0,true,33,7,(cD (Ag w0))⟩]
def xO(a:Itm)(w0:Val):PT 1 (Bool):=wg<|vz (wk .u64 a.num)<|wg<|lr oq (oE w0) (decide ((IntKind.u64.wrap a.num)=w0.bits))
def eg(a:Itm)(w0:Val):Option (Bool):=(xO a w0).m
theorem ZZc(a:Itm)(w0:Val):KO Tryz.prog 97 1 [.agg ((Cw a).map .d),.ptr (0,0) 0 0] [⟨0,true,33,7,(cD (Ag w0))⟩] (fun _ _ _ _=>True) (eg a w0) oq (oE w0):=Bi Tryz.func97 Tryz.ntmps97 Aa [.tmp 3] 1 (fun C co d y hm b c=>Ao co Aa Ac (xO a w0) hm c fun r g=>id) (hB:=fun y=>⟨.inr (by kernel_rfl),rfl,trivial⟩)
abbrev ZYb:Bool→AV:=fun y=>vB y
def q6(a:Val):PT 0 (Bool):=wg<|wg<|wg<|wg<|vy (!decide (a.kind=(11:Int))) (Ah a.list)<|wg<|wg<|vy ((!((!decide (a.kind=(11:Int)))&&decide ((0:Int)<(a.list.length:Int))))&&(!decide (a.kind=(12:Int)))) (Ah a.pairs)<|wg<|wg<|vy ((!(((!decide (a.kind=(11:Int)))&&decide ((0:Int)<(a.list.length:Int)))||((!decide (a.kind=(12:Int)))&&decide ((0:Int)<(a.pairs.length:Int)))))&&(!decide (a.kind=(10:Int)))) (Ah a.slots)<|wg<|vy ((!(((!decide (a.kind=(11:Int)))&&decide ((0:Int)<(a.list.length:Int)))||((!decide (a.kind=(12:Int)))&&decide ((0:Int)<(a.pairs.length:Int)))))&&(!decide (a.kind=(10:Int)))) (Ah a.raws)<|vg ((!(((!decide (a.kind=(11:Int)))&&decide ((0:Int)<(a.list.length:Int)))||((!decide (a.kind=(12:Int)))&&decide ((0:Int)<(a.pairs.length:Int)))))&&(!decide (a.kind=(10:Int)))) (wa a.slots.length a.raws.length)<|wg<|wg<|wg<|wg<|lr ZYb nG ((((((!decide (a.kind=(11:Int)))&&decide ((0:Int)<(a.list.length:Int)))||((!decide (a.kind=(12:Int)))&&decide ((0:Int)<(a.pairs.length:Int))))||((!decide (a.kind=(10:Int)))&&decide ((0:Int)<((a.slots.length+a.raws.length:Nat):Int))))||((!decide (a.bits=(0:Int)))&&((decide (a.kind=(7:Int))||decide (a.kind=(8:Int)))||(decide ((10:Int)≤a.kind)&&decide (a.kind≤(12:Int))))))||((!decide (a.text=(⟨#[]⟩:ByteArray)))&&(!(decide (a.kind=(7:Int))||decide (a.kind=(8:Int))))))
def Zkz(a:Val):Option (Bool):=(q6 a).m
theorem Wt(a:Val):KC Tryz.prog 176 [.agg ((Ag a).map .d)] (Zkz a) ZYb:=As Tryz.func176 Tryz.ntmps176 Aa [.tmp 2] fun C co y hm b c=>Ao co Aa Ac (q6 a) hm c fun r g=>id
abbrev QA:Int→AV:=fun y=>vI y
def oI(a:Fld→Option Bool):Cl:=fun no l H θ=>(∀(z0:Fld) y,a z0=some y→CS Tryz.prog l no H (θ 1) [.agg ((An z0).map .d)] (vB y))
def vD(a:List Fld):Nat→St:=fun b=>Ab [(0,vL An a),(1,.fn (.yield 1) [] []),(7,vN a.length),(8,vN b)] []
def yC:Unit→Nat×St:=fun _=>(0,Ab [] [])
def xi(b:List Fld)(c:Fld→Option Bool)(a:Nat):PT 0 (Lv (Nat) (Unit) (Int)):=br (decide ((a:Int)<(b.length:Int))) (ix b a fun d=>cf Tryz.prog 1 [.agg ((An d).map .d)] (c d) (fun y=>vB y) fun e=>br e (Au QA nG (a:Int)) (vs (wa a 1)<|ln (vD b) (a+1))) (Aj (yC) ())
def wQ(b:List Fld)(a:Fld→Option Bool):Nat→Option (Lv (Nat) (Unit) (Int)):=fun c=>(xi b a c).m
def y3:PT 0 (Int):=lr QA nG (-1)
def yw(a:List Fld)(b:Fld→Option Bool):PT 0 (Int):=vz (Ah a)<|lc (Ab [(0,vL An a),(1,.fn (.yield 1) [] []),(7,vN a.length),(8,vI 0)] []) ((Am (wQ a b) Ai 0).bind (Sum.elim (fun _=>(y3).m) some))
def ve(b:List Fld)(a:Fld→Option Bool):PT 0 (Int):=lc (Ab [(0,vL An b),(1,.fn (.yield 1) [] [])] []) ((yw b a).m)
def Zew(b:List Fld)(a:Fld→Option Bool):Option (Int):=(ve b a).m
theorem ZIi{C:Cx}(co:CO C 0)(b:List Fld)(a:Fld→Option Bool)(f:(oI a) C.no C.l C.H0 C.θ):KL Tryz.prog (Az tl) 19 C (pa [0,0,1,0,1] (Aw Tryz.f84)) [.tmp 4] 0 (vD b) (yC) QA nG (wQ b a):=fun h _ hm Q c e d=>Av co Aa Ac (xi b a h) (AH [0,1,7,8]) nl e hm d fun r g=>⟨fun i=>⟨⟨fun y hy=>f _ y hy,by intro r;kernel_rfl,by intro r y;kernel_rfl⟩,fun j=>⟨id,id⟩⟩,id⟩
theorem ZY6(c:List Fld)(a:Fld→Option Bool):KO Tryz.prog 84 0 [vL An c,.fn (.yield 1) [] []] [] (oI a) (Zew c a) QA nG:=Bi Tryz.func84 Tryz.ntmps84 Aa [.tmp 4] 0 (fun C co e y hm d b=>Ak co Aa Ac 1 (ve c a) (AH [0,1]) nl nH hm b fun r g=>fun _ hm b=>sq (Ak co Aa Ac 1 (yw c a) (AH [0,1,7,8]) nl nH hm b fun r g=>fun _ hm b=>bk 0 (lo (AF (ZIi co c a e) nH hm b (fun _ hm=>Ao co Aa Ac (y3) hm b fun r g=>id)))))
abbrev WA:Int→AV:=fun y=>vI y
@[reducible] def RA(a:List Fld):Int→List Blk:=fun y=>[⟨0,true,56,16,Af An a⟩]
def uV(a:Fld→Option Bool):Cl:=fun no l H θ=>(∀(z0:Fld) y,a z0=some y→CS Tryz.prog l no H (θ 1) [.agg ((An z0).map .d)] (vB y))
def Zv5(a:List Fld):Nat→St:=fun b=>Ab [(0,.ref (0,0) 0 0 a.length),(1,.fn (.yield 1) [] []),(7,vN a.length),(8,vN b)] [((0,0),⟨0,true,56,16,Af An a⟩)]
def Zuq(a:List Fld):Unit→Nat×St:=fun _=>(0,Ab [] [((0,0),⟨0,true,56,16,Af An a⟩)])
def Zxg(a:List Fld)(c:Fld→Option Bool)(b:Nat):PT 1 (Lv (Nat) (Unit) (Int)):=br (decide ((b:Int)<(a.length:Int))) (vs (ir b a.length 16)<|ca a b fun d=>cf Tryz.prog 1 [.agg ((An d).map .d)] (c d) (fun y=>vB y) fun e=>br e (Au WA (RA a) (b:Int)) (vs (wa b 1)<|vz (fl a)<|ln (Zv5 a) (b+1))) (vz (fl a)<|Aj (Zuq a) ())
def ZuK(b:List Fld)(a:Fld→Option Bool):Nat→Option (Lv (Nat) (Unit) (Int)):=fun c=>(Zxg b a c).m
def ZxD(a:List Fld):PT 1 (Int):=lr WA (RA a) (-1)
def Zvu(a:List Fld)(b:Fld→Option Bool):PT 1 (Int):=vz (A7 a.length)<|vz (fl a)<|lc (Ab [(0,.ref (0,0) 0 0 a.length),(1,.fn (.yield 1) [] []),(7,vN a.length),(8,vI 0)] [((0,0),⟨0,true,56,16,Af An a⟩)]) ((Am (ZuK a b) Ai 0).bind (Sum.elim (fun _=>(ZxD a).m) some))
def Zsi(a:List Fld)(b:Fld→Option Bool):PT 1 (Int):=vz (fl a)<|lc (Ab [(0,.ref (0,0) 0 0 a.length),(1,.fn (.yield 1) [] [])] [((0,0),⟨0,true,56,16,Af An a⟩)]) ((Zvu a b).m)
def ZdC(b:List Fld)(a:Fld→Option Bool):Option (Int):=(Zsi b a).m
theorem ZrR{C:Cx}(co:CO C 1)(b:List Fld)(a:Fld→Option Bool)(f:(uV a) C.no C.l C.H0 C.θ):KL Tryz.prog (Az tl) 19 C (pa [0,0,1,0,1] (Aw Tryz.f84)) [.tmp 4] 1 (Zv5 b) (Zuq b) WA (RA b) (ZuK b a):=fun h _ hm Q c e d=>Av co Aa Ac (Zxg b a h) (Ae [0,1,7,8] DT) (Ae [] DT) e hm d fun r g=>⟨fun i=>⟨⟨fun y hy=>f _ y hy,by intro r;kernel_rfl,by intro r y;kernel_rfl⟩,fun j=>⟨id,id⟩⟩,id⟩
theorem ZOS(b:List Fld)(a:Fld→Option Bool):KO Tryz.prog 84 1 [.ref (0,0) 0 0 b.length,.fn (.yield 1) [] []] [⟨0,true,56,16,Af An b⟩] (uV a) (ZdC b a) WA (RA b):=Bi Tryz.func84 Tryz.ntmps84 Aa [.tmp 4] 1 (fun C co e y hm d c=>Ak co Aa Ac 1 (Zsi b a) (Ae [0,1] DT) nl nH hm c fun r g=>fun _ hm c=>sq (Ak co Aa Ac 1 (Zvu b a) (Ae [0,1,7,8] DT) nl nH hm c fun r g=>fun _ hm c=>bk 0 (lo (AF (ZrR co b a e) nH hm c (fun _ hm=>Ao co Aa Ac (ZxD b) hm c fun r g=>id))))) (hB:=fun y=>⟨.inl (A2 _ _),rfl,trivial⟩)
abbrev NV(a:List Fld):Ad×Blk:=((0,0),⟨0,true,56,16,Af An a⟩)
abbrev Xa:List Fld→AV:=fun y=>.ref (0,0) 0 0 y.length
@[reducible] def Xk:List Fld→List Blk:=fun y=>[⟨0,true,56,16,Af An y⟩]
def oH(a:Fld→Option Bool):Cl:=fun no l H θ=>(∀(z0:Fld) y,a z0=some y→CS Tryz.prog l no H (θ 1) [.agg ((An z0).map .d)] (vB y))
def X4(a:List Fld):Int×Int×List Fld→St:=fun(v2,v3,b)=>Ab [(0,.ref (0,0) 0 0 a.length),(1,.fn (.yield 1) [] []),(5,vI v2),(6,vI v3)] [((0,0),⟨0,true,56,16,Af An b⟩)]
def vA(a:List Fld):Int×List Fld→Nat×St:=fun(c,b)=>(0,Ab [(0,.ref (0,0) 0 0 a.length),(5,vI c)] [((0,0),⟨0,true,56,16,Af An b⟩)])
def wP(b:List Fld)(d:Fld→Option Bool)(v2:Int)(v3:Int)(a:List Fld):PT 1 (Lv (Int×Int×List Fld) (Int×List Fld) (List Fld)):=vz (A7 b.length)<|br (decide (v3<(b.length:Int))) (vs (KT v3 b.length 16)<|ca a v3.toNat fun c=>wg<|wg<|cf Tryz.prog 1 [.agg ((An c).map .d)] (d c) (fun y=>vB y) fun e=>br (!e) (wg<|vs (KT v2 b.length 16)<|vs (st a v2.toNat c)<|Ji 0 ((Rw.f (c:Fld)).map .d) (fun _=>oY _)<|vs (wi (v2+1))<|vs (wi (v3+1))<|vz (fl (a.set v2.toNat c))<|ln (X4 b) ((v2+1),(v3+1),a.set v2.toNat c)) (vs (wi (v3+1))<|vz (fl a)<|ln (X4 b) (v2,(v3+1),a))) (vz (fl a)<|Aj (vA b) (v2,a))
def zC(b:List Fld)(a:Fld→Option Bool):Int×Int×List Fld→Option (Lv (Int×Int×List Fld) (Int×List Fld) (List Fld)):=fun(v2,v3,c)=>(wP b a v2 v3 c).m
def we(c:List Fld)(a:Int)(b:List Fld):PT 1 (List Fld):=sR c.length 0 (.it a) .no<|cr b (0+a.toNat) (c.length-a.toNat) [vI 0,vS ⟨#[]⟩,vI 0,vI 0,vI 0,vS ⟨#[]⟩,vS ⟨#[]⟩,vB false,vI 0,.d (.int .u64 0),vS ⟨#[]⟩,.e0,.e0,.e0,.e0,.e0]<|Ji 0 ([vI 0,vS ⟨#[]⟩,vI 0,vI 0,vI 0,vS ⟨#[]⟩,vS ⟨#[]⟩,vB false,vI 0,.d (.int .u64 0),vS ⟨#[]⟩,.e0,.e0,.e0,.e0,.e0]) (fun _=>Ztg (by kernel_rfl))<|tro 0 b (0+a.toNat) (c.length-a.toNat) [vI 0,vS ⟨#[]⟩,vI 0,vI 0,vI 0,vS ⟨#[]⟩,vS ⟨#[]⟩,vB false,vI 0,.d (.int .u64 0),vS ⟨#[]⟩,.e0,.e0,.e0,.e0,.e0]<|vw .sep<|sR c.length 0 .no (.it a)<|lfe (a.toNat=(b.take (0+a.toNat)).length) (fun E=>E.P (.ref (0,0) 0 0 a.toNat) ([⟨0,true,56,16,Af An (b.take (0+a.toNat))⟩])) (b.take (0+a.toNat))
def yL(a:List Fld)(c:Fld→Option Bool)(b:Int):PT 1 (List Fld):=vs (wi (b+1))<|vz (fl a)<|lc (Ab [(0,.ref (0,0) 0 0 a.length),(1,.fn (.yield 1) [] []),(5,vI b),(6,vI (b+1))] [(NV a)]) ((Am (zC a c) Ai (b,(b+1),a)).bind (Sum.elim (fun(e,d)=>(we a e d).m) some))
def vT(a:List Fld)(b:Fld→Option Bool):PT 1 (List Fld):=cs Tryz.prog 84 [.ref (0,0) 0 0 a.length,.fn (.yield 1) [] []] [(0,0)] [(NV a)] (ZdC a b) (fun y=>vI y) fun c=>br (decide (c=((-1):Int))) (lr Xa (Xk) a) (vz (fl a)<|lc (Ab [(0,.ref (0,0) 0 0 a.length),(1,.fn (.yield 1) [] []),(5,vI c)] [(NV a)]) ((yL a b c).m))
def Zd4(b:List Fld)(a:Fld→Option Bool):Option (List Fld):=(vT b a).m
theorem ZK2{C:Cx}(co:CO C 1)(b:List Fld)(a:Fld→Option Bool)(f:(oH a) C.no C.l C.H0 C.θ):KL Tryz.prog (Az tl) 42 C (pa [0,0,1,0,1,1,1] (Aw Tryz.f61)) [.tmp 4] 1 (X4 b) (vA b) Xa (Xk) (zC b a):=fun(v2,v3,h) _ hm Q c e d=>Av co Aa Ac (wP b a v2 v3 h) (Ae [0,1,5,6] DT) (Ae [0,5] DT) e hm d fun r g=>⟨fun i=>⟨⟨fun y hy=>f _ y hy,by intro r;kernel_rfl,by intro r y;kernel_rfl⟩,fun j=>⟨id,id⟩⟩,id⟩
theorem ZZZ(b:List Fld)(a:Fld→Option Bool):KO Tryz.prog 61 1 [.ref (0,0) 0 0 b.length,.fn (.yield 1) [] []] [⟨0,true,56,16,Af An b⟩] (oH a) (Zd4 b a) Xa (Xk):=Bi Tryz.func61 Tryz.ntmps61 Aa [.tmp 4] 1 (fun C co e y hm d c=>Ak co Aa Ac 3 (vT b a) (Ae [0,1,5] DT) nl nH hm c fun r g=>⟨fun y hy=>B6 (ZOS b a) hy co g [(NV b)] [] (AN [(1,r.θ 1)]) (fun m hg f=>(fun z0 y i=>ME co g [(NV b)] f (e z0 y i))) (fun H=>⟨fun _=>⟨rfl,BA (A2 _ _) (by kernel_rfl)⟩,by kernel_rfl,trivial⟩),fun l=>⟨id,fun _ hm c=>sq (Ak co Aa Ac 1 (yL b a l) (Ae [0,1,5,6] DT) nl nH hm c fun r g=>fun _ hm c=>bk 0 (lo (AF (ZK2 co b a e) nH hm c (fun(k,j) hm=>Ao co Aa Ac (we b k j) hm c fun r g=>fun h c=>lfx (congrArg (fun n=>(.ref (0,0) 0 0 n:AV)) h) c))))⟩⟩) (hB:=fun y=>⟨.inl (A2 _ _),rfl,trivial⟩)
abbrev Xb:List Fld→AV:=fun y=>.ref (0,0) 1 0 y.length
@[reducible] def Xl:List Fld→List Blk:=fun y=>[⟨1,true,56,16,Af An y⟩]
def zK(a:List Fld):PT 1 (List Fld):=al An a false fun b=>br b (vw .sep<|vw (.ads 2 2 56 16)<|mv 2 0 ([]:List Fld)<|lr Xb (Xl) ([]:List Fld)) (a0 a<|mv 7 0 a<|lr Xb (Xl) a)
def Zgk(a:List Fld):Option (List Fld):=(zK a).m
theorem Z0d(a:List Fld):KO Tryz.prog 62 1 [vL An a] [⟨0,false,0,0,[]⟩] (fun _ _ _ _=>True) (Zgk a) Xb (Xl):=Bi Tryz.func62 Tryz.ntmps62 Aa [.tmp 2] 1 (fun C co f y hm c d=>Ao co Aa Ac (zK a) hm d fun r g=>⟨fun e=>⟨id,id⟩,by intro b h;subst h;cases b<;>rfl⟩) (hB:=fun y=>⟨.inl (A2 _ _),rfl,trivial⟩)
abbrev n6:Bool→AV:=fun y=>vB y
@[reducible] def oz(w0:ByteArray):Bool→List Blk:=fun y=>[⟨0,true,9,1,[vS w0]⟩]
def uY(a:Fld)(w0:ByteArray):PT 1 (Bool):=wg<|wg<|lr n6 (oz w0) (!decide (a.union=w0))
def fj(a:Fld)(w0:ByteArray):Option (Bool):=(uY a w0).m
theorem ZZq(a:Fld)(w0:ByteArray):KO Tryz.prog 63 1 [.agg ((An a).map .d),.ptr (0,0) 0 0] [⟨0,true,9,1,[vS w0]⟩] (fun _ _ _ _=>True) (fj a w0) n6 (oz w0):=Bi Tryz.func63 Tryz.ntmps63 Aa [.tmp 3] 1 (fun C co d y hm b c=>Ao co Aa Ac (uY a w0) hm c fun r g=>id) (hB:=fun y=>⟨.inr (by kernel_rfl),rfl,trivial⟩)
abbrev LK(a:ByteArray):Ad×Blk:=kk 3 9 1 [vS a]
abbrev W6:List Fld→AV:=fun y=>vL An y
def yE(a:List Fld):PT 0 (List Fld):=vz (fr a)<|lr W6 nG a
def uX(a:List Fld):PT 0 (List Fld):=vz (fl a)<|lc (Ab [(4,.ref (1,9) 0 0 a.length)] [kk 9 56 16 (Af An a)]) ((yE a).m)
def yQ(b:ByteArray)(a:List Fld):PT 0 (List Fld):=vz (fl a)<|lc (Ab [(9,.ref (1,9) 0 0 a.length),(10,.fn (.func 63) [] [.ptr (1,3) 0 0])] [(LK b),kk 9 56 16 (Af An a)]) ((Zd4 a (fun(z0:Fld)=>fj z0 b)).bind fun c=>(uX c).m)
def yB(a:Msg)(b:ByteArray):PT 0 (List Fld):=wg<|lc (Ab [pp 3,(8,vL An a.fields)] [(LK b)]) ((Zgk a.fields).bind fun c=>(yQ b c).m)
def xo(b:Msg)(a:ByteArray):PT 0 (List Fld):=wg<|br (decide (a=(⟨#[]⟩:ByteArray))) (lr W6 nG ([]:List Fld)) (lc (Ab [pp 2,pp 3] [kk 2 61 5 (cD (AB b)),(LK a)]) ((yB b a).m))
def ZkZ(a:Msg)(b:ByteArray):Option (List Fld):=(xo a b).m
theorem db(c:Msg)(a:ByteArray):KC Tryz.prog 29 [.agg ((AB c).map .d),vS a] (ZkZ c a) W6:=As Tryz.func29 Tryz.ntmps29 Aa [.tmp 4] fun C co y hm f b=>Ak co Aa Ac 2 (xo c a) (Ae [2,3] Fj) nl nH hm b fun r g=>⟨id,fun _ hm b=>sq (rg (BJ co Aa 2 (yB c a) (Ae [3,8] ZXn) hm b fun r g=>fun _ hm b=>HK co hm 62 [vL An c.fields] [(1,9)] ([((1,9),⟨0,false,0,0,[]⟩)]++[]) (fun z=>.ref (1,9) 1 0 z.length) (fun z=>[((1,9),⟨1,true,56,16,Af An z⟩)]) [] (fun z=>trivial) (trivial) (fun z e r g=>Eg (Z0d c.fields) e co g [((1,9),⟨0,false,0,0,[]⟩)] [] [((1,9),⟨1,true,56,16,Af An z⟩)] (AN []) (fun j hg k=>trivial) (fun H=>⟨(fun h=>by cases h),by kernel_rfl,trivial⟩) (fun H=>⟨fun _=>⟨rfl,BA (A2 _ _) (by kernel_rfl)⟩,by kernel_rfl,trivial⟩)) fun d hm=>BJ co Aa 1 (yQ a d) (Ae [9,10] [((1,3),false),((1,9),true)]) hm b fun r g=>fun _ hm b=>HK co hm 61 [.ref (1,9) 0 0 d.length,.fn (.func 63) [] [.ptr (1,3) 0 0]] [(1,9),(1,3)] ([kk 9 56 16 (Af An d)]++[(LK a)]) (fun z=>.ref (1,9) 0 0 z.length) (fun z=>[kk 9 56 16 (Af An z)]) [] (fun z=>trivial) (trivial) (fun z e r g=>Eg (ZZZ d (fun(z0:Fld)=>fj z0 a)) e co g [kk 9 56 16 (Af An d)] [(LK a)] [kk 9 56 16 (Af An z)] (AN [(1,.fn (.func 63) [] [.ptr (r.κ (1,3)) (r.γ (1,3)+0) 0])]) (fun j hg k=>(fun z0 y e=>D1 (ZZq z0 a) e co g [(LK a)] [kk 9 56 16 (Af An d)] hg (by simp) (fun _=>.top) (fun _ _=>trivial) (fun l H=>⟨fun _=>⟨rfl,by kernel_rfl⟩,by kernel_rfl,trivial⟩))) (fun H=>⟨fun _=>⟨rfl,BA (A2 _ _) (by kernel_rfl)⟩,by kernel_rfl,trivial⟩) (fun H=>⟨fun _=>⟨rfl,BA (A2 _ _) (by kernel_rfl)⟩,by kernel_rfl,trivial⟩)) fun i hm=>Bf co Aa (uX i) (Ae [4] [((1,9),true)]) hm b fun r g=>fun _ hm b=>Ao co Aa Ac (yE i) hm b fun r g=>id))⟩
abbrev ZYw:Bool→AV:=fun y=>vB y
def ZZ1(a:Slt→Option Bool):Cl:=fun no l H θ=>(∀(z0:Slt) y,a z0=some y→CS Tryz.prog l no H (θ 1) [.agg ((B2 z0).map .d)] (vB y))
def pG(b:List Slt)(a:Slt→Option Bool):PT 0 (Bool):=cs Tryz.prog 55 [vL Ap b,.fn (.yield 1) [] []] [] [] (L9 b a) (fun y=>vI y) fun c=>lr ZYw nG (decide ((0:Int)≤c))
def Tq(b:List Slt)(a:Slt→Option Bool):Option (Bool):=(pG b a).m
theorem Z7(b:List Slt)(a:Slt→Option Bool):KO Tryz.prog 220 0 [vL Ap b,.fn (.yield 1) [] []] [] (ZZ1 a) (Tq b a) ZYw nG:=Bi Tryz.func220 Tryz.ntmps220 Aa [.tmp 4] 0 (fun C co e y hm c d=>Ao co Aa Ac (pG b a) hm d fun r g=>⟨fun y hy=>B6 (di b a) hy co g [] [] (AN [(1,r.θ 1)]) (fun i hg f=>(fun z0 y h=>ME co g [] f (e z0 y h))) (fun H=>trivial),fun j=>id⟩)
abbrev ZXV:Bool→AV:=fun y=>vB y
@[reducible] def ZXE(w0:Fld):Bool→List Blk:=fun y=>[⟨0,true,56,16,(cD (An w0))⟩]
def tJ(a:Int)(w0:Fld):PT 1 (Bool):=wg<|lr ZXV (ZXE w0) (decide (a=w0.num))
def Zem(a:Int)(w0:Fld):Option (Bool):=(tJ a w0).m
theorem ZVz(a:Int)(w0:Fld):KO Tryz.prog 198 1 [vI a,.ptr (0,0) 0 0] [⟨0,true,56,16,(cD (An w0))⟩] (fun _ _ _ _=>True) (Zem a w0) ZXV (ZXE w0):=Bi Tryz.func198 Tryz.ntmps198 Aa [.tmp 3] 1 (fun C co d y hm b c=>Ao co Aa Ac (tJ a w0) hm c fun r g=>id) (hB:=fun y=>⟨.inr (by kernel_rfl),rfl,trivial⟩)
abbrev ZYy:Bool→AV:=fun y=>vB y
@[reducible] def ZYH(w0:Fld):Bool→List Blk:=fun y=>[⟨0,true,56,16,(cD (An w0))⟩]
def rY(a:Int)(w0:Fld):PT 1 (Bool):=wg<|lr ZYy (ZYH w0) (decide (a=w0.num))
def ZfD(a:Int)(w0:Fld):Option (Bool):=(rY a w0).m
theorem ZWV(a:Int)(w0:Fld):KO Tryz.prog 217 1 [vI a,.ptr (0,0) 0 0] [⟨0,true,56,16,(cD (An w0))⟩] (fun _ _ _ _=>True) (ZfD a w0) ZYy (ZYH w0):=Bi Tryz.func217 Tryz.ntmps217 Aa [.tmp 3] 1 (fun C co d y hm b c=>Ao co Aa Ac (rY a w0) hm c fun r g=>id) (hB:=fun y=>⟨.inr (by kernel_rfl),rfl,trivial⟩)
end Go.Proofs.YthgmbpciandpiaaGreat
