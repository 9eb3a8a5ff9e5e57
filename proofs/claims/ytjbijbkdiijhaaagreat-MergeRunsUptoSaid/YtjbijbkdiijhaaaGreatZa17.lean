import Derived.Test.YtjbijbkdiijhaaaGreatZa16
import Derived.Test.YtjbijbkdiijhaaaGreatZa00
namespace Go.Proofs.YtjbijbkdiijhaaaGreat
set_option maxRecDepth 100000
set_option linter.all false
open Go Go.Eng
abbrev RF(a:List Slt):Af×Blk:=((0,0),⟨0,true,61,8,Ab Aq a⟩)
abbrev ZJ:List Slt→AV:=fun y=>.ref (0,0) 0 0 y.length
@[reducible] def ZV:List Slt→List Blk:=fun y=>[⟨0,true,61,8,Ab Aq y⟩]
def q8(a:Slt→Option Bool):Cl:=fun no l H θ=>(∀(z0:Slt) y,a z0=some y→CM Tryz.prog l no H (θ 1) [.agg ((Dr z0).map .d)] (vB y))
def eH(a:List Slt):Int×Int×List Slt→St:=fun(v2,v3,b)=>Ad [(0,.ref (0,0) 0 0 a.length),(1,.fn (.yield 1) [] []),(5,vI v2),(6,vI v3)] [((0,0),⟨0,true,61,8,Ab Aq b⟩)]
def uz(a:List Slt):Int×List Slt→Nat×St:=fun(c,b)=>(0,Ad [(0,.ref (0,0) 0 0 a.length),(5,vI c)] [((0,0),⟨0,true,61,8,Ab Aq b⟩)])
def Tv(b:List Slt)(d:Slt→Option Bool)(v2:Int)(v3:Int)(a:List Slt):PT 1 (Lv (Int×Int×List Slt) (Int×List Slt) (List Slt)):=vz (Bz b.length)<|br (decide (v3<(b.length:Int))) (vs (AH v3 b.length 8)<|ca a v3.toNat fun c=>wg<|wg<|cf Tryz.prog 1 [.agg ((Dr c).map .d)] (d c) (fun y=>vB y) fun e=>br (!e) (wg<|vs (AH v2 b.length 8)<|vs (st a v2.toNat c)<|BW 0 ((Rw.f (c:Slt)).map .d) (fun _=>Hf _)<|vs (wi (v2+1))<|vs (wi (v3+1))<|vz (fl (a.set v2.toNat c))<|ln (eH b) ((v2+1),(v3+1),a.set v2.toNat c)) (vs (wi (v3+1))<|vz (fl a)<|ln (eH b) (v2,(v3+1),a))) (vz (fl a)<|Ah (uz b) (v2,a))
def RZ(b:List Slt)(a:Slt→Option Bool):Int×Int×List Slt→Option (Lv (Int×Int×List Slt) (Int×List Slt) (List Slt)):=fun(v2,v3,c)=>(Tv b a v2 v3 c).m
def dF(c:List Slt)(a:Int)(b:List Slt):PT 1 (List Slt):=sR c.length 0 (.it a) .no<|cr b (0+a.toNat) (c.length-a.toNat) [vI 0,vI 0,.d (.int .u64 0),vS ⟨#[]⟩,.e0,.e0,.e0,.e0]<|BW 0 ([vI 0,vI 0,.d (.int .u64 0),vS ⟨#[]⟩,.e0,.e0,.e0,.e0]) (fun _=>ZsB (by kernel_rfl))<|J9 0 b (0+a.toNat) (c.length-a.toNat) [vI 0,vI 0,.d (.int .u64 0),vS ⟨#[]⟩,.e0,.e0,.e0,.e0]<|vw .sep<|sR c.length 0 .no (.it a)<|Ej (a.toNat=(b.take (0+a.toNat)).length) (fun E=>E.P (.ref (0,0) 0 0 a.toNat) ([⟨0,true,61,8,Ab Aq (b.take (0+a.toNat))⟩])) (b.take (0+a.toNat))
def gA(a:List Slt)(c:Slt→Option Bool)(b:Int):PT 1 (List Slt):=vs (wi (b+1))<|vz (fl a)<|lc (Ad [(0,.ref (0,0) 0 0 a.length),(1,.fn (.yield 1) [] []),(5,vI b),(6,vI (b+1))] [(RF a)]) ((Ak (RZ a c) Am (b,(b+1),a)).bind (Sum.elim (fun(e,d)=>(dF a e d).m) some))
def dq(a:List Slt)(b:Slt→Option Bool):PT 1 (List Slt):=cs Tryz.prog 46 [.ref (0,0) 0 0 a.length,.fn (.yield 1) [] []] [(0,0)] [(RF a)] (Ps a b) (fun y=>vI y) fun c=>br (decide (c=((-1):Int))) (lr ZJ (ZV) a) (vz (fl a)<|lc (Ad [(0,.ref (0,0) 0 0 a.length),(1,.fn (.yield 1) [] []),(5,vI c)] [(RF a)]) ((gA a b c).m))
def Pq(b:List Slt)(a:Slt→Option Bool):Option (List Slt):=(dq b a).m
theorem ZGn{C:Cx}(co:CO C 1)(b:List Slt)(a:Slt→Option Bool)(f:(q8 a) C.no C.l C.H0 C.θ):KL Tryz.prog (AC tl) 42 C (pa [0,0,1,0,1,1,1] (Az Tryz.f19)) [.tmp 4] 1 (eH b) (uz b) ZJ (ZV) (RZ b a):=fun(v2,v3,h) _ hm Q c e d=>As co Aa Ae (Tv b a v2 v3 h) (Ac [0,1,5,6] Ai) (Ac [0,5] Ai) e hm d fun r g=>⟨fun i=>⟨⟨fun y hy=>f _ y hy,by intro r;kernel_rfl,by intro r y;kernel_rfl⟩,fun j=>⟨id,id⟩⟩,id⟩
theorem ZVH(b:List Slt)(a:Slt→Option Bool):KO Tryz.prog 19 1 [.ref (0,0) 0 0 b.length,.fn (.yield 1) [] []] [⟨0,true,61,8,Ab Aq b⟩] (q8 a) (Pq b a) ZJ (ZV):=Bv Tryz.func19 Tryz.ntmps19 Aa [.tmp 4] 1 (fun C co e y hm d c=>Aj co Aa Ae 3 (dq b a) (Ac [0,1,5] Ai) nl nH hm c fun r g=>⟨fun y hy=>G8 (sS b a) hy co g [(RF b)] [] (AG [(1,r.θ 1)]) (fun m o f=>(fun z0 y i=>BH co g [(RF b)] f (e z0 y i))) (fun H=>⟨fun _=>⟨rfl,AD (Aw _ _) (by kernel_rfl)⟩,by kernel_rfl,trivial⟩),fun l=>⟨id,fun _ hm c=>sq (Aj co Aa Ae 1 (gA b a l) (Ac [0,1,5,6] Ai) nl nH hm c fun r g=>fun _ hm c=>bk 0 (lo (AF (ZGn co b a e) nH hm c (fun(k,j) hm=>Ax co Aa Ae (dF b k j) hm c fun r g=>fun h c=>lfx (congrArg (fun n=>(.ref (0,0) 0 0 n:AV)) h) c))))⟩⟩) (hB:=fun y=>⟨.inl (Aw _ _),rfl,trivial⟩)
abbrev XB:Af×Blk:=kk 4 51 16 [vI 0,vS ⟨#[]⟩,vI 0,vI 0,vI 0,vS ⟨#[]⟩,vS ⟨#[]⟩,vB false,vI 0,.d (.int .u64 0),vS ⟨#[]⟩,.e0,.e0,.e0,.e0,.e0]
abbrev Su:Fld×Bool→AV:=fun y=>.tup [.agg ((Ay y.1).map .d),vB y.2]
def rc(a:Fld→Option Bool):Cl:=fun no l H θ=>(∀(z0:Fld) y,a z0=some y→CM Tryz.prog l no H (θ 1) [.agg ((Ay z0).map .d)] (vB y))
def wu(a:List Fld):Nat→St:=fun b=>Ad [(1,.fn (.yield 1) [] []),pp 4,(9,vL Ay a),(10,vN a.length),(11,vN b)] [XB]
def ue:Unit→Nat×St:=fun _=>(0,Ad [pp 4] [XB])
def TA(c:List Fld)(d:Fld→Option Bool)(a:Nat):PT 0 (Lv (Nat) (Unit) (Fld×Bool)):=br (decide ((a:Int)<(c.length:Int))) (ix c a fun b=>wg<|wg<|cf Tryz.prog 1 [.agg ((Ay b).map .d)] (d b) (fun y=>vB y) fun e=>br e (wg<|wg<|AA Su nG (b,true)) (vs (wa a 1)<|ln (wu c) (a+1))) (Ah (ue) ())
def Sa(b:List Fld)(a:Fld→Option Bool):Nat→Option (Lv (Nat) (Unit) (Fld×Bool)):=fun c=>(TA b a c).m
def gv:PT 0 (Fld×Bool):=wg<|wg<|lr Su nG ((.mk 0 ⟨#[]⟩ 0 0 (.mk 0 ⟨#[]⟩:Typ) ⟨#[]⟩ false (.mk 0 0 ⟨#[]⟩ [] [] [] []:Val) []:Fld),false)
def b6(a:List Fld)(b:Fld→Option Bool):PT 0 (Fld×Bool):=vz (An a)<|lc (Ad [(1,.fn (.yield 1) [] []),pp 4,(9,vL Ay a),(10,vN a.length),(11,vI 0)] [XB]) ((Ak (Sa a b) Am 0).bind (Sum.elim (fun _=>(gv).m) some))
def gg(b:List Fld)(a:Fld→Option Bool):PT 0 (Fld×Bool):=lc (Ad [(0,vL Ay b),(1,.fn (.yield 1) [] []),pp 4] [XB]) ((b6 b a).m)
def Vc(b:List Fld)(a:Fld→Option Bool):Option (Fld×Bool):=(gg b a).m
theorem ZKK{C:Cx}(co:CO C 0)(b:List Fld)(a:Fld→Option Bool)(f:(rc a) C.no C.l C.H0 C.θ):KL Tryz.prog (AC tl) 21 C (pa [0,0,1,0,1] (Az Tryz.f47)) [.cell 4 51,.tmp 5] 0 (wu b) (ue) Su nG (Sa b a):=fun h _ hm Q c e d=>As co Aa Ae (TA b a h) (Ac [1,4,9,10,11] F8) (Ac [4] F8) e hm d fun r g=>⟨fun i=>⟨⟨fun y hy=>f _ y hy,by intro r;kernel_rfl,by intro r y;kernel_rfl⟩,fun j=>⟨id,id⟩⟩,id⟩
theorem ZWa(c:List Fld)(a:Fld→Option Bool):KO Tryz.prog 47 0 [vL Ay c,.fn (.yield 1) [] []] [] (rc a) (Vc c a) Su nG:=Bv Tryz.func47 Tryz.ntmps47 Aa [.cell 4 51,.tmp 5] 0 (fun C co e y hm d b=>Aj co Aa Ae 1 (gg c a) (Ac [0,1,4] F8) nl nH hm b fun r g=>fun _ hm b=>sq (Aj co Aa Ae 1 (b6 c a) (Ac [1,4,9,10,11] F8) nl nH hm b fun r g=>fun _ hm b=>bk 0 (lo (AF (ZKK co c a e) nH hm b (fun _ hm=>Ax co Aa Ae (gv) hm b fun r g=>id)))))
abbrev qG:Bool→AV:=fun y=>vB y
@[reducible] def qY(w0:Int):Bool→List Blk:=fun y=>[⟨0,true,3,1,[vI w0]⟩]
def uF(a:Fld)(w0:Int):PT 1 (Bool):=wg<|wg<|lr qG (qY w0) (decide (a.num=w0))
def MP(a:Fld)(w0:Int):Option (Bool):=(uF a w0).m
theorem ZVy(a:Fld)(w0:Int):KO Tryz.prog 48 1 [.agg ((Ay a).map .d),.ptr (0,0) 0 0] [⟨0,true,3,1,[vI w0]⟩] (fun _ _ _ _=>True) (MP a w0) qG (qY w0):=Bv Tryz.func48 Tryz.ntmps48 Aa [.tmp 3] 1 (fun C co d y hm b c=>Ax co Aa Ae (uF a w0) hm c fun r g=>id) (hB:=fun y=>⟨.inr (by kernel_rfl),rfl,trivial⟩)
abbrev qB:Fld×Bool→AV:=fun y=>.tup [.agg ((Ay y.1).map .d),vB y.2]
def eO(a:Msg)(b:Int):PT 0 (Fld×Bool):=wg<|cs Tryz.prog 47 [vL Ay a.fields,.fn (.func 48) [] [.ptr (1,3) 1 0]] [(1,3)] [((1,3),⟨1,true,3,1,[vI b]⟩)] (Vc a.fields (fun(z0:Fld)=>MP z0 b)) (fun y=>.tup [.agg ((Ay y.1).map .d),vB y.2]) fun c=>wg<|lr qB nG (c.1,c.2)
def kw(a:Msg)(b:Int):Option (Fld×Bool):=(eO a b).m
theorem yK(b:Msg)(a:Int):KC Tryz.prog 21 [.agg ((AU b).map .d),vI a] (kw b a) qB:=AE Tryz.func21 Tryz.ntmps21 Aa [.cell 4 51,.tmp 5] fun C co y hm c d=>Ax co Aa Ae (eO b a) hm d fun r g=>⟨fun y hy=>G8 (ZWa b.fields (fun(z0:Fld)=>MP z0 a)) hy co g [] [((1,3),⟨1,true,3,1,[vI a]⟩)] (AG [(1,.fn (.func 48) [] [.ptr (r.κ (1,3)) (r.γ (1,3)+1) 0])]) (fun h e i=>(fun z0 y f=>Lu (ZVy z0 a) f co g [((1,3),⟨1,true,3,1,[vI a]⟩)] [] e (by simp) (fun _=>.top) (fun _ _=>trivial) (fun l H=>⟨fun _=>⟨rfl,by kernel_rfl⟩,by kernel_rfl,trivial⟩))) (fun H=>trivial),fun j=>id⟩
abbrev SE:Int→AV:=fun y=>vI y
def re(a:Fld→Option Bool):Cl:=fun no l H θ=>(∀(z0:Fld) y,a z0=some y→CM Tryz.prog l no H (θ 1) [.agg ((Ay z0).map .d)] (vB y))
def xI(a:List Fld):Nat→St:=fun b=>Ad [(0,vL Ay a),(1,.fn (.yield 1) [] []),(7,vN a.length),(8,vN b)] []
def vi:Unit→Nat×St:=fun _=>(0,Ad [] [])
def Zl(b:List Fld)(c:Fld→Option Bool)(a:Nat):PT 0 (Lv (Nat) (Unit) (Int)):=br (decide ((a:Int)<(b.length:Int))) (ix b a fun d=>cf Tryz.prog 1 [.agg ((Ay d).map .d)] (c d) (fun y=>vB y) fun e=>br e (AA SE nG (a:Int)) (vs (wa a 1)<|ln (xI b) (a+1))) (Ah (vi) ())
def Rt(b:List Fld)(a:Fld→Option Bool):Nat→Option (Lv (Nat) (Unit) (Int)):=fun c=>(Zl b a c).m
def eV:PT 0 (Int):=lr SE nG (-1)
def ge(a:List Fld)(b:Fld→Option Bool):PT 0 (Int):=vz (An a)<|lc (Ad [(0,vL Ay a),(1,.fn (.yield 1) [] []),(7,vN a.length),(8,vI 0)] []) ((Ak (Rt a b) Am 0).bind (Sum.elim (fun _=>(eV).m) some))
def fJ(b:List Fld)(a:Fld→Option Bool):PT 0 (Int):=lc (Ad [(0,vL Ay b),(1,.fn (.yield 1) [] [])] []) ((ge b a).m)
def j9(b:List Fld)(a:Fld→Option Bool):Option (Int):=(fJ b a).m
theorem ZGg{C:Cx}(co:CO C 0)(b:List Fld)(a:Fld→Option Bool)(f:(re a) C.no C.l C.H0 C.θ):KL Tryz.prog (AC tl) 19 C (pa [0,0,1,0,1] (Az Tryz.f81)) [.tmp 4] 0 (xI b) (vi) SE nG (Rt b a):=fun h _ hm Q c e d=>As co Aa Ae (Zl b a h) (AK [0,1,7,8]) nl e hm d fun r g=>⟨fun i=>⟨⟨fun y hy=>f _ y hy,by intro r;kernel_rfl,by intro r y;kernel_rfl⟩,fun j=>⟨id,id⟩⟩,id⟩
theorem ZV1(c:List Fld)(a:Fld→Option Bool):KO Tryz.prog 81 0 [vL Ay c,.fn (.yield 1) [] []] [] (re a) (j9 c a) SE nG:=Bv Tryz.func81 Tryz.ntmps81 Aa [.tmp 4] 0 (fun C co e y hm d b=>Aj co Aa Ae 1 (fJ c a) (AK [0,1]) nl nH hm b fun r g=>fun _ hm b=>sq (Aj co Aa Ae 1 (ge c a) (AK [0,1,7,8]) nl nH hm b fun r g=>fun _ hm b=>bk 0 (lo (AF (ZGg co c a e) nH hm b (fun _ hm=>Ax co Aa Ae (eV) hm b fun r g=>id)))))
abbrev qH:Bool→AV:=fun y=>vB y
def H49(a:Fld→Option Bool):Cl:=fun no l H θ=>(∀(z0:Fld) y,a z0=some y→CM Tryz.prog l no H (θ 1) [.agg ((Ay z0).map .d)] (vB y))
def fj(b:List Fld)(a:Fld→Option Bool):PT 0 (Bool):=cs Tryz.prog 81 [vL Ay b,.fn (.yield 1) [] []] [] [] (j9 b a) (fun y=>vI y) fun c=>lr qH nG (decide ((0:Int)≤c))
def U5(b:List Fld)(a:Fld→Option Bool):Option (Bool):=(fj b a).m
theorem ZVz(b:List Fld)(a:Fld→Option Bool):KO Tryz.prog 49 0 [vL Ay b,.fn (.yield 1) [] []] [] (H49 a) (U5 b a) qH nG:=Bv Tryz.func49 Tryz.ntmps49 Aa [.tmp 4] 0 (fun C co e y hm c d=>Ax co Aa Ae (fj b a) hm d fun r g=>⟨fun y hy=>G8 (ZV1 b a) hy co g [] [] (AG [(1,r.θ 1)]) (fun i j f=>(fun z0 y h=>BH co g [] f (e z0 y h))) (fun H=>trivial),fun k=>id⟩)
abbrev Tt:Int→AV:=fun y=>vI y
@[reducible] def TP(a:List Fld):Int→List Blk:=fun y=>[⟨0,true,51,16,Ab Ay a⟩]
def wY(a:Fld→Option Bool):Cl:=fun no l H θ=>(∀(z0:Fld) y,a z0=some y→CM Tryz.prog l no H (θ 1) [.agg ((Ay z0).map .d)] (vB y))
def Zud(a:List Fld):Nat→St:=fun b=>Ad [(0,.ref (0,0) 0 0 a.length),(1,.fn (.yield 1) [] []),(7,vN a.length),(8,vN b)] [((0,0),⟨0,true,51,16,Ab Ay a⟩)]
def Zsi(a:List Fld):Unit→Nat×St:=fun _=>(0,Ad [] [((0,0),⟨0,true,51,16,Ab Ay a⟩)])
def Qe(a:List Fld)(c:Fld→Option Bool)(b:Nat):PT 1 (Lv (Nat) (Unit) (Int)):=br (decide ((b:Int)<(a.length:Int))) (vs (ir b a.length 16)<|ca a b fun d=>cf Tryz.prog 1 [.agg ((Ay d).map .d)] (c d) (fun y=>vB y) fun e=>br e (AA Tt (TP a) (b:Int)) (vs (wa b 1)<|vz (fl a)<|ln (Zud a) (b+1))) (vz (fl a)<|Ah (Zsi a) ())
def Wa(b:List Fld)(a:Fld→Option Bool):Nat→Option (Lv (Nat) (Unit) (Int)):=fun c=>(Qe b a c).m
def P1(a:List Fld):PT 1 (Int):=lr Tt (TP a) (-1)
def Qb(a:List Fld)(b:Fld→Option Bool):PT 1 (Int):=vz (Bz a.length)<|vz (fl a)<|lc (Ad [(0,.ref (0,0) 0 0 a.length),(1,.fn (.yield 1) [] []),(7,vN a.length),(8,vI 0)] [((0,0),⟨0,true,51,16,Ab Ay a⟩)]) ((Ak (Wa a b) Am 0).bind (Sum.elim (fun _=>(P1 a).m) some))
def Qh(a:List Fld)(b:Fld→Option Bool):PT 1 (Int):=vz (fl a)<|lc (Ad [(0,.ref (0,0) 0 0 a.length),(1,.fn (.yield 1) [] [])] [((0,0),⟨0,true,51,16,Ab Ay a⟩)]) ((Qb a b).m)
def Ve(b:List Fld)(a:Fld→Option Bool):Option (Int):=(Qh b a).m
theorem ZsN{C:Cx}(co:CO C 1)(b:List Fld)(a:Fld→Option Bool)(f:(wY a) C.no C.l C.H0 C.θ):KL Tryz.prog (AC tl) 19 C (pa [0,0,1,0,1] (Az Tryz.f81)) [.tmp 4] 1 (Zud b) (Zsi b) Tt (TP b) (Wa b a):=fun h _ hm Q c e d=>As co Aa Ae (Qe b a h) (Ac [0,1,7,8] Ai) (Ac [] Ai) e hm d fun r g=>⟨fun i=>⟨⟨fun y hy=>f _ y hy,by intro r;kernel_rfl,by intro r y;kernel_rfl⟩,fun j=>⟨id,id⟩⟩,id⟩
theorem ZMV(b:List Fld)(a:Fld→Option Bool):KO Tryz.prog 81 1 [.ref (0,0) 0 0 b.length,.fn (.yield 1) [] []] [⟨0,true,51,16,Ab Ay b⟩] (wY a) (Ve b a) Tt (TP b):=Bv Tryz.func81 Tryz.ntmps81 Aa [.tmp 4] 1 (fun C co e y hm d c=>Aj co Aa Ae 1 (Qh b a) (Ac [0,1] Ai) nl nH hm c fun r g=>fun _ hm c=>sq (Aj co Aa Ae 1 (Qb b a) (Ac [0,1,7,8] Ai) nl nH hm c fun r g=>fun _ hm c=>bk 0 (lo (AF (ZsN co b a e) nH hm c (fun _ hm=>Ax co Aa Ae (P1 b) hm c fun r g=>id))))) (hB:=fun y=>⟨.inl (Aw _ _),rfl,trivial⟩)
abbrev RB(a:List Fld):Af×Blk:=((0,0),⟨0,true,51,16,Ab Ay a⟩)
abbrev ZR:List Fld→AV:=fun y=>.ref (0,0) 0 0 y.length
@[reducible] def ZY:List Fld→List Blk:=fun y=>[⟨0,true,51,16,Ab Ay y⟩]
def rh(a:Fld→Option Bool):Cl:=fun no l H θ=>(∀(z0:Fld) y,a z0=some y→CM Tryz.prog l no H (θ 1) [.agg ((Ay z0).map .d)] (vB y))
def gL(a:List Fld):Int×Int×List Fld→St:=fun(v2,v3,b)=>Ad [(0,.ref (0,0) 0 0 a.length),(1,.fn (.yield 1) [] []),(5,vI v2),(6,vI v3)] [((0,0),⟨0,true,51,16,Ab Ay b⟩)]
def vD(a:List Fld):Int×List Fld→Nat×St:=fun(c,b)=>(0,Ad [(0,.ref (0,0) 0 0 a.length),(5,vI c)] [((0,0),⟨0,true,51,16,Ab Ay b⟩)])
def TS(b:List Fld)(d:Fld→Option Bool)(v2:Int)(v3:Int)(a:List Fld):PT 1 (Lv (Int×Int×List Fld) (Int×List Fld) (List Fld)):=vz (Bz b.length)<|br (decide (v3<(b.length:Int))) (vs (AH v3 b.length 16)<|ca a v3.toNat fun c=>wg<|wg<|cf Tryz.prog 1 [.agg ((Ay c).map .d)] (d c) (fun y=>vB y) fun e=>br (!e) (wg<|vs (AH v2 b.length 16)<|vs (st a v2.toNat c)<|BW 0 ((Rw.f (c:Fld)).map .d) (fun _=>Hf _)<|vs (wi (v2+1))<|vs (wi (v3+1))<|vz (fl (a.set v2.toNat c))<|ln (gL b) ((v2+1),(v3+1),a.set v2.toNat c)) (vs (wi (v3+1))<|vz (fl a)<|ln (gL b) (v2,(v3+1),a))) (vz (fl a)<|Ah (vD b) (v2,a))
def Rz(b:List Fld)(a:Fld→Option Bool):Int×Int×List Fld→Option (Lv (Int×Int×List Fld) (Int×List Fld) (List Fld)):=fun(v2,v3,c)=>(TS b a v2 v3 c).m
def gx(c:List Fld)(a:Int)(b:List Fld):PT 1 (List Fld):=sR c.length 0 (.it a) .no<|cr b (0+a.toNat) (c.length-a.toNat) [vI 0,vS ⟨#[]⟩,vI 0,vI 0,vI 0,vS ⟨#[]⟩,vS ⟨#[]⟩,vB false,vI 0,.d (.int .u64 0),vS ⟨#[]⟩,.e0,.e0,.e0,.e0,.e0]<|BW 0 ([vI 0,vS ⟨#[]⟩,vI 0,vI 0,vI 0,vS ⟨#[]⟩,vS ⟨#[]⟩,vB false,vI 0,.d (.int .u64 0),vS ⟨#[]⟩,.e0,.e0,.e0,.e0,.e0]) (fun _=>ZsB (by kernel_rfl))<|J9 0 b (0+a.toNat) (c.length-a.toNat) [vI 0,vS ⟨#[]⟩,vI 0,vI 0,vI 0,vS ⟨#[]⟩,vS ⟨#[]⟩,vB false,vI 0,.d (.int .u64 0),vS ⟨#[]⟩,.e0,.e0,.e0,.e0,.e0]<|vw .sep<|sR c.length 0 .no (.it a)<|Ej (a.toNat=(b.take (0+a.toNat)).length) (fun E=>E.P (.ref (0,0) 0 0 a.toNat) ([⟨0,true,51,16,Ab Ay (b.take (0+a.toNat))⟩])) (b.take (0+a.toNat))
def dm(a:List Fld)(c:Fld→Option Bool)(b:Int):PT 1 (List Fld):=vs (wi (b+1))<|vz (fl a)<|lc (Ad [(0,.ref (0,0) 0 0 a.length),(1,.fn (.yield 1) [] []),(5,vI b),(6,vI (b+1))] [(RB a)]) ((Ak (Rz a c) Am (b,(b+1),a)).bind (Sum.elim (fun(e,d)=>(gx a e d).m) some))
def ej(a:List Fld)(b:Fld→Option Bool):PT 1 (List Fld):=cs Tryz.prog 81 [.ref (0,0) 0 0 a.length,.fn (.yield 1) [] []] [(0,0)] [(RB a)] (Ve a b) (fun y=>vI y) fun c=>br (decide (c=((-1):Int))) (lr ZR (ZY) a) (vz (fl a)<|lc (Ad [(0,.ref (0,0) 0 0 a.length),(1,.fn (.yield 1) [] []),(5,vI c)] [(RB a)]) ((dm a b c).m))
def Vd(b:List Fld)(a:Fld→Option Bool):Option (List Fld):=(ej b a).m
theorem ZF1{C:Cx}(co:CO C 1)(b:List Fld)(a:Fld→Option Bool)(f:(rh a) C.no C.l C.H0 C.θ):KL Tryz.prog (AC tl) 42 C (pa [0,0,1,0,1,1,1] (Az Tryz.f82)) [.tmp 4] 1 (gL b) (vD b) ZR (ZY) (Rz b a):=fun(v2,v3,h) _ hm Q c e d=>As co Aa Ae (TS b a v2 v3 h) (Ac [0,1,5,6] Ai) (Ac [0,5] Ai) e hm d fun r g=>⟨fun i=>⟨⟨fun y hy=>f _ y hy,by intro r;kernel_rfl,by intro r y;kernel_rfl⟩,fun j=>⟨id,id⟩⟩,id⟩
theorem ZWc(b:List Fld)(a:Fld→Option Bool):KO Tryz.prog 82 1 [.ref (0,0) 0 0 b.length,.fn (.yield 1) [] []] [⟨0,true,51,16,Ab Ay b⟩] (rh a) (Vd b a) ZR (ZY):=Bv Tryz.func82 Tryz.ntmps82 Aa [.tmp 4] 1 (fun C co e y hm d c=>Aj co Aa Ae 3 (ej b a) (Ac [0,1,5] Ai) nl nH hm c fun r g=>⟨fun y hy=>G8 (ZMV b a) hy co g [(RB b)] [] (AG [(1,r.θ 1)]) (fun m o f=>(fun z0 y i=>BH co g [(RB b)] f (e z0 y i))) (fun H=>⟨fun _=>⟨rfl,AD (Aw _ _) (by kernel_rfl)⟩,by kernel_rfl,trivial⟩),fun l=>⟨id,fun _ hm c=>sq (Aj co Aa Ae 1 (dm b a l) (Ac [0,1,5,6] Ai) nl nH hm c fun r g=>fun _ hm c=>bk 0 (lo (AF (ZF1 co b a e) nH hm c (fun(k,j) hm=>Ax co Aa Ae (gx b k j) hm c fun r g=>fun h c=>lfx (congrArg (fun n=>(.ref (0,0) 0 0 n:AV)) h) c))))⟩⟩) (hB:=fun y=>⟨.inl (Aw _ _),rfl,trivial⟩)
abbrev ZS:List Fld→AV:=fun y=>.ref (0,0) 1 0 y.length
@[reducible] def ZZ:List Fld→List Blk:=fun y=>[⟨1,true,51,16,Ab Ay y⟩]
def eN(a:List Fld):PT 1 (List Fld):=al Ay a false fun b=>br b (vw .sep<|vw (.ads 2 2 51 16)<|mv 2 0 ([]:List Fld)<|lr ZS (ZZ) ([]:List Fld)) (a0 a<|mv 7 0 a<|lr ZS (ZZ) a)
def Vl(a:List Fld):Option (List Fld):=(eN a).m
theorem ZVf(a:List Fld):KO Tryz.prog 83 1 [vL Ay a] [⟨0,false,0,0,[]⟩] (fun _ _ _ _=>True) (Vl a) ZS (ZZ):=Bv Tryz.func83 Tryz.ntmps83 Aa [.tmp 2] 1 (fun C co f y hm c d=>Ax co Aa Ae (eN a) hm d fun r g=>⟨fun e=>⟨id,id⟩,by intro b h;subst h;cases b<;>rfl⟩) (hB:=fun y=>⟨.inl (Aw _ _),rfl,trivial⟩)
abbrev qR:Bool→AV:=fun y=>vB y
@[reducible] def q7(w0:ByteArray):Bool→List Blk:=fun y=>[⟨0,true,9,1,[vS w0]⟩]
def vY(a:Fld)(w0:ByteArray):PT 1 (Bool):=wg<|wg<|lr qR (q7 w0) (!decide (a.union=w0))
def Vj(a:Fld)(w0:ByteArray):Option (Bool):=(vY a w0).m
theorem ZU3(a:Fld)(w0:ByteArray):KO Tryz.prog 84 1 [.agg ((Ay a).map .d),.ptr (0,0) 0 0] [⟨0,true,9,1,[vS w0]⟩] (fun _ _ _ _=>True) (Vj a w0) qR (q7 w0):=Bv Tryz.func84 Tryz.ntmps84 Aa [.tmp 3] 1 (fun C co d y hm b c=>Ax co Aa Ae (vY a w0) hm c fun r g=>id) (hB:=fun y=>⟨.inr (by kernel_rfl),rfl,trivial⟩)
abbrev Ns(a:ByteArray):Af×Blk:=kk 3 9 1 [vS a]
abbrev ZM:List Fld→AV:=fun y=>vL Ay y
def ba(a:List Fld):PT 0 (List Fld):=vz (fr a)<|lr ZM nG a
def bc(a:List Fld):PT 0 (List Fld):=vz (fl a)<|lc (Ad [(4,.ref (1,9) 0 0 a.length)] [kk 9 51 16 (Ab Ay a)]) ((ba a).m)
def cI(b:ByteArray)(a:List Fld):PT 0 (List Fld):=vz (fl a)<|lc (Ad [(9,.ref (1,9) 0 0 a.length),(10,.fn (.func 84) [] [.ptr (1,3) 0 0])] [(Ns b),kk 9 51 16 (Ab Ay a)]) ((Vd a (fun(z0:Fld)=>Vj z0 b)).bind fun c=>(bc c).m)
def dJ(a:Msg)(b:ByteArray):PT 0 (List Fld):=wg<|lc (Ad [pp 3,(8,vL Ay a.fields)] [(Ns b)]) ((Vl a.fields).bind fun c=>(cI b c).m)
def gI(b:Msg)(a:ByteArray):PT 0 (List Fld):=wg<|br (decide (a=(⟨#[]⟩:ByteArray))) (lr ZM nG ([]:List Fld)) (lc (Ad [pp 2,pp 3] [kk 2 45 5 (cD (AU b)),(Ns a)]) ((dJ b a).m))
def Vz(a:Msg)(b:ByteArray):Option (List Fld):=(gI a b).m
theorem ZV2(c:Msg)(a:ByteArray):KC Tryz.prog 50 [.agg ((AU c).map .d),vS a] (Vz c a) ZM:=AE Tryz.func50 Tryz.ntmps50 Aa [.tmp 4] fun C co y hm f b=>Aj co Aa Ae 2 (gI c a) (Ac [2,3] Fh) nl nH hm b fun r g=>⟨id,fun _ hm b=>sq (rg (AM co Aa 2 (dJ c a) (Ac [3,8] [((1,3),false)]) hm b fun r g=>fun _ hm b=>A6 co hm 83 [vL Ay c.fields] [(1,9)] ([((1,9),⟨0,false,0,0,[]⟩)]++[]) (fun z=>.ref (1,9) 1 0 z.length) (fun z=>[((1,9),⟨1,true,51,16,Ab Ay z⟩)]) [] (fun z=>trivial) (trivial) (fun z e r g=>A5 (ZVf c.fields) e co g [((1,9),⟨0,false,0,0,[]⟩)] [] [((1,9),⟨1,true,51,16,Ab Ay z⟩)] (AG []) (fun k i m=>trivial) (fun H=>⟨(fun h=>by cases h),by kernel_rfl,trivial⟩) (fun H=>⟨fun _=>⟨rfl,AD (Aw _ _) (by kernel_rfl)⟩,by kernel_rfl,trivial⟩)) fun d hm=>AM co Aa 1 (cI a d) (Ac [9,10] [((1,3),false),((1,9),true)]) hm b fun r g=>fun _ hm b=>A6 co hm 82 [.ref (1,9) 0 0 d.length,.fn (.func 84) [] [.ptr (1,3) 0 0]] [(1,9),(1,3)] ([kk 9 51 16 (Ab Ay d)]++[(Ns a)]) (fun z=>.ref (1,9) 0 0 z.length) (fun z=>[kk 9 51 16 (Ab Ay z)]) [] (fun z=>trivial) (trivial) (fun z e r g=>A5 (ZWc d (fun(z0:Fld)=>Vj z0 a)) e co g [kk 9 51 16 (Ab Ay d)] [(Ns a)] [kk 9 51 16 (Ab Ay z)] (AG [(1,.fn (.func 84) [] [.ptr (r.κ (1,3)) (r.γ (1,3)+0) 0])]) (fun k i m=>(fun z0 y e=>Lu (ZU3 z0 a) e co g [(Ns a)] [kk 9 51 16 (Ab Ay d)] i (by simp) (fun _=>.top) (fun _ _=>trivial) (fun l H=>⟨fun _=>⟨rfl,by kernel_rfl⟩,by kernel_rfl,trivial⟩))) (fun H=>⟨fun _=>⟨rfl,AD (Aw _ _) (by kernel_rfl)⟩,by kernel_rfl,trivial⟩) (fun H=>⟨fun _=>⟨rfl,AD (Aw _ _) (by kernel_rfl)⟩,by kernel_rfl,trivial⟩)) fun j hm=>AI co Aa (bc j) (Ac [4] [((1,9),true)]) hm b fun r g=>fun _ hm b=>Ax co Aa Ae (ba j) hm b fun r g=>id))⟩
abbrev yH:Bool→AV:=fun y=>vB y
@[reducible] def xZ(w0:Int):Bool→List Blk:=fun y=>[⟨0,true,3,1,[vI w0]⟩]
def s9(a:Slt)(w0:Int):PT 1 (Bool):=wg<|wg<|lr yH (xZ w0) (decide (a.num=w0))
def Vb(a:Slt)(w0:Int):Option (Bool):=(s9 a w0).m
theorem ZSa(a:Slt)(w0:Int):KO Tryz.prog 114 1 [.agg ((Dr a).map .d),.ptr (0,0) 0 0] [⟨0,true,3,1,[vI w0]⟩] (fun _ _ _ _=>True) (Vb a w0) yH (xZ w0):=Bv Tryz.func114 Tryz.ntmps114 Aa [.tmp 3] 1 (fun C co d y hm b c=>Ax co Aa Ae (s9 a w0) hm c fun r g=>id) (hB:=fun y=>⟨.inr (by kernel_rfl),rfl,trivial⟩)
abbrev qS:Int→AV:=fun y=>vI y
def fd(a:List Slt)(b:Int):PT 0 (Int):=cs Tryz.prog 46 [vL Aq a,.fn (.func 114) [] [.ptr (1,3) 1 0]] [(1,3)] [((1,3),⟨1,true,3,1,[vI b]⟩)] (Vn a (fun(z0:Slt)=>Vb z0 b)) (fun y=>vI y) fun c=>lr qS nG c
def zp(a:List Slt)(b:Int):Option (Int):=(fd a b).m
theorem ZVT(b:List Slt)(a:Int):KC Tryz.prog 85 [vL Aq b,vI a] (zp b a) qS:=AE Tryz.func85 Tryz.ntmps85 Aa [.tmp 4] fun C co y hm c d=>Ax co Aa Ae (fd b a) hm d fun r g=>⟨fun y hy=>G8 (ZVp b (fun(z0:Slt)=>Vb z0 a)) hy co g [] [((1,3),⟨1,true,3,1,[vI a]⟩)] (AG [(1,.fn (.func 114) [] [.ptr (r.κ (1,3)) (r.γ (1,3)+1) 0])]) (fun h e i=>(fun z0 y f=>Lu (ZSa z0 a) f co g [((1,3),⟨1,true,3,1,[vI a]⟩)] [] e (by simp) (fun _=>.top) (fun _ _=>trivial) (fun l H=>⟨fun _=>⟨rfl,by kernel_rfl⟩,by kernel_rfl,trivial⟩))) (fun H=>trivial),fun j=>id⟩
abbrev qJ:Bool→AV:=fun y=>vB y
def a5(a:Val)(b:Int):PT 0 (Bool):=wg<|cl (ZVT a.slots b) fun c=>lr qJ nG (decide ((0:Int)≤c))
def ki(a:Val)(b:Int):Option (Bool):=(a5 a b).m
theorem ZVN(a:Val)(b:Int):KC Tryz.prog 52 [.agg ((Ag a).map .d),vI b] (ki a b) qJ:=AE Tryz.func52 Tryz.ntmps52 Aa [.tmp 4] fun C co y hm c d=>Ax co Aa Ae (a5 a b) hm d fun r g=>fun e=>id
abbrev qI:Bool→AV:=fun y=>vB y
@[reducible] def qZ(w0:Fld)(a:Val):Bool→List Blk:=fun y=>[⟨0,true,51,16,(cD (Ay w0))⟩,⟨0,true,33,7,(cD (Ag a))⟩]
def eR(a:Fld)(w0:Fld)(b:Val):PT 2 (Bool):=wg<|wg<|wg<|wg<|AO (!decide (a.num=w0.num)) (ZVN b a.num) fun c=>lr qI (qZ w0 b) ((!decide (a.num=w0.num))&&c)
def PB(a:Fld)(w0:Fld)(b:Val):Option (Bool):=(eR a w0 b).m
theorem ZWb(b:Fld)(w0:Fld)(a:Val):KO Tryz.prog 51 2 [.agg ((Ay b).map .d),.ptr (0,0) 0 0,.ptr (0,1) 0 0] [⟨0,true,51,16,(cD (Ay w0))⟩,⟨0,true,33,7,(cD (Ag a))⟩] (fun _ _ _ _=>True) (PB b w0 a) qI (qZ w0 a):=Bv Tryz.func51 Tryz.ntmps51 Aa [.tmp 4] 2 (fun C co e y hm c d=>Ax co Aa Ae (eR b w0 a) hm d fun r g=>fun f=>id) (hB:=fun y=>⟨.inr (by kernel_rfl),rfl,⟨.inr (by kernel_rfl),rfl,trivial⟩⟩)
abbrev bI(a:Fld):Af×Blk:=((1,4),⟨1,true,51,16,(cD (Ay a))⟩)
abbrev bn(a:Val):Af×Blk:=((1,5),⟨1,true,33,7,(cD (Ag a))⟩)
abbrev qC:Bool→AV:=fun y=>vB y
def gi(d:Msg)(a:Fld)(b:Val):PT 0 (Bool):=wg<|wg<|cl (ZV2 d a.union) fun c=>cs Tryz.prog 49 [vL Ay c,.fn (.func 51) [] [.ptr (1,4) 1 0,.ptr (1,5) 1 0]] [(1,4),(1,5)] [(bI a),(bn b)] (U5 c (fun(z0:Fld)=>PB z0 a b)) (fun y=>vB y) fun e=>lr qC nG e
def kj(a:Msg)(b:Fld)(c:Val):Option (Bool):=(gi a b c).m
theorem ZVk(c:Msg)(a:Fld)(b:Val):KC Tryz.prog 22 [.agg ((AU c).map .d),.agg ((Ay a).map .d),.agg ((Ag b).map .d)] (kj c a b) qC:=AE Tryz.func22 Tryz.ntmps22 Aa [.tmp 6] fun C co y hm d e=>Ax co Aa Ae (gi c a b) hm e fun r g=>fun i=>⟨fun y hy=>G8 (ZVz i (fun(z0:Fld)=>PB z0 a b)) hy co g [] [(bI a),(bn b)] (AG [(1,.fn (.func 51) [] [.ptr (r.κ (1,4)) (r.γ (1,4)+1) 0,.ptr (r.κ (1,5)) (r.γ (1,5)+1) 0])]) (fun j f k=>(fun z0 y h=>Lu (ZWb z0 a b) h co g [(bI a),(bn b)] [] f (by simp) (fun _=>.top) (fun _ _=>trivial) (fun l H=>⟨fun _=>⟨rfl,by kernel_rfl⟩,by kernel_rfl,⟨fun _=>⟨rfl,by kernel_rfl⟩,by kernel_rfl,trivial⟩⟩))) (fun H=>trivial),fun m=>id⟩
abbrev qA:Bool→AV:=fun y=>vB y
@[reducible] def qW(w0:Msg)(a:Val):Bool→List Blk:=fun y=>[⟨0,true,45,5,(cD (AU w0))⟩,⟨0,true,33,7,(cD (Ag a))⟩]
def bG(b:Slt)(w0:Msg)(a:Val):PT 2 (Bool):=wg<|wg<|cl (yK w0 b.num) fun c=>wg<|wg<|wg<|wg<|cl (ZVk w0 c.1 a) fun d=>lr qA (qW w0 a) d
def PC(a:Slt)(w0:Msg)(b:Val):Option (Bool):=(bG a w0 b).m
theorem ZVB(b:Slt)(w0:Msg)(a:Val):KO Tryz.prog 20 2 [.agg ((Dr b).map .d),.ptr (0,0) 0 0,.ptr (0,1) 0 0] [⟨0,true,45,5,(cD (AU w0))⟩,⟨0,true,33,7,(cD (Ag a))⟩] (fun _ _ _ _=>True) (PC b w0 a) qA (qW w0 a):=Bv Tryz.func20 Tryz.ntmps20 Aa [.tmp 4] 2 (fun C co e y hm c d=>Ax co Aa Ae (bG b w0 a) hm d fun r g=>fun f=>fun h=>id) (hB:=fun y=>⟨.inr (by kernel_rfl),rfl,⟨.inr (by kernel_rfl),rfl,trivial⟩⟩)
abbrev qK:Bool→AV:=fun y=>vB y
@[reducible] def q5(w0:Int):Bool→List Blk:=fun y=>[⟨0,true,3,1,[vI w0]⟩]
def v8(a:Slt)(w0:Int):PT 1 (Bool):=wg<|wg<|lr qK (q5 w0) (decide (a.num=w0))
def Vo(a:Slt)(w0:Int):Option (Bool):=(v8 a w0).m
theorem ZWi(a:Slt)(w0:Int):KO Tryz.prog 53 1 [.agg ((Dr a).map .d),.ptr (0,0) 0 0] [⟨0,true,3,1,[vI w0]⟩] (fun _ _ _ _=>True) (Vo a w0) qK (q5 w0):=Bv Tryz.func53 Tryz.ntmps53 Aa [.tmp 3] 1 (fun C co d y hm b c=>Ax co Aa Ae (v8 a w0) hm c fun r g=>id) (hB:=fun y=>⟨.inr (by kernel_rfl),rfl,trivial⟩)
def ZNa:Go.Shelf.Ren:=⟨fun|4=>86|n=>n,fun|22=>28|25=>33|n=>n,fun n=>n⟩
theorem ZJD:Go.Proofs.Lays8.n4 Tryz.prog ZNa:={
 mixed:=by kernel_rfl,
 f4:=⟨Tryz.f86.name,by decide+kernel,Tryz.func86.trans (congrArg some (by kernel_rfl))⟩,
 t0:=Tryz.underlying0,
 a0:=Tryz.isAgg0,
 z0:=Tryz.sizeOf0,
 v0:=Tryz.zeroValue0,
 t3:=Tryz.underlying3,
 a3:=Tryz.isAgg3,
 z3:=Tryz.sizeOf3,
 v3:=Tryz.zeroValue3,
 t4:=Tryz.underlying4,
 a4:=Tryz.isAgg4,
 z4:=Tryz.sizeOf4,
 v4:=Tryz.zeroValue4,
 t9:=Tryz.underlying9,
 a9:=Tryz.isAgg9,
 z9:=Tryz.sizeOf9,
 v9:=Tryz.zeroValue9,
 t20:=Tryz.underlying20,
 a20:=Tryz.isAgg20,
 z20:=Tryz.sizeOf20,
 v20:=Tryz.zeroValue20,
 t22:=Tryz.underlying28,
 a22:=Tryz.isAgg28,
 z22:=Tryz.sizeOf28,
 v22:=Tryz.zeroValue28 }
abbrev E86:List Val→AV:=fun y=>.ref (0,0) 1 0 y.length
@[reducible] def G86:List Val→List Blk:=fun y=>[⟨1,true,33,7,Ab A7 y⟩]
def kJ(n:Nat):Option (List Val):=if n<549755813888 then some []else none
theorem ZVF(n:Nat):KO Tryz.prog 86 1 [.e0,vN n] [⟨0,false,0,0,[]⟩] (fun _ _ _ _=>True) (kJ n) E86 G86:=⟨fun l H ks k θ b a j i _ y hy=>by
 obtain⟨d,hy⟩:=BN hy
 cases hy
 match ks,b with
 |[m],_=>
  have hi:∃i0 z,(Tryz.prog).info? 33=some i0∧i0.zero=some z∧i0.size=7∧z.cells.size=i0.size∧i0.bytes≤256:=⟨_,_,rfl,rfl,rfl,by decide+kernel,by decide+kernel⟩
  obtain⟨i0,z,e,f,c,g,h⟩:=hi
  exact kD ZJD i0 z e f (by rw[c];decide) g h ⟨_,Az Tryz.f86,Tryz.func86,by kernel_rfl,by kernel_rfl⟩ a.1 i.1.1 n d (by rw[c];exact⟨rfl,rfl⟩)⟩
abbrev F2:List (Af×Bool):=[((1,24),true)]
abbrev Sv:List Val→AV:=fun y=>.ref (0,0) 1 0 y.length
@[reducible] def SH:List Val→List Blk:=fun y=>[⟨1,true,33,7,Ab A7 y⟩]
def wF(a:List (List Val)):Nat×Nat→St:=fun(b,v2)=>Ad [(0,vL D8 a),(3,vN b),(9,vL D8 a),(10,vN a.length),(11,vN v2)] []
def wC(a:List (List Val)):Nat→Nat×St:=fun v4=>(0,Ad [(0,vL D8 a),(3,vN v4)] [])
def RK(b:List (List Val))(c:Nat)(v2:Nat):PT 1 (Lv (Nat×Nat) (Nat) (List Val)):=br (decide ((v2:Int)<(b.length:Int))) (ix b v2 fun a=>vz (An a)<|vs (wa c a.length)<|br (decide (((c+a.length:Nat):Int)<(0:Int))) (dd) (vs (wa v2 1)<|ln (wF b) (c+a.length,v2+1))) (Ah (wC b) c)
def In(a:List (List Val)):Nat×Nat→Option (Lv (Nat×Nat) (Nat) (List Val)):=fun(b,v2)=>(RK a b v2).m
def xL(a:List (List Val)):List Val×Nat→St:=fun(b,c)=>Ad [(6,.ref (1,24) 0 0 b.length),(25,vL D8 a),(26,vN a.length),(27,vN c)] [kk 24 33 7 (Ab A7 b)]
def vE:List Val→Nat×St:=fun a=>(2,Ad [(6,.ref (1,24) 0 0 a.length)] [kk 24 33 7 (Ab A7 a)])
def RE(d:List (List Val))(a:List Val)(b:Nat):PT 1 (Lv (List Val×Nat) (List Val) (List Val)):=br (decide ((b:Int)<(d.length:Int))) (ix d b fun c=>aq a c<|vs (wa b 1)<|vz (fl (a++c))<|ln (xL d) (a++c,b+1)) (vz (fl a)<|Ah (vE) a)
def Ie(a:List (List Val)):List Val×Nat→Option (Lv (List Val×Nat) (List Val) (List Val)):=fun(b,c)=>(RE a b c).m
def e9(a:List Val):PT 1 (List Val):=vw .sep<|mv 24 0 a<|lr Sv (SH) a
def b0(a:List (List Val))(b:List Val):PT 1 (List Val):=vz (An a)<|vz (fl b)<|lc (Ad [(6,.ref (1,24) 0 0 b.length),(25,vL D8 a),(26,vN a.length),(27,vI 0)] [kk 24 33 7 (Ab A7 b)]) ((Ak (Ie a) Am (b,0)).bind (Sum.elim (fun c=>(e9 c).m) some))
def gM(b:List (List Val))(a:List Val):PT 1 (List Val):=vz (fl a)<|lc (Ad [(0,vL D8 b),(6,.ref (1,24) 0 0 a.length)] [kk 24 33 7 (Ab A7 a)]) ((b0 b a).m)
def bK(a:List (List Val))(v4:Nat):PT 1 (List Val):=lc (Ad [(0,vL D8 a),(23,vN v4)] []) ((kJ v4).bind fun b=>(gM a b).m)
def bx(a:List (List Val)):PT 1 (List Val):=vz (An a)<|lc (Ad [(0,vL D8 a),(3,vI 0),(9,vL D8 a),(10,vN a.length),(11,vI 0)] []) ((Ak (In a) Am (0,0)).bind (Sum.elim (fun v4=>(bK a v4).m) some))
def fB(a:List (List Val)):PT 1 (List Val):=lc (Ad [(0,vL D8 a),(3,vI 0)] []) ((bx a).m)
def Vg(a:List (List Val)):Option (List Val):=(fB a).m
theorem ZEt{C:Cx}(co:CO C 1)(a:List (List Val)):KL Tryz.prog (AC tl) 36 C (pa [0,0,1,0,1,1] (Az Tryz.f54)) [.tmp 2] 1 (wF a) (wC a) Sv (SH) (In a):=fun(e,v2) _ hm Q b d c=>As co Aa Ae (RK a e v2) (AK [0,3,9,10,11]) (AK [0,3]) d hm c fun r g=>⟨fun f=>⟨trivial,id⟩,id⟩
theorem ZKX{C:Cx}(co:CO C 1)(a:List (List Val)):KL Tryz.prog (AC tl) 36 C (pa [0,0,1,0,1,1,1,1] (Az Tryz.f54)) [.tmp 2] 1 (xL a) (vE) Sv (SH) (Ie a):=fun(e,f) _ hm Q b d c=>As co Aa Ae (RE a e f) (Ac [6,25,26,27] F2) (Ac [6] F2) d hm c fun r g=>⟨fun h=>id,id⟩
theorem ZV7(b:List (List Val)):KO Tryz.prog 54 1 [vL D8 b] [⟨0,false,0,0,[]⟩] (fun _ _ _ _=>True) (Vg b) Sv (SH):=Bv Tryz.func54 Tryz.ntmps54 Aa [.tmp 2] 1 (fun C co j y hm c a=>Aj co Aa Ae 2 (fB b) (AK [0,3]) nl nH hm a fun r g=>fun _ hm a=>sq (Aj co Aa Ae 1 (bx b) (AK [0,3,9,10,11]) nl nH hm a fun r g=>fun _ hm a=>bk 0 (lo (AF (ZEt co b) nH hm a (fun v4 hm=>sq (rg (AM co Aa 1 (bK b v4) (AK [0,23]) hm a fun r g=>fun _ hm a=>A6 co hm 86 [.e0,vN v4] [(1,24)] ([((1,24),⟨0,false,0,0,[]⟩)]++[]) (fun z=>.ref (1,24) 1 0 z.length) (fun z=>[((1,24),⟨1,true,33,7,Ab A7 z⟩)]) [] (fun z=>trivial) (trivial) (fun z e r g=>A5 (ZVF v4) e co g [((1,24),⟨0,false,0,0,[]⟩)] [] [((1,24),⟨1,true,33,7,Ab A7 z⟩)] (AG []) (fun i k l=>trivial) (fun H=>⟨(fun h=>by cases h),by kernel_rfl,trivial⟩) (fun H=>⟨fun _=>⟨rfl,AD (Aw _ _) (by kernel_rfl)⟩,by kernel_rfl,trivial⟩)) fun d hm=>AI co Aa (gM b d) (Ac [0,6] F2) hm a fun r g=>fun _ hm a=>sq (Aj co Aa Ae 1 (b0 b d) (Ac [6,25,26,27] F2) nl nH hm a fun r g=>fun _ hm a=>bk 2 (lo (AF (ZKX co b) nH hm a (fun f hm=>Ax co Aa Ae (e9 f) hm a fun r g=>id))))))))))) (hB:=fun y=>⟨.inl (Aw _ _),rfl,trivial⟩)
abbrev ZT:List Pr→AV:=fun y=>.ref (0,0) 1 0 y.length
@[reducible] def Z0:List Pr→List Blk:=fun y=>[⟨1,true,63,14,Ab Ao y⟩]
def bD(a:List Pr):PT 1 (List Pr):=al Ao a false fun b=>br b (vw .sep<|vw (.ads 2 2 63 14)<|mv 2 0 ([]:List Pr)<|lr ZT (Z0) ([]:List Pr)) (a0 a<|mv 7 0 a<|lr ZT (Z0) a)
def Vf(a:List Pr):Option (List Pr):=(bD a).m
theorem ZVx(a:List Pr):KO Tryz.prog 87 1 [vL Ao a] [⟨0,false,0,0,[]⟩] (fun _ _ _ _=>True) (Vf a) ZT (Z0):=Bv Tryz.func87 Tryz.ntmps87 Aa [.tmp 2] 1 (fun C co f y hm c d=>Ax co Aa Ae (bD a) hm d fun r g=>⟨fun e=>⟨id,id⟩,by intro b h;subst h;cases b<;>rfl⟩) (hB:=fun y=>⟨.inl (Aw _ _),rfl,trivial⟩)
section
variable {α:Type} [Rw α] [Tid α]
abbrev GX:List α→AV:=fun y=>.tup []
@[reducible] def GY:List α→List Blk:=fun y=>[⟨0,true,.t (Tid.t α),Rw.s α,Ab Rw.e y⟩]
def HC(a:α→α→Option Int):Cl:=fun no l H θ=>(∀(z0:α) (b:α) y,a z0 b=some y→CM Tryz.prog l no H (θ 3) [.agg ((Rw.f z0).map .d),.agg ((Rw.f b).map .d)] (vI y))
def Zg(a:List α)(b:Int)(c:Int):Int×List α→St:=fun(e,d)=>Ad [(0,.ref (0,0) 0 0 a.length),(1,vI b),(2,vI c),(3,.fn (.yield 3) [] []),(8,vI e)] [((0,0),⟨0,true,.t (Tid.t α),Rw.s α,Ab Rw.e d⟩)]
def X9:List α→Nat×St:=fun a=>(0,Ad [] [((0,0),⟨0,true,.t (Tid.t α),Rw.s α,Ab Rw.e a⟩)])
def XM(a:List α)(b:Int)(c:Int)(e:Int):Int×List α→St:=fun(v3,d)=>Ad [(0,.ref (0,0) 0 0 a.length),(1,vI b),(2,vI c),(3,.fn (.yield 3) [] []),(8,vI e),(9,vI v3)] [((0,0),⟨0,true,.t (Tid.t α),Rw.s α,Ab Rw.e d⟩)]
def XF(b:List α)(c:Int)(d:Int)(e:Int):List α→Nat×St:=fun a=>(2,Ad [(0,.ref (0,0) 0 0 b.length),(1,vI c),(2,vI d),(3,.fn (.yield 3) [] []),(8,vI e)] [((0,0),⟨0,true,.t (Tid.t α),Rw.s α,Ab Rw.e a⟩)])
def JW(c:List α)(b:Int)(i:Int)(f:α→α→Option Int)(j:Int)(v3:Int)(a:List α):PT 1 (Lv (Int×List α) (List α) (List α)):=vg (decide (b<v3)) (AH v3 c.length (Rw.s α))<|Fl (decide (b<v3)) a v3.toNat fun g=>vg (decide (b<v3)) (wi (v3-1))<|vg (decide (b<v3)) (AH (v3-1) c.length (Rw.s α))<|Fl (decide (b<v3)) a (v3-1).toNat fun h=>Hw (decide (b<v3)) Tryz.prog 3 [.agg ((Rw.f g).map .d),.agg ((Rw.f h).map .d)] (f g h) (fun y=>vI y) fun k=>br (decide (b<v3)&&decide (k<(0:Int))) (vs (wi (v3-1))<|vs (wi (v3-1))<|vs (AH (v3-1) c.length (Rw.s α))<|ca a (v3-1).toNat fun d=>vs (AH v3 c.length (Rw.s α))<|ca a v3.toNat fun e=>vs (AH v3 c.length (Rw.s α))<|vs (st a v3.toNat d)<|BW 0 ((Rw.f (d:α)).map .d) (fun _=>Hf _)<|vs (AH (v3-1) c.length (Rw.s α))<|vs (st (a.set v3.toNat d) (v3-1).toNat e)<|BW 0 ((Rw.f (e:α)).map .d) (fun _=>Hf _)<|vs (wi (v3-1))<|vz (fl ((a.set v3.toNat d).set (v3-1).toNat e))<|ln (XM c b i j) ((v3-1),(a.set v3.toNat d).set (v3-1).toNat e)) (vz (fl a)<|Ah (XF c b i j) a)
def Ff(b:List α)(c:Int)(d:Int)(a:α→α→Option Int)(f:Int):Int×List α→Option (Lv (Int×List α) (List α) (List α)):=fun(v3,e)=>(JW b c d a f v3 e).m
def Nr(c:List α)(d:Int)(e:Int)(b:Int)(a:List α):PT 1 (Lv (Int×List α) (List α) (List α)):=vs (wi (b+1))<|vz (fl a)<|ln (Zg c d e) ((b+1),a)
def NU(b:List α)(c:Int)(d:Int)(e:α→α→Option Int)(a:Int)(g:List α):PT 1 (Lv (Int×List α) (List α) (List α)):=vz (fl g)<|lc (Ad [(0,.ref (0,0) 0 0 b.length),(1,vI c),(2,vI d),(3,.fn (.yield 3) [] []),(8,vI a),(9,vI a)] [((0,0),⟨0,true,.t (Tid.t α),Rw.s α,Ab Rw.e g⟩)]) ((Ak (Ff b c d e a) Am (a,g)).bind (Sum.elim (fun f=>(Nr b c d a f).m) (fun z=>some (.rt z))))
def NI(e:List α)(f:Int)(b:Int)(c:α→α→Option Int)(d:Int)(a:List α):PT 1 (Lv (Int×List α) (List α) (List α)):=br (decide (d<b)) (vz (fl a)<|lc (Ad [(0,.ref (0,0) 0 0 e.length),(1,vI f),(2,vI b),(3,.fn (.yield 3) [] []),(8,vI d)] [((0,0),⟨0,true,.t (Tid.t α),Rw.s α,Ab Rw.e a⟩)]) ((NU e f b c d a).m)) (vz (fl a)<|Ah (X9) a)
def Ii(b:List α)(c:Int)(d:Int)(a:α→α→Option Int):Int×List α→Option (Lv (Int×List α) (List α) (List α)):=fun(f,e)=>(NI b c d a f e).m
def R9(a:List α):PT 1 (List α):=lr GX (GY) a
def RM(a:List α)(b:Int)(e:Int)(c:α→α→Option Int):PT 1 (List α):=vs (wi (b+1))<|vz (fl a)<|lc (Ad [(0,.ref (0,0) 0 0 a.length),(1,vI b),(2,vI e),(3,.fn (.yield 3) [] []),(8,vI (b+1))] [((0,0),⟨0,true,.t (Tid.t α),Rw.s α,Ab Rw.e a⟩)]) ((Ak (Ii a b e c) Am ((b+1),a)).bind (Sum.elim (fun d=>(R9 d).m) some))
def Jv(b:List α)(c:Int)(d:Int)(a:α→α→Option Int):Option (List α):=(RM b c d a).m
end
theorem Zze{C:Cx}(co:CO C 1)(b:List Pr)(c:Int)(d:Int)(a:Pr→Pr→Option Int)(e:Int)(j:(HC a) C.no C.l C.H0 C.θ):KL Tryz.prog (AC tl) 53 C (pa [0,0,1,0,0,1,0,0,1] (Az Tryz.f146)) [] 1 (XM b c d e) (XF b c d e) GX (GY) (Ff b c d a e):=fun(v3,k) _ hm Q f i h=>As co Aa Ae (JW b c d a e v3 k) (Ac [0,1,2,3,8,9] Ai) (Ac [0,1,2,3,8] Ai) i hm h fun r g=>fun l=>fun m=>⟨⟨fun y hy=>j _ _ y hy,by intro r;kernel_rfl,by intro r y;kernel_rfl⟩,fun p=>⟨fun n=>fun o=>id,id⟩⟩
theorem Zza{C:Cx}(co:CO C 1)(c:List Pr)(d:Int)(e:Int)(a:Pr→Pr→Option Int)(l:(HC a) C.no C.l C.H0 C.θ):KL Tryz.prog (AC tl) 53 C (pa [0,0,1] (Az Tryz.f146)) [] 1 (Zg c d e) (X9) GX (GY) (Ii c d e a):=fun(h,k) _ hm Q j f b=>Aj co Aa Ae 1 (NI c d e a h k) (Ac [0,1,2,3,8] Ai) (Ac [] Ai) f hm b fun r g=>⟨fun _ hm b=>sq (bk 1 (Aj co Aa Ae 1 (NU c d e a h k) (Ac [0,1,2,3,8,9] Ai) nl f hm b fun r g=>fun _ hm b=>bk 2 (lo (Ek (Zze co c d e a h l) f hm b (fun i hm=>As co Aa Ae (Nr c d e h i) (Ac [0,1,2,3,8] Ai) nl f hm b fun r g=>id))))),id⟩
theorem vt(b:List Pr)(d:Int)(e:Int)(a:Pr→Pr→Option Int):KO Tryz.prog 146 1 [.ref (0,0) 0 0 b.length,vI d,vI e,.fn (.yield 3) [] []] [⟨0,true,63,14,Ab Ao b⟩] (HC a) (Jv b d e a) GX (GY):=Bv Tryz.func146 Tryz.ntmps146 Aa [] 1 (fun C co i y hm h c=>Aj co Aa Ae 1 (RM b d e a) (Ac [0,1,2,3,8] Ai) nl nH hm c fun r g=>fun _ hm c=>bk 0 (lo (AF (Zza co b d e a i) nH hm c (fun f hm=>B3 (R9 f) co hm c (fun r g=>id) r g)))) (hB:=fun y=>⟨.inl (Aw _ _),rfl,trivial⟩)
section
variable {α:Type} [Rw α] [Tid α]
abbrev KN:List α→AV:=fun y=>.tup []
@[reducible] def Ku:List α→List Blk:=fun y=>[⟨0,true,.t (Tid.t α),Rw.s α,Ab Rw.e y⟩]
def Wq(a:List α)(b:Int)(c:Int)(d:Int):Nat×List α→St:=fun(f,e)=>Ad [(0,.ref (0,0) 0 0 a.length),(1,vI b),(2,vI c),(3,vI d),(10,vN f)] [((0,0),⟨0,true,.t (Tid.t α),Rw.s α,Ab Rw.e e⟩)]
def WC:List α→Nat×St:=fun a=>(0,Ad [] [((0,0),⟨0,true,.t (Tid.t α),Rw.s α,Ab Rw.e a⟩)])
def Nb(f:List α)(b:Int)(c:Int)(h:Int)(a:Nat)(d:List α):PT 1 (Lv (Nat×List α) (List α) (List α)):=br (decide ((a:Int)<h)) (vs (wi (b+(a:Int)))<|vs (wi (c+(a:Int)))<|vs (wi (c+(a:Int)))<|vs (AH (c+(a:Int)) f.length (Rw.s α))<|ca d (c+(a:Int)).toNat fun e=>vs (wi (b+(a:Int)))<|vs (AH (b+(a:Int)) f.length (Rw.s α))<|ca d (b+(a:Int)).toNat fun g=>vs (AH (b+(a:Int)) f.length (Rw.s α))<|vs (st d (b+(a:Int)).toNat e)<|BW 0 ((Rw.f (e:α)).map .d) (fun _=>Hf _)<|vs (AH (c+(a:Int)) f.length (Rw.s α))<|vs (st (d.set (b+(a:Int)).toNat e) (c+(a:Int)).toNat g)<|BW 0 ((Rw.f (g:α)).map .d) (fun _=>Hf _)<|vs (wa a 1)<|vz (fl ((d.set (b+(a:Int)).toNat e).set (c+(a:Int)).toNat g))<|ln (Wq f b c h) (a+1,(d.set (b+(a:Int)).toNat e).set (c+(a:Int)).toNat g)) (vz (fl d)<|Ah (WC) d)
def JG(a:List α)(b:Int)(c:Int)(d:Int):Nat×List α→Option (Lv (Nat×List α) (List α) (List α)):=fun(f,e)=>(Nb a b c d f e).m
def Re(a:List α):PT 1 (List α):=lr KN (Ku) a
def QK(a:List α)(b:Int)(c:Int)(d:Int):PT 1 (List α):=vz (fl a)<|lc (Ad [(0,.ref (0,0) 0 0 a.length),(1,vI b),(2,vI c),(3,vI d),(10,vI 0)] [((0,0),⟨0,true,.t (Tid.t α),Rw.s α,Ab Rw.e a⟩)]) ((Ak (JG a b c d) Am (0,a)).bind (Sum.elim (fun e=>(Re e).m) some))
def HT(a:List α)(b:Int)(c:Int)(d:Int):Option (List α):=(QK a b c d).m
end
theorem Zyo{C:Cx}(co:CO C 1)(a:List Pr)(b:Int)(c:Int)(d:Int):KL Tryz.prog (AC tl) 38 C (pa [0,0,1] (Az Tryz.f167)) [] 1 (Wq a b c d) (WC) KN (Ku) (JG a b c d):=fun(j,i) _ hm Q e h f=>As co Aa Ae (Nb a b c d j i) (Ac [0,1,2,3,10] Ai) (Ac [] Ai) h hm f fun r g=>⟨fun k=>fun l=>id,id⟩
theorem eW(a:List Pr)(c:Int)(d:Int)(e:Int):KO Tryz.prog 167 1 [.ref (0,0) 0 0 a.length,vI c,vI d,vI e,.fn (.yield 4) [] []] [⟨0,true,63,14,Ab Ao a⟩] (fun _ _ _ _=>True) (HT a c d e) KN (Ku):=Bv Tryz.func167 Tryz.ntmps167 Aa [] 1 (fun C co i y hm f b=>Aj co Aa Ae 1 (QK a c d e) (Ac [0,1,2,3,10] Ai) nl nH hm b fun r g=>fun _ hm b=>bk 0 (lo (AF (Zyo co a c d e) nH hm b (fun h hm=>B3 (Re h) co hm b (fun r g=>id) r g)))) (hB:=fun y=>⟨.inl (Aw _ _),rfl,trivial⟩)
section
variable {α:Type} [Rw α] [Tid α]
abbrev Kz:List α→AV:=fun y=>.tup []
@[reducible] def KV:List α→List Blk:=fun y=>[⟨0,true,.t (Tid.t α),Rw.s α,Ab Rw.e y⟩]
def Rj(a:List α)(b:Int):Int×Int×List α→St:=fun(d,v2,c)=>Ad [(0,.ref (0,0) 0 0 a.length),(2,vI b),(4,.fn (.yield 4) [] []),(10,vI d),(11,vI v2)] [((0,0),⟨0,true,.t (Tid.t α),Rw.s α,Ab Rw.e c⟩)]
def Xn(a:List α)(b:Int):Int×List α→Nat×St:=fun(d,c)=>(0,Ad [(0,.ref (0,0) 0 0 a.length),(2,vI b),(4,.fn (.yield 4) [] []),(10,vI d)] [((0,0),⟨0,true,.t (Tid.t α),Rw.s α,Ab Rw.e c⟩)])
def Lk(c:List α)(d:Int)(a:Int)(v2:Int)(b:List α):PT 1 (Lv (Int×Int×List α) (Int×List α) (List α)):=vs (wi (a-v2))<|vz (fl b)<|ln (Rj c d) ((a-v2),v2,b)
def Le(b:List α)(c:Int)(d:Int)(v2:Int)(a:List α):PT 1 (Lv (Int×Int×List α) (Int×List α) (List α)):=vz (fl a)<|lc (Ad [(0,.ref (0,0) 0 0 b.length),(2,vI c),(4,.fn (.yield 4) [] []),(10,vI d),(11,vI v2)] [((0,0),⟨0,true,.t (Tid.t α),Rw.s α,Ab Rw.e a⟩)]) ((Lk b c d v2 a).m)
def Ld(c:List α)(a:Int)(b:Int)(v2:Int)(d:List α):PT 1 (Lv (Int×Int×List α) (Int×List α) (List α)):=vs (wi (a-b))<|vz (fl d)<|lc (Ad [(0,.ref (0,0) 0 0 c.length),(2,vI a),(4,.fn (.yield 4) [] []),(10,vI b),(11,vI v2),(24,.ref (0,0) 0 0 c.length),(27,vI (a-b)),(28,vI a),(29,vI v2),(30,.fn (.yield 4) [] [])] [((0,0),⟨0,true,.t (Tid.t α),Rw.s α,Ab Rw.e d⟩)]) (if c.length=d.length then(HT d (a-b) a v2).bind fun e=>(Le c a b v2 e).m else none)
def Ln(c:List α)(d:Int)(a:Int)(v2:Int)(b:List α):PT 1 (Lv (Int×Int×List α) (Int×List α) (List α)):=vs (wi (v2-a))<|vz (fl b)<|ln (Rj c d) (a,(v2-a),b)
def Lq(b:List α)(c:Int)(d:Int)(v2:Int)(a:List α):PT 1 (Lv (Int×Int×List α) (Int×List α) (List α)):=vz (fl a)<|lc (Ad [(0,.ref (0,0) 0 0 b.length),(2,vI c),(4,.fn (.yield 4) [] []),(10,vI d),(11,vI v2)] [((0,0),⟨0,true,.t (Tid.t α),Rw.s α,Ab Rw.e a⟩)]) ((Ln b c d v2 a).m)
def Lg(c:List α)(b:Int)(a:Int)(v2:Int)(d:List α):PT 1 (Lv (Int×Int×List α) (Int×List α) (List α)):=vs (wi (b-a))<|vs (wi (b+v2))<|vs (wi ((b+v2)-a))<|vz (fl d)<|lc (Ad [(0,.ref (0,0) 0 0 c.length),(2,vI b),(4,.fn (.yield 4) [] []),(10,vI a),(11,vI v2),(35,.ref (0,0) 0 0 c.length),(38,vI (b-a)),(43,vI ((b+v2)-a)),(44,vI a),(45,.fn (.yield 4) [] [])] [((0,0),⟨0,true,.t (Tid.t α),Rw.s α,Ab Rw.e d⟩)]) (if c.length=d.length then(HT d (b-a) ((b+v2)-a) a).bind fun e=>(Lq c b a v2 e).m else none)
def Li(c:List α)(d:Int)(a:Int)(v2:Int)(b:List α):PT 1 (Lv (Int×Int×List α) (Int×List α) (List α)):=vz (fl b)<|lc (Ad [(0,.ref (0,0) 0 0 c.length),(2,vI d),(4,.fn (.yield 4) [] []),(10,vI a),(11,vI v2),(23,vB (decide (v2<a)))] [((0,0),⟨0,true,.t (Tid.t α),Rw.s α,Ab Rw.e b⟩)]) (if decide (v2<a)=true then(Ld c d a v2 b).m else(Lg c d a v2 b).m)
def Ll(c:List α)(d:Int)(b:Int)(v2:Int)(a:List α):PT 1 (Lv (Int×Int×List α) (Int×List α) (List α)):=br (!decide (b=v2)) (vz (fl a)<|lc (Ad [(0,.ref (0,0) 0 0 c.length),(2,vI d),(4,.fn (.yield 4) [] []),(10,vI b),(11,vI v2)] [((0,0),⟨0,true,.t (Tid.t α),Rw.s α,Ab Rw.e a⟩)]) ((Li c d b v2 a).m)) (vz (fl a)<|Ah (Xn c d) (b,a))
def Gx(a:List α)(b:Int):Int×Int×List α→Option (Lv (Int×Int×List α) (Int×List α) (List α)):=fun(d,v2,c)=>(Ll a b d v2 c).m
def Q0(a:List α):PT 1 (List α):=lr Kz (KV) a
def Qc(a:List α):PT 1 (List α):=vz (fl a)<|lc (Ad [] [((0,0),⟨0,true,.t (Tid.t α),Rw.s α,Ab Rw.e a⟩)]) ((Q0 a).m)
def P9(d:List α)(a:Int)(b:Int)(c:List α):PT 1 (List α):=vs (wi (a-b))<|vz (fl c)<|lc (Ad [(50,.ref (0,0) 0 0 d.length),(53,vI (a-b)),(54,vI a),(55,vI b),(56,.fn (.yield 4) [] [])] [((0,0),⟨0,true,.t (Tid.t α),Rw.s α,Ab Rw.e c⟩)]) (if d.length=c.length then(HT c (a-b) a b).bind fun e=>(Qc e).m else none)
def P0(b:List α)(c:Int)(a:Int)(d:Int):PT 1 (List α):=vs (wi (a-c))<|vs (wi (d-a))<|vz (fl b)<|lc (Ad [(0,.ref (0,0) 0 0 b.length),(2,vI a),(4,.fn (.yield 4) [] []),(10,vI (a-c)),(11,vI (d-a))] [((0,0),⟨0,true,.t (Tid.t α),Rw.s α,Ab Rw.e b⟩)]) ((Ak (Gx b a) Am ((a-c),(d-a),b)).bind (Sum.elim (fun(f,e)=>(P9 b a f e).m) some))
def K3(a:List α)(b:Int)(c:Int)(d:Int):Option (List α):=(P0 a b c d).m
end
theorem ZA4{C:Cx}(co:CO C 1)(d:List Pr)(a:Int):KL Tryz.prog (AC tl) 58 C (pa [0,0,0,1,1] (Az Tryz.f161)) [] 1 (Rj d a) (Xn d a) Kz (KV) (Gx d a):=fun(b,v2,e) _ hm Q i f c=>Aj co Aa Ae 1 (Ll d a b v2 e) (Ac [0,2,4,10,11] Ai) (Ac [0,2,4,10] Ai) f hm c fun r g=>⟨fun _ hm c=>bk 1 (Aj co Aa Ae 1 (Li d a b v2 e) (Ac [0,2,4,10,11,23] Ai) nl f hm c fun r g=>fun _ hm c=>cd (decide (v2<b)) hm (fun hm=>sq (rg (AM co Aa 7 (Ld d a b v2 e) (Ac [0,2,4,10,11,24,27,28,29,30] Ai) hm c fun r g=>fun _ hm c=>BT hm fun heq hm=>A6 co hm 167 [.ref (0,0) 0 0 d.length,vI (a-b),vI a,vI v2,.fn (.yield 4) [] []] [(0,0)] ([((0,0),⟨0,true,63,14,Ab Ao e⟩)]++[]) (fun z=>.tup []) (fun z=>[((0,0),⟨0,true,63,14,Ab Ao z⟩)]) [] (fun z=>⟨co.W 0 (by decide),trivial⟩) (trivial) (fun z h r g=>A5 (eW e (a-b) a v2) h co g [((0,0),⟨0,true,63,14,Ab Ao e⟩)] [] [((0,0),⟨0,true,63,14,Ab Ao z⟩)] (AG [(4,r.θ 4)]) (fun l m n=>trivial) (fun H=>⟨fun _=>⟨rfl,AD (Aw _ _) (by kernel_rfl)⟩,by kernel_rfl,trivial⟩) (fun H=>⟨fun _=>⟨rfl,AD (Aw _ _) (by kernel_rfl)⟩,by kernel_rfl,trivial⟩) (hx:=by intro H;rw[heq];kernel_rfl)) fun j hm=>AI co Aa (Le d a b v2 j) (Ac [0,2,4,10,11] Ai) hm c fun r g=>fun _ hm c=>As co Aa Ae (Lk d a b v2 j) (Ac [0,2,4,10,11] Ai) nl f hm c fun r g=>id))) (fun hm=>sq (rg (AM co Aa 11 (Lg d a b v2 e) (Ac [0,2,4,10,11,35,38,43,44,45] Ai) hm c fun r g=>fun _ hm c=>BT hm fun heq hm=>A6 co hm 167 [.ref (0,0) 0 0 d.length,vI (a-b),vI ((a+v2)-b),vI b,.fn (.yield 4) [] []] [(0,0)] ([((0,0),⟨0,true,63,14,Ab Ao e⟩)]++[]) (fun z=>.tup []) (fun z=>[((0,0),⟨0,true,63,14,Ab Ao z⟩)]) [] (fun z=>⟨co.W 0 (by decide),trivial⟩) (trivial) (fun z h r g=>A5 (eW e (a-b) ((a+v2)-b) b) h co g [((0,0),⟨0,true,63,14,Ab Ao e⟩)] [] [((0,0),⟨0,true,63,14,Ab Ao z⟩)] (AG [(4,r.θ 4)]) (fun l m n=>trivial) (fun H=>⟨fun _=>⟨rfl,AD (Aw _ _) (by kernel_rfl)⟩,by kernel_rfl,trivial⟩) (fun H=>⟨fun _=>⟨rfl,AD (Aw _ _) (by kernel_rfl)⟩,by kernel_rfl,trivial⟩) (hx:=by intro H;rw[heq];kernel_rfl)) fun k hm=>AI co Aa (Lq d a b v2 k) (Ac [0,2,4,10,11] Ai) hm c fun r g=>fun _ hm c=>As co Aa Ae (Ln d a b v2 k) (Ac [0,2,4,10,11] Ai) nl f hm c fun r g=>id)))),id⟩
theorem ZR5(c:List Pr)(f:Int)(a:Int)(h:Int):KO Tryz.prog 161 1 [.ref (0,0) 0 0 c.length,vI f,vI a,vI h,.fn (.yield 4) [] []] [⟨0,true,63,14,Ab Ao c⟩] (fun _ _ _ _=>True) (K3 c f a h) Kz (KV):=Bv Tryz.func161 Tryz.ntmps161 Aa [] 1 (fun C co m y hm i b=>Aj co Aa Ae 2 (P0 c f a h) (Ac [0,2,4,10,11] Ai) nl nH hm b fun r g=>fun _ hm b=>sq (bk 0 (lo (AF (ZA4 co c a) nH hm b (fun(d,e) hm=>rg (AM co Aa 7 (P9 c a d e) (Ac [50,53,54,55,56] Ai) hm b fun r g=>fun _ hm b=>BT hm fun heq hm=>A6 co hm 167 [.ref (0,0) 0 0 c.length,vI (a-d),vI a,vI d,.fn (.yield 4) [] []] [(0,0)] ([((0,0),⟨0,true,63,14,Ab Ao e⟩)]++[]) (fun z=>.tup []) (fun z=>[((0,0),⟨0,true,63,14,Ab Ao z⟩)]) [] (fun z=>⟨co.W 0 (by decide),trivial⟩) (trivial) (fun z k r g=>A5 (eW e (a-d) a d) k co g [((0,0),⟨0,true,63,14,Ab Ao e⟩)] [] [((0,0),⟨0,true,63,14,Ab Ao z⟩)] (AG [(4,r.θ 4)]) (fun l n o=>trivial) (fun H=>⟨fun _=>⟨rfl,AD (Aw _ _) (by kernel_rfl)⟩,by kernel_rfl,trivial⟩) (fun H=>⟨fun _=>⟨rfl,AD (Aw _ _) (by kernel_rfl)⟩,by kernel_rfl,trivial⟩) (hx:=by intro H;rw[heq];kernel_rfl)) fun j hm=>AI co Aa (Qc j) (Ac [] Ai) hm b fun r g=>fun _ hm b=>B3 (Q0 j) co hm b (fun r g=>id) r g)))))) (hB:=fun y=>⟨.inl (Aw _ _),rfl,trivial⟩)
end Go.Proofs.YtjbijbkdiijhaaaGreat
