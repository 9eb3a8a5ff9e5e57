import Derived.Test.YtjbijbkdiijhaaaGreatZc16
import Derived.Test.YtjbijbkdiijhaaaGreatZc00
namespace Go.Proofs.YtjbijbkdiijhaaaGreat
set_option maxRecDepth 100000
set_option linter.all false
open Go Go.Eng
abbrev Rq(a:List Slt):Af×Blk:=((0,0),⟨0,true,61,8,Ab Aq a⟩)
abbrev Zw:List Slt→AV:=fun y=>.ref (0,0) 0 0 y.length
@[reducible] def ZI:List Slt→List Blk:=fun y=>[⟨0,true,61,8,Ab Aq y⟩]
def qK(a:Slt→Option Bool):Cl:=fun no l H θ=>(∀(z0:Slt) y,a z0=some y→CP Tryz.prog l no H (θ 1) [.agg ((Dr z0).map .d)] (vB y))
def bJ(a:List Slt):Int×Int×List Slt→St:=fun(v2,v3,b)=>Ad [(0,.ref (0,0) 0 0 a.length),(1,.fn (.yield 1) [] []),(5,vI v2),(6,vI v3)] [((0,0),⟨0,true,61,8,Ab Aq b⟩)]
def v8(a:List Slt):Int×List Slt→Nat×St:=fun(c,b)=>(0,Ad [(0,.ref (0,0) 0 0 a.length),(5,vI c)] [((0,0),⟨0,true,61,8,Ab Aq b⟩)])
def Tb(b:List Slt)(d:Slt→Option Bool)(v2:Int)(v3:Int)(a:List Slt):PT 1 (Lv (Int×Int×List Slt) (Int×List Slt) (List Slt)):=vz (BF b.length)<|br (decide (v3<(b.length:Int))) (vs (AH v3 b.length 8)<|ca a v3.toNat fun c=>wg<|wg<|cf Tryz.prog 1 [.agg ((Dr c).map .d)] (d c) (fun y=>vB y) fun e=>br (!e) (wg<|vs (AH v2 b.length 8)<|vs (st a v2.toNat c)<|BY 0 ((Rw.f (c:Slt)).map .d) (fun _=>Hb _)<|vs (wi (v2+1))<|vs (wi (v3+1))<|vz (fl (a.set v2.toNat c))<|ln (bJ b) ((v2+1),(v3+1),a.set v2.toNat c)) (vs (wi (v3+1))<|vz (fl a)<|ln (bJ b) (v2,(v3+1),a))) (vz (fl a)<|Ai (v8 b) (v2,a))
def RH(b:List Slt)(a:Slt→Option Bool):Int×Int×List Slt→Option (Lv (Int×Int×List Slt) (Int×List Slt) (List Slt)):=fun(v2,v3,c)=>(Tb b a v2 v3 c).m
def eu(c:List Slt)(a:Int)(b:List Slt):PT 1 (List Slt):=sR c.length 0 (.it a) .no<|cr b (0+a.toNat) (c.length-a.toNat) [vI 0,vI 0,.d (.int .u64 0),vS ⟨#[]⟩,.e0,.e0,.e0,.e0]<|BY 0 ([vI 0,vI 0,.d (.int .u64 0),vS ⟨#[]⟩,.e0,.e0,.e0,.e0]) (fun _=>ZwM (by kernel_rfl))<|J6 0 b (0+a.toNat) (c.length-a.toNat) [vI 0,vI 0,.d (.int .u64 0),vS ⟨#[]⟩,.e0,.e0,.e0,.e0]<|vw .sep<|sR c.length 0 .no (.it a)<|Ek (a.toNat=(b.take (0+a.toNat)).length) (fun E=>E.P (.ref (0,0) 0 0 a.toNat) ([⟨0,true,61,8,Ab Aq (b.take (0+a.toNat))⟩])) (b.take (0+a.toNat))
def dK(a:List Slt)(c:Slt→Option Bool)(b:Int):PT 1 (List Slt):=vs (wi (b+1))<|vz (fl a)<|lc (Ad [(0,.ref (0,0) 0 0 a.length),(1,.fn (.yield 1) [] []),(5,vI b),(6,vI (b+1))] [(Rq a)]) ((Al (RH a c) Am (b,(b+1),a)).bind (Sum.elim (fun(e,d)=>(eu a e d).m) some))
def dQ(a:List Slt)(b:Slt→Option Bool):PT 1 (List Slt):=cs Tryz.prog 46 [.ref (0,0) 0 0 a.length,.fn (.yield 1) [] []] [(0,0)] [(Rq a)] (Pm a b) (fun y=>vI y) fun c=>br (decide (c=((-1):Int))) (lr Zw (ZI) a) (vz (fl a)<|lc (Ad [(0,.ref (0,0) 0 0 a.length),(1,.fn (.yield 1) [] []),(5,vI c)] [(Rq a)]) ((dK a b c).m))
def Py(b:List Slt)(a:Slt→Option Bool):Option (List Slt):=(dQ b a).m
theorem ZIQ{C:Cx}(co:CO C 1)(b:List Slt)(a:Slt→Option Bool)(f:(qK a) C.no C.l C.H0 C.θ):KL Tryz.prog (AC tl) 42 C (pa [0,0,1,0,1,1,1] (AA Tryz.f19)) [.tmp 4] 1 (bJ b) (v8 b) Zw (ZI) (RH b a):=fun(v2,v3,h) _ hm Q c e d=>At co Aa Ae (Tb b a v2 v3 h) (Ac [0,1,5,6] Ah) (Ac [0,5] Ah) e hm d fun r g=>⟨fun i=>⟨⟨fun y hy=>f _ y hy,by intro r;kernel_rfl,by intro r y;kernel_rfl⟩,fun j=>⟨id,id⟩⟩,id⟩
theorem ZVk(b:List Slt)(a:Slt→Option Bool):KO Tryz.prog 19 1 [.ref (0,0) 0 0 b.length,.fn (.yield 1) [] []] [⟨0,true,61,8,Ab Aq b⟩] (qK a) (Py b a) Zw (ZI):=Bu Tryz.func19 Tryz.ntmps19 Aa [.tmp 4] 1 (fun C co e y hm d c=>Aj co Aa Ae 3 (dQ b a) (Ac [0,1,5] Ah) nl nH hm c fun r g=>⟨fun y hy=>G9 (sU b a) hy co g [(Rq b)] [] (AG [(1,r.θ 1)]) (fun m o f=>(fun z0 y i=>BH co g [(Rq b)] f (e z0 y i))) (fun H=>⟨fun _=>⟨rfl,AD (Aw _ _) (by kernel_rfl)⟩,by kernel_rfl,trivial⟩),fun l=>⟨id,fun _ hm c=>sq (Aj co Aa Ae 1 (dK b a l) (Ac [0,1,5,6] Ah) nl nH hm c fun r g=>fun _ hm c=>bk 0 (lo (AE (ZIQ co b a e) nH hm c (fun(k,j) hm=>Ax co Aa Ae (eu b k j) hm c fun r g=>fun h c=>lfx (congrArg (fun n=>(.ref (0,0) 0 0 n:AV)) h) c))))⟩⟩) (hB:=fun y=>⟨.inl (Aw _ _),rfl,trivial⟩)
abbrev S9:Af×Blk:=kk 4 51 16 [vI 0,vS ⟨#[]⟩,vI 0,vI 0,vI 0,vS ⟨#[]⟩,vS ⟨#[]⟩,vB false,vI 0,.d (.int .u64 0),vS ⟨#[]⟩,.e0,.e0,.e0,.e0,.e0]
abbrev Si:Fld×Bool→AV:=fun y=>.tup [.agg ((Az y.1).map .d),vB y.2]
def qN(a:Fld→Option Bool):Cl:=fun no l H θ=>(∀(z0:Fld) y,a z0=some y→CP Tryz.prog l no H (θ 1) [.agg ((Az z0).map .d)] (vB y))
def wj(a:List Fld):Nat→St:=fun b=>Ad [(1,.fn (.yield 1) [] []),pp 4,(9,vL Az a),(10,vN a.length),(11,vN b)] [S9]
def uC:Unit→Nat×St:=fun _=>(0,Ad [pp 4] [S9])
def X7(c:List Fld)(d:Fld→Option Bool)(a:Nat):PT 0 (Lv (Nat) (Unit) (Fld×Bool)):=br (decide ((a:Int)<(c.length:Int))) (ix c a fun b=>wg<|wg<|cf Tryz.prog 1 [.agg ((Az b).map .d)] (d b) (fun y=>vB y) fun e=>br e (wg<|wg<|Ay Si nG (b,true)) (vs (wa a 1)<|ln (wj c) (a+1))) (Ai (uC) ())
def RY(b:List Fld)(a:Fld→Option Bool):Nat→Option (Lv (Nat) (Unit) (Fld×Bool)):=fun c=>(X7 b a c).m
def eE:PT 0 (Fld×Bool):=wg<|wg<|lr Si nG ((.mk 0 ⟨#[]⟩ 0 0 (.mk 0 ⟨#[]⟩:Typ) ⟨#[]⟩ false (.mk 0 0 ⟨#[]⟩ [] [] [] []:Val) []:Fld),false)
def ft(a:List Fld)(b:Fld→Option Bool):PT 0 (Fld×Bool):=vz (An a)<|lc (Ad [(1,.fn (.yield 1) [] []),pp 4,(9,vL Az a),(10,vN a.length),(11,vI 0)] [S9]) ((Al (RY a b) Am 0).bind (Sum.elim (fun _=>(eE).m) some))
def eo(b:List Fld)(a:Fld→Option Bool):PT 0 (Fld×Bool):=lc (Ad [(0,vL Az b),(1,.fn (.yield 1) [] []),pp 4] [S9]) ((ft b a).m)
def UV(b:List Fld)(a:Fld→Option Bool):Option (Fld×Bool):=(eo b a).m
theorem ZDJ{C:Cx}(co:CO C 0)(b:List Fld)(a:Fld→Option Bool)(f:(qN a) C.no C.l C.H0 C.θ):KL Tryz.prog (AC tl) 21 C (pa [0,0,1,0,1] (AA Tryz.f47)) [.cell 4 51,.tmp 5] 0 (wj b) (uC) Si nG (RY b a):=fun h _ hm Q c e d=>At co Aa Ae (X7 b a h) (Ac [1,4,9,10,11] EJ) (Ac [4] EJ) e hm d fun r g=>⟨fun i=>⟨⟨fun y hy=>f _ y hy,by intro r;kernel_rfl,by intro r y;kernel_rfl⟩,fun j=>⟨id,id⟩⟩,id⟩
theorem ZUV(c:List Fld)(a:Fld→Option Bool):KO Tryz.prog 47 0 [vL Az c,.fn (.yield 1) [] []] [] (qN a) (UV c a) Si nG:=Bu Tryz.func47 Tryz.ntmps47 Aa [.cell 4 51,.tmp 5] 0 (fun C co e y hm d b=>Aj co Aa Ae 1 (eo c a) (Ac [0,1,4] EJ) nl nH hm b fun r g=>fun _ hm b=>sq (Aj co Aa Ae 1 (ft c a) (Ac [1,4,9,10,11] EJ) nl nH hm b fun r g=>fun _ hm b=>bk 0 (lo (AE (ZDJ co c a e) nH hm b (fun _ hm=>Ax co Aa Ae (eE) hm b fun r g=>id)))))
abbrev qo:Bool→AV:=fun y=>vB y
@[reducible] def qF(w0:Int):Bool→List Blk:=fun y=>[⟨0,true,3,1,[vI w0]⟩]
def wr(a:Fld)(w0:Int):PT 1 (Bool):=wg<|wg<|lr qo (qF w0) (decide (a.num=w0))
def MJ(a:Fld)(w0:Int):Option (Bool):=(wr a w0).m
theorem ZU7(a:Fld)(w0:Int):KO Tryz.prog 48 1 [.agg ((Az a).map .d),.ptr (0,0) 0 0] [⟨0,true,3,1,[vI w0]⟩] (fun _ _ _ _=>True) (MJ a w0) qo (qF w0):=Bu Tryz.func48 Tryz.ntmps48 Aa [.tmp 3] 1 (fun C co d y hm b c=>Ax co Aa Ae (wr a w0) hm c fun r g=>id) (hB:=fun y=>⟨.inr (by kernel_rfl),rfl,trivial⟩)
abbrev qj:Fld×Bool→AV:=fun y=>.tup [.agg ((Az y.1).map .d),vB y.2]
def dB(a:Msg)(b:Int):PT 0 (Fld×Bool):=wg<|cs Tryz.prog 47 [vL Az a.fields,.fn (.func 48) [] [.ptr (1,3) 1 0]] [(1,3)] [((1,3),⟨1,true,3,1,[vI b]⟩)] (UV a.fields (fun(z0:Fld)=>MJ z0 b)) (fun y=>.tup [.agg ((Az y.1).map .d),vB y.2]) fun c=>wg<|lr qj nG (c.1,c.2)
def jM(a:Msg)(b:Int):Option (Fld×Bool):=(dB a b).m
theorem yg(b:Msg)(a:Int):KC Tryz.prog 21 [.agg ((AU b).map .d),vI a] (jM b a) qj:=AF Tryz.func21 Tryz.ntmps21 Aa [.cell 4 51,.tmp 5] fun C co y hm c d=>Ax co Aa Ae (dB b a) hm d fun r g=>⟨fun y hy=>G9 (ZUV b.fields (fun(z0:Fld)=>MJ z0 a)) hy co g [] [((1,3),⟨1,true,3,1,[vI a]⟩)] (AG [(1,.fn (.func 48) [] [.ptr (r.κ (1,3)) (r.γ (1,3)+1) 0])]) (fun h e i=>(fun z0 y f=>Lr (ZU7 z0 a) f co g [((1,3),⟨1,true,3,1,[vI a]⟩)] [] e (by simp) (fun _=>.top) (fun _ _=>trivial) (fun l H=>⟨fun _=>⟨rfl,by kernel_rfl⟩,by kernel_rfl,trivial⟩))) (fun H=>trivial),fun j=>id⟩
abbrev Su:Int→AV:=fun y=>vI y
def qO(a:Fld→Option Bool):Cl:=fun no l H θ=>(∀(z0:Fld) y,a z0=some y→CP Tryz.prog l no H (θ 1) [.agg ((Az z0).map .d)] (vB y))
def tZ(a:List Fld):Nat→St:=fun b=>Ad [(0,vL Az a),(1,.fn (.yield 1) [] []),(7,vN a.length),(8,vN b)] []
def tK:Unit→Nat×St:=fun _=>(0,Ad [] [])
def XU(b:List Fld)(c:Fld→Option Bool)(a:Nat):PT 0 (Lv (Nat) (Unit) (Int)):=br (decide ((a:Int)<(b.length:Int))) (ix b a fun d=>cf Tryz.prog 1 [.agg ((Az d).map .d)] (c d) (fun y=>vB y) fun e=>br e (Ay Su nG (a:Int)) (vs (wa a 1)<|ln (tZ b) (a+1))) (Ai (tK) ())
def Rn(b:List Fld)(a:Fld→Option Bool):Nat→Option (Lv (Nat) (Unit) (Int)):=fun c=>(XU b a c).m
def e9:PT 0 (Int):=lr Su nG (-1)
def bu(a:List Fld)(b:Fld→Option Bool):PT 0 (Int):=vz (An a)<|lc (Ad [(0,vL Az a),(1,.fn (.yield 1) [] []),(7,vN a.length),(8,vI 0)] []) ((Al (Rn a b) Am 0).bind (Sum.elim (fun _=>(e9).m) some))
def bG(b:List Fld)(a:Fld→Option Bool):PT 0 (Int):=lc (Ad [(0,vL Az b),(1,.fn (.yield 1) [] [])] []) ((bu b a).m)
def jK(b:List Fld)(a:Fld→Option Bool):Option (Int):=(bG b a).m
theorem ZHf{C:Cx}(co:CO C 0)(b:List Fld)(a:Fld→Option Bool)(f:(qO a) C.no C.l C.H0 C.θ):KL Tryz.prog (AC tl) 19 C (pa [0,0,1,0,1] (AA Tryz.f81)) [.tmp 4] 0 (tZ b) (tK) Su nG (Rn b a):=fun h _ hm Q c e d=>At co Aa Ae (XU b a h) (AK [0,1,7,8]) nl e hm d fun r g=>⟨fun i=>⟨⟨fun y hy=>f _ y hy,by intro r;kernel_rfl,by intro r y;kernel_rfl⟩,fun j=>⟨id,id⟩⟩,id⟩
theorem ZVg(c:List Fld)(a:Fld→Option Bool):KO Tryz.prog 81 0 [vL Az c,.fn (.yield 1) [] []] [] (qO a) (jK c a) Su nG:=Bu Tryz.func81 Tryz.ntmps81 Aa [.tmp 4] 0 (fun C co e y hm d b=>Aj co Aa Ae 1 (bG c a) (AK [0,1]) nl nH hm b fun r g=>fun _ hm b=>sq (Aj co Aa Ae 1 (bu c a) (AK [0,1,7,8]) nl nH hm b fun r g=>fun _ hm b=>bk 0 (lo (AE (ZHf co c a e) nH hm b (fun _ hm=>Ax co Aa Ae (e9) hm b fun r g=>id)))))
abbrev qp:Bool→AV:=fun y=>vB y
def H49(a:Fld→Option Bool):Cl:=fun no l H θ=>(∀(z0:Fld) y,a z0=some y→CP Tryz.prog l no H (θ 1) [.agg ((Az z0).map .d)] (vB y))
def bE(b:List Fld)(a:Fld→Option Bool):PT 0 (Bool):=cs Tryz.prog 81 [vL Az b,.fn (.yield 1) [] []] [] [] (jK b a) (fun y=>vI y) fun c=>lr qp nG (decide ((0:Int)≤c))
def US(b:List Fld)(a:Fld→Option Bool):Option (Bool):=(bE b a).m
theorem ZUx(b:List Fld)(a:Fld→Option Bool):KO Tryz.prog 49 0 [vL Az b,.fn (.yield 1) [] []] [] (H49 a) (US b a) qp nG:=Bu Tryz.func49 Tryz.ntmps49 Aa [.tmp 4] 0 (fun C co e y hm c d=>Ax co Aa Ae (bE b a) hm d fun r g=>⟨fun y hy=>G9 (ZVg b a) hy co g [] [] (AG [(1,r.θ 1)]) (fun i j f=>(fun z0 y h=>BH co g [] f (e z0 y h))) (fun H=>trivial),fun k=>id⟩)
abbrev Xz:Int→AV:=fun y=>vI y
@[reducible] def Zd(a:List Fld):Int→List Blk:=fun y=>[⟨0,true,51,16,Ab Az a⟩]
def wo(a:Fld→Option Bool):Cl:=fun no l H θ=>(∀(z0:Fld) y,a z0=some y→CP Tryz.prog l no H (θ 1) [.agg ((Az z0).map .d)] (vB y))
def Zu7(a:List Fld):Nat→St:=fun b=>Ad [(0,.ref (0,0) 0 0 a.length),(1,.fn (.yield 1) [] []),(7,vN a.length),(8,vN b)] [((0,0),⟨0,true,51,16,Ab Az a⟩)]
def ZsM(a:List Fld):Unit→Nat×St:=fun _=>(0,Ad [] [((0,0),⟨0,true,51,16,Ab Az a⟩)])
def PZ(a:List Fld)(c:Fld→Option Bool)(b:Nat):PT 1 (Lv (Nat) (Unit) (Int)):=br (decide ((b:Int)<(a.length:Int))) (vs (ir b a.length 16)<|ca a b fun d=>cf Tryz.prog 1 [.agg ((Az d).map .d)] (c d) (fun y=>vB y) fun e=>br e (Ay Xz (Zd a) (b:Int)) (vs (wa b 1)<|vz (fl a)<|ln (Zu7 a) (b+1))) (vz (fl a)<|Ai (ZsM a) ())
def VZ(b:List Fld)(a:Fld→Option Bool):Nat→Option (Lv (Nat) (Unit) (Int)):=fun c=>(PZ b a c).m
def P5(a:List Fld):PT 1 (Int):=lr Xz (Zd a) (-1)
def PW(a:List Fld)(b:Fld→Option Bool):PT 1 (Int):=vz (BF a.length)<|vz (fl a)<|lc (Ad [(0,.ref (0,0) 0 0 a.length),(1,.fn (.yield 1) [] []),(7,vN a.length),(8,vI 0)] [((0,0),⟨0,true,51,16,Ab Az a⟩)]) ((Al (VZ a b) Am 0).bind (Sum.elim (fun _=>(P5 a).m) some))
def P9(a:List Fld)(b:Fld→Option Bool):PT 1 (Int):=vz (fl a)<|lc (Ad [(0,.ref (0,0) 0 0 a.length),(1,.fn (.yield 1) [] [])] [((0,0),⟨0,true,51,16,Ab Az a⟩)]) ((PW a b).m)
def UX(b:List Fld)(a:Fld→Option Bool):Option (Int):=(P9 b a).m
theorem Zui{C:Cx}(co:CO C 1)(b:List Fld)(a:Fld→Option Bool)(f:(wo a) C.no C.l C.H0 C.θ):KL Tryz.prog (AC tl) 19 C (pa [0,0,1,0,1] (AA Tryz.f81)) [.tmp 4] 1 (Zu7 b) (ZsM b) Xz (Zd b) (VZ b a):=fun h _ hm Q c e d=>At co Aa Ae (PZ b a h) (Ac [0,1,7,8] Ah) (Ac [] Ah) e hm d fun r g=>⟨fun i=>⟨⟨fun y hy=>f _ y hy,by intro r;kernel_rfl,by intro r y;kernel_rfl⟩,fun j=>⟨id,id⟩⟩,id⟩
theorem ZLS(b:List Fld)(a:Fld→Option Bool):KO Tryz.prog 81 1 [.ref (0,0) 0 0 b.length,.fn (.yield 1) [] []] [⟨0,true,51,16,Ab Az b⟩] (wo a) (UX b a) Xz (Zd b):=Bu Tryz.func81 Tryz.ntmps81 Aa [.tmp 4] 1 (fun C co e y hm d c=>Aj co Aa Ae 1 (P9 b a) (Ac [0,1] Ah) nl nH hm c fun r g=>fun _ hm c=>sq (Aj co Aa Ae 1 (PW b a) (Ac [0,1,7,8] Ah) nl nH hm c fun r g=>fun _ hm c=>bk 0 (lo (AE (Zui co b a e) nH hm c (fun _ hm=>Ax co Aa Ae (P5 b) hm c fun r g=>id))))) (hB:=fun y=>⟨.inl (Aw _ _),rfl,trivial⟩)
abbrev RR(a:List Fld):Af×Blk:=((0,0),⟨0,true,51,16,Ab Az a⟩)
abbrev ZE:List Fld→AV:=fun y=>.ref (0,0) 0 0 y.length
@[reducible] def ZL:List Fld→List Blk:=fun y=>[⟨0,true,51,16,Ab Az y⟩]
def qP(a:Fld→Option Bool):Cl:=fun no l H θ=>(∀(z0:Fld) y,a z0=some y→CP Tryz.prog l no H (θ 1) [.agg ((Az z0).map .d)] (vB y))
def ep(a:List Fld):Int×Int×List Fld→St:=fun(v2,v3,b)=>Ad [(0,.ref (0,0) 0 0 a.length),(1,.fn (.yield 1) [] []),(5,vI v2),(6,vI v3)] [((0,0),⟨0,true,51,16,Ab Az b⟩)]
def xc(a:List Fld):Int×List Fld→Nat×St:=fun(c,b)=>(0,Ad [(0,.ref (0,0) 0 0 a.length),(5,vI c)] [((0,0),⟨0,true,51,16,Ab Az b⟩)])
def Tt(b:List Fld)(d:Fld→Option Bool)(v2:Int)(v3:Int)(a:List Fld):PT 1 (Lv (Int×Int×List Fld) (Int×List Fld) (List Fld)):=vz (BF b.length)<|br (decide (v3<(b.length:Int))) (vs (AH v3 b.length 16)<|ca a v3.toNat fun c=>wg<|wg<|cf Tryz.prog 1 [.agg ((Az c).map .d)] (d c) (fun y=>vB y) fun e=>br (!e) (wg<|vs (AH v2 b.length 16)<|vs (st a v2.toNat c)<|BY 0 ((Rw.f (c:Fld)).map .d) (fun _=>Hb _)<|vs (wi (v2+1))<|vs (wi (v3+1))<|vz (fl (a.set v2.toNat c))<|ln (ep b) ((v2+1),(v3+1),a.set v2.toNat c)) (vs (wi (v3+1))<|vz (fl a)<|ln (ep b) (v2,(v3+1),a))) (vz (fl a)<|Ai (xc b) (v2,a))
def Rs(b:List Fld)(a:Fld→Option Bool):Int×Int×List Fld→Option (Lv (Int×Int×List Fld) (Int×List Fld) (List Fld)):=fun(v2,v3,c)=>(Tt b a v2 v3 c).m
def eI(c:List Fld)(a:Int)(b:List Fld):PT 1 (List Fld):=sR c.length 0 (.it a) .no<|cr b (0+a.toNat) (c.length-a.toNat) [vI 0,vS ⟨#[]⟩,vI 0,vI 0,vI 0,vS ⟨#[]⟩,vS ⟨#[]⟩,vB false,vI 0,.d (.int .u64 0),vS ⟨#[]⟩,.e0,.e0,.e0,.e0,.e0]<|BY 0 ([vI 0,vS ⟨#[]⟩,vI 0,vI 0,vI 0,vS ⟨#[]⟩,vS ⟨#[]⟩,vB false,vI 0,.d (.int .u64 0),vS ⟨#[]⟩,.e0,.e0,.e0,.e0,.e0]) (fun _=>ZwM (by kernel_rfl))<|J6 0 b (0+a.toNat) (c.length-a.toNat) [vI 0,vS ⟨#[]⟩,vI 0,vI 0,vI 0,vS ⟨#[]⟩,vS ⟨#[]⟩,vB false,vI 0,.d (.int .u64 0),vS ⟨#[]⟩,.e0,.e0,.e0,.e0,.e0]<|vw .sep<|sR c.length 0 .no (.it a)<|Ek (a.toNat=(b.take (0+a.toNat)).length) (fun E=>E.P (.ref (0,0) 0 0 a.toNat) ([⟨0,true,51,16,Ab Az (b.take (0+a.toNat))⟩])) (b.take (0+a.toNat))
def aT(a:List Fld)(c:Fld→Option Bool)(b:Int):PT 1 (List Fld):=vs (wi (b+1))<|vz (fl a)<|lc (Ad [(0,.ref (0,0) 0 0 a.length),(1,.fn (.yield 1) [] []),(5,vI b),(6,vI (b+1))] [(RR a)]) ((Al (Rs a c) Am (b,(b+1),a)).bind (Sum.elim (fun(e,d)=>(eI a e d).m) some))
def ew(a:List Fld)(b:Fld→Option Bool):PT 1 (List Fld):=cs Tryz.prog 81 [.ref (0,0) 0 0 a.length,.fn (.yield 1) [] []] [(0,0)] [(RR a)] (UX a b) (fun y=>vI y) fun c=>br (decide (c=((-1):Int))) (lr ZE (ZL) a) (vz (fl a)<|lc (Ad [(0,.ref (0,0) 0 0 a.length),(1,.fn (.yield 1) [] []),(5,vI c)] [(RR a)]) ((aT a b c).m))
def UW(b:List Fld)(a:Fld→Option Bool):Option (List Fld):=(ew b a).m
theorem ZGA{C:Cx}(co:CO C 1)(b:List Fld)(a:Fld→Option Bool)(f:(qP a) C.no C.l C.H0 C.θ):KL Tryz.prog (AC tl) 42 C (pa [0,0,1,0,1,1,1] (AA Tryz.f82)) [.tmp 4] 1 (ep b) (xc b) ZE (ZL) (Rs b a):=fun(v2,v3,h) _ hm Q c e d=>At co Aa Ae (Tt b a v2 v3 h) (Ac [0,1,5,6] Ah) (Ac [0,5] Ah) e hm d fun r g=>⟨fun i=>⟨⟨fun y hy=>f _ y hy,by intro r;kernel_rfl,by intro r y;kernel_rfl⟩,fun j=>⟨id,id⟩⟩,id⟩
theorem ZVu(b:List Fld)(a:Fld→Option Bool):KO Tryz.prog 82 1 [.ref (0,0) 0 0 b.length,.fn (.yield 1) [] []] [⟨0,true,51,16,Ab Az b⟩] (qP a) (UW b a) ZE (ZL):=Bu Tryz.func82 Tryz.ntmps82 Aa [.tmp 4] 1 (fun C co e y hm d c=>Aj co Aa Ae 3 (ew b a) (Ac [0,1,5] Ah) nl nH hm c fun r g=>⟨fun y hy=>G9 (ZLS b a) hy co g [(RR b)] [] (AG [(1,r.θ 1)]) (fun m o f=>(fun z0 y i=>BH co g [(RR b)] f (e z0 y i))) (fun H=>⟨fun _=>⟨rfl,AD (Aw _ _) (by kernel_rfl)⟩,by kernel_rfl,trivial⟩),fun l=>⟨id,fun _ hm c=>sq (Aj co Aa Ae 1 (aT b a l) (Ac [0,1,5,6] Ah) nl nH hm c fun r g=>fun _ hm c=>bk 0 (lo (AE (ZGA co b a e) nH hm c (fun(k,j) hm=>Ax co Aa Ae (eI b k j) hm c fun r g=>fun h c=>lfx (congrArg (fun n=>(.ref (0,0) 0 0 n:AV)) h) c))))⟩⟩) (hB:=fun y=>⟨.inl (Aw _ _),rfl,trivial⟩)
abbrev ZF:List Fld→AV:=fun y=>.ref (0,0) 1 0 y.length
@[reducible] def ZM:List Fld→List Blk:=fun y=>[⟨1,true,51,16,Ab Az y⟩]
def fv(a:List Fld):PT 1 (List Fld):=al Az a false fun b=>br b (vw .sep<|vw (.ads 2 2 51 16)<|mv 2 0 ([]:List Fld)<|lr ZF (ZM) ([]:List Fld)) (a0 a<|mv 7 0 a<|lr ZF (ZM) a)
def U5(a:List Fld):Option (List Fld):=(fv a).m
theorem ZVv(a:List Fld):KO Tryz.prog 83 1 [vL Az a] [⟨0,false,0,0,[]⟩] (fun _ _ _ _=>True) (U5 a) ZF (ZM):=Bu Tryz.func83 Tryz.ntmps83 Aa [.tmp 2] 1 (fun C co f y hm c d=>Ax co Aa Ae (fv a) hm d fun r g=>⟨fun e=>⟨id,id⟩,by intro b h;subst h;cases b<;>rfl⟩) (hB:=fun y=>⟨.inl (Aw _ _),rfl,trivial⟩)
abbrev qz:Bool→AV:=fun y=>vB y
@[reducible] def qJ(w0:ByteArray):Bool→List Blk:=fun y=>[⟨0,true,9,1,[vS w0]⟩]
def tC(a:Fld)(w0:ByteArray):PT 1 (Bool):=wg<|wg<|lr qz (qJ w0) (!decide (a.union=w0))
def U4(a:Fld)(w0:ByteArray):Option (Bool):=(tC a w0).m
theorem ZUR(a:Fld)(w0:ByteArray):KO Tryz.prog 84 1 [.agg ((Az a).map .d),.ptr (0,0) 0 0] [⟨0,true,9,1,[vS w0]⟩] (fun _ _ _ _=>True) (U4 a w0) qz (qJ w0):=Bu Tryz.func84 Tryz.ntmps84 Aa [.tmp 3] 1 (fun C co d y hm b c=>Ax co Aa Ae (tC a w0) hm c fun r g=>id) (hB:=fun y=>⟨.inr (by kernel_rfl),rfl,trivial⟩)
abbrev NW(a:ByteArray):Af×Blk:=kk 3 9 1 [vS a]
abbrev Zz:List Fld→AV:=fun y=>vL Az y
def fR(a:List Fld):PT 0 (List Fld):=vz (fr a)<|lr Zz nG a
def bp(a:List Fld):PT 0 (List Fld):=vz (fl a)<|lc (Ad [(4,.ref (1,9) 0 0 a.length)] [kk 9 51 16 (Ab Az a)]) ((fR a).m)
def dM(b:ByteArray)(a:List Fld):PT 0 (List Fld):=vz (fl a)<|lc (Ad [(9,.ref (1,9) 0 0 a.length),(10,.fn (.func 84) [] [.ptr (1,3) 0 0])] [(NW b),kk 9 51 16 (Ab Az a)]) ((UW a (fun(z0:Fld)=>U4 z0 b)).bind fun c=>(bp c).m)
def dS(a:Msg)(b:ByteArray):PT 0 (List Fld):=wg<|lc (Ad [pp 3,(8,vL Az a.fields)] [(NW b)]) ((U5 a.fields).bind fun c=>(dM b c).m)
def aI(b:Msg)(a:ByteArray):PT 0 (List Fld):=wg<|br (decide (a=(⟨#[]⟩:ByteArray))) (lr Zz nG ([]:List Fld)) (lc (Ad [pp 2,pp 3] [kk 2 45 5 (cD (AU b)),(NW a)]) ((dS b a).m))
def Vf(a:Msg)(b:ByteArray):Option (List Fld):=(aI a b).m
theorem ZU3(c:Msg)(a:ByteArray):KC Tryz.prog 50 [.agg ((AU c).map .d),vS a] (Vf c a) Zz:=AF Tryz.func50 Tryz.ntmps50 Aa [.tmp 4] fun C co y hm f b=>Aj co Aa Ae 2 (aI c a) (Ac [2,3] Fi) nl nH hm b fun r g=>⟨id,fun _ hm b=>sq (rg (AM co Aa 2 (dS c a) (Ac [3,8] [((1,3),false)]) hm b fun r g=>fun _ hm b=>A6 co hm 83 [vL Az c.fields] [(1,9)] ([((1,9),⟨0,false,0,0,[]⟩)]++[]) (fun z=>.ref (1,9) 1 0 z.length) (fun z=>[((1,9),⟨1,true,51,16,Ab Az z⟩)]) [] (fun z=>trivial) (trivial) (fun z e r g=>A5 (ZVv c.fields) e co g [((1,9),⟨0,false,0,0,[]⟩)] [] [((1,9),⟨1,true,51,16,Ab Az z⟩)] (AG []) (fun k i m=>trivial) (fun H=>⟨(fun h=>by cases h),by kernel_rfl,trivial⟩) (fun H=>⟨fun _=>⟨rfl,AD (Aw _ _) (by kernel_rfl)⟩,by kernel_rfl,trivial⟩)) fun d hm=>AM co Aa 1 (dM a d) (Ac [9,10] [((1,3),false),((1,9),true)]) hm b fun r g=>fun _ hm b=>A6 co hm 82 [.ref (1,9) 0 0 d.length,.fn (.func 84) [] [.ptr (1,3) 0 0]] [(1,9),(1,3)] ([kk 9 51 16 (Ab Az d)]++[(NW a)]) (fun z=>.ref (1,9) 0 0 z.length) (fun z=>[kk 9 51 16 (Ab Az z)]) [] (fun z=>trivial) (trivial) (fun z e r g=>A5 (ZVu d (fun(z0:Fld)=>U4 z0 a)) e co g [kk 9 51 16 (Ab Az d)] [(NW a)] [kk 9 51 16 (Ab Az z)] (AG [(1,.fn (.func 84) [] [.ptr (r.κ (1,3)) (r.γ (1,3)+0) 0])]) (fun k i m=>(fun z0 y e=>Lr (ZUR z0 a) e co g [(NW a)] [kk 9 51 16 (Ab Az d)] i (by simp) (fun _=>.top) (fun _ _=>trivial) (fun l H=>⟨fun _=>⟨rfl,by kernel_rfl⟩,by kernel_rfl,trivial⟩))) (fun H=>⟨fun _=>⟨rfl,AD (Aw _ _) (by kernel_rfl)⟩,by kernel_rfl,trivial⟩) (fun H=>⟨fun _=>⟨rfl,AD (Aw _ _) (by kernel_rfl)⟩,by kernel_rfl,trivial⟩)) fun j hm=>AI co Aa (bp j) (Ac [4] [((1,9),true)]) hm b fun r g=>fun _ hm b=>Ax co Aa Ae (fR j) hm b fun r g=>id))⟩
abbrev yl:Bool→AV:=fun y=>vB y
@[reducible] def x9(w0:Int):Bool→List Blk:=fun y=>[⟨0,true,3,1,[vI w0]⟩]
def rY(a:Slt)(w0:Int):PT 1 (Bool):=wg<|wg<|lr yl (x9 w0) (decide (a.num=w0))
def UU(a:Slt)(w0:Int):Option (Bool):=(rY a w0).m
theorem ZSN(a:Slt)(w0:Int):KO Tryz.prog 114 1 [.agg ((Dr a).map .d),.ptr (0,0) 0 0] [⟨0,true,3,1,[vI w0]⟩] (fun _ _ _ _=>True) (UU a w0) yl (x9 w0):=Bu Tryz.func114 Tryz.ntmps114 Aa [.tmp 3] 1 (fun C co d y hm b c=>Ax co Aa Ae (rY a w0) hm c fun r g=>id) (hB:=fun y=>⟨.inr (by kernel_rfl),rfl,trivial⟩)
abbrev qA:Int→AV:=fun y=>vI y
def dq(a:List Slt)(b:Int):PT 0 (Int):=cs Tryz.prog 46 [vL Aq a,.fn (.func 114) [] [.ptr (1,3) 1 0]] [(1,3)] [((1,3),⟨1,true,3,1,[vI b]⟩)] (U8 a (fun(z0:Slt)=>UU z0 b)) (fun y=>vI y) fun c=>lr qA nG c
def y3(a:List Slt)(b:Int):Option (Int):=(dq a b).m
theorem ZU8(b:List Slt)(a:Int):KC Tryz.prog 85 [vL Aq b,vI a] (y3 b a) qA:=AF Tryz.func85 Tryz.ntmps85 Aa [.tmp 4] fun C co y hm c d=>Ax co Aa Ae (dq b a) hm d fun r g=>⟨fun y hy=>G9 (ZVo b (fun(z0:Slt)=>UU z0 a)) hy co g [] [((1,3),⟨1,true,3,1,[vI a]⟩)] (AG [(1,.fn (.func 114) [] [.ptr (r.κ (1,3)) (r.γ (1,3)+1) 0])]) (fun h e i=>(fun z0 y f=>Lr (ZSN z0 a) f co g [((1,3),⟨1,true,3,1,[vI a]⟩)] [] e (by simp) (fun _=>.top) (fun _ _=>trivial) (fun l H=>⟨fun _=>⟨rfl,by kernel_rfl⟩,by kernel_rfl,trivial⟩))) (fun H=>trivial),fun j=>id⟩
abbrev qr:Bool→AV:=fun y=>vB y
def dt(a:Val)(b:Int):PT 0 (Bool):=wg<|cl (ZU8 a.slots b) fun c=>lr qr nG (decide ((0:Int)≤c))
def jR(a:Val)(b:Int):Option (Bool):=(dt a b).m
theorem ZUv(a:Val)(b:Int):KC Tryz.prog 52 [.agg ((Ag a).map .d),vI b] (jR a b) qr:=AF Tryz.func52 Tryz.ntmps52 Aa [.tmp 4] fun C co y hm c d=>Ax co Aa Ae (dt a b) hm d fun r g=>fun e=>id
abbrev qq:Bool→AV:=fun y=>vB y
@[reducible] def qG(w0:Fld)(a:Val):Bool→List Blk:=fun y=>[⟨0,true,51,16,(cD (Az w0))⟩,⟨0,true,33,7,(cD (Ag a))⟩]
def eZ(a:Fld)(w0:Fld)(b:Val):PT 2 (Bool):=wg<|wg<|wg<|wg<|AO (!decide (a.num=w0.num)) (ZUv b a.num) fun c=>lr qq (qG w0 b) ((!decide (a.num=w0.num))&&c)
def Pw(a:Fld)(w0:Fld)(b:Val):Option (Bool):=(eZ a w0 b).m
theorem ZVm(b:Fld)(w0:Fld)(a:Val):KO Tryz.prog 51 2 [.agg ((Az b).map .d),.ptr (0,0) 0 0,.ptr (0,1) 0 0] [⟨0,true,51,16,(cD (Az w0))⟩,⟨0,true,33,7,(cD (Ag a))⟩] (fun _ _ _ _=>True) (Pw b w0 a) qq (qG w0 a):=Bu Tryz.func51 Tryz.ntmps51 Aa [.tmp 4] 2 (fun C co e y hm c d=>Ax co Aa Ae (eZ b w0 a) hm d fun r g=>fun f=>id) (hB:=fun y=>⟨.inr (by kernel_rfl),rfl,⟨.inr (by kernel_rfl),rfl,trivial⟩⟩)
abbrev dc(a:Fld):Af×Blk:=((1,4),⟨1,true,51,16,(cD (Az a))⟩)
abbrev aX(a:Val):Af×Blk:=((1,5),⟨1,true,33,7,(cD (Ag a))⟩)
abbrev qk:Bool→AV:=fun y=>vB y
def dO(d:Msg)(a:Fld)(b:Val):PT 0 (Bool):=wg<|wg<|cl (ZU3 d a.union) fun c=>cs Tryz.prog 49 [vL Az c,.fn (.func 51) [] [.ptr (1,4) 1 0,.ptr (1,5) 1 0]] [(1,4),(1,5)] [(dc a),(aX b)] (US c (fun(z0:Fld)=>Pw z0 a b)) (fun y=>vB y) fun e=>lr qk nG e
def jS(a:Msg)(b:Fld)(c:Val):Option (Bool):=(dO a b c).m
theorem ZVc(c:Msg)(a:Fld)(b:Val):KC Tryz.prog 22 [.agg ((AU c).map .d),.agg ((Az a).map .d),.agg ((Ag b).map .d)] (jS c a b) qk:=AF Tryz.func22 Tryz.ntmps22 Aa [.tmp 6] fun C co y hm d e=>Ax co Aa Ae (dO c a b) hm e fun r g=>fun i=>⟨fun y hy=>G9 (ZUx i (fun(z0:Fld)=>Pw z0 a b)) hy co g [] [(dc a),(aX b)] (AG [(1,.fn (.func 51) [] [.ptr (r.κ (1,4)) (r.γ (1,4)+1) 0,.ptr (r.κ (1,5)) (r.γ (1,5)+1) 0])]) (fun j f k=>(fun z0 y h=>Lr (ZVm z0 a b) h co g [(dc a),(aX b)] [] f (by simp) (fun _=>.top) (fun _ _=>trivial) (fun l H=>⟨fun _=>⟨rfl,by kernel_rfl⟩,by kernel_rfl,⟨fun _=>⟨rfl,by kernel_rfl⟩,by kernel_rfl,trivial⟩⟩))) (fun H=>trivial),fun m=>id⟩
abbrev qi:Bool→AV:=fun y=>vB y
@[reducible] def qD(w0:Msg)(a:Val):Bool→List Blk:=fun y=>[⟨0,true,45,5,(cD (AU w0))⟩,⟨0,true,33,7,(cD (Ag a))⟩]
def cZ(b:Slt)(w0:Msg)(a:Val):PT 2 (Bool):=wg<|wg<|cl (yg w0 b.num) fun c=>wg<|wg<|wg<|wg<|cl (ZVc w0 c.1 a) fun d=>lr qi (qD w0 a) d
def Px(a:Slt)(w0:Msg)(b:Val):Option (Bool):=(cZ a w0 b).m
theorem ZUS(b:Slt)(w0:Msg)(a:Val):KO Tryz.prog 20 2 [.agg ((Dr b).map .d),.ptr (0,0) 0 0,.ptr (0,1) 0 0] [⟨0,true,45,5,(cD (AU w0))⟩,⟨0,true,33,7,(cD (Ag a))⟩] (fun _ _ _ _=>True) (Px b w0 a) qi (qD w0 a):=Bu Tryz.func20 Tryz.ntmps20 Aa [.tmp 4] 2 (fun C co e y hm c d=>Ax co Aa Ae (cZ b w0 a) hm d fun r g=>fun f=>fun h=>id) (hB:=fun y=>⟨.inr (by kernel_rfl),rfl,⟨.inr (by kernel_rfl),rfl,trivial⟩⟩)
abbrev qs:Bool→AV:=fun y=>vB y
@[reducible] def qH(w0:Int):Bool→List Blk:=fun y=>[⟨0,true,3,1,[vI w0]⟩]
def uQ(a:Slt)(w0:Int):PT 1 (Bool):=wg<|wg<|lr qs (qH w0) (decide (a.num=w0))
def U7(a:Slt)(w0:Int):Option (Bool):=(uQ a w0).m
theorem ZUn(a:Slt)(w0:Int):KO Tryz.prog 53 1 [.agg ((Dr a).map .d),.ptr (0,0) 0 0] [⟨0,true,3,1,[vI w0]⟩] (fun _ _ _ _=>True) (U7 a w0) qs (qH w0):=Bu Tryz.func53 Tryz.ntmps53 Aa [.tmp 3] 1 (fun C co d y hm b c=>Ax co Aa Ae (uQ a w0) hm c fun r g=>id) (hB:=fun y=>⟨.inr (by kernel_rfl),rfl,trivial⟩)
def ZMa:Go.Shelf.Ren:=⟨fun|4=>86|n=>n,fun|22=>28|25=>33|n=>n,fun n=>n⟩
theorem ZH5:Go.Proofs.Lays8.n4 Tryz.prog ZMa:={
 mixed:=by kernel_rfl,
 f4:=⟨Tryz.f86.name,by decide+kernel,Tryz.func86.trans (congrArg some (by kernel_rfl))⟩,
 t0:=Tryz.underlying0,
 a0:=Tryz.isAgg0,
 z0:=Tryz.sizeOf0,
 v0:=Tryz.zeroValue0,
 t3:=Tryz.underlying3,
 a3:=Tryz.isAgg3,
 z3:=Tryz.sizeOf3,
 v3:=Tryz.zeroValue3,
 t4:=Tryz.underlying4,
 a4:=Tryz.isAgg4,
 z4:=Tryz.sizeOf4,
 v4:=Tryz.zeroValue4,
 t9:=Tryz.underlying9,
 a9:=Tryz.isAgg9,
 z9:=Tryz.sizeOf9,
 v9:=Tryz.zeroValue9,
 t20:=Tryz.underlying20,
 a20:=Tryz.isAgg20,
 z20:=Tryz.sizeOf20,
 v20:=Tryz.zeroValue20,
 t22:=Tryz.underlying28,
 a22:=Tryz.isAgg28,
 z22:=Tryz.sizeOf28,
 v22:=Tryz.zeroValue28 }
abbrev E86:List Val→AV:=fun y=>.ref (0,0) 1 0 y.length
@[reducible] def G86:List Val→List Blk:=fun y=>[⟨1,true,33,7,Ab A8 y⟩]
def kf(n:Nat):Option (List Val):=if n<549755813888 then some []else none
theorem ZUZ(n:Nat):KO Tryz.prog 86 1 [.e0,vN n] [⟨0,false,0,0,[]⟩] (fun _ _ _ _=>True) (kf n) E86 G86:=⟨fun l H ks k θ b a j i _ y hy=>by
 obtain⟨d,hy⟩:=BL hy
 cases hy
 match ks,b with
 |[m],_=>
  have hi:∃i0 z,(Tryz.prog).info? 33=some i0∧i0.zero=some z∧i0.size=7∧z.cells.size=i0.size∧i0.bytes≤256:=⟨_,_,rfl,rfl,rfl,by decide+kernel,by decide+kernel⟩
  obtain⟨i0,z,e,f,c,g,h⟩:=hi
  exact ki ZH5 i0 z e f (by rw[c];decide) g h ⟨_,AA Tryz.f86,Tryz.func86,by kernel_rfl,by kernel_rfl⟩ a.1 i.1.1 n d (by rw[c];exact⟨rfl,rfl⟩)⟩
abbrev F8:List (Af×Bool):=[((1,24),true)]
abbrev Sj:List Val→AV:=fun y=>.ref (0,0) 1 0 y.length
@[reducible] def Sx:List Val→List Blk:=fun y=>[⟨1,true,33,7,Ab A8 y⟩]
def xo(a:List (List Val)):Nat×Nat→St:=fun(b,v2)=>Ad [(0,vL D9 a),(3,vN b),(9,vL D9 a),(10,vN a.length),(11,vN v2)] []
def xj(a:List (List Val)):Nat→Nat×St:=fun v4=>(0,Ad [(0,vL D9 a),(3,vN v4)] [])
def Ro(b:List (List Val))(c:Nat)(v2:Nat):PT 1 (Lv (Nat×Nat) (Nat) (List Val)):=br (decide ((v2:Int)<(b.length:Int))) (ix b v2 fun a=>vz (An a)<|vs (wa c a.length)<|br (decide (((c+a.length:Nat):Int)<(0:Int))) (dd) (vs (wa v2 1)<|ln (xo b) (c+a.length,v2+1))) (Ai (xj b) c)
def Il(a:List (List Val)):Nat×Nat→Option (Lv (Nat×Nat) (Nat) (List Val)):=fun(b,v2)=>(Ro a b v2).m
def uD(a:List (List Val)):List Val×Nat→St:=fun(b,c)=>Ad [(6,.ref (1,24) 0 0 b.length),(25,vL D9 a),(26,vN a.length),(27,vN c)] [kk 24 33 7 (Ab A8 b)]
def xb:List Val→Nat×St:=fun a=>(2,Ad [(6,.ref (1,24) 0 0 a.length)] [kk 24 33 7 (Ab A8 a)])
def RP(d:List (List Val))(a:List Val)(b:Nat):PT 1 (Lv (List Val×Nat) (List Val) (List Val)):=br (decide ((b:Int)<(d.length:Int))) (ix d b fun c=>aq a c<|vs (wa b 1)<|vz (fl (a++c))<|ln (uD d) (a++c,b+1)) (vz (fl a)<|Ai (xb) a)
def If(a:List (List Val)):List Val×Nat→Option (Lv (List Val×Nat) (List Val) (List Val)):=fun(b,c)=>(RP a b c).m
def fQ(a:List Val):PT 1 (List Val):=vw .sep<|mv 24 0 a<|lr Sj (Sx) a
def cg(a:List (List Val))(b:List Val):PT 1 (List Val):=vz (An a)<|vz (fl b)<|lc (Ad [(6,.ref (1,24) 0 0 b.length),(25,vL D9 a),(26,vN a.length),(27,vI 0)] [kk 24 33 7 (Ab A8 b)]) ((Al (If a) Am (b,0)).bind (Sum.elim (fun c=>(fQ c).m) some))
def fq(b:List (List Val))(a:List Val):PT 1 (List Val):=vz (fl a)<|lc (Ad [(0,vL D9 b),(6,.ref (1,24) 0 0 a.length)] [kk 24 33 7 (Ab A8 a)]) ((cg b a).m)
def fF(a:List (List Val))(v4:Nat):PT 1 (List Val):=lc (Ad [(0,vL D9 a),(23,vN v4)] []) ((kf v4).bind fun b=>(fq a b).m)
def cq(a:List (List Val)):PT 1 (List Val):=vz (An a)<|lc (Ad [(0,vL D9 a),(3,vI 0),(9,vL D9 a),(10,vN a.length),(11,vI 0)] []) ((Al (Il a) Am (0,0)).bind (Sum.elim (fun v4=>(fF a v4).m) some))
def bD(a:List (List Val)):PT 1 (List Val):=lc (Ad [(0,vL D9 a),(3,vI 0)] []) ((cq a).m)
def U2(a:List (List Val)):Option (List Val):=(bD a).m
theorem ZF0{C:Cx}(co:CO C 1)(a:List (List Val)):KL Tryz.prog (AC tl) 36 C (pa [0,0,1,0,1,1] (AA Tryz.f54)) [.tmp 2] 1 (xo a) (xj a) Sj (Sx) (Il a):=fun(e,v2) _ hm Q b d c=>At co Aa Ae (Ro a e v2) (AK [0,3,9,10,11]) (AK [0,3]) d hm c fun r g=>⟨fun f=>⟨trivial,id⟩,id⟩
theorem ZIW{C:Cx}(co:CO C 1)(a:List (List Val)):KL Tryz.prog (AC tl) 36 C (pa [0,0,1,0,1,1,1,1] (AA Tryz.f54)) [.tmp 2] 1 (uD a) (xb) Sj (Sx) (If a):=fun(e,f) _ hm Q b d c=>At co Aa Ae (RP a e f) (Ac [6,25,26,27] F8) (Ac [6] F8) d hm c fun r g=>⟨fun h=>id,id⟩
theorem ZU5(b:List (List Val)):KO Tryz.prog 54 1 [vL D9 b] [⟨0,false,0,0,[]⟩] (fun _ _ _ _=>True) (U2 b) Sj (Sx):=Bu Tryz.func54 Tryz.ntmps54 Aa [.tmp 2] 1 (fun C co j y hm c a=>Aj co Aa Ae 2 (bD b) (AK [0,3]) nl nH hm a fun r g=>fun _ hm a=>sq (Aj co Aa Ae 1 (cq b) (AK [0,3,9,10,11]) nl nH hm a fun r g=>fun _ hm a=>bk 0 (lo (AE (ZF0 co b) nH hm a (fun v4 hm=>sq (rg (AM co Aa 1 (fF b v4) (AK [0,23]) hm a fun r g=>fun _ hm a=>A6 co hm 86 [.e0,vN v4] [(1,24)] ([((1,24),⟨0,false,0,0,[]⟩)]++[]) (fun z=>.ref (1,24) 1 0 z.length) (fun z=>[((1,24),⟨1,true,33,7,Ab A8 z⟩)]) [] (fun z=>trivial) (trivial) (fun z e r g=>A5 (ZUZ v4) e co g [((1,24),⟨0,false,0,0,[]⟩)] [] [((1,24),⟨1,true,33,7,Ab A8 z⟩)] (AG []) (fun i k l=>trivial) (fun H=>⟨(fun h=>by cases h),by kernel_rfl,trivial⟩) (fun H=>⟨fun _=>⟨rfl,AD (Aw _ _) (by kernel_rfl)⟩,by kernel_rfl,trivial⟩)) fun d hm=>AI co Aa (fq b d) (Ac [0,6] F8) hm a fun r g=>fun _ hm a=>sq (Aj co Aa Ae 1 (cg b d) (Ac [6,25,26,27] F8) nl nH hm a fun r g=>fun _ hm a=>bk 2 (lo (AE (ZIW co b) nH hm a (fun f hm=>Ax co Aa Ae (fQ f) hm a fun r g=>id))))))))))) (hB:=fun y=>⟨.inl (Aw _ _),rfl,trivial⟩)
abbrev ZG:List Pr→AV:=fun y=>.ref (0,0) 1 0 y.length
@[reducible] def ZN:List Pr→List Blk:=fun y=>[⟨1,true,63,14,Ab Ap y⟩]
def bO(a:List Pr):PT 1 (List Pr):=al Ap a false fun b=>br b (vw .sep<|vw (.ads 2 2 63 14)<|mv 2 0 ([]:List Pr)<|lr ZG (ZN) ([]:List Pr)) (a0 a<|mv 7 0 a<|lr ZG (ZN) a)
def Ve(a:List Pr):Option (List Pr):=(bO a).m
theorem ZUC(a:List Pr):KO Tryz.prog 87 1 [vL Ap a] [⟨0,false,0,0,[]⟩] (fun _ _ _ _=>True) (Ve a) ZG (ZN):=Bu Tryz.func87 Tryz.ntmps87 Aa [.tmp 2] 1 (fun C co f y hm c d=>Ax co Aa Ae (bO a) hm d fun r g=>⟨fun e=>⟨id,id⟩,by intro b h;subst h;cases b<;>rfl⟩) (hB:=fun y=>⟨.inl (Aw _ _),rfl,trivial⟩)
section
variable {α:Type} [Rw α] [Tid α]
abbrev GZ:List α→AV:=fun y=>.tup []
@[reducible] def G0:List α→List Blk:=fun y=>[⟨0,true,.t (Tid.t α),Rw.s α,Ab Rw.e y⟩]
def HH(a:α→α→Option Int):Cl:=fun no l H θ=>(∀(z0:α) (b:α) y,a z0 b=some y→CP Tryz.prog l no H (θ 3) [.agg ((Rw.f z0).map .d),.agg ((Rw.f b).map .d)] (vI y))
def Tu(a:List α)(b:Int)(c:Int):Int×List α→St:=fun(e,d)=>Ad [(0,.ref (0,0) 0 0 a.length),(1,vI b),(2,vI c),(3,.fn (.yield 3) [] []),(8,vI e)] [((0,0),⟨0,true,.t (Tid.t α),Rw.s α,Ab Rw.e d⟩)]
def Tn:List α→Nat×St:=fun a=>(0,Ad [] [((0,0),⟨0,true,.t (Tid.t α),Rw.s α,Ab Rw.e a⟩)])
def S6(a:List α)(b:Int)(c:Int)(e:Int):Int×List α→St:=fun(v3,d)=>Ad [(0,.ref (0,0) 0 0 a.length),(1,vI b),(2,vI c),(3,.fn (.yield 3) [] []),(8,vI e),(9,vI v3)] [((0,0),⟨0,true,.t (Tid.t α),Rw.s α,Ab Rw.e d⟩)]
def XL(b:List α)(c:Int)(d:Int)(e:Int):List α→Nat×St:=fun a=>(2,Ad [(0,.ref (0,0) 0 0 b.length),(1,vI c),(2,vI d),(3,.fn (.yield 3) [] []),(8,vI e)] [((0,0),⟨0,true,.t (Tid.t α),Rw.s α,Ab Rw.e a⟩)])
def JR(c:List α)(b:Int)(i:Int)(f:α→α→Option Int)(j:Int)(v3:Int)(a:List α):PT 1 (Lv (Int×List α) (List α) (List α)):=vg (decide (b<v3)) (AH v3 c.length (Rw.s α))<|Fl (decide (b<v3)) a v3.toNat fun g=>vg (decide (b<v3)) (wi (v3-1))<|vg (decide (b<v3)) (AH (v3-1) c.length (Rw.s α))<|Fl (decide (b<v3)) a (v3-1).toNat fun h=>HB (decide (b<v3)) Tryz.prog 3 [.agg ((Rw.f g).map .d),.agg ((Rw.f h).map .d)] (f g h) (fun y=>vI y) fun k=>br (decide (b<v3)&&decide (k<(0:Int))) (vs (wi (v3-1))<|vs (wi (v3-1))<|vs (AH (v3-1) c.length (Rw.s α))<|ca a (v3-1).toNat fun d=>vs (AH v3 c.length (Rw.s α))<|ca a v3.toNat fun e=>vs (AH v3 c.length (Rw.s α))<|vs (st a v3.toNat d)<|BY 0 ((Rw.f (d:α)).map .d) (fun _=>Hb _)<|vs (AH (v3-1) c.length (Rw.s α))<|vs (st (a.set v3.toNat d) (v3-1).toNat e)<|BY 0 ((Rw.f (e:α)).map .d) (fun _=>Hb _)<|vs (wi (v3-1))<|vz (fl ((a.set v3.toNat d).set (v3-1).toNat e))<|ln (S6 c b i j) ((v3-1),(a.set v3.toNat d).set (v3-1).toNat e)) (vz (fl a)<|Ai (XL c b i j) a)
def Fc(b:List α)(c:Int)(d:Int)(a:α→α→Option Int)(f:Int):Int×List α→Option (Lv (Int×List α) (List α) (List α)):=fun(v3,e)=>(JR b c d a f v3 e).m
def NQ(c:List α)(d:Int)(e:Int)(b:Int)(a:List α):PT 1 (Lv (Int×List α) (List α) (List α)):=vs (wi (b+1))<|vz (fl a)<|ln (Tu c d e) ((b+1),a)
def Nw(b:List α)(c:Int)(d:Int)(e:α→α→Option Int)(a:Int)(g:List α):PT 1 (Lv (Int×List α) (List α) (List α)):=vz (fl g)<|lc (Ad [(0,.ref (0,0) 0 0 b.length),(1,vI c),(2,vI d),(3,.fn (.yield 3) [] []),(8,vI a),(9,vI a)] [((0,0),⟨0,true,.t (Tid.t α),Rw.s α,Ab Rw.e g⟩)]) ((Al (Fc b c d e a) Am (a,g)).bind (Sum.elim (fun f=>(NQ b c d a f).m) (fun z=>some (.rt z))))
def NR(e:List α)(f:Int)(b:Int)(c:α→α→Option Int)(d:Int)(a:List α):PT 1 (Lv (Int×List α) (List α) (List α)):=br (decide (d<b)) (vz (fl a)<|lc (Ad [(0,.ref (0,0) 0 0 e.length),(1,vI f),(2,vI b),(3,.fn (.yield 3) [] []),(8,vI d)] [((0,0),⟨0,true,.t (Tid.t α),Rw.s α,Ab Rw.e a⟩)]) ((Nw e f b c d a).m)) (vz (fl a)<|Ai (Tn) a)
def Ig(b:List α)(c:Int)(d:Int)(a:α→α→Option Int):Int×List α→Option (Lv (Int×List α) (List α) (List α)):=fun(f,e)=>(NR b c d a f e).m
def RW(a:List α):PT 1 (List α):=lr GZ (G0) a
def RN(a:List α)(b:Int)(e:Int)(c:α→α→Option Int):PT 1 (List α):=vs (wi (b+1))<|vz (fl a)<|lc (Ad [(0,.ref (0,0) 0 0 a.length),(1,vI b),(2,vI e),(3,.fn (.yield 3) [] []),(8,vI (b+1))] [((0,0),⟨0,true,.t (Tid.t α),Rw.s α,Ab Rw.e a⟩)]) ((Al (Ig a b e c) Am ((b+1),a)).bind (Sum.elim (fun d=>(RW d).m) some))
def Jw(b:List α)(c:Int)(d:Int)(a:α→α→Option Int):Option (List α):=(RN b c d a).m
end
theorem Zx0{C:Cx}(co:CO C 1)(b:List Pr)(c:Int)(d:Int)(a:Pr→Pr→Option Int)(e:Int)(j:(HH a) C.no C.l C.H0 C.θ):KL Tryz.prog (AC tl) 53 C (pa [0,0,1,0,0,1,0,0,1] (AA Tryz.f146)) [] 1 (S6 b c d e) (XL b c d e) GZ (G0) (Fc b c d a e):=fun(v3,k) _ hm Q f i h=>At co Aa Ae (JR b c d a e v3 k) (Ac [0,1,2,3,8,9] Ah) (Ac [0,1,2,3,8] Ah) i hm h fun r g=>fun l=>fun m=>⟨⟨fun y hy=>j _ _ y hy,by intro r;kernel_rfl,by intro r y;kernel_rfl⟩,fun p=>⟨fun n=>fun o=>id,id⟩⟩
theorem ZBo{C:Cx}(co:CO C 1)(c:List Pr)(d:Int)(e:Int)(a:Pr→Pr→Option Int)(l:(HH a) C.no C.l C.H0 C.θ):KL Tryz.prog (AC tl) 53 C (pa [0,0,1] (AA Tryz.f146)) [] 1 (Tu c d e) (Tn) GZ (G0) (Ig c d e a):=fun(h,k) _ hm Q j f b=>Aj co Aa Ae 1 (NR c d e a h k) (Ac [0,1,2,3,8] Ah) (Ac [] Ah) f hm b fun r g=>⟨fun _ hm b=>sq (bk 1 (Aj co Aa Ae 1 (Nw c d e a h k) (Ac [0,1,2,3,8,9] Ah) nl f hm b fun r g=>fun _ hm b=>bk 2 (lo (El (Zx0 co c d e a h l) f hm b (fun i hm=>At co Aa Ae (NQ c d e h i) (Ac [0,1,2,3,8] Ah) nl f hm b fun r g=>id))))),id⟩
theorem u4(b:List Pr)(d:Int)(e:Int)(a:Pr→Pr→Option Int):KO Tryz.prog 146 1 [.ref (0,0) 0 0 b.length,vI d,vI e,.fn (.yield 3) [] []] [⟨0,true,63,14,Ab Ap b⟩] (HH a) (Jw b d e a) GZ (G0):=Bu Tryz.func146 Tryz.ntmps146 Aa [] 1 (fun C co i y hm h c=>Aj co Aa Ae 1 (RN b d e a) (Ac [0,1,2,3,8] Ah) nl nH hm c fun r g=>fun _ hm c=>bk 0 (lo (AE (ZBo co b d e a i) nH hm c (fun f hm=>B4 (RW f) co hm c (fun r g=>id) r g)))) (hB:=fun y=>⟨.inl (Aw _ _),rfl,trivial⟩)
section
variable {α:Type} [Rw α] [Tid α]
abbrev Kp:List α→AV:=fun y=>.tup []
@[reducible] def Kq:List α→List Blk:=fun y=>[⟨0,true,.t (Tid.t α),Rw.s α,Ab Rw.e y⟩]
def WP(a:List α)(b:Int)(c:Int)(d:Int):Nat×List α→St:=fun(f,e)=>Ad [(0,.ref (0,0) 0 0 a.length),(1,vI b),(2,vI c),(3,vI d),(10,vN f)] [((0,0),⟨0,true,.t (Tid.t α),Rw.s α,Ab Rw.e e⟩)]
def V6:List α→Nat×St:=fun a=>(0,Ad [] [((0,0),⟨0,true,.t (Tid.t α),Rw.s α,Ab Rw.e a⟩)])
def M5(f:List α)(b:Int)(c:Int)(h:Int)(a:Nat)(d:List α):PT 1 (Lv (Nat×List α) (List α) (List α)):=br (decide ((a:Int)<h)) (vs (wi (b+(a:Int)))<|vs (wi (c+(a:Int)))<|vs (wi (c+(a:Int)))<|vs (AH (c+(a:Int)) f.length (Rw.s α))<|ca d (c+(a:Int)).toNat fun e=>vs (wi (b+(a:Int)))<|vs (AH (b+(a:Int)) f.length (Rw.s α))<|ca d (b+(a:Int)).toNat fun g=>vs (AH (b+(a:Int)) f.length (Rw.s α))<|vs (st d (b+(a:Int)).toNat e)<|BY 0 ((Rw.f (e:α)).map .d) (fun _=>Hb _)<|vs (AH (c+(a:Int)) f.length (Rw.s α))<|vs (st (d.set (b+(a:Int)).toNat e) (c+(a:Int)).toNat g)<|BY 0 ((Rw.f (g:α)).map .d) (fun _=>Hb _)<|vs (wa a 1)<|vz (fl ((d.set (b+(a:Int)).toNat e).set (c+(a:Int)).toNat g))<|ln (WP f b c h) (a+1,(d.set (b+(a:Int)).toNat e).set (c+(a:Int)).toNat g)) (vz (fl d)<|Ai (V6) d)
def JH(a:List α)(b:Int)(c:Int)(d:Int):Nat×List α→Option (Lv (Nat×List α) (List α) (List α)):=fun(f,e)=>(M5 a b c d f e).m
def Qg(a:List α):PT 1 (List α):=lr Kp (Kq) a
def QB(a:List α)(b:Int)(c:Int)(d:Int):PT 1 (List α):=vz (fl a)<|lc (Ad [(0,.ref (0,0) 0 0 a.length),(1,vI b),(2,vI c),(3,vI d),(10,vI 0)] [((0,0),⟨0,true,.t (Tid.t α),Rw.s α,Ab Rw.e a⟩)]) ((Al (JH a b c d) Am (0,a)).bind (Sum.elim (fun e=>(Qg e).m) some))
def H2(a:List α)(b:Int)(c:Int)(d:Int):Option (List α):=(QB a b c d).m
end
theorem Zzq{C:Cx}(co:CO C 1)(a:List Pr)(b:Int)(c:Int)(d:Int):KL Tryz.prog (AC tl) 38 C (pa [0,0,1] (AA Tryz.f167)) [] 1 (WP a b c d) (V6) Kp (Kq) (JH a b c d):=fun(j,i) _ hm Q e h f=>At co Aa Ae (M5 a b c d j i) (Ac [0,1,2,3,10] Ah) (Ac [] Ah) h hm f fun r g=>⟨fun k=>fun l=>id,id⟩
theorem eJ(a:List Pr)(c:Int)(d:Int)(e:Int):KO Tryz.prog 167 1 [.ref (0,0) 0 0 a.length,vI c,vI d,vI e,.fn (.yield 4) [] []] [⟨0,true,63,14,Ab Ap a⟩] (fun _ _ _ _=>True) (H2 a c d e) Kp (Kq):=Bu Tryz.func167 Tryz.ntmps167 Aa [] 1 (fun C co i y hm f b=>Aj co Aa Ae 1 (QB a c d e) (Ac [0,1,2,3,10] Ah) nl nH hm b fun r g=>fun _ hm b=>bk 0 (lo (AE (Zzq co a c d e) nH hm b (fun h hm=>B4 (Qg h) co hm b (fun r g=>id) r g)))) (hB:=fun y=>⟨.inl (Aw _ _),rfl,trivial⟩)
section
variable {α:Type} [Rw α] [Tid α]
abbrev Kz:List α→AV:=fun y=>.tup []
@[reducible] def KH:List α→List Blk:=fun y=>[⟨0,true,.t (Tid.t α),Rw.s α,Ab Rw.e y⟩]
def Qu(a:List α)(b:Int):Int×Int×List α→St:=fun(d,v2,c)=>Ad [(0,.ref (0,0) 0 0 a.length),(2,vI b),(4,.fn (.yield 4) [] []),(10,vI d),(11,vI v2)] [((0,0),⟨0,true,.t (Tid.t α),Rw.s α,Ab Rw.e c⟩)]
def V9(a:List α)(b:Int):Int×List α→Nat×St:=fun(d,c)=>(0,Ad [(0,.ref (0,0) 0 0 a.length),(2,vI b),(4,.fn (.yield 4) [] []),(10,vI d)] [((0,0),⟨0,true,.t (Tid.t α),Rw.s α,Ab Rw.e c⟩)])
def Lw(c:List α)(d:Int)(a:Int)(v2:Int)(b:List α):PT 1 (Lv (Int×Int×List α) (Int×List α) (List α)):=vs (wi (a-v2))<|vz (fl b)<|ln (Qu c d) ((a-v2),v2,b)
def K8(b:List α)(c:Int)(d:Int)(v2:Int)(a:List α):PT 1 (Lv (Int×Int×List α) (Int×List α) (List α)):=vz (fl a)<|lc (Ad [(0,.ref (0,0) 0 0 b.length),(2,vI c),(4,.fn (.yield 4) [] []),(10,vI d),(11,vI v2)] [((0,0),⟨0,true,.t (Tid.t α),Rw.s α,Ab Rw.e a⟩)]) ((Lw b c d v2 a).m)
def Lu(c:List α)(a:Int)(b:Int)(v2:Int)(d:List α):PT 1 (Lv (Int×Int×List α) (Int×List α) (List α)):=vs (wi (a-b))<|vz (fl d)<|lc (Ad [(0,.ref (0,0) 0 0 c.length),(2,vI a),(4,.fn (.yield 4) [] []),(10,vI b),(11,vI v2),(24,.ref (0,0) 0 0 c.length),(27,vI (a-b)),(28,vI a),(29,vI v2),(30,.fn (.yield 4) [] [])] [((0,0),⟨0,true,.t (Tid.t α),Rw.s α,Ab Rw.e d⟩)]) (if c.length=d.length then(H2 d (a-b) a v2).bind fun e=>(K8 c a b v2 e).m else none)
def Lb(c:List α)(d:Int)(a:Int)(v2:Int)(b:List α):PT 1 (Lv (Int×Int×List α) (Int×List α) (List α)):=vs (wi (v2-a))<|vz (fl b)<|ln (Qu c d) (a,(v2-a),b)
def Lc(b:List α)(c:Int)(d:Int)(v2:Int)(a:List α):PT 1 (Lv (Int×Int×List α) (Int×List α) (List α)):=vz (fl a)<|lc (Ad [(0,.ref (0,0) 0 0 b.length),(2,vI c),(4,.fn (.yield 4) [] []),(10,vI d),(11,vI v2)] [((0,0),⟨0,true,.t (Tid.t α),Rw.s α,Ab Rw.e a⟩)]) ((Lb b c d v2 a).m)
def Ld(c:List α)(b:Int)(a:Int)(v2:Int)(d:List α):PT 1 (Lv (Int×Int×List α) (Int×List α) (List α)):=vs (wi (b-a))<|vs (wi (b+v2))<|vs (wi ((b+v2)-a))<|vz (fl d)<|lc (Ad [(0,.ref (0,0) 0 0 c.length),(2,vI b),(4,.fn (.yield 4) [] []),(10,vI a),(11,vI v2),(35,.ref (0,0) 0 0 c.length),(38,vI (b-a)),(43,vI ((b+v2)-a)),(44,vI a),(45,.fn (.yield 4) [] [])] [((0,0),⟨0,true,.t (Tid.t α),Rw.s α,Ab Rw.e d⟩)]) (if c.length=d.length then(H2 d (b-a) ((b+v2)-a) a).bind fun e=>(Lc c b a v2 e).m else none)
def Li(c:List α)(d:Int)(a:Int)(v2:Int)(b:List α):PT 1 (Lv (Int×Int×List α) (Int×List α) (List α)):=vz (fl b)<|lc (Ad [(0,.ref (0,0) 0 0 c.length),(2,vI d),(4,.fn (.yield 4) [] []),(10,vI a),(11,vI v2),(23,vB (decide (v2<a)))] [((0,0),⟨0,true,.t (Tid.t α),Rw.s α,Ab Rw.e b⟩)]) (if decide (v2<a)=true then(Lu c d a v2 b).m else(Ld c d a v2 b).m)
def Lx(c:List α)(d:Int)(b:Int)(v2:Int)(a:List α):PT 1 (Lv (Int×Int×List α) (Int×List α) (List α)):=br (!decide (b=v2)) (vz (fl a)<|lc (Ad [(0,.ref (0,0) 0 0 c.length),(2,vI d),(4,.fn (.yield 4) [] []),(10,vI b),(11,vI v2)] [((0,0),⟨0,true,.t (Tid.t α),Rw.s α,Ab Rw.e a⟩)]) ((Li c d b v2 a).m)) (vz (fl a)<|Ai (V9 c d) (b,a))
def Gz(a:List α)(b:Int):Int×Int×List α→Option (Lv (Int×Int×List α) (Int×List α) (List α)):=fun(d,v2,c)=>(Lx a b d v2 c).m
def QA(a:List α):PT 1 (List α):=lr Kz (KH) a
def P8(a:List α):PT 1 (List α):=vz (fl a)<|lc (Ad [] [((0,0),⟨0,true,.t (Tid.t α),Rw.s α,Ab Rw.e a⟩)]) ((QA a).m)
def Qa(d:List α)(a:Int)(b:Int)(c:List α):PT 1 (List α):=vs (wi (a-b))<|vz (fl c)<|lc (Ad [(50,.ref (0,0) 0 0 d.length),(53,vI (a-b)),(54,vI a),(55,vI b),(56,.fn (.yield 4) [] [])] [((0,0),⟨0,true,.t (Tid.t α),Rw.s α,Ab Rw.e c⟩)]) (if d.length=c.length then(H2 c (a-b) a b).bind fun e=>(P8 e).m else none)
def PV(b:List α)(c:Int)(a:Int)(d:Int):PT 1 (List α):=vs (wi (a-c))<|vs (wi (d-a))<|vz (fl b)<|lc (Ad [(0,.ref (0,0) 0 0 b.length),(2,vI a),(4,.fn (.yield 4) [] []),(10,vI (a-c)),(11,vI (d-a))] [((0,0),⟨0,true,.t (Tid.t α),Rw.s α,Ab Rw.e b⟩)]) ((Al (Gz b a) Am ((a-c),(d-a),b)).bind (Sum.elim (fun(f,e)=>(Qa b a f e).m) some))
def KY(a:List α)(b:Int)(c:Int)(d:Int):Option (List α):=(PV a b c d).m
end
theorem Zy5{C:Cx}(co:CO C 1)(d:List Pr)(a:Int):KL Tryz.prog (AC tl) 58 C (pa [0,0,0,1,1] (AA Tryz.f161)) [] 1 (Qu d a) (V9 d a) Kz (KH) (Gz d a):=fun(b,v2,e) _ hm Q i f c=>Aj co Aa Ae 1 (Lx d a b v2 e) (Ac [0,2,4,10,11] Ah) (Ac [0,2,4,10] Ah) f hm c fun r g=>⟨fun _ hm c=>bk 1 (Aj co Aa Ae 1 (Li d a b v2 e) (Ac [0,2,4,10,11,23] Ah) nl f hm c fun r g=>fun _ hm c=>cd (decide (v2<b)) hm (fun hm=>sq (rg (AM co Aa 7 (Lu d a b v2 e) (Ac [0,2,4,10,11,24,27,28,29,30] Ah) hm c fun r g=>fun _ hm c=>BV hm fun heq hm=>A6 co hm 167 [.ref (0,0) 0 0 d.length,vI (a-b),vI a,vI v2,.fn (.yield 4) [] []] [(0,0)] ([((0,0),⟨0,true,63,14,Ab Ap e⟩)]++[]) (fun z=>.tup []) (fun z=>[((0,0),⟨0,true,63,14,Ab Ap z⟩)]) [] (fun z=>⟨co.W 0 (by decide),trivial⟩) (trivial) (fun z h r g=>A5 (eJ e (a-b) a v2) h co g [((0,0),⟨0,true,63,14,Ab Ap e⟩)] [] [((0,0),⟨0,true,63,14,Ab Ap z⟩)] (AG [(4,r.θ 4)]) (fun l m n=>trivial) (fun H=>⟨fun _=>⟨rfl,AD (Aw _ _) (by kernel_rfl)⟩,by kernel_rfl,trivial⟩) (fun H=>⟨fun _=>⟨rfl,AD (Aw _ _) (by kernel_rfl)⟩,by kernel_rfl,trivial⟩) (hx:=by intro H;rw[heq];kernel_rfl)) fun j hm=>AI co Aa (K8 d a b v2 j) (Ac [0,2,4,10,11] Ah) hm c fun r g=>fun _ hm c=>At co Aa Ae (Lw d a b v2 j) (Ac [0,2,4,10,11] Ah) nl f hm c fun r g=>id))) (fun hm=>sq (rg (AM co Aa 11 (Ld d a b v2 e) (Ac [0,2,4,10,11,35,38,43,44,45] Ah) hm c fun r g=>fun _ hm c=>BV hm fun heq hm=>A6 co hm 167 [.ref (0,0) 0 0 d.length,vI (a-b),vI ((a+v2)-b),vI b,.fn (.yield 4) [] []] [(0,0)] ([((0,0),⟨0,true,63,14,Ab Ap e⟩)]++[]) (fun z=>.tup []) (fun z=>[((0,0),⟨0,true,63,14,Ab Ap z⟩)]) [] (fun z=>⟨co.W 0 (by decide),trivial⟩) (trivial) (fun z h r g=>A5 (eJ e (a-b) ((a+v2)-b) b) h co g [((0,0),⟨0,true,63,14,Ab Ap e⟩)] [] [((0,0),⟨0,true,63,14,Ab Ap z⟩)] (AG [(4,r.θ 4)]) (fun l m n=>trivial) (fun H=>⟨fun _=>⟨rfl,AD (Aw _ _) (by kernel_rfl)⟩,by kernel_rfl,trivial⟩) (fun H=>⟨fun _=>⟨rfl,AD (Aw _ _) (by kernel_rfl)⟩,by kernel_rfl,trivial⟩) (hx:=by intro H;rw[heq];kernel_rfl)) fun k hm=>AI co Aa (Lc d a b v2 k) (Ac [0,2,4,10,11] Ah) hm c fun r g=>fun _ hm c=>At co Aa Ae (Lb d a b v2 k) (Ac [0,2,4,10,11] Ah) nl f hm c fun r g=>id)))),id⟩
theorem ZSD(c:List Pr)(f:Int)(a:Int)(h:Int):KO Tryz.prog 161 1 [.ref (0,0) 0 0 c.length,vI f,vI a,vI h,.fn (.yield 4) [] []] [⟨0,true,63,14,Ab Ap c⟩] (fun _ _ _ _=>True) (KY c f a h) Kz (KH):=Bu Tryz.func161 Tryz.ntmps161 Aa [] 1 (fun C co m y hm i b=>Aj co Aa Ae 2 (PV c f a h) (Ac [0,2,4,10,11] Ah) nl nH hm b fun r g=>fun _ hm b=>sq (bk 0 (lo (AE (Zy5 co c a) nH hm b (fun(d,e) hm=>rg (AM co Aa 7 (Qa c a d e) (Ac [50,53,54,55,56] Ah) hm b fun r g=>fun _ hm b=>BV hm fun heq hm=>A6 co hm 167 [.ref (0,0) 0 0 c.length,vI (a-d),vI a,vI d,.fn (.yield 4) [] []] [(0,0)] ([((0,0),⟨0,true,63,14,Ab Ap e⟩)]++[]) (fun z=>.tup []) (fun z=>[((0,0),⟨0,true,63,14,Ab Ap z⟩)]) [] (fun z=>⟨co.W 0 (by decide),trivial⟩) (trivial) (fun z k r g=>A5 (eJ e (a-d) a d) k co g [((0,0),⟨0,true,63,14,Ab Ap e⟩)] [] [((0,0),⟨0,true,63,14,Ab Ap z⟩)] (AG [(4,r.θ 4)]) (fun l n o=>trivial) (fun H=>⟨fun _=>⟨rfl,AD (Aw _ _) (by kernel_rfl)⟩,by kernel_rfl,trivial⟩) (fun H=>⟨fun _=>⟨rfl,AD (Aw _ _) (by kernel_rfl)⟩,by kernel_rfl,trivial⟩) (hx:=by intro H;rw[heq];kernel_rfl)) fun j hm=>AI co Aa (P8 j) (Ac [] Ah) hm b fun r g=>fun _ hm b=>B4 (QA j) co hm b (fun r g=>id) r g)))))) (hB:=fun y=>⟨.inl (Aw _ _),rfl,trivial⟩)
end Go.Proofs.YtjbijbkdiijhaaaGreat
