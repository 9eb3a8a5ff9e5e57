import Derived.Test.YtbcmdieedjamgaaGreatZd16
import Derived.Test.YtbcmdieedjamgaaGreatZd00
namespace Go.Proofs.YtbcmdieedjamgaaGreat
set_option maxRecDepth 100000
set_option linter.all false
open Go Go.Eng
abbrev bD:Int→AV:=fun y=>vI y
def i7(b:Val)(a:Val):PT 0 (Int):=wg<|wg<|br (!decide (b.kind=a.kind)) (wg<|wg<|cl (OI b.kind a.kind) fun c=>lr bD nG c) (wg<|cl (ww a) fun f=>wg<|cl (ww b) fun d=>wg<|wg<|wg<|wg<|cl (ZUi d a) fun e=>lr bD nG e)
def TP(a:Val)(b:Val):Option (Int):=(i7 a b).m
theorem xw(a:Val)(b:Val):KC Tryz.prog 114 [.agg ((Ae a).map .d),.agg ((Ae b).map .d)] (TP a b) bD:=kC Tryz.func114 Tryz.ntmps114 [.tmp 4] fun co m L=>fO co m L
abbrev zd:Int→AV:=fun y=>vI y
def mm(a:Pr)(b:Pr):PT 0 (Int):=wg<|wg<|cl (xw a.key b.key) fun c=>lr zd nG c
def MQ(a:Pr)(b:Pr):Option (Int):=(mm a b).m
theorem ZWr(a:Pr)(b:Pr):KC Tryz.prog 113 [.agg ((NP a).map .d),.agg ((NP b).map .d)] (MQ a b) zd:=kC Tryz.func113 Tryz.ntmps113 [.tmp 4] fun co m L=>fO co m L
abbrev ZXu:Bool→AV:=fun y=>vB y
def pE(a:Val)(b:Val):PT 0 (Bool):=wg<|wg<|cl (xw a b) fun c=>lr ZXu nG (decide (c=(0:Int)))
def eM(a:Val)(b:Val):Option (Bool):=(pE a b).m
theorem ZUc(a:Val)(b:Val):KC Tryz.prog 115 [.agg ((Ae a).map .d),.agg ((Ae b).map .d)] (eM a b) ZXu:=kC Tryz.func115 Tryz.ntmps115 [.tmp 4] fun co m L=>fO co m L
abbrev O6(a:List Pr):Ad×Blk:=kk 8 63 14 (Ab Aq a)
abbrev Xn:List Pr→AV:=fun y=>vL Aq y
def Zk(a:List Pr):List Pr×Nat→St:=fun(b,v4)=>Ac [(3,.ref (1,8) 0 0 a.length),(4,.ref (1,4) 0 0 b.length),(11,.ref (1,8) 0 0 a.length),(12,vN a.length),(13,vN v4)] [kk 4 63 14 (Ab Aq b),(O6 a)]
def uQ:List Pr→Nat×St:=fun a=>(0,Ac [(4,.ref (1,4) 0 0 a.length)] [kk 4 63 14 (Ab Aq a)])
def Zw(a:List Pr)(b:List Pr)(v4:Nat):PT 0 (Lv (List Pr×Nat) (List Pr) (List Pr)):=br (decide ((v4:Int)<(a.length:Int))) (vs (ir v4 a.length 14)<|ca a v4 fun c=>wg<|vs (wa v4 1)<|vz (Br a.length)<|wg<|vg (!(decide (((v4+1:Nat):Int)=(a.length:Int)))) (wa v4 1)<|vg (!(decide (((v4+1:Nat):Int)=(a.length:Int)))) (ir (v4+1) a.length 14)<|cpg (!(decide (((v4+1:Nat):Int)=(a.length:Int)))) a (v4+1) 0 7 fun d=>AE (!(decide (((v4+1:Nat):Int)=(a.length:Int)))) (ZUc c.key d.key) fun e=>br (decide (((v4+1:Nat):Int)=(a.length:Int))||(!e)) (wg<|vw .sep<|ap b (c:Pr)<|vs (wa v4 1)<|vz (fl (b++[c]))<|vz (fl a)<|ln (Zk a) (b++[c],v4+1)) (vs (wa v4 1)<|vz (fl b)<|vz (fl a)<|ln (Zk a) (b,v4+1))) (vz (fl b)<|Af (uQ) b)
def NJ(b:List Pr):List Pr×Nat→Option (Lv (List Pr×Nat) (List Pr) (List Pr)):=fun(a,v4)=>(Zw b a v4).m
def vC(a:List Pr):PT 0 (List Pr):=vz (fr a)<|lr Xn nG a
def qn(a:List Pr):PT 0 (List Pr):=vw (.ads 4 4 63 14)<|vz (fl ([]:List Pr))<|vz (fl a)<|lc (Ac [(3,.ref (1,8) 0 0 a.length),(4,.ref (1,4) 0 0 ([]:List Pr).length),(11,.ref (1,8) 0 0 a.length),(12,vN a.length),(13,vI 0)] [kk 4 63 14 (Ab Aq ([]:List Pr)),(O6 a)]) ((Aj (NJ a) Ag (([]:List Pr),0)).bind (Sum.elim (fun b=>(vC b).m) some))
def qP(a:List Pr):PT 0 (List Pr):=vz (Br a.length)<|vz (fl a)<|lc (Ac [(3,.ref (1,8) 0 0 a.length),(4,.e0),(11,.ref (1,8) 0 0 a.length),(12,vN a.length),(13,vI 0)] [(O6 a)]) ((qn a).m)
def xb(a:List Pr):PT 0 (List Pr):=vz (fl a)<|lc (Ac [(3,.ref (1,8) 0 0 a.length),(4,.e0)] [(O6 a)]) ((qP a).m)
def tC(b:List Pr)(a:List Pr):PT 0 (List Pr):=rn 3 8 b.length a<|vz (fl a)<|lc (Ac [(3,.ref (1,8) 0 0 a.length)] [(O6 a)]) ((xb a).m)
def sk(a:List Pr):PT 0 (List Pr):=vz (fl a)<|lc (Ac [(3,.ref (1,8) 0 0 a.length),(9,.ref (1,8) 0 0 a.length)] [kk 8 63 14 (Ab Aq a)]) ((FN a (fun(z0:Pr) (c:Pr)=>MQ z0 c)).bind fun b=>(tC a b).m)
def xA(a:List Pr):PT 0 (List Pr):=vz (fl a)<|lc (Ac [(3,.ref (1,8) 0 0 a.length)] [kk 8 63 14 (Ab Aq a)]) ((sk a).m)
def yU(a:List Pr):PT 0 (List Pr):=lc (Ac [(7,vL Aq a)] []) ((TT a).bind fun b=>(xA b).m)
def po(a:List Pr):PT 0 (List Pr):=lc (Ac [(0,vL Aq a)] []) ((yU a).m)
def eZ(a:List Pr):Option (List Pr):=(po a).m
theorem ZEN{C:Cx}(co:CO C 0)(b:List Pr):KL Tryz.prog (As tl) 41 C (pa [0,0,1,0,1,1,1,1] (At Tryz.f83)) [.tmp 2] 0 (Zk b) (uQ) Xn nG (NJ b):=fun(d,v4) _ m Q a c L=>eN co (Aa [3,4,11,12,13] [((1,4),true),((1,8),true)]) (Aa [4] [((1,4),true)]) c m L
theorem ZZF(a:List Pr):KC Tryz.prog 83 [vL Aq a] (eZ a) Xn:=DO Tryz.func83 Tryz.ntmps83 AS [.tmp 2] fun C co y m c L=>mJ co 1 (AD [0]) nl nH m L fun r g=>fun _ m L=>sq (rg (pR co 1 (AD [7]) m L fun r g=>fun _ m L=>c6 co m (ZTZ a) [((1,8),⟨0,false,0,0,[]⟩)] [] (fun z=>.ref (1,8) 1 0 z.length) (fun z=>[((1,8),⟨1,true,63,14,Ab Aq z⟩)]) [] fun d m=>eR co (Aa [3] [((1,8),true)]) m L fun r g=>fun _ m L=>sq (rg (pR co 1 (Aa [3,9] [((1,8),true)]) m L fun r g=>fun _ m L=>c6 (θ:=fun _=>AA [(1,.fn (.func 113) [] [])]) (hΘ:=fun r g h i j=>(fun z0 b y e=>jj (ZWr z0 b) e)) co m (ZVy d (fun(z0:Pr) (b:Pr)=>MQ z0 b)) [kk 8 63 14 (Ab Aq d)] [] (fun z=>.tup []) (fun z=>[kk 8 63 14 (Ab Aq z)]) [] fun f m=>eR co (Aa [3] [((1,8),true)]) m L fun r g=>fun _ m L=>mJ co 1 (Aa [3,4] [((1,8),true)]) nl nH m L fun r g=>fun _ m L=>sq (mJ co 1 (Aa [3,4,11,12,13] [((1,8),true)]) nl nH m L fun r g=>fun _ m L=>bk 0 (cM co (Aa [3,4,11,12,13] [((1,4),true),((1,8),true)]) m L fun r g=>fun _ m L=>lo (Ax (ZEN co f) nH m L (fun k m=>fO co m L))))))))
def ZFY:Go.Shelf.Ren:=⟨fun|4=>116|n=>n,fun|22=>31|25=>63|n=>n,fun n=>n⟩
theorem Zzr:Go.Proofs.Lays8.n4 Tryz.prog ZFY:={
 mixed:=by kernel_rfl,
 f4:=⟨Tryz.f116.name,by decide+kernel,Tryz.func116.trans (congrArg some (by kernel_rfl))⟩,
 t0:=Tryz.underlying0,
 a0:=Tryz.isAgg0,
 z0:=Tryz.sizeOf0,
 v0:=Tryz.zeroValue0,
 t3:=Tryz.underlying3,
 a3:=Tryz.isAgg3,
 z3:=Tryz.sizeOf3,
 v3:=Tryz.zeroValue3,
 t4:=Tryz.underlying4,
 a4:=Tryz.isAgg4,
 z4:=Tryz.sizeOf4,
 v4:=Tryz.zeroValue4,
 t9:=Tryz.underlying9,
 a9:=Tryz.isAgg9,
 z9:=Tryz.sizeOf9,
 v9:=Tryz.zeroValue9,
 t20:=Tryz.underlying20,
 a20:=Tryz.isAgg20,
 z20:=Tryz.sizeOf20,
 v20:=Tryz.zeroValue20,
 t22:=Tryz.underlying31,
 a22:=Tryz.isAgg31,
 z22:=Tryz.sizeOf31,
 v22:=Tryz.zeroValue31 }
abbrev ZYh:List Pr→AV:=fun y=>.ref (0,0) 1 0 y.length
@[reducible] def ZYx:List Pr→List Blk:=fun y=>[⟨1,true,63,14,Ab Aq y⟩]
def fL(n:Nat):Option (List Pr):=if n<549755813888 then some []else none
theorem ZUN(n:Nat):KO Tryz.prog 116 1 [.e0,vN n] [⟨0,false,0,0,[]⟩] (fun _ _ _ _=>True) (fL n) ZYh ZYx:=⟨fun l H ks k θ b a j i _ y hy=>by
 obtain⟨d,hy⟩:=BD hy
 cases hy
 match ks,b with
 |[m],_=>
  have hi:∃i0 z,(Tryz.prog).info? 63=some i0∧i0.zero=some z∧i0.size=14∧z.cells.size=i0.size∧i0.bytes≤256:=⟨_,_,rfl,rfl,rfl,by decide+kernel,by decide+kernel⟩
  obtain⟨i0,z,e,f,c,g,h⟩:=hi
  exact fB Zzr i0 z e f (by rw[c];decide) g h ⟨_,At Tryz.f116,Tryz.func116,by kernel_rfl,by kernel_rfl⟩ a.1 i.1.1 n d (by rw[c];exact⟨rfl,rfl⟩)⟩
abbrev RK:List Pr→AV:=fun y=>.ref (0,0) 1 0 y.length
@[reducible] def RP:List Pr→List Blk:=fun y=>[⟨1,true,63,14,Ab Aq y⟩]
def rP(a:List (List Pr)):Nat×Nat→St:=fun(b,v2)=>Ac [(0,vL Fp a),(3,vN b),(9,vL Fp a),(10,vN a.length),(11,vN v2)] []
def tD(a:List (List Pr)):Nat→Nat×St:=fun v4=>(0,Ac [(0,vL Fp a),(3,vN v4)] [])
def W4(b:List (List Pr))(c:Nat)(v2:Nat):PT 1 (Lv (Nat×Nat) (Nat) (List Pr)):=br (decide ((v2:Int)<(b.length:Int))) (ix b v2 fun a=>vz (Ai a)<|vs (wa c a.length)<|br (decide (((c+a.length:Nat):Int)<(0:Int))) (dd) (vs (wa v2 1)<|ln (rP b) (c+a.length,v2+1))) (Af (tD b) c)
def Ir(a:List (List Pr)):Nat×Nat→Option (Lv (Nat×Nat) (Nat) (List Pr)):=fun(b,v2)=>(W4 a b v2).m
def sK(a:List (List Pr)):List Pr×Nat→St:=fun(b,c)=>Ac [(6,.ref (1,24) 0 0 b.length),(25,vL Fp a),(26,vN a.length),(27,vN c)] [kk 24 63 14 (Ab Aq b)]
def uY:List Pr→Nat×St:=fun a=>(2,Ac [(6,.ref (1,24) 0 0 a.length)] [kk 24 63 14 (Ab Aq a)])
def WS(d:List (List Pr))(a:List Pr)(b:Nat):PT 1 (Lv (List Pr×Nat) (List Pr) (List Pr)):=br (decide ((b:Int)<(d.length:Int))) (ix d b fun c=>aq a c<|vs (wa b 1)<|vz (fl (a++c))<|ln (sK d) (a++c,b+1)) (vz (fl a)<|Af (uY) a)
def Iu(a:List (List Pr)):List Pr×Nat→Option (Lv (List Pr×Nat) (List Pr) (List Pr)):=fun(b,c)=>(WS a b c).m
def p8(a:List Pr):PT 1 (List Pr):=vw .sep<|mv 24 0 a<|lr RK (RP) a
def tE(a:List (List Pr))(b:List Pr):PT 1 (List Pr):=vz (Ai a)<|vz (fl b)<|lc (Ac [(6,.ref (1,24) 0 0 b.length),(25,vL Fp a),(26,vN a.length),(27,vI 0)] [kk 24 63 14 (Ab Aq b)]) ((Aj (Iu a) Ag (b,0)).bind (Sum.elim (fun c=>(p8 c).m) some))
def sd(b:List (List Pr))(a:List Pr):PT 1 (List Pr):=vz (fl a)<|lc (Ac [(0,vL Fp b),(6,.ref (1,24) 0 0 a.length)] [kk 24 63 14 (Ab Aq a)]) ((tE b a).m)
def qN(a:List (List Pr))(v4:Nat):PT 1 (List Pr):=lc (Ac [(0,vL Fp a),(23,vN v4)] []) ((fL v4).bind fun b=>(sd a b).m)
def rN(a:List (List Pr)):PT 1 (List Pr):=vz (Ai a)<|lc (Ac [(0,vL Fp a),(3,vI 0),(9,vL Fp a),(10,vN a.length),(11,vI 0)] []) ((Aj (Ir a) Ag (0,0)).bind (Sum.elim (fun v4=>(qN a v4).m) some))
def wS(a:List (List Pr)):PT 1 (List Pr):=lc (Ac [(0,vL Fp a),(3,vI 0)] []) ((rN a).m)
def TD(a:List (List Pr)):Option (List Pr):=(wS a).m
theorem ZFU{C:Cx}(co:CO C 1)(a:List (List Pr)):KL Tryz.prog (As tl) 36 C (pa [0,0,1,0,1,1] (At Tryz.f84)) [.tmp 2] 1 (rP a) (tD a) RK (RP) (Ir a):=fun(e,v2) _ m Q b c L=>eN co (AD [0,3,9,10,11]) (AD [0,3]) c m L fun r g=>⟨fun d=>⟨trivial,id⟩,id⟩
theorem ZGg{C:Cx}(co:CO C 1)(b:List (List Pr)):KL Tryz.prog (As tl) 36 C (pa [0,0,1,0,1,1,1,1] (At Tryz.f84)) [.tmp 2] 1 (sK b) (uY) RK (RP) (Iu b):=fun(d,e) _ m Q a c L=>eN co (Aa [6,25,26,27] Gb) (Aa [6] Gb) c m L
theorem ZY8(a:List (List Pr)):KO Tryz.prog 84 1 [vL Fp a] [⟨0,false,0,0,[]⟩] (fun _ _ _ _=>True) (TD a) RK (RP):=kO Tryz.func84 Tryz.ntmps84 [.tmp 2] 1 (fun co b m L=>mJ co 2 (AD [0,3]) nl nH m L fun r g=>fun _ m L=>sq (mJ co 1 (AD [0,3,9,10,11]) nl nH m L fun r g=>fun _ m L=>bk 0 (lo (Ax (ZFU co a) nH m L (fun v4 m=>sq (rg (pR co 1 (AD [0,23]) m L fun r g=>fun _ m L=>c6 co m (ZUN v4) [((1,24),⟨0,false,0,0,[]⟩)] [] (fun z=>.ref (1,24) 1 0 z.length) (fun z=>[((1,24),⟨1,true,63,14,Ab Aq z⟩)]) [] fun d m=>eR co (Aa [0,6] Gb) m L fun r g=>fun _ m L=>sq (mJ co 1 (Aa [6,25,26,27] Gb) nl nH m L fun r g=>fun _ m L=>bk 2 (lo (Ax (ZGg co a) nH m L (fun c m=>fO co m L)))))))))))
theorem ZvL{C:Cx}(co:CO C 1)(b:List Slt)(c:Int)(d:Int)(a:Slt→Slt→Option Int)(e:Int)(i:(IE a) C.no C.l C.H0 C.θ):KL Tryz.prog (As tl) 53 C (pa [0,0,1,0,0,1,0,0,1] (At Tryz.f117)) [] 1 (Vh b c d e) (Vo b c d e) Hy (HD) (Fi b c d a e):=fun(v3,o) _ m Q f h L=>eN co (Aa [0,1,2,3,8,9] Ah) (Aa [0,1,2,3,8] Ah) h m L fun r g=>fun j=>fun k=>⟨⟨fun y hy=>i _ _ y hy,by intro r;kernel_rfl,by intro r y;kernel_rfl⟩,fun p=>⟨fun l=>fun n=>id,id⟩⟩
theorem Zwv{C:Cx}(co:CO C 1)(c:List Slt)(d:Int)(e:Int)(a:Slt→Slt→Option Int)(h:(IE a) C.no C.l C.H0 C.θ):KL Tryz.prog (As tl) 53 C (pa [0,0,1] (At Tryz.f117)) [] 1 (U6 c d e) (Vv) Hy (HD) (H8 c d e a):=fun(j,k) _ m Q f b L=>mJ co 1 (Aa [0,1,2,3,8] Ah) (Aa [] Ah) b m L fun r g=>⟨fun _ m L=>sq (bk 1 (mJ co 1 (Aa [0,1,2,3,8,9] Ah) nl b m L fun r g=>fun _ m L=>bk 2 (lo (Et (ZvL co c d e a j h) b m L (fun i m=>eN co (Aa [0,1,2,3,8] Ah) nl b m L))))),id⟩
theorem uT(b:List Slt)(c:Int)(d:Int)(a:Slt→Slt→Option Int):KO Tryz.prog 117 1 [.ref (0,0) 0 0 b.length,vI c,vI d,.fn (.yield 3) [] []] [⟨0,true,58,8,Ab Ap b⟩] (IE a) (JE b c d a) Hy (HD):=kO Tryz.func117 Tryz.ntmps117 [] 1 (fun co f m L=>mJ co 1 (Aa [0,1,2,3,8] Ah) nl nH m L fun r g=>fun _ m L=>bk 0 (lo (Ax (Zwv co b c d a f) nH m L (fun e m=>BX (Qs e) co m L (fun r g=>id) r g))))
theorem ZxD{C:Cx}(co:CO C 1)(b:List Slt)(c:Int)(d:Int)(e:Int):KL Tryz.prog (As tl) 38 C (pa [0,0,1] (At Tryz.f170)) [] 1 (UW b c d e) (U9) KX (KP) (JU b c d e):=fun(h,g) _ m Q a f L=>eN co (Aa [0,1,2,3,10] Ah) (Aa [] Ah) f m L
theorem X6(a:List Slt)(b:Int)(c:Int)(d:Int):KO Tryz.prog 170 1 [.ref (0,0) 0 0 a.length,vI b,vI c,vI d,.fn (.yield 4) [] []] [⟨0,true,58,8,Ab Ap a⟩] (fun _ _ _ _=>True) (HW a b c d) KX (KP):=kO Tryz.func170 Tryz.ntmps170 [] 1 (fun co f m L=>mJ co 1 (Aa [0,1,2,3,10] Ah) nl nH m L fun r g=>fun _ m L=>bk 0 (lo (Ax (ZxD co a b c d) nH m L (fun e m=>BX (Qh e) co m L (fun r g=>id) r g))))
theorem Zwa{C:Cx}(co:CO C 1)(c:List Slt)(a:Int):KL Tryz.prog (As tl) 58 C (pa [0,0,0,1,1] (At Tryz.f148)) [] 1 (Qi c a) (VJ c a) KW (KQ) (GJ c a):=fun(b,v2,e) _ m Q f d L=>mJ co 1 (Aa [0,2,4,10,11] Ah) (Aa [0,2,4,10] Ah) d m L fun r g=>⟨fun _ m L=>bk 1 (mJ co 1 (Aa [0,2,4,10,11,23] Ah) nl d m L fun r g=>fun _ m L=>Bg m (fun m=>sq (rg (pR co 7 (Aa [0,2,4,10,11,24,27,28,29,30] Ah) m L fun r g=>fun _ m L=>BK m fun heq m=>c6 (θ:=fun r=>AA [(4,r.θ 4)]) (xs:=[.ref (0,0) 0 0 c.length,vI (a-b),vI a,vI v2,.fn (.yield 4) [] []]) (hx:=by intro r H;rw[heq];kernel_rfl) co m (X6 e (a-b) a v2) [((0,0),⟨0,true,58,8,Ab Ap e⟩)] [] (fun z=>.tup []) (fun z=>[((0,0),⟨0,true,58,8,Ab Ap z⟩)]) [] fun h m=>eR co (Aa [0,2,4,10,11] Ah) m L fun r g=>fun _ m L=>eN co (Aa [0,2,4,10,11] Ah) nl d m L))) (fun m=>sq (rg (pR co 11 (Aa [0,2,4,10,11,35,38,43,44,45] Ah) m L fun r g=>fun _ m L=>BK m fun heq m=>c6 (θ:=fun r=>AA [(4,r.θ 4)]) (xs:=[.ref (0,0) 0 0 c.length,vI (a-b),vI ((a+v2)-b),vI b,.fn (.yield 4) [] []]) (hx:=by intro r H;rw[heq];kernel_rfl) co m (X6 e (a-b) ((a+v2)-b) b) [((0,0),⟨0,true,58,8,Ab Ap e⟩)] [] (fun z=>.tup []) (fun z=>[((0,0),⟨0,true,58,8,Ab Ap z⟩)]) [] fun i m=>eR co (Aa [0,2,4,10,11] Ah) m L fun r g=>fun _ m L=>eN co (Aa [0,2,4,10,11] Ah) nl d m L)))),id⟩
theorem ZUB(b:List Slt)(d:Int)(a:Int)(e:Int):KO Tryz.prog 148 1 [.ref (0,0) 0 0 b.length,vI d,vI a,vI e,.fn (.yield 4) [] []] [⟨0,true,58,8,Ab Ap b⟩] (fun _ _ _ _=>True) (Le b d a e) KW (KQ):=kO Tryz.func148 Tryz.ntmps148 [] 1 (fun co i m L=>mJ co 2 (Aa [0,2,4,10,11] Ah) nl nH m L fun r g=>fun _ m L=>sq (bk 0 (lo (Ax (Zwa co b a) nH m L (fun(c,f) m=>rg (pR co 7 (Aa [50,53,54,55,56] Ah) m L fun r g=>fun _ m L=>BK m fun heq m=>c6 (θ:=fun r=>AA [(4,r.θ 4)]) (xs:=[.ref (0,0) 0 0 b.length,vI (a-c),vI a,vI c,.fn (.yield 4) [] []]) (hx:=by intro r H;rw[heq];kernel_rfl) co m (X6 f (a-c) a c) [((0,0),⟨0,true,58,8,Ab Ap f⟩)] [] (fun z=>.tup []) (fun z=>[((0,0),⟨0,true,58,8,Ab Ap z⟩)]) [] fun h m=>eR co (Aa [] Ah) m L fun r g=>fun _ m L=>BX (Qw h) co m L (fun r g=>id) r g))))))
theorem Zzy{C:Cx}(co:CO C 1)(c:List Slt)(d:Int)(a:Slt→Slt→Option Int)(b:(List Slt)→Int→Int→Int→(Slt→Slt→Option Int)→Option (List Slt))(n:∀(c:List Slt) (d:Int) (f:Int) (h:Int) (a:Slt→Slt→Option Int),KO Tryz.prog 118 1 [.ref (0,0) 0 0 c.length,vI d,vI f,vI h,.fn (.yield 4) [] []] [⟨0,true,58,8,Ab Ap c⟩] (Bs a) (b c d f h a) A2 (A3))(j:(Bs a) C.no C.l C.H0 C.θ):KL Tryz.prog (As tl) 220 C (pa [0,0,0,1,1,0,1,0] (At Tryz.f118)) [] 1 (Qa c d) (Vg c d) A2 (A3) (GI c d a b):=fun(o,v2) _ m Q e i L=>eN co (Aa [0,1,4,10,11] Ah) (Aa [0,1,10] Ah) i m L fun r g=>⟨fun k=>fun l=>⟨⟨fun y hy=>j _ _ y hy,by intro r;kernel_rfl,by intro r y;kernel_rfl⟩,fun p=>⟨id,id⟩⟩,id⟩
theorem ZxJ{C:Cx}(co:CO C 1)(c:List Slt)(a:Slt→Slt→Option Int)(b:(List Slt)→Int→Int→Int→(Slt→Slt→Option Int)→Option (List Slt))(h:Int)(j:∀(c:List Slt) (e:Int) (f:Int) (g:Int) (a:Slt→Slt→Option Int),KO Tryz.prog 118 1 [.ref (0,0) 0 0 c.length,vI e,vI f,vI g,.fn (.yield 4) [] []] [⟨0,true,58,8,Ab Ap c⟩] (Bs a) (b c e f g a) A2 (A3))(k:(Bs a) C.no C.l C.H0 C.θ):KL Tryz.prog (As tl) 220 C (pa [0,0,1,0,1,1,1,0,1,0] (At Tryz.f118)) [] 1 (VH c h) (UT) A2 (A3) (H6 c a b h):=fun(n,l) _ m Q d i L=>eN co (Aa [0,10,13] Ah) (Aa [] Ah) i m L
theorem ZxG{C:Cx}(co:CO C 1)(c:List Slt)(d:Int)(a:Slt→Slt→Option Int)(b:(List Slt)→Int→Int→Int→(Slt→Slt→Option Int)→Option (List Slt))(q:∀(c:List Slt) (f:Int) (d:Int) (h:Int) (a:Slt→Slt→Option Int),KO Tryz.prog 118 1 [.ref (0,0) 0 0 c.length,vI f,vI d,vI h,.fn (.yield 4) [] []] [⟨0,true,58,8,Ab Ap c⟩] (Bs a) (b c f d h a) A2 (A3))(l:(Bs a) C.no C.l C.H0 C.θ):KL Tryz.prog (As tl) 220 C (pa [0,0,0,1,1,0,1,0,1] (At Tryz.f118)) [] 1 (Qd c d) (U7 c d) A2 (A3) (GK c d a b):=fun(n,o) _ m Q e k L=>eN co (Aa [0,2,4,14,15] Ah) (Aa [0,2,14] Ah) k m L fun r g=>⟨fun i=>fun j=>⟨⟨fun y hy=>l _ _ y hy,by intro r;kernel_rfl,by intro r y;kernel_rfl⟩,fun p=>⟨id,id⟩⟩,id⟩
theorem Zwg{C:Cx}(co:CO C 1)(c:List Slt)(a:Slt→Slt→Option Int)(b:(List Slt)→Int→Int→Int→(Slt→Slt→Option Int)→Option (List Slt))(d:Int)(l:∀(c:List Slt) (f:Int) (g:Int) (h:Int) (a:Slt→Slt→Option Int),KO Tryz.prog 118 1 [.ref (0,0) 0 0 c.length,vI f,vI g,vI h,.fn (.yield 4) [] []] [⟨0,true,58,8,Ab Ap c⟩] (Bs a) (b c f g h a) A2 (A3))(n:(Bs a) C.no C.l C.H0 C.θ):KL Tryz.prog (As tl) 220 C (pa [0,0,1,0,1,1,1,0,1,0,1] (At Tryz.f118)) [] 1 (U0 c d) (Vi) A2 (A3) (GL c a b d):=fun(k,j) _ m Q e i L=>eN co (Aa [0,14,17] Ah) (Aa [] Ah) i m L
theorem Zv3{C:Cx}(co:CO C 1)(c:List Slt)(d:Int)(e:Int)(f:Int)(a:Slt→Slt→Option Int)(b:(List Slt)→Int→Int→Int→(Slt→Slt→Option Int)→Option (List Slt))(q:∀(c:List Slt) (d:Int) (e:Int) (f:Int) (a:Slt→Slt→Option Int),KO Tryz.prog 118 1 [.ref (0,0) 0 0 c.length,vI d,vI e,vI f,.fn (.yield 4) [] []] [⟨0,true,58,8,Ab Ap c⟩] (Bs a) (b c d e f a) A2 (A3))(l:(Bs a) C.no C.l C.H0 C.θ):KL Tryz.prog (As tl) 220 C (pa [0,0,0,1,1,1,1,1,1,1] (At Tryz.f118)) [] 1 (Qb c d e f) (UU c d e f) A2 (A3) (Dj c d e f a b):=fun(n,o) _ m Q h k L=>eN co (Aa [0,1,2,3,4,18,19,20,21,22] Ah) (Aa [0,1,2,3,4,18,19,20] Ah) k m L fun r g=>⟨fun i=>fun j=>⟨⟨fun y hy=>l _ _ y hy,by intro r;kernel_rfl,by intro r y;kernel_rfl⟩,fun p=>⟨id,id⟩⟩,id⟩
theorem ZKQ(d:(List Slt)→Int→Int→Int→(Slt→Slt→Option Int)→Option (List Slt))(i:∀(e:List Slt) (c:Int) (h:Int) (b:Int) (a:Slt→Slt→Option Int),KO Tryz.prog 118 1 [.ref (0,0) 0 0 e.length,vI c,vI h,vI b,.fn (.yield 4) [] []] [⟨0,true,58,8,Ab Ap e⟩] (Bs a) (d e c h b a) A2 (A3))(e:List Slt)(c:Int)(h:Int)(b:Int)(a:Slt→Slt→Option Int):KO Tryz.prog 118 1 [.ref (0,0) 0 0 e.length,vI c,vI h,vI b,.fn (.yield 4) [] []] [⟨0,true,58,8,Ab Ap e⟩] (Bs a) (Wa d e c h b a) A2 (A3):=EV Tryz.func118 Tryz.ntmps118 AS [] 1 (fun C co j y m D L=>sq (mJ co 1 (Aa [0,1,2,3,4,28] Ah) nl nH m L fun r g=>fun _ m L=>Bg m (fun m=>mJ co 2 (Aa [0,1,4,10,11] Ah) nl nH m L fun r g=>fun _ m L=>sq (bk 0 (lo (Ax (Zzy co e c a d i j) nH m L (fun J m=>sq (mJ co 1 (Aa [0,10,13] Ah) nl nH m L fun r g=>fun _ m L=>bk 2 (lo (Ax (ZxJ co e a d J i j) nH m L (fun E m=>eN co nl nl nH m L))))))))) (fun m=>eN co (Aa [0,1,2,3,4] Ah) nl nH m L fun r g=>fun _ m L=>sq (mJ co 1 (Aa [0,1,2,3,4,80] Ah) nl nH m L fun r g=>fun _ m L=>Bg m (fun m=>mJ co 2 (Aa [0,2,4,14,15] Ah) nl nH m L fun r g=>fun _ m L=>sq (bk 4 (lo (Ax (ZxG co e h a d i j) nH m L (fun v m=>sq (mJ co 1 (Aa [0,14,17] Ah) nl nH m L fun r g=>fun _ m L=>bk 6 (lo (Ax (Zwg co e a d v i j) nH m L (fun F m=>eN co nl nl nH m L))))))))) (fun m=>eN co (Aa [0,1,2,3,4] Ah) nl nH m L fun r g=>fun _ m L=>ai co AS BM 5 (Lp e c h b a d) (Aa [0,1,2,3,4,18,19,20,21,22] Ah) nl nH m L (PI e c h b a d) (JL e c h b a d) (fun(G,I) _ m L=>sq (bk 8 (lo (Ax (Zv3 co e c h b a d i j) nH m L (fun f m=>mJ co 1 (Aa [0,1,2,3,4,18,20,24] Ah) nl nH m L fun r g=>fun _ m L=>sq (mJ co 1 (Aa [0,1,2,3,4,18,20,24,185] Ah) nl nH m L fun r g=>fun _ m L=>Bg m (fun m=>rg (pR co 5 (Aa [0,1,3,4,18,20,24,186,187,188,189,190] Ah) m L fun r g=>fun _ m L=>c6 (θ:=fun r=>AA [(4,r.θ 4)]) co m (ZUB e f h (((IntKind.i64.wrap (Al .u64 (IntKind.u64.wrap (c+b)) 1))+h)-f)) [((0,0),⟨0,true,58,8,Ab Ap e⟩)] [] (fun z=>.tup []) (fun z=>[((0,0),⟨0,true,58,8,Ab Ap z⟩)]) [] fun o m=>eR co (Aa [0,1,3,4,18,20,24] Ah) m L fun r g=>fun _ m L=>sq (mJ co 1 (Aa [0,1,3,4,18,20,24,199] Ah) nl nH m L fun r g=>fun _ m L=>Bg m (fun m=>rg (pR co 5 (Aa [0,3,4,18,24,200,201,202,203,204] Ah) m L fun r g=>fun _ m L=>BK m fun heq m=>c6 (θ:=fun r=>AA [(4,r.θ 4)]) (hΘ:=fun r g p s k=>(fun z0 n y l=>Bx co g _ k (j z0 n y l))) (xs:=[.ref (0,0) 0 0 e.length,vI c,vI f,vI (IntKind.i64.wrap (Al .u64 (IntKind.u64.wrap (c+b)) 1)),.fn (.yield 4) [] []]) (hx:=by intro r H;rw[heq];kernel_rfl) co m (i o c f (IntKind.i64.wrap (Al .u64 (IntKind.u64.wrap (c+b)) 1)) a) [((0,0),⟨0,true,58,8,Ab Ap o⟩)] [] (fun z=>.tup []) (fun z=>[((0,0),⟨0,true,58,8,Ab Ap z⟩)]) [] fun t m=>eR co (Aa [0,3,4,18,24] Ah) m L fun r g=>fun _ m L=>mJ co 1 (Aa [0,3,4,18,24,213] Ah) nl nH m L fun r g=>fun _ m L=>Bg m (fun m=>rg (pR co 5 (Aa [214,215,216,217,218] Ah) m L fun r g=>fun _ m L=>BK m fun heq m=>c6 (θ:=fun r=>AA [(4,r.θ 4)]) (hΘ:=fun r g p s k=>(fun z0 n y l=>Bx co g _ k (j z0 n y l))) (xs:=[.ref (0,0) 0 0 e.length,vI (IntKind.i64.wrap (Al .u64 (IntKind.u64.wrap (c+b)) 1)),vI (((IntKind.i64.wrap (Al .u64 (IntKind.u64.wrap (c+b)) 1))+h)-f),vI b,.fn (.yield 4) [] []]) (hx:=by intro r H;rw[heq];kernel_rfl) co m (i t (IntKind.i64.wrap (Al .u64 (IntKind.u64.wrap (c+b)) 1)) (((IntKind.i64.wrap (Al .u64 (IntKind.u64.wrap (c+b)) 1))+h)-f) b a) [((0,0),⟨0,true,58,8,Ab Ap t⟩)] [] (fun z=>.tup []) (fun z=>[((0,0),⟨0,true,58,8,Ab Ap z⟩)]) [] fun w m=>eR co (Aa [] Ah) m L fun r g=>fun _ m L=>BX (PV w) co m L (fun r g=>id) r g)) (fun m=>fO co m L))) (fun m=>eN co (Aa [0,3,4,18,24] Ah) nl nH m L fun r g=>fun _ m L=>mJ co 1 (Aa [0,3,4,18,24,213] Ah) nl nH m L fun r g=>fun _ m L=>Bg m (fun m=>rg (pR co 5 (Aa [214,215,216,217,218] Ah) m L fun r g=>fun _ m L=>BK m fun heq m=>c6 (θ:=fun r=>AA [(4,r.θ 4)]) (hΘ:=fun r g p s k=>(fun z0 n y l=>Bx co g _ k (j z0 n y l))) (xs:=[.ref (0,0) 0 0 e.length,vI (IntKind.i64.wrap (Al .u64 (IntKind.u64.wrap (c+b)) 1)),vI (((IntKind.i64.wrap (Al .u64 (IntKind.u64.wrap (c+b)) 1))+h)-f),vI b,.fn (.yield 4) [] []]) (hx:=by intro r H;rw[heq];kernel_rfl) co m (i o (IntKind.i64.wrap (Al .u64 (IntKind.u64.wrap (c+b)) 1)) (((IntKind.i64.wrap (Al .u64 (IntKind.u64.wrap (c+b)) 1))+h)-f) b a) [((0,0),⟨0,true,58,8,Ab Ap o⟩)] [] (fun z=>.tup []) (fun z=>[((0,0),⟨0,true,58,8,Ab Ap z⟩)]) [] fun x m=>eR co (Aa [] Ah) m L fun r g=>fun _ m L=>BX (PX x) co m L (fun r g=>id) r g)) (fun m=>fO co m L))))) (fun m=>eN co (Aa [0,1,3,4,18,20,24] Ah) nl nH m L fun r g=>fun _ m L=>sq (mJ co 1 (Aa [0,1,3,4,18,20,24,199] Ah) nl nH m L fun r g=>fun _ m L=>Bg m (fun m=>rg (pR co 5 (Aa [0,3,4,18,24,200,201,202,203,204] Ah) m L fun r g=>fun _ m L=>c6 (θ:=fun r=>AA [(4,r.θ 4)]) (hΘ:=fun r g p s k=>(fun z0 n y l=>Bx co g _ k (j z0 n y l))) co m (i e c f (IntKind.i64.wrap (Al .u64 (IntKind.u64.wrap (c+b)) 1)) a) [((0,0),⟨0,true,58,8,Ab Ap e⟩)] [] (fun z=>.tup []) (fun z=>[((0,0),⟨0,true,58,8,Ab Ap z⟩)]) [] fun u m=>eR co (Aa [0,3,4,18,24] Ah) m L fun r g=>fun _ m L=>mJ co 1 (Aa [0,3,4,18,24,213] Ah) nl nH m L fun r g=>fun _ m L=>Bg m (fun m=>rg (pR co 5 (Aa [214,215,216,217,218] Ah) m L fun r g=>fun _ m L=>BK m fun heq m=>c6 (θ:=fun r=>AA [(4,r.θ 4)]) (hΘ:=fun r g p s k=>(fun z0 n y l=>Bx co g _ k (j z0 n y l))) (xs:=[.ref (0,0) 0 0 e.length,vI (IntKind.i64.wrap (Al .u64 (IntKind.u64.wrap (c+b)) 1)),vI (((IntKind.i64.wrap (Al .u64 (IntKind.u64.wrap (c+b)) 1))+h)-f),vI b,.fn (.yield 4) [] []]) (hx:=by intro r H;rw[heq];kernel_rfl) co m (i u (IntKind.i64.wrap (Al .u64 (IntKind.u64.wrap (c+b)) 1)) (((IntKind.i64.wrap (Al .u64 (IntKind.u64.wrap (c+b)) 1))+h)-f) b a) [((0,0),⟨0,true,58,8,Ab Ap u⟩)] [] (fun z=>.tup []) (fun z=>[((0,0),⟨0,true,58,8,Ab Ap z⟩)]) [] fun A m=>eR co (Aa [] Ah) m L fun r g=>fun _ m L=>BX (PW A) co m L (fun r g=>id) r g)) (fun m=>fO co m L))) (fun m=>eN co (Aa [0,3,4,18,24] Ah) nl nH m L fun r g=>fun _ m L=>mJ co 1 (Aa [0,3,4,18,24,213] Ah) nl nH m L fun r g=>fun _ m L=>Bg m (fun m=>rg (pR co 5 (Aa [214,215,216,217,218] Ah) m L fun r g=>fun _ m L=>c6 (θ:=fun r=>AA [(4,r.θ 4)]) (hΘ:=fun r g p s k=>(fun z0 n y l=>Bx co g _ k (j z0 n y l))) co m (i e (IntKind.i64.wrap (Al .u64 (IntKind.u64.wrap (c+b)) 1)) (((IntKind.i64.wrap (Al .u64 (IntKind.u64.wrap (c+b)) 1))+h)-f) b a) [((0,0),⟨0,true,58,8,Ab Ap e⟩)] [] (fun z=>.tup []) (fun z=>[((0,0),⟨0,true,58,8,Ab Ap z⟩)]) [] fun B m=>eR co (Aa [] Ah) m L fun r g=>fun _ m L=>BX (P0 B) co m L (fun r g=>id) r g)) (fun m=>fO co m L)))))))))) fun q r g=>⟨q ((((IntKind.i64.wrap (Al .u64 (IntKind.u64.wrap (c+b)) 1))+h)-b),(IntKind.i64.wrap (Al .u64 (IntKind.u64.wrap (c+b)) 1))),q (c,h)⟩)))))
theorem aU:∀(f:Nat) (b:List Slt) (c:Int) (d:Int) (e:Int) (a:Slt→Slt→Option Int),KO Tryz.prog 118 1 [.ref (0,0) 0 0 b.length,vI c,vI d,vI e,.fn (.yield 4) [] []] [⟨0,true,58,8,Ab Ap b⟩] (Bs a) (C7 f b c d e a) A2 (A3)
 |0,b,c,d,e,a=>⟨fun _ _ _ _ _ _ _ _ _ _ _ h=>(by cases h)⟩
 |f+1,b,c,d,e,a=>ZKQ (C7 f) (aU f) b c d e a
end Go.Proofs.YtbcmdieedjamgaaGreat
namespace Go.Proofs.YtbcmdieedjamgaaGreat
set_option maxRecDepth 100000
set_option linter.all false
open Go Go.Eng
theorem ZFS{C:Cx}(co:CO C 1)(b:List Slt)(c:Int)(a:Slt→Slt→Option Int)(i:(FE a) C.no C.l C.H0 C.θ):KL Tryz.prog (As tl) 63 C (pa [0,0,0,1,1] (At Tryz.f85)) [] 1 (Wo b c) (VT b c) EZ (E0) (Ii b c a):=fun(h,v2,f) _ m Q d e L=>mJ co 1 (Aa [0,1,2,6,7,8] Ah) (Aa [0,1,2,6,7] Ah) e m L fun r g=>⟨fun _ m L=>bk 1 (sq (rg (pR co 4 (Aa [0,1,2,6,8,14,15,16,17] Ah) m L fun r g=>fun _ m L=>BK m fun heq m=>c6 (θ:=fun r=>AA [(3,r.θ 2)]) (hΘ:=fun r g n o j=>(fun z0 l y k=>Bx co g _ j (i z0 l y k))) (xs:=[.ref (0,0) 0 0 b.length,vN h,vN v2,.fn (.yield 2) [] []]) (hx:=by intro r H;rw[heq];kernel_rfl) co m (uT f (h:Int) (v2:Int) a) [((0,0),⟨0,true,58,8,Ab Ap f⟩)] [] (fun z=>.tup []) (fun z=>[((0,0),⟨0,true,58,8,Ab Ap z⟩)]) [] fun p m=>eR co (Aa [0,1,2,6,8] Ah) m L fun r g=>fun _ m L=>eN co (Aa [0,1,2,6,7,8] Ah) nl e m L))),id⟩
theorem ZII{C:Cx}(co:CO C 1)(f:List Slt)(h:Int)(b:Slt→Slt→Option Int)(e:Nat)(k:(FE b) C.no C.l C.H0 C.θ):KL Tryz.prog (As tl) 63 C (pa [0,0,0,1,0,1,0,0,1,1,1,1] (At Tryz.f85)) [] 1 (W6 f h e) (Wn f h e) EZ (E0) (Ib f h b e):=fun(a,c,d) _ m Q i j L=>mJ co 1 (Aa [0,1,2,6,7,8] Ah) (Aa [0,1,2,6,7] Ah) j m L fun r g=>⟨fun _ m L=>bk 5 (sq (rg (pR co 7 (Aa [0,1,2,6,8,36,37,40,41,42] Ah) m L fun r g=>fun _ m L=>BK m fun heq m=>c6 (θ:=fun r=>AA [(4,r.θ 2)]) (hΘ:=fun r g q s l=>(fun z0 p y n=>Bx co g _ l (k z0 p y n))) (xs:=[.ref (0,0) 0 0 f.length,vN a,vN (a+e),vN c,.fn (.yield 2) [] []]) (hx:=by intro r H;rw[heq];kernel_rfl) co m (aU ((c:Int)-(a:Int)+1).toNat d (a:Int) ((a+e:Nat):Int) (c:Int) b) [((0,0),⟨0,true,58,8,Ab Ap d⟩)] [] (fun z=>.tup []) (fun z=>[((0,0),⟨0,true,58,8,Ab Ap z⟩)]) [] fun o m=>eR co (Aa [0,1,2,6,8] Ah) m L fun r g=>fun _ m L=>eN co (Aa [0,1,2,6,7,8] Ah) nl j m L))),id⟩
theorem ZIR{C:Cx}(co:CO C 1)(f:List Slt)(d:Int)(b:Slt→Slt→Option Int)(j:(FE b) C.no C.l C.H0 C.θ):KL Tryz.prog (As tl) 63 C (pa [0,0,1,1,1,1] (At Tryz.f85)) [] 1 (QI f d) (W5) EZ (E0) (GP f d b):=fun(h,s) _ m Q i c L=>mJ co 1 (Aa [0,1,2,6] Ah) (Aa [] Ah) c m L fun r g=>⟨fun _ m L=>bk 3 (mJ co 1 (Aa [0,1,2,6,7,8] Ah) nl c m L fun r g=>fun _ m L=>sq (bk 4 (lo (Et (ZII co f d b h j) c m L (fun(a,e) m=>sq (mJ co 2 (Aa [0,1,2,6,7,9,54] Ah) nl c m L fun r g=>fun _ m L=>Bg m (fun m=>rg (pR co 5 (Aa [0,1,2,6,55,56,57,58,59] Ah) m L fun r g=>fun _ m L=>BK m fun heq m=>c6 (θ:=fun r=>AA [(4,r.θ 2)]) (hΘ:=fun r g p q k=>(fun z0 o y l=>Bx co g _ k (j z0 o y l))) (xs:=[.ref (0,0) 0 0 f.length,vN a,vN (a+h),vI d,.fn (.yield 2) [] []]) (hx:=by intro r H;rw[heq];kernel_rfl) co m (aU (d-(a:Int)+1).toNat e (a:Int) ((a+h:Nat):Int) d b) [((0,0),⟨0,true,58,8,Ab Ap e⟩)] [] (fun z=>.tup []) (fun z=>[((0,0),⟨0,true,58,8,Ab Ap z⟩)]) [] fun n m=>eR co (Aa [0,1,2,6] Ah) m L fun r g=>fun _ m L=>eN co (Aa [0,1,2,6] Ah) nl c m L)) (fun m=>eN co (Aa [0,1,2,6] Ah) nl c m L fun r g=>fun _ m L=>eN co (Aa [0,1,2,6] Ah) nl c m L))))))),id⟩
theorem ZZh(b:List Slt)(c:Int)(a:Slt→Slt→Option Int):KO Tryz.prog 85 1 [.ref (0,0) 0 0 b.length,vI c,.fn (.yield 2) [] []] [⟨0,true,58,8,Ab Ap b⟩] (FE a) (MP b c a) EZ (E0):=EV Tryz.func85 Tryz.ntmps85 AS [] 1 (fun C co d y m f L=>mJ co 2 (Aa [0,1,2,6,7,8] Ah) nl nH m L fun r g=>fun _ m L=>sq (bk 0 (lo (Ax (ZFS co b c a d) nH m L (fun(i,h) m=>sq (rg (pR co 4 (Aa [0,1,2,6,23,24,25,26] Ah) m L fun r g=>fun _ m L=>BK m fun heq m=>c6 (θ:=fun r=>AA [(3,r.θ 2)]) (hΘ:=fun r g n o j=>(fun z0 l y k=>Bx co g _ j (d z0 l y k))) (xs:=[.ref (0,0) 0 0 b.length,vN i,vI c,.fn (.yield 2) [] []]) (hx:=by intro r H;rw[heq];kernel_rfl) co m (uT h (i:Int) c a) [((0,0),⟨0,true,58,8,Ab Ap h⟩)] [] (fun z=>.tup []) (fun z=>[((0,0),⟨0,true,58,8,Ab Ap z⟩)]) [] fun p m=>eR co (Aa [0,1,2,6] Ah) m L fun r g=>fun _ m L=>bk 2 (lo (Ax (ZIR co b c a d) nH m L (fun e m=>BX (Qv e) co m L (fun r g=>id) r g))))))))))
theorem ZYn(b:List Slt)(a:Slt→Slt→Option Int):KO Tryz.prog 43 1 [.ref (0,0) 0 0 b.length,.fn (.yield 1) [] []] [⟨0,true,58,8,Ab Ap b⟩] (Xt a) (FN b a) Rr (RN):=EV Tryz.func43 Tryz.ntmps43 AS [] 1 (fun C co d y m c L=>rg (pR co 4 (Aa [4,6,7] Ah) m L fun r g=>fun _ m L=>c6 (θ:=fun r=>AA [(2,r.θ 1)]) (hΘ:=fun r g j k e=>(fun z0 i y f=>Bx co g _ e (d z0 i y f))) co m (ZZh b (b.length:Int) a) [((0,0),⟨0,true,58,8,Ab Ap b⟩)] [] (fun z=>.tup []) (fun z=>[((0,0),⟨0,true,58,8,Ab Ap z⟩)]) [] fun h m=>eR co (Aa [] Ah) m L fun r g=>fun _ m L=>BX (Qx h) co m L (fun r g=>id) r g))
abbrev kc:Int→AV:=fun y=>vI y
def pS(a:Slt)(b:Slt):PT 0 (Int):=wg<|wg<|cl (OI a.num b.num) fun c=>lr kc nG c
def MO(a:Slt)(b:Slt):Option (Int):=(pS a b).m
theorem ZYS(a:Slt)(b:Slt):KC Tryz.prog 44 [.agg ((Dk a).map .d),.agg ((Dk b).map .d)] (MO a b) kc:=kC Tryz.func44 Tryz.ntmps44 [.tmp 4] fun co m L=>fO co m L
def ZGn:Go.Shelf.Ren:=⟨fun|4=>119|n=>n,fun|22=>33|25=>65|n=>n,fun n=>n⟩
theorem ZxI:Go.Proofs.Lays8.n4 Tryz.prog ZGn:={
 mixed:=by kernel_rfl,
 f4:=⟨Tryz.f119.name,by decide+kernel,Tryz.func119.trans (congrArg some (by kernel_rfl))⟩,
 t0:=Tryz.underlying0,
 a0:=Tryz.isAgg0,
 z0:=Tryz.sizeOf0,
 v0:=Tryz.zeroValue0,
 t3:=Tryz.underlying3,
 a3:=Tryz.isAgg3,
 z3:=Tryz.sizeOf3,
 v3:=Tryz.zeroValue3,
 t4:=Tryz.underlying4,
 a4:=Tryz.isAgg4,
 z4:=Tryz.sizeOf4,
 v4:=Tryz.zeroValue4,
 t9:=Tryz.underlying9,
 a9:=Tryz.isAgg9,
 z9:=Tryz.sizeOf9,
 v9:=Tryz.zeroValue9,
 t20:=Tryz.underlying20,
 a20:=Tryz.isAgg20,
 z20:=Tryz.sizeOf20,
 v20:=Tryz.zeroValue20,
 t22:=Tryz.underlying33,
 a22:=Tryz.isAgg33,
 z22:=Tryz.sizeOf33,
 v22:=Tryz.zeroValue33 }
abbrev ZYJ:List Raw→AV:=fun y=>.ref (0,0) 1 0 y.length
@[reducible] def ZYX:List Raw→List Blk:=fun y=>[⟨1,true,65,4,Ab Au y⟩]
def fj(n:Nat):Option (List Raw):=if n<549755813888 then some []else none
theorem ZVE(n:Nat):KO Tryz.prog 119 1 [.e0,vN n] [⟨0,false,0,0,[]⟩] (fun _ _ _ _=>True) (fj n) ZYJ ZYX:=⟨fun l H ks k θ b a j i _ y hy=>by
 obtain⟨d,hy⟩:=BD hy
 cases hy
 match ks,b with
 |[m],_=>
  have hi:∃i0 z,(Tryz.prog).info? 65=some i0∧i0.zero=some z∧i0.size=4∧z.cells.size=i0.size∧i0.bytes≤256:=⟨_,_,rfl,rfl,rfl,by decide+kernel,by decide+kernel⟩
  obtain⟨i0,z,e,f,c,g,h⟩:=hi
  exact fB ZxI i0 z e f (by rw[c];decide) g h ⟨_,At Tryz.f119,Tryz.func119,by kernel_rfl,by kernel_rfl⟩ a.1 i.1.1 n d (by rw[c];exact⟨rfl,rfl⟩)⟩
abbrev RL:List Raw→AV:=fun y=>.ref (0,0) 1 0 y.length
@[reducible] def RQ:List Raw→List Blk:=fun y=>[⟨1,true,65,4,Ab Au y⟩]
def p7(a:List (List Raw)):Nat×Nat→St:=fun(b,v2)=>Ac [(0,vL Fo a),(3,vN b),(9,vL Fo a),(10,vN a.length),(11,vN v2)] []
def yo(a:List (List Raw)):Nat→Nat×St:=fun v4=>(0,Ac [(0,vL Fo a),(3,vN v4)] [])
def Wj(b:List (List Raw))(c:Nat)(v2:Nat):PT 1 (Lv (Nat×Nat) (Nat) (List Raw)):=br (decide ((v2:Int)<(b.length:Int))) (ix b v2 fun a=>vz (Ai a)<|vs (wa c a.length)<|br (decide (((c+a.length:Nat):Int)<(0:Int))) (dd) (vs (wa v2 1)<|ln (p7 b) (c+a.length,v2+1))) (Af (yo b) c)
def Ip(a:List (List Raw)):Nat×Nat→Option (Lv (Nat×Nat) (Nat) (List Raw)):=fun(b,v2)=>(Wj a b v2).m
def sr(a:List (List Raw)):List Raw×Nat→St:=fun(b,c)=>Ac [(6,.ref (1,24) 0 0 b.length),(25,vL Fo a),(26,vN a.length),(27,vN c)] [kk 24 65 4 (Ab Au b)]
def yW:List Raw→Nat×St:=fun a=>(2,Ac [(6,.ref (1,24) 0 0 a.length)] [kk 24 65 4 (Ab Au a)])
def V1(d:List (List Raw))(a:List Raw)(b:Nat):PT 1 (Lv (List Raw×Nat) (List Raw) (List Raw)):=br (decide ((b:Int)<(d.length:Int))) (ix d b fun c=>aq a c<|vs (wa b 1)<|vz (fl (a++c))<|ln (sr d) (a++c,b+1)) (vz (fl a)<|Af (yW) a)
def Ih(a:List (List Raw)):List Raw×Nat→Option (Lv (List Raw×Nat) (List Raw) (List Raw)):=fun(b,c)=>(V1 a b c).m
def v5(a:List Raw):PT 1 (List Raw):=vw .sep<|mv 24 0 a<|lr RL (RQ) a
def qC(a:List (List Raw))(b:List Raw):PT 1 (List Raw):=vz (Ai a)<|vz (fl b)<|lc (Ac [(6,.ref (1,24) 0 0 b.length),(25,vL Fo a),(26,vN a.length),(27,vI 0)] [kk 24 65 4 (Ab Au b)]) ((Aj (Ih a) Ag (b,0)).bind (Sum.elim (fun c=>(v5 c).m) some))
def xJ(b:List (List Raw))(a:List Raw):PT 1 (List Raw):=vz (fl a)<|lc (Ac [(0,vL Fo b),(6,.ref (1,24) 0 0 a.length)] [kk 24 65 4 (Ab Au a)]) ((qC b a).m)
def yV(a:List (List Raw))(v4:Nat):PT 1 (List Raw):=lc (Ac [(0,vL Fo a),(23,vN v4)] []) ((fj v4).bind fun b=>(xJ a b).m)
def tG(a:List (List Raw)):PT 1 (List Raw):=vz (Ai a)<|lc (Ac [(0,vL Fo a),(3,vI 0),(9,vL Fo a),(10,vN a.length),(11,vI 0)] []) ((Aj (Ip a) Ag (0,0)).bind (Sum.elim (fun v4=>(yV a v4).m) some))
def vm(a:List (List Raw)):PT 1 (List Raw):=lc (Ac [(0,vL Fo a),(3,vI 0)] []) ((tG a).m)
def TR(a:List (List Raw)):Option (List Raw):=(vm a).m
theorem ZHa{C:Cx}(co:CO C 1)(a:List (List Raw)):KL Tryz.prog (As tl) 36 C (pa [0,0,1,0,1,1] (At Tryz.f87)) [.tmp 2] 1 (p7 a) (yo a) RL (RQ) (Ip a):=fun(e,v2) _ m Q b c L=>eN co (AD [0,3,9,10,11]) (AD [0,3]) c m L fun r g=>⟨fun d=>⟨trivial,id⟩,id⟩
theorem ZFm{C:Cx}(co:CO C 1)(b:List (List Raw)):KL Tryz.prog (As tl) 36 C (pa [0,0,1,0,1,1,1,1] (At Tryz.f87)) [.tmp 2] 1 (sr b) (yW) RL (RQ) (Ih b):=fun(d,e) _ m Q a c L=>eN co (Aa [6,25,26,27] Gb) (Aa [6] Gb) c m L
theorem ZZB(a:List (List Raw)):KO Tryz.prog 87 1 [vL Fo a] [⟨0,false,0,0,[]⟩] (fun _ _ _ _=>True) (TR a) RL (RQ):=kO Tryz.func87 Tryz.ntmps87 [.tmp 2] 1 (fun co b m L=>mJ co 2 (AD [0,3]) nl nH m L fun r g=>fun _ m L=>sq (mJ co 1 (AD [0,3,9,10,11]) nl nH m L fun r g=>fun _ m L=>bk 0 (lo (Ax (ZHa co a) nH m L (fun v4 m=>sq (rg (pR co 1 (AD [0,23]) m L fun r g=>fun _ m L=>c6 co m (ZVE v4) [((1,24),⟨0,false,0,0,[]⟩)] [] (fun z=>.ref (1,24) 1 0 z.length) (fun z=>[((1,24),⟨1,true,65,4,Ab Au z⟩)]) [] fun d m=>eR co (Aa [0,6] Gb) m L fun r g=>fun _ m L=>sq (mJ co 1 (Aa [6,25,26,27] Gb) nl nH m L fun r g=>fun _ m L=>bk 2 (lo (Ax (ZFm co a) nH m L (fun c m=>fO co m L)))))))))))
theorem ZyG{C:Cx}(co:CO C 1)(b:List Raw)(c:Int)(d:Int)(a:Raw→Raw→Option Int)(e:Int)(i:(IE a) C.no C.l C.H0 C.θ):KL Tryz.prog (As tl) 53 C (pa [0,0,1,0,0,1,0,0,1] (At Tryz.f149)) [] 1 (Vh b c d e) (Vo b c d e) Hy (HD) (Fi b c d a e):=fun(v3,o) _ m Q f h L=>eN co (Aa [0,1,2,3,8,9] Ah) (Aa [0,1,2,3,8] Ah) h m L fun r g=>fun j=>fun k=>⟨⟨fun y hy=>i _ _ y hy,by intro r;kernel_rfl,by intro r y;kernel_rfl⟩,fun p=>⟨fun l=>fun n=>id,id⟩⟩
theorem ZvA{C:Cx}(co:CO C 1)(c:List Raw)(d:Int)(e:Int)(a:Raw→Raw→Option Int)(h:(IE a) C.no C.l C.H0 C.θ):KL Tryz.prog (As tl) 53 C (pa [0,0,1] (At Tryz.f149)) [] 1 (U6 c d e) (Vv) Hy (HD) (H8 c d e a):=fun(j,k) _ m Q f b L=>mJ co 1 (Aa [0,1,2,3,8] Ah) (Aa [] Ah) b m L fun r g=>⟨fun _ m L=>sq (bk 1 (mJ co 1 (Aa [0,1,2,3,8,9] Ah) nl b m L fun r g=>fun _ m L=>bk 2 (lo (Et (ZyG co c d e a j h) b m L (fun i m=>eN co (Aa [0,1,2,3,8] Ah) nl b m L))))),id⟩
theorem tc(b:List Raw)(c:Int)(d:Int)(a:Raw→Raw→Option Int):KO Tryz.prog 149 1 [.ref (0,0) 0 0 b.length,vI c,vI d,.fn (.yield 3) [] []] [⟨0,true,65,4,Ab Au b⟩] (IE a) (JE b c d a) Hy (HD):=kO Tryz.func149 Tryz.ntmps149 [] 1 (fun co f m L=>mJ co 1 (Aa [0,1,2,3,8] Ah) nl nH m L fun r g=>fun _ m L=>bk 0 (lo (Ax (ZvA co b c d a f) nH m L (fun e m=>BX (Qs e) co m L (fun r g=>id) r g))))
theorem ZwP{C:Cx}(co:CO C 1)(b:List Raw)(c:Int)(d:Int)(e:Int):KL Tryz.prog (As tl) 38 C (pa [0,0,1] (At Tryz.f180)) [] 1 (UW b c d e) (U9) KX (KP) (JU b c d e):=fun(h,g) _ m Q a f L=>eN co (Aa [0,1,2,3,10] Ah) (Aa [] Ah) f m L
theorem ZW(a:List Raw)(b:Int)(c:Int)(d:Int):KO Tryz.prog 180 1 [.ref (0,0) 0 0 a.length,vI b,vI c,vI d,.fn (.yield 4) [] []] [⟨0,true,65,4,Ab Au a⟩] (fun _ _ _ _=>True) (HW a b c d) KX (KP):=kO Tryz.func180 Tryz.ntmps180 [] 1 (fun co f m L=>mJ co 1 (Aa [0,1,2,3,10] Ah) nl nH m L fun r g=>fun _ m L=>bk 0 (lo (Ax (ZwP co a b c d) nH m L (fun e m=>BX (Qh e) co m L (fun r g=>id) r g))))
theorem ZvF{C:Cx}(co:CO C 1)(c:List Raw)(a:Int):KL Tryz.prog (As tl) 58 C (pa [0,0,0,1,1] (At Tryz.f171)) [] 1 (Qi c a) (VJ c a) KW (KQ) (GJ c a):=fun(b,v2,e) _ m Q f d L=>mJ co 1 (Aa [0,2,4,10,11] Ah) (Aa [0,2,4,10] Ah) d m L fun r g=>⟨fun _ m L=>bk 1 (mJ co 1 (Aa [0,2,4,10,11,23] Ah) nl d m L fun r g=>fun _ m L=>Bg m (fun m=>sq (rg (pR co 7 (Aa [0,2,4,10,11,24,27,28,29,30] Ah) m L fun r g=>fun _ m L=>BK m fun heq m=>c6 (θ:=fun r=>AA [(4,r.θ 4)]) (xs:=[.ref (0,0) 0 0 c.length,vI (a-b),vI a,vI v2,.fn (.yield 4) [] []]) (hx:=by intro r H;rw[heq];kernel_rfl) co m (ZW e (a-b) a v2) [((0,0),⟨0,true,65,4,Ab Au e⟩)] [] (fun z=>.tup []) (fun z=>[((0,0),⟨0,true,65,4,Ab Au z⟩)]) [] fun h m=>eR co (Aa [0,2,4,10,11] Ah) m L fun r g=>fun _ m L=>eN co (Aa [0,2,4,10,11] Ah) nl d m L))) (fun m=>sq (rg (pR co 11 (Aa [0,2,4,10,11,35,38,43,44,45] Ah) m L fun r g=>fun _ m L=>BK m fun heq m=>c6 (θ:=fun r=>AA [(4,r.θ 4)]) (xs:=[.ref (0,0) 0 0 c.length,vI (a-b),vI ((a+v2)-b),vI b,.fn (.yield 4) [] []]) (hx:=by intro r H;rw[heq];kernel_rfl) co m (ZW e (a-b) ((a+v2)-b) b) [((0,0),⟨0,true,65,4,Ab Au e⟩)] [] (fun z=>.tup []) (fun z=>[((0,0),⟨0,true,65,4,Ab Au z⟩)]) [] fun i m=>eR co (Aa [0,2,4,10,11] Ah) m L fun r g=>fun _ m L=>eN co (Aa [0,2,4,10,11] Ah) nl d m L)))),id⟩
theorem ZWh(b:List Raw)(d:Int)(a:Int)(e:Int):KO Tryz.prog 171 1 [.ref (0,0) 0 0 b.length,vI d,vI a,vI e,.fn (.yield 4) [] []] [⟨0,true,65,4,Ab Au b⟩] (fun _ _ _ _=>True) (Le b d a e) KW (KQ):=kO Tryz.func171 Tryz.ntmps171 [] 1 (fun co i m L=>mJ co 2 (Aa [0,2,4,10,11] Ah) nl nH m L fun r g=>fun _ m L=>sq (bk 0 (lo (Ax (ZvF co b a) nH m L (fun(c,f) m=>rg (pR co 7 (Aa [50,53,54,55,56] Ah) m L fun r g=>fun _ m L=>BK m fun heq m=>c6 (θ:=fun r=>AA [(4,r.θ 4)]) (xs:=[.ref (0,0) 0 0 b.length,vI (a-c),vI a,vI c,.fn (.yield 4) [] []]) (hx:=by intro r H;rw[heq];kernel_rfl) co m (ZW f (a-c) a c) [((0,0),⟨0,true,65,4,Ab Au f⟩)] [] (fun z=>.tup []) (fun z=>[((0,0),⟨0,true,65,4,Ab Au z⟩)]) [] fun h m=>eR co (Aa [] Ah) m L fun r g=>fun _ m L=>BX (Qw h) co m L (fun r g=>id) r g))))))
end Go.Proofs.YtbcmdieedjamgaaGreat
