import Derived.Test.YtbcmdieedjamgaaGreatZe15
import Derived.Test.YtbcmdieedjamgaaGreatZe00
namespace Go.Proofs.YtbcmdieedjamgaaGreat
set_option maxRecDepth 100000
set_option linter.all false
open Go Go.Eng
abbrev aQ:Int→AV:=fun y=>vI y
def fF(b:Val)(a:Val):PT 0 (Int):=wg<|wg<|br (!decide (b.kind=a.kind)) (wg<|wg<|cl (Ow b.kind a.kind) fun c=>lr aQ nG c) (wg<|cl (u5 a) fun f=>wg<|cl (u5 b) fun d=>wg<|wg<|wg<|wg<|cl (ZUw d a) fun e=>lr aQ nG e)
def Tf(a:Val)(b:Val):Option (Int):=(fF a b).m
theorem su(a:Val)(b:Val):KC Tryz.prog 114 [.agg ((Ae a).map .d),.agg ((Ae b).map .d)] (Tf a b) aQ:=kC Tryz.func114 Tryz.ntmps114 [.tmp 4] fun co m L=>fO co m L
abbrev x5:Int→AV:=fun y=>vI y
def j7(a:Pr)(b:Pr):PT 0 (Int):=wg<|wg<|cl (su a.key b.key) fun c=>lr x5 nG c
def MA(a:Pr)(b:Pr):Option (Int):=(j7 a b).m
theorem ZUk(a:Pr)(b:Pr):KC Tryz.prog 113 [.agg ((Nu a).map .d),.agg ((Nu b).map .d)] (MA a b) x5:=kC Tryz.func113 Tryz.ntmps113 [.tmp 4] fun co m L=>fO co m L
abbrev yn:Bool→AV:=fun y=>vB y
def l5(a:Val)(b:Val):PT 0 (Bool):=wg<|wg<|cl (su a b) fun c=>lr yn nG (decide (c=(0:Int)))
def dj(a:Val)(b:Val):Option (Bool):=(l5 a b).m
theorem ZTu(a:Val)(b:Val):KC Tryz.prog 115 [.agg ((Ae a).map .d),.agg ((Ae b).map .d)] (dj a b) yn:=kC Tryz.func115 Tryz.ntmps115 [.tmp 4] fun co m L=>fO co m L
abbrev OK(a:List Pr):Ad×Blk:=kk 8 63 14 (Aa Ap a)
abbrev WQ:List Pr→AV:=fun y=>vL Ap y
def Zl(a:List Pr):List Pr×Nat→St:=fun(b,v4)=>Ac [(3,.ref (1,8) 0 0 a.length),(4,.ref (1,4) 0 0 b.length),(11,.ref (1,8) 0 0 a.length),(12,vN a.length),(13,vN v4)] [kk 4 63 14 (Aa Ap b),(OK a)]
def tK:List Pr→Nat×St:=fun a=>(0,Ac [(4,.ref (1,4) 0 0 a.length)] [kk 4 63 14 (Aa Ap a)])
def Zt(a:List Pr)(b:List Pr)(v4:Nat):PT 0 (Lv (List Pr×Nat) (List Pr) (List Pr)):=br (decide ((v4:Int)<(a.length:Int))) (vs (ir v4 a.length 14)<|ca a v4 fun c=>wg<|vs (wa v4 1)<|vz (Bp a.length)<|wg<|vg (!(decide (((v4+1:Nat):Int)=(a.length:Int)))) (wa v4 1)<|vg (!(decide (((v4+1:Nat):Int)=(a.length:Int)))) (ir (v4+1) a.length 14)<|cpg (!(decide (((v4+1:Nat):Int)=(a.length:Int)))) a (v4+1) 0 7 fun d=>AH (!(decide (((v4+1:Nat):Int)=(a.length:Int)))) (ZTu c.key d.key) fun e=>br (decide (((v4+1:Nat):Int)=(a.length:Int))||(!e)) (wg<|vw .sep<|ap b (c:Pr)<|vs (wa v4 1)<|vz (fl (b++[c]))<|vz (fl a)<|ln (Zl a) (b++[c],v4+1)) (vs (wa v4 1)<|vz (fl b)<|vz (fl a)<|ln (Zl a) (b,v4+1))) (vz (fl b)<|Af (tK) b)
def Ng(b:List Pr):List Pr×Nat→Option (Lv (List Pr×Nat) (List Pr) (List Pr)):=fun(a,v4)=>(Zt b a v4).m
def qG(a:List Pr):PT 0 (List Pr):=vz (fr a)<|lr WQ nG a
def uz(a:List Pr):PT 0 (List Pr):=vw (.ads 4 4 63 14)<|vz (fl ([]:List Pr))<|vz (fl a)<|lc (Ac [(3,.ref (1,8) 0 0 a.length),(4,.ref (1,4) 0 0 ([]:List Pr).length),(11,.ref (1,8) 0 0 a.length),(12,vN a.length),(13,vI 0)] [kk 4 63 14 (Aa Ap ([]:List Pr)),(OK a)]) ((Ai (Ng a) Ah (([]:List Pr),0)).bind (Sum.elim (fun b=>(qG b).m) some))
def o5(a:List Pr):PT 0 (List Pr):=vz (Bp a.length)<|vz (fl a)<|lc (Ac [(3,.ref (1,8) 0 0 a.length),(4,.e0),(11,.ref (1,8) 0 0 a.length),(12,vN a.length),(13,vI 0)] [(OK a)]) ((uz a).m)
def qu(a:List Pr):PT 0 (List Pr):=vz (fl a)<|lc (Ac [(3,.ref (1,8) 0 0 a.length),(4,.e0)] [(OK a)]) ((o5 a).m)
def qj(b:List Pr)(a:List Pr):PT 0 (List Pr):=rn 3 8 b.length a<|vz (fl a)<|lc (Ac [(3,.ref (1,8) 0 0 a.length)] [(OK a)]) ((qu a).m)
def vA(a:List Pr):PT 0 (List Pr):=vz (fl a)<|lc (Ac [(3,.ref (1,8) 0 0 a.length),(9,.ref (1,8) 0 0 a.length)] [kk 8 63 14 (Aa Ap a)]) ((FF a (fun(z0:Pr) (c:Pr)=>MA z0 c)).bind fun b=>(qj a b).m)
def qo(a:List Pr):PT 0 (List Pr):=vz (fl a)<|lc (Ac [(3,.ref (1,8) 0 0 a.length)] [kk 8 63 14 (Aa Ap a)]) ((vA a).m)
def u9(a:List Pr):PT 0 (List Pr):=lc (Ac [(7,vL Ap a)] []) ((S4 a).bind fun b=>(qo b).m)
def jN(a:List Pr):PT 0 (List Pr):=lc (Ac [(0,vL Ap a)] []) ((u9 a).m)
def dk(a:List Pr):Option (List Pr):=(jN a).m
theorem ZDQ{C:Cx}(co:CO C 0)(b:List Pr):KL Tryz.prog (Ar tl) 41 C (pa [0,0,1,0,1,1,1,1] (As Tryz.f83)) [.tmp 2] 0 (Zl b) (tK) WQ nG (Ng b):=fun(d,v4) _ m Q a c L=>eN co (Ab [3,4,11,12,13] [((1,4),true),((1,8),true)]) (Ab [4] [((1,4),true)]) c m L
theorem ZXT(a:List Pr):KC Tryz.prog 83 [vL Ap a] (dk a) WQ:=DM Tryz.func83 Tryz.ntmps83 AU [.tmp 2] fun C co y m c L=>mJ co 1 (AD [0]) nl nH m L fun r g=>fun _ m L=>sq (rg (pR co 1 (AD [7]) m L fun r g=>fun _ m L=>c6 co m (ZTT a) [((1,8),⟨0,false,0,0,[]⟩)] [] (fun z=>.ref (1,8) 1 0 z.length) (fun z=>[((1,8),⟨1,true,63,14,Aa Ap z⟩)]) [] fun d m=>eR co (Ab [3] [((1,8),true)]) m L fun r g=>fun _ m L=>sq (rg (pR co 1 (Ab [3,9] [((1,8),true)]) m L fun r g=>fun _ m L=>c6 (θ:=fun _=>AB [(1,.fn (.func 113) [] [])]) (hΘ:=fun r g h i j=>(fun z0 b y e=>g0 (ZUk z0 b) e)) co m (ZUc d (fun(z0:Pr) (b:Pr)=>MA z0 b)) [kk 8 63 14 (Aa Ap d)] [] (fun z=>.tup []) (fun z=>[kk 8 63 14 (Aa Ap z)]) [] fun f m=>eR co (Ab [3] [((1,8),true)]) m L fun r g=>fun _ m L=>mJ co 1 (Ab [3,4] [((1,8),true)]) nl nH m L fun r g=>fun _ m L=>sq (mJ co 1 (Ab [3,4,11,12,13] [((1,8),true)]) nl nH m L fun r g=>fun _ m L=>bk 0 (cM co (Ab [3,4,11,12,13] [((1,4),true),((1,8),true)]) m L fun r g=>fun _ m L=>lo (Ay (ZDQ co f) nH m L (fun k m=>fO co m L))))))))
def ZHV:Go.Shelf.Ren:=⟨fun|4=>116|n=>n,fun|22=>31|25=>63|n=>n,fun n=>n⟩
theorem Zwg:Go.Proofs.Lays8.n4 Tryz.prog ZHV:={
 mixed:=by kernel_rfl,
 f4:=⟨Tryz.f116.name,by decide+kernel,Tryz.func116.trans (congrArg some (by kernel_rfl))⟩,
 t0:=Tryz.underlying0,
 a0:=Tryz.isAgg0,
 z0:=Tryz.sizeOf0,
 v0:=Tryz.zeroValue0,
 t3:=Tryz.underlying3,
 a3:=Tryz.isAgg3,
 z3:=Tryz.sizeOf3,
 v3:=Tryz.zeroValue3,
 t4:=Tryz.underlying4,
 a4:=Tryz.isAgg4,
 z4:=Tryz.sizeOf4,
 v4:=Tryz.zeroValue4,
 t9:=Tryz.underlying9,
 a9:=Tryz.isAgg9,
 z9:=Tryz.sizeOf9,
 v9:=Tryz.zeroValue9,
 t20:=Tryz.underlying20,
 a20:=Tryz.isAgg20,
 z20:=Tryz.sizeOf20,
 v20:=Tryz.zeroValue20,
 t22:=Tryz.underlying31,
 a22:=Tryz.isAgg31,
 z22:=Tryz.sizeOf31,
 v22:=Tryz.zeroValue31 }
abbrev ZW0:List Pr→AV:=fun y=>.ref (0,0) 1 0 y.length
@[reducible] def ZXO:List Pr→List Blk:=fun y=>[⟨1,true,63,14,Aa Ap y⟩]
def dQ(n:Nat):Option (List Pr):=if n<549755813888 then some []else none
theorem ZTg(n:Nat):KO Tryz.prog 116 1 [.e0,vN n] [⟨0,false,0,0,[]⟩] (fun _ _ _ _=>True) (dQ n) ZW0 ZXO:=⟨fun l H ks k θ b a j i _ y hy=>by
 obtain⟨d,hy⟩:=BD hy
 cases hy
 match ks,b with
 |[m],_=>
  have hi:∃i0 z,(Tryz.prog).info? 63=some i0∧i0.zero=some z∧i0.size=14∧z.cells.size=i0.size∧i0.bytes≤256:=⟨_,_,rfl,rfl,rfl,by decide+kernel,by decide+kernel⟩
  obtain⟨i0,z,e,f,c,g,h⟩:=hi
  exact dO Zwg i0 z e f (by rw[c];decide) g h ⟨_,As Tryz.f116,Tryz.func116,by kernel_rfl,by kernel_rfl⟩ a.1 i.1.1 n d (by rw[c];exact⟨rfl,rfl⟩)⟩
abbrev Rc:List Pr→AV:=fun y=>.ref (0,0) 1 0 y.length
@[reducible] def Ri:List Pr→List Blk:=fun y=>[⟨1,true,63,14,Aa Ap y⟩]
def o6(a:List (List Pr)):Nat×Nat→St:=fun(b,v2)=>Ac [(0,vL Fi a),(3,vN b),(9,vL Fi a),(10,vN a.length),(11,vN v2)] []
def uK(a:List (List Pr)):Nat→Nat×St:=fun v4=>(0,Ac [(0,vL Fi a),(3,vN v4)] [])
def Vr(b:List (List Pr))(c:Nat)(v2:Nat):PT 1 (Lv (Nat×Nat) (Nat) (List Pr)):=br (decide ((v2:Int)<(b.length:Int))) (ix b v2 fun a=>vz (Aj a)<|vs (wa c a.length)<|br (decide (((c+a.length:Nat):Int)<(0:Int))) (dd) (vs (wa v2 1)<|ln (o6 b) (c+a.length,v2+1))) (Af (uK b) c)
def H2(a:List (List Pr)):Nat×Nat→Option (Lv (Nat×Nat) (Nat) (List Pr)):=fun(b,v2)=>(Vr a b v2).m
def uc(a:List (List Pr)):List Pr×Nat→St:=fun(b,c)=>Ac [(6,.ref (1,24) 0 0 b.length),(25,vL Fi a),(26,vN a.length),(27,vN c)] [kk 24 63 14 (Aa Ap b)]
def oS:List Pr→Nat×St:=fun a=>(2,Ac [(6,.ref (1,24) 0 0 a.length)] [kk 24 63 14 (Aa Ap a)])
def Vm(d:List (List Pr))(a:List Pr)(b:Nat):PT 1 (Lv (List Pr×Nat) (List Pr) (List Pr)):=br (decide ((b:Int)<(d.length:Int))) (ix d b fun c=>aq a c<|vs (wa b 1)<|vz (fl (a++c))<|ln (uc d) (a++c,b+1)) (vz (fl a)<|Af (oS) a)
def H9(a:List (List Pr)):List Pr×Nat→Option (Lv (List Pr×Nat) (List Pr) (List Pr)):=fun(b,c)=>(Vm a b c).m
def oD(a:List Pr):PT 1 (List Pr):=vw .sep<|mv 24 0 a<|lr Rc (Ri) a
def qw(a:List (List Pr))(b:List Pr):PT 1 (List Pr):=vz (Aj a)<|vz (fl b)<|lc (Ac [(6,.ref (1,24) 0 0 b.length),(25,vL Fi a),(26,vN a.length),(27,vI 0)] [kk 24 63 14 (Aa Ap b)]) ((Ai (H9 a) Ah (b,0)).bind (Sum.elim (fun c=>(oD c).m) some))
def sO(b:List (List Pr))(a:List Pr):PT 1 (List Pr):=vz (fl a)<|lc (Ac [(0,vL Fi b),(6,.ref (1,24) 0 0 a.length)] [kk 24 63 14 (Aa Ap a)]) ((qw b a).m)
def sD(a:List (List Pr))(v4:Nat):PT 1 (List Pr):=lc (Ac [(0,vL Fi a),(23,vN v4)] []) ((dQ v4).bind fun b=>(sO a b).m)
def tB(a:List (List Pr)):PT 1 (List Pr):=vz (Aj a)<|lc (Ac [(0,vL Fi a),(3,vI 0),(9,vL Fi a),(10,vN a.length),(11,vI 0)] []) ((Ai (H2 a) Ah (0,0)).bind (Sum.elim (fun v4=>(sD a v4).m) some))
def oB(a:List (List Pr)):PT 1 (List Pr):=lc (Ac [(0,vL Fi a),(3,vI 0)] []) ((tB a).m)
def S9(a:List (List Pr)):Option (List Pr):=(oB a).m
theorem ZFL{C:Cx}(co:CO C 1)(a:List (List Pr)):KL Tryz.prog (Ar tl) 36 C (pa [0,0,1,0,1,1] (As Tryz.f84)) [.tmp 2] 1 (o6 a) (uK a) Rc (Ri) (H2 a):=fun(e,v2) _ m Q b c L=>eN co (AD [0,3,9,10,11]) (AD [0,3]) c m L fun r g=>⟨fun d=>⟨trivial,id⟩,id⟩
theorem ZEg{C:Cx}(co:CO C 1)(b:List (List Pr)):KL Tryz.prog (Ar tl) 36 C (pa [0,0,1,0,1,1,1,1] (As Tryz.f84)) [.tmp 2] 1 (uc b) (oS) Rc (Ri) (H9 b):=fun(d,e) _ m Q a c L=>eN co (Ab [6,25,26,27] F0) (Ab [6] F0) c m L
theorem ZXv(a:List (List Pr)):KO Tryz.prog 84 1 [vL Fi a] [⟨0,false,0,0,[]⟩] (fun _ _ _ _=>True) (S9 a) Rc (Ri):=kO Tryz.func84 Tryz.ntmps84 [.tmp 2] 1 (fun co b m L=>mJ co 2 (AD [0,3]) nl nH m L fun r g=>fun _ m L=>sq (mJ co 1 (AD [0,3,9,10,11]) nl nH m L fun r g=>fun _ m L=>bk 0 (lo (Ay (ZFL co a) nH m L (fun v4 m=>sq (rg (pR co 1 (AD [0,23]) m L fun r g=>fun _ m L=>c6 co m (ZTg v4) [((1,24),⟨0,false,0,0,[]⟩)] [] (fun z=>.ref (1,24) 1 0 z.length) (fun z=>[((1,24),⟨1,true,63,14,Aa Ap z⟩)]) [] fun d m=>eR co (Ab [0,6] F0) m L fun r g=>fun _ m L=>sq (mJ co 1 (Ab [6,25,26,27] F0) nl nH m L fun r g=>fun _ m L=>bk 2 (lo (Ay (ZEg co a) nH m L (fun c m=>fO co m L)))))))))))
theorem ZxR{C:Cx}(co:CO C 1)(b:List Slt)(c:Int)(d:Int)(a:Slt→Slt→Option Int)(e:Int)(i:(Ip a) C.no C.l C.H0 C.θ):KL Tryz.prog (Ar tl) 53 C (pa [0,0,1,0,0,1,0,0,1] (As Tryz.f117)) [] 1 (UG b c d e) (UY b c d e) Hj (Hr) (Fa b c d a e):=fun(v3,o) _ m Q f h L=>eN co (Ab [0,1,2,3,8,9] Ag) (Ab [0,1,2,3,8] Ag) h m L fun r g=>fun j=>fun k=>⟨⟨fun y hy=>i _ _ y hy,by intro r;kernel_rfl,by intro r y;kernel_rfl⟩,fun p=>⟨fun l=>fun n=>id,id⟩⟩
theorem ZwR{C:Cx}(co:CO C 1)(c:List Slt)(d:Int)(e:Int)(a:Slt→Slt→Option Int)(h:(Ip a) C.no C.l C.H0 C.θ):KL Tryz.prog (Ar tl) 53 C (pa [0,0,1] (As Tryz.f117)) [] 1 (U2 c d e) (UR) Hj (Hr) (HW c d e a):=fun(j,k) _ m Q f b L=>mJ co 1 (Ab [0,1,2,3,8] Ag) (Ab [] Ag) b m L fun r g=>⟨fun _ m L=>sq (bk 1 (mJ co 1 (Ab [0,1,2,3,8,9] Ag) nl b m L fun r g=>fun _ m L=>bk 2 (lo (Ej (ZxR co c d e a j h) b m L (fun i m=>eN co (Ab [0,1,2,3,8] Ag) nl b m L))))),id⟩
theorem tg(b:List Slt)(c:Int)(d:Int)(a:Slt→Slt→Option Int):KO Tryz.prog 117 1 [.ref (0,0) 0 0 b.length,vI c,vI d,.fn (.yield 3) [] []] [⟨0,true,58,8,Aa Aq b⟩] (Ip a) (Jo b c d a) Hj (Hr):=kO Tryz.func117 Tryz.ntmps117 [] 1 (fun co f m L=>mJ co 1 (Ab [0,1,2,3,8] Ag) nl nH m L fun r g=>fun _ m L=>bk 0 (lo (Ay (ZwR co b c d a f) nH m L (fun e m=>BW (P0 e) co m L (fun r g=>id) r g))))
theorem Zx0{C:Cx}(co:CO C 1)(b:List Slt)(c:Int)(d:Int)(e:Int):KL Tryz.prog (Ar tl) 38 C (pa [0,0,1] (As Tryz.f170)) [] 1 (Uu b c d e) (UX) KN (Ku) (JB b c d e):=fun(h,g) _ m Q a f L=>eN co (Ab [0,1,2,3,10] Ag) (Ab [] Ag) f m L
theorem Zx(a:List Slt)(b:Int)(c:Int)(d:Int):KO Tryz.prog 170 1 [.ref (0,0) 0 0 a.length,vI b,vI c,vI d,.fn (.yield 4) [] []] [⟨0,true,58,8,Aa Aq a⟩] (fun _ _ _ _=>True) (HN a b c d) KN (Ku):=kO Tryz.func170 Tryz.ntmps170 [] 1 (fun co f m L=>mJ co 1 (Ab [0,1,2,3,10] Ag) nl nH m L fun r g=>fun _ m L=>bk 0 (lo (Ay (Zx0 co a b c d) nH m L (fun e m=>BW (PS e) co m L (fun r g=>id) r g))))
theorem Zw7{C:Cx}(co:CO C 1)(c:List Slt)(a:Int):KL Tryz.prog (Ar tl) 58 C (pa [0,0,0,1,1] (As Tryz.f148)) [] 1 (PP c a) (UM c a) KI (Kq) (Gy c a):=fun(b,v2,e) _ m Q f d L=>mJ co 1 (Ab [0,2,4,10,11] Ag) (Ab [0,2,4,10] Ag) d m L fun r g=>⟨fun _ m L=>bk 1 (mJ co 1 (Ab [0,2,4,10,11,23] Ag) nl d m L fun r g=>fun _ m L=>Bg m (fun m=>sq (rg (pR co 7 (Ab [0,2,4,10,11,24,27,28,29,30] Ag) m L fun r g=>fun _ m L=>BK m fun heq m=>c6 (θ:=fun r=>AB [(4,r.θ 4)]) (xs:=[.ref (0,0) 0 0 c.length,vI (a-b),vI a,vI v2,.fn (.yield 4) [] []]) (hx:=by intro r H;rw[heq];kernel_rfl) co m (Zx e (a-b) a v2) [((0,0),⟨0,true,58,8,Aa Aq e⟩)] [] (fun z=>.tup []) (fun z=>[((0,0),⟨0,true,58,8,Aa Aq z⟩)]) [] fun h m=>eR co (Ab [0,2,4,10,11] Ag) m L fun r g=>fun _ m L=>eN co (Ab [0,2,4,10,11] Ag) nl d m L))) (fun m=>sq (rg (pR co 11 (Ab [0,2,4,10,11,35,38,43,44,45] Ag) m L fun r g=>fun _ m L=>BK m fun heq m=>c6 (θ:=fun r=>AB [(4,r.θ 4)]) (xs:=[.ref (0,0) 0 0 c.length,vI (a-b),vI ((a+v2)-b),vI b,.fn (.yield 4) [] []]) (hx:=by intro r H;rw[heq];kernel_rfl) co m (Zx e (a-b) ((a+v2)-b) b) [((0,0),⟨0,true,58,8,Aa Aq e⟩)] [] (fun z=>.tup []) (fun z=>[((0,0),⟨0,true,58,8,Aa Aq z⟩)]) [] fun i m=>eR co (Ab [0,2,4,10,11] Ag) m L fun r g=>fun _ m L=>eN co (Ab [0,2,4,10,11] Ag) nl d m L)))),id⟩
theorem ZUp(b:List Slt)(d:Int)(a:Int)(e:Int):KO Tryz.prog 148 1 [.ref (0,0) 0 0 b.length,vI d,vI a,vI e,.fn (.yield 4) [] []] [⟨0,true,58,8,Aa Aq b⟩] (fun _ _ _ _=>True) (KY b d a e) KI (Kq):=kO Tryz.func148 Tryz.ntmps148 [] 1 (fun co i m L=>mJ co 2 (Ab [0,2,4,10,11] Ag) nl nH m L fun r g=>fun _ m L=>sq (bk 0 (lo (Ay (Zw7 co b a) nH m L (fun(c,f) m=>rg (pR co 7 (Ab [50,53,54,55,56] Ag) m L fun r g=>fun _ m L=>BK m fun heq m=>c6 (θ:=fun r=>AB [(4,r.θ 4)]) (xs:=[.ref (0,0) 0 0 b.length,vI (a-c),vI a,vI c,.fn (.yield 4) [] []]) (hx:=by intro r H;rw[heq];kernel_rfl) co m (Zx f (a-c) a c) [((0,0),⟨0,true,58,8,Aa Aq f⟩)] [] (fun z=>.tup []) (fun z=>[((0,0),⟨0,true,58,8,Aa Aq z⟩)]) [] fun h m=>eR co (Ab [] Ag) m L fun r g=>fun _ m L=>BW (P5 h) co m L (fun r g=>id) r g))))))
theorem ZyZ{C:Cx}(co:CO C 1)(c:List Slt)(d:Int)(a:Slt→Slt→Option Int)(b:(List Slt)→Int→Int→Int→(Slt→Slt→Option Int)→Option (List Slt))(n:∀(c:List Slt) (d:Int) (f:Int) (h:Int) (a:Slt→Slt→Option Int),KO Tryz.prog 118 1 [.ref (0,0) 0 0 c.length,vI d,vI f,vI h,.fn (.yield 4) [] []] [⟨0,true,58,8,Aa Aq c⟩] (Br a) (b c d f h a) A3 (A4))(j:(Br a) C.no C.l C.H0 C.θ):KL Tryz.prog (Ar tl) 220 C (pa [0,0,0,1,1,0,1,0] (As Tryz.f118)) [] 1 (PX c d) (UQ c d) A3 (A4) (Gx c d a b):=fun(o,v2) _ m Q e i L=>eN co (Ab [0,1,4,10,11] Ag) (Ab [0,1,10] Ag) i m L fun r g=>⟨fun k=>fun l=>⟨⟨fun y hy=>j _ _ y hy,by intro r;kernel_rfl,by intro r y;kernel_rfl⟩,fun p=>⟨id,id⟩⟩,id⟩
theorem Zxy{C:Cx}(co:CO C 1)(c:List Slt)(a:Slt→Slt→Option Int)(b:(List Slt)→Int→Int→Int→(Slt→Slt→Option Int)→Option (List Slt))(h:Int)(j:∀(c:List Slt) (e:Int) (f:Int) (g:Int) (a:Slt→Slt→Option Int),KO Tryz.prog 118 1 [.ref (0,0) 0 0 c.length,vI e,vI f,vI g,.fn (.yield 4) [] []] [⟨0,true,58,8,Aa Aq c⟩] (Br a) (b c e f g a) A3 (A4))(k:(Br a) C.no C.l C.H0 C.θ):KL Tryz.prog (Ar tl) 220 C (pa [0,0,1,0,1,1,1,0,1,0] (As Tryz.f118)) [] 1 (Uv c h) (UT) A3 (A4) (HV c a b h):=fun(n,l) _ m Q d i L=>eN co (Ab [0,10,13] Ag) (Ab [] Ag) i m L
theorem Zxa{C:Cx}(co:CO C 1)(c:List Slt)(d:Int)(a:Slt→Slt→Option Int)(b:(List Slt)→Int→Int→Int→(Slt→Slt→Option Int)→Option (List Slt))(q:∀(c:List Slt) (f:Int) (d:Int) (h:Int) (a:Slt→Slt→Option Int),KO Tryz.prog 118 1 [.ref (0,0) 0 0 c.length,vI f,vI d,vI h,.fn (.yield 4) [] []] [⟨0,true,58,8,Aa Aq c⟩] (Br a) (b c f d h a) A3 (A4))(l:(Br a) C.no C.l C.H0 C.θ):KL Tryz.prog (Ar tl) 220 C (pa [0,0,0,1,1,0,1,0,1] (As Tryz.f118)) [] 1 (PY c d) (UZ c d) A3 (A4) (Gz c d a b):=fun(n,o) _ m Q e k L=>eN co (Ab [0,2,4,14,15] Ag) (Ab [0,2,14] Ag) k m L fun r g=>⟨fun i=>fun j=>⟨⟨fun y hy=>l _ _ y hy,by intro r;kernel_rfl,by intro r y;kernel_rfl⟩,fun p=>⟨id,id⟩⟩,id⟩
theorem ZyP{C:Cx}(co:CO C 1)(c:List Slt)(a:Slt→Slt→Option Int)(b:(List Slt)→Int→Int→Int→(Slt→Slt→Option Int)→Option (List Slt))(d:Int)(l:∀(c:List Slt) (f:Int) (g:Int) (h:Int) (a:Slt→Slt→Option Int),KO Tryz.prog 118 1 [.ref (0,0) 0 0 c.length,vI f,vI g,vI h,.fn (.yield 4) [] []] [⟨0,true,58,8,Aa Aq c⟩] (Br a) (b c f g h a) A3 (A4))(n:(Br a) C.no C.l C.H0 C.θ):KL Tryz.prog (Ar tl) 220 C (pa [0,0,1,0,1,1,1,0,1,0,1] (As Tryz.f118)) [] 1 (UP c d) (UB) A3 (A4) (GB c a b d):=fun(k,j) _ m Q e i L=>eN co (Ab [0,14,17] Ag) (Ab [] Ag) i m L
theorem ZyN{C:Cx}(co:CO C 1)(c:List Slt)(d:Int)(e:Int)(f:Int)(a:Slt→Slt→Option Int)(b:(List Slt)→Int→Int→Int→(Slt→Slt→Option Int)→Option (List Slt))(q:∀(c:List Slt) (d:Int) (e:Int) (f:Int) (a:Slt→Slt→Option Int),KO Tryz.prog 118 1 [.ref (0,0) 0 0 c.length,vI d,vI e,vI f,.fn (.yield 4) [] []] [⟨0,true,58,8,Aa Aq c⟩] (Br a) (b c d e f a) A3 (A4))(l:(Br a) C.no C.l C.H0 C.θ):KL Tryz.prog (Ar tl) 220 C (pa [0,0,0,1,1,1,1,1,1,1] (As Tryz.f118)) [] 1 (P2 c d e f) (Un c d e f) A3 (A4) (Dm c d e f a b):=fun(n,o) _ m Q h k L=>eN co (Ab [0,1,2,3,4,18,19,20,21,22] Ag) (Ab [0,1,2,3,4,18,19,20] Ag) k m L fun r g=>⟨fun i=>fun j=>⟨⟨fun y hy=>l _ _ y hy,by intro r;kernel_rfl,by intro r y;kernel_rfl⟩,fun p=>⟨id,id⟩⟩,id⟩
theorem ZOX(d:(List Slt)→Int→Int→Int→(Slt→Slt→Option Int)→Option (List Slt))(i:∀(e:List Slt) (c:Int) (h:Int) (b:Int) (a:Slt→Slt→Option Int),KO Tryz.prog 118 1 [.ref (0,0) 0 0 e.length,vI c,vI h,vI b,.fn (.yield 4) [] []] [⟨0,true,58,8,Aa Aq e⟩] (Br a) (d e c h b a) A3 (A4))(e:List Slt)(c:Int)(h:Int)(b:Int)(a:Slt→Slt→Option Int):KO Tryz.prog 118 1 [.ref (0,0) 0 0 e.length,vI c,vI h,vI b,.fn (.yield 4) [] []] [⟨0,true,58,8,Aa Aq e⟩] (Br a) (Wc d e c h b a) A3 (A4):=EQ Tryz.func118 Tryz.ntmps118 AU [] 1 (fun C co j y m D L=>sq (mJ co 1 (Ab [0,1,2,3,4,28] Ag) nl nH m L fun r g=>fun _ m L=>Bg m (fun m=>mJ co 2 (Ab [0,1,4,10,11] Ag) nl nH m L fun r g=>fun _ m L=>sq (bk 0 (lo (Ay (ZyZ co e c a d i j) nH m L (fun J m=>sq (mJ co 1 (Ab [0,10,13] Ag) nl nH m L fun r g=>fun _ m L=>bk 2 (lo (Ay (Zxy co e a d J i j) nH m L (fun E m=>eN co nl nl nH m L))))))))) (fun m=>eN co (Ab [0,1,2,3,4] Ag) nl nH m L fun r g=>fun _ m L=>sq (mJ co 1 (Ab [0,1,2,3,4,80] Ag) nl nH m L fun r g=>fun _ m L=>Bg m (fun m=>mJ co 2 (Ab [0,2,4,14,15] Ag) nl nH m L fun r g=>fun _ m L=>sq (bk 4 (lo (Ay (Zxa co e h a d i j) nH m L (fun v m=>sq (mJ co 1 (Ab [0,14,17] Ag) nl nH m L fun r g=>fun _ m L=>bk 6 (lo (Ay (ZyP co e a d v i j) nH m L (fun F m=>eN co nl nl nH m L))))))))) (fun m=>eN co (Ab [0,1,2,3,4] Ag) nl nH m L fun r g=>fun _ m L=>XT co AU BN 5 (K8 e c h b a d) (Ab [0,1,2,3,4,18,19,20,21,22] Ag) nl nH m L (Pm e c h b a d) (Jt e c h b a d) (fun(G,I) _ m L=>sq (bk 8 (lo (Ay (ZyN co e c h b a d i j) nH m L (fun f m=>mJ co 1 (Ab [0,1,2,3,4,18,20,24] Ag) nl nH m L fun r g=>fun _ m L=>sq (mJ co 1 (Ab [0,1,2,3,4,18,20,24,185] Ag) nl nH m L fun r g=>fun _ m L=>Bg m (fun m=>rg (pR co 5 (Ab [0,1,3,4,18,20,24,186,187,188,189,190] Ag) m L fun r g=>fun _ m L=>c6 (θ:=fun r=>AB [(4,r.θ 4)]) co m (ZUp e f h (((IntKind.i64.wrap (Am .u64 (IntKind.u64.wrap (c+b)) 1))+h)-f)) [((0,0),⟨0,true,58,8,Aa Aq e⟩)] [] (fun z=>.tup []) (fun z=>[((0,0),⟨0,true,58,8,Aa Aq z⟩)]) [] fun o m=>eR co (Ab [0,1,3,4,18,20,24] Ag) m L fun r g=>fun _ m L=>sq (mJ co 1 (Ab [0,1,3,4,18,20,24,199] Ag) nl nH m L fun r g=>fun _ m L=>Bg m (fun m=>rg (pR co 5 (Ab [0,3,4,18,24,200,201,202,203,204] Ag) m L fun r g=>fun _ m L=>BK m fun heq m=>c6 (θ:=fun r=>AB [(4,r.θ 4)]) (hΘ:=fun r g p s k=>(fun z0 n y l=>Bx co g _ k (j z0 n y l))) (xs:=[.ref (0,0) 0 0 e.length,vI c,vI f,vI (IntKind.i64.wrap (Am .u64 (IntKind.u64.wrap (c+b)) 1)),.fn (.yield 4) [] []]) (hx:=by intro r H;rw[heq];kernel_rfl) co m (i o c f (IntKind.i64.wrap (Am .u64 (IntKind.u64.wrap (c+b)) 1)) a) [((0,0),⟨0,true,58,8,Aa Aq o⟩)] [] (fun z=>.tup []) (fun z=>[((0,0),⟨0,true,58,8,Aa Aq z⟩)]) [] fun t m=>eR co (Ab [0,3,4,18,24] Ag) m L fun r g=>fun _ m L=>mJ co 1 (Ab [0,3,4,18,24,213] Ag) nl nH m L fun r g=>fun _ m L=>Bg m (fun m=>rg (pR co 5 (Ab [214,215,216,217,218] Ag) m L fun r g=>fun _ m L=>BK m fun heq m=>c6 (θ:=fun r=>AB [(4,r.θ 4)]) (hΘ:=fun r g p s k=>(fun z0 n y l=>Bx co g _ k (j z0 n y l))) (xs:=[.ref (0,0) 0 0 e.length,vI (IntKind.i64.wrap (Am .u64 (IntKind.u64.wrap (c+b)) 1)),vI (((IntKind.i64.wrap (Am .u64 (IntKind.u64.wrap (c+b)) 1))+h)-f),vI b,.fn (.yield 4) [] []]) (hx:=by intro r H;rw[heq];kernel_rfl) co m (i t (IntKind.i64.wrap (Am .u64 (IntKind.u64.wrap (c+b)) 1)) (((IntKind.i64.wrap (Am .u64 (IntKind.u64.wrap (c+b)) 1))+h)-f) b a) [((0,0),⟨0,true,58,8,Aa Aq t⟩)] [] (fun z=>.tup []) (fun z=>[((0,0),⟨0,true,58,8,Aa Aq z⟩)]) [] fun w m=>eR co (Ab [] Ag) m L fun r g=>fun _ m L=>BW (PG w) co m L (fun r g=>id) r g)) (fun m=>fO co m L))) (fun m=>eN co (Ab [0,3,4,18,24] Ag) nl nH m L fun r g=>fun _ m L=>mJ co 1 (Ab [0,3,4,18,24,213] Ag) nl nH m L fun r g=>fun _ m L=>Bg m (fun m=>rg (pR co 5 (Ab [214,215,216,217,218] Ag) m L fun r g=>fun _ m L=>BK m fun heq m=>c6 (θ:=fun r=>AB [(4,r.θ 4)]) (hΘ:=fun r g p s k=>(fun z0 n y l=>Bx co g _ k (j z0 n y l))) (xs:=[.ref (0,0) 0 0 e.length,vI (IntKind.i64.wrap (Am .u64 (IntKind.u64.wrap (c+b)) 1)),vI (((IntKind.i64.wrap (Am .u64 (IntKind.u64.wrap (c+b)) 1))+h)-f),vI b,.fn (.yield 4) [] []]) (hx:=by intro r H;rw[heq];kernel_rfl) co m (i o (IntKind.i64.wrap (Am .u64 (IntKind.u64.wrap (c+b)) 1)) (((IntKind.i64.wrap (Am .u64 (IntKind.u64.wrap (c+b)) 1))+h)-f) b a) [((0,0),⟨0,true,58,8,Aa Aq o⟩)] [] (fun z=>.tup []) (fun z=>[((0,0),⟨0,true,58,8,Aa Aq z⟩)]) [] fun x m=>eR co (Ab [] Ag) m L fun r g=>fun _ m L=>BW (Pz x) co m L (fun r g=>id) r g)) (fun m=>fO co m L))))) (fun m=>eN co (Ab [0,1,3,4,18,20,24] Ag) nl nH m L fun r g=>fun _ m L=>sq (mJ co 1 (Ab [0,1,3,4,18,20,24,199] Ag) nl nH m L fun r g=>fun _ m L=>Bg m (fun m=>rg (pR co 5 (Ab [0,3,4,18,24,200,201,202,203,204] Ag) m L fun r g=>fun _ m L=>c6 (θ:=fun r=>AB [(4,r.θ 4)]) (hΘ:=fun r g p s k=>(fun z0 n y l=>Bx co g _ k (j z0 n y l))) co m (i e c f (IntKind.i64.wrap (Am .u64 (IntKind.u64.wrap (c+b)) 1)) a) [((0,0),⟨0,true,58,8,Aa Aq e⟩)] [] (fun z=>.tup []) (fun z=>[((0,0),⟨0,true,58,8,Aa Aq z⟩)]) [] fun u m=>eR co (Ab [0,3,4,18,24] Ag) m L fun r g=>fun _ m L=>mJ co 1 (Ab [0,3,4,18,24,213] Ag) nl nH m L fun r g=>fun _ m L=>Bg m (fun m=>rg (pR co 5 (Ab [214,215,216,217,218] Ag) m L fun r g=>fun _ m L=>BK m fun heq m=>c6 (θ:=fun r=>AB [(4,r.θ 4)]) (hΘ:=fun r g p s k=>(fun z0 n y l=>Bx co g _ k (j z0 n y l))) (xs:=[.ref (0,0) 0 0 e.length,vI (IntKind.i64.wrap (Am .u64 (IntKind.u64.wrap (c+b)) 1)),vI (((IntKind.i64.wrap (Am .u64 (IntKind.u64.wrap (c+b)) 1))+h)-f),vI b,.fn (.yield 4) [] []]) (hx:=by intro r H;rw[heq];kernel_rfl) co m (i u (IntKind.i64.wrap (Am .u64 (IntKind.u64.wrap (c+b)) 1)) (((IntKind.i64.wrap (Am .u64 (IntKind.u64.wrap (c+b)) 1))+h)-f) b a) [((0,0),⟨0,true,58,8,Aa Aq u⟩)] [] (fun z=>.tup []) (fun z=>[((0,0),⟨0,true,58,8,Aa Aq z⟩)]) [] fun A m=>eR co (Ab [] Ag) m L fun r g=>fun _ m L=>BW (Py A) co m L (fun r g=>id) r g)) (fun m=>fO co m L))) (fun m=>eN co (Ab [0,3,4,18,24] Ag) nl nH m L fun r g=>fun _ m L=>mJ co 1 (Ab [0,3,4,18,24,213] Ag) nl nH m L fun r g=>fun _ m L=>Bg m (fun m=>rg (pR co 5 (Ab [214,215,216,217,218] Ag) m L fun r g=>fun _ m L=>c6 (θ:=fun r=>AB [(4,r.θ 4)]) (hΘ:=fun r g p s k=>(fun z0 n y l=>Bx co g _ k (j z0 n y l))) co m (i e (IntKind.i64.wrap (Am .u64 (IntKind.u64.wrap (c+b)) 1)) (((IntKind.i64.wrap (Am .u64 (IntKind.u64.wrap (c+b)) 1))+h)-f) b a) [((0,0),⟨0,true,58,8,Aa Aq e⟩)] [] (fun z=>.tup []) (fun z=>[((0,0),⟨0,true,58,8,Aa Aq z⟩)]) [] fun B m=>eR co (Ab [] Ag) m L fun r g=>fun _ m L=>BW (PJ B) co m L (fun r g=>id) r g)) (fun m=>fO co m L)))))))))) fun q r g=>⟨q ((((IntKind.i64.wrap (Am .u64 (IntKind.u64.wrap (c+b)) 1))+h)-b),(IntKind.i64.wrap (Am .u64 (IntKind.u64.wrap (c+b)) 1))),q (c,h)⟩)))))
theorem ZQ:∀(f:Nat) (b:List Slt) (c:Int) (d:Int) (e:Int) (a:Slt→Slt→Option Int),KO Tryz.prog 118 1 [.ref (0,0) 0 0 b.length,vI c,vI d,vI e,.fn (.yield 4) [] []] [⟨0,true,58,8,Aa Aq b⟩] (Br a) (Db f b c d e a) A3 (A4)
 |0,b,c,d,e,a=>⟨fun _ _ _ _ _ _ _ _ _ _ _ h=>(by cases h)⟩
 |f+1,b,c,d,e,a=>ZOX (Db f) (ZQ f) b c d e a
end Go.Proofs.YtbcmdieedjamgaaGreat
namespace Go.Proofs.YtbcmdieedjamgaaGreat
set_option maxRecDepth 100000
set_option linter.all false
open Go Go.Eng
theorem ZEJ{C:Cx}(co:CO C 1)(b:List Slt)(c:Int)(a:Slt→Slt→Option Int)(i:(Fw a) C.no C.l C.H0 C.θ):KL Tryz.prog (Ar tl) 63 C (pa [0,0,0,1,1] (As Tryz.f85)) [] 1 (Vl b c) (Wr b c) ET (EU) (Ig b c a):=fun(h,v2,f) _ m Q d e L=>mJ co 1 (Ab [0,1,2,6,7,8] Ag) (Ab [0,1,2,6,7] Ag) e m L fun r g=>⟨fun _ m L=>bk 1 (sq (rg (pR co 4 (Ab [0,1,2,6,8,14,15,16,17] Ag) m L fun r g=>fun _ m L=>BK m fun heq m=>c6 (θ:=fun r=>AB [(3,r.θ 2)]) (hΘ:=fun r g n o j=>(fun z0 l y k=>Bx co g _ j (i z0 l y k))) (xs:=[.ref (0,0) 0 0 b.length,vN h,vN v2,.fn (.yield 2) [] []]) (hx:=by intro r H;rw[heq];kernel_rfl) co m (tg f (h:Int) (v2:Int) a) [((0,0),⟨0,true,58,8,Aa Aq f⟩)] [] (fun z=>.tup []) (fun z=>[((0,0),⟨0,true,58,8,Aa Aq z⟩)]) [] fun p m=>eR co (Ab [0,1,2,6,8] Ag) m L fun r g=>fun _ m L=>eN co (Ab [0,1,2,6,7,8] Ag) nl e m L))),id⟩
theorem ZHF{C:Cx}(co:CO C 1)(f:List Slt)(h:Int)(b:Slt→Slt→Option Int)(e:Nat)(k:(Fw b) C.no C.l C.H0 C.θ):KL Tryz.prog (Ar tl) 63 C (pa [0,0,0,1,0,1,0,0,1,1,1,1] (As Tryz.f85)) [] 1 (VH f h e) (V5 f h e) ET (EU) (Ij f h b e):=fun(a,c,d) _ m Q i j L=>mJ co 1 (Ab [0,1,2,6,7,8] Ag) (Ab [0,1,2,6,7] Ag) j m L fun r g=>⟨fun _ m L=>bk 5 (sq (rg (pR co 7 (Ab [0,1,2,6,8,36,37,40,41,42] Ag) m L fun r g=>fun _ m L=>BK m fun heq m=>c6 (θ:=fun r=>AB [(4,r.θ 2)]) (hΘ:=fun r g q s l=>(fun z0 p y n=>Bx co g _ l (k z0 p y n))) (xs:=[.ref (0,0) 0 0 f.length,vN a,vN (a+e),vN c,.fn (.yield 2) [] []]) (hx:=by intro r H;rw[heq];kernel_rfl) co m (ZQ ((c:Int)-(a:Int)+1).toNat d (a:Int) ((a+e:Nat):Int) (c:Int) b) [((0,0),⟨0,true,58,8,Aa Aq d⟩)] [] (fun z=>.tup []) (fun z=>[((0,0),⟨0,true,58,8,Aa Aq z⟩)]) [] fun o m=>eR co (Ab [0,1,2,6,8] Ag) m L fun r g=>fun _ m L=>eN co (Ab [0,1,2,6,7,8] Ag) nl j m L))),id⟩
theorem ZEu{C:Cx}(co:CO C 1)(f:List Slt)(d:Int)(b:Slt→Slt→Option Int)(j:(Fw b) C.no C.l C.H0 C.θ):KL Tryz.prog (Ar tl) 63 C (pa [0,0,1,1,1,1] (As Tryz.f85)) [] 1 (QC f d) (Vf) ET (EU) (GC f d b):=fun(h,s) _ m Q i c L=>mJ co 1 (Ab [0,1,2,6] Ag) (Ab [] Ag) c m L fun r g=>⟨fun _ m L=>bk 3 (mJ co 1 (Ab [0,1,2,6,7,8] Ag) nl c m L fun r g=>fun _ m L=>sq (bk 4 (lo (Ej (ZHF co f d b h j) c m L (fun(a,e) m=>sq (mJ co 2 (Ab [0,1,2,6,7,9,54] Ag) nl c m L fun r g=>fun _ m L=>Bg m (fun m=>rg (pR co 5 (Ab [0,1,2,6,55,56,57,58,59] Ag) m L fun r g=>fun _ m L=>BK m fun heq m=>c6 (θ:=fun r=>AB [(4,r.θ 2)]) (hΘ:=fun r g p q k=>(fun z0 o y l=>Bx co g _ k (j z0 o y l))) (xs:=[.ref (0,0) 0 0 f.length,vN a,vN (a+h),vI d,.fn (.yield 2) [] []]) (hx:=by intro r H;rw[heq];kernel_rfl) co m (ZQ (d-(a:Int)+1).toNat e (a:Int) ((a+h:Nat):Int) d b) [((0,0),⟨0,true,58,8,Aa Aq e⟩)] [] (fun z=>.tup []) (fun z=>[((0,0),⟨0,true,58,8,Aa Aq z⟩)]) [] fun n m=>eR co (Ab [0,1,2,6] Ag) m L fun r g=>fun _ m L=>eN co (Ab [0,1,2,6] Ag) nl c m L)) (fun m=>eN co (Ab [0,1,2,6] Ag) nl c m L fun r g=>fun _ m L=>eN co (Ab [0,1,2,6] Ag) nl c m L))))))),id⟩
theorem ZXM(b:List Slt)(c:Int)(a:Slt→Slt→Option Int):KO Tryz.prog 85 1 [.ref (0,0) 0 0 b.length,vI c,.fn (.yield 2) [] []] [⟨0,true,58,8,Aa Aq b⟩] (Fw a) (Ms b c a) ET (EU):=EQ Tryz.func85 Tryz.ntmps85 AU [] 1 (fun C co d y m f L=>mJ co 2 (Ab [0,1,2,6,7,8] Ag) nl nH m L fun r g=>fun _ m L=>sq (bk 0 (lo (Ay (ZEJ co b c a d) nH m L (fun(i,h) m=>sq (rg (pR co 4 (Ab [0,1,2,6,23,24,25,26] Ag) m L fun r g=>fun _ m L=>BK m fun heq m=>c6 (θ:=fun r=>AB [(3,r.θ 2)]) (hΘ:=fun r g n o j=>(fun z0 l y k=>Bx co g _ j (d z0 l y k))) (xs:=[.ref (0,0) 0 0 b.length,vN i,vI c,.fn (.yield 2) [] []]) (hx:=by intro r H;rw[heq];kernel_rfl) co m (tg h (i:Int) c a) [((0,0),⟨0,true,58,8,Aa Aq h⟩)] [] (fun z=>.tup []) (fun z=>[((0,0),⟨0,true,58,8,Aa Aq z⟩)]) [] fun p m=>eR co (Ab [0,1,2,6] Ag) m L fun r g=>fun _ m L=>bk 2 (lo (Ay (ZEu co b c a d) nH m L (fun e m=>BW (Qb e) co m L (fun r g=>id) r g))))))))))
theorem ZXX(b:List Slt)(a:Slt→Slt→Option Int):KO Tryz.prog 43 1 [.ref (0,0) 0 0 b.length,.fn (.yield 1) [] []] [⟨0,true,58,8,Aa Aq b⟩] (WW a) (FF b a) QW (Rg):=EQ Tryz.func43 Tryz.ntmps43 AU [] 1 (fun C co d y m c L=>rg (pR co 4 (Ab [4,6,7] Ag) m L fun r g=>fun _ m L=>c6 (θ:=fun r=>AB [(2,r.θ 1)]) (hΘ:=fun r g j k e=>(fun z0 i y f=>Bx co g _ e (d z0 i y f))) co m (ZXM b (b.length:Int) a) [((0,0),⟨0,true,58,8,Aa Aq b⟩)] [] (fun z=>.tup []) (fun z=>[((0,0),⟨0,true,58,8,Aa Aq z⟩)]) [] fun h m=>eR co (Ab [] Ag) m L fun r g=>fun _ m L=>BW (QK h) co m L (fun r g=>id) r g))
abbrev iY:Int→AV:=fun y=>vI y
def u0(a:Slt)(b:Slt):PT 0 (Int):=wg<|wg<|cl (Ow a.num b.num) fun c=>lr iY nG c
def Mw(a:Slt)(b:Slt):Option (Int):=(u0 a b).m
theorem ZWS(a:Slt)(b:Slt):KC Tryz.prog 44 [.agg ((Dn a).map .d),.agg ((Dn b).map .d)] (Mw a b) iY:=kC Tryz.func44 Tryz.ntmps44 [.tmp 4] fun co m L=>fO co m L
def ZF3:Go.Shelf.Ren:=⟨fun|4=>119|n=>n,fun|22=>33|25=>65|n=>n,fun n=>n⟩
theorem Zv3:Go.Proofs.Lays8.n4 Tryz.prog ZF3:={
 mixed:=by kernel_rfl,
 f4:=⟨Tryz.f119.name,by decide+kernel,Tryz.func119.trans (congrArg some (by kernel_rfl))⟩,
 t0:=Tryz.underlying0,
 a0:=Tryz.isAgg0,
 z0:=Tryz.sizeOf0,
 v0:=Tryz.zeroValue0,
 t3:=Tryz.underlying3,
 a3:=Tryz.isAgg3,
 z3:=Tryz.sizeOf3,
 v3:=Tryz.zeroValue3,
 t4:=Tryz.underlying4,
 a4:=Tryz.isAgg4,
 z4:=Tryz.sizeOf4,
 v4:=Tryz.zeroValue4,
 t9:=Tryz.underlying9,
 a9:=Tryz.isAgg9,
 z9:=Tryz.sizeOf9,
 v9:=Tryz.zeroValue9,
 t20:=Tryz.underlying20,
 a20:=Tryz.isAgg20,
 z20:=Tryz.sizeOf20,
 v20:=Tryz.zeroValue20,
 t22:=Tryz.underlying33,
 a22:=Tryz.isAgg33,
 z22:=Tryz.sizeOf33,
 v22:=Tryz.zeroValue33 }
abbrev ZXB:List Raw→AV:=fun y=>.ref (0,0) 1 0 y.length
@[reducible] def ZW5:List Raw→List Blk:=fun y=>[⟨1,true,65,4,Aa Av y⟩]
def dL(n:Nat):Option (List Raw):=if n<549755813888 then some []else none
theorem ZSL(n:Nat):KO Tryz.prog 119 1 [.e0,vN n] [⟨0,false,0,0,[]⟩] (fun _ _ _ _=>True) (dL n) ZXB ZW5:=⟨fun l H ks k θ b a j i _ y hy=>by
 obtain⟨d,hy⟩:=BD hy
 cases hy
 match ks,b with
 |[m],_=>
  have hi:∃i0 z,(Tryz.prog).info? 65=some i0∧i0.zero=some z∧i0.size=4∧z.cells.size=i0.size∧i0.bytes≤256:=⟨_,_,rfl,rfl,rfl,by decide+kernel,by decide+kernel⟩
  obtain⟨i0,z,e,f,c,g,h⟩:=hi
  exact dO Zv3 i0 z e f (by rw[c];decide) g h ⟨_,As Tryz.f119,Tryz.func119,by kernel_rfl,by kernel_rfl⟩ a.1 i.1.1 n d (by rw[c];exact⟨rfl,rfl⟩)⟩
abbrev Re:List Raw→AV:=fun y=>.ref (0,0) 1 0 y.length
@[reducible] def Rj:List Raw→List Blk:=fun y=>[⟨1,true,65,4,Aa Av y⟩]
def r4(a:List (List Raw)):Nat×Nat→St:=fun(b,v2)=>Ac [(0,vL Fc a),(3,vN b),(9,vL Fc a),(10,vN a.length),(11,vN v2)] []
def sA(a:List (List Raw)):Nat→Nat×St:=fun v4=>(0,Ac [(0,vL Fc a),(3,vN v4)] [])
def VX(b:List (List Raw))(c:Nat)(v2:Nat):PT 1 (Lv (Nat×Nat) (Nat) (List Raw)):=br (decide ((v2:Int)<(b.length:Int))) (ix b v2 fun a=>vz (Aj a)<|vs (wa c a.length)<|br (decide (((c+a.length:Nat):Int)<(0:Int))) (dd) (vs (wa v2 1)<|ln (r4 b) (c+a.length,v2+1))) (Af (sA b) c)
def HY(a:List (List Raw)):Nat×Nat→Option (Lv (Nat×Nat) (Nat) (List Raw)):=fun(b,v2)=>(VX a b v2).m
def p5(a:List (List Raw)):List Raw×Nat→St:=fun(b,c)=>Ac [(6,.ref (1,24) 0 0 b.length),(25,vL Fc a),(26,vN a.length),(27,vN c)] [kk 24 65 4 (Aa Av b)]
def oU:List Raw→Nat×St:=fun a=>(2,Ac [(6,.ref (1,24) 0 0 a.length)] [kk 24 65 4 (Aa Av a)])
def VN(d:List (List Raw))(a:List Raw)(b:Nat):PT 1 (Lv (List Raw×Nat) (List Raw) (List Raw)):=br (decide ((b:Int)<(d.length:Int))) (ix d b fun c=>aq a c<|vs (wa b 1)<|vz (fl (a++c))<|ln (p5 d) (a++c,b+1)) (vz (fl a)<|Af (oU) a)
def H6(a:List (List Raw)):List Raw×Nat→Option (Lv (List Raw×Nat) (List Raw) (List Raw)):=fun(b,c)=>(VN a b c).m
def py(a:List Raw):PT 1 (List Raw):=vw .sep<|mv 24 0 a<|lr Re (Rj) a
def qz(a:List (List Raw))(b:List Raw):PT 1 (List Raw):=vz (Aj a)<|vz (fl b)<|lc (Ac [(6,.ref (1,24) 0 0 b.length),(25,vL Fc a),(26,vN a.length),(27,vI 0)] [kk 24 65 4 (Aa Av b)]) ((Ai (H6 a) Ah (b,0)).bind (Sum.elim (fun c=>(py c).m) some))
def rK(b:List (List Raw))(a:List Raw):PT 1 (List Raw):=vz (fl a)<|lc (Ac [(0,vL Fc b),(6,.ref (1,24) 0 0 a.length)] [kk 24 65 4 (Aa Av a)]) ((qz b a).m)
def oP(a:List (List Raw))(v4:Nat):PT 1 (List Raw):=lc (Ac [(0,vL Fc a),(23,vN v4)] []) ((dL v4).bind fun b=>(rK a b).m)
def p7(a:List (List Raw)):PT 1 (List Raw):=vz (Aj a)<|lc (Ac [(0,vL Fc a),(3,vI 0),(9,vL Fc a),(10,vN a.length),(11,vI 0)] []) ((Ai (HY a) Ah (0,0)).bind (Sum.elim (fun v4=>(oP a v4).m) some))
def oh(a:List (List Raw)):PT 1 (List Raw):=lc (Ac [(0,vL Fc a),(3,vI 0)] []) ((p7 a).m)
def Ti(a:List (List Raw)):Option (List Raw):=(oh a).m
theorem ZEH{C:Cx}(co:CO C 1)(a:List (List Raw)):KL Tryz.prog (Ar tl) 36 C (pa [0,0,1,0,1,1] (As Tryz.f87)) [.tmp 2] 1 (r4 a) (sA a) Re (Rj) (HY a):=fun(e,v2) _ m Q b c L=>eN co (AD [0,3,9,10,11]) (AD [0,3]) c m L fun r g=>⟨fun d=>⟨trivial,id⟩,id⟩
theorem ZEk{C:Cx}(co:CO C 1)(b:List (List Raw)):KL Tryz.prog (Ar tl) 36 C (pa [0,0,1,0,1,1,1,1] (As Tryz.f87)) [.tmp 2] 1 (p5 b) (oU) Re (Rj) (H6 b):=fun(d,e) _ m Q a c L=>eN co (Ab [6,25,26,27] F0) (Ab [6] F0) c m L
theorem ZXk(a:List (List Raw)):KO Tryz.prog 87 1 [vL Fc a] [⟨0,false,0,0,[]⟩] (fun _ _ _ _=>True) (Ti a) Re (Rj):=kO Tryz.func87 Tryz.ntmps87 [.tmp 2] 1 (fun co b m L=>mJ co 2 (AD [0,3]) nl nH m L fun r g=>fun _ m L=>sq (mJ co 1 (AD [0,3,9,10,11]) nl nH m L fun r g=>fun _ m L=>bk 0 (lo (Ay (ZEH co a) nH m L (fun v4 m=>sq (rg (pR co 1 (AD [0,23]) m L fun r g=>fun _ m L=>c6 co m (ZSL v4) [((1,24),⟨0,false,0,0,[]⟩)] [] (fun z=>.ref (1,24) 1 0 z.length) (fun z=>[((1,24),⟨1,true,65,4,Aa Av z⟩)]) [] fun d m=>eR co (Ab [0,6] F0) m L fun r g=>fun _ m L=>sq (mJ co 1 (Ab [6,25,26,27] F0) nl nH m L fun r g=>fun _ m L=>bk 2 (lo (Ay (ZEk co a) nH m L (fun c m=>fO co m L)))))))))))
theorem Zxw{C:Cx}(co:CO C 1)(b:List Raw)(c:Int)(d:Int)(a:Raw→Raw→Option Int)(e:Int)(i:(Ip a) C.no C.l C.H0 C.θ):KL Tryz.prog (Ar tl) 53 C (pa [0,0,1,0,0,1,0,0,1] (As Tryz.f149)) [] 1 (UG b c d e) (UY b c d e) Hj (Hr) (Fa b c d a e):=fun(v3,o) _ m Q f h L=>eN co (Ab [0,1,2,3,8,9] Ag) (Ab [0,1,2,3,8] Ag) h m L fun r g=>fun j=>fun k=>⟨⟨fun y hy=>i _ _ y hy,by intro r;kernel_rfl,by intro r y;kernel_rfl⟩,fun p=>⟨fun l=>fun n=>id,id⟩⟩
theorem Zyd{C:Cx}(co:CO C 1)(c:List Raw)(d:Int)(e:Int)(a:Raw→Raw→Option Int)(h:(Ip a) C.no C.l C.H0 C.θ):KL Tryz.prog (Ar tl) 53 C (pa [0,0,1] (As Tryz.f149)) [] 1 (U2 c d e) (UR) Hj (Hr) (HW c d e a):=fun(j,k) _ m Q f b L=>mJ co 1 (Ab [0,1,2,3,8] Ag) (Ab [] Ag) b m L fun r g=>⟨fun _ m L=>sq (bk 1 (mJ co 1 (Ab [0,1,2,3,8,9] Ag) nl b m L fun r g=>fun _ m L=>bk 2 (lo (Ej (Zxw co c d e a j h) b m L (fun i m=>eN co (Ab [0,1,2,3,8] Ag) nl b m L))))),id⟩
theorem uy(b:List Raw)(c:Int)(d:Int)(a:Raw→Raw→Option Int):KO Tryz.prog 149 1 [.ref (0,0) 0 0 b.length,vI c,vI d,.fn (.yield 3) [] []] [⟨0,true,65,4,Aa Av b⟩] (Ip a) (Jo b c d a) Hj (Hr):=kO Tryz.func149 Tryz.ntmps149 [] 1 (fun co f m L=>mJ co 1 (Ab [0,1,2,3,8] Ag) nl nH m L fun r g=>fun _ m L=>bk 0 (lo (Ay (Zyd co b c d a f) nH m L (fun e m=>BW (P0 e) co m L (fun r g=>id) r g))))
theorem ZxE{C:Cx}(co:CO C 1)(b:List Raw)(c:Int)(d:Int)(e:Int):KL Tryz.prog (Ar tl) 38 C (pa [0,0,1] (As Tryz.f180)) [] 1 (Uu b c d e) (UX) KN (Ku) (JB b c d e):=fun(h,g) _ m Q a f L=>eN co (Ab [0,1,2,3,10] Ag) (Ab [] Ag) f m L
theorem ZJ(a:List Raw)(b:Int)(c:Int)(d:Int):KO Tryz.prog 180 1 [.ref (0,0) 0 0 a.length,vI b,vI c,vI d,.fn (.yield 4) [] []] [⟨0,true,65,4,Aa Av a⟩] (fun _ _ _ _=>True) (HN a b c d) KN (Ku):=kO Tryz.func180 Tryz.ntmps180 [] 1 (fun co f m L=>mJ co 1 (Ab [0,1,2,3,10] Ag) nl nH m L fun r g=>fun _ m L=>bk 0 (lo (Ay (ZxE co a b c d) nH m L (fun e m=>BW (PS e) co m L (fun r g=>id) r g))))
theorem Zvp{C:Cx}(co:CO C 1)(c:List Raw)(a:Int):KL Tryz.prog (Ar tl) 58 C (pa [0,0,0,1,1] (As Tryz.f171)) [] 1 (PP c a) (UM c a) KI (Kq) (Gy c a):=fun(b,v2,e) _ m Q f d L=>mJ co 1 (Ab [0,2,4,10,11] Ag) (Ab [0,2,4,10] Ag) d m L fun r g=>⟨fun _ m L=>bk 1 (mJ co 1 (Ab [0,2,4,10,11,23] Ag) nl d m L fun r g=>fun _ m L=>Bg m (fun m=>sq (rg (pR co 7 (Ab [0,2,4,10,11,24,27,28,29,30] Ag) m L fun r g=>fun _ m L=>BK m fun heq m=>c6 (θ:=fun r=>AB [(4,r.θ 4)]) (xs:=[.ref (0,0) 0 0 c.length,vI (a-b),vI a,vI v2,.fn (.yield 4) [] []]) (hx:=by intro r H;rw[heq];kernel_rfl) co m (ZJ e (a-b) a v2) [((0,0),⟨0,true,65,4,Aa Av e⟩)] [] (fun z=>.tup []) (fun z=>[((0,0),⟨0,true,65,4,Aa Av z⟩)]) [] fun h m=>eR co (Ab [0,2,4,10,11] Ag) m L fun r g=>fun _ m L=>eN co (Ab [0,2,4,10,11] Ag) nl d m L))) (fun m=>sq (rg (pR co 11 (Ab [0,2,4,10,11,35,38,43,44,45] Ag) m L fun r g=>fun _ m L=>BK m fun heq m=>c6 (θ:=fun r=>AB [(4,r.θ 4)]) (xs:=[.ref (0,0) 0 0 c.length,vI (a-b),vI ((a+v2)-b),vI b,.fn (.yield 4) [] []]) (hx:=by intro r H;rw[heq];kernel_rfl) co m (ZJ e (a-b) ((a+v2)-b) b) [((0,0),⟨0,true,65,4,Aa Av e⟩)] [] (fun z=>.tup []) (fun z=>[((0,0),⟨0,true,65,4,Aa Av z⟩)]) [] fun i m=>eR co (Ab [0,2,4,10,11] Ag) m L fun r g=>fun _ m L=>eN co (Ab [0,2,4,10,11] Ag) nl d m L)))),id⟩
theorem ZSK(b:List Raw)(d:Int)(a:Int)(e:Int):KO Tryz.prog 171 1 [.ref (0,0) 0 0 b.length,vI d,vI a,vI e,.fn (.yield 4) [] []] [⟨0,true,65,4,Aa Av b⟩] (fun _ _ _ _=>True) (KY b d a e) KI (Kq):=kO Tryz.func171 Tryz.ntmps171 [] 1 (fun co i m L=>mJ co 2 (Ab [0,2,4,10,11] Ag) nl nH m L fun r g=>fun _ m L=>sq (bk 0 (lo (Ay (Zvp co b a) nH m L (fun(c,f) m=>rg (pR co 7 (Ab [50,53,54,55,56] Ag) m L fun r g=>fun _ m L=>BK m fun heq m=>c6 (θ:=fun r=>AB [(4,r.θ 4)]) (xs:=[.ref (0,0) 0 0 b.length,vI (a-c),vI a,vI c,.fn (.yield 4) [] []]) (hx:=by intro r H;rw[heq];kernel_rfl) co m (ZJ f (a-c) a c) [((0,0),⟨0,true,65,4,Aa Av f⟩)] [] (fun z=>.tup []) (fun z=>[((0,0),⟨0,true,65,4,Aa Av z⟩)]) [] fun h m=>eR co (Ab [] Ag) m L fun r g=>fun _ m L=>BW (P5 h) co m L (fun r g=>id) r g))))))
end Go.Proofs.YtbcmdieedjamgaaGreat
