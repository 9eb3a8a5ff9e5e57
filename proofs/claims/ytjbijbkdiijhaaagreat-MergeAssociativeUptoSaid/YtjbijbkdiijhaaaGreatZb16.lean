import Derived.Test.YtjbijbkdiijhaaaGreatZb15
import Derived.Test.YtjbijbkdiijhaaaGreatZb00
namespace Go.Proofs.YtjbijbkdiijhaaaGreat
set_option maxRecDepth 100000
set_option linter.all false
open Go Go.Eng
abbrev Sh(a:List Slt):Af×Blk:=((0,0),⟨0,true,61,8,Ab Aq a⟩)
abbrev ZP:List Slt→AV:=fun y=>.ref (0,0) 0 0 y.length
@[reducible] def Z1:List Slt→List Blk:=fun y=>[⟨0,true,61,8,Ab Aq y⟩]
def qW(a:Slt→Option Bool):Cl:=fun no l H θ=>(∀(z0:Slt) y,a z0=some y→CP Tryz.prog l no H (θ 1) [.agg ((Dz z0).map .d)] (vB y))
def eI(a:List Slt):Int×Int×List Slt→St:=fun(v2,v3,b)=>Ad [(0,.ref (0,0) 0 0 a.length),(1,.fn (.yield 1) [] []),(5,vI v2),(6,vI v3)] [((0,0),⟨0,true,61,8,Ab Aq b⟩)]
def xB(a:List Slt):Int×List Slt→Nat×St:=fun(c,b)=>(0,Ad [(0,.ref (0,0) 0 0 a.length),(5,vI c)] [((0,0),⟨0,true,61,8,Ab Aq b⟩)])
def XN(b:List Slt)(d:Slt→Option Bool)(v2:Int)(v3:Int)(a:List Slt):PT 1 (Lv (Int×Int×List Slt) (Int×List Slt) (List Slt)):=vz (BH b.length)<|br (decide (v3<(b.length:Int))) (vs (AI v3 b.length 8)<|ca a v3.toNat fun c=>wg<|wg<|cf Tryz.prog 1 [.agg ((Dz c).map .d)] (d c) (fun y=>vB y) fun e=>br (!e) (wg<|vs (AI v2 b.length 8)<|vs (st a v2.toNat c)<|BY 0 ((Rw.f (c:Slt)).map .d) (fun _=>Hg _)<|vs (wi (v2+1))<|vs (wi (v3+1))<|vz (fl (a.set v2.toNat c))<|ln (eI b) ((v2+1),(v3+1),a.set v2.toNat c)) (vs (wi (v3+1))<|vz (fl a)<|ln (eI b) (v2,(v3+1),a))) (vz (fl a)<|Ai (xB b) (v2,a))
def Se(b:List Slt)(a:Slt→Option Bool):Int×Int×List Slt→Option (Lv (Int×Int×List Slt) (Int×List Slt) (List Slt)):=fun(v2,v3,c)=>(XN b a v2 v3 c).m
def ba(c:List Slt)(a:Int)(b:List Slt):PT 1 (List Slt):=sR c.length 0 (.it a) .no<|cr b (0+a.toNat) (c.length-a.toNat) [vI 0,vI 0,.d (.int .u64 0),vS ⟨#[]⟩,.e0,.e0,.e0,.e0]<|BY 0 ([vI 0,vI 0,.d (.int .u64 0),vS ⟨#[]⟩,.e0,.e0,.e0,.e0]) (fun _=>Zuh (by kernel_rfl))<|J9 0 b (0+a.toNat) (c.length-a.toNat) [vI 0,vI 0,.d (.int .u64 0),vS ⟨#[]⟩,.e0,.e0,.e0,.e0]<|vw .sep<|sR c.length 0 .no (.it a)<|Et (a.toNat=(b.take (0+a.toNat)).length) (fun E=>E.P (.ref (0,0) 0 0 a.toNat) ([⟨0,true,61,8,Ab Aq (b.take (0+a.toNat))⟩])) (b.take (0+a.toNat))
def ci(a:List Slt)(c:Slt→Option Bool)(b:Int):PT 1 (List Slt):=vs (wi (b+1))<|vz (fl a)<|lc (Ad [(0,.ref (0,0) 0 0 a.length),(1,.fn (.yield 1) [] []),(5,vI b),(6,vI (b+1))] [(Sh a)]) ((Am (Se a c) Al (b,(b+1),a)).bind (Sum.elim (fun(e,d)=>(ba a e d).m) some))
def dP(a:List Slt)(b:Slt→Option Bool):PT 1 (List Slt):=cs Tryz.prog 46 [.ref (0,0) 0 0 a.length,.fn (.yield 1) [] []] [(0,0)] [(Sh a)] (Pw a b) (fun y=>vI y) fun c=>br (decide (c=((-1):Int))) (lr ZP (Z1) a) (vz (fl a)<|lc (Ad [(0,.ref (0,0) 0 0 a.length),(1,.fn (.yield 1) [] []),(5,vI c)] [(Sh a)]) ((ci a b c).m))
def Pv(b:List Slt)(a:Slt→Option Bool):Option (List Slt):=(dP b a).m
theorem ZIG{C:Cx}(co:CO C 1)(b:List Slt)(a:Slt→Option Bool)(f:(qW a) C.no C.l C.H0 C.θ):KL Tryz.prog (AC tl) 42 C (pa [0,0,1,0,1,1,1] (Az Tryz.f19)) [.tmp 4] 1 (eI b) (xB b) ZP (Z1) (Se b a):=fun(v2,v3,h) _ hm Q c e d=>At co Aa Ae (XN b a v2 v3 h) (Ac [0,1,5,6] Ah) (Ac [0,5] Ah) e hm d fun r g=>⟨fun i=>⟨⟨fun y hy=>f _ y hy,by intro r;kernel_rfl,by intro r y;kernel_rfl⟩,fun j=>⟨id,id⟩⟩,id⟩
theorem ZVn(b:List Slt)(a:Slt→Option Bool):KO Tryz.prog 19 1 [.ref (0,0) 0 0 b.length,.fn (.yield 1) [] []] [⟨0,true,61,8,Ab Aq b⟩] (qW a) (Pv b a) ZP (Z1):=Bv Tryz.func19 Tryz.ntmps19 Aa [.tmp 4] 1 (fun C co e y hm d c=>Aj co Aa Ae 3 (dP b a) (Ac [0,1,5] Ah) nl nH hm c fun r g=>⟨fun y hy=>He (tj b a) hy co g [(Sh b)] [] (AG [(1,r.θ 1)]) (fun m o f=>(fun z0 y i=>BJ co g [(Sh b)] f (e z0 y i))) (fun H=>⟨fun _=>⟨rfl,AE (Aw _ _) (by kernel_rfl)⟩,by kernel_rfl,trivial⟩),fun l=>⟨id,fun _ hm c=>sq (Aj co Aa Ae 1 (ci b a l) (Ac [0,1,5,6] Ah) nl nH hm c fun r g=>fun _ hm c=>bk 0 (lo (AH (ZIG co b a e) nH hm c (fun(k,j) hm=>Ax co Aa Ae (ba b k j) hm c fun r g=>fun h c=>lfx (congrArg (fun n=>(.ref (0,0) 0 0 n:AV)) h) c))))⟩⟩) (hB:=fun y=>⟨.inl (Aw _ _),rfl,trivial⟩)
abbrev X3:Af×Blk:=kk 4 51 16 [vI 0,vS ⟨#[]⟩,vI 0,vI 0,vI 0,vS ⟨#[]⟩,vS ⟨#[]⟩,vB false,vI 0,.d (.int .u64 0),vS ⟨#[]⟩,.e0,.e0,.e0,.e0,.e0]
abbrev SD:Fld×Bool→AV:=fun y=>.tup [.agg ((AB y.1).map .d),vB y.2]
def qZ(a:Fld→Option Bool):Cl:=fun no l H θ=>(∀(z0:Fld) y,a z0=some y→CP Tryz.prog l no H (θ 1) [.agg ((AB z0).map .d)] (vB y))
def uR(a:List Fld):Nat→St:=fun b=>Ad [(1,.fn (.yield 1) [] []),pp 4,(9,vL AB a),(10,vN a.length),(11,vN b)] [X3]
def wQ:Unit→Nat×St:=fun _=>(0,Ad [pp 4] [X3])
def Xz(c:List Fld)(d:Fld→Option Bool)(a:Nat):PT 0 (Lv (Nat) (Unit) (Fld×Bool)):=br (decide ((a:Int)<(c.length:Int))) (ix c a fun b=>wg<|wg<|cf Tryz.prog 1 [.agg ((AB b).map .d)] (d b) (fun y=>vB y) fun e=>br e (wg<|wg<|AA SD nG (b,true)) (vs (wa a 1)<|ln (uR c) (a+1))) (Ai (wQ) ())
def RJ(b:List Fld)(a:Fld→Option Bool):Nat→Option (Lv (Nat) (Unit) (Fld×Bool)):=fun c=>(Xz b a c).m
def cO:PT 0 (Fld×Bool):=wg<|wg<|lr SD nG ((.mk 0 ⟨#[]⟩ 0 0 (.mk 0 ⟨#[]⟩:Typ) ⟨#[]⟩ false (.mk 0 0 ⟨#[]⟩ [] [] [] []:Val) []:Fld),false)
def dc(a:List Fld)(b:Fld→Option Bool):PT 0 (Fld×Bool):=vz (An a)<|lc (Ad [(1,.fn (.yield 1) [] []),pp 4,(9,vL AB a),(10,vN a.length),(11,vI 0)] [X3]) ((Am (RJ a b) Al 0).bind (Sum.elim (fun _=>(cO).m) some))
def bf(b:List Fld)(a:Fld→Option Bool):PT 0 (Fld×Bool):=lc (Ad [(0,vL AB b),(1,.fn (.yield 1) [] []),pp 4] [X3]) ((dc b a).m)
def Vj(b:List Fld)(a:Fld→Option Bool):Option (Fld×Bool):=(bf b a).m
theorem ZKM{C:Cx}(co:CO C 0)(b:List Fld)(a:Fld→Option Bool)(f:(qZ a) C.no C.l C.H0 C.θ):KL Tryz.prog (AC tl) 21 C (pa [0,0,1,0,1] (Az Tryz.f47)) [.cell 4 51,.tmp 5] 0 (uR b) (wQ) SD nG (RJ b a):=fun h _ hm Q c e d=>At co Aa Ae (Xz b a h) (Ac [1,4,9,10,11] GQ) (Ac [4] GQ) e hm d fun r g=>⟨fun i=>⟨⟨fun y hy=>f _ y hy,by intro r;kernel_rfl,by intro r y;kernel_rfl⟩,fun j=>⟨id,id⟩⟩,id⟩
theorem ZVf(c:List Fld)(a:Fld→Option Bool):KO Tryz.prog 47 0 [vL AB c,.fn (.yield 1) [] []] [] (qZ a) (Vj c a) SD nG:=Bv Tryz.func47 Tryz.ntmps47 Aa [.cell 4 51,.tmp 5] 0 (fun C co e y hm d b=>Aj co Aa Ae 1 (bf c a) (Ac [0,1,4] GQ) nl nH hm b fun r g=>fun _ hm b=>sq (Aj co Aa Ae 1 (dc c a) (Ac [1,4,9,10,11] GQ) nl nH hm b fun r g=>fun _ hm b=>bk 0 (lo (AH (ZKM co c a e) nH hm b (fun _ hm=>Ax co Aa Ae (cO) hm b fun r g=>id)))))
abbrev qz:Bool→AV:=fun y=>vB y
@[reducible] def qQ(w0:Int):Bool→List Blk:=fun y=>[⟨0,true,3,1,[vI w0]⟩]
def uX(a:Fld)(w0:Int):PT 1 (Bool):=wg<|wg<|lr qz (qQ w0) (decide (a.num=w0))
def MS(a:Fld)(w0:Int):Option (Bool):=(uX a w0).m
theorem ZVt(a:Fld)(w0:Int):KO Tryz.prog 48 1 [.agg ((AB a).map .d),.ptr (0,0) 0 0] [⟨0,true,3,1,[vI w0]⟩] (fun _ _ _ _=>True) (MS a w0) qz (qQ w0):=Bv Tryz.func48 Tryz.ntmps48 Aa [.tmp 3] 1 (fun C co d y hm b c=>Ax co Aa Ae (uX a w0) hm c fun r g=>id) (hB:=fun y=>⟨.inr (by kernel_rfl),rfl,trivial⟩)
abbrev qu:Fld×Bool→AV:=fun y=>.tup [.agg ((AB y.1).map .d),vB y.2]
def fe(a:Msg)(b:Int):PT 0 (Fld×Bool):=wg<|cs Tryz.prog 47 [vL AB a.fields,.fn (.func 48) [] [.ptr (1,3) 1 0]] [(1,3)] [((1,3),⟨1,true,3,1,[vI b]⟩)] (Vj a.fields (fun(z0:Fld)=>MS z0 b)) (fun y=>.tup [.agg ((AB y.1).map .d),vB y.2]) fun c=>wg<|lr qu nG (c.1,c.2)
def kn(a:Msg)(b:Int):Option (Fld×Bool):=(fe a b).m
theorem xI(b:Msg)(a:Int):KC Tryz.prog 21 [.agg ((AR b).map .d),vI a] (kn b a) qu:=AF Tryz.func21 Tryz.ntmps21 Aa [.cell 4 51,.tmp 5] fun C co y hm c d=>Ax co Aa Ae (fe b a) hm d fun r g=>⟨fun y hy=>He (ZVf b.fields (fun(z0:Fld)=>MS z0 a)) hy co g [] [((1,3),⟨1,true,3,1,[vI a]⟩)] (AG [(1,.fn (.func 48) [] [.ptr (r.κ (1,3)) (r.γ (1,3)+1) 0])]) (fun h e i=>(fun z0 y f=>Lc (ZVt z0 a) f co g [((1,3),⟨1,true,3,1,[vI a]⟩)] [] e (by simp) (fun _=>.top) (fun _ _=>trivial) (fun l H=>⟨fun _=>⟨rfl,by kernel_rfl⟩,by kernel_rfl,trivial⟩))) (fun H=>trivial),fun j=>id⟩
abbrev SM:Int→AV:=fun y=>vI y
def q5(a:Fld→Option Bool):Cl:=fun no l H θ=>(∀(z0:Fld) y,a z0=some y→CP Tryz.prog l no H (θ 1) [.agg ((AB z0).map .d)] (vB y))
def uk(a:List Fld):Nat→St:=fun b=>Ad [(0,vL AB a),(1,.fn (.yield 1) [] []),(7,vN a.length),(8,vN b)] []
def uq:Unit→Nat×St:=fun _=>(0,Ad [] [])
def XT(b:List Fld)(c:Fld→Option Bool)(a:Nat):PT 0 (Lv (Nat) (Unit) (Int)):=br (decide ((a:Int)<(b.length:Int))) (ix b a fun d=>cf Tryz.prog 1 [.agg ((AB d).map .d)] (c d) (fun y=>vB y) fun e=>br e (AA SM nG (a:Int)) (vs (wa a 1)<|ln (uk b) (a+1))) (Ai (uq) ())
def R9(b:List Fld)(a:Fld→Option Bool):Nat→Option (Lv (Nat) (Unit) (Int)):=fun c=>(XT b a c).m
def b0:PT 0 (Int):=lr SM nG (-1)
def fO(a:List Fld)(b:Fld→Option Bool):PT 0 (Int):=vz (An a)<|lc (Ad [(0,vL AB a),(1,.fn (.yield 1) [] []),(7,vN a.length),(8,vI 0)] []) ((Am (R9 a b) Al 0).bind (Sum.elim (fun _=>(b0).m) some))
def cA(b:List Fld)(a:Fld→Option Bool):PT 0 (Int):=lc (Ad [(0,vL AB b),(1,.fn (.yield 1) [] [])] []) ((fO b a).m)
def jX(b:List Fld)(a:Fld→Option Bool):Option (Int):=(cA b a).m
theorem ZHz{C:Cx}(co:CO C 0)(b:List Fld)(a:Fld→Option Bool)(f:(q5 a) C.no C.l C.H0 C.θ):KL Tryz.prog (AC tl) 19 C (pa [0,0,1,0,1] (Az Tryz.f81)) [.tmp 4] 0 (uk b) (uq) SM nG (R9 b a):=fun h _ hm Q c e d=>At co Aa Ae (XT b a h) (AJ [0,1,7,8]) nl e hm d fun r g=>⟨fun i=>⟨⟨fun y hy=>f _ y hy,by intro r;kernel_rfl,by intro r y;kernel_rfl⟩,fun j=>⟨id,id⟩⟩,id⟩
theorem ZVu(c:List Fld)(a:Fld→Option Bool):KO Tryz.prog 81 0 [vL AB c,.fn (.yield 1) [] []] [] (q5 a) (jX c a) SM nG:=Bv Tryz.func81 Tryz.ntmps81 Aa [.tmp 4] 0 (fun C co e y hm d b=>Aj co Aa Ae 1 (cA c a) (AJ [0,1]) nl nH hm b fun r g=>fun _ hm b=>sq (Aj co Aa Ae 1 (fO c a) (AJ [0,1,7,8]) nl nH hm b fun r g=>fun _ hm b=>bk 0 (lo (AH (ZHz co c a e) nH hm b (fun _ hm=>Ax co Aa Ae (b0) hm b fun r g=>id)))))
abbrev qA:Bool→AV:=fun y=>vB y
def H49(a:Fld→Option Bool):Cl:=fun no l H θ=>(∀(z0:Fld) y,a z0=some y→CP Tryz.prog l no H (θ 1) [.agg ((AB z0).map .d)] (vB y))
def cC(b:List Fld)(a:Fld→Option Bool):PT 0 (Bool):=cs Tryz.prog 81 [vL AB b,.fn (.yield 1) [] []] [] [] (jX b a) (fun y=>vI y) fun c=>lr qA nG (decide ((0:Int)≤c))
def Ve(b:List Fld)(a:Fld→Option Bool):Option (Bool):=(cC b a).m
theorem ZUB(b:List Fld)(a:Fld→Option Bool):KO Tryz.prog 49 0 [vL AB b,.fn (.yield 1) [] []] [] (H49 a) (Ve b a) qA nG:=Bv Tryz.func49 Tryz.ntmps49 Aa [.tmp 4] 0 (fun C co e y hm c d=>Ax co Aa Ae (cC b a) hm d fun r g=>⟨fun y hy=>He (ZVu b a) hy co g [] [] (AG [(1,r.θ 1)]) (fun i j f=>(fun z0 y h=>BJ co g [] f (e z0 y h))) (fun H=>trivial),fun k=>id⟩)
abbrev TR:Int→AV:=fun y=>vI y
@[reducible] def XK(a:List Fld):Int→List Blk:=fun y=>[⟨0,true,51,16,Ab AB a⟩]
def w8(a:Fld→Option Bool):Cl:=fun no l H θ=>(∀(z0:Fld) y,a z0=some y→CP Tryz.prog l no H (θ 1) [.agg ((AB z0).map .d)] (vB y))
def Zv1(a:List Fld):Nat→St:=fun b=>Ad [(0,.ref (0,0) 0 0 a.length),(1,.fn (.yield 1) [] []),(7,vN a.length),(8,vN b)] [((0,0),⟨0,true,51,16,Ab AB a⟩)]
def ZuZ(a:List Fld):Unit→Nat×St:=fun _=>(0,Ad [] [((0,0),⟨0,true,51,16,Ab AB a⟩)])
def Qo(a:List Fld)(c:Fld→Option Bool)(b:Nat):PT 1 (Lv (Nat) (Unit) (Int)):=br (decide ((b:Int)<(a.length:Int))) (vs (ir b a.length 16)<|ca a b fun d=>cf Tryz.prog 1 [.agg ((AB d).map .d)] (c d) (fun y=>vB y) fun e=>br e (AA TR (XK a) (b:Int)) (vs (wa b 1)<|vz (fl a)<|ln (Zv1 a) (b+1))) (vz (fl a)<|Ai (ZuZ a) ())
def We(b:List Fld)(a:Fld→Option Bool):Nat→Option (Lv (Nat) (Unit) (Int)):=fun c=>(Qo b a c).m
def Qm(a:List Fld):PT 1 (Int):=lr TR (XK a) (-1)
def Qp(a:List Fld)(b:Fld→Option Bool):PT 1 (Int):=vz (BH a.length)<|vz (fl a)<|lc (Ad [(0,.ref (0,0) 0 0 a.length),(1,.fn (.yield 1) [] []),(7,vN a.length),(8,vI 0)] [((0,0),⟨0,true,51,16,Ab AB a⟩)]) ((Am (We a b) Al 0).bind (Sum.elim (fun _=>(Qm a).m) some))
def P6(a:List Fld)(b:Fld→Option Bool):PT 1 (Int):=vz (fl a)<|lc (Ad [(0,.ref (0,0) 0 0 a.length),(1,.fn (.yield 1) [] [])] [((0,0),⟨0,true,51,16,Ab AB a⟩)]) ((Qp a b).m)
def Vl(b:List Fld)(a:Fld→Option Bool):Option (Int):=(P6 b a).m
theorem ZuX{C:Cx}(co:CO C 1)(b:List Fld)(a:Fld→Option Bool)(f:(w8 a) C.no C.l C.H0 C.θ):KL Tryz.prog (AC tl) 19 C (pa [0,0,1,0,1] (Az Tryz.f81)) [.tmp 4] 1 (Zv1 b) (ZuZ b) TR (XK b) (We b a):=fun h _ hm Q c e d=>At co Aa Ae (Qo b a h) (Ac [0,1,7,8] Ah) (Ac [] Ah) e hm d fun r g=>⟨fun i=>⟨⟨fun y hy=>f _ y hy,by intro r;kernel_rfl,by intro r y;kernel_rfl⟩,fun j=>⟨id,id⟩⟩,id⟩
theorem ZO7(b:List Fld)(a:Fld→Option Bool):KO Tryz.prog 81 1 [.ref (0,0) 0 0 b.length,.fn (.yield 1) [] []] [⟨0,true,51,16,Ab AB b⟩] (w8 a) (Vl b a) TR (XK b):=Bv Tryz.func81 Tryz.ntmps81 Aa [.tmp 4] 1 (fun C co e y hm d c=>Aj co Aa Ae 1 (P6 b a) (Ac [0,1] Ah) nl nH hm c fun r g=>fun _ hm c=>sq (Aj co Aa Ae 1 (Qp b a) (Ac [0,1,7,8] Ah) nl nH hm c fun r g=>fun _ hm c=>bk 0 (lo (AH (ZuX co b a e) nH hm c (fun _ hm=>Ax co Aa Ae (Qm b) hm c fun r g=>id))))) (hB:=fun y=>⟨.inl (Aw _ _),rfl,trivial⟩)
abbrev RL(a:List Fld):Af×Blk:=((0,0),⟨0,true,51,16,Ab AB a⟩)
abbrev ZX:List Fld→AV:=fun y=>.ref (0,0) 0 0 y.length
@[reducible] def Z4:List Fld→List Blk:=fun y=>[⟨0,true,51,16,Ab AB y⟩]
def q6(a:Fld→Option Bool):Cl:=fun no l H θ=>(∀(z0:Fld) y,a z0=some y→CP Tryz.prog l no H (θ 1) [.agg ((AB z0).map .d)] (vB y))
def gG(a:List Fld):Int×Int×List Fld→St:=fun(v2,v3,b)=>Ad [(0,.ref (0,0) 0 0 a.length),(1,.fn (.yield 1) [] []),(5,vI v2),(6,vI v3)] [((0,0),⟨0,true,51,16,Ab AB b⟩)]
def u5(a:List Fld):Int×List Fld→Nat×St:=fun(c,b)=>(0,Ad [(0,.ref (0,0) 0 0 a.length),(5,vI c)] [((0,0),⟨0,true,51,16,Ab AB b⟩)])
def Zz(b:List Fld)(d:Fld→Option Bool)(v2:Int)(v3:Int)(a:List Fld):PT 1 (Lv (Int×Int×List Fld) (Int×List Fld) (List Fld)):=vz (BH b.length)<|br (decide (v3<(b.length:Int))) (vs (AI v3 b.length 16)<|ca a v3.toNat fun c=>wg<|wg<|cf Tryz.prog 1 [.agg ((AB c).map .d)] (d c) (fun y=>vB y) fun e=>br (!e) (wg<|vs (AI v2 b.length 16)<|vs (st a v2.toNat c)<|BY 0 ((Rw.f (c:Fld)).map .d) (fun _=>Hg _)<|vs (wi (v2+1))<|vs (wi (v3+1))<|vz (fl (a.set v2.toNat c))<|ln (gG b) ((v2+1),(v3+1),a.set v2.toNat c)) (vs (wi (v3+1))<|vz (fl a)<|ln (gG b) (v2,(v3+1),a))) (vz (fl a)<|Ai (u5 b) (v2,a))
def R6(b:List Fld)(a:Fld→Option Bool):Int×Int×List Fld→Option (Lv (Int×Int×List Fld) (Int×List Fld) (List Fld)):=fun(v2,v3,c)=>(Zz b a v2 v3 c).m
def gb(c:List Fld)(a:Int)(b:List Fld):PT 1 (List Fld):=sR c.length 0 (.it a) .no<|cr b (0+a.toNat) (c.length-a.toNat) [vI 0,vS ⟨#[]⟩,vI 0,vI 0,vI 0,vS ⟨#[]⟩,vS ⟨#[]⟩,vB false,vI 0,.d (.int .u64 0),vS ⟨#[]⟩,.e0,.e0,.e0,.e0,.e0]<|BY 0 ([vI 0,vS ⟨#[]⟩,vI 0,vI 0,vI 0,vS ⟨#[]⟩,vS ⟨#[]⟩,vB false,vI 0,.d (.int .u64 0),vS ⟨#[]⟩,.e0,.e0,.e0,.e0,.e0]) (fun _=>Zuh (by kernel_rfl))<|J9 0 b (0+a.toNat) (c.length-a.toNat) [vI 0,vS ⟨#[]⟩,vI 0,vI 0,vI 0,vS ⟨#[]⟩,vS ⟨#[]⟩,vB false,vI 0,.d (.int .u64 0),vS ⟨#[]⟩,.e0,.e0,.e0,.e0,.e0]<|vw .sep<|sR c.length 0 .no (.it a)<|Et (a.toNat=(b.take (0+a.toNat)).length) (fun E=>E.P (.ref (0,0) 0 0 a.toNat) ([⟨0,true,51,16,Ab AB (b.take (0+a.toNat))⟩])) (b.take (0+a.toNat))
def eC(a:List Fld)(c:Fld→Option Bool)(b:Int):PT 1 (List Fld):=vs (wi (b+1))<|vz (fl a)<|lc (Ad [(0,.ref (0,0) 0 0 a.length),(1,.fn (.yield 1) [] []),(5,vI b),(6,vI (b+1))] [(RL a)]) ((Am (R6 a c) Al (b,(b+1),a)).bind (Sum.elim (fun(e,d)=>(gb a e d).m) some))
def eF(a:List Fld)(b:Fld→Option Bool):PT 1 (List Fld):=cs Tryz.prog 81 [.ref (0,0) 0 0 a.length,.fn (.yield 1) [] []] [(0,0)] [(RL a)] (Vl a b) (fun y=>vI y) fun c=>br (decide (c=((-1):Int))) (lr ZX (Z4) a) (vz (fl a)<|lc (Ad [(0,.ref (0,0) 0 0 a.length),(1,.fn (.yield 1) [] []),(5,vI c)] [(RL a)]) ((eC a b c).m))
def Vk(b:List Fld)(a:Fld→Option Bool):Option (List Fld):=(eF b a).m
theorem ZHc{C:Cx}(co:CO C 1)(b:List Fld)(a:Fld→Option Bool)(f:(q6 a) C.no C.l C.H0 C.θ):KL Tryz.prog (AC tl) 42 C (pa [0,0,1,0,1,1,1] (Az Tryz.f82)) [.tmp 4] 1 (gG b) (u5 b) ZX (Z4) (R6 b a):=fun(v2,v3,h) _ hm Q c e d=>At co Aa Ae (Zz b a v2 v3 h) (Ac [0,1,5,6] Ah) (Ac [0,5] Ah) e hm d fun r g=>⟨fun i=>⟨⟨fun y hy=>f _ y hy,by intro r;kernel_rfl,by intro r y;kernel_rfl⟩,fun j=>⟨id,id⟩⟩,id⟩
theorem ZU6(b:List Fld)(a:Fld→Option Bool):KO Tryz.prog 82 1 [.ref (0,0) 0 0 b.length,.fn (.yield 1) [] []] [⟨0,true,51,16,Ab AB b⟩] (q6 a) (Vk b a) ZX (Z4):=Bv Tryz.func82 Tryz.ntmps82 Aa [.tmp 4] 1 (fun C co e y hm d c=>Aj co Aa Ae 3 (eF b a) (Ac [0,1,5] Ah) nl nH hm c fun r g=>⟨fun y hy=>He (ZO7 b a) hy co g [(RL b)] [] (AG [(1,r.θ 1)]) (fun m o f=>(fun z0 y i=>BJ co g [(RL b)] f (e z0 y i))) (fun H=>⟨fun _=>⟨rfl,AE (Aw _ _) (by kernel_rfl)⟩,by kernel_rfl,trivial⟩),fun l=>⟨id,fun _ hm c=>sq (Aj co Aa Ae 1 (eC b a l) (Ac [0,1,5,6] Ah) nl nH hm c fun r g=>fun _ hm c=>bk 0 (lo (AH (ZHc co b a e) nH hm c (fun(k,j) hm=>Ax co Aa Ae (gb b k j) hm c fun r g=>fun h c=>lfx (congrArg (fun n=>(.ref (0,0) 0 0 n:AV)) h) c))))⟩⟩) (hB:=fun y=>⟨.inl (Aw _ _),rfl,trivial⟩)
abbrev ZY:List Fld→AV:=fun y=>.ref (0,0) 1 0 y.length
@[reducible] def Z5:List Fld→List Blk:=fun y=>[⟨1,true,51,16,Ab AB y⟩]
def eE(a:List Fld):PT 1 (List Fld):=al AB a false fun b=>br b (vw .sep<|vw (.ads 2 2 51 16)<|mv 2 0 ([]:List Fld)<|lr ZY (Z5) ([]:List Fld)) (a0 a<|mv 7 0 a<|lr ZY (Z5) a)
def Vt(a:List Fld):Option (List Fld):=(eE a).m
theorem ZVG(a:List Fld):KO Tryz.prog 83 1 [vL AB a] [⟨0,false,0,0,[]⟩] (fun _ _ _ _=>True) (Vt a) ZY (Z5):=Bv Tryz.func83 Tryz.ntmps83 Aa [.tmp 2] 1 (fun C co f y hm c d=>Ax co Aa Ae (eE a) hm d fun r g=>⟨fun e=>⟨id,id⟩,by intro b h;subst h;cases b<;>rfl⟩) (hB:=fun y=>⟨.inl (Aw _ _),rfl,trivial⟩)
abbrev qK:Bool→AV:=fun y=>vB y
@[reducible] def qU(w0:ByteArray):Bool→List Blk:=fun y=>[⟨0,true,9,1,[vS w0]⟩]
def uL(a:Fld)(w0:ByteArray):PT 1 (Bool):=wg<|wg<|lr qK (qU w0) (!decide (a.union=w0))
def Vq(a:Fld)(w0:ByteArray):Option (Bool):=(uL a w0).m
theorem ZUD(a:Fld)(w0:ByteArray):KO Tryz.prog 84 1 [.agg ((AB a).map .d),.ptr (0,0) 0 0] [⟨0,true,9,1,[vS w0]⟩] (fun _ _ _ _=>True) (Vq a w0) qK (qU w0):=Bv Tryz.func84 Tryz.ntmps84 Aa [.tmp 3] 1 (fun C co d y hm b c=>Ax co Aa Ae (uL a w0) hm c fun r g=>id) (hB:=fun y=>⟨.inr (by kernel_rfl),rfl,trivial⟩)
abbrev N3(a:ByteArray):Af×Blk:=kk 3 9 1 [vS a]
abbrev ZS:List Fld→AV:=fun y=>vL AB y
def cF(a:List Fld):PT 0 (List Fld):=vz (fr a)<|lr ZS nG a
def ej(a:List Fld):PT 0 (List Fld):=vz (fl a)<|lc (Ad [(4,.ref (1,9) 0 0 a.length)] [kk 9 51 16 (Ab AB a)]) ((cF a).m)
def dD(b:ByteArray)(a:List Fld):PT 0 (List Fld):=vz (fl a)<|lc (Ad [(9,.ref (1,9) 0 0 a.length),(10,.fn (.func 84) [] [.ptr (1,3) 0 0])] [(N3 b),kk 9 51 16 (Ab AB a)]) ((Vk a (fun(z0:Fld)=>Vq z0 b)).bind fun c=>(ej c).m)
def fc(a:Msg)(b:ByteArray):PT 0 (List Fld):=wg<|lc (Ad [pp 3,(8,vL AB a.fields)] [(N3 b)]) ((Vt a.fields).bind fun c=>(dD b c).m)
def fw(b:Msg)(a:ByteArray):PT 0 (List Fld):=wg<|br (decide (a=(⟨#[]⟩:ByteArray))) (lr ZS nG ([]:List Fld)) (lc (Ad [pp 2,pp 3] [kk 2 45 5 (cD (AR b)),(N3 a)]) ((fc b a).m))
def Vm(a:Msg)(b:ByteArray):Option (List Fld):=(fw a b).m
theorem ZUE(c:Msg)(a:ByteArray):KC Tryz.prog 50 [.agg ((AR c).map .d),vS a] (Vm c a) ZS:=AF Tryz.func50 Tryz.ntmps50 Aa [.tmp 4] fun C co y hm f b=>Aj co Aa Ae 2 (fw c a) (Ac [2,3] Fk) nl nH hm b fun r g=>⟨id,fun _ hm b=>sq (rg (AN co Aa 2 (fc c a) (Ac [3,8] [((1,3),false)]) hm b fun r g=>fun _ hm b=>A9 co hm 83 [vL AB c.fields] [(1,9)] ([((1,9),⟨0,false,0,0,[]⟩)]++[]) (fun z=>.ref (1,9) 1 0 z.length) (fun z=>[((1,9),⟨1,true,51,16,Ab AB z⟩)]) [] (fun z=>trivial) (trivial) (fun z e r g=>A8 (ZVG c.fields) e co g [((1,9),⟨0,false,0,0,[]⟩)] [] [((1,9),⟨1,true,51,16,Ab AB z⟩)] (AG []) (fun k i m=>trivial) (fun H=>⟨(fun h=>by cases h),by kernel_rfl,trivial⟩) (fun H=>⟨fun _=>⟨rfl,AE (Aw _ _) (by kernel_rfl)⟩,by kernel_rfl,trivial⟩)) fun d hm=>AN co Aa 1 (dD a d) (Ac [9,10] [((1,3),false),((1,9),true)]) hm b fun r g=>fun _ hm b=>A9 co hm 82 [.ref (1,9) 0 0 d.length,.fn (.func 84) [] [.ptr (1,3) 0 0]] [(1,9),(1,3)] ([kk 9 51 16 (Ab AB d)]++[(N3 a)]) (fun z=>.ref (1,9) 0 0 z.length) (fun z=>[kk 9 51 16 (Ab AB z)]) [] (fun z=>trivial) (trivial) (fun z e r g=>A8 (ZU6 d (fun(z0:Fld)=>Vq z0 a)) e co g [kk 9 51 16 (Ab AB d)] [(N3 a)] [kk 9 51 16 (Ab AB z)] (AG [(1,.fn (.func 84) [] [.ptr (r.κ (1,3)) (r.γ (1,3)+0) 0])]) (fun k i m=>(fun z0 y e=>Lc (ZUD z0 a) e co g [(N3 a)] [kk 9 51 16 (Ab AB d)] i (by simp) (fun _=>.top) (fun _ _=>trivial) (fun l H=>⟨fun _=>⟨rfl,by kernel_rfl⟩,by kernel_rfl,trivial⟩))) (fun H=>⟨fun _=>⟨rfl,AE (Aw _ _) (by kernel_rfl)⟩,by kernel_rfl,trivial⟩) (fun H=>⟨fun _=>⟨rfl,AE (Aw _ _) (by kernel_rfl)⟩,by kernel_rfl,trivial⟩)) fun j hm=>AK co Aa (ej j) (Ac [4] [((1,9),true)]) hm b fun r g=>fun _ hm b=>Ax co Aa Ae (cF j) hm b fun r g=>id))⟩
abbrev yn:Bool→AV:=fun y=>vB y
@[reducible] def xE(w0:Int):Bool→List Blk:=fun y=>[⟨0,true,3,1,[vI w0]⟩]
def rX(a:Slt)(w0:Int):PT 1 (Bool):=wg<|wg<|lr yn (xE w0) (decide (a.num=w0))
def Vi(a:Slt)(w0:Int):Option (Bool):=(rX a w0).m
theorem ZS5(a:Slt)(w0:Int):KO Tryz.prog 114 1 [.agg ((Dz a).map .d),.ptr (0,0) 0 0] [⟨0,true,3,1,[vI w0]⟩] (fun _ _ _ _=>True) (Vi a w0) yn (xE w0):=Bv Tryz.func114 Tryz.ntmps114 Aa [.tmp 3] 1 (fun C co d y hm b c=>Ax co Aa Ae (rX a w0) hm c fun r g=>id) (hB:=fun y=>⟨.inr (by kernel_rfl),rfl,trivial⟩)
abbrev qL:Int→AV:=fun y=>vI y
def eH(a:List Slt)(b:Int):PT 0 (Int):=cs Tryz.prog 46 [vL Aq a,.fn (.func 114) [] [.ptr (1,3) 1 0]] [(1,3)] [((1,3),⟨1,true,3,1,[vI b]⟩)] (Vz a (fun(z0:Slt)=>Vi z0 b)) (fun y=>vI y) fun c=>lr qL nG c
def y7(a:List Slt)(b:Int):Option (Int):=(eH a b).m
theorem ZUy(b:List Slt)(a:Int):KC Tryz.prog 85 [vL Aq b,vI a] (y7 b a) qL:=AF Tryz.func85 Tryz.ntmps85 Aa [.tmp 4] fun C co y hm c d=>Ax co Aa Ae (eH b a) hm d fun r g=>⟨fun y hy=>He (ZU7 b (fun(z0:Slt)=>Vi z0 a)) hy co g [] [((1,3),⟨1,true,3,1,[vI a]⟩)] (AG [(1,.fn (.func 114) [] [.ptr (r.κ (1,3)) (r.γ (1,3)+1) 0])]) (fun h e i=>(fun z0 y f=>Lc (ZS5 z0 a) f co g [((1,3),⟨1,true,3,1,[vI a]⟩)] [] e (by simp) (fun _=>.top) (fun _ _=>trivial) (fun l H=>⟨fun _=>⟨rfl,by kernel_rfl⟩,by kernel_rfl,trivial⟩))) (fun H=>trivial),fun j=>id⟩
abbrev qC:Bool→AV:=fun y=>vB y
def dq(a:Val)(b:Int):PT 0 (Bool):=wg<|cl (ZUy a.slots b) fun c=>lr qC nG (decide ((0:Int)≤c))
def j6(a:Val)(b:Int):Option (Bool):=(dq a b).m
theorem ZVR(a:Val)(b:Int):KC Tryz.prog 52 [.agg ((Ag a).map .d),vI b] (j6 a b) qC:=AF Tryz.func52 Tryz.ntmps52 Aa [.tmp 4] fun C co y hm c d=>Ax co Aa Ae (dq a b) hm d fun r g=>fun e=>id
abbrev qB:Bool→AV:=fun y=>vB y
@[reducible] def qR(w0:Fld)(a:Val):Bool→List Blk:=fun y=>[⟨0,true,51,16,(cD (AB w0))⟩,⟨0,true,33,7,(cD (Ag a))⟩]
def em(a:Fld)(w0:Fld)(b:Val):PT 2 (Bool):=wg<|wg<|wg<|wg<|AP (!decide (a.num=w0.num)) (ZVR b a.num) fun c=>lr qB (qR w0 b) ((!decide (a.num=w0.num))&&c)
def PG(a:Fld)(w0:Fld)(b:Val):Option (Bool):=(em a w0 b).m
theorem ZVk(b:Fld)(w0:Fld)(a:Val):KO Tryz.prog 51 2 [.agg ((AB b).map .d),.ptr (0,0) 0 0,.ptr (0,1) 0 0] [⟨0,true,51,16,(cD (AB w0))⟩,⟨0,true,33,7,(cD (Ag a))⟩] (fun _ _ _ _=>True) (PG b w0 a) qB (qR w0 a):=Bv Tryz.func51 Tryz.ntmps51 Aa [.tmp 4] 2 (fun C co e y hm c d=>Ax co Aa Ae (em b w0 a) hm d fun r g=>fun f=>id) (hB:=fun y=>⟨.inr (by kernel_rfl),rfl,⟨.inr (by kernel_rfl),rfl,trivial⟩⟩)
abbrev fY(a:Fld):Af×Blk:=((1,4),⟨1,true,51,16,(cD (AB a))⟩)
abbrev bZ(a:Val):Af×Blk:=((1,5),⟨1,true,33,7,(cD (Ag a))⟩)
abbrev qv:Bool→AV:=fun y=>vB y
def gv(d:Msg)(a:Fld)(b:Val):PT 0 (Bool):=wg<|wg<|cl (ZUE d a.union) fun c=>cs Tryz.prog 49 [vL AB c,.fn (.func 51) [] [.ptr (1,4) 1 0,.ptr (1,5) 1 0]] [(1,4),(1,5)] [(fY a),(bZ b)] (Ve c (fun(z0:Fld)=>PG z0 a b)) (fun y=>vB y) fun e=>lr qv nG e
def kc(a:Msg)(b:Fld)(c:Val):Option (Bool):=(gv a b c).m
theorem ZVJ(c:Msg)(a:Fld)(b:Val):KC Tryz.prog 22 [.agg ((AR c).map .d),.agg ((AB a).map .d),.agg ((Ag b).map .d)] (kc c a b) qv:=AF Tryz.func22 Tryz.ntmps22 Aa [.tmp 6] fun C co y hm d e=>Ax co Aa Ae (gv c a b) hm e fun r g=>fun i=>⟨fun y hy=>He (ZUB i (fun(z0:Fld)=>PG z0 a b)) hy co g [] [(fY a),(bZ b)] (AG [(1,.fn (.func 51) [] [.ptr (r.κ (1,4)) (r.γ (1,4)+1) 0,.ptr (r.κ (1,5)) (r.γ (1,5)+1) 0])]) (fun j f k=>(fun z0 y h=>Lc (ZVk z0 a b) h co g [(fY a),(bZ b)] [] f (by simp) (fun _=>.top) (fun _ _=>trivial) (fun l H=>⟨fun _=>⟨rfl,by kernel_rfl⟩,by kernel_rfl,⟨fun _=>⟨rfl,by kernel_rfl⟩,by kernel_rfl,trivial⟩⟩))) (fun H=>trivial),fun m=>id⟩
abbrev qt:Bool→AV:=fun y=>vB y
@[reducible] def qO(w0:Msg)(a:Val):Bool→List Blk:=fun y=>[⟨0,true,45,5,(cD (AR w0))⟩,⟨0,true,33,7,(cD (Ag a))⟩]
def eD(b:Slt)(w0:Msg)(a:Val):PT 2 (Bool):=wg<|wg<|cl (xI w0 b.num) fun c=>wg<|wg<|wg<|wg<|cl (ZVJ w0 c.1 a) fun d=>lr qt (qO w0 a) d
def PF(a:Slt)(w0:Msg)(b:Val):Option (Bool):=(eD a w0 b).m
theorem ZVr(b:Slt)(w0:Msg)(a:Val):KO Tryz.prog 20 2 [.agg ((Dz b).map .d),.ptr (0,0) 0 0,.ptr (0,1) 0 0] [⟨0,true,45,5,(cD (AR w0))⟩,⟨0,true,33,7,(cD (Ag a))⟩] (fun _ _ _ _=>True) (PF b w0 a) qt (qO w0 a):=Bv Tryz.func20 Tryz.ntmps20 Aa [.tmp 4] 2 (fun C co e y hm c d=>Ax co Aa Ae (eD b w0 a) hm d fun r g=>fun f=>fun h=>id) (hB:=fun y=>⟨.inr (by kernel_rfl),rfl,⟨.inr (by kernel_rfl),rfl,trivial⟩⟩)
abbrev qD:Bool→AV:=fun y=>vB y
@[reducible] def qS(w0:Int):Bool→List Blk:=fun y=>[⟨0,true,3,1,[vI w0]⟩]
def uu(a:Slt)(w0:Int):PT 1 (Bool):=wg<|wg<|lr qD (qS w0) (decide (a.num=w0))
def Vv(a:Slt)(w0:Int):Option (Bool):=(uu a w0).m
theorem ZVe(a:Slt)(w0:Int):KO Tryz.prog 53 1 [.agg ((Dz a).map .d),.ptr (0,0) 0 0] [⟨0,true,3,1,[vI w0]⟩] (fun _ _ _ _=>True) (Vv a w0) qD (qS w0):=Bv Tryz.func53 Tryz.ntmps53 Aa [.tmp 3] 1 (fun C co d y hm b c=>Ax co Aa Ae (uu a w0) hm c fun r g=>id) (hB:=fun y=>⟨.inr (by kernel_rfl),rfl,trivial⟩)
def ZNN:Go.Shelf.Ren:=⟨fun|4=>86|n=>n,fun|22=>28|25=>33|n=>n,fun n=>n⟩
theorem ZEv:Go.Proofs.Lays8.n4 Tryz.prog ZNN:={
 mixed:=by kernel_rfl,
 f4:=⟨Tryz.f86.name,by decide+kernel,Tryz.func86.trans (congrArg some (by kernel_rfl))⟩,
 t0:=Tryz.underlying0,
 a0:=Tryz.isAgg0,
 z0:=Tryz.sizeOf0,
 v0:=Tryz.zeroValue0,
 t3:=Tryz.underlying3,
 a3:=Tryz.isAgg3,
 z3:=Tryz.sizeOf3,
 v3:=Tryz.zeroValue3,
 t4:=Tryz.underlying4,
 a4:=Tryz.isAgg4,
 z4:=Tryz.sizeOf4,
 v4:=Tryz.zeroValue4,
 t9:=Tryz.underlying9,
 a9:=Tryz.isAgg9,
 z9:=Tryz.sizeOf9,
 v9:=Tryz.zeroValue9,
 t20:=Tryz.underlying20,
 a20:=Tryz.isAgg20,
 z20:=Tryz.sizeOf20,
 v20:=Tryz.zeroValue20,
 t22:=Tryz.underlying28,
 a22:=Tryz.isAgg28,
 z22:=Tryz.sizeOf28,
 v22:=Tryz.zeroValue28 }
abbrev E86:List Val→AV:=fun y=>.ref (0,0) 1 0 y.length
@[reducible] def G86:List Val→List Blk:=fun y=>[⟨1,true,33,7,Ab Bb y⟩]
def kx(n:Nat):Option (List Val):=if n<549755813888 then some []else none
theorem ZU9(n:Nat):KO Tryz.prog 86 1 [.e0,vN n] [⟨0,false,0,0,[]⟩] (fun _ _ _ _=>True) (kx n) E86 G86:=⟨fun l H ks k θ b a j i _ y hy=>by
 obtain⟨d,hy⟩:=BO hy
 cases hy
 match ks,b with
 |[m],_=>
  have hi:∃i0 z,(Tryz.prog).info? 33=some i0∧i0.zero=some z∧i0.size=7∧z.cells.size=i0.size∧i0.bytes≤256:=⟨_,_,rfl,rfl,rfl,by decide+kernel,by decide+kernel⟩
  obtain⟨i0,z,e,f,c,g,h⟩:=hi
  exact kB ZEv i0 z e f (by rw[c];decide) g h ⟨_,Az Tryz.f86,Tryz.func86,by kernel_rfl,by kernel_rfl⟩ a.1 i.1.1 n d (by rw[c];exact⟨rfl,rfl⟩)⟩
abbrev F2:List (Af×Bool):=[((1,24),true)]
abbrev SE:List Val→AV:=fun y=>.ref (0,0) 1 0 y.length
@[reducible] def SP:List Val→List Blk:=fun y=>[⟨1,true,33,7,Ab Bb y⟩]
def vq(a:List (List Val)):Nat×Nat→St:=fun(b,v2)=>Ad [(0,vL Ei a),(3,vN b),(9,vL Ei a),(10,vN a.length),(11,vN v2)] []
def wF(a:List (List Val)):Nat→Nat×St:=fun v4=>(0,Ad [(0,vL Ei a),(3,vN v4)] [])
def Sk(b:List (List Val))(c:Nat)(v2:Nat):PT 1 (Lv (Nat×Nat) (Nat) (List Val)):=br (decide ((v2:Int)<(b.length:Int))) (ix b v2 fun a=>vz (An a)<|vs (wa c a.length)<|br (decide (((c+a.length:Nat):Int)<(0:Int))) (dd) (vs (wa v2 1)<|ln (vq b) (c+a.length,v2+1))) (Ai (wF b) c)
def In(a:List (List Val)):Nat×Nat→Option (Lv (Nat×Nat) (Nat) (List Val)):=fun(b,v2)=>(Sk a b v2).m
def vf(a:List (List Val)):List Val×Nat→St:=fun(b,c)=>Ad [(6,.ref (1,24) 0 0 b.length),(25,vL Ei a),(26,vN a.length),(27,vN c)] [kk 24 33 7 (Ab Bb b)]
def xz:List Val→Nat×St:=fun a=>(2,Ad [(6,.ref (1,24) 0 0 a.length)] [kk 24 33 7 (Ab Bb a)])
def RN(d:List (List Val))(a:List Val)(b:Nat):PT 1 (Lv (List Val×Nat) (List Val) (List Val)):=br (decide ((b:Int)<(d.length:Int))) (ix d b fun c=>aq a c<|vs (wa b 1)<|vz (fl (a++c))<|ln (vf d) (a++c,b+1)) (vz (fl a)<|Ai (xz) a)
def It(a:List (List Val)):List Val×Nat→Option (Lv (List Val×Nat) (List Val) (List Val)):=fun(b,c)=>(RN a b c).m
def bO(a:List Val):PT 1 (List Val):=vw .sep<|mv 24 0 a<|lr SE (SP) a
def cW(a:List (List Val))(b:List Val):PT 1 (List Val):=vz (An a)<|vz (fl b)<|lc (Ad [(6,.ref (1,24) 0 0 b.length),(25,vL Ei a),(26,vN a.length),(27,vI 0)] [kk 24 33 7 (Ab Bb b)]) ((Am (It a) Al (b,0)).bind (Sum.elim (fun c=>(bO c).m) some))
def cZ(b:List (List Val))(a:List Val):PT 1 (List Val):=vz (fl a)<|lc (Ad [(0,vL Ei b),(6,.ref (1,24) 0 0 a.length)] [kk 24 33 7 (Ab Bb a)]) ((cW b a).m)
def dO(a:List (List Val))(v4:Nat):PT 1 (List Val):=lc (Ad [(0,vL Ei a),(23,vN v4)] []) ((kx v4).bind fun b=>(cZ a b).m)
def bl(a:List (List Val)):PT 1 (List Val):=vz (An a)<|lc (Ad [(0,vL Ei a),(3,vI 0),(9,vL Ei a),(10,vN a.length),(11,vI 0)] []) ((Am (In a) Al (0,0)).bind (Sum.elim (fun v4=>(dO a v4).m) some))
def ez(a:List (List Val)):PT 1 (List Val):=lc (Ad [(0,vL Ei a),(3,vI 0)] []) ((bl a).m)
def Vr(a:List (List Val)):Option (List Val):=(ez a).m
theorem ZFl{C:Cx}(co:CO C 1)(a:List (List Val)):KL Tryz.prog (AC tl) 36 C (pa [0,0,1,0,1,1] (Az Tryz.f54)) [.tmp 2] 1 (vq a) (wF a) SE (SP) (In a):=fun(e,v2) _ hm Q b d c=>At co Aa Ae (Sk a e v2) (AJ [0,3,9,10,11]) (AJ [0,3]) d hm c fun r g=>⟨fun f=>⟨trivial,id⟩,id⟩
theorem ZGl{C:Cx}(co:CO C 1)(a:List (List Val)):KL Tryz.prog (AC tl) 36 C (pa [0,0,1,0,1,1,1,1] (Az Tryz.f54)) [.tmp 2] 1 (vf a) (xz) SE (SP) (It a):=fun(e,f) _ hm Q b d c=>At co Aa Ae (RN a e f) (Ac [6,25,26,27] F2) (Ac [6] F2) d hm c fun r g=>⟨fun h=>id,id⟩
theorem ZVv(b:List (List Val)):KO Tryz.prog 54 1 [vL Ei b] [⟨0,false,0,0,[]⟩] (fun _ _ _ _=>True) (Vr b) SE (SP):=Bv Tryz.func54 Tryz.ntmps54 Aa [.tmp 2] 1 (fun C co j y hm c a=>Aj co Aa Ae 2 (ez b) (AJ [0,3]) nl nH hm a fun r g=>fun _ hm a=>sq (Aj co Aa Ae 1 (bl b) (AJ [0,3,9,10,11]) nl nH hm a fun r g=>fun _ hm a=>bk 0 (lo (AH (ZFl co b) nH hm a (fun v4 hm=>sq (rg (AN co Aa 1 (dO b v4) (AJ [0,23]) hm a fun r g=>fun _ hm a=>A9 co hm 86 [.e0,vN v4] [(1,24)] ([((1,24),⟨0,false,0,0,[]⟩)]++[]) (fun z=>.ref (1,24) 1 0 z.length) (fun z=>[((1,24),⟨1,true,33,7,Ab Bb z⟩)]) [] (fun z=>trivial) (trivial) (fun z e r g=>A8 (ZU9 v4) e co g [((1,24),⟨0,false,0,0,[]⟩)] [] [((1,24),⟨1,true,33,7,Ab Bb z⟩)] (AG []) (fun i k l=>trivial) (fun H=>⟨(fun h=>by cases h),by kernel_rfl,trivial⟩) (fun H=>⟨fun _=>⟨rfl,AE (Aw _ _) (by kernel_rfl)⟩,by kernel_rfl,trivial⟩)) fun d hm=>AK co Aa (cZ b d) (Ac [0,6] F2) hm a fun r g=>fun _ hm a=>sq (Aj co Aa Ae 1 (cW b d) (Ac [6,25,26,27] F2) nl nH hm a fun r g=>fun _ hm a=>bk 2 (lo (AH (ZGl co b) nH hm a (fun f hm=>Ax co Aa Ae (bO f) hm a fun r g=>id))))))))))) (hB:=fun y=>⟨.inl (Aw _ _),rfl,trivial⟩)
abbrev ZZ:List Pr→AV:=fun y=>.ref (0,0) 1 0 y.length
@[reducible] def Z6:List Pr→List Blk:=fun y=>[⟨1,true,63,14,Ab Ap y⟩]
def eO(a:List Pr):PT 1 (List Pr):=al Ap a false fun b=>br b (vw .sep<|vw (.ads 2 2 63 14)<|mv 2 0 ([]:List Pr)<|lr ZZ (Z6) ([]:List Pr)) (a0 a<|mv 7 0 a<|lr ZZ (Z6) a)
def Vn(a:List Pr):Option (List Pr):=(eO a).m
theorem ZVp(a:List Pr):KO Tryz.prog 87 1 [vL Ap a] [⟨0,false,0,0,[]⟩] (fun _ _ _ _=>True) (Vn a) ZZ (Z6):=Bv Tryz.func87 Tryz.ntmps87 Aa [.tmp 2] 1 (fun C co f y hm c d=>Ax co Aa Ae (eO a) hm d fun r g=>⟨fun e=>⟨id,id⟩,by intro b h;subst h;cases b<;>rfl⟩) (hB:=fun y=>⟨.inl (Aw _ _),rfl,trivial⟩)
section
variable {α:Type} [Rw α] [Tid α]
abbrev G1:List α→AV:=fun y=>.tup []
@[reducible] def G2:List α→List Blk:=fun y=>[⟨0,true,.t (Tid.t α),Rw.s α,Ab Rw.e y⟩]
def HJ(a:α→α→Option Int):Cl:=fun no l H θ=>(∀(z0:α) (b:α) y,a z0 b=some y→CP Tryz.prog l no H (θ 3) [.agg ((Rw.f z0).map .d),.agg ((Rw.f b).map .d)] (vI y))
def TH(a:List α)(b:Int)(c:Int):Int×List α→St:=fun(e,d)=>Ad [(0,.ref (0,0) 0 0 a.length),(1,vI b),(2,vI c),(3,.fn (.yield 3) [] []),(8,vI e)] [((0,0),⟨0,true,.t (Tid.t α),Rw.s α,Ab Rw.e d⟩)]
def Tp:List α→Nat×St:=fun a=>(0,Ad [] [((0,0),⟨0,true,.t (Tid.t α),Rw.s α,Ab Rw.e a⟩)])
def Zi(a:List α)(b:Int)(c:Int)(e:Int):Int×List α→St:=fun(v3,d)=>Ad [(0,.ref (0,0) 0 0 a.length),(1,vI b),(2,vI c),(3,.fn (.yield 3) [] []),(8,vI e),(9,vI v3)] [((0,0),⟨0,true,.t (Tid.t α),Rw.s α,Ab Rw.e d⟩)]
def To(b:List α)(c:Int)(d:Int)(e:Int):List α→Nat×St:=fun a=>(2,Ad [(0,.ref (0,0) 0 0 b.length),(1,vI c),(2,vI d),(3,.fn (.yield 3) [] []),(8,vI e)] [((0,0),⟨0,true,.t (Tid.t α),Rw.s α,Ab Rw.e a⟩)])
def JN(c:List α)(b:Int)(i:Int)(f:α→α→Option Int)(j:Int)(v3:Int)(a:List α):PT 1 (Lv (Int×List α) (List α) (List α)):=vg (decide (b<v3)) (AI v3 c.length (Rw.s α))<|Fq (decide (b<v3)) a v3.toNat fun g=>vg (decide (b<v3)) (wi (v3-1))<|vg (decide (b<v3)) (AI (v3-1) c.length (Rw.s α))<|Fq (decide (b<v3)) a (v3-1).toNat fun h=>HD (decide (b<v3)) Tryz.prog 3 [.agg ((Rw.f g).map .d),.agg ((Rw.f h).map .d)] (f g h) (fun y=>vI y) fun k=>br (decide (b<v3)&&decide (k<(0:Int))) (vs (wi (v3-1))<|vs (wi (v3-1))<|vs (AI (v3-1) c.length (Rw.s α))<|ca a (v3-1).toNat fun d=>vs (AI v3 c.length (Rw.s α))<|ca a v3.toNat fun e=>vs (AI v3 c.length (Rw.s α))<|vs (st a v3.toNat d)<|BY 0 ((Rw.f (d:α)).map .d) (fun _=>Hg _)<|vs (AI (v3-1) c.length (Rw.s α))<|vs (st (a.set v3.toNat d) (v3-1).toNat e)<|BY 0 ((Rw.f (e:α)).map .d) (fun _=>Hg _)<|vs (wi (v3-1))<|vz (fl ((a.set v3.toNat d).set (v3-1).toNat e))<|ln (Zi c b i j) ((v3-1),(a.set v3.toNat d).set (v3-1).toNat e)) (vz (fl a)<|Ai (To c b i j) a)
def Fi(b:List α)(c:Int)(d:Int)(a:α→α→Option Int)(f:Int):Int×List α→Option (Lv (Int×List α) (List α) (List α)):=fun(v3,e)=>(JN b c d a f v3 e).m
def NK(c:List α)(d:Int)(e:Int)(b:Int)(a:List α):PT 1 (Lv (Int×List α) (List α) (List α)):=vs (wi (b+1))<|vz (fl a)<|ln (TH c d e) ((b+1),a)
def Nx(b:List α)(c:Int)(d:Int)(e:α→α→Option Int)(a:Int)(g:List α):PT 1 (Lv (Int×List α) (List α) (List α)):=vz (fl g)<|lc (Ad [(0,.ref (0,0) 0 0 b.length),(1,vI c),(2,vI d),(3,.fn (.yield 3) [] []),(8,vI a),(9,vI a)] [((0,0),⟨0,true,.t (Tid.t α),Rw.s α,Ab Rw.e g⟩)]) ((Am (Fi b c d e a) Al (a,g)).bind (Sum.elim (fun f=>(NK b c d a f).m) (fun z=>some (.rt z))))
def Nz(e:List α)(f:Int)(b:Int)(c:α→α→Option Int)(d:Int)(a:List α):PT 1 (Lv (Int×List α) (List α) (List α)):=br (decide (d<b)) (vz (fl a)<|lc (Ad [(0,.ref (0,0) 0 0 e.length),(1,vI f),(2,vI b),(3,.fn (.yield 3) [] []),(8,vI d)] [((0,0),⟨0,true,.t (Tid.t α),Rw.s α,Ab Rw.e a⟩)]) ((Nx e f b c d a).m)) (vz (fl a)<|Ai (Tp) a)
def Ip(b:List α)(c:Int)(d:Int)(a:α→α→Option Int):Int×List α→Option (Lv (Int×List α) (List α) (List α)):=fun(f,e)=>(Nz b c d a f e).m
def RX(a:List α):PT 1 (List α):=lr G1 (G2) a
def R3(a:List α)(b:Int)(e:Int)(c:α→α→Option Int):PT 1 (List α):=vs (wi (b+1))<|vz (fl a)<|lc (Ad [(0,.ref (0,0) 0 0 a.length),(1,vI b),(2,vI e),(3,.fn (.yield 3) [] []),(8,vI (b+1))] [((0,0),⟨0,true,.t (Tid.t α),Rw.s α,Ab Rw.e a⟩)]) ((Am (Ip a b e c) Al ((b+1),a)).bind (Sum.elim (fun d=>(RX d).m) some))
def Ju(b:List α)(c:Int)(d:Int)(a:α→α→Option Int):Option (List α):=(R3 b c d a).m
end
theorem ZBa{C:Cx}(co:CO C 1)(b:List Pr)(c:Int)(d:Int)(a:Pr→Pr→Option Int)(e:Int)(j:(HJ a) C.no C.l C.H0 C.θ):KL Tryz.prog (AC tl) 53 C (pa [0,0,1,0,0,1,0,0,1] (Az Tryz.f146)) [] 1 (Zi b c d e) (To b c d e) G1 (G2) (Fi b c d a e):=fun(v3,k) _ hm Q f i h=>At co Aa Ae (JN b c d a e v3 k) (Ac [0,1,2,3,8,9] Ah) (Ac [0,1,2,3,8] Ah) i hm h fun r g=>fun l=>fun m=>⟨⟨fun y hy=>j _ _ y hy,by intro r;kernel_rfl,by intro r y;kernel_rfl⟩,fun p=>⟨fun n=>fun o=>id,id⟩⟩
theorem ZAt{C:Cx}(co:CO C 1)(c:List Pr)(d:Int)(e:Int)(a:Pr→Pr→Option Int)(l:(HJ a) C.no C.l C.H0 C.θ):KL Tryz.prog (AC tl) 53 C (pa [0,0,1] (Az Tryz.f146)) [] 1 (TH c d e) (Tp) G1 (G2) (Ip c d e a):=fun(h,k) _ hm Q j f b=>Aj co Aa Ae 1 (Nz c d e a h k) (Ac [0,1,2,3,8] Ah) (Ac [] Ah) f hm b fun r g=>⟨fun _ hm b=>sq (bk 1 (Aj co Aa Ae 1 (Nx c d e a h k) (Ac [0,1,2,3,8,9] Ah) nl f hm b fun r g=>fun _ hm b=>bk 2 (lo (Eu (ZBa co c d e a h l) f hm b (fun i hm=>At co Aa Ae (NK c d e h i) (Ac [0,1,2,3,8] Ah) nl f hm b fun r g=>id))))),id⟩
theorem um(b:List Pr)(d:Int)(e:Int)(a:Pr→Pr→Option Int):KO Tryz.prog 146 1 [.ref (0,0) 0 0 b.length,vI d,vI e,.fn (.yield 3) [] []] [⟨0,true,63,14,Ab Ap b⟩] (HJ a) (Ju b d e a) G1 (G2):=Bv Tryz.func146 Tryz.ntmps146 Aa [] 1 (fun C co i y hm h c=>Aj co Aa Ae 1 (R3 b d e a) (Ac [0,1,2,3,8] Ah) nl nH hm c fun r g=>fun _ hm c=>bk 0 (lo (AH (ZAt co b d e a i) nH hm c (fun f hm=>B4 (RX f) co hm c (fun r g=>id) r g)))) (hB:=fun y=>⟨.inl (Aw _ _),rfl,trivial⟩)
section
variable {α:Type} [Rw α] [Tid α]
abbrev KN:List α→AV:=fun y=>.tup []
@[reducible] def Kq:List α→List Blk:=fun y=>[⟨0,true,.t (Tid.t α),Rw.s α,Ab Rw.e y⟩]
def WY(a:List α)(b:Int)(c:Int)(d:Int):Nat×List α→St:=fun(f,e)=>Ad [(0,.ref (0,0) 0 0 a.length),(1,vI b),(2,vI c),(3,vI d),(10,vN f)] [((0,0),⟨0,true,.t (Tid.t α),Rw.s α,Ab Rw.e e⟩)]
def WF:List α→Nat×St:=fun a=>(0,Ad [] [((0,0),⟨0,true,.t (Tid.t α),Rw.s α,Ab Rw.e a⟩)])
def Nm(f:List α)(b:Int)(c:Int)(h:Int)(a:Nat)(d:List α):PT 1 (Lv (Nat×List α) (List α) (List α)):=br (decide ((a:Int)<h)) (vs (wi (b+(a:Int)))<|vs (wi (c+(a:Int)))<|vs (wi (c+(a:Int)))<|vs (AI (c+(a:Int)) f.length (Rw.s α))<|ca d (c+(a:Int)).toNat fun e=>vs (wi (b+(a:Int)))<|vs (AI (b+(a:Int)) f.length (Rw.s α))<|ca d (b+(a:Int)).toNat fun g=>vs (AI (b+(a:Int)) f.length (Rw.s α))<|vs (st d (b+(a:Int)).toNat e)<|BY 0 ((Rw.f (e:α)).map .d) (fun _=>Hg _)<|vs (AI (c+(a:Int)) f.length (Rw.s α))<|vs (st (d.set (b+(a:Int)).toNat e) (c+(a:Int)).toNat g)<|BY 0 ((Rw.f (g:α)).map .d) (fun _=>Hg _)<|vs (wa a 1)<|vz (fl ((d.set (b+(a:Int)).toNat e).set (c+(a:Int)).toNat g))<|ln (WY f b c h) (a+1,(d.set (b+(a:Int)).toNat e).set (c+(a:Int)).toNat g)) (vz (fl d)<|Ai (WF) d)
def JL(a:List α)(b:Int)(c:Int)(d:Int):Nat×List α→Option (Lv (Nat×List α) (List α) (List α)):=fun(f,e)=>(Nm a b c d f e).m
def Q9(a:List α):PT 1 (List α):=lr KN (Kq) a
def Q4(a:List α)(b:Int)(c:Int)(d:Int):PT 1 (List α):=vz (fl a)<|lc (Ad [(0,.ref (0,0) 0 0 a.length),(1,vI b),(2,vI c),(3,vI d),(10,vI 0)] [((0,0),⟨0,true,.t (Tid.t α),Rw.s α,Ab Rw.e a⟩)]) ((Am (JL a b c d) Al (0,a)).bind (Sum.elim (fun e=>(Q9 e).m) some))
def H3(a:List α)(b:Int)(c:Int)(d:Int):Option (List α):=(Q4 a b c d).m
end
theorem ZA9{C:Cx}(co:CO C 1)(a:List Pr)(b:Int)(c:Int)(d:Int):KL Tryz.prog (AC tl) 38 C (pa [0,0,1] (Az Tryz.f167)) [] 1 (WY a b c d) (WF) KN (Kq) (JL a b c d):=fun(j,i) _ hm Q e h f=>At co Aa Ae (Nm a b c d j i) (Ac [0,1,2,3,10] Ah) (Ac [] Ah) h hm f fun r g=>⟨fun k=>fun l=>id,id⟩
theorem a8(a:List Pr)(c:Int)(d:Int)(e:Int):KO Tryz.prog 167 1 [.ref (0,0) 0 0 a.length,vI c,vI d,vI e,.fn (.yield 4) [] []] [⟨0,true,63,14,Ab Ap a⟩] (fun _ _ _ _=>True) (H3 a c d e) KN (Kq):=Bv Tryz.func167 Tryz.ntmps167 Aa [] 1 (fun C co i y hm f b=>Aj co Aa Ae 1 (Q4 a c d e) (Ac [0,1,2,3,10] Ah) nl nH hm b fun r g=>fun _ hm b=>bk 0 (lo (AH (ZA9 co a c d e) nH hm b (fun h hm=>B4 (Q9 h) co hm b (fun r g=>id) r g)))) (hB:=fun y=>⟨.inl (Aw _ _),rfl,trivial⟩)
section
variable {α:Type} [Rw α] [Tid α]
abbrev Kw:List α→AV:=fun y=>.tup []
@[reducible] def Kt:List α→List Blk:=fun y=>[⟨0,true,.t (Tid.t α),Rw.s α,Ab Rw.e y⟩]
def Rg(a:List α)(b:Int):Int×Int×List α→St:=fun(d,v2,c)=>Ad [(0,.ref (0,0) 0 0 a.length),(2,vI b),(4,.fn (.yield 4) [] []),(10,vI d),(11,vI v2)] [((0,0),⟨0,true,.t (Tid.t α),Rw.s α,Ab Rw.e c⟩)]
def WG(a:List α)(b:Int):Int×List α→Nat×St:=fun(d,c)=>(0,Ad [(0,.ref (0,0) 0 0 a.length),(2,vI b),(4,.fn (.yield 4) [] []),(10,vI d)] [((0,0),⟨0,true,.t (Tid.t α),Rw.s α,Ab Rw.e c⟩)])
def Lx(c:List α)(d:Int)(a:Int)(v2:Int)(b:List α):PT 1 (Lv (Int×Int×List α) (Int×List α) (List α)):=vs (wi (a-v2))<|vz (fl b)<|ln (Rg c d) ((a-v2),v2,b)
def Lr(b:List α)(c:Int)(d:Int)(v2:Int)(a:List α):PT 1 (Lv (Int×Int×List α) (Int×List α) (List α)):=vz (fl a)<|lc (Ad [(0,.ref (0,0) 0 0 b.length),(2,vI c),(4,.fn (.yield 4) [] []),(10,vI d),(11,vI v2)] [((0,0),⟨0,true,.t (Tid.t α),Rw.s α,Ab Rw.e a⟩)]) ((Lx b c d v2 a).m)
def Li(c:List α)(a:Int)(b:Int)(v2:Int)(d:List α):PT 1 (Lv (Int×Int×List α) (Int×List α) (List α)):=vs (wi (a-b))<|vz (fl d)<|lc (Ad [(0,.ref (0,0) 0 0 c.length),(2,vI a),(4,.fn (.yield 4) [] []),(10,vI b),(11,vI v2),(24,.ref (0,0) 0 0 c.length),(27,vI (a-b)),(28,vI a),(29,vI v2),(30,.fn (.yield 4) [] [])] [((0,0),⟨0,true,.t (Tid.t α),Rw.s α,Ab Rw.e d⟩)]) (if c.length=d.length then(H3 d (a-b) a v2).bind fun e=>(Lr c a b v2 e).m else none)
def Lq(c:List α)(d:Int)(a:Int)(v2:Int)(b:List α):PT 1 (Lv (Int×Int×List α) (Int×List α) (List α)):=vs (wi (v2-a))<|vz (fl b)<|ln (Rg c d) (a,(v2-a),b)
def Lt(b:List α)(c:Int)(d:Int)(v2:Int)(a:List α):PT 1 (Lv (Int×Int×List α) (Int×List α) (List α)):=vz (fl a)<|lc (Ad [(0,.ref (0,0) 0 0 b.length),(2,vI c),(4,.fn (.yield 4) [] []),(10,vI d),(11,vI v2)] [((0,0),⟨0,true,.t (Tid.t α),Rw.s α,Ab Rw.e a⟩)]) ((Lq b c d v2 a).m)
def Lg(c:List α)(b:Int)(a:Int)(v2:Int)(d:List α):PT 1 (Lv (Int×Int×List α) (Int×List α) (List α)):=vs (wi (b-a))<|vs (wi (b+v2))<|vs (wi ((b+v2)-a))<|vz (fl d)<|lc (Ad [(0,.ref (0,0) 0 0 c.length),(2,vI b),(4,.fn (.yield 4) [] []),(10,vI a),(11,vI v2),(35,.ref (0,0) 0 0 c.length),(38,vI (b-a)),(43,vI ((b+v2)-a)),(44,vI a),(45,.fn (.yield 4) [] [])] [((0,0),⟨0,true,.t (Tid.t α),Rw.s α,Ab Rw.e d⟩)]) (if c.length=d.length then(H3 d (b-a) ((b+v2)-a) a).bind fun e=>(Lt c b a v2 e).m else none)
def Lu(c:List α)(d:Int)(a:Int)(v2:Int)(b:List α):PT 1 (Lv (Int×Int×List α) (Int×List α) (List α)):=vz (fl b)<|lc (Ad [(0,.ref (0,0) 0 0 c.length),(2,vI d),(4,.fn (.yield 4) [] []),(10,vI a),(11,vI v2),(23,vB (decide (v2<a)))] [((0,0),⟨0,true,.t (Tid.t α),Rw.s α,Ab Rw.e b⟩)]) (if decide (v2<a)=true then(Li c d a v2 b).m else(Lg c d a v2 b).m)
def Lp(c:List α)(d:Int)(b:Int)(v2:Int)(a:List α):PT 1 (Lv (Int×Int×List α) (Int×List α) (List α)):=br (!decide (b=v2)) (vz (fl a)<|lc (Ad [(0,.ref (0,0) 0 0 c.length),(2,vI d),(4,.fn (.yield 4) [] []),(10,vI b),(11,vI v2)] [((0,0),⟨0,true,.t (Tid.t α),Rw.s α,Ab Rw.e a⟩)]) ((Lu c d b v2 a).m)) (vz (fl a)<|Ai (WG c d) (b,a))
def GB(a:List α)(b:Int):Int×Int×List α→Option (Lv (Int×Int×List α) (Int×List α) (List α)):=fun(d,v2,c)=>(Lp a b d v2 c).m
def Qz(a:List α):PT 1 (List α):=lr Kw (Kt) a
def Qe(a:List α):PT 1 (List α):=vz (fl a)<|lc (Ad [] [((0,0),⟨0,true,.t (Tid.t α),Rw.s α,Ab Rw.e a⟩)]) ((Qz a).m)
def P5(d:List α)(a:Int)(b:Int)(c:List α):PT 1 (List α):=vs (wi (a-b))<|vz (fl c)<|lc (Ad [(50,.ref (0,0) 0 0 d.length),(53,vI (a-b)),(54,vI a),(55,vI b),(56,.fn (.yield 4) [] [])] [((0,0),⟨0,true,.t (Tid.t α),Rw.s α,Ab Rw.e c⟩)]) (if d.length=c.length then(H3 c (a-b) a b).bind fun e=>(Qe e).m else none)
def Qi(b:List α)(c:Int)(a:Int)(d:Int):PT 1 (List α):=vs (wi (a-c))<|vs (wi (d-a))<|vz (fl b)<|lc (Ad [(0,.ref (0,0) 0 0 b.length),(2,vI a),(4,.fn (.yield 4) [] []),(10,vI (a-c)),(11,vI (d-a))] [((0,0),⟨0,true,.t (Tid.t α),Rw.s α,Ab Rw.e b⟩)]) ((Am (GB b a) Al ((a-c),(d-a),b)).bind (Sum.elim (fun(f,e)=>(P5 b a f e).m) some))
def KY(a:List α)(b:Int)(c:Int)(d:Int):Option (List α):=(Qi a b c d).m
end
theorem ZAW{C:Cx}(co:CO C 1)(d:List Pr)(a:Int):KL Tryz.prog (AC tl) 58 C (pa [0,0,0,1,1] (Az Tryz.f161)) [] 1 (Rg d a) (WG d a) Kw (Kt) (GB d a):=fun(b,v2,e) _ hm Q i f c=>Aj co Aa Ae 1 (Lp d a b v2 e) (Ac [0,2,4,10,11] Ah) (Ac [0,2,4,10] Ah) f hm c fun r g=>⟨fun _ hm c=>bk 1 (Aj co Aa Ae 1 (Lu d a b v2 e) (Ac [0,2,4,10,11,23] Ah) nl f hm c fun r g=>fun _ hm c=>cd (decide (v2<b)) hm (fun hm=>sq (rg (AN co Aa 7 (Li d a b v2 e) (Ac [0,2,4,10,11,24,27,28,29,30] Ah) hm c fun r g=>fun _ hm c=>BW hm fun heq hm=>A9 co hm 167 [.ref (0,0) 0 0 d.length,vI (a-b),vI a,vI v2,.fn (.yield 4) [] []] [(0,0)] ([((0,0),⟨0,true,63,14,Ab Ap e⟩)]++[]) (fun z=>.tup []) (fun z=>[((0,0),⟨0,true,63,14,Ab Ap z⟩)]) [] (fun z=>⟨co.W 0 (by decide),trivial⟩) (trivial) (fun z h r g=>A8 (a8 e (a-b) a v2) h co g [((0,0),⟨0,true,63,14,Ab Ap e⟩)] [] [((0,0),⟨0,true,63,14,Ab Ap z⟩)] (AG [(4,r.θ 4)]) (fun l m n=>trivial) (fun H=>⟨fun _=>⟨rfl,AE (Aw _ _) (by kernel_rfl)⟩,by kernel_rfl,trivial⟩) (fun H=>⟨fun _=>⟨rfl,AE (Aw _ _) (by kernel_rfl)⟩,by kernel_rfl,trivial⟩) (hx:=by intro H;rw[heq];kernel_rfl)) fun j hm=>AK co Aa (Lr d a b v2 j) (Ac [0,2,4,10,11] Ah) hm c fun r g=>fun _ hm c=>At co Aa Ae (Lx d a b v2 j) (Ac [0,2,4,10,11] Ah) nl f hm c fun r g=>id))) (fun hm=>sq (rg (AN co Aa 11 (Lg d a b v2 e) (Ac [0,2,4,10,11,35,38,43,44,45] Ah) hm c fun r g=>fun _ hm c=>BW hm fun heq hm=>A9 co hm 167 [.ref (0,0) 0 0 d.length,vI (a-b),vI ((a+v2)-b),vI b,.fn (.yield 4) [] []] [(0,0)] ([((0,0),⟨0,true,63,14,Ab Ap e⟩)]++[]) (fun z=>.tup []) (fun z=>[((0,0),⟨0,true,63,14,Ab Ap z⟩)]) [] (fun z=>⟨co.W 0 (by decide),trivial⟩) (trivial) (fun z h r g=>A8 (a8 e (a-b) ((a+v2)-b) b) h co g [((0,0),⟨0,true,63,14,Ab Ap e⟩)] [] [((0,0),⟨0,true,63,14,Ab Ap z⟩)] (AG [(4,r.θ 4)]) (fun l m n=>trivial) (fun H=>⟨fun _=>⟨rfl,AE (Aw _ _) (by kernel_rfl)⟩,by kernel_rfl,trivial⟩) (fun H=>⟨fun _=>⟨rfl,AE (Aw _ _) (by kernel_rfl)⟩,by kernel_rfl,trivial⟩) (hx:=by intro H;rw[heq];kernel_rfl)) fun k hm=>AK co Aa (Lt d a b v2 k) (Ac [0,2,4,10,11] Ah) hm c fun r g=>fun _ hm c=>At co Aa Ae (Lq d a b v2 k) (Ac [0,2,4,10,11] Ah) nl f hm c fun r g=>id)))),id⟩
theorem ZSW(c:List Pr)(f:Int)(a:Int)(h:Int):KO Tryz.prog 161 1 [.ref (0,0) 0 0 c.length,vI f,vI a,vI h,.fn (.yield 4) [] []] [⟨0,true,63,14,Ab Ap c⟩] (fun _ _ _ _=>True) (KY c f a h) Kw (Kt):=Bv Tryz.func161 Tryz.ntmps161 Aa [] 1 (fun C co m y hm i b=>Aj co Aa Ae 2 (Qi c f a h) (Ac [0,2,4,10,11] Ah) nl nH hm b fun r g=>fun _ hm b=>sq (bk 0 (lo (AH (ZAW co c a) nH hm b (fun(d,e) hm=>rg (AN co Aa 7 (P5 c a d e) (Ac [50,53,54,55,56] Ah) hm b fun r g=>fun _ hm b=>BW hm fun heq hm=>A9 co hm 167 [.ref (0,0) 0 0 c.length,vI (a-d),vI a,vI d,.fn (.yield 4) [] []] [(0,0)] ([((0,0),⟨0,true,63,14,Ab Ap e⟩)]++[]) (fun z=>.tup []) (fun z=>[((0,0),⟨0,true,63,14,Ab Ap z⟩)]) [] (fun z=>⟨co.W 0 (by decide),trivial⟩) (trivial) (fun z k r g=>A8 (a8 e (a-d) a d) k co g [((0,0),⟨0,true,63,14,Ab Ap e⟩)] [] [((0,0),⟨0,true,63,14,Ab Ap z⟩)] (AG [(4,r.θ 4)]) (fun l n o=>trivial) (fun H=>⟨fun _=>⟨rfl,AE (Aw _ _) (by kernel_rfl)⟩,by kernel_rfl,trivial⟩) (fun H=>⟨fun _=>⟨rfl,AE (Aw _ _) (by kernel_rfl)⟩,by kernel_rfl,trivial⟩) (hx:=by intro H;rw[heq];kernel_rfl)) fun j hm=>AK co Aa (Qe j) (Ac [] Ah) hm b fun r g=>fun _ hm b=>B4 (Qz j) co hm b (fun r g=>id) r g)))))) (hB:=fun y=>⟨.inl (Aw _ _),rfl,trivial⟩)
end Go.Proofs.YtjbijbkdiijhaaaGreat
