import Derived.Test.YtjbijbkdiijhaaaGreatZc12
import Derived.Test.YtjbijbkdiijhaaaGreatZc00
namespace Go.Proofs.YtjbijbkdiijhaaaGreat
set_option maxRecDepth 100000
set_option linter.all false
open Go Go.Eng
class Tid (α:Type) where
 t:Nat
instance:Tid Slt:=⟨61⟩
instance:Tid Raw:=⟨65⟩
instance:Tid Pr:=⟨63⟩
abbrev J3:List (Af×Bool):=[((1,2),false),((1,5),true)]
abbrev EQ:List (Af×Bool):=[((1,2),false)]
abbrev EP(a:Scm):Af×Blk:=kk 2 26 3 (cD (Au a))
abbrev Oa:List ByteArray→AV:=fun y=>vL Bw y
def wA(b:Scm)(c:Int):List ByteArray×Nat→St:=fun(a,v2)=>Ad [(1,vI c),pp 2,(5,.ref (1,5) 0 0 a.length),(6,vN v2)] [(EP b),kk 5 9 1 (Ab Bw a)]
def vC(b:Scm)(c:Int):List ByteArray→Nat×St:=fun a=>(0,Ad [(1,vI c),pp 2,(5,.ref (1,5) 0 0 a.length)] [(EP b),kk 5 9 1 (Ab Bw a)])
def aD(a:Scm)(c:Int)(b:List ByteArray)(v2:Nat):PT 0 (Lv (List ByteArray×Nat) (List ByteArray) (List ByteArray)):=wg<|vy (decide (c=(1:Int))) (An a.messages)<|br (decide (c=(1:Int))&&decide ((v2:Int)<(a.messages.length:Int))) (wg<|ix a.messages v2 fun d=>vw .sep<|ap b (d.name:ByteArray)<|vs (wa v2 1)<|vz (fl (b++[d.name]))<|ln (wA a c) (b++[d.name],v2+1)) (vz (fl b)<|Ai (vC a c) b)
def X9(a:Scm)(b:Int):List ByteArray×Nat→Option (Lv (List ByteArray×Nat) (List ByteArray) (List ByteArray)):=fun(c,v2)=>(aD a b c v2).m
def vZ(b:Scm)(c:Int):List ByteArray×Nat→St:=fun(a,d)=>Ad [(1,vI c),pp 2,(5,.ref (1,5) 0 0 a.length),(7,vN d)] [(EP b),kk 5 9 1 (Ab Bw a)]
def uW(b:Scm)(c:Int):List ByteArray→Nat×St:=fun a=>(2,Ad [(1,vI c),pp 2,(5,.ref (1,5) 0 0 a.length)] [(EP b),kk 5 9 1 (Ab Bw a)])
def bm(a:Scm)(c:Int)(b:List ByteArray)(d:Nat):PT 0 (Lv (List ByteArray×Nat) (List ByteArray) (List ByteArray)):=wg<|vy (decide (c=(2:Int))) (An a.enums)<|br (decide (c=(2:Int))&&decide ((d:Int)<(a.enums.length:Int))) (wg<|ix a.enums d fun e=>vw .sep<|ap b (e.name:ByteArray)<|vs (wa d 1)<|vz (fl (b++[e.name]))<|ln (vZ a c) (b++[e.name],d+1)) (vz (fl b)<|Ai (uW a c) b)
def Xn(a:Scm)(b:Int):List ByteArray×Nat→Option (Lv (List ByteArray×Nat) (List ByteArray) (List ByteArray)):=fun(c,d)=>(bm a b c d).m
def uS(c:Scm)(d:Int):List ByteArray×Nat→St:=fun(b,a)=>Ad [(1,vI d),pp 2,(5,.ref (1,5) 0 0 b.length),(8,vN a)] [(EP c),kk 5 9 1 (Ab Bw b)]
def uT:List ByteArray→Nat×St:=fun a=>(4,Ad [(5,.ref (1,5) 0 0 a.length)] [kk 5 9 1 (Ab Bw a)])
def bZ(d:Scm)(e:Int)(c:List ByteArray)(a:Nat):PT 0 (Lv (List ByteArray×Nat) (List ByteArray) (List ByteArray)):=wg<|vy (decide (e=(3:Int))) (An d.services)<|br (decide (e=(3:Int))&&decide ((a:Int)<(d.services.length:Int))) (wg<|ix d.services a fun b=>vw .sep<|ap c (b.name:ByteArray)<|vs (wa a 1)<|vz (fl (c++[b.name]))<|ln (uS d e) (c++[b.name],a+1)) (vz (fl c)<|Ai (uT) c)
def XX(b:Scm)(c:Int):List ByteArray×Nat→Option (Lv (List ByteArray×Nat) (List ByteArray) (List ByteArray)):=fun(d,a)=>(bZ b c d a).m
def dx(a:List ByteArray):PT 0 (List ByteArray):=vz (fr a)<|lr Oa nG a
def cO(c:Scm)(d:Int)(a:List ByteArray):PT 0 (List ByteArray):=vz (fl a)<|lc (Ad [(1,vI d),pp 2,(5,.ref (1,5) 0 0 a.length),(8,vI 0)] [(EP c),kk 5 9 1 (Ab Bw a)]) ((Al (XX c d) Am (a,0)).bind (Sum.elim (fun b=>(dx b).m) some))
def bw(b:Scm)(c:Int)(a:List ByteArray):PT 0 (List ByteArray):=vz (fl a)<|lc (Ad [(1,vI c),pp 2,(5,.ref (1,5) 0 0 a.length),(7,vI 0)] [(EP b),kk 5 9 1 (Ab Bw a)]) ((Al (Xn b c) Am (a,0)).bind (Sum.elim (fun d=>(cO b c d).m) some))
def fL(a:Scm)(b:Int):PT 0 (List ByteArray):=vw (.ads 5 5 9 1)<|vz (fl ([]:List ByteArray))<|lc (Ad [(1,vI b),pp 2,(5,.ref (1,5) 0 0 ([]:List ByteArray).length),(6,vI 0)] [(EP a),kk 5 9 1 (Ab Bw ([]:List ByteArray))]) ((Al (X9 a b) Am (([]:List ByteArray),0)).bind (Sum.elim (fun c=>(bw a b c).m) some))
def ez(a:Scm)(b:Int):PT 0 (List ByteArray):=lc (Ad [(1,vI b),pp 2,(5,.e0),(6,vI 0)] [(EP a)]) ((fL a b).m)
def b6(a:Scm)(b:Int):PT 0 (List ByteArray):=lc (Ad [(1,vI b),pp 2,(5,.e0)] [(EP a)]) ((ez a b).m)
def jz(a:Scm)(b:Int):Option (List ByteArray):=(b6 a b).m
theorem ZJf{C:Cx}(co:CO C 0)(a:Scm)(b:Int):KL Tryz.prog (AC tl) 70 C (pa [0,0,1,0,1,1] (AA Tryz.f33)) [.tmp 4] 0 (wA a b) (vC a b) Oa nG (X9 a b):=fun(f,v2) _ hm Q c e d=>At co Aa Ae (aD a b f v2) (Ac [1,2,5,6] J3) (Ac [1,2,5] J3) e hm d fun r g=>⟨fun h=>id,id⟩
theorem ZGE{C:Cx}(co:CO C 0)(a:Scm)(b:Int):KL Tryz.prog (AC tl) 70 C (pa [0,0,1,0,1,1,1] (AA Tryz.f33)) [.tmp 4] 0 (vZ a b) (uW a b) Oa nG (Xn a b):=fun(f,h) _ hm Q c e d=>At co Aa Ae (bm a b f h) (Ac [1,2,5,7] J3) (Ac [1,2,5] J3) e hm d fun r g=>⟨fun i=>id,id⟩
theorem ZJv{C:Cx}(co:CO C 0)(a:Scm)(b:Int):KL Tryz.prog (AC tl) 70 C (pa [0,0,1,0,1,1,1,1] (AA Tryz.f33)) [.tmp 4] 0 (uS a b) (uT) Oa nG (XX a b):=fun(i,c) _ hm Q d h f=>At co Aa Ae (bZ a b i c) (Ac [1,2,5,8] J3) (Ac [5] [((1,5),true)]) h hm f fun r g=>⟨fun e=>id,id⟩
theorem Ua(b:Scm)(c:Int):KC Tryz.prog 33 [.agg ((Au b).map .d),vI c] (jz b c) Oa:=AF Tryz.func33 Tryz.ntmps33 Aa [.tmp 4] fun C co y hm e a=>Aj co Aa Ae 2 (b6 b c) (Ac [1,2,5] EQ) nl nH hm a fun r g=>fun _ hm a=>sq (Aj co Aa Ae 1 (ez b c) (Ac [1,2,5,6] EQ) nl nH hm a fun r g=>fun _ hm a=>bk 0 (HZ co (fL b c) (Ac [1,2,5,6] J3) hm a fun r g=>fun _ hm a=>lo (AE (ZJf co b c) nH hm a (fun f hm=>sq (Aj co Aa Ae 1 (bw b c f) (Ac [1,2,5,7] J3) nl nH hm a fun r g=>fun _ hm a=>bk 2 (lo (AE (ZGE co b c) nH hm a (fun h hm=>sq (Aj co Aa Ae 1 (cO b c h) (Ac [1,2,5,8] J3) nl nH hm a fun r g=>fun _ hm a=>bk 4 (lo (AE (ZJv co b c) nH hm a (fun d hm=>Ax co Aa Ae (dx d) hm a fun r g=>id))))))))))))
abbrev Fo:List (Af×Bool):=[((0,0),false),((0,1),true)]
abbrev Zx:List Prb→AV:=fun y=>.tup []
@[reducible] def ZJ(a:ByteArray):List Prb→List Blk:=fun y=>[⟨0,true,78,2,[vS a,.ref (0,1) 0 0 y.length]⟩,⟨0,true,115,3,Ab Ao y⟩]
def gn(a:ByteArray)(b:List Prb)(c:Int)(d:Int):PT 2 (List Prb):=lr Zx (ZJ a) (b++([(.mk a c d:Prb)]))
def eg(a:ByteArray)(b:List Prb)(c:Int)(d:Int):PT 2 (List Prb):=wg<|wg<|vw .sep<|ap b ((.mk a c d:Prb):Prb)<|BY 1 (Ab Ao [(.mk a c d:Prb)]) (fun _=>ZxO _)<|wg<|vwl 0 [.ref (0,1) 1 0 (b++([(.mk a c d:Prb)])).length]<|vz (fl (b++([(.mk a c d:Prb)])))<|lc (Ad [] [((0,0),⟨0,true,78,2,[vS a,.ref (0,1) 0 0 (b++([(.mk a c d:Prb)])).length]⟩),((0,1),⟨0,true,115,3,Ab Ao (b++([(.mk a c d:Prb)]))⟩)]) ((gn a b c d).m)
def dk(a:ByteArray)(b:List Prb):PT 2 (List Prb):=lr Zx (ZJ a) b
def cN(a:ByteArray)(b:List Prb)(c:Bool)(d:Int)(e:Int):PT 2 (List Prb):=vz (fl b)<|lc (Ad [(0,.ptr (0,0) 0 0),(2,vI d),(3,vI e),(8,vB c)] [((0,0),⟨0,true,78,2,[vS a,.ref (0,1) 0 0 b.length]⟩),((0,1),⟨0,true,115,3,Ab Ao b⟩)]) (if c=true then(eg a b d e).m else(dk a b).m)
def BD(a:ByteArray)(b:List Prb)(c:Bool)(d:Int)(e:Int):Option (List Prb):=(cN a b c d e).m
theorem BT(a:ByteArray)(b:List Prb)(f:Bool)(d:Int)(e:Int):KG Tryz.prog 34 2 [1] [(1,0)] [.ptr (0,0) 0 0,vB f,vI d,vI e] [⟨0,true,78,2,[vS a,.ref (0,1) 0 0 b.length]⟩,⟨0,true,115,3,Ab Ao b⟩] (BD a b f d e) Zx (ZJ a):=pZ Tryz.func34 Tryz.ntmps34 Aa [] 2 [1] [0] [(1,0)] (fun C co h y hm i c=>Aj co Aa Ae 1 (cN a b f d e) (Ac [0,2,3,8] Fo) nl nH hm c fun r g=>fun _ hm c=>cd f hm (fun hm=>Hs co Aa Ae (.fst 0 (.fst 1 (.fst 2 (.fst 3 (.fst 5 (.fst 6 (.fst 7 (.fst 9 (.fst 10 (.fst 4 (.fst 8 (.fst 11 (.fst 12 (.fst 13 (.fst 14 (.fst 15 (.fst 16 .nil))))))))))))))))) [] (eg a b d e) (Ac [] Fo) hm c fun r g=>⟨ZNd g h,fun _ hm c=>B4 (gn a b d e) co hm c (fun r g=>id) r g⟩) (fun hm=>Ax co Aa Ae (dk a b) hm c fun r g=>id))
abbrev Sb:Bool→AV:=fun y=>vB y
def vq(a:List ByteArray):Nat→St:=fun b=>Ad [(0,vL Bw a),(3,vN b)] []
def xd:Unit→Nat×St:=fun _=>(0,Ad [] [])
def fw(b:List ByteArray)(a:Nat):PT 0 (Lv (Nat) (Unit) (Bool)):=vz (An b)<|br (decide ((a:Int)<(b.length:Int))) (ix b a fun c=>vs (wi ((a:Int)-1))<|Cq b ((a:Int)-1) fun d=>br (BJ c d||decide (c=d)) (Ay Sb nG false) (vs (wa a 1)<|ln (vq b) (a+1))) (Ai (xd) ())
def Xx(a:List ByteArray):Nat→Option (Lv (Nat) (Unit) (Bool)):=fun b=>(fw a b).m
def bj:PT 0 (Bool):=lr Sb nG true
def bN(a:List ByteArray):PT 0 (Bool):=lc (Ad [(0,vL Bw a),(3,vI 1)] []) ((Al (Xx a) Am 1).bind (Sum.elim (fun _=>(bj).m) some))
def ci(a:List ByteArray):PT 0 (Bool):=lc (Ad [(0,vL Bw a)] []) ((bN a).m)
def iY(a:List ByteArray):Option (Bool):=(ci a).m
theorem ZED{C:Cx}(co:CO C 0)(a:List ByteArray):KL Tryz.prog (AC tl) 20 C (pa [0,0,1,0,1] (AA Tryz.f35)) [.tmp 2] 0 (vq a) (xd) Sb nG (Xx a):=fun e _ hm Q b d c=>At co Aa Ae (fw a e) (AK [0,3]) nl d hm c fun r g=>⟨fun f=>fun h=>⟨id,id⟩,id⟩
theorem ZVw(b:List ByteArray):KC Tryz.prog 35 [vL Bw b] (iY b) Sb:=AF Tryz.func35 Tryz.ntmps35 Aa [.tmp 2] fun C co y hm c a=>Aj co Aa Ae 1 (ci b) (AK [0]) nl nH hm a fun r g=>fun _ hm a=>sq (Aj co Aa Ae 1 (bN b) (AK [0,3]) nl nH hm a fun r g=>fun _ hm a=>bk 0 (lo (AE (ZED co b) nH hm a (fun _ hm=>Ax co Aa Ae (bj) hm a fun r g=>id))))
abbrev Sm:Bool→AV:=fun y=>vB y
def wK(a:List ByteArray)(b:ByteArray):Nat→St:=fun c=>Ad [(0,vL Bw a),(1,vS b),(5,vN c)] []
def wS:Unit→Nat×St:=fun _=>(0,Ad [] [])
def Xw(a:List ByteArray)(c:ByteArray)(b:Nat):PT 0 (Lv (Nat) (Unit) (Bool)):=vz (An a)<|br (decide ((b:Int)<(a.length:Int))) (ix a b fun d=>br (decide (d=c)) (Ay Sm nG true) (vs (wa b 1)<|ln (wK a c) (b+1))) (Ai (wS) ())
def Nq(a:List ByteArray)(b:ByteArray):Nat→Option (Lv (Nat) (Unit) (Bool)):=fun c=>(Xw a b c).m
def Xg:PT 0 (Bool):=lr Sm nG false
def Zf(a:List ByteArray)(b:ByteArray):PT 0 (Bool):=lc (Ad [(0,vL Bw a),(1,vS b),(5,vI 0)] []) ((Al (Nq a b) Am 0).bind (Sum.elim (fun _=>(Xg).m) some))
def Tw(a:List ByteArray)(b:ByteArray):PT 0 (Bool):=lc (Ad [(0,vL Bw a),(1,vS b)] []) ((Zf a b).m)
def Pv(a:List ByteArray)(b:ByteArray):Option (Bool):=(Tw a b).m
theorem ZGs{C:Cx}(co:CO C 0)(a:List ByteArray)(b:ByteArray):KL Tryz.prog (AC tl) 18 C (pa [0,0,1,0,1] (AA Tryz.f63)) [.tmp 4] 0 (wK a b) (wS) Sm nG (Nq a b):=fun f _ hm Q c e d=>At co Aa Ae (Xw a b f) (AK [0,1,5]) nl e hm d fun r g=>⟨fun h=>⟨id,id⟩,id⟩
theorem xQ(b:List ByteArray)(c:ByteArray):KC Tryz.prog 63 [vL Bw b,vS c] (Pv b c) Sm:=AF Tryz.func63 Tryz.ntmps63 Aa [.tmp 4] fun C co y hm d a=>Aj co Aa Ae 1 (Tw b c) (AK [0,1]) nl nH hm a fun r g=>fun _ hm a=>sq (Aj co Aa Ae 1 (Zf b c) (AK [0,1,5]) nl nH hm a fun r g=>fun _ hm a=>bk 0 (lo (AE (ZGs co b c) nH hm a (fun _ hm=>Ax co Aa Ae (Xg) hm a fun r g=>id))))
abbrev Sc:Bool→AV:=fun y=>vB y
def wb(a:List ByteArray)(b:List ByteArray):Nat→St:=fun c=>Ad [(0,vL Bw a),(1,vL Bw b),(5,vN c)] []
def tB:Unit→Nat×St:=fun _=>(0,Ad [] [])
def aK(a:List ByteArray)(c:List ByteArray)(b:Nat):PT 0 (Lv (Nat) (Unit) (Bool)):=vz (An a)<|br (decide ((b:Int)<(a.length:Int))) (ix a b fun d=>cl (xQ c d) fun e=>br e (Ay Sc nG true) (vs (wa b 1)<|ln (wb a c) (b+1))) (Ai (tB) ())
def XC(a:List ByteArray)(b:List ByteArray):Nat→Option (Lv (Nat) (Unit) (Bool)):=fun c=>(aK a b c).m
def eG:PT 0 (Bool):=lr Sc nG false
def cK(a:List ByteArray)(b:List ByteArray):PT 0 (Bool):=lc (Ad [(0,vL Bw a),(1,vL Bw b),(5,vI 0)] []) ((Al (XC a b) Am 0).bind (Sum.elim (fun _=>(eG).m) some))
def fa(a:List ByteArray)(b:List ByteArray):PT 0 (Bool):=lc (Ad [(0,vL Bw a),(1,vL Bw b)] []) ((cK a b).m)
def jk(a:List ByteArray)(b:List ByteArray):Option (Bool):=(fa a b).m
theorem ZI3{C:Cx}(co:CO C 0)(a:List ByteArray)(b:List ByteArray):KL Tryz.prog (AC tl) 18 C (pa [0,0,1,0,1] (AA Tryz.f36)) [.tmp 4] 0 (wb a b) (tB) Sc nG (XC a b):=fun f _ hm Q c e d=>At co Aa Ae (aK a b f) (AK [0,1,5]) nl e hm d fun r g=>⟨fun h=>fun i=>⟨id,id⟩,id⟩
theorem gY(b:List ByteArray)(c:List ByteArray):KC Tryz.prog 36 [vL Bw b,vL Bw c] (jk b c) Sc:=AF Tryz.func36 Tryz.ntmps36 Aa [.tmp 4] fun C co y hm d a=>Aj co Aa Ae 1 (fa b c) (AK [0,1]) nl nH hm a fun r g=>fun _ hm a=>sq (Aj co Aa Ae 1 (cK b c) (AK [0,1,5]) nl nH hm a fun r g=>fun _ hm a=>bk 0 (lo (AE (ZI3 co b c) nH hm a (fun _ hm=>Ax co Aa Ae (eG) hm a fun r g=>id))))
abbrev AB(a:Scm):Af×Blk:=kk 2 26 3 (cD (Au a))
abbrev Ss:Int→AV:=fun y=>vI y
def tU(a:Scm)(b:ByteArray):Nat→St:=fun c=>Ad [(1,vS b),pp 2,(5,vN c)] [(AB a)]
def uK:Unit→Nat×St:=fun _=>(0,Ad [] [])
def bI(b:Scm)(c:ByteArray)(a:Nat):PT 0 (Lv (Nat) (Unit) (Int)):=wg<|vz (An b.messages)<|br (decide ((a:Int)<(b.messages.length:Int))) (wg<|ix b.messages a fun d=>br (decide (d.name=c)) (Ay Ss nG (a:Int)) (vs (wa a 1)<|ln (tU b c) (a+1))) (Ai (uK) ())
def Tj(a:Scm)(b:ByteArray):Nat→Option (Lv (Nat) (Unit) (Int)):=fun c=>(bI a b c).m
def gf:PT 0 (Int):=lr Ss nG (-1)
def fE(a:Scm)(b:ByteArray):PT 0 (Int):=lc (Ad [(1,vS b),pp 2,(5,vI 0)] [(AB a)]) ((Al (Tj a b) Am 0).bind (Sum.elim (fun _=>(gf).m) some))
def dg(a:Scm)(b:ByteArray):PT 0 (Int):=lc (Ad [(1,vS b),pp 2] [(AB a)]) ((fE a b).m)
def iX(a:Scm)(b:ByteArray):Option (Int):=(dg a b).m
theorem ZJQ{C:Cx}(co:CO C 0)(a:Scm)(b:ByteArray):KL Tryz.prog (AC tl) 22 C (pa [0,0,1,0,1] (AA Tryz.f75)) [.tmp 4] 0 (tU a b) (uK) Ss nG (Tj a b):=fun f _ hm Q c e d=>At co Aa Ae (bI a b f) (Ac [1,2,5] EQ) nl e hm d fun r g=>⟨fun h=>⟨id,id⟩,id⟩
theorem OS(b:Scm)(c:ByteArray):KC Tryz.prog 75 [.agg ((Au b).map .d),vS c] (iX b c) Ss:=AF Tryz.func75 Tryz.ntmps75 Aa [.tmp 4] fun C co y hm d a=>Aj co Aa Ae 1 (dg b c) (Ac [1,2] EQ) nl nH hm a fun r g=>fun _ hm a=>sq (Aj co Aa Ae 1 (fE b c) (Ac [1,2,5] EQ) nl nH hm a fun r g=>fun _ hm a=>bk 0 (lo (AE (ZJQ co b c) nH hm a (fun _ hm=>Ax co Aa Ae (gf) hm a fun r g=>id))))
abbrev pS(a:Scm):Af×Blk:=kk 3 26 3 (cD (Au a))
abbrev pT(a:Msg):Af×Blk:=kk 4 45 5 (cD (AU a))
abbrev Sn:Bool→AV:=fun y=>vB y
def ec(a:Scm)(b:Msg)(c:List Bool):Nat→St:=fun d=>Ad [(2,vL AX c),pp 3,pp 4,(7,vN d)] [(pS a),(pT b)]
def ug:Unit→Nat×St:=fun _=>(0,Ad [] [])
def fP(d:Scm)(b:Msg)(e:List Bool)(a:Nat):PT 0 (Lv (Nat) (Unit) (Bool)):=wg<|vz (An b.fields)<|br (decide ((a:Int)<(b.fields.length:Int))) (wg<|ix b.fields a fun c=>wg<|wg<|wg<|br ((!decide (c.card=(1:Int)))||(!decide (c.type.kind=(10:Int)))) (vs (wa a 1)<|ln (ec d b e) (a+1)) (wg<|wg<|cl (OS d c.type.name) fun f=>A0 (decide ((0:Int)≤f)) e f fun g=>br (decide ((0:Int)≤f)&&(!g)) (Ay Sn nG true) (vs (wa a 1)<|ln (ec d b e) (a+1)))) (Ai (ug) ())
def Xs(a:Scm)(b:Msg)(c:List Bool):Nat→Option (Lv (Nat) (Unit) (Bool)):=fun d=>(fP a b c d).m
def b7:PT 0 (Bool):=lr Sn nG false
def dI(a:Scm)(b:Msg)(c:List Bool):PT 0 (Bool):=lc (Ad [(2,vL AX c),pp 3,pp 4,(7,vI 0)] [(pS a),(pT b)]) ((Al (Xs a b c) Am 0).bind (Sum.elim (fun _=>(b7).m) some))
def a2(a:Scm)(b:Msg)(c:List Bool):PT 0 (Bool):=lc (Ad [(2,vL AX c),pp 3,pp 4] [(pS a),(pT b)]) ((dI a b c).m)
def jC(a:Scm)(b:Msg)(c:List Bool):Option (Bool):=(a2 a b c).m
theorem ZFt{C:Cx}(co:CO C 0)(a:Scm)(b:Msg)(c:List Bool):KL Tryz.prog (AC tl) 45 C (pa [0,0,1,0,1] (AA Tryz.f64)) [.tmp 6] 0 (ec a b c) (ug) Sn nG (Xs a b c):=fun h _ hm Q d f e=>At co Aa Ae (fP a b c h) (Ac [2,3,4,7] [((1,3),false),((1,4),false)]) nl f hm e fun r g=>⟨fun i=>⟨id,fun k=>fun j=>⟨id,id⟩⟩,id⟩
theorem ZUN(b:Scm)(c:Msg)(d:List Bool):KC Tryz.prog 64 [.agg ((Au b).map .d),.agg ((AU c).map .d),vL AX d] (jC b c d) Sn:=AF Tryz.func64 Tryz.ntmps64 Aa [.tmp 6] fun C co y hm e a=>Aj co Aa Ae 1 (a2 b c d) (Ac [2,3,4] [((1,3),false),((1,4),false)]) nl nH hm a fun r g=>fun _ hm a=>sq (Aj co Aa Ae 1 (dI b c d) (Ac [2,3,4,7] [((1,3),false),((1,4),false)]) nl nH hm a fun r g=>fun _ hm a=>bk 0 (lo (AE (ZFt co b c d) nH hm a (fun _ hm=>Ax co Aa Ae (b7) hm a fun r g=>id))))
abbrev pY:List (Af×Bool):=[((0,0),true),((1,3),false),((1,4),false)]
abbrev Ah:List (Af×Bool):=[((0,0),true)]
abbrev pU(a:Scm):Af×Blk:=kk 3 26 3 (cD (Au a))
abbrev pW(a:Msg):Af×Blk:=kk 4 45 5 (cD (AU a))
abbrev XI:Bool→AV:=fun y=>vB y
@[reducible] def X3(a:List Bool):Bool→List Blk:=fun y=>[⟨0,true,4,1,Ab AX a⟩]
def k9(b:Scm)(c:Msg)(a:List Bool):Nat→St:=fun d=>Ad [(2,.ref (0,0) 0 0 a.length),pp 3,pp 4,(7,vN d)] [((0,0),⟨0,true,4,1,Ab AX a⟩),(pU b),(pW c)]
def Ztc(a:List Bool):Unit→Nat×St:=fun _=>(0,Ad [] [((0,0),⟨0,true,4,1,Ab AX a⟩)])
def lB(f:Scm)(c:Msg)(a:List Bool)(b:Nat):PT 1 (Lv (Nat) (Unit) (Bool)):=wg<|vz (An c.fields)<|br (decide ((b:Int)<(c.fields.length:Int))) (wg<|ix c.fields b fun e=>wg<|wg<|wg<|br ((!decide (e.card=(1:Int)))||(!decide (e.type.kind=(10:Int)))) (vs (wa b 1)<|vz (fl a)<|ln (k9 f c a) (b+1)) (wg<|wg<|cl (OS f e.type.name) fun d=>vg (decide ((0:Int)≤d)) (AH d a.length 1)<|Fl (decide ((0:Int)≤d)) a d.toNat fun g=>br (decide ((0:Int)≤d)&&(!g)) (Ay XI (X3 a) true) (vs (wa b 1)<|vz (fl a)<|ln (k9 f c a) (b+1)))) (vz (fl a)<|Ai (Ztc a) ())
def VP(a:Scm)(b:Msg)(c:List Bool):Nat→Option (Lv (Nat) (Unit) (Bool)):=fun d=>(lB a b c d).m
def ld(a:List Bool):PT 1 (Bool):=lr XI (X3 a) false
def lN(b:Scm)(c:Msg)(a:List Bool):PT 1 (Bool):=vz (fl a)<|lc (Ad [(2,.ref (0,0) 0 0 a.length),pp 3,pp 4,(7,vI 0)] [((0,0),⟨0,true,4,1,Ab AX a⟩),(pU b),(pW c)]) ((Al (VP b c a) Am 0).bind (Sum.elim (fun _=>(ld a).m) some))
def lS(b:Scm)(c:Msg)(a:List Bool):PT 1 (Bool):=vz (fl a)<|lc (Ad [(2,.ref (0,0) 0 0 a.length),pp 3,pp 4] [((0,0),⟨0,true,4,1,Ab AX a⟩),(pU b),(pW c)]) ((lN b c a).m)
def UT(a:Scm)(b:Msg)(c:List Bool):Option (Bool):=(lS a b c).m
theorem ZrG{C:Cx}(co:CO C 1)(b:Scm)(c:Msg)(a:List Bool):KL Tryz.prog (AC tl) 45 C (pa [0,0,1,0,1] (AA Tryz.f64)) [.tmp 6] 1 (k9 b c a) (Ztc a) XI (X3 a) (VP b c a):=fun h _ hm Q d f e=>At co Aa Ae (lB b c a h) (Ac [2,3,4,7] pY) (Ac [] Ah) f hm e fun r g=>⟨fun i=>⟨id,fun k=>fun j=>⟨id,id⟩⟩,id⟩
theorem ZOT(c:Scm)(d:Msg)(a:List Bool):KO Tryz.prog 64 1 [.agg ((Au c).map .d),.agg ((AU d).map .d),.ref (0,0) 0 0 a.length] [⟨0,true,4,1,Ab AX a⟩] (fun _ _ _ _=>True) (UT c d a) XI (X3 a):=Bu Tryz.func64 Tryz.ntmps64 Aa [.tmp 6] 1 (fun C co f y hm e b=>Aj co Aa Ae 1 (lS c d a) (Ac [2,3,4] pY) nl nH hm b fun r g=>fun _ hm b=>sq (Aj co Aa Ae 1 (lN c d a) (Ac [2,3,4,7] pY) nl nH hm b fun r g=>fun _ hm b=>bk 0 (lo (AE (ZrG co c d a) nH hm b (fun _ hm=>Ax co Aa Ae (ld a) hm b fun r g=>id))))) (hB:=fun y=>⟨.inl (Aw _ _),rfl,trivial⟩)
abbrev LK:List (Af×Bool):=[((1,1),false),((1,10),true)]
abbrev LH(a:Scm):Af×Blk:=kk 1 26 3 (cD (Au a))
abbrev Sd:List Bool→AV:=fun y=>vL AX y
def tX(b:Scm):Bool×Nat×List Bool→St:=fun(c,v2,a)=>Ad [pp 1,(3,.ref (1,10) 0 0 a.length),(4,vB c),(5,vN v2)] [(LH b),kk 10 4 1 (Ab AX a)]
def wP:List Bool→Nat×St:=fun a=>(0,Ad [(3,.ref (1,10) 0 0 a.length)] [kk 10 4 1 (Ab AX a)])
def fp(b:Scm)(v2:Nat):Bool×Nat×List Bool→St:=fun(v4,c,a)=>Ad [pp 1,(3,.ref (1,10) 0 0 a.length),(4,vB v4),(5,vN v2),(6,vN c)] [(LH b),kk 10 4 1 (Ab AX a)]
def xg(c:Scm)(v2:Nat):Bool×List Bool→Nat×St:=fun(b,a)=>(2,Ad [pp 1,(3,.ref (1,10) 0 0 a.length),(4,vB b),(5,vN v2)] [(LH c),kk 10 4 1 (Ab AX a)])
def gu(c:Scm)(v2:Nat)(v4:Bool)(b:Nat)(a:List Bool):PT 0 (Lv (Bool×Nat×List Bool) (Bool×List Bool) (List Bool)):=wg<|vz (An c.messages)<|br (decide ((b:Int)<(c.messages.length:Int))) (vs (ir b a.length 1)<|ca a b fun d=>wg<|wg<|A0 (!d) c.messages (b:Int) fun e=>J0 (!d) Tryz.prog 64 [.agg ((Au c).map .d),.agg ((AU e).map .d),.ref (1,10) 0 0 a.length] [(1,10)] [kk 10 4 1 (Ab AX a)] (UT c e a) (fun y=>vB y) fun f=>br ((!d)&&(!f)) (vs (ir b a.length 1)<|vs (st a b true)<|rn 3 10 a.length (a.set b true)<|vw .sep<|vs (wa b 1)<|vz (fl (a.set b true))<|ln (fp c v2) (true,b+1,a.set b true)) (vs (wa b 1)<|vz (fl a)<|ln (fp c v2) (v4,b+1,a))) (vz (fl a)<|Ai (xg c v2) (v4,a))
def S7(a:Scm)(v2:Nat):Bool×Nat×List Bool→Option (Lv (Bool×Nat×List Bool) (Bool×List Bool) (List Bool)):=fun(v4,c,b)=>(gu a v2 v4 c b).m
def eO(c:Scm)(v2:Nat)(b:Bool)(a:List Bool):PT 0 (Lv (Bool×Nat×List Bool) (List Bool) (List Bool)):=vs (wa v2 1)<|vz (fl a)<|ln (tX c) (b,v2+1,a)
def a7(b:Scm)(v2:Nat)(a:List Bool):PT 0 (Lv (Bool×Nat×List Bool) (List Bool) (List Bool)):=vz (fl a)<|lc (Ad [pp 1,(3,.ref (1,10) 0 0 a.length),(4,vB false),(5,vN v2),(6,vI 0)] [(LH b),kk 10 4 1 (Ab AX a)]) ((Al (S7 b v2) Am (false,0,a)).bind (Sum.elim (fun(d,c)=>(eO b v2 d c).m) (fun z=>some (.rt z))))
def eB(b:Scm)(c:Bool)(v2:Nat)(a:List Bool):PT 0 (Lv (Bool×Nat×List Bool) (List Bool) (List Bool)):=wg<|vz (An b.messages)<|br (decide ((v2:Int)<(b.messages.length:Int))&&c) (vz (fl a)<|lc (Ad [pp 1,(3,.ref (1,10) 0 0 a.length),(5,vN v2)] [(LH b),kk 10 4 1 (Ab AX a)]) ((a7 b v2 a).m)) (vz (fl a)<|Ai (wP) a)
def Xo(a:Scm):Bool×Nat×List Bool→Option (Lv (Bool×Nat×List Bool) (List Bool) (List Bool)):=fun(c,v2,b)=>(eB a c v2 b).m
def bf(a:List Bool):PT 0 (List Bool):=vz (fr a)<|lr Sd nG a
def eN(a:Scm):PT 0 (List Bool):=vz (fl (List.replicate a.messages.length false))<|lc (Ad [pp 1,(3,.ref (1,10) 0 0 (List.replicate a.messages.length false).length),(4,vB true),(5,vI 0)] [(LH a),kk 10 4 1 (Ab AX (List.replicate a.messages.length false))]) ((Al (Xo a) Am (true,0,List.replicate a.messages.length false)).bind (Sum.elim (fun b=>(bf b).m) some))
def dE(a:Scm):PT 0 (List Bool):=wg<|vz (An a.messages)<|ms a.messages.length false [vB false] (by first|rfl|kernel_rfl)<|vz (fl (List.replicate a.messages.length false))<|lc (Ad [pp 1,(3,.ref (1,10) 0 0 (List.replicate a.messages.length false).length),(4,vB true)] [(LH a),kk 10 4 1 (Ab AX (List.replicate a.messages.length false))]) ((eN a).m)
def iS(a:Scm):Option (List Bool):=(dE a).m
theorem ZIx{C:Cx}(co:CO C 0)(a:Scm)(v2:Nat):KL Tryz.prog (AC tl) 48 C (pa [0,0,1,1,0,0,1,0,0,1,0,1,1,1] (AA Tryz.f37)) [.tmp 2] 0 (fp a v2) (xg a v2) Sd nG (S7 a v2):=fun(v4,h,b) _ hm Q c f e=>At co Aa Ae (gu a v2 v4 h b) (Ac [1,3,4,5,6] LK) (Ac [1,3,4,5] LK) f hm e fun r g=>⟨fun j=>fun d=>⟨fun y hy=>G9 (ZOT a d b) hy co g [kk 10 4 1 (Ab AX b)] [] (AG []) (fun i k l=>trivial) (fun H=>⟨fun _=>⟨rfl,AD (Aw _ _) (by kernel_rfl)⟩,by kernel_rfl,trivial⟩),fun m=>⟨id,id⟩⟩,id⟩
theorem ZJN{C:Cx}(co:CO C 0)(b:Scm):KL Tryz.prog (AC tl) 48 C (pa [0,0,1,0,1,1,1] (AA Tryz.f37)) [.tmp 2] 0 (tX b) (wP) Sd nG (Xo b):=fun(i,v2,h) _ hm Q f c a=>Aj co Aa Ae 1 (eB b i v2 h) (Ac [1,3,5] LK) (Ac [3] [((1,10),true)]) c hm a fun r g=>⟨fun _ hm a=>sq (bk 1 (Aj co Aa Ae 2 (a7 b v2 h) (Ac [1,3,4,5,6] LK) nl c hm a fun r g=>fun _ hm a=>bk 2 (lo (El (ZIx co b v2) c hm a (fun(e,d) hm=>At co Aa Ae (eO b v2 e d) (Ac [1,3,4,5] LK) nl c hm a fun r g=>id))))),id⟩
theorem ZUI(b:Scm):KC Tryz.prog 37 [.agg ((Au b).map .d)] (iS b) Sd:=AF Tryz.func37 Tryz.ntmps37 Aa [.tmp 2] fun C co y hm d a=>Aj co Aa Ae 3 (dE b) (Ac [1,3,4] LK) nl nH hm a fun r g=>fun _ hm a=>sq (Aj co Aa Ae 1 (eN b) (Ac [1,3,4,5] LK) nl nH hm a fun r g=>fun _ hm a=>bk 0 (lo (AE (ZJN co b) nH hm a (fun c hm=>Ax co Aa Ae (bf c) hm a fun r g=>id))))
abbrev xO:Bool→AV:=fun y=>vB y
def sD(a:Int):PT 0 (Bool):=lr xO nG (decide ((97:Int)≤a)&&decide (a≤(122:Int)))
def yQ(a:Int):Option (Bool):=(sD a).m
theorem vR(a:Int):KC Tryz.prog 135 [.d (.int .u8 a)] (yQ a) xO:=AF Tryz.func135 Tryz.ntmps135 Aa [.tmp 2] fun C co y hm b c=>Ax co Aa Ae (sD a) hm c fun r g=>id
abbrev xX:Bool→AV:=fun y=>vB y
def sJ(a:Int):PT 0 (Bool):=lr xX nG (decide ((65:Int)≤a)&&decide (a≤(90:Int)))
def yO(a:Int):Option (Bool):=(sJ a).m
theorem uM(a:Int):KC Tryz.prog 136 [.d (.int .u8 a)] (yO a) xX:=AF Tryz.func136 Tryz.ntmps136 Aa [.tmp 2] fun C co y hm b c=>Ax co Aa Ae (sJ a) hm c fun r g=>id
abbrev Pc:Bool→AV:=fun y=>vB y
def sS(a:ByteArray):Nat→St:=fun b=>Ad [(0,vS a),(3,vN b)] []
def rp:Unit→Nat×St:=fun _=>(0,Ad [] [])
def lW(a:ByteArray)(b:Nat):PT 0 (Lv (Nat) (Unit) (Bool)):=vz (BF a.size)<|br (decide ((b:Int)<(a.size:Int))) (ib a b fun h=>cl (vR (h.toNat:Int)) fun d=>Ge (!d) a (b:Int) fun i=>AO (!d) (uM (i.toNat:Int)) fun f=>Ge ((!d)&&(!f)) a (b:Int) fun c=>Ge (((!d)&&(!f))&&(!decide ((c.toNat:Int)=(95:Int)))) a (b:Int) fun e=>Ge ((((!d)&&(!f))&&(!decide ((c.toNat:Int)=(95:Int))))&&(!(decide ((e.toNat:Int)<(48:Int))))) a (b:Int) fun g=>br ((((!d)&&(!f))&&(!decide ((c.toNat:Int)=(95:Int))))&&(decide ((e.toNat:Int)<(48:Int))||decide ((57:Int)<(g.toNat:Int)))) (Ay Pc nG false) (vs (wa b 1)<|ln (sS a) (b+1))) (Ai (rp) ())
def Wm(a:ByteArray):Nat→Option (Lv (Nat) (Unit) (Bool)):=fun b=>(lW a b).m
def oq:PT 0 (Bool):=lr Pc nG true
def oG(a:ByteArray):PT 0 (Bool):=lc (Ad [(0,vS a),(3,vI 1)] []) ((Al (Wm a) Am 1).bind (Sum.elim (fun _=>(oq).m) some))
def mg(a:ByteArray):PT 0 (Bool):=vz (BF a.size)<|vy (!(decide ((a.size:Int)=(0:Int)))) (BF a.size)<|Ge (!(decide ((a.size:Int)=(0:Int))||decide ((40:Int)<(a.size:Int)))) a 0 fun c=>AO (!(decide ((a.size:Int)=(0:Int))||decide ((40:Int)<(a.size:Int)))) (vR (c.toNat:Int)) fun b=>Ge ((!(decide ((a.size:Int)=(0:Int))||decide ((40:Int)<(a.size:Int))))&&(!b)) a 0 fun d=>AO ((!(decide ((a.size:Int)=(0:Int))||decide ((40:Int)<(a.size:Int))))&&(!b)) (uM (d.toNat:Int)) fun e=>br ((decide ((a.size:Int)=(0:Int))||decide ((40:Int)<(a.size:Int)))||((!b)&&(!e))) (lr Pc nG false) (lc (Ad [(0,vS a)] []) ((oG a).m))
def iW(a:ByteArray):Option (Bool):=(mg a).m
theorem ZAa{C:Cx}(co:CO C 0)(a:ByteArray):KL Tryz.prog (AC tl) 60 C (pa [0,0,1,0,1,1] (AA Tryz.f101)) [.tmp 2] 0 (sS a) (rp) Pc nG (Wm a):=fun i _ hm Q b h f=>At co Aa Ae (lW a i) (AK [0,3]) nl h hm f fun r g=>⟨fun j=>fun l=>fun k=>fun m=>fun c=>fun d=>fun e=>⟨id,id⟩,id⟩
theorem ej(b:ByteArray):KC Tryz.prog 101 [vS b] (iW b) Pc:=AF Tryz.func101 Tryz.ntmps101 Aa [.tmp 2] fun C co y hm c a=>Aj co Aa Ae 2 (mg b) (AK [0]) nl nH hm a fun r g=>fun d=>fun f=>fun e=>fun h=>⟨id,fun _ hm a=>sq (Aj co Aa Ae 1 (oG b) (AK [0,3]) nl nH hm a fun r g=>fun _ hm a=>bk 0 (lo (AE (ZAa co b) nH hm a (fun _ hm=>Ax co Aa Ae (oq) hm a fun r g=>id))))⟩
abbrev Of:Bool→AV:=fun y=>vB y
def bn(a:ByteArray):ByteArray×Nat→St:=fun(b,v2)=>Ad [(0,vS a),(3,vS b),(4,vN v2)] []
def wN:ByteArray→Nat×St:=fun a=>(0,Ad [(3,vS a)] [])
def dA(a:ByteArray)(b:ByteArray)(v2:Nat):PT 0 (Lv (ByteArray×Nat) (ByteArray) (Bool)):=vz (BF a.size)<|br (decide ((v2:Int)<(a.size:Int))) (ib a v2 fun c=>br (!decide ((c.toNat:Int)=(46:Int))) (vs (wa v2 1)<|ss a (.nt v2) (.nt (v2+1)) fun d=>ad b d fun e=>vs (wa v2 1)<|ln (bn a) (e,v2+1)) (cl (ej b) fun f=>br (!f) (Ay Of nG false) (vs (wa v2 1)<|ln (bn a) (⟨#[]⟩,v2+1)))) (Ai (wN) b)
def Ty(a:ByteArray):ByteArray×Nat→Option (Lv (ByteArray×Nat) (ByteArray) (Bool)):=fun(b,v2)=>(dA a b v2).m
def dl(a:ByteArray):PT 0 (Bool):=cl (ej a) fun b=>lr Of nG b
def cX(a:ByteArray):PT 0 (Bool):=lc (Ad [(0,vS a),(3,vS ⟨#[]⟩),(4,vI 0)] []) ((Al (Ty a) Am (⟨#[]⟩,0)).bind (Sum.elim (fun b=>(dl b).m) some))
def aY(a:ByteArray):PT 0 (Bool):=vz (BF a.size)<|br (decide ((120:Int)<(a.size:Int))) (lr Of nG false) (lc (Ad [(0,vS a),(3,vS ⟨#[]⟩)] []) ((cX a).m))
def iU(a:ByteArray):Option (Bool):=(aY a).m
theorem ZJy{C:Cx}(co:CO C 0)(a:ByteArray):KL Tryz.prog (AC tl) 30 C (pa [0,0,1,0,1,1,1] (AA Tryz.f98)) [.tmp 2] 0 (bn a) (wN) Of nG (Ty a):=fun(e,v2) _ hm Q b d c=>At co Aa Ae (dA a e v2) (AK [0,3,4]) (AK [3]) d hm c fun r g=>⟨fun f=>⟨fun h=>fun i=>id,fun j=>⟨id,id⟩⟩,id⟩
theorem ZVb(b:ByteArray):KC Tryz.prog 98 [vS b] (iU b) Of:=AF Tryz.func98 Tryz.ntmps98 Aa [.tmp 2] fun C co y hm c a=>Aj co Aa Ae 3 (aY b) (AK [0,3]) nl nH hm a fun r g=>⟨id,fun _ hm a=>sq (Aj co Aa Ae 1 (cX b) (AK [0,3,4]) nl nH hm a fun r g=>fun _ hm a=>bk 0 (lo (AE (ZJy co b) nH hm a (fun d hm=>Ax co Aa Ae (dl d) hm a fun r g=>fun e=>id))))⟩
abbrev Sv:ByteArray×ByteArray→AV:=fun y=>.tup [vS y.1,vS y.2]
def wH(a:ByteArray):Int→St:=fun b=>Ad [(0,vS a),(4,vI b)] []
def tD(a:ByteArray):Unit→Nat×St:=fun _=>(0,Ad [(0,vS a)] [])
def b5(b:ByteArray)(a:Int):PT 0 (Lv (Int) (Unit) (ByteArray×ByteArray)):=br (decide ((0:Int)≤a)) (R5 b a fun c=>br (decide ((c.toNat:Int)=(46:Int))) (ss b .no (.it a) fun d=>vs (wi (a+1))<|ss b (.it (a+1)) .no fun e=>Ay Sv nG (d,e)) (vs (wi (a-1))<|ln (wH b) (a-1))) (Ai (tD b) ())
def XE(a:ByteArray):Int→Option (Lv (Int) (Unit) (ByteArray×ByteArray)):=fun b=>(b5 a b).m
def dY(a:ByteArray):PT 0 (ByteArray×ByteArray):=lr Sv nG (⟨#[]⟩,a)
def cR(a:ByteArray):PT 0 (ByteArray×ByteArray):=vz (BF a.size)<|vs (wi ((a.size:Int)-1))<|lc (Ad [(0,vS a),(4,vI ((a.size:Int)-1))] []) ((Al (XE a) Am ((a.size:Int)-1)).bind (Sum.elim (fun _=>(dY a).m) some))
def fH(a:ByteArray):PT 0 (ByteArray×ByteArray):=lc (Ad [(0,vS a)] []) ((cR a).m)
def jB(a:ByteArray):Option (ByteArray×ByteArray):=(fH a).m
theorem ZFP{C:Cx}(co:CO C 0)(a:ByteArray):KL Tryz.prog (AC tl) 24 C (pa [0,0,1,0,1] (AA Tryz.f99)) [.tmp 2,.tmp 3] 0 (wH a) (tD a) Sv nG (XE a):=fun e _ hm Q b d c=>At co Aa Ae (b5 a e) (AK [0,4]) (AK [0]) d hm c fun r g=>⟨fun f=>⟨fun h=>fun i=>id,id⟩,id⟩
theorem ZUY(b:ByteArray):KC Tryz.prog 99 [vS b] (jB b) Sv:=AF Tryz.func99 Tryz.ntmps99 Aa [.tmp 2,.tmp 3] fun C co y hm c a=>Aj co Aa Ae 1 (fH b) (AK [0]) nl nH hm a fun r g=>fun _ hm a=>sq (Aj co Aa Ae 1 (cR b) (AK [0,4]) nl nH hm a fun r g=>fun _ hm a=>bk 0 (lo (AE (ZFP co b) nH hm a (fun _ hm=>Ax co Aa Ae (dY b) hm a fun r g=>id))))
abbrev Bn:Bool→AV:=fun y=>vB y
def mS(a:ByteArray):PT 0 (Bool):=br (decide (a=(⟨#[109,101,115,115,97,103,101]⟩:ByteArray))) (br (decide (a=(⟨#[109,101,115,115,97,103,101]⟩:ByteArray))) (lr Bn nG true) (lr Bn nG false)) (br (decide (a=(⟨#[101,110,117,109]⟩:ByteArray))) (br (decide (a=(⟨#[101,110,117,109]⟩:ByteArray))) (lr Bn nG true) (lr Bn nG false)) (br (decide (a=(⟨#[115,101,114,118,105,99,101]⟩:ByteArray))) (br (decide (a=(⟨#[115,101,114,118,105,99,101]⟩:ByteArray))) (lr Bn nG true) (lr Bn nG false)) (br (decide (a=(⟨#[117,110,105,111,110]⟩:ByteArray))) (br (decide (a=(⟨#[117,110,105,111,110]⟩:ByteArray))) (lr Bn nG true) (lr Bn nG false)) (br (decide (a=(⟨#[109,97,112]⟩:ByteArray))) (br (decide (a=(⟨#[109,97,112]⟩:ByteArray))) (lr Bn nG true) (lr Bn nG false)) (br (decide (a=(⟨#[108,105,115,116]⟩:ByteArray))) (br (decide (a=(⟨#[108,105,115,116]⟩:ByteArray))) (lr Bn nG true) (lr Bn nG false)) (br (decide (a=(⟨#[114,101,113,117,105,114,101,100]⟩:ByteArray))) (br (decide (a=(⟨#[114,101,113,117,105,114,101,100]⟩:ByteArray))) (lr Bn nG true) (lr Bn nG false)) (br (decide (a=(⟨#[111,112,116,105,111,110,97,108]⟩:ByteArray))) (br (decide (a=(⟨#[111,112,116,105,111,110,97,108]⟩:ByteArray))) (lr Bn nG true) (lr Bn nG false)) (br (decide (a=(⟨#[112,108,97,105,110]⟩:ByteArray))) (br (decide (a=(⟨#[112,108,97,105,110]⟩:ByteArray))) (lr Bn nG true) (lr Bn nG false)) (br (decide (a=(⟨#[100,101,102,97,117,108,116]⟩:ByteArray))) (br (decide (a=(⟨#[100,101,102,97,117,108,116]⟩:ByteArray))) (lr Bn nG true) (lr Bn nG false)) (br (decide (a=(⟨#[114,101,115,101,114,118,101,100]⟩:ByteArray))) (br (decide (a=(⟨#[114,101,115,101,114,118,101,100]⟩:ByteArray))) (lr Bn nG true) (lr Bn nG false)) (br (decide (a=(⟨#[105,109,112,111,114,116]⟩:ByteArray))) (br (decide (a=(⟨#[105,109,112,111,114,116]⟩:ByteArray))) (lr Bn nG true) (lr Bn nG false)) (br (decide (a=(⟨#[115,112,97,99,101]⟩:ByteArray))) (br (decide (a=(⟨#[115,112,97,99,101]⟩:ByteArray))) (lr Bn nG true) (lr Bn nG false)) (br (decide (a=(⟨#[114,112,99]⟩:ByteArray))) (br (decide (a=(⟨#[114,112,99]⟩:ByteArray))) (lr Bn nG true) (lr Bn nG false)) (br (decide (a=(⟨#[115,116,114,101,97,109]⟩:ByteArray))) (br (decide (a=(⟨#[115,116,114,101,97,109]⟩:ByteArray))) (lr Bn nG true) (lr Bn nG false)) (br (decide (a=(⟨#[114,101,116,117,114,110,115]⟩:ByteArray))) (br (decide (a=(⟨#[114,101,116,117,114,110,115]⟩:ByteArray))) (lr Bn nG true) (lr Bn nG false)) (br (decide (a=(⟨#[111,112,101,110]⟩:ByteArray))) (br (decide (a=(⟨#[111,112,101,110]⟩:ByteArray))) (lr Bn nG true) (lr Bn nG false)) (br (decide (a=(⟨#[116,114,117,101]⟩:ByteArray))) (br (decide (a=(⟨#[116,114,117,101]⟩:ByteArray))) (lr Bn nG true) (lr Bn nG false)) (br (decide (a=(⟨#[102,97,108,115,101]⟩:ByteArray))) (br (decide (a=(⟨#[102,97,108,115,101]⟩:ByteArray))) (lr Bn nG true) (lr Bn nG false)) (br (decide (a=(⟨#[110,97,110]⟩:ByteArray))) (br (decide (a=(⟨#[110,97,110]⟩:ByteArray))) (lr Bn nG true) (lr Bn nG false)) (br (decide (a=(⟨#[105,110,102]⟩:ByteArray))) (lr Bn nG true) (lr Bn nG false)))))))))))))))))))))
def iT(a:ByteArray):Option (Bool):=(mS a).m
theorem xq(a:ByteArray):KC Tryz.prog 100 [vS a] (iT a) Bn:=AF Tryz.func100 Tryz.ntmps100 Aa [.tmp 2] fun C co y hm b c=>Ax co Aa Ae (mS a) hm c fun r g=>⟨⟨id,id⟩,⟨⟨id,id⟩,⟨⟨id,id⟩,⟨⟨id,id⟩,⟨⟨id,id⟩,⟨⟨id,id⟩,⟨⟨id,id⟩,⟨⟨id,id⟩,⟨⟨id,id⟩,⟨⟨id,id⟩,⟨⟨id,id⟩,⟨⟨id,id⟩,⟨⟨id,id⟩,⟨⟨id,id⟩,⟨⟨id,id⟩,⟨⟨id,id⟩,⟨⟨id,id⟩,⟨⟨id,id⟩,⟨⟨id,id⟩,⟨⟨id,id⟩,⟨id,id⟩⟩⟩⟩⟩⟩⟩⟩⟩⟩⟩⟩⟩⟩⟩⟩⟩⟩⟩⟩⟩
abbrev Oe:Bool→AV:=fun y=>vB y
def tP:ByteArray×Nat→St:=fun(v2,v3)=>Ad [(0,vS v2),(3,vN v3)] []
def vH:Unit→Nat×St:=fun _=>(0,Ad [] [])
def eK(v2:ByteArray)(v3:Nat):PT 0 (Lv (ByteArray×Nat) (Unit) (Bool)):=br (decide ((v3:Int)<(120:Int))&&(!decide (v2=(⟨#[]⟩:ByteArray)))) (cl (ZUY v2) fun a=>cl (xq a.2) fun b=>br b (Ay Oe nG false) (vs (wa v3 1)<|ln (tP) (a.1,v3+1))) (Ai (vH) ())
def Xb:ByteArray×Nat→Option (Lv (ByteArray×Nat) (Unit) (Bool)):=fun(v2,v3)=>(eK v2 v3).m
def gg:PT 0 (Bool):=lr Oe nG true
def a6(a:ByteArray):PT 0 (Bool):=lc (Ad [(0,vS a),(3,vI 0)] []) ((Al (Xb) Am (a,0)).bind (Sum.elim (fun _=>(gg).m) some))
def a5(a:ByteArray):PT 0 (Bool):=cl (ZVb a) fun b=>br (!b) (lr Oe nG false) (lc (Ad [(0,vS a)] []) ((a6 a).m))
def jx(a:ByteArray):Option (Bool):=(a5 a).m
theorem ZEv{C:Cx}(co:CO C 0):KL Tryz.prog (AC tl) 25 C (pa [0,0,1,0,1,1] (AA Tryz.f65)) [.tmp 2] 0 (tP) (vH) Oe nG (Xb):=fun(v2,v3) _ hm Q a c b=>At co Aa Ae (eK v2 v3) (AK [0,3]) nl c hm b fun r g=>⟨fun d=>fun e=>⟨id,id⟩,id⟩
theorem ic(b:ByteArray):KC Tryz.prog 65 [vS b] (jx b) Oe:=AF Tryz.func65 Tryz.ntmps65 Aa [.tmp 2] fun C co y hm c a=>Aj co Aa Ae 2 (a5 b) (AK [0]) nl nH hm a fun r g=>fun d=>⟨id,fun _ hm a=>sq (Aj co Aa Ae 1 (a6 b) (AK [0,3]) nl nH hm a fun r g=>fun _ hm a=>bk 0 (lo (AE (ZEv co) nH hm a (fun _ hm=>Ax co Aa Ae (gg) hm a fun r g=>id))))⟩
abbrev qv:Bool→AV:=fun y=>vB y
def dH(a:ByteArray):PT 0 (Bool):=cl (ej a) fun b=>AO b (xq a) fun c=>lr qv nG (b&&(!c))
def jc(a:ByteArray):Option (Bool):=(dH a).m
theorem T1(a:ByteArray):KC Tryz.prog 66 [vS a] (jc a) qv:=AF Tryz.func66 Tryz.ntmps66 Aa [.tmp 2] fun C co y hm b c=>Ax co Aa Ae (dH a) hm c fun r g=>fun d=>fun e=>id
abbrev Sq:Bool→AV:=fun y=>vB y
def wY(a:List Spn)(b:Int):Nat→St:=fun c=>Ad [(0,vL CE a),(1,vI b),(5,vN c)] []
def wM:Unit→Nat×St:=fun _=>(0,Ad [] [])
def bU(a:List Spn)(c:Int)(b:Nat):PT 0 (Lv (Nat) (Unit) (Bool)):=vz (An a)<|br (decide ((b:Int)<(a.length:Int))) (ix a b fun d=>A0 (decide (d.lo≤c)) a (b:Int) fun e=>br (decide (d.lo≤c)&&decide (c≤e.hi)) (Ay Sq nG true) (vs (wa b 1)<|ln (wY a c) (b+1))) (Ai (wM) ())
def XW(a:List Spn)(b:Int):Nat→Option (Lv (Nat) (Unit) (Bool)):=fun c=>(bU a b c).m
def dJ:PT 0 (Bool):=lr Sq nG false
def cJ(a:List Spn)(b:Int):PT 0 (Bool):=lc (Ad [(0,vL CE a),(1,vI b),(5,vI 0)] []) ((Al (XW a b) Am 0).bind (Sum.elim (fun _=>(dJ).m) some))
def fh(a:List Spn)(b:Int):PT 0 (Bool):=lc (Ad [(0,vL CE a),(1,vI b)] []) ((cJ a b).m)
def i3(a:List Spn)(b:Int):Option (Bool):=(fh a b).m
theorem ZDX{C:Cx}(co:CO C 0)(a:List Spn)(b:Int):KL Tryz.prog (AC tl) 28 C (pa [0,0,1,0,1] (AA Tryz.f67)) [.tmp 4] 0 (wY a b) (wM) Sq nG (XW a b):=fun f _ hm Q c e d=>At co Aa Ae (bU a b f) (AK [0,1,5]) nl e hm d fun r g=>⟨fun h=>fun i=>⟨id,id⟩,id⟩
theorem xS(b:List Spn)(c:Int):KC Tryz.prog 67 [vL CE b,vI c] (i3 b c) Sq:=AF Tryz.func67 Tryz.ntmps67 Aa [.tmp 4] fun C co y hm d a=>Aj co Aa Ae 1 (fh b c) (AK [0,1]) nl nH hm a fun r g=>fun _ hm a=>sq (Aj co Aa Ae 1 (cJ b c) (AK [0,1,5]) nl nH hm a fun r g=>fun _ hm a=>bk 0 (lo (AE (ZDX co b c) nH hm a (fun _ hm=>Ax co Aa Ae (dJ) hm a fun r g=>id))))
abbrev Er:Bool→AV:=fun y=>vB y
def bM(a:Fld):PT 0 (Bool):=wg<|br (!decide (a.card=(5:Int))) (wg<|wg<|wg<|lr Er nG ((decide ((1:Int)≤a.card)&&decide (a.card≤(4:Int)))&&decide (a.key=(0:Int)))) (wg<|br (decide (a.key=(1:Int))) (br (decide (a.key=(1:Int))) (lr Er nG true) (lr Er nG false)) (br (decide (a.key=(2:Int))) (br (decide (a.key=(2:Int))) (lr Er nG true) (lr Er nG false)) (br (decide (a.key=(3:Int))) (br (decide (a.key=(3:Int))) (lr Er nG true) (lr Er nG false)) (br (decide (a.key=(4:Int))) (br (decide (a.key=(4:Int))) (lr Er nG true) (lr Er nG false)) (br (decide (a.key=(5:Int))) (br (decide (a.key=(5:Int))) (lr Er nG true) (lr Er nG false)) (br (decide (a.key=(7:Int))) (lr Er nG true) (lr Er nG false)))))))
def jj(a:Fld):Option (Bool):=(bM a).m
theorem ZVG(a:Fld):KC Tryz.prog 68 [.agg ((Az a).map .d)] (jj a) Er:=AF Tryz.func68 Tryz.ntmps68 Aa [.tmp 2] fun C co y hm b c=>Ax co Aa Ae (bM a) hm c fun r g=>⟨id,⟨⟨id,id⟩,⟨⟨id,id⟩,⟨⟨id,id⟩,⟨⟨id,id⟩,⟨⟨id,id⟩,⟨id,id⟩⟩⟩⟩⟩⟩⟩
abbrev pX(a:Scm):Af×Blk:=kk 2 26 3 (cD (Au a))
abbrev T7:Int→AV:=fun y=>vI y
def tt(a:Scm)(b:ByteArray):Nat→St:=fun c=>Ad [(1,vS b),pp 2,(5,vN c)] [(pX a)]
def sV:Unit→Nat×St:=fun _=>(0,Ad [] [])
def og(b:Scm)(c:ByteArray)(a:Nat):PT 0 (Lv (Nat) (Unit) (Int)):=wg<|vz (An b.enums)<|br (decide ((a:Int)<(b.enums.length:Int))) (wg<|ix b.enums a fun d=>br (decide (d.name=c)) (Ay T7 nG (a:Int)) (vs (wa a 1)<|ln (tt b c) (a+1))) (Ai (sV) ())
def WU(a:Scm)(b:ByteArray):Nat→Option (Lv (Nat) (Unit) (Int)):=fun c=>(og a b c).m
def lY:PT 0 (Int):=lr T7 nG (-1)
def pj(a:Scm)(b:ByteArray):PT 0 (Int):=lc (Ad [(1,vS b),pp 2,(5,vI 0)] [(pX a)]) ((Al (WU a b) Am 0).bind (Sum.elim (fun _=>(lY).m) some))
def ma(a:Scm)(b:ByteArray):PT 0 (Int):=lc (Ad [(1,vS b),pp 2] [(pX a)]) ((pj a b).m)
def i7(a:Scm)(b:ByteArray):Option (Int):=(ma a b).m
theorem ZAg{C:Cx}(co:CO C 0)(a:Scm)(b:ByteArray):KL Tryz.prog (AC tl) 22 C (pa [0,0,1,0,1] (AA Tryz.f102)) [.tmp 4] 0 (tt a b) (sV) T7 nG (WU a b):=fun f _ hm Q c e d=>At co Aa Ae (og a b f) (Ac [1,2,5] EQ) nl e hm d fun r g=>⟨fun h=>⟨id,id⟩,id⟩
theorem vD(b:Scm)(c:ByteArray):KC Tryz.prog 102 [.agg ((Au b).map .d),vS c] (i7 b c) T7:=AF Tryz.func102 Tryz.ntmps102 Aa [.tmp 4] fun C co y hm d a=>Aj co Aa Ae 1 (ma b c) (Ac [1,2] EQ) nl nH hm a fun r g=>fun _ hm a=>sq (Aj co Aa Ae 1 (pj b c) (Ac [1,2,5] EQ) nl nH hm a fun r g=>fun _ hm a=>bk 0 (lo (AE (ZAg co b c) nH hm a (fun _ hm=>Ax co Aa Ae (lY) hm a fun r g=>id))))
abbrev Sr:Bool→AV:=fun y=>vB y
def eQ(b:Scm)(a:Fld):PT 0 (Bool):=wg<|br (decide (a.type.kind=(9:Int))) (wg<|wg<|cl (vD b a.type.name) fun c=>lr Sr nG (decide ((0:Int)≤c))) (br (decide (a.type.kind=(10:Int))) (wg<|wg<|cl (OS b a.type.name) fun d=>wg<|lr Sr nG (decide ((0:Int)≤d)&&(!decide (a.card=(3:Int))))) (wg<|wg<|wg<|lr Sr nG ((decide ((1:Int)≤a.type.kind)&&decide (a.type.kind≤(8:Int)))&&decide (a.type.name=(⟨#[]⟩:ByteArray)))))
def jr(a:Scm)(b:Fld):Option (Bool):=(eQ a b).m
theorem ZUH(a:Scm)(b:Fld):KC Tryz.prog 69 [.agg ((Au a).map .d),.agg ((Az b).map .d)] (jr a b) Sr:=AF Tryz.func69 Tryz.ntmps69 Aa [.tmp 4] fun C co y hm c d=>Ax co Aa Ae (eQ a b) hm d fun r g=>⟨fun e=>id,⟨fun f=>id,id⟩⟩
abbrev LM:List (Af×Bool):=[((1,2),false),((1,5),false)]
abbrev Zn(a:Msg):Af×Blk:=kk 2 45 5 (cD (AU a))
abbrev UC(a:Fld):Af×Blk:=kk 5 51 16 (cD (Az a))
abbrev LX:Bool→AV:=fun y=>vB y
def bd(b:Msg)(c:Int)(a:Fld):Bool×Nat→St:=fun(v3,v4)=>Ad [(1,vI c),pp 2,pp 5,(6,vB v3),(7,vN v4)] [(Zn b),(UC a)]
def ws(b:Msg)(c:Int)(a:Fld):Bool→Nat×St:=fun d=>(0,Ad [(1,vI c),pp 2,pp 5,(6,vB d)] [(Zn b),(UC a)])
def fb(a:Msg)(c:Int)(b:Fld)(v3:Bool)(v4:Nat):PT 0 (Lv (Bool×Nat) (Bool) (Bool)):=wg<|vz (An a.fields)<|br (decide ((v4:Int)<(a.fields.length:Int))) (wg<|ix a.fields v4 fun d=>wg<|br (decide (d.name=b.union)) (Ay LX nG false) (wg<|A0 (decide ((v4:Int)<c)) a.fields (v4:Int) fun e=>wg<|br (decide ((v4:Int)<c)&&decide (e.union=b.union)) (vs (wa v4 1)<|ln (bd a c b) (true,v4+1)) (vs (wa v4 1)<|ln (bd a c b) (v3,v4+1)))) (Ai (ws a c b) v3)
def Xv(b:Msg)(c:Int)(a:Fld):Bool×Nat→Option (Lv (Bool×Nat) (Bool) (Bool)):=fun(v3,v4)=>(fb b c a v3 v4).m
def fN(e:Msg)(b:Int)(c:Fld)(a:Bool):PT 0 (Bool):=wg<|vg (!(!a)) (wi (b-1))<|A0 (!(!a)) e.fields (b-1) fun d=>wg<|lr LX nG ((!a)||decide (d.union=c.union))
def cQ(b:Msg)(c:Int)(a:Fld):PT 0 (Bool):=lc (Ad [(1,vI c),pp 2,pp 5,(6,vB false),(7,vI 0)] [(Zn b),(UC a)]) ((Al (Xv b c a) Am (false,0)).bind (Sum.elim (fun d=>(fN b c a d).m) some))
def cH(b:Msg)(c:Int):PT 0 (Bool):=wg<|Cq b.fields c fun a=>wg<|wg<|br (decide (a.union=(⟨#[]⟩:ByteArray))) (lr LX nG true) (wg<|wg<|AO (!(!decide (a.card=(2:Int)))) (T1 a.union) fun d=>br ((!decide (a.card=(2:Int)))||(!d)) (lr LX nG false) (lc (Ad [(1,vI c),pp 2,pp 5,(6,vB false)] [(Zn b),(UC a)]) ((cQ b c a).m)))
def jy(a:Msg)(b:Int):Option (Bool):=(cH a b).m
theorem ZEm{C:Cx}(co:CO C 0)(b:Msg)(c:Int)(a:Fld):KL Tryz.prog (AC tl) 69 C (pa [0,0,1,0,1,1,1,1,1] (AA Tryz.f70)) [.tmp 4] 0 (bd b c a) (ws b c a) LX nG (Xv b c a):=fun(v3,v4) _ hm Q d f e=>At co Aa Ae (fb b c a v3 v4) (Ac [1,2,5,6,7] LM) (Ac [1,2,5,6] LM) f hm e fun r g=>⟨fun h=>⟨id,fun i=>⟨id,id⟩⟩,id⟩
theorem ZUu(b:Msg)(c:Int):KC Tryz.prog 70 [.agg ((AU b).map .d),vI c] (jy b c) LX:=AF Tryz.func70 Tryz.ntmps70 Aa [.tmp 4] fun C co y hm e a=>Aj co Aa Ae 5 (cH b c) (Ac [1,2,5,6] LM) nl nH hm a fun r g=>fun d=>⟨id,fun i=>⟨id,fun _ hm a=>sq (Aj co Aa Ae 1 (cQ b c d) (Ac [1,2,5,6,7] LM) nl nH hm a fun r g=>fun _ hm a=>bk 0 (lo (AE (ZEm co b c d) nH hm a (fun f hm=>Ax co Aa Ae (fN b c d f) hm a fun r g=>fun h=>id))))⟩⟩
abbrev Mm:Int→AV:=fun y=>vI y
def WY(a:Int):PT 0 (Int):=rem .u64 a 9223372036854775808<|br (decide ((9218868437227405312:Int)<(Jd .u64 a 9223372036854775808))) (lr Mm nG 0) (br (decide ((Jd .u64 a 9223372036854775808)=(9218868437227405312:Int))) (lr Mm nG 1) (br (decide ((Jd .u64 a 9223372036854775808)=(0:Int))) (lr Mm nG 2) (br (decide ((Jd .u64 a 9223372036854775808)<(4503599627370496:Int))) (lr Mm nG 3) (lr Mm nG 4))))
def Pn(a:Int):Option (Int):=(WY a).m
theorem xp(a:Int):KC Tryz.prog 113 [.d (.int .u64 a)] (Pn a) Mm:=AF Tryz.func113 Tryz.ntmps113 Aa [.tmp 2] fun C co y hm b c=>Ax co Aa Ae (WY a) hm c fun r g=>⟨id,⟨id,⟨id,⟨id,id⟩⟩⟩⟩
abbrev ZD:Val→AV:=fun y=>.agg ((Ag y).map .d)
def X1(a:Val):PT 0 (Val):=wg<|wg<|AO (decide (a.kind=(6:Int))) (xp a.bits) fun b=>br (decide (a.kind=(6:Int))&&decide (b=(0:Int))) (wg<|wg<|wg<|lr ZD nG (.mk a.kind 9221120237041090560 a.text a.list a.pairs a.slots a.raws:Val)) (wg<|wg<|lr ZD nG a)
def Po(a:Val):Option (Val):=(X1 a).m
theorem iR(a:Val):KC Tryz.prog 80 [.agg ((Ag a).map .d)] (Po a) ZD:=AF Tryz.func80 Tryz.ntmps80 Aa [.cell 2 33] fun C co y hm b c=>Ax co Aa Ae (X1 a) hm c fun r g=>fun d=>⟨id,id⟩
abbrev xR:Bool→AV:=fun y=>vB y
def pq(a:Val)(b:Val):PT 0 (Bool):=wg<|wg<|wg<|wg<|wg<|wg<|wg<|vy ((decide (a.kind=b.kind)&&decide (a.bits=b.bits))&&decide (a.text=b.text)) (An a.list)<|wg<|vy ((decide (a.kind=b.kind)&&decide (a.bits=b.bits))&&decide (a.text=b.text)) (An a.pairs)<|vg ((decide (a.kind=b.kind)&&decide (a.bits=b.bits))&&decide (a.text=b.text)) (wa a.list.length a.pairs.length)<|wg<|vy ((decide (a.kind=b.kind)&&decide (a.bits=b.bits))&&decide (a.text=b.text)) (An a.slots)<|vg ((decide (a.kind=b.kind)&&decide (a.bits=b.bits))&&decide (a.text=b.text)) (wa (a.list.length+a.pairs.length) a.slots.length)<|wg<|vy ((decide (a.kind=b.kind)&&decide (a.bits=b.bits))&&decide (a.text=b.text)) (An a.raws)<|vg ((decide (a.kind=b.kind)&&decide (a.bits=b.bits))&&decide (a.text=b.text)) (wa ((a.list.length+a.pairs.length)+a.slots.length) a.raws.length)<|wg<|vy ((decide (a.kind=b.kind)&&decide (a.bits=b.bits))&&decide (a.text=b.text)) (An b.list)<|vg ((decide (a.kind=b.kind)&&decide (a.bits=b.bits))&&decide (a.text=b.text)) (wa (((a.list.length+a.pairs.length)+a.slots.length)+a.raws.length) b.list.length)<|wg<|vy ((decide (a.kind=b.kind)&&decide (a.bits=b.bits))&&decide (a.text=b.text)) (An b.pairs)<|vg ((decide (a.kind=b.kind)&&decide (a.bits=b.bits))&&decide (a.text=b.text)) (wa ((((a.list.length+a.pairs.length)+a.slots.length)+a.raws.length)+b.list.length) b.pairs.length)<|wg<|vy ((decide (a.kind=b.kind)&&decide (a.bits=b.bits))&&decide (a.text=b.text)) (An b.slots)<|vg ((decide (a.kind=b.kind)&&decide (a.bits=b.bits))&&decide (a.text=b.text)) (wa (((((a.list.length+a.pairs.length)+a.slots.length)+a.raws.length)+b.list.length)+b.pairs.length) b.slots.length)<|wg<|vy ((decide (a.kind=b.kind)&&decide (a.bits=b.bits))&&decide (a.text=b.text)) (An b.raws)<|vg ((decide (a.kind=b.kind)&&decide (a.bits=b.bits))&&decide (a.text=b.text)) (wa ((((((a.list.length+a.pairs.length)+a.slots.length)+a.raws.length)+b.list.length)+b.pairs.length)+b.slots.length) b.raws.length)<|lr xR nG (((decide (a.kind=b.kind)&&decide (a.bits=b.bits))&&decide (a.text=b.text))&&decide (((((((((a.list.length+a.pairs.length)+a.slots.length)+a.raws.length)+b.list.length)+b.pairs.length)+b.slots.length)+b.raws.length:Nat):Int)=(0:Int)))
def jd(a:Val)(b:Val):Option (Bool):=(pq a b).m
theorem tL(a:Val)(b:Val):KC Tryz.prog 103 [.agg ((Ag a).map .d),.agg ((Ag b).map .d)] (jd a b) xR:=AF Tryz.func103 Tryz.ntmps103 Aa [.tmp 4] fun C co y hm c d=>Ax co Aa Ae (pq a b) hm d fun r g=>id
abbrev x6:Bool→AV:=fun y=>vB y
def WL(a:ByteArray)(b:Int)(d:Int)(f:Int):PT 0 (Bool):=vz (BF a.size)<|Ge (decide (b<(a.size:Int))) a b fun c=>Ge (decide (b<(a.size:Int))&&decide (d≤(c.toNat:Int))) a b fun e=>lr x6 nG ((decide (b<(a.size:Int))&&decide (d≤(c.toNat:Int)))&&decide ((e.toNat:Int)≤f))
def MC(a:ByteArray)(b:Int)(c:Int)(d:Int):Option (Bool):=(WL a b c d).m
theorem RD(a:ByteArray)(b:Int)(c:Int)(d:Int):KC Tryz.prog 158 [vS a,vI b,.d (.int .u8 c),.d (.int .u8 d)] (MC a b c d) x6:=AF Tryz.func158 Tryz.ntmps158 Aa [.tmp 8] fun C co y hm e f=>Ax co Aa Ae (WL a b c d) hm f fun r g=>fun h=>fun i=>id
abbrev TW:Bool→AV:=fun y=>vB y
def rS(a:ByteArray)(b:Int)(c:Int):Nat→St:=fun d=>Ad [(0,vS a),(1,vI b),(2,vI c),(7,vN d)] []
def tj:Unit→Nat×St:=fun _=>(0,Ad [] [])
def QI(c:ByteArray)(b:Int)(d:Int)(a:Nat):PT 0 (Lv (Nat) (Unit) (Bool)):=br (decide ((a:Int)<d)) (vs (wi (b+(a:Int)))<|cl (RD c (b+(a:Int)) 128 191) fun e=>br (!e) (Ay TW nG false) (vs (wa a 1)<|ln (rS c b d) (a+1))) (Ai (tj) ())
def Ln(a:ByteArray)(b:Int)(c:Int):Nat→Option (Lv (Nat) (Unit) (Bool)):=fun d=>(QI a b c d).m
def WC:PT 0 (Bool):=lr TW nG true
def Wr(a:ByteArray)(b:Int)(c:Int):PT 0 (Bool):=lc (Ad [(0,vS a),(1,vI b),(2,vI c),(7,vI 0)] []) ((Al (Ln a b c) Am 0).bind (Sum.elim (fun _=>(WC).m) some))
def Wn(a:ByteArray)(b:Int)(c:Int):PT 0 (Bool):=lc (Ad [(0,vS a),(1,vI b),(2,vI c)] []) ((Wr a b c).m)
def KW(a:ByteArray)(b:Int)(c:Int):Option (Bool):=(Wn a b c).m
theorem Zxl{C:Cx}(co:CO C 0)(a:ByteArray)(b:Int)(c:Int):KL Tryz.prog (AC tl) 19 C (pa [0,0,1,0,1] (AA Tryz.f157)) [.tmp 6] 0 (rS a b c) (tj) TW nG (Ln a b c):=fun h _ hm Q d f e=>At co Aa Ae (QI a b c h) (AK [0,1,2,7]) nl f hm e fun r g=>⟨fun i=>⟨id,id⟩,id⟩
theorem Ly(b:ByteArray)(c:Int)(d:Int):KC Tryz.prog 157 [vS b,vI c,vI d] (KW b c d) TW:=AF Tryz.func157 Tryz.ntmps157 Aa [.tmp 6] fun C co y hm e a=>Aj co Aa Ae 1 (Wn b c d) (AK [0,1,2]) nl nH hm a fun r g=>fun _ hm a=>sq (Aj co Aa Ae 1 (Wr b c d) (AK [0,1,2,7]) nl nH hm a fun r g=>fun _ hm a=>bk 0 (lo (AE (Zxl co b c d) nH hm a (fun _ hm=>Ax co Aa Ae (WC) hm a fun r g=>id))))
abbrev Hr:Int→AV:=fun y=>vI y
def Wf(c:ByteArray)(b:Int):PT 0 (Int):=R5 c b fun a=>br (decide ((a.toNat:Int)<(128:Int))) (lr Hr nG 1) (vg (decide ((194:Int)≤(a.toNat:Int))&&decide ((a.toNat:Int)≤(223:Int))) (wi (b+1))<|AO (decide ((194:Int)≤(a.toNat:Int))&&decide ((a.toNat:Int)≤(223:Int))) (Ly c (b+1) 1) fun j=>br ((decide ((194:Int)≤(a.toNat:Int))&&decide ((a.toNat:Int)≤(223:Int)))&&j) (lr Hr nG 2) (vg (decide ((a.toNat:Int)=(224:Int))) (wi (b+1))<|AO (decide ((a.toNat:Int)=(224:Int))) (RD c (b+1) 160 191) fun g=>vg (decide ((a.toNat:Int)=(224:Int))&&g) (wi (b+2))<|AO (decide ((a.toNat:Int)=(224:Int))&&g) (Ly c (b+2) 1) fun k=>br ((decide ((a.toNat:Int)=(224:Int))&&g)&&k) (lr Hr nG 3) (vg (decide ((a.toNat:Int)=(237:Int))) (wi (b+1))<|AO (decide ((a.toNat:Int)=(237:Int))) (RD c (b+1) 128 159) fun h=>vg (decide ((a.toNat:Int)=(237:Int))&&h) (wi (b+2))<|AO (decide ((a.toNat:Int)=(237:Int))&&h) (Ly c (b+2) 1) fun l=>br ((decide ((a.toNat:Int)=(237:Int))&&h)&&l) (lr Hr nG 3) (vg ((decide ((225:Int)≤(a.toNat:Int))&&decide ((a.toNat:Int)≤(239:Int)))&&(!decide ((a.toNat:Int)=(237:Int)))) (wi (b+1))<|AO ((decide ((225:Int)≤(a.toNat:Int))&&decide ((a.toNat:Int)≤(239:Int)))&&(!decide ((a.toNat:Int)=(237:Int)))) (Ly c (b+1) 2) fun m=>br (((decide ((225:Int)≤(a.toNat:Int))&&decide ((a.toNat:Int)≤(239:Int)))&&(!decide ((a.toNat:Int)=(237:Int))))&&m) (lr Hr nG 3) (vg (decide ((a.toNat:Int)=(240:Int))) (wi (b+1))<|AO (decide ((a.toNat:Int)=(240:Int))) (RD c (b+1) 144 191) fun i=>vg (decide ((a.toNat:Int)=(240:Int))&&i) (wi (b+2))<|AO (decide ((a.toNat:Int)=(240:Int))&&i) (Ly c (b+2) 2) fun n=>br ((decide ((a.toNat:Int)=(240:Int))&&i)&&n) (lr Hr nG 4) (vg (decide ((241:Int)≤(a.toNat:Int))&&decide ((a.toNat:Int)≤(243:Int))) (wi (b+1))<|AO (decide ((241:Int)≤(a.toNat:Int))&&decide ((a.toNat:Int)≤(243:Int))) (Ly c (b+1) 3) fun e=>br ((decide ((241:Int)≤(a.toNat:Int))&&decide ((a.toNat:Int)≤(243:Int)))&&e) (lr Hr nG 4) (vg (decide ((a.toNat:Int)=(244:Int))) (wi (b+1))<|AO (decide ((a.toNat:Int)=(244:Int))) (RD c (b+1) 128 143) fun d=>vg (decide ((a.toNat:Int)=(244:Int))&&d) (wi (b+2))<|AO (decide ((a.toNat:Int)=(244:Int))&&d) (Ly c (b+2) 2) fun f=>br ((decide ((a.toNat:Int)=(244:Int))&&d)&&f) (lr Hr nG 4) (lr Hr nG 0))))))))
def Ps(a:ByteArray)(b:Int):Option (Int):=(Wf a b).m
theorem ZRZ(a:ByteArray)(b:Int):KC Tryz.prog 141 [vS a,vI b] (Ps a b) Hr:=AF Tryz.func141 Tryz.ntmps141 Aa [.tmp 4] fun C co y hm c d=>Ax co Aa Ae (Wf a b) hm d fun r g=>fun i=>⟨id,fun j=>⟨id,fun k=>fun l=>⟨id,fun m=>fun n=>⟨id,fun o=>⟨id,fun p=>fun q=>⟨id,fun e=>⟨id,fun f=>fun h=>⟨id,id⟩⟩⟩⟩⟩⟩⟩⟩
abbrev Ub:Int→AV:=fun y=>vI y
def sN(a:ByteArray):Int→St:=fun b=>Ad [(0,vS a),(3,vI b)] []
def r4:Unit→Nat×St:=fun _=>(0,Ad [] [])
def WK(b:ByteArray)(a:Int):PT 0 (Lv (Int) (Unit) (Int)):=vz (BF b.size)<|br (decide (a<(b.size:Int))) (cl (ZRZ b a) fun c=>br (decide (c=(0:Int))) (Ay Ub nG a) (vs (wi (a+c))<|ln (sN b) (a+c))) (Ai (r4) ())
def M2(a:ByteArray):Int→Option (Lv (Int) (Unit) (Int)):=fun b=>(WK a b).m
def Wp:PT 0 (Int):=lr Ub nG (-1)
def WB(a:ByteArray):PT 0 (Int):=lc (Ad [(0,vS a),(3,vI 0)] []) ((Al (M2 a) Am 0).bind (Sum.elim (fun _=>(Wp).m) some))
def Wh(a:ByteArray):PT 0 (Int):=lc (Ad [(0,vS a)] []) ((WB a).m)
def UR(a:ByteArray):Option (Int):=(Wh a).m
theorem ZyM{C:Cx}(co:CO C 0)(a:ByteArray):KL Tryz.prog (AC tl) 18 C (pa [0,0,1,0,1] (AA Tryz.f106)) [.tmp 2] 0 (sN a) (r4) Ub nG (M2 a):=fun e _ hm Q b d c=>At co Aa Ae (WK a e) (AK [0,3]) nl d hm c fun r g=>⟨fun f=>⟨id,id⟩,id⟩
theorem ZQU(b:ByteArray):KC Tryz.prog 106 [vS b] (UR b) Ub:=AF Tryz.func106 Tryz.ntmps106 Aa [.tmp 2] fun C co y hm c a=>Aj co Aa Ae 1 (Wh b) (AK [0]) nl nH hm a fun r g=>fun _ hm a=>sq (Aj co Aa Ae 1 (WB b) (AK [0,3]) nl nH hm a fun r g=>fun _ hm a=>bk 0 (lo (AE (ZyM co b) nH hm a (fun _ hm=>Ax co Aa Ae (Wp) hm a fun r g=>id))))
abbrev qx:Bool→AV:=fun y=>vB y
def Tq(a:ByteArray):PT 0 (Bool):=cl (ZQU a) fun b=>lr qx nG (decide (b<(0:Int)))
def Mz(a:ByteArray):Option (Bool):=(Tq a).m
theorem ya(a:ByteArray):KC Tryz.prog 74 [vS a] (Mz a) qx:=AF Tryz.func74 Tryz.ntmps74 Aa [.tmp 2] fun C co y hm b c=>Ax co Aa Ae (Tq a) hm c fun r g=>fun d=>id
abbrev yr:Bool→AV:=fun y=>vB y
def n3(a:Int):PT 0 (Bool):=lr yr nG (decide ((1:Int)≤a)&&decide (a≤(9:Int)))
def MH(a:Int):Option (Bool):=(n3 a).m
theorem bz(a:Int):KC Tryz.prog 111 [vI a] (MH a) yr:=AF Tryz.func111 Tryz.ntmps111 Aa [.tmp 2] fun C co y hm b c=>Ax co Aa Ae (n3 a) hm c fun r g=>id
abbrev yD:Bool→AV:=fun y=>vB y
def We(a:Val):PT 0 (Bool):=wg<|vz (An a.list)<|wg<|vy (decide ((a.list.length:Int)=(0:Int))) (An a.pairs)<|wg<|vy (decide ((a.list.length:Int)=(0:Int))&&decide ((a.pairs.length:Int)=(0:Int))) (An a.slots)<|wg<|vy ((decide ((a.list.length:Int)=(0:Int))&&decide ((a.pairs.length:Int)=(0:Int)))&&decide ((a.slots.length:Int)=(0:Int))) (An a.raws)<|lr yD nG (((decide ((a.list.length:Int)=(0:Int))&&decide ((a.pairs.length:Int)=(0:Int)))&&decide ((a.slots.length:Int)=(0:Int)))&&decide ((a.raws.length:Int)=(0:Int)))
def Pp(a:Val):Option (Bool):=(We a).m
theorem v6(a:Val):KC Tryz.prog 112 [.agg ((Ag a).map .d)] (Pp a) yD:=AF Tryz.func112 Tryz.ntmps112 Aa [.tmp 2] fun C co y hm b c=>Ax co Aa Ae (We a) hm c fun r g=>id
abbrev x5:Bool→AV:=fun y=>vB y
def QJ(a:Int):PT 0 (Bool):=lr x5 nG (decide (a=(7:Int))||decide (a=(8:Int)))
def MD(a:Int):Option (Bool):=(QJ a).m
theorem X0(a:Int):KC Tryz.prog 137 [vI a] (MD a) x5:=AF Tryz.func137 Tryz.ntmps137 Aa [.tmp 2] fun C co y hm b c=>Ax co Aa Ae (QJ a) hm c fun r g=>id
abbrev HX:Bool→AV:=fun y=>vB y
def QF(b:Int)(a:Val):PT 0 (Bool):=cl (bz b) fun c=>wg<|wg<|AO (!((!c)||(!decide (a.kind=b)))) (v6 a) fun d=>br (((!c)||(!decide (a.kind=b)))||(!d)) (lr HX nG false) (cl (X0 b) fun e=>br e (wg<|wg<|vy (decide (a.bits=(0:Int))) (BF a.text.size)<|wg<|AO ((decide (a.bits=(0:Int))&&decide ((a.text.size:Int)≤(4096:Int)))&&(!(decide (b=(8:Int))))) (ya a.text) fun f=>lr HX nG ((decide (a.bits=(0:Int))&&decide ((a.text.size:Int)≤(4096:Int)))&&(decide (b=(8:Int))||f))) (wg<|br (!decide (a.text=(⟨#[]⟩:ByteArray))) (lr HX nG false) (br (decide (b=(1:Int))) (wg<|lr HX nG (decide (a.bits≤(1:Int)))) (br (decide (b=(2:Int))) (wg<|vz (wk .i64 a.bits)<|lr HX nG (decide (((-2147483648):Int)≤(IntKind.i64.wrap a.bits))&&decide ((IntKind.i64.wrap a.bits)≤(2147483647:Int)))) (br (decide (b=(4:Int))) (wg<|lr HX nG (decide (a.bits<(4294967296:Int)))) (br (decide (b=(9:Int))) (wg<|lr HX nG (decide (a.bits<(2147483648:Int)))) (lr HX nG true)))))))
def Ju(a:Int)(b:Val):Option (Bool):=(QF a b).m
theorem fd(a:Int)(b:Val):KC Tryz.prog 104 [vI a,.agg ((Ag b).map .d)] (Ju a b) HX:=AF Tryz.func104 Tryz.ntmps104 Aa [.tmp 4] fun C co y hm c d=>Ax co Aa Ae (QF a b) hm d fun r g=>fun e=>fun f=>⟨id,fun h=>⟨fun i=>id,⟨id,⟨id,⟨id,⟨id,⟨id,id⟩⟩⟩⟩⟩⟩⟩
abbrev iC(a:Scm):Af×Blk:=kk 2 26 3 (cD (Au a))
abbrev hX(a:Fld):Af×Blk:=kk 5 33 7 (cD (Ag a.dflt))
abbrev IW:Bool→AV:=fun y=>vB y
def xr(a:Scm)(b:Fld)(d:Int):Nat→St:=fun c=>Ad [pp 2,pp 5,(6,vI d),(7,vN c)] [(iC a),(hX b)]
def wU:Unit→Nat×St:=fun _=>(0,Ad [] [])
def fI(b:Scm)(f:Fld)(c:Int)(a:Nat):PT 0 (Lv (Nat) (Unit) (Bool)):=wg<|Cq b.enums c fun d=>vz (An d.items)<|br (decide ((a:Int)<(d.items.length:Int))) (wg<|Cq b.enums c fun g=>ix g.items a fun e=>vz (wk .u64 e.num)<|wg<|br (decide ((IntKind.u64.wrap e.num)=f.dflt.bits)) (Ay IW nG true) (vs (wa a 1)<|ln (xr b f c) (a+1))) (Ai (wU) ())
def Te(a:Scm)(b:Fld)(d:Int):Nat→Option (Lv (Nat) (Unit) (Bool)):=fun c=>(fI a b d c).m
def bL:PT 0 (Bool):=lr IW nG false
def dU(a:Scm)(b:Fld)(c:Int):PT 0 (Bool):=lc (Ad [pp 2,pp 5,(6,vI c),(7,vI 0)] [(iC a),(hX b)]) ((Al (Te a b c) Am 0).bind (Sum.elim (fun _=>(bL).m) some))
def aV(b:Scm)(a:Fld):PT 0 (Bool):=wg<|wg<|wg<|br (!a.hasDefault) (wg<|cl ((tL a.dflt (.mk 0 0 ⟨#[]⟩ ([]:List Val) ([]:List Pr) ([]:List Slt) ([]:List Raw):Val)).nrm (fun _ _ _ h=>.nrm h) (xs':=[.agg ((Ag a.dflt).map .d),.agg [vI 0,.d (.int .u64 0),vS ⟨#[]⟩,.e0,.e0,.e0,.e0]]) (by intro r;kernel_rfl)) fun e=>lr IW nG e) (wg<|wg<|wg<|wg<|AO (!((!decide (a.card=(2:Int)))||(!decide (a.union=(⟨#[]⟩:ByteArray))))) (fd a.type.kind a.dflt) fun c=>wg<|wg<|AO (!(((!decide (a.card=(2:Int)))||(!decide (a.union=(⟨#[]⟩:ByteArray))))||(!c))) (iR a.dflt) fun f=>AO (!(((!decide (a.card=(2:Int)))||(!decide (a.union=(⟨#[]⟩:ByteArray))))||(!c))) (tL a.dflt f) fun g=>br ((((!decide (a.card=(2:Int)))||(!decide (a.union=(⟨#[]⟩:ByteArray))))||(!c))||(!g)) (lr IW nG false) (wg<|wg<|cl (vD b a.type.name) fun d=>wg<|br (!decide (a.type.kind=(9:Int))) (lr IW nG true) (br (decide (d<(0:Int))) (lr IW nG false) (lc (Ad [pp 2,pp 5,(6,vI d)] [(iC b),(hX a)]) ((dU b a d).m)))))
def jG(a:Scm)(b:Fld):Option (Bool):=(aV a b).m
theorem ZFn{C:Cx}(co:CO C 0)(a:Scm)(b:Fld)(c:Int):KL Tryz.prog (AC tl) 75 C (pa [0,0,1,0,1,1,1,1,1,1,1] (AA Tryz.f71)) [.tmp 4] 0 (xr a b c) (wU) IW nG (Te a b c):=fun h _ hm Q d f e=>At co Aa Ae (fI a b c h) (Ac [2,5,6,7] LM) nl f hm e fun r g=>fun i=>⟨fun j=>fun k=>⟨id,id⟩,id⟩
theorem ZVF(b:Scm)(c:Fld):KC Tryz.prog 71 [.agg ((Au b).map .d),.agg ((Az c).map .d)] (jG b c) IW:=AF Tryz.func71 Tryz.ntmps71 Aa [.tmp 4] fun C co y hm d a=>Aj co Aa Ae 7 (aV b c) (Ac [2,5,6] LM) nl nH hm a fun r g=>⟨fun f=>id,fun h=>fun i=>fun j=>⟨id,fun e=>⟨id,⟨id,fun _ hm a=>sq (Aj co Aa Ae 1 (dU b c e) (Ac [2,5,6,7] LM) nl nH hm a fun r g=>fun _ hm a=>bk 0 (lo (AE (ZFn co b c e) nH hm a (fun _ hm=>Ax co Aa Ae (bL) hm a fun r g=>id))))⟩⟩⟩⟩
abbrev lb1:ByteArray:=⟨#[115,105,110,99,101]⟩
abbrev lb2:ByteArray:=⟨#[109,105,110]⟩
abbrev lb3:ByteArray:=⟨#[109,97,120]⟩
abbrev lb4:ByteArray:=⟨#[117,110,116,105,108]⟩
abbrev lb5:ByteArray:=⟨#[108,101,110,103,116,104]⟩
abbrev lb6:ByteArray:=⟨#[116,105,109,101,111,117,116]⟩
abbrev lb7:ByteArray:=⟨#[97,108,105,97,115]⟩
abbrev lb8:ByteArray:=⟨#[114,111,117,116,101]⟩
abbrev DT:Int→AV:=fun y=>vI y
def PA(a:ByteArray):PT 0 (Int):=br (decide (a=lb2)) (br (decide (a=lb2)) (lr DT nG 3) (lr DT nG 0)) (br (decide (a=lb3)) (lr DT nG 3) (lr DT nG 0))
def PJ(a:ByteArray):PT 0 (Int):=br (decide (a=lb1)) (br (decide (a=lb1)) (lr DT nG 4) (PA a)) (br (decide (a=lb4)) (br (decide (a=lb4)) (lr DT nG 4) (PA a)) (br (decide (a=lb5)) (br (decide (a=lb5)) (lr DT nG 4) (PA a)) (br (decide (a=lb6)) (lr DT nG 4) (PA a))))
def Vv(a:ByteArray):PT 0 (Int):=br (decide (a=(⟨#[100,111,99]⟩:ByteArray))) (br (decide (a=(⟨#[100,111,99]⟩:ByteArray))) (lr DT nG 7) (PJ a)) (br (decide (a=lb7)) (br (decide (a=lb7)) (lr DT nG 7) (PJ a)) (br (decide (a=lb8)) (br (decide (a=lb8)) (lr DT nG 7) (PJ a)) (br (decide (a=(⟨#[111,119,110,101,114]⟩:ByteArray))) (lr DT nG 7) (PJ a))))
def pu(a:ByteArray):PT 0 (Int):=br (decide (a=(⟨#[100,101,112,114,101,99,97,116,101,100]⟩:ByteArray))) (br (decide (a=(⟨#[100,101,112,114,101,99,97,116,101,100]⟩:ByteArray))) (lr DT nG 1) (Vv a)) (br (decide (a=(⟨#[115,101,99,114,101,116]⟩:ByteArray))) (br (decide (a=(⟨#[115,101,99,114,101,116]⟩:ByteArray))) (lr DT nG 1) (Vv a)) (br (decide (a=(⟨#[105,100,101,109,112,111,116,101,110,116]⟩:ByteArray))) (lr DT nG 1) (Vv a)))
def jn(a:ByteArray):Option (Int):=(pu a).m
theorem wC(a:ByteArray):KC Tryz.prog 138 [vS a] (jn a) DT:=AF Tryz.func138 Tryz.ntmps138 Aa [.tmp 2] fun C co y hm b c=>Ax co Aa Ae (pu a) hm c fun r g=>⟨⟨id,⟨⟨id,⟨⟨id,⟨⟨id,id⟩,⟨id,id⟩⟩⟩,⟨⟨id,⟨⟨id,id⟩,⟨id,id⟩⟩⟩,⟨⟨id,⟨⟨id,id⟩,⟨id,id⟩⟩⟩,⟨id,⟨⟨id,id⟩,⟨id,id⟩⟩⟩⟩⟩⟩⟩,⟨⟨id,⟨⟨id,⟨⟨id,id⟩,⟨id,id⟩⟩⟩,⟨⟨id,⟨⟨id,id⟩,⟨id,id⟩⟩⟩,⟨⟨id,⟨⟨id,id⟩,⟨id,id⟩⟩⟩,⟨id,⟨⟨id,id⟩,⟨id,id⟩⟩⟩⟩⟩⟩⟩,⟨⟨id,⟨⟨id,⟨⟨id,id⟩,⟨id,id⟩⟩⟩,⟨⟨id,⟨⟨id,id⟩,⟨id,id⟩⟩⟩,⟨⟨id,⟨⟨id,id⟩,⟨id,id⟩⟩⟩,⟨id,⟨⟨id,id⟩,⟨id,id⟩⟩⟩⟩⟩⟩⟩,⟨id,⟨⟨id,⟨⟨id,id⟩,⟨id,id⟩⟩⟩,⟨⟨id,⟨⟨id,id⟩,⟨id,id⟩⟩⟩,⟨⟨id,⟨⟨id,id⟩,⟨id,id⟩⟩⟩,⟨id,⟨⟨id,id⟩,⟨id,id⟩⟩⟩⟩⟩⟩⟩⟩⟩⟩⟩,⟨⟨id,⟨⟨id,⟨⟨id,⟨⟨id,id⟩,⟨id,id⟩⟩⟩,⟨⟨id,⟨⟨id,id⟩,⟨id,id⟩⟩⟩,⟨⟨id,⟨⟨id,id⟩,⟨id,id⟩⟩⟩,⟨id,⟨⟨id,id⟩,⟨id,id⟩⟩⟩⟩⟩⟩⟩,⟨⟨id,⟨⟨id,⟨⟨id,id⟩,⟨id,id⟩⟩⟩,⟨⟨id,⟨⟨id,id⟩,⟨id,id⟩⟩⟩,⟨⟨id,⟨⟨id,id⟩,⟨id,id⟩⟩⟩,⟨id,⟨⟨id,id⟩,⟨id,id⟩⟩⟩⟩⟩⟩⟩,⟨⟨id,⟨⟨id,⟨⟨id,id⟩,⟨id,id⟩⟩⟩,⟨⟨id,⟨⟨id,id⟩,⟨id,id⟩⟩⟩,⟨⟨id,⟨⟨id,id⟩,⟨id,id⟩⟩⟩,⟨id,⟨⟨id,id⟩,⟨id,id⟩⟩⟩⟩⟩⟩⟩,⟨id,⟨⟨id,⟨⟨id,id⟩,⟨id,id⟩⟩⟩,⟨⟨id,⟨⟨id,id⟩,⟨id,id⟩⟩⟩,⟨⟨id,⟨⟨id,id⟩,⟨id,id⟩⟩⟩,⟨id,⟨⟨id,id⟩,⟨id,id⟩⟩⟩⟩⟩⟩⟩⟩⟩⟩⟩,⟨id,⟨⟨id,⟨⟨id,⟨⟨id,id⟩,⟨id,id⟩⟩⟩,⟨⟨id,⟨⟨id,id⟩,⟨id,id⟩⟩⟩,⟨⟨id,⟨⟨id,id⟩,⟨id,id⟩⟩⟩,⟨id,⟨⟨id,id⟩,⟨id,id⟩⟩⟩⟩⟩⟩⟩,⟨⟨id,⟨⟨id,⟨⟨id,id⟩,⟨id,id⟩⟩⟩,⟨⟨id,⟨⟨id,id⟩,⟨id,id⟩⟩⟩,⟨⟨id,⟨⟨id,id⟩,⟨id,id⟩⟩⟩,⟨id,⟨⟨id,id⟩,⟨id,id⟩⟩⟩⟩⟩⟩⟩,⟨⟨id,⟨⟨id,⟨⟨id,id⟩,⟨id,id⟩⟩⟩,⟨⟨id,⟨⟨id,id⟩,⟨id,id⟩⟩⟩,⟨⟨id,⟨⟨id,id⟩,⟨id,id⟩⟩⟩,⟨id,⟨⟨id,id⟩,⟨id,id⟩⟩⟩⟩⟩⟩⟩,⟨id,⟨⟨id,⟨⟨id,id⟩,⟨id,id⟩⟩⟩,⟨⟨id,⟨⟨id,id⟩,⟨id,id⟩⟩⟩,⟨⟨id,⟨⟨id,id⟩,⟨id,id⟩⟩⟩,⟨id,⟨⟨id,id⟩,⟨id,id⟩⟩⟩⟩⟩⟩⟩⟩⟩⟩⟩⟩⟩
abbrev lb9:ByteArray:=⟨#[109,105,110]⟩
abbrev yI:ByteArray:=⟨#[105,100,101,109,112,111,116,101,110,116]⟩
abbrev x4:ByteArray:=⟨#[116,105,109,101,111,117,116]⟩
abbrev ZVh:ByteArray:=⟨#[114,111,117,116,101]⟩
abbrev yi:ByteArray:=⟨#[109,97,120]⟩
abbrev x0:ByteArray:=⟨#[108,101,110,103,116,104]⟩
abbrev ZVa:ByteArray:=⟨#[115,101,99,114,101,116]⟩
abbrev Iz:Bool→AV:=fun y=>vB y
def Va(a:Int):PT 0 (Bool):=lr Iz nG (decide (a=(1:Int))||decide (a=(5:Int)))
def PB(b:ByteArray)(a:Int):PT 0 (Bool):=br (decide (b=yI)) (br (decide (b=yI)) (lr Iz nG (decide (a=(6:Int)))) (Va a)) (br (decide (b=x4)) (br (decide (b=x4)) (lr Iz nG (decide (a=(6:Int)))) (Va a)) (br (decide (b=ZVh)) (lr Iz nG (decide (a=(6:Int)))) (Va a)))
def PC(a:Int):PT 0 (Bool):=lr Iz nG (decide (a=(2:Int)))
def Vy(a:ByteArray)(b:Int):PT 0 (Bool):=br (decide (a=lb9)) (br (decide (a=lb9)) (PC b) (PB a b)) (br (decide (a=yi)) (br (decide (a=yi)) (PC b) (PB a b)) (br (decide (a=x0)) (br (decide (a=x0)) (PC b) (PB a b)) (br (decide (a=ZVa)) (PC b) (PB a b))))
def UZ(a:Int):PT 0 (Bool):=lr Iz nG ((decide (a=(2:Int))||decide (a=(4:Int)))||decide (a=(6:Int)))
def kt(a:ByteArray)(b:Int):PT 0 (Bool):=br (decide (a=(⟨#[97,108,105,97,115]⟩:ByteArray))) (br (decide (a=(⟨#[97,108,105,97,115]⟩:ByteArray))) (UZ b) (Vy a b)) (br (decide (a=(⟨#[115,105,110,99,101]⟩:ByteArray))) (br (decide (a=(⟨#[115,105,110,99,101]⟩:ByteArray))) (UZ b) (Vy a b)) (br (decide (a=(⟨#[117,110,116,105,108]⟩:ByteArray))) (UZ b) (Vy a b)))
def nU(b:ByteArray)(a:Int):PT 0 (Bool):=br (decide (b=(⟨#[100,101,112,114,101,99,97,116,101,100]⟩:ByteArray))) (br (decide (b=(⟨#[100,101,112,114,101,99,97,116,101,100]⟩:ByteArray))) (lr Iz nG (decide ((1:Int)≤a)&&decide (a≤(6:Int)))) (kt b a)) (br (decide (b=(⟨#[100,111,99]⟩:ByteArray))) (lr Iz nG (decide ((1:Int)≤a)&&decide (a≤(6:Int)))) (kt b a))
def jg(a:ByteArray)(b:Int):Option (Bool):=(nU a b).m
theorem ZSM(a:ByteArray)(b:Int):KC Tryz.prog 139 [vS a,vI b] (jg a b) Iz:=AF Tryz.func139 Tryz.ntmps139 Aa [.tmp 4] fun C co y hm c d=>Ax co Aa Ae (nU a b) hm d fun r g=>⟨⟨id,⟨⟨id,⟨⟨id,⟨⟨id,id⟩,⟨⟨id,id⟩,⟨id,id⟩⟩⟩⟩,⟨⟨id,⟨⟨id,id⟩,⟨⟨id,id⟩,⟨id,id⟩⟩⟩⟩,⟨⟨id,⟨⟨id,id⟩,⟨⟨id,id⟩,⟨id,id⟩⟩⟩⟩,⟨id,⟨⟨id,id⟩,⟨⟨id,id⟩,⟨id,id⟩⟩⟩⟩⟩⟩⟩⟩,⟨⟨id,⟨⟨id,⟨⟨id,id⟩,⟨⟨id,id⟩,⟨id,id⟩⟩⟩⟩,⟨⟨id,⟨⟨id,id⟩,⟨⟨id,id⟩,⟨id,id⟩⟩⟩⟩,⟨⟨id,⟨⟨id,id⟩,⟨⟨id,id⟩,⟨id,id⟩⟩⟩⟩,⟨id,⟨⟨id,id⟩,⟨⟨id,id⟩,⟨id,id⟩⟩⟩⟩⟩⟩⟩⟩,⟨id,⟨⟨id,⟨⟨id,id⟩,⟨⟨id,id⟩,⟨id,id⟩⟩⟩⟩,⟨⟨id,⟨⟨id,id⟩,⟨⟨id,id⟩,⟨id,id⟩⟩⟩⟩,⟨⟨id,⟨⟨id,id⟩,⟨⟨id,id⟩,⟨id,id⟩⟩⟩⟩,⟨id,⟨⟨id,id⟩,⟨⟨id,id⟩,⟨id,id⟩⟩⟩⟩⟩⟩⟩⟩⟩⟩⟩,⟨id,⟨⟨id,⟨⟨id,⟨⟨id,id⟩,⟨⟨id,id⟩,⟨id,id⟩⟩⟩⟩,⟨⟨id,⟨⟨id,id⟩,⟨⟨id,id⟩,⟨id,id⟩⟩⟩⟩,⟨⟨id,⟨⟨id,id⟩,⟨⟨id,id⟩,⟨id,id⟩⟩⟩⟩,⟨id,⟨⟨id,id⟩,⟨⟨id,id⟩,⟨id,id⟩⟩⟩⟩⟩⟩⟩⟩,⟨⟨id,⟨⟨id,⟨⟨id,id⟩,⟨⟨id,id⟩,⟨id,id⟩⟩⟩⟩,⟨⟨id,⟨⟨id,id⟩,⟨⟨id,id⟩,⟨id,id⟩⟩⟩⟩,⟨⟨id,⟨⟨id,id⟩,⟨⟨id,id⟩,⟨id,id⟩⟩⟩⟩,⟨id,⟨⟨id,id⟩,⟨⟨id,id⟩,⟨id,id⟩⟩⟩⟩⟩⟩⟩⟩,⟨id,⟨⟨id,⟨⟨id,id⟩,⟨⟨id,id⟩,⟨id,id⟩⟩⟩⟩,⟨⟨id,⟨⟨id,id⟩,⟨⟨id,id⟩,⟨id,id⟩⟩⟩⟩,⟨⟨id,⟨⟨id,id⟩,⟨⟨id,id⟩,⟨id,id⟩⟩⟩⟩,⟨id,⟨⟨id,id⟩,⟨⟨id,id⟩,⟨id,id⟩⟩⟩⟩⟩⟩⟩⟩⟩⟩⟩⟩
abbrev xw:Bool→AV:=fun y=>vB y
def na(b:Nt):PT 0 (Bool):=wg<|cl (wC b.name) fun a=>wg<|wg<|AO ((!decide (a=(0:Int)))&&decide (b.val.kind=a)) (fd a b.val) fun c=>lr xw nG (((!decide (a=(0:Int)))&&decide (b.val.kind=a))&&c)
def jI(a:Nt):Option (Bool):=(na a).m
theorem ZSg(a:Nt):KC Tryz.prog 140 [.agg ((Ce a).map .d)] (jI a) xw:=AF Tryz.func140 Tryz.ntmps140 Aa [.tmp 2] fun C co y hm b c=>Ax co Aa Ae (na a) hm c fun r g=>fun d=>fun e=>id
abbrev IA:Int→AV:=fun y=>vI y
def sI(a:List Nt)(b:Int):Nat→St:=fun c=>Ad [(0,vL Ce a),(1,vI b),(5,vN c)] []
def rR:Unit→Nat×St:=fun _=>(0,Ad [] [])
def oR(b:List Nt)(e:Int)(a:Nat):PT 0 (Lv (Nat) (Unit) (Int)):=vz (An b)<|br (decide ((a:Int)<(b.length:Int))) (ix b a fun f=>cl (wC f.name) fun k=>br (decide (k=(0:Int))) (Ay IA nG 8) (ix b a fun g=>cl (ZSM g.name e) fun l=>br (!l) (Ay IA nG 1) (ix b a fun h=>cl (ZSg h) fun m=>br (!m) (Ay IA nG 12) (A0 (decide ((0:Int)<(a:Int))) b (a:Int) fun i=>vg (decide ((0:Int)<(a:Int))) (wi ((a:Int)-1))<|A0 (decide ((0:Int)<(a:Int))) b ((a:Int)-1) fun j=>br (decide ((0:Int)<(a:Int))&&BJ i.name j.name) (Ay IA nG 11) (A0 (decide ((0:Int)<(a:Int))) b (a:Int) fun c=>vg (decide ((0:Int)<(a:Int))) (wi ((a:Int)-1))<|A0 (decide ((0:Int)<(a:Int))) b ((a:Int)-1) fun d=>br (decide ((0:Int)<(a:Int))&&decide (c.name=d.name)) (Ay IA nG 9) (vs (wa a 1)<|ln (sI b e) (a+1))))))) (Ai (rR) ())
def WX(a:List Nt)(b:Int):Nat→Option (Lv (Nat) (Unit) (Int)):=fun c=>(oR a b c).m
def n6:PT 0 (Int):=lr IA nG 0
def pe(a:List Nt)(b:Int):PT 0 (Int):=lc (Ad [(0,vL Ce a),(1,vI b),(5,vI 0)] []) ((Al (WX a b) Am 0).bind (Sum.elim (fun _=>(n6).m) some))
def m6(a:List Nt)(b:Int):PT 0 (Int):=vz (An a)<|br (decide ((8:Int)<(a.length:Int))) (lr IA nG 3) (lc (Ad [(0,vL Ce a),(1,vI b)] []) ((pe a b).m))
def jH(a:List Nt)(b:Int):Option (Int):=(m6 a b).m
theorem ZAJ{C:Cx}(co:CO C 0)(a:List Nt)(b:Int):KL Tryz.prog (AC tl) 68 C (pa [0,0,1,0,1,1] (AA Tryz.f105)) [.tmp 4] 0 (sI a b) (rR) IA nG (WX a b):=fun i _ hm Q c h f=>At co Aa Ae (oR a b i) (AK [0,1,5]) nl h hm f fun r g=>⟨fun j=>fun o=>⟨id,fun k=>fun p=>⟨id,fun l=>fun q=>⟨id,fun m=>fun n=>⟨id,fun d=>fun e=>⟨id,id⟩⟩⟩⟩⟩,id⟩
theorem ZSR(b:List Nt)(c:Int):KC Tryz.prog 105 [vL Ce b,vI c] (jH b c) IA:=AF Tryz.func105 Tryz.ntmps105 Aa [.tmp 4] fun C co y hm d a=>Aj co Aa Ae 2 (m6 b c) (AK [0,1]) nl nH hm a fun r g=>⟨id,fun _ hm a=>sq (Aj co Aa Ae 1 (pe b c) (AK [0,1,5]) nl nH hm a fun r g=>fun _ hm a=>bk 0 (lo (AE (ZAJ co b c) nH hm a (fun _ hm=>Ax co Aa Ae (n6) hm a fun r g=>id))))⟩
abbrev qw:List Prb→AV:=fun y=>.tup []
@[reducible] def qI(a:ByteArray):List Prb→List Blk:=fun y=>[⟨0,true,78,2,[vS a,.ref (0,1) 0 0 y.length]⟩,⟨0,true,115,3,Ab Ao y⟩]
def cU(a:ByteArray)(b:List Prb):PT 2 (List Prb):=lr qw (qI a) b
def cC(a:ByteArray)(b:List Prb):PT 2 (List Prb):=vz (fl b)<|lc (Ad [] [((0,0),⟨0,true,78,2,[vS a,.ref (0,1) 0 0 b.length]⟩),((0,1),⟨0,true,115,3,Ab Ao b⟩)]) ((cU a b).m)
def gp(a:ByteArray)(b:List Prb)(d:Int)(c:Int):PT 2 (List Prb):=vz (fl b)<|lc (Ad [(12,.ptr (0,0) 0 0),(14,vB (!decide (c=(0:Int)))),(15,vI d),(16,vI c)] [((0,0),⟨0,true,78,2,[vS a,.ref (0,1) 0 0 b.length]⟩),((0,1),⟨0,true,115,3,Ab Ao b⟩)]) ((BD a b (!decide (c=(0:Int))) d c).bind fun e=>(cC a e).m)
def dv(a:ByteArray)(b:List Prb)(e:List Nt)(f:Int)(c:Int):PT 2 (List Prb):=cl (ZSR e f) fun d=>vz (fl b)<|lc (Ad [(0,.ptr (0,0) 0 0),(3,vI c),(8,vI d)] [((0,0),⟨0,true,78,2,[vS a,.ref (0,1) 0 0 b.length]⟩),((0,1),⟨0,true,115,3,Ab Ao b⟩)]) ((gp a b c d).m)
def H3(a:ByteArray)(b:List Prb)(c:List Nt)(d:Int)(e:Int):Option (List Prb):=(dv a b c d e).m
theorem Mk(a:ByteArray)(b:List Prb)(e:List Nt)(f:Int)(d:Int):KG Tryz.prog 72 2 [1] [(1,0)] [.ptr (0,0) 0 0,vL Ce e,vI f,vI d] [⟨0,true,78,2,[vS a,.ref (0,1) 0 0 b.length]⟩,⟨0,true,115,3,Ab Ao b⟩] (H3 a b e f d) qw (qI a):=pZ Tryz.func72 Tryz.ntmps72 Aa [] 2 [1] [0] [(1,0)] (fun C co k y hm i c=>Aj co Aa Ae 1 (dv a b e f d) (Ac [0,3,8] Fo) nl nH hm c fun r g=>fun h=>fun _ hm c=>rg (AM co Aa 5 (gp a b d h) (Ac [12,14,15,16] Fo) hm c fun r g=>fun _ hm c=>Bt co hm (BT a b (!decide (h=(0:Int))) d h) [((0,0),⟨0,true,78,2,[vS a,.ref (0,1) 0 0 b.length]⟩),((0,1),⟨0,true,115,3,Ab Ao b⟩)] [] (fun z=>.tup []) (fun z=>[((0,0),⟨0,true,78,2,[vS a,.ref (0,1) 0 0 z.length]⟩),((0,1),⟨0,true,115,3,Ab Ao z⟩)]) [] fun j hm=>AI co Aa (cC a j) (Ac [] Fo) hm c fun r g=>fun _ hm c=>B4 (cU a j) co hm c (fun r g=>id) r g))
end Go.Proofs.YtjbijbkdiijhaaaGreat
