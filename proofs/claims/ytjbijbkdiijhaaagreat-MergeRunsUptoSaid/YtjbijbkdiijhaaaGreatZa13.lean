import Derived.Test.YtjbijbkdiijhaaaGreatZa12
import Derived.Test.YtjbijbkdiijhaaaGreatZa00
namespace Go.Proofs.YtjbijbkdiijhaaaGreat
set_option maxRecDepth 100000
set_option linter.all false
open Go Go.Eng
class Tid (α:Type) where
 t:Nat
instance:Tid Slt:=⟨61⟩
instance:Tid Raw:=⟨65⟩
instance:Tid Pr:=⟨63⟩
abbrev J5:List (Af×Bool):=[((1,2),false),((1,5),true)]
abbrev ES:List (Af×Bool):=[((1,2),false)]
abbrev ER(a:Scm):Af×Blk:=kk 2 26 3 (cD (Ar a))
abbrev Oj:List ByteArray→AV:=fun y=>vL Bx y
def wW(b:Scm)(c:Int):List ByteArray×Nat→St:=fun(a,v2)=>Ad [(1,vI c),pp 2,(5,.ref (1,5) 0 0 a.length),(6,vN v2)] [(ER b),kk 5 9 1 (Ab Bx a)]
def vR(b:Scm)(c:Int):List ByteArray→Nat×St:=fun a=>(0,Ad [(1,vI c),pp 2,(5,.ref (1,5) 0 0 a.length)] [(ER b),kk 5 9 1 (Ab Bx a)])
def eg(a:Scm)(c:Int)(b:List ByteArray)(v2:Nat):PT 0 (Lv (List ByteArray×Nat) (List ByteArray) (List ByteArray)):=wg<|vy (decide (c=(1:Int))) (An a.messages)<|br (decide (c=(1:Int))&&decide ((v2:Int)<(a.messages.length:Int))) (wg<|ix a.messages v2 fun d=>vw .sep<|ap b (d.name:ByteArray)<|vs (wa v2 1)<|vz (fl (b++[d.name]))<|ln (wW a c) (b++[d.name],v2+1)) (vz (fl b)<|Ah (vR a c) b)
def XP(a:Scm)(b:Int):List ByteArray×Nat→Option (Lv (List ByteArray×Nat) (List ByteArray) (List ByteArray)):=fun(c,v2)=>(eg a b c v2).m
def uV(b:Scm)(c:Int):List ByteArray×Nat→St:=fun(a,d)=>Ad [(1,vI c),pp 2,(5,.ref (1,5) 0 0 a.length),(7,vN d)] [(ER b),kk 5 9 1 (Ab Bx a)]
def wy(b:Scm)(c:Int):List ByteArray→Nat×St:=fun a=>(2,Ad [(1,vI c),pp 2,(5,.ref (1,5) 0 0 a.length)] [(ER b),kk 5 9 1 (Ab Bx a)])
def fe(a:Scm)(c:Int)(b:List ByteArray)(d:Nat):PT 0 (Lv (List ByteArray×Nat) (List ByteArray) (List ByteArray)):=wg<|vy (decide (c=(2:Int))) (An a.enums)<|br (decide (c=(2:Int))&&decide ((d:Int)<(a.enums.length:Int))) (wg<|ix a.enums d fun e=>vw .sep<|ap b (e.name:ByteArray)<|vs (wa d 1)<|vz (fl (b++[e.name]))<|ln (uV a c) (b++[e.name],d+1)) (vz (fl b)<|Ah (wy a c) b)
def TM(a:Scm)(b:Int):List ByteArray×Nat→Option (Lv (List ByteArray×Nat) (List ByteArray) (List ByteArray)):=fun(c,d)=>(fe a b c d).m
def uS(c:Scm)(d:Int):List ByteArray×Nat→St:=fun(b,a)=>Ad [(1,vI d),pp 2,(5,.ref (1,5) 0 0 b.length),(8,vN a)] [(ER c),kk 5 9 1 (Ab Bx b)]
def uK:List ByteArray→Nat×St:=fun a=>(4,Ad [(5,.ref (1,5) 0 0 a.length)] [kk 5 9 1 (Ab Bx a)])
def fY(d:Scm)(e:Int)(c:List ByteArray)(a:Nat):PT 0 (Lv (List ByteArray×Nat) (List ByteArray) (List ByteArray)):=wg<|vy (decide (e=(3:Int))) (An d.services)<|br (decide (e=(3:Int))&&decide ((a:Int)<(d.services.length:Int))) (wg<|ix d.services a fun b=>vw .sep<|ap c (b.name:ByteArray)<|vs (wa a 1)<|vz (fl (c++[b.name]))<|ln (uS d e) (c++[b.name],a+1)) (vz (fl c)<|Ah (uK) c)
def XH(b:Scm)(c:Int):List ByteArray×Nat→Option (Lv (List ByteArray×Nat) (List ByteArray) (List ByteArray)):=fun(d,a)=>(fY b c d a).m
def fk(a:List ByteArray):PT 0 (List ByteArray):=vz (fr a)<|lr Oj nG a
def dX(c:Scm)(d:Int)(a:List ByteArray):PT 0 (List ByteArray):=vz (fl a)<|lc (Ad [(1,vI d),pp 2,(5,.ref (1,5) 0 0 a.length),(8,vI 0)] [(ER c),kk 5 9 1 (Ab Bx a)]) ((Ak (XH c d) Am (a,0)).bind (Sum.elim (fun b=>(fk b).m) some))
def gC(b:Scm)(c:Int)(a:List ByteArray):PT 0 (List ByteArray):=vz (fl a)<|lc (Ad [(1,vI c),pp 2,(5,.ref (1,5) 0 0 a.length),(7,vI 0)] [(ER b),kk 5 9 1 (Ab Bx a)]) ((Ak (TM b c) Am (a,0)).bind (Sum.elim (fun d=>(dX b c d).m) some))
def dp(a:Scm)(b:Int):PT 0 (List ByteArray):=vw (.ads 5 5 9 1)<|vz (fl ([]:List ByteArray))<|lc (Ad [(1,vI b),pp 2,(5,.ref (1,5) 0 0 ([]:List ByteArray).length),(6,vI 0)] [(ER a),kk 5 9 1 (Ab Bx ([]:List ByteArray))]) ((Ak (XP a b) Am (([]:List ByteArray),0)).bind (Sum.elim (fun c=>(gC a b c).m) some))
def gy(a:Scm)(b:Int):PT 0 (List ByteArray):=lc (Ad [(1,vI b),pp 2,(5,.e0),(6,vI 0)] [(ER a)]) ((dp a b).m)
def bL(a:Scm)(b:Int):PT 0 (List ByteArray):=lc (Ad [(1,vI b),pp 2,(5,.e0)] [(ER a)]) ((gy a b).m)
def jX(a:Scm)(b:Int):Option (List ByteArray):=(bL a b).m
theorem ZEp{C:Cx}(co:CO C 0)(a:Scm)(b:Int):KL Tryz.prog (AC tl) 70 C (pa [0,0,1,0,1,1] (Az Tryz.f33)) [.tmp 4] 0 (wW a b) (vR a b) Oj nG (XP a b):=fun(f,v2) _ hm Q c e d=>As co Aa Ae (eg a b f v2) (Ac [1,2,5,6] J5) (Ac [1,2,5] J5) e hm d fun r g=>⟨fun h=>id,id⟩
theorem ZID{C:Cx}(co:CO C 0)(a:Scm)(b:Int):KL Tryz.prog (AC tl) 70 C (pa [0,0,1,0,1,1,1] (Az Tryz.f33)) [.tmp 4] 0 (uV a b) (wy a b) Oj nG (TM a b):=fun(f,h) _ hm Q c e d=>As co Aa Ae (fe a b f h) (Ac [1,2,5,7] J5) (Ac [1,2,5] J5) e hm d fun r g=>⟨fun i=>id,id⟩
theorem ZIj{C:Cx}(co:CO C 0)(a:Scm)(b:Int):KL Tryz.prog (AC tl) 70 C (pa [0,0,1,0,1,1,1,1] (Az Tryz.f33)) [.tmp 4] 0 (uS a b) (uK) Oj nG (XH a b):=fun(i,c) _ hm Q d h f=>As co Aa Ae (fY a b i c) (Ac [1,2,5,8] J5) (Ac [5] [((1,5),true)]) h hm f fun r g=>⟨fun e=>id,id⟩
theorem Ud(b:Scm)(c:Int):KC Tryz.prog 33 [.agg ((Ar b).map .d),vI c] (jX b c) Oj:=AE Tryz.func33 Tryz.ntmps33 Aa [.tmp 4] fun C co y hm e a=>Aj co Aa Ae 2 (bL b c) (Ac [1,2,5] ES) nl nH hm a fun r g=>fun _ hm a=>sq (Aj co Aa Ae 1 (gy b c) (Ac [1,2,5,6] ES) nl nH hm a fun r g=>fun _ hm a=>bk 0 (GI co (dp b c) (Ac [1,2,5,6] J5) hm a fun r g=>fun _ hm a=>lo (AF (ZEp co b c) nH hm a (fun f hm=>sq (Aj co Aa Ae 1 (gC b c f) (Ac [1,2,5,7] J5) nl nH hm a fun r g=>fun _ hm a=>bk 2 (lo (AF (ZID co b c) nH hm a (fun h hm=>sq (Aj co Aa Ae 1 (dX b c h) (Ac [1,2,5,8] J5) nl nH hm a fun r g=>fun _ hm a=>bk 4 (lo (AF (ZIj co b c) nH hm a (fun d hm=>Ax co Aa Ae (fk d) hm a fun r g=>id))))))))))))
abbrev Fo:List (Af×Bool):=[((0,0),false),((0,1),true)]
abbrev ZK:List Prb→AV:=fun y=>.tup []
@[reducible] def ZW(a:ByteArray):List Prb→List Blk:=fun y=>[⟨0,true,78,2,[vS a,.ref (0,1) 0 0 y.length]⟩,⟨0,true,115,3,Ab Ap y⟩]
def eL(a:ByteArray)(b:List Prb)(c:Int)(d:Int):PT 2 (List Prb):=lr ZK (ZW a) (b++([(.mk a c d:Prb)]))
def cO(a:ByteArray)(b:List Prb)(c:Int)(d:Int):PT 2 (List Prb):=wg<|wg<|vw .sep<|ap b ((.mk a c d:Prb):Prb)<|BW 1 (Ab Ap [(.mk a c d:Prb)]) (fun _=>ZA5 _)<|wg<|vwl 0 [.ref (0,1) 1 0 (b++([(.mk a c d:Prb)])).length]<|vz (fl (b++([(.mk a c d:Prb)])))<|lc (Ad [] [((0,0),⟨0,true,78,2,[vS a,.ref (0,1) 0 0 (b++([(.mk a c d:Prb)])).length]⟩),((0,1),⟨0,true,115,3,Ab Ap (b++([(.mk a c d:Prb)]))⟩)]) ((eL a b c d).m)
def dh(a:ByteArray)(b:List Prb):PT 2 (List Prb):=lr ZK (ZW a) b
def gj(a:ByteArray)(b:List Prb)(c:Bool)(d:Int)(e:Int):PT 2 (List Prb):=vz (fl b)<|lc (Ad [(0,.ptr (0,0) 0 0),(2,vI d),(3,vI e),(8,vB c)] [((0,0),⟨0,true,78,2,[vS a,.ref (0,1) 0 0 b.length]⟩),((0,1),⟨0,true,115,3,Ab Ap b⟩)]) (if c=true then(cO a b d e).m else(dh a b).m)
def BF(a:ByteArray)(b:List Prb)(c:Bool)(d:Int)(e:Int):Option (List Prb):=(gj a b c d e).m
theorem BU(a:ByteArray)(b:List Prb)(f:Bool)(d:Int)(e:Int):KG Tryz.prog 34 2 [1] [(1,0)] [.ptr (0,0) 0 0,vB f,vI d,vI e] [⟨0,true,78,2,[vS a,.ref (0,1) 0 0 b.length]⟩,⟨0,true,115,3,Ab Ap b⟩] (BF a b f d e) ZK (ZW a):=qm Tryz.func34 Tryz.ntmps34 Aa [] 2 [1] [0] [(1,0)] (fun C co h y hm i c=>Aj co Aa Ae 1 (gj a b f d e) (Ac [0,2,3,8] Fo) nl nH hm c fun r g=>fun _ hm c=>cd f hm (fun hm=>GO co Aa Ae (.fst 0 (.fst 1 (.fst 2 (.fst 3 (.fst 5 (.fst 6 (.fst 7 (.fst 9 (.fst 10 (.fst 4 (.fst 8 (.fst 11 (.fst 12 (.fst 13 (.fst 14 (.fst 15 (.fst 16 .nil))))))))))))))))) [] (cO a b d e) (Ac [] Fo) hm c fun r g=>⟨ZMy g h,fun _ hm c=>B3 (eL a b d e) co hm c (fun r g=>id) r g⟩) (fun hm=>Ax co Aa Ae (dh a b) hm c fun r g=>id))
abbrev Sk:Bool→AV:=fun y=>vB y
def um(a:List ByteArray):Nat→St:=fun b=>Ad [(0,vL Bx a),(3,vN b)] []
def uE:Unit→Nat×St:=fun _=>(0,Ad [] [])
def a6(b:List ByteArray)(a:Nat):PT 0 (Lv (Nat) (Unit) (Bool)):=vz (An b)<|br (decide ((a:Int)<(b.length:Int))) (ix b a fun c=>vs (wi ((a:Int)-1))<|CE b ((a:Int)-1) fun d=>br (BL c d||decide (c=d)) (AA Sk nG false) (vs (wa a 1)<|ln (um b) (a+1))) (Ah (uE) ())
def XS(a:List ByteArray):Nat→Option (Lv (Nat) (Unit) (Bool)):=fun b=>(a6 a b).m
def eB:PT 0 (Bool):=lr Sk nG true
def cH(a:List ByteArray):PT 0 (Bool):=lc (Ad [(0,vL Bx a),(3,vI 1)] []) ((Ak (XS a) Am 1).bind (Sum.elim (fun _=>(eB).m) some))
def dI(a:List ByteArray):PT 0 (Bool):=lc (Ad [(0,vL Bx a)] []) ((cH a).m)
def jq(a:List ByteArray):Option (Bool):=(dI a).m
theorem ZGO{C:Cx}(co:CO C 0)(a:List ByteArray):KL Tryz.prog (AC tl) 20 C (pa [0,0,1,0,1] (Az Tryz.f35)) [.tmp 2] 0 (um a) (uE) Sk nG (XS a):=fun e _ hm Q b d c=>As co Aa Ae (a6 a e) (AK [0,3]) nl d hm c fun r g=>⟨fun f=>fun h=>⟨id,id⟩,id⟩
theorem ZUU(b:List ByteArray):KC Tryz.prog 35 [vL Bx b] (jq b) Sk:=AE Tryz.func35 Tryz.ntmps35 Aa [.tmp 2] fun C co y hm c a=>Aj co Aa Ae 1 (dI b) (AK [0]) nl nH hm a fun r g=>fun _ hm a=>sq (Aj co Aa Ae 1 (cH b) (AK [0,3]) nl nH hm a fun r g=>fun _ hm a=>bk 0 (lo (AF (ZGO co b) nH hm a (fun _ hm=>Ax co Aa Ae (eB) hm a fun r g=>id))))
abbrev Sy:Bool→AV:=fun y=>vB y
def ub(a:List ByteArray)(b:ByteArray):Nat→St:=fun c=>Ad [(0,vL Bx a),(1,vS b),(5,vN c)] []
def uI:Unit→Nat×St:=fun _=>(0,Ad [] [])
def Tx(a:List ByteArray)(c:ByteArray)(b:Nat):PT 0 (Lv (Nat) (Unit) (Bool)):=vz (An a)<|br (decide ((b:Int)<(a.length:Int))) (ix a b fun d=>br (decide (d=c)) (AA Sy nG true) (vs (wa b 1)<|ln (ub a c) (b+1))) (Ah (uI) ())
def Nm(a:List ByteArray)(b:ByteArray):Nat→Option (Lv (Nat) (Unit) (Bool)):=fun c=>(Tx a b c).m
def TU:PT 0 (Bool):=lr Sy nG false
def Tc(a:List ByteArray)(b:ByteArray):PT 0 (Bool):=lc (Ad [(0,vL Bx a),(1,vS b),(5,vI 0)] []) ((Ak (Nm a b) Am 0).bind (Sum.elim (fun _=>(TU).m) some))
def Za(a:List ByteArray)(b:ByteArray):PT 0 (Bool):=lc (Ad [(0,vL Bx a),(1,vS b)] []) ((Tc a b).m)
def Pz(a:List ByteArray)(b:ByteArray):Option (Bool):=(Za a b).m
theorem ZIB{C:Cx}(co:CO C 0)(a:List ByteArray)(b:ByteArray):KL Tryz.prog (AC tl) 18 C (pa [0,0,1,0,1] (Az Tryz.f63)) [.tmp 4] 0 (ub a b) (uI) Sy nG (Nm a b):=fun f _ hm Q c e d=>As co Aa Ae (Tx a b f) (AK [0,1,5]) nl e hm d fun r g=>⟨fun h=>⟨id,id⟩,id⟩
theorem yg(b:List ByteArray)(c:ByteArray):KC Tryz.prog 63 [vL Bx b,vS c] (Pz b c) Sy:=AE Tryz.func63 Tryz.ntmps63 Aa [.tmp 4] fun C co y hm d a=>Aj co Aa Ae 1 (Za b c) (AK [0,1]) nl nH hm a fun r g=>fun _ hm a=>sq (Aj co Aa Ae 1 (Tc b c) (AK [0,1,5]) nl nH hm a fun r g=>fun _ hm a=>bk 0 (lo (AF (ZIB co b c) nH hm a (fun _ hm=>Ax co Aa Ae (TU) hm a fun r g=>id))))
abbrev Sl:Bool→AV:=fun y=>vB y
def v7(a:List ByteArray)(b:List ByteArray):Nat→St:=fun c=>Ad [(0,vL Bx a),(1,vL Bx b),(5,vN c)] []
def uj:Unit→Nat×St:=fun _=>(0,Ad [] [])
def dt(a:List ByteArray)(c:List ByteArray)(b:Nat):PT 0 (Lv (Nat) (Unit) (Bool)):=vz (An a)<|br (decide ((b:Int)<(a.length:Int))) (ix a b fun d=>cl (yg c d) fun e=>br e (AA Sl nG true) (vs (wa b 1)<|ln (v7 a c) (b+1))) (Ah (uj) ())
def XE(a:List ByteArray)(b:List ByteArray):Nat→Option (Lv (Nat) (Unit) (Bool)):=fun c=>(dt a b c).m
def gK:PT 0 (Bool):=lr Sl nG false
def eD(a:List ByteArray)(b:List ByteArray):PT 0 (Bool):=lc (Ad [(0,vL Bx a),(1,vL Bx b),(5,vI 0)] []) ((Ak (XE a b) Am 0).bind (Sum.elim (fun _=>(gK).m) some))
def gG(a:List ByteArray)(b:List ByteArray):PT 0 (Bool):=lc (Ad [(0,vL Bx a),(1,vL Bx b)] []) ((eD a b).m)
def jJ(a:List ByteArray)(b:List ByteArray):Option (Bool):=(gG a b).m
theorem ZKS{C:Cx}(co:CO C 0)(a:List ByteArray)(b:List ByteArray):KL Tryz.prog (AC tl) 18 C (pa [0,0,1,0,1] (Az Tryz.f36)) [.tmp 4] 0 (v7 a b) (uj) Sl nG (XE a b):=fun f _ hm Q c e d=>As co Aa Ae (dt a b f) (AK [0,1,5]) nl e hm d fun r g=>⟨fun h=>fun i=>⟨id,id⟩,id⟩
theorem jc(b:List ByteArray)(c:List ByteArray):KC Tryz.prog 36 [vL Bx b,vL Bx c] (jJ b c) Sl:=AE Tryz.func36 Tryz.ntmps36 Aa [.tmp 4] fun C co y hm d a=>Aj co Aa Ae 1 (gG b c) (AK [0,1]) nl nH hm a fun r g=>fun _ hm a=>sq (Aj co Aa Ae 1 (eD b c) (AK [0,1,5]) nl nH hm a fun r g=>fun _ hm a=>bk 0 (lo (AF (ZKS co b c) nH hm a (fun _ hm=>Ax co Aa Ae (gK) hm a fun r g=>id))))
abbrev AB(a:Scm):Af×Blk:=kk 2 26 3 (cD (Ar a))
abbrev SD:Int→AV:=fun y=>vI y
def w3(a:Scm)(b:ByteArray):Nat→St:=fun c=>Ad [(1,vS b),pp 2,(5,vN c)] [(AB a)]
def uC:Unit→Nat×St:=fun _=>(0,Ad [] [])
def a2(b:Scm)(c:ByteArray)(a:Nat):PT 0 (Lv (Nat) (Unit) (Int)):=wg<|vz (An b.messages)<|br (decide ((a:Int)<(b.messages.length:Int))) (wg<|ix b.messages a fun d=>br (decide (d.name=c)) (AA SD nG (a:Int)) (vs (wa a 1)<|ln (w3 b c) (a+1))) (Ah (uC) ())
def Xx(a:Scm)(b:ByteArray):Nat→Option (Lv (Nat) (Unit) (Int)):=fun c=>(a2 a b c).m
def cA:PT 0 (Int):=lr SD nG (-1)
def gU(a:Scm)(b:ByteArray):PT 0 (Int):=lc (Ad [(1,vS b),pp 2,(5,vI 0)] [(AB a)]) ((Ak (Xx a b) Am 0).bind (Sum.elim (fun _=>(cA).m) some))
def gJ(a:Scm)(b:ByteArray):PT 0 (Int):=lc (Ad [(1,vS b),pp 2] [(AB a)]) ((gU a b).m)
def jy(a:Scm)(b:ByteArray):Option (Int):=(gJ a b).m
theorem ZET{C:Cx}(co:CO C 0)(a:Scm)(b:ByteArray):KL Tryz.prog (AC tl) 22 C (pa [0,0,1,0,1] (Az Tryz.f75)) [.tmp 4] 0 (w3 a b) (uC) SD nG (Xx a b):=fun f _ hm Q c e d=>As co Aa Ae (a2 a b f) (Ac [1,2,5] ES) nl e hm d fun r g=>⟨fun h=>⟨id,id⟩,id⟩
theorem Pi(b:Scm)(c:ByteArray):KC Tryz.prog 75 [.agg ((Ar b).map .d),vS c] (jy b c) SD:=AE Tryz.func75 Tryz.ntmps75 Aa [.tmp 4] fun C co y hm d a=>Aj co Aa Ae 1 (gJ b c) (Ac [1,2] ES) nl nH hm a fun r g=>fun _ hm a=>sq (Aj co Aa Ae 1 (gU b c) (Ac [1,2,5] ES) nl nH hm a fun r g=>fun _ hm a=>bk 0 (lo (AF (ZET co b c) nH hm a (fun _ hm=>Ax co Aa Ae (cA) hm a fun r g=>id))))
abbrev qg(a:Scm):Af×Blk:=kk 3 26 3 (cD (Ar a))
abbrev qh(a:Msg):Af×Blk:=kk 4 45 5 (cD (AU a))
abbrev SA:Bool→AV:=fun y=>vB y
def gT(a:Scm)(b:Msg)(c:List Bool):Nat→St:=fun d=>Ad [(2,vL AY c),pp 3,pp 4,(7,vN d)] [(qg a),(qh b)]
def uH:Unit→Nat×St:=fun _=>(0,Ad [] [])
def fm(d:Scm)(b:Msg)(e:List Bool)(a:Nat):PT 0 (Lv (Nat) (Unit) (Bool)):=wg<|vz (An b.fields)<|br (decide ((a:Int)<(b.fields.length:Int))) (wg<|ix b.fields a fun c=>wg<|wg<|wg<|br ((!decide (c.card=(1:Int)))||(!decide (c.type.kind=(10:Int)))) (vs (wa a 1)<|ln (gT d b e) (a+1)) (wg<|wg<|cl (Pi d c.type.name) fun f=>AZ (decide ((0:Int)≤f)) e f fun g=>br (decide ((0:Int)≤f)&&(!g)) (AA SA nG true) (vs (wa a 1)<|ln (gT d b e) (a+1)))) (Ah (uH) ())
def To(a:Scm)(b:Msg)(c:List Bool):Nat→Option (Lv (Nat) (Unit) (Bool)):=fun d=>(fm a b c d).m
def cZ:PT 0 (Bool):=lr SA nG false
def gh(a:Scm)(b:Msg)(c:List Bool):PT 0 (Bool):=lc (Ad [(2,vL AY c),pp 3,pp 4,(7,vI 0)] [(qg a),(qh b)]) ((Ak (To a b c) Am 0).bind (Sum.elim (fun _=>(cZ).m) some))
def cg(a:Scm)(b:Msg)(c:List Bool):PT 0 (Bool):=lc (Ad [(2,vL AY c),pp 3,pp 4] [(qg a),(qh b)]) ((gh a b c).m)
def j7(a:Scm)(b:Msg)(c:List Bool):Option (Bool):=(cg a b c).m
theorem ZEQ{C:Cx}(co:CO C 0)(a:Scm)(b:Msg)(c:List Bool):KL Tryz.prog (AC tl) 45 C (pa [0,0,1,0,1] (Az Tryz.f64)) [.tmp 6] 0 (gT a b c) (uH) SA nG (To a b c):=fun h _ hm Q d f e=>As co Aa Ae (fm a b c h) (Ac [2,3,4,7] [((1,3),false),((1,4),false)]) nl f hm e fun r g=>⟨fun i=>⟨id,fun k=>fun j=>⟨id,id⟩⟩,id⟩
theorem ZVP(b:Scm)(c:Msg)(d:List Bool):KC Tryz.prog 64 [.agg ((Ar b).map .d),.agg ((AU c).map .d),vL AY d] (j7 b c d) SA:=AE Tryz.func64 Tryz.ntmps64 Aa [.tmp 6] fun C co y hm e a=>Aj co Aa Ae 1 (cg b c d) (Ac [2,3,4] [((1,3),false),((1,4),false)]) nl nH hm a fun r g=>fun _ hm a=>sq (Aj co Aa Ae 1 (gh b c d) (Ac [2,3,4,7] [((1,3),false),((1,4),false)]) nl nH hm a fun r g=>fun _ hm a=>bk 0 (lo (AF (ZEQ co b c d) nH hm a (fun _ hm=>Ax co Aa Ae (cZ) hm a fun r g=>id))))
abbrev ql:List (Af×Bool):=[((0,0),true),((1,3),false),((1,4),false)]
abbrev Ai:List (Af×Bool):=[((0,0),true)]
abbrev qi(a:Scm):Af×Blk:=kk 3 26 3 (cD (Ar a))
abbrev qj(a:Msg):Af×Blk:=kk 4 45 5 (cD (AU a))
abbrev TC:Bool→AV:=fun y=>vB y
@[reducible] def XX(a:List Bool):Bool→List Blk:=fun y=>[⟨0,true,4,1,Ab AY a⟩]
def lF(b:Scm)(c:Msg)(a:List Bool):Nat→St:=fun d=>Ad [(2,.ref (0,0) 0 0 a.length),pp 3,pp 4,(7,vN d)] [((0,0),⟨0,true,4,1,Ab AY a⟩),(qi b),(qj c)]
def ZrV(a:List Bool):Unit→Nat×St:=fun _=>(0,Ad [] [((0,0),⟨0,true,4,1,Ab AY a⟩)])
def lK(f:Scm)(c:Msg)(a:List Bool)(b:Nat):PT 1 (Lv (Nat) (Unit) (Bool)):=wg<|vz (An c.fields)<|br (decide ((b:Int)<(c.fields.length:Int))) (wg<|ix c.fields b fun e=>wg<|wg<|wg<|br ((!decide (e.card=(1:Int)))||(!decide (e.type.kind=(10:Int)))) (vs (wa b 1)<|vz (fl a)<|ln (lF f c a) (b+1)) (wg<|wg<|cl (Pi f e.type.name) fun d=>vg (decide ((0:Int)≤d)) (AH d a.length 1)<|Fl (decide ((0:Int)≤d)) a d.toNat fun g=>br (decide ((0:Int)≤d)&&(!g)) (AA TC (XX a) true) (vs (wa b 1)<|vz (fl a)<|ln (lF f c a) (b+1)))) (vz (fl a)<|Ah (ZrV a) ())
def Wm(a:Scm)(b:Msg)(c:List Bool):Nat→Option (Lv (Nat) (Unit) (Bool)):=fun d=>(lK a b c d).m
def lR(a:List Bool):PT 1 (Bool):=lr TC (XX a) false
def lM(b:Scm)(c:Msg)(a:List Bool):PT 1 (Bool):=vz (fl a)<|lc (Ad [(2,.ref (0,0) 0 0 a.length),pp 3,pp 4,(7,vI 0)] [((0,0),⟨0,true,4,1,Ab AY a⟩),(qi b),(qj c)]) ((Ak (Wm b c a) Am 0).bind (Sum.elim (fun _=>(lR a).m) some))
def lI(b:Scm)(c:Msg)(a:List Bool):PT 1 (Bool):=vz (fl a)<|lc (Ad [(2,.ref (0,0) 0 0 a.length),pp 3,pp 4] [((0,0),⟨0,true,4,1,Ab AY a⟩),(qi b),(qj c)]) ((lM b c a).m)
def U9(a:Scm)(b:Msg)(c:List Bool):Option (Bool):=(lI a b c).m
theorem ZuY{C:Cx}(co:CO C 1)(b:Scm)(c:Msg)(a:List Bool):KL Tryz.prog (AC tl) 45 C (pa [0,0,1,0,1] (Az Tryz.f64)) [.tmp 6] 1 (lF b c a) (ZrV a) TC (XX a) (Wm b c a):=fun h _ hm Q d f e=>As co Aa Ae (lK b c a h) (Ac [2,3,4,7] ql) (Ac [] Ai) f hm e fun r g=>⟨fun i=>⟨id,fun k=>fun j=>⟨id,id⟩⟩,id⟩
theorem ZPM(c:Scm)(d:Msg)(a:List Bool):KO Tryz.prog 64 1 [.agg ((Ar c).map .d),.agg ((AU d).map .d),.ref (0,0) 0 0 a.length] [⟨0,true,4,1,Ab AY a⟩] (fun _ _ _ _=>True) (U9 c d a) TC (XX a):=Bv Tryz.func64 Tryz.ntmps64 Aa [.tmp 6] 1 (fun C co f y hm e b=>Aj co Aa Ae 1 (lI c d a) (Ac [2,3,4] ql) nl nH hm b fun r g=>fun _ hm b=>sq (Aj co Aa Ae 1 (lM c d a) (Ac [2,3,4,7] ql) nl nH hm b fun r g=>fun _ hm b=>bk 0 (lo (AF (ZuY co c d a) nH hm b (fun _ hm=>Ax co Aa Ae (lR a) hm b fun r g=>id))))) (hB:=fun y=>⟨.inl (Aw _ _),rfl,trivial⟩)
abbrev LP:List (Af×Bool):=[((1,1),false),((1,10),true)]
abbrev LK(a:Scm):Af×Blk:=kk 1 26 3 (cD (Ar a))
abbrev Sm:List Bool→AV:=fun y=>vL AY y
def uU(b:Scm):Bool×Nat×List Bool→St:=fun(c,v2,a)=>Ad [pp 1,(3,.ref (1,10) 0 0 a.length),(4,vB c),(5,vN v2)] [(LK b),kk 10 4 1 (Ab AY a)]
def xo:List Bool→Nat×St:=fun a=>(0,Ad [(3,.ref (1,10) 0 0 a.length)] [kk 10 4 1 (Ab AY a)])
def dT(b:Scm)(v2:Nat):Bool×Nat×List Bool→St:=fun(v4,c,a)=>Ad [pp 1,(3,.ref (1,10) 0 0 a.length),(4,vB v4),(5,vN v2),(6,vN c)] [(LK b),kk 10 4 1 (Ab AY a)]
def vP(c:Scm)(v2:Nat):Bool×List Bool→Nat×St:=fun(b,a)=>(2,Ad [pp 1,(3,.ref (1,10) 0 0 a.length),(4,vB b),(5,vN v2)] [(LK c),kk 10 4 1 (Ab AY a)])
def eY(c:Scm)(v2:Nat)(v4:Bool)(b:Nat)(a:List Bool):PT 0 (Lv (Bool×Nat×List Bool) (Bool×List Bool) (List Bool)):=wg<|vz (An c.messages)<|br (decide ((b:Int)<(c.messages.length:Int))) (vs (ir b a.length 1)<|ca a b fun d=>wg<|wg<|AZ (!d) c.messages (b:Int) fun e=>J2 (!d) Tryz.prog 64 [.agg ((Ar c).map .d),.agg ((AU e).map .d),.ref (1,10) 0 0 a.length] [(1,10)] [kk 10 4 1 (Ab AY a)] (U9 c e a) (fun y=>vB y) fun f=>br ((!d)&&(!f)) (vs (ir b a.length 1)<|vs (st a b true)<|rn 3 10 a.length (a.set b true)<|vw .sep<|vs (wa b 1)<|vz (fl (a.set b true))<|ln (dT c v2) (true,b+1,a.set b true)) (vs (wa b 1)<|vz (fl a)<|ln (dT c v2) (v4,b+1,a))) (vz (fl a)<|Ah (vP c v2) (v4,a))
def Xt(a:Scm)(v2:Nat):Bool×Nat×List Bool→Option (Lv (Bool×Nat×List Bool) (Bool×List Bool) (List Bool)):=fun(v4,c,b)=>(eY a v2 v4 c b).m
def eu(c:Scm)(v2:Nat)(b:Bool)(a:List Bool):PT 0 (Lv (Bool×Nat×List Bool) (List Bool) (List Bool)):=vs (wa v2 1)<|vz (fl a)<|ln (uU c) (b,v2+1,a)
def bJ(b:Scm)(v2:Nat)(a:List Bool):PT 0 (Lv (Bool×Nat×List Bool) (List Bool) (List Bool)):=vz (fl a)<|lc (Ad [pp 1,(3,.ref (1,10) 0 0 a.length),(4,vB false),(5,vN v2),(6,vI 0)] [(LK b),kk 10 4 1 (Ab AY a)]) ((Ak (Xt b v2) Am (false,0,a)).bind (Sum.elim (fun(d,c)=>(eu b v2 d c).m) (fun z=>some (.rt z))))
def aO(b:Scm)(c:Bool)(v2:Nat)(a:List Bool):PT 0 (Lv (Bool×Nat×List Bool) (List Bool) (List Bool)):=wg<|vz (An b.messages)<|br (decide ((v2:Int)<(b.messages.length:Int))&&c) (vz (fl a)<|lc (Ad [pp 1,(3,.ref (1,10) 0 0 a.length),(5,vN v2)] [(LK b),kk 10 4 1 (Ab AY a)]) ((bJ b v2 a).m)) (vz (fl a)<|Ah (xo) a)
def Tm(a:Scm):Bool×Nat×List Bool→Option (Lv (Bool×Nat×List Bool) (List Bool) (List Bool)):=fun(c,v2,b)=>(aO a c v2 b).m
def dP(a:List Bool):PT 0 (List Bool):=vz (fr a)<|lr Sm nG a
def db(a:Scm):PT 0 (List Bool):=vz (fl (List.replicate a.messages.length false))<|lc (Ad [pp 1,(3,.ref (1,10) 0 0 (List.replicate a.messages.length false).length),(4,vB true),(5,vI 0)] [(LK a),kk 10 4 1 (Ab AY (List.replicate a.messages.length false))]) ((Ak (Tm a) Am (true,0,List.replicate a.messages.length false)).bind (Sum.elim (fun b=>(dP b).m) some))
def bN(a:Scm):PT 0 (List Bool):=wg<|vz (An a.messages)<|ms a.messages.length false [vB false] (by first|rfl|kernel_rfl)<|vz (fl (List.replicate a.messages.length false))<|lc (Ad [pp 1,(3,.ref (1,10) 0 0 (List.replicate a.messages.length false).length),(4,vB true)] [(LK a),kk 10 4 1 (Ab AY (List.replicate a.messages.length false))]) ((db a).m)
def jO(a:Scm):Option (List Bool):=(bN a).m
theorem ZKA{C:Cx}(co:CO C 0)(a:Scm)(v2:Nat):KL Tryz.prog (AC tl) 48 C (pa [0,0,1,1,0,0,1,0,0,1,0,1,1,1] (Az Tryz.f37)) [.tmp 2] 0 (dT a v2) (vP a v2) Sm nG (Xt a v2):=fun(v4,h,b) _ hm Q c f e=>As co Aa Ae (eY a v2 v4 h b) (Ac [1,3,4,5,6] LP) (Ac [1,3,4,5] LP) f hm e fun r g=>⟨fun j=>fun d=>⟨fun y hy=>G8 (ZPM a d b) hy co g [kk 10 4 1 (Ab AY b)] [] (AG []) (fun i k l=>trivial) (fun H=>⟨fun _=>⟨rfl,AD (Aw _ _) (by kernel_rfl)⟩,by kernel_rfl,trivial⟩),fun m=>⟨id,id⟩⟩,id⟩
theorem ZIK{C:Cx}(co:CO C 0)(b:Scm):KL Tryz.prog (AC tl) 48 C (pa [0,0,1,0,1,1,1] (Az Tryz.f37)) [.tmp 2] 0 (uU b) (xo) Sm nG (Tm b):=fun(i,v2,h) _ hm Q f c a=>Aj co Aa Ae 1 (aO b i v2 h) (Ac [1,3,5] LP) (Ac [3] [((1,10),true)]) c hm a fun r g=>⟨fun _ hm a=>sq (bk 1 (Aj co Aa Ae 2 (bJ b v2 h) (Ac [1,3,4,5,6] LP) nl c hm a fun r g=>fun _ hm a=>bk 2 (lo (Ek (ZKA co b v2) c hm a (fun(e,d) hm=>As co Aa Ae (eu b v2 e d) (Ac [1,3,4,5] LP) nl c hm a fun r g=>id))))),id⟩
theorem ZVj(b:Scm):KC Tryz.prog 37 [.agg ((Ar b).map .d)] (jO b) Sm:=AE Tryz.func37 Tryz.ntmps37 Aa [.tmp 2] fun C co y hm d a=>Aj co Aa Ae 3 (bN b) (Ac [1,3,4] LP) nl nH hm a fun r g=>fun _ hm a=>sq (Aj co Aa Ae 1 (db b) (Ac [1,3,4,5] LP) nl nH hm a fun r g=>fun _ hm a=>bk 0 (lo (AF (ZIK co b) nH hm a (fun c hm=>Ax co Aa Ae (dP c) hm a fun r g=>id))))
abbrev yr:Bool→AV:=fun y=>vB y
def r9(a:Int):PT 0 (Bool):=lr yr nG (decide ((97:Int)≤a)&&decide (a≤(122:Int)))
def zh(a:Int):Option (Bool):=(r9 a).m
theorem u0(a:Int):KC Tryz.prog 135 [.d (.int .u8 a)] (zh a) yr:=AE Tryz.func135 Tryz.ntmps135 Aa [.tmp 2] fun C co y hm b c=>Ax co Aa Ae (r9 a) hm c fun r g=>id
abbrev yz:Bool→AV:=fun y=>vB y
def tG(a:Int):PT 0 (Bool):=lr yz nG (decide ((65:Int)≤a)&&decide (a≤(90:Int)))
def za(a:Int):Option (Bool):=(tG a).m
theorem xw(a:Int):KC Tryz.prog 136 [.d (.int .u8 a)] (za a) yz:=AE Tryz.func136 Tryz.ntmps136 Aa [.tmp 2] fun C co y hm b c=>Ax co Aa Ae (tG a) hm c fun r g=>id
abbrev Pn:Bool→AV:=fun y=>vB y
def tj(a:ByteArray):Nat→St:=fun b=>Ad [(0,vS a),(3,vN b)] []
def rM:Unit→Nat×St:=fun _=>(0,Ad [] [])
def nF(a:ByteArray)(b:Nat):PT 0 (Lv (Nat) (Unit) (Bool)):=vz (Bz a.size)<|br (decide ((b:Int)<(a.size:Int))) (ib a b fun h=>cl (u0 (h.toNat:Int)) fun d=>Gc (!d) a (b:Int) fun i=>AO (!d) (xw (i.toNat:Int)) fun f=>Gc ((!d)&&(!f)) a (b:Int) fun c=>Gc (((!d)&&(!f))&&(!decide ((c.toNat:Int)=(95:Int)))) a (b:Int) fun e=>Gc ((((!d)&&(!f))&&(!decide ((c.toNat:Int)=(95:Int))))&&(!(decide ((e.toNat:Int)<(48:Int))))) a (b:Int) fun g=>br ((((!d)&&(!f))&&(!decide ((c.toNat:Int)=(95:Int))))&&(decide ((e.toNat:Int)<(48:Int))||decide ((57:Int)<(g.toNat:Int)))) (AA Pn nG false) (vs (wa b 1)<|ln (tj a) (b+1))) (Ah (rM) ())
def WR(a:ByteArray):Nat→Option (Lv (Nat) (Unit) (Bool)):=fun b=>(nF a b).m
def nQ:PT 0 (Bool):=lr Pn nG true
def oF(a:ByteArray):PT 0 (Bool):=lc (Ad [(0,vS a),(3,vI 1)] []) ((Ak (WR a) Am 1).bind (Sum.elim (fun _=>(nQ).m) some))
def n5(a:ByteArray):PT 0 (Bool):=vz (Bz a.size)<|vy (!(decide ((a.size:Int)=(0:Int)))) (Bz a.size)<|Gc (!(decide ((a.size:Int)=(0:Int))||decide ((40:Int)<(a.size:Int)))) a 0 fun c=>AO (!(decide ((a.size:Int)=(0:Int))||decide ((40:Int)<(a.size:Int)))) (u0 (c.toNat:Int)) fun b=>Gc ((!(decide ((a.size:Int)=(0:Int))||decide ((40:Int)<(a.size:Int))))&&(!b)) a 0 fun d=>AO ((!(decide ((a.size:Int)=(0:Int))||decide ((40:Int)<(a.size:Int))))&&(!b)) (xw (d.toNat:Int)) fun e=>br ((decide ((a.size:Int)=(0:Int))||decide ((40:Int)<(a.size:Int)))||((!b)&&(!e))) (lr Pn nG false) (lc (Ad [(0,vS a)] []) ((oF a).m))
def jS(a:ByteArray):Option (Bool):=(n5 a).m
theorem Zz4{C:Cx}(co:CO C 0)(a:ByteArray):KL Tryz.prog (AC tl) 60 C (pa [0,0,1,0,1,1] (Az Tryz.f101)) [.tmp 2] 0 (tj a) (rM) Pn nG (WR a):=fun i _ hm Q b h f=>As co Aa Ae (nF a i) (AK [0,3]) nl h hm f fun r g=>⟨fun j=>fun l=>fun k=>fun m=>fun c=>fun d=>fun e=>⟨id,id⟩,id⟩
theorem bd(b:ByteArray):KC Tryz.prog 101 [vS b] (jS b) Pn:=AE Tryz.func101 Tryz.ntmps101 Aa [.tmp 2] fun C co y hm c a=>Aj co Aa Ae 2 (n5 b) (AK [0]) nl nH hm a fun r g=>fun d=>fun f=>fun e=>fun h=>⟨id,fun _ hm a=>sq (Aj co Aa Ae 1 (oF b) (AK [0,3]) nl nH hm a fun r g=>fun _ hm a=>bk 0 (lo (AF (Zz4 co b) nH hm a (fun _ hm=>Ax co Aa Ae (nQ) hm a fun r g=>id))))⟩
abbrev Oq:Bool→AV:=fun y=>vB y
def aW(a:ByteArray):ByteArray×Nat→St:=fun(b,v2)=>Ad [(0,vS a),(3,vS b),(4,vN v2)] []
def uM:ByteArray→Nat×St:=fun a=>(0,Ad [(3,vS a)] [])
def fZ(a:ByteArray)(b:ByteArray)(v2:Nat):PT 0 (Lv (ByteArray×Nat) (ByteArray) (Bool)):=vz (Bz a.size)<|br (decide ((v2:Int)<(a.size:Int))) (ib a v2 fun c=>br (!decide ((c.toNat:Int)=(46:Int))) (vs (wa v2 1)<|ss a (.nt v2) (.nt (v2+1)) fun d=>ad b d fun e=>vs (wa v2 1)<|ln (aW a) (e,v2+1)) (cl (bd b) fun f=>br (!f) (AA Oq nG false) (vs (wa v2 1)<|ln (aW a) (⟨#[]⟩,v2+1)))) (Ah (uM) b)
def TD(a:ByteArray):ByteArray×Nat→Option (Lv (ByteArray×Nat) (ByteArray) (Bool)):=fun(b,v2)=>(fZ a b v2).m
def fq(a:ByteArray):PT 0 (Bool):=cl (bd a) fun b=>lr Oq nG b
def dC(a:ByteArray):PT 0 (Bool):=lc (Ad [(0,vS a),(3,vS ⟨#[]⟩),(4,vI 0)] []) ((Ak (TD a) Am (⟨#[]⟩,0)).bind (Sum.elim (fun b=>(fq b).m) some))
def fR(a:ByteArray):PT 0 (Bool):=vz (Bz a.size)<|br (decide ((120:Int)<(a.size:Int))) (lr Oq nG false) (lc (Ad [(0,vS a),(3,vS ⟨#[]⟩)] []) ((dC a).m))
def jl(a:ByteArray):Option (Bool):=(fR a).m
theorem ZHq{C:Cx}(co:CO C 0)(a:ByteArray):KL Tryz.prog (AC tl) 30 C (pa [0,0,1,0,1,1,1] (Az Tryz.f98)) [.tmp 2] 0 (aW a) (uM) Oq nG (TD a):=fun(e,v2) _ hm Q b d c=>As co Aa Ae (fZ a e v2) (AK [0,3,4]) (AK [3]) d hm c fun r g=>⟨fun f=>⟨fun h=>fun i=>id,fun j=>⟨id,id⟩⟩,id⟩
theorem ZWg(b:ByteArray):KC Tryz.prog 98 [vS b] (jl b) Oq:=AE Tryz.func98 Tryz.ntmps98 Aa [.tmp 2] fun C co y hm c a=>Aj co Aa Ae 3 (fR b) (AK [0,3]) nl nH hm a fun r g=>⟨id,fun _ hm a=>sq (Aj co Aa Ae 1 (dC b) (AK [0,3,4]) nl nH hm a fun r g=>fun _ hm a=>bk 0 (lo (AF (ZHq co b) nH hm a (fun d hm=>Ax co Aa Ae (fq d) hm a fun r g=>fun e=>id))))⟩
abbrev SF:ByteArray×ByteArray→AV:=fun y=>.tup [vS y.1,vS y.2]
def xM(a:ByteArray):Int→St:=fun b=>Ad [(0,vS a),(4,vI b)] []
def uR(a:ByteArray):Unit→Nat×St:=fun _=>(0,Ad [(0,vS a)] [])
def bo(b:ByteArray)(a:Int):PT 0 (Lv (Int) (Unit) (ByteArray×ByteArray)):=br (decide ((0:Int)≤a)) (Sc b a fun c=>br (decide ((c.toNat:Int)=(46:Int))) (ss b .no (.it a) fun d=>vs (wi (a+1))<|ss b (.it (a+1)) .no fun e=>AA SF nG (d,e)) (vs (wi (a-1))<|ln (xM b) (a-1))) (Ah (uR b) ())
def Xu(a:ByteArray):Int→Option (Lv (Int) (Unit) (ByteArray×ByteArray)):=fun b=>(bo a b).m
def fM(a:ByteArray):PT 0 (ByteArray×ByteArray):=lr SF nG (⟨#[]⟩,a)
def dM(a:ByteArray):PT 0 (ByteArray×ByteArray):=vz (Bz a.size)<|vs (wi ((a.size:Int)-1))<|lc (Ad [(0,vS a),(4,vI ((a.size:Int)-1))] []) ((Ak (Xu a) Am ((a.size:Int)-1)).bind (Sum.elim (fun _=>(fM a).m) some))
def bf(a:ByteArray):PT 0 (ByteArray×ByteArray):=lc (Ad [(0,vS a)] []) ((dM a).m)
def jV(a:ByteArray):Option (ByteArray×ByteArray):=(bf a).m
theorem ZKV{C:Cx}(co:CO C 0)(a:ByteArray):KL Tryz.prog (AC tl) 24 C (pa [0,0,1,0,1] (Az Tryz.f99)) [.tmp 2,.tmp 3] 0 (xM a) (uR a) SF nG (Xu a):=fun e _ hm Q b d c=>As co Aa Ae (bo a e) (AK [0,4]) (AK [0]) d hm c fun r g=>⟨fun f=>⟨fun h=>fun i=>id,id⟩,id⟩
theorem ZVY(b:ByteArray):KC Tryz.prog 99 [vS b] (jV b) SF:=AE Tryz.func99 Tryz.ntmps99 Aa [.tmp 2,.tmp 3] fun C co y hm c a=>Aj co Aa Ae 1 (bf b) (AK [0]) nl nH hm a fun r g=>fun _ hm a=>sq (Aj co Aa Ae 1 (dM b) (AK [0,4]) nl nH hm a fun r g=>fun _ hm a=>bk 0 (lo (AF (ZKV co b) nH hm a (fun _ hm=>Ax co Aa Ae (fM b) hm a fun r g=>id))))
abbrev Bl:Bool→AV:=fun y=>vB y
def nE(a:ByteArray):PT 0 (Bool):=br (decide (a=(⟨#[109,101,115,115,97,103,101]⟩:ByteArray))) (br (decide (a=(⟨#[109,101,115,115,97,103,101]⟩:ByteArray))) (lr Bl nG true) (lr Bl nG false)) (br (decide (a=(⟨#[101,110,117,109]⟩:ByteArray))) (br (decide (a=(⟨#[101,110,117,109]⟩:ByteArray))) (lr Bl nG true) (lr Bl nG false)) (br (decide (a=(⟨#[115,101,114,118,105,99,101]⟩:ByteArray))) (br (decide (a=(⟨#[115,101,114,118,105,99,101]⟩:ByteArray))) (lr Bl nG true) (lr Bl nG false)) (br (decide (a=(⟨#[117,110,105,111,110]⟩:ByteArray))) (br (decide (a=(⟨#[117,110,105,111,110]⟩:ByteArray))) (lr Bl nG true) (lr Bl nG false)) (br (decide (a=(⟨#[109,97,112]⟩:ByteArray))) (br (decide (a=(⟨#[109,97,112]⟩:ByteArray))) (lr Bl nG true) (lr Bl nG false)) (br (decide (a=(⟨#[108,105,115,116]⟩:ByteArray))) (br (decide (a=(⟨#[108,105,115,116]⟩:ByteArray))) (lr Bl nG true) (lr Bl nG false)) (br (decide (a=(⟨#[114,101,113,117,105,114,101,100]⟩:ByteArray))) (br (decide (a=(⟨#[114,101,113,117,105,114,101,100]⟩:ByteArray))) (lr Bl nG true) (lr Bl nG false)) (br (decide (a=(⟨#[111,112,116,105,111,110,97,108]⟩:ByteArray))) (br (decide (a=(⟨#[111,112,116,105,111,110,97,108]⟩:ByteArray))) (lr Bl nG true) (lr Bl nG false)) (br (decide (a=(⟨#[112,108,97,105,110]⟩:ByteArray))) (br (decide (a=(⟨#[112,108,97,105,110]⟩:ByteArray))) (lr Bl nG true) (lr Bl nG false)) (br (decide (a=(⟨#[100,101,102,97,117,108,116]⟩:ByteArray))) (br (decide (a=(⟨#[100,101,102,97,117,108,116]⟩:ByteArray))) (lr Bl nG true) (lr Bl nG false)) (br (decide (a=(⟨#[114,101,115,101,114,118,101,100]⟩:ByteArray))) (br (decide (a=(⟨#[114,101,115,101,114,118,101,100]⟩:ByteArray))) (lr Bl nG true) (lr Bl nG false)) (br (decide (a=(⟨#[105,109,112,111,114,116]⟩:ByteArray))) (br (decide (a=(⟨#[105,109,112,111,114,116]⟩:ByteArray))) (lr Bl nG true) (lr Bl nG false)) (br (decide (a=(⟨#[115,112,97,99,101]⟩:ByteArray))) (br (decide (a=(⟨#[115,112,97,99,101]⟩:ByteArray))) (lr Bl nG true) (lr Bl nG false)) (br (decide (a=(⟨#[114,112,99]⟩:ByteArray))) (br (decide (a=(⟨#[114,112,99]⟩:ByteArray))) (lr Bl nG true) (lr Bl nG false)) (br (decide (a=(⟨#[115,116,114,101,97,109]⟩:ByteArray))) (br (decide (a=(⟨#[115,116,114,101,97,109]⟩:ByteArray))) (lr Bl nG true) (lr Bl nG false)) (br (decide (a=(⟨#[114,101,116,117,114,110,115]⟩:ByteArray))) (br (decide (a=(⟨#[114,101,116,117,114,110,115]⟩:ByteArray))) (lr Bl nG true) (lr Bl nG false)) (br (decide (a=(⟨#[111,112,101,110]⟩:ByteArray))) (br (decide (a=(⟨#[111,112,101,110]⟩:ByteArray))) (lr Bl nG true) (lr Bl nG false)) (br (decide (a=(⟨#[116,114,117,101]⟩:ByteArray))) (br (decide (a=(⟨#[116,114,117,101]⟩:ByteArray))) (lr Bl nG true) (lr Bl nG false)) (br (decide (a=(⟨#[102,97,108,115,101]⟩:ByteArray))) (br (decide (a=(⟨#[102,97,108,115,101]⟩:ByteArray))) (lr Bl nG true) (lr Bl nG false)) (br (decide (a=(⟨#[110,97,110]⟩:ByteArray))) (br (decide (a=(⟨#[110,97,110]⟩:ByteArray))) (lr Bl nG true) (lr Bl nG false)) (br (decide (a=(⟨#[105,110,102]⟩:ByteArray))) (lr Bl nG true) (lr Bl nG false)))))))))))))))))))))
def jQ(a:ByteArray):Option (Bool):=(nE a).m
theorem vn(a:ByteArray):KC Tryz.prog 100 [vS a] (jQ a) Bl:=AE Tryz.func100 Tryz.ntmps100 Aa [.tmp 2] fun C co y hm b c=>Ax co Aa Ae (nE a) hm c fun r g=>⟨⟨id,id⟩,⟨⟨id,id⟩,⟨⟨id,id⟩,⟨⟨id,id⟩,⟨⟨id,id⟩,⟨⟨id,id⟩,⟨⟨id,id⟩,⟨⟨id,id⟩,⟨⟨id,id⟩,⟨⟨id,id⟩,⟨⟨id,id⟩,⟨⟨id,id⟩,⟨⟨id,id⟩,⟨⟨id,id⟩,⟨⟨id,id⟩,⟨⟨id,id⟩,⟨⟨id,id⟩,⟨⟨id,id⟩,⟨⟨id,id⟩,⟨⟨id,id⟩,⟨id,id⟩⟩⟩⟩⟩⟩⟩⟩⟩⟩⟩⟩⟩⟩⟩⟩⟩⟩⟩⟩⟩
abbrev Oo:Bool→AV:=fun y=>vB y
def xl:ByteArray×Nat→St:=fun(v2,v3)=>Ad [(0,vS v2),(3,vN v3)] []
def vX:Unit→Nat×St:=fun _=>(0,Ad [] [])
def dl(v2:ByteArray)(v3:Nat):PT 0 (Lv (ByteArray×Nat) (Unit) (Bool)):=br (decide ((v3:Int)<(120:Int))&&(!decide (v2=(⟨#[]⟩:ByteArray)))) (cl (ZVY v2) fun a=>cl (vn a.2) fun b=>br b (AA Oo nG false) (vs (wa v3 1)<|ln (xl) (a.1,v3+1))) (Ah (vX) ())
def XR:ByteArray×Nat→Option (Lv (ByteArray×Nat) (Unit) (Bool)):=fun(v2,v3)=>(dl v2 v3).m
def fp:PT 0 (Bool):=lr Oo nG true
def dA(a:ByteArray):PT 0 (Bool):=lc (Ad [(0,vS a),(3,vI 0)] []) ((Ak (XR) Am (a,0)).bind (Sum.elim (fun _=>(fp).m) some))
def cB(a:ByteArray):PT 0 (Bool):=cl (ZWg a) fun b=>br (!b) (lr Oo nG false) (lc (Ad [(0,vS a)] []) ((dA a).m))
def jP(a:ByteArray):Option (Bool):=(cB a).m
theorem ZKB{C:Cx}(co:CO C 0):KL Tryz.prog (AC tl) 25 C (pa [0,0,1,0,1,1] (Az Tryz.f65)) [.tmp 2] 0 (xl) (vX) Oo nG (XR):=fun(v2,v3) _ hm Q a c b=>As co Aa Ae (dl v2 v3) (AK [0,3]) nl c hm b fun r g=>⟨fun d=>fun e=>⟨id,id⟩,id⟩
theorem hP(b:ByteArray):KC Tryz.prog 65 [vS b] (jP b) Oo:=AE Tryz.func65 Tryz.ntmps65 Aa [.tmp 2] fun C co y hm c a=>Aj co Aa Ae 2 (cB b) (AK [0]) nl nH hm a fun r g=>fun d=>⟨id,fun _ hm a=>sq (Aj co Aa Ae 1 (dA b) (AK [0,3]) nl nH hm a fun r g=>fun _ hm a=>bk 0 (lo (AF (ZKB co) nH hm a (fun _ hm=>Ax co Aa Ae (fp) hm a fun r g=>id))))⟩
abbrev qN:Bool→AV:=fun y=>vB y
def bq(a:ByteArray):PT 0 (Bool):=cl (bd a) fun b=>AO b (vn a) fun c=>lr qN nG (b&&(!c))
def jn(a:ByteArray):Option (Bool):=(bq a).m
theorem T3(a:ByteArray):KC Tryz.prog 66 [vS a] (jn a) qN:=AE Tryz.func66 Tryz.ntmps66 Aa [.tmp 2] fun C co y hm b c=>Ax co Aa Ae (bq a) hm c fun r g=>fun d=>fun e=>id
abbrev SB:Bool→AV:=fun y=>vB y
def vu(a:List Spn)(b:Int):Nat→St:=fun c=>Ad [(0,vL CB a),(1,vI b),(5,vN c)] []
def uf:Unit→Nat×St:=fun _=>(0,Ad [] [])
def ce(a:List Spn)(c:Int)(b:Nat):PT 0 (Lv (Nat) (Unit) (Bool)):=vz (An a)<|br (decide ((b:Int)<(a.length:Int))) (ix a b fun d=>AZ (decide (d.lo≤c)) a (b:Int) fun e=>br (decide (d.lo≤c)&&decide (c≤e.hi)) (AA SB nG true) (vs (wa b 1)<|ln (vu a c) (b+1))) (Ah (uf) ())
def TH(a:List Spn)(b:Int):Nat→Option (Lv (Nat) (Unit) (Bool)):=fun c=>(ce a b c).m
def dQ:PT 0 (Bool):=lr SB nG false
def eM(a:List Spn)(b:Int):PT 0 (Bool):=lc (Ad [(0,vL CB a),(1,vI b),(5,vI 0)] []) ((Ak (TH a b) Am 0).bind (Sum.elim (fun _=>(dQ).m) some))
def eq(a:List Spn)(b:Int):PT 0 (Bool):=lc (Ad [(0,vL CB a),(1,vI b)] []) ((eM a b).m)
def jt(a:List Spn)(b:Int):Option (Bool):=(eq a b).m
theorem ZD2{C:Cx}(co:CO C 0)(a:List Spn)(b:Int):KL Tryz.prog (AC tl) 28 C (pa [0,0,1,0,1] (Az Tryz.f67)) [.tmp 4] 0 (vu a b) (uf) SB nG (TH a b):=fun f _ hm Q c e d=>As co Aa Ae (ce a b f) (AK [0,1,5]) nl e hm d fun r g=>⟨fun h=>fun i=>⟨id,id⟩,id⟩
theorem yu(b:List Spn)(c:Int):KC Tryz.prog 67 [vL CB b,vI c] (jt b c) SB:=AE Tryz.func67 Tryz.ntmps67 Aa [.tmp 4] fun C co y hm d a=>Aj co Aa Ae 1 (eq b c) (AK [0,1]) nl nH hm a fun r g=>fun _ hm a=>sq (Aj co Aa Ae 1 (eM b c) (AK [0,1,5]) nl nH hm a fun r g=>fun _ hm a=>bk 0 (lo (AF (ZD2 co b c) nH hm a (fun _ hm=>Ax co Aa Ae (dQ) hm a fun r g=>id))))
abbrev Ep:Bool→AV:=fun y=>vB y
def aN(a:Fld):PT 0 (Bool):=wg<|br (!decide (a.card=(5:Int))) (wg<|wg<|wg<|lr Ep nG ((decide ((1:Int)≤a.card)&&decide (a.card≤(4:Int)))&&decide (a.key=(0:Int)))) (wg<|br (decide (a.key=(1:Int))) (br (decide (a.key=(1:Int))) (lr Ep nG true) (lr Ep nG false)) (br (decide (a.key=(2:Int))) (br (decide (a.key=(2:Int))) (lr Ep nG true) (lr Ep nG false)) (br (decide (a.key=(3:Int))) (br (decide (a.key=(3:Int))) (lr Ep nG true) (lr Ep nG false)) (br (decide (a.key=(4:Int))) (br (decide (a.key=(4:Int))) (lr Ep nG true) (lr Ep nG false)) (br (decide (a.key=(5:Int))) (br (decide (a.key=(5:Int))) (lr Ep nG true) (lr Ep nG false)) (br (decide (a.key=(7:Int))) (lr Ep nG true) (lr Ep nG false)))))))
def jK(a:Fld):Option (Bool):=(aN a).m
theorem ZV3(a:Fld):KC Tryz.prog 68 [.agg ((Ay a).map .d)] (jK a) Ep:=AE Tryz.func68 Tryz.ntmps68 Aa [.tmp 2] fun C co y hm b c=>Ax co Aa Ae (aN a) hm c fun r g=>⟨id,⟨⟨id,id⟩,⟨⟨id,id⟩,⟨⟨id,id⟩,⟨⟨id,id⟩,⟨⟨id,id⟩,⟨id,id⟩⟩⟩⟩⟩⟩⟩
abbrev qk(a:Scm):Af×Blk:=kk 2 26 3 (cD (Ar a))
abbrev Ut:Int→AV:=fun y=>vI y
def r7(a:Scm)(b:ByteArray):Nat→St:=fun c=>Ad [(1,vS b),pp 2,(5,vN c)] [(qk a)]
def tD:Unit→Nat×St:=fun _=>(0,Ad [] [])
def mA(b:Scm)(c:ByteArray)(a:Nat):PT 0 (Lv (Nat) (Unit) (Int)):=wg<|vz (An b.enums)<|br (decide ((a:Int)<(b.enums.length:Int))) (wg<|ix b.enums a fun d=>br (decide (d.name=c)) (AA Ut nG (a:Int)) (vs (wa a 1)<|ln (r7 b c) (a+1))) (Ah (tD) ())
def Xj(a:Scm)(b:ByteArray):Nat→Option (Lv (Nat) (Unit) (Int)):=fun c=>(mA a b c).m
def pU:PT 0 (Int):=lr Ut nG (-1)
def m6(a:Scm)(b:ByteArray):PT 0 (Int):=lc (Ad [(1,vS b),pp 2,(5,vI 0)] [(qk a)]) ((Ak (Xj a b) Am 0).bind (Sum.elim (fun _=>(pU).m) some))
def nz(a:Scm)(b:ByteArray):PT 0 (Int):=lc (Ad [(1,vS b),pp 2] [(qk a)]) ((m6 a b).m)
def ju(a:Scm)(b:ByteArray):Option (Int):=(nz a b).m
theorem ZBQ{C:Cx}(co:CO C 0)(a:Scm)(b:ByteArray):KL Tryz.prog (AC tl) 22 C (pa [0,0,1,0,1] (Az Tryz.f102)) [.tmp 4] 0 (r7 a b) (tD) Ut nG (Xj a b):=fun f _ hm Q c e d=>As co Aa Ae (mA a b f) (Ac [1,2,5] ES) nl e hm d fun r g=>⟨fun h=>⟨id,id⟩,id⟩
theorem wB(b:Scm)(c:ByteArray):KC Tryz.prog 102 [.agg ((Ar b).map .d),vS c] (ju b c) Ut:=AE Tryz.func102 Tryz.ntmps102 Aa [.tmp 4] fun C co y hm d a=>Aj co Aa Ae 1 (nz b c) (Ac [1,2] ES) nl nH hm a fun r g=>fun _ hm a=>sq (Aj co Aa Ae 1 (m6 b c) (Ac [1,2,5] ES) nl nH hm a fun r g=>fun _ hm a=>bk 0 (lo (AF (ZBQ co b c) nH hm a (fun _ hm=>Ax co Aa Ae (pU) hm a fun r g=>id))))
abbrev SC:Bool→AV:=fun y=>vB y
def dz(b:Scm)(a:Fld):PT 0 (Bool):=wg<|br (decide (a.type.kind=(9:Int))) (wg<|wg<|cl (wB b a.type.name) fun c=>lr SC nG (decide ((0:Int)≤c))) (br (decide (a.type.kind=(10:Int))) (wg<|wg<|cl (Pi b a.type.name) fun d=>wg<|lr SC nG (decide ((0:Int)≤d)&&(!decide (a.card=(3:Int))))) (wg<|wg<|wg<|lr SC nG ((decide ((1:Int)≤a.type.kind)&&decide (a.type.kind≤(8:Int)))&&decide (a.type.name=(⟨#[]⟩:ByteArray)))))
def jB(a:Scm)(b:Fld):Option (Bool):=(dz a b).m
theorem ZUV(a:Scm)(b:Fld):KC Tryz.prog 69 [.agg ((Ar a).map .d),.agg ((Ay b).map .d)] (jB a b) SC:=AE Tryz.func69 Tryz.ntmps69 Aa [.tmp 4] fun C co y hm c d=>Ax co Aa Ae (dz a b) hm d fun r g=>⟨fun e=>id,⟨fun f=>id,id⟩⟩
abbrev LQ:List (Af×Bool):=[((1,2),false),((1,5),false)]
abbrev ZB(a:Msg):Af×Blk:=kk 2 45 5 (cD (AU a))
abbrev Uv(a:Fld):Af×Blk:=kk 5 51 16 (cD (Ay a))
abbrev L0:Bool→AV:=fun y=>vB y
def gq(b:Msg)(c:Int)(a:Fld):Bool×Nat→St:=fun(v3,v4)=>Ad [(1,vI c),pp 2,pp 5,(6,vB v3),(7,vN v4)] [(ZB b),(Uv a)]
def wt(b:Msg)(c:Int)(a:Fld):Bool→Nat×St:=fun d=>(0,Ad [(1,vI c),pp 2,pp 5,(6,vB d)] [(ZB b),(Uv a)])
def ek(a:Msg)(c:Int)(b:Fld)(v3:Bool)(v4:Nat):PT 0 (Lv (Bool×Nat) (Bool) (Bool)):=wg<|vz (An a.fields)<|br (decide ((v4:Int)<(a.fields.length:Int))) (wg<|ix a.fields v4 fun d=>wg<|br (decide (d.name=b.union)) (AA L0 nG false) (wg<|AZ (decide ((v4:Int)<c)) a.fields (v4:Int) fun e=>wg<|br (decide ((v4:Int)<c)&&decide (e.union=b.union)) (vs (wa v4 1)<|ln (gq a c b) (true,v4+1)) (vs (wa v4 1)<|ln (gq a c b) (v3,v4+1)))) (Ah (wt a c b) v3)
def Zs(b:Msg)(c:Int)(a:Fld):Bool×Nat→Option (Lv (Bool×Nat) (Bool) (Bool)):=fun(v3,v4)=>(ek b c a v3 v4).m
def fg(e:Msg)(b:Int)(c:Fld)(a:Bool):PT 0 (Bool):=wg<|vg (!(!a)) (wi (b-1))<|AZ (!(!a)) e.fields (b-1) fun d=>wg<|lr L0 nG ((!a)||decide (d.union=c.union))
def eG(b:Msg)(c:Int)(a:Fld):PT 0 (Bool):=lc (Ad [(1,vI c),pp 2,pp 5,(6,vB false),(7,vI 0)] [(ZB b),(Uv a)]) ((Ak (Zs b c a) Am (false,0)).bind (Sum.elim (fun d=>(fg b c a d).m) some))
def em(b:Msg)(c:Int):PT 0 (Bool):=wg<|CE b.fields c fun a=>wg<|wg<|br (decide (a.union=(⟨#[]⟩:ByteArray))) (lr L0 nG true) (wg<|wg<|AO (!(!decide (a.card=(2:Int)))) (T3 a.union) fun d=>br ((!decide (a.card=(2:Int)))||(!d)) (lr L0 nG false) (lc (Ad [(1,vI c),pp 2,pp 5,(6,vB false)] [(ZB b),(Uv a)]) ((eG b c a).m)))
def j5(a:Msg)(b:Int):Option (Bool):=(em a b).m
theorem ZKU{C:Cx}(co:CO C 0)(b:Msg)(c:Int)(a:Fld):KL Tryz.prog (AC tl) 69 C (pa [0,0,1,0,1,1,1,1,1] (Az Tryz.f70)) [.tmp 4] 0 (gq b c a) (wt b c a) L0 nG (Zs b c a):=fun(v3,v4) _ hm Q d f e=>As co Aa Ae (ek b c a v3 v4) (Ac [1,2,5,6,7] LQ) (Ac [1,2,5,6] LQ) f hm e fun r g=>⟨fun h=>⟨id,fun i=>⟨id,id⟩⟩,id⟩
theorem ZVo(b:Msg)(c:Int):KC Tryz.prog 70 [.agg ((AU b).map .d),vI c] (j5 b c) L0:=AE Tryz.func70 Tryz.ntmps70 Aa [.tmp 4] fun C co y hm e a=>Aj co Aa Ae 5 (em b c) (Ac [1,2,5,6] LQ) nl nH hm a fun r g=>fun d=>⟨id,fun i=>⟨id,fun _ hm a=>sq (Aj co Aa Ae 1 (eG b c d) (Ac [1,2,5,6,7] LQ) nl nH hm a fun r g=>fun _ hm a=>bk 0 (lo (AF (ZKU co b c d) nH hm a (fun f hm=>Ax co Aa Ae (fg b c d f) hm a fun r g=>fun h=>id))))⟩⟩
abbrev Mt:Int→AV:=fun y=>vI y
def Wv(a:Int):PT 0 (Int):=rem .u64 a 9223372036854775808<|br (decide ((9218868437227405312:Int)<(Jm .u64 a 9223372036854775808))) (lr Mt nG 0) (br (decide ((Jm .u64 a 9223372036854775808)=(9218868437227405312:Int))) (lr Mt nG 1) (br (decide ((Jm .u64 a 9223372036854775808)=(0:Int))) (lr Mt nG 2) (br (decide ((Jm .u64 a 9223372036854775808)<(4503599627370496:Int))) (lr Mt nG 3) (lr Mt nG 4))))
def Pt(a:Int):Option (Int):=(Wv a).m
theorem wx(a:Int):KC Tryz.prog 113 [.d (.int .u64 a)] (Pt a) Mt:=AE Tryz.func113 Tryz.ntmps113 Aa [.tmp 2] fun C co y hm b c=>Ax co Aa Ae (Wv a) hm c fun r g=>⟨id,⟨id,⟨id,⟨id,id⟩⟩⟩⟩
abbrev ZQ:Val→AV:=fun y=>.agg ((Ag y).map .d)
def XQ(a:Val):PT 0 (Val):=wg<|wg<|AO (decide (a.kind=(6:Int))) (wx a.bits) fun b=>br (decide (a.kind=(6:Int))&&decide (b=(0:Int))) (wg<|wg<|wg<|lr ZQ nG (.mk a.kind 9221120237041090560 a.text a.list a.pairs a.slots a.raws:Val)) (wg<|wg<|lr ZQ nG a)
def Pu(a:Val):Option (Val):=(XQ a).m
theorem iI(a:Val):KC Tryz.prog 80 [.agg ((Ag a).map .d)] (Pu a) ZQ:=AE Tryz.func80 Tryz.ntmps80 Aa [.cell 2 33] fun C co y hm b c=>Ax co Aa Ae (XQ a) hm c fun r g=>fun d=>⟨id,id⟩
abbrev xU:Bool→AV:=fun y=>vB y
def oL(a:Val)(b:Val):PT 0 (Bool):=wg<|wg<|wg<|wg<|wg<|wg<|wg<|vy ((decide (a.kind=b.kind)&&decide (a.bits=b.bits))&&decide (a.text=b.text)) (An a.list)<|wg<|vy ((decide (a.kind=b.kind)&&decide (a.bits=b.bits))&&decide (a.text=b.text)) (An a.pairs)<|vg ((decide (a.kind=b.kind)&&decide (a.bits=b.bits))&&decide (a.text=b.text)) (wa a.list.length a.pairs.length)<|wg<|vy ((decide (a.kind=b.kind)&&decide (a.bits=b.bits))&&decide (a.text=b.text)) (An a.slots)<|vg ((decide (a.kind=b.kind)&&decide (a.bits=b.bits))&&decide (a.text=b.text)) (wa (a.list.length+a.pairs.length) a.slots.length)<|wg<|vy ((decide (a.kind=b.kind)&&decide (a.bits=b.bits))&&decide (a.text=b.text)) (An a.raws)<|vg ((decide (a.kind=b.kind)&&decide (a.bits=b.bits))&&decide (a.text=b.text)) (wa ((a.list.length+a.pairs.length)+a.slots.length) a.raws.length)<|wg<|vy ((decide (a.kind=b.kind)&&decide (a.bits=b.bits))&&decide (a.text=b.text)) (An b.list)<|vg ((decide (a.kind=b.kind)&&decide (a.bits=b.bits))&&decide (a.text=b.text)) (wa (((a.list.length+a.pairs.length)+a.slots.length)+a.raws.length) b.list.length)<|wg<|vy ((decide (a.kind=b.kind)&&decide (a.bits=b.bits))&&decide (a.text=b.text)) (An b.pairs)<|vg ((decide (a.kind=b.kind)&&decide (a.bits=b.bits))&&decide (a.text=b.text)) (wa ((((a.list.length+a.pairs.length)+a.slots.length)+a.raws.length)+b.list.length) b.pairs.length)<|wg<|vy ((decide (a.kind=b.kind)&&decide (a.bits=b.bits))&&decide (a.text=b.text)) (An b.slots)<|vg ((decide (a.kind=b.kind)&&decide (a.bits=b.bits))&&decide (a.text=b.text)) (wa (((((a.list.length+a.pairs.length)+a.slots.length)+a.raws.length)+b.list.length)+b.pairs.length) b.slots.length)<|wg<|vy ((decide (a.kind=b.kind)&&decide (a.bits=b.bits))&&decide (a.text=b.text)) (An b.raws)<|vg ((decide (a.kind=b.kind)&&decide (a.bits=b.bits))&&decide (a.text=b.text)) (wa ((((((a.list.length+a.pairs.length)+a.slots.length)+a.raws.length)+b.list.length)+b.pairs.length)+b.slots.length) b.raws.length)<|lr xU nG (((decide (a.kind=b.kind)&&decide (a.bits=b.bits))&&decide (a.text=b.text))&&decide (((((((((a.list.length+a.pairs.length)+a.slots.length)+a.raws.length)+b.list.length)+b.pairs.length)+b.slots.length)+b.raws.length:Nat):Int)=(0:Int)))
def jo(a:Val)(b:Val):Option (Bool):=(oL a b).m
theorem ul(a:Val)(b:Val):KC Tryz.prog 103 [.agg ((Ag a).map .d),.agg ((Ag b).map .d)] (jo a b) xU:=AE Tryz.func103 Tryz.ntmps103 Aa [.tmp 4] fun C co y hm c d=>Ax co Aa Ae (oL a b) hm d fun r g=>id
abbrev yE:Bool→AV:=fun y=>vB y
def Ww(a:ByteArray)(b:Int)(d:Int)(f:Int):PT 0 (Bool):=vz (Bz a.size)<|Gc (decide (b<(a.size:Int))) a b fun c=>Gc (decide (b<(a.size:Int))&&decide (d≤(c.toNat:Int))) a b fun e=>lr yE nG ((decide (b<(a.size:Int))&&decide (d≤(c.toNat:Int)))&&decide ((e.toNat:Int)≤f))
def MH(a:ByteArray)(b:Int)(c:Int)(d:Int):Option (Bool):=(Ww a b c d).m
theorem Rs(a:ByteArray)(b:Int)(c:Int)(d:Int):KC Tryz.prog 158 [vS a,vI b,.d (.int .u8 c),.d (.int .u8 d)] (MH a b c d) yE:=AE Tryz.func158 Tryz.ntmps158 Aa [.tmp 8] fun C co y hm e f=>Ax co Aa Ae (Ww a b c d) hm f fun r g=>fun h=>fun i=>id
abbrev Uq:Bool→AV:=fun y=>vB y
def sb(a:ByteArray)(b:Int)(c:Int):Nat→St:=fun d=>Ad [(0,vS a),(1,vI b),(2,vI c),(7,vN d)] []
def tu:Unit→Nat×St:=fun _=>(0,Ad [] [])
def QY(c:ByteArray)(b:Int)(d:Int)(a:Nat):PT 0 (Lv (Nat) (Unit) (Bool)):=br (decide ((a:Int)<d)) (vs (wi (b+(a:Int)))<|cl (Rs c (b+(a:Int)) 128 191) fun e=>br (!e) (AA Uq nG false) (vs (wa a 1)<|ln (sb c b d) (a+1))) (Ah (tu) ())
def Lt(a:ByteArray)(b:Int)(c:Int):Nat→Option (Lv (Nat) (Unit) (Bool)):=fun d=>(QY a b c d).m
def Xa:PT 0 (Bool):=lr Uq nG true
def WQ(a:ByteArray)(b:Int)(c:Int):PT 0 (Bool):=lc (Ad [(0,vS a),(1,vI b),(2,vI c),(7,vI 0)] []) ((Ak (Lt a b c) Am 0).bind (Sum.elim (fun _=>(Xa).m) some))
def WP(a:ByteArray)(b:Int)(c:Int):PT 0 (Bool):=lc (Ad [(0,vS a),(1,vI b),(2,vI c)] []) ((WQ a b c).m)
def K1(a:ByteArray)(b:Int)(c:Int):Option (Bool):=(WP a b c).m
theorem Zy5{C:Cx}(co:CO C 0)(a:ByteArray)(b:Int)(c:Int):KL Tryz.prog (AC tl) 19 C (pa [0,0,1,0,1] (Az Tryz.f157)) [.tmp 6] 0 (sb a b c) (tu) Uq nG (Lt a b c):=fun h _ hm Q d f e=>As co Aa Ae (QY a b c h) (AK [0,1,2,7]) nl f hm e fun r g=>⟨fun i=>⟨id,id⟩,id⟩
theorem LC(b:ByteArray)(c:Int)(d:Int):KC Tryz.prog 157 [vS b,vI c,vI d] (K1 b c d) Uq:=AE Tryz.func157 Tryz.ntmps157 Aa [.tmp 6] fun C co y hm e a=>Aj co Aa Ae 1 (WP b c d) (AK [0,1,2]) nl nH hm a fun r g=>fun _ hm a=>sq (Aj co Aa Ae 1 (WQ b c d) (AK [0,1,2,7]) nl nH hm a fun r g=>fun _ hm a=>bk 0 (lo (AF (Zy5 co b c d) nH hm a (fun _ hm=>Ax co Aa Ae (Xa) hm a fun r g=>id))))
abbrev Hs:Int→AV:=fun y=>vI y
def W8(c:ByteArray)(b:Int):PT 0 (Int):=Sc c b fun a=>br (decide ((a.toNat:Int)<(128:Int))) (lr Hs nG 1) (vg (decide ((194:Int)≤(a.toNat:Int))&&decide ((a.toNat:Int)≤(223:Int))) (wi (b+1))<|AO (decide ((194:Int)≤(a.toNat:Int))&&decide ((a.toNat:Int)≤(223:Int))) (LC c (b+1) 1) fun j=>br ((decide ((194:Int)≤(a.toNat:Int))&&decide ((a.toNat:Int)≤(223:Int)))&&j) (lr Hs nG 2) (vg (decide ((a.toNat:Int)=(224:Int))) (wi (b+1))<|AO (decide ((a.toNat:Int)=(224:Int))) (Rs c (b+1) 160 191) fun g=>vg (decide ((a.toNat:Int)=(224:Int))&&g) (wi (b+2))<|AO (decide ((a.toNat:Int)=(224:Int))&&g) (LC c (b+2) 1) fun k=>br ((decide ((a.toNat:Int)=(224:Int))&&g)&&k) (lr Hs nG 3) (vg (decide ((a.toNat:Int)=(237:Int))) (wi (b+1))<|AO (decide ((a.toNat:Int)=(237:Int))) (Rs c (b+1) 128 159) fun h=>vg (decide ((a.toNat:Int)=(237:Int))&&h) (wi (b+2))<|AO (decide ((a.toNat:Int)=(237:Int))&&h) (LC c (b+2) 1) fun l=>br ((decide ((a.toNat:Int)=(237:Int))&&h)&&l) (lr Hs nG 3) (vg ((decide ((225:Int)≤(a.toNat:Int))&&decide ((a.toNat:Int)≤(239:Int)))&&(!decide ((a.toNat:Int)=(237:Int)))) (wi (b+1))<|AO ((decide ((225:Int)≤(a.toNat:Int))&&decide ((a.toNat:Int)≤(239:Int)))&&(!decide ((a.toNat:Int)=(237:Int)))) (LC c (b+1) 2) fun m=>br (((decide ((225:Int)≤(a.toNat:Int))&&decide ((a.toNat:Int)≤(239:Int)))&&(!decide ((a.toNat:Int)=(237:Int))))&&m) (lr Hs nG 3) (vg (decide ((a.toNat:Int)=(240:Int))) (wi (b+1))<|AO (decide ((a.toNat:Int)=(240:Int))) (Rs c (b+1) 144 191) fun i=>vg (decide ((a.toNat:Int)=(240:Int))&&i) (wi (b+2))<|AO (decide ((a.toNat:Int)=(240:Int))&&i) (LC c (b+2) 2) fun n=>br ((decide ((a.toNat:Int)=(240:Int))&&i)&&n) (lr Hs nG 4) (vg (decide ((241:Int)≤(a.toNat:Int))&&decide ((a.toNat:Int)≤(243:Int))) (wi (b+1))<|AO (decide ((241:Int)≤(a.toNat:Int))&&decide ((a.toNat:Int)≤(243:Int))) (LC c (b+1) 3) fun e=>br ((decide ((241:Int)≤(a.toNat:Int))&&decide ((a.toNat:Int)≤(243:Int)))&&e) (lr Hs nG 4) (vg (decide ((a.toNat:Int)=(244:Int))) (wi (b+1))<|AO (decide ((a.toNat:Int)=(244:Int))) (Rs c (b+1) 128 143) fun d=>vg (decide ((a.toNat:Int)=(244:Int))&&d) (wi (b+2))<|AO (decide ((a.toNat:Int)=(244:Int))&&d) (LC c (b+2) 2) fun f=>br ((decide ((a.toNat:Int)=(244:Int))&&d)&&f) (lr Hs nG 4) (lr Hs nG 0))))))))
def Pw(a:ByteArray)(b:Int):Option (Int):=(W8 a b).m
theorem ZTm(a:ByteArray)(b:Int):KC Tryz.prog 141 [vS a,vI b] (Pw a b) Hs:=AE Tryz.func141 Tryz.ntmps141 Aa [.tmp 4] fun C co y hm c d=>Ax co Aa Ae (W8 a b) hm d fun r g=>fun i=>⟨id,fun j=>⟨id,fun k=>fun l=>⟨id,fun m=>fun n=>⟨id,fun o=>⟨id,fun p=>fun q=>⟨id,fun e=>⟨id,fun f=>fun h=>⟨id,id⟩⟩⟩⟩⟩⟩⟩⟩
abbrev Ue:Int→AV:=fun y=>vI y
def sw(a:ByteArray):Int→St:=fun b=>Ad [(0,vS a),(3,vI b)] []
def tK:Unit→Nat×St:=fun _=>(0,Ad [] [])
def WG(b:ByteArray)(a:Int):PT 0 (Lv (Int) (Unit) (Int)):=vz (Bz b.size)<|br (decide (a<(b.size:Int))) (cl (ZTm b a) fun c=>br (decide (c=(0:Int))) (AA Ue nG a) (vs (wi (a+c))<|ln (sw b) (a+c))) (Ah (tK) ())
def Nc(a:ByteArray):Int→Option (Lv (Int) (Unit) (Int)):=fun b=>(WG a b).m
def Xb:PT 0 (Int):=lr Ue nG (-1)
def WW(a:ByteArray):PT 0 (Int):=lc (Ad [(0,vS a),(3,vI 0)] []) ((Ak (Nc a) Am 0).bind (Sum.elim (fun _=>(Xb).m) some))
def Xk(a:ByteArray):PT 0 (Int):=lc (Ad [(0,vS a)] []) ((WW a).m)
def U8(a:ByteArray):Option (Int):=(Xk a).m
theorem ZA0{C:Cx}(co:CO C 0)(a:ByteArray):KL Tryz.prog (AC tl) 18 C (pa [0,0,1,0,1] (Az Tryz.f106)) [.tmp 2] 0 (sw a) (tK) Ue nG (Nc a):=fun e _ hm Q b d c=>As co Aa Ae (WG a e) (AK [0,3]) nl d hm c fun r g=>⟨fun f=>⟨id,id⟩,id⟩
theorem ZSj(b:ByteArray):KC Tryz.prog 106 [vS b] (U8 b) Ue:=AE Tryz.func106 Tryz.ntmps106 Aa [.tmp 2] fun C co y hm c a=>Aj co Aa Ae 1 (Xk b) (AK [0]) nl nH hm a fun r g=>fun _ hm a=>sq (Aj co Aa Ae 1 (WW b) (AK [0,3]) nl nH hm a fun r g=>fun _ hm a=>bk 0 (lo (AF (ZA0 co b) nH hm a (fun _ hm=>Ax co Aa Ae (Xb) hm a fun r g=>id))))
abbrev qP:Bool→AV:=fun y=>vB y
def TE(a:ByteArray):PT 0 (Bool):=cl (ZSj a) fun b=>lr qP nG (decide (b<(0:Int)))
def MG(a:ByteArray):Option (Bool):=(TE a).m
theorem yo(a:ByteArray):KC Tryz.prog 74 [vS a] (MG a) qP:=AE Tryz.func74 Tryz.ntmps74 Aa [.tmp 2] fun C co y hm b c=>Ax co Aa Ae (TE a) hm c fun r g=>fun d=>id
abbrev x6:Bool→AV:=fun y=>vB y
def pz(a:Int):PT 0 (Bool):=lr x6 nG (decide ((1:Int)≤a)&&decide (a≤(9:Int)))
def MN(a:Int):Option (Bool):=(pz a).m
theorem aV(a:Int):KC Tryz.prog 111 [vI a] (MN a) x6:=AE Tryz.func111 Tryz.ntmps111 Aa [.tmp 2] fun C co y hm b c=>Ax co Aa Ae (pz a) hm c fun r g=>id
abbrev x3:Bool→AV:=fun y=>vB y
def W5(a:Val):PT 0 (Bool):=wg<|vz (An a.list)<|wg<|vy (decide ((a.list.length:Int)=(0:Int))) (An a.pairs)<|wg<|vy (decide ((a.list.length:Int)=(0:Int))&&decide ((a.pairs.length:Int)=(0:Int))) (An a.slots)<|wg<|vy ((decide ((a.list.length:Int)=(0:Int))&&decide ((a.pairs.length:Int)=(0:Int)))&&decide ((a.slots.length:Int)=(0:Int))) (An a.raws)<|lr x3 nG (((decide ((a.list.length:Int)=(0:Int))&&decide ((a.pairs.length:Int)=(0:Int)))&&decide ((a.slots.length:Int)=(0:Int)))&&decide ((a.raws.length:Int)=(0:Int)))
def Pv(a:Val):Option (Bool):=(W5 a).m
theorem xf(a:Val):KC Tryz.prog 112 [.agg ((Ag a).map .d)] (Pv a) x3:=AE Tryz.func112 Tryz.ntmps112 Aa [.tmp 2] fun C co y hm b c=>Ax co Aa Ae (W5 a) hm c fun r g=>id
abbrev xX:Bool→AV:=fun y=>vB y
def Rb(a:Int):PT 0 (Bool):=lr xX nG (decide (a=(7:Int))||decide (a=(8:Int)))
def MJ(a:Int):Option (Bool):=(Rb a).m
theorem Td(a:Int):KC Tryz.prog 137 [vI a] (MJ a) xX:=AE Tryz.func137 Tryz.ntmps137 Aa [.tmp 2] fun C co y hm b c=>Ax co Aa Ae (Rb a) hm c fun r g=>id
abbrev Iz:Bool→AV:=fun y=>vB y
def Q1(b:Int)(a:Val):PT 0 (Bool):=cl (aV b) fun c=>wg<|wg<|AO (!((!c)||(!decide (a.kind=b)))) (xf a) fun d=>br (((!c)||(!decide (a.kind=b)))||(!d)) (lr Iz nG false) (cl (Td b) fun e=>br e (wg<|wg<|vy (decide (a.bits=(0:Int))) (Bz a.text.size)<|wg<|AO ((decide (a.bits=(0:Int))&&decide ((a.text.size:Int)≤(4096:Int)))&&(!(decide (b=(8:Int))))) (yo a.text) fun f=>lr Iz nG ((decide (a.bits=(0:Int))&&decide ((a.text.size:Int)≤(4096:Int)))&&(decide (b=(8:Int))||f))) (wg<|br (!decide (a.text=(⟨#[]⟩:ByteArray))) (lr Iz nG false) (br (decide (b=(1:Int))) (wg<|lr Iz nG (decide (a.bits≤(1:Int)))) (br (decide (b=(2:Int))) (wg<|vz (wk .i64 a.bits)<|lr Iz nG (decide (((-2147483648):Int)≤(IntKind.i64.wrap a.bits))&&decide ((IntKind.i64.wrap a.bits)≤(2147483647:Int)))) (br (decide (b=(4:Int))) (wg<|lr Iz nG (decide (a.bits<(4294967296:Int)))) (br (decide (b=(9:Int))) (wg<|lr Iz nG (decide (a.bits<(2147483648:Int)))) (lr Iz nG true)))))))
def Ju(a:Int)(b:Val):Option (Bool):=(Q1 a b).m
theorem bp(a:Int)(b:Val):KC Tryz.prog 104 [vI a,.agg ((Ag b).map .d)] (Ju a b) Iz:=AE Tryz.func104 Tryz.ntmps104 Aa [.tmp 4] fun C co y hm c d=>Ax co Aa Ae (Q1 a b) hm d fun r g=>fun e=>fun f=>⟨id,fun h=>⟨fun i=>id,⟨id,⟨id,⟨id,⟨id,⟨id,id⟩⟩⟩⟩⟩⟩⟩
abbrev g9(a:Scm):Af×Blk:=kk 2 26 3 (cD (Ar a))
abbrev i5(a:Fld):Af×Blk:=kk 5 33 7 (cD (Ag a.dflt))
abbrev IU:Bool→AV:=fun y=>vB y
def wH(a:Scm)(b:Fld)(d:Int):Nat→St:=fun c=>Ad [pp 2,pp 5,(6,vI d),(7,vN c)] [(g9 a),(i5 b)]
def wq:Unit→Nat×St:=fun _=>(0,Ad [] [])
def bS(b:Scm)(f:Fld)(c:Int)(a:Nat):PT 0 (Lv (Nat) (Unit) (Bool)):=wg<|CE b.enums c fun d=>vz (An d.items)<|br (decide ((a:Int)<(d.items.length:Int))) (wg<|CE b.enums c fun g=>ix g.items a fun e=>vz (wk .u64 e.num)<|wg<|br (decide ((IntKind.u64.wrap e.num)=f.dflt.bits)) (AA IU nG true) (vs (wa a 1)<|ln (wH b f c) (a+1))) (Ah (wq) ())
def Zo(a:Scm)(b:Fld)(d:Int):Nat→Option (Lv (Nat) (Unit) (Bool)):=fun c=>(bS a b d c).m
def ee:PT 0 (Bool):=lr IU nG false
def ci(a:Scm)(b:Fld)(c:Int):PT 0 (Bool):=lc (Ad [pp 2,pp 5,(6,vI c),(7,vI 0)] [(g9 a),(i5 b)]) ((Ak (Zo a b c) Am 0).bind (Sum.elim (fun _=>(ee).m) some))
def cG(b:Scm)(a:Fld):PT 0 (Bool):=wg<|wg<|wg<|br (!a.hasDefault) (wg<|cl ((ul a.dflt (.mk 0 0 ⟨#[]⟩ ([]:List Val) ([]:List Pr) ([]:List Slt) ([]:List Raw):Val)).nrm (fun _ _ _ h=>.nrm h) (xs':=[.agg ((Ag a.dflt).map .d),.agg [vI 0,.d (.int .u64 0),vS ⟨#[]⟩,.e0,.e0,.e0,.e0]]) (by intro r;kernel_rfl)) fun e=>lr IU nG e) (wg<|wg<|wg<|wg<|AO (!((!decide (a.card=(2:Int)))||(!decide (a.union=(⟨#[]⟩:ByteArray))))) (bp a.type.kind a.dflt) fun c=>wg<|wg<|AO (!(((!decide (a.card=(2:Int)))||(!decide (a.union=(⟨#[]⟩:ByteArray))))||(!c))) (iI a.dflt) fun f=>AO (!(((!decide (a.card=(2:Int)))||(!decide (a.union=(⟨#[]⟩:ByteArray))))||(!c))) (ul a.dflt f) fun g=>br ((((!decide (a.card=(2:Int)))||(!decide (a.union=(⟨#[]⟩:ByteArray))))||(!c))||(!g)) (lr IU nG false) (wg<|wg<|cl (wB b a.type.name) fun d=>wg<|br (!decide (a.type.kind=(9:Int))) (lr IU nG true) (br (decide (d<(0:Int))) (lr IU nG false) (lc (Ad [pp 2,pp 5,(6,vI d)] [(g9 b),(i5 a)]) ((ci b a d).m)))))
def j6(a:Scm)(b:Fld):Option (Bool):=(cG a b).m
theorem ZFH{C:Cx}(co:CO C 0)(a:Scm)(b:Fld)(c:Int):KL Tryz.prog (AC tl) 75 C (pa [0,0,1,0,1,1,1,1,1,1,1] (Az Tryz.f71)) [.tmp 4] 0 (wH a b c) (wq) IU nG (Zo a b c):=fun h _ hm Q d f e=>As co Aa Ae (bS a b c h) (Ac [2,5,6,7] LQ) nl f hm e fun r g=>fun i=>⟨fun j=>fun k=>⟨id,id⟩,id⟩
theorem ZWh(b:Scm)(c:Fld):KC Tryz.prog 71 [.agg ((Ar b).map .d),.agg ((Ay c).map .d)] (j6 b c) IU:=AE Tryz.func71 Tryz.ntmps71 Aa [.tmp 4] fun C co y hm d a=>Aj co Aa Ae 7 (cG b c) (Ac [2,5,6] LQ) nl nH hm a fun r g=>⟨fun f=>id,fun h=>fun i=>fun j=>⟨id,fun e=>⟨id,⟨id,fun _ hm a=>sq (Aj co Aa Ae 1 (ci b c e) (Ac [2,5,6,7] LQ) nl nH hm a fun r g=>fun _ hm a=>bk 0 (lo (AF (ZFH co b c e) nH hm a (fun _ hm=>Ax co Aa Ae (ee) hm a fun r g=>id))))⟩⟩⟩⟩
abbrev lb1:ByteArray:=⟨#[115,105,110,99,101]⟩
abbrev lb2:ByteArray:=⟨#[109,105,110]⟩
abbrev lb3:ByteArray:=⟨#[109,97,120]⟩
abbrev lb4:ByteArray:=⟨#[117,110,116,105,108]⟩
abbrev lb5:ByteArray:=⟨#[108,101,110,103,116,104]⟩
abbrev lb6:ByteArray:=⟨#[116,105,109,101,111,117,116]⟩
abbrev lb7:ByteArray:=⟨#[97,108,105,97,115]⟩
abbrev lb8:ByteArray:=⟨#[114,111,117,116,101]⟩
abbrev DP:Int→AV:=fun y=>vI y
def PE(a:ByteArray):PT 0 (Int):=br (decide (a=lb2)) (br (decide (a=lb2)) (lr DP nG 3) (lr DP nG 0)) (br (decide (a=lb3)) (lr DP nG 3) (lr DP nG 0))
def PQ(a:ByteArray):PT 0 (Int):=br (decide (a=lb1)) (br (decide (a=lb1)) (lr DP nG 4) (PE a)) (br (decide (a=lb4)) (br (decide (a=lb4)) (lr DP nG 4) (PE a)) (br (decide (a=lb5)) (br (decide (a=lb5)) (lr DP nG 4) (PE a)) (br (decide (a=lb6)) (lr DP nG 4) (PE a))))
def VM(a:ByteArray):PT 0 (Int):=br (decide (a=(⟨#[100,111,99]⟩:ByteArray))) (br (decide (a=(⟨#[100,111,99]⟩:ByteArray))) (lr DP nG 7) (PQ a)) (br (decide (a=lb7)) (br (decide (a=lb7)) (lr DP nG 7) (PQ a)) (br (decide (a=lb8)) (br (decide (a=lb8)) (lr DP nG 7) (PQ a)) (br (decide (a=(⟨#[111,119,110,101,114]⟩:ByteArray))) (lr DP nG 7) (PQ a))))
def nv(a:ByteArray):PT 0 (Int):=br (decide (a=(⟨#[100,101,112,114,101,99,97,116,101,100]⟩:ByteArray))) (br (decide (a=(⟨#[100,101,112,114,101,99,97,116,101,100]⟩:ByteArray))) (lr DP nG 1) (VM a)) (br (decide (a=(⟨#[115,101,99,114,101,116]⟩:ByteArray))) (br (decide (a=(⟨#[115,101,99,114,101,116]⟩:ByteArray))) (lr DP nG 1) (VM a)) (br (decide (a=(⟨#[105,100,101,109,112,111,116,101,110,116]⟩:ByteArray))) (lr DP nG 1) (VM a)))
def jI(a:ByteArray):Option (Int):=(nv a).m
theorem tY(a:ByteArray):KC Tryz.prog 138 [vS a] (jI a) DP:=AE Tryz.func138 Tryz.ntmps138 Aa [.tmp 2] fun C co y hm b c=>Ax co Aa Ae (nv a) hm c fun r g=>⟨⟨id,⟨⟨id,⟨⟨id,⟨⟨id,id⟩,⟨id,id⟩⟩⟩,⟨⟨id,⟨⟨id,id⟩,⟨id,id⟩⟩⟩,⟨⟨id,⟨⟨id,id⟩,⟨id,id⟩⟩⟩,⟨id,⟨⟨id,id⟩,⟨id,id⟩⟩⟩⟩⟩⟩⟩,⟨⟨id,⟨⟨id,⟨⟨id,id⟩,⟨id,id⟩⟩⟩,⟨⟨id,⟨⟨id,id⟩,⟨id,id⟩⟩⟩,⟨⟨id,⟨⟨id,id⟩,⟨id,id⟩⟩⟩,⟨id,⟨⟨id,id⟩,⟨id,id⟩⟩⟩⟩⟩⟩⟩,⟨⟨id,⟨⟨id,⟨⟨id,id⟩,⟨id,id⟩⟩⟩,⟨⟨id,⟨⟨id,id⟩,⟨id,id⟩⟩⟩,⟨⟨id,⟨⟨id,id⟩,⟨id,id⟩⟩⟩,⟨id,⟨⟨id,id⟩,⟨id,id⟩⟩⟩⟩⟩⟩⟩,⟨id,⟨⟨id,⟨⟨id,id⟩,⟨id,id⟩⟩⟩,⟨⟨id,⟨⟨id,id⟩,⟨id,id⟩⟩⟩,⟨⟨id,⟨⟨id,id⟩,⟨id,id⟩⟩⟩,⟨id,⟨⟨id,id⟩,⟨id,id⟩⟩⟩⟩⟩⟩⟩⟩⟩⟩⟩,⟨⟨id,⟨⟨id,⟨⟨id,⟨⟨id,id⟩,⟨id,id⟩⟩⟩,⟨⟨id,⟨⟨id,id⟩,⟨id,id⟩⟩⟩,⟨⟨id,⟨⟨id,id⟩,⟨id,id⟩⟩⟩,⟨id,⟨⟨id,id⟩,⟨id,id⟩⟩⟩⟩⟩⟩⟩,⟨⟨id,⟨⟨id,⟨⟨id,id⟩,⟨id,id⟩⟩⟩,⟨⟨id,⟨⟨id,id⟩,⟨id,id⟩⟩⟩,⟨⟨id,⟨⟨id,id⟩,⟨id,id⟩⟩⟩,⟨id,⟨⟨id,id⟩,⟨id,id⟩⟩⟩⟩⟩⟩⟩,⟨⟨id,⟨⟨id,⟨⟨id,id⟩,⟨id,id⟩⟩⟩,⟨⟨id,⟨⟨id,id⟩,⟨id,id⟩⟩⟩,⟨⟨id,⟨⟨id,id⟩,⟨id,id⟩⟩⟩,⟨id,⟨⟨id,id⟩,⟨id,id⟩⟩⟩⟩⟩⟩⟩,⟨id,⟨⟨id,⟨⟨id,id⟩,⟨id,id⟩⟩⟩,⟨⟨id,⟨⟨id,id⟩,⟨id,id⟩⟩⟩,⟨⟨id,⟨⟨id,id⟩,⟨id,id⟩⟩⟩,⟨id,⟨⟨id,id⟩,⟨id,id⟩⟩⟩⟩⟩⟩⟩⟩⟩⟩⟩,⟨id,⟨⟨id,⟨⟨id,⟨⟨id,id⟩,⟨id,id⟩⟩⟩,⟨⟨id,⟨⟨id,id⟩,⟨id,id⟩⟩⟩,⟨⟨id,⟨⟨id,id⟩,⟨id,id⟩⟩⟩,⟨id,⟨⟨id,id⟩,⟨id,id⟩⟩⟩⟩⟩⟩⟩,⟨⟨id,⟨⟨id,⟨⟨id,id⟩,⟨id,id⟩⟩⟩,⟨⟨id,⟨⟨id,id⟩,⟨id,id⟩⟩⟩,⟨⟨id,⟨⟨id,id⟩,⟨id,id⟩⟩⟩,⟨id,⟨⟨id,id⟩,⟨id,id⟩⟩⟩⟩⟩⟩⟩,⟨⟨id,⟨⟨id,⟨⟨id,id⟩,⟨id,id⟩⟩⟩,⟨⟨id,⟨⟨id,id⟩,⟨id,id⟩⟩⟩,⟨⟨id,⟨⟨id,id⟩,⟨id,id⟩⟩⟩,⟨id,⟨⟨id,id⟩,⟨id,id⟩⟩⟩⟩⟩⟩⟩,⟨id,⟨⟨id,⟨⟨id,id⟩,⟨id,id⟩⟩⟩,⟨⟨id,⟨⟨id,id⟩,⟨id,id⟩⟩⟩,⟨⟨id,⟨⟨id,id⟩,⟨id,id⟩⟩⟩,⟨id,⟨⟨id,id⟩,⟨id,id⟩⟩⟩⟩⟩⟩⟩⟩⟩⟩⟩⟩⟩
abbrev lb9:ByteArray:=⟨#[109,105,110]⟩
abbrev yI:ByteArray:=⟨#[105,100,101,109,112,111,116,101,110,116]⟩
abbrev x7:ByteArray:=⟨#[116,105,109,101,111,117,116]⟩
abbrev ZVh:ByteArray:=⟨#[114,111,117,116,101]⟩
abbrev yY:ByteArray:=⟨#[109,97,120]⟩
abbrev y5:ByteArray:=⟨#[108,101,110,103,116,104]⟩
abbrev ZVW:ByteArray:=⟨#[115,101,99,114,101,116]⟩
abbrev HO:Bool→AV:=fun y=>vB y
def Vq(a:Int):PT 0 (Bool):=lr HO nG (decide (a=(1:Int))||decide (a=(5:Int)))
def PF(b:ByteArray)(a:Int):PT 0 (Bool):=br (decide (b=yI)) (br (decide (b=yI)) (lr HO nG (decide (a=(6:Int)))) (Vq a)) (br (decide (b=x7)) (br (decide (b=x7)) (lr HO nG (decide (a=(6:Int)))) (Vq a)) (br (decide (b=ZVh)) (lr HO nG (decide (a=(6:Int)))) (Vq a)))
def PG(a:Int):PT 0 (Bool):=lr HO nG (decide (a=(2:Int)))
def VO(a:ByteArray)(b:Int):PT 0 (Bool):=br (decide (a=lb9)) (br (decide (a=lb9)) (PG b) (PF a b)) (br (decide (a=yY)) (br (decide (a=yY)) (PG b) (PF a b)) (br (decide (a=y5)) (br (decide (a=y5)) (PG b) (PF a b)) (br (decide (a=ZVW)) (PG b) (PF a b))))
def Vt(a:Int):PT 0 (Bool):=lr HO nG ((decide (a=(2:Int))||decide (a=(4:Int)))||decide (a=(6:Int)))
def kX(a:ByteArray)(b:Int):PT 0 (Bool):=br (decide (a=(⟨#[97,108,105,97,115]⟩:ByteArray))) (br (decide (a=(⟨#[97,108,105,97,115]⟩:ByteArray))) (Vt b) (VO a b)) (br (decide (a=(⟨#[115,105,110,99,101]⟩:ByteArray))) (br (decide (a=(⟨#[115,105,110,99,101]⟩:ByteArray))) (Vt b) (VO a b)) (br (decide (a=(⟨#[117,110,116,105,108]⟩:ByteArray))) (Vt b) (VO a b)))
def pF(b:ByteArray)(a:Int):PT 0 (Bool):=br (decide (b=(⟨#[100,101,112,114,101,99,97,116,101,100]⟩:ByteArray))) (br (decide (b=(⟨#[100,101,112,114,101,99,97,116,101,100]⟩:ByteArray))) (lr HO nG (decide ((1:Int)≤a)&&decide (a≤(6:Int)))) (kX b a)) (br (decide (b=(⟨#[100,111,99]⟩:ByteArray))) (lr HO nG (decide ((1:Int)≤a)&&decide (a≤(6:Int)))) (kX b a))
def jG(a:ByteArray)(b:Int):Option (Bool):=(pF a b).m
theorem ZRC(a:ByteArray)(b:Int):KC Tryz.prog 139 [vS a,vI b] (jG a b) HO:=AE Tryz.func139 Tryz.ntmps139 Aa [.tmp 4] fun C co y hm c d=>Ax co Aa Ae (pF a b) hm d fun r g=>⟨⟨id,⟨⟨id,⟨⟨id,⟨⟨id,id⟩,⟨⟨id,id⟩,⟨id,id⟩⟩⟩⟩,⟨⟨id,⟨⟨id,id⟩,⟨⟨id,id⟩,⟨id,id⟩⟩⟩⟩,⟨⟨id,⟨⟨id,id⟩,⟨⟨id,id⟩,⟨id,id⟩⟩⟩⟩,⟨id,⟨⟨id,id⟩,⟨⟨id,id⟩,⟨id,id⟩⟩⟩⟩⟩⟩⟩⟩,⟨⟨id,⟨⟨id,⟨⟨id,id⟩,⟨⟨id,id⟩,⟨id,id⟩⟩⟩⟩,⟨⟨id,⟨⟨id,id⟩,⟨⟨id,id⟩,⟨id,id⟩⟩⟩⟩,⟨⟨id,⟨⟨id,id⟩,⟨⟨id,id⟩,⟨id,id⟩⟩⟩⟩,⟨id,⟨⟨id,id⟩,⟨⟨id,id⟩,⟨id,id⟩⟩⟩⟩⟩⟩⟩⟩,⟨id,⟨⟨id,⟨⟨id,id⟩,⟨⟨id,id⟩,⟨id,id⟩⟩⟩⟩,⟨⟨id,⟨⟨id,id⟩,⟨⟨id,id⟩,⟨id,id⟩⟩⟩⟩,⟨⟨id,⟨⟨id,id⟩,⟨⟨id,id⟩,⟨id,id⟩⟩⟩⟩,⟨id,⟨⟨id,id⟩,⟨⟨id,id⟩,⟨id,id⟩⟩⟩⟩⟩⟩⟩⟩⟩⟩⟩,⟨id,⟨⟨id,⟨⟨id,⟨⟨id,id⟩,⟨⟨id,id⟩,⟨id,id⟩⟩⟩⟩,⟨⟨id,⟨⟨id,id⟩,⟨⟨id,id⟩,⟨id,id⟩⟩⟩⟩,⟨⟨id,⟨⟨id,id⟩,⟨⟨id,id⟩,⟨id,id⟩⟩⟩⟩,⟨id,⟨⟨id,id⟩,⟨⟨id,id⟩,⟨id,id⟩⟩⟩⟩⟩⟩⟩⟩,⟨⟨id,⟨⟨id,⟨⟨id,id⟩,⟨⟨id,id⟩,⟨id,id⟩⟩⟩⟩,⟨⟨id,⟨⟨id,id⟩,⟨⟨id,id⟩,⟨id,id⟩⟩⟩⟩,⟨⟨id,⟨⟨id,id⟩,⟨⟨id,id⟩,⟨id,id⟩⟩⟩⟩,⟨id,⟨⟨id,id⟩,⟨⟨id,id⟩,⟨id,id⟩⟩⟩⟩⟩⟩⟩⟩,⟨id,⟨⟨id,⟨⟨id,id⟩,⟨⟨id,id⟩,⟨id,id⟩⟩⟩⟩,⟨⟨id,⟨⟨id,id⟩,⟨⟨id,id⟩,⟨id,id⟩⟩⟩⟩,⟨⟨id,⟨⟨id,id⟩,⟨⟨id,id⟩,⟨id,id⟩⟩⟩⟩,⟨id,⟨⟨id,id⟩,⟨⟨id,id⟩,⟨id,id⟩⟩⟩⟩⟩⟩⟩⟩⟩⟩⟩⟩
abbrev xW:Bool→AV:=fun y=>vB y
def oY(b:Nt):PT 0 (Bool):=wg<|cl (tY b.name) fun a=>wg<|wg<|AO ((!decide (a=(0:Int)))&&decide (b.val.kind=a)) (bp a b.val) fun c=>lr xW nG (((!decide (a=(0:Int)))&&decide (b.val.kind=a))&&c)
def jZ(a:Nt):Option (Bool):=(oY a).m
theorem ZSH(a:Nt):KC Tryz.prog 140 [.agg ((Cb a).map .d)] (jZ a) xW:=AE Tryz.func140 Tryz.ntmps140 Aa [.tmp 2] fun C co y hm b c=>Ax co Aa Ae (oY a) hm c fun r g=>fun d=>fun e=>id
abbrev Iw:Int→AV:=fun y=>vI y
def rN(a:List Nt)(b:Int):Nat→St:=fun c=>Ad [(0,vL Cb a),(1,vI b),(5,vN c)] []
def rV:Unit→Nat×St:=fun _=>(0,Ad [] [])
def pn(b:List Nt)(e:Int)(a:Nat):PT 0 (Lv (Nat) (Unit) (Int)):=vz (An b)<|br (decide ((a:Int)<(b.length:Int))) (ix b a fun f=>cl (tY f.name) fun k=>br (decide (k=(0:Int))) (AA Iw nG 8) (ix b a fun g=>cl (ZRC g.name e) fun l=>br (!l) (AA Iw nG 1) (ix b a fun h=>cl (ZSH h) fun m=>br (!m) (AA Iw nG 12) (AZ (decide ((0:Int)<(a:Int))) b (a:Int) fun i=>vg (decide ((0:Int)<(a:Int))) (wi ((a:Int)-1))<|AZ (decide ((0:Int)<(a:Int))) b ((a:Int)-1) fun j=>br (decide ((0:Int)<(a:Int))&&BL i.name j.name) (AA Iw nG 11) (AZ (decide ((0:Int)<(a:Int))) b (a:Int) fun c=>vg (decide ((0:Int)<(a:Int))) (wi ((a:Int)-1))<|AZ (decide ((0:Int)<(a:Int))) b ((a:Int)-1) fun d=>br (decide ((0:Int)<(a:Int))&&decide (c.name=d.name)) (AA Iw nG 9) (vs (wa a 1)<|ln (rN b e) (a+1))))))) (Ah (rV) ())
def WZ(a:List Nt)(b:Int):Nat→Option (Lv (Nat) (Unit) (Int)):=fun c=>(pn a b c).m
def py:PT 0 (Int):=lr Iw nG 0
def mR(a:List Nt)(b:Int):PT 0 (Int):=lc (Ad [(0,vL Cb a),(1,vI b),(5,vI 0)] []) ((Ak (WZ a b) Am 0).bind (Sum.elim (fun _=>(py).m) some))
def n7(a:List Nt)(b:Int):PT 0 (Int):=vz (An a)<|br (decide ((8:Int)<(a.length:Int))) (lr Iw nG 3) (lc (Ad [(0,vL Cb a),(1,vI b)] []) ((mR a b).m))
def jY(a:List Nt)(b:Int):Option (Int):=(n7 a b).m
theorem ZBo{C:Cx}(co:CO C 0)(a:List Nt)(b:Int):KL Tryz.prog (AC tl) 68 C (pa [0,0,1,0,1,1] (Az Tryz.f105)) [.tmp 4] 0 (rN a b) (rV) Iw nG (WZ a b):=fun i _ hm Q c h f=>As co Aa Ae (pn a b i) (AK [0,1,5]) nl h hm f fun r g=>⟨fun j=>fun o=>⟨id,fun k=>fun p=>⟨id,fun l=>fun q=>⟨id,fun m=>fun n=>⟨id,fun d=>fun e=>⟨id,id⟩⟩⟩⟩⟩,id⟩
theorem ZS1(b:List Nt)(c:Int):KC Tryz.prog 105 [vL Cb b,vI c] (jY b c) Iw:=AE Tryz.func105 Tryz.ntmps105 Aa [.tmp 4] fun C co y hm d a=>Aj co Aa Ae 2 (n7 b c) (AK [0,1]) nl nH hm a fun r g=>⟨id,fun _ hm a=>sq (Aj co Aa Ae 1 (mR b c) (AK [0,1,5]) nl nH hm a fun r g=>fun _ hm a=>bk 0 (lo (AF (ZBo co b c) nH hm a (fun _ hm=>Ax co Aa Ae (py) hm a fun r g=>id))))⟩
abbrev qO:List Prb→AV:=fun y=>.tup []
@[reducible] def q6(a:ByteArray):List Prb→List Blk:=fun y=>[⟨0,true,78,2,[vS a,.ref (0,1) 0 0 y.length]⟩,⟨0,true,115,3,Ab Ap y⟩]
def gQ(a:ByteArray)(b:List Prb):PT 2 (List Prb):=lr qO (q6 a) b
def bU(a:ByteArray)(b:List Prb):PT 2 (List Prb):=vz (fl b)<|lc (Ad [] [((0,0),⟨0,true,78,2,[vS a,.ref (0,1) 0 0 b.length]⟩),((0,1),⟨0,true,115,3,Ab Ap b⟩)]) ((gQ a b).m)
def ed(a:ByteArray)(b:List Prb)(d:Int)(c:Int):PT 2 (List Prb):=vz (fl b)<|lc (Ad [(12,.ptr (0,0) 0 0),(14,vB (!decide (c=(0:Int)))),(15,vI d),(16,vI c)] [((0,0),⟨0,true,78,2,[vS a,.ref (0,1) 0 0 b.length]⟩),((0,1),⟨0,true,115,3,Ab Ap b⟩)]) ((BF a b (!decide (c=(0:Int))) d c).bind fun e=>(bU a e).m)
def fK(a:ByteArray)(b:List Prb)(e:List Nt)(f:Int)(c:Int):PT 2 (List Prb):=cl (ZS1 e f) fun d=>vz (fl b)<|lc (Ad [(0,.ptr (0,0) 0 0),(3,vI c),(8,vI d)] [((0,0),⟨0,true,78,2,[vS a,.ref (0,1) 0 0 b.length]⟩),((0,1),⟨0,true,115,3,Ab Ap b⟩)]) ((ed a b c d).m)
def HU(a:ByteArray)(b:List Prb)(c:List Nt)(d:Int)(e:Int):Option (List Prb):=(fK a b c d e).m
theorem Mp(a:ByteArray)(b:List Prb)(e:List Nt)(f:Int)(d:Int):KG Tryz.prog 72 2 [1] [(1,0)] [.ptr (0,0) 0 0,vL Cb e,vI f,vI d] [⟨0,true,78,2,[vS a,.ref (0,1) 0 0 b.length]⟩,⟨0,true,115,3,Ab Ap b⟩] (HU a b e f d) qO (q6 a):=qm Tryz.func72 Tryz.ntmps72 Aa [] 2 [1] [0] [(1,0)] (fun C co k y hm i c=>Aj co Aa Ae 1 (fK a b e f d) (Ac [0,3,8] Fo) nl nH hm c fun r g=>fun h=>fun _ hm c=>rg (AM co Aa 5 (ed a b d h) (Ac [12,14,15,16] Fo) hm c fun r g=>fun _ hm c=>Bs co hm (BU a b (!decide (h=(0:Int))) d h) [((0,0),⟨0,true,78,2,[vS a,.ref (0,1) 0 0 b.length]⟩),((0,1),⟨0,true,115,3,Ab Ap b⟩)] [] (fun z=>.tup []) (fun z=>[((0,0),⟨0,true,78,2,[vS a,.ref (0,1) 0 0 z.length]⟩),((0,1),⟨0,true,115,3,Ab Ap z⟩)]) [] fun j hm=>AI co Aa (bU a j) (Ac [] Fo) hm c fun r g=>fun _ hm c=>B3 (gQ a j) co hm c (fun r g=>id) r g))
end Go.Proofs.YtjbijbkdiijhaaaGreat
