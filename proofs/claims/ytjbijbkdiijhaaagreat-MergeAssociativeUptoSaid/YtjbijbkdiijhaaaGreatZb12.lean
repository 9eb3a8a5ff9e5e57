import Derived.Test.YtjbijbkdiijhaaaGreatZb11
import Derived.Test.YtjbijbkdiijhaaaGreatZb00
namespace Go.Proofs.YtjbijbkdiijhaaaGreat
set_option maxRecDepth 100000
set_option linter.all false
open Go Go.Eng
class Tid (α:Type) where
 t:Nat
instance:Tid Slt:=⟨61⟩
instance:Tid Raw:=⟨65⟩
instance:Tid Pr:=⟨63⟩
abbrev J6:List (Af×Bool):=[((1,2),false),((1,5),true)]
abbrev EU:List (Af×Bool):=[((1,2),false)]
abbrev DA(a:Scm):Af×Blk:=kk 2 26 3 (cD (Au a))
abbrev Oj:List ByteArray→AV:=fun y=>vL Bx y
def vF(b:Scm)(c:Int):List ByteArray×Nat→St:=fun(a,v2)=>Ad [(1,vI c),pp 2,(5,.ref (1,5) 0 0 a.length),(6,vN v2)] [(DA b),kk 5 9 1 (Ab Bx a)]
def tW(b:Scm)(c:Int):List ByteArray→Nat×St:=fun a=>(0,Ad [(1,vI c),pp 2,(5,.ref (1,5) 0 0 a.length)] [(DA b),kk 5 9 1 (Ab Bx a)])
def ed(a:Scm)(c:Int)(b:List ByteArray)(v2:Nat):PT 0 (Lv (List ByteArray×Nat) (List ByteArray) (List ByteArray)):=wg<|vy (decide (c=(1:Int))) (An a.messages)<|br (decide (c=(1:Int))&&decide ((v2:Int)<(a.messages.length:Int))) (wg<|ix a.messages v2 fun d=>vw .sep<|ap b (d.name:ByteArray)<|vs (wa v2 1)<|vz (fl (b++[d.name]))<|ln (vF a c) (b++[d.name],v2+1)) (vz (fl b)<|Ai (tW a c) b)
def Xu(a:Scm)(b:Int):List ByteArray×Nat→Option (Lv (List ByteArray×Nat) (List ByteArray) (List ByteArray)):=fun(c,v2)=>(ed a b c v2).m
def wI(b:Scm)(c:Int):List ByteArray×Nat→St:=fun(a,d)=>Ad [(1,vI c),pp 2,(5,.ref (1,5) 0 0 a.length),(7,vN d)] [(DA b),kk 5 9 1 (Ab Bx a)]
def ut(b:Scm)(c:Int):List ByteArray→Nat×St:=fun a=>(2,Ad [(1,vI c),pp 2,(5,.ref (1,5) 0 0 a.length)] [(DA b),kk 5 9 1 (Ab Bx a)])
def fq(a:Scm)(c:Int)(b:List ByteArray)(d:Nat):PT 0 (Lv (List ByteArray×Nat) (List ByteArray) (List ByteArray)):=wg<|vy (decide (c=(2:Int))) (An a.enums)<|br (decide (c=(2:Int))&&decide ((d:Int)<(a.enums.length:Int))) (wg<|ix a.enums d fun e=>vw .sep<|ap b (e.name:ByteArray)<|vs (wa d 1)<|vz (fl (b++[e.name]))<|ln (wI a c) (b++[e.name],d+1)) (vz (fl b)<|Ai (ut a c) b)
def Zf(a:Scm)(b:Int):List ByteArray×Nat→Option (Lv (List ByteArray×Nat) (List ByteArray) (List ByteArray)):=fun(c,d)=>(fq a b c d).m
def wt(c:Scm)(d:Int):List ByteArray×Nat→St:=fun(b,a)=>Ad [(1,vI d),pp 2,(5,.ref (1,5) 0 0 b.length),(8,vN a)] [(DA c),kk 5 9 1 (Ab Bx b)]
def vn:List ByteArray→Nat×St:=fun a=>(4,Ad [(5,.ref (1,5) 0 0 a.length)] [kk 5 9 1 (Ab Bx a)])
def dw(d:Scm)(e:Int)(c:List ByteArray)(a:Nat):PT 0 (Lv (List ByteArray×Nat) (List ByteArray) (List ByteArray)):=wg<|vy (decide (e=(3:Int))) (An d.services)<|br (decide (e=(3:Int))&&decide ((a:Int)<(d.services.length:Int))) (wg<|ix d.services a fun b=>vw .sep<|ap c (b.name:ByteArray)<|vs (wa a 1)<|vz (fl (c++[b.name]))<|ln (wt d e) (c++[b.name],a+1)) (vz (fl c)<|Ai (vn) c)
def TE(b:Scm)(c:Int):List ByteArray×Nat→Option (Lv (List ByteArray×Nat) (List ByteArray) (List ByteArray)):=fun(d,a)=>(dw b c d a).m
def da(a:List ByteArray):PT 0 (List ByteArray):=vz (fr a)<|lr Oj nG a
def de(c:Scm)(d:Int)(a:List ByteArray):PT 0 (List ByteArray):=vz (fl a)<|lc (Ad [(1,vI d),pp 2,(5,.ref (1,5) 0 0 a.length),(8,vI 0)] [(DA c),kk 5 9 1 (Ab Bx a)]) ((Am (TE c d) Al (a,0)).bind (Sum.elim (fun b=>(da b).m) some))
def bu(b:Scm)(c:Int)(a:List ByteArray):PT 0 (List ByteArray):=vz (fl a)<|lc (Ad [(1,vI c),pp 2,(5,.ref (1,5) 0 0 a.length),(7,vI 0)] [(DA b),kk 5 9 1 (Ab Bx a)]) ((Am (Zf b c) Al (a,0)).bind (Sum.elim (fun d=>(de b c d).m) some))
def cT(a:Scm)(b:Int):PT 0 (List ByteArray):=vw (.ads 5 5 9 1)<|vz (fl ([]:List ByteArray))<|lc (Ad [(1,vI b),pp 2,(5,.ref (1,5) 0 0 ([]:List ByteArray).length),(6,vI 0)] [(DA a),kk 5 9 1 (Ab Bx ([]:List ByteArray))]) ((Am (Xu a b) Al (([]:List ByteArray),0)).bind (Sum.elim (fun c=>(bu a b c).m) some))
def dR(a:Scm)(b:Int):PT 0 (List ByteArray):=lc (Ad [(1,vI b),pp 2,(5,.e0),(6,vI 0)] [(DA a)]) ((cT a b).m)
def dk(a:Scm)(b:Int):PT 0 (List ByteArray):=lc (Ad [(1,vI b),pp 2,(5,.e0)] [(DA a)]) ((dR a b).m)
def jW(a:Scm)(b:Int):Option (List ByteArray):=(dk a b).m
theorem ZEL{C:Cx}(co:CO C 0)(a:Scm)(b:Int):KL Tryz.prog (AC tl) 70 C (pa [0,0,1,0,1,1] (Az Tryz.f33)) [.tmp 4] 0 (vF a b) (tW a b) Oj nG (Xu a b):=fun(f,v2) _ hm Q c e d=>At co Aa Ae (ed a b f v2) (Ac [1,2,5,6] J6) (Ac [1,2,5] J6) e hm d fun r g=>⟨fun h=>id,id⟩
theorem ZJN{C:Cx}(co:CO C 0)(a:Scm)(b:Int):KL Tryz.prog (AC tl) 70 C (pa [0,0,1,0,1,1,1] (Az Tryz.f33)) [.tmp 4] 0 (wI a b) (ut a b) Oj nG (Zf a b):=fun(f,h) _ hm Q c e d=>At co Aa Ae (fq a b f h) (Ac [1,2,5,7] J6) (Ac [1,2,5] J6) e hm d fun r g=>⟨fun i=>id,id⟩
theorem ZGt{C:Cx}(co:CO C 0)(a:Scm)(b:Int):KL Tryz.prog (AC tl) 70 C (pa [0,0,1,0,1,1,1,1] (Az Tryz.f33)) [.tmp 4] 0 (wt a b) (vn) Oj nG (TE a b):=fun(i,c) _ hm Q d h f=>At co Aa Ae (dw a b i c) (Ac [1,2,5,8] J6) (Ac [5] [((1,5),true)]) h hm f fun r g=>⟨fun e=>id,id⟩
theorem U1(b:Scm)(c:Int):KC Tryz.prog 33 [.agg ((Au b).map .d),vI c] (jW b c) Oj:=AF Tryz.func33 Tryz.ntmps33 Aa [.tmp 4] fun C co y hm e a=>Aj co Aa Ae 2 (dk b c) (Ac [1,2,5] EU) nl nH hm a fun r g=>fun _ hm a=>sq (Aj co Aa Ae 1 (dR b c) (Ac [1,2,5,6] EU) nl nH hm a fun r g=>fun _ hm a=>bk 0 (IC co (cT b c) (Ac [1,2,5,6] J6) hm a fun r g=>fun _ hm a=>lo (AH (ZEL co b c) nH hm a (fun f hm=>sq (Aj co Aa Ae 1 (bu b c f) (Ac [1,2,5,7] J6) nl nH hm a fun r g=>fun _ hm a=>bk 2 (lo (AH (ZJN co b c) nH hm a (fun h hm=>sq (Aj co Aa Ae 1 (de b c h) (Ac [1,2,5,8] J6) nl nH hm a fun r g=>fun _ hm a=>bk 4 (lo (AH (ZGt co b c) nH hm a (fun d hm=>Ax co Aa Ae (da d) hm a fun r g=>id))))))))))))
abbrev Fs:List (Af×Bool):=[((0,0),false),((0,1),true)]
abbrev ZQ:List Prb→AV:=fun y=>.tup []
@[reducible] def Z2(a:ByteArray):List Prb→List Blk:=fun y=>[⟨0,true,78,2,[vS a,.ref (0,1) 0 0 y.length]⟩,⟨0,true,115,3,Ab Ao y⟩]
def be(a:ByteArray)(b:List Prb)(c:Int)(d:Int):PT 2 (List Prb):=lr ZQ (Z2 a) (b++([(.mk a c d:Prb)]))
def dB(a:ByteArray)(b:List Prb)(c:Int)(d:Int):PT 2 (List Prb):=wg<|wg<|vw .sep<|ap b ((.mk a c d:Prb):Prb)<|BY 1 (Ab Ao [(.mk a c d:Prb)]) (fun _=>Zyq _)<|wg<|vwl 0 [.ref (0,1) 1 0 (b++([(.mk a c d:Prb)])).length]<|vz (fl (b++([(.mk a c d:Prb)])))<|lc (Ad [] [((0,0),⟨0,true,78,2,[vS a,.ref (0,1) 0 0 (b++([(.mk a c d:Prb)])).length]⟩),((0,1),⟨0,true,115,3,Ab Ao (b++([(.mk a c d:Prb)]))⟩)]) ((be a b c d).m)
def eJ(a:ByteArray)(b:List Prb):PT 2 (List Prb):=lr ZQ (Z2 a) b
def bN(a:ByteArray)(b:List Prb)(c:Bool)(d:Int)(e:Int):PT 2 (List Prb):=vz (fl b)<|lc (Ad [(0,.ptr (0,0) 0 0),(2,vI d),(3,vI e),(8,vB c)] [((0,0),⟨0,true,78,2,[vS a,.ref (0,1) 0 0 b.length]⟩),((0,1),⟨0,true,115,3,Ab Ao b⟩)]) (if c=true then(dB a b d e).m else(eJ a b).m)
def BG(a:ByteArray)(b:List Prb)(c:Bool)(d:Int)(e:Int):Option (List Prb):=(bN a b c d e).m
theorem BX(a:ByteArray)(b:List Prb)(f:Bool)(d:Int)(e:Int):KG Tryz.prog 34 2 [1] [(1,0)] [.ptr (0,0) 0 0,vB f,vI d,vI e] [⟨0,true,78,2,[vS a,.ref (0,1) 0 0 b.length]⟩,⟨0,true,115,3,Ab Ao b⟩] (BG a b f d e) ZQ (Z2 a):=qe Tryz.func34 Tryz.ntmps34 Aa [] 2 [1] [0] [(1,0)] (fun C co h y hm i c=>Aj co Aa Ae 1 (bN a b f d e) (Ac [0,2,3,8] Fs) nl nH hm c fun r g=>fun _ hm c=>cd f hm (fun hm=>Fp co Aa Ae (.fst 0 (.fst 1 (.fst 2 (.fst 3 (.fst 5 (.fst 6 (.fst 7 (.fst 9 (.fst 10 (.fst 4 (.fst 8 (.fst 11 (.fst 12 (.fst 13 (.fst 14 (.fst 15 (.fst 16 .nil))))))))))))))))) [] (dB a b d e) (Ac [] Fs) hm c fun r g=>⟨ZP1 g h,fun _ hm c=>B4 (be a b d e) co hm c (fun r g=>id) r g⟩) (fun hm=>Ax co Aa Ae (eJ a b) hm c fun r g=>id))
abbrev Sv:Bool→AV:=fun y=>vB y
def wq(a:List ByteArray):Nat→St:=fun b=>Ad [(0,vL Bx a),(3,vN b)] []
def uT:Unit→Nat×St:=fun _=>(0,Ad [] [])
def eP(b:List ByteArray)(a:Nat):PT 0 (Lv (Nat) (Unit) (Bool)):=vz (An b)<|br (decide ((a:Int)<(b.length:Int))) (ix b a fun c=>vs (wi ((a:Int)-1))<|CI b ((a:Int)-1) fun d=>br (BM c d||decide (c=d)) (AA Sv nG false) (vs (wa a 1)<|ln (wq b) (a+1))) (Ai (uT) ())
def Zh(a:List ByteArray):Nat→Option (Lv (Nat) (Unit) (Bool)):=fun b=>(eP a b).m
def fU:PT 0 (Bool):=lr Sv nG true
def b8(a:List ByteArray):PT 0 (Bool):=lc (Ad [(0,vL Bx a),(3,vI 1)] []) ((Am (Zh a) Al 1).bind (Sum.elim (fun _=>(fU).m) some))
def dH(a:List ByteArray):PT 0 (Bool):=lc (Ad [(0,vL Bx a)] []) ((b8 a).m)
def jj(a:List ByteArray):Option (Bool):=(dH a).m
theorem ZJA{C:Cx}(co:CO C 0)(a:List ByteArray):KL Tryz.prog (AC tl) 20 C (pa [0,0,1,0,1] (Az Tryz.f35)) [.tmp 2] 0 (wq a) (uT) Sv nG (Zh a):=fun e _ hm Q b d c=>At co Aa Ae (eP a e) (AJ [0,3]) nl d hm c fun r g=>⟨fun f=>fun h=>⟨id,id⟩,id⟩
theorem ZVo(b:List ByteArray):KC Tryz.prog 35 [vL Bx b] (jj b) Sv:=AF Tryz.func35 Tryz.ntmps35 Aa [.tmp 2] fun C co y hm c a=>Aj co Aa Ae 1 (dH b) (AJ [0]) nl nH hm a fun r g=>fun _ hm a=>sq (Aj co Aa Ae 1 (b8 b) (AJ [0,3]) nl nH hm a fun r g=>fun _ hm a=>bk 0 (lo (AH (ZJA co b) nH hm a (fun _ hm=>Ax co Aa Ae (fU) hm a fun r g=>id))))
abbrev SH:Bool→AV:=fun y=>vB y
def wx(a:List ByteArray)(b:ByteArray):Nat→St:=fun c=>Ad [(0,vL Bx a),(1,vS b),(5,vN c)] []
def xo:Unit→Nat×St:=fun _=>(0,Ad [] [])
def Zj(a:List ByteArray)(c:ByteArray)(b:Nat):PT 0 (Lv (Nat) (Unit) (Bool)):=vz (An a)<|br (decide ((b:Int)<(a.length:Int))) (ix a b fun d=>br (decide (d=c)) (AA SH nG true) (vs (wa b 1)<|ln (wx a c) (b+1))) (Ai (xo) ())
def NF(a:List ByteArray)(b:ByteArray):Nat→Option (Lv (Nat) (Unit) (Bool)):=fun c=>(Zj a b c).m
def XY:PT 0 (Bool):=lr SH nG false
def XL(a:List ByteArray)(b:ByteArray):PT 0 (Bool):=lc (Ad [(0,vL Bx a),(1,vS b),(5,vI 0)] []) ((Am (NF a b) Al 0).bind (Sum.elim (fun _=>(XY).m) some))
def XA(a:List ByteArray)(b:ByteArray):PT 0 (Bool):=lc (Ad [(0,vL Bx a),(1,vS b)] []) ((XL a b).m)
def PE(a:List ByteArray)(b:ByteArray):Option (Bool):=(XA a b).m
theorem ZKT{C:Cx}(co:CO C 0)(a:List ByteArray)(b:ByteArray):KL Tryz.prog (AC tl) 18 C (pa [0,0,1,0,1] (Az Tryz.f63)) [.tmp 4] 0 (wx a b) (xo) SH nG (NF a b):=fun f _ hm Q c e d=>At co Aa Ae (Zj a b f) (AJ [0,1,5]) nl e hm d fun r g=>⟨fun h=>⟨id,id⟩,id⟩
theorem xU(b:List ByteArray)(c:ByteArray):KC Tryz.prog 63 [vL Bx b,vS c] (PE b c) SH:=AF Tryz.func63 Tryz.ntmps63 Aa [.tmp 4] fun C co y hm d a=>Aj co Aa Ae 1 (XA b c) (AJ [0,1]) nl nH hm a fun r g=>fun _ hm a=>sq (Aj co Aa Ae 1 (XL b c) (AJ [0,1,5]) nl nH hm a fun r g=>fun _ hm a=>bk 0 (lo (AH (ZKT co b c) nH hm a (fun _ hm=>Ax co Aa Ae (XY) hm a fun r g=>id))))
abbrev Sw:Bool→AV:=fun y=>vB y
def uY(a:List ByteArray)(b:List ByteArray):Nat→St:=fun c=>Ad [(0,vL Bx a),(1,vL Bx b),(5,vN c)] []
def xp:Unit→Nat×St:=fun _=>(0,Ad [] [])
def dX(a:List ByteArray)(c:List ByteArray)(b:Nat):PT 0 (Lv (Nat) (Unit) (Bool)):=vz (An a)<|br (decide ((b:Int)<(a.length:Int))) (ix a b fun d=>cl (xU c d) fun e=>br e (AA Sw nG true) (vs (wa b 1)<|ln (uY a c) (b+1))) (Ai (xp) ())
def XC(a:List ByteArray)(b:List ByteArray):Nat→Option (Lv (Nat) (Unit) (Bool)):=fun c=>(dX a b c).m
def bo:PT 0 (Bool):=lr Sw nG false
def fh(a:List ByteArray)(b:List ByteArray):PT 0 (Bool):=lc (Ad [(0,vL Bx a),(1,vL Bx b),(5,vI 0)] []) ((Am (XC a b) Al 0).bind (Sum.elim (fun _=>(bo).m) some))
def dN(a:List ByteArray)(b:List ByteArray):PT 0 (Bool):=lc (Ad [(0,vL Bx a),(1,vL Bx b)] []) ((fh a b).m)
def jA(a:List ByteArray)(b:List ByteArray):Option (Bool):=(dN a b).m
theorem ZGn{C:Cx}(co:CO C 0)(a:List ByteArray)(b:List ByteArray):KL Tryz.prog (AC tl) 18 C (pa [0,0,1,0,1] (Az Tryz.f36)) [.tmp 4] 0 (uY a b) (xp) Sw nG (XC a b):=fun f _ hm Q c e d=>At co Aa Ae (dX a b f) (AJ [0,1,5]) nl e hm d fun r g=>⟨fun h=>fun i=>⟨id,id⟩,id⟩
theorem hP(b:List ByteArray)(c:List ByteArray):KC Tryz.prog 36 [vL Bx b,vL Bx c] (jA b c) Sw:=AF Tryz.func36 Tryz.ntmps36 Aa [.tmp 4] fun C co y hm d a=>Aj co Aa Ae 1 (dN b c) (AJ [0,1]) nl nH hm a fun r g=>fun _ hm a=>sq (Aj co Aa Ae 1 (fh b c) (AJ [0,1,5]) nl nH hm a fun r g=>fun _ hm a=>bk 0 (lo (AH (ZGn co b c) nH hm a (fun _ hm=>Ax co Aa Ae (bo) hm a fun r g=>id))))
abbrev Ay(a:Scm):Af×Blk:=kk 2 26 3 (cD (Au a))
abbrev SL:Int→AV:=fun y=>vI y
def wo(a:Scm)(b:ByteArray):Nat→St:=fun c=>Ad [(1,vS b),pp 2,(5,vN c)] [(Ay a)]
def ui:Unit→Nat×St:=fun _=>(0,Ad [] [])
def dQ(b:Scm)(c:ByteArray)(a:Nat):PT 0 (Lv (Nat) (Unit) (Int)):=wg<|vz (An b.messages)<|br (decide ((a:Int)<(b.messages.length:Int))) (wg<|ix b.messages a fun d=>br (decide (d.name=c)) (AA SL nG (a:Int)) (vs (wa a 1)<|ln (wo b c) (a+1))) (Ai (ui) ())
def Zq(a:Scm)(b:ByteArray):Nat→Option (Lv (Nat) (Unit) (Int)):=fun c=>(dQ a b c).m
def cM:PT 0 (Int):=lr SL nG (-1)
def fd(a:Scm)(b:ByteArray):PT 0 (Int):=lc (Ad [(1,vS b),pp 2,(5,vI 0)] [(Ay a)]) ((Am (Zq a b) Al 0).bind (Sum.elim (fun _=>(cM).m) some))
def dF(a:Scm)(b:ByteArray):PT 0 (Int):=lc (Ad [(1,vS b),pp 2] [(Ay a)]) ((fd a b).m)
def jh(a:Scm)(b:ByteArray):Option (Int):=(dF a b).m
theorem ZFd{C:Cx}(co:CO C 0)(a:Scm)(b:ByteArray):KL Tryz.prog (AC tl) 22 C (pa [0,0,1,0,1] (Az Tryz.f75)) [.tmp 4] 0 (wo a b) (ui) SL nG (Zq a b):=fun f _ hm Q c e d=>At co Aa Ae (dQ a b f) (Ac [1,2,5] EU) nl e hm d fun r g=>⟨fun h=>⟨id,id⟩,id⟩
theorem O6(b:Scm)(c:ByteArray):KC Tryz.prog 75 [.agg ((Au b).map .d),vS c] (jh b c) SL:=AF Tryz.func75 Tryz.ntmps75 Aa [.tmp 4] fun C co y hm d a=>Aj co Aa Ae 1 (dF b c) (Ac [1,2] EU) nl nH hm a fun r g=>fun _ hm a=>sq (Aj co Aa Ae 1 (fd b c) (Ac [1,2,5] EU) nl nH hm a fun r g=>fun _ hm a=>bk 0 (lo (AH (ZFd co b c) nH hm a (fun _ hm=>Ax co Aa Ae (cM) hm a fun r g=>id))))
abbrev p8(a:Scm):Af×Blk:=kk 3 26 3 (cD (Au a))
abbrev p9(a:Msg):Af×Blk:=kk 4 45 5 (cD (AR a))
abbrev SI:Bool→AV:=fun y=>vB y
def fR(a:Scm)(b:Msg)(c:List Bool):Nat→St:=fun d=>Ad [(2,vL AY c),pp 3,pp 4,(7,vN d)] [(p8 a),(p9 b)]
def uC:Unit→Nat×St:=fun _=>(0,Ad [] [])
def bP(d:Scm)(b:Msg)(e:List Bool)(a:Nat):PT 0 (Lv (Nat) (Unit) (Bool)):=wg<|vz (An b.fields)<|br (decide ((a:Int)<(b.fields.length:Int))) (wg<|ix b.fields a fun c=>wg<|wg<|wg<|br ((!decide (c.card=(1:Int)))||(!decide (c.type.kind=(10:Int)))) (vs (wa a 1)<|ln (fR d b e) (a+1)) (wg<|wg<|cl (O6 d c.type.name) fun f=>A1 (decide ((0:Int)≤f)) e f fun g=>br (decide ((0:Int)≤f)&&(!g)) (AA SI nG true) (vs (wa a 1)<|ln (fR d b e) (a+1)))) (Ai (uC) ())
def TM(a:Scm)(b:Msg)(c:List Bool):Nat→Option (Lv (Nat) (Unit) (Bool)):=fun d=>(bP a b c d).m
def gC:PT 0 (Bool):=lr SI nG false
def gJ(a:Scm)(b:Msg)(c:List Bool):PT 0 (Bool):=lc (Ad [(2,vL AY c),pp 3,pp 4,(7,vI 0)] [(p8 a),(p9 b)]) ((Am (TM a b c) Al 0).bind (Sum.elim (fun _=>(gC).m) some))
def a5(a:Scm)(b:Msg)(c:List Bool):PT 0 (Bool):=lc (Ad [(2,vL AY c),pp 3,pp 4] [(p8 a),(p9 b)]) ((gJ a b c).m)
def jT(a:Scm)(b:Msg)(c:List Bool):Option (Bool):=(a5 a b c).m
theorem ZIV{C:Cx}(co:CO C 0)(a:Scm)(b:Msg)(c:List Bool):KL Tryz.prog (AC tl) 45 C (pa [0,0,1,0,1] (Az Tryz.f64)) [.tmp 6] 0 (fR a b c) (uC) SI nG (TM a b c):=fun h _ hm Q d f e=>At co Aa Ae (bP a b c h) (Ac [2,3,4,7] [((1,3),false),((1,4),false)]) nl f hm e fun r g=>⟨fun i=>⟨id,fun k=>fun j=>⟨id,id⟩⟩,id⟩
theorem ZVi(b:Scm)(c:Msg)(d:List Bool):KC Tryz.prog 64 [.agg ((Au b).map .d),.agg ((AR c).map .d),vL AY d] (jT b c d) SI:=AF Tryz.func64 Tryz.ntmps64 Aa [.tmp 6] fun C co y hm e a=>Aj co Aa Ae 1 (a5 b c d) (Ac [2,3,4] [((1,3),false),((1,4),false)]) nl nH hm a fun r g=>fun _ hm a=>sq (Aj co Aa Ae 1 (gJ b c d) (Ac [2,3,4,7] [((1,3),false),((1,4),false)]) nl nH hm a fun r g=>fun _ hm a=>bk 0 (lo (AH (ZIV co b c d) nH hm a (fun _ hm=>Ax co Aa Ae (gC) hm a fun r g=>id))))
abbrev qd:List (Af×Bool):=[((0,0),true),((1,3),false),((1,4),false)]
abbrev Ah:List (Af×Bool):=[((0,0),true)]
abbrev qa(a:Scm):Af×Blk:=kk 3 26 3 (cD (Au a))
abbrev qb(a:Msg):Af×Blk:=kk 4 45 5 (cD (AR a))
abbrev TT:Bool→AV:=fun y=>vB y
@[reducible] def Zd(a:List Bool):Bool→List Blk:=fun y=>[⟨0,true,4,1,Ab AY a⟩]
def l6(b:Scm)(c:Msg)(a:List Bool):Nat→St:=fun d=>Ad [(2,.ref (0,0) 0 0 a.length),pp 3,pp 4,(7,vN d)] [((0,0),⟨0,true,4,1,Ab AY a⟩),(qa b),(qb c)]
def Zuv(a:List Bool):Unit→Nat×St:=fun _=>(0,Ad [] [((0,0),⟨0,true,4,1,Ab AY a⟩)])
def lE(f:Scm)(c:Msg)(a:List Bool)(b:Nat):PT 1 (Lv (Nat) (Unit) (Bool)):=wg<|vz (An c.fields)<|br (decide ((b:Int)<(c.fields.length:Int))) (wg<|ix c.fields b fun e=>wg<|wg<|wg<|br ((!decide (e.card=(1:Int)))||(!decide (e.type.kind=(10:Int)))) (vs (wa b 1)<|vz (fl a)<|ln (l6 f c a) (b+1)) (wg<|wg<|cl (O6 f e.type.name) fun d=>vg (decide ((0:Int)≤d)) (AI d a.length 1)<|Fq (decide ((0:Int)≤d)) a d.toNat fun g=>br (decide ((0:Int)≤d)&&(!g)) (AA TT (Zd a) true) (vs (wa b 1)<|vz (fl a)<|ln (l6 f c a) (b+1)))) (vz (fl a)<|Ai (Zuv a) ())
def Wu(a:Scm)(b:Msg)(c:List Bool):Nat→Option (Lv (Nat) (Unit) (Bool)):=fun d=>(lE a b c d).m
def l5(a:List Bool):PT 1 (Bool):=lr TT (Zd a) false
def lS(b:Scm)(c:Msg)(a:List Bool):PT 1 (Bool):=vz (fl a)<|lc (Ad [(2,.ref (0,0) 0 0 a.length),pp 3,pp 4,(7,vI 0)] [((0,0),⟨0,true,4,1,Ab AY a⟩),(qa b),(qb c)]) ((Am (Wu b c a) Al 0).bind (Sum.elim (fun _=>(l5 a).m) some))
def lV(b:Scm)(c:Msg)(a:List Bool):PT 1 (Bool):=vz (fl a)<|lc (Ad [(2,.ref (0,0) 0 0 a.length),pp 3,pp 4] [((0,0),⟨0,true,4,1,Ab AY a⟩),(qa b),(qb c)]) ((lS b c a).m)
def Vg(a:Scm)(b:Msg)(c:List Bool):Option (Bool):=(lV a b c).m
theorem Zv2{C:Cx}(co:CO C 1)(b:Scm)(c:Msg)(a:List Bool):KL Tryz.prog (AC tl) 45 C (pa [0,0,1,0,1] (Az Tryz.f64)) [.tmp 6] 1 (l6 b c a) (Zuv a) TT (Zd a) (Wu b c a):=fun h _ hm Q d f e=>At co Aa Ae (lE b c a h) (Ac [2,3,4,7] qd) (Ac [] Ah) f hm e fun r g=>⟨fun i=>⟨id,fun k=>fun j=>⟨id,id⟩⟩,id⟩
theorem ZMt(c:Scm)(d:Msg)(a:List Bool):KO Tryz.prog 64 1 [.agg ((Au c).map .d),.agg ((AR d).map .d),.ref (0,0) 0 0 a.length] [⟨0,true,4,1,Ab AY a⟩] (fun _ _ _ _=>True) (Vg c d a) TT (Zd a):=Bv Tryz.func64 Tryz.ntmps64 Aa [.tmp 6] 1 (fun C co f y hm e b=>Aj co Aa Ae 1 (lV c d a) (Ac [2,3,4] qd) nl nH hm b fun r g=>fun _ hm b=>sq (Aj co Aa Ae 1 (lS c d a) (Ac [2,3,4,7] qd) nl nH hm b fun r g=>fun _ hm b=>bk 0 (lo (AH (Zv2 co c d a) nH hm b (fun _ hm=>Ax co Aa Ae (l5 a) hm b fun r g=>id))))) (hB:=fun y=>⟨.inl (Aw _ _),rfl,trivial⟩)
abbrev LQ:List (Af×Bool):=[((1,1),false),((1,10),true)]
abbrev LM(a:Scm):Af×Blk:=kk 1 26 3 (cD (Au a))
abbrev Sx:List Bool→AV:=fun y=>vL AY y
def uM(b:Scm):Bool×Nat×List Bool→St:=fun(c,v2,a)=>Ad [pp 1,(3,.ref (1,10) 0 0 a.length),(4,vB c),(5,vN v2)] [(LM b),kk 10 4 1 (Ab AY a)]
def xl:List Bool→Nat×St:=fun a=>(0,Ad [(3,.ref (1,10) 0 0 a.length)] [kk 10 4 1 (Ab AY a)])
def dz(b:Scm)(v2:Nat):Bool×Nat×List Bool→St:=fun(v4,c,a)=>Ad [pp 1,(3,.ref (1,10) 0 0 a.length),(4,vB v4),(5,vN v2),(6,vN c)] [(LM b),kk 10 4 1 (Ab AY a)]
def vH(c:Scm)(v2:Nat):Bool×List Bool→Nat×St:=fun(b,a)=>(2,Ad [pp 1,(3,.ref (1,10) 0 0 a.length),(4,vB b),(5,vN v2)] [(LM c),kk 10 4 1 (Ab AY a)])
def eL(c:Scm)(v2:Nat)(v4:Bool)(b:Nat)(a:List Bool):PT 0 (Lv (Bool×Nat×List Bool) (Bool×List Bool) (List Bool)):=wg<|vz (An c.messages)<|br (decide ((b:Int)<(c.messages.length:Int))) (vs (ir b a.length 1)<|ca a b fun d=>wg<|wg<|A1 (!d) c.messages (b:Int) fun e=>J3 (!d) Tryz.prog 64 [.agg ((Au c).map .d),.agg ((AR e).map .d),.ref (1,10) 0 0 a.length] [(1,10)] [kk 10 4 1 (Ab AY a)] (Vg c e a) (fun y=>vB y) fun f=>br ((!d)&&(!f)) (vs (ir b a.length 1)<|vs (st a b true)<|rn 3 10 a.length (a.set b true)<|vw .sep<|vs (wa b 1)<|vz (fl (a.set b true))<|ln (dz c v2) (true,b+1,a.set b true)) (vs (wa b 1)<|vz (fl a)<|ln (dz c v2) (v4,b+1,a))) (vz (fl a)<|Ai (vH c v2) (v4,a))
def XS(a:Scm)(v2:Nat):Bool×Nat×List Bool→Option (Lv (Bool×Nat×List Bool) (Bool×List Bool) (List Bool)):=fun(v4,c,b)=>(eL a v2 v4 c b).m
def cG(c:Scm)(v2:Nat)(b:Bool)(a:List Bool):PT 0 (Lv (Bool×Nat×List Bool) (List Bool) (List Bool)):=vs (wa v2 1)<|vz (fl a)<|ln (uM c) (b,v2+1,a)
def fa(b:Scm)(v2:Nat)(a:List Bool):PT 0 (Lv (Bool×Nat×List Bool) (List Bool) (List Bool)):=vz (fl a)<|lc (Ad [pp 1,(3,.ref (1,10) 0 0 a.length),(4,vB false),(5,vN v2),(6,vI 0)] [(LM b),kk 10 4 1 (Ab AY a)]) ((Am (XS b v2) Al (false,0,a)).bind (Sum.elim (fun(d,c)=>(cG b v2 d c).m) (fun z=>some (.rt z))))
def fI(b:Scm)(c:Bool)(v2:Nat)(a:List Bool):PT 0 (Lv (Bool×Nat×List Bool) (List Bool) (List Bool)):=wg<|vz (An b.messages)<|br (decide ((v2:Int)<(b.messages.length:Int))&&c) (vz (fl a)<|lc (Ad [pp 1,(3,.ref (1,10) 0 0 a.length),(5,vN v2)] [(LM b),kk 10 4 1 (Ab AY a)]) ((fa b v2 a).m)) (vz (fl a)<|Ai (xl) a)
def Zc(a:Scm):Bool×Nat×List Bool→Option (Lv (Bool×Nat×List Bool) (List Bool) (List Bool)):=fun(c,v2,b)=>(fI a c v2 b).m
def fm(a:List Bool):PT 0 (List Bool):=vz (fr a)<|lr Sx nG a
def cJ(a:Scm):PT 0 (List Bool):=vz (fl (List.replicate a.messages.length false))<|lc (Ad [pp 1,(3,.ref (1,10) 0 0 (List.replicate a.messages.length false).length),(4,vB true),(5,vI 0)] [(LM a),kk 10 4 1 (Ab AY (List.replicate a.messages.length false))]) ((Am (Zc a) Al (true,0,List.replicate a.messages.length false)).bind (Sum.elim (fun b=>(fm b).m) some))
def eQ(a:Scm):PT 0 (List Bool):=wg<|vz (An a.messages)<|ms a.messages.length false [vB false] (by first|rfl|kernel_rfl)<|vz (fl (List.replicate a.messages.length false))<|lc (Ad [pp 1,(3,.ref (1,10) 0 0 (List.replicate a.messages.length false).length),(4,vB true)] [(LM a),kk 10 4 1 (Ab AY (List.replicate a.messages.length false))]) ((cJ a).m)
def je(a:Scm):Option (List Bool):=(eQ a).m
theorem ZJi{C:Cx}(co:CO C 0)(a:Scm)(v2:Nat):KL Tryz.prog (AC tl) 48 C (pa [0,0,1,1,0,0,1,0,0,1,0,1,1,1] (Az Tryz.f37)) [.tmp 2] 0 (dz a v2) (vH a v2) Sx nG (XS a v2):=fun(v4,h,b) _ hm Q c f e=>At co Aa Ae (eL a v2 v4 h b) (Ac [1,3,4,5,6] LQ) (Ac [1,3,4,5] LQ) f hm e fun r g=>⟨fun j=>fun d=>⟨fun y hy=>He (ZMt a d b) hy co g [kk 10 4 1 (Ab AY b)] [] (AG []) (fun i k l=>trivial) (fun H=>⟨fun _=>⟨rfl,AE (Aw _ _) (by kernel_rfl)⟩,by kernel_rfl,trivial⟩),fun m=>⟨id,id⟩⟩,id⟩
theorem ZKv{C:Cx}(co:CO C 0)(b:Scm):KL Tryz.prog (AC tl) 48 C (pa [0,0,1,0,1,1,1] (Az Tryz.f37)) [.tmp 2] 0 (uM b) (xl) Sx nG (Zc b):=fun(i,v2,h) _ hm Q f c a=>Aj co Aa Ae 1 (fI b i v2 h) (Ac [1,3,5] LQ) (Ac [3] [((1,10),true)]) c hm a fun r g=>⟨fun _ hm a=>sq (bk 1 (Aj co Aa Ae 2 (fa b v2 h) (Ac [1,3,4,5,6] LQ) nl c hm a fun r g=>fun _ hm a=>bk 2 (lo (Eu (ZJi co b v2) c hm a (fun(e,d) hm=>At co Aa Ae (cG b v2 e d) (Ac [1,3,4,5] LQ) nl c hm a fun r g=>id))))),id⟩
theorem ZUS(b:Scm):KC Tryz.prog 37 [.agg ((Au b).map .d)] (je b) Sx:=AF Tryz.func37 Tryz.ntmps37 Aa [.tmp 2] fun C co y hm d a=>Aj co Aa Ae 3 (eQ b) (Ac [1,3,4] LQ) nl nH hm a fun r g=>fun _ hm a=>sq (Aj co Aa Ae 1 (cJ b) (Ac [1,3,4,5] LQ) nl nH hm a fun r g=>fun _ hm a=>bk 0 (lo (AH (ZKv co b) nH hm a (fun c hm=>Ax co Aa Ae (fm c) hm a fun r g=>id))))
abbrev yg:Bool→AV:=fun y=>vB y
def sO(a:Int):PT 0 (Bool):=lr yg nG (decide ((97:Int)≤a)&&decide (a≤(122:Int)))
def y0(a:Int):Option (Bool):=(sO a).m
theorem xd(a:Int):KC Tryz.prog 135 [.d (.int .u8 a)] (y0 a) yg:=AF Tryz.func135 Tryz.ntmps135 Aa [.tmp 2] fun C co y hm b c=>Ax co Aa Ae (sO a) hm c fun r g=>id
abbrev yp:Bool→AV:=fun y=>vB y
def sA(a:Int):PT 0 (Bool):=lr yp nG (decide ((65:Int)≤a)&&decide (a≤(90:Int)))
def yV(a:Int):Option (Bool):=(sA a).m
theorem wJ(a:Int):KC Tryz.prog 136 [.d (.int .u8 a)] (yV a) yp:=AF Tryz.func136 Tryz.ntmps136 Aa [.tmp 2] fun C co y hm b c=>Ax co Aa Ae (sA a) hm c fun r g=>id
abbrev O3:Bool→AV:=fun y=>vB y
def sb(a:ByteArray):Nat→St:=fun b=>Ad [(0,vS a),(3,vN b)] []
def sw:Unit→Nat×St:=fun _=>(0,Ad [] [])
def oZ(a:ByteArray)(b:Nat):PT 0 (Lv (Nat) (Unit) (Bool)):=vz (BH a.size)<|br (decide ((b:Int)<(a.size:Int))) (ib a b fun h=>cl (xd (h.toNat:Int)) fun d=>Gi (!d) a (b:Int) fun i=>AP (!d) (wJ (i.toNat:Int)) fun f=>Gi ((!d)&&(!f)) a (b:Int) fun c=>Gi (((!d)&&(!f))&&(!decide ((c.toNat:Int)=(95:Int)))) a (b:Int) fun e=>Gi ((((!d)&&(!f))&&(!decide ((c.toNat:Int)=(95:Int))))&&(!(decide ((e.toNat:Int)<(48:Int))))) a (b:Int) fun g=>br ((((!d)&&(!f))&&(!decide ((c.toNat:Int)=(95:Int))))&&(decide ((e.toNat:Int)<(48:Int))||decide ((57:Int)<(g.toNat:Int)))) (AA O3 nG false) (vs (wa b 1)<|ln (sb a) (b+1))) (Ai (sw) ())
def Xn(a:ByteArray):Nat→Option (Lv (Nat) (Unit) (Bool)):=fun b=>(oZ a b).m
def mS:PT 0 (Bool):=lr O3 nG true
def o5(a:ByteArray):PT 0 (Bool):=lc (Ad [(0,vS a),(3,vI 1)] []) ((Am (Xn a) Al 1).bind (Sum.elim (fun _=>(mS).m) some))
def oQ(a:ByteArray):PT 0 (Bool):=vz (BH a.size)<|vy (!(decide ((a.size:Int)=(0:Int)))) (BH a.size)<|Gi (!(decide ((a.size:Int)=(0:Int))||decide ((40:Int)<(a.size:Int)))) a 0 fun c=>AP (!(decide ((a.size:Int)=(0:Int))||decide ((40:Int)<(a.size:Int)))) (xd (c.toNat:Int)) fun b=>Gi ((!(decide ((a.size:Int)=(0:Int))||decide ((40:Int)<(a.size:Int))))&&(!b)) a 0 fun d=>AP ((!(decide ((a.size:Int)=(0:Int))||decide ((40:Int)<(a.size:Int))))&&(!b)) (wJ (d.toNat:Int)) fun e=>br ((decide ((a.size:Int)=(0:Int))||decide ((40:Int)<(a.size:Int)))||((!b)&&(!e))) (lr O3 nG false) (lc (Ad [(0,vS a)] []) ((o5 a).m))
def jI(a:ByteArray):Option (Bool):=(oQ a).m
theorem Zzi{C:Cx}(co:CO C 0)(a:ByteArray):KL Tryz.prog (AC tl) 60 C (pa [0,0,1,0,1,1] (Az Tryz.f101)) [.tmp 2] 0 (sb a) (sw) O3 nG (Xn a):=fun i _ hm Q b h f=>At co Aa Ae (oZ a i) (AJ [0,3]) nl h hm f fun r g=>⟨fun j=>fun l=>fun k=>fun m=>fun c=>fun d=>fun e=>⟨id,id⟩,id⟩
theorem ep(b:ByteArray):KC Tryz.prog 101 [vS b] (jI b) O3:=AF Tryz.func101 Tryz.ntmps101 Aa [.tmp 2] fun C co y hm c a=>Aj co Aa Ae 2 (oQ b) (AJ [0]) nl nH hm a fun r g=>fun d=>fun f=>fun e=>fun h=>⟨id,fun _ hm a=>sq (Aj co Aa Ae 1 (o5 b) (AJ [0,3]) nl nH hm a fun r g=>fun _ hm a=>bk 0 (lo (AH (Zzi co b) nH hm a (fun _ hm=>Ax co Aa Ae (mS) hm a fun r g=>id))))⟩
abbrev Oq:Bool→AV:=fun y=>vB y
def cb(a:ByteArray):ByteArray×Nat→St:=fun(b,v2)=>Ad [(0,vS a),(3,vS b),(4,vN v2)] []
def wr:ByteArray→Nat×St:=fun a=>(0,Ad [(3,vS a)] [])
def bc(a:ByteArray)(b:ByteArray)(v2:Nat):PT 0 (Lv (ByteArray×Nat) (ByteArray) (Bool)):=vz (BH a.size)<|br (decide ((v2:Int)<(a.size:Int))) (ib a v2 fun c=>br (!decide ((c.toNat:Int)=(46:Int))) (vs (wa v2 1)<|ss a (.nt v2) (.nt (v2+1)) fun d=>ad b d fun e=>vs (wa v2 1)<|ln (cb a) (e,v2+1)) (cl (ep b) fun f=>br (!f) (AA Oq nG false) (vs (wa v2 1)<|ln (cb a) (⟨#[]⟩,v2+1)))) (Ai (wr) b)
def Xy(a:ByteArray):ByteArray×Nat→Option (Lv (ByteArray×Nat) (ByteArray) (Bool)):=fun(b,v2)=>(bc a b v2).m
def bA(a:ByteArray):PT 0 (Bool):=cl (ep a) fun b=>lr Oq nG b
def eg(a:ByteArray):PT 0 (Bool):=lc (Ad [(0,vS a),(3,vS ⟨#[]⟩),(4,vI 0)] []) ((Am (Xy a) Al (⟨#[]⟩,0)).bind (Sum.elim (fun b=>(bA b).m) some))
def eh(a:ByteArray):PT 0 (Bool):=vz (BH a.size)<|br (decide ((120:Int)<(a.size:Int))) (lr Oq nG false) (lc (Ad [(0,vS a),(3,vS ⟨#[]⟩)] []) ((eg a).m))
def jf(a:ByteArray):Option (Bool):=(eh a).m
theorem ZIl{C:Cx}(co:CO C 0)(a:ByteArray):KL Tryz.prog (AC tl) 30 C (pa [0,0,1,0,1,1,1] (Az Tryz.f98)) [.tmp 2] 0 (cb a) (wr) Oq nG (Xy a):=fun(e,v2) _ hm Q b d c=>At co Aa Ae (bc a e v2) (AJ [0,3,4]) (AJ [3]) d hm c fun r g=>⟨fun f=>⟨fun h=>fun i=>id,fun j=>⟨id,id⟩⟩,id⟩
theorem ZVN(b:ByteArray):KC Tryz.prog 98 [vS b] (jf b) Oq:=AF Tryz.func98 Tryz.ntmps98 Aa [.tmp 2] fun C co y hm c a=>Aj co Aa Ae 3 (eh b) (AJ [0,3]) nl nH hm a fun r g=>⟨id,fun _ hm a=>sq (Aj co Aa Ae 1 (eg b) (AJ [0,3,4]) nl nH hm a fun r g=>fun _ hm a=>bk 0 (lo (AH (ZIl co b) nH hm a (fun d hm=>Ax co Aa Ae (bA d) hm a fun r g=>fun e=>id))))⟩
abbrev SN:ByteArray×ByteArray→AV:=fun y=>.tup [vS y.1,vS y.2]
def ur(a:ByteArray):Int→St:=fun b=>Ad [(0,vS a),(4,vI b)] []
def xh(a:ByteArray):Unit→Nat×St:=fun _=>(0,Ad [(0,vS a)] [])
def bK(b:ByteArray)(a:Int):PT 0 (Lv (Int) (Unit) (ByteArray×ByteArray)):=br (decide ((0:Int)≤a)) (Sn b a fun c=>br (decide ((c.toNat:Int)=(46:Int))) (ss b .no (.it a) fun d=>vs (wi (a+1))<|ss b (.it (a+1)) .no fun e=>AA SN nG (d,e)) (vs (wi (a-1))<|ln (ur b) (a-1))) (Ai (xh b) ())
def X5(a:ByteArray):Int→Option (Lv (Int) (Unit) (ByteArray×ByteArray)):=fun b=>(bK a b).m
def ec(a:ByteArray):PT 0 (ByteArray×ByteArray):=lr SN nG (⟨#[]⟩,a)
def bS(a:ByteArray):PT 0 (ByteArray×ByteArray):=vz (BH a.size)<|vs (wi ((a.size:Int)-1))<|lc (Ad [(0,vS a),(4,vI ((a.size:Int)-1))] []) ((Am (X5 a) Al ((a.size:Int)-1)).bind (Sum.elim (fun _=>(ec a).m) some))
def fy(a:ByteArray):PT 0 (ByteArray×ByteArray):=lc (Ad [(0,vS a)] []) ((bS a).m)
def jM(a:ByteArray):Option (ByteArray×ByteArray):=(fy a).m
theorem ZIe{C:Cx}(co:CO C 0)(a:ByteArray):KL Tryz.prog (AC tl) 24 C (pa [0,0,1,0,1] (Az Tryz.f99)) [.tmp 2,.tmp 3] 0 (ur a) (xh a) SN nG (X5 a):=fun e _ hm Q b d c=>At co Aa Ae (bK a e) (AJ [0,4]) (AJ [0]) d hm c fun r g=>⟨fun f=>⟨fun h=>fun i=>id,id⟩,id⟩
theorem ZU8(b:ByteArray):KC Tryz.prog 99 [vS b] (jM b) SN:=AF Tryz.func99 Tryz.ntmps99 Aa [.tmp 2,.tmp 3] fun C co y hm c a=>Aj co Aa Ae 1 (fy b) (AJ [0]) nl nH hm a fun r g=>fun _ hm a=>sq (Aj co Aa Ae 1 (bS b) (AJ [0,4]) nl nH hm a fun r g=>fun _ hm a=>bk 0 (lo (AH (ZIe co b) nH hm a (fun _ hm=>Ax co Aa Ae (ec b) hm a fun r g=>id))))
abbrev Bp:Bool→AV:=fun y=>vB y
def nq(a:ByteArray):PT 0 (Bool):=br (decide (a=(⟨#[109,101,115,115,97,103,101]⟩:ByteArray))) (br (decide (a=(⟨#[109,101,115,115,97,103,101]⟩:ByteArray))) (lr Bp nG true) (lr Bp nG false)) (br (decide (a=(⟨#[101,110,117,109]⟩:ByteArray))) (br (decide (a=(⟨#[101,110,117,109]⟩:ByteArray))) (lr Bp nG true) (lr Bp nG false)) (br (decide (a=(⟨#[115,101,114,118,105,99,101]⟩:ByteArray))) (br (decide (a=(⟨#[115,101,114,118,105,99,101]⟩:ByteArray))) (lr Bp nG true) (lr Bp nG false)) (br (decide (a=(⟨#[117,110,105,111,110]⟩:ByteArray))) (br (decide (a=(⟨#[117,110,105,111,110]⟩:ByteArray))) (lr Bp nG true) (lr Bp nG false)) (br (decide (a=(⟨#[109,97,112]⟩:ByteArray))) (br (decide (a=(⟨#[109,97,112]⟩:ByteArray))) (lr Bp nG true) (lr Bp nG false)) (br (decide (a=(⟨#[108,105,115,116]⟩:ByteArray))) (br (decide (a=(⟨#[108,105,115,116]⟩:ByteArray))) (lr Bp nG true) (lr Bp nG false)) (br (decide (a=(⟨#[114,101,113,117,105,114,101,100]⟩:ByteArray))) (br (decide (a=(⟨#[114,101,113,117,105,114,101,100]⟩:ByteArray))) (lr Bp nG true) (lr Bp nG false)) (br (decide (a=(⟨#[111,112,116,105,111,110,97,108]⟩:ByteArray))) (br (decide (a=(⟨#[111,112,116,105,111,110,97,108]⟩:ByteArray))) (lr Bp nG true) (lr Bp nG false)) (br (decide (a=(⟨#[112,108,97,105,110]⟩:ByteArray))) (br (decide (a=(⟨#[112,108,97,105,110]⟩:ByteArray))) (lr Bp nG true) (lr Bp nG false)) (br (decide (a=(⟨#[100,101,102,97,117,108,116]⟩:ByteArray))) (br (decide (a=(⟨#[100,101,102,97,117,108,116]⟩:ByteArray))) (lr Bp nG true) (lr Bp nG false)) (br (decide (a=(⟨#[114,101,115,101,114,118,101,100]⟩:ByteArray))) (br (decide (a=(⟨#[114,101,115,101,114,118,101,100]⟩:ByteArray))) (lr Bp nG true) (lr Bp nG false)) (br (decide (a=(⟨#[105,109,112,111,114,116]⟩:ByteArray))) (br (decide (a=(⟨#[105,109,112,111,114,116]⟩:ByteArray))) (lr Bp nG true) (lr Bp nG false)) (br (decide (a=(⟨#[115,112,97,99,101]⟩:ByteArray))) (br (decide (a=(⟨#[115,112,97,99,101]⟩:ByteArray))) (lr Bp nG true) (lr Bp nG false)) (br (decide (a=(⟨#[114,112,99]⟩:ByteArray))) (br (decide (a=(⟨#[114,112,99]⟩:ByteArray))) (lr Bp nG true) (lr Bp nG false)) (br (decide (a=(⟨#[115,116,114,101,97,109]⟩:ByteArray))) (br (decide (a=(⟨#[115,116,114,101,97,109]⟩:ByteArray))) (lr Bp nG true) (lr Bp nG false)) (br (decide (a=(⟨#[114,101,116,117,114,110,115]⟩:ByteArray))) (br (decide (a=(⟨#[114,101,116,117,114,110,115]⟩:ByteArray))) (lr Bp nG true) (lr Bp nG false)) (br (decide (a=(⟨#[111,112,101,110]⟩:ByteArray))) (br (decide (a=(⟨#[111,112,101,110]⟩:ByteArray))) (lr Bp nG true) (lr Bp nG false)) (br (decide (a=(⟨#[116,114,117,101]⟩:ByteArray))) (br (decide (a=(⟨#[116,114,117,101]⟩:ByteArray))) (lr Bp nG true) (lr Bp nG false)) (br (decide (a=(⟨#[102,97,108,115,101]⟩:ByteArray))) (br (decide (a=(⟨#[102,97,108,115,101]⟩:ByteArray))) (lr Bp nG true) (lr Bp nG false)) (br (decide (a=(⟨#[110,97,110]⟩:ByteArray))) (br (decide (a=(⟨#[110,97,110]⟩:ByteArray))) (lr Bp nG true) (lr Bp nG false)) (br (decide (a=(⟨#[105,110,102]⟩:ByteArray))) (lr Bp nG true) (lr Bp nG false)))))))))))))))))))))
def jK(a:ByteArray):Option (Bool):=(nq a).m
theorem w9(a:ByteArray):KC Tryz.prog 100 [vS a] (jK a) Bp:=AF Tryz.func100 Tryz.ntmps100 Aa [.tmp 2] fun C co y hm b c=>Ax co Aa Ae (nq a) hm c fun r g=>⟨⟨id,id⟩,⟨⟨id,id⟩,⟨⟨id,id⟩,⟨⟨id,id⟩,⟨⟨id,id⟩,⟨⟨id,id⟩,⟨⟨id,id⟩,⟨⟨id,id⟩,⟨⟨id,id⟩,⟨⟨id,id⟩,⟨⟨id,id⟩,⟨⟨id,id⟩,⟨⟨id,id⟩,⟨⟨id,id⟩,⟨⟨id,id⟩,⟨⟨id,id⟩,⟨⟨id,id⟩,⟨⟨id,id⟩,⟨⟨id,id⟩,⟨⟨id,id⟩,⟨id,id⟩⟩⟩⟩⟩⟩⟩⟩⟩⟩⟩⟩⟩⟩⟩⟩⟩⟩⟩⟩⟩
abbrev Oo:Bool→AV:=fun y=>vB y
def ug:ByteArray×Nat→St:=fun(v2,v3)=>Ad [(0,vS v2),(3,vN v3)] []
def uF:Unit→Nat×St:=fun _=>(0,Ad [] [])
def bU(v2:ByteArray)(v3:Nat):PT 0 (Lv (ByteArray×Nat) (Unit) (Bool)):=br (decide ((v3:Int)<(120:Int))&&(!decide (v2=(⟨#[]⟩:ByteArray)))) (cl (ZU8 v2) fun a=>cl (w9 a.2) fun b=>br b (AA Oo nG false) (vs (wa v3 1)<|ln (ug) (a.1,v3+1))) (Ai (uF) ())
def TL:ByteArray×Nat→Option (Lv (ByteArray×Nat) (Unit) (Bool)):=fun(v2,v3)=>(bU v2 v3).m
def gq:PT 0 (Bool):=lr Oo nG true
def ge(a:ByteArray):PT 0 (Bool):=lc (Ad [(0,vS a),(3,vI 0)] []) ((Am (TL) Al (a,0)).bind (Sum.elim (fun _=>(gq).m) some))
def dG(a:ByteArray):PT 0 (Bool):=cl (ZVN a) fun b=>br (!b) (lr Oo nG false) (lc (Ad [(0,vS a)] []) ((ge a).m))
def jg(a:ByteArray):Option (Bool):=(dG a).m
theorem ZG7{C:Cx}(co:CO C 0):KL Tryz.prog (AC tl) 25 C (pa [0,0,1,0,1,1] (Az Tryz.f65)) [.tmp 2] 0 (ug) (uF) Oo nG (TL):=fun(v2,v3) _ hm Q a c b=>At co Aa Ae (bU v2 v3) (AJ [0,3]) nl c hm b fun r g=>⟨fun d=>fun e=>⟨id,id⟩,id⟩
theorem iL(b:ByteArray):KC Tryz.prog 65 [vS b] (jg b) Oo:=AF Tryz.func65 Tryz.ntmps65 Aa [.tmp 2] fun C co y hm c a=>Aj co Aa Ae 2 (dG b) (AJ [0]) nl nH hm a fun r g=>fun d=>⟨id,fun _ hm a=>sq (Aj co Aa Ae 1 (ge b) (AJ [0,3]) nl nH hm a fun r g=>fun _ hm a=>bk 0 (lo (AH (ZG7 co) nH hm a (fun _ hm=>Ax co Aa Ae (gq) hm a fun r g=>id))))⟩
abbrev qG:Bool→AV:=fun y=>vB y
def dI(a:ByteArray):PT 0 (Bool):=cl (ep a) fun b=>AP b (w9 a) fun c=>lr qG nG (b&&(!c))
def ji(a:ByteArray):Option (Bool):=(dI a).m
theorem UZ(a:ByteArray):KC Tryz.prog 66 [vS a] (ji a) qG:=AF Tryz.func66 Tryz.ntmps66 Aa [.tmp 2] fun C co y hm b c=>Ax co Aa Ae (dI a) hm c fun r g=>fun d=>fun e=>id
abbrev SJ:Bool→AV:=fun y=>vB y
def xn(a:List Spn)(b:Int):Nat→St:=fun c=>Ad [(0,vL CH a),(1,vI b),(5,vN c)] []
def vG:Unit→Nat×St:=fun _=>(0,Ad [] [])
def dp(a:List Spn)(c:Int)(b:Nat):PT 0 (Lv (Nat) (Unit) (Bool)):=vz (An a)<|br (decide ((b:Int)<(a.length:Int))) (ix a b fun d=>A1 (decide (d.lo≤c)) a (b:Int) fun e=>br (decide (d.lo≤c)&&decide (c≤e.hi)) (AA SJ nG true) (vs (wa b 1)<|ln (xn a c) (b+1))) (Ai (vG) ())
def ZA(a:List Spn)(b:Int):Nat→Option (Lv (Nat) (Unit) (Bool)):=fun c=>(dp a b c).m
def gj:PT 0 (Bool):=lr SJ nG false
def bX(a:List Spn)(b:Int):PT 0 (Bool):=lc (Ad [(0,vL CH a),(1,vI b),(5,vI 0)] []) ((Am (ZA a b) Al 0).bind (Sum.elim (fun _=>(gj).m) some))
def dt(a:List Spn)(b:Int):PT 0 (Bool):=lc (Ad [(0,vL CH a),(1,vI b)] []) ((bX a b).m)
def jl(a:List Spn)(b:Int):Option (Bool):=(dt a b).m
theorem ZHH{C:Cx}(co:CO C 0)(a:List Spn)(b:Int):KL Tryz.prog (AC tl) 28 C (pa [0,0,1,0,1] (Az Tryz.f67)) [.tmp 4] 0 (xn a b) (vG) SJ nG (ZA a b):=fun f _ hm Q c e d=>At co Aa Ae (dp a b f) (AJ [0,1,5]) nl e hm d fun r g=>⟨fun h=>fun i=>⟨id,id⟩,id⟩
theorem yL(b:List Spn)(c:Int):KC Tryz.prog 67 [vL CH b,vI c] (jl b c) SJ:=AF Tryz.func67 Tryz.ntmps67 Aa [.tmp 4] fun C co y hm d a=>Aj co Aa Ae 1 (dt b c) (AJ [0,1]) nl nH hm a fun r g=>fun _ hm a=>sq (Aj co Aa Ae 1 (bX b c) (AJ [0,1,5]) nl nH hm a fun r g=>fun _ hm a=>bk 0 (lo (AH (ZHH co b c) nH hm a (fun _ hm=>Ax co Aa Ae (gj) hm a fun r g=>id))))
abbrev Ez:Bool→AV:=fun y=>vB y
def gp(a:Fld):PT 0 (Bool):=wg<|br (!decide (a.card=(5:Int))) (wg<|wg<|wg<|lr Ez nG ((decide ((1:Int)≤a.card)&&decide (a.card≤(4:Int)))&&decide (a.key=(0:Int)))) (wg<|br (decide (a.key=(1:Int))) (br (decide (a.key=(1:Int))) (lr Ez nG true) (lr Ez nG false)) (br (decide (a.key=(2:Int))) (br (decide (a.key=(2:Int))) (lr Ez nG true) (lr Ez nG false)) (br (decide (a.key=(3:Int))) (br (decide (a.key=(3:Int))) (lr Ez nG true) (lr Ez nG false)) (br (decide (a.key=(4:Int))) (br (decide (a.key=(4:Int))) (lr Ez nG true) (lr Ez nG false)) (br (decide (a.key=(5:Int))) (br (decide (a.key=(5:Int))) (lr Ez nG true) (lr Ez nG false)) (br (decide (a.key=(7:Int))) (lr Ez nG true) (lr Ez nG false)))))))
def jw(a:Fld):Option (Bool):=(gp a).m
theorem ZU2(a:Fld):KC Tryz.prog 68 [.agg ((AB a).map .d)] (jw a) Ez:=AF Tryz.func68 Tryz.ntmps68 Aa [.tmp 2] fun C co y hm b c=>Ax co Aa Ae (gp a) hm c fun r g=>⟨id,⟨⟨id,id⟩,⟨⟨id,id⟩,⟨⟨id,id⟩,⟨⟨id,id⟩,⟨⟨id,id⟩,⟨id,id⟩⟩⟩⟩⟩⟩⟩
abbrev qc(a:Scm):Af×Blk:=kk 2 26 3 (cD (Au a))
abbrev U4:Int→AV:=fun y=>vI y
def tc(a:Scm)(b:ByteArray):Nat→St:=fun c=>Ad [(1,vS b),pp 2,(5,vN c)] [(qc a)]
def s8:Unit→Nat×St:=fun _=>(0,Ad [] [])
def n3(b:Scm)(c:ByteArray)(a:Nat):PT 0 (Lv (Nat) (Unit) (Int)):=wg<|vz (An b.enums)<|br (decide ((a:Int)<(b.enums.length:Int))) (wg<|ix b.enums a fun d=>br (decide (d.name=c)) (AA U4 nG (a:Int)) (vs (wa a 1)<|ln (tc b c) (a+1))) (Ai (s8) ())
def W6(a:Scm)(b:ByteArray):Nat→Option (Lv (Nat) (Unit) (Int)):=fun c=>(n3 a b c).m
def mq:PT 0 (Int):=lr U4 nG (-1)
def nk(a:Scm)(b:ByteArray):PT 0 (Int):=lc (Ad [(1,vS b),pp 2,(5,vI 0)] [(qc a)]) ((Am (W6 a b) Al 0).bind (Sum.elim (fun _=>(mq).m) some))
def oB(a:Scm)(b:ByteArray):PT 0 (Int):=lc (Ad [(1,vS b),pp 2] [(qc a)]) ((nk a b).m)
def jn(a:Scm)(b:ByteArray):Option (Int):=(oB a b).m
theorem Zx4{C:Cx}(co:CO C 0)(a:Scm)(b:ByteArray):KL Tryz.prog (AC tl) 22 C (pa [0,0,1,0,1] (Az Tryz.f102)) [.tmp 4] 0 (tc a b) (s8) U4 nG (W6 a b):=fun f _ hm Q c e d=>At co Aa Ae (n3 a b f) (Ac [1,2,5] EU) nl e hm d fun r g=>⟨fun h=>⟨id,id⟩,id⟩
theorem xm(b:Scm)(c:ByteArray):KC Tryz.prog 102 [.agg ((Au b).map .d),vS c] (jn b c) U4:=AF Tryz.func102 Tryz.ntmps102 Aa [.tmp 4] fun C co y hm d a=>Aj co Aa Ae 1 (oB b c) (Ac [1,2] EU) nl nH hm a fun r g=>fun _ hm a=>sq (Aj co Aa Ae 1 (nk b c) (Ac [1,2,5] EU) nl nH hm a fun r g=>fun _ hm a=>bk 0 (lo (AH (Zx4 co b c) nH hm a (fun _ hm=>Ax co Aa Ae (mq) hm a fun r g=>id))))
abbrev SK:Bool→AV:=fun y=>vB y
def dY(b:Scm)(a:Fld):PT 0 (Bool):=wg<|br (decide (a.type.kind=(9:Int))) (wg<|wg<|cl (xm b a.type.name) fun c=>lr SK nG (decide ((0:Int)≤c))) (br (decide (a.type.kind=(10:Int))) (wg<|wg<|cl (O6 b a.type.name) fun d=>wg<|lr SK nG (decide ((0:Int)≤d)&&(!decide (a.card=(3:Int))))) (wg<|wg<|wg<|lr SK nG ((decide ((1:Int)≤a.type.kind)&&decide (a.type.kind≤(8:Int)))&&decide (a.type.name=(⟨#[]⟩:ByteArray)))))
def jC(a:Scm)(b:Fld):Option (Bool):=(dY a b).m
theorem ZUI(a:Scm)(b:Fld):KC Tryz.prog 69 [.agg ((Au a).map .d),.agg ((AB b).map .d)] (jC a b) SK:=AF Tryz.func69 Tryz.ntmps69 Aa [.tmp 4] fun C co y hm c d=>Ax co Aa Ae (dY a b) hm d fun r g=>⟨fun e=>id,⟨fun f=>id,id⟩⟩
abbrev LR:List (Af×Bool):=[((1,2),false),((1,5),false)]
abbrev ZH(a:Msg):Af×Blk:=kk 2 45 5 (cD (AR a))
abbrev UM(a:Fld):Af×Blk:=kk 5 51 16 (cD (AB a))
abbrev L1:Bool→AV:=fun y=>vB y
def ei(b:Msg)(c:Int)(a:Fld):Bool×Nat→St:=fun(v3,v4)=>Ad [(1,vI c),pp 2,pp 5,(6,vB v3),(7,vN v4)] [(ZH b),(UM a)]
def ua(b:Msg)(c:Int)(a:Fld):Bool→Nat×St:=fun d=>(0,Ad [(1,vI c),pp 2,pp 5,(6,vB d)] [(ZH b),(UM a)])
def fB(a:Msg)(c:Int)(b:Fld)(v3:Bool)(v4:Nat):PT 0 (Lv (Bool×Nat) (Bool) (Bool)):=wg<|vz (An a.fields)<|br (decide ((v4:Int)<(a.fields.length:Int))) (wg<|ix a.fields v4 fun d=>wg<|br (decide (d.name=b.union)) (AA L1 nG false) (wg<|A1 (decide ((v4:Int)<c)) a.fields (v4:Int) fun e=>wg<|br (decide ((v4:Int)<c)&&decide (e.union=b.union)) (vs (wa v4 1)<|ln (ei a c b) (true,v4+1)) (vs (wa v4 1)<|ln (ei a c b) (v3,v4+1)))) (Ai (ua a c b) v3)
def X7(b:Msg)(c:Int)(a:Fld):Bool×Nat→Option (Lv (Bool×Nat) (Bool) (Bool)):=fun(v3,v4)=>(fB b c a v3 v4).m
def eR(e:Msg)(b:Int)(c:Fld)(a:Bool):PT 0 (Bool):=wg<|vg (!(!a)) (wi (b-1))<|A1 (!(!a)) e.fields (b-1) fun d=>wg<|lr L1 nG ((!a)||decide (d.union=c.union))
def fM(b:Msg)(c:Int)(a:Fld):PT 0 (Bool):=lc (Ad [(1,vI c),pp 2,pp 5,(6,vB false),(7,vI 0)] [(ZH b),(UM a)]) ((Am (X7 b c a) Al (false,0)).bind (Sum.elim (fun d=>(eR b c a d).m) some))
def ee(b:Msg)(c:Int):PT 0 (Bool):=wg<|CI b.fields c fun a=>wg<|wg<|br (decide (a.union=(⟨#[]⟩:ByteArray))) (lr L1 nG true) (wg<|wg<|AP (!(!decide (a.card=(2:Int)))) (UZ a.union) fun d=>br ((!decide (a.card=(2:Int)))||(!d)) (lr L1 nG false) (lc (Ad [(1,vI c),pp 2,pp 5,(6,vB false)] [(ZH b),(UM a)]) ((fM b c a).m)))
def jP(a:Msg)(b:Int):Option (Bool):=(ee a b).m
theorem ZFV{C:Cx}(co:CO C 0)(b:Msg)(c:Int)(a:Fld):KL Tryz.prog (AC tl) 69 C (pa [0,0,1,0,1,1,1,1,1] (Az Tryz.f70)) [.tmp 4] 0 (ei b c a) (ua b c a) L1 nG (X7 b c a):=fun(v3,v4) _ hm Q d f e=>At co Aa Ae (fB b c a v3 v4) (Ac [1,2,5,6,7] LR) (Ac [1,2,5,6] LR) f hm e fun r g=>⟨fun h=>⟨id,fun i=>⟨id,id⟩⟩,id⟩
theorem ZUN(b:Msg)(c:Int):KC Tryz.prog 70 [.agg ((AR b).map .d),vI c] (jP b c) L1:=AF Tryz.func70 Tryz.ntmps70 Aa [.tmp 4] fun C co y hm e a=>Aj co Aa Ae 5 (ee b c) (Ac [1,2,5,6] LR) nl nH hm a fun r g=>fun d=>⟨id,fun i=>⟨id,fun _ hm a=>sq (Aj co Aa Ae 1 (fM b c d) (Ac [1,2,5,6,7] LR) nl nH hm a fun r g=>fun _ hm a=>bk 0 (lo (AH (ZFV co b c d) nH hm a (fun f hm=>Ax co Aa Ae (eR b c d f) hm a fun r g=>fun h=>id))))⟩⟩
abbrev Mn:Int→AV:=fun y=>vI y
def Wy(a:Int):PT 0 (Int):=rem .u64 a 9223372036854775808<|br (decide ((9218868437227405312:Int)<(Jk .u64 a 9223372036854775808))) (lr Mn nG 0) (br (decide ((Jk .u64 a 9223372036854775808)=(9218868437227405312:Int))) (lr Mn nG 1) (br (decide ((Jk .u64 a 9223372036854775808)=(0:Int))) (lr Mn nG 2) (br (decide ((Jk .u64 a 9223372036854775808)<(4503599627370496:Int))) (lr Mn nG 3) (lr Mn nG 4))))
def Px(a:Int):Option (Int):=(Wy a).m
theorem ve(a:Int):KC Tryz.prog 113 [.d (.int .u64 a)] (Px a) Mn:=AF Tryz.func113 Tryz.ntmps113 Aa [.tmp 2] fun C co y hm b c=>Ax co Aa Ae (Wy a) hm c fun r g=>⟨id,⟨id,⟨id,⟨id,id⟩⟩⟩⟩
abbrev ZW:Val→AV:=fun y=>.agg ((Ag y).map .d)
def TK(a:Val):PT 0 (Val):=wg<|wg<|AP (decide (a.kind=(6:Int))) (ve a.bits) fun b=>br (decide (a.kind=(6:Int))&&decide (b=(0:Int))) (wg<|wg<|wg<|lr ZW nG (.mk a.kind 9221120237041090560 a.text a.list a.pairs a.slots a.raws:Val)) (wg<|wg<|lr ZW nG a)
def PB(a:Val):Option (Val):=(TK a).m
theorem hU(a:Val):KC Tryz.prog 80 [.agg ((Ag a).map .d)] (PB a) ZW:=AF Tryz.func80 Tryz.ntmps80 Aa [.cell 2 33] fun C co y hm b c=>Ax co Aa Ae (TK a) hm c fun r g=>fun d=>⟨id,id⟩
abbrev yt:Bool→AV:=fun y=>vB y
def pq(a:Val)(b:Val):PT 0 (Bool):=wg<|wg<|wg<|wg<|wg<|wg<|wg<|vy ((decide (a.kind=b.kind)&&decide (a.bits=b.bits))&&decide (a.text=b.text)) (An a.list)<|wg<|vy ((decide (a.kind=b.kind)&&decide (a.bits=b.bits))&&decide (a.text=b.text)) (An a.pairs)<|vg ((decide (a.kind=b.kind)&&decide (a.bits=b.bits))&&decide (a.text=b.text)) (wa a.list.length a.pairs.length)<|wg<|vy ((decide (a.kind=b.kind)&&decide (a.bits=b.bits))&&decide (a.text=b.text)) (An a.slots)<|vg ((decide (a.kind=b.kind)&&decide (a.bits=b.bits))&&decide (a.text=b.text)) (wa (a.list.length+a.pairs.length) a.slots.length)<|wg<|vy ((decide (a.kind=b.kind)&&decide (a.bits=b.bits))&&decide (a.text=b.text)) (An a.raws)<|vg ((decide (a.kind=b.kind)&&decide (a.bits=b.bits))&&decide (a.text=b.text)) (wa ((a.list.length+a.pairs.length)+a.slots.length) a.raws.length)<|wg<|vy ((decide (a.kind=b.kind)&&decide (a.bits=b.bits))&&decide (a.text=b.text)) (An b.list)<|vg ((decide (a.kind=b.kind)&&decide (a.bits=b.bits))&&decide (a.text=b.text)) (wa (((a.list.length+a.pairs.length)+a.slots.length)+a.raws.length) b.list.length)<|wg<|vy ((decide (a.kind=b.kind)&&decide (a.bits=b.bits))&&decide (a.text=b.text)) (An b.pairs)<|vg ((decide (a.kind=b.kind)&&decide (a.bits=b.bits))&&decide (a.text=b.text)) (wa ((((a.list.length+a.pairs.length)+a.slots.length)+a.raws.length)+b.list.length) b.pairs.length)<|wg<|vy ((decide (a.kind=b.kind)&&decide (a.bits=b.bits))&&decide (a.text=b.text)) (An b.slots)<|vg ((decide (a.kind=b.kind)&&decide (a.bits=b.bits))&&decide (a.text=b.text)) (wa (((((a.list.length+a.pairs.length)+a.slots.length)+a.raws.length)+b.list.length)+b.pairs.length) b.slots.length)<|wg<|vy ((decide (a.kind=b.kind)&&decide (a.bits=b.bits))&&decide (a.text=b.text)) (An b.raws)<|vg ((decide (a.kind=b.kind)&&decide (a.bits=b.bits))&&decide (a.text=b.text)) (wa ((((((a.list.length+a.pairs.length)+a.slots.length)+a.raws.length)+b.list.length)+b.pairs.length)+b.slots.length) b.raws.length)<|lr yt nG (((decide (a.kind=b.kind)&&decide (a.bits=b.bits))&&decide (a.text=b.text))&&decide (((((((((a.list.length+a.pairs.length)+a.slots.length)+a.raws.length)+b.list.length)+b.pairs.length)+b.slots.length)+b.raws.length:Nat):Int)=(0:Int)))
def jq(a:Val)(b:Val):Option (Bool):=(pq a b).m
theorem vX(a:Val)(b:Val):KC Tryz.prog 103 [.agg ((Ag a).map .d),.agg ((Ag b).map .d)] (jq a b) yt:=AF Tryz.func103 Tryz.ntmps103 Aa [.tmp 4] fun C co y hm c d=>Ax co Aa Ae (pq a b) hm d fun r g=>id
abbrev yq:Bool→AV:=fun y=>vB y
def WX(a:ByteArray)(b:Int)(d:Int)(f:Int):PT 0 (Bool):=vz (BH a.size)<|Gi (decide (b<(a.size:Int))) a b fun c=>Gi (decide (b<(a.size:Int))&&decide (d≤(c.toNat:Int))) a b fun e=>lr yq nG ((decide (b<(a.size:Int))&&decide (d≤(c.toNat:Int)))&&decide ((e.toNat:Int)≤f))
def MJ(a:ByteArray)(b:Int)(c:Int)(d:Int):Option (Bool):=(WX a b c d).m
theorem R4(a:ByteArray)(b:Int)(c:Int)(d:Int):KC Tryz.prog 158 [vS a,vI b,.d (.int .u8 c),.d (.int .u8 d)] (MJ a b c d) yq:=AF Tryz.func158 Tryz.ntmps158 Aa [.tmp 8] fun C co y hm e f=>Ax co Aa Ae (WX a b c d) hm f fun r g=>fun h=>fun i=>id
abbrev U2:Bool→AV:=fun y=>vB y
def sB(a:ByteArray)(b:Int)(c:Int):Nat→St:=fun d=>Ad [(0,vS a),(1,vI b),(2,vI c),(7,vN d)] []
def sf:Unit→Nat×St:=fun _=>(0,Ad [] [])
def QH(c:ByteArray)(b:Int)(d:Int)(a:Nat):PT 0 (Lv (Nat) (Unit) (Bool)):=br (decide ((a:Int)<d)) (vs (wi (b+(a:Int)))<|cl (R4 c (b+(a:Int)) 128 191) fun e=>br (!e) (AA U2 nG false) (vs (wa a 1)<|ln (sB c b d) (a+1))) (Ai (sf) ())
def Lh(a:ByteArray)(b:Int)(c:Int):Nat→Option (Lv (Nat) (Unit) (Bool)):=fun d=>(QH a b c d).m
def WJ:PT 0 (Bool):=lr U2 nG true
def Xo(a:ByteArray)(b:Int)(c:Int):PT 0 (Bool):=lc (Ad [(0,vS a),(1,vI b),(2,vI c),(7,vI 0)] []) ((Am (Lh a b c) Al 0).bind (Sum.elim (fun _=>(WJ).m) some))
def Xp(a:ByteArray)(b:Int)(c:Int):PT 0 (Bool):=lc (Ad [(0,vS a),(1,vI b),(2,vI c)] []) ((Xo a b c).m)
def KW(a:ByteArray)(b:Int)(c:Int):Option (Bool):=(Xp a b c).m
theorem ZyK{C:Cx}(co:CO C 0)(a:ByteArray)(b:Int)(c:Int):KL Tryz.prog (AC tl) 19 C (pa [0,0,1,0,1] (Az Tryz.f157)) [.tmp 6] 0 (sB a b c) (sf) U2 nG (Lh a b c):=fun h _ hm Q d f e=>At co Aa Ae (QH a b c h) (AJ [0,1,2,7]) nl f hm e fun r g=>⟨fun i=>⟨id,id⟩,id⟩
theorem LI(b:ByteArray)(c:Int)(d:Int):KC Tryz.prog 157 [vS b,vI c,vI d] (KW b c d) U2:=AF Tryz.func157 Tryz.ntmps157 Aa [.tmp 6] fun C co y hm e a=>Aj co Aa Ae 1 (Xp b c d) (AJ [0,1,2]) nl nH hm a fun r g=>fun _ hm a=>sq (Aj co Aa Ae 1 (Xo b c d) (AJ [0,1,2,7]) nl nH hm a fun r g=>fun _ hm a=>bk 0 (lo (AH (ZyK co b c d) nH hm a (fun _ hm=>Ax co Aa Ae (WJ) hm a fun r g=>id))))
abbrev Hs:Int→AV:=fun y=>vI y
def WS(c:ByteArray)(b:Int):PT 0 (Int):=Sn c b fun a=>br (decide ((a.toNat:Int)<(128:Int))) (lr Hs nG 1) (vg (decide ((194:Int)≤(a.toNat:Int))&&decide ((a.toNat:Int)≤(223:Int))) (wi (b+1))<|AP (decide ((194:Int)≤(a.toNat:Int))&&decide ((a.toNat:Int)≤(223:Int))) (LI c (b+1) 1) fun j=>br ((decide ((194:Int)≤(a.toNat:Int))&&decide ((a.toNat:Int)≤(223:Int)))&&j) (lr Hs nG 2) (vg (decide ((a.toNat:Int)=(224:Int))) (wi (b+1))<|AP (decide ((a.toNat:Int)=(224:Int))) (R4 c (b+1) 160 191) fun g=>vg (decide ((a.toNat:Int)=(224:Int))&&g) (wi (b+2))<|AP (decide ((a.toNat:Int)=(224:Int))&&g) (LI c (b+2) 1) fun k=>br ((decide ((a.toNat:Int)=(224:Int))&&g)&&k) (lr Hs nG 3) (vg (decide ((a.toNat:Int)=(237:Int))) (wi (b+1))<|AP (decide ((a.toNat:Int)=(237:Int))) (R4 c (b+1) 128 159) fun h=>vg (decide ((a.toNat:Int)=(237:Int))&&h) (wi (b+2))<|AP (decide ((a.toNat:Int)=(237:Int))&&h) (LI c (b+2) 1) fun l=>br ((decide ((a.toNat:Int)=(237:Int))&&h)&&l) (lr Hs nG 3) (vg ((decide ((225:Int)≤(a.toNat:Int))&&decide ((a.toNat:Int)≤(239:Int)))&&(!decide ((a.toNat:Int)=(237:Int)))) (wi (b+1))<|AP ((decide ((225:Int)≤(a.toNat:Int))&&decide ((a.toNat:Int)≤(239:Int)))&&(!decide ((a.toNat:Int)=(237:Int)))) (LI c (b+1) 2) fun m=>br (((decide ((225:Int)≤(a.toNat:Int))&&decide ((a.toNat:Int)≤(239:Int)))&&(!decide ((a.toNat:Int)=(237:Int))))&&m) (lr Hs nG 3) (vg (decide ((a.toNat:Int)=(240:Int))) (wi (b+1))<|AP (decide ((a.toNat:Int)=(240:Int))) (R4 c (b+1) 144 191) fun i=>vg (decide ((a.toNat:Int)=(240:Int))&&i) (wi (b+2))<|AP (decide ((a.toNat:Int)=(240:Int))&&i) (LI c (b+2) 2) fun n=>br ((decide ((a.toNat:Int)=(240:Int))&&i)&&n) (lr Hs nG 4) (vg (decide ((241:Int)≤(a.toNat:Int))&&decide ((a.toNat:Int)≤(243:Int))) (wi (b+1))<|AP (decide ((241:Int)≤(a.toNat:Int))&&decide ((a.toNat:Int)≤(243:Int))) (LI c (b+1) 3) fun e=>br ((decide ((241:Int)≤(a.toNat:Int))&&decide ((a.toNat:Int)≤(243:Int)))&&e) (lr Hs nG 4) (vg (decide ((a.toNat:Int)=(244:Int))) (wi (b+1))<|AP (decide ((a.toNat:Int)=(244:Int))) (R4 c (b+1) 128 143) fun d=>vg (decide ((a.toNat:Int)=(244:Int))&&d) (wi (b+2))<|AP (decide ((a.toNat:Int)=(244:Int))&&d) (LI c (b+2) 2) fun f=>br ((decide ((a.toNat:Int)=(244:Int))&&d)&&f) (lr Hs nG 4) (lr Hs nG 0))))))))
def PA(a:ByteArray)(b:Int):Option (Int):=(WS a b).m
theorem ZRy(a:ByteArray)(b:Int):KC Tryz.prog 141 [vS a,vI b] (PA a b) Hs:=AF Tryz.func141 Tryz.ntmps141 Aa [.tmp 4] fun C co y hm c d=>Ax co Aa Ae (WS a b) hm d fun r g=>fun i=>⟨id,fun j=>⟨id,fun k=>fun l=>⟨id,fun m=>fun n=>⟨id,fun o=>⟨id,fun p=>fun q=>⟨id,fun e=>⟨id,fun f=>fun h=>⟨id,id⟩⟩⟩⟩⟩⟩⟩⟩
abbrev Ur:Int→AV:=fun y=>vI y
def tJ(a:ByteArray):Int→St:=fun b=>Ad [(0,vS a),(3,vI b)] []
def rU:Unit→Nat×St:=fun _=>(0,Ad [] [])
def Xe(b:ByteArray)(a:Int):PT 0 (Lv (Int) (Unit) (Int)):=vz (BH b.size)<|br (decide (a<(b.size:Int))) (cl (ZRy b a) fun c=>br (decide (c=(0:Int))) (AA Ur nG a) (vs (wi (a+c))<|ln (tJ b) (a+c))) (Ai (rU) ())
def Nn(a:ByteArray):Int→Option (Lv (Int) (Unit) (Int)):=fun b=>(Xe a b).m
def WV:PT 0 (Int):=lr Ur nG (-1)
def Xk(a:ByteArray):PT 0 (Int):=lc (Ad [(0,vS a),(3,vI 0)] []) ((Am (Nn a) Al 0).bind (Sum.elim (fun _=>(WV).m) some))
def WP(a:ByteArray):PT 0 (Int):=lc (Ad [(0,vS a)] []) ((Xk a).m)
def Vd(a:ByteArray):Option (Int):=(WP a).m
theorem ZAc{C:Cx}(co:CO C 0)(a:ByteArray):KL Tryz.prog (AC tl) 18 C (pa [0,0,1,0,1] (Az Tryz.f106)) [.tmp 2] 0 (tJ a) (rU) Ur nG (Nn a):=fun e _ hm Q b d c=>At co Aa Ae (Xe a e) (AJ [0,3]) nl d hm c fun r g=>⟨fun f=>⟨id,id⟩,id⟩
theorem ZSG(b:ByteArray):KC Tryz.prog 106 [vS b] (Vd b) Ur:=AF Tryz.func106 Tryz.ntmps106 Aa [.tmp 2] fun C co y hm c a=>Aj co Aa Ae 1 (WP b) (AJ [0]) nl nH hm a fun r g=>fun _ hm a=>sq (Aj co Aa Ae 1 (Xk b) (AJ [0,3]) nl nH hm a fun r g=>fun _ hm a=>bk 0 (lo (AH (ZAc co b) nH hm a (fun _ hm=>Ax co Aa Ae (WV) hm a fun r g=>id))))
abbrev qI:Bool→AV:=fun y=>vB y
def X6(a:ByteArray):PT 0 (Bool):=cl (ZSG a) fun b=>lr qI nG (decide (b<(0:Int)))
def ML(a:ByteArray):Option (Bool):=(X6 a).m
theorem xY(a:ByteArray):KC Tryz.prog 74 [vS a] (ML a) qI:=AF Tryz.func74 Tryz.ntmps74 Aa [.tmp 2] fun C co y hm b c=>Ax co Aa Ae (X6 a) hm c fun r g=>fun d=>id
abbrev xR:Bool→AV:=fun y=>vB y
def nj(a:Int):PT 0 (Bool):=lr xR nG (decide ((1:Int)≤a)&&decide (a≤(9:Int)))
def MP(a:Int):Option (Bool):=(nj a).m
theorem bh(a:Int):KC Tryz.prog 111 [vI a] (MP a) xR:=AF Tryz.func111 Tryz.ntmps111 Aa [.tmp 2] fun C co y hm b c=>Ax co Aa Ae (nj a) hm c fun r g=>id
abbrev xX:Bool→AV:=fun y=>vB y
def WT(a:Val):PT 0 (Bool):=wg<|vz (An a.list)<|wg<|vy (decide ((a.list.length:Int)=(0:Int))) (An a.pairs)<|wg<|vy (decide ((a.list.length:Int)=(0:Int))&&decide ((a.pairs.length:Int)=(0:Int))) (An a.slots)<|wg<|vy ((decide ((a.list.length:Int)=(0:Int))&&decide ((a.pairs.length:Int)=(0:Int)))&&decide ((a.slots.length:Int)=(0:Int))) (An a.raws)<|lr xX nG (((decide ((a.list.length:Int)=(0:Int))&&decide ((a.pairs.length:Int)=(0:Int)))&&decide ((a.slots.length:Int)=(0:Int)))&&decide ((a.raws.length:Int)=(0:Int)))
def Py(a:Val):Option (Bool):=(WT a).m
theorem ul(a:Val):KC Tryz.prog 112 [.agg ((Ag a).map .d)] (Py a) xX:=AF Tryz.func112 Tryz.ntmps112 Aa [.tmp 2] fun C co y hm b c=>Ax co Aa Ae (WT a) hm c fun r g=>id
abbrev yu:Bool→AV:=fun y=>vB y
def Qy(a:Int):PT 0 (Bool):=lr yu nG (decide (a=(7:Int))||decide (a=(8:Int)))
def MH(a:Int):Option (Bool):=(Qy a).m
theorem Zm(a:Int):KC Tryz.prog 137 [vI a] (MH a) yu:=AF Tryz.func137 Tryz.ntmps137 Aa [.tmp 2] fun C co y hm b c=>Ax co Aa Ae (Qy a) hm c fun r g=>id
abbrev HV:Bool→AV:=fun y=>vB y
def QZ(b:Int)(a:Val):PT 0 (Bool):=cl (bh b) fun c=>wg<|wg<|AP (!((!c)||(!decide (a.kind=b)))) (ul a) fun d=>br (((!c)||(!decide (a.kind=b)))||(!d)) (lr HV nG false) (cl (Zm b) fun e=>br e (wg<|wg<|vy (decide (a.bits=(0:Int))) (BH a.text.size)<|wg<|AP ((decide (a.bits=(0:Int))&&decide ((a.text.size:Int)≤(4096:Int)))&&(!(decide (b=(8:Int))))) (xY a.text) fun f=>lr HV nG ((decide (a.bits=(0:Int))&&decide ((a.text.size:Int)≤(4096:Int)))&&(decide (b=(8:Int))||f))) (wg<|br (!decide (a.text=(⟨#[]⟩:ByteArray))) (lr HV nG false) (br (decide (b=(1:Int))) (wg<|lr HV nG (decide (a.bits≤(1:Int)))) (br (decide (b=(2:Int))) (wg<|vz (wk .i64 a.bits)<|lr HV nG (decide (((-2147483648):Int)≤(IntKind.i64.wrap a.bits))&&decide ((IntKind.i64.wrap a.bits)≤(2147483647:Int)))) (br (decide (b=(4:Int))) (wg<|lr HV nG (decide (a.bits<(4294967296:Int)))) (br (decide (b=(9:Int))) (wg<|lr HV nG (decide (a.bits<(2147483648:Int)))) (lr HV nG true)))))))
def Jw(a:Int)(b:Val):Option (Bool):=(QZ a b).m
theorem gI(a:Int)(b:Val):KC Tryz.prog 104 [vI a,.agg ((Ag b).map .d)] (Jw a b) HV:=AF Tryz.func104 Tryz.ntmps104 Aa [.tmp 4] fun C co y hm c d=>Ax co Aa Ae (QZ a b) hm d fun r g=>fun e=>fun f=>⟨id,fun h=>⟨fun i=>id,⟨id,⟨id,⟨id,⟨id,⟨id,id⟩⟩⟩⟩⟩⟩⟩
abbrev iU(a:Scm):Af×Blk:=kk 2 26 3 (cD (Au a))
abbrev iW(a:Fld):Af×Blk:=kk 5 33 7 (cD (Ag a.dflt))
abbrev IY:Bool→AV:=fun y=>vB y
def vx(a:Scm)(b:Fld)(d:Int):Nat→St:=fun c=>Ad [pp 2,pp 5,(6,vI d),(7,vN c)] [(iU a),(iW b)]
def v5:Unit→Nat×St:=fun _=>(0,Ad [] [])
def eU(b:Scm)(f:Fld)(c:Int)(a:Nat):PT 0 (Lv (Nat) (Unit) (Bool)):=wg<|CI b.enums c fun d=>vz (An d.items)<|br (decide ((a:Int)<(d.items.length:Int))) (wg<|CI b.enums c fun g=>ix g.items a fun e=>vz (wk .u64 e.num)<|wg<|br (decide ((IntKind.u64.wrap e.num)=f.dflt.bits)) (AA IY nG true) (vs (wa a 1)<|ln (vx b f c) (a+1))) (Ai (v5) ())
def Zu(a:Scm)(b:Fld)(d:Int):Nat→Option (Lv (Nat) (Unit) (Bool)):=fun c=>(eU a b d c).m
def b5:PT 0 (Bool):=lr IY nG false
def cQ(a:Scm)(b:Fld)(c:Int):PT 0 (Bool):=lc (Ad [pp 2,pp 5,(6,vI c),(7,vI 0)] [(iU a),(iW b)]) ((Am (Zu a b c) Al 0).bind (Sum.elim (fun _=>(b5).m) some))
def gy(b:Scm)(a:Fld):PT 0 (Bool):=wg<|wg<|wg<|br (!a.hasDefault) (wg<|cl ((vX a.dflt (.mk 0 0 ⟨#[]⟩ ([]:List Val) ([]:List Pr) ([]:List Slt) ([]:List Raw):Val)).nrm (fun _ _ _ h=>.nrm h) (xs':=[.agg ((Ag a.dflt).map .d),.agg [vI 0,.d (.int .u64 0),vS ⟨#[]⟩,.e0,.e0,.e0,.e0]]) (by intro r;kernel_rfl)) fun e=>lr IY nG e) (wg<|wg<|wg<|wg<|AP (!((!decide (a.card=(2:Int)))||(!decide (a.union=(⟨#[]⟩:ByteArray))))) (gI a.type.kind a.dflt) fun c=>wg<|wg<|AP (!(((!decide (a.card=(2:Int)))||(!decide (a.union=(⟨#[]⟩:ByteArray))))||(!c))) (hU a.dflt) fun f=>AP (!(((!decide (a.card=(2:Int)))||(!decide (a.union=(⟨#[]⟩:ByteArray))))||(!c))) (vX a.dflt f) fun g=>br ((((!decide (a.card=(2:Int)))||(!decide (a.union=(⟨#[]⟩:ByteArray))))||(!c))||(!g)) (lr IY nG false) (wg<|wg<|cl (xm b a.type.name) fun d=>wg<|br (!decide (a.type.kind=(9:Int))) (lr IY nG true) (br (decide (d<(0:Int))) (lr IY nG false) (lc (Ad [pp 2,pp 5,(6,vI d)] [(iU b),(iW a)]) ((cQ b a d).m)))))
def jS(a:Scm)(b:Fld):Option (Bool):=(gy a b).m
theorem ZHi{C:Cx}(co:CO C 0)(a:Scm)(b:Fld)(c:Int):KL Tryz.prog (AC tl) 75 C (pa [0,0,1,0,1,1,1,1,1,1,1] (Az Tryz.f71)) [.tmp 4] 0 (vx a b c) (v5) IY nG (Zu a b c):=fun h _ hm Q d f e=>At co Aa Ae (eU a b c h) (Ac [2,5,6,7] LR) nl f hm e fun r g=>fun i=>⟨fun j=>fun k=>⟨id,id⟩,id⟩
theorem ZUF(b:Scm)(c:Fld):KC Tryz.prog 71 [.agg ((Au b).map .d),.agg ((AB c).map .d)] (jS b c) IY:=AF Tryz.func71 Tryz.ntmps71 Aa [.tmp 4] fun C co y hm d a=>Aj co Aa Ae 7 (gy b c) (Ac [2,5,6] LR) nl nH hm a fun r g=>⟨fun f=>id,fun h=>fun i=>fun j=>⟨id,fun e=>⟨id,⟨id,fun _ hm a=>sq (Aj co Aa Ae 1 (cQ b c e) (Ac [2,5,6,7] LR) nl nH hm a fun r g=>fun _ hm a=>bk 0 (lo (AH (ZHi co b c e) nH hm a (fun _ hm=>Ax co Aa Ae (b5) hm a fun r g=>id))))⟩⟩⟩⟩
abbrev lb1:ByteArray:=⟨#[115,105,110,99,101]⟩
abbrev lb2:ByteArray:=⟨#[109,105,110]⟩
abbrev lb3:ByteArray:=⟨#[109,97,120]⟩
abbrev lb4:ByteArray:=⟨#[117,110,116,105,108]⟩
abbrev lb5:ByteArray:=⟨#[108,101,110,103,116,104]⟩
abbrev lb6:ByteArray:=⟨#[116,105,109,101,111,117,116]⟩
abbrev lb7:ByteArray:=⟨#[97,108,105,97,115]⟩
abbrev lb8:ByteArray:=⟨#[114,111,117,116,101]⟩
abbrev D2:Int→AV:=fun y=>vI y
def PI(a:ByteArray):PT 0 (Int):=br (decide (a=lb2)) (br (decide (a=lb2)) (lr D2 nG 3) (lr D2 nG 0)) (br (decide (a=lb3)) (lr D2 nG 3) (lr D2 nG 0))
def PQ(a:ByteArray):PT 0 (Int):=br (decide (a=lb1)) (br (decide (a=lb1)) (lr D2 nG 4) (PI a)) (br (decide (a=lb4)) (br (decide (a=lb4)) (lr D2 nG 4) (PI a)) (br (decide (a=lb5)) (br (decide (a=lb5)) (lr D2 nG 4) (PI a)) (br (decide (a=lb6)) (lr D2 nG 4) (PI a))))
def VS(a:ByteArray):PT 0 (Int):=br (decide (a=(⟨#[100,111,99]⟩:ByteArray))) (br (decide (a=(⟨#[100,111,99]⟩:ByteArray))) (lr D2 nG 7) (PQ a)) (br (decide (a=lb7)) (br (decide (a=lb7)) (lr D2 nG 7) (PQ a)) (br (decide (a=lb8)) (br (decide (a=lb8)) (lr D2 nG 7) (PQ a)) (br (decide (a=(⟨#[111,119,110,101,114]⟩:ByteArray))) (lr D2 nG 7) (PQ a))))
def oc(a:ByteArray):PT 0 (Int):=br (decide (a=(⟨#[100,101,112,114,101,99,97,116,101,100]⟩:ByteArray))) (br (decide (a=(⟨#[100,101,112,114,101,99,97,116,101,100]⟩:ByteArray))) (lr D2 nG 1) (VS a)) (br (decide (a=(⟨#[115,101,99,114,101,116]⟩:ByteArray))) (br (decide (a=(⟨#[115,101,99,114,101,116]⟩:ByteArray))) (lr D2 nG 1) (VS a)) (br (decide (a=(⟨#[105,100,101,109,112,111,116,101,110,116]⟩:ByteArray))) (lr D2 nG 1) (VS a)))
def jy(a:ByteArray):Option (Int):=(oc a).m
theorem wH(a:ByteArray):KC Tryz.prog 138 [vS a] (jy a) D2:=AF Tryz.func138 Tryz.ntmps138 Aa [.tmp 2] fun C co y hm b c=>Ax co Aa Ae (oc a) hm c fun r g=>⟨⟨id,⟨⟨id,⟨⟨id,⟨⟨id,id⟩,⟨id,id⟩⟩⟩,⟨⟨id,⟨⟨id,id⟩,⟨id,id⟩⟩⟩,⟨⟨id,⟨⟨id,id⟩,⟨id,id⟩⟩⟩,⟨id,⟨⟨id,id⟩,⟨id,id⟩⟩⟩⟩⟩⟩⟩,⟨⟨id,⟨⟨id,⟨⟨id,id⟩,⟨id,id⟩⟩⟩,⟨⟨id,⟨⟨id,id⟩,⟨id,id⟩⟩⟩,⟨⟨id,⟨⟨id,id⟩,⟨id,id⟩⟩⟩,⟨id,⟨⟨id,id⟩,⟨id,id⟩⟩⟩⟩⟩⟩⟩,⟨⟨id,⟨⟨id,⟨⟨id,id⟩,⟨id,id⟩⟩⟩,⟨⟨id,⟨⟨id,id⟩,⟨id,id⟩⟩⟩,⟨⟨id,⟨⟨id,id⟩,⟨id,id⟩⟩⟩,⟨id,⟨⟨id,id⟩,⟨id,id⟩⟩⟩⟩⟩⟩⟩,⟨id,⟨⟨id,⟨⟨id,id⟩,⟨id,id⟩⟩⟩,⟨⟨id,⟨⟨id,id⟩,⟨id,id⟩⟩⟩,⟨⟨id,⟨⟨id,id⟩,⟨id,id⟩⟩⟩,⟨id,⟨⟨id,id⟩,⟨id,id⟩⟩⟩⟩⟩⟩⟩⟩⟩⟩⟩,⟨⟨id,⟨⟨id,⟨⟨id,⟨⟨id,id⟩,⟨id,id⟩⟩⟩,⟨⟨id,⟨⟨id,id⟩,⟨id,id⟩⟩⟩,⟨⟨id,⟨⟨id,id⟩,⟨id,id⟩⟩⟩,⟨id,⟨⟨id,id⟩,⟨id,id⟩⟩⟩⟩⟩⟩⟩,⟨⟨id,⟨⟨id,⟨⟨id,id⟩,⟨id,id⟩⟩⟩,⟨⟨id,⟨⟨id,id⟩,⟨id,id⟩⟩⟩,⟨⟨id,⟨⟨id,id⟩,⟨id,id⟩⟩⟩,⟨id,⟨⟨id,id⟩,⟨id,id⟩⟩⟩⟩⟩⟩⟩,⟨⟨id,⟨⟨id,⟨⟨id,id⟩,⟨id,id⟩⟩⟩,⟨⟨id,⟨⟨id,id⟩,⟨id,id⟩⟩⟩,⟨⟨id,⟨⟨id,id⟩,⟨id,id⟩⟩⟩,⟨id,⟨⟨id,id⟩,⟨id,id⟩⟩⟩⟩⟩⟩⟩,⟨id,⟨⟨id,⟨⟨id,id⟩,⟨id,id⟩⟩⟩,⟨⟨id,⟨⟨id,id⟩,⟨id,id⟩⟩⟩,⟨⟨id,⟨⟨id,id⟩,⟨id,id⟩⟩⟩,⟨id,⟨⟨id,id⟩,⟨id,id⟩⟩⟩⟩⟩⟩⟩⟩⟩⟩⟩,⟨id,⟨⟨id,⟨⟨id,⟨⟨id,id⟩,⟨id,id⟩⟩⟩,⟨⟨id,⟨⟨id,id⟩,⟨id,id⟩⟩⟩,⟨⟨id,⟨⟨id,id⟩,⟨id,id⟩⟩⟩,⟨id,⟨⟨id,id⟩,⟨id,id⟩⟩⟩⟩⟩⟩⟩,⟨⟨id,⟨⟨id,⟨⟨id,id⟩,⟨id,id⟩⟩⟩,⟨⟨id,⟨⟨id,id⟩,⟨id,id⟩⟩⟩,⟨⟨id,⟨⟨id,id⟩,⟨id,id⟩⟩⟩,⟨id,⟨⟨id,id⟩,⟨id,id⟩⟩⟩⟩⟩⟩⟩,⟨⟨id,⟨⟨id,⟨⟨id,id⟩,⟨id,id⟩⟩⟩,⟨⟨id,⟨⟨id,id⟩,⟨id,id⟩⟩⟩,⟨⟨id,⟨⟨id,id⟩,⟨id,id⟩⟩⟩,⟨id,⟨⟨id,id⟩,⟨id,id⟩⟩⟩⟩⟩⟩⟩,⟨id,⟨⟨id,⟨⟨id,id⟩,⟨id,id⟩⟩⟩,⟨⟨id,⟨⟨id,id⟩,⟨id,id⟩⟩⟩,⟨⟨id,⟨⟨id,id⟩,⟨id,id⟩⟩⟩,⟨id,⟨⟨id,id⟩,⟨id,id⟩⟩⟩⟩⟩⟩⟩⟩⟩⟩⟩⟩⟩
abbrev lb9:ByteArray:=⟨#[109,105,110]⟩
abbrev xL:ByteArray:=⟨#[105,100,101,109,112,111,116,101,110,116]⟩
abbrev yI:ByteArray:=⟨#[116,105,109,101,111,117,116]⟩
abbrev ZUO:ByteArray:=⟨#[114,111,117,116,101]⟩
abbrev xZ:ByteArray:=⟨#[109,97,120]⟩
abbrev yT:ByteArray:=⟨#[108,101,110,103,116,104]⟩
abbrev ZVL:ByteArray:=⟨#[115,101,99,114,101,116]⟩
abbrev HW:Bool→AV:=fun y=>vB y
def VA(a:Int):PT 0 (Bool):=lr HW nG (decide (a=(1:Int))||decide (a=(5:Int)))
def PJ(b:ByteArray)(a:Int):PT 0 (Bool):=br (decide (b=xL)) (br (decide (b=xL)) (lr HW nG (decide (a=(6:Int)))) (VA a)) (br (decide (b=yI)) (br (decide (b=yI)) (lr HW nG (decide (a=(6:Int)))) (VA a)) (br (decide (b=ZUO)) (lr HW nG (decide (a=(6:Int)))) (VA a)))
def PK(a:Int):PT 0 (Bool):=lr HW nG (decide (a=(2:Int)))
def VN(a:ByteArray)(b:Int):PT 0 (Bool):=br (decide (a=lb9)) (br (decide (a=lb9)) (PK b) (PJ a b)) (br (decide (a=xZ)) (br (decide (a=xZ)) (PK b) (PJ a b)) (br (decide (a=yT)) (br (decide (a=yT)) (PK b) (PJ a b)) (br (decide (a=ZVL)) (PK b) (PJ a b))))
def VE(a:Int):PT 0 (Bool):=lr HW nG ((decide (a=(2:Int))||decide (a=(4:Int)))||decide (a=(6:Int)))
def kC(a:ByteArray)(b:Int):PT 0 (Bool):=br (decide (a=(⟨#[97,108,105,97,115]⟩:ByteArray))) (br (decide (a=(⟨#[97,108,105,97,115]⟩:ByteArray))) (VE b) (VN a b)) (br (decide (a=(⟨#[115,105,110,99,101]⟩:ByteArray))) (br (decide (a=(⟨#[115,105,110,99,101]⟩:ByteArray))) (VE b) (VN a b)) (br (decide (a=(⟨#[117,110,116,105,108]⟩:ByteArray))) (VE b) (VN a b)))
def n2(b:ByteArray)(a:Int):PT 0 (Bool):=br (decide (b=(⟨#[100,101,112,114,101,99,97,116,101,100]⟩:ByteArray))) (br (decide (b=(⟨#[100,101,112,114,101,99,97,116,101,100]⟩:ByteArray))) (lr HW nG (decide ((1:Int)≤a)&&decide (a≤(6:Int)))) (kC b a)) (br (decide (b=(⟨#[100,111,99]⟩:ByteArray))) (lr HW nG (decide ((1:Int)≤a)&&decide (a≤(6:Int)))) (kC b a))
def jB(a:ByteArray)(b:Int):Option (Bool):=(n2 a b).m
theorem ZRz(a:ByteArray)(b:Int):KC Tryz.prog 139 [vS a,vI b] (jB a b) HW:=AF Tryz.func139 Tryz.ntmps139 Aa [.tmp 4] fun C co y hm c d=>Ax co Aa Ae (n2 a b) hm d fun r g=>⟨⟨id,⟨⟨id,⟨⟨id,⟨⟨id,id⟩,⟨⟨id,id⟩,⟨id,id⟩⟩⟩⟩,⟨⟨id,⟨⟨id,id⟩,⟨⟨id,id⟩,⟨id,id⟩⟩⟩⟩,⟨⟨id,⟨⟨id,id⟩,⟨⟨id,id⟩,⟨id,id⟩⟩⟩⟩,⟨id,⟨⟨id,id⟩,⟨⟨id,id⟩,⟨id,id⟩⟩⟩⟩⟩⟩⟩⟩,⟨⟨id,⟨⟨id,⟨⟨id,id⟩,⟨⟨id,id⟩,⟨id,id⟩⟩⟩⟩,⟨⟨id,⟨⟨id,id⟩,⟨⟨id,id⟩,⟨id,id⟩⟩⟩⟩,⟨⟨id,⟨⟨id,id⟩,⟨⟨id,id⟩,⟨id,id⟩⟩⟩⟩,⟨id,⟨⟨id,id⟩,⟨⟨id,id⟩,⟨id,id⟩⟩⟩⟩⟩⟩⟩⟩,⟨id,⟨⟨id,⟨⟨id,id⟩,⟨⟨id,id⟩,⟨id,id⟩⟩⟩⟩,⟨⟨id,⟨⟨id,id⟩,⟨⟨id,id⟩,⟨id,id⟩⟩⟩⟩,⟨⟨id,⟨⟨id,id⟩,⟨⟨id,id⟩,⟨id,id⟩⟩⟩⟩,⟨id,⟨⟨id,id⟩,⟨⟨id,id⟩,⟨id,id⟩⟩⟩⟩⟩⟩⟩⟩⟩⟩⟩,⟨id,⟨⟨id,⟨⟨id,⟨⟨id,id⟩,⟨⟨id,id⟩,⟨id,id⟩⟩⟩⟩,⟨⟨id,⟨⟨id,id⟩,⟨⟨id,id⟩,⟨id,id⟩⟩⟩⟩,⟨⟨id,⟨⟨id,id⟩,⟨⟨id,id⟩,⟨id,id⟩⟩⟩⟩,⟨id,⟨⟨id,id⟩,⟨⟨id,id⟩,⟨id,id⟩⟩⟩⟩⟩⟩⟩⟩,⟨⟨id,⟨⟨id,⟨⟨id,id⟩,⟨⟨id,id⟩,⟨id,id⟩⟩⟩⟩,⟨⟨id,⟨⟨id,id⟩,⟨⟨id,id⟩,⟨id,id⟩⟩⟩⟩,⟨⟨id,⟨⟨id,id⟩,⟨⟨id,id⟩,⟨id,id⟩⟩⟩⟩,⟨id,⟨⟨id,id⟩,⟨⟨id,id⟩,⟨id,id⟩⟩⟩⟩⟩⟩⟩⟩,⟨id,⟨⟨id,⟨⟨id,id⟩,⟨⟨id,id⟩,⟨id,id⟩⟩⟩⟩,⟨⟨id,⟨⟨id,id⟩,⟨⟨id,id⟩,⟨id,id⟩⟩⟩⟩,⟨⟨id,⟨⟨id,id⟩,⟨⟨id,id⟩,⟨id,id⟩⟩⟩⟩,⟨id,⟨⟨id,id⟩,⟨⟨id,id⟩,⟨id,id⟩⟩⟩⟩⟩⟩⟩⟩⟩⟩⟩⟩
abbrev xQ:Bool→AV:=fun y=>vB y
def pd(b:Nt):PT 0 (Bool):=wg<|cl (wH b.name) fun a=>wg<|wg<|AP ((!decide (a=(0:Int)))&&decide (b.val.kind=a)) (gI a b.val) fun c=>lr xQ nG (((!decide (a=(0:Int)))&&decide (b.val.kind=a))&&c)
def jL(a:Nt):Option (Bool):=(pd a).m
theorem ZSr(a:Nt):KC Tryz.prog 140 [.agg ((Cg a).map .d)] (jL a) xQ:=AF Tryz.func140 Tryz.ntmps140 Aa [.tmp 2] fun C co y hm b c=>Ax co Aa Ae (pd a) hm c fun r g=>fun d=>fun e=>id
abbrev Ix:Int→AV:=fun y=>vI y
def sX(a:List Nt)(b:Int):Nat→St:=fun c=>Ad [(0,vL Cg a),(1,vI b),(5,vN c)] []
def sD:Unit→Nat×St:=fun _=>(0,Ad [] [])
def m6(b:List Nt)(e:Int)(a:Nat):PT 0 (Lv (Nat) (Unit) (Int)):=vz (An b)<|br (decide ((a:Int)<(b.length:Int))) (ix b a fun f=>cl (wH f.name) fun k=>br (decide (k=(0:Int))) (AA Ix nG 8) (ix b a fun g=>cl (ZRz g.name e) fun l=>br (!l) (AA Ix nG 1) (ix b a fun h=>cl (ZSr h) fun m=>br (!m) (AA Ix nG 12) (A1 (decide ((0:Int)<(a:Int))) b (a:Int) fun i=>vg (decide ((0:Int)<(a:Int))) (wi ((a:Int)-1))<|A1 (decide ((0:Int)<(a:Int))) b ((a:Int)-1) fun j=>br (decide ((0:Int)<(a:Int))&&BM i.name j.name) (AA Ix nG 11) (A1 (decide ((0:Int)<(a:Int))) b (a:Int) fun c=>vg (decide ((0:Int)<(a:Int))) (wi ((a:Int)-1))<|A1 (decide ((0:Int)<(a:Int))) b ((a:Int)-1) fun d=>br (decide ((0:Int)<(a:Int))&&decide (c.name=d.name)) (AA Ix nG 9) (vs (wa a 1)<|ln (sX b e) (a+1))))))) (Ai (sD) ())
def W5(a:List Nt)(b:Int):Nat→Option (Lv (Nat) (Unit) (Int)):=fun c=>(m6 a b c).m
def my:PT 0 (Int):=lr Ix nG 0
def pN(a:List Nt)(b:Int):PT 0 (Int):=lc (Ad [(0,vL Cg a),(1,vI b),(5,vI 0)] []) ((Am (W5 a b) Al 0).bind (Sum.elim (fun _=>(my).m) some))
def oK(a:List Nt)(b:Int):PT 0 (Int):=vz (An a)<|br (decide ((8:Int)<(a.length:Int))) (lr Ix nG 3) (lc (Ad [(0,vL Cg a),(1,vI b)] []) ((pN a b).m))
def jU(a:List Nt)(b:Int):Option (Int):=(oK a b).m
theorem ZAD{C:Cx}(co:CO C 0)(a:List Nt)(b:Int):KL Tryz.prog (AC tl) 68 C (pa [0,0,1,0,1,1] (Az Tryz.f105)) [.tmp 4] 0 (sX a b) (sD) Ix nG (W5 a b):=fun i _ hm Q c h f=>At co Aa Ae (m6 a b i) (AJ [0,1,5]) nl h hm f fun r g=>⟨fun j=>fun o=>⟨id,fun k=>fun p=>⟨id,fun l=>fun q=>⟨id,fun m=>fun n=>⟨id,fun d=>fun e=>⟨id,id⟩⟩⟩⟩⟩,id⟩
theorem ZSk(b:List Nt)(c:Int):KC Tryz.prog 105 [vL Cg b,vI c] (jU b c) Ix:=AF Tryz.func105 Tryz.ntmps105 Aa [.tmp 4] fun C co y hm d a=>Aj co Aa Ae 2 (oK b c) (AJ [0,1]) nl nH hm a fun r g=>⟨id,fun _ hm a=>sq (Aj co Aa Ae 1 (pN b c) (AJ [0,1,5]) nl nH hm a fun r g=>fun _ hm a=>bk 0 (lo (AH (ZAD co b c) nH hm a (fun _ hm=>Ax co Aa Ae (my) hm a fun r g=>id))))⟩
abbrev qH:List Prb→AV:=fun y=>.tup []
@[reducible] def qT(a:ByteArray):List Prb→List Blk:=fun y=>[⟨0,true,78,2,[vS a,.ref (0,1) 0 0 y.length]⟩,⟨0,true,115,3,Ab Ao y⟩]
def fv(a:ByteArray)(b:List Prb):PT 2 (List Prb):=lr qH (qT a) b
def dj(a:ByteArray)(b:List Prb):PT 2 (List Prb):=vz (fl b)<|lc (Ad [] [((0,0),⟨0,true,78,2,[vS a,.ref (0,1) 0 0 b.length]⟩),((0,1),⟨0,true,115,3,Ab Ao b⟩)]) ((fv a b).m)
def gM(a:ByteArray)(b:List Prb)(d:Int)(c:Int):PT 2 (List Prb):=vz (fl b)<|lc (Ad [(12,.ptr (0,0) 0 0),(14,vB (!decide (c=(0:Int)))),(15,vI d),(16,vI c)] [((0,0),⟨0,true,78,2,[vS a,.ref (0,1) 0 0 b.length]⟩),((0,1),⟨0,true,115,3,Ab Ao b⟩)]) ((BG a b (!decide (c=(0:Int))) d c).bind fun e=>(dj a e).m)
def b7(a:ByteArray)(b:List Prb)(e:List Nt)(f:Int)(c:Int):PT 2 (List Prb):=cl (ZSk e f) fun d=>vz (fl b)<|lc (Ad [(0,.ptr (0,0) 0 0),(3,vI c),(8,vI d)] [((0,0),⟨0,true,78,2,[vS a,.ref (0,1) 0 0 b.length]⟩),((0,1),⟨0,true,115,3,Ab Ao b⟩)]) ((gM a b c d).m)
def H4(a:ByteArray)(b:List Prb)(c:List Nt)(d:Int)(e:Int):Option (List Prb):=(b7 a b c d e).m
theorem MC(a:ByteArray)(b:List Prb)(e:List Nt)(f:Int)(d:Int):KG Tryz.prog 72 2 [1] [(1,0)] [.ptr (0,0) 0 0,vL Cg e,vI f,vI d] [⟨0,true,78,2,[vS a,.ref (0,1) 0 0 b.length]⟩,⟨0,true,115,3,Ab Ao b⟩] (H4 a b e f d) qH (qT a):=qe Tryz.func72 Tryz.ntmps72 Aa [] 2 [1] [0] [(1,0)] (fun C co k y hm i c=>Aj co Aa Ae 1 (b7 a b e f d) (Ac [0,3,8] Fs) nl nH hm c fun r g=>fun h=>fun _ hm c=>rg (AN co Aa 5 (gM a b d h) (Ac [12,14,15,16] Fs) hm c fun r g=>fun _ hm c=>Bu co hm (BX a b (!decide (h=(0:Int))) d h) [((0,0),⟨0,true,78,2,[vS a,.ref (0,1) 0 0 b.length]⟩),((0,1),⟨0,true,115,3,Ab Ao b⟩)] [] (fun z=>.tup []) (fun z=>[((0,0),⟨0,true,78,2,[vS a,.ref (0,1) 0 0 z.length]⟩),((0,1),⟨0,true,115,3,Ab Ao z⟩)]) [] fun j hm=>AK co Aa (dj a j) (Ac [] Fs) hm c fun r g=>fun _ hm c=>B4 (fv a j) co hm c (fun r g=>id) r g))
end Go.Proofs.YtjbijbkdiijhaaaGreat
