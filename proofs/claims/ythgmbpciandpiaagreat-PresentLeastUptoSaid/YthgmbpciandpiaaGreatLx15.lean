import Derived.Test.YthgmbpciandpiaaGreatLx13
import Derived.Test.YthgmbpciandpiaaGreatLx14
import Derived.Test.YthgmbpciandpiaaGreatLx00
namespace Go.Proofs.YthgmbpciandpiaaGreat
set_option maxRecDepth 100000
set_option linter.all false
open Go Go.Eng
def Zng:Go.Shelf.Ren:=⟨fun|190=>152|125=>182|258=>181|128=>211|129=>212|302=>202|303=>203|304=>204|305=>205|306=>206|307=>207|308=>208|309=>209|310=>210|333=>224|329=>225|330=>226|334=>227|335=>228|336=>192|344=>232|n=>n,fun|31=>59|9=>9|3=>3|46=>223|0=>0|51=>244|53=>27|4=>4|183=>236|182=>235|131=>241|5=>5|218=>251|222=>255|228=>259|229=>260|n=>n,fun|n=>n⟩
theorem ZMx:Go.Proofs.Lays.n190 Tryz.prog Zng:={
 mixed:=by kernel_rfl,
 f125:=Tryz.func182.trans (congrArg some (by kernel_rfl)),
 f128:=Tryz.func211.trans (congrArg some (by kernel_rfl)),
 f129:=Tryz.func212.trans (congrArg some (by kernel_rfl)),
 f190:=Tryz.func152.trans (congrArg some (by kernel_rfl)),
 f258:=Tryz.func181.trans (congrArg some (by kernel_rfl)),
 f302:=Tryz.func202.trans (congrArg some (by kernel_rfl)),
 f303:=Tryz.func203.trans (congrArg some (by kernel_rfl)),
 f304:=Tryz.func204.trans (congrArg some (by kernel_rfl)),
 f305:=Tryz.func205.trans (congrArg some (by kernel_rfl)),
 f306:=Tryz.func206.trans (congrArg some (by kernel_rfl)),
 f307:=Tryz.func207.trans (congrArg some (by kernel_rfl)),
 f308:=Tryz.func208.trans (congrArg some (by kernel_rfl)),
 f309:=Tryz.func209.trans (congrArg some (by kernel_rfl)),
 f310:=Tryz.func210.trans (congrArg some (by kernel_rfl)),
 f329:=Tryz.func225.trans (congrArg some (by kernel_rfl)),
 f330:=Tryz.func226.trans (congrArg some (by kernel_rfl)),
 f333:=Tryz.func224.trans (congrArg some (by kernel_rfl)),
 f334:=Tryz.func227.trans (congrArg some (by kernel_rfl)),
 f335:=Tryz.func228.trans (congrArg some (by kernel_rfl)),
 f336:=Tryz.func192.trans (congrArg some (by kernel_rfl)),
 f344:=Tryz.func232.trans (congrArg some (by kernel_rfl)),
 t0:=Tryz.underlying0,
 a0:=Tryz.isAgg0,
 z0:=Tryz.sizeOf0,
 v0:=Tryz.zeroValue0,
 t3:=Tryz.underlying3,
 a3:=Tryz.isAgg3,
 z3:=Tryz.sizeOf3,
 v3:=Tryz.zeroValue3,
 t4:=Tryz.underlying4,
 a4:=Tryz.isAgg4,
 z4:=Tryz.sizeOf4,
 v4:=Tryz.zeroValue4,
 t5:=Tryz.underlying5,
 a5:=Tryz.isAgg5,
 z5:=Tryz.sizeOf5,
 v5:=Tryz.zeroValue5,
 t9:=Tryz.underlying9,
 a9:=Tryz.isAgg9,
 z9:=Tryz.sizeOf9,
 v9:=Tryz.zeroValue9,
 t31:=Tryz.underlying59,
 a31:=Tryz.isAgg59,
 z31:=Tryz.sizeOf59,
 v31:=Tryz.zeroValue59,
 t46:=Tryz.underlying223,
 a46:=Tryz.isAgg223,
 z46:=Tryz.sizeOf223,
 v46:=Tryz.zeroValue223,
 t51:=Tryz.underlying244,
 a51:=Tryz.isAgg244,
 z51:=Tryz.sizeOf244,
 v51:=Tryz.zeroValue244,
 t53:=Tryz.underlying27,
 a53:=Tryz.isAgg27,
 z53:=Tryz.sizeOf27,
 v53:=Tryz.zeroValue27,
 t131:=Tryz.underlying241,
 a131:=Tryz.isAgg241,
 z131:=Tryz.sizeOf241,
 v131:=Tryz.zeroValue241,
 t182:=Tryz.underlying235,
 a182:=Tryz.isAgg235,
 z182:=Tryz.sizeOf235,
 v182:=Tryz.zeroValue235,
 t183:=Tryz.underlying236,
 a183:=Tryz.isAgg236,
 z183:=Tryz.sizeOf236,
 v183:=Tryz.zeroValue236,
 t218:=Tryz.underlying251,
 a218:=Tryz.isAgg251,
 z218:=Tryz.sizeOf251,
 v218:=Tryz.zeroValue251,
 t222:=Tryz.underlying255,
 a222:=Tryz.isAgg255,
 z222:=Tryz.sizeOf255,
 v222:=Tryz.zeroValue255,
 t228:=Tryz.underlying259,
 a228:=Tryz.isAgg259,
 z228:=Tryz.sizeOf259,
 v228:=Tryz.zeroValue259,
 t229:=Tryz.underlying260,
 a229:=Tryz.isAgg260,
 z229:=Tryz.sizeOf260,
 v229:=Tryz.zeroValue260 }
abbrev ZZI:List ByteArray→AV:=fun y=>.tup []
@[reducible] def ZZ0:List ByteArray→List Blk:=fun y=>[⟨0,true,9,1,Af AW y⟩]
def fE(a:List ByteArray):Option (List ByteArray):=if a.length<4611686018427387904 then some (HR a)else none
theorem ZUX(b:List ByteArray):KO Tryz.prog 152 1 [.ref (0,0) 0 0 b.length] [⟨0,true,9,1,Af AW b⟩] (fun _ _ _ _=>True) (fE b) ZZI (ZZ0):=⟨fun l H ks h θ c a f e _ y hy=>by
 obtain⟨d,hy⟩:=B0 hy
 rw[ZyD]at hy
 cases hy
 match ks,c with
 |[g],_=>exact Zqk ZMx ⟨_,Aw Tryz.f152,Tryz.func152,by kernel_rfl,by kernel_rfl⟩ a.1 b ((e.1.2 rfl).trans (Mf (A2 _ _))) d ⟨rfl,(congrArg (updH H g) (Mf (A2 _ _))).symm⟩⟩
abbrev Qp:Int→AV:=fun y=>vI y
def xQ(a:List Nt)(b:Int):Nat→St:=fun c=>Ab [(0,vL BU a),(1,vI b),(5,vN c)] []
def yf(a:List Nt):Unit→Nat×St:=fun _=>(0,Ab [(0,vL BU a)] [])
def aD(c:List Nt)(e:Int)(d:Nat):PT 0 (Lv (Nat) (Unit) (Int)):=vz (Ah c)<|br (decide ((d:Int)<(c.length:Int))&&decide ((d:Int)≤e)) (ix c d fun a=>wg<|ix c d fun b=>vz (A7 b.name.size)<|wg<|vy (!(decide ((300:Int)<(b.name.size:Int)))) (A7 a.val.text.size)<|wg<|vy (!(decide ((300:Int)<(b.name.size:Int))||decide ((300:Int)<(a.val.text.size:Int)))) (Ah a.val.list)<|wg<|vy (!(decide ((300:Int)<(b.name.size:Int))||decide ((300:Int)<(a.val.text.size:Int)))) (Ah a.val.pairs)<|vg (!(decide ((300:Int)<(b.name.size:Int))||decide ((300:Int)<(a.val.text.size:Int)))) (wa a.val.list.length a.val.pairs.length)<|wg<|vy (!(decide ((300:Int)<(b.name.size:Int))||decide ((300:Int)<(a.val.text.size:Int)))) (Ah a.val.slots)<|vg (!(decide ((300:Int)<(b.name.size:Int))||decide ((300:Int)<(a.val.text.size:Int)))) (wa (a.val.list.length+a.val.pairs.length) a.val.slots.length)<|wg<|vy (!(decide ((300:Int)<(b.name.size:Int))||decide ((300:Int)<(a.val.text.size:Int)))) (Ah a.val.raws)<|vg (!(decide ((300:Int)<(b.name.size:Int))||decide ((300:Int)<(a.val.text.size:Int)))) (wa ((a.val.list.length+a.val.pairs.length)+a.val.slots.length) a.val.raws.length)<|br ((decide ((300:Int)<(b.name.size:Int))||decide ((300:Int)<(a.val.text.size:Int)))||decide ((0:Int)<((((a.val.list.length+a.val.pairs.length)+a.val.slots.length)+a.val.raws.length:Nat):Int))) (vs (wi (e+10))<|Au Qp nG (e+10)) (vs (wa d 1)<|ln (xQ c e) (d+1))) (Aj (yf c) ())
def Rl(a:List Nt)(b:Int):Nat→Option (Lv (Nat) (Unit) (Int)):=fun c=>(aD a b c).m
def Z3(a:List Nt):PT 0 (Int):=vz (Ah a)<|lr Qp nG (a.length:Int)
def bx(a:List Nt)(b:Int):PT 0 (Int):=lc (Ab [(0,vL BU a),(1,vI b),(5,vI 0)] []) ((Am (Rl a b) Ai 0).bind (Sum.elim (fun _=>(Z3 a).m) some))
def cu(a:List Nt)(b:Int):PT 0 (Int):=lc (Ab [(0,vL BU a),(1,vI b)] []) ((bx a b).m)
def eI(a:List Nt)(b:Int):Option (Int):=(cu a b).m
theorem ZL2{C:Cx}(co:CO C 0)(a:List Nt)(b:Int):KL Tryz.prog (Az tl) 58 C (pa [0,0,1,0,1] (Aw Tryz.f37)) [.tmp 4] 0 (xQ a b) (yf a) Qp nG (Rl a b):=fun f _ hm Q c e d=>Av co Aa Ac (aD a b f) (AH [0,1,5]) (AH [0]) e hm d fun r g=>⟨fun h=>fun i=>⟨id,id⟩,id⟩
theorem LD(b:List Nt)(c:Int):KC Tryz.prog 37 [vL BU b,vI c] (eI b c) Qp:=As Tryz.func37 Tryz.ntmps37 Aa [.tmp 4] fun C co y hm d a=>Ak co Aa Ac 1 (cu b c) (AH [0,1]) nl nH hm a fun r g=>fun _ hm a=>sq (Ak co Aa Ac 1 (bx b c) (AH [0,1,5]) nl nH hm a fun r g=>fun _ hm a=>bk 0 (lo (AF (ZL2 co b c) nH hm a (fun _ hm=>Ao co Aa Ac (Z3 b) hm a fun r g=>id))))
abbrev Qq:Int→AV:=fun y=>vI y
def yg(a:List ByteArray)(b:Int):Nat→St:=fun c=>Ab [(0,vL AW a),(1,vI b),(5,vN c)] []
def uW(a:List ByteArray):Unit→Nat×St:=fun _=>(0,Ab [(0,vL AW a)] [])
def aR(a:List ByteArray)(c:Int)(b:Nat):PT 0 (Lv (Nat) (Unit) (Int)):=vz (Ah a)<|br (decide ((b:Int)<(a.length:Int))&&decide ((b:Int)≤c)) (ix a b fun d=>vz (A7 d.size)<|br (decide ((300:Int)<(d.size:Int))) (vs (wi (c+10))<|Au Qq nG (c+10)) (vs (wa b 1)<|ln (yg a c) (b+1))) (Aj (uW a) ())
def VO(a:List ByteArray)(b:Int):Nat→Option (Lv (Nat) (Unit) (Int)):=fun c=>(aR a b c).m
def bI(a:List ByteArray):PT 0 (Int):=vz (Ah a)<|lr Qq nG (a.length:Int)
def aP(a:List ByteArray)(b:Int):PT 0 (Int):=lc (Ab [(0,vL AW a),(1,vI b),(5,vI 0)] []) ((Am (VO a b) Ai 0).bind (Sum.elim (fun _=>(bI a).m) some))
def bh(a:List ByteArray)(b:Int):PT 0 (Int):=lc (Ab [(0,vL AW a),(1,vI b)] []) ((aP a b).m)
def eL(a:List ByteArray)(b:Int):Option (Int):=(bh a b).m
theorem ZIG{C:Cx}(co:CO C 0)(a:List ByteArray)(b:Int):KL Tryz.prog (Az tl) 27 C (pa [0,0,1,0,1] (Aw Tryz.f38)) [.tmp 4] 0 (yg a b) (uW a) Qq nG (VO a b):=fun f _ hm Q c e d=>Av co Aa Ac (aR a b f) (AH [0,1,5]) (AH [0]) e hm d fun r g=>⟨fun h=>⟨id,id⟩,id⟩
theorem JY(b:List ByteArray)(c:Int):KC Tryz.prog 38 [vL AW b,vI c] (eL b c) Qq:=As Tryz.func38 Tryz.ntmps38 Aa [.tmp 4] fun C co y hm d a=>Ak co Aa Ac 1 (bh b c) (AH [0,1]) nl nH hm a fun r g=>fun _ hm a=>sq (Ak co Aa Ac 1 (aP b c) (AH [0,1,5]) nl nH hm a fun r g=>fun _ hm a=>bk 0 (lo (AF (ZIG co b c) nH hm a (fun _ hm=>Ao co Aa Ac (bI b) hm a fun r g=>id))))
abbrev BC:List (Ad×Bool):=[((1,1),false)]
abbrev B8(a:Scm):Ad×Blk:=kk 1 26 3 (cD (Al a))
abbrev Ax(a:Msg):Ad×Blk:=kk 5 61 5 (cD (AB a))
abbrev WT(a:Enm):Ad×Blk:=kk 9 92 5 (cD (Bz a))
abbrev nq(a:Svc):Ad×Blk:=kk 12 97 3 (cD (C4 a))
abbrev Hc:Bool→AV:=fun y=>vB y
def vC(a:Scm):Int×Nat→St:=fun(b,v2)=>Ab [pp 1,(3,vI b),(4,vN v2)] [(B8 a)]
def uL(b:Scm):Int→Nat×St:=fun a=>(0,Ab [pp 1,(3,vI a)] [(B8 b)])
def ct(b:Scm)(v2:Nat)(a:Msg):Int×Nat→St:=fun(c,d)=>Ab [pp 1,(3,vI c),(4,vN v2),pp 5,(6,vN d)] [(B8 b),(Ax a)]
def xu(b:Scm)(v2:Nat):Int→Nat×St:=fun a=>(2,Ab [pp 1,(3,vI a),(4,vN v2)] [(B8 b)])
def aS(g:Scm)(v2:Nat)(f:Msg)(a:Int)(e:Nat):PT 0 (Lv (Int×Nat) (Int) (Bool)):=wg<|vz (Ah f.fields)<|br (decide ((e:Int)<(f.fields.length:Int))&&decide ((0:Int)≤a)) (wg<|ix f.fields e fun d=>wg<|vs (wi (a-1))<|wg<|cl (LD d.notes a) fun b=>vs (wi ((a-1)-b))<|wg<|wg<|wg<|cl (JY ([d.name,d.type.name,d.union]:List ByteArray) a) fun c=>vs (wi (((a-1)-b)-c))<|vs (wi ((((a-1)-b)-c)+3))<|wg<|vz (A7 d.dflt.text.size)<|br (decide ((300:Int)<(d.dflt.text.size:Int))) (vs (wa e 1)<|ln (ct g v2 f) ((-1),e+1)) (vs (wa e 1)<|ln (ct g v2 f) (((((a-1)-b)-c)+3),e+1))) (Aj (xu g v2) a)
def Rn(b:Scm)(v2:Nat)(a:Msg):Int×Nat→Option (Lv (Int×Nat) (Int) (Bool)):=fun(c,d)=>(aS b v2 a c d).m
def Zo(b:Scm)(v2:Nat)(a:Int):PT 0 (Lv (Int×Nat) (Int) (Bool)):=vs (wa v2 1)<|ln (vC b) (a,v2+1)
def aJ(d:Scm)(b:Int)(v2:Nat):PT 0 (Lv (Int×Nat) (Int) (Bool)):=wg<|ix d.messages v2 fun a=>wg<|wg<|cl (LD a.notes b) fun c=>vs (wi (b-c))<|wg<|vz (Ah a.reserved)<|vs (wi ((b-c)-(a.reserved.length:Int)))<|wg<|cl (JY a.gone b) fun e=>vs (wi (((b-c)-(a.reserved.length:Int))-e))<|wg<|cl (JY ([a.name]:List ByteArray) b) fun g=>vs (wi ((((b-c)-(a.reserved.length:Int))-e)-g))<|lc (Ab [pp 1,(3,vI ((((b-c)-(a.reserved.length:Int))-e)-g)),(4,vN v2),pp 5,(6,vI 0)] [(B8 d),(Ax a)]) ((Am (Rn d v2 a) Ai (((((b-c)-(a.reserved.length:Int))-e)-g),0)).bind (Sum.elim (fun f=>(Zo d v2 f).m) (fun z=>some (.rt z))))
def ZL(a:Scm)(b:Int)(v2:Nat):PT 0 (Lv (Int×Nat) (Int) (Bool)):=wg<|vz (Ah a.messages)<|br (decide ((v2:Int)<(a.messages.length:Int))&&decide ((0:Int)≤b)) (lc (Ab [pp 1,(3,vI b),(4,vN v2)] [(B8 a)]) ((aJ a b v2).m)) (Aj (uL a) b)
def VN(a:Scm):Int×Nat→Option (Lv (Int×Nat) (Int) (Bool)):=fun(b,v2)=>(ZL a b v2).m
def zQ(c:Scm):Int×Nat→St:=fun(a,b)=>Ab [pp 1,(3,vI a),(8,vN b)] [(B8 c)]
def wG(b:Scm):Int→Nat×St:=fun a=>(4,Ab [pp 1,(3,vI a)] [(B8 b)])
def vi(e:Scm)(b:Nat)(a:Enm):Int×Nat→St:=fun(c,d)=>Ab [pp 1,(3,vI c),(8,vN b),pp 9,(10,vN d)] [(B8 e),(WT a)]
def vM(c:Scm)(a:Nat):Int→Nat×St:=fun b=>(6,Ab [pp 1,(3,vI b),(8,vN a)] [(B8 c)])
def bH(i:Scm)(e:Nat)(b:Enm)(a:Int)(c:Nat):PT 0 (Lv (Int×Nat) (Int) (Bool)):=wg<|vz (Ah b.items)<|br (decide ((c:Int)<(b.items.length:Int))&&decide ((0:Int)≤a)) (wg<|ix b.items c fun g=>cl (LD g.notes a) fun d=>vs (wi (a-d))<|wg<|ix b.items c fun h=>cl (JY ([h.name]:List ByteArray) a) fun f=>vs (wi ((a-d)-f))<|vs (wa c 1)<|ln (vi i e b) (((a-d)-f),c+1)) (Aj (vM i e) a)
def WO(e:Scm)(b:Nat)(a:Enm):Int×Nat→Option (Lv (Int×Nat) (Int) (Bool)):=fun(c,d)=>(bH e b a c d).m
def ZJ(c:Scm)(a:Nat)(b:Int):PT 0 (Lv (Int×Nat) (Int) (Bool)):=vs (wa a 1)<|ln (zQ c) (b,a+1)
def X2(f:Scm)(b:Int)(d:Nat):PT 0 (Lv (Int×Nat) (Int) (Bool)):=wg<|ix f.enums d fun a=>wg<|wg<|cl (LD a.notes b) fun c=>vs (wi (b-c))<|wg<|vz (Ah a.reserved)<|vs (wi ((b-c)-(a.reserved.length:Int)))<|wg<|cl (JY ([a.name]:List ByteArray) b) fun e=>vs (wi (((b-c)-(a.reserved.length:Int))-e))<|lc (Ab [pp 1,(3,vI (((b-c)-(a.reserved.length:Int))-e)),(8,vN d),pp 9,(10,vI 0)] [(B8 f),(WT a)]) ((Am (WO f d a) Ai ((((b-c)-(a.reserved.length:Int))-e),0)).bind (Sum.elim (fun g=>(ZJ f d g).m) (fun z=>some (.rt z))))
def ZP(c:Scm)(a:Int)(b:Nat):PT 0 (Lv (Int×Nat) (Int) (Bool)):=wg<|vz (Ah c.enums)<|br (decide ((b:Int)<(c.enums.length:Int))&&decide ((0:Int)≤a)) (lc (Ab [pp 1,(3,vI a),(8,vN b)] [(B8 c)]) ((X2 c a b).m)) (Aj (wG c) a)
def WE(c:Scm):Int×Nat→Option (Lv (Int×Nat) (Int) (Bool)):=fun(a,b)=>(ZP c a b).m
def zn(c:Scm):Int×Nat→St:=fun(a,b)=>Ab [pp 1,(3,vI a),(11,vN b)] [(B8 c)]
def xP:Int→Nat×St:=fun a=>(8,Ab [(3,vI a)] [])
def xf(e:Scm)(b:Nat)(a:Svc):Int×Nat→St:=fun(c,d)=>Ab [pp 1,(3,vI c),(11,vN b),pp 12,(13,vN d)] [(B8 e),(nq a)]
def z1(c:Scm)(a:Nat):Int→Nat×St:=fun b=>(10,Ab [pp 1,(3,vI b),(11,vN a)] [(B8 c)])
def bC(k:Scm)(f:Nat)(b:Svc)(a:Int)(c:Nat):PT 0 (Lv (Int×Nat) (Int) (Bool)):=wg<|vz (Ah b.methods)<|br (decide ((c:Int)<(b.methods.length:Int))&&decide ((0:Int)≤a)) (wg<|ix b.methods c fun g=>cl (LD g.notes a) fun d=>vs (wi (a-d))<|wg<|ix b.methods c fun h=>wg<|ix b.methods c fun i=>wg<|ix b.methods c fun j=>cl (JY ([h.name,i.inn,j.out]:List ByteArray) a) fun e=>vs (wi ((a-d)-e))<|vs (wi (((a-d)-e)+2))<|vs (wa c 1)<|ln (xf k f b) ((((a-d)-e)+2),c+1)) (Aj (z1 k f) a)
def Wu(e:Scm)(b:Nat)(a:Svc):Int×Nat→Option (Lv (Int×Nat) (Int) (Bool)):=fun(c,d)=>(bC e b a c d).m
def ki(c:Scm)(a:Nat)(b:Int):PT 0 (Lv (Int×Nat) (Int) (Bool)):=vs (wa a 1)<|ln (zn c) (b,a+1)
def ko(f:Scm)(a:Int)(c:Nat):PT 0 (Lv (Int×Nat) (Int) (Bool)):=wg<|ix f.services c fun b=>wg<|wg<|cl (LD b.notes a) fun d=>vs (wi (a-d))<|wg<|cl (JY ([b.name]:List ByteArray) a) fun e=>vs (wi ((a-d)-e))<|lc (Ab [pp 1,(3,vI ((a-d)-e)),(11,vN c),pp 12,(13,vI 0)] [(B8 f),(nq b)]) ((Am (Wu f c b) Ai (((a-d)-e),0)).bind (Sum.elim (fun g=>(ki f c g).m) (fun z=>some (.rt z))))
def iL(c:Scm)(a:Int)(b:Nat):PT 0 (Lv (Int×Nat) (Int) (Bool)):=wg<|vz (Ah c.services)<|br (decide ((b:Int)<(c.services.length:Int))&&decide ((0:Int)≤a)) (lc (Ab [pp 1,(3,vI a),(11,vN b)] [(B8 c)]) ((ko c a b).m)) (Aj (xP) a)
def Wz(c:Scm):Int×Nat→Option (Lv (Int×Nat) (Int) (Bool)):=fun(a,b)=>(iL c a b).m
def j5(a:Int):PT 0 (Bool):=lr Hc nG (decide ((0:Int)≤a))
def mG(c:Scm)(a:Int):PT 0 (Bool):=lc (Ab [pp 1,(3,vI a),(11,vI 0)] [(B8 c)]) ((Am (Wz c) Ai (a,0)).bind (Sum.elim (fun b=>(j5 b).m) some))
def jV(b:Scm)(a:Int):PT 0 (Bool):=lc (Ab [pp 1,(3,vI a),(8,vI 0)] [(B8 b)]) ((Am (WE b) Ai (a,0)).bind (Sum.elim (fun c=>(mG b c).m) some))
def lO(a:Scm):PT 0 (Bool):=lc (Ab [pp 1,(3,vI 400),(4,vI 0)] [(B8 a)]) ((Am (VN a) Ai (400,0)).bind (Sum.elim (fun b=>(jV a b).m) some))
def mY(a:Scm):PT 0 (Bool):=wg<|vz (Ah a.messages)<|wg<|vy (!(decide ((150:Int)<(a.messages.length:Int)))) (Ah a.enums)<|wg<|vy (!(decide ((150:Int)<(a.messages.length:Int))||decide ((150:Int)<(a.enums.length:Int)))) (Ah a.services)<|wg<|vy (!((decide ((150:Int)<(a.messages.length:Int))||decide ((150:Int)<(a.enums.length:Int)))||decide ((150:Int)<(a.services.length:Int)))) (Ah a.messages)<|wg<|vy (!((decide ((150:Int)<(a.messages.length:Int))||decide ((150:Int)<(a.enums.length:Int)))||decide ((150:Int)<(a.services.length:Int)))) (Ah a.enums)<|vg (!((decide ((150:Int)<(a.messages.length:Int))||decide ((150:Int)<(a.enums.length:Int)))||decide ((150:Int)<(a.services.length:Int)))) (wa a.messages.length a.enums.length)<|wg<|vy (!((decide ((150:Int)<(a.messages.length:Int))||decide ((150:Int)<(a.enums.length:Int)))||decide ((150:Int)<(a.services.length:Int)))) (Ah a.services)<|vg (!((decide ((150:Int)<(a.messages.length:Int))||decide ((150:Int)<(a.enums.length:Int)))||decide ((150:Int)<(a.services.length:Int)))) (wa (a.messages.length+a.enums.length) a.services.length)<|br (((decide ((150:Int)<(a.messages.length:Int))||decide ((150:Int)<(a.enums.length:Int)))||decide ((150:Int)<(a.services.length:Int)))||decide ((150:Int)<(((a.messages.length+a.enums.length)+a.services.length:Nat):Int))) (lr Hc nG false) (lc (Ab [pp 1,(3,vI 400)] [(B8 a)]) ((lO a).m))
def eY(a:Scm):Option (Bool):=(mY a).m
theorem ZKn{C:Cx}(co:CO C 0)(a:Scm)(v2:Nat)(b:Msg):KL Tryz.prog (Az tl) 258 C (pa [0,0,1,1,1,0,0,1,0,0,1,0,1,1,1] (Aw Tryz.f17)) [.tmp 2] 0 (ct a v2 b) (xu a v2) Hc nG (Rn a v2 b):=fun(f,h) _ hm Q c e d=>Av co Aa Ac (aS a v2 b f h) (Ae [1,3,4,5,6] [((1,1),false),((1,5),false)]) (Ae [1,3,4] BC) e hm d fun r g=>⟨fun k=>fun i=>fun j=>⟨id,id⟩,id⟩
theorem ZKt{C:Cx}(co:CO C 0)(a:Scm):KL Tryz.prog (Az tl) 258 C (pa [0,0,1,0,1,1,1] (Aw Tryz.f17)) [.tmp 2] 0 (vC a) (uL a) Hc nG (VN a):=fun(f,v2) _ hm Q e c b=>Ak co Aa Ac 1 (ZL a f v2) (Ae [1,3,4] BC) (Ae [1,3] BC) c hm b fun r g=>⟨fun _ hm b=>sq (bk 1 (Ak co Aa Ac 3 (aJ a f v2) (Ae [1,3,4,5,6] [((1,1),false),((1,5),false)]) nl c hm b fun r g=>fun h=>fun i=>fun j=>fun k=>fun _ hm b=>bk 2 (lo (Fp (ZKn co a v2 h) c hm b (fun d hm=>Av co Aa Ac (Zo a v2 d) (Ae [1,3,4] BC) nl c hm b fun r g=>id))))),id⟩
theorem ZLn{C:Cx}(co:CO C 0)(c:Scm)(a:Nat)(b:Enm):KL Tryz.prog (Az tl) 258 C (pa [0,0,1,1,1,0,0,1,0,0,1,0,1,1,1,1] (Aw Tryz.f17)) [.tmp 2] 0 (vi c a b) (vM c a) Hc nG (WO c a b):=fun(d,e) _ hm Q f k j=>Av co Aa Ac (bH c a b d e) (Ae [1,3,8,9,10] [((1,1),false),((1,9),false)]) (Ae [1,3,8] BC) k hm j fun r g=>⟨fun h=>fun l=>fun i=>fun m=>id,id⟩
theorem ZI3{C:Cx}(co:CO C 0)(b:Scm):KL Tryz.prog (Az tl) 258 C (pa [0,0,1,0,1,1,1,1] (Aw Tryz.f17)) [.tmp 2] 0 (zQ b) (wG b) Hc nG (WE b):=fun(d,a) _ hm Q i e c=>Ak co Aa Ac 1 (ZP b d a) (Ae [1,3,8] BC) (Ae [1,3] BC) e hm c fun r g=>⟨fun _ hm c=>sq (bk 5 (Ak co Aa Ac 3 (X2 b d a) (Ae [1,3,8,9,10] [((1,1),false),((1,9),false)]) nl e hm c fun r g=>fun f=>fun j=>fun k=>fun _ hm c=>bk 6 (lo (Fp (ZLn co b a f) e hm c (fun h hm=>Av co Aa Ac (ZJ b a h) (Ae [1,3,8] BC) nl e hm c fun r g=>id))))),id⟩
theorem ZMf{C:Cx}(co:CO C 0)(c:Scm)(a:Nat)(b:Svc):KL Tryz.prog (Az tl) 258 C (pa [0,0,1,1,1,0,0,1,0,0,1,0,1,1,1,1,1] (Aw Tryz.f17)) [.tmp 2] 0 (xf c a b) (z1 c a) Hc nG (Wu c a b):=fun(d,e) _ hm Q f m l=>Av co Aa Ac (bC c a b d e) (Ae [1,3,11,12,13] [((1,1),false),((1,12),false)]) (Ae [1,3,11] BC) m hm l fun r g=>⟨fun h=>fun n=>fun i=>fun j=>fun k=>fun o=>id,id⟩
theorem ZHe{C:Cx}(co:CO C 0)(c:Scm):KL Tryz.prog (Az tl) 258 C (pa [0,0,1,0,1,1,1,1,1] (Aw Tryz.f17)) [.tmp 2] 0 (zn c) (xP) Hc nG (Wz c):=fun(d,a) _ hm Q i e b=>Ak co Aa Ac 1 (iL c d a) (Ae [1,3,11] BC) (AH [3]) e hm b fun r g=>⟨fun _ hm b=>sq (bk 9 (Ak co Aa Ac 3 (ko c d a) (Ae [1,3,11,12,13] [((1,1),false),((1,12),false)]) nl e hm b fun r g=>fun f=>fun j=>fun k=>fun _ hm b=>bk 10 (lo (Fp (ZMf co c a f) e hm b (fun h hm=>Av co Aa Ac (ki c a h) (Ae [1,3,11] BC) nl e hm b fun r g=>id))))),id⟩
theorem ZZu(b:Scm):KC Tryz.prog 17 [.agg ((Al b).map .d)] (eY b) Hc:=As Tryz.func17 Tryz.ntmps17 Aa [.tmp 2] fun C co y hm f a=>Ak co Aa Ac 3 (mY b) (Ae [1,3] BC) nl nH hm a fun r g=>⟨id,fun _ hm a=>sq (Ak co Aa Ac 1 (lO b) (Ae [1,3,4] BC) nl nH hm a fun r g=>fun _ hm a=>bk 0 (lo (AF (ZKt co b) nH hm a (fun c hm=>sq (Ak co Aa Ac 1 (jV b c) (Ae [1,3,8] BC) nl nH hm a fun r g=>fun _ hm a=>bk 4 (lo (AF (ZI3 co b) nH hm a (fun d hm=>sq (Ak co Aa Ac 1 (mG b d) (Ae [1,3,11] BC) nl nH hm a fun r g=>fun _ hm a=>bk 8 (lo (AF (ZHe co b) nH hm a (fun e hm=>Ao co Aa Ac (j5 e) hm a fun r g=>id))))))))))))⟩
abbrev Je:List (Ad×Bool):=[((1,2),false),((1,5),true)]
abbrev Ee:List (Ad×Bool):=[((1,2),false)]
abbrev G6(a:Scm):Ad×Blk:=kk 2 26 3 (cD (Al a))
abbrev Nq:List ByteArray→AV:=fun y=>vL AW y
def xx(b:Scm)(c:Int):List ByteArray×Nat→St:=fun(a,v2)=>Ab [(1,vI c),pp 2,(5,.ref (1,5) 0 0 a.length),(6,vN v2)] [(G6 b),kk 5 9 1 (Af AW a)]
def ww(b:Scm)(c:Int):List ByteArray→Nat×St:=fun a=>(0,Ab [(1,vI c),pp 2,(5,.ref (1,5) 0 0 a.length)] [(G6 b),kk 5 9 1 (Af AW a)])
def XY(a:Scm)(c:Int)(b:List ByteArray)(v2:Nat):PT 0 (Lv (List ByteArray×Nat) (List ByteArray) (List ByteArray)):=wg<|vy (decide (c=(1:Int))) (Ah a.messages)<|br (decide (c=(1:Int))&&decide ((v2:Int)<(a.messages.length:Int))) (wg<|ix a.messages v2 fun d=>vw .sep<|ap b (d.name:ByteArray)<|vs (wa v2 1)<|vz (fl (b++[d.name]))<|ln (xx a c) (b++[d.name],v2+1)) (vz (fl b)<|Aj (ww a c) b)
def Q1(a:Scm)(b:Int):List ByteArray×Nat→Option (Lv (List ByteArray×Nat) (List ByteArray) (List ByteArray)):=fun(c,v2)=>(XY a b c v2).m
def xX(b:Scm)(c:Int):List ByteArray×Nat→St:=fun(a,d)=>Ab [(1,vI c),pp 2,(5,.ref (1,5) 0 0 a.length),(7,vN d)] [(G6 b),kk 5 9 1 (Af AW a)]
def wK(b:Scm)(c:Int):List ByteArray→Nat×St:=fun a=>(2,Ab [(1,vI c),pp 2,(5,.ref (1,5) 0 0 a.length)] [(G6 b),kk 5 9 1 (Af AW a)])
def X5(a:Scm)(c:Int)(b:List ByteArray)(d:Nat):PT 0 (Lv (List ByteArray×Nat) (List ByteArray) (List ByteArray)):=wg<|vy (decide (c=(2:Int))) (Ah a.enums)<|br (decide (c=(2:Int))&&decide ((d:Int)<(a.enums.length:Int))) (wg<|ix a.enums d fun e=>vw .sep<|ap b (e.name:ByteArray)<|vs (wa d 1)<|vz (fl (b++[e.name]))<|ln (xX a c) (b++[e.name],d+1)) (vz (fl b)<|Aj (wK a c) b)
def Rv(a:Scm)(b:Int):List ByteArray×Nat→Option (Lv (List ByteArray×Nat) (List ByteArray) (List ByteArray)):=fun(c,d)=>(X5 a b c d).m
def zN(c:Scm)(d:Int):List ByteArray×Nat→St:=fun(b,a)=>Ab [(1,vI d),pp 2,(5,.ref (1,5) 0 0 b.length),(8,vN a)] [(G6 c),kk 5 9 1 (Af AW b)]
def wq:List ByteArray→Nat×St:=fun a=>(4,Ab [(5,.ref (1,5) 0 0 a.length)] [kk 5 9 1 (Af AW a)])
def Zj(d:Scm)(e:Int)(c:List ByteArray)(a:Nat):PT 0 (Lv (List ByteArray×Nat) (List ByteArray) (List ByteArray)):=wg<|vy (decide (e=(3:Int))) (Ah d.services)<|br (decide (e=(3:Int))&&decide ((a:Int)<(d.services.length:Int))) (wg<|ix d.services a fun b=>vw .sep<|ap c (b.name:ByteArray)<|vs (wa a 1)<|vz (fl (c++[b.name]))<|ln (zN d e) (c++[b.name],a+1)) (vz (fl c)<|Aj (wq) c)
def Wl(b:Scm)(c:Int):List ByteArray×Nat→Option (Lv (List ByteArray×Nat) (List ByteArray) (List ByteArray)):=fun(d,a)=>(Zj b c d a).m
def bP(a:List ByteArray):PT 0 (List ByteArray):=vz (fr a)<|lr Nq nG a
def Zn(c:Scm)(d:Int)(a:List ByteArray):PT 0 (List ByteArray):=vz (fl a)<|lc (Ab [(1,vI d),pp 2,(5,.ref (1,5) 0 0 a.length),(8,vI 0)] [(G6 c),kk 5 9 1 (Af AW a)]) ((Am (Wl c d) Ai (a,0)).bind (Sum.elim (fun b=>(bP b).m) some))
def bc(b:Scm)(c:Int)(a:List ByteArray):PT 0 (List ByteArray):=vz (fl a)<|lc (Ab [(1,vI c),pp 2,(5,.ref (1,5) 0 0 a.length),(7,vI 0)] [(G6 b),kk 5 9 1 (Af AW a)]) ((Am (Rv b c) Ai (a,0)).bind (Sum.elim (fun d=>(Zn b c d).m) some))
def ZM(a:Scm)(b:Int):PT 0 (List ByteArray):=vw (.ads 5 5 9 1)<|vz (fl ([]:List ByteArray))<|lc (Ab [(1,vI b),pp 2,(5,.ref (1,5) 0 0 ([]:List ByteArray).length),(6,vI 0)] [(G6 a),kk 5 9 1 (Af AW ([]:List ByteArray))]) ((Am (Q1 a b) Ai (([]:List ByteArray),0)).bind (Sum.elim (fun c=>(bc a b c).m) some))
def ao(a:Scm)(b:Int):PT 0 (List ByteArray):=lc (Ab [(1,vI b),pp 2,(5,.e0),(6,vI 0)] [(G6 a)]) ((ZM a b).m)
def ZB(a:Scm)(b:Int):PT 0 (List ByteArray):=lc (Ab [(1,vI b),pp 2,(5,.e0)] [(G6 a)]) ((ao a b).m)
def ea(a:Scm)(b:Int):Option (List ByteArray):=(ZB a b).m
theorem ZIB{C:Cx}(co:CO C 0)(a:Scm)(b:Int):KL Tryz.prog (Az tl) 70 C (pa [0,0,1,0,1,1] (Aw Tryz.f72)) [.tmp 4] 0 (xx a b) (ww a b) Nq nG (Q1 a b):=fun(f,v2) _ hm Q c e d=>Av co Aa Ac (XY a b f v2) (Ae [1,2,5,6] Je) (Ae [1,2,5] Je) e hm d fun r g=>⟨fun h=>id,id⟩
theorem ZKV{C:Cx}(co:CO C 0)(a:Scm)(b:Int):KL Tryz.prog (Az tl) 70 C (pa [0,0,1,0,1,1,1] (Aw Tryz.f72)) [.tmp 4] 0 (xX a b) (wK a b) Nq nG (Rv a b):=fun(f,h) _ hm Q c e d=>Av co Aa Ac (X5 a b f h) (Ae [1,2,5,7] Je) (Ae [1,2,5] Je) e hm d fun r g=>⟨fun i=>id,id⟩
theorem ZIr{C:Cx}(co:CO C 0)(a:Scm)(b:Int):KL Tryz.prog (Az tl) 70 C (pa [0,0,1,0,1,1,1,1] (Aw Tryz.f72)) [.tmp 4] 0 (zN a b) (wq) Nq nG (Wl a b):=fun(i,c) _ hm Q d h f=>Av co Aa Ac (Zj a b i c) (Ae [1,2,5,8] Je) (Ae [5] [((1,5),true)]) h hm f fun r g=>⟨fun e=>id,id⟩
theorem SJ(b:Scm)(c:Int):KC Tryz.prog 72 [.agg ((Al b).map .d),vI c] (ea b c) Nq:=As Tryz.func72 Tryz.ntmps72 Aa [.tmp 4] fun C co y hm e a=>Ak co Aa Ac 2 (ZB b c) (Ae [1,2,5] Ee) nl nH hm a fun r g=>fun _ hm a=>sq (Ak co Aa Ac 1 (ao b c) (Ae [1,2,5,6] Ee) nl nH hm a fun r g=>fun _ hm a=>bk 0 (Fh co (ZM b c) (Ae [1,2,5,6] Je) hm a fun r g=>fun _ hm a=>lo (AF (ZIB co b c) nH hm a (fun f hm=>sq (Ak co Aa Ac 1 (bc b c f) (Ae [1,2,5,7] Je) nl nH hm a fun r g=>fun _ hm a=>bk 2 (lo (AF (ZKV co b c) nH hm a (fun h hm=>sq (Ak co Aa Ac 1 (Zn b c h) (Ae [1,2,5,8] Je) nl nH hm a fun r g=>fun _ hm a=>bk 4 (lo (AF (ZIr co b c) nH hm a (fun d hm=>Ao co Aa Ac (bP d) hm a fun r g=>id))))))))))))
abbrev Fo:List (Ad×Bool):=[((0,0),false),((0,1),true)]
abbrev Du(e:ByteArray)(z:List Prb):List (Ad×Blk):=[((0,0),⟨0,true,134,2,[vS e,.ref (0,1) 0 0 z.length]⟩),((0,1),⟨0,true,170,3,Af AA z⟩)]
abbrev Xc:List Prb→AV:=fun y=>.tup []
@[reducible] def Xm(a:ByteArray):List Prb→List Blk:=fun y=>[⟨0,true,134,2,[vS a,.ref (0,1) 0 0 y.length]⟩,⟨0,true,170,3,Af AA y⟩]
def aY(a:ByteArray)(b:List Prb)(c:Int)(d:Int):PT 2 (List Prb):=lr Xc (Xm a) (b++([(.mk a c d:Prb)]))
def cA(a:ByteArray)(b:List Prb)(c:Int)(d:Int):PT 2 (List Prb):=wg<|wg<|vw .sep<|ap b ((.mk a c d:Prb):Prb)<|Ji 1 (Af AA [(.mk a c d:Prb)]) (fun _=>Zow _)<|wg<|vwl 0 [.ref (0,1) 1 0 (b++([(.mk a c d:Prb)])).length]<|vz (fl (b++([(.mk a c d:Prb)])))<|lc (Ab [] (Du a (b++([(.mk a c d:Prb)])))) ((aY a b c d).m)
def aW(a:ByteArray)(b:List Prb):PT 2 (List Prb):=lr Xc (Xm a) b
def X8(a:ByteArray)(b:List Prb)(c:Bool)(d:Int)(e:Int):PT 2 (List Prb):=vz (fl b)<|lc (Ab [(0,.ptr (0,0) 0 0),(2,vI d),(3,vI e),(8,vB c)] (Du a b)) (if c=true then(cA a b d e).m else(aW a b).m)
def BF(a:ByteArray)(b:List Prb)(c:Bool)(d:Int)(e:Int):Option (List Prb):=(X8 a b c d e).m
theorem BY(a:ByteArray)(b:List Prb)(f:Bool)(d:Int)(e:Int):KG Tryz.prog 73 2 [1] [(1,0)] [.ptr (0,0) 0 0,vB f,vI d,vI e] [⟨0,true,134,2,[vS a,.ref (0,1) 0 0 b.length]⟩,⟨0,true,170,3,Af AA b⟩] (BF a b f d e) Xc (Xm a):=nz Tryz.func73 Tryz.ntmps73 Aa [] 2 [1] [0] [(1,0)] (fun C co h y hm i c=>Ak co Aa Ac 1 (X8 a b f d e) (Ae [0,2,3,8] Fo) nl nH hm c fun r g=>fun _ hm c=>cd f hm (fun hm=>Fg co Aa Ac (.fst 0 (.fst 1 (.fst 2 (.fst 3 (.fst 5 (.fst 6 (.fst 7 (.fst 9 (.fst 10 (.fst 4 (.fst 8 (.fst 11 (.fst 12 (.fst 13 (.fst 14 (.fst 15 (.fst 16 .nil))))))))))))))))) [] (cA a b d e) (Ae [] Fo) hm c fun r g=>⟨ZSA g h,fun _ hm c=>cS (aY a b d e) co hm c (fun r g=>id) r g⟩) (fun hm=>Ao co Aa Ac (aW a b) hm c fun r g=>id))
abbrev Qw:Bool→AV:=fun y=>vB y
def zS(a:List ByteArray):Nat→St:=fun b=>Ab [(0,vL AW a),(3,vN b)] []
def w3:Unit→Nat×St:=fun _=>(0,Ab [] [])
def bR(b:List ByteArray)(a:Nat):PT 0 (Lv (Nat) (Unit) (Bool)):=vz (Ah b)<|br (decide ((a:Int)<(b.length:Int))) (ix b a fun c=>vs (wi ((a:Int)-1))<|CF b ((a:Int)-1) fun d=>br (BZ c d||decide (c=d)) (Au Qw nG false) (vs (wa a 1)<|ln (zS b) (a+1))) (Aj (w3) ())
def VU(a:List ByteArray):Nat→Option (Lv (Nat) (Unit) (Bool)):=fun b=>(bR a b).m
def aK:PT 0 (Bool):=lr Qw nG true
def ZF(a:List ByteArray):PT 0 (Bool):=lc (Ab [(0,vL AW a),(3,vI 1)] []) ((Am (VU a) Ai 1).bind (Sum.elim (fun _=>(aK).m) some))
def bb(a:List ByteArray):PT 0 (Bool):=lc (Ab [(0,vL AW a)] []) ((ZF a).m)
def eH(a:List ByteArray):Option (Bool):=(bb a).m
theorem ZH4{C:Cx}(co:CO C 0)(a:List ByteArray):KL Tryz.prog (Az tl) 20 C (pa [0,0,1,0,1] (Aw Tryz.f74)) [.tmp 2] 0 (zS a) (w3) Qw nG (VU a):=fun e _ hm Q b d c=>Av co Aa Ac (bR a e) (AH [0,3]) nl d hm c fun r g=>⟨fun f=>fun h=>⟨id,id⟩,id⟩
theorem ZZW(b:List ByteArray):KC Tryz.prog 74 [vL AW b] (eH b) Qw:=As Tryz.func74 Tryz.ntmps74 Aa [.tmp 2] fun C co y hm c a=>Ak co Aa Ac 1 (bb b) (AH [0]) nl nH hm a fun r g=>fun _ hm a=>sq (Ak co Aa Ac 1 (ZF b) (AH [0,3]) nl nH hm a fun r g=>fun _ hm a=>bk 0 (lo (AF (ZH4 co b) nH hm a (fun _ hm=>Ao co Aa Ac (aK) hm a fun r g=>id))))
abbrev RX:Bool→AV:=fun y=>vB y
def qg(a:List ByteArray)(b:ByteArray):Nat→St:=fun c=>Ab [(0,vL AW a),(1,vS b),(5,vN c)] []
def q8:Unit→Nat×St:=fun _=>(0,Ab [] [])
def UE(a:List ByteArray)(c:ByteArray)(b:Nat):PT 0 (Lv (Nat) (Unit) (Bool)):=vz (Ah a)<|br (decide ((b:Int)<(a.length:Int))) (ix a b fun d=>br (decide (d=c)) (Au RX nG true) (vs (wa b 1)<|ln (qg a c) (b+1))) (Aj (q8) ())
def MI(a:List ByteArray)(b:ByteArray):Nat→Option (Lv (Nat) (Unit) (Bool)):=fun c=>(UE a b c).m
def VC:PT 0 (Bool):=lr RX nG false
def U4(a:List ByteArray)(b:ByteArray):PT 0 (Bool):=lc (Ab [(0,vL AW a),(1,vS b),(5,vI 0)] []) ((Am (MI a b) Ai 0).bind (Sum.elim (fun _=>(VC).m) some))
def Uv(a:List ByteArray)(b:ByteArray):PT 0 (Bool):=lc (Ab [(0,vL AW a),(1,vS b)] []) ((U4 a b).m)
def OA(a:List ByteArray)(b:ByteArray):Option (Bool):=(Uv a b).m
theorem ZB8{C:Cx}(co:CO C 0)(a:List ByteArray)(b:ByteArray):KL Tryz.prog (Az tl) 18 C (pa [0,0,1,0,1] (Aw Tryz.f110)) [.tmp 4] 0 (qg a b) (q8) RX nG (MI a b):=fun f _ hm Q c e d=>Av co Aa Ac (UE a b f) (AH [0,1,5]) nl e hm d fun r g=>⟨fun h=>⟨id,id⟩,id⟩
theorem wc(b:List ByteArray)(c:ByteArray):KC Tryz.prog 110 [vL AW b,vS c] (OA b c) RX:=As Tryz.func110 Tryz.ntmps110 Aa [.tmp 4] fun C co y hm d a=>Ak co Aa Ac 1 (Uv b c) (AH [0,1]) nl nH hm a fun r g=>fun _ hm a=>sq (Ak co Aa Ac 1 (U4 b c) (AH [0,1,5]) nl nH hm a fun r g=>fun _ hm a=>bk 0 (lo (AF (ZB8 co b c) nH hm a (fun _ hm=>Ao co Aa Ac (VC) hm a fun r g=>id))))
abbrev Qx:Bool→AV:=fun y=>vB y
def yY(a:List ByteArray)(b:List ByteArray):Nat→St:=fun c=>Ab [(0,vL AW a),(1,vL AW b),(5,vN c)] []
def vG:Unit→Nat×St:=fun _=>(0,Ab [] [])
def Z8(a:List ByteArray)(c:List ByteArray)(b:Nat):PT 0 (Lv (Nat) (Unit) (Bool)):=vz (Ah a)<|br (decide ((b:Int)<(a.length:Int))) (ix a b fun d=>cl (wc c d) fun e=>br e (Au Qx nG true) (vs (wa b 1)<|ln (yY a c) (b+1))) (Aj (vG) ())
def WF(a:List ByteArray)(b:List ByteArray):Nat→Option (Lv (Nat) (Unit) (Bool)):=fun c=>(Z8 a b c).m
def cm:PT 0 (Bool):=lr Qx nG false
def Zg(a:List ByteArray)(b:List ByteArray):PT 0 (Bool):=lc (Ab [(0,vL AW a),(1,vL AW b),(5,vI 0)] []) ((Am (WF a b) Ai 0).bind (Sum.elim (fun _=>(cm).m) some))
def XZ(a:List ByteArray)(b:List ByteArray):PT 0 (Bool):=lc (Ab [(0,vL AW a),(1,vL AW b)] []) ((Zg a b).m)
def fd(a:List ByteArray)(b:List ByteArray):Option (Bool):=(XZ a b).m
theorem ZLL{C:Cx}(co:CO C 0)(a:List ByteArray)(b:List ByteArray):KL Tryz.prog (Az tl) 18 C (pa [0,0,1,0,1] (Aw Tryz.f75)) [.tmp 4] 0 (yY a b) (vG) Qx nG (WF a b):=fun f _ hm Q c e d=>Av co Aa Ac (Z8 a b f) (AH [0,1,5]) nl e hm d fun r g=>⟨fun h=>fun i=>⟨id,id⟩,id⟩
theorem cE(b:List ByteArray)(c:List ByteArray):KC Tryz.prog 75 [vL AW b,vL AW c] (fd b c) Qx:=As Tryz.func75 Tryz.ntmps75 Aa [.tmp 4] fun C co y hm d a=>Ak co Aa Ac 1 (XZ b c) (AH [0,1]) nl nH hm a fun r g=>fun _ hm a=>sq (Ak co Aa Ac 1 (Zg b c) (AH [0,1,5]) nl nH hm a fun r g=>fun _ hm a=>bk 0 (lo (AF (ZLL co b c) nH hm a (fun _ hm=>Ao co Aa Ac (cm) hm a fun r g=>id))))
abbrev nr(a:Scm):Ad×Blk:=kk 2 26 3 (cD (Al a))
abbrev SC:Int→AV:=fun y=>vI y
def sO(a:Scm)(b:ByteArray):Nat→St:=fun c=>Ab [(1,vS b),pp 2,(5,vN c)] [(nr a)]
def py:Unit→Nat×St:=fun _=>(0,Ab [] [])
def lA(b:Scm)(c:ByteArray)(a:Nat):PT 0 (Lv (Nat) (Unit) (Int)):=wg<|vz (Ah b.messages)<|br (decide ((a:Int)<(b.messages.length:Int))) (wg<|ix b.messages a fun d=>br (decide (d.name=c)) (Au SC nG (a:Int)) (vs (wa a 1)<|ln (sO b c) (a+1))) (Aj (py) ())
def UK(a:Scm)(b:ByteArray):Nat→Option (Lv (Nat) (Unit) (Int)):=fun c=>(lA a b c).m
def jQ:PT 0 (Int):=lr SC nG (-1)
def kZ(a:Scm)(b:ByteArray):PT 0 (Int):=lc (Ab [(1,vS b),pp 2,(5,vI 0)] [(nr a)]) ((Am (UK a b) Ai 0).bind (Sum.elim (fun _=>(jQ).m) some))
def km(a:Scm)(b:ByteArray):PT 0 (Int):=lc (Ab [(1,vS b),pp 2] [(nr a)]) ((kZ a b).m)
def eD(a:Scm)(b:ByteArray):Option (Int):=(km a b).m
theorem Zzh{C:Cx}(co:CO C 0)(a:Scm)(b:ByteArray):KL Tryz.prog (Az tl) 22 C (pa [0,0,1,0,1] (Aw Tryz.f122)) [.tmp 4] 0 (sO a b) (py) SC nG (UK a b):=fun f _ hm Q c e d=>Av co Aa Ac (lA a b f) (Ae [1,2,5] Ee) nl e hm d fun r g=>⟨fun h=>⟨id,id⟩,id⟩
theorem P9(b:Scm)(c:ByteArray):KC Tryz.prog 122 [.agg ((Al b).map .d),vS c] (eD b c) SC:=As Tryz.func122 Tryz.ntmps122 Aa [.tmp 4] fun C co y hm d a=>Ak co Aa Ac 1 (km b c) (Ae [1,2] Ee) nl nH hm a fun r g=>fun _ hm a=>sq (Ak co Aa Ac 1 (kZ b c) (Ae [1,2,5] Ee) nl nH hm a fun r g=>fun _ hm a=>bk 0 (lo (AF (Zzh co b c) nH hm a (fun _ hm=>Ao co Aa Ac (jQ) hm a fun r g=>id))))
abbrev Qg:List (Ad×Bool):=[((1,3),false),((1,4),false)]
abbrev ns(a:Scm):Ad×Blk:=kk 3 26 3 (cD (Al a))
abbrev nu(a:Msg):Ad×Blk:=kk 4 61 5 (cD (AB a))
abbrev SZ:Bool→AV:=fun y=>vB y
def k8(a:Scm)(b:Msg)(c:List Bool):Nat→St:=fun d=>Ab [(2,vL AU c),pp 3,pp 4,(7,vN d)] [(ns a),(nu b)]
def uv:Unit→Nat×St:=fun _=>(0,Ab [] [])
def jA(d:Scm)(b:Msg)(e:List Bool)(a:Nat):PT 0 (Lv (Nat) (Unit) (Bool)):=wg<|vz (Ah b.fields)<|br (decide ((a:Int)<(b.fields.length:Int))) (wg<|ix b.fields a fun c=>wg<|wg<|wg<|br ((!decide (c.card=(1:Int)))||(!decide (c.type.kind=(10:Int)))) (vs (wa a 1)<|ln (k8 d b e) (a+1)) (wg<|wg<|cl (P9 d c.type.name) fun f=>AS (decide ((0:Int)≤f)) e f fun g=>br (decide ((0:Int)≤f)&&(!g)) (Au SZ nG true) (vs (wa a 1)<|ln (k8 d b e) (a+1)))) (Aj (uv) ())
def Uu(a:Scm)(b:Msg)(c:List Bool):Nat→Option (Lv (Nat) (Unit) (Bool)):=fun d=>(jA a b c d).m
def kO:PT 0 (Bool):=lr SZ nG false
def i2(a:Scm)(b:Msg)(c:List Bool):PT 0 (Bool):=lc (Ab [(2,vL AU c),pp 3,pp 4,(7,vI 0)] [(ns a),(nu b)]) ((Am (Uu a b c) Ai 0).bind (Sum.elim (fun _=>(kO).m) some))
def mZ(a:Scm)(b:Msg)(c:List Bool):PT 0 (Bool):=lc (Ab [(2,vL AU c),pp 3,pp 4] [(ns a),(nu b)]) ((i2 a b c).m)
def eV(a:Scm)(b:Msg)(c:List Bool):Option (Bool):=(mZ a b c).m
theorem ZzN{C:Cx}(co:CO C 0)(a:Scm)(b:Msg)(c:List Bool):KL Tryz.prog (Az tl) 45 C (pa [0,0,1,0,1] (Aw Tryz.f111)) [.tmp 6] 0 (k8 a b c) (uv) SZ nG (Uu a b c):=fun h _ hm Q d f e=>Av co Aa Ac (jA a b c h) (Ae [2,3,4,7] Qg) nl f hm e fun r g=>⟨fun i=>⟨id,fun k=>fun j=>⟨id,id⟩⟩,id⟩
theorem ZVf(b:Scm)(c:Msg)(d:List Bool):KC Tryz.prog 111 [.agg ((Al b).map .d),.agg ((AB c).map .d),vL AU d] (eV b c d) SZ:=As Tryz.func111 Tryz.ntmps111 Aa [.tmp 6] fun C co y hm e a=>Ak co Aa Ac 1 (mZ b c d) (Ae [2,3,4] Qg) nl nH hm a fun r g=>fun _ hm a=>sq (Ak co Aa Ac 1 (i2 b c d) (Ae [2,3,4,7] Qg) nl nH hm a fun r g=>fun _ hm a=>bk 0 (lo (AF (ZzN co b c d) nH hm a (fun _ hm=>Ao co Aa Ac (kO) hm a fun r g=>id))))
abbrev ny:List (Ad×Bool):=[((0,0),true),((1,3),false),((1,4),false)]
abbrev DT:List (Ad×Bool):=[((0,0),true)]
abbrev nv(a:Scm):Ad×Blk:=kk 3 26 3 (cD (Al a))
abbrev dK(a:Msg):Ad×Blk:=kk 4 61 5 (cD (AB a))
abbrev VL:Bool→AV:=fun y=>vB y
@[reducible] def UD(a:List Bool):Bool→List Blk:=fun y=>[⟨0,true,4,1,Af AU a⟩]
def gN(b:Scm)(c:Msg)(a:List Bool):Nat→St:=fun d=>Ab [(2,.ref (0,0) 0 0 a.length),pp 3,pp 4,(7,vN d)] [((0,0),⟨0,true,4,1,Af AU a⟩),(nv b),(dK c)]
def Zpp(a:List Bool):Unit→Nat×St:=fun _=>(0,Ab [] [((0,0),⟨0,true,4,1,Af AU a⟩)])
def gE(f:Scm)(c:Msg)(a:List Bool)(b:Nat):PT 1 (Lv (Nat) (Unit) (Bool)):=wg<|vz (Ah c.fields)<|br (decide ((b:Int)<(c.fields.length:Int))) (wg<|ix c.fields b fun e=>wg<|wg<|wg<|br ((!decide (e.card=(1:Int)))||(!decide (e.type.kind=(10:Int)))) (vs (wa b 1)<|vz (fl a)<|ln (gN f c a) (b+1)) (wg<|wg<|cl (P9 f e.type.name) fun d=>vg (decide ((0:Int)≤d)) (KT d a.length 1)<|cag (decide ((0:Int)≤d)) a d.toNat fun g=>br (decide ((0:Int)≤d)&&(!g)) (Au VL (UD a) true) (vs (wa b 1)<|vz (fl a)<|ln (gN f c a) (b+1)))) (vz (fl a)<|Aj (Zpp a) ())
def T9(a:Scm)(b:Msg)(c:List Bool):Nat→Option (Lv (Nat) (Unit) (Bool)):=fun d=>(gE a b c d).m
def g9(a:List Bool):PT 1 (Bool):=lr VL (UD a) false
def gV(b:Scm)(c:Msg)(a:List Bool):PT 1 (Bool):=vz (fl a)<|lc (Ab [(2,.ref (0,0) 0 0 a.length),pp 3,pp 4,(7,vI 0)] [((0,0),⟨0,true,4,1,Af AU a⟩),(nv b),(dK c)]) ((Am (T9 b c a) Ai 0).bind (Sum.elim (fun _=>(g9 a).m) some))
def gR(b:Scm)(c:Msg)(a:List Bool):PT 1 (Bool):=vz (fl a)<|lc (Ab [(2,.ref (0,0) 0 0 a.length),pp 3,pp 4] [((0,0),⟨0,true,4,1,Af AU a⟩),(nv b),(dK c)]) ((gV b c a).m)
def Tg(a:Scm)(b:Msg)(c:List Bool):Option (Bool):=(gR a b c).m
theorem Zqi{C:Cx}(co:CO C 1)(b:Scm)(c:Msg)(a:List Bool):KL Tryz.prog (Az tl) 45 C (pa [0,0,1,0,1] (Aw Tryz.f111)) [.tmp 6] 1 (gN b c a) (Zpp a) VL (UD a) (T9 b c a):=fun h _ hm Q d f e=>Av co Aa Ac (gE b c a h) (Ae [2,3,4,7] ny) (Ae [] DT) f hm e fun r g=>⟨fun i=>⟨id,fun k=>fun j=>⟨id,id⟩⟩,id⟩
theorem ZLP(c:Scm)(d:Msg)(a:List Bool):KO Tryz.prog 111 1 [.agg ((Al c).map .d),.agg ((AB d).map .d),.ref (0,0) 0 0 a.length] [⟨0,true,4,1,Af AU a⟩] (fun _ _ _ _=>True) (Tg c d a) VL (UD a):=Bi Tryz.func111 Tryz.ntmps111 Aa [.tmp 6] 1 (fun C co f y hm e b=>Ak co Aa Ac 1 (gR c d a) (Ae [2,3,4] ny) nl nH hm b fun r g=>fun _ hm b=>sq (Ak co Aa Ac 1 (gV c d a) (Ae [2,3,4,7] ny) nl nH hm b fun r g=>fun _ hm b=>bk 0 (lo (AF (Zqi co c d a) nH hm b (fun _ hm=>Ao co Aa Ac (g9 a) hm b fun r g=>id))))) (hB:=fun y=>⟨.inl (A2 _ _),rfl,trivial⟩)
abbrev Gv:List (Ad×Bool):=[((1,1),false),((1,10),true)]
abbrev JV(a:Scm):Ad×Blk:=kk 1 26 3 (cD (Al a))
abbrev Qy:List Bool→AV:=fun y=>vL AU y
def xd(b:Scm):Bool×Nat×List Bool→St:=fun(c,v2,a)=>Ab [pp 1,(3,.ref (1,10) 0 0 a.length),(4,vB c),(5,vN v2)] [(JV b),kk 10 4 1 (Af AU a)]
def wZ:List Bool→Nat×St:=fun a=>(0,Ab [(3,.ref (1,10) 0 0 a.length)] [kk 10 4 1 (Af AU a)])
def ZH(b:Scm)(v2:Nat):Bool×Nat×List Bool→St:=fun(v4,v5,a)=>Ab [pp 1,(3,.ref (1,10) 0 0 a.length),(4,vB v4),(5,vN v2),(6,vN v5)] [(JV b),kk 10 4 1 (Af AU a)]
def xg(c:Scm)(v2:Nat):Bool×List Bool→Nat×St:=fun(b,a)=>(2,Ab [pp 1,(3,.ref (1,10) 0 0 a.length),(4,vB b),(5,vN v2)] [(JV c),kk 10 4 1 (Af AU a)])
def ZG(b:Scm)(v2:Nat)(v4:Bool)(v5:Nat)(a:List Bool):PT 0 (Lv (Bool×Nat×List Bool) (Bool×List Bool) (List Bool)):=wg<|vz (Ah b.messages)<|br (decide ((v5:Int)<(b.messages.length:Int))) (vs (ir v5 a.length 1)<|ca a v5 fun c=>wg<|wg<|AS (!c) b.messages (v5:Int) fun d=>ER (!c) Tryz.prog 111 [.agg ((Al b).map .d),.agg ((AB d).map .d),.ref (1,10) 0 0 a.length] [(1,10)] [kk 10 4 1 (Af AU a)] (Tg b d a) (fun y=>vB y) fun e=>br ((!c)&&(!e)) (vs (ir v5 a.length 1)<|vs (st a v5 true)<|rn 3 10 a.length (a.set v5 true)<|vw .sep<|vs (wa v5 1)<|vz (fl (a.set v5 true))<|ln (ZH b v2) (true,v5+1,a.set v5 true)) (vs (wa v5 1)<|vz (fl a)<|ln (ZH b v2) (v4,v5+1,a))) (vz (fl a)<|Aj (xg b v2) (v4,a))
def RF(a:Scm)(v2:Nat):Bool×Nat×List Bool→Option (Lv (Bool×Nat×List Bool) (Bool×List Bool) (List Bool)):=fun(v4,v5,b)=>(ZG a v2 v4 v5 b).m
def bu(c:Scm)(v2:Nat)(b:Bool)(a:List Bool):PT 0 (Lv (Bool×Nat×List Bool) (List Bool) (List Bool)):=vs (wa v2 1)<|vz (fl a)<|ln (xd c) (b,v2+1,a)
def bU(b:Scm)(v2:Nat)(a:List Bool):PT 0 (Lv (Bool×Nat×List Bool) (List Bool) (List Bool)):=vz (fl a)<|lc (Ab [pp 1,(3,.ref (1,10) 0 0 a.length),(4,vB false),(5,vN v2),(6,vI 0)] [(JV b),kk 10 4 1 (Af AU a)]) ((Am (RF b v2) Ai (false,0,a)).bind (Sum.elim (fun(d,c)=>(bu b v2 d c).m) (fun z=>some (.rt z))))
def ce(b:Scm)(c:Bool)(v2:Nat)(a:List Bool):PT 0 (Lv (Bool×Nat×List Bool) (List Bool) (List Bool)):=wg<|vz (Ah b.messages)<|br (decide ((v2:Int)<(b.messages.length:Int))&&c) (vz (fl a)<|lc (Ab [pp 1,(3,.ref (1,10) 0 0 a.length),(5,vN v2)] [(JV b),kk 10 4 1 (Af AU a)]) ((bU b v2 a).m)) (vz (fl a)<|Aj (wZ) a)
def RP(a:Scm):Bool×Nat×List Bool→Option (Lv (Bool×Nat×List Bool) (List Bool) (List Bool)):=fun(c,v2,b)=>(ce a c v2 b).m
def b0(a:List Bool):PT 0 (List Bool):=vz (fr a)<|lr Qy nG a
def bl(a:Scm):PT 0 (List Bool):=vz (fl (List.replicate a.messages.length false))<|lc (Ab [pp 1,(3,.ref (1,10) 0 0 (List.replicate a.messages.length false).length),(4,vB true),(5,vI 0)] [(JV a),kk 10 4 1 (Af AU (List.replicate a.messages.length false))]) ((Am (RP a) Ai (true,0,List.replicate a.messages.length false)).bind (Sum.elim (fun b=>(b0 b).m) some))
def aH(a:Scm):PT 0 (List Bool):=wg<|vz (Ah a.messages)<|ms a.messages.length false [vB false] (by first|rfl|kernel_rfl)<|vz (fl (List.replicate a.messages.length false))<|lc (Ab [pp 1,(3,.ref (1,10) 0 0 (List.replicate a.messages.length false).length),(4,vB true)] [(JV a),kk 10 4 1 (Af AU (List.replicate a.messages.length false))]) ((bl a).m)
def ey(a:Scm):Option (List Bool):=(aH a).m
theorem ZJu{C:Cx}(co:CO C 0)(a:Scm)(v2:Nat):KL Tryz.prog (Az tl) 48 C (pa [0,0,1,1,0,0,1,0,0,1,0,1,1,1] (Aw Tryz.f76)) [.tmp 2] 0 (ZH a v2) (xg a v2) Qy nG (RF a v2):=fun(v4,v5,b) _ hm Q c f e=>Av co Aa Ac (ZG a v2 v4 v5 b) (Ae [1,3,4,5,6] Gv) (Ae [1,3,4,5] Gv) f hm e fun r g=>⟨fun i=>fun d=>⟨fun y hy=>B6 (ZLP a d b) hy co g [kk 10 4 1 (Af AU b)] [] (AN []) (fun h hg j=>trivial) (fun H=>⟨fun _=>⟨rfl,BA (A2 _ _) (by kernel_rfl)⟩,by kernel_rfl,trivial⟩),fun k=>⟨id,id⟩⟩,id⟩
theorem ZJg{C:Cx}(co:CO C 0)(b:Scm):KL Tryz.prog (Az tl) 48 C (pa [0,0,1,0,1,1,1] (Aw Tryz.f76)) [.tmp 2] 0 (xd b) (wZ) Qy nG (RP b):=fun(i,v2,h) _ hm Q f c a=>Ak co Aa Ac 1 (ce b i v2 h) (Ae [1,3,5] Gv) (Ae [3] [((1,10),true)]) c hm a fun r g=>⟨fun _ hm a=>sq (bk 1 (Ak co Aa Ac 2 (bU b v2 h) (Ae [1,3,4,5,6] Gv) nl c hm a fun r g=>fun _ hm a=>bk 2 (lo (Fp (ZJu co b v2) c hm a (fun(e,d) hm=>Av co Aa Ac (bu b v2 e d) (Ae [1,3,4,5] Gv) nl c hm a fun r g=>id))))),id⟩
theorem ZZN(b:Scm):KC Tryz.prog 76 [.agg ((Al b).map .d)] (ey b) Qy:=As Tryz.func76 Tryz.ntmps76 Aa [.tmp 2] fun C co y hm d a=>Ak co Aa Ac 3 (aH b) (Ae [1,3,4] Gv) nl nH hm a fun r g=>fun _ hm a=>sq (Ak co Aa Ac 1 (bl b) (Ae [1,3,4,5] Gv) nl nH hm a fun r g=>fun _ hm a=>bk 0 (lo (AF (ZJg co b) nH hm a (fun c hm=>Ao co Aa Ac (b0 c) hm a fun r g=>id))))
abbrev ZYt:Bool→AV:=fun y=>vB y
def uI(a:Int):PT 0 (Bool):=lr ZYt nG (decide ((97:Int)≤a)&&decide (a≤(122:Int)))
def Zc5(a:Int):Option (Bool):=(uI a).m
theorem xy(a:Int):KC Tryz.prog 183 [.d (.int .u8 a)] (Zc5 a) ZYt:=As Tryz.func183 Tryz.ntmps183 Aa [.tmp 2] fun C co y hm b c=>Ao co Aa Ac (uI a) hm c fun r g=>id
abbrev ZXp:Bool→AV:=fun y=>vB y
def ur(a:Int):PT 0 (Bool):=lr ZXp nG (decide ((65:Int)≤a)&&decide (a≤(90:Int)))
def ZcQ(a:Int):Option (Bool):=(ur a).m
theorem zJ(a:Int):KC Tryz.prog 184 [.d (.int .u8 a)] (ZcQ a) ZXp:=As Tryz.func184 Tryz.ntmps184 Aa [.tmp 2] fun C co y hm b c=>Ao co Aa Ac (ur a) hm c fun r g=>id
abbrev Of:Bool→AV:=fun y=>vB y
def tE(a:ByteArray):Nat→St:=fun v5=>Ab [(0,vS a),(3,vN v5)] []
def ub:Unit→Nat×St:=fun _=>(0,Ab [] [])
def mP(a:ByteArray)(v5:Nat):PT 0 (Lv (Nat) (Unit) (Bool)):=vz (A7 a.size)<|br (decide ((v5:Int)<(a.size:Int))) (ib a v5 fun g=>cl (xy (g.toNat:Int)) fun c=>F0 (!c) a (v5:Int) fun h=>AC (!c) (zJ (h.toNat:Int)) fun e=>F0 ((!c)&&(!e)) a (v5:Int) fun b=>F0 (((!c)&&(!e))&&(!decide ((b.toNat:Int)=(95:Int)))) a (v5:Int) fun d=>F0 ((((!c)&&(!e))&&(!decide ((b.toNat:Int)=(95:Int))))&&(!(decide ((d.toNat:Int)<(48:Int))))) a (v5:Int) fun f=>br ((((!c)&&(!e))&&(!decide ((b.toNat:Int)=(95:Int))))&&(decide ((d.toNat:Int)<(48:Int))||decide ((57:Int)<(f.toNat:Int)))) (Au Of nG false) (vs (wa v5 1)<|ln (tE a) (v5+1))) (Aj (ub) ())
def Vo(a:ByteArray):Nat→Option (Lv (Nat) (Unit) (Bool)):=fun v5=>(mP a v5).m
def iS:PT 0 (Bool):=lr Of nG true
def jm(a:ByteArray):PT 0 (Bool):=lc (Ab [(0,vS a),(3,vI 1)] []) ((Am (Vo a) Ai 1).bind (Sum.elim (fun _=>(iS).m) some))
def m9(a:ByteArray):PT 0 (Bool):=vz (A7 a.size)<|vy (!(decide ((a.size:Int)=(0:Int)))) (A7 a.size)<|F0 (!(decide ((a.size:Int)=(0:Int))||decide ((40:Int)<(a.size:Int)))) a 0 fun c=>AC (!(decide ((a.size:Int)=(0:Int))||decide ((40:Int)<(a.size:Int)))) (xy (c.toNat:Int)) fun b=>F0 ((!(decide ((a.size:Int)=(0:Int))||decide ((40:Int)<(a.size:Int))))&&(!b)) a 0 fun d=>AC ((!(decide ((a.size:Int)=(0:Int))||decide ((40:Int)<(a.size:Int))))&&(!b)) (zJ (d.toNat:Int)) fun e=>br ((decide ((a.size:Int)=(0:Int))||decide ((40:Int)<(a.size:Int)))||((!b)&&(!e))) (lr Of nG false) (lc (Ab [(0,vS a)] []) ((jm a).m))
def eu(a:ByteArray):Option (Bool):=(m9 a).m
theorem ZBF{C:Cx}(co:CO C 0)(a:ByteArray):KL Tryz.prog (Az tl) 60 C (pa [0,0,1,0,1,1] (Aw Tryz.f157)) [.tmp 2] 0 (tE a) (ub) Of nG (Vo a):=fun v5 _ hm Q b h f=>Av co Aa Ac (mP a v5) (AH [0,3]) nl h hm f fun r g=>⟨fun i=>fun k=>fun j=>fun l=>fun c=>fun d=>fun e=>⟨id,id⟩,id⟩
theorem aO(b:ByteArray):KC Tryz.prog 157 [vS b] (eu b) Of:=As Tryz.func157 Tryz.ntmps157 Aa [.tmp 2] fun C co y hm c a=>Ak co Aa Ac 2 (m9 b) (AH [0]) nl nH hm a fun r g=>fun d=>fun f=>fun e=>fun h=>⟨id,fun _ hm a=>sq (Ak co Aa Ac 1 (jm b) (AH [0,3]) nl nH hm a fun r g=>fun _ hm a=>bk 0 (lo (AF (ZBF co b) nH hm a (fun _ hm=>Ao co Aa Ac (iS) hm a fun r g=>id))))⟩
abbrev Oe:Bool→AV:=fun y=>vB y
def iT(a:ByteArray):ByteArray×Nat→St:=fun(b,v2)=>Ab [(0,vS a),(3,vS b),(4,vN v2)] []
def rJ:ByteArray→Nat×St:=fun a=>(0,Ab [(3,vS a)] [])
def lT(a:ByteArray)(b:ByteArray)(v2:Nat):PT 0 (Lv (ByteArray×Nat) (ByteArray) (Bool)):=vz (A7 a.size)<|br (decide ((v2:Int)<(a.size:Int))) (ib a v2 fun c=>br (!decide ((c.toNat:Int)=(46:Int))) (vs (wa v2 1)<|ss a (.nt v2) (.nt (v2+1)) fun d=>ad b d fun e=>vs (wa v2 1)<|ln (iT a) (e,v2+1)) (cl (aO b) fun f=>br (!f) (Au Oe nG false) (vs (wa v2 1)<|ln (iT a) (⟨#[]⟩,v2+1)))) (Aj (rJ) b)
def UP(a:ByteArray):ByteArray×Nat→Option (Lv (ByteArray×Nat) (ByteArray) (Bool)):=fun(b,v2)=>(lT a b v2).m
def lB(a:ByteArray):PT 0 (Bool):=cl (aO a) fun b=>lr Oe nG b
def l7(a:ByteArray):PT 0 (Bool):=lc (Ab [(0,vS a),(3,vS ⟨#[]⟩),(4,vI 0)] []) ((Am (UP a) Ai (⟨#[]⟩,0)).bind (Sum.elim (fun b=>(lB b).m) some))
def lW(a:ByteArray):PT 0 (Bool):=vz (A7 a.size)<|br (decide ((120:Int)<(a.size:Int))) (lr Oe nG false) (lc (Ab [(0,vS a),(3,vS ⟨#[]⟩)] []) ((l7 a).m))
def eB(a:ByteArray):Option (Bool):=(lW a).m
theorem Zyd{C:Cx}(co:CO C 0)(a:ByteArray):KL Tryz.prog (Az tl) 30 C (pa [0,0,1,0,1,1,1] (Aw Tryz.f154)) [.tmp 2] 0 (iT a) (rJ) Oe nG (UP a):=fun(e,v2) _ hm Q b d c=>Av co Aa Ac (lT a e v2) (AH [0,3,4]) (AH [3]) d hm c fun r g=>⟨fun f=>⟨fun h=>fun i=>id,fun j=>⟨id,id⟩⟩,id⟩
theorem ZVG(b:ByteArray):KC Tryz.prog 154 [vS b] (eB b) Oe:=As Tryz.func154 Tryz.ntmps154 Aa [.tmp 2] fun C co y hm c a=>Ak co Aa Ac 3 (lW b) (AH [0,3]) nl nH hm a fun r g=>⟨id,fun _ hm a=>sq (Ak co Aa Ac 1 (l7 b) (AH [0,3,4]) nl nH hm a fun r g=>fun _ hm a=>bk 0 (lo (AF (Zyd co b) nH hm a (fun d hm=>Ao co Aa Ac (lB d) hm a fun r g=>fun e=>id))))⟩
abbrev S1:ByteArray×ByteArray→AV:=fun y=>.tup [vS y.1,vS y.2]
def o4(a:ByteArray):Int→St:=fun b=>Ab [(0,vS a),(4,vI b)] []
def qW(a:ByteArray):Unit→Nat×St:=fun _=>(0,Ab [(0,vS a)] [])
def jT(b:ByteArray)(a:Int):PT 0 (Lv (Int) (Unit) (ByteArray×ByteArray)):=br (decide ((0:Int)≤a)) (Qf b a fun c=>br (decide ((c.toNat:Int)=(46:Int))) (ss b .no (.it a) fun d=>vs (wi (a+1))<|ss b (.it (a+1)) .no fun e=>Au S1 nG (d,e)) (vs (wi (a-1))<|ln (o4 b) (a-1))) (Aj (qW b) ())
def UG(a:ByteArray):Int→Option (Lv (Int) (Unit) (ByteArray×ByteArray)):=fun b=>(jT a b).m
def lU(a:ByteArray):PT 0 (ByteArray×ByteArray):=lr S1 nG (⟨#[]⟩,a)
def j9(a:ByteArray):PT 0 (ByteArray×ByteArray):=vz (A7 a.size)<|vs (wi ((a.size:Int)-1))<|lc (Ab [(0,vS a),(4,vI ((a.size:Int)-1))] []) ((Am (UG a) Ai ((a.size:Int)-1)).bind (Sum.elim (fun _=>(lU a).m) some))
def nj(a:ByteArray):PT 0 (ByteArray×ByteArray):=lc (Ab [(0,vS a)] []) ((j9 a).m)
def dY(a:ByteArray):Option (ByteArray×ByteArray):=(nj a).m
theorem ZBb{C:Cx}(co:CO C 0)(a:ByteArray):KL Tryz.prog (Az tl) 24 C (pa [0,0,1,0,1] (Aw Tryz.f155)) [.tmp 2,.tmp 3] 0 (o4 a) (qW a) S1 nG (UG a):=fun e _ hm Q b d c=>Av co Aa Ac (jT a e) (AH [0,4]) (AH [0]) d hm c fun r g=>⟨fun f=>⟨fun h=>fun i=>id,id⟩,id⟩
theorem ZWR(b:ByteArray):KC Tryz.prog 155 [vS b] (dY b) S1:=As Tryz.func155 Tryz.ntmps155 Aa [.tmp 2,.tmp 3] fun C co y hm c a=>Ak co Aa Ac 1 (nj b) (AH [0]) nl nH hm a fun r g=>fun _ hm a=>sq (Ak co Aa Ac 1 (j9 b) (AH [0,4]) nl nH hm a fun r g=>fun _ hm a=>bk 0 (lo (AF (ZBb co b) nH hm a (fun _ hm=>Ao co Aa Ac (lU b) hm a fun r g=>id))))
abbrev Bo:Bool→AV:=fun y=>vB y
def kL(a:ByteArray):PT 0 (Bool):=br (decide (a=(⟨#[109,101,115,115,97,103,101]⟩:ByteArray))) (br (decide (a=(⟨#[109,101,115,115,97,103,101]⟩:ByteArray))) (lr Bo nG true) (lr Bo nG false)) (br (decide (a=(⟨#[101,110,117,109]⟩:ByteArray))) (br (decide (a=(⟨#[101,110,117,109]⟩:ByteArray))) (lr Bo nG true) (lr Bo nG false)) (br (decide (a=(⟨#[115,101,114,118,105,99,101]⟩:ByteArray))) (br (decide (a=(⟨#[115,101,114,118,105,99,101]⟩:ByteArray))) (lr Bo nG true) (lr Bo nG false)) (br (decide (a=(⟨#[117,110,105,111,110]⟩:ByteArray))) (br (decide (a=(⟨#[117,110,105,111,110]⟩:ByteArray))) (lr Bo nG true) (lr Bo nG false)) (br (decide (a=(⟨#[109,97,112]⟩:ByteArray))) (br (decide (a=(⟨#[109,97,112]⟩:ByteArray))) (lr Bo nG true) (lr Bo nG false)) (br (decide (a=(⟨#[108,105,115,116]⟩:ByteArray))) (br (decide (a=(⟨#[108,105,115,116]⟩:ByteArray))) (lr Bo nG true) (lr Bo nG false)) (br (decide (a=(⟨#[114,101,113,117,105,114,101,100]⟩:ByteArray))) (br (decide (a=(⟨#[114,101,113,117,105,114,101,100]⟩:ByteArray))) (lr Bo nG true) (lr Bo nG false)) (br (decide (a=(⟨#[111,112,116,105,111,110,97,108]⟩:ByteArray))) (br (decide (a=(⟨#[111,112,116,105,111,110,97,108]⟩:ByteArray))) (lr Bo nG true) (lr Bo nG false)) (br (decide (a=(⟨#[112,108,97,105,110]⟩:ByteArray))) (br (decide (a=(⟨#[112,108,97,105,110]⟩:ByteArray))) (lr Bo nG true) (lr Bo nG false)) (br (decide (a=(⟨#[100,101,102,97,117,108,116]⟩:ByteArray))) (br (decide (a=(⟨#[100,101,102,97,117,108,116]⟩:ByteArray))) (lr Bo nG true) (lr Bo nG false)) (br (decide (a=(⟨#[114,101,115,101,114,118,101,100]⟩:ByteArray))) (br (decide (a=(⟨#[114,101,115,101,114,118,101,100]⟩:ByteArray))) (lr Bo nG true) (lr Bo nG false)) (br (decide (a=(⟨#[105,109,112,111,114,116]⟩:ByteArray))) (br (decide (a=(⟨#[105,109,112,111,114,116]⟩:ByteArray))) (lr Bo nG true) (lr Bo nG false)) (br (decide (a=(⟨#[115,112,97,99,101]⟩:ByteArray))) (br (decide (a=(⟨#[115,112,97,99,101]⟩:ByteArray))) (lr Bo nG true) (lr Bo nG false)) (br (decide (a=(⟨#[114,112,99]⟩:ByteArray))) (br (decide (a=(⟨#[114,112,99]⟩:ByteArray))) (lr Bo nG true) (lr Bo nG false)) (br (decide (a=(⟨#[115,116,114,101,97,109]⟩:ByteArray))) (br (decide (a=(⟨#[115,116,114,101,97,109]⟩:ByteArray))) (lr Bo nG true) (lr Bo nG false)) (br (decide (a=(⟨#[114,101,116,117,114,110,115]⟩:ByteArray))) (br (decide (a=(⟨#[114,101,116,117,114,110,115]⟩:ByteArray))) (lr Bo nG true) (lr Bo nG false)) (br (decide (a=(⟨#[111,112,101,110]⟩:ByteArray))) (br (decide (a=(⟨#[111,112,101,110]⟩:ByteArray))) (lr Bo nG true) (lr Bo nG false)) (br (decide (a=(⟨#[116,114,117,101]⟩:ByteArray))) (br (decide (a=(⟨#[116,114,117,101]⟩:ByteArray))) (lr Bo nG true) (lr Bo nG false)) (br (decide (a=(⟨#[102,97,108,115,101]⟩:ByteArray))) (br (decide (a=(⟨#[102,97,108,115,101]⟩:ByteArray))) (lr Bo nG true) (lr Bo nG false)) (br (decide (a=(⟨#[110,97,110]⟩:ByteArray))) (br (decide (a=(⟨#[110,97,110]⟩:ByteArray))) (lr Bo nG true) (lr Bo nG false)) (br (decide (a=(⟨#[105,110,102]⟩:ByteArray))) (lr Bo nG true) (lr Bo nG false)))))))))))))))))))))
def ez(a:ByteArray):Option (Bool):=(kL a).m
theorem xG(a:ByteArray):KC Tryz.prog 156 [vS a] (ez a) Bo:=As Tryz.func156 Tryz.ntmps156 Aa [.tmp 2] fun C co y hm b c=>Ao co Aa Ac (kL a) hm c fun r g=>⟨⟨id,id⟩,⟨⟨id,id⟩,⟨⟨id,id⟩,⟨⟨id,id⟩,⟨⟨id,id⟩,⟨⟨id,id⟩,⟨⟨id,id⟩,⟨⟨id,id⟩,⟨⟨id,id⟩,⟨⟨id,id⟩,⟨⟨id,id⟩,⟨⟨id,id⟩,⟨⟨id,id⟩,⟨⟨id,id⟩,⟨⟨id,id⟩,⟨⟨id,id⟩,⟨⟨id,id⟩,⟨⟨id,id⟩,⟨⟨id,id⟩,⟨⟨id,id⟩,⟨id,id⟩⟩⟩⟩⟩⟩⟩⟩⟩⟩⟩⟩⟩⟩⟩⟩⟩⟩⟩⟩⟩
abbrev Om:Bool→AV:=fun y=>vB y
def sD:ByteArray×Nat→St:=fun(v2,v3)=>Ab [(0,vS v2),(3,vN v3)] []
def tk:Unit→Nat×St:=fun _=>(0,Ab [] [])
def l8(v2:ByteArray)(v3:Nat):PT 0 (Lv (ByteArray×Nat) (Unit) (Bool)):=br (decide ((v3:Int)<(120:Int))&&(!decide (v2=(⟨#[]⟩:ByteArray)))) (cl (ZWR v2) fun a=>cl (xG a.2) fun b=>br b (Au Om nG false) (vs (wa v3 1)<|ln (sD) (a.1,v3+1))) (Aj (tk) ())
def VG:ByteArray×Nat→Option (Lv (ByteArray×Nat) (Unit) (Bool)):=fun(v2,v3)=>(l8 v2 v3).m
def i6:PT 0 (Bool):=lr Om nG true
def jN(a:ByteArray):PT 0 (Bool):=lc (Ab [(0,vS a),(3,vI 0)] []) ((Am (VG) Ai (a,0)).bind (Sum.elim (fun _=>(i6).m) some))
def lE(a:ByteArray):PT 0 (Bool):=cl (ZVG a) fun b=>br (!b) (lr Om nG false) (lc (Ab [(0,vS a)] []) ((jN a).m))
def eA(a:ByteArray):Option (Bool):=(lE a).m
theorem ZAm{C:Cx}(co:CO C 0):KL Tryz.prog (Az tl) 25 C (pa [0,0,1,0,1,1] (Aw Tryz.f112)) [.tmp 2] 0 (sD) (tk) Om nG (VG):=fun(v2,v3) _ hm Q a c b=>Av co Aa Ac (l8 v2 v3) (AH [0,3]) nl c hm b fun r g=>⟨fun d=>fun e=>⟨id,id⟩,id⟩
theorem aN(b:ByteArray):KC Tryz.prog 112 [vS b] (eA b) Om:=As Tryz.func112 Tryz.ntmps112 Aa [.tmp 2] fun C co y hm c a=>Ak co Aa Ac 2 (lE b) (AH [0]) nl nH hm a fun r g=>fun d=>⟨id,fun _ hm a=>sq (Ak co Aa Ac 1 (jN b) (AH [0,3]) nl nH hm a fun r g=>fun _ hm a=>bk 0 (lo (AF (ZAm co) nH hm a (fun _ hm=>Ao co Aa Ac (i6) hm a fun r g=>id))))⟩
abbrev ZYf:Bool→AV:=fun y=>vB y
def iV(a:ByteArray):PT 0 (Bool):=cl (aO a) fun b=>AC b (xG a) fun c=>lr ZYf nG (b&&(!c))
def eF(a:ByteArray):Option (Bool):=(iV a).m
theorem Wx(a:ByteArray):KC Tryz.prog 113 [vS a] (eF a) ZYf:=As Tryz.func113 Tryz.ntmps113 Aa [.tmp 2] fun C co y hm b c=>Ao co Aa Ac (iV a) hm c fun r g=>fun d=>fun e=>id
abbrev RU:Bool→AV:=fun y=>vB y
def rh(a:List Spn)(b:Int):Nat→St:=fun c=>Ab [(0,vL CC a),(1,vI b),(5,vN c)] []
def qx:Unit→Nat×St:=fun _=>(0,Ab [] [])
def m8(a:List Spn)(c:Int)(b:Nat):PT 0 (Lv (Nat) (Unit) (Bool)):=vz (Ah a)<|br (decide ((b:Int)<(a.length:Int))) (ix a b fun d=>AS (decide (d.lo≤c)) a (b:Int) fun e=>br (decide (d.lo≤c)&&decide (c≤e.hi)) (Au RU nG true) (vs (wa b 1)<|ln (rh a c) (b+1))) (Aj (qx) ())
def US(a:List Spn)(b:Int):Nat→Option (Lv (Nat) (Unit) (Bool)):=fun c=>(m8 a b c).m
def jt:PT 0 (Bool):=lr RU nG false
def mL(a:List Spn)(b:Int):PT 0 (Bool):=lc (Ab [(0,vL CC a),(1,vI b),(5,vI 0)] []) ((Am (US a b) Ai 0).bind (Sum.elim (fun _=>(jt).m) some))
def me(a:List Spn)(b:Int):PT 0 (Bool):=lc (Ab [(0,vL CC a),(1,vI b)] []) ((mL a b).m)
def eK(a:List Spn)(b:Int):Option (Bool):=(me a b).m
theorem ZA5{C:Cx}(co:CO C 0)(a:List Spn)(b:Int):KL Tryz.prog (Az tl) 28 C (pa [0,0,1,0,1] (Aw Tryz.f114)) [.tmp 4] 0 (rh a b) (qx) RU nG (US a b):=fun f _ hm Q c e d=>Av co Aa Ac (m8 a b f) (AH [0,1,5]) nl e hm d fun r g=>⟨fun h=>fun i=>⟨id,id⟩,id⟩
theorem wt(b:List Spn)(c:Int):KC Tryz.prog 114 [vL CC b,vI c] (eK b c) RU:=As Tryz.func114 Tryz.ntmps114 Aa [.tmp 4] fun C co y hm d a=>Ak co Aa Ac 1 (me b c) (AH [0,1]) nl nH hm a fun r g=>fun _ hm a=>sq (Ak co Aa Ac 1 (mL b c) (AH [0,1,5]) nl nH hm a fun r g=>fun _ hm a=>bk 0 (lo (AF (ZA5 co b c) nH hm a (fun _ hm=>Ao co Aa Ac (jt) hm a fun r g=>id))))
abbrev EL:Bool→AV:=fun y=>vB y
def mh(a:Fld):PT 0 (Bool):=wg<|br (!decide (a.card=(5:Int))) (wg<|wg<|wg<|lr EL nG ((decide ((1:Int)≤a.card)&&decide (a.card≤(4:Int)))&&decide (a.key=(0:Int)))) (wg<|br (decide (a.key=(1:Int))) (br (decide (a.key=(1:Int))) (lr EL nG true) (lr EL nG false)) (br (decide (a.key=(2:Int))) (br (decide (a.key=(2:Int))) (lr EL nG true) (lr EL nG false)) (br (decide (a.key=(3:Int))) (br (decide (a.key=(3:Int))) (lr EL nG true) (lr EL nG false)) (br (decide (a.key=(4:Int))) (br (decide (a.key=(4:Int))) (lr EL nG true) (lr EL nG false)) (br (decide (a.key=(5:Int))) (br (decide (a.key=(5:Int))) (lr EL nG true) (lr EL nG false)) (br (decide (a.key=(7:Int))) (lr EL nG true) (lr EL nG false)))))))
def fc(a:Fld):Option (Bool):=(mh a).m
theorem ZWO(a:Fld):KC Tryz.prog 115 [.agg ((An a).map .d)] (fc a) EL:=As Tryz.func115 Tryz.ntmps115 Aa [.tmp 2] fun C co y hm b c=>Ao co Aa Ac (mh a) hm c fun r g=>⟨id,⟨⟨id,id⟩,⟨⟨id,id⟩,⟨⟨id,id⟩,⟨⟨id,id⟩,⟨⟨id,id⟩,⟨id,id⟩⟩⟩⟩⟩⟩⟩
end Go.Proofs.YthgmbpciandpiaaGreat
