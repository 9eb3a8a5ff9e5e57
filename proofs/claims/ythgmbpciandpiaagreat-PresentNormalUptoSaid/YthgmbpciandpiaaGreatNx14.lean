import Derived.Test.YthgmbpciandpiaaGreatNx12
import Derived.Test.YthgmbpciandpiaaGreatNx13
import Derived.Test.YthgmbpciandpiaaGreatNx00
namespace Go.Proofs.YthgmbpciandpiaaGreat
set_option maxRecDepth 100000
set_option linter.all false
open Go Go.Eng
def ZmU:Go.Shelf.Ren:=⟨fun|190=>152|125=>182|258=>181|128=>211|129=>212|302=>202|303=>203|304=>204|305=>205|306=>206|307=>207|308=>208|309=>209|310=>210|333=>224|329=>225|330=>226|334=>227|335=>228|336=>192|344=>232|n=>n,fun|31=>59|9=>9|3=>3|46=>223|0=>0|51=>244|53=>27|4=>4|183=>236|182=>235|131=>241|5=>5|218=>251|222=>255|228=>259|229=>260|n=>n,fun|n=>n⟩
theorem ZKB:Go.Proofs.Lays.n190 Tryz.prog ZmU:={
 mixed:=by kernel_rfl,
 f125:=Tryz.func182.trans (congrArg some (by kernel_rfl)),
 f128:=Tryz.func211.trans (congrArg some (by kernel_rfl)),
 f129:=Tryz.func212.trans (congrArg some (by kernel_rfl)),
 f190:=Tryz.func152.trans (congrArg some (by kernel_rfl)),
 f258:=Tryz.func181.trans (congrArg some (by kernel_rfl)),
 f302:=Tryz.func202.trans (congrArg some (by kernel_rfl)),
 f303:=Tryz.func203.trans (congrArg some (by kernel_rfl)),
 f304:=Tryz.func204.trans (congrArg some (by kernel_rfl)),
 f305:=Tryz.func205.trans (congrArg some (by kernel_rfl)),
 f306:=Tryz.func206.trans (congrArg some (by kernel_rfl)),
 f307:=Tryz.func207.trans (congrArg some (by kernel_rfl)),
 f308:=Tryz.func208.trans (congrArg some (by kernel_rfl)),
 f309:=Tryz.func209.trans (congrArg some (by kernel_rfl)),
 f310:=Tryz.func210.trans (congrArg some (by kernel_rfl)),
 f329:=Tryz.func225.trans (congrArg some (by kernel_rfl)),
 f330:=Tryz.func226.trans (congrArg some (by kernel_rfl)),
 f333:=Tryz.func224.trans (congrArg some (by kernel_rfl)),
 f334:=Tryz.func227.trans (congrArg some (by kernel_rfl)),
 f335:=Tryz.func228.trans (congrArg some (by kernel_rfl)),
 f336:=Tryz.func192.trans (congrArg some (by kernel_rfl)),
 f344:=Tryz.func232.trans (congrArg some (by kernel_rfl)),
 t0:=Tryz.underlying0,
 a0:=Tryz.isAgg0,
 z0:=Tryz.sizeOf0,
 v0:=Tryz.zeroValue0,
 t3:=Tryz.underlying3,
 a3:=Tryz.isAgg3,
 z3:=Tryz.sizeOf3,
 v3:=Tryz.zeroValue3,
 t4:=Tryz.underlying4,
 a4:=Tryz.isAgg4,
 z4:=Tryz.sizeOf4,
 v4:=Tryz.zeroValue4,
 t5:=Tryz.underlying5,
 a5:=Tryz.isAgg5,
 z5:=Tryz.sizeOf5,
 v5:=Tryz.zeroValue5,
 t9:=Tryz.underlying9,
 a9:=Tryz.isAgg9,
 z9:=Tryz.sizeOf9,
 v9:=Tryz.zeroValue9,
 t31:=Tryz.underlying59,
 a31:=Tryz.isAgg59,
 z31:=Tryz.sizeOf59,
 v31:=Tryz.zeroValue59,
 t46:=Tryz.underlying223,
 a46:=Tryz.isAgg223,
 z46:=Tryz.sizeOf223,
 v46:=Tryz.zeroValue223,
 t51:=Tryz.underlying244,
 a51:=Tryz.isAgg244,
 z51:=Tryz.sizeOf244,
 v51:=Tryz.zeroValue244,
 t53:=Tryz.underlying27,
 a53:=Tryz.isAgg27,
 z53:=Tryz.sizeOf27,
 v53:=Tryz.zeroValue27,
 t131:=Tryz.underlying241,
 a131:=Tryz.isAgg241,
 z131:=Tryz.sizeOf241,
 v131:=Tryz.zeroValue241,
 t182:=Tryz.underlying235,
 a182:=Tryz.isAgg235,
 z182:=Tryz.sizeOf235,
 v182:=Tryz.zeroValue235,
 t183:=Tryz.underlying236,
 a183:=Tryz.isAgg236,
 z183:=Tryz.sizeOf236,
 v183:=Tryz.zeroValue236,
 t218:=Tryz.underlying251,
 a218:=Tryz.isAgg251,
 z218:=Tryz.sizeOf251,
 v218:=Tryz.zeroValue251,
 t222:=Tryz.underlying255,
 a222:=Tryz.isAgg255,
 z222:=Tryz.sizeOf255,
 v222:=Tryz.zeroValue255,
 t228:=Tryz.underlying259,
 a228:=Tryz.isAgg259,
 z228:=Tryz.sizeOf259,
 v228:=Tryz.zeroValue259,
 t229:=Tryz.underlying260,
 a229:=Tryz.isAgg260,
 z229:=Tryz.sizeOf260,
 v229:=Tryz.zeroValue260 }
abbrev ZY6:List ByteArray→AV:=fun y=>.tup []
@[reducible] def ZZS:List ByteArray→List Blk:=fun y=>[⟨0,true,9,1,Af AW y⟩]
def ZgV(a:List ByteArray):Option (List ByteArray):=if a.length<4611686018427387904 then some (Qn a)else none
theorem ZV9(b:List ByteArray):KO Tryz.prog 152 1 [.ref (0,0) 0 0 b.length] [⟨0,true,9,1,Af AW b⟩] (fun _ _ _ _=>True) (ZgV b) ZY6 (ZZS):=⟨fun l H ks h θ c a f e _ y hy=>by
 obtain⟨d,hy⟩:=BU hy
 rw[ZDn]at hy
 cases hy
 match ks,c with
 |[g],_=>exact ZqT ZKB ⟨_,Aw Tryz.f152,Tryz.func152,by kernel_rfl,by kernel_rfl⟩ a.1 b ((e.1.2 rfl).trans (Mt (A6 _ _))) d ⟨rfl,(congrArg (updH H g) (Mt (A6 _ _))).symm⟩⟩
abbrev Q1:Int→AV:=fun y=>vI y
def yd(a:List Nt)(b:Int):Nat→St:=fun c=>Ab [(0,vL BS a),(1,vI b),(5,vN c)] []
def yP(a:List Nt):Unit→Nat×St:=fun _=>(0,Ab [(0,vL BS a)] [])
def cJ(c:List Nt)(e:Int)(d:Nat):PT 0 (Lv (Nat) (Unit) (Int)):=vz (Ah c)<|br (decide ((d:Int)<(c.length:Int))&&decide ((d:Int)≤e)) (ix c d fun a=>wg<|ix c d fun b=>vz (A9 b.name.size)<|wg<|vy (!(decide ((300:Int)<(b.name.size:Int)))) (A9 a.val.text.size)<|wg<|vy (!(decide ((300:Int)<(b.name.size:Int))||decide ((300:Int)<(a.val.text.size:Int)))) (Ah a.val.list)<|wg<|vy (!(decide ((300:Int)<(b.name.size:Int))||decide ((300:Int)<(a.val.text.size:Int)))) (Ah a.val.pairs)<|vg (!(decide ((300:Int)<(b.name.size:Int))||decide ((300:Int)<(a.val.text.size:Int)))) (wa a.val.list.length a.val.pairs.length)<|wg<|vy (!(decide ((300:Int)<(b.name.size:Int))||decide ((300:Int)<(a.val.text.size:Int)))) (Ah a.val.slots)<|vg (!(decide ((300:Int)<(b.name.size:Int))||decide ((300:Int)<(a.val.text.size:Int)))) (wa (a.val.list.length+a.val.pairs.length) a.val.slots.length)<|wg<|vy (!(decide ((300:Int)<(b.name.size:Int))||decide ((300:Int)<(a.val.text.size:Int)))) (Ah a.val.raws)<|vg (!(decide ((300:Int)<(b.name.size:Int))||decide ((300:Int)<(a.val.text.size:Int)))) (wa ((a.val.list.length+a.val.pairs.length)+a.val.slots.length) a.val.raws.length)<|br ((decide ((300:Int)<(b.name.size:Int))||decide ((300:Int)<(a.val.text.size:Int)))||decide ((0:Int)<((((a.val.list.length+a.val.pairs.length)+a.val.slots.length)+a.val.raws.length:Nat):Int))) (vs (wi (e+10))<|Ar Q1 nG (e+10)) (vs (wa d 1)<|ln (yd c e) (d+1))) (Ai (yP c) ())
def Se(a:List Nt)(b:Int):Nat→Option (Lv (Nat) (Unit) (Int)):=fun c=>(cJ a b c).m
def aX(a:List Nt):PT 0 (Int):=vz (Ah a)<|lr Q1 nG (a.length:Int)
def bf(a:List Nt)(b:Int):PT 0 (Int):=lc (Ab [(0,vL BS a),(1,vI b),(5,vI 0)] []) ((An (Se a b) Aj 0).bind (Sum.elim (fun _=>(aX a).m) some))
def bb(a:List Nt)(b:Int):PT 0 (Int):=lc (Ab [(0,vL BS a),(1,vI b)] []) ((bf a b).m)
def gn(a:List Nt)(b:Int):Option (Int):=(bb a b).m
theorem ZJE{C:Cx}(co:CO C 0)(a:List Nt)(b:Int):KL Tryz.prog (AB tl) 58 C (pa [0,0,1,0,1] (Aw Tryz.f37)) [.tmp 4] 0 (yd a b) (yP a) Q1 nG (Se a b):=fun f _ hm Q c e d=>Av co Aa Ac (cJ a b f) (AH [0,1,5]) (AH [0]) e hm d fun r g=>⟨fun h=>fun i=>⟨id,id⟩,id⟩
theorem L3(b:List Nt)(c:Int):KC Tryz.prog 37 [vL BS b,vI c] (gn b c) Q1:=Au Tryz.func37 Tryz.ntmps37 Aa [.tmp 4] fun C co y hm d a=>Ak co Aa Ac 1 (bb b c) (AH [0,1]) nl nH hm a fun r g=>fun _ hm a=>sq (Ak co Aa Ac 1 (bf b c) (AH [0,1,5]) nl nH hm a fun r g=>fun _ hm a=>bk 0 (lo (AF (ZJE co b c) nH hm a (fun _ hm=>Ap co Aa Ac (aX b) hm a fun r g=>id))))
abbrev Q3:Int→AV:=fun y=>vI y
def xX(a:List ByteArray)(b:Int):Nat→St:=fun c=>Ab [(0,vL AW a),(1,vI b),(5,vN c)] []
def yH(a:List ByteArray):Unit→Nat×St:=fun _=>(0,Ab [(0,vL AW a)] [])
def eg(a:List ByteArray)(c:Int)(b:Nat):PT 0 (Lv (Nat) (Unit) (Int)):=vz (Ah a)<|br (decide ((b:Int)<(a.length:Int))&&decide ((b:Int)≤c)) (ix a b fun d=>vz (A9 d.size)<|br (decide ((300:Int)<(d.size:Int))) (vs (wi (c+10))<|Ar Q3 nG (c+10)) (vs (wa b 1)<|ln (xX a c) (b+1))) (Ai (yH a) ())
def Su(a:List ByteArray)(b:Int):Nat→Option (Lv (Nat) (Unit) (Int)):=fun c=>(eg a b c).m
def ZU(a:List ByteArray):PT 0 (Int):=vz (Ah a)<|lr Q3 nG (a.length:Int)
def ZZ(a:List ByteArray)(b:Int):PT 0 (Int):=lc (Ab [(0,vL AW a),(1,vI b),(5,vI 0)] []) ((An (Su a b) Aj 0).bind (Sum.elim (fun _=>(ZU a).m) some))
def dA(a:List ByteArray)(b:Int):PT 0 (Int):=lc (Ab [(0,vL AW a),(1,vI b)] []) ((ZZ a b).m)
def gH(a:List ByteArray)(b:Int):Option (Int):=(dA a b).m
theorem ZMx{C:Cx}(co:CO C 0)(a:List ByteArray)(b:Int):KL Tryz.prog (AB tl) 27 C (pa [0,0,1,0,1] (Aw Tryz.f38)) [.tmp 4] 0 (xX a b) (yH a) Q3 nG (Su a b):=fun f _ hm Q c e d=>Av co Aa Ac (eg a b f) (AH [0,1,5]) (AH [0]) e hm d fun r g=>⟨fun h=>⟨id,id⟩,id⟩
theorem Ki(b:List ByteArray)(c:Int):KC Tryz.prog 38 [vL AW b,vI c] (gH b c) Q3:=Au Tryz.func38 Tryz.ntmps38 Aa [.tmp 4] fun C co y hm d a=>Ak co Aa Ac 1 (dA b c) (AH [0,1]) nl nH hm a fun r g=>fun _ hm a=>sq (Ak co Aa Ac 1 (ZZ b c) (AH [0,1,5]) nl nH hm a fun r g=>fun _ hm a=>bk 0 (lo (AF (ZMx co b c) nH hm a (fun _ hm=>Ap co Aa Ac (ZU b) hm a fun r g=>id))))
abbrev Cd:List (Ad×Bool):=[((1,1),false)]
abbrev BX(a:Scm):Ad×Blk:=kk 1 26 3 (cD (Al a))
abbrev Ax(a:Msg):Ad×Blk:=kk 5 61 5 (cD (AE a))
abbrev XV(a:Enm):Ad×Blk:=kk 9 92 5 (cD (Bw a))
abbrev qM(a:Svc):Ad×Blk:=kk 12 97 3 (cD (CV a))
abbrev Ho:Bool→AV:=fun y=>vB y
def ZSj(a:Scm):Int×Nat→St:=fun(b,v2)=>Ab [pp 1,(3,vI b),(4,vN v2)] [(BX a)]
def zA(b:Scm):Int→Nat×St:=fun a=>(0,Ab [pp 1,(3,vI a)] [(BX b)])
def cB(b:Scm)(v2:Nat)(a:Msg):Int×Nat→St:=fun(c,d)=>Ab [pp 1,(3,vI c),(4,vN v2),pp 5,(6,vN d)] [(BX b),(Ax a)]
def yg(b:Scm)(v2:Nat):Int→Nat×St:=fun a=>(2,Ab [pp 1,(3,vI a),(4,vN v2)] [(BX b)])
def aJ(g:Scm)(v2:Nat)(f:Msg)(a:Int)(e:Nat):PT 0 (Lv (Int×Nat) (Int) (Bool)):=wg<|vz (Ah f.fields)<|br (decide ((e:Int)<(f.fields.length:Int))&&decide ((0:Int)≤a)) (wg<|ix f.fields e fun d=>wg<|vs (wi (a-1))<|wg<|cl (L3 d.notes a) fun b=>vs (wi ((a-1)-b))<|wg<|wg<|wg<|cl (Ki ([d.name,d.type.name,d.union]:List ByteArray) a) fun c=>vs (wi (((a-1)-b)-c))<|vs (wi ((((a-1)-b)-c)+3))<|wg<|vz (A9 d.dflt.text.size)<|br (decide ((300:Int)<(d.dflt.text.size:Int))) (vs (wa e 1)<|ln (cB g v2 f) ((-1),e+1)) (vs (wa e 1)<|ln (cB g v2 f) (((((a-1)-b)-c)+3),e+1))) (Ai (yg g v2) a)
def RW(b:Scm)(v2:Nat)(a:Msg):Int×Nat→Option (Lv (Int×Nat) (Int) (Bool)):=fun(c,d)=>(aJ b v2 a c d).m
def dP(b:Scm)(v2:Nat)(a:Int):PT 0 (Lv (Int×Nat) (Int) (Bool)):=vs (wa v2 1)<|ln (ZSj b) (a,v2+1)
def bB(d:Scm)(b:Int)(v2:Nat):PT 0 (Lv (Int×Nat) (Int) (Bool)):=wg<|ix d.messages v2 fun a=>wg<|wg<|cl (L3 a.notes b) fun c=>vs (wi (b-c))<|wg<|vz (Ah a.reserved)<|vs (wi ((b-c)-(a.reserved.length:Int)))<|wg<|cl (Ki a.gone b) fun e=>vs (wi (((b-c)-(a.reserved.length:Int))-e))<|wg<|cl (Ki ([a.name]:List ByteArray) b) fun g=>vs (wi ((((b-c)-(a.reserved.length:Int))-e)-g))<|lc (Ab [pp 1,(3,vI ((((b-c)-(a.reserved.length:Int))-e)-g)),(4,vN v2),pp 5,(6,vI 0)] [(BX d),(Ax a)]) ((An (RW d v2 a) Aj (((((b-c)-(a.reserved.length:Int))-e)-g),0)).bind (Sum.elim (fun f=>(dP d v2 f).m) (fun z=>some (.rt z))))
def cZ(a:Scm)(b:Int)(v2:Nat):PT 0 (Lv (Int×Nat) (Int) (Bool)):=wg<|vz (Ah a.messages)<|br (decide ((v2:Int)<(a.messages.length:Int))&&decide ((0:Int)≤b)) (lc (Ab [pp 1,(3,vI b),(4,vN v2)] [(BX a)]) ((bB a b v2).m)) (Ai (zA a) b)
def SH(a:Scm):Int×Nat→Option (Lv (Int×Nat) (Int) (Bool)):=fun(b,v2)=>(cZ a b v2).m
def xl(c:Scm):Int×Nat→St:=fun(a,b)=>Ab [pp 1,(3,vI a),(8,vN b)] [(BX c)]
def xa(b:Scm):Int→Nat×St:=fun a=>(4,Ab [pp 1,(3,vI a)] [(BX b)])
def yw(e:Scm)(b:Nat)(a:Enm):Int×Nat→St:=fun(c,d)=>Ab [pp 1,(3,vI c),(8,vN b),pp 9,(10,vN d)] [(BX e),(XV a)]
def zy(c:Scm)(a:Nat):Int→Nat×St:=fun b=>(6,Ab [pp 1,(3,vI b),(8,vN a)] [(BX c)])
def ez(i:Scm)(e:Nat)(b:Enm)(a:Int)(c:Nat):PT 0 (Lv (Int×Nat) (Int) (Bool)):=wg<|vz (Ah b.items)<|br (decide ((c:Int)<(b.items.length:Int))&&decide ((0:Int)≤a)) (wg<|ix b.items c fun g=>cl (L3 g.notes a) fun d=>vs (wi (a-d))<|wg<|ix b.items c fun h=>cl (Ki ([h.name]:List ByteArray) a) fun f=>vs (wi ((a-d)-f))<|vs (wa c 1)<|ln (yw i e b) (((a-d)-f),c+1)) (Ai (zy i e) a)
def XJ(e:Scm)(b:Nat)(a:Enm):Int×Nat→Option (Lv (Int×Nat) (Int) (Bool)):=fun(c,d)=>(ez e b a c d).m
def bW(c:Scm)(a:Nat)(b:Int):PT 0 (Lv (Int×Nat) (Int) (Bool)):=vs (wa a 1)<|ln (xl c) (b,a+1)
def bQ(f:Scm)(b:Int)(d:Nat):PT 0 (Lv (Int×Nat) (Int) (Bool)):=wg<|ix f.enums d fun a=>wg<|wg<|cl (L3 a.notes b) fun c=>vs (wi (b-c))<|wg<|vz (Ah a.reserved)<|vs (wi ((b-c)-(a.reserved.length:Int)))<|wg<|cl (Ki ([a.name]:List ByteArray) b) fun e=>vs (wi (((b-c)-(a.reserved.length:Int))-e))<|lc (Ab [pp 1,(3,vI (((b-c)-(a.reserved.length:Int))-e)),(8,vN d),pp 9,(10,vI 0)] [(BX f),(XV a)]) ((An (XJ f d a) Aj ((((b-c)-(a.reserved.length:Int))-e),0)).bind (Sum.elim (fun g=>(bW f d g).m) (fun z=>some (.rt z))))
def dO(c:Scm)(a:Int)(b:Nat):PT 0 (Lv (Int×Nat) (Int) (Bool)):=wg<|vz (Ah c.enums)<|br (decide ((b:Int)<(c.enums.length:Int))&&decide ((0:Int)≤a)) (lc (Ab [pp 1,(3,vI a),(8,vN b)] [(BX c)]) ((bQ c a b).m)) (Ai (xa c) a)
def Tb(c:Scm):Int×Nat→Option (Lv (Int×Nat) (Int) (Bool)):=fun(a,b)=>(dO c a b).m
def zJ(c:Scm):Int×Nat→St:=fun(a,b)=>Ab [pp 1,(3,vI a),(11,vN b)] [(BX c)]
def yA:Int→Nat×St:=fun a=>(8,Ab [(3,vI a)] [])
def wY(e:Scm)(b:Nat)(a:Svc):Int×Nat→St:=fun(c,d)=>Ab [pp 1,(3,vI c),(11,vN b),pp 12,(13,vN d)] [(BX e),(qM a)]
def yp(c:Scm)(a:Nat):Int→Nat×St:=fun b=>(10,Ab [pp 1,(3,vI b),(11,vN a)] [(BX c)])
def a2(k:Scm)(f:Nat)(b:Svc)(a:Int)(c:Nat):PT 0 (Lv (Int×Nat) (Int) (Bool)):=wg<|vz (Ah b.methods)<|br (decide ((c:Int)<(b.methods.length:Int))&&decide ((0:Int)≤a)) (wg<|ix b.methods c fun g=>cl (L3 g.notes a) fun d=>vs (wi (a-d))<|wg<|ix b.methods c fun h=>wg<|ix b.methods c fun i=>wg<|ix b.methods c fun j=>cl (Ki ([h.name,i.inn,j.out]:List ByteArray) a) fun e=>vs (wi ((a-d)-e))<|vs (wi (((a-d)-e)+2))<|vs (wa c 1)<|ln (wY k f b) ((((a-d)-e)+2),c+1)) (Ai (yp k f) a)
def Si(e:Scm)(b:Nat)(a:Svc):Int×Nat→Option (Lv (Int×Nat) (Int) (Bool)):=fun(c,d)=>(a2 e b a c d).m
def lw(c:Scm)(a:Nat)(b:Int):PT 0 (Lv (Int×Nat) (Int) (Bool)):=vs (wa a 1)<|ln (zJ c) (b,a+1)
def pM(f:Scm)(a:Int)(c:Nat):PT 0 (Lv (Int×Nat) (Int) (Bool)):=wg<|ix f.services c fun b=>wg<|wg<|cl (L3 b.notes a) fun d=>vs (wi (a-d))<|wg<|cl (Ki ([b.name]:List ByteArray) a) fun e=>vs (wi ((a-d)-e))<|lc (Ab [pp 1,(3,vI ((a-d)-e)),(11,vN c),pp 12,(13,vI 0)] [(BX f),(qM b)]) ((An (Si f c b) Aj (((a-d)-e),0)).bind (Sum.elim (fun g=>(lw f c g).m) (fun z=>some (.rt z))))
def nJ(c:Scm)(a:Int)(b:Nat):PT 0 (Lv (Int×Nat) (Int) (Bool)):=wg<|vz (Ah c.services)<|br (decide ((b:Int)<(c.services.length:Int))&&decide ((0:Int)≤a)) (lc (Ab [pp 1,(3,vI a),(11,vN b)] [(BX c)]) ((pM c a b).m)) (Ai (yA) a)
def XH(c:Scm):Int×Nat→Option (Lv (Int×Nat) (Int) (Bool)):=fun(a,b)=>(nJ c a b).m
def oc(a:Int):PT 0 (Bool):=lr Ho nG (decide ((0:Int)≤a))
def kT(c:Scm)(a:Int):PT 0 (Bool):=lc (Ab [pp 1,(3,vI a),(11,vI 0)] [(BX c)]) ((An (XH c) Aj (a,0)).bind (Sum.elim (fun b=>(oc b).m) some))
def n4(b:Scm)(a:Int):PT 0 (Bool):=lc (Ab [pp 1,(3,vI a),(8,vI 0)] [(BX b)]) ((An (Tb b) Aj (a,0)).bind (Sum.elim (fun c=>(kT b c).m) some))
def mJ(a:Scm):PT 0 (Bool):=lc (Ab [pp 1,(3,vI 400),(4,vI 0)] [(BX a)]) ((An (SH a) Aj (400,0)).bind (Sum.elim (fun b=>(n4 a b).m) some))
def lG(a:Scm):PT 0 (Bool):=wg<|vz (Ah a.messages)<|wg<|vy (!(decide ((150:Int)<(a.messages.length:Int)))) (Ah a.enums)<|wg<|vy (!(decide ((150:Int)<(a.messages.length:Int))||decide ((150:Int)<(a.enums.length:Int)))) (Ah a.services)<|wg<|vy (!((decide ((150:Int)<(a.messages.length:Int))||decide ((150:Int)<(a.enums.length:Int)))||decide ((150:Int)<(a.services.length:Int)))) (Ah a.messages)<|wg<|vy (!((decide ((150:Int)<(a.messages.length:Int))||decide ((150:Int)<(a.enums.length:Int)))||decide ((150:Int)<(a.services.length:Int)))) (Ah a.enums)<|vg (!((decide ((150:Int)<(a.messages.length:Int))||decide ((150:Int)<(a.enums.length:Int)))||decide ((150:Int)<(a.services.length:Int)))) (wa a.messages.length a.enums.length)<|wg<|vy (!((decide ((150:Int)<(a.messages.length:Int))||decide ((150:Int)<(a.enums.length:Int)))||decide ((150:Int)<(a.services.length:Int)))) (Ah a.services)<|vg (!((decide ((150:Int)<(a.messages.length:Int))||decide ((150:Int)<(a.enums.length:Int)))||decide ((150:Int)<(a.services.length:Int)))) (wa (a.messages.length+a.enums.length) a.services.length)<|br (((decide ((150:Int)<(a.messages.length:Int))||decide ((150:Int)<(a.enums.length:Int)))||decide ((150:Int)<(a.services.length:Int)))||decide ((150:Int)<(((a.messages.length+a.enums.length)+a.services.length:Nat):Int))) (lr Ho nG false) (lc (Ab [pp 1,(3,vI 400)] [(BX a)]) ((mJ a).m))
def hH(a:Scm):Option (Bool):=(lG a).m
theorem ZNj{C:Cx}(co:CO C 0)(a:Scm)(v2:Nat)(b:Msg):KL Tryz.prog (AB tl) 258 C (pa [0,0,1,1,1,0,0,1,0,0,1,0,1,1,1] (Aw Tryz.f17)) [.tmp 2] 0 (cB a v2 b) (yg a v2) Ho nG (RW a v2 b):=fun(f,h) _ hm Q c e d=>Av co Aa Ac (aJ a v2 b f h) (Ae [1,3,4,5,6] [((1,1),false),((1,5),false)]) (Ae [1,3,4] Cd) e hm d fun r g=>⟨fun k=>fun i=>fun j=>⟨id,id⟩,id⟩
theorem ZHJ{C:Cx}(co:CO C 0)(a:Scm):KL Tryz.prog (AB tl) 258 C (pa [0,0,1,0,1,1,1] (Aw Tryz.f17)) [.tmp 2] 0 (ZSj a) (zA a) Ho nG (SH a):=fun(f,v2) _ hm Q e c b=>Ak co Aa Ac 1 (cZ a f v2) (Ae [1,3,4] Cd) (Ae [1,3] Cd) c hm b fun r g=>⟨fun _ hm b=>sq (bk 1 (Ak co Aa Ac 3 (bB a f v2) (Ae [1,3,4,5,6] [((1,1),false),((1,5),false)]) nl c hm b fun r g=>fun h=>fun i=>fun j=>fun k=>fun _ hm b=>bk 2 (lo (Ga (ZNj co a v2 h) c hm b (fun d hm=>Av co Aa Ac (dP a v2 d) (Ae [1,3,4] Cd) nl c hm b fun r g=>id))))),id⟩
theorem ZJD{C:Cx}(co:CO C 0)(c:Scm)(a:Nat)(b:Enm):KL Tryz.prog (AB tl) 258 C (pa [0,0,1,1,1,0,0,1,0,0,1,0,1,1,1,1] (Aw Tryz.f17)) [.tmp 2] 0 (yw c a b) (zy c a) Ho nG (XJ c a b):=fun(d,e) _ hm Q f k j=>Av co Aa Ac (ez c a b d e) (Ae [1,3,8,9,10] [((1,1),false),((1,9),false)]) (Ae [1,3,8] Cd) k hm j fun r g=>⟨fun h=>fun l=>fun i=>fun m=>id,id⟩
theorem ZLj{C:Cx}(co:CO C 0)(b:Scm):KL Tryz.prog (AB tl) 258 C (pa [0,0,1,0,1,1,1,1] (Aw Tryz.f17)) [.tmp 2] 0 (xl b) (xa b) Ho nG (Tb b):=fun(d,a) _ hm Q i e c=>Ak co Aa Ac 1 (dO b d a) (Ae [1,3,8] Cd) (Ae [1,3] Cd) e hm c fun r g=>⟨fun _ hm c=>sq (bk 5 (Ak co Aa Ac 3 (bQ b d a) (Ae [1,3,8,9,10] [((1,1),false),((1,9),false)]) nl e hm c fun r g=>fun f=>fun j=>fun k=>fun _ hm c=>bk 6 (lo (Ga (ZJD co b a f) e hm c (fun h hm=>Av co Aa Ac (bW b a h) (Ae [1,3,8] Cd) nl e hm c fun r g=>id))))),id⟩
theorem ZIA{C:Cx}(co:CO C 0)(c:Scm)(a:Nat)(b:Svc):KL Tryz.prog (AB tl) 258 C (pa [0,0,1,1,1,0,0,1,0,0,1,0,1,1,1,1,1] (Aw Tryz.f17)) [.tmp 2] 0 (wY c a b) (yp c a) Ho nG (Si c a b):=fun(d,e) _ hm Q f m l=>Av co Aa Ac (a2 c a b d e) (Ae [1,3,11,12,13] [((1,1),false),((1,12),false)]) (Ae [1,3,11] Cd) m hm l fun r g=>⟨fun h=>fun n=>fun i=>fun j=>fun k=>fun o=>id,id⟩
theorem ZIO{C:Cx}(co:CO C 0)(c:Scm):KL Tryz.prog (AB tl) 258 C (pa [0,0,1,0,1,1,1,1,1] (Aw Tryz.f17)) [.tmp 2] 0 (zJ c) (yA) Ho nG (XH c):=fun(d,a) _ hm Q i e b=>Ak co Aa Ac 1 (nJ c d a) (Ae [1,3,11] Cd) (AH [3]) e hm b fun r g=>⟨fun _ hm b=>sq (bk 9 (Ak co Aa Ac 3 (pM c d a) (Ae [1,3,11,12,13] [((1,1),false),((1,12),false)]) nl e hm b fun r g=>fun f=>fun j=>fun k=>fun _ hm b=>bk 10 (lo (Ga (ZIA co c a f) e hm b (fun h hm=>Av co Aa Ac (lw c a h) (Ae [1,3,11] Cd) nl e hm b fun r g=>id))))),id⟩
theorem ZZw(b:Scm):KC Tryz.prog 17 [.agg ((Al b).map .d)] (hH b) Ho:=Au Tryz.func17 Tryz.ntmps17 Aa [.tmp 2] fun C co y hm f a=>Ak co Aa Ac 3 (lG b) (Ae [1,3] Cd) nl nH hm a fun r g=>⟨id,fun _ hm a=>sq (Ak co Aa Ac 1 (mJ b) (Ae [1,3,4] Cd) nl nH hm a fun r g=>fun _ hm a=>bk 0 (lo (AF (ZHJ co b) nH hm a (fun c hm=>sq (Ak co Aa Ac 1 (n4 b c) (Ae [1,3,8] Cd) nl nH hm a fun r g=>fun _ hm a=>bk 4 (lo (AF (ZLj co b) nH hm a (fun d hm=>sq (Ak co Aa Ac 1 (kT b d) (Ae [1,3,11] Cd) nl nH hm a fun r g=>fun _ hm a=>bk 8 (lo (AF (ZIO co b) nH hm a (fun e hm=>Ap co Aa Ac (oc e) hm a fun r g=>id))))))))))))⟩
abbrev JB:List (Ad×Bool):=[((1,2),false),((1,5),true)]
abbrev EW:List (Ad×Bool):=[((1,2),false)]
abbrev Hi(a:Scm):Ad×Blk:=kk 2 26 3 (cD (Al a))
abbrev NN:List ByteArray→AV:=fun y=>vL AW y
def ZSy(b:Scm)(c:Int):List ByteArray×Nat→St:=fun(a,v2)=>Ab [(1,vI c),pp 2,(5,.ref (1,5) 0 0 a.length),(6,vN v2)] [(Hi b),kk 5 9 1 (Af AW a)]
def yl(b:Scm)(c:Int):List ByteArray→Nat×St:=fun a=>(0,Ab [(1,vI c),pp 2,(5,.ref (1,5) 0 0 a.length)] [(Hi b),kk 5 9 1 (Af AW a)])
def aM(a:Scm)(c:Int)(b:List ByteArray)(v2:Nat):PT 0 (Lv (List ByteArray×Nat) (List ByteArray) (List ByteArray)):=wg<|vy (decide (c=(1:Int))) (Ah a.messages)<|br (decide (c=(1:Int))&&decide ((v2:Int)<(a.messages.length:Int))) (wg<|ix a.messages v2 fun d=>vw .sep<|ap b (d.name:ByteArray)<|vs (wa v2 1)<|vz (fl (b++[d.name]))<|ln (ZSy a c) (b++[d.name],v2+1)) (vz (fl b)<|Ai (yl a c) b)
def SB(a:Scm)(b:Int):List ByteArray×Nat→Option (Lv (List ByteArray×Nat) (List ByteArray) (List ByteArray)):=fun(c,v2)=>(aM a b c v2).m
def x4(b:Scm)(c:Int):List ByteArray×Nat→St:=fun(a,d)=>Ab [(1,vI c),pp 2,(5,.ref (1,5) 0 0 a.length),(7,vN d)] [(Hi b),kk 5 9 1 (Af AW a)]
def y4(b:Scm)(c:Int):List ByteArray→Nat×St:=fun a=>(2,Ab [(1,vI c),pp 2,(5,.ref (1,5) 0 0 a.length)] [(Hi b),kk 5 9 1 (Af AW a)])
def ct(a:Scm)(c:Int)(b:List ByteArray)(d:Nat):PT 0 (Lv (List ByteArray×Nat) (List ByteArray) (List ByteArray)):=wg<|vy (decide (c=(2:Int))) (Ah a.enums)<|br (decide (c=(2:Int))&&decide ((d:Int)<(a.enums.length:Int))) (wg<|ix a.enums d fun e=>vw .sep<|ap b (e.name:ByteArray)<|vs (wa d 1)<|vz (fl (b++[e.name]))<|ln (x4 a c) (b++[e.name],d+1)) (vz (fl b)<|Ai (y4 a c) b)
def RZ(a:Scm)(b:Int):List ByteArray×Nat→Option (Lv (List ByteArray×Nat) (List ByteArray) (List ByteArray)):=fun(c,d)=>(ct a b c d).m
def yR(c:Scm)(d:Int):List ByteArray×Nat→St:=fun(b,a)=>Ab [(1,vI d),pp 2,(5,.ref (1,5) 0 0 b.length),(8,vN a)] [(Hi c),kk 5 9 1 (Af AW b)]
def ZSN:List ByteArray→Nat×St:=fun a=>(4,Ab [(5,.ref (1,5) 0 0 a.length)] [kk 5 9 1 (Af AW a)])
def ay(d:Scm)(e:Int)(c:List ByteArray)(a:Nat):PT 0 (Lv (List ByteArray×Nat) (List ByteArray) (List ByteArray)):=wg<|vy (decide (e=(3:Int))) (Ah d.services)<|br (decide (e=(3:Int))&&decide ((a:Int)<(d.services.length:Int))) (wg<|ix d.services a fun b=>vw .sep<|ap c (b.name:ByteArray)<|vs (wa a 1)<|vz (fl (c++[b.name]))<|ln (yR d e) (c++[b.name],a+1)) (vz (fl c)<|Ai (ZSN) c)
def XK(b:Scm)(c:Int):List ByteArray×Nat→Option (Lv (List ByteArray×Nat) (List ByteArray) (List ByteArray)):=fun(d,a)=>(ay b c d a).m
def ey(a:List ByteArray):PT 0 (List ByteArray):=vz (fr a)<|lr NN nG a
def Z8(c:Scm)(d:Int)(a:List ByteArray):PT 0 (List ByteArray):=vz (fl a)<|lc (Ab [(1,vI d),pp 2,(5,.ref (1,5) 0 0 a.length),(8,vI 0)] [(Hi c),kk 5 9 1 (Af AW a)]) ((An (XK c d) Aj (a,0)).bind (Sum.elim (fun b=>(ey b).m) some))
def dv(b:Scm)(c:Int)(a:List ByteArray):PT 0 (List ByteArray):=vz (fl a)<|lc (Ab [(1,vI c),pp 2,(5,.ref (1,5) 0 0 a.length),(7,vI 0)] [(Hi b),kk 5 9 1 (Af AW a)]) ((An (RZ b c) Aj (a,0)).bind (Sum.elim (fun d=>(Z8 b c d).m) some))
def ZW(a:Scm)(b:Int):PT 0 (List ByteArray):=vw (.ads 5 5 9 1)<|vz (fl ([]:List ByteArray))<|lc (Ab [(1,vI b),pp 2,(5,.ref (1,5) 0 0 ([]:List ByteArray).length),(6,vI 0)] [(Hi a),kk 5 9 1 (Af AW ([]:List ByteArray))]) ((An (SB a b) Aj (([]:List ByteArray),0)).bind (Sum.elim (fun c=>(dv a b c).m) some))
def di(a:Scm)(b:Int):PT 0 (List ByteArray):=lc (Ab [(1,vI b),pp 2,(5,.e0),(6,vI 0)] [(Hi a)]) ((ZW a b).m)
def Z4(a:Scm)(b:Int):PT 0 (List ByteArray):=lc (Ab [(1,vI b),pp 2,(5,.e0)] [(Hi a)]) ((di a b).m)
def hZ(a:Scm)(b:Int):Option (List ByteArray):=(Z4 a b).m
theorem ZKF{C:Cx}(co:CO C 0)(a:Scm)(b:Int):KL Tryz.prog (AB tl) 70 C (pa [0,0,1,0,1,1] (Aw Tryz.f72)) [.tmp 4] 0 (ZSy a b) (yl a b) NN nG (SB a b):=fun(f,v2) _ hm Q c e d=>Av co Aa Ac (aM a b f v2) (Ae [1,2,5,6] JB) (Ae [1,2,5] JB) e hm d fun r g=>⟨fun h=>id,id⟩
theorem ZIp{C:Cx}(co:CO C 0)(a:Scm)(b:Int):KL Tryz.prog (AB tl) 70 C (pa [0,0,1,0,1,1,1] (Aw Tryz.f72)) [.tmp 4] 0 (x4 a b) (y4 a b) NN nG (RZ a b):=fun(f,h) _ hm Q c e d=>Av co Aa Ac (ct a b f h) (Ae [1,2,5,7] JB) (Ae [1,2,5] JB) e hm d fun r g=>⟨fun i=>id,id⟩
theorem ZJU{C:Cx}(co:CO C 0)(a:Scm)(b:Int):KL Tryz.prog (AB tl) 70 C (pa [0,0,1,0,1,1,1,1] (Aw Tryz.f72)) [.tmp 4] 0 (yR a b) (ZSN) NN nG (XK a b):=fun(i,c) _ hm Q d h f=>Av co Aa Ac (ay a b i c) (Ae [1,2,5,8] JB) (Ae [5] [((1,5),true)]) h hm f fun r g=>⟨fun e=>id,id⟩
theorem UD(b:Scm)(c:Int):KC Tryz.prog 72 [.agg ((Al b).map .d),vI c] (hZ b c) NN:=Au Tryz.func72 Tryz.ntmps72 Aa [.tmp 4] fun C co y hm e a=>Ak co Aa Ac 2 (Z4 b c) (Ae [1,2,5] EW) nl nH hm a fun r g=>fun _ hm a=>sq (Ak co Aa Ac 1 (di b c) (Ae [1,2,5,6] EW) nl nH hm a fun r g=>fun _ hm a=>bk 0 (F1 co (ZW b c) (Ae [1,2,5,6] JB) hm a fun r g=>fun _ hm a=>lo (AF (ZKF co b c) nH hm a (fun f hm=>sq (Ak co Aa Ac 1 (dv b c f) (Ae [1,2,5,7] JB) nl nH hm a fun r g=>fun _ hm a=>bk 2 (lo (AF (ZIp co b c) nH hm a (fun h hm=>sq (Ak co Aa Ac 1 (Z8 b c h) (Ae [1,2,5,8] JB) nl nH hm a fun r g=>fun _ hm a=>bk 4 (lo (AF (ZJU co b c) nH hm a (fun d hm=>Ap co Aa Ac (ey d) hm a fun r g=>id))))))))))))
abbrev Fr:List (Ad×Bool):=[((0,0),false),((0,1),true)]
abbrev Dq(e:ByteArray)(z:List Prb):List (Ad×Blk):=[((0,0),⟨0,true,134,2,[vS e,.ref (0,1) 0 0 z.length]⟩),((0,1),⟨0,true,170,3,Af AA z⟩)]
abbrev Zc:List Prb→AV:=fun y=>.tup []
@[reducible] def Zm(a:ByteArray):List Prb→List Blk:=fun y=>[⟨0,true,134,2,[vS a,.ref (0,1) 0 0 y.length]⟩,⟨0,true,170,3,Af AA y⟩]
def cI(a:ByteArray)(b:List Prb)(c:Int)(d:Int):PT 2 (List Prb):=lr Zc (Zm a) (b++([(.mk a c d:Prb)]))
def dw(a:ByteArray)(b:List Prb)(c:Int)(d:Int):PT 2 (List Prb):=wg<|wg<|vw .sep<|ap b ((.mk a c d:Prb):Prb)<|Hm 1 (Af AA [(.mk a c d:Prb)]) (fun _=>Zpr _)<|wg<|vwl 0 [.ref (0,1) 1 0 (b++([(.mk a c d:Prb)])).length]<|vz (fl (b++([(.mk a c d:Prb)])))<|lc (Ab [] (Dq a (b++([(.mk a c d:Prb)])))) ((cI a b c d).m)
def ep(a:ByteArray)(b:List Prb):PT 2 (List Prb):=lr Zc (Zm a) b
def dl(a:ByteArray)(b:List Prb)(c:Bool)(d:Int)(e:Int):PT 2 (List Prb):=vz (fl b)<|lc (Ab [(0,.ptr (0,0) 0 0),(2,vI d),(3,vI e),(8,vB c)] (Dq a b)) (if c=true then(dw a b d e).m else(ep a b).m)
def BF(a:ByteArray)(b:List Prb)(c:Bool)(d:Int)(e:Int):Option (List Prb):=(dl a b c d e).m
theorem BV(a:ByteArray)(b:List Prb)(f:Bool)(d:Int)(e:Int):KG Tryz.prog 73 2 [1] [(1,0)] [.ptr (0,0) 0 0,vB f,vI d,vI e] [⟨0,true,134,2,[vS a,.ref (0,1) 0 0 b.length]⟩,⟨0,true,170,3,Af AA b⟩] (BF a b f d e) Zc (Zm a):=qS Tryz.func73 Tryz.ntmps73 Aa [] 2 [1] [0] [(1,0)] (fun C co h y hm i c=>Ak co Aa Ac 1 (dl a b f d e) (Ae [0,2,3,8] Fr) nl nH hm c fun r g=>fun _ hm c=>cd f hm (fun hm=>Fp co Aa Ac (.fst 0 (.fst 1 (.fst 2 (.fst 3 (.fst 5 (.fst 6 (.fst 7 (.fst 9 (.fst 10 (.fst 4 (.fst 8 (.fst 11 (.fst 12 (.fst 13 (.fst 14 (.fst 15 (.fst 16 .nil))))))))))))))))) [] (dw a b d e) (Ae [] Fr) hm c fun r g=>⟨ZOv g h,fun _ hm c=>fG (cI a b d e) co hm c (fun r g=>id) r g⟩) (fun hm=>Ap co Aa Ac (ep a b) hm c fun r g=>id))
abbrev Q9:Bool→AV:=fun y=>vB y
def z7(a:List ByteArray):Nat→St:=fun b=>Ab [(0,vL AW a),(3,vN b)] []
def zt:Unit→Nat×St:=fun _=>(0,Ab [] [])
def aO(b:List ByteArray)(a:Nat):PT 0 (Lv (Nat) (Unit) (Bool)):=vz (Ah b)<|br (decide ((a:Int)<(b.length:Int))) (ix b a fun c=>vs (wi ((a:Int)-1))<|B8 b ((a:Int)-1) fun d=>br (Bx c d||decide (c=d)) (Ar Q9 nG false) (vs (wa a 1)<|ln (z7 b) (a+1))) (Ai (zt) ())
def RP(a:List ByteArray):Nat→Option (Lv (Nat) (Unit) (Bool)):=fun b=>(aO a b).m
def eh:PT 0 (Bool):=lr Q9 nG true
def de(a:List ByteArray):PT 0 (Bool):=lc (Ab [(0,vL AW a),(3,vI 1)] []) ((An (RP a) Aj 1).bind (Sum.elim (fun _=>(eh).m) some))
def bd(a:List ByteArray):PT 0 (Bool):=lc (Ab [(0,vL AW a)] []) ((de a).m)
def gG(a:List ByteArray):Option (Bool):=(bd a).m
theorem ZHN{C:Cx}(co:CO C 0)(a:List ByteArray):KL Tryz.prog (AB tl) 20 C (pa [0,0,1,0,1] (Aw Tryz.f74)) [.tmp 2] 0 (z7 a) (zt) Q9 nG (RP a):=fun e _ hm Q b d c=>Av co Aa Ac (aO a e) (AH [0,3]) nl d hm c fun r g=>⟨fun f=>fun h=>⟨id,id⟩,id⟩
theorem ZZN(b:List ByteArray):KC Tryz.prog 74 [vL AW b] (gG b) Q9:=Au Tryz.func74 Tryz.ntmps74 Aa [.tmp 2] fun C co y hm c a=>Ak co Aa Ac 1 (bd b) (AH [0]) nl nH hm a fun r g=>fun _ hm a=>sq (Ak co Aa Ac 1 (de b) (AH [0,3]) nl nH hm a fun r g=>fun _ hm a=>bk 0 (lo (AF (ZHN co b) nH hm a (fun _ hm=>Ap co Aa Ac (eh) hm a fun r g=>id))))
abbrev TT:Bool→AV:=fun y=>vB y
def vK(a:List ByteArray)(b:ByteArray):Nat→St:=fun c=>Ab [(0,vL AW a),(1,vS b),(5,vN c)] []
def uh:Unit→Nat×St:=fun _=>(0,Ab [] [])
def Xe(a:List ByteArray)(c:ByteArray)(b:Nat):PT 0 (Lv (Nat) (Unit) (Bool)):=vz (Ah a)<|br (decide ((b:Int)<(a.length:Int))) (ix a b fun d=>br (decide (d=c)) (Ar TT nG true) (vs (wa b 1)<|ln (vK a c) (b+1))) (Ai (uh) ())
def MP(a:List ByteArray)(b:ByteArray):Nat→Option (Lv (Nat) (Unit) (Bool)):=fun c=>(Xe a b c).m
def Wv:PT 0 (Bool):=lr TT nG false
def Xb(a:List ByteArray)(b:ByteArray):PT 0 (Bool):=lc (Ab [(0,vL AW a),(1,vS b),(5,vI 0)] []) ((An (MP a b) Aj 0).bind (Sum.elim (fun _=>(Wv).m) some))
def V7(a:List ByteArray)(b:ByteArray):PT 0 (Bool):=lc (Ab [(0,vL AW a),(1,vS b)] []) ((Xb a b).m)
def OU(a:List ByteArray)(b:ByteArray):Option (Bool):=(V7 a b).m
theorem ZAK{C:Cx}(co:CO C 0)(a:List ByteArray)(b:ByteArray):KL Tryz.prog (AB tl) 18 C (pa [0,0,1,0,1] (Aw Tryz.f110)) [.tmp 4] 0 (vK a b) (uh) TT nG (MP a b):=fun f _ hm Q c e d=>Av co Aa Ac (Xe a b f) (AH [0,1,5]) nl e hm d fun r g=>⟨fun h=>⟨id,id⟩,id⟩
theorem xZ(b:List ByteArray)(c:ByteArray):KC Tryz.prog 110 [vL AW b,vS c] (OU b c) TT:=Au Tryz.func110 Tryz.ntmps110 Aa [.tmp 4] fun C co y hm d a=>Ak co Aa Ac 1 (V7 b c) (AH [0,1]) nl nH hm a fun r g=>fun _ hm a=>sq (Ak co Aa Ac 1 (Xb b c) (AH [0,1,5]) nl nH hm a fun r g=>fun _ hm a=>bk 0 (lo (AF (ZAK co b c) nH hm a (fun _ hm=>Ap co Aa Ac (Wv) hm a fun r g=>id))))
abbrev Ra:Bool→AV:=fun y=>vB y
def xw(a:List ByteArray)(b:List ByteArray):Nat→St:=fun c=>Ab [(0,vL AW a),(1,vL AW b),(5,vN c)] []
def zL:Unit→Nat×St:=fun _=>(0,Ab [] [])
def cR(a:List ByteArray)(c:List ByteArray)(b:Nat):PT 0 (Lv (Nat) (Unit) (Bool)):=vz (Ah a)<|br (decide ((b:Int)<(a.length:Int))) (ix a b fun d=>cl (xZ c d) fun e=>br e (Ar Ra nG true) (vs (wa b 1)<|ln (xw a c) (b+1))) (Ai (zL) ())
def Sa(a:List ByteArray)(b:List ByteArray):Nat→Option (Lv (Nat) (Unit) (Bool)):=fun c=>(cR a b c).m
def ZX:PT 0 (Bool):=lr Ra nG false
def dL(a:List ByteArray)(b:List ByteArray):PT 0 (Bool):=lc (Ab [(0,vL AW a),(1,vL AW b),(5,vI 0)] []) ((An (Sa a b) Aj 0).bind (Sum.elim (fun _=>(ZX).m) some))
def dp(a:List ByteArray)(b:List ByteArray):PT 0 (Bool):=lc (Ab [(0,vL AW a),(1,vL AW b)] []) ((dL a b).m)
def gP(a:List ByteArray)(b:List ByteArray):Option (Bool):=(dp a b).m
theorem ZIE{C:Cx}(co:CO C 0)(a:List ByteArray)(b:List ByteArray):KL Tryz.prog (AB tl) 18 C (pa [0,0,1,0,1] (Aw Tryz.f75)) [.tmp 4] 0 (xw a b) (zL) Ra nG (Sa a b):=fun f _ hm Q c e d=>Av co Aa Ac (cR a b f) (AH [0,1,5]) nl e hm d fun r g=>⟨fun h=>fun i=>⟨id,id⟩,id⟩
theorem eO(b:List ByteArray)(c:List ByteArray):KC Tryz.prog 75 [vL AW b,vL AW c] (gP b c) Ra:=Au Tryz.func75 Tryz.ntmps75 Aa [.tmp 4] fun C co y hm d a=>Ak co Aa Ac 1 (dp b c) (AH [0,1]) nl nH hm a fun r g=>fun _ hm a=>sq (Ak co Aa Ac 1 (dL b c) (AH [0,1,5]) nl nH hm a fun r g=>fun _ hm a=>bk 0 (lo (AF (ZIE co b c) nH hm a (fun _ hm=>Ap co Aa Ac (ZX) hm a fun r g=>id))))
abbrev qN(a:Scm):Ad×Blk:=kk 2 26 3 (cD (Al a))
abbrev TH:Int→AV:=fun y=>vI y
def uw(a:Scm)(b:ByteArray):Nat→St:=fun c=>Ab [(1,vS b),pp 2,(5,vN c)] [(qN a)]
def tJ:Unit→Nat×St:=fun _=>(0,Ab [] [])
def qJ(b:Scm)(c:ByteArray)(a:Nat):PT 0 (Lv (Nat) (Unit) (Int)):=wg<|vz (Ah b.messages)<|br (decide ((a:Int)<(b.messages.length:Int))) (wg<|ix b.messages a fun d=>br (decide (d.name=c)) (Ar TH nG (a:Int)) (vs (wa a 1)<|ln (uw b c) (a+1))) (Ai (tJ) ())
def Xc(a:Scm)(b:ByteArray):Nat→Option (Lv (Nat) (Unit) (Int)):=fun c=>(qJ a b c).m
def mD:PT 0 (Int):=lr TH nG (-1)
def mT(a:Scm)(b:ByteArray):PT 0 (Int):=lc (Ab [(1,vS b),pp 2,(5,vI 0)] [(qN a)]) ((An (Xc a b) Aj 0).bind (Sum.elim (fun _=>(mD).m) some))
def qu(a:Scm)(b:ByteArray):PT 0 (Int):=lc (Ab [(1,vS b),pp 2] [(qN a)]) ((mT a b).m)
def gD(a:Scm)(b:ByteArray):Option (Int):=(qu a b).m
theorem ZAR{C:Cx}(co:CO C 0)(a:Scm)(b:ByteArray):KL Tryz.prog (AB tl) 22 C (pa [0,0,1,0,1] (Aw Tryz.f122)) [.tmp 4] 0 (uw a b) (tJ) TH nG (Xc a b):=fun f _ hm Q c e d=>Av co Aa Ac (qJ a b f) (Ae [1,2,5] EW) nl e hm d fun r g=>⟨fun h=>⟨id,id⟩,id⟩
theorem Qa(b:Scm)(c:ByteArray):KC Tryz.prog 122 [.agg ((Al b).map .d),vS c] (gD b c) TH:=Au Tryz.func122 Tryz.ntmps122 Aa [.tmp 4] fun C co y hm d a=>Ak co Aa Ac 1 (qu b c) (Ae [1,2] EW) nl nH hm a fun r g=>fun _ hm a=>sq (Ak co Aa Ac 1 (mT b c) (Ae [1,2,5] EW) nl nH hm a fun r g=>fun _ hm a=>bk 0 (lo (AF (ZAR co b c) nH hm a (fun _ hm=>Ap co Aa Ac (mD) hm a fun r g=>id))))
abbrev QW:List (Ad×Bool):=[((1,3),false),((1,4),false)]
abbrev qO(a:Scm):Ad×Blk:=kk 3 26 3 (cD (Al a))
abbrev qP(a:Msg):Ad×Blk:=kk 4 61 5 (cD (AE a))
abbrev Tz:Bool→AV:=fun y=>vB y
def qd(a:Scm)(b:Msg)(c:List Bool):Nat→St:=fun d=>Ab [(2,vL AX c),pp 3,pp 4,(7,vN d)] [(qO a),(qP b)]
def sY:Unit→Nat×St:=fun _=>(0,Ab [] [])
def pT(d:Scm)(b:Msg)(e:List Bool)(a:Nat):PT 0 (Lv (Nat) (Unit) (Bool)):=wg<|vz (Ah b.fields)<|br (decide ((a:Int)<(b.fields.length:Int))) (wg<|ix b.fields a fun c=>wg<|wg<|wg<|br ((!decide (c.card=(1:Int)))||(!decide (c.type.kind=(10:Int)))) (vs (wa a 1)<|ln (qd d b e) (a+1)) (wg<|wg<|cl (Qa d c.type.name) fun f=>AZ (decide ((0:Int)≤f)) e f fun g=>br (decide ((0:Int)≤f)&&(!g)) (Ar Tz nG true) (vs (wa a 1)<|ln (qd d b e) (a+1)))) (Ai (sY) ())
def Wl(a:Scm)(b:Msg)(c:List Bool):Nat→Option (Lv (Nat) (Unit) (Bool)):=fun d=>(pT a b c d).m
def lQ:PT 0 (Bool):=lr Tz nG false
def mr(a:Scm)(b:Msg)(c:List Bool):PT 0 (Bool):=lc (Ab [(2,vL AX c),pp 3,pp 4,(7,vI 0)] [(qO a),(qP b)]) ((An (Wl a b c) Aj 0).bind (Sum.elim (fun _=>(lQ).m) some))
def nV(a:Scm)(b:Msg)(c:List Bool):PT 0 (Bool):=lc (Ab [(2,vL AX c),pp 3,pp 4] [(qO a),(qP b)]) ((mr a b c).m)
def hX(a:Scm)(b:Msg)(c:List Bool):Option (Bool):=(nV a b c).m
theorem ZCQ{C:Cx}(co:CO C 0)(a:Scm)(b:Msg)(c:List Bool):KL Tryz.prog (AB tl) 45 C (pa [0,0,1,0,1] (Aw Tryz.f111)) [.tmp 6] 0 (qd a b c) (sY) Tz nG (Wl a b c):=fun h _ hm Q d f e=>Av co Aa Ac (pT a b c h) (Ae [2,3,4,7] QW) nl f hm e fun r g=>⟨fun i=>⟨id,fun k=>fun j=>⟨id,id⟩⟩,id⟩
theorem ZUG(b:Scm)(c:Msg)(d:List Bool):KC Tryz.prog 111 [.agg ((Al b).map .d),.agg ((AE c).map .d),vL AX d] (hX b c d) Tz:=Au Tryz.func111 Tryz.ntmps111 Aa [.tmp 6] fun C co y hm e a=>Ak co Aa Ac 1 (nV b c d) (Ae [2,3,4] QW) nl nH hm a fun r g=>fun _ hm a=>sq (Ak co Aa Ac 1 (mr b c d) (Ae [2,3,4,7] QW) nl nH hm a fun r g=>fun _ hm a=>bk 0 (lo (AF (ZCQ co b c d) nH hm a (fun _ hm=>Ap co Aa Ac (lQ) hm a fun r g=>id))))
abbrev qR:List (Ad×Bool):=[((0,0),true),((1,3),false),((1,4),false)]
abbrev DQ:List (Ad×Bool):=[((0,0),true)]
abbrev qQ(a:Scm):Ad×Blk:=kk 3 26 3 (cD (Al a))
abbrev fE(a:Msg):Ad×Blk:=kk 4 61 5 (cD (AE a))
abbrev W5:Bool→AV:=fun y=>vB y
@[reducible] def WX(a:List Bool):Bool→List Blk:=fun y=>[⟨0,true,4,1,Af AX a⟩]
def jK(b:Scm)(c:Msg)(a:List Bool):Nat→St:=fun d=>Ab [(2,.ref (0,0) 0 0 a.length),pp 3,pp 4,(7,vN d)] [((0,0),⟨0,true,4,1,Af AX a⟩),(qQ b),(fE c)]
def ZnZ(a:List Bool):Unit→Nat×St:=fun _=>(0,Ab [] [((0,0),⟨0,true,4,1,Af AX a⟩)])
def jV(f:Scm)(c:Msg)(a:List Bool)(b:Nat):PT 1 (Lv (Nat) (Unit) (Bool)):=wg<|vz (Ah c.fields)<|br (decide ((b:Int)<(c.fields.length:Int))) (wg<|ix c.fields b fun e=>wg<|wg<|wg<|br ((!decide (e.card=(1:Int)))||(!decide (e.type.kind=(10:Int)))) (vs (wa b 1)<|vz (fl a)<|ln (jK f c a) (b+1)) (wg<|wg<|cl (Qa f e.type.name) fun d=>vg (decide ((0:Int)≤d)) (CM d a.length 1)<|cag (decide ((0:Int)≤d)) a d.toNat fun g=>br (decide ((0:Int)≤d)&&(!g)) (Ar W5 (WX a) true) (vs (wa b 1)<|vz (fl a)<|ln (jK f c a) (b+1)))) (vz (fl a)<|Ai (ZnZ a) ())
def VK(a:Scm)(b:Msg)(c:List Bool):Nat→Option (Lv (Nat) (Unit) (Bool)):=fun d=>(jV a b c d).m
def jZ(a:List Bool):PT 1 (Bool):=lr W5 (WX a) false
def jE(b:Scm)(c:Msg)(a:List Bool):PT 1 (Bool):=vz (fl a)<|lc (Ab [(2,.ref (0,0) 0 0 a.length),pp 3,pp 4,(7,vI 0)] [((0,0),⟨0,true,4,1,Af AX a⟩),(qQ b),(fE c)]) ((An (VK b c a) Aj 0).bind (Sum.elim (fun _=>(jZ a).m) some))
def jA(b:Scm)(c:Msg)(a:List Bool):PT 1 (Bool):=vz (fl a)<|lc (Ab [(2,.ref (0,0) 0 0 a.length),pp 3,pp 4] [((0,0),⟨0,true,4,1,Af AX a⟩),(qQ b),(fE c)]) ((jE b c a).m)
def UJ(a:Scm)(b:Msg)(c:List Bool):Option (Bool):=(jA a b c).m
theorem ZqV{C:Cx}(co:CO C 1)(b:Scm)(c:Msg)(a:List Bool):KL Tryz.prog (AB tl) 45 C (pa [0,0,1,0,1] (Aw Tryz.f111)) [.tmp 6] 1 (jK b c a) (ZnZ a) W5 (WX a) (VK b c a):=fun h _ hm Q d f e=>Av co Aa Ac (jV b c a h) (Ae [2,3,4,7] qR) (Ae [] DQ) f hm e fun r g=>⟨fun i=>⟨id,fun k=>fun j=>⟨id,id⟩⟩,id⟩
theorem ZLz(c:Scm)(d:Msg)(a:List Bool):KO Tryz.prog 111 1 [.agg ((Al c).map .d),.agg ((AE d).map .d),.ref (0,0) 0 0 a.length] [⟨0,true,4,1,Af AX a⟩] (fun _ _ _ _=>True) (UJ c d a) W5 (WX a):=Bi Tryz.func111 Tryz.ntmps111 Aa [.tmp 6] 1 (fun C co f y hm e b=>Ak co Aa Ac 1 (jA c d a) (Ae [2,3,4] qR) nl nH hm b fun r g=>fun _ hm b=>sq (Ak co Aa Ac 1 (jE c d a) (Ae [2,3,4,7] qR) nl nH hm b fun r g=>fun _ hm b=>bk 0 (lo (AF (ZqV co c d a) nH hm b (fun _ hm=>Ap co Aa Ac (jZ a) hm b fun r g=>id))))) (hB:=fun y=>⟨.inl (A6 _ _),rfl,trivial⟩)
abbrev GC:List (Ad×Bool):=[((1,1),false),((1,10),true)]
abbrev Kj(a:Scm):Ad×Blk:=kk 1 26 3 (cD (Al a))
abbrev Rb:List Bool→AV:=fun y=>vL AX y
def y8(b:Scm):Bool×Nat×List Bool→St:=fun(c,v2,a)=>Ab [pp 1,(3,.ref (1,10) 0 0 a.length),(4,vB c),(5,vN v2)] [(Kj b),kk 10 4 1 (Af AX a)]
def yG:List Bool→Nat×St:=fun a=>(0,Ab [(3,.ref (1,10) 0 0 a.length)] [kk 10 4 1 (Af AX a)])
def aP(b:Scm)(v2:Nat):Bool×Nat×List Bool→St:=fun(v4,v5,a)=>Ab [pp 1,(3,.ref (1,10) 0 0 a.length),(4,vB v4),(5,vN v2),(6,vN v5)] [(Kj b),kk 10 4 1 (Af AX a)]
def yi(c:Scm)(v2:Nat):Bool×List Bool→Nat×St:=fun(b,a)=>(2,Ab [pp 1,(3,.ref (1,10) 0 0 a.length),(4,vB b),(5,vN v2)] [(Kj c),kk 10 4 1 (Af AX a)])
def cF(b:Scm)(v2:Nat)(v4:Bool)(v5:Nat)(a:List Bool):PT 0 (Lv (Bool×Nat×List Bool) (Bool×List Bool) (List Bool)):=wg<|vz (Ah b.messages)<|br (decide ((v5:Int)<(b.messages.length:Int))) (vs (ir v5 a.length 1)<|ca a v5 fun c=>wg<|wg<|AZ (!c) b.messages (v5:Int) fun d=>Dy (!c) Tryz.prog 111 [.agg ((Al b).map .d),.agg ((AE d).map .d),.ref (1,10) 0 0 a.length] [(1,10)] [kk 10 4 1 (Af AX a)] (UJ b d a) (fun y=>vB y) fun e=>br ((!c)&&(!e)) (vs (ir v5 a.length 1)<|vs (st a v5 true)<|rn 3 10 a.length (a.set v5 true)<|vw .sep<|vs (wa v5 1)<|vz (fl (a.set v5 true))<|ln (aP b v2) (true,v5+1,a.set v5 true)) (vs (wa v5 1)<|vz (fl a)<|ln (aP b v2) (v4,v5+1,a))) (vz (fl a)<|Ai (yi b v2) (v4,a))
def SN(a:Scm)(v2:Nat):Bool×Nat×List Bool→Option (Lv (Bool×Nat×List Bool) (Bool×List Bool) (List Bool)):=fun(v4,v5,b)=>(cF a v2 v4 v5 b).m
def aY(c:Scm)(v2:Nat)(b:Bool)(a:List Bool):PT 0 (Lv (Bool×Nat×List Bool) (List Bool) (List Bool)):=vs (wa v2 1)<|vz (fl a)<|ln (y8 c) (b,v2+1,a)
def aB(b:Scm)(v2:Nat)(a:List Bool):PT 0 (Lv (Bool×Nat×List Bool) (List Bool) (List Bool)):=vz (fl a)<|lc (Ab [pp 1,(3,.ref (1,10) 0 0 a.length),(4,vB false),(5,vN v2),(6,vI 0)] [(Kj b),kk 10 4 1 (Af AX a)]) ((An (SN b v2) Aj (false,0,a)).bind (Sum.elim (fun(d,c)=>(aY b v2 d c).m) (fun z=>some (.rt z))))
def dH(b:Scm)(c:Bool)(v2:Nat)(a:List Bool):PT 0 (Lv (Bool×Nat×List Bool) (List Bool) (List Bool)):=wg<|vz (Ah b.messages)<|br (decide ((v2:Int)<(b.messages.length:Int))&&c) (vz (fl a)<|lc (Ab [pp 1,(3,.ref (1,10) 0 0 a.length),(5,vN v2)] [(Kj b),kk 10 4 1 (Af AX a)]) ((aB b v2 a).m)) (vz (fl a)<|Ai (yG) a)
def R3(a:Scm):Bool×Nat×List Bool→Option (Lv (Bool×Nat×List Bool) (List Bool) (List Bool)):=fun(c,v2,b)=>(dH a c v2 b).m
def bX(a:List Bool):PT 0 (List Bool):=vz (fr a)<|lr Rb nG a
def cq(a:Scm):PT 0 (List Bool):=vz (fl (List.replicate a.messages.length false))<|lc (Ab [pp 1,(3,.ref (1,10) 0 0 (List.replicate a.messages.length false).length),(4,vB true),(5,vI 0)] [(Kj a),kk 10 4 1 (Af AX (List.replicate a.messages.length false))]) ((An (R3 a) Aj (true,0,List.replicate a.messages.length false)).bind (Sum.elim (fun b=>(bX b).m) some))
def bx(a:Scm):PT 0 (List Bool):=wg<|vz (Ah a.messages)<|ms a.messages.length false [vB false] (by first|rfl|kernel_rfl)<|vz (fl (List.replicate a.messages.length false))<|lc (Ab [pp 1,(3,.ref (1,10) 0 0 (List.replicate a.messages.length false).length),(4,vB true)] [(Kj a),kk 10 4 1 (Af AX (List.replicate a.messages.length false))]) ((cq a).m)
def gj(a:Scm):Option (List Bool):=(bx a).m
theorem ZJm{C:Cx}(co:CO C 0)(a:Scm)(v2:Nat):KL Tryz.prog (AB tl) 48 C (pa [0,0,1,1,0,0,1,0,0,1,0,1,1,1] (Aw Tryz.f76)) [.tmp 2] 0 (aP a v2) (yi a v2) Rb nG (SN a v2):=fun(v4,v5,b) _ hm Q c f e=>Av co Aa Ac (cF a v2 v4 v5 b) (Ae [1,3,4,5,6] GC) (Ae [1,3,4,5] GC) f hm e fun r g=>⟨fun i=>fun d=>⟨fun y hy=>B2 (ZLz a d b) hy co g [kk 10 4 1 (Af AX b)] [] (AP []) (fun h j k=>trivial) (fun H=>⟨fun _=>⟨rfl,Bz (A6 _ _) (by kernel_rfl)⟩,by kernel_rfl,trivial⟩),fun l=>⟨id,id⟩⟩,id⟩
theorem ZLX{C:Cx}(co:CO C 0)(b:Scm):KL Tryz.prog (AB tl) 48 C (pa [0,0,1,0,1,1,1] (Aw Tryz.f76)) [.tmp 2] 0 (y8 b) (yG) Rb nG (R3 b):=fun(i,v2,h) _ hm Q f c a=>Ak co Aa Ac 1 (dH b i v2 h) (Ae [1,3,5] GC) (Ae [3] [((1,10),true)]) c hm a fun r g=>⟨fun _ hm a=>sq (bk 1 (Ak co Aa Ac 2 (aB b v2 h) (Ae [1,3,4,5,6] GC) nl c hm a fun r g=>fun _ hm a=>bk 2 (lo (Ga (ZJm co b v2) c hm a (fun(e,d) hm=>Av co Aa Ac (aY b v2 e d) (Ae [1,3,4,5] GC) nl c hm a fun r g=>id))))),id⟩
theorem ZZg(b:Scm):KC Tryz.prog 76 [.agg ((Al b).map .d)] (gj b) Rb:=Au Tryz.func76 Tryz.ntmps76 Aa [.tmp 2] fun C co y hm d a=>Ak co Aa Ac 3 (bx b) (Ae [1,3,4] GC) nl nH hm a fun r g=>fun _ hm a=>sq (Ak co Aa Ac 1 (cq b) (Ae [1,3,4,5] GC) nl nH hm a fun r g=>fun _ hm a=>bk 0 (lo (AF (ZLX co b) nH hm a (fun c hm=>Ap co Aa Ac (bX c) hm a fun r g=>id))))
abbrev ZWZ:Bool→AV:=fun y=>vB y
def tM(a:Int):PT 0 (Bool):=lr ZWZ nG (decide ((97:Int)≤a)&&decide (a≤(122:Int)))
def ZdA(a:Int):Option (Bool):=(tM a).m
theorem yT(a:Int):KC Tryz.prog 183 [.d (.int .u8 a)] (ZdA a) ZWZ:=Au Tryz.func183 Tryz.ntmps183 Aa [.tmp 2] fun C co y hm b c=>Ap co Aa Ac (tM a) hm c fun r g=>id
abbrev ZYn:Bool→AV:=fun y=>vB y
def ur(a:Int):PT 0 (Bool):=lr ZYn nG (decide ((65:Int)≤a)&&decide (a≤(90:Int)))
def Zda(a:Int):Option (Bool):=(ur a).m
theorem ZSa(a:Int):KC Tryz.prog 184 [.d (.int .u8 a)] (Zda a) ZYn:=Au Tryz.func184 Tryz.ntmps184 Aa [.tmp 2] fun C co y hm b c=>Ap co Aa Ac (ur a) hm c fun r g=>id
abbrev Ob:Bool→AV:=fun y=>vB y
def tu(a:ByteArray):Nat→St:=fun v5=>Ab [(0,vS a),(3,vN v5)] []
def uE:Unit→Nat×St:=fun _=>(0,Ab [] [])
def nc(a:ByteArray)(v5:Nat):PT 0 (Lv (Nat) (Unit) (Bool)):=vz (A9 a.size)<|br (decide ((v5:Int)<(a.size:Int))) (ib a v5 fun g=>cl (yT (g.toNat:Int)) fun c=>F9 (!c) a (v5:Int) fun h=>Az (!c) (ZSa (h.toNat:Int)) fun e=>F9 ((!c)&&(!e)) a (v5:Int) fun b=>F9 (((!c)&&(!e))&&(!decide ((b.toNat:Int)=(95:Int)))) a (v5:Int) fun d=>F9 ((((!c)&&(!e))&&(!decide ((b.toNat:Int)=(95:Int))))&&(!(decide ((d.toNat:Int)<(48:Int))))) a (v5:Int) fun f=>br ((((!c)&&(!e))&&(!decide ((b.toNat:Int)=(95:Int))))&&(decide ((d.toNat:Int)<(48:Int))||decide ((57:Int)<(f.toNat:Int)))) (Ar Ob nG false) (vs (wa v5 1)<|ln (tu a) (v5+1))) (Ai (uE) ())
def Xg(a:ByteArray):Nat→Option (Lv (Nat) (Unit) (Bool)):=fun v5=>(nc a v5).m
def ow:PT 0 (Bool):=lr Ob nG true
def mb(a:ByteArray):PT 0 (Bool):=lc (Ab [(0,vS a),(3,vI 1)] []) ((An (Xg a) Aj 1).bind (Sum.elim (fun _=>(ow).m) some))
def nM(a:ByteArray):PT 0 (Bool):=vz (A9 a.size)<|vy (!(decide ((a.size:Int)=(0:Int)))) (A9 a.size)<|F9 (!(decide ((a.size:Int)=(0:Int))||decide ((40:Int)<(a.size:Int)))) a 0 fun c=>Az (!(decide ((a.size:Int)=(0:Int))||decide ((40:Int)<(a.size:Int)))) (yT (c.toNat:Int)) fun b=>F9 ((!(decide ((a.size:Int)=(0:Int))||decide ((40:Int)<(a.size:Int))))&&(!b)) a 0 fun d=>Az ((!(decide ((a.size:Int)=(0:Int))||decide ((40:Int)<(a.size:Int))))&&(!b)) (ZSa (d.toNat:Int)) fun e=>br ((decide ((a.size:Int)=(0:Int))||decide ((40:Int)<(a.size:Int)))||((!b)&&(!e))) (lr Ob nG false) (lc (Ab [(0,vS a)] []) ((mb a).m))
def ge(a:ByteArray):Option (Bool):=(nM a).m
theorem ZAt{C:Cx}(co:CO C 0)(a:ByteArray):KL Tryz.prog (AB tl) 60 C (pa [0,0,1,0,1,1] (Aw Tryz.f157)) [.tmp 2] 0 (tu a) (uE) Ob nG (Xg a):=fun v5 _ hm Q b h f=>Av co Aa Ac (nc a v5) (AH [0,3]) nl h hm f fun r g=>⟨fun i=>fun k=>fun j=>fun l=>fun c=>fun d=>fun e=>⟨id,id⟩,id⟩
theorem dz(b:ByteArray):KC Tryz.prog 157 [vS b] (ge b) Ob:=Au Tryz.func157 Tryz.ntmps157 Aa [.tmp 2] fun C co y hm c a=>Ak co Aa Ac 2 (nM b) (AH [0]) nl nH hm a fun r g=>fun d=>fun f=>fun e=>fun h=>⟨id,fun _ hm a=>sq (Ak co Aa Ac 1 (mb b) (AH [0,3]) nl nH hm a fun r g=>fun _ hm a=>bk 0 (lo (AF (ZAt co b) nH hm a (fun _ hm=>Ap co Aa Ac (ow) hm a fun r g=>id))))⟩
abbrev Oh:Bool→AV:=fun y=>vB y
def oy(a:ByteArray):ByteArray×Nat→St:=fun(b,v2)=>Ab [(0,vS a),(3,vS b),(4,vN v2)] []
def uz:ByteArray→Nat×St:=fun a=>(0,Ab [(3,vS a)] [])
def oJ(a:ByteArray)(b:ByteArray)(v2:Nat):PT 0 (Lv (ByteArray×Nat) (ByteArray) (Bool)):=vz (A9 a.size)<|br (decide ((v2:Int)<(a.size:Int))) (ib a v2 fun c=>br (!decide ((c.toNat:Int)=(46:Int))) (vs (wa v2 1)<|ss a (.nt v2) (.nt (v2+1)) fun d=>ad b d fun e=>vs (wa v2 1)<|ln (oy a) (e,v2+1)) (cl (dz b) fun f=>br (!f) (Ar Oh nG false) (vs (wa v2 1)<|ln (oy a) (⟨#[]⟩,v2+1)))) (Ai (uz) b)
def WM(a:ByteArray):ByteArray×Nat→Option (Lv (ByteArray×Nat) (ByteArray) (Bool)):=fun(b,v2)=>(oJ a b v2).m
def mU(a:ByteArray):PT 0 (Bool):=cl (dz a) fun b=>lr Oh nG b
def lI(a:ByteArray):PT 0 (Bool):=lc (Ab [(0,vS a),(3,vS ⟨#[]⟩),(4,vI 0)] []) ((An (WM a) Aj (⟨#[]⟩,0)).bind (Sum.elim (fun b=>(mU b).m) some))
def mq(a:ByteArray):PT 0 (Bool):=vz (A9 a.size)<|br (decide ((120:Int)<(a.size:Int))) (lr Oh nG false) (lc (Ab [(0,vS a),(3,vS ⟨#[]⟩)] []) ((lI a).m))
def gi(a:ByteArray):Option (Bool):=(mq a).m
theorem ZzG{C:Cx}(co:CO C 0)(a:ByteArray):KL Tryz.prog (AB tl) 30 C (pa [0,0,1,0,1,1,1] (Aw Tryz.f154)) [.tmp 2] 0 (oy a) (uz) Oh nG (WM a):=fun(e,v2) _ hm Q b d c=>Av co Aa Ac (oJ a e v2) (AH [0,3,4]) (AH [3]) d hm c fun r g=>⟨fun f=>⟨fun h=>fun i=>id,fun j=>⟨id,id⟩⟩,id⟩
theorem ZVa(b:ByteArray):KC Tryz.prog 154 [vS b] (gi b) Oh:=Au Tryz.func154 Tryz.ntmps154 Aa [.tmp 2] fun C co y hm c a=>Ak co Aa Ac 3 (mq b) (AH [0,3]) nl nH hm a fun r g=>⟨id,fun _ hm a=>sq (Ak co Aa Ac 1 (lI b) (AH [0,3,4]) nl nH hm a fun r g=>fun _ hm a=>bk 0 (lo (AF (ZzG co b) nH hm a (fun d hm=>Ap co Aa Ac (mU d) hm a fun r g=>fun e=>id))))⟩
abbrev Ur:ByteArray×ByteArray→AV:=fun y=>.tup [vS y.1,vS y.2]
def sK(a:ByteArray):Int→St:=fun b=>Ab [(0,vS a),(4,vI b)] []
def uF(a:ByteArray):Unit→Nat×St:=fun _=>(0,Ab [(0,vS a)] [])
def nN(b:ByteArray)(a:Int):PT 0 (Lv (Int) (Unit) (ByteArray×ByteArray)):=br (decide ((0:Int)≤a)) (QV b a fun c=>br (decide ((c.toNat:Int)=(46:Int))) (ss b .no (.it a) fun d=>vs (wi (a+1))<|ss b (.it (a+1)) .no fun e=>Ar Ur nG (d,e)) (vs (wi (a-1))<|ln (sK b) (a-1))) (Ai (uF b) ())
def Xz(a:ByteArray):Int→Option (Lv (Int) (Unit) (ByteArray×ByteArray)):=fun b=>(nN a b).m
def nd(a:ByteArray):PT 0 (ByteArray×ByteArray):=lr Ur nG (⟨#[]⟩,a)
def o0(a:ByteArray):PT 0 (ByteArray×ByteArray):=vz (A9 a.size)<|vs (wi ((a.size:Int)-1))<|lc (Ab [(0,vS a),(4,vI ((a.size:Int)-1))] []) ((An (Xz a) Aj ((a.size:Int)-1)).bind (Sum.elim (fun _=>(nd a).m) some))
def l4(a:ByteArray):PT 0 (ByteArray×ByteArray):=lc (Ab [(0,vS a)] []) ((o0 a).m)
def g6(a:ByteArray):Option (ByteArray×ByteArray):=(l4 a).m
theorem ZBp{C:Cx}(co:CO C 0)(a:ByteArray):KL Tryz.prog (AB tl) 24 C (pa [0,0,1,0,1] (Aw Tryz.f155)) [.tmp 2,.tmp 3] 0 (sK a) (uF a) Ur nG (Xz a):=fun e _ hm Q b d c=>Av co Aa Ac (nN a e) (AH [0,4]) (AH [0]) d hm c fun r g=>⟨fun f=>⟨fun h=>fun i=>id,id⟩,id⟩
theorem ZWu(b:ByteArray):KC Tryz.prog 155 [vS b] (g6 b) Ur:=Au Tryz.func155 Tryz.ntmps155 Aa [.tmp 2,.tmp 3] fun C co y hm c a=>Ak co Aa Ac 1 (l4 b) (AH [0]) nl nH hm a fun r g=>fun _ hm a=>sq (Ak co Aa Ac 1 (o0 b) (AH [0,4]) nl nH hm a fun r g=>fun _ hm a=>bk 0 (lo (AF (ZBp co b) nH hm a (fun _ hm=>Ap co Aa Ac (nd b) hm a fun r g=>id))))
abbrev Bm:Bool→AV:=fun y=>vB y
def n3(a:ByteArray):PT 0 (Bool):=br (decide (a=(⟨#[109,101,115,115,97,103,101]⟩:ByteArray))) (br (decide (a=(⟨#[109,101,115,115,97,103,101]⟩:ByteArray))) (lr Bm nG true) (lr Bm nG false)) (br (decide (a=(⟨#[101,110,117,109]⟩:ByteArray))) (br (decide (a=(⟨#[101,110,117,109]⟩:ByteArray))) (lr Bm nG true) (lr Bm nG false)) (br (decide (a=(⟨#[115,101,114,118,105,99,101]⟩:ByteArray))) (br (decide (a=(⟨#[115,101,114,118,105,99,101]⟩:ByteArray))) (lr Bm nG true) (lr Bm nG false)) (br (decide (a=(⟨#[117,110,105,111,110]⟩:ByteArray))) (br (decide (a=(⟨#[117,110,105,111,110]⟩:ByteArray))) (lr Bm nG true) (lr Bm nG false)) (br (decide (a=(⟨#[109,97,112]⟩:ByteArray))) (br (decide (a=(⟨#[109,97,112]⟩:ByteArray))) (lr Bm nG true) (lr Bm nG false)) (br (decide (a=(⟨#[108,105,115,116]⟩:ByteArray))) (br (decide (a=(⟨#[108,105,115,116]⟩:ByteArray))) (lr Bm nG true) (lr Bm nG false)) (br (decide (a=(⟨#[114,101,113,117,105,114,101,100]⟩:ByteArray))) (br (decide (a=(⟨#[114,101,113,117,105,114,101,100]⟩:ByteArray))) (lr Bm nG true) (lr Bm nG false)) (br (decide (a=(⟨#[111,112,116,105,111,110,97,108]⟩:ByteArray))) (br (decide (a=(⟨#[111,112,116,105,111,110,97,108]⟩:ByteArray))) (lr Bm nG true) (lr Bm nG false)) (br (decide (a=(⟨#[112,108,97,105,110]⟩:ByteArray))) (br (decide (a=(⟨#[112,108,97,105,110]⟩:ByteArray))) (lr Bm nG true) (lr Bm nG false)) (br (decide (a=(⟨#[100,101,102,97,117,108,116]⟩:ByteArray))) (br (decide (a=(⟨#[100,101,102,97,117,108,116]⟩:ByteArray))) (lr Bm nG true) (lr Bm nG false)) (br (decide (a=(⟨#[114,101,115,101,114,118,101,100]⟩:ByteArray))) (br (decide (a=(⟨#[114,101,115,101,114,118,101,100]⟩:ByteArray))) (lr Bm nG true) (lr Bm nG false)) (br (decide (a=(⟨#[105,109,112,111,114,116]⟩:ByteArray))) (br (decide (a=(⟨#[105,109,112,111,114,116]⟩:ByteArray))) (lr Bm nG true) (lr Bm nG false)) (br (decide (a=(⟨#[115,112,97,99,101]⟩:ByteArray))) (br (decide (a=(⟨#[115,112,97,99,101]⟩:ByteArray))) (lr Bm nG true) (lr Bm nG false)) (br (decide (a=(⟨#[114,112,99]⟩:ByteArray))) (br (decide (a=(⟨#[114,112,99]⟩:ByteArray))) (lr Bm nG true) (lr Bm nG false)) (br (decide (a=(⟨#[115,116,114,101,97,109]⟩:ByteArray))) (br (decide (a=(⟨#[115,116,114,101,97,109]⟩:ByteArray))) (lr Bm nG true) (lr Bm nG false)) (br (decide (a=(⟨#[114,101,116,117,114,110,115]⟩:ByteArray))) (br (decide (a=(⟨#[114,101,116,117,114,110,115]⟩:ByteArray))) (lr Bm nG true) (lr Bm nG false)) (br (decide (a=(⟨#[111,112,101,110]⟩:ByteArray))) (br (decide (a=(⟨#[111,112,101,110]⟩:ByteArray))) (lr Bm nG true) (lr Bm nG false)) (br (decide (a=(⟨#[116,114,117,101]⟩:ByteArray))) (br (decide (a=(⟨#[116,114,117,101]⟩:ByteArray))) (lr Bm nG true) (lr Bm nG false)) (br (decide (a=(⟨#[102,97,108,115,101]⟩:ByteArray))) (br (decide (a=(⟨#[102,97,108,115,101]⟩:ByteArray))) (lr Bm nG true) (lr Bm nG false)) (br (decide (a=(⟨#[110,97,110]⟩:ByteArray))) (br (decide (a=(⟨#[110,97,110]⟩:ByteArray))) (lr Bm nG true) (lr Bm nG false)) (br (decide (a=(⟨#[105,110,102]⟩:ByteArray))) (lr Bm nG true) (lr Bm nG false)))))))))))))))))))))
def gx(a:ByteArray):Option (Bool):=(n3 a).m
theorem ZSu(a:ByteArray):KC Tryz.prog 156 [vS a] (gx a) Bm:=Au Tryz.func156 Tryz.ntmps156 Aa [.tmp 2] fun C co y hm b c=>Ap co Aa Ac (n3 a) hm c fun r g=>⟨⟨id,id⟩,⟨⟨id,id⟩,⟨⟨id,id⟩,⟨⟨id,id⟩,⟨⟨id,id⟩,⟨⟨id,id⟩,⟨⟨id,id⟩,⟨⟨id,id⟩,⟨⟨id,id⟩,⟨⟨id,id⟩,⟨⟨id,id⟩,⟨⟨id,id⟩,⟨⟨id,id⟩,⟨⟨id,id⟩,⟨⟨id,id⟩,⟨⟨id,id⟩,⟨⟨id,id⟩,⟨⟨id,id⟩,⟨⟨id,id⟩,⟨⟨id,id⟩,⟨id,id⟩⟩⟩⟩⟩⟩⟩⟩⟩⟩⟩⟩⟩⟩⟩⟩⟩⟩⟩⟩⟩
abbrev Ow:Bool→AV:=fun y=>vB y
def tr:ByteArray×Nat→St:=fun(v2,v3)=>Ab [(0,vS v2),(3,vN v3)] []
def uv:Unit→Nat×St:=fun _=>(0,Ab [] [])
def nq(v2:ByteArray)(v3:Nat):PT 0 (Lv (ByteArray×Nat) (Unit) (Bool)):=br (decide ((v3:Int)<(120:Int))&&(!decide (v2=(⟨#[]⟩:ByteArray)))) (cl (ZWu v2) fun a=>cl (ZSu a.2) fun b=>br b (Ar Ow nG false) (vs (wa v3 1)<|ln (tr) (a.1,v3+1))) (Ai (uv) ())
def Wd:ByteArray×Nat→Option (Lv (ByteArray×Nat) (Unit) (Bool)):=fun(v2,v3)=>(nq v2 v3).m
def mV:PT 0 (Bool):=lr Ow nG true
def m7(a:ByteArray):PT 0 (Bool):=lc (Ab [(0,vS a),(3,vI 0)] []) ((An (Wd) Aj (a,0)).bind (Sum.elim (fun _=>(mV).m) some))
def l2(a:ByteArray):PT 0 (Bool):=cl (ZVa a) fun b=>br (!b) (lr Ow nG false) (lc (Ab [(0,vS a)] []) ((m7 a).m))
def gg(a:ByteArray):Option (Bool):=(l2 a).m
theorem ZCL{C:Cx}(co:CO C 0):KL Tryz.prog (AB tl) 25 C (pa [0,0,1,0,1,1] (Aw Tryz.f112)) [.tmp 2] 0 (tr) (uv) Ow nG (Wd):=fun(v2,v3) _ hm Q a c b=>Av co Aa Ac (nq v2 v3) (AH [0,3]) nl c hm b fun r g=>⟨fun d=>fun e=>⟨id,id⟩,id⟩
theorem ee(b:ByteArray):KC Tryz.prog 112 [vS b] (gg b) Ow:=Au Tryz.func112 Tryz.ntmps112 Aa [.tmp 2] fun C co y hm c a=>Ak co Aa Ac 2 (l2 b) (AH [0]) nl nH hm a fun r g=>fun d=>⟨id,fun _ hm a=>sq (Ak co Aa Ac 1 (m7 b) (AH [0,3]) nl nH hm a fun r g=>fun _ hm a=>bk 0 (lo (AF (ZCL co) nH hm a (fun _ hm=>Ap co Aa Ac (mV) hm a fun r g=>id))))⟩
abbrev ZXK:Bool→AV:=fun y=>vB y
def lK(a:ByteArray):PT 0 (Bool):=cl (dz a) fun b=>Az b (ZSu a) fun c=>lr ZXK nG (b&&(!c))
def gC(a:ByteArray):Option (Bool):=(lK a).m
theorem Sn(a:ByteArray):KC Tryz.prog 113 [vS a] (gC a) ZXK:=Au Tryz.func113 Tryz.ntmps113 Aa [.tmp 2] fun C co y hm b c=>Ap co Aa Ac (lK a) hm c fun r g=>fun d=>fun e=>id
abbrev T9:Bool→AV:=fun y=>vB y
def vJ(a:List Spn)(b:Int):Nat→St:=fun c=>Ab [(0,vL Cv a),(1,vI b),(5,vN c)] []
def uB:Unit→Nat×St:=fun _=>(0,Ab [] [])
def oW(a:List Spn)(c:Int)(b:Nat):PT 0 (Lv (Nat) (Unit) (Bool)):=vz (Ah a)<|br (decide ((b:Int)<(a.length:Int))) (ix a b fun d=>AZ (decide (d.lo≤c)) a (b:Int) fun e=>br (decide (d.lo≤c)&&decide (c≤e.hi)) (Ar T9 nG true) (vs (wa b 1)<|ln (vJ a c) (b+1))) (Ai (uB) ())
def Wz(a:List Spn)(b:Int):Nat→Option (Lv (Nat) (Unit) (Bool)):=fun c=>(oW a b c).m
def kP:PT 0 (Bool):=lr T9 nG false
def pC(a:List Spn)(b:Int):PT 0 (Bool):=lc (Ab [(0,vL Cv a),(1,vI b),(5,vI 0)] []) ((An (Wz a b) Aj 0).bind (Sum.elim (fun _=>(kP).m) some))
def nU(a:List Spn)(b:Int):PT 0 (Bool):=lc (Ab [(0,vL Cv a),(1,vI b)] []) ((pC a b).m)
def gk(a:List Spn)(b:Int):Option (Bool):=(nU a b).m
theorem ZC4{C:Cx}(co:CO C 0)(a:List Spn)(b:Int):KL Tryz.prog (AB tl) 28 C (pa [0,0,1,0,1] (Aw Tryz.f114)) [.tmp 4] 0 (vJ a b) (uB) T9 nG (Wz a b):=fun f _ hm Q c e d=>Av co Aa Ac (oW a b f) (AH [0,1,5]) nl e hm d fun r g=>⟨fun h=>fun i=>⟨id,id⟩,id⟩
theorem z6(b:List Spn)(c:Int):KC Tryz.prog 114 [vL Cv b,vI c] (gk b c) T9:=Au Tryz.func114 Tryz.ntmps114 Aa [.tmp 4] fun C co y hm d a=>Ak co Aa Ac 1 (nU b c) (AH [0,1]) nl nH hm a fun r g=>fun _ hm a=>sq (Ak co Aa Ac 1 (pC b c) (AH [0,1,5]) nl nH hm a fun r g=>fun _ hm a=>bk 0 (lo (AF (ZC4 co b c) nH hm a (fun _ hm=>Ap co Aa Ac (kP) hm a fun r g=>id))))
abbrev EO:Bool→AV:=fun y=>vB y
def nC(a:Fld):PT 0 (Bool):=wg<|br (!decide (a.card=(5:Int))) (wg<|wg<|wg<|lr EO nG ((decide ((1:Int)≤a.card)&&decide (a.card≤(4:Int)))&&decide (a.key=(0:Int)))) (wg<|br (decide (a.key=(1:Int))) (br (decide (a.key=(1:Int))) (lr EO nG true) (lr EO nG false)) (br (decide (a.key=(2:Int))) (br (decide (a.key=(2:Int))) (lr EO nG true) (lr EO nG false)) (br (decide (a.key=(3:Int))) (br (decide (a.key=(3:Int))) (lr EO nG true) (lr EO nG false)) (br (decide (a.key=(4:Int))) (br (decide (a.key=(4:Int))) (lr EO nG true) (lr EO nG false)) (br (decide (a.key=(5:Int))) (br (decide (a.key=(5:Int))) (lr EO nG true) (lr EO nG false)) (br (decide (a.key=(7:Int))) (lr EO nG true) (lr EO nG false)))))))
def gM(a:Fld):Option (Bool):=(nC a).m
theorem ZUX(a:Fld):KC Tryz.prog 115 [.agg ((Ao a).map .d)] (gM a) EO:=Au Tryz.func115 Tryz.ntmps115 Aa [.tmp 2] fun C co y hm b c=>Ap co Aa Ac (nC a) hm c fun r g=>⟨id,⟨⟨id,id⟩,⟨⟨id,id⟩,⟨⟨id,id⟩,⟨⟨id,id⟩,⟨⟨id,id⟩,⟨id,id⟩⟩⟩⟩⟩⟩⟩
end Go.Proofs.YthgmbpciandpiaaGreat
