import Derived.Test.YtleccgigifnfgaaGreatCx12
import Derived.Test.YtleccgigifnfgaaGreatCx13
import Derived.Test.YtleccgigifnfgaaGreatCx00
namespace Go.Proofs.YtleccgigifnfgaaGreat
set_option maxRecDepth 100000
set_option linter.all false
open Go Go.Eng
def ZmQ:Go.Shelf.Ren:=⟨fun|190=>160|125=>187|258=>186|128=>215|129=>216|302=>206|303=>207|304=>208|305=>209|306=>210|307=>211|308=>212|309=>213|310=>214|333=>226|329=>227|330=>228|334=>229|335=>230|336=>188|344=>234|n=>n,fun|31=>45|9=>9|3=>3|46=>223|0=>0|51=>243|53=>27|4=>4|183=>235|182=>234|131=>240|5=>5|218=>249|222=>253|228=>257|229=>258|n=>n,fun|n=>n⟩
theorem ZIY:Go.Proofs.Lays.n190 Tryz.prog ZmQ:={
 mixed:=by kernel_rfl,
 f125:=Tryz.func187.trans (congrArg some (by kernel_rfl)),
 f128:=Tryz.func215.trans (congrArg some (by kernel_rfl)),
 f129:=Tryz.func216.trans (congrArg some (by kernel_rfl)),
 f190:=Tryz.func160.trans (congrArg some (by kernel_rfl)),
 f258:=Tryz.func186.trans (congrArg some (by kernel_rfl)),
 f302:=Tryz.func206.trans (congrArg some (by kernel_rfl)),
 f303:=Tryz.func207.trans (congrArg some (by kernel_rfl)),
 f304:=Tryz.func208.trans (congrArg some (by kernel_rfl)),
 f305:=Tryz.func209.trans (congrArg some (by kernel_rfl)),
 f306:=Tryz.func210.trans (congrArg some (by kernel_rfl)),
 f307:=Tryz.func211.trans (congrArg some (by kernel_rfl)),
 f308:=Tryz.func212.trans (congrArg some (by kernel_rfl)),
 f309:=Tryz.func213.trans (congrArg some (by kernel_rfl)),
 f310:=Tryz.func214.trans (congrArg some (by kernel_rfl)),
 f329:=Tryz.func227.trans (congrArg some (by kernel_rfl)),
 f330:=Tryz.func228.trans (congrArg some (by kernel_rfl)),
 f333:=Tryz.func226.trans (congrArg some (by kernel_rfl)),
 f334:=Tryz.func229.trans (congrArg some (by kernel_rfl)),
 f335:=Tryz.func230.trans (congrArg some (by kernel_rfl)),
 f336:=Tryz.func188.trans (congrArg some (by kernel_rfl)),
 f344:=Tryz.func234.trans (congrArg some (by kernel_rfl)),
 t0:=Tryz.underlying0,
 a0:=Tryz.isAgg0,
 z0:=Tryz.sizeOf0,
 v0:=Tryz.zeroValue0,
 t3:=Tryz.underlying3,
 a3:=Tryz.isAgg3,
 z3:=Tryz.sizeOf3,
 v3:=Tryz.zeroValue3,
 t4:=Tryz.underlying4,
 a4:=Tryz.isAgg4,
 z4:=Tryz.sizeOf4,
 v4:=Tryz.zeroValue4,
 t5:=Tryz.underlying5,
 a5:=Tryz.isAgg5,
 z5:=Tryz.sizeOf5,
 v5:=Tryz.zeroValue5,
 t9:=Tryz.underlying9,
 a9:=Tryz.isAgg9,
 z9:=Tryz.sizeOf9,
 v9:=Tryz.zeroValue9,
 t31:=Tryz.underlying45,
 a31:=Tryz.isAgg45,
 z31:=Tryz.sizeOf45,
 v31:=Tryz.zeroValue45,
 t46:=Tryz.underlying223,
 a46:=Tryz.isAgg223,
 z46:=Tryz.sizeOf223,
 v46:=Tryz.zeroValue223,
 t51:=Tryz.underlying243,
 a51:=Tryz.isAgg243,
 z51:=Tryz.sizeOf243,
 v51:=Tryz.zeroValue243,
 t53:=Tryz.underlying27,
 a53:=Tryz.isAgg27,
 z53:=Tryz.sizeOf27,
 v53:=Tryz.zeroValue27,
 t131:=Tryz.underlying240,
 a131:=Tryz.isAgg240,
 z131:=Tryz.sizeOf240,
 v131:=Tryz.zeroValue240,
 t182:=Tryz.underlying234,
 a182:=Tryz.isAgg234,
 z182:=Tryz.sizeOf234,
 v182:=Tryz.zeroValue234,
 t183:=Tryz.underlying235,
 a183:=Tryz.isAgg235,
 z183:=Tryz.sizeOf235,
 v183:=Tryz.zeroValue235,
 t218:=Tryz.underlying249,
 a218:=Tryz.isAgg249,
 z218:=Tryz.sizeOf249,
 v218:=Tryz.zeroValue249,
 t222:=Tryz.underlying253,
 a222:=Tryz.isAgg253,
 z222:=Tryz.sizeOf253,
 v222:=Tryz.zeroValue253,
 t228:=Tryz.underlying257,
 a228:=Tryz.isAgg257,
 z228:=Tryz.sizeOf257,
 v228:=Tryz.zeroValue257,
 t229:=Tryz.underlying258,
 a229:=Tryz.isAgg258,
 z229:=Tryz.sizeOf258,
 v229:=Tryz.zeroValue258 }
abbrev ZXt:List ByteArray→AV:=fun y=>.tup []
@[reducible] def ZWO:List ByteArray→List Blk:=fun y=>[⟨0,true,9,1,Af AC y⟩]
def Zgs(a:List ByteArray):Option (List ByteArray):=if a.length<4611686018427387904 then some (Pz a)else none
theorem ZTz(b:List ByteArray):KO Tryz.prog 160 1 [.ref (0,0) 0 0 b.length] [⟨0,true,9,1,Af AC b⟩] (fun _ _ _ _=>True) (Zgs b) ZXt (ZWO):=⟨fun l H ks h θ c a f e _ y hy=>by
 obtain⟨d,hy⟩:=BJ hy
 rw[Zzo]at hy
 cases hy
 match ks,c with
 |[g],_=>exact Zqf ZIY ⟨_,AB Tryz.f160,Tryz.func160,by kernel_rfl,by kernel_rfl⟩ a.1 b ((e.1.2 rfl).trans (LB (A0 _ _))) d ⟨rfl,(congrArg (updH H g) (LB (A0 _ _))).symm⟩⟩
abbrev Qc:Int→AV:=fun y=>vI y
def wu(a:List Nt)(b:Int):Nat→St:=fun c=>Ab [(0,vL Ax a),(1,vI b),(5,vN c)] []
def yf(a:List Nt):Unit→Nat×St:=fun _=>(0,Ab [(0,vL Ax a)] [])
def Xs(c:List Nt)(e:Int)(d:Nat):PT 0 (Lv (Nat) (Unit) (Int)):=vz (Ag c)<|br (decide ((d:Int)<(c.length:Int))&&decide ((d:Int)≤e)) (ix c d fun a=>vw .go<|ix c d fun b=>vz (A2 b.name.size)<|vw .go<|vy (!(decide ((300:Int)<(b.name.size:Int)))) (A2 a.val.text.size)<|vw .go<|vy (!(decide ((300:Int)<(b.name.size:Int))||decide ((300:Int)<(a.val.text.size:Int)))) (Ag a.val.list)<|vw .go<|vy (!(decide ((300:Int)<(b.name.size:Int))||decide ((300:Int)<(a.val.text.size:Int)))) (Ag a.val.pairs)<|vg (!(decide ((300:Int)<(b.name.size:Int))||decide ((300:Int)<(a.val.text.size:Int)))) (wa a.val.list.length a.val.pairs.length)<|vw .go<|vy (!(decide ((300:Int)<(b.name.size:Int))||decide ((300:Int)<(a.val.text.size:Int)))) (Ag a.val.slots)<|vg (!(decide ((300:Int)<(b.name.size:Int))||decide ((300:Int)<(a.val.text.size:Int)))) (wa (a.val.list.length+a.val.pairs.length) a.val.slots.length)<|vw .go<|vy (!(decide ((300:Int)<(b.name.size:Int))||decide ((300:Int)<(a.val.text.size:Int)))) (Ag a.val.raws)<|vg (!(decide ((300:Int)<(b.name.size:Int))||decide ((300:Int)<(a.val.text.size:Int)))) (wa ((a.val.list.length+a.val.pairs.length)+a.val.slots.length) a.val.raws.length)<|br ((decide ((300:Int)<(b.name.size:Int))||decide ((300:Int)<(a.val.text.size:Int)))||decide ((0:Int)<((((a.val.list.length+a.val.pairs.length)+a.val.slots.length)+a.val.raws.length:Nat):Int))) (vs (wi (e+10))<|Ap Qc (fun _=>[]) (e+10)) (vs (wa d 1)<|ln (wu c e) (d+1))) (Ak (yf c) ())
def Wo(a:List Nt)(b:Int):Nat→Option (Lv (Nat) (Unit) (Int)):=fun c=>(Xs a b c).m
def aS(a:List Nt):PT 0 (Int):=vz (Ag a)<|lr Qc (fun _=>[]) (a.length:Int)
def bp(a:List Nt)(b:Int):PT 0 (Int):=lc (Ab [(0,vL Ax a),(1,vI b),(5,vI 0)] []) ((An (Wo a b) Aj 0).bind (Sum.elim (fun _=>(aS a).m) some))
def aB(a:List Nt)(b:Int):PT 0 (Int):=lc (Ab [(0,vL Ax a),(1,vI b)] []) ((bp a b).m)
def eg(a:List Nt)(b:Int):Option (Int):=(aB a b).m
theorem ZFF{C:Cx}(co:CO C 0)(a:List Nt)(b:Int):KL Tryz.prog (AF tl) 58 C (pa [0,0,1,0,1] (AB Tryz.f41)) [.tmp 4] 0 (wu a b) (yf a) Qc (fun _=>[]) (Wo a b):=fun f _ hm Q c e d=>AA co Aa Ac (Xs a b f) (AN [0,1,5]) (AN [0]) e hm d fun r g=>⟨fun h=>fun i=>⟨id,id⟩,id⟩
theorem KQ(b:List Nt)(c:Int):KC Tryz.prog 41 [vL Ax b,vI c] (eg b c) Qc:=Aw Tryz.func41 Tryz.ntmps41 Aa [.tmp 4] fun C co y hm d a=>Al co Aa Ac 1 (aB b c) (AN [0,1]) nl (fun _ h=>h) hm a fun r g=>fun _ hm a=>sq (Al co Aa Ac 1 (bp b c) (AN [0,1,5]) nl (fun _ h=>h) hm a fun r g=>fun _ hm a=>bk 0 (lo (AG (ZFF co b c) (fun _ h=>h) hm a (fun _ hm=>Am co Aa Ac (aS b) hm a fun r g=>id))))
abbrev Qd:Int→AV:=fun y=>vI y
def wT(a:List ByteArray)(b:Int):Nat→St:=fun c=>Ab [(0,vL AC a),(1,vI b),(5,vN c)] []
def uN(a:List ByteArray):Unit→Nat×St:=fun _=>(0,Ab [(0,vL AC a)] [])
def X8(a:List ByteArray)(c:Int)(b:Nat):PT 0 (Lv (Nat) (Unit) (Int)):=vz (Ag a)<|br (decide ((b:Int)<(a.length:Int))&&decide ((b:Int)≤c)) (ix a b fun d=>vz (A2 d.size)<|br (decide ((300:Int)<(d.size:Int))) (vs (wi (c+10))<|Ap Qd (fun _=>[]) (c+10)) (vs (wa b 1)<|ln (wT a c) (b+1))) (Ak (uN a) ())
def Wp(a:List ByteArray)(b:Int):Nat→Option (Lv (Nat) (Unit) (Int)):=fun c=>(X8 a b c).m
def XV(a:List ByteArray):PT 0 (Int):=vz (Ag a)<|lr Qd (fun _=>[]) (a.length:Int)
def XH(a:List ByteArray)(b:Int):PT 0 (Int):=lc (Ab [(0,vL AC a),(1,vI b),(5,vI 0)] []) ((An (Wp a b) Aj 0).bind (Sum.elim (fun _=>(XV a).m) some))
def Xp(a:List ByteArray)(b:Int):PT 0 (Int):=lc (Ab [(0,vL AC a),(1,vI b)] []) ((XH a b).m)
def eh(a:List ByteArray)(b:Int):Option (Int):=(Xp a b).m
theorem ZJc{C:Cx}(co:CO C 0)(a:List ByteArray)(b:Int):KL Tryz.prog (AF tl) 27 C (pa [0,0,1,0,1] (AB Tryz.f42)) [.tmp 4] 0 (wT a b) (uN a) Qd (fun _=>[]) (Wp a b):=fun f _ hm Q c e d=>AA co Aa Ac (X8 a b f) (AN [0,1,5]) (AN [0]) e hm d fun r g=>⟨fun h=>⟨id,id⟩,id⟩
theorem JA(b:List ByteArray)(c:Int):KC Tryz.prog 42 [vL AC b,vI c] (eh b c) Qd:=Aw Tryz.func42 Tryz.ntmps42 Aa [.tmp 4] fun C co y hm d a=>Al co Aa Ac 1 (Xp b c) (AN [0,1]) nl (fun _ h=>h) hm a fun r g=>fun _ hm a=>sq (Al co Aa Ac 1 (XH b c) (AN [0,1,5]) nl (fun _ h=>h) hm a fun r g=>fun _ hm a=>bk 0 (lo (AG (ZJc co b c) (fun _ h=>h) hm a (fun _ hm=>Am co Aa Ac (XV b) hm a fun r g=>id))))
abbrev BZ:List (Ad×Bool):=[((1,1),false)]
abbrev BK(a:Scm):Ad×Blk:=((1,1),⟨0,true,26,3,[vL AE a.messages,vL AP a.enums,vL AZ a.services]⟩)
abbrev Az(a:Msg):Ad×Blk:=((1,5),⟨0,true,48,5,[vS a.name,vL Aq a.fields,vL AQ a.reserved,vL AC a.gone,vL Ax a.notes]⟩)
abbrev Wv(a:Enm):Ad×Blk:=((1,9),⟨0,true,93,5,[vS a.name,vB a.opn,vL Ca a.items,vL AQ a.reserved,vL Ax a.notes]⟩)
abbrev oA(a:Svc):Ad×Blk:=((1,12),⟨0,true,98,3,[vS a.name,vL GD a.methods,vL Ax a.notes]⟩)
abbrev GR:Bool→AV:=fun y=>vB y
def xm(a:Scm):Int×Nat→St:=fun(b,v2)=>Ab [(1,.ptr (1,1) 0 0),(3,vI b),(4,vN v2)] [(BK a)]
def xu(b:Scm):Int→Nat×St:=fun a=>(0,Ab [(1,.ptr (1,1) 0 0),(3,vI a)] [(BK b)])
def a2(b:Scm)(v2:Nat)(a:Msg):Int×Nat→St:=fun(c,d)=>Ab [(1,.ptr (1,1) 0 0),(3,vI c),(4,vN v2),(5,.ptr (1,5) 0 0),(6,vN d)] [(BK b),(Az a)]
def w6(b:Scm)(v2:Nat):Int→Nat×St:=fun a=>(2,Ab [(1,.ptr (1,1) 0 0),(3,vI a),(4,vN v2)] [(BK b)])
def aF(g:Scm)(v2:Nat)(f:Msg)(a:Int)(e:Nat):PT 0 (Lv (Int×Nat) (Int) (Bool)):=vw .go<|vz (Ag f.fields)<|br (decide ((e:Int)<(f.fields.length:Int))&&decide ((0:Int)≤a)) (vw .go<|ix f.fields e fun d=>vw .go<|vs (wi (a-1))<|vw .go<|cl (KQ d.notes a) fun b=>vs (wi ((a-1)-b))<|vw .go<|vw .go<|vw .go<|cl (JA ([d.name,d.type.name,d.union]:List ByteArray) a) fun c=>vs (wi (((a-1)-b)-c))<|vs (wi ((((a-1)-b)-c)+3))<|vw .go<|vz (A2 d.dflt.text.size)<|br (decide ((300:Int)<(d.dflt.text.size:Int))) (vs (wa e 1)<|ln (a2 g v2 f) ((-1),e+1)) (vs (wa e 1)<|ln (a2 g v2 f) (((((a-1)-b)-c)+3),e+1))) (Ak (w6 g v2) a)
def V9(b:Scm)(v2:Nat)(a:Msg):Int×Nat→Option (Lv (Int×Nat) (Int) (Bool)):=fun(c,d)=>(aF b v2 a c d).m
def Zt(b:Scm)(v2:Nat)(a:Int):PT 0 (Lv (Int×Nat) (Int) (Bool)):=vs (wa v2 1)<|ln (xm b) (a,v2+1)
def X2(d:Scm)(b:Int)(v2:Nat):PT 0 (Lv (Int×Nat) (Int) (Bool)):=vw .go<|ix d.messages v2 fun a=>vw .go<|vw .go<|cl (KQ a.notes b) fun c=>vs (wi (b-c))<|vw .go<|vz (Ag a.reserved)<|vs (wi ((b-c)-(a.reserved.length:Int)))<|vw .go<|cl (JA a.gone b) fun e=>vs (wi (((b-c)-(a.reserved.length:Int))-e))<|vw .go<|cl (JA ([a.name]:List ByteArray) b) fun g=>vs (wi ((((b-c)-(a.reserved.length:Int))-e)-g))<|lc (Ab [(1,.ptr (1,1) 0 0),(3,vI ((((b-c)-(a.reserved.length:Int))-e)-g)),(4,vN v2),(5,.ptr (1,5) 0 0),(6,vI 0)] [(BK d),(Az a)]) ((An (V9 d v2 a) Aj (((((b-c)-(a.reserved.length:Int))-e)-g),0)).bind (Sum.elim (fun f=>(Zt d v2 f).m) (fun z=>some (.rt z))))
def aT(a:Scm)(b:Int)(v2:Nat):PT 0 (Lv (Int×Nat) (Int) (Bool)):=vw .go<|vz (Ag a.messages)<|br (decide ((v2:Int)<(a.messages.length:Int))&&decide ((0:Int)≤b)) (lc (Ab [(1,.ptr (1,1) 0 0),(3,vI b),(4,vN v2)] [(BK a)]) ((X2 a b v2).m)) (Ak (xu a) b)
def VJ(a:Scm):Int×Nat→Option (Lv (Int×Nat) (Int) (Bool)):=fun(b,v2)=>(aT a b v2).m
def xz(c:Scm):Int×Nat→St:=fun(a,b)=>Ab [(1,.ptr (1,1) 0 0),(3,vI a),(8,vN b)] [(BK c)]
def ut(b:Scm):Int→Nat×St:=fun a=>(4,Ab [(1,.ptr (1,1) 0 0),(3,vI a)] [(BK b)])
def vQ(e:Scm)(b:Nat)(a:Enm):Int×Nat→St:=fun(c,d)=>Ab [(1,.ptr (1,1) 0 0),(3,vI c),(8,vN b),(9,.ptr (1,9) 0 0),(10,vN d)] [(BK e),(Wv a)]
def wb(c:Scm)(a:Nat):Int→Nat×St:=fun b=>(6,Ab [(1,.ptr (1,1) 0 0),(3,vI b),(8,vN a)] [(BK c)])
def bD(i:Scm)(e:Nat)(b:Enm)(a:Int)(c:Nat):PT 0 (Lv (Int×Nat) (Int) (Bool)):=vw .go<|vz (Ag b.items)<|br (decide ((c:Int)<(b.items.length:Int))&&decide ((0:Int)≤a)) (vw .go<|ix b.items c fun g=>cl (KQ g.notes a) fun d=>vs (wi (a-d))<|vw .go<|ix b.items c fun h=>cl (JA ([h.name]:List ByteArray) a) fun f=>vs (wi ((a-d)-f))<|vs (wa c 1)<|ln (vQ i e b) (((a-d)-f),c+1)) (Ak (wb i e) a)
def Ru(e:Scm)(b:Nat)(a:Enm):Int×Nat→Option (Lv (Int×Nat) (Int) (Bool)):=fun(c,d)=>(bD e b a c d).m
def Ze(c:Scm)(a:Nat)(b:Int):PT 0 (Lv (Int×Nat) (Int) (Bool)):=vs (wa a 1)<|ln (xz c) (b,a+1)
def Zs(f:Scm)(b:Int)(d:Nat):PT 0 (Lv (Int×Nat) (Int) (Bool)):=vw .go<|ix f.enums d fun a=>vw .go<|vw .go<|cl (KQ a.notes b) fun c=>vs (wi (b-c))<|vw .go<|vz (Ag a.reserved)<|vs (wi ((b-c)-(a.reserved.length:Int)))<|vw .go<|cl (JA ([a.name]:List ByteArray) b) fun e=>vs (wi (((b-c)-(a.reserved.length:Int))-e))<|lc (Ab [(1,.ptr (1,1) 0 0),(3,vI (((b-c)-(a.reserved.length:Int))-e)),(8,vN d),(9,.ptr (1,9) 0 0),(10,vI 0)] [(BK f),(Wv a)]) ((An (Ru f d a) Aj ((((b-c)-(a.reserved.length:Int))-e),0)).bind (Sum.elim (fun g=>(Ze f d g).m) (fun z=>some (.rt z))))
def XG(c:Scm)(a:Int)(b:Nat):PT 0 (Lv (Int×Nat) (Int) (Bool)):=vw .go<|vz (Ag c.enums)<|br (decide ((b:Int)<(c.enums.length:Int))&&decide ((0:Int)≤a)) (lc (Ab [(1,.ptr (1,1) 0 0),(3,vI a),(8,vN b)] [(BK c)]) ((Zs c a b).m)) (Ak (ut c) a)
def Q8(c:Scm):Int×Nat→Option (Lv (Int×Nat) (Int) (Bool)):=fun(a,b)=>(XG c a b).m
def xr(c:Scm):Int×Nat→St:=fun(a,b)=>Ab [(1,.ptr (1,1) 0 0),(3,vI a),(11,vN b)] [(BK c)]
def v6:Int→Nat×St:=fun a=>(8,Ab [(3,vI a)] [])
def xM(e:Scm)(b:Nat)(a:Svc):Int×Nat→St:=fun(c,d)=>Ab [(1,.ptr (1,1) 0 0),(3,vI c),(11,vN b),(12,.ptr (1,12) 0 0),(13,vN d)] [(BK e),(oA a)]
def u4(c:Scm)(a:Nat):Int→Nat×St:=fun b=>(10,Ab [(1,.ptr (1,1) 0 0),(3,vI b),(11,vN a)] [(BK c)])
def az(k:Scm)(f:Nat)(b:Svc)(a:Int)(c:Nat):PT 0 (Lv (Int×Nat) (Int) (Bool)):=vw .go<|vz (Ag b.methods)<|br (decide ((c:Int)<(b.methods.length:Int))&&decide ((0:Int)≤a)) (vw .go<|ix b.methods c fun g=>cl (KQ g.notes a) fun d=>vs (wi (a-d))<|vw .go<|ix b.methods c fun h=>vw .go<|ix b.methods c fun i=>vw .go<|ix b.methods c fun j=>cl (JA ([h.name,i.inn,j.out]:List ByteArray) a) fun e=>vs (wi ((a-d)-e))<|vs (wi (((a-d)-e)+2))<|vs (wa c 1)<|ln (xM k f b) ((((a-d)-e)+2),c+1)) (Ak (u4 k f) a)
def Rl(e:Scm)(b:Nat)(a:Svc):Int×Nat→Option (Lv (Int×Nat) (Int) (Bool)):=fun(c,d)=>(az e b a c d).m
def j7(c:Scm)(a:Nat)(b:Int):PT 0 (Lv (Int×Nat) (Int) (Bool)):=vs (wa a 1)<|ln (xr c) (b,a+1)
def iP(f:Scm)(a:Int)(c:Nat):PT 0 (Lv (Int×Nat) (Int) (Bool)):=vw .go<|ix f.services c fun b=>vw .go<|vw .go<|cl (KQ b.notes a) fun d=>vs (wi (a-d))<|vw .go<|cl (JA ([b.name]:List ByteArray) a) fun e=>vs (wi ((a-d)-e))<|lc (Ab [(1,.ptr (1,1) 0 0),(3,vI ((a-d)-e)),(11,vN c),(12,.ptr (1,12) 0 0),(13,vI 0)] [(BK f),(oA b)]) ((An (Rl f c b) Aj (((a-d)-e),0)).bind (Sum.elim (fun g=>(j7 f c g).m) (fun z=>some (.rt z))))
def mJ(c:Scm)(a:Int)(b:Nat):PT 0 (Lv (Int×Nat) (Int) (Bool)):=vw .go<|vz (Ag c.services)<|br (decide ((b:Int)<(c.services.length:Int))&&decide ((0:Int)≤a)) (lc (Ab [(1,.ptr (1,1) 0 0),(3,vI a),(11,vN b)] [(BK c)]) ((iP c a b).m)) (Ak (v6) a)
def Q9(c:Scm):Int×Nat→Option (Lv (Int×Nat) (Int) (Bool)):=fun(a,b)=>(mJ c a b).m
def kZ(a:Int):PT 0 (Bool):=lr GR (fun _=>[]) (decide ((0:Int)≤a))
def mf(c:Scm)(a:Int):PT 0 (Bool):=lc (Ab [(1,.ptr (1,1) 0 0),(3,vI a),(11,vI 0)] [(BK c)]) ((An (Q9 c) Aj (a,0)).bind (Sum.elim (fun b=>(kZ b).m) some))
def jv(b:Scm)(a:Int):PT 0 (Bool):=lc (Ab [(1,.ptr (1,1) 0 0),(3,vI a),(8,vI 0)] [(BK b)]) ((An (Q8 b) Aj (a,0)).bind (Sum.elim (fun c=>(mf b c).m) some))
def kD(a:Scm):PT 0 (Bool):=lc (Ab [(1,.ptr (1,1) 0 0),(3,vI 400),(4,vI 0)] [(BK a)]) ((An (VJ a) Aj (400,0)).bind (Sum.elim (fun b=>(jv a b).m) some))
def l5(a:Scm):PT 0 (Bool):=vw .go<|vz (Ag a.messages)<|vw .go<|vy (!(decide ((150:Int)<(a.messages.length:Int)))) (Ag a.enums)<|vw .go<|vy (!(decide ((150:Int)<(a.messages.length:Int))||decide ((150:Int)<(a.enums.length:Int)))) (Ag a.services)<|vw .go<|vy (!((decide ((150:Int)<(a.messages.length:Int))||decide ((150:Int)<(a.enums.length:Int)))||decide ((150:Int)<(a.services.length:Int)))) (Ag a.messages)<|vw .go<|vy (!((decide ((150:Int)<(a.messages.length:Int))||decide ((150:Int)<(a.enums.length:Int)))||decide ((150:Int)<(a.services.length:Int)))) (Ag a.enums)<|vg (!((decide ((150:Int)<(a.messages.length:Int))||decide ((150:Int)<(a.enums.length:Int)))||decide ((150:Int)<(a.services.length:Int)))) (wa a.messages.length a.enums.length)<|vw .go<|vy (!((decide ((150:Int)<(a.messages.length:Int))||decide ((150:Int)<(a.enums.length:Int)))||decide ((150:Int)<(a.services.length:Int)))) (Ag a.services)<|vg (!((decide ((150:Int)<(a.messages.length:Int))||decide ((150:Int)<(a.enums.length:Int)))||decide ((150:Int)<(a.services.length:Int)))) (wa (a.messages.length+a.enums.length) a.services.length)<|br (((decide ((150:Int)<(a.messages.length:Int))||decide ((150:Int)<(a.enums.length:Int)))||decide ((150:Int)<(a.services.length:Int)))||decide ((150:Int)<(((a.messages.length+a.enums.length)+a.services.length:Nat):Int))) (lr GR (fun _=>[]) false) (lc (Ab [(1,.ptr (1,1) 0 0),(3,vI 400)] [(BK a)]) ((kD a).m))
def dF(a:Scm):Option (Bool):=(l5 a).m
theorem ZIh{C:Cx}(co:CO C 0)(a:Scm)(v2:Nat)(b:Msg):KL Tryz.prog (AF tl) 258 C (pa [0,0,1,1,1,0,0,1,0,0,1,0,1,1,1] (AB Tryz.f18)) [.tmp 2] 0 (a2 a v2 b) (w6 a v2) GR (fun _=>[]) (V9 a v2 b):=fun(f,h) _ hm Q c e d=>AA co Aa Ac (aF a v2 b f h) (Ae [1,3,4,5,6] [((1,1),false),((1,5),false)]) (Ae [1,3,4] BZ) e hm d fun r g=>⟨fun k=>fun i=>fun j=>⟨id,id⟩,id⟩
theorem ZIv{C:Cx}(co:CO C 0)(a:Scm):KL Tryz.prog (AF tl) 258 C (pa [0,0,1,0,1,1,1] (AB Tryz.f18)) [.tmp 2] 0 (xm a) (xu a) GR (fun _=>[]) (VJ a):=fun(f,v2) _ hm Q e c b=>Al co Aa Ac 1 (aT a f v2) (Ae [1,3,4] BZ) (Ae [1,3] BZ) c hm b fun r g=>⟨fun _ hm b=>sq (bk 1 (Al co Aa Ac 3 (X2 a f v2) (Ae [1,3,4,5,6] [((1,1),false),((1,5),false)]) nl c hm b fun r g=>fun h=>fun i=>fun j=>fun k=>fun _ hm b=>bk 2 (lo (HH (ZIh co a v2 h) c hm b (fun d hm=>AA co Aa Ac (Zt a v2 d) (Ae [1,3,4] BZ) nl c hm b fun r g=>id))))),id⟩
theorem ZIB{C:Cx}(co:CO C 0)(c:Scm)(a:Nat)(b:Enm):KL Tryz.prog (AF tl) 258 C (pa [0,0,1,1,1,0,0,1,0,0,1,0,1,1,1,1] (AB Tryz.f18)) [.tmp 2] 0 (vQ c a b) (wb c a) GR (fun _=>[]) (Ru c a b):=fun(d,e) _ hm Q f k j=>AA co Aa Ac (bD c a b d e) (Ae [1,3,8,9,10] [((1,1),false),((1,9),false)]) (Ae [1,3,8] BZ) k hm j fun r g=>⟨fun h=>fun l=>fun i=>fun m=>id,id⟩
theorem ZG4{C:Cx}(co:CO C 0)(b:Scm):KL Tryz.prog (AF tl) 258 C (pa [0,0,1,0,1,1,1,1] (AB Tryz.f18)) [.tmp 2] 0 (xz b) (ut b) GR (fun _=>[]) (Q8 b):=fun(d,a) _ hm Q i e c=>Al co Aa Ac 1 (XG b d a) (Ae [1,3,8] BZ) (Ae [1,3] BZ) e hm c fun r g=>⟨fun _ hm c=>sq (bk 5 (Al co Aa Ac 3 (Zs b d a) (Ae [1,3,8,9,10] [((1,1),false),((1,9),false)]) nl e hm c fun r g=>fun f=>fun j=>fun k=>fun _ hm c=>bk 6 (lo (HH (ZIB co b a f) e hm c (fun h hm=>AA co Aa Ac (Ze b a h) (Ae [1,3,8] BZ) nl e hm c fun r g=>id))))),id⟩
theorem ZFJ{C:Cx}(co:CO C 0)(c:Scm)(a:Nat)(b:Svc):KL Tryz.prog (AF tl) 258 C (pa [0,0,1,1,1,0,0,1,0,0,1,0,1,1,1,1,1] (AB Tryz.f18)) [.tmp 2] 0 (xM c a b) (u4 c a) GR (fun _=>[]) (Rl c a b):=fun(d,e) _ hm Q f m l=>AA co Aa Ac (az c a b d e) (Ae [1,3,11,12,13] [((1,1),false),((1,12),false)]) (Ae [1,3,11] BZ) m hm l fun r g=>⟨fun h=>fun n=>fun i=>fun j=>fun k=>fun o=>id,id⟩
theorem ZHT{C:Cx}(co:CO C 0)(c:Scm):KL Tryz.prog (AF tl) 258 C (pa [0,0,1,0,1,1,1,1,1] (AB Tryz.f18)) [.tmp 2] 0 (xr c) (v6) GR (fun _=>[]) (Q9 c):=fun(d,a) _ hm Q i e b=>Al co Aa Ac 1 (mJ c d a) (Ae [1,3,11] BZ) (AN [3]) e hm b fun r g=>⟨fun _ hm b=>sq (bk 9 (Al co Aa Ac 3 (iP c d a) (Ae [1,3,11,12,13] [((1,1),false),((1,12),false)]) nl e hm b fun r g=>fun f=>fun j=>fun k=>fun _ hm b=>bk 10 (lo (HH (ZFJ co c a f) e hm b (fun h hm=>AA co Aa Ac (j7 c a h) (Ae [1,3,11] BZ) nl e hm b fun r g=>id))))),id⟩
theorem ZXz(b:Scm):KC Tryz.prog 18 [.agg ((Av b).map .d)] (dF b) GR:=Aw Tryz.func18 Tryz.ntmps18 Aa [.tmp 2] fun C co y hm f a=>Al co Aa Ac 3 (l5 b) (Ae [1,3] BZ) nl (fun _ h=>h) hm a fun r g=>⟨id,fun _ hm a=>sq (Al co Aa Ac 1 (kD b) (Ae [1,3,4] BZ) nl (fun _ h=>h) hm a fun r g=>fun _ hm a=>bk 0 (lo (AG (ZIv co b) (fun _ h=>h) hm a (fun c hm=>sq (Al co Aa Ac 1 (jv b c) (Ae [1,3,8] BZ) nl (fun _ h=>h) hm a fun r g=>fun _ hm a=>bk 4 (lo (AG (ZG4 co b) (fun _ h=>h) hm a (fun d hm=>sq (Al co Aa Ac 1 (mf b d) (Ae [1,3,11] BZ) nl (fun _ h=>h) hm a fun r g=>fun _ hm a=>bk 8 (lo (AG (ZHT co b) (fun _ h=>h) hm a (fun e hm=>Am co Aa Ac (kZ e) hm a fun r g=>id))))))))))))⟩
abbrev IU:List (Ad×Bool):=[((1,2),false),((1,5),true)]
abbrev EH:List (Ad×Bool):=[((1,2),false)]
abbrev GL(a:Scm):Ad×Blk:=((1,2),⟨0,true,26,3,[vL AE a.messages,vL AP a.enums,vL AZ a.services]⟩)
abbrev MV:List ByteArray→AV:=fun y=>vL AC y
def wh(b:Scm)(c:Int):List ByteArray×Nat→St:=fun(a,v2)=>Ab [(1,vI c),(2,.ptr (1,2) 0 0),(5,.ref (1,5) 0 0 a.length),(6,vN v2)] [(GL b),((1,5),⟨0,true,9,1,Af AC a⟩)]
def vH(b:Scm)(c:Int):List ByteArray→Nat×St:=fun a=>(0,Ab [(1,vI c),(2,.ptr (1,2) 0 0),(5,.ref (1,5) 0 0 a.length)] [(GL b),((1,5),⟨0,true,9,1,Af AC a⟩)])
def Z1(a:Scm)(c:Int)(b:List ByteArray)(v2:Nat):PT 0 (Lv (List ByteArray×Nat) (List ByteArray) (List ByteArray)):=vw .go<|vy (decide (c=(1:Int))) (Ag a.messages)<|br (decide (c=(1:Int))&&decide ((v2:Int)<(a.messages.length:Int))) (vw .go<|ix a.messages v2 fun d=>vw .sep<|ap b (d.name:ByteArray)<|vs (wa v2 1)<|vz (fl (b++[d.name]))<|ln (wh a c) (b++[d.name],v2+1)) (vz (fl b)<|Ak (vH a c) b)
def Rz(a:Scm)(b:Int):List ByteArray×Nat→Option (Lv (List ByteArray×Nat) (List ByteArray) (List ByteArray)):=fun(c,v2)=>(Z1 a b c v2).m
def ws(b:Scm)(c:Int):List ByteArray×Nat→St:=fun(a,d)=>Ab [(1,vI c),(2,.ptr (1,2) 0 0),(5,.ref (1,5) 0 0 a.length),(7,vN d)] [(GL b),((1,5),⟨0,true,9,1,Af AC a⟩)]
def xY(b:Scm)(c:Int):List ByteArray→Nat×St:=fun a=>(2,Ab [(1,vI c),(2,.ptr (1,2) 0 0),(5,.ref (1,5) 0 0 a.length)] [(GL b),((1,5),⟨0,true,9,1,Af AC a⟩)])
def Z4(a:Scm)(c:Int)(b:List ByteArray)(d:Nat):PT 0 (Lv (List ByteArray×Nat) (List ByteArray) (List ByteArray)):=vw .go<|vy (decide (c=(2:Int))) (Ag a.enums)<|br (decide (c=(2:Int))&&decide ((d:Int)<(a.enums.length:Int))) (vw .go<|ix a.enums d fun e=>vw .sep<|ap b (e.name:ByteArray)<|vs (wa d 1)<|vz (fl (b++[e.name]))<|ln (ws a c) (b++[e.name],d+1)) (vz (fl b)<|Ak (xY a c) b)
def VP(a:Scm)(b:Int):List ByteArray×Nat→Option (Lv (List ByteArray×Nat) (List ByteArray) (List ByteArray)):=fun(c,d)=>(Z4 a b c d).m
def x6(c:Scm)(d:Int):List ByteArray×Nat→St:=fun(b,a)=>Ab [(1,vI d),(2,.ptr (1,2) 0 0),(5,.ref (1,5) 0 0 b.length),(8,vN a)] [(GL c),((1,5),⟨0,true,9,1,Af AC b⟩)]
def u7:List ByteArray→Nat×St:=fun a=>(4,Ab [(5,.ref (1,5) 0 0 a.length)] [((1,5),⟨0,true,9,1,Af AC a⟩)])
def Zc(d:Scm)(e:Int)(c:List ByteArray)(a:Nat):PT 0 (Lv (List ByteArray×Nat) (List ByteArray) (List ByteArray)):=vw .go<|vy (decide (e=(3:Int))) (Ag d.services)<|br (decide (e=(3:Int))&&decide ((a:Int)<(d.services.length:Int))) (vw .go<|ix d.services a fun b=>vw .sep<|ap c (b.name:ByteArray)<|vs (wa a 1)<|vz (fl (c++[b.name]))<|ln (x6 d e) (c++[b.name],a+1)) (vz (fl c)<|Ak (u7) c)
def VI(b:Scm)(c:Int):List ByteArray×Nat→Option (Lv (List ByteArray×Nat) (List ByteArray) (List ByteArray)):=fun(d,a)=>(Zc b c d a).m
def aR(a:List ByteArray):PT 0 (List ByteArray):=vz (fr a)<|lr MV (fun _=>[]) a
def XT(c:Scm)(d:Int)(a:List ByteArray):PT 0 (List ByteArray):=vz (fl a)<|lc (Ab [(1,vI d),(2,.ptr (1,2) 0 0),(5,.ref (1,5) 0 0 a.length),(8,vI 0)] [(GL c),((1,5),⟨0,true,9,1,Af AC a⟩)]) ((An (VI c d) Aj (a,0)).bind (Sum.elim (fun b=>(aR b).m) some))
def bu(b:Scm)(c:Int)(a:List ByteArray):PT 0 (List ByteArray):=vz (fl a)<|lc (Ab [(1,vI c),(2,.ptr (1,2) 0 0),(5,.ref (1,5) 0 0 a.length),(7,vI 0)] [(GL b),((1,5),⟨0,true,9,1,Af AC a⟩)]) ((An (VP b c) Aj (a,0)).bind (Sum.elim (fun d=>(XT b c d).m) some))
def bx(a:Scm)(b:Int):PT 0 (List ByteArray):=vw (.ads 5 5 9 1)<|vz (fl ([]:List ByteArray))<|lc (Ab [(1,vI b),(2,.ptr (1,2) 0 0),(5,.ref (1,5) 0 0 ([]:List ByteArray).length),(6,vI 0)] [(GL a),((1,5),⟨0,true,9,1,Af AC ([]:List ByteArray)⟩)]) ((An (Rz a b) Aj (([]:List ByteArray),0)).bind (Sum.elim (fun c=>(bu a b c).m) some))
def XO(a:Scm)(b:Int):PT 0 (List ByteArray):=lc (Ab [(1,vI b),(2,.ptr (1,2) 0 0),(5,.e0),(6,vI 0)] [(GL a)]) ((bx a b).m)
def bh(a:Scm)(b:Int):PT 0 (List ByteArray):=lc (Ab [(1,vI b),(2,.ptr (1,2) 0 0),(5,.e0)] [(GL a)]) ((XO a b).m)
def ea(a:Scm)(b:Int):Option (List ByteArray):=(bh a b).m
theorem ZIT{C:Cx}(co:CO C 0)(a:Scm)(b:Int):KL Tryz.prog (AF tl) 70 C (pa [0,0,1,0,1,1] (AB Tryz.f71)) [.tmp 4] 0 (wh a b) (vH a b) MV (fun _=>[]) (Rz a b):=fun(f,v2) _ hm Q c e d=>AA co Aa Ac (Z1 a b f v2) (Ae [1,2,5,6] IU) (Ae [1,2,5] IU) e hm d fun r g=>⟨fun h=>id,id⟩
theorem ZF9{C:Cx}(co:CO C 0)(a:Scm)(b:Int):KL Tryz.prog (AF tl) 70 C (pa [0,0,1,0,1,1,1] (AB Tryz.f71)) [.tmp 4] 0 (ws a b) (xY a b) MV (fun _=>[]) (VP a b):=fun(f,h) _ hm Q c e d=>AA co Aa Ac (Z4 a b f h) (Ae [1,2,5,7] IU) (Ae [1,2,5] IU) e hm d fun r g=>⟨fun i=>id,id⟩
theorem ZGM{C:Cx}(co:CO C 0)(a:Scm)(b:Int):KL Tryz.prog (AF tl) 70 C (pa [0,0,1,0,1,1,1,1] (AB Tryz.f71)) [.tmp 4] 0 (x6 a b) (u7) MV (fun _=>[]) (VI a b):=fun(i,c) _ hm Q d h f=>AA co Aa Ac (Zc a b i c) (Ae [1,2,5,8] IU) (Ae [5] [((1,5),true)]) h hm f fun r g=>⟨fun e=>id,id⟩
theorem RW(b:Scm)(c:Int):KC Tryz.prog 71 [.agg ((Av b).map .d),vI c] (ea b c) MV:=Aw Tryz.func71 Tryz.ntmps71 Aa [.tmp 4] fun C co y hm e a=>Al co Aa Ac 2 (bh b c) (Ae [1,2,5] EH) nl (fun _ h=>h) hm a fun r g=>fun _ hm a=>sq (Al co Aa Ac 1 (XO b c) (Ae [1,2,5,6] EH) nl (fun _ h=>h) hm a fun r g=>fun _ hm a=>bk 0 (Hy co (bx b c) (Ae [1,2,5,6] IU) hm a fun r g=>fun _ hm a=>lo (AG (ZIT co b c) (fun _ h=>h) hm a (fun f hm=>sq (Al co Aa Ac 1 (bu b c f) (Ae [1,2,5,7] IU) nl (fun _ h=>h) hm a fun r g=>fun _ hm a=>bk 2 (lo (AG (ZF9 co b c) (fun _ h=>h) hm a (fun i hm=>sq (Al co Aa Ac 1 (XT b c i) (Ae [1,2,5,8] IU) nl (fun _ h=>h) hm a fun r g=>fun _ hm a=>bk 4 (lo (AG (ZGM co b c) (fun _ h=>h) hm a (fun d hm=>Am co Aa Ac (aR d) hm a fun r g=>id))))))))))))
abbrev E0:List (Ad×Bool):=[((0,0),false),((0,1),true)]
abbrev C5(e:ByteArray)(z:List Prb):List (Ad×Blk):=[((0,0),⟨0,true,124,2,[vS e,.ref (0,1) 0 0 z.length]⟩),((0,1),⟨0,true,159,3,Af AD z⟩)]
abbrev WL:List Prb→AV:=fun y=>.tup []
@[reducible] def WT(a:ByteArray):List Prb→List Blk:=fun y=>[⟨0,true,124,2,[vS a,.ref (0,1) 0 0 y.length]⟩,⟨0,true,159,3,Af AD y⟩]
def aK(a:ByteArray)(b:List Prb)(c:Int)(d:Int):PT 2 (List Prb):=lr WL (WT a) (b++([(.mk a c d:Prb)]))
def X7(a:ByteArray)(b:List Prb)(c:Int)(d:Int):PT 2 (List Prb):=vw .go<|vw .go<|vw .sep<|ap b ((.mk a c d:Prb):Prb)<|GP 1 (Af AD [(.mk a c d:Prb)]) (fun _=>Zo6 _)<|vw .go<|vwl 0 [.ref (0,1) 1 0 (b++([(.mk a c d:Prb)])).length]<|vz (fl (b++([(.mk a c d:Prb)])))<|lc (Ab [] (C5 a (b++([(.mk a c d:Prb)])))) ((aK a b c d).m)
def XI(a:ByteArray)(b:List Prb):PT 2 (List Prb):=lr WL (WT a) b
def bm(a:ByteArray)(b:List Prb)(c:Bool)(d:Int)(e:Int):PT 2 (List Prb):=vz (fl b)<|lc (Ab [(0,.ptr (0,0) 0 0),(2,vI d),(3,vI e),(8,vB c)] (C5 a b)) (if c=true then(X7 a b d e).m else(XI a b).m)
def Br(a:ByteArray)(b:List Prb)(c:Bool)(d:Int)(e:Int):Option (List Prb):=(bm a b c d e).m
theorem BH(a:ByteArray)(b:List Prb)(f:Bool)(d:Int)(e:Int):KG Tryz.prog 72 2 [1] [(1,0)] [.ptr (0,0) 0 0,vB f,vI d,vI e] [⟨0,true,124,2,[vS a,.ref (0,1) 0 0 b.length]⟩,⟨0,true,159,3,Af AD b⟩] (Br a b f d e) WL (WT a):=oG Tryz.func72 Tryz.ntmps72 Aa [] 2 [1] [0] [(1,0)] (fun C co i y hm j c=>Al co Aa Ac 1 (bm a b f d e) (Ae [0,2,3,8] E0) nl (fun _ h=>h) hm c fun r g=>fun _ hm c=>cd f hm (fun hm=>F2 co Aa Ac (.fst 0 (.fst 1 (.fst 2 (.fst 3 (.fst 5 (.fst 6 (.fst 7 (.fst 9 (.fst 10 (.fst 4 (.fst 8 (.fst 11 (.fst 12 (.fst 13 (.fst 14 (.fst 15 (.fst 16 .nil))))))))))))))))) [] (X7 a b d e) (Ae [] E0) hm c fun r g=>⟨ZNy g i,fun _ hm c=>cR (aK a b d e) co hm c (fun r g=>id) r g⟩) (fun hm=>Am co Aa Ac (XI a b) hm c fun r g=>id))
abbrev Qg:Bool→AV:=fun y=>vB y
def uB(a:List ByteArray):Nat→St:=fun b=>Ab [(0,vL AC a),(3,vN b)] []
def xG:Unit→Nat×St:=fun _=>(0,Ab [] [])
def Zu(b:List ByteArray)(a:Nat):PT 0 (Lv (Nat) (Unit) (Bool)):=vz (Ag b)<|br (decide ((a:Int)<(b.length:Int))) (ix b a fun c=>vs (wi ((a:Int)-1))<|B4 b ((a:Int)-1) fun d=>br (Bp c d||decide (c=d)) (Ap Qg (fun _=>[]) false) (vs (wa a 1)<|ln (uB b) (a+1))) (Ak (xG) ())
def VZ(a:List ByteArray):Nat→Option (Lv (Nat) (Unit) (Bool)):=fun b=>(Zu a b).m
def Zo:PT 0 (Bool):=lr Qg (fun _=>[]) true
def Xm(a:List ByteArray):PT 0 (Bool):=lc (Ab [(0,vL AC a),(3,vI 1)] []) ((An (VZ a) Aj 1).bind (Sum.elim (fun _=>(Zo).m) some))
def aU(a:List ByteArray):PT 0 (Bool):=lc (Ab [(0,vL AC a)] []) ((Xm a).m)
def ee(a:List ByteArray):Option (Bool):=(aU a).m
theorem ZJd{C:Cx}(co:CO C 0)(a:List ByteArray):KL Tryz.prog (AF tl) 20 C (pa [0,0,1,0,1] (AB Tryz.f73)) [.tmp 2] 0 (uB a) (xG) Qg (fun _=>[]) (VZ a):=fun e _ hm Q b d c=>AA co Aa Ac (Zu a e) (AN [0,3]) nl d hm c fun r g=>⟨fun f=>fun h=>⟨id,id⟩,id⟩
theorem ZXr(b:List ByteArray):KC Tryz.prog 73 [vL AC b] (ee b) Qg:=Aw Tryz.func73 Tryz.ntmps73 Aa [.tmp 2] fun C co y hm c a=>Al co Aa Ac 1 (aU b) (AN [0]) nl (fun _ h=>h) hm a fun r g=>fun _ hm a=>sq (Al co Aa Ac 1 (Xm b) (AN [0,3]) nl (fun _ h=>h) hm a fun r g=>fun _ hm a=>bk 0 (lo (AG (ZJd co b) (fun _ h=>h) hm a (fun _ hm=>Am co Aa Ac (Zo) hm a fun r g=>id))))
abbrev Sa:Bool→AV:=fun y=>vB y
def qA(a:List ByteArray)(b:ByteArray):Nat→St:=fun c=>Ab [(0,vL AC a),(1,vS b),(5,vN c)] []
def sZ:Unit→Nat×St:=fun _=>(0,Ab [] [])
def UP(a:List ByteArray)(c:ByteArray)(b:Nat):PT 0 (Lv (Nat) (Unit) (Bool)):=vz (Ag a)<|br (decide ((b:Int)<(a.length:Int))) (ix a b fun d=>br (decide (d=c)) (Ap Sa (fun _=>[]) true) (vs (wa b 1)<|ln (qA a c) (b+1))) (Ak (sZ) ())
def LX(a:List ByteArray)(b:ByteArray):Nat→Option (Lv (Nat) (Unit) (Bool)):=fun c=>(UP a b c).m
def Vb:PT 0 (Bool):=lr Sa (fun _=>[]) false
def UW(a:List ByteArray)(b:ByteArray):PT 0 (Bool):=lc (Ab [(0,vL AC a),(1,vS b),(5,vI 0)] []) ((An (LX a b) Aj 0).bind (Sum.elim (fun _=>(Vb).m) some))
def Va(a:List ByteArray)(b:ByteArray):PT 0 (Bool):=lc (Ab [(0,vL AC a),(1,vS b)] []) ((UW a b).m)
def N1(a:List ByteArray)(b:ByteArray):Option (Bool):=(Va a b).m
theorem ZBG{C:Cx}(co:CO C 0)(a:List ByteArray)(b:ByteArray):KL Tryz.prog (AF tl) 18 C (pa [0,0,1,0,1] (AB Tryz.f106)) [.tmp 4] 0 (qA a b) (sZ) Sa (fun _=>[]) (LX a b):=fun f _ hm Q c e d=>AA co Aa Ac (UP a b f) (AN [0,1,5]) nl e hm d fun r g=>⟨fun h=>⟨id,id⟩,id⟩
theorem vW(b:List ByteArray)(c:ByteArray):KC Tryz.prog 106 [vL AC b,vS c] (N1 b c) Sa:=Aw Tryz.func106 Tryz.ntmps106 Aa [.tmp 4] fun C co y hm d a=>Al co Aa Ac 1 (Va b c) (AN [0,1]) nl (fun _ h=>h) hm a fun r g=>fun _ hm a=>sq (Al co Aa Ac 1 (UW b c) (AN [0,1,5]) nl (fun _ h=>h) hm a fun r g=>fun _ hm a=>bk 0 (lo (AG (ZBG co b c) (fun _ h=>h) hm a (fun _ hm=>Am co Aa Ac (Vb) hm a fun r g=>id))))
abbrev Qh:Bool→AV:=fun y=>vB y
def wG(a:List ByteArray)(b:List ByteArray):Nat→St:=fun c=>Ab [(0,vL AC a),(1,vL AC b),(5,vN c)] []
def wM:Unit→Nat×St:=fun _=>(0,Ab [] [])
def ZO(a:List ByteArray)(c:List ByteArray)(b:Nat):PT 0 (Lv (Nat) (Unit) (Bool)):=vz (Ag a)<|br (decide ((b:Int)<(a.length:Int))) (ix a b fun d=>cl (vW c d) fun e=>br e (Ap Qh (fun _=>[]) true) (vs (wa b 1)<|ln (wG a c) (b+1))) (Ak (wM) ())
def Wl(a:List ByteArray)(b:List ByteArray):Nat→Option (Lv (Nat) (Unit) (Bool)):=fun c=>(ZO a b c).m
def X3:PT 0 (Bool):=lr Qh (fun _=>[]) false
def ZZ(a:List ByteArray)(b:List ByteArray):PT 0 (Bool):=lc (Ab [(0,vL AC a),(1,vL AC b),(5,vI 0)] []) ((An (Wl a b) Aj 0).bind (Sum.elim (fun _=>(X3).m) some))
def Z7(a:List ByteArray)(b:List ByteArray):PT 0 (Bool):=lc (Ab [(0,vL AC a),(1,vL AC b)] []) ((ZZ a b).m)
def eP(a:List ByteArray)(b:List ByteArray):Option (Bool):=(Z7 a b).m
theorem ZJ6{C:Cx}(co:CO C 0)(a:List ByteArray)(b:List ByteArray):KL Tryz.prog (AF tl) 18 C (pa [0,0,1,0,1] (AB Tryz.f74)) [.tmp 4] 0 (wG a b) (wM) Qh (fun _=>[]) (Wl a b):=fun f _ hm Q c e d=>AA co Aa Ac (ZO a b f) (AN [0,1,5]) nl e hm d fun r g=>⟨fun h=>fun i=>⟨id,id⟩,id⟩
theorem bW(b:List ByteArray)(c:List ByteArray):KC Tryz.prog 74 [vL AC b,vL AC c] (eP b c) Qh:=Aw Tryz.func74 Tryz.ntmps74 Aa [.tmp 4] fun C co y hm d a=>Al co Aa Ac 1 (Z7 b c) (AN [0,1]) nl (fun _ h=>h) hm a fun r g=>fun _ hm a=>sq (Al co Aa Ac 1 (ZZ b c) (AN [0,1,5]) nl (fun _ h=>h) hm a fun r g=>fun _ hm a=>bk 0 (lo (AG (ZJ6 co b c) (fun _ h=>h) hm a (fun _ hm=>Am co Aa Ac (X3) hm a fun r g=>id))))
abbrev oB(a:Scm):Ad×Blk:=((1,2),⟨0,true,26,3,[vL AE a.messages,vL AP a.enums,vL AZ a.services]⟩)
abbrev RT:Int→AV:=fun y=>vI y
def qw(a:Scm)(b:ByteArray):Nat→St:=fun c=>Ab [(1,vS b),(2,.ptr (1,2) 0 0),(5,vN c)] [(oB a)]
def tb:Unit→Nat×St:=fun _=>(0,Ab [] [])
def oq(b:Scm)(c:ByteArray)(a:Nat):PT 0 (Lv (Nat) (Unit) (Int)):=vw .go<|vz (Ag b.messages)<|br (decide ((a:Int)<(b.messages.length:Int))) (vw .go<|ix b.messages a fun d=>br (decide (d.name=c)) (Ap RT (fun _=>[]) (a:Int)) (vs (wa a 1)<|ln (qw b c) (a+1))) (Ak (tb) ())
def UD(a:Scm)(b:ByteArray):Nat→Option (Lv (Nat) (Unit) (Int)):=fun c=>(oq a b c).m
def ny:PT 0 (Int):=lr RT (fun _=>[]) (-1)
def jo(a:Scm)(b:ByteArray):PT 0 (Int):=lc (Ab [(1,vS b),(2,.ptr (1,2) 0 0),(5,vI 0)] [(oB a)]) ((An (UD a b) Aj 0).bind (Sum.elim (fun _=>(ny).m) some))
def jx(a:Scm)(b:ByteArray):PT 0 (Int):=lc (Ab [(1,vS b),(2,.ptr (1,2) 0 0)] [(oB a)]) ((jo a b).m)
def ec(a:Scm)(b:ByteArray):Option (Int):=(jx a b).m
theorem Zzp{C:Cx}(co:CO C 0)(a:Scm)(b:ByteArray):KL Tryz.prog (AF tl) 22 C (pa [0,0,1,0,1] (AB Tryz.f117)) [.tmp 4] 0 (qw a b) (tb) RT (fun _=>[]) (UD a b):=fun f _ hm Q c e d=>AA co Aa Ac (oq a b f) (Ae [1,2,5] EH) nl e hm d fun r g=>⟨fun h=>⟨id,id⟩,id⟩
theorem PN(b:Scm)(c:ByteArray):KC Tryz.prog 117 [.agg ((Av b).map .d),vS c] (ec b c) RT:=Aw Tryz.func117 Tryz.ntmps117 Aa [.tmp 4] fun C co y hm d a=>Al co Aa Ac 1 (jx b c) (Ae [1,2] EH) nl (fun _ h=>h) hm a fun r g=>fun _ hm a=>sq (Al co Aa Ac 1 (jo b c) (Ae [1,2,5] EH) nl (fun _ h=>h) hm a fun r g=>fun _ hm a=>bk 0 (lo (AG (Zzp co b c) (fun _ h=>h) hm a (fun _ hm=>Am co Aa Ac (ny) hm a fun r g=>id))))
abbrev P1:List (Ad×Bool):=[((1,3),false),((1,4),false)]
abbrev oC(a:Scm):Ad×Blk:=((1,3),⟨0,true,26,3,[vL AE a.messages,vL AP a.enums,vL AZ a.services]⟩)
abbrev oD(a:Msg):Ad×Blk:=((1,4),⟨0,true,48,5,[vS a.name,vL Aq a.fields,vL AQ a.reserved,vL AC a.gone,vL Ax a.notes]⟩)
abbrev RY:Bool→AV:=fun y=>vB y
def iO(a:Scm)(b:Msg)(c:List Bool):Nat→St:=fun d=>Ab [(2,vL AO c),(3,.ptr (1,3) 0 0),(4,.ptr (1,4) 0 0),(7,vN d)] [(oC a),(oD b)]
def rP:Unit→Nat×St:=fun _=>(0,Ab [] [])
def nc(d:Scm)(b:Msg)(e:List Bool)(a:Nat):PT 0 (Lv (Nat) (Unit) (Bool)):=vw .go<|vz (Ag b.fields)<|br (decide ((a:Int)<(b.fields.length:Int))) (vw .go<|ix b.fields a fun c=>vw .go<|vw .go<|vw .go<|br ((!decide (c.card=(1:Int)))||(!decide (c.type.kind=(10:Int)))) (vs (wa a 1)<|ln (iO d b e) (a+1)) (vw .go<|vw .go<|cl (PN d c.type.name) fun f=>A4 (decide ((0:Int)≤f)) e f fun g=>br (decide ((0:Int)≤f)&&(!g)) (Ap RY (fun _=>[]) true) (vs (wa a 1)<|ln (iO d b e) (a+1)))) (Ak (rP) ())
def VG(a:Scm)(b:Msg)(c:List Bool):Nat→Option (Lv (Nat) (Unit) (Bool)):=fun d=>(nc a b c d).m
def l7:PT 0 (Bool):=lr RY (fun _=>[]) false
def i1(a:Scm)(b:Msg)(c:List Bool):PT 0 (Bool):=lc (Ab [(2,vL AO c),(3,.ptr (1,3) 0 0),(4,.ptr (1,4) 0 0),(7,vI 0)] [(oC a),(oD b)]) ((An (VG a b c) Aj 0).bind (Sum.elim (fun _=>(l7).m) some))
def ot(a:Scm)(b:Msg)(c:List Bool):PT 0 (Bool):=lc (Ab [(2,vL AO c),(3,.ptr (1,3) 0 0),(4,.ptr (1,4) 0 0)] [(oC a),(oD b)]) ((i1 a b c).m)
def dH(a:Scm)(b:Msg)(c:List Bool):Option (Bool):=(ot a b c).m
theorem ZBm{C:Cx}(co:CO C 0)(a:Scm)(b:Msg)(c:List Bool):KL Tryz.prog (AF tl) 45 C (pa [0,0,1,0,1] (AB Tryz.f107)) [.tmp 6] 0 (iO a b c) (rP) RY (fun _=>[]) (VG a b c):=fun h _ hm Q d f e=>AA co Aa Ac (nc a b c h) (Ae [2,3,4,7] P1) nl f hm e fun r g=>⟨fun i=>⟨id,fun k=>fun j=>⟨id,id⟩⟩,id⟩
theorem ZTF(b:Scm)(c:Msg)(d:List Bool):KC Tryz.prog 107 [.agg ((Av b).map .d),.agg ((AE c).map .d),vL AO d] (dH b c d) RY:=Aw Tryz.func107 Tryz.ntmps107 Aa [.tmp 6] fun C co y hm e a=>Al co Aa Ac 1 (ot b c d) (Ae [2,3,4] P1) nl (fun _ h=>h) hm a fun r g=>fun _ hm a=>sq (Al co Aa Ac 1 (i1 b c d) (Ae [2,3,4,7] P1) nl (fun _ h=>h) hm a fun r g=>fun _ hm a=>bk 0 (lo (AG (ZBm co b c d) (fun _ h=>h) hm a (fun _ hm=>Am co Aa Ac (l7) hm a fun r g=>id))))
abbrev oF:List (Ad×Bool):=[((0,0),true),((1,3),false),((1,4),false)]
abbrev Ds:List (Ad×Bool):=[((0,0),true)]
abbrev oE(a:Scm):Ad×Blk:=((1,3),⟨0,true,26,3,[vL AE a.messages,vL AP a.enums,vL AZ a.services]⟩)
abbrev cq(a:Msg):Ad×Blk:=((1,4),⟨0,true,48,5,[vS a.name,vL Aq a.fields,vL AQ a.reserved,vL AC a.gone,vL Ax a.notes]⟩)
abbrev UO:Bool→AV:=fun y=>vB y
@[reducible] def UE(a:List Bool):Bool→List Blk:=fun y=>[⟨0,true,4,1,Af AO a⟩]
def gT(b:Scm)(c:Msg)(a:List Bool):Nat→St:=fun d=>Ab [(2,.ref (0,0) 0 0 a.length),(3,.ptr (1,3) 0 0),(4,.ptr (1,4) 0 0),(7,vN d)] [((0,0),⟨0,true,4,1,Af AO a⟩),(oE b),(cq c)]
def ZnQ(a:List Bool):Unit→Nat×St:=fun _=>(0,Ab [] [((0,0),⟨0,true,4,1,Af AO a⟩)])
def gZ(f:Scm)(c:Msg)(a:List Bool)(b:Nat):PT 1 (Lv (Nat) (Unit) (Bool)):=vw .go<|vz (Ag c.fields)<|br (decide ((b:Int)<(c.fields.length:Int))) (vw .go<|ix c.fields b fun e=>vw .go<|vw .go<|vw .go<|br ((!decide (e.card=(1:Int)))||(!decide (e.type.kind=(10:Int)))) (vs (wa b 1)<|vz (fl a)<|ln (gT f c a) (b+1)) (vw .go<|vw .go<|cl (PN f e.type.name) fun d=>vg (decide ((0:Int)≤d)) (Cu d a.length 1)<|cag (decide ((0:Int)≤d)) a d.toNat fun g=>br (decide ((0:Int)≤d)&&(!g)) (Ap UO (UE a) true) (vs (wa b 1)<|vz (fl a)<|ln (gT f c a) (b+1)))) (vz (fl a)<|Ak (ZnQ a) ())
def TW(a:Scm)(b:Msg)(c:List Bool):Nat→Option (Lv (Nat) (Unit) (Bool)):=fun d=>(gZ a b c d).m
def gL(a:List Bool):PT 1 (Bool):=lr UO (UE a) false
def g8(b:Scm)(c:Msg)(a:List Bool):PT 1 (Bool):=vz (fl a)<|lc (Ab [(2,.ref (0,0) 0 0 a.length),(3,.ptr (1,3) 0 0),(4,.ptr (1,4) 0 0),(7,vI 0)] [((0,0),⟨0,true,4,1,Af AO a⟩),(oE b),(cq c)]) ((An (TW b c a) Aj 0).bind (Sum.elim (fun _=>(gL a).m) some))
def gK(b:Scm)(c:Msg)(a:List Bool):PT 1 (Bool):=vz (fl a)<|lc (Ab [(2,.ref (0,0) 0 0 a.length),(3,.ptr (1,3) 0 0),(4,.ptr (1,4) 0 0)] [((0,0),⟨0,true,4,1,Af AO a⟩),(oE b),(cq c)]) ((g8 b c a).m)
def S5(a:Scm)(b:Msg)(c:List Bool):Option (Bool):=(gK a b c).m
theorem ZqK{C:Cx}(co:CO C 1)(b:Scm)(c:Msg)(a:List Bool):KL Tryz.prog (AF tl) 45 C (pa [0,0,1,0,1] (AB Tryz.f107)) [.tmp 6] 1 (gT b c a) (ZnQ a) UO (UE a) (TW b c a):=fun h _ hm Q d f e=>AA co Aa Ac (gZ b c a h) (Ae [2,3,4,7] oF) (Ae [] Ds) f hm e fun r g=>⟨fun i=>⟨id,fun k=>fun j=>⟨id,id⟩⟩,id⟩
theorem ZKR(c:Scm)(d:Msg)(a:List Bool):KO Tryz.prog 107 1 [.agg ((Av c).map .d),.agg ((AE d).map .d),.ref (0,0) 0 0 a.length] [⟨0,true,4,1,Af AO a⟩] (fun _ _ _ _=>True) (S5 c d a) UO (UE a):=Be Tryz.func107 Tryz.ntmps107 Aa [.tmp 6] 1 (fun C co f y hm e b=>Al co Aa Ac 1 (gK c d a) (Ae [2,3,4] oF) nl (fun _ h=>h) hm b fun r g=>fun _ hm b=>sq (Al co Aa Ac 1 (g8 c d a) (Ae [2,3,4,7] oF) nl (fun _ h=>h) hm b fun r g=>fun _ hm b=>bk 0 (lo (AG (ZqK co c d a) (fun _ h=>h) hm b (fun _ hm=>Am co Aa Ac (gL a) hm b fun r g=>id))))) (hB:=fun y=>⟨.inl (A0 _ _),rfl,trivial⟩)
abbrev F9:List (Ad×Bool):=[((1,1),false),((1,10),true)]
abbrev Ji(a:Scm):Ad×Blk:=((1,1),⟨0,true,26,3,[vL AE a.messages,vL AP a.enums,vL AZ a.services]⟩)
abbrev Qi:List Bool→AV:=fun y=>vL AO y
def xR(b:Scm):Bool×Nat×List Bool→St:=fun(c,v2,a)=>Ab [(1,.ptr (1,1) 0 0),(3,.ref (1,10) 0 0 a.length),(4,vB c),(5,vN v2)] [(Ji b),((1,10),⟨0,true,4,1,Af AO a⟩)]
def wx:List Bool→Nat×St:=fun a=>(0,Ab [(3,.ref (1,10) 0 0 a.length)] [((1,10),⟨0,true,4,1,Af AO a⟩)])
def Xz(b:Scm)(v2:Nat):Bool×Nat×List Bool→St:=fun(v4,v5,a)=>Ab [(1,.ptr (1,1) 0 0),(3,.ref (1,10) 0 0 a.length),(4,vB v4),(5,vN v2),(6,vN v5)] [(Ji b),((1,10),⟨0,true,4,1,Af AO a⟩)]
def xA(c:Scm)(v2:Nat):Bool×List Bool→Nat×St:=fun(b,a)=>(2,Ab [(1,.ptr (1,1) 0 0),(3,.ref (1,10) 0 0 a.length),(4,vB b),(5,vN v2)] [(Ji c),((1,10),⟨0,true,4,1,Af AO a⟩)])
def Z2(b:Scm)(v2:Nat)(v4:Bool)(v5:Nat)(a:List Bool):PT 0 (Lv (Bool×Nat×List Bool) (Bool×List Bool) (List Bool)):=vw .go<|vz (Ag b.messages)<|br (decide ((v5:Int)<(b.messages.length:Int))) (vs (ir v5 a.length 1)<|ca a v5 fun c=>vw .go<|vw .go<|A4 (!c) b.messages (v5:Int) fun d=>De (!c) Tryz.prog 107 [.agg ((Av b).map .d),.agg ((AE d).map .d),.ref (1,10) 0 0 a.length] [(1,10)] [((1,10),⟨0,true,4,1,Af AO a⟩)] (S5 b d a) (fun y=>vB y) fun e=>br ((!c)&&(!e)) (vs (ir v5 a.length 1)<|vs (st a v5 true)<|rn 3 10 a.length (a.set v5 true)<|vw .sep<|vs (wa v5 1)<|vz (fl (a.set v5 true))<|ln (Xz b v2) (true,v5+1,a.set v5 true)) (vs (wa v5 1)<|vz (fl a)<|ln (Xz b v2) (v4,v5+1,a))) (vz (fl a)<|Ak (xA b v2) (v4,a))
def Wj(a:Scm)(v2:Nat):Bool×Nat×List Bool→Option (Lv (Bool×Nat×List Bool) (Bool×List Bool) (List Bool)):=fun(v4,v5,b)=>(Z2 a v2 v4 v5 b).m
def aN(c:Scm)(v2:Nat)(b:Bool)(a:List Bool):PT 0 (Lv (Bool×Nat×List Bool) (List Bool) (List Bool)):=vs (wa v2 1)<|vz (fl a)<|ln (xR c) (b,v2+1,a)
def ao(b:Scm)(v2:Nat)(a:List Bool):PT 0 (Lv (Bool×Nat×List Bool) (List Bool) (List Bool)):=vz (fl a)<|lc (Ab [(1,.ptr (1,1) 0 0),(3,.ref (1,10) 0 0 a.length),(4,vB false),(5,vN v2),(6,vI 0)] [(Ji b),((1,10),⟨0,true,4,1,Af AO a⟩)]) ((An (Wj b v2) Aj (false,0,a)).bind (Sum.elim (fun(d,c)=>(aN b v2 d c).m) (fun z=>some (.rt z))))
def Zf(b:Scm)(c:Bool)(v2:Nat)(a:List Bool):PT 0 (Lv (Bool×Nat×List Bool) (List Bool) (List Bool)):=vw .go<|vz (Ag b.messages)<|br (decide ((v2:Int)<(b.messages.length:Int))&&c) (vz (fl a)<|lc (Ab [(1,.ptr (1,1) 0 0),(3,.ref (1,10) 0 0 a.length),(5,vN v2)] [(Ji b),((1,10),⟨0,true,4,1,Af AO a⟩)]) ((ao b v2 a).m)) (vz (fl a)<|Ak (wx) a)
def Ro(a:Scm):Bool×Nat×List Bool→Option (Lv (Bool×Nat×List Bool) (List Bool) (List Bool)):=fun(c,v2,b)=>(Zf a c v2 b).m
def XN(a:List Bool):PT 0 (List Bool):=vz (fr a)<|lr Qi (fun _=>[]) a
def ZY(a:Scm):PT 0 (List Bool):=vz (fl (List.replicate a.messages.length false))<|lc (Ab [(1,.ptr (1,1) 0 0),(3,.ref (1,10) 0 0 (List.replicate a.messages.length false).length),(4,vB true),(5,vI 0)] [(Ji a),((1,10),⟨0,true,4,1,Af AO (List.replicate a.messages.length false)⟩)]) ((An (Ro a) Aj (true,0,List.replicate a.messages.length false)).bind (Sum.elim (fun b=>(XN b).m) some))
def XD(a:Scm):PT 0 (List Bool):=vw .go<|vz (Ag a.messages)<|ms a.messages.length false [vB false] (by first|rfl|kernel_rfl)<|vz (fl (List.replicate a.messages.length false))<|lc (Ab [(1,.ptr (1,1) 0 0),(3,.ref (1,10) 0 0 (List.replicate a.messages.length false).length),(4,vB true)] [(Ji a),((1,10),⟨0,true,4,1,Af AO (List.replicate a.messages.length false)⟩)]) ((ZY a).m)
def dX(a:Scm):Option (List Bool):=(XD a).m
theorem ZKs{C:Cx}(co:CO C 0)(a:Scm)(v2:Nat):KL Tryz.prog (AF tl) 48 C (pa [0,0,1,1,0,0,1,0,0,1,0,1,1,1] (AB Tryz.f75)) [.tmp 2] 0 (Xz a v2) (xA a v2) Qi (fun _=>[]) (Wj a v2):=fun(v4,v5,b) _ hm Q c f e=>AA co Aa Ac (Z2 a v2 v4 v5 b) (Ae [1,3,4,5,6] F9) (Ae [1,3,4,5] F9) f hm e fun r g=>⟨fun i=>fun d=>⟨fun y hy=>BQ (ZKR a d b) hy co g [((1,10),⟨0,true,4,1,Af AO b⟩)] [] (AL []) (fun h j k=>trivial) (fun H=>⟨fun _=>⟨rfl,Bn (A0 _ _) (by kernel_rfl)⟩,by kernel_rfl,trivial⟩),fun l=>⟨id,id⟩⟩,id⟩
theorem ZHu{C:Cx}(co:CO C 0)(b:Scm):KL Tryz.prog (AF tl) 48 C (pa [0,0,1,0,1,1,1] (AB Tryz.f75)) [.tmp 2] 0 (xR b) (wx) Qi (fun _=>[]) (Ro b):=fun(i,v2,h) _ hm Q f c a=>Al co Aa Ac 1 (Zf b i v2 h) (Ae [1,3,5] F9) (Ae [3] [((1,10),true)]) c hm a fun r g=>⟨fun _ hm a=>sq (bk 1 (Al co Aa Ac 2 (ao b v2 h) (Ae [1,3,4,5,6] F9) nl c hm a fun r g=>fun _ hm a=>bk 2 (lo (HH (ZKs co b v2) c hm a (fun(e,d) hm=>AA co Aa Ac (aN b v2 e d) (Ae [1,3,4,5] F9) nl c hm a fun r g=>id))))),id⟩
theorem ZW1(b:Scm):KC Tryz.prog 75 [.agg ((Av b).map .d)] (dX b) Qi:=Aw Tryz.func75 Tryz.ntmps75 Aa [.tmp 2] fun C co y hm d a=>Al co Aa Ac 3 (XD b) (Ae [1,3,4] F9) nl (fun _ h=>h) hm a fun r g=>fun _ hm a=>sq (Al co Aa Ac 1 (ZY b) (Ae [1,3,4,5] F9) nl (fun _ h=>h) hm a fun r g=>fun _ hm a=>bk 0 (lo (AG (ZHu co b) (fun _ h=>h) hm a (fun c hm=>Am co Aa Ac (XN c) hm a fun r g=>id))))
abbrev zd:Bool→AV:=fun y=>vB y
def Ux(a:ByteArray)(b:Int)(d:Int)(f:Int):PT 0 (Bool):=vz (A2 a.size)<|FI (decide (b<(a.size:Int))) a b fun c=>FI (decide (b<(a.size:Int))&&decide (d≤(c.toNat:Int))) a b fun e=>lr zd (fun _=>[]) ((decide (b<(a.size:Int))&&decide (d≤(c.toNat:Int)))&&decide ((e.toNat:Int)≤f))
def Lm(a:ByteArray)(b:Int)(c:Int)(d:Int):Option (Bool):=(Ux a b c d).m
theorem PE(a:ByteArray)(b:Int)(c:Int)(d:Int):KC Tryz.prog 204 [vS a,vI b,.d (.int .u8 c),.d (.int .u8 d)] (Lm a b c d) zd:=Aw Tryz.func204 Tryz.ntmps204 Aa [.tmp 8] fun C co y hm e f=>Am co Aa Ac (Ux a b c d) hm f fun r g=>fun h=>fun i=>id
abbrev RP:Bool→AV:=fun y=>vB y
def ts(a:ByteArray)(b:Int)(c:Int):Nat→St:=fun d=>Ab [(0,vS a),(1,vI b),(2,vI c),(7,vN d)] []
def ub:Unit→Nat×St:=fun _=>(0,Ab [] [])
def Pd(c:ByteArray)(b:Int)(d:Int)(a:Nat):PT 0 (Lv (Nat) (Unit) (Bool)):=br (decide ((a:Int)<d)) (vs (wi (b+(a:Int)))<|cl (PE c (b+(a:Int)) 128 191) fun e=>br (!e) (Ap RP (fun _=>[]) false) (vs (wa a 1)<|ln (ts c b d) (a+1))) (Ak (ub) ())
def J5(a:ByteArray)(b:Int)(c:Int):Nat→Option (Lv (Nat) (Unit) (Bool)):=fun d=>(Pd a b c d).m
def Uo:PT 0 (Bool):=lr RP (fun _=>[]) true
def UQ(a:ByteArray)(b:Int)(c:Int):PT 0 (Bool):=lc (Ab [(0,vS a),(1,vI b),(2,vI c),(7,vI 0)] []) ((An (J5 a b c) Aj 0).bind (Sum.elim (fun _=>(Uo).m) some))
def VH(a:ByteArray)(b:Int)(c:Int):PT 0 (Bool):=lc (Ab [(0,vS a),(1,vI b),(2,vI c)] []) ((UQ a b c).m)
def JS(a:ByteArray)(b:Int)(c:Int):Option (Bool):=(VH a b c).m
theorem Zze{C:Cx}(co:CO C 0)(a:ByteArray)(b:Int)(c:Int):KL Tryz.prog (AF tl) 19 C (pa [0,0,1,0,1] (AB Tryz.f203)) [.tmp 6] 0 (ts a b c) (ub) RP (fun _=>[]) (J5 a b c):=fun h _ hm Q d f e=>AA co Aa Ac (Pd a b c h) (AN [0,1,2,7]) nl f hm e fun r g=>⟨fun i=>⟨id,id⟩,id⟩
theorem Kb(b:ByteArray)(c:Int)(d:Int):KC Tryz.prog 203 [vS b,vI c,vI d] (JS b c d) RP:=Aw Tryz.func203 Tryz.ntmps203 Aa [.tmp 6] fun C co y hm e a=>Al co Aa Ac 1 (VH b c d) (AN [0,1,2]) nl (fun _ h=>h) hm a fun r g=>fun _ hm a=>sq (Al co Aa Ac 1 (UQ b c d) (AN [0,1,2,7]) nl (fun _ h=>h) hm a fun r g=>fun _ hm a=>bk 0 (lo (AG (Zze co b c d) (fun _ h=>h) hm a (fun _ hm=>Am co Aa Ac (Uo) hm a fun r g=>id))))
abbrev Gx:Int→AV:=fun y=>vI y
def UX(c:ByteArray)(b:Int):PT 0 (Int):=P0 c b fun a=>br (decide ((a.toNat:Int)<(128:Int))) (lr Gx (fun _=>[]) 1) (vg (decide ((194:Int)≤(a.toNat:Int))&&decide ((a.toNat:Int)≤(223:Int))) (wi (b+1))<|clg (decide ((194:Int)≤(a.toNat:Int))&&decide ((a.toNat:Int)≤(223:Int))) (Kb c (b+1) 1) fun j=>br ((decide ((194:Int)≤(a.toNat:Int))&&decide ((a.toNat:Int)≤(223:Int)))&&j) (lr Gx (fun _=>[]) 2) (vg (decide ((a.toNat:Int)=(224:Int))) (wi (b+1))<|clg (decide ((a.toNat:Int)=(224:Int))) (PE c (b+1) 160 191) fun g=>vg (decide ((a.toNat:Int)=(224:Int))&&g) (wi (b+2))<|clg (decide ((a.toNat:Int)=(224:Int))&&g) (Kb c (b+2) 1) fun k=>br ((decide ((a.toNat:Int)=(224:Int))&&g)&&k) (lr Gx (fun _=>[]) 3) (vg (decide ((a.toNat:Int)=(237:Int))) (wi (b+1))<|clg (decide ((a.toNat:Int)=(237:Int))) (PE c (b+1) 128 159) fun h=>vg (decide ((a.toNat:Int)=(237:Int))&&h) (wi (b+2))<|clg (decide ((a.toNat:Int)=(237:Int))&&h) (Kb c (b+2) 1) fun l=>br ((decide ((a.toNat:Int)=(237:Int))&&h)&&l) (lr Gx (fun _=>[]) 3) (vg ((decide ((225:Int)≤(a.toNat:Int))&&decide ((a.toNat:Int)≤(239:Int)))&&(!decide ((a.toNat:Int)=(237:Int)))) (wi (b+1))<|clg ((decide ((225:Int)≤(a.toNat:Int))&&decide ((a.toNat:Int)≤(239:Int)))&&(!decide ((a.toNat:Int)=(237:Int)))) (Kb c (b+1) 2) fun m=>br (((decide ((225:Int)≤(a.toNat:Int))&&decide ((a.toNat:Int)≤(239:Int)))&&(!decide ((a.toNat:Int)=(237:Int))))&&m) (lr Gx (fun _=>[]) 3) (vg (decide ((a.toNat:Int)=(240:Int))) (wi (b+1))<|clg (decide ((a.toNat:Int)=(240:Int))) (PE c (b+1) 144 191) fun i=>vg (decide ((a.toNat:Int)=(240:Int))&&i) (wi (b+2))<|clg (decide ((a.toNat:Int)=(240:Int))&&i) (Kb c (b+2) 2) fun n=>br ((decide ((a.toNat:Int)=(240:Int))&&i)&&n) (lr Gx (fun _=>[]) 4) (vg (decide ((241:Int)≤(a.toNat:Int))&&decide ((a.toNat:Int)≤(243:Int))) (wi (b+1))<|clg (decide ((241:Int)≤(a.toNat:Int))&&decide ((a.toNat:Int)≤(243:Int))) (Kb c (b+1) 3) fun e=>br ((decide ((241:Int)≤(a.toNat:Int))&&decide ((a.toNat:Int)≤(243:Int)))&&e) (lr Gx (fun _=>[]) 4) (vg (decide ((a.toNat:Int)=(244:Int))) (wi (b+1))<|clg (decide ((a.toNat:Int)=(244:Int))) (PE c (b+1) 128 143) fun d=>vg (decide ((a.toNat:Int)=(244:Int))&&d) (wi (b+2))<|clg (decide ((a.toNat:Int)=(244:Int))&&d) (Kb c (b+2) 2) fun f=>br ((decide ((a.toNat:Int)=(244:Int))&&d)&&f) (lr Gx (fun _=>[]) 4) (lr Gx (fun _=>[]) 0))))))))
def NY(a:ByteArray)(b:Int):Option (Int):=(UX a b).m
theorem ZUk(a:ByteArray)(b:Int):KC Tryz.prog 177 [vS a,vI b] (NY a b) Gx:=Aw Tryz.func177 Tryz.ntmps177 Aa [.tmp 4] fun C co y hm c d=>Am co Aa Ac (UX a b) hm d fun r g=>fun i=>⟨id,fun j=>⟨id,fun k=>fun l=>⟨id,fun m=>fun n=>⟨id,fun o=>⟨id,fun p=>fun q=>⟨id,fun e=>⟨id,fun f=>fun h=>⟨id,id⟩⟩⟩⟩⟩⟩⟩⟩
abbrev S1:Int→AV:=fun y=>vI y
def qR(a:ByteArray):Int→St:=fun b=>Ab [(0,vS a),(3,vI b)] []
def sP:Unit→Nat×St:=fun _=>(0,Ab [] [])
def Vh(b:ByteArray)(a:Int):PT 0 (Lv (Int) (Unit) (Int)):=vz (A2 b.size)<|br (decide (a<(b.size:Int))) (cl (ZUk b a) fun c=>br (decide (c=(0:Int))) (Ap S1 (fun _=>[]) a) (vs (wi (a+c))<|ln (qR b) (a+c))) (Ak (sP) ())
def L8(a:ByteArray):Int→Option (Lv (Int) (Unit) (Int)):=fun b=>(Vh a b).m
def U0:PT 0 (Int):=lr S1 (fun _=>[]) (-1)
def Vv(a:ByteArray):PT 0 (Int):=lc (Ab [(0,vS a),(3,vI 0)] []) ((An (L8 a) Aj 0).bind (Sum.elim (fun _=>(U0).m) some))
def U8(a:ByteArray):PT 0 (Int):=lc (Ab [(0,vS a)] []) ((Vv a).m)
def Tc(a:ByteArray):Option (Int):=(U8 a).m
theorem ZBo{C:Cx}(co:CO C 0)(a:ByteArray):KL Tryz.prog (AF tl) 18 C (pa [0,0,1,0,1] (AB Tryz.f145)) [.tmp 2] 0 (qR a) (sP) S1 (fun _=>[]) (L8 a):=fun e _ hm Q b d c=>AA co Aa Ac (Vh a e) (AN [0,3]) nl d hm c fun r g=>⟨fun f=>⟨id,id⟩,id⟩
theorem ZSP(b:ByteArray):KC Tryz.prog 145 [vS b] (Tc b) S1:=Aw Tryz.func145 Tryz.ntmps145 Aa [.tmp 2] fun C co y hm c a=>Al co Aa Ac 1 (U8 b) (AN [0]) nl (fun _ h=>h) hm a fun r g=>fun _ hm a=>sq (Al co Aa Ac 1 (Vv b) (AN [0,3]) nl (fun _ h=>h) hm a fun r g=>fun _ hm a=>bk 0 (lo (AG (ZBo co b) (fun _ h=>h) hm a (fun _ hm=>Am co Aa Ac (U0) hm a fun r g=>id))))
abbrev ZWq:Bool→AV:=fun y=>vB y
def Vc(a:ByteArray):PT 0 (Bool):=cl (ZSP a) fun b=>lr ZWq (fun _=>[]) (decide (b<(0:Int)))
def Lp(a:ByteArray):Option (Bool):=(Vc a).m
theorem vt(a:ByteArray):KC Tryz.prog 104 [vS a] (Lp a) ZWq:=Aw Tryz.func104 Tryz.ntmps104 Aa [.tmp 2] fun C co y hm b c=>Am co Aa Ac (Vc a) hm c fun r g=>fun d=>id
abbrev yr:Bool→AV:=fun y=>vB y
def tc(a:Int):PT 0 (Bool):=lr yr (fun _=>[]) (decide ((97:Int)≤a)&&decide (a≤(122:Int)))
def Zdl(a:Int):Option (Bool):=(tc a).m
theorem vu(a:Int):KC Tryz.prog 180 [.d (.int .u8 a)] (Zdl a) yr:=Aw Tryz.func180 Tryz.ntmps180 Aa [.tmp 2] fun C co y hm b c=>Am co Aa Ac (tc a) hm c fun r g=>id
abbrev zg:Bool→AV:=fun y=>vB y
def qv(a:Int):PT 0 (Bool):=lr zg (fun _=>[]) (decide ((65:Int)≤a)&&decide (a≤(90:Int)))
def Zc1(a:Int):Option (Bool):=(qv a).m
theorem ur(a:Int):KC Tryz.prog 181 [.d (.int .u8 a)] (Zc1 a) zg:=Aw Tryz.func181 Tryz.ntmps181 Aa [.tmp 2] fun C co y hm b c=>Am co Aa Ac (qv a) hm c fun r g=>id
abbrev Np:Bool→AV:=fun y=>vB y
def rr(a:ByteArray):Nat→St:=fun v5=>Ab [(0,vS a),(3,vN v5)] []
def tW:Unit→Nat×St:=fun _=>(0,Ab [] [])
def mr(a:ByteArray)(v5:Nat):PT 0 (Lv (Nat) (Unit) (Bool)):=vz (A2 a.size)<|br (decide ((v5:Int)<(a.size:Int))) (ib a v5 fun g=>cl (vu (g.toNat:Int)) fun c=>FI (!c) a (v5:Int) fun h=>clg (!c) (ur (h.toNat:Int)) fun e=>FI ((!c)&&(!e)) a (v5:Int) fun b=>FI (((!c)&&(!e))&&(!decide ((b.toNat:Int)=(95:Int)))) a (v5:Int) fun d=>FI ((((!c)&&(!e))&&(!decide ((b.toNat:Int)=(95:Int))))&&(!(decide ((d.toNat:Int)<(48:Int))))) a (v5:Int) fun f=>br ((((!c)&&(!e))&&(!decide ((b.toNat:Int)=(95:Int))))&&(decide ((d.toNat:Int)<(48:Int))||decide ((57:Int)<(f.toNat:Int)))) (Ap Np (fun _=>[]) false) (vs (wa v5 1)<|ln (rr a) (v5+1))) (Ak (tW) ())
def Uv(a:ByteArray):Nat→Option (Lv (Nat) (Unit) (Bool)):=fun v5=>(mr a v5).m
def i3:PT 0 (Bool):=lr Np (fun _=>[]) true
def lN(a:ByteArray):PT 0 (Bool):=lc (Ab [(0,vS a),(3,vI 1)] []) ((An (Uv a) Aj 1).bind (Sum.elim (fun _=>(i3).m) some))
def nC(a:ByteArray):PT 0 (Bool):=vz (A2 a.size)<|vy (!(decide ((a.size:Int)=(0:Int)))) (A2 a.size)<|FI (!(decide ((a.size:Int)=(0:Int))||decide ((40:Int)<(a.size:Int)))) a 0 fun c=>clg (!(decide ((a.size:Int)=(0:Int))||decide ((40:Int)<(a.size:Int)))) (vu (c.toNat:Int)) fun b=>FI ((!(decide ((a.size:Int)=(0:Int))||decide ((40:Int)<(a.size:Int))))&&(!b)) a 0 fun d=>clg ((!(decide ((a.size:Int)=(0:Int))||decide ((40:Int)<(a.size:Int))))&&(!b)) (ur (d.toNat:Int)) fun e=>br ((decide ((a.size:Int)=(0:Int))||decide ((40:Int)<(a.size:Int)))||((!b)&&(!e))) (lr Np (fun _=>[]) false) (lc (Ab [(0,vS a)] []) ((lN a).m))
def dS(a:ByteArray):Option (Bool):=(nC a).m
theorem ZzL{C:Cx}(co:CO C 0)(a:ByteArray):KL Tryz.prog (AF tl) 60 C (pa [0,0,1,0,1,1] (AB Tryz.f155)) [.tmp 2] 0 (rr a) (tW) Np (fun _=>[]) (Uv a):=fun v5 _ hm Q b h f=>AA co Aa Ac (mr a v5) (AN [0,3]) nl h hm f fun r g=>⟨fun i=>fun k=>fun j=>fun l=>fun c=>fun d=>fun e=>⟨id,id⟩,id⟩
theorem ab(b:ByteArray):KC Tryz.prog 155 [vS b] (dS b) Np:=Aw Tryz.func155 Tryz.ntmps155 Aa [.tmp 2] fun C co y hm c a=>Al co Aa Ac 2 (nC b) (AN [0]) nl (fun _ h=>h) hm a fun r g=>fun d=>fun f=>fun e=>fun i=>⟨id,fun _ hm a=>sq (Al co Aa Ac 1 (lN b) (AN [0,3]) nl (fun _ h=>h) hm a fun r g=>fun _ hm a=>bk 0 (lo (AG (ZzL co b) (fun _ h=>h) hm a (fun _ hm=>Am co Aa Ac (i3) hm a fun r g=>id))))⟩
abbrev NT:Bool→AV:=fun y=>vB y
def kS(a:ByteArray):ByteArray×Nat→St:=fun(b,v2)=>Ab [(0,vS a),(3,vS b),(4,vN v2)] []
def tt:ByteArray→Nat×St:=fun a=>(0,Ab [(3,vS a)] [])
def kf(a:ByteArray)(b:ByteArray)(v2:Nat):PT 0 (Lv (ByteArray×Nat) (ByteArray) (Bool)):=vz (A2 a.size)<|br (decide ((v2:Int)<(a.size:Int))) (ib a v2 fun c=>br (!decide ((c.toNat:Int)=(46:Int))) (vs (wa v2 1)<|ss a (.nt v2) (.nt (v2+1)) fun d=>ad b d fun e=>vs (wa v2 1)<|ln (kS a) (e,v2+1)) (cl (ab b) fun f=>br (!f) (Ap NT (fun _=>[]) false) (vs (wa v2 1)<|ln (kS a) (⟨#[]⟩,v2+1)))) (Ak (tt) b)
def Vq(a:ByteArray):ByteArray×Nat→Option (Lv (ByteArray×Nat) (ByteArray) (Bool)):=fun(b,v2)=>(kf a b v2).m
def np(a:ByteArray):PT 0 (Bool):=cl (ab a) fun b=>lr NT (fun _=>[]) b
def lS(a:ByteArray):PT 0 (Bool):=lc (Ab [(0,vS a),(3,vS ⟨#[]⟩),(4,vI 0)] []) ((An (Vq a) Aj (⟨#[]⟩,0)).bind (Sum.elim (fun b=>(np b).m) some))
def kX(a:ByteArray):PT 0 (Bool):=vz (A2 a.size)<|br (decide ((120:Int)<(a.size:Int))) (lr NT (fun _=>[]) false) (lc (Ab [(0,vS a),(3,vS ⟨#[]⟩)] []) ((lS a).m))
def dW(a:ByteArray):Option (Bool):=(kX a).m
theorem ZBc{C:Cx}(co:CO C 0)(a:ByteArray):KL Tryz.prog (AF tl) 30 C (pa [0,0,1,0,1,1,1] (AB Tryz.f152)) [.tmp 2] 0 (kS a) (tt) NT (fun _=>[]) (Vq a):=fun(e,v2) _ hm Q b d c=>AA co Aa Ac (kf a e v2) (AN [0,3,4]) (AN [3]) d hm c fun r g=>⟨fun f=>⟨fun h=>fun i=>id,fun j=>⟨id,id⟩⟩,id⟩
theorem ZTr(b:ByteArray):KC Tryz.prog 152 [vS b] (dW b) NT:=Aw Tryz.func152 Tryz.ntmps152 Aa [.tmp 2] fun C co y hm c a=>Al co Aa Ac 3 (kX b) (AN [0,3]) nl (fun _ h=>h) hm a fun r g=>⟨id,fun _ hm a=>sq (Al co Aa Ac 1 (lS b) (AN [0,3,4]) nl (fun _ h=>h) hm a fun r g=>fun _ hm a=>bk 0 (lo (AG (ZBc co b) (fun _ h=>h) hm a (fun d hm=>Am co Aa Ac (np d) hm a fun r g=>fun e=>id))))⟩
abbrev RX:ByteArray×ByteArray→AV:=fun y=>.tup [vS y.1,vS y.2]
def ta(a:ByteArray):Int→St:=fun b=>Ab [(0,vS a),(4,vI b)] []
def qi(a:ByteArray):Unit→Nat×St:=fun _=>(0,Ab [(0,vS a)] [])
def lD(b:ByteArray)(a:Int):PT 0 (Lv (Int) (Unit) (ByteArray×ByteArray)):=br (decide ((0:Int)≤a)) (P0 b a fun c=>br (decide ((c.toNat:Int)=(46:Int))) (ss b .no (.it a) fun d=>vs (wi (a+1))<|ss b (.it (a+1)) .no fun e=>Ap RX (fun _=>[]) (d,e)) (vs (wi (a-1))<|ln (ta b) (a-1))) (Ak (qi b) ())
def Vf(a:ByteArray):Int→Option (Lv (Int) (Unit) (ByteArray×ByteArray)):=fun b=>(lD a b).m
def mm(a:ByteArray):PT 0 (ByteArray×ByteArray):=lr RX (fun _=>[]) (⟨#[]⟩,a)
def oc(a:ByteArray):PT 0 (ByteArray×ByteArray):=vz (A2 a.size)<|vs (wi ((a.size:Int)-1))<|lc (Ab [(0,vS a),(4,vI ((a.size:Int)-1))] []) ((An (Vf a) Aj ((a.size:Int)-1)).bind (Sum.elim (fun _=>(mm a).m) some))
def ke(a:ByteArray):PT 0 (ByteArray×ByteArray):=lc (Ab [(0,vS a)] []) ((oc a).m)
def dE(a:ByteArray):Option (ByteArray×ByteArray):=(ke a).m
theorem ZyN{C:Cx}(co:CO C 0)(a:ByteArray):KL Tryz.prog (AF tl) 24 C (pa [0,0,1,0,1] (AB Tryz.f153)) [.tmp 2,.tmp 3] 0 (ta a) (qi a) RX (fun _=>[]) (Vf a):=fun e _ hm Q b d c=>AA co Aa Ac (lD a e) (AN [0,4]) (AN [0]) d hm c fun r g=>⟨fun f=>⟨fun h=>fun i=>id,id⟩,id⟩
theorem ZTH(b:ByteArray):KC Tryz.prog 153 [vS b] (dE b) RX:=Aw Tryz.func153 Tryz.ntmps153 Aa [.tmp 2,.tmp 3] fun C co y hm c a=>Al co Aa Ac 1 (ke b) (AN [0]) nl (fun _ h=>h) hm a fun r g=>fun _ hm a=>sq (Al co Aa Ac 1 (oc b) (AN [0,4]) nl (fun _ h=>h) hm a fun r g=>fun _ hm a=>bk 0 (lo (AG (ZyN co b) (fun _ h=>h) hm a (fun _ hm=>Am co Aa Ac (mm b) hm a fun r g=>id))))
abbrev Bh:Bool→AV:=fun y=>vB y
def nS(a:ByteArray):PT 0 (Bool):=br (decide (a=(⟨#[109,101,115,115,97,103,101]⟩:ByteArray))) (br (decide (a=(⟨#[109,101,115,115,97,103,101]⟩:ByteArray))) (lr Bh (fun _=>[]) true) (lr Bh (fun _=>[]) false)) (br (decide (a=(⟨#[101,110,117,109]⟩:ByteArray))) (br (decide (a=(⟨#[101,110,117,109]⟩:ByteArray))) (lr Bh (fun _=>[]) true) (lr Bh (fun _=>[]) false)) (br (decide (a=(⟨#[115,101,114,118,105,99,101]⟩:ByteArray))) (br (decide (a=(⟨#[115,101,114,118,105,99,101]⟩:ByteArray))) (lr Bh (fun _=>[]) true) (lr Bh (fun _=>[]) false)) (br (decide (a=(⟨#[117,110,105,111,110]⟩:ByteArray))) (br (decide (a=(⟨#[117,110,105,111,110]⟩:ByteArray))) (lr Bh (fun _=>[]) true) (lr Bh (fun _=>[]) false)) (br (decide (a=(⟨#[109,97,112]⟩:ByteArray))) (br (decide (a=(⟨#[109,97,112]⟩:ByteArray))) (lr Bh (fun _=>[]) true) (lr Bh (fun _=>[]) false)) (br (decide (a=(⟨#[108,105,115,116]⟩:ByteArray))) (br (decide (a=(⟨#[108,105,115,116]⟩:ByteArray))) (lr Bh (fun _=>[]) true) (lr Bh (fun _=>[]) false)) (br (decide (a=(⟨#[114,101,113,117,105,114,101,100]⟩:ByteArray))) (br (decide (a=(⟨#[114,101,113,117,105,114,101,100]⟩:ByteArray))) (lr Bh (fun _=>[]) true) (lr Bh (fun _=>[]) false)) (br (decide (a=(⟨#[111,112,116,105,111,110,97,108]⟩:ByteArray))) (br (decide (a=(⟨#[111,112,116,105,111,110,97,108]⟩:ByteArray))) (lr Bh (fun _=>[]) true) (lr Bh (fun _=>[]) false)) (br (decide (a=(⟨#[112,108,97,105,110]⟩:ByteArray))) (br (decide (a=(⟨#[112,108,97,105,110]⟩:ByteArray))) (lr Bh (fun _=>[]) true) (lr Bh (fun _=>[]) false)) (br (decide (a=(⟨#[100,101,102,97,117,108,116]⟩:ByteArray))) (br (decide (a=(⟨#[100,101,102,97,117,108,116]⟩:ByteArray))) (lr Bh (fun _=>[]) true) (lr Bh (fun _=>[]) false)) (br (decide (a=(⟨#[114,101,115,101,114,118,101,100]⟩:ByteArray))) (br (decide (a=(⟨#[114,101,115,101,114,118,101,100]⟩:ByteArray))) (lr Bh (fun _=>[]) true) (lr Bh (fun _=>[]) false)) (br (decide (a=(⟨#[105,109,112,111,114,116]⟩:ByteArray))) (br (decide (a=(⟨#[105,109,112,111,114,116]⟩:ByteArray))) (lr Bh (fun _=>[]) true) (lr Bh (fun _=>[]) false)) (br (decide (a=(⟨#[115,112,97,99,101]⟩:ByteArray))) (br (decide (a=(⟨#[115,112,97,99,101]⟩:ByteArray))) (lr Bh (fun _=>[]) true) (lr Bh (fun _=>[]) false)) (br (decide (a=(⟨#[114,112,99]⟩:ByteArray))) (br (decide (a=(⟨#[114,112,99]⟩:ByteArray))) (lr Bh (fun _=>[]) true) (lr Bh (fun _=>[]) false)) (br (decide (a=(⟨#[115,116,114,101,97,109]⟩:ByteArray))) (br (decide (a=(⟨#[115,116,114,101,97,109]⟩:ByteArray))) (lr Bh (fun _=>[]) true) (lr Bh (fun _=>[]) false)) (br (decide (a=(⟨#[114,101,116,117,114,110,115]⟩:ByteArray))) (br (decide (a=(⟨#[114,101,116,117,114,110,115]⟩:ByteArray))) (lr Bh (fun _=>[]) true) (lr Bh (fun _=>[]) false)) (br (decide (a=(⟨#[111,112,101,110]⟩:ByteArray))) (br (decide (a=(⟨#[111,112,101,110]⟩:ByteArray))) (lr Bh (fun _=>[]) true) (lr Bh (fun _=>[]) false)) (br (decide (a=(⟨#[116,114,117,101]⟩:ByteArray))) (br (decide (a=(⟨#[116,114,117,101]⟩:ByteArray))) (lr Bh (fun _=>[]) true) (lr Bh (fun _=>[]) false)) (br (decide (a=(⟨#[102,97,108,115,101]⟩:ByteArray))) (br (decide (a=(⟨#[102,97,108,115,101]⟩:ByteArray))) (lr Bh (fun _=>[]) true) (lr Bh (fun _=>[]) false)) (br (decide (a=(⟨#[110,97,110]⟩:ByteArray))) (br (decide (a=(⟨#[110,97,110]⟩:ByteArray))) (lr Bh (fun _=>[]) true) (lr Bh (fun _=>[]) false)) (br (decide (a=(⟨#[105,110,102]⟩:ByteArray))) (lr Bh (fun _=>[]) true) (lr Bh (fun _=>[]) false)))))))))))))))))))))
def dU(a:ByteArray):Option (Bool):=(nS a).m
theorem vO(a:ByteArray):KC Tryz.prog 154 [vS a] (dU a) Bh:=Aw Tryz.func154 Tryz.ntmps154 Aa [.tmp 2] fun C co y hm b c=>Am co Aa Ac (nS a) hm c fun r g=>⟨⟨id,id⟩,⟨⟨id,id⟩,⟨⟨id,id⟩,⟨⟨id,id⟩,⟨⟨id,id⟩,⟨⟨id,id⟩,⟨⟨id,id⟩,⟨⟨id,id⟩,⟨⟨id,id⟩,⟨⟨id,id⟩,⟨⟨id,id⟩,⟨⟨id,id⟩,⟨⟨id,id⟩,⟨⟨id,id⟩,⟨⟨id,id⟩,⟨⟨id,id⟩,⟨⟨id,id⟩,⟨⟨id,id⟩,⟨⟨id,id⟩,⟨⟨id,id⟩,⟨id,id⟩⟩⟩⟩⟩⟩⟩⟩⟩⟩⟩⟩⟩⟩⟩⟩⟩⟩⟩⟩⟩
abbrev NB:Bool→AV:=fun y=>vB y
def rl:ByteArray×Nat→St:=fun(v2,v3)=>Ab [(0,vS v2),(3,vN v3)] []
def qr:Unit→Nat×St:=fun _=>(0,Ab [] [])
def iX(v2:ByteArray)(v3:Nat):PT 0 (Lv (ByteArray×Nat) (Unit) (Bool)):=br (decide ((v3:Int)<(120:Int))&&(!decide (v2=(⟨#[]⟩:ByteArray)))) (cl (ZTH v2) fun a=>cl (vO a.2) fun b=>br b (Ap NB (fun _=>[]) false) (vs (wa v3 1)<|ln (rl) (a.1,v3+1))) (Ak (qr) ())
def UY:ByteArray×Nat→Option (Lv (ByteArray×Nat) (Unit) (Bool)):=fun(v2,v3)=>(iX v2 v3).m
def jI:PT 0 (Bool):=lr NB (fun _=>[]) true
def lO(a:ByteArray):PT 0 (Bool):=lc (Ab [(0,vS a),(3,vI 0)] []) ((An (UY) Aj (a,0)).bind (Sum.elim (fun _=>(jI).m) some))
def jD(a:ByteArray):PT 0 (Bool):=cl (ZTr a) fun b=>br (!b) (lr NB (fun _=>[]) false) (lc (Ab [(0,vS a)] []) ((lO a).m))
def dT(a:ByteArray):Option (Bool):=(jD a).m
theorem ZAg{C:Cx}(co:CO C 0):KL Tryz.prog (AF tl) 25 C (pa [0,0,1,0,1,1] (AB Tryz.f108)) [.tmp 2] 0 (rl) (qr) NB (fun _=>[]) (UY):=fun(v2,v3) _ hm Q a c b=>AA co Aa Ac (iX v2 v3) (AN [0,3]) nl c hm b fun r g=>⟨fun d=>fun e=>⟨id,id⟩,id⟩
theorem Xl(b:ByteArray):KC Tryz.prog 108 [vS b] (dT b) NB:=Aw Tryz.func108 Tryz.ntmps108 Aa [.tmp 2] fun C co y hm c a=>Al co Aa Ac 2 (jD b) (AN [0]) nl (fun _ h=>h) hm a fun r g=>fun d=>⟨id,fun _ hm a=>sq (Al co Aa Ac 1 (lO b) (AN [0,3]) nl (fun _ h=>h) hm a fun r g=>fun _ hm a=>bk 0 (lo (AG (ZAg co) (fun _ h=>h) hm a (fun _ hm=>Am co Aa Ac (jI) hm a fun r g=>id))))⟩
abbrev ZWs:Bool→AV:=fun y=>vB y
def mD(a:ByteArray):PT 0 (Bool):=cl (ab a) fun b=>clg b (vO a) fun c=>lr ZWs (fun _=>[]) (b&&(!c))
def eb(a:ByteArray):Option (Bool):=(mD a).m
theorem QL(a:ByteArray):KC Tryz.prog 109 [vS a] (eb a) ZWs:=Aw Tryz.func109 Tryz.ntmps109 Aa [.tmp 2] fun C co y hm b c=>Am co Aa Ac (mD a) hm c fun r g=>fun d=>fun e=>id
abbrev SQ:Bool→AV:=fun y=>vB y
def qG(a:List Spn)(b:Int):Nat→St:=fun c=>Ab [(0,vL AQ a),(1,vI b),(5,vN c)] []
def su:Unit→Nat×St:=fun _=>(0,Ab [] [])
def lT(a:List Spn)(c:Int)(b:Nat):PT 0 (Lv (Nat) (Unit) (Bool)):=vz (Ag a)<|br (decide ((b:Int)<(a.length:Int))) (ix a b fun d=>A4 (decide (d.lo≤c)) a (b:Int) fun e=>br (decide (d.lo≤c)&&decide (c≤e.hi)) (Ap SQ (fun _=>[]) true) (vs (wa b 1)<|ln (qG a c) (b+1))) (Ak (su) ())
def U1(a:List Spn)(b:Int):Nat→Option (Lv (Nat) (Unit) (Bool)):=fun c=>(lT a b c).m
def nw:PT 0 (Bool):=lr SQ (fun _=>[]) false
def mg(a:List Spn)(b:Int):PT 0 (Bool):=lc (Ab [(0,vL AQ a),(1,vI b),(5,vI 0)] []) ((An (U1 a b) Aj 0).bind (Sum.elim (fun _=>(nw).m) some))
def lw(a:List Spn)(b:Int):PT 0 (Bool):=lc (Ab [(0,vL AQ a),(1,vI b)] []) ((mg a b).m)
def ej(a:List Spn)(b:Int):Option (Bool):=(lw a b).m
theorem ZyA{C:Cx}(co:CO C 0)(a:List Spn)(b:Int):KL Tryz.prog (AF tl) 28 C (pa [0,0,1,0,1] (AB Tryz.f110)) [.tmp 4] 0 (qG a b) (su) SQ (fun _=>[]) (U1 a b):=fun f _ hm Q c e d=>AA co Aa Ac (lT a b f) (AN [0,1,5]) nl e hm d fun r g=>⟨fun h=>fun i=>⟨id,id⟩,id⟩
theorem vq(b:List Spn)(c:Int):KC Tryz.prog 110 [vL AQ b,vI c] (ej b c) SQ:=Aw Tryz.func110 Tryz.ntmps110 Aa [.tmp 4] fun C co y hm d a=>Al co Aa Ac 1 (lw b c) (AN [0,1]) nl (fun _ h=>h) hm a fun r g=>fun _ hm a=>sq (Al co Aa Ac 1 (mg b c) (AN [0,1,5]) nl (fun _ h=>h) hm a fun r g=>fun _ hm a=>bk 0 (lo (AG (ZyA co b c) (fun _ h=>h) hm a (fun _ hm=>Am co Aa Ac (nw) hm a fun r g=>id))))
end Go.Proofs.YtleccgigifnfgaaGreat
