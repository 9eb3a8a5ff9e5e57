import Derived.Test.YtleccgigifnfgaaGreatCy12
import Derived.Test.YtleccgigifnfgaaGreatCy13
import Derived.Test.YtleccgigifnfgaaGreatCy00
namespace Go.Proofs.YtleccgigifnfgaaGreat
set_option maxRecDepth 100000
set_option linter.all false
open Go Go.Eng
def ZlU:Go.Shelf.Ren:=⟨fun|190=>160|125=>187|258=>186|128=>215|129=>216|302=>206|303=>207|304=>208|305=>209|306=>210|307=>211|308=>212|309=>213|310=>214|333=>226|329=>227|330=>228|334=>229|335=>230|336=>188|344=>234|n=>n,fun|31=>45|9=>9|3=>3|46=>223|0=>0|51=>243|53=>27|4=>4|183=>235|182=>234|131=>240|5=>5|218=>249|222=>253|228=>257|229=>258|n=>n,fun|n=>n⟩
theorem ZCf:Go.Proofs.Lays.n190 Tryz.prog ZlU:={
 mixed:=by kernel_rfl,
 f125:=Tryz.func187.trans (congrArg some (by kernel_rfl)),
 f128:=Tryz.func215.trans (congrArg some (by kernel_rfl)),
 f129:=Tryz.func216.trans (congrArg some (by kernel_rfl)),
 f190:=Tryz.func160.trans (congrArg some (by kernel_rfl)),
 f258:=Tryz.func186.trans (congrArg some (by kernel_rfl)),
 f302:=Tryz.func206.trans (congrArg some (by kernel_rfl)),
 f303:=Tryz.func207.trans (congrArg some (by kernel_rfl)),
 f304:=Tryz.func208.trans (congrArg some (by kernel_rfl)),
 f305:=Tryz.func209.trans (congrArg some (by kernel_rfl)),
 f306:=Tryz.func210.trans (congrArg some (by kernel_rfl)),
 f307:=Tryz.func211.trans (congrArg some (by kernel_rfl)),
 f308:=Tryz.func212.trans (congrArg some (by kernel_rfl)),
 f309:=Tryz.func213.trans (congrArg some (by kernel_rfl)),
 f310:=Tryz.func214.trans (congrArg some (by kernel_rfl)),
 f329:=Tryz.func227.trans (congrArg some (by kernel_rfl)),
 f330:=Tryz.func228.trans (congrArg some (by kernel_rfl)),
 f333:=Tryz.func226.trans (congrArg some (by kernel_rfl)),
 f334:=Tryz.func229.trans (congrArg some (by kernel_rfl)),
 f335:=Tryz.func230.trans (congrArg some (by kernel_rfl)),
 f336:=Tryz.func188.trans (congrArg some (by kernel_rfl)),
 f344:=Tryz.func234.trans (congrArg some (by kernel_rfl)),
 t0:=Tryz.underlying0,
 a0:=Tryz.isAgg0,
 z0:=Tryz.sizeOf0,
 v0:=Tryz.zeroValue0,
 t3:=Tryz.underlying3,
 a3:=Tryz.isAgg3,
 z3:=Tryz.sizeOf3,
 v3:=Tryz.zeroValue3,
 t4:=Tryz.underlying4,
 a4:=Tryz.isAgg4,
 z4:=Tryz.sizeOf4,
 v4:=Tryz.zeroValue4,
 t5:=Tryz.underlying5,
 a5:=Tryz.isAgg5,
 z5:=Tryz.sizeOf5,
 v5:=Tryz.zeroValue5,
 t9:=Tryz.underlying9,
 a9:=Tryz.isAgg9,
 z9:=Tryz.sizeOf9,
 v9:=Tryz.zeroValue9,
 t31:=Tryz.underlying45,
 a31:=Tryz.isAgg45,
 z31:=Tryz.sizeOf45,
 v31:=Tryz.zeroValue45,
 t46:=Tryz.underlying223,
 a46:=Tryz.isAgg223,
 z46:=Tryz.sizeOf223,
 v46:=Tryz.zeroValue223,
 t51:=Tryz.underlying243,
 a51:=Tryz.isAgg243,
 z51:=Tryz.sizeOf243,
 v51:=Tryz.zeroValue243,
 t53:=Tryz.underlying27,
 a53:=Tryz.isAgg27,
 z53:=Tryz.sizeOf27,
 v53:=Tryz.zeroValue27,
 t131:=Tryz.underlying240,
 a131:=Tryz.isAgg240,
 z131:=Tryz.sizeOf240,
 v131:=Tryz.zeroValue240,
 t182:=Tryz.underlying234,
 a182:=Tryz.isAgg234,
 z182:=Tryz.sizeOf234,
 v182:=Tryz.zeroValue234,
 t183:=Tryz.underlying235,
 a183:=Tryz.isAgg235,
 z183:=Tryz.sizeOf235,
 v183:=Tryz.zeroValue235,
 t218:=Tryz.underlying249,
 a218:=Tryz.isAgg249,
 z218:=Tryz.sizeOf249,
 v218:=Tryz.zeroValue249,
 t222:=Tryz.underlying253,
 a222:=Tryz.isAgg253,
 z222:=Tryz.sizeOf253,
 v222:=Tryz.zeroValue253,
 t228:=Tryz.underlying257,
 a228:=Tryz.isAgg257,
 z228:=Tryz.sizeOf257,
 v228:=Tryz.zeroValue257,
 t229:=Tryz.underlying258,
 a229:=Tryz.isAgg258,
 z229:=Tryz.sizeOf258,
 v229:=Tryz.zeroValue258 }
abbrev ZTa:List ByteArray→AV:=fun y=>.tup []
@[reducible] def ZSn:List ByteArray→List Blk:=fun y=>[⟨0,true,9,1,Ae Az y⟩]
def u0(a:List ByteArray):Option (List ByteArray):=if a.length<4611686018427387904 then some (Ol a)else none
theorem ZPX(b:List ByteArray):KO Tryz.prog 160 1 [.ref (0,0) 0 0 b.length] [⟨0,true,9,1,Ae Az b⟩] (fun _ _ _ _=>True) (u0 b) ZTa (ZSn):=⟨fun l H ks h θ c a f e _ y hy=>by
 obtain⟨d,hy⟩:=BD hy
 rw[Zwn]at hy
 cases hy
 match ks,c with
 |[g],_=>exact Zoa ZCf ⟨_,AB Tryz.f160,Tryz.func160,by kernel_rfl,by kernel_rfl⟩ a.1 b ((e.1.2 rfl).trans (Kw (AW _ _))) d ⟨rfl,(congrArg (updH H g) (Kw (AW _ _))).symm⟩⟩
abbrev OB:Int→AV:=fun y=>vI y
def pu(a:List Nt)(b:Int):Nat→St:=fun c=>Ab [(0,vL Ay a),(1,vI b),(5,vN c)] []
def oF(a:List Nt):Unit→Nat×St:=fun _=>(0,Ab [(0,vL Ay a)] [])
def V4(c:List Nt)(e:Int)(d:Nat):PT 0 (Lv (Nat) (Unit) (Int)):=vz (Ah c)<|br (decide ((d:Int)<(c.length:Int))&&decide ((d:Int)≤e)) (ix c d fun a=>vw .go<|ix c d fun b=>vz (A2 b.name.size)<|vw .go<|vy (!(decide ((300:Int)<(b.name.size:Int)))) (A2 a.val.text.size)<|vw .go<|vy (!(decide ((300:Int)<(b.name.size:Int))||decide ((300:Int)<(a.val.text.size:Int)))) (Ah a.val.list)<|vw .go<|vy (!(decide ((300:Int)<(b.name.size:Int))||decide ((300:Int)<(a.val.text.size:Int)))) (Ah a.val.pairs)<|vg (!(decide ((300:Int)<(b.name.size:Int))||decide ((300:Int)<(a.val.text.size:Int)))) (wa a.val.list.length a.val.pairs.length)<|vw .go<|vy (!(decide ((300:Int)<(b.name.size:Int))||decide ((300:Int)<(a.val.text.size:Int)))) (Ah a.val.slots)<|vg (!(decide ((300:Int)<(b.name.size:Int))||decide ((300:Int)<(a.val.text.size:Int)))) (wa (a.val.list.length+a.val.pairs.length) a.val.slots.length)<|vw .go<|vy (!(decide ((300:Int)<(b.name.size:Int))||decide ((300:Int)<(a.val.text.size:Int)))) (Ah a.val.raws)<|vg (!(decide ((300:Int)<(b.name.size:Int))||decide ((300:Int)<(a.val.text.size:Int)))) (wa ((a.val.list.length+a.val.pairs.length)+a.val.slots.length) a.val.raws.length)<|br ((decide ((300:Int)<(b.name.size:Int))||decide ((300:Int)<(a.val.text.size:Int)))||decide ((0:Int)<((((a.val.list.length+a.val.pairs.length)+a.val.slots.length)+a.val.raws.length:Nat):Int))) (vs (wi (e+10))<|Au OB (fun _=>[]) (e+10)) (vs (wa d 1)<|ln (pu c e) (d+1))) (Ak (oF c) ())
def S4(a:List Nt)(b:Int):Nat→Option (Lv (Nat) (Unit) (Int)):=fun c=>(V4 a b c).m
def XG(a:List Nt):PT 0 (Int):=vz (Ah a)<|lr OB (fun _=>[]) (a.length:Int)
def Wv(a:List Nt)(b:Int):PT 0 (Int):=lc (Ab [(0,vL Ay a),(1,vI b),(5,vI 0)] []) ((Ao (S4 a b) Aj 0).bind (Sum.elim (fun _=>(XG a).m) some))
def W2(a:List Nt)(b:Int):PT 0 (Int):=lc (Ab [(0,vL Ay a),(1,vI b)] []) ((Wv a b).m)
def bd(a:List Nt)(b:Int):Option (Int):=(W2 a b).m
theorem ZGX{C:Cx}(co:CO C 0)(a:List Nt)(b:Int):KL Tryz.prog (AE tl) 58 C (pa [0,0,1,0,1] (AB Tryz.f41)) [.tmp 4] 0 (pu a b) (oF a) OB (fun _=>[]) (S4 a b):=fun f _ hm Q c e d=>AD co Aa Ad (V4 a b f) (AO [0,1,5]) (AO [0]) e hm d fun r g=>⟨fun h=>fun i=>⟨id,id⟩,id⟩
theorem J1(b:List Nt)(c:Int):KC Tryz.prog 41 [vL Ay b,vI c] (bd b c) OB:=Av Tryz.func41 Tryz.ntmps41 Aa [.tmp 4] fun C co y hm d a=>Al co Aa Ad 1 (W2 b c) (AO [0,1]) nl (fun _ h=>h) hm a fun r g=>fun _ hm a=>sq (Al co Aa Ad 1 (Wv b c) (AO [0,1,5]) nl (fun _ h=>h) hm a fun r g=>fun _ hm a=>bk 0 (lo (AK (ZGX co b c) (fun _ h=>h) hm a (fun _ hm=>An co Aa Ad (XG b) hm a fun r g=>id))))
abbrev OC:Int→AV:=fun y=>vI y
def qS(a:List ByteArray)(b:Int):Nat→St:=fun c=>Ab [(0,vL Az a),(1,vI b),(5,vN c)] []
def rR(a:List ByteArray):Unit→Nat×St:=fun _=>(0,Ab [(0,vL Az a)] [])
def V5(a:List ByteArray)(c:Int)(b:Nat):PT 0 (Lv (Nat) (Unit) (Int)):=vz (Ah a)<|br (decide ((b:Int)<(a.length:Int))&&decide ((b:Int)≤c)) (ix a b fun d=>vz (A2 d.size)<|br (decide ((300:Int)<(d.size:Int))) (vs (wi (c+10))<|Au OC (fun _=>[]) (c+10)) (vs (wa b 1)<|ln (qS a c) (b+1))) (Ak (rR a) ())
def Te(a:List ByteArray)(b:Int):Nat→Option (Lv (Nat) (Unit) (Int)):=fun c=>(V5 a b c).m
def XN(a:List ByteArray):PT 0 (Int):=vz (Ah a)<|lr OC (fun _=>[]) (a.length:Int)
def Xi(a:List ByteArray)(b:Int):PT 0 (Int):=lc (Ab [(0,vL Az a),(1,vI b),(5,vI 0)] []) ((Ao (Te a b) Aj 0).bind (Sum.elim (fun _=>(XN a).m) some))
def VZ(a:List ByteArray)(b:Int):PT 0 (Int):=lc (Ab [(0,vL Az a),(1,vI b)] []) ((Xi a b).m)
def bc(a:List ByteArray)(b:Int):Option (Int):=(VZ a b).m
theorem ZFk{C:Cx}(co:CO C 0)(a:List ByteArray)(b:Int):KL Tryz.prog (AE tl) 27 C (pa [0,0,1,0,1] (AB Tryz.f42)) [.tmp 4] 0 (qS a b) (rR a) OC (fun _=>[]) (Te a b):=fun f _ hm Q c e d=>AD co Aa Ad (V5 a b f) (AO [0,1,5]) (AO [0]) e hm d fun r g=>⟨fun h=>⟨id,id⟩,id⟩
theorem IB(b:List ByteArray)(c:Int):KC Tryz.prog 42 [vL Az b,vI c] (bc b c) OC:=Av Tryz.func42 Tryz.ntmps42 Aa [.tmp 4] fun C co y hm d a=>Al co Aa Ad 1 (VZ b c) (AO [0,1]) nl (fun _ h=>h) hm a fun r g=>fun _ hm a=>sq (Al co Aa Ad 1 (Xi b c) (AO [0,1,5]) nl (fun _ h=>h) hm a fun r g=>fun _ hm a=>bk 0 (lo (AK (ZFk co b c) (fun _ h=>h) hm a (fun _ hm=>An co Aa Ad (XN b) hm a fun r g=>id))))
abbrev CP:List (Ac×Bool):=[((1,1),false)]
abbrev BF(a:Scm):Ac×Blk:=((1,1),⟨0,true,26,3,[vL AH a.messages,vL AQ a.enums,vL AX a.services]⟩)
abbrev Aw(a:Msg):Ac×Blk:=((1,5),⟨0,true,48,5,[vS a.name,vL Ar a.fields,vL AR a.reserved,vL Az a.gone,vL Ay a.notes]⟩)
abbrev Uc(a:Enm):Ac×Blk:=((1,9),⟨0,true,93,5,[vS a.name,vB a.opn,vL Ca a.items,vL AR a.reserved,vL Ay a.notes]⟩)
abbrev kT(a:Svc):Ac×Blk:=((1,12),⟨0,true,98,3,[vS a.name,vL FX a.methods,vL Ay a.notes]⟩)
abbrev Gh:Bool→AV:=fun y=>vB y
def pe(a:Scm):Int×Nat→St:=fun(b,v2)=>Ab [(1,.ptr (1,1) 0 0),(3,vI b),(4,vN v2)] [(BF a)]
def pF(b:Scm):Int→Nat×St:=fun a=>(0,Ab [(1,.ptr (1,1) 0 0),(3,vI a)] [(BF b)])
def VC(b:Scm)(v2:Nat)(a:Msg):Int×Nat→St:=fun(c,d)=>Ab [(1,.ptr (1,1) 0 0),(3,vI c),(4,vN v2),(5,.ptr (1,5) 0 0),(6,vN d)] [(BF b),(Aw a)]
def qI(b:Scm)(v2:Nat):Int→Nat×St:=fun a=>(2,Ab [(1,.ptr (1,1) 0 0),(3,vI a),(4,vN v2)] [(BF b)])
def XU(g:Scm)(v2:Nat)(f:Msg)(a:Int)(e:Nat):PT 0 (Lv (Int×Nat) (Int) (Bool)):=vw .go<|vz (Ah f.fields)<|br (decide ((e:Int)<(f.fields.length:Int))&&decide ((0:Int)≤a)) (vw .go<|ix f.fields e fun d=>vw .go<|vs (wi (a-1))<|vw .go<|cl (J1 d.notes a) fun b=>vs (wi ((a-1)-b))<|vw .go<|vw .go<|vw .go<|cl (IB ([d.name,d.type.name,d.union]:List ByteArray) a) fun c=>vs (wi (((a-1)-b)-c))<|vs (wi ((((a-1)-b)-c)+3))<|vw .go<|vz (A2 d.dflt.text.size)<|br (decide ((300:Int)<(d.dflt.text.size:Int))) (vs (wa e 1)<|ln (VC g v2 f) ((-1),e+1)) (vs (wa e 1)<|ln (VC g v2 f) (((((a-1)-b)-c)+3),e+1))) (Ak (qI g v2) a)
def S0(b:Scm)(v2:Nat)(a:Msg):Int×Nat→Option (Lv (Int×Nat) (Int) (Bool)):=fun(c,d)=>(XU b v2 a c d).m
def XC(b:Scm)(v2:Nat)(a:Int):PT 0 (Lv (Int×Nat) (Int) (Bool)):=vs (wa v2 1)<|ln (pe b) (a,v2+1)
def WZ(d:Scm)(b:Int)(v2:Nat):PT 0 (Lv (Int×Nat) (Int) (Bool)):=vw .go<|ix d.messages v2 fun a=>vw .go<|vw .go<|cl (J1 a.notes b) fun c=>vs (wi (b-c))<|vw .go<|vz (Ah a.reserved)<|vs (wi ((b-c)-(a.reserved.length:Int)))<|vw .go<|cl (IB a.gone b) fun e=>vs (wi (((b-c)-(a.reserved.length:Int))-e))<|vw .go<|cl (IB ([a.name]:List ByteArray) b) fun g=>vs (wi ((((b-c)-(a.reserved.length:Int))-e)-g))<|lc (Ab [(1,.ptr (1,1) 0 0),(3,vI ((((b-c)-(a.reserved.length:Int))-e)-g)),(4,vN v2),(5,.ptr (1,5) 0 0),(6,vI 0)] [(BF d),(Aw a)]) ((Ao (S0 d v2 a) Aj (((((b-c)-(a.reserved.length:Int))-e)-g),0)).bind (Sum.elim (fun f=>(XC d v2 f).m) (fun z=>some (.rt z))))
def X5(a:Scm)(b:Int)(v2:Nat):PT 0 (Lv (Int×Nat) (Int) (Bool)):=vw .go<|vz (Ah a.messages)<|br (decide ((v2:Int)<(a.messages.length:Int))&&decide ((0:Int)≤b)) (lc (Ab [(1,.ptr (1,1) 0 0),(3,vI b),(4,vN v2)] [(BF a)]) ((WZ a b v2).m)) (Ak (pF a) b)
def TZ(a:Scm):Int×Nat→Option (Lv (Int×Nat) (Int) (Bool)):=fun(b,v2)=>(X5 a b v2).m
def pf(c:Scm):Int×Nat→St:=fun(a,b)=>Ab [(1,.ptr (1,1) 0 0),(3,vI a),(8,vN b)] [(BF c)]
def rI(b:Scm):Int→Nat×St:=fun a=>(4,Ab [(1,.ptr (1,1) 0 0),(3,vI a)] [(BF b)])
def qP(e:Scm)(b:Nat)(a:Enm):Int×Nat→St:=fun(c,d)=>Ab [(1,.ptr (1,1) 0 0),(3,vI c),(8,vN b),(9,.ptr (1,9) 0 0),(10,vN d)] [(BF e),(Uc a)]
def oB(c:Scm)(a:Nat):Int→Nat×St:=fun b=>(6,Ab [(1,.ptr (1,1) 0 0),(3,vI b),(8,vN a)] [(BF c)])
def WR(i:Scm)(e:Nat)(b:Enm)(a:Int)(c:Nat):PT 0 (Lv (Int×Nat) (Int) (Bool)):=vw .go<|vz (Ah b.items)<|br (decide ((c:Int)<(b.items.length:Int))&&decide ((0:Int)≤a)) (vw .go<|ix b.items c fun g=>cl (J1 g.notes a) fun d=>vs (wi (a-d))<|vw .go<|ix b.items c fun h=>cl (IB ([h.name]:List ByteArray) a) fun f=>vs (wi ((a-d)-f))<|vs (wa c 1)<|ln (qP i e b) (((a-d)-f),c+1)) (Ak (oB i e) a)
def TO(e:Scm)(b:Nat)(a:Enm):Int×Nat→Option (Lv (Int×Nat) (Int) (Bool)):=fun(c,d)=>(WR e b a c d).m
def WG(c:Scm)(a:Nat)(b:Int):PT 0 (Lv (Int×Nat) (Int) (Bool)):=vs (wa a 1)<|ln (pf c) (b,a+1)
def XO(f:Scm)(b:Int)(d:Nat):PT 0 (Lv (Int×Nat) (Int) (Bool)):=vw .go<|ix f.enums d fun a=>vw .go<|vw .go<|cl (J1 a.notes b) fun c=>vs (wi (b-c))<|vw .go<|vz (Ah a.reserved)<|vs (wi ((b-c)-(a.reserved.length:Int)))<|vw .go<|cl (IB ([a.name]:List ByteArray) b) fun e=>vs (wi (((b-c)-(a.reserved.length:Int))-e))<|lc (Ab [(1,.ptr (1,1) 0 0),(3,vI (((b-c)-(a.reserved.length:Int))-e)),(8,vN d),(9,.ptr (1,9) 0 0),(10,vI 0)] [(BF f),(Uc a)]) ((Ao (TO f d a) Aj ((((b-c)-(a.reserved.length:Int))-e),0)).bind (Sum.elim (fun g=>(WG f d g).m) (fun z=>some (.rt z))))
def X3(c:Scm)(a:Int)(b:Nat):PT 0 (Lv (Int×Nat) (Int) (Bool)):=vw .go<|vz (Ah c.enums)<|br (decide ((b:Int)<(c.enums.length:Int))&&decide ((0:Int)≤a)) (lc (Ab [(1,.ptr (1,1) 0 0),(3,vI a),(8,vN b)] [(BF c)]) ((XO c a b).m)) (Ak (rI c) a)
def Tm(c:Scm):Int×Nat→Option (Lv (Int×Nat) (Int) (Bool)):=fun(a,b)=>(X3 c a b).m
def qu(c:Scm):Int×Nat→St:=fun(a,b)=>Ab [(1,.ptr (1,1) 0 0),(3,vI a),(11,vN b)] [(BF c)]
def pr:Int→Nat×St:=fun a=>(8,Ab [(3,vI a)] [])
def oC(e:Scm)(b:Nat)(a:Svc):Int×Nat→St:=fun(c,d)=>Ab [(1,.ptr (1,1) 0 0),(3,vI c),(11,vN b),(12,.ptr (1,12) 0 0),(13,vN d)] [(BF e),(kT a)]
def qD(c:Scm)(a:Nat):Int→Nat×St:=fun b=>(10,Ab [(1,.ptr (1,1) 0 0),(3,vI b),(11,vN a)] [(BF c)])
def XR(k:Scm)(f:Nat)(b:Svc)(a:Int)(c:Nat):PT 0 (Lv (Int×Nat) (Int) (Bool)):=vw .go<|vz (Ah b.methods)<|br (decide ((c:Int)<(b.methods.length:Int))&&decide ((0:Int)≤a)) (vw .go<|ix b.methods c fun g=>cl (J1 g.notes a) fun d=>vs (wi (a-d))<|vw .go<|ix b.methods c fun h=>vw .go<|ix b.methods c fun i=>vw .go<|ix b.methods c fun j=>cl (IB ([h.name,i.inn,j.out]:List ByteArray) a) fun e=>vs (wi ((a-d)-e))<|vs (wi (((a-d)-e)+2))<|vs (wa c 1)<|ln (oC k f b) ((((a-d)-e)+2),c+1)) (Ak (qD k f) a)
def SO(e:Scm)(b:Nat)(a:Svc):Int×Nat→Option (Lv (Int×Nat) (Int) (Bool)):=fun(c,d)=>(XR e b a c d).m
def kJ(c:Scm)(a:Nat)(b:Int):PT 0 (Lv (Int×Nat) (Int) (Bool)):=vs (wa a 1)<|ln (qu c) (b,a+1)
def eH(f:Scm)(a:Int)(c:Nat):PT 0 (Lv (Int×Nat) (Int) (Bool)):=vw .go<|ix f.services c fun b=>vw .go<|vw .go<|cl (J1 b.notes a) fun d=>vs (wi (a-d))<|vw .go<|cl (IB ([b.name]:List ByteArray) a) fun e=>vs (wi ((a-d)-e))<|lc (Ab [(1,.ptr (1,1) 0 0),(3,vI ((a-d)-e)),(11,vN c),(12,.ptr (1,12) 0 0),(13,vI 0)] [(BF f),(kT b)]) ((Ao (SO f c b) Aj (((a-d)-e),0)).bind (Sum.elim (fun g=>(kJ f c g).m) (fun z=>some (.rt z))))
def jl(c:Scm)(a:Int)(b:Nat):PT 0 (Lv (Int×Nat) (Int) (Bool)):=vw .go<|vz (Ah c.services)<|br (decide ((b:Int)<(c.services.length:Int))&&decide ((0:Int)≤a)) (lc (Ab [(1,.ptr (1,1) 0 0),(3,vI a),(11,vN b)] [(BF c)]) ((eH c a b).m)) (Ak (pr) a)
def TD(c:Scm):Int×Nat→Option (Lv (Int×Nat) (Int) (Bool)):=fun(a,b)=>(jl c a b).m
def fR(a:Int):PT 0 (Bool):=lr Gh (fun _=>[]) (decide ((0:Int)≤a))
def gK(c:Scm)(a:Int):PT 0 (Bool):=lc (Ab [(1,.ptr (1,1) 0 0),(3,vI a),(11,vI 0)] [(BF c)]) ((Ao (TD c) Aj (a,0)).bind (Sum.elim (fun b=>(fR b).m) some))
def fb(b:Scm)(a:Int):PT 0 (Bool):=lc (Ab [(1,.ptr (1,1) 0 0),(3,vI a),(8,vI 0)] [(BF b)]) ((Ao (Tm b) Aj (a,0)).bind (Sum.elim (fun c=>(gK b c).m) some))
def fs(a:Scm):PT 0 (Bool):=lc (Ab [(1,.ptr (1,1) 0 0),(3,vI 400),(4,vI 0)] [(BF a)]) ((Ao (TZ a) Aj (400,0)).bind (Sum.elim (fun b=>(fb a b).m) some))
def i7(a:Scm):PT 0 (Bool):=vw .go<|vz (Ah a.messages)<|vw .go<|vy (!(decide ((150:Int)<(a.messages.length:Int)))) (Ah a.enums)<|vw .go<|vy (!(decide ((150:Int)<(a.messages.length:Int))||decide ((150:Int)<(a.enums.length:Int)))) (Ah a.services)<|vw .go<|vy (!((decide ((150:Int)<(a.messages.length:Int))||decide ((150:Int)<(a.enums.length:Int)))||decide ((150:Int)<(a.services.length:Int)))) (Ah a.messages)<|vw .go<|vy (!((decide ((150:Int)<(a.messages.length:Int))||decide ((150:Int)<(a.enums.length:Int)))||decide ((150:Int)<(a.services.length:Int)))) (Ah a.enums)<|vg (!((decide ((150:Int)<(a.messages.length:Int))||decide ((150:Int)<(a.enums.length:Int)))||decide ((150:Int)<(a.services.length:Int)))) (wa a.messages.length a.enums.length)<|vw .go<|vy (!((decide ((150:Int)<(a.messages.length:Int))||decide ((150:Int)<(a.enums.length:Int)))||decide ((150:Int)<(a.services.length:Int)))) (Ah a.services)<|vg (!((decide ((150:Int)<(a.messages.length:Int))||decide ((150:Int)<(a.enums.length:Int)))||decide ((150:Int)<(a.services.length:Int)))) (wa (a.messages.length+a.enums.length) a.services.length)<|br (((decide ((150:Int)<(a.messages.length:Int))||decide ((150:Int)<(a.enums.length:Int)))||decide ((150:Int)<(a.services.length:Int)))||decide ((150:Int)<(((a.messages.length+a.enums.length)+a.services.length:Nat):Int))) (lr Gh (fun _=>[]) false) (lc (Ab [(1,.ptr (1,1) 0 0),(3,vI 400)] [(BF a)]) ((fs a).m))
def aW(a:Scm):Option (Bool):=(i7 a).m
theorem ZCY{C:Cx}(co:CO C 0)(a:Scm)(v2:Nat)(b:Msg):KL Tryz.prog (AE tl) 258 C (pa [0,0,1,1,1,0,0,1,0,0,1,0,1,1,1] (AB Tryz.f18)) [.tmp 2] 0 (VC a v2 b) (qI a v2) Gh (fun _=>[]) (S0 a v2 b):=fun(f,h) _ hm Q c e d=>AD co Aa Ad (XU a v2 b f h) (Af [1,3,4,5,6] [((1,1),false),((1,5),false)]) (Af [1,3,4] CP) e hm d fun r g=>⟨fun k=>fun i=>fun j=>⟨id,id⟩,id⟩
theorem ZFC{C:Cx}(co:CO C 0)(a:Scm):KL Tryz.prog (AE tl) 258 C (pa [0,0,1,0,1,1,1] (AB Tryz.f18)) [.tmp 2] 0 (pe a) (pF a) Gh (fun _=>[]) (TZ a):=fun(f,v2) _ hm Q e c b=>Al co Aa Ad 1 (X5 a f v2) (Af [1,3,4] CP) (Af [1,3] CP) c hm b fun r g=>⟨fun _ hm b=>sq (bk 1 (Al co Aa Ad 3 (WZ a f v2) (Af [1,3,4,5,6] [((1,1),false),((1,5),false)]) nl c hm b fun r g=>fun h=>fun i=>fun j=>fun k=>fun _ hm b=>bk 2 (lo (HY (ZCY co a v2 h) c hm b (fun d hm=>AD co Aa Ad (XC a v2 d) (Af [1,3,4] CP) nl c hm b fun r g=>id))))),id⟩
theorem ZCV{C:Cx}(co:CO C 0)(c:Scm)(a:Nat)(b:Enm):KL Tryz.prog (AE tl) 258 C (pa [0,0,1,1,1,0,0,1,0,0,1,0,1,1,1,1] (AB Tryz.f18)) [.tmp 2] 0 (qP c a b) (oB c a) Gh (fun _=>[]) (TO c a b):=fun(d,e) _ hm Q f k j=>AD co Aa Ad (WR c a b d e) (Af [1,3,8,9,10] [((1,1),false),((1,9),false)]) (Af [1,3,8] CP) k hm j fun r g=>⟨fun h=>fun l=>fun i=>fun m=>id,id⟩
theorem ZGD{C:Cx}(co:CO C 0)(b:Scm):KL Tryz.prog (AE tl) 258 C (pa [0,0,1,0,1,1,1,1] (AB Tryz.f18)) [.tmp 2] 0 (pf b) (rI b) Gh (fun _=>[]) (Tm b):=fun(d,a) _ hm Q i e c=>Al co Aa Ad 1 (X3 b d a) (Af [1,3,8] CP) (Af [1,3] CP) e hm c fun r g=>⟨fun _ hm c=>sq (bk 5 (Al co Aa Ad 3 (XO b d a) (Af [1,3,8,9,10] [((1,1),false),((1,9),false)]) nl e hm c fun r g=>fun f=>fun j=>fun k=>fun _ hm c=>bk 6 (lo (HY (ZCV co b a f) e hm c (fun h hm=>AD co Aa Ad (WG b a h) (Af [1,3,8] CP) nl e hm c fun r g=>id))))),id⟩
theorem ZFJ{C:Cx}(co:CO C 0)(c:Scm)(a:Nat)(b:Svc):KL Tryz.prog (AE tl) 258 C (pa [0,0,1,1,1,0,0,1,0,0,1,0,1,1,1,1,1] (AB Tryz.f18)) [.tmp 2] 0 (oC c a b) (qD c a) Gh (fun _=>[]) (SO c a b):=fun(d,e) _ hm Q f m l=>AD co Aa Ad (XR c a b d e) (Af [1,3,11,12,13] [((1,1),false),((1,12),false)]) (Af [1,3,11] CP) m hm l fun r g=>⟨fun h=>fun n=>fun i=>fun j=>fun k=>fun o=>id,id⟩
theorem ZEF{C:Cx}(co:CO C 0)(c:Scm):KL Tryz.prog (AE tl) 258 C (pa [0,0,1,0,1,1,1,1,1] (AB Tryz.f18)) [.tmp 2] 0 (qu c) (pr) Gh (fun _=>[]) (TD c):=fun(d,a) _ hm Q i e b=>Al co Aa Ad 1 (jl c d a) (Af [1,3,11] CP) (AO [3]) e hm b fun r g=>⟨fun _ hm b=>sq (bk 9 (Al co Aa Ad 3 (eH c d a) (Af [1,3,11,12,13] [((1,1),false),((1,12),false)]) nl e hm b fun r g=>fun f=>fun j=>fun k=>fun _ hm b=>bk 10 (lo (HY (ZFJ co c a f) e hm b (fun h hm=>AD co Aa Ad (kJ c a h) (Af [1,3,11] CP) nl e hm b fun r g=>id))))),id⟩
theorem ZSx(b:Scm):KC Tryz.prog 18 [.agg ((AC b).map .d)] (aW b) Gh:=Av Tryz.func18 Tryz.ntmps18 Aa [.tmp 2] fun C co y hm f a=>Al co Aa Ad 3 (i7 b) (Af [1,3] CP) nl (fun _ h=>h) hm a fun r g=>⟨id,fun _ hm a=>sq (Al co Aa Ad 1 (fs b) (Af [1,3,4] CP) nl (fun _ h=>h) hm a fun r g=>fun _ hm a=>bk 0 (lo (AK (ZFC co b) (fun _ h=>h) hm a (fun c hm=>sq (Al co Aa Ad 1 (fb b c) (Af [1,3,8] CP) nl (fun _ h=>h) hm a fun r g=>fun _ hm a=>bk 4 (lo (AK (ZGD co b) (fun _ h=>h) hm a (fun d hm=>sq (Al co Aa Ad 1 (gK b d) (Af [1,3,11] CP) nl (fun _ h=>h) hm a fun r g=>fun _ hm a=>bk 8 (lo (AK (ZEF co b) (fun _ h=>h) hm a (fun e hm=>An co Aa Ad (fR e) hm a fun r g=>id))))))))))))⟩
abbrev HX:List (Ac×Bool):=[((1,2),false),((1,5),true)]
abbrev FD:List (Ac×Bool):=[((1,2),false)]
abbrev Ga(a:Scm):Ac×Blk:=((1,2),⟨0,true,26,3,[vL AH a.messages,vL AQ a.enums,vL AX a.services]⟩)
abbrev LJ:List ByteArray→AV:=fun y=>vL Az y
def oZ(b:Scm)(c:Int):List ByteArray×Nat→St:=fun(a,v2)=>Ab [(1,vI c),(2,.ptr (1,2) 0 0),(5,.ref (1,5) 0 0 a.length),(6,vN v2)] [(Ga b),((1,5),⟨0,true,9,1,Ae Az a⟩)]
def qy(b:Scm)(c:Int):List ByteArray→Nat×St:=fun a=>(0,Ab [(1,vI c),(2,.ptr (1,2) 0 0),(5,.ref (1,5) 0 0 a.length)] [(Ga b),((1,5),⟨0,true,9,1,Ae Az a⟩)])
def Wz(a:Scm)(c:Int)(b:List ByteArray)(v2:Nat):PT 0 (Lv (List ByteArray×Nat) (List ByteArray) (List ByteArray)):=vw .go<|vy (decide (c=(1:Int))) (Ah a.messages)<|br (decide (c=(1:Int))&&decide ((v2:Int)<(a.messages.length:Int))) (vw .go<|ix a.messages v2 fun d=>vw .sep<|ap b (d.name:ByteArray)<|vs (wa v2 1)<|vz (fl (b++[d.name]))<|ln (oZ a c) (b++[d.name],v2+1)) (vz (fl b)<|Ak (qy a c) b)
def S7(a:Scm)(b:Int):List ByteArray×Nat→Option (Lv (List ByteArray×Nat) (List ByteArray) (List ByteArray)):=fun(c,v2)=>(Wz a b c v2).m
def oP(b:Scm)(c:Int):List ByteArray×Nat→St:=fun(a,d)=>Ab [(1,vI c),(2,.ptr (1,2) 0 0),(5,.ref (1,5) 0 0 a.length),(7,vN d)] [(Ga b),((1,5),⟨0,true,9,1,Ae Az a⟩)]
def o1(b:Scm)(c:Int):List ByteArray→Nat×St:=fun a=>(2,Ab [(1,vI c),(2,.ptr (1,2) 0 0),(5,.ref (1,5) 0 0 a.length)] [(Ga b),((1,5),⟨0,true,9,1,Ae Az a⟩)])
def VO(a:Scm)(c:Int)(b:List ByteArray)(d:Nat):PT 0 (Lv (List ByteArray×Nat) (List ByteArray) (List ByteArray)):=vw .go<|vy (decide (c=(2:Int))) (Ah a.enums)<|br (decide (c=(2:Int))&&decide ((d:Int)<(a.enums.length:Int))) (vw .go<|ix a.enums d fun e=>vw .sep<|ap b (e.name:ByteArray)<|vs (wa d 1)<|vz (fl (b++[e.name]))<|ln (oP a c) (b++[e.name],d+1)) (vz (fl b)<|Ak (o1 a c) b)
def Tj(a:Scm)(b:Int):List ByteArray×Nat→Option (Lv (List ByteArray×Nat) (List ByteArray) (List ByteArray)):=fun(c,d)=>(VO a b c d).m
def ry(c:Scm)(d:Int):List ByteArray×Nat→St:=fun(b,a)=>Ab [(1,vI d),(2,.ptr (1,2) 0 0),(5,.ref (1,5) 0 0 b.length),(8,vN a)] [(Ga c),((1,5),⟨0,true,9,1,Ae Az b⟩)]
def pc:List ByteArray→Nat×St:=fun a=>(4,Ab [(5,.ref (1,5) 0 0 a.length)] [((1,5),⟨0,true,9,1,Ae Az a⟩)])
def XK(d:Scm)(e:Int)(c:List ByteArray)(a:Nat):PT 0 (Lv (List ByteArray×Nat) (List ByteArray) (List ByteArray)):=vw .go<|vy (decide (e=(3:Int))) (Ah d.services)<|br (decide (e=(3:Int))&&decide ((a:Int)<(d.services.length:Int))) (vw .go<|ix d.services a fun b=>vw .sep<|ap c (b.name:ByteArray)<|vs (wa a 1)<|vz (fl (c++[b.name]))<|ln (ry d e) (c++[b.name],a+1)) (vz (fl c)<|Ak (pc) c)
def SW(b:Scm)(c:Int):List ByteArray×Nat→Option (Lv (List ByteArray×Nat) (List ByteArray) (List ByteArray)):=fun(d,a)=>(XK b c d a).m
def VM(a:List ByteArray):PT 0 (List ByteArray):=vz (fr a)<|lr LJ (fun _=>[]) a
def VH(c:Scm)(d:Int)(a:List ByteArray):PT 0 (List ByteArray):=vz (fl a)<|lc (Ab [(1,vI d),(2,.ptr (1,2) 0 0),(5,.ref (1,5) 0 0 a.length),(8,vI 0)] [(Ga c),((1,5),⟨0,true,9,1,Ae Az a⟩)]) ((Ao (SW c d) Aj (a,0)).bind (Sum.elim (fun b=>(VM b).m) some))
def V7(b:Scm)(c:Int)(a:List ByteArray):PT 0 (List ByteArray):=vz (fl a)<|lc (Ab [(1,vI c),(2,.ptr (1,2) 0 0),(5,.ref (1,5) 0 0 a.length),(7,vI 0)] [(Ga b),((1,5),⟨0,true,9,1,Ae Az a⟩)]) ((Ao (Tj b c) Aj (a,0)).bind (Sum.elim (fun d=>(VH b c d).m) some))
def Wu(a:Scm)(b:Int):PT 0 (List ByteArray):=vw (.ads 5 5 9 1)<|vz (fl ([]:List ByteArray))<|lc (Ab [(1,vI b),(2,.ptr (1,2) 0 0),(5,.ref (1,5) 0 0 ([]:List ByteArray).length),(6,vI 0)] [(Ga a),((1,5),⟨0,true,9,1,Ae Az ([]:List ByteArray)⟩)]) ((Ao (S7 a b) Aj (([]:List ByteArray),0)).bind (Sum.elim (fun c=>(V7 a b c).m) some))
def Vn(a:Scm)(b:Int):PT 0 (List ByteArray):=lc (Ab [(1,vI b),(2,.ptr (1,2) 0 0),(5,.e0),(6,vI 0)] [(Ga a)]) ((Wu a b).m)
def VY(a:Scm)(b:Int):PT 0 (List ByteArray):=lc (Ab [(1,vI b),(2,.ptr (1,2) 0 0),(5,.e0)] [(Ga a)]) ((Vn a b).m)
def aQ(a:Scm)(b:Int):Option (List ByteArray):=(VY a b).m
theorem ZER{C:Cx}(co:CO C 0)(a:Scm)(b:Int):KL Tryz.prog (AE tl) 70 C (pa [0,0,1,0,1,1] (AB Tryz.f71)) [.tmp 4] 0 (oZ a b) (qy a b) LJ (fun _=>[]) (S7 a b):=fun(f,v2) _ hm Q c e d=>AD co Aa Ad (Wz a b f v2) (Af [1,2,5,6] HX) (Af [1,2,5] HX) e hm d fun r g=>⟨fun h=>id,id⟩
theorem ZDC{C:Cx}(co:CO C 0)(a:Scm)(b:Int):KL Tryz.prog (AE tl) 70 C (pa [0,0,1,0,1,1,1] (AB Tryz.f71)) [.tmp 4] 0 (oP a b) (o1 a b) LJ (fun _=>[]) (Tj a b):=fun(f,h) _ hm Q c e d=>AD co Aa Ad (VO a b f h) (Af [1,2,5,7] HX) (Af [1,2,5] HX) e hm d fun r g=>⟨fun i=>id,id⟩
theorem ZCX{C:Cx}(co:CO C 0)(a:Scm)(b:Int):KL Tryz.prog (AE tl) 70 C (pa [0,0,1,0,1,1,1,1] (AB Tryz.f71)) [.tmp 4] 0 (ry a b) (pc) LJ (fun _=>[]) (SW a b):=fun(i,c) _ hm Q d h f=>AD co Aa Ad (XK a b i c) (Af [1,2,5,8] HX) (Af [5] [((1,5),true)]) h hm f fun r g=>⟨fun e=>id,id⟩
theorem P4(b:Scm)(c:Int):KC Tryz.prog 71 [.agg ((AC b).map .d),vI c] (aQ b c) LJ:=Av Tryz.func71 Tryz.ntmps71 Aa [.tmp 4] fun C co y hm e a=>Al co Aa Ad 2 (VY b c) (Af [1,2,5] FD) nl (fun _ h=>h) hm a fun r g=>fun _ hm a=>sq (Al co Aa Ad 1 (Vn b c) (Af [1,2,5,6] FD) nl (fun _ h=>h) hm a fun r g=>fun _ hm a=>bk 0 (Kg co (Wu b c) (Af [1,2,5,6] HX) hm a fun r g=>fun _ hm a=>lo (AK (ZER co b c) (fun _ h=>h) hm a (fun f hm=>sq (Al co Aa Ad 1 (V7 b c f) (Af [1,2,5,7] HX) nl (fun _ h=>h) hm a fun r g=>fun _ hm a=>bk 2 (lo (AK (ZDC co b c) (fun _ h=>h) hm a (fun i hm=>sq (Al co Aa Ad 1 (VH b c i) (Af [1,2,5,8] HX) nl (fun _ h=>h) hm a fun r g=>fun _ hm a=>bk 4 (lo (AK (ZCX co b c) (fun _ h=>h) hm a (fun d hm=>An co Aa Ad (VM d) hm a fun r g=>id))))))))))))
abbrev Ez:List (Ac×Bool):=[((0,0),false),((0,1),true)]
abbrev CQ(e:ByteArray)(z:List Prb):List (Ac×Blk):=[((0,0),⟨0,true,124,2,[vS e,.ref (0,1) 0 0 z.length]⟩),((0,1),⟨0,true,159,3,Ae Ax z⟩)]
abbrev Ut:List Prb→AV:=fun y=>.tup []
@[reducible] def UC(a:ByteArray):List Prb→List Blk:=fun y=>[⟨0,true,124,2,[vS a,.ref (0,1) 0 0 y.length]⟩,⟨0,true,159,3,Ae Ax y⟩]
def XA(a:ByteArray)(b:List Prb)(c:Int)(d:Int):PT 2 (List Prb):=lr Ut (UC a) (b++([(.mk a c d:Prb)]))
def XB(a:ByteArray)(b:List Prb)(c:Int)(d:Int):PT 2 (List Prb):=vw .go<|vw .go<|vw .sep<|ap b ((.mk a c d:Prb):Prb)<|Gf 1 (Ae Ax [(.mk a c d:Prb)]) (fun _=>xc _)<|vw .go<|vwl 0 [.ref (0,1) 1 0 (b++([(.mk a c d:Prb)])).length]<|vz (fl (b++([(.mk a c d:Prb)])))<|lc (Ab [] (CQ a (b++([(.mk a c d:Prb)])))) ((XA a b c d).m)
def WD(a:ByteArray)(b:List Prb):PT 2 (List Prb):=lr Ut (UC a) b
def W6(a:ByteArray)(b:List Prb)(c:Bool)(d:Int)(e:Int):PT 2 (List Prb):=vz (fl b)<|lc (Ab [(0,.ptr (0,0) 0 0),(2,vI d),(3,vI e),(8,vB c)] (CQ a b)) (if c=true then(XB a b d e).m else(WD a b).m)
def Bn(a:ByteArray)(b:List Prb)(c:Bool)(d:Int)(e:Int):Option (List Prb):=(W6 a b c d e).m
theorem BC(a:ByteArray)(b:List Prb)(f:Bool)(d:Int)(e:Int):KG Tryz.prog 72 2 [1] [(1,0)] [.ptr (0,0) 0 0,vB f,vI d,vI e] [⟨0,true,124,2,[vS a,.ref (0,1) 0 0 b.length]⟩,⟨0,true,159,3,Ae Ax b⟩] (Bn a b f d e) Ut (UC a):=kZ Tryz.func72 Tryz.ntmps72 Aa [] 2 [1] [0] [(1,0)] (fun C co i y hm j c=>Al co Aa Ad 1 (W6 a b f d e) (Af [0,2,3,8] Ez) nl (fun _ h=>h) hm c fun r g=>fun _ hm c=>cd f hm (fun hm=>IP co Aa Ad (.fst 0 (.fst 1 (.fst 2 (.fst 3 (.fst 5 (.fst 6 (.fst 7 (.fst 9 (.fst 10 (.fst 4 (.fst 8 (.fst 11 (.fst 12 (.fst 13 (.fst 14 (.fst 15 (.fst 16 .nil))))))))))))))))) [] (XB a b d e) (Af [] Ez) hm c fun r g=>⟨ZJ4 g i,fun _ hm c=>ZG (XA a b d e) co hm c (fun r g=>id) r g⟩) (fun hm=>An co Aa Ad (WD a b) hm c fun r g=>id))
abbrev OE:Bool→AV:=fun y=>vB y
def ou(a:List ByteArray):Nat→St:=fun b=>Ab [(0,vL Az a),(3,vN b)] []
def pG:Unit→Nat×St:=fun _=>(0,Ab [] [])
def W3(b:List ByteArray)(a:Nat):PT 0 (Lv (Nat) (Unit) (Bool)):=vz (Ah b)<|br (decide ((a:Int)<(b.length:Int))) (ix b a fun c=>vs (wi ((a:Int)-1))<|B1 b ((a:Int)-1) fun d=>br (Bm c d||decide (c=d)) (Au OE (fun _=>[]) false) (vs (wa a 1)<|ln (ou b) (a+1))) (Ak (pG) ())
def TH(a:List ByteArray):Nat→Option (Lv (Nat) (Unit) (Bool)):=fun b=>(W3 a b).m
def U3:PT 0 (Bool):=lr OE (fun _=>[]) true
def Vb(a:List ByteArray):PT 0 (Bool):=lc (Ab [(0,vL Az a),(3,vI 1)] []) ((Ao (TH a) Aj 1).bind (Sum.elim (fun _=>(U3).m) some))
def Xm(a:List ByteArray):PT 0 (Bool):=lc (Ab [(0,vL Az a)] []) ((Vb a).m)
def ba(a:List ByteArray):Option (Bool):=(Xm a).m
theorem ZDw{C:Cx}(co:CO C 0)(a:List ByteArray):KL Tryz.prog (AE tl) 20 C (pa [0,0,1,0,1] (AB Tryz.f73)) [.tmp 2] 0 (ou a) (pG) OE (fun _=>[]) (TH a):=fun e _ hm Q b d c=>AD co Aa Ad (W3 a e) (AO [0,3]) nl d hm c fun r g=>⟨fun f=>fun h=>⟨id,id⟩,id⟩
theorem ZSJ(b:List ByteArray):KC Tryz.prog 73 [vL Az b] (ba b) OE:=Av Tryz.func73 Tryz.ntmps73 Aa [.tmp 2] fun C co y hm c a=>Al co Aa Ad 1 (Xm b) (AO [0]) nl (fun _ h=>h) hm a fun r g=>fun _ hm a=>sq (Al co Aa Ad 1 (Vb b) (AO [0,3]) nl (fun _ h=>h) hm a fun r g=>fun _ hm a=>bk 0 (lo (AK (ZDw co b) (fun _ h=>h) hm a (fun _ hm=>An co Aa Ad (U3) hm a fun r g=>id))))
abbrev Pp:Bool→AV:=fun y=>vB y
def yy(a:List ByteArray)(b:ByteArray):Nat→St:=fun c=>Ab [(0,vL Az a),(1,vS b),(5,vN c)] []
def m9:Unit→Nat×St:=fun _=>(0,Ab [] [])
def SB(a:List ByteArray)(c:ByteArray)(b:Nat):PT 0 (Lv (Nat) (Unit) (Bool)):=vz (Ah a)<|br (decide ((b:Int)<(a.length:Int))) (ix a b fun d=>br (decide (d=c)) (Au Pp (fun _=>[]) true) (vs (wa b 1)<|ln (yy a c) (b+1))) (Ak (m9) ())
def KU(a:List ByteArray)(b:ByteArray):Nat→Option (Lv (Nat) (Unit) (Bool)):=fun c=>(SB a b c).m
def RW:PT 0 (Bool):=lr Pp (fun _=>[]) false
def R8(a:List ByteArray)(b:ByteArray):PT 0 (Bool):=lc (Ab [(0,vL Az a),(1,vS b),(5,vI 0)] []) ((Ao (KU a b) Aj 0).bind (Sum.elim (fun _=>(RW).m) some))
def RX(a:List ByteArray)(b:ByteArray):PT 0 (Bool):=lc (Ab [(0,vL Az a),(1,vS b)] []) ((R8 a b).m)
def MT(a:List ByteArray)(b:ByteArray):Option (Bool):=(RX a b).m
theorem Zyj{C:Cx}(co:CO C 0)(a:List ByteArray)(b:ByteArray):KL Tryz.prog (AE tl) 18 C (pa [0,0,1,0,1] (AB Tryz.f106)) [.tmp 4] 0 (yy a b) (m9) Pp (fun _=>[]) (KU a b):=fun f _ hm Q c e d=>AD co Aa Ad (SB a b f) (AO [0,1,5]) nl e hm d fun r g=>⟨fun h=>⟨id,id⟩,id⟩
theorem pn(b:List ByteArray)(c:ByteArray):KC Tryz.prog 106 [vL Az b,vS c] (MT b c) Pp:=Av Tryz.func106 Tryz.ntmps106 Aa [.tmp 4] fun C co y hm d a=>Al co Aa Ad 1 (RX b c) (AO [0,1]) nl (fun _ h=>h) hm a fun r g=>fun _ hm a=>sq (Al co Aa Ad 1 (R8 b c) (AO [0,1,5]) nl (fun _ h=>h) hm a fun r g=>fun _ hm a=>bk 0 (lo (AK (Zyj co b c) (fun _ h=>h) hm a (fun _ hm=>An co Aa Ad (RW) hm a fun r g=>id))))
abbrev OF:Bool→AV:=fun y=>vB y
def qT(a:List ByteArray)(b:List ByteArray):Nat→St:=fun c=>Ab [(0,vL Az a),(1,vL Az b),(5,vN c)] []
def pz:Unit→Nat×St:=fun _=>(0,Ab [] [])
def Xe(a:List ByteArray)(c:List ByteArray)(b:Nat):PT 0 (Lv (Nat) (Unit) (Bool)):=vz (Ah a)<|br (decide ((b:Int)<(a.length:Int))) (ix a b fun d=>cl (pn c d) fun e=>br e (Au OF (fun _=>[]) true) (vs (wa b 1)<|ln (qT a c) (b+1))) (Ak (pz) ())
def TU(a:List ByteArray)(b:List ByteArray):Nat→Option (Lv (Nat) (Unit) (Bool)):=fun c=>(Xe a b c).m
def Wx:PT 0 (Bool):=lr OF (fun _=>[]) false
def Wa(a:List ByteArray)(b:List ByteArray):PT 0 (Bool):=lc (Ab [(0,vL Az a),(1,vL Az b),(5,vI 0)] []) ((Ao (TU a b) Aj 0).bind (Sum.elim (fun _=>(Wx).m) some))
def Wy(a:List ByteArray)(b:List ByteArray):PT 0 (Bool):=lc (Ab [(0,vL Az a),(1,vL Az b)] []) ((Wa a b).m)
def aK(a:List ByteArray)(b:List ByteArray):Option (Bool):=(Wy a b).m
theorem ZC9{C:Cx}(co:CO C 0)(a:List ByteArray)(b:List ByteArray):KL Tryz.prog (AE tl) 18 C (pa [0,0,1,0,1] (AB Tryz.f74)) [.tmp 4] 0 (qT a b) (pz) OF (fun _=>[]) (TU a b):=fun f _ hm Q c e d=>AD co Aa Ad (Xe a b f) (AO [0,1,5]) nl e hm d fun r g=>⟨fun h=>fun i=>⟨id,id⟩,id⟩
theorem Z3(b:List ByteArray)(c:List ByteArray):KC Tryz.prog 74 [vL Az b,vL Az c] (aK b c) OF:=Av Tryz.func74 Tryz.ntmps74 Aa [.tmp 4] fun C co y hm d a=>Al co Aa Ad 1 (Wy b c) (AO [0,1]) nl (fun _ h=>h) hm a fun r g=>fun _ hm a=>sq (Al co Aa Ad 1 (Wa b c) (AO [0,1,5]) nl (fun _ h=>h) hm a fun r g=>fun _ hm a=>bk 0 (lo (AK (ZC9 co b c) (fun _ h=>h) hm a (fun _ hm=>An co Aa Ad (Wx) hm a fun r g=>id))))
abbrev kU(a:Scm):Ac×Blk:=((1,2),⟨0,true,26,3,[vL AH a.messages,vL AQ a.enums,vL AX a.services]⟩)
abbrev P1:Int→AV:=fun y=>vI y
def nB(a:Scm)(b:ByteArray):Nat→St:=fun c=>Ab [(1,vS b),(2,.ptr (1,2) 0 0),(5,vN c)] [(kU a)]
def yt:Unit→Nat×St:=fun _=>(0,Ab [] [])
def je(b:Scm)(c:ByteArray)(a:Nat):PT 0 (Lv (Nat) (Unit) (Int)):=vw .go<|vz (Ah b.messages)<|br (decide ((a:Int)<(b.messages.length:Int))) (vw .go<|ix b.messages a fun d=>br (decide (d.name=c)) (Au P1 (fun _=>[]) (a:Int)) (vs (wa a 1)<|ln (nB b c) (a+1))) (Ak (yt) ())
def SK(a:Scm)(b:ByteArray):Nat→Option (Lv (Nat) (Unit) (Int)):=fun c=>(je a b c).m
def fg:PT 0 (Int):=lr P1 (fun _=>[]) (-1)
def km(a:Scm)(b:ByteArray):PT 0 (Int):=lc (Ab [(1,vS b),(2,.ptr (1,2) 0 0),(5,vI 0)] [(kU a)]) ((Ao (SK a b) Aj 0).bind (Sum.elim (fun _=>(fg).m) some))
def gM(a:Scm)(b:ByteArray):PT 0 (Int):=lc (Ab [(1,vS b),(2,.ptr (1,2) 0 0)] [(kU a)]) ((km a b).m)
def az(a:Scm)(b:ByteArray):Option (Int):=(gM a b).m
theorem ZvB{C:Cx}(co:CO C 0)(a:Scm)(b:ByteArray):KL Tryz.prog (AE tl) 22 C (pa [0,0,1,0,1] (AB Tryz.f117)) [.tmp 4] 0 (nB a b) (yt) P1 (fun _=>[]) (SK a b):=fun f _ hm Q c e d=>AD co Aa Ad (je a b f) (Af [1,2,5] FD) nl e hm d fun r g=>⟨fun h=>⟨id,id⟩,id⟩
theorem NX(b:Scm)(c:ByteArray):KC Tryz.prog 117 [.agg ((AC b).map .d),vS c] (az b c) P1:=Av Tryz.func117 Tryz.ntmps117 Aa [.tmp 4] fun C co y hm d a=>Al co Aa Ad 1 (gM b c) (Af [1,2] FD) nl (fun _ h=>h) hm a fun r g=>fun _ hm a=>sq (Al co Aa Ad 1 (km b c) (Af [1,2,5] FD) nl (fun _ h=>h) hm a fun r g=>fun _ hm a=>bk 0 (lo (AK (ZvB co b c) (fun _ h=>h) hm a (fun _ hm=>An co Aa Ad (fg) hm a fun r g=>id))))
abbrev Oo:List (Ac×Bool):=[((1,3),false),((1,4),false)]
abbrev kV(a:Scm):Ac×Blk:=((1,3),⟨0,true,26,3,[vL AH a.messages,vL AQ a.enums,vL AX a.services]⟩)
abbrev kW(a:Msg):Ac×Blk:=((1,4),⟨0,true,48,5,[vS a.name,vL Ar a.fields,vL AR a.reserved,vL Az a.gone,vL Ay a.notes]⟩)
abbrev Pj:Bool→AV:=fun y=>vB y
def fL(a:Scm)(b:Msg)(c:List Bool):Nat→St:=fun d=>Ab [(2,vL AP c),(3,.ptr (1,3) 0 0),(4,.ptr (1,4) 0 0),(7,vN d)] [(kV a),(kW b)]
def zq:Unit→Nat×St:=fun _=>(0,Ab [] [])
def kC(d:Scm)(b:Msg)(e:List Bool)(a:Nat):PT 0 (Lv (Nat) (Unit) (Bool)):=vw .go<|vz (Ah b.fields)<|br (decide ((a:Int)<(b.fields.length:Int))) (vw .go<|ix b.fields a fun c=>vw .go<|vw .go<|vw .go<|br ((!decide (c.card=(1:Int)))||(!decide (c.type.kind=(10:Int)))) (vs (wa a 1)<|ln (fL d b e) (a+1)) (vw .go<|vw .go<|cl (NX d c.type.name) fun f=>A9 (decide ((0:Int)≤f)) e f fun g=>br (decide ((0:Int)≤f)&&(!g)) (Au Pj (fun _=>[]) true) (vs (wa a 1)<|ln (fL d b e) (a+1)))) (Ak (zq) ())
def SH(a:Scm)(b:Msg)(c:List Bool):Nat→Option (Lv (Nat) (Unit) (Bool)):=fun d=>(kC a b c d).m
def gU:PT 0 (Bool):=lr Pj (fun _=>[]) false
def jY(a:Scm)(b:Msg)(c:List Bool):PT 0 (Bool):=lc (Ab [(2,vL AP c),(3,.ptr (1,3) 0 0),(4,.ptr (1,4) 0 0),(7,vI 0)] [(kV a),(kW b)]) ((Ao (SH a b c) Aj 0).bind (Sum.elim (fun _=>(gU).m) some))
def gT(a:Scm)(b:Msg)(c:List Bool):PT 0 (Bool):=lc (Ab [(2,vL AP c),(3,.ptr (1,3) 0 0),(4,.ptr (1,4) 0 0)] [(kV a),(kW b)]) ((jY a b c).m)
def aR(a:Scm)(b:Msg)(c:List Bool):Option (Bool):=(gT a b c).m
theorem ZwA{C:Cx}(co:CO C 0)(a:Scm)(b:Msg)(c:List Bool):KL Tryz.prog (AE tl) 45 C (pa [0,0,1,0,1] (AB Tryz.f107)) [.tmp 6] 0 (fL a b c) (zq) Pj (fun _=>[]) (SH a b c):=fun h _ hm Q d f e=>AD co Aa Ad (kC a b c h) (Af [2,3,4,7] Oo) nl f hm e fun r g=>⟨fun i=>⟨id,fun k=>fun j=>⟨id,id⟩⟩,id⟩
theorem ZPm(b:Scm)(c:Msg)(d:List Bool):KC Tryz.prog 107 [.agg ((AC b).map .d),.agg ((AH c).map .d),vL AP d] (aR b c d) Pj:=Av Tryz.func107 Tryz.ntmps107 Aa [.tmp 6] fun C co y hm e a=>Al co Aa Ad 1 (gT b c d) (Af [2,3,4] Oo) nl (fun _ h=>h) hm a fun r g=>fun _ hm a=>sq (Al co Aa Ad 1 (jY b c d) (Af [2,3,4,7] Oo) nl (fun _ h=>h) hm a fun r g=>fun _ hm a=>bk 0 (lo (AK (ZwA co b c d) (fun _ h=>h) hm a (fun _ hm=>An co Aa Ad (gU) hm a fun r g=>id))))
abbrev kY:List (Ac×Bool):=[((0,0),true),((1,3),false),((1,4),false)]
abbrev Da:List (Ac×Bool):=[((0,0),true)]
abbrev kX(a:Scm):Ac×Blk:=((1,3),⟨0,true,26,3,[vL AH a.messages,vL AQ a.enums,vL AX a.services]⟩)
abbrev Z1(a:Msg):Ac×Blk:=((1,4),⟨0,true,48,5,[vS a.name,vL Ar a.fields,vL AR a.reserved,vL Az a.gone,vL Ay a.notes]⟩)
abbrev RU:Bool→AV:=fun y=>vB y
@[reducible] def Sk(a:List Bool):Bool→List Blk:=fun y=>[⟨0,true,4,1,Ae AP a⟩]
def dx(b:Scm)(c:Msg)(a:List Bool):Nat→St:=fun d=>Ab [(2,.ref (0,0) 0 0 a.length),(3,.ptr (1,3) 0 0),(4,.ptr (1,4) 0 0),(7,vN d)] [((0,0),⟨0,true,4,1,Ae AP a⟩),(kX b),(Z1 c)]
def wH(a:List Bool):Unit→Nat×St:=fun _=>(0,Ab [] [((0,0),⟨0,true,4,1,Ae AP a⟩)])
def dI(f:Scm)(c:Msg)(a:List Bool)(b:Nat):PT 1 (Lv (Nat) (Unit) (Bool)):=vw .go<|vz (Ah c.fields)<|br (decide ((b:Int)<(c.fields.length:Int))) (vw .go<|ix c.fields b fun e=>vw .go<|vw .go<|vw .go<|br ((!decide (e.card=(1:Int)))||(!decide (e.type.kind=(10:Int)))) (vs (wa b 1)<|vz (fl a)<|ln (dx f c a) (b+1)) (vw .go<|vw .go<|cl (NX f e.type.name) fun d=>vg (decide ((0:Int)≤d)) (Ci d a.length 1)<|zG (decide ((0:Int)≤d)) a d.toNat fun g=>br (decide ((0:Int)≤d)&&(!g)) (Au RU (Sk a) true) (vs (wa b 1)<|vz (fl a)<|ln (dx f c a) (b+1)))) (vz (fl a)<|Ak (wH a) ())
def Rp(a:Scm)(b:Msg)(c:List Bool):Nat→Option (Lv (Nat) (Unit) (Bool)):=fun d=>(dI a b c d).m
def dJ(a:List Bool):PT 1 (Bool):=lr RU (Sk a) false
def dG(b:Scm)(c:Msg)(a:List Bool):PT 1 (Bool):=vz (fl a)<|lc (Ab [(2,.ref (0,0) 0 0 a.length),(3,.ptr (1,3) 0 0),(4,.ptr (1,4) 0 0),(7,vI 0)] [((0,0),⟨0,true,4,1,Ae AP a⟩),(kX b),(Z1 c)]) ((Ao (Rp b c a) Aj 0).bind (Sum.elim (fun _=>(dJ a).m) some))
def dA(b:Scm)(c:Msg)(a:List Bool):PT 1 (Bool):=vz (fl a)<|lc (Ab [(2,.ref (0,0) 0 0 a.length),(3,.ptr (1,3) 0 0),(4,.ptr (1,4) 0 0)] [((0,0),⟨0,true,4,1,Ae AP a⟩),(kX b),(Z1 c)]) ((dG b c a).m)
def QC(a:Scm)(b:Msg)(c:List Bool):Option (Bool):=(dA a b c).m
theorem ZnP{C:Cx}(co:CO C 1)(b:Scm)(c:Msg)(a:List Bool):KL Tryz.prog (AE tl) 45 C (pa [0,0,1,0,1] (AB Tryz.f107)) [.tmp 6] 1 (dx b c a) (wH a) RU (Sk a) (Rp b c a):=fun h _ hm Q d f e=>AD co Aa Ad (dI b c a h) (Af [2,3,4,7] kY) (Af [] Da) f hm e fun r g=>⟨fun i=>⟨id,fun k=>fun j=>⟨id,id⟩⟩,id⟩
theorem ZGY(c:Scm)(d:Msg)(a:List Bool):KO Tryz.prog 107 1 [.agg ((AC c).map .d),.agg ((AH d).map .d),.ref (0,0) 0 0 a.length] [⟨0,true,4,1,Ae AP a⟩] (fun _ _ _ _=>True) (QC c d a) RU (Sk a):=A8 Tryz.func107 Tryz.ntmps107 Aa [.tmp 6] 1 (fun C co f y hm e b=>Al co Aa Ad 1 (dA c d a) (Af [2,3,4] kY) nl (fun _ h=>h) hm b fun r g=>fun _ hm b=>sq (Al co Aa Ad 1 (dG c d a) (Af [2,3,4,7] kY) nl (fun _ h=>h) hm b fun r g=>fun _ hm b=>bk 0 (lo (AK (ZnP co c d a) (fun _ h=>h) hm b (fun _ hm=>An co Aa Ad (dJ a) hm b fun r g=>id))))) (hB:=fun y=>⟨.inl (AW _ _),rfl,trivial⟩)
abbrev FE:List (Ac×Bool):=[((1,1),false),((1,10),true)]
abbrev I1(a:Scm):Ac×Blk:=((1,1),⟨0,true,26,3,[vL AH a.messages,vL AQ a.enums,vL AX a.services]⟩)
abbrev OG:List Bool→AV:=fun y=>vL AP y
def qL(b:Scm):Bool×Nat×List Bool→St:=fun(c,v2,a)=>Ab [(1,.ptr (1,1) 0 0),(3,.ref (1,10) 0 0 a.length),(4,vB c),(5,vN v2)] [(I1 b),((1,10),⟨0,true,4,1,Ae AP a⟩)]
def qA:List Bool→Nat×St:=fun a=>(0,Ab [(3,.ref (1,10) 0 0 a.length)] [((1,10),⟨0,true,4,1,Ae AP a⟩)])
def W5(b:Scm)(v2:Nat):Bool×Nat×List Bool→St:=fun(v4,v5,a)=>Ab [(1,.ptr (1,1) 0 0),(3,.ref (1,10) 0 0 a.length),(4,vB v4),(5,vN v2),(6,vN v5)] [(I1 b),((1,10),⟨0,true,4,1,Ae AP a⟩)]
def pE(c:Scm)(v2:Nat):Bool×List Bool→Nat×St:=fun(b,a)=>(2,Ab [(1,.ptr (1,1) 0 0),(3,.ref (1,10) 0 0 a.length),(4,vB b),(5,vN v2)] [(I1 c),((1,10),⟨0,true,4,1,Ae AP a⟩)])
def V1(b:Scm)(v2:Nat)(v4:Bool)(v5:Nat)(a:List Bool):PT 0 (Lv (Bool×Nat×List Bool) (Bool×List Bool) (List Bool)):=vw .go<|vz (Ah b.messages)<|br (decide ((v5:Int)<(b.messages.length:Int))) (vs (ir v5 a.length 1)<|ca a v5 fun c=>vw .go<|vw .go<|A9 (!c) b.messages (v5:Int) fun d=>Dt (!c) Tryz.prog 107 [.agg ((AC b).map .d),.agg ((AH d).map .d),.ref (1,10) 0 0 a.length] [(1,10)] [((1,10),⟨0,true,4,1,Ae AP a⟩)] (QC b d a) (fun y=>vB y) fun e=>br ((!c)&&(!e)) (vs (ir v5 a.length 1)<|vs (st a v5 true)<|rn 3 10 a.length (a.set v5 true)<|vw .sep<|vs (wa v5 1)<|vz (fl (a.set v5 true))<|ln (W5 b v2) (true,v5+1,a.set v5 true)) (vs (wa v5 1)<|vz (fl a)<|ln (W5 b v2) (v4,v5+1,a))) (vz (fl a)<|Ak (pE b v2) (v4,a))
def T3(a:Scm)(v2:Nat):Bool×Nat×List Bool→Option (Lv (Bool×Nat×List Bool) (Bool×List Bool) (List Bool)):=fun(v4,v5,b)=>(V1 a v2 v4 v5 b).m
def WN(c:Scm)(v2:Nat)(b:Bool)(a:List Bool):PT 0 (Lv (Bool×Nat×List Bool) (List Bool) (List Bool)):=vs (wa v2 1)<|vz (fl a)<|ln (qL c) (b,v2+1,a)
def WK(b:Scm)(v2:Nat)(a:List Bool):PT 0 (Lv (Bool×Nat×List Bool) (List Bool) (List Bool)):=vz (fl a)<|lc (Ab [(1,.ptr (1,1) 0 0),(3,.ref (1,10) 0 0 a.length),(4,vB false),(5,vN v2),(6,vI 0)] [(I1 b),((1,10),⟨0,true,4,1,Ae AP a⟩)]) ((Ao (T3 b v2) Aj (false,0,a)).bind (Sum.elim (fun(d,c)=>(WN b v2 d c).m) (fun z=>some (.rt z))))
def WX(b:Scm)(c:Bool)(v2:Nat)(a:List Bool):PT 0 (Lv (Bool×Nat×List Bool) (List Bool) (List Bool)):=vw .go<|vz (Ah b.messages)<|br (decide ((v2:Int)<(b.messages.length:Int))&&c) (vz (fl a)<|lc (Ab [(1,.ptr (1,1) 0 0),(3,.ref (1,10) 0 0 a.length),(5,vN v2)] [(I1 b),((1,10),⟨0,true,4,1,Ae AP a⟩)]) ((WK b v2 a).m)) (vz (fl a)<|Ak (qA) a)
def S3(a:Scm):Bool×Nat×List Bool→Option (Lv (Bool×Nat×List Bool) (List Bool) (List Bool)):=fun(c,v2,b)=>(WX a c v2 b).m
def VL(a:List Bool):PT 0 (List Bool):=vz (fr a)<|lr OG (fun _=>[]) a
def U2(a:Scm):PT 0 (List Bool):=vz (fl (List.replicate a.messages.length false))<|lc (Ab [(1,.ptr (1,1) 0 0),(3,.ref (1,10) 0 0 (List.replicate a.messages.length false).length),(4,vB true),(5,vI 0)] [(I1 a),((1,10),⟨0,true,4,1,Ae AP (List.replicate a.messages.length false)⟩)]) ((Ao (S3 a) Aj (true,0,List.replicate a.messages.length false)).bind (Sum.elim (fun b=>(VL b).m) some))
def Vq(a:Scm):PT 0 (List Bool):=vw .go<|vz (Ah a.messages)<|ms a.messages.length false [vB false] (by first|rfl|kernel_rfl)<|vz (fl (List.replicate a.messages.length false))<|lc (Ab [(1,.ptr (1,1) 0 0),(3,.ref (1,10) 0 0 (List.replicate a.messages.length false).length),(4,vB true)] [(I1 a),((1,10),⟨0,true,4,1,Ae AP (List.replicate a.messages.length false)⟩)]) ((U2 a).m)
def aN(a:Scm):Option (List Bool):=(Vq a).m
theorem ZDZ{C:Cx}(co:CO C 0)(a:Scm)(v2:Nat):KL Tryz.prog (AE tl) 48 C (pa [0,0,1,1,0,0,1,0,0,1,0,1,1,1] (AB Tryz.f75)) [.tmp 2] 0 (W5 a v2) (pE a v2) OG (fun _=>[]) (T3 a v2):=fun(v4,v5,b) _ hm Q c f e=>AD co Aa Ad (V1 a v2 v4 v5 b) (Af [1,3,4,5,6] FE) (Af [1,3,4,5] FE) f hm e fun r g=>⟨fun i=>fun d=>⟨fun y hy=>BJ (ZGY a d b) hy co g [((1,10),⟨0,true,4,1,Ae AP b⟩)] [] (AM []) (fun h j k=>trivial) (fun H=>⟨fun _=>⟨rfl,Bl (AW _ _) (by kernel_rfl)⟩,by kernel_rfl,trivial⟩),fun l=>⟨id,id⟩⟩,id⟩
theorem ZE7{C:Cx}(co:CO C 0)(b:Scm):KL Tryz.prog (AE tl) 48 C (pa [0,0,1,0,1,1,1] (AB Tryz.f75)) [.tmp 2] 0 (qL b) (qA) OG (fun _=>[]) (S3 b):=fun(i,v2,h) _ hm Q f c a=>Al co Aa Ad 1 (WX b i v2 h) (Af [1,3,5] FE) (Af [3] [((1,10),true)]) c hm a fun r g=>⟨fun _ hm a=>sq (bk 1 (Al co Aa Ad 2 (WK b v2 h) (Af [1,3,4,5,6] FE) nl c hm a fun r g=>fun _ hm a=>bk 2 (lo (HY (ZDZ co b v2) c hm a (fun(e,d) hm=>AD co Aa Ad (WN b v2 e d) (Af [1,3,4,5] FE) nl c hm a fun r g=>id))))),id⟩
theorem ZSW(b:Scm):KC Tryz.prog 75 [.agg ((AC b).map .d)] (aN b) OG:=Av Tryz.func75 Tryz.ntmps75 Aa [.tmp 2] fun C co y hm d a=>Al co Aa Ad 3 (Vq b) (Af [1,3,4] FE) nl (fun _ h=>h) hm a fun r g=>fun _ hm a=>sq (Al co Aa Ad 1 (U2 b) (Af [1,3,4,5] FE) nl (fun _ h=>h) hm a fun r g=>fun _ hm a=>bk 0 (lo (AK (ZE7 co b) (fun _ h=>h) hm a (fun c hm=>An co Aa Ad (VL c) hm a fun r g=>id))))
abbrev sw:Bool→AV:=fun y=>vB y
def gW(a:ByteArray)(b:Int)(d:Int)(f:Int):PT 0 (Bool):=vz (A2 a.size)<|FA (decide (b<(a.size:Int))) a b fun c=>FA (decide (b<(a.size:Int))&&decide (d≤(c.toNat:Int))) a b fun e=>lr sw (fun _=>[]) ((decide (b<(a.size:Int))&&decide (d≤(c.toNat:Int)))&&decide ((e.toNat:Int)≤f))
def bg(a:ByteArray)(b:Int)(c:Int)(d:Int):Option (Bool):=(gW a b c d).m
theorem N7(a:ByteArray)(b:Int)(c:Int)(d:Int):KC Tryz.prog 204 [vS a,vI b,.d (.int .u8 c),.d (.int .u8 d)] (bg a b c d) sw:=Av Tryz.func204 Tryz.ntmps204 Aa [.tmp 8] fun C co y hm e f=>An co Aa Ad (gW a b c d) hm f fun r g=>fun h=>fun i=>id
abbrev Py:Bool→AV:=fun y=>vB y
def zr(a:ByteArray)(b:Int)(c:Int):Nat→St:=fun d=>Ab [(0,vS a),(1,vI b),(2,vI c),(7,vN d)] []
def yM:Unit→Nat×St:=fun _=>(0,Ab [] [])
def g8(c:ByteArray)(b:Int)(d:Int)(a:Nat):PT 0 (Lv (Nat) (Unit) (Bool)):=br (decide ((a:Int)<d)) (vs (wi (b+(a:Int)))<|cl (N7 c (b+(a:Int)) 128 191) fun e=>br (!e) (Au Py (fun _=>[]) false) (vs (wa a 1)<|ln (zr c b d) (a+1))) (Ak (yM) ())
def SC(a:ByteArray)(b:Int)(c:Int):Nat→Option (Lv (Nat) (Unit) (Bool)):=fun d=>(g8 a b c d).m
def gA:PT 0 (Bool):=lr Py (fun _=>[]) true
def i4(a:ByteArray)(b:Int)(c:Int):PT 0 (Bool):=lc (Ab [(0,vS a),(1,vI b),(2,vI c),(7,vI 0)] []) ((Ao (SC a b c) Aj 0).bind (Sum.elim (fun _=>(gA).m) some))
def kw(a:ByteArray)(b:Int)(c:Int):PT 0 (Bool):=lc (Ab [(0,vS a),(1,vI b),(2,vI c)] []) ((i4 a b c).m)
def aH(a:ByteArray)(b:Int)(c:Int):Option (Bool):=(kw a b c).m
theorem ZvE{C:Cx}(co:CO C 0)(a:ByteArray)(b:Int)(c:Int):KL Tryz.prog (AE tl) 19 C (pa [0,0,1,0,1] (AB Tryz.f203)) [.tmp 6] 0 (zr a b c) (yM) Py (fun _=>[]) (SC a b c):=fun h _ hm Q d f e=>AD co Aa Ad (g8 a b c h) (AO [0,1,2,7]) nl f hm e fun r g=>⟨fun i=>⟨id,id⟩,id⟩
theorem Ji(b:ByteArray)(c:Int)(d:Int):KC Tryz.prog 203 [vS b,vI c,vI d] (aH b c d) Py:=Av Tryz.func203 Tryz.ntmps203 Aa [.tmp 6] fun C co y hm e a=>Al co Aa Ad 1 (kw b c d) (AO [0,1,2]) nl (fun _ h=>h) hm a fun r g=>fun _ hm a=>sq (Al co Aa Ad 1 (i4 b c d) (AO [0,1,2,7]) nl (fun _ h=>h) hm a fun r g=>fun _ hm a=>bk 0 (lo (AK (ZvE co b c d) (fun _ h=>h) hm a (fun _ hm=>An co Aa Ad (gA) hm a fun r g=>id))))
abbrev F1:Int→AV:=fun y=>vI y
def gh(c:ByteArray)(b:Int):PT 0 (Int):=Ud c b fun a=>br (decide ((a.toNat:Int)<(128:Int))) (lr F1 (fun _=>[]) 1) (vg (decide ((194:Int)≤(a.toNat:Int))&&decide ((a.toNat:Int)≤(223:Int))) (wi (b+1))<|clg (decide ((194:Int)≤(a.toNat:Int))&&decide ((a.toNat:Int)≤(223:Int))) (Ji c (b+1) 1) fun j=>br ((decide ((194:Int)≤(a.toNat:Int))&&decide ((a.toNat:Int)≤(223:Int)))&&j) (lr F1 (fun _=>[]) 2) (vg (decide ((a.toNat:Int)=(224:Int))) (wi (b+1))<|clg (decide ((a.toNat:Int)=(224:Int))) (N7 c (b+1) 160 191) fun g=>vg (decide ((a.toNat:Int)=(224:Int))&&g) (wi (b+2))<|clg (decide ((a.toNat:Int)=(224:Int))&&g) (Ji c (b+2) 1) fun k=>br ((decide ((a.toNat:Int)=(224:Int))&&g)&&k) (lr F1 (fun _=>[]) 3) (vg (decide ((a.toNat:Int)=(237:Int))) (wi (b+1))<|clg (decide ((a.toNat:Int)=(237:Int))) (N7 c (b+1) 128 159) fun h=>vg (decide ((a.toNat:Int)=(237:Int))&&h) (wi (b+2))<|clg (decide ((a.toNat:Int)=(237:Int))&&h) (Ji c (b+2) 1) fun l=>br ((decide ((a.toNat:Int)=(237:Int))&&h)&&l) (lr F1 (fun _=>[]) 3) (vg ((decide ((225:Int)≤(a.toNat:Int))&&decide ((a.toNat:Int)≤(239:Int)))&&(!decide ((a.toNat:Int)=(237:Int)))) (wi (b+1))<|clg ((decide ((225:Int)≤(a.toNat:Int))&&decide ((a.toNat:Int)≤(239:Int)))&&(!decide ((a.toNat:Int)=(237:Int)))) (Ji c (b+1) 2) fun m=>br (((decide ((225:Int)≤(a.toNat:Int))&&decide ((a.toNat:Int)≤(239:Int)))&&(!decide ((a.toNat:Int)=(237:Int))))&&m) (lr F1 (fun _=>[]) 3) (vg (decide ((a.toNat:Int)=(240:Int))) (wi (b+1))<|clg (decide ((a.toNat:Int)=(240:Int))) (N7 c (b+1) 144 191) fun i=>vg (decide ((a.toNat:Int)=(240:Int))&&i) (wi (b+2))<|clg (decide ((a.toNat:Int)=(240:Int))&&i) (Ji c (b+2) 2) fun n=>br ((decide ((a.toNat:Int)=(240:Int))&&i)&&n) (lr F1 (fun _=>[]) 4) (vg (decide ((241:Int)≤(a.toNat:Int))&&decide ((a.toNat:Int)≤(243:Int))) (wi (b+1))<|clg (decide ((241:Int)≤(a.toNat:Int))&&decide ((a.toNat:Int)≤(243:Int))) (Ji c (b+1) 3) fun e=>br ((decide ((241:Int)≤(a.toNat:Int))&&decide ((a.toNat:Int)≤(243:Int)))&&e) (lr F1 (fun _=>[]) 4) (vg (decide ((a.toNat:Int)=(244:Int))) (wi (b+1))<|clg (decide ((a.toNat:Int)=(244:Int))) (N7 c (b+1) 128 143) fun d=>vg (decide ((a.toNat:Int)=(244:Int))&&d) (wi (b+2))<|clg (decide ((a.toNat:Int)=(244:Int))&&d) (Ji c (b+2) 2) fun f=>br ((decide ((a.toNat:Int)=(244:Int))&&d)&&f) (lr F1 (fun _=>[]) 4) (lr F1 (fun _=>[]) 0))))))))
def aE(a:ByteArray)(b:Int):Option (Int):=(gh a b).m
theorem ZOc(a:ByteArray)(b:Int):KC Tryz.prog 177 [vS a,vI b] (aE a b) F1:=Av Tryz.func177 Tryz.ntmps177 Aa [.tmp 4] fun C co y hm c d=>An co Aa Ad (gh a b) hm d fun r g=>fun i=>⟨id,fun j=>⟨id,fun k=>fun l=>⟨id,fun m=>fun n=>⟨id,fun o=>⟨id,fun p=>fun q=>⟨id,fun e=>⟨id,fun f=>fun h=>⟨id,id⟩⟩⟩⟩⟩⟩⟩⟩
abbrev Ql:Int→AV:=fun y=>vI y
def yK(a:ByteArray):Int→St:=fun b=>Ab [(0,vS a),(3,vI b)] []
def nn:Unit→Nat×St:=fun _=>(0,Ab [] [])
def gI(b:ByteArray)(a:Int):PT 0 (Lv (Int) (Unit) (Int)):=vz (A2 b.size)<|br (decide (a<(b.size:Int))) (cl (ZOc b a) fun c=>br (decide (c=(0:Int))) (Au Ql (fun _=>[]) a) (vs (wi (a+c))<|ln (yK b) (a+c))) (Ak (nn) ())
def SA(a:ByteArray):Int→Option (Lv (Int) (Unit) (Int)):=fun b=>(gI a b).m
def ja:PT 0 (Int):=lr Ql (fun _=>[]) (-1)
def fv(a:ByteArray):PT 0 (Int):=lc (Ab [(0,vS a),(3,vI 0)] []) ((Ao (SA a) Aj 0).bind (Sum.elim (fun _=>(ja).m) some))
def jH(a:ByteArray):PT 0 (Int):=lc (Ab [(0,vS a)] []) ((fv a).m)
def bD(a:ByteArray):Option (Int):=(jH a).m
theorem ZvC{C:Cx}(co:CO C 0)(a:ByteArray):KL Tryz.prog (AE tl) 18 C (pa [0,0,1,0,1] (AB Tryz.f145)) [.tmp 2] 0 (yK a) (nn) Ql (fun _=>[]) (SA a):=fun e _ hm Q b d c=>AD co Aa Ad (gI a e) (AO [0,3]) nl d hm c fun r g=>⟨fun f=>⟨id,id⟩,id⟩
theorem ZO7(b:ByteArray):KC Tryz.prog 145 [vS b] (bD b) Ql:=Av Tryz.func145 Tryz.ntmps145 Aa [.tmp 2] fun C co y hm c a=>Al co Aa Ad 1 (jH b) (AO [0]) nl (fun _ h=>h) hm a fun r g=>fun _ hm a=>sq (Al co Aa Ad 1 (fv b) (AO [0,3]) nl (fun _ h=>h) hm a fun r g=>fun _ hm a=>bk 0 (lo (AK (ZvC co b) (fun _ h=>h) hm a (fun _ hm=>An co Aa Ad (ja) hm a fun r g=>id))))
abbrev sn:Bool→AV:=fun y=>vB y
def jo(a:ByteArray):PT 0 (Bool):=cl (ZO7 a) fun b=>lr sn (fun _=>[]) (decide (b<(0:Int)))
def Qz(a:ByteArray):Option (Bool):=(jo a).m
theorem oi(a:ByteArray):KC Tryz.prog 104 [vS a] (Qz a) sn:=Av Tryz.func104 Tryz.ntmps104 Aa [.tmp 2] fun C co y hm b c=>An co Aa Ad (jo a) hm c fun r g=>fun d=>id
abbrev sT:Bool→AV:=fun y=>vB y
def nK(a:Int):PT 0 (Bool):=lr sT (fun _=>[]) (decide ((97:Int)≤a)&&decide (a≤(122:Int)))
def uA(a:Int):Option (Bool):=(nK a).m
theorem qN(a:Int):KC Tryz.prog 180 [.d (.int .u8 a)] (uA a) sT:=Av Tryz.func180 Tryz.ntmps180 Aa [.tmp 2] fun C co y hm b c=>An co Aa Ad (nK a) hm c fun r g=>id
abbrev sp:Bool→AV:=fun y=>vB y
def yZ(a:Int):PT 0 (Bool):=lr sp (fun _=>[]) (decide ((65:Int)≤a)&&decide (a≤(90:Int)))
def uw(a:Int):Option (Bool):=(yZ a).m
theorem qK(a:Int):KC Tryz.prog 181 [.d (.int .u8 a)] (uw a) sp:=Av Tryz.func181 Tryz.ntmps181 Aa [.tmp 2] fun C co y hm b c=>An co Aa Ad (yZ a) hm c fun r g=>id
abbrev Me:Bool→AV:=fun y=>vB y
def nE(a:ByteArray):Nat→St:=fun v5=>Ab [(0,vS a),(3,vN v5)] []
def zw:Unit→Nat×St:=fun _=>(0,Ab [] [])
def kk(a:ByteArray)(v5:Nat):PT 0 (Lv (Nat) (Unit) (Bool)):=vz (A2 a.size)<|br (decide ((v5:Int)<(a.size:Int))) (ib a v5 fun g=>cl (qN (g.toNat:Int)) fun c=>FA (!c) a (v5:Int) fun h=>clg (!c) (qK (h.toNat:Int)) fun e=>FA ((!c)&&(!e)) a (v5:Int) fun b=>FA (((!c)&&(!e))&&(!decide ((b.toNat:Int)=(95:Int)))) a (v5:Int) fun d=>FA ((((!c)&&(!e))&&(!decide ((b.toNat:Int)=(95:Int))))&&(!(decide ((d.toNat:Int)<(48:Int))))) a (v5:Int) fun f=>br ((((!c)&&(!e))&&(!decide ((b.toNat:Int)=(95:Int))))&&(decide ((d.toNat:Int)<(48:Int))||decide ((57:Int)<(f.toNat:Int)))) (Au Me (fun _=>[]) false) (vs (wa v5 1)<|ln (nE a) (v5+1))) (Ak (zw) ())
def R9(a:ByteArray):Nat→Option (Lv (Nat) (Unit) (Bool)):=fun v5=>(kk a v5).m
def iQ:PT 0 (Bool):=lr Me (fun _=>[]) true
def jw(a:ByteArray):PT 0 (Bool):=lc (Ab [(0,vS a),(3,vI 1)] []) ((Ao (R9 a) Aj 1).bind (Sum.elim (fun _=>(iQ).m) some))
def io(a:ByteArray):PT 0 (Bool):=vz (A2 a.size)<|vy (!(decide ((a.size:Int)=(0:Int)))) (A2 a.size)<|FA (!(decide ((a.size:Int)=(0:Int))||decide ((40:Int)<(a.size:Int)))) a 0 fun c=>clg (!(decide ((a.size:Int)=(0:Int))||decide ((40:Int)<(a.size:Int)))) (qN (c.toNat:Int)) fun b=>FA ((!(decide ((a.size:Int)=(0:Int))||decide ((40:Int)<(a.size:Int))))&&(!b)) a 0 fun d=>clg ((!(decide ((a.size:Int)=(0:Int))||decide ((40:Int)<(a.size:Int))))&&(!b)) (qK (d.toNat:Int)) fun e=>br ((decide ((a.size:Int)=(0:Int))||decide ((40:Int)<(a.size:Int)))||((!b)&&(!e))) (lr Me (fun _=>[]) false) (lc (Ab [(0,vS a)] []) ((jw a).m))
def bl(a:ByteArray):Option (Bool):=(io a).m
theorem ZwE{C:Cx}(co:CO C 0)(a:ByteArray):KL Tryz.prog (AE tl) 60 C (pa [0,0,1,0,1,1] (AB Tryz.f155)) [.tmp 2] 0 (nE a) (zw) Me (fun _=>[]) (R9 a):=fun v5 _ hm Q b h f=>AD co Aa Ad (kk a v5) (AO [0,3]) nl h hm f fun r g=>⟨fun i=>fun k=>fun j=>fun l=>fun c=>fun d=>fun e=>⟨id,id⟩,id⟩
theorem WF(b:ByteArray):KC Tryz.prog 155 [vS b] (bl b) Me:=Av Tryz.func155 Tryz.ntmps155 Aa [.tmp 2] fun C co y hm c a=>Al co Aa Ad 2 (io b) (AO [0]) nl (fun _ h=>h) hm a fun r g=>fun d=>fun f=>fun e=>fun i=>⟨id,fun _ hm a=>sq (Al co Aa Ad 1 (jw b) (AO [0,3]) nl (fun _ h=>h) hm a fun r g=>fun _ hm a=>bk 0 (lo (AK (ZwE co b) (fun _ h=>h) hm a (fun _ hm=>An co Aa Ad (iQ) hm a fun r g=>id))))⟩
abbrev Mh:Bool→AV:=fun y=>vB y
def kI(a:ByteArray):ByteArray×Nat→St:=fun(b,v2)=>Ab [(0,vS a),(3,vS b),(4,vN v2)] []
def ni:ByteArray→Nat×St:=fun a=>(0,Ab [(3,vS a)] [])
def iP(a:ByteArray)(b:ByteArray)(v2:Nat):PT 0 (Lv (ByteArray×Nat) (ByteArray) (Bool)):=vz (A2 a.size)<|br (decide ((v2:Int)<(a.size:Int))) (ib a v2 fun c=>br (!decide ((c.toNat:Int)=(46:Int))) (vs (wa v2 1)<|ss a (.nt v2) (.nt (v2+1)) fun d=>ad b d fun e=>vs (wa v2 1)<|ln (kI a) (e,v2+1)) (cl (WF b) fun f=>br (!f) (Au Mh (fun _=>[]) false) (vs (wa v2 1)<|ln (kI a) (⟨#[]⟩,v2+1)))) (Ak (ni) b)
def R4(a:ByteArray):ByteArray×Nat→Option (Lv (ByteArray×Nat) (ByteArray) (Bool)):=fun(b,v2)=>(iP a b v2).m
def fG(a:ByteArray):PT 0 (Bool):=cl (WF a) fun b=>lr Mh (fun _=>[]) b
def kl(a:ByteArray):PT 0 (Bool):=lc (Ab [(0,vS a),(3,vS ⟨#[]⟩),(4,vI 0)] []) ((Ao (R4 a) Aj (⟨#[]⟩,0)).bind (Sum.elim (fun b=>(fG b).m) some))
def gp(a:ByteArray):PT 0 (Bool):=vz (A2 a.size)<|br (decide ((120:Int)<(a.size:Int))) (lr Mh (fun _=>[]) false) (lc (Ab [(0,vS a),(3,vS ⟨#[]⟩)] []) ((kl a).m))
def aM(a:ByteArray):Option (Bool):=(gp a).m
theorem Zx6{C:Cx}(co:CO C 0)(a:ByteArray):KL Tryz.prog (AE tl) 30 C (pa [0,0,1,0,1,1,1] (AB Tryz.f152)) [.tmp 2] 0 (kI a) (ni) Mh (fun _=>[]) (R4 a):=fun(e,v2) _ hm Q b d c=>AD co Aa Ad (iP a e v2) (AO [0,3,4]) (AO [3]) d hm c fun r g=>⟨fun f=>⟨fun h=>fun i=>id,fun j=>⟨id,id⟩⟩,id⟩
theorem ZOb(b:ByteArray):KC Tryz.prog 152 [vS b] (aM b) Mh:=Av Tryz.func152 Tryz.ntmps152 Aa [.tmp 2] fun C co y hm c a=>Al co Aa Ad 3 (gp b) (AO [0,3]) nl (fun _ h=>h) hm a fun r g=>⟨id,fun _ hm a=>sq (Al co Aa Ad 1 (kl b) (AO [0,3,4]) nl (fun _ h=>h) hm a fun r g=>fun _ hm a=>bk 0 (lo (AK (Zx6 co b) (fun _ h=>h) hm a (fun d hm=>An co Aa Ad (fG d) hm a fun r g=>fun e=>id))))⟩
abbrev Pu:ByteArray×ByteArray→AV:=fun y=>.tup [vS y.1,vS y.2]
def na(a:ByteArray):Int→St:=fun b=>Ab [(0,vS a),(4,vI b)] []
def n4(a:ByteArray):Unit→Nat×St:=fun _=>(0,Ab [(0,vS a)] [])
def iH(b:ByteArray)(a:Int):PT 0 (Lv (Int) (Unit) (ByteArray×ByteArray)):=br (decide ((0:Int)≤a)) (Ud b a fun c=>br (decide ((c.toNat:Int)=(46:Int))) (ss b .no (.it a) fun d=>vs (wi (a+1))<|ss b (.it (a+1)) .no fun e=>Au Pu (fun _=>[]) (d,e)) (vs (wi (a-1))<|ln (na b) (a-1))) (Ak (n4 b) ())
def Sw(a:ByteArray):Int→Option (Lv (Int) (Unit) (ByteArray×ByteArray)):=fun b=>(iH a b).m
def i3(a:ByteArray):PT 0 (ByteArray×ByteArray):=lr Pu (fun _=>[]) (⟨#[]⟩,a)
def jj(a:ByteArray):PT 0 (ByteArray×ByteArray):=vz (A2 a.size)<|vs (wi ((a.size:Int)-1))<|lc (Ab [(0,vS a),(4,vI ((a.size:Int)-1))] []) ((Ao (Sw a) Aj ((a.size:Int)-1)).bind (Sum.elim (fun _=>(i3 a).m) some))
def eJ(a:ByteArray):PT 0 (ByteArray×ByteArray):=lc (Ab [(0,vS a)] []) ((jj a).m)
def aT(a:ByteArray):Option (ByteArray×ByteArray):=(eJ a).m
theorem Zw6{C:Cx}(co:CO C 0)(a:ByteArray):KL Tryz.prog (AE tl) 24 C (pa [0,0,1,0,1] (AB Tryz.f153)) [.tmp 2,.tmp 3] 0 (na a) (n4 a) Pu (fun _=>[]) (Sw a):=fun e _ hm Q b d c=>AD co Aa Ad (iH a e) (AO [0,4]) (AO [0]) d hm c fun r g=>⟨fun f=>⟨fun h=>fun i=>id,id⟩,id⟩
theorem ZQn(b:ByteArray):KC Tryz.prog 153 [vS b] (aT b) Pu:=Av Tryz.func153 Tryz.ntmps153 Aa [.tmp 2,.tmp 3] fun C co y hm c a=>Al co Aa Ad 1 (eJ b) (AO [0]) nl (fun _ h=>h) hm a fun r g=>fun _ hm a=>sq (Al co Aa Ad 1 (jj b) (AO [0,4]) nl (fun _ h=>h) hm a fun r g=>fun _ hm a=>bk 0 (lo (AK (Zw6 co b) (fun _ h=>h) hm a (fun _ hm=>An co Aa Ad (i3 b) hm a fun r g=>id))))
abbrev Bb:Bool→AV:=fun y=>vB y
def jJ(a:ByteArray):PT 0 (Bool):=br (decide (a=(⟨#[109,101,115,115,97,103,101]⟩:ByteArray))) (br (decide (a=(⟨#[109,101,115,115,97,103,101]⟩:ByteArray))) (lr Bb (fun _=>[]) true) (lr Bb (fun _=>[]) false)) (br (decide (a=(⟨#[101,110,117,109]⟩:ByteArray))) (br (decide (a=(⟨#[101,110,117,109]⟩:ByteArray))) (lr Bb (fun _=>[]) true) (lr Bb (fun _=>[]) false)) (br (decide (a=(⟨#[115,101,114,118,105,99,101]⟩:ByteArray))) (br (decide (a=(⟨#[115,101,114,118,105,99,101]⟩:ByteArray))) (lr Bb (fun _=>[]) true) (lr Bb (fun _=>[]) false)) (br (decide (a=(⟨#[117,110,105,111,110]⟩:ByteArray))) (br (decide (a=(⟨#[117,110,105,111,110]⟩:ByteArray))) (lr Bb (fun _=>[]) true) (lr Bb (fun _=>[]) false)) (br (decide (a=(⟨#[109,97,112]⟩:ByteArray))) (br (decide (a=(⟨#[109,97,112]⟩:ByteArray))) (lr Bb (fun _=>[]) true) (lr Bb (fun _=>[]) false)) (br (decide (a=(⟨#[108,105,115,116]⟩:ByteArray))) (br (decide (a=(⟨#[108,105,115,116]⟩:ByteArray))) (lr Bb (fun _=>[]) true) (lr Bb (fun _=>[]) false)) (br (decide (a=(⟨#[114,101,113,117,105,114,101,100]⟩:ByteArray))) (br (decide (a=(⟨#[114,101,113,117,105,114,101,100]⟩:ByteArray))) (lr Bb (fun _=>[]) true) (lr Bb (fun _=>[]) false)) (br (decide (a=(⟨#[111,112,116,105,111,110,97,108]⟩:ByteArray))) (br (decide (a=(⟨#[111,112,116,105,111,110,97,108]⟩:ByteArray))) (lr Bb (fun _=>[]) true) (lr Bb (fun _=>[]) false)) (br (decide (a=(⟨#[112,108,97,105,110]⟩:ByteArray))) (br (decide (a=(⟨#[112,108,97,105,110]⟩:ByteArray))) (lr Bb (fun _=>[]) true) (lr Bb (fun _=>[]) false)) (br (decide (a=(⟨#[100,101,102,97,117,108,116]⟩:ByteArray))) (br (decide (a=(⟨#[100,101,102,97,117,108,116]⟩:ByteArray))) (lr Bb (fun _=>[]) true) (lr Bb (fun _=>[]) false)) (br (decide (a=(⟨#[114,101,115,101,114,118,101,100]⟩:ByteArray))) (br (decide (a=(⟨#[114,101,115,101,114,118,101,100]⟩:ByteArray))) (lr Bb (fun _=>[]) true) (lr Bb (fun _=>[]) false)) (br (decide (a=(⟨#[105,109,112,111,114,116]⟩:ByteArray))) (br (decide (a=(⟨#[105,109,112,111,114,116]⟩:ByteArray))) (lr Bb (fun _=>[]) true) (lr Bb (fun _=>[]) false)) (br (decide (a=(⟨#[115,112,97,99,101]⟩:ByteArray))) (br (decide (a=(⟨#[115,112,97,99,101]⟩:ByteArray))) (lr Bb (fun _=>[]) true) (lr Bb (fun _=>[]) false)) (br (decide (a=(⟨#[114,112,99]⟩:ByteArray))) (br (decide (a=(⟨#[114,112,99]⟩:ByteArray))) (lr Bb (fun _=>[]) true) (lr Bb (fun _=>[]) false)) (br (decide (a=(⟨#[115,116,114,101,97,109]⟩:ByteArray))) (br (decide (a=(⟨#[115,116,114,101,97,109]⟩:ByteArray))) (lr Bb (fun _=>[]) true) (lr Bb (fun _=>[]) false)) (br (decide (a=(⟨#[114,101,116,117,114,110,115]⟩:ByteArray))) (br (decide (a=(⟨#[114,101,116,117,114,110,115]⟩:ByteArray))) (lr Bb (fun _=>[]) true) (lr Bb (fun _=>[]) false)) (br (decide (a=(⟨#[111,112,101,110]⟩:ByteArray))) (br (decide (a=(⟨#[111,112,101,110]⟩:ByteArray))) (lr Bb (fun _=>[]) true) (lr Bb (fun _=>[]) false)) (br (decide (a=(⟨#[116,114,117,101]⟩:ByteArray))) (br (decide (a=(⟨#[116,114,117,101]⟩:ByteArray))) (lr Bb (fun _=>[]) true) (lr Bb (fun _=>[]) false)) (br (decide (a=(⟨#[102,97,108,115,101]⟩:ByteArray))) (br (decide (a=(⟨#[102,97,108,115,101]⟩:ByteArray))) (lr Bb (fun _=>[]) true) (lr Bb (fun _=>[]) false)) (br (decide (a=(⟨#[110,97,110]⟩:ByteArray))) (br (decide (a=(⟨#[110,97,110]⟩:ByteArray))) (lr Bb (fun _=>[]) true) (lr Bb (fun _=>[]) false)) (br (decide (a=(⟨#[105,110,102]⟩:ByteArray))) (lr Bb (fun _=>[]) true) (lr Bb (fun _=>[]) false)))))))))))))))))))))
def bm(a:ByteArray):Option (Bool):=(jJ a).m
theorem pl(a:ByteArray):KC Tryz.prog 154 [vS a] (bm a) Bb:=Av Tryz.func154 Tryz.ntmps154 Aa [.tmp 2] fun C co y hm b c=>An co Aa Ad (jJ a) hm c fun r g=>⟨⟨id,id⟩,⟨⟨id,id⟩,⟨⟨id,id⟩,⟨⟨id,id⟩,⟨⟨id,id⟩,⟨⟨id,id⟩,⟨⟨id,id⟩,⟨⟨id,id⟩,⟨⟨id,id⟩,⟨⟨id,id⟩,⟨⟨id,id⟩,⟨⟨id,id⟩,⟨⟨id,id⟩,⟨⟨id,id⟩,⟨⟨id,id⟩,⟨⟨id,id⟩,⟨⟨id,id⟩,⟨⟨id,id⟩,⟨⟨id,id⟩,⟨⟨id,id⟩,⟨id,id⟩⟩⟩⟩⟩⟩⟩⟩⟩⟩⟩⟩⟩⟩⟩⟩⟩⟩⟩⟩⟩
abbrev MN:Bool→AV:=fun y=>vB y
def m6:ByteArray×Nat→St:=fun(v2,v3)=>Ab [(0,vS v2),(3,vN v3)] []
def yI:Unit→Nat×St:=fun _=>(0,Ab [] [])
def eM(v2:ByteArray)(v3:Nat):PT 0 (Lv (ByteArray×Nat) (Unit) (Bool)):=br (decide ((v3:Int)<(120:Int))&&(!decide (v2=(⟨#[]⟩:ByteArray)))) (cl (ZQn v2) fun a=>cl (pl a.2) fun b=>br b (Au MN (fun _=>[]) false) (vs (wa v3 1)<|ln (m6) (a.1,v3+1))) (Ak (yI) ())
def RZ:ByteArray×Nat→Option (Lv (ByteArray×Nat) (Unit) (Bool)):=fun(v2,v3)=>(eM v2 v3).m
def iE:PT 0 (Bool):=lr MN (fun _=>[]) true
def gt(a:ByteArray):PT 0 (Bool):=lc (Ab [(0,vS a),(3,vI 0)] []) ((Ao (RZ) Aj (a,0)).bind (Sum.elim (fun _=>(iE).m) some))
def iu(a:ByteArray):PT 0 (Bool):=cl (ZOb a) fun b=>br (!b) (lr MN (fun _=>[]) false) (lc (Ab [(0,vS a)] []) ((gt a).m))
def bn(a:ByteArray):Option (Bool):=(iu a).m
theorem Zx5{C:Cx}(co:CO C 0):KL Tryz.prog (AE tl) 25 C (pa [0,0,1,0,1,1] (AB Tryz.f108)) [.tmp 2] 0 (m6) (yI) MN (fun _=>[]) (RZ):=fun(v2,v3) _ hm Q a c b=>AD co Aa Ad (eM v2 v3) (AO [0,3]) nl c hm b fun r g=>⟨fun d=>fun e=>⟨id,id⟩,id⟩
theorem Wt(b:ByteArray):KC Tryz.prog 108 [vS b] (bn b) MN:=Av Tryz.func108 Tryz.ntmps108 Aa [.tmp 2] fun C co y hm c a=>Al co Aa Ad 2 (iu b) (AO [0]) nl (fun _ h=>h) hm a fun r g=>fun d=>⟨id,fun _ hm a=>sq (Al co Aa Ad 1 (gt b) (AO [0,3]) nl (fun _ h=>h) hm a fun r g=>fun _ hm a=>bk 0 (lo (AK (Zx5 co) (fun _ h=>h) hm a (fun _ hm=>An co Aa Ad (iE) hm a fun r g=>id))))⟩
abbrev ui:Bool→AV:=fun y=>vB y
def iT(a:ByteArray):PT 0 (Bool):=cl (WF a) fun b=>clg b (pl a) fun c=>lr ui (fun _=>[]) (b&&(!c))
def ay(a:ByteArray):Option (Bool):=(iT a).m
theorem Tl(a:ByteArray):KC Tryz.prog 109 [vS a] (ay a) ui:=Av Tryz.func109 Tryz.ntmps109 Aa [.tmp 2] fun C co y hm b c=>An co Aa Ad (iT a) hm c fun r g=>fun d=>fun e=>id
abbrev Pv:Bool→AV:=fun y=>vB y
def nr(a:List Spn)(b:Int):Nat→St:=fun c=>Ab [(0,vL AR a),(1,vI b),(5,vN c)] []
def n2:Unit→Nat×St:=fun _=>(0,Ab [] [])
def gL(a:List Spn)(c:Int)(b:Nat):PT 0 (Lv (Nat) (Unit) (Bool)):=vz (Ah a)<|br (decide ((b:Int)<(a.length:Int))) (ix a b fun d=>A9 (decide (d.lo≤c)) a (b:Int) fun e=>br (decide (d.lo≤c)&&decide (c≤e.hi)) (Au Pv (fun _=>[]) true) (vs (wa b 1)<|ln (nr a c) (b+1))) (Ak (n2) ())
def Sq(a:List Spn)(b:Int):Nat→Option (Lv (Nat) (Unit) (Bool)):=fun c=>(gL a b c).m
def j8:PT 0 (Bool):=lr Pv (fun _=>[]) false
def j6(a:List Spn)(b:Int):PT 0 (Bool):=lc (Ab [(0,vL AR a),(1,vI b),(5,vI 0)] []) ((Ao (Sq a b) Aj 0).bind (Sum.elim (fun _=>(j8).m) some))
def gb(a:List Spn)(b:Int):PT 0 (Bool):=lc (Ab [(0,vL AR a),(1,vI b)] []) ((j6 a b).m)
def bb(a:List Spn)(b:Int):Option (Bool):=(gb a b).m
theorem Zwu{C:Cx}(co:CO C 0)(a:List Spn)(b:Int):KL Tryz.prog (AE tl) 28 C (pa [0,0,1,0,1] (AB Tryz.f110)) [.tmp 4] 0 (nr a b) (n2) Pv (fun _=>[]) (Sq a b):=fun f _ hm Q c e d=>AD co Aa Ad (gL a b f) (AO [0,1,5]) nl e hm d fun r g=>⟨fun h=>fun i=>⟨id,id⟩,id⟩
theorem p6(b:List Spn)(c:Int):KC Tryz.prog 110 [vL AR b,vI c] (bb b c) Pv:=Av Tryz.func110 Tryz.ntmps110 Aa [.tmp 4] fun C co y hm d a=>Al co Aa Ad 1 (gb b c) (AO [0,1]) nl (fun _ h=>h) hm a fun r g=>fun _ hm a=>sq (Al co Aa Ad 1 (j6 b c) (AO [0,1,5]) nl (fun _ h=>h) hm a fun r g=>fun _ hm a=>bk 0 (lo (AK (Zwu co b c) (fun _ h=>h) hm a (fun _ hm=>An co Aa Ad (j8) hm a fun r g=>id))))
end Go.Proofs.YtleccgigifnfgaaGreat
