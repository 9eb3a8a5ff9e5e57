import Derived.Test.YtchkcemlglpobaaGreatCf13
import Derived.Test.YtchkcemlglpobaaGreatCf14
import Derived.Test.YtchkcemlglpobaaGreatCf00
namespace Go.Proofs.YtchkcemlglpobaaGreat
set_option maxRecDepth 100000
set_option linter.all false
open Go Go.Eng
def Zln:Go.Shelf.Ren:=⟨fun|190=>146|125=>179|258=>178|128=>209|129=>210|302=>200|303=>201|304=>202|305=>203|306=>204|307=>205|308=>206|309=>207|310=>208|333=>220|329=>221|330=>222|334=>223|335=>224|336=>183|344=>233|n=>n,fun|31=>46|9=>9|3=>3|46=>220|0=>0|51=>241|53=>29|4=>4|183=>233|182=>232|131=>238|5=>5|218=>248|222=>252|228=>258|229=>259|n=>n,fun|n=>n⟩
theorem ZCy:Go.Proofs.Lays.n190 Tryz.prog Zln:={
 mixed:=by kernel_rfl,
 f125:=Tryz.func179.trans (congrArg some (by kernel_rfl)),
 f128:=Tryz.func209.trans (congrArg some (by kernel_rfl)),
 f129:=Tryz.func210.trans (congrArg some (by kernel_rfl)),
 f190:=Tryz.func146.trans (congrArg some (by kernel_rfl)),
 f258:=Tryz.func178.trans (congrArg some (by kernel_rfl)),
 f302:=Tryz.func200.trans (congrArg some (by kernel_rfl)),
 f303:=Tryz.func201.trans (congrArg some (by kernel_rfl)),
 f304:=Tryz.func202.trans (congrArg some (by kernel_rfl)),
 f305:=Tryz.func203.trans (congrArg some (by kernel_rfl)),
 f306:=Tryz.func204.trans (congrArg some (by kernel_rfl)),
 f307:=Tryz.func205.trans (congrArg some (by kernel_rfl)),
 f308:=Tryz.func206.trans (congrArg some (by kernel_rfl)),
 f309:=Tryz.func207.trans (congrArg some (by kernel_rfl)),
 f310:=Tryz.func208.trans (congrArg some (by kernel_rfl)),
 f329:=Tryz.func221.trans (congrArg some (by kernel_rfl)),
 f330:=Tryz.func222.trans (congrArg some (by kernel_rfl)),
 f333:=Tryz.func220.trans (congrArg some (by kernel_rfl)),
 f334:=Tryz.func223.trans (congrArg some (by kernel_rfl)),
 f335:=Tryz.func224.trans (congrArg some (by kernel_rfl)),
 f336:=Tryz.func183.trans (congrArg some (by kernel_rfl)),
 f344:=Tryz.func233.trans (congrArg some (by kernel_rfl)),
 t0:=Tryz.underlying0,
 a0:=Tryz.isAgg0,
 z0:=Tryz.sizeOf0,
 v0:=Tryz.zeroValue0,
 t3:=Tryz.underlying3,
 a3:=Tryz.isAgg3,
 z3:=Tryz.sizeOf3,
 v3:=Tryz.zeroValue3,
 t4:=Tryz.underlying4,
 a4:=Tryz.isAgg4,
 z4:=Tryz.sizeOf4,
 v4:=Tryz.zeroValue4,
 t5:=Tryz.underlying5,
 a5:=Tryz.isAgg5,
 z5:=Tryz.sizeOf5,
 v5:=Tryz.zeroValue5,
 t9:=Tryz.underlying9,
 a9:=Tryz.isAgg9,
 z9:=Tryz.sizeOf9,
 v9:=Tryz.zeroValue9,
 t31:=Tryz.underlying46,
 a31:=Tryz.isAgg46,
 z31:=Tryz.sizeOf46,
 v31:=Tryz.zeroValue46,
 t46:=Tryz.underlying220,
 a46:=Tryz.isAgg220,
 z46:=Tryz.sizeOf220,
 v46:=Tryz.zeroValue220,
 t51:=Tryz.underlying241,
 a51:=Tryz.isAgg241,
 z51:=Tryz.sizeOf241,
 v51:=Tryz.zeroValue241,
 t53:=Tryz.underlying29,
 a53:=Tryz.isAgg29,
 z53:=Tryz.sizeOf29,
 v53:=Tryz.zeroValue29,
 t131:=Tryz.underlying238,
 a131:=Tryz.isAgg238,
 z131:=Tryz.sizeOf238,
 v131:=Tryz.zeroValue238,
 t182:=Tryz.underlying232,
 a182:=Tryz.isAgg232,
 z182:=Tryz.sizeOf232,
 v182:=Tryz.zeroValue232,
 t183:=Tryz.underlying233,
 a183:=Tryz.isAgg233,
 z183:=Tryz.sizeOf233,
 v183:=Tryz.zeroValue233,
 t218:=Tryz.underlying248,
 a218:=Tryz.isAgg248,
 z218:=Tryz.sizeOf248,
 v218:=Tryz.zeroValue248,
 t222:=Tryz.underlying252,
 a222:=Tryz.isAgg252,
 z222:=Tryz.sizeOf252,
 v222:=Tryz.zeroValue252,
 t228:=Tryz.underlying258,
 a228:=Tryz.isAgg258,
 z228:=Tryz.sizeOf258,
 v228:=Tryz.zeroValue258,
 t229:=Tryz.underlying259,
 a229:=Tryz.isAgg259,
 z229:=Tryz.sizeOf259,
 v229:=Tryz.zeroValue259 }
abbrev ZSU:List ByteArray→AV:=fun y=>.tup []
@[reducible] def ZUw:List ByteArray→List Blk:=fun y=>[⟨0,true,9,1,Af AE y⟩]
def uB(a:List ByteArray):Option (List ByteArray):=if a.length<4611686018427387904 then some (Nj a)else none
theorem ZOg(b:List ByteArray):KO Tryz.prog 146 1 [.ref (0,0) 0 0 b.length] [⟨0,true,9,1,Af AE b⟩] (fun _ _ _ _=>True) (uB b) ZSU (ZUw):=⟨fun l H ks h θ c a f e _ y hy=>by
 obtain⟨d,hy⟩:=BC hy
 rw[Zwk]at hy
 cases hy
 match ks,c with
 |[g],_=>exact Zon ZCy ⟨_,AD Tryz.f146,Tryz.func146,by kernel_rfl,by kernel_rfl⟩ a.1 b ((e.1.2 rfl).trans (JK (AZ _ _))) d ⟨rfl,(congrArg (updH H g) (JK (AZ _ _))).symm⟩⟩
abbrev ND:Int→AV:=fun y=>vI y
def nU(a:List Nt)(b:Int):Nat→St:=fun c=>Ab [(0,vL AG a),(1,vI b),(5,vN c)] []
def og(a:List Nt):Unit→Nat×St:=fun _=>(0,Ab [(0,vL AG a)] [])
def WG(c:List Nt)(e:Int)(d:Nat):PT 0 (Lv (Nat) (Unit) (Int)):=vz (Ah c)<|br (decide ((d:Int)<(c.length:Int))&&decide ((d:Int)≤e)) (ix c d fun a=>vw .go<|ix c d fun b=>vz (A7 b.name.size)<|vw .go<|vy (!(decide ((300:Int)<(b.name.size:Int)))) (A7 a.val.text.size)<|vw .go<|vy (!(decide ((300:Int)<(b.name.size:Int))||decide ((300:Int)<(a.val.text.size:Int)))) (Ah a.val.list)<|vw .go<|vy (!(decide ((300:Int)<(b.name.size:Int))||decide ((300:Int)<(a.val.text.size:Int)))) (Ah a.val.pairs)<|vg (!(decide ((300:Int)<(b.name.size:Int))||decide ((300:Int)<(a.val.text.size:Int)))) (wa a.val.list.length a.val.pairs.length)<|vw .go<|vy (!(decide ((300:Int)<(b.name.size:Int))||decide ((300:Int)<(a.val.text.size:Int)))) (Ah a.val.slots)<|vg (!(decide ((300:Int)<(b.name.size:Int))||decide ((300:Int)<(a.val.text.size:Int)))) (wa (a.val.list.length+a.val.pairs.length) a.val.slots.length)<|vw .go<|vy (!(decide ((300:Int)<(b.name.size:Int))||decide ((300:Int)<(a.val.text.size:Int)))) (Ah a.val.raws)<|vg (!(decide ((300:Int)<(b.name.size:Int))||decide ((300:Int)<(a.val.text.size:Int)))) (wa ((a.val.list.length+a.val.pairs.length)+a.val.slots.length) a.val.raws.length)<|br ((decide ((300:Int)<(b.name.size:Int))||decide ((300:Int)<(a.val.text.size:Int)))||decide ((0:Int)<((((a.val.list.length+a.val.pairs.length)+a.val.slots.length)+a.val.raws.length:Nat):Int))) (vs (wi (e+10))<|AC ND (fun _=>[]) (e+10)) (vs (wa d 1)<|ln (nU c e) (d+1))) (Al (og c) ())
def SP(a:List Nt)(b:Int):Nat→Option (Lv (Nat) (Unit) (Int)):=fun c=>(WG a b c).m
def W5(a:List Nt):PT 0 (Int):=vz (Ah a)<|lr ND (fun _=>[]) (a.length:Int)
def Ux(a:List Nt)(b:Int):PT 0 (Int):=lc (Ab [(0,vL AG a),(1,vI b),(5,vI 0)] []) ((Am (SP a b) Aj 0).bind (Sum.elim (fun _=>(W5 a).m) some))
def Wq(a:List Nt)(b:Int):PT 0 (Int):=lc (Ab [(0,vL AG a),(1,vI b)] []) ((Ux a b).m)
def ZF(a:List Nt)(b:Int):Option (Int):=(Wq a b).m
theorem ZDQ{C:Cx}(co:CO C 0)(a:List Nt)(b:Int):KL Tryz.prog (AH tl) 58 C (pa [0,0,1,0,1] (AD Tryz.f49)) [.tmp 4] 0 (nU a b) (og a) ND (fun _=>[]) (SP a b):=fun f _ hm Q c e d=>AA co Aa Ac (WG a b f) (AQ [0,1,5]) (AQ [0]) e hm d fun r g=>⟨fun h=>fun i=>⟨id,id⟩,id⟩
theorem I3(b:List Nt)(c:Int):KC Tryz.prog 49 [vL AG b,vI c] (ZF b c) ND:=Au Tryz.func49 Tryz.ntmps49 Aa [.tmp 4] fun C co y hm d a=>Ak co Aa Ac 1 (Wq b c) (AQ [0,1]) nl (fun _ h=>h) hm a fun r g=>fun _ hm a=>sq (Ak co Aa Ac 1 (Ux b c) (AQ [0,1,5]) nl (fun _ h=>h) hm a fun r g=>fun _ hm a=>bk 0 (lo (AL (ZDQ co b c) (fun _ h=>h) hm a (fun _ hm=>Ao co Aa Ac (W5 b) hm a fun r g=>id))))
abbrev NE:Int→AV:=fun y=>vI y
def n1(a:List ByteArray)(b:Int):Nat→St:=fun c=>Ab [(0,vL AE a),(1,vI b),(5,vN c)] []
def pI(a:List ByteArray):Unit→Nat×St:=fun _=>(0,Ab [(0,vL AE a)] [])
def Vt(a:List ByteArray)(c:Int)(b:Nat):PT 0 (Lv (Nat) (Unit) (Int)):=vz (Ah a)<|br (decide ((b:Int)<(a.length:Int))&&decide ((b:Int)≤c)) (ix a b fun d=>vz (A7 d.size)<|br (decide ((300:Int)<(d.size:Int))) (vs (wi (c+10))<|AC NE (fun _=>[]) (c+10)) (vs (wa b 1)<|ln (n1 a c) (b+1))) (Al (pI a) ())
def Sv(a:List ByteArray)(b:Int):Nat→Option (Lv (Nat) (Unit) (Int)):=fun c=>(Vt a b c).m
def Xg(a:List ByteArray):PT 0 (Int):=vz (Ah a)<|lr NE (fun _=>[]) (a.length:Int)
def UO(a:List ByteArray)(b:Int):PT 0 (Int):=lc (Ab [(0,vL AE a),(1,vI b),(5,vI 0)] []) ((Am (Sv a b) Aj 0).bind (Sum.elim (fun _=>(Xg a).m) some))
def Uz(a:List ByteArray)(b:Int):PT 0 (Int):=lc (Ab [(0,vL AE a),(1,vI b)] []) ((UO a b).m)
def ZG(a:List ByteArray)(b:Int):Option (Int):=(Uz a b).m
theorem ZGk{C:Cx}(co:CO C 0)(a:List ByteArray)(b:Int):KL Tryz.prog (AH tl) 27 C (pa [0,0,1,0,1] (AD Tryz.f50)) [.tmp 4] 0 (n1 a b) (pI a) NE (fun _=>[]) (Sv a b):=fun f _ hm Q c e d=>AA co Aa Ac (Vt a b f) (AQ [0,1,5]) (AQ [0]) e hm d fun r g=>⟨fun h=>⟨id,id⟩,id⟩
theorem Ia(b:List ByteArray)(c:Int):KC Tryz.prog 50 [vL AE b,vI c] (ZG b c) NE:=Au Tryz.func50 Tryz.ntmps50 Aa [.tmp 4] fun C co y hm d a=>Ak co Aa Ac 1 (Uz b c) (AQ [0,1]) nl (fun _ h=>h) hm a fun r g=>fun _ hm a=>sq (Ak co Aa Ac 1 (UO b c) (AQ [0,1,5]) nl (fun _ h=>h) hm a fun r g=>fun _ hm a=>bk 0 (lo (AL (ZGk co b c) (fun _ h=>h) hm a (fun _ hm=>Ao co Aa Ac (Xg b) hm a fun r g=>id))))
abbrev BW:List (Ad×Bool):=[((1,1),false)]
abbrev BK(a:Scm):Ad×Blk:=((1,1),⟨0,true,26,3,[vL Aw a.messages,vL AO a.enums,vL AS a.services]⟩)
abbrev Av(a:Msg):Ad×Blk:=((1,5),⟨0,true,49,5,[vS a.name,vL Ap a.fields,vL AW a.reserved,vL AE a.gone,vL AG a.notes]⟩)
abbrev Tj(a:Enm):Ad×Blk:=((1,9),⟨0,true,97,5,[vS a.name,vB a.opn,vL EZ a.items,vL AW a.reserved,vL AG a.notes]⟩)
abbrev jc(a:Svc):Ad×Blk:=((1,12),⟨0,true,102,3,[vS a.name,vL FD a.methods,vL AG a.notes]⟩)
abbrev FS:Bool→AV:=fun y=>vB y
def oP(a:Scm):Int×Nat→St:=fun(b,v2)=>Ab [(1,.ptr (1,1) 0 0),(3,vI b),(4,vN v2)] [(BK a)]
def l8(b:Scm):Int→Nat×St:=fun a=>(0,Ab [(1,.ptr (1,1) 0 0),(3,vI a)] [(BK b)])
def Wj(b:Scm)(v2:Nat)(a:Msg):Int×Nat→St:=fun(c,d)=>Ab [(1,.ptr (1,1) 0 0),(3,vI c),(4,vN v2),(5,.ptr (1,5) 0 0),(6,vN d)] [(BK b),(Av a)]
def oU(b:Scm)(v2:Nat):Int→Nat×St:=fun a=>(2,Ab [(1,.ptr (1,1) 0 0),(3,vI a),(4,vN v2)] [(BK b)])
def UQ(g:Scm)(v2:Nat)(f:Msg)(a:Int)(e:Nat):PT 0 (Lv (Int×Nat) (Int) (Bool)):=vw .go<|vz (Ah f.fields)<|br (decide ((e:Int)<(f.fields.length:Int))&&decide ((0:Int)≤a)) (vw .go<|ix f.fields e fun d=>vw .go<|vs (wi (a-1))<|vw .go<|cl (I3 d.notes a) fun b=>vs (wi ((a-1)-b))<|vw .go<|vw .go<|vw .go<|cl (Ia ([d.name,d.type.name,d.union]:List ByteArray) a) fun c=>vs (wi (((a-1)-b)-c))<|vs (wi ((((a-1)-b)-c)+3))<|vw .go<|vz (A7 d.dflt.text.size)<|br (decide ((300:Int)<(d.dflt.text.size:Int))) (vs (wa e 1)<|ln (Wj g v2 f) ((-1),e+1)) (vs (wa e 1)<|ln (Wj g v2 f) (((((a-1)-b)-c)+3),e+1))) (Al (oU g v2) a)
def Sc(b:Scm)(v2:Nat)(a:Msg):Int×Nat→Option (Lv (Int×Nat) (Int) (Bool)):=fun(c,d)=>(UQ b v2 a c d).m
def UT(b:Scm)(v2:Nat)(a:Int):PT 0 (Lv (Int×Nat) (Int) (Bool)):=vs (wa v2 1)<|ln (oP b) (a,v2+1)
def VJ(d:Scm)(b:Int)(v2:Nat):PT 0 (Lv (Int×Nat) (Int) (Bool)):=vw .go<|ix d.messages v2 fun a=>vw .go<|vw .go<|cl (I3 a.notes b) fun c=>vs (wi (b-c))<|vw .go<|vz (Ah a.reserved)<|vs (wi ((b-c)-(a.reserved.length:Int)))<|vw .go<|cl (Ia a.gone b) fun e=>vs (wi (((b-c)-(a.reserved.length:Int))-e))<|vw .go<|cl (Ia ([a.name]:List ByteArray) b) fun g=>vs (wi ((((b-c)-(a.reserved.length:Int))-e)-g))<|lc (Ab [(1,.ptr (1,1) 0 0),(3,vI ((((b-c)-(a.reserved.length:Int))-e)-g)),(4,vN v2),(5,.ptr (1,5) 0 0),(6,vI 0)] [(BK d),(Av a)]) ((Am (Sc d v2 a) Aj (((((b-c)-(a.reserved.length:Int))-e)-g),0)).bind (Sum.elim (fun f=>(UT d v2 f).m) (fun z=>some (.rt z))))
def UW(a:Scm)(b:Int)(v2:Nat):PT 0 (Lv (Int×Nat) (Int) (Bool)):=vw .go<|vz (Ah a.messages)<|br (decide ((v2:Int)<(a.messages.length:Int))&&decide ((0:Int)≤b)) (lc (Ab [(1,.ptr (1,1) 0 0),(3,vI b),(4,vN v2)] [(BK a)]) ((VJ a b v2).m)) (Al (l8 a) b)
def SH(a:Scm):Int×Nat→Option (Lv (Int×Nat) (Int) (Bool)):=fun(b,v2)=>(UW a b v2).m
def oQ(c:Scm):Int×Nat→St:=fun(a,b)=>Ab [(1,.ptr (1,1) 0 0),(3,vI a),(8,vN b)] [(BK c)]
def pH(b:Scm):Int→Nat×St:=fun a=>(4,Ab [(1,.ptr (1,1) 0 0),(3,vI a)] [(BK b)])
def mD(e:Scm)(b:Nat)(a:Enm):Int×Nat→St:=fun(c,d)=>Ab [(1,.ptr (1,1) 0 0),(3,vI c),(8,vN b),(9,.ptr (1,9) 0 0),(10,vN d)] [(BK e),(Tj a)]
def nX(c:Scm)(a:Nat):Int→Nat×St:=fun b=>(6,Ab [(1,.ptr (1,1) 0 0),(3,vI b),(8,vN a)] [(BK c)])
def UV(i:Scm)(e:Nat)(b:Enm)(a:Int)(c:Nat):PT 0 (Lv (Int×Nat) (Int) (Bool)):=vw .go<|vz (Ah b.items)<|br (decide ((c:Int)<(b.items.length:Int))&&decide ((0:Int)≤a)) (vw .go<|ix b.items c fun g=>cl (I3 g.notes a) fun d=>vs (wi (a-d))<|vw .go<|ix b.items c fun h=>cl (Ia ([h.name]:List ByteArray) a) fun f=>vs (wi ((a-d)-f))<|vs (wa c 1)<|ln (mD i e b) (((a-d)-f),c+1)) (Al (nX i e) a)
def Ta(e:Scm)(b:Nat)(a:Enm):Int×Nat→Option (Lv (Int×Nat) (Int) (Bool)):=fun(c,d)=>(UV e b a c d).m
def WH(c:Scm)(a:Nat)(b:Int):PT 0 (Lv (Int×Nat) (Int) (Bool)):=vs (wa a 1)<|ln (oQ c) (b,a+1)
def V2(f:Scm)(b:Int)(d:Nat):PT 0 (Lv (Int×Nat) (Int) (Bool)):=vw .go<|ix f.enums d fun a=>vw .go<|vw .go<|cl (I3 a.notes b) fun c=>vs (wi (b-c))<|vw .go<|vz (Ah a.reserved)<|vs (wi ((b-c)-(a.reserved.length:Int)))<|vw .go<|cl (Ia ([a.name]:List ByteArray) b) fun e=>vs (wi (((b-c)-(a.reserved.length:Int))-e))<|lc (Ab [(1,.ptr (1,1) 0 0),(3,vI (((b-c)-(a.reserved.length:Int))-e)),(8,vN d),(9,.ptr (1,9) 0 0),(10,vI 0)] [(BK f),(Tj a)]) ((Am (Ta f d a) Aj ((((b-c)-(a.reserved.length:Int))-e),0)).bind (Sum.elim (fun g=>(WH f d g).m) (fun z=>some (.rt z))))
def UX(c:Scm)(a:Int)(b:Nat):PT 0 (Lv (Int×Nat) (Int) (Bool)):=vw .go<|vz (Ah c.enums)<|br (decide ((b:Int)<(c.enums.length:Int))&&decide ((0:Int)≤a)) (lc (Ab [(1,.ptr (1,1) 0 0),(3,vI a),(8,vN b)] [(BK c)]) ((V2 c a b).m)) (Al (pH c) a)
def Tc(c:Scm):Int×Nat→Option (Lv (Int×Nat) (Int) (Bool)):=fun(a,b)=>(UX c a b).m
def p9(c:Scm):Int×Nat→St:=fun(a,b)=>Ab [(1,.ptr (1,1) 0 0),(3,vI a),(11,vN b)] [(BK c)]
def nW:Int→Nat×St:=fun a=>(8,Ab [(3,vI a)] [])
def nC(e:Scm)(b:Nat)(a:Svc):Int×Nat→St:=fun(c,d)=>Ab [(1,.ptr (1,1) 0 0),(3,vI c),(11,vN b),(12,.ptr (1,12) 0 0),(13,vN d)] [(BK e),(jc a)]
def nT(c:Scm)(a:Nat):Int→Nat×St:=fun b=>(10,Ab [(1,.ptr (1,1) 0 0),(3,vI b),(11,vN a)] [(BK c)])
def V5(k:Scm)(f:Nat)(b:Svc)(a:Int)(c:Nat):PT 0 (Lv (Int×Nat) (Int) (Bool)):=vw .go<|vz (Ah b.methods)<|br (decide ((c:Int)<(b.methods.length:Int))&&decide ((0:Int)≤a)) (vw .go<|ix b.methods c fun g=>cl (I3 g.notes a) fun d=>vs (wi (a-d))<|vw .go<|ix b.methods c fun h=>vw .go<|ix b.methods c fun i=>vw .go<|ix b.methods c fun j=>cl (Ia ([h.name,i.inn,j.out]:List ByteArray) a) fun e=>vs (wi ((a-d)-e))<|vs (wi (((a-d)-e)+2))<|vs (wa c 1)<|ln (nC k f b) ((((a-d)-e)+2),c+1)) (Al (nT k f) a)
def Sg(e:Scm)(b:Nat)(a:Svc):Int×Nat→Option (Lv (Int×Nat) (Int) (Bool)):=fun(c,d)=>(V5 e b a c d).m
def eI(c:Scm)(a:Nat)(b:Int):PT 0 (Lv (Int×Nat) (Int) (Bool)):=vs (wa a 1)<|ln (p9 c) (b,a+1)
def fS(f:Scm)(a:Int)(c:Nat):PT 0 (Lv (Int×Nat) (Int) (Bool)):=vw .go<|ix f.services c fun b=>vw .go<|vw .go<|cl (I3 b.notes a) fun d=>vs (wi (a-d))<|vw .go<|cl (Ia ([b.name]:List ByteArray) a) fun e=>vs (wi ((a-d)-e))<|lc (Ab [(1,.ptr (1,1) 0 0),(3,vI ((a-d)-e)),(11,vN c),(12,.ptr (1,12) 0 0),(13,vI 0)] [(BK f),(jc b)]) ((Am (Sg f c b) Aj (((a-d)-e),0)).bind (Sum.elim (fun g=>(eI f c g).m) (fun z=>some (.rt z))))
def dx(c:Scm)(a:Int)(b:Nat):PT 0 (Lv (Int×Nat) (Int) (Bool)):=vw .go<|vz (Ah c.services)<|br (decide ((b:Int)<(c.services.length:Int))&&decide ((0:Int)≤a)) (lc (Ab [(1,.ptr (1,1) 0 0),(3,vI a),(11,vN b)] [(BK c)]) ((fS c a b).m)) (Al (nW) a)
def SU(c:Scm):Int×Nat→Option (Lv (Int×Nat) (Int) (Bool)):=fun(a,b)=>(dx c a b).m
def dt(a:Int):PT 0 (Bool):=lr FS (fun _=>[]) (decide ((0:Int)≤a))
def eH(c:Scm)(a:Int):PT 0 (Bool):=lc (Ab [(1,.ptr (1,1) 0 0),(3,vI a),(11,vI 0)] [(BK c)]) ((Am (SU c) Aj (a,0)).bind (Sum.elim (fun b=>(dt b).m) some))
def eE(b:Scm)(a:Int):PT 0 (Bool):=lc (Ab [(1,.ptr (1,1) 0 0),(3,vI a),(8,vI 0)] [(BK b)]) ((Am (Tc b) Aj (a,0)).bind (Sum.elim (fun c=>(eH b c).m) some))
def g6(a:Scm):PT 0 (Bool):=lc (Ab [(1,.ptr (1,1) 0 0),(3,vI 400),(4,vI 0)] [(BK a)]) ((Am (SH a) Aj (400,0)).bind (Sum.elim (fun b=>(eE a b).m) some))
def gy(a:Scm):PT 0 (Bool):=vw .go<|vz (Ah a.messages)<|vw .go<|vy (!(decide ((150:Int)<(a.messages.length:Int)))) (Ah a.enums)<|vw .go<|vy (!(decide ((150:Int)<(a.messages.length:Int))||decide ((150:Int)<(a.enums.length:Int)))) (Ah a.services)<|vw .go<|vy (!((decide ((150:Int)<(a.messages.length:Int))||decide ((150:Int)<(a.enums.length:Int)))||decide ((150:Int)<(a.services.length:Int)))) (Ah a.messages)<|vw .go<|vy (!((decide ((150:Int)<(a.messages.length:Int))||decide ((150:Int)<(a.enums.length:Int)))||decide ((150:Int)<(a.services.length:Int)))) (Ah a.enums)<|vg (!((decide ((150:Int)<(a.messages.length:Int))||decide ((150:Int)<(a.enums.length:Int)))||decide ((150:Int)<(a.services.length:Int)))) (wa a.messages.length a.enums.length)<|vw .go<|vy (!((decide ((150:Int)<(a.messages.length:Int))||decide ((150:Int)<(a.enums.length:Int)))||decide ((150:Int)<(a.services.length:Int)))) (Ah a.services)<|vg (!((decide ((150:Int)<(a.messages.length:Int))||decide ((150:Int)<(a.enums.length:Int)))||decide ((150:Int)<(a.services.length:Int)))) (wa (a.messages.length+a.enums.length) a.services.length)<|br (((decide ((150:Int)<(a.messages.length:Int))||decide ((150:Int)<(a.enums.length:Int)))||decide ((150:Int)<(a.services.length:Int)))||decide ((150:Int)<(((a.messages.length+a.enums.length)+a.services.length:Nat):Int))) (lr FS (fun _=>[]) false) (lc (Ab [(1,.ptr (1,1) 0 0),(3,vI 400)] [(BK a)]) ((g6 a).m))
def Zy(a:Scm):Option (Bool):=(gy a).m
theorem ZFW{C:Cx}(co:CO C 0)(a:Scm)(v2:Nat)(b:Msg):KL Tryz.prog (AH tl) 258 C (pa [0,0,1,1,1,0,0,1,0,0,1,0,1,1,1] (AD Tryz.f20)) [.tmp 2] 0 (Wj a v2 b) (oU a v2) FS (fun _=>[]) (Sc a v2 b):=fun(f,h) _ hm Q c e d=>AA co Aa Ac (UQ a v2 b f h) (Ae [1,3,4,5,6] [((1,1),false),((1,5),false)]) (Ae [1,3,4] BW) e hm d fun r g=>⟨fun k=>fun i=>fun j=>⟨id,id⟩,id⟩
theorem ZFw{C:Cx}(co:CO C 0)(a:Scm):KL Tryz.prog (AH tl) 258 C (pa [0,0,1,0,1,1,1] (AD Tryz.f20)) [.tmp 2] 0 (oP a) (l8 a) FS (fun _=>[]) (SH a):=fun(f,v2) _ hm Q e c b=>Ak co Aa Ac 1 (UW a f v2) (Ae [1,3,4] BW) (Ae [1,3] BW) c hm b fun r g=>⟨fun _ hm b=>sq (bk 1 (Ak co Aa Ac 3 (VJ a f v2) (Ae [1,3,4,5,6] [((1,1),false),((1,5),false)]) nl c hm b fun r g=>fun h=>fun i=>fun j=>fun k=>fun _ hm b=>bk 2 (lo (HE (ZFW co a v2 h) c hm b (fun d hm=>AA co Aa Ac (UT a v2 d) (Ae [1,3,4] BW) nl c hm b fun r g=>id))))),id⟩
theorem ZEW{C:Cx}(co:CO C 0)(c:Scm)(a:Nat)(b:Enm):KL Tryz.prog (AH tl) 258 C (pa [0,0,1,1,1,0,0,1,0,0,1,0,1,1,1,1] (AD Tryz.f20)) [.tmp 2] 0 (mD c a b) (nX c a) FS (fun _=>[]) (Ta c a b):=fun(d,e) _ hm Q f k j=>AA co Aa Ac (UV c a b d e) (Ae [1,3,8,9,10] [((1,1),false),((1,9),false)]) (Ae [1,3,8] BW) k hm j fun r g=>⟨fun h=>fun l=>fun i=>fun m=>id,id⟩
theorem ZBH{C:Cx}(co:CO C 0)(b:Scm):KL Tryz.prog (AH tl) 258 C (pa [0,0,1,0,1,1,1,1] (AD Tryz.f20)) [.tmp 2] 0 (oQ b) (pH b) FS (fun _=>[]) (Tc b):=fun(d,a) _ hm Q i e c=>Ak co Aa Ac 1 (UX b d a) (Ae [1,3,8] BW) (Ae [1,3] BW) e hm c fun r g=>⟨fun _ hm c=>sq (bk 5 (Ak co Aa Ac 3 (V2 b d a) (Ae [1,3,8,9,10] [((1,1),false),((1,9),false)]) nl e hm c fun r g=>fun f=>fun j=>fun k=>fun _ hm c=>bk 6 (lo (HE (ZEW co b a f) e hm c (fun h hm=>AA co Aa Ac (WH b a h) (Ae [1,3,8] BW) nl e hm c fun r g=>id))))),id⟩
theorem ZFh{C:Cx}(co:CO C 0)(c:Scm)(a:Nat)(b:Svc):KL Tryz.prog (AH tl) 258 C (pa [0,0,1,1,1,0,0,1,0,0,1,0,1,1,1,1,1] (AD Tryz.f20)) [.tmp 2] 0 (nC c a b) (nT c a) FS (fun _=>[]) (Sg c a b):=fun(d,e) _ hm Q f m l=>AA co Aa Ac (V5 c a b d e) (Ae [1,3,11,12,13] [((1,1),false),((1,12),false)]) (Ae [1,3,11] BW) m hm l fun r g=>⟨fun h=>fun n=>fun i=>fun j=>fun k=>fun o=>id,id⟩
theorem ZD1{C:Cx}(co:CO C 0)(c:Scm):KL Tryz.prog (AH tl) 258 C (pa [0,0,1,0,1,1,1,1,1] (AD Tryz.f20)) [.tmp 2] 0 (p9 c) (nW) FS (fun _=>[]) (SU c):=fun(d,a) _ hm Q i e b=>Ak co Aa Ac 1 (dx c d a) (Ae [1,3,11] BW) (AQ [3]) e hm b fun r g=>⟨fun _ hm b=>sq (bk 9 (Ak co Aa Ac 3 (fS c d a) (Ae [1,3,11,12,13] [((1,1),false),((1,12),false)]) nl e hm b fun r g=>fun f=>fun j=>fun k=>fun _ hm b=>bk 10 (lo (HE (ZFh co c a f) e hm b (fun h hm=>AA co Aa Ac (eI c a h) (Ae [1,3,11] BW) nl e hm b fun r g=>id))))),id⟩
theorem ZTh(b:Scm):KC Tryz.prog 20 [.agg ((As b).map .d)] (Zy b) FS:=Au Tryz.func20 Tryz.ntmps20 Aa [.tmp 2] fun C co y hm f a=>Ak co Aa Ac 3 (gy b) (Ae [1,3] BW) nl (fun _ h=>h) hm a fun r g=>⟨id,fun _ hm a=>sq (Ak co Aa Ac 1 (g6 b) (Ae [1,3,4] BW) nl (fun _ h=>h) hm a fun r g=>fun _ hm a=>bk 0 (lo (AL (ZFw co b) (fun _ h=>h) hm a (fun c hm=>sq (Ak co Aa Ac 1 (eE b c) (Ae [1,3,8] BW) nl (fun _ h=>h) hm a fun r g=>fun _ hm a=>bk 4 (lo (AL (ZBH co b) (fun _ h=>h) hm a (fun d hm=>sq (Ak co Aa Ac 1 (eH b d) (Ae [1,3,11] BW) nl (fun _ h=>h) hm a fun r g=>fun _ hm a=>bk 8 (lo (AL (ZD1 co b) (fun _ h=>h) hm a (fun e hm=>Ao co Aa Ac (dt e) hm a fun r g=>id))))))))))))⟩
abbrev HC:List (Ad×Bool):=[((1,2),false),((1,5),true)]
abbrev CY:List (Ad×Bool):=[((1,2),false)]
abbrev FM(a:Scm):Ad×Blk:=((1,2),⟨0,true,26,3,[vL Aw a.messages,vL AO a.enums,vL AS a.services]⟩)
abbrev KV:List ByteArray→AV:=fun y=>vL AE y
def mC(b:Scm)(c:Int):List ByteArray×Nat→St:=fun(a,v2)=>Ab [(1,vI c),(2,.ptr (1,2) 0 0),(5,.ref (1,5) 0 0 a.length),(6,vN v2)] [(FM b),((1,5),⟨0,true,9,1,Af AE a⟩)]
def oD(b:Scm)(c:Int):List ByteArray→Nat×St:=fun a=>(0,Ab [(1,vI c),(2,.ptr (1,2) 0 0),(5,.ref (1,5) 0 0 a.length)] [(FM b),((1,5),⟨0,true,9,1,Af AE a⟩)])
def Uj(a:Scm)(c:Int)(b:List ByteArray)(v2:Nat):PT 0 (Lv (List ByteArray×Nat) (List ByteArray) (List ByteArray)):=vw .go<|vy (decide (c=(1:Int))) (Ah a.messages)<|br (decide (c=(1:Int))&&decide ((v2:Int)<(a.messages.length:Int))) (vw .go<|ix a.messages v2 fun d=>vw .sep<|ap b (d.name:ByteArray)<|vs (wa v2 1)<|vz (fl (b++[d.name]))<|ln (mC a c) (b++[d.name],v2+1)) (vz (fl b)<|Al (oD a c) b)
def RH(a:Scm)(b:Int):List ByteArray×Nat→Option (Lv (List ByteArray×Nat) (List ByteArray) (List ByteArray)):=fun(c,v2)=>(Uj a b c v2).m
def qO(b:Scm)(c:Int):List ByteArray×Nat→St:=fun(a,d)=>Ab [(1,vI c),(2,.ptr (1,2) 0 0),(5,.ref (1,5) 0 0 a.length),(7,vN d)] [(FM b),((1,5),⟨0,true,9,1,Af AE a⟩)]
def mR(b:Scm)(c:Int):List ByteArray→Nat×St:=fun a=>(2,Ab [(1,vI c),(2,.ptr (1,2) 0 0),(5,.ref (1,5) 0 0 a.length)] [(FM b),((1,5),⟨0,true,9,1,Af AE a⟩)])
def Vh(a:Scm)(c:Int)(b:List ByteArray)(d:Nat):PT 0 (Lv (List ByteArray×Nat) (List ByteArray) (List ByteArray)):=vw .go<|vy (decide (c=(2:Int))) (Ah a.enums)<|br (decide (c=(2:Int))&&decide ((d:Int)<(a.enums.length:Int))) (vw .go<|ix a.enums d fun e=>vw .sep<|ap b (e.name:ByteArray)<|vs (wa d 1)<|vz (fl (b++[e.name]))<|ln (qO a c) (b++[e.name],d+1)) (vz (fl b)<|Al (mR a c) b)
def S7(a:Scm)(b:Int):List ByteArray×Nat→Option (Lv (List ByteArray×Nat) (List ByteArray) (List ByteArray)):=fun(c,d)=>(Vh a b c d).m
def pT(c:Scm)(d:Int):List ByteArray×Nat→St:=fun(b,a)=>Ab [(1,vI d),(2,.ptr (1,2) 0 0),(5,.ref (1,5) 0 0 b.length),(8,vN a)] [(FM c),((1,5),⟨0,true,9,1,Af AE b⟩)]
def oe:List ByteArray→Nat×St:=fun a=>(4,Ab [(5,.ref (1,5) 0 0 a.length)] [((1,5),⟨0,true,9,1,Af AE a⟩)])
def Us(d:Scm)(e:Int)(c:List ByteArray)(a:Nat):PT 0 (Lv (List ByteArray×Nat) (List ByteArray) (List ByteArray)):=vw .go<|vy (decide (e=(3:Int))) (Ah d.services)<|br (decide (e=(3:Int))&&decide ((a:Int)<(d.services.length:Int))) (vw .go<|ix d.services a fun b=>vw .sep<|ap c (b.name:ByteArray)<|vs (wa a 1)<|vz (fl (c++[b.name]))<|ln (pT d e) (c++[b.name],a+1)) (vz (fl c)<|Al (oe) c)
def Sb(b:Scm)(c:Int):List ByteArray×Nat→Option (Lv (List ByteArray×Nat) (List ByteArray) (List ByteArray)):=fun(d,a)=>(Us b c d a).m
def Vn(a:List ByteArray):PT 0 (List ByteArray):=vz (fr a)<|lr KV (fun _=>[]) a
def UE(c:Scm)(d:Int)(a:List ByteArray):PT 0 (List ByteArray):=vz (fl a)<|lc (Ab [(1,vI d),(2,.ptr (1,2) 0 0),(5,.ref (1,5) 0 0 a.length),(8,vI 0)] [(FM c),((1,5),⟨0,true,9,1,Af AE a⟩)]) ((Am (Sb c d) Aj (a,0)).bind (Sum.elim (fun b=>(Vn b).m) some))
def Wv(b:Scm)(c:Int)(a:List ByteArray):PT 0 (List ByteArray):=vz (fl a)<|lc (Ab [(1,vI c),(2,.ptr (1,2) 0 0),(5,.ref (1,5) 0 0 a.length),(7,vI 0)] [(FM b),((1,5),⟨0,true,9,1,Af AE a⟩)]) ((Am (S7 b c) Aj (a,0)).bind (Sum.elim (fun d=>(UE b c d).m) some))
def Ut(a:Scm)(b:Int):PT 0 (List ByteArray):=vw (.ads 5 5 9 1)<|vz (fl ([]:List ByteArray))<|lc (Ab [(1,vI b),(2,.ptr (1,2) 0 0),(5,.ref (1,5) 0 0 ([]:List ByteArray).length),(6,vI 0)] [(FM a),((1,5),⟨0,true,9,1,Af AE ([]:List ByteArray)⟩)]) ((Am (RH a b) Aj (([]:List ByteArray),0)).bind (Sum.elim (fun c=>(Wv a b c).m) some))
def U5(a:Scm)(b:Int):PT 0 (List ByteArray):=lc (Ab [(1,vI b),(2,.ptr (1,2) 0 0),(5,.e0),(6,vI 0)] [(FM a)]) ((Ut a b).m)
def UI(a:Scm)(b:Int):PT 0 (List ByteArray):=lc (Ab [(1,vI b),(2,.ptr (1,2) 0 0),(5,.e0)] [(FM a)]) ((U5 a b).m)
def Zq(a:Scm)(b:Int):Option (List ByteArray):=(UI a b).m
theorem ZDo{C:Cx}(co:CO C 0)(a:Scm)(b:Int):KL Tryz.prog (AH tl) 70 C (pa [0,0,1,0,1,1] (AD Tryz.f79)) [.tmp 4] 0 (mC a b) (oD a b) KV (fun _=>[]) (RH a b):=fun(f,v2) _ hm Q c e d=>AA co Aa Ac (Uj a b f v2) (Ae [1,2,5,6] HC) (Ae [1,2,5] HC) e hm d fun r g=>⟨fun h=>id,id⟩
theorem ZEr{C:Cx}(co:CO C 0)(a:Scm)(b:Int):KL Tryz.prog (AH tl) 70 C (pa [0,0,1,0,1,1,1] (AD Tryz.f79)) [.tmp 4] 0 (qO a b) (mR a b) KV (fun _=>[]) (S7 a b):=fun(f,h) _ hm Q c e d=>AA co Aa Ac (Vh a b f h) (Ae [1,2,5,7] HC) (Ae [1,2,5] HC) e hm d fun r g=>⟨fun i=>id,id⟩
theorem ZCQ{C:Cx}(co:CO C 0)(a:Scm)(b:Int):KL Tryz.prog (AH tl) 70 C (pa [0,0,1,0,1,1,1,1] (AD Tryz.f79)) [.tmp 4] 0 (pT a b) (oe) KV (fun _=>[]) (Sb a b):=fun(i,c) _ hm Q d h f=>AA co Aa Ac (Us a b i c) (Ae [1,2,5,8] HC) (Ae [5] [((1,5),true)]) h hm f fun r g=>⟨fun e=>id,id⟩
theorem OC(b:Scm)(c:Int):KC Tryz.prog 79 [.agg ((As b).map .d),vI c] (Zq b c) KV:=Au Tryz.func79 Tryz.ntmps79 Aa [.tmp 4] fun C co y hm e a=>Ak co Aa Ac 2 (UI b c) (Ae [1,2,5] CY) nl (fun _ h=>h) hm a fun r g=>fun _ hm a=>sq (Ak co Aa Ac 1 (U5 b c) (Ae [1,2,5,6] CY) nl (fun _ h=>h) hm a fun r g=>fun _ hm a=>bk 0 (DR co (Ut b c) (Ae [1,2,5,6] HC) hm a fun r g=>fun _ hm a=>lo (AL (ZDo co b c) (fun _ h=>h) hm a (fun f hm=>sq (Ak co Aa Ac 1 (Wv b c f) (Ae [1,2,5,7] HC) nl (fun _ h=>h) hm a fun r g=>fun _ hm a=>bk 2 (lo (AL (ZEr co b c) (fun _ h=>h) hm a (fun i hm=>sq (Ak co Aa Ac 1 (UE b c i) (Ae [1,2,5,8] HC) nl (fun _ h=>h) hm a fun r g=>fun _ hm a=>bk 4 (lo (AL (ZCQ co b c) (fun _ h=>h) hm a (fun d hm=>Ao co Aa Ac (Vn d) hm a fun r g=>id))))))))))))
abbrev Ea:List (Ad×Bool):=[((0,0),false),((0,1),true)]
abbrev CC(e:ByteArray)(z:List Prb):List (Ad×Blk):=[((0,0),⟨0,true,137,2,[vS e,.ref (0,1) 0 0 z.length]⟩),((0,1),⟨0,true,182,3,Af AB z⟩)]
abbrev TA:List Prb→AV:=fun y=>.tup []
@[reducible] def TG(a:ByteArray):List Prb→List Blk:=fun y=>[⟨0,true,137,2,[vS a,.ref (0,1) 0 0 y.length]⟩,⟨0,true,182,3,Af AB y⟩]
def Up(a:ByteArray)(b:List Prb)(c:Int)(d:Int):PT 2 (List Prb):=lr TA (TG a) (b++([(.mk a c d:Prb)]))
def Uf(a:ByteArray)(b:List Prb)(c:Int)(d:Int):PT 2 (List Prb):=vw .go<|vw .go<|vw .sep<|ap b ((.mk a c d:Prb):Prb)<|GE 1 (Af AB [(.mk a c d:Prb)]) (fun _=>we _)<|vw .go<|vwl 0 [.ref (0,1) 1 0 (b++([(.mk a c d:Prb)])).length]<|vz (fl (b++([(.mk a c d:Prb)])))<|lc (Ab [] (CC a (b++([(.mk a c d:Prb)])))) ((Up a b c d).m)
def WX(a:ByteArray)(b:List Prb):PT 2 (List Prb):=lr TA (TG a) b
def VD(a:ByteArray)(b:List Prb)(c:Bool)(d:Int)(e:Int):PT 2 (List Prb):=vz (fl b)<|lc (Ab [(0,.ptr (0,0) 0 0),(2,vI d),(3,vI e),(8,vB c)] (CC a b)) (if c=true then(Uf a b d e).m else(WX a b).m)
def Bn(a:ByteArray)(b:List Prb)(c:Bool)(d:Int)(e:Int):Option (List Prb):=(VD a b c d e).m
theorem Bx(a:ByteArray)(b:List Prb)(f:Bool)(d:Int)(e:Int):KG Tryz.prog 80 2 [1] [(1,0)] [.ptr (0,0) 0 0,vB f,vI d,vI e] [⟨0,true,137,2,[vS a,.ref (0,1) 0 0 b.length]⟩,⟨0,true,182,3,Af AB b⟩] (Bn a b f d e) TA (TG a):=ji Tryz.func80 Tryz.ntmps80 Aa [] 2 [1] [0] [(1,0)] (fun C co i y hm j c=>Ak co Aa Ac 1 (VD a b f d e) (Ae [0,2,3,8] Ea) nl (fun _ h=>h) hm c fun r g=>fun _ hm c=>cd f hm (fun hm=>C7 co Aa Ac (.fst 0 (.fst 1 (.fst 2 (.fst 3 (.fst 5 (.fst 6 (.fst 7 (.fst 9 (.fst 10 (.fst 4 (.fst 8 (.fst 11 (.fst 12 (.fst 13 (.fst 14 (.fst 15 (.fst 16 .nil))))))))))))))))) [] (Uf a b d e) (Ae [] Ea) hm c fun r g=>⟨ZHX g i,fun _ hm c=>XU (Up a b d e) co hm c (fun r g=>id) r g⟩) (fun hm=>Ao co Aa Ac (WX a b) hm c fun r g=>id))
abbrev NJ:Bool→AV:=fun y=>vB y
def oK(a:List ByteArray):Nat→St:=fun b=>Ab [(0,vL AE a),(3,vN b)] []
def pX:Unit→Nat×St:=fun _=>(0,Ab [] [])
def U9(b:List ByteArray)(a:Nat):PT 0 (Lv (Nat) (Unit) (Bool)):=vz (Ah b)<|br (decide ((a:Int)<(b.length:Int))) (ix b a fun c=>vs (wi ((a:Int)-1))<|Dj b ((a:Int)-1) fun d=>br (Bk c d||decide (c=d)) (AC NJ (fun _=>[]) false) (vs (wa a 1)<|ln (oK b) (a+1))) (Al (pX) ())
def S6(a:List ByteArray):Nat→Option (Lv (Nat) (Unit) (Bool)):=fun b=>(U9 a b).m
def VX:PT 0 (Bool):=lr NJ (fun _=>[]) true
def Vc(a:List ByteArray):PT 0 (Bool):=lc (Ab [(0,vL AE a),(3,vI 1)] []) ((Am (S6 a) Aj 1).bind (Sum.elim (fun _=>(VX).m) some))
def V7(a:List ByteArray):PT 0 (Bool):=lc (Ab [(0,vL AE a)] []) ((Vc a).m)
def ZD(a:List ByteArray):Option (Bool):=(V7 a).m
theorem ZEk{C:Cx}(co:CO C 0)(a:List ByteArray):KL Tryz.prog (AH tl) 20 C (pa [0,0,1,0,1] (AD Tryz.f81)) [.tmp 2] 0 (oK a) (pX) NJ (fun _=>[]) (S6 a):=fun e _ hm Q b d c=>AA co Aa Ac (U9 a e) (AQ [0,3]) nl d hm c fun r g=>⟨fun f=>fun h=>⟨id,id⟩,id⟩
theorem ZUi(b:List ByteArray):KC Tryz.prog 81 [vL AE b] (ZD b) NJ:=Au Tryz.func81 Tryz.ntmps81 Aa [.tmp 2] fun C co y hm c a=>Ak co Aa Ac 1 (V7 b) (AQ [0]) nl (fun _ h=>h) hm a fun r g=>fun _ hm a=>sq (Ak co Aa Ac 1 (Vc b) (AQ [0,3]) nl (fun _ h=>h) hm a fun r g=>fun _ hm a=>bk 0 (lo (AL (ZEk co b) (fun _ h=>h) hm a (fun _ hm=>Ao co Aa Ac (VX) hm a fun r g=>id))))
abbrev Ov:Bool→AV:=fun y=>vB y
def lQ(a:List ByteArray)(b:ByteArray):Nat→St:=fun c=>Ab [(0,vL AE a),(1,vS b),(5,vN c)] []
def yD:Unit→Nat×St:=fun _=>(0,Ab [] [])
def QM(a:List ByteArray)(c:ByteArray)(b:Nat):PT 0 (Lv (Nat) (Unit) (Bool)):=vz (Ah a)<|br (decide ((b:Int)<(a.length:Int))) (ix a b fun d=>br (decide (d=c)) (AC Ov (fun _=>[]) true) (vs (wa b 1)<|ln (lQ a c) (b+1))) (Al (yD) ())
def JY(a:List ByteArray)(b:ByteArray):Nat→Option (Lv (Nat) (Unit) (Bool)):=fun c=>(QM a b c).m
def QW:PT 0 (Bool):=lr Ov (fun _=>[]) false
def Rc(a:List ByteArray)(b:ByteArray):PT 0 (Bool):=lc (Ab [(0,vL AE a),(1,vS b),(5,vI 0)] []) ((Am (JY a b) Aj 0).bind (Sum.elim (fun _=>(QW).m) some))
def Q9(a:List ByteArray)(b:ByteArray):PT 0 (Bool):=lc (Ab [(0,vL AE a),(1,vS b)] []) ((Rc a b).m)
def LV(a:List ByteArray)(b:ByteArray):Option (Bool):=(Q9 a b).m
theorem Zve{C:Cx}(co:CO C 0)(a:List ByteArray)(b:ByteArray):KL Tryz.prog (AH tl) 18 C (pa [0,0,1,0,1] (AD Tryz.f124)) [.tmp 4] 0 (lQ a b) (yD) Ov (fun _=>[]) (JY a b):=fun f _ hm Q c e d=>AA co Aa Ac (QM a b f) (AQ [0,1,5]) nl e hm d fun r g=>⟨fun h=>⟨id,id⟩,id⟩
theorem n5(b:List ByteArray)(c:ByteArray):KC Tryz.prog 124 [vL AE b,vS c] (LV b c) Ov:=Au Tryz.func124 Tryz.ntmps124 Aa [.tmp 4] fun C co y hm d a=>Ak co Aa Ac 1 (Q9 b c) (AQ [0,1]) nl (fun _ h=>h) hm a fun r g=>fun _ hm a=>sq (Ak co Aa Ac 1 (Rc b c) (AQ [0,1,5]) nl (fun _ h=>h) hm a fun r g=>fun _ hm a=>bk 0 (lo (AL (Zve co b c) (fun _ h=>h) hm a (fun _ hm=>Ao co Aa Ac (QW) hm a fun r g=>id))))
abbrev NK:Bool→AV:=fun y=>vB y
def nd(a:List ByteArray)(b:List ByteArray):Nat→St:=fun c=>Ab [(0,vL AE a),(1,vL AE b),(5,vN c)] []
def mu:Unit→Nat×St:=fun _=>(0,Ab [] [])
def UC(a:List ByteArray)(c:List ByteArray)(b:Nat):PT 0 (Lv (Nat) (Unit) (Bool)):=vz (Ah a)<|br (decide ((b:Int)<(a.length:Int))) (ix a b fun d=>cl (n5 c d) fun e=>br e (AC NK (fun _=>[]) true) (vs (wa b 1)<|ln (nd a c) (b+1))) (Al (mu) ())
def Rq(a:List ByteArray)(b:List ByteArray):Nat→Option (Lv (Nat) (Unit) (Bool)):=fun c=>(UC a b c).m
def Xa:PT 0 (Bool):=lr NK (fun _=>[]) false
def WC(a:List ByteArray)(b:List ByteArray):PT 0 (Bool):=lc (Ab [(0,vL AE a),(1,vL AE b),(5,vI 0)] []) ((Am (Rq a b) Aj 0).bind (Sum.elim (fun _=>(Xa).m) some))
def UD(a:List ByteArray)(b:List ByteArray):PT 0 (Bool):=lc (Ab [(0,vL AE a),(1,vL AE b)] []) ((WC a b).m)
def Z1(a:List ByteArray)(b:List ByteArray):Option (Bool):=(UD a b).m
theorem ZEy{C:Cx}(co:CO C 0)(a:List ByteArray)(b:List ByteArray):KL Tryz.prog (AH tl) 18 C (pa [0,0,1,0,1] (AD Tryz.f82)) [.tmp 4] 0 (nd a b) (mu) NK (fun _=>[]) (Rq a b):=fun f _ hm Q c e d=>AA co Aa Ac (UC a b f) (AQ [0,1,5]) nl e hm d fun r g=>⟨fun h=>fun i=>⟨id,id⟩,id⟩
theorem Xq(b:List ByteArray)(c:List ByteArray):KC Tryz.prog 82 [vL AE b,vL AE c] (Z1 b c) NK:=Au Tryz.func82 Tryz.ntmps82 Aa [.tmp 4] fun C co y hm d a=>Ak co Aa Ac 1 (UD b c) (AQ [0,1]) nl (fun _ h=>h) hm a fun r g=>fun _ hm a=>sq (Ak co Aa Ac 1 (WC b c) (AQ [0,1,5]) nl (fun _ h=>h) hm a fun r g=>fun _ hm a=>bk 0 (lo (AL (ZEy co b c) (fun _ h=>h) hm a (fun _ hm=>Ao co Aa Ac (Xa) hm a fun r g=>id))))
abbrev jd(a:Scm):Ad×Blk:=((1,2),⟨0,true,26,3,[vL Aw a.messages,vL AO a.enums,vL AS a.services]⟩)
abbrev Pp:Int→AV:=fun y=>vI y
def yR(a:Scm)(b:ByteArray):Nat→St:=fun c=>Ab [(1,vS b),(2,.ptr (1,2) 0 0),(5,vN c)] [(jd a)]
def xV:Unit→Nat×St:=fun _=>(0,Ab [] [])
def dA(b:Scm)(c:ByteArray)(a:Nat):PT 0 (Lv (Nat) (Unit) (Int)):=vw .go<|vz (Ah b.messages)<|br (decide ((a:Int)<(b.messages.length:Int))) (vw .go<|ix b.messages a fun d=>br (decide (d.name=c)) (AC Pp (fun _=>[]) (a:Int)) (vs (wa a 1)<|ln (yR b c) (a+1))) (Al (xV) ())
def QX(a:Scm)(b:ByteArray):Nat→Option (Lv (Nat) (Unit) (Int)):=fun c=>(dA a b c).m
def iV:PT 0 (Int):=lr Pp (fun _=>[]) (-1)
def dw(a:Scm)(b:ByteArray):PT 0 (Int):=lc (Ab [(1,vS b),(2,.ptr (1,2) 0 0),(5,vI 0)] [(jd a)]) ((Am (QX a b) Aj 0).bind (Sum.elim (fun _=>(iV).m) some))
def eW(a:Scm)(b:ByteArray):PT 0 (Int):=lc (Ab [(1,vS b),(2,.ptr (1,2) 0 0)] [(jd a)]) ((dw a b).m)
def ZC(a:Scm)(b:ByteArray):Option (Int):=(eW a b).m
theorem Zxh{C:Cx}(co:CO C 0)(a:Scm)(b:ByteArray):KL Tryz.prog (AH tl) 22 C (pa [0,0,1,0,1] (AD Tryz.f136)) [.tmp 4] 0 (yR a b) (xV) Pp (fun _=>[]) (QX a b):=fun f _ hm Q c e d=>AA co Aa Ac (dA a b f) (Ae [1,2,5] CY) nl e hm d fun r g=>⟨fun h=>⟨id,id⟩,id⟩
theorem MZ(b:Scm)(c:ByteArray):KC Tryz.prog 136 [.agg ((As b).map .d),vS c] (ZC b c) Pp:=Au Tryz.func136 Tryz.ntmps136 Aa [.tmp 4] fun C co y hm d a=>Ak co Aa Ac 1 (eW b c) (Ae [1,2] CY) nl (fun _ h=>h) hm a fun r g=>fun _ hm a=>sq (Ak co Aa Ac 1 (dw b c) (Ae [1,2,5] CY) nl (fun _ h=>h) hm a fun r g=>fun _ hm a=>bk 0 (lo (AL (Zxh co b c) (fun _ h=>h) hm a (fun _ hm=>Ao co Aa Ac (iV) hm a fun r g=>id))))
abbrev je(a:Scm):Ad×Blk:=((1,3),⟨0,true,26,3,[vL Aw a.messages,vL AO a.enums,vL AS a.services]⟩)
abbrev jf(a:Msg):Ad×Blk:=((1,4),⟨0,true,49,5,[vS a.name,vL Ap a.fields,vL AW a.reserved,vL AE a.gone,vL AG a.notes]⟩)
abbrev Pu:Bool→AV:=fun y=>vB y
def ft(a:Scm)(b:Msg)(c:List Bool):Nat→St:=fun d=>Ab [(2,vL AP c),(3,.ptr (1,3) 0 0),(4,.ptr (1,4) 0 0),(7,vN d)] [(je a),(jf b)]
def lR:Unit→Nat×St:=fun _=>(0,Ab [] [])
def eF(d:Scm)(b:Msg)(e:List Bool)(a:Nat):PT 0 (Lv (Nat) (Unit) (Bool)):=vw .go<|vz (Ah b.fields)<|br (decide ((a:Int)<(b.fields.length:Int))) (vw .go<|ix b.fields a fun c=>vw .go<|vw .go<|vw .go<|br ((!decide (c.card=(1:Int)))||(!decide (c.type.kind=(10:Int)))) (vs (wa a 1)<|ln (ft d b e) (a+1)) (vw .go<|vw .go<|cl (MZ d c.type.name) fun f=>A2 (decide ((0:Int)≤f)) e f fun g=>br (decide ((0:Int)≤f)&&(!g)) (AC Pu (fun _=>[]) true) (vs (wa a 1)<|ln (ft d b e) (a+1)))) (Al (lR) ())
def QB(a:Scm)(b:Msg)(c:List Bool):Nat→Option (Lv (Nat) (Unit) (Bool)):=fun d=>(eF a b c d).m
def gS:PT 0 (Bool):=lr Pu (fun _=>[]) false
def hP(a:Scm)(b:Msg)(c:List Bool):PT 0 (Bool):=lc (Ab [(2,vL AP c),(3,.ptr (1,3) 0 0),(4,.ptr (1,4) 0 0),(7,vI 0)] [(je a),(jf b)]) ((Am (QB a b c) Aj 0).bind (Sum.elim (fun _=>(gS).m) some))
def gM(a:Scm)(b:Msg)(c:List Bool):PT 0 (Bool):=lc (Ab [(2,vL AP c),(3,.ptr (1,3) 0 0),(4,.ptr (1,4) 0 0)] [(je a),(jf b)]) ((hP a b c).m)
def Zu(a:Scm)(b:Msg)(c:List Bool):Option (Bool):=(gM a b c).m
theorem Zxe{C:Cx}(co:CO C 0)(a:Scm)(b:Msg)(c:List Bool):KL Tryz.prog (AH tl) 45 C (pa [0,0,1,0,1] (AD Tryz.f125)) [.tmp 6] 0 (ft a b c) (lR) Pu (fun _=>[]) (QB a b c):=fun h _ hm Q d f e=>AA co Aa Ac (eF a b c h) (Ae [2,3,4,7] [((1,3),false),((1,4),false)]) nl f hm e fun r g=>⟨fun i=>⟨id,fun k=>fun j=>⟨id,id⟩⟩,id⟩
theorem ZOX(b:Scm)(c:Msg)(d:List Bool):KC Tryz.prog 125 [.agg ((As b).map .d),.agg ((Aw c).map .d),vL AP d] (Zu b c d) Pu:=Au Tryz.func125 Tryz.ntmps125 Aa [.tmp 6] fun C co y hm e a=>Ak co Aa Ac 1 (gM b c d) (Ae [2,3,4] [((1,3),false),((1,4),false)]) nl (fun _ h=>h) hm a fun r g=>fun _ hm a=>sq (Ak co Aa Ac 1 (hP b c d) (Ae [2,3,4,7] [((1,3),false),((1,4),false)]) nl (fun _ h=>h) hm a fun r g=>fun _ hm a=>bk 0 (lo (AL (Zxe co b c d) (fun _ h=>h) hm a (fun _ hm=>Ao co Aa Ac (gS) hm a fun r g=>id))))
abbrev jh:List (Ad×Bool):=[((0,0),true),((1,3),false),((1,4),false)]
abbrev CZ:List (Ad×Bool):=[((0,0),true)]
abbrev jg(a:Scm):Ad×Blk:=((1,3),⟨0,true,26,3,[vL Aw a.messages,vL AO a.enums,vL AS a.services]⟩)
abbrev Xt(a:Msg):Ad×Blk:=((1,4),⟨0,true,49,5,[vS a.name,vL Ap a.fields,vL AW a.reserved,vL AE a.gone,vL AG a.notes]⟩)
abbrev Q0:Bool→AV:=fun y=>vB y
@[reducible] def Rk(a:List Bool):Bool→List Blk:=fun y=>[⟨0,true,4,1,Af AP a⟩]
def bB(b:Scm)(c:Msg)(a:List Bool):Nat→St:=fun d=>Ab [(2,.ref (0,0) 0 0 a.length),(3,.ptr (1,3) 0 0),(4,.ptr (1,4) 0 0),(7,vN d)] [((0,0),⟨0,true,4,1,Af AP a⟩),(jg b),(Xt c)]
def wq(a:List Bool):Unit→Nat×St:=fun _=>(0,Ab [] [((0,0),⟨0,true,4,1,Af AP a⟩)])
def bI(f:Scm)(c:Msg)(a:List Bool)(b:Nat):PT 1 (Lv (Nat) (Unit) (Bool)):=vw .go<|vz (Ah c.fields)<|br (decide ((b:Int)<(c.fields.length:Int))) (vw .go<|ix c.fields b fun e=>vw .go<|vw .go<|vw .go<|br ((!decide (e.card=(1:Int)))||(!decide (e.type.kind=(10:Int)))) (vs (wa b 1)<|vz (fl a)<|ln (bB f c a) (b+1)) (vw .go<|vw .go<|cl (MZ f e.type.name) fun d=>vg (decide ((0:Int)≤d)) (DS d a.length 1)<|y8 (decide ((0:Int)≤d)) a d.toNat fun g=>br (decide ((0:Int)≤d)&&(!g)) (AC Q0 (Rk a) true) (vs (wa b 1)<|vz (fl a)<|ln (bB f c a) (b+1)))) (vz (fl a)<|Al (wq a) ())
def Qa(a:Scm)(b:Msg)(c:List Bool):Nat→Option (Lv (Nat) (Unit) (Bool)):=fun d=>(bI a b c d).m
def bQ(a:List Bool):PT 1 (Bool):=lr Q0 (Rk a) false
def bG(b:Scm)(c:Msg)(a:List Bool):PT 1 (Bool):=vz (fl a)<|lc (Ab [(2,.ref (0,0) 0 0 a.length),(3,.ptr (1,3) 0 0),(4,.ptr (1,4) 0 0),(7,vI 0)] [((0,0),⟨0,true,4,1,Af AP a⟩),(jg b),(Xt c)]) ((Am (Qa b c a) Aj 0).bind (Sum.elim (fun _=>(bQ a).m) some))
def bH(b:Scm)(c:Msg)(a:List Bool):PT 1 (Bool):=vz (fl a)<|lc (Ab [(2,.ref (0,0) 0 0 a.length),(3,.ptr (1,3) 0 0),(4,.ptr (1,4) 0 0)] [((0,0),⟨0,true,4,1,Af AP a⟩),(jg b),(Xt c)]) ((bG b c a).m)
def PE(a:Scm)(b:Msg)(c:List Bool):Option (Bool):=(bH a b c).m
theorem Zn1{C:Cx}(co:CO C 1)(b:Scm)(c:Msg)(a:List Bool):KL Tryz.prog (AH tl) 45 C (pa [0,0,1,0,1] (AD Tryz.f125)) [.tmp 6] 1 (bB b c a) (wq a) Q0 (Rk a) (Qa b c a):=fun h _ hm Q d f e=>AA co Aa Ac (bI b c a h) (Ae [2,3,4,7] jh) (Ae [] CZ) f hm e fun r g=>⟨fun i=>⟨id,fun k=>fun j=>⟨id,id⟩⟩,id⟩
theorem ZFB(c:Scm)(d:Msg)(a:List Bool):KO Tryz.prog 125 1 [.agg ((As c).map .d),.agg ((Aw d).map .d),.ref (0,0) 0 0 a.length] [⟨0,true,4,1,Af AP a⟩] (fun _ _ _ _=>True) (PE c d a) Q0 (Rk a):=BB Tryz.func125 Tryz.ntmps125 Aa [.tmp 6] 1 (fun C co f y hm e b=>Ak co Aa Ac 1 (bH c d a) (Ae [2,3,4] jh) nl (fun _ h=>h) hm b fun r g=>fun _ hm b=>sq (Ak co Aa Ac 1 (bG c d a) (Ae [2,3,4,7] jh) nl (fun _ h=>h) hm b fun r g=>fun _ hm b=>bk 0 (lo (AL (Zn1 co c d a) (fun _ h=>h) hm b (fun _ hm=>Ao co Aa Ac (bQ a) hm b fun r g=>id))))) (hB:=fun y=>⟨.inl (AZ _ _),rfl,trivial⟩)
abbrev II:List (Ad×Bool):=[((1,1),false),((1,10),true)]
abbrev H6(a:Scm):Ad×Blk:=((1,1),⟨0,true,26,3,[vL Aw a.messages,vL AO a.enums,vL AS a.services]⟩)
abbrev NL:List Bool→AV:=fun y=>vL AP y
def nY(b:Scm):Bool×Nat×List Bool→St:=fun(c,v2,a)=>Ab [(1,.ptr (1,1) 0 0),(3,.ref (1,10) 0 0 a.length),(4,vB c),(5,vN v2)] [(H6 b),((1,10),⟨0,true,4,1,Af AP a⟩)]
def my:List Bool→Nat×St:=fun a=>(0,Ab [(3,.ref (1,10) 0 0 a.length)] [((1,10),⟨0,true,4,1,Af AP a⟩)])
def VE(b:Scm)(v2:Nat):Bool×Nat×List Bool→St:=fun(v4,v5,a)=>Ab [(1,.ptr (1,1) 0 0),(3,.ref (1,10) 0 0 a.length),(4,vB v4),(5,vN v2),(6,vN v5)] [(H6 b),((1,10),⟨0,true,4,1,Af AP a⟩)]
def pm(c:Scm)(v2:Nat):Bool×List Bool→Nat×St:=fun(b,a)=>(2,Ab [(1,.ptr (1,1) 0 0),(3,.ref (1,10) 0 0 a.length),(4,vB b),(5,vN v2)] [(H6 c),((1,10),⟨0,true,4,1,Af AP a⟩)])
def VU(b:Scm)(v2:Nat)(v4:Bool)(v5:Nat)(a:List Bool):PT 0 (Lv (Bool×Nat×List Bool) (Bool×List Bool) (List Bool)):=vw .go<|vz (Ah b.messages)<|br (decide ((v5:Int)<(b.messages.length:Int))) (vs (ir v5 a.length 1)<|ca a v5 fun c=>vw .go<|vw .go<|A2 (!c) b.messages (v5:Int) fun d=>Hz (!c) Tryz.prog 125 [.agg ((As b).map .d),.agg ((Aw d).map .d),.ref (1,10) 0 0 a.length] [(1,10)] [((1,10),⟨0,true,4,1,Af AP a⟩)] (PE b d a) (fun y=>vB y) fun e=>br ((!c)&&(!e)) (vs (ir v5 a.length 1)<|vs (st a v5 true)<|rn 3 10 a.length (a.set v5 true)<|vw .sep<|vs (wa v5 1)<|vz (fl (a.set v5 true))<|ln (VE b v2) (true,v5+1,a.set v5 true)) (vs (wa v5 1)<|vz (fl a)<|ln (VE b v2) (v4,v5+1,a))) (vz (fl a)<|Al (pm b v2) (v4,a))
def R8(a:Scm)(v2:Nat):Bool×Nat×List Bool→Option (Lv (Bool×Nat×List Bool) (Bool×List Bool) (List Bool)):=fun(v4,v5,b)=>(VU a v2 v4 v5 b).m
def VG(c:Scm)(v2:Nat)(b:Bool)(a:List Bool):PT 0 (Lv (Bool×Nat×List Bool) (List Bool) (List Bool)):=vs (wa v2 1)<|vz (fl a)<|ln (nY c) (b,v2+1,a)
def VT(b:Scm)(v2:Nat)(a:List Bool):PT 0 (Lv (Bool×Nat×List Bool) (List Bool) (List Bool)):=vz (fl a)<|lc (Ab [(1,.ptr (1,1) 0 0),(3,.ref (1,10) 0 0 a.length),(4,vB false),(5,vN v2),(6,vI 0)] [(H6 b),((1,10),⟨0,true,4,1,Af AP a⟩)]) ((Am (R8 b v2) Aj (false,0,a)).bind (Sum.elim (fun(d,c)=>(VG b v2 d c).m) (fun z=>some (.rt z))))
def Xd(b:Scm)(c:Bool)(v2:Nat)(a:List Bool):PT 0 (Lv (Bool×Nat×List Bool) (List Bool) (List Bool)):=vw .go<|vz (Ah b.messages)<|br (decide ((v2:Int)<(b.messages.length:Int))&&c) (vz (fl a)<|lc (Ab [(1,.ptr (1,1) 0 0),(3,.ref (1,10) 0 0 a.length),(5,vN v2)] [(H6 b),((1,10),⟨0,true,4,1,Af AP a⟩)]) ((VT b v2 a).m)) (vz (fl a)<|Al (my) a)
def SR(a:Scm):Bool×Nat×List Bool→Option (Lv (Bool×Nat×List Bool) (List Bool) (List Bool)):=fun(c,v2,b)=>(Xd a c v2 b).m
def UG(a:List Bool):PT 0 (List Bool):=vz (fr a)<|lr NL (fun _=>[]) a
def VC(a:Scm):PT 0 (List Bool):=vz (fl (List.replicate a.messages.length false))<|lc (Ab [(1,.ptr (1,1) 0 0),(3,.ref (1,10) 0 0 (List.replicate a.messages.length false).length),(4,vB true),(5,vI 0)] [(H6 a),((1,10),⟨0,true,4,1,Af AP (List.replicate a.messages.length false)⟩)]) ((Am (SR a) Aj (true,0,List.replicate a.messages.length false)).bind (Sum.elim (fun b=>(UG b).m) some))
def VZ(a:Scm):PT 0 (List Bool):=vw .go<|vz (Ah a.messages)<|ms a.messages.length false [vB false] (by first|rfl|kernel_rfl)<|vz (fl (List.replicate a.messages.length false))<|lc (Ab [(1,.ptr (1,1) 0 0),(3,.ref (1,10) 0 0 (List.replicate a.messages.length false).length),(4,vB true)] [(H6 a),((1,10),⟨0,true,4,1,Af AP (List.replicate a.messages.length false)⟩)]) ((VC a).m)
def Zj(a:Scm):Option (List Bool):=(VZ a).m
theorem ZC8{C:Cx}(co:CO C 0)(a:Scm)(v2:Nat):KL Tryz.prog (AH tl) 48 C (pa [0,0,1,1,0,0,1,0,0,1,0,1,1,1] (AD Tryz.f83)) [.tmp 2] 0 (VE a v2) (pm a v2) NL (fun _=>[]) (R8 a v2):=fun(v4,v5,b) _ hm Q c f e=>AA co Aa Ac (VU a v2 v4 v5 b) (Ae [1,3,4,5,6] II) (Ae [1,3,4,5] II) f hm e fun r g=>⟨fun i=>fun d=>⟨fun y hy=>C3 (ZFB a d b) hy co g [((1,10),⟨0,true,4,1,Af AP b⟩)] [] (AR []) (fun h j k=>trivial) (fun H=>⟨fun _=>⟨rfl,Bl (AZ _ _) (by kernel_rfl)⟩,by kernel_rfl,trivial⟩),fun l=>⟨id,id⟩⟩,id⟩
theorem ZEC{C:Cx}(co:CO C 0)(b:Scm):KL Tryz.prog (AH tl) 48 C (pa [0,0,1,0,1,1,1] (AD Tryz.f83)) [.tmp 2] 0 (nY b) (my) NL (fun _=>[]) (SR b):=fun(i,v2,h) _ hm Q f c a=>Ak co Aa Ac 1 (Xd b i v2 h) (Ae [1,3,5] II) (Ae [3] [((1,10),true)]) c hm a fun r g=>⟨fun _ hm a=>sq (bk 1 (Ak co Aa Ac 2 (VT b v2 h) (Ae [1,3,4,5,6] II) nl c hm a fun r g=>fun _ hm a=>bk 2 (lo (HE (ZC8 co b v2) c hm a (fun(e,d) hm=>AA co Aa Ac (VG b v2 e d) (Ae [1,3,4,5] II) nl c hm a fun r g=>id))))),id⟩
theorem ZTC(b:Scm):KC Tryz.prog 83 [.agg ((As b).map .d)] (Zj b) NL:=Au Tryz.func83 Tryz.ntmps83 Aa [.tmp 2] fun C co y hm d a=>Ak co Aa Ac 3 (VZ b) (Ae [1,3,4] II) nl (fun _ h=>h) hm a fun r g=>fun _ hm a=>sq (Ak co Aa Ac 1 (VC b) (Ae [1,3,4,5] II) nl (fun _ h=>h) hm a fun r g=>fun _ hm a=>bk 0 (lo (AL (ZEC co b) (fun _ h=>h) hm a (fun c hm=>Ao co Aa Ac (UG c) hm a fun r g=>id))))
abbrev rc:Bool→AV:=fun y=>vB y
def lI(a:Int):PT 0 (Bool):=lr rc (fun _=>[]) (decide ((97:Int)≤a)&&decide (a≤(122:Int)))
def tX(a:Int):Option (Bool):=(lI a).m
theorem nP(a:Int):KC Tryz.prog 188 [.d (.int .u8 a)] (tX a) rc:=Au Tryz.func188 Tryz.ntmps188 Aa [.tmp 2] fun C co y hm b c=>Ao co Aa Ac (lI a) hm c fun r g=>id
abbrev sF:Bool→AV:=fun y=>vB y
def xY(a:Int):PT 0 (Bool):=lr sF (fun _=>[]) (decide ((65:Int)≤a)&&decide (a≤(90:Int)))
def tT(a:Int):Option (Bool):=(xY a).m
theorem pg(a:Int):KC Tryz.prog 189 [.d (.int .u8 a)] (tT a) sF:=Au Tryz.func189 Tryz.ntmps189 Aa [.tmp 2] fun C co y hm b c=>Ao co Aa Ac (xY a) hm c fun r g=>id
abbrev Lq:Bool→AV:=fun y=>vB y
def xP(a:ByteArray):Nat→St:=fun v5=>Ab [(0,vS a),(3,vN v5)] []
def yH:Unit→Nat×St:=fun _=>(0,Ab [] [])
def fs(a:ByteArray)(v5:Nat):PT 0 (Lv (Nat) (Unit) (Bool)):=vz (A7 a.size)<|br (decide ((v5:Int)<(a.size:Int))) (ib a v5 fun g=>cl (nP (g.toNat:Int)) fun c=>E5 (!c) a (v5:Int) fun h=>clg (!c) (pg (h.toNat:Int)) fun e=>E5 ((!c)&&(!e)) a (v5:Int) fun b=>E5 (((!c)&&(!e))&&(!decide ((b.toNat:Int)=(95:Int)))) a (v5:Int) fun d=>E5 ((((!c)&&(!e))&&(!decide ((b.toNat:Int)=(95:Int))))&&(!(decide ((d.toNat:Int)<(48:Int))))) a (v5:Int) fun f=>br ((((!c)&&(!e))&&(!decide ((b.toNat:Int)=(95:Int))))&&(decide ((d.toNat:Int)<(48:Int))||decide ((57:Int)<(f.toNat:Int)))) (AC Lq (fun _=>[]) false) (vs (wa v5 1)<|ln (xP a) (v5+1))) (Al (yH) ())
def QD(a:ByteArray):Nat→Option (Lv (Nat) (Unit) (Bool)):=fun v5=>(fs a v5).m
def iK:PT 0 (Bool):=lr Lq (fun _=>[]) true
def iY(a:ByteArray):PT 0 (Bool):=lc (Ab [(0,vS a),(3,vI 1)] []) ((Am (QD a) Aj 1).bind (Sum.elim (fun _=>(iK).m) some))
def iC(a:ByteArray):PT 0 (Bool):=vz (A7 a.size)<|vy (!(decide ((a.size:Int)=(0:Int)))) (A7 a.size)<|E5 (!(decide ((a.size:Int)=(0:Int))||decide ((40:Int)<(a.size:Int)))) a 0 fun c=>clg (!(decide ((a.size:Int)=(0:Int))||decide ((40:Int)<(a.size:Int)))) (nP (c.toNat:Int)) fun b=>E5 ((!(decide ((a.size:Int)=(0:Int))||decide ((40:Int)<(a.size:Int))))&&(!b)) a 0 fun d=>clg ((!(decide ((a.size:Int)=(0:Int))||decide ((40:Int)<(a.size:Int))))&&(!b)) (pg (d.toNat:Int)) fun e=>br ((decide ((a.size:Int)=(0:Int))||decide ((40:Int)<(a.size:Int)))||((!b)&&(!e))) (lr Lq (fun _=>[]) false) (lc (Ab [(0,vS a)] []) ((iY a).m))
def Zp(a:ByteArray):Option (Bool):=(iC a).m
theorem ZwS{C:Cx}(co:CO C 0)(a:ByteArray):KL Tryz.prog (AH tl) 60 C (pa [0,0,1,0,1,1] (AD Tryz.f163)) [.tmp 2] 0 (xP a) (yH) Lq (fun _=>[]) (QD a):=fun v5 _ hm Q b h f=>AA co Aa Ac (fs a v5) (AQ [0,3]) nl h hm f fun r g=>⟨fun i=>fun k=>fun j=>fun l=>fun c=>fun d=>fun e=>⟨id,id⟩,id⟩
theorem V3(b:ByteArray):KC Tryz.prog 163 [vS b] (Zp b) Lq:=Au Tryz.func163 Tryz.ntmps163 Aa [.tmp 2] fun C co y hm c a=>Ak co Aa Ac 2 (iC b) (AQ [0]) nl (fun _ h=>h) hm a fun r g=>fun d=>fun f=>fun e=>fun i=>⟨id,fun _ hm a=>sq (Ak co Aa Ac 1 (iY b) (AQ [0,3]) nl (fun _ h=>h) hm a fun r g=>fun _ hm a=>bk 0 (lo (AL (ZwS co b) (fun _ h=>h) hm a (fun _ hm=>Ao co Aa Ac (iK) hm a fun r g=>id))))⟩
abbrev LD:Bool→AV:=fun y=>vB y
def cJ(a:ByteArray):ByteArray×Nat→St:=fun(b,v2)=>Ab [(0,vS a),(3,vS b),(4,vN v2)] []
def lC:ByteArray→Nat×St:=fun a=>(0,Ab [(3,vS a)] [])
def dE(a:ByteArray)(b:ByteArray)(v2:Nat):PT 0 (Lv (ByteArray×Nat) (ByteArray) (Bool)):=vz (A7 a.size)<|br (decide ((v2:Int)<(a.size:Int))) (ib a v2 fun c=>br (!decide ((c.toNat:Int)=(46:Int))) (vs (wa v2 1)<|ss a (.nt v2) (.nt (v2+1)) fun d=>ad b d fun e=>vs (wa v2 1)<|ln (cJ a) (e,v2+1)) (cl (V3 b) fun f=>br (!f) (AC LD (fun _=>[]) false) (vs (wa v2 1)<|ln (cJ a) (⟨#[]⟩,v2+1)))) (Al (lC) b)
def QR(a:ByteArray):ByteArray×Nat→Option (Lv (ByteArray×Nat) (ByteArray) (Bool)):=fun(b,v2)=>(dE a b v2).m
def dT(a:ByteArray):PT 0 (Bool):=cl (V3 a) fun b=>lr LD (fun _=>[]) b
def i7(a:ByteArray):PT 0 (Bool):=lc (Ab [(0,vS a),(3,vS ⟨#[]⟩),(4,vI 0)] []) ((Am (QR a) Aj (⟨#[]⟩,0)).bind (Sum.elim (fun b=>(dT b).m) some))
def iL(a:ByteArray):PT 0 (Bool):=vz (A7 a.size)<|br (decide ((120:Int)<(a.size:Int))) (lr LD (fun _=>[]) false) (lc (Ab [(0,vS a),(3,vS ⟨#[]⟩)] []) ((i7 a).m))
def Zo(a:ByteArray):Option (Bool):=(iL a).m
theorem Zyk{C:Cx}(co:CO C 0)(a:ByteArray):KL Tryz.prog (AH tl) 30 C (pa [0,0,1,0,1,1,1] (AD Tryz.f160)) [.tmp 2] 0 (cJ a) (lC) LD (fun _=>[]) (QR a):=fun(e,v2) _ hm Q b d c=>AA co Aa Ac (dE a e v2) (AQ [0,3,4]) (AQ [3]) d hm c fun r g=>⟨fun f=>⟨fun h=>fun i=>id,fun j=>⟨id,id⟩⟩,id⟩
theorem ZQc(b:ByteArray):KC Tryz.prog 160 [vS b] (Zo b) LD:=Au Tryz.func160 Tryz.ntmps160 Aa [.tmp 2] fun C co y hm c a=>Ak co Aa Ac 3 (iL b) (AQ [0,3]) nl (fun _ h=>h) hm a fun r g=>⟨id,fun _ hm a=>sq (Ak co Aa Ac 1 (i7 b) (AQ [0,3,4]) nl (fun _ h=>h) hm a fun r g=>fun _ hm a=>bk 0 (lo (AL (Zyk co b) (fun _ h=>h) hm a (fun d hm=>Ao co Aa Ac (dT d) hm a fun r g=>fun e=>id))))⟩
abbrev Pk:ByteArray×ByteArray→AV:=fun y=>.tup [vS y.1,vS y.2]
def lN(a:ByteArray):Int→St:=fun b=>Ab [(0,vS a),(4,vI b)] []
def x4(a:ByteArray):Unit→Nat×St:=fun _=>(0,Ab [(0,vS a)] [])
def ew(b:ByteArray)(a:Int):PT 0 (Lv (Int) (Unit) (ByteArray×ByteArray)):=br (decide ((0:Int)≤a)) (Tk b a fun c=>br (decide ((c.toNat:Int)=(46:Int))) (ss b .no (.it a) fun d=>vs (wi (a+1))<|ss b (.it (a+1)) .no fun e=>AC Pk (fun _=>[]) (d,e)) (vs (wi (a-1))<|ln (lN b) (a-1))) (Al (x4 b) ())
def QA(a:ByteArray):Int→Option (Lv (Int) (Unit) (ByteArray×ByteArray)):=fun b=>(ew a b).m
def fg(a:ByteArray):PT 0 (ByteArray×ByteArray):=lr Pk (fun _=>[]) (⟨#[]⟩,a)
def iq(a:ByteArray):PT 0 (ByteArray×ByteArray):=vz (A7 a.size)<|vs (wi ((a.size:Int)-1))<|lc (Ab [(0,vS a),(4,vI ((a.size:Int)-1))] []) ((Am (QA a) Aj ((a.size:Int)-1)).bind (Sum.elim (fun _=>(fg a).m) some))
def gY(a:ByteArray):PT 0 (ByteArray×ByteArray):=lc (Ab [(0,vS a)] []) ((iq a).m)
def Zw(a:ByteArray):Option (ByteArray×ByteArray):=(gY a).m
theorem Zxs{C:Cx}(co:CO C 0)(a:ByteArray):KL Tryz.prog (AH tl) 24 C (pa [0,0,1,0,1] (AD Tryz.f161)) [.tmp 2,.tmp 3] 0 (lN a) (x4 a) Pk (fun _=>[]) (QA a):=fun e _ hm Q b d c=>AA co Aa Ac (ew a e) (AQ [0,4]) (AQ [0]) d hm c fun r g=>⟨fun f=>⟨fun h=>fun i=>id,id⟩,id⟩
theorem ZPW(b:ByteArray):KC Tryz.prog 161 [vS b] (Zw b) Pk:=Au Tryz.func161 Tryz.ntmps161 Aa [.tmp 2,.tmp 3] fun C co y hm c a=>Ak co Aa Ac 1 (gY b) (AQ [0]) nl (fun _ h=>h) hm a fun r g=>fun _ hm a=>sq (Ak co Aa Ac 1 (iq b) (AQ [0,4]) nl (fun _ h=>h) hm a fun r g=>fun _ hm a=>bk 0 (lo (AL (Zxs co b) (fun _ h=>h) hm a (fun _ hm=>Ao co Aa Ac (fg b) hm a fun r g=>id))))
abbrev Bb:Bool→AV:=fun y=>vB y
def cI(a:ByteArray):PT 0 (Bool):=br (decide (a=(⟨#[109,101,115,115,97,103,101]⟩:ByteArray))) (br (decide (a=(⟨#[109,101,115,115,97,103,101]⟩:ByteArray))) (lr Bb (fun _=>[]) true) (lr Bb (fun _=>[]) false)) (br (decide (a=(⟨#[101,110,117,109]⟩:ByteArray))) (br (decide (a=(⟨#[101,110,117,109]⟩:ByteArray))) (lr Bb (fun _=>[]) true) (lr Bb (fun _=>[]) false)) (br (decide (a=(⟨#[115,101,114,118,105,99,101]⟩:ByteArray))) (br (decide (a=(⟨#[115,101,114,118,105,99,101]⟩:ByteArray))) (lr Bb (fun _=>[]) true) (lr Bb (fun _=>[]) false)) (br (decide (a=(⟨#[117,110,105,111,110]⟩:ByteArray))) (br (decide (a=(⟨#[117,110,105,111,110]⟩:ByteArray))) (lr Bb (fun _=>[]) true) (lr Bb (fun _=>[]) false)) (br (decide (a=(⟨#[109,97,112]⟩:ByteArray))) (br (decide (a=(⟨#[109,97,112]⟩:ByteArray))) (lr Bb (fun _=>[]) true) (lr Bb (fun _=>[]) false)) (br (decide (a=(⟨#[108,105,115,116]⟩:ByteArray))) (br (decide (a=(⟨#[108,105,115,116]⟩:ByteArray))) (lr Bb (fun _=>[]) true) (lr Bb (fun _=>[]) false)) (br (decide (a=(⟨#[114,101,113,117,105,114,101,100]⟩:ByteArray))) (br (decide (a=(⟨#[114,101,113,117,105,114,101,100]⟩:ByteArray))) (lr Bb (fun _=>[]) true) (lr Bb (fun _=>[]) false)) (br (decide (a=(⟨#[111,112,116,105,111,110,97,108]⟩:ByteArray))) (br (decide (a=(⟨#[111,112,116,105,111,110,97,108]⟩:ByteArray))) (lr Bb (fun _=>[]) true) (lr Bb (fun _=>[]) false)) (br (decide (a=(⟨#[112,108,97,105,110]⟩:ByteArray))) (br (decide (a=(⟨#[112,108,97,105,110]⟩:ByteArray))) (lr Bb (fun _=>[]) true) (lr Bb (fun _=>[]) false)) (br (decide (a=(⟨#[100,101,102,97,117,108,116]⟩:ByteArray))) (br (decide (a=(⟨#[100,101,102,97,117,108,116]⟩:ByteArray))) (lr Bb (fun _=>[]) true) (lr Bb (fun _=>[]) false)) (br (decide (a=(⟨#[114,101,115,101,114,118,101,100]⟩:ByteArray))) (br (decide (a=(⟨#[114,101,115,101,114,118,101,100]⟩:ByteArray))) (lr Bb (fun _=>[]) true) (lr Bb (fun _=>[]) false)) (br (decide (a=(⟨#[105,109,112,111,114,116]⟩:ByteArray))) (br (decide (a=(⟨#[105,109,112,111,114,116]⟩:ByteArray))) (lr Bb (fun _=>[]) true) (lr Bb (fun _=>[]) false)) (br (decide (a=(⟨#[115,112,97,99,101]⟩:ByteArray))) (br (decide (a=(⟨#[115,112,97,99,101]⟩:ByteArray))) (lr Bb (fun _=>[]) true) (lr Bb (fun _=>[]) false)) (br (decide (a=(⟨#[114,112,99]⟩:ByteArray))) (br (decide (a=(⟨#[114,112,99]⟩:ByteArray))) (lr Bb (fun _=>[]) true) (lr Bb (fun _=>[]) false)) (br (decide (a=(⟨#[115,116,114,101,97,109]⟩:ByteArray))) (br (decide (a=(⟨#[115,116,114,101,97,109]⟩:ByteArray))) (lr Bb (fun _=>[]) true) (lr Bb (fun _=>[]) false)) (br (decide (a=(⟨#[114,101,116,117,114,110,115]⟩:ByteArray))) (br (decide (a=(⟨#[114,101,116,117,114,110,115]⟩:ByteArray))) (lr Bb (fun _=>[]) true) (lr Bb (fun _=>[]) false)) (br (decide (a=(⟨#[111,112,101,110]⟩:ByteArray))) (br (decide (a=(⟨#[111,112,101,110]⟩:ByteArray))) (lr Bb (fun _=>[]) true) (lr Bb (fun _=>[]) false)) (br (decide (a=(⟨#[116,114,117,101]⟩:ByteArray))) (br (decide (a=(⟨#[116,114,117,101]⟩:ByteArray))) (lr Bb (fun _=>[]) true) (lr Bb (fun _=>[]) false)) (br (decide (a=(⟨#[102,97,108,115,101]⟩:ByteArray))) (br (decide (a=(⟨#[102,97,108,115,101]⟩:ByteArray))) (lr Bb (fun _=>[]) true) (lr Bb (fun _=>[]) false)) (br (decide (a=(⟨#[110,97,110]⟩:ByteArray))) (br (decide (a=(⟨#[110,97,110]⟩:ByteArray))) (lr Bb (fun _=>[]) true) (lr Bb (fun _=>[]) false)) (br (decide (a=(⟨#[105,110,102]⟩:ByteArray))) (lr Bb (fun _=>[]) true) (lr Bb (fun _=>[]) false)))))))))))))))))))))
def Zk(a:ByteArray):Option (Bool):=(cI a).m
theorem qh(a:ByteArray):KC Tryz.prog 162 [vS a] (Zk a) Bb:=Au Tryz.func162 Tryz.ntmps162 Aa [.tmp 2] fun C co y hm b c=>Ao co Aa Ac (cI a) hm c fun r g=>⟨⟨id,id⟩,⟨⟨id,id⟩,⟨⟨id,id⟩,⟨⟨id,id⟩,⟨⟨id,id⟩,⟨⟨id,id⟩,⟨⟨id,id⟩,⟨⟨id,id⟩,⟨⟨id,id⟩,⟨⟨id,id⟩,⟨⟨id,id⟩,⟨⟨id,id⟩,⟨⟨id,id⟩,⟨⟨id,id⟩,⟨⟨id,id⟩,⟨⟨id,id⟩,⟨⟨id,id⟩,⟨⟨id,id⟩,⟨⟨id,id⟩,⟨⟨id,id⟩,⟨id,id⟩⟩⟩⟩⟩⟩⟩⟩⟩⟩⟩⟩⟩⟩⟩⟩⟩⟩⟩⟩⟩
abbrev Lm:Bool→AV:=fun y=>vB y
def x7:ByteArray×Nat→St:=fun(v2,v3)=>Ab [(0,vS v2),(3,vN v3)] []
def kZ:Unit→Nat×St:=fun _=>(0,Ab [] [])
def ie(v2:ByteArray)(v3:Nat):PT 0 (Lv (ByteArray×Nat) (Unit) (Bool)):=br (decide ((v3:Int)<(120:Int))&&(!decide (v2=(⟨#[]⟩:ByteArray)))) (cl (ZPW v2) fun a=>cl (qh a.2) fun b=>br b (AC Lm (fun _=>[]) false) (vs (wa v3 1)<|ln (x7) (a.1,v3+1))) (Al (kZ) ())
def Rj:ByteArray×Nat→Option (Lv (ByteArray×Nat) (Unit) (Bool)):=fun(v2,v3)=>(ie v2 v3).m
def dy:PT 0 (Bool):=lr Lm (fun _=>[]) true
def iv(a:ByteArray):PT 0 (Bool):=lc (Ab [(0,vS a),(3,vI 0)] []) ((Am (Rj) Aj (a,0)).bind (Sum.elim (fun _=>(dy).m) some))
def de(a:ByteArray):PT 0 (Bool):=cl (ZQc a) fun b=>br (!b) (lr Lm (fun _=>[]) false) (lc (Ab [(0,vS a)] []) ((iv a).m))
def Zl(a:ByteArray):Option (Bool):=(de a).m
theorem Zvg{C:Cx}(co:CO C 0):KL Tryz.prog (AH tl) 25 C (pa [0,0,1,0,1,1] (AD Tryz.f126)) [.tmp 2] 0 (x7) (kZ) Lm (fun _=>[]) (Rj):=fun(v2,v3) _ hm Q a c b=>AA co Aa Ac (ie v2 v3) (AQ [0,3]) nl c hm b fun r g=>⟨fun d=>fun e=>⟨id,id⟩,id⟩
theorem UH(b:ByteArray):KC Tryz.prog 126 [vS b] (Zl b) Lm:=Au Tryz.func126 Tryz.ntmps126 Aa [.tmp 2] fun C co y hm c a=>Ak co Aa Ac 2 (de b) (AQ [0]) nl (fun _ h=>h) hm a fun r g=>fun d=>⟨id,fun _ hm a=>sq (Ak co Aa Ac 1 (iv b) (AQ [0,3]) nl (fun _ h=>h) hm a fun r g=>fun _ hm a=>bk 0 (lo (AL (Zvg co) (fun _ h=>h) hm a (fun _ hm=>Ao co Aa Ac (dy) hm a fun r g=>id))))⟩
end Go.Proofs.YtchkcemlglpobaaGreat
