import Derived.Test.YtchkcemlglpobaaGreatCs13
import Derived.Test.YtchkcemlglpobaaGreatCs14
import Derived.Test.YtchkcemlglpobaaGreatCs00
namespace Go.Proofs.YtchkcemlglpobaaGreat
set_option maxRecDepth 100000
set_option linter.all false
open Go Go.Eng
def Zln:Go.Shelf.Ren:=⟨fun|190=>146|125=>179|258=>178|128=>209|129=>210|302=>200|303=>201|304=>202|305=>203|306=>204|307=>205|308=>206|309=>207|310=>208|333=>220|329=>221|330=>222|334=>223|335=>224|336=>183|344=>233|n=>n,fun|31=>46|9=>9|3=>3|46=>220|0=>0|51=>241|53=>29|4=>4|183=>233|182=>232|131=>238|5=>5|218=>248|222=>252|228=>258|229=>259|n=>n,fun|n=>n⟩
theorem yO:Go.Proofs.Lays.n190 Tryz.prog Zln:={
 mixed:=by kernel_rfl,
 f125:=Tryz.func179.trans (congrArg some (by kernel_rfl)),
 f128:=Tryz.func209.trans (congrArg some (by kernel_rfl)),
 f129:=Tryz.func210.trans (congrArg some (by kernel_rfl)),
 f190:=Tryz.func146.trans (congrArg some (by kernel_rfl)),
 f258:=Tryz.func178.trans (congrArg some (by kernel_rfl)),
 f302:=Tryz.func200.trans (congrArg some (by kernel_rfl)),
 f303:=Tryz.func201.trans (congrArg some (by kernel_rfl)),
 f304:=Tryz.func202.trans (congrArg some (by kernel_rfl)),
 f305:=Tryz.func203.trans (congrArg some (by kernel_rfl)),
 f306:=Tryz.func204.trans (congrArg some (by kernel_rfl)),
 f307:=Tryz.func205.trans (congrArg some (by kernel_rfl)),
 f308:=Tryz.func206.trans (congrArg some (by kernel_rfl)),
 f309:=Tryz.func207.trans (congrArg some (by kernel_rfl)),
 f310:=Tryz.func208.trans (congrArg some (by kernel_rfl)),
 f329:=Tryz.func221.trans (congrArg some (by kernel_rfl)),
 f330:=Tryz.func222.trans (congrArg some (by kernel_rfl)),
 f333:=Tryz.func220.trans (congrArg some (by kernel_rfl)),
 f334:=Tryz.func223.trans (congrArg some (by kernel_rfl)),
 f335:=Tryz.func224.trans (congrArg some (by kernel_rfl)),
 f336:=Tryz.func183.trans (congrArg some (by kernel_rfl)),
 f344:=Tryz.func233.trans (congrArg some (by kernel_rfl)),
 t0:=Tryz.underlying0,
 a0:=Tryz.isAgg0,
 z0:=Tryz.sizeOf0,
 v0:=Tryz.zeroValue0,
 t3:=Tryz.underlying3,
 a3:=Tryz.isAgg3,
 z3:=Tryz.sizeOf3,
 v3:=Tryz.zeroValue3,
 t4:=Tryz.underlying4,
 a4:=Tryz.isAgg4,
 z4:=Tryz.sizeOf4,
 v4:=Tryz.zeroValue4,
 t5:=Tryz.underlying5,
 a5:=Tryz.isAgg5,
 z5:=Tryz.sizeOf5,
 v5:=Tryz.zeroValue5,
 t9:=Tryz.underlying9,
 a9:=Tryz.isAgg9,
 z9:=Tryz.sizeOf9,
 v9:=Tryz.zeroValue9,
 t31:=Tryz.underlying46,
 a31:=Tryz.isAgg46,
 z31:=Tryz.sizeOf46,
 v31:=Tryz.zeroValue46,
 t46:=Tryz.underlying220,
 a46:=Tryz.isAgg220,
 z46:=Tryz.sizeOf220,
 v46:=Tryz.zeroValue220,
 t51:=Tryz.underlying241,
 a51:=Tryz.isAgg241,
 z51:=Tryz.sizeOf241,
 v51:=Tryz.zeroValue241,
 t53:=Tryz.underlying29,
 a53:=Tryz.isAgg29,
 z53:=Tryz.sizeOf29,
 v53:=Tryz.zeroValue29,
 t131:=Tryz.underlying238,
 a131:=Tryz.isAgg238,
 z131:=Tryz.sizeOf238,
 v131:=Tryz.zeroValue238,
 t182:=Tryz.underlying232,
 a182:=Tryz.isAgg232,
 z182:=Tryz.sizeOf232,
 v182:=Tryz.zeroValue232,
 t183:=Tryz.underlying233,
 a183:=Tryz.isAgg233,
 z183:=Tryz.sizeOf233,
 v183:=Tryz.zeroValue233,
 t218:=Tryz.underlying248,
 a218:=Tryz.isAgg248,
 z218:=Tryz.sizeOf248,
 v218:=Tryz.zeroValue248,
 t222:=Tryz.underlying252,
 a222:=Tryz.isAgg252,
 z222:=Tryz.sizeOf252,
 v222:=Tryz.zeroValue252,
 t228:=Tryz.underlying258,
 a228:=Tryz.isAgg258,
 z228:=Tryz.sizeOf258,
 v228:=Tryz.zeroValue258,
 t229:=Tryz.underlying259,
 a229:=Tryz.isAgg259,
 z229:=Tryz.sizeOf259,
 v229:=Tryz.zeroValue259 }
abbrev ZSt:List ByteArray→AV:=fun y=>.tup []
@[reducible] def ZR0:List ByteArray→List Blk:=fun y=>[⟨0,true,9,1,Af AB y⟩]
def sg(a:List ByteArray):Option (List ByteArray):=if a.length<4611686018427387904 then some (MW a)else none
theorem ZOP(b:List ByteArray):KO Tryz.prog 146 1 [.ref (0,0) 0 0 b.length] [⟨0,true,9,1,Af AB b⟩] (fun _ _ _ _=>True) (sg b) ZSt (ZR0):=⟨fun l H ks h θ c a f e _ y hy=>by
 obtain⟨d,hy⟩:=BH hy
 rw[ZvX]at hy
 cases hy
 match ks,c with
 |[g],_=>exact Znz yO ⟨_,AD Tryz.f146,Tryz.func146,by kernel_rfl,by kernel_rfl⟩ a.1 b ((e.1.2 rfl).trans (JQ (A1 _ _))) d ⟨rfl,(congrArg (updH H g) (JQ (A1 _ _))).symm⟩⟩
abbrev Nh:Int→AV:=fun y=>vI y
def l1(a:List Nt)(b:Int):Nat→St:=fun c=>Ab [(0,vL AJ a),(1,vI b),(5,vN c)] []
def mH(a:List Nt):Unit→Nat×St:=fun _=>(0,Ab [(0,vL AJ a)] [])
def TO(c:List Nt)(e:Int)(d:Nat):PT 0 (Lv (Nat) (Unit) (Int)):=vz (Ah c)<|br (decide ((d:Int)<(c.length:Int))&&decide ((d:Int)≤e)) (ix c d fun a=>vw .go<|ix c d fun b=>vz (A3 b.name.size)<|vw .go<|vy (!(decide ((300:Int)<(b.name.size:Int)))) (A3 a.val.text.size)<|vw .go<|vy (!(decide ((300:Int)<(b.name.size:Int))||decide ((300:Int)<(a.val.text.size:Int)))) (Ah a.val.list)<|vw .go<|vy (!(decide ((300:Int)<(b.name.size:Int))||decide ((300:Int)<(a.val.text.size:Int)))) (Ah a.val.pairs)<|vg (!(decide ((300:Int)<(b.name.size:Int))||decide ((300:Int)<(a.val.text.size:Int)))) (wa a.val.list.length a.val.pairs.length)<|vw .go<|vy (!(decide ((300:Int)<(b.name.size:Int))||decide ((300:Int)<(a.val.text.size:Int)))) (Ah a.val.slots)<|vg (!(decide ((300:Int)<(b.name.size:Int))||decide ((300:Int)<(a.val.text.size:Int)))) (wa (a.val.list.length+a.val.pairs.length) a.val.slots.length)<|vw .go<|vy (!(decide ((300:Int)<(b.name.size:Int))||decide ((300:Int)<(a.val.text.size:Int)))) (Ah a.val.raws)<|vg (!(decide ((300:Int)<(b.name.size:Int))||decide ((300:Int)<(a.val.text.size:Int)))) (wa ((a.val.list.length+a.val.pairs.length)+a.val.slots.length) a.val.raws.length)<|br ((decide ((300:Int)<(b.name.size:Int))||decide ((300:Int)<(a.val.text.size:Int)))||decide ((0:Int)<((((a.val.list.length+a.val.pairs.length)+a.val.slots.length)+a.val.raws.length:Nat):Int))) (vs (wi (e+10))<|Ay Nh (fun _=>[]) (e+10)) (vs (wa d 1)<|ln (l1 c e) (d+1))) (Al (mH c) ())
def SI(a:List Nt)(b:Int):Nat→Option (Lv (Nat) (Unit) (Int)):=fun c=>(TO a b c).m
def T6(a:List Nt):PT 0 (Int):=vz (Ah a)<|lr Nh (fun _=>[]) (a.length:Int)
def UK(a:List Nt)(b:Int):PT 0 (Int):=lc (Ab [(0,vL AJ a),(1,vI b),(5,vI 0)] []) ((Am (SI a b) Ai 0).bind (Sum.elim (fun _=>(T6 a).m) some))
def VY(a:List Nt)(b:Int):PT 0 (Int):=lc (Ab [(0,vL AJ a),(1,vI b)] []) ((UK a b).m)
def Za(a:List Nt)(b:Int):Option (Int):=(VY a b).m
theorem ZDZ{C:Cx}(co:CO C 0)(a:List Nt)(b:Int):KL Tryz.prog (AG tl) 58 C (pa [0,0,1,0,1] (AD Tryz.f49)) [.tmp 4] 0 (l1 a b) (mH a) Nh (fun _=>[]) (SI a b):=fun f _ hm Q c e d=>AC co Aa Ad (TO a b f) (AQ [0,1,5]) (AQ [0]) e hm d fun r g=>⟨fun h=>fun i=>⟨id,id⟩,id⟩
theorem Jb(b:List Nt)(c:Int):KC Tryz.prog 49 [vL AJ b,vI c] (Za b c) Nh:=Av Tryz.func49 Tryz.ntmps49 Aa [.tmp 4] fun C co y hm d a=>Ak co Aa Ad 1 (VY b c) (AQ [0,1]) nl (fun _ h=>h) hm a fun r g=>fun _ hm a=>sq (Ak co Aa Ad 1 (UK b c) (AQ [0,1,5]) nl (fun _ h=>h) hm a fun r g=>fun _ hm a=>bk 0 (lo (AL (ZDZ co b c) (fun _ h=>h) hm a (fun _ hm=>Ao co Aa Ad (T6 b) hm a fun r g=>id))))
abbrev Ni:Int→AV:=fun y=>vI y
def kZ(a:List ByteArray)(b:Int):Nat→St:=fun c=>Ab [(0,vL AB a),(1,vI b),(5,vN c)] []
def nW(a:List ByteArray):Unit→Nat×St:=fun _=>(0,Ab [(0,vL AB a)] [])
def Ue(a:List ByteArray)(c:Int)(b:Nat):PT 0 (Lv (Nat) (Unit) (Int)):=vz (Ah a)<|br (decide ((b:Int)<(a.length:Int))&&decide ((b:Int)≤c)) (ix a b fun d=>vz (A3 d.size)<|br (decide ((300:Int)<(d.size:Int))) (vs (wi (c+10))<|Ay Ni (fun _=>[]) (c+10)) (vs (wa b 1)<|ln (kZ a c) (b+1))) (Al (nW a) ())
def Rp(a:List ByteArray)(b:Int):Nat→Option (Lv (Nat) (Unit) (Int)):=fun c=>(Ue a b c).m
def Wj(a:List ByteArray):PT 0 (Int):=vz (Ah a)<|lr Ni (fun _=>[]) (a.length:Int)
def Uj(a:List ByteArray)(b:Int):PT 0 (Int):=lc (Ab [(0,vL AB a),(1,vI b),(5,vI 0)] []) ((Am (Rp a b) Ai 0).bind (Sum.elim (fun _=>(Wj a).m) some))
def Wf(a:List ByteArray)(b:Int):PT 0 (Int):=lc (Ab [(0,vL AB a),(1,vI b)] []) ((Uj a b).m)
def Zd(a:List ByteArray)(b:Int):Option (Int):=(Wf a b).m
theorem zq{C:Cx}(co:CO C 0)(a:List ByteArray)(b:Int):KL Tryz.prog (AG tl) 27 C (pa [0,0,1,0,1] (AD Tryz.f50)) [.tmp 4] 0 (kZ a b) (nW a) Ni (fun _=>[]) (Rp a b):=fun f _ hm Q c e d=>AC co Aa Ad (Ue a b f) (AQ [0,1,5]) (AQ [0]) e hm d fun r g=>⟨fun h=>⟨id,id⟩,id⟩
theorem Ip(b:List ByteArray)(c:Int):KC Tryz.prog 50 [vL AB b,vI c] (Zd b c) Ni:=Av Tryz.func50 Tryz.ntmps50 Aa [.tmp 4] fun C co y hm d a=>Ak co Aa Ad 1 (Wf b c) (AQ [0,1]) nl (fun _ h=>h) hm a fun r g=>fun _ hm a=>sq (Ak co Aa Ad 1 (Uj b c) (AQ [0,1,5]) nl (fun _ h=>h) hm a fun r g=>fun _ hm a=>bk 0 (lo (AL (zq co b c) (fun _ h=>h) hm a (fun _ hm=>Ao co Aa Ad (Wj b) hm a fun r g=>id))))
abbrev B3:List (Ac×Bool):=[((1,1),false)]
abbrev BN(a:Scm):Ac×Blk:=((1,1),⟨0,true,26,3,[vL AA a.messages,vL AO a.enums,vL AU a.services]⟩)
abbrev Ar(a:Msg):Ac×Blk:=((1,5),⟨0,true,49,5,[vS a.name,vL Ap a.fields,vL AY a.reserved,vL AB a.gone,vL AJ a.notes]⟩)
abbrev SU(a:Enm):Ac×Blk:=((1,9),⟨0,true,97,5,[vS a.name,vB a.opn,vL EW a.items,vL AY a.reserved,vL AJ a.notes]⟩)
abbrev ii(a:Svc):Ac×Blk:=((1,12),⟨0,true,102,3,[vS a.name,vL FA a.methods,vL AJ a.notes]⟩)
abbrev FM:Bool→AV:=fun y=>vB y
def mQ(a:Scm):Int×Nat→St:=fun(b,v2)=>Ab [(1,.ptr (1,1) 0 0),(3,vI b),(4,vN v2)] [(BN a)]
def nh(b:Scm):Int→Nat×St:=fun a=>(0,Ab [(1,.ptr (1,1) 0 0),(3,vI a)] [(BN b)])
def Ud(b:Scm)(v2:Nat)(a:Msg):Int×Nat→St:=fun(c,d)=>Ab [(1,.ptr (1,1) 0 0),(3,vI c),(4,vN v2),(5,.ptr (1,5) 0 0),(6,vN d)] [(BN b),(Ar a)]
def mw(b:Scm)(v2:Nat):Int→Nat×St:=fun a=>(2,Ab [(1,.ptr (1,1) 0 0),(3,vI a),(4,vN v2)] [(BN b)])
def UH(g:Scm)(v2:Nat)(f:Msg)(a:Int)(e:Nat):PT 0 (Lv (Int×Nat) (Int) (Bool)):=vw .go<|vz (Ah f.fields)<|br (decide ((e:Int)<(f.fields.length:Int))&&decide ((0:Int)≤a)) (vw .go<|ix f.fields e fun d=>vw .go<|vs (wi (a-1))<|vw .go<|cl (Jb d.notes a) fun b=>vs (wi ((a-1)-b))<|vw .go<|vw .go<|vw .go<|cl (Ip ([d.name,d.type.name,d.union]:List ByteArray) a) fun c=>vs (wi (((a-1)-b)-c))<|vs (wi ((((a-1)-b)-c)+3))<|vw .go<|vz (A3 d.dflt.text.size)<|br (decide ((300:Int)<(d.dflt.text.size:Int))) (vs (wa e 1)<|ln (Ud g v2 f) ((-1),e+1)) (vs (wa e 1)<|ln (Ud g v2 f) (((((a-1)-b)-c)+3),e+1))) (Al (mw g v2) a)
def R0(b:Scm)(v2:Nat)(a:Msg):Int×Nat→Option (Lv (Int×Nat) (Int) (Bool)):=fun(c,d)=>(UH b v2 a c d).m
def VX(b:Scm)(v2:Nat)(a:Int):PT 0 (Lv (Int×Nat) (Int) (Bool)):=vs (wa v2 1)<|ln (mQ b) (a,v2+1)
def VD(d:Scm)(b:Int)(v2:Nat):PT 0 (Lv (Int×Nat) (Int) (Bool)):=vw .go<|ix d.messages v2 fun a=>vw .go<|vw .go<|cl (Jb a.notes b) fun c=>vs (wi (b-c))<|vw .go<|vz (Ah a.reserved)<|vs (wi ((b-c)-(a.reserved.length:Int)))<|vw .go<|cl (Ip a.gone b) fun e=>vs (wi (((b-c)-(a.reserved.length:Int))-e))<|vw .go<|cl (Ip ([a.name]:List ByteArray) b) fun g=>vs (wi ((((b-c)-(a.reserved.length:Int))-e)-g))<|lc (Ab [(1,.ptr (1,1) 0 0),(3,vI ((((b-c)-(a.reserved.length:Int))-e)-g)),(4,vN v2),(5,.ptr (1,5) 0 0),(6,vI 0)] [(BN d),(Ar a)]) ((Am (R0 d v2 a) Ai (((((b-c)-(a.reserved.length:Int))-e)-g),0)).bind (Sum.elim (fun f=>(VX d v2 f).m) (fun z=>some (.rt z))))
def Wy(a:Scm)(b:Int)(v2:Nat):PT 0 (Lv (Int×Nat) (Int) (Bool)):=vw .go<|vz (Ah a.messages)<|br (decide ((v2:Int)<(a.messages.length:Int))&&decide ((0:Int)≤b)) (lc (Ab [(1,.ptr (1,1) 0 0),(3,vI b),(4,vN v2)] [(BN a)]) ((VD a b v2).m)) (Al (nh a) b)
def Sj(a:Scm):Int×Nat→Option (Lv (Int×Nat) (Int) (Bool)):=fun(b,v2)=>(Wy a b v2).m
def ku(c:Scm):Int×Nat→St:=fun(a,b)=>Ab [(1,.ptr (1,1) 0 0),(3,vI a),(8,vN b)] [(BN c)]
def nB(b:Scm):Int→Nat×St:=fun a=>(4,Ab [(1,.ptr (1,1) 0 0),(3,vI a)] [(BN b)])
def kW(e:Scm)(b:Nat)(a:Enm):Int×Nat→St:=fun(c,d)=>Ab [(1,.ptr (1,1) 0 0),(3,vI c),(8,vN b),(9,.ptr (1,9) 0 0),(10,vN d)] [(BN e),(SU a)]
def kP(c:Scm)(a:Nat):Int→Nat×St:=fun b=>(6,Ab [(1,.ptr (1,1) 0 0),(3,vI b),(8,vN a)] [(BN c)])
def Wp(i:Scm)(e:Nat)(b:Enm)(a:Int)(c:Nat):PT 0 (Lv (Int×Nat) (Int) (Bool)):=vw .go<|vz (Ah b.items)<|br (decide ((c:Int)<(b.items.length:Int))&&decide ((0:Int)≤a)) (vw .go<|ix b.items c fun g=>cl (Jb g.notes a) fun d=>vs (wi (a-d))<|vw .go<|ix b.items c fun h=>cl (Ip ([h.name]:List ByteArray) a) fun f=>vs (wi ((a-d)-f))<|vs (wa c 1)<|ln (kW i e b) (((a-d)-f),c+1)) (Al (kP i e) a)
def Sn(e:Scm)(b:Nat)(a:Enm):Int×Nat→Option (Lv (Int×Nat) (Int) (Bool)):=fun(c,d)=>(Wp e b a c d).m
def T7(c:Scm)(a:Nat)(b:Int):PT 0 (Lv (Int×Nat) (Int) (Bool)):=vs (wa a 1)<|ln (ku c) (b,a+1)
def UL(f:Scm)(b:Int)(d:Nat):PT 0 (Lv (Int×Nat) (Int) (Bool)):=vw .go<|ix f.enums d fun a=>vw .go<|vw .go<|cl (Jb a.notes b) fun c=>vs (wi (b-c))<|vw .go<|vz (Ah a.reserved)<|vs (wi ((b-c)-(a.reserved.length:Int)))<|vw .go<|cl (Ip ([a.name]:List ByteArray) b) fun e=>vs (wi (((b-c)-(a.reserved.length:Int))-e))<|lc (Ab [(1,.ptr (1,1) 0 0),(3,vI (((b-c)-(a.reserved.length:Int))-e)),(8,vN d),(9,.ptr (1,9) 0 0),(10,vI 0)] [(BN f),(SU a)]) ((Am (Sn f d a) Ai ((((b-c)-(a.reserved.length:Int))-e),0)).bind (Sum.elim (fun g=>(T7 f d g).m) (fun z=>some (.rt z))))
def V5(c:Scm)(a:Int)(b:Nat):PT 0 (Lv (Int×Nat) (Int) (Bool)):=vw .go<|vz (Ah c.enums)<|br (decide ((b:Int)<(c.enums.length:Int))&&decide ((0:Int)≤a)) (lc (Ab [(1,.ptr (1,1) 0 0),(3,vI a),(8,vN b)] [(BN c)]) ((UL c a b).m)) (Al (nB c) a)
def RS(c:Scm):Int×Nat→Option (Lv (Int×Nat) (Int) (Bool)):=fun(a,b)=>(V5 c a b).m
def me(c:Scm):Int×Nat→St:=fun(a,b)=>Ab [(1,.ptr (1,1) 0 0),(3,vI a),(11,vN b)] [(BN c)]
def mm:Int→Nat×St:=fun a=>(8,Ab [(3,vI a)] [])
def lJ(e:Scm)(b:Nat)(a:Svc):Int×Nat→St:=fun(c,d)=>Ab [(1,.ptr (1,1) 0 0),(3,vI c),(11,vN b),(12,.ptr (1,12) 0 0),(13,vN d)] [(BN e),(ii a)]
def lI(c:Scm)(a:Nat):Int→Nat×St:=fun b=>(10,Ab [(1,.ptr (1,1) 0 0),(3,vI b),(11,vN a)] [(BN c)])
def Uu(k:Scm)(f:Nat)(b:Svc)(a:Int)(c:Nat):PT 0 (Lv (Int×Nat) (Int) (Bool)):=vw .go<|vz (Ah b.methods)<|br (decide ((c:Int)<(b.methods.length:Int))&&decide ((0:Int)≤a)) (vw .go<|ix b.methods c fun g=>cl (Jb g.notes a) fun d=>vs (wi (a-d))<|vw .go<|ix b.methods c fun h=>vw .go<|ix b.methods c fun i=>vw .go<|ix b.methods c fun j=>cl (Ip ([h.name,i.inn,j.out]:List ByteArray) a) fun e=>vs (wi ((a-d)-e))<|vs (wi (((a-d)-e)+2))<|vs (wa c 1)<|ln (lJ k f b) ((((a-d)-e)+2),c+1)) (Al (lI k f) a)
def Ss(e:Scm)(b:Nat)(a:Svc):Int×Nat→Option (Lv (Int×Nat) (Int) (Bool)):=fun(c,d)=>(Uu e b a c d).m
def fj(c:Scm)(a:Nat)(b:Int):PT 0 (Lv (Int×Nat) (Int) (Bool)):=vs (wa a 1)<|ln (me c) (b,a+1)
def bZ(f:Scm)(a:Int)(c:Nat):PT 0 (Lv (Int×Nat) (Int) (Bool)):=vw .go<|ix f.services c fun b=>vw .go<|vw .go<|cl (Jb b.notes a) fun d=>vs (wi (a-d))<|vw .go<|cl (Ip ([b.name]:List ByteArray) a) fun e=>vs (wi ((a-d)-e))<|lc (Ab [(1,.ptr (1,1) 0 0),(3,vI ((a-d)-e)),(11,vN c),(12,.ptr (1,12) 0 0),(13,vI 0)] [(BN f),(ii b)]) ((Am (Ss f c b) Ai (((a-d)-e),0)).bind (Sum.elim (fun g=>(fj f c g).m) (fun z=>some (.rt z))))
def dh(c:Scm)(a:Int)(b:Nat):PT 0 (Lv (Int×Nat) (Int) (Bool)):=vw .go<|vz (Ah c.services)<|br (decide ((b:Int)<(c.services.length:Int))&&decide ((0:Int)≤a)) (lc (Ab [(1,.ptr (1,1) 0 0),(3,vI a),(11,vN b)] [(BN c)]) ((bZ c a b).m)) (Al (mm) a)
def Sa(c:Scm):Int×Nat→Option (Lv (Int×Nat) (Int) (Bool)):=fun(a,b)=>(dh c a b).m
def fN(a:Int):PT 0 (Bool):=lr FM (fun _=>[]) (decide ((0:Int)≤a))
def dO(c:Scm)(a:Int):PT 0 (Bool):=lc (Ab [(1,.ptr (1,1) 0 0),(3,vI a),(11,vI 0)] [(BN c)]) ((Am (Sa c) Ai (a,0)).bind (Sum.elim (fun b=>(fN b).m) some))
def fw(b:Scm)(a:Int):PT 0 (Bool):=lc (Ab [(1,.ptr (1,1) 0 0),(3,vI a),(8,vI 0)] [(BN b)]) ((Am (RS b) Ai (a,0)).bind (Sum.elim (fun c=>(dO b c).m) some))
def gc(a:Scm):PT 0 (Bool):=lc (Ab [(1,.ptr (1,1) 0 0),(3,vI 400),(4,vI 0)] [(BN a)]) ((Am (Sj a) Ai (400,0)).bind (Sum.elim (fun b=>(fw a b).m) some))
def gM(a:Scm):PT 0 (Bool):=vw .go<|vz (Ah a.messages)<|vw .go<|vy (!(decide ((150:Int)<(a.messages.length:Int)))) (Ah a.enums)<|vw .go<|vy (!(decide ((150:Int)<(a.messages.length:Int))||decide ((150:Int)<(a.enums.length:Int)))) (Ah a.services)<|vw .go<|vy (!((decide ((150:Int)<(a.messages.length:Int))||decide ((150:Int)<(a.enums.length:Int)))||decide ((150:Int)<(a.services.length:Int)))) (Ah a.messages)<|vw .go<|vy (!((decide ((150:Int)<(a.messages.length:Int))||decide ((150:Int)<(a.enums.length:Int)))||decide ((150:Int)<(a.services.length:Int)))) (Ah a.enums)<|vg (!((decide ((150:Int)<(a.messages.length:Int))||decide ((150:Int)<(a.enums.length:Int)))||decide ((150:Int)<(a.services.length:Int)))) (wa a.messages.length a.enums.length)<|vw .go<|vy (!((decide ((150:Int)<(a.messages.length:Int))||decide ((150:Int)<(a.enums.length:Int)))||decide ((150:Int)<(a.services.length:Int)))) (Ah a.services)<|vg (!((decide ((150:Int)<(a.messages.length:Int))||decide ((150:Int)<(a.enums.length:Int)))||decide ((150:Int)<(a.services.length:Int)))) (wa (a.messages.length+a.enums.length) a.services.length)<|br (((decide ((150:Int)<(a.messages.length:Int))||decide ((150:Int)<(a.enums.length:Int)))||decide ((150:Int)<(a.services.length:Int)))||decide ((150:Int)<(((a.messages.length+a.enums.length)+a.services.length:Nat):Int))) (lr FM (fun _=>[]) false) (lc (Ab [(1,.ptr (1,1) 0 0),(3,vI 400)] [(BN a)]) ((gc a).m))
def X3(a:Scm):Option (Bool):=(gM a).m
theorem ZDs{C:Cx}(co:CO C 0)(a:Scm)(v2:Nat)(b:Msg):KL Tryz.prog (AG tl) 258 C (pa [0,0,1,1,1,0,0,1,0,0,1,0,1,1,1] (AD Tryz.f20)) [.tmp 2] 0 (Ud a v2 b) (mw a v2) FM (fun _=>[]) (R0 a v2 b):=fun(f,h) _ hm Q c e d=>AC co Aa Ad (UH a v2 b f h) (Ae [1,3,4,5,6] [((1,1),false),((1,5),false)]) (Ae [1,3,4] B3) e hm d fun r g=>⟨fun k=>fun i=>fun j=>⟨id,id⟩,id⟩
theorem ZFt{C:Cx}(co:CO C 0)(a:Scm):KL Tryz.prog (AG tl) 258 C (pa [0,0,1,0,1,1,1] (AD Tryz.f20)) [.tmp 2] 0 (mQ a) (nh a) FM (fun _=>[]) (Sj a):=fun(f,v2) _ hm Q e c b=>Ak co Aa Ad 1 (Wy a f v2) (Ae [1,3,4] B3) (Ae [1,3] B3) c hm b fun r g=>⟨fun _ hm b=>sq (bk 1 (Ak co Aa Ad 3 (VD a f v2) (Ae [1,3,4,5,6] [((1,1),false),((1,5),false)]) nl c hm b fun r g=>fun h=>fun i=>fun j=>fun k=>fun _ hm b=>bk 2 (lo (HA (ZDs co a v2 h) c hm b (fun d hm=>AC co Aa Ad (VX a v2 d) (Ae [1,3,4] B3) nl c hm b fun r g=>id))))),id⟩
theorem yP{C:Cx}(co:CO C 0)(c:Scm)(a:Nat)(b:Enm):KL Tryz.prog (AG tl) 258 C (pa [0,0,1,1,1,0,0,1,0,0,1,0,1,1,1,1] (AD Tryz.f20)) [.tmp 2] 0 (kW c a b) (kP c a) FM (fun _=>[]) (Sn c a b):=fun(d,e) _ hm Q f k j=>AC co Aa Ad (Wp c a b d e) (Ae [1,3,8,9,10] [((1,1),false),((1,9),false)]) (Ae [1,3,8] B3) k hm j fun r g=>⟨fun h=>fun l=>fun i=>fun m=>id,id⟩
theorem zZ{C:Cx}(co:CO C 0)(b:Scm):KL Tryz.prog (AG tl) 258 C (pa [0,0,1,0,1,1,1,1] (AD Tryz.f20)) [.tmp 2] 0 (ku b) (nB b) FM (fun _=>[]) (RS b):=fun(d,a) _ hm Q i e c=>Ak co Aa Ad 1 (V5 b d a) (Ae [1,3,8] B3) (Ae [1,3] B3) e hm c fun r g=>⟨fun _ hm c=>sq (bk 5 (Ak co Aa Ad 3 (UL b d a) (Ae [1,3,8,9,10] [((1,1),false),((1,9),false)]) nl e hm c fun r g=>fun f=>fun j=>fun k=>fun _ hm c=>bk 6 (lo (HA (yP co b a f) e hm c (fun h hm=>AC co Aa Ad (T7 b a h) (Ae [1,3,8] B3) nl e hm c fun r g=>id))))),id⟩
theorem zW{C:Cx}(co:CO C 0)(c:Scm)(a:Nat)(b:Svc):KL Tryz.prog (AG tl) 258 C (pa [0,0,1,1,1,0,0,1,0,0,1,0,1,1,1,1,1] (AD Tryz.f20)) [.tmp 2] 0 (lJ c a b) (lI c a) FM (fun _=>[]) (Ss c a b):=fun(d,e) _ hm Q f m l=>AC co Aa Ad (Uu c a b d e) (Ae [1,3,11,12,13] [((1,1),false),((1,12),false)]) (Ae [1,3,11] B3) m hm l fun r g=>⟨fun h=>fun n=>fun i=>fun j=>fun k=>fun o=>id,id⟩
theorem zI{C:Cx}(co:CO C 0)(c:Scm):KL Tryz.prog (AG tl) 258 C (pa [0,0,1,0,1,1,1,1,1] (AD Tryz.f20)) [.tmp 2] 0 (me c) (mm) FM (fun _=>[]) (Sa c):=fun(d,a) _ hm Q i e b=>Ak co Aa Ad 1 (dh c d a) (Ae [1,3,11] B3) (AQ [3]) e hm b fun r g=>⟨fun _ hm b=>sq (bk 9 (Ak co Aa Ad 3 (bZ c d a) (Ae [1,3,11,12,13] [((1,1),false),((1,12),false)]) nl e hm b fun r g=>fun f=>fun j=>fun k=>fun _ hm b=>bk 10 (lo (HA (zW co c a f) e hm b (fun h hm=>AC co Aa Ad (fj c a h) (Ae [1,3,11] B3) nl e hm b fun r g=>id))))),id⟩
theorem ZS2(b:Scm):KC Tryz.prog 20 [.agg ((AF b).map .d)] (X3 b) FM:=Av Tryz.func20 Tryz.ntmps20 Aa [.tmp 2] fun C co y hm f a=>Ak co Aa Ad 3 (gM b) (Ae [1,3] B3) nl (fun _ h=>h) hm a fun r g=>⟨id,fun _ hm a=>sq (Ak co Aa Ad 1 (gc b) (Ae [1,3,4] B3) nl (fun _ h=>h) hm a fun r g=>fun _ hm a=>bk 0 (lo (AL (ZFt co b) (fun _ h=>h) hm a (fun c hm=>sq (Ak co Aa Ad 1 (fw b c) (Ae [1,3,8] B3) nl (fun _ h=>h) hm a fun r g=>fun _ hm a=>bk 4 (lo (AL (zZ co b) (fun _ h=>h) hm a (fun d hm=>sq (Ak co Aa Ad 1 (dO b d) (Ae [1,3,11] B3) nl (fun _ h=>h) hm a fun r g=>fun _ hm a=>bk 8 (lo (AL (zI co b) (fun _ h=>h) hm a (fun e hm=>Ao co Aa Ad (fN e) hm a fun r g=>id))))))))))))⟩
abbrev Hy:List (Ac×Bool):=[((1,2),false),((1,5),true)]
abbrev DS:List (Ac×Bool):=[((1,2),false)]
abbrev FH(a:Scm):Ac×Blk:=((1,2),⟨0,true,26,3,[vL AA a.messages,vL AO a.enums,vL AU a.services]⟩)
abbrev KU:List ByteArray→AV:=fun y=>vL AB y
def nv(b:Scm)(c:Int):List ByteArray×Nat→St:=fun(a,v2)=>Ab [(1,vI c),(2,.ptr (1,2) 0 0),(5,.ref (1,5) 0 0 a.length),(6,vN v2)] [(FH b),((1,5),⟨0,true,9,1,Af AB a⟩)]
def kk(b:Scm)(c:Int):List ByteArray→Nat×St:=fun a=>(0,Ab [(1,vI c),(2,.ptr (1,2) 0 0),(5,.ref (1,5) 0 0 a.length)] [(FH b),((1,5),⟨0,true,9,1,Af AB a⟩)])
def Uq(a:Scm)(c:Int)(b:List ByteArray)(v2:Nat):PT 0 (Lv (List ByteArray×Nat) (List ByteArray) (List ByteArray)):=vw .go<|vy (decide (c=(1:Int))) (Ah a.messages)<|br (decide (c=(1:Int))&&decide ((v2:Int)<(a.messages.length:Int))) (vw .go<|ix a.messages v2 fun d=>vw .sep<|ap b (d.name:ByteArray)<|vs (wa v2 1)<|vz (fl (b++[d.name]))<|ln (nv a c) (b++[d.name],v2+1)) (vz (fl b)<|Al (kk a c) b)
def RX(a:Scm)(b:Int):List ByteArray×Nat→Option (Lv (List ByteArray×Nat) (List ByteArray) (List ByteArray)):=fun(c,v2)=>(Uq a b c v2).m
def mF(b:Scm)(c:Int):List ByteArray×Nat→St:=fun(a,d)=>Ab [(1,vI c),(2,.ptr (1,2) 0 0),(5,.ref (1,5) 0 0 a.length),(7,vN d)] [(FH b),((1,5),⟨0,true,9,1,Af AB a⟩)]
def ke(b:Scm)(c:Int):List ByteArray→Nat×St:=fun a=>(2,Ab [(1,vI c),(2,.ptr (1,2) 0 0),(5,.ref (1,5) 0 0 a.length)] [(FH b),((1,5),⟨0,true,9,1,Af AB a⟩)])
def US(a:Scm)(c:Int)(b:List ByteArray)(d:Nat):PT 0 (Lv (List ByteArray×Nat) (List ByteArray) (List ByteArray)):=vw .go<|vy (decide (c=(2:Int))) (Ah a.enums)<|br (decide (c=(2:Int))&&decide ((d:Int)<(a.enums.length:Int))) (vw .go<|ix a.enums d fun e=>vw .sep<|ap b (e.name:ByteArray)<|vs (wa d 1)<|vz (fl (b++[e.name]))<|ln (mF a c) (b++[e.name],d+1)) (vz (fl b)<|Al (ke a c) b)
def Sm(a:Scm)(b:Int):List ByteArray×Nat→Option (Lv (List ByteArray×Nat) (List ByteArray) (List ByteArray)):=fun(c,d)=>(US a b c d).m
def nY(c:Scm)(d:Int):List ByteArray×Nat→St:=fun(b,a)=>Ab [(1,vI d),(2,.ptr (1,2) 0 0),(5,.ref (1,5) 0 0 b.length),(8,vN a)] [(FH c),((1,5),⟨0,true,9,1,Af AB b⟩)]
def kK:List ByteArray→Nat×St:=fun a=>(4,Ab [(5,.ref (1,5) 0 0 a.length)] [((1,5),⟨0,true,9,1,Af AB a⟩)])
def WE(d:Scm)(e:Int)(c:List ByteArray)(a:Nat):PT 0 (Lv (List ByteArray×Nat) (List ByteArray) (List ByteArray)):=vw .go<|vy (decide (e=(3:Int))) (Ah d.services)<|br (decide (e=(3:Int))&&decide ((a:Int)<(d.services.length:Int))) (vw .go<|ix d.services a fun b=>vw .sep<|ap c (b.name:ByteArray)<|vs (wa a 1)<|vz (fl (c++[b.name]))<|ln (nY d e) (c++[b.name],a+1)) (vz (fl c)<|Al (kK) c)
def RY(b:Scm)(c:Int):List ByteArray×Nat→Option (Lv (List ByteArray×Nat) (List ByteArray) (List ByteArray)):=fun(d,a)=>(WE b c d a).m
def WG(a:List ByteArray):PT 0 (List ByteArray):=vz (fr a)<|lr KU (fun _=>[]) a
def Wh(c:Scm)(d:Int)(a:List ByteArray):PT 0 (List ByteArray):=vz (fl a)<|lc (Ab [(1,vI d),(2,.ptr (1,2) 0 0),(5,.ref (1,5) 0 0 a.length),(8,vI 0)] [(FH c),((1,5),⟨0,true,9,1,Af AB a⟩)]) ((Am (RY c d) Ai (a,0)).bind (Sum.elim (fun b=>(WG b).m) some))
def Uf(b:Scm)(c:Int)(a:List ByteArray):PT 0 (List ByteArray):=vz (fl a)<|lc (Ab [(1,vI c),(2,.ptr (1,2) 0 0),(5,.ref (1,5) 0 0 a.length),(7,vI 0)] [(FH b),((1,5),⟨0,true,9,1,Af AB a⟩)]) ((Am (Sm b c) Ai (a,0)).bind (Sum.elim (fun d=>(Wh b c d).m) some))
def UZ(a:Scm)(b:Int):PT 0 (List ByteArray):=vw (.ads 5 5 9 1)<|vz (fl ([]:List ByteArray))<|lc (Ab [(1,vI b),(2,.ptr (1,2) 0 0),(5,.ref (1,5) 0 0 ([]:List ByteArray).length),(6,vI 0)] [(FH a),((1,5),⟨0,true,9,1,Af AB ([]:List ByteArray)⟩)]) ((Am (RX a b) Ai (([]:List ByteArray),0)).bind (Sum.elim (fun c=>(Uf a b c).m) some))
def UY(a:Scm)(b:Int):PT 0 (List ByteArray):=lc (Ab [(1,vI b),(2,.ptr (1,2) 0 0),(5,.e0),(6,vI 0)] [(FH a)]) ((UZ a b).m)
def V4(a:Scm)(b:Int):PT 0 (List ByteArray):=lc (Ab [(1,vI b),(2,.ptr (1,2) 0 0),(5,.e0)] [(FH a)]) ((UY a b).m)
def X2(a:Scm)(b:Int):Option (List ByteArray):=(V4 a b).m
theorem ZDY{C:Cx}(co:CO C 0)(a:Scm)(b:Int):KL Tryz.prog (AG tl) 70 C (pa [0,0,1,0,1,1] (AD Tryz.f79)) [.tmp 4] 0 (nv a b) (kk a b) KU (fun _=>[]) (RX a b):=fun(f,v2) _ hm Q c e d=>AC co Aa Ad (Uq a b f v2) (Ae [1,2,5,6] Hy) (Ae [1,2,5] Hy) e hm d fun r g=>⟨fun h=>id,id⟩
theorem ZEf{C:Cx}(co:CO C 0)(a:Scm)(b:Int):KL Tryz.prog (AG tl) 70 C (pa [0,0,1,0,1,1,1] (AD Tryz.f79)) [.tmp 4] 0 (mF a b) (ke a b) KU (fun _=>[]) (Sm a b):=fun(f,h) _ hm Q c e d=>AC co Aa Ad (US a b f h) (Ae [1,2,5,7] Hy) (Ae [1,2,5] Hy) e hm d fun r g=>⟨fun i=>id,id⟩
theorem yN{C:Cx}(co:CO C 0)(a:Scm)(b:Int):KL Tryz.prog (AG tl) 70 C (pa [0,0,1,0,1,1,1,1] (AD Tryz.f79)) [.tmp 4] 0 (nY a b) (kK) KU (fun _=>[]) (RY a b):=fun(i,c) _ hm Q d h f=>AC co Aa Ad (WE a b i c) (Ae [1,2,5,8] Hy) (Ae [5] [((1,5),true)]) h hm f fun r g=>⟨fun e=>id,id⟩
theorem Oz(b:Scm)(c:Int):KC Tryz.prog 79 [.agg ((AF b).map .d),vI c] (X2 b c) KU:=Av Tryz.func79 Tryz.ntmps79 Aa [.tmp 4] fun C co y hm e a=>Ak co Aa Ad 2 (V4 b c) (Ae [1,2,5] DS) nl (fun _ h=>h) hm a fun r g=>fun _ hm a=>sq (Ak co Aa Ad 1 (UY b c) (Ae [1,2,5,6] DS) nl (fun _ h=>h) hm a fun r g=>fun _ hm a=>bk 0 (Hn co (UZ b c) (Ae [1,2,5,6] Hy) hm a fun r g=>fun _ hm a=>lo (AL (ZDY co b c) (fun _ h=>h) hm a (fun f hm=>sq (Ak co Aa Ad 1 (Uf b c f) (Ae [1,2,5,7] Hy) nl (fun _ h=>h) hm a fun r g=>fun _ hm a=>bk 2 (lo (AL (ZEf co b c) (fun _ h=>h) hm a (fun i hm=>sq (Ak co Aa Ad 1 (Wh b c i) (Ae [1,2,5,8] Hy) nl (fun _ h=>h) hm a fun r g=>fun _ hm a=>bk 4 (lo (AL (yN co b c) (fun _ h=>h) hm a (fun d hm=>Ao co Aa Ad (WG d) hm a fun r g=>id))))))))))))
abbrev D8:List (Ac×Bool):=[((0,0),false),((0,1),true)]
abbrev CD(e:ByteArray)(z:List Prb):List (Ac×Blk):=[((0,0),⟨0,true,137,2,[vS e,.ref (0,1) 0 0 z.length]⟩),((0,1),⟨0,true,182,3,Af Aw z⟩)]
abbrev Ta:List Prb→AV:=fun y=>.tup []
@[reducible] def Tg(a:ByteArray):List Prb→List Blk:=fun y=>[⟨0,true,137,2,[vS a,.ref (0,1) 0 0 y.length]⟩,⟨0,true,182,3,Af Aw y⟩]
def WL(a:ByteArray)(b:List Prb)(c:Int)(d:Int):PT 2 (List Prb):=lr Ta (Tg a) (b++([(.mk a c d:Prb)]))
def VH(a:ByteArray)(b:List Prb)(c:Int)(d:Int):PT 2 (List Prb):=vw .go<|vw .go<|vw .sep<|ap b ((.mk a c d:Prb):Prb)<|Gx 1 (Af Aw [(.mk a c d:Prb)]) (fun _=>tJ _)<|vw .go<|vwl 0 [.ref (0,1) 1 0 (b++([(.mk a c d:Prb)])).length]<|vz (fl (b++([(.mk a c d:Prb)])))<|lc (Ab [] (CD a (b++([(.mk a c d:Prb)])))) ((WL a b c d).m)
def UE(a:ByteArray)(b:List Prb):PT 2 (List Prb):=lr Ta (Tg a) b
def Va(a:ByteArray)(b:List Prb)(c:Bool)(d:Int)(e:Int):PT 2 (List Prb):=vz (fl b)<|lc (Ab [(0,.ptr (0,0) 0 0),(2,vI d),(3,vI e),(8,vB c)] (CD a b)) (if c=true then(VH a b d e).m else(UE a b).m)
def Bo(a:ByteArray)(b:List Prb)(c:Bool)(d:Int)(e:Int):Option (List Prb):=(Va a b c d e).m
theorem BB(a:ByteArray)(b:List Prb)(f:Bool)(d:Int)(e:Int):KG Tryz.prog 80 2 [1] [(1,0)] [.ptr (0,0) 0 0,vB f,vI d,vI e] [⟨0,true,137,2,[vS a,.ref (0,1) 0 0 b.length]⟩,⟨0,true,182,3,Af Aw b⟩] (Bo a b f d e) Ta (Tg a):=is Tryz.func80 Tryz.ntmps80 Aa [] 2 [1] [0] [(1,0)] (fun C co i y hm j c=>Ak co Aa Ad 1 (Va a b f d e) (Ae [0,2,3,8] D8) nl (fun _ h=>h) hm c fun r g=>fun _ hm c=>cd f hm (fun hm=>Fu co Aa Ad (.fst 0 (.fst 1 (.fst 2 (.fst 3 (.fst 5 (.fst 6 (.fst 7 (.fst 9 (.fst 10 (.fst 4 (.fst 8 (.fst 11 (.fst 12 (.fst 13 (.fst 14 (.fst 15 (.fst 16 .nil))))))))))))))))) [] (VH a b d e) (Ae [] D8) hm c fun r g=>⟨ZHl g i,fun _ hm c=>W7 (WL a b d e) co hm c (fun r g=>id) r g⟩) (fun hm=>Ao co Aa Ad (UE a b) hm c fun r g=>id))
abbrev Nn:Bool→AV:=fun y=>vB y
def oI(a:List ByteArray):Nat→St:=fun b=>Ab [(0,vL AB a),(3,vN b)] []
def kN:Unit→Nat×St:=fun _=>(0,Ab [] [])
def T3(b:List ByteArray)(a:Nat):PT 0 (Lv (Nat) (Unit) (Bool)):=vz (Ah b)<|br (decide ((a:Int)<(b.length:Int))) (ix b a fun c=>vs (wi ((a:Int)-1))<|CL b ((a:Int)-1) fun d=>br (Bl c d||decide (c=d)) (Ay Nn (fun _=>[]) false) (vs (wa a 1)<|ln (oI b) (a+1))) (Al (kN) ())
def RD(a:List ByteArray):Nat→Option (Lv (Nat) (Unit) (Bool)):=fun b=>(T3 a b).m
def Wi:PT 0 (Bool):=lr Nn (fun _=>[]) true
def UR(a:List ByteArray):PT 0 (Bool):=lc (Ab [(0,vL AB a),(3,vI 1)] []) ((Am (RD a) Ai 1).bind (Sum.elim (fun _=>(Wi).m) some))
def T0(a:List ByteArray):PT 0 (Bool):=lc (Ab [(0,vL AB a)] []) ((UR a).m)
def X9(a:List ByteArray):Option (Bool):=(T0 a).m
theorem ZDl{C:Cx}(co:CO C 0)(a:List ByteArray):KL Tryz.prog (AG tl) 20 C (pa [0,0,1,0,1] (AD Tryz.f81)) [.tmp 2] 0 (oI a) (kN) Nn (fun _=>[]) (RD a):=fun e _ hm Q b d c=>AC co Aa Ad (T3 a e) (AQ [0,3]) nl d hm c fun r g=>⟨fun f=>fun h=>⟨id,id⟩,id⟩
theorem ZRQ(b:List ByteArray):KC Tryz.prog 81 [vL AB b] (X9 b) Nn:=Av Tryz.func81 Tryz.ntmps81 Aa [.tmp 2] fun C co y hm c a=>Ak co Aa Ad 1 (T0 b) (AQ [0]) nl (fun _ h=>h) hm a fun r g=>fun _ hm a=>sq (Ak co Aa Ad 1 (UR b) (AQ [0,3]) nl (fun _ h=>h) hm a fun r g=>fun _ hm a=>bk 0 (lo (AL (ZDl co b) (fun _ h=>h) hm a (fun _ hm=>Ao co Aa Ad (Wi) hm a fun r g=>id))))
abbrev OD:Bool→AV:=fun y=>vB y
def wt(a:List ByteArray)(b:ByteArray):Nat→St:=fun c=>Ab [(0,vL AB a),(1,vS b),(5,vN c)] []
def wT:Unit→Nat×St:=fun _=>(0,Ab [] [])
def Qr(a:List ByteArray)(c:ByteArray)(b:Nat):PT 0 (Lv (Nat) (Unit) (Bool)):=vz (Ah a)<|br (decide ((b:Int)<(a.length:Int))) (ix a b fun d=>br (decide (d=c)) (Ay OD (fun _=>[]) true) (vs (wa b 1)<|ln (wt a c) (b+1))) (Al (wT) ())
def J0(a:List ByteArray)(b:ByteArray):Nat→Option (Lv (Nat) (Unit) (Bool)):=fun c=>(Qr a b c).m
def QS:PT 0 (Bool):=lr OD (fun _=>[]) false
def QX(a:List ByteArray)(b:ByteArray):PT 0 (Bool):=lc (Ab [(0,vL AB a),(1,vS b),(5,vI 0)] []) ((Am (J0 a b) Ai 0).bind (Sum.elim (fun _=>(QS).m) some))
def QN(a:List ByteArray)(b:ByteArray):PT 0 (Bool):=lc (Ab [(0,vL AB a),(1,vS b)] []) ((QX a b).m)
def LQ(a:List ByteArray)(b:ByteArray):Option (Bool):=(QN a b).m
theorem Zu3{C:Cx}(co:CO C 0)(a:List ByteArray)(b:ByteArray):KL Tryz.prog (AG tl) 18 C (pa [0,0,1,0,1] (AD Tryz.f124)) [.tmp 4] 0 (wt a b) (wT) OD (fun _=>[]) (J0 a b):=fun f _ hm Q c e d=>AC co Aa Ad (Qr a b f) (AQ [0,1,5]) nl e hm d fun r g=>⟨fun h=>⟨id,id⟩,id⟩
theorem kH(b:List ByteArray)(c:ByteArray):KC Tryz.prog 124 [vL AB b,vS c] (LQ b c) OD:=Av Tryz.func124 Tryz.ntmps124 Aa [.tmp 4] fun C co y hm d a=>Ak co Aa Ad 1 (QN b c) (AQ [0,1]) nl (fun _ h=>h) hm a fun r g=>fun _ hm a=>sq (Ak co Aa Ad 1 (QX b c) (AQ [0,1,5]) nl (fun _ h=>h) hm a fun r g=>fun _ hm a=>bk 0 (lo (AL (Zu3 co b c) (fun _ h=>h) hm a (fun _ hm=>Ao co Aa Ad (QS) hm a fun r g=>id))))
abbrev Np:Bool→AV:=fun y=>vB y
def lW(a:List ByteArray)(b:List ByteArray):Nat→St:=fun c=>Ab [(0,vL AB a),(1,vL AB b),(5,vN c)] []
def lx:Unit→Nat×St:=fun _=>(0,Ab [] [])
def Wd(a:List ByteArray)(c:List ByteArray)(b:Nat):PT 0 (Lv (Nat) (Unit) (Bool)):=vz (Ah a)<|br (decide ((b:Int)<(a.length:Int))) (ix a b fun d=>cl (kH c d) fun e=>br e (Ay Np (fun _=>[]) true) (vs (wa b 1)<|ln (lW a c) (b+1))) (Al (lx) ())
def SF(a:List ByteArray)(b:List ByteArray):Nat→Option (Lv (Nat) (Unit) (Bool)):=fun c=>(Wd a b c).m
def VM:PT 0 (Bool):=lr Np (fun _=>[]) false
def VU(a:List ByteArray)(b:List ByteArray):PT 0 (Bool):=lc (Ab [(0,vL AB a),(1,vL AB b),(5,vI 0)] []) ((Am (SF a b) Ai 0).bind (Sum.elim (fun _=>(VM).m) some))
def Vz(a:List ByteArray)(b:List ByteArray):PT 0 (Bool):=lc (Ab [(0,vL AB a),(1,vL AB b)] []) ((VU a b).m)
def Zu(a:List ByteArray)(b:List ByteArray):Option (Bool):=(Vz a b).m
theorem zG{C:Cx}(co:CO C 0)(a:List ByteArray)(b:List ByteArray):KL Tryz.prog (AG tl) 18 C (pa [0,0,1,0,1] (AD Tryz.f82)) [.tmp 4] 0 (lW a b) (lx) Np (fun _=>[]) (SF a b):=fun f _ hm Q c e d=>AC co Aa Ad (Wd a b f) (AQ [0,1,5]) nl e hm d fun r g=>⟨fun h=>fun i=>⟨id,id⟩,id⟩
theorem W4(b:List ByteArray)(c:List ByteArray):KC Tryz.prog 82 [vL AB b,vL AB c] (Zu b c) Np:=Av Tryz.func82 Tryz.ntmps82 Aa [.tmp 4] fun C co y hm d a=>Ak co Aa Ad 1 (Vz b c) (AQ [0,1]) nl (fun _ h=>h) hm a fun r g=>fun _ hm a=>sq (Ak co Aa Ad 1 (VU b c) (AQ [0,1,5]) nl (fun _ h=>h) hm a fun r g=>fun _ hm a=>bk 0 (lo (AL (zG co b c) (fun _ h=>h) hm a (fun _ hm=>Ao co Aa Ad (VM) hm a fun r g=>id))))
abbrev ij(a:Scm):Ac×Blk:=((1,2),⟨0,true,26,3,[vL AA a.messages,vL AO a.enums,vL AU a.services]⟩)
abbrev Oq:Int→AV:=fun y=>vI y
def w7(a:Scm)(b:ByteArray):Nat→St:=fun c=>Ab [(1,vS b),(2,.ptr (1,2) 0 0),(5,vN c)] [(ij a)]
def w8:Unit→Nat×St:=fun _=>(0,Ab [] [])
def fG(b:Scm)(c:ByteArray)(a:Nat):PT 0 (Lv (Nat) (Unit) (Int)):=vw .go<|vz (Ah b.messages)<|br (decide ((a:Int)<(b.messages.length:Int))) (vw .go<|ix b.messages a fun d=>br (decide (d.name=c)) (Ay Oq (fun _=>[]) (a:Int)) (vs (wa a 1)<|ln (w7 b c) (a+1))) (Al (w8) ())
def QU(a:Scm)(b:ByteArray):Nat→Option (Lv (Nat) (Unit) (Int)):=fun c=>(fG a b c).m
def hJ:PT 0 (Int):=lr Oq (fun _=>[]) (-1)
def eU(a:Scm)(b:ByteArray):PT 0 (Int):=lc (Ab [(1,vS b),(2,.ptr (1,2) 0 0),(5,vI 0)] [(ij a)]) ((Am (QU a b) Ai 0).bind (Sum.elim (fun _=>(hJ).m) some))
def cq(a:Scm)(b:ByteArray):PT 0 (Int):=lc (Ab [(1,vS b),(2,.ptr (1,2) 0 0)] [(ij a)]) ((eU a b).m)
def X8(a:Scm)(b:ByteArray):Option (Int):=(cq a b).m
theorem Zvn{C:Cx}(co:CO C 0)(a:Scm)(b:ByteArray):KL Tryz.prog (AG tl) 22 C (pa [0,0,1,0,1] (AD Tryz.f136)) [.tmp 4] 0 (w7 a b) (w8) Oq (fun _=>[]) (QU a b):=fun f _ hm Q c e d=>AC co Aa Ad (fG a b f) (Ae [1,2,5] DS) nl e hm d fun r g=>⟨fun h=>⟨id,id⟩,id⟩
theorem M1(b:Scm)(c:ByteArray):KC Tryz.prog 136 [.agg ((AF b).map .d),vS c] (X8 b c) Oq:=Av Tryz.func136 Tryz.ntmps136 Aa [.tmp 4] fun C co y hm d a=>Ak co Aa Ad 1 (cq b c) (Ae [1,2] DS) nl (fun _ h=>h) hm a fun r g=>fun _ hm a=>sq (Ak co Aa Ad 1 (eU b c) (Ae [1,2,5] DS) nl (fun _ h=>h) hm a fun r g=>fun _ hm a=>bk 0 (lo (AL (Zvn co b c) (fun _ h=>h) hm a (fun _ hm=>Ao co Aa Ad (hJ) hm a fun r g=>id))))
abbrev im(a:Scm):Ac×Blk:=((1,3),⟨0,true,26,3,[vL AA a.messages,vL AO a.enums,vL AU a.services]⟩)
abbrev io(a:Msg):Ac×Blk:=((1,4),⟨0,true,49,5,[vS a.name,vL Ap a.fields,vL AY a.reserved,vL AB a.gone,vL AJ a.notes]⟩)
abbrev Ot:Bool→AV:=fun y=>vB y
def dN(a:Scm)(b:Msg)(c:List Bool):Nat→St:=fun d=>Ab [(2,vL AP c),(3,.ptr (1,3) 0 0),(4,.ptr (1,4) 0 0),(7,vN d)] [(im a),(io b)]
def xE:Unit→Nat×St:=fun _=>(0,Ab [] [])
def cZ(d:Scm)(b:Msg)(e:List Bool)(a:Nat):PT 0 (Lv (Nat) (Unit) (Bool)):=vw .go<|vz (Ah b.fields)<|br (decide ((a:Int)<(b.fields.length:Int))) (vw .go<|ix b.fields a fun c=>vw .go<|vw .go<|vw .go<|br ((!decide (c.card=(1:Int)))||(!decide (c.type.kind=(10:Int)))) (vs (wa a 1)<|ln (dN d b e) (a+1)) (vw .go<|vw .go<|cl (M1 d c.type.name) fun f=>A8 (decide ((0:Int)≤f)) e f fun g=>br (decide ((0:Int)≤f)&&(!g)) (Ay Ot (fun _=>[]) true) (vs (wa a 1)<|ln (dN d b e) (a+1)))) (Al (xE) ())
def QC(a:Scm)(b:Msg)(c:List Bool):Nat→Option (Lv (Nat) (Unit) (Bool)):=fun d=>(cZ a b c d).m
def ec:PT 0 (Bool):=lr Ot (fun _=>[]) false
def ct(a:Scm)(b:Msg)(c:List Bool):PT 0 (Bool):=lc (Ab [(2,vL AP c),(3,.ptr (1,3) 0 0),(4,.ptr (1,4) 0 0),(7,vI 0)] [(im a),(io b)]) ((Am (QC a b c) Ai 0).bind (Sum.elim (fun _=>(ec).m) some))
def ci(a:Scm)(b:Msg)(c:List Bool):PT 0 (Bool):=lc (Ab [(2,vL AP c),(3,.ptr (1,3) 0 0),(4,.ptr (1,4) 0 0)] [(im a),(io b)]) ((ct a b c).m)
def X1(a:Scm)(b:Msg)(c:List Bool):Option (Bool):=(ci a b c).m
theorem Zwx{C:Cx}(co:CO C 0)(a:Scm)(b:Msg)(c:List Bool):KL Tryz.prog (AG tl) 45 C (pa [0,0,1,0,1] (AD Tryz.f125)) [.tmp 6] 0 (dN a b c) (xE) Ot (fun _=>[]) (QC a b c):=fun h _ hm Q d f e=>AC co Aa Ad (cZ a b c h) (Ae [2,3,4,7] [((1,3),false),((1,4),false)]) nl f hm e fun r g=>⟨fun i=>⟨id,fun k=>fun j=>⟨id,id⟩⟩,id⟩
theorem ZNC(b:Scm)(c:Msg)(d:List Bool):KC Tryz.prog 125 [.agg ((AF b).map .d),.agg ((AA c).map .d),vL AP d] (X1 b c d) Ot:=Av Tryz.func125 Tryz.ntmps125 Aa [.tmp 6] fun C co y hm e a=>Ak co Aa Ad 1 (ci b c d) (Ae [2,3,4] [((1,3),false),((1,4),false)]) nl (fun _ h=>h) hm a fun r g=>fun _ hm a=>sq (Ak co Aa Ad 1 (ct b c d) (Ae [2,3,4,7] [((1,3),false),((1,4),false)]) nl (fun _ h=>h) hm a fun r g=>fun _ hm a=>bk 0 (lo (AL (Zwx co b c d) (fun _ h=>h) hm a (fun _ hm=>Ao co Aa Ad (ec) hm a fun r g=>id))))
abbrev iq:List (Ac×Bool):=[((0,0),true),((1,3),false),((1,4),false)]
abbrev CX:List (Ac×Bool):=[((0,0),true)]
abbrev ip(a:Scm):Ac×Blk:=((1,3),⟨0,true,26,3,[vL AA a.messages,vL AO a.enums,vL AU a.services]⟩)
abbrev W2(a:Msg):Ac×Blk:=((1,4),⟨0,true,49,5,[vS a.name,vL Ap a.fields,vL AY a.reserved,vL AB a.gone,vL AJ a.notes]⟩)
abbrev Qv:Bool→AV:=fun y=>vB y
@[reducible] def QB(a:List Bool):Bool→List Blk:=fun y=>[⟨0,true,4,1,Af AP a⟩]
def aT(b:Scm)(c:Msg)(a:List Bool):Nat→St:=fun d=>Ab [(2,.ref (0,0) 0 0 a.length),(3,.ptr (1,3) 0 0),(4,.ptr (1,4) 0 0),(7,vN d)] [((0,0),⟨0,true,4,1,Af AP a⟩),(ip b),(W2 c)]
def uc(a:List Bool):Unit→Nat×St:=fun _=>(0,Ab [] [((0,0),⟨0,true,4,1,Af AP a⟩)])
def aM(f:Scm)(c:Msg)(a:List Bool)(b:Nat):PT 1 (Lv (Nat) (Unit) (Bool)):=vw .go<|vz (Ah c.fields)<|br (decide ((b:Int)<(c.fields.length:Int))) (vw .go<|ix c.fields b fun e=>vw .go<|vw .go<|vw .go<|br ((!decide (e.card=(1:Int)))||(!decide (e.type.kind=(10:Int)))) (vs (wa b 1)<|vz (fl a)<|ln (aT f c a) (b+1)) (vw .go<|vw .go<|cl (M1 f e.type.name) fun d=>vg (decide ((0:Int)≤d)) (DR d a.length 1)<|xR (decide ((0:Int)≤d)) a d.toNat fun g=>br (decide ((0:Int)≤d)&&(!g)) (Ay Qv (QB a) true) (vs (wa b 1)<|vz (fl a)<|ln (aT f c a) (b+1)))) (vz (fl a)<|Al (uc a) ())
def PY(a:Scm)(b:Msg)(c:List Bool):Nat→Option (Lv (Nat) (Unit) (Bool)):=fun d=>(aM a b c d).m
def aY(a:List Bool):PT 1 (Bool):=lr Qv (QB a) false
def aW(b:Scm)(c:Msg)(a:List Bool):PT 1 (Bool):=vz (fl a)<|lc (Ab [(2,.ref (0,0) 0 0 a.length),(3,.ptr (1,3) 0 0),(4,.ptr (1,4) 0 0),(7,vI 0)] [((0,0),⟨0,true,4,1,Af AP a⟩),(ip b),(W2 c)]) ((Am (PY b c a) Ai 0).bind (Sum.elim (fun _=>(aY a).m) some))
def bb(b:Scm)(c:Msg)(a:List Bool):PT 1 (Bool):=vz (fl a)<|lc (Ab [(2,.ref (0,0) 0 0 a.length),(3,.ptr (1,3) 0 0),(4,.ptr (1,4) 0 0)] [((0,0),⟨0,true,4,1,Af AP a⟩),(ip b),(W2 c)]) ((aW b c a).m)
def Pi(a:Scm)(b:Msg)(c:List Bool):Option (Bool):=(bb a b c).m
theorem Zov{C:Cx}(co:CO C 1)(b:Scm)(c:Msg)(a:List Bool):KL Tryz.prog (AG tl) 45 C (pa [0,0,1,0,1] (AD Tryz.f125)) [.tmp 6] 1 (aT b c a) (uc a) Qv (QB a) (PY b c a):=fun h _ hm Q d f e=>AC co Aa Ad (aM b c a h) (Ae [2,3,4,7] iq) (Ae [] CX) f hm e fun r g=>⟨fun i=>⟨id,fun k=>fun j=>⟨id,id⟩⟩,id⟩
theorem ZEE(c:Scm)(d:Msg)(a:List Bool):KO Tryz.prog 125 1 [.agg ((AF c).map .d),.agg ((AA d).map .d),.ref (0,0) 0 0 a.length] [⟨0,true,4,1,Af AP a⟩] (fun _ _ _ _=>True) (Pi c d a) Qv (QB a):=BG Tryz.func125 Tryz.ntmps125 Aa [.tmp 6] 1 (fun C co f y hm e b=>Ak co Aa Ad 1 (bb c d a) (Ae [2,3,4] iq) nl (fun _ h=>h) hm b fun r g=>fun _ hm b=>sq (Ak co Aa Ad 1 (aW c d a) (Ae [2,3,4,7] iq) nl (fun _ h=>h) hm b fun r g=>fun _ hm b=>bk 0 (lo (AL (Zov co c d a) (fun _ h=>h) hm b (fun _ hm=>Ao co Aa Ad (aY a) hm b fun r g=>id))))) (hB:=fun y=>⟨.inl (A1 _ _),rfl,trivial⟩)
abbrev IJ:List (Ac×Bool):=[((1,1),false),((1,10),true)]
abbrev Ie(a:Scm):Ac×Blk:=((1,1),⟨0,true,26,3,[vL AA a.messages,vL AO a.enums,vL AU a.services]⟩)
abbrev Nq:List Bool→AV:=fun y=>vL AP y
def nq(b:Scm):Bool×Nat×List Bool→St:=fun(c,v2,a)=>Ab [(1,.ptr (1,1) 0 0),(3,.ref (1,10) 0 0 a.length),(4,vB c),(5,vN v2)] [(Ie b),((1,10),⟨0,true,4,1,Af AP a⟩)]
def ns:List Bool→Nat×St:=fun a=>(0,Ab [(3,.ref (1,10) 0 0 a.length)] [((1,10),⟨0,true,4,1,Af AP a⟩)])
def Wx(b:Scm)(v2:Nat):Bool×Nat×List Bool→St:=fun(v4,v5,a)=>Ab [(1,.ptr (1,1) 0 0),(3,.ref (1,10) 0 0 a.length),(4,vB v4),(5,vN v2),(6,vN v5)] [(Ie b),((1,10),⟨0,true,4,1,Af AP a⟩)]
def oN(c:Scm)(v2:Nat):Bool×List Bool→Nat×St:=fun(b,a)=>(2,Ab [(1,.ptr (1,1) 0 0),(3,.ref (1,10) 0 0 a.length),(4,vB b),(5,vN v2)] [(Ie c),((1,10),⟨0,true,4,1,Af AP a⟩)])
def VT(b:Scm)(v2:Nat)(v4:Bool)(v5:Nat)(a:List Bool):PT 0 (Lv (Bool×Nat×List Bool) (Bool×List Bool) (List Bool)):=vw .go<|vz (Ah b.messages)<|br (decide ((v5:Int)<(b.messages.length:Int))) (vs (ir v5 a.length 1)<|ca a v5 fun c=>vw .go<|vw .go<|A8 (!c) b.messages (v5:Int) fun d=>Hv (!c) Tryz.prog 125 [.agg ((AF b).map .d),.agg ((AA d).map .d),.ref (1,10) 0 0 a.length] [(1,10)] [((1,10),⟨0,true,4,1,Af AP a⟩)] (Pi b d a) (fun y=>vB y) fun e=>br ((!c)&&(!e)) (vs (ir v5 a.length 1)<|vs (st a v5 true)<|rn 3 10 a.length (a.set v5 true)<|vw .sep<|vs (wa v5 1)<|vz (fl (a.set v5 true))<|ln (Wx b v2) (true,v5+1,a.set v5 true)) (vs (wa v5 1)<|vz (fl a)<|ln (Wx b v2) (v4,v5+1,a))) (vz (fl a)<|Al (oN b v2) (v4,a))
def R7(a:Scm)(v2:Nat):Bool×Nat×List Bool→Option (Lv (Bool×Nat×List Bool) (Bool×List Bool) (List Bool)):=fun(v4,v5,b)=>(VT a v2 v4 v5 b).m
def Vv(c:Scm)(v2:Nat)(b:Bool)(a:List Bool):PT 0 (Lv (Bool×Nat×List Bool) (List Bool) (List Bool)):=vs (wa v2 1)<|vz (fl a)<|ln (nq c) (b,v2+1,a)
def WI(b:Scm)(v2:Nat)(a:List Bool):PT 0 (Lv (Bool×Nat×List Bool) (List Bool) (List Bool)):=vz (fl a)<|lc (Ab [(1,.ptr (1,1) 0 0),(3,.ref (1,10) 0 0 a.length),(4,vB false),(5,vN v2),(6,vI 0)] [(Ie b),((1,10),⟨0,true,4,1,Af AP a⟩)]) ((Am (R7 b v2) Ai (false,0,a)).bind (Sum.elim (fun(d,c)=>(Vv b v2 d c).m) (fun z=>some (.rt z))))
def T8(b:Scm)(c:Bool)(v2:Nat)(a:List Bool):PT 0 (Lv (Bool×Nat×List Bool) (List Bool) (List Bool)):=vw .go<|vz (Ah b.messages)<|br (decide ((v2:Int)<(b.messages.length:Int))&&c) (vz (fl a)<|lc (Ab [(1,.ptr (1,1) 0 0),(3,.ref (1,10) 0 0 a.length),(5,vN v2)] [(Ie b),((1,10),⟨0,true,4,1,Af AP a⟩)]) ((WI b v2 a).m)) (vz (fl a)<|Al (ns) a)
def Ry(a:Scm):Bool×Nat×List Bool→Option (Lv (Bool×Nat×List Bool) (List Bool) (List Bool)):=fun(c,v2,b)=>(T8 a c v2 b).m
def WJ(a:List Bool):PT 0 (List Bool):=vz (fr a)<|lr Nq (fun _=>[]) a
def T1(a:Scm):PT 0 (List Bool):=vz (fl (List.replicate a.messages.length false))<|lc (Ab [(1,.ptr (1,1) 0 0),(3,.ref (1,10) 0 0 (List.replicate a.messages.length false).length),(4,vB true),(5,vI 0)] [(Ie a),((1,10),⟨0,true,4,1,Af AP (List.replicate a.messages.length false)⟩)]) ((Am (Ry a) Ai (true,0,List.replicate a.messages.length false)).bind (Sum.elim (fun b=>(WJ b).m) some))
def VN(a:Scm):PT 0 (List Bool):=vw .go<|vz (Ah a.messages)<|ms a.messages.length false [vB false] (by first|rfl|kernel_rfl)<|vz (fl (List.replicate a.messages.length false))<|lc (Ab [(1,.ptr (1,1) 0 0),(3,.ref (1,10) 0 0 (List.replicate a.messages.length false).length),(4,vB true)] [(Ie a),((1,10),⟨0,true,4,1,Af AP (List.replicate a.messages.length false)⟩)]) ((T1 a).m)
def XT(a:Scm):Option (List Bool):=(VN a).m
theorem zY{C:Cx}(co:CO C 0)(a:Scm)(v2:Nat):KL Tryz.prog (AG tl) 48 C (pa [0,0,1,1,0,0,1,0,0,1,0,1,1,1] (AD Tryz.f83)) [.tmp 2] 0 (Wx a v2) (oN a v2) Nq (fun _=>[]) (R7 a v2):=fun(v4,v5,b) _ hm Q c f e=>AC co Aa Ad (VT a v2 v4 v5 b) (Ae [1,3,4,5,6] IJ) (Ae [1,3,4,5] IJ) f hm e fun r g=>⟨fun i=>fun d=>⟨fun y hy=>CZ (ZEE a d b) hy co g [((1,10),⟨0,true,4,1,Af AP b⟩)] [] (AS []) (fun h j k=>trivial) (fun H=>⟨fun _=>⟨rfl,Bm (A1 _ _) (by kernel_rfl)⟩,by kernel_rfl,trivial⟩),fun l=>⟨id,id⟩⟩,id⟩
theorem zX{C:Cx}(co:CO C 0)(b:Scm):KL Tryz.prog (AG tl) 48 C (pa [0,0,1,0,1,1,1] (AD Tryz.f83)) [.tmp 2] 0 (nq b) (ns) Nq (fun _=>[]) (Ry b):=fun(i,v2,h) _ hm Q f c a=>Ak co Aa Ad 1 (T8 b i v2 h) (Ae [1,3,5] IJ) (Ae [3] [((1,10),true)]) c hm a fun r g=>⟨fun _ hm a=>sq (bk 1 (Ak co Aa Ad 2 (WI b v2 h) (Ae [1,3,4,5,6] IJ) nl c hm a fun r g=>fun _ hm a=>bk 2 (lo (HA (zY co b v2) c hm a (fun(e,d) hm=>AC co Aa Ad (Vv b v2 e d) (Ae [1,3,4,5] IJ) nl c hm a fun r g=>id))))),id⟩
theorem ZTd(b:Scm):KC Tryz.prog 83 [.agg ((AF b).map .d)] (XT b) Nq:=Av Tryz.func83 Tryz.ntmps83 Aa [.tmp 2] fun C co y hm d a=>Ak co Aa Ad 3 (VN b) (Ae [1,3,4] IJ) nl (fun _ h=>h) hm a fun r g=>fun _ hm a=>sq (Ak co Aa Ad 1 (T1 b) (Ae [1,3,4,5] IJ) nl (fun _ h=>h) hm a fun r g=>fun _ hm a=>bk 0 (lo (AL (zX co b) (fun _ h=>h) hm a (fun c hm=>Ao co Aa Ad (WJ c) hm a fun r g=>id))))
abbrev qt:Bool→AV:=fun y=>vB y
def wb(a:Int):PT 0 (Bool):=lr qt (fun _=>[]) (decide ((97:Int)≤a)&&decide (a≤(122:Int)))
def rK(a:Int):Option (Bool):=(wb a).m
theorem ky(a:Int):KC Tryz.prog 188 [.d (.int .u8 a)] (rK a) qt:=Av Tryz.func188 Tryz.ntmps188 Aa [.tmp 2] fun C co y hm b c=>Ao co Aa Ad (wb a) hm c fun r g=>id
abbrev pw:Bool→AV:=fun y=>vB y
def wP(a:Int):PT 0 (Bool):=lr pw (fun _=>[]) (decide ((65:Int)≤a)&&decide (a≤(90:Int)))
def rI(a:Int):Option (Bool):=(wP a).m
theorem nu(a:Int):KC Tryz.prog 189 [.d (.int .u8 a)] (rI a) pw:=Av Tryz.func189 Tryz.ntmps189 Aa [.tmp 2] fun C co y hm b c=>Ao co Aa Ad (wP a) hm c fun r g=>id
abbrev Lz:Bool→AV:=fun y=>vB y
def xd(a:ByteArray):Nat→St:=fun v5=>Ab [(0,vS a),(3,vN v5)] []
def xH:Unit→Nat×St:=fun _=>(0,Ab [] [])
def ep(a:ByteArray)(v5:Nat):PT 0 (Lv (Nat) (Unit) (Bool)):=vz (A3 a.size)<|br (decide ((v5:Int)<(a.size:Int))) (ib a v5 fun g=>cl (ky (g.toNat:Int)) fun c=>E2 (!c) a (v5:Int) fun h=>clg (!c) (nu (h.toNat:Int)) fun e=>E2 ((!c)&&(!e)) a (v5:Int) fun b=>E2 (((!c)&&(!e))&&(!decide ((b.toNat:Int)=(95:Int)))) a (v5:Int) fun d=>E2 ((((!c)&&(!e))&&(!decide ((b.toNat:Int)=(95:Int))))&&(!(decide ((d.toNat:Int)<(48:Int))))) a (v5:Int) fun f=>br ((((!c)&&(!e))&&(!decide ((b.toNat:Int)=(95:Int))))&&(decide ((d.toNat:Int)<(48:Int))||decide ((57:Int)<(f.toNat:Int)))) (Ay Lz (fun _=>[]) false) (vs (wa v5 1)<|ln (xd a) (v5+1))) (Al (xH) ())
def QJ(a:ByteArray):Nat→Option (Lv (Nat) (Unit) (Bool)):=fun v5=>(ep a v5).m
def dU:PT 0 (Bool):=lr Lz (fun _=>[]) true
def bH(a:ByteArray):PT 0 (Bool):=lc (Ab [(0,vS a),(3,vI 1)] []) ((Am (QJ a) Ai 1).bind (Sum.elim (fun _=>(dU).m) some))
def hP(a:ByteArray):PT 0 (Bool):=vz (A3 a.size)<|vy (!(decide ((a.size:Int)=(0:Int)))) (A3 a.size)<|E2 (!(decide ((a.size:Int)=(0:Int))||decide ((40:Int)<(a.size:Int)))) a 0 fun c=>clg (!(decide ((a.size:Int)=(0:Int))||decide ((40:Int)<(a.size:Int)))) (ky (c.toNat:Int)) fun b=>E2 ((!(decide ((a.size:Int)=(0:Int))||decide ((40:Int)<(a.size:Int))))&&(!b)) a 0 fun d=>clg ((!(decide ((a.size:Int)=(0:Int))||decide ((40:Int)<(a.size:Int))))&&(!b)) (nu (d.toNat:Int)) fun e=>br ((decide ((a.size:Int)=(0:Int))||decide ((40:Int)<(a.size:Int)))||((!b)&&(!e))) (lr Lz (fun _=>[]) false) (lc (Ab [(0,vS a)] []) ((bH a).m))
def XU(a:ByteArray):Option (Bool):=(hP a).m
theorem ZvR{C:Cx}(co:CO C 0)(a:ByteArray):KL Tryz.prog (AG tl) 60 C (pa [0,0,1,0,1,1] (AD Tryz.f163)) [.tmp 2] 0 (xd a) (xH) Lz (fun _=>[]) (QJ a):=fun v5 _ hm Q b h f=>AC co Aa Ad (ep a v5) (AQ [0,3]) nl h hm f fun r g=>⟨fun i=>fun k=>fun j=>fun l=>fun c=>fun d=>fun e=>⟨id,id⟩,id⟩
theorem Ui(b:ByteArray):KC Tryz.prog 163 [vS b] (XU b) Lz:=Av Tryz.func163 Tryz.ntmps163 Aa [.tmp 2] fun C co y hm c a=>Ak co Aa Ad 2 (hP b) (AQ [0]) nl (fun _ h=>h) hm a fun r g=>fun d=>fun f=>fun e=>fun i=>⟨id,fun _ hm a=>sq (Ak co Aa Ad 1 (bH b) (AQ [0,3]) nl (fun _ h=>h) hm a fun r g=>fun _ hm a=>bk 0 (lo (AL (ZvR co b) (fun _ h=>h) hm a (fun _ hm=>Ao co Aa Ad (dU) hm a fun r g=>id))))⟩
abbrev LH:Bool→AV:=fun y=>vB y
def gW(a:ByteArray):ByteArray×Nat→St:=fun(b,v2)=>Ab [(0,vS a),(3,vS b),(4,vN v2)] []
def jX:ByteArray→Nat×St:=fun a=>(0,Ab [(3,vS a)] [])
def dz(a:ByteArray)(b:ByteArray)(v2:Nat):PT 0 (Lv (ByteArray×Nat) (ByteArray) (Bool)):=vz (A3 a.size)<|br (decide ((v2:Int)<(a.size:Int))) (ib a v2 fun c=>br (!decide ((c.toNat:Int)=(46:Int))) (vs (wa v2 1)<|ss a (.nt v2) (.nt (v2+1)) fun d=>ad b d fun e=>vs (wa v2 1)<|ln (gW a) (e,v2+1)) (cl (Ui b) fun f=>br (!f) (Ay LH (fun _=>[]) false) (vs (wa v2 1)<|ln (gW a) (⟨#[]⟩,v2+1)))) (Al (jX) b)
def Rh(a:ByteArray):ByteArray×Nat→Option (Lv (ByteArray×Nat) (ByteArray) (Bool)):=fun(b,v2)=>(dz a b v2).m
def cO(a:ByteArray):PT 0 (Bool):=cl (Ui a) fun b=>lr LH (fun _=>[]) b
def dD(a:ByteArray):PT 0 (Bool):=lc (Ab [(0,vS a),(3,vS ⟨#[]⟩),(4,vI 0)] []) ((Am (Rh a) Ai (⟨#[]⟩,0)).bind (Sum.elim (fun b=>(cO b).m) some))
def dv(a:ByteArray):PT 0 (Bool):=vz (A3 a.size)<|br (decide ((120:Int)<(a.size:Int))) (lr LH (fun _=>[]) false) (lc (Ab [(0,vS a),(3,vS ⟨#[]⟩)] []) ((dD a).m))
def XX(a:ByteArray):Option (Bool):=(dv a).m
theorem ZwS{C:Cx}(co:CO C 0)(a:ByteArray):KL Tryz.prog (AG tl) 30 C (pa [0,0,1,0,1,1,1] (AD Tryz.f160)) [.tmp 2] 0 (gW a) (jX) LH (fun _=>[]) (Rh a):=fun(e,v2) _ hm Q b d c=>AC co Aa Ad (dz a e v2) (AQ [0,3,4]) (AQ [3]) d hm c fun r g=>⟨fun f=>⟨fun h=>fun i=>id,fun j=>⟨id,id⟩⟩,id⟩
theorem ZOo(b:ByteArray):KC Tryz.prog 160 [vS b] (XX b) LH:=Av Tryz.func160 Tryz.ntmps160 Aa [.tmp 2] fun C co y hm c a=>Ak co Aa Ad 3 (dv b) (AQ [0,3]) nl (fun _ h=>h) hm a fun r g=>⟨id,fun _ hm a=>sq (Ak co Aa Ad 1 (dD b) (AQ [0,3,4]) nl (fun _ h=>h) hm a fun r g=>fun _ hm a=>bk 0 (lo (AL (ZwS co b) (fun _ h=>h) hm a (fun d hm=>Ao co Aa Ad (cO d) hm a fun r g=>fun e=>id))))⟩
abbrev OC:ByteArray×ByteArray→AV:=fun y=>.tup [vS y.1,vS y.2]
def xI(a:ByteArray):Int→St:=fun b=>Ab [(0,vS a),(4,vI b)] []
def vr(a:ByteArray):Unit→Nat×St:=fun _=>(0,Ab [(0,vS a)] [])
def fb(b:ByteArray)(a:Int):PT 0 (Lv (Int) (Unit) (ByteArray×ByteArray)):=br (decide ((0:Int)≤a)) (SV b a fun c=>br (decide ((c.toNat:Int)=(46:Int))) (ss b .no (.it a) fun d=>vs (wi (a+1))<|ss b (.it (a+1)) .no fun e=>Ay OC (fun _=>[]) (d,e)) (vs (wi (a-1))<|ln (xI b) (a-1))) (Al (vr b) ())
def Rk(a:ByteArray):Int→Option (Lv (Int) (Unit) (ByteArray×ByteArray)):=fun b=>(fb a b).m
def de(a:ByteArray):PT 0 (ByteArray×ByteArray):=lr OC (fun _=>[]) (⟨#[]⟩,a)
def gL(a:ByteArray):PT 0 (ByteArray×ByteArray):=vz (A3 a.size)<|vs (wi ((a.size:Int)-1))<|lc (Ab [(0,vS a),(4,vI ((a.size:Int)-1))] []) ((Am (Rk a) Ai ((a.size:Int)-1)).bind (Sum.elim (fun _=>(de a).m) some))
def fk(a:ByteArray):PT 0 (ByteArray×ByteArray):=lc (Ab [(0,vS a)] []) ((gL a).m)
def XY(a:ByteArray):Option (ByteArray×ByteArray):=(fk a).m
theorem Zwl{C:Cx}(co:CO C 0)(a:ByteArray):KL Tryz.prog (AG tl) 24 C (pa [0,0,1,0,1] (AD Tryz.f161)) [.tmp 2,.tmp 3] 0 (xI a) (vr a) OC (fun _=>[]) (Rk a):=fun e _ hm Q b d c=>AC co Aa Ad (fb a e) (AQ [0,4]) (AQ [0]) d hm c fun r g=>⟨fun f=>⟨fun h=>fun i=>id,id⟩,id⟩
theorem ZM7(b:ByteArray):KC Tryz.prog 161 [vS b] (XY b) OC:=Av Tryz.func161 Tryz.ntmps161 Aa [.tmp 2,.tmp 3] fun C co y hm c a=>Ak co Aa Ad 1 (fk b) (AQ [0]) nl (fun _ h=>h) hm a fun r g=>fun _ hm a=>sq (Ak co Aa Ad 1 (gL b) (AQ [0,4]) nl (fun _ h=>h) hm a fun r g=>fun _ hm a=>bk 0 (lo (AL (Zwl co b) (fun _ h=>h) hm a (fun _ hm=>Ao co Aa Ad (de b) hm a fun r g=>id))))
abbrev Bc:Bool→AV:=fun y=>vB y
def eO(a:ByteArray):PT 0 (Bool):=br (decide (a=(⟨#[109,101,115,115,97,103,101]⟩:ByteArray))) (br (decide (a=(⟨#[109,101,115,115,97,103,101]⟩:ByteArray))) (lr Bc (fun _=>[]) true) (lr Bc (fun _=>[]) false)) (br (decide (a=(⟨#[101,110,117,109]⟩:ByteArray))) (br (decide (a=(⟨#[101,110,117,109]⟩:ByteArray))) (lr Bc (fun _=>[]) true) (lr Bc (fun _=>[]) false)) (br (decide (a=(⟨#[115,101,114,118,105,99,101]⟩:ByteArray))) (br (decide (a=(⟨#[115,101,114,118,105,99,101]⟩:ByteArray))) (lr Bc (fun _=>[]) true) (lr Bc (fun _=>[]) false)) (br (decide (a=(⟨#[117,110,105,111,110]⟩:ByteArray))) (br (decide (a=(⟨#[117,110,105,111,110]⟩:ByteArray))) (lr Bc (fun _=>[]) true) (lr Bc (fun _=>[]) false)) (br (decide (a=(⟨#[109,97,112]⟩:ByteArray))) (br (decide (a=(⟨#[109,97,112]⟩:ByteArray))) (lr Bc (fun _=>[]) true) (lr Bc (fun _=>[]) false)) (br (decide (a=(⟨#[108,105,115,116]⟩:ByteArray))) (br (decide (a=(⟨#[108,105,115,116]⟩:ByteArray))) (lr Bc (fun _=>[]) true) (lr Bc (fun _=>[]) false)) (br (decide (a=(⟨#[114,101,113,117,105,114,101,100]⟩:ByteArray))) (br (decide (a=(⟨#[114,101,113,117,105,114,101,100]⟩:ByteArray))) (lr Bc (fun _=>[]) true) (lr Bc (fun _=>[]) false)) (br (decide (a=(⟨#[111,112,116,105,111,110,97,108]⟩:ByteArray))) (br (decide (a=(⟨#[111,112,116,105,111,110,97,108]⟩:ByteArray))) (lr Bc (fun _=>[]) true) (lr Bc (fun _=>[]) false)) (br (decide (a=(⟨#[112,108,97,105,110]⟩:ByteArray))) (br (decide (a=(⟨#[112,108,97,105,110]⟩:ByteArray))) (lr Bc (fun _=>[]) true) (lr Bc (fun _=>[]) false)) (br (decide (a=(⟨#[100,101,102,97,117,108,116]⟩:ByteArray))) (br (decide (a=(⟨#[100,101,102,97,117,108,116]⟩:ByteArray))) (lr Bc (fun _=>[]) true) (lr Bc (fun _=>[]) false)) (br (decide (a=(⟨#[114,101,115,101,114,118,101,100]⟩:ByteArray))) (br (decide (a=(⟨#[114,101,115,101,114,118,101,100]⟩:ByteArray))) (lr Bc (fun _=>[]) true) (lr Bc (fun _=>[]) false)) (br (decide (a=(⟨#[105,109,112,111,114,116]⟩:ByteArray))) (br (decide (a=(⟨#[105,109,112,111,114,116]⟩:ByteArray))) (lr Bc (fun _=>[]) true) (lr Bc (fun _=>[]) false)) (br (decide (a=(⟨#[115,112,97,99,101]⟩:ByteArray))) (br (decide (a=(⟨#[115,112,97,99,101]⟩:ByteArray))) (lr Bc (fun _=>[]) true) (lr Bc (fun _=>[]) false)) (br (decide (a=(⟨#[114,112,99]⟩:ByteArray))) (br (decide (a=(⟨#[114,112,99]⟩:ByteArray))) (lr Bc (fun _=>[]) true) (lr Bc (fun _=>[]) false)) (br (decide (a=(⟨#[115,116,114,101,97,109]⟩:ByteArray))) (br (decide (a=(⟨#[115,116,114,101,97,109]⟩:ByteArray))) (lr Bc (fun _=>[]) true) (lr Bc (fun _=>[]) false)) (br (decide (a=(⟨#[114,101,116,117,114,110,115]⟩:ByteArray))) (br (decide (a=(⟨#[114,101,116,117,114,110,115]⟩:ByteArray))) (lr Bc (fun _=>[]) true) (lr Bc (fun _=>[]) false)) (br (decide (a=(⟨#[111,112,101,110]⟩:ByteArray))) (br (decide (a=(⟨#[111,112,101,110]⟩:ByteArray))) (lr Bc (fun _=>[]) true) (lr Bc (fun _=>[]) false)) (br (decide (a=(⟨#[116,114,117,101]⟩:ByteArray))) (br (decide (a=(⟨#[116,114,117,101]⟩:ByteArray))) (lr Bc (fun _=>[]) true) (lr Bc (fun _=>[]) false)) (br (decide (a=(⟨#[102,97,108,115,101]⟩:ByteArray))) (br (decide (a=(⟨#[102,97,108,115,101]⟩:ByteArray))) (lr Bc (fun _=>[]) true) (lr Bc (fun _=>[]) false)) (br (decide (a=(⟨#[110,97,110]⟩:ByteArray))) (br (decide (a=(⟨#[110,97,110]⟩:ByteArray))) (lr Bc (fun _=>[]) true) (lr Bc (fun _=>[]) false)) (br (decide (a=(⟨#[105,110,102]⟩:ByteArray))) (lr Bc (fun _=>[]) true) (lr Bc (fun _=>[]) false)))))))))))))))))))))
def XS(a:ByteArray):Option (Bool):=(eO a).m
theorem l6(a:ByteArray):KC Tryz.prog 162 [vS a] (XS a) Bc:=Av Tryz.func162 Tryz.ntmps162 Aa [.tmp 2] fun C co y hm b c=>Ao co Aa Ad (eO a) hm c fun r g=>⟨⟨id,id⟩,⟨⟨id,id⟩,⟨⟨id,id⟩,⟨⟨id,id⟩,⟨⟨id,id⟩,⟨⟨id,id⟩,⟨⟨id,id⟩,⟨⟨id,id⟩,⟨⟨id,id⟩,⟨⟨id,id⟩,⟨⟨id,id⟩,⟨⟨id,id⟩,⟨⟨id,id⟩,⟨⟨id,id⟩,⟨⟨id,id⟩,⟨⟨id,id⟩,⟨⟨id,id⟩,⟨⟨id,id⟩,⟨⟨id,id⟩,⟨⟨id,id⟩,⟨id,id⟩⟩⟩⟩⟩⟩⟩⟩⟩⟩⟩⟩⟩⟩⟩⟩⟩⟩⟩⟩⟩
abbrev LB:Bool→AV:=fun y=>vB y
def wn:ByteArray×Nat→St:=fun(v2,v3)=>Ab [(0,vS v2),(3,vN v3)] []
def j4:Unit→Nat×St:=fun _=>(0,Ab [] [])
def cV(v2:ByteArray)(v3:Nat):PT 0 (Lv (ByteArray×Nat) (Unit) (Bool)):=br (decide ((v3:Int)<(120:Int))&&(!decide (v2=(⟨#[]⟩:ByteArray)))) (cl (ZM7 v2) fun a=>cl (l6 a.2) fun b=>br b (Ay LB (fun _=>[]) false) (vs (wa v3 1)<|ln (wn) (a.1,v3+1))) (Al (j4) ())
def Q7:ByteArray×Nat→Option (Lv (ByteArray×Nat) (Unit) (Bool)):=fun(v2,v3)=>(cV v2 v3).m
def cE:PT 0 (Bool):=lr LB (fun _=>[]) true
def ee(a:ByteArray):PT 0 (Bool):=lc (Ab [(0,vS a),(3,vI 0)] []) ((Am (Q7) Ai (a,0)).bind (Sum.elim (fun _=>(cE).m) some))
def dC(a:ByteArray):PT 0 (Bool):=cl (ZOo a) fun b=>br (!b) (lr LB (fun _=>[]) false) (lc (Ab [(0,vS a)] []) ((ee a).m))
def XW(a:ByteArray):Option (Bool):=(dC a).m
theorem ZwO{C:Cx}(co:CO C 0):KL Tryz.prog (AG tl) 25 C (pa [0,0,1,0,1,1] (AD Tryz.f126)) [.tmp 2] 0 (wn) (j4) LB (fun _=>[]) (Q7):=fun(v2,v3) _ hm Q a c b=>AC co Aa Ad (cV v2 v3) (AQ [0,3]) nl c hm b fun r g=>⟨fun d=>fun e=>⟨id,id⟩,id⟩
theorem V7(b:ByteArray):KC Tryz.prog 126 [vS b] (XW b) LB:=Av Tryz.func126 Tryz.ntmps126 Aa [.tmp 2] fun C co y hm c a=>Ak co Aa Ad 2 (dC b) (AQ [0]) nl (fun _ h=>h) hm a fun r g=>fun d=>⟨id,fun _ hm a=>sq (Ak co Aa Ad 1 (ee b) (AQ [0,3]) nl (fun _ h=>h) hm a fun r g=>fun _ hm a=>bk 0 (lo (AL (ZwO co) (fun _ h=>h) hm a (fun _ hm=>Ao co Aa Ad (cE) hm a fun r g=>id))))⟩
end Go.Proofs.YtchkcemlglpobaaGreat
