import Derived.Test.YthgmbpciandpiaaGreatNx14
import Derived.Test.YthgmbpciandpiaaGreatNx00
namespace Go.Proofs.YthgmbpciandpiaaGreat
set_option maxRecDepth 100000
set_option linter.all false
open Go Go.Eng
abbrev fk(a:Scm):Ad×Blk:=kk 2 26 3 (cD (Al a))
abbrev Uz:Int→AV:=fun y=>vI y
def wz(a:Scm)(b:ByteArray):Nat→St:=fun c=>Ab [(1,vS b),pp 2,(5,vN c)] [(fk a)]
def uD:Unit→Nat×St:=fun _=>(0,Ab [] [])
def kN(b:Scm)(c:ByteArray)(a:Nat):PT 0 (Lv (Nat) (Unit) (Int)):=wg<|vz (Ah b.enums)<|br (decide ((a:Int)<(b.enums.length:Int))) (wg<|ix b.enums a fun d=>br (decide (d.name=c)) (Ar Uz nG (a:Int)) (vs (wa a 1)<|ln (wz b c) (a+1))) (Ai (uD) ())
def We(a:Scm)(b:ByteArray):Nat→Option (Lv (Nat) (Unit) (Int)):=fun c=>(kN a b c).m
def lE:PT 0 (Int):=lr Uz nG (-1)
def nX(a:Scm)(b:ByteArray):PT 0 (Int):=lc (Ab [(1,vS b),pp 2,(5,vI 0)] [(fk a)]) ((An (We a b) Aj 0).bind (Sum.elim (fun _=>(lE).m) some))
def lO(a:Scm)(b:ByteArray):PT 0 (Int):=lc (Ab [(1,vS b),pp 2] [(fk a)]) ((nX a b).m)
def gu(a:Scm)(b:ByteArray):Option (Int):=(lO a b).m
theorem Zz7{C:Cx}(co:CO C 0)(a:Scm)(b:ByteArray):KL Tryz.prog (AB tl) 22 C (pa [0,0,1,0,1] (Aw Tryz.f158)) [.tmp 4] 0 (wz a b) (uD) Uz nG (We a b):=fun f _ hm Q c e d=>Av co Aa Ac (kN a b f) (Ae [1,2,5] EW) nl e hm d fun r g=>⟨fun h=>⟨id,id⟩,id⟩
theorem zQ(b:Scm)(c:ByteArray):KC Tryz.prog 158 [.agg ((Al b).map .d),vS c] (gu b c) Uz:=Au Tryz.func158 Tryz.ntmps158 Aa [.tmp 4] fun C co y hm d a=>Ak co Aa Ac 1 (lO b c) (Ae [1,2] EW) nl nH hm a fun r g=>fun _ hm a=>sq (Ak co Aa Ac 1 (nX b c) (Ae [1,2,5] EW) nl nH hm a fun r g=>fun _ hm a=>bk 0 (lo (AF (Zz7 co b c) nH hm a (fun _ hm=>Ap co Aa Ac (lE) hm a fun r g=>id))))
abbrev Uw:Bool→AV:=fun y=>vB y
def pN(b:Scm)(a:Fld):PT 0 (Bool):=wg<|br (decide (a.type.kind=(9:Int))) (wg<|wg<|cl (zQ b a.type.name) fun c=>lr Uw nG (decide ((0:Int)≤c))) (br (decide (a.type.kind=(10:Int))) (wg<|wg<|cl (Qa b a.type.name) fun d=>wg<|lr Uw nG (decide ((0:Int)≤d)&&(!decide (a.card=(3:Int))))) (wg<|wg<|wg<|lr Uw nG ((decide ((1:Int)≤a.type.kind)&&decide (a.type.kind≤(8:Int)))&&decide (a.type.name=(⟨#[]⟩:ByteArray)))))
def gV(a:Scm)(b:Fld):Option (Bool):=(pN a b).m
theorem ZV3(a:Scm)(b:Fld):KC Tryz.prog 116 [.agg ((Al a).map .d),.agg ((Ao b).map .d)] (gV a b) Uw:=Au Tryz.func116 Tryz.ntmps116 Aa [.tmp 4] fun C co y hm c d=>Ap co Aa Ac (pN a b) hm d fun r g=>⟨fun e=>id,⟨fun f=>id,id⟩⟩
abbrev Lg:List (Ad×Bool):=[((1,2),false),((1,5),false)]
abbrev TM(a:Msg):Ad×Blk:=kk 2 61 5 (cD (AE a))
abbrev TY(a:Fld):Ad×Blk:=kk 5 56 16 (cD (Ao a))
abbrev L9:Bool→AV:=fun y=>vB y
def l5(b:Msg)(c:Int)(a:Fld):Bool×Nat→St:=fun(v3,v4)=>Ab [(1,vI c),pp 2,pp 5,(6,vB v3),(7,vN v4)] [(TM b),(TY a)]
def sO(b:Msg)(c:Int)(a:Fld):Bool→Nat×St:=fun d=>(0,Ab [(1,vI c),pp 2,pp 5,(6,vB d)] [(TM b),(TY a)])
def oO(a:Msg)(c:Int)(b:Fld)(v3:Bool)(v4:Nat):PT 0 (Lv (Bool×Nat) (Bool) (Bool)):=wg<|vz (Ah a.fields)<|br (decide ((v4:Int)<(a.fields.length:Int))) (wg<|ix a.fields v4 fun d=>wg<|br (decide (d.name=b.union)) (Ar L9 nG false) (wg<|AZ (decide ((v4:Int)<c)) a.fields (v4:Int) fun e=>wg<|br (decide ((v4:Int)<c)&&decide (e.union=b.union)) (vs (wa v4 1)<|ln (l5 a c b) (true,v4+1)) (vs (wa v4 1)<|ln (l5 a c b) (v3,v4+1)))) (Ai (sO a c b) v3)
def WI(b:Msg)(c:Int)(a:Fld):Bool×Nat→Option (Lv (Bool×Nat) (Bool) (Bool)):=fun(v3,v4)=>(oO b c a v3 v4).m
def n2(e:Msg)(b:Int)(c:Fld)(a:Bool):PT 0 (Bool):=wg<|vg (!(!a)) (wi (b-1))<|AZ (!(!a)) e.fields (b-1) fun d=>wg<|lr L9 nG ((!a)||decide (d.union=c.union))
def li(b:Msg)(c:Int)(a:Fld):PT 0 (Bool):=lc (Ab [(1,vI c),pp 2,pp 5,(6,vB false),(7,vI 0)] [(TM b),(TY a)]) ((An (WI b c a) Aj (false,0)).bind (Sum.elim (fun d=>(n2 b c a d).m) some))
def mK(b:Msg)(c:Int):PT 0 (Bool):=wg<|B8 b.fields c fun a=>wg<|wg<|br (decide (a.union=(⟨#[]⟩:ByteArray))) (lr L9 nG true) (wg<|wg<|Az (!(!decide (a.card=(2:Int)))) (Sn a.union) fun d=>br ((!decide (a.card=(2:Int)))||(!d)) (lr L9 nG false) (lc (Ab [(1,vI c),pp 2,pp 5,(6,vB false)] [(TM b),(TY a)]) ((li b c a).m)))
def g8(a:Msg)(b:Int):Option (Bool):=(mK a b).m
theorem ZBJ{C:Cx}(co:CO C 0)(b:Msg)(c:Int)(a:Fld):KL Tryz.prog (AB tl) 69 C (pa [0,0,1,0,1,1,1,1,1] (Aw Tryz.f117)) [.tmp 4] 0 (l5 b c a) (sO b c a) L9 nG (WI b c a):=fun(v3,v4) _ hm Q d f e=>Av co Aa Ac (oO b c a v3 v4) (Ae [1,2,5,6,7] Lg) (Ae [1,2,5,6] Lg) f hm e fun r g=>⟨fun h=>⟨id,fun i=>⟨id,id⟩⟩,id⟩
theorem ZUL(b:Msg)(c:Int):KC Tryz.prog 117 [.agg ((AE b).map .d),vI c] (g8 b c) L9:=Au Tryz.func117 Tryz.ntmps117 Aa [.tmp 4] fun C co y hm e a=>Ak co Aa Ac 5 (mK b c) (Ae [1,2,5,6] Lg) nl nH hm a fun r g=>fun d=>⟨id,fun i=>⟨id,fun _ hm a=>sq (Ak co Aa Ac 1 (li b c d) (Ae [1,2,5,6,7] Lg) nl nH hm a fun r g=>fun _ hm a=>bk 0 (lo (AF (ZBJ co b c d) nH hm a (fun f hm=>Ap co Aa Ac (n2 b c d f) hm a fun r g=>fun h=>id))))⟩⟩
abbrev LM:Int→AV:=fun y=>vI y
def WN(a:Int):PT 0 (Int):=rem .u64 a 9223372036854775808<|br (decide ((9218868437227405312:Int)<(IS .u64 a 9223372036854775808))) (lr LM nG 0) (br (decide ((IS .u64 a 9223372036854775808)=(9218868437227405312:Int))) (lr LM nG 1) (br (decide ((IS .u64 a 9223372036854775808)=(0:Int))) (lr LM nG 2) (br (decide ((IS .u64 a 9223372036854775808)<(4503599627370496:Int))) (lr LM nG 3) (lr LM nG 4))))
def OG(a:Int):Option (Int):=(WN a).m
theorem w9(a:Int):KC Tryz.prog 125 [.d (.int .u64 a)] (OG a) LM:=Au Tryz.func125 Tryz.ntmps125 Aa [.tmp 2] fun C co y hm b c=>Ap co Aa Ac (WN a) hm c fun r g=>⟨id,⟨id,⟨id,⟨id,id⟩⟩⟩⟩
abbrev Zf:Val→AV:=fun y=>.agg ((Ag y).map .d)
def Sh(a:Val):PT 0 (Val):=wg<|wg<|Az (decide (a.kind=(6:Int))) (w9 a.bits) fun b=>br (decide (a.kind=(6:Int))&&decide (b=(0:Int))) (wg<|wg<|wg<|lr Zf nG (.mk a.kind 9221120237041090560 a.text a.list a.pairs a.slots a.raws:Val)) (wg<|wg<|lr Zf nG a)
def OJ(a:Val):Option (Val):=(Sh a).m
theorem eZ(a:Val):KC Tryz.prog 82 [.agg ((Ag a).map .d)] (OJ a) Zf:=Au Tryz.func82 Tryz.ntmps82 Aa [.cell 2 33] fun C co y hm b c=>Ap co Aa Ac (Sh a) hm c fun r g=>fun d=>⟨id,id⟩
abbrev ZXc:Bool→AV:=fun y=>vB y
def qo(a:Val)(b:Val):PT 0 (Bool):=wg<|wg<|wg<|wg<|wg<|wg<|wg<|vy ((decide (a.kind=b.kind)&&decide (a.bits=b.bits))&&decide (a.text=b.text)) (Ah a.list)<|wg<|vy ((decide (a.kind=b.kind)&&decide (a.bits=b.bits))&&decide (a.text=b.text)) (Ah a.pairs)<|vg ((decide (a.kind=b.kind)&&decide (a.bits=b.bits))&&decide (a.text=b.text)) (wa a.list.length a.pairs.length)<|wg<|vy ((decide (a.kind=b.kind)&&decide (a.bits=b.bits))&&decide (a.text=b.text)) (Ah a.slots)<|vg ((decide (a.kind=b.kind)&&decide (a.bits=b.bits))&&decide (a.text=b.text)) (wa (a.list.length+a.pairs.length) a.slots.length)<|wg<|vy ((decide (a.kind=b.kind)&&decide (a.bits=b.bits))&&decide (a.text=b.text)) (Ah a.raws)<|vg ((decide (a.kind=b.kind)&&decide (a.bits=b.bits))&&decide (a.text=b.text)) (wa ((a.list.length+a.pairs.length)+a.slots.length) a.raws.length)<|wg<|vy ((decide (a.kind=b.kind)&&decide (a.bits=b.bits))&&decide (a.text=b.text)) (Ah b.list)<|vg ((decide (a.kind=b.kind)&&decide (a.bits=b.bits))&&decide (a.text=b.text)) (wa (((a.list.length+a.pairs.length)+a.slots.length)+a.raws.length) b.list.length)<|wg<|vy ((decide (a.kind=b.kind)&&decide (a.bits=b.bits))&&decide (a.text=b.text)) (Ah b.pairs)<|vg ((decide (a.kind=b.kind)&&decide (a.bits=b.bits))&&decide (a.text=b.text)) (wa ((((a.list.length+a.pairs.length)+a.slots.length)+a.raws.length)+b.list.length) b.pairs.length)<|wg<|vy ((decide (a.kind=b.kind)&&decide (a.bits=b.bits))&&decide (a.text=b.text)) (Ah b.slots)<|vg ((decide (a.kind=b.kind)&&decide (a.bits=b.bits))&&decide (a.text=b.text)) (wa (((((a.list.length+a.pairs.length)+a.slots.length)+a.raws.length)+b.list.length)+b.pairs.length) b.slots.length)<|wg<|vy ((decide (a.kind=b.kind)&&decide (a.bits=b.bits))&&decide (a.text=b.text)) (Ah b.raws)<|vg ((decide (a.kind=b.kind)&&decide (a.bits=b.bits))&&decide (a.text=b.text)) (wa ((((((a.list.length+a.pairs.length)+a.slots.length)+a.raws.length)+b.list.length)+b.pairs.length)+b.slots.length) b.raws.length)<|lr ZXc nG (((decide (a.kind=b.kind)&&decide (a.bits=b.bits))&&decide (a.text=b.text))&&decide (((((((((a.list.length+a.pairs.length)+a.slots.length)+a.raws.length)+b.list.length)+b.pairs.length)+b.slots.length)+b.raws.length:Nat):Int)=(0:Int)))
def gE(a:Val)(b:Val):Option (Bool):=(qo a b).m
theorem xH(a:Val)(b:Val):KC Tryz.prog 159 [.agg ((Ag a).map .d),.agg ((Ag b).map .d)] (gE a b) ZXc:=Au Tryz.func159 Tryz.ntmps159 Aa [.tmp 4] fun C co y hm c d=>Ap co Aa Ac (qo a b) hm d fun r g=>id
abbrev ZYh:Bool→AV:=fun y=>vB y
def Ws(a:ByteArray)(b:Int)(d:Int)(f:Int):PT 0 (Bool):=vz (A9 a.size)<|F9 (decide (b<(a.size:Int))) a b fun c=>F9 (decide (b<(a.size:Int))&&decide (d≤(c.toNat:Int))) a b fun e=>lr ZYh nG ((decide (b<(a.size:Int))&&decide (d≤(c.toNat:Int)))&&decide ((e.toNat:Int)≤f))
def Mf(a:ByteArray)(b:Int)(c:Int)(d:Int):Option (Bool):=(Ws a b c d).m
theorem QM(a:ByteArray)(b:Int)(c:Int)(d:Int):KC Tryz.prog 214 [vS a,vI b,.d (.int .u8 c),.d (.int .u8 d)] (Mf a b c d) ZYh:=Au Tryz.func214 Tryz.ntmps214 Aa [.tmp 8] fun C co y hm e f=>Ap co Aa Ac (Ws a b c d) hm f fun r g=>fun h=>fun i=>id
abbrev TB:Bool→AV:=fun y=>vB y
def tL(a:ByteArray)(b:Int)(c:Int):Nat→St:=fun d=>Ab [(0,vS a),(1,vI b),(2,vI c),(7,vN d)] []
def vZ:Unit→Nat×St:=fun _=>(0,Ab [] [])
def P4(c:ByteArray)(b:Int)(d:Int)(a:Nat):PT 0 (Lv (Nat) (Unit) (Bool)):=br (decide ((a:Int)<d)) (vs (wi (b+(a:Int)))<|cl (QM c (b+(a:Int)) 128 191) fun e=>br (!e) (Ar TB nG false) (vs (wa a 1)<|ln (tL c b d) (a+1))) (Ai (vZ) ())
def KU(a:ByteArray)(b:Int)(c:Int):Nat→Option (Lv (Nat) (Unit) (Bool)):=fun d=>(P4 a b c d).m
def Xm:PT 0 (Bool):=lr TB nG true
def WC(a:ByteArray)(b:Int)(c:Int):PT 0 (Bool):=lc (Ab [(0,vS a),(1,vI b),(2,vI c),(7,vI 0)] []) ((An (KU a b c) Aj 0).bind (Sum.elim (fun _=>(Xm).m) some))
def Wu(a:ByteArray)(b:Int)(c:Int):PT 0 (Bool):=lc (Ab [(0,vS a),(1,vI b),(2,vI c)] []) ((WC a b c).m)
def Kw(a:ByteArray)(b:Int)(c:Int):Option (Bool):=(Wu a b c).m
theorem ZzT{C:Cx}(co:CO C 0)(a:ByteArray)(b:Int)(c:Int):KL Tryz.prog (AB tl) 19 C (pa [0,0,1,0,1] (Aw Tryz.f213)) [.tmp 6] 0 (tL a b c) (vZ) TB nG (KU a b c):=fun h _ hm Q d f e=>Av co Aa Ac (P4 a b c h) (AH [0,1,2,7]) nl f hm e fun r g=>⟨fun i=>⟨id,id⟩,id⟩
theorem K7(b:ByteArray)(c:Int)(d:Int):KC Tryz.prog 213 [vS b,vI c,vI d] (Kw b c d) TB:=Au Tryz.func213 Tryz.ntmps213 Aa [.tmp 6] fun C co y hm e a=>Ak co Aa Ac 1 (Wu b c d) (AH [0,1,2]) nl nH hm a fun r g=>fun _ hm a=>sq (Ak co Aa Ac 1 (WC b c d) (AH [0,1,2,7]) nl nH hm a fun r g=>fun _ hm a=>bk 0 (lo (AF (ZzT co b c d) nH hm a (fun _ hm=>Ap co Aa Ac (Xm) hm a fun r g=>id))))
abbrev G2:Int→AV:=fun y=>vI y
def Ww(c:ByteArray)(b:Int):PT 0 (Int):=QV c b fun a=>br (decide ((a.toNat:Int)<(128:Int))) (lr G2 nG 1) (vg (decide ((194:Int)≤(a.toNat:Int))&&decide ((a.toNat:Int)≤(223:Int))) (wi (b+1))<|Az (decide ((194:Int)≤(a.toNat:Int))&&decide ((a.toNat:Int)≤(223:Int))) (K7 c (b+1) 1) fun j=>br ((decide ((194:Int)≤(a.toNat:Int))&&decide ((a.toNat:Int)≤(223:Int)))&&j) (lr G2 nG 2) (vg (decide ((a.toNat:Int)=(224:Int))) (wi (b+1))<|Az (decide ((a.toNat:Int)=(224:Int))) (QM c (b+1) 160 191) fun g=>vg (decide ((a.toNat:Int)=(224:Int))&&g) (wi (b+2))<|Az (decide ((a.toNat:Int)=(224:Int))&&g) (K7 c (b+2) 1) fun k=>br ((decide ((a.toNat:Int)=(224:Int))&&g)&&k) (lr G2 nG 3) (vg (decide ((a.toNat:Int)=(237:Int))) (wi (b+1))<|Az (decide ((a.toNat:Int)=(237:Int))) (QM c (b+1) 128 159) fun h=>vg (decide ((a.toNat:Int)=(237:Int))&&h) (wi (b+2))<|Az (decide ((a.toNat:Int)=(237:Int))&&h) (K7 c (b+2) 1) fun l=>br ((decide ((a.toNat:Int)=(237:Int))&&h)&&l) (lr G2 nG 3) (vg ((decide ((225:Int)≤(a.toNat:Int))&&decide ((a.toNat:Int)≤(239:Int)))&&(!decide ((a.toNat:Int)=(237:Int)))) (wi (b+1))<|Az ((decide ((225:Int)≤(a.toNat:Int))&&decide ((a.toNat:Int)≤(239:Int)))&&(!decide ((a.toNat:Int)=(237:Int)))) (K7 c (b+1) 2) fun m=>br (((decide ((225:Int)≤(a.toNat:Int))&&decide ((a.toNat:Int)≤(239:Int)))&&(!decide ((a.toNat:Int)=(237:Int))))&&m) (lr G2 nG 3) (vg (decide ((a.toNat:Int)=(240:Int))) (wi (b+1))<|Az (decide ((a.toNat:Int)=(240:Int))) (QM c (b+1) 144 191) fun i=>vg (decide ((a.toNat:Int)=(240:Int))&&i) (wi (b+2))<|Az (decide ((a.toNat:Int)=(240:Int))&&i) (K7 c (b+2) 2) fun n=>br ((decide ((a.toNat:Int)=(240:Int))&&i)&&n) (lr G2 nG 4) (vg (decide ((241:Int)≤(a.toNat:Int))&&decide ((a.toNat:Int)≤(243:Int))) (wi (b+1))<|Az (decide ((241:Int)≤(a.toNat:Int))&&decide ((a.toNat:Int)≤(243:Int))) (K7 c (b+1) 3) fun e=>br ((decide ((241:Int)≤(a.toNat:Int))&&decide ((a.toNat:Int)≤(243:Int)))&&e) (lr G2 nG 4) (vg (decide ((a.toNat:Int)=(244:Int))) (wi (b+1))<|Az (decide ((a.toNat:Int)=(244:Int))) (QM c (b+1) 128 143) fun d=>vg (decide ((a.toNat:Int)=(244:Int))&&d) (wi (b+2))<|Az (decide ((a.toNat:Int)=(244:Int))&&d) (K7 c (b+2) 2) fun f=>br ((decide ((a.toNat:Int)=(244:Int))&&d)&&f) (lr G2 nG 4) (lr G2 nG 0))))))))
def OI(a:ByteArray)(b:Int):Option (Int):=(Ww a b).m
theorem ZWi(a:ByteArray)(b:Int):KC Tryz.prog 189 [vS a,vI b] (OI a b) G2:=Au Tryz.func189 Tryz.ntmps189 Aa [.tmp 4] fun C co y hm c d=>Ap co Aa Ac (Ww a b) hm d fun r g=>fun i=>⟨id,fun j=>⟨id,fun k=>fun l=>⟨id,fun m=>fun n=>⟨id,fun o=>⟨id,fun p=>fun q=>⟨id,fun e=>⟨id,fun f=>fun h=>⟨id,id⟩⟩⟩⟩⟩⟩⟩⟩
abbrev T4:Int→AV:=fun y=>vI y
def wK(a:ByteArray):Int→St:=fun b=>Ab [(0,vS a),(3,vI b)] []
def tO:Unit→Nat×St:=fun _=>(0,Ab [] [])
def W9(b:ByteArray)(a:Int):PT 0 (Lv (Int) (Unit) (Int)):=vz (A9 b.size)<|br (decide (a<(b.size:Int))) (cl (ZWi b a) fun c=>br (decide (c=(0:Int))) (Ar T4 nG a) (vs (wi (a+c))<|ln (wK b) (a+c))) (Ai (tO) ())
def MV(a:ByteArray):Int→Option (Lv (Int) (Unit) (Int)):=fun b=>(W9 a b).m
def Wo:PT 0 (Int):=lr T4 nG (-1)
def WR(a:ByteArray):PT 0 (Int):=lc (Ab [(0,vS a),(3,vI 0)] []) ((An (MV a) Aj 0).bind (Sum.elim (fun _=>(Wo).m) some))
def XB(a:ByteArray):PT 0 (Int):=lc (Ab [(0,vS a)] []) ((WR a).m)
def UG(a:ByteArray):Option (Int):=(XB a).m
theorem ZzH{C:Cx}(co:CO C 0)(a:ByteArray):KL Tryz.prog (AB tl) 18 C (pa [0,0,1,0,1] (Aw Tryz.f162)) [.tmp 2] 0 (wK a) (tO) T4 nG (MV a):=fun e _ hm Q b d c=>Av co Aa Ac (W9 a e) (AH [0,3]) nl d hm c fun r g=>⟨fun f=>⟨id,id⟩,id⟩
theorem ZWK(b:ByteArray):KC Tryz.prog 162 [vS b] (UG b) T4:=Au Tryz.func162 Tryz.ntmps162 Aa [.tmp 2] fun C co y hm c a=>Ak co Aa Ac 1 (XB b) (AH [0]) nl nH hm a fun r g=>fun _ hm a=>sq (Ak co Aa Ac 1 (WR b) (AH [0,3]) nl nH hm a fun r g=>fun _ hm a=>bk 0 (lo (AF (ZzH co b) nH hm a (fun _ hm=>Ap co Aa Ac (Wo) hm a fun r g=>id))))
abbrev ZYu:Bool→AV:=fun y=>vB y
def Xl(a:ByteArray):PT 0 (Bool):=cl (ZWK a) fun b=>lr ZYu nG (decide (b<(0:Int)))
def Mi(a:ByteArray):Option (Bool):=(Xl a).m
theorem yr(a:ByteArray):KC Tryz.prog 121 [vS a] (Mi a) ZYu:=Au Tryz.func121 Tryz.ntmps121 Aa [.tmp 2] fun C co y hm b c=>Ap co Aa Ac (Xl a) hm c fun r g=>fun d=>id
abbrev ZYd:Bool→AV:=fun y=>vB y
def WF(a:Int):PT 0 (Bool):=lr ZYd nG (decide ((1:Int)≤a)&&decide (a≤(9:Int)))
def Ky(a:Int):Option (Bool):=(WF a).m
theorem aF(a:Int):KC Tryz.prog 123 [vI a] (Ky a) ZYd:=Au Tryz.func123 Tryz.ntmps123 Aa [.tmp 2] fun C co y hm b c=>Ap co Aa Ac (WF a) hm c fun r g=>id
abbrev ZYk:Bool→AV:=fun y=>vB y
def Xs(a:Val):PT 0 (Bool):=wg<|vz (Ah a.list)<|wg<|vy (decide ((a.list.length:Int)=(0:Int))) (Ah a.pairs)<|wg<|vy (decide ((a.list.length:Int)=(0:Int))&&decide ((a.pairs.length:Int)=(0:Int))) (Ah a.slots)<|wg<|vy ((decide ((a.list.length:Int)=(0:Int))&&decide ((a.pairs.length:Int)=(0:Int)))&&decide ((a.slots.length:Int)=(0:Int))) (Ah a.raws)<|lr ZYk nG (((decide ((a.list.length:Int)=(0:Int))&&decide ((a.pairs.length:Int)=(0:Int)))&&decide ((a.slots.length:Int)=(0:Int)))&&decide ((a.raws.length:Int)=(0:Int)))
def OL(a:Val):Option (Bool):=(Xs a).m
theorem yu(a:Val):KC Tryz.prog 124 [.agg ((Ag a).map .d)] (OL a) ZYk:=Au Tryz.func124 Tryz.ntmps124 Aa [.tmp 2] fun C co y hm b c=>Ap co Aa Ac (Xs a) hm c fun r g=>id
abbrev ZWQ:Bool→AV:=fun y=>vB y
def M2(a:Int):PT 0 (Bool):=lr ZWQ nG (decide (a=(7:Int))||decide (a=(8:Int)))
def Kv(a:Int):Option (Bool):=(M2 a).m
theorem XE(a:Int):KC Tryz.prog 185 [vI a] (Kv a) ZWQ:=Au Tryz.func185 Tryz.ntmps185 Aa [.tmp 2] fun C co y hm b c=>Ap co Aa Ac (M2 a) hm c fun r g=>id
abbrev HM:Bool→AV:=fun y=>vB y
def PV(b:Int)(a:Val):PT 0 (Bool):=cl (aF b) fun c=>wg<|wg<|Az (!((!c)||(!decide (a.kind=b)))) (yu a) fun d=>br (((!c)||(!decide (a.kind=b)))||(!d)) (lr HM nG false) (cl (XE b) fun e=>br e (wg<|wg<|vy (decide (a.bits=(0:Int))) (A9 a.text.size)<|wg<|Az ((decide (a.bits=(0:Int))&&decide ((a.text.size:Int)≤(4096:Int)))&&(!(decide (b=(8:Int))))) (yr a.text) fun f=>lr HM nG ((decide (a.bits=(0:Int))&&decide ((a.text.size:Int)≤(4096:Int)))&&(decide (b=(8:Int))||f))) (wg<|br (!decide (a.text=(⟨#[]⟩:ByteArray))) (lr HM nG false) (br (decide (b=(1:Int))) (wg<|lr HM nG (decide (a.bits≤(1:Int)))) (br (decide (b=(2:Int))) (wg<|vz (wk .i64 a.bits)<|lr HM nG (decide (((-2147483648):Int)≤(IntKind.i64.wrap a.bits))&&decide ((IntKind.i64.wrap a.bits)≤(2147483647:Int)))) (br (decide (b=(4:Int))) (wg<|lr HM nG (decide (a.bits<(4294967296:Int)))) (br (decide (b=(9:Int))) (wg<|lr HM nG (decide (a.bits<(2147483648:Int)))) (lr HM nG true)))))))
def Jh(a:Int)(b:Val):Option (Bool):=(PV a b).m
theorem ec(a:Int)(b:Val):KC Tryz.prog 160 [vI a,.agg ((Ag b).map .d)] (Jh a b) HM:=Au Tryz.func160 Tryz.ntmps160 Aa [.tmp 4] fun C co y hm c d=>Ap co Aa Ac (PV a b) hm d fun r g=>fun e=>fun f=>⟨id,fun h=>⟨fun i=>id,⟨id,⟨id,⟨id,⟨id,⟨id,id⟩⟩⟩⟩⟩⟩⟩
abbrev eM(a:Scm):Ad×Blk:=kk 2 26 3 (cD (Al a))
abbrev fA(a:Fld):Ad×Blk:=kk 5 33 7 (cD (Ag a.dflt))
abbrev Je:Bool→AV:=fun y=>vB y
def u4(a:Scm)(b:Fld)(d:Int):Nat→St:=fun c=>Ab [pp 2,pp 5,(6,vI d),(7,vN c)] [(eM a),(fA b)]
def wJ:Unit→Nat×St:=fun _=>(0,Ab [] [])
def pL(b:Scm)(f:Fld)(c:Int)(a:Nat):PT 0 (Lv (Nat) (Unit) (Bool)):=wg<|B8 b.enums c fun d=>vz (Ah d.items)<|br (decide ((a:Int)<(d.items.length:Int))) (wg<|B8 b.enums c fun g=>ix g.items a fun e=>vz (wk .u64 e.num)<|wg<|br (decide ((IntKind.u64.wrap e.num)=f.dflt.bits)) (Ar Je nG true) (vs (wa a 1)<|ln (u4 b f c) (a+1))) (Ai (wJ) ())
def WH(a:Scm)(b:Fld)(d:Int):Nat→Option (Lv (Nat) (Unit) (Bool)):=fun c=>(pL a b d c).m
def kO:PT 0 (Bool):=lr Je nG false
def ph(a:Scm)(b:Fld)(c:Int):PT 0 (Bool):=lc (Ab [pp 2,pp 5,(6,vI c),(7,vI 0)] [(eM a),(fA b)]) ((An (WH a b c) Aj 0).bind (Sum.elim (fun _=>(kO).m) some))
def qB(b:Scm)(a:Fld):PT 0 (Bool):=wg<|wg<|wg<|br (!a.hasDefault) (wg<|cl ((xH a.dflt (.mk 0 0 ⟨#[]⟩ ([]:List Val) ([]:List Pr) ([]:List Slt) ([]:List Raw):Val)).nrm (fun _ _ _ h=>.nrm h) (xs':=[.agg ((Ag a.dflt).map .d),.agg [vI 0,.d (.int .u64 0),vS ⟨#[]⟩,.e0,.e0,.e0,.e0]]) (by intro r;kernel_rfl)) fun e=>lr Je nG e) (wg<|wg<|wg<|wg<|Az (!((!decide (a.card=(2:Int)))||(!decide (a.union=(⟨#[]⟩:ByteArray))))) (ec a.type.kind a.dflt) fun c=>wg<|wg<|Az (!(((!decide (a.card=(2:Int)))||(!decide (a.union=(⟨#[]⟩:ByteArray))))||(!c))) (eZ a.dflt) fun f=>Az (!(((!decide (a.card=(2:Int)))||(!decide (a.union=(⟨#[]⟩:ByteArray))))||(!c))) (xH a.dflt f) fun g=>br ((((!decide (a.card=(2:Int)))||(!decide (a.union=(⟨#[]⟩:ByteArray))))||(!c))||(!g)) (lr Je nG false) (wg<|wg<|cl (zQ b a.type.name) fun d=>wg<|br (!decide (a.type.kind=(9:Int))) (lr Je nG true) (br (decide (d<(0:Int))) (lr Je nG false) (lc (Ab [pp 2,pp 5,(6,vI d)] [(eM b),(fA a)]) ((ph b a d).m)))))
def g9(a:Scm)(b:Fld):Option (Bool):=(qB a b).m
theorem ZDo{C:Cx}(co:CO C 0)(a:Scm)(b:Fld)(c:Int):KL Tryz.prog (AB tl) 75 C (pa [0,0,1,0,1,1,1,1,1,1,1] (Aw Tryz.f118)) [.tmp 4] 0 (u4 a b c) (wJ) Je nG (WH a b c):=fun h _ hm Q d f e=>Av co Aa Ac (pL a b c h) (Ae [2,5,6,7] Lg) nl f hm e fun r g=>fun i=>⟨fun j=>fun k=>⟨id,id⟩,id⟩
theorem ZV5(b:Scm)(c:Fld):KC Tryz.prog 118 [.agg ((Al b).map .d),.agg ((Ao c).map .d)] (g9 b c) Je:=Au Tryz.func118 Tryz.ntmps118 Aa [.tmp 4] fun C co y hm d a=>Ak co Aa Ac 7 (qB b c) (Ae [2,5,6] Lg) nl nH hm a fun r g=>⟨fun f=>id,fun h=>fun i=>fun j=>⟨id,fun e=>⟨id,⟨id,fun _ hm a=>sq (Ak co Aa Ac 1 (ph b c e) (Ae [2,5,6,7] Lg) nl nH hm a fun r g=>fun _ hm a=>bk 0 (lo (AF (ZDo co b c e) nH hm a (fun _ hm=>Ap co Aa Ac (kO) hm a fun r g=>id))))⟩⟩⟩⟩
abbrev lb1:ByteArray:=⟨#[115,105,110,99,101]⟩
abbrev lb2:ByteArray:=⟨#[109,105,110]⟩
abbrev lb3:ByteArray:=⟨#[109,97,120]⟩
abbrev lb4:ByteArray:=⟨#[117,110,116,105,108]⟩
abbrev lb5:ByteArray:=⟨#[108,101,110,103,116,104]⟩
abbrev lb6:ByteArray:=⟨#[116,105,109,101,111,117,116]⟩
abbrev lb7:ByteArray:=⟨#[97,108,105,97,115]⟩
abbrev lb8:ByteArray:=⟨#[114,111,117,116,101]⟩
abbrev D7:Int→AV:=fun y=>vI y
def O0(a:ByteArray):PT 0 (Int):=br (decide (a=lb2)) (br (decide (a=lb2)) (lr D7 nG 3) (lr D7 nG 0)) (br (decide (a=lb3)) (lr D7 nG 3) (lr D7 nG 0))
def O9(a:ByteArray):PT 0 (Int):=br (decide (a=lb1)) (br (decide (a=lb1)) (lr D7 nG 4) (O0 a)) (br (decide (a=lb4)) (br (decide (a=lb4)) (lr D7 nG 4) (O0 a)) (br (decide (a=lb5)) (br (decide (a=lb5)) (lr D7 nG 4) (O0 a)) (br (decide (a=lb6)) (lr D7 nG 4) (O0 a))))
def Vs(a:ByteArray):PT 0 (Int):=br (decide (a=(⟨#[100,111,99]⟩:ByteArray))) (br (decide (a=(⟨#[100,111,99]⟩:ByteArray))) (lr D7 nG 7) (O9 a)) (br (decide (a=lb7)) (br (decide (a=lb7)) (lr D7 nG 7) (O9 a)) (br (decide (a=lb8)) (br (decide (a=lb8)) (lr D7 nG 7) (O9 a)) (br (decide (a=(⟨#[111,119,110,101,114]⟩:ByteArray))) (lr D7 nG 7) (O9 a))))
def nK(a:ByteArray):PT 0 (Int):=br (decide (a=(⟨#[100,101,112,114,101,99,97,116,101,100]⟩:ByteArray))) (br (decide (a=(⟨#[100,101,112,114,101,99,97,116,101,100]⟩:ByteArray))) (lr D7 nG 1) (Vs a)) (br (decide (a=(⟨#[115,101,99,114,101,116]⟩:ByteArray))) (br (decide (a=(⟨#[115,101,99,114,101,116]⟩:ByteArray))) (lr D7 nG 1) (Vs a)) (br (decide (a=(⟨#[105,100,101,109,112,111,116,101,110,116]⟩:ByteArray))) (lr D7 nG 1) (Vs a)))
def gQ(a:ByteArray):Option (Int):=(nK a).m
theorem zo(a:ByteArray):KC Tryz.prog 186 [vS a] (gQ a) D7:=Au Tryz.func186 Tryz.ntmps186 Aa [.tmp 2] fun C co y hm b c=>Ap co Aa Ac (nK a) hm c fun r g=>⟨⟨id,⟨⟨id,⟨⟨id,⟨⟨id,id⟩,⟨id,id⟩⟩⟩,⟨⟨id,⟨⟨id,id⟩,⟨id,id⟩⟩⟩,⟨⟨id,⟨⟨id,id⟩,⟨id,id⟩⟩⟩,⟨id,⟨⟨id,id⟩,⟨id,id⟩⟩⟩⟩⟩⟩⟩,⟨⟨id,⟨⟨id,⟨⟨id,id⟩,⟨id,id⟩⟩⟩,⟨⟨id,⟨⟨id,id⟩,⟨id,id⟩⟩⟩,⟨⟨id,⟨⟨id,id⟩,⟨id,id⟩⟩⟩,⟨id,⟨⟨id,id⟩,⟨id,id⟩⟩⟩⟩⟩⟩⟩,⟨⟨id,⟨⟨id,⟨⟨id,id⟩,⟨id,id⟩⟩⟩,⟨⟨id,⟨⟨id,id⟩,⟨id,id⟩⟩⟩,⟨⟨id,⟨⟨id,id⟩,⟨id,id⟩⟩⟩,⟨id,⟨⟨id,id⟩,⟨id,id⟩⟩⟩⟩⟩⟩⟩,⟨id,⟨⟨id,⟨⟨id,id⟩,⟨id,id⟩⟩⟩,⟨⟨id,⟨⟨id,id⟩,⟨id,id⟩⟩⟩,⟨⟨id,⟨⟨id,id⟩,⟨id,id⟩⟩⟩,⟨id,⟨⟨id,id⟩,⟨id,id⟩⟩⟩⟩⟩⟩⟩⟩⟩⟩⟩,⟨⟨id,⟨⟨id,⟨⟨id,⟨⟨id,id⟩,⟨id,id⟩⟩⟩,⟨⟨id,⟨⟨id,id⟩,⟨id,id⟩⟩⟩,⟨⟨id,⟨⟨id,id⟩,⟨id,id⟩⟩⟩,⟨id,⟨⟨id,id⟩,⟨id,id⟩⟩⟩⟩⟩⟩⟩,⟨⟨id,⟨⟨id,⟨⟨id,id⟩,⟨id,id⟩⟩⟩,⟨⟨id,⟨⟨id,id⟩,⟨id,id⟩⟩⟩,⟨⟨id,⟨⟨id,id⟩,⟨id,id⟩⟩⟩,⟨id,⟨⟨id,id⟩,⟨id,id⟩⟩⟩⟩⟩⟩⟩,⟨⟨id,⟨⟨id,⟨⟨id,id⟩,⟨id,id⟩⟩⟩,⟨⟨id,⟨⟨id,id⟩,⟨id,id⟩⟩⟩,⟨⟨id,⟨⟨id,id⟩,⟨id,id⟩⟩⟩,⟨id,⟨⟨id,id⟩,⟨id,id⟩⟩⟩⟩⟩⟩⟩,⟨id,⟨⟨id,⟨⟨id,id⟩,⟨id,id⟩⟩⟩,⟨⟨id,⟨⟨id,id⟩,⟨id,id⟩⟩⟩,⟨⟨id,⟨⟨id,id⟩,⟨id,id⟩⟩⟩,⟨id,⟨⟨id,id⟩,⟨id,id⟩⟩⟩⟩⟩⟩⟩⟩⟩⟩⟩,⟨id,⟨⟨id,⟨⟨id,⟨⟨id,id⟩,⟨id,id⟩⟩⟩,⟨⟨id,⟨⟨id,id⟩,⟨id,id⟩⟩⟩,⟨⟨id,⟨⟨id,id⟩,⟨id,id⟩⟩⟩,⟨id,⟨⟨id,id⟩,⟨id,id⟩⟩⟩⟩⟩⟩⟩,⟨⟨id,⟨⟨id,⟨⟨id,id⟩,⟨id,id⟩⟩⟩,⟨⟨id,⟨⟨id,id⟩,⟨id,id⟩⟩⟩,⟨⟨id,⟨⟨id,id⟩,⟨id,id⟩⟩⟩,⟨id,⟨⟨id,id⟩,⟨id,id⟩⟩⟩⟩⟩⟩⟩,⟨⟨id,⟨⟨id,⟨⟨id,id⟩,⟨id,id⟩⟩⟩,⟨⟨id,⟨⟨id,id⟩,⟨id,id⟩⟩⟩,⟨⟨id,⟨⟨id,id⟩,⟨id,id⟩⟩⟩,⟨id,⟨⟨id,id⟩,⟨id,id⟩⟩⟩⟩⟩⟩⟩,⟨id,⟨⟨id,⟨⟨id,id⟩,⟨id,id⟩⟩⟩,⟨⟨id,⟨⟨id,id⟩,⟨id,id⟩⟩⟩,⟨⟨id,⟨⟨id,id⟩,⟨id,id⟩⟩⟩,⟨id,⟨⟨id,id⟩,⟨id,id⟩⟩⟩⟩⟩⟩⟩⟩⟩⟩⟩⟩⟩
abbrev lb9:ByteArray:=⟨#[109,105,110]⟩
abbrev ZX2:ByteArray:=⟨#[105,100,101,109,112,111,116,101,110,116]⟩
abbrev ZXN:ByteArray:=⟨#[116,105,109,101,111,117,116]⟩
abbrev ZZB:ByteArray:=⟨#[114,111,117,116,101]⟩
abbrev ZXP:ByteArray:=⟨#[109,97,120]⟩
abbrev ZX0:ByteArray:=⟨#[108,101,110,103,116,104]⟩
abbrev ZZQ:ByteArray:=⟨#[115,101,99,114,101,116]⟩
abbrev Hz:Bool→AV:=fun y=>vB y
def U6(a:Int):PT 0 (Bool):=lr Hz nG (decide (a=(1:Int))||decide (a=(5:Int)))
def OZ(b:ByteArray)(a:Int):PT 0 (Bool):=br (decide (b=ZX2)) (br (decide (b=ZX2)) (lr Hz nG (decide (a=(6:Int)))) (U6 a)) (br (decide (b=ZXN)) (br (decide (b=ZXN)) (lr Hz nG (decide (a=(6:Int)))) (U6 a)) (br (decide (b=ZZB)) (lr Hz nG (decide (a=(6:Int)))) (U6 a)))
def O1(a:Int):PT 0 (Bool):=lr Hz nG (decide (a=(2:Int)))
def Vr(a:ByteArray)(b:Int):PT 0 (Bool):=br (decide (a=lb9)) (br (decide (a=lb9)) (O1 b) (OZ a b)) (br (decide (a=ZXP)) (br (decide (a=ZXP)) (O1 b) (OZ a b)) (br (decide (a=ZX0)) (br (decide (a=ZX0)) (O1 b) (OZ a b)) (br (decide (a=ZZQ)) (O1 b) (OZ a b))))
def Ve(a:Int):PT 0 (Bool):=lr Hz nG ((decide (a=(2:Int))||decide (a=(4:Int)))||decide (a=(6:Int)))
def jt(a:ByteArray)(b:Int):PT 0 (Bool):=br (decide (a=(⟨#[97,108,105,97,115]⟩:ByteArray))) (br (decide (a=(⟨#[97,108,105,97,115]⟩:ByteArray))) (Ve b) (Vr a b)) (br (decide (a=(⟨#[115,105,110,99,101]⟩:ByteArray))) (br (decide (a=(⟨#[115,105,110,99,101]⟩:ByteArray))) (Ve b) (Vr a b)) (br (decide (a=(⟨#[117,110,116,105,108]⟩:ByteArray))) (Ve b) (Vr a b)))
def qf(b:ByteArray)(a:Int):PT 0 (Bool):=br (decide (b=(⟨#[100,101,112,114,101,99,97,116,101,100]⟩:ByteArray))) (br (decide (b=(⟨#[100,101,112,114,101,99,97,116,101,100]⟩:ByteArray))) (lr Hz nG (decide ((1:Int)≤a)&&decide (a≤(6:Int)))) (jt b a)) (br (decide (b=(⟨#[100,111,99]⟩:ByteArray))) (lr Hz nG (decide ((1:Int)≤a)&&decide (a≤(6:Int)))) (jt b a))
def gL(a:ByteArray)(b:Int):Option (Bool):=(qf a b).m
theorem ZVl(a:ByteArray)(b:Int):KC Tryz.prog 187 [vS a,vI b] (gL a b) Hz:=Au Tryz.func187 Tryz.ntmps187 Aa [.tmp 4] fun C co y hm c d=>Ap co Aa Ac (qf a b) hm d fun r g=>⟨⟨id,⟨⟨id,⟨⟨id,⟨⟨id,id⟩,⟨⟨id,id⟩,⟨id,id⟩⟩⟩⟩,⟨⟨id,⟨⟨id,id⟩,⟨⟨id,id⟩,⟨id,id⟩⟩⟩⟩,⟨⟨id,⟨⟨id,id⟩,⟨⟨id,id⟩,⟨id,id⟩⟩⟩⟩,⟨id,⟨⟨id,id⟩,⟨⟨id,id⟩,⟨id,id⟩⟩⟩⟩⟩⟩⟩⟩,⟨⟨id,⟨⟨id,⟨⟨id,id⟩,⟨⟨id,id⟩,⟨id,id⟩⟩⟩⟩,⟨⟨id,⟨⟨id,id⟩,⟨⟨id,id⟩,⟨id,id⟩⟩⟩⟩,⟨⟨id,⟨⟨id,id⟩,⟨⟨id,id⟩,⟨id,id⟩⟩⟩⟩,⟨id,⟨⟨id,id⟩,⟨⟨id,id⟩,⟨id,id⟩⟩⟩⟩⟩⟩⟩⟩,⟨id,⟨⟨id,⟨⟨id,id⟩,⟨⟨id,id⟩,⟨id,id⟩⟩⟩⟩,⟨⟨id,⟨⟨id,id⟩,⟨⟨id,id⟩,⟨id,id⟩⟩⟩⟩,⟨⟨id,⟨⟨id,id⟩,⟨⟨id,id⟩,⟨id,id⟩⟩⟩⟩,⟨id,⟨⟨id,id⟩,⟨⟨id,id⟩,⟨id,id⟩⟩⟩⟩⟩⟩⟩⟩⟩⟩⟩,⟨id,⟨⟨id,⟨⟨id,⟨⟨id,id⟩,⟨⟨id,id⟩,⟨id,id⟩⟩⟩⟩,⟨⟨id,⟨⟨id,id⟩,⟨⟨id,id⟩,⟨id,id⟩⟩⟩⟩,⟨⟨id,⟨⟨id,id⟩,⟨⟨id,id⟩,⟨id,id⟩⟩⟩⟩,⟨id,⟨⟨id,id⟩,⟨⟨id,id⟩,⟨id,id⟩⟩⟩⟩⟩⟩⟩⟩,⟨⟨id,⟨⟨id,⟨⟨id,id⟩,⟨⟨id,id⟩,⟨id,id⟩⟩⟩⟩,⟨⟨id,⟨⟨id,id⟩,⟨⟨id,id⟩,⟨id,id⟩⟩⟩⟩,⟨⟨id,⟨⟨id,id⟩,⟨⟨id,id⟩,⟨id,id⟩⟩⟩⟩,⟨id,⟨⟨id,id⟩,⟨⟨id,id⟩,⟨id,id⟩⟩⟩⟩⟩⟩⟩⟩,⟨id,⟨⟨id,⟨⟨id,id⟩,⟨⟨id,id⟩,⟨id,id⟩⟩⟩⟩,⟨⟨id,⟨⟨id,id⟩,⟨⟨id,id⟩,⟨id,id⟩⟩⟩⟩,⟨⟨id,⟨⟨id,id⟩,⟨⟨id,id⟩,⟨id,id⟩⟩⟩⟩,⟨id,⟨⟨id,id⟩,⟨⟨id,id⟩,⟨id,id⟩⟩⟩⟩⟩⟩⟩⟩⟩⟩⟩⟩
abbrev ZWV:Bool→AV:=fun y=>vB y
def mY(b:Nt):PT 0 (Bool):=wg<|cl (zo b.name) fun a=>wg<|wg<|Az ((!decide (a=(0:Int)))&&decide (b.val.kind=a)) (ec a b.val) fun c=>lr ZWV nG (((!decide (a=(0:Int)))&&decide (b.val.kind=a))&&c)
def hP(a:Nt):Option (Bool):=(mY a).m
theorem ZWn(a:Nt):KC Tryz.prog 188 [.agg ((BS a).map .d)] (hP a) ZWV:=Au Tryz.func188 Tryz.ntmps188 Aa [.tmp 2] fun C co y hm b c=>Ap co Aa Ac (mY a) hm c fun r g=>fun d=>fun e=>id
abbrev HS:Int→AV:=fun y=>vI y
def s9(a:List Nt)(b:Int):Nat→St:=fun c=>Ab [(0,vL BS a),(1,vI b),(5,vN c)] []
def um:Unit→Nat×St:=fun _=>(0,Ab [] [])
def oZ(b:List Nt)(e:Int)(a:Nat):PT 0 (Lv (Nat) (Unit) (Int)):=vz (Ah b)<|br (decide ((a:Int)<(b.length:Int))) (ix b a fun f=>cl (zo f.name) fun k=>br (decide (k=(0:Int))) (Ar HS nG 8) (ix b a fun g=>cl (ZVl g.name e) fun l=>br (!l) (Ar HS nG 1) (ix b a fun h=>cl (ZWn h) fun m=>br (!m) (Ar HS nG 12) (AZ (decide ((0:Int)<(a:Int))) b (a:Int) fun i=>vg (decide ((0:Int)<(a:Int))) (wi ((a:Int)-1))<|AZ (decide ((0:Int)<(a:Int))) b ((a:Int)-1) fun j=>br (decide ((0:Int)<(a:Int))&&Bx i.name j.name) (Ar HS nG 11) (AZ (decide ((0:Int)<(a:Int))) b (a:Int) fun c=>vg (decide ((0:Int)<(a:Int))) (wi ((a:Int)-1))<|AZ (decide ((0:Int)<(a:Int))) b ((a:Int)-1) fun d=>br (decide ((0:Int)<(a:Int))&&decide (c.name=d.name)) (Ar HS nG 9) (vs (wa a 1)<|ln (s9 b e) (a+1))))))) (Ai (um) ())
def W8(a:List Nt)(b:Int):Nat→Option (Lv (Nat) (Unit) (Int)):=fun c=>(oZ a b c).m
def oR:PT 0 (Int):=lr HS nG 0
def lF(a:List Nt)(b:Int):PT 0 (Int):=lc (Ab [(0,vL BS a),(1,vI b),(5,vI 0)] []) ((An (W8 a b) Aj 0).bind (Sum.elim (fun _=>(oR).m) some))
def o1(a:List Nt)(b:Int):PT 0 (Int):=vz (Ah a)<|br (decide ((8:Int)<(a.length:Int))) (lr HS nG 3) (lc (Ab [(0,vL BS a),(1,vI b)] []) ((lF a b).m))
def gW(a:List Nt)(b:Int):Option (Int):=(o1 a b).m
theorem ZCh{C:Cx}(co:CO C 0)(a:List Nt)(b:Int):KL Tryz.prog (AB tl) 68 C (pa [0,0,1,0,1,1] (Aw Tryz.f161)) [.tmp 4] 0 (s9 a b) (um) HS nG (W8 a b):=fun i _ hm Q c h f=>Av co Aa Ac (oZ a b i) (AH [0,1,5]) nl h hm f fun r g=>⟨fun j=>fun o=>⟨id,fun k=>fun p=>⟨id,fun l=>fun q=>⟨id,fun m=>fun n=>⟨id,fun d=>fun e=>⟨id,id⟩⟩⟩⟩⟩,id⟩
theorem ZUH(b:List Nt)(c:Int):KC Tryz.prog 161 [vL BS b,vI c] (gW b c) HS:=Au Tryz.func161 Tryz.ntmps161 Aa [.tmp 4] fun C co y hm d a=>Ak co Aa Ac 2 (o1 b c) (AH [0,1]) nl nH hm a fun r g=>⟨id,fun _ hm a=>sq (Ak co Aa Ac 1 (lF b c) (AH [0,1,5]) nl nH hm a fun r g=>fun _ hm a=>bk 0 (lo (AF (ZCh co b c) nH hm a (fun _ hm=>Ap co Aa Ac (oR) hm a fun r g=>id))))⟩
abbrev ZYt:List Prb→AV:=fun y=>.tup []
@[reducible] def ZXl(a:ByteArray):List Prb→List Blk:=fun y=>[⟨0,true,134,2,[vS a,.ref (0,1) 0 0 y.length]⟩,⟨0,true,170,3,Af AA y⟩]
def k8(a:ByteArray)(b:List Prb):PT 2 (List Prb):=lr ZYt (ZXl a) b
def ma(a:ByteArray)(b:List Prb):PT 2 (List Prb):=vz (fl b)<|lc (Ab [] (Dq a b)) ((k8 a b).m)
def ny(a:ByteArray)(b:List Prb)(d:Int)(c:Int):PT 2 (List Prb):=vz (fl b)<|lc (Ab [(12,.ptr (0,0) 0 0),(14,vB (!decide (c=(0:Int)))),(15,vI d),(16,vI c)] (Dq a b)) ((BF a b (!decide (c=(0:Int))) d c).bind fun e=>(ma a e).m)
def nZ(a:ByteArray)(b:List Prb)(e:List Nt)(f:Int)(c:Int):PT 2 (List Prb):=cl (ZUH e f) fun d=>vz (fl b)<|lc (Ab [(0,.ptr (0,0) 0 0),(3,vI c),(8,vI d)] (Dq a b)) ((ny a b c d).m)
def HU(a:ByteArray)(b:List Prb)(c:List Nt)(d:Int)(e:Int):Option (List Prb):=(nZ a b c d e).m
theorem Nq(a:ByteArray)(b:List Prb)(e:List Nt)(f:Int)(d:Int):KG Tryz.prog 119 2 [1] [(1,0)] [.ptr (0,0) 0 0,vL BS e,vI f,vI d] [⟨0,true,134,2,[vS a,.ref (0,1) 0 0 b.length]⟩,⟨0,true,170,3,Af AA b⟩] (HU a b e f d) ZYt (ZXl a):=qS Tryz.func119 Tryz.ntmps119 Aa [] 2 [1] [0] [(1,0)] (fun C co k y hm i c=>Ak co Aa Ac 1 (nZ a b e f d) (Ae [0,3,8] Fr) nl nH hm c fun r g=>fun h=>fun _ hm c=>rg (BK co Aa 5 (ny a b d h) (Ae [12,14,15,16] Fr) hm c fun r g=>fun _ hm c=>Bt co hm (BV a b (!decide (h=(0:Int))) d h) (Dq a b) [] (fun z=>.tup []) (Dq a) [] fun j hm=>Bf co Aa (ma a j) (Ae [] Fr) hm c fun r g=>fun _ hm c=>fG (k8 a j) co hm c (fun r g=>id) r g))
abbrev fJ:List Prb→AV:=fun y=>.tup []
@[reducible] def fW(a:ByteArray):List Prb→List Blk:=fun y=>[⟨0,true,134,2,[vS a,.ref (0,1) 0 0 y.length]⟩,⟨0,true,170,3,Af AA y⟩]
def uP(a:ByteArray)(b:List Spn)(c:Int)(d:Int):Nat×List Prb→St:=fun(f,e)=>Ab [(0,.ptr (0,0) 0 0),(1,vL Cv b),(2,vI c),(3,vI d),(8,vN f)] (Dq a e)
def uZ(a:ByteArray):List Prb→Nat×St:=fun b=>(0,Ab [] (Dq a b))
def qa(a:ByteArray)(d:List Spn)(e:Int)(f:Int)(c:Nat)(b:List Prb):PT 2 (Lv (Nat×List Prb) (List Prb) (List Prb)):=vs (wa c 1)<|vz (fl b)<|ln (uP a d e f) (c+1,b)
def l7(a:ByteArray)(c:List Spn)(d:Int)(e:Int)(f:Nat)(b:List Prb):PT 2 (Lv (Nat×List Prb) (List Prb) (List Prb)):=vz (fl b)<|lc (Ab [(0,.ptr (0,0) 0 0),(1,vL Cv c),(2,vI d),(3,vI e),(8,vN f)] (Dq a b)) ((qa a c d e f b).m)
def qw(a:ByteArray)(c:List Spn)(h:Int)(i:Int)(b:Nat)(e:List Prb):PT 2 (Lv (Nat×List Prb) (List Prb) (List Prb)):=AZ (decide ((0:Int)<(b:Int))) c (b:Int) fun f=>vg (decide ((0:Int)<(b:Int))) (wi ((b:Int)-1))<|AZ (decide ((0:Int)<(b:Int))) c ((b:Int)-1) fun g=>vz (fl e)<|lc (Ab [(0,.ptr (0,0) 0 0),(1,vL Cv c),(2,vI h),(3,vI i),(8,vN b),(46,.ptr (0,0) 0 0),(62,vB (decide ((0:Int)<(b:Int))&&decide (f.lo≤g.hi)))] (Dq a e)) ((BF a e (decide ((0:Int)<(b:Int))&&decide (f.lo≤g.hi)) (-1) 11).bind fun d=>(l7 a c h i b d).m)
def oN(a:ByteArray)(c:List Spn)(d:Int)(e:Int)(f:Nat)(b:List Prb):PT 2 (Lv (Nat×List Prb) (List Prb) (List Prb)):=vz (fl b)<|lc (Ab [(0,.ptr (0,0) 0 0),(1,vL Cv c),(2,vI d),(3,vI e),(8,vN f)] (Dq a b)) ((qw a c d e f b).m)
def k9(a:ByteArray)(c:List Spn)(b:Int)(d:Int)(e:Nat)(h:List Prb):PT 2 (Lv (Nat×List Prb) (List Prb) (List Prb)):=ix c e fun f=>AZ (!(decide (f.lo<b))) c (e:Int) fun g=>AZ (!(decide (f.lo<b)||decide (d<g.hi))) c (e:Int) fun i=>AZ (!(decide (f.lo<b)||decide (d<g.hi))) c (e:Int) fun j=>vz (fl h)<|lc (Ab [(0,.ptr (0,0) 0 0),(1,vL Cv c),(2,vI b),(3,vI d),(8,vN e),(15,.ptr (0,0) 0 0),(44,vB ((decide (f.lo<b)||decide (d<g.hi))||decide (j.hi<i.lo)))] (Dq a h)) ((BF a h ((decide (f.lo<b)||decide (d<g.hi))||decide (j.hi<i.lo)) (-1) 6).bind fun k=>(oN a c b d e k).m)
def p9(a:ByteArray)(c:List Spn)(e:Int)(f:Int)(d:Nat)(b:List Prb):PT 2 (Lv (Nat×List Prb) (List Prb) (List Prb)):=vz (Ah c)<|br (decide ((d:Int)<(c.length:Int))) (vz (fl b)<|lc (Ab [(0,.ptr (0,0) 0 0),(1,vL Cv c),(2,vI e),(3,vI f),(8,vN d)] (Dq a b)) ((k9 a c e f d b).m)) (vz (fl b)<|Ai (uZ a) b)
def W3(a:ByteArray)(b:List Spn)(c:Int)(d:Int):Nat×List Prb→Option (Lv (Nat×List Prb) (List Prb) (List Prb)):=fun(f,e)=>(p9 a b c d f e).m
def kZ(a:ByteArray)(b:List Prb):PT 2 (List Prb):=lr fJ (fW a) b
def mI(a:ByteArray)(b:List Prb)(d:List Spn)(e:Int)(f:Int):PT 2 (List Prb):=vz (fl b)<|lc (Ab [(0,.ptr (0,0) 0 0),(1,vL Cv d),(2,vI e),(3,vI f),(8,vI 0)] (Dq a b)) ((An (W3 a d e f) Aj (0,b)).bind (Sum.elim (fun c=>(kZ a c).m) some))
def OM(a:ByteArray)(b:List Prb)(c:List Spn)(d:Int)(e:Int):Option (List Prb):=(mI a b c d e).m
theorem ZCB{C:Cx}(co:COx C 2 [0])(t:Ix C.κ [(1,0)])(a:ByteArray)(e:List Spn)(c:Int)(d:Int):KL Tryz.prog (AB tl) 64 C (pa [0,0,1] (Aw Tryz.f120)) [] 2 (uP a e c d) (uZ a) fJ (fW a) (W3 a e c d):=fun(f,i) _ hm Q k l b=>Ak co Aa Ac 1 (p9 a e c d f i) (Ae [0,1,2,3,8] Fr) (Ae [] Fr) l hm b fun r g=>⟨fun _ hm b=>sq (bk 1 (sq (Fk co Aa Ac 30 (k9 a e c d f i) (Ae [0,1,2,3,8,15,44] Fr) hm b fun r g=>fun m=>fun n=>fun o=>fun p=>fun _ hm b=>Bt co hm (BV a i ((decide (m.lo<c)||decide (d<n.hi))||decide (p.hi<o.lo)) (-1) 6) (Dq a i) [] (fun z=>.tup []) (Dq a) [] fun j hm=>Bf co Aa (oN a e c d f j) (Ae [0,1,2,3,8] Fr) hm b fun r g=>fun _ hm b=>Fk co Aa Ac 17 (qw a e c d f j) (Ae [0,1,2,3,8,46,62] Fr) hm b fun r g=>fun q=>fun s=>fun _ hm b=>Bt co hm (BV a j (decide ((0:Int)<(f:Int))&&decide (q.lo≤s.hi)) (-1) 11) (Dq a j) [] (fun z=>.tup []) (Dq a) [] fun h hm=>Bf co Aa (l7 a e c d f h) (Ae [0,1,2,3,8] Fr) hm b fun r g=>fun _ hm b=>Av co Aa Ac (qa a e c d f h) (Ae [0,1,2,3,8] Fr) nl l hm b fun r g=>id))),id⟩
theorem ZSD(a:ByteArray)(b:List Prb)(d:List Spn)(e:Int)(f:Int):KG Tryz.prog 120 2 [1] [(1,0)] [.ptr (0,0) 0 0,vL Cv d,vI e,vI f] [⟨0,true,134,2,[vS a,.ref (0,1) 0 0 b.length]⟩,⟨0,true,170,3,Af AA b⟩] (OM a b d e f) fJ (fW a):=qS Tryz.func120 Tryz.ntmps120 Aa [] 2 [1] [0] [(1,0)] (fun C co h y hm j c=>Ak co Aa Ac 1 (mI a b d e f) (Ae [0,1,2,3,8] Fr) nl nH hm c fun r g=>fun _ hm c=>bk 0 (lo (AF (ZCB co h a d e f) nH hm c (fun i hm=>fG (kZ a i) co hm c (fun r g=>id) r g))))
end Go.Proofs.YthgmbpciandpiaaGreat
