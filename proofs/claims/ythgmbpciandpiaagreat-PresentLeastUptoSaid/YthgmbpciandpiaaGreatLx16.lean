import Derived.Test.YthgmbpciandpiaaGreatLx15
import Derived.Test.YthgmbpciandpiaaGreatLx00
namespace Go.Proofs.YthgmbpciandpiaaGreat
set_option maxRecDepth 100000
set_option linter.all false
open Go Go.Eng
abbrev cP(a:Scm):Ad×Blk:=kk 2 26 3 (cD (Al a))
abbrev Sa:Int→AV:=fun y=>vI y
def ry(a:Scm)(b:ByteArray):Nat→St:=fun c=>Ab [(1,vS b),pp 2,(5,vN c)] [(cP a)]
def r4:Unit→Nat×St:=fun _=>(0,Ab [] [])
def jv(b:Scm)(c:ByteArray)(a:Nat):PT 0 (Lv (Nat) (Unit) (Int)):=wg<|vz (Ah b.enums)<|br (decide ((a:Int)<(b.enums.length:Int))) (wg<|ix b.enums a fun d=>br (decide (d.name=c)) (Au Sa nG (a:Int)) (vs (wa a 1)<|ln (ry b c) (a+1))) (Aj (r4) ())
def VA(a:Scm)(b:ByteArray):Nat→Option (Lv (Nat) (Unit) (Int)):=fun c=>(jv a b c).m
def kK:PT 0 (Int):=lr Sa nG (-1)
def jU(a:Scm)(b:ByteArray):PT 0 (Int):=lc (Ab [(1,vS b),pp 2,(5,vI 0)] [(cP a)]) ((Am (VA a b) Ai 0).bind (Sum.elim (fun _=>(kK).m) some))
def jB(a:Scm)(b:ByteArray):PT 0 (Int):=lc (Ab [(1,vS b),pp 2] [(cP a)]) ((jU a b).m)
def ee(a:Scm)(b:ByteArray):Option (Int):=(jB a b).m
theorem ZBL{C:Cx}(co:CO C 0)(a:Scm)(b:ByteArray):KL Tryz.prog (Az tl) 22 C (pa [0,0,1,0,1] (Aw Tryz.f158)) [.tmp 4] 0 (ry a b) (r4) Sa nG (VA a b):=fun f _ hm Q c e d=>Av co Aa Ac (jv a b f) (Ae [1,2,5] Ee) nl e hm d fun r g=>⟨fun h=>⟨id,id⟩,id⟩
theorem vP(b:Scm)(c:ByteArray):KC Tryz.prog 158 [.agg ((Al b).map .d),vS c] (ee b c) Sa:=As Tryz.func158 Tryz.ntmps158 Aa [.tmp 4] fun C co y hm d a=>Ak co Aa Ac 1 (jB b c) (Ae [1,2] Ee) nl nH hm a fun r g=>fun _ hm a=>sq (Ak co Aa Ac 1 (jU b c) (Ae [1,2,5] Ee) nl nH hm a fun r g=>fun _ hm a=>bk 0 (lo (AF (ZBL co b c) nH hm a (fun _ hm=>Ao co Aa Ac (kK) hm a fun r g=>id))))
abbrev RZ:Bool→AV:=fun y=>vB y
def l1(b:Scm)(a:Fld):PT 0 (Bool):=wg<|br (decide (a.type.kind=(9:Int))) (wg<|wg<|cl (vP b a.type.name) fun c=>lr RZ nG (decide ((0:Int)≤c))) (br (decide (a.type.kind=(10:Int))) (wg<|wg<|cl (P9 b a.type.name) fun d=>wg<|lr RZ nG (decide ((0:Int)≤d)&&(!decide (a.card=(3:Int))))) (wg<|wg<|wg<|lr RZ nG ((decide ((1:Int)≤a.type.kind)&&decide (a.type.kind≤(8:Int)))&&decide (a.type.name=(⟨#[]⟩:ByteArray)))))
def fh(a:Scm)(b:Fld):Option (Bool):=(l1 a b).m
theorem ZVV(a:Scm)(b:Fld):KC Tryz.prog 116 [.agg ((Al a).map .d),.agg ((An b).map .d)] (fh a b) RZ:=As Tryz.func116 Tryz.ntmps116 Aa [.tmp 4] fun C co y hm c d=>Ao co Aa Ac (l1 a b) hm d fun r g=>⟨fun e=>id,⟨fun f=>id,id⟩⟩
abbrev KU:List (Ad×Bool):=[((1,2),false),((1,5),false)]
abbrev Td(a:Msg):Ad×Blk:=kk 2 61 5 (cD (AB a))
abbrev SW(a:Fld):Ad×Blk:=kk 5 56 16 (cD (An a))
abbrev Lq:Bool→AV:=fun y=>vB y
def iU(b:Msg)(c:Int)(a:Fld):Bool×Nat→St:=fun(v3,v4)=>Ab [(1,vI c),pp 2,pp 5,(6,vB v3),(7,vN v4)] [(Td b),(SW a)]
def se(b:Msg)(c:Int)(a:Fld):Bool→Nat×St:=fun d=>(0,Ab [(1,vI c),pp 2,pp 5,(6,vB d)] [(Td b),(SW a)])
def kF(a:Msg)(c:Int)(b:Fld)(v3:Bool)(v4:Nat):PT 0 (Lv (Bool×Nat) (Bool) (Bool)):=wg<|vz (Ah a.fields)<|br (decide ((v4:Int)<(a.fields.length:Int))) (wg<|ix a.fields v4 fun d=>wg<|br (decide (d.name=b.union)) (Au Lq nG false) (wg<|AS (decide ((v4:Int)<c)) a.fields (v4:Int) fun e=>wg<|br (decide ((v4:Int)<c)&&decide (e.union=b.union)) (vs (wa v4 1)<|ln (iU a c b) (true,v4+1)) (vs (wa v4 1)<|ln (iU a c b) (v3,v4+1)))) (Aj (se a c b) v3)
def UT(b:Msg)(c:Int)(a:Fld):Bool×Nat→Option (Lv (Bool×Nat) (Bool) (Bool)):=fun(v3,v4)=>(kF b c a v3 v4).m
def li(e:Msg)(b:Int)(c:Fld)(a:Bool):PT 0 (Bool):=wg<|vg (!(!a)) (wi (b-1))<|AS (!(!a)) e.fields (b-1) fun d=>wg<|lr Lq nG ((!a)||decide (d.union=c.union))
def i3(b:Msg)(c:Int)(a:Fld):PT 0 (Bool):=lc (Ab [(1,vI c),pp 2,pp 5,(6,vB false),(7,vI 0)] [(Td b),(SW a)]) ((Am (UT b c a) Ai (false,0)).bind (Sum.elim (fun d=>(li b c a d).m) some))
def jp(b:Msg)(c:Int):PT 0 (Bool):=wg<|CF b.fields c fun a=>wg<|wg<|br (decide (a.union=(⟨#[]⟩:ByteArray))) (lr Lq nG true) (wg<|wg<|AC (!(!decide (a.card=(2:Int)))) (Wx a.union) fun d=>br ((!decide (a.card=(2:Int)))||(!d)) (lr Lq nG false) (lc (Ab [(1,vI c),pp 2,pp 5,(6,vB false)] [(Td b),(SW a)]) ((i3 b c a).m)))
def eU(a:Msg)(b:Int):Option (Bool):=(jp a b).m
theorem ZAV{C:Cx}(co:CO C 0)(b:Msg)(c:Int)(a:Fld):KL Tryz.prog (Az tl) 69 C (pa [0,0,1,0,1,1,1,1,1] (Aw Tryz.f117)) [.tmp 4] 0 (iU b c a) (se b c a) Lq nG (UT b c a):=fun(v3,v4) _ hm Q d f e=>Av co Aa Ac (kF b c a v3 v4) (Ae [1,2,5,6,7] KU) (Ae [1,2,5,6] KU) f hm e fun r g=>⟨fun h=>⟨id,fun i=>⟨id,id⟩⟩,id⟩
theorem ZWJ(b:Msg)(c:Int):KC Tryz.prog 117 [.agg ((AB b).map .d),vI c] (eU b c) Lq:=As Tryz.func117 Tryz.ntmps117 Aa [.tmp 4] fun C co y hm e a=>Ak co Aa Ac 5 (jp b c) (Ae [1,2,5,6] KU) nl nH hm a fun r g=>fun d=>⟨id,fun i=>⟨id,fun _ hm a=>sq (Ak co Aa Ac 1 (i3 b c d) (Ae [1,2,5,6,7] KU) nl nH hm a fun r g=>fun _ hm a=>bk 0 (lo (AF (ZAV co b c d) nH hm a (fun f hm=>Ao co Aa Ac (li b c d f) hm a fun r g=>fun h=>id))))⟩⟩
abbrev LU:Int→AV:=fun y=>vI y
def Vm(a:Int):PT 0 (Int):=rem .u64 a 9223372036854775808<|br (decide ((9218868437227405312:Int)<(IP .u64 a 9223372036854775808))) (lr LU nG 0) (br (decide ((IP .u64 a 9223372036854775808)=(9218868437227405312:Int))) (lr LU nG 1) (br (decide ((IP .u64 a 9223372036854775808)=(0:Int))) (lr LU nG 2) (br (decide ((IP .u64 a 9223372036854775808)<(4503599627370496:Int))) (lr LU nG 3) (lr LU nG 4))))
def Oo(a:Int):Option (Int):=(Vm a).m
theorem wb(a:Int):KC Tryz.prog 125 [.d (.int .u64 a)] (Oo a) LU:=As Tryz.func125 Tryz.ntmps125 Aa [.tmp 2] fun C co y hm b c=>Ao co Aa Ac (Vm a) hm c fun r g=>⟨id,⟨id,⟨id,⟨id,id⟩⟩⟩⟩
abbrev Xf:Val→AV:=fun y=>.agg ((Ag y).map .d)
def We(a:Val):PT 0 (Val):=wg<|wg<|AC (decide (a.kind=(6:Int))) (wb a.bits) fun b=>br (decide (a.kind=(6:Int))&&decide (b=(0:Int))) (wg<|wg<|wg<|lr Xf nG (.mk a.kind 9221120237041090560 a.text a.list a.pairs a.slots a.raws:Val)) (wg<|wg<|lr Xf nG a)
def Ov(a:Val):Option (Val):=(We a).m
theorem da(a:Val):KC Tryz.prog 82 [.agg ((Ag a).map .d)] (Ov a) Xf:=As Tryz.func82 Tryz.ntmps82 Aa [.cell 2 33] fun C co y hm b c=>Ao co Aa Ac (We a) hm c fun r g=>fun d=>⟨id,id⟩
abbrev ZYE:Bool→AV:=fun y=>vB y
def jE(a:Val)(b:Val):PT 0 (Bool):=wg<|wg<|wg<|wg<|wg<|wg<|wg<|vy ((decide (a.kind=b.kind)&&decide (a.bits=b.bits))&&decide (a.text=b.text)) (Ah a.list)<|wg<|vy ((decide (a.kind=b.kind)&&decide (a.bits=b.bits))&&decide (a.text=b.text)) (Ah a.pairs)<|vg ((decide (a.kind=b.kind)&&decide (a.bits=b.bits))&&decide (a.text=b.text)) (wa a.list.length a.pairs.length)<|wg<|vy ((decide (a.kind=b.kind)&&decide (a.bits=b.bits))&&decide (a.text=b.text)) (Ah a.slots)<|vg ((decide (a.kind=b.kind)&&decide (a.bits=b.bits))&&decide (a.text=b.text)) (wa (a.list.length+a.pairs.length) a.slots.length)<|wg<|vy ((decide (a.kind=b.kind)&&decide (a.bits=b.bits))&&decide (a.text=b.text)) (Ah a.raws)<|vg ((decide (a.kind=b.kind)&&decide (a.bits=b.bits))&&decide (a.text=b.text)) (wa ((a.list.length+a.pairs.length)+a.slots.length) a.raws.length)<|wg<|vy ((decide (a.kind=b.kind)&&decide (a.bits=b.bits))&&decide (a.text=b.text)) (Ah b.list)<|vg ((decide (a.kind=b.kind)&&decide (a.bits=b.bits))&&decide (a.text=b.text)) (wa (((a.list.length+a.pairs.length)+a.slots.length)+a.raws.length) b.list.length)<|wg<|vy ((decide (a.kind=b.kind)&&decide (a.bits=b.bits))&&decide (a.text=b.text)) (Ah b.pairs)<|vg ((decide (a.kind=b.kind)&&decide (a.bits=b.bits))&&decide (a.text=b.text)) (wa ((((a.list.length+a.pairs.length)+a.slots.length)+a.raws.length)+b.list.length) b.pairs.length)<|wg<|vy ((decide (a.kind=b.kind)&&decide (a.bits=b.bits))&&decide (a.text=b.text)) (Ah b.slots)<|vg ((decide (a.kind=b.kind)&&decide (a.bits=b.bits))&&decide (a.text=b.text)) (wa (((((a.list.length+a.pairs.length)+a.slots.length)+a.raws.length)+b.list.length)+b.pairs.length) b.slots.length)<|wg<|vy ((decide (a.kind=b.kind)&&decide (a.bits=b.bits))&&decide (a.text=b.text)) (Ah b.raws)<|vg ((decide (a.kind=b.kind)&&decide (a.bits=b.bits))&&decide (a.text=b.text)) (wa ((((((a.list.length+a.pairs.length)+a.slots.length)+a.raws.length)+b.list.length)+b.pairs.length)+b.slots.length) b.raws.length)<|lr ZYE nG (((decide (a.kind=b.kind)&&decide (a.bits=b.bits))&&decide (a.text=b.text))&&decide (((((((((a.list.length+a.pairs.length)+a.slots.length)+a.raws.length)+b.list.length)+b.pairs.length)+b.slots.length)+b.raws.length:Nat):Int)=(0:Int)))
def eE(a:Val)(b:Val):Option (Bool):=(jE a b).m
theorem vY(a:Val)(b:Val):KC Tryz.prog 159 [.agg ((Ag a).map .d),.agg ((Ag b).map .d)] (eE a b) ZYE:=As Tryz.func159 Tryz.ntmps159 Aa [.tmp 4] fun C co y hm c d=>Ao co Aa Ac (jE a b) hm d fun r g=>id
abbrev ZXK:Bool→AV:=fun y=>vB y
def UL(a:ByteArray)(b:Int)(d:Int)(f:Int):PT 0 (Bool):=vz (A7 a.size)<|F0 (decide (b<(a.size:Int))) a b fun c=>F0 (decide (b<(a.size:Int))&&decide (d≤(c.toNat:Int))) a b fun e=>lr ZXK nG ((decide (b<(a.size:Int))&&decide (d≤(c.toNat:Int)))&&decide ((e.toNat:Int)≤f))
def L4(a:ByteArray)(b:Int)(c:Int)(d:Int):Option (Bool):=(UL a b c d).m
theorem P6(a:ByteArray)(b:Int)(c:Int)(d:Int):KC Tryz.prog 214 [vS a,vI b,.d (.int .u8 c),.d (.int .u8 d)] (L4 a b c d) ZXK:=As Tryz.func214 Tryz.ntmps214 Aa [.tmp 8] fun C co y hm e f=>Ao co Aa Ac (UL a b c d) hm f fun r g=>fun h=>fun i=>id
abbrev SL:Bool→AV:=fun y=>vB y
def sA(a:ByteArray)(b:Int)(c:Int):Nat→St:=fun d=>Ab [(0,vS a),(1,vI b),(2,vI c),(7,vN d)] []
def tL:Unit→Nat×St:=fun _=>(0,Ab [] [])
def Ph(c:ByteArray)(b:Int)(d:Int)(a:Nat):PT 0 (Lv (Nat) (Unit) (Bool)):=br (decide ((a:Int)<d)) (vs (wi (b+(a:Int)))<|cl (P6 c (b+(a:Int)) 128 191) fun e=>br (!e) (Au SL nG false) (vs (wa a 1)<|ln (sA c b d) (a+1))) (Aj (tL) ())
def Ks(a:ByteArray)(b:Int)(c:Int):Nat→Option (Lv (Nat) (Unit) (Bool)):=fun d=>(Ph a b c d).m
def VM:PT 0 (Bool):=lr SL nG true
def U3(a:ByteArray)(b:Int)(c:Int):PT 0 (Bool):=lc (Ab [(0,vS a),(1,vI b),(2,vI c),(7,vI 0)] []) ((Am (Ks a b c) Ai 0).bind (Sum.elim (fun _=>(VM).m) some))
def Vn(a:ByteArray)(b:Int)(c:Int):PT 0 (Bool):=lc (Ab [(0,vS a),(1,vI b),(2,vI c)] []) ((U3 a b c).m)
def Kb(a:ByteArray)(b:Int)(c:Int):Option (Bool):=(Vn a b c).m
theorem ZB2{C:Cx}(co:CO C 0)(a:ByteArray)(b:Int)(c:Int):KL Tryz.prog (Az tl) 19 C (pa [0,0,1,0,1] (Aw Tryz.f213)) [.tmp 6] 0 (sA a b c) (tL) SL nG (Ks a b c):=fun h _ hm Q d f e=>Av co Aa Ac (Ph a b c h) (AH [0,1,2,7]) nl f hm e fun r g=>⟨fun i=>⟨id,id⟩,id⟩
theorem KJ(b:ByteArray)(c:Int)(d:Int):KC Tryz.prog 213 [vS b,vI c,vI d] (Kb b c d) SL:=As Tryz.func213 Tryz.ntmps213 Aa [.tmp 6] fun C co y hm e a=>Ak co Aa Ac 1 (Vn b c d) (AH [0,1,2]) nl nH hm a fun r g=>fun _ hm a=>sq (Ak co Aa Ac 1 (U3 b c d) (AH [0,1,2,7]) nl nH hm a fun r g=>fun _ hm a=>bk 0 (lo (AF (ZB2 co b c d) nH hm a (fun _ hm=>Ao co Aa Ac (VM) hm a fun r g=>id))))
abbrev GV:Int→AV:=fun y=>vI y
def UF(c:ByteArray)(b:Int):PT 0 (Int):=Qf c b fun a=>br (decide ((a.toNat:Int)<(128:Int))) (lr GV nG 1) (vg (decide ((194:Int)≤(a.toNat:Int))&&decide ((a.toNat:Int)≤(223:Int))) (wi (b+1))<|AC (decide ((194:Int)≤(a.toNat:Int))&&decide ((a.toNat:Int)≤(223:Int))) (KJ c (b+1) 1) fun j=>br ((decide ((194:Int)≤(a.toNat:Int))&&decide ((a.toNat:Int)≤(223:Int)))&&j) (lr GV nG 2) (vg (decide ((a.toNat:Int)=(224:Int))) (wi (b+1))<|AC (decide ((a.toNat:Int)=(224:Int))) (P6 c (b+1) 160 191) fun g=>vg (decide ((a.toNat:Int)=(224:Int))&&g) (wi (b+2))<|AC (decide ((a.toNat:Int)=(224:Int))&&g) (KJ c (b+2) 1) fun k=>br ((decide ((a.toNat:Int)=(224:Int))&&g)&&k) (lr GV nG 3) (vg (decide ((a.toNat:Int)=(237:Int))) (wi (b+1))<|AC (decide ((a.toNat:Int)=(237:Int))) (P6 c (b+1) 128 159) fun h=>vg (decide ((a.toNat:Int)=(237:Int))&&h) (wi (b+2))<|AC (decide ((a.toNat:Int)=(237:Int))&&h) (KJ c (b+2) 1) fun l=>br ((decide ((a.toNat:Int)=(237:Int))&&h)&&l) (lr GV nG 3) (vg ((decide ((225:Int)≤(a.toNat:Int))&&decide ((a.toNat:Int)≤(239:Int)))&&(!decide ((a.toNat:Int)=(237:Int)))) (wi (b+1))<|AC ((decide ((225:Int)≤(a.toNat:Int))&&decide ((a.toNat:Int)≤(239:Int)))&&(!decide ((a.toNat:Int)=(237:Int)))) (KJ c (b+1) 2) fun m=>br (((decide ((225:Int)≤(a.toNat:Int))&&decide ((a.toNat:Int)≤(239:Int)))&&(!decide ((a.toNat:Int)=(237:Int))))&&m) (lr GV nG 3) (vg (decide ((a.toNat:Int)=(240:Int))) (wi (b+1))<|AC (decide ((a.toNat:Int)=(240:Int))) (P6 c (b+1) 144 191) fun i=>vg (decide ((a.toNat:Int)=(240:Int))&&i) (wi (b+2))<|AC (decide ((a.toNat:Int)=(240:Int))&&i) (KJ c (b+2) 2) fun n=>br ((decide ((a.toNat:Int)=(240:Int))&&i)&&n) (lr GV nG 4) (vg (decide ((241:Int)≤(a.toNat:Int))&&decide ((a.toNat:Int)≤(243:Int))) (wi (b+1))<|AC (decide ((241:Int)≤(a.toNat:Int))&&decide ((a.toNat:Int)≤(243:Int))) (KJ c (b+1) 3) fun e=>br ((decide ((241:Int)≤(a.toNat:Int))&&decide ((a.toNat:Int)≤(243:Int)))&&e) (lr GV nG 4) (vg (decide ((a.toNat:Int)=(244:Int))) (wi (b+1))<|AC (decide ((a.toNat:Int)=(244:Int))) (P6 c (b+1) 128 143) fun d=>vg (decide ((a.toNat:Int)=(244:Int))&&d) (wi (b+2))<|AC (decide ((a.toNat:Int)=(244:Int))&&d) (KJ c (b+2) 2) fun f=>br ((decide ((a.toNat:Int)=(244:Int))&&d)&&f) (lr GV nG 4) (lr GV nG 0))))))))
def Ot(a:ByteArray)(b:Int):Option (Int):=(UF a b).m
theorem ZU1(a:ByteArray)(b:Int):KC Tryz.prog 189 [vS a,vI b] (Ot a b) GV:=As Tryz.func189 Tryz.ntmps189 Aa [.tmp 4] fun C co y hm c d=>Ao co Aa Ac (UF a b) hm d fun r g=>fun i=>⟨id,fun j=>⟨id,fun k=>fun l=>⟨id,fun m=>fun n=>⟨id,fun o=>⟨id,fun p=>fun q=>⟨id,fun e=>⟨id,fun f=>fun h=>⟨id,id⟩⟩⟩⟩⟩⟩⟩⟩
abbrev Sh:Int→AV:=fun y=>vI y
def tH(a:ByteArray):Int→St:=fun b=>Ab [(0,vS a),(3,vI b)] []
def rT:Unit→Nat×St:=fun _=>(0,Ab [] [])
def Vi(b:ByteArray)(a:Int):PT 0 (Lv (Int) (Unit) (Int)):=vz (A7 b.size)<|br (decide (a<(b.size:Int))) (cl (ZU1 b a) fun c=>br (decide (c=(0:Int))) (Au Sh nG a) (vs (wi (a+c))<|ln (tH b) (a+c))) (Aj (rT) ())
def MG(a:ByteArray):Int→Option (Lv (Int) (Unit) (Int)):=fun b=>(Vi a b).m
def U9:PT 0 (Int):=lr Sh nG (-1)
def Vj(a:ByteArray):PT 0 (Int):=lc (Ab [(0,vS a),(3,vI 0)] []) ((Am (MG a) Ai 0).bind (Sum.elim (fun _=>(U9).m) some))
def U7(a:ByteArray):PT 0 (Int):=lc (Ab [(0,vS a)] []) ((Vj a).m)
def Ti(a:ByteArray):Option (Int):=(U7 a).m
theorem Zyt{C:Cx}(co:CO C 0)(a:ByteArray):KL Tryz.prog (Az tl) 18 C (pa [0,0,1,0,1] (Aw Tryz.f162)) [.tmp 2] 0 (tH a) (rT) Sh nG (MG a):=fun e _ hm Q b d c=>Av co Aa Ac (Vi a e) (AH [0,3]) nl d hm c fun r g=>⟨fun f=>⟨id,id⟩,id⟩
theorem ZU2(b:ByteArray):KC Tryz.prog 162 [vS b] (Ti b) Sh:=As Tryz.func162 Tryz.ntmps162 Aa [.tmp 2] fun C co y hm c a=>Ak co Aa Ac 1 (U7 b) (AH [0]) nl nH hm a fun r g=>fun _ hm a=>sq (Ak co Aa Ac 1 (Vj b) (AH [0,3]) nl nH hm a fun r g=>fun _ hm a=>bk 0 (lo (AF (Zyt co b) nH hm a (fun _ hm=>Ao co Aa Ac (U9) hm a fun r g=>id))))
abbrev ZX5:Bool→AV:=fun y=>vB y
def Vf(a:ByteArray):PT 0 (Bool):=cl (ZU2 a) fun b=>lr ZX5 nG (decide (b<(0:Int)))
def L7(a:ByteArray):Option (Bool):=(Vf a).m
theorem zj(a:ByteArray):KC Tryz.prog 121 [vS a] (L7 a) ZX5:=As Tryz.func121 Tryz.ntmps121 Aa [.tmp 2] fun C co y hm b c=>Ao co Aa Ac (Vf a) hm c fun r g=>fun d=>id
abbrev ZYG:Bool→AV:=fun y=>vB y
def kX(a:Int):PT 0 (Bool):=lr ZYG nG (decide ((1:Int)≤a)&&decide (a≤(9:Int)))
def L2(a:Int):Option (Bool):=(kX a).m
theorem Zr(a:Int):KC Tryz.prog 123 [vI a] (L2 a) ZYG:=As Tryz.func123 Tryz.ntmps123 Aa [.tmp 2] fun C co y hm b c=>Ao co Aa Ac (kX a) hm c fun r g=>id
abbrev ZYN:Bool→AV:=fun y=>vB y
def UH(a:Val):PT 0 (Bool):=wg<|vz (Ah a.list)<|wg<|vy (decide ((a.list.length:Int)=(0:Int))) (Ah a.pairs)<|wg<|vy (decide ((a.list.length:Int)=(0:Int))&&decide ((a.pairs.length:Int)=(0:Int))) (Ah a.slots)<|wg<|vy ((decide ((a.list.length:Int)=(0:Int))&&decide ((a.pairs.length:Int)=(0:Int)))&&decide ((a.slots.length:Int)=(0:Int))) (Ah a.raws)<|lr ZYN nG (((decide ((a.list.length:Int)=(0:Int))&&decide ((a.pairs.length:Int)=(0:Int)))&&decide ((a.slots.length:Int)=(0:Int)))&&decide ((a.raws.length:Int)=(0:Int)))
def Oq(a:Val):Option (Bool):=(UH a).m
theorem uO(a:Val):KC Tryz.prog 124 [.agg ((Ag a).map .d)] (Oq a) ZYN:=As Tryz.func124 Tryz.ntmps124 Aa [.tmp 2] fun C co y hm b c=>Ao co Aa Ac (UH a) hm c fun r g=>id
abbrev ZXh:Bool→AV:=fun y=>vB y
def Pc(a:Int):PT 0 (Bool):=lr ZXh nG (decide (a=(7:Int))||decide (a=(8:Int)))
def L6(a:Int):Option (Bool):=(Pc a).m
theorem V5(a:Int):KC Tryz.prog 185 [vI a] (L6 a) ZXh:=As Tryz.func185 Tryz.ntmps185 Aa [.tmp 2] fun C co y hm b c=>Ao co Aa Ac (Pc a) hm c fun r g=>id
abbrev H5:Bool→AV:=fun y=>vB y
def Pf(b:Int)(a:Val):PT 0 (Bool):=cl (Zr b) fun c=>wg<|wg<|AC (!((!c)||(!decide (a.kind=b)))) (uO a) fun d=>br (((!c)||(!decide (a.kind=b)))||(!d)) (lr H5 nG false) (cl (V5 b) fun e=>br e (wg<|wg<|vy (decide (a.bits=(0:Int))) (A7 a.text.size)<|wg<|AC ((decide (a.bits=(0:Int))&&decide ((a.text.size:Int)≤(4096:Int)))&&(!(decide (b=(8:Int))))) (zj a.text) fun f=>lr H5 nG ((decide (a.bits=(0:Int))&&decide ((a.text.size:Int)≤(4096:Int)))&&(decide (b=(8:Int))||f))) (wg<|br (!decide (a.text=(⟨#[]⟩:ByteArray))) (lr H5 nG false) (br (decide (b=(1:Int))) (wg<|lr H5 nG (decide (a.bits≤(1:Int)))) (br (decide (b=(2:Int))) (wg<|vz (wk .i64 a.bits)<|lr H5 nG (decide (((-2147483648):Int)≤(IntKind.i64.wrap a.bits))&&decide ((IntKind.i64.wrap a.bits)≤(2147483647:Int)))) (br (decide (b=(4:Int))) (wg<|lr H5 nG (decide (a.bits<(4294967296:Int)))) (br (decide (b=(9:Int))) (wg<|lr H5 nG (decide (a.bits<(2147483648:Int)))) (lr H5 nG true)))))))
def IV(a:Int)(b:Val):Option (Bool):=(Pf a b).m
theorem bv(a:Int)(b:Val):KC Tryz.prog 160 [vI a,.agg ((Ag b).map .d)] (IV a b) H5:=As Tryz.func160 Tryz.ntmps160 Aa [.tmp 4] fun C co y hm c d=>Ao co Aa Ac (Pf a b) hm d fun r g=>fun e=>fun f=>⟨id,fun h=>⟨fun i=>id,⟨id,⟨id,⟨id,⟨id,⟨id,id⟩⟩⟩⟩⟩⟩⟩
abbrev dh(a:Scm):Ad×Blk:=kk 2 26 3 (cD (Al a))
abbrev cU(a:Fld):Ad×Blk:=kk 5 33 7 (cD (Ag a.dflt))
abbrev IG:Bool→AV:=fun y=>vB y
def qU(a:Scm)(b:Fld)(d:Int):Nat→St:=fun c=>Ab [pp 2,pp 5,(6,vI d),(7,vN c)] [(dh a),(cU b)]
def uA:Unit→Nat×St:=fun _=>(0,Ab [] [])
def m6(b:Scm)(f:Fld)(c:Int)(a:Nat):PT 0 (Lv (Nat) (Unit) (Bool)):=wg<|CF b.enums c fun d=>vz (Ah d.items)<|br (decide ((a:Int)<(d.items.length:Int))) (wg<|CF b.enums c fun g=>ix g.items a fun e=>vz (wk .u64 e.num)<|wg<|br (decide ((IntKind.u64.wrap e.num)=f.dflt.bits)) (Au IG nG true) (vs (wa a 1)<|ln (qU b f c) (a+1))) (Aj (uA) ())
def Vr(a:Scm)(b:Fld)(d:Int):Nat→Option (Lv (Nat) (Unit) (Bool)):=fun c=>(m6 a b d c).m
def mN:PT 0 (Bool):=lr IG nG false
def lj(a:Scm)(b:Fld)(c:Int):PT 0 (Bool):=lc (Ab [pp 2,pp 5,(6,vI c),(7,vI 0)] [(dh a),(cU b)]) ((Am (Vr a b c) Ai 0).bind (Sum.elim (fun _=>(mN).m) some))
def mF(b:Scm)(a:Fld):PT 0 (Bool):=wg<|wg<|wg<|br (!a.hasDefault) (wg<|cl ((vY a.dflt (.mk 0 0 ⟨#[]⟩ ([]:List Val) ([]:List Pr) ([]:List Slt) ([]:List Raw):Val)).nrm (fun _ _ _ h=>.nrm h) (xs':=[.agg ((Ag a.dflt).map .d),.agg [vI 0,.d (.int .u64 0),vS ⟨#[]⟩,.e0,.e0,.e0,.e0]]) (by intro r;kernel_rfl)) fun e=>lr IG nG e) (wg<|wg<|wg<|wg<|AC (!((!decide (a.card=(2:Int)))||(!decide (a.union=(⟨#[]⟩:ByteArray))))) (bv a.type.kind a.dflt) fun c=>wg<|wg<|AC (!(((!decide (a.card=(2:Int)))||(!decide (a.union=(⟨#[]⟩:ByteArray))))||(!c))) (da a.dflt) fun f=>AC (!(((!decide (a.card=(2:Int)))||(!decide (a.union=(⟨#[]⟩:ByteArray))))||(!c))) (vY a.dflt f) fun g=>br ((((!decide (a.card=(2:Int)))||(!decide (a.union=(⟨#[]⟩:ByteArray))))||(!c))||(!g)) (lr IG nG false) (wg<|wg<|cl (vP b a.type.name) fun d=>wg<|br (!decide (a.type.kind=(9:Int))) (lr IG nG true) (br (decide (d<(0:Int))) (lr IG nG false) (lc (Ab [pp 2,pp 5,(6,vI d)] [(dh b),(cU a)]) ((lj b a d).m)))))
def ec(a:Scm)(b:Fld):Option (Bool):=(mF a b).m
theorem ZyK{C:Cx}(co:CO C 0)(a:Scm)(b:Fld)(c:Int):KL Tryz.prog (Az tl) 75 C (pa [0,0,1,0,1,1,1,1,1,1,1] (Aw Tryz.f118)) [.tmp 4] 0 (qU a b c) (uA) IG nG (Vr a b c):=fun h _ hm Q d f e=>Av co Aa Ac (m6 a b c h) (Ae [2,5,6,7] KU) nl f hm e fun r g=>fun i=>⟨fun j=>fun k=>⟨id,id⟩,id⟩
theorem ZWG(b:Scm)(c:Fld):KC Tryz.prog 118 [.agg ((Al b).map .d),.agg ((An c).map .d)] (ec b c) IG:=As Tryz.func118 Tryz.ntmps118 Aa [.tmp 4] fun C co y hm d a=>Ak co Aa Ac 7 (mF b c) (Ae [2,5,6] KU) nl nH hm a fun r g=>⟨fun f=>id,fun h=>fun i=>fun j=>⟨id,fun e=>⟨id,⟨id,fun _ hm a=>sq (Ak co Aa Ac 1 (lj b c e) (Ae [2,5,6,7] KU) nl nH hm a fun r g=>fun _ hm a=>bk 0 (lo (AF (ZyK co b c e) nH hm a (fun _ hm=>Ao co Aa Ac (mN) hm a fun r g=>id))))⟩⟩⟩⟩
abbrev lb1:ByteArray:=⟨#[115,105,110,99,101]⟩
abbrev lb2:ByteArray:=⟨#[109,105,110]⟩
abbrev lb3:ByteArray:=⟨#[109,97,120]⟩
abbrev lb4:ByteArray:=⟨#[117,110,116,105,108]⟩
abbrev lb5:ByteArray:=⟨#[108,101,110,103,116,104]⟩
abbrev lb6:ByteArray:=⟨#[116,105,109,101,111,117,116]⟩
abbrev lb7:ByteArray:=⟨#[97,108,105,97,115]⟩
abbrev lb8:ByteArray:=⟨#[114,111,117,116,101]⟩
abbrev Ea:Int→AV:=fun y=>vI y
def OG(a:ByteArray):PT 0 (Int):=br (decide (a=lb2)) (br (decide (a=lb2)) (lr Ea nG 3) (lr Ea nG 0)) (br (decide (a=lb3)) (lr Ea nG 3) (lr Ea nG 0))
def OQ(a:ByteArray):PT 0 (Int):=br (decide (a=lb1)) (br (decide (a=lb1)) (lr Ea nG 4) (OG a)) (br (decide (a=lb4)) (br (decide (a=lb4)) (lr Ea nG 4) (OG a)) (br (decide (a=lb5)) (br (decide (a=lb5)) (lr Ea nG 4) (OG a)) (br (decide (a=lb6)) (lr Ea nG 4) (OG a))))
def TF(a:ByteArray):PT 0 (Int):=br (decide (a=(⟨#[100,111,99]⟩:ByteArray))) (br (decide (a=(⟨#[100,111,99]⟩:ByteArray))) (lr Ea nG 7) (OQ a)) (br (decide (a=lb7)) (br (decide (a=lb7)) (lr Ea nG 7) (OQ a)) (br (decide (a=lb8)) (br (decide (a=lb8)) (lr Ea nG 7) (OQ a)) (br (decide (a=(⟨#[111,119,110,101,114]⟩:ByteArray))) (lr Ea nG 7) (OQ a))))
def mc(a:ByteArray):PT 0 (Int):=br (decide (a=(⟨#[100,101,112,114,101,99,97,116,101,100]⟩:ByteArray))) (br (decide (a=(⟨#[100,101,112,114,101,99,97,116,101,100]⟩:ByteArray))) (lr Ea nG 1) (TF a)) (br (decide (a=(⟨#[115,101,99,114,101,116]⟩:ByteArray))) (br (decide (a=(⟨#[115,101,99,114,101,116]⟩:ByteArray))) (lr Ea nG 1) (TF a)) (br (decide (a=(⟨#[105,100,101,109,112,111,116,101,110,116]⟩:ByteArray))) (lr Ea nG 1) (TF a)))
def fb(a:ByteArray):Option (Int):=(mc a).m
theorem yk(a:ByteArray):KC Tryz.prog 186 [vS a] (fb a) Ea:=As Tryz.func186 Tryz.ntmps186 Aa [.tmp 2] fun C co y hm b c=>Ao co Aa Ac (mc a) hm c fun r g=>⟨⟨id,⟨⟨id,⟨⟨id,⟨⟨id,id⟩,⟨id,id⟩⟩⟩,⟨⟨id,⟨⟨id,id⟩,⟨id,id⟩⟩⟩,⟨⟨id,⟨⟨id,id⟩,⟨id,id⟩⟩⟩,⟨id,⟨⟨id,id⟩,⟨id,id⟩⟩⟩⟩⟩⟩⟩,⟨⟨id,⟨⟨id,⟨⟨id,id⟩,⟨id,id⟩⟩⟩,⟨⟨id,⟨⟨id,id⟩,⟨id,id⟩⟩⟩,⟨⟨id,⟨⟨id,id⟩,⟨id,id⟩⟩⟩,⟨id,⟨⟨id,id⟩,⟨id,id⟩⟩⟩⟩⟩⟩⟩,⟨⟨id,⟨⟨id,⟨⟨id,id⟩,⟨id,id⟩⟩⟩,⟨⟨id,⟨⟨id,id⟩,⟨id,id⟩⟩⟩,⟨⟨id,⟨⟨id,id⟩,⟨id,id⟩⟩⟩,⟨id,⟨⟨id,id⟩,⟨id,id⟩⟩⟩⟩⟩⟩⟩,⟨id,⟨⟨id,⟨⟨id,id⟩,⟨id,id⟩⟩⟩,⟨⟨id,⟨⟨id,id⟩,⟨id,id⟩⟩⟩,⟨⟨id,⟨⟨id,id⟩,⟨id,id⟩⟩⟩,⟨id,⟨⟨id,id⟩,⟨id,id⟩⟩⟩⟩⟩⟩⟩⟩⟩⟩⟩,⟨⟨id,⟨⟨id,⟨⟨id,⟨⟨id,id⟩,⟨id,id⟩⟩⟩,⟨⟨id,⟨⟨id,id⟩,⟨id,id⟩⟩⟩,⟨⟨id,⟨⟨id,id⟩,⟨id,id⟩⟩⟩,⟨id,⟨⟨id,id⟩,⟨id,id⟩⟩⟩⟩⟩⟩⟩,⟨⟨id,⟨⟨id,⟨⟨id,id⟩,⟨id,id⟩⟩⟩,⟨⟨id,⟨⟨id,id⟩,⟨id,id⟩⟩⟩,⟨⟨id,⟨⟨id,id⟩,⟨id,id⟩⟩⟩,⟨id,⟨⟨id,id⟩,⟨id,id⟩⟩⟩⟩⟩⟩⟩,⟨⟨id,⟨⟨id,⟨⟨id,id⟩,⟨id,id⟩⟩⟩,⟨⟨id,⟨⟨id,id⟩,⟨id,id⟩⟩⟩,⟨⟨id,⟨⟨id,id⟩,⟨id,id⟩⟩⟩,⟨id,⟨⟨id,id⟩,⟨id,id⟩⟩⟩⟩⟩⟩⟩,⟨id,⟨⟨id,⟨⟨id,id⟩,⟨id,id⟩⟩⟩,⟨⟨id,⟨⟨id,id⟩,⟨id,id⟩⟩⟩,⟨⟨id,⟨⟨id,id⟩,⟨id,id⟩⟩⟩,⟨id,⟨⟨id,id⟩,⟨id,id⟩⟩⟩⟩⟩⟩⟩⟩⟩⟩⟩,⟨id,⟨⟨id,⟨⟨id,⟨⟨id,id⟩,⟨id,id⟩⟩⟩,⟨⟨id,⟨⟨id,id⟩,⟨id,id⟩⟩⟩,⟨⟨id,⟨⟨id,id⟩,⟨id,id⟩⟩⟩,⟨id,⟨⟨id,id⟩,⟨id,id⟩⟩⟩⟩⟩⟩⟩,⟨⟨id,⟨⟨id,⟨⟨id,id⟩,⟨id,id⟩⟩⟩,⟨⟨id,⟨⟨id,id⟩,⟨id,id⟩⟩⟩,⟨⟨id,⟨⟨id,id⟩,⟨id,id⟩⟩⟩,⟨id,⟨⟨id,id⟩,⟨id,id⟩⟩⟩⟩⟩⟩⟩,⟨⟨id,⟨⟨id,⟨⟨id,id⟩,⟨id,id⟩⟩⟩,⟨⟨id,⟨⟨id,id⟩,⟨id,id⟩⟩⟩,⟨⟨id,⟨⟨id,id⟩,⟨id,id⟩⟩⟩,⟨id,⟨⟨id,id⟩,⟨id,id⟩⟩⟩⟩⟩⟩⟩,⟨id,⟨⟨id,⟨⟨id,id⟩,⟨id,id⟩⟩⟩,⟨⟨id,⟨⟨id,id⟩,⟨id,id⟩⟩⟩,⟨⟨id,⟨⟨id,id⟩,⟨id,id⟩⟩⟩,⟨id,⟨⟨id,id⟩,⟨id,id⟩⟩⟩⟩⟩⟩⟩⟩⟩⟩⟩⟩⟩
abbrev lb9:ByteArray:=⟨#[109,105,110]⟩
abbrev ZXT:ByteArray:=⟨#[105,100,101,109,112,111,116,101,110,116]⟩
abbrev ZYh:ByteArray:=⟨#[116,105,109,101,111,117,116]⟩
abbrev ZZP:ByteArray:=⟨#[114,111,117,116,101]⟩
abbrev ZXo:ByteArray:=⟨#[109,97,120]⟩
abbrev ZXC:ByteArray:=⟨#[108,101,110,103,116,104]⟩
abbrev ZZO:ByteArray:=⟨#[115,101,99,114,101,116]⟩
abbrev Hr:Bool→AV:=fun y=>vB y
def To(a:Int):PT 0 (Bool):=lr Hr nG (decide (a=(1:Int))||decide (a=(5:Int)))
def OH(b:ByteArray)(a:Int):PT 0 (Bool):=br (decide (b=ZXT)) (br (decide (b=ZXT)) (lr Hr nG (decide (a=(6:Int)))) (To a)) (br (decide (b=ZYh)) (br (decide (b=ZYh)) (lr Hr nG (decide (a=(6:Int)))) (To a)) (br (decide (b=ZZP)) (lr Hr nG (decide (a=(6:Int)))) (To a)))
def OF(a:Int):PT 0 (Bool):=lr Hr nG (decide (a=(2:Int)))
def TP(a:ByteArray)(b:Int):PT 0 (Bool):=br (decide (a=lb9)) (br (decide (a=lb9)) (OF b) (OH a b)) (br (decide (a=ZXo)) (br (decide (a=ZXo)) (OF b) (OH a b)) (br (decide (a=ZXC)) (br (decide (a=ZXC)) (OF b) (OH a b)) (br (decide (a=ZZO)) (OF b) (OH a b))))
def Tw(a:Int):PT 0 (Bool):=lr Hr nG ((decide (a=(2:Int))||decide (a=(4:Int)))||decide (a=(6:Int)))
def gp(a:ByteArray)(b:Int):PT 0 (Bool):=br (decide (a=(⟨#[97,108,105,97,115]⟩:ByteArray))) (br (decide (a=(⟨#[97,108,105,97,115]⟩:ByteArray))) (Tw b) (TP a b)) (br (decide (a=(⟨#[115,105,110,99,101]⟩:ByteArray))) (br (decide (a=(⟨#[115,105,110,99,101]⟩:ByteArray))) (Tw b) (TP a b)) (br (decide (a=(⟨#[117,110,116,105,108]⟩:ByteArray))) (Tw b) (TP a b)))
def ll(b:ByteArray)(a:Int):PT 0 (Bool):=br (decide (b=(⟨#[100,101,112,114,101,99,97,116,101,100]⟩:ByteArray))) (br (decide (b=(⟨#[100,101,112,114,101,99,97,116,101,100]⟩:ByteArray))) (lr Hr nG (decide ((1:Int)≤a)&&decide (a≤(6:Int)))) (gp b a)) (br (decide (b=(⟨#[100,111,99]⟩:ByteArray))) (lr Hr nG (decide ((1:Int)≤a)&&decide (a≤(6:Int)))) (gp b a))
def fa(a:ByteArray)(b:Int):Option (Bool):=(ll a b).m
theorem ZWN(a:ByteArray)(b:Int):KC Tryz.prog 187 [vS a,vI b] (fa a b) Hr:=As Tryz.func187 Tryz.ntmps187 Aa [.tmp 4] fun C co y hm c d=>Ao co Aa Ac (ll a b) hm d fun r g=>⟨⟨id,⟨⟨id,⟨⟨id,⟨⟨id,id⟩,⟨⟨id,id⟩,⟨id,id⟩⟩⟩⟩,⟨⟨id,⟨⟨id,id⟩,⟨⟨id,id⟩,⟨id,id⟩⟩⟩⟩,⟨⟨id,⟨⟨id,id⟩,⟨⟨id,id⟩,⟨id,id⟩⟩⟩⟩,⟨id,⟨⟨id,id⟩,⟨⟨id,id⟩,⟨id,id⟩⟩⟩⟩⟩⟩⟩⟩,⟨⟨id,⟨⟨id,⟨⟨id,id⟩,⟨⟨id,id⟩,⟨id,id⟩⟩⟩⟩,⟨⟨id,⟨⟨id,id⟩,⟨⟨id,id⟩,⟨id,id⟩⟩⟩⟩,⟨⟨id,⟨⟨id,id⟩,⟨⟨id,id⟩,⟨id,id⟩⟩⟩⟩,⟨id,⟨⟨id,id⟩,⟨⟨id,id⟩,⟨id,id⟩⟩⟩⟩⟩⟩⟩⟩,⟨id,⟨⟨id,⟨⟨id,id⟩,⟨⟨id,id⟩,⟨id,id⟩⟩⟩⟩,⟨⟨id,⟨⟨id,id⟩,⟨⟨id,id⟩,⟨id,id⟩⟩⟩⟩,⟨⟨id,⟨⟨id,id⟩,⟨⟨id,id⟩,⟨id,id⟩⟩⟩⟩,⟨id,⟨⟨id,id⟩,⟨⟨id,id⟩,⟨id,id⟩⟩⟩⟩⟩⟩⟩⟩⟩⟩⟩,⟨id,⟨⟨id,⟨⟨id,⟨⟨id,id⟩,⟨⟨id,id⟩,⟨id,id⟩⟩⟩⟩,⟨⟨id,⟨⟨id,id⟩,⟨⟨id,id⟩,⟨id,id⟩⟩⟩⟩,⟨⟨id,⟨⟨id,id⟩,⟨⟨id,id⟩,⟨id,id⟩⟩⟩⟩,⟨id,⟨⟨id,id⟩,⟨⟨id,id⟩,⟨id,id⟩⟩⟩⟩⟩⟩⟩⟩,⟨⟨id,⟨⟨id,⟨⟨id,id⟩,⟨⟨id,id⟩,⟨id,id⟩⟩⟩⟩,⟨⟨id,⟨⟨id,id⟩,⟨⟨id,id⟩,⟨id,id⟩⟩⟩⟩,⟨⟨id,⟨⟨id,id⟩,⟨⟨id,id⟩,⟨id,id⟩⟩⟩⟩,⟨id,⟨⟨id,id⟩,⟨⟨id,id⟩,⟨id,id⟩⟩⟩⟩⟩⟩⟩⟩,⟨id,⟨⟨id,⟨⟨id,id⟩,⟨⟨id,id⟩,⟨id,id⟩⟩⟩⟩,⟨⟨id,⟨⟨id,id⟩,⟨⟨id,id⟩,⟨id,id⟩⟩⟩⟩,⟨⟨id,⟨⟨id,id⟩,⟨⟨id,id⟩,⟨id,id⟩⟩⟩⟩,⟨id,⟨⟨id,id⟩,⟨⟨id,id⟩,⟨id,id⟩⟩⟩⟩⟩⟩⟩⟩⟩⟩⟩⟩
abbrev ZYu:Bool→AV:=fun y=>vB y
def mJ(b:Nt):PT 0 (Bool):=wg<|cl (yk b.name) fun a=>wg<|wg<|AC ((!decide (a=(0:Int)))&&decide (b.val.kind=a)) (bv a b.val) fun c=>lr ZYu nG (((!decide (a=(0:Int)))&&decide (b.val.kind=a))&&c)
def dZ(a:Nt):Option (Bool):=(mJ a).m
theorem ZWo(a:Nt):KC Tryz.prog 188 [.agg ((BU a).map .d)] (dZ a) ZYu:=As Tryz.func188 Tryz.ntmps188 Aa [.tmp 2] fun C co y hm b c=>Ao co Aa Ac (mJ a) hm c fun r g=>fun d=>fun e=>id
abbrev H2:Int→AV:=fun y=>vI y
def rv(a:List Nt)(b:Int):Nat→St:=fun c=>Ab [(0,vL BU a),(1,vI b),(5,vN c)] []
def r9:Unit→Nat×St:=fun _=>(0,Ab [] [])
def lx(b:List Nt)(e:Int)(a:Nat):PT 0 (Lv (Nat) (Unit) (Int)):=vz (Ah b)<|br (decide ((a:Int)<(b.length:Int))) (ix b a fun f=>cl (yk f.name) fun k=>br (decide (k=(0:Int))) (Au H2 nG 8) (ix b a fun g=>cl (ZWN g.name e) fun l=>br (!l) (Au H2 nG 1) (ix b a fun h=>cl (ZWo h) fun m=>br (!m) (Au H2 nG 12) (AS (decide ((0:Int)<(a:Int))) b (a:Int) fun i=>vg (decide ((0:Int)<(a:Int))) (wi ((a:Int)-1))<|AS (decide ((0:Int)<(a:Int))) b ((a:Int)-1) fun j=>br (decide ((0:Int)<(a:Int))&&BZ i.name j.name) (Au H2 nG 11) (AS (decide ((0:Int)<(a:Int))) b (a:Int) fun c=>vg (decide ((0:Int)<(a:Int))) (wi ((a:Int)-1))<|AS (decide ((0:Int)<(a:Int))) b ((a:Int)-1) fun d=>br (decide ((0:Int)<(a:Int))&&decide (c.name=d.name)) (Au H2 nG 9) (vs (wa a 1)<|ln (rv b e) (a+1))))))) (Aj (r9) ())
def UM(a:List Nt)(b:Int):Nat→Option (Lv (Nat) (Unit) (Int)):=fun c=>(lx a b c).m
def k9:PT 0 (Int):=lr H2 nG 0
def mq(a:List Nt)(b:Int):PT 0 (Int):=lc (Ab [(0,vL BU a),(1,vI b),(5,vI 0)] []) ((Am (UM a b) Ai 0).bind (Sum.elim (fun _=>(k9).m) some))
def kR(a:List Nt)(b:Int):PT 0 (Int):=vz (Ah a)<|br (decide ((8:Int)<(a.length:Int))) (lr H2 nG 3) (lc (Ab [(0,vL BU a),(1,vI b)] []) ((mq a b).m))
def eb(a:List Nt)(b:Int):Option (Int):=(kR a b).m
theorem Zyw{C:Cx}(co:CO C 0)(a:List Nt)(b:Int):KL Tryz.prog (Az tl) 68 C (pa [0,0,1,0,1,1] (Aw Tryz.f161)) [.tmp 4] 0 (rv a b) (r9) H2 nG (UM a b):=fun i _ hm Q c h f=>Av co Aa Ac (lx a b i) (AH [0,1,5]) nl h hm f fun r g=>⟨fun j=>fun o=>⟨id,fun k=>fun p=>⟨id,fun l=>fun q=>⟨id,fun m=>fun n=>⟨id,fun d=>fun e=>⟨id,id⟩⟩⟩⟩⟩,id⟩
theorem ZWs(b:List Nt)(c:Int):KC Tryz.prog 161 [vL BU b,vI c] (eb b c) H2:=As Tryz.func161 Tryz.ntmps161 Aa [.tmp 4] fun C co y hm d a=>Ak co Aa Ac 2 (kR b c) (AH [0,1]) nl nH hm a fun r g=>⟨id,fun _ hm a=>sq (Ak co Aa Ac 1 (mq b c) (AH [0,1,5]) nl nH hm a fun r g=>fun _ hm a=>bk 0 (lo (AF (Zyw co b c) nH hm a (fun _ hm=>Ao co Aa Ac (k9) hm a fun r g=>id))))⟩
abbrev z6:List Prb→AV:=fun y=>.tup []
@[reducible] def ZYo(a:ByteArray):List Prb→List Blk:=fun y=>[⟨0,true,134,2,[vS a,.ref (0,1) 0 0 y.length]⟩,⟨0,true,170,3,Af AA y⟩]
def mj(a:ByteArray)(b:List Prb):PT 2 (List Prb):=lr z6 (ZYo a) b
def mg(a:ByteArray)(b:List Prb):PT 2 (List Prb):=vz (fl b)<|lc (Ab [] (Du a b)) ((mj a b).m)
def mo(a:ByteArray)(b:List Prb)(d:Int)(c:Int):PT 2 (List Prb):=vz (fl b)<|lc (Ab [(12,.ptr (0,0) 0 0),(14,vB (!decide (c=(0:Int)))),(15,vI d),(16,vI c)] (Du a b)) ((BF a b (!decide (c=(0:Int))) d c).bind fun e=>(mg a e).m)
def l3(a:ByteArray)(b:List Prb)(e:List Nt)(f:Int)(c:Int):PT 2 (List Prb):=cl (ZWs e f) fun d=>vz (fl b)<|lc (Ab [(0,.ptr (0,0) 0 0),(3,vI c),(8,vI d)] (Du a b)) ((mo a b c d).m)
def Hw(a:ByteArray)(b:List Prb)(c:List Nt)(d:Int)(e:Int):Option (List Prb):=(l3 a b c d e).m
theorem Na(a:ByteArray)(b:List Prb)(e:List Nt)(f:Int)(d:Int):KG Tryz.prog 119 2 [1] [(1,0)] [.ptr (0,0) 0 0,vL BU e,vI f,vI d] [⟨0,true,134,2,[vS a,.ref (0,1) 0 0 b.length]⟩,⟨0,true,170,3,Af AA b⟩] (Hw a b e f d) z6 (ZYo a):=nz Tryz.func119 Tryz.ntmps119 Aa [] 2 [1] [0] [(1,0)] (fun C co k y hm i c=>Ak co Aa Ac 1 (l3 a b e f d) (Ae [0,3,8] Fo) nl nH hm c fun r g=>fun h=>fun _ hm c=>rg (BJ co Aa 5 (mo a b d h) (Ae [12,14,15,16] Fo) hm c fun r g=>fun _ hm c=>Bv co hm (BY a b (!decide (h=(0:Int))) d h) (Du a b) [] (fun z=>.tup []) (Du a) [] fun j hm=>Bf co Aa (mg a j) (Ae [] Fo) hm c fun r g=>fun _ hm c=>cS (mj a j) co hm c (fun r g=>id) r g))
abbrev cF:List Prb→AV:=fun y=>.tup []
@[reducible] def dV(a:ByteArray):List Prb→List Blk:=fun y=>[⟨0,true,134,2,[vS a,.ref (0,1) 0 0 y.length]⟩,⟨0,true,170,3,Af AA y⟩]
def qS(a:ByteArray)(b:List Spn)(c:Int)(d:Int):Nat×List Prb→St:=fun(f,e)=>Ab [(0,.ptr (0,0) 0 0),(1,vL CC b),(2,vI c),(3,vI d),(8,vN f)] (Du a e)
def tB(a:ByteArray):List Prb→Nat×St:=fun b=>(0,Ab [] (Du a b))
def mm(a:ByteArray)(d:List Spn)(e:Int)(f:Int)(c:Nat)(b:List Prb):PT 2 (Lv (Nat×List Prb) (List Prb) (List Prb)):=vs (wa c 1)<|vz (fl b)<|ln (qS a d e f) (c+1,b)
def ku(a:ByteArray)(c:List Spn)(d:Int)(e:Int)(f:Nat)(b:List Prb):PT 2 (Lv (Nat×List Prb) (List Prb) (List Prb)):=vz (fl b)<|lc (Ab [(0,.ptr (0,0) 0 0),(1,vL CC c),(2,vI d),(3,vI e),(8,vN f)] (Du a b)) ((mm a c d e f b).m)
def jj(a:ByteArray)(c:List Spn)(h:Int)(i:Int)(b:Nat)(e:List Prb):PT 2 (Lv (Nat×List Prb) (List Prb) (List Prb)):=AS (decide ((0:Int)<(b:Int))) c (b:Int) fun f=>vg (decide ((0:Int)<(b:Int))) (wi ((b:Int)-1))<|AS (decide ((0:Int)<(b:Int))) c ((b:Int)-1) fun g=>vz (fl e)<|lc (Ab [(0,.ptr (0,0) 0 0),(1,vL CC c),(2,vI h),(3,vI i),(8,vN b),(46,.ptr (0,0) 0 0),(62,vB (decide ((0:Int)<(b:Int))&&decide (f.lo≤g.hi)))] (Du a e)) ((BF a e (decide ((0:Int)<(b:Int))&&decide (f.lo≤g.hi)) (-1) 11).bind fun d=>(ku a c h i b d).m)
def j4(a:ByteArray)(c:List Spn)(d:Int)(e:Int)(f:Nat)(b:List Prb):PT 2 (Lv (Nat×List Prb) (List Prb) (List Prb)):=vz (fl b)<|lc (Ab [(0,.ptr (0,0) 0 0),(1,vL CC c),(2,vI d),(3,vI e),(8,vN f)] (Du a b)) ((jj a c d e f b).m)
def ke(a:ByteArray)(c:List Spn)(b:Int)(d:Int)(e:Nat)(h:List Prb):PT 2 (Lv (Nat×List Prb) (List Prb) (List Prb)):=ix c e fun f=>AS (!(decide (f.lo<b))) c (e:Int) fun g=>AS (!(decide (f.lo<b)||decide (d<g.hi))) c (e:Int) fun i=>AS (!(decide (f.lo<b)||decide (d<g.hi))) c (e:Int) fun j=>vz (fl h)<|lc (Ab [(0,.ptr (0,0) 0 0),(1,vL CC c),(2,vI b),(3,vI d),(8,vN e),(15,.ptr (0,0) 0 0),(44,vB ((decide (f.lo<b)||decide (d<g.hi))||decide (j.hi<i.lo)))] (Du a h)) ((BF a h ((decide (f.lo<b)||decide (d<g.hi))||decide (j.hi<i.lo)) (-1) 6).bind fun k=>(j4 a c b d e k).m)
def mb(a:ByteArray)(c:List Spn)(e:Int)(f:Int)(d:Nat)(b:List Prb):PT 2 (Lv (Nat×List Prb) (List Prb) (List Prb)):=vz (Ah c)<|br (decide ((d:Int)<(c.length:Int))) (vz (fl b)<|lc (Ab [(0,.ptr (0,0) 0 0),(1,vL CC c),(2,vI e),(3,vI f),(8,vN d)] (Du a b)) ((ke a c e f d b).m)) (vz (fl b)<|Aj (tB a) b)
def VI(a:ByteArray)(b:List Spn)(c:Int)(d:Int):Nat×List Prb→Option (Lv (Nat×List Prb) (List Prb) (List Prb)):=fun(f,e)=>(mb a b c d f e).m
def m5(a:ByteArray)(b:List Prb):PT 2 (List Prb):=lr cF (dV a) b
def jl(a:ByteArray)(b:List Prb)(d:List Spn)(e:Int)(f:Int):PT 2 (List Prb):=vz (fl b)<|lc (Ab [(0,.ptr (0,0) 0 0),(1,vL CC d),(2,vI e),(3,vI f),(8,vI 0)] (Du a b)) ((Am (VI a d e f) Ai (0,b)).bind (Sum.elim (fun c=>(m5 a c).m) some))
def Ox(a:ByteArray)(b:List Prb)(c:List Spn)(d:Int)(e:Int):Option (List Prb):=(jl a b c d e).m
theorem ZB5{C:Cx}(co:COx C 2 [0])(t:Ii C.κ [(1,0)])(a:ByteArray)(e:List Spn)(c:Int)(d:Int):KL Tryz.prog (Az tl) 64 C (pa [0,0,1] (Aw Tryz.f120)) [] 2 (qS a e c d) (tB a) cF (dV a) (VI a e c d):=fun(f,i) _ hm Q k l b=>Ak co Aa Ac 1 (mb a e c d f i) (Ae [0,1,2,3,8] Fo) (Ae [] Fo) l hm b fun r g=>⟨fun _ hm b=>sq (bk 1 (sq (Fk co Aa Ac 30 (ke a e c d f i) (Ae [0,1,2,3,8,15,44] Fo) hm b fun r g=>fun m=>fun n=>fun o=>fun p=>fun _ hm b=>Bv co hm (BY a i ((decide (m.lo<c)||decide (d<n.hi))||decide (p.hi<o.lo)) (-1) 6) (Du a i) [] (fun z=>.tup []) (Du a) [] fun j hm=>Bf co Aa (j4 a e c d f j) (Ae [0,1,2,3,8] Fo) hm b fun r g=>fun _ hm b=>Fk co Aa Ac 17 (jj a e c d f j) (Ae [0,1,2,3,8,46,62] Fo) hm b fun r g=>fun q=>fun s=>fun _ hm b=>Bv co hm (BY a j (decide ((0:Int)<(f:Int))&&decide (q.lo≤s.hi)) (-1) 11) (Du a j) [] (fun z=>.tup []) (Du a) [] fun h hm=>Bf co Aa (ku a e c d f h) (Ae [0,1,2,3,8] Fo) hm b fun r g=>fun _ hm b=>Av co Aa Ac (mm a e c d f h) (Ae [0,1,2,3,8] Fo) nl l hm b fun r g=>id))),id⟩
theorem xW(a:ByteArray)(b:List Prb)(d:List Spn)(e:Int)(f:Int):KG Tryz.prog 120 2 [1] [(1,0)] [.ptr (0,0) 0 0,vL CC d,vI e,vI f] [⟨0,true,134,2,[vS a,.ref (0,1) 0 0 b.length]⟩,⟨0,true,170,3,Af AA b⟩] (Ox a b d e f) cF (dV a):=nz Tryz.func120 Tryz.ntmps120 Aa [] 2 [1] [0] [(1,0)] (fun C co h y hm j c=>Ak co Aa Ac 1 (jl a b d e f) (Ae [0,1,2,3,8] Fo) nl nH hm c fun r g=>fun _ hm c=>bk 0 (lo (AF (ZB5 co h a d e f) nH hm c (fun i hm=>cS (m5 a i) co hm c (fun r g=>id) r g))))
end Go.Proofs.YthgmbpciandpiaaGreat
