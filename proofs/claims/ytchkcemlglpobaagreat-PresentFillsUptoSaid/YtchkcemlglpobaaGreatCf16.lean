import Derived.Test.YtchkcemlglpobaaGreatCf15
import Derived.Test.YtchkcemlglpobaaGreatCf00
namespace Go.Proofs.YtchkcemlglpobaaGreat
set_option maxRecDepth 100000
set_option linter.all false
open Go Go.Eng
abbrev rv:Bool→AV:=fun y=>vB y
def gA(a:ByteArray):PT 0 (Bool):=cl (V3 a) fun b=>clg b (qh a) fun c=>lr rv (fun _=>[]) (b&&(!c))
def Ze(a:ByteArray):Option (Bool):=(gA a).m
theorem S4(a:ByteArray):KC Tryz.prog 127 [vS a] (Ze a) rv:=Au Tryz.func127 Tryz.ntmps127 Aa [.tmp 2] fun C co y hm b c=>Ao co Aa Ac (gA a) hm c fun r g=>fun d=>fun e=>id
abbrev Pn:Bool→AV:=fun y=>vB y
def lM(a:List Spn)(b:Int):Nat→St:=fun c=>Ab [(0,vL AW a),(1,vI b),(5,vN c)] []
def yf:Unit→Nat×St:=fun _=>(0,Ab [] [])
def dl(a:List Spn)(c:Int)(b:Nat):PT 0 (Lv (Nat) (Unit) (Bool)):=vz (Ah a)<|br (decide ((b:Int)<(a.length:Int))) (ix a b fun d=>A2 (decide (d.lo≤c)) a (b:Int) fun e=>br (decide (d.lo≤c)&&decide (c≤e.hi)) (AC Pn (fun _=>[]) true) (vs (wa b 1)<|ln (lM a c) (b+1))) (Al (yf) ())
def Q4(a:List Spn)(b:Int):Nat→Option (Lv (Nat) (Unit) (Bool)):=fun c=>(dl a b c).m
def ip:PT 0 (Bool):=lr Pn (fun _=>[]) false
def eN(a:List Spn)(b:Int):PT 0 (Bool):=lc (Ab [(0,vL AW a),(1,vI b),(5,vI 0)] []) ((Am (Q4 a b) Aj 0).bind (Sum.elim (fun _=>(ip).m) some))
def dL(a:List Spn)(b:Int):PT 0 (Bool):=lc (Ab [(0,vL AW a),(1,vI b)] []) ((eN a b).m)
def ZE(a:List Spn)(b:Int):Option (Bool):=(dL a b).m
theorem ZwJ{C:Cx}(co:CO C 0)(a:List Spn)(b:Int):KL Tryz.prog (AH tl) 28 C (pa [0,0,1,0,1] (AD Tryz.f128)) [.tmp 4] 0 (lM a b) (yf) Pn (fun _=>[]) (Q4 a b):=fun f _ hm Q c e d=>AA co Aa Ac (dl a b f) (AQ [0,1,5]) nl e hm d fun r g=>⟨fun h=>fun i=>⟨id,id⟩,id⟩
theorem qn(b:List Spn)(c:Int):KC Tryz.prog 128 [vL AW b,vI c] (ZE b c) Pn:=Au Tryz.func128 Tryz.ntmps128 Aa [.tmp 4] fun C co y hm d a=>Ak co Aa Ac 1 (dL b c) (AQ [0,1]) nl (fun _ h=>h) hm a fun r g=>fun _ hm a=>sq (Ak co Aa Ac 1 (eN b c) (AQ [0,1,5]) nl (fun _ h=>h) hm a fun r g=>fun _ hm a=>bk 0 (lo (AL (ZwJ co b c) (fun _ h=>h) hm a (fun _ hm=>Ao co Aa Ac (ip) hm a fun r g=>id))))
abbrev DM:Bool→AV:=fun y=>vB y
def gO(a:Fld):PT 0 (Bool):=vw .go<|br (!decide (a.card=(5:Int))) (vw .go<|vw .go<|vw .go<|lr DM (fun _=>[]) ((decide ((1:Int)≤a.card)&&decide (a.card≤(4:Int)))&&decide (a.key=(0:Int)))) (vw .go<|br (decide (a.key=(1:Int))) (br (decide (a.key=(1:Int))) (lr DM (fun _=>[]) true) (lr DM (fun _=>[]) false)) (br (decide (a.key=(2:Int))) (br (decide (a.key=(2:Int))) (lr DM (fun _=>[]) true) (lr DM (fun _=>[]) false)) (br (decide (a.key=(3:Int))) (br (decide (a.key=(3:Int))) (lr DM (fun _=>[]) true) (lr DM (fun _=>[]) false)) (br (decide (a.key=(4:Int))) (br (decide (a.key=(4:Int))) (lr DM (fun _=>[]) true) (lr DM (fun _=>[]) false)) (br (decide (a.key=(5:Int))) (br (decide (a.key=(5:Int))) (lr DM (fun _=>[]) true) (lr DM (fun _=>[]) false)) (br (decide (a.key=(7:Int))) (lr DM (fun _=>[]) true) (lr DM (fun _=>[]) false)))))))
def Zg(a:Fld):Option (Bool):=(gO a).m
theorem ZOe(a:Fld):KC Tryz.prog 129 [.agg ((Ap a).map .d)] (Zg a) DM:=Au Tryz.func129 Tryz.ntmps129 Aa [.tmp 2] fun C co y hm b c=>Ao co Aa Ac (gO a) hm c fun r g=>⟨id,⟨⟨id,id⟩,⟨⟨id,id⟩,⟨⟨id,id⟩,⟨⟨id,id⟩,⟨⟨id,id⟩,⟨id,id⟩⟩⟩⟩⟩⟩⟩
abbrev XV(a:Scm):Ad×Blk:=((1,2),⟨0,true,26,3,[vL Aw a.messages,vL AO a.enums,vL AS a.services]⟩)
abbrev OD:Int→AV:=fun y=>vI y
def lP(a:Scm)(b:ByteArray):Nat→St:=fun c=>Ab [(1,vS b),(2,.ptr (1,2) 0 0),(5,vN c)] [(XV a)]
def yi:Unit→Nat×St:=fun _=>(0,Ab [] [])
def fT(b:Scm)(c:ByteArray)(a:Nat):PT 0 (Lv (Nat) (Unit) (Int)):=vw .go<|vz (Ah b.enums)<|br (decide ((a:Int)<(b.enums.length:Int))) (vw .go<|ix b.enums a fun d=>br (decide (d.name=c)) (AC OD (fun _=>[]) (a:Int)) (vs (wa a 1)<|ln (lP b c) (a+1))) (Al (yi) ())
def QS(a:Scm)(b:ByteArray):Nat→Option (Lv (Nat) (Unit) (Int)):=fun c=>(fT a b c).m
def dN:PT 0 (Int):=lr OD (fun _=>[]) (-1)
def h9(a:Scm)(b:ByteArray):PT 0 (Int):=lc (Ab [(1,vS b),(2,.ptr (1,2) 0 0),(5,vI 0)] [(XV a)]) ((Am (QS a b) Aj 0).bind (Sum.elim (fun _=>(dN).m) some))
def en(a:Scm)(b:ByteArray):PT 0 (Int):=lc (Ab [(1,vS b),(2,.ptr (1,2) 0 0)] [(XV a)]) ((h9 a b).m)
def ZI(a:Scm)(b:ByteArray):Option (Int):=(en a b).m
theorem ZvV{C:Cx}(co:CO C 0)(a:Scm)(b:ByteArray):KL Tryz.prog (AH tl) 22 C (pa [0,0,1,0,1] (AD Tryz.f164)) [.tmp 4] 0 (lP a b) (yi) OD (fun _=>[]) (QS a b):=fun f _ hm Q c e d=>AA co Aa Ac (fT a b f) (Ae [1,2,5] CY) nl e hm d fun r g=>⟨fun h=>⟨id,id⟩,id⟩
theorem qs(b:Scm)(c:ByteArray):KC Tryz.prog 164 [.agg ((As b).map .d),vS c] (ZI b c) OD:=Au Tryz.func164 Tryz.ntmps164 Aa [.tmp 4] fun C co y hm d a=>Ak co Aa Ac 1 (en b c) (Ae [1,2] CY) nl (fun _ h=>h) hm a fun r g=>fun _ hm a=>sq (Ak co Aa Ac 1 (h9 b c) (Ae [1,2,5] CY) nl (fun _ h=>h) hm a fun r g=>fun _ hm a=>bk 0 (lo (AL (ZvV co b c) (fun _ h=>h) hm a (fun _ hm=>Ao co Aa Ac (dN) hm a fun r g=>id))))
abbrev Oz:Bool→AV:=fun y=>vB y
def gn(b:Scm)(a:Fld):PT 0 (Bool):=vw .go<|br (decide (a.type.kind=(9:Int))) (vw .go<|vw .go<|cl (qs b a.type.name) fun c=>lr Oz (fun _=>[]) (decide ((0:Int)≤c))) (br (decide (a.type.kind=(10:Int))) (vw .go<|vw .go<|cl (MZ b a.type.name) fun d=>vw .go<|lr Oz (fun _=>[]) (decide ((0:Int)≤d)&&(!decide (a.card=(3:Int))))) (vw .go<|vw .go<|vw .go<|lr Oz (fun _=>[]) ((decide ((1:Int)≤a.type.kind)&&decide (a.type.kind≤(8:Int)))&&decide (a.type.name=(⟨#[]⟩:ByteArray)))))
def aa(a:Scm)(b:Fld):Option (Bool):=(gn a b).m
theorem ZPm(a:Scm)(b:Fld):KC Tryz.prog 130 [.agg ((As a).map .d),.agg ((Ap b).map .d)] (aa a b) Oz:=Au Tryz.func130 Tryz.ntmps130 Aa [.tmp 4] fun C co y hm c d=>Ao co Aa Ac (gn a b) hm d fun r g=>⟨fun e=>id,⟨fun f=>id,id⟩⟩
abbrev IJ:List (Ad×Bool):=[((1,2),false),((1,5),false)]
abbrev O6(a:Msg):Ad×Blk:=((1,2),⟨0,true,49,5,[vS a.name,vL Ap a.fields,vL AW a.reserved,vL AE a.gone,vL AG a.notes]⟩)
abbrev OT(a:Fld):Ad×Blk:=((1,5),⟨0,true,55,16,[vI a.num,vS a.name,vI a.card,vI a.key,vI a.type.kind,vS a.type.name,vS a.union,vB a.hasDefault,vI a.dflt.kind,.d (.int .u64 a.dflt.bits),vS a.dflt.text,vL Aq a.dflt.list,vL Ar a.dflt.pairs,vL Ai a.dflt.slots,vL Ay a.dflt.raws,vL AG a.notes]⟩)
abbrev Jd:Bool→AV:=fun y=>vB y
def gD(b:Msg)(c:Int)(a:Fld):Bool×Nat→St:=fun(v3,v4)=>Ab [(1,vI c),(2,.ptr (1,2) 0 0),(5,.ptr (1,5) 0 0),(6,vB v3),(7,vN v4)] [(O6 b),(OT a)]
def yq(b:Msg)(c:Int)(a:Fld):Bool→Nat×St:=fun d=>(0,Ab [(1,vI c),(2,.ptr (1,2) 0 0),(5,.ptr (1,5) 0 0),(6,vB d)] [(O6 b),(OT a)])
def iB(a:Msg)(c:Int)(b:Fld)(v3:Bool)(v4:Nat):PT 0 (Lv (Bool×Nat) (Bool) (Bool)):=vw .go<|vz (Ah a.fields)<|br (decide ((v4:Int)<(a.fields.length:Int))) (vw .go<|ix a.fields v4 fun d=>vw .go<|br (decide (d.name=b.union)) (AC Jd (fun _=>[]) false) (vw .go<|A2 (decide ((v4:Int)<c)) a.fields (v4:Int) fun e=>vw .go<|br (decide ((v4:Int)<c)&&decide (e.union=b.union)) (vs (wa v4 1)<|ln (gD a c b) (true,v4+1)) (vs (wa v4 1)<|ln (gD a c b) (v3,v4+1)))) (Al (yq a c b) v3)
def QZ(b:Msg)(c:Int)(a:Fld):Bool×Nat→Option (Lv (Bool×Nat) (Bool) (Bool)):=fun(v3,v4)=>(iB b c a v3 v4).m
def i6(e:Msg)(b:Int)(c:Fld)(a:Bool):PT 0 (Bool):=vw .go<|vg (!(!a)) (wi (b-1))<|A2 (!(!a)) e.fields (b-1) fun d=>vw .go<|lr Jd (fun _=>[]) ((!a)||decide (d.union=c.union))
def ez(b:Msg)(c:Int)(a:Fld):PT 0 (Bool):=lc (Ab [(1,vI c),(2,.ptr (1,2) 0 0),(5,.ptr (1,5) 0 0),(6,vB false),(7,vI 0)] [(O6 b),(OT a)]) ((Am (QZ b c a) Aj (false,0)).bind (Sum.elim (fun d=>(i6 b c a d).m) some))
def fL(b:Msg)(c:Int):PT 0 (Bool):=vw .go<|Dj b.fields c fun a=>vw .go<|vw .go<|br (decide (a.union=(⟨#[]⟩:ByteArray))) (lr Jd (fun _=>[]) true) (vw .go<|vw .go<|clg (!(!decide (a.card=(2:Int)))) (S4 a.union) fun d=>br ((!decide (a.card=(2:Int)))||(!d)) (lr Jd (fun _=>[]) false) (lc (Ab [(1,vI c),(2,.ptr (1,2) 0 0),(5,.ptr (1,5) 0 0),(6,vB false)] [(O6 b),(OT a)]) ((ez b c a).m)))
def Zz(a:Msg)(b:Int):Option (Bool):=(fL a b).m
theorem ZvU{C:Cx}(co:CO C 0)(b:Msg)(c:Int)(a:Fld):KL Tryz.prog (AH tl) 69 C (pa [0,0,1,0,1,1,1,1,1] (AD Tryz.f131)) [.tmp 4] 0 (gD b c a) (yq b c a) Jd (fun _=>[]) (QZ b c a):=fun(v3,v4) _ hm Q d f e=>AA co Aa Ac (iB b c a v3 v4) (Ae [1,2,5,6,7] IJ) (Ae [1,2,5,6] IJ) f hm e fun r g=>⟨fun h=>⟨id,fun i=>⟨id,id⟩⟩,id⟩
theorem ZPs(b:Msg)(c:Int):KC Tryz.prog 131 [.agg ((Aw b).map .d),vI c] (Zz b c) Jd:=Au Tryz.func131 Tryz.ntmps131 Aa [.tmp 4] fun C co y hm e a=>Ak co Aa Ac 5 (fL b c) (Ae [1,2,5,6] IJ) nl (fun _ h=>h) hm a fun r g=>fun d=>⟨id,fun j=>⟨id,fun _ hm a=>sq (Ak co Aa Ac 1 (ez b c d) (Ae [1,2,5,6,7] IJ) nl (fun _ h=>h) hm a fun r g=>fun _ hm a=>bk 0 (lo (AL (ZvU co b c d) (fun _ h=>h) hm a (fun f hm=>Ao co Aa Ac (i6 b c d f) hm a fun r g=>fun i=>id))))⟩⟩
abbrev tu:Bool→AV:=fun y=>vB y
def ic(a:Val)(b:Val):PT 0 (Bool):=vw .go<|vw .go<|vw .go<|vw .go<|vw .go<|vw .go<|vw .go<|vy ((decide (a.kind=b.kind)&&decide (a.bits=b.bits))&&decide (a.text=b.text)) (Ah a.list)<|vw .go<|vy ((decide (a.kind=b.kind)&&decide (a.bits=b.bits))&&decide (a.text=b.text)) (Ah a.pairs)<|vg ((decide (a.kind=b.kind)&&decide (a.bits=b.bits))&&decide (a.text=b.text)) (wa a.list.length a.pairs.length)<|vw .go<|vy ((decide (a.kind=b.kind)&&decide (a.bits=b.bits))&&decide (a.text=b.text)) (Ah a.slots)<|vg ((decide (a.kind=b.kind)&&decide (a.bits=b.bits))&&decide (a.text=b.text)) (wa (a.list.length+a.pairs.length) a.slots.length)<|vw .go<|vy ((decide (a.kind=b.kind)&&decide (a.bits=b.bits))&&decide (a.text=b.text)) (Ah a.raws)<|vg ((decide (a.kind=b.kind)&&decide (a.bits=b.bits))&&decide (a.text=b.text)) (wa ((a.list.length+a.pairs.length)+a.slots.length) a.raws.length)<|vw .go<|vy ((decide (a.kind=b.kind)&&decide (a.bits=b.bits))&&decide (a.text=b.text)) (Ah b.list)<|vg ((decide (a.kind=b.kind)&&decide (a.bits=b.bits))&&decide (a.text=b.text)) (wa (((a.list.length+a.pairs.length)+a.slots.length)+a.raws.length) b.list.length)<|vw .go<|vy ((decide (a.kind=b.kind)&&decide (a.bits=b.bits))&&decide (a.text=b.text)) (Ah b.pairs)<|vg ((decide (a.kind=b.kind)&&decide (a.bits=b.bits))&&decide (a.text=b.text)) (wa ((((a.list.length+a.pairs.length)+a.slots.length)+a.raws.length)+b.list.length) b.pairs.length)<|vw .go<|vy ((decide (a.kind=b.kind)&&decide (a.bits=b.bits))&&decide (a.text=b.text)) (Ah b.slots)<|vg ((decide (a.kind=b.kind)&&decide (a.bits=b.bits))&&decide (a.text=b.text)) (wa (((((a.list.length+a.pairs.length)+a.slots.length)+a.raws.length)+b.list.length)+b.pairs.length) b.slots.length)<|vw .go<|vy ((decide (a.kind=b.kind)&&decide (a.bits=b.bits))&&decide (a.text=b.text)) (Ah b.raws)<|vg ((decide (a.kind=b.kind)&&decide (a.bits=b.bits))&&decide (a.text=b.text)) (wa ((((((a.list.length+a.pairs.length)+a.slots.length)+a.raws.length)+b.list.length)+b.pairs.length)+b.slots.length) b.raws.length)<|lr tu (fun _=>[]) (((decide (a.kind=b.kind)&&decide (a.bits=b.bits))&&decide (a.text=b.text))&&decide (((((((((a.list.length+a.pairs.length)+a.slots.length)+a.raws.length)+b.list.length)+b.pairs.length)+b.slots.length)+b.raws.length:Nat):Int)=(0:Int)))
def Zd(a:Val)(b:Val):Option (Bool):=(ic a b).m
theorem o3(a:Val)(b:Val):KC Tryz.prog 165 [.agg ((Ag a).map .d),.agg ((Ag b).map .d)] (Zd a b) tu:=Au Tryz.func165 Tryz.ntmps165 Aa [.tmp 4] fun C co y hm c d=>Ao co Aa Ac (ic a b) hm d fun r g=>id
abbrev sN:Bool→AV:=fun y=>vB y
def iw(a:Int):PT 0 (Bool):=lr sN (fun _=>[]) (decide ((1:Int)≤a)&&decide (a≤(9:Int)))
def ZS(a:Int):Option (Bool):=(iw a).m
theorem o5(a:Int):KC Tryz.prog 100 [vI a] (ZS a) sN:=Au Tryz.func100 Tryz.ntmps100 Aa [.tmp 2] fun C co y hm b c=>Ao co Aa Ac (iw a) hm c fun r g=>id
abbrev tF:Bool→AV:=fun y=>vB y
def fa(a:ByteArray)(b:Int)(d:Int)(f:Int):PT 0 (Bool):=vz (A7 a.size)<|E5 (decide (b<(a.size:Int))) a b fun c=>E5 (decide (b<(a.size:Int))&&decide (d≤(c.toNat:Int))) a b fun e=>lr tF (fun _=>[]) ((decide (b<(a.size:Int))&&decide (d≤(c.toNat:Int)))&&decide ((e.toNat:Int)≤f))
def ZK(a:ByteArray)(b:Int)(c:Int)(d:Int):Option (Bool):=(fa a b c d).m
theorem MP(a:ByteArray)(b:Int)(c:Int)(d:Int):KC Tryz.prog 212 [vS a,vI b,.d (.int .u8 c),.d (.int .u8 d)] (ZK a b c d) tF:=Au Tryz.func212 Tryz.ntmps212 Aa [.tmp 8] fun C co y hm e f=>Ao co Aa Ac (fa a b c d) hm f fun r g=>fun h=>fun i=>id
abbrev Om:Bool→AV:=fun y=>vB y
def yo(a:ByteArray)(b:Int)(c:Int):Nat→St:=fun d=>Ab [(0,vS a),(1,vI b),(2,vI c),(7,vN d)] []
def k8:Unit→Nat×St:=fun _=>(0,Ab [] [])
def fV(c:ByteArray)(b:Int)(d:Int)(a:Nat):PT 0 (Lv (Nat) (Unit) (Bool)):=br (decide ((a:Int)<d)) (vs (wi (b+(a:Int)))<|cl (MP c (b+(a:Int)) 128 191) fun e=>br (!e) (AC Om (fun _=>[]) false) (vs (wa a 1)<|ln (yo c b d) (a+1))) (Al (k8) ())
def Q8(a:ByteArray)(b:Int)(c:Int):Nat→Option (Lv (Nat) (Unit) (Bool)):=fun d=>(fV a b c d).m
def gb:PT 0 (Bool):=lr Om (fun _=>[]) true
def ed(a:ByteArray)(b:Int)(c:Int):PT 0 (Bool):=lc (Ab [(0,vS a),(1,vI b),(2,vI c),(7,vI 0)] []) ((Am (Q8 a b c) Aj 0).bind (Sum.elim (fun _=>(gb).m) some))
def fZ(a:ByteArray)(b:Int)(c:Int):PT 0 (Bool):=lc (Ab [(0,vS a),(1,vI b),(2,vI c)] []) ((ed a b c).m)
def ZW(a:ByteArray)(b:Int)(c:Int):Option (Bool):=(fZ a b c).m
theorem Zx7{C:Cx}(co:CO C 0)(a:ByteArray)(b:Int)(c:Int):KL Tryz.prog (AH tl) 19 C (pa [0,0,1,0,1] (AD Tryz.f211)) [.tmp 6] 0 (yo a b c) (k8) Om (fun _=>[]) (Q8 a b c):=fun h _ hm Q d f e=>AA co Aa Ac (fV a b c h) (AQ [0,1,2,7]) nl f hm e fun r g=>⟨fun i=>⟨id,id⟩,id⟩
theorem IC(b:ByteArray)(c:Int)(d:Int):KC Tryz.prog 211 [vS b,vI c,vI d] (ZW b c d) Om:=Au Tryz.func211 Tryz.ntmps211 Aa [.tmp 6] fun C co y hm e a=>Ak co Aa Ac 1 (fZ b c d) (AQ [0,1,2]) nl (fun _ h=>h) hm a fun r g=>fun _ hm a=>sq (Ak co Aa Ac 1 (ed b c d) (AQ [0,1,2,7]) nl (fun _ h=>h) hm a fun r g=>fun _ hm a=>bk 0 (lo (AL (Zx7 co b c d) (fun _ h=>h) hm a (fun _ hm=>Ao co Aa Ac (gb) hm a fun r g=>id))))
abbrev FJ:Int→AV:=fun y=>vI y
def hJ(c:ByteArray)(b:Int):PT 0 (Int):=Tk c b fun a=>br (decide ((a.toNat:Int)<(128:Int))) (lr FJ (fun _=>[]) 1) (vg (decide ((194:Int)≤(a.toNat:Int))&&decide ((a.toNat:Int)≤(223:Int))) (wi (b+1))<|clg (decide ((194:Int)≤(a.toNat:Int))&&decide ((a.toNat:Int)≤(223:Int))) (IC c (b+1) 1) fun j=>br ((decide ((194:Int)≤(a.toNat:Int))&&decide ((a.toNat:Int)≤(223:Int)))&&j) (lr FJ (fun _=>[]) 2) (vg (decide ((a.toNat:Int)=(224:Int))) (wi (b+1))<|clg (decide ((a.toNat:Int)=(224:Int))) (MP c (b+1) 160 191) fun g=>vg (decide ((a.toNat:Int)=(224:Int))&&g) (wi (b+2))<|clg (decide ((a.toNat:Int)=(224:Int))&&g) (IC c (b+2) 1) fun k=>br ((decide ((a.toNat:Int)=(224:Int))&&g)&&k) (lr FJ (fun _=>[]) 3) (vg (decide ((a.toNat:Int)=(237:Int))) (wi (b+1))<|clg (decide ((a.toNat:Int)=(237:Int))) (MP c (b+1) 128 159) fun h=>vg (decide ((a.toNat:Int)=(237:Int))&&h) (wi (b+2))<|clg (decide ((a.toNat:Int)=(237:Int))&&h) (IC c (b+2) 1) fun l=>br ((decide ((a.toNat:Int)=(237:Int))&&h)&&l) (lr FJ (fun _=>[]) 3) (vg ((decide ((225:Int)≤(a.toNat:Int))&&decide ((a.toNat:Int)≤(239:Int)))&&(!decide ((a.toNat:Int)=(237:Int)))) (wi (b+1))<|clg ((decide ((225:Int)≤(a.toNat:Int))&&decide ((a.toNat:Int)≤(239:Int)))&&(!decide ((a.toNat:Int)=(237:Int)))) (IC c (b+1) 2) fun m=>br (((decide ((225:Int)≤(a.toNat:Int))&&decide ((a.toNat:Int)≤(239:Int)))&&(!decide ((a.toNat:Int)=(237:Int))))&&m) (lr FJ (fun _=>[]) 3) (vg (decide ((a.toNat:Int)=(240:Int))) (wi (b+1))<|clg (decide ((a.toNat:Int)=(240:Int))) (MP c (b+1) 144 191) fun i=>vg (decide ((a.toNat:Int)=(240:Int))&&i) (wi (b+2))<|clg (decide ((a.toNat:Int)=(240:Int))&&i) (IC c (b+2) 2) fun n=>br ((decide ((a.toNat:Int)=(240:Int))&&i)&&n) (lr FJ (fun _=>[]) 4) (vg (decide ((241:Int)≤(a.toNat:Int))&&decide ((a.toNat:Int)≤(243:Int))) (wi (b+1))<|clg (decide ((241:Int)≤(a.toNat:Int))&&decide ((a.toNat:Int)≤(243:Int))) (IC c (b+1) 3) fun e=>br ((decide ((241:Int)≤(a.toNat:Int))&&decide ((a.toNat:Int)≤(243:Int)))&&e) (lr FJ (fun _=>[]) 4) (vg (decide ((a.toNat:Int)=(244:Int))) (wi (b+1))<|clg (decide ((a.toNat:Int)=(244:Int))) (MP c (b+1) 128 143) fun d=>vg (decide ((a.toNat:Int)=(244:Int))&&d) (wi (b+2))<|clg (decide ((a.toNat:Int)=(244:Int))&&d) (IC c (b+2) 2) fun f=>br ((decide ((a.toNat:Int)=(244:Int))&&d)&&f) (lr FJ (fun _=>[]) 4) (lr FJ (fun _=>[]) 0))))))))
def Zi(a:ByteArray)(b:Int):Option (Int):=(hJ a b).m
theorem ZP6(a:ByteArray)(b:Int):KC Tryz.prog 194 [vS a,vI b] (Zi a b) FJ:=Au Tryz.func194 Tryz.ntmps194 Aa [.tmp 4] fun C co y hm c d=>Ao co Aa Ac (hJ a b) hm d fun r g=>fun i=>⟨id,fun j=>⟨id,fun k=>fun l=>⟨id,fun m=>fun n=>⟨id,fun o=>⟨id,fun p=>fun q=>⟨id,fun e=>⟨id,fun f=>fun h=>⟨id,id⟩⟩⟩⟩⟩⟩⟩⟩
abbrev OS:Int→AV:=fun y=>vI y
def x1(a:ByteArray):Int→St:=fun b=>Ab [(0,vS a),(3,vI b)] []
def yW:Unit→Nat×St:=fun _=>(0,Ab [] [])
def iA(b:ByteArray)(a:Int):PT 0 (Lv (Int) (Unit) (Int)):=vz (A7 b.size)<|br (decide (a<(b.size:Int))) (cl (ZP6 b a) fun c=>br (decide (c=(0:Int))) (AC OS (fun _=>[]) a) (vs (wi (a+c))<|ln (x1 b) (a+c))) (Al (yW) ())
def QG(a:ByteArray):Int→Option (Lv (Int) (Unit) (Int)):=fun b=>(iA a b).m
def fK:PT 0 (Int):=lr OS (fun _=>[]) (-1)
def iG(a:ByteArray):PT 0 (Int):=lc (Ab [(0,vS a),(3,vI 0)] []) ((Am (QG a) Aj 0).bind (Sum.elim (fun _=>(fK).m) some))
def im(a:ByteArray):PT 0 (Int):=lc (Ab [(0,vS a)] []) ((iG a).m)
def Z4(a:ByteArray):Option (Int):=(im a).m
theorem ZvW{C:Cx}(co:CO C 0)(a:ByteArray):KL Tryz.prog (AH tl) 18 C (pa [0,0,1,0,1] (AD Tryz.f169)) [.tmp 2] 0 (x1 a) (yW) OS (fun _=>[]) (QG a):=fun e _ hm Q b d c=>AA co Aa Ac (iA a e) (AQ [0,3]) nl d hm c fun r g=>⟨fun f=>⟨id,id⟩,id⟩
theorem ZOS(b:ByteArray):KC Tryz.prog 169 [vS b] (Z4 b) OS:=Au Tryz.func169 Tryz.ntmps169 Aa [.tmp 2] fun C co y hm c a=>Ak co Aa Ac 1 (im b) (AQ [0]) nl (fun _ h=>h) hm a fun r g=>fun _ hm a=>sq (Ak co Aa Ac 1 (iG b) (AQ [0,3]) nl (fun _ h=>h) hm a fun r g=>fun _ hm a=>bk 0 (lo (AL (ZvW co b) (fun _ h=>h) hm a (fun _ hm=>Ao co Aa Ac (fK) hm a fun r g=>id))))
abbrev rY:Bool→AV:=fun y=>vB y
def dk(a:ByteArray):PT 0 (Bool):=cl (ZOS a) fun b=>lr rY (fun _=>[]) (decide (b<(0:Int)))
def Zv(a:ByteArray):Option (Bool):=(dk a).m
theorem lV(a:ByteArray):KC Tryz.prog 135 [vS a] (Zv a) rY:=Au Tryz.func135 Tryz.ntmps135 Aa [.tmp 2] fun C co y hm b c=>Ao co Aa Ac (dk a) hm c fun r g=>fun d=>id
abbrev sM:Bool→AV:=fun y=>vB y
def eA(a:Int):PT 0 (Bool):=lr sM (fun _=>[]) (decide (a=(7:Int))||decide (a=(8:Int)))
def Zs(a:Int):Option (Bool):=(eA a).m
theorem RI(a:Int):KC Tryz.prog 158 [vI a] (Zs a) sM:=Au Tryz.func158 Tryz.ntmps158 Aa [.tmp 2] fun C co y hm b c=>Ao co Aa Ac (eA a) hm c fun r g=>id
abbrev rq:Bool→AV:=fun y=>vB y
def lg(a:Val):PT 0 (Bool):=vw .go<|vz (Ah a.list)<|vw .go<|vy (decide ((a.list.length:Int)=(0:Int))) (Ah a.pairs)<|vw .go<|vy (decide ((a.list.length:Int)=(0:Int))&&decide ((a.pairs.length:Int)=(0:Int))) (Ah a.slots)<|vw .go<|vy ((decide ((a.list.length:Int)=(0:Int))&&decide ((a.pairs.length:Int)=(0:Int)))&&decide ((a.slots.length:Int)=(0:Int))) (Ah a.raws)<|lr rq (fun _=>[]) (((decide ((a.list.length:Int)=(0:Int))&&decide ((a.pairs.length:Int)=(0:Int)))&&decide ((a.slots.length:Int)=(0:Int)))&&decide ((a.raws.length:Int)=(0:Int)))
def ub(a:Val):Option (Bool):=(lg a).m
theorem ZQy(a:Val):KC Tryz.prog 190 [.agg ((Ag a).map .d)] (ub a) rq:=Au Tryz.func190 Tryz.ntmps190 Aa [.tmp 2] fun C co y hm b c=>Ao co Aa Ac (lg a) hm c fun r g=>id
abbrev Gl:Bool→AV:=fun y=>vB y
def dY(b:Int)(a:Val):PT 0 (Bool):=cl (o5 b) fun c=>vw .go<|vw .go<|clg (!((!c)||(!decide (a.kind=b)))) (ZQy a) fun d=>br (((!c)||(!decide (a.kind=b)))||(!d)) (lr Gl (fun _=>[]) false) (cl (RI b) fun e=>br e (vw .go<|vw .go<|vy (decide (a.bits=(0:Int))) (A7 a.text.size)<|vw .go<|clg ((decide (a.bits=(0:Int))&&decide ((a.text.size:Int)≤(4096:Int)))&&(!(decide (b=(8:Int))))) (lV a.text) fun f=>lr Gl (fun _=>[]) ((decide (a.bits=(0:Int))&&decide ((a.text.size:Int)≤(4096:Int)))&&(decide (b=(8:Int))||f))) (vw .go<|br (!decide (a.text=(⟨#[]⟩:ByteArray))) (lr Gl (fun _=>[]) false) (br (decide (b=(1:Int))) (vw .go<|lr Gl (fun _=>[]) (decide (a.bits≤(1:Int)))) (br (decide (b=(2:Int))) (vw .go<|vz (wk .i64 a.bits)<|lr Gl (fun _=>[]) (decide (((-2147483648):Int)≤(IntKind.i64.wrap a.bits))&&decide ((IntKind.i64.wrap a.bits)≤(2147483647:Int)))) (br (decide (b=(4:Int))) (vw .go<|lr Gl (fun _=>[]) (decide (a.bits<(4294967296:Int)))) (br (decide (b=(9:Int))) (vw .go<|lr Gl (fun _=>[]) (decide (a.bits<(2147483648:Int)))) (lr Gl (fun _=>[]) true)))))))
def ZZ(a:Int)(b:Val):Option (Bool):=(dY a b).m
theorem W4(a:Int)(b:Val):KC Tryz.prog 166 [vI a,.agg ((Ag b).map .d)] (ZZ a b) Gl:=Au Tryz.func166 Tryz.ntmps166 Aa [.tmp 4] fun C co y hm c d=>Ao co Aa Ac (dY a b) hm d fun r g=>fun e=>fun f=>⟨id,fun h=>⟨fun i=>id,⟨id,⟨id,⟨id,⟨id,⟨id,id⟩⟩⟩⟩⟩⟩⟩
abbrev Ja:Int→AV:=fun y=>vI y
def QV(a:Int):PT 0 (Int):=rem .u64 a 9223372036854775808<|br (decide ((9218868437227405312:Int)<(Hr .u64 a 9223372036854775808))) (lr Ja (fun _=>[]) 0) (br (decide ((Hr .u64 a 9223372036854775808)=(9218868437227405312:Int))) (lr Ja (fun _=>[]) 1) (br (decide ((Hr .u64 a 9223372036854775808)=(0:Int))) (lr Ja (fun _=>[]) 2) (br (decide ((Hr .u64 a 9223372036854775808)<(4503599627370496:Int))) (lr Ja (fun _=>[]) 3) (lr Ja (fun _=>[]) 4))))
def L0(a:Int):Option (Int):=(QV a).m
theorem oN(a:Int):KC Tryz.prog 187 [.d (.int .u64 a)] (L0 a) Ja:=Au Tryz.func187 Tryz.ntmps187 Aa [.tmp 2] fun C co y hm b c=>Ao co Aa Ac (QV a) hm c fun r g=>⟨id,⟨id,⟨id,⟨id,id⟩⟩⟩⟩
abbrev Xm:Val→AV:=fun y=>.agg ((Ag y).map .d)
def gR(a:Val):PT 0 (Val):=vw .go<|vw .go<|clg (decide (a.kind=(6:Int))) (oN a.bits) fun b=>br (decide (a.kind=(6:Int))&&decide (b=(0:Int))) (vw .go<|vw .go<|vw .go<|lr Xm (fun _=>[]) (.mk a.kind 9221120237041090560 a.text a.list a.pairs a.slots a.raws:Val)) (vw .go<|vw .go<|lr Xm (fun _=>[]) a)
def ZU(a:Val):Option (Val):=(gR a).m
theorem ZPD(a:Val):KC Tryz.prog 167 [.agg ((Ag a).map .d)] (ZU a) Xm:=Au Tryz.func167 Tryz.ntmps167 Aa [.cell 2 35] fun C co y hm b c=>Ao co Aa Ac (gR a) hm c fun r g=>fun d=>⟨id,id⟩
abbrev XY(a:Scm):Ad×Blk:=((1,2),⟨0,true,26,3,[vL Aw a.messages,vL AO a.enums,vL AS a.services]⟩)
abbrev XQ(a:Fld):Ad×Blk:=((1,5),⟨0,true,35,7,[vI a.dflt.kind,.d (.int .u64 a.dflt.bits),vS a.dflt.text,vL Aq a.dflt.list,vL Ar a.dflt.pairs,vL Ai a.dflt.slots,vL Ay a.dflt.raws]⟩)
abbrev G1:Bool→AV:=fun y=>vB y
def lH(a:Scm)(b:Fld)(d:Int):Nat→St:=fun c=>Ab [(2,.ptr (1,2) 0 0),(5,.ptr (1,5) 0 0),(6,vI d),(7,vN c)] [(XY a),(XQ b)]
def yg:Unit→Nat×St:=fun _=>(0,Ab [] [])
def ea(b:Scm)(f:Fld)(c:Int)(a:Nat):PT 0 (Lv (Nat) (Unit) (Bool)):=vw .go<|Dj b.enums c fun d=>vz (Ah d.items)<|br (decide ((a:Int)<(d.items.length:Int))) (vw .go<|Dj b.enums c fun g=>ix g.items a fun e=>vz (wk .u64 e.num)<|vw .go<|br (decide ((IntKind.u64.wrap e.num)=f.dflt.bits)) (AC G1 (fun _=>[]) true) (vs (wa a 1)<|ln (lH b f c) (a+1))) (Al (yg) ())
def QF(a:Scm)(b:Fld)(d:Int):Nat→Option (Lv (Nat) (Unit) (Bool)):=fun c=>(ea a b d c).m
def cX:PT 0 (Bool):=lr G1 (fun _=>[]) false
def cL(a:Scm)(b:Fld)(c:Int):PT 0 (Bool):=lc (Ab [(2,.ptr (1,2) 0 0),(5,.ptr (1,5) 0 0),(6,vI c),(7,vI 0)] [(XY a),(XQ b)]) ((Am (QF a b c) Aj 0).bind (Sum.elim (fun _=>(cX).m) some))
def fh(b:Scm)(a:Fld):PT 0 (Bool):=vw .go<|vw .go<|vw .go<|br (!a.hasDefault) (vw .go<|cl ((o3 a.dflt (.mk 0 0 ⟨#[]⟩ ([]:List Val) ([]:List Pr) ([]:List Slt) ([]:List Raw):Val)).nrm (fun _ _ _ h=>.nrm h) (xs':=[.agg ((Ag a.dflt).map .d),.agg [vI 0,.d (.int .u64 0),vS ⟨#[]⟩,.e0,.e0,.e0,.e0]]) (by intro r;kernel_rfl)) fun e=>lr G1 (fun _=>[]) e) (vw .go<|vw .go<|vw .go<|vw .go<|clg (!((!decide (a.card=(2:Int)))||(!decide (a.union=(⟨#[]⟩:ByteArray))))) (W4 a.type.kind a.dflt) fun c=>vw .go<|vw .go<|clg (!(((!decide (a.card=(2:Int)))||(!decide (a.union=(⟨#[]⟩:ByteArray))))||(!c))) (ZPD a.dflt) fun f=>clg (!(((!decide (a.card=(2:Int)))||(!decide (a.union=(⟨#[]⟩:ByteArray))))||(!c))) (o3 a.dflt f) fun g=>br ((((!decide (a.card=(2:Int)))||(!decide (a.union=(⟨#[]⟩:ByteArray))))||(!c))||(!g)) (lr G1 (fun _=>[]) false) (vw .go<|vw .go<|cl (qs b a.type.name) fun d=>vw .go<|br (!decide (a.type.kind=(9:Int))) (lr G1 (fun _=>[]) true) (br (decide (d<(0:Int))) (lr G1 (fun _=>[]) false) (lc (Ab [(2,.ptr (1,2) 0 0),(5,.ptr (1,5) 0 0),(6,vI d)] [(XY b),(XQ a)]) ((cL b a d).m)))))
def Zr(a:Scm)(b:Fld):Option (Bool):=(fh a b).m
theorem ZwF{C:Cx}(co:CO C 0)(a:Scm)(b:Fld)(c:Int):KL Tryz.prog (AH tl) 75 C (pa [0,0,1,0,1,1,1,1,1,1,1] (AD Tryz.f132)) [.tmp 4] 0 (lH a b c) (yg) G1 (fun _=>[]) (QF a b c):=fun h _ hm Q d f e=>AA co Aa Ac (ea a b c h) (Ae [2,5,6,7] IJ) nl f hm e fun r g=>fun i=>⟨fun j=>fun k=>⟨id,id⟩,id⟩
theorem ZQr(b:Scm)(c:Fld):KC Tryz.prog 132 [.agg ((As b).map .d),.agg ((Ap c).map .d)] (Zr b c) G1:=Au Tryz.func132 Tryz.ntmps132 Aa [.tmp 4] fun C co y hm d a=>Ak co Aa Ac 7 (fh b c) (Ae [2,5,6] IJ) nl (fun _ h=>h) hm a fun r g=>⟨fun f=>id,fun i=>fun j=>fun k=>⟨id,fun e=>⟨id,⟨id,fun _ hm a=>sq (Ak co Aa Ac 1 (cL b c e) (Ae [2,5,6,7] IJ) nl (fun _ h=>h) hm a fun r g=>fun _ hm a=>bk 0 (lo (AL (ZwF co b c e) (fun _ h=>h) hm a (fun _ hm=>Ao co Aa Ac (cX) hm a fun r g=>id))))⟩⟩⟩⟩
abbrev za:ByteArray:=⟨#[115,105,110,99,101]⟩
abbrev zb:ByteArray:=⟨#[109,105,110]⟩
abbrev lb3:ByteArray:=⟨#[109,97,120]⟩
abbrev zc:ByteArray:=⟨#[117,110,116,105,108]⟩
abbrev zd:ByteArray:=⟨#[108,101,110,103,116,104]⟩
abbrev lb6:ByteArray:=⟨#[116,105,109,101,111,117,116]⟩
abbrev zf:ByteArray:=⟨#[97,108,105,97,115]⟩
abbrev zg:ByteArray:=⟨#[114,111,117,116,101]⟩
abbrev Dg:Int→AV:=fun y=>vI y
def Ma(a:ByteArray):PT 0 (Int):=br (decide (a=zb)) (br (decide (a=zb)) (lr Dg (fun _=>[]) 3) (lr Dg (fun _=>[]) 0)) (br (decide (a=lb3)) (lr Dg (fun _=>[]) 3) (lr Dg (fun _=>[]) 0))
def Mc(a:ByteArray):PT 0 (Int):=br (decide (a=za)) (br (decide (a=za)) (lr Dg (fun _=>[]) 4) (Ma a)) (br (decide (a=zc)) (br (decide (a=zc)) (lr Dg (fun _=>[]) 4) (Ma a)) (br (decide (a=zd)) (br (decide (a=zd)) (lr Dg (fun _=>[]) 4) (Ma a)) (br (decide (a=lb6)) (lr Dg (fun _=>[]) 4) (Ma a))))
def P5(a:ByteArray):PT 0 (Int):=br (decide (a=(⟨#[100,111,99]⟩:ByteArray))) (br (decide (a=(⟨#[100,111,99]⟩:ByteArray))) (lr Dg (fun _=>[]) 7) (Mc a)) (br (decide (a=zf)) (br (decide (a=zf)) (lr Dg (fun _=>[]) 7) (Mc a)) (br (decide (a=zg)) (br (decide (a=zg)) (lr Dg (fun _=>[]) 7) (Mc a)) (br (decide (a=(⟨#[111,119,110,101,114]⟩:ByteArray))) (lr Dg (fun _=>[]) 7) (Mc a))))
def gN(a:ByteArray):PT 0 (Int):=br (decide (a=(⟨#[100,101,112,114,101,99,97,116,101,100]⟩:ByteArray))) (br (decide (a=(⟨#[100,101,112,114,101,99,97,116,101,100]⟩:ByteArray))) (lr Dg (fun _=>[]) 1) (P5 a)) (br (decide (a=(⟨#[115,101,99,114,101,116]⟩:ByteArray))) (br (decide (a=(⟨#[115,101,99,114,101,116]⟩:ByteArray))) (lr Dg (fun _=>[]) 1) (P5 a)) (br (decide (a=(⟨#[105,100,101,109,112,111,116,101,110,116]⟩:ByteArray))) (lr Dg (fun _=>[]) 1) (P5 a)))
def Z0(a:ByteArray):Option (Int):=(gN a).m
theorem nD(a:ByteArray):KC Tryz.prog 191 [vS a] (Z0 a) Dg:=Au Tryz.func191 Tryz.ntmps191 Aa [.tmp 2] fun C co y hm b c=>Ao co Aa Ac (gN a) hm c fun r g=>⟨⟨id,⟨⟨id,⟨⟨id,⟨⟨id,id⟩,⟨id,id⟩⟩⟩,⟨⟨id,⟨⟨id,id⟩,⟨id,id⟩⟩⟩,⟨⟨id,⟨⟨id,id⟩,⟨id,id⟩⟩⟩,⟨id,⟨⟨id,id⟩,⟨id,id⟩⟩⟩⟩⟩⟩⟩,⟨⟨id,⟨⟨id,⟨⟨id,id⟩,⟨id,id⟩⟩⟩,⟨⟨id,⟨⟨id,id⟩,⟨id,id⟩⟩⟩,⟨⟨id,⟨⟨id,id⟩,⟨id,id⟩⟩⟩,⟨id,⟨⟨id,id⟩,⟨id,id⟩⟩⟩⟩⟩⟩⟩,⟨⟨id,⟨⟨id,⟨⟨id,id⟩,⟨id,id⟩⟩⟩,⟨⟨id,⟨⟨id,id⟩,⟨id,id⟩⟩⟩,⟨⟨id,⟨⟨id,id⟩,⟨id,id⟩⟩⟩,⟨id,⟨⟨id,id⟩,⟨id,id⟩⟩⟩⟩⟩⟩⟩,⟨id,⟨⟨id,⟨⟨id,id⟩,⟨id,id⟩⟩⟩,⟨⟨id,⟨⟨id,id⟩,⟨id,id⟩⟩⟩,⟨⟨id,⟨⟨id,id⟩,⟨id,id⟩⟩⟩,⟨id,⟨⟨id,id⟩,⟨id,id⟩⟩⟩⟩⟩⟩⟩⟩⟩⟩⟩,⟨⟨id,⟨⟨id,⟨⟨id,⟨⟨id,id⟩,⟨id,id⟩⟩⟩,⟨⟨id,⟨⟨id,id⟩,⟨id,id⟩⟩⟩,⟨⟨id,⟨⟨id,id⟩,⟨id,id⟩⟩⟩,⟨id,⟨⟨id,id⟩,⟨id,id⟩⟩⟩⟩⟩⟩⟩,⟨⟨id,⟨⟨id,⟨⟨id,id⟩,⟨id,id⟩⟩⟩,⟨⟨id,⟨⟨id,id⟩,⟨id,id⟩⟩⟩,⟨⟨id,⟨⟨id,id⟩,⟨id,id⟩⟩⟩,⟨id,⟨⟨id,id⟩,⟨id,id⟩⟩⟩⟩⟩⟩⟩,⟨⟨id,⟨⟨id,⟨⟨id,id⟩,⟨id,id⟩⟩⟩,⟨⟨id,⟨⟨id,id⟩,⟨id,id⟩⟩⟩,⟨⟨id,⟨⟨id,id⟩,⟨id,id⟩⟩⟩,⟨id,⟨⟨id,id⟩,⟨id,id⟩⟩⟩⟩⟩⟩⟩,⟨id,⟨⟨id,⟨⟨id,id⟩,⟨id,id⟩⟩⟩,⟨⟨id,⟨⟨id,id⟩,⟨id,id⟩⟩⟩,⟨⟨id,⟨⟨id,id⟩,⟨id,id⟩⟩⟩,⟨id,⟨⟨id,id⟩,⟨id,id⟩⟩⟩⟩⟩⟩⟩⟩⟩⟩⟩,⟨id,⟨⟨id,⟨⟨id,⟨⟨id,id⟩,⟨id,id⟩⟩⟩,⟨⟨id,⟨⟨id,id⟩,⟨id,id⟩⟩⟩,⟨⟨id,⟨⟨id,id⟩,⟨id,id⟩⟩⟩,⟨id,⟨⟨id,id⟩,⟨id,id⟩⟩⟩⟩⟩⟩⟩,⟨⟨id,⟨⟨id,⟨⟨id,id⟩,⟨id,id⟩⟩⟩,⟨⟨id,⟨⟨id,id⟩,⟨id,id⟩⟩⟩,⟨⟨id,⟨⟨id,id⟩,⟨id,id⟩⟩⟩,⟨id,⟨⟨id,id⟩,⟨id,id⟩⟩⟩⟩⟩⟩⟩,⟨⟨id,⟨⟨id,⟨⟨id,id⟩,⟨id,id⟩⟩⟩,⟨⟨id,⟨⟨id,id⟩,⟨id,id⟩⟩⟩,⟨⟨id,⟨⟨id,id⟩,⟨id,id⟩⟩⟩,⟨id,⟨⟨id,id⟩,⟨id,id⟩⟩⟩⟩⟩⟩⟩,⟨id,⟨⟨id,⟨⟨id,id⟩,⟨id,id⟩⟩⟩,⟨⟨id,⟨⟨id,id⟩,⟨id,id⟩⟩⟩,⟨⟨id,⟨⟨id,id⟩,⟨id,id⟩⟩⟩,⟨id,⟨⟨id,id⟩,⟨id,id⟩⟩⟩⟩⟩⟩⟩⟩⟩⟩⟩⟩⟩
abbrev zh:ByteArray:=⟨#[109,105,110]⟩
abbrev tB:ByteArray:=⟨#[105,100,101,109,112,111,116,101,110,116]⟩
abbrev tn:ByteArray:=⟨#[116,105,109,101,111,117,116]⟩
abbrev ZTl:ByteArray:=⟨#[114,111,117,116,101]⟩
abbrev rZ:ByteArray:=⟨#[109,97,120]⟩
abbrev ru:ByteArray:=⟨#[108,101,110,103,116,104]⟩
abbrev ZUy:ByteArray:=⟨#[115,101,99,114,101,116]⟩
abbrev Gs:Bool→AV:=fun y=>vB y
def PN(a:Int):PT 0 (Bool):=lr Gs (fun _=>[]) (decide (a=(1:Int))||decide (a=(5:Int)))
def L9(b:ByteArray)(a:Int):PT 0 (Bool):=br (decide (b=tB)) (br (decide (b=tB)) (lr Gs (fun _=>[]) (decide (a=(6:Int)))) (PN a)) (br (decide (b=tn)) (br (decide (b=tn)) (lr Gs (fun _=>[]) (decide (a=(6:Int)))) (PN a)) (br (decide (b=ZTl)) (lr Gs (fun _=>[]) (decide (a=(6:Int)))) (PN a)))
def L8(a:Int):PT 0 (Bool):=lr Gs (fun _=>[]) (decide (a=(2:Int)))
def P6(a:ByteArray)(b:Int):PT 0 (Bool):=br (decide (a=zh)) (br (decide (a=zh)) (L8 b) (L9 a b)) (br (decide (a=rZ)) (br (decide (a=rZ)) (L8 b) (L9 a b)) (br (decide (a=ru)) (br (decide (a=ru)) (L8 b) (L9 a b)) (br (decide (a=ZUy)) (L8 b) (L9 a b))))
def PS(a:Int):PT 0 (Bool):=lr Gs (fun _=>[]) ((decide (a=(2:Int))||decide (a=(4:Int)))||decide (a=(6:Int)))
def bj(a:ByteArray)(b:Int):PT 0 (Bool):=br (decide (a=(⟨#[97,108,105,97,115]⟩:ByteArray))) (br (decide (a=(⟨#[97,108,105,97,115]⟩:ByteArray))) (PS b) (P6 a b)) (br (decide (a=(⟨#[115,105,110,99,101]⟩:ByteArray))) (br (decide (a=(⟨#[115,105,110,99,101]⟩:ByteArray))) (PS b) (P6 a b)) (br (decide (a=(⟨#[117,110,116,105,108]⟩:ByteArray))) (PS b) (P6 a b)))
def fE(b:ByteArray)(a:Int):PT 0 (Bool):=br (decide (b=(⟨#[100,101,112,114,101,99,97,116,101,100]⟩:ByteArray))) (br (decide (b=(⟨#[100,101,112,114,101,99,97,116,101,100]⟩:ByteArray))) (lr Gs (fun _=>[]) (decide ((1:Int)≤a)&&decide (a≤(6:Int)))) (bj b a)) (br (decide (b=(⟨#[100,111,99]⟩:ByteArray))) (lr Gs (fun _=>[]) (decide ((1:Int)≤a)&&decide (a≤(6:Int)))) (bj b a))
def Zf(a:ByteArray)(b:Int):Option (Bool):=(fE a b).m
theorem ZN4(a:ByteArray)(b:Int):KC Tryz.prog 192 [vS a,vI b] (Zf a b) Gs:=Au Tryz.func192 Tryz.ntmps192 Aa [.tmp 4] fun C co y hm c d=>Ao co Aa Ac (fE a b) hm d fun r g=>⟨⟨id,⟨⟨id,⟨⟨id,⟨⟨id,id⟩,⟨⟨id,id⟩,⟨id,id⟩⟩⟩⟩,⟨⟨id,⟨⟨id,id⟩,⟨⟨id,id⟩,⟨id,id⟩⟩⟩⟩,⟨⟨id,⟨⟨id,id⟩,⟨⟨id,id⟩,⟨id,id⟩⟩⟩⟩,⟨id,⟨⟨id,id⟩,⟨⟨id,id⟩,⟨id,id⟩⟩⟩⟩⟩⟩⟩⟩,⟨⟨id,⟨⟨id,⟨⟨id,id⟩,⟨⟨id,id⟩,⟨id,id⟩⟩⟩⟩,⟨⟨id,⟨⟨id,id⟩,⟨⟨id,id⟩,⟨id,id⟩⟩⟩⟩,⟨⟨id,⟨⟨id,id⟩,⟨⟨id,id⟩,⟨id,id⟩⟩⟩⟩,⟨id,⟨⟨id,id⟩,⟨⟨id,id⟩,⟨id,id⟩⟩⟩⟩⟩⟩⟩⟩,⟨id,⟨⟨id,⟨⟨id,id⟩,⟨⟨id,id⟩,⟨id,id⟩⟩⟩⟩,⟨⟨id,⟨⟨id,id⟩,⟨⟨id,id⟩,⟨id,id⟩⟩⟩⟩,⟨⟨id,⟨⟨id,id⟩,⟨⟨id,id⟩,⟨id,id⟩⟩⟩⟩,⟨id,⟨⟨id,id⟩,⟨⟨id,id⟩,⟨id,id⟩⟩⟩⟩⟩⟩⟩⟩⟩⟩⟩,⟨id,⟨⟨id,⟨⟨id,⟨⟨id,id⟩,⟨⟨id,id⟩,⟨id,id⟩⟩⟩⟩,⟨⟨id,⟨⟨id,id⟩,⟨⟨id,id⟩,⟨id,id⟩⟩⟩⟩,⟨⟨id,⟨⟨id,id⟩,⟨⟨id,id⟩,⟨id,id⟩⟩⟩⟩,⟨id,⟨⟨id,id⟩,⟨⟨id,id⟩,⟨id,id⟩⟩⟩⟩⟩⟩⟩⟩,⟨⟨id,⟨⟨id,⟨⟨id,id⟩,⟨⟨id,id⟩,⟨id,id⟩⟩⟩⟩,⟨⟨id,⟨⟨id,id⟩,⟨⟨id,id⟩,⟨id,id⟩⟩⟩⟩,⟨⟨id,⟨⟨id,id⟩,⟨⟨id,id⟩,⟨id,id⟩⟩⟩⟩,⟨id,⟨⟨id,id⟩,⟨⟨id,id⟩,⟨id,id⟩⟩⟩⟩⟩⟩⟩⟩,⟨id,⟨⟨id,⟨⟨id,id⟩,⟨⟨id,id⟩,⟨id,id⟩⟩⟩⟩,⟨⟨id,⟨⟨id,id⟩,⟨⟨id,id⟩,⟨id,id⟩⟩⟩⟩,⟨⟨id,⟨⟨id,id⟩,⟨⟨id,id⟩,⟨id,id⟩⟩⟩⟩,⟨id,⟨⟨id,id⟩,⟨⟨id,id⟩,⟨id,id⟩⟩⟩⟩⟩⟩⟩⟩⟩⟩⟩⟩
abbrev rR:Bool→AV:=fun y=>vB y
def dZ(b:Nt):PT 0 (Bool):=vw .go<|cl (nD b.name) fun a=>vw .go<|vw .go<|clg ((!decide (a=(0:Int)))&&decide (b.val.kind=a)) (W4 a b.val) fun c=>lr rR (fun _=>[]) (((!decide (a=(0:Int)))&&decide (b.val.kind=a))&&c)
def Zx(a:Nt):Option (Bool):=(dZ a).m
theorem ZQw(a:Nt):KC Tryz.prog 193 [.agg ((AG a).map .d)] (Zx a) rR:=Au Tryz.func193 Tryz.ntmps193 Aa [.tmp 2] fun C co y hm b c=>Ao co Aa Ac (dZ a) hm c fun r g=>fun d=>fun e=>id
abbrev Gv:Int→AV:=fun y=>vI y
def yh(a:List Nt)(b:Int):Nat→St:=fun c=>Ab [(0,vL AG a),(1,vI b),(5,vN c)] []
def ym:Unit→Nat×St:=fun _=>(0,Ab [] [])
def da(b:List Nt)(e:Int)(a:Nat):PT 0 (Lv (Nat) (Unit) (Int)):=vz (Ah b)<|br (decide ((a:Int)<(b.length:Int))) (ix b a fun f=>cl (nD f.name) fun k=>br (decide (k=(0:Int))) (AC Gv (fun _=>[]) 8) (ix b a fun g=>cl (ZN4 g.name e) fun l=>br (!l) (AC Gv (fun _=>[]) 1) (ix b a fun h=>cl (ZQw h) fun m=>br (!m) (AC Gv (fun _=>[]) 12) (A2 (decide ((0:Int)<(a:Int))) b (a:Int) fun i=>vg (decide ((0:Int)<(a:Int))) (wi ((a:Int)-1))<|A2 (decide ((0:Int)<(a:Int))) b ((a:Int)-1) fun j=>br (decide ((0:Int)<(a:Int))&&Bk i.name j.name) (AC Gv (fun _=>[]) 11) (A2 (decide ((0:Int)<(a:Int))) b (a:Int) fun c=>vg (decide ((0:Int)<(a:Int))) (wi ((a:Int)-1))<|A2 (decide ((0:Int)<(a:Int))) b ((a:Int)-1) fun d=>br (decide ((0:Int)<(a:Int))&&decide (c.name=d.name)) (AC Gv (fun _=>[]) 9) (vs (wa a 1)<|ln (yh b e) (a+1))))))) (Al (ym) ())
def Rg(a:List Nt)(b:Int):Nat→Option (Lv (Nat) (Unit) (Int)):=fun c=>(da a b c).m
def gU:PT 0 (Int):=lr Gv (fun _=>[]) 0
def cO(a:List Nt)(b:Int):PT 0 (Int):=lc (Ab [(0,vL AG a),(1,vI b),(5,vI 0)] []) ((Am (Rg a b) Aj 0).bind (Sum.elim (fun _=>(gU).m) some))
def gT(a:List Nt)(b:Int):PT 0 (Int):=vz (Ah a)<|br (decide ((8:Int)<(a.length:Int))) (lr Gv (fun _=>[]) 3) (lc (Ab [(0,vL AG a),(1,vI b)] []) ((cO a b).m))
def Zt(a:List Nt)(b:Int):Option (Int):=(gT a b).m
theorem Zxa{C:Cx}(co:CO C 0)(a:List Nt)(b:Int):KL Tryz.prog (AH tl) 68 C (pa [0,0,1,0,1,1] (AD Tryz.f168)) [.tmp 4] 0 (yh a b) (ym) Gv (fun _=>[]) (Rg a b):=fun i _ hm Q c h f=>AA co Aa Ac (da a b i) (AQ [0,1,5]) nl h hm f fun r g=>⟨fun j=>fun o=>⟨id,fun k=>fun p=>⟨id,fun l=>fun q=>⟨id,fun m=>fun n=>⟨id,fun d=>fun e=>⟨id,id⟩⟩⟩⟩⟩,id⟩
theorem ZO6(b:List Nt)(c:Int):KC Tryz.prog 168 [vL AG b,vI c] (Zt b c) Gv:=Au Tryz.func168 Tryz.ntmps168 Aa [.tmp 4] fun C co y hm d a=>Ak co Aa Ac 2 (gT b c) (AQ [0,1]) nl (fun _ h=>h) hm a fun r g=>⟨id,fun _ hm a=>sq (Ak co Aa Ac 1 (cO b c) (AQ [0,1,5]) nl (fun _ h=>h) hm a fun r g=>fun _ hm a=>bk 0 (lo (AL (Zxa co b c) (fun _ h=>h) hm a (fun _ hm=>Ao co Aa Ac (gU) hm a fun r g=>id))))⟩
abbrev sY:List Prb→AV:=fun y=>.tup []
@[reducible] def rl(a:ByteArray):List Prb→List Blk:=fun y=>[⟨0,true,137,2,[vS a,.ref (0,1) 0 0 y.length]⟩,⟨0,true,182,3,Af AB y⟩]
def dq(a:ByteArray)(b:List Prb):PT 2 (List Prb):=lr sY (rl a) b
def fM(a:ByteArray)(b:List Prb):PT 2 (List Prb):=vz (fl b)<|lc (Ab [] (CC a b)) ((dq a b).m)
def eu(a:ByteArray)(b:List Prb)(d:Int)(c:Int):PT 2 (List Prb):=vz (fl b)<|lc (Ab [(12,.ptr (0,0) 0 0),(14,vB (!decide (c=(0:Int)))),(15,vI d),(16,vI c)] (CC a b)) ((Bn a b (!decide (c=(0:Int))) d c).bind fun e=>(fM a e).m)
def gv(a:ByteArray)(b:List Prb)(e:List Nt)(f:Int)(c:Int):PT 2 (List Prb):=cl (ZO6 e f) fun d=>vz (fl b)<|lc (Ab [(0,.ptr (0,0) 0 0),(3,vI c),(8,vI d)] (CC a b)) ((eu a b c d).m)
def FY(a:ByteArray)(b:List Prb)(c:List Nt)(d:Int)(e:Int):Option (List Prb):=(gv a b c d e).m
theorem Kn(a:ByteArray)(b:List Prb)(e:List Nt)(f:Int)(d:Int):KG Tryz.prog 133 2 [1] [(1,0)] [.ptr (0,0) 0 0,vL AG e,vI f,vI d] [⟨0,true,137,2,[vS a,.ref (0,1) 0 0 b.length]⟩,⟨0,true,182,3,Af AB b⟩] (FY a b e f d) sY (rl a):=ji Tryz.func133 Tryz.ntmps133 Aa [] 2 [1] [0] [(1,0)] (fun C co l y hm j c=>Ak co Aa Ac 1 (gv a b e f d) (Ae [0,3,8] Ea) nl (fun _ h=>h) hm c fun r g=>fun i=>fun _ hm c=>rg (Bs co Aa 5 (eu a b d i) (Ae [12,14,15,16] Ea) hm c fun r g=>fun _ hm c=>Bg co hm (Bx a b (!decide (i=(0:Int))) d i) (CC a b) [] (fun z=>.tup []) (CC a) [] fun k hm=>A9 co Aa (fM a k) (Ae [] Ea) hm c fun r g=>fun _ hm c=>XU (dq a k) co hm c (fun r g=>id) r g))
abbrev XH:List Prb→AV:=fun y=>.tup []
@[reducible] def XG(a:ByteArray):List Prb→List Blk:=fun y=>[⟨0,true,137,2,[vS a,.ref (0,1) 0 0 y.length]⟩,⟨0,true,182,3,Af AB y⟩]
def lB(a:ByteArray)(b:List Spn)(c:Int)(d:Int):Nat×List Prb→St:=fun(f,e)=>Ab [(0,.ptr (0,0) 0 0),(1,vL AW b),(2,vI c),(3,vI d),(8,vN f)] (CC a e)
def yI(a:ByteArray):List Prb→Nat×St:=fun b=>(0,Ab [] (CC a b))
def eT(a:ByteArray)(d:List Spn)(e:Int)(f:Int)(c:Nat)(b:List Prb):PT 2 (Lv (Nat×List Prb) (List Prb) (List Prb)):=vs (wa c 1)<|vz (fl b)<|ln (lB a d e f) (c+1,b)
def eX(a:ByteArray)(c:List Spn)(d:Int)(e:Int)(f:Nat)(b:List Prb):PT 2 (Lv (Nat×List Prb) (List Prb) (List Prb)):=vz (fl b)<|lc (Ab [(0,.ptr (0,0) 0 0),(1,vL AW c),(2,vI d),(3,vI e),(8,vN f)] (CC a b)) ((eT a c d e f b).m)
def dH(a:ByteArray)(c:List Spn)(h:Int)(i:Int)(b:Nat)(e:List Prb):PT 2 (Lv (Nat×List Prb) (List Prb) (List Prb)):=A2 (decide ((0:Int)<(b:Int))) c (b:Int) fun f=>vg (decide ((0:Int)<(b:Int))) (wi ((b:Int)-1))<|A2 (decide ((0:Int)<(b:Int))) c ((b:Int)-1) fun g=>vz (fl e)<|lc (Ab [(0,.ptr (0,0) 0 0),(1,vL AW c),(2,vI h),(3,vI i),(8,vN b),(46,.ptr (0,0) 0 0),(62,vB (decide ((0:Int)<(b:Int))&&decide (f.lo≤g.hi)))] (CC a e)) ((Bn a e (decide ((0:Int)<(b:Int))&&decide (f.lo≤g.hi)) (-1) 11).bind fun d=>(eX a c h i b d).m)
def i2(a:ByteArray)(c:List Spn)(d:Int)(e:Int)(f:Nat)(b:List Prb):PT 2 (Lv (Nat×List Prb) (List Prb) (List Prb)):=vz (fl b)<|lc (Ab [(0,.ptr (0,0) 0 0),(1,vL AW c),(2,vI d),(3,vI e),(8,vN f)] (CC a b)) ((dH a c d e f b).m)
def cP(a:ByteArray)(c:List Spn)(b:Int)(d:Int)(e:Nat)(h:List Prb):PT 2 (Lv (Nat×List Prb) (List Prb) (List Prb)):=ix c e fun f=>A2 (!(decide (f.lo<b))) c (e:Int) fun g=>A2 (!(decide (f.lo<b)||decide (d<g.hi))) c (e:Int) fun i=>A2 (!(decide (f.lo<b)||decide (d<g.hi))) c (e:Int) fun j=>vz (fl h)<|lc (Ab [(0,.ptr (0,0) 0 0),(1,vL AW c),(2,vI b),(3,vI d),(8,vN e),(15,.ptr (0,0) 0 0),(44,vB ((decide (f.lo<b)||decide (d<g.hi))||decide (j.hi<i.lo)))] (CC a h)) ((Bn a h ((decide (f.lo<b)||decide (d<g.hi))||decide (j.hi<i.lo)) (-1) 6).bind fun k=>(i2 a c b d e k).m)
def cM(a:ByteArray)(c:List Spn)(e:Int)(f:Int)(d:Nat)(b:List Prb):PT 2 (Lv (Nat×List Prb) (List Prb) (List Prb)):=vz (Ah c)<|br (decide ((d:Int)<(c.length:Int))) (vz (fl b)<|lc (Ab [(0,.ptr (0,0) 0 0),(1,vL AW c),(2,vI e),(3,vI f),(8,vN d)] (CC a b)) ((cP a c e f d b).m)) (vz (fl b)<|Al (yI a) b)
def QJ(a:ByteArray)(b:List Spn)(c:Int)(d:Int):Nat×List Prb→Option (Lv (Nat×List Prb) (List Prb) (List Prb)):=fun(f,e)=>(cM a b c d f e).m
def eV(a:ByteArray)(b:List Prb):PT 2 (List Prb):=lr XH (XG a) b
def fD(a:ByteArray)(b:List Prb)(d:List Spn)(e:Int)(f:Int):PT 2 (List Prb):=vz (fl b)<|lc (Ab [(0,.ptr (0,0) 0 0),(1,vL AW d),(2,vI e),(3,vI f),(8,vI 0)] (CC a b)) ((Am (QJ a d e f) Aj (0,b)).bind (Sum.elim (fun c=>(eV a c).m) some))
def LX(a:ByteArray)(b:List Prb)(c:List Spn)(d:Int)(e:Int):Option (List Prb):=(fD a b c d e).m
theorem ZvE{C:Cx}(co:COx C 2 [0])(t:GJ C.κ [(1,0)])(a:ByteArray)(e:List Spn)(c:Int)(d:Int):KL Tryz.prog (AH tl) 64 C (pa [0,0,1] (AD Tryz.f134)) [] 2 (lB a e c d) (yI a) XH (XG a) (QJ a e c d):=fun(f,i) _ hm Q k l b=>Ak co Aa Ac 1 (cM a e c d f i) (Ae [0,1,2,3,8] Ea) (Ae [] Ea) l hm b fun r g=>⟨fun _ hm b=>sq (bk 1 (sq (D9 co Aa Ac 30 (cP a e c d f i) (Ae [0,1,2,3,8,15,44] Ea) hm b fun r g=>fun m=>fun n=>fun o=>fun p=>fun _ hm b=>Bg co hm (Bx a i ((decide (m.lo<c)||decide (d<n.hi))||decide (p.hi<o.lo)) (-1) 6) (CC a i) [] (fun z=>.tup []) (CC a) [] fun j hm=>A9 co Aa (i2 a e c d f j) (Ae [0,1,2,3,8] Ea) hm b fun r g=>fun _ hm b=>D9 co Aa Ac 17 (dH a e c d f j) (Ae [0,1,2,3,8,46,62] Ea) hm b fun r g=>fun q=>fun s=>fun _ hm b=>Bg co hm (Bx a j (decide ((0:Int)<(f:Int))&&decide (q.lo≤s.hi)) (-1) 11) (CC a j) [] (fun z=>.tup []) (CC a) [] fun h hm=>A9 co Aa (eX a e c d f h) (Ae [0,1,2,3,8] Ea) hm b fun r g=>fun _ hm b=>AA co Aa Ac (eT a e c d f h) (Ae [0,1,2,3,8] Ea) nl l hm b fun r g=>id))),id⟩
theorem mV(a:ByteArray)(b:List Prb)(d:List Spn)(e:Int)(f:Int):KG Tryz.prog 134 2 [1] [(1,0)] [.ptr (0,0) 0 0,vL AW d,vI e,vI f] [⟨0,true,137,2,[vS a,.ref (0,1) 0 0 b.length]⟩,⟨0,true,182,3,Af AB b⟩] (LX a b d e f) XH (XG a):=ji Tryz.func134 Tryz.ntmps134 Aa [] 2 [1] [0] [(1,0)] (fun C co i y hm k c=>Ak co Aa Ac 1 (fD a b d e f) (Ae [0,1,2,3,8] Ea) nl (fun _ h=>h) hm c fun r g=>fun _ hm c=>bk 0 (lo (AL (ZvE co i a d e f) (fun _ h=>h) hm c (fun j hm=>XU (eV a j) co hm c (fun r g=>id) r g))))
end Go.Proofs.YtchkcemlglpobaaGreat
