import Derived.Test.YtchkcemlglpobaaGreatCs15
import Derived.Test.YtchkcemlglpobaaGreatCs00
namespace Go.Proofs.YtchkcemlglpobaaGreat
set_option maxRecDepth 100000
set_option linter.all false
open Go Go.Eng
abbrev qK:Bool→AV:=fun y=>vB y
def fv(a:ByteArray):PT 0 (Bool):=cl (Ui a) fun b=>clg b (l6 a) fun c=>lr qK (fun _=>[]) (b&&(!c))
def XL(a:ByteArray):Option (Bool):=(fv a).m
theorem Sl(a:ByteArray):KC Tryz.prog 127 [vS a] (XL a) qK:=Av Tryz.func127 Tryz.ntmps127 Aa [.tmp 2] fun C co y hm b c=>Ao co Aa Ad (fv a) hm c fun r g=>fun d=>fun e=>id
abbrev N3:Bool→AV:=fun y=>vB y
def xm(a:List Spn)(b:Int):Nat→St:=fun c=>Ab [(0,vL AY a),(1,vI b),(5,vN c)] []
def xp:Unit→Nat×St:=fun _=>(0,Ab [] [])
def gt(a:List Spn)(c:Int)(b:Nat):PT 0 (Lv (Nat) (Unit) (Bool)):=vz (Ah a)<|br (decide ((b:Int)<(a.length:Int))) (ix a b fun d=>A8 (decide (d.lo≤c)) a (b:Int) fun e=>br (decide (d.lo≤c)&&decide (c≤e.hi)) (Ay N3 (fun _=>[]) true) (vs (wa b 1)<|ln (xm a c) (b+1))) (Al (xp) ())
def Q9(a:List Spn)(b:Int):Nat→Option (Lv (Nat) (Unit) (Bool)):=fun c=>(gt a b c).m
def hZ:PT 0 (Bool):=lr N3 (fun _=>[]) false
def gG(a:List Spn)(b:Int):PT 0 (Bool):=lc (Ab [(0,vL AY a),(1,vI b),(5,vI 0)] []) ((Am (Q9 a b) Ai 0).bind (Sum.elim (fun _=>(hZ).m) some))
def gi(a:List Spn)(b:Int):PT 0 (Bool):=lc (Ab [(0,vL AY a),(1,vI b)] []) ((gG a b).m)
def Zb(a:List Spn)(b:Int):Option (Bool):=(gi a b).m
theorem ZwL{C:Cx}(co:CO C 0)(a:List Spn)(b:Int):KL Tryz.prog (AG tl) 28 C (pa [0,0,1,0,1] (AD Tryz.f128)) [.tmp 4] 0 (xm a b) (xp) N3 (fun _=>[]) (Q9 a b):=fun f _ hm Q c e d=>AC co Aa Ad (gt a b f) (AQ [0,1,5]) nl e hm d fun r g=>⟨fun h=>fun i=>⟨id,id⟩,id⟩
theorem oB(b:List Spn)(c:Int):KC Tryz.prog 128 [vL AY b,vI c] (Zb b c) N3:=Av Tryz.func128 Tryz.ntmps128 Aa [.tmp 4] fun C co y hm d a=>Ak co Aa Ad 1 (gi b c) (AQ [0,1]) nl (fun _ h=>h) hm a fun r g=>fun _ hm a=>sq (Ak co Aa Ad 1 (gG b c) (AQ [0,1,5]) nl (fun _ h=>h) hm a fun r g=>fun _ hm a=>bk 0 (lo (AL (ZwL co b c) (fun _ h=>h) hm a (fun _ hm=>Ao co Aa Ad (hZ) hm a fun r g=>id))))
abbrev DM:Bool→AV:=fun y=>vB y
def gH(a:Fld):PT 0 (Bool):=vw .go<|br (!decide (a.card=(5:Int))) (vw .go<|vw .go<|vw .go<|lr DM (fun _=>[]) ((decide ((1:Int)≤a.card)&&decide (a.card≤(4:Int)))&&decide (a.key=(0:Int)))) (vw .go<|br (decide (a.key=(1:Int))) (br (decide (a.key=(1:Int))) (lr DM (fun _=>[]) true) (lr DM (fun _=>[]) false)) (br (decide (a.key=(2:Int))) (br (decide (a.key=(2:Int))) (lr DM (fun _=>[]) true) (lr DM (fun _=>[]) false)) (br (decide (a.key=(3:Int))) (br (decide (a.key=(3:Int))) (lr DM (fun _=>[]) true) (lr DM (fun _=>[]) false)) (br (decide (a.key=(4:Int))) (br (decide (a.key=(4:Int))) (lr DM (fun _=>[]) true) (lr DM (fun _=>[]) false)) (br (decide (a.key=(5:Int))) (br (decide (a.key=(5:Int))) (lr DM (fun _=>[]) true) (lr DM (fun _=>[]) false)) (br (decide (a.key=(7:Int))) (lr DM (fun _=>[]) true) (lr DM (fun _=>[]) false)))))))
def Zv(a:Fld):Option (Bool):=(gH a).m
theorem ZNl(a:Fld):KC Tryz.prog 129 [.agg ((Ap a).map .d)] (Zv a) DM:=Av Tryz.func129 Tryz.ntmps129 Aa [.tmp 2] fun C co y hm b c=>Ao co Aa Ad (gH a) hm c fun r g=>⟨id,⟨⟨id,id⟩,⟨⟨id,id⟩,⟨⟨id,id⟩,⟨⟨id,id⟩,⟨⟨id,id⟩,⟨id,id⟩⟩⟩⟩⟩⟩⟩
abbrev Xe(a:Scm):Ac×Blk:=((1,2),⟨0,true,26,3,[vL AA a.messages,vL AO a.enums,vL AU a.services]⟩)
abbrev Og:Int→AV:=fun y=>vI y
def wF(a:Scm)(b:ByteArray):Nat→St:=fun c=>Ab [(1,vS b),(2,.ptr (1,2) 0 0),(5,vN c)] [(Xe a)]
def xA:Unit→Nat×St:=fun _=>(0,Ab [] [])
def ed(b:Scm)(c:ByteArray)(a:Nat):PT 0 (Lv (Nat) (Unit) (Int)):=vw .go<|vz (Ah b.enums)<|br (decide ((a:Int)<(b.enums.length:Int))) (vw .go<|ix b.enums a fun d=>br (decide (d.name=c)) (Ay Og (fun _=>[]) (a:Int)) (vs (wa a 1)<|ln (wF b c) (a+1))) (Al (xA) ())
def QL(a:Scm)(b:ByteArray):Nat→Option (Lv (Nat) (Unit) (Int)):=fun c=>(ed a b c).m
def bQ:PT 0 (Int):=lr Og (fun _=>[]) (-1)
def bP(a:Scm)(b:ByteArray):PT 0 (Int):=lc (Ab [(1,vS b),(2,.ptr (1,2) 0 0),(5,vI 0)] [(Xe a)]) ((Am (QL a b) Ai 0).bind (Sum.elim (fun _=>(bQ).m) some))
def b9(a:Scm)(b:ByteArray):PT 0 (Int):=lc (Ab [(1,vS b),(2,.ptr (1,2) 0 0)] [(Xe a)]) ((bP a b).m)
def Ze(a:Scm)(b:ByteArray):Option (Int):=(b9 a b).m
theorem ZwA{C:Cx}(co:CO C 0)(a:Scm)(b:ByteArray):KL Tryz.prog (AG tl) 22 C (pa [0,0,1,0,1] (AD Tryz.f164)) [.tmp 4] 0 (wF a b) (xA) Og (fun _=>[]) (QL a b):=fun f _ hm Q c e d=>AC co Aa Ad (ed a b f) (Ae [1,2,5] DS) nl e hm d fun r g=>⟨fun h=>⟨id,id⟩,id⟩
theorem lE(b:Scm)(c:ByteArray):KC Tryz.prog 164 [.agg ((AF b).map .d),vS c] (Ze b c) Og:=Av Tryz.func164 Tryz.ntmps164 Aa [.tmp 4] fun C co y hm d a=>Ak co Aa Ad 1 (b9 b c) (Ae [1,2] DS) nl (fun _ h=>h) hm a fun r g=>fun _ hm a=>sq (Ak co Aa Ad 1 (bP b c) (Ae [1,2,5] DS) nl (fun _ h=>h) hm a fun r g=>fun _ hm a=>bk 0 (lo (AL (ZwA co b c) (fun _ h=>h) hm a (fun _ hm=>Ao co Aa Ad (bQ) hm a fun r g=>id))))
abbrev Pe:Bool→AV:=fun y=>vB y
def ey(b:Scm)(a:Fld):PT 0 (Bool):=vw .go<|br (decide (a.type.kind=(9:Int))) (vw .go<|vw .go<|cl (lE b a.type.name) fun c=>lr Pe (fun _=>[]) (decide ((0:Int)≤c))) (br (decide (a.type.kind=(10:Int))) (vw .go<|vw .go<|cl (M1 b a.type.name) fun d=>vw .go<|lr Pe (fun _=>[]) (decide ((0:Int)≤d)&&(!decide (a.card=(3:Int))))) (vw .go<|vw .go<|vw .go<|lr Pe (fun _=>[]) ((decide ((1:Int)≤a.type.kind)&&decide (a.type.kind≤(8:Int)))&&decide (a.type.name=(⟨#[]⟩:ByteArray)))))
def Zz(a:Scm)(b:Fld):Option (Bool):=(ey a b).m
theorem ZOM(a:Scm)(b:Fld):KC Tryz.prog 130 [.agg ((AF a).map .d),.agg ((Ap b).map .d)] (Zz a b) Pe:=Av Tryz.func130 Tryz.ntmps130 Aa [.tmp 4] fun C co y hm c d=>Ao co Aa Ad (ey a b) hm d fun r g=>⟨fun e=>id,⟨fun f=>id,id⟩⟩
abbrev IK:List (Ac×Bool):=[((1,2),false),((1,5),false)]
abbrev Oo(a:Msg):Ac×Blk:=((1,2),⟨0,true,49,5,[vS a.name,vL Ap a.fields,vL AY a.reserved,vL AB a.gone,vL AJ a.notes]⟩)
abbrev NR(a:Fld):Ac×Blk:=((1,5),⟨0,true,55,16,[vI a.num,vS a.name,vI a.card,vI a.key,vI a.type.kind,vS a.type.name,vS a.union,vB a.hasDefault,vI a.dflt.kind,.d (.int .u64 a.dflt.bits),vS a.dflt.text,vL Aq a.dflt.list,vL Au a.dflt.pairs,vL Aj a.dflt.slots,vL Az a.dflt.raws,vL AJ a.notes]⟩)
abbrev Je:Bool→AV:=fun y=>vB y
def fZ(b:Msg)(c:Int)(a:Fld):Bool×Nat→St:=fun(v3,v4)=>Ab [(1,vI c),(2,.ptr (1,2) 0 0),(5,.ptr (1,5) 0 0),(6,vB v3),(7,vN v4)] [(Oo b),(NR a)]
def vT(b:Msg)(c:Int)(a:Fld):Bool→Nat×St:=fun d=>(0,Ab [(1,vI c),(2,.ptr (1,2) 0 0),(5,.ptr (1,5) 0 0),(6,vB d)] [(Oo b),(NR a)])
def bO(a:Msg)(c:Int)(b:Fld)(v3:Bool)(v4:Nat):PT 0 (Lv (Bool×Nat) (Bool) (Bool)):=vw .go<|vz (Ah a.fields)<|br (decide ((v4:Int)<(a.fields.length:Int))) (vw .go<|ix a.fields v4 fun d=>vw .go<|br (decide (d.name=b.union)) (Ay Je (fun _=>[]) false) (vw .go<|A8 (decide ((v4:Int)<c)) a.fields (v4:Int) fun e=>vw .go<|br (decide ((v4:Int)<c)&&decide (e.union=b.union)) (vs (wa v4 1)<|ln (fZ a c b) (true,v4+1)) (vs (wa v4 1)<|ln (fZ a c b) (v3,v4+1)))) (Al (vT a c b) v3)
def Q5(b:Msg)(c:Int)(a:Fld):Bool×Nat→Option (Lv (Bool×Nat) (Bool) (Bool)):=fun(v3,v4)=>(bO b c a v3 v4).m
def cw(e:Msg)(b:Int)(c:Fld)(a:Bool):PT 0 (Bool):=vw .go<|vg (!(!a)) (wi (b-1))<|A8 (!(!a)) e.fields (b-1) fun d=>vw .go<|lr Je (fun _=>[]) ((!a)||decide (d.union=c.union))
def fh(b:Msg)(c:Int)(a:Fld):PT 0 (Bool):=lc (Ab [(1,vI c),(2,.ptr (1,2) 0 0),(5,.ptr (1,5) 0 0),(6,vB false),(7,vI 0)] [(Oo b),(NR a)]) ((Am (Q5 b c a) Ai (false,0)).bind (Sum.elim (fun d=>(cw b c a d).m) some))
def eV(b:Msg)(c:Int):PT 0 (Bool):=vw .go<|CL b.fields c fun a=>vw .go<|vw .go<|br (decide (a.union=(⟨#[]⟩:ByteArray))) (lr Je (fun _=>[]) true) (vw .go<|vw .go<|clg (!(!decide (a.card=(2:Int)))) (Sl a.union) fun d=>br ((!decide (a.card=(2:Int)))||(!d)) (lr Je (fun _=>[]) false) (lc (Ab [(1,vI c),(2,.ptr (1,2) 0 0),(5,.ptr (1,5) 0 0),(6,vB false)] [(Oo b),(NR a)]) ((fh b c a).m)))
def X0(a:Msg)(b:Int):Option (Bool):=(eV a b).m
theorem ZwR{C:Cx}(co:CO C 0)(b:Msg)(c:Int)(a:Fld):KL Tryz.prog (AG tl) 69 C (pa [0,0,1,0,1,1,1,1,1] (AD Tryz.f131)) [.tmp 4] 0 (fZ b c a) (vT b c a) Je (fun _=>[]) (Q5 b c a):=fun(v3,v4) _ hm Q d f e=>AC co Aa Ad (bO b c a v3 v4) (Ae [1,2,5,6,7] IK) (Ae [1,2,5,6] IK) f hm e fun r g=>⟨fun h=>⟨id,fun i=>⟨id,id⟩⟩,id⟩
theorem ZOO(b:Msg)(c:Int):KC Tryz.prog 131 [.agg ((AA b).map .d),vI c] (X0 b c) Je:=Av Tryz.func131 Tryz.ntmps131 Aa [.tmp 4] fun C co y hm e a=>Ak co Aa Ad 5 (eV b c) (Ae [1,2,5,6] IK) nl (fun _ h=>h) hm a fun r g=>fun d=>⟨id,fun j=>⟨id,fun _ hm a=>sq (Ak co Aa Ad 1 (fh b c d) (Ae [1,2,5,6,7] IK) nl (fun _ h=>h) hm a fun r g=>fun _ hm a=>bk 0 (lo (AL (ZwR co b c d) (fun _ h=>h) hm a (fun f hm=>Ao co Aa Ad (cw b c d f) hm a fun r g=>fun i=>id))))⟩⟩
abbrev qC:Bool→AV:=fun y=>vB y
def gP(a:Val)(b:Val):PT 0 (Bool):=vw .go<|vw .go<|vw .go<|vw .go<|vw .go<|vw .go<|vw .go<|vy ((decide (a.kind=b.kind)&&decide (a.bits=b.bits))&&decide (a.text=b.text)) (Ah a.list)<|vw .go<|vy ((decide (a.kind=b.kind)&&decide (a.bits=b.bits))&&decide (a.text=b.text)) (Ah a.pairs)<|vg ((decide (a.kind=b.kind)&&decide (a.bits=b.bits))&&decide (a.text=b.text)) (wa a.list.length a.pairs.length)<|vw .go<|vy ((decide (a.kind=b.kind)&&decide (a.bits=b.bits))&&decide (a.text=b.text)) (Ah a.slots)<|vg ((decide (a.kind=b.kind)&&decide (a.bits=b.bits))&&decide (a.text=b.text)) (wa (a.list.length+a.pairs.length) a.slots.length)<|vw .go<|vy ((decide (a.kind=b.kind)&&decide (a.bits=b.bits))&&decide (a.text=b.text)) (Ah a.raws)<|vg ((decide (a.kind=b.kind)&&decide (a.bits=b.bits))&&decide (a.text=b.text)) (wa ((a.list.length+a.pairs.length)+a.slots.length) a.raws.length)<|vw .go<|vy ((decide (a.kind=b.kind)&&decide (a.bits=b.bits))&&decide (a.text=b.text)) (Ah b.list)<|vg ((decide (a.kind=b.kind)&&decide (a.bits=b.bits))&&decide (a.text=b.text)) (wa (((a.list.length+a.pairs.length)+a.slots.length)+a.raws.length) b.list.length)<|vw .go<|vy ((decide (a.kind=b.kind)&&decide (a.bits=b.bits))&&decide (a.text=b.text)) (Ah b.pairs)<|vg ((decide (a.kind=b.kind)&&decide (a.bits=b.bits))&&decide (a.text=b.text)) (wa ((((a.list.length+a.pairs.length)+a.slots.length)+a.raws.length)+b.list.length) b.pairs.length)<|vw .go<|vy ((decide (a.kind=b.kind)&&decide (a.bits=b.bits))&&decide (a.text=b.text)) (Ah b.slots)<|vg ((decide (a.kind=b.kind)&&decide (a.bits=b.bits))&&decide (a.text=b.text)) (wa (((((a.list.length+a.pairs.length)+a.slots.length)+a.raws.length)+b.list.length)+b.pairs.length) b.slots.length)<|vw .go<|vy ((decide (a.kind=b.kind)&&decide (a.bits=b.bits))&&decide (a.text=b.text)) (Ah b.raws)<|vg ((decide (a.kind=b.kind)&&decide (a.bits=b.bits))&&decide (a.text=b.text)) (wa ((((((a.list.length+a.pairs.length)+a.slots.length)+a.raws.length)+b.list.length)+b.pairs.length)+b.slots.length) b.raws.length)<|lr qC (fun _=>[]) (((decide (a.kind=b.kind)&&decide (a.bits=b.bits))&&decide (a.text=b.text))&&decide (((((((((a.list.length+a.pairs.length)+a.slots.length)+a.raws.length)+b.list.length)+b.pairs.length)+b.slots.length)+b.raws.length:Nat):Int)=(0:Int)))
def XK(a:Val)(b:Val):Option (Bool):=(gP a b).m
theorem kc(a:Val)(b:Val):KC Tryz.prog 165 [.agg ((Ag a).map .d),.agg ((Ag b).map .d)] (XK a b) qC:=Av Tryz.func165 Tryz.ntmps165 Aa [.tmp 4] fun C co y hm c d=>Ao co Aa Ad (gP a b) hm d fun r g=>id
abbrev pm:Bool→AV:=fun y=>vB y
def bI(a:Int):PT 0 (Bool):=lr pm (fun _=>[]) (decide ((1:Int)≤a)&&decide (a≤(9:Int)))
def Po(a:Int):Option (Bool):=(bI a).m
theorem ox(a:Int):KC Tryz.prog 100 [vI a] (Po a) pm:=Av Tryz.func100 Tryz.ntmps100 Aa [.tmp 2] fun C co y hm b c=>Ao co Aa Ad (bI a) hm c fun r g=>id
abbrev rr:Bool→AV:=fun y=>vB y
def eT(a:ByteArray)(b:Int)(d:Int)(f:Int):PT 0 (Bool):=vz (A3 a.size)<|E2 (decide (b<(a.size:Int))) a b fun c=>E2 (decide (b<(a.size:Int))&&decide (d≤(c.toNat:Int))) a b fun e=>lr rr (fun _=>[]) ((decide (b<(a.size:Int))&&decide (d≤(c.toNat:Int)))&&decide ((e.toNat:Int)≤f))
def Zg(a:ByteArray)(b:Int)(c:Int)(d:Int):Option (Bool):=(eT a b c d).m
theorem MI(a:ByteArray)(b:Int)(c:Int)(d:Int):KC Tryz.prog 212 [vS a,vI b,.d (.int .u8 c),.d (.int .u8 d)] (Zg a b c d) rr:=Av Tryz.func212 Tryz.ntmps212 Aa [.tmp 8] fun C co y hm e f=>Ao co Aa Ad (eT a b c d) hm f fun r g=>fun h=>fun i=>id
abbrev Ow:Bool→AV:=fun y=>vB y
def wW(a:ByteArray)(b:Int)(c:Int):Nat→St:=fun d=>Ab [(0,vS a),(1,vI b),(2,vI c),(7,vN d)] []
def vP:Unit→Nat×St:=fun _=>(0,Ab [] [])
def gk(c:ByteArray)(b:Int)(d:Int)(a:Nat):PT 0 (Lv (Nat) (Unit) (Bool)):=br (decide ((a:Int)<d)) (vs (wi (b+(a:Int)))<|cl (MI c (b+(a:Int)) 128 191) fun e=>br (!e) (Ay Ow (fun _=>[]) false) (vs (wa a 1)<|ln (wW c b d) (a+1))) (Al (vP) ())
def QT(a:ByteArray)(b:Int)(c:Int):Nat→Option (Lv (Nat) (Unit) (Bool)):=fun d=>(gk a b c d).m
def b7:PT 0 (Bool):=lr Ow (fun _=>[]) true
def dQ(a:ByteArray)(b:Int)(c:Int):PT 0 (Bool):=lc (Ab [(0,vS a),(1,vI b),(2,vI c),(7,vI 0)] []) ((Am (QT a b c) Ai 0).bind (Sum.elim (fun _=>(b7).m) some))
def ez(a:ByteArray)(b:Int)(c:Int):PT 0 (Bool):=lc (Ab [(0,vS a),(1,vI b),(2,vI c)] []) ((dQ a b c).m)
def Zt(a:ByteArray)(b:Int)(c:Int):Option (Bool):=(ez a b c).m
theorem ZwI{C:Cx}(co:CO C 0)(a:ByteArray)(b:Int)(c:Int):KL Tryz.prog (AG tl) 19 C (pa [0,0,1,0,1] (AD Tryz.f211)) [.tmp 6] 0 (wW a b c) (vP) Ow (fun _=>[]) (QT a b c):=fun h _ hm Q d f e=>AC co Aa Ad (gk a b c h) (AQ [0,1,2,7]) nl f hm e fun r g=>⟨fun i=>⟨id,id⟩,id⟩
theorem IG(b:ByteArray)(c:Int)(d:Int):KC Tryz.prog 211 [vS b,vI c,vI d] (Zt b c d) Ow:=Av Tryz.func211 Tryz.ntmps211 Aa [.tmp 6] fun C co y hm e a=>Ak co Aa Ad 1 (ez b c d) (AQ [0,1,2]) nl (fun _ h=>h) hm a fun r g=>fun _ hm a=>sq (Ak co Aa Ad 1 (dQ b c d) (AQ [0,1,2,7]) nl (fun _ h=>h) hm a fun r g=>fun _ hm a=>bk 0 (lo (AL (ZwI co b c d) (fun _ h=>h) hm a (fun _ hm=>Ao co Aa Ad (b7) hm a fun r g=>id))))
abbrev Ft:Int→AV:=fun y=>vI y
def eA(c:ByteArray)(b:Int):PT 0 (Int):=SV c b fun a=>br (decide ((a.toNat:Int)<(128:Int))) (lr Ft (fun _=>[]) 1) (vg (decide ((194:Int)≤(a.toNat:Int))&&decide ((a.toNat:Int)≤(223:Int))) (wi (b+1))<|clg (decide ((194:Int)≤(a.toNat:Int))&&decide ((a.toNat:Int)≤(223:Int))) (IG c (b+1) 1) fun j=>br ((decide ((194:Int)≤(a.toNat:Int))&&decide ((a.toNat:Int)≤(223:Int)))&&j) (lr Ft (fun _=>[]) 2) (vg (decide ((a.toNat:Int)=(224:Int))) (wi (b+1))<|clg (decide ((a.toNat:Int)=(224:Int))) (MI c (b+1) 160 191) fun g=>vg (decide ((a.toNat:Int)=(224:Int))&&g) (wi (b+2))<|clg (decide ((a.toNat:Int)=(224:Int))&&g) (IG c (b+2) 1) fun k=>br ((decide ((a.toNat:Int)=(224:Int))&&g)&&k) (lr Ft (fun _=>[]) 3) (vg (decide ((a.toNat:Int)=(237:Int))) (wi (b+1))<|clg (decide ((a.toNat:Int)=(237:Int))) (MI c (b+1) 128 159) fun h=>vg (decide ((a.toNat:Int)=(237:Int))&&h) (wi (b+2))<|clg (decide ((a.toNat:Int)=(237:Int))&&h) (IG c (b+2) 1) fun l=>br ((decide ((a.toNat:Int)=(237:Int))&&h)&&l) (lr Ft (fun _=>[]) 3) (vg ((decide ((225:Int)≤(a.toNat:Int))&&decide ((a.toNat:Int)≤(239:Int)))&&(!decide ((a.toNat:Int)=(237:Int)))) (wi (b+1))<|clg ((decide ((225:Int)≤(a.toNat:Int))&&decide ((a.toNat:Int)≤(239:Int)))&&(!decide ((a.toNat:Int)=(237:Int)))) (IG c (b+1) 2) fun m=>br (((decide ((225:Int)≤(a.toNat:Int))&&decide ((a.toNat:Int)≤(239:Int)))&&(!decide ((a.toNat:Int)=(237:Int))))&&m) (lr Ft (fun _=>[]) 3) (vg (decide ((a.toNat:Int)=(240:Int))) (wi (b+1))<|clg (decide ((a.toNat:Int)=(240:Int))) (MI c (b+1) 144 191) fun i=>vg (decide ((a.toNat:Int)=(240:Int))&&i) (wi (b+2))<|clg (decide ((a.toNat:Int)=(240:Int))&&i) (IG c (b+2) 2) fun n=>br ((decide ((a.toNat:Int)=(240:Int))&&i)&&n) (lr Ft (fun _=>[]) 4) (vg (decide ((241:Int)≤(a.toNat:Int))&&decide ((a.toNat:Int)≤(243:Int))) (wi (b+1))<|clg (decide ((241:Int)≤(a.toNat:Int))&&decide ((a.toNat:Int)≤(243:Int))) (IG c (b+1) 3) fun e=>br ((decide ((241:Int)≤(a.toNat:Int))&&decide ((a.toNat:Int)≤(243:Int)))&&e) (lr Ft (fun _=>[]) 4) (vg (decide ((a.toNat:Int)=(244:Int))) (wi (b+1))<|clg (decide ((a.toNat:Int)=(244:Int))) (MI c (b+1) 128 143) fun d=>vg (decide ((a.toNat:Int)=(244:Int))&&d) (wi (b+2))<|clg (decide ((a.toNat:Int)=(244:Int))&&d) (IG c (b+2) 2) fun f=>br ((decide ((a.toNat:Int)=(244:Int))&&d)&&f) (lr Ft (fun _=>[]) 4) (lr Ft (fun _=>[]) 0))))))))
def XN(a:ByteArray)(b:Int):Option (Int):=(eA a b).m
theorem ZN1(a:ByteArray)(b:Int):KC Tryz.prog 194 [vS a,vI b] (XN a b) Ft:=Av Tryz.func194 Tryz.ntmps194 Aa [.tmp 4] fun C co y hm c d=>Ao co Aa Ad (eA a b) hm d fun r g=>fun i=>⟨id,fun j=>⟨id,fun k=>fun l=>⟨id,fun m=>fun n=>⟨id,fun o=>⟨id,fun p=>fun q=>⟨id,fun e=>⟨id,fun f=>fun h=>⟨id,id⟩⟩⟩⟩⟩⟩⟩⟩
abbrev OZ:Int→AV:=fun y=>vI y
def vX(a:ByteArray):Int→St:=fun b=>Ab [(0,vS a),(3,vI b)] []
def v6:Unit→Nat×St:=fun _=>(0,Ab [] [])
def gA(b:ByteArray)(a:Int):PT 0 (Lv (Int) (Unit) (Int)):=vz (A3 b.size)<|br (decide (a<(b.size:Int))) (cl (ZN1 b a) fun c=>br (decide (c=(0:Int))) (Ay OZ (fun _=>[]) a) (vs (wi (a+c))<|ln (vX b) (a+c))) (Al (v6) ())
def Q4(a:ByteArray):Int→Option (Lv (Int) (Unit) (Int)):=fun b=>(gA a b).m
def dP:PT 0 (Int):=lr OZ (fun _=>[]) (-1)
def cF(a:ByteArray):PT 0 (Int):=lc (Ab [(0,vS a),(3,vI 0)] []) ((Am (Q4 a) Ai 0).bind (Sum.elim (fun _=>(dP).m) some))
def fH(a:ByteArray):PT 0 (Int):=lc (Ab [(0,vS a)] []) ((cF a).m)
def ZC(a:ByteArray):Option (Int):=(fH a).m
theorem Zxp{C:Cx}(co:CO C 0)(a:ByteArray):KL Tryz.prog (AG tl) 18 C (pa [0,0,1,0,1] (AD Tryz.f169)) [.tmp 2] 0 (vX a) (v6) OZ (fun _=>[]) (Q4 a):=fun e _ hm Q b d c=>AC co Aa Ad (gA a e) (AQ [0,3]) nl d hm c fun r g=>⟨fun f=>⟨id,id⟩,id⟩
theorem ZNT(b:ByteArray):KC Tryz.prog 169 [vS b] (ZC b) OZ:=Av Tryz.func169 Tryz.ntmps169 Aa [.tmp 2] fun C co y hm c a=>Ak co Aa Ad 1 (fH b) (AQ [0]) nl (fun _ h=>h) hm a fun r g=>fun _ hm a=>sq (Ak co Aa Ad 1 (cF b) (AQ [0,3]) nl (fun _ h=>h) hm a fun r g=>fun _ hm a=>bk 0 (lo (AL (Zxp co b) (fun _ h=>h) hm a (fun _ hm=>Ao co Aa Ad (dP) hm a fun r g=>id))))
abbrev pK:Bool→AV:=fun y=>vB y
def fB(a:ByteArray):PT 0 (Bool):=cl (ZNT a) fun b=>lr pK (fun _=>[]) (decide (b<(0:Int)))
def Pk(a:ByteArray):Option (Bool):=(fB a).m
theorem kF(a:ByteArray):KC Tryz.prog 135 [vS a] (Pk a) pK:=Av Tryz.func135 Tryz.ntmps135 Aa [.tmp 2] fun C co y hm b c=>Ao co Aa Ad (fB a) hm c fun r g=>fun d=>id
abbrev p4:Bool→AV:=fun y=>vB y
def QI(a:Int):PT 0 (Bool):=lr p4 (fun _=>[]) (decide (a=(7:Int))||decide (a=(8:Int)))
def Pg(a:Int):Option (Bool):=(QI a).m
theorem Ro(a:Int):KC Tryz.prog 158 [vI a] (Pg a) p4:=Av Tryz.func158 Tryz.ntmps158 Aa [.tmp 2] fun C co y hm b c=>Ao co Aa Ad (QI a) hm c fun r g=>id
abbrev qp:Bool→AV:=fun y=>vB y
def hI(a:Val):PT 0 (Bool):=vw .go<|vz (Ah a.list)<|vw .go<|vy (decide ((a.list.length:Int)=(0:Int))) (Ah a.pairs)<|vw .go<|vy (decide ((a.list.length:Int)=(0:Int))&&decide ((a.pairs.length:Int)=(0:Int))) (Ah a.slots)<|vw .go<|vy ((decide ((a.list.length:Int)=(0:Int))&&decide ((a.pairs.length:Int)=(0:Int)))&&decide ((a.slots.length:Int)=(0:Int))) (Ah a.raws)<|lr qp (fun _=>[]) (((decide ((a.list.length:Int)=(0:Int))&&decide ((a.pairs.length:Int)=(0:Int)))&&decide ((a.slots.length:Int)=(0:Int)))&&decide ((a.raws.length:Int)=(0:Int)))
def XP(a:Val):Option (Bool):=(hI a).m
theorem ZOL(a:Val):KC Tryz.prog 190 [.agg ((Ag a).map .d)] (XP a) qp:=Av Tryz.func190 Tryz.ntmps190 Aa [.tmp 2] fun C co y hm b c=>Ao co Aa Ad (hI a) hm c fun r g=>id
abbrev Gl:Bool→AV:=fun y=>vB y
def QG(b:Int)(a:Val):PT 0 (Bool):=cl (ox b) fun c=>vw .go<|vw .go<|clg (!((!c)||(!decide (a.kind=b)))) (ZOL a) fun d=>br (((!c)||(!decide (a.kind=b)))||(!d)) (lr Gl (fun _=>[]) false) (cl (Ro b) fun e=>br e (vw .go<|vw .go<|vy (decide (a.bits=(0:Int))) (A3 a.text.size)<|vw .go<|clg ((decide (a.bits=(0:Int))&&decide ((a.text.size:Int)≤(4096:Int)))&&(!(decide (b=(8:Int))))) (kF a.text) fun f=>lr Gl (fun _=>[]) ((decide (a.bits=(0:Int))&&decide ((a.text.size:Int)≤(4096:Int)))&&(decide (b=(8:Int))||f))) (vw .go<|br (!decide (a.text=(⟨#[]⟩:ByteArray))) (lr Gl (fun _=>[]) false) (br (decide (b=(1:Int))) (vw .go<|lr Gl (fun _=>[]) (decide (a.bits≤(1:Int)))) (br (decide (b=(2:Int))) (vw .go<|vz (wk .i64 a.bits)<|lr Gl (fun _=>[]) (decide (((-2147483648):Int)≤(IntKind.i64.wrap a.bits))&&decide ((IntKind.i64.wrap a.bits)≤(2147483647:Int)))) (br (decide (b=(4:Int))) (vw .go<|lr Gl (fun _=>[]) (decide (a.bits<(4294967296:Int)))) (br (decide (b=(9:Int))) (vw .go<|lr Gl (fun _=>[]) (decide (a.bits<(2147483648:Int)))) (lr Gl (fun _=>[]) true)))))))
def Jt(a:Int)(b:Val):Option (Bool):=(QG a b).m
theorem Uz(a:Int)(b:Val):KC Tryz.prog 166 [vI a,.agg ((Ag b).map .d)] (Jt a b) Gl:=Av Tryz.func166 Tryz.ntmps166 Aa [.tmp 4] fun C co y hm c d=>Ao co Aa Ad (QG a b) hm d fun r g=>fun e=>fun f=>⟨id,fun h=>⟨fun i=>id,⟨id,⟨id,⟨id,⟨id,⟨id,id⟩⟩⟩⟩⟩⟩⟩
abbrev I2:Int→AV:=fun y=>vI y
def QY(a:Int):PT 0 (Int):=rem .u64 a 9223372036854775808<|br (decide ((9218868437227405312:Int)<(Hu .u64 a 9223372036854775808))) (lr I2 (fun _=>[]) 0) (br (decide ((Hu .u64 a 9223372036854775808)=(9218868437227405312:Int))) (lr I2 (fun _=>[]) 1) (br (decide ((Hu .u64 a 9223372036854775808)=(0:Int))) (lr I2 (fun _=>[]) 2) (br (decide ((Hu .u64 a 9223372036854775808)<(4503599627370496:Int))) (lr I2 (fun _=>[]) 3) (lr I2 (fun _=>[]) 4))))
def LX(a:Int):Option (Int):=(QY a).m
theorem mr(a:Int):KC Tryz.prog 187 [.d (.int .u64 a)] (LX a) I2:=Av Tryz.func187 Tryz.ntmps187 Aa [.tmp 2] fun C co y hm b c=>Ao co Aa Ad (QY a) hm c fun r g=>⟨id,⟨id,⟨id,⟨id,id⟩⟩⟩⟩
abbrev Xz:Val→AV:=fun y=>.agg ((Ag y).map .d)
def dt(a:Val):PT 0 (Val):=vw .go<|vw .go<|clg (decide (a.kind=(6:Int))) (mr a.bits) fun b=>br (decide (a.kind=(6:Int))&&decide (b=(0:Int))) (vw .go<|vw .go<|vw .go<|lr Xz (fun _=>[]) (.mk a.kind 9221120237041090560 a.text a.list a.pairs a.slots a.raws:Val)) (vw .go<|vw .go<|lr Xz (fun _=>[]) a)
def XQ(a:Val):Option (Val):=(dt a).m
theorem ZNO(a:Val):KC Tryz.prog 167 [.agg ((Ag a).map .d)] (XQ a) Xz:=Av Tryz.func167 Tryz.ntmps167 Aa [.cell 2 35] fun C co y hm b c=>Ao co Aa Ad (dt a) hm c fun r g=>fun d=>⟨id,id⟩
abbrev XF(a:Scm):Ac×Blk:=((1,2),⟨0,true,26,3,[vL AA a.messages,vL AO a.enums,vL AU a.services]⟩)
abbrev WO(a:Fld):Ac×Blk:=((1,5),⟨0,true,35,7,[vI a.dflt.kind,.d (.int .u64 a.dflt.bits),vS a.dflt.text,vL Aq a.dflt.list,vL Au a.dflt.pairs,vL Aj a.dflt.slots,vL Az a.dflt.raws]⟩)
abbrev Hd:Bool→AV:=fun y=>vB y
def wX(a:Scm)(b:Fld)(d:Int):Nat→St:=fun c=>Ab [(2,.ptr (1,2) 0 0),(5,.ptr (1,5) 0 0),(6,vI d),(7,vN c)] [(XF a),(WO b)]
def xG:Unit→Nat×St:=fun _=>(0,Ab [] [])
def bK(b:Scm)(f:Fld)(c:Int)(a:Nat):PT 0 (Lv (Nat) (Unit) (Bool)):=vw .go<|CL b.enums c fun d=>vz (Ah d.items)<|br (decide ((a:Int)<(d.items.length:Int))) (vw .go<|CL b.enums c fun g=>ix g.items a fun e=>vz (wk .u64 e.num)<|vw .go<|br (decide ((IntKind.u64.wrap e.num)=f.dflt.bits)) (Ay Hd (fun _=>[]) true) (vs (wa a 1)<|ln (wX b f c) (a+1))) (Al (xG) ())
def Q1(a:Scm)(b:Fld)(d:Int):Nat→Option (Lv (Nat) (Unit) (Bool)):=fun c=>(bK a b d c).m
def dn:PT 0 (Bool):=lr Hd (fun _=>[]) false
def cS(a:Scm)(b:Fld)(c:Int):PT 0 (Bool):=lc (Ab [(2,.ptr (1,2) 0 0),(5,.ptr (1,5) 0 0),(6,vI c),(7,vI 0)] [(XF a),(WO b)]) ((Am (Q1 a b c) Ai 0).bind (Sum.elim (fun _=>(dn).m) some))
def cC(b:Scm)(a:Fld):PT 0 (Bool):=vw .go<|vw .go<|vw .go<|br (!a.hasDefault) (vw .go<|cl ((kc a.dflt (.mk 0 0 ⟨#[]⟩ ([]:List Val) ([]:List Pr) ([]:List Slt) ([]:List Raw):Val)).nrm (fun _ _ _ h=>.nrm h) (xs':=[.agg ((Ag a.dflt).map .d),.agg [vI 0,.d (.int .u64 0),vS ⟨#[]⟩,.e0,.e0,.e0,.e0]]) (by intro r;kernel_rfl)) fun e=>lr Hd (fun _=>[]) e) (vw .go<|vw .go<|vw .go<|vw .go<|clg (!((!decide (a.card=(2:Int)))||(!decide (a.union=(⟨#[]⟩:ByteArray))))) (Uz a.type.kind a.dflt) fun c=>vw .go<|vw .go<|clg (!(((!decide (a.card=(2:Int)))||(!decide (a.union=(⟨#[]⟩:ByteArray))))||(!c))) (ZNO a.dflt) fun f=>clg (!(((!decide (a.card=(2:Int)))||(!decide (a.union=(⟨#[]⟩:ByteArray))))||(!c))) (kc a.dflt f) fun g=>br ((((!decide (a.card=(2:Int)))||(!decide (a.union=(⟨#[]⟩:ByteArray))))||(!c))||(!g)) (lr Hd (fun _=>[]) false) (vw .go<|vw .go<|cl (lE b a.type.name) fun d=>vw .go<|br (!decide (a.type.kind=(9:Int))) (lr Hd (fun _=>[]) true) (br (decide (d<(0:Int))) (lr Hd (fun _=>[]) false) (lc (Ab [(2,.ptr (1,2) 0 0),(5,.ptr (1,5) 0 0),(6,vI d)] [(XF b),(WO a)]) ((cS b a d).m)))))
def XZ(a:Scm)(b:Fld):Option (Bool):=(cC a b).m
theorem Zwy{C:Cx}(co:CO C 0)(a:Scm)(b:Fld)(c:Int):KL Tryz.prog (AG tl) 75 C (pa [0,0,1,0,1,1,1,1,1,1,1] (AD Tryz.f132)) [.tmp 4] 0 (wX a b c) (xG) Hd (fun _=>[]) (Q1 a b c):=fun h _ hm Q d f e=>AC co Aa Ad (bK a b c h) (Ae [2,5,6,7] IK) nl f hm e fun r g=>fun i=>⟨fun j=>fun k=>⟨id,id⟩,id⟩
theorem ZPk(b:Scm)(c:Fld):KC Tryz.prog 132 [.agg ((AF b).map .d),.agg ((Ap c).map .d)] (XZ b c) Hd:=Av Tryz.func132 Tryz.ntmps132 Aa [.tmp 4] fun C co y hm d a=>Ak co Aa Ad 7 (cC b c) (Ae [2,5,6] IK) nl (fun _ h=>h) hm a fun r g=>⟨fun f=>id,fun i=>fun j=>fun k=>⟨id,fun e=>⟨id,⟨id,fun _ hm a=>sq (Ak co Aa Ad 1 (cS b c e) (Ae [2,5,6,7] IK) nl (fun _ h=>h) hm a fun r g=>fun _ hm a=>bk 0 (lo (AL (Zwy co b c e) (fun _ h=>h) hm a (fun _ hm=>Ao co Aa Ad (dn) hm a fun r g=>id))))⟩⟩⟩⟩
abbrev xT:ByteArray:=⟨#[115,105,110,99,101]⟩
abbrev xU:ByteArray:=⟨#[109,105,110]⟩
abbrev lb3:ByteArray:=⟨#[109,97,120]⟩
abbrev xV:ByteArray:=⟨#[117,110,116,105,108]⟩
abbrev xW:ByteArray:=⟨#[108,101,110,103,116,104]⟩
abbrev lb6:ByteArray:=⟨#[116,105,109,101,111,117,116]⟩
abbrev xX:ByteArray:=⟨#[97,108,105,97,115]⟩
abbrev xY:ByteArray:=⟨#[114,111,117,116,101]⟩
abbrev C7:Int→AV:=fun y=>vI y
def L1(a:ByteArray):PT 0 (Int):=br (decide (a=xU)) (br (decide (a=xU)) (lr C7 (fun _=>[]) 3) (lr C7 (fun _=>[]) 0)) (br (decide (a=lb3)) (lr C7 (fun _=>[]) 3) (lr C7 (fun _=>[]) 0))
def Ma(a:ByteArray):PT 0 (Int):=br (decide (a=xT)) (br (decide (a=xT)) (lr C7 (fun _=>[]) 4) (L1 a)) (br (decide (a=xV)) (br (decide (a=xV)) (lr C7 (fun _=>[]) 4) (L1 a)) (br (decide (a=xW)) (br (decide (a=xW)) (lr C7 (fun _=>[]) 4) (L1 a)) (br (decide (a=lb6)) (lr C7 (fun _=>[]) 4) (L1 a))))
def PJ(a:ByteArray):PT 0 (Int):=br (decide (a=(⟨#[100,111,99]⟩:ByteArray))) (br (decide (a=(⟨#[100,111,99]⟩:ByteArray))) (lr C7 (fun _=>[]) 7) (Ma a)) (br (decide (a=xX)) (br (decide (a=xX)) (lr C7 (fun _=>[]) 7) (Ma a)) (br (decide (a=xY)) (br (decide (a=xY)) (lr C7 (fun _=>[]) 7) (Ma a)) (br (decide (a=(⟨#[111,119,110,101,114]⟩:ByteArray))) (lr C7 (fun _=>[]) 7) (Ma a))))
def cI(a:ByteArray):PT 0 (Int):=br (decide (a=(⟨#[100,101,112,114,101,99,97,116,101,100]⟩:ByteArray))) (br (decide (a=(⟨#[100,101,112,114,101,99,97,116,101,100]⟩:ByteArray))) (lr C7 (fun _=>[]) 1) (PJ a)) (br (decide (a=(⟨#[115,101,99,114,101,116]⟩:ByteArray))) (br (decide (a=(⟨#[115,101,99,114,101,116]⟩:ByteArray))) (lr C7 (fun _=>[]) 1) (PJ a)) (br (decide (a=(⟨#[105,100,101,109,112,111,116,101,110,116]⟩:ByteArray))) (lr C7 (fun _=>[]) 1) (PJ a)))
def Zo(a:ByteArray):Option (Int):=(cI a).m
theorem lX(a:ByteArray):KC Tryz.prog 191 [vS a] (Zo a) C7:=Av Tryz.func191 Tryz.ntmps191 Aa [.tmp 2] fun C co y hm b c=>Ao co Aa Ad (cI a) hm c fun r g=>⟨⟨id,⟨⟨id,⟨⟨id,⟨⟨id,id⟩,⟨id,id⟩⟩⟩,⟨⟨id,⟨⟨id,id⟩,⟨id,id⟩⟩⟩,⟨⟨id,⟨⟨id,id⟩,⟨id,id⟩⟩⟩,⟨id,⟨⟨id,id⟩,⟨id,id⟩⟩⟩⟩⟩⟩⟩,⟨⟨id,⟨⟨id,⟨⟨id,id⟩,⟨id,id⟩⟩⟩,⟨⟨id,⟨⟨id,id⟩,⟨id,id⟩⟩⟩,⟨⟨id,⟨⟨id,id⟩,⟨id,id⟩⟩⟩,⟨id,⟨⟨id,id⟩,⟨id,id⟩⟩⟩⟩⟩⟩⟩,⟨⟨id,⟨⟨id,⟨⟨id,id⟩,⟨id,id⟩⟩⟩,⟨⟨id,⟨⟨id,id⟩,⟨id,id⟩⟩⟩,⟨⟨id,⟨⟨id,id⟩,⟨id,id⟩⟩⟩,⟨id,⟨⟨id,id⟩,⟨id,id⟩⟩⟩⟩⟩⟩⟩,⟨id,⟨⟨id,⟨⟨id,id⟩,⟨id,id⟩⟩⟩,⟨⟨id,⟨⟨id,id⟩,⟨id,id⟩⟩⟩,⟨⟨id,⟨⟨id,id⟩,⟨id,id⟩⟩⟩,⟨id,⟨⟨id,id⟩,⟨id,id⟩⟩⟩⟩⟩⟩⟩⟩⟩⟩⟩,⟨⟨id,⟨⟨id,⟨⟨id,⟨⟨id,id⟩,⟨id,id⟩⟩⟩,⟨⟨id,⟨⟨id,id⟩,⟨id,id⟩⟩⟩,⟨⟨id,⟨⟨id,id⟩,⟨id,id⟩⟩⟩,⟨id,⟨⟨id,id⟩,⟨id,id⟩⟩⟩⟩⟩⟩⟩,⟨⟨id,⟨⟨id,⟨⟨id,id⟩,⟨id,id⟩⟩⟩,⟨⟨id,⟨⟨id,id⟩,⟨id,id⟩⟩⟩,⟨⟨id,⟨⟨id,id⟩,⟨id,id⟩⟩⟩,⟨id,⟨⟨id,id⟩,⟨id,id⟩⟩⟩⟩⟩⟩⟩,⟨⟨id,⟨⟨id,⟨⟨id,id⟩,⟨id,id⟩⟩⟩,⟨⟨id,⟨⟨id,id⟩,⟨id,id⟩⟩⟩,⟨⟨id,⟨⟨id,id⟩,⟨id,id⟩⟩⟩,⟨id,⟨⟨id,id⟩,⟨id,id⟩⟩⟩⟩⟩⟩⟩,⟨id,⟨⟨id,⟨⟨id,id⟩,⟨id,id⟩⟩⟩,⟨⟨id,⟨⟨id,id⟩,⟨id,id⟩⟩⟩,⟨⟨id,⟨⟨id,id⟩,⟨id,id⟩⟩⟩,⟨id,⟨⟨id,id⟩,⟨id,id⟩⟩⟩⟩⟩⟩⟩⟩⟩⟩⟩,⟨id,⟨⟨id,⟨⟨id,⟨⟨id,id⟩,⟨id,id⟩⟩⟩,⟨⟨id,⟨⟨id,id⟩,⟨id,id⟩⟩⟩,⟨⟨id,⟨⟨id,id⟩,⟨id,id⟩⟩⟩,⟨id,⟨⟨id,id⟩,⟨id,id⟩⟩⟩⟩⟩⟩⟩,⟨⟨id,⟨⟨id,⟨⟨id,id⟩,⟨id,id⟩⟩⟩,⟨⟨id,⟨⟨id,id⟩,⟨id,id⟩⟩⟩,⟨⟨id,⟨⟨id,id⟩,⟨id,id⟩⟩⟩,⟨id,⟨⟨id,id⟩,⟨id,id⟩⟩⟩⟩⟩⟩⟩,⟨⟨id,⟨⟨id,⟨⟨id,id⟩,⟨id,id⟩⟩⟩,⟨⟨id,⟨⟨id,id⟩,⟨id,id⟩⟩⟩,⟨⟨id,⟨⟨id,id⟩,⟨id,id⟩⟩⟩,⟨id,⟨⟨id,id⟩,⟨id,id⟩⟩⟩⟩⟩⟩⟩,⟨id,⟨⟨id,⟨⟨id,id⟩,⟨id,id⟩⟩⟩,⟨⟨id,⟨⟨id,id⟩,⟨id,id⟩⟩⟩,⟨⟨id,⟨⟨id,id⟩,⟨id,id⟩⟩⟩,⟨id,⟨⟨id,id⟩,⟨id,id⟩⟩⟩⟩⟩⟩⟩⟩⟩⟩⟩⟩⟩
abbrev xZ:ByteArray:=⟨#[109,105,110]⟩
abbrev qP:ByteArray:=⟨#[105,100,101,109,112,111,116,101,110,116]⟩
abbrev rv:ByteArray:=⟨#[116,105,109,101,111,117,116]⟩
abbrev ZRG:ByteArray:=⟨#[114,111,117,116,101]⟩
abbrev pz:ByteArray:=⟨#[109,97,120]⟩
abbrev qq:ByteArray:=⟨#[108,101,110,103,116,104]⟩
abbrev ZSy:ByteArray:=⟨#[115,101,99,114,101,116]⟩
abbrev Gh:Bool→AV:=fun y=>vB y
def Pt(a:Int):PT 0 (Bool):=lr Gh (fun _=>[]) (decide (a=(1:Int))||decide (a=(5:Int)))
def L3(b:ByteArray)(a:Int):PT 0 (Bool):=br (decide (b=qP)) (br (decide (b=qP)) (lr Gh (fun _=>[]) (decide (a=(6:Int)))) (Pt a)) (br (decide (b=rv)) (br (decide (b=rv)) (lr Gh (fun _=>[]) (decide (a=(6:Int)))) (Pt a)) (br (decide (b=ZRG)) (lr Gh (fun _=>[]) (decide (a=(6:Int)))) (Pt a)))
def L2(a:Int):PT 0 (Bool):=lr Gh (fun _=>[]) (decide (a=(2:Int)))
def PM(a:ByteArray)(b:Int):PT 0 (Bool):=br (decide (a=xZ)) (br (decide (a=xZ)) (L2 b) (L3 a b)) (br (decide (a=pz)) (br (decide (a=pz)) (L2 b) (L3 a b)) (br (decide (a=qq)) (br (decide (a=qq)) (L2 b) (L3 a b)) (br (decide (a=ZSy)) (L2 b) (L3 a b))))
def Pz(a:Int):PT 0 (Bool):=lr Gh (fun _=>[]) ((decide (a=(2:Int))||decide (a=(4:Int)))||decide (a=(6:Int)))
def aA(a:ByteArray)(b:Int):PT 0 (Bool):=br (decide (a=(⟨#[97,108,105,97,115]⟩:ByteArray))) (br (decide (a=(⟨#[97,108,105,97,115]⟩:ByteArray))) (Pz b) (PM a b)) (br (decide (a=(⟨#[115,105,110,99,101]⟩:ByteArray))) (br (decide (a=(⟨#[115,105,110,99,101]⟩:ByteArray))) (Pz b) (PM a b)) (br (decide (a=(⟨#[117,110,116,105,108]⟩:ByteArray))) (Pz b) (PM a b)))
def eB(b:ByteArray)(a:Int):PT 0 (Bool):=br (decide (b=(⟨#[100,101,112,114,101,99,97,116,101,100]⟩:ByteArray))) (br (decide (b=(⟨#[100,101,112,114,101,99,97,116,101,100]⟩:ByteArray))) (lr Gh (fun _=>[]) (decide ((1:Int)≤a)&&decide (a≤(6:Int)))) (aA b a)) (br (decide (b=(⟨#[100,111,99]⟩:ByteArray))) (lr Gh (fun _=>[]) (decide ((1:Int)≤a)&&decide (a≤(6:Int)))) (aA b a))
def Zq(a:ByteArray)(b:Int):Option (Bool):=(eB a b).m
theorem ZMY(a:ByteArray)(b:Int):KC Tryz.prog 192 [vS a,vI b] (Zq a b) Gh:=Av Tryz.func192 Tryz.ntmps192 Aa [.tmp 4] fun C co y hm c d=>Ao co Aa Ad (eB a b) hm d fun r g=>⟨⟨id,⟨⟨id,⟨⟨id,⟨⟨id,id⟩,⟨⟨id,id⟩,⟨id,id⟩⟩⟩⟩,⟨⟨id,⟨⟨id,id⟩,⟨⟨id,id⟩,⟨id,id⟩⟩⟩⟩,⟨⟨id,⟨⟨id,id⟩,⟨⟨id,id⟩,⟨id,id⟩⟩⟩⟩,⟨id,⟨⟨id,id⟩,⟨⟨id,id⟩,⟨id,id⟩⟩⟩⟩⟩⟩⟩⟩,⟨⟨id,⟨⟨id,⟨⟨id,id⟩,⟨⟨id,id⟩,⟨id,id⟩⟩⟩⟩,⟨⟨id,⟨⟨id,id⟩,⟨⟨id,id⟩,⟨id,id⟩⟩⟩⟩,⟨⟨id,⟨⟨id,id⟩,⟨⟨id,id⟩,⟨id,id⟩⟩⟩⟩,⟨id,⟨⟨id,id⟩,⟨⟨id,id⟩,⟨id,id⟩⟩⟩⟩⟩⟩⟩⟩,⟨id,⟨⟨id,⟨⟨id,id⟩,⟨⟨id,id⟩,⟨id,id⟩⟩⟩⟩,⟨⟨id,⟨⟨id,id⟩,⟨⟨id,id⟩,⟨id,id⟩⟩⟩⟩,⟨⟨id,⟨⟨id,id⟩,⟨⟨id,id⟩,⟨id,id⟩⟩⟩⟩,⟨id,⟨⟨id,id⟩,⟨⟨id,id⟩,⟨id,id⟩⟩⟩⟩⟩⟩⟩⟩⟩⟩⟩,⟨id,⟨⟨id,⟨⟨id,⟨⟨id,id⟩,⟨⟨id,id⟩,⟨id,id⟩⟩⟩⟩,⟨⟨id,⟨⟨id,id⟩,⟨⟨id,id⟩,⟨id,id⟩⟩⟩⟩,⟨⟨id,⟨⟨id,id⟩,⟨⟨id,id⟩,⟨id,id⟩⟩⟩⟩,⟨id,⟨⟨id,id⟩,⟨⟨id,id⟩,⟨id,id⟩⟩⟩⟩⟩⟩⟩⟩,⟨⟨id,⟨⟨id,⟨⟨id,id⟩,⟨⟨id,id⟩,⟨id,id⟩⟩⟩⟩,⟨⟨id,⟨⟨id,id⟩,⟨⟨id,id⟩,⟨id,id⟩⟩⟩⟩,⟨⟨id,⟨⟨id,id⟩,⟨⟨id,id⟩,⟨id,id⟩⟩⟩⟩,⟨id,⟨⟨id,id⟩,⟨⟨id,id⟩,⟨id,id⟩⟩⟩⟩⟩⟩⟩⟩,⟨id,⟨⟨id,⟨⟨id,id⟩,⟨⟨id,id⟩,⟨id,id⟩⟩⟩⟩,⟨⟨id,⟨⟨id,id⟩,⟨⟨id,id⟩,⟨id,id⟩⟩⟩⟩,⟨⟨id,⟨⟨id,id⟩,⟨⟨id,id⟩,⟨id,id⟩⟩⟩⟩,⟨id,⟨⟨id,id⟩,⟨⟨id,id⟩,⟨id,id⟩⟩⟩⟩⟩⟩⟩⟩⟩⟩⟩⟩
abbrev qJ:Bool→AV:=fun y=>vB y
def dy(b:Nt):PT 0 (Bool):=vw .go<|cl (lX b.name) fun a=>vw .go<|vw .go<|clg ((!decide (a=(0:Int)))&&decide (b.val.kind=a)) (Uz a b.val) fun c=>lr qJ (fun _=>[]) (((!decide (a=(0:Int)))&&decide (b.val.kind=a))&&c)
def X6(a:Nt):Option (Bool):=(dy a).m
theorem ZNw(a:Nt):KC Tryz.prog 193 [.agg ((AJ a).map .d)] (X6 a) qJ:=Av Tryz.func193 Tryz.ntmps193 Aa [.tmp 2] fun C co y hm b c=>Ao co Aa Ad (dy a) hm c fun r g=>fun d=>fun e=>id
abbrev Gm:Int→AV:=fun y=>vI y
def jZ(a:List Nt)(b:Int):Nat→St:=fun c=>Ab [(0,vL AJ a),(1,vI b),(5,vN c)] []
def vC:Unit→Nat×St:=fun _=>(0,Ab [] [])
def dR(b:List Nt)(e:Int)(a:Nat):PT 0 (Lv (Nat) (Unit) (Int)):=vz (Ah b)<|br (decide ((a:Int)<(b.length:Int))) (ix b a fun f=>cl (lX f.name) fun k=>br (decide (k=(0:Int))) (Ay Gm (fun _=>[]) 8) (ix b a fun g=>cl (ZMY g.name e) fun l=>br (!l) (Ay Gm (fun _=>[]) 1) (ix b a fun h=>cl (ZNw h) fun m=>br (!m) (Ay Gm (fun _=>[]) 12) (A8 (decide ((0:Int)<(a:Int))) b (a:Int) fun i=>vg (decide ((0:Int)<(a:Int))) (wi ((a:Int)-1))<|A8 (decide ((0:Int)<(a:Int))) b ((a:Int)-1) fun j=>br (decide ((0:Int)<(a:Int))&&Bl i.name j.name) (Ay Gm (fun _=>[]) 11) (A8 (decide ((0:Int)<(a:Int))) b (a:Int) fun c=>vg (decide ((0:Int)<(a:Int))) (wi ((a:Int)-1))<|A8 (decide ((0:Int)<(a:Int))) b ((a:Int)-1) fun d=>br (decide ((0:Int)<(a:Int))&&decide (c.name=d.name)) (Ay Gm (fun _=>[]) 9) (vs (wa a 1)<|ln (jZ b e) (a+1))))))) (Al (vC) ())
def QM(a:List Nt)(b:Int):Nat→Option (Lv (Nat) (Unit) (Int)):=fun c=>(dR a b c).m
def cL:PT 0 (Int):=lr Gm (fun _=>[]) 0
def ek(a:List Nt)(b:Int):PT 0 (Int):=lc (Ab [(0,vL AJ a),(1,vI b),(5,vI 0)] []) ((Am (QM a b) Ai 0).bind (Sum.elim (fun _=>(cL).m) some))
def fC(a:List Nt)(b:Int):PT 0 (Int):=vz (Ah a)<|br (decide ((8:Int)<(a.length:Int))) (lr Gm (fun _=>[]) 3) (lc (Ab [(0,vL AJ a),(1,vI b)] []) ((ek a b).m))
def X7(a:List Nt)(b:Int):Option (Int):=(fC a b).m
theorem ZwQ{C:Cx}(co:CO C 0)(a:List Nt)(b:Int):KL Tryz.prog (AG tl) 68 C (pa [0,0,1,0,1,1] (AD Tryz.f168)) [.tmp 4] 0 (jZ a b) (vC) Gm (fun _=>[]) (QM a b):=fun i _ hm Q c h f=>AC co Aa Ad (dR a b i) (AQ [0,1,5]) nl h hm f fun r g=>⟨fun j=>fun o=>⟨id,fun k=>fun p=>⟨id,fun l=>fun q=>⟨id,fun m=>fun n=>⟨id,fun d=>fun e=>⟨id,id⟩⟩⟩⟩⟩,id⟩
theorem ZOT(b:List Nt)(c:Int):KC Tryz.prog 168 [vL AJ b,vI c] (X7 b c) Gm:=Av Tryz.func168 Tryz.ntmps168 Aa [.tmp 4] fun C co y hm d a=>Ak co Aa Ad 2 (fC b c) (AQ [0,1]) nl (fun _ h=>h) hm a fun r g=>⟨id,fun _ hm a=>sq (Ak co Aa Ad 1 (ek b c) (AQ [0,1,5]) nl (fun _ h=>h) hm a fun r g=>fun _ hm a=>bk 0 (lo (AL (ZwQ co b c) (fun _ h=>h) hm a (fun _ hm=>Ao co Aa Ad (cL) hm a fun r g=>id))))⟩
abbrev ra:List Prb→AV:=fun y=>.tup []
@[reducible] def pF(a:ByteArray):List Prb→List Blk:=fun y=>[⟨0,true,137,2,[vS a,.ref (0,1) 0 0 y.length]⟩,⟨0,true,182,3,Af Aw y⟩]
def cY(a:ByteArray)(b:List Prb):PT 2 (List Prb):=lr ra (pF a) b
def fS(a:ByteArray)(b:List Prb):PT 2 (List Prb):=vz (fl b)<|lc (Ab [] (CD a b)) ((cY a b).m)
def bG(a:ByteArray)(b:List Prb)(d:Int)(c:Int):PT 2 (List Prb):=vz (fl b)<|lc (Ab [(12,.ptr (0,0) 0 0),(14,vB (!decide (c=(0:Int)))),(15,vI d),(16,vI c)] (CD a b)) ((Bo a b (!decide (c=(0:Int))) d c).bind fun e=>(fS a e).m)
def cK(a:ByteArray)(b:List Prb)(e:List Nt)(f:Int)(c:Int):PT 2 (List Prb):=cl (ZOT e f) fun d=>vz (fl b)<|lc (Ab [(0,.ptr (0,0) 0 0),(3,vI c),(8,vI d)] (CD a b)) ((bG a b c d).m)
def FT(a:ByteArray)(b:List Prb)(c:List Nt)(d:Int)(e:Int):Option (List Prb):=(cK a b c d e).m
theorem Ko(a:ByteArray)(b:List Prb)(e:List Nt)(f:Int)(d:Int):KG Tryz.prog 133 2 [1] [(1,0)] [.ptr (0,0) 0 0,vL AJ e,vI f,vI d] [⟨0,true,137,2,[vS a,.ref (0,1) 0 0 b.length]⟩,⟨0,true,182,3,Af Aw b⟩] (FT a b e f d) ra (pF a):=is Tryz.func133 Tryz.ntmps133 Aa [] 2 [1] [0] [(1,0)] (fun C co l y hm j c=>Ak co Aa Ad 1 (cK a b e f d) (Ae [0,3,8] D8) nl (fun _ h=>h) hm c fun r g=>fun i=>fun _ hm c=>rg (Bv co Aa 5 (bG a b d i) (Ae [12,14,15,16] D8) hm c fun r g=>fun _ hm c=>Bi co hm (BB a b (!decide (i=(0:Int))) d i) (CD a b) [] (fun z=>.tup []) (CD a) [] fun k hm=>Ba co Aa (fS a k) (Ae [] D8) hm c fun r g=>fun _ hm c=>W7 (cY a k) co hm c (fun r g=>id) r g))
abbrev Xq:List Prb→AV:=fun y=>.tup []
@[reducible] def WZ(a:ByteArray):List Prb→List Blk:=fun y=>[⟨0,true,137,2,[vS a,.ref (0,1) 0 0 y.length]⟩,⟨0,true,182,3,Af Aw y⟩]
def wh(a:ByteArray)(b:List Spn)(c:Int)(d:Int):Nat×List Prb→St:=fun(f,e)=>Ab [(0,.ptr (0,0) 0 0),(1,vL AY b),(2,vI c),(3,vI d),(8,vN f)] (CD a e)
def xr(a:ByteArray):List Prb→Nat×St:=fun b=>(0,Ab [] (CD a b))
def gI(a:ByteArray)(d:List Spn)(e:Int)(f:Int)(c:Nat)(b:List Prb):PT 2 (Lv (Nat×List Prb) (List Prb) (List Prb)):=vs (wa c 1)<|vz (fl b)<|ln (wh a d e f) (c+1,b)
def cN(a:ByteArray)(c:List Spn)(d:Int)(e:Int)(f:Nat)(b:List Prb):PT 2 (Lv (Nat×List Prb) (List Prb) (List Prb)):=vz (fl b)<|lc (Ab [(0,.ptr (0,0) 0 0),(1,vL AY c),(2,vI d),(3,vI e),(8,vN f)] (CD a b)) ((gI a c d e f b).m)
def dS(a:ByteArray)(c:List Spn)(h:Int)(i:Int)(b:Nat)(e:List Prb):PT 2 (Lv (Nat×List Prb) (List Prb) (List Prb)):=A8 (decide ((0:Int)<(b:Int))) c (b:Int) fun f=>vg (decide ((0:Int)<(b:Int))) (wi ((b:Int)-1))<|A8 (decide ((0:Int)<(b:Int))) c ((b:Int)-1) fun g=>vz (fl e)<|lc (Ab [(0,.ptr (0,0) 0 0),(1,vL AY c),(2,vI h),(3,vI i),(8,vN b),(46,.ptr (0,0) 0 0),(62,vB (decide ((0:Int)<(b:Int))&&decide (f.lo≤g.hi)))] (CD a e)) ((Bo a e (decide ((0:Int)<(b:Int))&&decide (f.lo≤g.hi)) (-1) 11).bind fun d=>(cN a c h i b d).m)
def fd(a:ByteArray)(c:List Spn)(d:Int)(e:Int)(f:Nat)(b:List Prb):PT 2 (Lv (Nat×List Prb) (List Prb) (List Prb)):=vz (fl b)<|lc (Ab [(0,.ptr (0,0) 0 0),(1,vL AY c),(2,vI d),(3,vI e),(8,vN f)] (CD a b)) ((dS a c d e f b).m)
def eC(a:ByteArray)(c:List Spn)(b:Int)(d:Int)(e:Nat)(h:List Prb):PT 2 (Lv (Nat×List Prb) (List Prb) (List Prb)):=ix c e fun f=>A8 (!(decide (f.lo<b))) c (e:Int) fun g=>A8 (!(decide (f.lo<b)||decide (d<g.hi))) c (e:Int) fun i=>A8 (!(decide (f.lo<b)||decide (d<g.hi))) c (e:Int) fun j=>vz (fl h)<|lc (Ab [(0,.ptr (0,0) 0 0),(1,vL AY c),(2,vI b),(3,vI d),(8,vN e),(15,.ptr (0,0) 0 0),(44,vB ((decide (f.lo<b)||decide (d<g.hi))||decide (j.hi<i.lo)))] (CD a h)) ((Bo a h ((decide (f.lo<b)||decide (d<g.hi))||decide (j.hi<i.lo)) (-1) 6).bind fun k=>(fd a c b d e k).m)
def eM(a:ByteArray)(c:List Spn)(e:Int)(f:Int)(d:Nat)(b:List Prb):PT 2 (Lv (Nat×List Prb) (List Prb) (List Prb)):=vz (Ah c)<|br (decide ((d:Int)<(c.length:Int))) (vz (fl b)<|lc (Ab [(0,.ptr (0,0) 0 0),(1,vL AY c),(2,vI e),(3,vI f),(8,vN d)] (CD a b)) ((eC a c e f d b).m)) (vz (fl b)<|Al (xr a) b)
def Q8(a:ByteArray)(b:List Spn)(c:Int)(d:Int):Nat×List Prb→Option (Lv (Nat×List Prb) (List Prb) (List Prb)):=fun(f,e)=>(eM a b c d f e).m
def gx(a:ByteArray)(b:List Prb):PT 2 (List Prb):=lr Xq (WZ a) b
def fV(a:ByteArray)(b:List Prb)(d:List Spn)(e:Int)(f:Int):PT 2 (List Prb):=vz (fl b)<|lc (Ab [(0,.ptr (0,0) 0 0),(1,vL AY d),(2,vI e),(3,vI f),(8,vI 0)] (CD a b)) ((Am (Q8 a d e f) Ai (0,b)).bind (Sum.elim (fun c=>(gx a c).m) some))
def LR(a:ByteArray)(b:List Prb)(c:List Spn)(d:Int)(e:Int):Option (List Prb):=(fV a b c d e).m
theorem ZuP{C:Cx}(co:COx C 2 [0])(t:GE C.κ [(1,0)])(a:ByteArray)(e:List Spn)(c:Int)(d:Int):KL Tryz.prog (AG tl) 64 C (pa [0,0,1] (AD Tryz.f134)) [] 2 (wh a e c d) (xr a) Xq (WZ a) (Q8 a e c d):=fun(f,i) _ hm Q k l b=>Ak co Aa Ad 1 (eM a e c d f i) (Ae [0,1,2,3,8] D8) (Ae [] D8) l hm b fun r g=>⟨fun _ hm b=>sq (bk 1 (sq (D3 co Aa Ad 30 (eC a e c d f i) (Ae [0,1,2,3,8,15,44] D8) hm b fun r g=>fun m=>fun n=>fun o=>fun p=>fun _ hm b=>Bi co hm (BB a i ((decide (m.lo<c)||decide (d<n.hi))||decide (p.hi<o.lo)) (-1) 6) (CD a i) [] (fun z=>.tup []) (CD a) [] fun j hm=>Ba co Aa (fd a e c d f j) (Ae [0,1,2,3,8] D8) hm b fun r g=>fun _ hm b=>D3 co Aa Ad 17 (dS a e c d f j) (Ae [0,1,2,3,8,46,62] D8) hm b fun r g=>fun q=>fun s=>fun _ hm b=>Bi co hm (BB a j (decide ((0:Int)<(f:Int))&&decide (q.lo≤s.hi)) (-1) 11) (CD a j) [] (fun z=>.tup []) (CD a) [] fun h hm=>Ba co Aa (cN a e c d f h) (Ae [0,1,2,3,8] D8) hm b fun r g=>fun _ hm b=>AC co Aa Ad (gI a e c d f h) (Ae [0,1,2,3,8] D8) nl l hm b fun r g=>id))),id⟩
theorem mE(a:ByteArray)(b:List Prb)(d:List Spn)(e:Int)(f:Int):KG Tryz.prog 134 2 [1] [(1,0)] [.ptr (0,0) 0 0,vL AY d,vI e,vI f] [⟨0,true,137,2,[vS a,.ref (0,1) 0 0 b.length]⟩,⟨0,true,182,3,Af Aw b⟩] (LR a b d e f) Xq (WZ a):=is Tryz.func134 Tryz.ntmps134 Aa [] 2 [1] [0] [(1,0)] (fun C co i y hm k c=>Ak co Aa Ad 1 (fV a b d e f) (Ae [0,1,2,3,8] D8) nl (fun _ h=>h) hm c fun r g=>fun _ hm c=>bk 0 (lo (AL (ZuP co i a d e f) (fun _ h=>h) hm c (fun j hm=>W7 (gx a j) co hm c (fun r g=>id) r g))))
end Go.Proofs.YtchkcemlglpobaaGreat
