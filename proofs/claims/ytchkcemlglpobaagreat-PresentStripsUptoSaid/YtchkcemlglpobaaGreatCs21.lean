import Derived.Test.YtchkcemlglpobaaGreatCs20
import Derived.Test.YtchkcemlglpobaaGreatCs00
namespace Go.Proofs.YtchkcemlglpobaaGreat
set_option maxRecDepth 100000
set_option linter.all false
open Go Go.Eng
abbrev IS:Val→AV:=fun y=>.agg ((Ag y).map .d)
def Uw(a:Fld):PT 0 (Val):=vw .go<|br a.hasDefault (vw .go<|vw .go<|lr IS (fun _=>[]) a.dflt) (vw .go<|br (decide (a.card=(4:Int))) (vw .go<|lr IS (fun _=>[]) (.mk 11 0 ⟨#[]⟩ [] [] [] []:Val)) (vw .go<|br (decide (a.card=(5:Int))) (vw .go<|lr IS (fun _=>[]) (.mk 12 0 ⟨#[]⟩ [] [] [] []:Val)) (vw .go<|br (decide (a.type.kind=(10:Int))) (vw .go<|lr IS (fun _=>[]) (.mk 10 0 ⟨#[]⟩ [] [] [] []:Val)) (vw .go<|cl (ZSI a.type.kind) fun b=>vw .go<|lr IS (fun _=>[]) b))))
def ZL(a:Fld):Option (Val):=(Uw a).m
theorem ZSY(a:Fld):KC Tryz.prog 48 [.agg ((Ap a).map .d)] (ZL a) IS:=Av Tryz.func48 Tryz.ntmps48 Aa [.cell 2 35] fun C co y hm b c=>Ao co Aa Ad (Uw a) hm c fun r g=>⟨id,⟨id,⟨id,⟨id,fun d=>id⟩⟩⟩⟩
abbrev Nc:Val×Int→AV:=fun y=>.tup [.agg ((Ag y.1).map .d),vI y.2]
def VZ(f:Scm)(g:ByteArray)(b:Val)(c:Int):PT 0 (Val×Int):=vw .go<|cl (qo f g c) fun a=>vw .go<|vw .go<|br (!decide (a.2.2=(0:Int))) (vw .go<|lr Nc (fun _=>[]) ((.mk 0 0 ⟨#[]⟩ [] [] [] []:Val),a.2.2)) (vw .go<|cl (qv b.slots c) fun d=>br (decide ((0:Int)≤d)) (vw .go<|CL b.slots d fun e=>vw .go<|lr Nc (fun _=>[]) (e.val,0)) (vw .go<|cl (ZSY a.2.1) fun h=>vw .go<|lr Nc (fun _=>[]) (h,0)))
def ZT(a:Scm)(b:ByteArray)(c:Val)(d:Int):Option (Val×Int):=(VZ a b c d).m
theorem Oi(a:Scm)(b:ByteArray)(c:Val)(d:Int):KC Tryz.prog 18 [.agg ((AF a).map .d),vS b,.agg ((Ag c).map .d),vI d] (ZT a b c d) Nc:=Av Tryz.func18 Tryz.ntmps18 Aa [.cell 8 35,.tmp 9] fun C co y hm e f=>Ao co Aa Ad (VZ a b c d) hm f fun r g=>fun i=>⟨id,fun j=>⟨fun h=>id,fun k=>id⟩⟩
abbrev i5:Bool→AV:=fun y=>vB y
@[reducible] def jj(w0:Int):Bool→List Blk:=fun y=>[⟨0,true,3,1,[vI w0]⟩]
def nd(a:Slt)(w0:Int):PT 1 (Bool):=vw .go<|vw .go<|lr i5 (jj w0) (decide (a.num=w0))
def Zi(a:Slt)(w0:Int):Option (Bool):=(nd a w0).m
theorem ZSs(a:Slt)(w0:Int):KO Tryz.prog 58 1 [.agg ((Cz a).map .d),.ptr (0,0) 0 0] [⟨0,true,3,1,[vI w0]⟩] (fun _ _ _ _=>True) (Zi a w0) i5 (jj w0):=BG Tryz.func58 Tryz.ntmps58 Aa [.tmp 3] 1 (fun C co d y hm b c=>Ao co Aa Ad (nd a w0) hm c fun r g=>id) (hB:=fun y=>⟨.inr (by kernel_rfl),rfl,trivial⟩)
abbrev Jg(a:Int):Ac×Blk:=((1,3),⟨0,true,3,1,[vI a]⟩)
abbrev N4:Ac×Blk:=((1,4),⟨0,true,35,7,[vI 0,.d (.int .u64 0),vS ⟨#[]⟩,.e0,.e0,.e0,.e0]⟩)
abbrev XH(a:Val):Ac×Blk:=((1,2),⟨0,true,35,7,[vI a.kind,.d (.int .u64 a.bits),vS a.text,vL Aq a.list,vL Au a.pairs,vL Aj a.slots,vL Az a.raws]⟩)
abbrev iP:Val→AV:=fun y=>.agg ((Ag y).map .d)
def kI(a:Val)(b:List Slt):PT 0 (Val):=vw .go<|vw .go<|vz (fr b)<|lr iP (fun _=>[]) (.mk a.kind a.bits a.text a.list a.pairs b a.raws:Val)
def j7(a:Val)(b:List Slt):PT 0 (Val):=vw .go<|vz (fl b)<|lc (Ab [(2,.ptr (1,2) 0 0),(4,.ptr (1,4) 0 0)] [((1,2),⟨0,true,35,7,[vI a.kind,.d (.int .u64 a.bits),vS a.text,vL Aq a.list,vL Au a.pairs,.ref (1,7) 0 0 b.length,vL Az a.raws]⟩),N4,((1,7),⟨0,true,63,8,Af Aj b⟩)]) ((kI a b).m)
def la(b:Val)(c:Int)(a:List Slt):PT 0 (Val):=vz (fl a)<|lc (Ab [(2,.ptr (1,2) 0 0),(4,.ptr (1,4) 0 0),(7,.ref (1,7) 0 0 a.length),(8,.fn (.func 58) [] [.ptr (1,3) 0 0])] [(XH b),(Jg c),N4,((1,7),⟨0,true,63,8,Af Aj a⟩)]) ((LZ a (fun(z0:Slt)=>Zi z0 c)).bind fun d=>(j7 b d).m)
def ni(a:Val)(b:Int):PT 0 (Val):=vw .go<|lc (Ab [(2,.ptr (1,2) 0 0),(3,.ptr (1,3) 0 0),(4,.ptr (1,4) 0 0),(6,vL Aj a.slots)] [(XH a),(Jg b),N4]) ((Ir a.slots).bind fun c=>(la a b c).m)
def nM(a:Val)(b:Int):PT 0 (Val):=lc (Ab [(2,.ptr (1,2) 0 0),(3,.ptr (1,3) 0 0),(4,.ptr (1,4) 0 0)] [(XH a),(Jg b),N4]) ((ni a b).m)
def Zhm(a:Val)(b:Int):Option (Val):=(nM a b).m
theorem WT(c:Val)(a:Int):KC Tryz.prog 24 [.agg ((Ag c).map .d),vI a] (Zhm c a) iP:=Av Tryz.func24 Tryz.ntmps24 Aa [.cell 4 35] fun C co y hm f b=>Ak co Aa Ad 1 (nM c a) (Ae [2,3,4] [((1,2),false),((1,3),false),((1,4),false)]) nl (fun _ h=>h) hm b fun r g=>fun _ hm b=>sq (rg (Bv co Aa 2 (ni c a) (Ae [2,3,4,6] [((1,2),false),((1,3),false),((1,4),false)]) hm b fun r g=>fun _ hm b=>GW co hm 57 [vL Aj c.slots] [(1,7)] ([((1,7),⟨0,false,0,0,[]⟩)]++[]) (fun z=>.ref (1,7) 1 0 z.length) (fun z=>[((1,7),⟨1,true,63,8,Af Aj z⟩)]) [] (fun z=>trivial) (trivial) (fun z e r g=>DA (Od c.slots) e co g [((1,7),⟨0,false,0,0,[]⟩)] [] [((1,7),⟨1,true,63,8,Af Aj z⟩)] (AS []) (fun k i m=>trivial) (fun H=>⟨(fun h=>by cases h),by kernel_rfl,trivial⟩) (fun H=>⟨fun _=>⟨rfl,Bm (A1 _ _) (by kernel_rfl)⟩,by kernel_rfl,trivial⟩)) fun d hm=>Bv co Aa 1 (la c a d) (Ae [2,4,7,8] [((1,2),false),((1,3),false),((1,4),false),((1,7),true)]) hm b fun r g=>fun _ hm b=>GW co hm 41 [.ref (1,7) 0 0 d.length,.fn (.func 58) [] [.ptr (1,3) 0 0]] [(1,7),(1,3)] ([((1,7),⟨0,true,63,8,Af Aj d⟩)]++[(Jg a)]) (fun z=>.ref (1,7) 0 0 z.length) (fun z=>[((1,7),⟨0,true,63,8,Af Aj z⟩)]) [] (fun z=>trivial) (trivial) (fun z e r g=>DA (qO d (fun(z0:Slt)=>Zi z0 a)) e co g [((1,7),⟨0,true,63,8,Af Aj d⟩)] [(Jg a)] [((1,7),⟨0,true,63,8,Af Aj z⟩)] (AS [(1,.fn (.func 58) [] [.ptr (r.κ (1,3)) (r.γ (1,3)+0) 0])]) (fun k i m=>(fun z0 y e=>EN (ZSs z0 a) e co g [(Jg a)] [((1,7),⟨0,true,63,8,Af Aj d⟩)] i (by simp) (fun _=>.top) (fun _ _=>trivial) (fun l H=>⟨fun _=>⟨rfl,by kernel_rfl⟩,by kernel_rfl,trivial⟩))) (fun H=>⟨fun _=>⟨rfl,Bm (A1 _ _) (by kernel_rfl)⟩,by kernel_rfl,trivial⟩) (fun H=>⟨fun _=>⟨rfl,Bm (A1 _ _) (by kernel_rfl)⟩,by kernel_rfl,trivial⟩)) fun j hm=>Ba co Aa (j7 c j) (Ae [2,4] [((1,2),false),((1,4),false),((1,7),true)]) hm b fun r g=>fun _ hm b=>Ao co Aa Ad (kI c j) hm b fun r g=>id))
abbrev qM:Bool→AV:=fun y=>vB y
def wy(a:Val):PT 0 (Bool):=vw .go<|vz (Ah a.list)<|vw .go<|vz (Ah a.pairs)<|vs (wa a.list.length a.pairs.length)<|vw .go<|vz (Ah a.slots)<|vs (wa (a.list.length+a.pairs.length) a.slots.length)<|vw .go<|vz (Ah a.raws)<|vs (wa ((a.list.length+a.pairs.length)+a.slots.length) a.raws.length)<|bF (decide ((0:Int)<((((a.list.length+a.pairs.length)+a.slots.length)+a.raws.length:Nat):Int)))<|vw .go<|cl (mu a.kind) fun b=>bT b<|vw .go<|lr qM (fun _=>[]) (decide (a.bits=(0:Int)))
def ZiG(a:Val):Option (Bool):=(wy a).m
theorem ZNY(a:Val):KC Tryz.prog 145 [.agg ((Ag a).map .d)] (ZiG a) qM:=Av Tryz.func145 Tryz.ntmps145 Aa [.tmp 2] fun C co y hm b c=>Ao co Aa Ad (wy a) hm c fun r g=>fun d=>id
abbrev pf:Bool→AV:=fun y=>vB y
def wO(a:Int):PT 0 (Bool):=bF (decide (a=(1:Int)))<|bF (decide (a=(2:Int)))<|bF (decide (a=(9:Int)))<|bF (decide (a=(4:Int)))<|lr pf (fun _=>[]) true
def ZgX(a:Int)(b:Int):Option (Bool):=(wO a).m
theorem ZPp(a:Int)(c:Int):KC Tryz.prog 170 [vI a,.d (.int .u64 c)] (ZgX a c) pf:=Av Tryz.func170 Tryz.ntmps170 Aa [.tmp 4] fun C co y hm b d=>Ao co Aa Ad (wO a) hm d fun r g=>id
abbrev qi:Bool→AV:=fun y=>vB y
def vG(b:ByteArray)(a:ByteArray):PT 0 (Bool):=vz (A3 b.size)<|vz (A3 a.size)<|vy (decide ((a.size:Int)≤(b.size:Int))) (A3 a.size)<|yj (decide ((a.size:Int)≤(b.size:Int))) b .no (.nt a.size) fun s1=>lr qi (fun _=>[]) (decide ((a.size:Int)≤(b.size:Int))&&decide (s1=a))
def Zel(a:ByteArray)(b:ByteArray):Option (Bool):=(vG a b).m
theorem ZNM(a:ByteArray)(b:ByteArray):KC Tryz.prog 234 [vS a,vS b] (Zel a b) qi:=Av Tryz.func234 Tryz.ntmps234 Aa [.tmp 4] fun C co y hm c d=>Ao co Aa Ad (vG a b) hm d fun r g=>fun s1=>id
abbrev ri:Bool→AV:=fun y=>vB y
def xN(a:ByteArray)(b:ByteArray):PT 0 (Bool):=cl (ZNM a b) fun c=>lr ri (fun _=>[]) c
def Zfp(a:ByteArray)(b:ByteArray):Option (Bool):=(xN a b).m
theorem ZNx(a:ByteArray)(b:ByteArray):KC Tryz.prog 225 [vS a,vS b] (Zfp a b) ri:=Av Tryz.func225 Tryz.ntmps225 Aa [.tmp 4] fun C co y hm c d=>Ao co Aa Ad (xN a b) hm d fun r g=>fun e=>id
abbrev p8:Bool→AV:=fun y=>vB y
def wA(b:ByteArray)(c:Int)(a:Int):PT 0 (Bool):=yj (decide (a=(65533:Int))) b (.it c) .no fun s1=>clg (decide (a=(65533:Int))) (ZNx s1 (⟨#[239,191,189]⟩)) fun d=>lr p8 (fun _=>[]) (decide (a=(65533:Int))&&(!d))
def Zk1(a:ByteArray)(b:Int)(c:Int):Option (Bool):=(wA a b c).m
theorem ZNc(a:ByteArray)(b:Int)(c:Int):KC Tryz.prog 213 [vS a,vI b,.d (.int .i32 c)] (Zk1 a b c) p8:=Av Tryz.func213 Tryz.ntmps213 Aa [.tmp 6] fun C co y hm d e=>Ao co Aa Ad (wA a b c) hm e fun r g=>fun s1=>fun f=>id
abbrev WW:Int→AV:=fun y=>vI y
def vO(a:ByteArray):Nat→St:=fun b=>Ab [(0,vS a),(6,.ptr (1,6) 0 0)] [((1,6),⟨0,true,.s a b,0,[]⟩)]
def vA:Unit→Nat×St:=fun _=>(0,Ab [] [])
def wY(a:ByteArray)(b:Nat):PT 0 (Lv (Nat) (Unit) (Int)):=br (decide (b<a.size)) (vw .go<|cl (ZNc a (b:Int) (M3 a b)) fun c=>bF c<|ln (vO a) (b+E0 a b)) (vw .go<|Al (vA) ())
def xf(a:ByteArray):Nat→Option (Lv (Nat) (Unit) (Int)):=fun b=>(wY a b).m
def vQ:PT 0 (Int):=lr WW (fun _=>[]) (-1)
def ws(a:ByteArray):PT 0 (Int):=lc (Ab [(0,vS a),(6,.ptr (1,6) 0 0)] [((1,6),⟨0,true,.s a 0,0,[]⟩)]) ((Am (xf a) Ai 0).bind (Sum.elim (fun _=>(vQ).m) some))
def wq(a:ByteArray):PT 0 (Int):=lc (Ab [(0,vS a)] []) ((ws a).m)
def ZsU(a:ByteArray):Option (Int):=(wq a).m
theorem ZvW{C:Cx}(co:CO C 0)(a:ByteArray):KL Tryz.prog (AG tl) 16 C (pa [0,0,1,0,1] (AD Tryz.f195)) [.tmp 2] 0 (vO a) (vA) WW (fun _=>[]) (xf a):=fun e _ hm Q b d c=>AC co Aa Ad (wY a e) (Ae [0,6] [((1,6),false)]) nl d hm c fun r g=>⟨fun f=>id,id⟩
theorem ZO8(b:ByteArray):KC Tryz.prog 195 [vS b] (ZsU b) WW:=Av Tryz.func195 Tryz.ntmps195 Aa [.tmp 2] fun C co y hm c a=>Ak co Aa Ad 1 (wq b) (AQ [0]) nl (fun _ h=>h) hm a fun r g=>fun _ hm a=>sq (Ak co Aa Ad 1 (ws b) (Ae [0,6] [((1,6),false)]) nl (fun _ h=>h) hm a fun r g=>fun _ hm a=>bk 0 (lo (AL (ZvW co b) (fun _ h=>h) hm a (fun _ hm=>Ao co Aa Ad (vQ) hm a fun r g=>id))))
abbrev rD:Bool→AV:=fun y=>vB y
def jS(a:ByteArray):PT 0 (Bool):=cl (ZO8 a) fun b=>lr rD (fun _=>[]) (decide (b<(0:Int)))
def ZlD(a:ByteArray):Option (Bool):=(jS a).m
theorem lu(a:ByteArray):KC Tryz.prog 171 [vS a] (ZlD a) rD:=Av Tryz.func171 Tryz.ntmps171 Aa [.tmp 2] fun C co y hm b c=>Ao co Aa Ad (jS a) hm c fun r g=>fun d=>id
abbrev pB:Bool→AV:=fun y=>vB y
def wd(b:Int)(a:Val):PT 0 (Bool):=cl (Lp b) fun c=>vw .go<|vw .go<|clg (!((!c)||(!decide (a.kind=b)))) (ZNY a) fun d=>vw .go<|clg (!(((!c)||(!decide (a.kind=b)))||(!d))) (ZPp b a.bits) fun e=>vw .go<|vy (!((((!c)||(!decide (a.kind=b)))||(!d))||(!e))) (A3 a.text.size)<|bF (((((!c)||(!decide (a.kind=b)))||(!d))||(!e))||decide ((4096:Int)<(a.text.size:Int)))<|vw .go<|clg (!(!decide (b=(7:Int)))) (lu a.text) fun f=>lr pB (fun _=>[]) ((!decide (b=(7:Int)))||f)
def Zjp(a:Int)(b:Val):Option (Bool):=(wd a b).m
theorem nJ(a:Int)(b:Val):KC Tryz.prog 138 [vI a,.agg ((Ag b).map .d)] (Zjp a b) pB:=Av Tryz.func138 Tryz.ntmps138 Aa [.tmp 4] fun C co y hm c d=>Ao co Aa Ad (wd a b) hm d fun r g=>fun e=>fun f=>fun h=>fun i=>id
abbrev Pa:Ac×Blk:=((1,4),⟨0,true,97,5,[vS ⟨#[]⟩,vB false,.e0,.e0,.e0]⟩)
abbrev N6:Enm×Bool→AV:=fun y=>.tup [.agg ((AO y.1).map .d),vB y.2]
def pj(a:Enm→Option Bool):Cl:=fun no l H θ=>(∀(z0:Enm) y,a z0=some y→CK Tryz.prog l no H (θ 1) [.agg ((AO z0).map .d)] (vB y))
def wx(a:List Enm):Nat→St:=fun b=>Ab [(1,.fn (.yield 1) [] []),(4,.ptr (1,4) 0 0),(9,vL AO a),(10,vN a.length),(11,vN b)] [Pa]
def xD:Unit→Nat×St:=fun _=>(0,Ab [(4,.ptr (1,4) 0 0)] [Pa])
def wR(c:List Enm)(d:Enm→Option Bool)(a:Nat):PT 0 (Lv (Nat) (Unit) (Enm×Bool)):=br (decide ((a:Int)<(c.length:Int))) (ix c a fun b=>vw .go<|vw .go<|cf Tryz.prog 1 [.agg ((AO b).map .d)] (d b) (fun y=>vB y) fun e=>br e (vw .go<|vw .go<|Ay N6 (fun _=>[]) (b,true)) (vs (wa a 1)<|ln (wx c) (a+1))) (Al (xD) ())
def xw(b:List Enm)(a:Enm→Option Bool):Nat→Option (Lv (Nat) (Unit) (Enm×Bool)):=fun c=>(wR b a c).m
def w6:PT 0 (Enm×Bool):=vw .go<|vw .go<|lr N6 (fun _=>[]) ((.mk ⟨#[]⟩ false [] [] []:Enm),false)
def vF(a:List Enm)(b:Enm→Option Bool):PT 0 (Enm×Bool):=vz (Ah a)<|lc (Ab [(1,.fn (.yield 1) [] []),(4,.ptr (1,4) 0 0),(9,vL AO a),(10,vN a.length),(11,vI 0)] [Pa]) ((Am (xw a b) Ai 0).bind (Sum.elim (fun _=>(w6).m) some))
def wG(b:List Enm)(a:Enm→Option Bool):PT 0 (Enm×Bool):=lc (Ab [(0,vL AO b),(1,.fn (.yield 1) [] []),(4,.ptr (1,4) 0 0)] [Pa]) ((vF b a).m)
def rZ(b:List Enm)(a:Enm→Option Bool):Option (Enm×Bool):=(wG b a).m
theorem ZwJ{C:Cx}(co:CO C 0)(b:List Enm)(a:Enm→Option Bool)(f:(pj a) C.no C.l C.H0 C.θ):KL Tryz.prog (AG tl) 21 C (pa [0,0,1,0,1] (AD Tryz.f173)) [.cell 4 97,.tmp 5] 0 (wx b) (xD) N6 (fun _=>[]) (xw b a):=fun h _ hm Q c e d=>AC co Aa Ad (wR b a h) (Ae [1,4,9,10,11] Dq) (Ae [4] Dq) e hm d fun r g=>⟨fun i=>⟨⟨fun y hy=>f _ y hy,by intro r;kernel_rfl,by intro r y;kernel_rfl⟩,fun j=>⟨id,id⟩⟩,id⟩
theorem ZNz(c:List Enm)(a:Enm→Option Bool):KO Tryz.prog 173 0 [vL AO c,.fn (.yield 1) [] []] [] (pj a) (rZ c a) N6 (fun _=>[]):=BG Tryz.func173 Tryz.ntmps173 Aa [.cell 4 97,.tmp 5] 0 (fun C co e y hm d b=>Ak co Aa Ad 1 (wG c a) (Ae [0,1,4] Dq) nl (fun _ h=>h) hm b fun r g=>fun _ hm b=>sq (Ak co Aa Ad 1 (vF c a) (Ae [1,4,9,10,11] Dq) nl (fun _ h=>h) hm b fun r g=>fun _ hm b=>bk 0 (lo (AL (ZwJ co c a e) (fun _ h=>h) hm b (fun _ hm=>Ao co Aa Ad (w6) hm b fun r g=>id)))))
abbrev ry:Bool→AV:=fun y=>vB y
@[reducible] def qs(w0:ByteArray):Bool→List Blk:=fun y=>[⟨0,true,9,1,[vS w0]⟩]
def xM(a:Enm)(w0:ByteArray):PT 1 (Bool):=vw .go<|vw .go<|lr ry (qs w0) (decide (a.name=w0))
def ZW(a:Enm)(w0:ByteArray):Option (Bool):=(xM a w0).m
theorem ZN9(a:Enm)(w0:ByteArray):KO Tryz.prog 174 1 [.agg ((AO a).map .d),.ptr (0,0) 0 0] [⟨0,true,9,1,[vS w0]⟩] (fun _ _ _ _=>True) (ZW a w0) ry (qs w0):=BG Tryz.func174 Tryz.ntmps174 Aa [.tmp 3] 1 (fun C co d y hm b c=>Ao co Aa Ad (xM a w0) hm c fun r g=>id) (hB:=fun y=>⟨.inr (by kernel_rfl),rfl,trivial⟩)
abbrev qx:Enm×Bool→AV:=fun y=>.tup [.agg ((AO y.1).map .d),vB y.2]
def vM(a:Scm)(b:ByteArray):PT 0 (Enm×Bool):=vw .go<|cs Tryz.prog 173 [vL AO a.enums,.fn (.func 174) [] [.ptr (1,3) 1 0]] [(1,3)] [((1,3),⟨1,true,9,1,[vS b]⟩)] (rZ a.enums (fun(z0:Enm)=>ZW z0 b)) (fun y=>.tup [.agg ((AO y.1).map .d),vB y.2]) fun c=>vw .go<|lr qx (fun _=>[]) (c.1,c.2)
def Zk3(a:Scm)(b:ByteArray):Option (Enm×Bool):=(vM a b).m
theorem ZMQ(b:Scm)(a:ByteArray):KC Tryz.prog 141 [.agg ((AF b).map .d),vS a] (Zk3 b a) qx:=Av Tryz.func141 Tryz.ntmps141 Aa [.cell 4 97,.tmp 5] fun C co y hm c d=>Ao co Aa Ad (vM b a) hm d fun r g=>⟨fun y hy=>CZ (ZNz b.enums (fun(z0:Enm)=>ZW z0 a)) hy co g [] [((1,3),⟨1,true,9,1,[vS a]⟩)] (AS [(1,.fn (.func 174) [] [.ptr (r.κ (1,3)) (r.γ (1,3)+1) 0])]) (fun h e i=>(fun z0 y f=>EN (ZN9 z0 a) f co g [((1,3),⟨1,true,9,1,[vS a]⟩)] [] e (by simp) (fun _=>.top) (fun _ _=>trivial) (fun l H=>⟨fun _=>⟨rfl,by kernel_rfl⟩,by kernel_rfl,trivial⟩))) (fun H=>trivial),fun j=>id⟩
abbrev rz:Bool→AV:=fun y=>vB y
def xz(a:Val):PT 0 (Bool):=vw .go<|vw .go<|vw .go<|vw .go<|vy (!decide (a.kind=(11:Int))) (Ah a.list)<|vw .go<|vw .go<|vy ((!((!decide (a.kind=(11:Int)))&&decide ((0:Int)<(a.list.length:Int))))&&(!decide (a.kind=(12:Int)))) (Ah a.pairs)<|vw .go<|vw .go<|vy ((!(((!decide (a.kind=(11:Int)))&&decide ((0:Int)<(a.list.length:Int)))||((!decide (a.kind=(12:Int)))&&decide ((0:Int)<(a.pairs.length:Int)))))&&(!decide (a.kind=(10:Int)))) (Ah a.slots)<|vw .go<|vy ((!(((!decide (a.kind=(11:Int)))&&decide ((0:Int)<(a.list.length:Int)))||((!decide (a.kind=(12:Int)))&&decide ((0:Int)<(a.pairs.length:Int)))))&&(!decide (a.kind=(10:Int)))) (Ah a.raws)<|vg ((!(((!decide (a.kind=(11:Int)))&&decide ((0:Int)<(a.list.length:Int)))||((!decide (a.kind=(12:Int)))&&decide ((0:Int)<(a.pairs.length:Int)))))&&(!decide (a.kind=(10:Int)))) (wa a.slots.length a.raws.length)<|vw .go<|vw .go<|vw .go<|vw .go<|lr rz (fun _=>[]) ((((((!decide (a.kind=(11:Int)))&&decide ((0:Int)<(a.list.length:Int)))||((!decide (a.kind=(12:Int)))&&decide ((0:Int)<(a.pairs.length:Int))))||((!decide (a.kind=(10:Int)))&&decide ((0:Int)<((a.slots.length+a.raws.length:Nat):Int))))||((!decide (a.bits=(0:Int)))&&((decide (a.kind=(7:Int))||decide (a.kind=(8:Int)))||(decide ((10:Int)≤a.kind)&&decide (a.kind≤(12:Int))))))||((!decide (a.text=(⟨#[]⟩:ByteArray)))&&(!(decide (a.kind=(7:Int))||decide (a.kind=(8:Int))))))
def Zjc(a:Val):Option (Bool):=(xz a).m
theorem ZN4(a:Val):KC Tryz.prog 198 [.agg ((Ag a).map .d)] (Zjc a) rz:=Av Tryz.func198 Tryz.ntmps198 Aa [.tmp 2] fun C co y hm b c=>Ao co Aa Ad (xz a) hm c fun r g=>id
abbrev Ns:Int→AV:=fun y=>vI y
def jv(a:Fld→Option Bool):Cl:=fun no l H θ=>(∀(z0:Fld) y,a z0=some y→CK Tryz.prog l no H (θ 1) [.agg ((Ap z0).map .d)] (vB y))
def mP(a:List Fld):Nat→St:=fun b=>Ab [(0,vL Ap a),(1,.fn (.yield 1) [] []),(7,vN a.length),(8,vN b)] []
def oz:Unit→Nat×St:=fun _=>(0,Ab [] [])
def kz(b:List Fld)(c:Fld→Option Bool)(a:Nat):PT 0 (Lv (Nat) (Unit) (Int)):=br (decide ((a:Int)<(b.length:Int))) (ix b a fun d=>cf Tryz.prog 1 [.agg ((Ap d).map .d)] (c d) (fun y=>vB y) fun e=>br e (Ay Ns (fun _=>[]) (a:Int)) (vs (wa a 1)<|ln (mP b) (a+1))) (Al (oz) ())
def kC(b:List Fld)(a:Fld→Option Bool):Nat→Option (Lv (Nat) (Unit) (Int)):=fun c=>(kz b a c).m
def kh:PT 0 (Int):=lr Ns (fun _=>[]) (-1)
def kl(a:List Fld)(b:Fld→Option Bool):PT 0 (Int):=vz (Ah a)<|lc (Ab [(0,vL Ap a),(1,.fn (.yield 1) [] []),(7,vN a.length),(8,vI 0)] []) ((Am (kC a b) Ai 0).bind (Sum.elim (fun _=>(kh).m) some))
def lR(b:List Fld)(a:Fld→Option Bool):PT 0 (Int):=lc (Ab [(0,vL Ap b),(1,.fn (.yield 1) [] [])] []) ((kl b a).m)
def rQ(b:List Fld)(a:Fld→Option Bool):Option (Int):=(lR b a).m
theorem yU{C:Cx}(co:CO C 0)(b:List Fld)(a:Fld→Option Bool)(f:(jv a) C.no C.l C.H0 C.θ):KL Tryz.prog (AG tl) 19 C (pa [0,0,1,0,1] (AD Tryz.f94)) [.tmp 4] 0 (mP b) (oz) Ns (fun _=>[]) (kC b a):=fun h _ hm Q c e d=>AC co Aa Ad (kz b a h) (AQ [0,1,7,8]) nl e hm d fun r g=>⟨fun i=>⟨⟨fun y hy=>f _ y hy,by intro r;kernel_rfl,by intro r y;kernel_rfl⟩,fun j=>⟨id,id⟩⟩,id⟩
theorem ZSg(c:List Fld)(a:Fld→Option Bool):KO Tryz.prog 94 0 [vL Ap c,.fn (.yield 1) [] []] [] (jv a) (rQ c a) Ns (fun _=>[]):=BG Tryz.func94 Tryz.ntmps94 Aa [.tmp 4] 0 (fun C co e y hm d b=>Ak co Aa Ad 1 (lR c a) (AQ [0,1]) nl (fun _ h=>h) hm b fun r g=>fun _ hm b=>sq (Ak co Aa Ad 1 (kl c a) (AQ [0,1,7,8]) nl (fun _ h=>h) hm b fun r g=>fun _ hm b=>bk 0 (lo (AL (yU co c a e) (fun _ h=>h) hm b (fun _ hm=>Ao co Aa Ad (kh) hm b fun r g=>id)))))
abbrev Sq:Int→AV:=fun y=>vI y
@[reducible] def SK(a:List Fld):Int→List Blk:=fun y=>[⟨0,true,55,16,Af Ap a⟩]
def nD(a:Fld→Option Bool):Cl:=fun no l H θ=>(∀(z0:Fld) y,a z0=some y→CK Tryz.prog l no H (θ 1) [.agg ((Ap z0).map .d)] (vB y))
def uD(a:List Fld):Nat→St:=fun b=>Ab [(0,.ref (0,0) 0 0 a.length),(1,.fn (.yield 1) [] []),(7,vN a.length),(8,vN b)] [((0,0),⟨0,true,55,16,Af Ap a⟩)]
def vm(a:List Fld):Unit→Nat×St:=fun _=>(0,Ab [] [((0,0),⟨0,true,55,16,Af Ap a⟩)])
def um(a:List Fld)(c:Fld→Option Bool)(b:Nat):PT 1 (Lv (Nat) (Unit) (Int)):=br (decide ((b:Int)<(a.length:Int))) (vs (ir b a.length 16)<|ca a b fun d=>cf Tryz.prog 1 [.agg ((Ap d).map .d)] (c d) (fun y=>vB y) fun e=>br e (Ay Sq (SK a) (b:Int)) (vs (wa b 1)<|vz (fl a)<|ln (uD a) (b+1))) (vz (fl a)<|Al (vm a) ())
def uU(b:List Fld)(a:Fld→Option Bool):Nat→Option (Lv (Nat) (Unit) (Int)):=fun c=>(um b a c).m
def u4(a:List Fld):PT 1 (Int):=lr Sq (SK a) (-1)
def ut(a:List Fld)(b:Fld→Option Bool):PT 1 (Int):=vz (A3 a.length)<|vz (fl a)<|lc (Ab [(0,.ref (0,0) 0 0 a.length),(1,.fn (.yield 1) [] []),(7,vN a.length),(8,vI 0)] [((0,0),⟨0,true,55,16,Af Ap a⟩)]) ((Am (uU a b) Ai 0).bind (Sum.elim (fun _=>(u4 a).m) some))
def vd(a:List Fld)(b:Fld→Option Bool):PT 1 (Int):=vz (fl a)<|lc (Ab [(0,.ref (0,0) 0 0 a.length),(1,.fn (.yield 1) [] [])] [((0,0),⟨0,true,55,16,Af Ap a⟩)]) ((ut a b).m)
def rW(b:List Fld)(a:Fld→Option Bool):Option (Int):=(vd b a).m
theorem Zpn{C:Cx}(co:CO C 1)(b:List Fld)(a:Fld→Option Bool)(f:(nD a) C.no C.l C.H0 C.θ):KL Tryz.prog (AG tl) 19 C (pa [0,0,1,0,1] (AD Tryz.f94)) [.tmp 4] 1 (uD b) (vm b) Sq (SK b) (uU b a):=fun h _ hm Q c e d=>AC co Aa Ad (um b a h) (Ae [0,1,7,8] CX) (Ae [] CX) e hm d fun r g=>⟨fun i=>⟨⟨fun y hy=>f _ y hy,by intro r;kernel_rfl,by intro r y;kernel_rfl⟩,fun j=>⟨id,id⟩⟩,id⟩
theorem ZJm(b:List Fld)(a:Fld→Option Bool):KO Tryz.prog 94 1 [.ref (0,0) 0 0 b.length,.fn (.yield 1) [] []] [⟨0,true,55,16,Af Ap b⟩] (nD a) (rW b a) Sq (SK b):=BG Tryz.func94 Tryz.ntmps94 Aa [.tmp 4] 1 (fun C co e y hm d c=>Ak co Aa Ad 1 (vd b a) (Ae [0,1] CX) nl (fun _ h=>h) hm c fun r g=>fun _ hm c=>sq (Ak co Aa Ad 1 (ut b a) (Ae [0,1,7,8] CX) nl (fun _ h=>h) hm c fun r g=>fun _ hm c=>bk 0 (lo (AL (Zpn co b a e) (fun _ h=>h) hm c (fun _ hm=>Ao co Aa Ad (u4 b) hm c fun r g=>id))))) (hB:=fun y=>⟨.inl (A1 _ _),rfl,trivial⟩)
abbrev LN(a:List Fld):Ac×Blk:=((0,0),⟨0,true,55,16,Af Ap a⟩)
abbrev Tc:List Fld→AV:=fun y=>.ref (0,0) 0 0 y.length
@[reducible] def Ti:List Fld→List Blk:=fun y=>[⟨0,true,55,16,Af Ap y⟩]
def ju(a:Fld→Option Bool):Cl:=fun no l H θ=>(∀(z0:Fld) y,a z0=some y→CK Tryz.prog l no H (θ 1) [.agg ((Ap z0).map .d)] (vB y))
def Vr(a:List Fld):Int×Int×List Fld→St:=fun(v2,v3,b)=>Ab [(0,.ref (0,0) 0 0 a.length),(1,.fn (.yield 1) [] []),(5,vI v2),(6,vI v3)] [((0,0),⟨0,true,55,16,Af Ap b⟩)]
def kE(a:List Fld):Int×List Fld→Nat×St:=fun(c,b)=>(0,Ab [(0,.ref (0,0) 0 0 a.length),(5,vI c)] [((0,0),⟨0,true,55,16,Af Ap b⟩)])
def oF(b:List Fld)(d:Fld→Option Bool)(v2:Int)(v3:Int)(a:List Fld):PT 1 (Lv (Int×Int×List Fld) (Int×List Fld) (List Fld)):=vz (A3 b.length)<|br (decide (v3<(b.length:Int))) (vs (DR v3 b.length 16)<|ca a v3.toNat fun c=>vw .go<|vw .go<|cf Tryz.prog 1 [.agg ((Ap c).map .d)] (d c) (fun y=>vB y) fun e=>br (!e) (vw .go<|vs (DR v2 b.length 16)<|vs (st a v2.toNat c)<|Gx 0 ((Rw.f (c:Fld)).map .d) (fun _=>v7 _)<|vs (wi (v2+1))<|vs (wi (v3+1))<|vz (fl (a.set v2.toNat c))<|ln (Vr b) ((v2+1),(v3+1),a.set v2.toNat c)) (vs (wi (v3+1))<|vz (fl a)<|ln (Vr b) (v2,(v3+1),a))) (vz (fl a)<|Al (kE b) (v2,a))
def mV(b:List Fld)(a:Fld→Option Bool):Int×Int×List Fld→Option (Lv (Int×Int×List Fld) (Int×List Fld) (List Fld)):=fun(v2,v3,c)=>(oF b a v2 v3 c).m
def nn(c:List Fld)(a:Int)(b:List Fld):PT 1 (List Fld):=sR c.length 0 (.it a) .no<|cr b (0+a.toNat) (c.length-a.toNat) [vI 0,vS ⟨#[]⟩,vI 0,vI 0,vI 0,vS ⟨#[]⟩,vS ⟨#[]⟩,vB false,vI 0,.d (.int .u64 0),vS ⟨#[]⟩,.e0,.e0,.e0,.e0,.e0]<|Gx 0 ([vI 0,vS ⟨#[]⟩,vI 0,vI 0,vI 0,vS ⟨#[]⟩,vS ⟨#[]⟩,vB false,vI 0,.d (.int .u64 0),vS ⟨#[]⟩,.e0,.e0,.e0,.e0,.e0]) (fun _=>vj (by kernel_rfl))<|M8 0 b (0+a.toNat) (c.length-a.toNat) [vI 0,vS ⟨#[]⟩,vI 0,vI 0,vI 0,vS ⟨#[]⟩,vS ⟨#[]⟩,vB false,vI 0,.d (.int .u64 0),vS ⟨#[]⟩,.e0,.e0,.e0,.e0,.e0]<|vw .sep<|sR c.length 0 .no (.it a)<|Hz (a.toNat=(b.take (0+a.toNat)).length) (fun E=>E.P (.ref (0,0) 0 0 a.toNat) ([⟨0,true,55,16,Af Ap (b.take (0+a.toNat))⟩])) (b.take (0+a.toNat))
def lF(a:List Fld)(c:Fld→Option Bool)(b:Int):PT 1 (List Fld):=vs (wi (b+1))<|vz (fl a)<|lc (Ab [(0,.ref (0,0) 0 0 a.length),(1,.fn (.yield 1) [] []),(5,vI b),(6,vI (b+1))] [(LN a)]) ((Am (mV a c) Ai (b,(b+1),a)).bind (Sum.elim (fun(e,d)=>(nn a e d).m) some))
def mj(a:List Fld)(b:Fld→Option Bool):PT 1 (List Fld):=cs Tryz.prog 94 [.ref (0,0) 0 0 a.length,.fn (.yield 1) [] []] [(0,0)] [(LN a)] (rW a b) (fun y=>vI y) fun c=>br (decide (c=((-1):Int))) (lr Tc (Ti) a) (vz (fl a)<|lc (Ab [(0,.ref (0,0) 0 0 a.length),(1,.fn (.yield 1) [] []),(5,vI c)] [(LN a)]) ((lF a b c).m))
def rT(b:List Fld)(a:Fld→Option Bool):Option (List Fld):=(mj b a).m
theorem zS{C:Cx}(co:CO C 1)(b:List Fld)(a:Fld→Option Bool)(f:(ju a) C.no C.l C.H0 C.θ):KL Tryz.prog (AG tl) 42 C (pa [0,0,1,0,1,1,1] (AD Tryz.f90)) [.tmp 4] 1 (Vr b) (kE b) Tc (Ti) (mV b a):=fun(v2,v3,h) _ hm Q c e d=>AC co Aa Ad (oF b a v2 v3 h) (Ae [0,1,5,6] CX) (Ae [0,5] CX) e hm d fun r g=>⟨fun i=>⟨⟨fun y hy=>f _ y hy,by intro r;kernel_rfl,by intro r y;kernel_rfl⟩,fun j=>⟨id,id⟩⟩,id⟩
theorem ZTa(b:List Fld)(a:Fld→Option Bool):KO Tryz.prog 90 1 [.ref (0,0) 0 0 b.length,.fn (.yield 1) [] []] [⟨0,true,55,16,Af Ap b⟩] (ju a) (rT b a) Tc (Ti):=BG Tryz.func90 Tryz.ntmps90 Aa [.tmp 4] 1 (fun C co e y hm d c=>Ak co Aa Ad 3 (mj b a) (Ae [0,1,5] CX) nl (fun _ h=>h) hm c fun r g=>⟨fun y hy=>CZ (ZJm b a) hy co g [(LN b)] [] (AS [(1,r.θ 1)]) (fun m o f=>(fun z0 y i=>dK co g [(LN b)] f (e z0 y i))) (fun H=>⟨fun _=>⟨rfl,Bm (A1 _ _) (by kernel_rfl)⟩,by kernel_rfl,trivial⟩),fun l=>⟨id,fun _ hm c=>sq (Ak co Aa Ad 1 (lF b a l) (Ae [0,1,5,6] CX) nl (fun _ h=>h) hm c fun r g=>fun _ hm c=>bk 0 (lo (AL (zS co b a e) (fun _ h=>h) hm c (fun(k,j) hm=>Ao co Aa Ad (nn b k j) hm c fun r g=>fun h c=>x0 (congrArg (fun n=>(.ref (0,0) 0 0 n:AV)) h) c))))⟩⟩) (hB:=fun y=>⟨.inl (A1 _ _),rfl,trivial⟩)
abbrev Td:List Fld→AV:=fun y=>.ref (0,0) 1 0 y.length
@[reducible] def Tj:List Fld→List Blk:=fun y=>[⟨1,true,55,16,Af Ap y⟩]
def ll(a:List Fld):PT 1 (List Fld):=al Ap a false fun b=>br b (vw .sep<|vw (.ads 2 2 55 16)<|mv 2 0 ([]:List Fld)<|lr Td (Tj) ([]:List Fld)) (a0 a<|mv 7 0 a<|lr Td (Tj) a)
def sh(a:List Fld):Option (List Fld):=(ll a).m
theorem ZRN(a:List Fld):KO Tryz.prog 91 1 [vL Ap a] [⟨0,false,0,0,[]⟩] (fun _ _ _ _=>True) (sh a) Td (Tj):=BG Tryz.func91 Tryz.ntmps91 Aa [.tmp 2] 1 (fun C co f y hm c d=>Ao co Aa Ad (ll a) hm d fun r g=>⟨fun e=>⟨id,id⟩,by intro b h;subst h;cases b<;>rfl⟩) (hB:=fun y=>⟨.inl (A1 _ _),rfl,trivial⟩)
abbrev jc:Bool→AV:=fun y=>vB y
@[reducible] def jo(w0:ByteArray):Bool→List Blk:=fun y=>[⟨0,true,9,1,[vS w0]⟩]
def nE(a:Fld)(w0:ByteArray):PT 1 (Bool):=vw .go<|vw .go<|lr jc (jo w0) (!decide (a.union=w0))
def ZG(a:Fld)(w0:ByteArray):Option (Bool):=(nE a w0).m
theorem ZRI(a:Fld)(w0:ByteArray):KO Tryz.prog 92 1 [.agg ((Ap a).map .d),.ptr (0,0) 0 0] [⟨0,true,9,1,[vS w0]⟩] (fun _ _ _ _=>True) (ZG a w0) jc (jo w0):=BG Tryz.func92 Tryz.ntmps92 Aa [.tmp 3] 1 (fun C co d y hm b c=>Ao co Aa Ad (nE a w0) hm c fun r g=>id) (hB:=fun y=>⟨.inr (by kernel_rfl),rfl,trivial⟩)
abbrev Jf(a:ByteArray):Ac×Blk:=((1,3),⟨0,true,9,1,[vS a]⟩)
abbrev i1:List Fld→AV:=fun y=>vL Ap y
def og(a:List Fld):PT 0 (List Fld):=vz (fr a)<|lr i1 (fun _=>[]) a
def ly(a:List Fld):PT 0 (List Fld):=vz (fl a)<|lc (Ab [(4,.ref (1,9) 0 0 a.length)] [((1,9),⟨0,true,55,16,Af Ap a⟩)]) ((og a).m)
def oM(b:ByteArray)(a:List Fld):PT 0 (List Fld):=vz (fl a)<|lc (Ab [(9,.ref (1,9) 0 0 a.length),(10,.fn (.func 92) [] [.ptr (1,3) 0 0])] [(Jf b),((1,9),⟨0,true,55,16,Af Ap a⟩)]) ((rT a (fun(z0:Fld)=>ZG z0 b)).bind fun c=>(ly c).m)
def nK(a:Msg)(b:ByteArray):PT 0 (List Fld):=vw .go<|lc (Ab [(3,.ptr (1,3) 0 0),(8,vL Ap a.fields)] [(Jf b)]) ((sh a.fields).bind fun c=>(oM b c).m)
def kr(a:Msg)(b:ByteArray):PT 0 (List Fld):=vw .go<|bF (decide (b=(⟨#[]⟩:ByteArray)))<|lc (Ab [(2,.ptr (1,2) 0 0),(3,.ptr (1,3) 0 0)] [((1,2),⟨0,true,49,5,[vS a.name,vL Ap a.fields,vL AY a.reserved,vL AB a.gone,vL AJ a.notes]⟩),(Jf b)]) ((nK a b).m)
def Zj1(a:Msg)(b:ByteArray):Option (List Fld):=(kr a b).m
theorem rm(c:Msg)(a:ByteArray):KC Tryz.prog 53 [.agg ((AA c).map .d),vS a] (Zj1 c a) i1:=Av Tryz.func53 Tryz.ntmps53 Aa [.tmp 4] fun C co y hm f b=>Ak co Aa Ad 2 (kr c a) (Ae [2,3] D7) nl (fun _ h=>h) hm b fun r g=>fun _ hm b=>sq (rg (Bv co Aa 2 (nK c a) (Ae [3,8] DN) hm b fun r g=>fun _ hm b=>GW co hm 91 [vL Ap c.fields] [(1,9)] ([((1,9),⟨0,false,0,0,[]⟩)]++[]) (fun z=>.ref (1,9) 1 0 z.length) (fun z=>[((1,9),⟨1,true,55,16,Af Ap z⟩)]) [] (fun z=>trivial) (trivial) (fun z e r g=>DA (ZRN c.fields) e co g [((1,9),⟨0,false,0,0,[]⟩)] [] [((1,9),⟨1,true,55,16,Af Ap z⟩)] (AS []) (fun k i m=>trivial) (fun H=>⟨(fun h=>by cases h),by kernel_rfl,trivial⟩) (fun H=>⟨fun _=>⟨rfl,Bm (A1 _ _) (by kernel_rfl)⟩,by kernel_rfl,trivial⟩)) fun d hm=>Bv co Aa 1 (oM a d) (Ae [9,10] [((1,3),false),((1,9),true)]) hm b fun r g=>fun _ hm b=>GW co hm 90 [.ref (1,9) 0 0 d.length,.fn (.func 92) [] [.ptr (1,3) 0 0]] [(1,9),(1,3)] ([((1,9),⟨0,true,55,16,Af Ap d⟩)]++[(Jf a)]) (fun z=>.ref (1,9) 0 0 z.length) (fun z=>[((1,9),⟨0,true,55,16,Af Ap z⟩)]) [] (fun z=>trivial) (trivial) (fun z e r g=>DA (ZTa d (fun(z0:Fld)=>ZG z0 a)) e co g [((1,9),⟨0,true,55,16,Af Ap d⟩)] [(Jf a)] [((1,9),⟨0,true,55,16,Af Ap z⟩)] (AS [(1,.fn (.func 92) [] [.ptr (r.κ (1,3)) (r.γ (1,3)+0) 0])]) (fun k i m=>(fun z0 y e=>EN (ZRI z0 a) e co g [(Jf a)] [((1,9),⟨0,true,55,16,Af Ap d⟩)] i (by simp) (fun _=>.top) (fun _ _=>trivial) (fun l H=>⟨fun _=>⟨rfl,by kernel_rfl⟩,by kernel_rfl,trivial⟩))) (fun H=>⟨fun _=>⟨rfl,Bm (A1 _ _) (by kernel_rfl)⟩,by kernel_rfl,trivial⟩) (fun H=>⟨fun _=>⟨rfl,Bm (A1 _ _) (by kernel_rfl)⟩,by kernel_rfl,trivial⟩)) fun j hm=>Ba co Aa (ly j) (Ae [4] [((1,9),true)]) hm b fun r g=>fun _ hm b=>Ao co Aa Ad (og j) hm b fun r g=>id))
abbrev ZTf:Bool→AV:=fun y=>vB y
def Zg9(a:Enm)(b:Int):Option (Bool):=none
theorem ZOf(a:Enm)(b:Int):KC Tryz.prog 199 [.agg ((AO a).map .d),.d (.int .u64 b)] (Zg9 a b) ZTf:=⟨fun _ _ _ h=>(by cases h),by intro r;kernel_rfl,by intro r y;kernel_rfl⟩
abbrev o2:Int→AV:=fun y=>vI y
def jU(c:Scm)(a:Typ)(b:Val):PT 0 (Int):=vw .go<|vw .go<|vw .go<|clg (!(!decide (b.kind=a.kind))) (ZN4 b) fun d=>bF ((!decide (b.kind=a.kind))||d)<|vw .go<|vz (A3 b.text.size)<|bF (decide ((4096:Int)<(b.text.size:Int)))<|vw .go<|vw .go<|clg (decide (a.kind=(7:Int))) (lu b.text) fun e=>bF (decide (a.kind=(7:Int))&&(!e))<|vw .go<|vw .go<|cl (nJ a.kind b) fun f=>bF (!f)<|vw .go<|vw .go<|cl (ZMQ c a.name) fun g=>vw .go<|vw .go<|vw .go<|vw .go<|clg (decide (a.kind=(9:Int))) (ZOf g.1 b.bits) fun h=>bF (decide (a.kind=(9:Int))&&(!h))<|lr o2 (fun _=>[]) 0
def ZkX(a:Scm)(b:Typ)(c:Val):Option (Int):=(jU a b c).m
theorem ZOg(a:Scm)(b:Typ)(c:Val):KC Tryz.prog 177 [.agg ((AF a).map .d),.agg ((G7 b).map .d),.agg ((Ag c).map .d)] (ZkX a b c) o2:=Av Tryz.func177 Tryz.ntmps177 Aa [.tmp 6] fun C co y hm d e=>Ao co Aa Ad (jU a b c) hm e fun r g=>fun f=>fun h=>fun i=>fun j=>fun k=>id
abbrev p9:Bool→AV:=fun y=>vB y
def wM(b:Scm)(a:Typ)(c:Val):PT 0 (Bool):=vw .go<|bF (decide (a.kind=(10:Int)))<|vw .go<|cl (Lp a.kind) fun d=>bF (!d)<|vw .go<|bF (decide (a.kind=(9:Int)))<|vw .go<|vw .go<|vw .go<|cl (ZOg b a c) fun e=>lr p9 (fun _=>[]) (decide (e=(0:Int)))
def ZjG(a:Scm)(b:Typ)(c:Val):Option (Bool):=(wM a b c).m
theorem ZNS(a:Scm)(b:Typ)(c:Val):KC Tryz.prog 144 [.agg ((AF a).map .d),.agg ((G7 b).map .d),.agg ((Ag c).map .d)] (ZjG a b c) p9:=Av Tryz.func144 Tryz.ntmps144 Aa [.tmp 6] fun C co y hm d e=>Ao co Aa Ad (wM a b c) hm e fun r g=>fun f=>fun h=>id
abbrev jb:Int→AV:=fun y=>vI y
def kV(c:Acs)(a:Typ)(b:Val):PT 0 (Int):=vw .go<|vw .go<|vw .go<|clg (decide (a.kind=(9:Int))) (nJ a.kind b) fun d=>bF (decide (a.kind=(9:Int))&&d)<|vw .go<|vw .go<|vw .go<|cl (ZNS c.s a b) fun e=>bF (!e)<|lr jb (fun _=>[]) 0
def Zeq(a:Acs)(b:Typ)(c:Val):Option (Int):=(kV a b c).m
theorem ZR3(a:Acs)(b:Typ)(c:Val):KC Tryz.prog 89 [.agg ((Gj a).map .d),.agg ((G7 b).map .d),.agg ((Ag c).map .d)] (Zeq a b c) jb:=Av Tryz.func89 Tryz.ntmps89 Aa [.tmp 6] fun C co y hm d e=>Ao co Aa Ad (kV a b c) hm e fun r g=>fun f=>fun h=>id
abbrev iZ:Int→AV:=fun y=>vI y
def oK(b:Acs)(a:Fld)(c:Val):PT 0 (Int):=vw .go<|bF (decide (a.card=(4:Int)))<|bF (decide (a.card=(5:Int)))<|vw .go<|vw .go<|vw .go<|cl (ZR3 b a.type c) fun d=>lr iZ (fun _=>[]) d
def Zei(a:Acs)(b:Fld)(c:Val):Option (Int):=(oK a b c).m
theorem ZR7(a:Acs)(b:Fld)(c:Val):KC Tryz.prog 52 [.agg ((Gj a).map .d),.agg ((Ap b).map .d),.agg ((Ag c).map .d)] (Zei a b c) iZ:=Av Tryz.func52 Tryz.ntmps52 Aa [.tmp 6] fun C co y hm d e=>Ao co Aa Ad (oK a b c) hm e fun r g=>fun f=>id
abbrev yx:Bool→AV:=fun y=>vB y
def Zg7(a:Val):Option (Bool):=none
theorem ZTc(a:Val):KC Tryz.prog 93 [.agg ((Ag a).map .d)] (Zg7 a) yx:=⟨fun _ _ _ h=>(by cases h),by intro r;kernel_rfl,by intro r y;kernel_rfl⟩
abbrev i2:Bool→AV:=fun y=>vB y
def nR(b:Fld)(a:Val):PT 0 (Bool):=vw .go<|vw .go<|clg (decide (b.card=(3:Int))) (ZTc a) fun c=>vw .go<|vw .go<|vy ((!(decide (b.card=(3:Int))&&c))&&decide (a.kind=(11:Int))) (Ah a.list)<|vw .go<|vw .go<|vy ((!((decide (b.card=(3:Int))&&c)||(decide (a.kind=(11:Int))&&decide ((a.list.length:Int)=(0:Int)))))&&decide (a.kind=(12:Int))) (Ah a.pairs)<|lr i2 (fun _=>[]) (((decide (b.card=(3:Int))&&c)||(decide (a.kind=(11:Int))&&decide ((a.list.length:Int)=(0:Int))))||(decide (a.kind=(12:Int))&&decide ((a.pairs.length:Int)=(0:Int))))
def Zf1(a:Fld)(b:Val):Option (Bool):=(nR a b).m
theorem ZRW(a:Fld)(b:Val):KC Tryz.prog 54 [.agg ((Ap a).map .d),.agg ((Ag b).map .d)] (Zf1 a b) i2:=Av Tryz.func54 Tryz.ntmps54 Aa [.tmp 4] fun C co y hm c d=>Ao co Aa Ad (nR a b) hm d fun r g=>fun e=>id
abbrev Xk:List (Ac×Bool):=[((1,9),false),((1,10),false),((1,13),false),((1,16),false)]
abbrev Om(a:Val):Ac×Blk:=((1,9),⟨0,true,35,7,[vI a.kind,.d (.int .u64 a.bits),vS a.text,vL Aq a.list,vL Au a.pairs,vL Aj a.slots,vL Az a.raws]⟩)
abbrev OM:Ac×Blk:=((1,10),⟨0,true,35,7,[vI 0,.d (.int .u64 0),vS ⟨#[]⟩,.e0,.e0,.e0,.e0]⟩)
abbrev NX(a:Acs×Fld×Int):Ac×Blk:=((1,13),⟨0,true,55,16,[vI a.2.1.num,vS a.2.1.name,vI a.2.1.card,vI a.2.1.key,vI a.2.1.type.kind,vS a.2.1.type.name,vS a.2.1.union,vB a.2.1.hasDefault,vI a.2.1.dflt.kind,.d (.int .u64 a.2.1.dflt.bits),vS a.2.1.dflt.text,vL Aq a.2.1.dflt.list,vL Au a.2.1.dflt.pairs,vL Aj a.2.1.dflt.slots,vL Az a.2.1.dflt.raws,vL AJ a.2.1.notes]⟩)
abbrev qF(a:Val):Ac×Blk:=((1,16),⟨0,true,35,7,[vI a.kind,.d (.int .u64 a.bits),vS a.text,vL Aq a.list,vL Au a.pairs,vL Aj a.slots,vL Az a.raws]⟩)
abbrev Nd:Val×Int→AV:=fun y=>.tup [.agg ((Ag y.1).map .d),vI y.2]
def mz(h:Int)(i:Val)(j:Acs×Fld×Int)(d:List Fld):Nat×Int×Int×ByteArray×List Val×List Pr×List Slt×List Raw→St:=fun(v5,c6,e,f,g,a,b,c)=>Ab [(3,vI h),(9,.ptr (1,9) 0 0),(10,.ptr (1,10) 0 0),(13,.ptr (1,13) 0 0),(16,.ptr (1,16) 0 0),(46,vL Ap d),(47,vN d.length),(48,vN v5)] [(Om i),OM,(NX j),((1,16),⟨0,true,35,7,[vI c6,.d (.int .u64 e),vS f,vL Aq g,vL Au a,vL Aj b,vL Az c]⟩)]
def lw(h:Int)(i:Val)(j:Acs×Fld×Int):Int×Int×ByteArray×List Val×List Pr×List Slt×List Raw→Nat×St:=fun(a,b,c,d,e,f,g)=>(0,Ab [(3,vI h),(9,.ptr (1,9) 0 0),(10,.ptr (1,10) 0 0),(13,.ptr (1,13) 0 0),(16,.ptr (1,16) 0 0)] [(Om i),OM,(NX j),((1,16),⟨0,true,35,7,[vI a,.d (.int .u64 b),vS c,vL Aq d,vL Au e,vL Aj f,vL Az g]⟩)])
def ka(j:Int)(k:Val)(l:Acs×Fld×Int)(f:List Fld)(v5:Nat)(c6:Int)(g:Int)(h:ByteArray)(i:List Val)(b:List Pr)(c:List Slt)(d:List Raw):PT 0 (Lv (Nat×Int×Int×ByteArray×List Val×List Pr×List Slt×List Raw) (Int×Int×ByteArray×List Val×List Pr×List Slt×List Raw) (Val×Int)):=br (decide ((v5:Int)<(f.length:Int))) (ix f v5 fun e=>vw .go<|vw .go<|vw .go<|cl (WT (.mk c6 g h i b c d:Val) e.num) fun a=>vw .go<|vs (wa v5 1)<|ln (mz j k l f) (v5+1,a.kind,a.bits,a.text,a.list,a.pairs,a.slots,a.raws)) (Al (lw j k l) (c6,g,h,i,b,c,d))
def oX(g:Int)(h:Val)(i:Acs×Fld×Int)(j:List Fld):Nat×Int×Int×ByteArray×List Val×List Pr×List Slt×List Raw→Option (Lv (Nat×Int×Int×ByteArray×List Val×List Pr×List Slt×List Raw) (Int×Int×ByteArray×List Val×List Pr×List Slt×List Raw) (Val×Int)):=fun(v5,c6,d,e,f,a,b,c)=>(ka g h i j v5 c6 d e f a b c).m
def kQ(k:Int)(j:Val)(l:Acs×Fld×Int)(a:Int)(b:Int)(c:ByteArray)(d:List Val)(e:List Pr)(f:List Slt)(g:List Raw):PT 0 (Val×Int):=vw .go<|vw .go<|cl (ZRW l.2.1 j) fun h=>br (!h) (vw .go<|vw .go<|cl (o7 f (.mk k j:Slt)) fun i=>vw .go<|vw .go<|vw .go<|lr Nd (fun _=>[]) ((.mk a b c d e i g:Val),0)) (vw .go<|vw .go<|lr Nd (fun _=>[]) ((.mk a b c d e f g:Val),0))
def lH(k:Int)(l:Val)(b:Acs×Fld×Int)(a:Val):PT 0 (Val×Int):=vw .go<|vw .go<|cl (rm b.1.m b.2.1.union) fun c=>vz (Ah c)<|lc (Ab [(3,vI k),(9,.ptr (1,9) 0 0),(10,.ptr (1,10) 0 0),(13,.ptr (1,13) 0 0),(16,.ptr (1,16) 0 0),(46,vL Ap c),(47,vN c.length),(48,vI 0)] [(Om l),OM,(NX b),(qF a)]) ((Am (oX k l b c) Ai (0,a.kind,a.bits,a.text,a.list,a.pairs,a.slots,a.raws)).bind (Sum.elim (fun(d,e,f,g,h,i,j)=>(kQ k l b d e f g h i j).m) some))
def mL(e:Scm)(f:ByteArray)(g:Val)(b:Int)(c:Val):PT 0 (Val×Int):=vw .go<|cl (qo e f b) fun a=>vw .go<|vw .go<|bF (!decide (a.2.2=(0:Int)))<|vw .go<|vw .go<|vw .go<|cl (ZR7 a.1 a.2.1 c) fun h=>bF (!decide (h=(0:Int)))<|vw .go<|cl (WT g b) fun d=>vw .go<|lc (Ab [(3,vI b),(9,.ptr (1,9) 0 0),(10,.ptr (1,10) 0 0),(12,.ptr (1,12) 0 0),(13,.ptr (1,13) 0 0),(16,.ptr (1,16) 0 0)] [(Om c),OM,((1,12),⟨0,true,77,8,[vS a.1.m.name,vL Ap a.1.m.fields,vL AY a.1.m.reserved,vL AB a.1.m.gone,vL AJ a.1.m.notes,vL AA a.1.s.messages,vL AO a.1.s.enums,vL AU a.1.s.services]⟩),(NX a),(qF d)]) ((lH b c a d).m)
def Zjm(a:Scm)(b:ByteArray)(c:Val)(d:Int)(e:Val):Option (Val×Int):=(mL a b c d e).m
theorem ZDw{C:Cx}(co:CO C 0)(a:Int)(b:Val)(c:Acs×Fld×Int)(h:List Fld):KL Tryz.prog (AG tl) 69 C (pa [0,0,1,0,1,1,1,1,1] (AD Tryz.f22)) [.cell 10 35,.tmp 11] 0 (mz a b c h) (lw a b c) Nd (fun _=>[]) (oX a b c h):=fun(v5,c6,j,k,l,d,e,f) _ hm Q i o n=>AC co Aa Ad (ka a b c h v5 c6 j k l d e f) (Ae [3,9,10,13,16,46,47,48] Xk) (Ae [3,9,10,13,16] Xk) o hm n fun r g=>⟨fun m=>fun p=>id,id⟩
theorem pU(m:Scm)(n:ByteArray)(o:Val)(b:Int)(c:Val):KC Tryz.prog 22 [.agg ((AF m).map .d),vS n,.agg ((Ag o).map .d),vI b,.agg ((Ag c).map .d)] (Zjm m n o b c) Nd:=Av Tryz.func22 Tryz.ntmps22 Aa [.cell 10 35,.tmp 11] fun C co y hm q a=>Ak co Aa Ad 5 (mL m n o b c) (Ae [3,9,10,12,13,16] [((1,9),false),((1,10),false),((1,12),false),((1,13),false),((1,16),false)]) nl (fun _ h=>h) hm a fun r g=>fun p=>fun w=>fun u=>fun _ hm a=>sq (Ak co Aa Ad 1 (lH b c p u) (Ae [3,9,10,13,16,46,47,48] Xk) nl (fun _ h=>h) hm a fun r g=>fun v=>fun _ hm a=>bk 0 (lo (AL (ZDw co b c p v) (fun _ h=>h) hm a (fun(d,e,f,i,j,k,l) hm=>Ao co Aa Ad (kQ b c p d e f i j k l) hm a fun r g=>fun s=>⟨fun t=>id,id⟩))))
abbrev i3:Bool→AV:=fun y=>vB y
def yy(a:Fld→Option Bool):Cl:=fun no l H θ=>(∀(z0:Fld) y,a z0=some y→CK Tryz.prog l no H (θ 1) [.agg ((Ap z0).map .d)] (vB y))
def nk(b:List Fld)(a:Fld→Option Bool):PT 0 (Bool):=cs Tryz.prog 94 [vL Ap b,.fn (.yield 1) [] []] [] [] (rQ b a) (fun y=>vI y) fun c=>lr i3 (fun _=>[]) (decide ((0:Int)≤c))
def rU(b:List Fld)(a:Fld→Option Bool):Option (Bool):=(nk b a).m
theorem ZRB(b:List Fld)(a:Fld→Option Bool):KO Tryz.prog 55 0 [vL Ap b,.fn (.yield 1) [] []] [] (yy a) (rU b a) i3 (fun _=>[]):=BG Tryz.func55 Tryz.ntmps55 Aa [.tmp 4] 0 (fun C co e y hm c d=>Ao co Aa Ad (nk b a) hm d fun r g=>⟨fun y hy=>CZ (ZSg b a) hy co g [] [] (AS [(1,r.θ 1)]) (fun i j f=>(fun z0 y h=>dK co g [] f (e z0 y h))) (fun H=>trivial),fun k=>id⟩)
abbrev i4:Bool→AV:=fun y=>vB y
@[reducible] def ji(w0:Slt):Bool→List Blk:=fun y=>[⟨0,true,63,8,[vI w0.num,vI w0.val.kind,.d (.int .u64 w0.val.bits),vS w0.val.text,vL Aq w0.val.list,vL Au w0.val.pairs,vL Aj w0.val.slots,vL Az w0.val.raws]⟩]
def kj(a:Fld)(w0:Slt):PT 1 (Bool):=vw .go<|vw .go<|lr i4 (ji w0) (decide (a.num=w0.num))
def Zn(a:Fld)(w0:Slt):Option (Bool):=(kj a w0).m
theorem ZR9(a:Fld)(w0:Slt):KO Tryz.prog 56 1 [.agg ((Ap a).map .d),.ptr (0,0) 0 0] [⟨0,true,63,8,[vI w0.num,vI w0.val.kind,.d (.int .u64 w0.val.bits),vS w0.val.text,vL Aq w0.val.list,vL Au w0.val.pairs,vL Aj w0.val.slots,vL Az w0.val.raws]⟩] (fun _ _ _ _=>True) (Zn a w0) i4 (ji w0):=BG Tryz.func56 Tryz.ntmps56 Aa [.tmp 3] 1 (fun C co d y hm b c=>Ao co Aa Ad (kj a w0) hm c fun r g=>id) (hB:=fun y=>⟨.inr (by kernel_rfl),rfl,trivial⟩)
end Go.Proofs.YtchkcemlglpobaaGreat
