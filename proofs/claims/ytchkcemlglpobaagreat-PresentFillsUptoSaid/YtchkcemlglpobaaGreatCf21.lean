import Derived.Test.YtchkcemlglpobaaGreatCf20
import Derived.Test.YtchkcemlglpobaaGreatCf00
namespace Go.Proofs.YtchkcemlglpobaaGreat
set_option maxRecDepth 100000
set_option linter.all false
open Go Go.Eng
abbrev jT:Val→AV:=fun y=>.agg ((Ag y).map .d)
def pj(a:Fld):PT 0 (Val):=vw .go<|bT a.hasDefault<|vw .go<|vw .go<|lr jT (fun _=>[]) a.dflt
def Zhm(a:Fld):Option (Val):=(pj a).m
theorem ZUc(a:Fld):KC Tryz.prog 48 [.agg ((Ap a).map .d)] (Zhm a) jT:=Au Tryz.func48 Tryz.ntmps48 Aa [.cell 2 35] fun C co y hm b c=>Ao co Aa Ac (pj a) hm c fun r g=>id
abbrev jD:Val×Int→AV:=fun y=>.tup [.agg ((Ag y.1).map .d),vI y.2]
def n2(c:Scm)(d:ByteArray)(e:Val)(a:Int):PT 0 (Val×Int):=vw .go<|cl (rE c d a) fun b=>vw .go<|vw .go<|bF (!decide (b.2.2=(0:Int)))<|vw .go<|cl (tH e.slots a) fun f=>bF (decide ((0:Int)≤f))<|vw .go<|cl (ZUc b.2.1) fun g=>vw .go<|lr jD (fun _=>[]) (g,0)
def ZiR(a:Scm)(b:ByteArray)(c:Val)(d:Int):Option (Val×Int):=(n2 a b c d).m
theorem ZSR(a:Scm)(b:ByteArray)(c:Val)(d:Int):KC Tryz.prog 18 [.agg ((As a).map .d),vS b,.agg ((Ag c).map .d),vI d] (ZiR a b c d) jD:=Au Tryz.func18 Tryz.ntmps18 Aa [.cell 8 35,.tmp 9] fun C co y hm e f=>Ao co Aa Ac (n2 a b c d) hm f fun r g=>fun h=>fun i=>fun j=>id
abbrev jZ:Bool→AV:=fun y=>vB y
@[reducible] def kg(w0:Int):Bool→List Blk:=fun y=>[⟨0,true,3,1,[vI w0]⟩]
def nV(a:Slt)(w0:Int):PT 1 (Bool):=vw .go<|vw .go<|lr jZ (kg w0) (decide (a.num=w0))
def ZO(a:Slt)(w0:Int):Option (Bool):=(nV a w0).m
theorem ZUz(a:Slt)(w0:Int):KO Tryz.prog 58 1 [.agg ((Cp a).map .d),.ptr (0,0) 0 0] [⟨0,true,3,1,[vI w0]⟩] (fun _ _ _ _=>True) (ZO a w0) jZ (kg w0):=BB Tryz.func58 Tryz.ntmps58 Aa [.tmp 3] 1 (fun C co d y hm b c=>Ao co Aa Ac (nV a w0) hm c fun r g=>id) (hB:=fun y=>⟨.inr (by kernel_rfl),rfl,trivial⟩)
abbrev Jk(a:Int):Ad×Blk:=((1,3),⟨0,true,3,1,[vI a]⟩)
abbrev PA:Ad×Blk:=((1,4),⟨0,true,35,7,[vI 0,.d (.int .u64 0),vS ⟨#[]⟩,.e0,.e0,.e0,.e0]⟩)
abbrev Xp(a:Val):Ad×Blk:=((1,2),⟨0,true,35,7,[vI a.kind,.d (.int .u64 a.bits),vS a.text,vL Aq a.list,vL Ar a.pairs,vL Ai a.slots,vL Ay a.raws]⟩)
abbrev jG:Val→AV:=fun y=>.agg ((Ag y).map .d)
def ns(a:Val)(b:List Slt):PT 0 (Val):=vw .go<|vw .go<|vz (fr b)<|lr jG (fun _=>[]) (.mk a.kind a.bits a.text a.list a.pairs b a.raws:Val)
def qk(a:Val)(b:List Slt):PT 0 (Val):=vw .go<|vz (fl b)<|lc (Ab [(2,.ptr (1,2) 0 0),(4,.ptr (1,4) 0 0)] [((1,2),⟨0,true,35,7,[vI a.kind,.d (.int .u64 a.bits),vS a.text,vL Aq a.list,vL Ar a.pairs,.ref (1,7) 0 0 b.length,vL Ay a.raws]⟩),PA,((1,7),⟨0,true,63,8,Af Ai b⟩)]) ((ns a b).m)
def mG(b:Val)(c:Int)(a:List Slt):PT 0 (Val):=vz (fl a)<|lc (Ab [(2,.ptr (1,2) 0 0),(4,.ptr (1,4) 0 0),(7,.ref (1,7) 0 0 a.length),(8,.fn (.func 58) [] [.ptr (1,3) 0 0])] [(Xp b),(Jk c),PA,((1,7),⟨0,true,63,8,Af Ai a⟩)]) ((L2 a (fun(z0:Slt)=>ZO z0 c)).bind fun d=>(qk b d).m)
def qJ(a:Val)(b:Int):PT 0 (Val):=vw .go<|lc (Ab [(2,.ptr (1,2) 0 0),(3,.ptr (1,3) 0 0),(4,.ptr (1,4) 0 0),(6,vL Ai a.slots)] [(Xp a),(Jk b),PA]) ((It a.slots).bind fun c=>(mG a b c).m)
def mK(a:Val)(b:Int):PT 0 (Val):=lc (Ab [(2,.ptr (1,2) 0 0),(3,.ptr (1,3) 0 0),(4,.ptr (1,4) 0 0)] [(Xp a),(Jk b),PA]) ((qJ a b).m)
def ZgK(a:Val)(b:Int):Option (Val):=(mK a b).m
theorem XB(c:Val)(a:Int):KC Tryz.prog 24 [.agg ((Ag c).map .d),vI a] (ZgK c a) jG:=Au Tryz.func24 Tryz.ntmps24 Aa [.cell 4 35] fun C co y hm f b=>Ak co Aa Ac 1 (mK c a) (Ae [2,3,4] [((1,2),false),((1,3),false),((1,4),false)]) nl (fun _ h=>h) hm b fun r g=>fun _ hm b=>sq (rg (Bs co Aa 2 (qJ c a) (Ae [2,3,4,6] [((1,2),false),((1,3),false),((1,4),false)]) hm b fun r g=>fun _ hm b=>Hl co hm 57 [vL Ai c.slots] [(1,7)] ([((1,7),⟨0,false,0,0,[]⟩)]++[]) (fun z=>.ref (1,7) 1 0 z.length) (fun z=>[((1,7),⟨1,true,63,8,Af Ai z⟩)]) [] (fun z=>trivial) (trivial) (fun z e r g=>DB (OO c.slots) e co g [((1,7),⟨0,false,0,0,[]⟩)] [] [((1,7),⟨1,true,63,8,Af Ai z⟩)] (AR []) (fun k i m=>trivial) (fun H=>⟨(fun h=>by cases h),by kernel_rfl,trivial⟩) (fun H=>⟨fun _=>⟨rfl,Bl (AZ _ _) (by kernel_rfl)⟩,by kernel_rfl,trivial⟩)) fun d hm=>Bs co Aa 1 (mG c a d) (Ae [2,4,7,8] [((1,2),false),((1,3),false),((1,4),false),((1,7),true)]) hm b fun r g=>fun _ hm b=>Hl co hm 41 [.ref (1,7) 0 0 d.length,.fn (.func 58) [] [.ptr (1,3) 0 0]] [(1,7),(1,3)] ([((1,7),⟨0,true,63,8,Af Ai d⟩)]++[(Jk a)]) (fun z=>.ref (1,7) 0 0 z.length) (fun z=>[((1,7),⟨0,true,63,8,Af Ai z⟩)]) [] (fun z=>trivial) (trivial) (fun z e r g=>DB (sl d (fun(z0:Slt)=>ZO z0 a)) e co g [((1,7),⟨0,true,63,8,Af Ai d⟩)] [(Jk a)] [((1,7),⟨0,true,63,8,Af Ai z⟩)] (AR [(1,.fn (.func 58) [] [.ptr (r.κ (1,3)) (r.γ (1,3)+0) 0])]) (fun k i m=>(fun z0 y e=>EO (ZUz z0 a) e co g [(Jk a)] [((1,7),⟨0,true,63,8,Af Ai d⟩)] i (by simp) (fun _=>.top) (fun _ _=>trivial) (fun l H=>⟨fun _=>⟨rfl,by kernel_rfl⟩,by kernel_rfl,trivial⟩))) (fun H=>⟨fun _=>⟨rfl,Bl (AZ _ _) (by kernel_rfl)⟩,by kernel_rfl,trivial⟩) (fun H=>⟨fun _=>⟨rfl,Bl (AZ _ _) (by kernel_rfl)⟩,by kernel_rfl,trivial⟩)) fun j hm=>A9 co Aa (qk c j) (Ae [2,4] [((1,2),false),((1,4),false),((1,7),true)]) hm b fun r g=>fun _ hm b=>Ao co Aa Ac (ns c j) hm b fun r g=>id))
abbrev s5:Bool→AV:=fun y=>vB y
def kV(a:Val):PT 0 (Bool):=vw .go<|vz (Ah a.list)<|vw .go<|vz (Ah a.pairs)<|vs (wa a.list.length a.pairs.length)<|vw .go<|vz (Ah a.slots)<|vs (wa (a.list.length+a.pairs.length) a.slots.length)<|vw .go<|vz (Ah a.raws)<|vs (wa ((a.list.length+a.pairs.length)+a.slots.length) a.raws.length)<|bF (decide ((0:Int)<((((a.list.length+a.pairs.length)+a.slots.length)+a.raws.length:Nat):Int)))<|vw .go<|cl (po a.kind) fun b=>bT b<|vw .go<|lr s5 (fun _=>[]) (decide (a.bits=(0:Int)))
def ZiS(a:Val):Option (Bool):=(kV a).m
theorem ZQk(a:Val):KC Tryz.prog 145 [.agg ((Ag a).map .d)] (ZiS a) s5:=Au Tryz.func145 Tryz.ntmps145 Aa [.tmp 2] fun C co y hm b c=>Ao co Aa Ac (kV a) hm c fun r g=>fun d=>id
abbrev q9:Bool→AV:=fun y=>vB y
def yE(a:Int):PT 0 (Bool):=bF (decide (a=(1:Int)))<|bF (decide (a=(2:Int)))<|bF (decide (a=(9:Int)))<|bF (decide (a=(4:Int)))<|lr q9 (fun _=>[]) true
def ZgG(a:Int)(b:Int):Option (Bool):=(yE a).m
theorem ZOt(a:Int)(c:Int):KC Tryz.prog 170 [vI a,.d (.int .u64 c)] (ZgG a c) q9:=Au Tryz.func170 Tryz.ntmps170 Aa [.tmp 4] fun C co y hm b d=>Ao co Aa Ac (yE a) hm d fun r g=>id
abbrev th:Bool→AV:=fun y=>vB y
def yn(b:ByteArray)(a:ByteArray):PT 0 (Bool):=vz (A7 b.size)<|vz (A7 a.size)<|vy (decide ((a.size:Int)≤(b.size:Int))) (A7 a.size)<|zJ (decide ((a.size:Int)≤(b.size:Int))) b .no (.nt a.size) fun s1=>lr th (fun _=>[]) (decide ((a.size:Int)≤(b.size:Int))&&decide (s1=a))
def Zer(a:ByteArray)(b:ByteArray):Option (Bool):=(yn a b).m
theorem ZQD(a:ByteArray)(b:ByteArray):KC Tryz.prog 234 [vS a,vS b] (Zer a b) th:=Au Tryz.func234 Tryz.ntmps234 Aa [.tmp 4] fun C co y hm c d=>Ao co Aa Ac (yn a b) hm d fun r g=>fun s1=>id
abbrev ro:Bool→AV:=fun y=>vB y
def xU(a:ByteArray)(b:ByteArray):PT 0 (Bool):=cl (ZQD a b) fun c=>lr ro (fun _=>[]) c
def Zfo(a:ByteArray)(b:ByteArray):Option (Bool):=(xU a b).m
theorem ZQC(a:ByteArray)(b:ByteArray):KC Tryz.prog 225 [vS a,vS b] (Zfo a b) ro:=Au Tryz.func225 Tryz.ntmps225 Aa [.tmp 4] fun C co y hm c d=>Ao co Aa Ac (xU a b) hm d fun r g=>fun e=>id
abbrev rP:Bool→AV:=fun y=>vB y
def lF(b:ByteArray)(c:Int)(a:Int):PT 0 (Bool):=zJ (decide (a=(65533:Int))) b (.it c) .no fun s1=>clg (decide (a=(65533:Int))) (ZQC s1 (⟨#[239,191,189]⟩)) fun d=>lr rP (fun _=>[]) (decide (a=(65533:Int))&&(!d))
def Zlx(a:ByteArray)(b:Int)(c:Int):Option (Bool):=(lF a b c).m
theorem ZOV(a:ByteArray)(b:Int)(c:Int):KC Tryz.prog 213 [vS a,vI b,.d (.int .i32 c)] (Zlx a b c) rP:=Au Tryz.func213 Tryz.ntmps213 Aa [.tmp 6] fun C co y hm d e=>Ao co Aa Ac (lF a b c) hm e fun r g=>fun s1=>fun f=>id
abbrev Xj:Int→AV:=fun y=>vI y
def kQ(a:ByteArray):Nat→St:=fun b=>Ab [(0,vS a),(6,.ptr (1,6) 0 0)] [((1,6),⟨0,true,.s a b,0,[]⟩)]
def x6:Unit→Nat×St:=fun _=>(0,Ab [] [])
def yP(a:ByteArray)(b:Nat):PT 0 (Lv (Nat) (Unit) (Int)):=br (decide (b<a.size)) (vw .go<|cl (ZOV a (b:Int) (Nm a b)) fun c=>bF c<|ln (kQ a) (b+E3 a b)) (vw .go<|Al (x6) ())
def yJ(a:ByteArray):Nat→Option (Lv (Nat) (Unit) (Int)):=fun b=>(yP a b).m
def lw:PT 0 (Int):=lr Xj (fun _=>[]) (-1)
def yt(a:ByteArray):PT 0 (Int):=lc (Ab [(0,vS a),(6,.ptr (1,6) 0 0)] [((1,6),⟨0,true,.s a 0,0,[]⟩)]) ((Am (yJ a) Aj 0).bind (Sum.elim (fun _=>(lw).m) some))
def kY(a:ByteArray):PT 0 (Int):=lc (Ab [(0,vS a)] []) ((yt a).m)
def Zra(a:ByteArray):Option (Int):=(kY a).m
theorem Zyj{C:Cx}(co:CO C 0)(a:ByteArray):KL Tryz.prog (AH tl) 16 C (pa [0,0,1,0,1] (AD Tryz.f195)) [.tmp 2] 0 (kQ a) (x6) Xj (fun _=>[]) (yJ a):=fun e _ hm Q b d c=>AA co Aa Ac (yP a e) (Ae [0,6] [((1,6),false)]) nl d hm c fun r g=>⟨fun f=>id,id⟩
theorem ZOf(b:ByteArray):KC Tryz.prog 195 [vS b] (Zra b) Xj:=Au Tryz.func195 Tryz.ntmps195 Aa [.tmp 2] fun C co y hm c a=>Ak co Aa Ac 1 (kY b) (AQ [0]) nl (fun _ h=>h) hm a fun r g=>fun _ hm a=>sq (Ak co Aa Ac 1 (yt b) (Ae [0,6] [((1,6),false)]) nl (fun _ h=>h) hm a fun r g=>fun _ hm a=>bk 0 (lo (AL (Zyj co b) (fun _ h=>h) hm a (fun _ hm=>Ao co Aa Ac (lw) hm a fun r g=>id))))
abbrev sx:Bool→AV:=fun y=>vB y
def yk(a:ByteArray):PT 0 (Bool):=cl (ZOf a) fun b=>lr sx (fun _=>[]) (decide (b<(0:Int)))
def Zlm(a:ByteArray):Option (Bool):=(yk a).m
theorem qI(a:ByteArray):KC Tryz.prog 171 [vS a] (Zlm a) sx:=Au Tryz.func171 Tryz.ntmps171 Aa [.tmp 2] fun C co y hm b c=>Ao co Aa Ac (yk a) hm c fun r g=>fun d=>id
abbrev re:Bool→AV:=fun y=>vB y
def y4(b:Int)(a:Val):PT 0 (Bool):=cl (OH b) fun c=>vw .go<|vw .go<|clg (!((!c)||(!decide (a.kind=b)))) (ZQk a) fun d=>vw .go<|clg (!(((!c)||(!decide (a.kind=b)))||(!d))) (ZOt b a.bits) fun e=>vw .go<|vy (!((((!c)||(!decide (a.kind=b)))||(!d))||(!e))) (A7 a.text.size)<|bF (((((!c)||(!decide (a.kind=b)))||(!d))||(!e))||decide ((4096:Int)<(a.text.size:Int)))<|vw .go<|clg (!(!decide (b=(7:Int)))) (qI a.text) fun f=>lr re (fun _=>[]) ((!decide (b=(7:Int)))||f)
def ZiJ(a:Int)(b:Val):Option (Bool):=(y4 a b).m
theorem mZ(a:Int)(b:Val):KC Tryz.prog 138 [vI a,.agg ((Ag b).map .d)] (ZiJ a b) re:=Au Tryz.func138 Tryz.ntmps138 Aa [.tmp 4] fun C co y hm c d=>Ao co Aa Ac (y4 a b) hm d fun r g=>fun e=>fun f=>fun h=>fun i=>id
abbrev Oy:Ad×Blk:=((1,4),⟨0,true,97,5,[vS ⟨#[]⟩,vB false,.e0,.e0,.e0]⟩)
abbrev Ph:Enm×Bool→AV:=fun y=>.tup [.agg ((AO y.1).map .d),vB y.2]
def tJ(a:Enm→Option Bool):Cl:=fun no l H θ=>(∀(z0:Enm) y,a z0=some y→CJ Tryz.prog l no H (θ 1) [.agg ((AO z0).map .d)] (vB y))
def kW(a:List Enm):Nat→St:=fun b=>Ab [(1,.fn (.yield 1) [] []),(4,.ptr (1,4) 0 0),(9,vL AO a),(10,vN a.length),(11,vN b)] [Oy]
def yX:Unit→Nat×St:=fun _=>(0,Ab [(4,.ptr (1,4) 0 0)] [Oy])
def lT(c:List Enm)(d:Enm→Option Bool)(a:Nat):PT 0 (Lv (Nat) (Unit) (Enm×Bool)):=br (decide ((a:Int)<(c.length:Int))) (ix c a fun b=>vw .go<|vw .go<|cf Tryz.prog 1 [.agg ((AO b).map .d)] (d b) (fun y=>vB y) fun e=>br e (vw .go<|vw .go<|AC Ph (fun _=>[]) (b,true)) (vs (wa a 1)<|ln (kW c) (a+1))) (Al (yX) ())
def k7(b:List Enm)(a:Enm→Option Bool):Nat→Option (Lv (Nat) (Unit) (Enm×Bool)):=fun c=>(lT b a c).m
def yr:PT 0 (Enm×Bool):=vw .go<|vw .go<|lr Ph (fun _=>[]) ((.mk ⟨#[]⟩ false [] [] []:Enm),false)
def lm(a:List Enm)(b:Enm→Option Bool):PT 0 (Enm×Bool):=vz (Ah a)<|lc (Ab [(1,.fn (.yield 1) [] []),(4,.ptr (1,4) 0 0),(9,vL AO a),(10,vN a.length),(11,vI 0)] [Oy]) ((Am (k7 a b) Aj 0).bind (Sum.elim (fun _=>(yr).m) some))
def yZ(b:List Enm)(a:Enm→Option Bool):PT 0 (Enm×Bool):=lc (Ab [(0,vL AO b),(1,.fn (.yield 1) [] []),(4,.ptr (1,4) 0 0)] [Oy]) ((lm b a).m)
def uc(b:List Enm)(a:Enm→Option Bool):Option (Enm×Bool):=(yZ b a).m
theorem Zxz{C:Cx}(co:CO C 0)(b:List Enm)(a:Enm→Option Bool)(f:(tJ a) C.no C.l C.H0 C.θ):KL Tryz.prog (AH tl) 21 C (pa [0,0,1,0,1] (AD Tryz.f173)) [.cell 4 97,.tmp 5] 0 (kW b) (yX) Ph (fun _=>[]) (k7 b a):=fun h _ hm Q c e d=>AA co Aa Ac (lT b a h) (Ae [1,4,9,10,11] Ds) (Ae [4] Ds) e hm d fun r g=>⟨fun i=>⟨⟨fun y hy=>f _ y hy,by intro r;kernel_rfl,by intro r y;kernel_rfl⟩,fun j=>⟨id,id⟩⟩,id⟩
theorem ZQl(c:List Enm)(a:Enm→Option Bool):KO Tryz.prog 173 0 [vL AO c,.fn (.yield 1) [] []] [] (tJ a) (uc c a) Ph (fun _=>[]):=BB Tryz.func173 Tryz.ntmps173 Aa [.cell 4 97,.tmp 5] 0 (fun C co e y hm d b=>Ak co Aa Ac 1 (yZ c a) (Ae [0,1,4] Ds) nl (fun _ h=>h) hm b fun r g=>fun _ hm b=>sq (Ak co Aa Ac 1 (lm c a) (Ae [1,4,9,10,11] Ds) nl (fun _ h=>h) hm b fun r g=>fun _ hm b=>bk 0 (lo (AL (Zxz co c a e) (fun _ h=>h) hm b (fun _ hm=>Ao co Aa Ac (yr) hm b fun r g=>id)))))
abbrev to:Bool→AV:=fun y=>vB y
@[reducible] def sA(w0:ByteArray):Bool→List Blk:=fun y=>[⟨0,true,9,1,[vS w0]⟩]
def k9(a:Enm)(w0:ByteArray):PT 1 (Bool):=vw .go<|vw .go<|lr to (sA w0) (decide (a.name=w0))
def aE(a:Enm)(w0:ByteArray):Option (Bool):=(k9 a w0).m
theorem ZOw(a:Enm)(w0:ByteArray):KO Tryz.prog 174 1 [.agg ((AO a).map .d),.ptr (0,0) 0 0] [⟨0,true,9,1,[vS w0]⟩] (fun _ _ _ _=>True) (aE a w0) to (sA w0):=BB Tryz.func174 Tryz.ntmps174 Aa [.tmp 3] 1 (fun C co d y hm b c=>Ao co Aa Ac (k9 a w0) hm c fun r g=>id) (hB:=fun y=>⟨.inr (by kernel_rfl),rfl,trivial⟩)
abbrev sU:Enm×Bool→AV:=fun y=>.tup [.agg ((AO y.1).map .d),vB y.2]
def ya(a:Scm)(b:ByteArray):PT 0 (Enm×Bool):=vw .go<|cs Tryz.prog 173 [vL AO a.enums,.fn (.func 174) [] [.ptr (1,3) 1 0]] [(1,3)] [((1,3),⟨1,true,9,1,[vS b]⟩)] (uc a.enums (fun(z0:Enm)=>aE z0 b)) (fun y=>.tup [.agg ((AO y.1).map .d),vB y.2]) fun c=>vw .go<|lr sU (fun _=>[]) (c.1,c.2)
def ZlV(a:Scm)(b:ByteArray):Option (Enm×Bool):=(ya a b).m
theorem ZOL(b:Scm)(a:ByteArray):KC Tryz.prog 141 [.agg ((As b).map .d),vS a] (ZlV b a) sU:=Au Tryz.func141 Tryz.ntmps141 Aa [.cell 4 97,.tmp 5] fun C co y hm c d=>Ao co Aa Ac (ya b a) hm d fun r g=>⟨fun y hy=>C3 (ZQl b.enums (fun(z0:Enm)=>aE z0 a)) hy co g [] [((1,3),⟨1,true,9,1,[vS a]⟩)] (AR [(1,.fn (.func 174) [] [.ptr (r.κ (1,3)) (r.γ (1,3)+1) 0])]) (fun h e i=>(fun z0 y f=>EO (ZOw z0 a) f co g [((1,3),⟨1,true,9,1,[vS a]⟩)] [] e (by simp) (fun _=>.top) (fun _ _=>trivial) (fun l H=>⟨fun _=>⟨rfl,by kernel_rfl⟩,by kernel_rfl,trivial⟩))) (fun H=>trivial),fun j=>id⟩
abbrev rM:Bool→AV:=fun y=>vB y
def x2(a:Val):PT 0 (Bool):=vw .go<|vw .go<|vw .go<|vw .go<|vy (!decide (a.kind=(11:Int))) (Ah a.list)<|vw .go<|vw .go<|vy ((!((!decide (a.kind=(11:Int)))&&decide ((0:Int)<(a.list.length:Int))))&&(!decide (a.kind=(12:Int)))) (Ah a.pairs)<|vw .go<|vw .go<|vy ((!(((!decide (a.kind=(11:Int)))&&decide ((0:Int)<(a.list.length:Int)))||((!decide (a.kind=(12:Int)))&&decide ((0:Int)<(a.pairs.length:Int)))))&&(!decide (a.kind=(10:Int)))) (Ah a.slots)<|vw .go<|vy ((!(((!decide (a.kind=(11:Int)))&&decide ((0:Int)<(a.list.length:Int)))||((!decide (a.kind=(12:Int)))&&decide ((0:Int)<(a.pairs.length:Int)))))&&(!decide (a.kind=(10:Int)))) (Ah a.raws)<|vg ((!(((!decide (a.kind=(11:Int)))&&decide ((0:Int)<(a.list.length:Int)))||((!decide (a.kind=(12:Int)))&&decide ((0:Int)<(a.pairs.length:Int)))))&&(!decide (a.kind=(10:Int)))) (wa a.slots.length a.raws.length)<|vw .go<|vw .go<|vw .go<|vw .go<|lr rM (fun _=>[]) ((((((!decide (a.kind=(11:Int)))&&decide ((0:Int)<(a.list.length:Int)))||((!decide (a.kind=(12:Int)))&&decide ((0:Int)<(a.pairs.length:Int))))||((!decide (a.kind=(10:Int)))&&decide ((0:Int)<((a.slots.length+a.raws.length:Nat):Int))))||((!decide (a.bits=(0:Int)))&&((decide (a.kind=(7:Int))||decide (a.kind=(8:Int)))||(decide ((10:Int)≤a.kind)&&decide (a.kind≤(12:Int))))))||((!decide (a.text=(⟨#[]⟩:ByteArray)))&&(!(decide (a.kind=(7:Int))||decide (a.kind=(8:Int))))))
def ZiH(a:Val):Option (Bool):=(x2 a).m
theorem ZO9(a:Val):KC Tryz.prog 198 [.agg ((Ag a).map .d)] (ZiH a) rM:=Au Tryz.func198 Tryz.ntmps198 Aa [.tmp 2] fun C co y hm b c=>Ao co Aa Ac (x2 a) hm c fun r g=>id
abbrev NN:Int→AV:=fun y=>vI y
def ku(a:Fld→Option Bool):Cl:=fun no l H θ=>(∀(z0:Fld) y,a z0=some y→CJ Tryz.prog l no H (θ 1) [.agg ((Ap z0).map .d)] (vB y))
def pU(a:List Fld):Nat→St:=fun b=>Ab [(0,vL Ap a),(1,.fn (.yield 1) [] []),(7,vN a.length),(8,vN b)] []
def mj:Unit→Nat×St:=fun _=>(0,Ab [] [])
def pd(b:List Fld)(c:Fld→Option Bool)(a:Nat):PT 0 (Lv (Nat) (Unit) (Int)):=br (decide ((a:Int)<(b.length:Int))) (ix b a fun d=>cf Tryz.prog 1 [.agg ((Ap d).map .d)] (c d) (fun y=>vB y) fun e=>br e (AC NN (fun _=>[]) (a:Int)) (vs (wa a 1)<|ln (pU b) (a+1))) (Al (mj) ())
def mh(b:List Fld)(a:Fld→Option Bool):Nat→Option (Lv (Nat) (Unit) (Int)):=fun c=>(pd b a c).m
def qv:PT 0 (Int):=lr NN (fun _=>[]) (-1)
def mU(a:List Fld)(b:Fld→Option Bool):PT 0 (Int):=vz (Ah a)<|lc (Ab [(0,vL Ap a),(1,.fn (.yield 1) [] []),(7,vN a.length),(8,vI 0)] []) ((Am (mh a b) Aj 0).bind (Sum.elim (fun _=>(qv).m) some))
def px(b:List Fld)(a:Fld→Option Bool):PT 0 (Int):=lc (Ab [(0,vL Ap b),(1,.fn (.yield 1) [] [])] []) ((mU b a).m)
def ud(b:List Fld)(a:Fld→Option Bool):Option (Int):=(px b a).m
theorem ZFN{C:Cx}(co:CO C 0)(b:List Fld)(a:Fld→Option Bool)(f:(ku a) C.no C.l C.H0 C.θ):KL Tryz.prog (AH tl) 19 C (pa [0,0,1,0,1] (AD Tryz.f94)) [.tmp 4] 0 (pU b) (mj) NN (fun _=>[]) (mh b a):=fun h _ hm Q c e d=>AA co Aa Ac (pd b a h) (AQ [0,1,7,8]) nl e hm d fun r g=>⟨fun i=>⟨⟨fun y hy=>f _ y hy,by intro r;kernel_rfl,by intro r y;kernel_rfl⟩,fun j=>⟨id,id⟩⟩,id⟩
theorem ZS8(c:List Fld)(a:Fld→Option Bool):KO Tryz.prog 94 0 [vL Ap c,.fn (.yield 1) [] []] [] (ku a) (ud c a) NN (fun _=>[]):=BB Tryz.func94 Tryz.ntmps94 Aa [.tmp 4] 0 (fun C co e y hm d b=>Ak co Aa Ac 1 (px c a) (AQ [0,1]) nl (fun _ h=>h) hm b fun r g=>fun _ hm b=>sq (Ak co Aa Ac 1 (mU c a) (AQ [0,1,7,8]) nl (fun _ h=>h) hm b fun r g=>fun _ hm b=>bk 0 (lo (AL (ZFN co c a e) (fun _ h=>h) hm b (fun _ hm=>Ao co Aa Ac (qv) hm b fun r g=>id)))))
abbrev Sd:Int→AV:=fun y=>vI y
@[reducible] def RN(a:List Fld):Int→List Blk:=fun y=>[⟨0,true,55,16,Af Ap a⟩]
def lW(a:Fld→Option Bool):Cl:=fun no l H θ=>(∀(z0:Fld) y,a z0=some y→CJ Tryz.prog l no H (θ 1) [.agg ((Ap z0).map .d)] (vB y))
def wW(a:List Fld):Nat→St:=fun b=>Ab [(0,.ref (0,0) 0 0 a.length),(1,.fn (.yield 1) [] []),(7,vN a.length),(8,vN b)] [((0,0),⟨0,true,55,16,Af Ap a⟩)]
def xe(a:List Fld):Unit→Nat×St:=fun _=>(0,Ab [] [((0,0),⟨0,true,55,16,Af Ap a⟩)])
def xx(a:List Fld)(c:Fld→Option Bool)(b:Nat):PT 1 (Lv (Nat) (Unit) (Int)):=br (decide ((b:Int)<(a.length:Int))) (vs (ir b a.length 16)<|ca a b fun d=>cf Tryz.prog 1 [.agg ((Ap d).map .d)] (c d) (fun y=>vB y) fun e=>br e (AC Sd (RN a) (b:Int)) (vs (wa b 1)<|vz (fl a)<|ln (wW a) (b+1))) (vz (fl a)<|Al (xe a) ())
def w5(b:List Fld)(a:Fld→Option Bool):Nat→Option (Lv (Nat) (Unit) (Int)):=fun c=>(xx b a c).m
def xH(a:List Fld):PT 1 (Int):=lr Sd (RN a) (-1)
def wM(a:List Fld)(b:Fld→Option Bool):PT 1 (Int):=vz (A7 a.length)<|vz (fl a)<|lc (Ab [(0,.ref (0,0) 0 0 a.length),(1,.fn (.yield 1) [] []),(7,vN a.length),(8,vI 0)] [((0,0),⟨0,true,55,16,Af Ap a⟩)]) ((Am (w5 a b) Aj 0).bind (Sum.elim (fun _=>(xH a).m) some))
def wZ(a:List Fld)(b:Fld→Option Bool):PT 1 (Int):=vz (fl a)<|lc (Ab [(0,.ref (0,0) 0 0 a.length),(1,.fn (.yield 1) [] [])] [((0,0),⟨0,true,55,16,Af Ap a⟩)]) ((wM a b).m)
def ue(b:List Fld)(a:Fld→Option Bool):Option (Int):=(wZ b a).m
theorem ZqO{C:Cx}(co:CO C 1)(b:List Fld)(a:Fld→Option Bool)(f:(lW a) C.no C.l C.H0 C.θ):KL Tryz.prog (AH tl) 19 C (pa [0,0,1,0,1] (AD Tryz.f94)) [.tmp 4] 1 (wW b) (xe b) Sd (RN b) (w5 b a):=fun h _ hm Q c e d=>AA co Aa Ac (xx b a h) (Ae [0,1,7,8] CZ) (Ae [] CZ) e hm d fun r g=>⟨fun i=>⟨⟨fun y hy=>f _ y hy,by intro r;kernel_rfl,by intro r y;kernel_rfl⟩,fun j=>⟨id,id⟩⟩,id⟩
theorem ZL4(b:List Fld)(a:Fld→Option Bool):KO Tryz.prog 94 1 [.ref (0,0) 0 0 b.length,.fn (.yield 1) [] []] [⟨0,true,55,16,Af Ap b⟩] (lW a) (ue b a) Sd (RN b):=BB Tryz.func94 Tryz.ntmps94 Aa [.tmp 4] 1 (fun C co e y hm d c=>Ak co Aa Ac 1 (wZ b a) (Ae [0,1] CZ) nl (fun _ h=>h) hm c fun r g=>fun _ hm c=>sq (Ak co Aa Ac 1 (wM b a) (Ae [0,1,7,8] CZ) nl (fun _ h=>h) hm c fun r g=>fun _ hm c=>bk 0 (lo (AL (ZqO co b a e) (fun _ h=>h) hm c (fun _ hm=>Ao co Aa Ac (xH b) hm c fun r g=>id))))) (hB:=fun y=>⟨.inl (AZ _ _),rfl,trivial⟩)
abbrev LR(a:List Fld):Ad×Blk:=((0,0),⟨0,true,55,16,Af Ap a⟩)
abbrev TC:List Fld→AV:=fun y=>.ref (0,0) 0 0 y.length
@[reducible] def TH:List Fld→List Blk:=fun y=>[⟨0,true,55,16,Af Ap y⟩]
def kr(a:Fld→Option Bool):Cl:=fun no l H θ=>(∀(z0:Fld) y,a z0=some y→CJ Tryz.prog l no H (θ 1) [.agg ((Ap z0).map .d)] (vB y))
def W7(a:List Fld):Int×Int×List Fld→St:=fun(v2,v3,b)=>Ab [(0,.ref (0,0) 0 0 a.length),(1,.fn (.yield 1) [] []),(5,vI v2),(6,vI v3)] [((0,0),⟨0,true,55,16,Af Ap b⟩)]
def qx(a:List Fld):Int×List Fld→Nat×St:=fun(c,b)=>(0,Ab [(0,.ref (0,0) 0 0 a.length),(5,vI c)] [((0,0),⟨0,true,55,16,Af Ap b⟩)])
def oL(b:List Fld)(d:Fld→Option Bool)(v2:Int)(v3:Int)(a:List Fld):PT 1 (Lv (Int×Int×List Fld) (Int×List Fld) (List Fld)):=vz (A7 b.length)<|br (decide (v3<(b.length:Int))) (vs (DS v3 b.length 16)<|ca a v3.toNat fun c=>vw .go<|vw .go<|cf Tryz.prog 1 [.agg ((Ap c).map .d)] (d c) (fun y=>vB y) fun e=>br (!e) (vw .go<|vs (DS v2 b.length 16)<|vs (st a v2.toNat c)<|GE 0 ((Rw.f (c:Fld)).map .d) (fun _=>x8 _)<|vs (wi (v2+1))<|vs (wi (v3+1))<|vz (fl (a.set v2.toNat c))<|ln (W7 b) ((v2+1),(v3+1),a.set v2.toNat c)) (vs (wi (v3+1))<|vz (fl a)<|ln (W7 b) (v2,(v3+1),a))) (vz (fl a)<|Al (qx b) (v2,a))
def nR(b:List Fld)(a:Fld→Option Bool):Int×Int×List Fld→Option (Lv (Int×Int×List Fld) (Int×List Fld) (List Fld)):=fun(v2,v3,c)=>(oL b a v2 v3 c).m
def o9(c:List Fld)(a:Int)(b:List Fld):PT 1 (List Fld):=sR c.length 0 (.it a) .no<|cr b (0+a.toNat) (c.length-a.toNat) [vI 0,vS ⟨#[]⟩,vI 0,vI 0,vI 0,vS ⟨#[]⟩,vS ⟨#[]⟩,vB false,vI 0,.d (.int .u64 0),vS ⟨#[]⟩,.e0,.e0,.e0,.e0,.e0]<|GE 0 ([vI 0,vS ⟨#[]⟩,vI 0,vI 0,vI 0,vS ⟨#[]⟩,vS ⟨#[]⟩,vB false,vI 0,.d (.int .u64 0),vS ⟨#[]⟩,.e0,.e0,.e0,.e0,.e0]) (fun _=>wU (by kernel_rfl))<|Ns 0 b (0+a.toNat) (c.length-a.toNat) [vI 0,vS ⟨#[]⟩,vI 0,vI 0,vI 0,vS ⟨#[]⟩,vS ⟨#[]⟩,vB false,vI 0,.d (.int .u64 0),vS ⟨#[]⟩,.e0,.e0,.e0,.e0,.e0]<|vw .sep<|sR c.length 0 .no (.it a)<|HD (a.toNat=(b.take (0+a.toNat)).length) (fun E=>E.P (.ref (0,0) 0 0 a.toNat) ([⟨0,true,55,16,Af Ap (b.take (0+a.toNat))⟩])) (b.take (0+a.toNat))
def pn(a:List Fld)(c:Fld→Option Bool)(b:Int):PT 1 (List Fld):=vs (wi (b+1))<|vz (fl a)<|lc (Ab [(0,.ref (0,0) 0 0 a.length),(1,.fn (.yield 1) [] []),(5,vI b),(6,vI (b+1))] [(LR a)]) ((Am (nR a c) Aj (b,(b+1),a)).bind (Sum.elim (fun(e,d)=>(o9 a e d).m) some))
def oJ(a:List Fld)(b:Fld→Option Bool):PT 1 (List Fld):=cs Tryz.prog 94 [.ref (0,0) 0 0 a.length,.fn (.yield 1) [] []] [(0,0)] [(LR a)] (ue a b) (fun y=>vI y) fun c=>br (decide (c=((-1):Int))) (lr TC (TH) a) (vz (fl a)<|lc (Ab [(0,.ref (0,0) 0 0 a.length),(1,.fn (.yield 1) [] []),(5,vI c)] [(LR a)]) ((pn a b c).m))
def ug(b:List Fld)(a:Fld→Option Bool):Option (List Fld):=(oJ b a).m
theorem ZC5{C:Cx}(co:CO C 1)(b:List Fld)(a:Fld→Option Bool)(f:(kr a) C.no C.l C.H0 C.θ):KL Tryz.prog (AH tl) 42 C (pa [0,0,1,0,1,1,1] (AD Tryz.f90)) [.tmp 4] 1 (W7 b) (qx b) TC (TH) (nR b a):=fun(v2,v3,h) _ hm Q c e d=>AA co Aa Ac (oL b a v2 v3 h) (Ae [0,1,5,6] CZ) (Ae [0,5] CZ) e hm d fun r g=>⟨fun i=>⟨⟨fun y hy=>f _ y hy,by intro r;kernel_rfl,by intro r y;kernel_rfl⟩,fun j=>⟨id,id⟩⟩,id⟩
theorem ZS6(b:List Fld)(a:Fld→Option Bool):KO Tryz.prog 90 1 [.ref (0,0) 0 0 b.length,.fn (.yield 1) [] []] [⟨0,true,55,16,Af Ap b⟩] (kr a) (ug b a) TC (TH):=BB Tryz.func90 Tryz.ntmps90 Aa [.tmp 4] 1 (fun C co e y hm d c=>Ak co Aa Ac 3 (oJ b a) (Ae [0,1,5] CZ) nl (fun _ h=>h) hm c fun r g=>⟨fun y hy=>C3 (ZL4 b a) hy co g [(LR b)] [] (AR [(1,r.θ 1)]) (fun m o f=>(fun z0 y i=>iu co g [(LR b)] f (e z0 y i))) (fun H=>⟨fun _=>⟨rfl,Bl (AZ _ _) (by kernel_rfl)⟩,by kernel_rfl,trivial⟩),fun l=>⟨id,fun _ hm c=>sq (Ak co Aa Ac 1 (pn b a l) (Ae [0,1,5,6] CZ) nl (fun _ h=>h) hm c fun r g=>fun _ hm c=>bk 0 (lo (AL (ZC5 co b a e) (fun _ h=>h) hm c (fun(k,j) hm=>Ao co Aa Ac (o9 b k j) hm c fun r g=>fun h c=>zi (congrArg (fun n=>(.ref (0,0) 0 0 n:AV)) h) c))))⟩⟩) (hB:=fun y=>⟨.inl (AZ _ _),rfl,trivial⟩)
abbrev TD:List Fld→AV:=fun y=>.ref (0,0) 1 0 y.length
@[reducible] def TJ:List Fld→List Blk:=fun y=>[⟨1,true,55,16,Af Ap y⟩]
def ob(a:List Fld):PT 1 (List Fld):=al Ap a false fun b=>br b (vw .sep<|vw (.ads 2 2 55 16)<|mv 2 0 ([]:List Fld)<|lr TD (TJ) ([]:List Fld)) (a0 a<|mv 7 0 a<|lr TD (TJ) a)
def uw(a:List Fld):Option (List Fld):=(ob a).m
theorem ZUo(a:List Fld):KO Tryz.prog 91 1 [vL Ap a] [⟨0,false,0,0,[]⟩] (fun _ _ _ _=>True) (uw a) TD (TJ):=BB Tryz.func91 Tryz.ntmps91 Aa [.tmp 2] 1 (fun C co f y hm c d=>Ao co Aa Ac (ob a) hm d fun r g=>⟨fun e=>⟨id,id⟩,by intro b h;subst h;cases b<;>rfl⟩) (hB:=fun y=>⟨.inl (AZ _ _),rfl,trivial⟩)
abbrev j9:Bool→AV:=fun y=>vB y
@[reducible] def kl(w0:ByteArray):Bool→List Blk:=fun y=>[⟨0,true,9,1,[vS w0]⟩]
def pJ(a:Fld)(w0:ByteArray):PT 1 (Bool):=vw .go<|vw .go<|lr j9 (kl w0) (!decide (a.union=w0))
def ah(a:Fld)(w0:ByteArray):Option (Bool):=(pJ a w0).m
theorem ZTW(a:Fld)(w0:ByteArray):KO Tryz.prog 92 1 [.agg ((Ap a).map .d),.ptr (0,0) 0 0] [⟨0,true,9,1,[vS w0]⟩] (fun _ _ _ _=>True) (ah a w0) j9 (kl w0):=BB Tryz.func92 Tryz.ntmps92 Aa [.tmp 3] 1 (fun C co d y hm b c=>Ao co Aa Ac (pJ a w0) hm c fun r g=>id) (hB:=fun y=>⟨.inr (by kernel_rfl),rfl,trivial⟩)
abbrev IZ(a:ByteArray):Ad×Blk:=((1,3),⟨0,true,9,1,[vS a]⟩)
abbrev jV:List Fld→AV:=fun y=>vL Ap y
def mT(a:List Fld):PT 0 (List Fld):=vz (fr a)<|lr jV (fun _=>[]) a
def nr(a:List Fld):PT 0 (List Fld):=vz (fl a)<|lc (Ab [(4,.ref (1,9) 0 0 a.length)] [((1,9),⟨0,true,55,16,Af Ap a⟩)]) ((mT a).m)
def mz(b:ByteArray)(a:List Fld):PT 0 (List Fld):=vz (fl a)<|lc (Ab [(9,.ref (1,9) 0 0 a.length),(10,.fn (.func 92) [] [.ptr (1,3) 0 0])] [(IZ b),((1,9),⟨0,true,55,16,Af Ap a⟩)]) ((ug a (fun(z0:Fld)=>ah z0 b)).bind fun c=>(nr c).m)
def mE(a:Msg)(b:ByteArray):PT 0 (List Fld):=vw .go<|lc (Ab [(3,.ptr (1,3) 0 0),(8,vL Ap a.fields)] [(IZ b)]) ((uw a.fields).bind fun c=>(mz b c).m)
def qa(a:Msg)(b:ByteArray):PT 0 (List Fld):=vw .go<|bF (decide (b=(⟨#[]⟩:ByteArray)))<|lc (Ab [(2,.ptr (1,2) 0 0),(3,.ptr (1,3) 0 0)] [((1,2),⟨0,true,49,5,[vS a.name,vL Ap a.fields,vL AW a.reserved,vL AE a.gone,vL AG a.notes]⟩),(IZ b)]) ((mE a b).m)
def ZjQ(a:Msg)(b:ByteArray):Option (List Fld):=(qa a b).m
theorem s9(c:Msg)(a:ByteArray):KC Tryz.prog 53 [.agg ((Aw c).map .d),vS a] (ZjQ c a) jV:=Au Tryz.func53 Tryz.ntmps53 Aa [.tmp 4] fun C co y hm f b=>Ak co Aa Ac 2 (qa c a) (Ae [2,3] D4) nl (fun _ h=>h) hm b fun r g=>fun _ hm b=>sq (rg (Bs co Aa 2 (mE c a) (Ae [3,8] Dc) hm b fun r g=>fun _ hm b=>Hl co hm 91 [vL Ap c.fields] [(1,9)] ([((1,9),⟨0,false,0,0,[]⟩)]++[]) (fun z=>.ref (1,9) 1 0 z.length) (fun z=>[((1,9),⟨1,true,55,16,Af Ap z⟩)]) [] (fun z=>trivial) (trivial) (fun z e r g=>DB (ZUo c.fields) e co g [((1,9),⟨0,false,0,0,[]⟩)] [] [((1,9),⟨1,true,55,16,Af Ap z⟩)] (AR []) (fun k i m=>trivial) (fun H=>⟨(fun h=>by cases h),by kernel_rfl,trivial⟩) (fun H=>⟨fun _=>⟨rfl,Bl (AZ _ _) (by kernel_rfl)⟩,by kernel_rfl,trivial⟩)) fun d hm=>Bs co Aa 1 (mz a d) (Ae [9,10] [((1,3),false),((1,9),true)]) hm b fun r g=>fun _ hm b=>Hl co hm 90 [.ref (1,9) 0 0 d.length,.fn (.func 92) [] [.ptr (1,3) 0 0]] [(1,9),(1,3)] ([((1,9),⟨0,true,55,16,Af Ap d⟩)]++[(IZ a)]) (fun z=>.ref (1,9) 0 0 z.length) (fun z=>[((1,9),⟨0,true,55,16,Af Ap z⟩)]) [] (fun z=>trivial) (trivial) (fun z e r g=>DB (ZS6 d (fun(z0:Fld)=>ah z0 a)) e co g [((1,9),⟨0,true,55,16,Af Ap d⟩)] [(IZ a)] [((1,9),⟨0,true,55,16,Af Ap z⟩)] (AR [(1,.fn (.func 92) [] [.ptr (r.κ (1,3)) (r.γ (1,3)+0) 0])]) (fun k i m=>(fun z0 y e=>EO (ZTW z0 a) e co g [(IZ a)] [((1,9),⟨0,true,55,16,Af Ap d⟩)] i (by simp) (fun _=>.top) (fun _ _=>trivial) (fun l H=>⟨fun _=>⟨rfl,by kernel_rfl⟩,by kernel_rfl,trivial⟩))) (fun H=>⟨fun _=>⟨rfl,Bl (AZ _ _) (by kernel_rfl)⟩,by kernel_rfl,trivial⟩) (fun H=>⟨fun _=>⟨rfl,Bl (AZ _ _) (by kernel_rfl)⟩,by kernel_rfl,trivial⟩)) fun j hm=>A9 co Aa (nr j) (Ae [4] [((1,9),true)]) hm b fun r g=>fun _ hm b=>Ao co Aa Ac (mT j) hm b fun r g=>id))
abbrev ZT6:Bool→AV:=fun y=>vB y
def Zg6(a:Enm)(b:Int):Option (Bool):=none
theorem ZOP(a:Enm)(b:Int):KC Tryz.prog 199 [.agg ((AO a).map .d),.d (.int .u64 b)] (Zg6 a b) ZT6:=⟨fun _ _ _ h=>(by cases h),by intro r;kernel_rfl,by intro r y;kernel_rfl⟩
abbrev sG:Int→AV:=fun y=>vI y
def lJ(c:Scm)(a:Typ)(b:Val):PT 0 (Int):=vw .go<|vw .go<|vw .go<|clg (!(!decide (b.kind=a.kind))) (ZO9 b) fun d=>bF ((!decide (b.kind=a.kind))||d)<|vw .go<|vz (A7 b.text.size)<|bF (decide ((4096:Int)<(b.text.size:Int)))<|vw .go<|vw .go<|clg (decide (a.kind=(7:Int))) (qI b.text) fun e=>bF (decide (a.kind=(7:Int))&&(!e))<|vw .go<|vw .go<|cl (mZ a.kind b) fun f=>bF (!f)<|vw .go<|vw .go<|cl (ZOL c a.name) fun g=>vw .go<|vw .go<|vw .go<|vw .go<|clg (decide (a.kind=(9:Int))) (ZOP g.1 b.bits) fun h=>bF (decide (a.kind=(9:Int))&&(!h))<|lr sG (fun _=>[]) 0
def ZlU(a:Scm)(b:Typ)(c:Val):Option (Int):=(lJ a b c).m
theorem ZPM(a:Scm)(b:Typ)(c:Val):KC Tryz.prog 177 [.agg ((As a).map .d),.agg ((B1 b).map .d),.agg ((Ag c).map .d)] (ZlU a b c) sG:=Au Tryz.func177 Tryz.ntmps177 Aa [.tmp 6] fun C co y hm d e=>Ao co Aa Ac (lJ a b c) hm e fun r g=>fun f=>fun h=>fun i=>fun j=>fun k=>id
abbrev sp:Bool→AV:=fun y=>vB y
def lu(b:Scm)(a:Typ)(c:Val):PT 0 (Bool):=vw .go<|bF (decide (a.kind=(10:Int)))<|vw .go<|cl (OH a.kind) fun d=>bF (!d)<|vw .go<|bF (decide (a.kind=(9:Int)))<|vw .go<|vw .go<|vw .go<|cl (ZPM b a c) fun e=>lr sp (fun _=>[]) (decide (e=(0:Int)))
def Zku(a:Scm)(b:Typ)(c:Val):Option (Bool):=(lu a b c).m
theorem ZN8(a:Scm)(b:Typ)(c:Val):KC Tryz.prog 144 [.agg ((As a).map .d),.agg ((B1 b).map .d),.agg ((Ag c).map .d)] (Zku a b c) sp:=Au Tryz.func144 Tryz.ntmps144 Aa [.tmp 6] fun C co y hm d e=>Ao co Aa Ac (lu a b c) hm e fun r g=>fun f=>fun h=>id
abbrev j8:Int→AV:=fun y=>vI y
def lU(c:Acs)(a:Typ)(b:Val):PT 0 (Int):=vw .go<|vw .go<|vw .go<|clg (decide (a.kind=(9:Int))) (mZ a.kind b) fun d=>bF (decide (a.kind=(9:Int))&&d)<|vw .go<|vw .go<|vw .go<|cl (ZN8 c.s a b) fun e=>bF (!e)<|lr j8 (fun _=>[]) 0
def ZeB(a:Acs)(b:Typ)(c:Val):Option (Int):=(lU a b c).m
theorem ZTf(a:Acs)(b:Typ)(c:Val):KC Tryz.prog 89 [.agg ((Gn a).map .d),.agg ((B1 b).map .d),.agg ((Ag c).map .d)] (ZeB a b c) j8:=Au Tryz.func89 Tryz.ntmps89 Aa [.tmp 6] fun C co y hm d e=>Ao co Aa Ac (lU a b c) hm e fun r g=>fun f=>fun h=>id
abbrev jU:Int→AV:=fun y=>vI y
def l3(b:Acs)(a:Fld)(c:Val):PT 0 (Int):=vw .go<|bF (decide (a.card=(4:Int)))<|bF (decide (a.card=(5:Int)))<|vw .go<|vw .go<|vw .go<|cl (ZTf b a.type c) fun d=>lr jU (fun _=>[]) d
def Zen(a:Acs)(b:Fld)(c:Val):Option (Int):=(l3 a b c).m
theorem ZUg(a:Acs)(b:Fld)(c:Val):KC Tryz.prog 52 [.agg ((Gn a).map .d),.agg ((Ap b).map .d),.agg ((Ag c).map .d)] (Zen a b c) jU:=Au Tryz.func52 Tryz.ntmps52 Aa [.tmp 6] fun C co y hm d e=>Ao co Aa Ac (l3 a b c) hm e fun r g=>fun f=>id
abbrev zT:Bool→AV:=fun y=>vB y
def ZgF(a:Val):Option (Bool):=none
theorem ZSV(a:Val):KC Tryz.prog 93 [.agg ((Ag a).map .d)] (ZgF a) zT:=⟨fun _ _ _ h=>(by cases h),by intro r;kernel_rfl,by intro r y;kernel_rfl⟩
abbrev jW:Bool→AV:=fun y=>vB y
def nJ(b:Fld)(a:Val):PT 0 (Bool):=vw .go<|vw .go<|clg (decide (b.card=(3:Int))) (ZSV a) fun c=>vw .go<|vw .go<|vy ((!(decide (b.card=(3:Int))&&c))&&decide (a.kind=(11:Int))) (Ah a.list)<|vw .go<|vw .go<|vy ((!((decide (b.card=(3:Int))&&c)||(decide (a.kind=(11:Int))&&decide ((a.list.length:Int)=(0:Int)))))&&decide (a.kind=(12:Int))) (Ah a.pairs)<|lr jW (fun _=>[]) (((decide (b.card=(3:Int))&&c)||(decide (a.kind=(11:Int))&&decide ((a.list.length:Int)=(0:Int))))||(decide (a.kind=(12:Int))&&decide ((a.pairs.length:Int)=(0:Int))))
def ZfT(a:Fld)(b:Val):Option (Bool):=(nJ a b).m
theorem ZTG(a:Fld)(b:Val):KC Tryz.prog 54 [.agg ((Ap a).map .d),.agg ((Ag b).map .d)] (ZfT a b) jW:=Au Tryz.func54 Tryz.ntmps54 Aa [.tmp 4] fun C co y hm c d=>Ao co Aa Ac (nJ a b) hm d fun r g=>fun e=>id
abbrev X8:List (Ad×Bool):=[((1,9),false),((1,10),false),((1,13),false),((1,16),false)]
abbrev OZ(a:Val):Ad×Blk:=((1,9),⟨0,true,35,7,[vI a.kind,.d (.int .u64 a.bits),vS a.text,vL Aq a.list,vL Ar a.pairs,vL Ai a.slots,vL Ay a.raws]⟩)
abbrev OU:Ad×Blk:=((1,10),⟨0,true,35,7,[vI 0,.d (.int .u64 0),vS ⟨#[]⟩,.e0,.e0,.e0,.e0]⟩)
abbrev OP(a:Acs×Fld×Int):Ad×Blk:=((1,13),⟨0,true,55,16,[vI a.2.1.num,vS a.2.1.name,vI a.2.1.card,vI a.2.1.key,vI a.2.1.type.kind,vS a.2.1.type.name,vS a.2.1.union,vB a.2.1.hasDefault,vI a.2.1.dflt.kind,.d (.int .u64 a.2.1.dflt.bits),vS a.2.1.dflt.text,vL Aq a.2.1.dflt.list,vL Ar a.2.1.dflt.pairs,vL Ai a.2.1.dflt.slots,vL Ay a.2.1.dflt.raws,vL AG a.2.1.notes]⟩)
abbrev tI(a:Val):Ad×Blk:=((1,16),⟨0,true,35,7,[vI a.kind,.d (.int .u64 a.bits),vS a.text,vL Aq a.list,vL Ar a.pairs,vL Ai a.slots,vL Ay a.raws]⟩)
abbrev Nz:Val×Int→AV:=fun y=>.tup [.agg ((Ag y.1).map .d),vI y.2]
def pG(h:Int)(i:Val)(j:Acs×Fld×Int)(d:List Fld):Nat×Int×Int×ByteArray×List Val×List Pr×List Slt×List Raw→St:=fun(v5,c6,e,f,g,a,b,c)=>Ab [(3,vI h),(9,.ptr (1,9) 0 0),(10,.ptr (1,10) 0 0),(13,.ptr (1,13) 0 0),(16,.ptr (1,16) 0 0),(46,vL Ap d),(47,vN d.length),(48,vN v5)] [(OZ i),OU,(OP j),((1,16),⟨0,true,35,7,[vI c6,.d (.int .u64 e),vS f,vL Aq g,vL Ar a,vL Ai b,vL Ay c]⟩)]
def oS(h:Int)(i:Val)(j:Acs×Fld×Int):Int×Int×ByteArray×List Val×List Pr×List Slt×List Raw→Nat×St:=fun(a,b,c,d,e,f,g)=>(0,Ab [(3,vI h),(9,.ptr (1,9) 0 0),(10,.ptr (1,10) 0 0),(13,.ptr (1,13) 0 0),(16,.ptr (1,16) 0 0)] [(OZ i),OU,(OP j),((1,16),⟨0,true,35,7,[vI a,.d (.int .u64 b),vS c,vL Aq d,vL Ar e,vL Ai f,vL Ay g]⟩)])
def o2(j:Int)(k:Val)(l:Acs×Fld×Int)(f:List Fld)(v5:Nat)(c6:Int)(g:Int)(h:ByteArray)(i:List Val)(b:List Pr)(c:List Slt)(d:List Raw):PT 0 (Lv (Nat×Int×Int×ByteArray×List Val×List Pr×List Slt×List Raw) (Int×Int×ByteArray×List Val×List Pr×List Slt×List Raw) (Val×Int)):=br (decide ((v5:Int)<(f.length:Int))) (ix f v5 fun e=>vw .go<|vw .go<|vw .go<|cl (XB (.mk c6 g h i b c d:Val) e.num) fun a=>vw .go<|vs (wa v5 1)<|ln (pG j k l f) (v5+1,a.kind,a.bits,a.text,a.list,a.pairs,a.slots,a.raws)) (Al (oS j k l) (c6,g,h,i,b,c,d))
def oC(g:Int)(h:Val)(i:Acs×Fld×Int)(j:List Fld):Nat×Int×Int×ByteArray×List Val×List Pr×List Slt×List Raw→Option (Lv (Nat×Int×Int×ByteArray×List Val×List Pr×List Slt×List Raw) (Int×Int×ByteArray×List Val×List Pr×List Slt×List Raw) (Val×Int)):=fun(v5,c6,d,e,f,a,b,c)=>(o2 g h i j v5 c6 d e f a b c).m
def qi(k:Int)(j:Val)(l:Acs×Fld×Int)(a:Int)(b:Int)(c:ByteArray)(d:List Val)(e:List Pr)(f:List Slt)(g:List Raw):PT 0 (Val×Int):=vw .go<|vw .go<|cl (ZTG l.2.1 j) fun h=>br (!h) (vw .go<|vw .go<|cl (sP f (.mk k j:Slt)) fun i=>vw .go<|vw .go<|vw .go<|lr Nz (fun _=>[]) ((.mk a b c d e i g:Val),0)) (vw .go<|vw .go<|lr Nz (fun _=>[]) ((.mk a b c d e f g:Val),0))
def m7(k:Int)(l:Val)(b:Acs×Fld×Int)(a:Val):PT 0 (Val×Int):=vw .go<|vw .go<|cl (s9 b.1.m b.2.1.union) fun c=>vz (Ah c)<|lc (Ab [(3,vI k),(9,.ptr (1,9) 0 0),(10,.ptr (1,10) 0 0),(13,.ptr (1,13) 0 0),(16,.ptr (1,16) 0 0),(46,vL Ap c),(47,vN c.length),(48,vI 0)] [(OZ l),OU,(OP b),(tI a)]) ((Am (oC k l b c) Aj (0,a.kind,a.bits,a.text,a.list,a.pairs,a.slots,a.raws)).bind (Sum.elim (fun(d,e,f,g,h,i,j)=>(qi k l b d e f g h i j).m) some))
def mb(e:Scm)(f:ByteArray)(g:Val)(b:Int)(c:Val):PT 0 (Val×Int):=vw .go<|cl (rE e f b) fun a=>vw .go<|vw .go<|bF (!decide (a.2.2=(0:Int)))<|vw .go<|vw .go<|vw .go<|cl (ZUg a.1 a.2.1 c) fun h=>bF (!decide (h=(0:Int)))<|vw .go<|cl (XB g b) fun d=>vw .go<|lc (Ab [(3,vI b),(9,.ptr (1,9) 0 0),(10,.ptr (1,10) 0 0),(12,.ptr (1,12) 0 0),(13,.ptr (1,13) 0 0),(16,.ptr (1,16) 0 0)] [(OZ c),OU,((1,12),⟨0,true,77,8,[vS a.1.m.name,vL Ap a.1.m.fields,vL AW a.1.m.reserved,vL AE a.1.m.gone,vL AG a.1.m.notes,vL Aw a.1.s.messages,vL AO a.1.s.enums,vL AS a.1.s.services]⟩),(OP a),(tI d)]) ((m7 b c a d).m)
def Zi8(a:Scm)(b:ByteArray)(c:Val)(d:Int)(e:Val):Option (Val×Int):=(mb a b c d e).m
theorem ZCa{C:Cx}(co:CO C 0)(a:Int)(b:Val)(c:Acs×Fld×Int)(h:List Fld):KL Tryz.prog (AH tl) 69 C (pa [0,0,1,0,1,1,1,1,1] (AD Tryz.f22)) [.cell 10 35,.tmp 11] 0 (pG a b c h) (oS a b c) Nz (fun _=>[]) (oC a b c h):=fun(v5,c6,j,k,l,d,e,f) _ hm Q i o n=>AA co Aa Ac (o2 a b c h v5 c6 j k l d e f) (Ae [3,9,10,13,16,46,47,48] X8) (Ae [3,9,10,13,16] X8) o hm n fun r g=>⟨fun m=>fun p=>id,id⟩
theorem s4(m:Scm)(n:ByteArray)(o:Val)(b:Int)(c:Val):KC Tryz.prog 22 [.agg ((As m).map .d),vS n,.agg ((Ag o).map .d),vI b,.agg ((Ag c).map .d)] (Zi8 m n o b c) Nz:=Au Tryz.func22 Tryz.ntmps22 Aa [.cell 10 35,.tmp 11] fun C co y hm q a=>Ak co Aa Ac 5 (mb m n o b c) (Ae [3,9,10,12,13,16] [((1,9),false),((1,10),false),((1,12),false),((1,13),false),((1,16),false)]) nl (fun _ h=>h) hm a fun r g=>fun p=>fun w=>fun u=>fun _ hm a=>sq (Ak co Aa Ac 1 (m7 b c p u) (Ae [3,9,10,13,16,46,47,48] X8) nl (fun _ h=>h) hm a fun r g=>fun v=>fun _ hm a=>bk 0 (lo (AL (ZCa co b c p v) (fun _ h=>h) hm a (fun(d,e,f,i,j,k,l) hm=>Ao co Aa Ac (qi b c p d e f i j k l) hm a fun r g=>fun s=>⟨fun t=>id,id⟩))))
abbrev jX:Bool→AV:=fun y=>vB y
def zU(a:Fld→Option Bool):Cl:=fun no l H θ=>(∀(z0:Fld) y,a z0=some y→CJ Tryz.prog l no H (θ 1) [.agg ((Ap z0).map .d)] (vB y))
def pW(b:List Fld)(a:Fld→Option Bool):PT 0 (Bool):=cs Tryz.prog 94 [vL Ap b,.fn (.yield 1) [] []] [] [] (ud b a) (fun y=>vI y) fun c=>lr jX (fun _=>[]) (decide ((0:Int)≤c))
def uj(b:List Fld)(a:Fld→Option Bool):Option (Bool):=(pW b a).m
theorem ZTA(b:List Fld)(a:Fld→Option Bool):KO Tryz.prog 55 0 [vL Ap b,.fn (.yield 1) [] []] [] (zU a) (uj b a) jX (fun _=>[]):=BB Tryz.func55 Tryz.ntmps55 Aa [.tmp 4] 0 (fun C co e y hm c d=>Ao co Aa Ac (pW b a) hm d fun r g=>⟨fun y hy=>C3 (ZS8 b a) hy co g [] [] (AR [(1,r.θ 1)]) (fun i j f=>(fun z0 y h=>iu co g [] f (e z0 y h))) (fun H=>trivial),fun k=>id⟩)
abbrev jY:Bool→AV:=fun y=>vB y
@[reducible] def kf(w0:Slt):Bool→List Blk:=fun y=>[⟨0,true,63,8,[vI w0.num,vI w0.val.kind,.d (.int .u64 w0.val.bits),vS w0.val.text,vL Aq w0.val.list,vL Ar w0.val.pairs,vL Ai w0.val.slots,vL Ay w0.val.raws]⟩]
def mc(a:Fld)(w0:Slt):PT 1 (Bool):=vw .go<|vw .go<|lr jY (kf w0) (decide (a.num=w0.num))
def ZN(a:Fld)(w0:Slt):Option (Bool):=(mc a w0).m
theorem ZUl(a:Fld)(w0:Slt):KO Tryz.prog 56 1 [.agg ((Ap a).map .d),.ptr (0,0) 0 0] [⟨0,true,63,8,[vI w0.num,vI w0.val.kind,.d (.int .u64 w0.val.bits),vS w0.val.text,vL Aq w0.val.list,vL Ar w0.val.pairs,vL Ai w0.val.slots,vL Ay w0.val.raws]⟩] (fun _ _ _ _=>True) (ZN a w0) jY (kf w0):=BB Tryz.func56 Tryz.ntmps56 Aa [.tmp 3] 1 (fun C co d y hm b c=>Ao co Aa Ac (mc a w0) hm c fun r g=>id) (hB:=fun y=>⟨.inr (by kernel_rfl),rfl,trivial⟩)
end Go.Proofs.YtchkcemlglpobaaGreat
