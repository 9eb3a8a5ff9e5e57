import Derived.Test.YtleccgigifnfgaaGreatCy16
import Derived.Test.YtleccgigifnfgaaGreatCy00
namespace Go.Proofs.YtleccgigifnfgaaGreat
set_option maxRecDepth 100000
set_option linter.all false
open Go Go.Eng
abbrev Ml(a:List Slt):Ac×Blk:=((0,0),⟨0,true,67,8,Ae Ag a⟩)
abbrev Uo:List Slt→AV:=fun y=>.ref (0,0) 0 0 y.length
@[reducible] def Uy:List Slt→List Blk:=fun y=>[⟨0,true,67,8,Ae Ag y⟩]
def l8(a:Slt→Option Bool):Cl:=fun no l H θ=>(∀(z0:Slt) y,a z0=some y→Cg Tryz.prog l no H (θ 1) [.agg ((Cb z0).map .d)] (vB y))
def X0(a:List Slt):Int×Int×List Slt→St:=fun(v2,v3,b)=>Ab [(0,.ref (0,0) 0 0 a.length),(1,.fn (.yield 1) [] []),(5,vI v2),(6,vI v3)] [((0,0),⟨0,true,67,8,Ae Ag b⟩)]
def re(a:List Slt):Int×List Slt→Nat×St:=fun(c,b)=>(0,Ab [(0,.ref (0,0) 0 0 a.length),(5,vI c)] [((0,0),⟨0,true,67,8,Ae Ag b⟩)])
def S8(b:List Slt)(d:Slt→Option Bool)(v2:Int)(v3:Int)(a:List Slt):PT 1 (Lv (Int×Int×List Slt) (Int×List Slt) (List Slt)):=vz (A2 b.length)<|br (decide (v3<(b.length:Int))) (vs (Ci v3 b.length 8)<|ca a v3.toNat fun c=>vw .go<|vw .go<|cf Tryz.prog 1 [.agg ((Cb c).map .d)] (d c) (fun y=>vB y) fun e=>br (!e) (vw .go<|vs (Ci v2 b.length 8)<|vs (st a v2.toNat c)<|Gf 0 ((Rw.f (c:Slt)).map .d) (fun _=>nA _)<|vs (wi (v2+1))<|vs (wi (v3+1))<|vz (fl (a.set v2.toNat c))<|ln (X0 b) ((v2+1),(v3+1),a.set v2.toNat c)) (vs (wi (v3+1))<|vz (fl a)<|ln (X0 b) (v2,(v3+1),a))) (vz (fl a)<|Ak (re b) (v2,a))
def N4(b:List Slt)(a:Slt→Option Bool):Int×Int×List Slt→Option (Lv (Int×Int×List Slt) (Int×List Slt) (List Slt)):=fun(v2,v3,c)=>(S8 b a v2 v3 c).m
def VS(c:List Slt)(a:Int)(b:List Slt):PT 1 (List Slt):=sR c.length 0 (.it a) .no<|cr b (0+a.toNat) (c.length-a.toNat) [vI 0,vI 0,.d (.int .u64 0),vS ⟨#[]⟩,.e0,.e0,.e0,.e0]<|Gf 0 ([vI 0,vI 0,.d (.int .u64 0),vS ⟨#[]⟩,.e0,.e0,.e0,.e0]) (fun _=>xJ (by kernel_rfl))<|H4 0 b (0+a.toNat) (c.length-a.toNat) [vI 0,vI 0,.d (.int .u64 0),vS ⟨#[]⟩,.e0,.e0,.e0,.e0]<|vw .sep<|sR c.length 0 .no (.it a)<|DK (a.toNat=(b.take (0+a.toNat)).length) (fun E=>E.P (.ref (0,0) 0 0 a.toNat) ([⟨0,true,67,8,Ae Ag (b.take (0+a.toNat))⟩])) (b.take (0+a.toNat))
def WU(a:List Slt)(c:Slt→Option Bool)(b:Int):PT 1 (List Slt):=vs (wi (b+1))<|vz (fl a)<|lc (Ab [(0,.ref (0,0) 0 0 a.length),(1,.fn (.yield 1) [] []),(5,vI b),(6,vI (b+1))] [(Ml a)]) ((Ao (N4 a c) Aj (b,(b+1),a)).bind (Sum.elim (fun(e,d)=>(VS a e d).m) some))
def WB(a:List Slt)(b:Slt→Option Bool):PT 1 (List Slt):=cs Tryz.prog 62 [.ref (0,0) 0 0 a.length,.fn (.yield 1) [] []] [(0,0)] [(Ml a)] (QT a b) (fun y=>vI y) fun c=>br (decide (c=((-1):Int))) (lr Uo (Uy) a) (vz (fl a)<|lc (Ab [(0,.ref (0,0) 0 0 a.length),(1,.fn (.yield 1) [] []),(5,vI c)] [(Ml a)]) ((WU a b c).m))
def MW(b:List Slt)(a:Slt→Option Bool):Option (List Slt):=(WB b a).m
theorem ZGN{C:Cx}(co:CO C 1)(b:List Slt)(a:Slt→Option Bool)(f:(l8 a) C.no C.l C.H0 C.θ):KL Tryz.prog (AE tl) 42 C (pa [0,0,1,0,1,1,1] (AB Tryz.f35)) [.tmp 4] 1 (X0 b) (re b) Uo (Uy) (N4 b a):=fun(v2,v3,h) _ hm Q c e d=>AD co Aa Ad (S8 b a v2 v3 h) (Af [0,1,5,6] Da) (Af [0,5] Da) e hm d fun r g=>⟨fun i=>⟨⟨fun y hy=>f _ y hy,by intro r;kernel_rfl,by intro r y;kernel_rfl⟩,fun j=>⟨id,id⟩⟩,id⟩
theorem tb(b:List Slt)(a:Slt→Option Bool):KO Tryz.prog 35 1 [.ref (0,0) 0 0 b.length,.fn (.yield 1) [] []] [⟨0,true,67,8,Ae Ag b⟩] (l8 a) (MW b a) Uo (Uy):=A8 Tryz.func35 Tryz.ntmps35 Aa [.tmp 4] 1 (fun C co e y hm d c=>Al co Aa Ad 3 (WB b a) (Af [0,1,5] Da) nl (fun _ h=>h) hm c fun r g=>⟨fun y hy=>BJ (ZKB b a) hy co g [(Ml b)] [] (AM [(1,r.θ 1)]) (fun m o f=>(fun z0 y i=>KP co g [(Ml b)] f (e z0 y i))) (fun H=>⟨fun _=>⟨rfl,Bl (AW _ _) (by kernel_rfl)⟩,by kernel_rfl,trivial⟩),fun l=>⟨id,fun _ hm c=>sq (Al co Aa Ad 1 (WU b a l) (Af [0,1,5,6] Da) nl (fun _ h=>h) hm c fun r g=>fun _ hm c=>bk 0 (lo (AK (ZGN co b a e) (fun _ h=>h) hm c (fun(k,j) hm=>An co Aa Ad (VS b k j) hm c fun r g=>fun h c=>zR (congrArg (fun n=>(.ref (0,0) 0 0 n:AV)) h) c))))⟩⟩) (hB:=fun y=>⟨.inl (AW _ _),rfl,trivial⟩)
abbrev Up:List Slt→AV:=fun y=>.ref (0,0) 1 0 y.length
@[reducible] def Uz:List Slt→List Blk:=fun y=>[⟨1,true,67,8,Ae Ag y⟩]
def WQ(a:List Slt):PT 1 (List Slt):=al Ag a false fun b=>br b (vw .sep<|vw (.ads 2 2 67 8)<|mv 2 0 ([]:List Slt)<|lr Up (Uz) ([]:List Slt)) (a0 a<|mv 7 0 a<|lr Up (Uz) a)
def I8(a:List Slt):Option (List Slt):=(WQ a).m
theorem PI(a:List Slt):KO Tryz.prog 36 1 [vL Ag a] [⟨0,false,0,0,[]⟩] (fun _ _ _ _=>True) (I8 a) Up (Uz):=A8 Tryz.func36 Tryz.ntmps36 Aa [.tmp 2] 1 (fun C co f y hm c d=>An co Aa Ad (WQ a) hm d fun r g=>⟨fun e=>⟨id,id⟩,by intro b h;subst h;cases b<;>rfl⟩) (hB:=fun y=>⟨.inl (AW _ _),rfl,trivial⟩)
abbrev lB:Bool→AV:=fun y=>vB y
@[reducible] def lY(w0:Int):Bool→List Blk:=fun y=>[⟨0,true,3,1,[vI w0]⟩]
def qH(a:Slt)(w0:Int):PT 1 (Bool):=vw .go<|vw .go<|lr lB (lY w0) (decide (a.num=w0))
def QV(a:Slt)(w0:Int):Option (Bool):=(qH a w0).m
theorem ZTq(a:Slt)(w0:Int):KO Tryz.prog 37 1 [.agg ((Cb a).map .d),.ptr (0,0) 0 0] [⟨0,true,3,1,[vI w0]⟩] (fun _ _ _ _=>True) (QV a w0) lB (lY w0):=A8 Tryz.func37 Tryz.ntmps37 Aa [.tmp 3] 1 (fun C co d y hm b c=>An co Aa Ad (qH a w0) hm c fun r g=>id) (hB:=fun y=>⟨.inr (by kernel_rfl),rfl,trivial⟩)
abbrev JI(a:Int):Ac×Blk:=((1,3),⟨0,true,3,1,[vI a]⟩)
abbrev Pc:Ac×Blk:=((1,4),⟨0,true,33,7,[vI 0,.d (.int .u64 0),vS ⟨#[]⟩,.e0,.e0,.e0,.e0]⟩)
abbrev Z2(a:Val):Ac×Blk:=((1,2),⟨0,true,33,7,[vI a.kind,.d (.int .u64 a.bits),vS a.text,vL Ap a.list,vL Aq a.pairs,vL Ag a.slots,vL As a.raws]⟩)
abbrev lu:Val→AV:=fun y=>.agg ((Ai y).map .d)
def VN(a:Val)(b:List Slt):PT 0 (Val):=vw .go<|vw .go<|vz (fr b)<|lr lu (fun _=>[]) (.mk a.kind a.bits a.text a.list a.pairs b a.raws:Val)
def Za(a:Val)(b:List Slt):PT 0 (Val):=vw .go<|vz (fl b)<|lc (Ab [(2,.ptr (1,2) 0 0),(4,.ptr (1,4) 0 0)] [((1,2),⟨0,true,33,7,[vI a.kind,.d (.int .u64 a.bits),vS a.text,vL Ap a.list,vL Aq a.pairs,.ref (1,7) 0 0 b.length,vL As a.raws]⟩),Pc,((1,7),⟨0,true,67,8,Ae Ag b⟩)]) ((VN a b).m)
def Zd(b:Val)(c:Int)(a:List Slt):PT 0 (Val):=vz (fl a)<|lc (Ab [(2,.ptr (1,2) 0 0),(4,.ptr (1,4) 0 0),(7,.ref (1,7) 0 0 a.length),(8,.fn (.func 37) [] [.ptr (1,3) 0 0])] [(Z2 b),(JI c),Pc,((1,7),⟨0,true,67,8,Ae Ag a⟩)]) ((MW a (fun(z0:Slt)=>QV z0 c)).bind fun d=>(Za b d).m)
def XE(a:Val)(b:Int):PT 0 (Val):=vw .go<|lc (Ab [(2,.ptr (1,2) 0 0),(3,.ptr (1,3) 0 0),(4,.ptr (1,4) 0 0),(6,vL Ag a.slots)] [(Z2 a),(JI b),Pc]) ((I8 a.slots).bind fun c=>(Zd a b c).m)
def W9(a:Val)(b:Int):PT 0 (Val):=lc (Ab [(2,.ptr (1,2) 0 0),(3,.ptr (1,3) 0 0),(4,.ptr (1,4) 0 0)] [(Z2 a),(JI b),Pc]) ((XE a b).m)
def bN(a:Val)(b:Int):Option (Val):=(W9 a b).m
theorem Zo(c:Val)(a:Int):KC Tryz.prog 11 [.agg ((Ai c).map .d),vI a] (bN c a) lu:=Av Tryz.func11 Tryz.ntmps11 Aa [.cell 4 33] fun C co y hm f b=>Al co Aa Ad 1 (W9 c a) (Af [2,3,4] [((1,2),false),((1,3),false),((1,4),false)]) nl (fun _ h=>h) hm b fun r g=>fun _ hm b=>sq (rg (Br co Aa 2 (XE c a) (Af [2,3,4,6] [((1,2),false),((1,3),false),((1,4),false)]) hm b fun r g=>fun _ hm b=>GD co hm 36 [vL Ag c.slots] [(1,7)] ([((1,7),⟨0,false,0,0,[]⟩)]++[]) (fun z=>.ref (1,7) 1 0 z.length) (fun z=>[((1,7),⟨1,true,67,8,Ae Ag z⟩)]) [] (fun z=>trivial) (trivial) (fun z e r g=>DA (PI c.slots) e co g [((1,7),⟨0,false,0,0,[]⟩)] [] [((1,7),⟨1,true,67,8,Ae Ag z⟩)] (AM []) (fun k i m=>trivial) (fun H=>⟨(fun h=>by cases h),by kernel_rfl,trivial⟩) (fun H=>⟨fun _=>⟨rfl,Bl (AW _ _) (by kernel_rfl)⟩,by kernel_rfl,trivial⟩)) fun d hm=>Br co Aa 1 (Zd c a d) (Af [2,4,7,8] [((1,2),false),((1,3),false),((1,4),false),((1,7),true)]) hm b fun r g=>fun _ hm b=>GD co hm 35 [.ref (1,7) 0 0 d.length,.fn (.func 37) [] [.ptr (1,3) 0 0]] [(1,7),(1,3)] ([((1,7),⟨0,true,67,8,Ae Ag d⟩)]++[(JI a)]) (fun z=>.ref (1,7) 0 0 z.length) (fun z=>[((1,7),⟨0,true,67,8,Ae Ag z⟩)]) [] (fun z=>trivial) (trivial) (fun z e r g=>DA (tb d (fun(z0:Slt)=>QV z0 a)) e co g [((1,7),⟨0,true,67,8,Ae Ag d⟩)] [(JI a)] [((1,7),⟨0,true,67,8,Ae Ag z⟩)] (AM [(1,.fn (.func 37) [] [.ptr (r.κ (1,3)) (r.γ (1,3)+0) 0])]) (fun k i m=>(fun z0 y e=>Dg (ZTq z0 a) e co g [(JI a)] [((1,7),⟨0,true,67,8,Ae Ag d⟩)] i (by simp) (fun _=>.top) (fun _ _=>trivial) (fun l H=>⟨fun _=>⟨rfl,by kernel_rfl⟩,by kernel_rfl,trivial⟩))) (fun H=>⟨fun _=>⟨rfl,Bl (AW _ _) (by kernel_rfl)⟩,by kernel_rfl,trivial⟩) (fun H=>⟨fun _=>⟨rfl,Bl (AW _ _) (by kernel_rfl)⟩,by kernel_rfl,trivial⟩)) fun j hm=>A4 co Aa (Za c j) (Af [2,4] [((1,2),false),((1,4),false),((1,7),true)]) hm b fun r g=>fun _ hm b=>An co Aa Ad (VN c j) hm b fun r g=>id))
abbrev D6:List (Ac×Bool):=[((1,4),false)]
abbrev Qj:Ac×Blk:=((1,4),⟨0,true,48,5,[vS ⟨#[]⟩,.e0,.e0,.e0,.e0]⟩)
abbrev PY:Msg×Bool→AV:=fun y=>.tup [.agg ((AH y.1).map .d),vB y.2]
def tp(a:Msg→Option Bool):Cl:=fun no l H θ=>(∀(z0:Msg) y,a z0=some y→Cg Tryz.prog l no H (θ 1) [.agg ((AH z0).map .d)] (vB y))
def nQ(a:List Msg):Nat→St:=fun b=>Ab [(1,.fn (.yield 1) [] []),(4,.ptr (1,4) 0 0),(9,vL AH a),(10,vN a.length),(11,vN b)] [Qj]
def nk:Unit→Nat×St:=fun _=>(0,Ab [(4,.ptr (1,4) 0 0)] [Qj])
def Sg(c:List Msg)(d:Msg→Option Bool)(a:Nat):PT 0 (Lv (Nat) (Unit) (Msg×Bool)):=br (decide ((a:Int)<(c.length:Int))) (ix c a fun b=>vw .go<|vw .go<|cf Tryz.prog 1 [.agg ((AH b).map .d)] (d b) (fun y=>vB y) fun e=>br e (vw .go<|vw .go<|Au PY (fun _=>[]) (b,true)) (vs (wa a 1)<|ln (nQ c) (a+1))) (Ak (nk) ())
def NF(b:List Msg)(a:Msg→Option Bool):Nat→Option (Lv (Nat) (Unit) (Msg×Bool)):=fun c=>(Sg b a c).m
def iB:PT 0 (Msg×Bool):=vw .go<|vw .go<|lr PY (fun _=>[]) ((.mk ⟨#[]⟩ [] [] [] []:Msg),false)
def iM(a:List Msg)(b:Msg→Option Bool):PT 0 (Msg×Bool):=vz (Ah a)<|lc (Ab [(1,.fn (.yield 1) [] []),(4,.ptr (1,4) 0 0),(9,vL AH a),(10,vN a.length),(11,vI 0)] [Qj]) ((Ao (NF a b) Aj 0).bind (Sum.elim (fun _=>(iB).m) some))
def gn(b:List Msg)(a:Msg→Option Bool):PT 0 (Msg×Bool):=lc (Ab [(0,vL AH b),(1,.fn (.yield 1) [] []),(4,.ptr (1,4) 0 0)] [Qj]) ((iM b a).m)
def QF(b:List Msg)(a:Msg→Option Bool):Option (Msg×Bool):=(gn b a).m
theorem ZyG{C:Cx}(co:CO C 0)(b:List Msg)(a:Msg→Option Bool)(f:(tp a) C.no C.l C.H0 C.θ):KL Tryz.prog (AE tl) 21 C (pa [0,0,1,0,1] (AB Tryz.f118)) [.cell 4 48,.tmp 5] 0 (nQ b) (nk) PY (fun _=>[]) (NF b a):=fun h _ hm Q c e d=>AD co Aa Ad (Sg b a h) (Af [1,4,9,10,11] D6) (Af [4] D6) e hm d fun r g=>⟨fun i=>⟨⟨fun y hy=>f _ y hy,by intro r;kernel_rfl,by intro r y;kernel_rfl⟩,fun j=>⟨id,id⟩⟩,id⟩
theorem ZOz(c:List Msg)(a:Msg→Option Bool):KO Tryz.prog 118 0 [vL AH c,.fn (.yield 1) [] []] [] (tp a) (QF c a) PY (fun _=>[]):=A8 Tryz.func118 Tryz.ntmps118 Aa [.cell 4 48,.tmp 5] 0 (fun C co e y hm d b=>Al co Aa Ad 1 (gn c a) (Af [0,1,4] D6) nl (fun _ h=>h) hm b fun r g=>fun _ hm b=>sq (Al co Aa Ad 1 (iM c a) (Af [1,4,9,10,11] D6) nl (fun _ h=>h) hm b fun r g=>fun _ hm b=>bk 0 (lo (AK (ZyG co c a e) (fun _ h=>h) hm b (fun _ hm=>An co Aa Ad (iB) hm b fun r g=>id)))))
abbrev ue:Bool→AV:=fun y=>vB y
@[reducible] def sl(w0:ByteArray):Bool→List Blk:=fun y=>[⟨0,true,9,1,[vS w0]⟩]
def nJ(a:Msg)(w0:ByteArray):PT 1 (Bool):=vw .go<|vw .go<|lr ue (sl w0) (decide (a.name=w0))
def Kn(a:Msg)(w0:ByteArray):Option (Bool):=(nJ a w0).m
theorem ZPv(a:Msg)(w0:ByteArray):KO Tryz.prog 119 1 [.agg ((AH a).map .d),.ptr (0,0) 0 0] [⟨0,true,9,1,[vS w0]⟩] (fun _ _ _ _=>True) (Kn a w0) ue (sl w0):=A8 Tryz.func119 Tryz.ntmps119 Aa [.tmp 3] 1 (fun C co d y hm b c=>An co Aa Ad (nJ a w0) hm c fun r g=>id) (hB:=fun y=>⟨.inr (by kernel_rfl),rfl,trivial⟩)
abbrev lO:Msg×Bool→AV:=fun y=>.tup [.agg ((AH y.1).map .d),vB y.2]
def Vi(a:Scm)(b:ByteArray):PT 0 (Msg×Bool):=vw .go<|cs Tryz.prog 118 [vL AH a.messages,.fn (.func 119) [] [.ptr (1,3) 1 0]] [(1,3)] [((1,3),⟨1,true,9,1,[vS b]⟩)] (QF a.messages (fun(z0:Msg)=>Kn z0 b)) (fun y=>.tup [.agg ((AH y.1).map .d),vB y.2]) fun c=>vw .go<|lr lO (fun _=>[]) (c.1,c.2)
def M0(a:Scm)(b:ByteArray):Option (Msg×Bool):=(Vi a b).m
theorem PW(b:Scm)(a:ByteArray):KC Tryz.prog 79 [.agg ((AC b).map .d),vS a] (M0 b a) lO:=Av Tryz.func79 Tryz.ntmps79 Aa [.cell 4 48,.tmp 5] fun C co y hm c d=>An co Aa Ad (Vi b a) hm d fun r g=>⟨fun y hy=>BJ (ZOz b.messages (fun(z0:Msg)=>Kn z0 a)) hy co g [] [((1,3),⟨1,true,9,1,[vS a]⟩)] (AM [(1,.fn (.func 119) [] [.ptr (r.κ (1,3)) (r.γ (1,3)+1) 0])]) (fun h e i=>(fun z0 y f=>Dg (ZPv z0 a) f co g [((1,3),⟨1,true,9,1,[vS a]⟩)] [] e (by simp) (fun _=>.top) (fun _ _=>trivial) (fun l H=>⟨fun _=>⟨rfl,by kernel_rfl⟩,by kernel_rfl,trivial⟩))) (fun H=>trivial),fun j=>id⟩
abbrev lD:Acs×Bool→AV:=fun y=>.tup [.agg ((Fs y.1).map .d),vB y.2]
def Xj(a:Scm)(c:ByteArray):PT 0 (Acs×Bool):=vw .go<|cl (PW a c) fun b=>vw .go<|vw .go<|vw .go<|vw .go<|lr lD (fun _=>[]) ((.mk b.1 a:Acs),b.2)
def QJ(a:Scm)(b:ByteArray):Option (Acs×Bool):=(Xj a b).m
theorem Qr(a:Scm)(b:ByteArray):KC Tryz.prog 44 [.agg ((AC a).map .d),vS b] (QJ a b) lD:=Av Tryz.func44 Tryz.ntmps44 Aa [.cell 4 69,.tmp 5] fun C co y hm c d=>An co Aa Ad (Xj a b) hm d fun r g=>fun e=>id
abbrev Qh:Ac×Blk:=((1,4),⟨0,true,54,16,[vI 0,vS ⟨#[]⟩,vI 0,vI 0,vI 0,vS ⟨#[]⟩,vS ⟨#[]⟩,vB false,vI 0,.d (.int .u64 0),vS ⟨#[]⟩,.e0,.e0,.e0,.e0,.e0]⟩)
abbrev OL:Fld×Bool→AV:=fun y=>.tup [.agg ((Ar y.1).map .d),vB y.2]
def mc(a:Fld→Option Bool):Cl:=fun no l H θ=>(∀(z0:Fld) y,a z0=some y→Cg Tryz.prog l no H (θ 1) [.agg ((Ar z0).map .d)] (vB y))
def pA(a:List Fld):Nat→St:=fun b=>Ab [(1,.fn (.yield 1) [] []),(4,.ptr (1,4) 0 0),(9,vL Ar a),(10,vN a.length),(11,vN b)] [Qh]
def p9:Unit→Nat×St:=fun _=>(0,Ab [(4,.ptr (1,4) 0 0)] [Qh])
def Ta(c:List Fld)(d:Fld→Option Bool)(a:Nat):PT 0 (Lv (Nat) (Unit) (Fld×Bool)):=br (decide ((a:Int)<(c.length:Int))) (ix c a fun b=>vw .go<|vw .go<|cf Tryz.prog 1 [.agg ((Ar b).map .d)] (d b) (fun y=>vB y) fun e=>br e (vw .go<|vw .go<|Au OL (fun _=>[]) (b,true)) (vs (wa a 1)<|ln (pA c) (a+1))) (Ak (p9) ())
def NU(b:List Fld)(a:Fld→Option Bool):Nat→Option (Lv (Nat) (Unit) (Fld×Bool)):=fun c=>(Ta b a c).m
def X2:PT 0 (Fld×Bool):=vw .go<|vw .go<|lr OL (fun _=>[]) ((.mk 0 ⟨#[]⟩ 0 0 (.mk 0 ⟨#[]⟩:Typ) ⟨#[]⟩ false (.mk 0 0 ⟨#[]⟩ [] [] [] []:Val) []:Fld),false)
def Wo(a:List Fld)(b:Fld→Option Bool):PT 0 (Fld×Bool):=vz (Ah a)<|lc (Ab [(1,.fn (.yield 1) [] []),(4,.ptr (1,4) 0 0),(9,vL Ar a),(10,vN a.length),(11,vI 0)] [Qh]) ((Ao (NU a b) Aj 0).bind (Sum.elim (fun _=>(X2).m) some))
def Va(b:List Fld)(a:Fld→Option Bool):PT 0 (Fld×Bool):=lc (Ab [(0,vL Ar b),(1,.fn (.yield 1) [] []),(4,.ptr (1,4) 0 0)] [Qh]) ((Wo b a).m)
def QS(b:List Fld)(a:Fld→Option Bool):Option (Fld×Bool):=(Va b a).m
theorem ZGF{C:Cx}(co:CO C 0)(b:List Fld)(a:Fld→Option Bool)(f:(mc a) C.no C.l C.H0 C.θ):KL Tryz.prog (AE tl) 21 C (pa [0,0,1,0,1] (AB Tryz.f85)) [.cell 4 54,.tmp 5] 0 (pA b) (p9) OL (fun _=>[]) (NU b a):=fun h _ hm Q c e d=>AD co Aa Ad (Ta b a h) (Af [1,4,9,10,11] D6) (Af [4] D6) e hm d fun r g=>⟨fun i=>⟨⟨fun y hy=>f _ y hy,by intro r;kernel_rfl,by intro r y;kernel_rfl⟩,fun j=>⟨id,id⟩⟩,id⟩
theorem ZSH(c:List Fld)(a:Fld→Option Bool):KO Tryz.prog 85 0 [vL Ar c,.fn (.yield 1) [] []] [] (mc a) (QS c a) OL (fun _=>[]):=A8 Tryz.func85 Tryz.ntmps85 Aa [.cell 4 54,.tmp 5] 0 (fun C co e y hm d b=>Al co Aa Ad 1 (Va c a) (Af [0,1,4] D6) nl (fun _ h=>h) hm b fun r g=>fun _ hm b=>sq (Al co Aa Ad 1 (Wo c a) (Af [1,4,9,10,11] D6) nl (fun _ h=>h) hm b fun r g=>fun _ hm b=>bk 0 (lo (AK (ZGF co c a e) (fun _ h=>h) hm b (fun _ hm=>An co Aa Ad (X2) hm b fun r g=>id)))))
abbrev lQ:Bool→AV:=fun y=>vB y
@[reducible] def l5(w0:Int):Bool→List Blk:=fun y=>[⟨0,true,3,1,[vI w0]⟩]
def pU(a:Fld)(w0:Int):PT 1 (Bool):=vw .go<|vw .go<|lr lQ (l5 w0) (decide (a.num=w0))
def Kl(a:Fld)(w0:Int):Option (Bool):=(pU a w0).m
theorem ZSk(a:Fld)(w0:Int):KO Tryz.prog 86 1 [.agg ((Ar a).map .d),.ptr (0,0) 0 0] [⟨0,true,3,1,[vI w0]⟩] (fun _ _ _ _=>True) (Kl a w0) lQ (l5 w0):=A8 Tryz.func86 Tryz.ntmps86 Aa [.tmp 3] 1 (fun C co d y hm b c=>An co Aa Ad (pU a w0) hm c fun r g=>id) (hB:=fun y=>⟨.inr (by kernel_rfl),rfl,trivial⟩)
abbrev lI:Fld×Bool→AV:=fun y=>.tup [.agg ((Ar y.1).map .d),vB y.2]
def XH(a:Msg)(b:Int):PT 0 (Fld×Bool):=vw .go<|cs Tryz.prog 85 [vL Ar a.fields,.fn (.func 86) [] [.ptr (1,3) 1 0]] [(1,3)] [((1,3),⟨1,true,3,1,[vI b]⟩)] (QS a.fields (fun(z0:Fld)=>Kl z0 b)) (fun y=>.tup [.agg ((Ar y.1).map .d),vB y.2]) fun c=>vw .go<|lr lI (fun _=>[]) (c.1,c.2)
def cN(a:Msg)(b:Int):Option (Fld×Bool):=(XH a b).m
theorem JU(b:Msg)(a:Int):KC Tryz.prog 53 [.agg ((AH b).map .d),vI a] (cN b a) lI:=Av Tryz.func53 Tryz.ntmps53 Aa [.cell 4 54,.tmp 5] fun C co y hm c d=>An co Aa Ad (XH b a) hm d fun r g=>⟨fun y hy=>BJ (ZSH b.fields (fun(z0:Fld)=>Kl z0 a)) hy co g [] [((1,3),⟨1,true,3,1,[vI a]⟩)] (AM [(1,.fn (.func 86) [] [.ptr (r.κ (1,3)) (r.γ (1,3)+1) 0])]) (fun h e i=>(fun z0 y f=>Dg (ZSk z0 a) f co g [((1,3),⟨1,true,3,1,[vI a]⟩)] [] e (by simp) (fun _=>.top) (fun _ _=>trivial) (fun l H=>⟨fun _=>⟨rfl,by kernel_rfl⟩,by kernel_rfl,trivial⟩))) (fun H=>trivial),fun j=>id⟩
abbrev Oy:Acs×Fld×Int→AV:=fun y=>.tup [.agg ((Fs y.1).map .d),.agg ((Ar y.2.1).map .d),vI y.2.2]
def K6(a:Acs×Bool)(b:Fld×Bool):PT 0 (Acs×Fld×Int):=lr Oy (fun _=>[]) (a.1,b.1,0)
def La(b:Acs×Bool)(a:Fld×Bool):PT 0 (Acs×Fld×Int):=vw (.fzb 9 [9])<|vw (.fzb 11 [11])<|vw .sep<|vw .go<|vw .go<|lc (Ab [(6,.ptr (1,6) 0 0),(7,.ptr (1,7) 0 0),(8,vI 0)] [((1,6),⟨0,true,69,8,[vS b.1.m.name,vL Ar b.1.m.fields,vL AR b.1.m.reserved,vL Az b.1.m.gone,vL Ay b.1.m.notes,vL AH b.1.s.messages,vL AQ b.1.s.enums,vL AX b.1.s.services]⟩),((1,7),⟨0,true,54,16,[vI a.1.num,vS a.1.name,vI a.1.card,vI a.1.key,vI a.1.type.kind,vS a.1.type.name,vS a.1.union,vB a.1.hasDefault,vI a.1.dflt.kind,.d (.int .u64 a.1.dflt.bits),vS a.1.dflt.text,vL Ap a.1.dflt.list,vL Aq a.1.dflt.pairs,vL Ag a.1.dflt.slots,vL As a.1.dflt.raws,vL Ay a.1.notes]⟩)]) ((K6 b a).m)
def K4(c:Scm)(d:ByteArray)(e:Int):PT 0 (Acs×Fld×Int):=vw .go<|cl (Qr c d) fun b=>vw .go<|br (!b.2) (vw .go<|vw .go<|vw .go<|lr Oy (fun _=>[]) (b.1,(.mk 0 ⟨#[]⟩ 0 0 (.mk 0 ⟨#[]⟩:Typ) ⟨#[]⟩ false (.mk 0 0 ⟨#[]⟩ [] [] [] []:Val) []:Fld),10)) (vw .go<|cl (JU b.1.m e) fun a=>vw .go<|br (!a.2) (vw .go<|vw .go<|vw .go<|lr Oy (fun _=>[]) (b.1,(.mk 0 ⟨#[]⟩ 0 0 (.mk 0 ⟨#[]⟩:Typ) ⟨#[]⟩ false (.mk 0 0 ⟨#[]⟩ [] [] [] []:Val) []:Fld),8)) (lc (Ab [(6,.ptr (1,6) 0 0),(7,.ptr (1,7) 0 0),(9,.ptr (1,9) 0 0),(11,.ptr (1,11) 0 0)] [((1,6),⟨0,true,69,8,[vS ⟨#[]⟩,.e0,.e0,.e0,.e0,.e0,.e0,.e0]⟩),((1,7),⟨0,true,54,16,[vI 0,vS ⟨#[]⟩,vI 0,vI 0,vI 0,vS ⟨#[]⟩,vS ⟨#[]⟩,vB false,vI 0,.d (.int .u64 0),vS ⟨#[]⟩,.e0,.e0,.e0,.e0,.e0]⟩),((1,9),⟨0,true,69,8,[vS b.1.m.name,vL Ar b.1.m.fields,vL AR b.1.m.reserved,vL Az b.1.m.gone,vL Ay b.1.m.notes,vL AH b.1.s.messages,vL AQ b.1.s.enums,vL AX b.1.s.services]⟩),((1,11),⟨0,true,54,16,[vI a.1.num,vS a.1.name,vI a.1.card,vI a.1.key,vI a.1.type.kind,vS a.1.type.name,vS a.1.union,vB a.1.hasDefault,vI a.1.dflt.kind,.d (.int .u64 a.1.dflt.bits),vS a.1.dflt.text,vL Ap a.1.dflt.list,vL Aq a.1.dflt.pairs,vL Ag a.1.dflt.slots,vL As a.1.dflt.raws,vL Ay a.1.notes]⟩)]) ((La b a).m)))
def Gm(a:Scm)(b:ByteArray)(c:Int):Option (Acs×Fld×Int):=(K4 a b c).m
theorem tc(b:Scm)(c:ByteArray)(d:Int):KC Tryz.prog 25 [.agg ((AC b).map .d),vS c,vI d] (Gm b c d) Oy:=Av Tryz.func25 Tryz.ntmps25 Aa [.cell 6 69,.cell 7 54,.tmp 8] fun C co y hm e a=>Al co Aa Ad 5 (K4 b c d) (Af [6,7,9,11] [((1,6),false),((1,7),false),((1,9),false),((1,11),false)]) nl (fun _ h=>h) hm a fun r g=>fun f=>⟨id,fun i=>⟨id,fun _ hm a=>sq (IP co Aa Ad (.fst 0 (.fst 1 (.fst 2 (.fst 3 (.fst 4 .nil))))) [9,11] (La f i) (Af [6,7,8] [((1,6),false),((1,7),false)]) hm a fun r g=>fun _ hm a=>An co Aa Ad (K6 f i) hm a fun r g=>id)⟩⟩
abbrev lX:Bool→AV:=fun y=>vB y
def N6(a:Int):PT 0 (Bool):=lr lX (fun _=>[]) (decide ((1:Int)≤a)&&decide (a≤(9:Int)))
def I7(a:Int):Option (Bool):=(N6 a).m
theorem Ke(a:Int):KC Tryz.prog 96 [vI a] (I7 a) lX:=Av Tryz.func96 Tryz.ntmps96 Aa [.tmp 2] fun C co y hm b c=>An co Aa Ad (N6 a) hm c fun r g=>id
abbrev sW:Bool→AV:=fun y=>vB y
def Sf(a:Int):PT 0 (Bool):=lr sW (fun _=>[]) (decide (a=(7:Int))||decide (a=(8:Int)))
def Q5(a:Int):Option (Bool):=(Sf a).m
theorem rE(a:Int):KC Tryz.prog 141 [vI a] (Q5 a) sW:=Av Tryz.func141 Tryz.ntmps141 Aa [.tmp 2] fun C co y hm b c=>An co Aa Ad (Sf a) hm c fun r g=>id
abbrev OM:Bool→AV:=fun y=>vB y
def Zg(a:Val):PT 0 (Bool):=vw .go<|vz (Ah a.list)<|vw .go<|vz (Ah a.pairs)<|vs (wa a.list.length a.pairs.length)<|vw .go<|vz (Ah a.slots)<|vs (wa (a.list.length+a.pairs.length) a.slots.length)<|vw .go<|vz (Ah a.raws)<|vs (wa ((a.list.length+a.pairs.length)+a.slots.length) a.raws.length)<|br (decide ((0:Int)<((((a.list.length+a.pairs.length)+a.slots.length)+a.raws.length:Nat):Int))) (lr OM (fun _=>[]) false) (vw .go<|cl (rE a.kind) fun b=>br b (vw .go<|lr OM (fun _=>[]) (decide (a.bits=(0:Int)))) (vw .go<|lr OM (fun _=>[]) (decide (a.text=(⟨#[]⟩:ByteArray)))))
def b8(a:Val):Option (Bool):=(Zg a).m
theorem sN(a:Val):KC Tryz.prog 97 [.agg ((Ai a).map .d)] (b8 a) OM:=Av Tryz.func97 Tryz.ntmps97 Aa [.tmp 2] fun C co y hm b c=>An co Aa Ad (Zg a) hm c fun r g=>⟨id,fun d=>⟨id,id⟩⟩
abbrev Ki:Bool→AV:=fun y=>vB y
def kx(b:Int)(a:Int):PT 0 (Bool):=br (decide (b=(1:Int))) (lr Ki (fun _=>[]) (decide (a≤(1:Int)))) (br (decide (b=(2:Int))) (vz (wk .i64 a)<|vy (decide (((-2147483648):Int)≤(IntKind.i64.wrap a))) (wk .i64 a)<|lr Ki (fun _=>[]) (decide (((-2147483648):Int)≤(IntKind.i64.wrap a))&&decide ((IntKind.i64.wrap a)≤(2147483647:Int)))) (br (decide (b=(9:Int))) (lr Ki (fun _=>[]) (decide (a≤(2147483647:Int)))) (br (decide (b=(4:Int))) (lr Ki (fun _=>[]) (decide (a≤(4294967295:Int)))) (lr Ki (fun _=>[]) true))))
def bJ(a:Int)(b:Int):Option (Bool):=(kx a b).m
theorem ZOo(a:Int)(b:Int):KC Tryz.prog 133 [vI a,.d (.int .u64 b)] (bJ a b) Ki:=Av Tryz.func133 Tryz.ntmps133 Aa [.tmp 4] fun C co y hm c d=>An co Aa Ad (kx a b) hm d fun r g=>⟨id,⟨id,⟨id,⟨id,id⟩⟩⟩⟩
abbrev um:Bool→AV:=fun y=>vB y
def ij(b:ByteArray)(a:ByteArray):PT 0 (Bool):=vz (A2 b.size)<|vz (A2 a.size)<|vy (decide ((a.size:Int)≤(b.size:Int))) (A2 a.size)<|ssg (decide ((a.size:Int)≤(b.size:Int))) b .no (.nt a.size) fun s1=>lr um (fun _=>[]) (decide ((a.size:Int)≤(b.size:Int))&&decide (s1=a))
def uv(a:ByteArray)(b:ByteArray):Option (Bool):=(ij a b).m
theorem ZPb(a:ByteArray)(b:ByteArray):KC Tryz.prog 231 [vS a,vS b] (uv a b) um:=Av Tryz.func231 Tryz.ntmps231 Aa [.tmp 4] fun C co y hm c d=>An co Aa Ad (ij a b) hm d fun r g=>fun s1=>id
abbrev sI:Bool→AV:=fun y=>vB y
def fC(a:ByteArray)(b:ByteArray):PT 0 (Bool):=cl (ZPb a b) fun c=>lr sI (fun _=>[]) c
def bw(a:ByteArray)(b:ByteArray):Option (Bool):=(fC a b).m
theorem ZO9(a:ByteArray)(b:ByteArray):KC Tryz.prog 217 [vS a,vS b] (bw a b) sI:=Av Tryz.func217 Tryz.ntmps217 Aa [.tmp 4] fun C co y hm c d=>An co Aa Ad (fC a b) hm d fun r g=>fun e=>id
abbrev tv:Bool→AV:=fun y=>vB y
def fi(b:ByteArray)(c:Int)(a:Int):PT 0 (Bool):=ssg (decide (a=(65533:Int))) b (.it c) .no fun s1=>clg (decide (a=(65533:Int))) (ZO9 s1 (⟨#[239,191,189]⟩)) fun d=>lr tv (fun _=>[]) (decide (a=(65533:Int))&&(!d))
def cJ(a:ByteArray)(b:Int)(c:Int):Option (Bool):=(fi a b c).m
theorem ZO2(a:ByteArray)(b:Int)(c:Int):KC Tryz.prog 191 [vS a,vI b,.d (.int .i32 c)] (cJ a b c) tv:=Av Tryz.func191 Tryz.ntmps191 Aa [.tmp 6] fun C co y hm d e=>An co Aa Ad (fi a b c) hm e fun r g=>fun s1=>fun f=>id
abbrev P2:Int→AV:=fun y=>vI y
def m0(a:ByteArray):Nat→St:=fun b=>Ab [(0,vS a),(6,.ptr (1,6) 0 0)] [((1,6),⟨0,true,.s a b,0,[]⟩)]
def yn:Unit→Nat×St:=fun _=>(0,Ab [] [])
def iC(b:ByteArray)(a:Nat):PT 0 (Lv (Nat) (Unit) (Int)):=br (decide (a<b.size)) (vw .go<|cl (ZO2 b (a:Int) (HU b a)) fun c=>br c (Au P2 (fun _=>[]) (a:Int)) (ln (m0 b) (a+Eb b a))) (vw .go<|Ak (yn) ())
def Se(a:ByteArray):Nat→Option (Lv (Nat) (Unit) (Int)):=fun b=>(iC a b).m
def fa:PT 0 (Int):=lr P2 (fun _=>[]) (-1)
def kF(a:ByteArray):PT 0 (Int):=lc (Ab [(0,vS a),(6,.ptr (1,6) 0 0)] [((1,6),⟨0,true,.s a 0,0,[]⟩)]) ((Ao (Se a) Aj 0).bind (Sum.elim (fun _=>(fa).m) some))
def eO(a:ByteArray):PT 0 (Int):=lc (Ab [(0,vS a)] []) ((kF a).m)
def wv(a:ByteArray):Option (Int):=(eO a).m
theorem ZyF{C:Cx}(co:CO C 0)(a:ByteArray):KL Tryz.prog (AE tl) 16 C (pa [0,0,1,0,1] (AB Tryz.f166)) [.tmp 2] 0 (m0 a) (yn) P2 (fun _=>[]) (Se a):=fun e _ hm Q b d c=>AD co Aa Ad (iC a e) (Af [0,6] [((1,6),false)]) nl d hm c fun r g=>⟨fun f=>⟨id,id⟩,id⟩
theorem ZPB(b:ByteArray):KC Tryz.prog 166 [vS b] (wv b) P2:=Av Tryz.func166 Tryz.ntmps166 Aa [.tmp 2] fun C co y hm c a=>Al co Aa Ad 1 (eO b) (AO [0]) nl (fun _ h=>h) hm a fun r g=>fun _ hm a=>sq (Al co Aa Ad 1 (kF b) (Af [0,6] [((1,6),false)]) nl (fun _ h=>h) hm a fun r g=>fun _ hm a=>bk 0 (lo (AK (ZyF co b) (fun _ h=>h) hm a (fun _ hm=>An co Aa Ad (fa) hm a fun r g=>id))))
abbrev ta:Bool→AV:=fun y=>vB y
def jD(a:ByteArray):PT 0 (Bool):=cl (ZPB a) fun b=>lr ta (fun _=>[]) (decide (b<(0:Int)))
def cE(a:ByteArray):Option (Bool):=(jD a).m
theorem rj(a:ByteArray):KC Tryz.prog 134 [vS a] (cE a) ta:=Av Tryz.func134 Tryz.ntmps134 Aa [.tmp 2] fun C co y hm b c=>An co Aa Ad (jD a) hm c fun r g=>fun d=>id
abbrev Uw:Bool→AV:=fun y=>vB y
def V8(b:Int)(a:Val):PT 0 (Bool):=cl (Ke b) fun c=>vw .go<|vw .go<|clg (!((!c)||(!decide (a.kind=b)))) (sN a) fun d=>vw .go<|clg (!(((!c)||(!decide (a.kind=b)))||(!d))) (ZOo b a.bits) fun e=>vw .go<|vy (!((((!c)||(!decide (a.kind=b)))||(!d))||(!e))) (A2 a.text.size)<|br (((((!c)||(!decide (a.kind=b)))||(!d))||(!e))||decide ((4096:Int)<(a.text.size:Int))) (lr Uw (fun _=>[]) false) (vw .go<|clg (!(!decide (b=(7:Int)))) (rj a.text) fun f=>lr Uw (fun _=>[]) ((!decide (b=(7:Int)))||f))
def cj(a:Int)(b:Val):Option (Bool):=(V8 a b).m
theorem ao(a:Int)(b:Val):KC Tryz.prog 89 [vI a,.agg ((Ai b).map .d)] (cj a b) Uw:=Av Tryz.func89 Tryz.ntmps89 Aa [.tmp 4] fun C co y hm c d=>An co Aa Ad (V8 a b) hm d fun r g=>fun e=>fun f=>fun h=>⟨id,fun i=>id⟩
abbrev PU:Ac×Blk:=((1,4),⟨0,true,93,5,[vS ⟨#[]⟩,vB false,.e0,.e0,.e0]⟩)
abbrev Qo:Enm×Bool→AV:=fun y=>.tup [.agg ((AQ y.1).map .d),vB y.2]
def sM(a:Enm→Option Bool):Cl:=fun no l H θ=>(∀(z0:Enm) y,a z0=some y→Cg Tryz.prog l no H (θ 1) [.agg ((AQ z0).map .d)] (vB y))
def nG(a:List Enm):Nat→St:=fun b=>Ab [(1,.fn (.yield 1) [] []),(4,.ptr (1,4) 0 0),(9,vL AQ a),(10,vN a.length),(11,vN b)] [PU]
def nj:Unit→Nat×St:=fun _=>(0,Ab [(4,.ptr (1,4) 0 0)] [PU])
def Sa(c:List Enm)(d:Enm→Option Bool)(a:Nat):PT 0 (Lv (Nat) (Unit) (Enm×Bool)):=br (decide ((a:Int)<(c.length:Int))) (ix c a fun b=>vw .go<|vw .go<|cf Tryz.prog 1 [.agg ((AQ b).map .d)] (d b) (fun y=>vB y) fun e=>br e (vw .go<|vw .go<|Au Qo (fun _=>[]) (b,true)) (vs (wa a 1)<|ln (nG c) (a+1))) (Ak (nj) ())
def NQ(b:List Enm)(a:Enm→Option Bool):Nat→Option (Lv (Nat) (Unit) (Enm×Bool)):=fun c=>(Sa b a c).m
def gq:PT 0 (Enm×Bool):=vw .go<|vw .go<|lr Qo (fun _=>[]) ((.mk ⟨#[]⟩ false [] [] []:Enm),false)
def jr(a:List Enm)(b:Enm→Option Bool):PT 0 (Enm×Bool):=vz (Ah a)<|lc (Ab [(1,.fn (.yield 1) [] []),(4,.ptr (1,4) 0 0),(9,vL AQ a),(10,vN a.length),(11,vI 0)] [PU]) ((Ao (NQ a b) Aj 0).bind (Sum.elim (fun _=>(gq).m) some))
def gy(b:List Enm)(a:Enm→Option Bool):PT 0 (Enm×Bool):=lc (Ab [(0,vL AQ b),(1,.fn (.yield 1) [] []),(4,.ptr (1,4) 0 0)] [PU]) ((jr b a).m)
def bP(b:List Enm)(a:Enm→Option Bool):Option (Enm×Bool):=(gy b a).m
theorem ZxI{C:Cx}(co:CO C 0)(b:List Enm)(a:Enm→Option Bool)(f:(sM a) C.no C.l C.H0 C.θ):KL Tryz.prog (AE tl) 21 C (pa [0,0,1,0,1] (AB Tryz.f136)) [.cell 4 93,.tmp 5] 0 (nG b) (nj) Qo (fun _=>[]) (NQ b a):=fun h _ hm Q c e d=>AD co Aa Ad (Sa b a h) (Af [1,4,9,10,11] D6) (Af [4] D6) e hm d fun r g=>⟨fun i=>⟨⟨fun y hy=>f _ y hy,by intro r;kernel_rfl,by intro r y;kernel_rfl⟩,fun j=>⟨id,id⟩⟩,id⟩
theorem ZPY(c:List Enm)(a:Enm→Option Bool):KO Tryz.prog 136 0 [vL AQ c,.fn (.yield 1) [] []] [] (sM a) (bP c a) Qo (fun _=>[]):=A8 Tryz.func136 Tryz.ntmps136 Aa [.cell 4 93,.tmp 5] 0 (fun C co e y hm d b=>Al co Aa Ad 1 (gy c a) (Af [0,1,4] D6) nl (fun _ h=>h) hm b fun r g=>fun _ hm b=>sq (Al co Aa Ad 1 (jr c a) (Af [1,4,9,10,11] D6) nl (fun _ h=>h) hm b fun r g=>fun _ hm b=>bk 0 (lo (AK (ZxI co c a e) (fun _ h=>h) hm b (fun _ hm=>An co Aa Ad (gq) hm b fun r g=>id)))))
abbrev uh:Bool→AV:=fun y=>vB y
@[reducible] def tY(w0:ByteArray):Bool→List Blk:=fun y=>[⟨0,true,9,1,[vS w0]⟩]
def yu(a:Enm)(w0:ByteArray):PT 1 (Bool):=vw .go<|vw .go<|lr uh (tY w0) (decide (a.name=w0))
def MZ(a:Enm)(w0:ByteArray):Option (Bool):=(yu a w0).m
theorem ZQb(a:Enm)(w0:ByteArray):KO Tryz.prog 137 1 [.agg ((AQ a).map .d),.ptr (0,0) 0 0] [⟨0,true,9,1,[vS w0]⟩] (fun _ _ _ _=>True) (MZ a w0) uh (tY w0):=A8 Tryz.func137 Tryz.ntmps137 Aa [.tmp 3] 1 (fun C co d y hm b c=>An co Aa Ad (yu a w0) hm c fun r g=>id) (hB:=fun y=>⟨.inr (by kernel_rfl),rfl,trivial⟩)
abbrev lU:Enm×Bool→AV:=fun y=>.tup [.agg ((AQ y.1).map .d),vB y.2]
def WT(a:Scm)(b:ByteArray):PT 0 (Enm×Bool):=vw .go<|cs Tryz.prog 136 [vL AQ a.enums,.fn (.func 137) [] [.ptr (1,3) 1 0]] [(1,3)] [((1,3),⟨1,true,9,1,[vS b]⟩)] (bP a.enums (fun(z0:Enm)=>MZ z0 b)) (fun y=>.tup [.agg ((AQ y.1).map .d),vB y.2]) fun c=>vw .go<|lr lU (fun _=>[]) (c.1,c.2)
def cA(a:Scm)(b:ByteArray):Option (Enm×Bool):=(WT a b).m
theorem Qu(b:Scm)(a:ByteArray):KC Tryz.prog 92 [.agg ((AC b).map .d),vS a] (cA b a) lU:=Av Tryz.func92 Tryz.ntmps92 Aa [.cell 4 93,.tmp 5] fun C co y hm c d=>An co Aa Ad (WT b a) hm d fun r g=>⟨fun y hy=>BJ (ZPY b.enums (fun(z0:Enm)=>MZ z0 a)) hy co g [] [((1,3),⟨1,true,9,1,[vS a]⟩)] (AM [(1,.fn (.func 137) [] [.ptr (r.κ (1,3)) (r.γ (1,3)+1) 0])]) (fun h e i=>(fun z0 y f=>Dg (ZQb z0 a) f co g [((1,3),⟨1,true,9,1,[vS a]⟩)] [] e (by simp) (fun _=>.top) (fun _ _=>trivial) (fun l H=>⟨fun _=>⟨rfl,by kernel_rfl⟩,by kernel_rfl,trivial⟩))) (fun H=>trivial),fun j=>id⟩
abbrev P8:Int→AV:=fun y=>vI y
def to(a:Itm→Option Bool):Cl:=fun no l H θ=>(∀(z0:Itm) y,a z0=some y→Cg Tryz.prog l no H (θ 1) [.agg ((Ca z0).map .d)] (vB y))
def y3(a:List Itm):Nat→St:=fun b=>Ab [(0,vL Ca a),(1,.fn (.yield 1) [] []),(7,vN a.length),(8,vN b)] []
def mI:Unit→Nat×St:=fun _=>(0,Ab [] [])
def Sd(b:List Itm)(c:Itm→Option Bool)(a:Nat):PT 0 (Lv (Nat) (Unit) (Int)):=br (decide ((a:Int)<(b.length:Int))) (ix b a fun d=>cf Tryz.prog 1 [.agg ((Ca d).map .d)] (c d) (fun y=>vB y) fun e=>br e (Au P8 (fun _=>[]) (a:Int)) (vs (wa a 1)<|ln (y3 b) (a+1))) (Ak (mI) ())
def ND(b:List Itm)(a:Itm→Option Bool):Nat→Option (Lv (Nat) (Unit) (Int)):=fun c=>(Sd b a c).m
def jG:PT 0 (Int):=lr P8 (fun _=>[]) (-1)
def eG(a:List Itm)(b:Itm→Option Bool):PT 0 (Int):=vz (Ah a)<|lc (Ab [(0,vL Ca a),(1,.fn (.yield 1) [] []),(7,vN a.length),(8,vI 0)] []) ((Ao (ND a b) Aj 0).bind (Sum.elim (fun _=>(jG).m) some))
def jX(b:List Itm)(a:Itm→Option Bool):PT 0 (Int):=lc (Ab [(0,vL Ca b),(1,.fn (.yield 1) [] [])] []) ((eG b a).m)
def bR(b:List Itm)(a:Itm→Option Bool):Option (Int):=(jX b a).m
theorem ZxJ{C:Cx}(co:CO C 0)(b:List Itm)(a:Itm→Option Bool)(f:(to a) C.no C.l C.H0 C.θ):KL Tryz.prog (AE tl) 19 C (pa [0,0,1,0,1] (AB Tryz.f138)) [.tmp 4] 0 (y3 b) (mI) P8 (fun _=>[]) (ND b a):=fun h _ hm Q c e d=>AD co Aa Ad (Sd b a h) (AO [0,1,7,8]) nl e hm d fun r g=>⟨fun i=>⟨⟨fun y hy=>f _ y hy,by intro r;kernel_rfl,by intro r y;kernel_rfl⟩,fun j=>⟨id,id⟩⟩,id⟩
theorem ZPP(c:List Itm)(a:Itm→Option Bool):KO Tryz.prog 138 0 [vL Ca c,.fn (.yield 1) [] []] [] (to a) (bR c a) P8 (fun _=>[]):=A8 Tryz.func138 Tryz.ntmps138 Aa [.tmp 4] 0 (fun C co e y hm d b=>Al co Aa Ad 1 (jX c a) (AO [0,1]) nl (fun _ h=>h) hm b fun r g=>fun _ hm b=>sq (Al co Aa Ad 1 (eG c a) (AO [0,1,7,8]) nl (fun _ h=>h) hm b fun r g=>fun _ hm b=>bk 0 (lo (AK (ZxJ co c a e) (fun _ h=>h) hm b (fun _ hm=>An co Aa Ad (jG) hm b fun r g=>id)))))
abbrev lV:Bool→AV:=fun y=>vB y
def H93(a:Itm→Option Bool):Cl:=fun no l H θ=>(∀(z0:Itm) y,a z0=some y→Cg Tryz.prog l no H (θ 1) [.agg ((Ca z0).map .d)] (vB y))
def XJ(b:List Itm)(a:Itm→Option Bool):PT 0 (Bool):=cs Tryz.prog 138 [vL Ca b,.fn (.yield 1) [] []] [] [] (bR b a) (fun y=>vI y) fun c=>lr lV (fun _=>[]) (decide ((0:Int)≤c))
def MX(b:List Itm)(a:Itm→Option Bool):Option (Bool):=(XJ b a).m
theorem sX(b:List Itm)(a:Itm→Option Bool):KO Tryz.prog 93 0 [vL Ca b,.fn (.yield 1) [] []] [] (H93 a) (MX b a) lV (fun _=>[]):=A8 Tryz.func93 Tryz.ntmps93 Aa [.tmp 4] 0 (fun C co e y hm c d=>An co Aa Ad (XJ b a) hm d fun r g=>⟨fun y hy=>BJ (ZPP b a) hy co g [] [] (AM [(1,r.θ 1)]) (fun i j f=>(fun z0 y h=>KP co g [] f (e z0 y h))) (fun H=>trivial),fun k=>id⟩)
abbrev lW:Bool→AV:=fun y=>vB y
@[reducible] def l7(w0:Val):Bool→List Blk:=fun y=>[⟨0,true,33,7,[vI w0.kind,.d (.int .u64 w0.bits),vS w0.text,vL Ap w0.list,vL Aq w0.pairs,vL Ag w0.slots,vL As w0.raws]⟩]
def o2(a:Itm)(w0:Val):PT 1 (Bool):=vw .go<|vz (wk .u64 a.num)<|vw .go<|lr lW (l7 w0) (decide ((IntKind.u64.wrap a.num)=w0.bits))
def QB(a:Itm)(w0:Val):Option (Bool):=(o2 a w0).m
theorem ZSi(a:Itm)(w0:Val):KO Tryz.prog 94 1 [.agg ((Ca a).map .d),.ptr (0,0) 0 0] [⟨0,true,33,7,[vI w0.kind,.d (.int .u64 w0.bits),vS w0.text,vL Ap w0.list,vL Aq w0.pairs,vL Ag w0.slots,vL As w0.raws]⟩] (fun _ _ _ _=>True) (QB a w0) lW (l7 w0):=A8 Tryz.func94 Tryz.ntmps94 Aa [.tmp 3] 1 (fun C co d y hm b c=>An co Aa Ad (o2 a w0) hm c fun r g=>id) (hB:=fun y=>⟨.inr (by kernel_rfl),rfl,trivial⟩)
abbrev sF:Bool→AV:=fun y=>vB y
def kc(a:Val):PT 0 (Bool):=vw .go<|vw .go<|vw .go<|vw .go<|vy (!decide (a.kind=(11:Int))) (Ah a.list)<|vw .go<|vw .go<|vy ((!((!decide (a.kind=(11:Int)))&&decide ((0:Int)<(a.list.length:Int))))&&(!decide (a.kind=(12:Int)))) (Ah a.pairs)<|vw .go<|vw .go<|vy ((!(((!decide (a.kind=(11:Int)))&&decide ((0:Int)<(a.list.length:Int)))||((!decide (a.kind=(12:Int)))&&decide ((0:Int)<(a.pairs.length:Int)))))&&(!decide (a.kind=(10:Int)))) (Ah a.slots)<|vw .go<|vy ((!(((!decide (a.kind=(11:Int)))&&decide ((0:Int)<(a.list.length:Int)))||((!decide (a.kind=(12:Int)))&&decide ((0:Int)<(a.pairs.length:Int)))))&&(!decide (a.kind=(10:Int)))) (Ah a.raws)<|vg ((!(((!decide (a.kind=(11:Int)))&&decide ((0:Int)<(a.list.length:Int)))||((!decide (a.kind=(12:Int)))&&decide ((0:Int)<(a.pairs.length:Int)))))&&(!decide (a.kind=(10:Int)))) (wa a.slots.length a.raws.length)<|vw .go<|vw .go<|vw .go<|vw .go<|lr sF (fun _=>[]) ((((((!decide (a.kind=(11:Int)))&&decide ((0:Int)<(a.list.length:Int)))||((!decide (a.kind=(12:Int)))&&decide ((0:Int)<(a.pairs.length:Int))))||((!decide (a.kind=(10:Int)))&&decide ((0:Int)<((a.slots.length+a.raws.length:Nat):Int))))||((!decide (a.bits=(0:Int)))&&((decide (a.kind=(7:Int))||decide (a.kind=(8:Int)))||(decide ((10:Int)≤a.kind)&&decide (a.kind≤(12:Int))))))||((!decide (a.text=(⟨#[]⟩:ByteArray)))&&(!(decide (a.kind=(7:Int))||decide (a.kind=(8:Int))))))
def b9(a:Val):Option (Bool):=(kc a).m
theorem T2(a:Val):KC Tryz.prog 169 [.agg ((Ai a).map .d)] (b9 a) sF:=Av Tryz.func169 Tryz.ntmps169 Aa [.tmp 2] fun C co y hm b c=>An co Aa Ad (kc a) hm c fun r g=>id
abbrev OI:Int→AV:=fun y=>vI y
def mb(a:Fld→Option Bool):Cl:=fun no l H θ=>(∀(z0:Fld) y,a z0=some y→Cg Tryz.prog l no H (θ 1) [.agg ((Ar z0).map .d)] (vB y))
def p5(a:List Fld):Nat→St:=fun b=>Ab [(0,vL Ar a),(1,.fn (.yield 1) [] []),(7,vN a.length),(8,vN b)] []
def pQ:Unit→Nat×St:=fun _=>(0,Ab [] [])
def qr(b:List Fld)(c:Fld→Option Bool)(a:Nat):PT 0 (Lv (Nat) (Unit) (Int)):=br (decide ((a:Int)<(b.length:Int))) (ix b a fun d=>cf Tryz.prog 1 [.agg ((Ar d).map .d)] (c d) (fun y=>vB y) fun e=>br e (Au OI (fun _=>[]) (a:Int)) (vs (wa a 1)<|ln (p5 b) (a+1))) (Ak (pQ) ())
def p8(b:List Fld)(a:Fld→Option Bool):Nat→Option (Lv (Nat) (Unit) (Int)):=fun c=>(qr b a c).m
def rJ:PT 0 (Int):=lr OI (fun _=>[]) (-1)
def qt(a:List Fld)(b:Fld→Option Bool):PT 0 (Int):=vz (Ah a)<|lc (Ab [(0,vL Ar a),(1,.fn (.yield 1) [] []),(7,vN a.length),(8,vI 0)] []) ((Ao (p8 a b) Aj 0).bind (Sum.elim (fun _=>(rJ).m) some))
def pd(b:List Fld)(a:Fld→Option Bool):PT 0 (Int):=lc (Ab [(0,vL Ar b),(1,.fn (.yield 1) [] [])] []) ((qt b a).m)
def uK(b:List Fld)(a:Fld→Option Bool):Option (Int):=(pd b a).m
theorem ZEd{C:Cx}(co:CO C 0)(b:List Fld)(a:Fld→Option Bool)(f:(mb a) C.no C.l C.H0 C.θ):KL Tryz.prog (AE tl) 19 C (pa [0,0,1,0,1] (AB Tryz.f80)) [.tmp 4] 0 (p5 b) (pQ) OI (fun _=>[]) (p8 b a):=fun h _ hm Q c e d=>AD co Aa Ad (qr b a h) (AO [0,1,7,8]) nl e hm d fun r g=>⟨fun i=>⟨⟨fun y hy=>f _ y hy,by intro r;kernel_rfl,by intro r y;kernel_rfl⟩,fun j=>⟨id,id⟩⟩,id⟩
theorem ZTr(c:List Fld)(a:Fld→Option Bool):KO Tryz.prog 80 0 [vL Ar c,.fn (.yield 1) [] []] [] (mb a) (uK c a) OI (fun _=>[]):=A8 Tryz.func80 Tryz.ntmps80 Aa [.tmp 4] 0 (fun C co e y hm d b=>Al co Aa Ad 1 (pd c a) (AO [0,1]) nl (fun _ h=>h) hm b fun r g=>fun _ hm b=>sq (Al co Aa Ad 1 (qt c a) (AO [0,1,7,8]) nl (fun _ h=>h) hm b fun r g=>fun _ hm b=>bk 0 (lo (AK (ZEd co c a e) (fun _ h=>h) hm b (fun _ hm=>An co Aa Ad (rJ) hm b fun r g=>id)))))
abbrev TC:Int→AV:=fun y=>vI y
@[reducible] def S1(a:List Fld):Int→List Blk:=fun y=>[⟨0,true,54,16,Ae Ar a⟩]
def rl(a:Fld→Option Bool):Cl:=fun no l H θ=>(∀(z0:Fld) y,a z0=some y→Cg Tryz.prog l no H (θ 1) [.agg ((Ar z0).map .d)] (vB y))
def yk(a:List Fld):Nat→St:=fun b=>Ab [(0,.ref (0,0) 0 0 a.length),(1,.fn (.yield 1) [] []),(7,vN a.length),(8,vN b)] [((0,0),⟨0,true,54,16,Ae Ar a⟩)]
def x8(a:List Fld):Unit→Nat×St:=fun _=>(0,Ab [] [((0,0),⟨0,true,54,16,Ae Ar a⟩)])
def Nu(a:List Fld)(c:Fld→Option Bool)(b:Nat):PT 1 (Lv (Nat) (Unit) (Int)):=br (decide ((b:Int)<(a.length:Int))) (vs (ir b a.length 16)<|ca a b fun d=>cf Tryz.prog 1 [.agg ((Ar d).map .d)] (c d) (fun y=>vB y) fun e=>br e (Au TC (S1 a) (b:Int)) (vs (wa b 1)<|vz (fl a)<|ln (yk a) (b+1))) (vz (fl a)<|Ak (x8 a) ())
def RM(b:List Fld)(a:Fld→Option Bool):Nat→Option (Lv (Nat) (Unit) (Int)):=fun c=>(Nu b a c).m
def Nw(a:List Fld):PT 1 (Int):=lr TC (S1 a) (-1)
def Nk(a:List Fld)(b:Fld→Option Bool):PT 1 (Int):=vz (A2 a.length)<|vz (fl a)<|lc (Ab [(0,.ref (0,0) 0 0 a.length),(1,.fn (.yield 1) [] []),(7,vN a.length),(8,vI 0)] [((0,0),⟨0,true,54,16,Ae Ar a⟩)]) ((Ao (RM a b) Aj 0).bind (Sum.elim (fun _=>(Nw a).m) some))
def Nl(a:List Fld)(b:Fld→Option Bool):PT 1 (Int):=vz (fl a)<|lc (Ab [(0,.ref (0,0) 0 0 a.length),(1,.fn (.yield 1) [] [])] [((0,0),⟨0,true,54,16,Ae Ar a⟩)]) ((Nk a b).m)
def QE(b:List Fld)(a:Fld→Option Bool):Option (Int):=(Nl b a).m
theorem ZsV{C:Cx}(co:CO C 1)(b:List Fld)(a:Fld→Option Bool)(f:(rl a) C.no C.l C.H0 C.θ):KL Tryz.prog (AE tl) 19 C (pa [0,0,1,0,1] (AB Tryz.f80)) [.tmp 4] 1 (yk b) (x8 b) TC (S1 b) (RM b a):=fun h _ hm Q c e d=>AD co Aa Ad (Nu b a h) (Af [0,1,7,8] Da) (Af [] Da) e hm d fun r g=>⟨fun i=>⟨⟨fun y hy=>f _ y hy,by intro r;kernel_rfl,by intro r y;kernel_rfl⟩,fun j=>⟨id,id⟩⟩,id⟩
theorem ZJU(b:List Fld)(a:Fld→Option Bool):KO Tryz.prog 80 1 [.ref (0,0) 0 0 b.length,.fn (.yield 1) [] []] [⟨0,true,54,16,Ae Ar b⟩] (rl a) (QE b a) TC (S1 b):=A8 Tryz.func80 Tryz.ntmps80 Aa [.tmp 4] 1 (fun C co e y hm d c=>Al co Aa Ad 1 (Nl b a) (Af [0,1] Da) nl (fun _ h=>h) hm c fun r g=>fun _ hm c=>sq (Al co Aa Ad 1 (Nk b a) (Af [0,1,7,8] Da) nl (fun _ h=>h) hm c fun r g=>fun _ hm c=>bk 0 (lo (AK (ZsV co b a e) (fun _ h=>h) hm c (fun _ hm=>An co Aa Ad (Nw b) hm c fun r g=>id))))) (hB:=fun y=>⟨.inl (AW _ _),rfl,trivial⟩)
abbrev Mn(a:List Fld):Ac×Blk:=((0,0),⟨0,true,54,16,Ae Ar a⟩)
abbrev Uq:List Fld→AV:=fun y=>.ref (0,0) 0 0 y.length
@[reducible] def UA:List Fld→List Blk:=fun y=>[⟨0,true,54,16,Ae Ar y⟩]
def l9(a:Fld→Option Bool):Cl:=fun no l H θ=>(∀(z0:Fld) y,a z0=some y→Cg Tryz.prog l no H (θ 1) [.agg ((Ar z0).map .d)] (vB y))
def XI(a:List Fld):Int×Int×List Fld→St:=fun(v2,v3,b)=>Ab [(0,.ref (0,0) 0 0 a.length),(1,.fn (.yield 1) [] []),(5,vI v2),(6,vI v3)] [((0,0),⟨0,true,54,16,Ae Ar b⟩)]
def rA(a:List Fld):Int×List Fld→Nat×St:=fun(c,b)=>(0,Ab [(0,.ref (0,0) 0 0 a.length),(5,vI c)] [((0,0),⟨0,true,54,16,Ae Ar b⟩)])
def T8(b:List Fld)(d:Fld→Option Bool)(v2:Int)(v3:Int)(a:List Fld):PT 1 (Lv (Int×Int×List Fld) (Int×List Fld) (List Fld)):=vz (A2 b.length)<|br (decide (v3<(b.length:Int))) (vs (Ci v3 b.length 16)<|ca a v3.toNat fun c=>vw .go<|vw .go<|cf Tryz.prog 1 [.agg ((Ar c).map .d)] (d c) (fun y=>vB y) fun e=>br (!e) (vw .go<|vs (Ci v2 b.length 16)<|vs (st a v2.toNat c)<|Gf 0 ((Rw.f (c:Fld)).map .d) (fun _=>nA _)<|vs (wi (v2+1))<|vs (wi (v3+1))<|vz (fl (a.set v2.toNat c))<|ln (XI b) ((v2+1),(v3+1),a.set v2.toNat c)) (vs (wi (v3+1))<|vz (fl a)<|ln (XI b) (v2,(v3+1),a))) (vz (fl a)<|Ak (rA b) (v2,a))
def Og(b:List Fld)(a:Fld→Option Bool):Int×Int×List Fld→Option (Lv (Int×Int×List Fld) (Int×List Fld) (List Fld)):=fun(v2,v3,c)=>(T8 b a v2 v3 c).m
def Xl(c:List Fld)(a:Int)(b:List Fld):PT 1 (List Fld):=sR c.length 0 (.it a) .no<|cr b (0+a.toNat) (c.length-a.toNat) [vI 0,vS ⟨#[]⟩,vI 0,vI 0,vI 0,vS ⟨#[]⟩,vS ⟨#[]⟩,vB false,vI 0,.d (.int .u64 0),vS ⟨#[]⟩,.e0,.e0,.e0,.e0,.e0]<|Gf 0 ([vI 0,vS ⟨#[]⟩,vI 0,vI 0,vI 0,vS ⟨#[]⟩,vS ⟨#[]⟩,vB false,vI 0,.d (.int .u64 0),vS ⟨#[]⟩,.e0,.e0,.e0,.e0,.e0]) (fun _=>xJ (by kernel_rfl))<|H4 0 b (0+a.toNat) (c.length-a.toNat) [vI 0,vS ⟨#[]⟩,vI 0,vI 0,vI 0,vS ⟨#[]⟩,vS ⟨#[]⟩,vB false,vI 0,.d (.int .u64 0),vS ⟨#[]⟩,.e0,.e0,.e0,.e0,.e0]<|vw .sep<|sR c.length 0 .no (.it a)<|DK (a.toNat=(b.take (0+a.toNat)).length) (fun E=>E.P (.ref (0,0) 0 0 a.toNat) ([⟨0,true,54,16,Ae Ar (b.take (0+a.toNat))⟩])) (b.take (0+a.toNat))
def Zb(a:List Fld)(c:Fld→Option Bool)(b:Int):PT 1 (List Fld):=vs (wi (b+1))<|vz (fl a)<|lc (Ab [(0,.ref (0,0) 0 0 a.length),(1,.fn (.yield 1) [] []),(5,vI b),(6,vI (b+1))] [(Mn a)]) ((Ao (Og a c) Aj (b,(b+1),a)).bind (Sum.elim (fun(e,d)=>(Xl a e d).m) some))
def WJ(a:List Fld)(b:Fld→Option Bool):PT 1 (List Fld):=cs Tryz.prog 80 [.ref (0,0) 0 0 a.length,.fn (.yield 1) [] []] [(0,0)] [(Mn a)] (QE a b) (fun y=>vI y) fun c=>br (decide (c=((-1):Int))) (lr Uq (UA) a) (vz (fl a)<|lc (Ab [(0,.ref (0,0) 0 0 a.length),(1,.fn (.yield 1) [] []),(5,vI c)] [(Mn a)]) ((Zb a b c).m))
def QR(b:List Fld)(a:Fld→Option Bool):Option (List Fld):=(WJ b a).m
theorem ZDy{C:Cx}(co:CO C 1)(b:List Fld)(a:Fld→Option Bool)(f:(l9 a) C.no C.l C.H0 C.θ):KL Tryz.prog (AE tl) 42 C (pa [0,0,1,0,1,1,1] (AB Tryz.f58)) [.tmp 4] 1 (XI b) (rA b) Uq (UA) (Og b a):=fun(v2,v3,h) _ hm Q c e d=>AD co Aa Ad (T8 b a v2 v3 h) (Af [0,1,5,6] Da) (Af [0,5] Da) e hm d fun r g=>⟨fun i=>⟨⟨fun y hy=>f _ y hy,by intro r;kernel_rfl,by intro r y;kernel_rfl⟩,fun j=>⟨id,id⟩⟩,id⟩
theorem ZSl(b:List Fld)(a:Fld→Option Bool):KO Tryz.prog 58 1 [.ref (0,0) 0 0 b.length,.fn (.yield 1) [] []] [⟨0,true,54,16,Ae Ar b⟩] (l9 a) (QR b a) Uq (UA):=A8 Tryz.func58 Tryz.ntmps58 Aa [.tmp 4] 1 (fun C co e y hm d c=>Al co Aa Ad 3 (WJ b a) (Af [0,1,5] Da) nl (fun _ h=>h) hm c fun r g=>⟨fun y hy=>BJ (ZJU b a) hy co g [(Mn b)] [] (AM [(1,r.θ 1)]) (fun m o f=>(fun z0 y i=>KP co g [(Mn b)] f (e z0 y i))) (fun H=>⟨fun _=>⟨rfl,Bl (AW _ _) (by kernel_rfl)⟩,by kernel_rfl,trivial⟩),fun l=>⟨id,fun _ hm c=>sq (Al co Aa Ad 1 (Zb b a l) (Af [0,1,5,6] Da) nl (fun _ h=>h) hm c fun r g=>fun _ hm c=>bk 0 (lo (AK (ZDy co b a e) (fun _ h=>h) hm c (fun(k,j) hm=>An co Aa Ad (Xl b k j) hm c fun r g=>fun h c=>zR (congrArg (fun n=>(.ref (0,0) 0 0 n:AV)) h) c))))⟩⟩) (hB:=fun y=>⟨.inl (AW _ _),rfl,trivial⟩)
abbrev Ur:List Fld→AV:=fun y=>.ref (0,0) 1 0 y.length
@[reducible] def UB:List Fld→List Blk:=fun y=>[⟨1,true,54,16,Ae Ar y⟩]
def V3(a:List Fld):PT 1 (List Fld):=al Ar a false fun b=>br b (vw .sep<|vw (.ads 2 2 54 16)<|mv 2 0 ([]:List Fld)<|lr Ur (UB) ([]:List Fld)) (a0 a<|mv 7 0 a<|lr Ur (UB) a)
def Ra(a:List Fld):Option (List Fld):=(V3 a).m
theorem ZTn(a:List Fld):KO Tryz.prog 59 1 [vL Ar a] [⟨0,false,0,0,[]⟩] (fun _ _ _ _=>True) (Ra a) Ur (UB):=A8 Tryz.func59 Tryz.ntmps59 Aa [.tmp 2] 1 (fun C co f y hm c d=>An co Aa Ad (V3 a) hm d fun r g=>⟨fun e=>⟨id,id⟩,by intro b h;subst h;cases b<;>rfl⟩) (hB:=fun y=>⟨.inl (AW _ _),rfl,trivial⟩)
abbrev lK:Bool→AV:=fun y=>vB y
@[reducible] def l1(w0:ByteArray):Bool→List Blk:=fun y=>[⟨0,true,9,1,[vS w0]⟩]
def rH(a:Fld)(w0:ByteArray):PT 1 (Bool):=vw .go<|vw .go<|lr lK (l1 w0) (!decide (a.union=w0))
def Q6(a:Fld)(w0:ByteArray):Option (Bool):=(rH a w0).m
theorem ZSP(a:Fld)(w0:ByteArray):KO Tryz.prog 60 1 [.agg ((Ar a).map .d),.ptr (0,0) 0 0] [⟨0,true,9,1,[vS w0]⟩] (fun _ _ _ _=>True) (Q6 a w0) lK (l1 w0):=A8 Tryz.func60 Tryz.ntmps60 Aa [.tmp 3] 1 (fun C co d y hm b c=>An co Aa Ad (rH a w0) hm c fun r g=>id) (hB:=fun y=>⟨.inr (by kernel_rfl),rfl,trivial⟩)
abbrev CB:List (Ac×Bool):=[((1,2),false),((1,3),false)]
abbrev J2(a:ByteArray):Ac×Blk:=((1,3),⟨0,true,9,1,[vS a]⟩)
abbrev Un:List Fld→AV:=fun y=>vL Ar y
def Vd(a:List Fld):PT 0 (List Fld):=vz (fr a)<|lr Un (fun _=>[]) a
def Xf(a:List Fld):PT 0 (List Fld):=vz (fl a)<|lc (Ab [(4,.ref (1,9) 0 0 a.length)] [((1,9),⟨0,true,54,16,Ae Ar a⟩)]) ((Vd a).m)
def XZ(b:ByteArray)(a:List Fld):PT 0 (List Fld):=vz (fl a)<|lc (Ab [(9,.ref (1,9) 0 0 a.length),(10,.fn (.func 60) [] [.ptr (1,3) 0 0])] [(J2 b),((1,9),⟨0,true,54,16,Ae Ar a⟩)]) ((QR a (fun(z0:Fld)=>Q6 z0 b)).bind fun c=>(Xf c).m)
def WO(a:Msg)(b:ByteArray):PT 0 (List Fld):=vw .go<|lc (Ab [(3,.ptr (1,3) 0 0),(8,vL Ar a.fields)] [(J2 b)]) ((Ra a.fields).bind fun c=>(XZ b c).m)
def XS(a:Msg)(b:ByteArray):PT 0 (List Fld):=vw .go<|br (decide (b=(⟨#[]⟩:ByteArray))) (lr Un (fun _=>[]) ([]:List Fld)) (lc (Ab [(2,.ptr (1,2) 0 0),(3,.ptr (1,3) 0 0)] [((1,2),⟨0,true,48,5,[vS a.name,vL Ar a.fields,vL AR a.reserved,vL Az a.gone,vL Ay a.notes]⟩),(J2 b)]) ((WO a b).m))
def bW(a:Msg)(b:ByteArray):Option (List Fld):=(XS a b).m
theorem au(c:Msg)(a:ByteArray):KC Tryz.prog 27 [.agg ((AH c).map .d),vS a] (bW c a) Un:=Av Tryz.func27 Tryz.ntmps27 Aa [.tmp 4] fun C co y hm f b=>Al co Aa Ad 2 (XS c a) (Af [2,3] CB) nl (fun _ h=>h) hm b fun r g=>⟨id,fun _ hm b=>sq (rg (Br co Aa 2 (WO c a) (Af [3,8] D7) hm b fun r g=>fun _ hm b=>GD co hm 59 [vL Ar c.fields] [(1,9)] ([((1,9),⟨0,false,0,0,[]⟩)]++[]) (fun z=>.ref (1,9) 1 0 z.length) (fun z=>[((1,9),⟨1,true,54,16,Ae Ar z⟩)]) [] (fun z=>trivial) (trivial) (fun z e r g=>DA (ZTn c.fields) e co g [((1,9),⟨0,false,0,0,[]⟩)] [] [((1,9),⟨1,true,54,16,Ae Ar z⟩)] (AM []) (fun k i m=>trivial) (fun H=>⟨(fun h=>by cases h),by kernel_rfl,trivial⟩) (fun H=>⟨fun _=>⟨rfl,Bl (AW _ _) (by kernel_rfl)⟩,by kernel_rfl,trivial⟩)) fun d hm=>Br co Aa 1 (XZ a d) (Af [9,10] [((1,3),false),((1,9),true)]) hm b fun r g=>fun _ hm b=>GD co hm 58 [.ref (1,9) 0 0 d.length,.fn (.func 60) [] [.ptr (1,3) 0 0]] [(1,9),(1,3)] ([((1,9),⟨0,true,54,16,Ae Ar d⟩)]++[(J2 a)]) (fun z=>.ref (1,9) 0 0 z.length) (fun z=>[((1,9),⟨0,true,54,16,Ae Ar z⟩)]) [] (fun z=>trivial) (trivial) (fun z e r g=>DA (ZSl d (fun(z0:Fld)=>Q6 z0 a)) e co g [((1,9),⟨0,true,54,16,Ae Ar d⟩)] [(J2 a)] [((1,9),⟨0,true,54,16,Ae Ar z⟩)] (AM [(1,.fn (.func 60) [] [.ptr (r.κ (1,3)) (r.γ (1,3)+0) 0])]) (fun k i m=>(fun z0 y e=>Dg (ZSP z0 a) e co g [(J2 a)] [((1,9),⟨0,true,54,16,Ae Ar d⟩)] i (by simp) (fun _=>.top) (fun _ _=>trivial) (fun l H=>⟨fun _=>⟨rfl,by kernel_rfl⟩,by kernel_rfl,trivial⟩))) (fun H=>⟨fun _=>⟨rfl,Bl (AW _ _) (by kernel_rfl)⟩,by kernel_rfl,trivial⟩) (fun H=>⟨fun _=>⟨rfl,Bl (AW _ _) (by kernel_rfl)⟩,by kernel_rfl,trivial⟩)) fun j hm=>A4 co Aa (Xf j) (Af [4] [((1,9),true)]) hm b fun r g=>fun _ hm b=>An co Aa Ad (Vd j) hm b fun r g=>id))⟩
abbrev sK:Bool→AV:=fun y=>vB y
def ZSm(a:Slt→Option Bool):Cl:=fun no l H θ=>(∀(z0:Slt) y,a z0=some y→Cg Tryz.prog l no H (θ 1) [.agg ((Cb z0).map .d)] (vB y))
def kv(b:List Slt)(a:Slt→Option Bool):PT 0 (Bool):=cs Tryz.prog 62 [vL Ag b,.fn (.yield 1) [] []] [] [] (Km b a) (fun y=>vI y) fun c=>lr sK (fun _=>[]) (decide ((0:Int)≤c))
def Kk(b:List Slt)(a:Slt→Option Bool):Option (Bool):=(kv b a).m
theorem VD(b:List Slt)(a:Slt→Option Bool):KO Tryz.prog 221 0 [vL Ag b,.fn (.yield 1) [] []] [] (ZSm a) (Kk b a) sK (fun _=>[]):=A8 Tryz.func221 Tryz.ntmps221 Aa [.tmp 4] 0 (fun C co e y hm c d=>An co Aa Ad (kv b a) hm d fun r g=>⟨fun y hy=>BJ (Zv b a) hy co g [] [] (AM [(1,r.θ 1)]) (fun i j f=>(fun z0 y h=>KP co g [] f (e z0 y h))) (fun H=>trivial),fun k=>id⟩)
abbrev ut:Bool→AV:=fun y=>vB y
@[reducible] def sH(w0:Fld):Bool→List Blk:=fun y=>[⟨0,true,54,16,[vI w0.num,vS w0.name,vI w0.card,vI w0.key,vI w0.type.kind,vS w0.type.name,vS w0.union,vB w0.hasDefault,vI w0.dflt.kind,.d (.int .u64 w0.dflt.bits),vS w0.dflt.text,vL Ap w0.dflt.list,vL Aq w0.dflt.pairs,vL Ag w0.dflt.slots,vL As w0.dflt.raws,vL Ay w0.notes]⟩]
def mQ(a:Int)(w0:Fld):PT 1 (Bool):=vw .go<|lr ut (sH w0) (decide (a=w0.num))
def uL(a:Int)(w0:Fld):Option (Bool):=(mQ a w0).m
theorem ZOZ(a:Int)(w0:Fld):KO Tryz.prog 194 1 [vI a,.ptr (0,0) 0 0] [⟨0,true,54,16,[vI w0.num,vS w0.name,vI w0.card,vI w0.key,vI w0.type.kind,vS w0.type.name,vS w0.union,vB w0.hasDefault,vI w0.dflt.kind,.d (.int .u64 w0.dflt.bits),vS w0.dflt.text,vL Ap w0.dflt.list,vL Aq w0.dflt.pairs,vL Ag w0.dflt.slots,vL As w0.dflt.raws,vL Ay w0.notes]⟩] (fun _ _ _ _=>True) (uL a w0) ut (sH w0):=A8 Tryz.func194 Tryz.ntmps194 Aa [.tmp 3] 1 (fun C co d y hm b c=>An co Aa Ad (mQ a w0) hm c fun r g=>id) (hB:=fun y=>⟨.inr (by kernel_rfl),rfl,trivial⟩)
abbrev tn:Bool→AV:=fun y=>vB y
@[reducible] def ud(w0:Fld):Bool→List Blk:=fun y=>[⟨0,true,54,16,[vI w0.num,vS w0.name,vI w0.card,vI w0.key,vI w0.type.kind,vS w0.type.name,vS w0.union,vB w0.hasDefault,vI w0.dflt.kind,.d (.int .u64 w0.dflt.bits),vS w0.dflt.text,vL Ap w0.dflt.list,vL Aq w0.dflt.pairs,vL Ag w0.dflt.slots,vL As w0.dflt.raws,vL Ay w0.notes]⟩]
def mO(a:Int)(w0:Fld):PT 1 (Bool):=vw .go<|lr tn (ud w0) (decide (a=w0.num))
def uR(a:Int)(w0:Fld):Option (Bool):=(mO a w0).m
theorem ZPN(a:Int)(w0:Fld):KO Tryz.prog 218 1 [vI a,.ptr (0,0) 0 0] [⟨0,true,54,16,[vI w0.num,vS w0.name,vI w0.card,vI w0.key,vI w0.type.kind,vS w0.type.name,vS w0.union,vB w0.hasDefault,vI w0.dflt.kind,.d (.int .u64 w0.dflt.bits),vS w0.dflt.text,vL Ap w0.dflt.list,vL Aq w0.dflt.pairs,vL Ag w0.dflt.slots,vL As w0.dflt.raws,vL Ay w0.notes]⟩] (fun _ _ _ _=>True) (uR a w0) tn (ud w0):=A8 Tryz.func218 Tryz.ntmps218 Aa [.tmp 3] 1 (fun C co d y hm b c=>An co Aa Ad (mO a w0) hm c fun r g=>id) (hB:=fun y=>⟨.inr (by kernel_rfl),rfl,trivial⟩)
abbrev tU:Bool→AV:=fun y=>vB y
@[reducible] def ur(w0:Fld):Bool→List Blk:=fun y=>[⟨0,true,54,16,[vI w0.num,vS w0.name,vI w0.card,vI w0.key,vI w0.type.kind,vS w0.type.name,vS w0.union,vB w0.hasDefault,vI w0.dflt.kind,.d (.int .u64 w0.dflt.bits),vS w0.dflt.text,vL Ap w0.dflt.list,vL Aq w0.dflt.pairs,vL Ag w0.dflt.slots,vL As w0.dflt.raws,vL Ay w0.notes]⟩]
def zC(a:Int)(w0:Fld):PT 1 (Bool):=vw .go<|lr tU (ur w0) (decide (a=w0.num))
def uT(a:Int)(w0:Fld):Option (Bool):=(zC a w0).m
theorem ZQg(a:Int)(w0:Fld):KO Tryz.prog 219 1 [vI a,.ptr (0,0) 0 0] [⟨0,true,54,16,[vI w0.num,vS w0.name,vI w0.card,vI w0.key,vI w0.type.kind,vS w0.type.name,vS w0.union,vB w0.hasDefault,vI w0.dflt.kind,.d (.int .u64 w0.dflt.bits),vS w0.dflt.text,vL Ap w0.dflt.list,vL Aq w0.dflt.pairs,vL Ag w0.dflt.slots,vL As w0.dflt.raws,vL Ay w0.notes]⟩] (fun _ _ _ _=>True) (uT a w0) tU (ur w0):=A8 Tryz.func219 Tryz.ntmps219 Aa [.tmp 3] 1 (fun C co d y hm b c=>An co Aa Ad (zC a w0) hm c fun r g=>id) (hB:=fun y=>⟨.inr (by kernel_rfl),rfl,trivial⟩)
abbrev r8(a:Fld):Ac×Blk:=((0,1),⟨0,true,54,16,[vI a.num,vS a.name,vI a.card,vI a.key,vI a.type.kind,vS a.type.name,vS a.union,vB a.hasDefault,vI a.dflt.kind,.d (.int .u64 a.dflt.bits),vS a.dflt.text,vL Ap a.dflt.list,vL Aq a.dflt.pairs,vL Ag a.dflt.slots,vL As a.dflt.raws,vL Ay a.notes]⟩)
abbrev zc:Bool→AV:=fun y=>vB y
@[reducible] def yO(a:Fld):Bool→List Blk:=fun y=>[⟨0,true,153,1,[.fn (.func 218) [] [.ptr (0,1) 0 0]]⟩,⟨0,true,54,16,[vI a.num,vS a.name,vI a.card,vI a.key,vI a.type.kind,vS a.type.name,vS a.union,vB a.hasDefault,vI a.dflt.kind,.d (.int .u64 a.dflt.bits),vS a.dflt.text,vL Ap a.dflt.list,vL Aq a.dflt.pairs,vL Ag a.dflt.slots,vL As a.dflt.raws,vL Ay a.notes]⟩]
def xa(b:Slt)(a:Fld):PT 2 (Bool):=vw .go<|vw .go<|cs Tryz.prog 218 [vI b.num,.ptr (0,1) 0 0] [(0,1)] [(r8 a)] (uR b.num a) (fun y=>vB y) fun c=>lr zc (yO a) c
def QP(b:Slt)(a:Fld):Option (Bool):=(xa b a).m
theorem ZDO(b:Slt)(a:Fld):KO Tryz.prog 222 2 [.agg ((Cb b).map .d),.ptr (0,0) 0 0] [⟨0,true,153,1,[.fn (.func 218) [] [.ptr (0,1) 0 0]]⟩,⟨0,true,54,16,[vI a.num,vS a.name,vI a.card,vI a.key,vI a.type.kind,vS a.type.name,vS a.union,vB a.hasDefault,vI a.dflt.kind,.d (.int .u64 a.dflt.bits),vS a.dflt.text,vL Ap a.dflt.list,vL Aq a.dflt.pairs,vL Ag a.dflt.slots,vL As a.dflt.raws,vL Ay a.notes]⟩] (fun _ _ _ _=>True) (QP b a) zc (yO a):=A8 Tryz.func222 Tryz.ntmps222 Aa [.tmp 3] 2 (fun C co f y hm c d=>An co Aa Ad (xa b a) hm d fun r g=>⟨fun y hy=>BJ (ZPN b.num a) hy co g [(r8 a)] [] (AM []) (fun e h i=>trivial) (fun H=>⟨fun _=>⟨rfl,by kernel_rfl⟩,by kernel_rfl,trivial⟩),fun j=>id⟩) (hB:=fun y=>⟨.inr (by kernel_rfl),rfl,⟨.inr (by kernel_rfl),rfl,trivial⟩⟩)
abbrev tr(a:Fld):Ac×Blk:=((0,1),⟨0,true,54,16,[vI a.num,vS a.name,vI a.card,vI a.key,vI a.type.kind,vS a.type.name,vS a.union,vB a.hasDefault,vI a.dflt.kind,.d (.int .u64 a.dflt.bits),vS a.dflt.text,vL Ap a.dflt.list,vL Aq a.dflt.pairs,vL Ag a.dflt.slots,vL As a.dflt.raws,vL Ay a.notes]⟩)
abbrev nb:Bool→AV:=fun y=>vB y
@[reducible] def yx(a:Fld):Bool→List Blk:=fun y=>[⟨0,true,153,1,[.fn (.func 219) [] [.ptr (0,1) 0 0]]⟩,⟨0,true,54,16,[vI a.num,vS a.name,vI a.card,vI a.key,vI a.type.kind,vS a.type.name,vS a.union,vB a.hasDefault,vI a.dflt.kind,.d (.int .u64 a.dflt.bits),vS a.dflt.text,vL Ap a.dflt.list,vL Aq a.dflt.pairs,vL Ag a.dflt.slots,vL As a.dflt.raws,vL Ay a.notes]⟩]
def xh(b:Slt)(a:Fld):PT 2 (Bool):=vw .go<|vw .go<|cs Tryz.prog 219 [vI b.num,.ptr (0,1) 0 0] [(0,1)] [(tr a)] (uT b.num a) (fun y=>vB y) fun c=>lr nb (yx a) c
def QO(b:Slt)(a:Fld):Option (Bool):=(xh b a).m
theorem ZCb(b:Slt)(a:Fld):KO Tryz.prog 222 2 [.agg ((Cb b).map .d),.ptr (0,0) 0 0] [⟨0,true,153,1,[.fn (.func 219) [] [.ptr (0,1) 0 0]]⟩,⟨0,true,54,16,[vI a.num,vS a.name,vI a.card,vI a.key,vI a.type.kind,vS a.type.name,vS a.union,vB a.hasDefault,vI a.dflt.kind,.d (.int .u64 a.dflt.bits),vS a.dflt.text,vL Ap a.dflt.list,vL Aq a.dflt.pairs,vL Ag a.dflt.slots,vL As a.dflt.raws,vL Ay a.notes]⟩] (fun _ _ _ _=>True) (QO b a) nb (yx a):=A8 Tryz.func222 Tryz.ntmps222 Aa [.tmp 3] 2 (fun C co f y hm c d=>An co Aa Ad (xh b a) hm d fun r g=>⟨fun y hy=>BJ (ZQg b.num a) hy co g [(tr a)] [] (AM []) (fun e h i=>trivial) (fun H=>⟨fun _=>⟨rfl,by kernel_rfl⟩,by kernel_rfl,trivial⟩),fun j=>id⟩) (hB:=fun y=>⟨.inr (by kernel_rfl),rfl,⟨.inr (by kernel_rfl),rfl,trivial⟩⟩)
abbrev s5(a:Fld):Ac×Blk:=((0,1),⟨0,true,54,16,[vI a.num,vS a.name,vI a.card,vI a.key,vI a.type.kind,vS a.type.name,vS a.union,vB a.hasDefault,vI a.dflt.kind,.d (.int .u64 a.dflt.bits),vS a.dflt.text,vL Ap a.dflt.list,vL Aq a.dflt.pairs,vL Ag a.dflt.slots,vL As a.dflt.raws,vL Ay a.notes]⟩)
abbrev yo:Bool→AV:=fun y=>vB y
@[reducible] def zl(a:Fld):Bool→List Blk:=fun y=>[⟨0,true,153,1,[.fn (.func 194) [] [.ptr (0,1) 0 0]]⟩,⟨0,true,54,16,[vI a.num,vS a.name,vI a.card,vI a.key,vI a.type.kind,vS a.type.name,vS a.union,vB a.hasDefault,vI a.dflt.kind,.d (.int .u64 a.dflt.bits),vS a.dflt.text,vL Ap a.dflt.list,vL Aq a.dflt.pairs,vL Ag a.dflt.slots,vL As a.dflt.raws,vL Ay a.notes]⟩]
def wE(b:Slt)(a:Fld):PT 2 (Bool):=vw .go<|vw .go<|cs Tryz.prog 194 [vI b.num,.ptr (0,1) 0 0] [(0,1)] [(s5 a)] (uL b.num a) (fun y=>vB y) fun c=>lr yo (zl a) c
def QH(b:Slt)(a:Fld):Option (Bool):=(wE b a).m
theorem ZG2(b:Slt)(a:Fld):KO Tryz.prog 222 2 [.agg ((Cb b).map .d),.ptr (0,0) 0 0] [⟨0,true,153,1,[.fn (.func 194) [] [.ptr (0,1) 0 0]]⟩,⟨0,true,54,16,[vI a.num,vS a.name,vI a.card,vI a.key,vI a.type.kind,vS a.type.name,vS a.union,vB a.hasDefault,vI a.dflt.kind,.d (.int .u64 a.dflt.bits),vS a.dflt.text,vL Ap a.dflt.list,vL Aq a.dflt.pairs,vL Ag a.dflt.slots,vL As a.dflt.raws,vL Ay a.notes]⟩] (fun _ _ _ _=>True) (QH b a) yo (zl a):=A8 Tryz.func222 Tryz.ntmps222 Aa [.tmp 3] 2 (fun C co f y hm c d=>An co Aa Ad (wE b a) hm d fun r g=>⟨fun y hy=>BJ (ZOZ b.num a) hy co g [(s5 a)] [] (AM []) (fun e h i=>trivial) (fun H=>⟨fun _=>⟨rfl,by kernel_rfl⟩,by kernel_rfl,trivial⟩),fun j=>id⟩) (hB:=fun y=>⟨.inr (by kernel_rfl),rfl,⟨.inr (by kernel_rfl),rfl,trivial⟩⟩)
abbrev ax(a:Fld):Ac×Blk:=((0,0),⟨0,true,54,16,[vI a.num,vS a.name,vI a.card,vI a.key,vI a.type.kind,vS a.type.name,vS a.union,vB a.hasDefault,vI a.dflt.kind,.d (.int .u64 a.dflt.bits),vS a.dflt.text,vL Ap a.dflt.list,vL Aq a.dflt.pairs,vL Ag a.dflt.slots,vL As a.dflt.raws,vL Ay a.notes]⟩)
abbrev zy:Bool→AV:=fun y=>vB y
@[reducible] def yW(a:Fld):Bool→List Blk:=fun y=>[⟨0,true,54,16,[vI a.num,vS a.name,vI a.card,vI a.key,vI a.type.kind,vS a.type.name,vS a.union,vB a.hasDefault,vI a.dflt.kind,.d (.int .u64 a.dflt.bits),vS a.dflt.text,vL Ap a.dflt.list,vL Aq a.dflt.pairs,vL Ag a.dflt.slots,vL As a.dflt.raws,vL Ay a.notes]⟩]
def dE(b:List Slt)(a:Fld):PT 1 (Bool):=cs Tryz.prog 221 [vL Ag b,.fn (.func 222) [] [.ptr (1,3) 1 0]] [(1,3),(0,0)] [((1,3),⟨1,true,153,1,[.fn (.func 218) [] [.ptr (0,0) 0 0]]⟩),(ax a)] (Kk b (fun(z0:Slt)=>QP z0 a)) (fun y=>vB y) fun c=>lr zy (yW a) c
def Q1(b:List Slt)(a:Fld):Option (Bool):=(dE b a).m
theorem ZDB(b:List Slt)(a:Fld):KO Tryz.prog 193 1 [vL Ag b,.fn (.func 218) [] [.ptr (0,0) 0 0]] [⟨0,true,54,16,[vI a.num,vS a.name,vI a.card,vI a.key,vI a.type.kind,vS a.type.name,vS a.union,vB a.hasDefault,vI a.dflt.kind,.d (.int .u64 a.dflt.bits),vS a.dflt.text,vL Ap a.dflt.list,vL Aq a.dflt.pairs,vL Ag a.dflt.slots,vL As a.dflt.raws,vL Ay a.notes]⟩] (fun _ _ _ _=>True) (Q1 b a) zy (yW a):=A8 Tryz.func193 Tryz.ntmps193 Aa [.tmp 4] 1 (fun C co i y hm c d=>An co Aa Ad (dE b a) hm d fun r g=>⟨fun y hy=>BJ (VD b (fun(z0:Slt)=>QP z0 a)) hy co g [] [((1,3),⟨1,true,153,1,[.fn (.func 218) [] [.ptr (0,0) 0 0]]⟩),(ax a)] (AM [(1,.fn (.func 222) [] [.ptr (r.κ (1,3)) (r.γ (1,3)+1) 0])]) (fun h e j=>(fun z0 y f=>Dg (ZDO z0 a) f co g [((1,3),⟨1,true,153,1,[.fn (.func 218) [] [.ptr (0,0) 0 0]]⟩),(ax a)] [] e (by simp) (fun _=>.top) (fun _ _=>trivial) (fun l H=>⟨fun _=>⟨rfl,by kernel_rfl⟩,by kernel_rfl,⟨fun _=>⟨rfl,by kernel_rfl⟩,by kernel_rfl,trivial⟩⟩))) (fun H=>trivial),fun k=>id⟩) (hB:=fun y=>⟨.inr (by kernel_rfl),rfl,trivial⟩)
abbrev ZT(a:Fld):Ac×Blk:=((0,0),⟨0,true,54,16,[vI a.num,vS a.name,vI a.card,vI a.key,vI a.type.kind,vS a.type.name,vS a.union,vB a.hasDefault,vI a.dflt.kind,.d (.int .u64 a.dflt.bits),vS a.dflt.text,vL Ap a.dflt.list,vL Aq a.dflt.pairs,vL Ag a.dflt.slots,vL As a.dflt.raws,vL Ay a.notes]⟩)
abbrev nU:Bool→AV:=fun y=>vB y
@[reducible] def y7(a:Fld):Bool→List Blk:=fun y=>[⟨0,true,54,16,[vI a.num,vS a.name,vI a.card,vI a.key,vI a.type.kind,vS a.type.name,vS a.union,vB a.hasDefault,vI a.dflt.kind,.d (.int .u64 a.dflt.bits),vS a.dflt.text,vL Ap a.dflt.list,vL Aq a.dflt.pairs,vL Ag a.dflt.slots,vL As a.dflt.raws,vL Ay a.notes]⟩]
def dP(b:List Slt)(a:Fld):PT 1 (Bool):=cs Tryz.prog 221 [vL Ag b,.fn (.func 222) [] [.ptr (1,3) 1 0]] [(1,3),(0,0)] [((1,3),⟨1,true,153,1,[.fn (.func 219) [] [.ptr (0,0) 0 0]]⟩),(ZT a)] (Kk b (fun(z0:Slt)=>QO z0 a)) (fun y=>vB y) fun c=>lr nU (y7 a) c
def QZ(b:List Slt)(a:Fld):Option (Bool):=(dP b a).m
theorem ZGc(b:List Slt)(a:Fld):KO Tryz.prog 193 1 [vL Ag b,.fn (.func 219) [] [.ptr (0,0) 0 0]] [⟨0,true,54,16,[vI a.num,vS a.name,vI a.card,vI a.key,vI a.type.kind,vS a.type.name,vS a.union,vB a.hasDefault,vI a.dflt.kind,.d (.int .u64 a.dflt.bits),vS a.dflt.text,vL Ap a.dflt.list,vL Aq a.dflt.pairs,vL Ag a.dflt.slots,vL As a.dflt.raws,vL Ay a.notes]⟩] (fun _ _ _ _=>True) (QZ b a) nU (y7 a):=A8 Tryz.func193 Tryz.ntmps193 Aa [.tmp 4] 1 (fun C co i y hm c d=>An co Aa Ad (dP b a) hm d fun r g=>⟨fun y hy=>BJ (VD b (fun(z0:Slt)=>QO z0 a)) hy co g [] [((1,3),⟨1,true,153,1,[.fn (.func 219) [] [.ptr (0,0) 0 0]]⟩),(ZT a)] (AM [(1,.fn (.func 222) [] [.ptr (r.κ (1,3)) (r.γ (1,3)+1) 0])]) (fun h e j=>(fun z0 y f=>Dg (ZCb z0 a) f co g [((1,3),⟨1,true,153,1,[.fn (.func 219) [] [.ptr (0,0) 0 0]]⟩),(ZT a)] [] e (by simp) (fun _=>.top) (fun _ _=>trivial) (fun l H=>⟨fun _=>⟨rfl,by kernel_rfl⟩,by kernel_rfl,⟨fun _=>⟨rfl,by kernel_rfl⟩,by kernel_rfl,trivial⟩⟩))) (fun H=>trivial),fun k=>id⟩) (hB:=fun y=>⟨.inr (by kernel_rfl),rfl,trivial⟩)
end Go.Proofs.YtleccgigifnfgaaGreat
