import Derived.Test.YtleccgigifnfgaaGreatCx16
import Derived.Test.YtleccgigifnfgaaGreatCx00
namespace Go.Proofs.YtleccgigifnfgaaGreat
set_option maxRecDepth 100000
set_option linter.all false
open Go Go.Eng
abbrev NJ(a:List Slt):Ad×Blk:=((0,0),⟨0,true,67,8,Af Ah a⟩)
abbrev WG:List Slt→AV:=fun y=>.ref (0,0) 0 0 y.length
@[reducible] def WP:List Slt→List Blk:=fun y=>[⟨0,true,67,8,Af Ah y⟩]
def pI(a:Slt→Option Bool):Cl:=fun no l H θ=>(∀(z0:Slt) y,a z0=some y→Cr Tryz.prog l no H (θ 1) [.agg ((Cg z0).map .d)] (vB y))
def X9(a:List Slt):Int×Int×List Slt→St:=fun(v2,v3,b)=>Ab [(0,.ref (0,0) 0 0 a.length),(1,.fn (.yield 1) [] []),(5,vI v2),(6,vI v3)] [((0,0),⟨0,true,67,8,Af Ah b⟩)]
def uj(a:List Slt):Int×List Slt→Nat×St:=fun(c,b)=>(0,Ab [(0,.ref (0,0) 0 0 a.length),(5,vI c)] [((0,0),⟨0,true,67,8,Af Ah b⟩)])
def QJ(b:List Slt)(d:Slt→Option Bool)(v2:Int)(v3:Int)(a:List Slt):PT 1 (Lv (Int×Int×List Slt) (Int×List Slt) (List Slt)):=vz (A2 b.length)<|br (decide (v3<(b.length:Int))) (vs (Cu v3 b.length 8)<|ca a v3.toNat fun c=>vw .go<|vw .go<|cf Tryz.prog 1 [.agg ((Cg c).map .d)] (d c) (fun y=>vB y) fun e=>br (!e) (vw .go<|vs (Cu v2 b.length 8)<|vs (st a v2.toNat c)<|GP 0 ((Rw.f (c:Slt)).map .d) (fun _=>tr _)<|vs (wi (v2+1))<|vs (wi (v3+1))<|vz (fl (a.set v2.toNat c))<|ln (X9 b) ((v2+1),(v3+1),a.set v2.toNat c)) (vs (wi (v3+1))<|vz (fl a)<|ln (X9 b) (v2,(v3+1),a))) (vz (fl a)<|Ak (uj b) (v2,a))
def Pq(b:List Slt)(a:Slt→Option Bool):Int×Int×List Slt→Option (Lv (Int×Int×List Slt) (Int×List Slt) (List Slt)):=fun(v2,v3,c)=>(QJ b a v2 v3 c).m
def bq(c:List Slt)(a:Int)(b:List Slt):PT 1 (List Slt):=sR c.length 0 (.it a) .no<|cr b (0+a.toNat) (c.length-a.toNat) [vI 0,vI 0,.d (.int .u64 0),vS ⟨#[]⟩,.e0,.e0,.e0,.e0]<|GP 0 ([vI 0,vI 0,.d (.int .u64 0),vS ⟨#[]⟩,.e0,.e0,.e0,.e0]) (fun _=>Zu6 (by kernel_rfl))<|IY 0 b (0+a.toNat) (c.length-a.toNat) [vI 0,vI 0,.d (.int .u64 0),vS ⟨#[]⟩,.e0,.e0,.e0,.e0]<|vw .sep<|sR c.length 0 .no (.it a)<|Ed (a.toNat=(b.take (0+a.toNat)).length) (fun E=>E.P (.ref (0,0) 0 0 a.toNat) ([⟨0,true,67,8,Af Ah (b.take (0+a.toNat))⟩])) (b.take (0+a.toNat))
def aX(a:List Slt)(c:Slt→Option Bool)(b:Int):PT 1 (List Slt):=vs (wi (b+1))<|vz (fl a)<|lc (Ab [(0,.ref (0,0) 0 0 a.length),(1,.fn (.yield 1) [] []),(5,vI b),(6,vI (b+1))] [(NJ a)]) ((An (Pq a c) Aj (b,(b+1),a)).bind (Sum.elim (fun(e,d)=>(bq a e d).m) some))
def Zq(a:List Slt)(b:Slt→Option Bool):PT 1 (List Slt):=cs Tryz.prog 62 [.ref (0,0) 0 0 a.length,.fn (.yield 1) [] []] [(0,0)] [(NJ a)] (Tj a b) (fun y=>vI y) fun c=>br (decide (c=((-1):Int))) (lr WG (WP) a) (vz (fl a)<|lc (Ab [(0,.ref (0,0) 0 0 a.length),(1,.fn (.yield 1) [] []),(5,vI c)] [(NJ a)]) ((aX a b c).m))
def N6(b:List Slt)(a:Slt→Option Bool):Option (List Slt):=(Zq b a).m
theorem ZGI{C:Cx}(co:CO C 1)(b:List Slt)(a:Slt→Option Bool)(f:(pI a) C.no C.l C.H0 C.θ):KL Tryz.prog (AF tl) 42 C (pa [0,0,1,0,1,1,1] (AB Tryz.f35)) [.tmp 4] 1 (X9 b) (uj b) WG (WP) (Pq b a):=fun(v2,v3,h) _ hm Q c e d=>AA co Aa Ac (QJ b a v2 v3 h) (Ae [0,1,5,6] Ds) (Ae [0,5] Ds) e hm d fun r g=>⟨fun i=>⟨⟨fun y hy=>f _ y hy,by intro r;kernel_rfl,by intro r y;kernel_rfl⟩,fun j=>⟨id,id⟩⟩,id⟩
theorem y7(b:List Slt)(a:Slt→Option Bool):KO Tryz.prog 35 1 [.ref (0,0) 0 0 b.length,.fn (.yield 1) [] []] [⟨0,true,67,8,Af Ah b⟩] (pI a) (N6 b a) WG (WP):=Be Tryz.func35 Tryz.ntmps35 Aa [.tmp 4] 1 (fun C co e y hm d c=>Al co Aa Ac 3 (Zq b a) (Ae [0,1,5] Ds) nl (fun _ h=>h) hm c fun r g=>⟨fun y hy=>BQ (ZOP b a) hy co g [(NJ b)] [] (AL [(1,r.θ 1)]) (fun m o f=>(fun z0 y i=>LZ co g [(NJ b)] f (e z0 y i))) (fun H=>⟨fun _=>⟨rfl,Bn (A0 _ _) (by kernel_rfl)⟩,by kernel_rfl,trivial⟩),fun l=>⟨id,fun _ hm c=>sq (Al co Aa Ac 1 (aX b a l) (Ae [0,1,5,6] Ds) nl (fun _ h=>h) hm c fun r g=>fun _ hm c=>bk 0 (lo (AG (ZGI co b a e) (fun _ h=>h) hm c (fun(k,j) hm=>Am co Aa Ac (bq b k j) hm c fun r g=>fun h c=>lfx (congrArg (fun n=>(.ref (0,0) 0 0 n:AV)) h) c))))⟩⟩) (hB:=fun y=>⟨.inl (A0 _ _),rfl,trivial⟩)
abbrev WH:List Slt→AV:=fun y=>.ref (0,0) 1 0 y.length
@[reducible] def WQ:List Slt→List Blk:=fun y=>[⟨1,true,67,8,Af Ah y⟩]
def aE(a:List Slt):PT 1 (List Slt):=al Ah a false fun b=>br b (vw .sep<|vw (.ads 2 2 67 8)<|mv 2 0 ([]:List Slt)<|lr WH (WQ) ([]:List Slt)) (a0 a<|mv 7 0 a<|lr WH (WQ) a)
def JY(a:List Slt):Option (List Slt):=(aE a).m
theorem Sn(a:List Slt):KO Tryz.prog 36 1 [vL Ah a] [⟨0,false,0,0,[]⟩] (fun _ _ _ _=>True) (JY a) WH (WQ):=Be Tryz.func36 Tryz.ntmps36 Aa [.tmp 2] 1 (fun C co f y hm c d=>Am co Aa Ac (aE a) hm d fun r g=>⟨fun e=>⟨id,id⟩,by intro b h;subst h;cases b<;>rfl⟩) (hB:=fun y=>⟨.inl (A0 _ _),rfl,trivial⟩)
abbrev o1:Bool→AV:=fun y=>vB y
@[reducible] def py(w0:Int):Bool→List Blk:=fun y=>[⟨0,true,3,1,[vI w0]⟩]
def uM(a:Slt)(w0:Int):PT 1 (Bool):=vw .go<|vw .go<|lr o1 (py w0) (decide (a.num=w0))
def Tg(a:Slt)(w0:Int):Option (Bool):=(uM a w0).m
theorem ZWR(a:Slt)(w0:Int):KO Tryz.prog 37 1 [.agg ((Cg a).map .d),.ptr (0,0) 0 0] [⟨0,true,3,1,[vI w0]⟩] (fun _ _ _ _=>True) (Tg a w0) o1 (py w0):=Be Tryz.func37 Tryz.ntmps37 Aa [.tmp 3] 1 (fun C co d y hm b c=>Am co Aa Ac (uM a w0) hm c fun r g=>id) (hB:=fun y=>⟨.inr (by kernel_rfl),rfl,trivial⟩)
abbrev K4(a:Int):Ad×Blk:=((1,3),⟨0,true,3,1,[vI a]⟩)
abbrev Sq:Ad×Blk:=((1,4),⟨0,true,33,7,[vI 0,.d (.int .u64 0),vS ⟨#[]⟩,.e0,.e0,.e0,.e0]⟩)
abbrev b9(a:Val):Ad×Blk:=((1,2),⟨0,true,33,7,[vI a.kind,.d (.int .u64 a.bits),vS a.text,vL Ar a.list,vL As a.pairs,vL Ah a.slots,vL Au a.raws]⟩)
abbrev oU:Val→AV:=fun y=>.agg ((Ai y).map .d)
def ZG(a:Val)(b:List Slt):PT 0 (Val):=vw .go<|vw .go<|vz (fr b)<|lr oU (fun _=>[]) (.mk a.kind a.bits a.text a.list a.pairs b a.raws:Val)
def Zg(a:Val)(b:List Slt):PT 0 (Val):=vw .go<|vz (fl b)<|lc (Ab [(2,.ptr (1,2) 0 0),(4,.ptr (1,4) 0 0)] [((1,2),⟨0,true,33,7,[vI a.kind,.d (.int .u64 a.bits),vS a.text,vL Ar a.list,vL As a.pairs,.ref (1,7) 0 0 b.length,vL Au a.raws]⟩),Sq,((1,7),⟨0,true,67,8,Af Ah b⟩)]) ((ZG a b).m)
def aG(b:Val)(c:Int)(a:List Slt):PT 0 (Val):=vz (fl a)<|lc (Ab [(2,.ptr (1,2) 0 0),(4,.ptr (1,4) 0 0),(7,.ref (1,7) 0 0 a.length),(8,.fn (.func 37) [] [.ptr (1,3) 0 0])] [(b9 b),(K4 c),Sq,((1,7),⟨0,true,67,8,Af Ah a⟩)]) ((N6 a (fun(z0:Slt)=>Tg z0 c)).bind fun d=>(Zg b d).m)
def XJ(a:Val)(b:Int):PT 0 (Val):=vw .go<|lc (Ab [(2,.ptr (1,2) 0 0),(3,.ptr (1,3) 0 0),(4,.ptr (1,4) 0 0),(6,vL Ah a.slots)] [(b9 a),(K4 b),Sq]) ((JY a.slots).bind fun c=>(aG a b c).m)
def aD(a:Val)(b:Int):PT 0 (Val):=lc (Ab [(2,.ptr (1,2) 0 0),(3,.ptr (1,3) 0 0),(4,.ptr (1,4) 0 0)] [(b9 a),(K4 b),Sq]) ((XJ a b).m)
def fu(a:Val)(b:Int):Option (Val):=(aD a b).m
theorem SL(c:Val)(a:Int):KC Tryz.prog 11 [.agg ((Ai c).map .d),vI a] (fu c a) oU:=Aw Tryz.func11 Tryz.ntmps11 Aa [.cell 4 33] fun C co y hm f b=>Al co Aa Ac 1 (aD c a) (Ae [2,3,4] [((1,2),false),((1,3),false),((1,4),false)]) nl (fun _ h=>h) hm b fun r g=>fun _ hm b=>sq (rg (Bw co Aa 2 (XJ c a) (Ae [2,3,4,6] [((1,2),false),((1,3),false),((1,4),false)]) hm b fun r g=>fun _ hm b=>Hq co hm 36 [vL Ah c.slots] [(1,7)] ([((1,7),⟨0,false,0,0,[]⟩)]++[]) (fun z=>.ref (1,7) 1 0 z.length) (fun z=>[((1,7),⟨1,true,67,8,Af Ah z⟩)]) [] (fun z=>trivial) (trivial) (fun z e r g=>DV (Sn c.slots) e co g [((1,7),⟨0,false,0,0,[]⟩)] [] [((1,7),⟨1,true,67,8,Af Ah z⟩)] (AL []) (fun k i m=>trivial) (fun H=>⟨(fun h=>by cases h),by kernel_rfl,trivial⟩) (fun H=>⟨fun _=>⟨rfl,Bn (A0 _ _) (by kernel_rfl)⟩,by kernel_rfl,trivial⟩)) fun d hm=>Bw co Aa 1 (aG c a d) (Ae [2,4,7,8] [((1,2),false),((1,3),false),((1,4),false),((1,7),true)]) hm b fun r g=>fun _ hm b=>Hq co hm 35 [.ref (1,7) 0 0 d.length,.fn (.func 37) [] [.ptr (1,3) 0 0]] [(1,7),(1,3)] ([((1,7),⟨0,true,67,8,Af Ah d⟩)]++[(K4 a)]) (fun z=>.ref (1,7) 0 0 z.length) (fun z=>[((1,7),⟨0,true,67,8,Af Ah z⟩)]) [] (fun z=>trivial) (trivial) (fun z e r g=>DV (y7 d (fun(z0:Slt)=>Tg z0 a)) e co g [((1,7),⟨0,true,67,8,Af Ah d⟩)] [(K4 a)] [((1,7),⟨0,true,67,8,Af Ah z⟩)] (AL [(1,.fn (.func 37) [] [.ptr (r.κ (1,3)) (r.γ (1,3)+0) 0])]) (fun k i m=>(fun z0 y e=>Dz (ZWR z0 a) e co g [(K4 a)] [((1,7),⟨0,true,67,8,Af Ah d⟩)] i (by simp) (fun _=>.top) (fun _ _=>trivial) (fun l H=>⟨fun _=>⟨rfl,by kernel_rfl⟩,by kernel_rfl,trivial⟩))) (fun H=>⟨fun _=>⟨rfl,Bn (A0 _ _) (by kernel_rfl)⟩,by kernel_rfl,trivial⟩) (fun H=>⟨fun _=>⟨rfl,Bn (A0 _ _) (by kernel_rfl)⟩,by kernel_rfl,trivial⟩)) fun j hm=>Bb co Aa (Zg c j) (Ae [2,4] [((1,2),false),((1,4),false),((1,7),true)]) hm b fun r g=>fun _ hm b=>Am co Aa Ac (ZG c j) hm b fun r g=>id))
abbrev D3:List (Ad×Bool):=[((1,4),false)]
abbrev RK:Ad×Blk:=((1,4),⟨0,true,48,5,[vS ⟨#[]⟩,.e0,.e0,.e0,.e0]⟩)
abbrev Sk:Msg×Bool→AV:=fun y=>.tup [.agg ((AE y.1).map .d),vB y.2]
def zt(a:Msg→Option Bool):Cl:=fun no l H θ=>(∀(z0:Msg) y,a z0=some y→Cr Tryz.prog l no H (θ 1) [.agg ((AE z0).map .d)] (vB y))
def rq(a:List Msg):Nat→St:=fun b=>Ab [(1,.fn (.yield 1) [] []),(4,.ptr (1,4) 0 0),(9,vL AE a),(10,vN a.length),(11,vN b)] [RK]
def sg:Unit→Nat×St:=fun _=>(0,Ab [(4,.ptr (1,4) 0 0)] [RK])
def VC(c:List Msg)(d:Msg→Option Bool)(a:Nat):PT 0 (Lv (Nat) (Unit) (Msg×Bool)):=br (decide ((a:Int)<(c.length:Int))) (ix c a fun b=>vw .go<|vw .go<|cf Tryz.prog 1 [.agg ((AE b).map .d)] (d b) (fun y=>vB y) fun e=>br e (vw .go<|vw .go<|Ap Sk (fun _=>[]) (b,true)) (vs (wa a 1)<|ln (rq c) (a+1))) (Ak (sg) ())
def OU(b:List Msg)(a:Msg→Option Bool):Nat→Option (Lv (Nat) (Unit) (Msg×Bool)):=fun c=>(VC b a c).m
def i2:PT 0 (Msg×Bool):=vw .go<|vw .go<|lr Sk (fun _=>[]) ((.mk ⟨#[]⟩ [] [] [] []:Msg),false)
def lW(a:List Msg)(b:Msg→Option Bool):PT 0 (Msg×Bool):=vz (Ag a)<|lc (Ab [(1,.fn (.yield 1) [] []),(4,.ptr (1,4) 0 0),(9,vL AE a),(10,vN a.length),(11,vI 0)] [RK]) ((An (OU a b) Aj 0).bind (Sum.elim (fun _=>(i2).m) some))
def kP(b:List Msg)(a:Msg→Option Bool):PT 0 (Msg×Bool):=lc (Ab [(0,vL AE b),(1,.fn (.yield 1) [] []),(4,.ptr (1,4) 0 0)] [RK]) ((lW b a).m)
def S8(b:List Msg)(a:Msg→Option Bool):Option (Msg×Bool):=(kP b a).m
theorem Zza{C:Cx}(co:CO C 0)(b:List Msg)(a:Msg→Option Bool)(f:(zt a) C.no C.l C.H0 C.θ):KL Tryz.prog (AF tl) 21 C (pa [0,0,1,0,1] (AB Tryz.f118)) [.cell 4 48,.tmp 5] 0 (rq b) (sg) Sk (fun _=>[]) (OU b a):=fun h _ hm Q c e d=>AA co Aa Ac (VC b a h) (Ae [1,4,9,10,11] D3) (Ae [4] D3) e hm d fun r g=>⟨fun i=>⟨⟨fun y hy=>f _ y hy,by intro r;kernel_rfl,by intro r y;kernel_rfl⟩,fun j=>⟨id,id⟩⟩,id⟩
theorem ZSQ(c:List Msg)(a:Msg→Option Bool):KO Tryz.prog 118 0 [vL AE c,.fn (.yield 1) [] []] [] (zt a) (S8 c a) Sk (fun _=>[]):=Be Tryz.func118 Tryz.ntmps118 Aa [.cell 4 48,.tmp 5] 0 (fun C co e y hm d b=>Al co Aa Ac 1 (kP c a) (Ae [0,1,4] D3) nl (fun _ h=>h) hm b fun r g=>fun _ hm b=>sq (Al co Aa Ac 1 (lW c a) (Ae [1,4,9,10,11] D3) nl (fun _ h=>h) hm b fun r g=>fun _ hm b=>bk 0 (lo (AG (Zza co c a e) (fun _ h=>h) hm b (fun _ hm=>Am co Aa Ac (i2) hm b fun r g=>id)))))
abbrev zT:Bool→AV:=fun y=>vB y
@[reducible] def yH(w0:ByteArray):Bool→List Blk:=fun y=>[⟨0,true,9,1,[vS w0]⟩]
def rx(a:Msg)(w0:ByteArray):PT 1 (Bool):=vw .go<|vw .go<|lr zT (yH w0) (decide (a.name=w0))
def Ls(a:Msg)(w0:ByteArray):Option (Bool):=(rx a w0).m
theorem ZUy(a:Msg)(w0:ByteArray):KO Tryz.prog 119 1 [.agg ((AE a).map .d),.ptr (0,0) 0 0] [⟨0,true,9,1,[vS w0]⟩] (fun _ _ _ _=>True) (Ls a w0) zT (yH w0):=Be Tryz.func119 Tryz.ntmps119 Aa [.tmp 3] 1 (fun C co d y hm b c=>Am co Aa Ac (rx a w0) hm c fun r g=>id) (hB:=fun y=>⟨.inr (by kernel_rfl),rfl,trivial⟩)
abbrev pk:Msg×Bool→AV:=fun y=>.tup [.agg ((AE y.1).map .d),vB y.2]
def aP(a:Scm)(b:ByteArray):PT 0 (Msg×Bool):=vw .go<|cs Tryz.prog 118 [vL AE a.messages,.fn (.func 119) [] [.ptr (1,3) 1 0]] [(1,3)] [((1,3),⟨1,true,9,1,[vS b]⟩)] (S8 a.messages (fun(z0:Msg)=>Ls z0 b)) (fun y=>.tup [.agg ((AE y.1).map .d),vB y.2]) fun c=>vw .go<|lr pk (fun _=>[]) (c.1,c.2)
def Oa(a:Scm)(b:ByteArray):Option (Msg×Bool):=(aP a b).m
theorem R5(b:Scm)(a:ByteArray):KC Tryz.prog 79 [.agg ((Av b).map .d),vS a] (Oa b a) pk:=Aw Tryz.func79 Tryz.ntmps79 Aa [.cell 4 48,.tmp 5] fun C co y hm c d=>Am co Aa Ac (aP b a) hm d fun r g=>⟨fun y hy=>BQ (ZSQ b.messages (fun(z0:Msg)=>Ls z0 a)) hy co g [] [((1,3),⟨1,true,9,1,[vS a]⟩)] (AL [(1,.fn (.func 119) [] [.ptr (r.κ (1,3)) (r.γ (1,3)+1) 0])]) (fun h e i=>(fun z0 y f=>Dz (ZUy z0 a) f co g [((1,3),⟨1,true,9,1,[vS a]⟩)] [] e (by simp) (fun _=>.top) (fun _ _=>trivial) (fun l H=>⟨fun _=>⟨rfl,by kernel_rfl⟩,by kernel_rfl,trivial⟩))) (fun H=>trivial),fun j=>id⟩
abbrev o3:Acs×Bool→AV:=fun y=>.tup [.agg ((F7 y.1).map .d),vB y.2]
def Xw(a:Scm)(c:ByteArray):PT 0 (Acs×Bool):=vw .go<|cl (R5 a c) fun b=>vw .go<|vw .go<|vw .go<|vw .go<|lr o3 (fun _=>[]) ((.mk b.1 a:Acs),b.2)
def Td(a:Scm)(b:ByteArray):Option (Acs×Bool):=(Xw a b).m
theorem Sf(a:Scm)(b:ByteArray):KC Tryz.prog 44 [.agg ((Av a).map .d),vS b] (Td a b) o3:=Aw Tryz.func44 Tryz.ntmps44 Aa [.cell 4 69,.tmp 5] fun C co y hm c d=>Am co Aa Ac (Xw a b) hm d fun r g=>fun e=>id
abbrev RH:Ad×Blk:=((1,4),⟨0,true,54,16,[vI 0,vS ⟨#[]⟩,vI 0,vI 0,vI 0,vS ⟨#[]⟩,vS ⟨#[]⟩,vB false,vI 0,.d (.int .u64 0),vS ⟨#[]⟩,.e0,.e0,.e0,.e0,.e0]⟩)
abbrev Qn:Fld×Bool→AV:=fun y=>.tup [.agg ((Aq y.1).map .d),vB y.2]
def pM(a:Fld→Option Bool):Cl:=fun no l H θ=>(∀(z0:Fld) y,a z0=some y→Cr Tryz.prog l no H (θ 1) [.agg ((Aq z0).map .d)] (vB y))
def uq(a:List Fld):Nat→St:=fun b=>Ab [(1,.fn (.yield 1) [] []),(4,.ptr (1,4) 0 0),(9,vL Aq a),(10,vN a.length),(11,vN b)] [RH]
def vd:Unit→Nat×St:=fun _=>(0,Ab [(4,.ptr (1,4) 0 0)] [RH])
def Rj(c:List Fld)(d:Fld→Option Bool)(a:Nat):PT 0 (Lv (Nat) (Unit) (Fld×Bool)):=br (decide ((a:Int)<(c.length:Int))) (ix c a fun b=>vw .go<|vw .go<|cf Tryz.prog 1 [.agg ((Aq b).map .d)] (d b) (fun y=>vB y) fun e=>br e (vw .go<|vw .go<|Ap Qn (fun _=>[]) (b,true)) (vs (wa a 1)<|ln (uq c) (a+1))) (Ak (vd) ())
def Pv(b:List Fld)(a:Fld→Option Bool):Nat→Option (Lv (Nat) (Unit) (Fld×Bool)):=fun c=>(Rj b a c).m
def ay:PT 0 (Fld×Bool):=vw .go<|vw .go<|lr Qn (fun _=>[]) ((.mk 0 ⟨#[]⟩ 0 0 (.mk 0 ⟨#[]⟩:Typ) ⟨#[]⟩ false (.mk 0 0 ⟨#[]⟩ [] [] [] []:Val) []:Fld),false)
def bA(a:List Fld)(b:Fld→Option Bool):PT 0 (Fld×Bool):=vz (Ag a)<|lc (Ab [(1,.fn (.yield 1) [] []),(4,.ptr (1,4) 0 0),(9,vL Aq a),(10,vN a.length),(11,vI 0)] [RH]) ((An (Pv a b) Aj 0).bind (Sum.elim (fun _=>(ay).m) some))
def Zy(b:List Fld)(a:Fld→Option Bool):PT 0 (Fld×Bool):=lc (Ab [(0,vL Aq b),(1,.fn (.yield 1) [] []),(4,.ptr (1,4) 0 0)] [RH]) ((bA b a).m)
def Te(b:List Fld)(a:Fld→Option Bool):Option (Fld×Bool):=(Zy b a).m
theorem ZJw{C:Cx}(co:CO C 0)(b:List Fld)(a:Fld→Option Bool)(f:(pM a) C.no C.l C.H0 C.θ):KL Tryz.prog (AF tl) 21 C (pa [0,0,1,0,1] (AB Tryz.f85)) [.cell 4 54,.tmp 5] 0 (uq b) (vd) Qn (fun _=>[]) (Pv b a):=fun h _ hm Q c e d=>AA co Aa Ac (Rj b a h) (Ae [1,4,9,10,11] D3) (Ae [4] D3) e hm d fun r g=>⟨fun i=>⟨⟨fun y hy=>f _ y hy,by intro r;kernel_rfl,by intro r y;kernel_rfl⟩,fun j=>⟨id,id⟩⟩,id⟩
theorem ZXH(c:List Fld)(a:Fld→Option Bool):KO Tryz.prog 85 0 [vL Aq c,.fn (.yield 1) [] []] [] (pM a) (Te c a) Qn (fun _=>[]):=Be Tryz.func85 Tryz.ntmps85 Aa [.cell 4 54,.tmp 5] 0 (fun C co e y hm d b=>Al co Aa Ac 1 (Zy c a) (Ae [0,1,4] D3) nl (fun _ h=>h) hm b fun r g=>fun _ hm b=>sq (Al co Aa Ac 1 (bA c a) (Ae [1,4,9,10,11] D3) nl (fun _ h=>h) hm b fun r g=>fun _ hm b=>bk 0 (lo (AG (ZJw co c a e) (fun _ h=>h) hm b (fun _ hm=>Am co Aa Ac (ay) hm b fun r g=>id)))))
abbrev pm:Bool→AV:=fun y=>vB y
@[reducible] def pF(w0:Int):Bool→List Blk:=fun y=>[⟨0,true,3,1,[vI w0]⟩]
def w4(a:Fld)(w0:Int):PT 1 (Bool):=vw .go<|vw .go<|lr pm (pF w0) (decide (a.num=w0))
def Lx(a:Fld)(w0:Int):Option (Bool):=(w4 a w0).m
theorem ZXq(a:Fld)(w0:Int):KO Tryz.prog 86 1 [.agg ((Aq a).map .d),.ptr (0,0) 0 0] [⟨0,true,3,1,[vI w0]⟩] (fun _ _ _ _=>True) (Lx a w0) pm (pF w0):=Be Tryz.func86 Tryz.ntmps86 Aa [.tmp 3] 1 (fun C co d y hm b c=>Am co Aa Ac (w4 a w0) hm c fun r g=>id) (hB:=fun y=>⟨.inr (by kernel_rfl),rfl,trivial⟩)
abbrev o9:Fld×Bool→AV:=fun y=>.tup [.agg ((Aq y.1).map .d),vB y.2]
def bv(a:Msg)(b:Int):PT 0 (Fld×Bool):=vw .go<|cs Tryz.prog 85 [vL Aq a.fields,.fn (.func 86) [] [.ptr (1,3) 1 0]] [(1,3)] [((1,3),⟨1,true,3,1,[vI b]⟩)] (Te a.fields (fun(z0:Fld)=>Lx z0 b)) (fun y=>.tup [.agg ((Aq y.1).map .d),vB y.2]) fun c=>vw .go<|lr o9 (fun _=>[]) (c.1,c.2)
def fF(a:Msg)(b:Int):Option (Fld×Bool):=(bv a b).m
theorem KP(b:Msg)(a:Int):KC Tryz.prog 53 [.agg ((AE b).map .d),vI a] (fF b a) o9:=Aw Tryz.func53 Tryz.ntmps53 Aa [.cell 4 54,.tmp 5] fun C co y hm c d=>Am co Aa Ac (bv b a) hm d fun r g=>⟨fun y hy=>BQ (ZXH b.fields (fun(z0:Fld)=>Lx z0 a)) hy co g [] [((1,3),⟨1,true,3,1,[vI a]⟩)] (AL [(1,.fn (.func 86) [] [.ptr (r.κ (1,3)) (r.γ (1,3)+1) 0])]) (fun h e i=>(fun z0 y f=>Dz (ZXq z0 a) f co g [((1,3),⟨1,true,3,1,[vI a]⟩)] [] e (by simp) (fun _=>.top) (fun _ _=>trivial) (fun l H=>⟨fun _=>⟨rfl,by kernel_rfl⟩,by kernel_rfl,trivial⟩))) (fun H=>trivial),fun j=>id⟩
abbrev P8:Acs×Fld×Int→AV:=fun y=>.tup [.agg ((F7 y.1).map .d),.agg ((Aq y.2.1).map .d),vI y.2.2]
def Px(a:Acs×Bool)(b:Fld×Bool):PT 0 (Acs×Fld×Int):=lr P8 (fun _=>[]) (a.1,b.1,0)
def PA(b:Acs×Bool)(a:Fld×Bool):PT 0 (Acs×Fld×Int):=vw (.fzb 9 [9])<|vw (.fzb 11 [11])<|vw .sep<|vw .go<|vw .go<|lc (Ab [(6,.ptr (1,6) 0 0),(7,.ptr (1,7) 0 0),(8,vI 0)] [((1,6),⟨0,true,69,8,[vS b.1.m.name,vL Aq b.1.m.fields,vL AQ b.1.m.reserved,vL AC b.1.m.gone,vL Ax b.1.m.notes,vL AE b.1.s.messages,vL AP b.1.s.enums,vL AZ b.1.s.services]⟩),((1,7),⟨0,true,54,16,[vI a.1.num,vS a.1.name,vI a.1.card,vI a.1.key,vI a.1.type.kind,vS a.1.type.name,vS a.1.union,vB a.1.hasDefault,vI a.1.dflt.kind,.d (.int .u64 a.1.dflt.bits),vS a.1.dflt.text,vL Ar a.1.dflt.list,vL As a.1.dflt.pairs,vL Ah a.1.dflt.slots,vL Au a.1.dflt.raws,vL Ax a.1.notes]⟩)]) ((Px b a).m)
def PB(c:Scm)(d:ByteArray)(e:Int):PT 0 (Acs×Fld×Int):=vw .go<|cl (Sf c d) fun b=>vw .go<|br (!b.2) (vw .go<|vw .go<|vw .go<|lr P8 (fun _=>[]) (b.1,(.mk 0 ⟨#[]⟩ 0 0 (.mk 0 ⟨#[]⟩:Typ) ⟨#[]⟩ false (.mk 0 0 ⟨#[]⟩ [] [] [] []:Val) []:Fld),10)) (vw .go<|cl (KP b.1.m e) fun a=>vw .go<|br (!a.2) (vw .go<|vw .go<|vw .go<|lr P8 (fun _=>[]) (b.1,(.mk 0 ⟨#[]⟩ 0 0 (.mk 0 ⟨#[]⟩:Typ) ⟨#[]⟩ false (.mk 0 0 ⟨#[]⟩ [] [] [] []:Val) []:Fld),8)) (lc (Ab [(6,.ptr (1,6) 0 0),(7,.ptr (1,7) 0 0),(9,.ptr (1,9) 0 0),(11,.ptr (1,11) 0 0)] [((1,6),⟨0,true,69,8,[vS ⟨#[]⟩,.e0,.e0,.e0,.e0,.e0,.e0,.e0]⟩),((1,7),⟨0,true,54,16,[vI 0,vS ⟨#[]⟩,vI 0,vI 0,vI 0,vS ⟨#[]⟩,vS ⟨#[]⟩,vB false,vI 0,.d (.int .u64 0),vS ⟨#[]⟩,.e0,.e0,.e0,.e0,.e0]⟩),((1,9),⟨0,true,69,8,[vS b.1.m.name,vL Aq b.1.m.fields,vL AQ b.1.m.reserved,vL AC b.1.m.gone,vL Ax b.1.m.notes,vL AE b.1.s.messages,vL AP b.1.s.enums,vL AZ b.1.s.services]⟩),((1,11),⟨0,true,54,16,[vI a.1.num,vS a.1.name,vI a.1.card,vI a.1.key,vI a.1.type.kind,vS a.1.type.name,vS a.1.union,vB a.1.hasDefault,vI a.1.dflt.kind,.d (.int .u64 a.1.dflt.bits),vS a.1.dflt.text,vL Ar a.1.dflt.list,vL As a.1.dflt.pairs,vL Ah a.1.dflt.slots,vL Au a.1.dflt.raws,vL Ax a.1.notes]⟩)]) ((PA b a).m)))
def JX(a:Scm)(b:ByteArray)(c:Int):Option (Acs×Fld×Int):=(PB a b c).m
theorem yU(b:Scm)(c:ByteArray)(d:Int):KC Tryz.prog 25 [.agg ((Av b).map .d),vS c,vI d] (JX b c d) P8:=Aw Tryz.func25 Tryz.ntmps25 Aa [.cell 6 69,.cell 7 54,.tmp 8] fun C co y hm e a=>Al co Aa Ac 5 (PB b c d) (Ae [6,7,9,11] [((1,6),false),((1,7),false),((1,9),false),((1,11),false)]) nl (fun _ h=>h) hm a fun r g=>fun f=>⟨id,fun i=>⟨id,fun _ hm a=>sq (F2 co Aa Ac (.fst 0 (.fst 1 (.fst 2 (.fst 3 (.fst 4 .nil))))) [9,11] (PA f i) (Ae [6,7,8] [((1,6),false),((1,7),false)]) hm a fun r g=>fun _ hm a=>Am co Aa Ac (Px f i) hm a fun r g=>id)⟩⟩
abbrev pw:Bool→AV:=fun y=>vB y
def V3(a:Int):PT 0 (Bool):=lr pw (fun _=>[]) (decide ((1:Int)≤a)&&decide (a≤(9:Int)))
def LA(a:Int):Option (Bool):=(V3 a).m
theorem KH(a:Int):KC Tryz.prog 96 [vI a] (LA a) pw:=Aw Tryz.func96 Tryz.ntmps96 Aa [.tmp 2] fun C co y hm b c=>Am co Aa Ac (V3 a) hm c fun r g=>id
abbrev zU:Bool→AV:=fun y=>vB y
def Vy(a:Int):PT 0 (Bool):=lr zU (fun _=>[]) (decide (a=(7:Int))||decide (a=(8:Int)))
def To(a:Int):Option (Bool):=(Vy a).m
theorem xc(a:Int):KC Tryz.prog 141 [vI a] (To a) zU:=Aw Tryz.func141 Tryz.ntmps141 Aa [.tmp 2] fun C co y hm b c=>Am co Aa Ac (Vy a) hm c fun r g=>id
abbrev Qo:Bool→AV:=fun y=>vB y
def bO(a:Val):PT 0 (Bool):=vw .go<|vz (Ag a.list)<|vw .go<|vz (Ag a.pairs)<|vs (wa a.list.length a.pairs.length)<|vw .go<|vz (Ag a.slots)<|vs (wa (a.list.length+a.pairs.length) a.slots.length)<|vw .go<|vz (Ag a.raws)<|vs (wa ((a.list.length+a.pairs.length)+a.slots.length) a.raws.length)<|br (decide ((0:Int)<((((a.list.length+a.pairs.length)+a.slots.length)+a.raws.length:Nat):Int))) (lr Qo (fun _=>[]) false) (vw .go<|cl (xc a.kind) fun b=>br b (vw .go<|lr Qo (fun _=>[]) (decide (a.bits=(0:Int)))) (vw .go<|lr Qo (fun _=>[]) (decide (a.text=(⟨#[]⟩:ByteArray)))))
def fd(a:Val):Option (Bool):=(bO a).m
theorem ZWu(a:Val):KC Tryz.prog 97 [.agg ((Ai a).map .d)] (fd a) Qo:=Aw Tryz.func97 Tryz.ntmps97 Aa [.tmp 2] fun C co y hm b c=>Am co Aa Ac (bO a) hm c fun r g=>⟨id,fun d=>⟨id,id⟩⟩
abbrev KE:Bool→AV:=fun y=>vB y
def n5(b:Int)(a:Int):PT 0 (Bool):=br (decide (b=(1:Int))) (lr KE (fun _=>[]) (decide (a≤(1:Int)))) (br (decide (b=(2:Int))) (vz (wk .i64 a)<|vy (decide (((-2147483648):Int)≤(IntKind.i64.wrap a))) (wk .i64 a)<|lr KE (fun _=>[]) (decide (((-2147483648):Int)≤(IntKind.i64.wrap a))&&decide ((IntKind.i64.wrap a)≤(2147483647:Int)))) (br (decide (b=(9:Int))) (lr KE (fun _=>[]) (decide (a≤(2147483647:Int)))) (br (decide (b=(4:Int))) (lr KE (fun _=>[]) (decide (a≤(4294967295:Int)))) (lr KE (fun _=>[]) true))))
def ft(a:Int)(b:Int):Option (Bool):=(n5 a b).m
theorem ZSZ(a:Int)(b:Int):KC Tryz.prog 133 [vI a,.d (.int .u64 b)] (ft a b) KE:=Aw Tryz.func133 Tryz.ntmps133 Aa [.tmp 4] fun C co y hm c d=>Am co Aa Ac (n5 a b) hm d fun r g=>⟨id,⟨id,⟨id,⟨id,id⟩⟩⟩⟩
abbrev yA:Bool→AV:=fun y=>vB y
def lQ(b:ByteArray)(a:ByteArray):PT 0 (Bool):=vz (A2 b.size)<|vz (A2 a.size)<|vy (decide ((a.size:Int)≤(b.size:Int))) (A2 a.size)<|ssg (decide ((a.size:Int)≤(b.size:Int))) b .no (.nt a.size) fun s1=>lr yA (fun _=>[]) (decide ((a.size:Int)≤(b.size:Int))&&decide (s1=a))
def Zdh(a:ByteArray)(b:ByteArray):Option (Bool):=(lQ a b).m
theorem ZTK(a:ByteArray)(b:ByteArray):KC Tryz.prog 231 [vS a,vS b] (Zdh a b) yA:=Aw Tryz.func231 Tryz.ntmps231 Aa [.tmp 4] fun C co y hm c d=>Am co Aa Ac (lQ a b) hm d fun r g=>fun s1=>id
abbrev zr:Bool→AV:=fun y=>vB y
def jp(a:ByteArray)(b:ByteArray):PT 0 (Bool):=cl (ZTK a b) fun c=>lr zr (fun _=>[]) c
def ek(a:ByteArray)(b:ByteArray):Option (Bool):=(jp a b).m
theorem ZSt(a:ByteArray)(b:ByteArray):KC Tryz.prog 217 [vS a,vS b] (ek a b) zr:=Aw Tryz.func217 Tryz.ntmps217 Aa [.tmp 4] fun C co y hm c d=>Am co Aa Ac (jp a b) hm d fun r g=>fun e=>id
abbrev ym:Bool→AV:=fun y=>vB y
def mE(b:ByteArray)(c:Int)(a:Int):PT 0 (Bool):=ssg (decide (a=(65533:Int))) b (.it c) .no fun s1=>clg (decide (a=(65533:Int))) (ZSt s1 (⟨#[239,191,189]⟩)) fun d=>lr ym (fun _=>[]) (decide (a=(65533:Int))&&(!d))
def fy(a:ByteArray)(b:Int)(c:Int):Option (Bool):=(mE a b c).m
theorem ZSs(a:ByteArray)(b:Int)(c:Int):KC Tryz.prog 191 [vS a,vI b,.d (.int .i32 c)] (fy a b c) ym:=Aw Tryz.func191 Tryz.ntmps191 Aa [.tmp 6] fun C co y hm d e=>Am co Aa Ac (mE a b c) hm e fun r g=>fun s1=>fun f=>id
abbrev SW:Int→AV:=fun y=>vI y
def rm(a:ByteArray):Nat→St:=fun b=>Ab [(0,vS a),(6,.ptr (1,6) 0 0)] [((1,6),⟨0,true,.s a b,0,[]⟩)]
def tB:Unit→Nat×St:=fun _=>(0,Ab [] [])
def kE(b:ByteArray)(a:Nat):PT 0 (Lv (Nat) (Unit) (Int)):=br (decide (a<b.size)) (vw .go<|cl (ZSs b (a:Int) (IR b a)) fun c=>br c (Ap SW (fun _=>[]) (a:Int)) (ln (rm b) (a+EG b a))) (vw .go<|Ak (tB) ())
def Ve(a:ByteArray):Nat→Option (Lv (Nat) (Unit) (Int)):=fun b=>(kE a b).m
def oh:PT 0 (Int):=lr SW (fun _=>[]) (-1)
def iW(a:ByteArray):PT 0 (Int):=lc (Ab [(0,vS a),(6,.ptr (1,6) 0 0)] [((1,6),⟨0,true,.s a 0,0,[]⟩)]) ((An (Ve a) Aj 0).bind (Sum.elim (fun _=>(oh).m) some))
def jq(a:ByteArray):PT 0 (Int):=lc (Ab [(0,vS a)] []) ((iW a).m)
def Zk0(a:ByteArray):Option (Int):=(jq a).m
theorem ZzU{C:Cx}(co:CO C 0)(a:ByteArray):KL Tryz.prog (AF tl) 16 C (pa [0,0,1,0,1] (AB Tryz.f166)) [.tmp 2] 0 (rm a) (tB) SW (fun _=>[]) (Ve a):=fun e _ hm Q b d c=>AA co Aa Ac (kE a e) (Ae [0,6] [((1,6),false)]) nl d hm c fun r g=>⟨fun f=>⟨id,id⟩,id⟩
theorem ZSm(b:ByteArray):KC Tryz.prog 166 [vS b] (Zk0 b) SW:=Aw Tryz.func166 Tryz.ntmps166 Aa [.tmp 2] fun C co y hm c a=>Al co Aa Ac 1 (jq b) (AN [0]) nl (fun _ h=>h) hm a fun r g=>fun _ hm a=>sq (Al co Aa Ac 1 (iW b) (Ae [0,6] [((1,6),false)]) nl (fun _ h=>h) hm a fun r g=>fun _ hm a=>bk 0 (lo (AG (ZzU co b) (fun _ h=>h) hm a (fun _ hm=>Am co Aa Ac (oh) hm a fun r g=>id))))
abbrev zC:Bool→AV:=fun y=>vB y
def iM(a:ByteArray):PT 0 (Bool):=cl (ZSm a) fun b=>lr zC (fun _=>[]) (decide (b<(0:Int)))
def fW(a:ByteArray):Option (Bool):=(iM a).m
theorem xP(a:ByteArray):KC Tryz.prog 134 [vS a] (fW a) zC:=Aw Tryz.func134 Tryz.ntmps134 Aa [.tmp 2] fun C co y hm b c=>Am co Aa Ac (iM a) hm c fun r g=>fun d=>id
abbrev WO:Bool→AV:=fun y=>vB y
def aV(b:Int)(a:Val):PT 0 (Bool):=cl (KH b) fun c=>vw .go<|vw .go<|clg (!((!c)||(!decide (a.kind=b)))) (ZWu a) fun d=>vw .go<|clg (!(((!c)||(!decide (a.kind=b)))||(!d))) (ZSZ b a.bits) fun e=>vw .go<|vy (!((((!c)||(!decide (a.kind=b)))||(!d))||(!e))) (A2 a.text.size)<|br (((((!c)||(!decide (a.kind=b)))||(!d))||(!e))||decide ((4096:Int)<(a.text.size:Int))) (lr WO (fun _=>[]) false) (vw .go<|clg (!(!decide (b=(7:Int)))) (xP a.text) fun f=>lr WO (fun _=>[]) ((!decide (b=(7:Int)))||f))
def fg(a:Int)(b:Val):Option (Bool):=(aV a b).m
theorem de(a:Int)(b:Val):KC Tryz.prog 89 [vI a,.agg ((Ai b).map .d)] (fg a b) WO:=Aw Tryz.func89 Tryz.ntmps89 Aa [.tmp 4] fun C co y hm c d=>Am co Aa Ac (aV a b) hm d fun r g=>fun e=>fun f=>fun h=>⟨id,fun i=>id⟩
abbrev SC:Ad×Blk:=((1,4),⟨0,true,93,5,[vS ⟨#[]⟩,vB false,.e0,.e0,.e0]⟩)
abbrev SG:Enm×Bool→AV:=fun y=>.tup [.agg ((AP y.1).map .d),vB y.2]
def yD(a:Enm→Option Bool):Cl:=fun no l H θ=>(∀(z0:Enm) y,a z0=some y→Cr Tryz.prog l no H (θ 1) [.agg ((AP z0).map .d)] (vB y))
def qK(a:List Enm):Nat→St:=fun b=>Ab [(1,.fn (.yield 1) [] []),(4,.ptr (1,4) 0 0),(9,vL AP a),(10,vN a.length),(11,vN b)] [SC]
def ue:Unit→Nat×St:=fun _=>(0,Ab [(4,.ptr (1,4) 0 0)] [SC])
def Vt(c:List Enm)(d:Enm→Option Bool)(a:Nat):PT 0 (Lv (Nat) (Unit) (Enm×Bool)):=br (decide ((a:Int)<(c.length:Int))) (ix c a fun b=>vw .go<|vw .go<|cf Tryz.prog 1 [.agg ((AP b).map .d)] (d b) (fun y=>vB y) fun e=>br e (vw .go<|vw .go<|Ap SG (fun _=>[]) (b,true)) (vs (wa a 1)<|ln (qK c) (a+1))) (Ak (ue) ())
def Pn(b:List Enm)(a:Enm→Option Bool):Nat→Option (Lv (Nat) (Unit) (Enm×Bool)):=fun c=>(Vt b a c).m
def jG:PT 0 (Enm×Bool):=vw .go<|vw .go<|lr SG (fun _=>[]) ((.mk ⟨#[]⟩ false [] [] []:Enm),false)
def mo(a:List Enm)(b:Enm→Option Bool):PT 0 (Enm×Bool):=vz (Ag a)<|lc (Ab [(1,.fn (.yield 1) [] []),(4,.ptr (1,4) 0 0),(9,vL AP a),(10,vN a.length),(11,vI 0)] [SC]) ((An (Pn a b) Aj 0).bind (Sum.elim (fun _=>(jG).m) some))
def j6(b:List Enm)(a:Enm→Option Bool):PT 0 (Enm×Bool):=lc (Ab [(0,vL AP b),(1,.fn (.yield 1) [] []),(4,.ptr (1,4) 0 0)] [SC]) ((mo b a).m)
def e9(b:List Enm)(a:Enm→Option Bool):Option (Enm×Bool):=(j6 b a).m
theorem ZyV{C:Cx}(co:CO C 0)(b:List Enm)(a:Enm→Option Bool)(f:(yD a) C.no C.l C.H0 C.θ):KL Tryz.prog (AF tl) 21 C (pa [0,0,1,0,1] (AB Tryz.f136)) [.cell 4 93,.tmp 5] 0 (qK b) (ue) SG (fun _=>[]) (Pn b a):=fun h _ hm Q c e d=>AA co Aa Ac (Vt b a h) (Ae [1,4,9,10,11] D3) (Ae [4] D3) e hm d fun r g=>⟨fun i=>⟨⟨fun y hy=>f _ y hy,by intro r;kernel_rfl,by intro r y;kernel_rfl⟩,fun j=>⟨id,id⟩⟩,id⟩
theorem ZUv(c:List Enm)(a:Enm→Option Bool):KO Tryz.prog 136 0 [vL AP c,.fn (.yield 1) [] []] [] (yD a) (e9 c a) SG (fun _=>[]):=Be Tryz.func136 Tryz.ntmps136 Aa [.cell 4 93,.tmp 5] 0 (fun C co e y hm d b=>Al co Aa Ac 1 (j6 c a) (Ae [0,1,4] D3) nl (fun _ h=>h) hm b fun r g=>fun _ hm b=>sq (Al co Aa Ac 1 (mo c a) (Ae [1,4,9,10,11] D3) nl (fun _ h=>h) hm b fun r g=>fun _ hm b=>bk 0 (lo (AG (ZyV co c a e) (fun _ h=>h) hm b (fun _ hm=>Am co Aa Ac (jG) hm b fun r g=>id)))))
abbrev yE:Bool→AV:=fun y=>vB y
@[reducible] def yS(w0:ByteArray):Bool→List Blk:=fun y=>[⟨0,true,9,1,[vS w0]⟩]
def sW(a:Enm)(w0:ByteArray):PT 1 (Bool):=vw .go<|vw .go<|lr yE (yS w0) (decide (a.name=w0))
def Oe(a:Enm)(w0:ByteArray):Option (Bool):=(sW a w0).m
theorem ZUi(a:Enm)(w0:ByteArray):KO Tryz.prog 137 1 [.agg ((AP a).map .d),.ptr (0,0) 0 0] [⟨0,true,9,1,[vS w0]⟩] (fun _ _ _ _=>True) (Oe a w0) yE (yS w0):=Be Tryz.func137 Tryz.ntmps137 Aa [.tmp 3] 1 (fun C co d y hm b c=>Am co Aa Ac (sW a w0) hm c fun r g=>id) (hB:=fun y=>⟨.inr (by kernel_rfl),rfl,trivial⟩)
abbrev pr:Enm×Bool→AV:=fun y=>.tup [.agg ((AP y.1).map .d),vB y.2]
def ZH(a:Scm)(b:ByteArray):PT 0 (Enm×Bool):=vw .go<|cs Tryz.prog 136 [vL AP a.enums,.fn (.func 137) [] [.ptr (1,3) 1 0]] [(1,3)] [((1,3),⟨1,true,9,1,[vS b]⟩)] (e9 a.enums (fun(z0:Enm)=>Oe z0 b)) (fun y=>.tup [.agg ((AP y.1).map .d),vB y.2]) fun c=>vw .go<|lr pr (fun _=>[]) (c.1,c.2)
def fZ(a:Scm)(b:ByteArray):Option (Enm×Bool):=(ZH a b).m
theorem RF(b:Scm)(a:ByteArray):KC Tryz.prog 92 [.agg ((Av b).map .d),vS a] (fZ b a) pr:=Aw Tryz.func92 Tryz.ntmps92 Aa [.cell 4 93,.tmp 5] fun C co y hm c d=>Am co Aa Ac (ZH b a) hm d fun r g=>⟨fun y hy=>BQ (ZUv b.enums (fun(z0:Enm)=>Oe z0 a)) hy co g [] [((1,3),⟨1,true,9,1,[vS a]⟩)] (AL [(1,.fn (.func 137) [] [.ptr (r.κ (1,3)) (r.γ (1,3)+1) 0])]) (fun h e i=>(fun z0 y f=>Dz (ZUi z0 a) f co g [((1,3),⟨1,true,9,1,[vS a]⟩)] [] e (by simp) (fun _=>.top) (fun _ _=>trivial) (fun l H=>⟨fun _=>⟨rfl,by kernel_rfl⟩,by kernel_rfl,trivial⟩))) (fun H=>trivial),fun j=>id⟩
abbrev SA:Int→AV:=fun y=>vI y
def zA(a:Itm→Option Bool):Cl:=fun no l H θ=>(∀(z0:Itm) y,a z0=some y→Cr Tryz.prog l no H (θ 1) [.agg ((Ca z0).map .d)] (vB y))
def sn(a:List Itm):Nat→St:=fun b=>Ab [(0,vL Ca a),(1,.fn (.yield 1) [] []),(7,vN a.length),(8,vN b)] []
def si:Unit→Nat×St:=fun _=>(0,Ab [] [])
def UL(b:List Itm)(c:Itm→Option Bool)(a:Nat):PT 0 (Lv (Nat) (Unit) (Int)):=br (decide ((a:Int)<(b.length:Int))) (ix b a fun d=>cf Tryz.prog 1 [.agg ((Ca d).map .d)] (c d) (fun y=>vB y) fun e=>br e (Ap SA (fun _=>[]) (a:Int)) (vs (wa a 1)<|ln (sn b) (a+1))) (Ak (si) ())
def O7(b:List Itm)(a:Itm→Option Bool):Nat→Option (Lv (Nat) (Unit) (Int)):=fun c=>(UL b a c).m
def nF:PT 0 (Int):=lr SA (fun _=>[]) (-1)
def iL(a:List Itm)(b:Itm→Option Bool):PT 0 (Int):=vz (Ag a)<|lc (Ab [(0,vL Ca a),(1,.fn (.yield 1) [] []),(7,vN a.length),(8,vI 0)] []) ((An (O7 a b) Aj 0).bind (Sum.elim (fun _=>(nF).m) some))
def kz(b:List Itm)(a:Itm→Option Bool):PT 0 (Int):=lc (Ab [(0,vL Ca b),(1,.fn (.yield 1) [] [])] []) ((iL b a).m)
def eW(b:List Itm)(a:Itm→Option Bool):Option (Int):=(kz b a).m
theorem ZAS{C:Cx}(co:CO C 0)(b:List Itm)(a:Itm→Option Bool)(f:(zA a) C.no C.l C.H0 C.θ):KL Tryz.prog (AF tl) 19 C (pa [0,0,1,0,1] (AB Tryz.f138)) [.tmp 4] 0 (sn b) (si) SA (fun _=>[]) (O7 b a):=fun h _ hm Q c e d=>AA co Aa Ac (UL b a h) (AN [0,1,7,8]) nl e hm d fun r g=>⟨fun i=>⟨⟨fun y hy=>f _ y hy,by intro r;kernel_rfl,by intro r y;kernel_rfl⟩,fun j=>⟨id,id⟩⟩,id⟩
theorem ZS9(c:List Itm)(a:Itm→Option Bool):KO Tryz.prog 138 0 [vL Ca c,.fn (.yield 1) [] []] [] (zA a) (eW c a) SA (fun _=>[]):=Be Tryz.func138 Tryz.ntmps138 Aa [.tmp 4] 0 (fun C co e y hm d b=>Al co Aa Ac 1 (kz c a) (AN [0,1]) nl (fun _ h=>h) hm b fun r g=>fun _ hm b=>sq (Al co Aa Ac 1 (iL c a) (AN [0,1,7,8]) nl (fun _ h=>h) hm b fun r g=>fun _ hm b=>bk 0 (lo (AG (ZAS co c a e) (fun _ h=>h) hm b (fun _ hm=>Am co Aa Ac (nF) hm b fun r g=>id)))))
abbrev pt:Bool→AV:=fun y=>vB y
def H93(a:Itm→Option Bool):Cl:=fun no l H θ=>(∀(z0:Itm) y,a z0=some y→Cr Tryz.prog l no H (θ 1) [.agg ((Ca z0).map .d)] (vB y))
def ZA(b:List Itm)(a:Itm→Option Bool):PT 0 (Bool):=cs Tryz.prog 138 [vL Ca b,.fn (.yield 1) [] []] [] [] (eW b a) (fun y=>vI y) fun c=>lr pt (fun _=>[]) (decide ((0:Int)≤c))
def N8(b:List Itm)(a:Itm→Option Bool):Option (Bool):=(ZA b a).m
theorem zX(b:List Itm)(a:Itm→Option Bool):KO Tryz.prog 93 0 [vL Ca b,.fn (.yield 1) [] []] [] (H93 a) (N8 b a) pt (fun _=>[]):=Be Tryz.func93 Tryz.ntmps93 Aa [.tmp 4] 0 (fun C co e y hm c d=>Am co Aa Ac (ZA b a) hm d fun r g=>⟨fun y hy=>BQ (ZS9 b a) hy co g [] [] (AL [(1,r.θ 1)]) (fun i j f=>(fun z0 y h=>LZ co g [] f (e z0 y h))) (fun H=>trivial),fun k=>id⟩)
abbrev pu:Bool→AV:=fun y=>vB y
@[reducible] def pH(w0:Val):Bool→List Blk:=fun y=>[⟨0,true,33,7,[vI w0.kind,.d (.int .u64 w0.bits),vS w0.text,vL Ar w0.list,vL As w0.pairs,vL Ah w0.slots,vL Au w0.raws]⟩]
def xK(a:Itm)(w0:Val):PT 1 (Bool):=vw .go<|vz (wk .u64 a.num)<|vw .go<|lr pu (pH w0) (decide ((IntKind.u64.wrap a.num)=w0.bits))
def S4(a:Itm)(w0:Val):Option (Bool):=(xK a w0).m
theorem ZWF(a:Itm)(w0:Val):KO Tryz.prog 94 1 [.agg ((Ca a).map .d),.ptr (0,0) 0 0] [⟨0,true,33,7,[vI w0.kind,.d (.int .u64 w0.bits),vS w0.text,vL Ar w0.list,vL As w0.pairs,vL Ah w0.slots,vL Au w0.raws]⟩] (fun _ _ _ _=>True) (S4 a w0) pu (pH w0):=Be Tryz.func94 Tryz.ntmps94 Aa [.tmp 3] 1 (fun C co d y hm b c=>Am co Aa Ac (xK a w0) hm c fun r g=>id) (hB:=fun y=>⟨.inr (by kernel_rfl),rfl,trivial⟩)
abbrev zi:Bool→AV:=fun y=>vB y
def jn(a:Val):PT 0 (Bool):=vw .go<|vw .go<|vw .go<|vw .go<|vy (!decide (a.kind=(11:Int))) (Ag a.list)<|vw .go<|vw .go<|vy ((!((!decide (a.kind=(11:Int)))&&decide ((0:Int)<(a.list.length:Int))))&&(!decide (a.kind=(12:Int)))) (Ag a.pairs)<|vw .go<|vw .go<|vy ((!(((!decide (a.kind=(11:Int)))&&decide ((0:Int)<(a.list.length:Int)))||((!decide (a.kind=(12:Int)))&&decide ((0:Int)<(a.pairs.length:Int)))))&&(!decide (a.kind=(10:Int)))) (Ag a.slots)<|vw .go<|vy ((!(((!decide (a.kind=(11:Int)))&&decide ((0:Int)<(a.list.length:Int)))||((!decide (a.kind=(12:Int)))&&decide ((0:Int)<(a.pairs.length:Int)))))&&(!decide (a.kind=(10:Int)))) (Ag a.raws)<|vg ((!(((!decide (a.kind=(11:Int)))&&decide ((0:Int)<(a.list.length:Int)))||((!decide (a.kind=(12:Int)))&&decide ((0:Int)<(a.pairs.length:Int)))))&&(!decide (a.kind=(10:Int)))) (wa a.slots.length a.raws.length)<|vw .go<|vw .go<|vw .go<|vw .go<|lr zi (fun _=>[]) ((((((!decide (a.kind=(11:Int)))&&decide ((0:Int)<(a.list.length:Int)))||((!decide (a.kind=(12:Int)))&&decide ((0:Int)<(a.pairs.length:Int))))||((!decide (a.kind=(10:Int)))&&decide ((0:Int)<((a.slots.length+a.raws.length:Nat):Int))))||((!decide (a.bits=(0:Int)))&&((decide (a.kind=(7:Int))||decide (a.kind=(8:Int)))||(decide ((10:Int)≤a.kind)&&decide (a.kind≤(12:Int))))))||((!decide (a.text=(⟨#[]⟩:ByteArray)))&&(!(decide (a.kind=(7:Int))||decide (a.kind=(8:Int))))))
def fm(a:Val):Option (Bool):=(jn a).m
theorem QS(a:Val):KC Tryz.prog 169 [.agg ((Ai a).map .d)] (fm a) zi:=Aw Tryz.func169 Tryz.ntmps169 Aa [.tmp 2] fun C co y hm b c=>Am co Aa Ac (jn a) hm c fun r g=>id
abbrev Qk:Int→AV:=fun y=>vI y
def pL(a:Fld→Option Bool):Cl:=fun no l H θ=>(∀(z0:Fld) y,a z0=some y→Cr Tryz.prog l no H (θ 1) [.agg ((Aq z0).map .d)] (vB y))
def yg(a:List Fld):Nat→St:=fun b=>Ab [(0,vL Aq a),(1,.fn (.yield 1) [] []),(7,vN a.length),(8,vN b)] []
def w9:Unit→Nat×St:=fun _=>(0,Ab [] [])
def wW(b:List Fld)(c:Fld→Option Bool)(a:Nat):PT 0 (Lv (Nat) (Unit) (Int)):=br (decide ((a:Int)<(b.length:Int))) (ix b a fun d=>cf Tryz.prog 1 [.agg ((Aq d).map .d)] (c d) (fun y=>vB y) fun e=>br e (Ap Qk (fun _=>[]) (a:Int)) (vs (wa a 1)<|ln (yg b) (a+1))) (Ak (w9) ())
def wz(b:List Fld)(a:Fld→Option Bool):Nat→Option (Lv (Nat) (Unit) (Int)):=fun c=>(wW b a c).m
def xq:PT 0 (Int):=lr Qk (fun _=>[]) (-1)
def wn(a:List Fld)(b:Fld→Option Bool):PT 0 (Int):=vz (Ag a)<|lc (Ab [(0,vL Aq a),(1,.fn (.yield 1) [] []),(7,vN a.length),(8,vI 0)] []) ((An (wz a b) Aj 0).bind (Sum.elim (fun _=>(xq).m) some))
def xO(b:List Fld)(a:Fld→Option Bool):PT 0 (Int):=lc (Ab [(0,vL Aq b),(1,.fn (.yield 1) [] [])] []) ((wn b a).m)
def ZeU(b:List Fld)(a:Fld→Option Bool):Option (Int):=(xO b a).m
theorem ZFH{C:Cx}(co:CO C 0)(b:List Fld)(a:Fld→Option Bool)(f:(pL a) C.no C.l C.H0 C.θ):KL Tryz.prog (AF tl) 19 C (pa [0,0,1,0,1] (AB Tryz.f80)) [.tmp 4] 0 (yg b) (w9) Qk (fun _=>[]) (wz b a):=fun h _ hm Q c e d=>AA co Aa Ac (wW b a h) (AN [0,1,7,8]) nl e hm d fun r g=>⟨fun i=>⟨⟨fun y hy=>f _ y hy,by intro r;kernel_rfl,by intro r y;kernel_rfl⟩,fun j=>⟨id,id⟩⟩,id⟩
theorem ZXB(c:List Fld)(a:Fld→Option Bool):KO Tryz.prog 80 0 [vL Aq c,.fn (.yield 1) [] []] [] (pL a) (ZeU c a) Qk (fun _=>[]):=Be Tryz.func80 Tryz.ntmps80 Aa [.tmp 4] 0 (fun C co e y hm d b=>Al co Aa Ac 1 (xO c a) (AN [0,1]) nl (fun _ h=>h) hm b fun r g=>fun _ hm b=>sq (Al co Aa Ac 1 (wn c a) (AN [0,1,7,8]) nl (fun _ h=>h) hm b fun r g=>fun _ hm b=>bk 0 (lo (AG (ZFH co c a e) (fun _ h=>h) hm b (fun _ hm=>Am co Aa Ac (xq) hm b fun r g=>id)))))
abbrev QM:Int→AV:=fun y=>vI y
@[reducible] def Wr(a:List Fld):Int→List Blk:=fun y=>[⟨0,true,54,16,Af Aq a⟩]
def vM(a:Fld→Option Bool):Cl:=fun no l H θ=>(∀(z0:Fld) y,a z0=some y→Cr Tryz.prog l no H (θ 1) [.agg ((Aq z0).map .d)] (vB y))
def Zwm(a:List Fld):Nat→St:=fun b=>Ab [(0,.ref (0,0) 0 0 a.length),(1,.fn (.yield 1) [] []),(7,vN a.length),(8,vN b)] [((0,0),⟨0,true,54,16,Af Aq a⟩)]
def ZvV(a:List Fld):Unit→Nat×St:=fun _=>(0,Ab [] [((0,0),⟨0,true,54,16,Af Aq a⟩)])
def OD(a:List Fld)(c:Fld→Option Bool)(b:Nat):PT 1 (Lv (Nat) (Unit) (Int)):=br (decide ((b:Int)<(a.length:Int))) (vs (ir b a.length 16)<|ca a b fun d=>cf Tryz.prog 1 [.agg ((Aq d).map .d)] (c d) (fun y=>vB y) fun e=>br e (Ap QM (Wr a) (b:Int)) (vs (wa b 1)<|vz (fl a)<|ln (Zwm a) (b+1))) (vz (fl a)<|Ak (ZvV a) ())
def Ub(b:List Fld)(a:Fld→Option Bool):Nat→Option (Lv (Nat) (Unit) (Int)):=fun c=>(OD b a c).m
def OM(a:List Fld):PT 1 (Int):=lr QM (Wr a) (-1)
def OB(a:List Fld)(b:Fld→Option Bool):PT 1 (Int):=vz (A2 a.length)<|vz (fl a)<|lc (Ab [(0,.ref (0,0) 0 0 a.length),(1,.fn (.yield 1) [] []),(7,vN a.length),(8,vI 0)] [((0,0),⟨0,true,54,16,Af Aq a⟩)]) ((An (Ub a b) Aj 0).bind (Sum.elim (fun _=>(OM a).m) some))
def ON(a:List Fld)(b:Fld→Option Bool):PT 1 (Int):=vz (fl a)<|lc (Ab [(0,.ref (0,0) 0 0 a.length),(1,.fn (.yield 1) [] [])] [((0,0),⟨0,true,54,16,Af Aq a⟩)]) ((OB a b).m)
def S6(b:List Fld)(a:Fld→Option Bool):Option (Int):=(ON b a).m
theorem Zxn{C:Cx}(co:CO C 1)(b:List Fld)(a:Fld→Option Bool)(f:(vM a) C.no C.l C.H0 C.θ):KL Tryz.prog (AF tl) 19 C (pa [0,0,1,0,1] (AB Tryz.f80)) [.tmp 4] 1 (Zwm b) (ZvV b) QM (Wr b) (Ub b a):=fun h _ hm Q c e d=>AA co Aa Ac (OD b a h) (Ae [0,1,7,8] Ds) (Ae [] Ds) e hm d fun r g=>⟨fun i=>⟨⟨fun y hy=>f _ y hy,by intro r;kernel_rfl,by intro r y;kernel_rfl⟩,fun j=>⟨id,id⟩⟩,id⟩
theorem ZQy(b:List Fld)(a:Fld→Option Bool):KO Tryz.prog 80 1 [.ref (0,0) 0 0 b.length,.fn (.yield 1) [] []] [⟨0,true,54,16,Af Aq b⟩] (vM a) (S6 b a) QM (Wr b):=Be Tryz.func80 Tryz.ntmps80 Aa [.tmp 4] 1 (fun C co e y hm d c=>Al co Aa Ac 1 (ON b a) (Ae [0,1] Ds) nl (fun _ h=>h) hm c fun r g=>fun _ hm c=>sq (Al co Aa Ac 1 (OB b a) (Ae [0,1,7,8] Ds) nl (fun _ h=>h) hm c fun r g=>fun _ hm c=>bk 0 (lo (AG (Zxn co b a e) (fun _ h=>h) hm c (fun _ hm=>Am co Aa Ac (OM b) hm c fun r g=>id))))) (hB:=fun y=>⟨.inl (A0 _ _),rfl,trivial⟩)
abbrev NM(a:List Fld):Ad×Blk:=((0,0),⟨0,true,54,16,Af Aq a⟩)
abbrev WI:List Fld→AV:=fun y=>.ref (0,0) 0 0 y.length
@[reducible] def WR:List Fld→List Blk:=fun y=>[⟨0,true,54,16,Af Aq y⟩]
def pJ(a:Fld→Option Bool):Cl:=fun no l H θ=>(∀(z0:Fld) y,a z0=some y→Cr Tryz.prog l no H (θ 1) [.agg ((Aq z0).map .d)] (vB y))
def X6(a:List Fld):Int×Int×List Fld→St:=fun(v2,v3,b)=>Ab [(0,.ref (0,0) 0 0 a.length),(1,.fn (.yield 1) [] []),(5,vI v2),(6,vI v3)] [((0,0),⟨0,true,54,16,Af Aq b⟩)]
def xe(a:List Fld):Int×List Fld→Nat×St:=fun(c,b)=>(0,Ab [(0,.ref (0,0) 0 0 a.length),(5,vI c)] [((0,0),⟨0,true,54,16,Af Aq b⟩)])
def VM(b:List Fld)(d:Fld→Option Bool)(v2:Int)(v3:Int)(a:List Fld):PT 1 (Lv (Int×Int×List Fld) (Int×List Fld) (List Fld)):=vz (A2 b.length)<|br (decide (v3<(b.length:Int))) (vs (Cu v3 b.length 16)<|ca a v3.toNat fun c=>vw .go<|vw .go<|cf Tryz.prog 1 [.agg ((Aq c).map .d)] (d c) (fun y=>vB y) fun e=>br (!e) (vw .go<|vs (Cu v2 b.length 16)<|vs (st a v2.toNat c)<|GP 0 ((Rw.f (c:Fld)).map .d) (fun _=>tr _)<|vs (wi (v2+1))<|vs (wi (v3+1))<|vz (fl (a.set v2.toNat c))<|ln (X6 b) ((v2+1),(v3+1),a.set v2.toNat c)) (vs (wi (v3+1))<|vz (fl a)<|ln (X6 b) (v2,(v3+1),a))) (vz (fl a)<|Ak (xe b) (v2,a))
def PP(b:List Fld)(a:Fld→Option Bool):Int×Int×List Fld→Option (Lv (Int×Int×List Fld) (Int×List Fld) (List Fld)):=fun(v2,v3,c)=>(VM b a v2 v3 c).m
def bB(c:List Fld)(a:Int)(b:List Fld):PT 1 (List Fld):=sR c.length 0 (.it a) .no<|cr b (0+a.toNat) (c.length-a.toNat) [vI 0,vS ⟨#[]⟩,vI 0,vI 0,vI 0,vS ⟨#[]⟩,vS ⟨#[]⟩,vB false,vI 0,.d (.int .u64 0),vS ⟨#[]⟩,.e0,.e0,.e0,.e0,.e0]<|GP 0 ([vI 0,vS ⟨#[]⟩,vI 0,vI 0,vI 0,vS ⟨#[]⟩,vS ⟨#[]⟩,vB false,vI 0,.d (.int .u64 0),vS ⟨#[]⟩,.e0,.e0,.e0,.e0,.e0]) (fun _=>Zu6 (by kernel_rfl))<|IY 0 b (0+a.toNat) (c.length-a.toNat) [vI 0,vS ⟨#[]⟩,vI 0,vI 0,vI 0,vS ⟨#[]⟩,vS ⟨#[]⟩,vB false,vI 0,.d (.int .u64 0),vS ⟨#[]⟩,.e0,.e0,.e0,.e0,.e0]<|vw .sep<|sR c.length 0 .no (.it a)<|Ed (a.toNat=(b.take (0+a.toNat)).length) (fun E=>E.P (.ref (0,0) 0 0 a.toNat) ([⟨0,true,54,16,Af Aq (b.take (0+a.toNat))⟩])) (b.take (0+a.toNat))
def XY(a:List Fld)(c:Fld→Option Bool)(b:Int):PT 1 (List Fld):=vs (wi (b+1))<|vz (fl a)<|lc (Ab [(0,.ref (0,0) 0 0 a.length),(1,.fn (.yield 1) [] []),(5,vI b),(6,vI (b+1))] [(NM a)]) ((An (PP a c) Aj (b,(b+1),a)).bind (Sum.elim (fun(e,d)=>(bB a e d).m) some))
def Xt(a:List Fld)(b:Fld→Option Bool):PT 1 (List Fld):=cs Tryz.prog 80 [.ref (0,0) 0 0 a.length,.fn (.yield 1) [] []] [(0,0)] [(NM a)] (S6 a b) (fun y=>vI y) fun c=>br (decide (c=((-1):Int))) (lr WI (WR) a) (vz (fl a)<|lc (Ab [(0,.ref (0,0) 0 0 a.length),(1,.fn (.yield 1) [] []),(5,vI c)] [(NM a)]) ((XY a b c).m))
def Tf(b:List Fld)(a:Fld→Option Bool):Option (List Fld):=(Xt b a).m
theorem ZHl{C:Cx}(co:CO C 1)(b:List Fld)(a:Fld→Option Bool)(f:(pJ a) C.no C.l C.H0 C.θ):KL Tryz.prog (AF tl) 42 C (pa [0,0,1,0,1,1,1] (AB Tryz.f58)) [.tmp 4] 1 (X6 b) (xe b) WI (WR) (PP b a):=fun(v2,v3,h) _ hm Q c e d=>AA co Aa Ac (VM b a v2 v3 h) (Ae [0,1,5,6] Ds) (Ae [0,5] Ds) e hm d fun r g=>⟨fun i=>⟨⟨fun y hy=>f _ y hy,by intro r;kernel_rfl,by intro r y;kernel_rfl⟩,fun j=>⟨id,id⟩⟩,id⟩
theorem ZXa(b:List Fld)(a:Fld→Option Bool):KO Tryz.prog 58 1 [.ref (0,0) 0 0 b.length,.fn (.yield 1) [] []] [⟨0,true,54,16,Af Aq b⟩] (pJ a) (Tf b a) WI (WR):=Be Tryz.func58 Tryz.ntmps58 Aa [.tmp 4] 1 (fun C co e y hm d c=>Al co Aa Ac 3 (Xt b a) (Ae [0,1,5] Ds) nl (fun _ h=>h) hm c fun r g=>⟨fun y hy=>BQ (ZQy b a) hy co g [(NM b)] [] (AL [(1,r.θ 1)]) (fun m o f=>(fun z0 y i=>LZ co g [(NM b)] f (e z0 y i))) (fun H=>⟨fun _=>⟨rfl,Bn (A0 _ _) (by kernel_rfl)⟩,by kernel_rfl,trivial⟩),fun l=>⟨id,fun _ hm c=>sq (Al co Aa Ac 1 (XY b a l) (Ae [0,1,5,6] Ds) nl (fun _ h=>h) hm c fun r g=>fun _ hm c=>bk 0 (lo (AG (ZHl co b a e) (fun _ h=>h) hm c (fun(k,j) hm=>Am co Aa Ac (bB b k j) hm c fun r g=>fun h c=>lfx (congrArg (fun n=>(.ref (0,0) 0 0 n:AV)) h) c))))⟩⟩) (hB:=fun y=>⟨.inl (A0 _ _),rfl,trivial⟩)
abbrev WJ:List Fld→AV:=fun y=>.ref (0,0) 1 0 y.length
@[reducible] def WS:List Fld→List Blk:=fun y=>[⟨1,true,54,16,Af Aq y⟩]
def ZR(a:List Fld):PT 1 (List Fld):=al Aq a false fun b=>br b (vw .sep<|vw (.ads 2 2 54 16)<|mv 2 0 ([]:List Fld)<|lr WJ (WS) ([]:List Fld)) (a0 a<|mv 7 0 a<|lr WJ (WS) a)
def Tk(a:List Fld):Option (List Fld):=(ZR a).m
theorem ZXF(a:List Fld):KO Tryz.prog 59 1 [vL Aq a] [⟨0,false,0,0,[]⟩] (fun _ _ _ _=>True) (Tk a) WJ (WS):=Be Tryz.func59 Tryz.ntmps59 Aa [.tmp 2] 1 (fun C co f y hm c d=>Am co Aa Ac (ZR a) hm d fun r g=>⟨fun e=>⟨id,id⟩,by intro b h;subst h;cases b<;>rfl⟩) (hB:=fun y=>⟨.inl (A0 _ _),rfl,trivial⟩)
abbrev pd:Bool→AV:=fun y=>vB y
@[reducible] def pB(w0:ByteArray):Bool→List Blk:=fun y=>[⟨0,true,9,1,[vS w0]⟩]
def w8(a:Fld)(w0:ByteArray):PT 1 (Bool):=vw .go<|vw .go<|lr pd (pB w0) (!decide (a.union=w0))
def Tp(a:Fld)(w0:ByteArray):Option (Bool):=(w8 a w0).m
theorem ZW2(a:Fld)(w0:ByteArray):KO Tryz.prog 60 1 [.agg ((Aq a).map .d),.ptr (0,0) 0 0] [⟨0,true,9,1,[vS w0]⟩] (fun _ _ _ _=>True) (Tp a w0) pd (pB w0):=Be Tryz.func60 Tryz.ntmps60 Aa [.tmp 3] 1 (fun C co d y hm b c=>Am co Aa Ac (w8 a w0) hm c fun r g=>id) (hB:=fun y=>⟨.inr (by kernel_rfl),rfl,trivial⟩)
abbrev EW:List (Ad×Bool):=[((1,2),false),((1,3),false)]
abbrev KM(a:ByteArray):Ad×Blk:=((1,3),⟨0,true,9,1,[vS a]⟩)
abbrev WF:List Fld→AV:=fun y=>vL Aq y
def ba(a:List Fld):PT 0 (List Fld):=vz (fr a)<|lr WF (fun _=>[]) a
def be(a:List Fld):PT 0 (List Fld):=vz (fl a)<|lc (Ab [(4,.ref (1,9) 0 0 a.length)] [((1,9),⟨0,true,54,16,Af Aq a⟩)]) ((ba a).m)
def X4(b:ByteArray)(a:List Fld):PT 0 (List Fld):=vz (fl a)<|lc (Ab [(9,.ref (1,9) 0 0 a.length),(10,.fn (.func 60) [] [.ptr (1,3) 0 0])] [(KM b),((1,9),⟨0,true,54,16,Af Aq a⟩)]) ((Tf a (fun(z0:Fld)=>Tp z0 b)).bind fun c=>(be c).m)
def ZC(a:Msg)(b:ByteArray):PT 0 (List Fld):=vw .go<|lc (Ab [(3,.ptr (1,3) 0 0),(8,vL Aq a.fields)] [(KM b)]) ((Tk a.fields).bind fun c=>(X4 b c).m)
def Zj(a:Msg)(b:ByteArray):PT 0 (List Fld):=vw .go<|br (decide (b=(⟨#[]⟩:ByteArray))) (lr WF (fun _=>[]) ([]:List Fld)) (lc (Ab [(2,.ptr (1,2) 0 0),(3,.ptr (1,3) 0 0)] [((1,2),⟨0,true,48,5,[vS a.name,vL Aq a.fields,vL AQ a.reserved,vL AC a.gone,vL Ax a.notes]⟩),(KM b)]) ((ZC a b).m))
def fK(a:Msg)(b:ByteArray):Option (List Fld):=(Zj a b).m
theorem dl(c:Msg)(a:ByteArray):KC Tryz.prog 27 [.agg ((AE c).map .d),vS a] (fK c a) WF:=Aw Tryz.func27 Tryz.ntmps27 Aa [.tmp 4] fun C co y hm f b=>Al co Aa Ac 2 (Zj c a) (Ae [2,3] EW) nl (fun _ h=>h) hm b fun r g=>⟨id,fun _ hm b=>sq (rg (Bw co Aa 2 (ZC c a) (Ae [3,8] DP) hm b fun r g=>fun _ hm b=>Hq co hm 59 [vL Aq c.fields] [(1,9)] ([((1,9),⟨0,false,0,0,[]⟩)]++[]) (fun z=>.ref (1,9) 1 0 z.length) (fun z=>[((1,9),⟨1,true,54,16,Af Aq z⟩)]) [] (fun z=>trivial) (trivial) (fun z e r g=>DV (ZXF c.fields) e co g [((1,9),⟨0,false,0,0,[]⟩)] [] [((1,9),⟨1,true,54,16,Af Aq z⟩)] (AL []) (fun k i m=>trivial) (fun H=>⟨(fun h=>by cases h),by kernel_rfl,trivial⟩) (fun H=>⟨fun _=>⟨rfl,Bn (A0 _ _) (by kernel_rfl)⟩,by kernel_rfl,trivial⟩)) fun d hm=>Bw co Aa 1 (X4 a d) (Ae [9,10] [((1,3),false),((1,9),true)]) hm b fun r g=>fun _ hm b=>Hq co hm 58 [.ref (1,9) 0 0 d.length,.fn (.func 60) [] [.ptr (1,3) 0 0]] [(1,9),(1,3)] ([((1,9),⟨0,true,54,16,Af Aq d⟩)]++[(KM a)]) (fun z=>.ref (1,9) 0 0 z.length) (fun z=>[((1,9),⟨0,true,54,16,Af Aq z⟩)]) [] (fun z=>trivial) (trivial) (fun z e r g=>DV (ZXa d (fun(z0:Fld)=>Tp z0 a)) e co g [((1,9),⟨0,true,54,16,Af Aq d⟩)] [(KM a)] [((1,9),⟨0,true,54,16,Af Aq z⟩)] (AL [(1,.fn (.func 60) [] [.ptr (r.κ (1,3)) (r.γ (1,3)+0) 0])]) (fun k i m=>(fun z0 y e=>Dz (ZW2 z0 a) e co g [(KM a)] [((1,9),⟨0,true,54,16,Af Aq d⟩)] i (by simp) (fun _=>.top) (fun _ _=>trivial) (fun l H=>⟨fun _=>⟨rfl,by kernel_rfl⟩,by kernel_rfl,trivial⟩))) (fun H=>⟨fun _=>⟨rfl,Bn (A0 _ _) (by kernel_rfl)⟩,by kernel_rfl,trivial⟩) (fun H=>⟨fun _=>⟨rfl,Bn (A0 _ _) (by kernel_rfl)⟩,by kernel_rfl,trivial⟩)) fun j hm=>Bb co Aa (be j) (Ae [4] [((1,9),true)]) hm b fun r g=>fun _ hm b=>Am co Aa Ac (ba j) hm b fun r g=>id))⟩
abbrev yX:Bool→AV:=fun y=>vB y
def ZXg(a:Slt→Option Bool):Cl:=fun no l H θ=>(∀(z0:Slt) y,a z0=some y→Cr Tryz.prog l no H (θ 1) [.agg ((Cg z0).map .d)] (vB y))
def mG(b:List Slt)(a:Slt→Option Bool):PT 0 (Bool):=cs Tryz.prog 62 [vL Ah b,.fn (.yield 1) [] []] [] [] (Lr b a) (fun y=>vI y) fun c=>lr yX (fun _=>[]) (decide ((0:Int)≤c))
def Lk(b:List Slt)(a:Slt→Option Bool):Option (Bool):=(mG b a).m
theorem Zn(b:List Slt)(a:Slt→Option Bool):KO Tryz.prog 221 0 [vL Ah b,.fn (.yield 1) [] []] [] (ZXg a) (Lk b a) yX (fun _=>[]):=Be Tryz.func221 Tryz.ntmps221 Aa [.tmp 4] 0 (fun C co e y hm c d=>Am co Aa Ac (mG b a) hm d fun r g=>⟨fun y hy=>BQ (dC b a) hy co g [] [] (AL [(1,r.θ 1)]) (fun i j f=>(fun z0 y h=>LZ co g [] f (e z0 y h))) (fun H=>trivial),fun k=>id⟩)
abbrev yT:Bool→AV:=fun y=>vB y
@[reducible] def zj(w0:Fld):Bool→List Blk:=fun y=>[⟨0,true,54,16,[vI w0.num,vS w0.name,vI w0.card,vI w0.key,vI w0.type.kind,vS w0.type.name,vS w0.union,vB w0.hasDefault,vI w0.dflt.kind,.d (.int .u64 w0.dflt.bits),vS w0.dflt.text,vL Ar w0.dflt.list,vL As w0.dflt.pairs,vL Ah w0.dflt.slots,vL Au w0.dflt.raws,vL Ax w0.notes]⟩]
def qP(a:Int)(w0:Fld):PT 1 (Bool):=vw .go<|lr yT (zj w0) (decide (a=w0.num))
def ZeT(a:Int)(w0:Fld):Option (Bool):=(qP a w0).m
theorem ZSW(a:Int)(w0:Fld):KO Tryz.prog 194 1 [vI a,.ptr (0,0) 0 0] [⟨0,true,54,16,[vI w0.num,vS w0.name,vI w0.card,vI w0.key,vI w0.type.kind,vS w0.type.name,vS w0.union,vB w0.hasDefault,vI w0.dflt.kind,.d (.int .u64 w0.dflt.bits),vS w0.dflt.text,vL Ar w0.dflt.list,vL As w0.dflt.pairs,vL Ah w0.dflt.slots,vL Au w0.dflt.raws,vL Ax w0.notes]⟩] (fun _ _ _ _=>True) (ZeT a w0) yT (zj w0):=Be Tryz.func194 Tryz.ntmps194 Aa [.tmp 3] 1 (fun C co d y hm b c=>Am co Aa Ac (qP a w0) hm c fun r g=>id) (hB:=fun y=>⟨.inr (by kernel_rfl),rfl,trivial⟩)
abbrev yn:Bool→AV:=fun y=>vB y
@[reducible] def zp(w0:Fld):Bool→List Blk:=fun y=>[⟨0,true,54,16,[vI w0.num,vS w0.name,vI w0.card,vI w0.key,vI w0.type.kind,vS w0.type.name,vS w0.union,vB w0.hasDefault,vI w0.dflt.kind,.d (.int .u64 w0.dflt.bits),vS w0.dflt.text,vL Ar w0.dflt.list,vL As w0.dflt.pairs,vL Ah w0.dflt.slots,vL Au w0.dflt.raws,vL Ax w0.notes]⟩]
def sH(a:Int)(w0:Fld):PT 1 (Bool):=vw .go<|lr yn (zp w0) (decide (a=w0.num))
def Zf0(a:Int)(w0:Fld):Option (Bool):=(sH a w0).m
theorem ZT7(a:Int)(w0:Fld):KO Tryz.prog 218 1 [vI a,.ptr (0,0) 0 0] [⟨0,true,54,16,[vI w0.num,vS w0.name,vI w0.card,vI w0.key,vI w0.type.kind,vS w0.type.name,vS w0.union,vB w0.hasDefault,vI w0.dflt.kind,.d (.int .u64 w0.dflt.bits),vS w0.dflt.text,vL Ar w0.dflt.list,vL As w0.dflt.pairs,vL Ah w0.dflt.slots,vL Au w0.dflt.raws,vL Ax w0.notes]⟩] (fun _ _ _ _=>True) (Zf0 a w0) yn (zp w0):=Be Tryz.func218 Tryz.ntmps218 Aa [.tmp 3] 1 (fun C co d y hm b c=>Am co Aa Ac (sH a w0) hm c fun r g=>id) (hB:=fun y=>⟨.inr (by kernel_rfl),rfl,trivial⟩)
abbrev y0:Bool→AV:=fun y=>vB y
@[reducible] def yw(w0:Fld):Bool→List Blk:=fun y=>[⟨0,true,54,16,[vI w0.num,vS w0.name,vI w0.card,vI w0.key,vI w0.type.kind,vS w0.type.name,vS w0.union,vB w0.hasDefault,vI w0.dflt.kind,.d (.int .u64 w0.dflt.bits),vS w0.dflt.text,vL Ar w0.dflt.list,vL As w0.dflt.pairs,vL Ah w0.dflt.slots,vL Au w0.dflt.raws,vL Ax w0.notes]⟩]
def rc(a:Int)(w0:Fld):PT 1 (Bool):=vw .go<|lr y0 (yw w0) (decide (a=w0.num))
def ZfX(a:Int)(w0:Fld):Option (Bool):=(rc a w0).m
theorem ZSu(a:Int)(w0:Fld):KO Tryz.prog 219 1 [vI a,.ptr (0,0) 0 0] [⟨0,true,54,16,[vI w0.num,vS w0.name,vI w0.card,vI w0.key,vI w0.type.kind,vS w0.type.name,vS w0.union,vB w0.hasDefault,vI w0.dflt.kind,.d (.int .u64 w0.dflt.bits),vS w0.dflt.text,vL Ar w0.dflt.list,vL As w0.dflt.pairs,vL Ah w0.dflt.slots,vL Au w0.dflt.raws,vL Ax w0.notes]⟩] (fun _ _ _ _=>True) (ZfX a w0) y0 (yw w0):=Be Tryz.func219 Tryz.ntmps219 Aa [.tmp 3] 1 (fun C co d y hm b c=>Am co Aa Ac (rc a w0) hm c fun r g=>id) (hB:=fun y=>⟨.inr (by kernel_rfl),rfl,trivial⟩)
abbrev yQ(a:Fld):Ad×Blk:=((0,1),⟨0,true,54,16,[vI a.num,vS a.name,vI a.card,vI a.key,vI a.type.kind,vS a.type.name,vS a.union,vB a.hasDefault,vI a.dflt.kind,.d (.int .u64 a.dflt.bits),vS a.dflt.text,vL Ar a.dflt.list,vL As a.dflt.pairs,vL Ah a.dflt.slots,vL Au a.dflt.raws,vL Ax a.notes]⟩)
abbrev qX:Bool→AV:=fun y=>vB y
@[reducible] def tX(a:Fld):Bool→List Blk:=fun y=>[⟨0,true,153,1,[.fn (.func 218) [] [.ptr (0,1) 0 0]]⟩,⟨0,true,54,16,[vI a.num,vS a.name,vI a.card,vI a.key,vI a.type.kind,vS a.type.name,vS a.union,vB a.hasDefault,vI a.dflt.kind,.d (.int .u64 a.dflt.bits),vS a.dflt.text,vL Ar a.dflt.list,vL As a.dflt.pairs,vL Ah a.dflt.slots,vL Au a.dflt.raws,vL Ax a.notes]⟩]
def Zof(b:Slt)(a:Fld):PT 2 (Bool):=vw .go<|vw .go<|cs Tryz.prog 218 [vI b.num,.ptr (0,1) 0 0] [(0,1)] [(yQ a)] (Zf0 b.num a) (fun y=>vB y) fun c=>lr qX (tX a) c
def Tx(b:Slt)(a:Fld):Option (Bool):=(Zof b a).m
theorem ZIH(b:Slt)(a:Fld):KO Tryz.prog 222 2 [.agg ((Cg b).map .d),.ptr (0,0) 0 0] [⟨0,true,153,1,[.fn (.func 218) [] [.ptr (0,1) 0 0]]⟩,⟨0,true,54,16,[vI a.num,vS a.name,vI a.card,vI a.key,vI a.type.kind,vS a.type.name,vS a.union,vB a.hasDefault,vI a.dflt.kind,.d (.int .u64 a.dflt.bits),vS a.dflt.text,vL Ar a.dflt.list,vL As a.dflt.pairs,vL Ah a.dflt.slots,vL Au a.dflt.raws,vL Ax a.notes]⟩] (fun _ _ _ _=>True) (Tx b a) qX (tX a):=Be Tryz.func222 Tryz.ntmps222 Aa [.tmp 3] 2 (fun C co f y hm c d=>Am co Aa Ac (Zof b a) hm d fun r g=>⟨fun y hy=>BQ (ZT7 b.num a) hy co g [(yQ a)] [] (AL []) (fun e h i=>trivial) (fun H=>⟨fun _=>⟨rfl,by kernel_rfl⟩,by kernel_rfl,trivial⟩),fun j=>id⟩) (hB:=fun y=>⟨.inr (by kernel_rfl),rfl,⟨.inr (by kernel_rfl),rfl,trivial⟩⟩)
abbrev zb(a:Fld):Ad×Blk:=((0,1),⟨0,true,54,16,[vI a.num,vS a.name,vI a.card,vI a.key,vI a.type.kind,vS a.type.name,vS a.union,vB a.hasDefault,vI a.dflt.kind,.d (.int .u64 a.dflt.bits),vS a.dflt.text,vL Ar a.dflt.list,vL As a.dflt.pairs,vL Ah a.dflt.slots,vL Au a.dflt.raws,vL Ax a.notes]⟩)
abbrev ru:Bool→AV:=fun y=>vB y
@[reducible] def sQ(a:Fld):Bool→List Blk:=fun y=>[⟨0,true,153,1,[.fn (.func 219) [] [.ptr (0,1) 0 0]]⟩,⟨0,true,54,16,[vI a.num,vS a.name,vI a.card,vI a.key,vI a.type.kind,vS a.type.name,vS a.union,vB a.hasDefault,vI a.dflt.kind,.d (.int .u64 a.dflt.bits),vS a.dflt.text,vL Ar a.dflt.list,vL As a.dflt.pairs,vL Ah a.dflt.slots,vL Au a.dflt.raws,vL Ax a.notes]⟩]
def Zpm(b:Slt)(a:Fld):PT 2 (Bool):=vw .go<|vw .go<|cs Tryz.prog 219 [vI b.num,.ptr (0,1) 0 0] [(0,1)] [(zb a)] (ZfX b.num a) (fun y=>vB y) fun c=>lr ru (sQ a) c
def TB(b:Slt)(a:Fld):Option (Bool):=(Zpm b a).m
theorem ZJp(b:Slt)(a:Fld):KO Tryz.prog 222 2 [.agg ((Cg b).map .d),.ptr (0,0) 0 0] [⟨0,true,153,1,[.fn (.func 219) [] [.ptr (0,1) 0 0]]⟩,⟨0,true,54,16,[vI a.num,vS a.name,vI a.card,vI a.key,vI a.type.kind,vS a.type.name,vS a.union,vB a.hasDefault,vI a.dflt.kind,.d (.int .u64 a.dflt.bits),vS a.dflt.text,vL Ar a.dflt.list,vL As a.dflt.pairs,vL Ah a.dflt.slots,vL Au a.dflt.raws,vL Ax a.notes]⟩] (fun _ _ _ _=>True) (TB b a) ru (sQ a):=Be Tryz.func222 Tryz.ntmps222 Aa [.tmp 3] 2 (fun C co f y hm c d=>Am co Aa Ac (Zpm b a) hm d fun r g=>⟨fun y hy=>BQ (ZSu b.num a) hy co g [(zb a)] [] (AL []) (fun e h i=>trivial) (fun H=>⟨fun _=>⟨rfl,by kernel_rfl⟩,by kernel_rfl,trivial⟩),fun j=>id⟩) (hB:=fun y=>⟨.inr (by kernel_rfl),rfl,⟨.inr (by kernel_rfl),rfl,trivial⟩⟩)
abbrev yK(a:Fld):Ad×Blk:=((0,1),⟨0,true,54,16,[vI a.num,vS a.name,vI a.card,vI a.key,vI a.type.kind,vS a.type.name,vS a.union,vB a.hasDefault,vI a.dflt.kind,.d (.int .u64 a.dflt.bits),vS a.dflt.text,vL Ar a.dflt.list,vL As a.dflt.pairs,vL Ah a.dflt.slots,vL Au a.dflt.raws,vL Ax a.notes]⟩)
abbrev rJ:Bool→AV:=fun y=>vB y
@[reducible] def qj(a:Fld):Bool→List Blk:=fun y=>[⟨0,true,153,1,[.fn (.func 194) [] [.ptr (0,1) 0 0]]⟩,⟨0,true,54,16,[vI a.num,vS a.name,vI a.card,vI a.key,vI a.type.kind,vS a.type.name,vS a.union,vB a.hasDefault,vI a.dflt.kind,.d (.int .u64 a.dflt.bits),vS a.dflt.text,vL Ar a.dflt.list,vL As a.dflt.pairs,vL Ah a.dflt.slots,vL Au a.dflt.raws,vL Ax a.notes]⟩]
def ZpD(b:Slt)(a:Fld):PT 2 (Bool):=vw .go<|vw .go<|cs Tryz.prog 194 [vI b.num,.ptr (0,1) 0 0] [(0,1)] [(yK a)] (ZeT b.num a) (fun y=>vB y) fun c=>lr rJ (qj a) c
def Tz(b:Slt)(a:Fld):Option (Bool):=(ZpD b a).m
theorem ZIF(b:Slt)(a:Fld):KO Tryz.prog 222 2 [.agg ((Cg b).map .d),.ptr (0,0) 0 0] [⟨0,true,153,1,[.fn (.func 194) [] [.ptr (0,1) 0 0]]⟩,⟨0,true,54,16,[vI a.num,vS a.name,vI a.card,vI a.key,vI a.type.kind,vS a.type.name,vS a.union,vB a.hasDefault,vI a.dflt.kind,.d (.int .u64 a.dflt.bits),vS a.dflt.text,vL Ar a.dflt.list,vL As a.dflt.pairs,vL Ah a.dflt.slots,vL Au a.dflt.raws,vL Ax a.notes]⟩] (fun _ _ _ _=>True) (Tz b a) rJ (qj a):=Be Tryz.func222 Tryz.ntmps222 Aa [.tmp 3] 2 (fun C co f y hm c d=>Am co Aa Ac (ZpD b a) hm d fun r g=>⟨fun y hy=>BQ (ZSW b.num a) hy co g [(yK a)] [] (AL []) (fun e h i=>trivial) (fun H=>⟨fun _=>⟨rfl,by kernel_rfl⟩,by kernel_rfl,trivial⟩),fun j=>id⟩) (hB:=fun y=>⟨.inr (by kernel_rfl),rfl,⟨.inr (by kernel_rfl),rfl,trivial⟩⟩)
abbrev cH(a:Fld):Ad×Blk:=((0,0),⟨0,true,54,16,[vI a.num,vS a.name,vI a.card,vI a.key,vI a.type.kind,vS a.type.name,vS a.union,vB a.hasDefault,vI a.dflt.kind,.d (.int .u64 a.dflt.bits),vS a.dflt.text,vL Ar a.dflt.list,vL As a.dflt.pairs,vL Ah a.dflt.slots,vL Au a.dflt.raws,vL Ax a.notes]⟩)
abbrev tL:Bool→AV:=fun y=>vB y
@[reducible] def rj(a:Fld):Bool→List Blk:=fun y=>[⟨0,true,54,16,[vI a.num,vS a.name,vI a.card,vI a.key,vI a.type.kind,vS a.type.name,vS a.union,vB a.hasDefault,vI a.dflt.kind,.d (.int .u64 a.dflt.bits),vS a.dflt.text,vL Ar a.dflt.list,vL As a.dflt.pairs,vL Ah a.dflt.slots,vL Au a.dflt.raws,vL Ax a.notes]⟩]
def gI(b:List Slt)(a:Fld):PT 1 (Bool):=cs Tryz.prog 221 [vL Ah b,.fn (.func 222) [] [.ptr (1,3) 1 0]] [(1,3),(0,0)] [((1,3),⟨1,true,153,1,[.fn (.func 218) [] [.ptr (0,0) 0 0]]⟩),(cH a)] (Lk b (fun(z0:Slt)=>Tx z0 a)) (fun y=>vB y) fun c=>lr tL (rj a) c
def Tl(b:List Slt)(a:Fld):Option (Bool):=(gI b a).m
theorem ZH3(b:List Slt)(a:Fld):KO Tryz.prog 193 1 [vL Ah b,.fn (.func 218) [] [.ptr (0,0) 0 0]] [⟨0,true,54,16,[vI a.num,vS a.name,vI a.card,vI a.key,vI a.type.kind,vS a.type.name,vS a.union,vB a.hasDefault,vI a.dflt.kind,.d (.int .u64 a.dflt.bits),vS a.dflt.text,vL Ar a.dflt.list,vL As a.dflt.pairs,vL Ah a.dflt.slots,vL Au a.dflt.raws,vL Ax a.notes]⟩] (fun _ _ _ _=>True) (Tl b a) tL (rj a):=Be Tryz.func193 Tryz.ntmps193 Aa [.tmp 4] 1 (fun C co i y hm c d=>Am co Aa Ac (gI b a) hm d fun r g=>⟨fun y hy=>BQ (Zn b (fun(z0:Slt)=>Tx z0 a)) hy co g [] [((1,3),⟨1,true,153,1,[.fn (.func 218) [] [.ptr (0,0) 0 0]]⟩),(cH a)] (AL [(1,.fn (.func 222) [] [.ptr (r.κ (1,3)) (r.γ (1,3)+1) 0])]) (fun h e j=>(fun z0 y f=>Dz (ZIH z0 a) f co g [((1,3),⟨1,true,153,1,[.fn (.func 218) [] [.ptr (0,0) 0 0]]⟩),(cH a)] [] e (by simp) (fun _=>.top) (fun _ _=>trivial) (fun l H=>⟨fun _=>⟨rfl,by kernel_rfl⟩,by kernel_rfl,⟨fun _=>⟨rfl,by kernel_rfl⟩,by kernel_rfl,trivial⟩⟩))) (fun H=>trivial),fun k=>id⟩) (hB:=fun y=>⟨.inr (by kernel_rfl),rfl,trivial⟩)
abbrev cD(a:Fld):Ad×Blk:=((0,0),⟨0,true,54,16,[vI a.num,vS a.name,vI a.card,vI a.key,vI a.type.kind,vS a.type.name,vS a.union,vB a.hasDefault,vI a.dflt.kind,.d (.int .u64 a.dflt.bits),vS a.dflt.text,vL Ar a.dflt.list,vL As a.dflt.pairs,vL Ah a.dflt.slots,vL Au a.dflt.raws,vL Ax a.notes]⟩)
abbrev rX:Bool→AV:=fun y=>vB y
@[reducible] def tf(a:Fld):Bool→List Blk:=fun y=>[⟨0,true,54,16,[vI a.num,vS a.name,vI a.card,vI a.key,vI a.type.kind,vS a.type.name,vS a.union,vB a.hasDefault,vI a.dflt.kind,.d (.int .u64 a.dflt.bits),vS a.dflt.text,vL Ar a.dflt.list,vL As a.dflt.pairs,vL Ah a.dflt.slots,vL Au a.dflt.raws,vL Ax a.notes]⟩]
def g9(b:List Slt)(a:Fld):PT 1 (Bool):=cs Tryz.prog 221 [vL Ah b,.fn (.func 222) [] [.ptr (1,3) 1 0]] [(1,3),(0,0)] [((1,3),⟨1,true,153,1,[.fn (.func 219) [] [.ptr (0,0) 0 0]]⟩),(cD a)] (Lk b (fun(z0:Slt)=>TB z0 a)) (fun y=>vB y) fun c=>lr rX (tf a) c
def Tm(b:List Slt)(a:Fld):Option (Bool):=(g9 b a).m
theorem ZKb(b:List Slt)(a:Fld):KO Tryz.prog 193 1 [vL Ah b,.fn (.func 219) [] [.ptr (0,0) 0 0]] [⟨0,true,54,16,[vI a.num,vS a.name,vI a.card,vI a.key,vI a.type.kind,vS a.type.name,vS a.union,vB a.hasDefault,vI a.dflt.kind,.d (.int .u64 a.dflt.bits),vS a.dflt.text,vL Ar a.dflt.list,vL As a.dflt.pairs,vL Ah a.dflt.slots,vL Au a.dflt.raws,vL Ax a.notes]⟩] (fun _ _ _ _=>True) (Tm b a) rX (tf a):=Be Tryz.func193 Tryz.ntmps193 Aa [.tmp 4] 1 (fun C co i y hm c d=>Am co Aa Ac (g9 b a) hm d fun r g=>⟨fun y hy=>BQ (Zn b (fun(z0:Slt)=>TB z0 a)) hy co g [] [((1,3),⟨1,true,153,1,[.fn (.func 219) [] [.ptr (0,0) 0 0]]⟩),(cD a)] (AL [(1,.fn (.func 222) [] [.ptr (r.κ (1,3)) (r.γ (1,3)+1) 0])]) (fun h e j=>(fun z0 y f=>Dz (ZJp z0 a) f co g [((1,3),⟨1,true,153,1,[.fn (.func 219) [] [.ptr (0,0) 0 0]]⟩),(cD a)] [] e (by simp) (fun _=>.top) (fun _ _=>trivial) (fun l H=>⟨fun _=>⟨rfl,by kernel_rfl⟩,by kernel_rfl,⟨fun _=>⟨rfl,by kernel_rfl⟩,by kernel_rfl,trivial⟩⟩))) (fun H=>trivial),fun k=>id⟩) (hB:=fun y=>⟨.inr (by kernel_rfl),rfl,trivial⟩)
end Go.Proofs.YtleccgigifnfgaaGreat
