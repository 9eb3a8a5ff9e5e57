import Derived.Test.YtopncadjpnkjhaaGreatDoorZk14
import Derived.Test.YtopncadjpnkjhaaGreatDoorZk00
namespace Go.Proofs.YtopncadjpnkjhaaGreatDoor
set_option maxRecDepth 100000
set_option linter.all false
open Go Go.Eng
abbrev Ih:List (Aa×Bool):=[((1,1),false)]
abbrev JN(a:Val):Aa×Blk:=kk 1 33 7 (cD (Ai a))
abbrev MP:List Val→AV:=fun y=>vL AC y
def X9(a:Val):List Val×Nat→St:=fun(b,v3)=>Ab [pp 1,(3,.ref (1,10) 0 0 b.length),(12,vL Av a.pairs),(13,vN a.pairs.length),(14,vN v3)] [(JN a),kk 10 33 7 (Ac AC b)]
def jP(b:Val):List Val→Nat×St:=fun a=>(0,Ab [pp 1,(3,.ref (1,10) 0 0 a.length)] [(JN b),kk 10 33 7 (Ac AC a)])
def L2(c:Val):List Val×Nat→Option (Lv (List Val×Nat) (List Val) (List Val)):=fun(b,v3)=>(br (decide ((v3:Int)<(c.pairs.length:Int))) (ix c.pairs v3 fun a=>wg<|wg<|wg<|vw .sep<|WJ b (a.key:Val) a.val<|vs (wa v3 1)<|vz (fl (b++([a.key,a.val])))<|ln (X9 c) (b++([a.key,a.val]),v3+1)) (vz (fl b)<|Ah (jP c) b):PT 0 _).m
def jp(a:Val):List Val×Nat→St:=fun(b,c)=>Ab [(3,.ref (1,10) 0 0 b.length),(27,vL Aq a.slots),(28,vN a.slots.length),(29,vN c)] [kk 10 33 7 (Ac AC b)]
def iP:List Val→Nat×St:=fun a=>(2,Ab [(3,.ref (1,10) 0 0 a.length)] [kk 10 33 7 (Ac AC a)])
def L9(d:Val):List Val×Nat→Option (Lv (List Val×Nat) (List Val) (List Val)):=fun(a,b)=>(br (decide ((b:Int)<(d.slots.length:Int))) (ix d.slots b fun c=>wg<|wg<|vw .sep<|ap a (c.val:Val)<|vs (wa b 1)<|vz (fl (a++[c.val]))<|ln (jp d) (a++[c.val],b+1)) (vz (fl a)<|Ah (iP) a):PT 0 _).m
def TW(a:Val):Option (List Val):=(lc (Ab [pp 1] [(JN a)]) ((wg<|lc (Ab [pp 1,(9,vL AC a.list)] [(JN a)]) ((Ov a.list).bind fun b=>(vz (fl b)<|lc (Ab [pp 1,(3,.ref (1,10) 0 0 b.length)] [(JN a),kk 10 33 7 (Ac AC b)]) ((wg<|vz (Ag a.pairs)<|vz (fl b)<|lc (Ab [pp 1,(3,.ref (1,10) 0 0 b.length),(12,vL Av a.pairs),(13,vN a.pairs.length),(14,vI 0)] [(JN a),kk 10 33 7 (Ac AC b)]) ((Ak (L2 a) Aj (b,0)).bind (Sum.elim (fun c=>(wg<|vz (Ag a.slots)<|vz (fl c)<|lc (Ab [(3,.ref (1,10) 0 0 c.length),(27,vL Aq a.slots),(28,vN a.slots.length),(29,vI 0)] [kk 10 33 7 (Ac AC c)]) ((Ak (L9 a) Aj (c,0)).bind (Sum.elim (fun d=>(vz (fr d)<|lr MP nG d:PT 0 _).m) some)):PT 0 _).m) some)):PT 0 _).m):PT 0 _).m):PT 0 _).m):PT 0 _).m
theorem uc{C:Cx}(co:CO C 0)(a:Val):KL Tryz.prog (Ar tl) 40 C (pa [0,0,1,0,1,1] (As Tryz.f43)) [.tmp 2] 0 (X9 a) (jP a) MP nG (L2 a):=fun(d,v3) _ m Q b c L=>eN co (Ad [1,3,12,13,14] ER) (Ad [1,3] ER) c m L
theorem u1{C:Cx}(co:CO C 0)(b:Val):KL Tryz.prog (Ar tl) 40 C (pa [0,0,1,0,1,1,1] (As Tryz.f43)) [.tmp 2] 0 (jp b) (iP) MP nG (L9 b):=fun(d,e) _ m Q a c L=>eN co (Ad [3,27,28,29] [((1,10),true)]) (Ad [3] [((1,10),true)]) c m L
theorem aj(a:Val):KC Tryz.prog 43 [.agg ((Ai a).map .d)] (TW a) MP:=kC Tryz.func43 Tryz.ntmps43 [.tmp 2] fun co m L=>mJ co 1 (Ad [1] Ih) nl nH m L fun r g=>fun _ m L=>sq (rg (pR co 2 (Ad [1,9] Ih) m L fun r g=>fun _ m L=>c6 co m (mA a.list) [((1,10),⟨0,false,0,0,[]⟩)] [] (fun z=>.ref (1,10) 1 0 z.length) (fun z=>[((1,10),⟨1,true,33,7,Ac AC z⟩)]) [] fun d m=>eR co (Ad [1,3] ER) m L fun r g=>fun _ m L=>sq (mJ co 1 (Ad [1,3,12,13,14] ER) nl nH m L fun r g=>fun _ m L=>bk 0 (lo (AE (uc co a) nH m L (fun b m=>sq (mJ co 1 (Ad [3,27,28,29] [((1,10),true)]) nl nH m L fun r g=>fun _ m L=>bk 2 (lo (AE (u1 co a) nH m L (fun c m=>fO co m L))))))))))
abbrev Kq:Int→AV:=fun y=>vI y
def jk(a:List Val):Int×Nat→St:=fun(v2,v3)=>Ab [(3,vI v2),(11,vL AC a),(12,vN a.length),(13,vN v3)] []
def jU:Int→Nat×St:=fun a=>(0,Ab [(3,vI a)] [])
abbrev Mf:=Val→Option (Int)
def LX(a:Mf)(b:List Val):Int×Nat→Option (Lv (Int×Nat) (Int) (Int)):=fun(v2,v3)=>(br (decide ((v3:Int)<(b.length:Int))) (ix b v3 fun c=>wg<|wg<|cs Tryz.prog 18 [.agg ((Ai c).map .d)] [] [] (a c) (fun y=>vI y) fun d=>vs (wi (v2+d))<|vs (wa v3 1)<|ln (jk b) ((v2+d),v3+1)) (Ah (jU) v2):PT 0 _).m
def Oa(c:Mf)(a:Val):Option (Int):=(wg<|vz (Ag a.raws)<|vs (wa 1 a.raws.length)<|lc (Ab [pp 1,(3,vN (1+a.raws.length))] [kk 1 33 7 (cD (Ai a))]) ((wg<|cl (aj a) fun b=>vz (Ag b)<|lc (Ab [(3,vN (1+a.raws.length)),(11,vL AC b),(12,vN b.length),(13,vI 0)] []) ((Ak (LX c b) Aj (((1+a.raws.length:Nat):Int),0)).bind (Sum.elim (fun d=>(lr Kq nG d:PT 0 _).m) some)):PT 0 _).m):PT 0 _).m
abbrev Z1(a:Mf):Prop:=∀(b:Val),KC Tryz.prog 18 [.agg ((Ai b).map .d)] (a b) Kq
theorem tq{C:Cx}(co:CO C 0)(a:Mf)(e:List Val)(c:Z1 a):KL Tryz.prog (Ar tl) 23 C (pa [0,0,1,0,1,1] (As Tryz.f18)) [.tmp 2] 0 (jk e) (jU) Kq nG (LX a e):=fun(v2,v3) _ m Q d h L=>eN co (AI [3,11,12,13]) (AI [3]) h m L fun r g=>⟨fun b=>⟨fun y hy f _ _=>by rw[(c b).x,(c b).e];exact(c b).k _ f y hy,fun i=>id⟩,id⟩
theorem mE(a:Mf)(c:Z1 a)(b:Val):KC Tryz.prog 18 [.agg ((Ai b).map .d)] (Oa a b) Kq:=kC Tryz.func18 Tryz.ntmps18 [.tmp 2] fun co m L=>mJ co 2 (Ad [1,3] Ih) nl nH m L fun r g=>fun _ m L=>sq (mJ co 1 (AI [3,11,12,13]) nl nH m L fun r g=>fun d=>fun _ m L=>bk 0 (lo (AE (tq co a d c) nH m L (fun e m=>fO co m L))))
def I2:Nat→Val→Option (Int)
 |0=>fun _=>none
 |a+1=>Oa (I2 a)
theorem Sf:∀(b:Nat) (a:Val),KC Tryz.prog 18 [.agg ((Ai a).map .d)] (I2 b a) Kq
 |0,a=>⟨fun _ _ _ h=>(by cases h),by intro r;kernel_rfl,by intro r y;kernel_rfl⟩
 |b+1,a=>mE (I2 b) (Sf b) a
abbrev DD:List (Aa×Bool):=[((1,4),false)]
abbrev ND:Aa×Blk:=kk 4 47 5 [vS ⟨#[]⟩,.e0,.e0,.e0,.e0]
abbrev MQ:Msg×Bool→AV:=fun y=>.tup [.agg ((AG y.1).map .d),vB y.2]
def XD(a:Msg→Option Bool):Cl:=fun no l H θ=>(∀(z0:Msg) y,a z0=some y→BA Tryz.prog l no H (θ 1) [.agg ((AG z0).map .d)] (vB y))
def jH(a:List Msg):Nat→St:=fun b=>Ab [(1,.fn (.yield 1) [] []),pp 4,(9,vL AG a),(10,vN a.length),(11,vN b)] [ND]
def iV:Unit→Nat×St:=fun _=>(0,Ab [pp 4] [ND])
def L3(c:List Msg)(d:Msg→Option Bool):Nat→Option (Lv (Nat) (Unit) (Msg×Bool)):=fun a=>(br (decide ((a:Int)<(c.length:Int))) (ix c a fun b=>wg<|wg<|cf Tryz.prog 1 [.agg ((AG b).map .d)] (d b) (fun y=>vB y) fun e=>br e (wg<|wg<|Ap MQ nG (b,true)) (vs (wa a 1)<|ln (jH c) (a+1))) (Ah (iV) ()):PT 0 _).m
def Ob(a:List Msg)(b:Msg→Option Bool):Option (Msg×Bool):=(lc (Ab [(0,vL AG a),(1,.fn (.yield 1) [] []),pp 4] [ND]) ((vz (Ag a)<|lc (Ab [(1,.fn (.yield 1) [] []),pp 4,(9,vL AG a),(10,vN a.length),(11,vI 0)] [ND]) ((Ak (L3 a b) Aj 0).bind (Sum.elim (fun _=>(wg<|wg<|lr MQ nG ((.mk ⟨#[]⟩ [] [] [] []:Msg),false):PT 0 _).m) some)):PT 0 _).m):PT 0 _).m
theorem sU{C:Cx}(co:CO C 0)(c:List Msg)(a:Msg→Option Bool)(e:(XD a) C.no C.l C.H0 C.θ):KL Tryz.prog (Ar tl) 21 C (pa [0,0,1,0,1] (As Tryz.f57)) [.cell 4 47,.tmp 5] 0 (jH c) (iV) MQ nG (L3 c a):=fun h _ m Q b d L=>eN co (Ad [1,4,9,10,11] DD) (Ad [4] DD) d m L fun r g=>⟨fun f=>⟨⟨fun y hy=>e _ y hy,by intro r;kernel_rfl,by intro r y;kernel_rfl⟩,fun i=>⟨id,id⟩⟩,id⟩
theorem m0(b:List Msg)(a:Msg→Option Bool):KO Tryz.prog 57 0 [vL AG b,.fn (.yield 1) [] []] [] (XD a) (Ob b a) MQ nG:=kO Tryz.func57 Tryz.ntmps57 [.cell 4 47,.tmp 5] 0 (fun co c m L=>mJ co 1 (Ad [0,1,4] DD) nl nH m L fun r g=>fun _ m L=>sq (mJ co 1 (Ad [1,4,9,10,11] DD) nl nH m L fun r g=>fun _ m L=>bk 0 (lo (AE (sU co b a c) nH m L (fun _ m=>fO co m L)))))
abbrev Xi:Bool→AV:=fun y=>vB y
@[reducible] def Xw(w0:ByteArray):Bool→List Blk:=fun y=>[⟨0,true,9,1,[vS w0]⟩]
def IY(a:Msg)(w0:ByteArray):Option (Bool):=(wg<|wg<|lr Xi (Xw w0) (decide (a.name=w0)):PT 1 _).m
theorem mT(a:Msg)(w0:ByteArray):KO Tryz.prog 58 1 [.agg ((AG a).map .d),.ptr (0,0) 0 0] [⟨0,true,9,1,[vS w0]⟩] (fun _ _ _ _=>True) (IY a w0) Xi (Xw w0):=kO Tryz.func58 Tryz.ntmps58 [.tmp 3] 1 (fun co b m L=>fO co m L)
abbrev Xa:Msg×Bool→AV:=fun y=>.tup [.agg ((AG y.1).map .d),vB y.2]
def Li(a:Scm)(b:ByteArray):Option (Msg×Bool):=(wg<|cs Tryz.prog 57 [vL AG a.messages,.fn (.func 58) [] [.ptr (1,3) 1 0]] [(1,3)] [((1,3),⟨1,true,9,1,[vS b]⟩)] (Ob a.messages (fun(z0:Msg)=>IY z0 b)) (fun y=>.tup [.agg ((AG y.1).map .d),vB y.2]) fun c=>wg<|lr Xa nG (c.1,c.2):PT 0 _).m
theorem RE(b:Scm)(a:ByteArray):KC Tryz.prog 20 [.agg ((An b).map .d),vS a] (Li b a) Xa:=CD Tryz.func20 Tryz.ntmps20 AJ [.cell 4 47,.tmp 5] fun C co y m c L=>fO co m L fun r g=>⟨fun y hy=>CF (m0 b.messages (fun(z0:Msg)=>IY z0 a)) hy co g [] [((1,3),⟨1,true,9,1,[vS a]⟩)] (AH [(1,.fn (.func 58) [] [.ptr (r.κ (1,3)) (r.γ (1,3)+1) 0])]) (fun f d h=>(fun z0 y e=>FZ (mT z0 a) e co g [((1,3),⟨1,true,9,1,[vS a]⟩)] [] d (by simp) (fun _=>.top) (fun _ _=>trivial) (fun l H=>⟨fun _=>⟨rfl,by kernel_rfl⟩,by kernel_rfl,trivial⟩))) (fun H=>trivial),fun i=>id⟩
abbrev Xj:Bool→AV:=fun y=>vB y
def T5(a:Val):Option (Bool):=(wg<|wg<|wg<|wg<|vy (!decide (a.kind=(11:Int))) (Ag a.list)<|wg<|wg<|vy ((!((!decide (a.kind=(11:Int)))&&decide ((0:Int)<(a.list.length:Int))))&&(!decide (a.kind=(12:Int)))) (Ag a.pairs)<|wg<|wg<|vy ((!(((!decide (a.kind=(11:Int)))&&decide ((0:Int)<(a.list.length:Int)))||((!decide (a.kind=(12:Int)))&&decide ((0:Int)<(a.pairs.length:Int)))))&&(!decide (a.kind=(10:Int)))) (Ag a.slots)<|wg<|vy ((!(((!decide (a.kind=(11:Int)))&&decide ((0:Int)<(a.list.length:Int)))||((!decide (a.kind=(12:Int)))&&decide ((0:Int)<(a.pairs.length:Int)))))&&(!decide (a.kind=(10:Int)))) (Ag a.raws)<|vg ((!(((!decide (a.kind=(11:Int)))&&decide ((0:Int)<(a.list.length:Int)))||((!decide (a.kind=(12:Int)))&&decide ((0:Int)<(a.pairs.length:Int)))))&&(!decide (a.kind=(10:Int)))) (wa a.slots.length a.raws.length)<|wg<|wg<|wg<|wg<|lr Xj nG ((((((!decide (a.kind=(11:Int)))&&decide ((0:Int)<(a.list.length:Int)))||((!decide (a.kind=(12:Int)))&&decide ((0:Int)<(a.pairs.length:Int))))||((!decide (a.kind=(10:Int)))&&decide ((0:Int)<((a.slots.length+a.raws.length:Nat):Int))))||((!decide (a.bits=(0:Int)))&&((decide (a.kind=(7:Int))||decide (a.kind=(8:Int)))||(decide ((10:Int)≤a.kind)&&decide (a.kind≤(12:Int))))))||((!decide (a.text=(⟨#[]⟩:ByteArray)))&&(!(decide (a.kind=(7:Int))||decide (a.kind=(8:Int)))))):PT 0 _).m
theorem NU(a:Val):KC Tryz.prog 59 [.agg ((Ai a).map .d)] (T5 a) Xj:=kC Tryz.func59 Tryz.ntmps59 [.tmp 2] fun co m L=>fO co m L
abbrev NM:Aa×Blk:=kk 4 53 16 [vI 0,vS ⟨#[]⟩,vI 0,vI 0,vI 0,vS ⟨#[]⟩,vS ⟨#[]⟩,vB false,vI 0,.d (.int .u64 0),vS ⟨#[]⟩,.e0,.e0,.e0,.e0,.e0]
abbrev MY:Fld×Bool→AV:=fun y=>.tup [.agg ((Am y.1).map .d),vB y.2]
def XF(a:Fld→Option Bool):Cl:=fun no l H θ=>(∀(z0:Fld) y,a z0=some y→BA Tryz.prog l no H (θ 1) [.agg ((Am z0).map .d)] (vB y))
def X6(a:List Fld):Nat→St:=fun b=>Ab [(1,.fn (.yield 1) [] []),pp 4,(9,vL Am a),(10,vN a.length),(11,vN b)] [NM]
def ij:Unit→Nat×St:=fun _=>(0,Ab [pp 4] [NM])
def Ma(c:List Fld)(d:Fld→Option Bool):Nat→Option (Lv (Nat) (Unit) (Fld×Bool)):=fun a=>(br (decide ((a:Int)<(c.length:Int))) (ix c a fun b=>wg<|wg<|cf Tryz.prog 1 [.agg ((Am b).map .d)] (d b) (fun y=>vB y) fun e=>br e (wg<|wg<|Ap MY nG (b,true)) (vs (wa a 1)<|ln (X6 c) (a+1))) (Ah (ij) ()):PT 0 _).m
def Oh(a:List Fld)(b:Fld→Option Bool):Option (Fld×Bool):=(lc (Ab [(0,vL Am a),(1,.fn (.yield 1) [] []),pp 4] [NM]) ((vz (Ag a)<|lc (Ab [(1,.fn (.yield 1) [] []),pp 4,(9,vL Am a),(10,vN a.length),(11,vI 0)] [NM]) ((Ak (Ma a b) Aj 0).bind (Sum.elim (fun _=>(wg<|wg<|lr MY nG ((.mk 0 ⟨#[]⟩ 0 0 (.mk 0 ⟨#[]⟩:Typ) ⟨#[]⟩ false (.mk 0 0 ⟨#[]⟩ [] [] [] []:Val) []:Fld),false):PT 0 _).m) some)):PT 0 _).m):PT 0 _).m
theorem tc{C:Cx}(co:CO C 0)(c:List Fld)(a:Fld→Option Bool)(e:(XF a) C.no C.l C.H0 C.θ):KL Tryz.prog (Ar tl) 21 C (pa [0,0,1,0,1] (As Tryz.f89)) [.cell 4 53,.tmp 5] 0 (X6 c) (ij) MY nG (Ma c a):=fun h _ m Q b d L=>eN co (Ad [1,4,9,10,11] DD) (Ad [4] DD) d m L fun r g=>⟨fun f=>⟨⟨fun y hy=>e _ y hy,by intro r;kernel_rfl,by intro r y;kernel_rfl⟩,fun i=>⟨id,id⟩⟩,id⟩
theorem nV(b:List Fld)(a:Fld→Option Bool):KO Tryz.prog 89 0 [vL Am b,.fn (.yield 1) [] []] [] (XF a) (Oh b a) MY nG:=kO Tryz.func89 Tryz.ntmps89 [.cell 4 53,.tmp 5] 0 (fun co c m L=>mJ co 1 (Ad [0,1,4] DD) nl nH m L fun r g=>fun _ m L=>sq (mJ co 1 (Ad [1,4,9,10,11] DD) nl nH m L fun r g=>fun _ m L=>bk 0 (lo (AE (tc co b a c) nH m L (fun _ m=>fO co m L)))))
abbrev Xs:Bool→AV:=fun y=>vB y
@[reducible] def XA(w0:Int):Bool→List Blk:=fun y=>[⟨0,true,3,1,[vI w0]⟩]
def I3(a:Fld)(w0:Int):Option (Bool):=(wg<|wg<|lr Xs (XA w0) (decide (a.num=w0)):PT 1 _).m
theorem nq(a:Fld)(w0:Int):KO Tryz.prog 90 1 [.agg ((Am a).map .d),.ptr (0,0) 0 0] [⟨0,true,3,1,[vI w0]⟩] (fun _ _ _ _=>True) (I3 a w0) Xs (XA w0):=kO Tryz.func90 Tryz.ntmps90 [.tmp 3] 1 (fun co b m L=>fO co m L)
abbrev Xd:Fld×Bool→AV:=fun y=>.tup [.agg ((Am y.1).map .d),vB y.2]
def Uk(a:Msg)(b:Int):Option (Fld×Bool):=(wg<|cs Tryz.prog 89 [vL Am a.fields,.fn (.func 90) [] [.ptr (1,3) 1 0]] [(1,3)] [((1,3),⟨1,true,3,1,[vI b]⟩)] (Oh a.fields (fun(z0:Fld)=>I3 z0 b)) (fun y=>.tup [.agg ((Am y.1).map .d),vB y.2]) fun c=>wg<|lr Xd nG (c.1,c.2):PT 0 _).m
theorem SZ(b:Msg)(a:Int):KC Tryz.prog 37 [.agg ((AG b).map .d),vI a] (Uk b a) Xd:=CD Tryz.func37 Tryz.ntmps37 AJ [.cell 4 53,.tmp 5] fun C co y m c L=>fO co m L fun r g=>⟨fun y hy=>CF (nV b.fields (fun(z0:Fld)=>I3 z0 a)) hy co g [] [((1,3),⟨1,true,3,1,[vI a]⟩)] (AH [(1,.fn (.func 90) [] [.ptr (r.κ (1,3)) (r.γ (1,3)+1) 0])]) (fun f d h=>(fun z0 y e=>FZ (nq z0 a) e co g [((1,3),⟨1,true,3,1,[vI a]⟩)] [] d (by simp) (fun _=>.top) (fun _ _=>trivial) (fun l H=>⟨fun _=>⟨rfl,by kernel_rfl⟩,by kernel_rfl,trivial⟩))) (fun H=>trivial),fun i=>id⟩
abbrev NT:Int→AV:=fun y=>vI y
def aB(a:Slt→Option Bool):Cl:=fun no l H θ=>(∀(z0:Slt) y,a z0=some y→BA Tryz.prog l no H (θ 1) [.agg ((Bl z0).map .d)] (vB y))
def fL(a:List Slt):Nat→St:=fun b=>Ab [(0,vL Aq a),(1,.fn (.yield 1) [] []),(7,vN a.length),(8,vN b)] []
def gx:Unit→Nat×St:=fun _=>(0,Ab [] [])
def LG(b:List Slt)(c:Slt→Option Bool):Nat→Option (Lv (Nat) (Unit) (Int)):=fun a=>(br (decide ((a:Int)<(b.length:Int))) (ix b a fun d=>cf Tryz.prog 1 [.agg ((Bl d).map .d)] (c d) (fun y=>vB y) fun e=>br e (Ap NT nG (a:Int)) (vs (wa a 1)<|ln (fL b) (a+1))) (Ah (gx) ()):PT 0 _).m
def Oz(a:List Slt)(b:Slt→Option Bool):Option (Int):=(lc (Ab [(0,vL Aq a),(1,.fn (.yield 1) [] [])] []) ((vz (Ag a)<|lc (Ab [(0,vL Aq a),(1,.fn (.yield 1) [] []),(7,vN a.length),(8,vI 0)] []) ((Ak (LG a b) Aj 0).bind (Sum.elim (fun _=>(lr NT nG (-1):PT 0 _).m) some)):PT 0 _).m):PT 0 _).m
theorem sp{C:Cx}(co:CO C 0)(c:List Slt)(a:Slt→Option Bool)(e:(aB a) C.no C.l C.H0 C.θ):KL Tryz.prog (Ar tl) 19 C (pa [0,0,1,0,1] (As Tryz.f164)) [.tmp 4] 0 (fL c) (gx) NT nG (LG c a):=fun h _ m Q b d L=>eN co (AI [0,1,7,8]) nl d m L fun r g=>⟨fun f=>⟨⟨fun y hy=>e _ y hy,by intro r;kernel_rfl,by intro r y;kernel_rfl⟩,fun i=>⟨id,id⟩⟩,id⟩
theorem lK(b:List Slt)(a:Slt→Option Bool):KO Tryz.prog 164 0 [vL Aq b,.fn (.yield 1) [] []] [] (aB a) (Oz b a) NT nG:=kO Tryz.func164 Tryz.ntmps164 [.tmp 4] 0 (fun co c m L=>mJ co 1 (AI [0,1]) nl nH m L fun r g=>fun _ m L=>sq (mJ co 1 (AI [0,1,7,8]) nl nH m L fun r g=>fun _ m L=>bk 0 (lo (AE (sp co b a c) nH m L (fun _ m=>fO co m L)))))
abbrev bH:Bool→AV:=fun y=>vB y
def nB(a:Slt→Option Bool):Cl:=fun no l H θ=>(∀(z0:Slt) y,a z0=some y→BA Tryz.prog l no H (θ 1) [.agg ((Bl z0).map .d)] (vB y))
def I0(b:List Slt)(a:Slt→Option Bool):Option (Bool):=(cs Tryz.prog 164 [vL Aq b,.fn (.yield 1) [] []] [] [] (Oz b a) (fun y=>vI y) fun c=>lr bH nG (decide ((0:Int)≤c)):PT 0 _).m
theorem Wz(b:List Slt)(a:Slt→Option Bool):KO Tryz.prog 119 0 [vL Aq b,.fn (.yield 1) [] []] [] (nB a) (I0 b a) bH nG:=C1 Tryz.func119 Tryz.ntmps119 AJ [.tmp 4] 0 (fun C co d y m c L=>fO co m L fun r g=>⟨fun y hy=>CF (lK b a) hy co g [] [] (AH [(1,r.θ 1)]) (fun h i e=>(fun z0 y f=>Fb co g [] e (d z0 y f))) (fun H=>trivial),fun j=>id⟩)
abbrev Xk:Bool→AV:=fun y=>vB y
@[reducible] def Xx(w0:Fld):Bool→List Blk:=fun y=>[⟨0,true,53,16,(cD (Am w0))⟩]
def bQ(a:Int)(w0:Fld):Option (Bool):=(wg<|lr Xk (Xx w0) (decide (a=w0.num)):PT 1 _).m
theorem n3(a:Int)(w0:Fld):KO Tryz.prog 62 1 [vI a,.ptr (0,0) 0 0] [⟨0,true,53,16,(cD (Am w0))⟩] (fun _ _ _ _=>True) (bQ a w0) Xk (Xx w0):=kO Tryz.func62 Tryz.ntmps62 [.tmp 3] 1 (fun co b m L=>fO co m L)
abbrev aD:Bool→AV:=fun y=>vB y
@[reducible] def Z2(w0:Fld):Bool→List Blk:=fun y=>[⟨0,true,53,16,(cD (Am w0))⟩]
def bV(a:Int)(w0:Fld):Option (Bool):=(wg<|lr aD (Z2 w0) (decide (a=w0.num)):PT 1 _).m
theorem mL(a:Int)(w0:Fld):KO Tryz.prog 115 1 [vI a,.ptr (0,0) 0 0] [⟨0,true,53,16,(cD (Am w0))⟩] (fun _ _ _ _=>True) (bV a w0) aD (Z2 w0):=kO Tryz.func115 Tryz.ntmps115 [.tmp 3] 1 (fun co b m L=>fO co m L)
abbrev bx:Bool→AV:=fun y=>vB y
@[reducible] def aQ(w0:Fld):Bool→List Blk:=fun y=>[⟨0,true,53,16,(cD (Am w0))⟩]
def bZ(a:Int)(w0:Fld):Option (Bool):=(wg<|lr bx (aQ w0) (decide (a=w0.num)):PT 1 _).m
theorem mF(a:Int)(w0:Fld):KO Tryz.prog 117 1 [vI a,.ptr (0,0) 0 0] [⟨0,true,53,16,(cD (Am w0))⟩] (fun _ _ _ _=>True) (bZ a w0) bx (aQ w0):=kO Tryz.func117 Tryz.ntmps117 [.tmp 3] 1 (fun co b m L=>fO co m L)
abbrev ZN(a:Fld):Aa×Blk:=((0,1),⟨0,true,53,16,(cD (Am a))⟩)
abbrev g6:Bool→AV:=fun y=>vB y
@[reducible] def hX(a:Fld):Bool→List Blk:=fun y=>[⟨0,true,65,1,[.fn (.func 115) [] [.ptr (0,1) 0 0]]⟩,⟨0,true,53,16,(cD (Am a))⟩]
def OA(b:Slt)(a:Fld):Option (Bool):=(wg<|wg<|cs Tryz.prog 115 [vI b.num,.ptr (0,1) 0 0] [(0,1)] [(ZN a)] (bV b.num a) (fun y=>vB y) fun c=>lr g6 (hX a) c:PT 2 _).m
theorem tO(b:Slt)(a:Fld):KO Tryz.prog 120 2 [.agg ((Bl b).map .d),.ptr (0,0) 0 0] [⟨0,true,65,1,[.fn (.func 115) [] [.ptr (0,1) 0 0]]⟩,⟨0,true,53,16,(cD (Am a))⟩] (fun _ _ _ _=>True) (OA b a) g6 (hX a):=C1 Tryz.func120 Tryz.ntmps120 AJ [.tmp 3] 2 (fun C co d y m c L=>fO co m L fun r g=>⟨fun y hy=>s6 (mL b.num a) hy co g [(ZN a)] [],fun e=>id⟩)
abbrev ZM(a:Fld):Aa×Blk:=((0,1),⟨0,true,53,16,(cD (Am a))⟩)
abbrev fV:Bool→AV:=fun y=>vB y
@[reducible] def g9(a:Fld):Bool→List Blk:=fun y=>[⟨0,true,65,1,[.fn (.func 117) [] [.ptr (0,1) 0 0]]⟩,⟨0,true,53,16,(cD (Am a))⟩]
def OC(b:Slt)(a:Fld):Option (Bool):=(wg<|wg<|cs Tryz.prog 117 [vI b.num,.ptr (0,1) 0 0] [(0,1)] [(ZM a)] (bZ b.num a) (fun y=>vB y) fun c=>lr fV (g9 a) c:PT 2 _).m
theorem ts(b:Slt)(a:Fld):KO Tryz.prog 120 2 [.agg ((Bl b).map .d),.ptr (0,0) 0 0] [⟨0,true,65,1,[.fn (.func 117) [] [.ptr (0,1) 0 0]]⟩,⟨0,true,53,16,(cD (Am a))⟩] (fun _ _ _ _=>True) (OC b a) fV (g9 a):=C1 Tryz.func120 Tryz.ntmps120 AJ [.tmp 3] 2 (fun C co d y m c L=>fO co m L fun r g=>⟨fun y hy=>s6 (mF b.num a) hy co g [(ZM a)] [],fun e=>id⟩)
abbrev aI(a:Fld):Aa×Blk:=((0,1),⟨0,true,53,16,(cD (Am a))⟩)
abbrev ge:Bool→AV:=fun y=>vB y
@[reducible] def gQ(a:Fld):Bool→List Blk:=fun y=>[⟨0,true,65,1,[.fn (.func 62) [] [.ptr (0,1) 0 0]]⟩,⟨0,true,53,16,(cD (Am a))⟩]
def OD(b:Slt)(a:Fld):Option (Bool):=(wg<|wg<|cs Tryz.prog 62 [vI b.num,.ptr (0,1) 0 0] [(0,1)] [(aI a)] (bQ b.num a) (fun y=>vB y) fun c=>lr ge (gQ a) c:PT 2 _).m
theorem sV(b:Slt)(a:Fld):KO Tryz.prog 120 2 [.agg ((Bl b).map .d),.ptr (0,0) 0 0] [⟨0,true,65,1,[.fn (.func 62) [] [.ptr (0,1) 0 0]]⟩,⟨0,true,53,16,(cD (Am a))⟩] (fun _ _ _ _=>True) (OD b a) ge (gQ a):=C1 Tryz.func120 Tryz.ntmps120 AJ [.tmp 3] 2 (fun C co d y m c L=>fO co m L fun r g=>⟨fun y hy=>s6 (n3 b.num a) hy co g [(aI a)] [],fun e=>id⟩)
abbrev SC(a:Fld):Aa×Blk:=((0,0),⟨0,true,53,16,(cD (Am a))⟩)
abbrev Zp:Bool→AV:=fun y=>vB y
@[reducible] def jg(a:Fld):Bool→List Blk:=fun y=>[⟨0,true,53,16,(cD (Am a))⟩]
def Ow(b:List Slt)(a:Fld):Option (Bool):=(cs Tryz.prog 119 [vL Aq b,.fn (.func 120) [] [.ptr (1,3) 1 0]] [(1,3),(0,0)] [((1,3),⟨1,true,65,1,[.fn (.func 115) [] [.ptr (0,0) 0 0]]⟩),(SC a)] (I0 b (fun(z0:Slt)=>OA z0 a)) (fun y=>vB y) fun c=>lr Zp (jg a) c:PT 1 _).m
theorem vT(b:List Slt)(a:Fld):KO Tryz.prog 61 1 [vL Aq b,.fn (.func 115) [] [.ptr (0,0) 0 0]] [⟨0,true,53,16,(cD (Am a))⟩] (fun _ _ _ _=>True) (Ow b a) Zp (jg a):=C1 Tryz.func61 Tryz.ntmps61 AJ [.tmp 4] 1 (fun C co h y m c L=>fO co m L fun r g=>⟨fun y hy=>CF (Wz b (fun(z0:Slt)=>OA z0 a)) hy co g [] [((1,3),⟨1,true,65,1,[.fn (.func 115) [] [.ptr (0,0) 0 0]]⟩),(SC a)] (AH [(1,.fn (.func 120) [] [.ptr (r.κ (1,3)) (r.γ (1,3)+1) 0])]) (fun f d i=>(fun z0 y e=>FZ (tO z0 a) e co g [((1,3),⟨1,true,65,1,[.fn (.func 115) [] [.ptr (0,0) 0 0]]⟩),(SC a)] [] d (by simp) (fun _=>.top) (fun _ _=>trivial) (fun l H=>⟨fun _=>⟨rfl,by kernel_rfl⟩,by kernel_rfl,⟨fun _=>⟨rfl,by kernel_rfl⟩,by kernel_rfl,trivial⟩⟩))) (fun H=>trivial),fun j=>id⟩)
abbrev Si(a:Fld):Aa×Blk:=((0,0),⟨0,true,53,16,(cD (Am a))⟩)
abbrev im:Bool→AV:=fun y=>vB y
@[reducible] def Zi(a:Fld):Bool→List Blk:=fun y=>[⟨0,true,53,16,(cD (Am a))⟩]
def Oy(b:List Slt)(a:Fld):Option (Bool):=(cs Tryz.prog 119 [vL Aq b,.fn (.func 120) [] [.ptr (1,3) 1 0]] [(1,3),(0,0)] [((1,3),⟨1,true,65,1,[.fn (.func 117) [] [.ptr (0,0) 0 0]]⟩),(Si a)] (I0 b (fun(z0:Slt)=>OC z0 a)) (fun y=>vB y) fun c=>lr im (Zi a) c:PT 1 _).m
theorem k7(b:List Slt)(a:Fld):KO Tryz.prog 61 1 [vL Aq b,.fn (.func 117) [] [.ptr (0,0) 0 0]] [⟨0,true,53,16,(cD (Am a))⟩] (fun _ _ _ _=>True) (Oy b a) im (Zi a):=C1 Tryz.func61 Tryz.ntmps61 AJ [.tmp 4] 1 (fun C co h y m c L=>fO co m L fun r g=>⟨fun y hy=>CF (Wz b (fun(z0:Slt)=>OC z0 a)) hy co g [] [((1,3),⟨1,true,65,1,[.fn (.func 117) [] [.ptr (0,0) 0 0]]⟩),(Si a)] (AH [(1,.fn (.func 120) [] [.ptr (r.κ (1,3)) (r.γ (1,3)+1) 0])]) (fun f d i=>(fun z0 y e=>FZ (ts z0 a) e co g [((1,3),⟨1,true,65,1,[.fn (.func 117) [] [.ptr (0,0) 0 0]]⟩),(Si a)] [] d (by simp) (fun _=>.top) (fun _ _=>trivial) (fun l H=>⟨fun _=>⟨rfl,by kernel_rfl⟩,by kernel_rfl,⟨fun _=>⟨rfl,by kernel_rfl⟩,by kernel_rfl,trivial⟩⟩))) (fun H=>trivial),fun j=>id⟩)
abbrev Sb(a:Fld):Aa×Blk:=((0,0),⟨0,true,53,16,(cD (Am a))⟩)
abbrev jm:Bool→AV:=fun y=>vB y
@[reducible] def ip(a:Fld):Bool→List Blk:=fun y=>[⟨0,true,53,16,(cD (Am a))⟩]
def Ou(b:List Slt)(a:Fld):Option (Bool):=(cs Tryz.prog 119 [vL Aq b,.fn (.func 120) [] [.ptr (1,3) 1 0]] [(1,3),(0,0)] [((1,3),⟨1,true,65,1,[.fn (.func 62) [] [.ptr (0,0) 0 0]]⟩),(Sb a)] (I0 b (fun(z0:Slt)=>OD z0 a)) (fun y=>vB y) fun c=>lr jm (ip a) c:PT 1 _).m
theorem kT(b:List Slt)(a:Fld):KO Tryz.prog 61 1 [vL Aq b,.fn (.func 62) [] [.ptr (0,0) 0 0]] [⟨0,true,53,16,(cD (Am a))⟩] (fun _ _ _ _=>True) (Ou b a) jm (ip a):=C1 Tryz.func61 Tryz.ntmps61 AJ [.tmp 4] 1 (fun C co h y m c L=>fO co m L fun r g=>⟨fun y hy=>CF (Wz b (fun(z0:Slt)=>OD z0 a)) hy co g [] [((1,3),⟨1,true,65,1,[.fn (.func 62) [] [.ptr (0,0) 0 0]]⟩),(Sb a)] (AH [(1,.fn (.func 120) [] [.ptr (r.κ (1,3)) (r.γ (1,3)+1) 0])]) (fun f d i=>(fun z0 y e=>FZ (sV z0 a) e co g [((1,3),⟨1,true,65,1,[.fn (.func 62) [] [.ptr (0,0) 0 0]]⟩),(Sb a)] [] d (by simp) (fun _=>.top) (fun _ _=>trivial) (fun l H=>⟨fun _=>⟨rfl,by kernel_rfl⟩,by kernel_rfl,⟨fun _=>⟨rfl,by kernel_rfl⟩,by kernel_rfl,trivial⟩⟩))) (fun H=>trivial),fun j=>id⟩)
abbrev Pw:Int→AV:=fun y=>vI y
@[reducible] def PK(a:List Fld):Int→List Blk:=fun y=>[⟨0,true,53,16,Ac Am a⟩]
def fR(a:Fld→Option Bool):Cl:=fun no l H θ=>(∀(z0:Fld) y,a z0=some y→BA Tryz.prog l no H (θ 1) [.agg ((Am z0).map .d)] (vB y))
def eg(a:List Fld):Nat→St:=fun b=>Ab [(0,.ref (0,0) 0 0 a.length),(1,.fn (.yield 1) [] []),(7,vN a.length),(8,vN b)] [((0,0),⟨0,true,53,16,Ac Am a⟩)]
def dT(a:List Fld):Unit→Nat×St:=fun _=>(0,Ab [] [((0,0),⟨0,true,53,16,Ac Am a⟩)])
def OR(a:List Fld)(c:Fld→Option Bool):Nat→Option (Lv (Nat) (Unit) (Int)):=fun b=>(br (decide ((b:Int)<(a.length:Int))) (vs (ir b a.length 16)<|ca a b fun d=>cf Tryz.prog 1 [.agg ((Am d).map .d)] (c d) (fun y=>vB y) fun e=>br e (Ap Pw (PK a) (b:Int)) (vs (wa b 1)<|vz (fl a)<|ln (eg a) (b+1))) (vz (fl a)<|Ah (dT a) ()):PT 1 _).m
def Ol(a:List Fld)(b:Fld→Option Bool):Option (Int):=(vz (fl a)<|lc (Ab [(0,.ref (0,0) 0 0 a.length),(1,.fn (.yield 1) [] [])] [((0,0),⟨0,true,53,16,Ac Am a⟩)]) ((vz (A1 a.length)<|vz (fl a)<|lc (Ab [(0,.ref (0,0) 0 0 a.length),(1,.fn (.yield 1) [] []),(7,vN a.length),(8,vI 0)] [((0,0),⟨0,true,53,16,Ac Am a⟩)]) ((Ak (OR a b) Aj 0).bind (Sum.elim (fun _=>(lr Pw (PK a) (-1):PT 1 _).m) some)):PT 1 _).m):PT 1 _).m
theorem p4{C:Cx}(co:CO C 1)(b:List Fld)(a:Fld→Option Bool)(e:(fR a) C.no C.l C.H0 C.θ):KL Tryz.prog (Ar tl) 19 C (pa [0,0,1,0,1] (As Tryz.f203)) [.tmp 4] 1 (eg b) (dT b) Pw (PK b) (OR b a):=fun h _ m Q c d L=>eN co (Ad [0,1,7,8] AN) (Ad [] AN) d m L fun r g=>⟨fun f=>⟨⟨fun y hy=>e _ y hy,by intro r;kernel_rfl,by intro r y;kernel_rfl⟩,fun i=>⟨id,id⟩⟩,id⟩
theorem tG(b:List Fld)(a:Fld→Option Bool):KO Tryz.prog 203 1 [.ref (0,0) 0 0 b.length,.fn (.yield 1) [] []] [⟨0,true,53,16,Ac Am b⟩] (fR a) (Ol b a) Pw (PK b):=kO Tryz.func203 Tryz.ntmps203 [.tmp 4] 1 (fun co c m L=>mJ co 1 (Ad [0,1] AN) nl nH m L fun r g=>fun _ m L=>sq (mJ co 1 (Ad [0,1,7,8] AN) nl nH m L fun r g=>fun _ m L=>bk 0 (lo (AE (p4 co b a c) nH m L (fun _ m=>fO co m L)))))
abbrev Mq(a:List Fld):Aa×Blk:=((0,0),⟨0,true,53,16,Ac Am a⟩)
abbrev RJ:List Fld→AV:=fun y=>.ref (0,0) 0 0 y.length
@[reducible] def SA:List Fld→List Blk:=fun y=>[⟨0,true,53,16,Ac Am y⟩]
def bd(a:Fld→Option Bool):Cl:=fun no l H θ=>(∀(z0:Fld) y,a z0=some y→BA Tryz.prog l no H (θ 1) [.agg ((Am z0).map .d)] (vB y))
def VJ(a:List Fld):Int×Int×List Fld→St:=fun(v2,v3,b)=>Ab [(0,.ref (0,0) 0 0 a.length),(1,.fn (.yield 1) [] []),(5,vI v2),(6,vI v3)] [((0,0),⟨0,true,53,16,Ac Am b⟩)]
def gu(a:List Fld):Int×List Fld→Nat×St:=fun(c,b)=>(0,Ab [(0,.ref (0,0) 0 0 a.length),(5,vI c)] [((0,0),⟨0,true,53,16,Ac Am b⟩)])
def LQ(b:List Fld)(d:Fld→Option Bool):Int×Int×List Fld→Option (Lv (Int×Int×List Fld) (Int×List Fld) (List Fld)):=fun(v2,v3,a)=>(vz (A1 b.length)<|br (decide (v3<(b.length:Int))) (vs (CC v3 b.length 16)<|ca a v3.toNat fun c=>wg<|wg<|cf Tryz.prog 1 [.agg ((Am c).map .d)] (d c) (fun y=>vB y) fun e=>br (!e) (wg<|vs (CC v2 b.length 16)<|vs (st a v2.toNat c)<|ID 0 ((Rw.f (c:Fld)).map .d) (fun _=>V1 _)<|vs (wi (v2+1))<|vs (wi (v3+1))<|vz (fl (a.set v2.toNat c))<|ln (VJ b) ((v2+1),(v3+1),a.set v2.toNat c)) (vs (wi (v3+1))<|vz (fl a)<|ln (VJ b) (v2,(v3+1),a))) (vz (fl a)<|Ah (gu b) (v2,a)):PT 1 _).m
def Oi(a:List Fld)(d:Fld→Option Bool):Option (List Fld):=(cs Tryz.prog 203 [.ref (0,0) 0 0 a.length,.fn (.yield 1) [] []] [(0,0)] [(Mq a)] (Ol a d) (fun y=>vI y) fun c=>br (decide (c=((-1):Int))) (lr RJ (SA) a) (vz (fl a)<|lc (Ab [(0,.ref (0,0) 0 0 a.length),(1,.fn (.yield 1) [] []),(5,vI c)] [(Mq a)]) ((vs (wi (c+1))<|vz (fl a)<|lc (Ab [(0,.ref (0,0) 0 0 a.length),(1,.fn (.yield 1) [] []),(5,vI c),(6,vI (c+1))] [(Mq a)]) ((Ak (LQ a d) Aj (c,(c+1),a)).bind (Sum.elim (fun(b,e)=>(sR a.length 0 (.it b) .no<|cr e (0+b.toNat) (a.length-b.toNat) [vI 0,vS ⟨#[]⟩,vI 0,vI 0,vI 0,vS ⟨#[]⟩,vS ⟨#[]⟩,vB false,vI 0,.d (.int .u64 0),vS ⟨#[]⟩,.e0,.e0,.e0,.e0,.e0]<|ID 0 ([vI 0,vS ⟨#[]⟩,vI 0,vI 0,vI 0,vS ⟨#[]⟩,vS ⟨#[]⟩,vB false,vI 0,.d (.int .u64 0),vS ⟨#[]⟩,.e0,.e0,.e0,.e0,.e0]) (fun _=>te (by kernel_rfl))<|QT 0 e (0+b.toNat) (a.length-b.toNat) [vI 0,vS ⟨#[]⟩,vI 0,vI 0,vI 0,vS ⟨#[]⟩,vS ⟨#[]⟩,vB false,vI 0,.d (.int .u64 0),vS ⟨#[]⟩,.e0,.e0,.e0,.e0,.e0]<|vw .sep<|sR a.length 0 .no (.it b)<|Hu (b.toNat=(e.take (0+b.toNat)).length) (fun E=>E.P (.ref (0,0) 0 0 b.toNat) ([⟨0,true,53,16,Ac Am (e.take (0+b.toNat))⟩])) (e.take (0+b.toNat)):PT 1 _).m) some)):PT 1 _).m)):PT 1 _).m
theorem sr{C:Cx}(co:CO C 1)(b:List Fld)(a:Fld→Option Bool)(e:(bd a) C.no C.l C.H0 C.θ):KL Tryz.prog (Ar tl) 42 C (pa [0,0,1,0,1,1,1] (As Tryz.f159)) [.tmp 4] 1 (VJ b) (gu b) RJ (SA) (LQ b a):=fun(v2,v3,h) _ m Q c d L=>eN co (Ad [0,1,5,6] AN) (Ad [0,5] AN) d m L fun r g=>⟨fun f=>⟨⟨fun y hy=>e _ y hy,by intro r;kernel_rfl,by intro r y;kernel_rfl⟩,fun i=>⟨id,id⟩⟩,id⟩
theorem lA(b:List Fld)(a:Fld→Option Bool):KO Tryz.prog 159 1 [.ref (0,0) 0 0 b.length,.fn (.yield 1) [] []] [⟨0,true,53,16,Ac Am b⟩] (bd a) (Oi b a) RJ (SA):=C1 Tryz.func159 Tryz.ntmps159 AJ [.tmp 4] 1 (fun C co d y m c L=>mJ co 3 (Ad [0,1,5] AN) nl nH m L fun r g=>⟨fun y hy=>CF (tG b a) hy co g [(Mq b)] [] (AH [(1,r.θ 1)]) (fun i j e=>(fun z0 y f=>Fb co g [(Mq b)] e (d z0 y f))) (fun H=>⟨fun _=>⟨rfl,bz⟩,by kernel_rfl,trivial⟩),fun o=>⟨id,fun _ m L=>sq (mJ co 1 (Ad [0,1,5,6] AN) nl nH m L fun r g=>fun _ m L=>bk 0 (lo (AE (sr co b a d) nH m L (fun(l,k) m=>fO co m L fun r g=>fun h L=>wA (congrArg (fun n=>(.ref (0,0) 0 0 n:AV)) h) L))))⟩⟩)
abbrev SB:List Fld→AV:=fun y=>.ref (0,0) 1 0 y.length
@[reducible] def Sl:List Fld→List Blk:=fun y=>[⟨1,true,53,16,Ac Am y⟩]
def Ox(a:List Fld):Option (List Fld):=(al Am a false fun b=>br b (vw .sep<|vw (.ads 2 2 53 16)<|mv 2 0 ([]:List Fld)<|lr SB (Sl) ([]:List Fld)) (a0 a<|mv 7 0 a<|lr SB (Sl) a):PT 1 _).m
theorem lO(a:List Fld):KO Tryz.prog 160 1 [vL Am a] [⟨0,false,0,0,[]⟩] (fun _ _ _ _=>True) (Ox a) SB (Sl):=kO Tryz.func160 Tryz.ntmps160 [.tmp 2] 1 (fun co b m L=>fO co m L)
abbrev ZJ:Bool→AV:=fun y=>vB y
@[reducible] def Z7(w0:ByteArray):Bool→List Blk:=fun y=>[⟨0,true,9,1,[vS w0]⟩]
def Oq(a:Fld)(w0:ByteArray):Option (Bool):=(wg<|wg<|lr ZJ (Z7 w0) (!decide (a.union=w0)):PT 1 _).m
theorem mo(a:Fld)(w0:ByteArray):KO Tryz.prog 161 1 [.agg ((Am a).map .d),.ptr (0,0) 0 0] [⟨0,true,9,1,[vS w0]⟩] (fun _ _ _ _=>True) (Oq a w0) ZJ (Z7 w0):=kO Tryz.func161 Tryz.ntmps161 [.tmp 3] 1 (fun co b m L=>fO co m L)
abbrev MA(a:ByteArray):Aa×Blk:=kk 3 9 1 [vS a]
abbrev R0:List Fld→AV:=fun y=>vL Am y
def Ui(d:Msg)(a:ByteArray):Option (List Fld):=(wg<|br (decide (a=(⟨#[]⟩:ByteArray))) (lr R0 nG ([]:List Fld)) (lc (Ab [pp 2,pp 3] [kk 2 47 5 (cD (AG d)),(MA a)]) ((wg<|lc (Ab [pp 3,(8,vL Am d.fields)] [(MA a)]) ((Ox d.fields).bind fun c=>(vz (fl c)<|lc (Ab [(9,.ref (1,9) 0 0 c.length),(10,.fn (.func 161) [] [.ptr (1,3) 0 0])] [(MA a),kk 9 53 16 (Ac Am c)]) ((Oi c (fun(z0:Fld)=>Oq z0 a)).bind fun b=>(vz (fl b)<|lc (Ab [(4,.ref (1,9) 0 0 b.length)] [kk 9 53 16 (Ac Am b)]) ((vz (fr b)<|lr R0 nG b:PT 0 _).m):PT 0 _).m):PT 0 _).m):PT 0 _).m)):PT 0 _).m
theorem lR(b:Msg)(a:ByteArray):KC Tryz.prog 116 [.agg ((AG b).map .d),vS a] (Ui b a) R0:=CD Tryz.func116 Tryz.ntmps116 AJ [.tmp 4] fun C co y m c L=>mJ co 2 (Ad [2,3] [((1,2),false),((1,3),false)]) nl nH m L fun r g=>⟨id,fun _ m L=>sq (rg (pR co 2 (Ad [3,8] [((1,3),false)]) m L fun r g=>fun _ m L=>c6 co m (lO b.fields) [((1,9),⟨0,false,0,0,[]⟩)] [] (fun z=>.ref (1,9) 1 0 z.length) (fun z=>[((1,9),⟨1,true,53,16,Ac Am z⟩)]) [] fun d m=>pR co 1 (Ad [9,10] [((1,3),false),((1,9),true)]) m L fun r g=>fun _ m L=>c6 (θ:=fun r=>AH [(1,.fn (.func 161) [] [.ptr (r.κ (1,3)) (r.γ (1,3)+0) 0])]) (hΘ:=fun r g h e i=>(fun z0 y f=>FZ (mo z0 a) f co g [(MA a)] _ e (by simp) (fun _=>.top) (fun _ _=>trivial) (fun l H=>⟨fun _=>⟨rfl,by kernel_rfl⟩,by kernel_rfl,trivial⟩))) co m (lA d (fun(z0:Fld)=>Oq z0 a)) [kk 9 53 16 (Ac Am d)] [(MA a)] (fun z=>.ref (1,9) 0 0 z.length) (fun z=>[kk 9 53 16 (Ac Am z)]) [] fun j m=>eR co (Ad [4] [((1,9),true)]) m L fun r g=>fun _ m L=>fO co m L))⟩
abbrev NW:Aa×Blk:=kk 4 68 5 [vS ⟨#[]⟩,vB false,.e0,.e0,.e0]
abbrev MR:Enm×Bool→AV:=fun y=>.tup [.agg ((Bs y.1).map .d),vB y.2]
def XE(a:Enm→Option Bool):Cl:=fun no l H θ=>(∀(z0:Enm) y,a z0=some y→BA Tryz.prog l no H (θ 1) [.agg ((Bs z0).map .d)] (vB y))
def iJ(a:List Enm):Nat→St:=fun b=>Ab [(1,.fn (.yield 1) [] []),pp 4,(9,vL Bs a),(10,vN a.length),(11,vN b)] [NW]
def X7:Unit→Nat×St:=fun _=>(0,Ab [pp 4] [NW])
def LZ(c:List Enm)(d:Enm→Option Bool):Nat→Option (Lv (Nat) (Unit) (Enm×Bool)):=fun a=>(br (decide ((a:Int)<(c.length:Int))) (ix c a fun b=>wg<|wg<|cf Tryz.prog 1 [.agg ((Bs b).map .d)] (d b) (fun y=>vB y) fun e=>br e (wg<|wg<|Ap MR nG (b,true)) (vs (wa a 1)<|ln (iJ c) (a+1))) (Ah (X7) ()):PT 0 _).m
def TO(a:List Enm)(b:Enm→Option Bool):Option (Enm×Bool):=(lc (Ab [(0,vL Bs a),(1,.fn (.yield 1) [] []),pp 4] [NW]) ((vz (Ag a)<|lc (Ab [(1,.fn (.yield 1) [] []),pp 4,(9,vL Bs a),(10,vN a.length),(11,vI 0)] [NW]) ((Ak (LZ a b) Aj 0).bind (Sum.elim (fun _=>(wg<|wg<|lr MR nG ((.mk ⟨#[]⟩ false [] [] []:Enm),false):PT 0 _).m) some)):PT 0 _).m):PT 0 _).m
theorem tx{C:Cx}(co:CO C 0)(c:List Enm)(a:Enm→Option Bool)(e:(XE a) C.no C.l C.H0 C.θ):KL Tryz.prog (Ar tl) 21 C (pa [0,0,1,0,1] (As Tryz.f66)) [.cell 4 68,.tmp 5] 0 (iJ c) (X7) MR nG (LZ c a):=fun h _ m Q b d L=>eN co (Ad [1,4,9,10,11] DD) (Ad [4] DD) d m L fun r g=>⟨fun f=>⟨⟨fun y hy=>e _ y hy,by intro r;kernel_rfl,by intro r y;kernel_rfl⟩,fun i=>⟨id,id⟩⟩,id⟩
theorem nz(b:List Enm)(a:Enm→Option Bool):KO Tryz.prog 66 0 [vL Bs b,.fn (.yield 1) [] []] [] (XE a) (TO b a) MR nG:=kO Tryz.func66 Tryz.ntmps66 [.cell 4 68,.tmp 5] 0 (fun co c m L=>mJ co 1 (Ad [0,1,4] DD) nl nH m L fun r g=>fun _ m L=>sq (mJ co 1 (Ad [1,4,9,10,11] DD) nl nH m L fun r g=>fun _ m L=>bk 0 (lo (AE (tx co b a c) nH m L (fun _ m=>fO co m L)))))
abbrev Xl:Bool→AV:=fun y=>vB y
@[reducible] def Xy(w0:ByteArray):Bool→List Blk:=fun y=>[⟨0,true,9,1,[vS w0]⟩]
def Lj(a:Enm)(w0:ByteArray):Option (Bool):=(wg<|wg<|lr Xl (Xy w0) (decide (a.name=w0)):PT 1 _).m
theorem n6(a:Enm)(w0:ByteArray):KO Tryz.prog 67 1 [.agg ((Bs a).map .d),.ptr (0,0) 0 0] [⟨0,true,9,1,[vS w0]⟩] (fun _ _ _ _=>True) (Lj a w0) Xl (Xy w0):=kO Tryz.func67 Tryz.ntmps67 [.tmp 3] 1 (fun co b m L=>fO co m L)
abbrev Xc:Enm×Bool→AV:=fun y=>.tup [.agg ((Bs y.1).map .d),vB y.2]
def Ud(a:Scm)(b:ByteArray):Option (Enm×Bool):=(wg<|cs Tryz.prog 66 [vL Bs a.enums,.fn (.func 67) [] [.ptr (1,3) 1 0]] [(1,3)] [((1,3),⟨1,true,9,1,[vS b]⟩)] (TO a.enums (fun(z0:Enm)=>Lj z0 b)) (fun y=>.tup [.agg ((Bs y.1).map .d),vB y.2]) fun c=>wg<|lr Xc nG (c.1,c.2):PT 0 _).m
theorem ZX(b:Scm)(a:ByteArray):KC Tryz.prog 24 [.agg ((An b).map .d),vS a] (Ud b a) Xc:=CD Tryz.func24 Tryz.ntmps24 AJ [.cell 4 68,.tmp 5] fun C co y m c L=>fO co m L fun r g=>⟨fun y hy=>CF (nz b.enums (fun(z0:Enm)=>Lj z0 a)) hy co g [] [((1,3),⟨1,true,9,1,[vS a]⟩)] (AH [(1,.fn (.func 67) [] [.ptr (r.κ (1,3)) (r.γ (1,3)+1) 0])]) (fun f d h=>(fun z0 y e=>FZ (n6 z0 a) e co g [((1,3),⟨1,true,9,1,[vS a]⟩)] [] d (by simp) (fun _=>.top) (fun _ _=>trivial) (fun l H=>⟨fun _=>⟨rfl,by kernel_rfl⟩,by kernel_rfl,trivial⟩))) (fun H=>trivial),fun i=>id⟩
abbrev Xb:Bool→AV:=fun y=>vB y
def Ua(a:Int):Option (Bool):=(lr Xb nG (decide ((1:Int)≤a)&&decide (a≤(9:Int))):PT 0 _).m
theorem NB(a:Int):KC Tryz.prog 23 [vI a] (Ua a) Xb:=kC Tryz.func23 Tryz.ntmps23 [.tmp 2] fun co m L=>fO co m L
abbrev ZZ:Bool→AV:=fun y=>vB y
def bM(b:ByteArray)(a:ByteArray):Option (Bool):=(vz (A1 b.size)<|vz (A1 a.size)<|vy (decide ((a.size:Int)≤(b.size:Int))) (A1 a.size)<|kK (decide ((a.size:Int)≤(b.size:Int))) b .no (.nt a.size) fun s1=>lr ZZ nG (decide ((a.size:Int)≤(b.size:Int))&&decide (s1=a)):PT 0 _).m
theorem mG(a:ByteArray)(b:ByteArray):KC Tryz.prog 219 [vS a,vS b] (bM a b) ZZ:=kC Tryz.func219 Tryz.ntmps219 [.tmp 4] fun co m L=>fO co m L
abbrev ZD:Bool→AV:=fun y=>vB y
def TU(a:ByteArray)(b:ByteArray):Option (Bool):=(cl (mG a b) fun c=>lr ZD nG c:PT 0 _).m
theorem lB(a:ByteArray)(b:ByteArray):KC Tryz.prog 200 [vS a,vS b] (TU a b) ZD:=kC Tryz.func200 Tryz.ntmps200 [.tmp 4] fun co m L=>fO co m L
abbrev a2:Bool→AV:=fun y=>vB y
def Uc(b:ByteArray)(c:Int)(a:Int):Option (Bool):=(kK (decide (a=(65533:Int))) b (.it c) .no fun s1=>AA (decide (a=(65533:Int))) (lB s1 (⟨#[239,191,189]⟩)) fun d=>lr a2 nG (decide (a=(65533:Int))&&(!d)):PT 0 _).m
theorem lH(a:ByteArray)(b:Int)(c:Int):KC Tryz.prog 166 [vS a,vI b,.d (.int .i32 c)] (Uc a b c) a2:=kC Tryz.func166 Tryz.ntmps166 [.tmp 6] fun co m L=>fO co m L
abbrev Nr:Int→AV:=fun y=>vI y
def fZ(a:ByteArray):Nat→St:=fun b=>Ab [(0,vS a),pp 6] [kk 6 (.s a b) 0 []]
def h9:Unit→Nat×St:=fun _=>(0,Ab [] [])
def Ph(b:ByteArray):Nat→Option (Lv (Nat) (Unit) (Int)):=fun a=>(br (decide (a<b.size)) (wg<|cl (lH b (a:Int) (Hm b a)) fun c=>br c (Ap Nr nG (a:Int)) (ln (fZ b) (a+DI b a))) (wg<|Ah (h9) ()):PT 0 _).m
def dg(a:ByteArray):Option (Int):=(lc (Ab [(0,vS a)] []) ((lc (Ab [(0,vS a),pp 6] [kk 6 (.s a 0) 0 []]) ((Ak (Ph a) Aj 0).bind (Sum.elim (fun _=>(lr Nr nG (-1):PT 0 _).m) some)):PT 0 _).m):PT 0 _).m
theorem rK{C:Cx}(co:CO C 0)(b:ByteArray):KL Tryz.prog (Ar tl) 16 C (pa [0,0,1,0,1] (As Tryz.f126)) [.tmp 2] 0 (fZ b) (h9) Nr nG (Ph b):=fun d _ m Q a c L=>eN co (Ad [0,6] [((1,6),false)]) nl c m L
theorem mB(a:ByteArray):KC Tryz.prog 126 [vS a] (dg a) Nr:=kC Tryz.func126 Tryz.ntmps126 [.tmp 2] fun co m L=>mJ co 1 (AI [0]) nl nH m L fun r g=>fun _ m L=>sq (mJ co 1 (Ad [0,6] [((1,6),false)]) nl nH m L fun r g=>fun _ m L=>bk 0 (lo (AE (rK co a) nH m L (fun _ m=>fO co m L))))
abbrev Xm:Bool→AV:=fun y=>vB y
def Ub(a:ByteArray):Option (Bool):=(cl (mB a) fun b=>lr Xm nG (decide (b<(0:Int))):PT 0 _).m
theorem az(a:ByteArray):KC Tryz.prog 68 [vS a] (Ub a) Xm:=kC Tryz.func68 Tryz.ntmps68 [.tmp 2] fun co m L=>fO co m L
abbrev ay:Bool→AV:=fun y=>vB y
def Oo(a:Int):Option (Bool):=(lr ay nG (decide (a=(7:Int))||decide (a=(8:Int))):PT 0 _).m
theorem jA(a:Int):KC Tryz.prog 155 [vI a] (Oo a) ay:=kC Tryz.func155 Tryz.ntmps155 [.tmp 2] fun co m L=>fO co m L
abbrev NP:Bool→AV:=fun y=>vB y
def TX(a:Val):Option (Bool):=(wg<|vz (Ag a.list)<|wg<|vz (Ag a.pairs)<|vs (wa a.list.length a.pairs.length)<|wg<|vz (Ag a.slots)<|vs (wa (a.list.length+a.pairs.length) a.slots.length)<|wg<|vz (Ag a.raws)<|vs (wa ((a.list.length+a.pairs.length)+a.slots.length) a.raws.length)<|br (decide ((0:Int)<((((a.list.length+a.pairs.length)+a.slots.length)+a.raws.length:Nat):Int))) (lr NP nG false) (wg<|cl (jA a.kind) fun b=>br b (wg<|lr NP nG (decide (a.bits=(0:Int)))) (wg<|lr NP nG (decide (a.text=(⟨#[]⟩:ByteArray))))):PT 0 _).m
theorem iM(a:Val):KC Tryz.prog 110 [.agg ((Ai a).map .d)] (TX a) NP:=kC Tryz.func110 Tryz.ntmps110 [.tmp 2] fun co m L=>fO co m L
abbrev JP:Bool→AV:=fun y=>vB y
def T7(b:Int)(a:Int):Option (Bool):=(br (decide (b=(1:Int))) (lr JP nG (decide (a≤(1:Int)))) (br (decide (b=(2:Int))) (vz (wk .i64 a)<|vy (decide (((-2147483648):Int)≤(IntKind.i64.wrap a))) (wk .i64 a)<|lr JP nG (decide (((-2147483648):Int)≤(IntKind.i64.wrap a))&&decide ((IntKind.i64.wrap a)≤(2147483647:Int)))) (br (decide (b=(9:Int))) (lr JP nG (decide (a≤(2147483647:Int)))) (br (decide (b=(4:Int))) (lr JP nG (decide (a≤(4294967295:Int)))) (lr JP nG true)))):PT 0 _).m
theorem mm(a:Int)(b:Int):KC Tryz.prog 111 [vI a,.d (.int .u64 b)] (T7 a b) JP:=kC Tryz.func111 Tryz.ntmps111 [.tmp 4] fun co m L=>fO co m L
abbrev Q1:Bool→AV:=fun y=>vB y
def T0(b:Int)(a:Val):Option (Bool):=(cl (NB b) fun c=>wg<|wg<|AA (!((!c)||(!decide (a.kind=b)))) (iM a) fun d=>wg<|AA (!(((!c)||(!decide (a.kind=b)))||(!d))) (mm b a.bits) fun e=>wg<|vy (!((((!c)||(!decide (a.kind=b)))||(!d))||(!e))) (A1 a.text.size)<|br (((((!c)||(!decide (a.kind=b)))||(!d))||(!e))||decide ((4096:Int)<(a.text.size:Int))) (lr Q1 nG false) (wg<|AA (!(!decide (b=(7:Int)))) (az a.text) fun f=>lr Q1 nG ((!decide (b=(7:Int)))||f)):PT 0 _).m
theorem SE(a:Int)(b:Val):KC Tryz.prog 55 [vI a,.agg ((Ai b).map .d)] (T0 a b) Q1:=kC Tryz.func55 Tryz.ntmps55 [.tmp 4] fun co m L=>fO co m L
abbrev NN:Int→AV:=fun y=>vI y
def ak(a:Itm→Option Bool):Cl:=fun no l H θ=>(∀(z0:Itm) y,a z0=some y→BA Tryz.prog l no H (θ 1) [.agg ((Cc z0).map .d)] (vB y))
def fP(a:List Itm):Nat→St:=fun b=>Ab [(0,vL Cc a),(1,.fn (.yield 1) [] []),(7,vN a.length),(8,vN b)] []
def fQ:Unit→Nat×St:=fun _=>(0,Ab [] [])
def LM(b:List Itm)(c:Itm→Option Bool):Nat→Option (Lv (Nat) (Unit) (Int)):=fun a=>(br (decide ((a:Int)<(b.length:Int))) (ix b a fun d=>cf Tryz.prog 1 [.agg ((Cc d).map .d)] (c d) (fun y=>vB y) fun e=>br e (Ap NN nG (a:Int)) (vs (wa a 1)<|ln (fP b) (a+1))) (Ah (fQ) ()):PT 0 _).m
def TQ(a:List Itm)(b:Itm→Option Bool):Option (Int):=(lc (Ab [(0,vL Cc a),(1,.fn (.yield 1) [] [])] []) ((vz (Ag a)<|lc (Ab [(0,vL Cc a),(1,.fn (.yield 1) [] []),(7,vN a.length),(8,vI 0)] []) ((Ak (LM a b) Aj 0).bind (Sum.elim (fun _=>(lr NN nG (-1):PT 0 _).m) some)):PT 0 _).m):PT 0 _).m
theorem sA{C:Cx}(co:CO C 0)(c:List Itm)(a:Itm→Option Bool)(e:(ak a) C.no C.l C.H0 C.θ):KL Tryz.prog (Ar tl) 19 C (pa [0,0,1,0,1] (As Tryz.f167)) [.tmp 4] 0 (fP c) (fQ) NN nG (LM c a):=fun h _ m Q b d L=>eN co (AI [0,1,7,8]) nl d m L fun r g=>⟨fun f=>⟨⟨fun y hy=>e _ y hy,by intro r;kernel_rfl,by intro r y;kernel_rfl⟩,fun i=>⟨id,id⟩⟩,id⟩
theorem l4(b:List Itm)(a:Itm→Option Bool):KO Tryz.prog 167 0 [vL Cc b,.fn (.yield 1) [] []] [] (ak a) (TQ b a) NN nG:=kO Tryz.func167 Tryz.ntmps167 [.tmp 4] 0 (fun co c m L=>mJ co 1 (AI [0,1]) nl nH m L fun r g=>fun _ m L=>sq (mJ co 1 (AI [0,1,7,8]) nl nH m L fun r g=>fun _ m L=>bk 0 (lo (AE (sA co b a c) nH m L (fun _ m=>fO co m L)))))
abbrev ZG:Bool→AV:=fun y=>vB y
def nR(a:Itm→Option Bool):Cl:=fun no l H θ=>(∀(z0:Itm) y,a z0=some y→BA Tryz.prog l no H (θ 1) [.agg ((Cc z0).map .d)] (vB y))
def Om(b:List Itm)(a:Itm→Option Bool):Option (Bool):=(cs Tryz.prog 167 [vL Cc b,.fn (.yield 1) [] []] [] [] (TQ b a) (fun y=>vI y) fun c=>lr ZG nG (decide ((0:Int)≤c)):PT 0 _).m
theorem l5(b:List Itm)(a:Itm→Option Bool):KO Tryz.prog 127 0 [vL Cc b,.fn (.yield 1) [] []] [] (nR a) (Om b a) ZG nG:=C1 Tryz.func127 Tryz.ntmps127 AJ [.tmp 4] 0 (fun C co d y m c L=>fO co m L fun r g=>⟨fun y hy=>CF (l4 b a) hy co g [] [] (AH [(1,r.θ 1)]) (fun h i e=>(fun z0 y f=>Fb co g [] e (d z0 y f))) (fun H=>trivial),fun j=>id⟩)
abbrev bm:Bool→AV:=fun y=>vB y
@[reducible] def ac(w0:Int):Bool→List Blk:=fun y=>[⟨0,true,27,1,[.d (.int .u64 w0)]⟩]
def Oj(a:Itm)(w0:Int):Option (Bool):=(wg<|vz (wk .u64 a.num)<|wg<|lr bm (ac w0) (decide ((IntKind.u64.wrap a.num)=w0)):PT 1 _).m
theorem lF(a:Itm)(w0:Int):KO Tryz.prog 128 1 [.agg ((Cc a).map .d),.ptr (0,0) 0 0] [⟨0,true,27,1,[.d (.int .u64 w0)]⟩] (fun _ _ _ _=>True) (Oj a w0) bm (ac w0):=kO Tryz.func128 Tryz.ntmps128 [.tmp 3] 1 (fun co b m L=>fO co m L)
abbrev Xn:Bool→AV:=fun y=>vB y
def TL(a:Enm)(b:Int):Option (Bool):=(wg<|wg<|DH (!a.opn) Tryz.prog 127 [vL Cc a.items,.fn (.func 128) [] [.ptr (1,3) 1 0]] [(1,3)] [((1,3),⟨1,true,27,1,[.d (.int .u64 b)]⟩)] (Om a.items (fun(z0:Itm)=>Oj z0 b)) (fun y=>vB y) fun c=>lr Xn nG (a.opn||c):PT 0 _).m
theorem bC(b:Enm)(a:Int):KC Tryz.prog 69 [.agg ((Bs b).map .d),.d (.int .u64 a)] (TL b a) Xn:=CD Tryz.func69 Tryz.ntmps69 AJ [.tmp 4] fun C co y m c L=>fO co m L fun r g=>⟨fun y hy=>CF (l5 b.items (fun(z0:Itm)=>Oj z0 a)) hy co g [] [((1,3),⟨1,true,27,1,[.d (.int .u64 a)]⟩)] (AH [(1,.fn (.func 128) [] [.ptr (r.κ (1,3)) (r.γ (1,3)+1) 0])]) (fun f d h=>(fun z0 y e=>FZ (lF z0 a) e co g [((1,3),⟨1,true,27,1,[.d (.int .u64 a)]⟩)] [] d (by simp) (fun _=>.top) (fun _ _=>trivial) (fun l H=>⟨fun _=>⟨rfl,by kernel_rfl⟩,by kernel_rfl,trivial⟩))) (fun H=>trivial),fun i=>id⟩
abbrev HB:Int→AV:=fun y=>vI y
def Ug(c:Scm)(a:Typ)(b:Val):Option (Int):=(wg<|wg<|wg<|AA (!(!decide (b.kind=a.kind))) (NU b) fun d=>br ((!decide (b.kind=a.kind))||d) (lr HB nG 12) (wg<|vz (A1 b.text.size)<|br (decide ((4096:Int)<(b.text.size:Int))) (lr HB nG 3) (wg<|wg<|AA (decide (a.kind=(7:Int))) (az b.text) fun e=>br (decide (a.kind=(7:Int))&&(!e)) (lr HB nG 7) (wg<|wg<|cl (SE a.kind b) fun f=>br (!f) (lr HB nG 12) (wg<|wg<|cl (ZX c a.name) fun g=>wg<|wg<|wg<|wg<|AA (decide (a.kind=(9:Int))) (bC g.1 b.bits) fun h=>br (decide (a.kind=(9:Int))&&(!h)) (lr HB nG 16) (lr HB nG 0))))):PT 0 _).m
theorem ZW(a:Scm)(b:Typ)(c:Val):KC Tryz.prog 25 [.agg ((An a).map .d),.agg ((De b).map .d),.agg ((Ai c).map .d)] (Ug a b c) HB:=kC Tryz.func25 Tryz.ntmps25 [.tmp 6] fun co m L=>fO co m L
abbrev NZ:Int→AV:=fun y=>vI y
def aF(a:Pr→Option Bool):Cl:=fun no l H θ=>(∀(z0:Pr) y,a z0=some y→BA Tryz.prog l no H (θ 1) [.agg ((B6 z0).map .d)] (vB y))
def gM(a:List Pr):Nat→St:=fun b=>Ab [(0,vL Av a),(1,.fn (.yield 1) [] []),(7,vN a.length),(8,vN b)] []
def fT:Unit→Nat×St:=fun _=>(0,Ab [] [])
def LR(b:List Pr)(c:Pr→Option Bool):Nat→Option (Lv (Nat) (Unit) (Int)):=fun a=>(br (decide ((a:Int)<(b.length:Int))) (ix b a fun d=>cf Tryz.prog 1 [.agg ((B6 d).map .d)] (c d) (fun y=>vB y) fun e=>br e (Ap NZ nG (a:Int)) (vs (wa a 1)<|ln (gM b) (a+1))) (Ah (fT) ()):PT 0 _).m
def TR(a:List Pr)(b:Pr→Option Bool):Option (Int):=(lc (Ab [(0,vL Av a),(1,.fn (.yield 1) [] [])] []) ((vz (Ag a)<|lc (Ab [(0,vL Av a),(1,.fn (.yield 1) [] []),(7,vN a.length),(8,vI 0)] []) ((Ak (LR a b) Aj 0).bind (Sum.elim (fun _=>(lr NZ nG (-1):PT 0 _).m) some)):PT 0 _).m):PT 0 _).m
theorem ry{C:Cx}(co:CO C 0)(c:List Pr)(a:Pr→Option Bool)(e:(aF a) C.no C.l C.H0 C.θ):KL Tryz.prog (Ar tl) 19 C (pa [0,0,1,0,1] (As Tryz.f220)) [.tmp 4] 0 (gM c) (fT) NZ nG (LR c a):=fun h _ m Q b d L=>eN co (AI [0,1,7,8]) nl d m L fun r g=>⟨fun f=>⟨⟨fun y hy=>e _ y hy,by intro r;kernel_rfl,by intro r y;kernel_rfl⟩,fun i=>⟨id,id⟩⟩,id⟩
theorem lL(b:List Pr)(a:Pr→Option Bool):KO Tryz.prog 220 0 [vL Av b,.fn (.yield 1) [] []] [] (aF a) (TR b a) NZ nG:=kO Tryz.func220 Tryz.ntmps220 [.tmp 4] 0 (fun co c m L=>mJ co 1 (AI [0,1]) nl nH m L fun r g=>fun _ m L=>sq (mJ co 1 (AI [0,1,7,8]) nl nH m L fun r g=>fun _ m L=>bk 0 (lo (AE (ry co b a c) nH m L (fun _ m=>fO co m L)))))
abbrev aV:Bool→AV:=fun y=>vB y
def n9(a:Pr→Option Bool):Cl:=fun no l H θ=>(∀(z0:Pr) y,a z0=some y→BA Tryz.prog l no H (θ 1) [.agg ((B6 z0).map .d)] (vB y))
def K8(b:List Pr)(a:Pr→Option Bool):Option (Bool):=(cs Tryz.prog 220 [vL Av b,.fn (.yield 1) [] []] [] [] (TR b a) (fun y=>vI y) fun c=>lr aV nG (decide ((0:Int)≤c)):PT 0 _).m
theorem lx(b:List Pr)(a:Pr→Option Bool):KO Tryz.prog 204 0 [vL Av b,.fn (.yield 1) [] []] [] (n9 a) (K8 b a) aV nG:=C1 Tryz.func204 Tryz.ntmps204 AJ [.tmp 4] 0 (fun C co d y m c L=>fO co m L fun r g=>⟨fun y hy=>CF (lL b a) hy co g [] [] (AH [(1,r.θ 1)]) (fun h i e=>(fun z0 y f=>Fb co g [] e (d z0 y f))) (fun H=>trivial),fun j=>id⟩)
abbrev Xu:Bool→AV:=fun y=>vB y
def b8(a:Int):Option (Bool):=(lr Xu nG (!decide (a=a)):PT 0 _).m
theorem bo(a:Int):KC Tryz.prog 96 [vI a] (b8 a) Xu:=kC Tryz.func96 Tryz.ntmps96 [.tmp 2] fun co m L=>fO co m L
abbrev HC:Int→AV:=fun y=>vI y
def TN(a:Int)(b:Int):Option (Int):=(cl (bo a) fun d=>cl (bo b) fun c=>br d (br c (lr HC nG 0) (lr HC nG (-1))) (br c (lr HC nG 1) (br (decide (a<b)) (lr HC nG (-1)) (br (decide (b<a)) (lr HC nG 1) (lr HC nG 0)))):PT 0 _).m
theorem Mi(a:Int)(b:Int):KC Tryz.prog 41 [vI a,vI b] (TN a b) HC:=kC Tryz.func41 Tryz.ntmps41 [.tmp 4] fun co m L=>fO co m L
abbrev aA:Val→AV:=fun y=>.ifc 217 [(.int .i64 y.kind),(.int .u64 y.bits),(.str y.text),(.list (y.list.map AC)),(.list (y.pairs.map Av)),(.list (y.slots.map Aq)),(.list (y.raws.map A3))] true
def b7(a:Val):Option (Val):=(wg<|cl (NB a.kind) fun b=>bT b<|wg<|lr aA nG a:PT 0 _).m
theorem Ze(a:Val):KC Tryz.prog 181 [.agg ((Ai a).map .d)] (b7 a) aA:=kC Tryz.func181 Tryz.ntmps181 [.tmp 2] fun co m L=>fO co m L
abbrev aa:Bool→AV:=fun y=>vB y
def bU(a:ByteArray):Option (Bool):=(lr aa nG (!decide (a=a)):PT 0 _).m
theorem i5(a:ByteArray):KC Tryz.prog 223 [vS a] (bU a) aa:=kC Tryz.func223 Tryz.ntmps223 [.tmp 2] fun co m L=>fO co m L
abbrev If:Int→AV:=fun y=>vI y
def Td(a:ByteArray)(b:ByteArray):Option (Int):=(cl (i5 a) fun d=>cl (i5 b) fun c=>br d (br c (lr If nG 0) (lr If nG (-1))) (br c (lr If nG 1) (br (BG a b) (lr If nG (-1)) (br (!(BG a b||decide (a=b))) (lr If nG 1) (lr If nG 0)))):PT 0 _).m
theorem lh(a:ByteArray)(b:ByteArray):KC Tryz.prog 211 [vS a,vS b] (Td a b) If:=kC Tryz.func211 Tryz.ntmps211 [.tmp 4] fun co m L=>fO co m L
abbrev ZC:Bool→AV:=fun y=>vB y
def bS(a:Int):Option (Bool):=(lr ZC nG (!decide (a=a)):PT 0 _).m
theorem j6(a:Int):KC Tryz.prog 224 [.d (.int .u64 a)] (bS a) ZC:=kC Tryz.func224 Tryz.ntmps224 [.tmp 2] fun co m L=>fO co m L
abbrev Io:Int→AV:=fun y=>vI y
def Tf(a:Int)(b:Int):Option (Int):=(cl (j6 a) fun d=>cl (j6 b) fun c=>br d (br c (lr Io nG 0) (lr Io nG (-1))) (br c (lr Io nG 1) (br (decide (a<b)) (lr Io nG (-1)) (br (decide (b<a)) (lr Io nG 1) (lr Io nG 0)))):PT 0 _).m
theorem je(a:Int)(b:Int):KC Tryz.prog 212 [.d (.int .u64 a),.d (.int .u64 b)] (Tf a b) Io:=kC Tryz.func212 Tryz.ntmps212 [.tmp 4] fun co m L=>fO co m L
abbrev Kg:Int→AV:=fun y=>vI y
def T8(a:Int):Option (Int):=(vz (W8 .u64 a (9218868437227405312:Int))<|vz (W8 .u64 a (4503599627370495:Int))<|br (decide ((Cu .u64 a (9218868437227405312:Int))=(9218868437227405312:Int))&&(!decide ((Cu .u64 a (4503599627370495:Int))=(0:Int)))) (lr Kg nG 0) (br (decide ((Cu .u64 a (9218868437227405312:Int))=(9218868437227405312:Int))) (lr Kg nG 1) (br (decide ((Cu .u64 a (9218868437227405312:Int))=(0:Int))&&decide ((Cu .u64 a (4503599627370495:Int))=(0:Int))) (lr Kg nG 2) (br (decide ((Cu .u64 a (9218868437227405312:Int))=(0:Int))) (lr Kg nG 3) (lr Kg nG 4)))):PT 0 _).m
theorem jo(a:Int):KC Tryz.prog 145 [.d (.int .u64 a)] (T8 a) Kg:=kC Tryz.func145 Tryz.ntmps145 [.tmp 2] fun co m L=>fO co m L
abbrev Nl:Int→AV:=fun y=>.d (.int .u64 y)
def T3(a:Int):Option (Int):=(cl (jo a) fun b=>br (decide (b=(0:Int))) (lr Nl nG 18446744073709551615) (vz (W8 .u64 a (9223372036854775808:Int))<|br (!decide ((Cu .u64 a (9223372036854775808:Int))=(0:Int))) (vz (w4 .u64 a)<|lr Nl nG (Hk .u64 a)) (vz (w5 .u64 a (9223372036854775808:Int))<|lr Nl nG (ET .u64 a (9223372036854775808:Int)))):PT 0 _).m
theorem Zu(a:Int):KC Tryz.prog 213 [.d (.int .u64 a)] (T3 a) Nl:=kC Tryz.func213 Tryz.ntmps213 [.tmp 2] fun co m L=>fO co m L
abbrev Il:Int→AV:=fun y=>vI y
def cq(a:Val)(b:Val):Option (Int):=(wg<|wg<|br (!decide (a.kind=b.kind)) (wg<|wg<|cl (Mi a.kind b.kind) fun c=>lr Il nG c) (wg<|cl (NB a.kind) fun d=>br (!d) (lr Il nG 0) (wg<|cl (jA a.kind) fun e=>br e (wg<|wg<|cl (lh a.text b.text) fun f=>lr Il nG f) (wg<|wg<|br (decide (a.kind=(2:Int))||decide (a.kind=(3:Int))) (wg<|vz (wk .i64 a.bits)<|wg<|vz (wk .i64 b.bits)<|cl (Mi (IntKind.i64.wrap a.bits) (IntKind.i64.wrap b.bits)) fun g=>lr Il nG g) (wg<|br (decide (a.kind=(6:Int))) (wg<|cl (Zu a.bits) fun h=>wg<|cl (Zu b.bits) fun i=>cl (je h i) fun j=>lr Il nG j) (wg<|wg<|cl (je a.bits b.bits) fun k=>lr Il nG k))))):PT 0 _).m
theorem mC(a:Val)(b:Val):KC Tryz.prog 182 [.agg ((Ai a).map .d),.agg ((Ai b).map .d)] (cq a b) Il:=kC Tryz.func182 Tryz.ntmps182 [.tmp 4] fun co m L=>fO co m L
abbrev R8:Int→AV:=fun y=>vI y
def T9(b:Val)(a:Val):Option (Int):=(wg<|wg<|br (!decide (b.kind=a.kind)) (wg<|wg<|cl (Mi b.kind a.kind) fun c=>lr R8 nG c) (wg<|cl (Ze a) fun f=>wg<|cl (Ze b) fun d=>wg<|wg<|wg<|wg<|cl (mC d a) fun e=>lr R8 nG e):PT 0 _).m
theorem iH(a:Val)(b:Val):KC Tryz.prog 143 [.agg ((Ai a).map .d),.agg ((Ai b).map .d)] (T9 a b) R8:=kC Tryz.func143 Tryz.ntmps143 [.tmp 4] fun co m L=>fO co m L
abbrev aK:Bool→AV:=fun y=>vB y
def On(a:Val)(b:Val):Option (Bool):=(wg<|wg<|cl (iH a b) fun c=>lr aK nG (decide (c=(0:Int))):PT 0 _).m
theorem jt(a:Val)(b:Val):KC Tryz.prog 144 [.agg ((Ai a).map .d),.agg ((Ai b).map .d)] (On a b) aK:=kC Tryz.func144 Tryz.ntmps144 [.tmp 4] fun co m L=>fO co m L
abbrev aX:Bool→AV:=fun y=>vB y
@[reducible] def ZS(w0:Pr):Bool→List Blk:=fun y=>[⟨0,true,57,14,(cD (B6 w0))⟩]
def La(a:Pr)(w0:Pr):Option (Bool):=(wg<|wg<|cl (jt a.key w0.key) fun b=>lr aX (ZS w0) b:PT 1 _).m
theorem lS(a:Pr)(w0:Pr):KO Tryz.prog 205 1 [.agg ((B6 a).map .d),.ptr (0,0) 0 0] [⟨0,true,57,14,(cD (B6 w0))⟩] (fun _ _ _ _=>True) (La a w0) aX (ZS w0):=kO Tryz.func205 Tryz.ntmps205 [.tmp 3] 1 (fun co b m L=>fO co m L)
abbrev ZL:Bool→AV:=fun y=>vB y
def Um(d:Scm)(a:Fld)(b:Raw):Option (Bool):=(wg<|wg<|cl (ZX d a.type.name) fun c=>wg<|wg<|wg<|wg<|wg<|wg<|wg<|AA ((((c.2&&decide (a.type.kind=(9:Int)))&&(!decide (a.card=(5:Int))))&&decide (b.wire=(0:Int)))&&decide (b.bits<(2147483648:Int))) (bC c.1 b.bits) fun e=>lr ZL nG (((((c.2&&decide (a.type.kind=(9:Int)))&&(!decide (a.card=(5:Int))))&&decide (b.wire=(0:Int)))&&decide (b.bits<(2147483648:Int)))&&(!e)):PT 0 _).m
theorem lw(a:Scm)(b:Fld)(c:Raw):KC Tryz.prog 121 [.agg ((An a).map .d),.agg ((Am b).map .d),.agg ((A3 c).map .d)] (Um a b c) ZL:=kC Tryz.func121 Tryz.ntmps121 [.tmp 6] fun co m L=>fO co m L
abbrev Kv:Int→AV:=fun y=>vI y
def Uf(c:Scm)(d:Msg)(a:Raw):Option (Int):=(wg<|wg<|wg<|cl (SZ d a.num) fun b=>wg<|wg<|wg<|wg<|wg<|br (((decide (a.num<(1:Int))||decide ((65535:Int)<a.num))||decide (a.wire<(0:Int)))||decide ((6:Int)<a.wire)) (lr Kv nG 1) (wg<|wg<|wg<|wg<|wg<|AA ((!((decide (a.wire≤(2:Int))&&(!decide (a.data=(⟨#[]⟩:ByteArray))))||((!(decide (a.wire≤(2:Int))))&&(!decide (a.bits=(0:Int))))))&&b.2) (lw c b.1 a) fun e=>br (((decide (a.wire≤(2:Int))&&(!decide (a.data=(⟨#[]⟩:ByteArray))))||((!(decide (a.wire≤(2:Int))))&&(!decide (a.bits=(0:Int)))))||(b.2&&(!e))) (lr Kv nG 1) (wg<|wg<|vy (decide (a.wire=(3:Int))) (A1 a.data.size)<|wg<|vy (!(decide (a.wire=(3:Int))&&decide ((4096:Int)<(a.data.size:Int)))) (A1 a.data.size)<|br ((decide (a.wire=(3:Int))&&decide ((4096:Int)<(a.data.size:Int)))||decide ((65536:Int)<(a.data.size:Int))) (lr Kv nG 3) (lr Kv nG 0))):PT 0 _).m
theorem n8(a:Scm)(b:Msg)(c:Raw):KC Tryz.prog 63 [.agg ((An a).map .d),.agg ((AG b).map .d),.agg ((A3 c).map .d)] (Uf a b c) Kv:=kC Tryz.func63 Tryz.ntmps63 [.tmp 6] fun co m L=>fO co m L
abbrev Fw:Int→AV:=fun y=>vI y
abbrev K2:List (Aa×Bool):=[((1,5),false),((1,11),false)]
abbrev Ic(a:Fld×Bool):Aa×Blk:=kk 11 53 16 (cD (Am a.1))
abbrev JZ(a:Scm):Aa×Blk:=kk 5 26 3 (cD (An a))
abbrev IH:Int→AV:=fun y=>vI y
def jN(b:Scm)(c:List Slt)(d:Int)(e:Int)(g:Fld×Bool)(a:List Fld):Nat→St:=fun f=>Ab [(2,vL Aq c),(3,vI d),(4,vI e),pp 5,pp 11,(35,vL Am a),(36,vN a.length),(37,vN f)] [(JZ b),(Ic g)]
def kf(a:Scm)(b:List Slt)(c:Int)(d:Int)(e:Fld×Bool):Unit→Nat×St:=fun _=>(0,Ab [(2,vL Aq b),(3,vI c),(4,vI d),pp 5,pp 11] [(JZ a),(Ic e)])
abbrev BS:=Scm→Fld→Val→Int→Option (Int)
def Jq(i:Scm)(d:List Slt)(e:Int)(j:Int)(g:BS)(b:Fld×Bool)(f:List Fld):Nat→Option (Lv (Nat) (Unit) (Int)):=fun c=>(br (decide ((c:Int)<(f.length:Int))) (ix f c fun a=>wg<|wg<|wg<|wQ (!decide (a.num=b.1.num)) d .no (.it e) fun h=>DH (!decide (a.num=b.1.num)) Tryz.prog 61 [vL Aq h,.fn (.func 117) [] [.ptr (1,14) 1 0]] [(1,14)] [((1,14),⟨1,true,53,16,(cD (Am a))⟩)] (Oy h a) (fun y=>vB y) fun k=>br ((!decide (a.num=b.1.num))&&k) (Ap IH nG 15) (vs (wa c 1)<|ln (jN i d e j b f) (c+1))) (Ah (kf i d e j b) ()):PT 0 _).m
def Ww(e:Scm)(h:Msg)(c:List Slt)(d:Int)(f:Int)(b:BS):PT 0 (Int):=vw (.fzb 6 [6])<|vw .sep<|CZ c d fun l=>du (cl (SZ h l.num) fun a=>wg<|lc (Ab [(2,vL Aq c),(3,vI d),(4,vI f),pp 5,(6,.iptr (AG h) 0),pp 11,(12,vB a.2)] [(JZ e),(Ic a)]) ((br (!a.2) (lr IH nG 8) (sL c .no (.it d) fun k=>cs Tryz.prog 61 [vL Aq k,.fn (.func 115) [] [.ptr (1,11) 0 0]] [(1,11)] [(Ic a)] (Ow k a.1) (fun y=>vB y) fun m=>br m (lr IH nG 9) (lc (Ab [(2,vL Aq c),(3,vI d),(4,vI f),pp 5,(6,.iptr (AG h) 0),pp 11] [(JZ e),(Ic a)]) ((wg<|cl (lR h a.1.union) fun i=>vz (Ag i)<|lc (Ab [(2,vL Aq c),(3,vI d),(4,vI f),pp 5,pp 11,(35,vL Am i),(36,vN i.length),(37,vI 0)] [(JZ e),(Ic a)]) ((Ak (Jq e c d f b a i) Aj 0).bind (Sum.elim (fun _=>(wg<|wg<|CZ c d fun g=>cs Tryz.prog 118 [.agg ((An e).map .d),.agg ((Am a.1).map .d),.agg ((Ai g.val).map .d),vI f] [] [] (b e a.1 g.val f) (fun y=>vI y) fun j=>lr IH nG j:PT 0 _).m) some)):PT 0 _).m))):PT 0 _).m))
def OK(a:BS)(b:Scm)(c:Msg)(d:List Slt)(e:Int)(f:Int):Option (Int):=(lc (Ab [(2,vL Aq d),(3,vI e),(4,vI f),pp 5,pp 6] [(JZ b),kk 6 47 5 (cD (AG c))]) ((Ww b c d e f a).m):PT 0 _).m
abbrev EG(a:BS):Prop:=∀(b:Scm) (c:Fld) (d:Val) (e:Int),KC Tryz.prog 118 [.agg ((An b).map .d),.agg ((Am c).map .d),.agg ((Ai d).map .d),vI e] (a b c d e) Fw
theorem u7{C:Cx}(co:CO C 0)(b:Scm)(c:List Slt)(d:Int)(e:Int)(a:BS)(f:Fld×Bool)(j:List Fld)(n:EG a):KL Tryz.prog (Ar tl) 63 C (pa [0,0,1,0,1,1,1,1] (As Tryz.f60)) [.tmp 10] 0 (jN b c d e f j) (kf b c d e f) IH nG (Jq b c d e a f j):=fun o _ m Q h k L=>eN co (Ad [2,3,4,5,11,35,36,37] K2) (Ad [2,3,4,5,11] K2) k m L fun r g=>⟨fun i=>fun l=>⟨fun y hy=>s6 (k7 l i) hy co g [((1,14),⟨1,true,53,16,(cD (Am i))⟩)] [],fun p=>⟨id,id⟩⟩,id⟩
theorem Sn(a:BS)(f:EG a)(c:Scm)(j:Msg)(h:List Slt)(i:Int)(d:Int):KC Tryz.prog 60 [.agg ((An c).map .d),.agg ((AG j).map .d),vL Aq h,vI i,vI d] (OK a c j h i d) IH:=CD Tryz.func60 Tryz.ntmps60 AJ [.tmp 10] fun C co y m k L=>mJ co 1 (Ad [2,3,4,5,6] [((1,5),false),((1,6),false)]) nl nH m L fun r g=>fun _ m L=>sq (Fx co AJ BL (.fst 0 (.fst 1 (.fst 2 (.fst 3 (.fst 4 (.fst 5 (.two 6 10 (.fst 7 (.fst 8 (.fst 9 (.fst 10 (.fst 11 (.fst 12 .nil)))))) (.fst 6 (.fst 7 (.fst 8 (.fst 9 (.fst 11 (.fst 12 .nil))))))))))))) [6] (Ww c j h i d a) (Ad [2,3,4,5,6,11,12] K2) m L fun r g=>fun q=>fun e=>fun _ m L=>mJ co 2 (Ad [2,3,4,5,6,11] K2) nl nH m L fun r g=>⟨id,fun n=>⟨fun y hy=>s6 (vT n e.1) hy co g [(Ic e)] [],fun s=>⟨id,fun _ m L=>sq (mJ co 1 (Ad [2,3,4,5,11,35,36,37] K2) nl nH m L fun r g=>fun p=>fun _ m L=>bk 0 (lo (AE (u7 co c h i d a e p f) nH m L (fun _ m=>fO co m L fun r g=>fun b=>⟨fun y hy l _ _=>by rw[(f c e.1 b.val d).x,(f c e.1 b.val d).e];exact(f c e.1 b.val d).k _ l y hy,fun o=>id⟩))))⟩⟩⟩)
end Go.Proofs.YtopncadjpnkjhaaGreatDoor
