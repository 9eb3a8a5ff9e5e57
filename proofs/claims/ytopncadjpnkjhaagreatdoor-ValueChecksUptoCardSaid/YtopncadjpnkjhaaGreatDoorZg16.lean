import Derived.Test.YtopncadjpnkjhaaGreatDoorZg15
import Derived.Test.YtopncadjpnkjhaaGreatDoorZg00
namespace Go.Proofs.YtopncadjpnkjhaaGreatDoor
set_option maxRecDepth 100000
set_option linter.all false
open Go Go.Eng
abbrev Dd:List (Ab×Bool):=[((1,1),false)]
abbrev JG(a:Val):Ab×Blk:=kk 1 33 7 (cD (Ae a))
abbrev Ny:List Val→AV:=fun y=>vL AF y
def hJ(a:Val):List Val×Nat→St:=fun(b,v3)=>Aa [pp 1,(3,.ref (1,10) 0 0 b.length),(12,vL Ay a.pairs),(13,vN a.pairs.length),(14,vN v3)] [(JG a),kk 10 33 7 (Ac AF b)]
def fM(b:Val):List Val→Nat×St:=fun a=>(0,Aa [pp 1,(3,.ref (1,10) 0 0 a.length)] [(JG b),kk 10 33 7 (Ac AF a)])
def Zo(c:Val)(b:List Val)(v3:Nat):PT 0 (Lv (List Val×Nat) (List Val) (List Val)):=br (decide ((v3:Int)<(c.pairs.length:Int))) (ix c.pairs v3 fun a=>wg<|wg<|wg<|vw .sep<|ZE b (a.key:Val) a.val<|vs (wa v3 1)<|vz (fl (b++([a.key,a.val])))<|ln (hJ c) (b++([a.key,a.val]),v3+1)) (vz (fl b)<|Ah (fM c) b)
def Nj(a:Val):List Val×Nat→Option (Lv (List Val×Nat) (List Val) (List Val)):=fun(b,v3)=>(Zo a b v3).m
def cq(a:Val):List Val×Nat→St:=fun(b,c)=>Aa [(3,.ref (1,10) 0 0 b.length),(27,vL At a.slots),(28,vN a.slots.length),(29,vN c)] [kk 10 33 7 (Ac AF b)]
def cN:List Val→Nat×St:=fun a=>(2,Aa [(3,.ref (1,10) 0 0 a.length)] [kk 10 33 7 (Ac AF a)])
def S3(d:Val)(a:List Val)(b:Nat):PT 0 (Lv (List Val×Nat) (List Val) (List Val)):=br (decide ((b:Int)<(d.slots.length:Int))) (ix d.slots b fun c=>wg<|wg<|vw .sep<|ap a (c.val:Val)<|vs (wa b 1)<|vz (fl (a++[c.val]))<|ln (cq d) (a++[c.val],b+1)) (vz (fl a)<|Ah (cN) a)
def Nf(a:Val):List Val×Nat→Option (Lv (List Val×Nat) (List Val) (List Val)):=fun(b,c)=>(S3 a b c).m
def gU(a:List Val):PT 0 (List Val):=vz (fr a)<|lr Ny nG a
def ec(a:Val)(b:List Val):PT 0 (List Val):=wg<|vz (Ag a.slots)<|vz (fl b)<|lc (Aa [(3,.ref (1,10) 0 0 b.length),(27,vL At a.slots),(28,vN a.slots.length),(29,vI 0)] [kk 10 33 7 (Ac AF b)]) ((Al (Nf a) Ai (b,0)).bind (Sum.elim (fun c=>(gU c).m) some))
def cP(a:Val)(b:List Val):PT 0 (List Val):=wg<|vz (Ag a.pairs)<|vz (fl b)<|lc (Aa [pp 1,(3,.ref (1,10) 0 0 b.length),(12,vL Ay a.pairs),(13,vN a.pairs.length),(14,vI 0)] [(JG a),kk 10 33 7 (Ac AF b)]) ((Al (Nj a) Ai (b,0)).bind (Sum.elim (fun c=>(ec a c).m) some))
def bM(b:Val)(a:List Val):PT 0 (List Val):=vz (fl a)<|lc (Aa [pp 1,(3,.ref (1,10) 0 0 a.length)] [(JG b),kk 10 33 7 (Ac AF a)]) ((cP b a).m)
def cU(a:Val):PT 0 (List Val):=wg<|lc (Aa [pp 1,(9,vL AF a.list)] [(JG a)]) ((Pt a.list).bind fun b=>(bM a b).m)
def fX(a:Val):PT 0 (List Val):=lc (Aa [pp 1] [(JG a)]) ((cU a).m)
def VG(a:Val):Option (List Val):=(fX a).m
theorem uZ{C:Cx}(co:CO C 0)(a:Val):KL Tryz.prog (Aq tl) 40 C (pa [0,0,1,0,1,1] (Ar Tryz.f43)) [.tmp 2] 0 (hJ a) (fM a) Ny nG (Nj a):=fun(d,v3) _ m Q b c L=>eN co (Ad [1,3,12,13,14] Fj) (Ad [1,3] Fj) c m L
theorem vm{C:Cx}(co:CO C 0)(b:Val):KL Tryz.prog (Aq tl) 40 C (pa [0,0,1,0,1,1,1] (Ar Tryz.f43)) [.tmp 2] 0 (cq b) (cN) Ny nG (Nf b):=fun(d,e) _ m Q a c L=>eN co (Ad [3,27,28,29] [((1,10),true)]) (Ad [3] [((1,10),true)]) c m L
theorem kl(a:Val):KC Tryz.prog 43 [.agg ((Ae a).map .d)] (VG a) Ny:=kC Tryz.func43 Tryz.ntmps43 [.tmp 2] fun co m L=>mJ co 1 (Ad [1] Dd) nl nH m L fun r g=>fun _ m L=>sq (rg (pR co 2 (Ad [1,9] Dd) m L fun r g=>fun _ m L=>c6 co m (zi a.list) [((1,10),⟨0,false,0,0,[]⟩)] [] (fun z=>.ref (1,10) 1 0 z.length) (fun z=>[((1,10),⟨1,true,33,7,Ac AF z⟩)]) [] fun d m=>eR co (Ad [1,3] Fj) m L fun r g=>fun _ m L=>sq (mJ co 1 (Ad [1,3,12,13,14] Fj) nl nH m L fun r g=>fun _ m L=>bk 0 (lo (Az (uZ co a) nH m L (fun b m=>sq (mJ co 1 (Ad [3,27,28,29] [((1,10),true)]) nl nH m L fun r g=>fun _ m L=>bk 2 (lo (Az (vm co a) nH m L (fun c m=>fO co m L))))))))))
abbrev Ja:Int→AV:=fun y=>vI y
def gT(a:List Val):Int×Nat→St:=fun(v2,v3)=>Aa [(3,vI v2),(11,vL AF a),(12,vN a.length),(13,vN v3)] []
def cw:Int→Nat×St:=fun a=>(0,Aa [(3,vI a)] [])
def SO(a:Val→Option (Int))(b:List Val)(v2:Int)(v3:Nat):PT 0 (Lv (Int×Nat) (Int) (Int)):=br (decide ((v3:Int)<(b.length:Int))) (ix b v3 fun c=>wg<|wg<|cs Tryz.prog 18 [.agg ((Ae c).map .d)] [] [] (a c) (fun y=>vI y) fun d=>vs (wi (v2+d))<|vs (wa v3 1)<|ln (gT b) ((v2+d),v3+1)) (Ah (cw) v2)
def Nc(a:Val→Option (Int))(b:List Val):Int×Nat→Option (Lv (Int×Nat) (Int) (Int)):=fun(v2,v3)=>(SO a b v2 v3).m
def ia(a:Int):PT 0 (Int):=lr Ja nG a
def dv(c:Val)(b:Val→Option (Int)):PT 0 (Int):=wg<|cl (kl c) fun a=>vz (Ag a)<|lc (Aa [(3,vN (1+c.raws.length)),(11,vL AF a),(12,vN a.length),(13,vI 0)] []) ((Al (Nc b a) Ai (((1+c.raws.length:Nat):Int),0)).bind (Sum.elim (fun d=>(ia d).m) some))
def iQ(a:Val)(b:Val→Option (Int)):PT 0 (Int):=wg<|vz (Ag a.raws)<|vs (wa 1 a.raws.length)<|lc (Aa [pp 1,(3,vN (1+a.raws.length))] [kk 1 33 7 (cD (Ae a))]) ((dv a b).m)
def OM(a:Val→Option (Int))(b:Val):Option (Int):=(iQ b a).m
theorem u5{C:Cx}(co:CO C 0)(a:Val→Option (Int))(f:List Val)(c:∀(e:Val),KC Tryz.prog 18 [.agg ((Ae e).map .d)] (a e) Ja):KL Tryz.prog (Aq tl) 23 C (pa [0,0,1,0,1,1] (Ar Tryz.f18)) [.tmp 2] 0 (gT f) (cw) Ja nG (Nc a f):=fun(v2,v3) _ m Q d i L=>eN co (AI [3,11,12,13]) (AI [3]) i m L fun r g=>⟨fun b=>⟨fun y hy h _ _=>by rw[(c b).x,(c b).e];exact(c b).k _ h y hy,fun j=>id⟩,id⟩
theorem yg(a:Val→Option (Int))(c:∀(b:Val),KC Tryz.prog 18 [.agg ((Ae b).map .d)] (a b) Ja)(b:Val):KC Tryz.prog 18 [.agg ((Ae b).map .d)] (OM a b) Ja:=kC Tryz.func18 Tryz.ntmps18 [.tmp 2] fun co m L=>mJ co 2 (Ad [1,3] Dd) nl nH m L fun r g=>fun _ m L=>sq (mJ co 1 (AI [3,11,12,13]) nl nH m L fun r g=>fun d=>fun _ m L=>bk 0 (lo (Az (u5 co a d c) nH m L (fun e m=>fO co m L))))
def J6:Nat→Val→Option (Int)
 |0=>fun _=>none
 |a+1=>OM (J6 a)
theorem Uw:∀(b:Nat) (a:Val),KC Tryz.prog 18 [.agg ((Ae a).map .d)] (J6 b a) Ja
 |0,a=>⟨fun _ _ _ h=>(by cases h),by intro r;kernel_rfl,by intro r y;kernel_rfl⟩
 |b+1,a=>yg (J6 b) (Uw b) a
abbrev Ds:List (Ab×Bool):=[((1,4),false)]
abbrev N4:Ab×Blk:=kk 4 47 5 [vS ⟨#[]⟩,.e0,.e0,.e0,.e0]
abbrev Nz:Msg×Bool→AV:=fun y=>.tup [.agg ((Au y.1).map .d),vB y.2]
def aI(a:Msg→Option Bool):Cl:=fun no l H θ=>(∀(z0:Msg) y,a z0=some y→BH Tryz.prog l no H (θ 1) [.agg ((Au z0).map .d)] (vB y))
def bL(a:List Msg):Nat→St:=fun b=>Aa [(1,.fn (.yield 1) [] []),pp 4,(9,vL Au a),(10,vN a.length),(11,vN b)] [N4]
def bn:Unit→Nat×St:=fun _=>(0,Aa [pp 4] [N4])
def SS(c:List Msg)(d:Msg→Option Bool)(a:Nat):PT 0 (Lv (Nat) (Unit) (Msg×Bool)):=br (decide ((a:Int)<(c.length:Int))) (ix c a fun b=>wg<|wg<|cf Tryz.prog 1 [.agg ((Au b).map .d)] (d b) (fun y=>vB y) fun e=>br e (wg<|wg<|An Nz nG (b,true)) (vs (wa a 1)<|ln (bL c) (a+1))) (Ah (bn) ())
def M0(b:List Msg)(a:Msg→Option Bool):Nat→Option (Lv (Nat) (Unit) (Msg×Bool)):=fun c=>(SS b a c).m
def gj:PT 0 (Msg×Bool):=wg<|wg<|lr Nz nG ((.mk ⟨#[]⟩ [] [] [] []:Msg),false)
def bg(a:List Msg)(b:Msg→Option Bool):PT 0 (Msg×Bool):=vz (Ag a)<|lc (Aa [(1,.fn (.yield 1) [] []),pp 4,(9,vL Au a),(10,vN a.length),(11,vI 0)] [N4]) ((Al (M0 a b) Ai 0).bind (Sum.elim (fun _=>(gj).m) some))
def ed(b:List Msg)(a:Msg→Option Bool):PT 0 (Msg×Bool):=lc (Aa [(0,vL Au b),(1,.fn (.yield 1) [] []),pp 4] [N4]) ((bg b a).m)
def Pa(b:List Msg)(a:Msg→Option Bool):Option (Msg×Bool):=(ed b a).m
theorem ZyJ{C:Cx}(co:CO C 0)(c:List Msg)(a:Msg→Option Bool)(e:(aI a) C.no C.l C.H0 C.θ):KL Tryz.prog (Aq tl) 21 C (pa [0,0,1,0,1] (Ar Tryz.f57)) [.cell 4 47,.tmp 5] 0 (bL c) (bn) Nz nG (M0 c a):=fun h _ m Q b d L=>eN co (Ad [1,4,9,10,11] Ds) (Ad [4] Ds) d m L fun r g=>⟨fun f=>⟨⟨fun y hy=>e _ y hy,by intro r;kernel_rfl,by intro r y;kernel_rfl⟩,fun i=>⟨id,id⟩⟩,id⟩
theorem ZP9(b:List Msg)(a:Msg→Option Bool):KO Tryz.prog 57 0 [vL Au b,.fn (.yield 1) [] []] [] (aI a) (Pa b a) Nz nG:=kO Tryz.func57 Tryz.ntmps57 [.cell 4 47,.tmp 5] 0 (fun co c m L=>mJ co 1 (Ad [0,1,4] Ds) nl nH m L fun r g=>fun _ m L=>sq (mJ co 1 (Ad [1,4,9,10,11] Ds) nl nH m L fun r g=>fun _ m L=>bk 0 (lo (Az (ZyJ co b a c) nH m L (fun _ m=>fO co m L)))))
abbrev ab:Bool→AV:=fun y=>vB y
@[reducible] def aA(w0:ByteArray):Bool→List Blk:=fun y=>[⟨0,true,9,1,[vS w0]⟩]
def ZMv(a:Msg)(w0:ByteArray):PT 1 (Bool):=wg<|wg<|lr ab (aA w0) (decide (a.name=w0))
def J3(a:Msg)(w0:ByteArray):Option (Bool):=(ZMv a w0).m
theorem ZRa(a:Msg)(w0:ByteArray):KO Tryz.prog 58 1 [.agg ((Au a).map .d),.ptr (0,0) 0 0] [⟨0,true,9,1,[vS w0]⟩] (fun _ _ _ _=>True) (J3 a w0) ab (aA w0):=kO Tryz.func58 Tryz.ntmps58 [.tmp 3] 1 (fun co b m L=>fO co m L)
abbrev Z3:Msg×Bool→AV:=fun y=>.tup [.agg ((Au y.1).map .d),vB y.2]
def iP(a:Scm)(b:ByteArray):PT 0 (Msg×Bool):=wg<|cs Tryz.prog 57 [vL Au a.messages,.fn (.func 58) [] [.ptr (1,3) 1 0]] [(1,3)] [((1,3),⟨1,true,9,1,[vS b]⟩)] (Pa a.messages (fun(z0:Msg)=>J3 z0 b)) (fun y=>.tup [.agg ((Au y.1).map .d),vB y.2]) fun c=>wg<|lr Z3 nG (c.1,c.2)
def Mi(a:Scm)(b:ByteArray):Option (Msg×Bool):=(iP a b).m
theorem TC(b:Scm)(a:ByteArray):KC Tryz.prog 20 [.agg ((Ak b).map .d),vS a] (Mi b a) Z3:=Ci Tryz.func20 Tryz.ntmps20 AG [.cell 4 47,.tmp 5] fun C co y m c L=>fO co m L fun r g=>⟨fun y hy=>CQ (ZP9 b.messages (fun(z0:Msg)=>J3 z0 a)) hy co g [] [((1,3),⟨1,true,9,1,[vS a]⟩)] (AJ [(1,.fn (.func 58) [] [.ptr (r.κ (1,3)) (r.γ (1,3)+1) 0])]) (fun f d h=>(fun z0 y e=>Gf (ZRa z0 a) e co g [((1,3),⟨1,true,9,1,[vS a]⟩)] [] d (by simp) (fun _=>.top) (fun _ _=>trivial) (fun l H=>⟨fun _=>⟨rfl,by kernel_rfl⟩,by kernel_rfl,trivial⟩))) (fun H=>trivial),fun i=>id⟩
abbrev ac:Bool→AV:=fun y=>vB y
def fp(a:Val):PT 0 (Bool):=wg<|wg<|wg<|wg<|vy (!decide (a.kind=(11:Int))) (Ag a.list)<|wg<|wg<|vy ((!((!decide (a.kind=(11:Int)))&&decide ((0:Int)<(a.list.length:Int))))&&(!decide (a.kind=(12:Int)))) (Ag a.pairs)<|wg<|wg<|vy ((!(((!decide (a.kind=(11:Int)))&&decide ((0:Int)<(a.list.length:Int)))||((!decide (a.kind=(12:Int)))&&decide ((0:Int)<(a.pairs.length:Int)))))&&(!decide (a.kind=(10:Int)))) (Ag a.slots)<|wg<|vy ((!(((!decide (a.kind=(11:Int)))&&decide ((0:Int)<(a.list.length:Int)))||((!decide (a.kind=(12:Int)))&&decide ((0:Int)<(a.pairs.length:Int)))))&&(!decide (a.kind=(10:Int)))) (Ag a.raws)<|vg ((!(((!decide (a.kind=(11:Int)))&&decide ((0:Int)<(a.list.length:Int)))||((!decide (a.kind=(12:Int)))&&decide ((0:Int)<(a.pairs.length:Int)))))&&(!decide (a.kind=(10:Int)))) (wa a.slots.length a.raws.length)<|wg<|wg<|wg<|wg<|lr ac nG ((((((!decide (a.kind=(11:Int)))&&decide ((0:Int)<(a.list.length:Int)))||((!decide (a.kind=(12:Int)))&&decide ((0:Int)<(a.pairs.length:Int))))||((!decide (a.kind=(10:Int)))&&decide ((0:Int)<((a.slots.length+a.raws.length:Nat):Int))))||((!decide (a.bits=(0:Int)))&&((decide (a.kind=(7:Int))||decide (a.kind=(8:Int)))||(decide ((10:Int)≤a.kind)&&decide (a.kind≤(12:Int))))))||((!decide (a.text=(⟨#[]⟩:ByteArray)))&&(!(decide (a.kind=(7:Int))||decide (a.kind=(8:Int))))))
def VI(a:Val):Option (Bool):=(fp a).m
theorem Ov(a:Val):KC Tryz.prog 59 [.agg ((Ae a).map .d)] (VI a) ac:=kC Tryz.func59 Tryz.ntmps59 [.tmp 2] fun co m L=>fO co m L
abbrev Oz:Ab×Blk:=kk 4 53 16 [vI 0,vS ⟨#[]⟩,vI 0,vI 0,vI 0,vS ⟨#[]⟩,vS ⟨#[]⟩,vB false,vI 0,.d (.int .u64 0),vS ⟨#[]⟩,.e0,.e0,.e0,.e0,.e0]
abbrev NJ:Fld×Bool→AV:=fun y=>.tup [.agg ((Am y.1).map .d),vB y.2]
def aK(a:Fld→Option Bool):Cl:=fun no l H θ=>(∀(z0:Fld) y,a z0=some y→BH Tryz.prog l no H (θ 1) [.agg ((Am z0).map .d)] (vB y))
def cX(a:List Fld):Nat→St:=fun b=>Aa [(1,.fn (.yield 1) [] []),pp 4,(9,vL Am a),(10,vN a.length),(11,vN b)] [Oz]
def iL:Unit→Nat×St:=fun _=>(0,Aa [pp 4] [Oz])
def Zg(c:List Fld)(d:Fld→Option Bool)(a:Nat):PT 0 (Lv (Nat) (Unit) (Fld×Bool)):=br (decide ((a:Int)<(c.length:Int))) (ix c a fun b=>wg<|wg<|cf Tryz.prog 1 [.agg ((Am b).map .d)] (d b) (fun y=>vB y) fun e=>br e (wg<|wg<|An NJ nG (b,true)) (vs (wa a 1)<|ln (cX c) (a+1))) (Ah (iL) ())
def Na(b:List Fld)(a:Fld→Option Bool):Nat→Option (Lv (Nat) (Unit) (Fld×Bool)):=fun c=>(Zg b a c).m
def iE:PT 0 (Fld×Bool):=wg<|wg<|lr NJ nG ((.mk 0 ⟨#[]⟩ 0 0 (.mk 0 ⟨#[]⟩:Typ) ⟨#[]⟩ false (.mk 0 0 ⟨#[]⟩ [] [] [] []:Val) []:Fld),false)
def gt(a:List Fld)(b:Fld→Option Bool):PT 0 (Fld×Bool):=vz (Ag a)<|lc (Aa [(1,.fn (.yield 1) [] []),pp 4,(9,vL Am a),(10,vN a.length),(11,vI 0)] [Oz]) ((Al (Na a b) Ai 0).bind (Sum.elim (fun _=>(iE).m) some))
def cJ(b:List Fld)(a:Fld→Option Bool):PT 0 (Fld×Bool):=lc (Aa [(0,vL Am b),(1,.fn (.yield 1) [] []),pp 4] [Oz]) ((gt b a).m)
def O5(b:List Fld)(a:Fld→Option Bool):Option (Fld×Bool):=(cJ b a).m
theorem ZzU{C:Cx}(co:CO C 0)(c:List Fld)(a:Fld→Option Bool)(e:(aK a) C.no C.l C.H0 C.θ):KL Tryz.prog (Aq tl) 21 C (pa [0,0,1,0,1] (Ar Tryz.f89)) [.cell 4 53,.tmp 5] 0 (cX c) (iL) NJ nG (Na c a):=fun h _ m Q b d L=>eN co (Ad [1,4,9,10,11] Ds) (Ad [4] Ds) d m L fun r g=>⟨fun f=>⟨⟨fun y hy=>e _ y hy,by intro r;kernel_rfl,by intro r y;kernel_rfl⟩,fun i=>⟨id,id⟩⟩,id⟩
theorem ZQJ(b:List Fld)(a:Fld→Option Bool):KO Tryz.prog 89 0 [vL Am b,.fn (.yield 1) [] []] [] (aK a) (O5 b a) NJ nG:=kO Tryz.func89 Tryz.ntmps89 [.cell 4 53,.tmp 5] 0 (fun co c m L=>mJ co 1 (Ad [0,1,4] Ds) nl nH m L fun r g=>fun _ m L=>sq (mJ co 1 (Ad [1,4,9,10,11] Ds) nl nH m L fun r g=>fun _ m L=>bk 0 (lo (Az (ZzU co b a c) nH m L (fun _ m=>fO co m L)))))
abbrev aw:Bool→AV:=fun y=>vB y
@[reducible] def aF(w0:Int):Bool→List Blk:=fun y=>[⟨0,true,3,1,[vI w0]⟩]
def y4(a:Fld)(w0:Int):PT 1 (Bool):=wg<|wg<|lr aw (aF w0) (decide (a.num=w0))
def J2(a:Fld)(w0:Int):Option (Bool):=(y4 a w0).m
theorem ZQW(a:Fld)(w0:Int):KO Tryz.prog 90 1 [.agg ((Am a).map .d),.ptr (0,0) 0 0] [⟨0,true,3,1,[vI w0]⟩] (fun _ _ _ _=>True) (J2 a w0) aw (aF w0):=kO Tryz.func90 Tryz.ntmps90 [.tmp 3] 1 (fun co b m L=>fO co m L)
abbrev Z6:Fld×Bool→AV:=fun y=>.tup [.agg ((Am y.1).map .d),vB y.2]
def gc(a:Msg)(b:Int):PT 0 (Fld×Bool):=wg<|cs Tryz.prog 89 [vL Am a.fields,.fn (.func 90) [] [.ptr (1,3) 1 0]] [(1,3)] [((1,3),⟨1,true,3,1,[vI b]⟩)] (O5 a.fields (fun(z0:Fld)=>J2 z0 b)) (fun y=>.tup [.agg ((Am y.1).map .d),vB y.2]) fun c=>wg<|lr Z6 nG (c.1,c.2)
def VM(a:Msg)(b:Int):Option (Fld×Bool):=(gc a b).m
theorem Uy(b:Msg)(a:Int):KC Tryz.prog 37 [.agg ((Au b).map .d),vI a] (VM b a) Z6:=Ci Tryz.func37 Tryz.ntmps37 AG [.cell 4 53,.tmp 5] fun C co y m c L=>fO co m L fun r g=>⟨fun y hy=>CQ (ZQJ b.fields (fun(z0:Fld)=>J2 z0 a)) hy co g [] [((1,3),⟨1,true,3,1,[vI a]⟩)] (AJ [(1,.fn (.func 90) [] [.ptr (r.κ (1,3)) (r.γ (1,3)+1) 0])]) (fun f d h=>(fun z0 y e=>Gf (ZQW z0 a) e co g [((1,3),⟨1,true,3,1,[vI a]⟩)] [] d (by simp) (fun _=>.top) (fun _ _=>trivial) (fun l H=>⟨fun _=>⟨rfl,by kernel_rfl⟩,by kernel_rfl,trivial⟩))) (fun H=>trivial),fun i=>id⟩
abbrev OG:Int→AV:=fun y=>vI y
def kY(a:Slt→Option Bool):Cl:=fun no l H θ=>(∀(z0:Slt) y,a z0=some y→BH Tryz.prog l no H (θ 1) [.agg ((Bq z0).map .d)] (vB y))
def pH(a:List Slt):Nat→St:=fun b=>Aa [(0,vL At a),(1,.fn (.yield 1) [] []),(7,vN a.length),(8,vN b)] []
def qy:Unit→Nat×St:=fun _=>(0,Aa [] [])
def XP(b:List Slt)(c:Slt→Option Bool)(a:Nat):PT 0 (Lv (Nat) (Unit) (Int)):=br (decide ((a:Int)<(b.length:Int))) (ix b a fun d=>cf Tryz.prog 1 [.agg ((Bq d).map .d)] (c d) (fun y=>vB y) fun e=>br e (An OG nG (a:Int)) (vs (wa a 1)<|ln (pH b) (a+1))) (Ah (qy) ())
def MR(b:List Slt)(a:Slt→Option Bool):Nat→Option (Lv (Nat) (Unit) (Int)):=fun c=>(XP b a c).m
def sm:PT 0 (Int):=lr OG nG (-1)
def qL(a:List Slt)(b:Slt→Option Bool):PT 0 (Int):=vz (Ag a)<|lc (Aa [(0,vL At a),(1,.fn (.yield 1) [] []),(7,vN a.length),(8,vI 0)] []) ((Al (MR a b) Ai 0).bind (Sum.elim (fun _=>(sm).m) some))
def qi(b:List Slt)(a:Slt→Option Bool):PT 0 (Int):=lc (Aa [(0,vL At b),(1,.fn (.yield 1) [] [])] []) ((qL b a).m)
def Pm(b:List Slt)(a:Slt→Option Bool):Option (Int):=(qi b a).m
theorem Zq5{C:Cx}(co:CO C 0)(c:List Slt)(a:Slt→Option Bool)(e:(kY a) C.no C.l C.H0 C.θ):KL Tryz.prog (Aq tl) 19 C (pa [0,0,1,0,1] (Ar Tryz.f164)) [.tmp 4] 0 (pH c) (qy) OG nG (MR c a):=fun h _ m Q b d L=>eN co (AI [0,1,7,8]) nl d m L fun r g=>⟨fun f=>⟨⟨fun y hy=>e _ y hy,by intro r;kernel_rfl,by intro r y;kernel_rfl⟩,fun i=>⟨id,id⟩⟩,id⟩
theorem zr(b:List Slt)(a:Slt→Option Bool):KO Tryz.prog 164 0 [vL At b,.fn (.yield 1) [] []] [] (kY a) (Pm b a) OG nG:=kO Tryz.func164 Tryz.ntmps164 [.tmp 4] 0 (fun co c m L=>mJ co 1 (AI [0,1]) nl nH m L fun r g=>fun _ m L=>sq (mJ co 1 (AI [0,1,7,8]) nl nH m L fun r g=>fun _ m L=>bk 0 (lo (Az (Zq5 co b a c) nH m L (fun _ m=>fO co m L)))))
abbrev km:Bool→AV:=fun y=>vB y
def ZQG(a:Slt→Option Bool):Cl:=fun no l H θ=>(∀(z0:Slt) y,a z0=some y→BH Tryz.prog l no H (θ 1) [.agg ((Bq z0).map .d)] (vB y))
def tu(b:List Slt)(a:Slt→Option Bool):PT 0 (Bool):=cs Tryz.prog 164 [vL At b,.fn (.yield 1) [] []] [] [] (Pm b a) (fun y=>vI y) fun c=>lr km nG (decide ((0:Int)≤c))
def JZ(b:List Slt)(a:Slt→Option Bool):Option (Bool):=(tu b a).m
theorem SZ(b:List Slt)(a:Slt→Option Bool):KO Tryz.prog 119 0 [vL At b,.fn (.yield 1) [] []] [] (ZQG a) (JZ b a) km nG:=Da Tryz.func119 Tryz.ntmps119 AG [.tmp 4] 0 (fun C co d y m c L=>fO co m L fun r g=>⟨fun y hy=>CQ (zr b a) hy co g [] [] (AJ [(1,r.θ 1)]) (fun h i e=>(fun z0 y f=>Fy co g [] e (d z0 y f))) (fun H=>trivial),fun j=>id⟩)
abbrev ag:Bool→AV:=fun y=>vB y
@[reducible] def aB(w0:Fld):Bool→List Blk:=fun y=>[⟨0,true,53,16,(cD (Am w0))⟩]
def yu(a:Int)(w0:Fld):PT 1 (Bool):=wg<|lr ag (aB w0) (decide (a=w0.num))
def lu(a:Int)(w0:Fld):Option (Bool):=(yu a w0).m
theorem ZQT(a:Int)(w0:Fld):KO Tryz.prog 62 1 [vI a,.ptr (0,0) 0 0] [⟨0,true,53,16,(cD (Am w0))⟩] (fun _ _ _ _=>True) (lu a w0) ag (aB w0):=kO Tryz.func62 Tryz.ntmps62 [.tmp 3] 1 (fun co b m L=>fO co m L)
abbrev jO:Bool→AV:=fun y=>vB y
@[reducible] def kx(w0:Fld):Bool→List Blk:=fun y=>[⟨0,true,53,16,(cD (Am w0))⟩]
def wV(a:Int)(w0:Fld):PT 1 (Bool):=wg<|lr jO (kx w0) (decide (a=w0.num))
def lT(a:Int)(w0:Fld):Option (Bool):=(wV a w0).m
theorem ZN7(a:Int)(w0:Fld):KO Tryz.prog 115 1 [vI a,.ptr (0,0) 0 0] [⟨0,true,53,16,(cD (Am w0))⟩] (fun _ _ _ _=>True) (lT a w0) jO (kx w0):=kO Tryz.func115 Tryz.ntmps115 [.tmp 3] 1 (fun co b m L=>fO co m L)
abbrev kR:Bool→AV:=fun y=>vB y
@[reducible] def jh(w0:Fld):Bool→List Blk:=fun y=>[⟨0,true,53,16,(cD (Am w0))⟩]
def wS(a:Int)(w0:Fld):PT 1 (Bool):=wg<|lr kR (jh w0) (decide (a=w0.num))
def lB(a:Int)(w0:Fld):Option (Bool):=(wS a w0).m
theorem ZNz(a:Int)(w0:Fld):KO Tryz.prog 117 1 [vI a,.ptr (0,0) 0 0] [⟨0,true,53,16,(cD (Am w0))⟩] (fun _ _ _ _=>True) (lB a w0) kR (jh w0):=kO Tryz.func117 Tryz.ntmps117 [.tmp 3] 1 (fun co b m L=>fO co m L)
abbrev kw(a:Fld):Ab×Blk:=((0,1),⟨0,true,53,16,(cD (Am a))⟩)
abbrev pE:Bool→AV:=fun y=>vB y
@[reducible] def ta(a:Fld):Bool→List Blk:=fun y=>[⟨0,true,65,1,[.fn (.func 115) [] [.ptr (0,1) 0 0]]⟩,⟨0,true,53,16,(cD (Am a))⟩]
def Zq1(b:Slt)(a:Fld):PT 2 (Bool):=wg<|wg<|cs Tryz.prog 115 [vI b.num,.ptr (0,1) 0 0] [(0,1)] [(kw a)] (lT b.num a) (fun y=>vB y) fun c=>lr pE (ta a) c
def Po(b:Slt)(a:Fld):Option (Bool):=(Zq1 b a).m
theorem vX(b:Slt)(a:Fld):KO Tryz.prog 120 2 [.agg ((Bq b).map .d),.ptr (0,0) 0 0] [⟨0,true,65,1,[.fn (.func 115) [] [.ptr (0,1) 0 0]]⟩,⟨0,true,53,16,(cD (Am a))⟩] (fun _ _ _ _=>True) (Po b a) pE (ta a):=Da Tryz.func120 Tryz.ntmps120 AG [.tmp 3] 2 (fun C co d y m c L=>fO co m L fun r g=>⟨fun y hy=>s6 (ZN7 b.num a) hy co g [(kw a)] [],fun e=>id⟩)
abbrev j8(a:Fld):Ab×Blk:=((0,1),⟨0,true,53,16,(cD (Am a))⟩)
abbrev qM:Bool→AV:=fun y=>vB y
@[reducible] def qH(a:Fld):Bool→List Blk:=fun y=>[⟨0,true,65,1,[.fn (.func 117) [] [.ptr (0,1) 0 0]]⟩,⟨0,true,53,16,(cD (Am a))⟩]
def Zr7(b:Slt)(a:Fld):PT 2 (Bool):=wg<|wg<|cs Tryz.prog 117 [vI b.num,.ptr (0,1) 0 0] [(0,1)] [(j8 a)] (lB b.num a) (fun y=>vB y) fun c=>lr qM (qH a) c
def Pd(b:Slt)(a:Fld):Option (Bool):=(Zr7 b a).m
theorem vY(b:Slt)(a:Fld):KO Tryz.prog 120 2 [.agg ((Bq b).map .d),.ptr (0,0) 0 0] [⟨0,true,65,1,[.fn (.func 117) [] [.ptr (0,1) 0 0]]⟩,⟨0,true,53,16,(cD (Am a))⟩] (fun _ _ _ _=>True) (Pd b a) qM (qH a):=Da Tryz.func120 Tryz.ntmps120 AG [.tmp 3] 2 (fun C co d y m c L=>fO co m L fun r g=>⟨fun y hy=>s6 (ZNz b.num a) hy co g [(j8 a)] [],fun e=>id⟩)
abbrev jj(a:Fld):Ab×Blk:=((0,1),⟨0,true,53,16,(cD (Am a))⟩)
abbrev pi:Bool→AV:=fun y=>vB y
@[reducible] def r6(a:Fld):Bool→List Blk:=fun y=>[⟨0,true,65,1,[.fn (.func 62) [] [.ptr (0,1) 0 0]]⟩,⟨0,true,53,16,(cD (Am a))⟩]
def Ztc(b:Slt)(a:Fld):PT 2 (Bool):=wg<|wg<|cs Tryz.prog 62 [vI b.num,.ptr (0,1) 0 0] [(0,1)] [(jj a)] (lu b.num a) (fun y=>vB y) fun c=>lr pi (r6 a) c
def Pg(b:Slt)(a:Fld):Option (Bool):=(Ztc b a).m
theorem u4(b:Slt)(a:Fld):KO Tryz.prog 120 2 [.agg ((Bq b).map .d),.ptr (0,0) 0 0] [⟨0,true,65,1,[.fn (.func 62) [] [.ptr (0,1) 0 0]]⟩,⟨0,true,53,16,(cD (Am a))⟩] (fun _ _ _ _=>True) (Pg b a) pi (r6 a):=Da Tryz.func120 Tryz.ntmps120 AG [.tmp 3] 2 (fun C co d y m c L=>fO co m L fun r g=>⟨fun y hy=>s6 (ZQT b.num a) hy co g [(jj a)] [],fun e=>id⟩)
abbrev TD(a:Fld):Ab×Blk:=((0,0),⟨0,true,53,16,(cD (Am a))⟩)
abbrev ie:Bool→AV:=fun y=>vB y
@[reducible] def bH(a:Fld):Bool→List Blk:=fun y=>[⟨0,true,53,16,(cD (Am a))⟩]
def n5(b:List Slt)(a:Fld):PT 1 (Bool):=cs Tryz.prog 119 [vL At b,.fn (.func 120) [] [.ptr (1,3) 1 0]] [(1,3),(0,0)] [((1,3),⟨1,true,65,1,[.fn (.func 115) [] [.ptr (0,0) 0 0]]⟩),(TD a)] (JZ b (fun(z0:Slt)=>Po z0 a)) (fun y=>vB y) fun c=>lr ie (bH a) c
def Pw(b:List Slt)(a:Fld):Option (Bool):=(n5 b a).m
theorem xm(b:List Slt)(a:Fld):KO Tryz.prog 61 1 [vL At b,.fn (.func 115) [] [.ptr (0,0) 0 0]] [⟨0,true,53,16,(cD (Am a))⟩] (fun _ _ _ _=>True) (Pw b a) ie (bH a):=Da Tryz.func61 Tryz.ntmps61 AG [.tmp 4] 1 (fun C co h y m c L=>fO co m L fun r g=>⟨fun y hy=>CQ (SZ b (fun(z0:Slt)=>Po z0 a)) hy co g [] [((1,3),⟨1,true,65,1,[.fn (.func 115) [] [.ptr (0,0) 0 0]]⟩),(TD a)] (AJ [(1,.fn (.func 120) [] [.ptr (r.κ (1,3)) (r.γ (1,3)+1) 0])]) (fun f d i=>(fun z0 y e=>Gf (vX z0 a) e co g [((1,3),⟨1,true,65,1,[.fn (.func 115) [] [.ptr (0,0) 0 0]]⟩),(TD a)] [] d (by simp) (fun _=>.top) (fun _ _=>trivial) (fun l H=>⟨fun _=>⟨rfl,by kernel_rfl⟩,by kernel_rfl,⟨fun _=>⟨rfl,by kernel_rfl⟩,by kernel_rfl,trivial⟩⟩))) (fun H=>trivial),fun j=>id⟩)
abbrev T0(a:Fld):Ab×Blk:=((0,0),⟨0,true,53,16,(cD (Am a))⟩)
abbrev gk:Bool→AV:=fun y=>vB y
@[reducible] def fu(a:Fld):Bool→List Blk:=fun y=>[⟨0,true,53,16,(cD (Am a))⟩]
def nX(b:List Slt)(a:Fld):PT 1 (Bool):=cs Tryz.prog 119 [vL At b,.fn (.func 120) [] [.ptr (1,3) 1 0]] [(1,3),(0,0)] [((1,3),⟨1,true,65,1,[.fn (.func 117) [] [.ptr (0,0) 0 0]]⟩),(T0 a)] (JZ b (fun(z0:Slt)=>Pd z0 a)) (fun y=>vB y) fun c=>lr gk (fu a) c
def Pv(b:List Slt)(a:Fld):Option (Bool):=(nX b a).m
theorem x4(b:List Slt)(a:Fld):KO Tryz.prog 61 1 [vL At b,.fn (.func 117) [] [.ptr (0,0) 0 0]] [⟨0,true,53,16,(cD (Am a))⟩] (fun _ _ _ _=>True) (Pv b a) gk (fu a):=Da Tryz.func61 Tryz.ntmps61 AG [.tmp 4] 1 (fun C co h y m c L=>fO co m L fun r g=>⟨fun y hy=>CQ (SZ b (fun(z0:Slt)=>Pd z0 a)) hy co g [] [((1,3),⟨1,true,65,1,[.fn (.func 117) [] [.ptr (0,0) 0 0]]⟩),(T0 a)] (AJ [(1,.fn (.func 120) [] [.ptr (r.κ (1,3)) (r.γ (1,3)+1) 0])]) (fun f d i=>(fun z0 y e=>Gf (vY z0 a) e co g [((1,3),⟨1,true,65,1,[.fn (.func 117) [] [.ptr (0,0) 0 0]]⟩),(T0 a)] [] d (by simp) (fun _=>.top) (fun _ _=>trivial) (fun l H=>⟨fun _=>⟨rfl,by kernel_rfl⟩,by kernel_rfl,⟨fun _=>⟨rfl,by kernel_rfl⟩,by kernel_rfl,trivial⟩⟩))) (fun H=>trivial),fun j=>id⟩)
abbrev T5(a:Fld):Ab×Blk:=((0,0),⟨0,true,53,16,(cD (Am a))⟩)
abbrev cm:Bool→AV:=fun y=>vB y
@[reducible] def bq(a:Fld):Bool→List Blk:=fun y=>[⟨0,true,53,16,(cD (Am a))⟩]
def od(b:List Slt)(a:Fld):PT 1 (Bool):=cs Tryz.prog 119 [vL At b,.fn (.func 120) [] [.ptr (1,3) 1 0]] [(1,3),(0,0)] [((1,3),⟨1,true,65,1,[.fn (.func 62) [] [.ptr (0,0) 0 0]]⟩),(T5 a)] (JZ b (fun(z0:Slt)=>Pg z0 a)) (fun y=>vB y) fun c=>lr cm (bq a) c
def Px(b:List Slt)(a:Fld):Option (Bool):=(od b a).m
theorem xD(b:List Slt)(a:Fld):KO Tryz.prog 61 1 [vL At b,.fn (.func 62) [] [.ptr (0,0) 0 0]] [⟨0,true,53,16,(cD (Am a))⟩] (fun _ _ _ _=>True) (Px b a) cm (bq a):=Da Tryz.func61 Tryz.ntmps61 AG [.tmp 4] 1 (fun C co h y m c L=>fO co m L fun r g=>⟨fun y hy=>CQ (SZ b (fun(z0:Slt)=>Pg z0 a)) hy co g [] [((1,3),⟨1,true,65,1,[.fn (.func 62) [] [.ptr (0,0) 0 0]]⟩),(T5 a)] (AJ [(1,.fn (.func 120) [] [.ptr (r.κ (1,3)) (r.γ (1,3)+1) 0])]) (fun f d i=>(fun z0 y e=>Gf (u4 z0 a) e co g [((1,3),⟨1,true,65,1,[.fn (.func 62) [] [.ptr (0,0) 0 0]]⟩),(T5 a)] [] d (by simp) (fun _=>.top) (fun _ _=>trivial) (fun l H=>⟨fun _=>⟨rfl,by kernel_rfl⟩,by kernel_rfl,⟨fun _=>⟨rfl,by kernel_rfl⟩,by kernel_rfl,trivial⟩⟩))) (fun H=>trivial),fun j=>id⟩)
abbrev Qy:Int→AV:=fun y=>vI y
@[reducible] def QK(a:List Fld):Int→List Blk:=fun y=>[⟨0,true,53,16,Ac Am a⟩]
def p8(a:Fld→Option Bool):Cl:=fun no l H θ=>(∀(z0:Fld) y,a z0=some y→BH Tryz.prog l no H (θ 1) [.agg ((Am z0).map .d)] (vB y))
def nF(a:List Fld):Nat→St:=fun b=>Aa [(0,.ref (0,0) 0 0 a.length),(1,.fn (.yield 1) [] []),(7,vN a.length),(8,vN b)] [((0,0),⟨0,true,53,16,Ac Am a⟩)]
def nq(a:List Fld):Unit→Nat×St:=fun _=>(0,Aa [] [((0,0),⟨0,true,53,16,Ac Am a⟩)])
def PW(a:List Fld)(c:Fld→Option Bool)(b:Nat):PT 1 (Lv (Nat) (Unit) (Int)):=br (decide ((b:Int)<(a.length:Int))) (vs (ir b a.length 16)<|ca a b fun d=>cf Tryz.prog 1 [.agg ((Am d).map .d)] (c d) (fun y=>vB y) fun e=>br e (An Qy (QK a) (b:Int)) (vs (wa b 1)<|vz (fl a)<|ln (nF a) (b+1))) (vz (fl a)<|Ah (nq a) ())
def PS(b:List Fld)(a:Fld→Option Bool):Nat→Option (Lv (Nat) (Unit) (Int)):=fun c=>(PW b a c).m
def PM(a:List Fld):PT 1 (Int):=lr Qy (QK a) (-1)
def P2(a:List Fld)(b:Fld→Option Bool):PT 1 (Int):=vz (AR a.length)<|vz (fl a)<|lc (Aa [(0,.ref (0,0) 0 0 a.length),(1,.fn (.yield 1) [] []),(7,vN a.length),(8,vI 0)] [((0,0),⟨0,true,53,16,Ac Am a⟩)]) ((Al (PS a b) Ai 0).bind (Sum.elim (fun _=>(PM a).m) some))
def P1(a:List Fld)(b:Fld→Option Bool):PT 1 (Int):=vz (fl a)<|lc (Aa [(0,.ref (0,0) 0 0 a.length),(1,.fn (.yield 1) [] [])] [((0,0),⟨0,true,53,16,Ac Am a⟩)]) ((P2 a b).m)
def O6(b:List Fld)(a:Fld→Option Bool):Option (Int):=(P1 b a).m
theorem ZmT{C:Cx}(co:CO C 1)(b:List Fld)(a:Fld→Option Bool)(e:(p8 a) C.no C.l C.H0 C.θ):KL Tryz.prog (Aq tl) 19 C (pa [0,0,1,0,1] (Ar Tryz.f203)) [.tmp 4] 1 (nF b) (nq b) Qy (QK b) (PS b a):=fun h _ m Q c d L=>eN co (Ad [0,1,7,8] AO) (Ad [] AO) d m L fun r g=>⟨fun f=>⟨⟨fun y hy=>e _ y hy,by intro r;kernel_rfl,by intro r y;kernel_rfl⟩,fun i=>⟨id,id⟩⟩,id⟩
theorem vb(b:List Fld)(a:Fld→Option Bool):KO Tryz.prog 203 1 [.ref (0,0) 0 0 b.length,.fn (.yield 1) [] []] [⟨0,true,53,16,Ac Am b⟩] (p8 a) (O6 b a) Qy (QK b):=kO Tryz.func203 Tryz.ntmps203 [.tmp 4] 1 (fun co c m L=>mJ co 1 (Ad [0,1] AO) nl nH m L fun r g=>fun _ m L=>sq (mJ co 1 (Ad [0,1,7,8] AO) nl nH m L fun r g=>fun _ m L=>bk 0 (lo (Az (ZmT co b a c) nH m L (fun _ m=>fO co m L)))))
abbrev LN(a:List Fld):Ab×Blk:=((0,0),⟨0,true,53,16,Ac Am a⟩)
abbrev Uc:List Fld→AV:=fun y=>.ref (0,0) 0 0 y.length
@[reducible] def Uv:List Fld→List Blk:=fun y=>[⟨0,true,53,16,Ac Am y⟩]
def jC(a:Fld→Option Bool):Cl:=fun no l H θ=>(∀(z0:Fld) y,a z0=some y→BH Tryz.prog l no H (θ 1) [.agg ((Am z0).map .d)] (vB y))
def Xv(a:List Fld):Int×Int×List Fld→St:=fun(v2,v3,b)=>Aa [(0,.ref (0,0) 0 0 a.length),(1,.fn (.yield 1) [] []),(5,vI v2),(6,vI v3)] [((0,0),⟨0,true,53,16,Ac Am b⟩)]
def tA(a:List Fld):Int×List Fld→Nat×St:=fun(c,b)=>(0,Aa [(0,.ref (0,0) 0 0 a.length),(5,vI c)] [((0,0),⟨0,true,53,16,Ac Am b⟩)])
def XT(b:List Fld)(d:Fld→Option Bool)(v2:Int)(v3:Int)(a:List Fld):PT 1 (Lv (Int×Int×List Fld) (Int×List Fld) (List Fld)):=vz (AR b.length)<|br (decide (v3<(b.length:Int))) (vs (CM v3 b.length 16)<|ca a v3.toNat fun c=>wg<|wg<|cf Tryz.prog 1 [.agg ((Am c).map .d)] (d c) (fun y=>vB y) fun e=>br (!e) (wg<|vs (CM v2 b.length 16)<|vs (st a v2.toNat c)<|I7 0 ((Rw.f (c:Fld)).map .d) (fun _=>XS _)<|vs (wi (v2+1))<|vs (wi (v3+1))<|vz (fl (a.set v2.toNat c))<|ln (Xv b) ((v2+1),(v3+1),a.set v2.toNat c)) (vs (wi (v3+1))<|vz (fl a)<|ln (Xv b) (v2,(v3+1),a))) (vz (fl a)<|Ah (tA b) (v2,a))
def MH(b:List Fld)(a:Fld→Option Bool):Int×Int×List Fld→Option (Lv (Int×Int×List Fld) (Int×List Fld) (List Fld)):=fun(v2,v3,c)=>(XT b a v2 v3 c).m
def qZ(c:List Fld)(a:Int)(b:List Fld):PT 1 (List Fld):=sR c.length 0 (.it a) .no<|cr b (0+a.toNat) (c.length-a.toNat) [vI 0,vS ⟨#[]⟩,vI 0,vI 0,vI 0,vS ⟨#[]⟩,vS ⟨#[]⟩,vB false,vI 0,.d (.int .u64 0),vS ⟨#[]⟩,.e0,.e0,.e0,.e0,.e0]<|I7 0 ([vI 0,vS ⟨#[]⟩,vI 0,vI 0,vI 0,vS ⟨#[]⟩,vS ⟨#[]⟩,vB false,vI 0,.d (.int .u64 0),vS ⟨#[]⟩,.e0,.e0,.e0,.e0,.e0]) (fun _=>vW (by kernel_rfl))<|RU 0 b (0+a.toNat) (c.length-a.toNat) [vI 0,vS ⟨#[]⟩,vI 0,vI 0,vI 0,vS ⟨#[]⟩,vS ⟨#[]⟩,vB false,vI 0,.d (.int .u64 0),vS ⟨#[]⟩,.e0,.e0,.e0,.e0,.e0]<|vw .sep<|sR c.length 0 .no (.it a)<|H2 (a.toNat=(b.take (0+a.toNat)).length) (fun E=>E.P (.ref (0,0) 0 0 a.toNat) ([⟨0,true,53,16,Ac Am (b.take (0+a.toNat))⟩])) (b.take (0+a.toNat))
def pD(a:List Fld)(c:Fld→Option Bool)(b:Int):PT 1 (List Fld):=vs (wi (b+1))<|vz (fl a)<|lc (Aa [(0,.ref (0,0) 0 0 a.length),(1,.fn (.yield 1) [] []),(5,vI b),(6,vI (b+1))] [(LN a)]) ((Al (MH a c) Ai (b,(b+1),a)).bind (Sum.elim (fun(e,d)=>(qZ a e d).m) some))
def qa(a:List Fld)(b:Fld→Option Bool):PT 1 (List Fld):=cs Tryz.prog 203 [.ref (0,0) 0 0 a.length,.fn (.yield 1) [] []] [(0,0)] [(LN a)] (O6 a b) (fun y=>vI y) fun c=>br (decide (c=((-1):Int))) (lr Uc (Uv) a) (vz (fl a)<|lc (Aa [(0,.ref (0,0) 0 0 a.length),(1,.fn (.yield 1) [] []),(5,vI c)] [(LN a)]) ((pD a b c).m))
def O4(b:List Fld)(a:Fld→Option Bool):Option (List Fld):=(qa b a).m
theorem Zs8{C:Cx}(co:CO C 1)(b:List Fld)(a:Fld→Option Bool)(e:(jC a) C.no C.l C.H0 C.θ):KL Tryz.prog (Aq tl) 42 C (pa [0,0,1,0,1,1,1] (Ar Tryz.f159)) [.tmp 4] 1 (Xv b) (tA b) Uc (Uv) (MH b a):=fun(v2,v3,h) _ m Q c d L=>eN co (Ad [0,1,5,6] AO) (Ad [0,5] AO) d m L fun r g=>⟨fun f=>⟨⟨fun y hy=>e _ y hy,by intro r;kernel_rfl,by intro r y;kernel_rfl⟩,fun i=>⟨id,id⟩⟩,id⟩
theorem zw(b:List Fld)(a:Fld→Option Bool):KO Tryz.prog 159 1 [.ref (0,0) 0 0 b.length,.fn (.yield 1) [] []] [⟨0,true,53,16,Ac Am b⟩] (jC a) (O4 b a) Uc (Uv):=Da Tryz.func159 Tryz.ntmps159 AG [.tmp 4] 1 (fun C co d y m c L=>mJ co 3 (Ad [0,1,5] AO) nl nH m L fun r g=>⟨fun y hy=>CQ (vb b a) hy co g [(LN b)] [] (AJ [(1,r.θ 1)]) (fun i j e=>(fun z0 y f=>Fy co g [(LN b)] e (d z0 y f))) (fun H=>⟨fun _=>⟨rfl,bz⟩,by kernel_rfl,trivial⟩),fun o=>⟨id,fun _ m L=>sq (mJ co 1 (Ad [0,1,5,6] AO) nl nH m L fun r g=>fun _ m L=>bk 0 (lo (Az (Zs8 co b a d) nH m L (fun(l,k) m=>fO co m L fun r g=>fun h L=>lfx (congrArg (fun n=>(.ref (0,0) 0 0 n:AV)) h) L))))⟩⟩)
abbrev TO:List Fld→AV:=fun y=>.ref (0,0) 1 0 y.length
@[reducible] def Uh:List Fld→List Blk:=fun y=>[⟨1,true,53,16,Ac Am y⟩]
def qp(a:List Fld):PT 1 (List Fld):=al Am a false fun b=>br b (vw .sep<|vw (.ads 2 2 53 16)<|mv 2 0 ([]:List Fld)<|lr TO (Uh) ([]:List Fld)) (a0 a<|mv 7 0 a<|lr TO (Uh) a)
def Py(a:List Fld):Option (List Fld):=(qp a).m
theorem ZNY(a:List Fld):KO Tryz.prog 160 1 [vL Am a] [⟨0,false,0,0,[]⟩] (fun _ _ _ _=>True) (Py a) TO (Uh):=kO Tryz.func160 Tryz.ntmps160 [.tmp 2] 1 (fun co b m L=>fO co m L)
abbrev jd:Bool→AV:=fun y=>vB y
@[reducible] def jb(w0:ByteArray):Bool→List Blk:=fun y=>[⟨0,true,9,1,[vS w0]⟩]
def x6(a:Fld)(w0:ByteArray):PT 1 (Bool):=wg<|wg<|lr jd (jb w0) (!decide (a.union=w0))
def Ph(a:Fld)(w0:ByteArray):Option (Bool):=(x6 a w0).m
theorem zn(a:Fld)(w0:ByteArray):KO Tryz.prog 161 1 [.agg ((Am a).map .d),.ptr (0,0) 0 0] [⟨0,true,9,1,[vS w0]⟩] (fun _ _ _ _=>True) (Ph a w0) jd (jb w0):=kO Tryz.func161 Tryz.ntmps161 [.tmp 3] 1 (fun co b m L=>fO co m L)
abbrev Lz(a:ByteArray):Ab×Blk:=kk 3 9 1 [vS a]
abbrev Un:List Fld→AV:=fun y=>vL Am y
def r5(a:List Fld):PT 0 (List Fld):=vz (fr a)<|lr Un nG a
def qU(a:List Fld):PT 0 (List Fld):=vz (fl a)<|lc (Aa [(4,.ref (1,9) 0 0 a.length)] [kk 9 53 16 (Ac Am a)]) ((r5 a).m)
def r9(b:ByteArray)(a:List Fld):PT 0 (List Fld):=vz (fl a)<|lc (Aa [(9,.ref (1,9) 0 0 a.length),(10,.fn (.func 161) [] [.ptr (1,3) 0 0])] [(Lz b),kk 9 53 16 (Ac Am a)]) ((O4 a (fun(z0:Fld)=>Ph z0 b)).bind fun c=>(qU c).m)
def tL(a:Msg)(b:ByteArray):PT 0 (List Fld):=wg<|lc (Aa [pp 3,(8,vL Am a.fields)] [(Lz b)]) ((Py a.fields).bind fun c=>(r9 b c).m)
def p4(b:Msg)(a:ByteArray):PT 0 (List Fld):=wg<|br (decide (a=(⟨#[]⟩:ByteArray))) (lr Un nG ([]:List Fld)) (lc (Aa [pp 2,pp 3] [kk 2 47 5 (cD (Au b)),(Lz a)]) ((tL b a).m))
def VB(a:Msg)(b:ByteArray):Option (List Fld):=(p4 a b).m
theorem zQ(b:Msg)(a:ByteArray):KC Tryz.prog 116 [.agg ((Au b).map .d),vS a] (VB b a) Un:=Ci Tryz.func116 Tryz.ntmps116 AG [.tmp 4] fun C co y m c L=>mJ co 2 (Ad [2,3] [((1,2),false),((1,3),false)]) nl nH m L fun r g=>⟨id,fun _ m L=>sq (rg (pR co 2 (Ad [3,8] [((1,3),false)]) m L fun r g=>fun _ m L=>c6 co m (ZNY b.fields) [((1,9),⟨0,false,0,0,[]⟩)] [] (fun z=>.ref (1,9) 1 0 z.length) (fun z=>[((1,9),⟨1,true,53,16,Ac Am z⟩)]) [] fun d m=>pR co 1 (Ad [9,10] [((1,3),false),((1,9),true)]) m L fun r g=>fun _ m L=>c6 (θ:=fun r=>AJ [(1,.fn (.func 161) [] [.ptr (r.κ (1,3)) (r.γ (1,3)+0) 0])]) (hΘ:=fun r g h e i=>(fun z0 y f=>Gf (zn z0 a) f co g [(Lz a)] _ e (by simp) (fun _=>.top) (fun _ _=>trivial) (fun l H=>⟨fun _=>⟨rfl,by kernel_rfl⟩,by kernel_rfl,trivial⟩))) co m (zw d (fun(z0:Fld)=>Ph z0 a)) [kk 9 53 16 (Ac Am d)] [(Lz a)] (fun z=>.ref (1,9) 0 0 z.length) (fun z=>[kk 9 53 16 (Ac Am z)]) [] fun j m=>eR co (Ad [4] [((1,9),true)]) m L fun r g=>fun _ m L=>fO co m L))⟩
abbrev OW:Ab×Blk:=kk 4 68 5 [vS ⟨#[]⟩,vB false,.e0,.e0,.e0]
abbrev NA:Enm×Bool→AV:=fun y=>.tup [.agg ((Bi y.1).map .d),vB y.2]
def aJ(a:Enm→Option Bool):Cl:=fun no l H θ=>(∀(z0:Enm) y,a z0=some y→BH Tryz.prog l no H (θ 1) [.agg ((Bi z0).map .d)] (vB y))
def dA(a:List Enm):Nat→St:=fun b=>Aa [(1,.fn (.yield 1) [] []),pp 4,(9,vL Bi a),(10,vN a.length),(11,vN b)] [OW]
def ce:Unit→Nat×St:=fun _=>(0,Aa [pp 4] [OW])
def Zx(c:List Enm)(d:Enm→Option Bool)(a:Nat):PT 0 (Lv (Nat) (Unit) (Enm×Bool)):=br (decide ((a:Int)<(c.length:Int))) (ix c a fun b=>wg<|wg<|cf Tryz.prog 1 [.agg ((Bi b).map .d)] (d b) (fun y=>vB y) fun e=>br e (wg<|wg<|An NA nG (b,true)) (vs (wa a 1)<|ln (dA c) (a+1))) (Ah (ce) ())
def MU(b:List Enm)(a:Enm→Option Bool):Nat→Option (Lv (Nat) (Unit) (Enm×Bool)):=fun c=>(Zx b a c).m
def cg:PT 0 (Enm×Bool):=wg<|wg<|lr NA nG ((.mk ⟨#[]⟩ false [] [] []:Enm),false)
def iS(a:List Enm)(b:Enm→Option Bool):PT 0 (Enm×Bool):=vz (Ag a)<|lc (Aa [(1,.fn (.yield 1) [] []),pp 4,(9,vL Bi a),(10,vN a.length),(11,vI 0)] [OW]) ((Al (MU a b) Ai 0).bind (Sum.elim (fun _=>(cg).m) some))
def gC(b:List Enm)(a:Enm→Option Bool):PT 0 (Enm×Bool):=lc (Aa [(0,vL Bi b),(1,.fn (.yield 1) [] []),pp 4] [OW]) ((iS b a).m)
def Ve(b:List Enm)(a:Enm→Option Bool):Option (Enm×Bool):=(gC b a).m
theorem vP{C:Cx}(co:CO C 0)(c:List Enm)(a:Enm→Option Bool)(e:(aJ a) C.no C.l C.H0 C.θ):KL Tryz.prog (Aq tl) 21 C (pa [0,0,1,0,1] (Ar Tryz.f66)) [.cell 4 68,.tmp 5] 0 (dA c) (ce) NA nG (MU c a):=fun h _ m Q b d L=>eN co (Ad [1,4,9,10,11] Ds) (Ad [4] Ds) d m L fun r g=>⟨fun f=>⟨⟨fun y hy=>e _ y hy,by intro r;kernel_rfl,by intro r y;kernel_rfl⟩,fun i=>⟨id,id⟩⟩,id⟩
theorem ZQ5(b:List Enm)(a:Enm→Option Bool):KO Tryz.prog 66 0 [vL Bi b,.fn (.yield 1) [] []] [] (aJ a) (Ve b a) NA nG:=kO Tryz.func66 Tryz.ntmps66 [.cell 4 68,.tmp 5] 0 (fun co c m L=>mJ co 1 (Ad [0,1,4] Ds) nl nH m L fun r g=>fun _ m L=>sq (mJ co 1 (Ad [1,4,9,10,11] Ds) nl nH m L fun r g=>fun _ m L=>bk 0 (lo (Az (vP co b a c) nH m L (fun _ m=>fO co m L)))))
abbrev ah:Bool→AV:=fun y=>vB y
@[reducible] def aD(w0:ByteArray):Bool→List Blk:=fun y=>[⟨0,true,9,1,[vS w0]⟩]
def yB(a:Enm)(w0:ByteArray):PT 1 (Bool):=wg<|wg<|lr ah (aD w0) (decide (a.name=w0))
def Mg(a:Enm)(w0:ByteArray):Option (Bool):=(yB a w0).m
theorem ZQZ(a:Enm)(w0:ByteArray):KO Tryz.prog 67 1 [.agg ((Bi a).map .d),.ptr (0,0) 0 0] [⟨0,true,9,1,[vS w0]⟩] (fun _ _ _ _=>True) (Mg a w0) ah (aD w0):=kO Tryz.func67 Tryz.ntmps67 [.tmp 3] 1 (fun co b m L=>fO co m L)
abbrev Z5:Enm×Bool→AV:=fun y=>.tup [.agg ((Bi y.1).map .d),vB y.2]
def fc(a:Scm)(b:ByteArray):PT 0 (Enm×Bool):=wg<|cs Tryz.prog 66 [vL Bi a.enums,.fn (.func 67) [] [.ptr (1,3) 1 0]] [(1,3)] [((1,3),⟨1,true,9,1,[vS b]⟩)] (Ve a.enums (fun(z0:Enm)=>Mg z0 b)) (fun y=>.tup [.agg ((Bi y.1).map .d),vB y.2]) fun c=>wg<|lr Z5 nG (c.1,c.2)
def V3(a:Scm)(b:ByteArray):Option (Enm×Bool):=(fc a b).m
theorem jg(b:Scm)(a:ByteArray):KC Tryz.prog 24 [.agg ((Ak b).map .d),vS a] (V3 b a) Z5:=Ci Tryz.func24 Tryz.ntmps24 AG [.cell 4 68,.tmp 5] fun C co y m c L=>fO co m L fun r g=>⟨fun y hy=>CQ (ZQ5 b.enums (fun(z0:Enm)=>Mg z0 a)) hy co g [] [((1,3),⟨1,true,9,1,[vS a]⟩)] (AJ [(1,.fn (.func 67) [] [.ptr (r.κ (1,3)) (r.γ (1,3)+1) 0])]) (fun f d h=>(fun z0 y e=>Gf (ZQZ z0 a) e co g [((1,3),⟨1,true,9,1,[vS a]⟩)] [] d (by simp) (fun _=>.top) (fun _ _=>trivial) (fun l H=>⟨fun _=>⟨rfl,by kernel_rfl⟩,by kernel_rfl,trivial⟩))) (fun H=>trivial),fun i=>id⟩
abbrev Z4:Bool→AV:=fun y=>vB y
def bp(a:Int):PT 0 (Bool):=lr Z4 nG (decide ((1:Int)≤a)&&decide (a≤(9:Int)))
def V4(a:Int):Option (Bool):=(bp a).m
theorem Ob(a:Int):KC Tryz.prog 23 [vI a] (V4 a) Z4:=kC Tryz.func23 Tryz.ntmps23 [.tmp 2] fun co m L=>fO co m L
abbrev kb:Bool→AV:=fun y=>vB y
def tM(b:ByteArray)(a:ByteArray):PT 0 (Bool):=vz (AR b.size)<|vz (AR a.size)<|vy (decide ((a.size:Int)≤(b.size:Int))) (AR a.size)<|uI (decide ((a.size:Int)≤(b.size:Int))) b .no (.nt a.size) fun s1=>lr kb nG (decide ((a.size:Int)≤(b.size:Int))&&decide (s1=a))
def lj(a:ByteArray)(b:ByteArray):Option (Bool):=(tM a b).m
theorem y3(a:ByteArray)(b:ByteArray):KC Tryz.prog 219 [vS a,vS b] (lj a b) kb:=kC Tryz.func219 Tryz.ntmps219 [.tmp 4] fun co m L=>fO co m L
abbrev jz:Bool→AV:=fun y=>vB y
def se(a:ByteArray)(b:ByteArray):PT 0 (Bool):=cl (y3 a b) fun c=>lr jz nG c
def Vn(a:ByteArray)(b:ByteArray):Option (Bool):=(se a b).m
theorem ZN2(a:ByteArray)(b:ByteArray):KC Tryz.prog 200 [vS a,vS b] (Vn a b) jz:=kC Tryz.func200 Tryz.ntmps200 [.tmp 4] fun co m L=>fO co m L
abbrev jx:Bool→AV:=fun y=>vB y
def qm(b:ByteArray)(c:Int)(a:Int):PT 0 (Bool):=uI (decide (a=(65533:Int))) b (.it c) .no fun s1=>Aw (decide (a=(65533:Int))) (ZN2 s1 (⟨#[239,191,189]⟩)) fun d=>lr jx nG (decide (a=(65533:Int))&&(!d))
def V2(a:ByteArray)(b:Int)(c:Int):Option (Bool):=(qm a b c).m
theorem yt(a:ByteArray)(b:Int)(c:Int):KC Tryz.prog 166 [vS a,vI b,.d (.int .i32 c)] (V2 a b c) jx:=kC Tryz.func166 Tryz.ntmps166 [.tmp 6] fun co m L=>fO co m L
abbrev Oh:Int→AV:=fun y=>vI y
def tY(a:ByteArray):Nat→St:=fun b=>Aa [(0,vS a),pp 6] [kk 6 (.s a b) 0 []]
def qo:Unit→Nat×St:=fun _=>(0,Aa [] [])
def re(b:ByteArray)(a:Nat):PT 0 (Lv (Nat) (Unit) (Int)):=br (decide (a<b.size)) (wg<|cl (yt b (a:Int) (HV b a)) fun c=>br c (An Oh nG (a:Int)) (ln (tY b) (a+DR b a))) (wg<|Ah (qo) ())
def Qp(a:ByteArray):Nat→Option (Lv (Nat) (Unit) (Int)):=fun b=>(re a b).m
def pU:PT 0 (Int):=lr Oh nG (-1)
def ud(a:ByteArray):PT 0 (Int):=lc (Aa [(0,vS a),pp 6] [kk 6 (.s a 0) 0 []]) ((Al (Qp a) Ai 0).bind (Sum.elim (fun _=>(pU).m) some))
def rY(a:ByteArray):PT 0 (Int):=lc (Aa [(0,vS a)] []) ((ud a).m)
def mu(a:ByteArray):Option (Int):=(rY a).m
theorem Zq4{C:Cx}(co:CO C 0)(b:ByteArray):KL Tryz.prog (Aq tl) 16 C (pa [0,0,1,0,1] (Ar Tryz.f126)) [.tmp 2] 0 (tY b) (qo) Oh nG (Qp b):=fun d _ m Q a c L=>eN co (Ad [0,6] [((1,6),false)]) nl c m L
theorem zg(a:ByteArray):KC Tryz.prog 126 [vS a] (mu a) Oh:=kC Tryz.func126 Tryz.ntmps126 [.tmp 2] fun co m L=>mJ co 1 (AI [0]) nl nH m L fun r g=>fun _ m L=>sq (mJ co 1 (Ad [0,6] [((1,6),false)]) nl nH m L fun r g=>fun _ m L=>bk 0 (lo (Az (Zq4 co a) nH m L (fun _ m=>fO co m L))))
abbrev ai:Bool→AV:=fun y=>vB y
def dY(a:ByteArray):PT 0 (Bool):=cl (zg a) fun b=>lr ai nG (decide (b<(0:Int)))
def VU(a:ByteArray):Option (Bool):=(dY a).m
theorem jo(a:ByteArray):KC Tryz.prog 68 [vS a] (VU a) ai:=kC Tryz.func68 Tryz.ntmps68 [.tmp 2] fun co m L=>fO co m L
abbrev jP:Bool→AV:=fun y=>vB y
def Xy(a:Int):PT 0 (Bool):=lr jP nG (decide (a=(7:Int))||decide (a=(8:Int)))
def Pi(a:Int):Option (Bool):=(Xy a).m
theorem fY(a:Int):KC Tryz.prog 155 [vI a] (Pi a) jP:=kC Tryz.func155 Tryz.ntmps155 [.tmp 2] fun co m L=>fO co m L
abbrev OK:Bool→AV:=fun y=>vB y
def pt(a:Val):PT 0 (Bool):=wg<|vz (Ag a.list)<|wg<|vz (Ag a.pairs)<|vs (wa a.list.length a.pairs.length)<|wg<|vz (Ag a.slots)<|vs (wa (a.list.length+a.pairs.length) a.slots.length)<|wg<|vz (Ag a.raws)<|vs (wa ((a.list.length+a.pairs.length)+a.slots.length) a.raws.length)<|br (decide ((0:Int)<((((a.list.length+a.pairs.length)+a.slots.length)+a.raws.length:Nat):Int))) (lr OK nG false) (wg<|cl (fY a.kind) fun b=>br b (wg<|lr OK nG (decide (a.bits=(0:Int)))) (wg<|lr OK nG (decide (a.text=(⟨#[]⟩:ByteArray)))))
def VL(a:Val):Option (Bool):=(pt a).m
theorem db(a:Val):KC Tryz.prog 110 [.agg ((Ae a).map .d)] (VL a) OK:=kC Tryz.func110 Tryz.ntmps110 [.tmp 2] fun co m L=>fO co m L
abbrev JD:Bool→AV:=fun y=>vB y
def rx(b:Int)(a:Int):PT 0 (Bool):=br (decide (b=(1:Int))) (lr JD nG (decide (a≤(1:Int)))) (br (decide (b=(2:Int))) (vz (wk .i64 a)<|vy (decide (((-2147483648):Int)≤(IntKind.i64.wrap a))) (wk .i64 a)<|lr JD nG (decide (((-2147483648):Int)≤(IntKind.i64.wrap a))&&decide ((IntKind.i64.wrap a)≤(2147483647:Int)))) (br (decide (b=(9:Int))) (lr JD nG (decide (a≤(2147483647:Int)))) (br (decide (b=(4:Int))) (lr JD nG (decide (a≤(4294967295:Int)))) (lr JD nG true))))
def Vu(a:Int)(b:Int):Option (Bool):=(rx a b).m
theorem yw(a:Int)(b:Int):KC Tryz.prog 111 [vI a,.d (.int .u64 b)] (Vu a b) JD:=kC Tryz.func111 Tryz.ntmps111 [.tmp 4] fun co m L=>fO co m L
abbrev R2:Bool→AV:=fun y=>vB y
def b6(b:Int)(a:Val):PT 0 (Bool):=cl (Ob b) fun c=>wg<|wg<|Aw (!((!c)||(!decide (a.kind=b)))) (db a) fun d=>wg<|Aw (!(((!c)||(!decide (a.kind=b)))||(!d))) (yw b a.bits) fun e=>wg<|vy (!((((!c)||(!decide (a.kind=b)))||(!d))||(!e))) (AR a.text.size)<|br (((((!c)||(!decide (a.kind=b)))||(!d))||(!e))||decide ((4096:Int)<(a.text.size:Int))) (lr R2 nG false) (wg<|Aw (!(!decide (b=(7:Int)))) (jo a.text) fun f=>lr R2 nG ((!decide (b=(7:Int)))||f))
def VE(a:Int)(b:Val):Option (Bool):=(b6 a b).m
theorem T4(a:Int)(b:Val):KC Tryz.prog 55 [vI a,.agg ((Ae b).map .d)] (VE a b) R2:=kC Tryz.func55 Tryz.ntmps55 [.tmp 4] fun co m L=>fO co m L
abbrev OL:Int→AV:=fun y=>vI y
def kt(a:Itm→Option Bool):Cl:=fun no l H θ=>(∀(z0:Itm) y,a z0=some y→BH Tryz.prog l no H (θ 1) [.agg ((B5 z0).map .d)] (vB y))
def sV(a:List Itm):Nat→St:=fun b=>Aa [(0,vL B5 a),(1,.fn (.yield 1) [] []),(7,vN a.length),(8,vN b)] []
def r4:Unit→Nat×St:=fun _=>(0,Aa [] [])
def Xc(b:List Itm)(c:Itm→Option Bool)(a:Nat):PT 0 (Lv (Nat) (Unit) (Int)):=br (decide ((a:Int)<(b.length:Int))) (ix b a fun d=>cf Tryz.prog 1 [.agg ((B5 d).map .d)] (c d) (fun y=>vB y) fun e=>br e (An OL nG (a:Int)) (vs (wa a 1)<|ln (sV b) (a+1))) (Ah (r4) ())
def MO(b:List Itm)(a:Itm→Option Bool):Nat→Option (Lv (Nat) (Unit) (Int)):=fun c=>(Xc b a c).m
def rW:PT 0 (Int):=lr OL nG (-1)
def pd(a:List Itm)(b:Itm→Option Bool):PT 0 (Int):=vz (Ag a)<|lc (Aa [(0,vL B5 a),(1,.fn (.yield 1) [] []),(7,vN a.length),(8,vI 0)] []) ((Al (MO a b) Ai 0).bind (Sum.elim (fun _=>(rW).m) some))
def pG(b:List Itm)(a:Itm→Option Bool):PT 0 (Int):=lc (Aa [(0,vL B5 b),(1,.fn (.yield 1) [] [])] []) ((pd b a).m)
def Vb(b:List Itm)(a:Itm→Option Bool):Option (Int):=(pG b a).m
theorem Zr4{C:Cx}(co:CO C 0)(c:List Itm)(a:Itm→Option Bool)(e:(kt a) C.no C.l C.H0 C.θ):KL Tryz.prog (Aq tl) 19 C (pa [0,0,1,0,1] (Ar Tryz.f167)) [.tmp 4] 0 (sV c) (r4) OL nG (MO c a):=fun h _ m Q b d L=>eN co (AI [0,1,7,8]) nl d m L fun r g=>⟨fun f=>⟨⟨fun y hy=>e _ y hy,by intro r;kernel_rfl,by intro r y;kernel_rfl⟩,fun i=>⟨id,id⟩⟩,id⟩
theorem y6(b:List Itm)(a:Itm→Option Bool):KO Tryz.prog 167 0 [vL B5 b,.fn (.yield 1) [] []] [] (kt a) (Vb b a) OL nG:=kO Tryz.func167 Tryz.ntmps167 [.tmp 4] 0 (fun co c m L=>mJ co 1 (AI [0,1]) nl nH m L fun r g=>fun _ m L=>sq (mJ co 1 (AI [0,1,7,8]) nl nH m L fun r g=>fun _ m L=>bk 0 (lo (Az (Zr4 co b a c) nH m L (fun _ m=>fO co m L)))))
abbrev kj:Bool→AV:=fun y=>vB y
def ZQg(a:Itm→Option Bool):Cl:=fun no l H θ=>(∀(z0:Itm) y,a z0=some y→BH Tryz.prog l no H (θ 1) [.agg ((B5 z0).map .d)] (vB y))
def q8(b:List Itm)(a:Itm→Option Bool):PT 0 (Bool):=cs Tryz.prog 167 [vL B5 b,.fn (.yield 1) [] []] [] [] (Vb b a) (fun y=>vI y) fun c=>lr kj nG (decide ((0:Int)≤c))
def O7(b:List Itm)(a:Itm→Option Bool):Option (Bool):=(q8 b a).m
theorem z1(b:List Itm)(a:Itm→Option Bool):KO Tryz.prog 127 0 [vL B5 b,.fn (.yield 1) [] []] [] (ZQg a) (O7 b a) kj nG:=Da Tryz.func127 Tryz.ntmps127 AG [.tmp 4] 0 (fun C co d y m c L=>fO co m L fun r g=>⟨fun y hy=>CQ (y6 b a) hy co g [] [] (AJ [(1,r.θ 1)]) (fun h i e=>(fun z0 y f=>Fy co g [] e (d z0 y f))) (fun H=>trivial),fun j=>id⟩)
abbrev jS:Bool→AV:=fun y=>vB y
@[reducible] def jX(w0:Int):Bool→List Blk:=fun y=>[⟨0,true,27,1,[.d (.int .u64 w0)]⟩]
def wB(a:Itm)(w0:Int):PT 1 (Bool):=wg<|vz (wk .u64 a.num)<|wg<|lr jS (jX w0) (decide ((IntKind.u64.wrap a.num)=w0))
def Pk(a:Itm)(w0:Int):Option (Bool):=(wB a w0).m
theorem yc(a:Itm)(w0:Int):KO Tryz.prog 128 1 [.agg ((B5 a).map .d),.ptr (0,0) 0 0] [⟨0,true,27,1,[.d (.int .u64 w0)]⟩] (fun _ _ _ _=>True) (Pk a w0) jS (jX w0):=kO Tryz.func128 Tryz.ntmps128 [.tmp 3] 1 (fun co b m L=>fO co m L)
abbrev aj:Bool→AV:=fun y=>vB y
def fA(a:Enm)(b:Int):PT 0 (Bool):=wg<|wg<|DQ (!a.opn) Tryz.prog 127 [vL B5 a.items,.fn (.func 128) [] [.ptr (1,3) 1 0]] [(1,3)] [((1,3),⟨1,true,27,1,[.d (.int .u64 b)]⟩)] (O7 a.items (fun(z0:Itm)=>Pk z0 b)) (fun y=>vB y) fun c=>lr aj nG (a.opn||c)
def Vt(a:Enm)(b:Int):Option (Bool):=(fA a b).m
theorem kA(b:Enm)(a:Int):KC Tryz.prog 69 [.agg ((Bi b).map .d),.d (.int .u64 a)] (Vt b a) aj:=Ci Tryz.func69 Tryz.ntmps69 AG [.tmp 4] fun C co y m c L=>fO co m L fun r g=>⟨fun y hy=>CQ (z1 b.items (fun(z0:Itm)=>Pk z0 a)) hy co g [] [((1,3),⟨1,true,27,1,[.d (.int .u64 a)]⟩)] (AJ [(1,.fn (.func 128) [] [.ptr (r.κ (1,3)) (r.γ (1,3)+1) 0])]) (fun f d h=>(fun z0 y e=>Gf (yc z0 a) e co g [((1,3),⟨1,true,27,1,[.d (.int .u64 a)]⟩)] [] d (by simp) (fun _=>.top) (fun _ _=>trivial) (fun l H=>⟨fun _=>⟨rfl,by kernel_rfl⟩,by kernel_rfl,trivial⟩))) (fun H=>trivial),fun i=>id⟩
abbrev H8:Int→AV:=fun y=>vI y
def dL(c:Scm)(a:Typ)(b:Val):PT 0 (Int):=wg<|wg<|wg<|Aw (!(!decide (b.kind=a.kind))) (Ov b) fun d=>br ((!decide (b.kind=a.kind))||d) (lr H8 nG 12) (wg<|vz (AR b.text.size)<|br (decide ((4096:Int)<(b.text.size:Int))) (lr H8 nG 3) (wg<|wg<|Aw (decide (a.kind=(7:Int))) (jo b.text) fun e=>br (decide (a.kind=(7:Int))&&(!e)) (lr H8 nG 7) (wg<|wg<|cl (T4 a.kind b) fun f=>br (!f) (lr H8 nG 12) (wg<|wg<|cl (jg c a.name) fun g=>wg<|wg<|wg<|wg<|Aw (decide (a.kind=(9:Int))) (kA g.1 b.bits) fun h=>br (decide (a.kind=(9:Int))&&(!h)) (lr H8 nG 16) (lr H8 nG 0)))))
def VY(a:Scm)(b:Typ)(c:Val):Option (Int):=(dL a b c).m
theorem kQ(a:Scm)(b:Typ)(c:Val):KC Tryz.prog 25 [.agg ((Ak a).map .d),.agg ((CJ b).map .d),.agg ((Ae c).map .d)] (VY a b c) H8:=kC Tryz.func25 Tryz.ntmps25 [.tmp 6] fun co m L=>fO co m L
abbrev Oy:Int→AV:=fun y=>vI y
def jL(a:Pr→Option Bool):Cl:=fun no l H θ=>(∀(z0:Pr) y,a z0=some y→BH Tryz.prog l no H (θ 1) [.agg ((Cg z0).map .d)] (vB y))
def pu(a:List Pr):Nat→St:=fun b=>Aa [(0,vL Ay a),(1,.fn (.yield 1) [] []),(7,vN a.length),(8,vN b)] []
def tt:Unit→Nat×St:=fun _=>(0,Aa [] [])
def XG(b:List Pr)(c:Pr→Option Bool)(a:Nat):PT 0 (Lv (Nat) (Unit) (Int)):=br (decide ((a:Int)<(b.length:Int))) (ix b a fun d=>cf Tryz.prog 1 [.agg ((Cg d).map .d)] (c d) (fun y=>vB y) fun e=>br e (An Oy nG (a:Int)) (vs (wa a 1)<|ln (pu b) (a+1))) (Ah (tt) ())
def MP(b:List Pr)(a:Pr→Option Bool):Nat→Option (Lv (Nat) (Unit) (Int)):=fun c=>(XG b a c).m
def sb:PT 0 (Int):=lr Oy nG (-1)
def qd(a:List Pr)(b:Pr→Option Bool):PT 0 (Int):=vz (Ag a)<|lc (Aa [(0,vL Ay a),(1,.fn (.yield 1) [] []),(7,vN a.length),(8,vI 0)] []) ((Al (MP a b) Ai 0).bind (Sum.elim (fun _=>(sb).m) some))
def s9(b:List Pr)(a:Pr→Option Bool):PT 0 (Int):=lc (Aa [(0,vL Ay b),(1,.fn (.yield 1) [] [])] []) ((qd b a).m)
def Vc(b:List Pr)(a:Pr→Option Bool):Option (Int):=(s9 b a).m
theorem Zr1{C:Cx}(co:CO C 0)(c:List Pr)(a:Pr→Option Bool)(e:(jL a) C.no C.l C.H0 C.θ):KL Tryz.prog (Aq tl) 19 C (pa [0,0,1,0,1] (Ar Tryz.f220)) [.tmp 4] 0 (pu c) (tt) Oy nG (MP c a):=fun h _ m Q b d L=>eN co (AI [0,1,7,8]) nl d m L fun r g=>⟨fun f=>⟨⟨fun y hy=>e _ y hy,by intro r;kernel_rfl,by intro r y;kernel_rfl⟩,fun i=>⟨id,id⟩⟩,id⟩
theorem z6(b:List Pr)(a:Pr→Option Bool):KO Tryz.prog 220 0 [vL Ay b,.fn (.yield 1) [] []] [] (jL a) (Vc b a) Oy nG:=kO Tryz.func220 Tryz.ntmps220 [.tmp 4] 0 (fun co c m L=>mJ co 1 (AI [0,1]) nl nH m L fun r g=>fun _ m L=>sq (mJ co 1 (AI [0,1,7,8]) nl nH m L fun r g=>fun _ m L=>bk 0 (lo (Az (Zr1 co b a c) nH m L (fun _ m=>fO co m L)))))
abbrev kF:Bool→AV:=fun y=>vB y
def ZQH(a:Pr→Option Bool):Cl:=fun no l H θ=>(∀(z0:Pr) y,a z0=some y→BH Tryz.prog l no H (θ 1) [.agg ((Cg z0).map .d)] (vB y))
def q5(b:List Pr)(a:Pr→Option Bool):PT 0 (Bool):=cs Tryz.prog 220 [vL Ay b,.fn (.yield 1) [] []] [] [] (Vc b a) (fun y=>vI y) fun c=>lr kF nG (decide ((0:Int)≤c))
def L3(b:List Pr)(a:Pr→Option Bool):Option (Bool):=(q5 b a).m
theorem ZNH(b:List Pr)(a:Pr→Option Bool):KO Tryz.prog 204 0 [vL Ay b,.fn (.yield 1) [] []] [] (ZQH a) (L3 b a) kF nG:=Da Tryz.func204 Tryz.ntmps204 AG [.tmp 4] 0 (fun C co d y m c L=>fO co m L fun r g=>⟨fun y hy=>CQ (z6 b a) hy co g [] [] (AJ [(1,r.θ 1)]) (fun h i e=>(fun z0 y f=>Fy co g [] e (d z0 y f))) (fun H=>trivial),fun j=>id⟩)
abbrev ay:Bool→AV:=fun y=>vB y
def bx(a:Int):PT 0 (Bool):=lr ay nG (!decide (a=a))
def lD(a:Int):Option (Bool):=(bx a).m
theorem kP(a:Int):KC Tryz.prog 96 [vI a] (lD a) ay:=kC Tryz.func96 Tryz.ntmps96 [.tmp 2] fun co m L=>fO co m L
abbrev H9:Int→AV:=fun y=>vI y
def bo(a:Int)(b:Int):PT 0 (Int):=cl (kP a) fun d=>cl (kP b) fun c=>br d (br c (lr H9 nG 0) (lr H9 nG (-1))) (br c (lr H9 nG 1) (br (decide (a<b)) (lr H9 nG (-1)) (br (decide (b<a)) (lr H9 nG 1) (lr H9 nG 0))))
def Vf(a:Int)(b:Int):Option (Int):=(bo a b).m
theorem LY(a:Int)(b:Int):KC Tryz.prog 41 [vI a,vI b] (Vf a b) H9:=kC Tryz.func41 Tryz.ntmps41 [.tmp 4] fun co m L=>fO co m L
abbrev j6:Val→AV:=fun y=>.ifc 217 [(.int .i64 y.kind),(.int .u64 y.bits),(.str y.text),(.list (y.list.map AF)),(.list (y.pairs.map Ay)),(.list (y.slots.map At)),(.list (y.raws.map A4))] true
def tH(a:Val):PT 0 (Val):=wg<|cl (Ob a.kind) fun b=>bT b<|wg<|lr j6 nG a
def lG(a:Val):Option (Val):=(tH a).m
theorem cT(a:Val):KC Tryz.prog 181 [.agg ((Ae a).map .d)] (lG a) j6:=kC Tryz.func181 Tryz.ntmps181 [.tmp 2] fun co m L=>fO co m L
abbrev jy:Bool→AV:=fun y=>vB y
def p7(a:ByteArray):PT 0 (Bool):=lr jy nG (!decide (a=a))
def lw(a:ByteArray):Option (Bool):=(p7 a).m
theorem gG(a:ByteArray):KC Tryz.prog 223 [vS a] (lw a) jy:=kC Tryz.func223 Tryz.ntmps223 [.tmp 2] fun co m L=>fO co m L
abbrev IN:Int→AV:=fun y=>vI y
def qq(a:ByteArray)(b:ByteArray):PT 0 (Int):=cl (gG a) fun d=>cl (gG b) fun c=>br d (br c (lr IN nG 0) (lr IN nG (-1))) (br c (lr IN nG 1) (br (BL a b) (lr IN nG (-1)) (br (!(BL a b||decide (a=b))) (lr IN nG 1) (lr IN nG 0))))
def Vk(a:ByteArray)(b:ByteArray):Option (Int):=(qq a b).m
theorem zb(a:ByteArray)(b:ByteArray):KC Tryz.prog 211 [vS a,vS b] (Vk a b) IN:=kC Tryz.func211 Tryz.ntmps211 [.tmp 4] fun co m L=>fO co m L
abbrev k8:Bool→AV:=fun y=>vB y
def sS(a:Int):PT 0 (Bool):=lr k8 nG (!decide (a=a))
def lx(a:Int):Option (Bool):=(sS a).m
theorem fD(a:Int):KC Tryz.prog 224 [.d (.int .u64 a)] (lx a) k8:=kC Tryz.func224 Tryz.ntmps224 [.tmp 2] fun co m L=>fO co m L
abbrev IQ:Int→AV:=fun y=>vI y
def rL(a:Int)(b:Int):PT 0 (Int):=cl (fD a) fun d=>cl (fD b) fun c=>br d (br c (lr IQ nG 0) (lr IQ nG (-1))) (br c (lr IQ nG 1) (br (decide (a<b)) (lr IQ nG (-1)) (br (decide (b<a)) (lr IQ nG 1) (lr IQ nG 0))))
def Vj(a:Int)(b:Int):Option (Int):=(rL a b).m
theorem dT(a:Int)(b:Int):KC Tryz.prog 212 [.d (.int .u64 a),.d (.int .u64 b)] (Vj a b) IQ:=kC Tryz.func212 Tryz.ntmps212 [.tmp 4] fun co m L=>fO co m L
abbrev JR:Int→AV:=fun y=>vI y
def tq(a:Int):PT 0 (Int):=vz (Z1 .u64 a (9218868437227405312:Int))<|vz (Z1 .u64 a (4503599627370495:Int))<|br (decide ((CI .u64 a (9218868437227405312:Int))=(9218868437227405312:Int))&&(!decide ((CI .u64 a (4503599627370495:Int))=(0:Int)))) (lr JR nG 0) (br (decide ((CI .u64 a (9218868437227405312:Int))=(9218868437227405312:Int))) (lr JR nG 1) (br (decide ((CI .u64 a (9218868437227405312:Int))=(0:Int))&&decide ((CI .u64 a (4503599627370495:Int))=(0:Int))) (lr JR nG 2) (br (decide ((CI .u64 a (9218868437227405312:Int))=(0:Int))) (lr JR nG 3) (lr JR nG 4))))
def Vs(a:Int):Option (Int):=(tq a).m
theorem cu(a:Int):KC Tryz.prog 145 [.d (.int .u64 a)] (Vs a) JR:=kC Tryz.func145 Tryz.ntmps145 [.tmp 2] fun co m L=>fO co m L
abbrev OH:Int→AV:=fun y=>.d (.int .u64 y)
def r8(a:Int):PT 0 (Int):=cl (cu a) fun b=>br (decide (b=(0:Int))) (lr OH nG 18446744073709551615) (vz (Z1 .u64 a (9223372036854775808:Int))<|br (!decide ((CI .u64 a (9223372036854775808:Int))=(0:Int))) (vz (wcp .u64 a)<|lr OH nG (HM .u64 a)) (vz (wor .u64 a (9223372036854775808:Int))<|lr OH nG (Fl .u64 a (9223372036854775808:Int))))
def Vq(a:Int):Option (Int):=(r8 a).m
theorem gp(a:Int):KC Tryz.prog 213 [.d (.int .u64 a)] (Vq a) OH:=kC Tryz.func213 Tryz.ntmps213 [.tmp 2] fun co m L=>fO co m L
abbrev IU:Int→AV:=fun y=>vI y
def rI(a:Val)(b:Val):PT 0 (Int):=wg<|wg<|br (!decide (a.kind=b.kind)) (wg<|wg<|cl (LY a.kind b.kind) fun c=>lr IU nG c) (wg<|cl (Ob a.kind) fun d=>br (!d) (lr IU nG 0) (wg<|cl (fY a.kind) fun e=>br e (wg<|wg<|cl (zb a.text b.text) fun f=>lr IU nG f) (wg<|wg<|br (decide (a.kind=(2:Int))||decide (a.kind=(3:Int))) (wg<|vz (wk .i64 a.bits)<|wg<|vz (wk .i64 b.bits)<|cl (LY (IntKind.i64.wrap a.bits) (IntKind.i64.wrap b.bits)) fun g=>lr IU nG g) (wg<|br (decide (a.kind=(6:Int))) (wg<|cl (gp a.bits) fun h=>wg<|cl (gp b.bits) fun i=>cl (dT h i) fun j=>lr IU nG j) (wg<|wg<|cl (dT a.bits b.bits) fun k=>lr IU nG k)))))
def lR(a:Val)(b:Val):Option (Int):=(rI a b).m
theorem ZOc(a:Val)(b:Val):KC Tryz.prog 182 [.agg ((Ae a).map .d),.agg ((Ae b).map .d)] (lR a b) IU:=kC Tryz.func182 Tryz.ntmps182 [.tmp 4] fun co m L=>fO co m L
abbrev TZ:Int→AV:=fun y=>vI y
def XC(b:Val)(a:Val):PT 0 (Int):=wg<|wg<|br (!decide (b.kind=a.kind)) (wg<|wg<|cl (LY b.kind a.kind) fun c=>lr TZ nG c) (wg<|cl (cT a) fun f=>wg<|cl (cT b) fun d=>wg<|wg<|wg<|wg<|cl (ZOc d a) fun e=>lr TZ nG e)
def VZ(a:Val)(b:Val):Option (Int):=(XC a b).m
theorem ff(a:Val)(b:Val):KC Tryz.prog 143 [.agg ((Ae a).map .d),.agg ((Ae b).map .d)] (VZ a b) TZ:=kC Tryz.func143 Tryz.ntmps143 [.tmp 4] fun co m L=>fO co m L
abbrev jG:Bool→AV:=fun y=>vB y
def XI(a:Val)(b:Val):PT 0 (Bool):=wg<|wg<|cl (ff a b) fun c=>lr jG nG (decide (c=(0:Int)))
def Pu(a:Val)(b:Val):Option (Bool):=(XI a b).m
theorem fg(a:Val)(b:Val):KC Tryz.prog 144 [.agg ((Ae a).map .d),.agg ((Ae b).map .d)] (Pu a b) jG:=kC Tryz.func144 Tryz.ntmps144 [.tmp 4] fun co m L=>fO co m L
abbrev je:Bool→AV:=fun y=>vB y
@[reducible] def jM(w0:Pr):Bool→List Blk:=fun y=>[⟨0,true,57,14,(cD (Cg w0))⟩]
def o6(a:Pr)(w0:Pr):PT 1 (Bool):=wg<|wg<|cl (fg a.key w0.key) fun b=>lr je (jM w0) b
def Mc(a:Pr)(w0:Pr):Option (Bool):=(o6 a w0).m
theorem zU(a:Pr)(w0:Pr):KO Tryz.prog 205 1 [.agg ((Cg a).map .d),.ptr (0,0) 0 0] [⟨0,true,57,14,(cD (Cg w0))⟩] (fun _ _ _ _=>True) (Mc a w0) je (jM w0):=kO Tryz.func205 Tryz.ntmps205 [.tmp 3] 1 (fun co b m L=>fO co m L)
abbrev kB:Bool→AV:=fun y=>vB y
def o3(d:Scm)(a:Fld)(b:Raw):PT 0 (Bool):=wg<|wg<|cl (jg d a.type.name) fun c=>wg<|wg<|wg<|wg<|wg<|wg<|wg<|Aw ((((c.2&&decide (a.type.kind=(9:Int)))&&(!decide (a.card=(5:Int))))&&decide (b.wire=(0:Int)))&&decide (b.bits<(2147483648:Int))) (kA c.1 b.bits) fun e=>lr kB nG (((((c.2&&decide (a.type.kind=(9:Int)))&&(!decide (a.card=(5:Int))))&&decide (b.wire=(0:Int)))&&decide (b.bits<(2147483648:Int)))&&(!e))
def VC(a:Scm)(b:Fld)(c:Raw):Option (Bool):=(o3 a b c).m
theorem yI(a:Scm)(b:Fld)(c:Raw):KC Tryz.prog 121 [.agg ((Ak a).map .d),.agg ((Am b).map .d),.agg ((A4 c).map .d)] (VC a b c) kB:=kC Tryz.func121 Tryz.ntmps121 [.tmp 6] fun co m L=>fO co m L
abbrev K9:Int→AV:=fun y=>vI y
def gI(c:Scm)(d:Msg)(a:Raw):PT 0 (Int):=wg<|wg<|wg<|cl (Uy d a.num) fun b=>wg<|wg<|wg<|wg<|wg<|br (((decide (a.num<(1:Int))||decide ((65535:Int)<a.num))||decide (a.wire<(0:Int)))||decide ((6:Int)<a.wire)) (lr K9 nG 1) (wg<|wg<|wg<|wg<|wg<|Aw ((!((decide (a.wire≤(2:Int))&&(!decide (a.data=(⟨#[]⟩:ByteArray))))||((!(decide (a.wire≤(2:Int))))&&(!decide (a.bits=(0:Int))))))&&b.2) (yI c b.1 a) fun e=>br (((decide (a.wire≤(2:Int))&&(!decide (a.data=(⟨#[]⟩:ByteArray))))||((!(decide (a.wire≤(2:Int))))&&(!decide (a.bits=(0:Int)))))||(b.2&&(!e))) (lr K9 nG 1) (wg<|wg<|vy (decide (a.wire=(3:Int))) (AR a.data.size)<|wg<|vy (!(decide (a.wire=(3:Int))&&decide ((4096:Int)<(a.data.size:Int)))) (AR a.data.size)<|br ((decide (a.wire=(3:Int))&&decide ((4096:Int)<(a.data.size:Int)))||decide ((65536:Int)<(a.data.size:Int))) (lr K9 nG 3) (lr K9 nG 0)))
def VX(a:Scm)(b:Msg)(c:Raw):Option (Int):=(gI a b c).m
theorem ZQq(a:Scm)(b:Msg)(c:Raw):KC Tryz.prog 63 [.agg ((Ak a).map .d),.agg ((Au b).map .d),.agg ((A4 c).map .d)] (VX a b c) K9:=kC Tryz.func63 Tryz.ntmps63 [.tmp 6] fun co m L=>fO co m L
abbrev Cy:Int→AV:=fun y=>vI y
abbrev LX:List (Ab×Bool):=[((1,5),false),((1,11),false)]
abbrev Iq(a:Fld×Bool):Ab×Blk:=kk 11 53 16 (cD (Am a.1))
abbrev Jw(a:Scm):Ab×Blk:=kk 5 26 3 (cD (Ak a))
abbrev Jb:Int→AV:=fun y=>vI y
def dn(b:Scm)(c:List Slt)(d:Int)(e:Int)(g:Fld×Bool)(a:List Fld):Nat→St:=fun f=>Aa [(2,vL At c),(3,vI d),(4,vI e),pp 5,pp 11,(35,vL Am a),(36,vN a.length),(37,vN f)] [(Jw b),(Iq g)]
def ii(a:Scm)(b:List Slt)(c:Int)(d:Int)(e:Fld×Bool):Unit→Nat×St:=fun _=>(0,Aa [(2,vL At b),(3,vI c),(4,vI d),pp 5,pp 11] [(Jw a),(Iq e)])
def SK(h:Scm)(d:List Slt)(e:Int)(i:Int)(b:Fld×Bool)(f:List Fld)(c:Nat):PT 0 (Lv (Nat) (Unit) (Int)):=br (decide ((c:Int)<(f.length:Int))) (ix f c fun a=>wg<|wg<|wg<|sLg (!decide (a.num=b.1.num)) d .no (.it e) fun g=>DQ (!decide (a.num=b.1.num)) Tryz.prog 61 [vL At g,.fn (.func 117) [] [.ptr (1,14) 1 0]] [(1,14)] [((1,14),⟨1,true,53,16,(cD (Am a))⟩)] (Pv g a) (fun y=>vB y) fun j=>br ((!decide (a.num=b.1.num))&&j) (An Jb nG 15) (vs (wa c 1)<|ln (dn h d e i b f) (c+1))) (Ah (ii h d e i b) ())
def Kz(b:Scm)(c:List Slt)(d:Int)(e:Int)(a:Scm→Fld→Val→Int→Option (Int))(g:Fld×Bool)(h:List Fld):Nat→Option (Lv (Nat) (Unit) (Int)):=fun f=>(SK b c d e g h f).m
def ci(d:Scm)(g:List Slt)(h:Int)(e:Int)(a:Scm→Fld→Val→Int→Option (Int))(f:Fld×Bool):PT 0 (Int):=wg<|wg<|CA g h fun b=>cs Tryz.prog 118 [.agg ((Ak d).map .d),.agg ((Am f.1).map .d),.agg ((Ae b.val).map .d),vI e] [] [] (a d f.1 b.val e) (fun y=>vI y) fun c=>lr Jb nG c
def dh(d:Scm)(h:Msg)(e:List Slt)(f:Int)(g:Int)(a:Scm→Fld→Val→Int→Option (Int))(b:Fld×Bool):PT 0 (Int):=wg<|cl (zQ h b.1.union) fun c=>vz (Ag c)<|lc (Aa [(2,vL At e),(3,vI f),(4,vI g),pp 5,pp 11,(35,vL Am c),(36,vN c.length),(37,vI 0)] [(Jw d),(Iq b)]) ((Al (Kz d e f g a b c) Ai 0).bind (Sum.elim (fun _=>(ci d e f g a b).m) some))
def eJ(f:Scm)(g:Msg)(c:List Slt)(d:Int)(h:Int)(a:Scm→Fld→Val→Int→Option (Int))(b:Fld×Bool):PT 0 (Int):=br (!b.2) (lr Jb nG 8) (sL c .no (.it d) fun e=>cs Tryz.prog 61 [vL At e,.fn (.func 115) [] [.ptr (1,11) 0 0]] [(1,11)] [(Iq b)] (Pw e b.1) (fun y=>vB y) fun i=>br i (lr Jb nG 9) (lc (Aa [(2,vL At c),(3,vI d),(4,vI h),pp 5,(6,.iptr (Au g) 0),pp 11] [(Jw f),(Iq b)]) ((dh f g c d h a b).m)))
def Td(f:Scm)(b:Msg)(c:List Slt)(d:Int)(g:Int)(a:Scm→Fld→Val→Int→Option (Int)):PT 0 (Int):=vw (.fzb 6 [6])<|vw .sep<|CA c d fun h=>du (cl (Uy b h.num) fun e=>wg<|lc (Aa [(2,vL At c),(3,vI d),(4,vI g),pp 5,(6,.iptr (Au b) 0),pp 11,(12,vB e.2)] [(Jw f),(Iq e)]) ((eJ f b c d g a e).m))
def iu(b:Scm)(c:Msg)(d:List Slt)(e:Int)(f:Int)(a:Scm→Fld→Val→Int→Option (Int)):PT 0 (Int):=lc (Aa [(2,vL At d),(3,vI e),(4,vI f),pp 5,pp 6] [(Jw b),kk 6 47 5 (cD (Au c))]) ((Td b c d e f a).m)
def Pq(a:Scm→Fld→Val→Int→Option (Int))(b:Scm)(c:Msg)(d:List Slt)(e:Int)(f:Int):Option (Int):=(iu b c d e f a).m
theorem Zzq{C:Cx}(co:CO C 0)(b:Scm)(c:List Slt)(d:Int)(e:Int)(a:Scm→Fld→Val→Int→Option (Int))(f:Fld×Bool)(k:List Fld)(o:∀(b:Scm) (j:Fld) (c:Val) (d:Int),KC Tryz.prog 118 [.agg ((Ak b).map .d),.agg ((Am j).map .d),.agg ((Ae c).map .d),vI d] (a b j c d) Cy):KL Tryz.prog (Aq tl) 63 C (pa [0,0,1,0,1,1,1,1] (Ar Tryz.f60)) [.tmp 10] 0 (dn b c d e f k) (ii b c d e f) Jb nG (Kz b c d e a f k):=fun p _ m Q h l L=>eN co (Ad [2,3,4,5,11,35,36,37] LX) (Ad [2,3,4,5,11] LX) l m L fun r g=>⟨fun i=>fun n=>⟨fun y hy=>s6 (x4 n i) hy co g [((1,14),⟨1,true,53,16,(cD (Am i))⟩)] [],fun q=>⟨id,id⟩⟩,id⟩
theorem TU(a:Scm→Fld→Val→Int→Option (Int))(j:∀(b:Scm) (h:Fld) (d:Val) (e:Int),KC Tryz.prog 118 [.agg ((Ak b).map .d),.agg ((Am h).map .d),.agg ((Ae d).map .d),vI e] (a b h d e) Cy)(b:Scm)(h:Msg)(d:List Slt)(e:Int)(f:Int):KC Tryz.prog 60 [.agg ((Ak b).map .d),.agg ((Au h).map .d),vL At d,vI e,vI f] (Pq a b h d e f) Jb:=Ci Tryz.func60 Tryz.ntmps60 AG [.tmp 10] fun C co y m k L=>mJ co 1 (Ad [2,3,4,5,6] [((1,5),false),((1,6),false)]) nl nH m L fun r g=>fun _ m L=>sq (EE co AG BM (.fst 0 (.fst 1 (.fst 2 (.fst 3 (.fst 4 (.fst 5 (.two 6 10 (.fst 7 (.fst 8 (.fst 9 (.fst 10 (.fst 11 (.fst 12 .nil)))))) (.fst 6 (.fst 7 (.fst 8 (.fst 9 (.fst 11 (.fst 12 .nil))))))))))))) [6] (Td b h d e f a) (Ad [2,3,4,5,6,11,12] LX) m L fun r g=>fun q=>fun i=>fun _ m L=>mJ co 2 (Ad [2,3,4,5,6,11] LX) nl nH m L fun r g=>⟨id,fun n=>⟨fun y hy=>s6 (xm n i.1) hy co g [(Iq i)] [],fun s=>⟨id,fun _ m L=>sq (mJ co 1 (Ad [2,3,4,5,11,35,36,37] LX) nl nH m L fun r g=>fun p=>fun _ m L=>bk 0 (lo (Az (Zzq co b d e f a i p j) nH m L (fun _ m=>fO co m L fun r g=>fun c=>⟨fun y hy l _ _=>by rw[(j b i.1 c.val f).x,(j b i.1 c.val f).e];exact(j b i.1 c.val f).k _ l y hy,fun o=>id⟩))))⟩⟩⟩)
end Go.Proofs.YtopncadjpnkjhaaGreatDoor
