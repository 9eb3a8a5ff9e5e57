import Derived.Test.YtopncadjpnkjhaaGreatDoorZj14
import Derived.Test.YtopncadjpnkjhaaGreatDoorZj00
namespace Go.Proofs.YtopncadjpnkjhaaGreatDoor
set_option maxRecDepth 100000
set_option linter.all false
open Go Go.Eng
abbrev Dh:List (Ab×Bool):=[((1,1),false)]
abbrev KH(a:Val):Ab×Blk:=kk 1 33 7 (cD (Af a))
abbrev NL:List Val→AV:=fun y=>vL AF y
def bA(a:Val):List Val×Nat→St:=fun(b,v3)=>Aa [pp 1,(3,.ref (1,10) 0 0 b.length),(12,vL Ay a.pairs),(13,vN a.pairs.length),(14,vN v3)] [(KH a),kk 10 33 7 (Ac AF b)]
def lU(b:Val):List Val→Nat×St:=fun a=>(0,Aa [pp 1,(3,.ref (1,10) 0 0 a.length)] [(KH b),kk 10 33 7 (Ac AF a)])
def Ni(c:Val):List Val×Nat→Option (Lv (List Val×Nat) (List Val) (List Val)):=fun(b,v3)=>(br (decide ((v3:Int)<(c.pairs.length:Int))) (ix c.pairs v3 fun a=>wg<|wg<|wg<|vw .sep<|X4 b (a.key:Val) a.val<|vs (wa v3 1)<|vz (fl (b++([a.key,a.val])))<|ln (bA c) (b++([a.key,a.val]),v3+1)) (vz (fl b)<|Ai (lU c) b):PT 0 _).m
def lP(a:Val):List Val×Nat→St:=fun(b,c)=>Aa [(3,.ref (1,10) 0 0 b.length),(27,vL At a.slots),(28,vN a.slots.length),(29,vN c)] [kk 10 33 7 (Ac AF b)]
def aQ:List Val→Nat×St:=fun a=>(2,Aa [(3,.ref (1,10) 0 0 a.length)] [kk 10 33 7 (Ac AF a)])
def MT(d:Val):List Val×Nat→Option (Lv (List Val×Nat) (List Val) (List Val)):=fun(a,b)=>(br (decide ((b:Int)<(d.slots.length:Int))) (ix d.slots b fun c=>wg<|wg<|vw .sep<|ap a (c.val:Val)<|vs (wa b 1)<|vz (fl (a++[c.val]))<|ln (lP d) (a++[c.val],b+1)) (vz (fl a)<|Ai (aQ) a):PT 0 _).m
def Vm(a:Val):Option (List Val):=(lc (Aa [pp 1] [(KH a)]) ((wg<|lc (Aa [pp 1,(9,vL AF a.list)] [(KH a)]) ((PL a.list).bind fun b=>(vz (fl b)<|lc (Aa [pp 1,(3,.ref (1,10) 0 0 b.length)] [(KH a),kk 10 33 7 (Ac AF b)]) ((wg<|vz (Ag a.pairs)<|vz (fl b)<|lc (Aa [pp 1,(3,.ref (1,10) 0 0 b.length),(12,vL Ay a.pairs),(13,vN a.pairs.length),(14,vI 0)] [(KH a),kk 10 33 7 (Ac AF b)]) ((Ak (Ni a) Ah (b,0)).bind (Sum.elim (fun c=>(wg<|vz (Ag a.slots)<|vz (fl c)<|lc (Aa [(3,.ref (1,10) 0 0 c.length),(27,vL At a.slots),(28,vN a.slots.length),(29,vI 0)] [kk 10 33 7 (Ac AF c)]) ((Ak (MT a) Ah (c,0)).bind (Sum.elim (fun d=>(vz (fr d)<|lr NL nG d:PT 0 _).m) some)):PT 0 _).m) some)):PT 0 _).m):PT 0 _).m):PT 0 _).m):PT 0 _).m
theorem xx{C:Cx}(co:CO C 0)(a:Val):KL Tryz.prog (Aq tl) 40 C (pa [0,0,1,0,1,1] (Ar Tryz.f43)) [.tmp 2] 0 (bA a) (lU a) NL nG (Ni a):=fun(d,v3) _ m Q b c L=>eN co (Ad [1,3,12,13,14] Fo) (Ad [1,3] Fo) c m L
theorem xz{C:Cx}(co:CO C 0)(b:Val):KL Tryz.prog (Aq tl) 40 C (pa [0,0,1,0,1,1,1] (Ar Tryz.f43)) [.tmp 2] 0 (lP b) (aQ) NL nG (MT b):=fun(d,e) _ m Q a c L=>eN co (Ad [3,27,28,29] [((1,10),true)]) (Ad [3] [((1,10),true)]) c m L
theorem cI(a:Val):KC Tryz.prog 43 [.agg ((Af a).map .d)] (Vm a) NL:=kC Tryz.func43 Tryz.ntmps43 [.tmp 2] fun co m L=>mJ co 1 (Ad [1] Dh) nl nH m L fun r g=>fun _ m L=>sq (rg (pR co 2 (Ad [1,9] Dh) m L fun r g=>fun _ m L=>c6 co m (pi a.list) [((1,10),⟨0,false,0,0,[]⟩)] [] (fun z=>.ref (1,10) 1 0 z.length) (fun z=>[((1,10),⟨1,true,33,7,Ac AF z⟩)]) [] fun d m=>eR co (Ad [1,3] Fo) m L fun r g=>fun _ m L=>sq (mJ co 1 (Ad [1,3,12,13,14] Fo) nl nH m L fun r g=>fun _ m L=>bk 0 (lo (Az (xx co a) nH m L (fun b m=>sq (mJ co 1 (Ad [3,27,28,29] [((1,10),true)]) nl nH m L fun r g=>fun _ m L=>bk 2 (lo (Az (xz co a) nH m L (fun c m=>fO co m L))))))))))
abbrev Ld:Int→AV:=fun y=>vI y
def bo(a:List Val):Int×Nat→St:=fun(v2,v3)=>Aa [(3,vI v2),(11,vL AF a),(12,vN a.length),(13,vN v3)] []
def bB:Int→Nat×St:=fun a=>(0,Aa [(3,vI a)] [])
abbrev Nm:=Val→Option (Int)
def MX(a:Nm)(b:List Val):Int×Nat→Option (Lv (Int×Nat) (Int) (Int)):=fun(v2,v3)=>(br (decide ((v3:Int)<(b.length:Int))) (ix b v3 fun c=>wg<|wg<|cs Tryz.prog 18 [.agg ((Af c).map .d)] [] [] (a c) (fun y=>vI y) fun d=>vs (wi (v2+d))<|vs (wa v3 1)<|ln (bo b) ((v2+d),v3+1)) (Ai (bB) v2):PT 0 _).m
def Ot(c:Nm)(a:Val):Option (Int):=(wg<|vz (Ag a.raws)<|vs (wa 1 a.raws.length)<|lc (Aa [pp 1,(3,vN (1+a.raws.length))] [kk 1 33 7 (cD (Af a))]) ((wg<|cl (cI a) fun b=>vz (Ag b)<|lc (Aa [(3,vN (1+a.raws.length)),(11,vL AF b),(12,vN b.length),(13,vI 0)] []) ((Ak (MX c b) Ah (((1+a.raws.length:Nat):Int),0)).bind (Sum.elim (fun d=>(lr Ld nG d:PT 0 _).m) some)):PT 0 _).m):PT 0 _).m
abbrev cU(a:Nm):Prop:=∀(b:Val),KC Tryz.prog 18 [.agg ((Af b).map .d)] (a b) Ld
theorem x5{C:Cx}(co:CO C 0)(a:Nm)(e:List Val)(c:cU a):KL Tryz.prog (Aq tl) 23 C (pa [0,0,1,0,1,1] (Ar Tryz.f18)) [.tmp 2] 0 (bo e) (bB) Ld nG (MX a e):=fun(v2,v3) _ m Q d h L=>eN co (AI [3,11,12,13]) (AI [3]) h m L fun r g=>⟨fun b=>⟨fun y hy f _ _=>by rw[(c b).x,(c b).e];exact(c b).k _ f y hy,fun i=>id⟩,id⟩
theorem oD(a:Nm)(c:cU a)(b:Val):KC Tryz.prog 18 [.agg ((Af b).map .d)] (Ot a b) Ld:=kC Tryz.func18 Tryz.ntmps18 [.tmp 2] fun co m L=>mJ co 2 (Ad [1,3] Dh) nl nH m L fun r g=>fun _ m L=>sq (mJ co 1 (AI [3,11,12,13]) nl nH m L fun r g=>fun d=>fun _ m L=>bk 0 (lo (Az (x5 co a d c) nH m L (fun e m=>fO co m L))))
def JJ:Nat→Val→Option (Int)
 |0=>fun _=>none
 |a+1=>Ot (JJ a)
theorem Tu:∀(b:Nat) (a:Val),KC Tryz.prog 18 [.agg ((Af a).map .d)] (JJ b a) Ld
 |0,a=>⟨fun _ _ _ h=>(by cases h),by intro r;kernel_rfl,by intro r y;kernel_rfl⟩
 |b+1,a=>oD (JJ b) (Tu b) a
abbrev Dr:List (Ab×Bool):=[((1,4),false)]
abbrev On:Ab×Blk:=kk 4 47 5 [vS ⟨#[]⟩,.e0,.e0,.e0,.e0]
abbrev NM:Msg×Bool→AV:=fun y=>.tup [.agg ((Au y.1).map .d),vB y.2]
def ZW(a:Msg→Option Bool):Cl:=fun no l H θ=>(∀(z0:Msg) y,a z0=some y→BJ Tryz.prog l no H (θ 1) [.agg ((Au z0).map .d)] (vB y))
def l0(a:List Msg):Nat→St:=fun b=>Aa [(1,.fn (.yield 1) [] []),pp 4,(9,vL Au a),(10,vN a.length),(11,vN b)] [On]
def kX:Unit→Nat×St:=fun _=>(0,Aa [pp 4] [On])
def MZ(c:List Msg)(d:Msg→Option Bool):Nat→Option (Lv (Nat) (Unit) (Msg×Bool)):=fun a=>(br (decide ((a:Int)<(c.length:Int))) (ix c a fun b=>wg<|wg<|cf Tryz.prog 1 [.agg ((Au b).map .d)] (d b) (fun y=>vB y) fun e=>br e (wg<|wg<|Am NM nG (b,true)) (vs (wa a 1)<|ln (l0 c) (a+1))) (Ai (kX) ()):PT 0 _).m
def Pq(a:List Msg)(b:Msg→Option Bool):Option (Msg×Bool):=(lc (Aa [(0,vL Au a),(1,.fn (.yield 1) [] []),pp 4] [On]) ((vz (Ag a)<|lc (Aa [(1,.fn (.yield 1) [] []),pp 4,(9,vL Au a),(10,vN a.length),(11,vI 0)] [On]) ((Ak (MZ a b) Ah 0).bind (Sum.elim (fun _=>(wg<|wg<|lr NM nG ((.mk ⟨#[]⟩ [] [] [] []:Msg),false):PT 0 _).m) some)):PT 0 _).m):PT 0 _).m
theorem vP{C:Cx}(co:CO C 0)(c:List Msg)(a:Msg→Option Bool)(e:(ZW a) C.no C.l C.H0 C.θ):KL Tryz.prog (Aq tl) 21 C (pa [0,0,1,0,1] (Ar Tryz.f57)) [.cell 4 47,.tmp 5] 0 (l0 c) (kX) NM nG (MZ c a):=fun h _ m Q b d L=>eN co (Ad [1,4,9,10,11] Dr) (Ad [4] Dr) d m L fun r g=>⟨fun f=>⟨⟨fun y hy=>e _ y hy,by intro r;kernel_rfl,by intro r y;kernel_rfl⟩,fun i=>⟨id,id⟩⟩,id⟩
theorem qI(b:List Msg)(a:Msg→Option Bool):KO Tryz.prog 57 0 [vL Au b,.fn (.yield 1) [] []] [] (ZW a) (Pq b a) NM nG:=kO Tryz.func57 Tryz.ntmps57 [.cell 4 47,.tmp 5] 0 (fun co c m L=>mJ co 1 (Ad [0,1,4] Dr) nl nH m L fun r g=>fun _ m L=>sq (mJ co 1 (Ad [1,4,9,10,11] Dr) nl nH m L fun r g=>fun _ m L=>bk 0 (lo (Az (vP co b a c) nH m L (fun _ m=>fO co m L)))))
abbrev ZB:Bool→AV:=fun y=>vB y
@[reducible] def ZP(w0:ByteArray):Bool→List Blk:=fun y=>[⟨0,true,9,1,[vS w0]⟩]
def JG(a:Msg)(w0:ByteArray):Option (Bool):=(wg<|wg<|lr ZB (ZP w0) (decide (a.name=w0)):PT 1 _).m
theorem pF(a:Msg)(w0:ByteArray):KO Tryz.prog 58 1 [.agg ((Au a).map .d),.ptr (0,0) 0 0] [⟨0,true,9,1,[vS w0]⟩] (fun _ _ _ _=>True) (JG a w0) ZB (ZP w0):=kO Tryz.func58 Tryz.ntmps58 [.tmp 3] 1 (fun co b m L=>fO co m L)
abbrev Zt:Msg×Bool→AV:=fun y=>.tup [.agg ((Au y.1).map .d),vB y.2]
def Mh(a:Scm)(b:ByteArray):Option (Msg×Bool):=(wg<|cs Tryz.prog 57 [vL Au a.messages,.fn (.func 58) [] [.ptr (1,3) 1 0]] [(1,3)] [((1,3),⟨1,true,9,1,[vS b]⟩)] (Pq a.messages (fun(z0:Msg)=>JG z0 b)) (fun y=>.tup [.agg ((Au y.1).map .d),vB y.2]) fun c=>wg<|lr Zt nG (c.1,c.2):PT 0 _).m
theorem Tl(b:Scm)(a:ByteArray):KC Tryz.prog 20 [.agg ((Al b).map .d),vS a] (Mh b a) Zt:=Ck Tryz.func20 Tryz.ntmps20 AG [.cell 4 47,.tmp 5] fun C co y m c L=>fO co m L fun r g=>⟨fun y hy=>CQ (qI b.messages (fun(z0:Msg)=>JG z0 a)) hy co g [] [((1,3),⟨1,true,9,1,[vS a]⟩)] (AJ [(1,.fn (.func 58) [] [.ptr (r.κ (1,3)) (r.γ (1,3)+1) 0])]) (fun f d h=>(fun z0 y e=>Gl (pF z0 a) e co g [((1,3),⟨1,true,9,1,[vS a]⟩)] [] d (by simp) (fun _=>.top) (fun _ _=>trivial) (fun l H=>⟨fun _=>⟨rfl,by kernel_rfl⟩,by kernel_rfl,trivial⟩))) (fun H=>trivial),fun i=>id⟩
abbrev ZC:Bool→AV:=fun y=>vB y
def Vj(a:Val):Option (Bool):=(wg<|wg<|wg<|wg<|vy (!decide (a.kind=(11:Int))) (Ag a.list)<|wg<|wg<|vy ((!((!decide (a.kind=(11:Int)))&&decide ((0:Int)<(a.list.length:Int))))&&(!decide (a.kind=(12:Int)))) (Ag a.pairs)<|wg<|wg<|vy ((!(((!decide (a.kind=(11:Int)))&&decide ((0:Int)<(a.list.length:Int)))||((!decide (a.kind=(12:Int)))&&decide ((0:Int)<(a.pairs.length:Int)))))&&(!decide (a.kind=(10:Int)))) (Ag a.slots)<|wg<|vy ((!(((!decide (a.kind=(11:Int)))&&decide ((0:Int)<(a.list.length:Int)))||((!decide (a.kind=(12:Int)))&&decide ((0:Int)<(a.pairs.length:Int)))))&&(!decide (a.kind=(10:Int)))) (Ag a.raws)<|vg ((!(((!decide (a.kind=(11:Int)))&&decide ((0:Int)<(a.list.length:Int)))||((!decide (a.kind=(12:Int)))&&decide ((0:Int)<(a.pairs.length:Int)))))&&(!decide (a.kind=(10:Int)))) (wa a.slots.length a.raws.length)<|wg<|wg<|wg<|wg<|lr ZC nG ((((((!decide (a.kind=(11:Int)))&&decide ((0:Int)<(a.list.length:Int)))||((!decide (a.kind=(12:Int)))&&decide ((0:Int)<(a.pairs.length:Int))))||((!decide (a.kind=(10:Int)))&&decide ((0:Int)<((a.slots.length+a.raws.length:Nat):Int))))||((!decide (a.bits=(0:Int)))&&((decide (a.kind=(7:Int))||decide (a.kind=(8:Int)))||(decide ((10:Int)≤a.kind)&&decide (a.kind≤(12:Int))))))||((!decide (a.text=(⟨#[]⟩:ByteArray)))&&(!(decide (a.kind=(7:Int))||decide (a.kind=(8:Int)))))):PT 0 _).m
theorem Oz(a:Val):KC Tryz.prog 59 [.agg ((Af a).map .d)] (Vj a) ZC:=kC Tryz.func59 Tryz.ntmps59 [.tmp 2] fun co m L=>fO co m L
abbrev Oq:Ab×Blk:=kk 4 53 16 [vI 0,vS ⟨#[]⟩,vI 0,vI 0,vI 0,vS ⟨#[]⟩,vS ⟨#[]⟩,vB false,vI 0,.d (.int .u64 0),vS ⟨#[]⟩,.e0,.e0,.e0,.e0,.e0]
abbrev NW:Fld×Bool→AV:=fun y=>.tup [.agg ((Ap y.1).map .d),vB y.2]
def ZY(a:Fld→Option Bool):Cl:=fun no l H θ=>(∀(z0:Fld) y,a z0=some y→BJ Tryz.prog l no H (θ 1) [.agg ((Ap z0).map .d)] (vB y))
def bR(a:List Fld):Nat→St:=fun b=>Aa [(1,.fn (.yield 1) [] []),pp 4,(9,vL Ap a),(10,vN a.length),(11,vN b)] [Oq]
def lM:Unit→Nat×St:=fun _=>(0,Aa [pp 4] [Oq])
def M5(c:List Fld)(d:Fld→Option Bool):Nat→Option (Lv (Nat) (Unit) (Fld×Bool)):=fun a=>(br (decide ((a:Int)<(c.length:Int))) (ix c a fun b=>wg<|wg<|cf Tryz.prog 1 [.agg ((Ap b).map .d)] (d b) (fun y=>vB y) fun e=>br e (wg<|wg<|Am NW nG (b,true)) (vs (wa a 1)<|ln (bR c) (a+1))) (Ai (lM) ()):PT 0 _).m
def Pj(a:List Fld)(b:Fld→Option Bool):Option (Fld×Bool):=(lc (Aa [(0,vL Ap a),(1,.fn (.yield 1) [] []),pp 4] [Oq]) ((vz (Ag a)<|lc (Aa [(1,.fn (.yield 1) [] []),pp 4,(9,vL Ap a),(10,vN a.length),(11,vI 0)] [Oq]) ((Ak (M5 a b) Ah 0).bind (Sum.elim (fun _=>(wg<|wg<|lr NW nG ((.mk 0 ⟨#[]⟩ 0 0 (.mk 0 ⟨#[]⟩:Typ) ⟨#[]⟩ false (.mk 0 0 ⟨#[]⟩ [] [] [] []:Val) []:Fld),false):PT 0 _).m) some)):PT 0 _).m):PT 0 _).m
theorem xV{C:Cx}(co:CO C 0)(c:List Fld)(a:Fld→Option Bool)(e:(ZY a) C.no C.l C.H0 C.θ):KL Tryz.prog (Aq tl) 21 C (pa [0,0,1,0,1] (Ar Tryz.f89)) [.cell 4 53,.tmp 5] 0 (bR c) (lM) NW nG (M5 c a):=fun h _ m Q b d L=>eN co (Ad [1,4,9,10,11] Dr) (Ad [4] Dr) d m L fun r g=>⟨fun f=>⟨⟨fun y hy=>e _ y hy,by intro r;kernel_rfl,by intro r y;kernel_rfl⟩,fun i=>⟨id,id⟩⟩,id⟩
theorem qc(b:List Fld)(a:Fld→Option Bool):KO Tryz.prog 89 0 [vL Ap b,.fn (.yield 1) [] []] [] (ZY a) (Pj b a) NW nG:=kO Tryz.func89 Tryz.ntmps89 [.cell 4 53,.tmp 5] 0 (fun co c m L=>mJ co 1 (Ad [0,1,4] Dr) nl nH m L fun r g=>fun _ m L=>sq (mJ co 1 (Ad [1,4,9,10,11] Dr) nl nH m L fun r g=>fun _ m L=>bk 0 (lo (Az (xV co b a c) nH m L (fun _ m=>fO co m L)))))
abbrev ZL:Bool→AV:=fun y=>vB y
@[reducible] def ZT(w0:Int):Bool→List Blk:=fun y=>[⟨0,true,3,1,[vI w0]⟩]
def JE(a:Fld)(w0:Int):Option (Bool):=(wg<|wg<|lr ZL (ZT w0) (decide (a.num=w0)):PT 1 _).m
theorem qH(a:Fld)(w0:Int):KO Tryz.prog 90 1 [.agg ((Ap a).map .d),.ptr (0,0) 0 0] [⟨0,true,3,1,[vI w0]⟩] (fun _ _ _ _=>True) (JE a w0) ZL (ZT w0):=kO Tryz.func90 Tryz.ntmps90 [.tmp 3] 1 (fun co b m L=>fO co m L)
abbrev Zw:Fld×Bool→AV:=fun y=>.tup [.agg ((Ap y.1).map .d),vB y.2]
def U8(a:Msg)(b:Int):Option (Fld×Bool):=(wg<|cs Tryz.prog 89 [vL Ap a.fields,.fn (.func 90) [] [.ptr (1,3) 1 0]] [(1,3)] [((1,3),⟨1,true,3,1,[vI b]⟩)] (Pj a.fields (fun(z0:Fld)=>JE z0 b)) (fun y=>.tup [.agg ((Ap y.1).map .d),vB y.2]) fun c=>wg<|lr Zw nG (c.1,c.2):PT 0 _).m
theorem TS(b:Msg)(a:Int):KC Tryz.prog 37 [.agg ((Au b).map .d),vI a] (U8 b a) Zw:=Ck Tryz.func37 Tryz.ntmps37 AG [.cell 4 53,.tmp 5] fun C co y m c L=>fO co m L fun r g=>⟨fun y hy=>CQ (qc b.fields (fun(z0:Fld)=>JE z0 a)) hy co g [] [((1,3),⟨1,true,3,1,[vI a]⟩)] (AJ [(1,.fn (.func 90) [] [.ptr (r.κ (1,3)) (r.γ (1,3)+1) 0])]) (fun f d h=>(fun z0 y e=>Gl (qH z0 a) e co g [((1,3),⟨1,true,3,1,[vI a]⟩)] [] d (by simp) (fun _=>.top) (fun _ _=>trivial) (fun l H=>⟨fun _=>⟨rfl,by kernel_rfl⟩,by kernel_rfl,trivial⟩))) (fun H=>trivial),fun i=>id⟩
abbrev OJ:Int→AV:=fun y=>vI y
def dt(a:Slt→Option Bool):Cl:=fun no l H θ=>(∀(z0:Slt) y,a z0=some y→BJ Tryz.prog l no H (θ 1) [.agg ((Bq z0).map .d)] (vB y))
def jJ(a:List Slt):Nat→St:=fun b=>Aa [(0,vL At a),(1,.fn (.yield 1) [] []),(7,vN a.length),(8,vN b)] []
def kq:Unit→Nat×St:=fun _=>(0,Aa [] [])
def MI(b:List Slt)(c:Slt→Option Bool):Nat→Option (Lv (Nat) (Unit) (Int)):=fun a=>(br (decide ((a:Int)<(b.length:Int))) (ix b a fun d=>cf Tryz.prog 1 [.agg ((Bq d).map .d)] (c d) (fun y=>vB y) fun e=>br e (Am OJ nG (a:Int)) (vs (wa a 1)<|ln (jJ b) (a+1))) (Ai (kq) ()):PT 0 _).m
def PD(a:List Slt)(b:Slt→Option Bool):Option (Int):=(lc (Aa [(0,vL At a),(1,.fn (.yield 1) [] [])] []) ((vz (Ag a)<|lc (Aa [(0,vL At a),(1,.fn (.yield 1) [] []),(7,vN a.length),(8,vI 0)] []) ((Ak (MI a b) Ah 0).bind (Sum.elim (fun _=>(lr OJ nG (-1):PT 0 _).m) some)):PT 0 _).m):PT 0 _).m
theorem tv{C:Cx}(co:CO C 0)(c:List Slt)(a:Slt→Option Bool)(e:(dt a) C.no C.l C.H0 C.θ):KL Tryz.prog (Aq tl) 19 C (pa [0,0,1,0,1] (Ar Tryz.f164)) [.tmp 4] 0 (jJ c) (kq) OJ nG (MI c a):=fun h _ m Q b d L=>eN co (AI [0,1,7,8]) nl d m L fun r g=>⟨fun f=>⟨⟨fun y hy=>e _ y hy,by intro r;kernel_rfl,by intro r y;kernel_rfl⟩,fun i=>⟨id,id⟩⟩,id⟩
theorem od(b:List Slt)(a:Slt→Option Bool):KO Tryz.prog 164 0 [vL At b,.fn (.yield 1) [] []] [] (dt a) (PD b a) OJ nG:=kO Tryz.func164 Tryz.ntmps164 [.tmp 4] 0 (fun co c m L=>mJ co 1 (AI [0,1]) nl nH m L fun r g=>fun _ m L=>sq (mJ co 1 (AI [0,1,7,8]) nl nH m L fun r g=>fun _ m L=>bk 0 (lo (Az (tv co b a c) nH m L (fun _ m=>fO co m L)))))
abbrev dS:Bool→AV:=fun y=>vB y
def qw(a:Slt→Option Bool):Cl:=fun no l H θ=>(∀(z0:Slt) y,a z0=some y→BJ Tryz.prog l no H (θ 1) [.agg ((Bq z0).map .d)] (vB y))
def JC(b:List Slt)(a:Slt→Option Bool):Option (Bool):=(cs Tryz.prog 164 [vL At b,.fn (.yield 1) [] []] [] [] (PD b a) (fun y=>vI y) fun c=>lr dS nG (decide ((0:Int)≤c)):PT 0 _).m
theorem Xv(b:List Slt)(a:Slt→Option Bool):KO Tryz.prog 119 0 [vL At b,.fn (.yield 1) [] []] [] (qw a) (JC b a) dS nG:=Db Tryz.func119 Tryz.ntmps119 AG [.tmp 4] 0 (fun C co d y m c L=>fO co m L fun r g=>⟨fun y hy=>CQ (od b a) hy co g [] [] (AJ [(1,r.θ 1)]) (fun h i e=>(fun z0 y f=>FE co g [] e (d z0 y f))) (fun H=>trivial),fun j=>id⟩)
abbrev ZD:Bool→AV:=fun y=>vB y
@[reducible] def ZQ(w0:Fld):Bool→List Blk:=fun y=>[⟨0,true,53,16,(cD (Ap w0))⟩]
def e9(a:Int)(w0:Fld):Option (Bool):=(wg<|lr ZD (ZQ w0) (decide (a=w0.num)):PT 1 _).m
theorem qJ(a:Int)(w0:Fld):KO Tryz.prog 62 1 [vI a,.ptr (0,0) 0 0] [⟨0,true,53,16,(cD (Ap w0))⟩] (fun _ _ _ _=>True) (e9 a w0) ZD (ZQ w0):=kO Tryz.func62 Tryz.ntmps62 [.tmp 3] 1 (fun co b m L=>fO co m L)
abbrev dY:Bool→AV:=fun y=>vB y
@[reducible] def eB(w0:Fld):Bool→List Blk:=fun y=>[⟨0,true,53,16,(cD (Ap w0))⟩]
def fg(a:Int)(w0:Fld):Option (Bool):=(wg<|lr dY (eB w0) (decide (a=w0.num)):PT 1 _).m
theorem nZ(a:Int)(w0:Fld):KO Tryz.prog 115 1 [vI a,.ptr (0,0) 0 0] [⟨0,true,53,16,(cD (Ap w0))⟩] (fun _ _ _ _=>True) (fg a w0) dY (eB w0):=kO Tryz.func115 Tryz.ntmps115 [.tmp 3] 1 (fun co b m L=>fO co m L)
abbrev cR:Bool→AV:=fun y=>vB y
@[reducible] def dJ(w0:Fld):Bool→List Blk:=fun y=>[⟨0,true,53,16,(cD (Ap w0))⟩]
def fB(a:Int)(w0:Fld):Option (Bool):=(wg<|lr cR (dJ w0) (decide (a=w0.num)):PT 1 _).m
theorem ph(a:Int)(w0:Fld):KO Tryz.prog 117 1 [vI a,.ptr (0,0) 0 0] [⟨0,true,53,16,(cD (Ap w0))⟩] (fun _ _ _ _=>True) (fB a w0) cR (dJ w0):=kO Tryz.func117 Tryz.ntmps117 [.tmp 3] 1 (fun co b m L=>fO co m L)
abbrev eb(a:Fld):Ab×Blk:=((0,1),⟨0,true,53,16,(cD (Ap a))⟩)
abbrev kT:Bool→AV:=fun y=>vB y
@[reducible] def jN(a:Fld):Bool→List Blk:=fun y=>[⟨0,true,65,1,[.fn (.func 115) [] [.ptr (0,1) 0 0]]⟩,⟨0,true,53,16,(cD (Ap a))⟩]
def Pw(b:Slt)(a:Fld):Option (Bool):=(wg<|wg<|cs Tryz.prog 115 [vI b.num,.ptr (0,1) 0 0] [(0,1)] [(eb a)] (fg b.num a) (fun y=>vB y) fun c=>lr kT (jN a) c:PT 2 _).m
theorem yc(b:Slt)(a:Fld):KO Tryz.prog 120 2 [.agg ((Bq b).map .d),.ptr (0,0) 0 0] [⟨0,true,65,1,[.fn (.func 115) [] [.ptr (0,1) 0 0]]⟩,⟨0,true,53,16,(cD (Ap a))⟩] (fun _ _ _ _=>True) (Pw b a) kT (jN a):=Db Tryz.func120 Tryz.ntmps120 AG [.tmp 3] 2 (fun C co d y m c L=>fO co m L fun r g=>⟨fun y hy=>s6 (nZ b.num a) hy co g [(eb a)] [],fun e=>id⟩)
abbrev ea(a:Fld):Ab×Blk:=((0,1),⟨0,true,53,16,(cD (Ap a))⟩)
abbrev kL:Bool→AV:=fun y=>vB y
@[reducible] def kb(a:Fld):Bool→List Blk:=fun y=>[⟨0,true,65,1,[.fn (.func 117) [] [.ptr (0,1) 0 0]]⟩,⟨0,true,53,16,(cD (Ap a))⟩]
def Py(b:Slt)(a:Fld):Option (Bool):=(wg<|wg<|cs Tryz.prog 117 [vI b.num,.ptr (0,1) 0 0] [(0,1)] [(ea a)] (fB b.num a) (fun y=>vB y) fun c=>lr kL (kb a) c:PT 2 _).m
theorem xm(b:Slt)(a:Fld):KO Tryz.prog 120 2 [.agg ((Bq b).map .d),.ptr (0,0) 0 0] [⟨0,true,65,1,[.fn (.func 117) [] [.ptr (0,1) 0 0]]⟩,⟨0,true,53,16,(cD (Ap a))⟩] (fun _ _ _ _=>True) (Py b a) kL (kb a):=Db Tryz.func120 Tryz.ntmps120 AG [.tmp 3] 2 (fun C co d y m c L=>fO co m L fun r g=>⟨fun y hy=>s6 (ph b.num a) hy co g [(ea a)] [],fun e=>id⟩)
abbrev eM(a:Fld):Ab×Blk:=((0,1),⟨0,true,53,16,(cD (Ap a))⟩)
abbrev jE:Bool→AV:=fun y=>vB y
@[reducible] def jV(a:Fld):Bool→List Blk:=fun y=>[⟨0,true,65,1,[.fn (.func 62) [] [.ptr (0,1) 0 0]]⟩,⟨0,true,53,16,(cD (Ap a))⟩]
def Pu(b:Slt)(a:Fld):Option (Bool):=(wg<|wg<|cs Tryz.prog 62 [vI b.num,.ptr (0,1) 0 0] [(0,1)] [(eM a)] (e9 b.num a) (fun y=>vB y) fun c=>lr jE (jV a) c:PT 2 _).m
theorem v6(b:Slt)(a:Fld):KO Tryz.prog 120 2 [.agg ((Bq b).map .d),.ptr (0,0) 0 0] [⟨0,true,65,1,[.fn (.func 62) [] [.ptr (0,1) 0 0]]⟩,⟨0,true,53,16,(cD (Ap a))⟩] (fun _ _ _ _=>True) (Pu b a) jE (jV a):=Db Tryz.func120 Tryz.ntmps120 AG [.tmp 3] 2 (fun C co d y m c L=>fO co m L fun r g=>⟨fun y hy=>s6 (qJ b.num a) hy co g [(eM a)] [],fun e=>id⟩)
abbrev TU(a:Fld):Ab×Blk:=((0,0),⟨0,true,53,16,(cD (Ap a))⟩)
abbrev ce:Bool→AV:=fun y=>vB y
@[reducible] def cu(a:Fld):Bool→List Blk:=fun y=>[⟨0,true,53,16,(cD (Ap a))⟩]
def PI(b:List Slt)(a:Fld):Option (Bool):=(cs Tryz.prog 119 [vL At b,.fn (.func 120) [] [.ptr (1,3) 1 0]] [(1,3),(0,0)] [((1,3),⟨1,true,65,1,[.fn (.func 115) [] [.ptr (0,0) 0 0]]⟩),(TU a)] (JC b (fun(z0:Slt)=>Pw z0 a)) (fun y=>vB y) fun c=>lr ce (cu a) c:PT 1 _).m
theorem nL(b:List Slt)(a:Fld):KO Tryz.prog 61 1 [vL At b,.fn (.func 115) [] [.ptr (0,0) 0 0]] [⟨0,true,53,16,(cD (Ap a))⟩] (fun _ _ _ _=>True) (PI b a) ce (cu a):=Db Tryz.func61 Tryz.ntmps61 AG [.tmp 4] 1 (fun C co h y m c L=>fO co m L fun r g=>⟨fun y hy=>CQ (Xv b (fun(z0:Slt)=>Pw z0 a)) hy co g [] [((1,3),⟨1,true,65,1,[.fn (.func 115) [] [.ptr (0,0) 0 0]]⟩),(TU a)] (AJ [(1,.fn (.func 120) [] [.ptr (r.κ (1,3)) (r.γ (1,3)+1) 0])]) (fun f d i=>(fun z0 y e=>Gl (yc z0 a) e co g [((1,3),⟨1,true,65,1,[.fn (.func 115) [] [.ptr (0,0) 0 0]]⟩),(TU a)] [] d (by simp) (fun _=>.top) (fun _ _=>trivial) (fun l H=>⟨fun _=>⟨rfl,by kernel_rfl⟩,by kernel_rfl,⟨fun _=>⟨rfl,by kernel_rfl⟩,by kernel_rfl,trivial⟩⟩))) (fun H=>trivial),fun j=>id⟩)
abbrev TG(a:Fld):Ab×Blk:=((0,0),⟨0,true,53,16,(cD (Ap a))⟩)
abbrev lQ:Bool→AV:=fun y=>vB y
@[reducible] def be(a:Fld):Bool→List Blk:=fun y=>[⟨0,true,53,16,(cD (Ap a))⟩]
def PJ(b:List Slt)(a:Fld):Option (Bool):=(cs Tryz.prog 119 [vL At b,.fn (.func 120) [] [.ptr (1,3) 1 0]] [(1,3),(0,0)] [((1,3),⟨1,true,65,1,[.fn (.func 117) [] [.ptr (0,0) 0 0]]⟩),(TG a)] (JC b (fun(z0:Slt)=>Py z0 a)) (fun y=>vB y) fun c=>lr lQ (be a) c:PT 1 _).m
theorem yh(b:List Slt)(a:Fld):KO Tryz.prog 61 1 [vL At b,.fn (.func 117) [] [.ptr (0,0) 0 0]] [⟨0,true,53,16,(cD (Ap a))⟩] (fun _ _ _ _=>True) (PJ b a) lQ (be a):=Db Tryz.func61 Tryz.ntmps61 AG [.tmp 4] 1 (fun C co h y m c L=>fO co m L fun r g=>⟨fun y hy=>CQ (Xv b (fun(z0:Slt)=>Py z0 a)) hy co g [] [((1,3),⟨1,true,65,1,[.fn (.func 117) [] [.ptr (0,0) 0 0]]⟩),(TG a)] (AJ [(1,.fn (.func 120) [] [.ptr (r.κ (1,3)) (r.γ (1,3)+1) 0])]) (fun f d i=>(fun z0 y e=>Gl (xm z0 a) e co g [((1,3),⟨1,true,65,1,[.fn (.func 117) [] [.ptr (0,0) 0 0]]⟩),(TG a)] [] d (by simp) (fun _=>.top) (fun _ _=>trivial) (fun l H=>⟨fun _=>⟨rfl,by kernel_rfl⟩,by kernel_rfl,⟨fun _=>⟨rfl,by kernel_rfl⟩,by kernel_rfl,trivial⟩⟩))) (fun H=>trivial),fun j=>id⟩)
abbrev Tc(a:Fld):Ab×Blk:=((0,0),⟨0,true,53,16,(cD (Ap a))⟩)
abbrev ly:Bool→AV:=fun y=>vB y
@[reducible] def l2(a:Fld):Bool→List Blk:=fun y=>[⟨0,true,53,16,(cD (Ap a))⟩]
def PN(b:List Slt)(a:Fld):Option (Bool):=(cs Tryz.prog 119 [vL At b,.fn (.func 120) [] [.ptr (1,3) 1 0]] [(1,3),(0,0)] [((1,3),⟨1,true,65,1,[.fn (.func 62) [] [.ptr (0,0) 0 0]]⟩),(Tc a)] (JC b (fun(z0:Slt)=>Pu z0 a)) (fun y=>vB y) fun c=>lr ly (l2 a) c:PT 1 _).m
theorem ns(b:List Slt)(a:Fld):KO Tryz.prog 61 1 [vL At b,.fn (.func 62) [] [.ptr (0,0) 0 0]] [⟨0,true,53,16,(cD (Ap a))⟩] (fun _ _ _ _=>True) (PN b a) ly (l2 a):=Db Tryz.func61 Tryz.ntmps61 AG [.tmp 4] 1 (fun C co h y m c L=>fO co m L fun r g=>⟨fun y hy=>CQ (Xv b (fun(z0:Slt)=>Pu z0 a)) hy co g [] [((1,3),⟨1,true,65,1,[.fn (.func 62) [] [.ptr (0,0) 0 0]]⟩),(Tc a)] (AJ [(1,.fn (.func 120) [] [.ptr (r.κ (1,3)) (r.γ (1,3)+1) 0])]) (fun f d i=>(fun z0 y e=>Gl (v6 z0 a) e co g [((1,3),⟨1,true,65,1,[.fn (.func 62) [] [.ptr (0,0) 0 0]]⟩),(Tc a)] [] d (by simp) (fun _=>.top) (fun _ _=>trivial) (fun l H=>⟨fun _=>⟨rfl,by kernel_rfl⟩,by kernel_rfl,⟨fun _=>⟨rfl,by kernel_rfl⟩,by kernel_rfl,trivial⟩⟩))) (fun H=>trivial),fun j=>id⟩)
abbrev QO:Int→AV:=fun y=>vI y
@[reducible] def Qt(a:List Fld):Int→List Blk:=fun y=>[⟨0,true,53,16,Ac Ap a⟩]
def jG(a:Fld→Option Bool):Cl:=fun no l H θ=>(∀(z0:Fld) y,a z0=some y→BJ Tryz.prog l no H (θ 1) [.agg ((Ap z0).map .d)] (vB y))
def h9(a:List Fld):Nat→St:=fun b=>Aa [(0,.ref (0,0) 0 0 a.length),(1,.fn (.yield 1) [] []),(7,vN a.length),(8,vN b)] [((0,0),⟨0,true,53,16,Ac Ap a⟩)]
def gX(a:List Fld):Unit→Nat×St:=fun _=>(0,Aa [] [((0,0),⟨0,true,53,16,Ac Ap a⟩)])
def Qe(a:List Fld)(c:Fld→Option Bool):Nat→Option (Lv (Nat) (Unit) (Int)):=fun b=>(br (decide ((b:Int)<(a.length:Int))) (vs (ir b a.length 16)<|ca a b fun d=>cf Tryz.prog 1 [.agg ((Ap d).map .d)] (c d) (fun y=>vB y) fun e=>br e (Am QO (Qt a) (b:Int)) (vs (wa b 1)<|vz (fl a)<|ln (h9 a) (b+1))) (vz (fl a)<|Ai (gX a) ()):PT 1 _).m
def Pn(a:List Fld)(b:Fld→Option Bool):Option (Int):=(vz (fl a)<|lc (Aa [(0,.ref (0,0) 0 0 a.length),(1,.fn (.yield 1) [] [])] [((0,0),⟨0,true,53,16,Ac Ap a⟩)]) ((vz (AR a.length)<|vz (fl a)<|lc (Aa [(0,.ref (0,0) 0 0 a.length),(1,.fn (.yield 1) [] []),(7,vN a.length),(8,vI 0)] [((0,0),⟨0,true,53,16,Ac Ap a⟩)]) ((Ak (Qe a b) Ah 0).bind (Sum.elim (fun _=>(lr QO (Qt a) (-1):PT 1 _).m) some)):PT 1 _).m):PT 1 _).m
theorem sm{C:Cx}(co:CO C 1)(b:List Fld)(a:Fld→Option Bool)(e:(jG a) C.no C.l C.H0 C.θ):KL Tryz.prog (Aq tl) 19 C (pa [0,0,1,0,1] (Ar Tryz.f203)) [.tmp 4] 1 (h9 b) (gX b) QO (Qt b) (Qe b a):=fun h _ m Q c d L=>eN co (Ad [0,1,7,8] AP) (Ad [] AP) d m L fun r g=>⟨fun f=>⟨⟨fun y hy=>e _ y hy,by intro r;kernel_rfl,by intro r y;kernel_rfl⟩,fun i=>⟨id,id⟩⟩,id⟩
theorem wh(b:List Fld)(a:Fld→Option Bool):KO Tryz.prog 203 1 [.ref (0,0) 0 0 b.length,.fn (.yield 1) [] []] [⟨0,true,53,16,Ac Ap b⟩] (jG a) (Pn b a) QO (Qt b):=kO Tryz.func203 Tryz.ntmps203 [.tmp 4] 1 (fun co c m L=>mJ co 1 (Ad [0,1] AP) nl nH m L fun r g=>fun _ m L=>sq (mJ co 1 (Ad [0,1,7,8] AP) nl nH m L fun r g=>fun _ m L=>bk 0 (lo (Az (sm co b a c) nH m L (fun _ m=>fO co m L)))))
abbrev Nn(a:List Fld):Ab×Blk:=((0,0),⟨0,true,53,16,Ac Ap a⟩)
abbrev Td:List Fld→AV:=fun y=>.ref (0,0) 0 0 y.length
@[reducible] def TD:List Fld→List Blk:=fun y=>[⟨0,true,53,16,Ac Ap y⟩]
def cH(a:Fld→Option Bool):Cl:=fun no l H θ=>(∀(z0:Fld) y,a z0=some y→BJ Tryz.prog l no H (θ 1) [.agg ((Ap z0).map .d)] (vB y))
def WP(a:List Fld):Int×Int×List Fld→St:=fun(v2,v3,b)=>Aa [(0,.ref (0,0) 0 0 a.length),(1,.fn (.yield 1) [] []),(5,vI v2),(6,vI v3)] [((0,0),⟨0,true,53,16,Ac Ap b⟩)]
def kt(a:List Fld):Int×List Fld→Nat×St:=fun(c,b)=>(0,Aa [(0,.ref (0,0) 0 0 a.length),(5,vI c)] [((0,0),⟨0,true,53,16,Ac Ap b⟩)])
def ML(b:List Fld)(d:Fld→Option Bool):Int×Int×List Fld→Option (Lv (Int×Int×List Fld) (Int×List Fld) (List Fld)):=fun(v2,v3,a)=>(vz (AR b.length)<|br (decide (v3<(b.length:Int))) (vs (CM v3 b.length 16)<|ca a v3.toNat fun c=>wg<|wg<|cf Tryz.prog 1 [.agg ((Ap c).map .d)] (d c) (fun y=>vB y) fun e=>br (!e) (wg<|vs (CM v2 b.length 16)<|vs (st a v2.toNat c)<|Jd 0 ((Rw.f (c:Fld)).map .d) (fun _=>Xe _)<|vs (wi (v2+1))<|vs (wi (v3+1))<|vz (fl (a.set v2.toNat c))<|ln (WP b) ((v2+1),(v3+1),a.set v2.toNat c)) (vs (wi (v3+1))<|vz (fl a)<|ln (WP b) (v2,(v3+1),a))) (vz (fl a)<|Ai (kt b) (v2,a)):PT 1 _).m
def Pk(a:List Fld)(d:Fld→Option Bool):Option (List Fld):=(cs Tryz.prog 203 [.ref (0,0) 0 0 a.length,.fn (.yield 1) [] []] [(0,0)] [(Nn a)] (Pn a d) (fun y=>vI y) fun c=>br (decide (c=((-1):Int))) (lr Td (TD) a) (vz (fl a)<|lc (Aa [(0,.ref (0,0) 0 0 a.length),(1,.fn (.yield 1) [] []),(5,vI c)] [(Nn a)]) ((vs (wi (c+1))<|vz (fl a)<|lc (Aa [(0,.ref (0,0) 0 0 a.length),(1,.fn (.yield 1) [] []),(5,vI c),(6,vI (c+1))] [(Nn a)]) ((Ak (ML a d) Ah (c,(c+1),a)).bind (Sum.elim (fun(b,e)=>(sR a.length 0 (.it b) .no<|cr e (0+b.toNat) (a.length-b.toNat) [vI 0,vS ⟨#[]⟩,vI 0,vI 0,vI 0,vS ⟨#[]⟩,vS ⟨#[]⟩,vB false,vI 0,.d (.int .u64 0),vS ⟨#[]⟩,.e0,.e0,.e0,.e0,.e0]<|Jd 0 ([vI 0,vS ⟨#[]⟩,vI 0,vI 0,vI 0,vS ⟨#[]⟩,vS ⟨#[]⟩,vB false,vI 0,.d (.int .u64 0),vS ⟨#[]⟩,.e0,.e0,.e0,.e0,.e0]) (fun _=>xN (by kernel_rfl))<|R2 0 e (0+b.toNat) (a.length-b.toNat) [vI 0,vS ⟨#[]⟩,vI 0,vI 0,vI 0,vS ⟨#[]⟩,vS ⟨#[]⟩,vB false,vI 0,.d (.int .u64 0),vS ⟨#[]⟩,.e0,.e0,.e0,.e0,.e0]<|vw .sep<|sR a.length 0 .no (.it b)<|H6 (b.toNat=(e.take (0+b.toNat)).length) (fun E=>E.P (.ref (0,0) 0 0 b.toNat) ([⟨0,true,53,16,Ac Ap (e.take (0+b.toNat))⟩])) (e.take (0+b.toNat)):PT 1 _).m) some)):PT 1 _).m)):PT 1 _).m
theorem uE{C:Cx}(co:CO C 1)(b:List Fld)(a:Fld→Option Bool)(e:(cH a) C.no C.l C.H0 C.θ):KL Tryz.prog (Aq tl) 42 C (pa [0,0,1,0,1,1,1] (Ar Tryz.f159)) [.tmp 4] 1 (WP b) (kt b) Td (TD) (ML b a):=fun(v2,v3,h) _ m Q c d L=>eN co (Ad [0,1,5,6] AP) (Ad [0,5] AP) d m L fun r g=>⟨fun f=>⟨⟨fun y hy=>e _ y hy,by intro r;kernel_rfl,by intro r y;kernel_rfl⟩,fun i=>⟨id,id⟩⟩,id⟩
theorem o4(b:List Fld)(a:Fld→Option Bool):KO Tryz.prog 159 1 [.ref (0,0) 0 0 b.length,.fn (.yield 1) [] []] [⟨0,true,53,16,Ac Ap b⟩] (cH a) (Pk b a) Td (TD):=Db Tryz.func159 Tryz.ntmps159 AG [.tmp 4] 1 (fun C co d y m c L=>mJ co 3 (Ad [0,1,5] AP) nl nH m L fun r g=>⟨fun y hy=>CQ (wh b a) hy co g [(Nn b)] [] (AJ [(1,r.θ 1)]) (fun i j e=>(fun z0 y f=>FE co g [(Nn b)] e (d z0 y f))) (fun H=>⟨fun _=>⟨rfl,bz⟩,by kernel_rfl,trivial⟩),fun o=>⟨id,fun _ m L=>sq (mJ co 1 (Ad [0,1,5,6] AP) nl nH m L fun r g=>fun _ m L=>bk 0 (lo (Az (uE co b a d) nH m L (fun(l,k) m=>fO co m L fun r g=>fun h L=>yH (congrArg (fun n=>(.ref (0,0) 0 0 n:AV)) h) L))))⟩⟩)
abbrev TJ:List Fld→AV:=fun y=>.ref (0,0) 1 0 y.length
@[reducible] def SS:List Fld→List Blk:=fun y=>[⟨1,true,53,16,Ac Ap y⟩]
def PK(a:List Fld):Option (List Fld):=(al Ap a false fun b=>br b (vw .sep<|vw (.ads 2 2 53 16)<|mv 2 0 ([]:List Fld)<|lr TJ (SS) ([]:List Fld)) (a0 a<|mv 7 0 a<|lr TJ (SS) a):PT 1 _).m
theorem n8(a:List Fld):KO Tryz.prog 160 1 [vL Ap a] [⟨0,false,0,0,[]⟩] (fun _ _ _ _=>True) (PK a) TJ (SS):=kO Tryz.func160 Tryz.ntmps160 [.tmp 2] 1 (fun co b m L=>fO co m L)
abbrev eA:Bool→AV:=fun y=>vB y
@[reducible] def dk(w0:ByteArray):Bool→List Blk:=fun y=>[⟨0,true,9,1,[vS w0]⟩]
def PB(a:Fld)(w0:ByteArray):Option (Bool):=(wg<|wg<|lr eA (dk w0) (!decide (a.union=w0)):PT 1 _).m
theorem oE(a:Fld)(w0:ByteArray):KO Tryz.prog 161 1 [.agg ((Ap a).map .d),.ptr (0,0) 0 0] [⟨0,true,9,1,[vS w0]⟩] (fun _ _ _ _=>True) (PB a w0) eA (dk w0):=kO Tryz.func161 Tryz.ntmps161 [.tmp 3] 1 (fun co b m L=>fO co m L)
abbrev L0(a:ByteArray):Ab×Blk:=kk 3 9 1 [vS a]
abbrev TP:List Fld→AV:=fun y=>vL Ap y
def Ve(d:Msg)(a:ByteArray):Option (List Fld):=(wg<|br (decide (a=(⟨#[]⟩:ByteArray))) (lr TP nG ([]:List Fld)) (lc (Aa [pp 2,pp 3] [kk 2 47 5 (cD (Au d)),(L0 a)]) ((wg<|lc (Aa [pp 3,(8,vL Ap d.fields)] [(L0 a)]) ((PK d.fields).bind fun c=>(vz (fl c)<|lc (Aa [(9,.ref (1,9) 0 0 c.length),(10,.fn (.func 161) [] [.ptr (1,3) 0 0])] [(L0 a),kk 9 53 16 (Ac Ap c)]) ((Pk c (fun(z0:Fld)=>PB z0 a)).bind fun b=>(vz (fl b)<|lc (Aa [(4,.ref (1,9) 0 0 b.length)] [kk 9 53 16 (Ac Ap b)]) ((vz (fr b)<|lr TP nG b:PT 0 _).m):PT 0 _).m):PT 0 _).m):PT 0 _).m)):PT 0 _).m
theorem oK(b:Msg)(a:ByteArray):KC Tryz.prog 116 [.agg ((Au b).map .d),vS a] (Ve b a) TP:=Ck Tryz.func116 Tryz.ntmps116 AG [.tmp 4] fun C co y m c L=>mJ co 2 (Ad [2,3] [((1,2),false),((1,3),false)]) nl nH m L fun r g=>⟨id,fun _ m L=>sq (rg (pR co 2 (Ad [3,8] [((1,3),false)]) m L fun r g=>fun _ m L=>c6 co m (n8 b.fields) [((1,9),⟨0,false,0,0,[]⟩)] [] (fun z=>.ref (1,9) 1 0 z.length) (fun z=>[((1,9),⟨1,true,53,16,Ac Ap z⟩)]) [] fun d m=>pR co 1 (Ad [9,10] [((1,3),false),((1,9),true)]) m L fun r g=>fun _ m L=>c6 (θ:=fun r=>AJ [(1,.fn (.func 161) [] [.ptr (r.κ (1,3)) (r.γ (1,3)+0) 0])]) (hΘ:=fun r g h e i=>(fun z0 y f=>Gl (oE z0 a) f co g [(L0 a)] _ e (by simp) (fun _=>.top) (fun _ _=>trivial) (fun l H=>⟨fun _=>⟨rfl,by kernel_rfl⟩,by kernel_rfl,trivial⟩))) co m (o4 d (fun(z0:Fld)=>PB z0 a)) [kk 9 53 16 (Ac Ap d)] [(L0 a)] (fun z=>.ref (1,9) 0 0 z.length) (fun z=>[kk 9 53 16 (Ac Ap z)]) [] fun j m=>eR co (Ad [4] [((1,9),true)]) m L fun r g=>fun _ m L=>fO co m L))⟩
abbrev O5:Ab×Blk:=kk 4 68 5 [vS ⟨#[]⟩,vB false,.e0,.e0,.e0]
abbrev NN:Enm×Bool→AV:=fun y=>.tup [.agg ((Bj y.1).map .d),vB y.2]
def ZX(a:Enm→Option Bool):Cl:=fun no l H θ=>(∀(z0:Enm) y,a z0=some y→BJ Tryz.prog l no H (θ 1) [.agg ((Bj z0).map .d)] (vB y))
def kZ(a:List Enm):Nat→St:=fun b=>Aa [(1,.fn (.yield 1) [] []),pp 4,(9,vL Bj a),(10,vN a.length),(11,vN b)] [O5]
def l3:Unit→Nat×St:=fun _=>(0,Aa [pp 4] [O5])
def Nb(c:List Enm)(d:Enm→Option Bool):Nat→Option (Lv (Nat) (Unit) (Enm×Bool)):=fun a=>(br (decide ((a:Int)<(c.length:Int))) (ix c a fun b=>wg<|wg<|cf Tryz.prog 1 [.agg ((Bj b).map .d)] (d b) (fun y=>vB y) fun e=>br e (wg<|wg<|Am NN nG (b,true)) (vs (wa a 1)<|ln (kZ c) (a+1))) (Ai (l3) ()):PT 0 _).m
def UP(a:List Enm)(b:Enm→Option Bool):Option (Enm×Bool):=(lc (Aa [(0,vL Bj a),(1,.fn (.yield 1) [] []),pp 4] [O5]) ((vz (Ag a)<|lc (Aa [(1,.fn (.yield 1) [] []),pp 4,(9,vL Bj a),(10,vN a.length),(11,vI 0)] [O5]) ((Ak (Nb a b) Ah 0).bind (Sum.elim (fun _=>(wg<|wg<|lr NN nG ((.mk ⟨#[]⟩ false [] [] []:Enm),false):PT 0 _).m) some)):PT 0 _).m):PT 0 _).m
theorem wT{C:Cx}(co:CO C 0)(c:List Enm)(a:Enm→Option Bool)(e:(ZX a) C.no C.l C.H0 C.θ):KL Tryz.prog (Aq tl) 21 C (pa [0,0,1,0,1] (Ar Tryz.f66)) [.cell 4 68,.tmp 5] 0 (kZ c) (l3) NN nG (Nb c a):=fun h _ m Q b d L=>eN co (Ad [1,4,9,10,11] Dr) (Ad [4] Dr) d m L fun r g=>⟨fun f=>⟨⟨fun y hy=>e _ y hy,by intro r;kernel_rfl,by intro r y;kernel_rfl⟩,fun i=>⟨id,id⟩⟩,id⟩
theorem qz(b:List Enm)(a:Enm→Option Bool):KO Tryz.prog 66 0 [vL Bj b,.fn (.yield 1) [] []] [] (ZX a) (UP b a) NN nG:=kO Tryz.func66 Tryz.ntmps66 [.cell 4 68,.tmp 5] 0 (fun co c m L=>mJ co 1 (Ad [0,1,4] Dr) nl nH m L fun r g=>fun _ m L=>sq (mJ co 1 (Ad [1,4,9,10,11] Dr) nl nH m L fun r g=>fun _ m L=>bk 0 (lo (Az (wT co b a c) nH m L (fun _ m=>fO co m L)))))
abbrev ZE:Bool→AV:=fun y=>vB y
@[reducible] def ZR(w0:ByteArray):Bool→List Blk:=fun y=>[⟨0,true,9,1,[vS w0]⟩]
def Mg(a:Enm)(w0:ByteArray):Option (Bool):=(wg<|wg<|lr ZE (ZR w0) (decide (a.name=w0)):PT 1 _).m
theorem pP(a:Enm)(w0:ByteArray):KO Tryz.prog 67 1 [.agg ((Bj a).map .d),.ptr (0,0) 0 0] [⟨0,true,9,1,[vS w0]⟩] (fun _ _ _ _=>True) (Mg a w0) ZE (ZR w0):=kO Tryz.func67 Tryz.ntmps67 [.tmp 3] 1 (fun co b m L=>fO co m L)
abbrev Zv:Enm×Bool→AV:=fun y=>.tup [.agg ((Bj y.1).map .d),vB y.2]
def Vt(a:Scm)(b:ByteArray):Option (Enm×Bool):=(wg<|cs Tryz.prog 66 [vL Bj a.enums,.fn (.func 67) [] [.ptr (1,3) 1 0]] [(1,3)] [((1,3),⟨1,true,9,1,[vS b]⟩)] (UP a.enums (fun(z0:Enm)=>Mg z0 b)) (fun y=>.tup [.agg ((Bj y.1).map .d),vB y.2]) fun c=>wg<|lr Zv nG (c.1,c.2):PT 0 _).m
theorem Ty(b:Scm)(a:ByteArray):KC Tryz.prog 24 [.agg ((Al b).map .d),vS a] (Vt b a) Zv:=Ck Tryz.func24 Tryz.ntmps24 AG [.cell 4 68,.tmp 5] fun C co y m c L=>fO co m L fun r g=>⟨fun y hy=>CQ (qz b.enums (fun(z0:Enm)=>Mg z0 a)) hy co g [] [((1,3),⟨1,true,9,1,[vS a]⟩)] (AJ [(1,.fn (.func 67) [] [.ptr (r.κ (1,3)) (r.γ (1,3)+1) 0])]) (fun f d h=>(fun z0 y e=>Gl (pP z0 a) e co g [((1,3),⟨1,true,9,1,[vS a]⟩)] [] d (by simp) (fun _=>.top) (fun _ _=>trivial) (fun l H=>⟨fun _=>⟨rfl,by kernel_rfl⟩,by kernel_rfl,trivial⟩))) (fun H=>trivial),fun i=>id⟩
abbrev Zu:Bool→AV:=fun y=>vB y
def PV(a:Int):Option (Bool):=(lr Zu nG (decide ((1:Int)≤a)&&decide (a≤(9:Int))):PT 0 _).m
theorem Ny(a:Int):KC Tryz.prog 23 [vI a] (PV a) Zu:=kC Tryz.func23 Tryz.ntmps23 [.tmp 2] fun co m L=>fO co m L
abbrev cP:Bool→AV:=fun y=>vB y
def eW(b:ByteArray)(a:ByteArray):Option (Bool):=(vz (AR b.size)<|vz (AR a.size)<|vy (decide ((a.size:Int)≤(b.size:Int))) (AR a.size)<|mW (decide ((a.size:Int)≤(b.size:Int))) b .no (.nt a.size) fun s1=>lr cP nG (decide ((a.size:Int)≤(b.size:Int))&&decide (s1=a)):PT 0 _).m
theorem o1(a:ByteArray)(b:ByteArray):KC Tryz.prog 219 [vS a,vS b] (eW a b) cP:=kC Tryz.func219 Tryz.ntmps219 [.tmp 4] fun co m L=>fO co m L
abbrev de:Bool→AV:=fun y=>vB y
def UZ(a:ByteArray)(b:ByteArray):Option (Bool):=(cl (o1 a b) fun c=>lr de nG c:PT 0 _).m
theorem oP(a:ByteArray)(b:ByteArray):KC Tryz.prog 200 [vS a,vS b] (UZ a b) de:=kC Tryz.func200 Tryz.ntmps200 [.tmp 4] fun co m L=>fO co m L
abbrev dB:Bool→AV:=fun y=>vB y
def Vv(b:ByteArray)(c:Int)(a:Int):Option (Bool):=(mW (decide (a=(65533:Int))) b (.it c) .no fun s1=>Aw (decide (a=(65533:Int))) (oP s1 (⟨#[239,191,189]⟩)) fun d=>lr dB nG (decide (a=(65533:Int))&&(!d)):PT 0 _).m
theorem oU(a:ByteArray)(b:Int)(c:Int):KC Tryz.prog 166 [vS a,vI b,.d (.int .i32 c)] (Vv a b c) dB:=kC Tryz.func166 Tryz.ntmps166 [.tmp 6] fun co m L=>fO co m L
abbrev Ov:Int→AV:=fun y=>vI y
def ka(a:ByteArray):Nat→St:=fun b=>Aa [(0,vS a),pp 6] [kk 6 (.s a b) 0 []]
def jC:Unit→Nat×St:=fun _=>(0,Aa [] [])
def QI(b:ByteArray):Nat→Option (Lv (Nat) (Unit) (Int)):=fun a=>(br (decide (a<b.size)) (wg<|cl (oU b (a:Int) (HZ b a)) fun c=>br c (Am Ov nG (a:Int)) (ln (ka b) (a+DT b a))) (wg<|Ai (jC) ()):PT 0 _).m
def gG(a:ByteArray):Option (Int):=(lc (Aa [(0,vS a)] []) ((lc (Aa [(0,vS a),pp 6] [kk 6 (.s a 0) 0 []]) ((Ak (QI a) Ah 0).bind (Sum.elim (fun _=>(lr Ov nG (-1):PT 0 _).m) some)):PT 0 _).m):PT 0 _).m
theorem vk{C:Cx}(co:CO C 0)(b:ByteArray):KL Tryz.prog (Aq tl) 16 C (pa [0,0,1,0,1] (Ar Tryz.f126)) [.tmp 2] 0 (ka b) (jC) Ov nG (QI b):=fun d _ m Q a c L=>eN co (Ad [0,6] [((1,6),false)]) nl c m L
theorem n6(a:ByteArray):KC Tryz.prog 126 [vS a] (gG a) Ov:=kC Tryz.func126 Tryz.ntmps126 [.tmp 2] fun co m L=>mJ co 1 (AI [0]) nl nH m L fun r g=>fun _ m L=>sq (mJ co 1 (Ad [0,6] [((1,6),false)]) nl nH m L fun r g=>fun _ m L=>bk 0 (lo (Az (vk co a) nH m L (fun _ m=>fO co m L))))
abbrev ZF:Bool→AV:=fun y=>vB y
def VC(a:ByteArray):Option (Bool):=(cl (n6 a) fun b=>lr ZF nG (decide (b<(0:Int))):PT 0 _).m
theorem cO(a:ByteArray):KC Tryz.prog 68 [vS a] (VC a) ZF:=kC Tryz.func68 Tryz.ntmps68 [.tmp 2] fun co m L=>fO co m L
abbrev di:Bool→AV:=fun y=>vB y
def Pt(a:Int):Option (Bool):=(lr di nG (decide (a=(7:Int))||decide (a=(8:Int))):PT 0 _).m
theorem lJ(a:Int):KC Tryz.prog 155 [vI a] (Pt a) di:=kC Tryz.func155 Tryz.ntmps155 [.tmp 2] fun co m L=>fO co m L
abbrev O9:Bool→AV:=fun y=>vB y
def Vl(a:Val):Option (Bool):=(wg<|vz (Ag a.list)<|wg<|vz (Ag a.pairs)<|vs (wa a.list.length a.pairs.length)<|wg<|vz (Ag a.slots)<|vs (wa (a.list.length+a.pairs.length) a.slots.length)<|wg<|vz (Ag a.raws)<|vs (wa ((a.list.length+a.pairs.length)+a.slots.length) a.raws.length)<|br (decide ((0:Int)<((((a.list.length+a.pairs.length)+a.slots.length)+a.raws.length:Nat):Int))) (lr O9 nG false) (wg<|cl (lJ a.kind) fun b=>br b (wg<|lr O9 nG (decide (a.bits=(0:Int)))) (wg<|lr O9 nG (decide (a.text=(⟨#[]⟩:ByteArray))))):PT 0 _).m
theorem b8(a:Val):KC Tryz.prog 110 [.agg ((Af a).map .d)] (Vl a) O9:=kC Tryz.func110 Tryz.ntmps110 [.tmp 2] fun co m L=>fO co m L
abbrev KW:Bool→AV:=fun y=>vB y
def U0(b:Int)(a:Int):Option (Bool):=(br (decide (b=(1:Int))) (lr KW nG (decide (a≤(1:Int)))) (br (decide (b=(2:Int))) (vz (wk .i64 a)<|vy (decide (((-2147483648):Int)≤(IntKind.i64.wrap a))) (wk .i64 a)<|lr KW nG (decide (((-2147483648):Int)≤(IntKind.i64.wrap a))&&decide ((IntKind.i64.wrap a)≤(2147483647:Int)))) (br (decide (b=(9:Int))) (lr KW nG (decide (a≤(2147483647:Int)))) (br (decide (b=(4:Int))) (lr KW nG (decide (a≤(4294967295:Int)))) (lr KW nG true)))):PT 0 _).m
theorem ox(a:Int)(b:Int):KC Tryz.prog 111 [vI a,.d (.int .u64 b)] (U0 a b) KW:=kC Tryz.func111 Tryz.ntmps111 [.tmp 4] fun co m L=>fO co m L
abbrev Sb:Bool→AV:=fun y=>vB y
def Vk(b:Int)(a:Val):Option (Bool):=(cl (Ny b) fun c=>wg<|wg<|Aw (!((!c)||(!decide (a.kind=b)))) (b8 a) fun d=>wg<|Aw (!(((!c)||(!decide (a.kind=b)))||(!d))) (ox b a.bits) fun e=>wg<|vy (!((((!c)||(!decide (a.kind=b)))||(!d))||(!e))) (AR a.text.size)<|br (((((!c)||(!decide (a.kind=b)))||(!d))||(!e))||decide ((4096:Int)<(a.text.size:Int))) (lr Sb nG false) (wg<|Aw (!(!decide (b=(7:Int)))) (cO a.text) fun f=>lr Sb nG ((!decide (b=(7:Int)))||f)):PT 0 _).m
theorem Ub(a:Int)(b:Val):KC Tryz.prog 55 [vI a,.agg ((Af b).map .d)] (Vk a b) Sb:=kC Tryz.func55 Tryz.ntmps55 [.tmp 4] fun co m L=>fO co m L
abbrev OD:Int→AV:=fun y=>vI y
def dH(a:Itm→Option Bool):Cl:=fun no l H θ=>(∀(z0:Itm) y,a z0=some y→BJ Tryz.prog l no H (θ 1) [.agg ((B7 z0).map .d)] (vB y))
def ke(a:List Itm):Nat→St:=fun b=>Aa [(0,vL B7 a),(1,.fn (.yield 1) [] []),(7,vN a.length),(8,vN b)] []
def j4:Unit→Nat×St:=fun _=>(0,Aa [] [])
def MM(b:List Itm)(c:Itm→Option Bool):Nat→Option (Lv (Nat) (Unit) (Int)):=fun a=>(br (decide ((a:Int)<(b.length:Int))) (ix b a fun d=>cf Tryz.prog 1 [.agg ((B7 d).map .d)] (c d) (fun y=>vB y) fun e=>br e (Am OD nG (a:Int)) (vs (wa a 1)<|ln (ke b) (a+1))) (Ai (j4) ()):PT 0 _).m
def UO(a:List Itm)(b:Itm→Option Bool):Option (Int):=(lc (Aa [(0,vL B7 a),(1,.fn (.yield 1) [] [])] []) ((vz (Ag a)<|lc (Aa [(0,vL B7 a),(1,.fn (.yield 1) [] []),(7,vN a.length),(8,vI 0)] []) ((Ak (MM a b) Ah 0).bind (Sum.elim (fun _=>(lr OD nG (-1):PT 0 _).m) some)):PT 0 _).m):PT 0 _).m
theorem uK{C:Cx}(co:CO C 0)(c:List Itm)(a:Itm→Option Bool)(e:(dH a) C.no C.l C.H0 C.θ):KL Tryz.prog (Aq tl) 19 C (pa [0,0,1,0,1] (Ar Tryz.f167)) [.tmp 4] 0 (ke c) (j4) OD nG (MM c a):=fun h _ m Q b d L=>eN co (AI [0,1,7,8]) nl d m L fun r g=>⟨fun f=>⟨⟨fun y hy=>e _ y hy,by intro r;kernel_rfl,by intro r y;kernel_rfl⟩,fun i=>⟨id,id⟩⟩,id⟩
theorem oo(b:List Itm)(a:Itm→Option Bool):KO Tryz.prog 167 0 [vL B7 b,.fn (.yield 1) [] []] [] (dH a) (UO b a) OD nG:=kO Tryz.func167 Tryz.ntmps167 [.tmp 4] 0 (fun co c m L=>mJ co 1 (AI [0,1]) nl nH m L fun r g=>fun _ m L=>sq (mJ co 1 (AI [0,1,7,8]) nl nH m L fun r g=>fun _ m L=>bk 0 (lo (Az (uK co b a c) nH m L (fun _ m=>fO co m L)))))
abbrev ep:Bool→AV:=fun y=>vB y
def py(a:Itm→Option Bool):Cl:=fun no l H θ=>(∀(z0:Itm) y,a z0=some y→BJ Tryz.prog l no H (θ 1) [.agg ((B7 z0).map .d)] (vB y))
def Pm(b:List Itm)(a:Itm→Option Bool):Option (Bool):=(cs Tryz.prog 167 [vL B7 b,.fn (.yield 1) [] []] [] [] (UO b a) (fun y=>vI y) fun c=>lr ep nG (decide ((0:Int)≤c)):PT 0 _).m
theorem oI(b:List Itm)(a:Itm→Option Bool):KO Tryz.prog 127 0 [vL B7 b,.fn (.yield 1) [] []] [] (py a) (Pm b a) ep nG:=Db Tryz.func127 Tryz.ntmps127 AG [.tmp 4] 0 (fun C co d y m c L=>fO co m L fun r g=>⟨fun y hy=>CQ (oo b a) hy co g [] [] (AJ [(1,r.θ 1)]) (fun h i e=>(fun z0 y f=>FE co g [] e (d z0 y f))) (fun H=>trivial),fun j=>id⟩)
abbrev dc:Bool→AV:=fun y=>vB y
@[reducible] def dL(w0:Int):Bool→List Blk:=fun y=>[⟨0,true,27,1,[.d (.int .u64 w0)]⟩]
def PC(a:Itm)(w0:Int):Option (Bool):=(wg<|vz (wk .u64 a.num)<|wg<|lr dc (dL w0) (decide ((IntKind.u64.wrap a.num)=w0)):PT 1 _).m
theorem oC(a:Itm)(w0:Int):KO Tryz.prog 128 1 [.agg ((B7 a).map .d),.ptr (0,0) 0 0] [⟨0,true,27,1,[.d (.int .u64 w0)]⟩] (fun _ _ _ _=>True) (PC a w0) dc (dL w0):=kO Tryz.func128 Tryz.ntmps128 [.tmp 3] 1 (fun co b m L=>fO co m L)
abbrev ZG:Bool→AV:=fun y=>vB y
def U6(a:Enm)(b:Int):Option (Bool):=(wg<|wg<|DS (!a.opn) Tryz.prog 127 [vL B7 a.items,.fn (.func 128) [] [.ptr (1,3) 1 0]] [(1,3)] [((1,3),⟨1,true,27,1,[.d (.int .u64 b)]⟩)] (Pm a.items (fun(z0:Itm)=>PC z0 b)) (fun y=>vB y) fun c=>lr ZG nG (a.opn||c):PT 0 _).m
theorem eE(b:Enm)(a:Int):KC Tryz.prog 69 [.agg ((Bj b).map .d),.d (.int .u64 a)] (U6 b a) ZG:=Ck Tryz.func69 Tryz.ntmps69 AG [.tmp 4] fun C co y m c L=>fO co m L fun r g=>⟨fun y hy=>CQ (oI b.items (fun(z0:Itm)=>PC z0 a)) hy co g [] [((1,3),⟨1,true,27,1,[.d (.int .u64 a)]⟩)] (AJ [(1,.fn (.func 128) [] [.ptr (r.κ (1,3)) (r.γ (1,3)+1) 0])]) (fun f d h=>(fun z0 y e=>Gl (oC z0 a) e co g [((1,3),⟨1,true,27,1,[.d (.int .u64 a)]⟩)] [] d (by simp) (fun _=>.top) (fun _ _=>trivial) (fun l H=>⟨fun _=>⟨rfl,by kernel_rfl⟩,by kernel_rfl,trivial⟩))) (fun H=>trivial),fun i=>id⟩
abbrev Ic:Int→AV:=fun y=>vI y
def Vu(c:Scm)(a:Typ)(b:Val):Option (Int):=(wg<|wg<|wg<|Aw (!(!decide (b.kind=a.kind))) (Oz b) fun d=>br ((!decide (b.kind=a.kind))||d) (lr Ic nG 12) (wg<|vz (AR b.text.size)<|br (decide ((4096:Int)<(b.text.size:Int))) (lr Ic nG 3) (wg<|wg<|Aw (decide (a.kind=(7:Int))) (cO b.text) fun e=>br (decide (a.kind=(7:Int))&&(!e)) (lr Ic nG 7) (wg<|wg<|cl (Ub a.kind b) fun f=>br (!f) (lr Ic nG 12) (wg<|wg<|cl (Ty c a.name) fun g=>wg<|wg<|wg<|wg<|Aw (decide (a.kind=(9:Int))) (eE g.1 b.bits) fun h=>br (decide (a.kind=(9:Int))&&(!h)) (lr Ic nG 16) (lr Ic nG 0))))):PT 0 _).m
theorem OW(a:Scm)(b:Typ)(c:Val):KC Tryz.prog 25 [.agg ((Al a).map .d),.agg ((Ca b).map .d),.agg ((Af c).map .d)] (Vu a b c) Ic:=kC Tryz.func25 Tryz.ntmps25 [.tmp 6] fun co m L=>fO co m L
abbrev OM:Int→AV:=fun y=>vI y
def dZ(a:Pr→Option Bool):Cl:=fun no l H θ=>(∀(z0:Pr) y,a z0=some y→BJ Tryz.prog l no H (θ 1) [.agg ((Ci z0).map .d)] (vB y))
def kR(a:List Pr):Nat→St:=fun b=>Aa [(0,vL Ay a),(1,.fn (.yield 1) [] []),(7,vN a.length),(8,vN b)] []
def jH:Unit→Nat×St:=fun _=>(0,Aa [] [])
def MF(b:List Pr)(c:Pr→Option Bool):Nat→Option (Lv (Nat) (Unit) (Int)):=fun a=>(br (decide ((a:Int)<(b.length:Int))) (ix b a fun d=>cf Tryz.prog 1 [.agg ((Ci d).map .d)] (c d) (fun y=>vB y) fun e=>br e (Am OM nG (a:Int)) (vs (wa a 1)<|ln (kR b) (a+1))) (Ai (jH) ()):PT 0 _).m
def UN(a:List Pr)(b:Pr→Option Bool):Option (Int):=(lc (Aa [(0,vL Ay a),(1,.fn (.yield 1) [] [])] []) ((vz (Ag a)<|lc (Aa [(0,vL Ay a),(1,.fn (.yield 1) [] []),(7,vN a.length),(8,vI 0)] []) ((Ak (MF a b) Ah 0).bind (Sum.elim (fun _=>(lr OM nG (-1):PT 0 _).m) some)):PT 0 _).m):PT 0 _).m
theorem uu{C:Cx}(co:CO C 0)(c:List Pr)(a:Pr→Option Bool)(e:(dZ a) C.no C.l C.H0 C.θ):KL Tryz.prog (Aq tl) 19 C (pa [0,0,1,0,1] (Ar Tryz.f220)) [.tmp 4] 0 (kR c) (jH) OM nG (MF c a):=fun h _ m Q b d L=>eN co (AI [0,1,7,8]) nl d m L fun r g=>⟨fun f=>⟨⟨fun y hy=>e _ y hy,by intro r;kernel_rfl,by intro r y;kernel_rfl⟩,fun i=>⟨id,id⟩⟩,id⟩
theorem oJ(b:List Pr)(a:Pr→Option Bool):KO Tryz.prog 220 0 [vL Ay b,.fn (.yield 1) [] []] [] (dZ a) (UN b a) OM nG:=kO Tryz.func220 Tryz.ntmps220 [.tmp 4] 0 (fun co c m L=>mJ co 1 (AI [0,1]) nl nH m L fun r g=>fun _ m L=>sq (mJ co 1 (AI [0,1,7,8]) nl nH m L fun r g=>fun _ m L=>bk 0 (lo (Az (uu co b a c) nH m L (fun _ m=>fO co m L)))))
abbrev dV:Bool→AV:=fun y=>vB y
def qx(a:Pr→Option Bool):Cl:=fun no l H θ=>(∀(z0:Pr) y,a z0=some y→BJ Tryz.prog l no H (θ 1) [.agg ((Ci z0).map .d)] (vB y))
def L2(b:List Pr)(a:Pr→Option Bool):Option (Bool):=(cs Tryz.prog 220 [vL Ay b,.fn (.yield 1) [] []] [] [] (UN b a) (fun y=>vI y) fun c=>lr dV nG (decide ((0:Int)≤c)):PT 0 _).m
theorem oe(b:List Pr)(a:Pr→Option Bool):KO Tryz.prog 204 0 [vL Ay b,.fn (.yield 1) [] []] [] (qx a) (L2 b a) dV nG:=Db Tryz.func204 Tryz.ntmps204 AG [.tmp 4] 0 (fun C co d y m c L=>fO co m L fun r g=>⟨fun y hy=>CQ (oJ b a) hy co g [] [] (AJ [(1,r.θ 1)]) (fun h i e=>(fun z0 y f=>FE co g [] e (d z0 y f))) (fun H=>trivial),fun j=>id⟩)
abbrev ZN:Bool→AV:=fun y=>vB y
def fh(a:Int):Option (Bool):=(lr ZN nG (!decide (a=a)):PT 0 _).m
theorem eT(a:Int):KC Tryz.prog 96 [vI a] (fh a) ZN:=kC Tryz.func96 Tryz.ntmps96 [.tmp 2] fun co m L=>fO co m L
abbrev Ie:Int→AV:=fun y=>vI y
def UQ(a:Int)(b:Int):Option (Int):=(cl (eT a) fun d=>cl (eT b) fun c=>br d (br c (lr Ie nG 0) (lr Ie nG (-1))) (br c (lr Ie nG 1) (br (decide (a<b)) (lr Ie nG (-1)) (br (decide (b<a)) (lr Ie nG 1) (lr Ie nG 0)))):PT 0 _).m
theorem Nq(a:Int)(b:Int):KC Tryz.prog 41 [vI a,vI b] (UQ a b) Ie:=kC Tryz.func41 Tryz.ntmps41 [.tmp 4] fun co m L=>fO co m L
abbrev cN:Val→AV:=fun y=>.ifc 217 [(.int .i64 y.kind),(.int .u64 y.bits),(.str y.text),(.list (y.list.map AF)),(.list (y.pairs.map Ay)),(.list (y.slots.map At)),(.list (y.raws.map A5))] true
def fm(a:Val):Option (Val):=(wg<|cl (Ny a.kind) fun b=>bT b<|wg<|lr cN nG a:PT 0 _).m
theorem a6(a:Val):KC Tryz.prog 181 [.agg ((Af a).map .d)] (fm a) cN:=kC Tryz.func181 Tryz.ntmps181 [.tmp 2] fun co m L=>fO co m L
abbrev ei:Bool→AV:=fun y=>vB y
def fc(a:ByteArray):Option (Bool):=(lr ei nG (!decide (a=a)):PT 0 _).m
theorem lW(a:ByteArray):KC Tryz.prog 223 [vS a] (fc a) ei:=kC Tryz.func223 Tryz.ntmps223 [.tmp 2] fun co m L=>fO co m L
abbrev IZ:Int→AV:=fun y=>vI y
def UW(a:ByteArray)(b:ByteArray):Option (Int):=(cl (lW a) fun d=>cl (lW b) fun c=>br d (br c (lr IZ nG 0) (lr IZ nG (-1))) (br c (lr IZ nG 1) (br (BM a b) (lr IZ nG (-1)) (br (!(BM a b||decide (a=b))) (lr IZ nG 1) (lr IZ nG 0)))):PT 0 _).m
theorem oz(a:ByteArray)(b:ByteArray):KC Tryz.prog 211 [vS a,vS b] (UW a b) IZ:=kC Tryz.func211 Tryz.ntmps211 [.tmp 4] fun co m L=>fO co m L
abbrev dx:Bool→AV:=fun y=>vB y
def fb(a:Int):Option (Bool):=(lr dx nG (!decide (a=a)):PT 0 _).m
theorem bK(a:Int):KC Tryz.prog 224 [.d (.int .u64 a)] (fb a) dx:=kC Tryz.func224 Tryz.ntmps224 [.tmp 2] fun co m L=>fO co m L
abbrev IM:Int→AV:=fun y=>vI y
def UV(a:Int)(b:Int):Option (Int):=(cl (bK a) fun d=>cl (bK b) fun c=>br d (br c (lr IM nG 0) (lr IM nG (-1))) (br c (lr IM nG 1) (br (decide (a<b)) (lr IM nG (-1)) (br (decide (b<a)) (lr IM nG 1) (lr IM nG 0)))):PT 0 _).m
theorem bf(a:Int)(b:Int):KC Tryz.prog 212 [.d (.int .u64 a),.d (.int .u64 b)] (UV a b) IM:=kC Tryz.func212 Tryz.ntmps212 [.tmp 4] fun co m L=>fO co m L
abbrev KS:Int→AV:=fun y=>vI y
def U3(a:Int):Option (Int):=(vz (Zr .u64 a (9218868437227405312:Int))<|vz (Zr .u64 a (4503599627370495:Int))<|br (decide ((CK .u64 a (9218868437227405312:Int))=(9218868437227405312:Int))&&(!decide ((CK .u64 a (4503599627370495:Int))=(0:Int)))) (lr KS nG 0) (br (decide ((CK .u64 a (9218868437227405312:Int))=(9218868437227405312:Int))) (lr KS nG 1) (br (decide ((CK .u64 a (9218868437227405312:Int))=(0:Int))&&decide ((CK .u64 a (4503599627370495:Int))=(0:Int))) (lr KS nG 2) (br (decide ((CK .u64 a (9218868437227405312:Int))=(0:Int))) (lr KS nG 3) (lr KS nG 4)))):PT 0 _).m
theorem cw(a:Int):KC Tryz.prog 145 [.d (.int .u64 a)] (U3 a) KS:=kC Tryz.func145 Tryz.ntmps145 [.tmp 2] fun co m L=>fO co m L
abbrev OB:Int→AV:=fun y=>.d (.int .u64 y)
def U2(a:Int):Option (Int):=(cl (cw a) fun b=>br (decide (b=(0:Int))) (lr OB nG 18446744073709551615) (vz (Zr .u64 a (9223372036854775808:Int))<|br (!decide ((CK .u64 a (9223372036854775808:Int))=(0:Int))) (vz (y6 .u64 a)<|lr OB nG (HR .u64 a)) (vz (y7 .u64 a (9223372036854775808:Int))<|lr OB nG (Fq .u64 a (9223372036854775808:Int)))):PT 0 _).m
theorem lN(a:Int):KC Tryz.prog 213 [.d (.int .u64 a)] (U2 a) OB:=kC Tryz.func213 Tryz.ntmps213 [.tmp 2] fun co m L=>fO co m L
abbrev I1:Int→AV:=fun y=>vI y
def fp(a:Val)(b:Val):Option (Int):=(wg<|wg<|br (!decide (a.kind=b.kind)) (wg<|wg<|cl (Nq a.kind b.kind) fun c=>lr I1 nG c) (wg<|cl (Ny a.kind) fun d=>br (!d) (lr I1 nG 0) (wg<|cl (lJ a.kind) fun e=>br e (wg<|wg<|cl (oz a.text b.text) fun f=>lr I1 nG f) (wg<|wg<|br (decide (a.kind=(2:Int))||decide (a.kind=(3:Int))) (wg<|vz (wk .i64 a.bits)<|wg<|vz (wk .i64 b.bits)<|cl (Nq (IntKind.i64.wrap a.bits) (IntKind.i64.wrap b.bits)) fun g=>lr I1 nG g) (wg<|br (decide (a.kind=(6:Int))) (wg<|cl (lN a.bits) fun h=>wg<|cl (lN b.bits) fun i=>cl (bf h i) fun j=>lr I1 nG j) (wg<|wg<|cl (bf a.bits b.bits) fun k=>lr I1 nG k))))):PT 0 _).m
theorem oV(a:Val)(b:Val):KC Tryz.prog 182 [.agg ((Af a).map .d),.agg ((Af b).map .d)] (fp a b) I1:=kC Tryz.func182 Tryz.ntmps182 [.tmp 4] fun co m L=>fO co m L
abbrev Tk:Int→AV:=fun y=>vI y
def Vy(b:Val)(a:Val):Option (Int):=(wg<|wg<|br (!decide (b.kind=a.kind)) (wg<|wg<|cl (Nq b.kind a.kind) fun c=>lr Tk nG c) (wg<|cl (a6 a) fun f=>wg<|cl (a6 b) fun d=>wg<|wg<|wg<|wg<|cl (oV d a) fun e=>lr Tk nG e):PT 0 _).m
theorem bb(a:Val)(b:Val):KC Tryz.prog 143 [.agg ((Af a).map .d),.agg ((Af b).map .d)] (Vy a b) Tk:=kC Tryz.func143 Tryz.ntmps143 [.tmp 4] fun co m L=>fO co m L
abbrev dG:Bool→AV:=fun y=>vB y
def PM(a:Val)(b:Val):Option (Bool):=(wg<|wg<|cl (bb a b) fun c=>lr dG nG (decide (c=(0:Int))):PT 0 _).m
theorem k7(a:Val)(b:Val):KC Tryz.prog 144 [.agg ((Af a).map .d),.agg ((Af b).map .d)] (PM a b) dG:=kC Tryz.func144 Tryz.ntmps144 [.tmp 4] fun co m L=>fO co m L
abbrev dQ:Bool→AV:=fun y=>vB y
@[reducible] def eP(w0:Pr):Bool→List Blk:=fun y=>[⟨0,true,57,14,(cD (Ci w0))⟩]
def Mb(a:Pr)(w0:Pr):Option (Bool):=(wg<|wg<|cl (k7 a.key w0.key) fun b=>lr dQ (eP w0) b:PT 1 _).m
theorem oG(a:Pr)(w0:Pr):KO Tryz.prog 205 1 [.agg ((Ci a).map .d),.ptr (0,0) 0 0] [⟨0,true,57,14,(cD (Ci w0))⟩] (fun _ _ _ _=>True) (Mb a w0) dQ (eP w0):=kO Tryz.func205 Tryz.ntmps205 [.tmp 3] 1 (fun co b m L=>fO co m L)
abbrev dW:Bool→AV:=fun y=>vB y
def Va(d:Scm)(a:Fld)(b:Raw):Option (Bool):=(wg<|wg<|cl (Ty d a.type.name) fun c=>wg<|wg<|wg<|wg<|wg<|wg<|wg<|Aw ((((c.2&&decide (a.type.kind=(9:Int)))&&(!decide (a.card=(5:Int))))&&decide (b.wire=(0:Int)))&&decide (b.bits<(2147483648:Int))) (eE c.1 b.bits) fun e=>lr dW nG (((((c.2&&decide (a.type.kind=(9:Int)))&&(!decide (a.card=(5:Int))))&&decide (b.wire=(0:Int)))&&decide (b.bits<(2147483648:Int)))&&(!e)):PT 0 _).m
theorem ol(a:Scm)(b:Fld)(c:Raw):KC Tryz.prog 121 [.agg ((Al a).map .d),.agg ((Ap b).map .d),.agg ((A5 c).map .d)] (Va a b c) dW:=kC Tryz.func121 Tryz.ntmps121 [.tmp 6] fun co m L=>fO co m L
abbrev Lk:Int→AV:=fun y=>vI y
def VD(c:Scm)(d:Msg)(a:Raw):Option (Int):=(wg<|wg<|wg<|cl (TS d a.num) fun b=>wg<|wg<|wg<|wg<|wg<|br (((decide (a.num<(1:Int))||decide ((65535:Int)<a.num))||decide (a.wire<(0:Int)))||decide ((6:Int)<a.wire)) (lr Lk nG 1) (wg<|wg<|wg<|wg<|wg<|Aw ((!((decide (a.wire≤(2:Int))&&(!decide (a.data=(⟨#[]⟩:ByteArray))))||((!(decide (a.wire≤(2:Int))))&&(!decide (a.bits=(0:Int))))))&&b.2) (ol c b.1 a) fun e=>br (((decide (a.wire≤(2:Int))&&(!decide (a.data=(⟨#[]⟩:ByteArray))))||((!(decide (a.wire≤(2:Int))))&&(!decide (a.bits=(0:Int)))))||(b.2&&(!e))) (lr Lk nG 1) (wg<|wg<|vy (decide (a.wire=(3:Int))) (AR a.data.size)<|wg<|vy (!(decide (a.wire=(3:Int))&&decide ((4096:Int)<(a.data.size:Int)))) (AR a.data.size)<|br ((decide (a.wire=(3:Int))&&decide ((4096:Int)<(a.data.size:Int)))||decide ((65536:Int)<(a.data.size:Int))) (lr Lk nG 3) (lr Lk nG 0))):PT 0 _).m
theorem pG(a:Scm)(b:Msg)(c:Raw):KC Tryz.prog 63 [.agg ((Al a).map .d),.agg ((Au b).map .d),.agg ((A5 c).map .d)] (VD a b c) Lk:=kC Tryz.func63 Tryz.ntmps63 [.tmp 6] fun co m L=>fO co m L
abbrev FP:Int→AV:=fun y=>vI y
abbrev LY:List (Ab×Bool):=[((1,5),false),((1,11),false)]
abbrev IQ(a:Fld×Bool):Ab×Blk:=kk 11 53 16 (cD (Ap a.1))
abbrev Kp(a:Scm):Ab×Blk:=kk 5 26 3 (cD (Al a))
abbrev Ji:Int→AV:=fun y=>vI y
def mc(b:Scm)(c:List Slt)(d:Int)(e:Int)(g:Fld×Bool)(a:List Fld):Nat→St:=fun f=>Aa [(2,vL At c),(3,vI d),(4,vI e),pp 5,pp 11,(35,vL Ap a),(36,vN a.length),(37,vN f)] [(Kp b),(IQ g)]
def ld(a:Scm)(b:List Slt)(c:Int)(d:Int)(e:Fld×Bool):Unit→Nat×St:=fun _=>(0,Aa [(2,vL At b),(3,vI c),(4,vI d),pp 5,pp 11] [(Kp a),(IQ e)])
abbrev B1:=Scm→Fld→Val→Int→Option (Int)
def Ki(i:Scm)(d:List Slt)(e:Int)(j:Int)(g:B1)(b:Fld×Bool)(f:List Fld):Nat→Option (Lv (Nat) (Unit) (Int)):=fun c=>(br (decide ((c:Int)<(f.length:Int))) (ix f c fun a=>wg<|wg<|wg<|yV (!decide (a.num=b.1.num)) d .no (.it e) fun h=>DS (!decide (a.num=b.1.num)) Tryz.prog 61 [vL At h,.fn (.func 117) [] [.ptr (1,14) 1 0]] [(1,14)] [((1,14),⟨1,true,53,16,(cD (Ap a))⟩)] (PJ h a) (fun y=>vB y) fun k=>br ((!decide (a.num=b.1.num))&&k) (Am Ji nG 15) (vs (wa c 1)<|ln (mc i d e j b f) (c+1))) (Ai (ld i d e j b) ()):PT 0 _).m
def XC(e:Scm)(h:Msg)(c:List Slt)(d:Int)(f:Int)(b:B1):PT 0 (Int):=vw (.fzb 6 [6])<|vw .sep<|CB c d fun l=>du (cl (TS h l.num) fun a=>wg<|lc (Aa [(2,vL At c),(3,vI d),(4,vI f),pp 5,(6,.iptr (Au h) 0),pp 11,(12,vB a.2)] [(Kp e),(IQ a)]) ((br (!a.2) (lr Ji nG 8) (sL c .no (.it d) fun k=>cs Tryz.prog 61 [vL At k,.fn (.func 115) [] [.ptr (1,11) 0 0]] [(1,11)] [(IQ a)] (PI k a.1) (fun y=>vB y) fun m=>br m (lr Ji nG 9) (lc (Aa [(2,vL At c),(3,vI d),(4,vI f),pp 5,(6,.iptr (Au h) 0),pp 11] [(Kp e),(IQ a)]) ((wg<|cl (oK h a.1.union) fun i=>vz (Ag i)<|lc (Aa [(2,vL At c),(3,vI d),(4,vI f),pp 5,pp 11,(35,vL Ap i),(36,vN i.length),(37,vI 0)] [(Kp e),(IQ a)]) ((Ak (Ki e c d f b a i) Ah 0).bind (Sum.elim (fun _=>(wg<|wg<|CB c d fun g=>cs Tryz.prog 118 [.agg ((Al e).map .d),.agg ((Ap a.1).map .d),.agg ((Af g.val).map .d),vI f] [] [] (b e a.1 g.val f) (fun y=>vI y) fun j=>lr Ji nG j:PT 0 _).m) some)):PT 0 _).m))):PT 0 _).m))
def PF(a:B1)(b:Scm)(c:Msg)(d:List Slt)(e:Int)(f:Int):Option (Int):=(lc (Aa [(2,vL At d),(3,vI e),(4,vI f),pp 5,pp 6] [(Kp b),kk 6 47 5 (cD (Au c))]) ((XC b c d e f a).m):PT 0 _).m
abbrev Fc(a:B1):Prop:=∀(b:Scm) (c:Fld) (d:Val) (e:Int),KC Tryz.prog 118 [.agg ((Al b).map .d),.agg ((Ap c).map .d),.agg ((Af d).map .d),vI e] (a b c d e) FP
theorem w3{C:Cx}(co:CO C 0)(b:Scm)(c:List Slt)(d:Int)(e:Int)(a:B1)(f:Fld×Bool)(j:List Fld)(n:Fc a):KL Tryz.prog (Aq tl) 63 C (pa [0,0,1,0,1,1,1,1] (Ar Tryz.f60)) [.tmp 10] 0 (mc b c d e f j) (ld b c d e f) Ji nG (Ki b c d e a f j):=fun o _ m Q h k L=>eN co (Ad [2,3,4,5,11,35,36,37] LY) (Ad [2,3,4,5,11] LY) k m L fun r g=>⟨fun i=>fun l=>⟨fun y hy=>s6 (yh l i) hy co g [((1,14),⟨1,true,53,16,(cD (Ap i))⟩)] [],fun p=>⟨id,id⟩⟩,id⟩
theorem TF(a:B1)(f:Fc a)(c:Scm)(j:Msg)(h:List Slt)(i:Int)(d:Int):KC Tryz.prog 60 [.agg ((Al c).map .d),.agg ((Au j).map .d),vL At h,vI i,vI d] (PF a c j h i d) Ji:=Ck Tryz.func60 Tryz.ntmps60 AG [.tmp 10] fun C co y m k L=>mJ co 1 (Ad [2,3,4,5,6] [((1,5),false),((1,6),false)]) nl nH m L fun r g=>fun _ m L=>sq (EH co AG BN (.fst 0 (.fst 1 (.fst 2 (.fst 3 (.fst 4 (.fst 5 (.two 6 10 (.fst 7 (.fst 8 (.fst 9 (.fst 10 (.fst 11 (.fst 12 .nil)))))) (.fst 6 (.fst 7 (.fst 8 (.fst 9 (.fst 11 (.fst 12 .nil))))))))))))) [6] (XC c j h i d a) (Ad [2,3,4,5,6,11,12] LY) m L fun r g=>fun q=>fun e=>fun _ m L=>mJ co 2 (Ad [2,3,4,5,6,11] LY) nl nH m L fun r g=>⟨id,fun n=>⟨fun y hy=>s6 (nL n e.1) hy co g [(IQ e)] [],fun s=>⟨id,fun _ m L=>sq (mJ co 1 (Ad [2,3,4,5,11,35,36,37] LY) nl nH m L fun r g=>fun p=>fun _ m L=>bk 0 (lo (Az (w3 co c h i d a e p f) nH m L (fun _ m=>fO co m L fun r g=>fun b=>⟨fun y hy l _ _=>by rw[(f c e.1 b.val d).x,(f c e.1 b.val d).e];exact(f c e.1 b.val d).k _ l y hy,fun o=>id⟩))))⟩⟩⟩)
end Go.Proofs.YtopncadjpnkjhaaGreatDoor
