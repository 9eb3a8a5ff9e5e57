import Derived.Test.YtopncadjpnkjhaaGreatDoorZj17
import Derived.Test.YtopncadjpnkjhaaGreatDoorZj08
import Derived.Test.YtopncadjpnkjhaaGreatDoorRows
import Derived.WalkKit
import Derived.ProofKit
import Derived.OpenShut
import Derived.Carry
import Derived.Deep.DeepHandedRow
import Derived.Test.YtopncadjpnkjhaaGreatDoorZj09
import Derived.Test.YtopncadjpnkjhaaGreatDoorZj00
namespace Go.Proofs.YtopncadjpnkjhaaGreatDoor
set_option maxRecDepth 100000
set_option linter.all false
open Go Go.Eng
abbrev BS:List (Ab×Bool):=[((1,5),false),((1,6),false),((1,7),false)]
abbrev Gu(a:Scm):Ab×Blk:=kk 5 26 3 (cD (Al a))
abbrev Gw(a:Val):Ab×Blk:=kk 7 33 7 (cD (Af a))
abbrev Ft:Int→AV:=fun y=>vI y
def cj(a:Scm)(b:Msg)(c:Val)(d:Int)(e:Bool):Nat→St:=fun v2=>Aa [(3,vI d),(4,vB e),pp 5,pp 6,pp 7,(11,vN v2)] [(Gu a),kk 6 47 5 (cD (Au b)),(Gw c)]
def ba(a:Scm)(b:Msg)(c:Val):Unit→Nat×St:=fun _=>(0,Aa [pp 5,pp 6,pp 7] [(Gu a),kk 6 47 5 (cD (Au b)),(Gw c)])
def MR(c:Scm)(d:Msg)(a:Val)(e:Int)(f:Bool)(b:BR):Nat→Option (Lv (Nat) (Unit) (Int)):=fun v2=>(wg<|vz (Ag a.slots)<|br (decide ((v2:Int)<(a.slots.length:Int))) (wg<|wg<|wg<|cs Tryz.prog 123 [.agg ((Al c).map .d),.agg ((Au d).map .d),.agg ((Af a).map .d),vN v2,vI e,vB f] [] [] (Pg b c d a (v2:Int) e f) (fun y=>vI y) fun g=>br (!decide (g=(0:Int))) (Am Ft nG g) (vs (wa v2 1)<|ln (cj c d a e f) (v2+1))) (Ai (ba c d a) ()):PT 0 _).m
def ct(a:Scm)(b:Msg)(c:Val):Nat→St:=fun v4=>Aa [pp 5,pp 6,pp 7,(13,vN v4)] [(Gu a),kk 6 47 5 (cD (Au b)),(Gw c)]
def mm(a:Scm)(b:Msg)(c:Val):Unit→Nat×St:=fun _=>(2,Aa [pp 5,pp 6,pp 7] [(Gu a),kk 6 47 5 (cD (Au b)),(Gw c)])
def Na(e:Scm)(a:Msg)(c:Val)(d:BR):Nat→Option (Lv (Nat) (Unit) (Int)):=fun v4=>(wg<|vz (Ag a.fields)<|br (decide ((v4:Int)<(a.fields.length:Int))) (wg<|ix a.fields v4 fun b=>wg<|wg<|A8 (decide (b.card=(1:Int))) a.fields (v4:Int) fun f=>Aw (decide (b.card=(1:Int))) (oM c f.num) fun g=>br (decide (b.card=(1:Int))&&(!g)) (Am Ft nG 14) (vs (wa v4 1)<|ln (ct e a c) (v4+1))) (Ai (mm e a c) ()):PT 0 _).m
def lS(a:Scm)(b:Msg)(c:Val):Nat→St:=fun d=>Aa [pp 5,pp 6,pp 7,(14,vN d)] [(Gu a),kk 6 47 5 (cD (Au b)),(Gw c)]
def lE:Unit→Nat×St:=fun _=>(4,Aa [] [])
def M2(e:Scm)(f:Msg)(b:Val)(d:BR):Nat→Option (Lv (Nat) (Unit) (Int)):=fun c=>(wg<|vz (Ag b.raws)<|br (decide ((c:Int)<(b.raws.length:Int))) (wg<|wg<|wg<|ix b.raws c fun g=>cl (oq e f g) fun a=>br (!decide (a=(0:Int))) (Am Ft nG a) (vs (wa c 1)<|ln (lS e f b) (c+1))) (Ai (lE) ()):PT 0 _).m
def L5(a:BR)(c:Scm)(d:Msg)(b:Val)(e:Int)(f:Bool):Option (Int):=(wg<|wg<|Aw (!(!decide (b.kind=(10:Int)))) (RC b) fun g=>br ((!decide (b.kind=(10:Int)))||g) (lr Ft nG 12) (br (decide ((16:Int)<e)) (lr Ft nG 17) (lc (Aa [(3,vI e),(4,vB f),pp 5,pp 6,pp 7] [(Gu c),kk 6 47 5 (cD (Au d)),(Gw b)]) ((lc (Aa [(3,vI e),(4,vB f),pp 5,pp 6,pp 7,(11,vI 0)] [(Gu c),kk 6 47 5 (cD (Au d)),(Gw b)]) ((Ak (MR c d b e f a) Ah 0).bind (Sum.elim (fun _=>(lc (Aa [pp 5,pp 6,pp 7,(13,vI 0)] [(Gu c),kk 6 47 5 (cD (Au d)),(Gw b)]) ((Ak (Na c d b a) Ah 0).bind (Sum.elim (fun _=>(lc (Aa [pp 5,pp 6,pp 7,(14,vI 0)] [(Gu c),kk 6 47 5 (cD (Au d)),(Gw b)]) ((Ak (M2 c d b a) Ah 0).bind (Sum.elim (fun _=>(lr Ft nG 0:PT 0 _).m) some)):PT 0 _).m) some)):PT 0 _).m) some)):PT 0 _).m))):PT 0 _).m
theorem xB{C:Cx}(co:CO C 0)(b:Scm)(c:Msg)(d:Val)(e:Int)(f:Bool)(a:BR)(h:Ey a):KL Tryz.prog (Aq tl) 85 C (pa [0,0,1,0,1,1,1] (Ar Tryz.f64)) [.tmp 10] 0 (cj b c d e f) (ba b c d) Ft nG (MR b c d e f a):=fun v2 _ m Q i k L=>eN co (Ad [3,4,5,6,7,11] BS) (Ad [5,6,7] BS) k m L fun r g=>⟨⟨fun y hy j _ _=>by rw[(XH a h b c d (v2:Int) e f).x,(XH a h b c d (v2:Int) e f).e];exact(XH a h b c d (v2:Int) e f).k _ j y hy,fun l=>⟨id,id⟩⟩,id⟩
theorem x1{C:Cx}(co:CO C 0)(b:Scm)(c:Msg)(d:Val)(a:BR)(g:Ey a):KL Tryz.prog (Aq tl) 85 C (pa [0,0,1,0,1,1,1,1] (Ar Tryz.f64)) [.tmp 10] 0 (ct b c d) (mm b c d) Ft nG (Na b c d a):=fun v4 _ m Q e f L=>eN co (Ad [5,6,7,13] BS) (Ad [5,6,7] BS) f m L
theorem wv{C:Cx}(co:CO C 0)(c:Scm)(d:Msg)(e:Val)(a:BR)(g:Ey a):KL Tryz.prog (Aq tl) 85 C (pa [0,0,1,0,1,1,1,1,1] (Ar Tryz.f64)) [.tmp 10] 0 (lS c d e) (lE) Ft nG (M2 c d e a):=fun h _ m Q b f L=>eN co (Ad [5,6,7,14] BS) nl f m L
theorem O8(a:BR)(e:Ey a)(b:Scm)(c:Msg)(d:Val)(f:Int)(h:Bool):KC Tryz.prog 64 [.agg ((Al b).map .d),.agg ((Au c).map .d),.agg ((Af d).map .d),vI f,vB h] (L5 a b c d f h) Ft:=kC Tryz.func64 Tryz.ntmps64 [.tmp 10] fun co m L=>mJ co 3 (Ad [3,4,5,6,7] BS) nl nH m L fun r g=>fun i=>⟨id,⟨id,fun _ m L=>sq (mJ co 1 (Ad [3,4,5,6,7,11] BS) nl nH m L fun r g=>fun _ m L=>bk 0 (lo (Az (xB co b c d f h a e) nH m L (fun _ m=>sq (mJ co 1 (Ad [5,6,7,13] BS) nl nH m L fun r g=>fun _ m L=>bk 2 (lo (Az (x1 co b c d a e) nH m L (fun _ m=>sq (mJ co 1 (Ad [5,6,7,14] BS) nl nH m L fun r g=>fun _ m L=>bk 4 (lo (Az (wv co b c d a e) nH m L (fun _ m=>fO co m L))))))))))))⟩⟩
abbrev G5:Int→AV:=fun y=>vI y
def Ir(b:BR)(c:Scm)(a:Typ)(d:Val)(g:Int)(h:Bool):Option (Int):=(wg<|br (decide (a.kind=(10:Int))) (wg<|wg<|cl (eH c a.name) fun f=>wg<|br (!f.2) (lr G5 nG 10) (wg<|wg<|wg<|cs Tryz.prog 64 [.agg ((Al c).map .d),.agg ((Au f.1).map .d),.agg ((Af d).map .d),vI g,vB h] [] [] (L5 b c f.1 d g h) (fun y=>vI y) fun j=>lr G5 nG j)) (wg<|wg<|br (decide (a.kind<(1:Int))||decide ((9:Int)<a.kind)) (lr G5 nG 12) (wg<|wg<|cl (eq a.kind d) fun i=>wg<|br ((!decide (i=(0:Int)))||(!decide (a.kind=(9:Int)))) (lr G5 nG i) (wg<|wg<|cl (dA c a.name) fun e=>wg<|br (!e.2) (lr G5 nG 10) (wg<|wg<|wg<|Aw (!e.1.opn) (dz e.1 d.bits) fun k=>br ((!e.1.opn)&&(!k)) (lr G5 nG 16) (lr G5 nG 0))))):PT 0 _).m
theorem FR(a:BR)(f:Ey a)(b:Scm)(j:Typ)(c:Val)(d:Int)(e:Bool):KC Tryz.prog 26 [.agg ((Al b).map .d),.agg ((Ca j).map .d),.agg ((Af c).map .d),vI d,vB e] (Ir a b j c d e) G5:=Ck Tryz.func26 Tryz.ntmps26 AG [.tmp 10] fun C co y m i L=>fO co m L fun r g=>⟨fun h=>⟨id,⟨fun y hy k _ _=>by rw[(O8 a f b h.1 c d e).x,(O8 a f b h.1 c d e).e];exact(O8 a f b h.1 c d e).k _ k y hy,fun l=>id⟩⟩,⟨id,fun n=>⟨id,fun o=>⟨id,fun p=>⟨id,id⟩⟩⟩⟩⟩
abbrev C1(a:Scm):Ab×Blk:=kk 5 26 3 (cD (Al a))
abbrev CY(a:Fld):Ab×Blk:=kk 6 53 16 (cD (Ap a))
abbrev CX(a:Val):Ab×Blk:=kk 7 33 7 (cD (Af a))
def jr(a:Scm)(b:Fld)(c:Val)(d:Int)(e:Bool):Nat→St:=fun v2=>Aa [(3,vI d),(4,vB e),pp 5,pp 6,pp 7,(11,vN v2)] [(C1 a),(CY b),(CX c)]
def kc:Unit→Nat×St:=fun _=>(0,Aa [] [])
def MO(c:Scm)(d:Fld)(b:Val)(e:Int)(f:Bool)(a:BR):Nat→Option (Lv (Nat) (Unit) (Int)):=fun v2=>(wg<|vz (Ag b.list)<|br (decide ((v2:Int)<(b.list.length:Int))) (wg<|wg<|wg<|ix b.list v2 fun g=>cs Tryz.prog 26 [.agg ((Al c).map .d),.agg ((Ca d.type).map .d),.agg ((Af g).map .d),vI e,vB f] [] [] (Ir a c d.type g e f) (fun y=>vI y) fun h=>br (!decide (h=(0:Int))) (Am Dt nG h) (vs (wa v2 1)<|ln (jr c d b e f) (v2+1))) (Ai (kc) ()):PT 0 _).m
def j5(a:Scm)(b:Fld)(c:Val)(d:Int)(e:Bool):Nat→St:=fun f=>Aa [(3,vI d),(4,vB e),pp 5,pp 6,pp 7,(13,vN f)] [(C1 a),(CY b),(CX c)]
def kw:Unit→Nat×St:=fun _=>(2,Aa [] [])
def kV(a:Scm)(b:Fld)(c:Val)(d:Int)(e:Bool)(f:Nat):Nat→St:=fun v9=>Aa [(3,vI d),(4,vB e),pp 5,pp 6,pp 7,(13,vN f),(15,vN v9)] [(C1 a),(CY b),(CX c)]
def jX(a:Scm)(b:Fld)(c:Val)(d:Int)(e:Bool)(f:Nat):Unit→Nat×St:=fun _=>(4,Aa [(3,vI d),(4,vB e),pp 5,pp 6,pp 7,(13,vN f)] [(C1 a),(CY b),(CX c)])
def IB(i:Scm)(j:Fld)(c:Val)(k:Int)(g:Bool)(h:BR)(d:Nat):Nat→Option (Lv (Nat) (Unit) (Int)):=fun v9=>(br (decide ((v9:Int)<(d:Int))&&g) (wg<|ix c.pairs v9 fun a=>wg<|ix c.pairs d fun b=>wg<|A8 (decide (a.key.bits=b.key.bits)) c.pairs (v9:Int) fun e=>wg<|A8 (decide (a.key.bits=b.key.bits)) c.pairs (d:Int) fun f=>br (decide (a.key.bits=b.key.bits)&&decide (e.key.text=f.key.text)) (Am Dt nG 9) (vs (wa v9 1)<|ln (kV i j c k g d) (v9+1))) (Ai (jX i j c k g d) ()):PT 0 _).m
def ME(e:Scm)(c:Fld)(a:Val)(f:Int)(g:Bool)(d:BR):Nat→Option (Lv (Nat) (Unit) (Int)):=fun b=>(wg<|vz (Ag a.pairs)<|br (decide ((b:Int)<(a.pairs.length:Int))) (lc (Aa [(3,vI f),(4,vB g),pp 5,pp 6,pp 7,(13,vN b)] [(C1 e),(CY c),(CX a)]) ((wg<|wg<|ix a.pairs b fun k=>cl (eq c.key k.key) fun j=>br (!decide (j=(0:Int))) (Am Dt nG j) (lc (Aa [(3,vI f),(4,vB g),pp 5,pp 6,pp 7,(13,vN b)] [(C1 e),(CY c),(CX a)]) ((lc (Aa [(3,vI f),(4,vB g),pp 5,pp 6,pp 7,(13,vN b),(15,vI 0)] [(C1 e),(CY c),(CX a)]) ((Ak (IB e c a f g d b) Ah 0).bind (Sum.elim (fun _=>(wg<|wg<|wg<|ix a.pairs b fun h=>cs Tryz.prog 26 [.agg ((Al e).map .d),.agg ((Ca c.type).map .d),.agg ((Af h.val).map .d),vI f,vB g] [] [] (Ir d e c.type h.val f g) (fun y=>vI y) fun i=>br (!decide (i=(0:Int))) (Am Dt nG i) (lc (Aa [(3,vI f),(4,vB g),pp 5,pp 6,pp 7,(13,vN b)] [(C1 e),(CY c),(CX a)]) ((vs (wa b 1)<|ln (j5 e c a f g) (b+1):PT 0 _).m)):PT 0 _).m) (fun z=>some (.rt z)))):PT 0 _).m)):PT 0 _).m)) (Ai (kw) ()):PT 0 _).m
def Rv(f:BR)(c:Scm)(b:Fld)(a:Val)(d:Int)(e:Bool):Option (Int):=(lc (Aa [(3,vI d),(4,vB e),pp 5,pp 6,pp 7] [(C1 c),(CY b),(CX a)]) ((wg<|lc (Aa [(3,vI d),(4,vB e),pp 5,pp 6,pp 7,(18,vB (decide (b.card=(4:Int))))] [(C1 c),(CY b),(CX a)]) (if decide (b.card=(4:Int))=true then(wg<|wg<|Aw (!(!decide (a.kind=(11:Int)))) (RC a) fun h=>br ((!decide (a.kind=(11:Int)))||h) (lr Dt nG 12) (lc (Aa [(3,vI d),(4,vB e),pp 5,pp 6,pp 7] [(C1 c),(CY b),(CX a)]) ((lc (Aa [(3,vI d),(4,vB e),pp 5,pp 6,pp 7,(11,vI 0)] [(C1 c),(CY b),(CX a)]) ((Ak (MO c b a d e f) Ah 0).bind (Sum.elim (fun _=>(lr Dt nG 0:PT 0 _).m) some)):PT 0 _).m)):PT 0 _).m else(lc (Aa [(3,vI d),(4,vB e),pp 5,pp 6,pp 7] [(C1 c),(CY b),(CX a)]) ((wg<|lc (Aa [(3,vI d),(4,vB e),pp 5,pp 6,pp 7,(49,vB (decide (b.card=(5:Int))))] [(C1 c),(CY b),(CX a)]) (if decide (b.card=(5:Int))=true then(wg<|wg<|Aw (!(!decide (a.kind=(12:Int)))) (RC a) fun i=>br ((!decide (a.kind=(12:Int)))||i) (lr Dt nG 12) (lc (Aa [(3,vI d),(4,vB e),pp 5,pp 6,pp 7] [(C1 c),(CY b),(CX a)]) ((lc (Aa [(3,vI d),(4,vB e),pp 5,pp 6,pp 7,(13,vI 0)] [(C1 c),(CY b),(CX a)]) ((Ak (ME c b a d e f) Ah 0).bind (Sum.elim (fun _=>(lr Dt nG 0:PT 0 _).m) some)):PT 0 _).m)):PT 0 _).m else(lc (Aa [(3,vI d),(4,vB e),pp 5,pp 6,pp 7] [(C1 c),(CY b),(CX a)]) ((wg<|wg<|wg<|cs Tryz.prog 26 [.agg ((Al c).map .d),.agg ((Ca b.type).map .d),.agg ((Af a).map .d),vI d,vB e] [] [] (Ir f c b.type a d e) (fun y=>vI y) fun g=>lr Dt nG g:PT 0 _).m):PT 0 _).m):PT 0 _).m):PT 0 _).m):PT 0 _).m):PT 0 _).m
theorem um{C:Cx}(co:CO C 0)(b:Scm)(c:Fld)(j:Val)(d:Int)(e:Bool)(a:BR)(h:Ey a):KL Tryz.prog (Aq tl) 138 C (pa [0,0,1,0,1,0,1,0,1] (Ar Tryz.f165)) [.tmp 10] 0 (jr b c j d e) (kc) Dt nG (MO b c j d e a):=fun v2 _ m Q i l L=>eN co (Ad [3,4,5,6,7,11] BS) nl l m L fun r g=>⟨fun f=>⟨fun y hy k _ _=>by rw[(FR a h b c.type f d e).x,(FR a h b c.type f d e).e];exact(FR a h b c.type f d e).k _ k y hy,fun n=>⟨id,id⟩⟩,id⟩
theorem uJ{C:Cx}(co:CO C 0)(b:Scm)(c:Fld)(d:Val)(e:Int)(f:Bool)(a:BR)(g:Nat)(j:Ey a):KL Tryz.prog (Aq tl) 138 C (pa [0,0,1,0,1,1,0,0,1,0,0,1,0,1,0,1,0,1,1] (Ar Tryz.f165)) [.tmp 10] 0 (kV b c d e f g) (jX b c d e f g) Dt nG (IB b c d e f a g):=fun v9 _ m Q h i L=>eN co (Ad [3,4,5,6,7,13,15] BS) (Ad [3,4,5,6,7,13] BS) i m L
theorem vJ{C:Cx}(co:CO C 0)(d:Scm)(e:Fld)(j:Val)(f:Int)(h:Bool)(a:BR)(i:Ey a):KL Tryz.prog (Aq tl) 138 C (pa [0,0,1,0,1,0,1,0,1,1] (Ar Tryz.f165)) [.tmp 10] 0 (j5 d e j f h) (kw) Dt nG (ME d e j f h a):=fun n _ m Q k c L=>mJ co 1 (Ad [3,4,5,6,7,13] BS) nl c m L fun r g=>⟨fun _ m L=>sq (bk 3 (mJ co 2 (Ad [3,4,5,6,7,13] BS) nl c m L fun r g=>fun p=>fun q=>⟨id,fun _ m L=>sq (mJ co 1 (Ad [3,4,5,6,7,13,15] BS) nl c m L fun r g=>fun _ m L=>bk 4 (lo (I9 (uJ co d e j f h a n i) c m L (fun _ m=>eN co (Ad [3,4,5,6,7,13] BS) nl c m L fun r g=>fun b=>⟨fun y hy l _ _=>by rw[(FR a i d e.type b.val f h).x,(FR a i d e.type b.val f h).e];exact(FR a i d e.type b.val f h).k _ l y hy,fun o=>⟨id,fun _ m L=>eN co (Ad [3,4,5,6,7,13] BS) nl c m L⟩⟩))))⟩)),id⟩
theorem nq(a:BR)(h:Ey a)(b:Scm)(c:Fld)(d:Val)(e:Int)(f:Bool):KC Tryz.prog 165 [.agg ((Al b).map .d),.agg ((Ap c).map .d),.agg ((Af d).map .d),vI e,vB f] (Rv a b c d e f) Dt:=Ck Tryz.func165 Tryz.ntmps165 AG [.tmp 10] fun C co y m i L=>mJ co 1 (Ad [3,4,5,6,7] BS) nl nH m L fun r g=>fun _ m L=>sq (mJ co 1 (Ad [3,4,5,6,7,18] BS) nl nH m L fun r g=>fun _ m L=>K4 m (fun m=>mJ co 1 (Ad [3,4,5,6,7] BS) nl nH m L fun r g=>fun l=>⟨id,fun _ m L=>sq (mJ co 1 (Ad [3,4,5,6,7,11] BS) nl nH m L fun r g=>fun _ m L=>bk 0 (lo (Az (um co b c d e f a h) nH m L (fun _ m=>eN co nl nl nH m L))))⟩) (fun m=>eN co (Ad [3,4,5,6,7] BS) nl nH m L fun r g=>fun _ m L=>sq (mJ co 1 (Ad [3,4,5,6,7,49] BS) nl nH m L fun r g=>fun _ m L=>K4 m (fun m=>mJ co 1 (Ad [3,4,5,6,7] BS) nl nH m L fun r g=>fun n=>⟨id,fun _ m L=>sq (mJ co 1 (Ad [3,4,5,6,7,13] BS) nl nH m L fun r g=>fun _ m L=>bk 2 (lo (Az (vJ co b c d e f a h) nH m L (fun _ m=>eN co nl nl nH m L))))⟩) (fun m=>eN co (Ad [3,4,5,6,7] BS) nl nH m L fun r g=>fun _ m L=>fO co m L fun r g=>⟨fun y hy j _ _=>by rw[(FR a h b c.type d e f).x,(FR a h b c.type d e f).e];exact(FR a h b c.type d e f).k _ j y hy,fun k=>id⟩))))
def EY:Nat→Scm→Fld→Val→Int→Bool→Option (Int)
 |0=>fun _ _ _ _ _=>none
 |a+1=>Rv (EY a)
theorem XK:∀(f:Nat) (a:Scm) (b:Fld) (c:Val) (d:Int) (e:Bool),KC Tryz.prog 165 [.agg ((Al a).map .d),.agg ((Ap b).map .d),.agg ((Af c).map .d),vI d,vB e] (EY f a b c d e) Dt
 |0,a,b,c,d,e=>⟨fun _ _ _ h=>(by cases h),by intro r;kernel_rfl,by intro r y;kernel_rfl⟩
 |f+1,a,b,c,d,e=>nq (EY f) (XK f) a b c d e
abbrev Gt(a:Val):Ab×Blk:=kk 1 33 7 (cD (Af a))
abbrev If:Int→AV:=fun y=>vI y
def la(a:Val):Int×Nat→St:=fun(b,v2)=>Aa [pp 1,(3,vI b),(4,vN v2)] [(Gt a)]
def bl(a:Val):Int→Nat×St:=fun v5=>(0,Aa [pp 1,(3,vI v5)] [(Gt a)])
abbrev GS:=Val→Option (Int)
def M7(a:Val)(b:GS):Int×Nat→Option (Lv (Int×Nat) (Int) (Int)):=fun(c,v2)=>(wg<|vz (Ag a.list)<|br (decide ((v2:Int)<(a.list.length:Int))) (wg<|ix a.list v2 fun d=>cs Tryz.prog 65 [.agg ((Af d).map .d)] [] [] (b d) (fun y=>vI y) fun e=>vs (wi (c+e))<|vs (wa v2 1)<|ln (la a) ((c+e),v2+1)) (Ai (bl a) c):PT 0 _).m
def bd(a:Val):Int×Nat→St:=fun(b,c)=>Aa [pp 1,(3,vI b),(5,vN c)] [(Gt a)]
def b5(b:Val):Int→Nat×St:=fun a=>(2,Aa [pp 1,(3,vI a)] [(Gt b)])
def MY(b:Val)(c:GS):Int×Nat→Option (Lv (Int×Nat) (Int) (Int)):=fun(f,e)=>(wg<|vz (Ag b.pairs)<|br (decide ((e:Int)<(b.pairs.length:Int))) (wg<|ix b.pairs e fun h=>cs Tryz.prog 65 [.agg ((Af h.key).map .d)] [] [] (c h.key) (fun y=>vI y) fun g=>wg<|ix b.pairs e fun d=>cs Tryz.prog 65 [.agg ((Af d.val).map .d)] [] [] (c d.val) (fun y=>vI y) fun a=>vs (wi (g+a))<|vs (wi (f+(g+a)))<|vs (wa e 1)<|ln (bd b) ((f+(g+a)),e+1)) (Ai (b5 b) f):PT 0 _).m
def lZ(c:Val):Int×Nat→St:=fun(a,b)=>Aa [pp 1,(3,vI a),(6,vN b)] [(Gt c)]
def me:Int→Nat×St:=fun a=>(4,Aa [(3,vI a)] [])
def MS(e:Val)(f:GS):Int×Nat→Option (Lv (Int×Nat) (Int) (Int)):=fun(b,a)=>(wg<|vz (Ag e.slots)<|br (decide ((a:Int)<(e.slots.length:Int))) (wg<|ix e.slots a fun c=>cs Tryz.prog 65 [.agg ((Af c.val).map .d)] [] [] (f c.val) (fun y=>vI y) fun d=>vs (wi (b+d))<|vs (wa a 1)<|ln (lZ e) ((b+d),a+1)) (Ai (me) b):PT 0 _).m
def OG(b:GS)(a:Val):Option (Int):=(wg<|vz (Ag a.raws)<|vs (wa 1 a.raws.length)<|lc (Aa [pp 1,(3,vN (1+a.raws.length))] [(Gt a)]) ((lc (Aa [pp 1,(3,vN (1+a.raws.length)),(4,vI 0)] [(Gt a)]) ((Ak (M7 a b) Ah (((1+a.raws.length:Nat):Int),0)).bind (Sum.elim (fun v5=>(lc (Aa [pp 1,(3,vI v5),(5,vI 0)] [(Gt a)]) ((Ak (MY a b) Ah (v5,0)).bind (Sum.elim (fun c=>(lc (Aa [pp 1,(3,vI c),(6,vI 0)] [(Gt a)]) ((Ak (MS a b) Ah (c,0)).bind (Sum.elim (fun d=>(lr If nG d:PT 0 _).m) some)):PT 0 _).m) some)):PT 0 _).m) some)):PT 0 _).m):PT 0 _).m
abbrev OI(a:GS):Prop:=∀(b:Val),KC Tryz.prog 65 [.agg ((Af b).map .d)] (a b) If
theorem wJ{C:Cx}(co:CO C 0)(d:Val)(a:GS)(c:OI a):KL Tryz.prog (Aq tl) 67 C (pa [0,0,1,0,1,1] (Ar Tryz.f65)) [.tmp 2] 0 (la d) (bl d) If nG (M7 d a):=fun(i,v2) _ m Q e h L=>eN co (Ad [1,3,4] Dh) (Ad [1,3] Dh) h m L fun r g=>⟨fun b=>⟨fun y hy f _ _=>by rw[(c b).x,(c b).e];exact(c b).k _ f y hy,fun j=>id⟩,id⟩
theorem w4{C:Cx}(co:CO C 0)(f:Val)(c:GS)(b:OI c):KL Tryz.prog (Aq tl) 67 C (pa [0,0,1,0,1,1,1] (Ar Tryz.f65)) [.tmp 2] 0 (bd f) (b5 f) If nG (MY f c):=fun(k,l) _ m Q h i L=>eN co (Ad [1,3,5] Dh) (Ad [1,3] Dh) i m L fun r g=>⟨fun e=>⟨fun y hy d _ _=>by rw[(b e.key).x,(b e.key).e];exact(b e.key).k _ d y hy,fun n=>fun a=>⟨fun y hy d _ _=>by rw[(b a.val).x,(b a.val).e];exact(b a.val).k _ d y hy,fun j=>id⟩⟩,id⟩
theorem xq{C:Cx}(co:CO C 0)(e:Val)(b:GS)(c:OI b):KL Tryz.prog (Aq tl) 67 C (pa [0,0,1,0,1,1,1,1] (Ar Tryz.f65)) [.tmp 2] 0 (lZ e) (me) If nG (MS e b):=fun(i,j) _ m Q d h L=>eN co (Ad [1,3,6] Dh) (AI [3]) h m L fun r g=>⟨fun a=>⟨fun y hy f _ _=>by rw[(c a.val).x,(c a.val).e];exact(c a.val).k _ f y hy,fun k=>id⟩,id⟩
theorem n1(a:GS)(c:OI a)(b:Val):KC Tryz.prog 65 [.agg ((Af b).map .d)] (OG a b) If:=kC Tryz.func65 Tryz.ntmps65 [.tmp 2] fun co m L=>mJ co 2 (Ad [1,3] Dh) nl nH m L fun r g=>fun _ m L=>sq (mJ co 1 (Ad [1,3,4] Dh) nl nH m L fun r g=>fun _ m L=>bk 0 (lo (Az (wJ co b a c) nH m L (fun v5 m=>sq (mJ co 1 (Ad [1,3,5] Dh) nl nH m L fun r g=>fun _ m L=>bk 2 (lo (Az (w4 co b a c) nH m L (fun d m=>sq (mJ co 1 (Ad [1,3,6] Dh) nl nH m L fun r g=>fun _ m L=>bk 4 (lo (Az (xq co b a c) nH m L (fun e m=>fO co m L))))))))))))
def Hl:Nat→Val→Option (Int)
 |0=>fun _=>none
 |a+1=>OG (Hl a)
theorem em:∀(b:Nat) (a:Val),KC Tryz.prog 65 [.agg ((Af a).map .d)] (Hl b a) If
 |0,a=>⟨fun _ _ _ h=>(by cases h),by intro r;kernel_rfl,by intro r y;kernel_rfl⟩
 |b+1,a=>n1 (Hl b) (em b) a
abbrev Le:Int→AV:=fun y=>vI y
def UE(a:Scm)(e:ByteArray)(b:Val)(f:Bool):Option (Int):=(wg<|cl (eH a e) fun c=>wg<|br (!c.2) (lr Le nG 10) (wg<|wg<|wg<|cl (O8 (EY Ah) (XK Ah) a c.1 b 1 f) fun d=>br (!decide (d=(0:Int))) (lr Le nG d) (wg<|cl (em Ah b) fun g=>br (decide ((4096:Int)<g)) (lr Le nG 3) (lr Le nG 0))):PT 0 _).m
theorem qs(a:Scm)(b:ByteArray)(c:Val)(d:Bool):KC Tryz.prog 22 [.agg ((Al a).map .d),vS b,.agg ((Af c).map .d),vB d] (UE a b c d) Le:=kC Tryz.func22 Tryz.ntmps22 [.tmp 8] fun co m L=>fO co m L
abbrev E9:Int→AV:=fun y=>vI y
def Uq(a:Scm)(b:ByteArray)(c:Val):Option (Int):=(wg<|wg<|cl (qs a b c true) fun d=>lr E9 nG d:PT 0 _).m
theorem m8(a:Scm)(b:ByteArray)(c:Val):KC Tryz.prog 9 [.agg ((Al a).map .d),vS b,.agg ((Af c).map .d)] (Uq a b c) E9:=kC Tryz.func9 Tryz.ntmps9 [.tmp 6] fun co m L=>fO co m L
abbrev Jf:Bool→AV:=fun y=>vB y
def Vc(b:Scm)(a:Typ)(c:Val):Option (Bool):=(wg<|br (decide (a.kind=(10:Int))) (wg<|wg<|wg<|cl (Sq b a.name c) fun d=>lr Jf nG (decide (d=(0:Int)))) (wg<|cl (Ny a.kind) fun e=>br (!e) (lr Jf nG false) (wg<|br (decide (a.kind=(9:Int))) (wg<|wg<|cl (Ty b a.name) fun f=>wg<|br (!f.2) (lr Jf nG false) (wg<|wg<|wg<|cl (OW b a c) fun g=>lr Jf nG (decide (g=(0:Int))))) (wg<|wg<|wg<|cl (OW b a c) fun h=>lr Jf nG (decide (h=(0:Int)))))):PT 0 _).m
theorem pU(a:Scm)(b:Typ)(c:Val):KC Tryz.prog 10 [.agg ((Al a).map .d),.agg ((Ca b).map .d),.agg ((Af c).map .d)] (Vc a b c) Jf:=kC Tryz.func10 Tryz.ntmps10 [.tmp 6] fun co m L=>fO co m L
abbrev R3:Bool→AV:=fun y=>vB y
def Uz(b:Scm)(a:Typ)(c:Val):Option (Bool):=(wg<|br (decide (a.kind=(10:Int))) (wg<|wg<|wg<|cl (m8 b a.name c) fun d=>lr R3 nG (decide (d=(0:Int)))) (wg<|wg<|wg<|cl (FR (EY Ah) (XK Ah) b a c 1 true) fun e=>lr R3 nG (decide (e=(0:Int)))):PT 0 _).m
theorem qn(a:Scm)(b:Typ)(c:Val):KC Tryz.prog 11 [.agg ((Al a).map .d),.agg ((Ca b).map .d),.agg ((Af c).map .d)] (Uz a b c) R3:=kC Tryz.func11 Tryz.ntmps11 [.tmp 6] fun co m L=>fO co m L
abbrev E4:Bool→AV:=fun y=>vB y
def Ud(a:Scm)(b:Typ)(c:Val):Option (Bool):=(wg<|cl (m7 a) fun f=>br (!f) (cl (Z1) fun g=>lr E4 nG g) (wg<|wg<|wg<|cl (pU a b c) fun d=>wg<|wg<|wg<|cl (qn a b c) fun e=>Aw (d==e) (Z1) fun h=>lr E4 nG ((d==e)&&h)):PT 0 _).m
theorem m6(a:Scm)(b:Typ)(c:Val):KC Tryz.prog 4 [.agg ((Al a).map .d),.agg ((Ca b).map .d),.agg ((Af c).map .d)] (Ud a b c) E4:=kC Tryz.func4 Tryz.ntmps4 [.tmp 6] fun co m L=>fO co m L
end Go.Proofs.YtopncadjpnkjhaaGreatDoor
namespace Go.Proofs.YtopncadjpnkjhaaGreatDoor
set_option linter.all false
open Go Go.Eng
end Go.Proofs.YtopncadjpnkjhaaGreatDoor
namespace Go.Proofs.YtopncadjpnkjhaaGreatDoor
set_option linter.all false
open Go Go.Eng Go.ChangeShapes Go.WideShapes Go.ChangeAt Go.RowKit
theorem u4{H:Type}(b:List UInt8):Rows.uptoBulk (DataW.lit (H:=H) (.string b))=b.length+1:=by simp only[Rows.uptoBulk]
theorem sV{H:Type}(a b:List (DataW H)):Rows.uptoBulk (.slice a b)=Rows.uptoBulkAll a+Rows.uptoBulkAll b+1:=by simp only[Rows.uptoBulk]
theorem uW{H:Type}(a:List (DataW H)):Rows.uptoBulk (.agg a)=Rows.uptoBulkAll a+1:=by simp only[Rows.uptoBulk]
def Hy(W:World)(ds:List D)(cs:List Value)(o:Nat):Prop:=∀(i:Nat) (d:D),ds[i]?=some d→∃c,cs[o+i]?=some c∧RepD W (· <W.heap.size) d c
def IJ(W:World)(ds:List D)(cs:List Value):Prop:=ds.length=cs.length∧Hy W ds cs 0
theorem Hy.app{W:World}{ds a:List D}{cs:List Value}{o:Nat}(h:Hy W ds cs o)(k:Hy W a cs (o+ds.length)):Hy W (ds++a) cs o:=fun i d hi=>by
 rcases Yz i ds.length with hl|hl
 ·rw[Yo hl]at hi;exact h i d hi
 ·rw[Yy hl]at hi
  obtain⟨c,b,e⟩:=k _ d hi
  grind
theorem Hy.nil{W:World}{cs:List Value}{o:Nat}:Hy W [] cs o:=fun i d h=>by simp at h
theorem IJ.at{W:World}{ds:List D}{cs:List Value}{o k:Nat}(h:IJ W ds ((cs.drop o).take k)):Hy W ds cs o:=fun i d hi=>by
 obtain⟨c,a,b⟩:=h.2 i d hi
 grind
def rk(k:IntKind)(n:Int):Nat:=if Lit.wf (.int k n)=true then 0 else 1000000000000
theorem l5{k:IntKind}{n:Int}(h:rk k n≤1048576):k.min≤n∧n≤k.max:=by
 unfold rk at h
 split at h
 ·rename_i a
  unfold Lit.wf at a
  rw[Yb]at a
  exact⟨Em a.1,Em a.2⟩
 ·omega
mutual
def bk:D→Nat
 |.int k n=>rk k n
 |.bool _=>0
 |.str s=>s.size
 |.list a=>Bp a
 |.map _ a=>Bp a
def An:List D→Nat
 |[]=>0
 |d::l=>bk d+An l
def Bp:List (List D)→Nat
 |[]=>0
 |e::l=>An e+1+Bp l
end
theorem Ms:∀a b:List D,An (a++b)=An a+An b
 |[],b=>by rw[F4,An,YS]
 |d::a,b=>by rw[Hb,An,An,Ms a b,YC]
theorem WA(d:D):An [d]=bk d:=by rw[An,An,DZ]
theorem Cc{α:Type}{e:α→List D}:∀l:List α,l.length≤Bp (l.map e)
 |[]=>D0 _
 |x::l=>by have:=Cc (e:=e) l;rw[Y4,Bp,EW];omega
theorem Cu{α:Type}{e:α→List D}{x:α}:∀{l:List α},x∈l→An (e x)+1≤Bp (l.map e)
 |y::l,h=>by
  rw[Y4,Bp]
  cases YK.1 h with
  |inl h=>subst h;omega
  |inr h=>have:=Cu (e:=e) h;omega
section
variable {H:Type} (enc:TypeId×Value→H) (P:Program) (W:World)
def BP{α:Type}(n:Nat)(t:TypeId)(e:α→List D):Prop:=
 ∀cs x,DataW.trod enc P W 0 (fun _=>true) true n t cs=some x→∃v:α,IJ W (e v) cs∧An (e v)+1≤Rows.uptoBulk x.1
end
section
variable {H:Type} {enc:TypeId×Value→H} {P:Program} {W:World} {n:Nat} {t:TypeId}
theorem Wm(d:DataW H):1≤Rows.uptoBulk d:=by cases d<;>(try (rename_i l;cases l))<;>simp[Rows.uptoBulk]
theorem Ml{d:D}{c:Value}(h:RepD W (· <W.heap.size) d c):IJ W [d] [c]:=⟨rfl,fun i d' hi=>by
 cases i with
 |zero=>cases hi;exact⟨c,rfl,h⟩
 |succ i=>simp at hi⟩
theorem DH{k:IntKind}(a:P.underlying t=some (.int k)):BP enc P W n t (fun v:Int=>[.int k v]):=fun cs x c=>by
 obtain⟨m,rfl,rfl,b⟩:=DataW.trod_int a c
 refine⟨m,Ml (.int _ _),?_⟩
 rw[WA,bk,rk,Yi b]
 exact Wm _
theorem iS(a:P.underlying t=some .bool):BP enc P W n t (fun v:Bool=>[.bool v]):=fun cs x b=>by
 obtain⟨m,rfl,rfl⟩:=DataW.trod_bool a b
 exact⟨m,Ml (.bool _),Wm _⟩
theorem DJ(a:P.underlying t=some .string):BP enc P W n t (fun v:ByteArray=>[.str v]):=fun cs x b=>by
 obtain⟨m,rfl,rfl,_⟩:=DataW.trod_string a b
 refine⟨m,Ml (.str _),?_⟩
 rw[u4,WA]
 exact Yh _
theorem jM{α:Type}{e:α→List D}:∀(l:List α) (xs:List (DataW H×List MemPlace)),l.length=xs.length→(∀(i:Nat) (v:α),l[i]?=some v→∃y:DataW H×List MemPlace,xs[i]?=some y∧An (e v)+1≤Rows.uptoBulk y.1)→Bp (l.map e)≤Rows.uptoBulkAll (xs.map (·.1))
 |[],_,_,_=>D0 _
 |x::l,[],h,_=>by cases h
 |x::l,y::xs,h,k=>by
  have:=jM l xs (Su h) (fun i v hi=>k (i+1) v hi)
  obtain⟨c,a,b⟩:=k 0 x rfl
  cases a
  rw[Y4,Y4,Bp]
  simp only[Rows.uptoBulkAll]
  omega
theorem jc{α:Type}{Q:Nat→α→Prop}:∀(len:Nat),(∀i,i<len→∃v,Q i v)→∃l:List α,l.length=len∧∀i v,l[i]?=some v→Q i v
 |0,_=>⟨[],rfl,fun i v h=>by simp at h⟩
 |len+1,h=>by
  obtain⟨l,a,b⟩:=jc len (fun i hi=>h i (by omega))
  obtain⟨v,c⟩:=h len (by omega)
  refine⟨l++[v],by simp[a],fun i w hi=>?_⟩
  grind
theorem CE{α:Type}{e:TypeId}{b:α→List D}{sz:Nat}(X:P.underlying t=some (.slice e))(E:P.cellsOf e=sz)(V:sz≠0)(hl:∀x,(b x).length=sz)(h:∀m,m<n→BP enc P W m e b):
  BP enc P W n t (fun l:List α=>[.list (l.map b)]):=fun cs x Y=>by
 rcases DataW.trod_slice X Y with⟨rfl,rfl⟩|⟨a,len,cap,g,J,m,rfl,rfl,rfl,hb,z,T,U,hi,_,_⟩
 ·exact⟨[],Ml .nil,Wm _⟩
 ·have k:∀i,i<len→∃v:α,∃y f,g[i]?=some y∧W.cells? 0 (a.add (i*sz)) sz=some f∧IJ W (b v) f∧An (b v)+1≤Rows.uptoBulk y.1:=fun i B=>by
   have I:=hi i B
   rw[Ye (by omega),E]at I
   obtain⟨f,N,O⟩:=ah.1 I
   obtain⟨v,Q,R⟩:=h m (by omega) f _ O
   exact⟨v,_,f,Ye (by omega),N,Q,R⟩
  obtain⟨l,A,r⟩:=jc len k
  have cell:∀(i j:Nat) (e':List D) (x:D),(l.map b)[i]?=some e'→e'[j]?=some x→∃c,W.cell? (a.add (i*sz+j))=some c∧RepD W (· <W.heap.size) x c:=fun i j e' x d o=>by
   rw[YJ]at d
   cases s:l[i]? with
   |none=>rw[s]at d;cases d
   |some v=>
    rw[s]at d
    cases d
    obtain⟨y,f,p,q,F,G⟩:=r i v s
    obtain⟨c,H,K⟩:=F.2 j x o
    rw[YS]at H
    obtain⟨_,Z,L⟩:=World.cells?_some q
    have u:j<sz:=by
     rw[←hl v]
     rcases Yz j (b v).length with h|h
     ·exact h
     ·rw[YI h]at o;cases o
    refine⟨c,?_,K⟩
    rw[←Go.Eng.add_add,L j u,H]
  refine⟨l,Ml ?_,?_⟩
  ·have hlen:(l.map b).length=len:=by simp[A]
   have:=RepD.list (w:=W) (S:=(· <W.heap.size)) (l.map b) a sz cap (fun i j=>(W.cell? (a.add (i*sz+j))).getD undef) (fun C=>by
     have M:0<len:=by
      rcases Ob len with h|h
      ·exact absurd (Y8 (hlen.trans h)) C
      ·exact h
     obtain⟨v,y,f,_,q,_⟩:=k 0 M
     have:=World.cells?_block q (by omega)
     rw[LC]at this
     rw[←Go.Eng.block_add a 0];exact this)
    (by rw[hlen];exact z) (fun e' he=>by obtain⟨y,_,rfl⟩:=YU.1 he;exact hl y)
    (fun i j e' x d o=>by obtain⟨c,p,_⟩:=cell i j e' x d o;rw[p];rfl)
    (fun i j e' x d o=>by obtain⟨c,p,q⟩:=cell i j e' x d o;rw[p];exact q)
   rw[hlen]at this
   exact this
  ·rw[sV,WA,bk]
   have:=jM (e:=b) l g (by omega) (fun i v s=>by
    obtain⟨y,f,p,q,F,G⟩:=r i v s
    exact⟨y,p,G⟩)
   omega
def FB(xs:List (DataW H×List MemPlace))(i:Nat):Nat:=Rows.uptoBulkAll ((xs.drop i).map (·.1))
theorem Ba{xs:List (DataW H×List MemPlace)}{i:Nat}{a b:List D}(h:An a+1+FB xs (i+1)≤FB xs i)(k:An b≤FB xs (i+1)):An (a++b)≤FB xs i:=by
 rw[Ms];omega
theorem DK{xs:List (DataW H×List MemPlace)}{i:Nat}{a:List D}(h:An a+1+FB xs (i+1)≤FB xs i):An a≤FB xs i:=by omega
theorem DI{xs:List (DataW H×List MemPlace)}{a:List D}(h:An a≤FB xs 0):An a+1≤Rows.uptoBulk (.agg (xs.map (·.1))):=by
 rw[uW];exact Nat.succ_le_succ h
theorem tP{α:Type}{e:α→List D}{m i:Nat}{c:TypeId}{a:List Value}{xs:List (DataW H×List MemPlace)}(h:BP enc P W m c e)(b:DataW.trod enc P W 0 (fun _=>true) true m c a=xs[i]?)(hi:i<xs.length):
  ∃v,IJ W (e v) a∧An (e v)+1+FB xs (i+1)≤FB xs i:=by
 rw[Ye hi]at b
 obtain⟨v,d,f⟩:=h _ _ b
 refine⟨v,d,?_⟩
 unfold FB
 rw[In hi,Y4]
 simp only[Rows.uptoBulkAll]
 omega
theorem rf{α:Type}{e:α→List D}{m i k:Nat}{b:TypeId}{a:List Value}{xs:List (DataW H×List MemPlace)}(h:BP enc P W m b e)(c:DataW.trod enc P W 0 (fun _=>true) true m b a=xs[i]?)(d:xs.length=k)(hi:Nat.blt i k=true:=by kernel_rfl):
  ∃v,IJ W (e v) a∧An (e v)+1+FB xs (i+1)≤FB xs i:=tP h c (by rw[d];exact Yf hi)
theorem WN{α:Type}{e e':α→List D}(he:∀x,e x=e' x)(h:BP enc P W n t e'):BP enc P W n t e:=fun cs x a=>by
 obtain⟨v,b,c⟩:=h cs x a
 grind
theorem WB{α:Type}{e:α→List D}{q:Array Field}{r:Reach}{b:Nat}{v:Value}{d:DataW H}{p:List MemPlace}(rd:∀n,BP enc P W n t e)(w:P.underlying t=some (.struct q))(z:Value.okWide P W r b t v)
  (h:DataW.Trod enc P W 0 (fun _=>true) true t v d p):∃x:α,(∀m l,RepA W (· <W.heap.size) (fun _=>⟨0,false,0,0,[]⟩) m l (.agg ((e x).map .d)) v)∧An (e x)+1≤Rows.uptoBulk d:=by
 obtain⟨cs,rfl,_⟩:=okWide_struct w z
 obtain⟨n,u⟩:=h
 obtain⟨x,k,s⟩:=rd n _ _ u
 have hl:(e x).length=cs.size:=by rw[k.1];simp[Value.cells]
 have key:∀(i:Nat) (c:Value),cs[i]?=some c→∃d,(e x)[i]?=some d∧RepD W (· <W.heap.size) d c:=fun i c f=>by
  have g:i<(e x).length:=by
   grind
  obtain⟨j,a,o⟩:=k.2 i _ (Ye g)
  have:j=c:=by
   rw[YS]at a
   have:cs.toList[i]?=some j:=a
   grind
  grind
 refine⟨x,fun m l=>.agg _ _ (by rw[YD,hl]) (fun i c f=>?_) (fun i y c hy f=>?_),s⟩
 ·obtain⟨d,_,a⟩:=key i c f;exact a.one
 ·obtain⟨d,a,o⟩:=key i c f
  rw[YJ,a]at hy
  cases hy
  exact .d _ _ o
def Z0:Hp:=fun _=>⟨0,false,0,0,[]⟩
theorem yU(m:Mu):Ok 0 Z0 m (· <W.heap.size) W:=⟨fun _ h=>h,fun _ _ h=>(by cases h),fun _ _ h=>(by cases h),fun _ _ _ _ h=>(by cases h),fun _ _ h=>(by cases h),⟨fun _ _ h=>(by cases h),fun _ _ h=>(by cases h),fun _ _ _ _ h=>(by cases h)⟩⟩
def eu(w:World)(S:Nat→Prop)(Hp:Hp)(m:Mu)(l:Nat):List AV→List Value→Prop
 |[],[]=>True
 |x::xs,v::vs=>RepA w S Hp m l x v∧eu w S Hp m l xs vs
 |_,_=>False
theorem wZ{w:World}{S:Nat→Prop}{Hp:Hp}{m:Mu}{l:Nat}{xs:List AV}{vs:List Value}(h:eu w S Hp m l xs vs):Iz w S Hp m l xs vs.toArray:=by
 suffices b:xs.length=vs.length∧∀(i:Nat) (x:AV) (v:Value),xs[i]?=some x→vs[i]?=some v→RepA w S Hp m l x v by
  exact⟨by simpa using b.1,fun i x v f e=>b.2 i x v f (by simpa using e)⟩
 induction xs generalizing vs with
 |nil=>cases vs with
  |nil=>exact⟨rfl,fun i x v h=>by simp at h⟩
  |cons _ _=>exact h.elim
 |cons x xs g=>cases vs with
  |nil=>exact h.elim
  |cons v vs=>
   obtain⟨c,d⟩:=g h.2
   refine⟨by simp[c],fun i y u hy a=>?_⟩
   cases i with
   |zero=>simp at hy a;subst hy;subst a;exact h.1
   |succ i=>exact d i y u (by simpa using hy) (by simpa using a)
theorem tt{f:Func}{s:ChangeSpec}{r:World}{args:Array Value}{ds A:List (DataW H)}{e:List MemPlace}{u:TypeId}(C:DataW.Whole enc P f.params.toList s.vars false W args.toList ds A e)(c:s.vars=[])
  (k:laidOutB P=true) (z:∀t∈f.params.toList,P.readableRec t=true∧t<P.types.size) (g:f.resultTypes.toList=[u]) (L:P.underlying u=some .bool)
  (j:s.fn H (ds++A)={results:=[.lit (.bool true)],args:=ds }) (n:Below W.heap.size W r):s.post enc P f false true false false W args (.bool true) r:=by
 obtain⟨p,q,G,B,rfl,I,J⟩:=id C
 rw[c]at B
 obtain⟨rfl,rfl⟩:=trodVars_none B
 refine⟨ds,[],p++[],[],p,[],C,?_,?_,?_,?_,fun h=>by cases h⟩
 ·rw[j,g]
  have:(Value.bool true).resultList f.resultTypes.size=[.bool true]:=by
   have:f.resultTypes.size=1:=by rw[←EU,g];rfl
   rw[this];rfl
  rw[this]
  exact trodAll_cons_mk (shut_bool L _) trodAll_mk0
 ·rw[j]
  have key:∀(l:List TypeId) (vs:List Value) (m:List (DataW H)) (ps:List MemPlace),(∀t∈l,P.readableRec t=true∧t<P.types.size)→DataW.TrodAll enc P W 0 (fun _=>true) true l vs m ps→
    DataW.TrodAll enc P r 0 (fun b=>decide (b<W.heap.size)) true l vs m ps:=by
   intro l
   induction l with
   |nil=>intro vs m ps _ h;obtain⟨rfl,rfl,rfl⟩:=trodAll_nil h;exact trodAll_mk0
   |cons t l N=>
    intro vs m ps y h
    have w:=DataW.TrodAll.lt h
    obtain⟨v,O,d,D,a,b,rfl,rfl,rfl,E,F⟩:=trodAll_cons h
    exact trodAll_cons_mk (Below.trod k (y t (by simp)).1 (y t (by simp)).2 E n (fun x M=>w x (Iq _ M))) (N _ _ _ (fun t K=>y t (by simp[K])) F)
  exact key _ _ _ _ z G
 ·rw[c,j];exact rfl
 ·refine⟨n.os,n.output,fun i hi=>?_⟩
  rw[n.block i hi]
  cases W.heap[i]? with
  |none=>rfl
  |some o=>cases o<;>simp
end
end Go.Proofs.YtopncadjpnkjhaaGreatDoor
namespace Go.Proofs.YtopncadjpnkjhaaGreatDoor
set_option linter.all false
open Go Go.Eng
section
variable {H:Type} {enc:TypeId×Value→H} {W:World}
set_option maxRecDepth 100000
theorem nA(n:Nat):BP enc Tryz.prog W n 89 A5:=fun cs x h=>by
 obtain⟨xs,m,rfl,rfl,c,a,b⟩:=DataW.trod_struct Tryz.underlying89 h
 obtain⟨v0,i,d⟩:=rf (DH Tryz.underlying3) (b 0 _ rfl) a
 obtain⟨o,j,e⟩:=rf (DH Tryz.underlying3) (b 1 _ rfl) a
 obtain⟨v2,k,f⟩:=rf (DH Tryz.underlying27) (b 2 _ rfl) a
 obtain⟨v3,l,g⟩:=rf (DJ Tryz.underlying9) (b 3 _ rfl) a
 have q:=DI (Ba d (Ba e (Ba f (DK g))))
 exact⟨.mk v0 o v2 v3,⟨by rw[c];kernel_rfl,(i.at.app (j.at.app (k.at.app l.at)))⟩,q⟩
theorem ut(n:Nat)(h:∀k,k<n→BP enc Tryz.prog W k 33 Af):BP enc Tryz.prog W n 57 Ci:=fun cs x f=>by
 obtain⟨xs,m,rfl,rfl,b,a,c⟩:=DataW.trod_struct Tryz.underlying57 f
 obtain⟨v0,g,d⟩:=rf (h m (by omega)) (c 0 _ rfl) a
 obtain⟨j,i,e⟩:=rf (h m (by omega)) (c 1 _ rfl) a
 have q:=DI (Ba d (DK e))
 exact⟨.mk v0 j,⟨by rw[b];kernel_rfl,(g.at.app i.at)⟩,q⟩
theorem ti(n:Nat)(h:∀k,k<n→BP enc Tryz.prog W k 33 Af):BP enc Tryz.prog W n 51 Bq:=fun cs x f=>by
 obtain⟨xs,m,rfl,rfl,b,a,c⟩:=DataW.trod_struct Tryz.underlying51 f
 obtain⟨v0,g,d⟩:=rf (DH Tryz.underlying3) (c 0 _ rfl) a
 obtain⟨j,i,e⟩:=rf (h m (by omega)) (c 1 _ rfl) a
 have q:=DI (Ba d (DK e))
 exact⟨.mk v0 j,⟨by rw[b];kernel_rfl,(g.at.app i.at)⟩,q⟩
theorem WQ(n:Nat):BP enc Tryz.prog W n 33 Af:=by
 induction n using Nat.strongRecOn with
 |ind n e=>
 intro cs x s
 obtain⟨xs,m,rfl,rfl,c,a,b⟩:=DataW.trod_struct Tryz.underlying33 s
 obtain⟨v0,t,f⟩:=rf (DH Tryz.underlying3) (b 0 _ rfl) a
 obtain⟨B,u,g⟩:=rf (DH Tryz.underlying27) (b 1 _ rfl) a
 obtain⟨v2,v,h⟩:=rf (DJ Tryz.underlying9) (b 2 _ rfl) a
 obtain⟨v3,w,i⟩:=rf (CE Tryz.underlying28 (by kernel_rfl:Tryz.prog.cellsOf 33=7) (by decide) (fun x=>by rw[Gi];rfl) (fun k d=>(WN Gi (e k (by omega))))) (b 3 _ rfl) a
 obtain⟨v4,y,l⟩:=rf (CE Tryz.underlying29 (by kernel_rfl:Tryz.prog.cellsOf 57=14) (by decide) (fun x=>by rw[J5];rfl) (fun k d=>(WN J5 (ut k (fun j r=>e j (by omega)))))) (b 4 _ rfl) a
 obtain⟨v5,z,o⟩:=rf (CE Tryz.underlying30 (by kernel_rfl:Tryz.prog.cellsOf 51=8) (by decide) (fun x=>by rw[JT];rfl) (fun k d=>(WN JT (ti k (fun j r=>e j (by omega)))))) (b 5 _ rfl) a
 obtain⟨C,A,p⟩:=rf (CE Tryz.underlying31 (by kernel_rfl:Tryz.prog.cellsOf 89=4) (by decide) (fun _=>rfl) (fun k d=>(nA k))) (b 6 _ rfl) a
 have q:=DI (Ba f (Ba g (Ba h (Ba i (Ba l (Ba o (DK p)))))))
 exact⟨.mk v0 B v2 v3 v4 v5 C,⟨by rw[c];kernel_rfl,(t.at.app (u.at.app (v.at.app (w.at.app (y.at.app (z.at.app A.at))))))⟩,q⟩
theorem jo(n:Nat):BP enc Tryz.prog W n 40 Ca:=fun cs x f=>by
 obtain⟨xs,m,rfl,rfl,b,a,c⟩:=DataW.trod_struct Tryz.underlying40 f
 obtain⟨v0,g,d⟩:=rf (DH Tryz.underlying3) (c 0 _ rfl) a
 obtain⟨i,h,e⟩:=rf (DJ Tryz.underlying9) (c 1 _ rfl) a
 have q:=DI (Ba d (DK e))
 exact⟨.mk v0 i,⟨by rw[b];kernel_rfl,(g.at.app h.at)⟩,q⟩
theorem Ka(n:Nat):BP enc Tryz.prog W n 209 BK:=fun cs x f=>by
 obtain⟨xs,m,rfl,rfl,b,a,c⟩:=DataW.trod_struct Tryz.underlying209 f
 obtain⟨v0,g,d⟩:=rf (DJ Tryz.underlying9) (c 0 _ rfl) a
 obtain⟨i,h,e⟩:=rf (WQ m) (c 1 _ rfl) a
 have q:=DI (Ba d (DK e))
 exact⟨.mk v0 i,⟨by rw[b];kernel_rfl,(g.at.app h.at)⟩,q⟩
theorem nF(n:Nat):BP enc Tryz.prog W n 53 Ap:=fun cs x p=>by
 obtain⟨xs,m,rfl,rfl,c,a,b⟩:=DataW.trod_struct Tryz.underlying53 p
 obtain⟨v0,r,d⟩:=rf (DH Tryz.underlying3) (b 0 _ rfl) a
 obtain⟨B,s,e⟩:=rf (DJ Tryz.underlying9) (b 1 _ rfl) a
 obtain⟨v2,t,f⟩:=rf (DH Tryz.underlying3) (b 2 _ rfl) a
 obtain⟨v3,u,g⟩:=rf (DH Tryz.underlying3) (b 3 _ rfl) a
 obtain⟨v4,v,h⟩:=rf (jo m) (b 4 _ rfl) a
 obtain⟨v5,w,i⟩:=rf (DJ Tryz.underlying9) (b 5 _ rfl) a
 obtain⟨C,y,j⟩:=rf (iS Tryz.underlying4) (b 6 _ rfl) a
 obtain⟨D,z,l⟩:=rf (WQ m) (b 7 _ rfl) a
 obtain⟨E,A,o⟩:=rf (CE Tryz.underlying45 (by kernel_rfl:Tryz.prog.cellsOf 209=8) (by decide) (fun _=>rfl) (fun k F=>(Ka k))) (b 8 _ rfl) a
 have q:=DI (Ba d (Ba e (Ba f (Ba g (Ba h (Ba i (Ba j (Ba l (DK o)))))))))
 exact⟨.mk v0 B v2 v3 v4 v5 C D E,⟨by rw[c];kernel_rfl,(r.at.app (s.at.app (t.at.app (u.at.app (v.at.app (w.at.app (y.at.app (z.at.app A.at))))))))⟩,q⟩
theorem jq(n:Nat):BP enc Tryz.prog W n 182 B8:=fun cs x f=>by
 obtain⟨xs,m,rfl,rfl,b,a,c⟩:=DataW.trod_struct Tryz.underlying182 f
 obtain⟨v0,g,d⟩:=rf (DH Tryz.underlying3) (c 0 _ rfl) a
 obtain⟨i,h,e⟩:=rf (DH Tryz.underlying3) (c 1 _ rfl) a
 have q:=DI (Ba d (DK e))
 exact⟨.mk v0 i,⟨by rw[b];kernel_rfl,(g.at.app h.at)⟩,q⟩
theorem yA(n:Nat):BP enc Tryz.prog W n 47 Au:=fun cs x j=>by
 obtain⟨xs,m,rfl,rfl,c,a,b⟩:=DataW.trod_struct Tryz.underlying47 j
 obtain⟨v0,l,e⟩:=rf (DJ Tryz.underlying9) (b 0 _ rfl) a
 obtain⟨t,o,f⟩:=rf (CE Tryz.underlying42 (by kernel_rfl:Tryz.prog.cellsOf 53=16) (by decide) (fun _=>rfl) (fun k d=>(nF k))) (b 1 _ rfl) a
 obtain⟨v2,p,g⟩:=rf (CE Tryz.underlying43 (by kernel_rfl:Tryz.prog.cellsOf 182=2) (by decide) (fun _=>rfl) (fun k d=>(jq k))) (b 2 _ rfl) a
 obtain⟨v3,r,h⟩:=rf (CE Tryz.underlying44 (by kernel_rfl:Tryz.prog.cellsOf 9=1) (by decide) (fun _=>rfl) (fun k d=>(DJ Tryz.underlying9))) (b 3 _ rfl) a
 obtain⟨v4,s,i⟩:=rf (CE Tryz.underlying45 (by kernel_rfl:Tryz.prog.cellsOf 209=8) (by decide) (fun _=>rfl) (fun k d=>(Ka k))) (b 4 _ rfl) a
 have q:=DI (Ba e (Ba f (Ba g (Ba h (DK i)))))
 exact⟨.mk v0 t v2 v3 v4,⟨by rw[c];kernel_rfl,(l.at.app (o.at.app (p.at.app (r.at.app s.at))))⟩,q⟩
theorem nD(n:Nat):BP enc Tryz.prog W n 134 B7:=fun cs x g=>by
 obtain⟨xs,m,rfl,rfl,b,a,c⟩:=DataW.trod_struct Tryz.underlying134 g
 obtain⟨v0,h,d⟩:=rf (DJ Tryz.underlying9) (c 0 _ rfl) a
 obtain⟨l,i,e⟩:=rf (DH Tryz.underlying3) (c 1 _ rfl) a
 obtain⟨v2,j,f⟩:=rf (CE Tryz.underlying45 (by kernel_rfl:Tryz.prog.cellsOf 209=8) (by decide) (fun _=>rfl) (fun k o=>(Ka k))) (c 2 _ rfl) a
 have q:=DI (Ba d (Ba e (DK f)))
 exact⟨.mk v0 l v2,⟨by rw[b];kernel_rfl,(h.at.app (i.at.app j.at))⟩,q⟩
theorem nb(n:Nat):BP enc Tryz.prog W n 68 Bj:=fun cs x j=>by
 obtain⟨xs,m,rfl,rfl,c,a,b⟩:=DataW.trod_struct Tryz.underlying68 j
 obtain⟨v0,l,e⟩:=rf (DJ Tryz.underlying9) (b 0 _ rfl) a
 obtain⟨t,o,f⟩:=rf (iS Tryz.underlying4) (b 1 _ rfl) a
 obtain⟨v2,p,g⟩:=rf (CE Tryz.underlying66 (by kernel_rfl:Tryz.prog.cellsOf 134=3) (by decide) (fun _=>rfl) (fun k d=>(nD k))) (b 2 _ rfl) a
 obtain⟨v3,r,h⟩:=rf (CE Tryz.underlying43 (by kernel_rfl:Tryz.prog.cellsOf 182=2) (by decide) (fun _=>rfl) (fun k d=>(jq k))) (b 3 _ rfl) a
 obtain⟨v4,s,i⟩:=rf (CE Tryz.underlying45 (by kernel_rfl:Tryz.prog.cellsOf 209=8) (by decide) (fun _=>rfl) (fun k d=>(Ka k))) (b 4 _ rfl) a
 have q:=DI (Ba e (Ba f (Ba g (Ba h (DK i)))))
 exact⟨.mk v0 t v2 v3 v4,⟨by rw[c];kernel_rfl,(l.at.app (o.at.app (p.at.app (r.at.app s.at))))⟩,q⟩
theorem nw(n:Nat):BP enc Tryz.prog W n 136 FW:=fun cs x i=>by
 obtain⟨xs,m,rfl,rfl,c,a,b⟩:=DataW.trod_struct Tryz.underlying136 i
 obtain⟨v0,j,d⟩:=rf (DJ Tryz.underlying9) (b 0 _ rfl) a
 obtain⟨s,l,e⟩:=rf (DJ Tryz.underlying9) (b 1 _ rfl) a
 obtain⟨v2,o,f⟩:=rf (DJ Tryz.underlying9) (b 2 _ rfl) a
 obtain⟨v3,p,g⟩:=rf (DH Tryz.underlying3) (b 3 _ rfl) a
 obtain⟨v4,r,h⟩:=rf (CE Tryz.underlying45 (by kernel_rfl:Tryz.prog.cellsOf 209=8) (by decide) (fun _=>rfl) (fun k t=>(Ka k))) (b 4 _ rfl) a
 have q:=DI (Ba d (Ba e (Ba f (Ba g (DK h)))))
 exact⟨.mk v0 s v2 v3 v4,⟨by rw[c];kernel_rfl,(j.at.app (l.at.app (o.at.app (p.at.app r.at))))⟩,q⟩
theorem nN(n:Nat):BP enc Tryz.prog W n 86 CH:=fun cs x h=>by
 obtain⟨xs,m,rfl,rfl,b,a,c⟩:=DataW.trod_struct Tryz.underlying86 h
 obtain⟨v0,i,d⟩:=rf (DJ Tryz.underlying9) (c 0 _ rfl) a
 obtain⟨o,j,e⟩:=rf (CE Tryz.underlying84 (by kernel_rfl:Tryz.prog.cellsOf 136=5) (by decide) (fun _=>rfl) (fun k g=>(nw k))) (c 1 _ rfl) a
 obtain⟨v2,l,f⟩:=rf (CE Tryz.underlying45 (by kernel_rfl:Tryz.prog.cellsOf 209=8) (by decide) (fun _=>rfl) (fun k g=>(Ka k))) (c 2 _ rfl) a
 have q:=DI (Ba d (Ba e (DK f)))
 exact⟨.mk v0 o v2,⟨by rw[b];kernel_rfl,(i.at.app (j.at.app l.at))⟩,q⟩
theorem yk(n:Nat):BP enc Tryz.prog W n 26 Al:=fun cs x h=>by
 obtain⟨xs,m,rfl,rfl,b,a,c⟩:=DataW.trod_struct Tryz.underlying26 h
 obtain⟨v0,i,e⟩:=rf (CE Tryz.underlying22 (by kernel_rfl:Tryz.prog.cellsOf 47=5) (by decide) (fun _=>rfl) (fun k d=>(yA k))) (c 0 _ rfl) a
 obtain⟨o,j,f⟩:=rf (CE Tryz.underlying23 (by kernel_rfl:Tryz.prog.cellsOf 68=5) (by decide) (fun _=>rfl) (fun k d=>(nb k))) (c 1 _ rfl) a
 obtain⟨v2,l,g⟩:=rf (CE Tryz.underlying24 (by kernel_rfl:Tryz.prog.cellsOf 86=3) (by decide) (fun _=>rfl) (fun k d=>(nN k))) (c 2 _ rfl) a
 have q:=DI (Ba e (Ba f (DK g)))
 exact⟨.mk v0 o v2,⟨by rw[b];kernel_rfl,(i.at.app (j.at.app l.at))⟩,q⟩
end
end Go.Proofs.YtopncadjpnkjhaaGreatDoor
namespace Go.Eng
set_option linter.all false
open Go Go.RowKit
section
variable {σ ξ ρ α β γ:Type}
theorem DG{B:Nat→Option (Lv Nat ξ ρ)}{N:Nat}(l:List α)(p:α→Bool)(f:Nat→ρ)(e:ξ)
  (hs:∀i x,l[i]?=some x→B i=some (if p x=true then .rt (f i)else .nx (i+1))) (he:B l.length=some (.ex e)) (hN:l.length<N):
  Ak B N 0=some (match l.findIdx? p with|some i=>.inr (f i)|none=>.inl e):=by
 suffices H:∀k i N,i+k=l.length→k<N→Ak B N i=some (match (l.drop i).findIdx? p with|some j=>.inr (f (i+j))|none=>.inl e)by
  have:=H l.length 0 N (by omega) hN
  simpa using this
 intro k
 induction k with
 |zero=>
  intro i N hi hN
  obtain⟨N,rfl⟩:∃m,N=m+1:=⟨N-1,by omega⟩
  have:i=l.length:=by omega
  subst this
  rw[Ak,he,SF]
  rfl
 |succ k b=>
  intro i N hi hN
  obtain⟨N,rfl⟩:∃m,N=m+1:=⟨N-1,by omega⟩
  have a:i<l.length:=by omega
  rw[Ak,hs i l[i] (Ye a),In a,List.findIdx?_cons]
  cases c:p l[i]with
  |true=>simp
  |false=>
   simp only[Yp,YL]
   rw[b (i+1) N (by omega) (by omega)]
   cases(List.drop (i+1) l).findIdx? p with
   |none=>rfl
   |some j=>simp[YC,LB 1 j]
def J8(R:List α→α→Option ρ):List α→List α→Option ρ
 |_,[]=>none
 |p,x::l=>match R p x with
  |some r=>some r
  |none=>J8 R (p++[x]) l
theorem uc{B:σ→Option (Lv σ ξ ρ)}{N:Nat}(l:List α)(S:List α→β)(R:List α→α→Option ρ)(mk:Nat→β→σ)(e:β→ξ)
  (hs:∀i x,l[i]?=some x→B (mk i (S (l.take i)))=some (match R (l.take i) x with|some r=>.rt r|none=>.nx (mk (i+1) (S (l.take i++[x])))))
  (he:B (mk l.length (S l))=some (.ex (e (S l)))) (hN:l.length<N):Ak B N (mk 0 (S []))=some ((J8 R [] l).elim (.inl (e (S l))) .inr):=by
 suffices H:∀k i N,i+k=l.length→k<N→Ak B N (mk i (S (l.take i)))=some ((J8 R (l.take i) (l.drop i)).elim (.inl (e (S l))) .inr)by
  have:=H l.length 0 N (by omega) hN
  grind
 intro k
 induction k with
 |zero=>
  intro i N hi hN
  obtain⟨N,rfl⟩:∃m,N=m+1:=⟨N-1,by omega⟩
  have:i=l.length:=by omega
  subst this
  rw[Ak,SE,he,SF]
  rfl
 |succ k b=>
  intro i N hi hN
  obtain⟨N,rfl⟩:∃m,N=m+1:=⟨N-1,by omega⟩
  have a:i<l.length:=by omega
  rw[Ak,hs i l[i] (Ye a),In a,J8]
  cases R (l.take i) l[i]with
  |some r=>rfl
  |none=>
   have:=b (i+1) N (by omega) (by omega)
   rw[YZ a]at this
   exact this
theorem ga{R:List α→α→Option ρ}(h:∀p x,R p x=none):∀(l p:List α),J8 R p l=none
 |[],p=>rfl
 |x::l,p=>by rw[J8,h];exact ga h l _
theorem JM{B:σ→Option (Lv σ ξ ρ)}{N:Nat}(l:List α)(S:List α→β)(mk:Nat→β→σ)(e:β→ξ)
  (hs:∀i x,l[i]?=some x→B (mk i (S (l.take i)))=some (.nx (mk (i+1) (S (l.take i++[x])))))
  (he:B (mk l.length (S l))=some (.ex (e (S l)))) (hN:l.length<N):Ak B N (mk 0 (S []))=some (.inl (e (S l))):=by
 rw[uc l S (fun _ _=>none) mk e hs he hN,ga fun _ _=>rfl]
 rfl
theorem gT{B:σ→Option (Lv σ ξ ρ)}(I:Nat→σ→Prop)(Q:ξ ⊕ ρ→Prop)
  (h:∀k v,I k v→∃o,B v=some o∧match o with|.nx c=>∃k',k'<k∧I k' c|.ex b=>Q (.inl b)|.rt y=>Q (.inr y)):
  ∀N k v,k<N→I k v→∃o,Ak B N v=some o∧Q o
 |0,k,v,d,_=>absurd d (Il _)
 |N+1,k,v,d,g=>by
  obtain⟨o,e,a⟩:=h k v g
  rw[Ak,e]
  cases o with
  |nx c=>obtain⟨k',i,f⟩:=a;exact gT I Q h N k' c (by omega) f
  |ex b=>exact⟨_,rfl,a⟩
  |rt y=>exact⟨_,rfl,a⟩
theorem BF{l:List α}{i:Nat}{x:α}(h:l[i]?=some x):(i:Int)<(l.length:Int):=by
 grind
theorem A9{n:Nat}(h:n<4611686018427387904):n<Ah:=h
end
end Go.Eng
namespace Go.Proofs.YtopncadjpnkjhaaGreatDoor
set_option linter.all false
open Go Go.Eng
def Ok{α:Type}(Q:α→Prop)(o:Option α):Prop:=∃y,o=some y∧Q y
section
variable {α β γ σ ξ ρ:Type} {Q:β→Prop} {P:α→Prop}
theorem AB{y:β}(h:Q y):Ok Q (some y):=⟨y,rfl,h⟩
theorem Ax{m:Option α}{k:α→Option β}(h:Ok P m)(a:∀y,P y→Ok Q (k y)):Ok Q (m.bind k):=by
 obtain⟨y,rfl,h⟩:=h
 exact a y h
theorem Bu{xs:List α}{i:Nat}{k:α→Option β}(h:i<xs.length)(a:∀x,xs[i]?=some x→x∈xs→Ok Q (k x)):Ok Q (xs[i]?.bind k):=by
 rw[Ye h]
 exact a _ (Ye h) (Ju h)
theorem AC{b:Bool}{x y:Option β}(h:b=true→Ok Q x)(a:b=false→Ok Q y):Ok Q (if b=true then x else y):=by
 cases b
 ·exact a rfl
 ·exact h rfl
theorem AD{c:Prop}{d:Decidable c}{a:Option β}(b:c)(h:Ok Q a):Ok Q (if c then a else none):=by
 rw[Yi b]
 exact h
theorem aV{lo hi:Bd}{n:Nat}{a:Option β}(b:lo.c∧hi.c∧lo.vl 0≤hi.vl n∧hi.vl n≤n)(h:Ok Q a):Ok Q (if lo.c∧hi.c∧lo.vl 0≤hi.vl n∧hi.vl n≤n then a else none):=by
 rw[Yi b]
 exact h
theorem Bb{b:Bool}{m:Option α}{x:Option β}(h:b=true→Ok P m)[Inhabited α](d:(b=true→P (m.getD default))→Ok Q x):Ok Q (if(b=true→m.isSome=true)then x else none):=by
 rw[Yi fun e=>by obtain⟨y,h,_⟩:=h e;rw[h];rfl]
 refine d fun e=>?_
 obtain⟨y,a,c⟩:=h e
 rw[a]
 exact c
theorem E1{b:Bool}{xs:List α}{i:Int}{x:Option β}[Rw α](h:b=true→0≤i∧i<xs.length)(c:(b=true→xs[i.toNat]?=some (xs.getD i.toNat Rw.z)∧xs.getD i.toNat Rw.z∈xs)→Ok Q x):Ok Q (if(b=true→0≤i∧i<xs.length)then x else none):=by
 rw[Yi h]
 refine c fun e=>?_
 have d:=h e
 have a:i.toNat<xs.length:=by omega
 rw[Yu,Ye a]
 exact⟨rfl,Ju a⟩
theorem Bh{B:σ→Option (Lv σ ξ ρ)}{N:Nat}{v:σ}(I:σ→Prop)(μ:σ→Nat){A:ξ→Prop}{R:ρ→Prop}(d:I v)(hN:μ v<N)
  (hs:∀v,I v→Ok (fun o=>match o with|.nx c=>I c∧μ c<μ v|.ex b=>A b|.rt y=>R y) (B v)):Ok (Sum.elim A R) (Ak B N v):=
 gT (fun k v=>I v∧μ v≤k) (Sum.elim A R) (fun k v h=>by
  obtain⟨o,e,a⟩:=hs v h.1
  refine⟨o,e,?_⟩
  cases o with
  |nx c=>exact⟨μ c,by have:=a.2;have:=h.2;omega,a.1,Yh _⟩
  |ex b=>exact a
  |rt y=>exact a) N (μ v) v hN ⟨d,Yh _⟩
theorem Bo{m:Option (ξ ⊕ ρ)}{A:ξ→Prop}{R:ρ→Prop}{f:ξ→Option β}{g:ρ→Option β}(h:Ok (Sum.elim A R) m)(c:∀b,A b→Ok Q (f b))(a:∀r,R r→Ok Q (g r)):Ok Q (m.bind (Sum.elim f g)):=by
 obtain⟨y,rfl,h⟩:=h
 cases y with
 |inl b=>exact c b h
 |inr r=>exact a r h
theorem Ok.mono{a:β→Prop}{o:Option β}(h:Ok Q o)(k:∀y,Q y→a y):Ok a o:=by
 obtain⟨y,b,c⟩:=h
 exact⟨y,b,k y c⟩
theorem Ok.some{o:Option β}(h:Ok Q o):o.isSome=true:=by
 obtain⟨y,a,b⟩:=h
 rw[a]
 rfl
end
abbrev Tr{α:Type}:α→Prop:=fun _=>True
abbrev No{α:Type}:α→Prop:=fun _=>False
abbrev Ts{α β:Type}:α ⊕ β→Prop:=Sum.elim Tr Tr
theorem mX:(⟨#[]⟩:ByteArray).size=0:=rfl
theorem AK{p:Prop}(h:p:=by first|trivial|assumption|contradiction|omega|grind|(simp only[Bd.c,Bd.vl,ByteArray.size_append,ak,mX]at*;grind)):p:=h
theorem BO{p:Prop}(h:p:=by first|trivial|assumption|contradiction|omega|solve_by_elim|(simp only[Yb,Yt,YF,F7,F8,Yr,YB]at*;omega)|grind):p:=h
theorem OX(x:Int):Ok Tr (eY x):=⟨_,rfl,trivial⟩
theorem Pb(x:Int):Ok Tr (eZ x):=⟨_,rfl,trivial⟩
theorem cF(x:Val):Ok Tr (L9 x):=⟨_,rfl,trivial⟩
theorem cK(x:Int):Ok Tr (L6 x):=⟨_,rfl,trivial⟩
theorem cV(x:Int):Ok Tr (Ur x):=by
 dsimp only[Ur,br,lr,br,rem]
 (repeat' (first|with_reducible (first|refine AC (fun _=>?_) fun _=>?_|refine AB ?_|refine AD ?_ ?_)))<;>exact BO
theorem Tg(x:ByteArray):Ok Tr (Uk x):=by
 dsimp only[Uk,PY,Mn,Mf,br,lr,br]
 (repeat' (first|with_reducible (first|refine AC (fun _=>?_) fun _=>?_|refine AB ?_|refine AD ?_ ?_)))<;>exact BO
theorem pI(x:ByteArray)(n:Int):Ok Tr (Uj x n):=by
 dsimp only[Uj,VT,PW,PH,Md,Me,PE,br,lr,br]
 (repeat' (first|with_reducible (first|refine AC (fun _=>?_) fun _=>?_|refine AB ?_|refine AD ?_ ?_)))<;>exact BO
theorem S7(x:ByteArray):Ok Tr (Um x):=by
 dsimp only[Um,br,lr,br]
 (repeat' (first|with_reducible (first|refine AC (fun _=>?_) fun _=>?_|refine AB ?_|refine AD ?_ ?_)))<;>exact BO
def Je(x:Fld):Prop:=(x.card≠5→1≤x.card∧x.card≤4∧x.key=0)∧(x.card=5→x.key=1∨x.key=2∨x.key=3∨x.key=4∨x.key=5∨x.key=7)
theorem mP(x:Fld):Ok (fun b=>b=true→Je x) (UB x):=by
 unfold Je
 dsimp only[UB,br,wg,lr,br]
 (repeat' (first|with_reducible (first|refine AC (fun _=>?_) fun _=>?_|refine AB ?_|refine AD ?_ ?_)))<;>(intro h;first|(cases h;done)|(simp only[Yb,YF,Oc,Yr,YB]at*;omega))
theorem TM(x:ByteArray)(i a b:Int)(h:0≤i):Ok Tr (JD x i a b):=by
 dsimp only[JD,vz,lr,AR,EQ]
 (repeat' (first|with_reducible (first|refine AC (fun _=>?_) fun _=>?_|refine AB ?_|refine AD ?_ ?_)))<;>exact BO
theorem eO(x:ByteArray)(i n:Int)(h:0≤i)(a:i≤2097152)(b:n≤9):Ok Tr (It x i n):=by
 have q:Ok Ts (Ak (IC x i n) Ah 0):=by
  refine Bh (fun _:Nat=>True) (fun v:Nat=>(n-v).toNat) trivial ?_ fun v _=>?_
  ·unfold Ah
   omega
  dsimp only[IC,br,vs,Am,ln,Ai,cl,wa,wi,br]
  (repeat' (first|with_reducible (first|refine AC (fun _=>?_) fun _=>?_|refine AB ?_)|(with_reducible apply Ax;(exact TM _ _ _ _ (by omega));intro _ _)|with_reducible refine AD ?_ ?_))<;>exact BO
 dsimp only[It,lr,lc]
 (repeat' (first|with_reducible (first|refine AC (fun _=>?_) fun _=>?_|refine AB ?_)|(with_reducible apply Bo;(exact q);all_goals(intro _ _;try dsimp only))|with_reducible refine AD ?_ ?_))<;>exact BO
set_option maxRecDepth 20000 in
theorem pj(x:ByteArray)(i:Int)(h:0≤i)(h1:i<x.size)(h2:x.size≤1048576):Ok (fun y=>0≤y∧y≤4) (L8 x i):=by
 dsimp only[L8,br,vg,lr,Aw,wi,br,NB]
 (repeat' (first|with_reducible (first|refine AC (fun _=>?_) fun _=>?_|refine AB ?_|refine Bu ?_ fun _ _ _=>?_)|(with_reducible apply Ax;(exact TM _ _ _ _ (by omega));intro _ _)|(with_reducible apply Ax;(exact eO _ _ _ (by omega) (by omega) (by omega));intro _ _)|(with_reducible apply Bb;(exact fun _=>TM _ _ _ _ (by omega));intro _)|(with_reducible apply Bb;(exact fun _=>eO _ _ _ (by omega) (by omega) (by omega));intro _)|with_reducible refine AD ?_ ?_))<;>exact BO
theorem V7:∀a b:List (List D),Bp (a++b)=Bp a+Bp b
 |[],b=>by rw[F4,Bp,YS]
 |x::a,b=>by rw[Hb,Bp,Bp,V7 a b];omega
theorem VP{α:Type}(e:α→List D){l:List α}{i:Nat}{x:α}(h:l[i]?=some x):Bp ((l.take (i+1)).map e)=Bp ((l.take i).map e)+An (e x)+1:=by
 obtain⟨a,rfl⟩:=Yd.1 h
 rw[YZ a,Jq,V7]
 simp only[Y4,List.map_nil,Bp]
 omega
theorem JP{α:Type}(e:α→List D)(l:List α)(i:Nat):Bp ((l.take i).map e)≤Bp (l.map e):=by
 conv=>rhs;rw[←Hj i l,Jq,V7]
 omega
structure SzV (v:Val):Prop where
 t:v.text.size≤1048576
 l:v.list.length≤1048576
 p:v.pairs.length≤1048576
 s:v.slots.length≤1048576
 r:v.raws.length≤1048576
structure SzN (x:Nt):Prop where
 n:x.name.size≤1048576
 v:SzV x.val
abbrev GQ(l:List Nt):Prop:=l.length≤1048576∧∀x∈l,SzN x
structure SzF (x:Fld):Prop where
 n:x.name.size≤1048576
 t:x.type.name.size≤1048576
 u:x.union.size≤1048576
 d:SzV x.dflt
 o:GQ x.notes
structure SzM (x:Msg):Prop where
 n:x.name.size≤1048576
 fl:x.fields.length≤1048576
 f:∀y∈x.fields,SzF y
 r:x.reserved.length≤1048576
 gl:x.gone.length≤1048576
 g:∀y∈x.gone,y.size≤1048576
 o:GQ x.notes
structure SzI (x:Itm):Prop where
 n:x.name.size≤1048576
 o:GQ x.notes
structure SzE (x:Enm):Prop where
 n:x.name.size≤1048576
 il:x.items.length≤1048576
 i:∀y∈x.items,SzI y
 r:x.reserved.length≤1048576
 o:GQ x.notes
structure SzT (x:Mth):Prop where
 n:x.name.size≤1048576
 o:GQ x.notes
structure SzW (x:Svc):Prop where
 n:x.name.size≤1048576
 ml:x.methods.length≤1048576
 m:∀y∈x.methods,SzT y
 o:GQ x.notes
structure SzS (x:Scm):Prop where
 ml:x.messages.length≤1048576
 m:∀y∈x.messages,SzM y
 el:x.enums.length≤1048576
 e:∀y∈x.enums,SzE y
 wl:x.services.length≤1048576
 w:∀y∈x.services,SzW y
theorem Dc{v:Val}(h:An (Af v)≤1048576):SzV v:=by
 have a:=Cc (e:=AF) v.list
 have b:=Cc (e:=Ay) v.pairs
 have c:=Cc (e:=At) v.slots
 have d:=Cc (e:=A5) v.raws
 simp only[Af,An,bk]at h
 constructor<;>omega
theorem Ra{v:Val}(h:An (Af v)≤1048576):0≤v.bits∧v.bits≤18446744073709551615:=by
 simp only[Af,An,bk]at h
 have:=l5 (k:=.u64) (n:=v.bits) (by omega)
 exact this
theorem y0{x:Nt}(h:An (BK x)≤1048576):SzN x:=by
 have e:An (BK x)=x.name.size+An (Af x.val):=by simp only[BK,Af,An,bk]
 exact⟨by omega,Dc (by omega)⟩
theorem KZ{l:List Nt}(h:Bp (l.map BK)≤1048576):GQ l:=⟨by have:=Cc (e:=BK) l;omega,fun x a=>y0 (by have:=Cu (e:=BK) a;omega)⟩
theorem yX{x:Fld}(h:An (Ap x)≤1048576):SzF x:=by
 have e:x.name.size+x.type.name.size+x.union.size+An (Af x.dflt)+Bp (x.notes.map BK)≤An (Ap x):=by
  simp only[Ap,Af,An,bk]
  omega
 exact⟨by omega,by omega,by omega,Dc (by omega),KZ (by omega)⟩
theorem yZ{x:Msg}(h:An (Au x)≤1048576):SzM x:=by
 simp only[Au,An,bk]at h
 have a:=Cc (e:=Ap) x.fields
 have b:=Cc (e:=B8) x.reserved
 have c:=Cc (e:=AQ) x.gone
 exact⟨by omega,by omega,fun y hy=>yX (by have:=Cu (e:=Ap) hy;omega),by omega,by omega,fun y hy=>by have:=Cu (e:=AQ) hy;simp only[AQ,An,bk]at this;omega,KZ (by omega)⟩
theorem yY{x:Itm}(h:An (B7 x)≤1048576):SzI x:=by
 simp only[B7,An,bk]at h
 exact⟨by omega,KZ (by omega)⟩
theorem yW{x:Enm}(h:An (Bj x)≤1048576):SzE x:=by
 simp only[Bj,An,bk]at h
 have a:=Cc (e:=B7) x.items
 have b:=Cc (e:=B8) x.reserved
 exact⟨by omega,by omega,fun y hy=>yY (by have:=Cu (e:=B7) hy;omega),by omega,KZ (by omega)⟩
theorem y1{x:Mth}(h:An (FW x)≤1048576):SzT x:=by
 simp only[FW,An,bk]at h
 exact⟨by omega,KZ (by omega)⟩
theorem y2{x:Svc}(h:An (CH x)≤1048576):SzW x:=by
 simp only[CH,An,bk]at h
 have a:=Cc (e:=FW) x.methods
 exact⟨by omega,by omega,fun y hy=>y1 (by have:=Cu (e:=FW) hy;omega),KZ (by omega)⟩
theorem DV{x:Scm}(h:An (Al x)≤1048576):SzS x:=by
 simp only[Al,An,bk]at h
 have a:=Cc (e:=Au) x.messages
 have b:=Cc (e:=Bj) x.enums
 have c:=Cc (e:=CH) x.services
 exact⟨by omega,fun y hy=>yZ (by have:=Cu (e:=Au) hy;omega),by omega,fun y hy=>yW (by have:=Cu (e:=Bj) hy;omega),by omega,fun y hy=>y2 (by have:=Cu (e:=CH) hy;omega)⟩
end Go.Proofs.YtopncadjpnkjhaaGreatDoor
