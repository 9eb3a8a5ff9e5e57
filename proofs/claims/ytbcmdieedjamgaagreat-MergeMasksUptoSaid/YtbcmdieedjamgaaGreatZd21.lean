import Derived.Test.YtbcmdieedjamgaaGreatZd20
import Derived.Test.YtbcmdieedjamgaaGreatZd09
import Derived.Test.YtbcmdieedjamgaaGreatZd08
import Derived.Test.YtbcmdieedjamgaaGreatRows
import Derived.WalkKit
import Derived.ProofKit
import Derived.OpenShut
import Derived.Carry
import Derived.Deep.DeepHandedRow
import Derived.Test.YtbcmdieedjamgaaGreatZd00
namespace Go.Proofs.YtbcmdieedjamgaaGreat
set_option maxRecDepth 100000
set_option linter.all false
open Go Go.Eng
abbrev Mx:List (Ad×Bool):=[((1,6),false),((1,7),false),((1,8),false),((1,9),false),((1,11),false),((1,1115),true)]
abbrev ZXi:List (Ad×Bool):=[((1,4),false),((1,6),false),((1,7),false),((1,8),false),((1,9),false),((1,11),false)]
abbrev Iq:Ad×Blk:=kk 8 35 7 [vI 0,.d (.int .u64 0),vS ⟨#[]⟩,.e0,.e0,.e0,.e0]
abbrev JW(a:Val):Ad×Blk:=kk 6 35 7 (cD (Ae a))
abbrev JV(a:Val):Ad×Blk:=kk 7 35 7 (cD (Ae a))
abbrev J4(a:Msg×Bool):Ad×Blk:=kk 9 56 5 (cD (AH a.1))
abbrev aJ(a:List Slt)(b:List Raw):Ad×Blk:=kk 11 35 7 [vI 10,.d (.int .u64 0),vS ⟨#[]⟩,.e0,.e0,.ref (1,1115) 0 0 a.length,vL Au b]
abbrev x6(a:Scm):Ad×Blk:=kk 4 26 3 (cD (Am a))
abbrev u6(a:List Raw):Ad×Blk:=kk 11 35 7 [vI 10,.d (.int .u64 0),vS ⟨#[]⟩,.e0,.e0,.e0,vL Au a]
def ZVi:Pl:=(.opt [1,8] 1 (.fst 8 (.fst 9 (.fst 10 (.fst 11 (.fst 12 (.fst 13 .nil)))))) (.opt [1,8] 8 (.fst 9 (.fst 1 (.fst 10 (.fst 11 (.fst 12 (.fst 13 .nil)))))) .nil))
def ZWv:Pl:=(.opt [3,8] 3 (.fst 8 (.fst 9 (.fst 10 (.fst 11 (.fst 12 (.fst 13 .nil)))))) (.opt [3,8] 8 (.fst 3 (.fst 9 (.fst 10 (.fst 11 (.fst 12 (.fst 13 .nil)))))) .nil))
def ZUG:Pl:=(.opt [1,3,8] 1 ZWv (.opt [1,3,8] 3 ZVi (.opt [1,3,8] 8 (.fst 1 (.fst 3 (.fst 9 (.fst 10 (.fst 11 (.fst 12 (.fst 13 .nil))))))) .nil)))
def ZF(b:Scm)(c:Val)(d:Val)(e:Msg×Bool)(f:List Raw):Nat×List Slt→St:=fun(v3,a)=>Ac [(4,.iptr (Am b) 0),pp 6,pp 7,pp 8,pp 9,pp 11,(12,vN v3)] [(JW c),(JV d),Iq,(J4 e),(aJ a f),kk 1115 58 8 (Ab Ap a)]
def tP(b:List Raw):List Slt→Nat×St:=fun a=>(0,Ac [pp 8,pp 11] [Iq,kk 11 35 7 [vI 10,.d (.int .u64 0),vS ⟨#[]⟩,.e0,.e0,.ref (1,1115) 0 0 a.length,vL Au b],kk 1115 58 8 (Ab Ap a)])
def ZS(d:Scm)(e:Val)(f:Val)(g:Msg×Bool)(h:List Raw)(v3:Nat)(b:List Slt)(a:Fld)(c:Val):PT 0 (Lv (Nat×List Slt) (List Slt) (Val)):=vs (wa v3 1)<|vz (fl (b++([(.mk a.num c:Slt)])))<|ln (ZF d e f g h) (v3+1,b++([(.mk a.num c:Slt)]))
def JX(d:Scm)(e:Val)(f:Val)(g:Msg×Bool)(h:List Raw)(v3:Nat)(b:List Slt)(a:Fld)(c:Val):PT 0 (Lv (Nat×List Slt) (List Slt) (Val)):=vz (fl (b++([(.mk a.num c:Slt)])))<|lc (Ac [(4,.iptr (Am d) 0),pp 6,pp 7,pp 8,pp 9,pp 11,(12,vN v3)] [(JW e),(JV f),Iq,(J4 g),kk 11 35 7 [vI 10,.d (.int .u64 0),vS ⟨#[]⟩,.e0,.e0,.ref (1,1115) 0 0 (b++([(.mk a.num c:Slt)])).length,vL Au h],kk 1115 58 8 (Ab Ap (b++([(.mk a.num c:Slt)])))]) ((ZS d e f g h v3 b a c).m)
def Zt(b:Scm)(h:Val)(i:Val)(c:Scm→ByteArray→Val→Val→Option (Val))(j:Msg×Bool)(k:List Raw)(v3:Nat)(e:List Slt)(a:Fld)(f:Val×Bool)(g:Val×Bool):PT 0 (Lv (Nat×List Slt) (List Slt) (Val)):=tw (wg<|cs Tryz.prog 53 [.agg ((Am b).map .d),.agg ((Av a).map .d),.agg ((Ae f.1).map .d),.agg ((Ae g.1).map .d)] [] [] (JG c b a f.1 g.1) (fun y=>.agg ((Ae y).map .d)) fun d=>vw .sep<|ap e ((.mk a.num d:Slt):Slt)<|wg<|(JX b h i j k v3 e a d)) (cs Tryz.prog 53 [.agg ((Am b).map .d),.agg ((Av a).map .d),.agg ((Ae f.1).map .d),.agg ((Ae g.1).map .d)] [] [] (JG c b a f.1 g.1) (fun y=>.agg ((Ae y).map .d)) fun d=>wg<|vw .sep<|ap e ((.mk a.num d:Slt):Slt)<|wg<|(JX b h i j k v3 e a d))
def aA(b:Scm)(h:Val)(i:Val)(c:Scm→ByteArray→Val→Val→Option (Val))(j:Msg×Bool)(k:List Raw)(v3:Nat)(e:List Slt)(a:Fld)(f:Val×Bool)(g:Val×Bool):PT 0 (Lv (Nat×List Slt) (List Slt) (Val)):=tw (wg<|cs Tryz.prog 53 [.agg ((Am b).map .d),.agg ((Av a).map .d),.agg ((Ae f.1).map .d),.agg ((Ae g.1).map .d)] [] [] (JG c b a f.1 g.1) (fun y=>.agg ((Ae y).map .d)) fun d=>vw .sep<|ap e ((.mk a.num d:Slt):Slt)<|wg<|(JX b h i j k v3 e a d)) (cs Tryz.prog 53 [.agg ((Am b).map .d),.agg ((Av a).map .d),.agg ((Ae f.1).map .d),.agg ((Ae g.1).map .d)] [] [] (JG c b a f.1 g.1) (fun y=>.agg ((Ae y).map .d)) fun d=>wg<|vw .sep<|ap e ((.mk a.num d:Slt):Slt)<|wg<|(JX b h i j k v3 e a d))
def bw(c:Scm)(g:Val)(h:Val)(a:Scm→ByteArray→Val→Val→Option (Val))(i:Msg×Bool)(j:List Raw)(v3:Nat)(d:List Slt)(b:Fld)(e:Val×Bool)(f:Val×Bool):PT 0 (Lv (Nat×List Slt) (List Slt) (Val)):=tw (wg<|(Zt c g h a i j v3 d b e f)) (tw (wg<|(aA c g h a i j v3 d b e f)) (cs Tryz.prog 53 [.agg ((Am c).map .d),.agg ((Av b).map .d),.agg ((Ae e.1).map .d),.agg ((Ae f.1).map .d)] [] [] (JG a c b e.1 f.1) (fun y=>.agg ((Ae y).map .d)) fun k=>wg<|wg<|vw .sep<|ap d ((.mk b.num k:Slt):Slt)<|wg<|(JX c g h i j v3 d b k)))
def VU(c:Scm)(d:Val)(e:Val)(a:Scm→ByteArray→Val→Val→Option (Val))(g:Msg×Bool)(h:List Raw)(v3:Nat)(f:List Slt)(b:Fld)(i:Val×Bool)(j:Val×Bool):PT 0 (Lv (Nat×List Slt) (List Slt) (Val)):=wg<|wg<|wg<|(bw c d e a g h v3 f b i j)
def gZ(b:Scm)(c:Val)(d:Val)(e:Msg×Bool)(f:List Raw)(v3:Nat)(a:List Slt):PT 0 (Lv (Nat×List Slt) (List Slt) (Val)):=vs (wa v3 1)<|vz (fl a)<|ln (ZF b c d e f) (v3+1,a)
def UH(b:Scm)(c:Val)(d:Val)(e:Msg×Bool)(f:List Raw)(v3:Nat):List Slt→St:=fun a=>Ac [(4,.iptr (Am b) 0),pp 6,pp 7,pp 8,pp 9,pp 11,(12,vN v3)] [(JW c),(JV d),Iq,(J4 e),kk 11 35 7 [vI 10,.d (.int .u64 0),vS ⟨#[]⟩,.e0,.e0,.ref (1,1115) 0 0 a.length,vL Au f],kk 1115 58 8 (Ab Ap a)]
def M0(b:Scm)(c:Val)(d:Val)(e:Msg×Bool)(f:List Raw)(v3:Nat):List Slt→Option (Lv (Nat×List Slt) (List Slt) (Val)):=fun a=>(gZ b c d e f v3 a).m
def Vt(e:Scm)(f:Val)(c:Val)(d:Msg×Bool)(g:List Raw)(v3:Nat)(a:List Slt)(b:Fld)(h:Val×Bool)(i:Val×Bool):PT 0 (Lv (Nat×List Slt) (List Slt) (Val)):=br i.2 (wg<|wg<|wg<|vw .sep<|ap a ((.mk b.num i.1:Slt):Slt)<|wg<|vz (fl (a++([(.mk b.num i.1:Slt)])))<|lc (UH e f c d g v3 (a++([(.mk b.num i.1:Slt)]))) (M0 e f c d g v3 (a++([(.mk b.num i.1:Slt)])))) (wg<|wg<|wg<|AE h.2 (ZZz d.1 b c) fun j=>br (h.2&&(!j)) (wg<|wg<|wg<|vw .sep<|ap a ((.mk b.num h.1:Slt):Slt)<|wg<|vz (fl (a++([(.mk b.num h.1:Slt)])))<|lc (UH e f c d g v3 (a++([(.mk b.num h.1:Slt)]))) (M0 e f c d g v3 (a++([(.mk b.num h.1:Slt)])))) (vz (fl a)<|lc (UH e f c d g v3 a) (M0 e f c d g v3 a)))
def jp(i:Scm)(e:Val)(f:Val)(h:Scm→ByteArray→Val→Val→Option (Val))(g:Msg×Bool)(j:List Raw)(v3:Nat)(d:List Slt):PT 0 (Lv (Nat×List Slt) (List Slt) (Val)):=wg<|ix g.1.fields v3 fun c=>wg<|wg<|wg<|cl (dt e c.num) fun a=>wg<|wg<|wg<|cl (dt f c.num) fun b=>wg<|vz (fl d)<|lc (Ac [(4,.iptr (Am i) 0),pp 6,pp 7,pp 8,pp 9,pp 11,(12,vN v3),pp 13,pp 14,(15,vB a.2),pp 16,(17,vB b.2),(59,vB (a.2&&b.2))] [(JW e),(JV f),Iq,(J4 g),(aJ d j),kk 13 51 16 (cD (Av c)),kk 14 35 7 (cD (Ae a.1)),kk 16 35 7 (cD (Ae b.1)),kk 1115 58 8 (Ab Ap d)]) (if(a.2&&b.2)=true then(VU i e f h g j v3 d c a b).m else(Vt i e f g j v3 d c a b).m)
def g8(e:Scm)(f:Val)(g:Val)(c:Scm→ByteArray→Val→Val→Option (Val))(b:Msg×Bool)(d:List Raw)(v3:Nat)(a:List Slt):PT 0 (Lv (Nat×List Slt) (List Slt) (Val)):=wg<|vz (Ai b.1.fields)<|br (decide ((v3:Int)<(b.1.fields.length:Int))) (vz (fl a)<|lc (Ac [(4,.iptr (Am e) 0),pp 6,pp 7,pp 8,pp 9,pp 11,(12,vN v3)] [(JW f),(JV g),Iq,(J4 b),(aJ a d),kk 1115 58 8 (Ab Ap a)]) ((jp e f g c b d v3 a).m)) (vz (fl a)<|Af (tP d) a)
def Nq(b:Scm)(c:Val)(d:Val)(a:Scm→ByteArray→Val→Val→Option (Val))(f:Msg×Bool)(g:List Raw):Nat×List Slt→Option (Lv (Nat×List Slt) (List Slt) (Val)):=fun(v3,e)=>(g8 b c d a f g v3 e).m
def oY(b:List Raw)(a:List Slt):PT 0 (Val):=wg<|wg<|vz (fr a)<|lr Kk nG (.mk 10 0 ⟨#[]⟩ [] [] a b:Val)
def n9(d:Scm)(e:Val)(f:Val)(a:Scm→ByteArray→Val→Val→Option (Val))(g:Msg×Bool)(c:List Raw):PT 0 (Val):=vw (.adc (1,11) 5 1115 58 8)<|vw (.fzb 4 [4])<|vz (fl ([]:List Slt))<|lc (Ac [(4,.iptr (Am d) 0),pp 6,pp 7,pp 8,pp 9,pp 11,(12,vI 0)] [(JW e),(JV f),Iq,(J4 g),kk 11 35 7 [vI 10,.d (.int .u64 0),vS ⟨#[]⟩,.e0,.e0,.ref (1,1115) 0 0 ([]:List Slt).length,vL Au c],kk 1115 58 8 (Ab Ap ([]:List Slt))]) ((Aj (Nq d e f a g c) Ag (0,([]:List Slt))).bind (Sum.elim (fun b=>(oY c b).m) some))
def oP(b:Scm)(c:Val)(d:Val)(a:Scm→ByteArray→Val→Val→Option (Val))(e:Msg×Bool)(f:List Raw):PT 0 (Val):=lc (Ac [pp 4,pp 6,pp 7,pp 8,pp 9,pp 11,(12,vI 0)] [(x6 b),(JW c),(JV d),Iq,(J4 e),(u6 f)]) ((n9 b c d a e f).m)
def pG(b:Scm)(g:ByteArray)(c:Val)(d:Val)(a:Scm→ByteArray→Val→Val→Option (Val)):PT 0 (Val):=wg<|cl (SM b g) fun e=>wg<|wg<|wg<|cl (ZZv c.raws d.raws) fun f=>wg<|lc (Ac [pp 4,pp 6,pp 7,pp 8,pp 9,pp 11] [(x6 b),(JW c),(JV d),Iq,(J4 e),(u6 f)]) ((oP b c d a e f).m)
def SY(a:Scm→ByteArray→Val→Val→Option (Val))(b:Scm)(c:ByteArray)(d:Val)(e:Val):Option (Val):=(pG b c d e a).m
theorem ZHU{C:Cx}(co:CO C 0)(b:Scm)(j:Val)(k:Val)(a:Scm→ByteArray→Val→Val→Option (Val))(p:Msg×Bool)(n:List Raw)(f:∀(b:Scm) (z:ByteArray) (j:Val) (k:Val),KC Tryz.prog 20 [.agg ((Am b).map .d),vS z,.agg ((Ae j).map .d),.agg ((Ae k).map .d)] (a b z j k) Kk):KL Tryz.prog (As tl) 101 C (pa [0,0,1,0,1,1,1] (At Tryz.f20)) [.cell 8 35] 0 (ZF b j k p n) (tP n) Kk nG (Nq b j k a p n):=fun(v3,q) _ m Q x t L=>mJ co 1 (Aa [4,6,7,8,9,11,12] Mx) (Aa [8,11] [((1,8),false),((1,11),false),((1,1115),true)]) t m L fun r g=>⟨fun _ m L=>sq (bk 1 (mJ co 4 (Aa [4,6,7,8,9,11,12,13,14,15,16,17,59] [((1,6),false),((1,7),false),((1,8),false),((1,9),false),((1,11),false),((1,13),false),((1,14),false),((1,16),false),((1,1115),true)]) nl t m L fun r g=>fun c=>fun d=>fun e=>fun _ m L=>Bg m (fun m=>Gk co AS BM (.fst 0 (.fst 2 (.fst 4 (.fst 5 (.fst 6 (.fst 7 ZUG)))))) [4] (VU b j k a p n v3 q c d e) (Aa [4,6,7,8,9,11,12] Mx) m L fun r g=>Kg (fun(s:∀(i:Val),PT.n (JX b j k p n v3 q c i) _)=>Kg (fun u=>Kg (fun v=>Kg (fun w=>w) (⟨u,⟨v,⟨fun y hy l _ _=>by rw[(Ej a f b c d.1 e.1).x,(Ej a f b c d.1 e.1).e];exact(Ej a f b c d.1 e.1).k _ l y hy,fun i=>(s i)⟩,fun _ h=>h⟩,fun _ h=>h⟩)) (⟨⟨fun y hy l _ _=>by rw[(Ej a f b c d.1 e.1).x,(Ej a f b c d.1 e.1).e];exact(Ej a f b c d.1 e.1).k _ l y hy,fun i=>(s i)⟩,⟨fun y hy l _ _=>by rw[(Ej a f b c d.1 e.1).x,(Ej a f b c d.1 e.1).e];exact(Ej a f b c d.1 e.1).k _ l y hy,fun i=>(s i)⟩,fun _ h=>h⟩)) (⟨⟨fun y hy l _ _=>by rw[(Ej a f b c d.1 e.1).x,(Ej a f b c d.1 e.1).e];exact(Ej a f b c d.1 e.1).k _ l y hy,fun i=>(s i)⟩,⟨fun y hy l _ _=>by rw[(Ej a f b c d.1 e.1).x,(Ej a f b c d.1 e.1).e];exact(Ej a f b c d.1 e.1).k _ l y hy,fun i=>(s i)⟩,fun _ h=>h⟩)) (fun i=>fun _ m L=>eN co (Aa [4,6,7,8,9,11,12] Mx) nl t m L)) (fun m=>qJ co AS BM (Vt b j k p n v3 q c d e) (Aa [4,6,7,8,9,11,12] Mx) nl t m L (.normal) (UH b j k p n v3) (M0 b j k p n v3) (fun A _ m L=>eN co (Aa [4,6,7,8,9,11,12] Mx) nl t m L) fun o r g=>⟨o (q++([(.mk c.num e.1:Slt)])),fun B=>⟨o (q++([(.mk c.num d.1:Slt)])),o q⟩⟩))),id⟩
theorem ZT7(a:Scm→ByteArray→Val→Val→Option (Val))(f:∀(b:Scm) (e:ByteArray) (c:Val) (d:Val),KC Tryz.prog 20 [.agg ((Am b).map .d),vS e,.agg ((Ae c).map .d),.agg ((Ae d).map .d)] (a b e c d) Kk)(b:Scm)(e:ByteArray)(c:Val)(d:Val):KC Tryz.prog 20 [.agg ((Am b).map .d),vS e,.agg ((Ae c).map .d),.agg ((Ae d).map .d)] (SY a b e c d) Kk:=kC Tryz.func20 Tryz.ntmps20 [.cell 8 35] fun co m L=>mJ co 3 (Aa [4,6,7,8,9,11] ZXi) nl nH m L fun r g=>fun i=>fun j=>fun _ m L=>sq (mJ co 1 (Aa [4,6,7,8,9,11,12] ZXi) nl nH m L fun r g=>fun _ m L=>bk 0 (cM co (Aa [4,6,7,8,9,11,12] Mx) m L fun r g=>fun _ m L=>lo (Ax (ZHU co b c d a i j f) nH m L (fun h m=>fO co m L))))
def MJ:Nat→Scm→ByteArray→Val→Val→Option (Val)
 |0=>fun _ _ _ _=>none
 |a+1=>SY (MJ a)
theorem cA:∀(e:Nat) (a:Scm) (b:ByteArray) (c:Val) (d:Val),KC Tryz.prog 20 [.agg ((Am a).map .d),vS b,.agg ((Ae c).map .d),.agg ((Ae d).map .d)] (MJ e a b c d) Kk
 |0,a,b,c,d=>⟨fun _ _ _ h=>(by cases h),by intro r;kernel_rfl,by intro r y;kernel_rfl⟩
 |e+1,a,b,c,d=>ZT7 (MJ e) (cA e) a b c d
abbrev WX:Ad×Blk:=kk 4 56 5 [vS ⟨#[]⟩,.e0,.e0,.e0,.e0]
abbrev Zs(a:Scm):Ad×Blk:=kk 2 26 3 (cD (Am a))
abbrev Rl:Msg×Int→AV:=fun y=>.tup [.agg ((AH y.1).map .d),vI y.2]
def q6(a:Scm)(b:ByteArray):Nat→St:=fun c=>Ac [(1,vS b),pp 2,pp 4,(6,vN c)] [(Zs a),WX]
def yh:Unit→Nat×St:=fun _=>(0,Ac [pp 4] [WX])
def ZG(b:Scm)(c:ByteArray)(a:Nat):PT 0 (Lv (Nat) (Unit) (Msg×Int)):=wg<|vz (Ai b.messages)<|br (decide ((a:Int)<(b.messages.length:Int))) (wg<|ix b.messages a fun d=>br (decide (d.name=c)) (wg<|ix b.messages a fun e=>wg<|Ar Rl nG (e,(a:Int))) (vs (wa a 1)<|ln (q6 b c) (a+1))) (Af (yh) ())
def QP(a:Scm)(b:ByteArray):Nat→Option (Lv (Nat) (Unit) (Msg×Int)):=fun c=>(ZG a b c).m
def vT:PT 0 (Msg×Int):=wg<|lr Rl nG ((.mk ⟨#[]⟩ [] [] [] []:Msg),(-1))
def qD(a:Scm)(b:ByteArray):PT 0 (Msg×Int):=lc (Ac [(1,vS b),pp 2,pp 4,(6,vI 0)] [(Zs a),WX]) ((Aj (QP a b) Ag 0).bind (Sum.elim (fun _=>(vT).m) some))
def xg(a:Scm)(b:ByteArray):PT 0 (Msg×Int):=lc (Ac [(1,vS b),pp 2,pp 4] [(Zs a),WX]) ((qD a b).m)
def dy(a:Scm)(b:ByteArray):Option (Msg×Int):=(xg a b).m
theorem ZE0{C:Cx}(co:CO C 0)(b:Scm)(c:ByteArray):KL Tryz.prog (As tl) 29 C (pa [0,0,1,0,1] (At Tryz.f21)) [.cell 4 56,.tmp 5] 0 (q6 b c) (yh) Rl nG (QP b c):=fun e _ m Q a d L=>eN co (Aa [1,2,4,6] CH) (Aa [4] Dl) d m L
theorem ZZC(a:Scm)(b:ByteArray):KC Tryz.prog 21 [.agg ((Am a).map .d),vS b] (dy a b) Rl:=kC Tryz.func21 Tryz.ntmps21 [.cell 4 56,.tmp 5] fun co m L=>mJ co 1 (Aa [1,2,4] CH) nl nH m L fun r g=>fun _ m L=>sq (mJ co 1 (Aa [1,2,4,6] CH) nl nH m L fun r g=>fun _ m L=>bk 0 (lo (Ax (ZE0 co a b) nH m L (fun _ m=>fO co m L))))
abbrev WA:Ad×Blk:=kk 4 51 16 [vI 0,vS ⟨#[]⟩,vI 0,vI 0,vI 0,vS ⟨#[]⟩,vS ⟨#[]⟩,vB false,vI 0,.d (.int .u64 0),vS ⟨#[]⟩,.e0,.e0,.e0,.e0,.e0]
abbrev ZT(a:Msg):Ad×Blk:=kk 2 56 5 (cD (AH a))
abbrev Rm:Fld×Bool→AV:=fun y=>.tup [.agg ((Av y.1).map .d),vB y.2]
def wA(a:Msg)(b:Int):Nat→St:=fun c=>Ac [(1,vI b),pp 2,pp 4,(6,vN c)] [(ZT a),WA]
def wW:Unit→Nat×St:=fun _=>(0,Ac [pp 4] [WA])
def ZO(a:Msg)(c:Int)(b:Nat):PT 0 (Lv (Nat) (Unit) (Fld×Bool)):=wg<|vz (Ai a.fields)<|br (decide ((b:Int)<(a.fields.length:Int))) (wg<|ix a.fields b fun d=>br (decide (d.num=c)) (wg<|ix a.fields b fun e=>wg<|Ar Rm nG (e,true)) (vs (wa b 1)<|ln (wA a c) (b+1))) (Af (wW) ())
def QO(a:Msg)(b:Int):Nat→Option (Lv (Nat) (Unit) (Fld×Bool)):=fun c=>(ZO a b c).m
def rO:PT 0 (Fld×Bool):=wg<|lr Rm nG ((.mk 0 ⟨#[]⟩ 0 0 (.mk 0 ⟨#[]⟩:Typ) ⟨#[]⟩ false (.mk 0 0 ⟨#[]⟩ [] [] [] []:Val) []:Fld),false)
def yR(a:Msg)(b:Int):PT 0 (Fld×Bool):=lc (Ac [(1,vI b),pp 2,pp 4,(6,vI 0)] [(ZT a),WA]) ((Aj (QO a b) Ag 0).bind (Sum.elim (fun _=>(rO).m) some))
def rv(a:Msg)(b:Int):PT 0 (Fld×Bool):=lc (Ac [(1,vI b),pp 2,pp 4] [(ZT a),WA]) ((yR a b).m)
def eE(a:Msg)(b:Int):Option (Fld×Bool):=(rv a b).m
theorem ZF8{C:Cx}(co:CO C 0)(b:Msg)(c:Int):KL Tryz.prog (As tl) 28 C (pa [0,0,1,0,1] (At Tryz.f22)) [.cell 4 51,.tmp 5] 0 (wA b c) (wW) Rm nG (QO b c):=fun e _ m Q a d L=>eN co (Aa [1,2,4,6] CH) (Aa [4] Dl) d m L
theorem ZYW(a:Msg)(b:Int):KC Tryz.prog 22 [.agg ((AH a).map .d),vI b] (eE a b) Rm:=kC Tryz.func22 Tryz.ntmps22 [.cell 4 51,.tmp 5] fun co m L=>mJ co 1 (Aa [1,2,4] CH) nl nH m L fun r g=>fun _ m L=>sq (mJ co 1 (Aa [1,2,4,6] CH) nl nH m L fun r g=>fun _ m L=>bk 0 (lo (Ax (ZF8 co a b) nH m L (fun _ m=>fO co m L))))
abbrev j7:Bool→AV:=fun y=>vB y
def ZUT(a:Fld):PT 0 (Bool):=wg<|wg<|wg<|lr j7 nG (decide (a.type.kind=(10:Int))&&(decide (a.card=(1:Int))||decide (a.card=(2:Int))))
def Zdr(a:Fld):Option (Bool):=(ZUT a).m
theorem ZYH(a:Fld):KC Tryz.prog 23 [.agg ((Av a).map .d)] (Zdr a) j7:=kC Tryz.func23 Tryz.ntmps23 [.tmp 2] fun co m L=>fO co m L
abbrev LB(a:Scm):Ad×Blk:=kk 3 26 3 (cD (Am a))
abbrev sO(a:Msg×Int):Ad×Blk:=kk 7 56 5 (cD (AH a.1))
abbrev Gp:Int→AV:=fun y=>vI y
def yO(a:Scm)(b:List Msk)(c:Msg×Int):Nat→St:=fun v2=>Ac [(2,vL AJ b),pp 3,(7,.iptr (AH c.1) 0),(9,vN v2)] [(LB a)]
def vK:Unit→Nat×St:=fun _=>(0,Ac [] [])
def yx(a:Scm)(b:List Msk)(c:Msg×Int)(v2:Nat):PT 0 (Lv (Nat) (Unit) (Int)):=vs (wa v2 1)<|ln (yO a b c) (v2+1)
def iA(a:Scm)(b:List Msk)(c:Msg×Int)(v2:Nat):Unit→St:=fun _=>Ac [(2,vL AJ b),pp 3,(7,.iptr (AH c.1) 0),(9,vN v2)] [(LB a)]
def P1(a:Scm)(b:List Msk)(c:Msg×Int)(v2:Nat):Unit→Option (Lv (Nat) (Unit) (Int)):=fun _=>(yx a b c v2).m
def aw(b:Scm)(a:List Msk)(g:Scm→ByteArray→(List Msk)→Option (Int))(e:Msg×Int)(v2:Nat)(f:Fld×Bool):PT 0 (Lv (Nat) (Unit) (Int)):=AN (decide ((0:Int)<(v2:Int))) a (v2:Int) fun j=>vg (decide ((0:Int)<(v2:Int))) (wi ((v2:Int)-1))<|AN (decide ((0:Int)<(v2:Int))) a ((v2:Int)-1) fun k=>br (decide ((0:Int)<(v2:Int))&&decide (j.num≤k.num)) (Ar Gp nG 11) (br (!f.2) (Ar Gp nG 8) (ix a v2 fun h=>vz (Ai h.subs)<|wg<|AE (decide ((0:Int)<(h.subs.length:Int))) (ZYH f.1) fun l=>br (decide ((0:Int)<(h.subs.length:Int))&&(!l)) (Ar Gp nG 12) (ix a v2 fun i=>vz (Ai i.subs)<|br (decide ((0:Int)<(i.subs.length:Int))) (wg<|wg<|ix a v2 fun c=>cs Tryz.prog 11 [.agg ((Am b).map .d),vS f.1.type.name,vL AJ c.subs] [] [] (g b f.1.type.name c.subs) (fun y=>vI y) fun d=>br (!decide (d=(0:Int))) (Ar Gp nG d) (lc (iA b a e v2 ()) (P1 b a e v2 ()))) (lc (iA b a e v2 ()) (P1 b a e v2 ())))))
def ZX(e:Scm)(b:List Msk)(a:Scm→ByteArray→(List Msk)→Option (Int))(c:Msg×Int)(v2:Nat):PT 0 (Lv (Nat) (Unit) (Int)):=ix b v2 fun f=>du (cl (ZYW c.1 f.num) fun d=>wg<|lc (Ac [(2,vL AJ b),pp 3,(7,.iptr (AH c.1) 0),(9,vN v2),pp 10,(11,vB d.2)] [(LB e),kk 10 51 16 (cD (Av d.1))]) ((aw e b a c v2 d).m))
def yc(c:Scm)(a:List Msk)(b:Scm→ByteArray→(List Msk)→Option (Int))(d:Msg×Int)(v2:Nat):PT 0 (Lv (Nat) (Unit) (Int)):=vz (Ai a)<|br (decide ((v2:Int)<(a.length:Int))) (lc (Ac [(2,vL AJ a),pp 3,(7,.iptr (AH d.1) 0),(9,vN v2)] [(LB c)]) ((ZX c a b d v2).m)) (Af (vK) ())
def Wv(b:Scm)(c:List Msk)(a:Scm→ByteArray→(List Msk)→Option (Int))(d:Msg×Int):Nat→Option (Lv (Nat) (Unit) (Int)):=fun v2=>(yc b c a d v2).m
def qg:PT 0 (Int):=lr Gp nG 0
def xQ(b:Scm)(c:List Msk)(a:Scm→ByteArray→(List Msk)→Option (Int))(d:Msg×Int):PT 0 (Int):=vw (.fzb 7 [7])<|lc (Ac [(2,vL AJ c),pp 3,(7,.iptr (AH d.1) 0),(9,vI 0)] [(LB b)]) ((Aj (Wv b c a d) Ag 0).bind (Sum.elim (fun _=>(qg).m) some))
def x9(b:Scm)(c:List Msk)(a:Scm→ByteArray→(List Msk)→Option (Int))(d:Msg×Int):PT 0 (Int):=lc (Ac [(2,vL AJ c),pp 3,pp 7,(9,vI 0)] [(LB b),(sO d)]) ((xQ b c a d).m)
def r6(b:Scm)(e:ByteArray)(d:List Msk)(a:Scm→ByteArray→(List Msk)→Option (Int)):PT 0 (Int):=wg<|cl (ZZC b e) fun c=>wg<|br (decide (c.2<(0:Int))) (lr Gp nG 10) (lc (Ac [(2,vL AJ d),pp 3,pp 7] [(LB b),(sO c)]) ((x9 b d a c).m))
def Ti(a:Scm→ByteArray→(List Msk)→Option (Int))(b:Scm)(c:ByteArray)(d:List Msk):Option (Int):=(r6 b c d a).m
theorem ZFl{C:Cx}(co:CO C 0)(a:Scm)(c:List Msk)(b:Scm→ByteArray→(List Msk)→Option (Int))(e:Msg×Int)(i:∀(a:Scm) (l:ByteArray) (c:List Msk),KC Tryz.prog 11 [.agg ((Am a).map .d),vS l,vL AJ c] (b a l c) Gp):KL Tryz.prog (As tl) 90 C (pa [0,0,1,0,1,1,1] (At Tryz.f11)) [.tmp 6] 0 (yO a c e) (vK) Gp nG (Wv a c b e):=fun v2 _ m Q k h L=>mJ co 1 (Aa [2,3,7,9] [((1,3),false)]) nl h m L fun r g=>⟨fun _ m L=>sq (bk 1 (sq (Gk co AS BM (.fst 0 (.fst 1 (.fst 2 (.fst 3 (.fst 4 (.fst 5 (.two 6 10 (.fst 7 (.fst 8 (.fst 9 (.fst 10 (.fst 11 (.fst 12 .nil)))))) (.fst 6 (.fst 7 (.fst 8 (.fst 9 (.fst 11 (.fst 12 .nil))))))))))))) [7] (ZX a c b e v2) (Aa [2,3,7,9,10,11] [((1,3),false),((1,10),false)]) m L fun r g=>fun p=>fun f=>fun _ m L=>qJ co AS BM (aw a c b e v2 f) (Aa [2,3,7,9] [((1,3),false)]) nl h m L (.normal) (iA a c e v2) (P1 a c e v2) (fun _ _ m L=>eN co (Aa [2,3,7,9] [((1,3),false)]) nl h m L) fun j r g=>fun q=>fun s=>⟨id,⟨id,fun t=>fun v=>⟨id,fun u=>⟨fun d=>⟨fun y hy n _ _=>by rw[(i a f.1.type.name d.subs).x,(i a f.1.type.name d.subs).e];exact(i a f.1.type.name d.subs).k _ n y hy,fun o=>⟨id,j ()⟩⟩,j ()⟩⟩⟩⟩))),id⟩
theorem ZUC(a:Scm→ByteArray→(List Msk)→Option (Int))(e:∀(b:Scm) (d:ByteArray) (c:List Msk),KC Tryz.prog 11 [.agg ((Am b).map .d),vS d,vL AJ c] (a b d c) Gp)(b:Scm)(d:ByteArray)(c:List Msk):KC Tryz.prog 11 [.agg ((Am b).map .d),vS d,vL AJ c] (Ti a b d c) Gp:=kC Tryz.func11 Tryz.ntmps11 [.tmp 6] fun co m L=>mJ co 3 (Aa [2,3,7] [((1,3),false),((1,7),false)]) nl nH m L fun r g=>fun f=>⟨id,fun _ m L=>sq (mJ co 1 (Aa [2,3,7,9] [((1,3),false),((1,7),false)]) nl nH m L fun r g=>fun _ m L=>bk 0 (cM co (Aa [2,3,7,9] [((1,3),false)]) m L fun r g=>fun _ m L=>lo (Ax (ZFl co b c a f e) nH m L (fun _ m=>fO co m L))))⟩
def Lb:Nat→Scm→ByteArray→(List Msk)→Option (Int)
 |0=>fun _ _ _=>none
 |a+1=>Ti (Lb a)
theorem ZXU:∀(d:Nat) (a:Scm) (b:ByteArray) (c:List Msk),KC Tryz.prog 11 [.agg ((Am a).map .d),vS b,vL AJ c] (Lb d a b c) Gp
 |0,a,b,c=>⟨fun _ _ _ h=>(by cases h),by intro r;kernel_rfl,by intro r y;kernel_rfl⟩
 |d+1,a,b,c=>ZUC (Lb d) (ZXU d) a b c
abbrev kf:Int→AV:=fun y=>vI y
def ZVU(a:Msk):PT 0 (Int):=wg<|lr kf nG a.num
def Zjo(a:Msk):Option (Int):=(ZVU a).m
theorem ZZu(a:Msk):KC Tryz.prog 56 [.agg ((HA a).map .d)] (Zjo a) kf:=kC Tryz.func56 Tryz.ntmps56 [.tmp 2] fun co m L=>fO co m L
abbrev Ws:Ad×Blk:=kk 6 71 2 [vI 0,.e0]
abbrev Ry:Msk×Bool→AV:=fun y=>.tup [.agg ((HA y.1).map .d),vB y.2]
def qL(a:List Msk)(b:Int):Nat→St:=fun c=>Ac [(1,vI b),(2,.fn (.func 56) [] []),pp 6,(11,vL AJ a),(12,vN a.length),(13,vN c)] [Ws]
def yE:Unit→Nat×St:=fun _=>(0,Ac [pp 6] [Ws])
def aH(b:List Msk)(d:Int)(a:Nat):PT 0 (Lv (Nat) (Unit) (Msk×Bool)):=br (decide ((a:Int)<(b.length:Int))) (ix b a fun c=>wg<|wg<|cl (ZZu c) fun e=>br (decide (e=d)) (wg<|wg<|Ar Ry nG (c,true)) (vs (wa a 1)<|ln (qL b d) (a+1))) (Af (yE) ())
def QE(a:List Msk)(b:Int):Nat→Option (Lv (Nat) (Unit) (Msk×Bool)):=fun c=>(aH a b c).m
def wu:PT 0 (Msk×Bool):=wg<|wg<|lr Ry nG ((.mk 0 []:Msk),false)
def wD(a:List Msk)(b:Int):PT 0 (Msk×Bool):=vz (Ai a)<|lc (Ac [(1,vI b),(2,.fn (.func 56) [] []),pp 6,(11,vL AJ a),(12,vN a.length),(13,vI 0)] [Ws]) ((Aj (QE a b) Ag 0).bind (Sum.elim (fun _=>(wu).m) some))
def yp(a:List Msk)(b:Int):PT 0 (Msk×Bool):=lc (Ac [(0,vL AJ a),(1,vI b),(2,.fn (.func 56) [] []),pp 6] [Ws]) ((wD a b).m)
def eI(a:List Msk)(b:Int):Option (Msk×Bool):=(yp a b).m
theorem ZF4{C:Cx}(co:CO C 0)(b:List Msk)(c:Int):KL Tryz.prog (As tl) 25 C (pa [0,0,1,0,1] (At Tryz.f55)) [.cell 6 71,.tmp 7] 0 (qL b c) (yE) Ry nG (QE b c):=fun e _ m Q a d L=>eN co (Aa [1,2,6,11,12,13] [((1,6),false)]) (Aa [6] [((1,6),false)]) d m L
theorem y9(a:List Msk)(b:Int):KC Tryz.prog 55 [vL AJ a,vI b,.fn (.func 56) [] []] (eI a b) Ry:=kC Tryz.func55 Tryz.ntmps55 [.cell 6 71,.tmp 7] fun co m L=>mJ co 1 (Aa [0,1,2,6] [((1,6),false)]) nl nH m L fun r g=>fun _ m L=>sq (mJ co 1 (Aa [1,2,6,11,12,13] [((1,6),false)]) nl nH m L fun r g=>fun _ m L=>bk 0 (lo (Ax (ZF4 co a b) nH m L (fun _ m=>fO co m L))))
abbrev kg:Bool→AV:=fun y=>vB y
def ag(a:Msk):PT 0 (Bool):=wg<|vz (Ai a.subs)<|lr kg nG (decide ((a.subs.length:Int)=(0:Int)))
def e9(a:Msk):Option (Bool):=(ag a).m
theorem ZXg(a:Msk):KC Tryz.prog 57 [.agg ((HA a).map .d)] (e9 a) kg:=kC Tryz.func57 Tryz.ntmps57 [.tmp 2] fun co m L=>fO co m L
abbrev Me:List (Ad×Bool):=[((1,2),false),((1,4),false),((1,1025),true)]
abbrev QD:Ad×Blk:=kk 4 35 7 [vI 0,.d (.int .u64 0),vS ⟨#[]⟩,.e0,.e0,.e0,.e0]
abbrev pN(a:Val):Ad×Blk:=kk 2 35 7 [vI a.kind,.d (.int .u64 a.bits),vS a.text,vL AW a.list,vL Aq a.pairs,.e0,.e0]
abbrev Kl:Val→AV:=fun y=>.agg ((Ae y).map .d)
def WT(a:Val)(c:List Msk):Nat×List Slt→St:=fun(d,b)=>Ac [(1,vL AJ c),pp 2,pp 4,(18,vL Ap a.slots),(19,vN a.slots.length),(20,vN d)] [kk 2 35 7 [vI a.kind,.d (.int .u64 a.bits),vS a.text,vL AW a.list,vL Aq a.pairs,.ref (1,1025) 0 0 b.length,.e0],QD,kk 1025 58 8 (Ab Ap b)]
def tv(a:Val):List Slt→Nat×St:=fun b=>(0,Ac [pp 2,pp 4] [kk 2 35 7 [vI a.kind,.d (.int .u64 a.bits),vS a.text,vL AW a.list,vL Aq a.pairs,.ref (1,1025) 0 0 b.length,.e0],QD,kk 1025 58 8 (Ab Ap b)])
def Zq(d:Val)(e:List Msk)(g:Val→(List Msk)→Option (Val))(c:Nat)(a:List Slt):PT 0 (Lv (Nat×List Slt) (List Slt) (Val)):=br (decide ((c:Int)<(d.slots.length:Int))) (ix d.slots c fun b=>wg<|wg<|cl (y9 e b.num) fun f=>wg<|br (!f.2) (vs (wa c 1)<|vz (fl a)<|ln (WT d e) (c+1,a)) (wg<|cl (ZXg f.1) fun i=>br (!i) (wg<|wg<|cs Tryz.prog 24 [.agg ((Ae b.val).map .d),vL AJ f.1.subs] [] [] (g b.val f.1.subs) (fun y=>.agg ((Ae y).map .d)) fun h=>wg<|wg<|wg<|vw .sep<|ap a ((.mk b.num h:Slt):Slt)<|wg<|vs (wa c 1)<|vz (fl (a++([(.mk b.num h:Slt)])))<|ln (WT d e) (c+1,a++([(.mk b.num h:Slt)]))) (wg<|wg<|vw .sep<|ap a (b:Slt)<|wg<|vs (wa c 1)<|vz (fl (a++[b]))<|ln (WT d e) (c+1,a++[b])))) (vz (fl a)<|Af (tv d) a)
def Nu(b:Val)(c:List Msk)(a:Val→(List Msk)→Option (Val)):Nat×List Slt→Option (Lv (Nat×List Slt) (List Slt) (Val)):=fun(e,d)=>(Zq b c a e d).m
def X8(a:Val)(b:List Slt):PT 0 (Val):=wg<|wg<|vz (fr b)<|lr Kl nG (.mk a.kind a.bits a.text a.list a.pairs b []:Val)
def aE(a:Val)(c:List Msk)(b:Val→(List Msk)→Option (Val)):PT 0 (Val):=vw (.adc (1,2) 5 1025 58 8)<|vz (fl ([]:List Slt))<|lc (Ac [(1,vL AJ c),pp 2,pp 4,(18,vL Ap a.slots),(19,vN a.slots.length),(20,vI 0)] [kk 2 35 7 [vI a.kind,.d (.int .u64 a.bits),vS a.text,vL AW a.list,vL Aq a.pairs,.ref (1,1025) 0 0 ([]:List Slt).length,.e0],QD,kk 1025 58 8 (Ab Ap ([]:List Slt))]) ((Aj (Nu a c b) Ag (0,([]:List Slt))).bind (Sum.elim (fun d=>(X8 a d).m) some))
def aa(a:Val)(c:List Msk)(b:Val→(List Msk)→Option (Val)):PT 0 (Val):=vz (Ai a.slots)<|lc (Ac [(1,vL AJ c),pp 2,pp 4,(18,vL Ap a.slots),(19,vN a.slots.length),(20,vI 0)] [(pN a),QD]) ((aE a c b).m)
def bf(a:Val)(c:List Msk)(b:Val→(List Msk)→Option (Val)):PT 0 (Val):=wg<|br (!decide (a.kind=(10:Int))) (wg<|wg<|lr Kl nG a) (wg<|wg<|wg<|lc (Ac [(1,vL AJ c),pp 2,pp 4,(5,vL Ap a.slots)] [(pN a),QD]) ((aa a c b).m))
def Mz(a:Val→(List Msk)→Option (Val))(b:Val)(c:List Msk):Option (Val):=(bf b c a).m
theorem ZFz{C:Cx}(co:CO C 0)(a:Val)(c:List Msk)(b:Val→(List Msk)→Option (Val))(e:∀(a:Val) (c:List Msk),KC Tryz.prog 24 [.agg ((Ae a).map .d),vL AJ c] (b a c) Kl):KL Tryz.prog (As tl) 50 C (pa [0,0,1,0,1,1,1,1] (At Tryz.f24)) [.cell 4 35] 0 (WT a c) (tv a) Kl nG (Nu a c b):=fun(l,k) _ m Q h j L=>eN co (Aa [1,2,4,18,19,20] Me) (Aa [2,4] Me) j m L fun r g=>⟨fun d=>fun f=>⟨id,fun n=>⟨⟨fun y hy i _ _=>by rw[(e d.val f.1.subs).x,(e d.val f.1.subs).e];exact(e d.val f.1.subs).k _ i y hy,fun o=>id⟩,id⟩⟩,id⟩
theorem ZUO(a:Val→(List Msk)→Option (Val))(d:∀(b:Val) (c:List Msk),KC Tryz.prog 24 [.agg ((Ae b).map .d),vL AJ c] (a b c) Kl)(b:Val)(c:List Msk):KC Tryz.prog 24 [.agg ((Ae b).map .d),vL AJ c] (Mz a b c) Kl:=kC Tryz.func24 Tryz.ntmps24 [.cell 4 35] fun co m L=>mJ co 4 (Aa [1,2,4,5] CH) nl nH m L fun r g=>⟨id,fun _ m L=>sq (mJ co 1 (Aa [1,2,4,18,19,20] CH) nl nH m L fun r g=>fun _ m L=>bk 0 (cM co (Aa [1,2,4,18,19,20] Me) m L fun r g=>fun _ m L=>lo (Ax (ZFz co b c a d) nH m L (fun e m=>fO co m L))))⟩
def Gy:Nat→Val→(List Msk)→Option (Val)
 |0=>fun _ _=>none
 |a+1=>Mz (Gy a)
theorem dk:∀(c:Nat) (a:Val) (b:List Msk),KC Tryz.prog 24 [.agg ((Ae a).map .d),vL AJ b] (Gy c a b) Kl
 |0,a,b=>⟨fun _ _ _ h=>(by cases h),by intro r;kernel_rfl,by intro r y;kernel_rfl⟩
 |c+1,a,b=>ZUO (Gy c) (dk c) a b
abbrev jY:Val→AV:=fun y=>.agg ((Ae y).map .d)
def tR(a:Scm)(b:ByteArray)(c:Val)(d:Val)(e:List Msk):PT 0 (Val):=wg<|wg<|wg<|cl (dk Ag d e) fun f=>cl (SC Ag a b c f) fun g=>wg<|lr jY nG g
def eQ(a:Scm)(b:ByteArray)(c:Val)(d:Val)(e:List Msk):Option (Val):=(tR a b c d e).m
theorem ZYZ(a:Scm)(b:ByteArray)(c:Val)(d:Val)(e:List Msk):KC Tryz.prog 12 [.agg ((Am a).map .d),vS b,.agg ((Ae c).map .d),.agg ((Ae d).map .d),vL AJ e] (eQ a b c d e) jY:=kC Tryz.func12 Tryz.ntmps12 [.cell 10 35] fun co m L=>fO co m L
abbrev VL:Ad×Blk:=kk 4 71 2 [vI 0,.e0]
abbrev Rz:Msk×Bool→AV:=fun y=>.tup [.agg ((HA y.1).map .d),vB y.2]
def pX(a:List Msk)(b:Int):Nat→St:=fun c=>Ac [(0,vL AJ a),(1,vI b),pp 4,(6,vN c)] [VL]
def xE:Unit→Nat×St:=fun _=>(0,Ac [pp 4] [VL])
def am(a:List Msk)(c:Int)(b:Nat):PT 0 (Lv (Nat) (Unit) (Msk×Bool)):=vz (Ai a)<|br (decide ((b:Int)<(a.length:Int))) (ix a b fun d=>br (decide (d.num=c)) (ix a b fun e=>wg<|Ar Rz nG (e,true)) (vs (wa b 1)<|ln (pX a c) (b+1))) (Af (xE) ())
def Rf(a:List Msk)(b:Int):Nat→Option (Lv (Nat) (Unit) (Msk×Bool)):=fun c=>(am a b c).m
def sQ:PT 0 (Msk×Bool):=wg<|lr Rz nG ((.mk 0 []:Msk),false)
def sX(a:List Msk)(b:Int):PT 0 (Msk×Bool):=lc (Ac [(0,vL AJ a),(1,vI b),pp 4,(6,vI 0)] [VL]) ((Aj (Rf a b) Ag 0).bind (Sum.elim (fun _=>(sQ).m) some))
def tq(a:List Msk)(b:Int):PT 0 (Msk×Bool):=lc (Ac [(0,vL AJ a),(1,vI b),pp 4] [VL]) ((sX a b).m)
def ec(a:List Msk)(b:Int):Option (Msk×Bool):=(tq a b).m
theorem ZHA{C:Cx}(co:CO C 0)(b:List Msk)(c:Int):KL Tryz.prog (As tl) 25 C (pa [0,0,1,0,1] (At Tryz.f58)) [.cell 4 71,.tmp 5] 0 (pX b c) (xE) Rz nG (Rf b c):=fun e _ m Q a d L=>eN co (Aa [0,1,4,6] Dl) (Aa [4] Dl) d m L
theorem y3(a:List Msk)(b:Int):KC Tryz.prog 58 [vL AJ a,vI b] (ec a b) Rz:=kC Tryz.func58 Tryz.ntmps58 [.cell 4 71,.tmp 5] fun co m L=>mJ co 1 (Aa [0,1,4] Dl) nl nH m L fun r g=>fun _ m L=>sq (mJ co 1 (Aa [0,1,4,6] Dl) nl nH m L fun r g=>fun _ m L=>bk 0 (lo (Ax (ZHA co a b) nH m L (fun _ m=>fO co m L))))
abbrev S9:List (Ad×Bool):=[((1,2),false),((1,4),false),((1,5),false),((1,1055),true)]
abbrev SE:List (Ad×Bool):=[((1,2),false),((1,4),false),((1,5),false)]
abbrev Q8:Ad×Blk:=kk 4 35 7 [vI 0,.d (.int .u64 0),vS ⟨#[]⟩,.e0,.e0,.e0,.e0]
abbrev VW(a:Val):Ad×Blk:=kk 2 35 7 (cD (Ae a))
abbrev qT:Ad×Blk:=kk 5 35 7 [vI 10,.d (.int .u64 0),vS ⟨#[]⟩,.e0,.e0,.e0,.e0]
abbrev Km:Val→AV:=fun y=>.agg ((Ae y).map .d)
def QF(b:Val)(c:List Msk):Nat×List Slt→St:=fun(d,a)=>Ac [(1,vL AJ c),pp 2,pp 4,pp 5,(6,vN d)] [(VW b),Q8,kk 5 35 7 [vI 10,.d (.int .u64 0),vS ⟨#[]⟩,.e0,.e0,.ref (1,1055) 0 0 a.length,.e0],kk 1055 58 8 (Ab Ap a)]
def rU:List Slt→Nat×St:=fun a=>(0,Ac [pp 4,pp 5] [Q8,kk 5 35 7 [vI 10,.d (.int .u64 0),vS ⟨#[]⟩,.e0,.e0,.ref (1,1055) 0 0 a.length,.e0],kk 1055 58 8 (Ab Ap a)])
def Z2(e:Val)(f:List Msk)(g:Val→(List Msk)→Option (Val))(b:Nat)(a:List Slt):PT 0 (Lv (Nat×List Slt) (List Slt) (Val)):=wg<|vz (Ai e.slots)<|br (decide ((b:Int)<(e.slots.length:Int))) (wg<|ix e.slots b fun c=>wg<|wg<|cl (y3 f c.num) fun d=>wg<|wg<|vy d.2 (Ai d.1.subs)<|br (d.2&&decide ((0:Int)<(d.1.subs.length:Int))) (wg<|wg<|cs Tryz.prog 25 [.agg ((Ae c.val).map .d),vL AJ d.1.subs] [] [] (g c.val d.1.subs) (fun y=>.agg ((Ae y).map .d)) fun h=>wg<|br d.2 (wg<|wg<|vw .sep<|ap a ((.mk c.num h:Slt):Slt)<|wg<|vs (wa b 1)<|vz (fl (a++([(.mk c.num h:Slt)])))<|ln (QF e f) (b+1,a++([(.mk c.num h:Slt)]))) (vs (wa b 1)<|vz (fl a)<|ln (QF e f) (b+1,a))) (br d.2 (wg<|wg<|vw .sep<|ap a (c:Slt)<|wg<|vs (wa b 1)<|vz (fl (a++[c]))<|ln (QF e f) (b+1,a++[c])) (vs (wa b 1)<|vz (fl a)<|ln (QF e f) (b+1,a)))) (vz (fl a)<|Af (rU) a)
def Nk(b:Val)(c:List Msk)(a:Val→(List Msk)→Option (Val)):Nat×List Slt→Option (Lv (Nat×List Slt) (List Slt) (Val)):=fun(e,d)=>(Z2 b c a e d).m
def a2(a:List Slt):PT 0 (Val):=wg<|wg<|vz (fr a)<|lr Km nG (.mk 10 0 ⟨#[]⟩ [] [] a []:Val)
def bb(b:Val)(c:List Msk)(a:Val→(List Msk)→Option (Val)):PT 0 (Val):=vw (.adc (1,5) 5 1055 58 8)<|vz (fl ([]:List Slt))<|lc (Ac [(1,vL AJ c),pp 2,pp 4,pp 5,(6,vI 0)] [(VW b),Q8,kk 5 35 7 [vI 10,.d (.int .u64 0),vS ⟨#[]⟩,.e0,.e0,.ref (1,1055) 0 0 ([]:List Slt).length,.e0],kk 1055 58 8 (Ab Ap ([]:List Slt))]) ((Aj (Nk b c a) Ag (0,([]:List Slt))).bind (Sum.elim (fun d=>(a2 d).m) some))
def ak(b:Val)(c:List Msk)(a:Val→(List Msk)→Option (Val)):PT 0 (Val):=lc (Ac [(1,vL AJ c),pp 2,pp 4,pp 5,(6,vI 0)] [(VW b),Q8,qT]) ((bb b c a).m)
def Zz(a:Val)(c:List Msk)(b:Val→(List Msk)→Option (Val)):PT 0 (Val):=wg<|br (!decide (a.kind=(10:Int))) (wg<|wg<|lr Km nG a) (wg<|lc (Ac [(1,vL AJ c),pp 2,pp 4,pp 5] [(VW a),Q8,qT]) ((ak a c b).m))
def Mj(a:Val→(List Msk)→Option (Val))(b:Val)(c:List Msk):Option (Val):=(Zz b c a).m
theorem ZFX{C:Cx}(co:CO C 0)(b:Val)(c:List Msk)(a:Val→(List Msk)→Option (Val))(e:∀(b:Val) (c:List Msk),KC Tryz.prog 25 [.agg ((Ae b).map .d),vL AJ c] (a b c) Km):KL Tryz.prog (As tl) 55 C (pa [0,0,1,0,1,1,1] (At Tryz.f25)) [.cell 4 35] 0 (QF b c) (rU) Km nG (Nk b c a):=fun(l,k) _ m Q h j L=>eN co (Aa [1,2,4,5,6] S9) (Aa [4,5] [((1,4),false),((1,5),false),((1,1055),true)]) j m L fun r g=>⟨fun d=>fun f=>⟨⟨fun y hy i _ _=>by rw[(e d.val f.1.subs).x,(e d.val f.1.subs).e];exact(e d.val f.1.subs).k _ i y hy,fun n=>⟨id,id⟩⟩,⟨id,id⟩⟩,id⟩
theorem ZWq(a:Val→(List Msk)→Option (Val))(d:∀(b:Val) (c:List Msk),KC Tryz.prog 25 [.agg ((Ae b).map .d),vL AJ c] (a b c) Km)(b:Val)(c:List Msk):KC Tryz.prog 25 [.agg ((Ae b).map .d),vL AJ c] (Mj a b c) Km:=kC Tryz.func25 Tryz.ntmps25 [.cell 4 35] fun co m L=>mJ co 3 (Aa [1,2,4,5] SE) nl nH m L fun r g=>⟨id,fun _ m L=>sq (mJ co 1 (Aa [1,2,4,5,6] SE) nl nH m L fun r g=>fun _ m L=>bk 0 (cM co (Aa [1,2,4,5,6] S9) m L fun r g=>fun _ m L=>lo (Ax (ZFX co b c a d) nH m L (fun e m=>fO co m L))))⟩
def Gx:Nat→Val→(List Msk)→Option (Val)
 |0=>fun _ _=>none
 |a+1=>Mj (Gx a)
theorem cm:∀(c:Nat) (a:Val) (b:List Msk),KC Tryz.prog 25 [.agg ((Ae a).map .d),vL AJ b] (Gx c a b) Km
 |0,a,b=>⟨fun _ _ _ h=>(by cases h),by intro r;kernel_rfl,by intro r y;kernel_rfl⟩
 |c+1,a,b=>ZWq (Gx c) (cm c) a b
abbrev jZ:Val→AV:=fun y=>.agg ((Ae y).map .d)
def yr(a:Scm)(b:ByteArray)(c:Val)(d:Val)(e:List Msk):PT 0 (Val):=wg<|wg<|wg<|cl (cm Ag d e) fun f=>cl (cA Ag a b c f) fun g=>wg<|lr jZ nG g
def dU(a:Scm)(b:ByteArray)(c:Val)(d:Val)(e:List Msk):Option (Val):=(yr a b c d e).m
theorem ZZb(a:Scm)(b:ByteArray)(c:Val)(d:Val)(e:List Msk):KC Tryz.prog 13 [.agg ((Am a).map .d),vS b,.agg ((Ae c).map .d),.agg ((Ae d).map .d),vL AJ e] (dU a b c d e) jZ:=kC Tryz.func13 Tryz.ntmps13 [.cell 10 35] fun co m L=>fO co m L
abbrev QM:Ad×Blk:=kk 4 35 7 [vI 0,.d (.int .u64 0),vS ⟨#[]⟩,.e0,.e0,.e0,.e0]
abbrev q8(a:Val):Ad×Blk:=kk 2 35 7 [vI a.kind,.d (.int .u64 a.bits),vS a.text,vL AW a.list,vL Aq a.pairs,.e0,vL Au a.raws]
abbrev Kn:Val→AV:=fun y=>.agg ((Ae y).map .d)
def Wy(a:Val)(c:List Msk):Nat×List Slt→St:=fun(d,b)=>Ac [(1,vL AJ c),pp 2,pp 4,(17,vL Ap a.slots),(18,vN a.slots.length),(19,vN d)] [kk 2 35 7 [vI a.kind,.d (.int .u64 a.bits),vS a.text,vL AW a.list,vL Aq a.pairs,.ref (1,1025) 0 0 b.length,vL Au a.raws],QM,kk 1025 58 8 (Ab Ap b)]
def vR(a:Val):List Slt→Nat×St:=fun b=>(0,Ac [pp 2,pp 4] [kk 2 35 7 [vI a.kind,.d (.int .u64 a.bits),vS a.text,vL AW a.list,vL Aq a.pairs,.ref (1,1025) 0 0 b.length,vL Au a.raws],QM,kk 1025 58 8 (Ab Ap b)])
def ZH(d:Val)(f:List Msk)(g:Val→(List Msk)→Option (Val))(c:Nat)(b:List Slt):PT 0 (Lv (Nat×List Slt) (List Slt) (Val)):=br (decide ((c:Int)<(d.slots.length:Int))) (ix d.slots c fun a=>wg<|wg<|cl (y9 f a.num) fun e=>wg<|wg<|AE e.2 (ZXg e.1) fun i=>wg<|br (e.2&&(i||(!decide (a.val.kind=(10:Int))))) (vs (wa c 1)<|vz (fl b)<|ln (Wy d f) (c+1,b)) (br e.2 (wg<|wg<|cs Tryz.prog 26 [.agg ((Ae a.val).map .d),vL AJ e.1.subs] [] [] (g a.val e.1.subs) (fun y=>.agg ((Ae y).map .d)) fun h=>wg<|wg<|wg<|vw .sep<|ap b ((.mk a.num h:Slt):Slt)<|wg<|vs (wa c 1)<|vz (fl (b++([(.mk a.num h:Slt)])))<|ln (Wy d f) (c+1,b++([(.mk a.num h:Slt)]))) (wg<|wg<|vw .sep<|ap b (a:Slt)<|wg<|vs (wa c 1)<|vz (fl (b++[a]))<|ln (Wy d f) (c+1,b++[a])))) (vz (fl b)<|Af (vR d) b)
def Ns(b:Val)(c:List Msk)(a:Val→(List Msk)→Option (Val)):Nat×List Slt→Option (Lv (Nat×List Slt) (List Slt) (Val)):=fun(e,d)=>(ZH b c a e d).m
def ah(a:Val)(b:List Slt):PT 0 (Val):=wg<|wg<|vz (fr b)<|lr Kn nG (.mk a.kind a.bits a.text a.list a.pairs b a.raws:Val)
def Zx(a:Val)(c:List Msk)(b:Val→(List Msk)→Option (Val)):PT 0 (Val):=vw (.adc (1,2) 5 1025 58 8)<|vz (fl ([]:List Slt))<|lc (Ac [(1,vL AJ c),pp 2,pp 4,(17,vL Ap a.slots),(18,vN a.slots.length),(19,vI 0)] [kk 2 35 7 [vI a.kind,.d (.int .u64 a.bits),vS a.text,vL AW a.list,vL Aq a.pairs,.ref (1,1025) 0 0 ([]:List Slt).length,vL Au a.raws],QM,kk 1025 58 8 (Ab Ap ([]:List Slt))]) ((Aj (Ns a c b) Ag (0,([]:List Slt))).bind (Sum.elim (fun d=>(ah a d).m) some))
def ZE(a:Val)(c:List Msk)(b:Val→(List Msk)→Option (Val)):PT 0 (Val):=vz (Ai a.slots)<|lc (Ac [(1,vL AJ c),pp 2,pp 4,(17,vL Ap a.slots),(18,vN a.slots.length),(19,vI 0)] [(q8 a),QM]) ((Zx a c b).m)
def aP(a:Val)(c:List Msk)(b:Val→(List Msk)→Option (Val)):PT 0 (Val):=wg<|br (!decide (a.kind=(10:Int))) (wg<|wg<|lr Kn nG a) (wg<|wg<|lc (Ac [(1,vL AJ c),pp 2,pp 4,(5,vL Ap a.slots)] [(q8 a),QM]) ((ZE a c b).m))
def L9(a:Val→(List Msk)→Option (Val))(b:Val)(c:List Msk):Option (Val):=(aP b c a).m
theorem ZId{C:Cx}(co:CO C 0)(a:Val)(c:List Msk)(b:Val→(List Msk)→Option (Val))(e:∀(a:Val) (c:List Msk),KC Tryz.prog 26 [.agg ((Ae a).map .d),vL AJ c] (b a c) Kn):KL Tryz.prog (As tl) 58 C (pa [0,0,1,0,1,1,1,1] (At Tryz.f26)) [.cell 4 35] 0 (Wy a c) (vR a) Kn nG (Ns a c b):=fun(l,k) _ m Q h j L=>eN co (Aa [1,2,4,17,18,19] Me) (Aa [2,4] Me) j m L fun r g=>⟨fun d=>fun f=>fun n=>⟨id,⟨⟨fun y hy i _ _=>by rw[(e d.val f.1.subs).x,(e d.val f.1.subs).e];exact(e d.val f.1.subs).k _ i y hy,fun o=>id⟩,id⟩⟩,id⟩
theorem ZV1(a:Val→(List Msk)→Option (Val))(d:∀(b:Val) (c:List Msk),KC Tryz.prog 26 [.agg ((Ae b).map .d),vL AJ c] (a b c) Kn)(b:Val)(c:List Msk):KC Tryz.prog 26 [.agg ((Ae b).map .d),vL AJ c] (L9 a b c) Kn:=kC Tryz.func26 Tryz.ntmps26 [.cell 4 35] fun co m L=>mJ co 4 (Aa [1,2,4,5] CH) nl nH m L fun r g=>⟨id,fun _ m L=>sq (mJ co 1 (Aa [1,2,4,17,18,19] CH) nl nH m L fun r g=>fun _ m L=>bk 0 (cM co (Aa [1,2,4,17,18,19] Me) m L fun r g=>fun _ m L=>lo (Ax (ZId co b c a d) nH m L (fun e m=>fO co m L))))⟩
def Gz:Nat→Val→(List Msk)→Option (Val)
 |0=>fun _ _=>none
 |a+1=>L9 (Gz a)
theorem zY:∀(c:Nat) (a:Val) (b:List Msk),KC Tryz.prog 26 [.agg ((Ae a).map .d),vL AJ b] (Gz c a b) Kn
 |0,a,b=>⟨fun _ _ _ h=>(by cases h),by intro r;kernel_rfl,by intro r y;kernel_rfl⟩
 |c+1,a,b=>ZV1 (Gz c) (zY c) a b
abbrev j4:Val→AV:=fun y=>.agg ((Ae y).map .d)
def ye(b:Scm)(c:ByteArray)(d:Val)(e:Val)(a:List Msk):PT 0 (Val):=wg<|wg<|cl (zY Ag d a) fun f=>wg<|cl (dk Ag e a) fun g=>cl (SC Ag b c f g) fun h=>wg<|lr j4 nG h
def eS(a:Scm)(b:ByteArray)(c:Val)(d:Val)(e:List Msk):Option (Val):=(ye a b c d e).m
theorem ZYY(a:Scm)(b:ByteArray)(c:Val)(d:Val)(e:List Msk):KC Tryz.prog 14 [.agg ((Am a).map .d),vS b,.agg ((Ae c).map .d),.agg ((Ae d).map .d),vL AJ e] (eS a b c d e) j4:=kC Tryz.func14 Tryz.ntmps14 [.cell 10 35] fun co m L=>fO co m L
abbrev QB:Ad×Blk:=kk 4 35 7 [vI 0,.d (.int .u64 0),vS ⟨#[]⟩,.e0,.e0,.e0,.e0]
abbrev Wl(a:Val):Ad×Blk:=kk 2 35 7 (cD (Ae a))
abbrev re(a:Val):Ad×Blk:=kk 5 35 7 [vI 10,.d (.int .u64 0),vS ⟨#[]⟩,.e0,.e0,.e0,vL Au a.raws]
abbrev Ko:Val→AV:=fun y=>.agg ((Ae y).map .d)
def QY(a:Val)(c:List Msk):Nat×List Slt→St:=fun(d,b)=>Ac [(1,vL AJ c),pp 2,pp 4,pp 5,(6,vN d)] [(Wl a),QB,kk 5 35 7 [vI 10,.d (.int .u64 0),vS ⟨#[]⟩,.e0,.e0,.ref (1,1055) 0 0 b.length,vL Au a.raws],kk 1055 58 8 (Ab Ap b)]
def vW(b:Val):List Slt→Nat×St:=fun a=>(0,Ac [pp 4,pp 5] [QB,kk 5 35 7 [vI 10,.d (.int .u64 0),vS ⟨#[]⟩,.e0,.e0,.ref (1,1055) 0 0 a.length,vL Au b.raws],kk 1055 58 8 (Ab Ap a)])
def Z9(e:Val)(f:List Msk)(g:Val→(List Msk)→Option (Val))(d:Nat)(b:List Slt):PT 0 (Lv (Nat×List Slt) (List Slt) (Val)):=wg<|vz (Ai e.slots)<|br (decide ((d:Int)<(e.slots.length:Int))) (wg<|ix e.slots d fun a=>wg<|wg<|cl (y3 f a.num) fun c=>wg<|wg<|vy c.2 (Ai c.1.subs)<|wg<|br ((c.2&&decide ((0:Int)<(c.1.subs.length:Int)))&&decide (a.val.kind=(10:Int))) (wg<|wg<|cs Tryz.prog 27 [.agg ((Ae a.val).map .d),vL AJ c.1.subs] [] [] (g a.val c.1.subs) (fun y=>.agg ((Ae y).map .d)) fun h=>wg<|br (((c.2&&decide ((0:Int)<(c.1.subs.length:Int)))&&decide (a.val.kind=(10:Int)))||(!c.2)) (wg<|wg<|vw .sep<|ap b ((.mk a.num h:Slt):Slt)<|wg<|vs (wa d 1)<|vz (fl (b++([(.mk a.num h:Slt)])))<|ln (QY e f) (d+1,b++([(.mk a.num h:Slt)]))) (vs (wa d 1)<|vz (fl b)<|ln (QY e f) (d+1,b))) (br (((c.2&&decide ((0:Int)<(c.1.subs.length:Int)))&&decide (a.val.kind=(10:Int)))||(!c.2)) (wg<|wg<|vw .sep<|ap b (a:Slt)<|wg<|vs (wa d 1)<|vz (fl (b++[a]))<|ln (QY e f) (d+1,b++[a])) (vs (wa d 1)<|vz (fl b)<|ln (QY e f) (d+1,b)))) (vz (fl b)<|Af (vW e) b)
def NM(b:Val)(c:List Msk)(a:Val→(List Msk)→Option (Val)):Nat×List Slt→Option (Lv (Nat×List Slt) (List Slt) (Val)):=fun(e,d)=>(Z9 b c a e d).m
def ZV(b:Val)(a:List Slt):PT 0 (Val):=wg<|wg<|vz (fr a)<|lr Ko nG (.mk 10 0 ⟨#[]⟩ [] [] a b.raws:Val)
def aO(a:Val)(c:List Msk)(b:Val→(List Msk)→Option (Val)):PT 0 (Val):=vw (.adc (1,5) 5 1055 58 8)<|vz (fl ([]:List Slt))<|lc (Ac [(1,vL AJ c),pp 2,pp 4,pp 5,(6,vI 0)] [(Wl a),QB,kk 5 35 7 [vI 10,.d (.int .u64 0),vS ⟨#[]⟩,.e0,.e0,.ref (1,1055) 0 0 ([]:List Slt).length,vL Au a.raws],kk 1055 58 8 (Ab Ap ([]:List Slt))]) ((Aj (NM a c b) Ag (0,([]:List Slt))).bind (Sum.elim (fun d=>(ZV a d).m) some))
def Z3(b:Val)(c:List Msk)(a:Val→(List Msk)→Option (Val)):PT 0 (Val):=lc (Ac [(1,vL AJ c),pp 2,pp 4,pp 5,(6,vI 0)] [(Wl b),QB,(re b)]) ((aO b c a).m)
def Zg(a:Val)(c:List Msk)(b:Val→(List Msk)→Option (Val)):PT 0 (Val):=wg<|br (!decide (a.kind=(10:Int))) (wg<|wg<|lr Ko nG a) (wg<|wg<|lc (Ac [(1,vL AJ c),pp 2,pp 4,pp 5] [(Wl a),QB,(re a)]) ((Z3 a c b).m))
def Ma(a:Val→(List Msk)→Option (Val))(b:Val)(c:List Msk):Option (Val):=(Zg b c a).m
theorem ZEY{C:Cx}(co:CO C 0)(a:Val)(c:List Msk)(b:Val→(List Msk)→Option (Val))(e:∀(a:Val) (c:List Msk),KC Tryz.prog 27 [.agg ((Ae a).map .d),vL AJ c] (b a c) Ko):KL Tryz.prog (As tl) 69 C (pa [0,0,1,0,1,1,1] (At Tryz.f27)) [.cell 4 35] 0 (QY a c) (vW a) Ko nG (NM a c b):=fun(l,k) _ m Q h j L=>eN co (Aa [1,2,4,5,6] S9) (Aa [4,5] [((1,4),false),((1,5),false),((1,1055),true)]) j m L fun r g=>⟨fun d=>fun f=>⟨⟨fun y hy i _ _=>by rw[(e d.val f.1.subs).x,(e d.val f.1.subs).e];exact(e d.val f.1.subs).k _ i y hy,fun n=>⟨id,id⟩⟩,⟨id,id⟩⟩,id⟩
theorem ZT2(a:Val→(List Msk)→Option (Val))(d:∀(b:Val) (c:List Msk),KC Tryz.prog 27 [.agg ((Ae b).map .d),vL AJ c] (a b c) Ko)(b:Val)(c:List Msk):KC Tryz.prog 27 [.agg ((Ae b).map .d),vL AJ c] (Ma a b c) Ko:=kC Tryz.func27 Tryz.ntmps27 [.cell 4 35] fun co m L=>mJ co 3 (Aa [1,2,4,5] SE) nl nH m L fun r g=>⟨id,fun _ m L=>sq (mJ co 1 (Aa [1,2,4,5,6] SE) nl nH m L fun r g=>fun _ m L=>bk 0 (cM co (Aa [1,2,4,5,6] S9) m L fun r g=>fun _ m L=>lo (Ax (ZEY co b c a d) nH m L (fun e m=>fO co m L))))⟩
def Gw:Nat→Val→(List Msk)→Option (Val)
 |0=>fun _ _=>none
 |a+1=>Ma (Gw a)
theorem z2:∀(c:Nat) (a:Val) (b:List Msk),KC Tryz.prog 27 [.agg ((Ae a).map .d),vL AJ b] (Gw c a b) Ko
 |0,a,b=>⟨fun _ _ _ h=>(by cases h),by intro r;kernel_rfl,by intro r y;kernel_rfl⟩
 |c+1,a,b=>ZT2 (Gw c) (z2 c) a b
abbrev j5:Val→AV:=fun y=>.agg ((Ae y).map .d)
def uK(b:Scm)(c:ByteArray)(d:Val)(e:Val)(a:List Msk):PT 0 (Val):=wg<|wg<|cl (z2 Ag d a) fun f=>wg<|cl (cm Ag e a) fun g=>cl (cA Ag b c f g) fun h=>wg<|lr j5 nG h
def em(a:Scm)(b:ByteArray)(c:Val)(d:Val)(e:List Msk):Option (Val):=(uK a b c d e).m
theorem ZYO(a:Scm)(b:ByteArray)(c:Val)(d:Val)(e:List Msk):KC Tryz.prog 15 [.agg ((Am a).map .d),vS b,.agg ((Ae c).map .d),.agg ((Ae d).map .d),vL AJ e] (em a b c d e) j5:=kC Tryz.func15 Tryz.ntmps15 [.cell 10 35] fun co m L=>fO co m L
abbrev E4:Bool→AV:=fun y=>vB y
def zK(a:Scm)(b:ByteArray)(c:Val)(d:Val)(e:List Msk):PT 0 (Bool):=wg<|cl (K_5 a) fun g=>wg<|wg<|AE (!(!g)) (kK a b c) fun j=>wg<|wg<|AE (!((!g)||(!j))) (kK a b d) fun k=>wg<|AE (!(((!g)||(!j))||(!k))) (ZXU Ag a b e) fun l=>br ((((!g)||(!j))||(!k))||(!decide (l=(0:Int)))) (cl (kJ) fun m=>lr E4 nG m) (wg<|wg<|wg<|cl (ZYZ a b c d e) fun n=>wg<|wg<|wg<|cl (ZZb a b c d e) fun o=>cl (RR Ag n o) fun p=>br (!p) (lr E4 nG false) (wg<|wg<|wg<|cl (ZYY a b c d e) fun q=>wg<|wg<|wg<|cl (ZYO a b c d e) fun h=>cl (RR Ag q h) fun f=>AE f (kJ) fun i=>lr E4 nG (f&&i)))
def dD(a:Scm)(b:ByteArray)(c:Val)(d:Val)(e:List Msk):Option (Bool):=(zK a b c d e).m
theorem K_4(a:Scm)(b:ByteArray)(c:Val)(d:Val)(e:List Msk):KC Tryz.prog 4 [.agg ((Am a).map .d),vS b,.agg ((Ae c).map .d),.agg ((Ae d).map .d),vL AJ e] (dD a b c d e) E4:=kC Tryz.func4 Tryz.ntmps4 [.tmp 10] fun co m L=>fO co m L
end Go.Proofs.YtbcmdieedjamgaaGreat
namespace Go.Proofs.YtbcmdieedjamgaaGreat
set_option linter.all false
open Go Go.Eng
end Go.Proofs.YtbcmdieedjamgaaGreat
namespace Go.Proofs.YtbcmdieedjamgaaGreat
set_option linter.all false
open Go Go.Eng Go.ChangeShapes Go.WideShapes Go.ChangeAt Go.RowKit
theorem ZnJ{H:Type}(b:List UInt8):Rows.uptoBulk (DataW.lit (H:=H) (.string b))=b.length+1:=by simp only[Rows.uptoBulk]
theorem Zpp{H:Type}(a b:List (DataW H)):Rows.uptoBulk (.slice a b)=Rows.uptoBulkAll a+Rows.uptoBulkAll b+1:=by simp only[Rows.uptoBulk]
theorem Zzu{H:Type}(a:List (DataW H)):Rows.uptoBulk (.agg a)=Rows.uptoBulkAll a+1:=by simp only[Rows.uptoBulk]
def JY(W:World)(ds:List D)(cs:List Value)(o:Nat):Prop:=∀(i:Nat) (d:D),ds[i]?=some d→∃c,cs[o+i]?=some c∧RepD W (· <W.heap.size) d c
def Lz(W:World)(ds:List D)(cs:List Value):Prop:=ds.length=cs.length∧JY W ds cs 0
theorem JY.app{W:World}{ds a:List D}{cs:List Value}{o:Nat}(h:JY W ds cs o)(k:JY W a cs (o+ds.length)):JY W (ds++a) cs o:=fun i d hi=>by
 rcases YF i ds.length with hl|hl
 ·rw[Ys hl]at hi;exact h i d hi
 ·rw[YC hl]at hi
  obtain⟨c,b,e⟩:=k _ d hi
  grind
theorem JY.nil{W:World}{cs:List Value}{o:Nat}:JY W [] cs o:=fun i d h=>by simp at h
theorem Lz.at{W:World}{ds:List D}{cs:List Value}{o k:Nat}(h:Lz W ds ((cs.drop o).take k)):JY W ds cs o:=fun i d hi=>by
 obtain⟨c,a,b⟩:=h.2 i d hi
 grind
def rk(k:IntKind)(n:Int):Nat:=if Lit.wf (.int k n)=true then 0 else 1000000000000
theorem sZ{k:IntKind}{n:Int}(h:rk k n≤1048576):k.min≤n∧n≤k.max:=by
 unfold rk at h
 split at h
 ·rename_i a
  unfold Lit.wf at a
  rw[Yd]at a
  exact⟨Y1 a.1,Y1 a.2⟩
 ·omega
mutual
def bk:D→Nat
 |.int k n=>rk k n
 |.bool _=>0
 |.str s=>s.size
 |.list a=>AB a
 |.map _ a=>AB a
def An:List D→Nat
 |[]=>0
 |d::l=>bk d+An l
def AB:List (List D)→Nat
 |[]=>0
 |e::l=>An e+1+AB l
end
theorem M6:∀a b:List D,An (a++b)=An a+An b
 |[],b=>by rw[Gt,An,YP]
 |d::a,b=>by rw[HR,An,An,M6 a b,YI]
theorem Ux(d:D):An [d]=bk d:=by rw[An,An,G8]
theorem Cr{α:Type}{e:α→List D}:∀l:List α,l.length≤AB (l.map e)
 |[]=>Cj _
 |x::l=>by have:=Cr (e:=e) l;rw[YT,AB,E1];omega
theorem CF{α:Type}{e:α→List D}{x:α}:∀{l:List α},x∈l→An (e x)+1≤AB (l.map e)
 |y::l,h=>by
  rw[YT,AB]
  cases Yx.1 h with
  |inl h=>subst h;omega
  |inr h=>have:=CF (e:=e) h;omega
section
variable {H:Type} (enc:TypeId×Value→H) (P:Program) (W:World)
def B2{α:Type}(n:Nat)(t:TypeId)(e:α→List D):Prop:=
 ∀cs x,DataW.trod enc P W 0 (fun _=>true) true n t cs=some x→∃v:α,Lz W (e v) cs∧An (e v)+1≤Rows.uptoBulk x.1
end
section
variable {H:Type} {enc:TypeId×Value→H} {P:Program} {W:World} {n:Nat} {t:TypeId}
theorem fT(d:DataW H):1≤Rows.uptoBulk d:=by cases d<;>(try (rename_i l;cases l))<;>simp[Rows.uptoBulk]
theorem PB{d:D}{c:Value}(h:RepD W (· <W.heap.size) d c):Lz W [d] [c]:=⟨rfl,fun i d' hi=>by
 cases i with
 |zero=>cases hi;exact⟨c,rfl,h⟩
 |succ i=>simp at hi⟩
theorem Ef{k:IntKind}(a:P.underlying t=some (.int k)):B2 enc P W n t (fun v:Int=>[.int k v]):=fun cs x hx=>by
 obtain⟨m,rfl,rfl,b⟩:=DataW.trod_int a hx
 refine⟨m,PB (.int _ _),?_⟩
 rw[Ux,bk,rk,Yj b]
 exact fT _
theorem Zq7(a:P.underlying t=some .bool):B2 enc P W n t (fun v:Bool=>[.bool v]):=fun cs x hx=>by
 obtain⟨m,rfl,rfl⟩:=DataW.trod_bool a hx
 exact⟨m,PB (.bool _),fT _⟩
theorem EG(a:P.underlying t=some .string):B2 enc P W n t (fun v:ByteArray=>[.str v]):=fun cs x hx=>by
 obtain⟨m,rfl,rfl,_⟩:=DataW.trod_string a hx
 refine⟨m,PB (.str _),?_⟩
 rw[ZnJ,Ux]
 exact Yf _
theorem pM{α:Type}{e:α→List D}:∀(l:List α) (xs:List (DataW H×List MemPlace)),l.length=xs.length→(∀(i:Nat) (v:α),l[i]?=some v→∃y:DataW H×List MemPlace,xs[i]?=some y∧An (e v)+1≤Rows.uptoBulk y.1)→AB (l.map e)≤Rows.uptoBulkAll (xs.map (·.1))
 |[],_,_,_=>Cj _
 |x::l,[],h,_=>by cases h
 |x::l,y::xs,h,k=>by
  have:=pM l xs (XV h) (fun i v hi=>k (i+1) v hi)
  obtain⟨c,a,b⟩:=k 0 x rfl
  cases a
  rw[YT,YT,AB]
  simp only[Rows.uptoBulkAll]
  omega
theorem ZuD{α:Type}{Q:Nat→α→Prop}:∀(len:Nat),(∀i,i<len→∃v,Q i v)→∃l:List α,l.length=len∧∀i v,l[i]?=some v→Q i v
 |0,_=>⟨[],rfl,fun i v h=>by simp at h⟩
 |len+1,h=>by
  obtain⟨l,a,b⟩:=ZuD len (fun i hi=>h i (by omega))
  obtain⟨v,c⟩:=h len (by omega)
  refine⟨l++[v],by simp[a],fun i w hi=>?_⟩
  grind
theorem CM{α:Type}{e:TypeId}{b:α→List D}{sz:Nat}(X:P.underlying t=some (.slice e))(E:P.cellsOf e=sz)(V:sz≠0)(hl:∀x,(b x).length=sz)(h:∀m,m<n→B2 enc P W m e b):
  B2 enc P W n t (fun l:List α=>[.list (l.map b)]):=fun cs x hx=>by
 rcases DataW.trod_slice X hx with⟨rfl,rfl⟩|⟨a,len,cap,g,J,m,rfl,rfl,rfl,Z,z,T,U,hi,_,_⟩
 ·exact⟨[],PB .nil,fT _⟩
 ·have k:∀i,i<len→∃v:α,∃y f,g[i]?=some y∧W.cells? 0 (a.add (i*sz)) sz=some f∧Lz W (b v) f∧An (b v)+1≤Rows.uptoBulk y.1:=fun i B=>by
   have I:=hi i B
   rw[Yc (by omega),E]at I
   obtain⟨f,N,O⟩:=kY.1 I
   obtain⟨v,Q,R⟩:=h m (by omega) f _ O
   exact⟨v,_,f,Yc (by omega),N,Q,R⟩
  obtain⟨l,A,r⟩:=ZuD len k
  have cell:∀(i j:Nat) (e':List D) (x:D),(l.map b)[i]?=some e'→e'[j]?=some x→∃c,W.cell? (a.add (i*sz+j))=some c∧RepD W (· <W.heap.size) x c:=fun i j e' x d o=>by
   rw[YR]at d
   cases s:l[i]? with
   |none=>rw[s]at d;cases d
   |some v=>
    rw[s]at d
    cases d
    obtain⟨y,f,p,q,F,G⟩:=r i v s
    obtain⟨c,H,K⟩:=F.2 j x o
    rw[YP]at H
    obtain⟨_,Y,L⟩:=World.cells?_some q
    have u:j<sz:=by
     rw[←hl v]
     rcases YF j (b v).length with h|h
     ·exact h
     ·rw[YM h]at o;cases o
    refine⟨c,?_,K⟩
    rw[←Go.Eng.add_add,L j u,H]
  refine⟨l,PB ?_,?_⟩
  ·have hlen:(l.map b).length=len:=by simp[A]
   have:=RepD.list (w:=W) (S:=(· <W.heap.size)) (l.map b) a sz cap (fun i j=>(W.cell? (a.add (i*sz+j))).getD undef) (fun C=>by
     have M:0<len:=by
      rcases Xy len with h|h
      ·exact absurd (Jb (hlen.trans h)) C
      ·exact h
     obtain⟨v,y,f,_,q,_⟩:=k 0 M
     have:=World.cells?_block q (by omega)
     rw[Ky]at this
     rw[←Go.Eng.block_add a 0];exact this)
    (by rw[hlen];exact z) (fun e' he=>by obtain⟨y,_,rfl⟩:=YX.1 he;exact hl y)
    (fun i j e' x d o=>by obtain⟨c,p,_⟩:=cell i j e' x d o;rw[p];rfl)
    (fun i j e' x d o=>by obtain⟨c,p,q⟩:=cell i j e' x d o;rw[p];exact q)
   rw[hlen]at this
   exact this
  ·rw[Zpp,Ux,bk]
   have:=pM (e:=b) l g (by omega) (fun i v s=>by
    obtain⟨y,f,p,q,F,G⟩:=r i v s
    exact⟨y,p,G⟩)
   omega
def FB(xs:List (DataW H×List MemPlace))(i:Nat):Nat:=Rows.uptoBulkAll ((xs.drop i).map (·.1))
theorem Bl{xs:List (DataW H×List MemPlace)}{i:Nat}{a b:List D}(h:An a+1+FB xs (i+1)≤FB xs i)(k:An b≤FB xs (i+1)):An (a++b)≤FB xs i:=by
 rw[M6];omega
theorem Eg{xs:List (DataW H×List MemPlace)}{i:Nat}{a:List D}(h:An a+1+FB xs (i+1)≤FB xs i):An a≤FB xs i:=by omega
theorem Ee{xs:List (DataW H×List MemPlace)}{a:List D}(h:An a≤FB xs 0):An a+1≤Rows.uptoBulk (.agg (xs.map (·.1))):=by
 rw[Zzu];exact Nat.succ_le_succ h
theorem Zw1{α:Type}{e:α→List D}{m i:Nat}{c:TypeId}{a:List Value}{xs:List (DataW H×List MemPlace)}(h:B2 enc P W m c e)(b:DataW.trod enc P W 0 (fun _=>true) true m c a=xs[i]?)(hi:i<xs.length):
  ∃v,Lz W (e v) a∧An (e v)+1+FB xs (i+1)≤FB xs i:=by
 rw[Yc hi]at b
 obtain⟨v,d,f⟩:=h _ _ b
 refine⟨v,d,?_⟩
 unfold FB
 rw[HS hi,YT]
 simp only[Rows.uptoBulkAll]
 omega
theorem rf{α:Type}{e:α→List D}{m i k:Nat}{b:TypeId}{a:List Value}{xs:List (DataW H×List MemPlace)}(h:B2 enc P W m b e)(c:DataW.trod enc P W 0 (fun _=>true) true m b a=xs[i]?)(hx:xs.length=k)(hi:Nat.blt i k=true:=by kernel_rfl):
  ∃v,Lz W (e v) a∧An (e v)+1+FB xs (i+1)≤FB xs i:=Zw1 h c (by rw[hx];exact Yh hi)
theorem Ql{α:Type}{e e':α→List D}(he:∀x,e x=e' x)(h:B2 enc P W n t e'):B2 enc P W n t e:=fun cs x hx=>by
 obtain⟨v,a,b⟩:=h cs x hx
 grind
theorem gx{α:Type}{e:α→List D}{q:Array Field}{r:Reach}{b:Nat}{v:Value}{d:DataW H}{p:List MemPlace}(rd:∀n,B2 enc P W n t e)(w:P.underlying t=some (.struct q))(z:Value.okWide P W r b t v)
  (h:DataW.Trod enc P W 0 (fun _=>true) true t v d p):∃x:α,(∀m l,RepA W (· <W.heap.size) (fun _=>⟨0,false,0,0,[]⟩) m l (.agg ((e x).map .d)) v)∧An (e x)+1≤Rows.uptoBulk d:=by
 obtain⟨cs,rfl,_⟩:=okWide_struct w z
 obtain⟨n,u⟩:=h
 obtain⟨x,k,s⟩:=rd n _ _ u
 have hl:(e x).length=cs.size:=by rw[k.1];simp[Value.cells]
 have key:∀(i:Nat) (c:Value),cs[i]?=some c→∃d,(e x)[i]?=some d∧RepD W (· <W.heap.size) d c:=fun i c f=>by
  have g:i<(e x).length:=by
   grind
  obtain⟨j,a,o⟩:=k.2 i _ (Yc g)
  have:j=c:=by
   rw[YP]at a
   have:cs.toList[i]?=some j:=a
   grind
  grind
 refine⟨x,fun m l=>.agg _ _ (by rw[YG,hl]) (fun i c f=>?_) (fun i y c hy f=>?_),s⟩
 ·obtain⟨d,_,a⟩:=key i c f;exact a.one
 ·obtain⟨d,a,o⟩:=key i c f
  rw[YR,a]at hy
  cases hy
  exact .d _ _ o
theorem ZE6{r:Reach}{a:Nat}{v:Value}{d:DataW H}{p:List MemPlace}(e:P.underlying t=some .string)(g:Value.okWide P W r a t v)(h:DataW.Trod enc P W 0 (fun _=>true) true t v d p):
  ∃x:ByteArray,(∀S Hp m l,RepA W S Hp m l (.d (.str x)) v)∧x.size+1≤Rows.uptoBulk d:=by
 obtain⟨x,rfl⟩:=okWide_string e g
 obtain⟨n,f⟩:=h
 obtain⟨s,b,c,_⟩:=DataW.trod_string e f
 have b:x=s:=by simpa[Value.cells]using b
 subst b
 have c:d=.lit (.string x.data.toList):=congrArg Prod.fst c
 subst c
 refine⟨x,fun _ _ _ _=>.d _ _ (.str _),?_⟩
 rw[ZnJ]
 exact Yf _
theorem Zuc{α:Type}{e:α→List D}{u:TypeId}{r:Reach}{b:Nat}{v:Value}{d:DataW H}{p:List MemPlace}(rd:∀n,B2 enc P W n t (fun l:List α=>[.list (l.map e)]))(o:P.underlying t=some (.slice u))(q:Value.okWide P W r b t v)
  (h:DataW.Trod enc P W 0 (fun _=>true) true t v d p):∃x:List α,(∀Hp m l,RepA W (· <W.heap.size) Hp m l (.d (.list (x.map e))) v)∧bk (.list (x.map e))+1≤Rows.uptoBulk d:=by
 obtain⟨a,len,cap,rfl⟩:=okWide_slice o q
 obtain⟨n,k⟩:=h
 obtain⟨x,f,g⟩:=rd n _ _ k
 obtain⟨c,i,j⟩:=f.2 0 _ rfl
 have:c=.slice a len cap:=by simpa[Value.cells]using i.symm
 subst this
 exact⟨x,fun _ _ _=>.d _ _ j,by rw[←Ux];exact g⟩
def kI:Hp:=fun _=>⟨0,false,0,0,[]⟩
theorem ok0(m:Mu):Ok 0 kI m (· <W.heap.size) W:=⟨fun _ h=>h,fun _ _ h=>(by cases h),fun _ _ h=>(by cases h),fun _ _ _ _ h=>(by cases h),fun _ _ h=>(by cases h),⟨fun _ _ h=>(by cases h),fun _ _ h=>(by cases h),fun _ _ _ _ h=>(by cases h)⟩⟩
def zh(w:World)(S:Nat→Prop)(Hp:Hp)(m:Mu)(l:Nat):List AV→List Value→Prop
 |[],[]=>True
 |x::xs,v::vs=>RepA w S Hp m l x v∧zh w S Hp m l xs vs
 |_,_=>False
theorem ZH6{w:World}{S:Nat→Prop}{Hp:Hp}{m:Mu}{l:Nat}{xs:List AV}{vs:List Value}(h:zh w S Hp m l xs vs):Lm w S Hp m l xs vs.toArray:=by
 suffices b:xs.length=vs.length∧∀(i:Nat) (x:AV) (v:Value),xs[i]?=some x→vs[i]?=some v→RepA w S Hp m l x v by
  exact⟨by simpa using b.1,fun i x v hx e=>b.2 i x v hx (by simpa using e)⟩
 induction xs generalizing vs with
 |nil=>cases vs with
  |nil=>exact⟨rfl,fun i x v h=>by simp at h⟩
  |cons _ _=>exact h.elim
 |cons x xs f=>cases vs with
  |nil=>exact h.elim
  |cons v vs=>
   obtain⟨c,d⟩:=f h.2
   refine⟨by simp[c],fun i y u hy a=>?_⟩
   cases i with
   |zero=>simp at hy a;subst hy;subst a;exact h.1
   |succ i=>exact d i y u (by simpa using hy) (by simpa using a)
theorem ZuL{f:Func}{s:ChangeSpec}{r:World}{args:Array Value}{ds A:List (DataW H)}{e:List MemPlace}{u:TypeId}(C:DataW.Whole enc P f.params.toList s.vars false W args.toList ds A e)(c:s.vars=[])
  (k:laidOutB P=true) (z:∀t∈f.params.toList,P.readableRec t=true∧t<P.types.size) (g:f.resultTypes.toList=[u]) (L:P.underlying u=some .bool)
  (j:s.fn H (ds++A)={results:=[.lit (.bool true)],args:=ds }) (n:Below W.heap.size W r):s.post enc P f false true false false W args (.bool true) r:=by
 obtain⟨p,q,G,B,rfl,I,J⟩:=id C
 rw[c]at B
 obtain⟨rfl,rfl⟩:=trodVars_none B
 refine⟨ds,[],p++[],[],p,[],C,?_,?_,?_,?_,fun h=>by cases h⟩
 ·rw[j,g]
  have:(Value.bool true).resultList f.resultTypes.size=[.bool true]:=by
   have:f.resultTypes.size=1:=by rw[←HP,g];rfl
   rw[this];rfl
  rw[this]
  exact trodAll_cons_mk (shut_bool L _) trodAll_mk0
 ·rw[j]
  have key:∀(l:List TypeId) (vs:List Value) (m:List (DataW H)) (ps:List MemPlace),(∀t∈l,P.readableRec t=true∧t<P.types.size)→DataW.TrodAll enc P W 0 (fun _=>true) true l vs m ps→
    DataW.TrodAll enc P r 0 (fun b=>decide (b<W.heap.size)) true l vs m ps:=by
   intro l
   induction l with
   |nil=>intro vs m ps _ h;obtain⟨rfl,rfl,rfl⟩:=trodAll_nil h;exact trodAll_mk0
   |cons t l M=>
    intro vs m ps y h
    have w:=DataW.TrodAll.lt h
    obtain⟨v,N,d,D,a,b,rfl,rfl,rfl,E,F⟩:=trodAll_cons h
    exact trodAll_cons_mk (Below.trod k (y t (by simp)).1 (y t (by simp)).2 E n (fun x hx=>w x (HO _ hx))) (M _ _ _ (fun t K=>y t (by simp[K])) F)
  exact key _ _ _ _ z G
 ·rw[c,j];exact rfl
 ·refine⟨n.os,n.output,fun i hi=>?_⟩
  rw[n.block i hi]
  cases W.heap[i]? with
  |none=>rfl
  |some o=>cases o<;>simp
end
end Go.Proofs.YtbcmdieedjamgaaGreat
