import Derived.Test.YtbcmdieedjamgaaGreatZe19
import Derived.Test.YtbcmdieedjamgaaGreatZe08
import Derived.Test.YtbcmdieedjamgaaGreatZe07
import Derived.Test.YtbcmdieedjamgaaGreatRows
import Derived.WalkKit
import Derived.ProofKit
import Derived.OpenShut
import Derived.Carry
import Derived.Deep.DeepHandedRow
import Derived.Test.YtbcmdieedjamgaaGreatZe10
import Derived.Test.YtbcmdieedjamgaaGreatZe00
namespace Go.Proofs.YtbcmdieedjamgaaGreat
set_option maxRecDepth 100000
set_option linter.all false
open Go Go.Eng
abbrev Mb:List (Ad×Bool):=[((1,6),false),((1,7),false),((1,8),false),((1,9),false),((1,11),false),((1,1115),true)]
abbrev yo:List (Ad×Bool):=[((1,4),false),((1,6),false),((1,7),false),((1,8),false),((1,9),false),((1,11),false)]
abbrev Ik:Ad×Blk:=kk 8 35 7 [vI 0,.d (.int .u64 0),vS ⟨#[]⟩,.e0,.e0,.e0,.e0]
abbrev JP(a:Val):Ad×Blk:=kk 6 35 7 (cD (Ae a))
abbrev JM(a:Val):Ad×Blk:=kk 7 35 7 (cD (Ae a))
abbrev JL(a:Msg×Bool):Ad×Blk:=kk 9 56 5 (cD (AK a.1))
abbrev Zd(a:List Slt)(b:List Raw):Ad×Blk:=kk 11 35 7 [vI 10,.d (.int .u64 0),vS ⟨#[]⟩,.e0,.e0,.ref (1,1115) 0 0 a.length,vL Av b]
abbrev pc(a:Scm):Ad×Blk:=kk 4 26 3 (cD (Al a))
abbrev s4(a:List Raw):Ad×Blk:=kk 11 35 7 [vI 10,.d (.int .u64 0),vS ⟨#[]⟩,.e0,.e0,.e0,vL Av a]
def ZS0:Pl:=(.opt [1,8] 1 (.fst 8 (.fst 9 (.fst 10 (.fst 11 (.fst 12 (.fst 13 .nil)))))) (.opt [1,8] 8 (.fst 9 (.fst 1 (.fst 10 (.fst 11 (.fst 12 (.fst 13 .nil)))))) .nil))
def ZTZ:Pl:=(.opt [3,8] 3 (.fst 8 (.fst 9 (.fst 10 (.fst 11 (.fst 12 (.fst 13 .nil)))))) (.opt [3,8] 8 (.fst 3 (.fst 9 (.fst 10 (.fst 11 (.fst 12 (.fst 13 .nil)))))) .nil))
def ZS9:Pl:=(.opt [1,3,8] 1 ZTZ (.opt [1,3,8] 3 ZS0 (.opt [1,3,8] 8 (.fst 1 (.fst 3 (.fst 9 (.fst 10 (.fst 11 (.fst 12 (.fst 13 .nil))))))) .nil)))
def XN(b:Scm)(c:Val)(d:Val)(e:Msg×Bool)(f:List Raw):Nat×List Slt→St:=fun(v3,a)=>Ac [(4,.iptr (Al b) 0),pp 6,pp 7,pp 8,pp 9,pp 11,(12,vN v3)] [(JP c),(JM d),Ik,(JL e),(Zd a f),kk 1115 58 8 (Aa Aq a)]
def ts(b:List Raw):List Slt→Nat×St:=fun a=>(0,Ac [pp 8,pp 11] [Ik,kk 11 35 7 [vI 10,.d (.int .u64 0),vS ⟨#[]⟩,.e0,.e0,.ref (1,1115) 0 0 a.length,vL Av b],kk 1115 58 8 (Aa Aq a)])
def ZT(d:Scm)(e:Val)(f:Val)(g:Msg×Bool)(h:List Raw)(v3:Nat)(b:List Slt)(a:Fld)(c:Val):PT 0 (Lv (Nat×List Slt) (List Slt) (Val)):=vs (wa v3 1)<|vz (fl (b++([(.mk a.num c:Slt)])))<|ln (XN d e f g h) (v3+1,b++([(.mk a.num c:Slt)]))
def JO(d:Scm)(e:Val)(f:Val)(g:Msg×Bool)(h:List Raw)(v3:Nat)(b:List Slt)(a:Fld)(c:Val):PT 0 (Lv (Nat×List Slt) (List Slt) (Val)):=vz (fl (b++([(.mk a.num c:Slt)])))<|lc (Ac [(4,.iptr (Al d) 0),pp 6,pp 7,pp 8,pp 9,pp 11,(12,vN v3)] [(JP e),(JM f),Ik,(JL g),kk 11 35 7 [vI 10,.d (.int .u64 0),vS ⟨#[]⟩,.e0,.e0,.ref (1,1115) 0 0 (b++([(.mk a.num c:Slt)])).length,vL Av h],kk 1115 58 8 (Aa Aq (b++([(.mk a.num c:Slt)])))]) ((ZT d e f g h v3 b a c).m)
def Za(b:Scm)(h:Val)(i:Val)(c:Scm→ByteArray→Val→Val→Option (Val))(j:Msg×Bool)(k:List Raw)(v3:Nat)(e:List Slt)(a:Fld)(f:Val×Bool)(g:Val×Bool):PT 0 (Lv (Nat×List Slt) (List Slt) (Val)):=tw (wg<|cs Tryz.prog 53 [.agg ((Al b).map .d),.agg ((Aw a).map .d),.agg ((Ae f.1).map .d),.agg ((Ae g.1).map .d)] [] [] (Jn c b a f.1 g.1) (fun y=>.agg ((Ae y).map .d)) fun d=>vw .sep<|ap e ((.mk a.num d:Slt):Slt)<|wg<|(JO b h i j k v3 e a d)) (cs Tryz.prog 53 [.agg ((Al b).map .d),.agg ((Aw a).map .d),.agg ((Ae f.1).map .d),.agg ((Ae g.1).map .d)] [] [] (Jn c b a f.1 g.1) (fun y=>.agg ((Ae y).map .d)) fun d=>wg<|vw .sep<|ap e ((.mk a.num d:Slt):Slt)<|wg<|(JO b h i j k v3 e a d))
def Zc(b:Scm)(h:Val)(i:Val)(c:Scm→ByteArray→Val→Val→Option (Val))(j:Msg×Bool)(k:List Raw)(v3:Nat)(e:List Slt)(a:Fld)(f:Val×Bool)(g:Val×Bool):PT 0 (Lv (Nat×List Slt) (List Slt) (Val)):=tw (wg<|cs Tryz.prog 53 [.agg ((Al b).map .d),.agg ((Aw a).map .d),.agg ((Ae f.1).map .d),.agg ((Ae g.1).map .d)] [] [] (Jn c b a f.1 g.1) (fun y=>.agg ((Ae y).map .d)) fun d=>vw .sep<|ap e ((.mk a.num d:Slt):Slt)<|wg<|(JO b h i j k v3 e a d)) (cs Tryz.prog 53 [.agg ((Al b).map .d),.agg ((Aw a).map .d),.agg ((Ae f.1).map .d),.agg ((Ae g.1).map .d)] [] [] (Jn c b a f.1 g.1) (fun y=>.agg ((Ae y).map .d)) fun d=>wg<|vw .sep<|ap e ((.mk a.num d:Slt):Slt)<|wg<|(JO b h i j k v3 e a d))
def Zy(c:Scm)(g:Val)(h:Val)(a:Scm→ByteArray→Val→Val→Option (Val))(i:Msg×Bool)(j:List Raw)(v3:Nat)(d:List Slt)(b:Fld)(e:Val×Bool)(f:Val×Bool):PT 0 (Lv (Nat×List Slt) (List Slt) (Val)):=tw (wg<|(Za c g h a i j v3 d b e f)) (tw (wg<|(Zc c g h a i j v3 d b e f)) (cs Tryz.prog 53 [.agg ((Al c).map .d),.agg ((Aw b).map .d),.agg ((Ae e.1).map .d),.agg ((Ae f.1).map .d)] [] [] (Jn a c b e.1 f.1) (fun y=>.agg ((Ae y).map .d)) fun k=>wg<|wg<|vw .sep<|ap d ((.mk b.num k:Slt):Slt)<|wg<|(JO c g h i j v3 d b k)))
def We(c:Scm)(d:Val)(e:Val)(a:Scm→ByteArray→Val→Val→Option (Val))(g:Msg×Bool)(h:List Raw)(v3:Nat)(f:List Slt)(b:Fld)(i:Val×Bool)(j:Val×Bool):PT 0 (Lv (Nat×List Slt) (List Slt) (Val)):=wg<|wg<|wg<|(Zy c d e a g h v3 f b i j)
def hM(b:Scm)(c:Val)(d:Val)(e:Msg×Bool)(f:List Raw)(v3:Nat)(a:List Slt):PT 0 (Lv (Nat×List Slt) (List Slt) (Val)):=vs (wa v3 1)<|vz (fl a)<|ln (XN b c d e f) (v3+1,a)
def T5(b:Scm)(c:Val)(d:Val)(e:Msg×Bool)(f:List Raw)(v3:Nat):List Slt→St:=fun a=>Ac [(4,.iptr (Al b) 0),pp 6,pp 7,pp 8,pp 9,pp 11,(12,vN v3)] [(JP c),(JM d),Ik,(JL e),kk 11 35 7 [vI 10,.d (.int .u64 0),vS ⟨#[]⟩,.e0,.e0,.ref (1,1115) 0 0 a.length,vL Av f],kk 1115 58 8 (Aa Aq a)]
def ML(b:Scm)(c:Val)(d:Val)(e:Msg×Bool)(f:List Raw)(v3:Nat):List Slt→Option (Lv (Nat×List Slt) (List Slt) (Val)):=fun a=>(hM b c d e f v3 a).m
def U5(e:Scm)(f:Val)(c:Val)(d:Msg×Bool)(g:List Raw)(v3:Nat)(a:List Slt)(b:Fld)(h:Val×Bool)(i:Val×Bool):PT 0 (Lv (Nat×List Slt) (List Slt) (Val)):=br i.2 (wg<|wg<|wg<|vw .sep<|ap a ((.mk b.num i.1:Slt):Slt)<|wg<|vz (fl (a++([(.mk b.num i.1:Slt)])))<|lc (T5 e f c d g v3 (a++([(.mk b.num i.1:Slt)]))) (ML e f c d g v3 (a++([(.mk b.num i.1:Slt)])))) (wg<|wg<|wg<|AH h.2 (ZXL d.1 b c) fun j=>br (h.2&&(!j)) (wg<|wg<|wg<|vw .sep<|ap a ((.mk b.num h.1:Slt):Slt)<|wg<|vz (fl (a++([(.mk b.num h.1:Slt)])))<|lc (T5 e f c d g v3 (a++([(.mk b.num h.1:Slt)]))) (ML e f c d g v3 (a++([(.mk b.num h.1:Slt)])))) (vz (fl a)<|lc (T5 e f c d g v3 a) (ML e f c d g v3 a)))
def gD(i:Scm)(e:Val)(f:Val)(h:Scm→ByteArray→Val→Val→Option (Val))(g:Msg×Bool)(j:List Raw)(v3:Nat)(d:List Slt):PT 0 (Lv (Nat×List Slt) (List Slt) (Val)):=wg<|ix g.1.fields v3 fun c=>wg<|wg<|wg<|cl (bK e c.num) fun a=>wg<|wg<|wg<|cl (bK f c.num) fun b=>wg<|vz (fl d)<|lc (Ac [(4,.iptr (Al i) 0),pp 6,pp 7,pp 8,pp 9,pp 11,(12,vN v3),pp 13,pp 14,(15,vB a.2),pp 16,(17,vB b.2),(59,vB (a.2&&b.2))] [(JP e),(JM f),Ik,(JL g),(Zd d j),kk 13 51 16 (cD (Aw c)),kk 14 35 7 (cD (Ae a.1)),kk 16 35 7 (cD (Ae b.1)),kk 1115 58 8 (Aa Aq d)]) (if(a.2&&b.2)=true then(We i e f h g j v3 d c a b).m else(U5 i e f g j v3 d c a b).m)
def gy(e:Scm)(f:Val)(g:Val)(c:Scm→ByteArray→Val→Val→Option (Val))(b:Msg×Bool)(d:List Raw)(v3:Nat)(a:List Slt):PT 0 (Lv (Nat×List Slt) (List Slt) (Val)):=wg<|vz (Aj b.1.fields)<|br (decide ((v3:Int)<(b.1.fields.length:Int))) (vz (fl a)<|lc (Ac [(4,.iptr (Al e) 0),pp 6,pp 7,pp 8,pp 9,pp 11,(12,vN v3)] [(JP f),(JM g),Ik,(JL b),(Zd a d),kk 1115 58 8 (Aa Aq a)]) ((gD e f g c b d v3 a).m)) (vz (fl a)<|Af (ts d) a)
def Nj(b:Scm)(c:Val)(d:Val)(a:Scm→ByteArray→Val→Val→Option (Val))(f:Msg×Bool)(g:List Raw):Nat×List Slt→Option (Lv (Nat×List Slt) (List Slt) (Val)):=fun(v3,e)=>(gy b c d a f g v3 e).m
def Zzo(b:List Raw)(a:List Slt):PT 0 (Val):=wg<|wg<|vz (fr a)<|lr J6 nG (.mk 10 0 ⟨#[]⟩ [] [] a b:Val)
def ma(d:Scm)(e:Val)(f:Val)(a:Scm→ByteArray→Val→Val→Option (Val))(g:Msg×Bool)(c:List Raw):PT 0 (Val):=vw (.adc (1,11) 5 1115 58 8)<|vw (.fzb 4 [4])<|vz (fl ([]:List Slt))<|lc (Ac [(4,.iptr (Al d) 0),pp 6,pp 7,pp 8,pp 9,pp 11,(12,vI 0)] [(JP e),(JM f),Ik,(JL g),kk 11 35 7 [vI 10,.d (.int .u64 0),vS ⟨#[]⟩,.e0,.e0,.ref (1,1115) 0 0 ([]:List Slt).length,vL Av c],kk 1115 58 8 (Aa Aq ([]:List Slt))]) ((Ai (Nj d e f a g c) Ah (0,([]:List Slt))).bind (Sum.elim (fun b=>(Zzo c b).m) some))
def Zz9(b:Scm)(c:Val)(d:Val)(a:Scm→ByteArray→Val→Val→Option (Val))(e:Msg×Bool)(f:List Raw):PT 0 (Val):=lc (Ac [pp 4,pp 6,pp 7,pp 8,pp 9,pp 11,(12,vI 0)] [(pc b),(JP c),(JM d),Ik,(JL e),(s4 f)]) ((ma b c d a e f).m)
def kc(b:Scm)(g:ByteArray)(c:Val)(d:Val)(a:Scm→ByteArray→Val→Val→Option (Val)):PT 0 (Val):=wg<|cl (SC b g) fun e=>wg<|wg<|wg<|cl (ZXD c.raws d.raws) fun f=>wg<|lc (Ac [pp 4,pp 6,pp 7,pp 8,pp 9,pp 11] [(pc b),(JP c),(JM d),Ik,(JL e),(s4 f)]) ((Zz9 b c d a e f).m)
def R6(a:Scm→ByteArray→Val→Val→Option (Val))(b:Scm)(c:ByteArray)(d:Val)(e:Val):Option (Val):=(kc b c d e a).m
theorem ZG0{C:Cx}(co:CO C 0)(b:Scm)(j:Val)(k:Val)(a:Scm→ByteArray→Val→Val→Option (Val))(p:Msg×Bool)(n:List Raw)(f:∀(b:Scm) (z:ByteArray) (j:Val) (k:Val),KC Tryz.prog 20 [.agg ((Al b).map .d),vS z,.agg ((Ae j).map .d),.agg ((Ae k).map .d)] (a b z j k) J6):KL Tryz.prog (Ar tl) 101 C (pa [0,0,1,0,1,1,1] (As Tryz.f20)) [.cell 8 35] 0 (XN b j k p n) (ts n) J6 nG (Nj b j k a p n):=fun(v3,q) _ m Q x t L=>mJ co 1 (Ab [4,6,7,8,9,11,12] Mb) (Ab [8,11] [((1,8),false),((1,11),false),((1,1115),true)]) t m L fun r g=>⟨fun _ m L=>sq (bk 1 (mJ co 4 (Ab [4,6,7,8,9,11,12,13,14,15,16,17,59] [((1,6),false),((1,7),false),((1,8),false),((1,9),false),((1,11),false),((1,13),false),((1,14),false),((1,16),false),((1,1115),true)]) nl t m L fun r g=>fun c=>fun d=>fun e=>fun _ m L=>Bg m (fun m=>F5 co AU BN (.fst 0 (.fst 2 (.fst 4 (.fst 5 (.fst 6 (.fst 7 ZS9)))))) [4] (We b j k a p n v3 q c d e) (Ab [4,6,7,8,9,11,12] Mb) m L fun r g=>J2 (fun(s:∀(i:Val),PT.n (JO b j k p n v3 q c i) _)=>J2 (fun u=>J2 (fun v=>J2 (fun w=>w) (⟨u,⟨v,⟨fun y hy l _ _=>by rw[(Ef a f b c d.1 e.1).x,(Ef a f b c d.1 e.1).e];exact(Ef a f b c d.1 e.1).k _ l y hy,fun i=>(s i)⟩,fun _ h=>h⟩,fun _ h=>h⟩)) (⟨⟨fun y hy l _ _=>by rw[(Ef a f b c d.1 e.1).x,(Ef a f b c d.1 e.1).e];exact(Ef a f b c d.1 e.1).k _ l y hy,fun i=>(s i)⟩,⟨fun y hy l _ _=>by rw[(Ef a f b c d.1 e.1).x,(Ef a f b c d.1 e.1).e];exact(Ef a f b c d.1 e.1).k _ l y hy,fun i=>(s i)⟩,fun _ h=>h⟩)) (⟨⟨fun y hy l _ _=>by rw[(Ef a f b c d.1 e.1).x,(Ef a f b c d.1 e.1).e];exact(Ef a f b c d.1 e.1).k _ l y hy,fun i=>(s i)⟩,⟨fun y hy l _ _=>by rw[(Ef a f b c d.1 e.1).x,(Ef a f b c d.1 e.1).e];exact(Ef a f b c d.1 e.1).k _ l y hy,fun i=>(s i)⟩,fun _ h=>h⟩)) (fun i=>fun _ m L=>eN co (Ab [4,6,7,8,9,11,12] Mb) nl t m L)) (fun m=>ZSv co AU BN (U5 b j k p n v3 q c d e) (Ab [4,6,7,8,9,11,12] Mb) nl t m L (.normal) (T5 b j k p n v3) (ML b j k p n v3) (fun A _ m L=>eN co (Ab [4,6,7,8,9,11,12] Mb) nl t m L) fun o r g=>⟨o (q++([(.mk c.num e.1:Slt)])),fun B=>⟨o (q++([(.mk c.num d.1:Slt)])),o q⟩⟩))),id⟩
theorem ZTD(a:Scm→ByteArray→Val→Val→Option (Val))(f:∀(b:Scm) (e:ByteArray) (c:Val) (d:Val),KC Tryz.prog 20 [.agg ((Al b).map .d),vS e,.agg ((Ae c).map .d),.agg ((Ae d).map .d)] (a b e c d) J6)(b:Scm)(e:ByteArray)(c:Val)(d:Val):KC Tryz.prog 20 [.agg ((Al b).map .d),vS e,.agg ((Ae c).map .d),.agg ((Ae d).map .d)] (R6 a b e c d) J6:=kC Tryz.func20 Tryz.ntmps20 [.cell 8 35] fun co m L=>mJ co 3 (Ab [4,6,7,8,9,11] yo) nl nH m L fun r g=>fun i=>fun j=>fun _ m L=>sq (mJ co 1 (Ab [4,6,7,8,9,11,12] yo) nl nH m L fun r g=>fun _ m L=>bk 0 (cM co (Ab [4,6,7,8,9,11,12] Mb) m L fun r g=>fun _ m L=>lo (Ay (ZG0 co b c d a i j f) nH m L (fun h m=>fO co m L))))
def KU:Nat→Scm→ByteArray→Val→Val→Option (Val)
 |0=>fun _ _ _ _=>none
 |a+1=>R6 (KU a)
theorem ye:∀(e:Nat) (a:Scm) (b:ByteArray) (c:Val) (d:Val),KC Tryz.prog 20 [.agg ((Al a).map .d),vS b,.agg ((Ae c).map .d),.agg ((Ae d).map .d)] (KU e a b c d) J6
 |0,a,b,c,d=>⟨fun _ _ _ h=>(by cases h),by intro r;kernel_rfl,by intro r y;kernel_rfl⟩
 |e+1,a,b,c,d=>ZTD (KU e) (ye e) a b c d
abbrev V2:Ad×Blk:=kk 6 35 7 [vI 0,.d (.int .u64 0),vS ⟨#[]⟩,.e0,.e0,.e0,.e0]
abbrev X2(a:Scm):Ad×Blk:=kk 3 26 3 (cD (Al a))
abbrev rV(a:Val):Ad×Blk:=kk 7 35 7 (cD (Ae a))
abbrev QR:Val→AV:=fun y=>.agg ((Ae y).map .d)
def uf(g:Scm)(h:ByteArray)(i:List Val):Nat×Int×Int×ByteArray×List Val×List Pr×List Slt×List Raw→St:=fun(v2,a,b,c,c6,d,e,f)=>Ac [(1,vS h),(2,vL Az i),pp 3,pp 6,pp 7,(8,vN v2)] [(X2 g),V2,kk 7 35 7 [vI a,.d (.int .u64 b),vS c,vL Az c6,vL Ap d,vL Aq e,vL Av f]]
def pn:Int×Int×ByteArray×List Val×List Pr×List Slt×List Raw→Nat×St:=fun(a,b,c,d,e,f,g)=>(0,Ac [pp 6,pp 7] [V2,kk 7 35 7 [vI a,.d (.int .u64 b),vS c,vL Az d,vL Ap e,vL Aq f,vL Av g]])
def Z8(j:Scm)(k:ByteArray)(b:List Val)(v2:Nat)(d:Int)(e:Int)(f:ByteArray)(c6:List Val)(g:List Pr)(h:List Slt)(i:List Raw):PT 0 (Lv (Nat×Int×Int×ByteArray×List Val×List Pr×List Slt×List Raw) (Int×Int×ByteArray×List Val×List Pr×List Slt×List Raw) (Val)):=vz (Aj b)<|br (decide ((v2:Int)<(b.length:Int))) (wg<|wg<|ix b v2 fun c=>cl (ye Ah j k (.mk d e f c6 g h i:Val) c) fun a=>wg<|vs (wa v2 1)<|ln (uf j k b) (v2+1,a.kind,a.bits,a.text,a.list,a.pairs,a.slots,a.raws)) (Af (pn) (d,e,f,c6,g,h,i))
def Nl(g:Scm)(h:ByteArray)(i:List Val):Nat×Int×Int×ByteArray×List Val×List Pr×List Slt×List Raw→Option (Lv (Nat×Int×Int×ByteArray×List Val×List Pr×List Slt×List Raw) (Int×Int×ByteArray×List Val×List Pr×List Slt×List Raw) (Val)):=fun(v2,a,b,c,c6,d,e,f)=>(Z8 g h i v2 a b c c6 d e f).m
def pY(a:Int)(b:Int)(c:ByteArray)(d:List Val)(e:List Pr)(f:List Slt)(g:List Raw):PT 0 (Val):=wg<|wg<|lr QR nG (.mk a b c d e f g:Val)
def tk(i:Scm)(j:ByteArray)(k:List Val)(a:Val):PT 0 (Val):=lc (Ac [(1,vS j),(2,vL Az k),pp 3,pp 6,pp 7,(8,vI 1)] [(X2 i),V2,(rV a)]) ((Ai (Nl i j k) Ah (1,a.kind,a.bits,a.text,a.list,a.pairs,a.slots,a.raws)).bind (Sum.elim (fun(b,c,d,e,f,g,h)=>(pY b c d e f g h).m) some))
def qZ(c:Scm)(d:ByteArray)(a:List Val):PT 0 (Val):=vz (Aj a)<|br (decide ((a.length:Int)=(0:Int))) (wg<|lr QR nG (.mk 10 0 ⟨#[]⟩ [] [] [] []:Val)) (ix a 0 fun b=>wg<|lc (Ac [(1,vS d),(2,vL Az a),pp 3,pp 6,pp 7] [(X2 c),V2,(rV b)]) ((tk c d a b).m))
def cL(a:Scm)(b:ByteArray)(c:List Val):Option (Val):=(qZ a b c).m
theorem ZEb{C:Cx}(co:CO C 0)(b:Scm)(c:ByteArray)(d:List Val):KL Tryz.prog (Ar tl) 31 C (pa [0,0,1,0,1,1,1] (As Tryz.f10)) [.cell 6 35] 0 (uf b c d) (pn) QR nG (Nl b c d):=fun(v2,f,g,h,c6,i,j,k) _ m Q a e L=>eN co (Ab [1,2,3,6,7,8] Kn) (Ab [6,7] [((1,6),false),((1,7),false)]) e m L
theorem ZXg(a:Scm)(b:ByteArray)(c:List Val):KC Tryz.prog 10 [.agg ((Al a).map .d),vS b,vL Az c] (cL a b c) QR:=kC Tryz.func10 Tryz.ntmps10 [.cell 6 35] fun co m L=>mJ co 3 (Ab [1,2,3,6,7] Kn) nl nH m L fun r g=>⟨id,fun l=>fun _ m L=>sq (mJ co 1 (Ab [1,2,3,6,7,8] Kn) nl nH m L fun r g=>fun _ m L=>bk 0 (lo (Ay (ZEb co a b c) nH m L (fun(d,e,f,h,i,j,k) m=>fO co m L))))⟩
abbrev Sr:List (Ad×Bool):=[((1,11),false),((1,62),true)]
abbrev Qh(a:Scm):Ad×Blk:=kk 4 26 3 (cD (Al a))
abbrev Qn(a:Val):Ad×Blk:=kk 11 35 7 (cD (Ae a))
abbrev E3:Bool→AV:=fun y=>vB y
def wT(b:Scm)(c:ByteArray)(a:List Val)(d:Int):Nat→St:=fun v3=>Ac [(1,vS c),(2,vL Az a),(3,.d (.int .u8 d)),pp 4,(24,vL Az a),(25,vN a.length),(26,vN v3)] [(Qh b)]
def xz(a:Scm)(b:ByteArray)(c:List Val)(d:Int):Unit→Nat×St:=fun _=>(0,Ac [(1,vS b),(2,vL Az c),(3,.d (.int .u8 d)),pp 4] [(Qh a)])
def a5(b:Scm)(c:ByteArray)(a:List Val)(d:Int)(v3:Nat):PT 0 (Lv (Nat) (Unit) (Bool)):=br (decide ((v3:Int)<(a.length:Int))) (ix a v3 fun e=>wg<|wg<|wg<|cl (K_7 b c e) fun f=>br (!f) (cl (WX) fun g=>At E3 nG g) (vs (wa v3 1)<|ln (wT b c a d) (v3+1))) (Af (xz b c a d) ())
def OD(a:Scm)(b:ByteArray)(c:List Val)(d:Int):Nat→Option (Lv (Nat) (Unit) (Bool)):=fun v3=>(a5 a b c d v3).m
def yi(c:Scm)(d:ByteArray)(e:List Val)(f:Val):List Val×Int→St:=fun(a,b)=>Ac [(1,vS d),(2,vL Az e),(4,.iptr (Al c) 0),pp 11,(13,.ref (1,62) 0 0 a.length),(14,vI b)] [(Qn f),kk 62 35 7 (Aa Az a)]
def wU(b:Scm)(c:ByteArray)(d:Val):List Val→Nat×St:=fun a=>(2,Ac [(1,vS c),(4,.iptr (Al b) 0),pp 11,(13,.ref (1,62) 0 0 a.length)] [(Qn d),kk 62 35 7 (Aa Az a)])
def az(e:Scm)(f:ByteArray)(d:List Val)(g:Val)(a:List Val)(b:Int):PT 0 (Lv (List Val×Int) (List Val) (Bool)):=vz (Aj d)<|br (decide (b<(d.length:Int))) (Cj d b fun c=>vw .sep<|ap a (c:Val)<|vs (wi (b+1))<|vz (fl (a++[c]))<|ln (yi e f d g) (a++[c],(b+1))) (vz (fl a)<|Af (wU e f g) a)
def L7(c:Scm)(d:ByteArray)(e:List Val)(f:Val):List Val×Int→Option (Lv (List Val×Int) (List Val) (Bool)):=fun(a,b)=>(az c d e f a b).m
def wK(e:Scm)(f:ByteArray)(g:Val)(a:List Val):PT 0 (Bool):=vw (.frz 62 [(13,(a.map Az))] [])<|vz (fz a)<|vw .sep<|cl (WY e f a) fun c=>wg<|cl (Rk Ah c g) fun b=>AH b (WX) fun d=>lr E3 nG (b&&d)
def x8(c:Scm)(d:ByteArray)(b:List Val)(g:Int)(f:Val)(a:Val):PT 0 (Bool):=vz (fl ([a]:List Val))<|lc (Ac [(1,vS d),(2,vL Az b),(4,.iptr (Al c) 0),pp 11,(13,.ref (1,62) 0 0 ([a]:List Val).length),(14,vI (EJ .i64 (IntKind.i64.wrap g) ((b.length+1:Nat):Int)))] [(Qn f),kk 62 35 7 (Aa Az ([a]:List Val))]) ((Ai (L7 c d b f) Ah (([a]:List Val),(EJ .i64 (IntKind.i64.wrap g) ((b.length+1:Nat):Int)))).bind (Sum.elim (fun e=>(wK c d f e).m) some))
def aw(d:Scm)(e:ByteArray)(b:List Val)(f:Int)(g:Val):PT 0 (Bool):=vw (.fzb 4 [4])<|vw .sep<|sL b .no (.it (EJ .i64 (IntKind.i64.wrap f) ((b.length+1:Nat):Int))) fun c=>cl (WY d e c) fun a=>vw .sep<|a1 (a:Val)<|rn 13 62 1 ([a]:List Val)<|vz (fl ([a]:List Val))<|lc (Ac [(1,vS e),(2,vL Az b),(4,.iptr (Al d) 0),pp 11,(12,vI (EJ .i64 (IntKind.i64.wrap f) ((b.length+1:Nat):Int))),(13,.ref (1,62) 0 0 ([a]:List Val).length)] [(Qn g),kk 62 35 7 (Aa Az ([a]:List Val))]) ((x8 d e b f g a).m)
def wS(b:Scm)(c:ByteArray)(a:List Val)(d:Int):PT 0 (Bool):=wg<|cl (WY b c a) fun e=>wg<|wg<|wg<|cl (ZXg b c a) fun f=>cl (Rk Ah e f) fun g=>br (!g) (lr E3 nG false) (vz (wk .i64 d)<|vz (Aj a)<|vs (wa a.length 1)<|rem .i64 (IntKind.i64.wrap d) ((a.length+1:Nat):Int)<|lc (Ac [(1,vS c),(2,vL Az a),pp 4,pp 11,(12,vI (EJ .i64 (IntKind.i64.wrap d) ((a.length+1:Nat):Int))),(13,.e0)] [(Qh b),(Qn e)]) ((aw b c a d e).m))
def xw(b:Scm)(c:ByteArray)(a:List Val)(d:Int):PT 0 (Bool):=vz (Aj a)<|lc (Ac [(1,vS c),(2,vL Az a),(3,.d (.int .u8 d)),pp 4,(24,vL Az a),(25,vN a.length),(26,vI 0)] [(Qh b)]) ((Ai (OD b c a d) Ah 0).bind (Sum.elim (fun _=>(wS b c a d).m) some))
def xZ(b:Scm)(c:ByteArray)(a:List Val)(d:Int):PT 0 (Bool):=wg<|cl (K_5 b) fun e=>vy (!(!e)) (Aj a)<|br ((!e)||decide ((8:Int)<(a.length:Int))) (cl (WX) fun f=>lr E3 nG f) (lc (Ac [(1,vS c),(2,vL Az a),(3,.d (.int .u8 d)),pp 4] [(Qh b)]) ((xw b c a d).m))
def b6(a:Scm)(b:ByteArray)(c:List Val)(d:Int):Option (Bool):=(xZ a b c d).m
theorem ZLP{C:Cx}(co:CO C 0)(a:Scm)(b:ByteArray)(c:List Val)(d:Int):KL Tryz.prog (Ar tl) 86 C (pa [0,0,1,0,1,1] (As Tryz.f3)) [.tmp 8] 0 (wT a b c d) (xz a b c d) E3 nG (OD a b c d):=fun v3 _ m Q e f L=>eN co (Ab [1,2,3,4,24,25,26] DU) (Ab [1,2,3,4] DU) f m L
theorem ZPp{C:Cx}(co:CO C 0)(a:Scm)(b:ByteArray)(e:List Val)(c:Val):KL Tryz.prog (Ar tl) 86 C (pa [0,0,1,0,1,1,1,1,1,1,1,1] (As Tryz.f3)) [.tmp 8] 0 (yi a b e c) (wU a b c) E3 nG (L7 a b e c):=fun(g,h) _ m Q d f L=>eN co (Ab [1,2,4,11,13,14] Sr) (Ab [1,4,11,13] Sr) f m L
theorem K_3(a:Scm)(b:ByteArray)(c:List Val)(d:Int):KC Tryz.prog 3 [.agg ((Al a).map .d),vS b,vL Az c,.d (.int .u8 d)] (b6 a b c d) E3:=kC Tryz.func3 Tryz.ntmps3 [.tmp 8] fun co m L=>mJ co 2 (Ab [1,2,3,4] DU) nl nH m L fun r g=>fun j=>⟨fun k=>id,fun _ m L=>sq (mJ co 1 (Ab [1,2,3,4,24,25,26] DU) nl nH m L fun r g=>fun _ m L=>bk 0 (lo (Ay (ZLP co a b c d) nH m L (fun _ m=>mJ co 4 (Ab [1,2,4,11,12,13] [((1,4),false),((1,11),false)]) nl nH m L fun r g=>fun e=>fun l=>fun n=>⟨id,fun _ m L=>sq (F5 co AU BN (.fst 0 (.fst 1 (.fst 2 (.fst 3 (.fst 4 (.fst 5 (.fst 6 (.fst 7 (.fst 8 (.fst 9 .nil)))))))))) [4] (aw a b c d e) (Ab [1,2,4,11,12,13] Sr) m L fun r g=>fun f=>fun i=>fun _ m L=>sq (mJ co 1 (Ab [1,2,4,11,13,14] Sr) nl nH m L fun r g=>fun _ m L=>bk 2 (lo (Ay (ZPp co a b c e) nH m L (fun h m=>fO co m L)))))⟩))))⟩
end Go.Proofs.YtbcmdieedjamgaaGreat
namespace Go.Proofs.YtbcmdieedjamgaaGreat
set_option linter.all false
open Go Go.Eng
end Go.Proofs.YtbcmdieedjamgaaGreat
namespace Go.Proofs.YtbcmdieedjamgaaGreat
set_option linter.all false
open Go Go.Eng Go.ChangeShapes Go.WideShapes Go.ChangeAt Go.RowKit
theorem z7{H:Type}(b:List UInt8):Rows.uptoBulk (DataW.lit (H:=H) (.string b))=b.length+1:=by simp only[Rows.uptoBulk]
theorem ZoX{H:Type}(a b:List (DataW H)):Rows.uptoBulk (.slice a b)=Rows.uptoBulkAll a+Rows.uptoBulkAll b+1:=by simp only[Rows.uptoBulk]
theorem Zx4{H:Type}(a:List (DataW H)):Rows.uptoBulk (.agg a)=Rows.uptoBulkAll a+1:=by simp only[Rows.uptoBulk]
def JI(W:World)(ds:List D)(cs:List Value)(o:Nat):Prop:=∀(i:Nat) (d:D),ds[i]?=some d→∃c,cs[o+i]?=some c∧RepD W (· <W.heap.size) d c
def Lq(W:World)(ds:List D)(cs:List Value):Prop:=ds.length=cs.length∧JI W ds cs 0
theorem JI.app{W:World}{ds a:List D}{cs:List Value}{o:Nat}(h:JI W ds cs o)(k:JI W a cs (o+ds.length)):JI W (ds++a) cs o:=fun i d hi=>by
 rcases YF i ds.length with hl|hl
 ·rw[Ys hl]at hi;exact h i d hi
 ·rw[YD hl]at hi
  obtain⟨c,b,e⟩:=k _ d hi
  grind
theorem JI.nil{W:World}{cs:List Value}{o:Nat}:JI W [] cs o:=fun i d h=>by simp at h
theorem Lq.at{W:World}{ds:List D}{cs:List Value}{o k:Nat}(h:Lq W ds ((cs.drop o).take k)):JI W ds cs o:=fun i d hi=>by
 obtain⟨c,a,b⟩:=h.2 i d hi
 grind
def rk(k:IntKind)(n:Int):Nat:=if Lit.wf (.int k n)=true then 0 else 1000000000000
theorem uE{k:IntKind}{n:Int}(h:rk k n≤1048576):k.min≤n∧n≤k.max:=by
 unfold rk at h
 split at h
 ·rename_i a
  unfold Lit.wf at a
  rw[Yc]at a
  exact⟨YZ a.1,YZ a.2⟩
 ·omega
mutual
def bk:D→Nat
 |.int k n=>rk k n
 |.bool _=>0
 |.str s=>s.size
 |.list a=>AE a
 |.map _ a=>AE a
def An:List D→Nat
 |[]=>0
 |d::l=>bk d+An l
def AE:List (List D)→Nat
 |[]=>0
 |e::l=>An e+1+AE l
end
theorem MQ:∀a b:List D,An (a++b)=An a+An b
 |[],b=>by rw[Fy,An,YN]
 |d::a,b=>by rw[HG,An,An,MQ a b,YI]
theorem TZ(d:D):An [d]=bk d:=by rw[An,An,GX]
theorem Ce{α:Type}{e:α→List D}:∀l:List α,l.length≤AE (l.map e)
 |[]=>Ck _
 |x::l=>by have:=Ce (e:=e) l;rw[YS,AE,Dt];omega
theorem Cu{α:Type}{e:α→List D}{x:α}:∀{l:List α},x∈l→An (e x)+1≤AE (l.map e)
 |y::l,h=>by
  rw[YS,AE]
  cases Yx.1 h with
  |inl h=>subst h;omega
  |inr h=>have:=Cu (e:=e) h;omega
section
variable {H:Type} (enc:TypeId×Value→H) (P:Program) (W:World)
def B8{α:Type}(n:Nat)(t:TypeId)(e:α→List D):Prop:=
 ∀cs x,DataW.trod enc P W 0 (fun _=>true) true n t cs=some x→∃v:α,Lq W (e v) cs∧An (e v)+1≤Rows.uptoBulk x.1
end
section
variable {H:Type} {enc:TypeId×Value→H} {P:Program} {W:World} {n:Nat} {t:TypeId}
theorem eu(d:DataW H):1≤Rows.uptoBulk d:=by cases d<;>(try (rename_i l;cases l))<;>simp[Rows.uptoBulk]
theorem Pj{d:D}{c:Value}(h:RepD W (· <W.heap.size) d c):Lq W [d] [c]:=⟨rfl,fun i d' hi=>by
 cases i with
 |zero=>cases hi;exact⟨c,rfl,h⟩
 |succ i=>simp at hi⟩
theorem Ez{k:IntKind}(a:P.underlying t=some (.int k)):B8 enc P W n t (fun v:Int=>[.int k v]):=fun cs x hx=>by
 obtain⟨m,rfl,rfl,b⟩:=DataW.trod_int a hx
 refine⟨m,Pj (.int _ _),?_⟩
 rw[TZ,bk,rk,Yi b]
 exact eu _
theorem ZqP(a:P.underlying t=some .bool):B8 enc P W n t (fun v:Bool=>[.bool v]):=fun cs x hx=>by
 obtain⟨m,rfl,rfl⟩:=DataW.trod_bool a hx
 exact⟨m,Pj (.bool _),eu _⟩
theorem EB(a:P.underlying t=some .string):B8 enc P W n t (fun v:ByteArray=>[.str v]):=fun cs x hx=>by
 obtain⟨m,rfl,rfl,_⟩:=DataW.trod_string a hx
 refine⟨m,Pj (.str _),?_⟩
 rw[z7,TZ]
 exact Yf _
theorem li{α:Type}{e:α→List D}:∀(l:List α) (xs:List (DataW H×List MemPlace)),l.length=xs.length→(∀(i:Nat) (v:α),l[i]?=some v→∃y:DataW H×List MemPlace,xs[i]?=some y∧An (e v)+1≤Rows.uptoBulk y.1)→AE (l.map e)≤Rows.uptoBulkAll (xs.map (·.1))
 |[],_,_,_=>Ck _
 |x::l,[],h,_=>by cases h
 |x::l,y::xs,h,k=>by
  have:=li l xs (Xm h) (fun i v hi=>k (i+1) v hi)
  obtain⟨c,a,b⟩:=k 0 x rfl
  cases a
  rw[YS,YS,AE]
  simp only[Rows.uptoBulkAll]
  omega
theorem ZtW{α:Type}{Q:Nat→α→Prop}:∀(len:Nat),(∀i,i<len→∃v,Q i v)→∃l:List α,l.length=len∧∀i v,l[i]?=some v→Q i v
 |0,_=>⟨[],rfl,fun i v h=>by simp at h⟩
 |len+1,h=>by
  obtain⟨l,a,b⟩:=ZtW len (fun i hi=>h i (by omega))
  obtain⟨v,c⟩:=h len (by omega)
  refine⟨l++[v],by simp[a],fun i w hi=>?_⟩
  grind
theorem CX{α:Type}{e:TypeId}{b:α→List D}{sz:Nat}(X:P.underlying t=some (.slice e))(E:P.cellsOf e=sz)(V:sz≠0)(hl:∀x,(b x).length=sz)(h:∀m,m<n→B8 enc P W m e b):
  B8 enc P W n t (fun l:List α=>[.list (l.map b)]):=fun cs x hx=>by
 rcases DataW.trod_slice X hx with⟨rfl,rfl⟩|⟨a,len,cap,g,J,m,rfl,rfl,rfl,Z,z,T,U,hi,_,_⟩
 ·exact⟨[],Pj .nil,eu _⟩
 ·have k:∀i,i<len→∃v:α,∃y f,g[i]?=some y∧W.cells? 0 (a.add (i*sz)) sz=some f∧Lq W (b v) f∧An (b v)+1≤Rows.uptoBulk y.1:=fun i B=>by
   have I:=hi i B
   rw[Ye (by omega),E]at I
   obtain⟨f,N,O⟩:=jD.1 I
   obtain⟨v,Q,R⟩:=h m (by omega) f _ O
   exact⟨v,_,f,Ye (by omega),N,Q,R⟩
  obtain⟨l,A,r⟩:=ZtW len k
  have cell:∀(i j:Nat) (e':List D) (x:D),(l.map b)[i]?=some e'→e'[j]?=some x→∃c,W.cell? (a.add (i*sz+j))=some c∧RepD W (· <W.heap.size) x c:=fun i j e' x d o=>by
   rw[YU]at d
   cases s:l[i]? with
   |none=>rw[s]at d;cases d
   |some v=>
    rw[s]at d
    cases d
    obtain⟨y,f,p,q,F,G⟩:=r i v s
    obtain⟨c,H,K⟩:=F.2 j x o
    rw[YN]at H
    obtain⟨_,Y,L⟩:=World.cells?_some q
    have u:j<sz:=by
     rw[←hl v]
     rcases YF j (b v).length with h|h
     ·exact h
     ·rw[YL h]at o;cases o
    refine⟨c,?_,K⟩
    rw[←Go.Eng.add_add,L j u,H]
  refine⟨l,Pj ?_,?_⟩
  ·have hlen:(l.map b).length=len:=by simp[A]
   have:=RepD.list (w:=W) (S:=(· <W.heap.size)) (l.map b) a sz cap (fun i j=>(W.cell? (a.add (i*sz+j))).getD undef) (fun C=>by
     have M:0<len:=by
      rcases Xf len with h|h
      ·exact absurd (I1 (hlen.trans h)) C
      ·exact h
     obtain⟨v,y,f,_,q,_⟩:=k 0 M
     have:=World.cells?_block q (by omega)
     rw[Ki]at this
     rw[←Go.Eng.block_add a 0];exact this)
    (by rw[hlen];exact z) (fun e' he=>by obtain⟨y,_,rfl⟩:=YV.1 he;exact hl y)
    (fun i j e' x d o=>by obtain⟨c,p,_⟩:=cell i j e' x d o;rw[p];rfl)
    (fun i j e' x d o=>by obtain⟨c,p,q⟩:=cell i j e' x d o;rw[p];exact q)
   rw[hlen]at this
   exact this
  ·rw[ZoX,TZ,bk]
   have:=li (e:=b) l g (by omega) (fun i v s=>by
    obtain⟨y,f,p,q,F,G⟩:=r i v s
    exact⟨y,p,G⟩)
   omega
def FB(xs:List (DataW H×List MemPlace))(i:Nat):Nat:=Rows.uptoBulkAll ((xs.drop i).map (·.1))
theorem Bm{xs:List (DataW H×List MemPlace)}{i:Nat}{a b:List D}(h:An a+1+FB xs (i+1)≤FB xs i)(k:An b≤FB xs (i+1)):An (a++b)≤FB xs i:=by
 rw[MQ];omega
theorem EC{xs:List (DataW H×List MemPlace)}{i:Nat}{a:List D}(h:An a+1+FB xs (i+1)≤FB xs i):An a≤FB xs i:=by omega
theorem ED{xs:List (DataW H×List MemPlace)}{a:List D}(h:An a≤FB xs 0):An a+1≤Rows.uptoBulk (.agg (xs.map (·.1))):=by
 rw[Zx4];exact Nat.succ_le_succ h
theorem ZvE{α:Type}{e:α→List D}{m i:Nat}{c:TypeId}{a:List Value}{xs:List (DataW H×List MemPlace)}(h:B8 enc P W m c e)(b:DataW.trod enc P W 0 (fun _=>true) true m c a=xs[i]?)(hi:i<xs.length):
  ∃v,Lq W (e v) a∧An (e v)+1+FB xs (i+1)≤FB xs i:=by
 rw[Ye hi]at b
 obtain⟨v,d,f⟩:=h _ _ b
 refine⟨v,d,?_⟩
 unfold FB
 rw[HH hi,YS]
 simp only[Rows.uptoBulkAll]
 omega
theorem rf{α:Type}{e:α→List D}{m i k:Nat}{b:TypeId}{a:List Value}{xs:List (DataW H×List MemPlace)}(h:B8 enc P W m b e)(c:DataW.trod enc P W 0 (fun _=>true) true m b a=xs[i]?)(hx:xs.length=k)(hi:Nat.blt i k=true:=by kernel_rfl):
  ∃v,Lq W (e v) a∧An (e v)+1+FB xs (i+1)≤FB xs i:=ZvE h c (by rw[hx];exact Yh hi)
theorem UC{α:Type}{e e':α→List D}(he:∀x,e x=e' x)(h:B8 enc P W n t e'):B8 enc P W n t e:=fun cs x hx=>by
 obtain⟨v,a,b⟩:=h cs x hx
 grind
theorem ZEC{α:Type}{e:α→List D}{q:Array Field}{r:Reach}{b:Nat}{v:Value}{d:DataW H}{p:List MemPlace}(rd:∀n,B8 enc P W n t e)(w:P.underlying t=some (.struct q))(z:Value.okWide P W r b t v)
  (h:DataW.Trod enc P W 0 (fun _=>true) true t v d p):∃x:α,(∀m l,RepA W (· <W.heap.size) (fun _=>⟨0,false,0,0,[]⟩) m l (.agg ((e x).map .d)) v)∧An (e x)+1≤Rows.uptoBulk d:=by
 obtain⟨cs,rfl,_⟩:=okWide_struct w z
 obtain⟨n,u⟩:=h
 obtain⟨x,k,s⟩:=rd n _ _ u
 have hl:(e x).length=cs.size:=by rw[k.1];simp[Value.cells]
 have key:∀(i:Nat) (c:Value),cs[i]?=some c→∃d,(e x)[i]?=some d∧RepD W (· <W.heap.size) d c:=fun i c f=>by
  have g:i<(e x).length:=by
   grind
  obtain⟨j,a,o⟩:=k.2 i _ (Ye g)
  have:j=c:=by
   rw[YN]at a
   have:cs.toList[i]?=some j:=a
   grind
  grind
 refine⟨x,fun m l=>.agg _ _ (by rw[YG,hl]) (fun i c f=>?_) (fun i y c hy f=>?_),s⟩
 ·obtain⟨d,_,a⟩:=key i c f;exact a.one
 ·obtain⟨d,a,o⟩:=key i c f
  rw[YU,a]at hy
  cases hy
  exact .d _ _ o
theorem ZGK{r:Reach}{a:Nat}{v:Value}{d:DataW H}{p:List MemPlace}(e:P.underlying t=some .string)(g:Value.okWide P W r a t v)(h:DataW.Trod enc P W 0 (fun _=>true) true t v d p):
  ∃x:ByteArray,(∀S Hp m l,RepA W S Hp m l (.d (.str x)) v)∧x.size+1≤Rows.uptoBulk d:=by
 obtain⟨x,rfl⟩:=okWide_string e g
 obtain⟨n,f⟩:=h
 obtain⟨s,b,c,_⟩:=DataW.trod_string e f
 have b:x=s:=by simpa[Value.cells]using b
 subst b
 have c:d=.lit (.string x.data.toList):=congrArg Prod.fst c
 subst c
 refine⟨x,fun _ _ _ _=>.d _ _ (.str _),?_⟩
 rw[z7]
 exact Yf _
theorem ZuX{α:Type}{e:α→List D}{u:TypeId}{r:Reach}{b:Nat}{v:Value}{d:DataW H}{p:List MemPlace}(rd:∀n,B8 enc P W n t (fun l:List α=>[.list (l.map e)]))(o:P.underlying t=some (.slice u))(q:Value.okWide P W r b t v)
  (h:DataW.Trod enc P W 0 (fun _=>true) true t v d p):∃x:List α,(∀Hp m l,RepA W (· <W.heap.size) Hp m l (.d (.list (x.map e))) v)∧bk (.list (x.map e))+1≤Rows.uptoBulk d:=by
 obtain⟨a,len,cap,rfl⟩:=okWide_slice o q
 obtain⟨n,k⟩:=h
 obtain⟨x,f,g⟩:=rd n _ _ k
 obtain⟨c,i,j⟩:=f.2 0 _ rfl
 have:c=.slice a len cap:=by simpa[Value.cells]using i.symm
 subst this
 exact⟨x,fun _ _ _=>.d _ _ j,by rw[←TZ];exact g⟩
def jr:Hp:=fun _=>⟨0,false,0,0,[]⟩
theorem ok0(m:Mu):Ok 0 jr m (· <W.heap.size) W:=⟨fun _ h=>h,fun _ _ h=>(by cases h),fun _ _ h=>(by cases h),fun _ _ _ _ h=>(by cases h),fun _ _ h=>(by cases h),⟨fun _ _ h=>(by cases h),fun _ _ h=>(by cases h),fun _ _ _ _ h=>(by cases h)⟩⟩
def wM(w:World)(S:Nat→Prop)(Hp:Hp)(m:Mu)(l:Nat):List AV→List Value→Prop
 |[],[]=>True
 |x::xs,v::vs=>RepA w S Hp m l x v∧wM w S Hp m l xs vs
 |_,_=>False
theorem ZFR{w:World}{S:Nat→Prop}{Hp:Hp}{m:Mu}{l:Nat}{xs:List AV}{vs:List Value}(h:wM w S Hp m l xs vs):K7 w S Hp m l xs vs.toArray:=by
 suffices b:xs.length=vs.length∧∀(i:Nat) (x:AV) (v:Value),xs[i]?=some x→vs[i]?=some v→RepA w S Hp m l x v by
  exact⟨by simpa using b.1,fun i x v hx e=>b.2 i x v hx (by simpa using e)⟩
 induction xs generalizing vs with
 |nil=>cases vs with
  |nil=>exact⟨rfl,fun i x v h=>by simp at h⟩
  |cons _ _=>exact h.elim
 |cons x xs f=>cases vs with
  |nil=>exact h.elim
  |cons v vs=>
   obtain⟨c,d⟩:=f h.2
   refine⟨by simp[c],fun i y u hy a=>?_⟩
   cases i with
   |zero=>simp at hy a;subst hy;subst a;exact h.1
   |succ i=>exact d i y u (by simpa using hy) (by simpa using a)
theorem Zt6{f:Func}{s:ChangeSpec}{r:World}{args:Array Value}{ds A:List (DataW H)}{e:List MemPlace}{u:TypeId}(C:DataW.Whole enc P f.params.toList s.vars false W args.toList ds A e)(c:s.vars=[])
  (k:laidOutB P=true) (z:∀t∈f.params.toList,P.readableRec t=true∧t<P.types.size) (g:f.resultTypes.toList=[u]) (L:P.underlying u=some .bool)
  (j:s.fn H (ds++A)={results:=[.lit (.bool true)],args:=ds }) (n:Below W.heap.size W r):s.post enc P f false true false false W args (.bool true) r:=by
 obtain⟨p,q,G,B,rfl,I,J⟩:=id C
 rw[c]at B
 obtain⟨rfl,rfl⟩:=trodVars_none B
 refine⟨ds,[],p++[],[],p,[],C,?_,?_,?_,?_,fun h=>by cases h⟩
 ·rw[j,g]
  have:(Value.bool true).resultList f.resultTypes.size=[.bool true]:=by
   have:f.resultTypes.size=1:=by rw[←HE,g];rfl
   rw[this];rfl
  rw[this]
  exact trodAll_cons_mk (shut_bool L _) trodAll_mk0
 ·rw[j]
  have key:∀(l:List TypeId) (vs:List Value) (m:List (DataW H)) (ps:List MemPlace),(∀t∈l,P.readableRec t=true∧t<P.types.size)→DataW.TrodAll enc P W 0 (fun _=>true) true l vs m ps→
    DataW.TrodAll enc P r 0 (fun b=>decide (b<W.heap.size)) true l vs m ps:=by
   intro l
   induction l with
   |nil=>intro vs m ps _ h;obtain⟨rfl,rfl,rfl⟩:=trodAll_nil h;exact trodAll_mk0
   |cons t l M=>
    intro vs m ps y h
    have w:=DataW.TrodAll.lt h
    obtain⟨v,N,d,D,a,b,rfl,rfl,rfl,E,F⟩:=trodAll_cons h
    exact trodAll_cons_mk (Below.trod k (y t (by simp)).1 (y t (by simp)).2 E n (fun x hx=>w x (HD _ hx))) (M _ _ _ (fun t K=>y t (by simp[K])) F)
  exact key _ _ _ _ z G
 ·rw[c,j];exact rfl
 ·refine⟨n.os,n.output,fun i hi=>?_⟩
  rw[n.block i hi]
  cases W.heap[i]? with
  |none=>rfl
  |some o=>cases o<;>simp
end
end Go.Proofs.YtbcmdieedjamgaaGreat
namespace Go.Proofs.YtbcmdieedjamgaaGreat
set_option linter.all false
open Go Go.Eng
section
variable {H:Type} {enc:TypeId×Value→H} {W:World}
set_option maxRecDepth 100000
theorem ZIH(n:Nat):B8 enc Tryz.prog W n 65 Av:=fun cs x hx=>by
 obtain⟨xs,m,rfl,rfl,c,a,b⟩:=DataW.trod_struct Tryz.underlying65 hx
 obtain⟨v0,h,d⟩:=rf (Ez Tryz.underlying3) (b 0 _ rfl) a
 obtain⟨l,i,e⟩:=rf (Ez Tryz.underlying3) (b 1 _ rfl) a
 obtain⟨v2,j,f⟩:=rf (Ez Tryz.underlying30) (b 2 _ rfl) a
 obtain⟨v3,k,g⟩:=rf (EB Tryz.underlying9) (b 3 _ rfl) a
 have q:=ED (Bm d (Bm e (Bm f (EC g))))
 exact⟨.mk v0 l v2 v3,⟨by rw[c];kernel_rfl,(h.at.app (i.at.app (j.at.app k.at)))⟩,q⟩
theorem ZwO(n:Nat)(h:∀k,k<n→B8 enc Tryz.prog W k 35 Ae):B8 enc Tryz.prog W n 63 Nu:=fun cs x hx=>by
 obtain⟨xs,m,rfl,rfl,b,a,c⟩:=DataW.trod_struct Tryz.underlying63 hx
 obtain⟨v0,f,d⟩:=rf (h m (by omega)) (c 0 _ rfl) a
 obtain⟨i,g,e⟩:=rf (h m (by omega)) (c 1 _ rfl) a
 have q:=ED (Bm d (EC e))
 exact⟨.mk v0 i,⟨by rw[b];kernel_rfl,(f.at.app g.at)⟩,q⟩
theorem ZtR(n:Nat)(h:∀k,k<n→B8 enc Tryz.prog W k 35 Ae):B8 enc Tryz.prog W n 58 Dn:=fun cs x hx=>by
 obtain⟨xs,m,rfl,rfl,b,a,c⟩:=DataW.trod_struct Tryz.underlying58 hx
 obtain⟨v0,f,d⟩:=rf (Ez Tryz.underlying3) (c 0 _ rfl) a
 obtain⟨i,g,e⟩:=rf (h m (by omega)) (c 1 _ rfl) a
 have q:=ED (Bm d (EC e))
 exact⟨.mk v0 i,⟨by rw[b];kernel_rfl,(f.at.app g.at)⟩,q⟩
theorem fv(n:Nat):B8 enc Tryz.prog W n 35 Ae:=by
 induction n using Nat.strongRecOn with
 |ind n e=>
 intro cs x hx
 obtain⟨xs,m,rfl,rfl,c,a,b⟩:=DataW.trod_struct Tryz.underlying35 hx
 obtain⟨v0,s,f⟩:=rf (Ez Tryz.underlying3) (b 0 _ rfl) a
 obtain⟨A,t,g⟩:=rf (Ez Tryz.underlying30) (b 1 _ rfl) a
 obtain⟨v2,u,h⟩:=rf (EB Tryz.underlying9) (b 2 _ rfl) a
 obtain⟨v3,v,i⟩:=rf (CX Tryz.underlying27 (by kernel_rfl:Tryz.prog.cellsOf 35=7) (by decide) (fun x=>by rw[Dc];rfl) (fun k d=>(UC Dc (e k (by omega))))) (b 3 _ rfl) a
 obtain⟨v4,w,l⟩:=rf (CX Tryz.underlying31 (by kernel_rfl:Tryz.prog.cellsOf 63=14) (by decide) (fun x=>by rw[Lj];rfl) (fun k d=>(UC Lj (ZwO k (fun j r=>e j (by omega)))))) (b 4 _ rfl) a
 obtain⟨B,y,o⟩:=rf (CX Tryz.underlying32 (by kernel_rfl:Tryz.prog.cellsOf 58=8) (by decide) (fun x=>by rw[La];rfl) (fun k d=>(UC La (ZtR k (fun j r=>e j (by omega)))))) (b 5 _ rfl) a
 obtain⟨C,z,p⟩:=rf (CX Tryz.underlying33 (by kernel_rfl:Tryz.prog.cellsOf 65=4) (by decide) (fun _=>rfl) (fun k d=>(ZIH k))) (b 6 _ rfl) a
 have q:=ED (Bm f (Bm g (Bm h (Bm i (Bm l (Bm o (EC p)))))))
 exact⟨.mk v0 A v2 v3 v4 B C,⟨by rw[c];kernel_rfl,(s.at.app (t.at.app (u.at.app (v.at.app (w.at.app (y.at.app z.at))))))⟩,q⟩
theorem ZO5(n:Nat):B8 enc Tryz.prog W n 48 Hm:=fun cs x hx=>by
 obtain⟨xs,m,rfl,rfl,b,a,c⟩:=DataW.trod_struct Tryz.underlying48 hx
 obtain⟨v0,f,d⟩:=rf (Ez Tryz.underlying3) (c 0 _ rfl) a
 obtain⟨h,g,e⟩:=rf (EB Tryz.underlying9) (c 1 _ rfl) a
 have q:=ED (Bm d (EC e))
 exact⟨.mk v0 h,⟨by rw[b];kernel_rfl,(f.at.app g.at)⟩,q⟩
theorem Ni(n:Nat):B8 enc Tryz.prog W n 175 B6:=fun cs x hx=>by
 obtain⟨xs,m,rfl,rfl,b,a,c⟩:=DataW.trod_struct Tryz.underlying175 hx
 obtain⟨v0,f,d⟩:=rf (EB Tryz.underlying9) (c 0 _ rfl) a
 obtain⟨h,g,e⟩:=rf (fv m) (c 1 _ rfl) a
 have q:=ED (Bm d (EC e))
 exact⟨.mk v0 h,⟨by rw[b];kernel_rfl,(f.at.app g.at)⟩,q⟩
theorem ZJI(n:Nat):B8 enc Tryz.prog W n 51 Aw:=fun cs x hx=>by
 obtain⟨xs,m,rfl,rfl,c,a,b⟩:=DataW.trod_struct Tryz.underlying51 hx
 obtain⟨v0,p,d⟩:=rf (Ez Tryz.underlying3) (b 0 _ rfl) a
 obtain⟨A,r,e⟩:=rf (EB Tryz.underlying9) (b 1 _ rfl) a
 obtain⟨v2,s,f⟩:=rf (Ez Tryz.underlying3) (b 2 _ rfl) a
 obtain⟨v3,t,g⟩:=rf (Ez Tryz.underlying3) (b 3 _ rfl) a
 obtain⟨v4,u,h⟩:=rf (ZO5 m) (b 4 _ rfl) a
 obtain⟨B,v,i⟩:=rf (EB Tryz.underlying9) (b 5 _ rfl) a
 obtain⟨C,w,j⟩:=rf (ZqP Tryz.underlying4) (b 6 _ rfl) a
 obtain⟨D,y,l⟩:=rf (fv m) (b 7 _ rfl) a
 obtain⟨E,z,o⟩:=rf (CX Tryz.underlying49 (by kernel_rfl:Tryz.prog.cellsOf 175=8) (by decide) (fun _=>rfl) (fun k F=>(Ni k))) (b 8 _ rfl) a
 have q:=ED (Bm d (Bm e (Bm f (Bm g (Bm h (Bm i (Bm j (Bm l (EC o)))))))))
 exact⟨.mk v0 A v2 v3 v4 B C D E,⟨by rw[c];kernel_rfl,(p.at.app (r.at.app (s.at.app (t.at.app (u.at.app (v.at.app (w.at.app (y.at.app z.at))))))))⟩,q⟩
theorem lJ(n:Nat):B8 enc Tryz.prog W n 151 Cz:=fun cs x hx=>by
 obtain⟨xs,m,rfl,rfl,b,a,c⟩:=DataW.trod_struct Tryz.underlying151 hx
 obtain⟨v0,f,d⟩:=rf (Ez Tryz.underlying3) (c 0 _ rfl) a
 obtain⟨h,g,e⟩:=rf (Ez Tryz.underlying3) (c 1 _ rfl) a
 have q:=ED (Bm d (EC e))
 exact⟨.mk v0 h,⟨by rw[b];kernel_rfl,(f.at.app g.at)⟩,q⟩
theorem ZLE(n:Nat):B8 enc Tryz.prog W n 56 AK:=fun cs x hx=>by
 obtain⟨xs,m,rfl,rfl,c,a,b⟩:=DataW.trod_struct Tryz.underlying56 hx
 obtain⟨v0,j,e⟩:=rf (EB Tryz.underlying9) (b 0 _ rfl) a
 obtain⟨s,l,f⟩:=rf (CX Tryz.underlying52 (by kernel_rfl:Tryz.prog.cellsOf 51=16) (by decide) (fun _=>rfl) (fun k d=>(ZJI k))) (b 1 _ rfl) a
 obtain⟨v2,o,g⟩:=rf (CX Tryz.underlying53 (by kernel_rfl:Tryz.prog.cellsOf 151=2) (by decide) (fun _=>rfl) (fun k d=>(lJ k))) (b 2 _ rfl) a
 obtain⟨v3,p,h⟩:=rf (CX Tryz.underlying54 (by kernel_rfl:Tryz.prog.cellsOf 9=1) (by decide) (fun _=>rfl) (fun k d=>(EB Tryz.underlying9))) (b 3 _ rfl) a
 obtain⟨v4,r,i⟩:=rf (CX Tryz.underlying49 (by kernel_rfl:Tryz.prog.cellsOf 175=8) (by decide) (fun _=>rfl) (fun k d=>(Ni k))) (b 4 _ rfl) a
 have q:=ED (Bm e (Bm f (Bm g (Bm h (EC i)))))
 exact⟨.mk v0 s v2 v3 v4,⟨by rw[c];kernel_rfl,(j.at.app (l.at.app (o.at.app (p.at.app r.at))))⟩,q⟩
theorem ZNS(n:Nat):B8 enc Tryz.prog W n 124 FY:=fun cs x hx=>by
 obtain⟨xs,m,rfl,rfl,b,a,c⟩:=DataW.trod_struct Tryz.underlying124 hx
 obtain⟨v0,g,d⟩:=rf (EB Tryz.underlying9) (c 0 _ rfl) a
 obtain⟨j,h,e⟩:=rf (Ez Tryz.underlying3) (c 1 _ rfl) a
 obtain⟨v2,i,f⟩:=rf (CX Tryz.underlying49 (by kernel_rfl:Tryz.prog.cellsOf 175=8) (by decide) (fun _=>rfl) (fun k l=>(Ni k))) (c 2 _ rfl) a
 have q:=ED (Bm d (Bm e (EC f)))
 exact⟨.mk v0 j v2,⟨by rw[b];kernel_rfl,(g.at.app (h.at.app i.at))⟩,q⟩
theorem ZMj(n:Nat):B8 enc Tryz.prog W n 86 Cr:=fun cs x hx=>by
 obtain⟨xs,m,rfl,rfl,c,a,b⟩:=DataW.trod_struct Tryz.underlying86 hx
 obtain⟨v0,j,e⟩:=rf (EB Tryz.underlying9) (b 0 _ rfl) a
 obtain⟨s,l,f⟩:=rf (ZqP Tryz.underlying4) (b 1 _ rfl) a
 obtain⟨v2,o,g⟩:=rf (CX Tryz.underlying84 (by kernel_rfl:Tryz.prog.cellsOf 124=3) (by decide) (fun _=>rfl) (fun k d=>(ZNS k))) (b 2 _ rfl) a
 obtain⟨v3,p,h⟩:=rf (CX Tryz.underlying53 (by kernel_rfl:Tryz.prog.cellsOf 151=2) (by decide) (fun _=>rfl) (fun k d=>(lJ k))) (b 3 _ rfl) a
 obtain⟨v4,r,i⟩:=rf (CX Tryz.underlying49 (by kernel_rfl:Tryz.prog.cellsOf 175=8) (by decide) (fun _=>rfl) (fun k d=>(Ni k))) (b 4 _ rfl) a
 have q:=ED (Bm e (Bm f (Bm g (Bm h (EC i)))))
 exact⟨.mk v0 s v2 v3 v4,⟨by rw[c];kernel_rfl,(j.at.app (l.at.app (o.at.app (p.at.app r.at))))⟩,q⟩
theorem ZQX(n:Nat):B8 enc Tryz.prog W n 126 Hk:=fun cs x hx=>by
 obtain⟨xs,m,rfl,rfl,c,a,b⟩:=DataW.trod_struct Tryz.underlying126 hx
 obtain⟨v0,i,d⟩:=rf (EB Tryz.underlying9) (b 0 _ rfl) a
 obtain⟨r,j,e⟩:=rf (EB Tryz.underlying9) (b 1 _ rfl) a
 obtain⟨v2,l,f⟩:=rf (EB Tryz.underlying9) (b 2 _ rfl) a
 obtain⟨v3,o,g⟩:=rf (Ez Tryz.underlying3) (b 3 _ rfl) a
 obtain⟨v4,p,h⟩:=rf (CX Tryz.underlying49 (by kernel_rfl:Tryz.prog.cellsOf 175=8) (by decide) (fun _=>rfl) (fun k s=>(Ni k))) (b 4 _ rfl) a
 have q:=ED (Bm d (Bm e (Bm f (Bm g (EC h)))))
 exact⟨.mk v0 r v2 v3 v4,⟨by rw[c];kernel_rfl,(i.at.app (j.at.app (l.at.app (o.at.app p.at))))⟩,q⟩
theorem ZOM(n:Nat):B8 enc Tryz.prog W n 90 Di:=fun cs x hx=>by
 obtain⟨xs,m,rfl,rfl,b,a,c⟩:=DataW.trod_struct Tryz.underlying90 hx
 obtain⟨v0,h,d⟩:=rf (EB Tryz.underlying9) (c 0 _ rfl) a
 obtain⟨l,i,e⟩:=rf (CX Tryz.underlying88 (by kernel_rfl:Tryz.prog.cellsOf 126=5) (by decide) (fun _=>rfl) (fun k g=>(ZQX k))) (c 1 _ rfl) a
 obtain⟨v2,j,f⟩:=rf (CX Tryz.underlying49 (by kernel_rfl:Tryz.prog.cellsOf 175=8) (by decide) (fun _=>rfl) (fun k g=>(Ni k))) (c 2 _ rfl) a
 have q:=ED (Bm d (Bm e (EC f)))
 exact⟨.mk v0 l v2,⟨by rw[b];kernel_rfl,(h.at.app (i.at.app j.at))⟩,q⟩
theorem ZMH(n:Nat):B8 enc Tryz.prog W n 26 Al:=fun cs x hx=>by
 obtain⟨xs,m,rfl,rfl,b,a,c⟩:=DataW.trod_struct Tryz.underlying26 hx
 obtain⟨v0,h,e⟩:=rf (CX Tryz.underlying22 (by kernel_rfl:Tryz.prog.cellsOf 56=5) (by decide) (fun _=>rfl) (fun k d=>(ZLE k))) (c 0 _ rfl) a
 obtain⟨l,i,f⟩:=rf (CX Tryz.underlying23 (by kernel_rfl:Tryz.prog.cellsOf 86=5) (by decide) (fun _=>rfl) (fun k d=>(ZMj k))) (c 1 _ rfl) a
 obtain⟨v2,j,g⟩:=rf (CX Tryz.underlying24 (by kernel_rfl:Tryz.prog.cellsOf 90=3) (by decide) (fun _=>rfl) (fun k d=>(ZOM k))) (c 2 _ rfl) a
 have q:=ED (Bm e (Bm f (EC g)))
 exact⟨.mk v0 l v2,⟨by rw[b];kernel_rfl,(h.at.app (i.at.app j.at))⟩,q⟩
end
end Go.Proofs.YtbcmdieedjamgaaGreat
namespace Go.Eng
set_option linter.all false
open Go Go.RowKit
section
variable {σ ξ ρ α β γ:Type}
theorem Et{B:Nat→Option (Lv Nat ξ ρ)}{N:Nat}(l:List α)(p:α→Bool)(f:Nat→ρ)(e:ξ)
  (hs:∀i x,l[i]?=some x→B i=some (if p x=true then .rt (f i)else .nx (i+1))) (he:B l.length=some (.ex e)) (hN:l.length<N):
  Ai B N 0=some (match l.findIdx? p with|some i=>.inr (f i)|none=>.inl e):=by
 suffices H:∀k i N,i+k=l.length→k<N→Ai B N i=some (match (l.drop i).findIdx? p with|some j=>.inr (f (i+j))|none=>.inl e)by
  have:=H l.length 0 N (by omega) hN
  simpa using this
 intro k
 induction k with
 |zero=>
  intro i N hi hN
  obtain⟨N,rfl⟩:∃m,N=m+1:=⟨N-1,by omega⟩
  have:i=l.length:=by omega
  subst this
  rw[Ai,he,Rx]
  rfl
 |succ k b=>
  intro i N hi hN
  obtain⟨N,rfl⟩:∃m,N=m+1:=⟨N-1,by omega⟩
  have a:i<l.length:=by omega
  rw[Ai,hs i l[i] (Ye a),HH a,List.findIdx?_cons]
  cases c:p l[i]with
  |true=>simp
  |false=>
   simp only[Yo,YQ]
   rw[b (i+1) N (by omega) (by omega)]
   cases(List.drop (i+1) l).findIdx? p with
   |none=>rfl
   |some j=>simp[YI,NZ 1 j]
def MZ(R:List α→α→Option ρ):List α→List α→Option ρ
 |_,[]=>none
 |p,x::l=>match R p x with
  |some r=>some r
  |none=>MZ R (p++[x]) l
theorem Zy8{B:σ→Option (Lv σ ξ ρ)}{N:Nat}(l:List α)(S:List α→β)(R:List α→α→Option ρ)(mk:Nat→β→σ)(e:β→ξ)
  (hs:∀i x,l[i]?=some x→B (mk i (S (l.take i)))=some (match R (l.take i) x with|some r=>.rt r|none=>.nx (mk (i+1) (S (l.take i++[x])))))
  (he:B (mk l.length (S l))=some (.ex (e (S l)))) (hN:l.length<N):Ai B N (mk 0 (S []))=some ((MZ R [] l).elim (.inl (e (S l))) .inr):=by
 suffices H:∀k i N,i+k=l.length→k<N→Ai B N (mk i (S (l.take i)))=some ((MZ R (l.take i) (l.drop i)).elim (.inl (e (S l))) .inr)by
  have:=H l.length 0 N (by omega) hN
  grind
 intro k
 induction k with
 |zero=>
  intro i N hi hN
  obtain⟨N,rfl⟩:∃m,N=m+1:=⟨N-1,by omega⟩
  have:i=l.length:=by omega
  subst this
  rw[Ai,LN,he,Rx]
  rfl
 |succ k b=>
  intro i N hi hN
  obtain⟨N,rfl⟩:∃m,N=m+1:=⟨N-1,by omega⟩
  have a:i<l.length:=by omega
  rw[Ai,hs i l[i] (Ye a),HH a,MZ]
  cases R (l.take i) l[i]with
  |some r=>rfl
  |none=>
   have:=b (i+1) N (by omega) (by omega)
   rw[Y8 a]at this
   exact this
theorem y7{R:List α→α→Option ρ}(h:∀p x,R p x=none):∀(l p:List α),MZ R p l=none
 |[],p=>rfl
 |x::l,p=>by rw[MZ,h];exact y7 h l _
theorem Dv{B:σ→Option (Lv σ ξ ρ)}{N:Nat}(l:List α)(S:List α→β)(mk:Nat→β→σ)(e:β→ξ)
  (hs:∀i x,l[i]?=some x→B (mk i (S (l.take i)))=some (.nx (mk (i+1) (S (l.take i++[x])))))
  (he:B (mk l.length (S l))=some (.ex (e (S l)))) (hN:l.length<N):Ai B N (mk 0 (S []))=some (.inl (e (S l))):=by
 rw[Zy8 l S (fun _ _=>none) mk e hs he hN,y7 fun _ _=>rfl]
 rfl
theorem ZoA{B:σ→Option (Lv σ ξ ρ)}(I:Nat→σ→Prop)(Q:ξ ⊕ ρ→Prop)
  (h:∀k v,I k v→∃o,B v=some o∧match o with|.nx c=>∃k',k'<k∧I k' c|.ex b=>Q (.inl b)|.rt y=>Q (.inr y)):
  ∀N k v,k<N→I k v→∃o,Ai B N v=some o∧Q o
 |0,k,v,d,_=>absurd d (Y6 _)
 |N+1,k,v,d,g=>by
  obtain⟨o,e,a⟩:=h k v g
  rw[Ai,e]
  cases o with
  |nx c=>obtain⟨k',i,f⟩:=a;exact ZoA I Q h N k' c (by omega) f
  |ex b=>exact⟨_,rfl,a⟩
  |rt y=>exact⟨_,rfl,a⟩
theorem Bs{l:List α}{i:Nat}{x:α}(h:l[i]?=some x):(i:Int)<(l.length:Int):=by
 grind
theorem AP{n:Nat}(h:n<4611686018427387904):n<Ah:=h
end
end Go.Eng
namespace Go.Proofs.YtbcmdieedjamgaaGreat
set_option linter.all false
open Go Go.Eng
def Ok{α:Type}(Q:α→Prop)(o:Option α):Prop:=∃y,o=some y∧Q y
section
variable {α β γ σ ξ ρ:Type} {Q:β→Prop} {P:α→Prop}
theorem AF{y:β}(h:Q y):Ok Q (some y):=⟨y,rfl,h⟩
theorem AG{m:Option α}{k:α→Option β}(h:Ok P m)(a:∀y,P y→Ok Q (k y)):Ok Q (m.bind k):=by
 obtain⟨y,rfl,h⟩:=h
 exact a y h
theorem BQ{xs:List α}{i:Nat}{k:α→Option β}(h:i<xs.length)(a:∀x,xs[i]?=some x→x∈xs→Ok Q (k x)):Ok Q (xs[i]?.bind k):=by
 rw[Ye h]
 exact a _ (Ye h) (Gk h)
theorem AI{b:Bool}{x y:Option β}(h:b=true→Ok Q x)(a:b=false→Ok Q y):Ok Q (if b=true then x else y):=by
 cases b
 ·exact a rfl
 ·exact h rfl
theorem AM{c:Prop}{d:Decidable c}{a:Option β}(b:c)(h:Ok Q a):Ok Q (if c then a else none):=by
 rw[Yi b]
 exact h
theorem ux{lo hi:Bd}{n:Nat}{a:Option β}(b:lo.c∧hi.c∧lo.vl 0≤hi.vl n∧hi.vl n≤n)(h:Ok Q a):Ok Q (if lo.c∧hi.c∧lo.vl 0≤hi.vl n∧hi.vl n≤n then a else none):=by
 rw[Yi b]
 exact h
theorem Bq{b:Bool}{m:Option α}{x:Option β}(h:b=true→Ok P m)[Inhabited α](d:(b=true→P (m.getD default))→Ok Q x):Ok Q (if(b=true→m.isSome=true)then x else none):=by
 rw[Yi fun e=>by obtain⟨y,h,_⟩:=h e;rw[h];rfl]
 refine d fun e=>?_
 obtain⟨y,a,c⟩:=h e
 rw[a]
 exact c
theorem Gv{b:Bool}{xs:List α}{i:Int}{x:Option β}[Rw α](h:b=true→0≤i∧i<xs.length)(c:(b=true→xs[i.toNat]?=some (xs.getD i.toNat Rw.z)∧xs.getD i.toNat Rw.z∈xs)→Ok Q x):Ok Q (if(b=true→0≤i∧i<xs.length)then x else none):=by
 rw[Yi h]
 refine c fun e=>?_
 have d:=h e
 have a:i.toNat<xs.length:=by omega
 rw[Yg,Ye a]
 exact⟨rfl,Gk a⟩
theorem Bt{B:σ→Option (Lv σ ξ ρ)}{N:Nat}{v:σ}(I:σ→Prop)(μ:σ→Nat){A:ξ→Prop}{R:ρ→Prop}(d:I v)(hN:μ v<N)
  (hs:∀v,I v→Ok (fun o=>match o with|.nx c=>I c∧μ c<μ v|.ex b=>A b|.rt y=>R y) (B v)):Ok (Sum.elim A R) (Ai B N v):=
 ZoA (fun k v=>I v∧μ v≤k) (Sum.elim A R) (fun k v h=>by
  obtain⟨o,e,a⟩:=hs v h.1
  refine⟨o,e,?_⟩
  cases o with
  |nx c=>exact⟨μ c,by have:=a.2;have:=h.2;omega,a.1,Yf _⟩
  |ex b=>exact a
  |rt y=>exact a) N (μ v) v hN ⟨d,Yf _⟩
theorem BI{m:Option (ξ ⊕ ρ)}{A:ξ→Prop}{R:ρ→Prop}{f:ξ→Option β}{g:ρ→Option β}(h:Ok (Sum.elim A R) m)(hx:∀b,A b→Ok Q (f b))(a:∀r,R r→Ok Q (g r)):Ok Q (m.bind (Sum.elim f g)):=by
 obtain⟨y,rfl,h⟩:=h
 cases y with
 |inl b=>exact hx b h
 |inr r=>exact a r h
theorem Ok.mono{a:β→Prop}{o:Option β}(h:Ok Q o)(k:∀y,Q y→a y):Ok a o:=by
 obtain⟨y,b,c⟩:=h
 exact⟨y,b,k y c⟩
theorem Ok.some{o:Option β}(h:Ok Q o):o.isSome=true:=by
 obtain⟨y,a,b⟩:=h
 rw[a]
 rfl
end
abbrev Tr{α:Type}:α→Prop:=fun _=>True
abbrev No{α:Type}:α→Prop:=fun _=>False
abbrev Ts{α β:Type}:α ⊕ β→Prop:=Sum.elim Tr Tr
theorem sz0:(⟨#[]⟩:ByteArray).size=0:=rfl
theorem AX{p:Prop}(h:p:=by first|trivial|assumption|contradiction|omega|grind|(simp only[Bd.c,Bd.vl,ByteArray.size_append,ByteArray.size_extract,sz0]at*;grind)):p:=h
theorem Cc{p:Prop}(h:p:=by first|trivial|assumption|contradiction|omega|solve_by_elim|(simp only[Yc,YH,YK,Kc,Ke,YB,YT]at*;omega)|grind):p:=h
theorem RZ(x:Int):Ok Tr (yy x):=⟨_,rfl,trivial⟩
theorem Sw(x:Int):Ok Tr (yq x):=⟨_,rfl,trivial⟩
theorem wR(x:Val):Ok Tr (O0 x):=⟨_,rfl,trivial⟩
theorem x4(x:Int):Ok Tr (Mr x):=⟨_,rfl,trivial⟩
theorem xK(x:Int):Ok Tr (OT x):=by
 dsimp only[OT,gZ,br,lr,br,rem]
 (repeat' (first|with_reducible (first|refine AI (fun _=>?_) fun _=>?_|refine AF ?_|refine AM ?_ ?_)))<;>exact Cc
theorem bU(x:ByteArray):Ok Tr (cG x):=by
 dsimp only[cG,lj,Tw,Ph,O9,br,lr,br]
 (repeat' (first|with_reducible (first|refine AI (fun _=>?_) fun _=>?_|refine AF ?_|refine AM ?_ ?_)))<;>exact Cc
theorem ZXh(x:ByteArray)(n:Int):Ok Tr (cI x n):=by
 dsimp only[cI,lS,dX,Tv,Tj,Pa,Pb,Te,br,lr,br]
 (repeat' (first|with_reducible (first|refine AI (fun _=>?_) fun _=>?_|refine AF ?_|refine AM ?_ ?_)))<;>exact Cc
theorem bQ(x:ByteArray):Ok Tr (cR x):=by
 dsimp only[cR,o1,br,lr,br]
 (repeat' (first|with_reducible (first|refine AI (fun _=>?_) fun _=>?_|refine AF ?_|refine AM ?_ ?_)))<;>exact Cc
def LA(x:Fld):Prop:=(x.card≠5→1≤x.card∧x.card≤4∧x.key=0)∧(x.card=5→x.key=1∨x.key=2∨x.key=3∨x.key=4∨x.key=5∨x.key=7)
theorem o91(x:Fld):Ok (fun b=>b=true→LA x) (cB x):=by
 unfold LA
 dsimp only[cB,o4,br,wg,lr,br]
 (repeat' (first|with_reducible (first|refine AI (fun _=>?_) fun _=>?_|refine AF ?_|refine AM ?_ ?_)))<;>(intro h;first|(cases h;done)|(simp only[Yc,YK,Xh,YB,YT]at*;omega))
theorem bS(x:ByteArray)(i a b:Int)(h:0≤i):Ok Tr (Mo x i a b):=by
 dsimp only[Mo,gg,vz,lr,Bp,Gg]
 (repeat' (first|with_reducible (first|refine AI (fun _=>?_) fun _=>?_|refine AF ?_|refine AM ?_ ?_)))<;>exact Cc
theorem xP(x:ByteArray)(i n:Int)(h:0≤i)(a:i≤2097152)(b:n≤9):Ok Tr (KV x i n):=by
 have q:Ok Ts (Ai (Le x i n) Ah 0):=by
  refine Bt (fun _:Nat=>True) (fun v:Nat=>(n-v).toNat) trivial ?_ fun v _=>?_
  ·unfold Ah
   omega
  dsimp only[Le,Vc,br,vs,At,ln,Af,cl,wa,wi,br]
  (repeat' (first|with_reducible (first|refine AI (fun _=>?_) fun _=>?_|refine AF ?_)|(with_reducible apply AG;(exact bS _ _ _ _ (by omega));intro _ _)|with_reducible refine AM ?_ ?_))<;>exact Cc
 dsimp only[KV,fJ,fH,gp,lr,lc]
 (repeat' (first|with_reducible (first|refine AI (fun _=>?_) fun _=>?_|refine AF ?_)|(with_reducible apply BI;(exact q);all_goals(intro _ _;try dsimp only))|with_reducible refine AM ?_ ?_))<;>exact Cc
set_option maxRecDepth 20000 in
theorem ZXE(x:ByteArray)(i:Int)(h:0≤i)(h1:i<x.size)(h2:x.size≤1048576):Ok (fun y=>0≤y∧y≤4) (O2 x i):=by
 dsimp only[O2,ga,br,vg,lr,AH,wi,br,QM]
 (repeat' (first|with_reducible (first|refine AI (fun _=>?_) fun _=>?_|refine AF ?_|refine BQ ?_ fun _ _ _=>?_)|(with_reducible apply AG;(exact bS _ _ _ _ (by omega));intro _ _)|(with_reducible apply AG;(exact xP _ _ _ (by omega) (by omega) (by omega));intro _ _)|(with_reducible apply Bq;(exact fun _=>bS _ _ _ _ (by omega));intro _)|(with_reducible apply Bq;(exact fun _=>xP _ _ _ (by omega) (by omega) (by omega));intro _)|with_reducible refine AM ?_ ?_))<;>exact Cc
theorem Gw:∀a b:List (List D),AE (a++b)=AE a+AE b
 |[],b=>by rw[Fy,AE,YN]
 |x::a,b=>by rw[HG,AE,AE,Gw a b];omega
theorem Tu{α:Type}(e:α→List D){l:List α}{i:Nat}{x:α}(h:l[i]?=some x):AE ((l.take (i+1)).map e)=AE ((l.take i).map e)+An (e x)+1:=by
 obtain⟨a,rfl⟩:=Yb.1 h
 rw[Y8 a,DO,Gw]
 simp only[YS,D3,AE]
 omega
theorem MM{α:Type}(e:α→List D)(l:List α)(i:Nat):AE ((l.take i).map e)≤AE (l.map e):=by
 conv=>rhs;rw[←G0 i l,DO,Gw]
 omega
structure SzV (v:Val):Prop where
 t:v.text.size≤1048576
 l:v.list.length≤1048576
 p:v.pairs.length≤1048576
 s:v.slots.length≤1048576
 r:v.raws.length≤1048576
structure SzN (x:Nt):Prop where
 n:x.name.size≤1048576
 v:SzV x.val
abbrev IH(l:List Nt):Prop:=l.length≤1048576∧∀x∈l,SzN x
structure SzF (x:Fld):Prop where
 n:x.name.size≤1048576
 t:x.type.name.size≤1048576
 u:x.union.size≤1048576
 d:SzV x.dflt
 o:IH x.notes
structure SzM (x:Msg):Prop where
 n:x.name.size≤1048576
 fl:x.fields.length≤1048576
 f:∀y∈x.fields,SzF y
 r:x.reserved.length≤1048576
 gl:x.gone.length≤1048576
 g:∀y∈x.gone,y.size≤1048576
 o:IH x.notes
structure SzI (x:Itm):Prop where
 n:x.name.size≤1048576
 o:IH x.notes
structure SzE (x:Enm):Prop where
 n:x.name.size≤1048576
 il:x.items.length≤1048576
 i:∀y∈x.items,SzI y
 r:x.reserved.length≤1048576
 o:IH x.notes
structure SzT (x:Mth):Prop where
 n:x.name.size≤1048576
 o:IH x.notes
structure SzW (x:Svc):Prop where
 n:x.name.size≤1048576
 ml:x.methods.length≤1048576
 m:∀y∈x.methods,SzT y
 o:IH x.notes
structure SzS (x:Scm):Prop where
 ml:x.messages.length≤1048576
 m:∀y∈x.messages,SzM y
 el:x.enums.length≤1048576
 e:∀y∈x.enums,SzE y
 wl:x.services.length≤1048576
 w:∀y∈x.services,SzW y
theorem CN{v:Val}(h:An (Ae v)≤1048576):SzV v:=by
 have a:=Ce (e:=Az) v.list
 have b:=Ce (e:=Ap) v.pairs
 have c:=Ce (e:=Aq) v.slots
 have d:=Ce (e:=Av) v.raws
 simp only[Ae,An,bk]at h
 constructor<;>omega
theorem se{v:Val}(h:An (Ae v)≤1048576):0≤v.bits∧v.bits≤18446744073709551615:=by
 simp only[Ae,An,bk]at h
 have:=uE (k:=.u64) (n:=v.bits) (by omega)
 exact this
theorem szN{x:Nt}(h:An (B6 x)≤1048576):SzN x:=by
 have e:An (B6 x)=x.name.size+An (Ae x.val):=by simp only[B6,Ae,An,bk]
 exact⟨by omega,CN (by omega)⟩
theorem L8{l:List Nt}(h:AE (l.map B6)≤1048576):IH l:=⟨by have:=Ce (e:=B6) l;omega,fun x hx=>szN (by have:=Cu (e:=B6) hx;omega)⟩
theorem szF{x:Fld}(h:An (Aw x)≤1048576):SzF x:=by
 have e:x.name.size+x.type.name.size+x.union.size+An (Ae x.dflt)+AE (x.notes.map B6)≤An (Aw x):=by
  simp only[Aw,Ae,An,bk]
  omega
 exact⟨by omega,by omega,by omega,CN (by omega),L8 (by omega)⟩
theorem szM{x:Msg}(h:An (AK x)≤1048576):SzM x:=by
 simp only[AK,An,bk]at h
 have a:=Ce (e:=Aw) x.fields
 have b:=Ce (e:=Cz) x.reserved
 have c:=Ce (e:=Bn) x.gone
 exact⟨by omega,by omega,fun y hy=>szF (by have:=Cu (e:=Aw) hy;omega),by omega,by omega,fun y hy=>by have:=Cu (e:=Bn) hy;simp only[Bn,An,bk]at this;omega,L8 (by omega)⟩
theorem szI{x:Itm}(h:An (FY x)≤1048576):SzI x:=by
 simp only[FY,An,bk]at h
 exact⟨by omega,L8 (by omega)⟩
theorem szE{x:Enm}(h:An (Cr x)≤1048576):SzE x:=by
 simp only[Cr,An,bk]at h
 have a:=Ce (e:=FY) x.items
 have b:=Ce (e:=Cz) x.reserved
 exact⟨by omega,by omega,fun y hy=>szI (by have:=Cu (e:=FY) hy;omega),by omega,L8 (by omega)⟩
theorem szT{x:Mth}(h:An (Hk x)≤1048576):SzT x:=by
 simp only[Hk,An,bk]at h
 exact⟨by omega,L8 (by omega)⟩
theorem szW{x:Svc}(h:An (Di x)≤1048576):SzW x:=by
 simp only[Di,An,bk]at h
 have a:=Ce (e:=Hk) x.methods
 exact⟨by omega,by omega,fun y hy=>szT (by have:=Cu (e:=Hk) hy;omega),L8 (by omega)⟩
theorem Ft{x:Scm}(h:An (Al x)≤1048576):SzS x:=by
 simp only[Al,An,bk]at h
 have a:=Ce (e:=AK) x.messages
 have b:=Ce (e:=Cr) x.enums
 have c:=Ce (e:=Di) x.services
 exact⟨by omega,fun y hy=>szM (by have:=Cu (e:=AK) hy;omega),by omega,fun y hy=>szE (by have:=Cu (e:=Cr) hy;omega),by omega,fun y hy=>szW (by have:=Cu (e:=Di) hy;omega)⟩
end Go.Proofs.YtbcmdieedjamgaaGreat
