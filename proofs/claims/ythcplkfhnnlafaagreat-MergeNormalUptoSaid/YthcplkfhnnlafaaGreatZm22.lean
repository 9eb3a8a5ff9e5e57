import Derived.Test.YthcplkfhnnlafaaGreatZm21
import Derived.Test.YthcplkfhnnlafaaGreatZm09
import Derived.Test.YthcplkfhnnlafaaGreatZm08
import Derived.Test.YthcplkfhnnlafaaGreatRows
import Derived.WalkKit
import Derived.ProofKit
import Derived.OpenShut
import Derived.Carry
import Derived.Deep.DeepHandedRow
import Derived.Test.YthcplkfhnnlafaaGreatZm11
import Derived.Test.YthcplkfhnnlafaaGreatZm00
namespace Go.Proofs.YthcplkfhnnlafaaGreat
set_option maxRecDepth 100000
set_option linter.all false
open Go Go.Eng
abbrev NB:List (Ad×Bool):=[((1,6),false),((1,8),false),((1,1083),true)]
abbrev Qq:List (Ad×Bool):=[((1,6),false),((1,11),false),((1,1114),true)]
abbrev C6:Ad×Blk:=kk 6 33 7 [vI 0,.d (.int .u64 0),vS ⟨#[]⟩,.e0,.e0,.e0,.e0]
abbrev I7(a:Scm):Ad×Blk:=kk 3 26 3 (cD (Al a))
abbrev I2(a:Fld):Ad×Blk:=kk 4 50 16 (cD (As a))
abbrev MQ(a:Val):Ad×Blk:=kk 5 33 7 (cD (Ae a))
abbrev cb(a:List Val):Ad×Blk:=kk 8 33 7 [vI 11,.d (.int .u64 0),vS ⟨#[]⟩,.ref (1,1083) 0 0 a.length,.e0,.e0,.e0]
abbrev a8(a:List Val):Ad×Blk:=kk 6 33 7 [vI 11,.d (.int .u64 0),vS ⟨#[]⟩,.ref (1,1083) 0 0 a.length,.e0,.e0,.e0]
abbrev aV(a:List Pr):Ad×Blk:=kk 11 33 7 [vI 12,.d (.int .u64 0),vS ⟨#[]⟩,.e0,.ref (1,1114) 0 0 a.length,.e0,.e0]
abbrev cg(a:List Pr):Ad×Blk:=kk 6 33 7 [vI 12,.d (.int .u64 0),vS ⟨#[]⟩,.e0,.ref (1,1114) 0 0 a.length,.e0,.e0]
abbrev r7(a:List Val)(b:Val):Ad×Blk:=kk 8 33 7 [vI 11,.d (.int .u64 0),vS ⟨#[]⟩,.ref (1,1083) 0 0 (a++[b]).length,.e0,.e0,.e0]
abbrev sB:Ad×Blk:=kk 8 33 7 [vI 11,.d (.int .u64 0),vS ⟨#[]⟩,.e0,.e0,.e0,.e0]
abbrev py:Ad×Blk:=kk 11 33 7 [vI 12,.d (.int .u64 0),vS ⟨#[]⟩,.e0,.e0,.e0,.e0]
abbrev rX(a:Val):Ad×Blk:=kk 6 33 7 (cD (Ae a))
def mE:Pl:=(.opt [1,10] 1 (.fst 10 (.fst 11 (.fst 12 (.fst 13 (.fst 14 (.fst 15 .nil)))))) (.opt [1,10] 10 (.fst 11 (.fst 1 (.fst 12 (.fst 13 (.fst 14 (.fst 15 .nil)))))) .nil))
def ZIR:Pl:=(.opt [1,4] 1 (.fst 4 (.fst 10 (.fst 11 (.fst 12 (.fst 13 (.fst 14 (.fst 15 .nil))))))) (.opt [1,4] 4 mE .nil))
def ZKy:Pl:=(.opt [4,9] 4 (.fst 9 (.fst 10 (.fst 11 (.fst 12 (.fst 13 (.fst 14 (.fst 15 .nil))))))) (.opt [4,9] 9 (.fst 4 (.fst 10 (.fst 11 (.fst 12 (.fst 13 (.fst 14 (.fst 15 .nil))))))) .nil))
def ZK2:Pl:=(.opt [1,4,9] 1 ZKy (.opt [1,4,9] 4 (.fst 9 mE) (.opt [1,4,9] 9 ZIR .nil)))
def qP(c:Scm)(d:Fld)(a:Val):Nat×List Val->St:=λ(e,b)=>Ac [(3,.iptr (Al c) 0),(4,.iptr (As d) 0),pp 6,pp 8,(20,vL AE a.list),(21,vN a.list.length),(22,vN e)] [C6,(cb b),kk 1083 33 7 (Ab AE b)]
def p4:List Val->Nat×St:=λa=>(1,Ac [pp 6,pp 8] [C6,kk 8 33 7 [vI 11,.d (.int .u64 0),vS ⟨#[]⟩,.ref (1,1083) 0 0 a.length,.e0,.e0,.e0],kk 1083 33 7 (Ab AE a)])
def XS(d:Scm)(e:Fld)(f:Val)(b:Nat)(a:List Val)(c:Val):PT 0 (Lv (Nat×List Val) (List Val) (Val×Bool)):=vs (wa b 1)<|vz (fl (a++[c]))<|ln (qP d e f) (b+1,a++[c])
def X8(c:Scm)(d:Fld)(e:Val)(f:Ec)(h:Nat)(b:List Val)(g:Val):PT 0 (Lv (Nat×List Val) (List Val) (Val×Bool)):=wg<|tw (wg<|cs Tryz.prog 121 [.agg ((Al c).map .d),.agg ((CR d.type).map .d),.agg ((Ae g).map .d)] [] [] (G9 f c d.type g) (λy=>.agg ((Ae y).map .d)) λa=>vw .sep<|ap b (a:Val)<|wg<|vz (fl (b++[a]))<|lc (Ac [(3,.iptr (Al c) 0),(4,.iptr (As d) 0),pp 6,pp 8,(20,vL AE e.list),(21,vN e.list.length),(22,vN h)] [C6,(r7 b a),kk 1083 33 7 (Ab AE (b++[a]))]) ((XS c d e h b a).m)) (cs Tryz.prog 121 [.agg ((Al c).map .d),.agg ((CR d.type).map .d),.agg ((Ae g).map .d)] [] [] (G9 f c d.type g) (λy=>.agg ((Ae y).map .d)) λa=>wg<|vw .sep<|ap b (a:Val)<|wg<|vz (fl (b++[a]))<|lc (Ac [(3,.iptr (Al c) 0),(4,.iptr (As d) 0),pp 6,pp 8,(20,vL AE e.list),(21,vN e.list.length),(22,vN h)] [C6,(r7 b a),kk 1083 33 7 (Ab AE (b++[a]))]) ((XS c d e h b a).m))
def OW(e:Scm)(f:Fld)(b:Val)(d:Ec):Nat×List Val->Option (Lv (Nat×List Val) (List Val) (Val×Bool)):=λ(c,a)=>(br (decide ((c:Int)<(b.list.length:Int))) (vz (fl a)<|lc (Ac [(3,.iptr (Al e) 0),(4,.iptr (As f) 0),pp 6,pp 8,(20,vL AE b.list),(21,vN b.list.length),(22,vN c)] [C6,(cb a),kk 1083 33 7 (Ab AE a)]) ((ix b.list c λg=>wg<|vz (fl a)<|lc (Ac [(3,.iptr (Al e) 0),(4,.iptr (As f) 0),pp 6,pp 8,pp 10,(20,vL AE b.list),(21,vN b.list.length),(22,vN c)] [C6,(cb a),kk 10 33 7 (cD (Ae g)),kk 1083 33 7 (Ab AE a)]) ((X8 e f b d c a g).m):PT 0 _).m)) (vz (fl a)<|Af (p4) a):PT 0 _).m
def XT(a:List Val):PT 0 (Val×Bool):=vz (fr a)<|lr JY nG ((.mk 11 0 ⟨#[]⟩ a [] [] []:Val),decide ((0:Int)<(a.length:Int)))
def g0(a:List Val):PT 0 (Val×Bool):=wg<|vz (fl a)<|lc (Ac [pp 6,(7,vB (decide ((0:Int)<(a.length:Int))))] [(a8 a),kk 1083 33 7 (Ab AE a)]) ((XT a).m)
def bj(a:List Val):PT 0 (Val×Bool):=tw (wg<|tw (wg<|vz (A3 a.length)<|du (g0 a)) (wg<|wg<|vz (A3 a.length)<|vz (fl a)<|lc (Ac [pp 6,(7,vB (decide ((0:Int)<(a.length:Int))))] [(a8 a),kk 1083 33 7 (Ab AE a)]) ((XT a).m))) (wg<|vz (A3 a.length)<|tw (wg<|du (g0 a)) (wg<|wg<|vz (fl a)<|lc (Ac [pp 6,(7,vB (decide ((0:Int)<(a.length:Int))))] [(a8 a),kk 1083 33 7 (Ab AE a)]) ((XT a).m)))
def rr(c:Scm)(d:Fld)(b:List Pr):Nat×List Pr->St:=λ(e,a)=>Ac [(3,.iptr (Al c) 0),(4,.iptr (As d) 0),pp 6,pp 11,(47,vL Ap b),(48,vN b.length),(49,vN e)] [C6,(aV a),kk 1114 92 14 (Ab Ap a)]
def o8:List Pr->Nat×St:=λa=>(3,Ac [pp 6,pp 11] [C6,kk 11 33 7 [vI 12,.d (.int .u64 0),vS ⟨#[]⟩,.e0,.ref (1,1114) 0 0 a.length,.e0,.e0],kk 1114 92 14 (Ab Ap a)])
def K4(f:Scm)(g:Fld)(e:List Pr)(d:Nat)(c:List Pr)(a:Val)(b:Val):PT 0 (Lv (Nat×List Pr) (List Pr) (Val×Bool)):=vz (fl (c++([(.mk a b:Pr)])))<|lc (Ac [(3,.iptr (Al f) 0),(4,.iptr (As g) 0),pp 6,pp 11,(47,vL Ap e),(48,vN e.length),(49,vN d)] [C6,kk 11 33 7 [vI 12,.d (.int .u64 0),vS ⟨#[]⟩,.e0,.ref (1,1114) 0 0 (c++([(.mk a b:Pr)])).length,.e0,.e0],kk 1114 92 14 (Ab Ap (c++([(.mk a b:Pr)])))]) ((vs (wa d 1)<|vz (fl (c++([(.mk a b:Pr)])))<|ln (rr f g e) (d+1,c++([(.mk a b:Pr)])):PT 0 _).m)
def RH(c:Scm)(d:Fld)(e:Ec)(i:List Pr)(h:Nat)(g:List Pr)(f:Pr)(b:Val):PT 0 (Lv (Nat×List Pr) (List Pr) (Val×Bool)):=tw (wg<|cs Tryz.prog 121 [.agg ((Al c).map .d),.agg ((CR d.type).map .d),.agg ((Ae f.val).map .d)] [] [] (G9 e c d.type f.val) (λy=>.agg ((Ae y).map .d)) λa=>vw .sep<|ap g ((.mk b a:Pr):Pr)<|wg<|(K4 c d i h g b a)) (cs Tryz.prog 121 [.agg ((Al c).map .d),.agg ((CR d.type).map .d),.agg ((Ae f.val).map .d)] [] [] (G9 e c d.type f.val) (λy=>.agg ((Ae y).map .d)) λa=>wg<|vw .sep<|ap g ((.mk b a:Pr):Pr)<|wg<|(K4 c d i h g b a))
def Xa(e:Scm)(f:Fld)(d:Ec)(i:List Pr)(h:Nat)(g:List Pr)(c:Pr):PT 0 (Lv (Nat×List Pr) (List Pr) (Val×Bool)):=wg<|(tw (wg<|(tw (cl (OP c.key) λa=>wg<|cs Tryz.prog 121 [.agg ((Al e).map .d),.agg ((CR f.type).map .d),.agg ((Ae c.val).map .d)] [] [] (G9 d e f.type c.val) (λy=>.agg ((Ae y).map .d)) λb=>vw .sep<|ap g ((.mk a b:Pr):Pr)<|wg<|(K4 e f i h g a b)) (wg<|cl (OP c.key) λa=>cs Tryz.prog 121 [.agg ((Al e).map .d),.agg ((CR f.type).map .d),.agg ((Ae c.val).map .d)] [] [] (G9 d e f.type c.val) (λy=>.agg ((Ae y).map .d)) λb=>vw .sep<|ap g ((.mk a b:Pr):Pr)<|wg<|(K4 e f i h g a b)))) (tw (cl (OP c.key) λa=>wg<|(RH e f d i h g c a)) (wg<|(tw (wg<|cl (OP c.key) λa=>cs Tryz.prog 121 [.agg ((Al e).map .d),.agg ((CR f.type).map .d),.agg ((Ae c.val).map .d)] [] [] (G9 d e f.type c.val) (λy=>.agg ((Ae y).map .d)) λb=>vw .sep<|ap g ((.mk a b:Pr):Pr)<|wg<|(K4 e f i h g a b)) (cl (OP c.key) λa=>(RH e f d i h g c a))))))
def OX(e:Scm)(f:Fld)(d:Ec)(b:List Pr):Nat×List Pr->Option (Lv (Nat×List Pr) (List Pr) (Val×Bool)):=λ(c,a)=>(br (decide ((c:Int)<(b.length:Int))) (vz (fl a)<|lc (Ac [(3,.iptr (Al e) 0),(4,.iptr (As f) 0),pp 6,pp 11,(47,vL Ap b),(48,vN b.length),(49,vN c)] [C6,(aV a),kk 1114 92 14 (Ab Ap a)]) ((ix b c λg=>wg<|vz (fl a)<|lc (Ac [(3,.iptr (Al e) 0),(4,.iptr (As f) 0),pp 6,pp 11,pp 13,(47,vL Ap b),(48,vN b.length),(49,vN c)] [C6,(aV a),kk 13 92 14 (cD (Dc g)),kk 1114 92 14 (Ab Ap a)]) ((Xa e f d b c a g).m):PT 0 _).m)) (vz (fl a)<|Af (o8) a):PT 0 _).m
def Xr(a:List Pr):PT 0 (Val×Bool):=vz (fr a)<|lr JY nG ((.mk 12 0 ⟨#[]⟩ [] a [] []:Val),decide ((0:Int)<(a.length:Int)))
def gp(a:List Pr):PT 0 (Val×Bool):=wg<|vz (fl a)<|lc (Ac [pp 6,(7,vB (decide ((0:Int)<(a.length:Int))))] [(cg a),kk 1114 92 14 (Ab Ap a)]) ((Xr a).m)
def jv(a:List Pr):PT 0 (Val×Bool):=tw (wg<|tw (wg<|vz (A3 a.length)<|du (gp a)) (wg<|wg<|vz (A3 a.length)<|vz (fl a)<|lc (Ac [pp 6,(7,vB (decide ((0:Int)<(a.length:Int))))] [(cg a),kk 1114 92 14 (Ab Ap a)]) ((Xr a).m))) (wg<|vz (A3 a.length)<|tw (wg<|du (gp a)) (wg<|wg<|vz (fl a)<|lc (Ac [pp 6,(7,vB (decide ((0:Int)<(a.length:Int))))] [(cg a),kk 1114 92 14 (Ab Ap a)]) ((Xr a).m)))
def jC(c:Fld)(a:Val)(b:Bool):PT 0 (Val×Bool):=lr JY nG (a,((!decide (c.card=(3:Int)))||(!b)))
def i4(f:Scm)(c:Fld)(e:Val)(d:Ec):PT 0 (Val×Bool):=vw (.fzb 3 [3])<|vw (.fzb 4 [4])<|vw (.fzb 5 [5])<|vw .sep<|du (cs Tryz.prog 121 [.agg ((Al f).map .d),.agg ((CR c.type).map .d),.agg ((Ae e).map .d)] [] [] (G9 d f c.type e) (λy=>.agg ((Ae y).map .d)) λa=>Az (!(!decide (c.card=(3:Int)))) (ZQN e) λb=>tw (du (wg<|lc (Ac [pp 6,(7,vB ((!decide (c.card=(3:Int)))||(!b)))] [(rX a)]) ((jC c a b).m))) (wg<|lc (Ac [pp 6,(7,vB ((!decide (c.card=(3:Int)))||(!b)))] [(rX a)]) ((jC c a b).m)))
def UL(d:Ec)(c:Scm)(a:Fld)(b:Val):Option (Val×Bool):=(lc (Ac [pp 3,pp 4,pp 5,pp 6] [(I7 c),(I2 a),(MQ b),C6]) ((wg<|lc (Ac [pp 3,pp 4,pp 5,pp 6,(15,vI a.card)] [(I7 c),(I2 a),(MQ b),C6]) ((lc (Ac [pp 3,pp 4,pp 5,pp 6,(15,vI a.card),(16,vB (decide (a.card=(4:Int))))] [(I7 c),(I2 a),(MQ b),C6]) (if decide (a.card=(4:Int))=true then(wg<|lc (Ac [pp 3,pp 4,pp 5,pp 6,pp 8] [(I7 c),(I2 a),(MQ b),C6,sB]) ((wg<|vz (Ah b.list)<|lc (Ac [pp 3,pp 4,pp 6,pp 8,(20,vL AE b.list),(21,vN b.list.length),(22,vI 0)] [(I7 c),(I2 a),C6,sB]) ((vw (.adc (1,8) 3 1083 33 7)<|vw (.fzb 3 [3])<|vw (.fzb 4 [4])<|vz (fl ([]:List Val))<|lc (Ac [(3,.iptr (Al c) 0),(4,.iptr (As a) 0),pp 6,pp 8,(20,vL AE b.list),(21,vN b.list.length),(22,vI 0)] [C6,kk 8 33 7 [vI 11,.d (.int .u64 0),vS ⟨#[]⟩,.ref (1,1083) 0 0 ([]:List Val).length,.e0,.e0,.e0],kk 1083 33 7 (Ab AE ([]:List Val))]) ((Aj (OW c a b d) Ag (0,([]:List Val))).bind (Sum.elim (λg=>(bj g).m) some)):PT 0 _).m):PT 0 _).m):PT 0 _).m else(lc (Ac [pp 3,pp 4,pp 5,pp 6,(42,vB (decide (a.card=(5:Int))))] [(I7 c),(I2 a),(MQ b),C6]) (if decide (a.card=(5:Int))=true then(wg<|lc (Ac [pp 3,pp 4,pp 5,pp 6,pp 11] [(I7 c),(I2 a),(MQ b),C6,py]) ((wg<|cl (tx b.pairs) λe=>vz (Ah e)<|lc (Ac [pp 3,pp 4,pp 6,pp 11,(47,vL Ap e),(48,vN e.length),(49,vI 0)] [(I7 c),(I2 a),C6,py]) ((vw (.adc (1,11) 4 1114 92 14)<|vw (.fzb 3 [3])<|vw (.fzb 4 [4])<|vz (fl ([]:List Pr))<|lc (Ac [(3,.iptr (Al c) 0),(4,.iptr (As a) 0),pp 6,pp 11,(47,vL Ap e),(48,vN e.length),(49,vI 0)] [C6,kk 11 33 7 [vI 12,.d (.int .u64 0),vS ⟨#[]⟩,.e0,.ref (1,1114) 0 0 ([]:List Pr).length,.e0,.e0],kk 1114 92 14 (Ab Ap ([]:List Pr))]) ((Aj (OX c a d e) Ag (0,([]:List Pr))).bind (Sum.elim (λf=>(jv f).m) some)):PT 0 _).m):PT 0 _).m):PT 0 _).m else(lc (Ac [pp 3,pp 4,pp 5,pp 6] [(I7 c),(I2 a),(MQ b),C6]) ((i4 c a b d).m):PT 0 _).m):PT 0 _).m):PT 0 _).m):PT 0 _).m):PT 0 _).m
theorem ZDB{C:Cx}(co:CO C 0)(b:Scm)(c:Fld)(j:Val)(a:Ec)(e:NE a):KL Tryz.prog (At tl) 87 C (pa [0,0,1,0,1,0,1,0,1,0,1] (Au Tryz.f76)) [.cell 6 33,.tmp 7] 0 (qP b c j) (p4) JY nG (OW b c j a):=λ(n,l) _ m Q k f L=>mJ co 2 (Aa [3,4,6,8,20,21,22] NB) (Aa [6,8] NB) f m L λr g=>⟨λ_ m L=>sq (bk 2 (mJ co 1 (Aa [3,4,6,8,10,20,21,22] [((1,6),false),((1,8),false),((1,10),false),((1,1083),true)]) nl f m L λr g=>λd=>λ_ m L=>Et co AJ BS (.fst 0 (.fst 2 (.fst 3 (.fst 4 (.fst 5 (.two 1 6 (.fst 6 (.fst 7 (.fst 8 (.fst 9 (.fst 10 .nil))))) (.fst 1 (.fst 7 (.fst 8 (.fst 9 (.fst 10 .nil))))))))))) [3,4] (X8 b c j a n l d) (Aa [3,4,6,8,20,21,22] NB) m L λr g=>⟨⟨λy hy i _ _=>by rw[(CM a e b c.type d).x,(CM a e b c.type d).e];exact(CM a e b c.type d).k _ i y hy,λo=>λ_ m L=>eN co (Aa [3,4,6,8,20,21,22] NB) nl f m L⟩,⟨λy hy i _ _=>by rw[(CM a e b c.type d).x,(CM a e b c.type d).e];exact(CM a e b c.type d).k _ i y hy,λo=>λ_ m L=>eN co (Aa [3,4,6,8,20,21,22] NB) nl f m L⟩,λ_ h=>h⟩)),id⟩
theorem ZDb{C:Cx}(co:CO C 0)(d:Scm)(e:Fld)(a:Ec)(n:List Pr)(i:NE a):KL Tryz.prog (At tl) 87 C (pa [0,0,1,0,1,0,1,1,1,0,1,0,1] (Au Tryz.f76)) [.cell 6 33,.tmp 7] 0 (rr d e n) (o8) JY nG (OX d e a n):=λ(u,t) _ m Q v s L=>mJ co 2 (Aa [3,4,6,11,47,48,49] Qq) (Aa [6,11] Qq) s m L λr g=>⟨λ_ m L=>sq (bk 4 (mJ co 1 (Aa [3,4,6,11,13,47,48,49] [((1,6),false),((1,11),false),((1,13),false),((1,1114),true)]) nl s m L λr g=>λf=>λ_ m L=>Et co AJ BS (.fst 0 (.fst 2 (.fst 5 (.fst 6 (.fst 7 (.fst 8 (.fst 3 ZK2))))))) [3,4] (Xa d e a n u t f) (Aa [3,4,6,11,47,48,49] Qq) m L λr g=>JT (λ(k:∀(b:Val) (c:Val),PT.n (K4 d e n u t b c) _)=>JT (λo=>JT (λ(l:∀(b:Val),PT.n (RH d e a n u t f b) _)=>JT (λp=>JT (λq=>q) (⟨o,⟨λb=>(l b),p,λ_ h=>h⟩,λ_ h=>h⟩)) (⟨λb=>⟨λy hy j _ _=>by rw[(CM a i d e.type f.val).x,(CM a i d e.type f.val).e];exact(CM a i d e.type f.val).k _ j y hy,λc=>(k b c)⟩,λb=>(l b),λ_ h=>h⟩)) (λb=>⟨⟨λy hy j _ _=>by rw[(CM a i d e.type f.val).x,(CM a i d e.type f.val).e];exact(CM a i d e.type f.val).k _ j y hy,λc=>(k b c)⟩,⟨λy hy j _ _=>by rw[(CM a i d e.type f.val).x,(CM a i d e.type f.val).e];exact(CM a i d e.type f.val).k _ j y hy,λc=>(k b c)⟩,λ_ h=>h⟩)) (⟨λb=>⟨λy hy j _ _=>by rw[(CM a i d e.type f.val).x,(CM a i d e.type f.val).e];exact(CM a i d e.type f.val).k _ j y hy,λc=>(k b c)⟩,λb=>⟨λy hy j _ _=>by rw[(CM a i d e.type f.val).x,(CM a i d e.type f.val).e];exact(CM a i d e.type f.val).k _ j y hy,λc=>(k b c)⟩,λ_ h=>h⟩)) (λb c=>λ_ m L=>eN co (Aa [3,4,6,11,47,48,49] Qq) nl s m L))),id⟩
theorem ZPC(a:Ec)(e:NE a)(b:Scm)(c:Fld)(d:Val):KC Tryz.prog 76 [.agg ((Al b).map .d),.agg ((As c).map .d),.agg ((Ae d).map .d)] (UL a b c d) JY:=Cp Tryz.func76 Tryz.ntmps76 AJ [.cell 6 33,.tmp 7] λC co y m i L=>mJ co 1 (Aa [3,4,5,6] GT) nl nH m L λr g=>λ_ m L=>sq (mJ co 1 (Aa [3,4,5,6,15] GT) nl nH m L λr g=>λ_ m L=>bk 0 (mJ co 1 (Aa [3,4,5,6,15,16] GT) nl nH m L λr g=>λ_ m L=>Bj m (λm=>mJ co 1 (Aa [3,4,5,6,8] [((1,3),false),((1,4),false),((1,5),false),((1,6),false),((1,8),false)]) nl nH m L λr g=>λ_ m L=>sq (mJ co 1 (Aa [3,4,6,8,20,21,22] [((1,3),false),((1,4),false),((1,6),false),((1,8),false)]) nl nH m L λr g=>λ_ m L=>bk 1 (cM co (Aa [3,4,6,8,20,21,22] NB) m L λr g=>λ_ m L=>lo (Ax (ZDB co b c d a e) nH m L (λk m=>sq (Et co AJ BS (.fst 1 (.two 0 2 (.two 2 5 (.fst 3 (.two 4 5 (.fst 5 (.fst 6 .nil)) (.fst 4 (.fst 6 .nil)))) (.fst 2 (.fst 3 (.fst 4 (.fst 6 .nil))))) (.fst 3 (.two 0 4 (.two 4 5 (.fst 5 (.fst 6 .nil)) (.fst 4 (.fst 6 .nil))) (.fst 0 (.fst 5 (.fst 6 .nil))))))) [] (bj k) (Aa [6,7] [((1,6),false),((1,1083),true)]) m L λr g=>⟨⟨λ_ m L=>eN co nl nl nH m L,λ_ m L=>eN co nl nl nH m L,λ_ h=>h⟩,⟨λ_ m L=>eN co nl nl nH m L,λ_ m L=>eN co nl nl nH m L,λ_ h=>h⟩,λ_ h=>h⟩)))))) (λm=>mJ co 1 (Aa [3,4,5,6,42] GT) nl nH m L λr g=>λ_ m L=>Bj m (λm=>mJ co 1 (Aa [3,4,5,6,11] [((1,3),false),((1,4),false),((1,5),false),((1,6),false),((1,11),false)]) nl nH m L λr g=>λ_ m L=>sq (mJ co 1 (Aa [3,4,6,11,47,48,49] [((1,3),false),((1,4),false),((1,6),false),((1,11),false)]) nl nH m L λr g=>λo=>λ_ m L=>bk 3 (cM co (Aa [3,4,6,11,47,48,49] Qq) m L λr g=>λ_ m L=>lo (Ax (ZDb co b c a o e) nH m L (λf m=>sq (Et co AJ BS (.fst 1 (.two 0 2 (.two 2 5 (.fst 3 (.two 4 5 (.fst 5 (.fst 6 .nil)) (.fst 4 (.fst 6 .nil)))) (.fst 2 (.fst 3 (.fst 4 (.fst 6 .nil))))) (.fst 3 (.two 0 4 (.two 4 5 (.fst 5 (.fst 6 .nil)) (.fst 4 (.fst 6 .nil))) (.fst 0 (.fst 5 (.fst 6 .nil))))))) [] (jv f) (Aa [6,7] [((1,6),false),((1,1114),true)]) m L λr g=>⟨⟨λ_ m L=>eN co nl nl nH m L,λ_ m L=>eN co nl nl nH m L,λ_ h=>h⟩,⟨λ_ m L=>eN co nl nl nH m L,λ_ m L=>eN co nl nl nH m L,λ_ h=>h⟩,λ_ h=>h⟩)))))) (λm=>eN co (Aa [3,4,5,6] GT) nl nH m L λr g=>λ_ m L=>sq (Et co AJ BS (.fst 0 (.fst 1 (.fst 2 (.fst 3 (.fst 5 (.fst 6 (.two 4 7 (.fst 7 (.fst 8 (.fst 9 (.fst 10 (.two 11 13 (.two 12 13 (.fst 13 (.fst 14 .nil)) (.fst 12 (.fst 14 .nil))) (.fst 11 (.fst 12 (.fst 14 .nil)))))))) (.fst 4 (.fst 8 (.fst 9 (.fst 10 (.two 11 13 (.two 12 13 (.fst 13 (.fst 14 .nil)) (.fst 12 (.fst 14 .nil))) (.fst 11 (.fst 12 (.fst 14 .nil))))))))))))))) [3,4,5] (i4 b c d a) (Aa [6,7] [((1,6),false)]) m L λr g=>⟨λy hy j _ _=>by rw[(CM a e b c.type d).x,(CM a e b c.type d).e];exact(CM a e b c.type d).k _ j y hy,λl=>λn=>⟨λ_ m L=>fO co m L,λ_ m L=>fO co m L,λ_ h=>h⟩⟩)))))
def NV:Nat->Scm->Fld->Val->Option (Val×Bool)
 |0=>λ_ _ _=>none
 |a+1=>UL (NV a)
theorem sT:∀(d:Nat) (a:Scm) (b:Fld) (c:Val),KC Tryz.prog 76 [.agg ((Al a).map .d),.agg ((As b).map .d),.agg ((Ae c).map .d)] (NV d a b c) JY
 |0,a,b,c=>⟨λ_ _ _ h=>(by cases h),by intro r;kernel_rfl,by intro r y;kernel_rfl⟩
 |d+1,a,b,c=>ZPC (NV d) (sT d) a b c
abbrev kj:Bool->AV:=λy=>vB y
def fG(c:Scm)(d:ByteArray)(a:Val):Option (Bool):=(wg<|wg<|cl (li c d a) λb=>wg<|wg<|wg<|Az (decide (b=(0:Int))) (Vk (NV Ag) (sT Ag) c d a) λe=>Az (decide (b=(0:Int))) (sZ Ag a e) λf=>lr kj nG (decide (b=(0:Int))&&f):PT 0 _).m
theorem ZTQ(a:Scm)(b:ByteArray)(c:Val):KC Tryz.prog 10 [.agg ((Al a).map .d),vS b,.agg ((Ae c).map .d)] (fG a b c) kj:=kC Tryz.func10 Tryz.ntmps10 [.tmp 6] λco m L=>fO co m L
abbrev XF(a:Val):Ad×Blk:=kk 1 33 7 (cD (Ae a))
abbrev M1:Int->AV:=λy=>vI y
def oC(b:Val)(a:List Val):Int×Nat->St:=λ(v2,v3)=>Ac [pp 1,(3,vI v2),(7,vL AE a),(8,vN a.length),(9,vN v3)] [(XF b)]
def oQ(a:Val):Int->Nat×St:=λb=>(0,Ac [pp 1,(3,vI b)] [(XF a)])
abbrev P5:=Val->Option (Int)
def Pa(d:Val)(a:P5)(b:List Val):Int×Nat->Option (Lv (Int×Nat) (Int) (Int)):=λ(v2,v3)=>(br (decide ((v3:Int)<(b.length:Int))) (ix b v3 λc=>wg<|wg<|cs Tryz.prog 11 [.agg ((Ae c).map .d)] [] [] (a c) (λy=>vI y) λe=>vs (wa v3 1)<|ln (oC d b) ((Ek true v2 e),v3+1)) (Af (oQ d) v2):PT 0 _).m
def Uj(c:P5)(a:Val):Option (Int):=(lc (Ac [pp 1,(3,vI 0)] [(XF a)]) ((wg<|cl (tq a) λb=>vz (Ah b)<|lc (Ac [pp 1,(3,vI 0),(7,vL AE b),(8,vN b.length),(9,vI 0)] [(XF a)]) ((Aj (Pa a c b) Ag (0,0)).bind (Sum.elim (λd=>(wg<|br (decide (a.kind=(10:Int))) (vs (wi (d+1))<|lr M1 nG (d+1)) (lr M1 nG d):PT 0 _).m) some)):PT 0 _).m):PT 0 _).m
abbrev tk(a:P5):Prop:=∀(b:Val),KC Tryz.prog 11 [.agg ((Ae b).map .d)] (a b) M1
theorem ZDA{C:Cx}(co:CO C 0)(d:Val)(a:P5)(f:List Val)(c:tk a):KL Tryz.prog (At tl) 24 C (pa [0,0,1,0,1,1] (Au Tryz.f11)) [.tmp 2] 0 (oC d f) (oQ d) M1 nG (Pa d a f):=λ(v2,v3) _ m Q e i L=>eN co (Aa [1,3,7,8,9] Eu) (Aa [1,3] Eu) i m L λr g=>⟨λb=>⟨λy hy h _ _=>by rw[(c b).x,(c b).e];exact(c b).k _ h y hy,λj=>id⟩,id⟩
theorem ZP4(a:P5)(c:tk a)(b:Val):KC Tryz.prog 11 [.agg ((Ae b).map .d)] (Uj a b) M1:=kC Tryz.func11 Tryz.ntmps11 [.tmp 2] λco m L=>mJ co 2 (Aa [1,3] Eu) nl nH m L λr g=>λ_ m L=>sq (mJ co 1 (Aa [1,3,7,8,9] Eu) nl nH m L λr g=>λd=>λ_ m L=>bk 0 (lo (Ax (ZDA co b a d c) nH m L (λe m=>fO co m L))))
def Me:Nat->Val->Option (Int)
 |0=>λ_=>none
 |a+1=>Uj (Me a)
theorem UR:∀(b:Nat) (a:Val),KC Tryz.prog 11 [.agg ((Ae a).map .d)] (Me b a) M1
 |0,a=>⟨λ_ _ _ h=>(by cases h),by intro r;kernel_rfl,by intro r y;kernel_rfl⟩
 |b+1,a=>ZP4 (Me b) (UR b) a
abbrev E3:Bool->AV:=λy=>vB y
def eu(a:Scm)(b:ByteArray)(h:Val)(i:Val):Option (Bool):=(wg<|cl (K_4 a) λj=>wg<|wg<|Az (!(!j)) (lh a b h) λl=>wg<|wg<|Az (!((!j)||(!l))) (lh a b i) λn=>br (((!j)||(!l))||(!n)) (cl (aa) λo=>lr E3 nG o) (wg<|wg<|wg<|cl (ab Ag a b h i) λg=>wg<|wg<|cl (ac Ag g) λp=>br (decide ((4096:Int)<p)) (wg<|wg<|cl (li a b g) λm=>Az (decide (m=(3:Int))) (aa) λq=>lr E3 nG (decide (m=(3:Int))&&q)) (wg<|wg<|cl (ZTQ a b g) λf=>wg<|Az f (UR Ag g) λc=>wg<|Az f (UR Ag h) λd=>wg<|Az f (UR Ag i) λe=>Az (f&&decide (c<=(Ek true d e))) (aa) λk=>lr E3 nG ((f&&decide (c<=(Ek true d e)))&&k))):PT 0 _).m
theorem K_3(a:Scm)(b:ByteArray)(c:Val)(d:Val):KC Tryz.prog 3 [.agg ((Al a).map .d),vS b,.agg ((Ae c).map .d),.agg ((Ae d).map .d)] (eu a b c d) E3:=kC Tryz.func3 Tryz.ntmps3 [.tmp 8] λco m L=>fO co m L
end Go.Proofs.YthcplkfhnnlafaaGreat
namespace Go.Proofs.YthcplkfhnnlafaaGreat
set_option linter.all false
open Go Go.Eng
end Go.Proofs.YthcplkfhnnlafaaGreat
namespace Go.Proofs.YthcplkfhnnlafaaGreat
set_option linter.all false
open Go Go.Eng Go.ChangeShapes Go.WideShapes Go.ChangeAt Go.RowKit
theorem xD{H:Type}(b:List UInt8):Rows.uptoBulk (DataW.lit (H:=H) (.string b))=b.length+1:=by simp only[Rows.uptoBulk]
theorem ZqJ{H:Type}(a b:List (DataW H)):Rows.uptoBulk (.slice a b)=Rows.uptoBulkAll a+Rows.uptoBulkAll b+1:=by simp only[Rows.uptoBulk]
theorem ZAe{H:Type}(a:List (DataW H)):Rows.uptoBulk (.agg a)=Rows.uptoBulkAll a+1:=by simp only[Rows.uptoBulk]
def Lb(W:World)(ds:List D)(cs:List Value)(o:Nat):Prop:=∀(i:Nat) (d:D),ds[i]?=some d->∃c,cs[o+i]?=some c/\RepD W (· <W.heap.size) d c
def MG(W:World)(ds:List D)(cs:List Value):Prop:=ds.length=cs.length/\Lb W ds cs 0
theorem Lb.app{W:World}{ds a:List D}{cs:List Value}{o:Nat}(h:Lb W ds cs o)(k:Lb W a cs (o+ds.length)):Lb W (ds++a) cs o:=λi d hi=>by
 rcases YN i ds.length with hl|hl
 ·rw[Ys hl]at hi;exact h i d hi
 ·rw[Yw hl]at hi;obtain⟨c,b,e⟩:=k _ d hi;grind
theorem Lb.nil{W:World}{cs:List Value}{o:Nat}:Lb W [] cs o:=λi d h=>by simp at h
theorem MG.at{W:World}{ds:List D}{cs:List Value}{o k:Nat}(h:MG W ds ((cs.drop o).take k)):Lb W ds cs o:=λi d hi=>by obtain⟨c,a,b⟩:=h.2 i d hi;grind
def rk(k:IntKind)(n:Int):Nat:=if Lit.wf (.int k n)=true then 0 else 1000000000000
theorem se{k:IntKind}{n:Int}(h:rk k n<=1048576):k.min<=n/\n<=k.max:=by
 unfold rk at h;split at h
 ·rename_i a;unfold Lit.wf at a;rw[Yc]at a;exact⟨Y7 a.1,Y7 a.2⟩
 ·omega
mutual
def bk:D->Nat
 |.int k n=>rk k n
 |.bool _=>0
 |.str s=>s.size
 |.list a=>AS a
 |.map _ a=>AS a
def An:List D->Nat
 |[]=>0
 |d::l=>bk d+An l
def AS:List (List D)->Nat
 |[]=>0
 |e::l=>An e+1+AS l
end
theorem On:∀a b:List D,An (a++b)=An a+An b
 |[],b=>by rw[Ge,An,YU]
 |d::a,b=>by rw[HO,An,An,On a b,YO]
theorem ig(d:D):An [d]=bk d:=by rw[An,An,Gg]
theorem CU{α:Type}{e:α->List D}:∀l:List α,l.length<=AS (l.map e)
 |[]=>B8 _
 |x::l=>by have:=CU (e:=e) l;rw[YY,AS,Em];omega
theorem Dr{α:Type}{e:α->List D}{x:α}:∀{l:List α},x∈l->An (e x)+1<=AS (l.map e)
 |y::l,h=>by
  rw[YY,AS];cases Yx.1 h with
  |inl h=>subst h;omega
  |inr h=>have:=Dr (e:=e) h;omega
section
variable {H:Type} (enc:TypeId×Value->H) (P:Program) (W:World)
def Cu{α:Type}(n:Nat)(t:TypeId)(e:α->List D):Prop:=
 ∀cs x,DataW.trod enc P W 0 (λ_=>true) true n t cs=some x->∃v:α,MG W (e v) cs/\An (e v)+1<=Rows.uptoBulk x.1
end
section
variable {H:Type} {enc:TypeId×Value->H} {P:Program} {W:World} {n:Nat} {t:TypeId}
theorem hP(d:DataW H):1<=Rows.uptoBulk d:=by cases d<;>(try (rename_i l;cases l))<;>simp[Rows.uptoBulk]
theorem Q8{d:D}{c:Value}(h:RepD W (· <W.heap.size) d c):MG W [d] [c]:=⟨rfl,λi d' hi=>by
 cases i with
 |zero=>cases hi;exact⟨c,rfl,h⟩
 |succ i=>simp at hi⟩
theorem Fi{k:IntKind}(a:P.underlying t=some (.int k)):Cu enc P W n t (λv:Int=>[.int k v]):=λcs x hx=>by obtain⟨m,rfl,rfl,b⟩:=DataW.trod_int a hx;refine⟨m,Q8 (.int _ _),?_⟩;rw[ig,bk,rk,Yi b];exact hP _
theorem yZ(a:P.underlying t=some .bool):Cu enc P W n t (λv:Bool=>[.bool v]):=λcs x hx=>by obtain⟨m,rfl,rfl⟩:=DataW.trod_bool a hx;exact⟨m,Q8 (.bool _),hP _⟩
theorem Fg(a:P.underlying t=some .string):Cu enc P W n t (λv:ByteArray=>[.str v]):=λcs x hx=>by obtain⟨m,rfl,rfl,_⟩:=DataW.trod_string a hx;refine⟨m,Q8 (.str _),?_⟩;rw[xD,ig];exact Yf _
theorem lO{α:Type}{e:α->List D}:∀(l:List α) (xs:List (DataW H×List MemPlace)),l.length=xs.length->(∀(i:Nat) (v:α),l[i]?=some v->∃y:DataW H×List MemPlace,xs[i]?=some y/\An (e v)+1<=Rows.uptoBulk y.1)->AS (l.map e)<=Rows.uptoBulkAll (xs.map (·.1))
 |[],_,_,_=>B8 _
 |x::l,[],h,_=>by cases h
 |x::l,y::xs,h,k=>by have:=lO l xs (aF h) (λi v hi=>k (i+1) v hi);obtain⟨c,a,b⟩:=k 0 x rfl;cases a;rw[YY,YY,AS];simp only[Rows.uptoBulkAll];omega
theorem x2{α:Type}{Q:Nat->α->Prop}:∀(len:Nat),(∀i,i<len->∃v,Q i v)->∃l:List α,l.length=len/\∀i v,l[i]?=some v->Q i v
 |0,_=>⟨[],rfl,λi v h=>by simp at h⟩
 |len+1,h=>by obtain⟨l,a,b⟩:=x2 len (λi hi=>h i ae);obtain⟨v,c⟩:=h len ae;refine⟨l++[v],by simp[a],λi w hi=>?_⟩;grind
theorem DF{α:Type}{e:TypeId}{b:α->List D}{sz:Nat}(X:P.underlying t=some (.slice e))(E:P.cellsOf e=sz)(V:sz≠0)(hl:∀x,(b x).length=sz)(h:∀m,m<n->Cu enc P W m e b):
  Cu enc P W n t (λl:List α=>[.list (l.map b)]):=λcs x hx=>by
 rcases DataW.trod_slice X hx with⟨rfl,rfl⟩|⟨a,len,cap,g,J,m,rfl,rfl,rfl,Z,z,T,U,hi,_,_⟩
 ·exact⟨[],Q8 .nil,hP _⟩
 ·have k:∀i,i<len->∃v:α,∃y f,g[i]?=some y/\W.cells? 0 (a.add (i*sz)) sz=some f/\MG W (b v) f/\An (b v)+1<=Rows.uptoBulk y.1:=λi B=>by have I:=hi i B;rw[Ye ae,E]at I;obtain⟨f,N,O⟩:=lM.1 I;obtain⟨v,Q,R⟩:=h m ae f _ O;exact⟨v,_,f,Ye ae,N,Q,R⟩
  obtain⟨l,A,r⟩:=x2 len k;have cell:∀(i j:Nat) (e':List D) (x:D),(l.map b)[i]?=some e'->e'[j]?=some x->∃c,W.cell? (a.add (i*sz+j))=some c/\RepD W (· <W.heap.size) x c:=λi j e' x d o=>by
   rw[YR]at d;cases s:l[i]? with
   |none=>rw[s]at d;cases d
   |some v=>
    rw[s]at d;cases d;obtain⟨y,f,p,q,F,G⟩:=r i v s;obtain⟨c,H,K⟩:=F.2 j x o;rw[YU]at H;obtain⟨_,Y,L⟩:=World.cells?_some q;have u:j<sz:=by
     rw[<-hl v];rcases YN j (b v).length with h|h
     ·exact h
     ·rw[YX h]at o;cases o
    refine⟨c,?_,K⟩;rw[<-Go.Eng.add_add,L j u,H]
  refine⟨l,Q8 ?_,?_⟩
  ·have hlen:(l.map b).length=len:=(by simp[A]);have:=RepD.list (w:=W) (S:=(· <W.heap.size)) (l.map b) a sz cap (λi j=>(W.cell? (a.add (i*sz+j))).getD undef) (λC=>by
     have M:0<len:=by
      rcases TL len with h|h
      ·exact absurd (J4 (hlen.trans h)) C
      ·exact h
     obtain⟨v,y,f,_,q,_⟩:=k 0 M;have:=World.cells?_block q ae;rw[LD]at this;rw[<-Go.Eng.block_add a 0];exact this)
    (by rw[hlen];exact z) (λe' he=>by obtain⟨y,_,rfl⟩:=YV.1 he;exact hl y)
    (λi j e' x d o=>by obtain⟨c,p,_⟩:=cell i j e' x d o;rw[p];rfl)
    (λi j e' x d o=>by obtain⟨c,p,q⟩:=cell i j e' x d o;rw[p];exact q)
   rw[hlen]at this;exact this
  ·rw[ZqJ,ig,bk];have:=lO (e:=b) l g ae (λi v s=>by obtain⟨y,f,p,q,F,G⟩:=r i v s;exact⟨y,p,G⟩);omega
def FB(xs:List (DataW H×List MemPlace))(i:Nat):Nat:=Rows.uptoBulkAll ((xs.drop i).map (·.1))
theorem Bs{xs:List (DataW H×List MemPlace)}{i:Nat}{a b:List D}(h:An a+1+FB xs (i+1)<=FB xs i)(k:An b<=FB xs (i+1)):An (a++b)<=FB xs i:=by rw[On];omega
theorem Fe{xs:List (DataW H×List MemPlace)}{i:Nat}{a:List D}(h:An a+1+FB xs (i+1)<=FB xs i):An a<=FB xs i:=ae
theorem Fh{xs:List (DataW H×List MemPlace)}{a:List D}(h:An a<=FB xs 0):An a+1<=Rows.uptoBulk (.agg (xs.map (·.1))):=by rw[ZAe];exact Nat.succ_le_succ h
theorem Zxt{α:Type}{e:α->List D}{m i:Nat}{c:TypeId}{a:List Value}{xs:List (DataW H×List MemPlace)}(h:Cu enc P W m c e)(b:DataW.trod enc P W 0 (λ_=>true) true m c a=xs[i]?)(hi:i<xs.length):
  ∃v,MG W (e v) a/\An (e v)+1+FB xs (i+1)<=FB xs i:=by
 rw[Ye hi]at b;obtain⟨v,d,f⟩:=h _ _ b;refine⟨v,d,?_⟩;unfold FB;rw[IH hi,YY];simp only[Rows.uptoBulkAll];omega
theorem rf{α:Type}{e:α->List D}{m i k:Nat}{b:TypeId}{a:List Value}{xs:List (DataW H×List MemPlace)}(h:Cu enc P W m b e)(c:DataW.trod enc P W 0 (λ_=>true) true m b a=xs[i]?)(hx:xs.length=k)(hi:Nat.blt i k=true:=by kernel_rfl):
  ∃v,MG W (e v) a/\An (e v)+1+FB xs (i+1)<=FB xs i:=Zxt h c (by rw[hx];exact Ym hi)
theorem jp{α:Type}{e e':α->List D}(he:∀x,e x=e' x)(h:Cu enc P W n t e'):Cu enc P W n t e:=λcs x hx=>by obtain⟨v,a,b⟩:=h cs x hx;grind
theorem iQ{α:Type}{e:α->List D}{q:Array Field}{r:Reach}{b:Nat}{v:Value}{d:DataW H}{p:List MemPlace}(rd:∀n,Cu enc P W n t e)(w:P.underlying t=some (.struct q))(z:Value.okWide P W r b t v)
  (h:DataW.Trod enc P W 0 (λ_=>true) true t v d p):∃x:α,(∀m l,RepA W (· <W.heap.size) (λ_=>⟨0,false,0,0,[]⟩) m l (.agg ((e x).map .d)) v)/\An (e x)+1<=Rows.uptoBulk d:=by
 obtain⟨cs,rfl,_⟩:=okWide_struct w z;obtain⟨n,u⟩:=h;obtain⟨x,k,s⟩:=rd n _ _ u;have hl:(e x).length=cs.size:=by rw[k.1];simp[Value.cells]
 have key:∀(i:Nat) (c:Value),cs[i]?=some c->∃d,(e x)[i]?=some d/\RepD W (· <W.heap.size) d c:=λi c f=>by
  have g:i<(e x).length:=by grind
  obtain⟨j,a,o⟩:=k.2 i _ (Ye g);have:j=c:=by rw[YU]at a;have:cs.toList[i]?=some j:=a;grind
  grind
 refine⟨x,λm l=>.agg _ _ (by rw[YF,hl]) (λi c f=>?_) (λi y c hy f=>?_),s⟩
 ·obtain⟨d,_,a⟩:=key i c f;exact a.one
 ·obtain⟨d,a,o⟩:=key i c f;rw[YR,a]at hy;cases hy;exact .d _ _ o
theorem ZEH{r:Reach}{a:Nat}{v:Value}{d:DataW H}{p:List MemPlace}(e:P.underlying t=some .string)(g:Value.okWide P W r a t v)(h:DataW.Trod enc P W 0 (λ_=>true) true t v d p):
  ∃x:ByteArray,(∀S Hp m l,RepA W S Hp m l (.d (.str x)) v)/\x.size+1<=Rows.uptoBulk d:=by
 obtain⟨x,rfl⟩:=okWide_string e g;obtain⟨n,f⟩:=h;obtain⟨s,b,c,_⟩:=DataW.trod_string e f;have b:x=s:=by simpa[Value.cells]using b
 subst b;have c:d=.lit (.string x.data.toList):=congrArg Prod.fst c;subst c;refine⟨x,λ_ _ _ _=>.d _ _ (.str _),?_⟩;rw[xD];exact Yf _
def lg:Hp:=λ_=>⟨0,false,0,0,[]⟩
theorem ok0(m:Mu):Ok 0 lg m (· <W.heap.size) W:=⟨λ_ h=>h,λ_ _ h=>(by cases h),λ_ _ h=>(by cases h),λ_ _ _ _ h=>(by cases h),λ_ _ h=>(by cases h),⟨λ_ _ h=>(by cases h),λ_ _ h=>(by cases h),λ_ _ _ _ h=>(by cases h)⟩⟩
def ug(w:World)(S:Nat->Prop)(Hp:Hp)(m:Mu)(l:Nat):List AV->List Value->Prop
 |[],[]=>True
 |x::xs,v::vs=>RepA w S Hp m l x v/\ug w S Hp m l xs vs
 |_,_=>False
theorem ZF8{w:World}{S:Nat->Prop}{Hp:Hp}{m:Mu}{l:Nat}{xs:List AV}{vs:List Value}(h:ug w S Hp m l xs vs):Mm w S Hp m l xs vs.toArray:=by
 suffices b:xs.length=vs.length/\∀(i:Nat) (x:AV) (v:Value),xs[i]?=some x->vs[i]?=some v->RepA w S Hp m l x v by exact⟨by simpa using b.1,λi x v hx e=>b.2 i x v hx (by simpa using e)⟩
 induction xs generalizing vs with
 |nil=>cases vs with
  |nil=>exact⟨rfl,λi x v h=>by simp at h⟩
  |cons _ _=>exact h.elim
 |cons x xs f=>cases vs with
  |nil=>exact h.elim
  |cons v vs=>
   obtain⟨c,d⟩:=f h.2;refine⟨by simp[c],λi y u hy a=>?_⟩;cases i with
   |zero=>simp at hy a;subst hy;subst a;exact h.1
   |succ i=>exact d i y u (by simpa using hy) (by simpa using a)
theorem Ztj{f:Func}{s:ChangeSpec}{r:World}{args:Array Value}{ds A:List (DataW H)}{e:List MemPlace}{u:TypeId}(C:DataW.Whole enc P f.params.toList s.vars false W args.toList ds A e)(c:s.vars=[])
  (k:laidOutB P=true) (z:∀t∈f.params.toList,P.readableRec t=true/\t<P.types.size) (g:f.resultTypes.toList=[u]) (L:P.underlying u=some .bool)
  (j:s.fn H (ds++A)={results:=[.lit (.bool true)],args:=ds }) (n:Below W.heap.size W r):s.post enc P f false true false false W args (.bool true) r:=by
 obtain⟨p,q,G,B,rfl,I,J⟩:=id C;rw[c]at B;obtain⟨rfl,rfl⟩:=trodVars_none B;refine⟨ds,[],p++[],[],p,[],C,?_,?_,?_,?_,λh=>by cases h⟩
 ·rw[j,g];have:(Value.bool true).resultList f.resultTypes.size=[.bool true]:=by have:f.resultTypes.size=1:=(by rw[<-G8,g];rfl);rw[this];rfl
  rw[this];exact trodAll_cons_mk (shut_bool L _) trodAll_mk0
 ·rw[j];have key:∀(l:List TypeId) (vs:List Value) (m:List (DataW H)) (ps:List MemPlace),(∀t∈l,P.readableRec t=true/\t<P.types.size)->DataW.TrodAll enc P W 0 (λ_=>true) true l vs m ps->
    DataW.TrodAll enc P r 0 (λb=>decide (b<W.heap.size)) true l vs m ps:=by
   intro l
   induction l with
   |nil=>intro vs m ps _ h;obtain⟨rfl,rfl,rfl⟩:=trodAll_nil h;exact trodAll_mk0
   |cons t l M=>
    intro vs m ps y h;have w:=DataW.TrodAll.lt h;obtain⟨v,N,d,D,a,b,rfl,rfl,rfl,E,F⟩:=trodAll_cons h;exact trodAll_cons_mk (Below.trod k (y t (by simp)).1 (y t (by simp)).2 E n (λx hx=>w x (IE _ hx))) (M _ _ _ (λt K=>y t (by simp[K])) F)
  exact key _ _ _ _ z G
 ·rw[c,j];exact rfl
 ·refine⟨n.os,n.output,λi hi=>?_⟩;rw[n.block i hi];cases W.heap[i]? with
  |none=>rfl
  |some o=>cases o<;>simp
end
end Go.Proofs.YthcplkfhnnlafaaGreat
namespace Go.Proofs.YthcplkfhnnlafaaGreat
set_option linter.all false
open Go Go.Eng
section
variable {H:Type} {enc:TypeId×Value->H} {W:World}
set_option maxRecDepth 100000
theorem ZLj(n:Nat):Cu enc Tryz.prog W n 94 Aw:=λcs x hx=>by obtain⟨xs,m,rfl,rfl,c,a,b⟩:=DataW.trod_struct Tryz.underlying94 hx;obtain⟨v0,h,d⟩:=rf (Fi Tryz.underlying3) (b 0 _ rfl) a;obtain⟨l,i,e⟩:=rf (Fi Tryz.underlying3) (b 1 _ rfl) a;obtain⟨v2,j,f⟩:=rf (Fi Tryz.underlying27) (b 2 _ rfl) a;obtain⟨v3,k,g⟩:=rf (Fg Tryz.underlying9) (b 3 _ rfl) a;have q:=Fh (Bs d (Bs e (Bs f (Fe g))));exact⟨.mk v0 l v2 v3,⟨by rw[c];kernel_rfl,(h.at.app (i.at.app (j.at.app k.at)))⟩,q⟩
theorem Zww(n:Nat)(h:∀k,k<n->Cu enc Tryz.prog W k 33 Ae):Cu enc Tryz.prog W n 92 Dc:=λcs x hx=>by obtain⟨xs,m,rfl,rfl,b,a,c⟩:=DataW.trod_struct Tryz.underlying92 hx;obtain⟨v0,f,d⟩:=rf (h m ae) (c 0 _ rfl) a;obtain⟨i,g,e⟩:=rf (h m ae) (c 1 _ rfl) a;have q:=Fh (Bs d (Fe e));exact⟨.mk v0 i,⟨by rw[b];kernel_rfl,(f.at.app g.at)⟩,q⟩
theorem Zuv(n:Nat)(h:∀k,k<n->Cu enc Tryz.prog W k 33 Ae):Cu enc Tryz.prog W n 57 Cc:=λcs x hx=>by obtain⟨xs,m,rfl,rfl,b,a,c⟩:=DataW.trod_struct Tryz.underlying57 hx;obtain⟨v0,f,d⟩:=rf (Fi Tryz.underlying3) (c 0 _ rfl) a;obtain⟨i,g,e⟩:=rf (h m ae) (c 1 _ rfl) a;have q:=Fh (Bs d (Fe e));exact⟨.mk v0 i,⟨by rw[b];kernel_rfl,(f.at.app g.at)⟩,q⟩
theorem Xm(n:Nat):Cu enc Tryz.prog W n 33 Ae:=by
 induction n using Nat.strongRecOn with
 |ind n e=>
 intro cs x hx;obtain⟨xs,m,rfl,rfl,c,a,b⟩:=DataW.trod_struct Tryz.underlying33 hx;obtain⟨v0,s,f⟩:=rf (Fi Tryz.underlying3) (b 0 _ rfl) a;obtain⟨A,t,g⟩:=rf (Fi Tryz.underlying27) (b 1 _ rfl) a;obtain⟨v2,u,h⟩:=rf (Fg Tryz.underlying9) (b 2 _ rfl) a;obtain⟨v3,v,i⟩:=rf (DF Tryz.underlying28 (by kernel_rfl:Tryz.prog.cellsOf 33=7) (by decide) (λx=>by rw[Hj];rfl) (λk d=>(jp Hj (e k ae)))) (b 3 _ rfl) a;obtain⟨v4,w,l⟩:=rf (DF Tryz.underlying29 (by kernel_rfl:Tryz.prog.cellsOf 92=14) (by decide) (λx=>by rw[Mw];rfl) (λk d=>(jp Mw (Zww k (λj r=>e j ae))))) (b 4 _ rfl) a;obtain⟨B,y,o⟩:=rf (DF Tryz.underlying30 (by kernel_rfl:Tryz.prog.cellsOf 57=8) (by decide) (λx=>by rw[Mn];rfl) (λk d=>(jp Mn (Zuv k (λj r=>e j ae))))) (b 5 _ rfl) a;obtain⟨C,z,p⟩:=rf (DF Tryz.underlying31 (by kernel_rfl:Tryz.prog.cellsOf 94=4) (by decide) (λ_=>rfl) (λk d=>(ZLj k))) (b 6 _ rfl) a;have q:=Fh (Bs f (Bs g (Bs h (Bs i (Bs l (Bs o (Fe p)))))));exact⟨.mk v0 A v2 v3 v4 B C,⟨by rw[c];kernel_rfl,(s.at.app (t.at.app (u.at.app (v.at.app (w.at.app (y.at.app z.at))))))⟩,q⟩
theorem ZLv(n:Nat):Cu enc Tryz.prog W n 47 CR:=λcs x hx=>by obtain⟨xs,m,rfl,rfl,b,a,c⟩:=DataW.trod_struct Tryz.underlying47 hx;obtain⟨v0,f,d⟩:=rf (Fi Tryz.underlying3) (c 0 _ rfl) a;obtain⟨h,g,e⟩:=rf (Fg Tryz.underlying9) (c 1 _ rfl) a;have q:=Fh (Bs d (Fe e));exact⟨.mk v0 h,⟨by rw[b];kernel_rfl,(f.at.app g.at)⟩,q⟩
theorem OY(n:Nat):Cu enc Tryz.prog W n 199 Co:=λcs x hx=>by obtain⟨xs,m,rfl,rfl,b,a,c⟩:=DataW.trod_struct Tryz.underlying199 hx;obtain⟨v0,f,d⟩:=rf (Fg Tryz.underlying9) (c 0 _ rfl) a;obtain⟨h,g,e⟩:=rf (Xm m) (c 1 _ rfl) a;have q:=Fh (Bs d (Fe e));exact⟨.mk v0 h,⟨by rw[b];kernel_rfl,(f.at.app g.at)⟩,q⟩
theorem ZJz(n:Nat):Cu enc Tryz.prog W n 50 As:=λcs x hx=>by obtain⟨xs,m,rfl,rfl,c,a,b⟩:=DataW.trod_struct Tryz.underlying50 hx;obtain⟨v0,p,d⟩:=rf (Fi Tryz.underlying3) (b 0 _ rfl) a;obtain⟨A,r,e⟩:=rf (Fg Tryz.underlying9) (b 1 _ rfl) a;obtain⟨v2,s,f⟩:=rf (Fi Tryz.underlying3) (b 2 _ rfl) a;obtain⟨v3,t,g⟩:=rf (Fi Tryz.underlying3) (b 3 _ rfl) a;obtain⟨v4,u,h⟩:=rf (ZLv m) (b 4 _ rfl) a;obtain⟨B,v,i⟩:=rf (Fg Tryz.underlying9) (b 5 _ rfl) a;obtain⟨C,w,j⟩:=rf (yZ Tryz.underlying4) (b 6 _ rfl) a;obtain⟨D,y,l⟩:=rf (Xm m) (b 7 _ rfl) a;obtain⟨E,z,o⟩:=rf (DF Tryz.underlying48 (by kernel_rfl:Tryz.prog.cellsOf 199=8) (by decide) (λ_=>rfl) (λk F=>(OY k))) (b 8 _ rfl) a;have q:=Fh (Bs d (Bs e (Bs f (Bs g (Bs h (Bs i (Bs j (Bs l (Fe o)))))))));exact⟨.mk v0 A v2 v3 v4 B C D E,⟨by rw[c];kernel_rfl,(p.at.app (r.at.app (s.at.app (t.at.app (u.at.app (v.at.app (w.at.app (y.at.app z.at))))))))⟩,q⟩
theorem lS(n:Nat):Cu enc Tryz.prog W n 171 CZ:=λcs x hx=>by obtain⟨xs,m,rfl,rfl,b,a,c⟩:=DataW.trod_struct Tryz.underlying171 hx;obtain⟨v0,f,d⟩:=rf (Fi Tryz.underlying3) (c 0 _ rfl) a;obtain⟨h,g,e⟩:=rf (Fi Tryz.underlying3) (c 1 _ rfl) a;have q:=Fh (Bs d (Fe e));exact⟨.mk v0 h,⟨by rw[b];kernel_rfl,(f.at.app g.at)⟩,q⟩
theorem ZIE(n:Nat):Cu enc Tryz.prog W n 55 AH:=λcs x hx=>by obtain⟨xs,m,rfl,rfl,c,a,b⟩:=DataW.trod_struct Tryz.underlying55 hx;obtain⟨v0,j,e⟩:=rf (Fg Tryz.underlying9) (b 0 _ rfl) a;obtain⟨s,l,f⟩:=rf (DF Tryz.underlying51 (by kernel_rfl:Tryz.prog.cellsOf 50=16) (by decide) (λ_=>rfl) (λk d=>(ZJz k))) (b 1 _ rfl) a;obtain⟨v2,o,g⟩:=rf (DF Tryz.underlying52 (by kernel_rfl:Tryz.prog.cellsOf 171=2) (by decide) (λ_=>rfl) (λk d=>(lS k))) (b 2 _ rfl) a;obtain⟨v3,p,h⟩:=rf (DF Tryz.underlying53 (by kernel_rfl:Tryz.prog.cellsOf 9=1) (by decide) (λ_=>rfl) (λk d=>(Fg Tryz.underlying9))) (b 3 _ rfl) a;obtain⟨v4,r,i⟩:=rf (DF Tryz.underlying48 (by kernel_rfl:Tryz.prog.cellsOf 199=8) (by decide) (λ_=>rfl) (λk d=>(OY k))) (b 4 _ rfl) a;have q:=Fh (Bs e (Bs f (Bs g (Bs h (Fe i)))));exact⟨.mk v0 s v2 v3 v4,⟨by rw[c];kernel_rfl,(j.at.app (l.at.app (o.at.app (p.at.app r.at))))⟩,q⟩
theorem ZJQ(n:Nat):Cu enc Tryz.prog W n 143 CW:=λcs x hx=>by obtain⟨xs,m,rfl,rfl,b,a,c⟩:=DataW.trod_struct Tryz.underlying143 hx;obtain⟨v0,g,d⟩:=rf (Fg Tryz.underlying9) (c 0 _ rfl) a;obtain⟨j,h,e⟩:=rf (Fi Tryz.underlying3) (c 1 _ rfl) a;obtain⟨v2,i,f⟩:=rf (DF Tryz.underlying48 (by kernel_rfl:Tryz.prog.cellsOf 199=8) (by decide) (λ_=>rfl) (λk l=>(OY k))) (c 2 _ rfl) a;have q:=Fh (Bs d (Bs e (Fe f)));exact⟨.mk v0 j v2,⟨by rw[b];kernel_rfl,(g.at.app (h.at.app i.at))⟩,q⟩
theorem ZKI(n:Nat):Cu enc Tryz.prog W n 85 BN:=λcs x hx=>by obtain⟨xs,m,rfl,rfl,c,a,b⟩:=DataW.trod_struct Tryz.underlying85 hx;obtain⟨v0,j,e⟩:=rf (Fg Tryz.underlying9) (b 0 _ rfl) a;obtain⟨s,l,f⟩:=rf (yZ Tryz.underlying4) (b 1 _ rfl) a;obtain⟨v2,o,g⟩:=rf (DF Tryz.underlying83 (by kernel_rfl:Tryz.prog.cellsOf 143=3) (by decide) (λ_=>rfl) (λk d=>(ZJQ k))) (b 2 _ rfl) a;obtain⟨v3,p,h⟩:=rf (DF Tryz.underlying52 (by kernel_rfl:Tryz.prog.cellsOf 171=2) (by decide) (λ_=>rfl) (λk d=>(lS k))) (b 3 _ rfl) a;obtain⟨v4,r,i⟩:=rf (DF Tryz.underlying48 (by kernel_rfl:Tryz.prog.cellsOf 199=8) (by decide) (λ_=>rfl) (λk d=>(OY k))) (b 4 _ rfl) a;have q:=Fh (Bs e (Bs f (Bs g (Bs h (Fe i)))));exact⟨.mk v0 s v2 v3 v4,⟨by rw[c];kernel_rfl,(j.at.app (l.at.app (o.at.app (p.at.app r.at))))⟩,q⟩
theorem ZMa(n:Nat):Cu enc Tryz.prog W n 145 Ic:=λcs x hx=>by obtain⟨xs,m,rfl,rfl,c,a,b⟩:=DataW.trod_struct Tryz.underlying145 hx;obtain⟨v0,i,d⟩:=rf (Fg Tryz.underlying9) (b 0 _ rfl) a;obtain⟨r,j,e⟩:=rf (Fg Tryz.underlying9) (b 1 _ rfl) a;obtain⟨v2,l,f⟩:=rf (Fg Tryz.underlying9) (b 2 _ rfl) a;obtain⟨v3,o,g⟩:=rf (Fi Tryz.underlying3) (b 3 _ rfl) a;obtain⟨v4,p,h⟩:=rf (DF Tryz.underlying48 (by kernel_rfl:Tryz.prog.cellsOf 199=8) (by decide) (λ_=>rfl) (λk s=>(OY k))) (b 4 _ rfl) a;have q:=Fh (Bs d (Bs e (Bs f (Bs g (Fe h)))));exact⟨.mk v0 r v2 v3 v4,⟨by rw[c];kernel_rfl,(i.at.app (j.at.app (l.at.app (o.at.app p.at))))⟩,q⟩
theorem ZKF(n:Nat):Cu enc Tryz.prog W n 89 DM:=λcs x hx=>by obtain⟨xs,m,rfl,rfl,b,a,c⟩:=DataW.trod_struct Tryz.underlying89 hx;obtain⟨v0,h,d⟩:=rf (Fg Tryz.underlying9) (c 0 _ rfl) a;obtain⟨l,i,e⟩:=rf (DF Tryz.underlying87 (by kernel_rfl:Tryz.prog.cellsOf 145=5) (by decide) (λ_=>rfl) (λk g=>(ZMa k))) (c 1 _ rfl) a;obtain⟨v2,j,f⟩:=rf (DF Tryz.underlying48 (by kernel_rfl:Tryz.prog.cellsOf 199=8) (by decide) (λ_=>rfl) (λk g=>(OY k))) (c 2 _ rfl) a;have q:=Fh (Bs d (Bs e (Fe f)));exact⟨.mk v0 l v2,⟨by rw[b];kernel_rfl,(h.at.app (i.at.app j.at))⟩,q⟩
theorem ZMI(n:Nat):Cu enc Tryz.prog W n 26 Al:=λcs x hx=>by obtain⟨xs,m,rfl,rfl,b,a,c⟩:=DataW.trod_struct Tryz.underlying26 hx;obtain⟨v0,h,e⟩:=rf (DF Tryz.underlying22 (by kernel_rfl:Tryz.prog.cellsOf 55=5) (by decide) (λ_=>rfl) (λk d=>(ZIE k))) (c 0 _ rfl) a;obtain⟨l,i,f⟩:=rf (DF Tryz.underlying23 (by kernel_rfl:Tryz.prog.cellsOf 85=5) (by decide) (λ_=>rfl) (λk d=>(ZKI k))) (c 1 _ rfl) a;obtain⟨v2,j,g⟩:=rf (DF Tryz.underlying24 (by kernel_rfl:Tryz.prog.cellsOf 89=3) (by decide) (λ_=>rfl) (λk d=>(ZKF k))) (c 2 _ rfl) a;have q:=Fh (Bs e (Bs f (Fe g)));exact⟨.mk v0 l v2,⟨by rw[b];kernel_rfl,(h.at.app (i.at.app j.at))⟩,q⟩
end
end Go.Proofs.YthcplkfhnnlafaaGreat
namespace Go.Eng
set_option linter.all false
open Go Go.RowKit
section
variable {σ ξ ρ α β γ:Type}
theorem Ep{B:Nat->Option (Lv Nat ξ ρ)}{N:Nat}(l:List α)(p:α->Bool)(f:Nat->ρ)(e:ξ)
  (hs:∀i x,l[i]?=some x->B i=some (if p x=true then .rt (f i)else .nx (i+1))) (he:B l.length=some (.ex e)) (hN:l.length<N):
  Aj B N 0=some (match l.findIdx? p with|some i=>.inr (f i)|none=>.inl e):=by
 suffices H:∀k i N,i+k=l.length->k<N->Aj B N i=some (match (l.drop i).findIdx? p with|some j=>.inr (f (i+j))|none=>.inl e)by have:=H l.length 0 N ae hN;simpa using this
 intro k
 induction k with
 |zero=>
  intro i N hi hN;obtain⟨N,rfl⟩:∃m,N=m+1:=⟨N-1,ae⟩;have:i=l.length:=ae
  subst this;rw[Aj,he,TT];rfl
 |succ k b=>
  intro i N hi hN;obtain⟨N,rfl⟩:∃m,N=m+1:=⟨N-1,ae⟩;have a:i<l.length:=ae
  rw[Aj,hs i l[i] (Ye a),IH a,List.findIdx?_cons];cases c:p l[i]with
  |true=>simp
  |false=>
   simp only[Yk,YE];rw[b (i+1) N ae ae];cases(List.drop (i+1) l).findIdx? p with
   |none=>rfl
   |some j=>simp[YO,PL 1 j]
def Oy(R:List α->α->Option ρ):List α->List α->Option ρ
 |_,[]=>none
 |p,x::l=>match R p x with
  |some r=>some r
  |none=>Oy R (p++[x]) l
theorem Zwr{B:σ->Option (Lv σ ξ ρ)}{N:Nat}(l:List α)(S:List α->β)(R:List α->α->Option ρ)(mk:Nat->β->σ)(e:β->ξ)
  (hs:∀i x,l[i]?=some x->B (mk i (S (l.take i)))=some (match R (l.take i) x with|some r=>.rt r|none=>.nx (mk (i+1) (S (l.take i++[x])))))
  (he:B (mk l.length (S l))=some (.ex (e (S l)))) (hN:l.length<N):Aj B N (mk 0 (S []))=some ((Oy R [] l).elim (.inl (e (S l))) .inr):=by
 suffices H:∀k i N,i+k=l.length->k<N->Aj B N (mk i (S (l.take i)))=some ((Oy R (l.take i) (l.drop i)).elim (.inl (e (S l))) .inr)by have:=H l.length 0 N ae hN;grind
 intro k
 induction k with
 |zero=>
  intro i N hi hN;obtain⟨N,rfl⟩:∃m,N=m+1:=⟨N-1,ae⟩;have:i=l.length:=ae
  subst this;rw[Aj,Ni,he,TT];rfl
 |succ k b=>
  intro i N hi hN;obtain⟨N,rfl⟩:∃m,N=m+1:=⟨N-1,ae⟩;have a:i<l.length:=ae
  rw[Aj,hs i l[i] (Ye a),IH a,Oy];cases R (l.take i) l[i]with
  |some r=>rfl
  |none=>
   have:=b (i+1) N ae ae;rw[HR a]at this;exact this
theorem vV{R:List α->α->Option ρ}(h:∀p x,R p x=none):∀(l p:List α),Oy R p l=none
 |[],p=>rfl
 |x::l,p=>by rw[Oy,h];exact vV h l _
theorem CK{B:σ->Option (Lv σ ξ ρ)}{N:Nat}(l:List α)(S:List α->β)(mk:Nat->β->σ)(e:β->ξ)
  (hs:∀i x,l[i]?=some x->B (mk i (S (l.take i)))=some (.nx (mk (i+1) (S (l.take i++[x])))))
  (he:B (mk l.length (S l))=some (.ex (e (S l)))) (hN:l.length<N):Aj B N (mk 0 (S []))=some (.inl (e (S l))):=by
 rw[Zwr l S (λ_ _=>none) mk e hs he hN,vV λ_ _=>rfl];rfl
theorem xg{B:σ->Option (Lv σ ξ ρ)}(I:Nat->σ->Prop)(Q:ξ ⊕ ρ->Prop)
  (h:∀k v,I k v->∃o,B v=some o/\match o with|.nx c=>∃k',k'<k/\I k' c|.ex b=>Q (.inl b)|.rt y=>Q (.inr y)):
  ∀N k v,k<N->I k v->∃o,Aj B N v=some o/\Q o
 |0,k,v,d,_=>absurd d (Y8 _)
 |N+1,k,v,d,g=>by
  obtain⟨o,e,a⟩:=h k v g;rw[Aj,e];cases o with
  |nx c=>obtain⟨k',i,f⟩:=a;exact xg I Q h N k' c ae f
  |ex b=>exact⟨_,rfl,a⟩
  |rt y=>exact⟨_,rfl,a⟩
theorem A5{l:List α}{i:Nat}{x:α}(h:l[i]?=some x):(i:Int)<(l.length:Int):=by grind
theorem AM{n:Nat}(h:n<4611686018427387904):n<Ag:=h
end
end Go.Eng
namespace Go.Proofs.YthcplkfhnnlafaaGreat
set_option linter.all false
open Go Go.Eng
def Ok{α:Type}(Q:α->Prop)(o:Option α):Prop:=∃y,o=some y/\Q y
section
variable {α β γ σ ξ ρ:Type} {Q:β->Prop} {P:α->Prop}
theorem AG{y:β}(h:Q y):Ok Q (some y):=⟨y,rfl,h⟩
theorem AO{m:Option α}{k:α->Option β}(h:Ok P m)(a:∀y,P y->Ok Q (k y)):Ok Q (m.bind k):=by obtain⟨y,rfl,h⟩:=h;exact a y h
theorem B4{xs:List α}{i:Nat}{k:α->Option β}(h:i<xs.length)(a:∀x,xs[i]?=some x->x∈xs->Ok Q (k x)):Ok Q (xs[i]?.bind k):=by rw[Ye h];exact a _ (Ye h) (G3 h)
theorem AR{b:Bool}{x y:Option β}(h:b=true->Ok Q x)(a:b=false->Ok Q y):Ok Q (if b=true then x else y):=by
 cases b
 ·exact a rfl
 ·exact h rfl
theorem AU{c:Prop}{d:Decidable c}{a:Option β}(b:c)(h:Ok Q a):Ok Q (if c then a else none):=by rw[Yi b];exact h
theorem qJ{lo hi:Bd}{n:Nat}{a:Option β}(b:lo.c/\hi.c/\lo.vl 0<=hi.vl n/\hi.vl n<=n)(h:Ok Q a):Ok Q (if lo.c/\hi.c/\lo.vl 0<=hi.vl n/\hi.vl n<=n then a else none):=by rw[Yi b];exact h
theorem Bw{b:Bool}{m:Option α}{x:Option β}(h:b=true->Ok P m)[Inhabited α](d:(b=true->P (m.getD default))->Ok Q x):Ok Q (if(b=true->m.isSome=true)then x else none):=by rw[Yi λe=>by obtain⟨y,h,_⟩:=h e;rw[h];rfl];refine d λe=>?_;obtain⟨y,a,c⟩:=h e;rw[a];exact c
theorem Hh{b:Bool}{xs:List α}{i:Int}{x:Option β}[Rw α](h:b=true->0<=i/\i<xs.length)(c:(b=true->xs[i.toNat]?=some (xs.getD i.toNat Rw.z)/\xs.getD i.toNat Rw.z∈xs)->Ok Q x):Ok Q (if(b=true->0<=i/\i<xs.length)then x else none):=by
 rw[Yi h];refine c λe=>?_;have d:=h e;have a:i.toNat<xs.length:=ae
 rw[Yj,Ye a];exact⟨rfl,G3 a⟩
theorem BC{B:σ->Option (Lv σ ξ ρ)}{N:Nat}{v:σ}(I:σ->Prop)(μ:σ->Nat){A:ξ->Prop}{R:ρ->Prop}(d:I v)(hN:μ v<N)
  (hs:∀v,I v->Ok (λo=>match o with|.nx c=>I c/\μ c<μ v|.ex b=>A b|.rt y=>R y) (B v)):Ok (Sum.elim A R) (Aj B N v):=
 xg (λk v=>I v/\μ v<=k) (Sum.elim A R) (λk v h=>by
  obtain⟨o,e,a⟩:=hs v h.1;refine⟨o,e,?_⟩;cases o with
  |nx c=>exact⟨μ c,by have:=a.2;have:=h.2;omega,a.1,Yf _⟩
  |ex b=>exact a
  |rt y=>exact a) N (μ v) v hN ⟨d,Yf _⟩
theorem BU{m:Option (ξ ⊕ ρ)}{A:ξ->Prop}{R:ρ->Prop}{f:ξ->Option β}{g:ρ->Option β}(h:Ok (Sum.elim A R) m)(hx:∀b,A b->Ok Q (f b))(a:∀r,R r->Ok Q (g r)):Ok Q (m.bind (Sum.elim f g)):=by
 obtain⟨y,rfl,h⟩:=h;cases y with
 |inl b=>exact hx b h
 |inr r=>exact a r h
theorem Ok.mono{a:β->Prop}{o:Option β}(h:Ok Q o)(k:∀y,Q y->a y):Ok a o:=by obtain⟨y,b,c⟩:=h;exact⟨y,b,k y c⟩
theorem Ok.some{o:Option β}(h:Ok Q o):o.isSome=true:=by obtain⟨y,a,b⟩:=h;rw[a];rfl
end
abbrev Tr{α:Type}:α->Prop:=λ_=>True
abbrev No{α:Type}:α->Prop:=λ_=>False
abbrev Ts{α β:Type}:α ⊕ β->Prop:=Sum.elim Tr Tr
theorem sz0:(⟨#[]⟩:ByteArray).size=0:=rfl
theorem A0{p:Prop}(h:p:=by first|trivial|assumption|contradiction|omega|grind|(simp only[Bd.c,Bd.vl,ByteArray.size_append,lw,sz0]at*;grind)):p:=h
theorem Ct{p:Prop}(h:p:=by first|trivial|assumption|contradiction|omega|solve_by_elim|(simp only[Yc,YG,YM,IC,IF,Yr,YB]at*;omega)|grind):p:=h
theorem Um(x:Int):Ok Tr (u9 x):=⟨_,rfl,trivial⟩
theorem Ux(x:Int):Ok Tr (vi x):=⟨_,rfl,trivial⟩
theorem uM(x:Val):Ok Tr (QH x):=⟨_,rfl,trivial⟩
theorem uV(x:Int):Ok Tr (L6 x):=⟨_,rfl,trivial⟩
theorem td(x:Int):Ok Tr (QA x):=by
 dsimp only[QA,br,lr,br,rem]
 (repeat' (first|with_reducible (first|refine AR (λ_=>?_) λ_=>?_|refine AG ?_|refine AU ?_ ?_)))<;>exact Ct
theorem dz(x:ByteArray):Ok Tr (eK x):=by
 dsimp only[eK,Wg,Ra,Q1,br,lr,br]
 (repeat' (first|with_reducible (first|refine AR (λ_=>?_) λ_=>?_|refine AG ?_|refine AU ?_ ?_)))<;>exact Ct
theorem ZTZ(x:ByteArray)(n:Int):Ok Tr (eL x n):=by
 dsimp only[eL,gk,Wc,VN,Q4,Q3,VD,br,lr,br]
 (repeat' (first|with_reducible (first|refine AR (λ_=>?_) λ_=>?_|refine AG ?_|refine AU ?_ ?_)))<;>exact Ct
theorem dm(x:ByteArray):Ok Tr (eV x):=by
 dsimp only[eV,br,lr,br]
 (repeat' (first|with_reducible (first|refine AR (λ_=>?_) λ_=>?_|refine AG ?_|refine AU ?_ ?_)))<;>exact Ct
def M0(x:Fld):Prop:=(x.card≠5->1<=x.card/\x.card<=4/\x.key=0)/\(x.card=5->x.key=1\/x.key=2\/x.key=3\/x.key=4\/x.key=5\/x.key=7)
theorem o91(x:Fld):Ok (λb=>b=true->M0 x) (eJ x):=by
 unfold M0;dsimp only[eJ,br,wg,lr,br]
 (repeat' (first|with_reducible (first|refine AR (λ_=>?_) λ_=>?_|refine AG ?_|refine AU ?_ ?_)))<;>(intro h;first|(cases h;done)|(simp only[Yc,YM,TM,Yr,YB]at*;omega))
theorem db(x:ByteArray)(i a b:Int)(h:0<=i):Ok Tr (NS x i a b):=by
 dsimp only[NS,vz,lr,A3,GY]
 (repeat' (first|with_reducible (first|refine AR (λ_=>?_) λ_=>?_|refine AG ?_|refine AU ?_ ?_)))<;>exact Ct
theorem s9(x:ByteArray)(i n:Int)(h:0<=i)(a:i<=2097152)(b:n<=9):Ok Tr (L8 x i n):=by
 have q:Ok Ts (Aj (Mx x i n) Ag 0):=by
  refine BC (λ_:Nat=>True) (λv:Nat=>(n-v).toNat) trivial ?_ λv _=>?_
  ·unfold Ag;omega
  dsimp only[Mx,br,vs,Ar,ln,Af,cl,wa,wi,br]
  (repeat' (first|with_reducible (first|refine AR (λ_=>?_) λ_=>?_|refine AG ?_)|(with_reducible apply AO;(exact db _ _ _ _ ae);intro _ _)|with_reducible refine AU ?_ ?_))<;>exact Ct
 dsimp only[L8,lr,lc]
 (repeat' (first|with_reducible (first|refine AR (λ_=>?_) λ_=>?_|refine AG ?_)|(with_reducible apply BU;(exact q);all_goals(intro _ _;try dsimp only))|with_reducible refine AU ?_ ?_))<;>exact Ct
set_option maxRecDepth 20000 in
theorem ZUn(x:ByteArray)(i:Int)(h:0<=i)(h1:i<x.size)(h2:x.size<=1048576):Ok (λy=>0<=y/\y<=4) (QK x i):=by
 dsimp only[QK,br,vg,lr,Az,wi,br,S1]
 (repeat' (first|with_reducible (first|refine AR (λ_=>?_) λ_=>?_|refine AG ?_|refine B4 ?_ λ_ _ _=>?_)|(with_reducible apply AO;(exact db _ _ _ _ ae);intro _ _)|(with_reducible apply AO;(exact s9 _ _ _ ae ae ae);intro _ _)|(with_reducible apply Bw;(exact λ_=>db _ _ _ _ ae);intro _)|(with_reducible apply Bw;(exact λ_=>s9 _ _ _ ae ae ae);intro _)|with_reducible refine AU ?_ ?_))<;>exact Ct
theorem He:∀a b:List (List D),AS (a++b)=AS a+AS b
 |[],b=>by rw[Ge,AS,YU]
 |x::a,b=>by rw[HO,AS,AS,He a b];omega
theorem Wh{α:Type}(e:α->List D){l:List α}{i:Nat}{x:α}(h:l[i]?=some x):AS ((l.take (i+1)).map e)=AS ((l.take i).map e)+An (e x)+1:=by obtain⟨a,rfl⟩:=Yb.1 h;rw[HR a,Df,He];simp only[YY,DU,AS];omega
theorem Om{α:Type}(e:α->List D)(l:List α)(i:Nat):AS ((l.take i).map e)<=AS (l.map e):=by
 conv=>rhs;rw[<-IB i l,Df,He]
 omega
structure SzV (v:Val):Prop where
 t:v.text.size<=1048576
 l:v.list.length<=1048576
 p:v.pairs.length<=1048576
 s:v.slots.length<=1048576
 r:v.raws.length<=1048576
structure SzN (x:Nt):Prop where
 n:x.name.size<=1048576
 v:SzV x.val
abbrev Jz(l:List Nt):Prop:=l.length<=1048576/\∀x∈l,SzN x
structure SzF (x:Fld):Prop where
 n:x.name.size<=1048576
 t:x.type.name.size<=1048576
 u:x.union.size<=1048576
 d:SzV x.dflt
 o:Jz x.notes
structure SzM (x:Msg):Prop where
 n:x.name.size<=1048576
 fl:x.fields.length<=1048576
 f:∀y∈x.fields,SzF y
 r:x.reserved.length<=1048576
 gl:x.gone.length<=1048576
 g:∀y∈x.gone,y.size<=1048576
 o:Jz x.notes
structure SzI (x:Itm):Prop where
 n:x.name.size<=1048576
 o:Jz x.notes
structure SzE (x:Enm):Prop where
 n:x.name.size<=1048576
 il:x.items.length<=1048576
 i:∀y∈x.items,SzI y
 r:x.reserved.length<=1048576
 o:Jz x.notes
structure SzT (x:Mth):Prop where
 n:x.name.size<=1048576
 o:Jz x.notes
structure SzW (x:Svc):Prop where
 n:x.name.size<=1048576
 ml:x.methods.length<=1048576
 m:∀y∈x.methods,SzT y
 o:Jz x.notes
structure SzS (x:Scm):Prop where
 ml:x.messages.length<=1048576
 m:∀y∈x.messages,SzM y
 el:x.enums.length<=1048576
 e:∀y∈x.enums,SzE y
 wl:x.services.length<=1048576
 w:∀y∈x.services,SzW y
theorem Cm{v:Val}(h:An (Ae v)<=1048576):SzV v:=by have a:=CU (e:=AE) v.list;have b:=CU (e:=Ap) v.pairs;have c:=CU (e:=Am) v.slots;have d:=CU (e:=Aw) v.raws;simp only[Ae,An,bk]at h;constructor<;>omega
theorem O6{v:Val}(h:An (Ae v)<=1048576):0<=v.bits/\v.bits<=18446744073709551615:=by simp only[Ae,An,bk]at h;have:=se (k:=.u64) (n:=v.bits) ae;exact this
theorem szN{x:Nt}(h:An (Co x)<=1048576):SzN x:=by
 have e:An (Co x)=x.name.size+An (Ae x.val):=by simp only[Co,Ae,An,bk]
 exact⟨ae,Cm ae⟩
theorem Nz{l:List Nt}(h:AS (l.map Co)<=1048576):Jz l:=⟨by have:=CU (e:=Co) l;omega,λx hx=>szN (by have:=Dr (e:=Co) hx;omega)⟩
theorem szF{x:Fld}(h:An (As x)<=1048576):SzF x:=by
 have e:x.name.size+x.type.name.size+x.union.size+An (Ae x.dflt)+AS (x.notes.map Co)<=An (As x):=by simp only[As,Ae,An,bk];omega
 exact⟨ae,ae,ae,Cm ae,Nz ae⟩
theorem szM{x:Msg}(h:An (AH x)<=1048576):SzM x:=by simp only[AH,An,bk]at h;have a:=CU (e:=As) x.fields;have b:=CU (e:=CZ) x.reserved;have c:=CU (e:=Bu) x.gone;exact⟨ae,ae,λy hy=>szF (by have:=Dr (e:=As) hy;omega),ae,ae,λy hy=>by have:=Dr (e:=Bu) hy;simp only[Bu,An,bk]at this;omega,Nz ae⟩
theorem szI{x:Itm}(h:An (CW x)<=1048576):SzI x:=by simp only[CW,An,bk]at h;exact⟨ae,Nz ae⟩
theorem szE{x:Enm}(h:An (BN x)<=1048576):SzE x:=by simp only[BN,An,bk]at h;have a:=CU (e:=CW) x.items;have b:=CU (e:=CZ) x.reserved;exact⟨ae,ae,λy hy=>szI (by have:=Dr (e:=CW) hy;omega),ae,Nz ae⟩
theorem szT{x:Mth}(h:An (Ic x)<=1048576):SzT x:=by simp only[Ic,An,bk]at h;exact⟨ae,Nz ae⟩
theorem szW{x:Svc}(h:An (DM x)<=1048576):SzW x:=by simp only[DM,An,bk]at h;have a:=CU (e:=Ic) x.methods;exact⟨ae,ae,λy hy=>szT (by have:=Dr (e:=Ic) hy;omega),Nz ae⟩
theorem DR{x:Scm}(h:An (Al x)<=1048576):SzS x:=by simp only[Al,An,bk]at h;have a:=CU (e:=AH) x.messages;have b:=CU (e:=BN) x.enums;have c:=CU (e:=DM) x.services;exact⟨ae,λy hy=>szM (by have:=Dr (e:=AH) hy;omega),ae,λy hy=>szE (by have:=Dr (e:=BN) hy;omega),ae,λy hy=>szW (by have:=Dr (e:=DM) hy;omega)⟩
end Go.Proofs.YthcplkfhnnlafaaGreat
