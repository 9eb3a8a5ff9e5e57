import Derived.Test.YtopncadjpnkjhaaGreatDoorZg18
import Derived.Test.YtopncadjpnkjhaaGreatDoorZg09
import Derived.Test.YtopncadjpnkjhaaGreatDoorZg08
import Derived.Test.YtopncadjpnkjhaaGreatDoorRows
import Derived.WalkKit
import Derived.ProofKit
import Derived.OpenShut
import Derived.Carry
import Derived.Deep.DeepHandedRow
import Derived.Test.YtopncadjpnkjhaaGreatDoorZg10
import Derived.Test.YtopncadjpnkjhaaGreatDoorZg00
namespace Go.Proofs.YtopncadjpnkjhaaGreatDoor
set_option maxRecDepth 100000
set_option linter.all false
open Go Go.Eng
abbrev BQ:List (Ab×Bool):=[((1,5),false),((1,6),false),((1,7),false)]
abbrev Gp(a:Scm):Ab×Blk:=kk 5 26 3 (cD (Ak a))
abbrev Gq(a:Val):Ab×Blk:=kk 7 33 7 (cD (Ae a))
abbrev Fp:Int→AV:=fun y=>vI y
def dX(a:Scm)(b:Msg)(c:Val)(d:Int)(e:Bool):Nat→St:=fun v2=>Aa [(3,vI d),(4,vB e),pp 5,pp 6,pp 7,(11,vN v2)] [(Gp a),kk 6 47 5 (cD (Au b)),(Gq c)]
def dJ(a:Scm)(b:Msg)(c:Val):Unit→Nat×St:=fun _=>(0,Aa [pp 5,pp 6,pp 7] [(Gp a),kk 6 47 5 (cD (Au b)),(Gq c)])
def SV(c:Scm)(d:Msg)(a:Val)(e:Int)(f:Bool)(b:Scm→Fld→Val→Int→Bool→Option (Int))(v2:Nat):PT 0 (Lv (Nat) (Unit) (Int)):=wg<|vz (Ag a.slots)<|br (decide ((v2:Int)<(a.slots.length:Int))) (wg<|wg<|wg<|cs Tryz.prog 123 [.agg ((Ak c).map .d),.agg ((Au d).map .d),.agg ((Ae a).map .d),vN v2,vI e,vB f] [] [] (O1 b c d a (v2:Int) e f) (fun y=>vI y) fun g=>br (!decide (g=(0:Int))) (An Fp nG g) (vs (wa v2 1)<|ln (dX c d a e f) (v2+1))) (Ah (dJ c d a) ())
def Ni(b:Scm)(c:Msg)(d:Val)(e:Int)(f:Bool)(a:Scm→Fld→Val→Int→Bool→Option (Int)):Nat→Option (Lv (Nat) (Unit) (Int)):=fun v2=>(SV b c d e f a v2).m
def cF(a:Scm)(b:Msg)(c:Val):Nat→St:=fun v4=>Aa [pp 5,pp 6,pp 7,(13,vN v4)] [(Gp a),kk 6 47 5 (cD (Au b)),(Gq c)]
def eX(a:Scm)(b:Msg)(c:Val):Unit→Nat×St:=fun _=>(2,Aa [pp 5,pp 6,pp 7] [(Gp a),kk 6 47 5 (cD (Au b)),(Gq c)])
def SM(d:Scm)(a:Msg)(c:Val)(v4:Nat):PT 0 (Lv (Nat) (Unit) (Int)):=wg<|vz (Ag a.fields)<|br (decide ((v4:Int)<(a.fields.length:Int))) (wg<|ix a.fields v4 fun b=>wg<|wg<|A8 (decide (b.card=(1:Int))) a.fields (v4:Int) fun e=>Aw (decide (b.card=(1:Int))) (yK c e.num) fun f=>br (decide (b.card=(1:Int))&&(!f)) (An Fp nG 14) (vs (wa v4 1)<|ln (cF d a c) (v4+1))) (Ah (eX d a c) ())
def Ng(b:Scm)(c:Msg)(d:Val)(a:Scm→Fld→Val→Int→Bool→Option (Int)):Nat→Option (Lv (Nat) (Unit) (Int)):=fun v4=>(SM b c d v4).m
def cb(a:Scm)(b:Msg)(c:Val):Nat→St:=fun d=>Aa [pp 5,pp 6,pp 7,(14,vN d)] [(Gp a),kk 6 47 5 (cD (Au b)),(Gq c)]
def bX:Unit→Nat×St:=fun _=>(4,Aa [] [])
def ZD(d:Scm)(e:Msg)(b:Val)(c:Nat):PT 0 (Lv (Nat) (Unit) (Int)):=wg<|vz (Ag b.raws)<|br (decide ((c:Int)<(b.raws.length:Int))) (wg<|wg<|wg<|ix b.raws c fun f=>cl (ZNt d e f) fun a=>br (!decide (a=(0:Int))) (An Fp nG a) (vs (wa c 1)<|ln (cb d e b) (c+1))) (Ah (bX) ())
def MV(b:Scm)(c:Msg)(d:Val)(a:Scm→Fld→Val→Int→Bool→Option (Int)):Nat→Option (Lv (Nat) (Unit) (Int)):=fun e=>(ZD b c d e).m
def gn:PT 0 (Int):=lr Fp nG 0
def gD(b:Scm)(c:Msg)(d:Val)(a:Scm→Fld→Val→Int→Bool→Option (Int)):PT 0 (Int):=lc (Aa [pp 5,pp 6,pp 7,(14,vI 0)] [(Gp b),kk 6 47 5 (cD (Au c)),(Gq d)]) ((Al (MV b c d a) Ai 0).bind (Sum.elim (fun _=>(gn).m) some))
def bJ(b:Scm)(c:Msg)(d:Val)(a:Scm→Fld→Val→Int→Bool→Option (Int)):PT 0 (Int):=lc (Aa [pp 5,pp 6,pp 7,(13,vI 0)] [(Gp b),kk 6 47 5 (cD (Au c)),(Gq d)]) ((Al (Ng b c d a) Ai 0).bind (Sum.elim (fun _=>(gD b c d a).m) some))
def fI(b:Scm)(c:Msg)(d:Val)(e:Int)(f:Bool)(a:Scm→Fld→Val→Int→Bool→Option (Int)):PT 0 (Int):=lc (Aa [(3,vI e),(4,vB f),pp 5,pp 6,pp 7,(11,vI 0)] [(Gp b),kk 6 47 5 (cD (Au c)),(Gq d)]) ((Al (Ni b c d e f a) Ai 0).bind (Sum.elim (fun _=>(bJ b c d a).m) some))
def cG(d:Scm)(e:Msg)(b:Val)(c:Int)(f:Bool)(a:Scm→Fld→Val→Int→Bool→Option (Int)):PT 0 (Int):=wg<|wg<|Aw (!(!decide (b.kind=(10:Int)))) (RD b) fun g=>br ((!decide (b.kind=(10:Int)))||g) (lr Fp nG 12) (br (decide ((16:Int)<c)) (lr Fp nG 17) (lc (Aa [(3,vI c),(4,vB f),pp 5,pp 6,pp 7] [(Gp d),kk 6 47 5 (cD (Au e)),(Gq b)]) ((fI d e b c f a).m)))
def L6(a:Scm→Fld→Val→Int→Bool→Option (Int))(b:Scm)(c:Msg)(d:Val)(e:Int)(f:Bool):Option (Int):=(cG b c d e f a).m
theorem Zzh{C:Cx}(co:CO C 0)(b:Scm)(c:Msg)(d:Val)(e:Int)(f:Bool)(a:Scm→Fld→Val→Int→Bool→Option (Int))(h:∀(b:Scm) (c:Fld) (d:Val) (e:Int) (f:Bool),KC Tryz.prog 165 [.agg ((Ak b).map .d),.agg ((Am c).map .d),.agg ((Ae d).map .d),vI e,vB f] (a b c d e f) BR):KL Tryz.prog (Aq tl) 85 C (pa [0,0,1,0,1,1,1] (Ar Tryz.f64)) [.tmp 10] 0 (dX b c d e f) (dJ b c d) Fp nG (Ni b c d e f a):=fun v2 _ m Q i k L=>eN co (Ad [3,4,5,6,7,11] BQ) (Ad [5,6,7] BQ) k m L fun r g=>⟨⟨fun y hy j _ _=>by rw[(Zd a h b c d (v2:Int) e f).x,(Zd a h b c d (v2:Int) e f).e];exact(Zd a h b c d (v2:Int) e f).k _ j y hy,fun l=>⟨id,id⟩⟩,id⟩
theorem Zz8{C:Cx}(co:CO C 0)(b:Scm)(c:Msg)(d:Val)(a:Scm→Fld→Val→Int→Bool→Option (Int))(i:∀(b:Scm) (c:Fld) (d:Val) (f:Int) (g:Bool),KC Tryz.prog 165 [.agg ((Ak b).map .d),.agg ((Am c).map .d),.agg ((Ae d).map .d),vI f,vB g] (a b c d f g) BR):KL Tryz.prog (Aq tl) 85 C (pa [0,0,1,0,1,1,1,1] (Ar Tryz.f64)) [.tmp 10] 0 (cF b c d) (eX b c d) Fp nG (Ng b c d a):=fun v4 _ m Q e h L=>eN co (Ad [5,6,7,13] BQ) (Ad [5,6,7] BQ) h m L
theorem Zzd{C:Cx}(co:CO C 0)(b:Scm)(c:Msg)(d:Val)(a:Scm→Fld→Val→Int→Bool→Option (Int))(i:∀(b:Scm) (c:Fld) (d:Val) (f:Int) (g:Bool),KC Tryz.prog 165 [.agg ((Ak b).map .d),.agg ((Am c).map .d),.agg ((Ae d).map .d),vI f,vB g] (a b c d f g) BR):KL Tryz.prog (Aq tl) 85 C (pa [0,0,1,0,1,1,1,1,1] (Ar Tryz.f64)) [.tmp 10] 0 (cb b c d) (bX) Fp nG (MV b c d a):=fun j _ m Q e h L=>eN co (Ad [5,6,7,14] BQ) nl h m L
theorem OY(a:Scm→Fld→Val→Int→Bool→Option (Int))(h:∀(b:Scm) (c:Fld) (d:Val) (e:Int) (f:Bool),KC Tryz.prog 165 [.agg ((Ak b).map .d),.agg ((Am c).map .d),.agg ((Ae d).map .d),vI e,vB f] (a b c d e f) BR)(b:Scm)(c:Msg)(d:Val)(e:Int)(f:Bool):KC Tryz.prog 64 [.agg ((Ak b).map .d),.agg ((Au c).map .d),.agg ((Ae d).map .d),vI e,vB f] (L6 a b c d e f) Fp:=kC Tryz.func64 Tryz.ntmps64 [.tmp 10] fun co m L=>mJ co 3 (Ad [3,4,5,6,7] BQ) nl nH m L fun r g=>fun i=>⟨id,⟨id,fun _ m L=>sq (mJ co 1 (Ad [3,4,5,6,7,11] BQ) nl nH m L fun r g=>fun _ m L=>bk 0 (lo (Az (Zzh co b c d e f a h) nH m L (fun _ m=>sq (mJ co 1 (Ad [5,6,7,13] BQ) nl nH m L fun r g=>fun _ m L=>bk 2 (lo (Az (Zz8 co b c d a h) nH m L (fun _ m=>sq (mJ co 1 (Ad [5,6,7,14] BQ) nl nH m L fun r g=>fun _ m L=>bk 4 (lo (Az (Zzd co b c d a h) nH m L (fun _ m=>fO co m L))))))))))))⟩⟩
abbrev G0:Int→AV:=fun y=>vI y
def eS(c:Scm)(a:Typ)(d:Val)(g:Int)(h:Bool)(b:Scm→Fld→Val→Int→Bool→Option (Int)):PT 0 (Int):=wg<|br (decide (a.kind=(10:Int))) (wg<|wg<|cl (jp c a.name) fun f=>wg<|br (!f.2) (lr G0 nG 10) (wg<|wg<|wg<|cs Tryz.prog 64 [.agg ((Ak c).map .d),.agg ((Au f.1).map .d),.agg ((Ae d).map .d),vI g,vB h] [] [] (L6 b c f.1 d g h) (fun y=>vI y) fun j=>lr G0 nG j)) (wg<|wg<|br (decide (a.kind<(1:Int))||decide ((9:Int)<a.kind)) (lr G0 nG 12) (wg<|wg<|cl (la a.kind d) fun i=>wg<|br ((!decide (i=(0:Int)))||(!decide (a.kind=(9:Int)))) (lr G0 nG i) (wg<|wg<|cl (jY c a.name) fun e=>wg<|br (!e.2) (lr G0 nG 10) (wg<|wg<|wg<|Aw (!e.1.opn) (ld e.1 d.bits) fun k=>br ((!e.1.opn)&&(!k)) (lr G0 nG 16) (lr G0 nG 0)))))
def J0(a:Scm→Fld→Val→Int→Bool→Option (Int))(b:Scm)(c:Typ)(d:Val)(e:Int)(f:Bool):Option (Int):=(eS b c d e f a).m
theorem Gy(a:Scm→Fld→Val→Int→Bool→Option (Int))(h:∀(b:Scm) (f:Fld) (c:Val) (d:Int) (e:Bool),KC Tryz.prog 165 [.agg ((Ak b).map .d),.agg ((Am f).map .d),.agg ((Ae c).map .d),vI d,vB e] (a b f c d e) BR)(b:Scm)(f:Typ)(c:Val)(d:Int)(e:Bool):KC Tryz.prog 26 [.agg ((Ak b).map .d),.agg ((CJ f).map .d),.agg ((Ae c).map .d),vI d,vB e] (J0 a b f c d e) G0:=Ci Tryz.func26 Tryz.ntmps26 AG [.tmp 10] fun C co y m j L=>fO co m L fun r g=>⟨fun i=>⟨id,⟨fun y hy k _ _=>by rw[(OY a h b i.1 c d e).x,(OY a h b i.1 c d e).e];exact(OY a h b i.1 c d e).k _ k y hy,fun l=>id⟩⟩,⟨id,fun n=>⟨id,fun o=>⟨id,fun p=>⟨id,id⟩⟩⟩⟩⟩
abbrev CZ(a:Scm):Ab×Blk:=kk 5 26 3 (cD (Ak a))
abbrev CY(a:Fld):Ab×Blk:=kk 6 53 16 (cD (Am a))
abbrev C1(a:Val):Ab×Blk:=kk 7 33 7 (cD (Ae a))
def sg(a:Scm)(b:Fld)(c:Val)(d:Int)(e:Bool):Nat→St:=fun v2=>Aa [(3,vI d),(4,vB e),pp 5,pp 6,pp 7,(11,vN v2)] [(CZ a),(CY b),(C1 c)]
def ri:Unit→Nat×St:=fun _=>(0,Aa [] [])
def Xz(c:Scm)(d:Fld)(b:Val)(e:Int)(f:Bool)(a:Scm→Fld→Val→Int→Bool→Option (Int))(v2:Nat):PT 0 (Lv (Nat) (Unit) (Int)):=wg<|vz (Ag b.list)<|br (decide ((v2:Int)<(b.list.length:Int))) (wg<|wg<|wg<|ix b.list v2 fun g=>cs Tryz.prog 26 [.agg ((Ak c).map .d),.agg ((CJ d.type).map .d),.agg ((Ae g).map .d),vI e,vB f] [] [] (J0 a c d.type g e f) (fun y=>vI y) fun h=>br (!decide (h=(0:Int))) (An BR nG h) (vs (wa v2 1)<|ln (sg c d b e f) (v2+1))) (Ah (ri) ())
def MM(b:Scm)(c:Fld)(d:Val)(e:Int)(f:Bool)(a:Scm→Fld→Val→Int→Bool→Option (Int)):Nat→Option (Lv (Nat) (Unit) (Int)):=fun v2=>(Xz b c d e f a v2).m
def tn:PT 0 (Int):=lr BR nG 0
def tU(b:Scm)(c:Fld)(d:Val)(e:Int)(f:Bool)(a:Scm→Fld→Val→Int→Bool→Option (Int)):PT 0 (Int):=lc (Aa [(3,vI e),(4,vB f),pp 5,pp 6,pp 7,(11,vI 0)] [(CZ b),(CY c),(C1 d)]) ((Al (MM b c d e f a) Ai 0).bind (Sum.elim (fun _=>(tn).m) some))
def qG(c:Scm)(d:Fld)(b:Val)(e:Int)(f:Bool)(a:Scm→Fld→Val→Int→Bool→Option (Int)):PT 0 (Int):=wg<|wg<|Aw (!(!decide (b.kind=(11:Int)))) (RD b) fun g=>br ((!decide (b.kind=(11:Int)))||g) (lr BR nG 12) (lc (Aa [(3,vI e),(4,vB f),pp 5,pp 6,pp 7] [(CZ c),(CY d),(C1 b)]) ((tU c d b e f a).m))
def rm(a:Scm)(b:Fld)(c:Val)(d:Int)(e:Bool):Nat→St:=fun f=>Aa [(3,vI d),(4,vB e),pp 5,pp 6,pp 7,(13,vN f)] [(CZ a),(CY b),(C1 c)]
def ry:Unit→Nat×St:=fun _=>(2,Aa [] [])
def qv(a:Scm)(b:Fld)(c:Val)(d:Int)(e:Bool)(f:Nat):Nat→St:=fun v9=>Aa [(3,vI d),(4,vB e),pp 5,pp 6,pp 7,(13,vN f),(15,vN v9)] [(CZ a),(CY b),(C1 c)]
def pm(a:Scm)(b:Fld)(c:Val)(d:Int)(e:Bool)(f:Nat):Unit→Nat×St:=fun _=>(4,Aa [(3,vI d),(4,vB e),pp 5,pp 6,pp 7,(13,vN f)] [(CZ a),(CY b),(C1 c)])
def Qq(h:Scm)(i:Fld)(c:Val)(j:Int)(g:Bool)(d:Nat)(v9:Nat):PT 0 (Lv (Nat) (Unit) (Int)):=br (decide ((v9:Int)<(d:Int))&&g) (wg<|ix c.pairs v9 fun a=>wg<|ix c.pairs d fun b=>wg<|A8 (decide (a.key.bits=b.key.bits)) c.pairs (v9:Int) fun e=>wg<|A8 (decide (a.key.bits=b.key.bits)) c.pairs (d:Int) fun f=>br (decide (a.key.bits=b.key.bits)&&decide (e.key.text=f.key.text)) (An BR nG 9) (vs (wa v9 1)<|ln (qv h i c j g d) (v9+1))) (Ah (pm h i c j g d) ())
def IE(b:Scm)(c:Fld)(d:Val)(e:Int)(f:Bool)(a:Scm→Fld→Val→Int→Bool→Option (Int))(g:Nat):Nat→Option (Lv (Nat) (Unit) (Int)):=fun v9=>(Qq b c d e f g v9).m
def X8(b:Scm)(c:Fld)(d:Val)(e:Int)(f:Bool)(a:Nat):PT 0 (Lv (Nat) (Unit) (Int)):=vs (wa a 1)<|ln (rm b c d e f) (a+1)
def XO(d:Scm)(e:Fld)(h:Val)(f:Int)(g:Bool)(a:Scm→Fld→Val→Int→Bool→Option (Int))(i:Nat):PT 0 (Lv (Nat) (Unit) (Int)):=wg<|wg<|wg<|ix h.pairs i fun b=>cs Tryz.prog 26 [.agg ((Ak d).map .d),.agg ((CJ e.type).map .d),.agg ((Ae b.val).map .d),vI f,vB g] [] [] (J0 a d e.type b.val f g) (fun y=>vI y) fun c=>br (!decide (c=(0:Int))) (An BR nG c) (lc (Aa [(3,vI f),(4,vB g),pp 5,pp 6,pp 7,(13,vN i)] [(CZ d),(CY e),(C1 h)]) ((X8 d e h f g i).m))
def XW(b:Scm)(c:Fld)(d:Val)(e:Int)(f:Bool)(a:Scm→Fld→Val→Int→Bool→Option (Int))(g:Nat):PT 0 (Lv (Nat) (Unit) (Int)):=lc (Aa [(3,vI e),(4,vB f),pp 5,pp 6,pp 7,(13,vN g),(15,vI 0)] [(CZ b),(CY c),(C1 d)]) ((Al (IE b c d e f a g) Ai 0).bind (Sum.elim (fun _=>(XO b c d e f a g).m) (fun z=>some (.rt z))))
def XR(e:Scm)(b:Fld)(c:Val)(f:Int)(g:Bool)(a:Scm→Fld→Val→Int→Bool→Option (Int))(d:Nat):PT 0 (Lv (Nat) (Unit) (Int)):=wg<|wg<|ix c.pairs d fun i=>cl (la b.key i.key) fun h=>br (!decide (h=(0:Int))) (An BR nG h) (lc (Aa [(3,vI f),(4,vB g),pp 5,pp 6,pp 7,(13,vN d)] [(CZ e),(CY b),(C1 c)]) ((XW e b c f g a d).m))
def WQ(d:Scm)(e:Fld)(b:Val)(f:Int)(g:Bool)(a:Scm→Fld→Val→Int→Bool→Option (Int))(c:Nat):PT 0 (Lv (Nat) (Unit) (Int)):=wg<|vz (Ag b.pairs)<|br (decide ((c:Int)<(b.pairs.length:Int))) (lc (Aa [(3,vI f),(4,vB g),pp 5,pp 6,pp 7,(13,vN c)] [(CZ d),(CY e),(C1 b)]) ((XR d e b f g a c).m)) (Ah (ry) ())
def MQ(b:Scm)(c:Fld)(d:Val)(e:Int)(f:Bool)(a:Scm→Fld→Val→Int→Bool→Option (Int)):Nat→Option (Lv (Nat) (Unit) (Int)):=fun g=>(WQ b c d e f a g).m
def ox:PT 0 (Int):=lr BR nG 0
def nS(b:Scm)(c:Fld)(d:Val)(e:Int)(f:Bool)(a:Scm→Fld→Val→Int→Bool→Option (Int)):PT 0 (Int):=lc (Aa [(3,vI e),(4,vB f),pp 5,pp 6,pp 7,(13,vI 0)] [(CZ b),(CY c),(C1 d)]) ((Al (MQ b c d e f a) Ai 0).bind (Sum.elim (fun _=>(ox).m) some))
def oA(c:Scm)(d:Fld)(b:Val)(e:Int)(f:Bool)(a:Scm→Fld→Val→Int→Bool→Option (Int)):PT 0 (Int):=wg<|wg<|Aw (!(!decide (b.kind=(12:Int)))) (RD b) fun g=>br ((!decide (b.kind=(12:Int)))||g) (lr BR nG 12) (lc (Aa [(3,vI e),(4,vB f),pp 5,pp 6,pp 7] [(CZ c),(CY d),(C1 b)]) ((nS c d b e f a).m))
def o0(c:Scm)(d:Fld)(e:Val)(f:Int)(g:Bool)(a:Scm→Fld→Val→Int→Bool→Option (Int)):PT 0 (Int):=wg<|wg<|wg<|cs Tryz.prog 26 [.agg ((Ak c).map .d),.agg ((CJ d.type).map .d),.agg ((Ae e).map .d),vI f,vB g] [] [] (J0 a c d.type e f g) (fun y=>vI y) fun b=>lr BR nG b
def oc(b:Scm)(c:Fld)(d:Val)(e:Int)(f:Bool)(a:Scm→Fld→Val→Int→Bool→Option (Int)):PT 0 (Int):=lc (Aa [(3,vI e),(4,vB f),pp 5,pp 6,pp 7] [(CZ b),(CY c),(C1 d)]) ((o0 b c d e f a).m)
def oq(c:Scm)(b:Fld)(d:Val)(e:Int)(f:Bool)(a:Scm→Fld→Val→Int→Bool→Option (Int)):PT 0 (Int):=wg<|lc (Aa [(3,vI e),(4,vB f),pp 5,pp 6,pp 7,(49,vB (decide (b.card=(5:Int))))] [(CZ c),(CY b),(C1 d)]) (if decide (b.card=(5:Int))=true then(oA c b d e f a).m else(oc c b d e f a).m)
def oJ(b:Scm)(c:Fld)(d:Val)(e:Int)(f:Bool)(a:Scm→Fld→Val→Int→Bool→Option (Int)):PT 0 (Int):=lc (Aa [(3,vI e),(4,vB f),pp 5,pp 6,pp 7] [(CZ b),(CY c),(C1 d)]) ((oq b c d e f a).m)
def oe(c:Scm)(b:Fld)(d:Val)(e:Int)(f:Bool)(a:Scm→Fld→Val→Int→Bool→Option (Int)):PT 0 (Int):=wg<|lc (Aa [(3,vI e),(4,vB f),pp 5,pp 6,pp 7,(18,vB (decide (b.card=(4:Int))))] [(CZ c),(CY b),(C1 d)]) (if decide (b.card=(4:Int))=true then(qG c b d e f a).m else(oJ c b d e f a).m)
def n1(b:Scm)(c:Fld)(d:Val)(e:Int)(f:Bool)(a:Scm→Fld→Val→Int→Bool→Option (Int)):PT 0 (Int):=lc (Aa [(3,vI e),(4,vB f),pp 5,pp 6,pp 7] [(CZ b),(CY c),(C1 d)]) ((oe b c d e f a).m)
def QX(a:Scm→Fld→Val→Int→Bool→Option (Int))(b:Scm)(c:Fld)(d:Val)(e:Int)(f:Bool):Option (Int):=(n1 b c d e f a).m
theorem ZsI{C:Cx}(co:CO C 0)(b:Scm)(c:Fld)(f:Val)(d:Int)(e:Bool)(a:Scm→Fld→Val→Int→Bool→Option (Int))(i:∀(b:Scm) (c:Fld) (f:Val) (d:Int) (e:Bool),KC Tryz.prog 165 [.agg ((Ak b).map .d),.agg ((Am c).map .d),.agg ((Ae f).map .d),vI d,vB e] (a b c f d e) BR):KL Tryz.prog (Aq tl) 138 C (pa [0,0,1,0,1,0,1,0,1] (Ar Tryz.f165)) [.tmp 10] 0 (sg b c f d e) (ri) BR nG (MM b c f d e a):=fun v2 _ m Q j l L=>eN co (Ad [3,4,5,6,7,11] BQ) nl l m L fun r g=>⟨fun h=>⟨fun y hy k _ _=>by rw[(Gy a i b c.type h d e).x,(Gy a i b c.type h d e).e];exact(Gy a i b c.type h d e).k _ k y hy,fun n=>⟨id,id⟩⟩,id⟩
theorem ZtO{C:Cx}(co:CO C 0)(b:Scm)(c:Fld)(d:Val)(e:Int)(f:Bool)(a:Scm→Fld→Val→Int→Bool→Option (Int))(g:Nat)(j:∀(b:Scm) (c:Fld) (d:Val) (e:Int) (f:Bool),KC Tryz.prog 165 [.agg ((Ak b).map .d),.agg ((Am c).map .d),.agg ((Ae d).map .d),vI e,vB f] (a b c d e f) BR):KL Tryz.prog (Aq tl) 138 C (pa [0,0,1,0,1,1,0,0,1,0,0,1,0,1,0,1,0,1,1] (Ar Tryz.f165)) [.tmp 10] 0 (qv b c d e f g) (pm b c d e f g) BR nG (IE b c d e f a g):=fun v9 _ m Q h i L=>eN co (Ad [3,4,5,6,7,13,15] BQ) (Ad [3,4,5,6,7,13] BQ) i m L
theorem Zrh{C:Cx}(co:CO C 0)(b:Scm)(c:Fld)(i:Val)(d:Int)(e:Bool)(a:Scm→Fld→Val→Int→Bool→Option (Int))(j:∀(b:Scm) (c:Fld) (i:Val) (d:Int) (e:Bool),KC Tryz.prog 165 [.agg ((Ak b).map .d),.agg ((Am c).map .d),.agg ((Ae i).map .d),vI d,vB e] (a b c i d e) BR):KL Tryz.prog (Aq tl) 138 C (pa [0,0,1,0,1,0,1,0,1,1] (Ar Tryz.f165)) [.tmp 10] 0 (rm b c i d e) (ry) BR nG (MQ b c i d e a):=fun n _ m Q k h L=>mJ co 1 (Ad [3,4,5,6,7,13] BQ) nl h m L fun r g=>⟨fun _ m L=>sq (bk 3 (mJ co 2 (Ad [3,4,5,6,7,13] BQ) nl h m L fun r g=>fun p=>fun q=>⟨id,fun _ m L=>sq (mJ co 1 (Ad [3,4,5,6,7,13,15] BQ) nl h m L fun r g=>fun _ m L=>bk 4 (lo (I3 (ZtO co b c i d e a n j) h m L (fun _ m=>eN co (Ad [3,4,5,6,7,13] BQ) nl h m L fun r g=>fun f=>⟨fun y hy l _ _=>by rw[(Gy a j b c.type f.val d e).x,(Gy a j b c.type f.val d e).e];exact(Gy a j b c.type f.val d e).k _ l y hy,fun o=>⟨id,fun _ m L=>eN co (Ad [3,4,5,6,7,13] BQ) nl h m L⟩⟩))))⟩)),id⟩
theorem xN(a:Scm→Fld→Val→Int→Bool→Option (Int))(h:∀(b:Scm) (c:Fld) (d:Val) (e:Int) (f:Bool),KC Tryz.prog 165 [.agg ((Ak b).map .d),.agg ((Am c).map .d),.agg ((Ae d).map .d),vI e,vB f] (a b c d e f) BR)(b:Scm)(c:Fld)(d:Val)(e:Int)(f:Bool):KC Tryz.prog 165 [.agg ((Ak b).map .d),.agg ((Am c).map .d),.agg ((Ae d).map .d),vI e,vB f] (QX a b c d e f) BR:=Ci Tryz.func165 Tryz.ntmps165 AG [.tmp 10] fun C co y m i L=>mJ co 1 (Ad [3,4,5,6,7] BQ) nl nH m L fun r g=>fun _ m L=>sq (mJ co 1 (Ad [3,4,5,6,7,18] BQ) nl nH m L fun r g=>fun _ m L=>KV m (fun m=>mJ co 1 (Ad [3,4,5,6,7] BQ) nl nH m L fun r g=>fun l=>⟨id,fun _ m L=>sq (mJ co 1 (Ad [3,4,5,6,7,11] BQ) nl nH m L fun r g=>fun _ m L=>bk 0 (lo (Az (ZsI co b c d e f a h) nH m L (fun _ m=>eN co nl nl nH m L))))⟩) (fun m=>eN co (Ad [3,4,5,6,7] BQ) nl nH m L fun r g=>fun _ m L=>sq (mJ co 1 (Ad [3,4,5,6,7,49] BQ) nl nH m L fun r g=>fun _ m L=>KV m (fun m=>mJ co 1 (Ad [3,4,5,6,7] BQ) nl nH m L fun r g=>fun n=>⟨id,fun _ m L=>sq (mJ co 1 (Ad [3,4,5,6,7,13] BQ) nl nH m L fun r g=>fun _ m L=>bk 2 (lo (Az (Zrh co b c d e f a h) nH m L (fun _ m=>eN co nl nl nH m L))))⟩) (fun m=>eN co (Ad [3,4,5,6,7] BQ) nl nH m L fun r g=>fun _ m L=>fO co m L fun r g=>⟨fun y hy j _ _=>by rw[(Gy a h b c.type d e f).x,(Gy a h b c.type d e f).e];exact(Gy a h b c.type d e f).k _ j y hy,fun k=>id⟩))))
def Hh:Nat→Scm→Fld→Val→Int→Bool→Option (Int)
 |0=>fun _ _ _ _ _=>none
 |a+1=>QX (Hh a)
theorem hM:∀(f:Nat) (a:Scm) (b:Fld) (c:Val) (d:Int) (e:Bool),KC Tryz.prog 165 [.agg ((Ak a).map .d),.agg ((Am b).map .d),.agg ((Ae c).map .d),vI d,vB e] (Hh f a b c d e) BR
 |0,a,b,c,d,e=>⟨fun _ _ _ h=>(by cases h),by intro r;kernel_rfl,by intro r y;kernel_rfl⟩
 |f+1,a,b,c,d,e=>xN (Hh f) (hM f) a b c d e
abbrev Gm(a:Val):Ab×Blk:=kk 1 33 7 (cD (Ae a))
abbrev Fq:Int→AV:=fun y=>vI y
def de(a:Val):Int×Nat→St:=fun(b,v2)=>Aa [pp 1,(3,vI b),(4,vN v2)] [(Gm a)]
def eT(a:Val):Int→Nat×St:=fun v5=>(0,Aa [pp 1,(3,vI v5)] [(Gm a)])
def S9(a:Val)(b:Val→Option (Int))(c:Int)(v2:Nat):PT 0 (Lv (Int×Nat) (Int) (Int)):=wg<|vz (Ag a.list)<|br (decide ((v2:Int)<(a.list.length:Int))) (wg<|ix a.list v2 fun d=>cs Tryz.prog 65 [.agg ((Ae d).map .d)] [] [] (b d) (fun y=>vI y) fun e=>vs (wi (c+e))<|vs (wa v2 1)<|ln (de a) ((c+e),v2+1)) (Ah (eT a) c)
def M1(b:Val)(a:Val→Option (Int)):Int×Nat→Option (Lv (Int×Nat) (Int) (Int)):=fun(c,v2)=>(S9 b a c v2).m
def bN(a:Val):Int×Nat→St:=fun(b,c)=>Aa [pp 1,(3,vI b),(5,vN c)] [(Gm a)]
def fR(b:Val):Int→Nat×St:=fun a=>(2,Aa [pp 1,(3,vI a)] [(Gm b)])
def S4(b:Val)(c:Val→Option (Int))(f:Int)(e:Nat):PT 0 (Lv (Int×Nat) (Int) (Int)):=wg<|vz (Ag b.pairs)<|br (decide ((e:Int)<(b.pairs.length:Int))) (wg<|ix b.pairs e fun h=>cs Tryz.prog 65 [.agg ((Ae h.key).map .d)] [] [] (c h.key) (fun y=>vI y) fun g=>wg<|ix b.pairs e fun d=>cs Tryz.prog 65 [.agg ((Ae d.val).map .d)] [] [] (c d.val) (fun y=>vI y) fun a=>vs (wi (g+a))<|vs (wi (f+(g+a)))<|vs (wa e 1)<|ln (bN b) ((f+(g+a)),e+1)) (Ah (fR b) f)
def Nh(b:Val)(a:Val→Option (Int)):Int×Nat→Option (Lv (Int×Nat) (Int) (Int)):=fun(c,d)=>(S4 b a c d).m
def dC(c:Val):Int×Nat→St:=fun(a,b)=>Aa [pp 1,(3,vI a),(6,vN b)] [(Gm c)]
def iH:Int→Nat×St:=fun a=>(4,Aa [(3,vI a)] [])
def SI(e:Val)(f:Val→Option (Int))(b:Int)(a:Nat):PT 0 (Lv (Int×Nat) (Int) (Int)):=wg<|vz (Ag e.slots)<|br (decide ((a:Int)<(e.slots.length:Int))) (wg<|ix e.slots a fun c=>cs Tryz.prog 65 [.agg ((Ae c.val).map .d)] [] [] (f c.val) (fun y=>vI y) fun d=>vs (wi (b+d))<|vs (wa a 1)<|ln (dC e) ((b+d),a+1)) (Ah (iH) b)
def MX(d:Val)(a:Val→Option (Int)):Int×Nat→Option (Lv (Int×Nat) (Int) (Int)):=fun(b,c)=>(SI d a b c).m
def fb(a:Int):PT 0 (Int):=lr Fq nG a
def fs(d:Val)(b:Val→Option (Int))(a:Int):PT 0 (Int):=lc (Aa [pp 1,(3,vI a),(6,vI 0)] [(Gm d)]) ((Al (MX d b) Ai (a,0)).bind (Sum.elim (fun c=>(fb c).m) some))
def fK(b:Val)(a:Val→Option (Int))(v5:Int):PT 0 (Int):=lc (Aa [pp 1,(3,vI v5),(5,vI 0)] [(Gm b)]) ((Al (Nh b a) Ai (v5,0)).bind (Sum.elim (fun c=>(fs b a c).m) some))
def da(b:Val)(a:Val→Option (Int)):PT 0 (Int):=lc (Aa [pp 1,(3,vN (1+b.raws.length)),(4,vI 0)] [(Gm b)]) ((Al (M1 b a) Ai (((1+b.raws.length:Nat):Int),0)).bind (Sum.elim (fun v5=>(fK b a v5).m) some))
def hP(a:Val)(b:Val→Option (Int)):PT 0 (Int):=wg<|vz (Ag a.raws)<|vs (wa 1 a.raws.length)<|lc (Aa [pp 1,(3,vN (1+a.raws.length))] [(Gm a)]) ((da a b).m)
def N6(a:Val→Option (Int))(b:Val):Option (Int):=(hP b a).m
theorem ZyW{C:Cx}(co:CO C 0)(a:Val)(b:Val→Option (Int))(d:∀(a:Val),KC Tryz.prog 65 [.agg ((Ae a).map .d)] (b a) Fq):KL Tryz.prog (Aq tl) 67 C (pa [0,0,1,0,1,1] (Ar Tryz.f65)) [.tmp 2] 0 (de a) (eT a) Fq nG (M1 a b):=fun(i,v2) _ m Q e h L=>eN co (Ad [1,3,4] Dd) (Ad [1,3] Dd) h m L fun r g=>⟨fun c=>⟨fun y hy f _ _=>by rw[(d c).x,(d c).e];exact(d c).k _ f y hy,fun j=>id⟩,id⟩
theorem ZzC{C:Cx}(co:CO C 0)(c:Val)(d:Val→Option (Int))(b:∀(c:Val),KC Tryz.prog 65 [.agg ((Ae c).map .d)] (d c) Fq):KL Tryz.prog (Aq tl) 67 C (pa [0,0,1,0,1,1,1] (Ar Tryz.f65)) [.tmp 2] 0 (bN c) (fR c) Fq nG (Nh c d):=fun(k,l) _ m Q h i L=>eN co (Ad [1,3,5] Dd) (Ad [1,3] Dd) i m L fun r g=>⟨fun f=>⟨fun y hy e _ _=>by rw[(b f.key).x,(b f.key).e];exact(b f.key).k _ e y hy,fun n=>fun a=>⟨fun y hy e _ _=>by rw[(b a.val).x,(b a.val).e];exact(b a.val).k _ e y hy,fun j=>id⟩⟩,id⟩
theorem Zzc{C:Cx}(co:CO C 0)(c:Val)(b:Val→Option (Int))(d:∀(c:Val),KC Tryz.prog 65 [.agg ((Ae c).map .d)] (b c) Fq):KL Tryz.prog (Aq tl) 67 C (pa [0,0,1,0,1,1,1,1] (Ar Tryz.f65)) [.tmp 2] 0 (dC c) (iH) Fq nG (MX c b):=fun(i,j) _ m Q e h L=>eN co (Ad [1,3,6] Dd) (AI [3]) h m L fun r g=>⟨fun a=>⟨fun y hy f _ _=>by rw[(d a.val).x,(d a.val).e];exact(d a.val).k _ f y hy,fun k=>id⟩,id⟩
theorem ZNh(a:Val→Option (Int))(c:∀(b:Val),KC Tryz.prog 65 [.agg ((Ae b).map .d)] (a b) Fq)(b:Val):KC Tryz.prog 65 [.agg ((Ae b).map .d)] (N6 a b) Fq:=kC Tryz.func65 Tryz.ntmps65 [.tmp 2] fun co m L=>mJ co 2 (Ad [1,3] Dd) nl nH m L fun r g=>fun _ m L=>sq (mJ co 1 (Ad [1,3,4] Dd) nl nH m L fun r g=>fun _ m L=>bk 0 (lo (Az (ZyW co b a c) nH m L (fun v5 m=>sq (mJ co 1 (Ad [1,3,5] Dd) nl nH m L fun r g=>fun _ m L=>bk 2 (lo (Az (ZzC co b a c) nH m L (fun d m=>sq (mJ co 1 (Ad [1,3,6] Dd) nl nH m L fun r g=>fun _ m L=>bk 4 (lo (Az (Zzc co b a c) nH m L (fun e m=>fO co m L))))))))))))
def Hg:Nat→Val→Option (Int)
 |0=>fun _=>none
 |a+1=>N6 (Hg a)
theorem kX:∀(b:Nat) (a:Val),KC Tryz.prog 65 [.agg ((Ae a).map .d)] (Hg b a) Fq
 |0,a=>⟨fun _ _ _ h=>(by cases h),by intro r;kernel_rfl,by intro r y;kernel_rfl⟩
 |b+1,a=>ZNh (Hg b) (kX b) a
abbrev K5:Int→AV:=fun y=>vI y
def bu(a:Scm)(e:ByteArray)(b:Val)(f:Bool):PT 0 (Int):=wg<|cl (jp a e) fun c=>wg<|br (!c.2) (lr K5 nG 10) (wg<|wg<|wg<|cl (OY (Hh Ai) (hM Ai) a c.1 b 1 f) fun d=>br (!decide (d=(0:Int))) (lr K5 nG d) (wg<|cl (kX Ai b) fun g=>br (decide ((4096:Int)<g)) (lr K5 nG 3) (lr K5 nG 0)))
def U2(a:Scm)(b:ByteArray)(c:Val)(d:Bool):Option (Int):=(bu a b c d).m
theorem ZQm(a:Scm)(b:ByteArray)(c:Val)(d:Bool):KC Tryz.prog 22 [.agg ((Ak a).map .d),vS b,.agg ((Ae c).map .d),vB d] (U2 a b c d) K5:=kC Tryz.func22 Tryz.ntmps22 [.tmp 8] fun co m L=>fO co m L
abbrev E9:Int→AV:=fun y=>vI y
def kI(a:Scm)(b:ByteArray)(c:Val):PT 0 (Int):=wg<|wg<|cl (ZQm a b c true) fun d=>lr E9 nG d
def UO(a:Scm)(b:ByteArray)(c:Val):Option (Int):=(kI a b c).m
theorem uQ(a:Scm)(b:ByteArray)(c:Val):KC Tryz.prog 9 [.agg ((Ak a).map .d),vS b,.agg ((Ae c).map .d)] (UO a b c) E9:=kC Tryz.func9 Tryz.ntmps9 [.tmp 6] fun co m L=>fO co m L
abbrev E3:Bool→AV:=fun y=>vB y
def jm(a:Scm)(b:ByteArray)(c:Val):PT 0 (Bool):=wg<|cl (uP a) fun f=>br (!f) (cl (aN) fun g=>lr E3 nG g) (wg<|wg<|cl (Sf a b c) fun d=>wg<|wg<|cl (uQ a b c) fun e=>Aw (decide (d=e)) (aN) fun h=>lr E3 nG (decide (d=e)&&h))
def UE(a:Scm)(b:ByteArray)(c:Val):Option (Bool):=(jm a b c).m
theorem uO(a:Scm)(b:ByteArray)(c:Val):KC Tryz.prog 3 [.agg ((Ak a).map .d),vS b,.agg ((Ae c).map .d)] (UE a b c) E3:=kC Tryz.func3 Tryz.ntmps3 [.tmp 6] fun co m L=>fO co m L
end Go.Proofs.YtopncadjpnkjhaaGreatDoor
namespace Go.Proofs.YtopncadjpnkjhaaGreatDoor
set_option linter.all false
open Go Go.Eng
end Go.Proofs.YtopncadjpnkjhaaGreatDoor
namespace Go.Proofs.YtopncadjpnkjhaaGreatDoor
set_option linter.all false
open Go Go.Eng Go.ChangeShapes Go.WideShapes Go.ChangeAt Go.RowKit
theorem nw{H:Type}(b:List UInt8):Rows.uptoBulk (DataW.lit (H:=H) (.string b))=b.length+1:=by simp only[Rows.uptoBulk]
theorem ZmK{H:Type}(a b:List (DataW H)):Rows.uptoBulk (.slice a b)=Rows.uptoBulkAll a+Rows.uptoBulkAll b+1:=by simp only[Rows.uptoBulk]
theorem Zs5{H:Type}(a:List (DataW H)):Rows.uptoBulk (.agg a)=Rows.uptoBulkAll a+1:=by simp only[Rows.uptoBulk]
def Hx(W:World)(ds:List D)(cs:List Value)(o:Nat):Prop:=∀(i:Nat) (d:D),ds[i]?=some d→∃c,cs[o+i]?=some c∧RepD W (· <W.heap.size) d c
def IG(W:World)(ds:List D)(cs:List Value):Prop:=ds.length=cs.length∧Hx W ds cs 0
theorem Hx.app{W:World}{ds a:List D}{cs:List Value}{o:Nat}(h:Hx W ds cs o)(k:Hx W a cs (o+ds.length)):Hx W (ds++a) cs o:=fun i d hi=>by
 rcases Yz i ds.length with hl|hl
 ·rw[Yo hl]at hi;exact h i d hi
 ·rw[Yy hl]at hi
  obtain⟨c,b,e⟩:=k _ d hi
  grind
theorem Hx.nil{W:World}{cs:List Value}{o:Nat}:Hx W [] cs o:=fun i d h=>by simp at h
theorem IG.at{W:World}{ds:List D}{cs:List Value}{o k:Nat}(h:IG W ds ((cs.drop o).take k)):Hx W ds cs o:=fun i d hi=>by
 obtain⟨c,a,b⟩:=h.2 i d hi
 grind
def rk(k:IntKind)(n:Int):Nat:=if Lit.wf (.int k n)=true then 0 else 1000000000000
theorem gx{k:IntKind}{n:Int}(h:rk k n≤1048576):k.min≤n∧n≤k.max:=by
 unfold rk at h
 split at h
 ·rename_i a
  unfold Lit.wf at a
  rw[Yb]at a
  exact⟨El a.1,El a.2⟩
 ·omega
mutual
def bk:D→Nat
 |.int k n=>rk k n
 |.bool _=>0
 |.str s=>s.size
 |.list a=>Bp a
 |.map _ a=>Bp a
def Ap:List D→Nat
 |[]=>0
 |d::l=>bk d+Ap l
def Bp:List (List D)→Nat
 |[]=>0
 |e::l=>Ap e+1+Bp l
end
theorem MC:∀a b:List D,Ap (a++b)=Ap a+Ap b
 |[],b=>by rw[FZ,Ap,YS]
 |d::a,b=>by rw[G5,Ap,Ap,MC a b,YB]
theorem W5(d:D):Ap [d]=bk d:=by rw[Ap,Ap,DX]
theorem B9{α:Type}{e:α→List D}:∀l:List α,l.length≤Bp (l.map e)
 |[]=>DY _
 |x::l=>by have:=B9 (e:=e) l;rw[Y4,Bp,EU];omega
theorem Cs{α:Type}{e:α→List D}{x:α}:∀{l:List α},x∈l→Ap (e x)+1≤Bp (l.map e)
 |y::l,h=>by
  rw[Y4,Bp]
  cases YK.1 h with
  |inl h=>subst h;omega
  |inr h=>have:=Cs (e:=e) h;omega
section
variable {H:Type} (enc:TypeId×Value→H) (P:Program) (W:World)
def BO{α:Type}(n:Nat)(t:TypeId)(e:α→List D):Prop:=
 ∀cs x,DataW.trod enc P W 0 (fun _=>true) true n t cs=some x→∃v:α,IG W (e v) cs∧Ap (e v)+1≤Rows.uptoBulk x.1
end
section
variable {H:Type} {enc:TypeId×Value→H} {P:Program} {W:World} {n:Nat} {t:TypeId}
theorem WC(d:DataW H):1≤Rows.uptoBulk d:=by cases d<;>(try (rename_i l;cases l))<;>simp[Rows.uptoBulk]
theorem Mo{d:D}{c:Value}(h:RepD W (· <W.heap.size) d c):IG W [d] [c]:=⟨rfl,fun i d' hi=>by
 cases i with
 |zero=>cases hi;exact⟨c,rfl,h⟩
 |succ i=>simp at hi⟩
theorem DH{k:IntKind}(a:P.underlying t=some (.int k)):BO enc P W n t (fun v:Int=>[.int k v]):=fun cs x c=>by
 obtain⟨m,rfl,rfl,b⟩:=DataW.trod_int a c
 refine⟨m,Mo (.int _ _),?_⟩
 rw[W5,bk,rk,Yi b]
 exact WC _
theorem oL(a:P.underlying t=some .bool):BO enc P W n t (fun v:Bool=>[.bool v]):=fun cs x b=>by
 obtain⟨m,rfl,rfl⟩:=DataW.trod_bool a b
 exact⟨m,Mo (.bool _),WC _⟩
theorem DG(a:P.underlying t=some .string):BO enc P W n t (fun v:ByteArray=>[.str v]):=fun cs x b=>by
 obtain⟨m,rfl,rfl,_⟩:=DataW.trod_string a b
 refine⟨m,Mo (.str _),?_⟩
 rw[nw,W5]
 exact Yh _
theorem tC{α:Type}{e:α→List D}:∀(l:List α) (xs:List (DataW H×List MemPlace)),l.length=xs.length→(∀(i:Nat) (v:α),l[i]?=some v→∃y:DataW H×List MemPlace,xs[i]?=some y∧Ap (e v)+1≤Rows.uptoBulk y.1)→Bp (l.map e)≤Rows.uptoBulkAll (xs.map (·.1))
 |[],_,_,_=>DY _
 |x::l,[],h,_=>by cases h
 |x::l,y::xs,h,k=>by
  have:=tC l xs (Si h) (fun i v hi=>k (i+1) v hi)
  obtain⟨c,a,b⟩:=k 0 x rfl
  cases a
  rw[Y4,Y4,Bp]
  simp only[Rows.uptoBulkAll]
  omega
theorem oi{α:Type}{Q:Nat→α→Prop}:∀(len:Nat),(∀i,i<len→∃v,Q i v)→∃l:List α,l.length=len∧∀i v,l[i]?=some v→Q i v
 |0,_=>⟨[],rfl,fun i v h=>by simp at h⟩
 |len+1,h=>by
  obtain⟨l,a,b⟩:=oi len (fun i hi=>h i (by omega))
  obtain⟨v,c⟩:=h len (by omega)
  refine⟨l++[v],by simp[a],fun i w hi=>?_⟩
  grind
theorem CD{α:Type}{e:TypeId}{b:α→List D}{sz:Nat}(X:P.underlying t=some (.slice e))(E:P.cellsOf e=sz)(V:sz≠0)(hl:∀x,(b x).length=sz)(h:∀m,m<n→BO enc P W m e b):
  BO enc P W n t (fun l:List α=>[.list (l.map b)]):=fun cs x Y=>by
 rcases DataW.trod_slice X Y with⟨rfl,rfl⟩|⟨a,len,cap,g,J,m,rfl,rfl,rfl,hb,z,T,U,hi,_,_⟩
 ·exact⟨[],Mo .nil,WC _⟩
 ·have k:∀i,i<len→∃v:α,∃y f,g[i]?=some y∧W.cells? 0 (a.add (i*sz)) sz=some f∧IG W (b v) f∧Ap (b v)+1≤Rows.uptoBulk y.1:=fun i B=>by
   have I:=hi i B
   rw[Ye (by omega),E]at I
   obtain⟨f,N,O⟩:=a6.1 I
   obtain⟨v,Q,R⟩:=h m (by omega) f _ O
   exact⟨v,_,f,Ye (by omega),N,Q,R⟩
  obtain⟨l,A,r⟩:=oi len k
  have cell:∀(i j:Nat) (e':List D) (x:D),(l.map b)[i]?=some e'→e'[j]?=some x→∃c,W.cell? (a.add (i*sz+j))=some c∧RepD W (· <W.heap.size) x c:=fun i j e' x d o=>by
   rw[YJ]at d
   cases s:l[i]? with
   |none=>rw[s]at d;cases d
   |some v=>
    rw[s]at d
    cases d
    obtain⟨y,f,p,q,F,G⟩:=r i v s
    obtain⟨c,H,K⟩:=F.2 j x o
    rw[YS]at H
    obtain⟨_,Z,L⟩:=World.cells?_some q
    have u:j<sz:=by
     rw[←hl v]
     rcases Yz j (b v).length with h|h
     ·exact h
     ·rw[YI h]at o;cases o
    refine⟨c,?_,K⟩
    rw[←Go.Eng.add_add,L j u,H]
  refine⟨l,Mo ?_,?_⟩
  ·have hlen:(l.map b).length=len:=by simp[A]
   have:=RepD.list (w:=W) (S:=(· <W.heap.size)) (l.map b) a sz cap (fun i j=>(W.cell? (a.add (i*sz+j))).getD undef) (fun C=>by
     have M:0<len:=by
      rcases NY len with h|h
      ·exact absurd (Y8 (hlen.trans h)) C
      ·exact h
     obtain⟨v,y,f,_,q,_⟩:=k 0 M
     have:=World.cells?_block q (by omega)
     rw[Lr]at this
     rw[←Go.Eng.block_add a 0];exact this)
    (by rw[hlen];exact z) (fun e' he=>by obtain⟨y,_,rfl⟩:=YU.1 he;exact hl y)
    (fun i j e' x d o=>by obtain⟨c,p,_⟩:=cell i j e' x d o;rw[p];rfl)
    (fun i j e' x d o=>by obtain⟨c,p,q⟩:=cell i j e' x d o;rw[p];exact q)
   rw[hlen]at this
   exact this
  ·rw[ZmK,W5,bk]
   have:=tC (e:=b) l g (by omega) (fun i v s=>by
    obtain⟨y,f,p,q,F,G⟩:=r i v s
    exact⟨y,p,G⟩)
   omega
def FB(xs:List (DataW H×List MemPlace))(i:Nat):Nat:=Rows.uptoBulkAll ((xs.drop i).map (·.1))
theorem Ba{xs:List (DataW H×List MemPlace)}{i:Nat}{a b:List D}(h:Ap a+1+FB xs (i+1)≤FB xs i)(k:Ap b≤FB xs (i+1)):Ap (a++b)≤FB xs i:=by
 rw[MC];omega
theorem DI{xs:List (DataW H×List MemPlace)}{i:Nat}{a:List D}(h:Ap a+1+FB xs (i+1)≤FB xs i):Ap a≤FB xs i:=by omega
theorem DF{xs:List (DataW H×List MemPlace)}{a:List D}(h:Ap a≤FB xs 0):Ap a+1≤Rows.uptoBulk (.agg (xs.map (·.1))):=by
 rw[Zs5];exact Nat.succ_le_succ h
theorem Zr2{α:Type}{e:α→List D}{m i:Nat}{c:TypeId}{a:List Value}{xs:List (DataW H×List MemPlace)}(h:BO enc P W m c e)(b:DataW.trod enc P W 0 (fun _=>true) true m c a=xs[i]?)(hi:i<xs.length):
  ∃v,IG W (e v) a∧Ap (e v)+1+FB xs (i+1)≤FB xs i:=by
 rw[Ye hi]at b
 obtain⟨v,d,f⟩:=h _ _ b
 refine⟨v,d,?_⟩
 unfold FB
 rw[Ij hi,Y4]
 simp only[Rows.uptoBulkAll]
 omega
theorem rf{α:Type}{e:α→List D}{m i k:Nat}{b:TypeId}{a:List Value}{xs:List (DataW H×List MemPlace)}(h:BO enc P W m b e)(c:DataW.trod enc P W 0 (fun _=>true) true m b a=xs[i]?)(d:xs.length=k)(hi:Nat.blt i k=true:=by kernel_rfl):
  ∃v,IG W (e v) a∧Ap (e v)+1+FB xs (i+1)≤FB xs i:=Zr2 h c (by rw[d];exact Yf hi)
theorem Xd{α:Type}{e e':α→List D}(he:∀x,e x=e' x)(h:BO enc P W n t e'):BO enc P W n t e:=fun cs x a=>by
 obtain⟨v,b,c⟩:=h cs x a
 grind
theorem oR{α:Type}{e:α→List D}{q:Array Field}{r:Reach}{b:Nat}{v:Value}{d:DataW H}{p:List MemPlace}(rd:∀n,BO enc P W n t e)(w:P.underlying t=some (.struct q))(z:Value.okWide P W r b t v)
  (h:DataW.Trod enc P W 0 (fun _=>true) true t v d p):∃x:α,(∀m l,RepA W (· <W.heap.size) (fun _=>⟨0,false,0,0,[]⟩) m l (.agg ((e x).map .d)) v)∧Ap (e x)+1≤Rows.uptoBulk d:=by
 obtain⟨cs,rfl,_⟩:=okWide_struct w z
 obtain⟨n,u⟩:=h
 obtain⟨x,k,s⟩:=rd n _ _ u
 have hl:(e x).length=cs.size:=by rw[k.1];simp[Value.cells]
 have key:∀(i:Nat) (c:Value),cs[i]?=some c→∃d,(e x)[i]?=some d∧RepD W (· <W.heap.size) d c:=fun i c f=>by
  have g:i<(e x).length:=by
   grind
  obtain⟨j,a,o⟩:=k.2 i _ (Ye g)
  have:j=c:=by
   rw[YS]at a
   have:cs.toList[i]?=some j:=a
   grind
  grind
 refine⟨x,fun m l=>.agg _ _ (by rw[YD,hl]) (fun i c f=>?_) (fun i y c hy f=>?_),s⟩
 ·obtain⟨d,_,a⟩:=key i c f;exact a.one
 ·obtain⟨d,a,o⟩:=key i c f
  rw[YJ,a]at hy
  cases hy
  exact .d _ _ o
theorem vU{r:Reach}{a:Nat}{v:Value}{d:DataW H}{p:List MemPlace}(e:P.underlying t=some .string)(g:Value.okWide P W r a t v)(h:DataW.Trod enc P W 0 (fun _=>true) true t v d p):
  ∃x:ByteArray,(∀S Hp m l,RepA W S Hp m l (.d (.str x)) v)∧x.size+1≤Rows.uptoBulk d:=by
 obtain⟨x,rfl⟩:=okWide_string e g
 obtain⟨n,f⟩:=h
 obtain⟨s,b,c,_⟩:=DataW.trod_string e f
 have b:x=s:=by simpa[Value.cells]using b
 subst b
 have c:d=.lit (.string x.data.toList):=congrArg Prod.fst c
 subst c
 refine⟨x,fun _ _ _ _=>.d _ _ (.str _),?_⟩
 rw[nw]
 exact Yh _
def aM:Hp:=fun _=>⟨0,false,0,0,[]⟩
theorem ok0(m:Mu):Ok 0 aM m (· <W.heap.size) W:=⟨fun _ h=>h,fun _ _ h=>(by cases h),fun _ _ h=>(by cases h),fun _ _ _ _ h=>(by cases h),fun _ _ h=>(by cases h),⟨fun _ _ h=>(by cases h),fun _ _ h=>(by cases h),fun _ _ _ _ h=>(by cases h)⟩⟩
def jN(w:World)(S:Nat→Prop)(Hp:Hp)(m:Mu)(l:Nat):List AV→List Value→Prop
 |[],[]=>True
 |x::xs,v::vs=>RepA w S Hp m l x v∧jN w S Hp m l xs vs
 |_,_=>False
theorem ZyF{w:World}{S:Nat→Prop}{Hp:Hp}{m:Mu}{l:Nat}{xs:List AV}{vs:List Value}(h:jN w S Hp m l xs vs):IB w S Hp m l xs vs.toArray:=by
 suffices b:xs.length=vs.length∧∀(i:Nat) (x:AV) (v:Value),xs[i]?=some x→vs[i]?=some v→RepA w S Hp m l x v by
  exact⟨by simpa using b.1,fun i x v f e=>b.2 i x v f (by simpa using e)⟩
 induction xs generalizing vs with
 |nil=>cases vs with
  |nil=>exact⟨rfl,fun i x v h=>by simp at h⟩
  |cons _ _=>exact h.elim
 |cons x xs g=>cases vs with
  |nil=>exact h.elim
  |cons v vs=>
   obtain⟨c,d⟩:=g h.2
   refine⟨by simp[c],fun i y u hy a=>?_⟩
   cases i with
   |zero=>simp at hy a;subst hy;subst a;exact h.1
   |succ i=>exact d i y u (by simpa using hy) (by simpa using a)
theorem Zot{f:Func}{s:ChangeSpec}{r:World}{args:Array Value}{ds A:List (DataW H)}{e:List MemPlace}{u:TypeId}(C:DataW.Whole enc P f.params.toList s.vars false W args.toList ds A e)(c:s.vars=[])
  (k:laidOutB P=true) (z:∀t∈f.params.toList,P.readableRec t=true∧t<P.types.size) (g:f.resultTypes.toList=[u]) (L:P.underlying u=some .bool)
  (j:s.fn H (ds++A)={results:=[.lit (.bool true)],args:=ds }) (n:Below W.heap.size W r):s.post enc P f false true false false W args (.bool true) r:=by
 obtain⟨p,q,G,B,rfl,I,J⟩:=id C
 rw[c]at B
 obtain⟨rfl,rfl⟩:=trodVars_none B
 refine⟨ds,[],p++[],[],p,[],C,?_,?_,?_,?_,fun h=>by cases h⟩
 ·rw[j,g]
  have:(Value.bool true).resultList f.resultTypes.size=[.bool true]:=by
   have:f.resultTypes.size=1:=by rw[←ES,g];rfl
   rw[this];rfl
  rw[this]
  exact trodAll_cons_mk (shut_bool L _) trodAll_mk0
 ·rw[j]
  have key:∀(l:List TypeId) (vs:List Value) (m:List (DataW H)) (ps:List MemPlace),(∀t∈l,P.readableRec t=true∧t<P.types.size)→DataW.TrodAll enc P W 0 (fun _=>true) true l vs m ps→
    DataW.TrodAll enc P r 0 (fun b=>decide (b<W.heap.size)) true l vs m ps:=by
   intro l
   induction l with
   |nil=>intro vs m ps _ h;obtain⟨rfl,rfl,rfl⟩:=trodAll_nil h;exact trodAll_mk0
   |cons t l N=>
    intro vs m ps y h
    have w:=DataW.TrodAll.lt h
    obtain⟨v,O,d,D,a,b,rfl,rfl,rfl,E,F⟩:=trodAll_cons h
    exact trodAll_cons_mk (Below.trod k (y t (by simp)).1 (y t (by simp)).2 E n (fun x M=>w x (Im _ M))) (N _ _ _ (fun t K=>y t (by simp[K])) F)
  exact key _ _ _ _ z G
 ·rw[c,j];exact rfl
 ·refine⟨n.os,n.output,fun i hi=>?_⟩
  rw[n.block i hi]
  cases W.heap[i]? with
  |none=>rfl
  |some o=>cases o<;>simp
end
end Go.Proofs.YtopncadjpnkjhaaGreatDoor
namespace Go.Proofs.YtopncadjpnkjhaaGreatDoor
set_option linter.all false
open Go Go.Eng
section
variable {H:Type} {enc:TypeId×Value→H} {W:World}
set_option maxRecDepth 100000
theorem wI(n:Nat):BO enc Tryz.prog W n 89 A4:=fun cs x h=>by
 obtain⟨xs,m,rfl,rfl,c,a,b⟩:=DataW.trod_struct Tryz.underlying89 h
 obtain⟨v0,i,d⟩:=rf (DH Tryz.underlying3) (b 0 _ rfl) a
 obtain⟨o,j,e⟩:=rf (DH Tryz.underlying3) (b 1 _ rfl) a
 obtain⟨v2,k,f⟩:=rf (DH Tryz.underlying27) (b 2 _ rfl) a
 obtain⟨v3,l,g⟩:=rf (DG Tryz.underlying9) (b 3 _ rfl) a
 have q:=DF (Ba d (Ba e (Ba f (DI g))))
 exact⟨.mk v0 o v2 v3,⟨by rw[c];kernel_rfl,(i.at.app (j.at.app (k.at.app l.at)))⟩,q⟩
theorem Zrw(n:Nat)(h:∀k,k<n→BO enc Tryz.prog W k 33 Ae):BO enc Tryz.prog W n 57 Cg:=fun cs x f=>by
 obtain⟨xs,m,rfl,rfl,b,a,c⟩:=DataW.trod_struct Tryz.underlying57 f
 obtain⟨v0,g,d⟩:=rf (h m (by omega)) (c 0 _ rfl) a
 obtain⟨j,i,e⟩:=rf (h m (by omega)) (c 1 _ rfl) a
 have q:=DF (Ba d (DI e))
 exact⟨.mk v0 j,⟨by rw[b];kernel_rfl,(g.at.app i.at)⟩,q⟩
theorem ZnU(n:Nat)(h:∀k,k<n→BO enc Tryz.prog W k 33 Ae):BO enc Tryz.prog W n 51 Bq:=fun cs x f=>by
 obtain⟨xs,m,rfl,rfl,b,a,c⟩:=DataW.trod_struct Tryz.underlying51 f
 obtain⟨v0,g,d⟩:=rf (DH Tryz.underlying3) (c 0 _ rfl) a
 obtain⟨j,i,e⟩:=rf (h m (by omega)) (c 1 _ rfl) a
 have q:=DF (Ba d (DI e))
 exact⟨.mk v0 j,⟨by rw[b];kernel_rfl,(g.at.app i.at)⟩,q⟩
theorem X2(n:Nat):BO enc Tryz.prog W n 33 Ae:=by
 induction n using Nat.strongRecOn with
 |ind n e=>
 intro cs x s
 obtain⟨xs,m,rfl,rfl,c,a,b⟩:=DataW.trod_struct Tryz.underlying33 s
 obtain⟨v0,t,f⟩:=rf (DH Tryz.underlying3) (b 0 _ rfl) a
 obtain⟨B,u,g⟩:=rf (DH Tryz.underlying27) (b 1 _ rfl) a
 obtain⟨v2,v,h⟩:=rf (DG Tryz.underlying9) (b 2 _ rfl) a
 obtain⟨v3,w,i⟩:=rf (CD Tryz.underlying28 (by kernel_rfl:Tryz.prog.cellsOf 33=7) (by decide) (fun x=>by rw[Gb];rfl) (fun k d=>(Xd Gb (e k (by omega))))) (b 3 _ rfl) a
 obtain⟨v4,y,l⟩:=rf (CD Tryz.underlying29 (by kernel_rfl:Tryz.prog.cellsOf 57=14) (by decide) (fun x=>by rw[Kj];rfl) (fun k d=>(Xd Kj (Zrw k (fun j r=>e j (by omega)))))) (b 4 _ rfl) a
 obtain⟨v5,z,o⟩:=rf (CD Tryz.underlying30 (by kernel_rfl:Tryz.prog.cellsOf 51=8) (by decide) (fun x=>by rw[Kh];rfl) (fun k d=>(Xd Kh (ZnU k (fun j r=>e j (by omega)))))) (b 5 _ rfl) a
 obtain⟨C,A,p⟩:=rf (CD Tryz.underlying31 (by kernel_rfl:Tryz.prog.cellsOf 89=4) (by decide) (fun _=>rfl) (fun k d=>(wI k))) (b 6 _ rfl) a
 have q:=DF (Ba f (Ba g (Ba h (Ba i (Ba l (Ba o (DI p)))))))
 exact⟨.mk v0 B v2 v3 v4 v5 C,⟨by rw[c];kernel_rfl,(t.at.app (u.at.app (v.at.app (w.at.app (y.at.app (z.at.app A.at))))))⟩,q⟩
theorem we(n:Nat):BO enc Tryz.prog W n 40 CJ:=fun cs x f=>by
 obtain⟨xs,m,rfl,rfl,b,a,c⟩:=DataW.trod_struct Tryz.underlying40 f
 obtain⟨v0,g,d⟩:=rf (DH Tryz.underlying3) (c 0 _ rfl) a
 obtain⟨i,h,e⟩:=rf (DG Tryz.underlying9) (c 1 _ rfl) a
 have q:=DF (Ba d (DI e))
 exact⟨.mk v0 i,⟨by rw[b];kernel_rfl,(g.at.app h.at)⟩,q⟩
theorem KJ(n:Nat):BO enc Tryz.prog W n 209 BJ:=fun cs x f=>by
 obtain⟨xs,m,rfl,rfl,b,a,c⟩:=DataW.trod_struct Tryz.underlying209 f
 obtain⟨v0,g,d⟩:=rf (DG Tryz.underlying9) (c 0 _ rfl) a
 obtain⟨i,h,e⟩:=rf (X2 m) (c 1 _ rfl) a
 have q:=DF (Ba d (DI e))
 exact⟨.mk v0 i,⟨by rw[b];kernel_rfl,(g.at.app h.at)⟩,q⟩
theorem xS(n:Nat):BO enc Tryz.prog W n 53 Am:=fun cs x p=>by
 obtain⟨xs,m,rfl,rfl,c,a,b⟩:=DataW.trod_struct Tryz.underlying53 p
 obtain⟨v0,r,d⟩:=rf (DH Tryz.underlying3) (b 0 _ rfl) a
 obtain⟨B,s,e⟩:=rf (DG Tryz.underlying9) (b 1 _ rfl) a
 obtain⟨v2,t,f⟩:=rf (DH Tryz.underlying3) (b 2 _ rfl) a
 obtain⟨v3,u,g⟩:=rf (DH Tryz.underlying3) (b 3 _ rfl) a
 obtain⟨v4,v,h⟩:=rf (we m) (b 4 _ rfl) a
 obtain⟨v5,w,i⟩:=rf (DG Tryz.underlying9) (b 5 _ rfl) a
 obtain⟨C,y,j⟩:=rf (oL Tryz.underlying4) (b 6 _ rfl) a
 obtain⟨D,z,l⟩:=rf (X2 m) (b 7 _ rfl) a
 obtain⟨E,A,o⟩:=rf (CD Tryz.underlying45 (by kernel_rfl:Tryz.prog.cellsOf 209=8) (by decide) (fun _=>rfl) (fun k F=>(KJ k))) (b 8 _ rfl) a
 have q:=DF (Ba d (Ba e (Ba f (Ba g (Ba h (Ba i (Ba j (Ba l (DI o)))))))))
 exact⟨.mk v0 B v2 v3 v4 v5 C D E,⟨by rw[c];kernel_rfl,(r.at.app (s.at.app (t.at.app (u.at.app (v.at.app (w.at.app (y.at.app (z.at.app A.at))))))))⟩,q⟩
theorem ph(n:Nat):BO enc Tryz.prog W n 182 B7:=fun cs x f=>by
 obtain⟨xs,m,rfl,rfl,b,a,c⟩:=DataW.trod_struct Tryz.underlying182 f
 obtain⟨v0,g,d⟩:=rf (DH Tryz.underlying3) (c 0 _ rfl) a
 obtain⟨i,h,e⟩:=rf (DH Tryz.underlying3) (c 1 _ rfl) a
 have q:=DF (Ba d (DI e))
 exact⟨.mk v0 i,⟨by rw[b];kernel_rfl,(g.at.app h.at)⟩,q⟩
theorem xw(n:Nat):BO enc Tryz.prog W n 47 Au:=fun cs x j=>by
 obtain⟨xs,m,rfl,rfl,c,a,b⟩:=DataW.trod_struct Tryz.underlying47 j
 obtain⟨v0,l,e⟩:=rf (DG Tryz.underlying9) (b 0 _ rfl) a
 obtain⟨t,o,f⟩:=rf (CD Tryz.underlying42 (by kernel_rfl:Tryz.prog.cellsOf 53=16) (by decide) (fun _=>rfl) (fun k d=>(xS k))) (b 1 _ rfl) a
 obtain⟨v2,p,g⟩:=rf (CD Tryz.underlying43 (by kernel_rfl:Tryz.prog.cellsOf 182=2) (by decide) (fun _=>rfl) (fun k d=>(ph k))) (b 2 _ rfl) a
 obtain⟨v3,r,h⟩:=rf (CD Tryz.underlying44 (by kernel_rfl:Tryz.prog.cellsOf 9=1) (by decide) (fun _=>rfl) (fun k d=>(DG Tryz.underlying9))) (b 3 _ rfl) a
 obtain⟨v4,s,i⟩:=rf (CD Tryz.underlying45 (by kernel_rfl:Tryz.prog.cellsOf 209=8) (by decide) (fun _=>rfl) (fun k d=>(KJ k))) (b 4 _ rfl) a
 have q:=DF (Ba e (Ba f (Ba g (Ba h (DI i)))))
 exact⟨.mk v0 t v2 v3 v4,⟨by rw[c];kernel_rfl,(l.at.app (o.at.app (p.at.app (r.at.app s.at))))⟩,q⟩
theorem wE(n:Nat):BO enc Tryz.prog W n 134 B5:=fun cs x g=>by
 obtain⟨xs,m,rfl,rfl,b,a,c⟩:=DataW.trod_struct Tryz.underlying134 g
 obtain⟨v0,h,d⟩:=rf (DG Tryz.underlying9) (c 0 _ rfl) a
 obtain⟨l,i,e⟩:=rf (DH Tryz.underlying3) (c 1 _ rfl) a
 obtain⟨v2,j,f⟩:=rf (CD Tryz.underlying45 (by kernel_rfl:Tryz.prog.cellsOf 209=8) (by decide) (fun _=>rfl) (fun k o=>(KJ k))) (c 2 _ rfl) a
 have q:=DF (Ba d (Ba e (DI f)))
 exact⟨.mk v0 l v2,⟨by rw[b];kernel_rfl,(h.at.app (i.at.app j.at))⟩,q⟩
theorem xu(n:Nat):BO enc Tryz.prog W n 68 Bi:=fun cs x j=>by
 obtain⟨xs,m,rfl,rfl,c,a,b⟩:=DataW.trod_struct Tryz.underlying68 j
 obtain⟨v0,l,e⟩:=rf (DG Tryz.underlying9) (b 0 _ rfl) a
 obtain⟨t,o,f⟩:=rf (oL Tryz.underlying4) (b 1 _ rfl) a
 obtain⟨v2,p,g⟩:=rf (CD Tryz.underlying66 (by kernel_rfl:Tryz.prog.cellsOf 134=3) (by decide) (fun _=>rfl) (fun k d=>(wE k))) (b 2 _ rfl) a
 obtain⟨v3,r,h⟩:=rf (CD Tryz.underlying43 (by kernel_rfl:Tryz.prog.cellsOf 182=2) (by decide) (fun _=>rfl) (fun k d=>(ph k))) (b 3 _ rfl) a
 obtain⟨v4,s,i⟩:=rf (CD Tryz.underlying45 (by kernel_rfl:Tryz.prog.cellsOf 209=8) (by decide) (fun _=>rfl) (fun k d=>(KJ k))) (b 4 _ rfl) a
 have q:=DF (Ba e (Ba f (Ba g (Ba h (DI i)))))
 exact⟨.mk v0 t v2 v3 v4,⟨by rw[c];kernel_rfl,(l.at.app (o.at.app (p.at.app (r.at.app s.at))))⟩,q⟩
theorem xK(n:Nat):BO enc Tryz.prog W n 136 FO:=fun cs x i=>by
 obtain⟨xs,m,rfl,rfl,c,a,b⟩:=DataW.trod_struct Tryz.underlying136 i
 obtain⟨v0,j,d⟩:=rf (DG Tryz.underlying9) (b 0 _ rfl) a
 obtain⟨s,l,e⟩:=rf (DG Tryz.underlying9) (b 1 _ rfl) a
 obtain⟨v2,o,f⟩:=rf (DG Tryz.underlying9) (b 2 _ rfl) a
 obtain⟨v3,p,g⟩:=rf (DH Tryz.underlying3) (b 3 _ rfl) a
 obtain⟨v4,r,h⟩:=rf (CD Tryz.underlying45 (by kernel_rfl:Tryz.prog.cellsOf 209=8) (by decide) (fun _=>rfl) (fun k t=>(KJ k))) (b 4 _ rfl) a
 have q:=DF (Ba d (Ba e (Ba f (Ba g (DI h)))))
 exact⟨.mk v0 s v2 v3 v4,⟨by rw[c];kernel_rfl,(j.at.app (l.at.app (o.at.app (p.at.app r.at))))⟩,q⟩
theorem wj(n:Nat):BO enc Tryz.prog W n 86 CK:=fun cs x h=>by
 obtain⟨xs,m,rfl,rfl,b,a,c⟩:=DataW.trod_struct Tryz.underlying86 h
 obtain⟨v0,i,d⟩:=rf (DG Tryz.underlying9) (c 0 _ rfl) a
 obtain⟨o,j,e⟩:=rf (CD Tryz.underlying84 (by kernel_rfl:Tryz.prog.cellsOf 136=5) (by decide) (fun _=>rfl) (fun k g=>(xK k))) (c 1 _ rfl) a
 obtain⟨v2,l,f⟩:=rf (CD Tryz.underlying45 (by kernel_rfl:Tryz.prog.cellsOf 209=8) (by decide) (fun _=>rfl) (fun k g=>(KJ k))) (c 2 _ rfl) a
 have q:=DF (Ba d (Ba e (DI f)))
 exact⟨.mk v0 o v2,⟨by rw[b];kernel_rfl,(i.at.app (j.at.app l.at))⟩,q⟩
theorem wY(n:Nat):BO enc Tryz.prog W n 26 Ak:=fun cs x h=>by
 obtain⟨xs,m,rfl,rfl,b,a,c⟩:=DataW.trod_struct Tryz.underlying26 h
 obtain⟨v0,i,e⟩:=rf (CD Tryz.underlying22 (by kernel_rfl:Tryz.prog.cellsOf 47=5) (by decide) (fun _=>rfl) (fun k d=>(xw k))) (c 0 _ rfl) a
 obtain⟨o,j,f⟩:=rf (CD Tryz.underlying23 (by kernel_rfl:Tryz.prog.cellsOf 68=5) (by decide) (fun _=>rfl) (fun k d=>(xu k))) (c 1 _ rfl) a
 obtain⟨v2,l,g⟩:=rf (CD Tryz.underlying24 (by kernel_rfl:Tryz.prog.cellsOf 86=3) (by decide) (fun _=>rfl) (fun k d=>(wj k))) (c 2 _ rfl) a
 have q:=DF (Ba e (Ba f (DI g)))
 exact⟨.mk v0 o v2,⟨by rw[b];kernel_rfl,(i.at.app (j.at.app l.at))⟩,q⟩
end
end Go.Proofs.YtopncadjpnkjhaaGreatDoor
namespace Go.Eng
set_option linter.all false
open Go Go.RowKit
section
variable {σ ξ ρ α β γ:Type}
theorem DE{B:Nat→Option (Lv Nat ξ ρ)}{N:Nat}(l:List α)(p:α→Bool)(f:Nat→ρ)(e:ξ)
  (hs:∀i x,l[i]?=some x→B i=some (if p x=true then .rt (f i)else .nx (i+1))) (he:B l.length=some (.ex e)) (hN:l.length<N):
  Al B N 0=some (match l.findIdx? p with|some i=>.inr (f i)|none=>.inl e):=by
 suffices H:∀k i N,i+k=l.length→k<N→Al B N i=some (match (l.drop i).findIdx? p with|some j=>.inr (f (i+j))|none=>.inl e)by
  have:=H l.length 0 N (by omega) hN
  simpa using this
 intro k
 induction k with
 |zero=>
  intro i N hi hN
  obtain⟨N,rfl⟩:∃m,N=m+1:=⟨N-1,by omega⟩
  have:i=l.length:=by omega
  subst this
  rw[Al,he,Sv]
  rfl
 |succ k b=>
  intro i N hi hN
  obtain⟨N,rfl⟩:∃m,N=m+1:=⟨N-1,by omega⟩
  have a:i<l.length:=by omega
  rw[Al,hs i l[i] (Ye a),Ij a,List.findIdx?_cons]
  cases c:p l[i]with
  |true=>simp
  |false=>
   simp only[Yp,YL]
   rw[b (i+1) N (by omega) (by omega)]
   cases(List.drop (i+1) l).findIdx? p with
   |none=>rfl
   |some j=>simp[YB,Lq 1 j]
def Kq(R:List α→α→Option ρ):List α→List α→Option ρ
 |_,[]=>none
 |p,x::l=>match R p x with
  |some r=>some r
  |none=>Kq R (p++[x]) l
theorem ZrN{B:σ→Option (Lv σ ξ ρ)}{N:Nat}(l:List α)(S:List α→β)(R:List α→α→Option ρ)(mk:Nat→β→σ)(e:β→ξ)
  (hs:∀i x,l[i]?=some x→B (mk i (S (l.take i)))=some (match R (l.take i) x with|some r=>.rt r|none=>.nx (mk (i+1) (S (l.take i++[x])))))
  (he:B (mk l.length (S l))=some (.ex (e (S l)))) (hN:l.length<N):Al B N (mk 0 (S []))=some ((Kq R [] l).elim (.inl (e (S l))) .inr):=by
 suffices H:∀k i N,i+k=l.length→k<N→Al B N (mk i (S (l.take i)))=some ((Kq R (l.take i) (l.drop i)).elim (.inl (e (S l))) .inr)by
  have:=H l.length 0 N (by omega) hN
  grind
 intro k
 induction k with
 |zero=>
  intro i N hi hN
  obtain⟨N,rfl⟩:∃m,N=m+1:=⟨N-1,by omega⟩
  have:i=l.length:=by omega
  subst this
  rw[Al,Su,he,Sv]
  rfl
 |succ k b=>
  intro i N hi hN
  obtain⟨N,rfl⟩:∃m,N=m+1:=⟨N-1,by omega⟩
  have a:i<l.length:=by omega
  rw[Al,hs i l[i] (Ye a),Ij a,Kq]
  cases R (l.take i) l[i]with
  |some r=>rfl
  |none=>
   have:=b (i+1) N (by omega) (by omega)
   rw[YZ a]at this
   exact this
theorem lZ{R:List α→α→Option ρ}(h:∀p x,R p x=none):∀(l p:List α),Kq R p l=none
 |[],p=>rfl
 |x::l,p=>by rw[Kq,h];exact lZ h l _
theorem Ka{B:σ→Option (Lv σ ξ ρ)}{N:Nat}(l:List α)(S:List α→β)(mk:Nat→β→σ)(e:β→ξ)
  (hs:∀i x,l[i]?=some x→B (mk i (S (l.take i)))=some (.nx (mk (i+1) (S (l.take i++[x])))))
  (he:B (mk l.length (S l))=some (.ex (e (S l)))) (hN:l.length<N):Al B N (mk 0 (S []))=some (.inl (e (S l))):=by
 rw[ZrN l S (fun _ _=>none) mk e hs he hN,lZ fun _ _=>rfl]
 rfl
theorem m0{B:σ→Option (Lv σ ξ ρ)}(I:Nat→σ→Prop)(Q:ξ ⊕ ρ→Prop)
  (h:∀k v,I k v→∃o,B v=some o∧match o with|.nx c=>∃k',k'<k∧I k' c|.ex b=>Q (.inl b)|.rt y=>Q (.inr y)):
  ∀N k v,k<N→I k v→∃o,Al B N v=some o∧Q o
 |0,k,v,d,_=>absurd d (Ih _)
 |N+1,k,v,d,g=>by
  obtain⟨o,e,a⟩:=h k v g
  rw[Al,e]
  cases o with
  |nx c=>obtain⟨k',i,f⟩:=a;exact m0 I Q h N k' c (by omega) f
  |ex b=>exact⟨_,rfl,a⟩
  |rt y=>exact⟨_,rfl,a⟩
theorem BF{l:List α}{i:Nat}{x:α}(h:l[i]?=some x):(i:Int)<(l.length:Int):=by
 grind
theorem A9{n:Nat}(h:n<4611686018427387904):n<Ai:=h
end
end Go.Eng
namespace Go.Proofs.YtopncadjpnkjhaaGreatDoor
set_option linter.all false
open Go Go.Eng
def Ok{α:Type}(Q:α→Prop)(o:Option α):Prop:=∃y,o=some y∧Q y
section
variable {α β γ σ ξ ρ:Type} {Q:β→Prop} {P:α→Prop}
theorem AB{y:β}(h:Q y):Ok Q (some y):=⟨y,rfl,h⟩
theorem Ax{m:Option α}{k:α→Option β}(h:Ok P m)(a:∀y,P y→Ok Q (k y)):Ok Q (m.bind k):=by
 obtain⟨y,rfl,h⟩:=h
 exact a y h
theorem Bu{xs:List α}{i:Nat}{k:α→Option β}(h:i<xs.length)(a:∀x,xs[i]?=some x→x∈xs→Ok Q (k x)):Ok Q (xs[i]?.bind k):=by
 rw[Ye h]
 exact a _ (Ye h) (Jn h)
theorem AC{b:Bool}{x y:Option β}(h:b=true→Ok Q x)(a:b=false→Ok Q y):Ok Q (if b=true then x else y):=by
 cases b
 ·exact a rfl
 ·exact h rfl
theorem AD{c:Prop}{d:Decidable c}{a:Option β}(b:c)(h:Ok Q a):Ok Q (if c then a else none):=by
 rw[Yi b]
 exact h
theorem fB{lo hi:Bd}{n:Nat}{a:Option β}(b:lo.c∧hi.c∧lo.vl 0≤hi.vl n∧hi.vl n≤n)(h:Ok Q a):Ok Q (if lo.c∧hi.c∧lo.vl 0≤hi.vl n∧hi.vl n≤n then a else none):=by
 rw[Yi b]
 exact h
theorem Bb{b:Bool}{m:Option α}{x:Option β}(h:b=true→Ok P m)[Inhabited α](d:(b=true→P (m.getD default))→Ok Q x):Ok Q (if(b=true→m.isSome=true)then x else none):=by
 rw[Yi fun e=>by obtain⟨y,h,_⟩:=h e;rw[h];rfl]
 refine d fun e=>?_
 obtain⟨y,a,c⟩:=h e
 rw[a]
 exact c
theorem EY{b:Bool}{xs:List α}{i:Int}{x:Option β}[Rw α](h:b=true→0≤i∧i<xs.length)(c:(b=true→xs[i.toNat]?=some (xs.getD i.toNat Rw.z)∧xs.getD i.toNat Rw.z∈xs)→Ok Q x):Ok Q (if(b=true→0≤i∧i<xs.length)then x else none):=by
 rw[Yi h]
 refine c fun e=>?_
 have d:=h e
 have a:i.toNat<xs.length:=by omega
 rw[Yu,Ye a]
 exact⟨rfl,Jn a⟩
theorem Bh{B:σ→Option (Lv σ ξ ρ)}{N:Nat}{v:σ}(I:σ→Prop)(μ:σ→Nat){A:ξ→Prop}{R:ρ→Prop}(d:I v)(hN:μ v<N)
  (hs:∀v,I v→Ok (fun o=>match o with|.nx c=>I c∧μ c<μ v|.ex b=>A b|.rt y=>R y) (B v)):Ok (Sum.elim A R) (Al B N v):=
 m0 (fun k v=>I v∧μ v≤k) (Sum.elim A R) (fun k v h=>by
  obtain⟨o,e,a⟩:=hs v h.1
  refine⟨o,e,?_⟩
  cases o with
  |nx c=>exact⟨μ c,by have:=a.2;have:=h.2;omega,a.1,Yh _⟩
  |ex b=>exact a
  |rt y=>exact a) N (μ v) v hN ⟨d,Yh _⟩
theorem Bo{m:Option (ξ ⊕ ρ)}{A:ξ→Prop}{R:ρ→Prop}{f:ξ→Option β}{g:ρ→Option β}(h:Ok (Sum.elim A R) m)(c:∀b,A b→Ok Q (f b))(a:∀r,R r→Ok Q (g r)):Ok Q (m.bind (Sum.elim f g)):=by
 obtain⟨y,rfl,h⟩:=h
 cases y with
 |inl b=>exact c b h
 |inr r=>exact a r h
theorem Ok.mono{a:β→Prop}{o:Option β}(h:Ok Q o)(k:∀y,Q y→a y):Ok a o:=by
 obtain⟨y,b,c⟩:=h
 exact⟨y,b,k y c⟩
theorem Ok.some{o:Option β}(h:Ok Q o):o.isSome=true:=by
 obtain⟨y,a,b⟩:=h
 rw[a]
 rfl
end
abbrev Tr{α:Type}:α→Prop:=fun _=>True
abbrev No{α:Type}:α→Prop:=fun _=>False
abbrev Ts{α β:Type}:α ⊕ β→Prop:=Sum.elim Tr Tr
theorem uJ:(⟨#[]⟩:ByteArray).size=0:=rfl
theorem AK{p:Prop}(h:p:=by first|trivial|assumption|contradiction|omega|grind|(simp only[Bd.c,Bd.vl,ByteArray.size_append,ba,uJ]at*;grind)):p:=h
theorem BN{p:Prop}(h:p:=by first|trivial|assumption|contradiction|omega|solve_by_elim|(simp only[Yb,Yt,YF,He,F2,Yr,YC]at*;omega)|grind):p:=h
theorem OT(x:Int):Ok Tr (ll x):=⟨_,rfl,trivial⟩
theorem N9(x:Int):Ok Tr (lm x):=⟨_,rfl,trivial⟩
theorem jD(x:Val):Ok Tr (Ma x):=⟨_,rfl,trivial⟩
theorem jR(x:Int):Ok Tr (L7 x):=⟨_,rfl,trivial⟩
theorem jI(x:Int):Ok Tr (UQ x):=by
 dsimp only[UQ,pY,br,lr,br,rem]
 (repeat' (first|with_reducible (first|refine AC (fun _=>?_) fun _=>?_|refine AB ?_|refine AD ?_ ?_)))<;>exact BN
theorem TH(x:ByteArray):Ok Tr (U1 x):=by
 dsimp only[U1,rD,PG,Mq,Mf,br,lr,br]
 (repeat' (first|with_reducible (first|refine AC (fun _=>?_) fun _=>?_|refine AB ?_|refine AD ?_ ?_)))<;>exact BN
theorem ZP7(x:ByteArray)(n:Int):Ok Tr (UX x n):=by
 dsimp only[UX,pA,Wh,PF,Pp,Mh,Me,Pf,br,lr,br]
 (repeat' (first|with_reducible (first|refine AC (fun _=>?_) fun _=>?_|refine AB ?_|refine AD ?_ ?_)))<;>exact BN
theorem TM(x:ByteArray):Ok Tr (UK x):=by
 dsimp only[UK,qY,br,lr,br]
 (repeat' (first|with_reducible (first|refine AC (fun _=>?_) fun _=>?_|refine AB ?_|refine AD ?_ ?_)))<;>exact BN
def I8(x:Fld):Prop:=(x.card≠5→1≤x.card∧x.card≤4∧x.key=0)∧(x.card=5→x.key=1∨x.key=2∨x.key=3∨x.key=4∨x.key=5∨x.key=7)
theorem uB(x:Fld):Ok (fun b=>b=true→I8 x) (UY x):=by
 unfold I8
 dsimp only[UY,iO,br,wg,lr,br]
 (repeat' (first|with_reducible (first|refine AC (fun _=>?_) fun _=>?_|refine AB ?_|refine AD ?_ ?_)))<;>(intro h;first|(cases h;done)|(simp only[Yb,YF,NZ,Yr,YC]at*;omega))
theorem T7(x:ByteArray)(i a b:Int)(h:0≤i):Ok Tr (J1 x i a b):=by
 dsimp only[J1,Xo,vz,lr,AR,EO]
 (repeat' (first|with_reducible (first|refine AC (fun _=>?_) fun _=>?_|refine AB ?_|refine AD ?_ ?_)))<;>exact BN
theorem kv(x:ByteArray)(i n:Int)(h:0≤i)(a:i≤2097152)(b:n≤9):Ok Tr (Iv x i n):=by
 have q:Ok Ts (Al (ID x i n) Ai 0):=by
  refine Bh (fun _:Nat=>True) (fun v:Nat=>(n-v).toNat) trivial ?_ fun v _=>?_
  ·unfold Ai
   omega
  dsimp only[ID,Qn,br,vs,An,ln,Ah,cl,wa,wi,br]
  (repeat' (first|with_reducible (first|refine AC (fun _=>?_) fun _=>?_|refine AB ?_)|(with_reducible apply Ax;(exact T7 _ _ _ _ (by omega));intro _ _)|with_reducible refine AD ?_ ?_))<;>exact BN
 dsimp only[Iv,Xp,X4,XY,lr,lc]
 (repeat' (first|with_reducible (first|refine AC (fun _=>?_) fun _=>?_|refine AB ?_)|(with_reducible apply Bo;(exact q);all_goals(intro _ _;try dsimp only))|with_reducible refine AD ?_ ?_))<;>exact BN
set_option maxRecDepth 20000 in
theorem ZQQ(x:ByteArray)(i:Int)(h:0≤i)(h1:i<x.size)(h2:x.size≤1048576):Ok (fun y=>0≤y∧y≤4) (L9 x i):=by
 dsimp only[L9,XJ,br,vg,lr,Aw,wi,br,Nl]
 (repeat' (first|with_reducible (first|refine AC (fun _=>?_) fun _=>?_|refine AB ?_|refine Bu ?_ fun _ _ _=>?_)|(with_reducible apply Ax;(exact T7 _ _ _ _ (by omega));intro _ _)|(with_reducible apply Ax;(exact kv _ _ _ (by omega) (by omega) (by omega));intro _ _)|(with_reducible apply Bb;(exact fun _=>T7 _ _ _ _ (by omega));intro _)|(with_reducible apply Bb;(exact fun _=>kv _ _ _ (by omega) (by omega) (by omega));intro _)|with_reducible refine AD ?_ ?_))<;>exact BN
end Go.Proofs.YtopncadjpnkjhaaGreatDoor
