import Derived.Test.YtopncadjpnkjhaaGreatDoorZg16
import Derived.Test.YtopncadjpnkjhaaGreatDoorZg00
namespace Go.Proofs.YtopncadjpnkjhaaGreatDoor
set_option maxRecDepth 100000
set_option linter.all false
open Go Go.Eng
abbrev EC:List (Ab×Bool):=[((1,4),false),((1,5),false),((1,6),false)]
abbrev IR:List (Ab×Bool):=[((1,4),false),((1,5),false)]
abbrev GJ(a:Scm):Ab×Blk:=kk 4 26 3 (cD (Ak a))
abbrev Ip(a:Val):Ab×Blk:=kk 6 33 7 (cD (Ae a))
abbrev Fo:Int→AV:=fun y=>vI y
def dw(b:Scm)(c:Msg)(a:Val)(d:Int):Nat→St:=fun v2=>Aa [(3,vI d),pp 4,pp 5,pp 6,(29,vN a.slots.length),(30,vN v2)] [(GJ b),kk 5 47 5 (cD (Au c)),(Ip a)]
def eU(a:Scm)(b:Msg)(c:Val):Unit→Nat×St:=fun _=>(1,Aa [pp 4,pp 5,pp 6] [(GJ a),kk 5 47 5 (cD (Au b)),(Ip c)])
def SL(c:Scm)(d:Msg)(b:Val)(e:Int)(a:Scm→Fld→Val→Int→Option (Int))(v2:Nat):PT 0 (Lv (Nat) (Unit) (Int)):=br (decide ((v2:Int)<(b.slots.length:Int))) (wg<|wg<|wg<|cs Tryz.prog 60 [.agg ((Ak c).map .d),.agg ((Au d).map .d),vL At b.slots,vN v2,vI e] [] [] (Pq a c d b.slots (v2:Int) e) (fun y=>vI y) fun f=>br (!decide (f=(0:Int))) (An Fo nG f) (vs (wa v2 1)<|ln (dw c d b e) (v2+1))) (Ah (eU c d b) ())
def M6(b:Scm)(c:Msg)(d:Val)(e:Int)(a:Scm→Fld→Val→Int→Option (Int)):Nat→Option (Lv (Nat) (Unit) (Int)):=fun v2=>(SL b c d e a v2).m
def i0(b:Scm)(a:Msg)(c:Val):Nat→St:=fun v4=>Aa [pp 4,pp 5,pp 6,(45,vL Am a.fields),(46,vN a.fields.length),(47,vN v4)] [(GJ b),kk 5 47 5 (cD (Au a)),(Ip c)]
def iJ(a:Scm)(b:Msg)(c:Val):Unit→Nat×St:=fun _=>(3,Aa [pp 4,pp 5,pp 6] [(GJ a),kk 5 47 5 (cD (Au b)),(Ip c)])
def SG(d:Scm)(b:Msg)(c:Val)(v4:Nat):PT 0 (Lv (Nat) (Unit) (Int)):=br (decide ((v4:Int)<(b.fields.length:Int))) (ix b.fields v4 fun a=>wg<|wg<|wg<|DQ (decide (a.card=(1:Int))) Tryz.prog 61 [vL At c.slots,.fn (.func 62) [] [.ptr (1,12) 1 0]] [(1,12)] [((1,12),⟨1,true,53,16,(cD (Am a))⟩)] (Px c.slots a) (fun y=>vB y) fun e=>br (decide (a.card=(1:Int))&&(!e)) (An Fo nG 14) (vs (wa v4 1)<|ln (i0 d b c) (v4+1))) (Ah (iJ d b c) ())
def M5(b:Scm)(c:Msg)(d:Val)(a:Scm→Fld→Val→Int→Option (Int)):Nat→Option (Lv (Nat) (Unit) (Int)):=fun v4=>(SG b c d v4).m
def gN(b:Scm)(c:Msg)(a:Val):Nat→St:=fun d=>Aa [pp 4,pp 5,(63,vL A4 a.raws),(64,vN a.raws.length),(65,vN d)] [(GJ b),kk 5 47 5 (cD (Au c))]
def gy:Unit→Nat×St:=fun _=>(5,Aa [] [])
def Zs(c:Scm)(d:Msg)(b:Val)(a:Nat):PT 0 (Lv (Nat) (Unit) (Int)):=br (decide ((a:Int)<(b.raws.length:Int))) (ix b.raws a fun f=>wg<|wg<|wg<|wg<|cl (ZQq c d f) fun e=>br (!decide (e=(0:Int))) (An Fo nG e) (vs (wa a 1)<|ln (gN c d b) (a+1))) (Ah (gy) ())
def MZ(b:Scm)(c:Msg)(d:Val)(a:Scm→Fld→Val→Int→Option (Int)):Nat→Option (Lv (Nat) (Unit) (Int)):=fun e=>(Zs b c d e).m
def iz:PT 0 (Int):=lr Fo nG 0
def iT(c:Scm)(d:Msg)(b:Val)(a:Scm→Fld→Val→Int→Option (Int)):PT 0 (Int):=wg<|vz (Ag b.raws)<|lc (Aa [pp 4,pp 5,(63,vL A4 b.raws),(64,vN b.raws.length),(65,vI 0)] [(GJ c),kk 5 47 5 (cD (Au d))]) ((Al (MZ c d b a) Ai 0).bind (Sum.elim (fun _=>(iz).m) some))
def gq(c:Scm)(b:Msg)(d:Val)(a:Scm→Fld→Val→Int→Option (Int)):PT 0 (Int):=wg<|vz (Ag b.fields)<|lc (Aa [pp 4,pp 5,pp 6,(45,vL Am b.fields),(46,vN b.fields.length),(47,vI 0)] [(GJ c),kk 5 47 5 (cD (Au b)),(Ip d)]) ((Al (M5 c b d a) Ai 0).bind (Sum.elim (fun _=>(iT c b d a).m) some))
def dE(c:Scm)(d:Msg)(b:Val)(e:Int)(a:Scm→Fld→Val→Int→Option (Int)):PT 0 (Int):=wg<|vz (Ag b.slots)<|lc (Aa [(3,vI e),pp 4,pp 5,pp 6,(29,vN b.slots.length),(30,vI 0)] [(GJ c),kk 5 47 5 (cD (Au d)),(Ip b)]) ((Al (M6 c d b e a) Ai 0).bind (Sum.elim (fun _=>(gq c d b a).m) some))
def bC(d:Scm)(e:Msg)(b:Val)(c:Int)(a:Scm→Fld→Val→Int→Option (Int)):PT 0 (Int):=wg<|wg<|Aw (!(!decide (b.kind=(10:Int)))) (Ov b) fun f=>br ((!decide (b.kind=(10:Int)))||f) (lr Fo nG 12) (br (decide ((16:Int)<c)) (lr Fo nG 17) (lc (Aa [(3,vI c),pp 4,pp 5,pp 6] [(GJ d),kk 5 47 5 (cD (Au e)),(Ip b)]) ((dE d e b c a).m)))
def Pc(a:Scm→Fld→Val→Int→Option (Int))(b:Scm)(c:Msg)(d:Val)(e:Int):Option (Int):=(bC b c d e a).m
theorem ZyH{C:Cx}(co:CO C 0)(b:Scm)(c:Msg)(d:Val)(e:Int)(a:Scm→Fld→Val→Int→Option (Int))(f:∀(b:Scm) (c:Fld) (d:Val) (e:Int),KC Tryz.prog 118 [.agg ((Ak b).map .d),.agg ((Am c).map .d),.agg ((Ae d).map .d),vI e] (a b c d e) Cy):KL Tryz.prog (Aq tl) 77 C (pa [0,0,1,0,1,1] (Ar Tryz.f21)) [.tmp 8] 0 (dw b c d e) (eU b c d) Fo nG (M6 b c d e a):=fun v2 _ m Q h j L=>eN co (Ad [3,4,5,6,29,30] EC) (Ad [4,5,6] EC) j m L fun r g=>⟨⟨fun y hy i _ _=>by rw[(TU a f b c d.slots (v2:Int) e).x,(TU a f b c d.slots (v2:Int) e).e];exact(TU a f b c d.slots (v2:Int) e).k _ i y hy,fun k=>⟨id,id⟩⟩,id⟩
theorem Zy8{C:Cx}(co:CO C 0)(c:Scm)(d:Msg)(b:Val)(a:Scm→Fld→Val→Int→Option (Int))(j:∀(c:Scm) (d:Fld) (b:Val) (h:Int),KC Tryz.prog 118 [.agg ((Ak c).map .d),.agg ((Am d).map .d),.agg ((Ae b).map .d),vI h] (a c d b h) Cy):KL Tryz.prog (Aq tl) 77 C (pa [0,0,1,0,1,1,1] (Ar Tryz.f21)) [.tmp 8] 0 (i0 c d b) (iJ c d b) Fo nG (M5 c d b a):=fun v4 _ m Q e i L=>eN co (Ad [4,5,6,45,46,47] EC) (Ad [4,5,6] EC) i m L fun r g=>⟨fun f=>⟨fun y hy=>s6 (xD b.slots f) hy co g [((1,12),⟨1,true,53,16,(cD (Am f))⟩)] [],fun k=>⟨id,id⟩⟩,id⟩
theorem Zys{C:Cx}(co:CO C 0)(b:Scm)(c:Msg)(d:Val)(a:Scm→Fld→Val→Int→Option (Int))(h:∀(b:Scm) (c:Fld) (d:Val) (f:Int),KC Tryz.prog 118 [.agg ((Ak b).map .d),.agg ((Am c).map .d),.agg ((Ae d).map .d),vI f] (a b c d f) Cy):KL Tryz.prog (Aq tl) 77 C (pa [0,0,1,0,1,1,1,1] (Ar Tryz.f21)) [.tmp 8] 0 (gN b c d) (gy) Fo nG (MZ b c d a):=fun i _ m Q e g L=>eN co (Ad [4,5,63,64,65] IR) nl g m L
theorem OU(a:Scm→Fld→Val→Int→Option (Int))(f:∀(b:Scm) (c:Fld) (d:Val) (e:Int),KC Tryz.prog 118 [.agg ((Ak b).map .d),.agg ((Am c).map .d),.agg ((Ae d).map .d),vI e] (a b c d e) Cy)(b:Scm)(c:Msg)(d:Val)(e:Int):KC Tryz.prog 21 [.agg ((Ak b).map .d),.agg ((Au c).map .d),.agg ((Ae d).map .d),vI e] (Pc a b c d e) Fo:=kC Tryz.func21 Tryz.ntmps21 [.tmp 8] fun co m L=>mJ co 2 (Ad [3,4,5,6] EC) nl nH m L fun r g=>fun h=>⟨id,⟨id,fun _ m L=>sq (mJ co 1 (Ad [3,4,5,6,29,30] EC) nl nH m L fun r g=>fun _ m L=>bk 1 (lo (Az (ZyH co b c d e a f) nH m L (fun _ m=>sq (mJ co 1 (Ad [4,5,6,45,46,47] EC) nl nH m L fun r g=>fun _ m L=>bk 3 (lo (Az (Zy8 co b c d a f) nH m L (fun _ m=>sq (mJ co 1 (Ad [4,5,63,64,65] IR) nl nH m L fun r g=>fun _ m L=>bk 5 (lo (Az (Zys co b c d a f) nH m L (fun _ m=>fO co m L))))))))))))⟩⟩
abbrev Um:Int→AV:=fun y=>vI y
def sQ(b:Scm)(c:Typ)(d:Val)(e:Int)(a:Scm→Fld→Val→Int→Option (Int)):PT 0 (Int):=wg<|br (decide (c.kind=(10:Int))) (wg<|wg<|cl (TC b c.name) fun f=>wg<|wg<|wg<|wg<|vs (wi (e+1))<|cs Tryz.prog 21 [.agg ((Ak b).map .d),.agg ((Au f.1).map .d),.agg ((Ae d).map .d),vI (e+1)] [] [] (Pc a b f.1 d (e+1)) (fun y=>vI y) fun g=>lr Um nG g) (wg<|wg<|wg<|cl (kQ b c d) fun h=>lr Um nG h)
def J7(a:Scm→Fld→Val→Int→Option (Int))(b:Scm)(c:Typ)(d:Val)(e:Int):Option (Int):=(sQ b c d e a).m
theorem Gn(a:Scm→Fld→Val→Int→Option (Int))(f:∀(b:Scm) (e:Fld) (c:Val) (d:Int),KC Tryz.prog 118 [.agg ((Ak b).map .d),.agg ((Am e).map .d),.agg ((Ae c).map .d),vI d] (a b e c d) Cy)(b:Scm)(e:Typ)(c:Val)(d:Int):KC Tryz.prog 162 [.agg ((Ak b).map .d),.agg ((CJ e).map .d),.agg ((Ae c).map .d),vI d] (J7 a b e c d) Um:=Ci Tryz.func162 Tryz.ntmps162 AG [.tmp 8] fun C co y m i L=>fO co m L fun r g=>⟨fun h=>⟨fun y hy j _ _=>by rw[(OU a f b h.1 c (d+1)).x,(OU a f b h.1 c (d+1)).e];exact(OU a f b h.1 c (d+1)).k _ j y hy,fun k=>id⟩,fun l=>id⟩
abbrev Up(a:Scm):Ab×Blk:=kk 4 26 3 (cD (Ak a))
abbrev TV(a:Fld):Ab×Blk:=kk 5 53 16 (cD (Am a))
abbrev JK:Int→AV:=fun y=>vI y
def tf(b:Scm)(c:Fld)(a:List Pr)(d:Int):Nat→St:=fun e=>Aa [(2,vL Ay a),(3,vI d),pp 4,pp 5,(13,vL Ay a),(14,vN a.length),(15,vN e)] [(Up b),(TV c)]
def pz:Unit→Nat×St:=fun _=>(0,Aa [] [])
def QG(d:Scm)(e:Fld)(f:List Pr)(g:Int)(a:Scm→Fld→Val→Int→Option (Int))(c:Nat):PT 0 (Lv (Nat) (Unit) (Int)):=br (decide ((c:Int)<(f.length:Int))) (ix f c fun b=>wg<|wg<|wg<|wg<|cl (kQ d (.mk e.key ⟨#[]⟩:Typ) b.key) fun i=>br (!decide (i=(0:Int))) (An JK nG i) (sL f .no (.nt c) fun h=>cs Tryz.prog 204 [vL Ay h,.fn (.func 205) [] [.ptr (1,10) 1 0]] [(1,10)] [((1,10),⟨1,true,57,14,(cD (Cg b))⟩)] (L3 h (fun(z0:Pr)=>Mc z0 b)) (fun y=>vB y) fun k=>br k (An JK nG 9) (wg<|wg<|wg<|cs Tryz.prog 162 [.agg ((Ak d).map .d),.agg ((CJ e.type).map .d),.agg ((Ae b.val).map .d),vI g] [] [] (J7 a d e.type b.val g) (fun y=>vI y) fun j=>br (!decide (j=(0:Int))) (An JK nG j) (vs (wa c 1)<|ln (tf d e f g) (c+1))))) (Ah (pz) ())
def Km(b:Scm)(c:Fld)(d:List Pr)(e:Int)(a:Scm→Fld→Val→Int→Option (Int)):Nat→Option (Lv (Nat) (Unit) (Int)):=fun f=>(QG b c d e a f).m
def qt:PT 0 (Int):=lr JK nG 0
def r3(c:Scm)(d:Fld)(b:List Pr)(e:Int)(a:Scm→Fld→Val→Int→Option (Int)):PT 0 (Int):=vz (Ag b)<|lc (Aa [(2,vL Ay b),(3,vI e),pp 4,pp 5,(13,vL Ay b),(14,vN b.length),(15,vI 0)] [(Up c),(TV d)]) ((Al (Km c d b e a) Ai 0).bind (Sum.elim (fun _=>(qt).m) some))
def sG(b:Scm)(c:Fld)(d:List Pr)(e:Int)(a:Scm→Fld→Val→Int→Option (Int)):PT 0 (Int):=lc (Aa [(2,vL Ay d),(3,vI e),pp 4,pp 5] [(Up b),(TV c)]) ((r3 b c d e a).m)
def Pn(a:Scm→Fld→Val→Int→Option (Int))(b:Scm)(c:Fld)(d:List Pr)(e:Int):Option (Int):=(sG b c d e a).m
theorem Ztv{C:Cx}(co:CO C 0)(b:Scm)(c:Fld)(f:List Pr)(d:Int)(a:Scm→Fld→Val→Int→Option (Int))(h:∀(b:Scm) (c:Fld) (f:Val) (d:Int),KC Tryz.prog 118 [.agg ((Ak b).map .d),.agg ((Am c).map .d),.agg ((Ae f).map .d),vI d] (a b c f d) Cy):KL Tryz.prog (Aq tl) 46 C (pa [0,0,1,0,1] (Ar Tryz.f163)) [.tmp 8] 0 (tf b c f d) (pz) JK nG (Km b c f d a):=fun s _ m Q j k L=>eN co (Ad [2,3,4,5,13,14,15] IR) nl k m L fun r g=>⟨fun e=>fun t=>⟨id,fun p=>⟨fun y hy=>CQ (ZNH p (fun(z0:Pr)=>Mc z0 e)) hy co g [] [((1,10),⟨1,true,57,14,(cD (Cg e))⟩)] (AJ [(1,.fn (.func 205) [] [.ptr (r.κ (1,10)) (r.γ (1,10)+1) 0])]) (fun i n q=>(fun z0 y o=>Gf (zU z0 e) o co g [((1,10),⟨1,true,57,14,(cD (Cg e))⟩)] [] n (by simp) (fun _=>.top) (fun _ _=>trivial) (fun l H=>⟨fun _=>⟨rfl,by kernel_rfl⟩,by kernel_rfl,trivial⟩))) (fun H=>trivial),fun u=>⟨id,⟨fun y hy i _ _=>by rw[(Gn a h b c.type e.val d).x,(Gn a h b c.type e.val d).e];exact(Gn a h b c.type e.val d).k _ i y hy,fun v=>⟨id,id⟩⟩⟩⟩⟩,id⟩
theorem SJ(a:Scm→Fld→Val→Int→Option (Int))(f:∀(b:Scm) (c:Fld) (d:Val) (e:Int),KC Tryz.prog 118 [.agg ((Ak b).map .d),.agg ((Am c).map .d),.agg ((Ae d).map .d),vI e] (a b c d e) Cy)(b:Scm)(c:Fld)(d:List Pr)(e:Int):KC Tryz.prog 163 [.agg ((Ak b).map .d),.agg ((Am c).map .d),vL Ay d,vI e] (Pn a b c d e) JK:=kC Tryz.func163 Tryz.ntmps163 [.tmp 8] fun co m L=>mJ co 1 (Ad [2,3,4,5] IR) nl nH m L fun r g=>fun _ m L=>sq (mJ co 1 (Ad [2,3,4,5,13,14,15] IR) nl nH m L fun r g=>fun _ m L=>bk 0 (lo (Az (Ztv co b c d e a f) nH m L (fun _ m=>fO co m L))))
abbrev Iu(a:Scm):Ab×Blk:=kk 4 26 3 (cD (Ak a))
abbrev It(a:Fld):Ab×Blk:=kk 5 53 16 (cD (Am a))
abbrev LJ(a:Val):Ab×Blk:=kk 6 33 7 (cD (Ae a))
def s8(b:Scm)(c:Fld)(a:Val)(d:Int):Nat→St:=fun v2=>Aa [(3,vI d),pp 4,pp 5,(24,vL AF a.list),(25,vN a.list.length),(26,vN v2)] [(Iu b),(It c)]
def qC:Unit→Nat×St:=fun _=>(1,Aa [] [])
def Xm(b:Scm)(c:Fld)(d:Val)(e:Int)(a:Scm→Fld→Val→Int→Option (Int))(v2:Nat):PT 0 (Lv (Nat) (Unit) (Int)):=br (decide ((v2:Int)<(d.list.length:Int))) (ix d.list v2 fun f=>wg<|wg<|wg<|wg<|cs Tryz.prog 162 [.agg ((Ak b).map .d),.agg ((CJ c.type).map .d),.agg ((Ae f).map .d),vI e] [] [] (J7 a b c.type f e) (fun y=>vI y) fun g=>br (!decide (g=(0:Int))) (An Cy nG g) (vs (wa v2 1)<|ln (s8 b c d e) (v2+1))) (Ah (qC) ())
def MG(b:Scm)(c:Fld)(d:Val)(e:Int)(a:Scm→Fld→Val→Int→Option (Int)):Nat→Option (Lv (Nat) (Unit) (Int)):=fun v2=>(Xm b c d e a v2).m
def sU:PT 0 (Int):=lr Cy nG 0
def rV(c:Scm)(d:Fld)(b:Val)(e:Int)(a:Scm→Fld→Val→Int→Option (Int)):PT 0 (Int):=wg<|vz (Ag b.list)<|lc (Aa [(3,vI e),pp 4,pp 5,(24,vL AF b.list),(25,vN b.list.length),(26,vI 0)] [(Iu c),(It d)]) ((Al (MG c d b e a) Ai 0).bind (Sum.elim (fun _=>(sU).m) some))
def o9(c:Scm)(d:Fld)(b:Val)(e:Int)(a:Scm→Fld→Val→Int→Option (Int)):PT 0 (Int):=wg<|wg<|Aw (!(!decide (b.kind=(11:Int)))) (Ov b) fun f=>br ((!decide (b.kind=(11:Int)))||f) (lr Cy nG 12) (lc (Aa [(3,vI e),pp 4,pp 5,pp 6] [(Iu c),(It d),(LJ b)]) ((rV c d b e a).m))
def sF(b:Scm)(c:Fld)(d:Val)(e:Int)(a:Scm→Fld→Val→Int→Option (Int)):PT 0 (Int):=wg<|wg<|wg<|cs Tryz.prog 162 [.agg ((Ak b).map .d),.agg ((CJ c.type).map .d),.agg ((Ae d).map .d),vI e] [] [] (J7 a b c.type d e) (fun y=>vI y) fun f=>lr Cy nG f
def sH(d:Scm)(c:Fld)(b:Val)(e:Int)(a:Scm→Fld→Val→Int→Option (Int)):PT 0 (Int):=br (decide (c.card=(5:Int))) (wg<|wg<|Aw (!(!decide (b.kind=(12:Int)))) (Ov b) fun f=>br ((!decide (b.kind=(12:Int)))||f) (lr Cy nG 12) (wg<|wg<|wg<|cs Tryz.prog 163 [.agg ((Ak d).map .d),.agg ((Am c).map .d),vL Ay b.pairs,vI e] [] [] (Pn a d c b.pairs e) (fun y=>vI y) fun g=>lr Cy nG g)) (lc (Aa [(3,vI e),pp 4,pp 5,pp 6] [(Iu d),(It c),(LJ b)]) ((sF d c b e a).m))
def qR(c:Scm)(b:Fld)(d:Val)(e:Int)(a:Scm→Fld→Val→Int→Option (Int)):PT 0 (Int):=lc (Aa [(3,vI e),pp 4,pp 5,pp 6,(13,vI b.card),(14,vB (decide (b.card=(4:Int))))] [(Iu c),(It b),(LJ d)]) (if decide (b.card=(4:Int))=true then(o9 c b d e a).m else(sH c b d e a).m)
def p6(c:Scm)(b:Fld)(d:Val)(e:Int)(a:Scm→Fld→Val→Int→Option (Int)):PT 0 (Int):=wg<|lc (Aa [(3,vI e),pp 4,pp 5,pp 6,(13,vI b.card)] [(Iu c),(It b),(LJ d)]) ((qR c b d e a).m)
def rh(b:Scm)(c:Fld)(d:Val)(e:Int)(a:Scm→Fld→Val→Int→Option (Int)):PT 0 (Int):=lc (Aa [(3,vI e),pp 4,pp 5,pp 6] [(Iu b),(It c),(LJ d)]) ((p6 b c d e a).m)
def Rz(a:Scm→Fld→Val→Int→Option (Int))(b:Scm)(c:Fld)(d:Val)(e:Int):Option (Int):=(rh b c d e a).m
theorem Zsp{C:Cx}(co:CO C 0)(b:Scm)(c:Fld)(e:Val)(d:Int)(a:Scm→Fld→Val→Int→Option (Int))(h:∀(b:Scm) (c:Fld) (e:Val) (d:Int),KC Tryz.prog 118 [.agg ((Ak b).map .d),.agg ((Am c).map .d),.agg ((Ae e).map .d),vI d] (a b c e d) Cy):KL Tryz.prog (Aq tl) 61 C (pa [0,0,1,0,1,0,1,0,1,0,1] (Ar Tryz.f118)) [.tmp 8] 0 (s8 b c e d) (qC) Cy nG (MG b c e d a):=fun v2 _ m Q i k L=>eN co (Ad [3,4,5,24,25,26] IR) nl k m L fun r g=>⟨fun f=>⟨fun y hy j _ _=>by rw[(Gn a h b c.type f d).x,(Gn a h b c.type f d).e];exact(Gn a h b c.type f d).k _ j y hy,fun l=>⟨id,id⟩⟩,id⟩
theorem xL(a:Scm→Fld→Val→Int→Option (Int))(f:∀(b:Scm) (c:Fld) (d:Val) (e:Int),KC Tryz.prog 118 [.agg ((Ak b).map .d),.agg ((Am c).map .d),.agg ((Ae d).map .d),vI e] (a b c d e) Cy)(b:Scm)(c:Fld)(d:Val)(e:Int):KC Tryz.prog 118 [.agg ((Ak b).map .d),.agg ((Am c).map .d),.agg ((Ae d).map .d),vI e] (Rz a b c d e) Cy:=Ci Tryz.func118 Tryz.ntmps118 AG [.tmp 8] fun C co y m i L=>mJ co 1 (Ad [3,4,5,6] EC) nl nH m L fun r g=>fun _ m L=>sq (mJ co 1 (Ad [3,4,5,6,13] EC) nl nH m L fun r g=>fun _ m L=>bk 0 (mJ co 1 (Ad [3,4,5,6,13,14] EC) nl nH m L fun r g=>fun _ m L=>KV m (fun m=>mJ co 1 (Ad [3,4,5,6] EC) nl nH m L fun r g=>fun j=>⟨id,fun _ m L=>sq (mJ co 1 (Ad [3,4,5,24,25,26] IR) nl nH m L fun r g=>fun _ m L=>bk 1 (lo (Az (Zsp co b c d e a f) nH m L (fun _ m=>eN co nl nl nH m L))))⟩) (fun m=>eN co (Ad [3,4,5,6] EC) nl nH m L fun r g=>⟨fun k=>⟨id,⟨fun y hy h _ _=>by rw[(SJ a f b c d.pairs e).x,(SJ a f b c d.pairs e).e];exact(SJ a f b c d.pairs e).k _ h y hy,fun l=>id⟩⟩,fun _ m L=>fO co m L fun r g=>⟨fun y hy h _ _=>by rw[(Gn a f b c.type d e).x,(Gn a f b c.type d e).e];exact(Gn a f b c.type d e).k _ h y hy,fun n=>id⟩⟩)))
def Iw:Nat→Scm→Fld→Val→Int→Option (Int)
 |0=>fun _ _ _ _=>none
 |a+1=>Rz (Iw a)
theorem fq:∀(e:Nat) (a:Scm) (b:Fld) (c:Val) (d:Int),KC Tryz.prog 118 [.agg ((Ak a).map .d),.agg ((Am b).map .d),.agg ((Ae c).map .d),vI d] (Iw e a b c d) Cy
 |0,a,b,c,d=>⟨fun _ _ _ h=>(by cases h),by intro r;kernel_rfl,by intro r y;kernel_rfl⟩
 |e+1,a,b,c,d=>xL (Iw e) (fq e) a b c d
abbrev E8:Int→AV:=fun y=>vI y
def j4(a:Scm)(e:ByteArray)(b:Val):PT 0 (Int):=wg<|cl (TC a e) fun c=>wg<|br (!c.2) (lr E8 nG 10) (wg<|wg<|wg<|cl (OU (Iw Ai) (fq Ai) a c.1 b 1) fun d=>br (!decide (d=(0:Int))) (lr E8 nG d) (wg<|cl (Uw Ai b) fun f=>br (decide ((4096:Int)<f)) (lr E8 nG 3) (lr E8 nG 0)))
def VK(a:Scm)(b:ByteArray)(c:Val):Option (Int):=(j4 a b c).m
theorem Sf(a:Scm)(b:ByteArray)(c:Val):KC Tryz.prog 8 [.agg ((Ak a).map .d),vS b,.agg ((Ae c).map .d)] (VK a b c) E8:=kC Tryz.func8 Tryz.ntmps8 [.tmp 6] fun co m L=>fO co m L
abbrev RY:List Raw→AV:=fun y=>.ref (0,0) 1 0 y.length
@[reducible] def Sb:List Raw→List Blk:=fun y=>[⟨1,true,89,4,Ac A4 y⟩]
def ZNV(a:List Raw):PT 1 (List Raw):=al A4 a false fun b=>br b (vw .sep<|vw (.ads 2 2 89 4)<|mv 2 0 ([]:List Raw)<|lr RY (Sb) ([]:List Raw)) (a0 a<|mv 7 0 a<|lr RY (Sb) a)
def mc(a:List Raw):Option (List Raw):=(ZNV a).m
theorem ZQt(a:List Raw):KO Tryz.prog 35 1 [vL A4 a] [⟨0,false,0,0,[]⟩] (fun _ _ _ _=>True) (mc a) RY (Sb):=kO Tryz.func35 Tryz.ntmps35 [.tmp 2] 1 (fun co b m L=>fO co m L)
abbrev R4:List Slt→AV:=fun y=>.ref (0,0) 1 0 y.length
@[reducible] def Sd:List Slt→List Blk:=fun y=>[⟨1,true,51,8,Ac At y⟩]
def yS(a:List Slt):PT 1 (List Slt):=al At a false fun b=>br b (vw .sep<|vw (.ads 2 2 51 8)<|mv 2 0 ([]:List Slt)<|lr R4 (Sd) ([]:List Slt)) (a0 a<|mv 7 0 a<|lr R4 (Sd) a)
def lN(a:List Slt):Option (List Slt):=(yS a).m
theorem ZQN(a:List Slt):KO Tryz.prog 86 1 [vL At a] [⟨0,false,0,0,[]⟩] (fun _ _ _ _=>True) (lN a) R4 (Sd):=kO Tryz.func86 Tryz.ntmps86 [.tmp 2] 1 (fun co b m L=>fO co m L)
section
variable {α:Type} [Rw α] [Tid α]
abbrev FL:List α→AV:=fun y=>.tup []
@[reducible] def FP:List α→List Blk:=fun y=>[⟨0,true,.t (Tid.t α),Rw.s α,Ac Rw.e y⟩]
def GL(a:α→α→Option Int):Cl:=fun no l H θ=>(∀(z0:α) (b:α) y,a z0 b=some y→BH Tryz.prog l no H (θ 3) [.agg ((Rw.f z0).map .d),.agg ((Rw.f b).map .d)] (vI y))
def Qs(a:List α)(b:Int)(c:Int):Int×List α→St:=fun(e,d)=>Aa [(0,.ref (0,0) 0 0 a.length),(1,vI b),(2,vI c),(3,.fn (.yield 3) [] []),(8,vI e)] [((0,0),⟨0,true,.t (Tid.t α),Rw.s α,Ac Rw.e d⟩)]
def Qr:List α→Nat×St:=fun a=>(0,Aa [] [((0,0),⟨0,true,.t (Tid.t α),Rw.s α,Ac Rw.e a⟩)])
def Qm(a:List α)(b:Int)(c:Int)(e:Int):Int×List α→St:=fun(v3,d)=>Aa [(0,.ref (0,0) 0 0 a.length),(1,vI b),(2,vI c),(3,.fn (.yield 3) [] []),(8,vI e),(9,vI v3)] [((0,0),⟨0,true,.t (Tid.t α),Rw.s α,Ac Rw.e d⟩)]
def Qt(b:List α)(c:Int)(d:Int)(e:Int):List α→Nat×St:=fun a=>(2,Aa [(0,.ref (0,0) 0 0 b.length),(1,vI c),(2,vI d),(3,.fn (.yield 3) [] []),(8,vI e)] [((0,0),⟨0,true,.t (Tid.t α),Rw.s α,Ac Rw.e a⟩)])
def xc(c:List α)(b:Int)(i:Int)(f:α→α→Option Int)(j:Int)(v3:Int)(a:List α):PT 1 (Lv (Int×List α) (List α) (List α)):=vg (decide (b<v3)) (CM v3 c.length (Rw.s α))<|RI (decide (b<v3)) a v3.toNat fun g=>vg (decide (b<v3)) (wi (v3-1))<|vg (decide (b<v3)) (CM (v3-1) c.length (Rw.s α))<|RI (decide (b<v3)) a (v3-1).toNat fun h=>cfg (decide (b<v3)) Tryz.prog 3 [.agg ((Rw.f g).map .d),.agg ((Rw.f h).map .d)] (f g h) (fun y=>vI y) fun k=>br (decide (b<v3)&&decide (k<(0:Int))) (vs (wi (v3-1))<|vs (wi (v3-1))<|vs (CM (v3-1) c.length (Rw.s α))<|ca a (v3-1).toNat fun d=>vs (CM v3 c.length (Rw.s α))<|ca a v3.toNat fun e=>vs (CM v3 c.length (Rw.s α))<|vs (st a v3.toNat d)<|I7 0 ((Rw.f (d:α)).map .d) (fun _=>XS _)<|vs (CM (v3-1) c.length (Rw.s α))<|vs (st (a.set v3.toNat d) (v3-1).toNat e)<|I7 0 ((Rw.f (e:α)).map .d) (fun _=>XS _)<|vs (wi (v3-1))<|vz (fl ((a.set v3.toNat d).set (v3-1).toNat e))<|ln (Qm c b i j) ((v3-1),(a.set v3.toNat d).set (v3-1).toNat e)) (vz (fl a)<|Ah (Qt c b i j) a)
def QA(b:List α)(c:Int)(d:Int)(a:α→α→Option Int)(f:Int):Int×List α→Option (Lv (Int×List α) (List α) (List α)):=fun(v3,e)=>(xc b c d a f v3 e).m
def xo(c:List α)(d:Int)(e:Int)(b:Int)(a:List α):PT 1 (Lv (Int×List α) (List α) (List α)):=vs (wi (b+1))<|vz (fl a)<|ln (Qs c d e) ((b+1),a)
def xR(b:List α)(c:Int)(d:Int)(e:α→α→Option Int)(a:Int)(g:List α):PT 1 (Lv (Int×List α) (List α) (List α)):=vz (fl g)<|lc (Aa [(0,.ref (0,0) 0 0 b.length),(1,vI c),(2,vI d),(3,.fn (.yield 3) [] []),(8,vI a),(9,vI a)] [((0,0),⟨0,true,.t (Tid.t α),Rw.s α,Ac Rw.e g⟩)]) ((Al (QA b c d e a) Ai (a,g)).bind (Sum.elim (fun f=>(xo b c d a f).m) (fun z=>some (.rt z))))
def xr(e:List α)(f:Int)(b:Int)(c:α→α→Option Int)(d:Int)(a:List α):PT 1 (Lv (Int×List α) (List α) (List α)):=br (decide (d<b)) (vz (fl a)<|lc (Aa [(0,.ref (0,0) 0 0 e.length),(1,vI f),(2,vI b),(3,.fn (.yield 3) [] []),(8,vI d)] [((0,0),⟨0,true,.t (Tid.t α),Rw.s α,Ac Rw.e a⟩)]) ((xR e f b c d a).m)) (vz (fl a)<|Ah (Qr) a)
def QI(b:List α)(c:Int)(d:Int)(a:α→α→Option Int):Int×List α→Option (Lv (Int×List α) (List α) (List α)):=fun(f,e)=>(xr b c d a f e).m
def Qo(a:List α):PT 1 (List α):=lr FL (FP) a
def x9(a:List α)(b:Int)(e:Int)(c:α→α→Option Int):PT 1 (List α):=vs (wi (b+1))<|vz (fl a)<|lc (Aa [(0,.ref (0,0) 0 0 a.length),(1,vI b),(2,vI e),(3,.fn (.yield 3) [] []),(8,vI (b+1))] [((0,0),⟨0,true,.t (Tid.t α),Rw.s α,Ac Rw.e a⟩)]) ((Al (QI a b e c) Ai ((b+1),a)).bind (Sum.elim (fun d=>(Qo d).m) some))
def O8(b:List α)(c:Int)(d:Int)(a:α→α→Option Int):Option (List α):=(x9 b c d a).m
end
theorem ZtQ{C:Cx}(co:CO C 1)(b:List Slt)(c:Int)(d:Int)(a:Slt→Slt→Option Int)(e:Int)(i:(GL a) C.no C.l C.H0 C.θ):KL Tryz.prog (Aq tl) 53 C (pa [0,0,1,0,0,1,0,0,1] (Ar Tryz.f178)) [] 1 (Qm b c d e) (Qt b c d e) FL (FP) (QA b c d a e):=fun(v3,o) _ m Q f h L=>eN co (Ad [0,1,2,3,8,9] AO) (Ad [0,1,2,3,8] AO) h m L fun r g=>fun j=>fun k=>⟨⟨fun y hy=>i _ _ y hy,by intro r;kernel_rfl,by intro r y;kernel_rfl⟩,fun p=>⟨fun l=>fun n=>id,id⟩⟩
theorem ZrZ{C:Cx}(co:CO C 1)(c:List Slt)(d:Int)(e:Int)(a:Slt→Slt→Option Int)(h:(GL a) C.no C.l C.H0 C.θ):KL Tryz.prog (Aq tl) 53 C (pa [0,0,1] (Ar Tryz.f178)) [] 1 (Qs c d e) (Qr) FL (FP) (QI c d e a):=fun(j,k) _ m Q f b L=>mJ co 1 (Ad [0,1,2,3,8] AO) (Ad [] AO) b m L fun r g=>⟨fun _ m L=>sq (bk 1 (mJ co 1 (Ad [0,1,2,3,8,9] AO) nl b m L fun r g=>fun _ m L=>bk 2 (lo (I3 (ZtQ co c d e a j h) b m L (fun i m=>eN co (Ad [0,1,2,3,8] AO) nl b m L))))),id⟩
theorem zH(b:List Slt)(c:Int)(d:Int)(a:Slt→Slt→Option Int):KO Tryz.prog 178 1 [.ref (0,0) 0 0 b.length,vI c,vI d,.fn (.yield 3) [] []] [⟨0,true,51,8,Ac At b⟩] (GL a) (O8 b c d a) FL (FP):=kO Tryz.func178 Tryz.ntmps178 [] 1 (fun co f m L=>mJ co 1 (Ad [0,1,2,3,8] AO) nl nH m L fun r g=>fun _ m L=>bk 0 (lo (Az (ZrZ co b c d a f) nH m L (fun e m=>EJ (Qo e) co m L (fun r g=>id) r g))))
section
variable {α:Type} [Rw α] [Tid α]
abbrev FM:List α→AV:=fun y=>.tup []
@[reducible] def FN:List α→List Blk:=fun y=>[⟨0,true,.t (Tid.t α),Rw.s α,Ac Rw.e y⟩]
def GG(a:α→α→Option Int):Cl:=fun no l H θ=>(∀(z0:α) (b:α) y,a z0 b=some y→BH Tryz.prog l no H (θ 2) [.agg ((Rw.f z0).map .d),.agg ((Rw.f b).map .d)] (vI y))
def Xh(a:List α)(b:Int):Unit→St:=fun _=>Aa [(0,.ref (0,0) 0 0 a.length),(1,vI b),(2,.fn (.yield 2) [] []),(6,vI 20),(7,vI 0),(8,vI 20)] [((0,0),⟨0,true,.t (Tid.t α),Rw.s α,Ac Rw.e a⟩)]
def Qj(a:List α)(b:Int):Unit→Nat×St:=fun _=>(0,Aa [(0,.ref (0,0) 0 0 a.length),(1,vI b),(2,.fn (.yield 2) [] []),(6,vI 20),(7,vI 0)] [((0,0),⟨0,true,.t (Tid.t α),Rw.s α,Ac Rw.e a⟩)])
def wN(a:List α)(b:Int):PT 1 (Lv (Unit) (Unit) (List α)):=bF (decide ((20:Int)≤b))<|vz (fl a)<|Ah (Qj a b) ()
def Qv(a:List α)(b:Int)(c:α→α→Option Int):Unit→Option (Lv (Unit) (Unit) (List α)):=fun _=>(wN a b).m
def X5(a:Int)(b:List α):Unit→St:=fun _=>Aa [(1,vI a),(6,vI 20)] [((0,0),⟨0,true,.t (Tid.t α),Rw.s α,Ac Rw.e b⟩)]
def QE(a:List α):Unit→Nat×St:=fun _=>(2,Aa [] [((0,0),⟨0,true,.t (Tid.t α),Rw.s α,Ac Rw.e a⟩)])
def wW(b:Int)(a:List α):PT 1 (Lv (Unit) (Unit) (List α)):=bF (decide ((20:Int)<b))<|vz (fl a)<|Ah (QE a) ()
def QL(a:Int)(b:α→α→Option Int)(c:List α):Unit→Option (Lv (Unit) (Unit) (List α)):=fun _=>(wW a c).m
def QH(a:List α):PT 1 (List α):=lr FM (FN) a
def wC(c:Int)(b:α→α→Option Int)(a:List α):PT 1 (List α):=vz (fl a)<|lc (Aa [(1,vI c),(6,vI 20)] [((0,0),⟨0,true,.t (Tid.t α),Rw.s α,Ac Rw.e a⟩)]) ((Al (QL c b a) Ai ()).bind (Sum.elim (fun _=>(QH a).m) some))
def wL(b:List α)(c:Int)(a:α→α→Option Int):PT 1 (List α):=vz (fl b)<|lc (Aa [(1,vI c),(6,vI 20),(23,.ref (0,0) 0 0 b.length),(24,vI 0),(25,vI c),(26,.fn (.yield 2) [] [])] [((0,0),⟨0,true,.t (Tid.t α),Rw.s α,Ac Rw.e b⟩)]) ((O8 b 0 c a).bind fun d=>(wC c a d).m)
def xG(a:List α)(c:Int)(b:α→α→Option Int):PT 1 (List α):=vz (fl a)<|lc (Aa [(0,.ref (0,0) 0 0 a.length),(1,vI c),(2,.fn (.yield 2) [] []),(6,vI 20),(7,vI 0),(8,vI 20)] [((0,0),⟨0,true,.t (Tid.t α),Rw.s α,Ac Rw.e a⟩)]) ((Al (Qv a c b) Ai ()).bind (Sum.elim (fun _=>(wL a c b).m) some))
def Pe(b:List α)(c:Int)(a:α→α→Option Int):Option (List α):=(xG b c a).m
end
theorem Zs9{C:Cx}(co:CO C 1)(b:List Slt)(c:Int)(a:Slt→Slt→Option Int)(f:(GG a) C.no C.l C.H0 C.θ):KL Tryz.prog (Aq tl) 63 C (pa [0,0,0,1,1] (Ar Tryz.f139)) [] 1 (Xh b c) (Qj b c) FM (FN) (Qv b c a):=fun _ _ m Q d e L=>eN co nl (Ad [0,1,2,6,7] AO) e m L
theorem Zta{C:Cx}(co:CO C 1)(d:Int)(a:Slt→Slt→Option Int)(b:List Slt)(f:(GG a) C.no C.l C.H0 C.θ):KL Tryz.prog (Aq tl) 63 C (pa [0,0,1,1,1,1] (Ar Tryz.f139)) [] 1 (X5 d b) (QE b) FM (FN) (QL d a b):=fun _ _ m Q c e L=>eN co nl (Ad [] AO) e m L
theorem z7(b:List Slt)(c:Int)(a:Slt→Slt→Option Int):KO Tryz.prog 139 1 [.ref (0,0) 0 0 b.length,vI c,.fn (.yield 2) [] []] [⟨0,true,51,8,Ac At b⟩] (GG a) (Pe b c a) FM (FN):=Da Tryz.func139 Tryz.ntmps139 AG [] 1 (fun C co d y m e L=>mJ co 2 (Ad [0,1,2,6,7,8] AO) nl nH m L fun r g=>fun _ m L=>sq (bk 0 (lo (Az (Zs9 co b c a d) nH m L (fun _ m=>sq (rg (pR co 4 (Ad [1,6,23,24,25,26] AO) m L fun r g=>fun _ m L=>c6 (θ:=fun r=>AJ [(3,r.θ 2)]) (hΘ:=fun r g k l h=>(fun z0 j y i=>Fy co g _ h (d z0 j y i))) co m (zH b 0 c a) [((0,0),⟨0,true,51,8,Ac At b⟩)] [] (fun z=>.tup []) (fun z=>[((0,0),⟨0,true,51,8,Ac At z⟩)]) [] fun f m=>eR co (Ad [1,6] AO) m L fun r g=>fun _ m L=>bk 2 (lo (Az (Zta co c a f d) nH m L (fun _ m=>EJ (QH f) co m L (fun r g=>id) r g))))))))))
section
variable {α:Type} [Rw α] [Tid α]
abbrev NI:List α→AV:=fun y=>.tup []
@[reducible] def NK:List α→List Blk:=fun y=>[⟨0,true,.t (Tid.t α),Rw.s α,Ac Rw.e y⟩]
def Se(a:α→α→Option Int):Cl:=fun no l H θ=>(∀(z0:α) (b:α) y,a z0 b=some y→BH Tryz.prog l no H (θ 1) [.agg ((Rw.f z0).map .d),.agg ((Rw.f b).map .d)] (vI y))
def Rn(a:List α):PT 1 (List α):=lr NI (NK) a
def zA(a:List α):PT 1 (List α):=vz (fl a)<|lc (Aa [] [((0,0),⟨0,true,.t (Tid.t α),Rw.s α,Ac Rw.e a⟩)]) ((Rn a).m)
def zX(a:List α)(b:α→α→Option Int):PT 1 (List α):=vz (AR a.length)<|vz (fl a)<|lc (Aa [(4,.ref (0,0) 0 0 a.length),(6,vN a.length),(7,.fn (.yield 1) [] [])] [((0,0),⟨0,true,.t (Tid.t α),Rw.s α,Ac Rw.e a⟩)]) ((Pe a (a.length:Int) b).bind fun c=>(zA c).m)
def J4(b:List α)(a:α→α→Option Int):Option (List α):=(zX b a).m
end
theorem ZQu(b:List Slt)(a:Slt→Slt→Option Int):KO Tryz.prog 87 1 [.ref (0,0) 0 0 b.length,.fn (.yield 1) [] []] [⟨0,true,51,8,Ac At b⟩] (Se a) (J4 b a) NI (NK):=Da Tryz.func87 Tryz.ntmps87 AG [] 1 (fun C co d y m c L=>rg (pR co 4 (Ad [4,6,7] AO) m L fun r g=>fun _ m L=>c6 (θ:=fun r=>AJ [(2,r.θ 1)]) (hΘ:=fun r g j k e=>(fun z0 i y f=>Fy co g _ e (d z0 i y f))) co m (z7 b (b.length:Int) a) [((0,0),⟨0,true,51,8,Ac At b⟩)] [] (fun z=>.tup []) (fun z=>[((0,0),⟨0,true,51,8,Ac At z⟩)]) [] fun h m=>eR co (Ad [] AO) m L fun r g=>fun _ m L=>EJ (Rn h) co m L (fun r g=>id) r g))
abbrev au:Int→AV:=fun y=>vI y
def ZNm(a:Slt)(b:Slt):PT 0 (Int):=wg<|wg<|cl (LY a.num b.num) fun c=>lr au nG c
def Vv(a:Slt)(b:Slt):Option (Int):=(ZNm a b).m
theorem ZP5(a:Slt)(b:Slt):KC Tryz.prog 88 [.agg ((Bq a).map .d),.agg ((Bq b).map .d)] (Vv a b) au:=kC Tryz.func88 Tryz.ntmps88 [.tmp 4] fun co m L=>fO co m L
abbrev OB:List (Ab×Bool):=[((1,4),true),((1,8),true)]
abbrev FG:List (Ab×Bool):=[((1,8),true)]
abbrev LP(a:List Slt):Ab×Blk:=kk 8 51 8 (Ac At a)
abbrev RZ:List Slt→AV:=fun y=>vL At y
def Tb(a:List Slt):List Slt×Nat→St:=fun(b,v4)=>Aa [(3,.ref (1,8) 0 0 a.length),(4,.ref (1,4) 0 0 b.length),(11,.ref (1,8) 0 0 a.length),(12,vN a.length),(13,vN v4)] [kk 4 51 8 (Ac At b),(LP a)]
def bv:List Slt→Nat×St:=fun a=>(0,Aa [(4,.ref (1,4) 0 0 a.length)] [kk 4 51 8 (Ac At a)])
def ZMy(a:List Slt)(b:List Slt)(v4:Nat):PT 0 (Lv (List Slt×Nat) (List Slt) (List Slt)):=br (decide ((v4:Int)<(a.length:Int))) (vs (ir v4 a.length 8)<|ca a v4 fun c=>wg<|vs (wa v4 1)<|vz (AR a.length)<|wg<|vg (!(decide (((v4+1:Nat):Int)=(a.length:Int)))) (wa v4 1)<|vg (!(decide (((v4+1:Nat):Int)=(a.length:Int)))) (ir (v4+1) a.length 8)<|ui (!(decide (((v4+1:Nat):Int)=(a.length:Int)))) a (v4+1) 0 1 fun d=>br (decide (((v4+1:Nat):Int)=(a.length:Int))||(!decide (c.num=d.num))) (wg<|vw .sep<|ap b (c:Slt)<|vs (wa v4 1)<|vz (fl (b++[c]))<|vz (fl a)<|ln (Tb a) (b++[c],v4+1)) (vs (wa v4 1)<|vz (fl b)<|vz (fl a)<|ln (Tb a) (b,v4+1))) (vz (fl b)<|Ah (bv) b)
def dx(b:List Slt):List Slt×Nat→Option (Lv (List Slt×Nat) (List Slt) (List Slt)):=fun(a,v4)=>(ZMy b a v4).m
def yo(a:List Slt):PT 0 (List Slt):=vz (fr a)<|lr RZ nG a
def zc(a:List Slt):PT 0 (List Slt):=vw (.ads 4 4 51 8)<|vz (fl ([]:List Slt))<|vz (fl a)<|lc (Aa [(3,.ref (1,8) 0 0 a.length),(4,.ref (1,4) 0 0 ([]:List Slt).length),(11,.ref (1,8) 0 0 a.length),(12,vN a.length),(13,vI 0)] [kk 4 51 8 (Ac At ([]:List Slt)),(LP a)]) ((Al (dx a) Ai (([]:List Slt),0)).bind (Sum.elim (fun b=>(yo b).m) some))
def zx(a:List Slt):PT 0 (List Slt):=vz (AR a.length)<|vz (fl a)<|lc (Aa [(3,.ref (1,8) 0 0 a.length),(4,.e0),(11,.ref (1,8) 0 0 a.length),(12,vN a.length),(13,vI 0)] [(LP a)]) ((zc a).m)
def y5(a:List Slt):PT 0 (List Slt):=vz (fl a)<|lc (Aa [(3,.ref (1,8) 0 0 a.length),(4,.e0)] [(LP a)]) ((zx a).m)
def ZN0(b:List Slt)(a:List Slt):PT 0 (List Slt):=rn 3 8 b.length a<|vz (fl a)<|lc (Aa [(3,.ref (1,8) 0 0 a.length)] [(LP a)]) ((y5 a).m)
def ZN5(a:List Slt):PT 0 (List Slt):=vz (fl a)<|lc (Aa [(3,.ref (1,8) 0 0 a.length),(9,.ref (1,8) 0 0 a.length)] [kk 8 51 8 (Ac At a)]) ((J4 a (fun(z0:Slt) (c:Slt)=>Vv z0 c)).bind fun b=>(ZN0 a b).m)
def zu(a:List Slt):PT 0 (List Slt):=vz (fl a)<|lc (Aa [(3,.ref (1,8) 0 0 a.length)] [kk 8 51 8 (Ac At a)]) ((ZN5 a).m)
def ZOb(a:List Slt):PT 0 (List Slt):=lc (Aa [(7,vL At a)] []) ((lN a).bind fun b=>(zu b).m)
def ya(a:List Slt):PT 0 (List Slt):=lc (Aa [(0,vL At a)] []) ((ZOb a).m)
def ZiF(a:List Slt):Option (List Slt):=(ya a).m
theorem Zym{C:Cx}(co:CO C 0)(b:List Slt):KL Tryz.prog (Aq tl) 40 C (pa [0,0,1,0,1,1,1,1] (Ar Tryz.f36)) [.tmp 2] 0 (Tb b) (bv) RZ nG (dx b):=fun(d,v4) _ m Q a c L=>eN co (Ad [3,4,11,12,13] OB) (Ad [4] [((1,4),true)]) c m L
theorem ZQV(a:List Slt):KC Tryz.prog 36 [vL At a] (ZiF a) RZ:=Ci Tryz.func36 Tryz.ntmps36 AG [.tmp 2] fun C co y m c L=>mJ co 1 (AI [0]) nl nH m L fun r g=>fun _ m L=>sq (rg (pR co 1 (AI [7]) m L fun r g=>fun _ m L=>c6 co m (ZQN a) [((1,8),⟨0,false,0,0,[]⟩)] [] (fun z=>.ref (1,8) 1 0 z.length) (fun z=>[((1,8),⟨1,true,51,8,Ac At z⟩)]) [] fun d m=>eR co (Ad [3] FG) m L fun r g=>fun _ m L=>sq (rg (pR co 1 (Ad [3,9] FG) m L fun r g=>fun _ m L=>c6 (θ:=fun _=>AJ [(1,.fn (.func 88) [] [])]) (hΘ:=fun r g h i j=>(fun z0 b y e=>Hs (ZP5 z0 b) e)) co m (ZQu d (fun(z0:Slt) (b:Slt)=>Vv z0 b)) [kk 8 51 8 (Ac At d)] [] (fun z=>.tup []) (fun z=>[kk 8 51 8 (Ac At z)]) [] fun f m=>eR co (Ad [3] FG) m L fun r g=>fun _ m L=>mJ co 1 (Ad [3,4] FG) nl nH m L fun r g=>fun _ m L=>sq (mJ co 1 (Ad [3,4,11,12,13] FG) nl nH m L fun r g=>fun _ m L=>bk 0 (cM co (Ad [3,4,11,12,13] OB) m L fun r g=>fun _ m L=>lo (Az (Zym co f) nH m L (fun k m=>fO co m L))))))))
abbrev R7:Val→AV:=fun y=>.agg ((Ae y).map .d)
def zT(a:Val):PT 0 (Val):=wg<|wg<|Aw (decide (a.kind=(6:Int))) (cu a.bits) fun b=>br (decide (a.kind=(6:Int))&&decide (b=(0:Int))) (wg<|wg<|wg<|lr R7 nG (.mk a.kind 9221120237041090560 a.text a.list a.pairs a.slots a.raws:Val)) (wg<|wg<|lr R7 nG a)
def ZiH(a:Val):Option (Val):=(zT a).m
theorem JS(a:Val):KC Tryz.prog 93 [.agg ((Ae a).map .d)] (ZiH a) R7:=kC Tryz.func93 Tryz.ntmps93 [.cell 2 33] fun co m L=>fO co m L
abbrev UA:List Pr→AV:=fun y=>.ref (0,0) 1 0 y.length
@[reducible] def Tj:List Pr→List Blk:=fun y=>[⟨1,true,57,14,Ac Ay y⟩]
def xn(a:List Pr):PT 1 (List Pr):=al Ay a false fun b=>br b (vw .sep<|vw (.ads 2 2 57 14)<|mv 2 0 ([]:List Pr)<|lr UA (Tj) ([]:List Pr)) (a0 a<|mv 7 0 a<|lr UA (Tj) a)
def lI(a:List Pr):Option (List Pr):=(xn a).m
theorem y2(a:List Pr):KO Tryz.prog 140 1 [vL Ay a] [⟨0,false,0,0,[]⟩] (fun _ _ _ _=>True) (lI a) UA (Tj):=kO Tryz.func140 Tryz.ntmps140 [.tmp 2] 1 (fun co b m L=>fO co m L)
theorem ZrS{C:Cx}(co:CO C 1)(b:List Pr)(c:Int)(d:Int)(a:Pr→Pr→Option Int)(e:Int)(i:(GL a) C.no C.l C.H0 C.θ):KL Tryz.prog (Aq tl) 53 C (pa [0,0,1,0,0,1,0,0,1] (Ar Tryz.f209)) [] 1 (Qm b c d e) (Qt b c d e) FL (FP) (QA b c d a e):=fun(v3,o) _ m Q f h L=>eN co (Ad [0,1,2,3,8,9] AO) (Ad [0,1,2,3,8] AO) h m L fun r g=>fun j=>fun k=>⟨⟨fun y hy=>i _ _ y hy,by intro r;kernel_rfl,by intro r y;kernel_rfl⟩,fun p=>⟨fun l=>fun n=>id,id⟩⟩
theorem ZtE{C:Cx}(co:CO C 1)(c:List Pr)(d:Int)(e:Int)(a:Pr→Pr→Option Int)(h:(GL a) C.no C.l C.H0 C.θ):KL Tryz.prog (Aq tl) 53 C (pa [0,0,1] (Ar Tryz.f209)) [] 1 (Qs c d e) (Qr) FL (FP) (QI c d e a):=fun(j,k) _ m Q f b L=>mJ co 1 (Ad [0,1,2,3,8] AO) (Ad [] AO) b m L fun r g=>⟨fun _ m L=>sq (bk 1 (mJ co 1 (Ad [0,1,2,3,8,9] AO) nl b m L fun r g=>fun _ m L=>bk 2 (lo (I3 (ZrS co c d e a j h) b m L (fun i m=>eN co (Ad [0,1,2,3,8] AO) nl b m L))))),id⟩
theorem yU(b:List Pr)(c:Int)(d:Int)(a:Pr→Pr→Option Int):KO Tryz.prog 209 1 [.ref (0,0) 0 0 b.length,vI c,vI d,.fn (.yield 3) [] []] [⟨0,true,57,14,Ac Ay b⟩] (GL a) (O8 b c d a) FL (FP):=kO Tryz.func209 Tryz.ntmps209 [] 1 (fun co f m L=>mJ co 1 (Ad [0,1,2,3,8] AO) nl nH m L fun r g=>fun _ m L=>bk 0 (lo (Az (ZtE co b c d a f) nH m L (fun e m=>EJ (Qo e) co m L (fun r g=>id) r g))))
theorem ZtI{C:Cx}(co:CO C 1)(b:List Pr)(c:Int)(a:Pr→Pr→Option Int)(f:(GG a) C.no C.l C.H0 C.θ):KL Tryz.prog (Aq tl) 63 C (pa [0,0,0,1,1] (Ar Tryz.f180)) [] 1 (Xh b c) (Qj b c) FM (FN) (Qv b c a):=fun _ _ m Q d e L=>eN co nl (Ad [0,1,2,6,7] AO) e m L
theorem Zrf{C:Cx}(co:CO C 1)(d:Int)(a:Pr→Pr→Option Int)(b:List Pr)(f:(GG a) C.no C.l C.H0 C.θ):KL Tryz.prog (Aq tl) 63 C (pa [0,0,1,1,1,1] (Ar Tryz.f180)) [] 1 (X5 d b) (QE b) FM (FN) (QL d a b):=fun _ _ m Q c e L=>eN co nl (Ad [] AO) e m L
theorem yF(b:List Pr)(c:Int)(a:Pr→Pr→Option Int):KO Tryz.prog 180 1 [.ref (0,0) 0 0 b.length,vI c,.fn (.yield 2) [] []] [⟨0,true,57,14,Ac Ay b⟩] (GG a) (Pe b c a) FM (FN):=Da Tryz.func180 Tryz.ntmps180 AG [] 1 (fun C co d y m e L=>mJ co 2 (Ad [0,1,2,6,7,8] AO) nl nH m L fun r g=>fun _ m L=>sq (bk 0 (lo (Az (ZtI co b c a d) nH m L (fun _ m=>sq (rg (pR co 4 (Ad [1,6,23,24,25,26] AO) m L fun r g=>fun _ m L=>c6 (θ:=fun r=>AJ [(3,r.θ 2)]) (hΘ:=fun r g k l h=>(fun z0 j y i=>Fy co g _ h (d z0 j y i))) co m (yU b 0 c a) [((0,0),⟨0,true,57,14,Ac Ay b⟩)] [] (fun z=>.tup []) (fun z=>[((0,0),⟨0,true,57,14,Ac Ay z⟩)]) [] fun f m=>eR co (Ad [1,6] AO) m L fun r g=>fun _ m L=>bk 2 (lo (Az (Zrf co c a f d) nH m L (fun _ m=>EJ (QH f) co m L (fun r g=>id) r g))))))))))
theorem zC(b:List Pr)(a:Pr→Pr→Option Int):KO Tryz.prog 141 1 [.ref (0,0) 0 0 b.length,.fn (.yield 1) [] []] [⟨0,true,57,14,Ac Ay b⟩] (Se a) (J4 b a) NI (NK):=Da Tryz.func141 Tryz.ntmps141 AG [] 1 (fun C co d y m c L=>rg (pR co 4 (Ad [4,6,7] AO) m L fun r g=>fun _ m L=>c6 (θ:=fun r=>AJ [(2,r.θ 1)]) (hΘ:=fun r g j k e=>(fun z0 i y f=>Fy co g _ e (d z0 i y f))) co m (yF b (b.length:Int) a) [((0,0),⟨0,true,57,14,Ac Ay b⟩)] [] (fun z=>.tup []) (fun z=>[((0,0),⟨0,true,57,14,Ac Ay z⟩)]) [] fun h m=>eR co (Ad [] AO) m L fun r g=>fun _ m L=>EJ (Rn h) co m L (fun r g=>id) r g))
abbrev j5:Int→AV:=fun y=>vI y
def xJ(a:Pr)(b:Pr):PT 0 (Int):=wg<|wg<|cl (ff a.key b.key) fun c=>lr j5 nG c
def Vy(a:Pr)(b:Pr):Option (Int):=(xJ a b).m
theorem zW(a:Pr)(b:Pr):KC Tryz.prog 142 [.agg ((Cg a).map .d),.agg ((Cg b).map .d)] (Vy a b) j5:=kC Tryz.func142 Tryz.ntmps142 [.tmp 4] fun co m L=>fO co m L
abbrev LC(a:List Pr):Ab×Blk:=kk 8 57 14 (Ac Ay a)
abbrev R6:List Pr→AV:=fun y=>vL Ay y
def Zu(a:List Pr):List Pr×Nat→St:=fun(b,v4)=>Aa [(3,.ref (1,8) 0 0 a.length),(4,.ref (1,4) 0 0 b.length),(11,.ref (1,8) 0 0 a.length),(12,vN a.length),(13,vN v4)] [kk 4 57 14 (Ac Ay b),(LC a)]
def bP:List Pr→Nat×St:=fun a=>(0,Aa [(4,.ref (1,4) 0 0 a.length)] [kk 4 57 14 (Ac Ay a)])
def y0(a:List Pr)(b:List Pr)(v4:Nat):PT 0 (Lv (List Pr×Nat) (List Pr) (List Pr)):=br (decide ((v4:Int)<(a.length:Int))) (vs (ir v4 a.length 14)<|ca a v4 fun c=>wg<|vs (wa v4 1)<|vz (AR a.length)<|wg<|vg (!(decide (((v4+1:Nat):Int)=(a.length:Int)))) (wa v4 1)<|vg (!(decide (((v4+1:Nat):Int)=(a.length:Int)))) (ir (v4+1) a.length 14)<|ui (!(decide (((v4+1:Nat):Int)=(a.length:Int)))) a (v4+1) 0 7 fun d=>Aw (!(decide (((v4+1:Nat):Int)=(a.length:Int)))) (fg c.key d.key) fun e=>br (decide (((v4+1:Nat):Int)=(a.length:Int))||(!e)) (wg<|vw .sep<|ap b (c:Pr)<|vs (wa v4 1)<|vz (fl (b++[c]))<|vz (fl a)<|ln (Zu a) (b++[c],v4+1)) (vs (wa v4 1)<|vz (fl b)<|vz (fl a)<|ln (Zu a) (b,v4+1))) (vz (fl b)<|Ah (bP) b)
def fw(b:List Pr):List Pr×Nat→Option (Lv (List Pr×Nat) (List Pr) (List Pr)):=fun(a,v4)=>(y0 b a v4).m
def yH(a:List Pr):PT 0 (List Pr):=vz (fr a)<|lr R6 nG a
def ZMw(a:List Pr):PT 0 (List Pr):=vw (.ads 4 4 57 14)<|vz (fl ([]:List Pr))<|vz (fl a)<|lc (Aa [(3,.ref (1,8) 0 0 a.length),(4,.ref (1,4) 0 0 ([]:List Pr).length),(11,.ref (1,8) 0 0 a.length),(12,vN a.length),(13,vI 0)] [kk 4 57 14 (Ac Ay ([]:List Pr)),(LC a)]) ((Al (fw a) Ai (([]:List Pr),0)).bind (Sum.elim (fun b=>(yH b).m) some))
def y1(a:List Pr):PT 0 (List Pr):=vz (AR a.length)<|vz (fl a)<|lc (Aa [(3,.ref (1,8) 0 0 a.length),(4,.e0),(11,.ref (1,8) 0 0 a.length),(12,vN a.length),(13,vI 0)] [(LC a)]) ((ZMw a).m)
def ZNA(a:List Pr):PT 0 (List Pr):=vz (fl a)<|lc (Aa [(3,.ref (1,8) 0 0 a.length),(4,.e0)] [(LC a)]) ((y1 a).m)
def yE(b:List Pr)(a:List Pr):PT 0 (List Pr):=rn 3 8 b.length a<|vz (fl a)<|lc (Aa [(3,.ref (1,8) 0 0 a.length)] [(LC a)]) ((ZNA a).m)
def yz(a:List Pr):PT 0 (List Pr):=vz (fl a)<|lc (Aa [(3,.ref (1,8) 0 0 a.length),(9,.ref (1,8) 0 0 a.length)] [kk 8 57 14 (Ac Ay a)]) ((J4 a (fun(z0:Pr) (c:Pr)=>Vy z0 c)).bind fun b=>(yE a b).m)
def zh(a:List Pr):PT 0 (List Pr):=vz (fl a)<|lc (Aa [(3,.ref (1,8) 0 0 a.length)] [kk 8 57 14 (Ac Ay a)]) ((yz a).m)
def yN(a:List Pr):PT 0 (List Pr):=lc (Aa [(7,vL Ay a)] []) ((lI a).bind fun b=>(zh b).m)
def wU(a:List Pr):PT 0 (List Pr):=lc (Aa [(0,vL Ay a)] []) ((yN a).m)
def ZiE(a:List Pr):Option (List Pr):=(wU a).m
theorem vR{C:Cx}(co:CO C 0)(b:List Pr):KL Tryz.prog (Aq tl) 41 C (pa [0,0,1,0,1,1,1,1] (Ar Tryz.f92)) [.tmp 2] 0 (Zu b) (bP) R6 nG (fw b):=fun(d,v4) _ m Q a c L=>eN co (Ad [3,4,11,12,13] OB) (Ad [4] [((1,4),true)]) c m L
theorem ZQS(a:List Pr):KC Tryz.prog 92 [vL Ay a] (ZiE a) R6:=Ci Tryz.func92 Tryz.ntmps92 AG [.tmp 2] fun C co y m c L=>mJ co 1 (AI [0]) nl nH m L fun r g=>fun _ m L=>sq (rg (pR co 1 (AI [7]) m L fun r g=>fun _ m L=>c6 co m (y2 a) [((1,8),⟨0,false,0,0,[]⟩)] [] (fun z=>.ref (1,8) 1 0 z.length) (fun z=>[((1,8),⟨1,true,57,14,Ac Ay z⟩)]) [] fun d m=>eR co (Ad [3] FG) m L fun r g=>fun _ m L=>sq (rg (pR co 1 (Ad [3,9] FG) m L fun r g=>fun _ m L=>c6 (θ:=fun _=>AJ [(1,.fn (.func 142) [] [])]) (hΘ:=fun r g h i j=>(fun z0 b y e=>Hs (zW z0 b) e)) co m (zC d (fun(z0:Pr) (b:Pr)=>Vy z0 b)) [kk 8 57 14 (Ac Ay d)] [] (fun z=>.tup []) (fun z=>[kk 8 57 14 (Ac Ay z)]) [] fun f m=>eR co (Ad [3] FG) m L fun r g=>fun _ m L=>mJ co 1 (Ad [3,4] FG) nl nH m L fun r g=>fun _ m L=>sq (mJ co 1 (Ad [3,4,11,12,13] FG) nl nH m L fun r g=>fun _ m L=>bk 0 (cM co (Ad [3,4,11,12,13] OB) m L fun r g=>fun _ m L=>lo (Az (vR co f) nH m L (fun k m=>fO co m L))))))))
abbrev ax:Bool→AV:=fun y=>vB y
def ZNs(a:Val):PT 0 (Bool):=wg<|cl (Ob a.kind) fun b=>wg<|Aw b (db a) fun c=>wg<|wg<|lr ax nG (((b&&c)&&decide (a.bits=(0:Int)))&&decide (a.text=(⟨#[]⟩:ByteArray)))
def Zhc(a:Val):Option (Bool):=(ZNs a).m
theorem ZQ2(a:Val):KC Tryz.prog 94 [.agg ((Ae a).map .d)] (Zhc a) ax:=kC Tryz.func94 Tryz.ntmps94 [.tmp 2] fun co m L=>fO co m L
theorem ZrG{C:Cx}(co:CO C 1)(b:List Raw)(c:Int)(d:Int)(a:Raw→Raw→Option Int)(e:Int)(i:(GL a) C.no C.l C.H0 C.θ):KL Tryz.prog (Aq tl) 53 C (pa [0,0,1,0,0,1,0,0,1] (Ar Tryz.f146)) [] 1 (Qm b c d e) (Qt b c d e) FL (FP) (QA b c d a e):=fun(v3,o) _ m Q f h L=>eN co (Ad [0,1,2,3,8,9] AO) (Ad [0,1,2,3,8] AO) h m L fun r g=>fun j=>fun k=>⟨⟨fun y hy=>i _ _ y hy,by intro r;kernel_rfl,by intro r y;kernel_rfl⟩,fun p=>⟨fun l=>fun n=>id,id⟩⟩
theorem Zsc{C:Cx}(co:CO C 1)(c:List Raw)(d:Int)(e:Int)(a:Raw→Raw→Option Int)(h:(GL a) C.no C.l C.H0 C.θ):KL Tryz.prog (Aq tl) 53 C (pa [0,0,1] (Ar Tryz.f146)) [] 1 (Qs c d e) (Qr) FL (FP) (QI c d e a):=fun(j,k) _ m Q f b L=>mJ co 1 (Ad [0,1,2,3,8] AO) (Ad [] AO) b m L fun r g=>⟨fun _ m L=>sq (bk 1 (mJ co 1 (Ad [0,1,2,3,8,9] AO) nl b m L fun r g=>fun _ m L=>bk 2 (lo (I3 (ZrG co c d e a j h) b m L (fun i m=>eN co (Ad [0,1,2,3,8] AO) nl b m L))))),id⟩
theorem yR(b:List Raw)(c:Int)(d:Int)(a:Raw→Raw→Option Int):KO Tryz.prog 146 1 [.ref (0,0) 0 0 b.length,vI c,vI d,.fn (.yield 3) [] []] [⟨0,true,89,4,Ac A4 b⟩] (GL a) (O8 b c d a) FL (FP):=kO Tryz.func146 Tryz.ntmps146 [] 1 (fun co f m L=>mJ co 1 (Ad [0,1,2,3,8] AO) nl nH m L fun r g=>fun _ m L=>bk 0 (lo (Az (Zsc co b c d a f) nH m L (fun e m=>EJ (Qo e) co m L (fun r g=>id) r g))))
theorem ZzA{C:Cx}(co:CO C 1)(b:List Raw)(c:Int)(a:Raw→Raw→Option Int)(f:(GG a) C.no C.l C.H0 C.θ):KL Tryz.prog (Aq tl) 63 C (pa [0,0,0,1,1] (Ar Tryz.f95)) [] 1 (Xh b c) (Qj b c) FM (FN) (Qv b c a):=fun _ _ m Q d e L=>eN co nl (Ad [0,1,2,6,7] AO) e m L
theorem Zzv{C:Cx}(co:CO C 1)(d:Int)(a:Raw→Raw→Option Int)(b:List Raw)(f:(GG a) C.no C.l C.H0 C.θ):KL Tryz.prog (Aq tl) 63 C (pa [0,0,1,1,1,1] (Ar Tryz.f95)) [] 1 (X5 d b) (QE b) FM (FN) (QL d a b):=fun _ _ m Q c e L=>eN co nl (Ad [] AO) e m L
theorem ZQv(b:List Raw)(c:Int)(a:Raw→Raw→Option Int):KO Tryz.prog 95 1 [.ref (0,0) 0 0 b.length,vI c,.fn (.yield 2) [] []] [⟨0,true,89,4,Ac A4 b⟩] (GG a) (Pe b c a) FM (FN):=Da Tryz.func95 Tryz.ntmps95 AG [] 1 (fun C co d y m e L=>mJ co 2 (Ad [0,1,2,6,7,8] AO) nl nH m L fun r g=>fun _ m L=>sq (bk 0 (lo (Az (ZzA co b c a d) nH m L (fun _ m=>sq (rg (pR co 4 (Ad [1,6,23,24,25,26] AO) m L fun r g=>fun _ m L=>c6 (θ:=fun r=>AJ [(3,r.θ 2)]) (hΘ:=fun r g k l h=>(fun z0 j y i=>Fy co g _ h (d z0 j y i))) co m (yR b 0 c a) [((0,0),⟨0,true,89,4,Ac A4 b⟩)] [] (fun z=>.tup []) (fun z=>[((0,0),⟨0,true,89,4,Ac A4 z⟩)]) [] fun f m=>eR co (Ad [1,6] AO) m L fun r g=>fun _ m L=>bk 2 (lo (Az (Zzv co c a f d) nH m L (fun _ m=>EJ (QH f) co m L (fun r g=>id) r g))))))))))
theorem ZQs(b:List Raw)(a:Raw→Raw→Option Int):KO Tryz.prog 39 1 [.ref (0,0) 0 0 b.length,.fn (.yield 1) [] []] [⟨0,true,89,4,Ac A4 b⟩] (Se a) (J4 b a) NI (NK):=Da Tryz.func39 Tryz.ntmps39 AG [] 1 (fun C co d y m c L=>rg (pR co 4 (Ad [4,6,7] AO) m L fun r g=>fun _ m L=>c6 (θ:=fun r=>AJ [(2,r.θ 1)]) (hΘ:=fun r g j k e=>(fun z0 i y f=>Fy co g _ e (d z0 i y f))) co m (ZQv b (b.length:Int) a) [((0,0),⟨0,true,89,4,Ac A4 b⟩)] [] (fun z=>.tup []) (fun z=>[((0,0),⟨0,true,89,4,Ac A4 z⟩)]) [] fun h m=>eR co (Ad [] AO) m L fun r g=>fun _ m L=>EJ (Rn h) co m L (fun r g=>id) r g))
abbrev Z7:Int→AV:=fun y=>vI y
def yr(a:Raw)(b:Raw):PT 0 (Int):=wg<|wg<|cl (LY a.num b.num) fun c=>lr Z7 nG c
def Vo(a:Raw)(b:Raw):Option (Int):=(yr a b).m
theorem ZRe(a:Raw)(b:Raw):KC Tryz.prog 40 [.agg ((A4 a).map .d),.agg ((A4 b).map .d)] (Vo a b) Z7:=kC Tryz.func40 Tryz.ntmps40 [.tmp 4] fun co m L=>fO co m L
abbrev DV:Val×Bool→AV:=fun y=>.tup [.agg ((Ae y.1).map .d),vB y.2]
abbrev jw:List (Ab×Bool):=[((1,3),false),((1,6),false),((1,7),false),((1,9),false),((1,24),true),((1,1095),true)]
abbrev Ur:List (Ab×Bool):=[((1,6),false),((1,9),false),((1,24),true),((1,1095),true)]
abbrev GM:Ab×Blk:=kk 6 33 7 [vI 0,.d (.int .u64 0),vS ⟨#[]⟩,.e0,.e0,.e0,.e0]
abbrev IS(a:List Raw):Ab×Blk:=kk 24 89 4 (Ac A4 a)
abbrev JI(a:Scm):Ab×Blk:=kk 3 26 3 (cD (Ak a))
abbrev JO(a:Msg×Bool):Ab×Blk:=kk 7 47 5 (cD (Au a.1))
abbrev Ty(a:List Slt)(b:List Raw):Ab×Blk:=kk 9 33 7 [vI 10,.d (.int .u64 0),vS ⟨#[]⟩,.e0,.e0,.ref (1,1095) 0 0 a.length,.ref (1,24) 0 0 b.length]
abbrev Uj(a:Val):Ab×Blk:=kk 5 33 7 (cD (Ae a))
abbrev kn(a:List Raw):Ab×Blk:=kk 9 33 7 [vI 10,.d (.int .u64 0),vS ⟨#[]⟩,.e0,.e0,.e0,.ref (1,24) 0 0 a.length]
abbrev RV:Val→AV:=fun y=>.agg ((Ae y).map .d)
def Zp(d:Scm)(e:Msg×Bool)(b:List Raw)(c:List Slt):Nat×List Slt→St:=fun(v4,a)=>Aa [pp 3,pp 6,pp 7,pp 9,(28,vL At c),(29,vN c.length),(30,vN v4)] [(JI d),GM,(JO e),kk 9 33 7 [vI 10,.d (.int .u64 0),vS ⟨#[]⟩,.e0,.e0,.ref (1,1095) 0 0 a.length,.ref (1,24) 0 0 b.length],(IS b),kk 1095 51 8 (Ac At a)]
def eE(b:List Raw):List Slt→Nat×St:=fun a=>(0,Aa [pp 6,pp 9] [GM,(Ty a b),(IS b),kk 1095 51 8 (Ac At a)])
def y8(d:Scm)(g:Scm→Fld→Val→Option (Val×Bool))(h:Msg×Bool)(c:List Raw)(e:List Slt)(v4:Nat)(a:List Slt):PT 0 (Lv (Nat×List Slt) (List Slt) (Val)):=br (decide ((v4:Int)<(e.length:Int))) (ix e v4 fun b=>wg<|wg<|wg<|cl (Uy h.1 b.num) fun i=>wg<|wg<|wg<|wg<|cs Tryz.prog 38 [.agg ((Ak d).map .d),.agg ((Am i.1).map .d),.agg ((Ae b.val).map .d)] [] [] (g d i.1 b.val) (fun y=>.tup [.agg ((Ae y.1).map .d),vB y.2]) fun f=>wg<|br f.2 (wg<|wg<|wg<|vw .sep<|ap a ((.mk b.num f.1:Slt):Slt)<|wg<|vs (wa v4 1)<|vz (fl c)<|vz (fl (a++([(.mk b.num f.1:Slt)])))<|ln (Zp d h c e) (v4+1,a++([(.mk b.num f.1:Slt)]))) (vs (wa v4 1)<|vz (fl c)<|vz (fl a)<|ln (Zp d h c e) (v4+1,a))) (vz (fl c)<|vz (fl a)<|Ah (eE c) a)
def dH(b:Scm)(a:Scm→Fld→Val→Option (Val×Bool))(d:Msg×Bool)(e:List Raw)(f:List Slt):Nat×List Slt→Option (Lv (Nat×List Slt) (List Slt) (Val)):=fun(v4,c)=>(y8 b a d e f v4 c).m
def zk(c:List Raw)(b:List Slt)(a:List Raw):PT 0 (Val):=wg<|wg<|vz (fr b)<|vs (HX c.length a)<|lr RV nG (.mk 10 0 ⟨#[]⟩ [] [] b a:Val)
def yf(c:List Raw)(b:List Slt)(a:List Raw):PT 0 (Val):=vz (fl a)<|vz (fl b)<|lc (Aa [pp 6,pp 9] [GM,(Ty b c),kk 24 89 4 (Ac A4 a),kk 1095 51 8 (Ac At b)]) ((zk c b a).m)
def ZNW(a:List Raw)(b:List Slt):PT 0 (Val):=wg<|vz (fl a)<|vz (fl b)<|lc (Aa [pp 6,pp 9,(61,.ref (1,24) 0 0 a.length)] [GM,(Ty b a),(IS a),kk 1095 51 8 (Ac At b)]) ((J4 a (fun(z0:Raw) (d:Raw)=>Vo z0 d)).bind fun c=>(yf a b c).m)
def yl(d:Scm)(b:Scm→Fld→Val→Option (Val×Bool))(e:Msg×Bool)(a:List Raw)(c:List Slt):PT 0 (Val):=vw (.adc (1,9) 5 1095 51 8)<|vz (fl a)<|vz (fl ([]:List Slt))<|lc (Aa [pp 3,pp 6,pp 7,pp 9,(28,vL At c),(29,vN c.length),(30,vI 0)] [(JI d),GM,(JO e),kk 9 33 7 [vI 10,.d (.int .u64 0),vS ⟨#[]⟩,.e0,.e0,.ref (1,1095) 0 0 ([]:List Slt).length,.ref (1,24) 0 0 a.length],(IS a),kk 1095 51 8 (Ac At ([]:List Slt))]) ((Al (dH d b e a c) Ai (0,([]:List Slt))).bind (Sum.elim (fun f=>(ZNW a f).m) some))
def zj(d:Scm)(f:Val)(c:Scm→Fld→Val→Option (Val×Bool))(e:Msg×Bool)(a:List Raw):PT 0 (Val):=wg<|cl (ZQV f.slots) fun b=>vz (Ag b)<|vz (fl a)<|lc (Aa [pp 3,pp 6,pp 7,pp 9,(28,vL At b),(29,vN b.length),(30,vI 0)] [(JI d),GM,(JO e),(kn a),(IS a)]) ((yl d c e a b).m)
def yJ(c:Scm)(d:Val)(b:Scm→Fld→Val→Option (Val×Bool))(e:Msg×Bool)(a:List Raw):PT 0 (Val):=wg<|vz (fl a)<|lc (Aa [pp 3,pp 5,pp 6,pp 7,pp 9] [(JI c),(Uj d),GM,(JO e),(kn a),(IS a)]) ((zj c d b e a).m)
def zo(c:Scm)(a:Val)(b:Scm→Fld→Val→Option (Val×Bool))(d:Msg×Bool):PT 0 (Val):=wg<|lc (Aa [pp 3,pp 5,pp 6,pp 7,(23,vL A4 a.raws)] [(JI c),(Uj a),GM,(JO d)]) ((mc a.raws).bind fun e=>(yJ c a b d e).m)
def yq(b:Scm)(e:ByteArray)(c:Val)(a:Scm→Fld→Val→Option (Val×Bool)):PT 0 (Val):=wg<|cl (TC b e) fun d=>wg<|lc (Aa [pp 3,pp 5,pp 6,pp 7] [(JI b),(Uj c),GM,(JO d)]) ((zo b c a d).m)
def lQ(a:Scm→Fld→Val→Option (Val×Bool))(b:Scm)(c:ByteArray)(d:Val):Option (Val):=(yq b c d a).m
theorem Zy1{C:Cx}(co:CO C 0)(a:Scm)(b:Scm→Fld→Val→Option (Val×Bool))(k:Msg×Bool)(e:List Raw)(l:List Slt)(d:∀(a:Scm) (i:Fld) (j:Val),KC Tryz.prog 38 [.agg ((Ak a).map .d),.agg ((Am i).map .d),.agg ((Ae j).map .d)] (b a i j) DV):KL Tryz.prog (Aq tl) 64 C (pa [0,0,1,0,1,1,1] (Ar Tryz.f15)) [.cell 6 33] 0 (Zp a k e l) (eE e) RV nG (dH a b k e l):=fun(v4,p) _ m Q h o L=>eN co (Ad [3,6,7,9,28,29,30] jw) (Ad [6,9] Ur) o m L fun r g=>⟨fun c=>fun f=>⟨fun y hy n _ _=>by rw[(d a f.1 c.val).x,(d a f.1 c.val).e];exact(d a f.1 c.val).k _ n y hy,fun q=>⟨id,id⟩⟩,id⟩
theorem Ly(a:Scm→Fld→Val→Option (Val×Bool))(i:∀(b:Scm) (d:Fld) (c:Val),KC Tryz.prog 38 [.agg ((Ak b).map .d),.agg ((Am d).map .d),.agg ((Ae c).map .d)] (a b d c) DV)(b:Scm)(d:ByteArray)(c:Val):KC Tryz.prog 15 [.agg ((Ak b).map .d),vS d,.agg ((Ae c).map .d)] (lQ a b d c) RV:=Ci Tryz.func15 Tryz.ntmps15 AG [.cell 6 33] fun C co y m h L=>mJ co 2 (Ad [3,5,6,7] [((1,3),false),((1,5),false),((1,6),false),((1,7),false)]) nl nH m L fun r g=>fun k=>fun _ m L=>sq (rg (pR co 2 (Ad [3,5,6,7,23] [((1,3),false),((1,5),false),((1,6),false),((1,7),false)]) m L fun r g=>fun _ m L=>c6 co m (ZQt c.raws) [((1,24),⟨0,false,0,0,[]⟩)] [] (fun z=>.ref (1,24) 1 0 z.length) (fun z=>[((1,24),⟨1,true,89,4,Ac A4 z⟩)]) [] fun e m=>eR co (Ad [3,5,6,7,9] [((1,3),false),((1,5),false),((1,6),false),((1,7),false),((1,9),false),((1,24),true)]) m L fun r g=>fun _ m L=>sq (mJ co 1 (Ad [3,6,7,9,28,29,30] [((1,3),false),((1,6),false),((1,7),false),((1,9),false),((1,24),true)]) nl nH m L fun r g=>fun n=>fun _ m L=>bk 0 (cM co (Ad [3,6,7,9,28,29,30] jw) m L fun r g=>fun _ m L=>lo (Az (Zy1 co b a k e n i) nH m L (fun s m=>sq (rg (pR co 2 (Ad [6,9,61] Ur) m L fun r g=>fun _ m L=>c6 (θ:=fun _=>AJ [(1,.fn (.func 40) [] [])]) (hΘ:=fun r g o p q=>(fun z0 f y j=>Hs (ZRe z0 f) j)) co m (ZQs e (fun(z0:Raw) (f:Raw)=>Vo z0 f)) [(IS e)] [] (fun z=>.tup []) (fun z=>[kk 24 89 4 (Ac A4 z)]) [(1,1095)] fun l m=>eR co (Ad [6,9] Ur) m L fun r g=>fun _ m L=>fO co m L))))))))
abbrev R5:Val→AV:=fun y=>.agg ((Ae y).map .d)
def yM(d:Scm)(b:Typ)(c:Val)(a:Scm→Fld→Val→Option (Val×Bool)):PT 0 (Val):=wg<|br (decide (b.kind=(10:Int))) (wg<|wg<|wg<|cs Tryz.prog 15 [.agg ((Ak d).map .d),vS b.name,.agg ((Ae c).map .d)] [] [] (lQ a d b.name c) (fun y=>.agg ((Ae y).map .d)) fun e=>wg<|lr R5 nG e) (wg<|cl (JS c) fun f=>wg<|lr R5 nG f)
def F4(a:Scm→Fld→Val→Option (Val×Bool))(b:Scm)(c:Typ)(d:Val):Option (Val):=(yM b c d a).m
theorem B0(a:Scm→Fld→Val→Option (Val×Bool))(e:∀(b:Scm) (c:Fld) (d:Val),KC Tryz.prog 38 [.agg ((Ak b).map .d),.agg ((Am c).map .d),.agg ((Ae d).map .d)] (a b c d) DV)(b:Scm)(c:Typ)(d:Val):KC Tryz.prog 91 [.agg ((Ak b).map .d),.agg ((CJ c).map .d),.agg ((Ae d).map .d)] (F4 a b c d) R5:=Ci Tryz.func91 Tryz.ntmps91 AG [.cell 6 33] fun C co y m f L=>fO co m L fun r g=>⟨⟨fun y hy h _ _=>by rw[(Ly a e b c.name d).x,(Ly a e b c.name d).e];exact(Ly a e b c.name d).k _ h y hy,fun i=>id⟩,fun j=>id⟩
end Go.Proofs.YtopncadjpnkjhaaGreatDoor
