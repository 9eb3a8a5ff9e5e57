import Derived.Test.YtalafnjhcecdpaaGreatDoorZa20
import Derived.Test.YtalafnjhcecdpaaGreatDoorZa09
import Derived.Test.YtalafnjhcecdpaaGreatDoorZa08
import Derived.Test.YtalafnjhcecdpaaGreatDoorRows
import Derived.WalkKit
import Derived.ProofKit
import Derived.OpenShut
import Derived.Carry
import Derived.Deep.DeepHandedRow
import Derived.Test.YtalafnjhcecdpaaGreatDoorZa11
import Derived.Test.YtalafnjhcecdpaaGreatDoorZa00
namespace Go.Proofs.YtalafnjhcecdpaaGreatDoor
set_option maxRecDepth 100000
set_option linter.all false
open Go Go.Eng
abbrev X7(a:Enm):Ad×Blk:=kk 2 108 5 (cD (BC a))
abbrev S7:Bool->AV:=λy=>vB y
def jl(a:Enm)(b:Int):Nat->St:=λc=>Ab [(1,.d (.int .u64 b)),pp 2,(5,vN c)] [(X7 a)]
def vr:Unit->Nat×St:=λ_=>(0,Ab [] [])
def QN(a:Enm)(e:Int):Nat->Option (Lv (Nat) (Unit) (Bool)):=λb=>(wg<|vz (Ai a.items)<|br (decide ((b:Int)<(a.items.length:Int))) (wg<|ix a.items b λc=>wg<|AW (decide ((0:Int)<=c.num)) a.items (b:Int) λd=>vy (decide ((0:Int)<=c.num)) (wk .u64 d.num)<|br (decide ((0:Int)<=c.num)&&decide ((IntKind.u64.wrap d.num)=e)) (Aq S7 nG true) (vs (wa b 1)<|ln (jl a e) (b+1))) (Af (vr) ()):PT 0 _).m
def PL(a:Enm)(b:Int):Option (Bool):=(lc (Ab [(1,.d (.int .u64 b)),pp 2] [(X7 a)]) ((lc (Ab [(1,.d (.int .u64 b)),pp 2,(5,vI 0)] [(X7 a)]) ((Aj (QN a b) Ah 0).bind (Sum.elim (λ_=>(lr S7 nG false:PT 0 _).m) some)):PT 0 _).m):PT 0 _).m
theorem ZuM{C:Cx}(co:CO C 0)(b:Enm)(c:Int):KL Tryz.prog (As tl) 31 C (pa [0,0,1,0,1] (At Tryz.f183)) [.tmp 4] 0 (jl b c) (vr) S7 nG (QN b c):=λe _ m Q a d L=>eN co (Aa [1,2,5] EW) nl d m L
theorem lK(a:Enm)(b:Int):KC Tryz.prog 183 [.agg ((BC a).map .d),.d (.int .u64 b)] (PL a b) S7:=kC Tryz.func183 Tryz.ntmps183 [.tmp 4] λco m L=>mJ co 1 (Aa [1,2] EW) nl nH m L λr g=>λ_ m L=>sq (mJ co 1 (Aa [1,2,5] EW) nl nH m L λr g=>λ_ m L=>bk 0 (lo (Aw (ZuM co a b) nH m L (λ_ m=>fO co m L))))
abbrev M2:Int->AV:=λy=>vI y
def cg(b:Int)(a:Val):Option (Int):=(wg<|wg<|Ax (!(!decide (a.kind=b))) (V1 a) λc=>br ((!decide (a.kind=b))||c) (lr M2 nG 12) (wg<|vz (A1 a.text.size)<|br (decide ((4096:Int)<(a.text.size:Int))) (lr M2 nG 3) (wg<|cl (bb b a) λd=>br (!d) (br (decide (b=(7:Int))) (lr M2 nG 7) (lr M2 nG 12)) (lr M2 nG 0))):PT 0 _).m
theorem nf(a:Int)(b:Val):KC Tryz.prog 232 [vI a,.agg ((Ae b).map .d)] (cg a b) M2:=kC Tryz.func232 Tryz.ntmps232 [.tmp 4] λco m L=>fO co m L
abbrev ZH(a:Val):Ad×Blk:=kk 2 33 7 (cD (Ae a))
abbrev Sv:Bool->AV:=λy=>vB y
def jn(a:Val)(b:Int):Nat->St:=λc=>Ab [(1,vI b),pp 2,(5,vN c)] [(ZH a)]
def uT:Unit->Nat×St:=λ_=>(0,Ab [] [])
def Qx(a:Val)(c:Int):Nat->Option (Lv (Nat) (Unit) (Bool)):=λb=>(wg<|vz (Ai a.slots)<|br (decide ((b:Int)<(a.slots.length:Int))) (wg<|ix a.slots b λd=>br (decide (d.num=c)) (Aq Sv nG true) (vs (wa b 1)<|ln (jn a c) (b+1))) (Af (uT) ()):PT 0 _).m
def bN(a:Val)(b:Int):Option (Bool):=(lc (Ab [(1,vI b),pp 2] [(ZH a)]) ((lc (Ab [(1,vI b),pp 2,(5,vI 0)] [(ZH a)]) ((Aj (Qx a b) Ah 0).bind (Sum.elim (λ_=>(lr Sv nG false:PT 0 _).m) some)):PT 0 _).m):PT 0 _).m
theorem Zv8{C:Cx}(co:CO C 0)(b:Val)(c:Int):KL Tryz.prog (As tl) 21 C (pa [0,0,1,0,1] (At Tryz.f139)) [.tmp 4] 0 (jn b c) (uT) Sv nG (Qx b c):=λe _ m Q a d L=>eN co (Aa [1,2,5] EW) nl d m L
theorem ZLB(a:Val)(b:Int):KC Tryz.prog 139 [.agg ((Ae a).map .d),vI b] (bN a b) Sv:=kC Tryz.func139 Tryz.ntmps139 [.tmp 4] λco m L=>mJ co 1 (Aa [1,2] EW) nl nH m L λr g=>λ_ m L=>sq (mJ co 1 (Aa [1,2,5] EW) nl nH m L λr g=>λ_ m L=>bk 0 (lo (Aw (Zv8 co a b) nH m L (λ_ m=>fO co m L))))
abbrev Pk:Int->AV:=λy=>vI y
def dO(a:Raw):PT 0 (Int):=wg<|wg<|vy (decide (a.wire=(3:Int))) (A1 a.data.size)<|wg<|vy (!(decide (a.wire=(3:Int))&&decide ((4096:Int)<(a.data.size:Int)))) (A1 a.data.size)<|br ((decide (a.wire=(3:Int))&&decide ((4096:Int)<(a.data.size:Int)))||decide ((65536:Int)<(a.data.size:Int))) (lr Pk nG 3) (lr Pk nG 0)
def b5(d:Scm)(e:Msg)(a:Raw):Option (Int):=(wg<|wg<|wg<|wg<|wg<|wg<|wg<|wg<|wg<|br (((((decide (a.num<(1:Int))||decide ((65535:Int)<a.num))||decide (a.wire<(0:Int)))||decide ((6:Int)<a.wire))||(((decide (a.wire=(0:Int))||decide (a.wire=(1:Int)))||decide (a.wire=(2:Int)))&&(!decide (a.data=(⟨#[]⟩:ByteArray)))))||((!((decide (a.wire=(0:Int))||decide (a.wire=(1:Int)))||decide (a.wire=(2:Int))))&&(!decide (a.bits=(0:Int))))) (lr Pk nG 1) (wg<|wg<|cl (Zc e a.num) λb=>wg<|br b.2 (wg<|wg<|cl (kL d b.1.type.name) λc=>wg<|wg<|wg<|wg<|wg<|wg<|wg<|wg<|Ax (!((((((!decide (b.1.type.kind=(9:Int)))||(!c.2))||c.1.opn)||decide (b.1.card=(5:Int)))||(!decide (a.wire=(0:Int))))||decide ((2147483648:Int)<=a.bits))) (lK c.1 a.bits) λf=>br (((((((!decide (b.1.type.kind=(9:Int)))||(!c.2))||c.1.opn)||decide (b.1.card=(5:Int)))||(!decide (a.wire=(0:Int))))||decide ((2147483648:Int)<=a.bits))||f) (lr Pk nG 1) (dO a)) (dO a)):PT 0 _).m
theorem ZOv(a:Scm)(b:Msg)(c:Raw):KC Tryz.prog 140 [.agg ((Al a).map .d),.agg ((AD b).map .d),.agg ((Ay c).map .d)] (b5 a b c) Pk:=kC Tryz.func140 Tryz.ntmps140 [.tmp 6] λco m L=>fO co m L
abbrev Ek:Int->AV:=λy=>vI y
abbrev HI:List (Ad×Bool):=[((1,6),false),((1,13),false)]
abbrev F1(a:Scm):Ad×Blk:=kk 6 26 3 (cD (Al a))
abbrev GR(a:Fld×Bool):Ad×Blk:=kk 13 56 16 (cD (Au a.1))
abbrev Ld:Int->AV:=λy=>vI y
def uO(a:Scm)(b:Msg)(c:Val)(d:Int)(e:Int)(f:Bool)(g:Fld×Bool):Nat->St:=λv3=>Ab [(3,vI d),(4,vI e),(5,vB f),pp 6,(7,.iptr (AD b) 0),(8,.iptr (Ae c) 0),pp 13,(15,vN v3)] [(F1 a),(GR g)]
def uZ(a:Scm)(b:Msg)(c:Val)(d:Int)(e:Int)(f:Bool)(g:Fld×Bool):Unit->Nat×St:=λ_=>(0,Ab [(3,vI d),(4,vI e),(5,vB f),pp 6,(7,.iptr (AD b) 0),(8,.iptr (Ae c) 0),pp 13] [(F1 a),(GR g)])
abbrev Cj:=Scm->Fld->Val->Int->Bool->Option (Int)
def NG(e:Scm)(f:Msg)(a:Val)(b:Int)(g:Int)(h:Bool)(d:Cj)(c:Fld×Bool):Nat->Option (Lv (Nat) (Unit) (Int)):=λv3=>(br (decide ((v3:Int)<b)) (ix a.slots v3 λi=>wg<|br (decide (i.num=c.1.num)) (Aq Ld nG 9) (vs (wa v3 1)<|ln (uO e f a b g h c) (v3+1))) (Af (uZ e f a b g h c) ()):PT 0 _).m
def i3(a:Scm)(b:Msg)(c:Val)(d:Int)(e:Int)(f:Bool)(g:Fld×Bool):Nat->St:=λv5=>Ab [(3,vI d),(4,vI e),(5,vB f),pp 6,(7,.iptr (AD b) 0),(8,.iptr (Ae c) 0),pp 13,(16,vN v5)] [(F1 a),(GR g)]
def uD(a:Scm)(b:Val)(c:Int)(d:Int)(e:Bool)(f:Fld×Bool):Unit->Nat×St:=λ_=>(2,Ab [(3,vI c),(4,vI d),(5,vB e),pp 6,(8,.iptr (Ae b) 0),pp 13] [(F1 a),(GR f)])
def UZ(d:Scm)(b:Msg)(c:Val)(e:Int)(f:Int)(g:Bool)(a:Fld×Bool)(v5:Nat):PT 0 (Lv (Nat) (Unit) (Int)):=ix c.slots v5 λi=>du (cl (Zc b i.num) λh=>wg<|lc (Ab [(3,vI e),(4,vI f),(5,vB g),pp 6,(7,.iptr (AD b) 0),(8,.iptr (Ae c) 0),pp 13,(16,vN v5),pp 17] [(F1 d),(GR a),kk 17 56 16 (cD (Au h.1))]) ((wg<|wg<|wg<|br ((!decide (a.1.union=(⟨#[]⟩:ByteArray)))&&decide (h.1.union=a.1.union)) (Aq Ld nG 15) (lc (Ab [(3,vI e),(4,vI f),(5,vB g),pp 6,(7,.iptr (AD b) 0),(8,.iptr (Ae c) 0),pp 13,(16,vN v5)] [(F1 d),(GR a)]) ((vs (wa v5 1)<|ln (i3 d b c e f g a) (v5+1):PT 0 _).m)):PT 0 _).m))
def NJ(b:Scm)(h:Msg)(c:Val)(a:Int)(d:Int)(e:Bool)(g:Cj)(f:Fld×Bool):Nat->Option (Lv (Nat) (Unit) (Int)):=λv5=>(br (decide ((v5:Int)<a)) (lc (Ab [(3,vI a),(4,vI d),(5,vB e),pp 6,(7,.iptr (AD h) 0),(8,.iptr (Ae c) 0),pp 13,(16,vN v5)] [(F1 b),(GR f)]) ((UZ b h c a d e f v5).m)) (Af (uD b c a d e f) ()):PT 0 _).m
def eK(d:Scm)(h:Msg)(e:Val)(f:Int)(c:Int)(g:Bool)(a:Cj):PT 0 (Int):=vw (.fzb 7 [7])<|vw (.fzb 8 [8])<|vw .sep<|Di e.slots f λj=>du (cl (Zc h j.num) λb=>wg<|lc (Ab [(3,vI f),(4,vI c),(5,vB g),pp 6,(7,.iptr (AD h) 0),(8,.iptr (Ae e) 0),pp 13,(14,vB b.2)] [(F1 d),(GR b)]) ((br (!b.2) (lr Ld nG 8) (lc (Ab [(3,vI f),(4,vI c),(5,vB g),pp 6,(7,.iptr (AD h) 0),(8,.iptr (Ae e) 0),pp 13] [(F1 d),(GR b)]) ((lc (Ab [(3,vI f),(4,vI c),(5,vB g),pp 6,(7,.iptr (AD h) 0),(8,.iptr (Ae e) 0),pp 13,(15,vI 0)] [(F1 d),(GR b)]) ((Aj (NG d h e f c g a b) Ah 0).bind (Sum.elim (λ_=>(lc (Ab [(3,vI f),(4,vI c),(5,vB g),pp 6,(7,.iptr (AD h) 0),(8,.iptr (Ae e) 0),pp 13,(16,vI 0)] [(F1 d),(GR b)]) ((Aj (NJ d h e f c g a b) Ah 0).bind (Sum.elim (λ_=>(wg<|wg<|Di e.slots f λi=>vs (wi (c+1))<|cs Tryz.prog 181 [.agg ((Al d).map .d),.agg ((Au b.1).map .d),.agg ((Ae i.val).map .d),vI (c+1),vB g] [] [] (a d b.1 i.val (c+1) g) (λy=>vI y) λk=>lr Ld nG k:PT 0 _).m) some)):PT 0 _).m) some)):PT 0 _).m)):PT 0 _).m))
def TK(a:Cj)(b:Scm)(c:Msg)(d:Val)(e:Int)(f:Int)(g:Bool):Option (Int):=(lc (Ab [(3,vI e),(4,vI f),(5,vB g),pp 6,pp 7,pp 8] [(F1 b),kk 7 61 5 (cD (AD c)),kk 8 33 7 (cD (Ae d))]) ((eK b c d e f g a).m):PT 0 _).m
abbrev FY(a:Cj):Prop:=∀(b:Scm) (c:Fld) (d:Val) (e:Int) (f:Bool),KC Tryz.prog 181 [.agg ((Al b).map .d),.agg ((Au c).map .d),.agg ((Ae d).map .d),vI e,vB f] (a b c d e f) Ek
theorem ZvA{C:Cx}(co:CO C 0)(b:Scm)(c:Msg)(d:Val)(e:Int)(f:Int)(g:Bool)(a:Cj)(h:Fld×Bool)(k:FY a):KL Tryz.prog (As tl) 84 C (pa [0,0,1,0,1,1,1] (At Tryz.f138)) [.tmp 12] 0 (uO b c d e f g h) (uZ b c d e f g h) Ld nG (NG b c d e f g a h):=λv3 _ m Q i j L=>eN co (Aa [3,4,5,6,7,8,13,15] HI) (Aa [3,4,5,6,7,8,13] HI) j m L
theorem Zw1{C:Cx}(co:CO C 0)(b:Scm)(j:Msg)(c:Val)(d:Int)(e:Int)(f:Bool)(a:Cj)(h:Fld×Bool)(n:FY a):KL Tryz.prog (As tl) 84 C (pa [0,0,1,0,1,1,1,1] (At Tryz.f138)) [.tmp 12] 0 (i3 b j c d e f h) (uD b c d e f h) Ld nG (NJ b j c d e f a h):=λv5 _ m Q k i L=>mJ co 1 (Aa [3,4,5,6,7,8,13,16] HI) (Aa [3,4,5,6,8,13] HI) i m L λr g=>⟨λ_ m L=>sq (bk 3 (sq (D7 co AI BK (.fst 0 (.fst 1 (.fst 2 (.fst 3 (.fst 4 (.fst 5 (.fst 6 (.two 7 11 (.fst 8 (.fst 9 (.fst 10 (.fst 11 (.fst 12 (.fst 13 .nil)))))) (.fst 7 (.fst 8 (.fst 9 (.fst 10 (.fst 12 (.fst 13 .nil)))))))))))))) [7,8] (UZ b j c d e f h v5) (Aa [3,4,5,6,7,8,13,16,17] [((1,6),false),((1,13),false),((1,17),false)]) m L λr g=>λl=>λo=>λ_ m L=>eN co (Aa [3,4,5,6,7,8,13,16] HI) nl i m L λr g=>⟨id,λ_ m L=>eN co (Aa [3,4,5,6,7,8,13,16] HI) nl i m L⟩))),id⟩
theorem Zo(a:Cj)(e:FY a)(b:Scm)(f:Msg)(h:Val)(i:Int)(c:Int)(d:Bool):KC Tryz.prog 138 [.agg ((Al b).map .d),.agg ((AD f).map .d),.agg ((Ae h).map .d),vI i,vI c,vB d] (TK a b f h i c d) Ld:=Cu Tryz.func138 Tryz.ntmps138 AI [.tmp 12] λC co y m l L=>mJ co 1 (Aa [3,4,5,6,7,8] [((1,6),false),((1,7),false),((1,8),false)]) nl nH m L λr g=>λ_ m L=>sq (D7 co AI BK (.fst 0 (.fst 1 (.fst 2 (.fst 3 (.fst 4 (.fst 5 (.fst 6 (.two 7 11 (.fst 8 (.fst 9 (.fst 10 (.fst 11 (.fst 12 (.fst 13 .nil)))))) (.fst 7 (.fst 8 (.fst 9 (.fst 10 (.fst 12 (.fst 13 .nil)))))))))))))) [7,8] (eK b f h i c d a) (Aa [3,4,5,6,7,8,13,14] HI) m L λr g=>λo=>λj=>λ_ m L=>mJ co 1 (Aa [3,4,5,6,7,8,13] HI) nl nH m L λr g=>⟨id,λ_ m L=>sq (mJ co 1 (Aa [3,4,5,6,7,8,13,15] HI) nl nH m L λr g=>λ_ m L=>bk 0 (lo (Aw (ZvA co b f h i c d a j e) nH m L (λ_ m=>sq (mJ co 1 (Aa [3,4,5,6,7,8,13,16] HI) nl nH m L λr g=>λ_ m L=>bk 2 (lo (Aw (Zw1 co b f h i c d a j e) nH m L (λ_ m=>fO co m L λr g=>λk=>⟨λy hy n _ _=>by rw[(e b j.1 k.val (c+1) d).x,(e b j.1 k.val (c+1) d).e];exact(e b j.1 k.val (c+1) d).k _ n y hy,λp=>id⟩))))))))⟩)
abbrev Ck:List (Ad×Bool):=[((1,5),false),((1,6),false),((1,7),false)]
abbrev ID(a:Scm):Ad×Blk:=kk 5 26 3 (cD (Al a))
abbrev IC(a:Val):Ad×Blk:=kk 7 33 7 (cD (Ae a))
abbrev G8:Int->AV:=λy=>vI y
def km(a:Scm)(b:Msg)(c:Val)(d:Int)(e:Bool):Nat->St:=λv2=>Ab [(3,vI d),(4,vB e),pp 5,pp 6,pp 7,(11,vN v2)] [(ID a),kk 6 61 5 (cD (AD b)),(IC c)]
def nS(a:Scm)(b:Msg)(c:Val):Unit->Nat×St:=λ_=>(0,Ab [pp 5,pp 6,pp 7] [(ID a),kk 6 61 5 (cD (AD b)),(IC c)])
def QW(c:Scm)(d:Msg)(a:Val)(e:Int)(f:Bool)(b:Cj):Nat->Option (Lv (Nat) (Unit) (Int)):=λv2=>(wg<|vz (Ai a.slots)<|br (decide ((v2:Int)<(a.slots.length:Int))) (wg<|wg<|wg<|cs Tryz.prog 138 [.agg ((Al c).map .d),.agg ((AD d).map .d),.agg ((Ae a).map .d),vN v2,vI e,vB f] [] [] (TK b c d a (v2:Int) e f) (λy=>vI y) λg=>br (!decide (g=(0:Int))) (Aq G8 nG g) (vs (wa v2 1)<|ln (km c d a e f) (v2+1))) (Af (nS c d a) ()):PT 0 _).m
def lX(a:Scm)(b:Msg)(c:Val):Nat->St:=λv4=>Ab [pp 5,pp 6,pp 7,(13,vN v4)] [(ID a),kk 6 61 5 (cD (AD b)),(IC c)]
def l9(a:Scm)(b:Msg)(c:Val):Unit->Nat×St:=λ_=>(2,Ab [pp 5,pp 6,pp 7] [(ID a),kk 6 61 5 (cD (AD b)),(IC c)])
def Rn(e:Scm)(a:Msg)(c:Val)(d:Cj):Nat->Option (Lv (Nat) (Unit) (Int)):=λv4=>(wg<|vz (Ai a.fields)<|br (decide ((v4:Int)<(a.fields.length:Int))) (wg<|ix a.fields v4 λb=>wg<|wg<|AW (decide (b.card=(1:Int))) a.fields (v4:Int) λf=>Ax (decide (b.card=(1:Int))) (ZLB c f.num) λg=>br (decide (b.card=(1:Int))&&(!g)) (Aq G8 nG 14) (vs (wa v4 1)<|ln (lX e a c) (v4+1))) (Af (l9 e a c) ()):PT 0 _).m
def lO(a:Scm)(b:Msg)(c:Val):Nat->St:=λd=>Ab [pp 5,pp 6,pp 7,(14,vN d)] [(ID a),kk 6 61 5 (cD (AD b)),(IC c)]
def j4:Unit->Nat×St:=λ_=>(4,Ab [] [])
def Rc(e:Scm)(f:Msg)(b:Val)(d:Cj):Nat->Option (Lv (Nat) (Unit) (Int)):=λc=>(wg<|vz (Ai b.raws)<|br (decide ((c:Int)<(b.raws.length:Int))) (wg<|wg<|wg<|ix b.raws c λg=>cl (ZOv e f g) λa=>br (!decide (a=(0:Int))) (Aq G8 nG a) (vs (wa c 1)<|ln (lO e f b) (c+1))) (Af (j4) ()):PT 0 _).m
def PD(a:Cj)(c:Scm)(d:Msg)(b:Val)(e:Int)(f:Bool):Option (Int):=(wg<|wg<|Ax (!(!decide (b.kind=(10:Int)))) (V1 b) λg=>br ((!decide (b.kind=(10:Int)))||g) (lr G8 nG 12) (br (decide ((16:Int)<e)) (lr G8 nG 17) (lc (Ab [(3,vI e),(4,vB f),pp 5,pp 6,pp 7] [(ID c),kk 6 61 5 (cD (AD d)),(IC b)]) ((lc (Ab [(3,vI e),(4,vB f),pp 5,pp 6,pp 7,(11,vI 0)] [(ID c),kk 6 61 5 (cD (AD d)),(IC b)]) ((Aj (QW c d b e f a) Ah 0).bind (Sum.elim (λ_=>(lc (Ab [pp 5,pp 6,pp 7,(13,vI 0)] [(ID c),kk 6 61 5 (cD (AD d)),(IC b)]) ((Aj (Rn c d b a) Ah 0).bind (Sum.elim (λ_=>(lc (Ab [pp 5,pp 6,pp 7,(14,vI 0)] [(ID c),kk 6 61 5 (cD (AD d)),(IC b)]) ((Aj (Rc c d b a) Ah 0).bind (Sum.elim (λ_=>(lr G8 nG 0:PT 0 _).m) some)):PT 0 _).m) some)):PT 0 _).m) some)):PT 0 _).m))):PT 0 _).m
theorem xA{C:Cx}(co:CO C 0)(b:Scm)(c:Msg)(d:Val)(e:Int)(f:Bool)(a:Cj)(h:FY a):KL Tryz.prog (As tl) 85 C (pa [0,0,1,0,1,1,1] (At Tryz.f80)) [.tmp 10] 0 (km b c d e f) (nS b c d) G8 nG (QW b c d e f a):=λv2 _ m Q i k L=>eN co (Aa [3,4,5,6,7,11] Ck) (Aa [5,6,7] Ck) k m L λr g=>⟨⟨λy hy j _ _=>by rw[(Zo a h b c d (v2:Int) e f).x,(Zo a h b c d (v2:Int) e f).e];exact(Zo a h b c d (v2:Int) e f).k _ j y hy,λl=>⟨id,id⟩⟩,id⟩
theorem yV{C:Cx}(co:CO C 0)(b:Scm)(c:Msg)(d:Val)(a:Cj)(g:FY a):KL Tryz.prog (As tl) 85 C (pa [0,0,1,0,1,1,1,1] (At Tryz.f80)) [.tmp 10] 0 (lX b c d) (l9 b c d) G8 nG (Rn b c d a):=λv4 _ m Q e f L=>eN co (Aa [5,6,7,13] Ck) (Aa [5,6,7] Ck) f m L
theorem yr{C:Cx}(co:CO C 0)(c:Scm)(d:Msg)(e:Val)(a:Cj)(g:FY a):KL Tryz.prog (As tl) 85 C (pa [0,0,1,0,1,1,1,1,1] (At Tryz.f80)) [.tmp 10] 0 (lO c d e) (j4) G8 nG (Rc c d e a):=λh _ m Q b f L=>eN co (Aa [5,6,7,14] Ck) nl f m L
theorem SO(a:Cj)(e:FY a)(b:Scm)(c:Msg)(d:Val)(f:Int)(h:Bool):KC Tryz.prog 80 [.agg ((Al b).map .d),.agg ((AD c).map .d),.agg ((Ae d).map .d),vI f,vB h] (PD a b c d f h) G8:=kC Tryz.func80 Tryz.ntmps80 [.tmp 10] λco m L=>mJ co 3 (Aa [3,4,5,6,7] Ck) nl nH m L λr g=>λi=>⟨id,⟨id,λ_ m L=>sq (mJ co 1 (Aa [3,4,5,6,7,11] Ck) nl nH m L λr g=>λ_ m L=>bk 0 (lo (Aw (xA co b c d f h a e) nH m L (λ_ m=>sq (mJ co 1 (Aa [5,6,7,13] Ck) nl nH m L λr g=>λ_ m L=>bk 2 (lo (Aw (yV co b c d a e) nH m L (λ_ m=>sq (mJ co 1 (Aa [5,6,7,14] Ck) nl nH m L λr g=>λ_ m L=>bk 4 (lo (Aw (yr co b c d a e) nH m L (λ_ m=>fO co m L))))))))))))⟩⟩
abbrev Kg:Int->AV:=λy=>vI y
def M5(b:Cj)(c:Scm)(a:Typ)(d:Val)(g:Int)(h:Bool):Option (Int):=(wg<|br (decide (a.kind=(10:Int))) (wg<|wg<|cl (Z9 c a.name) λf=>wg<|br (!f.2) (lr Kg nG 10) (wg<|wg<|wg<|cs Tryz.prog 80 [.agg ((Al c).map .d),.agg ((AD f.1).map .d),.agg ((Ae d).map .d),vI g,vB h] [] [] (PD b c f.1 d g h) (λy=>vI y) λj=>lr Kg nG j)) (wg<|wg<|br (decide (a.kind<(1:Int))||decide ((9:Int)<a.kind)) (lr Kg nG 12) (wg<|wg<|cl (nf a.kind d) λi=>wg<|br ((!decide (i=(0:Int)))||(!decide (a.kind=(9:Int)))) (lr Kg nG i) (wg<|wg<|cl (kL c a.name) λe=>wg<|br (!e.2) (lr Kg nG 10) (wg<|wg<|wg<|Ax (!e.1.opn) (lK e.1 d.bits) λk=>br ((!e.1.opn)&&(!k)) (lr Kg nG 16) (lr Kg nG 0))))):PT 0 _).m
theorem IE(a:Cj)(f:FY a)(b:Scm)(j:Typ)(c:Val)(d:Int)(e:Bool):KC Tryz.prog 231 [.agg ((Al b).map .d),.agg ((CB j).map .d),.agg ((Ae c).map .d),vI d,vB e] (M5 a b j c d e) Kg:=Cu Tryz.func231 Tryz.ntmps231 AI [.tmp 10] λC co y m i L=>fO co m L λr g=>⟨λh=>⟨id,⟨λy hy k _ _=>by rw[(SO a f b h.1 c d e).x,(SO a f b h.1 c d e).e];exact(SO a f b h.1 c d e).k _ k y hy,λl=>id⟩⟩,⟨id,λn=>⟨id,λo=>⟨id,λp=>⟨id,id⟩⟩⟩⟩⟩
abbrev DM(a:Scm):Ad×Blk:=kk 5 26 3 (cD (Al a))
abbrev DJ(a:Fld):Ad×Blk:=kk 6 56 16 (cD (Au a))
abbrev DL(a:Val):Ad×Blk:=kk 7 33 7 (cD (Ae a))
def ji(a:Scm)(b:Fld)(c:Val)(d:Int)(e:Bool):Nat->St:=λv2=>Ab [(3,vI d),(4,vB e),pp 5,pp 6,pp 7,(11,vN v2)] [(DM a),(DJ b),(DL c)]
def vm:Unit->Nat×St:=λ_=>(0,Ab [] [])
def QG(c:Scm)(d:Fld)(b:Val)(e:Int)(f:Bool)(a:Cj):Nat->Option (Lv (Nat) (Unit) (Int)):=λv2=>(wg<|vz (Ai b.list)<|br (decide ((v2:Int)<(b.list.length:Int))) (wg<|wg<|wg<|ix b.list v2 λg=>cs Tryz.prog 231 [.agg ((Al c).map .d),.agg ((CB d.type).map .d),.agg ((Ae g).map .d),vI e,vB f] [] [] (M5 a c d.type g e f) (λy=>vI y) λh=>br (!decide (h=(0:Int))) (Aq Ek nG h) (vs (wa v2 1)<|ln (ji c d b e f) (v2+1))) (Af (vm) ()):PT 0 _).m
def u3(a:Scm)(b:Fld)(c:Val)(d:Int)(e:Bool):Nat->St:=λf=>Ab [(3,vI d),(4,vB e),pp 5,pp 6,pp 7,(13,vN f)] [(DM a),(DJ b),(DL c)]
def uo:Unit->Nat×St:=λ_=>(2,Ab [] [])
def jw(a:Scm)(b:Fld)(c:Val)(d:Int)(e:Bool)(f:Nat):Nat->St:=λv9=>Ab [(3,vI d),(4,vB e),pp 5,pp 6,pp 7,(13,vN f),(15,vN v9)] [(DM a),(DJ b),(DL c)]
def jj(a:Scm)(b:Fld)(c:Val)(d:Int)(e:Bool)(f:Nat):Unit->Nat×St:=λ_=>(4,Ab [(3,vI d),(4,vB e),pp 5,pp 6,pp 7,(13,vN f)] [(DM a),(DJ b),(DL c)])
def LK(i:Scm)(j:Fld)(c:Val)(k:Int)(g:Bool)(h:Cj)(d:Nat):Nat->Option (Lv (Nat) (Unit) (Int)):=λv9=>(br (decide ((v9:Int)<(d:Int))&&g) (wg<|ix c.pairs v9 λa=>wg<|ix c.pairs d λb=>wg<|AW (decide (a.key.bits=b.key.bits)) c.pairs (v9:Int) λe=>wg<|AW (decide (a.key.bits=b.key.bits)) c.pairs (d:Int) λf=>br (decide (a.key.bits=b.key.bits)&&decide (e.key.text=f.key.text)) (Aq Ek nG 9) (vs (wa v9 1)<|ln (jw i j c k g d) (v9+1))) (Af (jj i j c k g d) ()):PT 0 _).m
def Qv(e:Scm)(c:Fld)(a:Val)(f:Int)(g:Bool)(d:Cj):Nat->Option (Lv (Nat) (Unit) (Int)):=λb=>(wg<|vz (Ai a.pairs)<|br (decide ((b:Int)<(a.pairs.length:Int))) (lc (Ab [(3,vI f),(4,vB g),pp 5,pp 6,pp 7,(13,vN b)] [(DM e),(DJ c),(DL a)]) ((wg<|wg<|ix a.pairs b λk=>cl (nf c.key k.key) λj=>br (!decide (j=(0:Int))) (Aq Ek nG j) (lc (Ab [(3,vI f),(4,vB g),pp 5,pp 6,pp 7,(13,vN b)] [(DM e),(DJ c),(DL a)]) ((lc (Ab [(3,vI f),(4,vB g),pp 5,pp 6,pp 7,(13,vN b),(15,vI 0)] [(DM e),(DJ c),(DL a)]) ((Aj (LK e c a f g d b) Ah 0).bind (Sum.elim (λ_=>(wg<|wg<|wg<|ix a.pairs b λh=>cs Tryz.prog 231 [.agg ((Al e).map .d),.agg ((CB c.type).map .d),.agg ((Ae h.val).map .d),vI f,vB g] [] [] (M5 d e c.type h.val f g) (λy=>vI y) λi=>br (!decide (i=(0:Int))) (Aq Ek nG i) (lc (Ab [(3,vI f),(4,vB g),pp 5,pp 6,pp 7,(13,vN b)] [(DM e),(DJ c),(DL a)]) ((vs (wa b 1)<|ln (u3 e c a f g) (b+1):PT 0 _).m)):PT 0 _).m) (λz=>some (.rt z)))):PT 0 _).m)):PT 0 _).m)) (Af (uo) ()):PT 0 _).m
def Wp(f:Cj)(c:Scm)(b:Fld)(a:Val)(d:Int)(e:Bool):Option (Int):=(lc (Ab [(3,vI d),(4,vB e),pp 5,pp 6,pp 7] [(DM c),(DJ b),(DL a)]) ((wg<|lc (Ab [(3,vI d),(4,vB e),pp 5,pp 6,pp 7,(18,vB (decide (b.card=(4:Int))))] [(DM c),(DJ b),(DL a)]) (if decide (b.card=(4:Int))=true then(wg<|wg<|Ax (!(!decide (a.kind=(11:Int)))) (V1 a) λh=>br ((!decide (a.kind=(11:Int)))||h) (lr Ek nG 12) (lc (Ab [(3,vI d),(4,vB e),pp 5,pp 6,pp 7] [(DM c),(DJ b),(DL a)]) ((lc (Ab [(3,vI d),(4,vB e),pp 5,pp 6,pp 7,(11,vI 0)] [(DM c),(DJ b),(DL a)]) ((Aj (QG c b a d e f) Ah 0).bind (Sum.elim (λ_=>(lr Ek nG 0:PT 0 _).m) some)):PT 0 _).m)):PT 0 _).m else(lc (Ab [(3,vI d),(4,vB e),pp 5,pp 6,pp 7] [(DM c),(DJ b),(DL a)]) ((wg<|lc (Ab [(3,vI d),(4,vB e),pp 5,pp 6,pp 7,(49,vB (decide (b.card=(5:Int))))] [(DM c),(DJ b),(DL a)]) (if decide (b.card=(5:Int))=true then(wg<|wg<|Ax (!(!decide (a.kind=(12:Int)))) (V1 a) λi=>br ((!decide (a.kind=(12:Int)))||i) (lr Ek nG 12) (lc (Ab [(3,vI d),(4,vB e),pp 5,pp 6,pp 7] [(DM c),(DJ b),(DL a)]) ((lc (Ab [(3,vI d),(4,vB e),pp 5,pp 6,pp 7,(13,vI 0)] [(DM c),(DJ b),(DL a)]) ((Aj (Qv c b a d e f) Ah 0).bind (Sum.elim (λ_=>(lr Ek nG 0:PT 0 _).m) some)):PT 0 _).m)):PT 0 _).m else(lc (Ab [(3,vI d),(4,vB e),pp 5,pp 6,pp 7] [(DM c),(DJ b),(DL a)]) ((wg<|wg<|wg<|cs Tryz.prog 231 [.agg ((Al c).map .d),.agg ((CB b.type).map .d),.agg ((Ae a).map .d),vI d,vB e] [] [] (M5 f c b.type a d e) (λy=>vI y) λg=>lr Ek nG g:PT 0 _).m):PT 0 _).m):PT 0 _).m):PT 0 _).m):PT 0 _).m):PT 0 _).m
theorem ZwC{C:Cx}(co:CO C 0)(b:Scm)(c:Fld)(j:Val)(d:Int)(e:Bool)(a:Cj)(h:FY a):KL Tryz.prog (As tl) 138 C (pa [0,0,1,0,1,0,1,0,1] (At Tryz.f181)) [.tmp 10] 0 (ji b c j d e) (vm) Ek nG (QG b c j d e a):=λv2 _ m Q i l L=>eN co (Aa [3,4,5,6,7,11] Ck) nl l m L λr g=>⟨λf=>⟨λy hy k _ _=>by rw[(IE a h b c.type f d e).x,(IE a h b c.type f d e).e];exact(IE a h b c.type f d e).k _ k y hy,λn=>⟨id,id⟩⟩,id⟩
theorem ZwA{C:Cx}(co:CO C 0)(b:Scm)(c:Fld)(d:Val)(e:Int)(f:Bool)(a:Cj)(g:Nat)(j:FY a):KL Tryz.prog (As tl) 138 C (pa [0,0,1,0,1,1,0,0,1,0,0,1,0,1,0,1,0,1,1] (At Tryz.f181)) [.tmp 10] 0 (jw b c d e f g) (jj b c d e f g) Ek nG (LK b c d e f a g):=λv9 _ m Q h i L=>eN co (Aa [3,4,5,6,7,13,15] Ck) (Aa [3,4,5,6,7,13] Ck) i m L
theorem Zxy{C:Cx}(co:CO C 0)(d:Scm)(e:Fld)(j:Val)(f:Int)(h:Bool)(a:Cj)(i:FY a):KL Tryz.prog (As tl) 138 C (pa [0,0,1,0,1,0,1,0,1,1] (At Tryz.f181)) [.tmp 10] 0 (u3 d e j f h) (uo) Ek nG (Qv d e j f h a):=λn _ m Q k c L=>mJ co 1 (Aa [3,4,5,6,7,13] Ck) nl c m L λr g=>⟨λ_ m L=>sq (bk 3 (mJ co 2 (Aa [3,4,5,6,7,13] Ck) nl c m L λr g=>λp=>λq=>⟨id,λ_ m L=>sq (mJ co 1 (Aa [3,4,5,6,7,13,15] Ck) nl c m L λr g=>λ_ m L=>bk 4 (lo (EX (ZwA co d e j f h a n i) c m L (λ_ m=>eN co (Aa [3,4,5,6,7,13] Ck) nl c m L λr g=>λb=>⟨λy hy l _ _=>by rw[(IE a i d e.type b.val f h).x,(IE a i d e.type b.val f h).e];exact(IE a i d e.type b.val f h).k _ l y hy,λo=>⟨id,λ_ m L=>eN co (Aa [3,4,5,6,7,13] Ck) nl c m L⟩⟩))))⟩)),id⟩
theorem z1(a:Cj)(h:FY a)(b:Scm)(c:Fld)(d:Val)(e:Int)(f:Bool):KC Tryz.prog 181 [.agg ((Al b).map .d),.agg ((Au c).map .d),.agg ((Ae d).map .d),vI e,vB f] (Wp a b c d e f) Ek:=Cu Tryz.func181 Tryz.ntmps181 AI [.tmp 10] λC co y m i L=>mJ co 1 (Aa [3,4,5,6,7] Ck) nl nH m L λr g=>λ_ m L=>sq (mJ co 1 (Aa [3,4,5,6,7,18] Ck) nl nH m L λr g=>λ_ m L=>Bk m (λm=>mJ co 1 (Aa [3,4,5,6,7] Ck) nl nH m L λr g=>λl=>⟨id,λ_ m L=>sq (mJ co 1 (Aa [3,4,5,6,7,11] Ck) nl nH m L λr g=>λ_ m L=>bk 0 (lo (Aw (ZwC co b c d e f a h) nH m L (λ_ m=>eN co nl nl nH m L))))⟩) (λm=>eN co (Aa [3,4,5,6,7] Ck) nl nH m L λr g=>λ_ m L=>sq (mJ co 1 (Aa [3,4,5,6,7,49] Ck) nl nH m L λr g=>λ_ m L=>Bk m (λm=>mJ co 1 (Aa [3,4,5,6,7] Ck) nl nH m L λr g=>λn=>⟨id,λ_ m L=>sq (mJ co 1 (Aa [3,4,5,6,7,13] Ck) nl nH m L λr g=>λ_ m L=>bk 2 (lo (Aw (Zxy co b c d e f a h) nH m L (λ_ m=>eN co nl nl nH m L))))⟩) (λm=>eN co (Aa [3,4,5,6,7] Ck) nl nH m L λr g=>λ_ m L=>fO co m L λr g=>⟨λy hy j _ _=>by rw[(IE a h b c.type d e f).x,(IE a h b c.type d e f).e];exact(IE a h b c.type d e f).k _ j y hy,λk=>id⟩))))
def JO:Nat->Scm->Fld->Val->Int->Bool->Option (Int)
 |0=>λ_ _ _ _ _=>none
 |a+1=>Wp (JO a)
theorem kT:∀(f:Nat) (a:Scm) (b:Fld) (c:Val) (d:Int) (e:Bool),KC Tryz.prog 181 [.agg ((Al a).map .d),.agg ((Au b).map .d),.agg ((Ae c).map .d),vI d,vB e] (JO f a b c d e) Ek
 |0,a,b,c,d,e=>⟨λ_ _ _ h=>(by cases h),by intro r;kernel_rfl,by intro r y;kernel_rfl⟩
 |f+1,a,b,c,d,e=>z1 (JO f) (kT f) a b c d e
abbrev Oy:Int->AV:=λy=>vI y
def bI(a:Scm)(e:ByteArray)(b:Val)(f:Bool):Option (Int):=(wg<|cl (Z9 a e) λc=>wg<|br (!c.2) (lr Oy nG 10) (wg<|wg<|wg<|cl (SO (JO Ah) (kT Ah) a c.1 b 1 f) λd=>br (!decide (d=(0:Int))) (lr Oy nG d) (wg<|cl (oh Ah b) λg=>br (decide ((4096:Int)<g)) (lr Oy nG 3) (lr Oy nG 0))):PT 0 _).m
theorem pQ(a:Scm)(b:ByteArray)(c:Val)(d:Bool):KC Tryz.prog 29 [.agg ((Al a).map .d),vS b,.agg ((Ae c).map .d),vB d] (bI a b c d) Oy:=kC Tryz.func29 Tryz.ntmps29 [.tmp 8] λco m L=>fO co m L
abbrev hP:Int->AV:=λy=>vI y
def bR(a:Scm)(b:ByteArray)(c:Val):Option (Int):=(wg<|wg<|cl (pQ a b c true) λd=>lr hP nG d:PT 0 _).m
theorem ZQE(a:Scm)(b:ByteArray)(c:Val):KC Tryz.prog 28 [.agg ((Al a).map .d),vS b,.agg ((Ae c).map .d)] (bR a b c) hP:=kC Tryz.func28 Tryz.ntmps28 [.tmp 6] λco m L=>fO co m L
abbrev hJ:Bool->AV:=λy=>vB y
def b7(c:Scm)(d:ByteArray)(a:Val):Option (Bool):=(wg<|wg<|cl (ZQE c d a) λb=>wg<|wg<|wg<|Ax (decide (b=(0:Int))) (Pn (JN Ah) (bl Ah) c d a) λe=>Ax (decide (b=(0:Int))) (ZX Ah a e) λf=>lr hJ nG (decide (b=(0:Int))&&f):PT 0 _).m
theorem ZQz(a:Scm)(b:ByteArray)(c:Val):KC Tryz.prog 10 [.agg ((Al a).map .d),vS b,.agg ((Ae c).map .d)] (b7 a b c) hJ:=kC Tryz.func10 Tryz.ntmps10 [.tmp 6] λco m L=>fO co m L
abbrev hM:Bool->AV:=λy=>vB y
def cm(a:Scm)(b:ByteArray)(c:Val):Option (Bool):=(wg<|wg<|cl (pQ a b c false) λd=>lr hM nG (decide (d=(0:Int))):PT 0 _).m
theorem ZRp(a:Scm)(b:ByteArray)(c:Val):KC Tryz.prog 11 [.agg ((Al a).map .d),vS b,.agg ((Ae c).map .d)] (cm a b c) hM:=kC Tryz.func11 Tryz.ntmps11 [.tmp 6] λco m L=>fO co m L
abbrev E3:Bool->AV:=λy=>vB y
def bK(a:Scm)(b:ByteArray)(c:Val):Option (Bool):=(wg<|cl (wM a) λf=>br (!f) (cl (Xo) λg=>lr E3 nG g) (wg<|wg<|cl (Xp a b c) λh=>wg<|wg<|cl (ZQz a b c) λi=>br (!(h==i)) (lr E3 nG false) (wg<|wg<|cl (ZRp a b c) λj=>br (!j) (cl (Xo) λk=>lr E3 nG k) (wg<|wg<|cl (ME (Ig Ah) (S1 Ah) a b c) λl=>wg<|wg<|cl (Pn (JN Ah) (bl Ah) a b c) λm=>cl (ZX Ah l m) λe=>Ax e (Xo) λd=>lr E3 nG (e&&d)))):PT 0 _).m
theorem wL(a:Scm)(b:ByteArray)(c:Val):KC Tryz.prog 3 [.agg ((Al a).map .d),vS b,.agg ((Ae c).map .d)] (bK a b c) E3:=kC Tryz.func3 Tryz.ntmps3 [.tmp 6] λco m L=>fO co m L
end Go.Proofs.YtalafnjhcecdpaaGreatDoor
namespace Go.Proofs.YtalafnjhcecdpaaGreatDoor
set_option linter.all false
open Go Go.Eng
end Go.Proofs.YtalafnjhcecdpaaGreatDoor
namespace Go.Proofs.YtalafnjhcecdpaaGreatDoor
set_option linter.all false
open Go Go.Eng Go.ChangeShapes Go.WideShapes Go.ChangeAt Go.RowKit
theorem sP{H:Type}(b:List UInt8):Rows.uptoBulk (DataW.lit (H:=H) (.string b))=b.length+1:=by simp only[Rows.uptoBulk]
theorem Zqo{H:Type}(a b:List (DataW H)):Rows.uptoBulk (.slice a b)=Rows.uptoBulkAll a+Rows.uptoBulkAll b+1:=by simp only[Rows.uptoBulk]
theorem ZxF{H:Type}(a:List (DataW H)):Rows.uptoBulk (.agg a)=Rows.uptoBulkAll a+1:=by simp only[Rows.uptoBulk]
def Ke(W:World)(ds:List D)(cs:List Value)(o:Nat):Prop:=∀(i:Nat) (d:D),ds[i]?=some d->∃c,cs[o+i]?=some c/\RepD W (· <W.heap.size) d c
def LN(W:World)(ds:List D)(cs:List Value):Prop:=ds.length=cs.length/\Ke W ds cs 0
theorem Ke.app{W:World}{ds a:List D}{cs:List Value}{o:Nat}(h:Ke W ds cs o)(k:Ke W a cs (o+ds.length)):Ke W (ds++a) cs o:=λi d hi=>by
 rcases YL i ds.length with hl|hl
 ·rw[Yw hl]at hi;exact h i d hi
 ·rw[YK hl]at hi;obtain⟨c,b,e⟩:=k _ d hi;grind
theorem Ke.nil{W:World}{cs:List Value}{o:Nat}:Ke W [] cs o:=λi d h=>by simp at h
theorem LN.at{W:World}{ds:List D}{cs:List Value}{o k:Nat}(h:LN W ds ((cs.drop o).take k)):Ke W ds cs o:=λi d hi=>by obtain⟨c,a,b⟩:=h.2 i d hi;grind
def rk(k:IntKind)(n:Int):Nat:=if Lit.wf (.int k n)=true then 0 else 1000000000000
theorem lF{k:IntKind}{n:Int}(h:rk k n<=1048576):k.min<=n/\n<=k.max:=by
 unfold rk at h;split at h
 ·rename_i a;unfold Lit.wf at a;rw[Yb]at a;exact⟨Y9 a.1,Y9 a.2⟩
 ·omega
mutual
def bk:D->Nat
 |.int k n=>rk k n
 |.bool _=>0
 |.str s=>s.size
 |.list a=>AR a
 |.map _ a=>AR a
def Ap:List D->Nat
 |[]=>0
 |d::l=>bk d+Ap l
def AR:List (List D)->Nat
 |[]=>0
 |e::l=>Ap e+1+AR l
end
theorem NE:∀a b:List D,Ap (a++b)=Ap a+Ap b
 |[],b=>by rw[He,Ap,YX]
 |d::a,b=>by rw[H5,Ap,Ap,NE a b,YM]
theorem eM(d:D):Ap [d]=bk d:=by rw[Ap,Ap,E2]
theorem CH{α:Type}{e:α->List D}:∀l:List α,l.length<=AR (l.map e)
 |[]=>Cn _
 |x::l=>by have:=CH (e:=e) l;rw[YZ,AR,D0];omega
theorem Da{α:Type}{e:α->List D}{x:α}:∀{l:List α},x∈l->Ap (e x)+1<=AR (l.map e)
 |y::l,h=>by
  rw[YZ,AR];cases Yy.1 h with
  |inl h=>subst h;omega
  |inr h=>have:=Da (e:=e) h;omega
section
variable {H:Type} (enc:TypeId×Value->H) (P:Program) (W:World)
def Ch{α:Type}(n:Nat)(t:TypeId)(e:α->List D):Prop:=
 ∀cs x,DataW.trod enc P W 0 (λ_=>true) true n t cs=some x->∃v:α,LN W (e v) cs/\Ap (e v)+1<=Rows.uptoBulk x.1
end
section
variable {H:Type} {enc:TypeId×Value->H} {P:Program} {W:World} {n:Nat} {t:TypeId}
theorem ek(d:DataW H):1<=Rows.uptoBulk d:=by cases d<;>(try (rename_i l;cases l))<;>simp[Rows.uptoBulk]
theorem P1{d:D}{c:Value}(h:RepD W (· <W.heap.size) d c):LN W [d] [c]:=⟨rfl,λi d' hi=>by
 cases i with
 |zero=>cases hi;exact⟨c,rfl,h⟩
 |succ i=>simp at hi⟩
theorem EF{k:IntKind}(a:P.underlying t=some (.int k)):Ch enc P W n t (λv:Int=>[.int k v]):=λcs x hx=>by obtain⟨m,rfl,rfl,b⟩:=DataW.trod_int a hx;refine⟨m,P1 (.int _ _),?_⟩;rw[eM,bk,rk,Ym b];exact ek _
theorem tD(a:P.underlying t=some .bool):Ch enc P W n t (λv:Bool=>[.bool v]):=λcs x hx=>by obtain⟨m,rfl,rfl⟩:=DataW.trod_bool a hx;exact⟨m,P1 (.bool _),ek _⟩
theorem EE(a:P.underlying t=some .string):Ch enc P W n t (λv:ByteArray=>[.str v]):=λcs x hx=>by obtain⟨m,rfl,rfl,_⟩:=DataW.trod_string a hx;refine⟨m,P1 (.str _),?_⟩;rw[sP,eM];exact Yf _
theorem ve{α:Type}{e:α->List D}:∀(l:List α) (xs:List (DataW H×List MemPlace)),l.length=xs.length->(∀(i:Nat) (v:α),l[i]?=some v->∃y:DataW H×List MemPlace,xs[i]?=some y/\Ap (e v)+1<=Rows.uptoBulk y.1)->AR (l.map e)<=Rows.uptoBulkAll (xs.map (·.1))
 |[],_,_,_=>Cn _
 |x::l,[],h,_=>by cases h
 |x::l,y::xs,h,k=>by have:=ve l xs (XT h) (λi v hi=>k (i+1) v hi);obtain⟨c,a,b⟩:=k 0 x rfl;cases a;rw[YZ,YZ,AR];simp only[Rows.uptoBulkAll];omega
theorem tX{α:Type}{Q:Nat->α->Prop}:∀(len:Nat),(∀i,i<len->∃v,Q i v)->∃l:List α,l.length=len/\∀i v,l[i]?=some v->Q i v
 |0,_=>⟨[],rfl,λi v h=>by simp at h⟩
 |len+1,h=>by obtain⟨l,a,b⟩:=tX len (λi hi=>h i ae);obtain⟨v,c⟩:=h len ae;refine⟨l++[v],by simp[a],λi w hi=>?_⟩;grind
theorem Do{α:Type}{e:TypeId}{b:α->List D}{sz:Nat}(X:P.underlying t=some (.slice e))(E:P.cellsOf e=sz)(V:sz≠0)(hl:∀x,(b x).length=sz)(h:∀m,m<n->Ch enc P W m e b):
  Ch enc P W n t (λl:List α=>[.list (l.map b)]):=λcs x hx=>by
 rcases DataW.trod_slice X hx with⟨rfl,rfl⟩|⟨a,len,cap,g,J,m,rfl,rfl,rfl,Z,z,T,U,hi,_,_⟩
 ·exact⟨[],P1 .nil,ek _⟩
 ·have k:∀i,i<len->∃v:α,∃y f,g[i]?=some y/\W.cells? 0 (a.add (i*sz)) sz=some f/\LN W (b v) f/\Ap (b v)+1<=Rows.uptoBulk y.1:=λi B=>by have I:=hi i B;rw[Yd ae,E]at I;obtain⟨f,N,O⟩:=iR.1 I;obtain⟨v,Q,R⟩:=h m ae f _ O;exact⟨v,_,f,Yd ae,N,Q,R⟩
  obtain⟨l,A,r⟩:=tX len k;have cell:∀(i j:Nat) (e':List D) (x:D),(l.map b)[i]?=some e'->e'[j]?=some x->∃c,W.cell? (a.add (i*sz+j))=some c/\RepD W (· <W.heap.size) x c:=λi j e' x d o=>by
   rw[YR]at d;cases s:l[i]? with
   |none=>rw[s]at d;cases d
   |some v=>
    rw[s]at d;cases d;obtain⟨y,f,p,q,F,G⟩:=r i v s;obtain⟨c,H,K⟩:=F.2 j x o;rw[YX]at H;obtain⟨_,Y,L⟩:=World.cells?_some q;have u:j<sz:=by
     rw[<-hl v];rcases YL j (b v).length with h|h
     ·exact h
     ·rw[YT h]at o;cases o
    refine⟨c,?_,K⟩;rw[<-Go.Eng.add_add,L j u,H]
  refine⟨l,P1 ?_,?_⟩
  ·have hlen:(l.map b).length=len:=(by simp[A]);have:=RepD.list (w:=W) (S:=(· <W.heap.size)) (l.map b) a sz cap (λi j=>(W.cell? (a.add (i*sz+j))).getD undef) (λC=>by
     have M:0<len:=by
      rcases Se len with h|h
      ·exact absurd (Jt (hlen.trans h)) C
      ·exact h
     obtain⟨v,y,f,_,q,_⟩:=k 0 M;have:=World.cells?_block q ae;rw[Mq]at this;rw[<-Go.Eng.block_add a 0];exact this)
    (by rw[hlen];exact z) (λe' he=>by obtain⟨y,_,rfl⟩:=YV.1 he;exact hl y)
    (λi j e' x d o=>by obtain⟨c,p,_⟩:=cell i j e' x d o;rw[p];rfl)
    (λi j e' x d o=>by obtain⟨c,p,q⟩:=cell i j e' x d o;rw[p];exact q)
   rw[hlen]at this;exact this
  ·rw[Zqo,eM,bk];have:=ve (e:=b) l g ae (λi v s=>by obtain⟨y,f,p,q,F,G⟩:=r i v s;exact⟨y,p,G⟩);omega
def FB(xs:List (DataW H×List MemPlace))(i:Nat):Nat:=Rows.uptoBulkAll ((xs.drop i).map (·.1))
theorem Bp{xs:List (DataW H×List MemPlace)}{i:Nat}{a b:List D}(h:Ap a+1+FB xs (i+1)<=FB xs i)(k:Ap b<=FB xs (i+1)):Ap (a++b)<=FB xs i:=by rw[NE];omega
theorem EI{xs:List (DataW H×List MemPlace)}{i:Nat}{a:List D}(h:Ap a+1+FB xs (i+1)<=FB xs i):Ap a<=FB xs i:=ae
theorem EH{xs:List (DataW H×List MemPlace)}{a:List D}(h:Ap a<=FB xs 0):Ap a+1<=Rows.uptoBulk (.agg (xs.map (·.1))):=by rw[ZxF];exact Nat.succ_le_succ h
theorem ZwG{α:Type}{e:α->List D}{m i:Nat}{c:TypeId}{a:List Value}{xs:List (DataW H×List MemPlace)}(h:Ch enc P W m c e)(b:DataW.trod enc P W 0 (λ_=>true) true m c a=xs[i]?)(hi:i<xs.length):
  ∃v,LN W (e v) a/\Ap (e v)+1+FB xs (i+1)<=FB xs i:=by
 rw[Yd hi]at b;obtain⟨v,d,f⟩:=h _ _ b;refine⟨v,d,?_⟩;unfold FB;rw[H7 hi,YZ];simp only[Rows.uptoBulkAll];omega
theorem rf{α:Type}{e:α->List D}{m i k:Nat}{b:TypeId}{a:List Value}{xs:List (DataW H×List MemPlace)}(h:Ch enc P W m b e)(c:DataW.trod enc P W 0 (λ_=>true) true m b a=xs[i]?)(hx:xs.length=k)(hi:Nat.blt i k=true:=by kernel_rfl):
  ∃v,LN W (e v) a/\Ap (e v)+1+FB xs (i+1)<=FB xs i:=ZwG h c (by rw[hx];exact Yj hi)
theorem ge{α:Type}{e e':α->List D}(he:∀x,e x=e' x)(h:Ch enc P W n t e'):Ch enc P W n t e:=λcs x hx=>by obtain⟨v,a,b⟩:=h cs x hx;grind
theorem tU{α:Type}{e:α->List D}{q:Array Field}{r:Reach}{b:Nat}{v:Value}{d:DataW H}{p:List MemPlace}(rd:∀n,Ch enc P W n t e)(w:P.underlying t=some (.struct q))(z:Value.okWide P W r b t v)
  (h:DataW.Trod enc P W 0 (λ_=>true) true t v d p):∃x:α,(∀m l,RepA W (· <W.heap.size) (λ_=>⟨0,false,0,0,[]⟩) m l (.agg ((e x).map .d)) v)/\Ap (e x)+1<=Rows.uptoBulk d:=by
 obtain⟨cs,rfl,_⟩:=okWide_struct w z;obtain⟨n,u⟩:=h;obtain⟨x,k,s⟩:=rd n _ _ u;have hl:(e x).length=cs.size:=by rw[k.1];simp[Value.cells]
 have key:∀(i:Nat) (c:Value),cs[i]?=some c->∃d,(e x)[i]?=some d/\RepD W (· <W.heap.size) d c:=λi c f=>by
  have g:i<(e x).length:=by grind
  obtain⟨j,a,o⟩:=k.2 i _ (Yd g);have:j=c:=by rw[YX]at a;have:cs.toList[i]?=some j:=a;grind
  grind
 refine⟨x,λm l=>.agg _ _ (by rw[YF,hl]) (λi c f=>?_) (λi y c hy f=>?_),s⟩
 ·obtain⟨d,_,a⟩:=key i c f;exact a.one
 ·obtain⟨d,a,o⟩:=key i c f;rw[YR,a]at hy;cases hy;exact .d _ _ o
theorem y4{r:Reach}{a:Nat}{v:Value}{d:DataW H}{p:List MemPlace}(e:P.underlying t=some .string)(g:Value.okWide P W r a t v)(h:DataW.Trod enc P W 0 (λ_=>true) true t v d p):
  ∃x:ByteArray,(∀S Hp m l,RepA W S Hp m l (.d (.str x)) v)/\x.size+1<=Rows.uptoBulk d:=by
 obtain⟨x,rfl⟩:=okWide_string e g;obtain⟨n,f⟩:=h;obtain⟨s,b,c,_⟩:=DataW.trod_string e f;have b:x=s:=by simpa[Value.cells]using b
 subst b;have c:d=.lit (.string x.data.toList):=congrArg Prod.fst c;subst c;refine⟨x,λ_ _ _ _=>.d _ _ (.str _),?_⟩;rw[sP];exact Yf _
def iF:Hp:=λ_=>⟨0,false,0,0,[]⟩
theorem ok0(m:Mu):Ok 0 iF m (· <W.heap.size) W:=⟨λ_ h=>h,λ_ _ h=>(by cases h),λ_ _ h=>(by cases h),λ_ _ _ _ h=>(by cases h),λ_ _ h=>(by cases h),⟨λ_ _ h=>(by cases h),λ_ _ h=>(by cases h),λ_ _ _ _ h=>(by cases h)⟩⟩
def pu(w:World)(S:Nat->Prop)(Hp:Hp)(m:Mu)(l:Nat):List AV->List Value->Prop
 |[],[]=>True
 |x::xs,v::vs=>RepA w S Hp m l x v/\pu w S Hp m l xs vs
 |_,_=>False
theorem zf{w:World}{S:Nat->Prop}{Hp:Hp}{m:Mu}{l:Nat}{xs:List AV}{vs:List Value}(h:pu w S Hp m l xs vs):LF w S Hp m l xs vs.toArray:=by
 suffices b:xs.length=vs.length/\∀(i:Nat) (x:AV) (v:Value),xs[i]?=some x->vs[i]?=some v->RepA w S Hp m l x v by exact⟨by simpa using b.1,λi x v hx e=>b.2 i x v hx (by simpa using e)⟩
 induction xs generalizing vs with
 |nil=>cases vs with
  |nil=>exact⟨rfl,λi x v h=>by simp at h⟩
  |cons _ _=>exact h.elim
 |cons x xs f=>cases vs with
  |nil=>exact h.elim
  |cons v vs=>
   obtain⟨c,d⟩:=f h.2;refine⟨by simp[c],λi y u hy a=>?_⟩;cases i with
   |zero=>simp at hy a;subst hy;subst a;exact h.1
   |succ i=>exact d i y u (by simpa using hy) (by simpa using a)
theorem Ztt{f:Func}{s:ChangeSpec}{r:World}{args:Array Value}{ds A:List (DataW H)}{e:List MemPlace}{u:TypeId}(C:DataW.Whole enc P f.params.toList s.vars false W args.toList ds A e)(c:s.vars=[])
  (k:laidOutB P=true) (z:∀t∈f.params.toList,P.readableRec t=true/\t<P.types.size) (g:f.resultTypes.toList=[u]) (L:P.underlying u=some .bool)
  (j:s.fn H (ds++A)={results:=[.lit (.bool true)],args:=ds }) (n:Below W.heap.size W r):s.post enc P f false true false false W args (.bool true) r:=by
 obtain⟨p,q,G,B,rfl,I,J⟩:=id C;rw[c]at B;obtain⟨rfl,rfl⟩:=trodVars_none B;refine⟨ds,[],p++[],[],p,[],C,?_,?_,?_,?_,λh=>by cases h⟩
 ·rw[j,g];have:(Value.bool true).resultList f.resultTypes.size=[.bool true]:=by have:f.resultTypes.size=1:=(by rw[<-Gt,g];rfl);rw[this];rfl
  rw[this];exact trodAll_cons_mk (shut_bool L _) trodAll_mk0
 ·rw[j];have key:∀(l:List TypeId) (vs:List Value) (m:List (DataW H)) (ps:List MemPlace),(∀t∈l,P.readableRec t=true/\t<P.types.size)->DataW.TrodAll enc P W 0 (λ_=>true) true l vs m ps->
    DataW.TrodAll enc P r 0 (λb=>decide (b<W.heap.size)) true l vs m ps:=by
   intro l
   induction l with
   |nil=>intro vs m ps _ h;obtain⟨rfl,rfl,rfl⟩:=trodAll_nil h;exact trodAll_mk0
   |cons t l M=>
    intro vs m ps y h;have w:=DataW.TrodAll.lt h;obtain⟨v,N,d,D,a,b,rfl,rfl,rfl,E,F⟩:=trodAll_cons h;exact trodAll_cons_mk (Below.trod k (y t (by simp)).1 (y t (by simp)).2 E n (λx hx=>w x (Ib _ hx))) (M _ _ _ (λt K=>y t (by simp[K])) F)
  exact key _ _ _ _ z G
 ·rw[c,j];exact rfl
 ·refine⟨n.os,n.output,λi hi=>?_⟩;rw[n.block i hi];cases W.heap[i]? with
  |none=>rfl
  |some o=>cases o<;>simp
end
end Go.Proofs.YtalafnjhcecdpaaGreatDoor
namespace Go.Proofs.YtalafnjhcecdpaaGreatDoor
set_option linter.all false
open Go Go.Eng
section
variable {H:Type} {enc:TypeId×Value->H} {W:World}
set_option maxRecDepth 100000
theorem zZ(n:Nat):Ch enc Tryz.prog W n 44 Ay:=λcs x hx=>by obtain⟨xs,m,rfl,rfl,c,a,b⟩:=DataW.trod_struct Tryz.underlying44 hx;obtain⟨v0,h,d⟩:=rf (EF Tryz.underlying3) (b 0 _ rfl) a;obtain⟨l,i,e⟩:=rf (EF Tryz.underlying3) (b 1 _ rfl) a;obtain⟨v2,j,f⟩:=rf (EF Tryz.underlying27) (b 2 _ rfl) a;obtain⟨v3,k,g⟩:=rf (EE Tryz.underlying9) (b 3 _ rfl) a;have q:=EH (Bp d (Bp e (Bp f (EI g))));exact⟨.mk v0 l v2 v3,⟨by rw[c];kernel_rfl,(h.at.app (i.at.app (j.at.app k.at)))⟩,q⟩
theorem ZuQ(n:Nat)(h:∀k,k<n->Ch enc Tryz.prog W k 33 Ae):Ch enc Tryz.prog W n 64 CY:=λcs x hx=>by obtain⟨xs,m,rfl,rfl,b,a,c⟩:=DataW.trod_struct Tryz.underlying64 hx;obtain⟨v0,f,d⟩:=rf (h m ae) (c 0 _ rfl) a;obtain⟨i,g,e⟩:=rf (h m ae) (c 1 _ rfl) a;have q:=EH (Bp d (EI e));exact⟨.mk v0 i,⟨by rw[b];kernel_rfl,(f.at.app g.at)⟩,q⟩
theorem ZtK(n:Nat)(h:∀k,k<n->Ch enc Tryz.prog W k 33 Ae):Ch enc Tryz.prog W n 42 BS:=λcs x hx=>by obtain⟨xs,m,rfl,rfl,b,a,c⟩:=DataW.trod_struct Tryz.underlying42 hx;obtain⟨v0,f,d⟩:=rf (EF Tryz.underlying3) (c 0 _ rfl) a;obtain⟨i,g,e⟩:=rf (h m ae) (c 1 _ rfl) a;have q:=EH (Bp d (EI e));exact⟨.mk v0 i,⟨by rw[b];kernel_rfl,(f.at.app g.at)⟩,q⟩
theorem fy(n:Nat):Ch enc Tryz.prog W n 33 Ae:=by
 induction n using Nat.strongRecOn with
 |ind n e=>
 intro cs x hx;obtain⟨xs,m,rfl,rfl,c,a,b⟩:=DataW.trod_struct Tryz.underlying33 hx;obtain⟨v0,s,f⟩:=rf (EF Tryz.underlying3) (b 0 _ rfl) a;obtain⟨A,t,g⟩:=rf (EF Tryz.underlying27) (b 1 _ rfl) a;obtain⟨v2,u,h⟩:=rf (EE Tryz.underlying9) (b 2 _ rfl) a;obtain⟨v3,v,i⟩:=rf (Do Tryz.underlying28 (by kernel_rfl:Tryz.prog.cellsOf 33=7) (by decide) (λx=>by rw[GE];rfl) (λk d=>(ge GE (e k ae)))) (b 3 _ rfl) a;obtain⟨v4,w,l⟩:=rf (Do Tryz.underlying29 (by kernel_rfl:Tryz.prog.cellsOf 64=14) (by decide) (λx=>by rw[LM];rfl) (λk d=>(ge LM (ZuQ k (λj r=>e j ae))))) (b 4 _ rfl) a;obtain⟨v5,y,o⟩:=rf (Do Tryz.underlying30 (by kernel_rfl:Tryz.prog.cellsOf 42=8) (by decide) (λx=>by rw[LH];rfl) (λk d=>(ge LH (ZtK k (λj r=>e j ae))))) (b 5 _ rfl) a;obtain⟨B,z,p⟩:=rf (Do Tryz.underlying31 (by kernel_rfl:Tryz.prog.cellsOf 44=4) (by decide) (λ_=>rfl) (λk d=>(zZ k))) (b 6 _ rfl) a;have q:=EH (Bp f (Bp g (Bp h (Bp i (Bp l (Bp o (EI p)))))));exact⟨.mk v0 A v2 v3 v4 v5 B,⟨by rw[c];kernel_rfl,(s.at.app (t.at.app (u.at.app (v.at.app (w.at.app (y.at.app z.at))))))⟩,q⟩
theorem zK(n:Nat):Ch enc Tryz.prog W n 53 CB:=λcs x hx=>by obtain⟨xs,m,rfl,rfl,b,a,c⟩:=DataW.trod_struct Tryz.underlying53 hx;obtain⟨v0,f,d⟩:=rf (EF Tryz.underlying3) (c 0 _ rfl) a;obtain⟨h,g,e⟩:=rf (EE Tryz.underlying9) (c 1 _ rfl) a;have q:=EH (Bp d (EI e));exact⟨.mk v0 h,⟨by rw[b];kernel_rfl,(f.at.app g.at)⟩,q⟩
theorem Of(n:Nat):Ch enc Tryz.prog W n 242 Cd:=λcs x hx=>by obtain⟨xs,m,rfl,rfl,b,a,c⟩:=DataW.trod_struct Tryz.underlying242 hx;obtain⟨v0,f,d⟩:=rf (EE Tryz.underlying9) (c 0 _ rfl) a;obtain⟨h,g,e⟩:=rf (fy m) (c 1 _ rfl) a;have q:=EH (Bp d (EI e));exact⟨.mk v0 h,⟨by rw[b];kernel_rfl,(f.at.app g.at)⟩,q⟩
theorem ZJC(n:Nat):Ch enc Tryz.prog W n 56 Au:=λcs x hx=>by obtain⟨xs,m,rfl,rfl,c,a,b⟩:=DataW.trod_struct Tryz.underlying56 hx;obtain⟨v0,p,d⟩:=rf (EF Tryz.underlying3) (b 0 _ rfl) a;obtain⟨A,r,e⟩:=rf (EE Tryz.underlying9) (b 1 _ rfl) a;obtain⟨v2,s,f⟩:=rf (EF Tryz.underlying3) (b 2 _ rfl) a;obtain⟨v3,t,g⟩:=rf (EF Tryz.underlying3) (b 3 _ rfl) a;obtain⟨v4,u,h⟩:=rf (zK m) (b 4 _ rfl) a;obtain⟨v5,v,i⟩:=rf (EE Tryz.underlying9) (b 5 _ rfl) a;obtain⟨B,w,j⟩:=rf (tD Tryz.underlying4) (b 6 _ rfl) a;obtain⟨C,y,l⟩:=rf (fy m) (b 7 _ rfl) a;obtain⟨D,z,o⟩:=rf (Do Tryz.underlying54 (by kernel_rfl:Tryz.prog.cellsOf 242=8) (by decide) (λ_=>rfl) (λk E=>(Of k))) (b 8 _ rfl) a;have q:=EH (Bp d (Bp e (Bp f (Bp g (Bp h (Bp i (Bp j (Bp l (EI o)))))))));exact⟨.mk v0 A v2 v3 v4 v5 B C D,⟨by rw[c];kernel_rfl,(p.at.app (r.at.app (s.at.app (t.at.app (u.at.app (v.at.app (w.at.app (y.at.app z.at))))))))⟩,q⟩
theorem i1(n:Nat):Ch enc Tryz.prog W n 195 CK:=λcs x hx=>by obtain⟨xs,m,rfl,rfl,b,a,c⟩:=DataW.trod_struct Tryz.underlying195 hx;obtain⟨v0,f,d⟩:=rf (EF Tryz.underlying3) (c 0 _ rfl) a;obtain⟨h,g,e⟩:=rf (EF Tryz.underlying3) (c 1 _ rfl) a;have q:=EH (Bp d (EI e));exact⟨.mk v0 h,⟨by rw[b];kernel_rfl,(f.at.app g.at)⟩,q⟩
theorem ZIx(n:Nat):Ch enc Tryz.prog W n 61 AD:=λcs x hx=>by obtain⟨xs,m,rfl,rfl,c,a,b⟩:=DataW.trod_struct Tryz.underlying61 hx;obtain⟨v0,j,e⟩:=rf (EE Tryz.underlying9) (b 0 _ rfl) a;obtain⟨s,l,f⟩:=rf (Do Tryz.underlying57 (by kernel_rfl:Tryz.prog.cellsOf 56=16) (by decide) (λ_=>rfl) (λk d=>(ZJC k))) (b 1 _ rfl) a;obtain⟨v2,o,g⟩:=rf (Do Tryz.underlying58 (by kernel_rfl:Tryz.prog.cellsOf 195=2) (by decide) (λ_=>rfl) (λk d=>(i1 k))) (b 2 _ rfl) a;obtain⟨v3,p,h⟩:=rf (Do Tryz.underlying59 (by kernel_rfl:Tryz.prog.cellsOf 9=1) (by decide) (λ_=>rfl) (λk d=>(EE Tryz.underlying9))) (b 3 _ rfl) a;obtain⟨v4,r,i⟩:=rf (Do Tryz.underlying54 (by kernel_rfl:Tryz.prog.cellsOf 242=8) (by decide) (λ_=>rfl) (λk d=>(Of k))) (b 4 _ rfl) a;have q:=EH (Bp e (Bp f (Bp g (Bp h (EI i)))));exact⟨.mk v0 s v2 v3 v4,⟨by rw[c];kernel_rfl,(j.at.app (l.at.app (o.at.app (p.at.app r.at))))⟩,q⟩
theorem zH(n:Nat):Ch enc Tryz.prog W n 164 CJ:=λcs x hx=>by obtain⟨xs,m,rfl,rfl,b,a,c⟩:=DataW.trod_struct Tryz.underlying164 hx;obtain⟨v0,g,d⟩:=rf (EE Tryz.underlying9) (c 0 _ rfl) a;obtain⟨j,h,e⟩:=rf (EF Tryz.underlying3) (c 1 _ rfl) a;obtain⟨v2,i,f⟩:=rf (Do Tryz.underlying54 (by kernel_rfl:Tryz.prog.cellsOf 242=8) (by decide) (λ_=>rfl) (λk l=>(Of k))) (c 2 _ rfl) a;have q:=EH (Bp d (Bp e (EI f)));exact⟨.mk v0 j v2,⟨by rw[b];kernel_rfl,(g.at.app (h.at.app i.at))⟩,q⟩
theorem ZHk(n:Nat):Ch enc Tryz.prog W n 108 BC:=λcs x hx=>by obtain⟨xs,m,rfl,rfl,c,a,b⟩:=DataW.trod_struct Tryz.underlying108 hx;obtain⟨v0,j,e⟩:=rf (EE Tryz.underlying9) (b 0 _ rfl) a;obtain⟨s,l,f⟩:=rf (tD Tryz.underlying4) (b 1 _ rfl) a;obtain⟨v2,o,g⟩:=rf (Do Tryz.underlying106 (by kernel_rfl:Tryz.prog.cellsOf 164=3) (by decide) (λ_=>rfl) (λk d=>(zH k))) (b 2 _ rfl) a;obtain⟨v3,p,h⟩:=rf (Do Tryz.underlying58 (by kernel_rfl:Tryz.prog.cellsOf 195=2) (by decide) (λ_=>rfl) (λk d=>(i1 k))) (b 3 _ rfl) a;obtain⟨v4,r,i⟩:=rf (Do Tryz.underlying54 (by kernel_rfl:Tryz.prog.cellsOf 242=8) (by decide) (λ_=>rfl) (λk d=>(Of k))) (b 4 _ rfl) a;have q:=EH (Bp e (Bp f (Bp g (Bp h (EI i)))));exact⟨.mk v0 s v2 v3 v4,⟨by rw[c];kernel_rfl,(j.at.app (l.at.app (o.at.app (p.at.app r.at))))⟩,q⟩
theorem zQ(n:Nat):Ch enc Tryz.prog W n 166 HE:=λcs x hx=>by obtain⟨xs,m,rfl,rfl,c,a,b⟩:=DataW.trod_struct Tryz.underlying166 hx;obtain⟨v0,i,d⟩:=rf (EE Tryz.underlying9) (b 0 _ rfl) a;obtain⟨r,j,e⟩:=rf (EE Tryz.underlying9) (b 1 _ rfl) a;obtain⟨v2,l,f⟩:=rf (EE Tryz.underlying9) (b 2 _ rfl) a;obtain⟨v3,o,g⟩:=rf (EF Tryz.underlying3) (b 3 _ rfl) a;obtain⟨v4,p,h⟩:=rf (Do Tryz.underlying54 (by kernel_rfl:Tryz.prog.cellsOf 242=8) (by decide) (λ_=>rfl) (λk s=>(Of k))) (b 4 _ rfl) a;have q:=EH (Bp d (Bp e (Bp f (Bp g (EI h)))));exact⟨.mk v0 r v2 v3 v4,⟨by rw[c];kernel_rfl,(i.at.app (j.at.app (l.at.app (o.at.app p.at))))⟩,q⟩
theorem zR(n:Nat):Ch enc Tryz.prog W n 112 Dv:=λcs x hx=>by obtain⟨xs,m,rfl,rfl,b,a,c⟩:=DataW.trod_struct Tryz.underlying112 hx;obtain⟨v0,h,d⟩:=rf (EE Tryz.underlying9) (c 0 _ rfl) a;obtain⟨l,i,e⟩:=rf (Do Tryz.underlying110 (by kernel_rfl:Tryz.prog.cellsOf 166=5) (by decide) (λ_=>rfl) (λk g=>(zQ k))) (c 1 _ rfl) a;obtain⟨v2,j,f⟩:=rf (Do Tryz.underlying54 (by kernel_rfl:Tryz.prog.cellsOf 242=8) (by decide) (λ_=>rfl) (λk g=>(Of k))) (c 2 _ rfl) a;have q:=EH (Bp d (Bp e (EI f)));exact⟨.mk v0 l v2,⟨by rw[b];kernel_rfl,(h.at.app (i.at.app j.at))⟩,q⟩
theorem zt(n:Nat):Ch enc Tryz.prog W n 26 Al:=λcs x hx=>by obtain⟨xs,m,rfl,rfl,b,a,c⟩:=DataW.trod_struct Tryz.underlying26 hx;obtain⟨v0,h,e⟩:=rf (Do Tryz.underlying22 (by kernel_rfl:Tryz.prog.cellsOf 61=5) (by decide) (λ_=>rfl) (λk d=>(ZIx k))) (c 0 _ rfl) a;obtain⟨l,i,f⟩:=rf (Do Tryz.underlying23 (by kernel_rfl:Tryz.prog.cellsOf 108=5) (by decide) (λ_=>rfl) (λk d=>(ZHk k))) (c 1 _ rfl) a;obtain⟨v2,j,g⟩:=rf (Do Tryz.underlying24 (by kernel_rfl:Tryz.prog.cellsOf 112=3) (by decide) (λ_=>rfl) (λk d=>(zR k))) (c 2 _ rfl) a;have q:=EH (Bp e (Bp f (EI g)));exact⟨.mk v0 l v2,⟨by rw[b];kernel_rfl,(h.at.app (i.at.app j.at))⟩,q⟩
end
end Go.Proofs.YtalafnjhcecdpaaGreatDoor
namespace Go.Eng
set_option linter.all false
open Go Go.RowKit
section
variable {σ ξ ρ α β γ:Type}
theorem Ez{B:Nat->Option (Lv Nat ξ ρ)}{N:Nat}(l:List α)(p:α->Bool)(f:Nat->ρ)(e:ξ)
  (hs:∀i x,l[i]?=some x->B i=some (if p x=true then .rt (f i)else .nx (i+1))) (he:B l.length=some (.ex e)) (hN:l.length<N):
  Aj B N 0=some (match l.findIdx? p with|some i=>.inr (f i)|none=>.inl e):=by
 suffices H:∀k i N,i+k=l.length->k<N->Aj B N i=some (match (l.drop i).findIdx? p with|some j=>.inr (f (i+j))|none=>.inl e)by have:=H l.length 0 N ae hN;simpa using this
 intro k
 induction k with
 |zero=>
  intro i N hi hN;obtain⟨N,rfl⟩:∃m,N=m+1:=⟨N-1,ae⟩;have:i=l.length:=ae
  subst this;rw[Aj,he,R7];rfl
 |succ k b=>
  intro i N hi hN;obtain⟨N,rfl⟩:∃m,N=m+1:=⟨N-1,ae⟩;have a:i<l.length:=ae
  rw[Aj,hs i l[i] (Yd a),H7 a,List.findIdx?_cons];cases c:p l[i]with
  |true=>simp
  |false=>
   simp only[Yi,YC];rw[b (i+1) N ae ae];cases(List.drop (i+1) l).findIdx? p with
   |none=>rfl
   |some j=>simp[YM,ON 1 j]
def NO(R:List α->α->Option ρ):List α->List α->Option ρ
 |_,[]=>none
 |p,x::l=>match R p x with
  |some r=>some r
  |none=>NO R (p++[x]) l
theorem ZvJ{B:σ->Option (Lv σ ξ ρ)}{N:Nat}(l:List α)(S:List α->β)(R:List α->α->Option ρ)(mk:Nat->β->σ)(e:β->ξ)
  (hs:∀i x,l[i]?=some x->B (mk i (S (l.take i)))=some (match R (l.take i) x with|some r=>.rt r|none=>.nx (mk (i+1) (S (l.take i++[x])))))
  (he:B (mk l.length (S l))=some (.ex (e (S l)))) (hN:l.length<N):Aj B N (mk 0 (S []))=some ((NO R [] l).elim (.inl (e (S l))) .inr):=by
 suffices H:∀k i N,i+k=l.length->k<N->Aj B N (mk i (S (l.take i)))=some ((NO R (l.take i) (l.drop i)).elim (.inl (e (S l))) .inr)by have:=H l.length 0 N ae hN;grind
 intro k
 induction k with
 |zero=>
  intro i N hi hN;obtain⟨N,rfl⟩:∃m,N=m+1:=⟨N-1,ae⟩;have:i=l.length:=ae
  subst this;rw[Aj,OU,he,R7];rfl
 |succ k b=>
  intro i N hi hN;obtain⟨N,rfl⟩:∃m,N=m+1:=⟨N-1,ae⟩;have a:i<l.length:=ae
  rw[Aj,hs i l[i] (Yd a),H7 a,NO];cases R (l.take i) l[i]with
  |some r=>rfl
  |none=>
   have:=b (i+1) N ae ae;rw[H6 a]at this;exact this
theorem qY{R:List α->α->Option ρ}(h:∀p x,R p x=none):∀(l p:List α),NO R p l=none
 |[],p=>rfl
 |x::l,p=>by rw[NO,h];exact qY h l _
theorem DB{B:σ->Option (Lv σ ξ ρ)}{N:Nat}(l:List α)(S:List α->β)(mk:Nat->β->σ)(e:β->ξ)
  (hs:∀i x,l[i]?=some x->B (mk i (S (l.take i)))=some (.nx (mk (i+1) (S (l.take i++[x])))))
  (he:B (mk l.length (S l))=some (.ex (e (S l)))) (hN:l.length<N):Aj B N (mk 0 (S []))=some (.inl (e (S l))):=by
 rw[ZvJ l S (λ_ _=>none) mk e hs he hN,qY λ_ _=>rfl];rfl
theorem sO{B:σ->Option (Lv σ ξ ρ)}(I:Nat->σ->Prop)(Q:ξ ⊕ ρ->Prop)
  (h:∀k v,I k v->∃o,B v=some o/\match o with|.nx c=>∃k',k'<k/\I k' c|.ex b=>Q (.inl b)|.rt y=>Q (.inr y)):
  ∀N k v,k<N->I k v->∃o,Aj B N v=some o/\Q o
 |0,k,v,d,_=>absurd d (Y2 _)
 |N+1,k,v,d,g=>by
  obtain⟨o,e,a⟩:=h k v g;rw[Aj,e];cases o with
  |nx c=>obtain⟨k',i,f⟩:=a;exact sO I Q h N k' c ae f
  |ex b=>exact⟨_,rfl,a⟩
  |rt y=>exact⟨_,rfl,a⟩
theorem A5{l:List α}{i:Nat}{x:α}(h:l[i]?=some x):(i:Int)<(l.length:Int):=by grind
theorem AM{n:Nat}(h:n<4611686018427387904):n<Ah:=h
end
end Go.Eng
namespace Go.Proofs.YtalafnjhcecdpaaGreatDoor
set_option linter.all false
open Go Go.Eng
def Ok{α:Type}(Q:α->Prop)(o:Option α):Prop:=∃y,o=some y/\Q y
section
variable {α β γ σ ξ ρ:Type} {Q:β->Prop} {P:α->Prop}
theorem AC{y:β}(h:Q y):Ok Q (some y):=⟨y,rfl,h⟩
theorem AH{m:Option α}{k:α->Option β}(h:Ok P m)(a:∀y,P y->Ok Q (k y)):Ok Q (m.bind k):=by obtain⟨y,rfl,h⟩:=h;exact a y h
theorem BW{xs:List α}{i:Nat}{k:α->Option β}(h:i<xs.length)(a:∀x,xs[i]?=some x->x∈xs->Ok Q (k x)):Ok Q (xs[i]?.bind k):=by rw[Yd h];exact a _ (Yd h) (Hc h)
theorem AL{b:Bool}{x y:Option β}(h:b=true->Ok Q x)(a:b=false->Ok Q y):Ok Q (if b=true then x else y):=by
 cases b
 ·exact a rfl
 ·exact h rfl
theorem AN{c:Prop}{d:Decidable c}{a:Option β}(b:c)(h:Ok Q a):Ok Q (if c then a else none):=by rw[Ym b];exact h
theorem mT{lo hi:Bd}{n:Nat}{a:Option β}(b:lo.c/\hi.c/\lo.vl 0<=hi.vl n/\hi.vl n<=n)(h:Ok Q a):Ok Q (if lo.c/\hi.c/\lo.vl 0<=hi.vl n/\hi.vl n<=n then a else none):=by rw[Ym b];exact h
theorem Bq{b:Bool}{m:Option α}{x:Option β}(h:b=true->Ok P m)[Inhabited α](d:(b=true->P (m.getD default))->Ok Q x):Ok Q (if(b=true->m.isSome=true)then x else none):=by rw[Ym λe=>by obtain⟨y,h,_⟩:=h e;rw[h];rfl];refine d λe=>?_;obtain⟨y,a,c⟩:=h e;rw[a];exact c
theorem GD{b:Bool}{xs:List α}{i:Int}{x:Option β}[Rw α](h:b=true->0<=i/\i<xs.length)(c:(b=true->xs[i.toNat]?=some (xs.getD i.toNat Rw.z)/\xs.getD i.toNat Rw.z∈xs)->Ok Q x):Ok Q (if(b=true->0<=i/\i<xs.length)then x else none):=by
 rw[Ym h];refine c λe=>?_;have d:=h e;have a:i.toNat<xs.length:=ae
 rw[Yg,Yd a];exact⟨rfl,Hc a⟩
theorem Bu{B:σ->Option (Lv σ ξ ρ)}{N:Nat}{v:σ}(I:σ->Prop)(μ:σ->Nat){A:ξ->Prop}{R:ρ->Prop}(d:I v)(hN:μ v<N)
  (hs:∀v,I v->Ok (λo=>match o with|.nx c=>I c/\μ c<μ v|.ex b=>A b|.rt y=>R y) (B v)):Ok (Sum.elim A R) (Aj B N v):=
 sO (λk v=>I v/\μ v<=k) (Sum.elim A R) (λk v h=>by
  obtain⟨o,e,a⟩:=hs v h.1;refine⟨o,e,?_⟩;cases o with
  |nx c=>exact⟨μ c,by have:=a.2;have:=h.2;omega,a.1,Yf _⟩
  |ex b=>exact a
  |rt y=>exact a) N (μ v) v hN ⟨d,Yf _⟩
theorem BM{m:Option (ξ ⊕ ρ)}{A:ξ->Prop}{R:ρ->Prop}{f:ξ->Option β}{g:ρ->Option β}(h:Ok (Sum.elim A R) m)(hx:∀b,A b->Ok Q (f b))(a:∀r,R r->Ok Q (g r)):Ok Q (m.bind (Sum.elim f g)):=by
 obtain⟨y,rfl,h⟩:=h;cases y with
 |inl b=>exact hx b h
 |inr r=>exact a r h
theorem Ok.mono{a:β->Prop}{o:Option β}(h:Ok Q o)(k:∀y,Q y->a y):Ok a o:=by obtain⟨y,b,c⟩:=h;exact⟨y,b,k y c⟩
theorem Ok.some{o:Option β}(h:Ok Q o):o.isSome=true:=by obtain⟨y,a,b⟩:=h;rw[a];rfl
end
abbrev Tr{α:Type}:α->Prop:=λ_=>True
abbrev No{α:Type}:α->Prop:=λ_=>False
abbrev Ts{α β:Type}:α ⊕ β->Prop:=Sum.elim Tr Tr
theorem wG:(⟨#[]⟩:ByteArray).size=0:=rfl
theorem AX{p:Prop}(h:p:=by first|trivial|assumption|contradiction|omega|grind|(simp only[Bd.c,Bd.vl,ByteArray.size_append,iT,wG]at*;grind)):p:=h
theorem Cg{p:Prop}(h:p:=by first|trivial|assumption|contradiction|omega|solve_by_elim|(simp only[Yb,YB,YO,Ia,Ic,Yr,YE]at*;omega)|grind):p:=h
theorem TG(x:Int):Ok Tr (qg x):=⟨_,rfl,trivial⟩
theorem S4(x:Int):Ok Tr (qj x):=⟨_,rfl,trivial⟩
theorem oQ(x:Val):Ok Tr (PK x):=⟨_,rfl,trivial⟩
theorem oG(x:Int):Ok Tr (Lj x):=⟨_,rfl,trivial⟩
theorem ob(x:Int):Ok Tr (PE x):=by
 dsimp only[PE,br,lr,br,rem]
 (repeat' (first|with_reducible (first|refine AL (λ_=>?_) λ_=>?_|refine AC ?_|refine AN ?_ ?_)))<;>exact Cg
theorem a2(x:ByteArray):Ok Tr (bU x):=by
 dsimp only[bU,Uo,P2,PU,br,lr,br]
 (repeat' (first|with_reducible (first|refine AL (λ_=>?_) λ_=>?_|refine AC ?_|refine AN ?_ ?_)))<;>exact Cg
theorem ZQ5(x:ByteArray)(n:Int):Ok Tr (bW x n):=by
 dsimp only[bW,dH,Un,T6,PV,PW,TS,br,lr,br]
 (repeat' (first|with_reducible (first|refine AL (λ_=>?_) λ_=>?_|refine AC ?_|refine AN ?_ ?_)))<;>exact Cg
theorem aM(x:ByteArray):Ok Tr (b9 x):=by
 dsimp only[b9,br,lr,br]
 (repeat' (first|with_reducible (first|refine AL (λ_=>?_) λ_=>?_|refine AC ?_|refine AN ?_ ?_)))<;>exact Cg
def Mc(x:Fld):Prop:=(x.card≠5->1<=x.card/\x.card<=4/\x.key=0)/\(x.card=5->x.key=1\/x.key=2\/x.key=3\/x.key=4\/x.key=5\/x.key=7)
theorem wy(x:Fld):Ok (λb=>b=true->Mc x) (bS x):=by
 unfold Mc;dsimp only[bS,br,wg,lr,br]
 (repeat' (first|with_reducible (first|refine AL (λ_=>?_) λ_=>?_|refine AC ?_|refine AN ?_ ?_)))<;>(intro h;first|(cases h;done)|(simp only[Yb,YO,Sf,Yr,YE]at*;omega))
theorem bt(x:ByteArray)(i a b:Int)(h:0<=i):Ok Tr (M3 x i a b):=by
 dsimp only[M3,vz,lr,A1,Gk]
 (repeat' (first|with_reducible (first|refine AL (λ_=>?_) λ_=>?_|refine AC ?_|refine AN ?_ ?_)))<;>exact Cg
theorem oY(x:ByteArray)(i n:Int)(h:0<=i)(a:i<=2097152)(b:n<=9):Ok Tr (Ll x i n):=by
 have q:Ok Ts (Aj (LI x i n) Ah 0):=by
  refine Bu (λ_:Nat=>True) (λv:Nat=>(n-v).toNat) trivial ?_ λv _=>?_
  ·unfold Ah;omega
  dsimp only[LI,br,vs,Aq,ln,Af,cl,wa,wi,br]
  (repeat' (first|with_reducible (first|refine AL (λ_=>?_) λ_=>?_|refine AC ?_)|(with_reducible apply AH;(exact bt _ _ _ _ ae);intro _ _)|with_reducible refine AN ?_ ?_))<;>exact Cg
 dsimp only[Ll,lr,lc]
 (repeat' (first|with_reducible (first|refine AL (λ_=>?_) λ_=>?_|refine AC ?_)|(with_reducible apply BM;(exact q);all_goals(intro _ _;try dsimp only))|with_reducible refine AN ?_ ?_))<;>exact Cg
set_option maxRecDepth 20000 in
theorem ZQM(x:ByteArray)(i:Int)(h:0<=i)(h1:i<x.size)(h2:x.size<=1048576):Ok (λy=>0<=y/\y<=4) (PN x i):=by
 dsimp only[PN,br,vg,lr,Ax,wi,br,RE]
 (repeat' (first|with_reducible (first|refine AL (λ_=>?_) λ_=>?_|refine AC ?_|refine BW ?_ λ_ _ _=>?_)|(with_reducible apply AH;(exact bt _ _ _ _ ae);intro _ _)|(with_reducible apply AH;(exact oY _ _ _ ae ae ae);intro _ _)|(with_reducible apply Bq;(exact λ_=>bt _ _ _ _ ae);intro _)|(with_reducible apply Bq;(exact λ_=>oY _ _ _ ae ae ae);intro _)|with_reducible refine AN ?_ ?_))<;>exact Cg
end Go.Proofs.YtalafnjhcecdpaaGreatDoor
