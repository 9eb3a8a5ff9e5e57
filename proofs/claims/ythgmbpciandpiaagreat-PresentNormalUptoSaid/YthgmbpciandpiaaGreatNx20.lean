import Derived.Test.YthgmbpciandpiaaGreatNx19
import Derived.Test.YthgmbpciandpiaaGreatNx00
namespace Go.Proofs.YthgmbpciandpiaaGreat
set_option maxRecDepth 100000
set_option linter.all false
open Go Go.Eng
abbrev rL:Msg×Bool→AV:=fun y=>.tup [.agg ((AE y.1).map .d),vB y.2]
def ax(a:Scm)(b:ByteArray):PT 0 (Msg×Bool):=wg<|cs Tryz.prog 108 [vL AE a.messages,.fn (.func 109) [] [.ptr (1,3) 1 0]] [(1,3)] [((1,3),⟨1,true,9,1,[vS b]⟩)] (UH a.messages (fun(z0:Msg)=>Mj z0 b)) (fun y=>.tup [.agg ((AE y.1).map .d),vB y.2]) fun c=>wg<|lr rL nG (c.1,c.2)
def OY(a:Scm)(b:ByteArray):Option (Msg×Bool):=(ax a b).m
theorem UE(b:Scm)(a:ByteArray):KC Tryz.prog 71 [.agg ((Al b).map .d),vS a] (OY b a) rL:=Au Tryz.func71 Tryz.ntmps71 Aa [.cell 4 61,.tmp 5] fun C co y hm c d=>Ap co Aa Ac (ax b a) hm d fun r g=>⟨fun y hy=>B2 (ZWh b.messages (fun(z0:Msg)=>Mj z0 a)) hy co g [] [((1,3),⟨1,true,9,1,[vS a]⟩)] (AP [(1,.fn (.func 109) [] [.ptr (r.κ (1,3)) (r.γ (1,3)+1) 0])]) (fun h e i=>(fun z0 y f=>DY (ZVe z0 a) f co g [((1,3),⟨1,true,9,1,[vS a]⟩)] [] e (by simp) (fun _=>.top) (fun _ _=>trivial) (fun l H=>⟨fun _=>⟨rfl,by kernel_rfl⟩,by kernel_rfl,trivial⟩))) (fun H=>trivial),fun j=>id⟩
abbrev rx:Acs×Bool→AV:=fun y=>.tup [.agg ((Cc y.1).map .d),vB y.2]
def dZ(a:Scm)(c:ByteArray):PT 0 (Acs×Bool):=wg<|cl (UE a c) fun b=>wg<|wg<|wg<|wg<|lr rx nG ((.mk b.1 a:Acs),b.2)
def U0(a:Scm)(b:ByteArray):Option (Acs×Bool):=(dZ a b).m
theorem Tu(a:Scm)(b:ByteArray):KC Tryz.prog 43 [.agg ((Al a).map .d),vS b] (U0 a b) rx:=Au Tryz.func43 Tryz.ntmps43 Aa [.cell 4 68,.tmp 5] fun C co y hm c d=>Ap co Aa Ac (dZ a b) hm d fun r g=>fun e=>id
abbrev Uj:Ad×Blk:=kk 4 56 16 [vI 0,vS ⟨#[]⟩,vI 0,vI 0,vI 0,vS ⟨#[]⟩,vS ⟨#[]⟩,vB false,vI 0,.d (.int .u64 0),vS ⟨#[]⟩,.e0,.e0,.e0,.e0,.e0]
abbrev Rf:Fld×Bool→AV:=fun y=>.tup [.agg ((Ao y.1).map .d),vB y.2]
def sh(a:Fld→Option Bool):Cl:=fun no l H θ=>(∀(z0:Fld) y,a z0=some y→CH Tryz.prog l no H (θ 1) [.agg ((Ao z0).map .d)] (vB y))
def xQ(a:List Fld):Nat→St:=fun b=>Ab [(1,.fn (.yield 1) [] []),pp 4,(9,vL Ao a),(10,vN a.length),(11,vN b)] [Uj]
def y1:Unit→Nat×St:=fun _=>(0,Ab [pp 4] [Uj])
def SM(c:List Fld)(d:Fld→Option Bool)(a:Nat):PT 0 (Lv (Nat) (Unit) (Fld×Bool)):=br (decide ((a:Int)<(c.length:Int))) (ix c a fun b=>wg<|wg<|cf Tryz.prog 1 [.agg ((Ao b).map .d)] (d b) (fun y=>vB y) fun e=>br e (wg<|wg<|Ar Rf nG (b,true)) (vs (wa a 1)<|ln (xQ c) (a+1))) (Ai (y1) ())
def QO(b:List Fld)(a:Fld→Option Bool):Nat→Option (Lv (Nat) (Unit) (Fld×Bool)):=fun c=>(SM b a c).m
def dj:PT 0 (Fld×Bool):=wg<|wg<|lr Rf nG ((.mk 0 ⟨#[]⟩ 0 0 (.mk 0 ⟨#[]⟩:Typ) ⟨#[]⟩ false (.mk 0 0 ⟨#[]⟩ [] [] [] []:Val) []:Fld),false)
def dB(a:List Fld)(b:Fld→Option Bool):PT 0 (Fld×Bool):=vz (Ah a)<|lc (Ab [(1,.fn (.yield 1) [] []),pp 4,(9,vL Ao a),(10,vN a.length),(11,vI 0)] [Uj]) ((An (QO a b) Aj 0).bind (Sum.elim (fun _=>(dj).m) some))
def cj(b:List Fld)(a:Fld→Option Bool):PT 0 (Fld×Bool):=lc (Ab [(0,vL Ao b),(1,.fn (.yield 1) [] []),pp 4] [Uj]) ((dB b a).m)
def UN(b:List Fld)(a:Fld→Option Bool):Option (Fld×Bool):=(cj b a).m
theorem ZKR{C:Cx}(co:CO C 0)(b:List Fld)(a:Fld→Option Bool)(f:(sh a) C.no C.l C.H0 C.θ):KL Tryz.prog (AB tl) 21 C (pa [0,0,1,0,1] (Aw Tryz.f87)) [.cell 4 56,.tmp 5] 0 (xQ b) (y1) Rf nG (QO b a):=fun h _ hm Q c e d=>Av co Aa Ac (SM b a h) (Ae [1,4,9,10,11] Ep) (Ae [4] Ep) e hm d fun r g=>⟨fun i=>⟨⟨fun y hy=>f _ y hy,by intro r;kernel_rfl,by intro r y;kernel_rfl⟩,fun j=>⟨id,id⟩⟩,id⟩
theorem ZZC(c:List Fld)(a:Fld→Option Bool):KO Tryz.prog 87 0 [vL Ao c,.fn (.yield 1) [] []] [] (sh a) (UN c a) Rf nG:=Bi Tryz.func87 Tryz.ntmps87 Aa [.cell 4 56,.tmp 5] 0 (fun C co e y hm d b=>Ak co Aa Ac 1 (cj c a) (Ae [0,1,4] Ep) nl nH hm b fun r g=>fun _ hm b=>sq (Ak co Aa Ac 1 (dB c a) (Ae [1,4,9,10,11] Ep) nl nH hm b fun r g=>fun _ hm b=>bk 0 (lo (AF (ZKR co c a e) nH hm b (fun _ hm=>Ap co Aa Ac (dj) hm b fun r g=>id)))))
abbrev rO:Bool→AV:=fun y=>vB y
@[reducible] def r8(w0:Int):Bool→List Blk:=fun y=>[⟨0,true,3,1,[vI w0]⟩]
def yD(a:Fld)(w0:Int):PT 1 (Bool):=wg<|wg<|lr rO (r8 w0) (decide (a.num=w0))
def Mo(a:Fld)(w0:Int):Option (Bool):=(yD a w0).m
theorem ZY7(a:Fld)(w0:Int):KO Tryz.prog 88 1 [.agg ((Ao a).map .d),.ptr (0,0) 0 0] [⟨0,true,3,1,[vI w0]⟩] (fun _ _ _ _=>True) (Mo a w0) rO (r8 w0):=Bi Tryz.func88 Tryz.ntmps88 Aa [.tmp 3] 1 (fun C co d y hm b c=>Ap co Aa Ac (yD a w0) hm c fun r g=>id) (hB:=fun y=>⟨.inr (by kernel_rfl),rfl,trivial⟩)
abbrev rD:Fld×Bool→AV:=fun y=>.tup [.agg ((Ao y.1).map .d),vB y.2]
def Z7(a:Msg)(b:Int):PT 0 (Fld×Bool):=wg<|cs Tryz.prog 87 [vL Ao a.fields,.fn (.func 88) [] [.ptr (1,3) 1 0]] [(1,3)] [((1,3),⟨1,true,3,1,[vI b]⟩)] (UN a.fields (fun(z0:Fld)=>Mo z0 b)) (fun y=>.tup [.agg ((Ao y.1).map .d),vB y.2]) fun c=>wg<|lr rD nG (c.1,c.2)
def iI(a:Msg)(b:Int):Option (Fld×Bool):=(Z7 a b).m
theorem LV(b:Msg)(a:Int):KC Tryz.prog 51 [.agg ((AE b).map .d),vI a] (iI b a) rD:=Au Tryz.func51 Tryz.ntmps51 Aa [.cell 4 56,.tmp 5] fun C co y hm c d=>Ap co Aa Ac (Z7 b a) hm d fun r g=>⟨fun y hy=>B2 (ZZC b.fields (fun(z0:Fld)=>Mo z0 a)) hy co g [] [((1,3),⟨1,true,3,1,[vI a]⟩)] (AP [(1,.fn (.func 88) [] [.ptr (r.κ (1,3)) (r.γ (1,3)+1) 0])]) (fun h e i=>(fun z0 y f=>DY (ZY7 z0 a) f co g [((1,3),⟨1,true,3,1,[vI a]⟩)] [] e (by simp) (fun _=>.top) (fun _ _=>trivial) (fun l H=>⟨fun _=>⟨rfl,by kernel_rfl⟩,by kernel_rfl,trivial⟩))) (fun H=>trivial),fun j=>id⟩
abbrev QZ:Acs×Fld×Int→AV:=fun y=>.tup [.agg ((Cc y.1).map .d),.agg ((Ao y.2.1).map .d),vI y.2.2]
def K5(a:Acs×Bool)(b:Fld×Bool):PT 0 (Acs×Fld×Int):=lr QZ nG (a.1,b.1,0)
def K8(a:Acs×Bool)(b:Fld×Bool):PT 0 (Acs×Fld×Int):=vw (.fzb 9 [9])<|vw (.fzb 11 [11])<|vw .sep<|wg<|wg<|lc (Ab [pp 6,pp 7,(8,vI 0)] [kk 6 68 8 (cD (Cc a.1)),kk 7 56 16 (cD (Ao b.1))]) ((K5 a b).m)
def Lb(c:Scm)(d:ByteArray)(e:Int):PT 0 (Acs×Fld×Int):=wg<|cl (Tu c d) fun a=>wg<|br (!a.2) (wg<|wg<|wg<|lr QZ nG (a.1,(.mk 0 ⟨#[]⟩ 0 0 (.mk 0 ⟨#[]⟩:Typ) ⟨#[]⟩ false (.mk 0 0 ⟨#[]⟩ [] [] [] []:Val) []:Fld),10)) (wg<|cl (LV a.1.m e) fun b=>wg<|br (!b.2) (wg<|wg<|wg<|lr QZ nG (a.1,(.mk 0 ⟨#[]⟩ 0 0 (.mk 0 ⟨#[]⟩:Typ) ⟨#[]⟩ false (.mk 0 0 ⟨#[]⟩ [] [] [] []:Val) []:Fld),8)) (lc (Ab [pp 6,pp 7,pp 9,pp 11] [kk 6 68 8 [vS ⟨#[]⟩,.e0,.e0,.e0,.e0,.e0,.e0,.e0],kk 7 56 16 [vI 0,vS ⟨#[]⟩,vI 0,vI 0,vI 0,vS ⟨#[]⟩,vS ⟨#[]⟩,vB false,vI 0,.d (.int .u64 0),vS ⟨#[]⟩,.e0,.e0,.e0,.e0,.e0],kk 9 68 8 (cD (Cc a.1)),kk 11 56 16 (cD (Ao b.1))]) ((K8 a b).m)))
def Gg(a:Scm)(b:ByteArray)(c:Int):Option (Acs×Fld×Int):=(Lb a b c).m
theorem ZXv(b:Scm)(c:ByteArray)(d:Int):KC Tryz.prog 25 [.agg ((Al b).map .d),vS c,vI d] (Gg b c d) QZ:=Au Tryz.func25 Tryz.ntmps25 Aa [.cell 6 68,.cell 7 56,.tmp 8] fun C co y hm e a=>Ak co Aa Ac 5 (Lb b c d) (Ae [6,7,9,11] [((1,6),false),((1,7),false),((1,9),false),((1,11),false)]) nl nH hm a fun r g=>fun f=>⟨id,fun h=>⟨id,fun _ hm a=>sq (Fp co Aa Ac (.fst 0 (.fst 1 (.fst 2 (.fst 3 (.fst 4 .nil))))) [9,11] (K8 f h) (Ae [6,7,8] [((1,6),false),((1,7),false)]) hm a fun r g=>fun _ hm a=>Ap co Aa Ac (K5 f h) hm a fun r g=>id)⟩⟩
abbrev Q6:Int→AV:=fun y=>vI y
def se(a:Slt→Option Bool):Cl:=fun no l H θ=>(∀(z0:Slt) y,a z0=some y→CH Tryz.prog l no H (θ 1) [.agg ((BW z0).map .d)] (vB y))
def ZSh(a:List Slt):Nat→St:=fun b=>Ab [(0,vL Am a),(1,.fn (.yield 1) [] []),(7,vN a.length),(8,vN b)] []
def yn:Unit→Nat×St:=fun _=>(0,Ab [] [])
def SV(b:List Slt)(c:Slt→Option Bool)(a:Nat):PT 0 (Lv (Nat) (Unit) (Int)):=br (decide ((a:Int)<(b.length:Int))) (ix b a fun d=>cf Tryz.prog 1 [.agg ((BW d).map .d)] (c d) (fun y=>vB y) fun e=>br e (Ar Q6 nG (a:Int)) (vs (wa a 1)<|ln (ZSh b) (a+1))) (Ai (yn) ())
def QK(b:List Slt)(a:Slt→Option Bool):Nat→Option (Lv (Nat) (Unit) (Int)):=fun c=>(SV b a c).m
def dG:PT 0 (Int):=lr Q6 nG (-1)
def bG(a:List Slt)(b:Slt→Option Bool):PT 0 (Int):=vz (Ah a)<|lc (Ab [(0,vL Am a),(1,.fn (.yield 1) [] []),(7,vN a.length),(8,vI 0)] []) ((An (QK a b) Aj 0).bind (Sum.elim (fun _=>(dG).m) some))
def ZV(b:List Slt)(a:Slt→Option Bool):PT 0 (Int):=lc (Ab [(0,vL Am b),(1,.fn (.yield 1) [] [])] []) ((bG b a).m)
def Mk(b:List Slt)(a:Slt→Option Bool):Option (Int):=(ZV b a).m
theorem ZI3{C:Cx}(co:CO C 0)(b:List Slt)(a:Slt→Option Bool)(f:(se a) C.no C.l C.H0 C.θ):KL Tryz.prog (AB tl) 19 C (pa [0,0,1,0,1] (Aw Tryz.f55)) [.tmp 4] 0 (ZSh b) (yn) Q6 nG (QK b a):=fun h _ hm Q c e d=>Av co Aa Ac (SV b a h) (AH [0,1,7,8]) nl e hm d fun r g=>⟨fun i=>⟨⟨fun y hy=>f _ y hy,by intro r;kernel_rfl,by intro r y;kernel_rfl⟩,fun j=>⟨id,id⟩⟩,id⟩
theorem fK(c:List Slt)(a:Slt→Option Bool):KO Tryz.prog 55 0 [vL Am c,.fn (.yield 1) [] []] [] (se a) (Mk c a) Q6 nG:=Bi Tryz.func55 Tryz.ntmps55 Aa [.tmp 4] 0 (fun C co e y hm d b=>Ak co Aa Ac 1 (ZV c a) (AH [0,1]) nl nH hm b fun r g=>fun _ hm b=>sq (Ak co Aa Ac 1 (bG c a) (AH [0,1,7,8]) nl nH hm b fun r g=>fun _ hm b=>bk 0 (lo (AF (ZI3 co c a e) nH hm b (fun _ hm=>Ap co Aa Ac (dG) hm b fun r g=>id)))))
abbrev rH:Bool→AV:=fun y=>vB y
@[reducible] def rZ(w0:Int):Bool→List Blk:=fun y=>[⟨0,true,3,1,[vI w0]⟩]
def x0(a:Slt)(w0:Int):PT 1 (Bool):=wg<|wg<|lr rH (rZ w0) (decide (a.num=w0))
def OQ(a:Slt)(w0:Int):Option (Bool):=(x0 a w0).m
theorem ZZJ(a:Slt)(w0:Int):KO Tryz.prog 56 1 [.agg ((BW a).map .d),.ptr (0,0) 0 0] [⟨0,true,3,1,[vI w0]⟩] (fun _ _ _ _=>True) (OQ a w0) rH (rZ w0):=Bi Tryz.func56 Tryz.ntmps56 Aa [.tmp 3] 1 (fun C co d y hm b c=>Ap co Aa Ac (x0 a w0) hm c fun r g=>id) (hB:=fun y=>⟨.inr (by kernel_rfl),rfl,trivial⟩)
abbrev rp:Int→AV:=fun y=>vI y
def SI(a:List Slt)(b:Int):PT 0 (Int):=cs Tryz.prog 55 [vL Am a,.fn (.func 56) [] [.ptr (1,3) 1 0]] [(1,3)] [((1,3),⟨1,true,3,1,[vI b]⟩)] (Mk a (fun(z0:Slt)=>OQ z0 b)) (fun y=>vI y) fun c=>lr rp nG c
def U4(a:List Slt)(b:Int):Option (Int):=(SI a b).m
theorem ZXH(b:List Slt)(a:Int):KC Tryz.prog 26 [vL Am b,vI a] (U4 b a) rp:=Au Tryz.func26 Tryz.ntmps26 Aa [.tmp 4] fun C co y hm c d=>Ap co Aa Ac (SI b a) hm d fun r g=>⟨fun y hy=>B2 (fK b (fun(z0:Slt)=>OQ z0 a)) hy co g [] [((1,3),⟨1,true,3,1,[vI a]⟩)] (AP [(1,.fn (.func 56) [] [.ptr (r.κ (1,3)) (r.γ (1,3)+1) 0])]) (fun h e i=>(fun z0 y f=>DY (ZZJ z0 a) f co g [((1,3),⟨1,true,3,1,[vI a]⟩)] [] e (by simp) (fun _=>.top) (fun _ _=>trivial) (fun l H=>⟨fun _=>⟨rfl,by kernel_rfl⟩,by kernel_rfl,trivial⟩))) (fun H=>trivial),fun j=>id⟩
abbrev rP:Bool→AV:=fun y=>vB y
def QN(a:Int):PT 0 (Bool):=lr rP nG (decide ((1:Int)≤a)&&decide (a≤(9:Int)))
def KI(a:Int):Option (Bool):=(QN a).m
theorem LG(a:Int):KC Tryz.prog 90 [vI a] (KI a) rP:=Au Tryz.func90 Tryz.ntmps90 Aa [.tmp 2] fun C co y hm b c=>Ap co Aa Ac (QN a) hm c fun r g=>id
abbrev X9:Val→AV:=fun y=>.agg ((Ag y).map .d)
def dh(a:Int):PT 0 (Val):=cl (LG a) fun b=>br (!b) (wg<|lr X9 nG (.mk 0 0 ⟨#[]⟩ [] [] [] []:Val)) (wg<|lr X9 nG (.mk a 0 ⟨#[]⟩ [] [] [] []:Val))
def ZgR(a:Int):Option (Val):=(dh a).m
theorem ZXI(a:Int):KC Tryz.prog 57 [vI a] (ZgR a) X9:=Au Tryz.func57 Tryz.ntmps57 Aa [.cell 2 33] fun C co y hm b c=>Ap co Aa Ac (dh a) hm c fun r g=>fun d=>⟨id,id⟩
abbrev Lq:Val→AV:=fun y=>.agg ((Ag y).map .d)
def bp(a:Fld):PT 0 (Val):=wg<|br a.hasDefault (wg<|wg<|lr Lq nG a.dflt) (wg<|br (decide (a.card=(4:Int))) (wg<|lr Lq nG (.mk 11 0 ⟨#[]⟩ [] [] [] []:Val)) (wg<|br (decide (a.card=(5:Int))) (wg<|lr Lq nG (.mk 12 0 ⟨#[]⟩ [] [] [] []:Val)) (wg<|br (decide (a.type.kind=(10:Int))) (wg<|lr Lq nG (.mk 10 0 ⟨#[]⟩ [] [] [] []:Val)) (wg<|cl (ZXI a.type.kind) fun b=>wg<|lr Lq nG b))))
def iA(a:Fld):Option (Val):=(bp a).m
theorem ZY9(a:Fld):KC Tryz.prog 27 [.agg ((Ao a).map .d)] (iA a) Lq:=Au Tryz.func27 Tryz.ntmps27 Aa [.cell 2 33] fun C co y hm b c=>Ap co Aa Ac (bp a) hm c fun r g=>⟨id,⟨id,⟨id,⟨id,fun d=>id⟩⟩⟩⟩
abbrev E9:Val×Int→AV:=fun y=>.tup [.agg ((Ag y.1).map .d),vI y.2]
def Tn(f:Scm)(g:ByteArray)(b:Val)(c:Int):PT 0 (Val×Int):=wg<|cl (ZXv f g c) fun a=>wg<|wg<|br (!decide (a.2.2=(0:Int))) (wg<|lr E9 nG ((.mk 0 0 ⟨#[]⟩ [] [] [] []:Val),a.2.2)) (wg<|cl (ZXH b.slots c) fun d=>br (decide ((0:Int)≤d)) (wg<|B8 b.slots d fun e=>wg<|lr E9 nG (e.val,0)) (wg<|cl (ZY9 a.2.1) fun h=>wg<|lr E9 nG (h,0)))
def O3(a:Scm)(b:ByteArray)(c:Val)(d:Int):Option (Val×Int):=(Tn a b c d).m
theorem sm(a:Scm)(b:ByteArray)(c:Val)(d:Int):KC Tryz.prog 9 [.agg ((Al a).map .d),vS b,.agg ((Ag c).map .d),vI d] (O3 a b c d) E9:=Au Tryz.func9 Tryz.ntmps9 Aa [.cell 8 33,.tmp 9] fun C co y hm e f=>Ap co Aa Ac (Tn a b c d) hm f fun r g=>fun i=>⟨id,fun j=>⟨fun h=>id,fun k=>id⟩⟩
abbrev rj:Bool→AV:=fun y=>vB y
def bK(a:Val)(b:Int):PT 0 (Bool):=wg<|cl (ZXH a.slots b) fun c=>lr rj nG (decide ((0:Int)≤c))
def iU(a:Val)(b:Int):Option (Bool):=(bK a b).m
theorem Tf(a:Val)(b:Int):KC Tryz.prog 10 [.agg ((Ag a).map .d),vI b] (iU a b) rj:=Au Tryz.func10 Tryz.ntmps10 Aa [.tmp 4] fun C co y hm c d=>Ap co Aa Ac (bK a b) hm d fun r g=>fun e=>id
abbrev SW:Int→AV:=fun y=>vI y
@[reducible] def SR(a:List Slt):Int→List Blk:=fun y=>[⟨0,true,65,8,Af Am a⟩]
def xP(a:Slt→Option Bool):Cl:=fun no l H θ=>(∀(z0:Slt) y,a z0=some y→CH Tryz.prog l no H (θ 1) [.agg ((BW z0).map .d)] (vB y))
def Zu0(a:List Slt):Nat→St:=fun b=>Ab [(0,.ref (0,0) 0 0 a.length),(1,.fn (.yield 1) [] []),(7,vN a.length),(8,vN b)] [((0,0),⟨0,true,65,8,Af Am a⟩)]
def Zwe(a:List Slt):Unit→Nat×St:=fun _=>(0,Ab [] [((0,0),⟨0,true,65,8,Af Am a⟩)])
def Pv(a:List Slt)(c:Slt→Option Bool)(b:Nat):PT 1 (Lv (Nat) (Unit) (Int)):=br (decide ((b:Int)<(a.length:Int))) (vs (ir b a.length 8)<|ca a b fun d=>cf Tryz.prog 1 [.agg ((BW d).map .d)] (c d) (fun y=>vB y) fun e=>br e (Ar SW (SR a) (b:Int)) (vs (wa b 1)<|vz (fl a)<|ln (Zu0 a) (b+1))) (vz (fl a)<|Ai (Zwe a) ())
def V2(b:List Slt)(a:Slt→Option Bool):Nat→Option (Lv (Nat) (Unit) (Int)):=fun c=>(Pv b a c).m
def Pu(a:List Slt):PT 1 (Int):=lr SW (SR a) (-1)
def Pg(a:List Slt)(b:Slt→Option Bool):PT 1 (Int):=vz (A9 a.length)<|vz (fl a)<|lc (Ab [(0,.ref (0,0) 0 0 a.length),(1,.fn (.yield 1) [] []),(7,vN a.length),(8,vI 0)] [((0,0),⟨0,true,65,8,Af Am a⟩)]) ((An (V2 a b) Aj 0).bind (Sum.elim (fun _=>(Pu a).m) some))
def Pw(a:List Slt)(b:Slt→Option Bool):PT 1 (Int):=vz (fl a)<|lc (Ab [(0,.ref (0,0) 0 0 a.length),(1,.fn (.yield 1) [] [])] [((0,0),⟨0,true,65,8,Af Am a⟩)]) ((Pg a b).m)
def UO(b:List Slt)(a:Slt→Option Bool):Option (Int):=(Pw b a).m
theorem Zxm{C:Cx}(co:CO C 1)(b:List Slt)(a:Slt→Option Bool)(f:(xP a) C.no C.l C.H0 C.θ):KL Tryz.prog (AB tl) 19 C (pa [0,0,1,0,1] (Aw Tryz.f55)) [.tmp 4] 1 (Zu0 b) (Zwe b) SW (SR b) (V2 b a):=fun h _ hm Q c e d=>Av co Aa Ac (Pv b a h) (Ae [0,1,7,8] DQ) (Ae [] DQ) e hm d fun r g=>⟨fun i=>⟨⟨fun y hy=>f _ y hy,by intro r;kernel_rfl,by intro r y;kernel_rfl⟩,fun j=>⟨id,id⟩⟩,id⟩
theorem ZQk(b:List Slt)(a:Slt→Option Bool):KO Tryz.prog 55 1 [.ref (0,0) 0 0 b.length,.fn (.yield 1) [] []] [⟨0,true,65,8,Af Am b⟩] (xP a) (UO b a) SW (SR b):=Bi Tryz.func55 Tryz.ntmps55 Aa [.tmp 4] 1 (fun C co e y hm d c=>Ak co Aa Ac 1 (Pw b a) (Ae [0,1] DQ) nl nH hm c fun r g=>fun _ hm c=>sq (Ak co Aa Ac 1 (Pg b a) (Ae [0,1,7,8] DQ) nl nH hm c fun r g=>fun _ hm c=>bk 0 (lo (AF (Zxm co b a e) nH hm c (fun _ hm=>Ap co Aa Ac (Pu b) hm c fun r g=>id))))) (hB:=fun y=>⟨.inl (A6 _ _),rfl,trivial⟩)
abbrev Oo(a:List Slt):Ad×Blk:=((0,0),⟨0,true,65,8,Af Am a⟩)
abbrev X7:List Slt→AV:=fun y=>.ref (0,0) 0 0 y.length
@[reducible] def Zi:List Slt→List Blk:=fun y=>[⟨0,true,65,8,Af Am y⟩]
def sd(a:Slt→Option Bool):Cl:=fun no l H θ=>(∀(z0:Slt) y,a z0=some y→CH Tryz.prog l no H (θ 1) [.agg ((BW z0).map .d)] (vB y))
def bc(a:List Slt):Int×Int×List Slt→St:=fun(v2,v3,b)=>Ab [(0,.ref (0,0) 0 0 a.length),(1,.fn (.yield 1) [] []),(5,vI v2),(6,vI v3)] [((0,0),⟨0,true,65,8,Af Am b⟩)]
def xo(a:List Slt):Int×List Slt→Nat×St:=fun(c,b)=>(0,Ab [(0,.ref (0,0) 0 0 a.length),(5,vI c)] [((0,0),⟨0,true,65,8,Af Am b⟩)])
def SS(b:List Slt)(d:Slt→Option Bool)(v2:Int)(v3:Int)(a:List Slt):PT 1 (Lv (Int×Int×List Slt) (Int×List Slt) (List Slt)):=vz (A9 b.length)<|br (decide (v3<(b.length:Int))) (vs (CM v3 b.length 8)<|ca a v3.toNat fun c=>wg<|wg<|cf Tryz.prog 1 [.agg ((BW c).map .d)] (d c) (fun y=>vB y) fun e=>br (!e) (wg<|vs (CM v2 b.length 8)<|vs (st a v2.toNat c)<|Hm 0 ((Rw.f (c:Slt)).map .d) (fun _=>ud _)<|vs (wi (v2+1))<|vs (wi (v3+1))<|vz (fl (a.set v2.toNat c))<|ln (bc b) ((v2+1),(v3+1),a.set v2.toNat c)) (vs (wi (v3+1))<|vz (fl a)<|ln (bc b) (v2,(v3+1),a))) (vz (fl a)<|Ai (xo b) (v2,a))
def Qj(b:List Slt)(a:Slt→Option Bool):Int×Int×List Slt→Option (Lv (Int×Int×List Slt) (Int×List Slt) (List Slt)):=fun(v2,v3,c)=>(SS b a v2 v3 c).m
def cU(c:List Slt)(a:Int)(b:List Slt):PT 1 (List Slt):=sR c.length 0 (.it a) .no<|cr b (0+a.toNat) (c.length-a.toNat) [vI 0,vI 0,.d (.int .u64 0),vS ⟨#[]⟩,.e0,.e0,.e0,.e0]<|Hm 0 ([vI 0,vI 0,.d (.int .u64 0),vS ⟨#[]⟩,.e0,.e0,.e0,.e0]) (fun _=>ZuD (by kernel_rfl))<|JE 0 b (0+a.toNat) (c.length-a.toNat) [vI 0,vI 0,.d (.int .u64 0),vS ⟨#[]⟩,.e0,.e0,.e0,.e0]<|vw .sep<|sR c.length 0 .no (.it a)<|Ex (a.toNat=(b.take (0+a.toNat)).length) (fun E=>E.P (.ref (0,0) 0 0 a.toNat) ([⟨0,true,65,8,Af Am (b.take (0+a.toNat))⟩])) (b.take (0+a.toNat))
def aT(a:List Slt)(c:Slt→Option Bool)(b:Int):PT 1 (List Slt):=vs (wi (b+1))<|vz (fl a)<|lc (Ab [(0,.ref (0,0) 0 0 a.length),(1,.fn (.yield 1) [] []),(5,vI b),(6,vI (b+1))] [(Oo a)]) ((An (Qj a c) Aj (b,(b+1),a)).bind (Sum.elim (fun(e,d)=>(cU a e d).m) some))
def bU(a:List Slt)(b:Slt→Option Bool):PT 1 (List Slt):=cs Tryz.prog 55 [.ref (0,0) 0 0 a.length,.fn (.yield 1) [] []] [(0,0)] [(Oo a)] (UO a b) (fun y=>vI y) fun c=>br (decide (c=((-1):Int))) (lr X7 (Zi) a) (vz (fl a)<|lc (Ab [(0,.ref (0,0) 0 0 a.length),(1,.fn (.yield 1) [] []),(5,vI c)] [(Oo a)]) ((aT a b c).m))
def OR(b:List Slt)(a:Slt→Option Bool):Option (List Slt):=(bU b a).m
theorem ZK3{C:Cx}(co:CO C 1)(b:List Slt)(a:Slt→Option Bool)(f:(sd a) C.no C.l C.H0 C.θ):KL Tryz.prog (AB tl) 42 C (pa [0,0,1,0,1,1,1] (Aw Tryz.f49)) [.tmp 4] 1 (bc b) (xo b) X7 (Zi) (Qj b a):=fun(v2,v3,h) _ hm Q c e d=>Av co Aa Ac (SS b a v2 v3 h) (Ae [0,1,5,6] DQ) (Ae [0,5] DQ) e hm d fun r g=>⟨fun i=>⟨⟨fun y hy=>f _ y hy,by intro r;kernel_rfl,by intro r y;kernel_rfl⟩,fun j=>⟨id,id⟩⟩,id⟩
theorem ZYE(b:List Slt)(a:Slt→Option Bool):KO Tryz.prog 49 1 [.ref (0,0) 0 0 b.length,.fn (.yield 1) [] []] [⟨0,true,65,8,Af Am b⟩] (sd a) (OR b a) X7 (Zi):=Bi Tryz.func49 Tryz.ntmps49 Aa [.tmp 4] 1 (fun C co e y hm d c=>Ak co Aa Ac 3 (bU b a) (Ae [0,1,5] DQ) nl nH hm c fun r g=>⟨fun y hy=>B2 (ZQk b a) hy co g [(Oo b)] [] (AP [(1,r.θ 1)]) (fun m o f=>(fun z0 y i=>MU co g [(Oo b)] f (e z0 y i))) (fun H=>⟨fun _=>⟨rfl,Bz (A6 _ _) (by kernel_rfl)⟩,by kernel_rfl,trivial⟩),fun l=>⟨id,fun _ hm c=>sq (Ak co Aa Ac 1 (aT b a l) (Ae [0,1,5,6] DQ) nl nH hm c fun r g=>fun _ hm c=>bk 0 (lo (AF (ZK3 co b a e) nH hm c (fun(k,j) hm=>Ap co Aa Ac (cU b k j) hm c fun r g=>fun h c=>lfx (congrArg (fun n=>(.ref (0,0) 0 0 n:AV)) h) c))))⟩⟩) (hB:=fun y=>⟨.inl (A6 _ _),rfl,trivial⟩)
abbrev X8:List Slt→AV:=fun y=>.ref (0,0) 1 0 y.length
@[reducible] def Zj:List Slt→List Blk:=fun y=>[⟨1,true,65,8,Af Am y⟩]
def cL(a:List Slt):PT 1 (List Slt):=al Am a false fun b=>br b (vw .sep<|vw (.ads 2 2 65 8)<|mv 2 0 ([]:List Slt)<|lr X8 (Zj) ([]:List Slt)) (a0 a<|mv 7 0 a<|lr X8 (Zj) a)
def KE(a:List Slt):Option (List Slt):=(cL a).m
theorem Ub(a:List Slt):KO Tryz.prog 53 1 [vL Am a] [⟨0,false,0,0,[]⟩] (fun _ _ _ _=>True) (KE a) X8 (Zj):=Bi Tryz.func53 Tryz.ntmps53 Aa [.tmp 2] 1 (fun C co f y hm c d=>Ap co Aa Ac (cL a) hm d fun r g=>⟨fun e=>⟨id,id⟩,by intro b h;subst h;cases b<;>rfl⟩) (hB:=fun y=>⟨.inl (A6 _ _),rfl,trivial⟩)
abbrev rG:Bool→AV:=fun y=>vB y
@[reducible] def rY(w0:Int):Bool→List Blk:=fun y=>[⟨0,true,3,1,[vI w0]⟩]
def ZST(a:Slt)(w0:Int):PT 1 (Bool):=wg<|wg<|lr rG (rY w0) (decide (a.num=w0))
def UQ(a:Slt)(w0:Int):Option (Bool):=(ZST a w0).m
theorem ZZp(a:Slt)(w0:Int):KO Tryz.prog 54 1 [.agg ((BW a).map .d),.ptr (0,0) 0 0] [⟨0,true,3,1,[vI w0]⟩] (fun _ _ _ _=>True) (UQ a w0) rG (rY w0):=Bi Tryz.func54 Tryz.ntmps54 Aa [.tmp 3] 1 (fun C co d y hm b c=>Ap co Aa Ac (ZST a w0) hm c fun r g=>id) (hB:=fun y=>⟨.inr (by kernel_rfl),rfl,trivial⟩)
abbrev L6(a:Int):Ad×Blk:=kk 3 3 1 [vI a]
abbrev TX:Ad×Blk:=kk 4 33 7 [vI 0,.d (.int .u64 0),vS ⟨#[]⟩,.e0,.e0,.e0,.e0]
abbrev fc(a:Val):Ad×Blk:=kk 2 33 7 (cD (Ag a))
abbrev ro:Val→AV:=fun y=>.agg ((Ag y).map .d)
def aR(a:Val)(b:List Slt):PT 0 (Val):=wg<|wg<|vz (fr b)<|lr ro nG (.mk a.kind a.bits a.text a.list a.pairs b a.raws:Val)
def aQ(a:Val)(b:List Slt):PT 0 (Val):=wg<|vz (fl b)<|lc (Ab [pp 2,pp 4] [kk 2 33 7 [vI a.kind,.d (.int .u64 a.bits),vS a.text,vL AM a.list,vL Ay a.pairs,.ref (1,7) 0 0 b.length,vL A0 a.raws],TX,kk 7 65 8 (Af Am b)]) ((aR a b).m)
def bD(b:Val)(c:Int)(a:List Slt):PT 0 (Val):=vz (fl a)<|lc (Ab [pp 2,pp 4,(7,.ref (1,7) 0 0 a.length),(8,.fn (.func 54) [] [.ptr (1,3) 0 0])] [(fc b),(L6 c),TX,kk 7 65 8 (Af Am a)]) ((OR a (fun(z0:Slt)=>UQ z0 c)).bind fun d=>(aQ b d).m)
def bL(a:Val)(b:Int):PT 0 (Val):=wg<|lc (Ab [pp 2,pp 3,pp 4,(6,vL Am a.slots)] [(fc a),(L6 b),TX]) ((KE a.slots).bind fun c=>(bD a b c).m)
def b8(a:Val)(b:Int):PT 0 (Val):=lc (Ab [pp 2,pp 3,pp 4] [(fc a),(L6 b),TX]) ((bL a b).m)
def iy(a:Val)(b:Int):Option (Val):=(b8 a b).m
theorem fg(c:Val)(a:Int):KC Tryz.prog 24 [.agg ((Ag c).map .d),vI a] (iy c a) ro:=Au Tryz.func24 Tryz.ntmps24 Aa [.cell 4 33] fun C co y hm f b=>Ak co Aa Ac 1 (b8 c a) (Ae [2,3,4] [((1,2),false),((1,3),false),((1,4),false)]) nl nH hm b fun r g=>fun _ hm b=>sq (rg (BK co Aa 2 (bL c a) (Ae [2,3,4,6] [((1,2),false),((1,3),false),((1,4),false)]) hm b fun r g=>fun _ hm b=>Ig co hm 53 [vL Am c.slots] [(1,7)] ([((1,7),⟨0,false,0,0,[]⟩)]++[]) (fun z=>.ref (1,7) 1 0 z.length) (fun z=>[((1,7),⟨1,true,65,8,Af Am z⟩)]) [] (fun z=>trivial) (trivial) (fun z e r g=>Ej (Ub c.slots) e co g [((1,7),⟨0,false,0,0,[]⟩)] [] [((1,7),⟨1,true,65,8,Af Am z⟩)] (AP []) (fun k i m=>trivial) (fun H=>⟨(fun h=>by cases h),by kernel_rfl,trivial⟩) (fun H=>⟨fun _=>⟨rfl,Bz (A6 _ _) (by kernel_rfl)⟩,by kernel_rfl,trivial⟩)) fun d hm=>BK co Aa 1 (bD c a d) (Ae [2,4,7,8] [((1,2),false),((1,3),false),((1,4),false),((1,7),true)]) hm b fun r g=>fun _ hm b=>Ig co hm 49 [.ref (1,7) 0 0 d.length,.fn (.func 54) [] [.ptr (1,3) 0 0]] [(1,7),(1,3)] ([kk 7 65 8 (Af Am d)]++[(L6 a)]) (fun z=>.ref (1,7) 0 0 z.length) (fun z=>[kk 7 65 8 (Af Am z)]) [] (fun z=>trivial) (trivial) (fun z e r g=>Ej (ZYE d (fun(z0:Slt)=>UQ z0 a)) e co g [kk 7 65 8 (Af Am d)] [(L6 a)] [kk 7 65 8 (Af Am z)] (AP [(1,.fn (.func 54) [] [.ptr (r.κ (1,3)) (r.γ (1,3)+0) 0])]) (fun k i m=>(fun z0 y e=>DY (ZZp z0 a) e co g [(L6 a)] [kk 7 65 8 (Af Am d)] i (by simp) (fun _=>.top) (fun _ _=>trivial) (fun l H=>⟨fun _=>⟨rfl,by kernel_rfl⟩,by kernel_rfl,trivial⟩))) (fun H=>⟨fun _=>⟨rfl,Bz (A6 _ _) (by kernel_rfl)⟩,by kernel_rfl,trivial⟩) (fun H=>⟨fun _=>⟨rfl,Bz (A6 _ _) (by kernel_rfl)⟩,by kernel_rfl,trivial⟩)) fun j hm=>Bf co Aa (aQ c j) (Ae [2,4] [((1,2),false),((1,4),false),((1,7),true)]) hm b fun r g=>fun _ hm b=>Ap co Aa Ac (aR c j) hm b fun r g=>id))
abbrev ZX6:Bool→AV:=fun y=>vB y
def Xy(a:Int):PT 0 (Bool):=lr ZX6 nG (decide (a=(7:Int))||decide (a=(8:Int)))
def UZ(a:Int):Option (Bool):=(Xy a).m
theorem wZ(a:Int):KC Tryz.prog 146 [vI a] (UZ a) ZX6:=Au Tryz.func146 Tryz.ntmps146 Aa [.tmp 2] fun C co y hm b c=>Ap co Aa Ac (Xy a) hm c fun r g=>id
abbrev Rg:Bool→AV:=fun y=>vB y
def ao(a:Val):PT 0 (Bool):=wg<|vz (Ah a.list)<|wg<|vz (Ah a.pairs)<|vs (wa a.list.length a.pairs.length)<|wg<|vz (Ah a.slots)<|vs (wa (a.list.length+a.pairs.length) a.slots.length)<|wg<|vz (Ah a.raws)<|vs (wa ((a.list.length+a.pairs.length)+a.slots.length) a.raws.length)<|br (decide ((0:Int)<((((a.list.length+a.pairs.length)+a.slots.length)+a.raws.length:Nat):Int))) (lr Rg nG false) (wg<|cl (wZ a.kind) fun b=>br b (wg<|lr Rg nG (decide (a.bits=(0:Int)))) (wg<|lr Rg nG (decide (a.text=(⟨#[]⟩:ByteArray)))))
def iV(a:Val):Option (Bool):=(ao a).m
theorem ZXm(a:Val):KC Tryz.prog 99 [.agg ((Ag a).map .d)] (iV a) Rg:=Au Tryz.func99 Tryz.ntmps99 Aa [.tmp 2] fun C co y hm b c=>Ap co Aa Ac (ao a) hm c fun r g=>⟨id,fun d=>⟨id,id⟩⟩
abbrev LH:Bool→AV:=fun y=>vB y
def qb(b:Int)(a:Int):PT 0 (Bool):=br (decide (b=(1:Int))) (lr LH nG (decide (a≤(1:Int)))) (br (decide (b=(2:Int))) (vz (wk .i64 a)<|vy (decide (((-2147483648):Int)≤(IntKind.i64.wrap a))) (wk .i64 a)<|lr LH nG (decide (((-2147483648):Int)≤(IntKind.i64.wrap a))&&decide ((IntKind.i64.wrap a)≤(2147483647:Int)))) (br (decide (b=(9:Int))) (lr LH nG (decide (a≤(2147483647:Int)))) (br (decide (b=(4:Int))) (lr LH nG (decide (a≤(4294967295:Int)))) (lr LH nG true))))
def iB(a:Int)(b:Int):Option (Bool):=(qb a b).m
theorem ZUJ(a:Int)(b:Int):KC Tryz.prog 138 [vI a,.d (.int .u64 b)] (iB a b) LH:=Au Tryz.func138 Tryz.ntmps138 Aa [.tmp 4] fun C co y hm c d=>Ap co Aa Ac (qb a b) hm d fun r g=>⟨id,⟨id,⟨id,⟨id,id⟩⟩⟩⟩
abbrev ZXu:Bool→AV:=fun y=>vB y
def kM(b:ByteArray)(a:ByteArray):PT 0 (Bool):=vz (A9 b.size)<|vz (A9 a.size)<|vy (decide ((a.size:Int)≤(b.size:Int))) (A9 a.size)<|ssg (decide ((a.size:Int)≤(b.size:Int))) b .no (.nt a.size) fun s1=>lr ZXu nG (decide ((a.size:Int)≤(b.size:Int))&&decide (s1=a))
def Zdq(a:ByteArray)(b:ByteArray):Option (Bool):=(kM a b).m
theorem ZUy(a:ByteArray)(b:ByteArray):KC Tryz.prog 229 [vS a,vS b] (Zdq a b) ZXu:=Au Tryz.func229 Tryz.ntmps229 Aa [.tmp 4] fun C co y hm c d=>Ap co Aa Ac (kM a b) hm d fun r g=>fun s1=>id
abbrev ZXD:Bool→AV:=fun y=>vB y
def me(a:ByteArray)(b:ByteArray):PT 0 (Bool):=cl (ZUy a b) fun c=>lr ZXD nG c
def ip(a:ByteArray)(b:ByteArray):Option (Bool):=(me a b).m
theorem ZWw(a:ByteArray)(b:ByteArray):KC Tryz.prog 216 [vS a,vS b] (ip a b) ZXD:=Au Tryz.func216 Tryz.ntmps216 Aa [.tmp 4] fun C co y hm c d=>Ap co Aa Ac (me a b) hm d fun r g=>fun e=>id
abbrev ZYK:Bool→AV:=fun y=>vB y
def pf(b:ByteArray)(c:Int)(a:Int):PT 0 (Bool):=ssg (decide (a=(65533:Int))) b (.it c) .no fun s1=>Az (decide (a=(65533:Int))) (ZWw s1 (⟨#[239,191,189]⟩)) fun d=>lr ZYK nG (decide (a=(65533:Int))&&(!d))
def i2(a:ByteArray)(b:Int)(c:Int):Option (Bool):=(pf a b c).m
theorem ZVW(a:ByteArray)(b:Int)(c:Int):KC Tryz.prog 195 [vS a,vI b,.d (.int .i32 c)] (i2 a b c) ZYK:=Au Tryz.func195 Tryz.ntmps195 Aa [.tmp 6] fun C co y hm d e=>Ap co Aa Ac (pf a b c) hm e fun r g=>fun s1=>fun f=>id
abbrev Uk:Int→AV:=fun y=>vI y
def uM(a:ByteArray):Nat→St:=fun b=>Ab [(0,vS a),pp 6] [kk 6 (.s a b) 0 []]
def wA:Unit→Nat×St:=fun _=>(0,Ab [] [])
def mH(b:ByteArray)(a:Nat):PT 0 (Lv (Nat) (Unit) (Int)):=br (decide (a<b.size)) (wg<|cl (ZVW b (a:Int) (Jy b a)) fun c=>br c (Ar Uk nG (a:Int)) (ln (uM b) (a+EV b a))) (wg<|Ai (wA) ())
def Wx(a:ByteArray):Nat→Option (Lv (Nat) (Unit) (Int)):=fun b=>(mH a b).m
def mf:PT 0 (Int):=lr Uk nG (-1)
def mM(a:ByteArray):PT 0 (Int):=lc (Ab [(0,vS a),pp 6] [kk 6 (.s a 0) 0 []]) ((An (Wx a) Aj 0).bind (Sum.elim (fun _=>(mf).m) some))
def l3(a:ByteArray):PT 0 (Int):=lc (Ab [(0,vS a)] []) ((mM a).m)
def Zmg(a:ByteArray):Option (Int):=(l3 a).m
theorem ZB6{C:Cx}(co:CO C 0)(a:ByteArray):KL Tryz.prog (AB tl) 16 C (pa [0,0,1,0,1] (Aw Tryz.f173)) [.tmp 2] 0 (uM a) (wA) Uk nG (Wx a):=fun e _ hm Q b d c=>Av co Aa Ac (mH a e) (Ae [0,6] [((1,6),false)]) nl d hm c fun r g=>⟨fun f=>⟨id,id⟩,id⟩
theorem ZWL(b:ByteArray):KC Tryz.prog 173 [vS b] (Zmg b) Uk:=Au Tryz.func173 Tryz.ntmps173 Aa [.tmp 2] fun C co y hm c a=>Ak co Aa Ac 1 (l3 b) (AH [0]) nl nH hm a fun r g=>fun _ hm a=>sq (Ak co Aa Ac 1 (mM b) (Ae [0,6] [((1,6),false)]) nl nH hm a fun r g=>fun _ hm a=>bk 0 (lo (AF (ZB6 co b) nH hm a (fun _ hm=>Ap co Aa Ac (mf) hm a fun r g=>id))))
abbrev ZXa:Bool→AV:=fun y=>vB y
def lX(a:ByteArray):PT 0 (Bool):=cl (ZWL a) fun b=>lr ZXa nG (decide (b<(0:Int)))
def i3(a:ByteArray):Option (Bool):=(lX a).m
theorem ZSe(a:ByteArray):KC Tryz.prog 139 [vS a] (i3 a) ZXa:=Au Tryz.func139 Tryz.ntmps139 Aa [.tmp 2] fun C co y hm b c=>Ap co Aa Ac (lX a) hm c fun r g=>fun d=>id
abbrev Zh:Bool→AV:=fun y=>vB y
def dN(b:Int)(a:Val):PT 0 (Bool):=cl (LG b) fun c=>wg<|wg<|Az (!((!c)||(!decide (a.kind=b)))) (ZXm a) fun d=>wg<|Az (!(((!c)||(!decide (a.kind=b)))||(!d))) (ZUJ b a.bits) fun e=>wg<|vy (!((((!c)||(!decide (a.kind=b)))||(!d))||(!e))) (A9 a.text.size)<|br (((((!c)||(!decide (a.kind=b)))||(!d))||(!e))||decide ((4096:Int)<(a.text.size:Int))) (lr Zh nG false) (wg<|Az (!(!decide (b=(7:Int)))) (ZSe a.text) fun f=>lr Zh nG ((!decide (b=(7:Int)))||f))
def iO(a:Int)(b:Val):Option (Bool):=(dN a b).m
theorem eK(a:Int)(b:Val):KC Tryz.prog 92 [vI a,.agg ((Ag b).map .d)] (iO a b) Zh:=Au Tryz.func92 Tryz.ntmps92 Aa [.tmp 4] fun C co y hm c d=>Ap co Aa Ac (dN a b) hm d fun r g=>fun e=>fun f=>fun h=>⟨id,fun i=>id⟩
abbrev To:Ad×Blk:=kk 4 92 5 [vS ⟨#[]⟩,vB false,.e0,.e0,.e0]
abbrev Uc:Enm×Bool→AV:=fun y=>.tup [.agg ((Bw y.1).map .d),vB y.2]
def ZXi(a:Enm→Option Bool):Cl:=fun no l H θ=>(∀(z0:Enm) y,a z0=some y→CH Tryz.prog l no H (θ 1) [.agg ((Bw z0).map .d)] (vB y))
def tG(a:List Enm):Nat→St:=fun b=>Ab [(1,.fn (.yield 1) [] []),pp 4,(9,vL Bw a),(10,vN a.length),(11,vN b)] [To]
def tc:Unit→Nat×St:=fun _=>(0,Ab [pp 4] [To])
def Xw(c:List Enm)(d:Enm→Option Bool)(a:Nat):PT 0 (Lv (Nat) (Unit) (Enm×Bool)):=br (decide ((a:Int)<(c.length:Int))) (ix c a fun b=>wg<|wg<|cf Tryz.prog 1 [.agg ((Bw b).map .d)] (d b) (fun y=>vB y) fun e=>br e (wg<|wg<|Ar Uc nG (b,true)) (vs (wa a 1)<|ln (tG c) (a+1))) (Ai (tc) ())
def PW(b:List Enm)(a:Enm→Option Bool):Nat→Option (Lv (Nat) (Unit) (Enm×Bool)):=fun c=>(Xw b a c).m
def nT:PT 0 (Enm×Bool):=wg<|wg<|lr Uc nG ((.mk ⟨#[]⟩ false [] [] []:Enm),false)
def nW(a:List Enm)(b:Enm→Option Bool):PT 0 (Enm×Bool):=vz (Ah a)<|lc (Ab [(1,.fn (.yield 1) [] []),pp 4,(9,vL Bw a),(10,vN a.length),(11,vI 0)] [To]) ((An (PW a b) Aj 0).bind (Sum.elim (fun _=>(nT).m) some))
def oQ(b:List Enm)(a:Enm→Option Bool):PT 0 (Enm×Bool):=lc (Ab [(0,vL Bw b),(1,.fn (.yield 1) [] []),pp 4] [To]) ((nW b a).m)
def ic(b:List Enm)(a:Enm→Option Bool):Option (Enm×Bool):=(oQ b a).m
theorem ZA9{C:Cx}(co:CO C 0)(b:List Enm)(a:Enm→Option Bool)(f:(ZXi a) C.no C.l C.H0 C.θ):KL Tryz.prog (AB tl) 21 C (pa [0,0,1,0,1] (Aw Tryz.f141)) [.cell 4 92,.tmp 5] 0 (tG b) (tc) Uc nG (PW b a):=fun h _ hm Q c e d=>Av co Aa Ac (Xw b a h) (Ae [1,4,9,10,11] Ep) (Ae [4] Ep) e hm d fun r g=>⟨fun i=>⟨⟨fun y hy=>f _ y hy,by intro r;kernel_rfl,by intro r y;kernel_rfl⟩,fun j=>⟨id,id⟩⟩,id⟩
theorem ZU7(c:List Enm)(a:Enm→Option Bool):KO Tryz.prog 141 0 [vL Bw c,.fn (.yield 1) [] []] [] (ZXi a) (ic c a) Uc nG:=Bi Tryz.func141 Tryz.ntmps141 Aa [.cell 4 92,.tmp 5] 0 (fun C co e y hm d b=>Ak co Aa Ac 1 (oQ c a) (Ae [0,1,4] Ep) nl nH hm b fun r g=>fun _ hm b=>sq (Ak co Aa Ac 1 (nW c a) (Ae [1,4,9,10,11] Ep) nl nH hm b fun r g=>fun _ hm b=>bk 0 (lo (AF (ZA9 co c a e) nH hm b (fun _ hm=>Ap co Aa Ac (nT) hm b fun r g=>id)))))
abbrev ZYD:Bool→AV:=fun y=>vB y
@[reducible] def ZX3(w0:ByteArray):Bool→List Blk:=fun y=>[⟨0,true,9,1,[vS w0]⟩]
def wh(a:Enm)(w0:ByteArray):PT 1 (Bool):=wg<|wg<|lr ZYD (ZX3 w0) (decide (a.name=w0))
def O2(a:Enm)(w0:ByteArray):Option (Bool):=(wh a w0).m
theorem ZUY(a:Enm)(w0:ByteArray):KO Tryz.prog 142 1 [.agg ((Bw a).map .d),.ptr (0,0) 0 0] [⟨0,true,9,1,[vS w0]⟩] (fun _ _ _ _=>True) (O2 a w0) ZYD (ZX3 w0):=Bi Tryz.func142 Tryz.ntmps142 Aa [.tmp 3] 1 (fun C co d y hm b c=>Ap co Aa Ac (wh a w0) hm c fun r g=>id) (hB:=fun y=>⟨.inr (by kernel_rfl),rfl,trivial⟩)
abbrev rT:Enm×Bool→AV:=fun y=>.tup [.agg ((Bw y.1).map .d),vB y.2]
def bm(a:Scm)(b:ByteArray):PT 0 (Enm×Bool):=wg<|cs Tryz.prog 141 [vL Bw a.enums,.fn (.func 142) [] [.ptr (1,3) 1 0]] [(1,3)] [((1,3),⟨1,true,9,1,[vS b]⟩)] (ic a.enums (fun(z0:Enm)=>O2 z0 b)) (fun y=>.tup [.agg ((Bw y.1).map .d),vB y.2]) fun c=>wg<|lr rT nG (c.1,c.2)
def jc(a:Scm)(b:ByteArray):Option (Enm×Bool):=(bm a b).m
theorem UB(b:Scm)(a:ByteArray):KC Tryz.prog 95 [.agg ((Al b).map .d),vS a] (jc b a) rT:=Au Tryz.func95 Tryz.ntmps95 Aa [.cell 4 92,.tmp 5] fun C co y hm c d=>Ap co Aa Ac (bm b a) hm d fun r g=>⟨fun y hy=>B2 (ZU7 b.enums (fun(z0:Enm)=>O2 z0 a)) hy co g [] [((1,3),⟨1,true,9,1,[vS a]⟩)] (AP [(1,.fn (.func 142) [] [.ptr (r.κ (1,3)) (r.γ (1,3)+1) 0])]) (fun h e i=>(fun z0 y f=>DY (ZUY z0 a) f co g [((1,3),⟨1,true,9,1,[vS a]⟩)] [] e (by simp) (fun _=>.top) (fun _ _=>trivial) (fun l H=>⟨fun _=>⟨rfl,by kernel_rfl⟩,by kernel_rfl,trivial⟩))) (fun H=>trivial),fun j=>id⟩
abbrev UA:Int→AV:=fun y=>vI y
def ZXr(a:Itm→Option Bool):Cl:=fun no l H θ=>(∀(z0:Itm) y,a z0=some y→CH Tryz.prog l no H (θ 1) [.agg ((Cr z0).map .d)] (vB y))
def vt(a:List Itm):Nat→St:=fun b=>Ab [(0,vL Cr a),(1,.fn (.yield 1) [] []),(7,vN a.length),(8,vN b)] []
def sT:Unit→Nat×St:=fun _=>(0,Ab [] [])
def W4(b:List Itm)(c:Itm→Option Bool)(a:Nat):PT 0 (Lv (Nat) (Unit) (Int)):=br (decide ((a:Int)<(b.length:Int))) (ix b a fun d=>cf Tryz.prog 1 [.agg ((Cr d).map .d)] (c d) (fun y=>vB y) fun e=>br e (Ar UA nG (a:Int)) (vs (wa a 1)<|ln (vt b) (a+1))) (Ai (sT) ())
def PA(b:List Itm)(a:Itm→Option Bool):Nat→Option (Lv (Nat) (Unit) (Int)):=fun c=>(W4 b a c).m
def lS:PT 0 (Int):=lr UA nG (-1)
def lz(a:List Itm)(b:Itm→Option Bool):PT 0 (Int):=vz (Ah a)<|lc (Ab [(0,vL Cr a),(1,.fn (.yield 1) [] []),(7,vN a.length),(8,vI 0)] []) ((An (PA a b) Aj 0).bind (Sum.elim (fun _=>(lS).m) some))
def lB(b:List Itm)(a:Itm→Option Bool):PT 0 (Int):=lc (Ab [(0,vL Cr b),(1,.fn (.yield 1) [] [])] []) ((lz b a).m)
def im(b:List Itm)(a:Itm→Option Bool):Option (Int):=(lB b a).m
theorem ZBP{C:Cx}(co:CO C 0)(b:List Itm)(a:Itm→Option Bool)(f:(ZXr a) C.no C.l C.H0 C.θ):KL Tryz.prog (AB tl) 19 C (pa [0,0,1,0,1] (Aw Tryz.f143)) [.tmp 4] 0 (vt b) (sT) UA nG (PA b a):=fun h _ hm Q c e d=>Av co Aa Ac (W4 b a h) (AH [0,1,7,8]) nl e hm d fun r g=>⟨fun i=>⟨⟨fun y hy=>f _ y hy,by intro r;kernel_rfl,by intro r y;kernel_rfl⟩,fun j=>⟨id,id⟩⟩,id⟩
theorem ZV6(c:List Itm)(a:Itm→Option Bool):KO Tryz.prog 143 0 [vL Cr c,.fn (.yield 1) [] []] [] (ZXr a) (im c a) UA nG:=Bi Tryz.func143 Tryz.ntmps143 Aa [.tmp 4] 0 (fun C co e y hm d b=>Ak co Aa Ac 1 (lB c a) (AH [0,1]) nl nH hm b fun r g=>fun _ hm b=>sq (Ak co Aa Ac 1 (lz c a) (AH [0,1,7,8]) nl nH hm b fun r g=>fun _ hm b=>bk 0 (lo (AF (ZBP co c a e) nH hm b (fun _ hm=>Ap co Aa Ac (lS) hm b fun r g=>id)))))
abbrev rU:Bool→AV:=fun y=>vB y
def H96(a:Itm→Option Bool):Cl:=fun no l H θ=>(∀(z0:Itm) y,a z0=some y→CH Tryz.prog l no H (θ 1) [.agg ((Cr z0).map .d)] (vB y))
def dt(b:List Itm)(a:Itm→Option Bool):PT 0 (Bool):=cs Tryz.prog 143 [vL Cr b,.fn (.yield 1) [] []] [] [] (im b a) (fun y=>vI y) fun c=>lr rU nG (decide ((0:Int)≤c))
def OW(b:List Itm)(a:Itm→Option Bool):Option (Bool):=(dt b a).m
theorem ZYG(b:List Itm)(a:Itm→Option Bool):KO Tryz.prog 96 0 [vL Cr b,.fn (.yield 1) [] []] [] (H96 a) (OW b a) rU nG:=Bi Tryz.func96 Tryz.ntmps96 Aa [.tmp 4] 0 (fun C co e y hm c d=>Ap co Aa Ac (dt b a) hm d fun r g=>⟨fun y hy=>B2 (ZV6 b a) hy co g [] [] (AP [(1,r.θ 1)]) (fun i j f=>(fun z0 y h=>MU co g [] f (e z0 y h))) (fun H=>trivial),fun k=>id⟩)
abbrev rV:Bool→AV:=fun y=>vB y
@[reducible] def sb(w0:Val):Bool→List Blk:=fun y=>[⟨0,true,33,7,(cD (Ag w0))⟩]
def yb(a:Itm)(w0:Val):PT 1 (Bool):=wg<|vz (wk .u64 a.num)<|wg<|lr rV (sb w0) (decide ((IntKind.u64.wrap a.num)=w0.bits))
def UI(a:Itm)(w0:Val):Option (Bool):=(yb a w0).m
theorem ZZo(a:Itm)(w0:Val):KO Tryz.prog 97 1 [.agg ((Cr a).map .d),.ptr (0,0) 0 0] [⟨0,true,33,7,(cD (Ag w0))⟩] (fun _ _ _ _=>True) (UI a w0) rV (sb w0):=Bi Tryz.func97 Tryz.ntmps97 Aa [.tmp 3] 1 (fun C co d y hm b c=>Ap co Aa Ac (yb a w0) hm c fun r g=>id) (hB:=fun y=>⟨.inr (by kernel_rfl),rfl,trivial⟩)
abbrev ZXG:Bool→AV:=fun y=>vB y
def p7(a:Val):PT 0 (Bool):=wg<|wg<|wg<|wg<|vy (!decide (a.kind=(11:Int))) (Ah a.list)<|wg<|wg<|vy ((!((!decide (a.kind=(11:Int)))&&decide ((0:Int)<(a.list.length:Int))))&&(!decide (a.kind=(12:Int)))) (Ah a.pairs)<|wg<|wg<|vy ((!(((!decide (a.kind=(11:Int)))&&decide ((0:Int)<(a.list.length:Int)))||((!decide (a.kind=(12:Int)))&&decide ((0:Int)<(a.pairs.length:Int)))))&&(!decide (a.kind=(10:Int)))) (Ah a.slots)<|wg<|vy ((!(((!decide (a.kind=(11:Int)))&&decide ((0:Int)<(a.list.length:Int)))||((!decide (a.kind=(12:Int)))&&decide ((0:Int)<(a.pairs.length:Int)))))&&(!decide (a.kind=(10:Int)))) (Ah a.raws)<|vg ((!(((!decide (a.kind=(11:Int)))&&decide ((0:Int)<(a.list.length:Int)))||((!decide (a.kind=(12:Int)))&&decide ((0:Int)<(a.pairs.length:Int)))))&&(!decide (a.kind=(10:Int)))) (wa a.slots.length a.raws.length)<|wg<|wg<|wg<|wg<|lr ZXG nG ((((((!decide (a.kind=(11:Int)))&&decide ((0:Int)<(a.list.length:Int)))||((!decide (a.kind=(12:Int)))&&decide ((0:Int)<(a.pairs.length:Int))))||((!decide (a.kind=(10:Int)))&&decide ((0:Int)<((a.slots.length+a.raws.length:Nat):Int))))||((!decide (a.bits=(0:Int)))&&((decide (a.kind=(7:Int))||decide (a.kind=(8:Int)))||(decide ((10:Int)≤a.kind)&&decide (a.kind≤(12:Int))))))||((!decide (a.text=(⟨#[]⟩:ByteArray)))&&(!(decide (a.kind=(7:Int))||decide (a.kind=(8:Int))))))
def iq(a:Val):Option (Bool):=(p7 a).m
theorem SY(a:Val):KC Tryz.prog 176 [.agg ((Ag a).map .d)] (iq a) ZXG:=Au Tryz.func176 Tryz.ntmps176 Aa [.tmp 2] fun C co y hm b c=>Ap co Aa Ac (p7 a) hm c fun r g=>id
abbrev Re:Int→AV:=fun y=>vI y
def sg(a:Fld→Option Bool):Cl:=fun no l H θ=>(∀(z0:Fld) y,a z0=some y→CH Tryz.prog l no H (θ 1) [.agg ((Ao z0).map .d)] (vB y))
def x3(a:List Fld):Nat→St:=fun b=>Ab [(0,vL Ao a),(1,.fn (.yield 1) [] []),(7,vN a.length),(8,vN b)] []
def xW:Unit→Nat×St:=fun _=>(0,Ab [] [])
def xf(b:List Fld)(c:Fld→Option Bool)(a:Nat):PT 0 (Lv (Nat) (Unit) (Int)):=br (decide ((a:Int)<(b.length:Int))) (ix b a fun d=>cf Tryz.prog 1 [.agg ((Ao d).map .d)] (c d) (fun y=>vB y) fun e=>br e (Ar Re nG (a:Int)) (vs (wa a 1)<|ln (x3 b) (a+1))) (Ai (xW) ())
def zm(b:List Fld)(a:Fld→Option Bool):Nat→Option (Lv (Nat) (Unit) (Int)):=fun c=>(xf b a c).m
def ZRy:PT 0 (Int):=lr Re nG (-1)
def xx(a:List Fld)(b:Fld→Option Bool):PT 0 (Int):=vz (Ah a)<|lc (Ab [(0,vL Ao a),(1,.fn (.yield 1) [] []),(7,vN a.length),(8,vI 0)] []) ((An (zm a b) Aj 0).bind (Sum.elim (fun _=>(ZRy).m) some))
def xT(b:List Fld)(a:Fld→Option Bool):PT 0 (Int):=lc (Ab [(0,vL Ao b),(1,.fn (.yield 1) [] [])] []) ((xx b a).m)
def Ze0(b:List Fld)(a:Fld→Option Bool):Option (Int):=(xT b a).m
theorem ZM3{C:Cx}(co:CO C 0)(b:List Fld)(a:Fld→Option Bool)(f:(sg a) C.no C.l C.H0 C.θ):KL Tryz.prog (AB tl) 19 C (pa [0,0,1,0,1] (Aw Tryz.f84)) [.tmp 4] 0 (x3 b) (xW) Re nG (zm b a):=fun h _ hm Q c e d=>Av co Aa Ac (xf b a h) (AH [0,1,7,8]) nl e hm d fun r g=>⟨fun i=>⟨⟨fun y hy=>f _ y hy,by intro r;kernel_rfl,by intro r y;kernel_rfl⟩,fun j=>⟨id,id⟩⟩,id⟩
theorem ZYP(c:List Fld)(a:Fld→Option Bool):KO Tryz.prog 84 0 [vL Ao c,.fn (.yield 1) [] []] [] (sg a) (Ze0 c a) Re nG:=Bi Tryz.func84 Tryz.ntmps84 Aa [.tmp 4] 0 (fun C co e y hm d b=>Ak co Aa Ac 1 (xT c a) (AH [0,1]) nl nH hm b fun r g=>fun _ hm b=>sq (Ak co Aa Ac 1 (xx c a) (AH [0,1,7,8]) nl nH hm b fun r g=>fun _ hm b=>bk 0 (lo (AF (ZM3 co c a e) nH hm b (fun _ hm=>Ap co Aa Ac (ZRy) hm b fun r g=>id)))))
abbrev Sv:Int→AV:=fun y=>vI y
@[reducible] def XD(a:List Fld):Int→List Blk:=fun y=>[⟨0,true,56,16,Af Ao a⟩]
def xN(a:Fld→Option Bool):Cl:=fun no l H θ=>(∀(z0:Fld) y,a z0=some y→CH Tryz.prog l no H (θ 1) [.agg ((Ao z0).map .d)] (vB y))
def Zwj(a:List Fld):Nat→St:=fun b=>Ab [(0,.ref (0,0) 0 0 a.length),(1,.fn (.yield 1) [] []),(7,vN a.length),(8,vN b)] [((0,0),⟨0,true,56,16,Af Ao a⟩)]
def ZvD(a:List Fld):Unit→Nat×St:=fun _=>(0,Ab [] [((0,0),⟨0,true,56,16,Af Ao a⟩)])
def Pn(a:List Fld)(c:Fld→Option Bool)(b:Nat):PT 1 (Lv (Nat) (Unit) (Int)):=br (decide ((b:Int)<(a.length:Int))) (vs (ir b a.length 16)<|ca a b fun d=>cf Tryz.prog 1 [.agg ((Ao d).map .d)] (c d) (fun y=>vB y) fun e=>br e (Ar Sv (XD a) (b:Int)) (vs (wa b 1)<|vz (fl a)<|ln (Zwj a) (b+1))) (vz (fl a)<|Ai (ZvD a) ())
def VT(b:List Fld)(a:Fld→Option Bool):Nat→Option (Lv (Nat) (Unit) (Int)):=fun c=>(Pn b a c).m
def Py(a:List Fld):PT 1 (Int):=lr Sv (XD a) (-1)
def Px(a:List Fld)(b:Fld→Option Bool):PT 1 (Int):=vz (A9 a.length)<|vz (fl a)<|lc (Ab [(0,.ref (0,0) 0 0 a.length),(1,.fn (.yield 1) [] []),(7,vN a.length),(8,vI 0)] [((0,0),⟨0,true,56,16,Af Ao a⟩)]) ((An (VT a b) Aj 0).bind (Sum.elim (fun _=>(Py a).m) some))
def Pk(a:List Fld)(b:Fld→Option Bool):PT 1 (Int):=vz (fl a)<|lc (Ab [(0,.ref (0,0) 0 0 a.length),(1,.fn (.yield 1) [] [])] [((0,0),⟨0,true,56,16,Af Ao a⟩)]) ((Px a b).m)
def UR(b:List Fld)(a:Fld→Option Bool):Option (Int):=(Pk b a).m
theorem Zx1{C:Cx}(co:CO C 1)(b:List Fld)(a:Fld→Option Bool)(f:(xN a) C.no C.l C.H0 C.θ):KL Tryz.prog (AB tl) 19 C (pa [0,0,1,0,1] (Aw Tryz.f84)) [.tmp 4] 1 (Zwj b) (ZvD b) Sv (XD b) (VT b a):=fun h _ hm Q c e d=>Av co Aa Ac (Pn b a h) (Ae [0,1,7,8] DQ) (Ae [] DQ) e hm d fun r g=>⟨fun i=>⟨⟨fun y hy=>f _ y hy,by intro r;kernel_rfl,by intro r y;kernel_rfl⟩,fun j=>⟨id,id⟩⟩,id⟩
theorem ZOI(b:List Fld)(a:Fld→Option Bool):KO Tryz.prog 84 1 [.ref (0,0) 0 0 b.length,.fn (.yield 1) [] []] [⟨0,true,56,16,Af Ao b⟩] (xN a) (UR b a) Sv (XD b):=Bi Tryz.func84 Tryz.ntmps84 Aa [.tmp 4] 1 (fun C co e y hm d c=>Ak co Aa Ac 1 (Pk b a) (Ae [0,1] DQ) nl nH hm c fun r g=>fun _ hm c=>sq (Ak co Aa Ac 1 (Px b a) (Ae [0,1,7,8] DQ) nl nH hm c fun r g=>fun _ hm c=>bk 0 (lo (AF (Zx1 co b a e) nH hm c (fun _ hm=>Ap co Aa Ac (Py b) hm c fun r g=>id))))) (hB:=fun y=>⟨.inl (A6 _ _),rfl,trivial⟩)
abbrev OE(a:List Fld):Ad×Blk:=((0,0),⟨0,true,56,16,Af Ao a⟩)
abbrev Za:List Fld→AV:=fun y=>.ref (0,0) 0 0 y.length
@[reducible] def Zk:List Fld→List Blk:=fun y=>[⟨0,true,56,16,Af Ao y⟩]
def sf(a:Fld→Option Bool):Cl:=fun no l H θ=>(∀(z0:Fld) y,a z0=some y→CH Tryz.prog l no H (θ 1) [.agg ((Ao z0).map .d)] (vB y))
def ed(a:List Fld):Int×Int×List Fld→St:=fun(v2,v3,b)=>Ab [(0,.ref (0,0) 0 0 a.length),(1,.fn (.yield 1) [] []),(5,vI v2),(6,vI v3)] [((0,0),⟨0,true,56,16,Af Ao b⟩)]
def zp(a:List Fld):Int×List Fld→Nat×St:=fun(c,b)=>(0,Ab [(0,.ref (0,0) 0 0 a.length),(5,vI c)] [((0,0),⟨0,true,56,16,Af Ao b⟩)])
def Sm(b:List Fld)(d:Fld→Option Bool)(v2:Int)(v3:Int)(a:List Fld):PT 1 (Lv (Int×Int×List Fld) (Int×List Fld) (List Fld)):=vz (A9 b.length)<|br (decide (v3<(b.length:Int))) (vs (CM v3 b.length 16)<|ca a v3.toNat fun c=>wg<|wg<|cf Tryz.prog 1 [.agg ((Ao c).map .d)] (d c) (fun y=>vB y) fun e=>br (!e) (wg<|vs (CM v2 b.length 16)<|vs (st a v2.toNat c)<|Hm 0 ((Rw.f (c:Fld)).map .d) (fun _=>ud _)<|vs (wi (v2+1))<|vs (wi (v3+1))<|vz (fl (a.set v2.toNat c))<|ln (ed b) ((v2+1),(v3+1),a.set v2.toNat c)) (vs (wi (v3+1))<|vz (fl a)<|ln (ed b) (v2,(v3+1),a))) (vz (fl a)<|Ai (zp b) (v2,a))
def Qq(b:List Fld)(a:Fld→Option Bool):Int×Int×List Fld→Option (Lv (Int×Int×List Fld) (Int×List Fld) (List Fld)):=fun(v2,v3,c)=>(Sm b a v2 v3 c).m
def dC(c:List Fld)(a:Int)(b:List Fld):PT 1 (List Fld):=sR c.length 0 (.it a) .no<|cr b (0+a.toNat) (c.length-a.toNat) [vI 0,vS ⟨#[]⟩,vI 0,vI 0,vI 0,vS ⟨#[]⟩,vS ⟨#[]⟩,vB false,vI 0,.d (.int .u64 0),vS ⟨#[]⟩,.e0,.e0,.e0,.e0,.e0]<|Hm 0 ([vI 0,vS ⟨#[]⟩,vI 0,vI 0,vI 0,vS ⟨#[]⟩,vS ⟨#[]⟩,vB false,vI 0,.d (.int .u64 0),vS ⟨#[]⟩,.e0,.e0,.e0,.e0,.e0]) (fun _=>ZuD (by kernel_rfl))<|JE 0 b (0+a.toNat) (c.length-a.toNat) [vI 0,vS ⟨#[]⟩,vI 0,vI 0,vI 0,vS ⟨#[]⟩,vS ⟨#[]⟩,vB false,vI 0,.d (.int .u64 0),vS ⟨#[]⟩,.e0,.e0,.e0,.e0,.e0]<|vw .sep<|sR c.length 0 .no (.it a)<|Ex (a.toNat=(b.take (0+a.toNat)).length) (fun E=>E.P (.ref (0,0) 0 0 a.toNat) ([⟨0,true,56,16,Af Ao (b.take (0+a.toNat))⟩])) (b.take (0+a.toNat))
def am(a:List Fld)(c:Fld→Option Bool)(b:Int):PT 1 (List Fld):=vs (wi (b+1))<|vz (fl a)<|lc (Ab [(0,.ref (0,0) 0 0 a.length),(1,.fn (.yield 1) [] []),(5,vI b),(6,vI (b+1))] [(OE a)]) ((An (Qq a c) Aj (b,(b+1),a)).bind (Sum.elim (fun(e,d)=>(dC a e d).m) some))
def dk(a:List Fld)(b:Fld→Option Bool):PT 1 (List Fld):=cs Tryz.prog 84 [.ref (0,0) 0 0 a.length,.fn (.yield 1) [] []] [(0,0)] [(OE a)] (UR a b) (fun y=>vI y) fun c=>br (decide (c=((-1):Int))) (lr Za (Zk) a) (vz (fl a)<|lc (Ab [(0,.ref (0,0) 0 0 a.length),(1,.fn (.yield 1) [] []),(5,vI c)] [(OE a)]) ((am a b c).m))
def UM(b:List Fld)(a:Fld→Option Bool):Option (List Fld):=(dk b a).m
theorem ZMW{C:Cx}(co:CO C 1)(b:List Fld)(a:Fld→Option Bool)(f:(sf a) C.no C.l C.H0 C.θ):KL Tryz.prog (AB tl) 42 C (pa [0,0,1,0,1,1,1] (Aw Tryz.f61)) [.tmp 4] 1 (ed b) (zp b) Za (Zk) (Qq b a):=fun(v2,v3,h) _ hm Q c e d=>Av co Aa Ac (Sm b a v2 v3 h) (Ae [0,1,5,6] DQ) (Ae [0,5] DQ) e hm d fun r g=>⟨fun i=>⟨⟨fun y hy=>f _ y hy,by intro r;kernel_rfl,by intro r y;kernel_rfl⟩,fun j=>⟨id,id⟩⟩,id⟩
theorem ZZK(b:List Fld)(a:Fld→Option Bool):KO Tryz.prog 61 1 [.ref (0,0) 0 0 b.length,.fn (.yield 1) [] []] [⟨0,true,56,16,Af Ao b⟩] (sf a) (UM b a) Za (Zk):=Bi Tryz.func61 Tryz.ntmps61 Aa [.tmp 4] 1 (fun C co e y hm d c=>Ak co Aa Ac 3 (dk b a) (Ae [0,1,5] DQ) nl nH hm c fun r g=>⟨fun y hy=>B2 (ZOI b a) hy co g [(OE b)] [] (AP [(1,r.θ 1)]) (fun m o f=>(fun z0 y i=>MU co g [(OE b)] f (e z0 y i))) (fun H=>⟨fun _=>⟨rfl,Bz (A6 _ _) (by kernel_rfl)⟩,by kernel_rfl,trivial⟩),fun l=>⟨id,fun _ hm c=>sq (Ak co Aa Ac 1 (am b a l) (Ae [0,1,5,6] DQ) nl nH hm c fun r g=>fun _ hm c=>bk 0 (lo (AF (ZMW co b a e) nH hm c (fun(k,j) hm=>Ap co Aa Ac (dC b k j) hm c fun r g=>fun h c=>lfx (congrArg (fun n=>(.ref (0,0) 0 0 n:AV)) h) c))))⟩⟩) (hB:=fun y=>⟨.inl (A6 _ _),rfl,trivial⟩)
abbrev Zb:List Fld→AV:=fun y=>.ref (0,0) 1 0 y.length
@[reducible] def Zl:List Fld→List Blk:=fun y=>[⟨1,true,56,16,Af Ao y⟩]
def Z5(a:List Fld):PT 1 (List Fld):=al Ao a false fun b=>br b (vw .sep<|vw (.ads 2 2 56 16)<|mv 2 0 ([]:List Fld)<|lr Zb (Zl) ([]:List Fld)) (a0 a<|mv 7 0 a<|lr Zb (Zl) a)
def Vd(a:List Fld):Option (List Fld):=(Z5 a).m
theorem ZZD(a:List Fld):KO Tryz.prog 62 1 [vL Ao a] [⟨0,false,0,0,[]⟩] (fun _ _ _ _=>True) (Vd a) Zb (Zl):=Bi Tryz.func62 Tryz.ntmps62 Aa [.tmp 2] 1 (fun C co f y hm c d=>Ap co Aa Ac (Z5 a) hm d fun r g=>⟨fun e=>⟨id,id⟩,by intro b h;subst h;cases b<;>rfl⟩) (hB:=fun y=>⟨.inl (A6 _ _),rfl,trivial⟩)
abbrev rI:Bool→AV:=fun y=>vB y
@[reducible] def r5(w0:ByteArray):Bool→List Blk:=fun y=>[⟨0,true,9,1,[vS w0]⟩]
def yB(a:Fld)(w0:ByteArray):PT 1 (Bool):=wg<|wg<|lr rI (r5 w0) (!decide (a.union=w0))
def UW(a:Fld)(w0:ByteArray):Option (Bool):=(yB a w0).m
theorem ZZz(a:Fld)(w0:ByteArray):KO Tryz.prog 63 1 [.agg ((Ao a).map .d),.ptr (0,0) 0 0] [⟨0,true,9,1,[vS w0]⟩] (fun _ _ _ _=>True) (UW a w0) rI (r5 w0):=Bi Tryz.func63 Tryz.ntmps63 Aa [.tmp 3] 1 (fun C co d y hm b c=>Ap co Aa Ac (yB a w0) hm c fun r g=>id) (hB:=fun y=>⟨.inr (by kernel_rfl),rfl,trivial⟩)
abbrev Ma(a:ByteArray):Ad×Blk:=kk 3 9 1 [vS a]
abbrev X6:List Fld→AV:=fun y=>vL Ao y
def dQ(a:List Fld):PT 0 (List Fld):=vz (fr a)<|lr X6 nG a
def bO(a:List Fld):PT 0 (List Fld):=vz (fl a)<|lc (Ab [(4,.ref (1,9) 0 0 a.length)] [kk 9 56 16 (Af Ao a)]) ((dQ a).m)
def aE(b:ByteArray)(a:List Fld):PT 0 (List Fld):=vz (fl a)<|lc (Ab [(9,.ref (1,9) 0 0 a.length),(10,.fn (.func 63) [] [.ptr (1,3) 0 0])] [(Ma b),kk 9 56 16 (Af Ao a)]) ((UM a (fun(z0:Fld)=>UW z0 b)).bind fun c=>(bO c).m)
def aL(a:Msg)(b:ByteArray):PT 0 (List Fld):=wg<|lc (Ab [pp 3,(8,vL Ao a.fields)] [(Ma b)]) ((Vd a.fields).bind fun c=>(aE b c).m)
def ZT(b:Msg)(a:ByteArray):PT 0 (List Fld):=wg<|br (decide (a=(⟨#[]⟩:ByteArray))) (lr X6 nG ([]:List Fld)) (lc (Ab [pp 2,pp 3] [kk 2 61 5 (cD (AE b)),(Ma a)]) ((aL b a).m))
def iG(a:Msg)(b:ByteArray):Option (List Fld):=(ZT a b).m
theorem fH(c:Msg)(a:ByteArray):KC Tryz.prog 29 [.agg ((AE c).map .d),vS a] (iG c a) X6:=Au Tryz.func29 Tryz.ntmps29 Aa [.tmp 4] fun C co y hm f b=>Ak co Aa Ac 2 (ZT c a) (Ae [2,3] Fl) nl nH hm b fun r g=>⟨id,fun _ hm b=>sq (rg (BK co Aa 2 (aL c a) (Ae [3,8] ER) hm b fun r g=>fun _ hm b=>Ig co hm 62 [vL Ao c.fields] [(1,9)] ([((1,9),⟨0,false,0,0,[]⟩)]++[]) (fun z=>.ref (1,9) 1 0 z.length) (fun z=>[((1,9),⟨1,true,56,16,Af Ao z⟩)]) [] (fun z=>trivial) (trivial) (fun z e r g=>Ej (ZZD c.fields) e co g [((1,9),⟨0,false,0,0,[]⟩)] [] [((1,9),⟨1,true,56,16,Af Ao z⟩)] (AP []) (fun k i m=>trivial) (fun H=>⟨(fun h=>by cases h),by kernel_rfl,trivial⟩) (fun H=>⟨fun _=>⟨rfl,Bz (A6 _ _) (by kernel_rfl)⟩,by kernel_rfl,trivial⟩)) fun d hm=>BK co Aa 1 (aE a d) (Ae [9,10] [((1,3),false),((1,9),true)]) hm b fun r g=>fun _ hm b=>Ig co hm 61 [.ref (1,9) 0 0 d.length,.fn (.func 63) [] [.ptr (1,3) 0 0]] [(1,9),(1,3)] ([kk 9 56 16 (Af Ao d)]++[(Ma a)]) (fun z=>.ref (1,9) 0 0 z.length) (fun z=>[kk 9 56 16 (Af Ao z)]) [] (fun z=>trivial) (trivial) (fun z e r g=>Ej (ZZK d (fun(z0:Fld)=>UW z0 a)) e co g [kk 9 56 16 (Af Ao d)] [(Ma a)] [kk 9 56 16 (Af Ao z)] (AP [(1,.fn (.func 63) [] [.ptr (r.κ (1,3)) (r.γ (1,3)+0) 0])]) (fun k i m=>(fun z0 y e=>DY (ZZz z0 a) e co g [(Ma a)] [kk 9 56 16 (Af Ao d)] i (by simp) (fun _=>.top) (fun _ _=>trivial) (fun l H=>⟨fun _=>⟨rfl,by kernel_rfl⟩,by kernel_rfl,trivial⟩))) (fun H=>⟨fun _=>⟨rfl,Bz (A6 _ _) (by kernel_rfl)⟩,by kernel_rfl,trivial⟩) (fun H=>⟨fun _=>⟨rfl,Bz (A6 _ _) (by kernel_rfl)⟩,by kernel_rfl,trivial⟩)) fun j hm=>Bf co Aa (bO j) (Ae [4] [((1,9),true)]) hm b fun r g=>fun _ hm b=>Ap co Aa Ac (dQ j) hm b fun r g=>id))⟩
abbrev ZW8:Bool→AV:=fun y=>vB y
def ZY0(a:Slt→Option Bool):Cl:=fun no l H θ=>(∀(z0:Slt) y,a z0=some y→CH Tryz.prog l no H (θ 1) [.agg ((BW z0).map .d)] (vB y))
def nR(b:List Slt)(a:Slt→Option Bool):PT 0 (Bool):=cs Tryz.prog 55 [vL Am b,.fn (.yield 1) [] []] [] [] (Mk b a) (fun y=>vI y) fun c=>lr ZW8 nG (decide ((0:Int)≤c))
def Ml(b:List Slt)(a:Slt→Option Bool):Option (Bool):=(nR b a).m
theorem dn(b:List Slt)(a:Slt→Option Bool):KO Tryz.prog 220 0 [vL Am b,.fn (.yield 1) [] []] [] (ZY0 a) (Ml b a) ZW8 nG:=Bi Tryz.func220 Tryz.ntmps220 Aa [.tmp 4] 0 (fun C co e y hm c d=>Ap co Aa Ac (nR b a) hm d fun r g=>⟨fun y hy=>B2 (fK b a) hy co g [] [] (AP [(1,r.θ 1)]) (fun i j f=>(fun z0 y h=>MU co g [] f (e z0 y h))) (fun H=>trivial),fun k=>id⟩)
abbrev ZWT:Bool→AV:=fun y=>vB y
@[reducible] def ZYw(w0:Fld):Bool→List Blk:=fun y=>[⟨0,true,56,16,(cD (Ao w0))⟩]
def wO(a:Int)(w0:Fld):PT 1 (Bool):=wg<|lr ZWT (ZYw w0) (decide (a=w0.num))
def ZeZ(a:Int)(w0:Fld):Option (Bool):=(wO a w0).m
theorem ZWr(a:Int)(w0:Fld):KO Tryz.prog 198 1 [vI a,.ptr (0,0) 0 0] [⟨0,true,56,16,(cD (Ao w0))⟩] (fun _ _ _ _=>True) (ZeZ a w0) ZWT (ZYw w0):=Bi Tryz.func198 Tryz.ntmps198 Aa [.tmp 3] 1 (fun C co d y hm b c=>Ap co Aa Ac (wO a w0) hm c fun r g=>id) (hB:=fun y=>⟨.inr (by kernel_rfl),rfl,trivial⟩)
abbrev ZWY:Bool→AV:=fun y=>vB y
@[reducible] def ZW7(w0:Fld):Bool→List Blk:=fun y=>[⟨0,true,56,16,(cD (Ao w0))⟩]
def wq(a:Int)(w0:Fld):PT 1 (Bool):=wg<|lr ZWY (ZW7 w0) (decide (a=w0.num))
def Zgh(a:Int)(w0:Fld):Option (Bool):=(wq a w0).m
theorem ZVE(a:Int)(w0:Fld):KO Tryz.prog 217 1 [vI a,.ptr (0,0) 0 0] [⟨0,true,56,16,(cD (Ao w0))⟩] (fun _ _ _ _=>True) (Zgh a w0) ZWY (ZW7 w0):=Bi Tryz.func217 Tryz.ntmps217 Aa [.tmp 3] 1 (fun C co d y hm b c=>Ap co Aa Ac (wq a w0) hm c fun r g=>id) (hB:=fun y=>⟨.inr (by kernel_rfl),rfl,trivial⟩)
end Go.Proofs.YthgmbpciandpiaaGreat
