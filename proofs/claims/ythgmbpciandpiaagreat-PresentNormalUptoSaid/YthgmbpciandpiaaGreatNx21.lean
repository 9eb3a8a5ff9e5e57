import Derived.Test.YthgmbpciandpiaaGreatNx20
import Derived.Test.YthgmbpciandpiaaGreatNx00
namespace Go.Proofs.YthgmbpciandpiaaGreat
set_option maxRecDepth 100000
set_option linter.all false
open Go Go.Eng
abbrev ZXj:Bool→AV:=fun y=>vB y
@[reducible] def ZYf(w0:Fld):Bool→List Blk:=fun y=>[⟨0,true,56,16,(cD (Ao w0))⟩]
def tH(a:Int)(w0:Fld):PT 1 (Bool):=wg<|lr ZXj (ZYf w0) (decide (a=w0.num))
def Zge(a:Int)(w0:Fld):Option (Bool):=(tH a w0).m
theorem ZVU(a:Int)(w0:Fld):KO Tryz.prog 218 1 [vI a,.ptr (0,0) 0 0] [⟨0,true,56,16,(cD (Ao w0))⟩] (fun _ _ _ _=>True) (Zge a w0) ZXj (ZYf w0):=Bi Tryz.func218 Tryz.ntmps218 Aa [.tmp 3] 1 (fun C co d y hm b c=>Ap co Aa Ac (tH a w0) hm c fun r g=>id) (hB:=fun y=>⟨.inr (by kernel_rfl),rfl,trivial⟩)
abbrev ZXV(a:Fld):Ad×Blk:=((0,1),⟨0,true,56,16,(cD (Ao a))⟩)
abbrev wD:Bool→AV:=fun y=>vB y
@[reducible] def wj(a:Fld):Bool→List Blk:=fun y=>[⟨0,true,151,1,[.fn (.func 217) [] [.ptr (0,1) 0 0]]⟩,⟨0,true,56,16,(cD (Ao a))⟩]
def Zpo(b:Slt)(a:Fld):PT 2 (Bool):=wg<|wg<|cs Tryz.prog 217 [vI b.num,.ptr (0,1) 0 0] [(0,1)] [(ZXV a)] (Zgh b.num a) (fun y=>vB y) fun c=>lr wD (wj a) c
def U7(b:Slt)(a:Fld):Option (Bool):=(Zpo b a).m
theorem ZHT(b:Slt)(a:Fld):KO Tryz.prog 221 2 [.agg ((BW b).map .d),.ptr (0,0) 0 0] [⟨0,true,151,1,[.fn (.func 217) [] [.ptr (0,1) 0 0]]⟩,⟨0,true,56,16,(cD (Ao a))⟩] (fun _ _ _ _=>True) (U7 b a) wD (wj a):=Bi Tryz.func221 Tryz.ntmps221 Aa [.tmp 3] 2 (fun C co f y hm c d=>Ap co Aa Ac (Zpo b a) hm d fun r g=>⟨fun y hy=>B2 (ZVE b.num a) hy co g [(ZXV a)] [] (AP []) (fun e h i=>trivial) (fun H=>⟨fun _=>⟨rfl,by kernel_rfl⟩,by kernel_rfl,trivial⟩),fun j=>id⟩) (hB:=fun y=>⟨.inr (by kernel_rfl),rfl,⟨.inr (by kernel_rfl),rfl,trivial⟩⟩)
abbrev ZXe(a:Fld):Ad×Blk:=((0,1),⟨0,true,56,16,(cD (Ao a))⟩)
abbrev uc:Bool→AV:=fun y=>vB y
@[reducible] def uY(a:Fld):Bool→List Blk:=fun y=>[⟨0,true,151,1,[.fn (.func 218) [] [.ptr (0,1) 0 0]]⟩,⟨0,true,56,16,(cD (Ao a))⟩]
def ZoV(b:Slt)(a:Fld):PT 2 (Bool):=wg<|wg<|cs Tryz.prog 218 [vI b.num,.ptr (0,1) 0 0] [(0,1)] [(ZXe a)] (Zge b.num a) (fun y=>vB y) fun c=>lr uc (uY a) c
def U3(b:Slt)(a:Fld):Option (Bool):=(ZoV b a).m
theorem ZI1(b:Slt)(a:Fld):KO Tryz.prog 221 2 [.agg ((BW b).map .d),.ptr (0,0) 0 0] [⟨0,true,151,1,[.fn (.func 218) [] [.ptr (0,1) 0 0]]⟩,⟨0,true,56,16,(cD (Ao a))⟩] (fun _ _ _ _=>True) (U3 b a) uc (uY a):=Bi Tryz.func221 Tryz.ntmps221 Aa [.tmp 3] 2 (fun C co f y hm c d=>Ap co Aa Ac (ZoV b a) hm d fun r g=>⟨fun y hy=>B2 (ZVU b.num a) hy co g [(ZXe a)] [] (AP []) (fun e h i=>trivial) (fun H=>⟨fun _=>⟨rfl,by kernel_rfl⟩,by kernel_rfl,trivial⟩),fun j=>id⟩) (hB:=fun y=>⟨.inr (by kernel_rfl),rfl,⟨.inr (by kernel_rfl),rfl,trivial⟩⟩)
abbrev ZXO(a:Fld):Ad×Blk:=((0,1),⟨0,true,56,16,(cD (Ao a))⟩)
abbrev vd:Bool→AV:=fun y=>vB y
@[reducible] def sU(a:Fld):Bool→List Blk:=fun y=>[⟨0,true,151,1,[.fn (.func 198) [] [.ptr (0,1) 0 0]]⟩,⟨0,true,56,16,(cD (Ao a))⟩]
def Zpl(b:Slt)(a:Fld):PT 2 (Bool):=wg<|wg<|cs Tryz.prog 198 [vI b.num,.ptr (0,1) 0 0] [(0,1)] [(ZXO a)] (ZeZ b.num a) (fun y=>vB y) fun c=>lr vd (sU a) c
def U8(b:Slt)(a:Fld):Option (Bool):=(Zpl b a).m
theorem ZK5(b:Slt)(a:Fld):KO Tryz.prog 221 2 [.agg ((BW b).map .d),.ptr (0,0) 0 0] [⟨0,true,151,1,[.fn (.func 198) [] [.ptr (0,1) 0 0]]⟩,⟨0,true,56,16,(cD (Ao a))⟩] (fun _ _ _ _=>True) (U8 b a) vd (sU a):=Bi Tryz.func221 Tryz.ntmps221 Aa [.tmp 3] 2 (fun C co f y hm c d=>Ap co Aa Ac (Zpl b a) hm d fun r g=>⟨fun y hy=>B2 (ZWr b.num a) hy co g [(ZXO a)] [] (AP []) (fun e h i=>trivial) (fun H=>⟨fun _=>⟨rfl,by kernel_rfl⟩,by kernel_rfl,trivial⟩),fun j=>id⟩) (hB:=fun y=>⟨.inr (by kernel_rfl),rfl,⟨.inr (by kernel_rfl),rfl,trivial⟩⟩)
abbrev eX(a:Fld):Ad×Blk:=((0,0),⟨0,true,56,16,(cD (Ao a))⟩)
abbrev wT:Bool→AV:=fun y=>vB y
@[reducible] def wN(a:Fld):Bool→List Blk:=fun y=>[⟨0,true,56,16,(cD (Ao a))⟩]
def j6(b:List Slt)(a:Fld):PT 1 (Bool):=cs Tryz.prog 220 [vL Am b,.fn (.func 221) [] [.ptr (1,3) 1 0]] [(1,3),(0,0)] [((1,3),⟨1,true,151,1,[.fn (.func 217) [] [.ptr (0,0) 0 0]]⟩),(eX a)] (Ml b (fun(z0:Slt)=>U7 z0 a)) (fun y=>vB y) fun c=>lr wT (wN a) c
def Vc(b:List Slt)(a:Fld):Option (Bool):=(j6 b a).m
theorem ZJQ(b:List Slt)(a:Fld):KO Tryz.prog 197 1 [vL Am b,.fn (.func 217) [] [.ptr (0,0) 0 0]] [⟨0,true,56,16,(cD (Ao a))⟩] (fun _ _ _ _=>True) (Vc b a) wT (wN a):=Bi Tryz.func197 Tryz.ntmps197 Aa [.tmp 4] 1 (fun C co i y hm c d=>Ap co Aa Ac (j6 b a) hm d fun r g=>⟨fun y hy=>B2 (dn b (fun(z0:Slt)=>U7 z0 a)) hy co g [] [((1,3),⟨1,true,151,1,[.fn (.func 217) [] [.ptr (0,0) 0 0]]⟩),(eX a)] (AP [(1,.fn (.func 221) [] [.ptr (r.κ (1,3)) (r.γ (1,3)+1) 0])]) (fun h e j=>(fun z0 y f=>DY (ZHT z0 a) f co g [((1,3),⟨1,true,151,1,[.fn (.func 217) [] [.ptr (0,0) 0 0]]⟩),(eX a)] [] e (by simp) (fun _=>.top) (fun _ _=>trivial) (fun l H=>⟨fun _=>⟨rfl,by kernel_rfl⟩,by kernel_rfl,⟨fun _=>⟨rfl,by kernel_rfl⟩,by kernel_rfl,trivial⟩⟩))) (fun H=>trivial),fun k=>id⟩) (hB:=fun y=>⟨.inr (by kernel_rfl),rfl,trivial⟩)
abbrev fd(a:Fld):Ad×Blk:=((0,0),⟨0,true,56,16,(cD (Ao a))⟩)
abbrev v6:Bool→AV:=fun y=>vB y
@[reducible] def s3(a:Fld):Bool→List Blk:=fun y=>[⟨0,true,56,16,(cD (Ao a))⟩]
def jH(b:List Slt)(a:Fld):PT 1 (Bool):=cs Tryz.prog 220 [vL Am b,.fn (.func 221) [] [.ptr (1,3) 1 0]] [(1,3),(0,0)] [((1,3),⟨1,true,151,1,[.fn (.func 218) [] [.ptr (0,0) 0 0]]⟩),(fd a)] (Ml b (fun(z0:Slt)=>U3 z0 a)) (fun y=>vB y) fun c=>lr v6 (s3 a) c
def UT(b:List Slt)(a:Fld):Option (Bool):=(jH b a).m
theorem ZHQ(b:List Slt)(a:Fld):KO Tryz.prog 197 1 [vL Am b,.fn (.func 218) [] [.ptr (0,0) 0 0]] [⟨0,true,56,16,(cD (Ao a))⟩] (fun _ _ _ _=>True) (UT b a) v6 (s3 a):=Bi Tryz.func197 Tryz.ntmps197 Aa [.tmp 4] 1 (fun C co i y hm c d=>Ap co Aa Ac (jH b a) hm d fun r g=>⟨fun y hy=>B2 (dn b (fun(z0:Slt)=>U3 z0 a)) hy co g [] [((1,3),⟨1,true,151,1,[.fn (.func 218) [] [.ptr (0,0) 0 0]]⟩),(fd a)] (AP [(1,.fn (.func 221) [] [.ptr (r.κ (1,3)) (r.γ (1,3)+1) 0])]) (fun h e j=>(fun z0 y f=>DY (ZI1 z0 a) f co g [((1,3),⟨1,true,151,1,[.fn (.func 218) [] [.ptr (0,0) 0 0]]⟩),(fd a)] [] e (by simp) (fun _=>.top) (fun _ _=>trivial) (fun l H=>⟨fun _=>⟨rfl,by kernel_rfl⟩,by kernel_rfl,⟨fun _=>⟨rfl,by kernel_rfl⟩,by kernel_rfl,trivial⟩⟩))) (fun H=>trivial),fun k=>id⟩) (hB:=fun y=>⟨.inr (by kernel_rfl),rfl,trivial⟩)
abbrev fj(a:Fld):Ad×Blk:=((0,0),⟨0,true,56,16,(cD (Ao a))⟩)
abbrev tp:Bool→AV:=fun y=>vB y
@[reducible] def tC(a:Fld):Bool→List Blk:=fun y=>[⟨0,true,56,16,(cD (Ao a))⟩]
def jY(b:List Slt)(a:Fld):PT 1 (Bool):=cs Tryz.prog 220 [vL Am b,.fn (.func 221) [] [.ptr (1,3) 1 0]] [(1,3),(0,0)] [((1,3),⟨1,true,151,1,[.fn (.func 198) [] [.ptr (0,0) 0 0]]⟩),(fj a)] (Ml b (fun(z0:Slt)=>U8 z0 a)) (fun y=>vB y) fun c=>lr tp (tC a) c
def US(b:List Slt)(a:Fld):Option (Bool):=(jY b a).m
theorem ZIF(b:List Slt)(a:Fld):KO Tryz.prog 197 1 [vL Am b,.fn (.func 198) [] [.ptr (0,0) 0 0]] [⟨0,true,56,16,(cD (Ao a))⟩] (fun _ _ _ _=>True) (US b a) tp (tC a):=Bi Tryz.func197 Tryz.ntmps197 Aa [.tmp 4] 1 (fun C co i y hm c d=>Ap co Aa Ac (jY b a) hm d fun r g=>⟨fun y hy=>B2 (dn b (fun(z0:Slt)=>U8 z0 a)) hy co g [] [((1,3),⟨1,true,151,1,[.fn (.func 198) [] [.ptr (0,0) 0 0]]⟩),(fj a)] (AP [(1,.fn (.func 221) [] [.ptr (r.κ (1,3)) (r.γ (1,3)+1) 0])]) (fun h e j=>(fun z0 y f=>DY (ZK5 z0 a) f co g [((1,3),⟨1,true,151,1,[.fn (.func 198) [] [.ptr (0,0) 0 0]]⟩),(fj a)] [] e (by simp) (fun _=>.top) (fun _ _=>trivial) (fun l H=>⟨fun _=>⟨rfl,by kernel_rfl⟩,by kernel_rfl,⟨fun _=>⟨rfl,by kernel_rfl⟩,by kernel_rfl,trivial⟩⟩))) (fun H=>trivial),fun k=>id⟩) (hB:=fun y=>⟨.inr (by kernel_rfl),rfl,trivial⟩)
abbrev ZYy:Bool→AV:=fun y=>vB y
@[reducible] def ZYv(w0:Int):Bool→List Blk:=fun y=>[⟨0,true,27,1,[.d (.int .u64 w0)]⟩]
def wS(a:Itm)(w0:Int):PT 1 (Bool):=wg<|vz (wk .u64 a.num)<|wg<|lr ZYy (ZYv w0) (decide ((IntKind.u64.wrap a.num)=w0))
def UP(a:Itm)(w0:Int):Option (Bool):=(wS a w0).m
theorem ZVt(a:Itm)(w0:Int):KO Tryz.prog 201 1 [.agg ((Cr a).map .d),.ptr (0,0) 0 0] [⟨0,true,27,1,[.d (.int .u64 w0)]⟩] (fun _ _ _ _=>True) (UP a w0) ZYy (ZYv w0):=Bi Tryz.func201 Tryz.ntmps201 Aa [.tmp 3] 1 (fun C co d y hm b c=>Ap co Aa Ac (wS a w0) hm c fun r g=>id) (hB:=fun y=>⟨.inr (by kernel_rfl),rfl,trivial⟩)
abbrev ZYi:Bool→AV:=fun y=>vB y
def nk(a:Enm)(b:Int):PT 0 (Bool):=wg<|wg<|Dy (!a.opn) Tryz.prog 96 [vL Cr a.items,.fn (.func 201) [] [.ptr (1,3) 1 0]] [(1,3)] [((1,3),⟨1,true,27,1,[.d (.int .u64 b)]⟩)] (OW a.items (fun(z0:Itm)=>UP z0 b)) (fun y=>vB y) fun c=>lr ZYi nG (a.opn||c)
def iD(a:Enm)(b:Int):Option (Bool):=(nk a b).m
theorem zl(b:Enm)(a:Int):KC Tryz.prog 177 [.agg ((Bw b).map .d),.d (.int .u64 a)] (iD b a) ZYi:=Au Tryz.func177 Tryz.ntmps177 Aa [.tmp 4] fun C co y hm c d=>Ap co Aa Ac (nk b a) hm d fun r g=>⟨fun y hy=>B2 (ZYG b.items (fun(z0:Itm)=>UP z0 a)) hy co g [] [((1,3),⟨1,true,27,1,[.d (.int .u64 a)]⟩)] (AP [(1,.fn (.func 201) [] [.ptr (r.κ (1,3)) (r.γ (1,3)+1) 0])]) (fun h e i=>(fun z0 y f=>DY (ZVt z0 a) f co g [((1,3),⟨1,true,27,1,[.d (.int .u64 a)]⟩)] [] e (by simp) (fun _=>.top) (fun _ _=>trivial) (fun l H=>⟨fun _=>⟨rfl,by kernel_rfl⟩,by kernel_rfl,trivial⟩))) (fun H=>trivial),fun j=>id⟩
abbrev JX:Int→AV:=fun y=>vI y
def lP(c:Scm)(a:Typ)(b:Val):PT 0 (Int):=wg<|wg<|wg<|Az (!(!decide (b.kind=a.kind))) (SY b) fun d=>br ((!decide (b.kind=a.kind))||d) (lr JX nG 12) (wg<|vz (A9 b.text.size)<|br (decide ((4096:Int)<(b.text.size:Int))) (lr JX nG 3) (wg<|wg<|Az (decide (a.kind=(7:Int))) (ZSe b.text) fun e=>br (decide (a.kind=(7:Int))&&(!e)) (lr JX nG 7) (wg<|wg<|cl (eK a.kind b) fun f=>br (!f) (lr JX nG 12) (wg<|wg<|cl (UB c a.name) fun g=>wg<|wg<|wg<|wg<|Az (decide (a.kind=(9:Int))) (zl g.1 b.bits) fun h=>br (decide (a.kind=(9:Int))&&(!h)) (lr JX nG 16) (lr JX nG 0)))))
def i9(a:Scm)(b:Typ)(c:Val):Option (Int):=(lP a b c).m
theorem S7(a:Scm)(b:Typ)(c:Val):KC Tryz.prog 145 [.agg ((Al a).map .d),.agg ((DJ b).map .d),.agg ((Ag c).map .d)] (i9 a b c) JX:=Au Tryz.func145 Tryz.ntmps145 Aa [.tmp 6] fun C co y hm d e=>Ap co Aa Ac (lP a b c) hm e fun r g=>fun f=>⟨id,⟨id,fun h=>⟨id,fun i=>⟨id,fun j=>fun k=>⟨id,id⟩⟩⟩⟩⟩
abbrev Ty:Int→AV:=fun y=>vI y
def ZYx(a:Pr→Option Bool):Cl:=fun no l H θ=>(∀(z0:Pr) y,a z0=some y→CH Tryz.prog l no H (θ 1) [.agg ((Dp z0).map .d)] (vB y))
def vf(a:List Pr):Nat→St:=fun b=>Ab [(0,vL Ay a),(1,.fn (.yield 1) [] []),(7,vN a.length),(8,vN b)] []
def sP:Unit→Nat×St:=fun _=>(0,Ab [] [])
def Wf(b:List Pr)(c:Pr→Option Bool)(a:Nat):PT 0 (Lv (Nat) (Unit) (Int)):=br (decide ((a:Int)<(b.length:Int))) (ix b a fun d=>cf Tryz.prog 1 [.agg ((Dp d).map .d)] (c d) (fun y=>vB y) fun e=>br e (Ar Ty nG (a:Int)) (vs (wa a 1)<|ln (vf b) (a+1))) (Ai (sP) ())
def P1(b:List Pr)(a:Pr→Option Bool):Nat→Option (Lv (Nat) (Unit) (Int)):=fun c=>(Wf b a c).m
def kX:PT 0 (Int):=lr Ty nG (-1)
def pz(a:List Pr)(b:Pr→Option Bool):PT 0 (Int):=vz (Ah a)<|lc (Ab [(0,vL Ay a),(1,.fn (.yield 1) [] []),(7,vN a.length),(8,vI 0)] []) ((An (P1 a b) Aj 0).bind (Sum.elim (fun _=>(kX).m) some))
def nE(b:List Pr)(a:Pr→Option Bool):PT 0 (Int):=lc (Ab [(0,vL Ay b),(1,.fn (.yield 1) [] [])] []) ((pz b a).m)
def io(b:List Pr)(a:Pr→Option Bool):Option (Int):=(nE b a).m
theorem ZBN{C:Cx}(co:CO C 0)(b:List Pr)(a:Pr→Option Bool)(f:(ZYx a) C.no C.l C.H0 C.θ):KL Tryz.prog (AB tl) 19 C (pa [0,0,1,0,1] (Aw Tryz.f140)) [.tmp 4] 0 (vf b) (sP) Ty nG (P1 b a):=fun h _ hm Q c e d=>Av co Aa Ac (Wf b a h) (AH [0,1,7,8]) nl e hm d fun r g=>⟨fun i=>⟨⟨fun y hy=>f _ y hy,by intro r;kernel_rfl,by intro r y;kernel_rfl⟩,fun j=>⟨id,id⟩⟩,id⟩
theorem ZVH(c:List Pr)(a:Pr→Option Bool):KO Tryz.prog 140 0 [vL Ay c,.fn (.yield 1) [] []] [] (ZYx a) (io c a) Ty nG:=Bi Tryz.func140 Tryz.ntmps140 Aa [.tmp 4] 0 (fun C co e y hm d b=>Ak co Aa Ac 1 (nE c a) (AH [0,1]) nl nH hm b fun r g=>fun _ hm b=>sq (Ak co Aa Ac 1 (pz c a) (AH [0,1,7,8]) nl nH hm b fun r g=>fun _ hm b=>bk 0 (lo (AF (ZBN co c a e) nH hm b (fun _ hm=>Ap co Aa Ac (kX) hm b fun r g=>id)))))
abbrev rR:Bool→AV:=fun y=>vB y
def H93(a:Pr→Option Bool):Cl:=fun no l H θ=>(∀(z0:Pr) y,a z0=some y→CH Tryz.prog l no H (θ 1) [.agg ((Dp z0).map .d)] (vB y))
def cC(b:List Pr)(a:Pr→Option Bool):PT 0 (Bool):=cs Tryz.prog 140 [vL Ay b,.fn (.yield 1) [] []] [] [] (io b a) (fun y=>vI y) fun c=>lr rR nG (decide ((0:Int)≤c))
def Kz(b:List Pr)(a:Pr→Option Bool):Option (Bool):=(cC b a).m
theorem ZXT(b:List Pr)(a:Pr→Option Bool):KO Tryz.prog 93 0 [vL Ay b,.fn (.yield 1) [] []] [] (H93 a) (Kz b a) rR nG:=Bi Tryz.func93 Tryz.ntmps93 Aa [.tmp 4] 0 (fun C co e y hm c d=>Ap co Aa Ac (cC b a) hm d fun r g=>⟨fun y hy=>B2 (ZVH b a) hy co g [] [] (AP [(1,r.θ 1)]) (fun i j f=>(fun z0 y h=>MU co g [] f (e z0 y h))) (fun H=>trivial),fun k=>id⟩)
abbrev ZWX:Bool→AV:=fun y=>vB y
def pK(a:Int):PT 0 (Bool):=lr ZWX nG (!decide (a=a))
def ZfL(a:Int):Option (Bool):=(pK a).m
theorem ZRt(a:Int):KC Tryz.prog 169 [vI a] (ZfL a) ZWX:=Au Tryz.func169 Tryz.ntmps169 Aa [.tmp 2] fun C co y hm b c=>Ap co Aa Ac (pK a) hm c fun r g=>id
abbrev J3:Int→AV:=fun y=>vI y
def oD(a:Int)(b:Int):PT 0 (Int):=cl (ZRt a) fun d=>cl (ZRt b) fun c=>br d (br c (lr J3 nG 0) (lr J3 nG (-1))) (br c (lr J3 nG 1) (br (decide (a<b)) (lr J3 nG (-1)) (br (decide (b<a)) (lr J3 nG 1) (lr J3 nG 0))))
def ie(a:Int)(b:Int):Option (Int):=(oD a b).m
theorem dx(a:Int)(b:Int):KC Tryz.prog 127 [vI a,vI b] (ie a b) J3:=Au Tryz.func127 Tryz.ntmps127 Aa [.tmp 4] fun C co y hm c d=>Ap co Aa Ac (oD a b) hm d fun r g=>fun e=>fun f=>⟨⟨id,id⟩,⟨id,⟨id,⟨id,id⟩⟩⟩⟩
abbrev ZXC:Val→AV:=fun y=>.ifc 182 [(.int .i64 y.kind),(.int .u64 y.bits),(.str y.text),(.list (y.list.map AM)),(.list (y.pairs.map Ay)),(.list (y.slots.map Am)),(.list (y.raws.map A0))] true
def ns(a:Val):PT 0 (Val):=wg<|cl (LG a.kind) fun b=>bT b<|wg<|lr ZXC nG a
def Zfv(a:Val):Option (Val):=(ns a).m
theorem ZSO(a:Val):KC Tryz.prog 128 [.agg ((Ag a).map .d)] (Zfv a) ZXC:=Au Tryz.func128 Tryz.ntmps128 Aa [.tmp 2] fun C co y hm b c=>Ap co Aa Ac (ns a) hm c fun r g=>fun d=>id
abbrev ZW6:Bool→AV:=fun y=>vB y
def nj(a:ByteArray):PT 0 (Bool):=lr ZW6 nG (!decide (a=a))
def ZeC(a:ByteArray):Option (Bool):=(nj a).m
theorem xC(a:ByteArray):KC Tryz.prog 192 [vS a] (ZeC a) ZW6:=Au Tryz.func192 Tryz.ntmps192 Aa [.tmp 2] fun C co y hm b c=>Ap co Aa Ac (nj a) hm c fun r g=>id
abbrev J5:Int→AV:=fun y=>vI y
def pd(a:ByteArray)(b:ByteArray):PT 0 (Int):=cl (xC a) fun d=>cl (xC b) fun c=>br d (br c (lr J5 nG 0) (lr J5 nG (-1))) (br c (lr J5 nG 1) (br (Bx a b) (lr J5 nG (-1)) (br (!(Bx a b||decide (a=b))) (lr J5 nG 1) (lr J5 nG 0))))
def gJ(a:ByteArray)(b:ByteArray):Option (Int):=(pd a b).m
theorem ZV0(a:ByteArray)(b:ByteArray):KC Tryz.prog 170 [vS a,vS b] (gJ a b) J5:=Au Tryz.func170 Tryz.ntmps170 Aa [.tmp 4] fun C co y hm c d=>Ap co Aa Ac (pd a b) hm d fun r g=>fun e=>fun f=>⟨⟨id,id⟩,⟨id,⟨id,⟨id,id⟩⟩⟩⟩
abbrev ZX8:Bool→AV:=fun y=>vB y
def kW(a:Int):PT 0 (Bool):=lr ZX8 nG (!decide (a=a))
def Zex(a:Int):Option (Bool):=(kW a).m
theorem w7(a:Int):KC Tryz.prog 193 [.d (.int .u64 a)] (Zex a) ZX8:=Au Tryz.func193 Tryz.ntmps193 Aa [.tmp 2] fun C co y hm b c=>Ap co Aa Ac (kW a) hm c fun r g=>id
abbrev J1:Int→AV:=fun y=>vI y
def pD(a:Int)(b:Int):PT 0 (Int):=cl (w7 a) fun d=>cl (w7 b) fun c=>br d (br c (lr J1 nG 0) (lr J1 nG (-1))) (br c (lr J1 nG 1) (br (decide (a<b)) (lr J1 nG (-1)) (br (decide (b<a)) (lr J1 nG 1) (lr J1 nG 0))))
def gI(a:Int)(b:Int):Option (Int):=(pD a b).m
theorem zR(a:Int)(b:Int):KC Tryz.prog 171 [.d (.int .u64 a),.d (.int .u64 b)] (gI a b) J1:=Au Tryz.func171 Tryz.ntmps171 Aa [.tmp 4] fun C co y hm c d=>Ap co Aa Ac (pD a b) hm d fun r g=>fun e=>fun f=>⟨⟨id,id⟩,⟨id,⟨id,⟨id,id⟩⟩⟩⟩
abbrev LZ:Int→AV:=fun y=>vI y
def ol(a:Int):PT 0 (Int):=vz (ri .u64 a (9218868437227405312:Int))<|vz (ri .u64 a (4503599627370495:Int))<|br (decide ((Dk .u64 a (9218868437227405312:Int))=(9218868437227405312:Int))&&(!decide ((Dk .u64 a (4503599627370495:Int))=(0:Int)))) (lr LZ nG 0) (br (decide ((Dk .u64 a (9218868437227405312:Int))=(9218868437227405312:Int))) (lr LZ nG 1) (br (decide ((Dk .u64 a (9218868437227405312:Int))=(0:Int))&&decide ((Dk .u64 a (4503599627370495:Int))=(0:Int))) (lr LZ nG 2) (br (decide ((Dk .u64 a (9218868437227405312:Int))=(0:Int))) (lr LZ nG 3) (lr LZ nG 4))))
def iw(a:Int):Option (Int):=(ol a).m
theorem ZWG(a:Int):KC Tryz.prog 194 [.d (.int .u64 a)] (iw a) LZ:=Au Tryz.func194 Tryz.ntmps194 Aa [.tmp 2] fun C co y hm b c=>Ap co Aa Ac (ol a) hm c fun r g=>⟨id,⟨id,⟨id,⟨id,id⟩⟩⟩⟩
abbrev T5:Int→AV:=fun y=>.d (.int .u64 y)
def py(a:Int):PT 0 (Int):=cl (ZWG a) fun b=>br (decide (b=(0:Int))) (lr T5 nG 18446744073709551615) (vz (ri .u64 a (9223372036854775808:Int))<|br (!decide ((Dk .u64 a (9223372036854775808:Int))=(0:Int))) (vz (wcp .u64 a)<|lr T5 nG (I4 .u64 a)) (vz (wor .u64 a (9223372036854775808:Int))<|lr T5 nG (GF .u64 a (9223372036854775808:Int))))
def iv(a:Int):Option (Int):=(py a).m
theorem z8(a:Int):KC Tryz.prog 172 [.d (.int .u64 a)] (iv a) T5:=Au Tryz.func172 Tryz.ntmps172 Aa [.tmp 2] fun C co y hm b c=>Ap co Aa Ac (py a) hm c fun r g=>fun d=>⟨id,⟨id,id⟩⟩
abbrev Kn:Int→AV:=fun y=>vI y
def pA(a:Val)(b:Val):PT 0 (Int):=wg<|wg<|br (!decide (a.kind=b.kind)) (wg<|wg<|cl (dx a.kind b.kind) fun c=>lr Kn nG c) (wg<|cl (LG a.kind) fun d=>br (!d) (lr Kn nG 0) (wg<|cl (wZ a.kind) fun e=>br e (wg<|wg<|cl (ZV0 a.text b.text) fun f=>lr Kn nG f) (wg<|wg<|br (decide (a.kind=(2:Int))||decide (a.kind=(3:Int))) (wg<|vz (wk .i64 a.bits)<|wg<|vz (wk .i64 b.bits)<|cl (dx (IntKind.i64.wrap a.bits) (IntKind.i64.wrap b.bits)) fun g=>lr Kn nG g) (wg<|br (decide (a.kind=(6:Int))) (wg<|cl (z8 a.bits) fun h=>wg<|cl (z8 b.bits) fun i=>cl (zR h i) fun j=>lr Kn nG j) (wg<|wg<|cl (zR a.bits b.bits) fun k=>lr Kn nG k)))))
def iJ(a:Val)(b:Val):Option (Int):=(pA a b).m
theorem ZUR(a:Val)(b:Val):KC Tryz.prog 129 [.agg ((Ag a).map .d),.agg ((Ag b).map .d)] (iJ a b) Kn:=Au Tryz.func129 Tryz.ntmps129 Aa [.tmp 4] fun C co y hm c d=>Ap co Aa Ac (pA a b) hm d fun r g=>⟨fun e=>id,fun f=>⟨id,fun h=>⟨fun i=>id,⟨fun j=>id,⟨fun k=>fun l=>fun m=>id,fun n=>id⟩⟩⟩⟩⟩
abbrev Zg:Int→AV:=fun y=>vI y
def SL(b:Val)(a:Val):PT 0 (Int):=wg<|wg<|br (!decide (b.kind=a.kind)) (wg<|wg<|cl (dx b.kind a.kind) fun c=>lr Zg nG c) (wg<|cl (ZSO a) fun f=>wg<|cl (ZSO b) fun d=>wg<|wg<|wg<|wg<|cl (ZUR d a) fun e=>lr Zg nG e)
def i4(a:Val)(b:Val):Option (Int):=(SL a b).m
theorem ZZm(a:Val)(b:Val):KC Tryz.prog 89 [.agg ((Ag a).map .d),.agg ((Ag b).map .d)] (i4 a b) Zg:=Au Tryz.func89 Tryz.ntmps89 Aa [.tmp 4] fun C co y hm c d=>Ap co Aa Ac (SL a b) hm d fun r g=>⟨fun e=>id,fun f=>fun h=>fun i=>id⟩
abbrev rE:Bool→AV:=fun y=>vB y
def SG(a:Val)(b:Val):PT 0 (Bool):=wg<|wg<|cl (ZZm a b) fun c=>lr rE nG (decide (c=(0:Int)))
def UV(a:Val)(b:Val):Option (Bool):=(SG a b).m
theorem fY(a:Val)(b:Val):KC Tryz.prog 52 [.agg ((Ag a).map .d),.agg ((Ag b).map .d)] (UV a b) rE:=Au Tryz.func52 Tryz.ntmps52 Aa [.tmp 4] fun C co y hm c d=>Ap co Aa Ac (SG a b) hm d fun r g=>fun e=>id
abbrev ZXX:Bool→AV:=fun y=>vB y
@[reducible] def ZX5(w0:Pr):Bool→List Blk:=fun y=>[⟨0,true,85,14,(cD (Dp w0))⟩]
def lJ(a:Pr)(w0:Pr):PT 1 (Bool):=wg<|wg<|cl (fY a.key w0.key) fun b=>lr ZXX (ZX5 w0) b
def OP(a:Pr)(w0:Pr):Option (Bool):=(lJ a w0).m
theorem ZWA(a:Pr)(w0:Pr):KO Tryz.prog 233 1 [.agg ((Dp a).map .d),.ptr (0,0) 0 0] [⟨0,true,85,14,(cD (Dp w0))⟩] (fun _ _ _ _=>True) (OP a w0) ZXX (ZX5 w0):=Bi Tryz.func233 Tryz.ntmps233 Aa [.tmp 3] 1 (fun C co d y hm b c=>Ap co Aa Ac (lJ a w0) hm c fun r g=>fun e=>id) (hB:=fun y=>⟨.inr (by kernel_rfl),rfl,trivial⟩)
abbrev ZXh:Bool→AV:=fun y=>vB y
def nQ(d:Scm)(a:Fld)(b:Raw):PT 0 (Bool):=wg<|wg<|cl (UB d a.type.name) fun c=>wg<|wg<|wg<|wg<|wg<|wg<|wg<|Az ((((c.2&&decide (a.type.kind=(9:Int)))&&(!decide (a.card=(5:Int))))&&decide (b.wire=(0:Int)))&&decide (b.bits<(2147483648:Int))) (zl c.1 b.bits) fun e=>lr ZXh nG (((((c.2&&decide (a.type.kind=(9:Int)))&&(!decide (a.card=(5:Int))))&&decide (b.wire=(0:Int)))&&decide (b.bits<(2147483648:Int)))&&(!e))
def iL(a:Scm)(b:Fld)(c:Raw):Option (Bool):=(nQ a b c).m
theorem ZU3(a:Scm)(b:Fld)(c:Raw):KC Tryz.prog 222 [.agg ((Al a).map .d),.agg ((Ao b).map .d),.agg ((A0 c).map .d)] (iL a b c) ZXh:=Au Tryz.func222 Tryz.ntmps222 Aa [.tmp 6] fun C co y hm d e=>Ap co Aa Ac (nQ a b c) hm e fun r g=>fun f=>fun h=>id
abbrev Og:Int→AV:=fun y=>vI y
def mR(c:Scm)(d:Msg)(a:Raw):PT 0 (Int):=wg<|wg<|wg<|cl (LV d a.num) fun b=>wg<|wg<|wg<|wg<|wg<|br (((decide (a.num<(1:Int))||decide ((65535:Int)<a.num))||decide (a.wire<(0:Int)))||decide ((6:Int)<a.wire)) (lr Og nG 1) (wg<|wg<|wg<|wg<|wg<|Az ((!((decide (a.wire≤(2:Int))&&(!decide (a.data=(⟨#[]⟩:ByteArray))))||((!(decide (a.wire≤(2:Int))))&&(!decide (a.bits=(0:Int))))))&&b.2) (ZU3 c b.1 a) fun e=>br (((decide (a.wire≤(2:Int))&&(!decide (a.data=(⟨#[]⟩:ByteArray))))||((!(decide (a.wire≤(2:Int))))&&(!decide (a.bits=(0:Int)))))||(b.2&&(!e))) (lr Og nG 1) (wg<|wg<|vy (decide (a.wire=(3:Int))) (A9 a.data.size)<|wg<|vy (!(decide (a.wire=(3:Int))&&decide ((4096:Int)<(a.data.size:Int)))) (A9 a.data.size)<|br ((decide (a.wire=(3:Int))&&decide ((4096:Int)<(a.data.size:Int)))||decide ((65536:Int)<(a.data.size:Int))) (lr Og nG 3) (lr Og nG 0)))
def i7(a:Scm)(b:Msg)(c:Raw):Option (Int):=(mR a b c).m
theorem ZVw(a:Scm)(b:Msg)(c:Raw):KC Tryz.prog 199 [.agg ((Al a).map .d),.agg ((AE b).map .d),.agg ((A0 c).map .d)] (i7 a b c) Og:=Au Tryz.func199 Tryz.ntmps199 Aa [.tmp 6] fun C co y hm d e=>Ap co Aa Ac (mR a b c) hm e fun r g=>fun f=>⟨id,fun h=>⟨id,⟨id,id⟩⟩⟩
abbrev C6:Int→AV:=fun y=>vI y
abbrev Ov:List (Ad×Bool):=[((1,5),false),((1,11),false)]
abbrev Ua:List (Ad×Bool):=[((1,5),false),((1,6),false)]
abbrev Kd(a:Fld×Bool):Ad×Blk:=kk 11 56 16 (cD (Ao a.1))
abbrev LS(a:Scm):Ad×Blk:=kk 5 26 3 (cD (Al a))
abbrev LD:Int→AV:=fun y=>vI y
def uS(b:Scm)(c:List Slt)(d:Int)(e:Int)(g:Fld×Bool)(a:List Fld):Nat→St:=fun f=>Ab [(2,vL Am c),(3,vI d),(4,vI e),pp 5,pp 11,(35,vL Ao a),(36,vN a.length),(37,vN f)] [(LS b),(Kd g)]
def vi(a:Scm)(b:List Slt)(c:Int)(d:Int)(e:Fld×Bool):Unit→Nat×St:=fun _=>(0,Ab [(2,vL Am b),(3,vI c),(4,vI d),pp 5,pp 11] [(LS a),(Kd e)])
def XA(h:Scm)(d:List Slt)(e:Int)(i:Int)(b:Fld×Bool)(f:List Fld)(c:Nat):PT 0 (Lv (Nat) (Unit) (Int)):=br (decide ((c:Int)<(f.length:Int))) (ix f c fun a=>wg<|wg<|wg<|sLg (!decide (a.num=b.1.num)) d .no (.it e) fun g=>Dy (!decide (a.num=b.1.num)) Tryz.prog 197 [vL Am g,.fn (.func 218) [] [.ptr (1,14) 1 0]] [(1,14)] [((1,14),⟨1,true,56,16,(cD (Ao a))⟩)] (UT g a) (fun y=>vB y) fun j=>br ((!decide (a.num=b.1.num))&&j) (Ar LD nG 15) (vs (wa c 1)<|ln (uS h d e i b f) (c+1))) (Ai (vi h d e i b) ())
def MS(b:Scm)(c:List Slt)(d:Int)(e:Int)(a:Scm→Fld→Val→Int→Option (Int))(g:Fld×Bool)(h:List Fld):Nat→Option (Lv (Nat) (Unit) (Int)):=fun f=>(XA b c d e g h f).m
def mS(d:Scm)(g:List Slt)(h:Int)(e:Int)(a:Scm→Fld→Val→Int→Option (Int))(f:Fld×Bool):PT 0 (Int):=wg<|wg<|B8 g h fun b=>cs Tryz.prog 219 [.agg ((Al d).map .d),.agg ((Ao f.1).map .d),.agg ((Ag b.val).map .d),vI e] [] [] (a d f.1 b.val e) (fun y=>vI y) fun c=>lr LD nG c
def p5(d:Scm)(h:Msg)(e:List Slt)(f:Int)(g:Int)(a:Scm→Fld→Val→Int→Option (Int))(b:Fld×Bool):PT 0 (Int):=wg<|cl (fH h b.1.union) fun c=>vz (Ah c)<|lc (Ab [(2,vL Am e),(3,vI f),(4,vI g),pp 5,pp 11,(35,vL Ao c),(36,vN c.length),(37,vI 0)] [(LS d),(Kd b)]) ((An (MS d e f g a b c) Aj 0).bind (Sum.elim (fun _=>(mS d e f g a b).m) some))
def oY(f:Scm)(g:Msg)(c:List Slt)(d:Int)(h:Int)(a:Scm→Fld→Val→Int→Option (Int))(b:Fld×Bool):PT 0 (Int):=br (!b.2) (lr LD nG 8) (sL c .no (.it d) fun e=>cs Tryz.prog 197 [vL Am e,.fn (.func 217) [] [.ptr (1,11) 0 0]] [(1,11)] [(Kd b)] (Vc e b.1) (fun y=>vB y) fun i=>br i (lr LD nG 9) (lc (Ab [(2,vL Am c),(3,vI d),(4,vI h),pp 5,(6,.iptr (AE g) 0),pp 11] [(LS f),(Kd b)]) ((p5 f g c d h a b).m)))
def oX(f:Scm)(b:Msg)(c:List Slt)(d:Int)(g:Int)(a:Scm→Fld→Val→Int→Option (Int)):PT 0 (Int):=vw (.fzb 6 [6])<|vw .sep<|B8 c d fun h=>du (cl (LV b h.num) fun e=>wg<|lc (Ab [(2,vL Am c),(3,vI d),(4,vI g),pp 5,(6,.iptr (AE b) 0),pp 11,(12,vB e.2)] [(LS f),(Kd e)]) ((oY f b c d g a e).m))
def lC(b:Scm)(c:Msg)(d:List Slt)(e:Int)(f:Int)(a:Scm→Fld→Val→Int→Option (Int)):PT 0 (Int):=lc (Ab [(2,vL Am d),(3,vI e),(4,vI f),pp 5,pp 6] [(LS b),kk 6 61 5 (cD (AE c))]) ((oX b c d e f a).m)
def Va(a:Scm→Fld→Val→Int→Option (Int))(b:Scm)(c:Msg)(d:List Slt)(e:Int)(f:Int):Option (Int):=(lC b c d e f a).m
theorem ZBD{C:Cx}(co:CO C 0)(b:Scm)(c:List Slt)(d:Int)(e:Int)(a:Scm→Fld→Val→Int→Option (Int))(f:Fld×Bool)(h:List Fld)(q:∀(b:Scm) (k:Fld) (c:Val) (d:Int),KC Tryz.prog 219 [.agg ((Al b).map .d),.agg ((Ao k).map .d),.agg ((Ag c).map .d),vI d] (a b k c d) C6):KL Tryz.prog (AB tl) 63 C (pa [0,0,1,0,1,1,1,1] (Aw Tryz.f196)) [.tmp 10] 0 (uS b c d e f h) (vi b c d e f) LD nG (MS b c d e a f h):=fun o _ hm Q i m l=>Av co Aa Ac (XA b c d e f h o) (Ae [2,3,4,5,11,35,36,37] Ov) (Ae [2,3,4,5,11] Ov) m hm l fun r g=>⟨fun j=>fun n=>⟨fun y hy=>B2 (ZHQ n j) hy co g [((1,14),⟨1,true,56,16,(cD (Ao j))⟩)] [] (AP []) (fun p s t=>trivial) (fun H=>⟨fun _=>⟨rfl,by kernel_rfl⟩,by kernel_rfl,trivial⟩),fun u=>⟨id,id⟩⟩,id⟩
theorem cW(a:Scm→Fld→Val→Int→Option (Int))(k:∀(b:Scm) (h:Fld) (c:Val) (d:Int),KC Tryz.prog 219 [.agg ((Al b).map .d),.agg ((Ao h).map .d),.agg ((Ag c).map .d),vI d] (a b h c d) C6)(b:Scm)(h:Msg)(c:List Slt)(d:Int)(e:Int):KC Tryz.prog 196 [.agg ((Al b).map .d),.agg ((AE h).map .d),vL Am c,vI d,vI e] (Va a b h c d e) LD:=Au Tryz.func196 Tryz.ntmps196 Aa [.tmp 10] fun C co y hm m f=>Ak co Aa Ac 1 (lC b h c d e a) (Ae [2,3,4,5,6] Ua) nl nH hm f fun r g=>fun _ hm f=>sq (Fp co Aa Ac (.fst 0 (.fst 1 (.fst 2 (.fst 3 (.fst 4 (.fst 5 (.two 6 10 (.fst 7 (.fst 8 (.fst 9 (.fst 10 (.fst 11 (.fst 12 .nil)))))) (.fst 6 (.fst 7 (.fst 8 (.fst 9 (.fst 11 (.fst 12 .nil))))))))))))) [6] (oX b h c d e a) (Ae [2,3,4,5,6,11,12] Ov) hm f fun r g=>fun q=>fun i=>fun _ hm f=>Ak co Aa Ac 2 (oY b h c d e a i) (Ae [2,3,4,5,6,11] Ov) nl nH hm f fun r g=>⟨id,fun n=>⟨fun y hy=>B2 (ZJQ n i.1) hy co g [(Kd i)] [] (AP []) (fun l s t=>trivial) (fun H=>⟨fun _=>⟨rfl,by kernel_rfl⟩,by kernel_rfl,trivial⟩),fun u=>⟨id,fun _ hm f=>sq (Ak co Aa Ac 1 (p5 b h c d e a i) (Ae [2,3,4,5,11,35,36,37] Ov) nl nH hm f fun r g=>fun p=>fun _ hm f=>bk 0 (lo (AF (ZBD co b c d e a i p k) nH hm f (fun _ hm=>Ap co Aa Ac (mS b c d e a i) hm f fun r g=>fun j=>⟨fun y hy l _ _=>by rw[(k b i.1 j.val e).x,(k b i.1 j.val e).e];exact(k b i.1 j.val e).k _ l y hy,fun o=>id⟩))))⟩⟩⟩)
abbrev F4:List (Ad×Bool):=[((1,4),false),((1,5),false),((1,6),false)]
abbrev Kl:List (Ad×Bool):=[((1,4),false),((1,5),false)]
abbrev HE(a:Scm):Ad×Blk:=kk 4 26 3 (cD (Al a))
abbrev JY(a:Val):Ad×Blk:=kk 6 33 7 (cD (Ag a))
abbrev Hb:Int→AV:=fun y=>vI y
def sX(b:Scm)(c:Msg)(a:Val)(d:Int):Nat→St:=fun v2=>Ab [(3,vI d),pp 4,pp 5,pp 6,(29,vN a.slots.length),(30,vN v2)] [(HE b),kk 5 61 5 (cD (AE c)),(JY a)]
def tN(a:Scm)(b:Msg)(c:Val):Unit→Nat×St:=fun _=>(1,Ab [pp 4,pp 5,pp 6] [(HE a),kk 5 61 5 (cD (AE b)),(JY c)])
def W0(c:Scm)(d:Msg)(b:Val)(e:Int)(a:Scm→Fld→Val→Int→Option (Int))(v2:Nat):PT 0 (Lv (Nat) (Unit) (Int)):=br (decide ((v2:Int)<(b.slots.length:Int))) (wg<|wg<|wg<|cs Tryz.prog 196 [.agg ((Al c).map .d),.agg ((AE d).map .d),vL Am b.slots,vN v2,vI e] [] [] (Va a c d b.slots (v2:Int) e) (fun y=>vI y) fun f=>br (!decide (f=(0:Int))) (Ar Hb nG f) (vs (wa v2 1)<|ln (sX c d b e) (v2+1))) (Ai (tN c d b) ())
def PU(b:Scm)(c:Msg)(d:Val)(e:Int)(a:Scm→Fld→Val→Int→Option (Int)):Nat→Option (Lv (Nat) (Unit) (Int)):=fun v2=>(W0 b c d e a v2).m
def ut(b:Scm)(a:Msg)(c:Val):Nat→St:=fun v4=>Ab [pp 4,pp 5,pp 6,(45,vL Ao a.fields),(46,vN a.fields.length),(47,vN v4)] [(HE b),kk 5 61 5 (cD (AE a)),(JY c)]
def uT(a:Scm)(b:Msg)(c:Val):Unit→Nat×St:=fun _=>(3,Ab [pp 4,pp 5,pp 6] [(HE a),kk 5 61 5 (cD (AE b)),(JY c)])
def Xa(d:Scm)(b:Msg)(c:Val)(v4:Nat):PT 0 (Lv (Nat) (Unit) (Int)):=br (decide ((v4:Int)<(b.fields.length:Int))) (ix b.fields v4 fun a=>wg<|wg<|wg<|Dy (decide (a.card=(1:Int))) Tryz.prog 197 [vL Am c.slots,.fn (.func 198) [] [.ptr (1,12) 1 0]] [(1,12)] [((1,12),⟨1,true,56,16,(cD (Ao a))⟩)] (US c.slots a) (fun y=>vB y) fun e=>br (decide (a.card=(1:Int))&&(!e)) (Ar Hb nG 14) (vs (wa v4 1)<|ln (ut d b c) (v4+1))) (Ai (uT d b c) ())
def PJ(b:Scm)(c:Msg)(d:Val)(a:Scm→Fld→Val→Int→Option (Int)):Nat→Option (Lv (Nat) (Unit) (Int)):=fun v4=>(Xa b c d v4).m
def ts(b:Scm)(c:Msg)(a:Val):Nat→St:=fun d=>Ab [pp 4,pp 5,(63,vL A0 a.raws),(64,vN a.raws.length),(65,vN d)] [(HE b),kk 5 61 5 (cD (AE c))]
def vY:Unit→Nat×St:=fun _=>(5,Ab [] [])
def Wc(c:Scm)(d:Msg)(b:Val)(a:Nat):PT 0 (Lv (Nat) (Unit) (Int)):=br (decide ((a:Int)<(b.raws.length:Int))) (ix b.raws a fun f=>wg<|wg<|wg<|wg<|cl (ZVw c d f) fun e=>br (!decide (e=(0:Int))) (Ar Hb nG e) (vs (wa a 1)<|ln (ts c d b) (a+1))) (Ai (vY) ())
def PF(b:Scm)(c:Msg)(d:Val)(a:Scm→Fld→Val→Int→Option (Int)):Nat→Option (Lv (Nat) (Unit) (Int)):=fun e=>(Wc b c d e).m
def ox:PT 0 (Int):=lr Hb nG 0
def mA(c:Scm)(d:Msg)(b:Val)(a:Scm→Fld→Val→Int→Option (Int)):PT 0 (Int):=wg<|vz (Ah b.raws)<|lc (Ab [pp 4,pp 5,(63,vL A0 b.raws),(64,vN b.raws.length),(65,vI 0)] [(HE c),kk 5 61 5 (cD (AE d))]) ((An (PF c d b a) Aj 0).bind (Sum.elim (fun _=>(ox).m) some))
def qx(c:Scm)(b:Msg)(d:Val)(a:Scm→Fld→Val→Int→Option (Int)):PT 0 (Int):=wg<|vz (Ah b.fields)<|lc (Ab [pp 4,pp 5,pp 6,(45,vL Ao b.fields),(46,vN b.fields.length),(47,vI 0)] [(HE c),kk 5 61 5 (cD (AE b)),(JY d)]) ((An (PJ c b d a) Aj 0).bind (Sum.elim (fun _=>(mA c b d a).m) some))
def oi(c:Scm)(d:Msg)(b:Val)(e:Int)(a:Scm→Fld→Val→Int→Option (Int)):PT 0 (Int):=wg<|vz (Ah b.slots)<|lc (Ab [(3,vI e),pp 4,pp 5,pp 6,(29,vN b.slots.length),(30,vI 0)] [(HE c),kk 5 61 5 (cD (AE d)),(JY b)]) ((An (PU c d b e a) Aj 0).bind (Sum.elim (fun _=>(qx c d b a).m) some))
def oG(d:Scm)(e:Msg)(b:Val)(c:Int)(a:Scm→Fld→Val→Int→Option (Int)):PT 0 (Int):=wg<|wg<|Az (!(!decide (b.kind=(10:Int)))) (SY b) fun f=>br ((!decide (b.kind=(10:Int)))||f) (lr Hb nG 12) (br (decide ((16:Int)<c)) (lr Hb nG 17) (lc (Ab [(3,vI c),pp 4,pp 5,pp 6] [(HE d),kk 5 61 5 (cD (AE e)),(JY b)]) ((oi d e b c a).m)))
def U5(a:Scm→Fld→Val→Int→Option (Int))(b:Scm)(c:Msg)(d:Val)(e:Int):Option (Int):=(oG b c d e a).m
theorem ZzO{C:Cx}(co:CO C 0)(b:Scm)(c:Msg)(d:Val)(e:Int)(a:Scm→Fld→Val→Int→Option (Int))(f:∀(b:Scm) (c:Fld) (d:Val) (e:Int),KC Tryz.prog 219 [.agg ((Al b).map .d),.agg ((Ao c).map .d),.agg ((Ag d).map .d),vI e] (a b c d e) C6):KL Tryz.prog (AB tl) 77 C (pa [0,0,1,0,1,1] (Aw Tryz.f174)) [.tmp 8] 0 (sX b c d e) (tN b c d) Hb nG (PU b c d e a):=fun v2 _ hm Q h k j=>Av co Aa Ac (W0 b c d e a v2) (Ae [3,4,5,6,29,30] F4) (Ae [4,5,6] F4) k hm j fun r g=>⟨⟨fun y hy i _ _=>by rw[(cW a f b c d.slots (v2:Int) e).x,(cW a f b c d.slots (v2:Int) e).e];exact(cW a f b c d.slots (v2:Int) e).k _ i y hy,fun l=>⟨id,id⟩⟩,id⟩
theorem ZCq{C:Cx}(co:CO C 0)(c:Scm)(d:Msg)(b:Val)(a:Scm→Fld→Val→Int→Option (Int))(l:∀(c:Scm) (d:Fld) (b:Val) (h:Int),KC Tryz.prog 219 [.agg ((Al c).map .d),.agg ((Ao d).map .d),.agg ((Ag b).map .d),vI h] (a c d b h) C6):KL Tryz.prog (AB tl) 77 C (pa [0,0,1,0,1,1,1] (Aw Tryz.f174)) [.tmp 8] 0 (ut c d b) (uT c d b) Hb nG (PJ c d b a):=fun v4 _ hm Q e j i=>Av co Aa Ac (Xa c d b v4) (Ae [4,5,6,45,46,47] F4) (Ae [4,5,6] F4) j hm i fun r g=>⟨fun f=>⟨fun y hy=>B2 (ZIF b.slots f) hy co g [((1,12),⟨1,true,56,16,(cD (Ao f))⟩)] [] (AP []) (fun k m n=>trivial) (fun H=>⟨fun _=>⟨rfl,by kernel_rfl⟩,by kernel_rfl,trivial⟩),fun o=>⟨id,id⟩⟩,id⟩
theorem ZCG{C:Cx}(co:CO C 0)(b:Scm)(c:Msg)(d:Val)(a:Scm→Fld→Val→Int→Option (Int))(l:∀(b:Scm) (c:Fld) (d:Val) (f:Int),KC Tryz.prog 219 [.agg ((Al b).map .d),.agg ((Ao c).map .d),.agg ((Ag d).map .d),vI f] (a b c d f) C6):KL Tryz.prog (AB tl) 77 C (pa [0,0,1,0,1,1,1,1] (Aw Tryz.f174)) [.tmp 8] 0 (ts b c d) (vY) Hb nG (PF b c d a):=fun j _ hm Q e i h=>Av co Aa Ac (Wc b c d j) (Ae [4,5,63,64,65] Kl) nl i hm h fun r g=>⟨fun k=>fun m=>⟨id,id⟩,id⟩
theorem RU(a:Scm→Fld→Val→Int→Option (Int))(h:∀(c:Scm) (d:Fld) (e:Val) (f:Int),KC Tryz.prog 219 [.agg ((Al c).map .d),.agg ((Ao d).map .d),.agg ((Ag e).map .d),vI f] (a c d e f) C6)(c:Scm)(d:Msg)(e:Val)(f:Int):KC Tryz.prog 174 [.agg ((Al c).map .d),.agg ((AE d).map .d),.agg ((Ag e).map .d),vI f] (U5 a c d e f) Hb:=Au Tryz.func174 Tryz.ntmps174 Aa [.tmp 8] fun C co y hm i b=>Ak co Aa Ac 2 (oG c d e f a) (Ae [3,4,5,6] F4) nl nH hm b fun r g=>fun j=>⟨id,⟨id,fun _ hm b=>sq (Ak co Aa Ac 1 (oi c d e f a) (Ae [3,4,5,6,29,30] F4) nl nH hm b fun r g=>fun _ hm b=>bk 1 (lo (AF (ZzO co c d e f a h) nH hm b (fun _ hm=>sq (Ak co Aa Ac 1 (qx c d e a) (Ae [4,5,6,45,46,47] F4) nl nH hm b fun r g=>fun _ hm b=>bk 3 (lo (AF (ZCq co c d e a h) nH hm b (fun _ hm=>sq (Ak co Aa Ac 1 (mA c d e a) (Ae [4,5,63,64,65] Kl) nl nH hm b fun r g=>fun _ hm b=>bk 5 (lo (AF (ZCG co c d e a h) nH hm b (fun _ hm=>Ap co Aa Ac (ox) hm b fun r g=>id))))))))))))⟩⟩
abbrev fy:Int→AV:=fun y=>vI y
def oE(b:Scm)(c:Typ)(d:Val)(e:Int)(a:Scm→Fld→Val→Int→Option (Int)):PT 0 (Int):=wg<|br (decide (c.kind=(10:Int))) (wg<|wg<|cl (UE b c.name) fun f=>wg<|wg<|wg<|wg<|vs (wi (e+1))<|cs Tryz.prog 174 [.agg ((Al b).map .d),.agg ((AE f.1).map .d),.agg ((Ag d).map .d),vI (e+1)] [] [] (U5 a b f.1 d (e+1)) (fun y=>vI y) fun g=>lr fy nG g) (wg<|wg<|wg<|cl (S7 b c d) fun h=>lr fy nG h)
def Mq(a:Scm→Fld→Val→Int→Option (Int))(b:Scm)(c:Typ)(d:Val)(e:Int):Option (Int):=(oE b c d e a).m
theorem Ib(a:Scm→Fld→Val→Int→Option (Int))(f:∀(b:Scm) (e:Fld) (c:Val) (d:Int),KC Tryz.prog 219 [.agg ((Al b).map .d),.agg ((Ao e).map .d),.agg ((Ag c).map .d),vI d] (a b e c d) C6)(b:Scm)(e:Typ)(c:Val)(d:Int):KC Tryz.prog 230 [.agg ((Al b).map .d),.agg ((DJ e).map .d),.agg ((Ag c).map .d),vI d] (Mq a b e c d) fy:=Au Tryz.func230 Tryz.ntmps230 Aa [.tmp 8] fun C co y hm i k=>Ap co Aa Ac (oE b e c d a) hm k fun r g=>⟨fun h=>⟨fun y hy j _ _=>by rw[(RU a f b h.1 c (d+1)).x,(RU a f b h.1 c (d+1)).e];exact(RU a f b h.1 c (d+1)).k _ j y hy,fun l=>id⟩,fun m=>id⟩
abbrev fT(a:Scm):Ad×Blk:=kk 4 26 3 (cD (Al a))
abbrev fb(a:Fld):Ad×Blk:=kk 5 56 16 (cD (Ao a))
abbrev LP:Int→AV:=fun y=>vI y
def ug(b:Scm)(c:Fld)(a:List Pr)(d:Int):Nat→St:=fun e=>Ab [(2,vL Ay a),(3,vI d),pp 4,pp 5,(13,vL Ay a),(14,vN a.length),(15,vN e)] [(fT b),(fb c)]
def wF:Unit→Nat×St:=fun _=>(0,Ab [] [])
def PG(d:Scm)(e:Fld)(f:List Pr)(g:Int)(a:Scm→Fld→Val→Int→Option (Int))(c:Nat):PT 0 (Lv (Nat) (Unit) (Int)):=br (decide ((c:Int)<(f.length:Int))) (ix f c fun b=>wg<|wg<|wg<|wg<|cl (S7 d (.mk e.key ⟨#[]⟩:Typ) b.key) fun i=>br (!decide (i=(0:Int))) (Ar LP nG i) (sL f .no (.nt c) fun h=>cs Tryz.prog 93 [vL Ay h,.fn (.func 233) [] [.ptr (1,10) 1 0]] [(1,10)] [((1,10),⟨1,true,85,14,(cD (Dp b))⟩)] (Kz h (fun(z0:Pr)=>OP z0 b)) (fun y=>vB y) fun k=>br k (Ar LP nG 9) (wg<|wg<|wg<|cs Tryz.prog 230 [.agg ((Al d).map .d),.agg ((DJ e.type).map .d),.agg ((Ag b.val).map .d),vI g] [] [] (Mq a d e.type b.val g) (fun y=>vI y) fun j=>br (!decide (j=(0:Int))) (Ar LP nG j) (vs (wa c 1)<|ln (ug d e f g) (c+1))))) (Ai (wF) ())
def MR(b:Scm)(c:Fld)(d:List Pr)(e:Int)(a:Scm→Fld→Val→Int→Option (Int)):Nat→Option (Lv (Nat) (Unit) (Int)):=fun f=>(PG b c d e a f).m
def mw:PT 0 (Int):=lr LP nG 0
def mL(c:Scm)(d:Fld)(b:List Pr)(e:Int)(a:Scm→Fld→Val→Int→Option (Int)):PT 0 (Int):=vz (Ah b)<|lc (Ab [(2,vL Ay b),(3,vI e),pp 4,pp 5,(13,vL Ay b),(14,vN b.length),(15,vI 0)] [(fT c),(fb d)]) ((An (MR c d b e a) Aj 0).bind (Sum.elim (fun _=>(mw).m) some))
def oe(b:Scm)(c:Fld)(d:List Pr)(e:Int)(a:Scm→Fld→Val→Int→Option (Int)):PT 0 (Int):=lc (Ab [(2,vL Ay d),(3,vI e),pp 4,pp 5] [(fT b),(fb c)]) ((mL b c d e a).m)
def U1(a:Scm→Fld→Val→Int→Option (Int))(b:Scm)(c:Fld)(d:List Pr)(e:Int):Option (Int):=(oe b c d e a).m
theorem ZAG{C:Cx}(co:CO C 0)(b:Scm)(c:Fld)(f:List Pr)(d:Int)(a:Scm→Fld→Val→Int→Option (Int))(h:∀(b:Scm) (c:Fld) (f:Val) (d:Int),KC Tryz.prog 219 [.agg ((Al b).map .d),.agg ((Ao c).map .d),.agg ((Ag f).map .d),vI d] (a b c f d) C6):KL Tryz.prog (AB tl) 46 C (pa [0,0,1,0,1] (Aw Tryz.f231)) [.tmp 8] 0 (ug b c f d) (wF) LP nG (MR b c f d a):=fun q _ hm Q j m k=>Av co Aa Ac (PG b c f d a q) (Ae [2,3,4,5,13,14,15] Kl) nl m hm k fun r g=>⟨fun e=>fun t=>⟨id,fun p=>⟨fun y hy=>B2 (ZXT p (fun(z0:Pr)=>OP z0 e)) hy co g [] [((1,10),⟨1,true,85,14,(cD (Dp e))⟩)] (AP [(1,.fn (.func 233) [] [.ptr (r.κ (1,10)) (r.γ (1,10)+1) 0])]) (fun i n s=>(fun z0 y o=>DY (ZWA z0 e) o co g [((1,10),⟨1,true,85,14,(cD (Dp e))⟩)] [] n (by simp) (fun _=>.top) (fun _ _=>trivial) (fun l H=>⟨fun _=>⟨rfl,by kernel_rfl⟩,by kernel_rfl,trivial⟩))) (fun H=>trivial),fun u=>⟨id,⟨fun y hy i _ _=>by rw[(Ib a h b c.type e.val d).x,(Ib a h b c.type e.val d).e];exact(Ib a h b c.type e.val d).k _ i y hy,fun v=>⟨id,id⟩⟩⟩⟩⟩,id⟩
theorem aK(a:Scm→Fld→Val→Int→Option (Int))(i:∀(b:Scm) (c:Fld) (d:Val) (e:Int),KC Tryz.prog 219 [.agg ((Al b).map .d),.agg ((Ao c).map .d),.agg ((Ag d).map .d),vI e] (a b c d e) C6)(b:Scm)(c:Fld)(d:List Pr)(e:Int):KC Tryz.prog 231 [.agg ((Al b).map .d),.agg ((Ao c).map .d),vL Ay d,vI e] (U1 a b c d e) LP:=Au Tryz.func231 Tryz.ntmps231 Aa [.tmp 8] fun C co y hm h f=>Ak co Aa Ac 1 (oe b c d e a) (Ae [2,3,4,5] Kl) nl nH hm f fun r g=>fun _ hm f=>sq (Ak co Aa Ac 1 (mL b c d e a) (Ae [2,3,4,5,13,14,15] Kl) nl nH hm f fun r g=>fun _ hm f=>bk 0 (lo (AF (ZAG co b c d e a i) nH hm f (fun _ hm=>Ap co Aa Ac (mw) hm f fun r g=>id))))
end Go.Proofs.YthgmbpciandpiaaGreat
