import Derived.Test.YthgmbpciandpiaaGreatLx21
import Derived.Test.YthgmbpciandpiaaGreatLx00
namespace Go.Proofs.YthgmbpciandpiaaGreat
set_option maxRecDepth 100000
set_option linter.all false
open Go Go.Eng
abbrev ZYn:Bool→AV:=fun y=>vB y
@[reducible] def ZX4(w0:Fld):Bool→List Blk:=fun y=>[⟨0,true,56,16,(cD (An w0))⟩]
def td(a:Int)(w0:Fld):PT 1 (Bool):=wg<|lr ZYn (ZX4 w0) (decide (a=w0.num))
def ZfG(a:Int)(w0:Fld):Option (Bool):=(td a w0).m
theorem ZWS(a:Int)(w0:Fld):KO Tryz.prog 218 1 [vI a,.ptr (0,0) 0 0] [⟨0,true,56,16,(cD (An w0))⟩] (fun _ _ _ _=>True) (ZfG a w0) ZYn (ZX4 w0):=Bi Tryz.func218 Tryz.ntmps218 Aa [.tmp 3] 1 (fun C co d y hm b c=>Ao co Aa Ac (td a w0) hm c fun r g=>id) (hB:=fun y=>⟨.inr (by kernel_rfl),rfl,trivial⟩)
abbrev ZYp(a:Fld):Ad×Blk:=((0,1),⟨0,true,56,16,(cD (An a))⟩)
abbrev uq:Bool→AV:=fun y=>vB y
@[reducible] def tn(a:Fld):Bool→List Blk:=fun y=>[⟨0,true,151,1,[.fn (.func 217) [] [.ptr (0,1) 0 0]]⟩,⟨0,true,56,16,(cD (An a))⟩]
def Zoz(b:Slt)(a:Fld):PT 2 (Bool):=wg<|wg<|cs Tryz.prog 217 [vI b.num,.ptr (0,1) 0 0] [(0,1)] [(ZYp a)] (ZfD b.num a) (fun y=>vB y) fun c=>lr uq (tn a) c
def fp(b:Slt)(a:Fld):Option (Bool):=(Zoz b a).m
theorem ZHP(b:Slt)(a:Fld):KO Tryz.prog 221 2 [.agg ((B2 b).map .d),.ptr (0,0) 0 0] [⟨0,true,151,1,[.fn (.func 217) [] [.ptr (0,1) 0 0]]⟩,⟨0,true,56,16,(cD (An a))⟩] (fun _ _ _ _=>True) (fp b a) uq (tn a):=Bi Tryz.func221 Tryz.ntmps221 Aa [.tmp 3] 2 (fun C co f y hm c d=>Ao co Aa Ac (Zoz b a) hm d fun r g=>⟨fun y hy=>B6 (ZWV b.num a) hy co g [(ZYp a)] [] (AN []) (fun e hg h=>trivial) (fun H=>⟨fun _=>⟨rfl,by kernel_rfl⟩,by kernel_rfl,trivial⟩),fun i=>id⟩) (hB:=fun y=>⟨.inr (by kernel_rfl),rfl,⟨.inr (by kernel_rfl),rfl,trivial⟩⟩)
abbrev ZX0(a:Fld):Ad×Blk:=((0,1),⟨0,true,56,16,(cD (An a))⟩)
abbrev uE:Bool→AV:=fun y=>vB y
@[reducible] def rX(a:Fld):Bool→List Blk:=fun y=>[⟨0,true,151,1,[.fn (.func 218) [] [.ptr (0,1) 0 0]]⟩,⟨0,true,56,16,(cD (An a))⟩]
def ZnI(b:Slt)(a:Fld):PT 2 (Bool):=wg<|wg<|cs Tryz.prog 218 [vI b.num,.ptr (0,1) 0 0] [(0,1)] [(ZX0 a)] (ZfG b.num a) (fun y=>vB y) fun c=>lr uE (rX a) c
def fm(b:Slt)(a:Fld):Option (Bool):=(ZnI b a).m
theorem ZI5(b:Slt)(a:Fld):KO Tryz.prog 221 2 [.agg ((B2 b).map .d),.ptr (0,0) 0 0] [⟨0,true,151,1,[.fn (.func 218) [] [.ptr (0,1) 0 0]]⟩,⟨0,true,56,16,(cD (An a))⟩] (fun _ _ _ _=>True) (fm b a) uE (rX a):=Bi Tryz.func221 Tryz.ntmps221 Aa [.tmp 3] 2 (fun C co f y hm c d=>Ao co Aa Ac (ZnI b a) hm d fun r g=>⟨fun y hy=>B6 (ZWS b.num a) hy co g [(ZX0 a)] [] (AN []) (fun e hg h=>trivial) (fun H=>⟨fun _=>⟨rfl,by kernel_rfl⟩,by kernel_rfl,trivial⟩),fun i=>id⟩) (hB:=fun y=>⟨.inr (by kernel_rfl),rfl,⟨.inr (by kernel_rfl),rfl,trivial⟩⟩)
abbrev ZW8(a:Fld):Ad×Blk:=((0,1),⟨0,true,56,16,(cD (An a))⟩)
abbrev rD:Bool→AV:=fun y=>vB y
@[reducible] def pZ(a:Fld):Bool→List Blk:=fun y=>[⟨0,true,151,1,[.fn (.func 198) [] [.ptr (0,1) 0 0]]⟩,⟨0,true,56,16,(cD (An a))⟩]
def Zo4(b:Slt)(a:Fld):PT 2 (Bool):=wg<|wg<|cs Tryz.prog 198 [vI b.num,.ptr (0,1) 0 0] [(0,1)] [(ZW8 a)] (Zem b.num a) (fun y=>vB y) fun c=>lr rD (pZ a) c
def fq(b:Slt)(a:Fld):Option (Bool):=(Zo4 b a).m
theorem ZHH(b:Slt)(a:Fld):KO Tryz.prog 221 2 [.agg ((B2 b).map .d),.ptr (0,0) 0 0] [⟨0,true,151,1,[.fn (.func 198) [] [.ptr (0,1) 0 0]]⟩,⟨0,true,56,16,(cD (An a))⟩] (fun _ _ _ _=>True) (fq b a) rD (pZ a):=Bi Tryz.func221 Tryz.ntmps221 Aa [.tmp 3] 2 (fun C co f y hm c d=>Ao co Aa Ac (Zo4 b a) hm d fun r g=>⟨fun y hy=>B6 (ZVz b.num a) hy co g [(ZW8 a)] [] (AN []) (fun e hg h=>trivial) (fun H=>⟨fun _=>⟨rfl,by kernel_rfl⟩,by kernel_rfl,trivial⟩),fun i=>id⟩) (hB:=fun y=>⟨.inr (by kernel_rfl),rfl,⟨.inr (by kernel_rfl),rfl,trivial⟩⟩)
abbrev dJ(a:Fld):Ad×Blk:=((0,0),⟨0,true,56,16,(cD (An a))⟩)
abbrev pq:Bool→AV:=fun y=>vB y
@[reducible] def rc(a:Fld):Bool→List Blk:=fun y=>[⟨0,true,56,16,(cD (An a))⟩]
def ZoS(b:List Slt)(a:Fld):PT 1 (Bool):=cs Tryz.prog 220 [vL Ap b,.fn (.func 221) [] [.ptr (1,3) 1 0]] [(1,3),(0,0)] [((1,3),⟨1,true,151,1,[.fn (.func 217) [] [.ptr (0,0) 0 0]]⟩),(dJ a)] (Tq b (fun(z0:Slt)=>fp z0 a)) (fun y=>vB y) fun c=>lr pq (rc a) c
def Zgq(b:List Slt)(a:Fld):Option (Bool):=(ZoS b a).m
theorem ZHa(b:List Slt)(a:Fld):KO Tryz.prog 197 1 [vL Ap b,.fn (.func 217) [] [.ptr (0,0) 0 0]] [⟨0,true,56,16,(cD (An a))⟩] (fun _ _ _ _=>True) (Zgq b a) pq (rc a):=Bi Tryz.func197 Tryz.ntmps197 Aa [.tmp 4] 1 (fun C co h y hm c d=>Ao co Aa Ac (ZoS b a) hm d fun r g=>⟨fun y hy=>B6 (Z7 b (fun(z0:Slt)=>fp z0 a)) hy co g [] [((1,3),⟨1,true,151,1,[.fn (.func 217) [] [.ptr (0,0) 0 0]]⟩),(dJ a)] (AN [(1,.fn (.func 221) [] [.ptr (r.κ (1,3)) (r.γ (1,3)+1) 0])]) (fun f hg i=>(fun z0 y e=>D1 (ZHP z0 a) e co g [((1,3),⟨1,true,151,1,[.fn (.func 217) [] [.ptr (0,0) 0 0]]⟩),(dJ a)] [] hg (by simp) (fun _=>.top) (fun _ _=>trivial) (fun l H=>⟨fun _=>⟨rfl,by kernel_rfl⟩,by kernel_rfl,⟨fun _=>⟨rfl,by kernel_rfl⟩,by kernel_rfl,trivial⟩⟩))) (fun H=>trivial),fun j=>id⟩) (hB:=fun y=>⟨.inr (by kernel_rfl),rfl,trivial⟩)
abbrev dT(a:Fld):Ad×Blk:=((0,0),⟨0,true,56,16,(cD (An a))⟩)
abbrev pU:Bool→AV:=fun y=>vB y
@[reducible] def p7(a:Fld):Bool→List Blk:=fun y=>[⟨0,true,56,16,(cD (An a))⟩]
def ZnM(b:List Slt)(a:Fld):PT 1 (Bool):=cs Tryz.prog 220 [vL Ap b,.fn (.func 221) [] [.ptr (1,3) 1 0]] [(1,3),(0,0)] [((1,3),⟨1,true,151,1,[.fn (.func 218) [] [.ptr (0,0) 0 0]]⟩),(dT a)] (Tq b (fun(z0:Slt)=>fm z0 a)) (fun y=>vB y) fun c=>lr pU (p7 a) c
def Zgj(b:List Slt)(a:Fld):Option (Bool):=(ZnM b a).m
theorem ZKP(b:List Slt)(a:Fld):KO Tryz.prog 197 1 [vL Ap b,.fn (.func 218) [] [.ptr (0,0) 0 0]] [⟨0,true,56,16,(cD (An a))⟩] (fun _ _ _ _=>True) (Zgj b a) pU (p7 a):=Bi Tryz.func197 Tryz.ntmps197 Aa [.tmp 4] 1 (fun C co h y hm c d=>Ao co Aa Ac (ZnM b a) hm d fun r g=>⟨fun y hy=>B6 (Z7 b (fun(z0:Slt)=>fm z0 a)) hy co g [] [((1,3),⟨1,true,151,1,[.fn (.func 218) [] [.ptr (0,0) 0 0]]⟩),(dT a)] (AN [(1,.fn (.func 221) [] [.ptr (r.κ (1,3)) (r.γ (1,3)+1) 0])]) (fun f hg i=>(fun z0 y e=>D1 (ZI5 z0 a) e co g [((1,3),⟨1,true,151,1,[.fn (.func 218) [] [.ptr (0,0) 0 0]]⟩),(dT a)] [] hg (by simp) (fun _=>.top) (fun _ _=>trivial) (fun l H=>⟨fun _=>⟨rfl,by kernel_rfl⟩,by kernel_rfl,⟨fun _=>⟨rfl,by kernel_rfl⟩,by kernel_rfl,trivial⟩⟩))) (fun H=>trivial),fun j=>id⟩) (hB:=fun y=>⟨.inr (by kernel_rfl),rfl,trivial⟩)
abbrev dN(a:Fld):Ad×Blk:=((0,0),⟨0,true,56,16,(cD (An a))⟩)
abbrev sP:Bool→AV:=fun y=>vB y
@[reducible] def tj(a:Fld):Bool→List Blk:=fun y=>[⟨0,true,56,16,(cD (An a))⟩]
def Zpa(b:List Slt)(a:Fld):PT 1 (Bool):=cs Tryz.prog 220 [vL Ap b,.fn (.func 221) [] [.ptr (1,3) 1 0]] [(1,3),(0,0)] [((1,3),⟨1,true,151,1,[.fn (.func 198) [] [.ptr (0,0) 0 0]]⟩),(dN a)] (Tq b (fun(z0:Slt)=>fq z0 a)) (fun y=>vB y) fun c=>lr sP (tj a) c
def Zgn(b:List Slt)(a:Fld):Option (Bool):=(Zpa b a).m
theorem ZL3(b:List Slt)(a:Fld):KO Tryz.prog 197 1 [vL Ap b,.fn (.func 198) [] [.ptr (0,0) 0 0]] [⟨0,true,56,16,(cD (An a))⟩] (fun _ _ _ _=>True) (Zgn b a) sP (tj a):=Bi Tryz.func197 Tryz.ntmps197 Aa [.tmp 4] 1 (fun C co h y hm c d=>Ao co Aa Ac (Zpa b a) hm d fun r g=>⟨fun y hy=>B6 (Z7 b (fun(z0:Slt)=>fq z0 a)) hy co g [] [((1,3),⟨1,true,151,1,[.fn (.func 198) [] [.ptr (0,0) 0 0]]⟩),(dN a)] (AN [(1,.fn (.func 221) [] [.ptr (r.κ (1,3)) (r.γ (1,3)+1) 0])]) (fun f hg i=>(fun z0 y e=>D1 (ZHH z0 a) e co g [((1,3),⟨1,true,151,1,[.fn (.func 198) [] [.ptr (0,0) 0 0]]⟩),(dN a)] [] hg (by simp) (fun _=>.top) (fun _ _=>trivial) (fun l H=>⟨fun _=>⟨rfl,by kernel_rfl⟩,by kernel_rfl,⟨fun _=>⟨rfl,by kernel_rfl⟩,by kernel_rfl,trivial⟩⟩))) (fun H=>trivial),fun j=>id⟩) (hB:=fun y=>⟨.inr (by kernel_rfl),rfl,trivial⟩)
abbrev ZYe:Bool→AV:=fun y=>vB y
@[reducible] def ZYA(w0:Int):Bool→List Blk:=fun y=>[⟨0,true,27,1,[.d (.int .u64 w0)]⟩]
def rM(a:Itm)(w0:Int):PT 1 (Bool):=wg<|vz (wk .u64 a.num)<|wg<|lr ZYe (ZYA w0) (decide ((IntKind.u64.wrap a.num)=w0))
def fy(a:Itm)(w0:Int):Option (Bool):=(rM a w0).m
theorem ZVL(a:Itm)(w0:Int):KO Tryz.prog 201 1 [.agg ((Cw a).map .d),.ptr (0,0) 0 0] [⟨0,true,27,1,[.d (.int .u64 w0)]⟩] (fun _ _ _ _=>True) (fy a w0) ZYe (ZYA w0):=Bi Tryz.func201 Tryz.ntmps201 Aa [.tmp 3] 1 (fun C co d y hm b c=>Ao co Aa Ac (rM a w0) hm c fun r g=>id) (hB:=fun y=>⟨.inr (by kernel_rfl),rfl,trivial⟩)
abbrev ZYR:Bool→AV:=fun y=>vB y
def uG(a:Enm)(b:Int):PT 0 (Bool):=wg<|wg<|ER (!a.opn) Tryz.prog 96 [vL Cw a.items,.fn (.func 201) [] [.ptr (1,3) 1 0]] [(1,3)] [((1,3),⟨1,true,27,1,[.d (.int .u64 b)]⟩)] (eT a.items (fun(z0:Itm)=>fy z0 b)) (fun y=>vB y) fun c=>lr ZYR nG (a.opn||c)
def Zif(a:Enm)(b:Int):Option (Bool):=(uG a b).m
theorem vu(b:Enm)(a:Int):KC Tryz.prog 177 [.agg ((Bz b).map .d),.d (.int .u64 a)] (Zif b a) ZYR:=As Tryz.func177 Tryz.ntmps177 Aa [.tmp 4] fun C co y hm c d=>Ao co Aa Ac (uG b a) hm d fun r g=>⟨fun y hy=>B6 (ZYZ b.items (fun(z0:Itm)=>fy z0 a)) hy co g [] [((1,3),⟨1,true,27,1,[.d (.int .u64 a)]⟩)] (AN [(1,.fn (.func 201) [] [.ptr (r.κ (1,3)) (r.γ (1,3)+1) 0])]) (fun f hg h=>(fun z0 y e=>D1 (ZVL z0 a) e co g [((1,3),⟨1,true,27,1,[.d (.int .u64 a)]⟩)] [] hg (by simp) (fun _=>.top) (fun _ _=>trivial) (fun l H=>⟨fun _=>⟨rfl,by kernel_rfl⟩,by kernel_rfl,trivial⟩))) (fun H=>trivial),fun i=>id⟩
abbrev JA:Int→AV:=fun y=>vI y
def pQ(c:Scm)(a:Typ)(b:Val):PT 0 (Int):=wg<|wg<|wg<|AC (!(!decide (b.kind=a.kind))) (Wt b) fun d=>br ((!decide (b.kind=a.kind))||d) (lr JA nG 12) (wg<|vz (A7 b.text.size)<|br (decide ((4096:Int)<(b.text.size:Int))) (lr JA nG 3) (wg<|wg<|AC (decide (a.kind=(7:Int))) (wx b.text) fun e=>br (decide (a.kind=(7:Int))&&(!e)) (lr JA nG 7) (wg<|wg<|cl (dz a.kind b) fun f=>br (!f) (lr JA nG 12) (wg<|wg<|cl (Sn c a.name) fun g=>wg<|wg<|wg<|wg<|AC (decide (a.kind=(9:Int))) (vu g.1 b.bits) fun h=>br (decide (a.kind=(9:Int))&&(!h)) (lr JA nG 16) (lr JA nG 0)))))
def ZmL(a:Scm)(b:Typ)(c:Val):Option (Int):=(pQ a b c).m
theorem VP(a:Scm)(b:Typ)(c:Val):KC Tryz.prog 145 [.agg ((Al a).map .d),.agg ((DS b).map .d),.agg ((Ag c).map .d)] (ZmL a b c) JA:=As Tryz.func145 Tryz.ntmps145 Aa [.tmp 6] fun C co y hm d e=>Ao co Aa Ac (pQ a b c) hm e fun r g=>fun f=>⟨id,⟨id,fun h=>⟨id,fun i=>⟨id,fun j=>fun k=>⟨id,id⟩⟩⟩⟩⟩
abbrev SH:Int→AV:=fun y=>vI y
def ZYC(a:Pr→Option Bool):Cl:=fun no l H θ=>(∀(z0:Pr) y,a z0=some y→CS Tryz.prog l no H (θ 1) [.agg ((Dt z0).map .d)] (vB y))
def pg(a:List Pr):Nat→St:=fun b=>Ab [(0,vL Ay a),(1,.fn (.yield 1) [] []),(7,vN a.length),(8,vN b)] []
def uh:Unit→Nat×St:=fun _=>(0,Ab [] [])
def qJ(b:List Pr)(c:Pr→Option Bool)(a:Nat):PT 0 (Lv (Nat) (Unit) (Int)):=br (decide ((a:Int)<(b.length:Int))) (ix b a fun d=>cf Tryz.prog 1 [.agg ((Dt d).map .d)] (c d) (fun y=>vB y) fun e=>br e (Au SH nG (a:Int)) (vs (wa a 1)<|ln (pg b) (a+1))) (Aj (uh) ())
def qT(b:List Pr)(a:Pr→Option Bool):Nat→Option (Lv (Nat) (Unit) (Int)):=fun c=>(qJ b a c).m
def qY:PT 0 (Int):=lr SH nG (-1)
def ui(a:List Pr)(b:Pr→Option Bool):PT 0 (Int):=vz (Ah a)<|lc (Ab [(0,vL Ay a),(1,.fn (.yield 1) [] []),(7,vN a.length),(8,vI 0)] []) ((Am (qT a b) Ai 0).bind (Sum.elim (fun _=>(qY).m) some))
def qX(b:List Pr)(a:Pr→Option Bool):PT 0 (Int):=lc (Ab [(0,vL Ay b),(1,.fn (.yield 1) [] [])] []) ((ui b a).m)
def Ze1(b:List Pr)(a:Pr→Option Bool):Option (Int):=(qX b a).m
theorem ZBO{C:Cx}(co:CO C 0)(b:List Pr)(a:Pr→Option Bool)(f:(ZYC a) C.no C.l C.H0 C.θ):KL Tryz.prog (Az tl) 19 C (pa [0,0,1,0,1] (Aw Tryz.f140)) [.tmp 4] 0 (pg b) (uh) SH nG (qT b a):=fun h _ hm Q c e d=>Av co Aa Ac (qJ b a h) (AH [0,1,7,8]) nl e hm d fun r g=>⟨fun i=>⟨⟨fun y hy=>f _ y hy,by intro r;kernel_rfl,by intro r y;kernel_rfl⟩,fun j=>⟨id,id⟩⟩,id⟩
theorem ZVi(c:List Pr)(a:Pr→Option Bool):KO Tryz.prog 140 0 [vL Ay c,.fn (.yield 1) [] []] [] (ZYC a) (Ze1 c a) SH nG:=Bi Tryz.func140 Tryz.ntmps140 Aa [.tmp 4] 0 (fun C co e y hm d b=>Ak co Aa Ac 1 (qX c a) (AH [0,1]) nl nH hm b fun r g=>fun _ hm b=>sq (Ak co Aa Ac 1 (ui c a) (AH [0,1,7,8]) nl nH hm b fun r g=>fun _ hm b=>bk 0 (lo (AF (ZBO co c a e) nH hm b (fun _ hm=>Ao co Aa Ac (qY) hm b fun r g=>id)))))
abbrev oh:Bool→AV:=fun y=>vB y
def H93(a:Pr→Option Bool):Cl:=fun no l H θ=>(∀(z0:Pr) y,a z0=some y→CS Tryz.prog l no H (θ 1) [.agg ((Dt z0).map .d)] (vB y))
def vQ(b:List Pr)(a:Pr→Option Bool):PT 0 (Bool):=cs Tryz.prog 140 [vL Ay b,.fn (.yield 1) [] []] [] [] (Ze1 b a) (fun y=>vI y) fun c=>lr oh nG (decide ((0:Int)≤c))
def eS(b:List Pr)(a:Pr→Option Bool):Option (Bool):=(vQ b a).m
theorem ZXt(b:List Pr)(a:Pr→Option Bool):KO Tryz.prog 93 0 [vL Ay b,.fn (.yield 1) [] []] [] (H93 a) (eS b a) oh nG:=Bi Tryz.func93 Tryz.ntmps93 Aa [.tmp 4] 0 (fun C co e y hm c d=>Ao co Aa Ac (vQ b a) hm d fun r g=>⟨fun y hy=>B6 (ZVi b a) hy co g [] [] (AN [(1,r.θ 1)]) (fun i hg f=>(fun z0 y h=>ME co g [] f (e z0 y h))) (fun H=>trivial),fun j=>id⟩)
abbrev ZW9:Bool→AV:=fun y=>vB y
def rQ(a:Int):PT 0 (Bool):=lr ZW9 nG (!decide (a=a))
def ZhN(a:Int):Option (Bool):=(rQ a).m
theorem w9(a:Int):KC Tryz.prog 169 [vI a] (ZhN a) ZW9:=As Tryz.func169 Tryz.ntmps169 Aa [.tmp 2] fun C co y hm b c=>Ao co Aa Ac (rQ a) hm c fun r g=>id
abbrev JH:Int→AV:=fun y=>vI y
def q7(a:Int)(b:Int):PT 0 (Int):=cl (w9 a) fun d=>cl (w9 b) fun c=>br d (br c (lr JH nG 0) (lr JH nG (-1))) (br c (lr JH nG 1) (br (decide (a<b)) (lr JH nG (-1)) (br (decide (b<a)) (lr JH nG 1) (lr JH nG 0))))
def Zgu(a:Int)(b:Int):Option (Int):=(q7 a b).m
theorem ac(a:Int)(b:Int):KC Tryz.prog 127 [vI a,vI b] (Zgu a b) JH:=As Tryz.func127 Tryz.ntmps127 Aa [.tmp 4] fun C co y hm c d=>Ao co Aa Ac (q7 a b) hm d fun r g=>fun e=>fun f=>⟨⟨id,id⟩,⟨id,⟨id,⟨id,id⟩⟩⟩⟩
abbrev ZXA:Val→AV:=fun y=>.ifc 182 [(.int .i64 y.kind),(.int .u64 y.bits),(.str y.text),(.list (y.list.map AM)),(.list (y.pairs.map Ay)),(.list (y.slots.map Ap)),(.list (y.raws.map AZ))] true
def sB(a:Val):PT 0 (Val):=wg<|cl (LY a.kind) fun b=>bT b<|wg<|lr ZXA nG a
def Zg8(a:Val):Option (Val):=(sB a).m
theorem u4(a:Val):KC Tryz.prog 128 [.agg ((Ag a).map .d)] (Zg8 a) ZXA:=As Tryz.func128 Tryz.ntmps128 Aa [.tmp 2] fun C co y hm b c=>Ao co Aa Ac (sB a) hm c fun r g=>fun d=>id
abbrev ZYj:Bool→AV:=fun y=>vB y
def rH(a:ByteArray):PT 0 (Bool):=lr ZYj nG (!decide (a=a))
def Zge(a:ByteArray):Option (Bool):=(rH a).m
theorem wY(a:ByteArray):KC Tryz.prog 192 [vS a] (Zge a) ZYj:=As Tryz.func192 Tryz.ntmps192 Aa [.tmp 2] fun C co y hm b c=>Ao co Aa Ac (rH a) hm c fun r g=>id
abbrev JE:Int→AV:=fun y=>vI y
def sZ(a:ByteArray)(b:ByteArray):PT 0 (Int):=cl (wY a) fun d=>cl (wY b) fun c=>br d (br c (lr JE nG 0) (lr JE nG (-1))) (br c (lr JE nG 1) (br (BZ a b) (lr JE nG (-1)) (br (!(BZ a b||decide (a=b))) (lr JE nG 1) (lr JE nG 0))))
def ZfA(a:ByteArray)(b:ByteArray):Option (Int):=(sZ a b).m
theorem ZWC(a:ByteArray)(b:ByteArray):KC Tryz.prog 170 [vS a,vS b] (ZfA a b) JE:=As Tryz.func170 Tryz.ntmps170 Aa [.tmp 4] fun C co y hm c d=>Ao co Aa Ac (sZ a b) hm d fun r g=>fun e=>fun f=>⟨⟨id,id⟩,⟨id,⟨id,⟨id,id⟩⟩⟩⟩
abbrev ZYa:Bool→AV:=fun y=>vB y
def tR(a:Int):PT 0 (Bool):=lr ZYa nG (!decide (a=a))
def Zgm(a:Int):Option (Bool):=(tR a).m
theorem yR(a:Int):KC Tryz.prog 193 [.d (.int .u64 a)] (Zgm a) ZYa:=As Tryz.func193 Tryz.ntmps193 Aa [.tmp 2] fun C co y hm b c=>Ao co Aa Ac (tR a) hm c fun r g=>id
abbrev JN:Int→AV:=fun y=>vI y
def tt(a:Int)(b:Int):PT 0 (Int):=cl (yR a) fun d=>cl (yR b) fun c=>br d (br c (lr JN nG 0) (lr JN nG (-1))) (br c (lr JN nG 1) (br (decide (a<b)) (lr JN nG (-1)) (br (decide (b<a)) (lr JN nG 1) (lr JN nG 0))))
def Zfz(a:Int)(b:Int):Option (Int):=(tt a b).m
theorem v8(a:Int)(b:Int):KC Tryz.prog 171 [.d (.int .u64 a),.d (.int .u64 b)] (Zfz a b) JN:=As Tryz.func171 Tryz.ntmps171 Aa [.tmp 4] fun C co y hm c d=>Ao co Aa Ac (tt a b) hm d fun r g=>fun e=>fun f=>⟨⟨id,id⟩,⟨id,⟨id,⟨id,id⟩⟩⟩⟩
abbrev Lx:Int→AV:=fun y=>vI y
def s9(a:Int):PT 0 (Int):=vz (nP .u64 a (9218868437227405312:Int))<|vz (nP .u64 a (4503599627370495:Int))<|br (decide ((EM .u64 a (9218868437227405312:Int))=(9218868437227405312:Int))&&(!decide ((EM .u64 a (4503599627370495:Int))=(0:Int)))) (lr Lx nG 0) (br (decide ((EM .u64 a (9218868437227405312:Int))=(9218868437227405312:Int))) (lr Lx nG 1) (br (decide ((EM .u64 a (9218868437227405312:Int))=(0:Int))&&decide ((EM .u64 a (4503599627370495:Int))=(0:Int))) (lr Lx nG 2) (br (decide ((EM .u64 a (9218868437227405312:Int))=(0:Int))) (lr Lx nG 3) (lr Lx nG 4))))
def ZiS(a:Int):Option (Int):=(s9 a).m
theorem ZVU(a:Int):KC Tryz.prog 194 [.d (.int .u64 a)] (ZiS a) Lx:=As Tryz.func194 Tryz.ntmps194 Aa [.tmp 2] fun C co y hm b c=>Ao co Aa Ac (s9 a) hm c fun r g=>⟨id,⟨id,⟨id,⟨id,id⟩⟩⟩⟩
abbrev Ss:Int→AV:=fun y=>.d (.int .u64 y)
def tX(a:Int):PT 0 (Int):=cl (ZVU a) fun b=>br (decide (b=(0:Int))) (lr Ss nG 18446744073709551615) (vz (nP .u64 a (9223372036854775808:Int))<|br (!decide ((EM .u64 a (9223372036854775808:Int))=(0:Int))) (vz (wcp .u64 a)<|lr Ss nG (Ln .u64 a)) (vz (wor .u64 a (9223372036854775808:Int))<|lr Ss nG (Jh .u64 a (9223372036854775808:Int))))
def ZiR(a:Int):Option (Int):=(tX a).m
theorem xE(a:Int):KC Tryz.prog 172 [.d (.int .u64 a)] (ZiR a) Ss:=As Tryz.func172 Tryz.ntmps172 Aa [.tmp 2] fun C co y hm b c=>Ao co Aa Ac (tX a) hm c fun r g=>fun d=>⟨id,⟨id,id⟩⟩
abbrev J9:Int→AV:=fun y=>vI y
def uu(a:Val)(b:Val):PT 0 (Int):=wg<|wg<|br (!decide (a.kind=b.kind)) (wg<|wg<|cl (ac a.kind b.kind) fun c=>lr J9 nG c) (wg<|cl (LY a.kind) fun d=>br (!d) (lr J9 nG 0) (wg<|cl (vV a.kind) fun e=>br e (wg<|wg<|cl (ZWC a.text b.text) fun f=>lr J9 nG f) (wg<|wg<|br (decide (a.kind=(2:Int))||decide (a.kind=(3:Int))) (wg<|vz (wk .i64 a.bits)<|wg<|vz (wk .i64 b.bits)<|cl (ac (IntKind.i64.wrap a.bits) (IntKind.i64.wrap b.bits)) fun g=>lr J9 nG g) (wg<|br (decide (a.kind=(6:Int))) (wg<|cl (xE a.bits) fun h=>wg<|cl (xE b.bits) fun i=>cl (v8 h i) fun j=>lr J9 nG j) (wg<|wg<|cl (v8 a.bits b.bits) fun k=>lr J9 nG k)))))
def ZlZ(a:Val)(b:Val):Option (Int):=(uu a b).m
theorem ZW3(a:Val)(b:Val):KC Tryz.prog 129 [.agg ((Ag a).map .d),.agg ((Ag b).map .d)] (ZlZ a b) J9:=As Tryz.func129 Tryz.ntmps129 Aa [.tmp 4] fun C co y hm c d=>Ao co Aa Ac (uu a b) hm d fun r g=>⟨fun e=>id,fun f=>⟨id,fun h=>⟨fun i=>id,⟨fun j=>id,⟨fun k=>fun l=>fun m=>id,fun n=>id⟩⟩⟩⟩⟩
abbrev Xg:Int→AV:=fun y=>vI y
def ye(b:Val)(a:Val):PT 0 (Int):=wg<|wg<|br (!decide (b.kind=a.kind)) (wg<|wg<|cl (ac b.kind a.kind) fun c=>lr Xg nG c) (wg<|cl (u4 a) fun f=>wg<|cl (u4 b) fun d=>wg<|wg<|wg<|wg<|cl (ZW3 d a) fun e=>lr Xg nG e)
def Zne(a:Val)(b:Val):Option (Int):=(ye a b).m
theorem ZZo(a:Val)(b:Val):KC Tryz.prog 89 [.agg ((Ag a).map .d),.agg ((Ag b).map .d)] (Zne a b) Xg:=As Tryz.func89 Tryz.ntmps89 Aa [.tmp 4] fun C co y hm c d=>Ao co Aa Ac (ye a b) hm d fun r g=>⟨fun e=>id,fun f=>fun h=>fun i=>id⟩
abbrev n3:Bool→AV:=fun y=>vB y
def vU(a:Val)(b:Val):PT 0 (Bool):=wg<|wg<|cl (ZZo a b) fun c=>lr n3 nG (decide (c=(0:Int)))
def ZkL(a:Val)(b:Val):Option (Bool):=(vU a b).m
theorem cM(a:Val)(b:Val):KC Tryz.prog 52 [.agg ((Ag a).map .d),.agg ((Ag b).map .d)] (ZkL a b) n3:=As Tryz.func52 Tryz.ntmps52 Aa [.tmp 4] fun C co y hm c d=>Ao co Aa Ac (vU a b) hm d fun r g=>fun e=>id
abbrev ZYd:Bool→AV:=fun y=>vB y
@[reducible] def ZYW(w0:Pr):Bool→List Blk:=fun y=>[⟨0,true,85,14,(cD (Dt w0))⟩]
def pD(a:Pr)(w0:Pr):PT 1 (Bool):=wg<|wg<|cl (cM a.key w0.key) fun b=>lr ZYd (ZYW w0) b
def ft(a:Pr)(w0:Pr):Option (Bool):=(pD a w0).m
theorem ZVd(a:Pr)(w0:Pr):KO Tryz.prog 233 1 [.agg ((Dt a).map .d),.ptr (0,0) 0 0] [⟨0,true,85,14,(cD (Dt w0))⟩] (fun _ _ _ _=>True) (ft a w0) ZYd (ZYW w0):=Bi Tryz.func233 Tryz.ntmps233 Aa [.tmp 3] 1 (fun C co d y hm b c=>Ao co Aa Ac (pD a w0) hm c fun r g=>fun e=>id) (hB:=fun y=>⟨.inr (by kernel_rfl),rfl,trivial⟩)
abbrev ZYJ:Bool→AV:=fun y=>vB y
def rr(d:Scm)(a:Fld)(b:Raw):PT 0 (Bool):=wg<|wg<|cl (Sn d a.type.name) fun c=>wg<|wg<|wg<|wg<|wg<|wg<|wg<|AC ((((c.2&&decide (a.type.kind=(9:Int)))&&(!decide (a.card=(5:Int))))&&decide (b.wire=(0:Int)))&&decide (b.bits<(2147483648:Int))) (vu c.1 b.bits) fun e=>lr ZYJ nG (((((c.2&&decide (a.type.kind=(9:Int)))&&(!decide (a.card=(5:Int))))&&decide (b.wire=(0:Int)))&&decide (b.bits<(2147483648:Int)))&&(!e))
def ZkV(a:Scm)(b:Fld)(c:Raw):Option (Bool):=(rr a b c).m
theorem ZVy(a:Scm)(b:Fld)(c:Raw):KC Tryz.prog 222 [.agg ((Al a).map .d),.agg ((An b).map .d),.agg ((AZ c).map .d)] (ZkV a b c) ZYJ:=As Tryz.func222 Tryz.ntmps222 Aa [.tmp 6] fun C co y hm d e=>Ao co Aa Ac (rr a b c) hm e fun r g=>fun f=>fun h=>id
abbrev Od:Int→AV:=fun y=>vI y
def qy(c:Scm)(d:Msg)(a:Raw):PT 0 (Int):=wg<|wg<|wg<|cl (LX d a.num) fun b=>wg<|wg<|wg<|wg<|wg<|br (((decide (a.num<(1:Int))||decide ((65535:Int)<a.num))||decide (a.wire<(0:Int)))||decide ((6:Int)<a.wire)) (lr Od nG 1) (wg<|wg<|wg<|wg<|wg<|AC ((!((decide (a.wire≤(2:Int))&&(!decide (a.data=(⟨#[]⟩:ByteArray))))||((!(decide (a.wire≤(2:Int))))&&(!decide (a.bits=(0:Int))))))&&b.2) (ZVy c b.1 a) fun e=>br (((decide (a.wire≤(2:Int))&&(!decide (a.data=(⟨#[]⟩:ByteArray))))||((!(decide (a.wire≤(2:Int))))&&(!decide (a.bits=(0:Int)))))||(b.2&&(!e))) (lr Od nG 1) (wg<|wg<|vy (decide (a.wire=(3:Int))) (A7 a.data.size)<|wg<|vy (!(decide (a.wire=(3:Int))&&decide ((4096:Int)<(a.data.size:Int)))) (A7 a.data.size)<|br ((decide (a.wire=(3:Int))&&decide ((4096:Int)<(a.data.size:Int)))||decide ((65536:Int)<(a.data.size:Int))) (lr Od nG 3) (lr Od nG 0)))
def ZmC(a:Scm)(b:Msg)(c:Raw):Option (Int):=(qy a b c).m
theorem ZVl(a:Scm)(b:Msg)(c:Raw):KC Tryz.prog 199 [.agg ((Al a).map .d),.agg ((AB b).map .d),.agg ((AZ c).map .d)] (ZmC a b c) Od:=As Tryz.func199 Tryz.ntmps199 Aa [.tmp 6] fun C co y hm d e=>Ao co Aa Ac (qy a b c) hm e fun r g=>fun f=>⟨id,fun h=>⟨id,⟨id,id⟩⟩⟩
abbrev Dl:Int→AV:=fun y=>vI y
abbrev On:List (Ad×Bool):=[((1,5),false),((1,11),false)]
abbrev S8:List (Ad×Bool):=[((1,5),false),((1,6),false)]
abbrev JT(a:Fld×Bool):Ad×Blk:=kk 11 56 16 (cD (An a.1))
abbrev LI(a:Scm):Ad×Blk:=kk 5 26 3 (cD (Al a))
abbrev LN:Int→AV:=fun y=>vI y
def r6(b:Scm)(c:List Slt)(d:Int)(e:Int)(g:Fld×Bool)(a:List Fld):Nat→St:=fun f=>Ab [(2,vL Ap c),(3,vI d),(4,vI e),pp 5,pp 11,(35,vL An a),(36,vN a.length),(37,vN f)] [(LI b),(JT g)]
def pM(a:Scm)(b:List Slt)(c:Int)(d:Int)(e:Fld×Bool):Unit→Nat×St:=fun _=>(0,Ab [(2,vL Ap b),(3,vI c),(4,vI d),pp 5,pp 11] [(LI a),(JT e)])
def sm(h:Scm)(d:List Slt)(e:Int)(i:Int)(b:Fld×Bool)(f:List Fld)(c:Nat):PT 0 (Lv (Nat) (Unit) (Int)):=br (decide ((c:Int)<(f.length:Int))) (ix f c fun a=>wg<|wg<|wg<|sLg (!decide (a.num=b.1.num)) d .no (.it e) fun g=>ER (!decide (a.num=b.1.num)) Tryz.prog 197 [vL Ap g,.fn (.func 218) [] [.ptr (1,14) 1 0]] [(1,14)] [((1,14),⟨1,true,56,16,(cD (An a))⟩)] (Zgj g a) (fun y=>vB y) fun j=>br ((!decide (a.num=b.1.num))&&j) (Au LN nG 15) (vs (wa c 1)<|ln (r6 h d e i b f) (c+1))) (Aj (pM h d e i b) ())
def sh(b:Scm)(c:List Slt)(d:Int)(e:Int)(a:Scm→Fld→Val→Int→Option (Int))(g:Fld×Bool)(h:List Fld):Nat→Option (Lv (Nat) (Unit) (Int)):=fun f=>(sm b c d e g h f).m
def p8(d:Scm)(g:List Slt)(h:Int)(e:Int)(a:Scm→Fld→Val→Int→Option (Int))(f:Fld×Bool):PT 0 (Int):=wg<|wg<|CF g h fun b=>cs Tryz.prog 219 [.agg ((Al d).map .d),.agg ((An f.1).map .d),.agg ((Ag b.val).map .d),vI e] [] [] (a d f.1 b.val e) (fun y=>vI y) fun c=>lr LN nG c
def qf(d:Scm)(h:Msg)(e:List Slt)(f:Int)(g:Int)(a:Scm→Fld→Val→Int→Option (Int))(b:Fld×Bool):PT 0 (Int):=wg<|cl (db h b.1.union) fun c=>vz (Ah c)<|lc (Ab [(2,vL Ap e),(3,vI f),(4,vI g),pp 5,pp 11,(35,vL An c),(36,vN c.length),(37,vI 0)] [(LI d),(JT b)]) ((Am (sh d e f g a b c) Ai 0).bind (Sum.elim (fun _=>(p8 d e f g a b).m) some))
def ua(f:Scm)(g:Msg)(c:List Slt)(d:Int)(h:Int)(a:Scm→Fld→Val→Int→Option (Int))(b:Fld×Bool):PT 0 (Int):=br (!b.2) (lr LN nG 8) (sL c .no (.it d) fun e=>cs Tryz.prog 197 [vL Ap e,.fn (.func 217) [] [.ptr (1,11) 0 0]] [(1,11)] [(JT b)] (Zgq e b.1) (fun y=>vB y) fun i=>br i (lr LN nG 9) (lc (Ab [(2,vL Ap c),(3,vI d),(4,vI h),pp 5,(6,.iptr (AB g) 0),pp 11] [(LI f),(JT b)]) ((qf f g c d h a b).m)))
def ru(f:Scm)(b:Msg)(c:List Slt)(d:Int)(g:Int)(a:Scm→Fld→Val→Int→Option (Int)):PT 0 (Int):=vw (.fzb 6 [6])<|vw .sep<|CF c d fun h=>du (cl (LX b h.num) fun e=>wg<|lc (Ab [(2,vL Ap c),(3,vI d),(4,vI g),pp 5,(6,.iptr (AB b) 0),pp 11,(12,vB e.2)] [(LI f),(JT e)]) ((ua f b c d g a e).m))
def tu(b:Scm)(c:Msg)(d:List Slt)(e:Int)(f:Int)(a:Scm→Fld→Val→Int→Option (Int)):PT 0 (Int):=lc (Ab [(2,vL Ap d),(3,vI e),(4,vI f),pp 5,pp 6] [(LI b),kk 6 61 5 (cD (AB c))]) ((ru b c d e f a).m)
def ZgJ(a:Scm→Fld→Val→Int→Option (Int))(b:Scm)(c:Msg)(d:List Slt)(e:Int)(f:Int):Option (Int):=(tu b c d e f a).m
theorem ZAM{C:Cx}(co:CO C 0)(b:Scm)(c:List Slt)(d:Int)(e:Int)(a:Scm→Fld→Val→Int→Option (Int))(f:Fld×Bool)(h:List Fld)(q:∀(b:Scm) (k:Fld) (c:Val) (d:Int),KC Tryz.prog 219 [.agg ((Al b).map .d),.agg ((An k).map .d),.agg ((Ag c).map .d),vI d] (a b k c d) Dl):KL Tryz.prog (Az tl) 63 C (pa [0,0,1,0,1,1,1,1] (Aw Tryz.f196)) [.tmp 10] 0 (r6 b c d e f h) (pM b c d e f) LN nG (sh b c d e a f h):=fun o _ hm Q i m l=>Av co Aa Ac (sm b c d e f h o) (Ae [2,3,4,5,11,35,36,37] On) (Ae [2,3,4,5,11] On) m hm l fun r g=>⟨fun j=>fun n=>⟨fun y hy=>B6 (ZKP n j) hy co g [((1,14),⟨1,true,56,16,(cD (An j))⟩)] [] (AN []) (fun p hg s=>trivial) (fun H=>⟨fun _=>⟨rfl,by kernel_rfl⟩,by kernel_rfl,trivial⟩),fun t=>⟨id,id⟩⟩,id⟩
theorem Z0(a:Scm→Fld→Val→Int→Option (Int))(k:∀(b:Scm) (h:Fld) (c:Val) (d:Int),KC Tryz.prog 219 [.agg ((Al b).map .d),.agg ((An h).map .d),.agg ((Ag c).map .d),vI d] (a b h c d) Dl)(b:Scm)(h:Msg)(c:List Slt)(d:Int)(e:Int):KC Tryz.prog 196 [.agg ((Al b).map .d),.agg ((AB h).map .d),vL Ap c,vI d,vI e] (ZgJ a b h c d e) LN:=As Tryz.func196 Tryz.ntmps196 Aa [.tmp 10] fun C co y hm m f=>Ak co Aa Ac 1 (tu b h c d e a) (Ae [2,3,4,5,6] S8) nl nH hm f fun r g=>fun _ hm f=>sq (Fg co Aa Ac (.fst 0 (.fst 1 (.fst 2 (.fst 3 (.fst 4 (.fst 5 (.two 6 10 (.fst 7 (.fst 8 (.fst 9 (.fst 10 (.fst 11 (.fst 12 .nil)))))) (.fst 6 (.fst 7 (.fst 8 (.fst 9 (.fst 11 (.fst 12 .nil))))))))))))) [6] (ru b h c d e a) (Ae [2,3,4,5,6,11,12] On) hm f fun r g=>fun q=>fun i=>fun _ hm f=>Ak co Aa Ac 2 (ua b h c d e a i) (Ae [2,3,4,5,6,11] On) nl nH hm f fun r g=>⟨id,fun n=>⟨fun y hy=>B6 (ZHa n i.1) hy co g [(JT i)] [] (AN []) (fun l hg s=>trivial) (fun H=>⟨fun _=>⟨rfl,by kernel_rfl⟩,by kernel_rfl,trivial⟩),fun t=>⟨id,fun _ hm f=>sq (Ak co Aa Ac 1 (qf b h c d e a i) (Ae [2,3,4,5,11,35,36,37] On) nl nH hm f fun r g=>fun p=>fun _ hm f=>bk 0 (lo (AF (ZAM co b c d e a i p k) nH hm f (fun _ hm=>Ao co Aa Ac (p8 b c d e a i) hm f fun r g=>fun j=>⟨fun y hy l _ _=>by rw[(k b i.1 j.val e).x,(k b i.1 j.val e).e];exact(k b i.1 j.val e).k _ l y hy,fun o=>id⟩))))⟩⟩⟩)
abbrev FW:List (Ad×Bool):=[((1,4),false),((1,5),false),((1,6),false)]
abbrev J3:List (Ad×Bool):=[((1,4),false),((1,5),false)]
abbrev HU(a:Scm):Ad×Blk:=kk 4 26 3 (cD (Al a))
abbrev JU(a:Val):Ad×Blk:=kk 6 33 7 (cD (Ag a))
abbrev G1:Int→AV:=fun y=>vI y
def qq(b:Scm)(c:Msg)(a:Val)(d:Int):Nat→St:=fun v2=>Ab [(3,vI d),pp 4,pp 5,pp 6,(29,vN a.slots.length),(30,vN v2)] [(HU b),kk 5 61 5 (cD (AB c)),(JU a)]
def pt(a:Scm)(b:Msg)(c:Val):Unit→Nat×St:=fun _=>(1,Ab [pp 4,pp 5,pp 6] [(HU a),kk 5 61 5 (cD (AB b)),(JU c)])
def pE(c:Scm)(d:Msg)(b:Val)(e:Int)(a:Scm→Fld→Val→Int→Option (Int))(v2:Nat):PT 0 (Lv (Nat) (Unit) (Int)):=br (decide ((v2:Int)<(b.slots.length:Int))) (wg<|wg<|wg<|cs Tryz.prog 196 [.agg ((Al c).map .d),.agg ((AB d).map .d),vL Ap b.slots,vN v2,vI e] [] [] (ZgJ a c d b.slots (v2:Int) e) (fun y=>vI y) fun f=>br (!decide (f=(0:Int))) (Au G1 nG f) (vs (wa v2 1)<|ln (qq c d b e) (v2+1))) (Aj (pt c d b) ())
def po(b:Scm)(c:Msg)(d:Val)(e:Int)(a:Scm→Fld→Val→Int→Option (Int)):Nat→Option (Lv (Nat) (Unit) (Int)):=fun v2=>(pE b c d e a v2).m
def qi(b:Scm)(a:Msg)(c:Val):Nat→St:=fun v4=>Ab [pp 4,pp 5,pp 6,(45,vL An a.fields),(46,vN a.fields.length),(47,vN v4)] [(HU b),kk 5 61 5 (cD (AB a)),(JU c)]
def pC(a:Scm)(b:Msg)(c:Val):Unit→Nat×St:=fun _=>(3,Ab [pp 4,pp 5,pp 6] [(HU a),kk 5 61 5 (cD (AB b)),(JU c)])
def sx(d:Scm)(b:Msg)(c:Val)(v4:Nat):PT 0 (Lv (Nat) (Unit) (Int)):=br (decide ((v4:Int)<(b.fields.length:Int))) (ix b.fields v4 fun a=>wg<|wg<|wg<|ER (decide (a.card=(1:Int))) Tryz.prog 197 [vL Ap c.slots,.fn (.func 198) [] [.ptr (1,12) 1 0]] [(1,12)] [((1,12),⟨1,true,56,16,(cD (An a))⟩)] (Zgn c.slots a) (fun y=>vB y) fun e=>br (decide (a.card=(1:Int))&&(!e)) (Au G1 nG 14) (vs (wa v4 1)<|ln (qi d b c) (v4+1))) (Aj (pC d b c) ())
def o9(b:Scm)(c:Msg)(d:Val)(a:Scm→Fld→Val→Int→Option (Int)):Nat→Option (Lv (Nat) (Unit) (Int)):=fun v4=>(sx b c d v4).m
def uf(b:Scm)(c:Msg)(a:Val):Nat→St:=fun d=>Ab [pp 4,pp 5,(63,vL AZ a.raws),(64,vN a.raws.length),(65,vN d)] [(HU b),kk 5 61 5 (cD (AB c))]
def pL:Unit→Nat×St:=fun _=>(5,Ab [] [])
def o7(c:Scm)(d:Msg)(b:Val)(a:Nat):PT 0 (Lv (Nat) (Unit) (Int)):=br (decide ((a:Int)<(b.raws.length:Int))) (ix b.raws a fun f=>wg<|wg<|wg<|wg<|cl (ZVl c d f) fun e=>br (!decide (e=(0:Int))) (Au G1 nG e) (vs (wa a 1)<|ln (uf c d b) (a+1))) (Aj (pL) ())
def rV(b:Scm)(c:Msg)(d:Val)(a:Scm→Fld→Val→Int→Option (Int)):Nat→Option (Lv (Nat) (Unit) (Int)):=fun e=>(o7 b c d e).m
def sv:PT 0 (Int):=lr G1 nG 0
def tA(c:Scm)(d:Msg)(b:Val)(a:Scm→Fld→Val→Int→Option (Int)):PT 0 (Int):=wg<|vz (Ah b.raws)<|lc (Ab [pp 4,pp 5,(63,vL AZ b.raws),(64,vN b.raws.length),(65,vI 0)] [(HU c),kk 5 61 5 (cD (AB d))]) ((Am (rV c d b a) Ai 0).bind (Sum.elim (fun _=>(sv).m) some))
def rU(c:Scm)(b:Msg)(d:Val)(a:Scm→Fld→Val→Int→Option (Int)):PT 0 (Int):=wg<|vz (Ah b.fields)<|lc (Ab [pp 4,pp 5,pp 6,(45,vL An b.fields),(46,vN b.fields.length),(47,vI 0)] [(HU c),kk 5 61 5 (cD (AB b)),(JU d)]) ((Am (o9 c b d a) Ai 0).bind (Sum.elim (fun _=>(tA c b d a).m) some))
def uc(c:Scm)(d:Msg)(b:Val)(e:Int)(a:Scm→Fld→Val→Int→Option (Int)):PT 0 (Int):=wg<|vz (Ah b.slots)<|lc (Ab [(3,vI e),pp 4,pp 5,pp 6,(29,vN b.slots.length),(30,vI 0)] [(HU c),kk 5 61 5 (cD (AB d)),(JU b)]) ((Am (po c d b e a) Ai 0).bind (Sum.elim (fun _=>(rU c d b a).m) some))
def tO(d:Scm)(e:Msg)(b:Val)(c:Int)(a:Scm→Fld→Val→Int→Option (Int)):PT 0 (Int):=wg<|wg<|AC (!(!decide (b.kind=(10:Int)))) (Wt b) fun f=>br ((!decide (b.kind=(10:Int)))||f) (lr G1 nG 12) (br (decide ((16:Int)<c)) (lr G1 nG 17) (lc (Ab [(3,vI c),pp 4,pp 5,pp 6] [(HU d),kk 5 61 5 (cD (AB e)),(JU b)]) ((uc d e b c a).m)))
def Zfi(a:Scm→Fld→Val→Int→Option (Int))(b:Scm)(c:Msg)(d:Val)(e:Int):Option (Int):=(tO b c d e a).m
theorem ZB4{C:Cx}(co:CO C 0)(b:Scm)(c:Msg)(d:Val)(e:Int)(a:Scm→Fld→Val→Int→Option (Int))(f:∀(b:Scm) (c:Fld) (d:Val) (e:Int),KC Tryz.prog 219 [.agg ((Al b).map .d),.agg ((An c).map .d),.agg ((Ag d).map .d),vI e] (a b c d e) Dl):KL Tryz.prog (Az tl) 77 C (pa [0,0,1,0,1,1] (Aw Tryz.f174)) [.tmp 8] 0 (qq b c d e) (pt b c d) G1 nG (po b c d e a):=fun v2 _ hm Q h k j=>Av co Aa Ac (pE b c d e a v2) (Ae [3,4,5,6,29,30] FW) (Ae [4,5,6] FW) k hm j fun r g=>⟨⟨fun y hy i _ _=>by rw[(Z0 a f b c d.slots (v2:Int) e).x,(Z0 a f b c d.slots (v2:Int) e).e];exact(Z0 a f b c d.slots (v2:Int) e).k _ i y hy,fun l=>⟨id,id⟩⟩,id⟩
theorem ZBT{C:Cx}(co:CO C 0)(c:Scm)(d:Msg)(b:Val)(a:Scm→Fld→Val→Int→Option (Int))(l:∀(c:Scm) (d:Fld) (b:Val) (h:Int),KC Tryz.prog 219 [.agg ((Al c).map .d),.agg ((An d).map .d),.agg ((Ag b).map .d),vI h] (a c d b h) Dl):KL Tryz.prog (Az tl) 77 C (pa [0,0,1,0,1,1,1] (Aw Tryz.f174)) [.tmp 8] 0 (qi c d b) (pC c d b) G1 nG (o9 c d b a):=fun v4 _ hm Q e j i=>Av co Aa Ac (sx c d b v4) (Ae [4,5,6,45,46,47] FW) (Ae [4,5,6] FW) j hm i fun r g=>⟨fun f=>⟨fun y hy=>B6 (ZL3 b.slots f) hy co g [((1,12),⟨1,true,56,16,(cD (An f))⟩)] [] (AN []) (fun k hg m=>trivial) (fun H=>⟨fun _=>⟨rfl,by kernel_rfl⟩,by kernel_rfl,trivial⟩),fun n=>⟨id,id⟩⟩,id⟩
theorem Zyl{C:Cx}(co:CO C 0)(b:Scm)(c:Msg)(d:Val)(a:Scm→Fld→Val→Int→Option (Int))(l:∀(b:Scm) (c:Fld) (d:Val) (f:Int),KC Tryz.prog 219 [.agg ((Al b).map .d),.agg ((An c).map .d),.agg ((Ag d).map .d),vI f] (a b c d f) Dl):KL Tryz.prog (Az tl) 77 C (pa [0,0,1,0,1,1,1,1] (Aw Tryz.f174)) [.tmp 8] 0 (uf b c d) (pL) G1 nG (rV b c d a):=fun j _ hm Q e i h=>Av co Aa Ac (o7 b c d j) (Ae [4,5,63,64,65] J3) nl i hm h fun r g=>⟨fun k=>fun m=>⟨id,id⟩,id⟩
theorem Q8(a:Scm→Fld→Val→Int→Option (Int))(h:∀(c:Scm) (d:Fld) (e:Val) (f:Int),KC Tryz.prog 219 [.agg ((Al c).map .d),.agg ((An d).map .d),.agg ((Ag e).map .d),vI f] (a c d e f) Dl)(c:Scm)(d:Msg)(e:Val)(f:Int):KC Tryz.prog 174 [.agg ((Al c).map .d),.agg ((AB d).map .d),.agg ((Ag e).map .d),vI f] (Zfi a c d e f) G1:=As Tryz.func174 Tryz.ntmps174 Aa [.tmp 8] fun C co y hm i b=>Ak co Aa Ac 2 (tO c d e f a) (Ae [3,4,5,6] FW) nl nH hm b fun r g=>fun j=>⟨id,⟨id,fun _ hm b=>sq (Ak co Aa Ac 1 (uc c d e f a) (Ae [3,4,5,6,29,30] FW) nl nH hm b fun r g=>fun _ hm b=>bk 1 (lo (AF (ZB4 co c d e f a h) nH hm b (fun _ hm=>sq (Ak co Aa Ac 1 (rU c d e a) (Ae [4,5,6,45,46,47] FW) nl nH hm b fun r g=>fun _ hm b=>bk 3 (lo (AF (ZBT co c d e a h) nH hm b (fun _ hm=>sq (Ak co Aa Ac 1 (tA c d e a) (Ae [4,5,63,64,65] J3) nl nH hm b fun r g=>fun _ hm b=>bk 5 (lo (AF (Zyl co c d e a h) nH hm b (fun _ hm=>Ao co Aa Ac (sv) hm b fun r g=>id))))))))))))⟩⟩
abbrev dC:Int→AV:=fun y=>vI y
def uB(b:Scm)(c:Typ)(d:Val)(e:Int)(a:Scm→Fld→Val→Int→Option (Int)):PT 0 (Int):=wg<|br (decide (c.kind=(10:Int))) (wg<|wg<|cl (Ta b c.name) fun f=>wg<|wg<|wg<|wg<|vs (wi (e+1))<|cs Tryz.prog 174 [.agg ((Al b).map .d),.agg ((AB f.1).map .d),.agg ((Ag d).map .d),vI (e+1)] [] [] (Zfi a b f.1 d (e+1)) (fun y=>vI y) fun g=>lr dC nG g) (wg<|wg<|wg<|cl (VP b c d) fun h=>lr dC nG h)
def Tu(a:Scm→Fld→Val→Int→Option (Int))(b:Scm)(c:Typ)(d:Val)(e:Int):Option (Int):=(uB b c d e a).m
theorem HP(a:Scm→Fld→Val→Int→Option (Int))(f:∀(b:Scm) (e:Fld) (c:Val) (d:Int),KC Tryz.prog 219 [.agg ((Al b).map .d),.agg ((An e).map .d),.agg ((Ag c).map .d),vI d] (a b e c d) Dl)(b:Scm)(e:Typ)(c:Val)(d:Int):KC Tryz.prog 230 [.agg ((Al b).map .d),.agg ((DS e).map .d),.agg ((Ag c).map .d),vI d] (Tu a b e c d) dC:=As Tryz.func230 Tryz.ntmps230 Aa [.tmp 8] fun C co y hm i k=>Ao co Aa Ac (uB b e c d a) hm k fun r g=>⟨fun h=>⟨fun y hy j _ _=>by rw[(Q8 a f b h.1 c (d+1)).x,(Q8 a f b h.1 c (d+1)).e];exact(Q8 a f b h.1 c (d+1)).k _ j y hy,fun l=>id⟩,fun m=>id⟩
abbrev dj(a:Scm):Ad×Blk:=kk 4 26 3 (cD (Al a))
abbrev dU(a:Fld):Ad×Blk:=kk 5 56 16 (cD (An a))
abbrev LP:Int→AV:=fun y=>vI y
def qo(b:Scm)(c:Fld)(a:List Pr)(d:Int):Nat→St:=fun e=>Ab [(2,vL Ay a),(3,vI d),pp 4,pp 5,(13,vL Ay a),(14,vN a.length),(15,vN e)] [(dj b),(dU c)]
def sp:Unit→Nat×St:=fun _=>(0,Ab [] [])
def rj(d:Scm)(e:Fld)(f:List Pr)(g:Int)(a:Scm→Fld→Val→Int→Option (Int))(c:Nat):PT 0 (Lv (Nat) (Unit) (Int)):=br (decide ((c:Int)<(f.length:Int))) (ix f c fun b=>wg<|wg<|wg<|wg<|cl (VP d (.mk e.key ⟨#[]⟩:Typ) b.key) fun i=>br (!decide (i=(0:Int))) (Au LP nG i) (sL f .no (.nt c) fun h=>cs Tryz.prog 93 [vL Ay h,.fn (.func 233) [] [.ptr (1,10) 1 0]] [(1,10)] [((1,10),⟨1,true,85,14,(cD (Dt b))⟩)] (eS h (fun(z0:Pr)=>ft z0 b)) (fun y=>vB y) fun k=>br k (Au LP nG 9) (wg<|wg<|wg<|cs Tryz.prog 230 [.agg ((Al d).map .d),.agg ((DS e.type).map .d),.agg ((Ag b.val).map .d),vI g] [] [] (Tu a d e.type b.val g) (fun y=>vI y) fun j=>br (!decide (j=(0:Int))) (Au LP nG j) (vs (wa c 1)<|ln (qo d e f g) (c+1))))) (Aj (sp) ())
def rG(b:Scm)(c:Fld)(d:List Pr)(e:Int)(a:Scm→Fld→Val→Int→Option (Int)):Nat→Option (Lv (Nat) (Unit) (Int)):=fun f=>(rj b c d e a f).m
def pT:PT 0 (Int):=lr LP nG 0
def pR(c:Scm)(d:Fld)(b:List Pr)(e:Int)(a:Scm→Fld→Val→Int→Option (Int)):PT 0 (Int):=vz (Ah b)<|lc (Ab [(2,vL Ay b),(3,vI e),pp 4,pp 5,(13,vL Ay b),(14,vN b.length),(15,vI 0)] [(dj c),(dU d)]) ((Am (rG c d b e a) Ai 0).bind (Sum.elim (fun _=>(pT).m) some))
def tD(b:Scm)(c:Fld)(d:List Pr)(e:Int)(a:Scm→Fld→Val→Int→Option (Int)):PT 0 (Int):=lc (Ab [(2,vL Ay d),(3,vI e),pp 4,pp 5] [(dj b),(dU c)]) ((pR b c d e a).m)
def Zfa(a:Scm→Fld→Val→Int→Option (Int))(b:Scm)(c:Fld)(d:List Pr)(e:Int):Option (Int):=(tD b c d e a).m
theorem ZAk{C:Cx}(co:CO C 0)(b:Scm)(c:Fld)(f:List Pr)(d:Int)(a:Scm→Fld→Val→Int→Option (Int))(h:∀(b:Scm) (c:Fld) (f:Val) (d:Int),KC Tryz.prog 219 [.agg ((Al b).map .d),.agg ((An c).map .d),.agg ((Ag f).map .d),vI d] (a b c f d) Dl):KL Tryz.prog (Az tl) 46 C (pa [0,0,1,0,1] (Aw Tryz.f231)) [.tmp 8] 0 (qo b c f d) (sp) LP nG (rG b c f d a):=fun p _ hm Q j m k=>Av co Aa Ac (rj b c f d a p) (Ae [2,3,4,5,13,14,15] J3) nl m hm k fun r g=>⟨fun e=>fun s=>⟨id,fun o=>⟨fun y hy=>B6 (ZXt o (fun(z0:Pr)=>ft z0 e)) hy co g [] [((1,10),⟨1,true,85,14,(cD (Dt e))⟩)] (AN [(1,.fn (.func 233) [] [.ptr (r.κ (1,10)) (r.γ (1,10)+1) 0])]) (fun i hg q=>(fun z0 y n=>D1 (ZVd z0 e) n co g [((1,10),⟨1,true,85,14,(cD (Dt e))⟩)] [] hg (by simp) (fun _=>.top) (fun _ _=>trivial) (fun l H=>⟨fun _=>⟨rfl,by kernel_rfl⟩,by kernel_rfl,trivial⟩))) (fun H=>trivial),fun t=>⟨id,⟨fun y hy i _ _=>by rw[(HP a h b c.type e.val d).x,(HP a h b c.type e.val d).e];exact(HP a h b c.type e.val d).k _ i y hy,fun u=>⟨id,id⟩⟩⟩⟩⟩,id⟩
theorem Zx(a:Scm→Fld→Val→Int→Option (Int))(i:∀(b:Scm) (c:Fld) (d:Val) (e:Int),KC Tryz.prog 219 [.agg ((Al b).map .d),.agg ((An c).map .d),.agg ((Ag d).map .d),vI e] (a b c d e) Dl)(b:Scm)(c:Fld)(d:List Pr)(e:Int):KC Tryz.prog 231 [.agg ((Al b).map .d),.agg ((An c).map .d),vL Ay d,vI e] (Zfa a b c d e) LP:=As Tryz.func231 Tryz.ntmps231 Aa [.tmp 8] fun C co y hm h f=>Ak co Aa Ac 1 (tD b c d e a) (Ae [2,3,4,5] J3) nl nH hm f fun r g=>fun _ hm f=>sq (Ak co Aa Ac 1 (pR b c d e a) (Ae [2,3,4,5,13,14,15] J3) nl nH hm f fun r g=>fun _ hm f=>bk 0 (lo (AF (ZAk co b c d e a i) nH hm f (fun _ hm=>Ao co Aa Ac (pT) hm f fun r g=>id))))
end Go.Proofs.YthgmbpciandpiaaGreat
