import Derived.Test.YtifefgdogdecnaaGreatDoorEa16
import Derived.Test.YtifefgdogdecnaaGreatDoorEa08
import Derived.Test.YtifefgdogdecnaaGreatDoorRows
import Derived.WalkKit
import Derived.ProofKit
import Derived.OpenShut
import Derived.Carry
import Derived.Deep.DeepHandedRow
import Derived.Test.YtifefgdogdecnaaGreatDoorEa09
import Derived.Sort.Walk0
import Derived.Test.YtifefgdogdecnaaGreatDoorEa00
namespace Go.Proofs.YtifefgdogdecnaaGreatDoor
set_option maxRecDepth 100000
set_option linter.all false
open Go Go.Eng
abbrev Ic:Int→AV:=fun y=>vI y
def V1(a:List Slt)(b:List Slt):Nat→St:=fun c=>Ab [(0,vL Af a),(1,vL Af b),(5,vN c)] []
def Vg(a:List Slt)(b:List Slt):Unit→Nat×St:=fun _=>(0,Ab [(0,vL Af a),(1,vL Af b)] [])
def HA(b:List Slt)(c:List Slt)(d:Cn):Nat→Option (Lv (Nat) (Unit) (Int)):=fun a=>(vz (Ah b)<|vy (decide ((a:Int)<(b.length:Int))) (Ah c)<|br (decide ((a:Int)<(b.length:Int))&&decide ((a:Int)<(c.length:Int))) (ix b a fun i=>ix c a fun j=>cl (FN i.num j.num) fun g=>br (!decide (g=(0:Int))) (AI Ic nG g) (ix b a fun e=>ix c a fun f=>cs Tryz.prog 20 [.agg ((Ac e.val).map .d),.agg ((Ac f.val).map .d)] [] [] (d e.val f.val) (fun y=>vI y) fun h=>br (!decide (h=(0:Int))) (AI Ic nG h) (vs (wa a 1)<|ln (V1 b c) (a+1)))) (Aq (Vg b c) ()):PT 0 _).m
def Ka(c:Cn)(a:List Slt)(b:List Slt):Option (Int):=(lc (Ab [(0,vL Af a),(1,vL Af b)] []) ((lc (Ab [(0,vL Af a),(1,vL Af b),(5,vI 0)] []) ((Av (HA a b c) Ar 0).bind (Sum.elim (fun _=>(vz (Ah a)<|vz (Ah b)<|cl (FN (a.length:Int) (b.length:Int)) fun d=>lr Ic nG d:PT 0 _).m) some)):PT 0 _).m):PT 0 _).m
theorem fw{C:Cx}(co:CO C 0)(e:List Slt)(f:List Slt)(a:Cn)(d:GH a):KL Tryz.prog (Az tl) 53 C (pa [0,0,1,0,1] (AA Tryz.f40)) [.tmp 4] 0 (V1 e f) (Vg e f) Ic nG (HA e f a):=fun n _ m Q h j L=>eN co (Am [0,1,5]) (Am [0,1]) j m L fun r g=>⟨fun k=>fun l=>fun o=>⟨id,fun b=>fun c=>⟨fun y hy i _ _=>by rw[(d b.val c.val).x,(d b.val c.val).e];exact(d b.val c.val).k _ i y hy,fun p=>⟨id,id⟩⟩⟩,id⟩
theorem PB(a:Cn)(d:GH a)(b:List Slt)(c:List Slt):KC Tryz.prog 40 [vL Af b,vL Af c] (Ka a b c) Ic:=kC Tryz.func40 Tryz.ntmps40 [.tmp 4] fun co m L=>mJ co 1 (Am [0,1]) nl nH m L fun r g=>fun _ m L=>sq (mJ co 1 (Am [0,1,5]) nl nH m L fun r g=>fun _ m L=>bk 0 (lo (AN (fw co b c a d) nH m L (fun _ m=>fO co m L))))
def L7(c:Cn)(a:Val)(b:Val):Option (Int):=(wg<|wg<|br (!decide (a.kind=b.kind)) (wg<|wg<|cl (FN a.kind b.kind) fun e=>lr Ei nG e) (wg<|br (decide (a.kind=(11:Int))) (wg<|wg<|cs Tryz.prog 38 [vL Ag a.list,vL Ag b.list] [] [] (J9 c a.list b.list) (fun y=>vI y) fun f=>lr Ei nG f) (br (decide (a.kind=(12:Int))) (wg<|wg<|cs Tryz.prog 39 [vL Ax a.pairs,vL Ax b.pairs] [] [] (J8 c a.pairs b.pairs) (fun y=>vI y) fun g=>lr Ei nG g) (br (decide (a.kind=(10:Int))) (wg<|wg<|cs Tryz.prog 40 [vL Af a.slots,vL Af b.slots] [] [] (Ka c a.slots b.slots) (fun y=>vI y) fun d=>br (!decide (d=(0:Int))) (lr Ei nG d) (wg<|wg<|cl (lb a.raws b.raws) fun h=>lr Ei nG h)) (wg<|wg<|cl (ly a b) fun i=>lr Ei nG i)))):PT 0 _).m
theorem jS(a:Cn)(d:GH a)(b:Val)(c:Val):KC Tryz.prog 20 [.agg ((Ac b).map .d),.agg ((Ac c).map .d)] (L7 a b c) Ei:=Ce Tryz.func20 Tryz.ntmps20 AK [.tmp 4] fun C co y m f L=>fO co m L fun r g=>⟨fun h=>id,⟨⟨fun y hy e _ _=>by rw[(Pw a d b.list c.list).x,(Pw a d b.list c.list).e];exact(Pw a d b.list c.list).k _ e y hy,fun i=>id⟩,⟨⟨fun y hy e _ _=>by rw[(Pz a d b.pairs c.pairs).x,(Pz a d b.pairs c.pairs).e];exact(Pz a d b.pairs c.pairs).k _ e y hy,fun j=>id⟩,⟨⟨fun y hy e _ _=>by rw[(PB a d b.slots c.slots).x,(PB a d b.slots c.slots).e];exact(PB a d b.slots c.slots).k _ e y hy,fun k=>⟨id,fun l=>id⟩⟩,fun n=>id⟩⟩⟩⟩
def Iz:Nat→Val→Val→Option (Int)
 |0=>fun _ _=>none
 |a+1=>L7 (Iz a)
theorem WP:∀(c:Nat) (a:Val) (b:Val),KC Tryz.prog 20 [.agg ((Ac a).map .d),.agg ((Ac b).map .d)] (Iz c a b) Ei
 |0,a,b=>⟨fun _ _ _ h=>(by cases h),by intro r;kernel_rfl,by intro r y;kernel_rfl⟩
 |c+1,a,b=>jS (Iz c) (WP c) a b
abbrev E9:Bool→AV:=fun y=>vB y
def Fh(a:Val)(b:Val):Option (Bool):=(wg<|wg<|cl (WP Ar a b) fun c=>lr E9 nG (decide (c=(0:Int))):PT 0 _).m
theorem MJ(a:Val)(b:Val):KC Tryz.prog 9 [.agg ((Ac a).map .d),.agg ((Ac b).map .d)] (Fh a b) E9:=kC Tryz.func9 Tryz.ntmps9 [.tmp 4] fun co m L=>fO co m L
abbrev FD:List (Aa×Bool):=[((1,18),true)]
abbrev JE:List Int→AV:=fun y=>vL Bq y
def U4(c:List Val)(a:List Val):Int×List Int→St:=fun(d,b)=>Ab [(0,vL Ag c),(1,vL Ag a),(5,vN (a.length+1)),(6,.ref (1,18) 0 0 b.length),(7,vI d)] [kk 18 3 1 (Ad Bq b)]
def VZ:List Int→Nat×St:=fun a=>(0,Ab [(6,.ref (1,18) 0 0 a.length)] [kk 18 3 1 (Ad Bq a)])
def Jf(c:List Val)(a:List Val)(d:Int):Int×List Int→St:=fun(v3,b)=>Ab [(0,vL Ag c),(1,vL Ag a),(5,vN (a.length+1)),(6,.ref (1,18) 0 0 b.length),(7,vI d),(8,vI v3)] [kk 18 3 1 (Ad Bq b)]
def U3(c:List Val)(b:List Val)(d:Int):List Int→Nat×St:=fun a=>(2,Ab [(0,vL Ag c),(1,vL Ag b),(5,vN (b.length+1)),(6,.ref (1,18) 0 0 a.length),(7,vI d)] [kk 18 3 1 (Ad Bq a)])
def Jj(f:List Val)(b:List Val)(a:Int):Int×List Int→Option (Lv (Int×List Int) (List Int) (List Int)):=fun(v3,c)=>(br (decide ((0:Int)≤v3)) (vs (wi (a+1))<|vs (wi ((a+1)*((b.length+1:Nat):Int)))<|vs (wi (((a+1)*((b.length+1:Nat):Int))+v3))<|vs (CW (((a+1)*((b.length+1:Nat):Int))+v3) c.length 1)<|ca c (((a+1)*((b.length+1:Nat):Int))+v3).toNat fun g=>vs (wi (a*((b.length+1:Nat):Int)))<|vs (wi ((a*((b.length+1:Nat):Int))+v3))<|vs (wi (((a*((b.length+1:Nat):Int))+v3)+1))<|vs (CW (((a*((b.length+1:Nat):Int))+v3)+1) c.length 1)<|ca c (((a*((b.length+1:Nat):Int))+v3)+1).toNat fun m=>br (decide (g<m)) (vs (wi (a*((b.length+1:Nat):Int)))<|vs (wi ((a*((b.length+1:Nat):Int))+v3))<|vs (wi (((a*((b.length+1:Nat):Int))+v3)+1))<|vs (CW (((a*((b.length+1:Nat):Int))+v3)+1) c.length 1)<|ca c (((a*((b.length+1:Nat):Int))+v3)+1).toNat fun h=>F0 f a fun n=>F0 b v3 fun o=>cl (MJ n o) fun k=>br k (vs (wi (a+1))<|vs (wi ((a+1)*((b.length+1:Nat):Int)))<|vs (wi (((a+1)*((b.length+1:Nat):Int))+v3))<|vs (wi ((((a+1)*((b.length+1:Nat):Int))+v3)+1))<|vs (CW ((((a+1)*((b.length+1:Nat):Int))+v3)+1) c.length 1)<|ca c ((((a+1)*((b.length+1:Nat):Int))+v3)+1).toNat fun d=>vs (wi (d+1))<|vs (wi (a*((b.length+1:Nat):Int)))<|vs (wi ((a*((b.length+1:Nat):Int))+v3))<|vs (CW ((a*((b.length+1:Nat):Int))+v3) c.length 1)<|vs (st c ((a*((b.length+1:Nat):Int))+v3).toNat ((d+1):Int))<|rn 6 18 c.length (c.set ((a*((b.length+1:Nat):Int))+v3).toNat (d+1))<|vw .sep<|vs (wi (v3-1))<|vz (fl (c.set ((a*((b.length+1:Nat):Int))+v3).toNat (d+1)))<|ln (Jf f b a) ((v3-1),c.set ((a*((b.length+1:Nat):Int))+v3).toNat (d+1))) (vs (wi (a*((b.length+1:Nat):Int)))<|vs (wi ((a*((b.length+1:Nat):Int))+v3))<|vs (CW ((a*((b.length+1:Nat):Int))+v3) c.length 1)<|vs (st c ((a*((b.length+1:Nat):Int))+v3).toNat h)<|rn 6 18 c.length (c.set ((a*((b.length+1:Nat):Int))+v3).toNat h)<|vw .sep<|vs (wi (v3-1))<|vz (fl (c.set ((a*((b.length+1:Nat):Int))+v3).toNat h))<|ln (Jf f b a) ((v3-1),c.set ((a*((b.length+1:Nat):Int))+v3).toNat h))) (F0 f a fun i=>F0 b v3 fun j=>cl (MJ i j) fun l=>br l (vs (wi (a+1))<|vs (wi ((a+1)*((b.length+1:Nat):Int)))<|vs (wi (((a+1)*((b.length+1:Nat):Int))+v3))<|vs (wi ((((a+1)*((b.length+1:Nat):Int))+v3)+1))<|vs (CW ((((a+1)*((b.length+1:Nat):Int))+v3)+1) c.length 1)<|ca c ((((a+1)*((b.length+1:Nat):Int))+v3)+1).toNat fun e=>vs (wi (e+1))<|vs (wi (a*((b.length+1:Nat):Int)))<|vs (wi ((a*((b.length+1:Nat):Int))+v3))<|vs (CW ((a*((b.length+1:Nat):Int))+v3) c.length 1)<|vs (st c ((a*((b.length+1:Nat):Int))+v3).toNat ((e+1):Int))<|rn 6 18 c.length (c.set ((a*((b.length+1:Nat):Int))+v3).toNat (e+1))<|vw .sep<|vs (wi (v3-1))<|vz (fl (c.set ((a*((b.length+1:Nat):Int))+v3).toNat (e+1)))<|ln (Jf f b a) ((v3-1),c.set ((a*((b.length+1:Nat):Int))+v3).toNat (e+1))) (vs (wi (a*((b.length+1:Nat):Int)))<|vs (wi ((a*((b.length+1:Nat):Int))+v3))<|vs (CW ((a*((b.length+1:Nat):Int))+v3) c.length 1)<|vs (st c ((a*((b.length+1:Nat):Int))+v3).toNat g)<|rn 6 18 c.length (c.set ((a*((b.length+1:Nat):Int))+v3).toNat g)<|vw .sep<|vs (wi (v3-1))<|vz (fl (c.set ((a*((b.length+1:Nat):Int))+v3).toNat g))<|ln (Jf f b a) ((v3-1),c.set ((a*((b.length+1:Nat):Int))+v3).toNat g)))) (vz (fl c)<|Aq (U3 f b a) c):PT 0 _).m
def I7(e:List Val)(a:List Val):Int×List Int→Option (Lv (Int×List Int) (List Int) (List Int)):=fun(c,b)=>(br (decide ((0:Int)≤c)) (vz (fl b)<|lc (Ab [(0,vL Ag e),(1,vL Ag a),(5,vN (a.length+1)),(6,.ref (1,18) 0 0 b.length),(7,vI c)] [kk 18 3 1 (Ad Bq b)]) ((vz (Ah a)<|vs (wi ((a.length:Int)-1))<|vz (fl b)<|lc (Ab [(0,vL Ag e),(1,vL Ag a),(5,vN (a.length+1)),(6,.ref (1,18) 0 0 b.length),(7,vI c),(8,vI ((a.length:Int)-1))] [kk 18 3 1 (Ad Bq b)]) ((Av (Jj e a c) Ar (((a.length:Int)-1),b)).bind (Sum.elim (fun d=>(vs (wi (c-1))<|vz (fl d)<|ln (U4 e a) ((c-1),d):PT 0 _).m) (fun z=>some (.rt z)))):PT 0 _).m)) (vz (fl b)<|Aq (VZ) b):PT 0 _).m
def Na(a:List Val)(b:List Val):Option (List Int):=(vz (Ah b)<|vs (wa b.length 1)<|vz (Ah a)<|vs (wa a.length 1)<|vs (wm (a.length+1) (b.length+1))<|ms ((a.length+1)*(b.length+1)) (0:Int) [vI 0] (by first|rfl|kernel_rfl)<|vz (fl (List.replicate ((a.length+1)*(b.length+1)) (0:Int)))<|lc (Ab [(0,vL Ag a),(1,vL Ag b),(5,vN (b.length+1)),(6,.ref (1,18) 0 0 (List.replicate ((a.length+1)*(b.length+1)) (0:Int)).length)] [kk 18 3 1 (Ad Bq (List.replicate ((a.length+1)*(b.length+1)) (0:Int)))]) ((vz (Ah a)<|vs (wi ((a.length:Int)-1))<|vz (fl (List.replicate ((a.length+1)*(b.length+1)) (0:Int)))<|lc (Ab [(0,vL Ag a),(1,vL Ag b),(5,vN (b.length+1)),(6,.ref (1,18) 0 0 (List.replicate ((a.length+1)*(b.length+1)) (0:Int)).length),(7,vI ((a.length:Int)-1))] [kk 18 3 1 (Ad Bq (List.replicate ((a.length+1)*(b.length+1)) (0:Int)))]) ((Av (I7 a b) Ar (((a.length:Int)-1),List.replicate ((a.length+1)*(b.length+1)) (0:Int))).bind (Sum.elim (fun c=>(vz (fr c)<|lr JE nG c:PT 0 _).m) some)):PT 0 _).m):PT 0 _).m
theorem fa{C:Cx}(co:CO C 0)(a:List Val)(b:List Val)(c:Int):KL Tryz.prog (Az tl) 91 C (pa [0,0,1,0,0,1,0,0,1,0,1,1,1] (AA Tryz.f19)) [.tmp 4] 0 (Jf a b c) (U3 a b c) JE nG (Jj a b c):=fun(v3,f) _ m Q d e L=>eN co (Ai [0,1,5,6,7,8] FD) (Ai [0,1,5,6,7] FD) e m L
theorem fK{C:Cx}(co:CO C 0)(b:List Val)(c:List Val):KL Tryz.prog (Az tl) 91 C (pa [0,0,1,0,1,1,1] (AA Tryz.f19)) [.tmp 4] 0 (U4 b c) (VZ) JE nG (I7 b c):=fun(f,h) _ m Q d a L=>mJ co 1 (Ai [0,1,5,6,7] FD) (Ai [6] FD) a m L fun r g=>⟨fun _ m L=>sq (bk 1 (mJ co 1 (Ai [0,1,5,6,7,8] FD) nl a m L fun r g=>fun _ m L=>bk 2 (lo (lI (fa co b c f) a m L (fun e m=>eN co (Ai [0,1,5,6,7] FD) nl a m L))))),id⟩
theorem km(a:List Val)(b:List Val):KC Tryz.prog 19 [vL Ag a,vL Ag b] (Na a b) JE:=kC Tryz.func19 Tryz.ntmps19 [.tmp 4] fun co m L=>mJ co 3 (Ai [0,1,5,6] FD) nl nH m L fun r g=>fun _ m L=>sq (mJ co 1 (Ai [0,1,5,6,7] FD) nl nH m L fun r g=>fun _ m L=>bk 0 (lo (AN (fK co a b) nH m L (fun c m=>fO co m L))))
abbrev E8:List P2→AV:=fun y=>vL Cc y
def LP(c:List Val)(a:List Val)(d:List Int):List P2×Nat×Nat→St:=fun(b,v3,v4)=>Ab [(0,vL Ag c),(1,vL Ag a),(5,vL Bq d),(6,vN (a.length+1)),(7,.ref (1,7) 0 0 b.length),(8,vN v3),(9,vN v4)] [kk 7 27 2 (Ad Cc b)]
def Xa:List P2→Nat×St:=fun a=>(0,Ab [(7,.ref (1,7) 0 0 a.length)] [kk 7 27 2 (Ad Cc a)])
def LZ(c:List Val)(a:List Val)(d:List Int):List P2×Nat×Nat→Option (Lv (List P2×Nat×Nat) (List P2) (List P2)):=fun(b,v3,v4)=>(vz (Ah c)<|vy (decide ((v3:Int)<(c.length:Int))) (Ah a)<|br (decide ((v3:Int)<(c.length:Int))&&decide ((v4:Int)<(a.length:Int))) (ix c v3 fun e=>ix a v4 fun f=>cl (MJ e f) fun i=>br i (vw .sep<|vw .sep<|ap b ((.mk (v3:Int) (v4:Int):P2):P2)<|vs (wa v3 1)<|vs (wa v4 1)<|vz (fl (b++([(.mk (v3:Int) (v4:Int):P2)])))<|ln (LP c a d) (b++([(.mk (v3:Int) (v4:Int):P2)]),v3+1,v4+1)) (vs (wa v3 1)<|vs (wm (v3+1) (a.length+1))<|vs (wa ((v3+1)*(a.length+1)) v4)<|ix d (((v3+1)*(a.length+1))+v4) fun g=>vs (wm v3 (a.length+1))<|vs (wa (v3*(a.length+1)) v4)<|vs (wa ((v3*(a.length+1))+v4) 1)<|ix d (((v3*(a.length+1))+v4)+1) fun h=>br (decide (h≤g)) (vs (wa v3 1)<|vz (fl b)<|ln (LP c a d) (b,v3+1,v4)) (vs (wa v4 1)<|vz (fl b)<|ln (LP c a d) (b,v3,v4+1)))) (vz (fl b)<|Aq (Xa) b):PT 0 _).m
def Nc(c:List Val)(a:List Val):Option (List P2):=(cl (km c a) fun d=>vz (Ah a)<|vs (wa a.length 1)<|lc (Ab [(0,vL Ag c),(1,vL Ag a),(5,vL Bq d),(6,vN (a.length+1)),(7,.e0),(8,vI 0),(9,vI 0)] []) ((vw (.ads 7 7 27 2)<|vz (fl ([]:List P2))<|lc (Ab [(0,vL Ag c),(1,vL Ag a),(5,vL Bq d),(6,vN (a.length+1)),(7,.ref (1,7) 0 0 ([]:List P2).length),(8,vI 0),(9,vI 0)] [kk 7 27 2 (Ad Cc ([]:List P2))]) ((Av (LZ c a d) Ar (([]:List P2),0,0)).bind (Sum.elim (fun b=>(vz (fr b)<|lr E8 nG b:PT 0 _).m) some)):PT 0 _).m):PT 0 _).m
theorem gG{C:Cx}(co:CO C 0)(b:List Val)(c:List Val)(d:List Int):KL Tryz.prog (Az tl) 71 C (pa [0,0,0,1,1,1,1,1,1] (AA Tryz.f8)) [.tmp 4] 0 (LP b c d) (Xa) E8 nG (LZ b c d):=fun(f,v3,v4) _ m Q a e L=>eN co (Ai [0,1,5,6,7,8,9] [((1,7),true)]) (Ai [7] [((1,7),true)]) e m L
theorem Zq(a:List Val)(b:List Val):KC Tryz.prog 8 [vL Ag a,vL Ag b] (Nc a b) E8:=kC Tryz.func8 Tryz.ntmps8 [.tmp 4] fun co m L=>mJ co 6 (Am [0,1,5,6,7,8,9]) nl nH m L fun r g=>fun d=>fun _ m L=>sq (bk 0 (cM co (Ai [0,1,5,6,7,8,9] [((1,7),true)]) m L fun r g=>fun _ m L=>lo (AN (gG co a b d) nH m L (fun c m=>fO co m L))))
abbrev E3:Bool→AV:=fun y=>vB y
def XD(b:List P2)(c:List P2):Nat→St:=fun a=>Ab [(5,vL Cc b),(6,vL Cc c),(7,vN a)] []
def Xq:Unit→Nat×St:=fun _=>(0,Ab [] [])
def L9(b:List P2)(f:List P2):Nat→Option (Lv (Nat) (Unit) (Bool)):=fun a=>(vz (Ah b)<|br (decide ((a:Int)<(b.length:Int))) (ix b a fun d=>ix f a fun e=>Dp (!(!decide (d.a=e.a))) b (a:Int) fun g=>Dp (!(!decide (d.a=e.a))) f (a:Int) fun c=>br ((!decide (d.a=e.a))||(!decide (g.b=c.b))) (AI E3 nG false) (vs (wa a 1)<|ln (XD b f) (a+1))) (Aq (Xq) ()):PT 0 _).m
def M9(c:List Val)(d:List Val):Option (Bool):=(cl (QF c) fun f=>CD (!(!f)) (QF d) fun g=>br ((!f)||(!g)) (cl (QG) fun h=>lr E3 nG h) (cl (QH c d) fun a=>cl (Zq c d) fun b=>vz (Ah a)<|vz (Ah b)<|br (!decide ((a.length:Int)=(b.length:Int))) (lr E3 nG false) (lc (Ab [(5,vL Cc a),(6,vL Cc b)] []) ((lc (Ab [(5,vL Cc a),(6,vL Cc b),(7,vI 0)] []) ((Av (L9 a b) Ar 0).bind (Sum.elim (fun _=>(cl (QG) fun e=>lr E3 nG e:PT 0 _).m) some)):PT 0 _).m))):PT 0 _).m
theorem iG{C:Cx}(co:CO C 0)(b:List P2)(c:List P2):KL Tryz.prog (Az tl) 59 C (pa [0,0,1,0,1,1,1,1,1] (AA Tryz.f3)) [.tmp 4] 0 (XD b c) (Xq) E3 nG (L9 b c):=fun e _ m Q a d L=>eN co (Am [5,6,7]) nl d m L
theorem Zp(a:List Val)(b:List Val):KC Tryz.prog 3 [vL Ag a,vL Ag b] (M9 a b) E3:=kC Tryz.func3 Tryz.ntmps3 [.tmp 4] fun co m L=>mJ co 5 (Am [5,6]) nl nH m L fun r g=>fun e=>fun f=>⟨fun h=>id,fun c=>fun d=>⟨id,fun _ m L=>sq (mJ co 1 (Am [5,6,7]) nl nH m L fun r g=>fun _ m L=>bk 0 (lo (AN (iG co c d) nH m L (fun _ m=>fO co m L))))⟩⟩
end Go.Proofs.YtifefgdogdecnaaGreatDoor
namespace Go.Proofs.YtifefgdogdecnaaGreatDoor
set_option linter.all false
open Go Go.Eng
end Go.Proofs.YtifefgdogdecnaaGreatDoor
namespace Go.Proofs.YtifefgdogdecnaaGreatDoor
set_option linter.all false
open Go Go.Eng Go.ChangeShapes Go.WideShapes Go.ChangeAt Go.RowKit
theorem dm{H:Type}(b:List UInt8):Rows.uptoBulk (DataW.lit (H:=H) (.string b))=b.length+1:=by simp only[Rows.uptoBulk]
theorem bQ{H:Type}(a b:List (DataW H)):Rows.uptoBulk (.slice a b)=Rows.uptoBulkAll a+Rows.uptoBulkAll b+1:=by simp only[Rows.uptoBulk]
theorem dq{H:Type}(a:List (DataW H)):Rows.uptoBulk (.agg a)=Rows.uptoBulkAll a+1:=by simp only[Rows.uptoBulk]
def Fu(W:World)(ds:List D)(cs:List Value)(o:Nat):Prop:=∀(i:Nat) (d:D),ds[i]?=some d→∃c,cs[o+i]?=some c∧RepD W (· <W.heap.size) d c
def GC(W:World)(ds:List D)(cs:List Value):Prop:=ds.length=cs.length∧Fu W ds cs 0
theorem Fu.app{W:World}{ds a:List D}{cs:List Value}{o:Nat}(h:Fu W ds cs o)(k:Fu W a cs (o+ds.length)):Fu W (ds++a) cs o:=fun i d hi=>by
 rcases Yw i ds.length with hl|hl
 ·rw[Yn hl]at hi;exact h i d hi
 ·rw[Yr hl]at hi
  obtain⟨c,b,e⟩:=k _ d hi
  grind
theorem Fu.nil{W:World}{cs:List Value}{o:Nat}:Fu W [] cs o:=fun i d h=>by simp at h
theorem GC.at{W:World}{ds:List D}{cs:List Value}{o k:Nat}(h:GC W ds ((cs.drop o).take k)):Fu W ds cs o:=fun i d hi=>by
 obtain⟨c,a,b⟩:=h.2 i d hi
 grind
def rk(k:IntKind)(n:Int):Nat:=if Lit.wf (.int k n)=true then 0 else 1000000000000
theorem iR{k:IntKind}{n:Int}(h:rk k n≤1048576):k.min≤n∧n≤k.max:=by
 unfold rk at h
 split at h
 ·rename_i a
  unfold Lit.wf at a
  rw[Yc]at a
  exact⟨G0 a.1,G0 a.2⟩
 ·omega
mutual
def bk:D→Nat
 |.int k n=>rk k n
 |.bool _=>0
 |.str s=>s.size
 |.list a=>Dl a
 |.map _ a=>Dl a
def AE:List D→Nat
 |[]=>0
 |d::l=>bk d+AE l
def Dl:List (List D)→Nat
 |[]=>0
 |e::l=>AE e+1+Dl l
end
theorem KQ:∀a b:List D,AE (a++b)=AE a+AE b
 |[],b=>by rw[Em,AE,YL]
 |d::a,b=>by rw[JZ,AE,AE,KQ a b,Ys]
theorem KI(d:D):AE [d]=bk d:=by rw[AE,AE,Du]
theorem Ht{α:Type}{e:α→List D}:∀l:List α,l.length≤Dl (l.map e)
 |[]=>YU _
 |x::l=>by have:=Ht (e:=e) l;rw[Y3,Dl,Y4];omega
theorem Fr{α:Type}{e:α→List D}{x:α}:∀{l:List α},x∈l→AE (e x)+1≤Dl (l.map e)
 |y::l,h=>by
  rw[Y3,Dl]
  cases YJ.1 h with
  |inl h=>subst h;omega
  |inr h=>have:=Fr (e:=e) h;omega
section
variable {H:Type} (enc:TypeId×Value→H) (P:Program) (W:World)
def Cf{α:Type}(n:Nat)(t:TypeId)(e:α→List D):Prop:=
 ∀cs x,DataW.trod enc P W 0 (fun _=>true) true n t cs=some x→∃v:α,GC W (e v) cs∧AE (e v)+1≤Rows.uptoBulk x.1
end
section
variable {H:Type} {enc:TypeId×Value→H} {P:Program} {W:World} {n:Nat} {t:TypeId}
theorem SW(d:DataW H):1≤Rows.uptoBulk d:=by cases d<;>(try (rename_i l;cases l))<;>simp[Rows.uptoBulk]
theorem Kg{d:D}{c:Value}(h:RepD W (· <W.heap.size) d c):GC W [d] [c]:=⟨rfl,fun i d' hi=>by
 cases i with
 |zero=>cases hi;exact⟨c,rfl,h⟩
 |succ i=>simp at hi⟩
theorem Hn{k:IntKind}(a:P.underlying t=some (.int k)):Cf enc P W n t (fun v:Int=>[.int k v]):=fun cs x hx=>by
 obtain⟨m,rfl,rfl,b⟩:=DataW.trod_int a hx
 refine⟨m,Kg (.int _ _),?_⟩
 rw[KI,bk,rk,Yj b]
 exact SW _
theorem Uv(a:P.underlying t=some .string):Cf enc P W n t (fun v:ByteArray=>[.str v]):=fun cs x hx=>by
 obtain⟨m,rfl,rfl,_⟩:=DataW.trod_string a hx
 refine⟨m,Kg (.str _),?_⟩
 rw[dm,KI]
 exact Yf _
theorem T6{α:Type}{e:α→List D}:∀(l:List α) (xs:List (DataW H×List MemPlace)),l.length=xs.length→(∀(i:Nat) (v:α),l[i]?=some v→∃y:DataW H×List MemPlace,xs[i]?=some y∧AE (e v)+1≤Rows.uptoBulk y.1)→Dl (l.map e)≤Rows.uptoBulkAll (xs.map (·.1))
 |[],_,_,_=>YU _
 |x::l,[],h,_=>by cases h
 |x::l,y::xs,h,k=>by
  have:=T6 l xs (MV h) (fun i v hi=>k (i+1) v hi)
  obtain⟨c,a,b⟩:=k 0 x rfl
  cases a
  rw[Y3,Y3,Dl]
  simp only[Rows.uptoBulkAll]
  omega
theorem Tn{α:Type}{Q:Nat→α→Prop}:∀(len:Nat),(∀i,i<len→∃v,Q i v)→∃l:List α,l.length=len∧∀i v,l[i]?=some v→Q i v
 |0,_=>⟨[],rfl,fun i v h=>by simp at h⟩
 |len+1,h=>by
  obtain⟨l,a,b⟩:=Tn len (fun i hi=>h i (by omega))
  obtain⟨v,c⟩:=h len (by omega)
  refine⟨l++[v],by simp[a],fun i w hi=>?_⟩
  grind
theorem Hc{α:Type}{e:TypeId}{b:α→List D}{sz:Nat}(X:P.underlying t=some (.slice e))(E:P.cellsOf e=sz)(V:sz≠0)(hl:∀x,(b x).length=sz)(h:∀m,m<n→Cf enc P W m e b):
  Cf enc P W n t (fun l:List α=>[.list (l.map b)]):=fun cs x hx=>by
 rcases DataW.trod_slice X hx with⟨rfl,rfl⟩|⟨a,len,cap,g,J,m,rfl,rfl,rfl,Z,z,T,U,hi,_,_⟩
 ·exact⟨[],Kg .nil,SW _⟩
 ·have k:∀i,i<len→∃v:α,∃y f,g[i]?=some y∧W.cells? 0 (a.add (i*sz)) sz=some f∧GC W (b v) f∧AE (b v)+1≤Rows.uptoBulk y.1:=fun i B=>by
   have I:=hi i B
   rw[Yb (by omega),E]at I
   obtain⟨f,N,O⟩:=QP.1 I
   obtain⟨v,Q,R⟩:=h m (by omega) f _ O
   exact⟨v,_,f,Yb (by omega),N,Q,R⟩
  obtain⟨l,A,r⟩:=Tn len k
  have cell:∀(i j:Nat) (e':List D) (x:D),(l.map b)[i]?=some e'→e'[j]?=some x→∃c,W.cell? (a.add (i*sz+j))=some c∧RepD W (· <W.heap.size) x c:=fun i j e' x d o=>by
   rw[Yv]at d
   cases s:l[i]? with
   |none=>rw[s]at d;cases d
   |some v=>
    rw[s]at d
    cases d
    obtain⟨y,f,p,q,F,G⟩:=r i v s
    obtain⟨c,H,K⟩:=F.2 j x o
    rw[YL]at H
    obtain⟨_,Y,L⟩:=World.cells?_some q
    have u:j<sz:=by
     rw[←hl v]
     rcases Yw j (b v).length with h|h
     ·exact h
     ·rw[YE h]at o;cases o
    refine⟨c,?_,K⟩
    rw[←Go.Eng.add_add,L j u,H]
  refine⟨l,Kg ?_,?_⟩
  ·have hlen:(l.map b).length=len:=by simp[A]
   have:=RepD.list (w:=W) (S:=(· <W.heap.size)) (l.map b) a sz cap (fun i j=>(W.cell? (a.add (i*sz+j))).getD undef) (fun C=>by
     have M:0<len:=by
      rcases MX len with h|h
      ·exact absurd (YZ (hlen.trans h)) C
      ·exact h
     obtain⟨v,y,f,_,q,_⟩:=k 0 M
     have:=World.cells?_block q (by omega)
     rw[G3]at this
     rw[←Go.Eng.block_add a 0];exact this)
    (by rw[hlen];exact z) (fun e' he=>by obtain⟨y,_,rfl⟩:=YO.1 he;exact hl y)
    (fun i j e' x d o=>by obtain⟨c,p,_⟩:=cell i j e' x d o;rw[p];rfl)
    (fun i j e' x d o=>by obtain⟨c,p,q⟩:=cell i j e' x d o;rw[p];exact q)
   rw[hlen]at this
   exact this
  ·rw[bQ,KI,bk]
   have:=T6 (e:=b) l g (by omega) (fun i v s=>by
    obtain⟨y,f,p,q,F,G⟩:=r i v s
    exact⟨y,p,G⟩)
   omega
def FB(xs:List (DataW H×List MemPlace))(i:Nat):Nat:=Rows.uptoBulkAll ((xs.drop i).map (·.1))
theorem DE{xs:List (DataW H×List MemPlace)}{i:Nat}{a b:List D}(h:AE a+1+FB xs (i+1)≤FB xs i)(k:AE b≤FB xs (i+1)):AE (a++b)≤FB xs i:=by
 rw[KQ];omega
theorem KZ{xs:List (DataW H×List MemPlace)}{i:Nat}{a:List D}(h:AE a+1+FB xs (i+1)≤FB xs i):AE a≤FB xs i:=by omega
theorem KY{xs:List (DataW H×List MemPlace)}{a:List D}(h:AE a≤FB xs 0):AE a+1≤Rows.uptoBulk (.agg (xs.map (·.1))):=by
 rw[dq];exact Nat.succ_le_succ h
theorem eh{α:Type}{e:α→List D}{m i:Nat}{c:TypeId}{a:List Value}{xs:List (DataW H×List MemPlace)}(h:Cf enc P W m c e)(b:DataW.trod enc P W 0 (fun _=>true) true m c a=xs[i]?)(hi:i<xs.length):
  ∃v,GC W (e v) a∧AE (e v)+1+FB xs (i+1)≤FB xs i:=by
 rw[Yb hi]at b
 obtain⟨v,d,f⟩:=h _ _ b
 refine⟨v,d,?_⟩
 unfold FB
 rw[YN hi,Y3]
 simp only[Rows.uptoBulkAll]
 omega
theorem rf{α:Type}{e:α→List D}{m i k:Nat}{b:TypeId}{a:List Value}{xs:List (DataW H×List MemPlace)}(h:Cf enc P W m b e)(c:DataW.trod enc P W 0 (fun _=>true) true m b a=xs[i]?)(hx:xs.length=k)(hi:Nat.blt i k=true:=by kernel_rfl):
  ∃v,GC W (e v) a∧AE (e v)+1+FB xs (i+1)≤FB xs i:=eh h c (by rw[hx];exact Yd hi)
theorem IY{α:Type}{e e':α→List D}(he:∀x,e x=e' x)(h:Cf enc P W n t e'):Cf enc P W n t e:=fun cs x hx=>by
 obtain⟨v,a,b⟩:=h cs x hx
 grind
theorem Sh{α:Type}{e:α→List D}{u:TypeId}{r:Reach}{b:Nat}{v:Value}{d:DataW H}{p:List MemPlace}(rd:∀n,Cf enc P W n t (fun l:List α=>[.list (l.map e)]))(o:P.underlying t=some (.slice u))(q:Value.okWide P W r b t v)
  (h:DataW.Trod enc P W 0 (fun _=>true) true t v d p):∃x:List α,(∀Hp m l,RepA W (· <W.heap.size) Hp m l (.d (.list (x.map e))) v)∧bk (.list (x.map e))+1≤Rows.uptoBulk d:=by
 obtain⟨a,len,cap,rfl⟩:=okWide_slice o q
 obtain⟨n,k⟩:=h
 obtain⟨x,f,g⟩:=rd n _ _ k
 obtain⟨c,i,j⟩:=f.2 0 _ rfl
 have:c=.slice a len cap:=by simpa[Value.cells]using i.symm
 subst this
 exact⟨x,fun _ _ _=>.d _ _ j,by rw[←KI];exact g⟩
def QE:Hp:=fun _=>⟨0,false,0,0,[]⟩
theorem lJ(m:Mu):Ok 0 QE m (· <W.heap.size) W:=⟨fun _ h=>h,fun _ _ h=>(by cases h),fun _ _ h=>(by cases h),fun _ _ _ _ h=>(by cases h),fun _ _ h=>(by cases h),⟨fun _ _ h=>(by cases h),fun _ _ h=>(by cases h),fun _ _ _ _ h=>(by cases h)⟩⟩
def XZ(w:World)(S:Nat→Prop)(Hp:Hp)(m:Mu)(l:Nat):List AV→List Value→Prop
 |[],[]=>True
 |x::xs,v::vs=>RepA w S Hp m l x v∧XZ w S Hp m l xs vs
 |_,_=>False
theorem fF{w:World}{S:Nat→Prop}{Hp:Hp}{m:Mu}{l:Nat}{xs:List AV}{vs:List Value}(h:XZ w S Hp m l xs vs):Gq w S Hp m l xs vs.toArray:=by
 suffices b:xs.length=vs.length∧∀(i:Nat) (x:AV) (v:Value),xs[i]?=some x→vs[i]?=some v→RepA w S Hp m l x v by
  exact⟨by simpa using b.1,fun i x v hx e=>b.2 i x v hx (by simpa using e)⟩
 induction xs generalizing vs with
 |nil=>cases vs with
  |nil=>exact⟨rfl,fun i x v h=>by simp at h⟩
  |cons _ _=>exact h.elim
 |cons x xs f=>cases vs with
  |nil=>exact h.elim
  |cons v vs=>
   obtain⟨c,d⟩:=f h.2
   refine⟨by simp[c],fun i y u hy a=>?_⟩
   cases i with
   |zero=>simp at hy a;subst hy;subst a;exact h.1
   |succ i=>exact d i y u (by simpa using hy) (by simpa using a)
theorem ct{f:Func}{s:ChangeSpec}{r:World}{args:Array Value}{ds A:List (DataW H)}{e:List MemPlace}{u:TypeId}(C:DataW.Whole enc P f.params.toList s.vars false W args.toList ds A e)(c:s.vars=[])
  (k:laidOutB P=true) (z:∀t∈f.params.toList,P.readableRec t=true∧t<P.types.size) (g:f.resultTypes.toList=[u]) (L:P.underlying u=some .bool)
  (j:s.fn H (ds++A)={results:=[.lit (.bool true)],args:=ds }) (n:Below W.heap.size W r):s.post enc P f false true false false W args (.bool true) r:=by
 obtain⟨p,q,G,B,rfl,I,J⟩:=id C
 rw[c]at B
 obtain⟨rfl,rfl⟩:=trodVars_none B
 refine⟨ds,[],p++[],[],p,[],C,?_,?_,?_,?_,fun h=>by cases h⟩
 ·rw[j,g]
  have:(Value.bool true).resultList f.resultTypes.size=[.bool true]:=by
   have:f.resultTypes.size=1:=by rw[←Fb,g];rfl
   rw[this];rfl
  rw[this]
  exact trodAll_cons_mk (shut_bool L _) trodAll_mk0
 ·rw[j]
  have key:∀(l:List TypeId) (vs:List Value) (m:List (DataW H)) (ps:List MemPlace),(∀t∈l,P.readableRec t=true∧t<P.types.size)→DataW.TrodAll enc P W 0 (fun _=>true) true l vs m ps→
    DataW.TrodAll enc P r 0 (fun b=>decide (b<W.heap.size)) true l vs m ps:=by
   intro l
   induction l with
   |nil=>intro vs m ps _ h;obtain⟨rfl,rfl,rfl⟩:=trodAll_nil h;exact trodAll_mk0
   |cons t l M=>
    intro vs m ps y h
    have w:=DataW.TrodAll.lt h
    obtain⟨v,N,d,D,a,b,rfl,rfl,rfl,E,F⟩:=trodAll_cons h
    exact trodAll_cons_mk (Below.trod k (y t (by simp)).1 (y t (by simp)).2 E n (fun x hx=>w x (Gb _ hx))) (M _ _ _ (fun t K=>y t (by simp[K])) F)
  exact key _ _ _ _ z G
 ·rw[c,j];exact rfl
 ·refine⟨n.os,n.output,fun i hi=>?_⟩
  rw[n.block i hi]
  cases W.heap[i]? with
  |none=>rfl
  |some o=>cases o<;>simp
end
end Go.Proofs.YtifefgdogdecnaaGreatDoor
namespace Go.Proofs.YtifefgdogdecnaaGreatDoor
set_option linter.all false
open Go Go.Eng
section
variable {H:Type} {enc:TypeId×Value→H} {W:World}
set_option maxRecDepth 100000
theorem im(n:Nat):Cf enc Tryz.prog W n 106 Aj:=fun cs x hx=>by
 obtain⟨xs,m,rfl,rfl,c,a,b⟩:=DataW.trod_struct Tryz.underlying106 hx
 obtain⟨v0,h,d⟩:=rf (Hn Tryz.underlying3) (b 0 _ rfl) a
 obtain⟨l,i,e⟩:=rf (Hn Tryz.underlying3) (b 1 _ rfl) a
 obtain⟨v2,j,f⟩:=rf (Hn Tryz.underlying30) (b 2 _ rfl) a
 obtain⟨v3,k,g⟩:=rf (Uv Tryz.underlying9) (b 3 _ rfl) a
 have q:=KY (DE d (DE e (DE f (KZ g))))
 exact⟨.mk v0 l v2 v3,⟨by rw[c];kernel_rfl,(h.at.app (i.at.app (j.at.app k.at)))⟩,q⟩
theorem ea(n:Nat)(h:∀k,k<n→Cf enc Tryz.prog W k 35 Ac):Cf enc Tryz.prog W n 108 Do:=fun cs x hx=>by
 obtain⟨xs,m,rfl,rfl,b,a,c⟩:=DataW.trod_struct Tryz.underlying108 hx
 obtain⟨v0,f,d⟩:=rf (h m (by omega)) (c 0 _ rfl) a
 obtain⟨i,g,e⟩:=rf (h m (by omega)) (c 1 _ rfl) a
 have q:=KY (DE d (KZ e))
 exact⟨.mk v0 i,⟨by rw[b];kernel_rfl,(f.at.app g.at)⟩,q⟩
theorem cU(n:Nat)(h:∀k,k<n→Cf enc Tryz.prog W k 35 Ac):Cf enc Tryz.prog W n 54 Bm:=fun cs x hx=>by
 obtain⟨xs,m,rfl,rfl,b,a,c⟩:=DataW.trod_struct Tryz.underlying54 hx
 obtain⟨v0,f,d⟩:=rf (Hn Tryz.underlying3) (c 0 _ rfl) a
 obtain⟨i,g,e⟩:=rf (h m (by omega)) (c 1 _ rfl) a
 have q:=KY (DE d (KZ e))
 exact⟨.mk v0 i,⟨by rw[b];kernel_rfl,(f.at.app g.at)⟩,q⟩
theorem TS(n:Nat):Cf enc Tryz.prog W n 35 Ac:=by
 induction n using Nat.strongRecOn with
 |ind n e=>
 intro cs x hx
 obtain⟨xs,m,rfl,rfl,c,a,b⟩:=DataW.trod_struct Tryz.underlying35 hx
 obtain⟨v0,s,f⟩:=rf (Hn Tryz.underlying3) (b 0 _ rfl) a
 obtain⟨A,t,g⟩:=rf (Hn Tryz.underlying30) (b 1 _ rfl) a
 obtain⟨v2,u,h⟩:=rf (Uv Tryz.underlying9) (b 2 _ rfl) a
 obtain⟨v3,v,i⟩:=rf (Hc Tryz.underlying22 (by kernel_rfl:Tryz.prog.cellsOf 35=7) (by decide) (fun x=>by rw[Cu];rfl) (fun k d=>(IY Cu (e k (by omega))))) (b 3 _ rfl) a
 obtain⟨v4,w,l⟩:=rf (Hc Tryz.underlying31 (by kernel_rfl:Tryz.prog.cellsOf 108=14) (by decide) (fun x=>by rw[Hu];rfl) (fun k d=>(IY Hu (ea k (fun j r=>e j (by omega)))))) (b 4 _ rfl) a
 obtain⟨v5,y,o⟩:=rf (Hc Tryz.underlying32 (by kernel_rfl:Tryz.prog.cellsOf 54=8) (by decide) (fun x=>by rw[Hk];rfl) (fun k d=>(IY Hk (cU k (fun j r=>e j (by omega)))))) (b 5 _ rfl) a
 obtain⟨B,z,p⟩:=rf (Hc Tryz.underlying33 (by kernel_rfl:Tryz.prog.cellsOf 106=4) (by decide) (fun _=>rfl) (fun k d=>(im k))) (b 6 _ rfl) a
 have q:=KY (DE f (DE g (DE h (DE i (DE l (DE o (KZ p)))))))
 exact⟨.mk v0 A v2 v3 v4 v5 B,⟨by rw[c];kernel_rfl,(s.at.app (t.at.app (u.at.app (v.at.app (w.at.app (y.at.app z.at))))))⟩,q⟩
end
end Go.Proofs.YtifefgdogdecnaaGreatDoor
namespace Go.Eng
set_option linter.all false
open Go Go.RowKit
section
variable {σ ξ ρ α β γ:Type}
theorem SV{B:σ→Option (Lv σ ξ ρ)}(I:Nat→σ→Prop)(Q:ξ ⊕ ρ→Prop)
  (h:∀k v,I k v→∃o,B v=some o∧match o with|.nx c=>∃k',k'<k∧I k' c|.ex b=>Q (.inl b)|.rt y=>Q (.inr y)):
  ∀N k v,k<N→I k v→∃o,Av B N v=some o∧Q o
 |0,k,v,d,_=>absurd d (Ek _)
 |N+1,k,v,d,g=>by
  obtain⟨o,e,a⟩:=h k v g
  rw[Av,e]
  cases o with
  |nx c=>obtain⟨k',i,f⟩:=a;exact SV I Q h N k' c (by omega) f
  |ex b=>exact⟨_,rfl,a⟩
  |rt y=>exact⟨_,rfl,a⟩
theorem BS{l:List α}{i:Nat}{x:α}(h:l[i]?=some x):(i:Int)<(l.length:Int):=by
 grind
theorem Cw{n:Nat}(h:n<4611686018427387904):n<Ar:=h
end
end Go.Eng
namespace Go.Proofs.YtifefgdogdecnaaGreatDoor
set_option linter.all false
open Go Go.Eng
def Ok{α:Type}(Q:α→Prop)(o:Option α):Prop:=∃y,o=some y∧Q y
section
variable {α β γ σ ξ ρ:Type} {Q:β→Prop} {P:α→Prop}
theorem Bg{y:β}(h:Q y):Ok Q (some y):=⟨y,rfl,h⟩
theorem Hj{m:Option α}{k:α→Option β}(h:Ok P m)(a:∀y,P y→Ok Q (k y)):Ok Q (m.bind k):=by
 obtain⟨y,rfl,h⟩:=h
 exact a y h
theorem I0{xs:List α}{i:Nat}{k:α→Option β}(h:i<xs.length)(a:∀x,xs[i]?=some x→x∈xs→Ok Q (k x)):Ok Q (xs[i]?.bind k):=by
 rw[Yb h]
 exact a _ (Yb h) (G1 h)
theorem Bb{b:Bool}{x y:Option β}(h:b=true→Ok Q x)(a:b=false→Ok Q y):Ok Q (if b=true then x else y):=by
 cases b
 ·exact a rfl
 ·exact h rfl
theorem AO{c:Prop}{d:Decidable c}{a:Option β}(b:c)(h:Ok Q a):Ok Q (if c then a else none):=by
 rw[Yj b]
 exact h
theorem Da{B:σ→Option (Lv σ ξ ρ)}{N:Nat}{v:σ}(I:σ→Prop)(μ:σ→Nat){A:ξ→Prop}{R:ρ→Prop}(d:I v)(f:μ v<N)
  (hs:∀v,I v→Ok (fun o=>match o with|.nx c=>I c∧μ c<μ v|.ex b=>A b|.rt y=>R y) (B v)):Ok (Sum.elim A R) (Av B N v):=
 SV (fun k v=>I v∧μ v≤k) (Sum.elim A R) (fun k v h=>by
  obtain⟨o,e,a⟩:=hs v h.1
  refine⟨o,e,?_⟩
  cases o with
  |nx c=>exact⟨μ c,by have:=a.2;have:=h.2;omega,a.1,Yf _⟩
  |ex b=>exact a
  |rt y=>exact a) N (μ v) v f ⟨d,Yf _⟩
theorem GB{m:Option (ξ ⊕ ρ)}{A:ξ→Prop}{R:ρ→Prop}{f:ξ→Option β}{g:ρ→Option β}(h:Ok (Sum.elim A R) m)(hx:∀b,A b→Ok Q (f b))(a:∀r,R r→Ok Q (g r)):Ok Q (m.bind (Sum.elim f g)):=by
 obtain⟨y,rfl,h⟩:=h
 cases y with
 |inl b=>exact hx b h
 |inr r=>exact a r h
theorem Ok.mono{a:β→Prop}{o:Option β}(h:Ok Q o)(k:∀y,Q y→a y):Ok a o:=by
 obtain⟨y,b,c⟩:=h
 exact⟨y,b,k y c⟩
theorem Ok.some{o:Option β}(h:Ok Q o):o.isSome=true:=by
 obtain⟨y,a,b⟩:=h
 rw[a]
 rfl
end
abbrev Tr{α:Type}:α→Prop:=fun _=>True
abbrev No{α:Type}:α→Prop:=fun _=>False
theorem lK:(⟨#[]⟩:ByteArray).size=0:=rfl
theorem F5{p:Prop}(h:p:=by first|trivial|assumption|contradiction|omega|grind|(simp only[Bd.c,Bd.vl,MT,ByteArray.size_extract,lK]at*;grind)):p:=h
theorem CF{p:Prop}(h:p:=by first|trivial|assumption|contradiction|omega|solve_by_elim|(simp only[Yc,YD,Y2,MR,ML,Y7,YG]at*;omega)|grind):p:=h
def P3(x:Fld):Prop:=(x.card≠5→1≤x.card∧x.card≤4∧x.key=0)∧(x.card=5→x.key=1∨x.key=2∨x.key=3∨x.key=4∨x.key=5∨x.key=7)
structure SzV (v:Val):Prop where
 t:v.text.size≤1048576
 l:v.list.length≤1048576
 p:v.pairs.length≤1048576
 s:v.slots.length≤1048576
 r:v.raws.length≤1048576
structure SzN (x:Nt):Prop where
 n:x.name.size≤1048576
 v:SzV x.val
abbrev HR(l:List Nt):Prop:=l.length≤1048576∧∀x∈l,SzN x
structure SzF (x:Fld):Prop where
 n:x.name.size≤1048576
 t:x.type.name.size≤1048576
 u:x.union.size≤1048576
 d:SzV x.dflt
 o:HR x.notes
structure SzM (x:Msg):Prop where
 n:x.name.size≤1048576
 fl:x.fields.length≤1048576
 f:∀y∈x.fields,SzF y
 r:x.reserved.length≤1048576
 gl:x.gone.length≤1048576
 g:∀y∈x.gone,y.size≤1048576
 o:HR x.notes
structure SzI (x:Itm):Prop where
 n:x.name.size≤1048576
 o:HR x.notes
structure SzE (x:Enm):Prop where
 n:x.name.size≤1048576
 il:x.items.length≤1048576
 i:∀y∈x.items,SzI y
 r:x.reserved.length≤1048576
 o:HR x.notes
structure SzT (x:Mth):Prop where
 n:x.name.size≤1048576
 o:HR x.notes
structure SzW (x:Svc):Prop where
 n:x.name.size≤1048576
 ml:x.methods.length≤1048576
 m:∀y∈x.methods,SzT y
 o:HR x.notes
structure SzS (x:Scm):Prop where
 ml:x.messages.length≤1048576
 m:∀y∈x.messages,SzM y
 el:x.enums.length≤1048576
 e:∀y∈x.enums,SzE y
 wl:x.services.length≤1048576
 w:∀y∈x.services,SzW y
theorem P0{v:Val}(h:AE (Ac v)≤1048576):SzV v:=by
 have a:=Ht (e:=Ag) v.list
 have b:=Ht (e:=Ax) v.pairs
 have c:=Ht (e:=Af) v.slots
 have d:=Ht (e:=Aj) v.raws
 simp only[Ac,AE,bk]at h
 constructor<;>omega
theorem Le{v:Val}(h:AE (Ac v)≤1048576):0≤v.bits∧v.bits≤18446744073709551615:=by
 simp only[Ac,AE,bk]at h
 have:=iR (k:=.u64) (n:=v.bits) (by omega)
 exact this
theorem Hm{n:Nat}(h:n≤2097152):n<Ar:=by unfold Ar;omega
def Zr(v:Val):Prop:=v.list=[]∧v.pairs=[]∧v.slots=[]∧v.raws=[]∧(v.kind=7∨v.kind=8→v.bits=0)∧(¬(v.kind=7∨v.kind=8)→v.text=⟨#[]⟩)
def Zn(n:Int)(v:Val):Prop:=1≤n∧n≤9∧v.kind=n∧Zr v
def QK(s:Scm)(f:Fld):Prop:=(f.type.kind=9→∃m∈s.enums,m.name=f.type.name)∧(f.type.kind=10→(∃m∈s.messages,m.name=f.type.name)∧f.card≠3)∧1≤f.type.kind∧f.type.kind≤10
def QL(f:Fld):Prop:=f.union≠⟨#[]⟩→f.card=2
def P4(f:Fld):Prop:=f.hasDefault=true→Zn f.type.kind f.dflt∧f.card=2∧f.union=⟨#[]⟩
def Xm(l:List Fld)(n:Nat):Prop:=∀(i:Nat) (a b:Fld),i+1<n→l[i]?=some a→l[i+1]?=some b→a.num<b.num
structure GdM0 (s:Scm) (m:Msg):Prop where
 asc:Xm m.fields m.fields.length
 df:∀(j:Nat) (f:Fld),m.fields[j]?=some f→P4 f∧P3 f∧QK s f∧QL f
def Zm(e:Enm):Prop:=∃x,e.items[0]?=some x∧x.num=0
structure GdM (s:Scm) (m:Msg):Prop where
 asc:Xm m.fields m.fields.length
 df:∀(j:Nat) (f:Fld),m.fields[j]?=some f→P4 f∧P3 f∧QK s f∧QL f
 en:∀(j:Nat) (e:Enm),s.enums[j]?=some e→Zm e
structure Few (s:Scm):Prop where
 m:s.messages.length≤150
 e:s.enums.length≤150
 w:s.services.length≤150
abbrev Bf(v:Val):Prop:=AE (Ac v)≤1048576
theorem Pe{v x:Val}(h:Bf v)(hx:x∈v.list):Bf x:=by
 have a:=Fr (e:=Ag) hx
 rw[Cu]at a
 unfold Bf at*
 conv at h=>unfold Ac
 simp only[AE,bk]at h
 omega
theorem Hx{v:Val}{x:Pr}(h:Bf v)(hx:x∈v.pairs):Bf x.key∧Bf x.val:=by
 have a:=Fr (e:=Ax) hx
 have e:Ax x=Ac x.key++Ac x.val:=by rw[Hu];rfl
 rw[e,KQ]at a
 unfold Bf at*
 conv at h=>unfold Ac
 simp only[AE,bk]at h
 omega
theorem Pi{v:Val}{x:Slt}(h:Bf v)(hx:x∈v.slots):Bf x.val:=by
 have a:=Fr (e:=Af) hx
 have e:Af x=D.int .i64 x.num::Ac x.val:=by rw[Hk];rfl
 rw[e,AE]at a
 unfold Bf at*
 conv at h=>unfold Ac
 simp only[AE,bk]at h
 omega
theorem jC{v x:Val}(hx:x∈v.list):AE (Ac x)<AE (Ac v):=by
 have a:=Fr (e:=Ag) hx
 rw[Cu]at a
 conv=>rhs;unfold Ac
 simp only[AE,bk]
 omega
theorem UN{v:Val}{x:Pr}(hx:x∈v.pairs):AE (Ac x.key)<AE (Ac v)∧AE (Ac x.val)<AE (Ac v):=by
 have b:=Fr (e:=Ax) hx
 have e:Ax x=Ac x.key++Ac x.val:=by rw[Hu];rfl
 rw[e,KQ]at b
 have a:AE (Ac v)=AE [.int .i64 v.kind,.int .u64 v.bits,.str v.text,.list (v.list.map Ag),.list (v.pairs.map Ax),.list (v.slots.map Af),.list (v.raws.map Aj)]:=rfl
 rw[a]
 simp only[AE,bk]
 omega
theorem je{v:Val}{x:Slt}(hx:x∈v.slots):AE (Ac x.val)<AE (Ac v):=by
 have a:=Fr (e:=Af) hx
 have e:Af x=D.int .i64 x.num::Ac x.val:=by rw[Hk];rfl
 rw[e,AE]at a
 have b:AE (Ac v)=AE [.int .i64 v.kind,.int .u64 v.bits,.str v.text,.list (v.list.map Ag),.list (v.pairs.map Ax),.list (v.slots.map Af),.list (v.raws.map Aj)]:=rfl
 rw[b]
 simp only[AE,bk]at a⊢
 omega
theorem Zf:∀(b:Nat) (v:Val) (a n:Int),Bf v→1≤a→42-a<b→a≤41→0≤n→n≤2000→Ok (fun y:Int=>-1≤y∧y≤2000) (DV b v a n)
 |0,v,a,n,h,j,k,l,o,p=>by omega
 |b+1,v,a,n,h,j,k,l,o,p=>by
  obtain⟨s1,s2,w,z,A⟩:=P0 h
  have R:∀(x:Val) (n:Int),Bf x→a≤40→0≤n→n≤2000→Ok (fun y:Int=>-1≤y∧y≤2000) (DV b x (a+1) n):=fun x n hx hl q g=>Zf b x (a+1) n hx (by omega) (by omega) (by omega) q g
  have r:Ok (Sum.elim Tr (fun y:Int=>y= -1)) (Av (Lu v a n (DV b)) Ar 0):=by
   refine Da (fun i:Nat=>i≤v.raws.length) (fun i:Nat=>v.raws.length-i) (by omega) (Hm (by omega)) fun i hi=>?_
   dsimp only[Lu,br,ix,vz,wg,vs,AI,ln,Aq,wa,Ah,ES,br]
   (repeat' (first|with_reducible (first|refine Bb (fun _=>?_) fun _=>?_|refine Bg ?_|refine I0 ?_ fun _ _ _=>?_|refine AO ?_ ?_)))<;>exact F5
  have s:∀m:Int,a≤40→ -1≤m→m≤2000→Ok (Sum.elim (fun y:Int=>-1≤y∧y≤2000) No) (Av (Ly v a (DV b)) Ar (m,0)):=by
   intro m hl hm f
   refine Da (fun i:Int×Nat=>i.2≤v.list.length∧ -1≤i.1∧i.1≤2000) (fun i:Int×Nat=>v.list.length-i.2) ⟨by omega,by omega,by omega⟩ (Hm (by omega)) fun i hi=>?_
   obtain⟨m,i⟩:=i
   obtain⟨d,e,c⟩:=hi
   dsimp only at d e c
   dsimp only[Ly,br,ix,vz,wg,vs,ln,Aq,cs,wa,wi,Ah,br]
   (repeat' (first|with_reducible (first|refine Bb (fun _=>?_) fun _=>?_|refine Bg ?_|refine I0 ?_ fun _ _ _=>?_)|(with_reducible apply Hj;(exact R _ _ (Pe h (by assumption)) hl CF c);intro _ _)|with_reducible refine AO ?_ ?_))<;>exact F5
  have t:∀m:Int,a≤40→ -1≤m→m≤2000→Ok (Sum.elim (fun y:Int=>-1≤y∧y≤2000) No) (Av (Lp v a (DV b)) Ar (m,0)):=by
   intro m hl hm f
   refine Da (fun i:Int×Nat=>i.2≤v.pairs.length∧ -1≤i.1∧i.1≤2000) (fun i:Int×Nat=>v.pairs.length-i.2) ⟨by omega,by omega,by omega⟩ (Hm (by omega)) fun i hi=>?_
   obtain⟨m,i⟩:=i
   obtain⟨d,e,c⟩:=hi
   dsimp only at d e c
   dsimp only[Lp,br,ix,vz,wg,vs,ln,Aq,cs,wa,wi,Ah,br]
   (repeat' (first|with_reducible (first|refine Bb (fun _=>?_) fun _=>?_|refine Bg ?_|refine I0 ?_ fun _ _ _=>?_)|(with_reducible apply Hj;(exact R _ _ (Hx h (by assumption)).1 hl CF c);intro _ _)|(with_reducible apply Hj;(exact R _ _ (Hx h (by assumption)).2 hl CF CF);intro _ _)|with_reducible refine AO ?_ ?_))<;>exact F5
  have u:∀m:Int,a≤40→ -1≤m→m≤2000→Ok (Sum.elim (fun y:Int=>-1≤y∧y≤2000) No) (Av (Lg v a (DV b)) Ar (m,0)):=by
   intro m hl hm f
   refine Da (fun i:Int×Nat=>i.2≤v.slots.length∧ -1≤i.1∧i.1≤2000) (fun i:Int×Nat=>v.slots.length-i.2) ⟨by omega,by omega,by omega⟩ (Hm (by omega)) fun i hi=>?_
   obtain⟨m,i⟩:=i
   obtain⟨d,e,c⟩:=hi
   dsimp only at d e c
   dsimp only[Lg,br,ix,vz,wg,vs,ln,Aq,cs,wa,wi,Ah,br]
   (repeat' (first|with_reducible (first|refine Bb (fun _=>?_) fun _=>?_|refine Bg ?_|refine I0 ?_ fun _ _ _=>?_)|(with_reducible apply Hj;(exact R _ _ (Pi h (by assumption)) hl CF c);intro _ _)|with_reducible refine AO ?_ ?_))<;>exact F5
  show Ok _ (Ma (DV b) v a n)
  dsimp only[Ma,br,vz,vy,wg,vs,lr,lc,wi,Ah,ES,br]
  (repeat' (first|with_reducible (first|refine Bb (fun _=>?_) fun _=>?_|refine Bg ?_)|(with_reducible apply GB;(exact r);all_goals(intro _ _;try dsimp only))|(with_reducible apply GB;(exact s _ CF CF CF);all_goals(intro _ _;try dsimp only))|(with_reducible apply GB;(exact t _ CF CF CF);all_goals(intro _ _;try dsimp only))|(with_reducible apply GB;(exact u _ CF CF CF);all_goals(intro _ _;try dsimp only))|with_reducible refine AO ?_ ?_))<;>exact F5
end Go.Proofs.YtifefgdogdecnaaGreatDoor
namespace Go.Proofs.YtifefgdogdecnaaGreatDoor
set_option linter.all false
open Go Go.Eng
set_option maxRecDepth 100000 in
theorem ku:Q3=some true:=by kernel_rfl
theorem Hi{n:Nat}(h:n<18446744073709551616):IntKind.u64.wrap (n:Int)=n:=by
 unfold IntKind.wrap
 have:(IntKind.u64.bits)=64:=rfl
 simp only[this,show IntKind.u64.signed=false from rfl,JV,Ye,Yq]
 omega
theorem Ho(n:Nat):BitVec.ofInt 64 (n:Int)=BitVec.ofNat 64 n:=BitVec.ofInt_natCast ..
theorem Om{n m:Nat}(a:n<18446744073709551616)(hm:m<18446744073709551616):BO .u64 (n:Int) (m:Int)=((n&&&m:Nat):Int):=by
 unfold BO
 have h:(BitVec.ofInt 64 (n:Int)&&&BitVec.ofInt 64 (m:Int)).toNat=n&&&m:=by
  rw[Ho,Ho,BitVec.toNat_and,Ij,Ij,Ge a,Ge hm]
 show IntKind.u64.wrap (((BitVec.ofInt 64 (n:Int)&&&BitVec.ofInt 64 (m:Int)).toNat:Nat):Int)=_
 rw[h]
 exact Hi (Nat.lt_of_le_of_lt Nat.and_le_left a)
theorem gT{n m:Nat}(a:n<18446744073709551616)(hm:m<18446744073709551616):DO .u64 (n:Int) (m:Int)=((n|||m:Nat):Int):=by
 unfold DO
 have h:(BitVec.ofInt 64 (n:Int)|||BitVec.ofInt 64 (m:Int)).toNat=n|||m:=by
  rw[Ho,Ho,BitVec.toNat_or,Ij,Ij,Ge a,Ge hm]
 show IntKind.u64.wrap (((BitVec.ofInt 64 (n:Int)|||BitVec.ofInt 64 (m:Int)).toNat:Nat):Int)=_
 rw[h]
 exact Hi (Nat.or_lt_two_pow (n:=64) a hm)
theorem dS{n:Nat}(a:n<18446744073709551616):FG .u64 (n:Int)=((18446744073709551615-n:Nat):Int):=by
 unfold FG HU
 have e:(if IntKind.u64.signed=true then(-1:Int)else IntKind.u64.max)=((18446744073709551615:Nat):Int):=rfl
 rw[e]
 have h:(BitVec.ofInt 64 ((18446744073709551615:Nat):Int)^^^BitVec.ofInt 64 (n:Int)).toNat=18446744073709551615-n:=by
  rw[Ho,Ho,show BitVec.ofNat 64 18446744073709551615=BitVec.allOnes 64 from rfl,BitVec.allOnes_xor,BitVec.toNat_not,Ij,Ge a]
 show IntKind.u64.wrap (((BitVec.ofInt 64 ((18446744073709551615:Nat):Int)^^^BitVec.ofInt 64 (n:Int)).toNat:Nat):Int)=_
 rw[h]
 exact Hi (by omega)
theorem fj(n:Nat):n&&&9218868437227405312=(n/4503599627370496%2048)*4503599627370496:=by
 have e:(9218868437227405312:Nat)=2047<<<52:=rfl
 have a:n/4503599627370496%2048*4503599627370496=((n>>>52)%2^11)<<<52:=by
  rw[Nat.shiftLeft_eq,Nat.shiftRight_eq_div_pow]
 rw[e,a]
 apply Nat.eq_of_testBit_eq
 intro i
 have b:(2047:Nat)=2^11-1:=rfl
 rw[Nat.testBit_and,QY,QY,Nat.testBit_mod_two_pow,Nat.testBit_shiftRight,b,Nat.testBit_two_pow_sub_one]
 by_cases h:52≤i
 ·rw[show 52+(i-52)=i by omega]
  simp only[h,YC,J4]
  rw[Bool.and_comm]
 ·simp[h]
theorem dY(n:Nat):n&&&4503599627370495=n%4503599627370496:=Nat.and_two_pow_sub_one_eq_mod n 52
theorem eE{n:Nat}(b:n<18446744073709551616):n&&&9223372036854775808=if 9223372036854775808≤n then 9223372036854775808 else 0:=by
 have e:(9223372036854775808:Nat)=2^63:=rfl
 have k:n.testBit 63=decide (9223372036854775808≤n):=by
  rw[Nat.testBit_eq_decide_div_mod_eq,decide_eq_decide]
  omega
 apply Nat.eq_of_testBit_eq
 intro i
 rw[Nat.testBit_and]
 by_cases hi:63=i
 ·subst hi
  rw[k]
  by_cases h:9223372036854775808≤n
  ·simp[h]
  ·simp[h]
 ·have a:Nat.testBit 9223372036854775808 i=false:=by
   rw[e,Nat.testBit_two_pow]
   exact DT hi
  rw[a,Bool.and_false]
  split
  ·exact a.symm
  ·simp
def GI(n:Nat):Bool:=decide (9218868437227405312<n%9223372036854775808)
theorem ky{n:Nat}(e:n<18446744073709551616):Ok (fun y:Int=>decide (y=0)=GI n) (NC (n:Int)):=by
 have a:=Om e (m:=9218868437227405312) (by omega)
 have b:=Om e (m:=4503599627370495) (by omega)
 rw[fj]at a
 rw[dY]at b
 have a:BO .u64 (n:Int) 9218868437227405312=_:=a
 have b:BO .u64 (n:Int) 4503599627370495=_:=b
 dsimp only[NC,br,vz,lr,br]
 rw[a,b]
 unfold GI
 have f:(((n/4503599627370496%2048*4503599627370496:Nat):Int)=9218868437227405312)↔n/4503599627370496%2048=2047:=by omega
 have g:(((n%4503599627370496:Nat):Int)=0)↔n%4503599627370496=0:=by omega
 have h:9218868437227405312<n%9223372036854775808↔n/4503599627370496%2048=2047∧n%4503599627370496≠0:=by omega
 simp only[f,g,h]
 by_cases c:n/4503599627370496%2048=2047
 ·by_cases d:n%4503599627370496=0
  ·simp only[c,d];exact Bg (by decide)
  ·simp only[c,d];exact Bg (by simp[d])
 ·have i:decide (n/4503599627370496%2048=2047)=false:=DT c
  simp only[i,c,JV,J3,YI,Ye,Yq]
  refine Bb (fun _=>Bg (by decide)) fun _=>Bb (fun _=>Bg (by decide)) fun _=>Bg (by decide)
theorem kW{n:Nat}(b:n<18446744073709551616):Ok (fun y:Int=>decide (y=0)=GI n) (M6 (n:Int)):=by
 have e:FV .u64 (n:Int) 9223372036854775808=((n%9223372036854775808:Nat):Int):=by
  unfold FV
  rw[Int.tmod_eq_emod_of_nonneg (by omega)]
  omega
 dsimp only[M6,br,lr,br,rem]
 rw[e]
 unfold GI
 have g:(9218868437227405312:Int)<((n%9223372036854775808:Nat):Int)↔9218868437227405312<n%9223372036854775808:=by omega
 simp only[g]
 by_cases h:9218868437227405312<n%9223372036854775808
 ·simp only[h];first|exact Bg (by decide)|simp
 ·have a:decide (9218868437227405312<n%9223372036854775808)=false:=DT h
  simp only[a,Ye,Yq]
  first
   |refine Bb (fun _=>Bg (by decide)) fun _=>Bb (fun _=>Bg (by decide)) fun _=>Bb (fun _=>Bg (by decide)) fun _=>Bg (by decide)
   |simp
def CE(n:Nat):Nat:=if GI n=true then 18446744073709551615 else if 9223372036854775808≤n then 18446744073709551615-n else n+9223372036854775808
theorem W6{n:Nat}(a:n<18446744073709551616):NB (n:Int)=some (CE n:Int):=by
 obtain⟨y,e,h⟩:=ky a
 have c:=Om a (m:=9223372036854775808) (by omega)
 rw[eE a]at c
 have c:BO .u64 (n:Int) 9223372036854775808=_:=c
 have d:=dS a
 have f:DO .u64 (n:Int) 9223372036854775808=((n|||9223372036854775808:Nat):Int):=gT a (m:=9223372036854775808) (by omega)
 dsimp only[NB,br,vz,lr,cl,br]
 rw[e,Yg,h,c,d,f]
 unfold CE
 cases GI n with
 |true=>rfl
 |false=>
  by_cases hs:9223372036854775808≤n
  ·simp[hs]
  ·have g:n|||9223372036854775808=n+9223372036854775808:=by
    have j:=Nat.two_pow_add_eq_or_of_lt (i:=63) (b:=n) (by omega) 1
    rw[Nat.or_comm]
    have k:9223372036854775808+n=9223372036854775808|||n:=j
    exact k.symm.trans (J6 _ _)
   simp[hs,g]
theorem Za{v:Val}{n:Nat}(i:n<18446744073709551616)(g:v.bits=(n:Int)):M7 v=some (if v.kind=2∨v.kind=3 then IntKind.u64.wrap ((n:Int)+9223372036854775808)else if v.kind=6 then(CE n:Int)else(n:Int)):=by
 obtain⟨y,e,h⟩:=kW i
 dsimp only[M7,Of,br,vz,wg,lr,cl,br,Q8,lr]
 rw[g]
 by_cases a:v.kind=2∨v.kind=3
 ·have b:(decide (v.kind=2)||decide (v.kind=3))=true:=by simpa using a
  simp only[b,a,Yx]
  rfl
 ·have b:(decide (v.kind=2)||decide (v.kind=3))=false:=by simpa using a
  simp only[b,a,Ye,Yq]
  by_cases f:v.kind=6
  ·have j:=Hi (n:=18446744073709551615-n) (by omega)
   simp only[f,YC,YR,Ye,Yq,e,Yg,h]
   unfold CE
   cases GI n with
   |true=>rfl
   |false=>
    by_cases hs:9223372036854775808≤n
    ·have c:(9223372036854775808:Int)≤(n:Int):=by omega
     have d:(18446744073709551615:Int)-(n:Int)=((18446744073709551615-n:Nat):Int):=by omega
     simp[hs,c,d,j]
    ·have c:¬(9223372036854775808:Int)≤(n:Int):=by omega
     have d:(n:Int)+9223372036854775808=((n+9223372036854775808:Nat):Int):=by omega
     have w2:=Hi (n:=n+9223372036854775808) (by omega)
     simp only[hs,c,d,w2,YI,Ye,Yq,Yx]
  ·simp[f]
def Bv(a b:Int):Int:=if a<b then -1 else if b<a then 1 else 0
theorem Gy(a b:Int):decide (Bv a b=0)=decide (a=b):=by
 unfold Bv
 by_cases h:a<b
 ·rw[Yj h,DT (by omega:¬a=b)];rfl
 ·rw[Yt h]
  by_cases c:b<a
  ·rw[Yj c,DT (by omega:¬a=b)];rfl
  ·rw[Yt c,Io (by omega:a=b)];rfl
theorem FM(a b:Int):Nh a b=some (Bv a b):=by
 dsimp only[Nh,br,lr,cl,br,RA,lr]
 unfold Bv
 by_cases h:a<b
 ·simp[h]
 ·by_cases c:b<a<;>simp[h,c]
theorem PH(a b:Int):Nn a b=some (Bv a b):=by
 dsimp only[Nn,br,lr,cl,br,Ra,lr]
 unfold Bv
 by_cases h:a<b
 ·simp[h]
 ·by_cases c:b<a<;>simp[h,c]
theorem FW(a b:Int):Nb a b=some (Bv a b):=by
 dsimp only[Nb,br,lr,br]
 unfold Bv
 by_cases h:a<b
 ·simp[h]
 ·by_cases c:b<a<;>simp[h,c]
def ER(a b:ByteArray):Int:=if A8 a b=true then -1 else if a=b then 0 else 1
theorem Lk(a b:ByteArray):decide (ER a b=0)=decide (a=b):=by
 unfold ER
 by_cases h:a=b
 ·subst h
  have:A8 a a=false:=by
   unfold A8
   rw[Go.Proofs.bytesLess_eq]
   exact DT (List.lt_irrefl _)
  simp[this]
 ·cases A8 a b<;>simp[h]
theorem WX(a b:ByteArray):Nq a b=some (ER a b):=by
 dsimp only[Nq,br,lr,cl,br,Rb,lr]
 unfold ER
 cases h:A8 a b with
 |true=>simp
 |false=>by_cases c:a=b<;>simp[c]
theorem kY{d x:Val}(z:1≤d.kind∧d.kind≤9)(o:Bf d)(p:Bf x)(he:d.kind=x.kind):Ok (fun c:Int=>decide (c=0)=(if d.kind=7∨d.kind=8 then decide (d.text=x.text)else if d.kind=6 then decide (CE d.bits.toNat=CE x.bits.toNat)else decide (d.bits=x.bits))) (Ke d x)∧Ok (fun c:Int=>decide (c=0)=(if d.kind=7∨d.kind=8 then decide (d.text=x.text)else if d.kind=6 then decide (CE d.bits.toNat=CE x.bits.toNat)else decide (d.bits=x.bits))) (Iy d x):=by
 obtain⟨n,m⟩:=QR (Le o).1
 obtain⟨k,l⟩:=QR (Le p).1
 have r:n<18446744073709551616:=by have:=(Le o).2;omega
 have q:k<18446744073709551616:=by have:=(Le p).2;omega
 have y:(decide (1≤d.kind)&&decide (d.kind≤9))=true:=by simp[z]
 obtain⟨E,f⟩:∃E,E=(if d.kind=7∨d.kind=8 then decide (d.text=x.text)else if d.kind=6 then decide (CE d.bits.toNat=CE x.bits.toNat)else decide (d.bits=x.bits)):=⟨_,rfl⟩
 rw[←f]
 have C:=Za r m
 have w:=Za q l
 rw[←he]at w
 have t:(decide (1≤x.kind)&&decide (x.kind≤9))=true:=by rw[←he];exact y
 have B:¬d.kind<x.kind:=by omega
 have A:¬x.kind<d.kind:=by omega
 dsimp only[Ke,br,vz,wg,lr,cl,br,NG,lr,Rs,lr,Iy,br,wg,lr,cl,br,Np,lr,Q9,lr]
 simp only[he,YC,YR,Ye,Yq,t,Yg,YI,Yx,Int.lt_irrefl]
 rw[←he]
 by_cases s:d.kind=7∨d.kind=8
 ·have i:(decide (d.kind=7)||decide (d.kind=8))=true:=by simpa using s
  rw[Yj s]at f
  simp only[i,Yx,J4,WX,Yg]
  refine⟨Bg (by rw[f];exact Lk _ _),?_⟩
  have e:(if A8 d.text x.text=true then some (-1:Int)else if(!(A8 d.text x.text||decide (d.text=x.text)))=true then some 1 else some 0)=some (ER d.text x.text):=by
   unfold ER
   cases h:A8 d.text x.text with
   |true=>simp
   |false=>by_cases u:d.text=x.text<;>simp[u]
  rw[e]
  exact Bg (by rw[f];exact Lk _ _)
 ·have i:(decide (d.kind=7)||decide (d.kind=8))=false:=by simpa using s
  rw[Yt s]at f
  simp only[i,Ye,Yq,JV,C,w,Yg]
  have rr:∀a b:Int,(if decide (a<b)=true then some (-1:Int)else if decide (b<a)=true then some 1 else some 0)=some (Bv a b):=fun a b=>by
   unfold Bv
   by_cases h:a<b
   ·simp[h]
   ·by_cases u:b<a<;>simp[h,u]
  rw[rr]
  by_cases hs:d.kind=2∨d.kind=3
  ·have g:(decide (d.kind=2)||decide (d.kind=3))=true:=by simpa using hs
   have j:¬d.kind=6:=by omega
   rw[Yt j]at f
   simp only[g,hs,Yx,FM,Yg]
   refine⟨Bg (by rw[f,Gy,decide_eq_decide,m,l,IntKind.wrap_i64,IntKind.wrap_i64];omega),Bg (by rw[f,Gy,decide_eq_decide,m,l];unfold IntKind.wrap;simp only[show IntKind.u64.bits=64 from rfl,show IntKind.u64.signed=false from rfl,JV,Ye,Yq];omega)⟩
  ·have g:(decide (d.kind=2)||decide (d.kind=3))=false:=by simpa using hs
   simp only[g,hs,Ye,Yq]
   by_cases j:d.kind=6
   ·rw[Yj j]at f
    have v:(CE d.bits.toNat=CE x.bits.toNat)↔((CE n:Int)=(CE k:Int)):=by rw[m,l];simp only[Il];omega
    simp only[j,YC,Yx,m,l,W6 r,W6 q,Yg,PH]
    exact⟨Bg (by rw[f,Gy,decide_eq_decide,v]),Bg (by rw[f,Gy,decide_eq_decide,v])⟩
   ·rw[Yt j]at f
    simp only[j,YI,Ye,Yq,PH,Yg]
    exact⟨Bg (by rw[f,Gy]),Bg (by rw[f,Gy,decide_eq_decide,m,l])⟩
end Go.Proofs.YtifefgdogdecnaaGreatDoor
