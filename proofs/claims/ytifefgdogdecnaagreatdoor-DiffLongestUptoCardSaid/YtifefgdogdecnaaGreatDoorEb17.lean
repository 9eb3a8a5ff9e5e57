import Derived.Test.YtifefgdogdecnaaGreatDoorEb16
import Derived.Test.YtifefgdogdecnaaGreatDoorEb08
import Derived.Test.YtifefgdogdecnaaGreatDoorRows
import Derived.WalkKit
import Derived.ProofKit
import Derived.OpenShut
import Derived.Carry
import Derived.Deep.DeepHandedRow
import Derived.Test.YtifefgdogdecnaaGreatDoorEb09
import Derived.Sort.Walk0
import Derived.Test.YtifefgdogdecnaaGreatDoorEb00
namespace Go.Proofs.YtifefgdogdecnaaGreatDoor
set_option maxRecDepth 100000
set_option linter.all false
open Go Go.Eng
abbrev Ik:Int→AV:=fun y=>vI y
def Wy(a:List Slt)(b:List Slt):Nat→St:=fun c=>Ab [(0,vL Ag a),(1,vL Ag b),(5,vN c)] []
def Wr(a:List Slt)(b:List Slt):Unit→Nat×St:=fun _=>(0,Ab [(0,vL Ag a),(1,vL Ag b)] [])
def HI(b:List Slt)(c:List Slt)(d:Cr):Nat→Option (Lv (Nat) (Unit) (Int)):=fun a=>(vz (Ah b)<|vy (decide ((a:Int)<(b.length:Int))) (Ah c)<|br (decide ((a:Int)<(b.length:Int))&&decide ((a:Int)<(c.length:Int))) (ix b a fun i=>ix c a fun j=>cl (FV i.num j.num) fun g=>br (!decide (g=(0:Int))) (AH Ik nG g) (ix b a fun e=>ix c a fun f=>cs Tryz.prog 20 [.agg ((Ac e.val).map .d),.agg ((Ac f.val).map .d)] [] [] (d e.val f.val) (fun y=>vI y) fun h=>br (!decide (h=(0:Int))) (AH Ik nG h) (vs (wa a 1)<|ln (Wy b c) (a+1)))) (Ap (Wr b c) ()):PT 0 _).m
def Kl(c:Cr)(a:List Slt)(b:List Slt):Option (Int):=(lc (Ab [(0,vL Ag a),(1,vL Ag b)] []) ((lc (Ab [(0,vL Ag a),(1,vL Ag b),(5,vI 0)] []) ((At (HI a b c) Aq 0).bind (Sum.elim (fun _=>(vz (Ah a)<|vz (Ah b)<|cl (FV (a.length:Int) (b.length:Int)) fun d=>lr Ik nG d:PT 0 _).m) some)):PT 0 _).m):PT 0 _).m
theorem iz{C:Cx}(co:CO C 0)(e:List Slt)(f:List Slt)(a:Cr)(d:GM a):KL Tryz.prog (Ay tl) 53 C (pa [0,0,1,0,1] (AB Tryz.f40)) [.tmp 4] 0 (Wy e f) (Wr e f) Ik nG (HI e f a):=fun n _ m Q h j L=>eN co (Am [0,1,5]) (Am [0,1]) j m L fun r g=>⟨fun k=>fun l=>fun o=>⟨id,fun b=>fun c=>⟨fun y hy i _ _=>by rw[(d b.val c.val).x,(d b.val c.val).e];exact(d b.val c.val).k _ i y hy,fun p=>⟨id,id⟩⟩⟩,id⟩
theorem PI(a:Cr)(d:GM a)(b:List Slt)(c:List Slt):KC Tryz.prog 40 [vL Ag b,vL Ag c] (Kl a b c) Ik:=kC Tryz.func40 Tryz.ntmps40 [.tmp 4] fun co m L=>mJ co 1 (Am [0,1]) nl nH m L fun r g=>fun _ m L=>sq (mJ co 1 (Am [0,1,5]) nl nH m L fun r g=>fun _ m L=>bk 0 (lo (AP (iz co b c a d) nH m L (fun _ m=>fO co m L))))
def Mn(c:Cr)(a:Val)(b:Val):Option (Int):=(wg<|wg<|br (!decide (a.kind=b.kind)) (wg<|wg<|cl (FV a.kind b.kind) fun e=>lr Em nG e) (wg<|br (decide (a.kind=(11:Int))) (wg<|wg<|cs Tryz.prog 38 [vL Af a.list,vL Af b.list] [] [] (Km c a.list b.list) (fun y=>vI y) fun f=>lr Em nG f) (br (decide (a.kind=(12:Int))) (wg<|wg<|cs Tryz.prog 39 [vL Ax a.pairs,vL Ax b.pairs] [] [] (Kn c a.pairs b.pairs) (fun y=>vI y) fun g=>lr Em nG g) (br (decide (a.kind=(10:Int))) (wg<|wg<|cs Tryz.prog 40 [vL Ag a.slots,vL Ag b.slots] [] [] (Kl c a.slots b.slots) (fun y=>vI y) fun d=>br (!decide (d=(0:Int))) (lr Em nG d) (wg<|wg<|cl (kW a.raws b.raws) fun h=>lr Em nG h)) (wg<|wg<|cl (l9 a b) fun i=>lr Em nG i)))):PT 0 _).m
theorem jB(a:Cr)(d:GM a)(b:Val)(c:Val):KC Tryz.prog 20 [.agg ((Ac b).map .d),.agg ((Ac c).map .d)] (Mn a b c) Em:=Ci Tryz.func20 Tryz.ntmps20 AM [.tmp 4] fun C co y m f L=>fO co m L fun r g=>⟨fun h=>id,⟨⟨fun y hy e _ _=>by rw[(PZ a d b.list c.list).x,(PZ a d b.list c.list).e];exact(PZ a d b.list c.list).k _ e y hy,fun i=>id⟩,⟨⟨fun y hy e _ _=>by rw[(PU a d b.pairs c.pairs).x,(PU a d b.pairs c.pairs).e];exact(PU a d b.pairs c.pairs).k _ e y hy,fun j=>id⟩,⟨⟨fun y hy e _ _=>by rw[(PI a d b.slots c.slots).x,(PI a d b.slots c.slots).e];exact(PI a d b.slots c.slots).k _ e y hy,fun k=>⟨id,fun l=>id⟩⟩,fun n=>id⟩⟩⟩⟩
def IG:Nat→Val→Val→Option (Int)
 |0=>fun _ _=>none
 |a+1=>Mn (IG a)
theorem XY:∀(c:Nat) (a:Val) (b:Val),KC Tryz.prog 20 [.agg ((Ac a).map .d),.agg ((Ac b).map .d)] (IG c a b) Em
 |0,a,b=>⟨fun _ _ _ h=>(by cases h),by intro r;kernel_rfl,by intro r y;kernel_rfl⟩
 |c+1,a,b=>jB (IG c) (XY c) a b
abbrev E9:Bool→AV:=fun y=>vB y
def Db(a:Val)(b:Val):Option (Bool):=(wg<|wg<|cl (XY Aq a b) fun c=>lr E9 nG (decide (c=(0:Int))):PT 0 _).m
theorem In(a:Val)(b:Val):KC Tryz.prog 9 [.agg ((Ac a).map .d),.agg ((Ac b).map .d)] (Db a b) E9:=kC Tryz.func9 Tryz.ntmps9 [.tmp 4] fun co m L=>fO co m L
abbrev FW:List (Aa×Bool):=[((1,18),true)]
abbrev JO:List Int→AV:=fun y=>vL A8 y
def Vs(c:List Val)(a:List Val):Int×List Int→St:=fun(d,b)=>Ab [(0,vL Af c),(1,vL Af a),(5,vN (a.length+1)),(6,.ref (1,18) 0 0 b.length),(7,vI d)] [kk 18 3 1 (Ad A8 b)]
def VL:List Int→Nat×St:=fun a=>(0,Ab [(6,.ref (1,18) 0 0 a.length)] [kk 18 3 1 (Ad A8 a)])
def Jo(c:List Val)(a:List Val)(d:Int):Int×List Int→St:=fun(v3,b)=>Ab [(0,vL Af c),(1,vL Af a),(5,vN (a.length+1)),(6,.ref (1,18) 0 0 b.length),(7,vI d),(8,vI v3)] [kk 18 3 1 (Ad A8 b)]
def Xa(c:List Val)(b:List Val)(d:Int):List Int→Nat×St:=fun a=>(2,Ab [(0,vL Af c),(1,vL Af b),(5,vN (b.length+1)),(6,.ref (1,18) 0 0 a.length),(7,vI d)] [kk 18 3 1 (Ad A8 a)])
def Jk(f:List Val)(b:List Val)(a:Int):Int×List Int→Option (Lv (Int×List Int) (List Int) (List Int)):=fun(v3,c)=>(br (decide ((0:Int)≤v3)) (vs (wi (a+1))<|vs (wi ((a+1)*((b.length+1:Nat):Int)))<|vs (wi (((a+1)*((b.length+1:Nat):Int))+v3))<|vs (CZ (((a+1)*((b.length+1:Nat):Int))+v3) c.length 1)<|ca c (((a+1)*((b.length+1:Nat):Int))+v3).toNat fun g=>vs (wi (a*((b.length+1:Nat):Int)))<|vs (wi ((a*((b.length+1:Nat):Int))+v3))<|vs (wi (((a*((b.length+1:Nat):Int))+v3)+1))<|vs (CZ (((a*((b.length+1:Nat):Int))+v3)+1) c.length 1)<|ca c (((a*((b.length+1:Nat):Int))+v3)+1).toNat fun m=>br (decide (g<m)) (vs (wi (a*((b.length+1:Nat):Int)))<|vs (wi ((a*((b.length+1:Nat):Int))+v3))<|vs (wi (((a*((b.length+1:Nat):Int))+v3)+1))<|vs (CZ (((a*((b.length+1:Nat):Int))+v3)+1) c.length 1)<|ca c (((a*((b.length+1:Nat):Int))+v3)+1).toNat fun h=>DP f a fun n=>DP b v3 fun o=>cl (In n o) fun k=>br k (vs (wi (a+1))<|vs (wi ((a+1)*((b.length+1:Nat):Int)))<|vs (wi (((a+1)*((b.length+1:Nat):Int))+v3))<|vs (wi ((((a+1)*((b.length+1:Nat):Int))+v3)+1))<|vs (CZ ((((a+1)*((b.length+1:Nat):Int))+v3)+1) c.length 1)<|ca c ((((a+1)*((b.length+1:Nat):Int))+v3)+1).toNat fun d=>vs (wi (d+1))<|vs (wi (a*((b.length+1:Nat):Int)))<|vs (wi ((a*((b.length+1:Nat):Int))+v3))<|vs (CZ ((a*((b.length+1:Nat):Int))+v3) c.length 1)<|vs (st c ((a*((b.length+1:Nat):Int))+v3).toNat ((d+1):Int))<|rn 6 18 c.length (c.set ((a*((b.length+1:Nat):Int))+v3).toNat (d+1))<|vw .sep<|vs (wi (v3-1))<|vz (fl (c.set ((a*((b.length+1:Nat):Int))+v3).toNat (d+1)))<|ln (Jo f b a) ((v3-1),c.set ((a*((b.length+1:Nat):Int))+v3).toNat (d+1))) (vs (wi (a*((b.length+1:Nat):Int)))<|vs (wi ((a*((b.length+1:Nat):Int))+v3))<|vs (CZ ((a*((b.length+1:Nat):Int))+v3) c.length 1)<|vs (st c ((a*((b.length+1:Nat):Int))+v3).toNat h)<|rn 6 18 c.length (c.set ((a*((b.length+1:Nat):Int))+v3).toNat h)<|vw .sep<|vs (wi (v3-1))<|vz (fl (c.set ((a*((b.length+1:Nat):Int))+v3).toNat h))<|ln (Jo f b a) ((v3-1),c.set ((a*((b.length+1:Nat):Int))+v3).toNat h))) (DP f a fun i=>DP b v3 fun j=>cl (In i j) fun l=>br l (vs (wi (a+1))<|vs (wi ((a+1)*((b.length+1:Nat):Int)))<|vs (wi (((a+1)*((b.length+1:Nat):Int))+v3))<|vs (wi ((((a+1)*((b.length+1:Nat):Int))+v3)+1))<|vs (CZ ((((a+1)*((b.length+1:Nat):Int))+v3)+1) c.length 1)<|ca c ((((a+1)*((b.length+1:Nat):Int))+v3)+1).toNat fun e=>vs (wi (e+1))<|vs (wi (a*((b.length+1:Nat):Int)))<|vs (wi ((a*((b.length+1:Nat):Int))+v3))<|vs (CZ ((a*((b.length+1:Nat):Int))+v3) c.length 1)<|vs (st c ((a*((b.length+1:Nat):Int))+v3).toNat ((e+1):Int))<|rn 6 18 c.length (c.set ((a*((b.length+1:Nat):Int))+v3).toNat (e+1))<|vw .sep<|vs (wi (v3-1))<|vz (fl (c.set ((a*((b.length+1:Nat):Int))+v3).toNat (e+1)))<|ln (Jo f b a) ((v3-1),c.set ((a*((b.length+1:Nat):Int))+v3).toNat (e+1))) (vs (wi (a*((b.length+1:Nat):Int)))<|vs (wi ((a*((b.length+1:Nat):Int))+v3))<|vs (CZ ((a*((b.length+1:Nat):Int))+v3) c.length 1)<|vs (st c ((a*((b.length+1:Nat):Int))+v3).toNat g)<|rn 6 18 c.length (c.set ((a*((b.length+1:Nat):Int))+v3).toNat g)<|vw .sep<|vs (wi (v3-1))<|vz (fl (c.set ((a*((b.length+1:Nat):Int))+v3).toNat g))<|ln (Jo f b a) ((v3-1),c.set ((a*((b.length+1:Nat):Int))+v3).toNat g)))) (vz (fl c)<|Ap (Xa f b a) c):PT 0 _).m
def Jh(e:List Val)(a:List Val):Int×List Int→Option (Lv (Int×List Int) (List Int) (List Int)):=fun(c,b)=>(br (decide ((0:Int)≤c)) (vz (fl b)<|lc (Ab [(0,vL Af e),(1,vL Af a),(5,vN (a.length+1)),(6,.ref (1,18) 0 0 b.length),(7,vI c)] [kk 18 3 1 (Ad A8 b)]) ((vz (Ah a)<|vs (wi ((a.length:Int)-1))<|vz (fl b)<|lc (Ab [(0,vL Af e),(1,vL Af a),(5,vN (a.length+1)),(6,.ref (1,18) 0 0 b.length),(7,vI c),(8,vI ((a.length:Int)-1))] [kk 18 3 1 (Ad A8 b)]) ((At (Jk e a c) Aq (((a.length:Int)-1),b)).bind (Sum.elim (fun d=>(vs (wi (c-1))<|vz (fl d)<|ln (Vs e a) ((c-1),d):PT 0 _).m) (fun z=>some (.rt z)))):PT 0 _).m)) (vz (fl b)<|Ap (VL) b):PT 0 _).m
def NA(a:List Val)(b:List Val):Option (List Int):=(vz (Ah b)<|vs (wa b.length 1)<|vz (Ah a)<|vs (wa a.length 1)<|vs (wm (a.length+1) (b.length+1))<|ms ((a.length+1)*(b.length+1)) (0:Int) [vI 0] (by first|rfl|kernel_rfl)<|vz (fl (List.replicate ((a.length+1)*(b.length+1)) (0:Int)))<|lc (Ab [(0,vL Af a),(1,vL Af b),(5,vN (b.length+1)),(6,.ref (1,18) 0 0 (List.replicate ((a.length+1)*(b.length+1)) (0:Int)).length)] [kk 18 3 1 (Ad A8 (List.replicate ((a.length+1)*(b.length+1)) (0:Int)))]) ((vz (Ah a)<|vs (wi ((a.length:Int)-1))<|vz (fl (List.replicate ((a.length+1)*(b.length+1)) (0:Int)))<|lc (Ab [(0,vL Af a),(1,vL Af b),(5,vN (b.length+1)),(6,.ref (1,18) 0 0 (List.replicate ((a.length+1)*(b.length+1)) (0:Int)).length),(7,vI ((a.length:Int)-1))] [kk 18 3 1 (Ad A8 (List.replicate ((a.length+1)*(b.length+1)) (0:Int)))]) ((At (Jh a b) Aq (((a.length:Int)-1),List.replicate ((a.length+1)*(b.length+1)) (0:Int))).bind (Sum.elim (fun c=>(vz (fr c)<|lr JO nG c:PT 0 _).m) some)):PT 0 _).m):PT 0 _).m
theorem iD{C:Cx}(co:CO C 0)(a:List Val)(b:List Val)(c:Int):KL Tryz.prog (Ay tl) 91 C (pa [0,0,1,0,0,1,0,0,1,0,1,1,1] (AB Tryz.f19)) [.tmp 4] 0 (Jo a b c) (Xa a b c) JO nG (Jk a b c):=fun(v3,f) _ m Q d e L=>eN co (Ai [0,1,5,6,7,8] FW) (Ai [0,1,5,6,7] FW) e m L
theorem gu{C:Cx}(co:CO C 0)(b:List Val)(c:List Val):KL Tryz.prog (Ay tl) 91 C (pa [0,0,1,0,1,1,1] (AB Tryz.f19)) [.tmp 4] 0 (Vs b c) (VL) JO nG (Jh b c):=fun(f,h) _ m Q d a L=>mJ co 1 (Ai [0,1,5,6,7] FW) (Ai [6] FW) a m L fun r g=>⟨fun _ m L=>sq (bk 1 (mJ co 1 (Ai [0,1,5,6,7,8] FW) nl a m L fun r g=>fun _ m L=>bk 2 (lo (ZI (iD co b c f) a m L (fun e m=>eN co (Ai [0,1,5,6,7] FW) nl a m L))))),id⟩
theorem lW(a:List Val)(b:List Val):KC Tryz.prog 19 [vL Af a,vL Af b] (NA a b) JO:=kC Tryz.func19 Tryz.ntmps19 [.tmp 4] fun co m L=>mJ co 3 (Ai [0,1,5,6] FW) nl nH m L fun r g=>fun _ m L=>sq (mJ co 1 (Ai [0,1,5,6,7] FW) nl nH m L fun r g=>fun _ m L=>bk 0 (lo (AP (gu co a b) nH m L (fun c m=>fO co m L))))
abbrev E8:List P2→AV:=fun y=>vL CG y
def PF(c:List Val)(a:List Val)(d:List Int):List P2×Nat×Nat→St:=fun(b,v3,v4)=>Ab [(0,vL Af c),(1,vL Af a),(5,vL A8 d),(6,vN (a.length+1)),(7,.ref (1,7) 0 0 b.length),(8,vN v3),(9,vN v4)] [kk 7 27 2 (Ad CG b)]
def lZ:List P2→Nat×St:=fun a=>(0,Ab [(7,.ref (1,7) 0 0 a.length)] [kk 7 27 2 (Ad CG a)])
def P1(c:List Val)(a:List Val)(d:List Int):List P2×Nat×Nat→Option (Lv (List P2×Nat×Nat) (List P2) (List P2)):=fun(b,v3,v4)=>(vz (Ah c)<|vy (decide ((v3:Int)<(c.length:Int))) (Ah a)<|br (decide ((v3:Int)<(c.length:Int))&&decide ((v4:Int)<(a.length:Int))) (ix c v3 fun e=>ix a v4 fun f=>cl (In e f) fun i=>br i (vw .sep<|vw .sep<|ap b ((.mk (v3:Int) (v4:Int):P2):P2)<|vs (wa v3 1)<|vs (wa v4 1)<|vz (fl (b++([(.mk (v3:Int) (v4:Int):P2)])))<|ln (PF c a d) (b++([(.mk (v3:Int) (v4:Int):P2)]),v3+1,v4+1)) (vs (wa v3 1)<|vs (wm (v3+1) (a.length+1))<|vs (wa ((v3+1)*(a.length+1)) v4)<|ix d (((v3+1)*(a.length+1))+v4) fun g=>vs (wm v3 (a.length+1))<|vs (wa (v3*(a.length+1)) v4)<|vs (wa ((v3*(a.length+1))+v4) 1)<|ix d (((v3*(a.length+1))+v4)+1) fun h=>br (decide (h≤g)) (vs (wa v3 1)<|vz (fl b)<|ln (PF c a d) (b,v3+1,v4)) (vs (wa v4 1)<|vz (fl b)<|ln (PF c a d) (b,v3,v4+1)))) (vz (fl b)<|Ap (lZ) b):PT 0 _).m
def Rx(c:List Val)(a:List Val):Option (List P2):=(cl (lW c a) fun d=>vz (Ah a)<|vs (wa a.length 1)<|lc (Ab [(0,vL Af c),(1,vL Af a),(5,vL A8 d),(6,vN (a.length+1)),(7,.e0),(8,vI 0),(9,vI 0)] []) ((vw (.ads 7 7 27 2)<|vz (fl ([]:List P2))<|lc (Ab [(0,vL Af c),(1,vL Af a),(5,vL A8 d),(6,vN (a.length+1)),(7,.ref (1,7) 0 0 ([]:List P2).length),(8,vI 0),(9,vI 0)] [kk 7 27 2 (Ad CG ([]:List P2))]) ((At (P1 c a d) Aq (([]:List P2),0,0)).bind (Sum.elim (fun b=>(vz (fr b)<|lr E8 nG b:PT 0 _).m) some)):PT 0 _).m):PT 0 _).m
abbrev FL:List (Aa×Bool):=[((1,13),true)]
abbrev JM:Int→AV:=fun y=>vI y
def WE(b:List Val)(c:List Val):Nat×List Int→St:=fun(d,a)=>Ab [(0,vL Af b),(1,vL Af c),(5,.ref (1,13) 0 0 a.length),(6,vN d)] [kk 13 3 1 (Ad A8 a)]
def WR(b:List Val):List Int→Nat×St:=fun a=>(0,Ab [(1,vL Af b),(5,.ref (1,13) 0 0 a.length)] [kk 13 3 1 (Ad A8 a)])
def LG(b:List Val)(c:List Val)(d:Nat):Int×Nat×List Int→St:=fun(v3,v4,a)=>Ab [(0,vL Af b),(1,vL Af c),(5,.ref (1,13) 0 0 a.length),(6,vN d),(7,vI v3),(8,vN v4)] [kk 13 3 1 (Ad A8 a)]
def Vt(b:List Val)(c:List Val)(d:Nat):List Int→Nat×St:=fun a=>(2,Ab [(0,vL Af b),(1,vL Af c),(5,.ref (1,13) 0 0 a.length),(6,vN d)] [kk 13 3 1 (Ad A8 a)])
def LF(d:List Val)(c:List Val)(e:Nat):Int×Nat×List Int→Option (Lv (Int×Nat×List Int) (List Int) (Int)):=fun(v3,v4,a)=>(vz (Ah c)<|br (decide ((v4:Int)<(c.length:Int))) (vs (wa v4 1)<|vs (ir (v4+1) a.length 1)<|ca a (v4+1) fun h=>ix d e fun i=>ix c v4 fun j=>cl (In i j) fun k=>br k (vs (wa v4 1)<|vs (wi (v3+1))<|vs (ir (v4+1) a.length 1)<|vs (st a (v4+1) ((v3+1):Int))<|rn 5 13 a.length (a.set (v4+1) (v3+1))<|vw .sep<|vs (wa v4 1)<|vz (fl (a.set (v4+1) (v3+1)))<|ln (LG d c e) (h,v4+1,a.set (v4+1) (v3+1))) (vs (ir v4 a.length 1)<|ca a v4 fun f=>vs (wa v4 1)<|vs (ir (v4+1) a.length 1)<|ca a (v4+1) fun g=>br (decide (g<f)) (vs (wa v4 1)<|vs (ir v4 a.length 1)<|ca a v4 fun b=>vs (ir (v4+1) a.length 1)<|vs (st a (v4+1) b)<|rn 5 13 a.length (a.set (v4+1) b)<|vw .sep<|vs (wa v4 1)<|vz (fl (a.set (v4+1) b))<|ln (LG d c e) (h,v4+1,a.set (v4+1) b)) (vs (wa v4 1)<|vz (fl a)<|ln (LG d c e) (h,v4+1,a)))) (vz (fl a)<|Ap (Vt d c e) a):PT 0 _).m
def LC(b:List Val)(d:List Val):Nat×List Int→Option (Lv (Nat×List Int) (List Int) (Int)):=fun(c,a)=>(vz (Ah b)<|br (decide ((c:Int)<(b.length:Int))) (vz (fl a)<|lc (Ab [(0,vL Af b),(1,vL Af d),(5,.ref (1,13) 0 0 a.length),(6,vN c)] [kk 13 3 1 (Ad A8 a)]) ((vz (fl a)<|lc (Ab [(0,vL Af b),(1,vL Af d),(5,.ref (1,13) 0 0 a.length),(6,vN c),(7,vI 0),(8,vI 0)] [kk 13 3 1 (Ad A8 a)]) ((At (LF b d c) Aq (0,0,a)).bind (Sum.elim (fun e=>(vs (wa c 1)<|vz (fl e)<|ln (WE b d) (c+1,e):PT 0 _).m) (fun z=>some (.rt z)))):PT 0 _).m)) (vz (fl a)<|Ap (WR d) a):PT 0 _).m
def Ko(d:List Val)(a:List Val):Option (Int):=(vz (Ah a)<|vs (wa a.length 1)<|ms (a.length+1) (0:Int) [vI 0] (by first|rfl|kernel_rfl)<|vz (fl (List.replicate (a.length+1) (0:Int)))<|lc (Ab [(0,vL Af d),(1,vL Af a),(5,.ref (1,13) 0 0 (List.replicate (a.length+1) (0:Int)).length)] [kk 13 3 1 (Ad A8 (List.replicate (a.length+1) (0:Int)))]) ((vz (fl (List.replicate (a.length+1) (0:Int)))<|lc (Ab [(0,vL Af d),(1,vL Af a),(5,.ref (1,13) 0 0 (List.replicate (a.length+1) (0:Int)).length),(6,vI 0)] [kk 13 3 1 (Ad A8 (List.replicate (a.length+1) (0:Int)))]) ((At (LC d a) Aq (0,List.replicate (a.length+1) (0:Int))).bind (Sum.elim (fun b=>(vz (Ah a)<|vs (ir a.length b.length 1)<|ca b a.length fun c=>lr JM nG c:PT 0 _).m) some)):PT 0 _).m):PT 0 _).m
theorem fC{C:Cx}(co:CO C 0)(a:List Val)(b:List Val)(c:Nat):KL Tryz.prog (Ay tl) 70 C (pa [0,0,1,1,0,0,1,0,0,1,0,1,1] (AB Tryz.f10)) [.tmp 4] 0 (LG a b c) (Vt a b c) JM nG (LF a b c):=fun(v3,v4,f) _ m Q d e L=>eN co (Ai [0,1,5,6,7,8] FL) (Ai [0,1,5,6] FL) e m L
theorem fS{C:Cx}(co:CO C 0)(c:List Val)(b:List Val):KL Tryz.prog (Ay tl) 70 C (pa [0,0,1,0,1,1] (AB Tryz.f10)) [.tmp 4] 0 (WE c b) (WR b) JM nG (LC c b):=fun(f,h) _ m Q d a L=>mJ co 1 (Ai [0,1,5,6] FL) (Ai [1,5] FL) a m L fun r g=>⟨fun _ m L=>sq (bk 1 (mJ co 2 (Ai [0,1,5,6,7,8] FL) nl a m L fun r g=>fun _ m L=>bk 2 (lo (ZI (fC co c b f) a m L (fun e m=>eN co (Ai [0,1,5,6] FL) nl a m L))))),id⟩
theorem lK(a:List Val)(b:List Val):KC Tryz.prog 10 [vL Af a,vL Af b] (Ko a b) JM:=kC Tryz.func10 Tryz.ntmps10 [.tmp 4] fun co m L=>mJ co 2 (Ai [0,1,5] FL) nl nH m L fun r g=>fun _ m L=>sq (mJ co 1 (Ai [0,1,5,6] FL) nl nH m L fun r g=>fun _ m L=>bk 0 (lo (AP (fS co a b) nH m L (fun c m=>fO co m L))))
abbrev E4:Bool→AV:=fun y=>vB y
def XG(a:List Val)(b:List Val)(c:List P2):Nat→St:=fun v5=>Ab [(0,vL Af a),(1,vL Af b),(5,vL CG c),(6,vN v5)] []
def Zp(a:List Val)(b:List Val)(c:List P2):Unit→Nat×St:=fun _=>(0,Ab [(0,vL Af a),(1,vL Af b),(5,vL CG c)] [])
def LZ(c:List Val)(d:List Val)(e:List P2):Nat→Option (Lv (Nat) (Unit) (Bool)):=fun v5=>(vz (Ah e)<|br (decide ((v5:Int)<(e.length:Int))) (ix e v5 fun a=>ix e v5 fun b=>vy (!(decide (a.a<(0:Int)))) (Ah c)<|vy (!((decide (a.a<(0:Int))||decide ((c.length:Int)≤a.a))||decide (b.b<(0:Int)))) (Ah d)<|vg ((!(((decide (a.a<(0:Int))||decide ((c.length:Int)≤a.a))||decide (b.b<(0:Int)))||decide ((d.length:Int)≤b.b)))&&decide ((0:Int)<(v5:Int))) (wi ((v5:Int)-1))<|Dr ((!(((decide (a.a<(0:Int))||decide ((c.length:Int)≤a.a))||decide (b.b<(0:Int)))||decide ((d.length:Int)≤b.b)))&&decide ((0:Int)<(v5:Int))) e ((v5:Int)-1) fun h=>vg (((!(((decide (a.a<(0:Int))||decide ((c.length:Int)≤a.a))||decide (b.b<(0:Int)))||decide ((d.length:Int)≤b.b)))&&decide ((0:Int)<(v5:Int)))&&(!(decide (a.a≤h.a)))) (wi ((v5:Int)-1))<|Dr (((!(((decide (a.a<(0:Int))||decide ((c.length:Int)≤a.a))||decide (b.b<(0:Int)))||decide ((d.length:Int)≤b.b)))&&decide ((0:Int)<(v5:Int)))&&(!(decide (a.a≤h.a)))) e ((v5:Int)-1) fun j=>br ((((decide (a.a<(0:Int))||decide ((c.length:Int)≤a.a))||decide (b.b<(0:Int)))||decide ((d.length:Int)≤b.b))||(decide ((0:Int)<(v5:Int))&&(decide (a.a≤h.a)||decide (b.b≤j.b)))) (AH E4 nG false) (DP c a.a fun f=>DP d b.b fun g=>cl (In f g) fun i=>br (!i) (AH E4 nG false) (vs (wa v5 1)<|ln (XG c d e) (v5+1)))) (Ap (Zp c d e) ()):PT 0 _).m
def Nz(a:List Val)(b:List Val):Option (Bool):=(cl (Q0 a) fun f=>Ct (!(!f)) (Q0 b) fun g=>br ((!f)||(!g)) (cl (Q1) fun h=>lr E4 nG h) (cl (Q3 a b) fun c=>lc (Ab [(0,vL Af a),(1,vL Af b),(5,vL CG c)] []) ((lc (Ab [(0,vL Af a),(1,vL Af b),(5,vL CG c),(6,vI 0)] []) ((At (LZ a b c) Aq 0).bind (Sum.elim (fun _=>(vz (Ah c)<|cl (lK a b) fun d=>Ct (decide ((c.length:Int)=d)) (Q1) fun e=>lr E4 nG (decide ((c.length:Int)=d)&&e):PT 0 _).m) some)):PT 0 _).m)):PT 0 _).m
theorem iO{C:Cx}(co:CO C 0)(a:List Val)(b:List Val)(c:List P2):KL Tryz.prog (Ay tl) 98 C (pa [0,0,1,0,1,1,1] (AB Tryz.f4)) [.tmp 4] 0 (XG a b c) (Zp a b c) E4 nG (LZ a b c):=fun v5 _ m Q d e L=>eN co (Am [0,1,5,6]) (Am [0,1,5]) e m L
theorem ZT(a:List Val)(b:List Val):KC Tryz.prog 4 [vL Af a,vL Af b] (Nz a b) E4:=kC Tryz.func4 Tryz.ntmps4 [.tmp 4] fun co m L=>mJ co 3 (Am [0,1,5]) nl nH m L fun r g=>fun d=>fun e=>⟨fun f=>id,fun c=>fun _ m L=>sq (mJ co 1 (Am [0,1,5,6]) nl nH m L fun r g=>fun _ m L=>bk 0 (lo (AP (iO co a b c) nH m L (fun _ m=>fO co m L))))⟩
end Go.Proofs.YtifefgdogdecnaaGreatDoor
namespace Go.Proofs.YtifefgdogdecnaaGreatDoor
set_option linter.all false
open Go Go.Eng
end Go.Proofs.YtifefgdogdecnaaGreatDoor
namespace Go.Proofs.YtifefgdogdecnaaGreatDoor
set_option linter.all false
open Go Go.Eng Go.ChangeShapes Go.WideShapes Go.ChangeAt Go.RowKit
theorem fj{H:Type}(b:List UInt8):Rows.uptoBulk (DataW.lit (H:=H) (.string b))=b.length+1:=by simp only[Rows.uptoBulk]
theorem cC{H:Type}(a b:List (DataW H)):Rows.uptoBulk (.slice a b)=Rows.uptoBulkAll a+Rows.uptoBulkAll b+1:=by simp only[Rows.uptoBulk]
theorem dB{H:Type}(a:List (DataW H)):Rows.uptoBulk (.agg a)=Rows.uptoBulkAll a+1:=by simp only[Rows.uptoBulk]
def FG(W:World)(ds:List D)(cs:List Value)(o:Nat):Prop:=∀(i:Nat) (d:D),ds[i]?=some d→∃c,cs[o+i]?=some c∧RepD W (· <W.heap.size) d c
def GI(W:World)(ds:List D)(cs:List Value):Prop:=ds.length=cs.length∧FG W ds cs 0
theorem FG.app{W:World}{ds a:List D}{cs:List Value}{o:Nat}(h:FG W ds cs o)(k:FG W a cs (o+ds.length)):FG W (ds++a) cs o:=fun i d hi=>by
 rcases Yw i ds.length with hl|hl
 ·rw[Yn hl]at hi;exact h i d hi
 ·rw[Ys hl]at hi
  obtain⟨c,b,e⟩:=k _ d hi
  grind
theorem FG.nil{W:World}{cs:List Value}{o:Nat}:FG W [] cs o:=fun i d h=>by simp at h
theorem GI.at{W:World}{ds:List D}{cs:List Value}{o k:Nat}(h:GI W ds ((cs.drop o).take k)):FG W ds cs o:=fun i d hi=>by
 obtain⟨c,a,b⟩:=h.2 i d hi
 grind
def rk(k:IntKind)(n:Int):Nat:=if Lit.wf (.int k n)=true then 0 else 1000000000000
theorem kj{k:IntKind}{n:Int}(h:rk k n≤1048576):k.min≤n∧n≤k.max:=by
 unfold rk at h
 split at h
 ·rename_i a
  unfold Lit.wf at a
  rw[Yc]at a
  exact⟨Fj a.1,Fj a.2⟩
 ·omega
mutual
def bk:D→Nat
 |.int k n=>rk k n
 |.bool _=>0
 |.str s=>s.size
 |.list a=>Dp a
 |.map _ a=>Dp a
def AF:List D→Nat
 |[]=>0
 |d::l=>bk d+AF l
def Dp:List (List D)→Nat
 |[]=>0
 |e::l=>AF e+1+Dp l
end
theorem K6:∀a b:List D,AF (a++b)=AF a+AF b
 |[],b=>by rw[Et,AF,YL]
 |d::a,b=>by rw[J9,AF,AF,K6 a b,Yu]
theorem KW(d:D):AF [d]=bk d:=by rw[AF,AF,Dw]
theorem HA{α:Type}{e:α→List D}:∀l:List α,l.length≤Dp (l.map e)
 |[]=>YT _
 |x::l=>by have:=HA (e:=e) l;rw[Y6,Dp,Y7];omega
theorem Fx{α:Type}{e:α→List D}{x:α}:∀{l:List α},x∈l→AF (e x)+1≤Dp (l.map e)
 |y::l,h=>by
  rw[Y6,Dp]
  cases YJ.1 h with
  |inl h=>subst h;omega
  |inr h=>have:=Fx (e:=e) h;omega
section
variable {H:Type} (enc:TypeId×Value→H) (P:Program) (W:World)
def Cj{α:Type}(n:Nat)(t:TypeId)(e:α→List D):Prop:=
 ∀cs x,DataW.trod enc P W 0 (fun _=>true) true n t cs=some x→∃v:α,GI W (e v) cs∧AF (e v)+1≤Rows.uptoBulk x.1
end
section
variable {H:Type} {enc:TypeId×Value→H} {P:Program} {W:World} {n:Nat} {t:TypeId}
theorem Tu(d:DataW H):1≤Rows.uptoBulk d:=by cases d<;>(try (rename_i l;cases l))<;>simp[Rows.uptoBulk]
theorem Kt{d:D}{c:Value}(h:RepD W (· <W.heap.size) d c):GI W [d] [c]:=⟨rfl,fun i d' hi=>by
 cases i with
 |zero=>cases hi;exact⟨c,rfl,h⟩
 |succ i=>simp at hi⟩
theorem Hw{k:IntKind}(a:P.underlying t=some (.int k)):Cj enc P W n t (fun v:Int=>[.int k v]):=fun cs x hx=>by
 obtain⟨m,rfl,rfl,b⟩:=DataW.trod_int a hx
 refine⟨m,Kt (.int _ _),?_⟩
 rw[KW,bk,rk,Yj b]
 exact Tu _
theorem UA(a:P.underlying t=some .string):Cj enc P W n t (fun v:ByteArray=>[.str v]):=fun cs x hx=>by
 obtain⟨m,rfl,rfl,_⟩:=DataW.trod_string a hx
 refine⟨m,Kt (.str _),?_⟩
 rw[fj,KW]
 exact Ye _
theorem Up{α:Type}{e:α→List D}:∀(l:List α) (xs:List (DataW H×List MemPlace)),l.length=xs.length→(∀(i:Nat) (v:α),l[i]?=some v→∃y:DataW H×List MemPlace,xs[i]?=some y∧AF (e v)+1≤Rows.uptoBulk y.1)→Dp (l.map e)≤Rows.uptoBulkAll (xs.map (·.1))
 |[],_,_,_=>YT _
 |x::l,[],h,_=>by cases h
 |x::l,y::xs,h,k=>by
  have:=Up l xs (Nh h) (fun i v hi=>k (i+1) v hi)
  obtain⟨c,a,b⟩:=k 0 x rfl
  cases a
  rw[Y6,Y6,Dp]
  simp only[Rows.uptoBulkAll]
  omega
theorem T4{α:Type}{Q:Nat→α→Prop}:∀(len:Nat),(∀i,i<len→∃v,Q i v)→∃l:List α,l.length=len∧∀i v,l[i]?=some v→Q i v
 |0,_=>⟨[],rfl,fun i v h=>by simp at h⟩
 |len+1,h=>by
  obtain⟨l,a,b⟩:=T4 len (fun i hi=>h i (by omega))
  obtain⟨v,c⟩:=h len (by omega)
  refine⟨l++[v],by simp[a],fun i w hi=>?_⟩
  grind
theorem Hn{α:Type}{e:TypeId}{b:α→List D}{sz:Nat}(X:P.underlying t=some (.slice e))(E:P.cellsOf e=sz)(V:sz≠0)(hl:∀x,(b x).length=sz)(h:∀m,m<n→Cj enc P W m e b):
  Cj enc P W n t (fun l:List α=>[.list (l.map b)]):=fun cs x hx=>by
 rcases DataW.trod_slice X hx with⟨rfl,rfl⟩|⟨a,len,cap,g,J,m,rfl,rfl,rfl,Z,z,T,U,hi,_,_⟩
 ·exact⟨[],Kt .nil,Tu _⟩
 ·have k:∀i,i<len→∃v:α,∃y f,g[i]?=some y∧W.cells? 0 (a.add (i*sz)) sz=some f∧GI W (b v) f∧AF (b v)+1≤Rows.uptoBulk y.1:=fun i B=>by
   have I:=hi i B
   rw[Yb (by omega),E]at I
   obtain⟨f,N,O⟩:=Ri.1 I
   obtain⟨v,Q,R⟩:=h m (by omega) f _ O
   exact⟨v,_,f,Yb (by omega),N,Q,R⟩
  obtain⟨l,A,r⟩:=T4 len k
  have cell:∀(i j:Nat) (e':List D) (x:D),(l.map b)[i]?=some e'→e'[j]?=some x→∃c,W.cell? (a.add (i*sz+j))=some c∧RepD W (· <W.heap.size) x c:=fun i j e' x d o=>by
   rw[Yt]at d
   cases s:l[i]? with
   |none=>rw[s]at d;cases d
   |some v=>
    rw[s]at d
    cases d
    obtain⟨y,f,p,q,F,G⟩:=r i v s
    obtain⟨c,H,K⟩:=F.2 j x o
    rw[YL]at H
    obtain⟨_,Y,L⟩:=World.cells?_some q
    have u:j<sz:=by
     rw[←hl v]
     rcases Yw j (b v).length with h|h
     ·exact h
     ·rw[YG h]at o;cases o
    refine⟨c,?_,K⟩
    rw[←Go.Eng.add_add,L j u,H]
  refine⟨l,Kt ?_,?_⟩
  ·have hlen:(l.map b).length=len:=by simp[A]
   have:=RepD.list (w:=W) (S:=(· <W.heap.size)) (l.map b) a sz cap (fun i j=>(W.cell? (a.add (i*sz+j))).getD undef) (fun C=>by
     have M:0<len:=by
      rcases Nm len with h|h
      ·exact absurd (YZ (hlen.trans h)) C
      ·exact h
     obtain⟨v,y,f,_,q,_⟩:=k 0 M
     have:=World.cells?_block q (by omega)
     rw[Hc]at this
     rw[←Go.Eng.block_add a 0];exact this)
    (by rw[hlen];exact z) (fun e' he=>by obtain⟨y,_,rfl⟩:=YO.1 he;exact hl y)
    (fun i j e' x d o=>by obtain⟨c,p,_⟩:=cell i j e' x d o;rw[p];rfl)
    (fun i j e' x d o=>by obtain⟨c,p,q⟩:=cell i j e' x d o;rw[p];exact q)
   rw[hlen]at this
   exact this
  ·rw[cC,KW,bk]
   have:=Up (e:=b) l g (by omega) (fun i v s=>by
    obtain⟨y,f,p,q,F,G⟩:=r i v s
    exact⟨y,p,G⟩)
   omega
def FB(xs:List (DataW H×List MemPlace))(i:Nat):Nat:=Rows.uptoBulkAll ((xs.drop i).map (·.1))
theorem DE{xs:List (DataW H×List MemPlace)}{i:Nat}{a b:List D}(h:AF a+1+FB xs (i+1)≤FB xs i)(k:AF b≤FB xs (i+1)):AF (a++b)≤FB xs i:=by
 rw[K6];omega
theorem Li{xs:List (DataW H×List MemPlace)}{i:Nat}{a:List D}(h:AF a+1+FB xs (i+1)≤FB xs i):AF a≤FB xs i:=by omega
theorem Ld{xs:List (DataW H×List MemPlace)}{a:List D}(h:AF a≤FB xs 0):AF a+1≤Rows.uptoBulk (.agg (xs.map (·.1))):=by
 rw[dB];exact Nat.succ_le_succ h
theorem ff{α:Type}{e:α→List D}{m i:Nat}{c:TypeId}{a:List Value}{xs:List (DataW H×List MemPlace)}(h:Cj enc P W m c e)(b:DataW.trod enc P W 0 (fun _=>true) true m c a=xs[i]?)(hi:i<xs.length):
  ∃v,GI W (e v) a∧AF (e v)+1+FB xs (i+1)≤FB xs i:=by
 rw[Yb hi]at b
 obtain⟨v,d,f⟩:=h _ _ b
 refine⟨v,d,?_⟩
 unfold FB
 rw[YN hi,Y6]
 simp only[Rows.uptoBulkAll]
 omega
theorem rf{α:Type}{e:α→List D}{m i k:Nat}{b:TypeId}{a:List Value}{xs:List (DataW H×List MemPlace)}(h:Cj enc P W m b e)(c:DataW.trod enc P W 0 (fun _=>true) true m b a=xs[i]?)(hx:xs.length=k)(hi:Nat.blt i k=true:=by kernel_rfl):
  ∃v,GI W (e v) a∧AF (e v)+1+FB xs (i+1)≤FB xs i:=ff h c (by rw[hx];exact Yd hi)
theorem Ja{α:Type}{e e':α→List D}(he:∀x,e x=e' x)(h:Cj enc P W n t e'):Cj enc P W n t e:=fun cs x hx=>by
 obtain⟨v,a,b⟩:=h cs x hx
 grind
theorem SM{α:Type}{e:α→List D}{u:TypeId}{r:Reach}{b:Nat}{v:Value}{d:DataW H}{p:List MemPlace}(rd:∀n,Cj enc P W n t (fun l:List α=>[.list (l.map e)]))(o:P.underlying t=some (.slice u))(q:Value.okWide P W r b t v)
  (h:DataW.Trod enc P W 0 (fun _=>true) true t v d p):∃x:List α,(∀Hp m l,RepA W (· <W.heap.size) Hp m l (.d (.list (x.map e))) v)∧bk (.list (x.map e))+1≤Rows.uptoBulk d:=by
 obtain⟨a,len,cap,rfl⟩:=okWide_slice o q
 obtain⟨n,k⟩:=h
 obtain⟨x,f,g⟩:=rd n _ _ k
 obtain⟨c,i,j⟩:=f.2 0 _ rfl
 have:c=.slice a len cap:=by simpa[Value.cells]using i.symm
 subst this
 exact⟨x,fun _ _ _=>.d _ _ j,by rw[←KW];exact g⟩
def QZ:Hp:=fun _=>⟨0,false,0,0,[]⟩
theorem mB(m:Mu):Ok 0 QZ m (· <W.heap.size) W:=⟨fun _ h=>h,fun _ _ h=>(by cases h),fun _ _ h=>(by cases h),fun _ _ _ _ h=>(by cases h),fun _ _ h=>(by cases h),⟨fun _ _ h=>(by cases h),fun _ _ h=>(by cases h),fun _ _ _ _ h=>(by cases h)⟩⟩
def Zz(w:World)(S:Nat→Prop)(Hp:Hp)(m:Mu)(l:Nat):List AV→List Value→Prop
 |[],[]=>True
 |x::xs,v::vs=>RepA w S Hp m l x v∧Zz w S Hp m l xs vs
 |_,_=>False
theorem ge{w:World}{S:Nat→Prop}{Hp:Hp}{m:Mu}{l:Nat}{xs:List AV}{vs:List Value}(h:Zz w S Hp m l xs vs):Gx w S Hp m l xs vs.toArray:=by
 suffices b:xs.length=vs.length∧∀(i:Nat) (x:AV) (v:Value),xs[i]?=some x→vs[i]?=some v→RepA w S Hp m l x v by
  exact⟨by simpa using b.1,fun i x v hx e=>b.2 i x v hx (by simpa using e)⟩
 induction xs generalizing vs with
 |nil=>cases vs with
  |nil=>exact⟨rfl,fun i x v h=>by simp at h⟩
  |cons _ _=>exact h.elim
 |cons x xs f=>cases vs with
  |nil=>exact h.elim
  |cons v vs=>
   obtain⟨c,d⟩:=f h.2
   refine⟨by simp[c],fun i y u hy a=>?_⟩
   cases i with
   |zero=>simp at hy a;subst hy;subst a;exact h.1
   |succ i=>exact d i y u (by simpa using hy) (by simpa using a)
theorem dp{f:Func}{s:ChangeSpec}{r:World}{args:Array Value}{ds A:List (DataW H)}{e:List MemPlace}{u:TypeId}(C:DataW.Whole enc P f.params.toList s.vars false W args.toList ds A e)(c:s.vars=[])
  (k:laidOutB P=true) (z:∀t∈f.params.toList,P.readableRec t=true∧t<P.types.size) (g:f.resultTypes.toList=[u]) (L:P.underlying u=some .bool)
  (j:s.fn H (ds++A)={results:=[.lit (.bool true)],args:=ds }) (n:Below W.heap.size W r):s.post enc P f false true false false W args (.bool true) r:=by
 obtain⟨p,q,G,B,rfl,I,J⟩:=id C
 rw[c]at B
 obtain⟨rfl,rfl⟩:=trodVars_none B
 refine⟨ds,[],p++[],[],p,[],C,?_,?_,?_,?_,fun h=>by cases h⟩
 ·rw[j,g]
  have:(Value.bool true).resultList f.resultTypes.size=[.bool true]:=by
   have:f.resultTypes.size=1:=by rw[←Fi,g];rfl
   rw[this];rfl
  rw[this]
  exact trodAll_cons_mk (shut_bool L _) trodAll_mk0
 ·rw[j]
  have key:∀(l:List TypeId) (vs:List Value) (m:List (DataW H)) (ps:List MemPlace),(∀t∈l,P.readableRec t=true∧t<P.types.size)→DataW.TrodAll enc P W 0 (fun _=>true) true l vs m ps→
    DataW.TrodAll enc P r 0 (fun b=>decide (b<W.heap.size)) true l vs m ps:=by
   intro l
   induction l with
   |nil=>intro vs m ps _ h;obtain⟨rfl,rfl,rfl⟩:=trodAll_nil h;exact trodAll_mk0
   |cons t l M=>
    intro vs m ps y h
    have w:=DataW.TrodAll.lt h
    obtain⟨v,N,d,D,a,b,rfl,rfl,rfl,E,F⟩:=trodAll_cons h
    exact trodAll_cons_mk (Below.trod k (y t (by simp)).1 (y t (by simp)).2 E n (fun x hx=>w x (Gj _ hx))) (M _ _ _ (fun t K=>y t (by simp[K])) F)
  exact key _ _ _ _ z G
 ·rw[c,j];exact rfl
 ·refine⟨n.os,n.output,fun i hi=>?_⟩
  rw[n.block i hi]
  cases W.heap[i]? with
  |none=>rfl
  |some o=>cases o<;>simp
end
end Go.Proofs.YtifefgdogdecnaaGreatDoor
namespace Go.Proofs.YtifefgdogdecnaaGreatDoor
set_option linter.all false
open Go Go.Eng
section
variable {H:Type} {enc:TypeId×Value→H} {W:World}
set_option maxRecDepth 100000
theorem iN(n:Nat):Cj enc Tryz.prog W n 106 Aj:=fun cs x hx=>by
 obtain⟨xs,m,rfl,rfl,c,a,b⟩:=DataW.trod_struct Tryz.underlying106 hx
 obtain⟨v0,h,d⟩:=rf (Hw Tryz.underlying3) (b 0 _ rfl) a
 obtain⟨l,i,e⟩:=rf (Hw Tryz.underlying3) (b 1 _ rfl) a
 obtain⟨v2,j,f⟩:=rf (Hw Tryz.underlying30) (b 2 _ rfl) a
 obtain⟨v3,k,g⟩:=rf (UA Tryz.underlying9) (b 3 _ rfl) a
 have q:=Ld (DE d (DE e (DE f (Li g))))
 exact⟨.mk v0 l v2 v3,⟨by rw[c];kernel_rfl,(h.at.app (i.at.app (j.at.app k.at)))⟩,q⟩
theorem fd(n:Nat)(h:∀k,k<n→Cj enc Tryz.prog W k 35 Ac):Cj enc Tryz.prog W n 108 Dq:=fun cs x hx=>by
 obtain⟨xs,m,rfl,rfl,b,a,c⟩:=DataW.trod_struct Tryz.underlying108 hx
 obtain⟨v0,f,d⟩:=rf (h m (by omega)) (c 0 _ rfl) a
 obtain⟨i,g,e⟩:=rf (h m (by omega)) (c 1 _ rfl) a
 have q:=Ld (DE d (Li e))
 exact⟨.mk v0 i,⟨by rw[b];kernel_rfl,(f.at.app g.at)⟩,q⟩
theorem dy(n:Nat)(h:∀k,k<n→Cj enc Tryz.prog W k 35 Ac):Cj enc Tryz.prog W n 54 Bo:=fun cs x hx=>by
 obtain⟨xs,m,rfl,rfl,b,a,c⟩:=DataW.trod_struct Tryz.underlying54 hx
 obtain⟨v0,f,d⟩:=rf (Hw Tryz.underlying3) (c 0 _ rfl) a
 obtain⟨i,g,e⟩:=rf (h m (by omega)) (c 1 _ rfl) a
 have q:=Ld (DE d (Li e))
 exact⟨.mk v0 i,⟨by rw[b];kernel_rfl,(f.at.app g.at)⟩,q⟩
theorem UZ(n:Nat):Cj enc Tryz.prog W n 35 Ac:=by
 induction n using Nat.strongRecOn with
 |ind n e=>
 intro cs x hx
 obtain⟨xs,m,rfl,rfl,c,a,b⟩:=DataW.trod_struct Tryz.underlying35 hx
 obtain⟨v0,s,f⟩:=rf (Hw Tryz.underlying3) (b 0 _ rfl) a
 obtain⟨A,t,g⟩:=rf (Hw Tryz.underlying30) (b 1 _ rfl) a
 obtain⟨v2,u,h⟩:=rf (UA Tryz.underlying9) (b 2 _ rfl) a
 obtain⟨v3,v,i⟩:=rf (Hn Tryz.underlying22 (by kernel_rfl:Tryz.prog.cellsOf 35=7) (by decide) (fun x=>by rw[Cz];rfl) (fun k d=>(Ja Cz (e k (by omega))))) (b 3 _ rfl) a
 obtain⟨v4,w,l⟩:=rf (Hn Tryz.underlying31 (by kernel_rfl:Tryz.prog.cellsOf 108=14) (by decide) (fun x=>by rw[Hx];rfl) (fun k d=>(Ja Hx (fd k (fun j r=>e j (by omega)))))) (b 4 _ rfl) a
 obtain⟨v5,y,o⟩:=rf (Hn Tryz.underlying32 (by kernel_rfl:Tryz.prog.cellsOf 54=8) (by decide) (fun x=>by rw[Ht];rfl) (fun k d=>(Ja Ht (dy k (fun j r=>e j (by omega)))))) (b 5 _ rfl) a
 obtain⟨B,z,p⟩:=rf (Hn Tryz.underlying33 (by kernel_rfl:Tryz.prog.cellsOf 106=4) (by decide) (fun _=>rfl) (fun k d=>(iN k))) (b 6 _ rfl) a
 have q:=Ld (DE f (DE g (DE h (DE i (DE l (DE o (Li p)))))))
 exact⟨.mk v0 A v2 v3 v4 v5 B,⟨by rw[c];kernel_rfl,(s.at.app (t.at.app (u.at.app (v.at.app (w.at.app (y.at.app z.at))))))⟩,q⟩
end
end Go.Proofs.YtifefgdogdecnaaGreatDoor
namespace Go.Eng
set_option linter.all false
open Go Go.RowKit
section
variable {σ ξ ρ α β γ:Type}
theorem Tw{B:σ→Option (Lv σ ξ ρ)}(I:Nat→σ→Prop)(Q:ξ ⊕ ρ→Prop)
  (h:∀k v,I k v→∃o,B v=some o∧match o with|.nx c=>∃k',k'<k∧I k' c|.ex b=>Q (.inl b)|.rt y=>Q (.inr y)):
  ∀N k v,k<N→I k v→∃o,At B N v=some o∧Q o
 |0,k,v,d,_=>absurd d (Er _)
 |N+1,k,v,d,g=>by
  obtain⟨o,e,a⟩:=h k v g
  rw[At,e]
  cases o with
  |nx c=>obtain⟨k',i,f⟩:=a;exact Tw I Q h N k' c (by omega) f
  |ex b=>exact⟨_,rfl,a⟩
  |rt y=>exact⟨_,rfl,a⟩
theorem BV{l:List α}{i:Nat}{x:α}(h:l[i]?=some x):(i:Int)<(l.length:Int):=by
 grind
theorem Cc{n:Nat}(h:n<4611686018427387904):n<Aq:=h
end
end Go.Eng
namespace Go.Proofs.YtifefgdogdecnaaGreatDoor
set_option linter.all false
open Go Go.Eng
def Ok{α:Type}(Q:α→Prop)(o:Option α):Prop:=∃y,o=some y∧Q y
section
variable {α β γ σ ξ ρ:Type} {Q:β→Prop} {P:α→Prop}
theorem Bj{y:β}(h:Q y):Ok Q (some y):=⟨y,rfl,h⟩
theorem Hv{m:Option α}{k:α→Option β}(h:Ok P m)(a:∀y,P y→Ok Q (k y)):Ok Q (m.bind k):=by
 obtain⟨y,rfl,h⟩:=h
 exact a y h
theorem Jc{xs:List α}{i:Nat}{k:α→Option β}(h:i<xs.length)(a:∀x,xs[i]?=some x→x∈xs→Ok Q (k x)):Ok Q (xs[i]?.bind k):=by
 rw[Yb h]
 exact a _ (Yb h) (G7 h)
theorem A6{b:Bool}{x y:Option β}(h:b=true→Ok Q x)(a:b=false→Ok Q y):Ok Q (if b=true then x else y):=by
 cases b
 ·exact a rfl
 ·exact h rfl
theorem AA{c:Prop}{d:Decidable c}{a:Option β}(b:c)(h:Ok Q a):Ok Q (if c then a else none):=by
 rw[Yj b]
 exact h
theorem Cy{B:σ→Option (Lv σ ξ ρ)}{N:Nat}{v:σ}(I:σ→Prop)(μ:σ→Nat){A:ξ→Prop}{R:ρ→Prop}(d:I v)(f:μ v<N)
  (hs:∀v,I v→Ok (fun o=>match o with|.nx c=>I c∧μ c<μ v|.ex b=>A b|.rt y=>R y) (B v)):Ok (Sum.elim A R) (At B N v):=
 Tw (fun k v=>I v∧μ v≤k) (Sum.elim A R) (fun k v h=>by
  obtain⟨o,e,a⟩:=hs v h.1
  refine⟨o,e,?_⟩
  cases o with
  |nx c=>exact⟨μ c,by have:=a.2;have:=h.2;omega,a.1,Ye _⟩
  |ex b=>exact a
  |rt y=>exact a) N (μ v) v f ⟨d,Ye _⟩
theorem EO{m:Option (ξ ⊕ ρ)}{A:ξ→Prop}{R:ρ→Prop}{f:ξ→Option β}{g:ρ→Option β}(h:Ok (Sum.elim A R) m)(hx:∀b,A b→Ok Q (f b))(a:∀r,R r→Ok Q (g r)):Ok Q (m.bind (Sum.elim f g)):=by
 obtain⟨y,rfl,h⟩:=h
 cases y with
 |inl b=>exact hx b h
 |inr r=>exact a r h
theorem Ok.mono{a:β→Prop}{o:Option β}(h:Ok Q o)(k:∀y,Q y→a y):Ok a o:=by
 obtain⟨y,b,c⟩:=h
 exact⟨y,b,k y c⟩
theorem Ok.some{o:Option β}(h:Ok Q o):o.isSome=true:=by
 obtain⟨y,a,b⟩:=h
 rw[a]
 rfl
end
abbrev Tr{α:Type}:α→Prop:=fun _=>True
abbrev No{α:Type}:α→Prop:=fun _=>False
theorem mC:(⟨#[]⟩:ByteArray).size=0:=rfl
theorem Gb{p:Prop}(h:p:=by first|trivial|assumption|contradiction|omega|grind|(simp only[Bd.c,Bd.vl,M4,ByteArray.size_extract,mC]at*;grind)):p:=h
theorem CI{p:Prop}(h:p:=by first|trivial|assumption|contradiction|omega|solve_by_elim|(simp only[Yc,YD,Y3,Na,M6,Y4,YE]at*;omega)|grind):p:=h
def Qn(x:Fld):Prop:=(x.card≠5→1≤x.card∧x.card≤4∧x.key=0)∧(x.card=5→x.key=1∨x.key=2∨x.key=3∨x.key=4∨x.key=5∨x.key=7)
structure SzV (v:Val):Prop where
 t:v.text.size≤1048576
 l:v.list.length≤1048576
 p:v.pairs.length≤1048576
 s:v.slots.length≤1048576
 r:v.raws.length≤1048576
structure SzN (x:Nt):Prop where
 n:x.name.size≤1048576
 v:SzV x.val
abbrev HS(l:List Nt):Prop:=l.length≤1048576∧∀x∈l,SzN x
structure SzF (x:Fld):Prop where
 n:x.name.size≤1048576
 t:x.type.name.size≤1048576
 u:x.union.size≤1048576
 d:SzV x.dflt
 o:HS x.notes
structure SzM (x:Msg):Prop where
 n:x.name.size≤1048576
 fl:x.fields.length≤1048576
 f:∀y∈x.fields,SzF y
 r:x.reserved.length≤1048576
 gl:x.gone.length≤1048576
 g:∀y∈x.gone,y.size≤1048576
 o:HS x.notes
structure SzI (x:Itm):Prop where
 n:x.name.size≤1048576
 o:HS x.notes
structure SzE (x:Enm):Prop where
 n:x.name.size≤1048576
 il:x.items.length≤1048576
 i:∀y∈x.items,SzI y
 r:x.reserved.length≤1048576
 o:HS x.notes
structure SzT (x:Mth):Prop where
 n:x.name.size≤1048576
 o:HS x.notes
structure SzW (x:Svc):Prop where
 n:x.name.size≤1048576
 ml:x.methods.length≤1048576
 m:∀y∈x.methods,SzT y
 o:HS x.notes
structure SzS (x:Scm):Prop where
 ml:x.messages.length≤1048576
 m:∀y∈x.messages,SzM y
 el:x.enums.length≤1048576
 e:∀y∈x.enums,SzE y
 wl:x.services.length≤1048576
 w:∀y∈x.services,SzW y
theorem Ql{v:Val}(h:AF (Ac v)≤1048576):SzV v:=by
 have a:=HA (e:=Af) v.list
 have b:=HA (e:=Ax) v.pairs
 have c:=HA (e:=Ag) v.slots
 have d:=HA (e:=Aj) v.raws
 simp only[Ac,AF,bk]at h
 constructor<;>omega
theorem Lp{v:Val}(h:AF (Ac v)≤1048576):0≤v.bits∧v.bits≤18446744073709551615:=by
 simp only[Ac,AF,bk]at h
 have:=kj (k:=.u64) (n:=v.bits) (by omega)
 exact this
theorem HE{n:Nat}(h:n≤2097152):n<Aq:=by unfold Aq;omega
def ZU(v:Val):Prop:=v.list=[]∧v.pairs=[]∧v.slots=[]∧v.raws=[]∧(v.kind=7∨v.kind=8→v.bits=0)∧(¬(v.kind=7∨v.kind=8)→v.text=⟨#[]⟩)
def ZR(n:Int)(v:Val):Prop:=1≤n∧n≤9∧v.kind=n∧ZU v
def Q6(s:Scm)(f:Fld):Prop:=(f.type.kind=9→∃m∈s.enums,m.name=f.type.name)∧(f.type.kind=10→(∃m∈s.messages,m.name=f.type.name)∧f.card≠3)∧1≤f.type.kind∧f.type.kind≤10
def Q7(f:Fld):Prop:=f.union≠⟨#[]⟩→f.card=2
def Qo(f:Fld):Prop:=f.hasDefault=true→ZR f.type.kind f.dflt∧f.card=2∧f.union=⟨#[]⟩
def XH(l:List Fld)(n:Nat):Prop:=∀(i:Nat) (a b:Fld),i+1<n→l[i]?=some a→l[i+1]?=some b→a.num<b.num
structure GdM0 (s:Scm) (m:Msg):Prop where
 asc:XH m.fields m.fields.length
 df:∀(j:Nat) (f:Fld),m.fields[j]?=some f→Qo f∧Qn f∧Q6 s f∧Q7 f
def ZQ(e:Enm):Prop:=∃x,e.items[0]?=some x∧x.num=0
structure GdM (s:Scm) (m:Msg):Prop where
 asc:XH m.fields m.fields.length
 df:∀(j:Nat) (f:Fld),m.fields[j]?=some f→Qo f∧Qn f∧Q6 s f∧Q7 f
 en:∀(j:Nat) (e:Enm),s.enums[j]?=some e→ZQ e
structure Few (s:Scm):Prop where
 m:s.messages.length≤150
 e:s.enums.length≤150
 w:s.services.length≤150
abbrev Bi(v:Val):Prop:=AF (Ac v)≤1048576
theorem Ps{v x:Val}(h:Bi v)(hx:x∈v.list):Bi x:=by
 have a:=Fx (e:=Af) hx
 rw[Cz]at a
 unfold Bi at*
 conv at h=>unfold Ac
 simp only[AF,bk]at h
 omega
theorem HH{v:Val}{x:Pr}(h:Bi v)(hx:x∈v.pairs):Bi x.key∧Bi x.val:=by
 have a:=Fx (e:=Ax) hx
 have e:Ax x=Ac x.key++Ac x.val:=by rw[Hx];rfl
 rw[e,K6]at a
 unfold Bi at*
 conv at h=>unfold Ac
 simp only[AF,bk]at h
 omega
theorem Py{v:Val}{x:Slt}(h:Bi v)(hx:x∈v.slots):Bi x.val:=by
 have a:=Fx (e:=Ag) hx
 have e:Ag x=D.int .i64 x.num::Ac x.val:=by rw[Ht];rfl
 rw[e,AF]at a
 unfold Bi at*
 conv at h=>unfold Ac
 simp only[AF,bk]at h
 omega
theorem jL{v x:Val}(hx:x∈v.list):AF (Ac x)<AF (Ac v):=by
 have a:=Fx (e:=Af) hx
 rw[Cz]at a
 conv=>rhs;unfold Ac
 simp only[AF,bk]
 omega
theorem VN{v:Val}{x:Pr}(hx:x∈v.pairs):AF (Ac x.key)<AF (Ac v)∧AF (Ac x.val)<AF (Ac v):=by
 have b:=Fx (e:=Ax) hx
 have e:Ax x=Ac x.key++Ac x.val:=by rw[Hx];rfl
 rw[e,K6]at b
 have a:AF (Ac v)=AF [.int .i64 v.kind,.int .u64 v.bits,.str v.text,.list (v.list.map Af),.list (v.pairs.map Ax),.list (v.slots.map Ag),.list (v.raws.map Aj)]:=rfl
 rw[a]
 simp only[AF,bk]
 omega
theorem jq{v:Val}{x:Slt}(hx:x∈v.slots):AF (Ac x.val)<AF (Ac v):=by
 have a:=Fx (e:=Ag) hx
 have e:Ag x=D.int .i64 x.num::Ac x.val:=by rw[Ht];rfl
 rw[e,AF]at a
 have b:AF (Ac v)=AF [.int .i64 v.kind,.int .u64 v.bits,.str v.text,.list (v.list.map Af),.list (v.pairs.map Ax),.list (v.slots.map Ag),.list (v.raws.map Aj)]:=rfl
 rw[b]
 simp only[AF,bk]at a⊢
 omega
theorem ZJ:∀(b:Nat) (v:Val) (a n:Int),Bi v→1≤a→42-a<b→a≤41→0≤n→n≤2000→Ok (fun y:Int=>-1≤y∧y≤2000) (DY b v a n)
 |0,v,a,n,h,j,k,l,o,p=>by omega
 |b+1,v,a,n,h,j,k,l,o,p=>by
  obtain⟨s1,s2,w,z,A⟩:=Ql h
  have R:∀(x:Val) (n:Int),Bi x→a≤40→0≤n→n≤2000→Ok (fun y:Int=>-1≤y∧y≤2000) (DY b x (a+1) n):=fun x n hx hl q g=>ZJ b x (a+1) n hx (by omega) (by omega) (by omega) q g
  have r:Ok (Sum.elim Tr (fun y:Int=>y= -1)) (At (LM v a n (DY b)) Aq 0):=by
   refine Cy (fun i:Nat=>i≤v.raws.length) (fun i:Nat=>v.raws.length-i) (by omega) (HE (by omega)) fun i hi=>?_
   dsimp only[LM,br,ix,vz,wg,vs,AH,ln,Ap,wa,Ah,EZ,br]
   (repeat' (first|with_reducible (first|refine A6 (fun _=>?_) fun _=>?_|refine Bj ?_|refine Jc ?_ fun _ _ _=>?_|refine AA ?_ ?_)))<;>exact Gb
  have s:∀m:Int,a≤40→ -1≤m→m≤2000→Ok (Sum.elim (fun y:Int=>-1≤y∧y≤2000) No) (At (LR v a (DY b)) Aq (m,0)):=by
   intro m hl hm f
   refine Cy (fun i:Int×Nat=>i.2≤v.list.length∧ -1≤i.1∧i.1≤2000) (fun i:Int×Nat=>v.list.length-i.2) ⟨by omega,by omega,by omega⟩ (HE (by omega)) fun i hi=>?_
   obtain⟨m,i⟩:=i
   obtain⟨d,e,c⟩:=hi
   dsimp only at d e c
   dsimp only[LR,br,ix,vz,wg,vs,ln,Ap,cs,wa,wi,Ah,br]
   (repeat' (first|with_reducible (first|refine A6 (fun _=>?_) fun _=>?_|refine Bj ?_|refine Jc ?_ fun _ _ _=>?_)|(with_reducible apply Hv;(exact R _ _ (Ps h (by assumption)) hl CI c);intro _ _)|with_reducible refine AA ?_ ?_))<;>exact Gb
  have t:∀m:Int,a≤40→ -1≤m→m≤2000→Ok (Sum.elim (fun y:Int=>-1≤y∧y≤2000) No) (At (LQ v a (DY b)) Aq (m,0)):=by
   intro m hl hm f
   refine Cy (fun i:Int×Nat=>i.2≤v.pairs.length∧ -1≤i.1∧i.1≤2000) (fun i:Int×Nat=>v.pairs.length-i.2) ⟨by omega,by omega,by omega⟩ (HE (by omega)) fun i hi=>?_
   obtain⟨m,i⟩:=i
   obtain⟨d,e,c⟩:=hi
   dsimp only at d e c
   dsimp only[LQ,br,ix,vz,wg,vs,ln,Ap,cs,wa,wi,Ah,br]
   (repeat' (first|with_reducible (first|refine A6 (fun _=>?_) fun _=>?_|refine Bj ?_|refine Jc ?_ fun _ _ _=>?_)|(with_reducible apply Hv;(exact R _ _ (HH h (by assumption)).1 hl CI c);intro _ _)|(with_reducible apply Hv;(exact R _ _ (HH h (by assumption)).2 hl CI CI);intro _ _)|with_reducible refine AA ?_ ?_))<;>exact Gb
  have u:∀m:Int,a≤40→ -1≤m→m≤2000→Ok (Sum.elim (fun y:Int=>-1≤y∧y≤2000) No) (At (LA v a (DY b)) Aq (m,0)):=by
   intro m hl hm f
   refine Cy (fun i:Int×Nat=>i.2≤v.slots.length∧ -1≤i.1∧i.1≤2000) (fun i:Int×Nat=>v.slots.length-i.2) ⟨by omega,by omega,by omega⟩ (HE (by omega)) fun i hi=>?_
   obtain⟨m,i⟩:=i
   obtain⟨d,e,c⟩:=hi
   dsimp only at d e c
   dsimp only[LA,br,ix,vz,wg,vs,ln,Ap,cs,wa,wi,Ah,br]
   (repeat' (first|with_reducible (first|refine A6 (fun _=>?_) fun _=>?_|refine Bj ?_|refine Jc ?_ fun _ _ _=>?_)|(with_reducible apply Hv;(exact R _ _ (Py h (by assumption)) hl CI c);intro _ _)|with_reducible refine AA ?_ ?_))<;>exact Gb
  show Ok _ (Mh (DY b) v a n)
  dsimp only[Mh,br,vz,vy,wg,vs,lr,lc,wi,Ah,EZ,br]
  (repeat' (first|with_reducible (first|refine A6 (fun _=>?_) fun _=>?_|refine Bj ?_)|(with_reducible apply EO;(exact r);all_goals(intro _ _;try dsimp only))|(with_reducible apply EO;(exact s _ CI CI CI);all_goals(intro _ _;try dsimp only))|(with_reducible apply EO;(exact t _ CI CI CI);all_goals(intro _ _;try dsimp only))|(with_reducible apply EO;(exact u _ CI CI CI);all_goals(intro _ _;try dsimp only))|with_reducible refine AA ?_ ?_))<;>exact Gb
end Go.Proofs.YtifefgdogdecnaaGreatDoor
namespace Go.Proofs.YtifefgdogdecnaaGreatDoor
set_option linter.all false
open Go Go.Eng
set_option maxRecDepth 100000 in
theorem lD:Rr=some true:=by kernel_rfl
theorem Hs{n:Nat}(h:n<18446744073709551616):IntKind.u64.wrap (n:Int)=n:=by
 unfold IntKind.wrap
 have:(IntKind.u64.bits)=64:=rfl
 simp only[this,show IntKind.u64.signed=false from rfl,Ha,Yf,Yr]
 omega
theorem Hy(n:Nat):BitVec.ofInt 64 (n:Int)=BitVec.ofNat 64 n:=BitVec.ofInt_natCast ..
theorem OO{n m:Nat}(a:n<18446744073709551616)(hm:m<18446744073709551616):BR .u64 (n:Int) (m:Int)=((n&&&m:Nat):Int):=by
 unfold BR
 have h:(BitVec.ofInt 64 (n:Int)&&&BitVec.ofInt 64 (m:Int)).toNat=n&&&m:=by
  rw[Hy,Hy,BitVec.toNat_and,Ir,Ir,Gh a,Gh hm]
 show IntKind.u64.wrap (((BitVec.ofInt 64 (n:Int)&&&BitVec.ofInt 64 (m:Int)).toNat:Nat):Int)=_
 rw[h]
 exact Hs (Nat.lt_of_le_of_lt Nat.and_le_left a)
theorem gL{n m:Nat}(a:n<18446744073709551616)(hm:m<18446744073709551616):DR .u64 (n:Int) (m:Int)=((n|||m:Nat):Int):=by
 unfold DR
 have h:(BitVec.ofInt 64 (n:Int)|||BitVec.ofInt 64 (m:Int)).toNat=n|||m:=by
  rw[Hy,Hy,BitVec.toNat_or,Ir,Ir,Gh a,Gh hm]
 show IntKind.u64.wrap (((BitVec.ofInt 64 (n:Int)|||BitVec.ofInt 64 (m:Int)).toNat:Nat):Int)=_
 rw[h]
 exact Hs (Nat.or_lt_two_pow (n:=64) a hm)
theorem dO{n:Nat}(a:n<18446744073709551616):FS .u64 (n:Int)=((18446744073709551615-n:Nat):Int):=by
 unfold FS HT
 have e:(if IntKind.u64.signed=true then(-1:Int)else IntKind.u64.max)=((18446744073709551615:Nat):Int):=rfl
 rw[e]
 have h:(BitVec.ofInt 64 ((18446744073709551615:Nat):Int)^^^BitVec.ofInt 64 (n:Int)).toNat=18446744073709551615-n:=by
  rw[Hy,Hy,show BitVec.ofNat 64 18446744073709551615=BitVec.allOnes 64 from rfl,BitVec.allOnes_xor,BitVec.toNat_not,Ir,Gh a]
 show IntKind.u64.wrap (((BitVec.ofInt 64 ((18446744073709551615:Nat):Int)^^^BitVec.ofInt 64 (n:Int)).toNat:Nat):Int)=_
 rw[h]
 exact Hs (by omega)
theorem gb(n:Nat):n&&&9218868437227405312=(n/4503599627370496%2048)*4503599627370496:=by
 have e:(9218868437227405312:Nat)=2047<<<52:=rfl
 have a:n/4503599627370496%2048*4503599627370496=((n>>>52)%2^11)<<<52:=by
  rw[Nat.shiftLeft_eq,Nat.shiftRight_eq_div_pow]
 rw[e,a]
 apply Nat.eq_of_testBit_eq
 intro i
 have b:(2047:Nat)=2^11-1:=rfl
 rw[Nat.testBit_and,Rf,Rf,Nat.testBit_mod_two_pow,Nat.testBit_shiftRight,b,Nat.testBit_two_pow_sub_one]
 by_cases h:52≤i
 ·rw[show 52+(i-52)=i by omega]
  simp only[h,YB,Hb]
  rw[Bool.and_comm]
 ·simp[h]
theorem fw(n:Nat):n&&&4503599627370495=n%4503599627370496:=Nat.and_two_pow_sub_one_eq_mod n 52
theorem ed{n:Nat}(b:n<18446744073709551616):n&&&9223372036854775808=if 9223372036854775808≤n then 9223372036854775808 else 0:=by
 have e:(9223372036854775808:Nat)=2^63:=rfl
 have k:n.testBit 63=decide (9223372036854775808≤n):=by
  rw[Nat.testBit_eq_decide_div_mod_eq,decide_eq_decide]
  omega
 apply Nat.eq_of_testBit_eq
 intro i
 rw[Nat.testBit_and]
 by_cases hi:63=i
 ·subst hi
  rw[k]
  by_cases h:9223372036854775808≤n
  ·simp[h]
  ·simp[h]
 ·have a:Nat.testBit 9223372036854775808 i=false:=by
   rw[e,Nat.testBit_two_pow]
   exact DW hi
  rw[a,Ke]
  split
  ·exact a.symm
  ·simp
def GS(n:Nat):Bool:=decide (9218868437227405312<n%9223372036854775808)
theorem kH{n:Nat}(e:n<18446744073709551616):Ok (fun y:Int=>decide (y=0)=GS n) (NS (n:Int)):=by
 have a:=OO e (m:=9218868437227405312) (by omega)
 have b:=OO e (m:=4503599627370495) (by omega)
 rw[gb]at a
 rw[fw]at b
 have a:BR .u64 (n:Int) 9218868437227405312=_:=a
 have b:BR .u64 (n:Int) 4503599627370495=_:=b
 dsimp only[NS,br,vz,lr,br]
 rw[a,b]
 unfold GS
 have f:(((n/4503599627370496%2048*4503599627370496:Nat):Int)=9218868437227405312)↔n/4503599627370496%2048=2047:=by omega
 have g:(((n%4503599627370496:Nat):Int)=0)↔n%4503599627370496=0:=by omega
 have h:9218868437227405312<n%9223372036854775808↔n/4503599627370496%2048=2047∧n%4503599627370496≠0:=by omega
 simp only[f,g,h]
 by_cases c:n/4503599627370496%2048=2047
 ·by_cases d:n%4503599627370496=0
  ·simp only[c,d];exact Bj (by decide)
  ·simp only[c,d];exact Bj (by simp[d])
 ·have i:decide (n/4503599627370496%2048=2047)=false:=DW c
  simp only[i,c,Ha,Kc,YI,Yf,Yr]
  refine A6 (fun _=>Bj (by decide)) fun _=>A6 (fun _=>Bj (by decide)) fun _=>Bj (by decide)
theorem me{n:Nat}(b:n<18446744073709551616):Ok (fun y:Int=>decide (y=0)=GS n) (Nw (n:Int)):=by
 have e:FJ .u64 (n:Int) 9223372036854775808=((n%9223372036854775808:Nat):Int):=by
  unfold FJ
  rw[Int.tmod_eq_emod_of_nonneg (by omega)]
  omega
 dsimp only[Nw,br,lr,br,rem]
 rw[e]
 unfold GS
 have g:(9218868437227405312:Int)<((n%9223372036854775808:Nat):Int)↔9218868437227405312<n%9223372036854775808:=by omega
 simp only[g]
 by_cases h:9218868437227405312<n%9223372036854775808
 ·simp only[h];first|exact Bj (by decide)|simp
 ·have a:decide (9218868437227405312<n%9223372036854775808)=false:=DW h
  simp only[a,Yf,Yr]
  first
   |refine A6 (fun _=>Bj (by decide)) fun _=>A6 (fun _=>Bj (by decide)) fun _=>A6 (fun _=>Bj (by decide)) fun _=>Bj (by decide)
   |simp
def CH(n:Nat):Nat:=if GS n=true then 18446744073709551615 else if 9223372036854775808≤n then 18446744073709551615-n else n+9223372036854775808
theorem XS{n:Nat}(a:n<18446744073709551616):NT (n:Int)=some (CH n:Int):=by
 obtain⟨y,e,h⟩:=kH a
 have c:=OO a (m:=9223372036854775808) (by omega)
 rw[ed a]at c
 have c:BR .u64 (n:Int) 9223372036854775808=_:=c
 have d:=dO a
 have f:DR .u64 (n:Int) 9223372036854775808=((n|||9223372036854775808:Nat):Int):=gL a (m:=9223372036854775808) (by omega)
 dsimp only[NT,br,vz,lr,cl,br]
 rw[e,Yg,h,c,d,f]
 unfold CH
 cases GS n with
 |true=>rfl
 |false=>
  by_cases hs:9223372036854775808≤n
  ·simp[hs]
  ·have g:n|||9223372036854775808=n+9223372036854775808:=by
    have j:=Nat.two_pow_add_eq_or_of_lt (i:=63) (b:=n) (by omega) 1
    rw[Nat.or_comm]
    have k:9223372036854775808+n=9223372036854775808|||n:=j
    exact k.symm.trans (Kj _ _)
   simp[hs,g]
theorem Xq{v:Val}{n:Nat}(i:n<18446744073709551616)(g:v.bits=(n:Int)):Ny v=some (if v.kind=2∨v.kind=3 then IntKind.u64.wrap ((n:Int)+9223372036854775808)else if v.kind=6 then(CH n:Int)else(n:Int)):=by
 obtain⟨y,e,h⟩:=me i
 dsimp only[Ny,OG,br,vz,wg,lr,cl,br,Ry,lr]
 rw[g]
 by_cases a:v.kind=2∨v.kind=3
 ·have b:(decide (v.kind=2)||decide (v.kind=3))=true:=by simpa using a
  simp only[b,a,Yx]
  rfl
 ·have b:(decide (v.kind=2)||decide (v.kind=3))=false:=by simpa using a
  simp only[b,a,Yf,Yr]
  by_cases f:v.kind=6
  ·have j:=Hs (n:=18446744073709551615-n) (by omega)
   simp only[f,YB,YU,Yf,Yr,e,Yg,h]
   unfold CH
   cases GS n with
   |true=>rfl
   |false=>
    by_cases hs:9223372036854775808≤n
    ·have c:(9223372036854775808:Int)≤(n:Int):=by omega
     have d:(18446744073709551615:Int)-(n:Int)=((18446744073709551615-n:Nat):Int):=by omega
     simp[hs,c,d,j]
    ·have c:¬(9223372036854775808:Int)≤(n:Int):=by omega
     have d:(n:Int)+9223372036854775808=((n+9223372036854775808:Nat):Int):=by omega
     have w2:=Hs (n:=n+9223372036854775808) (by omega)
     simp only[hs,c,d,w2,YI,Yf,Yr,Yx]
  ·simp[f]
def Bw(a b:Int):Int:=if a<b then -1 else if b<a then 1 else 0
theorem GH(a b:Int):decide (Bw a b=0)=decide (a=b):=by
 unfold Bw
 by_cases h:a<b
 ·rw[Yj h,DW (by omega:¬a=b)];rfl
 ·rw[Yq h]
  by_cases c:b<a
  ·rw[Yj c,DW (by omega:¬a=b)];rfl
  ·rw[Yq c,G9 (by omega:a=b)];rfl
theorem FX(a b:Int):NE a b=some (Bw a b):=by
 dsimp only[NE,br,lr,cl,br,R0,lr]
 unfold Bw
 by_cases h:a<b
 ·simp[h]
 ·by_cases c:b<a<;>simp[h,c]
theorem P8(a b:Int):NK a b=some (Bw a b):=by
 dsimp only[NK,br,lr,cl,br,RK,lr]
 unfold Bw
 by_cases h:a<b
 ·simp[h]
 ·by_cases c:b<a<;>simp[h,c]
theorem FY(a b:Int):NB a b=some (Bw a b):=by
 dsimp only[NB,br,lr,br]
 unfold Bw
 by_cases h:a<b
 ·simp[h]
 ·by_cases c:b<a<;>simp[h,c]
def EY(a b:ByteArray):Int:=if Ba a b=true then -1 else if a=b then 0 else 1
theorem Lq(a b:ByteArray):decide (EY a b=0)=decide (a=b):=by
 unfold EY
 by_cases h:a=b
 ·subst h
  have:Ba a a=false:=by
   unfold Ba
   rw[Go.Proofs.bytesLess_eq]
   exact DW (List.lt_irrefl _)
  simp[this]
 ·cases Ba a b<;>simp[h]
theorem XL(a b:ByteArray):NL a b=some (EY a b):=by
 dsimp only[NL,br,lr,cl,br,RP,lr]
 unfold EY
 cases h:Ba a b with
 |true=>simp
 |false=>by_cases c:a=b<;>simp[c]
theorem lJ{d x:Val}(z:1≤d.kind∧d.kind≤9)(o:Bi d)(p:Bi x)(he:d.kind=x.kind):Ok (fun c:Int=>decide (c=0)=(if d.kind=7∨d.kind=8 then decide (d.text=x.text)else if d.kind=6 then decide (CH d.bits.toNat=CH x.bits.toNat)else decide (d.bits=x.bits))) (Kr d x)∧Ok (fun c:Int=>decide (c=0)=(if d.kind=7∨d.kind=8 then decide (d.text=x.text)else if d.kind=6 then decide (CH d.bits.toNat=CH x.bits.toNat)else decide (d.bits=x.bits))) (IB d x):=by
 obtain⟨n,m⟩:=Rk (Lp o).1
 obtain⟨k,l⟩:=Rk (Lp p).1
 have r:n<18446744073709551616:=by have:=(Lp o).2;omega
 have q:k<18446744073709551616:=by have:=(Lp p).2;omega
 have y:(decide (1≤d.kind)&&decide (d.kind≤9))=true:=by simp[z]
 obtain⟨E,f⟩:∃E,E=(if d.kind=7∨d.kind=8 then decide (d.text=x.text)else if d.kind=6 then decide (CH d.bits.toNat=CH x.bits.toNat)else decide (d.bits=x.bits)):=⟨_,rfl⟩
 rw[←f]
 have C:=Xq r m
 have w:=Xq q l
 rw[←he]at w
 have t:(decide (1≤x.kind)&&decide (x.kind≤9))=true:=by rw[←he];exact y
 have B:¬d.kind<x.kind:=by omega
 have A:¬x.kind<d.kind:=by omega
 dsimp only[Kr,br,vz,wg,lr,cl,br,N7,lr,RR,lr,IB,br,wg,lr,cl,br,NM,lr,Rq,lr]
 simp only[he,YB,YU,Yf,Yr,t,Yg,YI,Yx,Ng]
 rw[←he]
 by_cases s:d.kind=7∨d.kind=8
 ·have i:(decide (d.kind=7)||decide (d.kind=8))=true:=by simpa using s
  rw[Yj s]at f
  simp only[i,Yx,Hb,XL,Yg]
  refine⟨Bj (by rw[f];exact Lq _ _),?_⟩
  have e:(if Ba d.text x.text=true then some (-1:Int)else if(!(Ba d.text x.text||decide (d.text=x.text)))=true then some 1 else some 0)=some (EY d.text x.text):=by
   unfold EY
   cases h:Ba d.text x.text with
   |true=>simp
   |false=>by_cases u:d.text=x.text<;>simp[u]
  rw[e]
  exact Bj (by rw[f];exact Lq _ _)
 ·have i:(decide (d.kind=7)||decide (d.kind=8))=false:=by simpa using s
  rw[Yq s]at f
  simp only[i,Yf,Yr,Ha,C,w,Yg]
  have rr:∀a b:Int,(if decide (a<b)=true then some (-1:Int)else if decide (b<a)=true then some 1 else some 0)=some (Bw a b):=fun a b=>by
   unfold Bw
   by_cases h:a<b
   ·simp[h]
   ·by_cases u:b<a<;>simp[h,u]
  rw[rr]
  by_cases hs:d.kind=2∨d.kind=3
  ·have g:(decide (d.kind=2)||decide (d.kind=3))=true:=by simpa using hs
   have j:¬d.kind=6:=by omega
   rw[Yq j]at f
   simp only[g,hs,Yx,FX,Yg]
   refine⟨Bj (by rw[f,GH,decide_eq_decide,m,l,IntKind.wrap_i64,IntKind.wrap_i64];omega),Bj (by rw[f,GH,decide_eq_decide,m,l];unfold IntKind.wrap;simp only[show IntKind.u64.bits=64 from rfl,show IntKind.u64.signed=false from rfl,Ha,Yf,Yr];omega)⟩
  ·have g:(decide (d.kind=2)||decide (d.kind=3))=false:=by simpa using hs
   simp only[g,hs,Yf,Yr]
   by_cases j:d.kind=6
   ·rw[Yj j]at f
    have v:(CH d.bits.toNat=CH x.bits.toNat)↔((CH n:Int)=(CH k:Int)):=by rw[m,l];simp only[G6];omega
    simp only[j,YB,Yx,m,l,XS r,XS q,Yg,P8]
    exact⟨Bj (by rw[f,GH,decide_eq_decide,v]),Bj (by rw[f,GH,decide_eq_decide,v])⟩
   ·rw[Yq j]at f
    simp only[j,YI,Yf,Yr,P8,Yg]
    exact⟨Bj (by rw[f,GH]),Bj (by rw[f,GH,decide_eq_decide,m,l])⟩
end Go.Proofs.YtifefgdogdecnaaGreatDoor
