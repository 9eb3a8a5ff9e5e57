import Derived.Test.YtalafnjhcecdpaaGreatDoorZb19
import Derived.Test.YtalafnjhcecdpaaGreatDoorZb09
import Derived.Test.YtalafnjhcecdpaaGreatDoorZb08
import Derived.Test.YtalafnjhcecdpaaGreatDoorRows
import Derived.WalkKit
import Derived.ProofKit
import Derived.OpenShut
import Derived.Carry
import Derived.Deep.DeepHandedRow
import Derived.Test.YtalafnjhcecdpaaGreatDoorZb11
import Derived.Test.YtalafnjhcecdpaaGreatDoorZb00
namespace Go.Proofs.YtalafnjhcecdpaaGreatDoor
set_option maxRecDepth 100000
set_option linter.all false
open Go Go.Eng
abbrev FE(a:Val):Ad×Blk:=kk 2 33 7 (cD (Ai a))
abbrev FG(a:Val):Ad×Blk:=kk 3 33 7 (cD (Ai a))
abbrev EH:Bool→AV:=fun y=>vB y
def gA(a:Val)(b:Val):Nat→St:=fun c=>Ac [pp 2,pp 3,(5,vN c)] [(FE a),(FG b)]
def gk(a:Val)(b:Val):Unit→Nat×St:=fun _=>(0,Ac [pp 2,pp 3] [(FE a),(FG b)])
abbrev Gz:=Val→Val→Option (Bool)
def PR(a:Val)(d:Val)(c:Gz):Nat→Option (Lv (Nat) (Unit) (Bool)):=fun b=>(wg<|vz (Aj a.list)<|br (decide ((b:Int)<(a.list.length:Int))) (wg<|ix a.list b fun e=>wg<|ix d.list b fun f=>cs Tryz.prog 12 [.agg ((Ai e).map .d),.agg ((Ai f).map .d)] [] [] (c e f) (fun y=>vB y) fun g=>br (!g) (Ar EH nG false) (vs (wa b 1)<|ln (gA a d) (b+1))) (Af (gk a d) ()):PT 0 _).m
def iZ(a:Val)(b:Val):Nat→St:=fun v5=>Ac [pp 2,pp 3,(6,vN v5)] [(FE a),(FG b)]
def fT(a:Val)(b:Val):Unit→Nat×St:=fun _=>(2,Ac [pp 2,pp 3] [(FE a),(FG b)])
def Qh(a:Val)(d:Val)(b:Gz):Nat→Option (Lv (Nat) (Unit) (Bool)):=fun v5=>(wg<|vz (Aj a.pairs)<|br (decide ((v5:Int)<(a.pairs.length:Int))) (wg<|ix a.pairs v5 fun g=>wg<|ix d.pairs v5 fun h=>cs Tryz.prog 12 [.agg ((Ai g.key).map .d),.agg ((Ai h.key).map .d)] [] [] (b g.key h.key) (fun y=>vB y) fun e=>wg<|Bs (!(!e)) a.pairs (v5:Int) fun i=>wg<|Bs (!(!e)) d.pairs (v5:Int) fun c=>Cy (!(!e)) Tryz.prog 12 [.agg ((Ai i.val).map .d),.agg ((Ai c.val).map .d)] [] [] (b i.val c.val) (fun y=>vB y) fun f=>br ((!e)||(!f)) (Ar EH nG false) (vs (wa v5 1)<|ln (iZ a d) (v5+1))) (Af (fT a d) ()):PT 0 _).m
def iK(b:Val)(c:Val):Nat→St:=fun a=>Ac [pp 2,pp 3,(7,vN a)] [(FE b),(FG c)]
def jF(a:Val)(b:Val):Unit→Nat×St:=fun _=>(4,Ac [pp 2,pp 3] [(FE a),(FG b)])
def Qg(d:Val)(g:Val)(h:Gz):Nat→Option (Lv (Nat) (Unit) (Bool)):=fun a=>(wg<|vz (Aj d.slots)<|br (decide ((a:Int)<(d.slots.length:Int))) (wg<|ix d.slots a fun b=>wg<|ix g.slots a fun c=>wg<|Bs (!(!decide (b.num=c.num))) d.slots (a:Int) fun e=>wg<|Bs (!(!decide (b.num=c.num))) g.slots (a:Int) fun f=>Cy (!(!decide (b.num=c.num))) Tryz.prog 12 [.agg ((Ai e.val).map .d),.agg ((Ai f.val).map .d)] [] [] (h e.val f.val) (fun y=>vB y) fun i=>br ((!decide (b.num=c.num))||(!i)) (Ar EH nG false) (vs (wa a 1)<|ln (iK d g) (a+1))) (Af (jF d g) ()):PT 0 _).m
def gG(b:Val)(c:Val):Nat→St:=fun a=>Ac [pp 2,pp 3,(8,vN a)] [(FE b),(FG c)]
def iO:Unit→Nat×St:=fun _=>(6,Ac [] [])
def PY(d:Val)(e:Val)(f:Gz):Nat→Option (Lv (Nat) (Unit) (Bool)):=fun a=>(wg<|vz (Aj d.raws)<|br (decide ((a:Int)<(d.raws.length:Int))) (wg<|ix d.raws a fun b=>wg<|ix e.raws a fun c=>br (!(decide (b.num=c.num)&&(decide (b.wire=c.wire)&&(decide (b.bits=c.bits)&&(decide (b.data=c.data)&&true))))) (Ar EH nG false) (vs (wa a 1)<|ln (gG d e) (a+1))) (Af (iO) ()):PT 0 _).m
def R3(c:Gz)(a:Val)(b:Val):Option (Bool):=(wg<|wg<|wg<|wg<|wg<|wg<|wg<|vy (!(((!decide (a.kind=b.kind))||(!decide (a.bits=b.bits)))||(!decide (a.text=b.text)))) (Aj a.list)<|wg<|vy (!(((!decide (a.kind=b.kind))||(!decide (a.bits=b.bits)))||(!decide (a.text=b.text)))) (Aj b.list)<|wg<|vy (!((((!decide (a.kind=b.kind))||(!decide (a.bits=b.bits)))||(!decide (a.text=b.text)))||(!decide ((a.list.length:Int)=(b.list.length:Int))))) (Aj a.pairs)<|wg<|vy (!((((!decide (a.kind=b.kind))||(!decide (a.bits=b.bits)))||(!decide (a.text=b.text)))||(!decide ((a.list.length:Int)=(b.list.length:Int))))) (Aj b.pairs)<|wg<|vy (!(((((!decide (a.kind=b.kind))||(!decide (a.bits=b.bits)))||(!decide (a.text=b.text)))||(!decide ((a.list.length:Int)=(b.list.length:Int))))||(!decide ((a.pairs.length:Int)=(b.pairs.length:Int))))) (Aj a.slots)<|wg<|vy (!(((((!decide (a.kind=b.kind))||(!decide (a.bits=b.bits)))||(!decide (a.text=b.text)))||(!decide ((a.list.length:Int)=(b.list.length:Int))))||(!decide ((a.pairs.length:Int)=(b.pairs.length:Int))))) (Aj b.slots)<|wg<|vy (!((((((!decide (a.kind=b.kind))||(!decide (a.bits=b.bits)))||(!decide (a.text=b.text)))||(!decide ((a.list.length:Int)=(b.list.length:Int))))||(!decide ((a.pairs.length:Int)=(b.pairs.length:Int))))||(!decide ((a.slots.length:Int)=(b.slots.length:Int))))) (Aj a.raws)<|wg<|vy (!((((((!decide (a.kind=b.kind))||(!decide (a.bits=b.bits)))||(!decide (a.text=b.text)))||(!decide ((a.list.length:Int)=(b.list.length:Int))))||(!decide ((a.pairs.length:Int)=(b.pairs.length:Int))))||(!decide ((a.slots.length:Int)=(b.slots.length:Int))))) (Aj b.raws)<|br (((((((!decide (a.kind=b.kind))||(!decide (a.bits=b.bits)))||(!decide (a.text=b.text)))||(!decide ((a.list.length:Int)=(b.list.length:Int))))||(!decide ((a.pairs.length:Int)=(b.pairs.length:Int))))||(!decide ((a.slots.length:Int)=(b.slots.length:Int))))||(!decide ((a.raws.length:Int)=(b.raws.length:Int)))) (lr EH nG false) (lc (Ac [pp 2,pp 3] [(FE a),(FG b)]) ((lc (Ac [pp 2,pp 3,(5,vI 0)] [(FE a),(FG b)]) ((Ah (PR a b c) Ag 0).bind (Sum.elim (fun _=>(lc (Ac [pp 2,pp 3,(6,vI 0)] [(FE a),(FG b)]) ((Ah (Qh a b c) Ag 0).bind (Sum.elim (fun _=>(lc (Ac [pp 2,pp 3,(7,vI 0)] [(FE a),(FG b)]) ((Ah (Qg a b c) Ag 0).bind (Sum.elim (fun _=>(lc (Ac [pp 2,pp 3,(8,vI 0)] [(FE a),(FG b)]) ((Ah (PY a b c) Ag 0).bind (Sum.elim (fun _=>(lr EH nG true:PT 0 _).m) some)):PT 0 _).m) some)):PT 0 _).m) some)):PT 0 _).m) some)):PT 0 _).m)):PT 0 _).m
abbrev N9(a:Gz):Prop:=∀(b:Val) (c:Val),KC Tryz.prog 12 [.agg ((Ai b).map .d),.agg ((Ai c).map .d)] (a b c) EH
theorem ZzT{C:Cx}(co:CO C 0)(e:Val)(f:Val)(a:Gz)(d:N9 a):KL Tryz.prog (As tl) 174 C (pa [0,0,1,0,1,1] (At Tryz.f12)) [.tmp 4] 0 (gA e f) (gk e f) EH nG (PR e f a):=fun k _ m Q h j L=>eN co (Ab [2,3,5] C7) (Ab [2,3] C7) j m L fun r g=>⟨fun b=>fun c=>⟨fun y hy i _ _=>by rw[(d b c).x,(d b c).e];exact(d b c).k _ i y hy,fun l=>⟨id,id⟩⟩,id⟩
theorem u4{C:Cx}(co:CO C 0)(i:Val)(j:Val)(c:Gz)(b:N9 c):KL Tryz.prog (As tl) 174 C (pa [0,0,1,0,1,1,1] (At Tryz.f12)) [.tmp 4] 0 (iZ i j) (fT i j) EH nG (Qh i j c):=fun v5 _ m Q k l L=>eN co (Ab [2,3,6] C7) (Ab [2,3] C7) l m L fun r g=>⟨fun e=>fun f=>⟨fun y hy d _ _=>by rw[(b e.key f.key).x,(b e.key f.key).e];exact(b e.key f.key).k _ d y hy,fun o=>fun h=>fun a=>⟨fun y hy d _ _=>by rw[(b h.val a.val).x,(b h.val a.val).e];exact(b h.val a.val).k _ d y hy,fun n=>⟨id,id⟩⟩⟩,id⟩
theorem ZzJ{C:Cx}(co:CO C 0)(e:Val)(f:Val)(c:Gz)(d:N9 c):KL Tryz.prog (As tl) 174 C (pa [0,0,1,0,1,1,1,1] (At Tryz.f12)) [.tmp 4] 0 (iK e f) (jF e f) EH nG (Qg e f c):=fun n _ m Q h l L=>eN co (Ab [2,3,7] C7) (Ab [2,3] C7) l m L fun r g=>⟨fun j=>fun k=>fun a=>fun b=>⟨fun y hy i _ _=>by rw[(d a.val b.val).x,(d a.val b.val).e];exact(d a.val b.val).k _ i y hy,fun o=>⟨id,id⟩⟩,id⟩
theorem u5{C:Cx}(co:CO C 0)(c:Val)(d:Val)(a:Gz)(g:N9 a):KL Tryz.prog (As tl) 174 C (pa [0,0,1,0,1,1,1,1,1] (At Tryz.f12)) [.tmp 4] 0 (gG c d) (iO) EH nG (PY c d a):=fun f _ m Q b e L=>eN co (Ab [2,3,8] C7) nl e m L
theorem wQ(a:Gz)(d:N9 a)(b:Val)(c:Val):KC Tryz.prog 12 [.agg ((Ai b).map .d),.agg ((Ai c).map .d)] (R3 a b c) EH:=kC Tryz.func12 Tryz.ntmps12 [.tmp 4] fun co m L=>mJ co 2 (Ab [2,3] C7) nl nH m L fun r g=>⟨id,fun _ m L=>sq (mJ co 1 (Ab [2,3,5] C7) nl nH m L fun r g=>fun _ m L=>bk 0 (lo (Ay (ZzT co b c a d) nH m L (fun _ m=>sq (mJ co 1 (Ab [2,3,6] C7) nl nH m L fun r g=>fun _ m L=>bk 2 (lo (Ay (u4 co b c a d) nH m L (fun _ m=>sq (mJ co 1 (Ab [2,3,7] C7) nl nH m L fun r g=>fun _ m L=>bk 4 (lo (Ay (ZzJ co b c a d) nH m L (fun _ m=>sq (mJ co 1 (Ab [2,3,8] C7) nl nH m L fun r g=>fun _ m L=>bk 6 (lo (Ay (u5 co b c a d) nH m L (fun _ m=>fO co m L))))))))))))))))⟩
def Kg:Nat→Val→Val→Option (Bool)
 |0=>fun _ _=>none
 |a+1=>R3 (Kg a)
theorem k8:∀(c:Nat) (a:Val) (b:Val),KC Tryz.prog 12 [.agg ((Ai a).map .d),.agg ((Ai b).map .d)] (Kg c a b) EH
 |0,a,b=>⟨fun _ _ _ h=>(by cases h),by intro r;kernel_rfl,by intro r y;kernel_rfl⟩
 |c+1,a,b=>wQ (Kg c) (k8 c) a b
abbrev zc:List (Ad×Bool):=[((1,2),false),((1,4),false)]
abbrev kQ:Bool→AV:=fun y=>vB y
def mh(a:Int):Option (Bool):=(lr kQ nG (decide (a=(2:Int))||decide (a=(3:Int))):PT 0 _).m
theorem xI(a:Int):KC Tryz.prog 259 [vI a] (mh a) kQ:=kC Tryz.func259 Tryz.ntmps259 [.tmp 2] fun co m L=>fO co m L
abbrev OB:Int→AV:=fun y=>.d (.int .u64 y)
def aT(a:Val):PT 0 (Int):=wg<|vz (wk .u64 (a.bits+9223372036854775808))<|lr OB nG (IntKind.u64.wrap (a.bits+9223372036854775808))
def ZF(a:Val):Option (Int):=(wg<|cl (xI a.kind) fun b=>br b (aT a) (wg<|br (!decide (a.kind=(6:Int))) (wg<|lr OB nG a.bits) (wg<|cl (ge a.bits) fun c=>br (decide (c=(0:Int))) (lr OB nG 18446744073709551615) (wg<|br (decide ((9223372036854775808:Int)≤a.bits)) (wg<|vz (wk .u64 ((18446744073709551615:Int)-a.bits))<|lr OB nG (IntKind.u64.wrap ((18446744073709551615:Int)-a.bits))) (aT a)))):PT 0 _).m
theorem U4(a:Val):KC Tryz.prog 241 [.agg ((Ai a).map .d)] (ZF a) OB:=kC Tryz.func241 Tryz.ntmps241 [.tmp 2] fun co m L=>fO co m L
abbrev Ik:Int→AV:=fun y=>vI y
def mm(a:Val)(b:Val):Option (Int):=(wg<|wg<|br (decide (a.kind<b.kind)) (lr Ik nG (-1)) (wg<|wg<|br (decide (b.kind<a.kind)) (lr Ik nG 1) (wg<|cl (jG a.kind) fun c=>br (!c) (lr Ik nG 0) (wg<|cl (Uy a.kind) fun d=>wg<|wg<|br (d&&BC a.text b.text) (lr Ik nG (-1)) (wg<|cl (Uy a.kind) fun e=>wg<|wg<|br (e&&(!(BC a.text b.text||decide (a.text=b.text)))) (lr Ik nG 1) (wg<|cl (Uy a.kind) fun f=>br f (lr Ik nG 0) (wg<|cl (U4 a) fun g=>wg<|cl (U4 b) fun h=>br (decide (g<h)) (lr Ik nG (-1)) (wg<|cl (U4 a) fun i=>wg<|cl (U4 b) fun j=>br (decide (j<i)) (lr Ik nG 1) (lr Ik nG 0)))))))):PT 0 _).m
end Go.Proofs.YtalafnjhcecdpaaGreatDoor
namespace Go.Proofs.YtalafnjhcecdpaaGreatDoor
set_option maxRecDepth 100000
set_option linter.all false
open Go Go.Eng
abbrev UC:Ad×Blk:=kk 4 33 7 [vI 0,.d (.int .u64 0),vS ⟨#[]⟩,.e0,.e0,.e0,.e0]
abbrev Qs:Val×Bool→AV:=fun y=>.tup [.agg ((Ai y.1).map .d),vB y.2]
def fU(a:Val)(b:Int):Nat→St:=fun c=>Ac [(1,vI b),pp 4,(9,vL Ao a.slots),(10,vN a.slots.length),(11,vN c)] [UC]
def gS:Unit→Nat×St:=fun _=>(0,Ac [pp 4] [UC])
def PV(b:Val)(d:Int):Nat→Option (Lv (Nat) (Unit) (Val×Bool)):=fun a=>(br (decide ((a:Int)<(b.slots.length:Int))) (ix b.slots a fun c=>wg<|wg<|br (decide (c.num=d)) (wg<|wg<|Ar Qs nG (c.val,true)) (vs (wa a 1)<|ln (fU b d) (a+1))) (Af (gS) ()):PT 0 _).m
def ZB(a:Val)(b:Int):Option (Val×Bool):=(lc (Ac [(1,vI b),pp 2,pp 4] [kk 2 33 7 (cD (Ai a)),UC]) ((wg<|vz (Aj a.slots)<|lc (Ac [(1,vI b),pp 4,(9,vL Ao a.slots),(10,vN a.slots.length),(11,vI 0)] [UC]) ((Ah (PV a b) Ag 0).bind (Sum.elim (fun _=>(wg<|lr Qs nG ((.mk 0 0 ⟨#[]⟩ [] [] [] []:Val),false):PT 0 _).m) some)):PT 0 _).m):PT 0 _).m
theorem Zzu{C:Cx}(co:CO C 0)(b:Val)(c:Int):KL Tryz.prog (As tl) 23 C (pa [0,0,1,0,1] (At Tryz.f42)) [.cell 4 33,.tmp 5] 0 (fU b c) (gS) Qs nG (PV b c):=fun e _ m Q a d L=>eN co (Ab [1,4,9,10,11] Ea) (Ab [4] Ea) d m L
theorem zt(a:Val)(b:Int):KC Tryz.prog 42 [.agg ((Ai a).map .d),vI b] (ZB a b) Qs:=kC Tryz.func42 Tryz.ntmps42 [.cell 4 33,.tmp 5] fun co m L=>mJ co 1 (Ab [1,2,4] zc) nl nH m L fun r g=>fun _ m L=>sq (mJ co 1 (Ab [1,4,9,10,11] Ea) nl nH m L fun r g=>fun _ m L=>bk 0 (lo (Ay (Zzu co a b) nH m L (fun _ m=>fO co m L))))
abbrev Ww(a:Raw):Ad×Blk:=kk 3 44 4 (cD (Az a))
abbrev Vs:Int→AV:=fun y=>vI y
def Wo(a:List Raw)(b:Raw):Nat×Nat→St:=fun(c,v2)=>Ac [pp 3,(5,vN c),(8,vL Az a),(9,vN a.length),(10,vN v2)] [(Ww b)]
def jB:Nat→Nat×St:=fun v4=>(0,Ac [(5,vN v4)] [])
def M6(c:List Raw)(a:Raw):Nat×Nat→Option (Lv (Nat×Nat) (Nat) (Int)):=fun(d,v2)=>(br (decide ((v2:Int)<(c.length:Int))) (ix c v2 fun b=>wg<|wg<|wg<|br (decide (a.num=b.num)&&(decide (a.wire=b.wire)&&(decide (a.bits=b.bits)&&(decide (a.data=b.data)&&true)))) (vs (wa d 1)<|vs (wa v2 1)<|ln (Wo c a) (d+1,v2+1)) (vs (wa v2 1)<|ln (Wo c a) (d,v2+1))) (Af (jB) d):PT 0 _).m
def Zz(a:List Raw)(b:Raw):Option (Int):=(lc (Ac [(0,vL Az a),pp 3,(5,vI 0)] [(Ww b)]) ((vz (Aj a)<|lc (Ac [pp 3,(5,vI 0),(8,vL Az a),(9,vN a.length),(10,vI 0)] [(Ww b)]) ((Ah (M6 a b) Ag (0,0)).bind (Sum.elim (fun v4=>(lr Vs nG (v4:Int):PT 0 _).m) some)):PT 0 _).m):PT 0 _).m
theorem uj{C:Cx}(co:CO C 0)(b:List Raw)(c:Raw):KL Tryz.prog (As tl) 21 C (pa [0,0,1,0,1,1] (At Tryz.f43)) [.tmp 4] 0 (Wo b c) (jB) Vs nG (M6 b c):=fun(e,v2) _ m Q a d L=>eN co (Ab [3,5,8,9,10] [((1,3),false)]) (AP [5]) d m L
theorem l5(a:List Raw)(b:Raw):KC Tryz.prog 43 [vL Az a,.agg ((Az b).map .d)] (Zz a b) Vs:=kC Tryz.func43 Tryz.ntmps43 [.tmp 4] fun co m L=>mJ co 2 (Ab [0,3,5] [((1,3),false)]) nl nH m L fun r g=>fun _ m L=>sq (mJ co 1 (Ab [3,5,8,9,10] [((1,3),false)]) nl nH m L fun r g=>fun _ m L=>bk 0 (lo (Ay (uj co a b) nH m L (fun v4 m=>fO co m L))))
abbrev K7(a:Val):Ad×Blk:=kk 2 33 7 (cD (Ai a))
abbrev K6(a:Val):Ad×Blk:=kk 3 33 7 (cD (Ai a))
abbrev IC:Bool→AV:=fun y=>vB y
def Wz(a:Val)(b:Val):Nat→St:=fun c=>Ac [pp 2,pp 3,(12,vL Ao a.slots),(13,vN a.slots.length),(14,vN c)] [(K7 a),(K6 b)]
def io(a:Val)(b:Val):Unit→Nat×St:=fun _=>(0,Ac [pp 2,pp 3] [(K7 a),(K6 b)])
def PQ(d:Val)(e:Val):Nat→Option (Lv (Nat) (Unit) (Bool)):=fun c=>(br (decide ((c:Int)<(d.slots.length:Int))) (ix d.slots c fun a=>wg<|wg<|wg<|cl (zt e a.num) fun b=>wg<|br (!b.2) (wg<|wg<|wg<|wg<|vy (!((decide (a.val.kind=(10:Int))||(!decide (a.val.bits=(0:Int))))||(!decide (a.val.text=(⟨#[]⟩:ByteArray))))) (Aj a.val.list)<|wg<|vy (!((decide (a.val.kind=(10:Int))||(!decide (a.val.bits=(0:Int))))||(!decide (a.val.text=(⟨#[]⟩:ByteArray))))) (Aj a.val.pairs)<|vg (!((decide (a.val.kind=(10:Int))||(!decide (a.val.bits=(0:Int))))||(!decide (a.val.text=(⟨#[]⟩:ByteArray))))) (wa a.val.list.length a.val.pairs.length)<|br (((decide (a.val.kind=(10:Int))||(!decide (a.val.bits=(0:Int))))||(!decide (a.val.text=(⟨#[]⟩:ByteArray))))||decide ((0:Int)<((a.val.list.length+a.val.pairs.length:Nat):Int))) (Ar IC nG false) (vs (wa c 1)<|ln (Wz d e) (c+1))) (wg<|wg<|wg<|wg<|wg<|vy (!((!decide (a.val.kind=b.1.kind))||(!decide (a.val.text=b.1.text)))) (Aj a.val.list)<|wg<|vy (!((!decide (a.val.kind=b.1.kind))||(!decide (a.val.text=b.1.text)))) (Aj b.1.list)<|wg<|vy (!(((!decide (a.val.kind=b.1.kind))||(!decide (a.val.text=b.1.text)))||(!decide ((a.val.list.length:Int)=(b.1.list.length:Int))))) (Aj a.val.pairs)<|wg<|vy (!(((!decide (a.val.kind=b.1.kind))||(!decide (a.val.text=b.1.text)))||(!decide ((a.val.list.length:Int)=(b.1.list.length:Int))))) (Aj b.1.pairs)<|wg<|wg<|wg<|br (((((!decide (a.val.kind=b.1.kind))||(!decide (a.val.text=b.1.text)))||(!decide ((a.val.list.length:Int)=(b.1.list.length:Int))))||(!decide ((a.val.pairs.length:Int)=(b.1.pairs.length:Int))))||((!decide (a.val.bits=b.1.bits))&&(!decide (a.val.kind=(6:Int))))) (Ar IC nG false) (vs (wa c 1)<|ln (Wz d e) (c+1)))) (Af (io d e) ()):PT 0 _).m
def gX(a:Val)(b:Val):Nat→St:=fun v4=>Ac [pp 2,pp 3,(112,vL Az a.raws),(113,vN a.raws.length),(114,vN v4)] [(K7 a),(K6 b)]
def gL:Unit→Nat×St:=fun _=>(2,Ac [] [])
def Qe(a:Val)(c:Val):Nat→Option (Lv (Nat) (Unit) (Bool)):=fun v4=>(br (decide ((v4:Int)<(a.raws.length:Int))) (ix a.raws v4 fun b=>wg<|wg<|wg<|cl (l5 a.raws b) fun d=>wg<|wg<|cl (l5 c.raws b) fun e=>br (!decide (d=e)) (Ar IC nG false) (vs (wa v4 1)<|ln (gX a c) (v4+1))) (Af (gL) ()):PT 0 _).m
def Sq(a:Val)(b:Val):Option (Bool):=(lc (Ac [pp 2,pp 3] [(K7 a),(K6 b)]) ((wg<|vz (Aj a.slots)<|lc (Ac [pp 2,pp 3,(12,vL Ao a.slots),(13,vN a.slots.length),(14,vI 0)] [(K7 a),(K6 b)]) ((Ah (PQ a b) Ag 0).bind (Sum.elim (fun _=>(wg<|vz (Aj a.raws)<|wg<|vz (Aj b.raws)<|br (!decide ((a.raws.length:Int)=(b.raws.length:Int))) (lr IC nG false) (lc (Ac [pp 2,pp 3] [(K7 a),(K6 b)]) ((wg<|vz (Aj a.raws)<|lc (Ac [pp 2,pp 3,(112,vL Az a.raws),(113,vN a.raws.length),(114,vI 0)] [(K7 a),(K6 b)]) ((Ah (Qe a b) Ag 0).bind (Sum.elim (fun _=>(lr IC nG true:PT 0 _).m) some)):PT 0 _).m)):PT 0 _).m) some)):PT 0 _).m):PT 0 _).m
theorem uT{C:Cx}(co:CO C 0)(a:Val)(b:Val):KL Tryz.prog (As tl) 128 C (pa [0,0,1,0,1] (At Tryz.f16)) [.tmp 4] 0 (Wz a b) (io a b) IC nG (PQ a b):=fun e _ m Q c d L=>eN co (Ab [2,3,12,13,14] C7) (Ab [2,3] C7) d m L
theorem tJ{C:Cx}(co:CO C 0)(b:Val)(c:Val):KL Tryz.prog (As tl) 128 C (pa [0,0,1,0,1,1,1] (At Tryz.f16)) [.tmp 4] 0 (gX b c) (gL) IC nG (Qe b c):=fun v4 _ m Q a d L=>eN co (Ab [2,3,112,113,114] C7) nl d m L
theorem zm(a:Val)(b:Val):KC Tryz.prog 16 [.agg ((Ai a).map .d),.agg ((Ai b).map .d)] (Sq a b) IC:=kC Tryz.func16 Tryz.ntmps16 [.tmp 4] fun co m L=>mJ co 1 (Ab [2,3] C7) nl nH m L fun r g=>fun _ m L=>sq (mJ co 1 (Ab [2,3,12,13,14] C7) nl nH m L fun r g=>fun _ m L=>bk 0 (lo (Ay (uT co a b) nH m L (fun _ m=>mJ co 1 (Ab [2,3] C7) nl nH m L fun r g=>⟨id,fun _ m L=>sq (mJ co 1 (Ab [2,3,112,113,114] C7) nl nH m L fun r g=>fun _ m L=>bk 2 (lo (Ay (tJ co a b) nH m L (fun _ m=>fO co m L))))⟩))))
abbrev J3:List (Ad×Bool):=[((1,5),false),((1,7),false)]
abbrev KZ(a:Val):Ad×Blk:=kk 5 33 7 (cD (Ai a))
abbrev KS(a:Val):Ad×Blk:=kk 7 33 7 (cD (Ai a))
abbrev E4:Bool→AV:=fun y=>vB y
def kP(a:Val)(b:Val):Nat→St:=fun v9=>Ac [pp 5,pp 7,(8,vN v9)] [(KZ a),(KS b)]
def lE(a:Val)(b:Val):Unit→Nat×St:=fun _=>(0,Ac [pp 5,pp 7] [(KZ a),(KS b)])
def Ox(d:Val)(a:Val):Nat→Option (Lv (Nat) (Unit) (Bool)):=fun v9=>(wg<|vz (Aj a.slots)<|br (decide ((v9:Int)<(a.slots.length:Int))) (wg<|vs (wi ((v9:Int)-1))<|CD a.slots ((v9:Int)-1) fun b=>wg<|ix a.slots v9 fun c=>br (decide (c.num≤b.num)) (Ar E4 nG false) (vs (wa v9 1)<|ln (kP d a) (v9+1))) (Af (lE d a) ()):PT 0 _).m
def kM(b:Val)(c:Val):Nat→St:=fun a=>Ac [pp 5,pp 7,(9,vN a)] [(KZ b),(KS c)]
def kf(a:Val)(b:Val):Unit→Nat×St:=fun _=>(2,Ac [pp 5,pp 7] [(KZ a),(KS b)])
def OK(e:Val)(b:Val):Nat→Option (Lv (Nat) (Unit) (Bool)):=fun a=>(wg<|vz (Aj b.raws)<|br (decide ((a:Int)<(b.raws.length:Int))) (wg<|vs (wi ((a:Int)-1))<|CD b.raws ((a:Int)-1) fun c=>wg<|ix b.raws a fun d=>br (decide (d.num<c.num)) (Ar E4 nG false) (vs (wa a 1)<|ln (kM e b) (a+1))) (Af (kf e b) ()):PT 0 _).m
def Zo(f:Scm)(g:ByteArray)(b:Val):Option (Bool):=(wg<|cl (sZ f) fun m=>wg<|wg<|AD (!(!m)) (Sa f g b) fun n=>br ((!m)||(!decide (n=(0:Int)))) (cl (fj) fun o=>lr E4 nG o) (wg<|wg<|cl (J2 (GQ Ag) (OH Ag) f g b) fun a=>wg<|wg<|wg<|cl (Sa f g a) fun j=>wg<|wg<|AD (!(!decide (j=(0:Int)))) (VJ f g a) fun l=>wg<|wg<|AD (!((!decide (j=(0:Int)))||(!l))) (J2 (GQ Ag) (OH Ag) f g a) fun p=>wg<|AD (!((!decide (j=(0:Int)))||(!l))) (k8 Ag p a) fun q=>br (((!decide (j=(0:Int)))||(!l))||(!q)) (lr E4 nG false) (lc (Ac [pp 5,pp 7] [(KZ b),(KS a)]) ((lc (Ac [pp 5,pp 7,(8,vI 1)] [(KZ b),(KS a)]) ((Ah (Ox b a) Ag 1).bind (Sum.elim (fun _=>(lc (Ac [pp 5,pp 7,(9,vI 1)] [(KZ b),(KS a)]) ((Ah (OK b a) Ag 1).bind (Sum.elim (fun _=>(wg<|wg<|cl (zm b a) fun c=>wg<|vy c (Aj a.slots)<|wg<|vy c (Aj b.slots)<|wg<|AD (c&&decide ((a.slots.length:Int)≤(b.slots.length:Int))) (R1 Ag a) fun d=>wg<|AD (c&&decide ((a.slots.length:Int)≤(b.slots.length:Int))) (R1 Ag b) fun e=>wg<|AD ((c&&decide ((a.slots.length:Int)≤(b.slots.length:Int)))&&decide (d≤e)) (Oc Ag a) fun h=>wg<|AD ((c&&decide ((a.slots.length:Int)≤(b.slots.length:Int)))&&decide (d≤e)) (Oc Ag b) fun i=>AD (((c&&decide ((a.slots.length:Int)≤(b.slots.length:Int)))&&decide (d≤e))&&decide (h≤i)) (fj) fun k=>lr E4 nG ((((c&&decide ((a.slots.length:Int)≤(b.slots.length:Int)))&&decide (d≤e))&&decide (h≤i))&&k):PT 0 _).m) some)):PT 0 _).m) some)):PT 0 _).m))):PT 0 _).m
theorem vD{C:Cx}(co:CO C 0)(a:Val)(b:Val):KL Tryz.prog (As tl) 117 C (pa [0,0,1,0,1,1,1,1] (At Tryz.f4)) [.tmp 6] 0 (kP a b) (lE a b) E4 nG (Ox a b):=fun v9 _ m Q c d L=>eN co (Ab [5,7,8] J3) (Ab [5,7] J3) d m L
theorem wt{C:Cx}(co:CO C 0)(a:Val)(b:Val):KL Tryz.prog (As tl) 117 C (pa [0,0,1,0,1,1,1,1,1] (At Tryz.f4)) [.tmp 6] 0 (kM a b) (kf a b) E4 nG (OK a b):=fun e _ m Q c d L=>eN co (Ab [5,7,9] J3) (Ab [5,7] J3) d m L
theorem sY(b:Scm)(c:ByteArray)(a:Val):KC Tryz.prog 4 [.agg ((Au b).map .d),vS c,.agg ((Ai a).map .d)] (Zo b c a) E4:=kC Tryz.func4 Tryz.ntmps4 [.tmp 6] fun co m L=>mJ co 4 (Ab [5,7] J3) nl nH m L fun r g=>fun e=>fun f=>⟨fun h=>id,fun d=>fun i=>fun j=>fun k=>fun l=>⟨id,fun _ m L=>sq (mJ co 1 (Ab [5,7,8] J3) nl nH m L fun r g=>fun _ m L=>bk 0 (lo (Ay (vD co a d) nH m L (fun _ m=>sq (mJ co 1 (Ab [5,7,9] J3) nl nH m L fun r g=>fun _ m L=>bk 2 (lo (Ay (wt co a d) nH m L (fun _ m=>fO co m L))))))))⟩⟩
end Go.Proofs.YtalafnjhcecdpaaGreatDoor
namespace Go.Proofs.YtalafnjhcecdpaaGreatDoor
set_option linter.all false
open Go Go.Eng Go.ChangeShapes Go.WideShapes Go.ChangeAt Go.RowKit
theorem oK{H:Type}(b:List UInt8):Rows.uptoBulk (DataW.lit (H:=H) (.string b))=b.length+1:=by simp only[Rows.uptoBulk]
theorem ZoV{H:Type}(a b:List (DataW H)):Rows.uptoBulk (.slice a b)=Rows.uptoBulkAll a+Rows.uptoBulkAll b+1:=by simp only[Rows.uptoBulk]
theorem ZwY{H:Type}(a:List (DataW H)):Rows.uptoBulk (.agg a)=Rows.uptoBulkAll a+1:=by simp only[Rows.uptoBulk]
def I7(W:World)(ds:List D)(cs:List Value)(o:Nat):Prop:=∀(i:Nat) (d:D),ds[i]?=some d→∃c,cs[o+i]?=some c∧RepD W (· <W.heap.size) d c
def KW(W:World)(ds:List D)(cs:List Value):Prop:=ds.length=cs.length∧I7 W ds cs 0
theorem I7.app{W:World}{ds a:List D}{cs:List Value}{o:Nat}(h:I7 W ds cs o)(k:I7 W a cs (o+ds.length)):I7 W (ds++a) cs o:=fun i d hi=>by
 rcases YF i ds.length with hl|hl
 ·rw[Ys hl]at hi;exact h i d hi
 ·rw[YE hl]at hi
  obtain⟨c,b,e⟩:=k _ d hi
  grind
theorem I7.nil{W:World}{cs:List Value}{o:Nat}:I7 W [] cs o:=fun i d h=>by simp at h
theorem KW.at{W:World}{ds:List D}{cs:List Value}{o k:Nat}(h:KW W ds ((cs.drop o).take k)):I7 W ds cs o:=fun i d hi=>by
 obtain⟨c,a,b⟩:=h.2 i d hi
 grind
def rk(k:IntKind)(n:Int):Nat:=if Lit.wf (.int k n)=true then 0 else 1000000000000
theorem xO{k:IntKind}{n:Int}(h:rk k n≤1048576):k.min≤n∧n≤k.max:=by
 unfold rk at h
 split at h
 ·rename_i a
  unfold Lit.wf at a
  rw[Yc]at a
  exact⟨YX a.1,YX a.2⟩
 ·omega
mutual
def bk:D→Nat
 |.int k n=>rk k n
 |.bool _=>0
 |.str s=>s.size
 |.list a=>AN a
 |.map _ a=>AN a
def An:List D→Nat
 |[]=>0
 |d::l=>bk d+An l
def AN:List (List D)→Nat
 |[]=>0
 |e::l=>An e+1+AN l
end
theorem MN:∀a b:List D,An (a++b)=An a+An b
 |[],b=>by rw[F3,An,YQ]
 |d::a,b=>by rw[IK,An,An,MN a b,YJ]
theorem ct(d:D):An [d]=bk d:=by rw[An,An,FY]
theorem CG{α:Type}{e:α→List D}:∀l:List α,l.length≤AN (l.map e)
 |[]=>Cj _
 |x::l=>by have:=CG (e:=e) l;rw[YV,AN,Eg];omega
theorem Dn{α:Type}{e:α→List D}{x:α}:∀{l:List α},x∈l→An (e x)+1≤AN (l.map e)
 |y::l,h=>by
  rw[YV,AN]
  cases Yu.1 h with
  |inl h=>subst h;omega
  |inr h=>have:=Dn (e:=e) h;omega
section
variable {H:Type} (enc:TypeId×Value→H) (P:Program) (W:World)
def Ci{α:Type}(n:Nat)(t:TypeId)(e:α→List D):Prop:=
 ∀cs x,DataW.trod enc P W 0 (fun _=>true) true n t cs=some x→∃v:α,KW W (e v) cs∧An (e v)+1≤Rows.uptoBulk x.1
end
section
variable {H:Type} {enc:TypeId×Value→H} {P:Program} {W:World} {n:Nat} {t:TypeId}
theorem bC(d:DataW H):1≤Rows.uptoBulk d:=by cases d<;>(try (rename_i l;cases l))<;>simp[Rows.uptoBulk]
theorem O5{d:D}{c:Value}(h:RepD W (· <W.heap.size) d c):KW W [d] [c]:=⟨rfl,fun i d' hi=>by
 cases i with
 |zero=>cases hi;exact⟨c,rfl,h⟩
 |succ i=>simp at hi⟩
theorem El{k:IntKind}(a:P.underlying t=some (.int k)):Ci enc P W n t (fun v:Int=>[.int k v]):=fun cs x hx=>by
 obtain⟨m,rfl,rfl,b⟩:=DataW.trod_int a hx
 refine⟨m,O5 (.int _ _),?_⟩
 rw[ct,bk,rk,Yj b]
 exact bC _
theorem pI(a:P.underlying t=some .bool):Ci enc P W n t (fun v:Bool=>[.bool v]):=fun cs x hx=>by
 obtain⟨m,rfl,rfl⟩:=DataW.trod_bool a hx
 exact⟨m,O5 (.bool _),bC _⟩
theorem Ep(a:P.underlying t=some .string):Ci enc P W n t (fun v:ByteArray=>[.str v]):=fun cs x hx=>by
 obtain⟨m,rfl,rfl,_⟩:=DataW.trod_string a hx
 refine⟨m,O5 (.str _),?_⟩
 rw[oK,ct]
 exact Yf _
theorem sb{α:Type}{e:α→List D}:∀(l:List α) (xs:List (DataW H×List MemPlace)),l.length=xs.length→(∀(i:Nat) (v:α),l[i]?=some v→∃y:DataW H×List MemPlace,xs[i]?=some y∧An (e v)+1≤Rows.uptoBulk y.1)→AN (l.map e)≤Rows.uptoBulkAll (xs.map (·.1))
 |[],_,_,_=>Cj _
 |x::l,[],h,_=>by cases h
 |x::l,y::xs,h,k=>by
  have:=sb l xs (V8 h) (fun i v hi=>k (i+1) v hi)
  obtain⟨c,a,b⟩:=k 0 x rfl
  cases a
  rw[YV,YV,AN]
  simp only[Rows.uptoBulkAll]
  omega
theorem p9{α:Type}{Q:Nat→α→Prop}:∀(len:Nat),(∀i,i<len→∃v,Q i v)→∃l:List α,l.length=len∧∀i v,l[i]?=some v→Q i v
 |0,_=>⟨[],rfl,fun i v h=>by simp at h⟩
 |len+1,h=>by
  obtain⟨l,a,b⟩:=p9 len (fun i hi=>h i (by omega))
  obtain⟨v,c⟩:=h len (by omega)
  refine⟨l++[v],by simp[a],fun i w hi=>?_⟩
  grind
theorem Dc{α:Type}{e:TypeId}{b:α→List D}{sz:Nat}(X:P.underlying t=some (.slice e))(E:P.cellsOf e=sz)(V:sz≠0)(hl:∀x,(b x).length=sz)(h:∀m,m<n→Ci enc P W m e b):
  Ci enc P W n t (fun l:List α=>[.list (l.map b)]):=fun cs x hx=>by
 rcases DataW.trod_slice X hx with⟨rfl,rfl⟩|⟨a,len,cap,g,J,m,rfl,rfl,rfl,Z,z,T,U,hi,_,_⟩
 ·exact⟨[],O5 .nil,bC _⟩
 ·have k:∀i,i<len→∃v:α,∃y f,g[i]?=some y∧W.cells? 0 (a.add (i*sz)) sz=some f∧KW W (b v) f∧An (b v)+1≤Rows.uptoBulk y.1:=fun i B=>by
   have I:=hi i B
   rw[Ya (by omega),E]at I
   obtain⟨f,N,O⟩:=fG.1 I
   obtain⟨v,Q,R⟩:=h m (by omega) f _ O
   exact⟨v,_,f,Ya (by omega),N,Q,R⟩
  obtain⟨l,A,r⟩:=p9 len k
  have cell:∀(i j:Nat) (e':List D) (x:D),(l.map b)[i]?=some e'→e'[j]?=some x→∃c,W.cell? (a.add (i*sz+j))=some c∧RepD W (· <W.heap.size) x c:=fun i j e' x d o=>by
   rw[YM]at d
   cases s:l[i]? with
   |none=>rw[s]at d;cases d
   |some v=>
    rw[s]at d
    cases d
    obtain⟨y,f,p,q,F,G⟩:=r i v s
    obtain⟨c,H,K⟩:=F.2 j x o
    rw[YQ]at H
    obtain⟨_,Y,L⟩:=World.cells?_some q
    have u:j<sz:=by
     rw[←hl v]
     rcases YF j (b v).length with h|h
     ·exact h
     ·rw[YO h]at o;cases o
    refine⟨c,?_,K⟩
    rw[←Go.Eng.add_add,L j u,H]
  refine⟨l,O5 ?_,?_⟩
  ·have hlen:(l.map b).length=len:=by simp[A]
   have:=RepD.list (w:=W) (S:=(· <W.heap.size)) (l.map b) a sz cap (fun i j=>(W.cell? (a.add (i*sz+j))).getD undef) (fun C=>by
     have M:0<len:=by
      rcases QY len with h|h
      ·exact absurd (IN (hlen.trans h)) C
      ·exact h
     obtain⟨v,y,f,_,q,_⟩:=k 0 M
     have:=World.cells?_block q (by omega)
     rw[NS]at this
     rw[←Go.Eng.block_add a 0];exact this)
    (by rw[hlen];exact z) (fun e' he=>by obtain⟨y,_,rfl⟩:=YR.1 he;exact hl y)
    (fun i j e' x d o=>by obtain⟨c,p,_⟩:=cell i j e' x d o;rw[p];rfl)
    (fun i j e' x d o=>by obtain⟨c,p,q⟩:=cell i j e' x d o;rw[p];exact q)
   rw[hlen]at this
   exact this
  ·rw[ZoV,ct,bk]
   have:=sb (e:=b) l g (by omega) (fun i v s=>by
    obtain⟨y,f,p,q,F,G⟩:=r i v s
    exact⟨y,p,G⟩)
   omega
def FB(xs:List (DataW H×List MemPlace))(i:Nat):Nat:=Rows.uptoBulkAll ((xs.drop i).map (·.1))
theorem Bn{xs:List (DataW H×List MemPlace)}{i:Nat}{a b:List D}(h:An a+1+FB xs (i+1)≤FB xs i)(k:An b≤FB xs (i+1)):An (a++b)≤FB xs i:=by
 rw[MN];omega
theorem Eo{xs:List (DataW H×List MemPlace)}{i:Nat}{a:List D}(h:An a+1+FB xs (i+1)≤FB xs i):An a≤FB xs i:=by omega
theorem Er{xs:List (DataW H×List MemPlace)}{a:List D}(h:An a≤FB xs 0):An a+1≤Rows.uptoBulk (.agg (xs.map (·.1))):=by
 rw[ZwY];exact Nat.succ_le_succ h
theorem Zw3{α:Type}{e:α→List D}{m i:Nat}{c:TypeId}{a:List Value}{xs:List (DataW H×List MemPlace)}(h:Ci enc P W m c e)(b:DataW.trod enc P W 0 (fun _=>true) true m c a=xs[i]?)(hi:i<xs.length):
  ∃v,KW W (e v) a∧An (e v)+1+FB xs (i+1)≤FB xs i:=by
 rw[Ya hi]at b
 obtain⟨v,d,f⟩:=h _ _ b
 refine⟨v,d,?_⟩
 unfold FB
 rw[Hw hi,YV]
 simp only[Rows.uptoBulkAll]
 omega
theorem rf{α:Type}{e:α→List D}{m i k:Nat}{b:TypeId}{a:List Value}{xs:List (DataW H×List MemPlace)}(h:Ci enc P W m b e)(c:DataW.trod enc P W 0 (fun _=>true) true m b a=xs[i]?)(hx:xs.length=k)(hi:Nat.blt i k=true:=by kernel_rfl):
  ∃v,KW W (e v) a∧An (e v)+1+FB xs (i+1)≤FB xs i:=Zw3 h c (by rw[hx];exact Yg hi)
theorem cw{α:Type}{e e':α→List D}(he:∀x,e x=e' x)(h:Ci enc P W n t e'):Ci enc P W n t e:=fun cs x hx=>by
 obtain⟨v,a,b⟩:=h cs x hx
 grind
theorem pc{α:Type}{e:α→List D}{q:Array Field}{r:Reach}{b:Nat}{v:Value}{d:DataW H}{p:List MemPlace}(rd:∀n,Ci enc P W n t e)(w:P.underlying t=some (.struct q))(z:Value.okWide P W r b t v)
  (h:DataW.Trod enc P W 0 (fun _=>true) true t v d p):∃x:α,(∀m l,RepA W (· <W.heap.size) (fun _=>⟨0,false,0,0,[]⟩) m l (.agg ((e x).map .d)) v)∧An (e x)+1≤Rows.uptoBulk d:=by
 obtain⟨cs,rfl,_⟩:=okWide_struct w z
 obtain⟨n,u⟩:=h
 obtain⟨x,k,s⟩:=rd n _ _ u
 have hl:(e x).length=cs.size:=by rw[k.1];simp[Value.cells]
 have key:∀(i:Nat) (c:Value),cs[i]?=some c→∃d,(e x)[i]?=some d∧RepD W (· <W.heap.size) d c:=fun i c f=>by
  have g:i<(e x).length:=by
   grind
  obtain⟨j,a,o⟩:=k.2 i _ (Ya g)
  have:j=c:=by
   rw[YQ]at a
   have:cs.toList[i]?=some j:=a
   grind
  grind
 refine⟨x,fun m l=>.agg _ _ (by rw[YC,hl]) (fun i c f=>?_) (fun i y c hy f=>?_),s⟩
 ·obtain⟨d,_,a⟩:=key i c f;exact a.one
 ·obtain⟨d,a,o⟩:=key i c f
  rw[YM,a]at hy
  cases hy
  exact .d _ _ o
theorem uQ{r:Reach}{a:Nat}{v:Value}{d:DataW H}{p:List MemPlace}(e:P.underlying t=some .string)(g:Value.okWide P W r a t v)(h:DataW.Trod enc P W 0 (fun _=>true) true t v d p):
  ∃x:ByteArray,(∀S Hp m l,RepA W S Hp m l (.d (.str x)) v)∧x.size+1≤Rows.uptoBulk d:=by
 obtain⟨x,rfl⟩:=okWide_string e g
 obtain⟨n,f⟩:=h
 obtain⟨s,b,c,_⟩:=DataW.trod_string e f
 have b:x=s:=by simpa[Value.cells]using b
 subst b
 have c:d=.lit (.string x.data.toList):=congrArg Prod.fst c
 subst c
 refine⟨x,fun _ _ _ _=>.d _ _ (.str _),?_⟩
 rw[oK]
 exact Yf _
def fi:Hp:=fun _=>⟨0,false,0,0,[]⟩
theorem ok0(m:Mu):Ok 0 fi m (· <W.heap.size) W:=⟨fun _ h=>h,fun _ _ h=>(by cases h),fun _ _ h=>(by cases h),fun _ _ _ _ h=>(by cases h),fun _ _ h=>(by cases h),⟨fun _ _ h=>(by cases h),fun _ _ h=>(by cases h),fun _ _ _ _ h=>(by cases h)⟩⟩
def kU(w:World)(S:Nat→Prop)(Hp:Hp)(m:Mu)(l:Nat):List AV→List Value→Prop
 |[],[]=>True
 |x::xs,v::vs=>RepA w S Hp m l x v∧kU w S Hp m l xs vs
 |_,_=>False
theorem s7{w:World}{S:Nat→Prop}{Hp:Hp}{m:Mu}{l:Nat}{xs:List AV}{vs:List Value}(h:kU w S Hp m l xs vs):Ky w S Hp m l xs vs.toArray:=by
 suffices b:xs.length=vs.length∧∀(i:Nat) (x:AV) (v:Value),xs[i]?=some x→vs[i]?=some v→RepA w S Hp m l x v by
  exact⟨by simpa using b.1,fun i x v hx e=>b.2 i x v hx (by simpa using e)⟩
 induction xs generalizing vs with
 |nil=>cases vs with
  |nil=>exact⟨rfl,fun i x v h=>by simp at h⟩
  |cons _ _=>exact h.elim
 |cons x xs f=>cases vs with
  |nil=>exact h.elim
  |cons v vs=>
   obtain⟨c,d⟩:=f h.2
   refine⟨by simp[c],fun i y u hy a=>?_⟩
   cases i with
   |zero=>simp at hy a;subst hy;subst a;exact h.1
   |succ i=>exact d i y u (by simpa using hy) (by simpa using a)
theorem ZsA{f:Func}{s:ChangeSpec}{r:World}{args:Array Value}{ds A:List (DataW H)}{e:List MemPlace}{u:TypeId}(C:DataW.Whole enc P f.params.toList s.vars false W args.toList ds A e)(c:s.vars=[])
  (k:laidOutB P=true) (z:∀t∈f.params.toList,P.readableRec t=true∧t<P.types.size) (g:f.resultTypes.toList=[u]) (L:P.underlying u=some .bool)
  (j:s.fn H (ds++A)={results:=[.lit (.bool true)],args:=ds }) (n:Below W.heap.size W r):s.post enc P f false true false false W args (.bool true) r:=by
 obtain⟨p,q,G,B,rfl,I,J⟩:=id C
 rw[c]at B
 obtain⟨rfl,rfl⟩:=trodVars_none B
 refine⟨ds,[],p++[],[],p,[],C,?_,?_,?_,?_,fun h=>by cases h⟩
 ·rw[j,g]
  have:(Value.bool true).resultList f.resultTypes.size=[.bool true]:=by
   have:f.resultTypes.size=1:=by rw[←F0,g];rfl
   rw[this];rfl
  rw[this]
  exact trodAll_cons_mk (shut_bool L _) trodAll_mk0
 ·rw[j]
  have key:∀(l:List TypeId) (vs:List Value) (m:List (DataW H)) (ps:List MemPlace),(∀t∈l,P.readableRec t=true∧t<P.types.size)→DataW.TrodAll enc P W 0 (fun _=>true) true l vs m ps→
    DataW.TrodAll enc P r 0 (fun b=>decide (b<W.heap.size)) true l vs m ps:=by
   intro l
   induction l with
   |nil=>intro vs m ps _ h;obtain⟨rfl,rfl,rfl⟩:=trodAll_nil h;exact trodAll_mk0
   |cons t l M=>
    intro vs m ps y h
    have w:=DataW.TrodAll.lt h
    obtain⟨v,N,d,D,a,b,rfl,rfl,rfl,E,F⟩:=trodAll_cons h
    exact trodAll_cons_mk (Below.trod k (y t (by simp)).1 (y t (by simp)).2 E n (fun x hx=>w x (Hy _ hx))) (M _ _ _ (fun t K=>y t (by simp[K])) F)
  exact key _ _ _ _ z G
 ·rw[c,j];exact rfl
 ·refine⟨n.os,n.output,fun i hi=>?_⟩
  rw[n.block i hi]
  cases W.heap[i]? with
  |none=>rfl
  |some o=>cases o<;>simp
end
end Go.Proofs.YtalafnjhcecdpaaGreatDoor
namespace Go.Proofs.YtalafnjhcecdpaaGreatDoor
set_option linter.all false
open Go Go.Eng
section
variable {H:Type} {enc:TypeId×Value→H} {W:World}
set_option maxRecDepth 100000
theorem wo(n:Nat):Ci enc Tryz.prog W n 44 Az:=fun cs x hx=>by
 obtain⟨xs,m,rfl,rfl,c,a,b⟩:=DataW.trod_struct Tryz.underlying44 hx
 obtain⟨v0,h,d⟩:=rf (El Tryz.underlying3) (b 0 _ rfl) a
 obtain⟨l,i,e⟩:=rf (El Tryz.underlying3) (b 1 _ rfl) a
 obtain⟨v2,j,f⟩:=rf (El Tryz.underlying27) (b 2 _ rfl) a
 obtain⟨v3,k,g⟩:=rf (Ep Tryz.underlying9) (b 3 _ rfl) a
 have q:=Er (Bn d (Bn e (Bn f (Eo g))))
 exact⟨.mk v0 l v2 v3,⟨by rw[c];kernel_rfl,(h.at.app (i.at.app (j.at.app k.at)))⟩,q⟩
theorem Zwv(n:Nat)(h:∀k,k<n→Ci enc Tryz.prog W k 33 Ai):Ci enc Tryz.prog W n 64 CM:=fun cs x hx=>by
 obtain⟨xs,m,rfl,rfl,b,a,c⟩:=DataW.trod_struct Tryz.underlying64 hx
 obtain⟨v0,f,d⟩:=rf (h m (by omega)) (c 0 _ rfl) a
 obtain⟨i,g,e⟩:=rf (h m (by omega)) (c 1 _ rfl) a
 have q:=Er (Bn d (Eo e))
 exact⟨.mk v0 i,⟨by rw[b];kernel_rfl,(f.at.app g.at)⟩,q⟩
theorem Zsg(n:Nat)(h:∀k,k<n→Ci enc Tryz.prog W k 33 Ai):Ci enc Tryz.prog W n 42 BP:=fun cs x hx=>by
 obtain⟨xs,m,rfl,rfl,b,a,c⟩:=DataW.trod_struct Tryz.underlying42 hx
 obtain⟨v0,f,d⟩:=rf (El Tryz.underlying3) (c 0 _ rfl) a
 obtain⟨i,g,e⟩:=rf (h m (by omega)) (c 1 _ rfl) a
 have q:=Er (Bn d (Eo e))
 exact⟨.mk v0 i,⟨by rw[b];kernel_rfl,(f.at.app g.at)⟩,q⟩
theorem da(n:Nat):Ci enc Tryz.prog W n 33 Ai:=by
 induction n using Nat.strongRecOn with
 |ind n e=>
 intro cs x hx
 obtain⟨xs,m,rfl,rfl,c,a,b⟩:=DataW.trod_struct Tryz.underlying33 hx
 obtain⟨v0,s,f⟩:=rf (El Tryz.underlying3) (b 0 _ rfl) a
 obtain⟨A,t,g⟩:=rf (El Tryz.underlying27) (b 1 _ rfl) a
 obtain⟨v2,u,h⟩:=rf (Ep Tryz.underlying9) (b 2 _ rfl) a
 obtain⟨v3,v,i⟩:=rf (Dc Tryz.underlying28 (by kernel_rfl:Tryz.prog.cellsOf 33=7) (by decide) (fun x=>by rw[Ge];rfl) (fun k d=>(cw Ge (e k (by omega))))) (b 3 _ rfl) a
 obtain⟨v4,w,l⟩:=rf (Dc Tryz.underlying29 (by kernel_rfl:Tryz.prog.cellsOf 64=14) (by decide) (fun x=>by rw[KN];rfl) (fun k d=>(cw KN (Zwv k (fun j r=>e j (by omega)))))) (b 4 _ rfl) a
 obtain⟨v5,y,o⟩:=rf (Dc Tryz.underlying30 (by kernel_rfl:Tryz.prog.cellsOf 42=8) (by decide) (fun x=>by rw[KI];rfl) (fun k d=>(cw KI (Zsg k (fun j r=>e j (by omega)))))) (b 5 _ rfl) a
 obtain⟨B,z,p⟩:=rf (Dc Tryz.underlying31 (by kernel_rfl:Tryz.prog.cellsOf 44=4) (by decide) (fun _=>rfl) (fun k d=>(wo k))) (b 6 _ rfl) a
 have q:=Er (Bn f (Bn g (Bn h (Bn i (Bn l (Bn o (Eo p)))))))
 exact⟨.mk v0 A v2 v3 v4 v5 B,⟨by rw[c];kernel_rfl,(s.at.app (t.at.app (u.at.app (v.at.app (w.at.app (y.at.app z.at))))))⟩,q⟩
theorem ve(n:Nat):Ci enc Tryz.prog W n 53 D9:=fun cs x hx=>by
 obtain⟨xs,m,rfl,rfl,b,a,c⟩:=DataW.trod_struct Tryz.underlying53 hx
 obtain⟨v0,f,d⟩:=rf (El Tryz.underlying3) (c 0 _ rfl) a
 obtain⟨h,g,e⟩:=rf (Ep Tryz.underlying9) (c 1 _ rfl) a
 have q:=Er (Bn d (Eo e))
 exact⟨.mk v0 h,⟨by rw[b];kernel_rfl,(f.at.app g.at)⟩,q⟩
theorem Nb(n:Nat):Ci enc Tryz.prog W n 242 Cc:=fun cs x hx=>by
 obtain⟨xs,m,rfl,rfl,b,a,c⟩:=DataW.trod_struct Tryz.underlying242 hx
 obtain⟨v0,f,d⟩:=rf (Ep Tryz.underlying9) (c 0 _ rfl) a
 obtain⟨h,g,e⟩:=rf (da m) (c 1 _ rfl) a
 have q:=Er (Bn d (Eo e))
 exact⟨.mk v0 h,⟨by rw[b];kernel_rfl,(f.at.app g.at)⟩,q⟩
theorem vF(n:Nat):Ci enc Tryz.prog W n 56 Aw:=fun cs x hx=>by
 obtain⟨xs,m,rfl,rfl,c,a,b⟩:=DataW.trod_struct Tryz.underlying56 hx
 obtain⟨v0,p,d⟩:=rf (El Tryz.underlying3) (b 0 _ rfl) a
 obtain⟨A,r,e⟩:=rf (Ep Tryz.underlying9) (b 1 _ rfl) a
 obtain⟨v2,s,f⟩:=rf (El Tryz.underlying3) (b 2 _ rfl) a
 obtain⟨v3,t,g⟩:=rf (El Tryz.underlying3) (b 3 _ rfl) a
 obtain⟨v4,u,h⟩:=rf (ve m) (b 4 _ rfl) a
 obtain⟨v5,v,i⟩:=rf (Ep Tryz.underlying9) (b 5 _ rfl) a
 obtain⟨B,w,j⟩:=rf (pI Tryz.underlying4) (b 6 _ rfl) a
 obtain⟨C,y,l⟩:=rf (da m) (b 7 _ rfl) a
 obtain⟨D,z,o⟩:=rf (Dc Tryz.underlying54 (by kernel_rfl:Tryz.prog.cellsOf 242=8) (by decide) (fun _=>rfl) (fun k E=>(Nb k))) (b 8 _ rfl) a
 have q:=Er (Bn d (Bn e (Bn f (Bn g (Bn h (Bn i (Bn j (Bn l (Eo o)))))))))
 exact⟨.mk v0 A v2 v3 v4 v5 B C D,⟨by rw[c];kernel_rfl,(p.at.app (r.at.app (s.at.app (t.at.app (u.at.app (v.at.app (w.at.app (y.at.app z.at))))))))⟩,q⟩
theorem qD(n:Nat):Ci enc Tryz.prog W n 195 CB:=fun cs x hx=>by
 obtain⟨xs,m,rfl,rfl,b,a,c⟩:=DataW.trod_struct Tryz.underlying195 hx
 obtain⟨v0,f,d⟩:=rf (El Tryz.underlying3) (c 0 _ rfl) a
 obtain⟨h,g,e⟩:=rf (El Tryz.underlying3) (c 1 _ rfl) a
 have q:=Er (Bn d (Eo e))
 exact⟨.mk v0 h,⟨by rw[b];kernel_rfl,(f.at.app g.at)⟩,q⟩
theorem wd(n:Nat):Ci enc Tryz.prog W n 61 AU:=fun cs x hx=>by
 obtain⟨xs,m,rfl,rfl,c,a,b⟩:=DataW.trod_struct Tryz.underlying61 hx
 obtain⟨v0,j,e⟩:=rf (Ep Tryz.underlying9) (b 0 _ rfl) a
 obtain⟨s,l,f⟩:=rf (Dc Tryz.underlying57 (by kernel_rfl:Tryz.prog.cellsOf 56=16) (by decide) (fun _=>rfl) (fun k d=>(vF k))) (b 1 _ rfl) a
 obtain⟨v2,o,g⟩:=rf (Dc Tryz.underlying58 (by kernel_rfl:Tryz.prog.cellsOf 195=2) (by decide) (fun _=>rfl) (fun k d=>(qD k))) (b 2 _ rfl) a
 obtain⟨v3,p,h⟩:=rf (Dc Tryz.underlying59 (by kernel_rfl:Tryz.prog.cellsOf 9=1) (by decide) (fun _=>rfl) (fun k d=>(Ep Tryz.underlying9))) (b 3 _ rfl) a
 obtain⟨v4,r,i⟩:=rf (Dc Tryz.underlying54 (by kernel_rfl:Tryz.prog.cellsOf 242=8) (by decide) (fun _=>rfl) (fun k d=>(Nb k))) (b 4 _ rfl) a
 have q:=Er (Bn e (Bn f (Bn g (Bn h (Eo i)))))
 exact⟨.mk v0 s v2 v3 v4,⟨by rw[c];kernel_rfl,(j.at.app (l.at.app (o.at.app (p.at.app r.at))))⟩,q⟩
theorem we(n:Nat):Ci enc Tryz.prog W n 164 CV:=fun cs x hx=>by
 obtain⟨xs,m,rfl,rfl,b,a,c⟩:=DataW.trod_struct Tryz.underlying164 hx
 obtain⟨v0,g,d⟩:=rf (Ep Tryz.underlying9) (c 0 _ rfl) a
 obtain⟨j,h,e⟩:=rf (El Tryz.underlying3) (c 1 _ rfl) a
 obtain⟨v2,i,f⟩:=rf (Dc Tryz.underlying54 (by kernel_rfl:Tryz.prog.cellsOf 242=8) (by decide) (fun _=>rfl) (fun k l=>(Nb k))) (c 2 _ rfl) a
 have q:=Er (Bn d (Bn e (Eo f)))
 exact⟨.mk v0 j v2,⟨by rw[b];kernel_rfl,(g.at.app (h.at.app i.at))⟩,q⟩
theorem vZ(n:Nat):Ci enc Tryz.prog W n 108 BV:=fun cs x hx=>by
 obtain⟨xs,m,rfl,rfl,c,a,b⟩:=DataW.trod_struct Tryz.underlying108 hx
 obtain⟨v0,j,e⟩:=rf (Ep Tryz.underlying9) (b 0 _ rfl) a
 obtain⟨s,l,f⟩:=rf (pI Tryz.underlying4) (b 1 _ rfl) a
 obtain⟨v2,o,g⟩:=rf (Dc Tryz.underlying106 (by kernel_rfl:Tryz.prog.cellsOf 164=3) (by decide) (fun _=>rfl) (fun k d=>(we k))) (b 2 _ rfl) a
 obtain⟨v3,p,h⟩:=rf (Dc Tryz.underlying58 (by kernel_rfl:Tryz.prog.cellsOf 195=2) (by decide) (fun _=>rfl) (fun k d=>(qD k))) (b 3 _ rfl) a
 obtain⟨v4,r,i⟩:=rf (Dc Tryz.underlying54 (by kernel_rfl:Tryz.prog.cellsOf 242=8) (by decide) (fun _=>rfl) (fun k d=>(Nb k))) (b 4 _ rfl) a
 have q:=Er (Bn e (Bn f (Bn g (Bn h (Eo i)))))
 exact⟨.mk v0 s v2 v3 v4,⟨by rw[c];kernel_rfl,(j.at.app (l.at.app (o.at.app (p.at.app r.at))))⟩,q⟩
theorem ws(n:Nat):Ci enc Tryz.prog W n 166 G6:=fun cs x hx=>by
 obtain⟨xs,m,rfl,rfl,c,a,b⟩:=DataW.trod_struct Tryz.underlying166 hx
 obtain⟨v0,i,d⟩:=rf (Ep Tryz.underlying9) (b 0 _ rfl) a
 obtain⟨r,j,e⟩:=rf (Ep Tryz.underlying9) (b 1 _ rfl) a
 obtain⟨v2,l,f⟩:=rf (Ep Tryz.underlying9) (b 2 _ rfl) a
 obtain⟨v3,o,g⟩:=rf (El Tryz.underlying3) (b 3 _ rfl) a
 obtain⟨v4,p,h⟩:=rf (Dc Tryz.underlying54 (by kernel_rfl:Tryz.prog.cellsOf 242=8) (by decide) (fun _=>rfl) (fun k s=>(Nb k))) (b 4 _ rfl) a
 have q:=Er (Bn d (Bn e (Bn f (Bn g (Eo h)))))
 exact⟨.mk v0 r v2 v3 v4,⟨by rw[c];kernel_rfl,(i.at.app (j.at.app (l.at.app (o.at.app p.at))))⟩,q⟩
theorem wA(n:Nat):Ci enc Tryz.prog W n 112 Di:=fun cs x hx=>by
 obtain⟨xs,m,rfl,rfl,b,a,c⟩:=DataW.trod_struct Tryz.underlying112 hx
 obtain⟨v0,h,d⟩:=rf (Ep Tryz.underlying9) (c 0 _ rfl) a
 obtain⟨l,i,e⟩:=rf (Dc Tryz.underlying110 (by kernel_rfl:Tryz.prog.cellsOf 166=5) (by decide) (fun _=>rfl) (fun k g=>(ws k))) (c 1 _ rfl) a
 obtain⟨v2,j,f⟩:=rf (Dc Tryz.underlying54 (by kernel_rfl:Tryz.prog.cellsOf 242=8) (by decide) (fun _=>rfl) (fun k g=>(Nb k))) (c 2 _ rfl) a
 have q:=Er (Bn d (Bn e (Eo f)))
 exact⟨.mk v0 l v2,⟨by rw[b];kernel_rfl,(h.at.app (i.at.app j.at))⟩,q⟩
theorem wv(n:Nat):Ci enc Tryz.prog W n 26 Au:=fun cs x hx=>by
 obtain⟨xs,m,rfl,rfl,b,a,c⟩:=DataW.trod_struct Tryz.underlying26 hx
 obtain⟨v0,h,e⟩:=rf (Dc Tryz.underlying22 (by kernel_rfl:Tryz.prog.cellsOf 61=5) (by decide) (fun _=>rfl) (fun k d=>(wd k))) (c 0 _ rfl) a
 obtain⟨l,i,f⟩:=rf (Dc Tryz.underlying23 (by kernel_rfl:Tryz.prog.cellsOf 108=5) (by decide) (fun _=>rfl) (fun k d=>(vZ k))) (c 1 _ rfl) a
 obtain⟨v2,j,g⟩:=rf (Dc Tryz.underlying24 (by kernel_rfl:Tryz.prog.cellsOf 112=3) (by decide) (fun _=>rfl) (fun k d=>(wA k))) (c 2 _ rfl) a
 have q:=Er (Bn e (Bn f (Eo g)))
 exact⟨.mk v0 l v2,⟨by rw[b];kernel_rfl,(h.at.app (i.at.app j.at))⟩,q⟩
end
end Go.Proofs.YtalafnjhcecdpaaGreatDoor
namespace Go.Eng
set_option linter.all false
open Go Go.RowKit
section
variable {σ ξ ρ α β γ:Type}
theorem HH{B:Nat→Option (Lv Nat ξ ρ)}{N:Nat}(l:List α)(p:α→Bool)(f:Nat→ρ)(e:ξ)
  (hs:∀i x,l[i]?=some x→B i=some (if p x=true then .rt (f i)else .nx (i+1))) (he:B l.length=some (.ex e)) (hN:l.length<N):
  Ah B N 0=some (match l.findIdx? p with|some i=>.inr (f i)|none=>.inl e):=by
 suffices H:∀k i N,i+k=l.length→k<N→Ah B N i=some (match (l.drop i).findIdx? p with|some j=>.inr (f (i+j))|none=>.inl e)by
  have:=H l.length 0 N (by omega) hN
  simpa using this
 intro k
 induction k with
 |zero=>
  intro i N hi hN
  obtain⟨N,rfl⟩:∃m,N=m+1:=⟨N-1,by omega⟩
  have:i=l.length:=by omega
  subst this
  rw[Ah,he,QO]
  rfl
 |succ k b=>
  intro i N hi hN
  obtain⟨N,rfl⟩:∃m,N=m+1:=⟨N-1,by omega⟩
  have a:i<l.length:=by omega
  rw[Ah,hs i l[i] (Ya a),Hw a,List.findIdx?_cons]
  cases c:p l[i]with
  |true=>simp
  |false=>
   simp only[Yn,YI]
   rw[b (i+1) N (by omega) (by omega)]
   cases(List.drop (i+1) l).findIdx? p with
   |none=>rfl
   |some j=>simp[YJ,NQ 1 j]
def MQ(R:List α→α→Option ρ):List α→List α→Option ρ
 |_,[]=>none
 |p,x::l=>match R p x with
  |some r=>some r
  |none=>MQ R (p++[x]) l
theorem ZwK{B:σ→Option (Lv σ ξ ρ)}{N:Nat}(l:List α)(S:List α→β)(R:List α→α→Option ρ)(mk:Nat→β→σ)(e:β→ξ)
  (hs:∀i x,l[i]?=some x→B (mk i (S (l.take i)))=some (match R (l.take i) x with|some r=>.rt r|none=>.nx (mk (i+1) (S (l.take i++[x])))))
  (he:B (mk l.length (S l))=some (.ex (e (S l)))) (hN:l.length<N):Ah B N (mk 0 (S []))=some ((MQ R [] l).elim (.inl (e (S l))) .inr):=by
 suffices H:∀k i N,i+k=l.length→k<N→Ah B N (mk i (S (l.take i)))=some ((MQ R (l.take i) (l.drop i)).elim (.inl (e (S l))) .inr)by
  have:=H l.length 0 N (by omega) hN
  grind
 intro k
 induction k with
 |zero=>
  intro i N hi hN
  obtain⟨N,rfl⟩:∃m,N=m+1:=⟨N-1,by omega⟩
  have:i=l.length:=by omega
  subst this
  rw[Ah,QN,he,QO]
  rfl
 |succ k b=>
  intro i N hi hN
  obtain⟨N,rfl⟩:∃m,N=m+1:=⟨N-1,by omega⟩
  have a:i<l.length:=by omega
  rw[Ah,hs i l[i] (Ya a),Hw a,MQ]
  cases R (l.take i) l[i]with
  |some r=>rfl
  |none=>
   have:=b (i+1) N (by omega) (by omega)
   rw[JQ a]at this
   exact this
theorem mN{R:List α→α→Option ρ}(h:∀p x,R p x=none):∀(l p:List α),MQ R p l=none
 |[],p=>rfl
 |x::l,p=>by rw[MQ,h];exact mN h l _
theorem GU{B:σ→Option (Lv σ ξ ρ)}{N:Nat}(l:List α)(S:List α→β)(mk:Nat→β→σ)(e:β→ξ)
  (hs:∀i x,l[i]?=some x→B (mk i (S (l.take i)))=some (.nx (mk (i+1) (S (l.take i++[x])))))
  (he:B (mk l.length (S l))=some (.ex (e (S l)))) (hN:l.length<N):Ah B N (mk 0 (S []))=some (.inl (e (S l))):=by
 rw[ZwK l S (fun _ _=>none) mk e hs he hN,mN fun _ _=>rfl]
 rfl
theorem n2{B:σ→Option (Lv σ ξ ρ)}(I:Nat→σ→Prop)(Q:ξ ⊕ ρ→Prop)
  (h:∀k v,I k v→∃o,B v=some o∧match o with|.nx c=>∃k',k'<k∧I k' c|.ex b=>Q (.inl b)|.rt y=>Q (.inr y)):
  ∀N k v,k<N→I k v→∃o,Ah B N v=some o∧Q o
 |0,k,v,d,_=>absurd d (Y3 _)
 |N+1,k,v,d,g=>by
  obtain⟨o,e,a⟩:=h k v g
  rw[Ah,e]
  cases o with
  |nx c=>obtain⟨k',i,f⟩:=a;exact n2 I Q h N k' c (by omega) f
  |ex b=>exact⟨_,rfl,a⟩
  |rt y=>exact⟨_,rfl,a⟩
theorem BG{l:List α}{i:Nat}{x:α}(h:l[i]?=some x):(i:Int)<(l.length:Int):=by
 grind
theorem AZ{n:Nat}(h:n<4611686018427387904):n<Ag:=h
end
end Go.Eng
namespace Go.Proofs.YtalafnjhcecdpaaGreatDoor
set_option linter.all false
open Go Go.Eng
def Ok{α:Type}(Q:α→Prop)(o:Option α):Prop:=∃y,o=some y∧Q y
section
variable {α β γ σ ξ ρ:Type} {Q:β→Prop} {P:α→Prop}
theorem AB{y:β}(h:Q y):Ok Q (some y):=⟨y,rfl,h⟩
theorem AF{m:Option α}{k:α→Option β}(h:Ok P m)(a:∀y,P y→Ok Q (k y)):Ok Q (m.bind k):=by
 obtain⟨y,rfl,h⟩:=h
 exact a y h
theorem BS{xs:List α}{i:Nat}{k:α→Option β}(h:i<xs.length)(a:∀x,xs[i]?=some x→x∈xs→Ok Q (k x)):Ok Q (xs[i]?.bind k):=by
 rw[Ya h]
 exact a _ (Ya h) (IL h)
theorem AH{b:Bool}{x y:Option β}(h:b=true→Ok Q x)(a:b=false→Ok Q y):Ok Q (if b=true then x else y):=by
 cases b
 ·exact a rfl
 ·exact h rfl
theorem AI{c:Prop}{d:Decidable c}{a:Option β}(b:c)(h:Ok Q a):Ok Q (if c then a else none):=by
 rw[Yj b]
 exact h
theorem jH{lo hi:Bd}{n:Nat}{a:Option β}(b:lo.c∧hi.c∧lo.vl 0≤hi.vl n∧hi.vl n≤n)(h:Ok Q a):Ok Q (if lo.c∧hi.c∧lo.vl 0≤hi.vl n∧hi.vl n≤n then a else none):=by
 rw[Yj b]
 exact h
theorem Bp{b:Bool}{m:Option α}{x:Option β}(h:b=true→Ok P m)[Inhabited α](d:(b=true→P (m.getD default))→Ok Q x):Ok Q (if(b=true→m.isSome=true)then x else none):=by
 rw[Yj fun e=>by obtain⟨y,h,_⟩:=h e;rw[h];rfl]
 refine d fun e=>?_
 obtain⟨y,a,c⟩:=h e
 rw[a]
 exact c
theorem Ga{b:Bool}{xs:List α}{i:Int}{x:Option β}[Rw α](h:b=true→0≤i∧i<xs.length)(c:(b=true→xs[i.toNat]?=some (xs.getD i.toNat Rw.z)∧xs.getD i.toNat Rw.z∈xs)→Ok Q x):Ok Q (if(b=true→0≤i∧i<xs.length)then x else none):=by
 rw[Yj h]
 refine c fun e=>?_
 have d:=h e
 have a:i.toNat<xs.length:=by omega
 rw[Ym,Ya a]
 exact⟨rfl,IL a⟩
theorem Bz{B:σ→Option (Lv σ ξ ρ)}{N:Nat}{v:σ}(I:σ→Prop)(μ:σ→Nat){A:ξ→Prop}{R:ρ→Prop}(d:I v)(hN:μ v<N)
  (hs:∀v,I v→Ok (fun o=>match o with|.nx c=>I c∧μ c<μ v|.ex b=>A b|.rt y=>R y) (B v)):Ok (Sum.elim A R) (Ah B N v):=
 n2 (fun k v=>I v∧μ v≤k) (Sum.elim A R) (fun k v h=>by
  obtain⟨o,e,a⟩:=hs v h.1
  refine⟨o,e,?_⟩
  cases o with
  |nx c=>exact⟨μ c,by have:=a.2;have:=h.2;omega,a.1,Yf _⟩
  |ex b=>exact a
  |rt y=>exact a) N (μ v) v hN ⟨d,Yf _⟩
theorem BK{m:Option (ξ ⊕ ρ)}{A:ξ→Prop}{R:ρ→Prop}{f:ξ→Option β}{g:ρ→Option β}(h:Ok (Sum.elim A R) m)(hx:∀b,A b→Ok Q (f b))(a:∀r,R r→Ok Q (g r)):Ok Q (m.bind (Sum.elim f g)):=by
 obtain⟨y,rfl,h⟩:=h
 cases y with
 |inl b=>exact hx b h
 |inr r=>exact a r h
theorem Ok.mono{a:β→Prop}{o:Option β}(h:Ok Q o)(k:∀y,Q y→a y):Ok a o:=by
 obtain⟨y,b,c⟩:=h
 exact⟨y,b,k y c⟩
theorem Ok.some{o:Option β}(h:Ok Q o):o.isSome=true:=by
 obtain⟨y,a,b⟩:=h
 rw[a]
 rfl
end
abbrev Tr{α:Type}:α→Prop:=fun _=>True
abbrev No{α:Type}:α→Prop:=fun _=>False
abbrev Ts{α β:Type}:α ⊕ β→Prop:=Sum.elim Tr Tr
theorem sT:(⟨#[]⟩:ByteArray).size=0:=rfl
theorem AX{p:Prop}(h:p:=by first|trivial|assumption|contradiction|omega|grind|(simp only[Bd.c,Bd.vl,ByteArray.size_append,fJ,sT]at*;grind)):p:=h
theorem Ch{p:Prop}(h:p:=by first|trivial|assumption|contradiction|omega|solve_by_elim|(simp only[Yc,YG,YU,LG,LH,YB,YS]at*;omega)|grind):p:=h
theorem Rv(x:Int):Ok Tr (mq x):=⟨_,rfl,trivial⟩
theorem RM(x:Int):Ok Tr (mj x):=⟨_,rfl,trivial⟩
theorem lP(x:Val):Ok Tr (ZL x):=⟨_,rfl,trivial⟩
theorem lW(x:Int):Ok Tr (Sn x):=⟨_,rfl,trivial⟩
theorem mc(x:Int):Ok Tr (ON x):=by
 dsimp only[ON,br,lr,br,rem]
 (repeat' (first|with_reducible (first|refine AH (fun _=>?_) fun _=>?_|refine AB ?_|refine AI ?_ ?_)))<;>exact Ch
theorem Xg(x:ByteArray):Ok Tr (ZG x):=by
 dsimp only[ZG,S5,O6,OW,br,lr,br]
 (repeat' (first|with_reducible (first|refine AH (fun _=>?_) fun _=>?_|refine AB ?_|refine AI ?_ ?_)))<;>exact Ch
theorem zn(x:ByteArray)(n:Int):Ok Tr (ZI x n):=by
 dsimp only[ZI,aY,S4,SQ,O0,OY,SF,br,lr,br]
 (repeat' (first|with_reducible (first|refine AH (fun _=>?_) fun _=>?_|refine AB ?_|refine AI ?_ ?_)))<;>exact Ch
theorem Xo(x:ByteArray):Ok Tr (Zk x):=by
 dsimp only[Zk,br,lr,br]
 (repeat' (first|with_reducible (first|refine AH (fun _=>?_) fun _=>?_|refine AB ?_|refine AI ?_ ?_)))<;>exact Ch
def Lq(x:Fld):Prop:=(x.card≠5→1≤x.card∧x.card≤4∧x.key=0)∧(x.card=5→x.key=1∨x.key=2∨x.key=3∨x.key=4∨x.key=5∨x.key=7)
theorem sJ(x:Fld):Ok (fun b=>b=true→Lq x) (ZH x):=by
 unfold Lq
 dsimp only[ZH,br,wg,lr,br]
 (repeat' (first|with_reducible (first|refine AH (fun _=>?_) fun _=>?_|refine AB ?_|refine AI ?_ ?_)))<;>(intro h;first|(cases h;done)|(simp only[Yc,YU,VP,YB,YS]at*;omega))
theorem XR(x:ByteArray)(i a b:Int)(h:0≤i):Ok Tr (Zh x i a b):=by
 dsimp only[Zh,vz,lr,A5,GF]
 (repeat' (first|with_reducible (first|refine AH (fun _=>?_) fun _=>?_|refine AB ?_|refine AI ?_ ?_)))<;>exact Ch
theorem jU(x:ByteArray)(i n:Int)(h:0≤i)(a:i≤2097152)(b:n≤9):Ok Tr (ZD x i n):=by
 have q:Ok Ts (Ah (Uf x i n) Ag 0):=by
  refine Bz (fun _:Nat=>True) (fun v:Nat=>(n-v).toNat) trivial ?_ fun v _=>?_
  ·unfold Ag
   omega
  dsimp only[Uf,br,vs,Ar,ln,Af,cl,wa,wi,br]
  (repeat' (first|with_reducible (first|refine AH (fun _=>?_) fun _=>?_|refine AB ?_)|(with_reducible apply AF;(exact XR _ _ _ _ (by omega));intro _ _)|with_reducible refine AI ?_ ?_))<;>exact Ch
 dsimp only[ZD,lr,lc]
 (repeat' (first|with_reducible (first|refine AH (fun _=>?_) fun _=>?_|refine AB ?_)|(with_reducible apply BK;(exact q);all_goals(intro _ _;try dsimp only))|with_reducible refine AI ?_ ?_))<;>exact Ch
set_option maxRecDepth 20000 in
theorem zj(x:ByteArray)(i:Int)(h:0≤i)(h1:i<x.size)(h2:x.size≤1048576):Ok (fun y=>0≤y∧y≤4) (ZC x i):=by
 dsimp only[ZC,br,vg,lr,AD,wi,br,Vh]
 (repeat' (first|with_reducible (first|refine AH (fun _=>?_) fun _=>?_|refine AB ?_|refine BS ?_ fun _ _ _=>?_)|(with_reducible apply AF;(exact XR _ _ _ _ (by omega));intro _ _)|(with_reducible apply AF;(exact jU _ _ _ (by omega) (by omega) (by omega));intro _ _)|(with_reducible apply Bp;(exact fun _=>XR _ _ _ _ (by omega));intro _)|(with_reducible apply Bp;(exact fun _=>jU _ _ _ (by omega) (by omega) (by omega));intro _)|with_reducible refine AI ?_ ?_))<;>exact Ch
theorem Kp:∀a b:List (List D),AN (a++b)=AN a+AN b
 |[],b=>by rw[F3,AN,YQ]
 |x::a,b=>by rw[IK,AN,AN,Kp a b];omega
theorem S3{α:Type}(e:α→List D){l:List α}{i:Nat}{x:α}(h:l[i]?=some x):AN ((l.take (i+1)).map e)=AN ((l.take i).map e)+An (e x)+1:=by
 obtain⟨a,rfl⟩:=Ye.1 h
 rw[JQ a,EJ,Kp]
 simp only[YV,Ht,AN]
 omega
theorem MH{α:Type}(e:α→List D)(l:List α)(i:Nat):AN ((l.take i).map e)≤AN (l.map e):=by
 conv=>rhs;rw[←JN i l,EJ,Kp]
 omega
structure SzV (v:Val):Prop where
 t:v.text.size≤1048576
 l:v.list.length≤1048576
 p:v.pairs.length≤1048576
 s:v.slots.length≤1048576
 r:v.raws.length≤1048576
structure SzN (x:Nt):Prop where
 n:x.name.size≤1048576
 v:SzV x.val
abbrev Il(l:List Nt):Prop:=l.length≤1048576∧∀x∈l,SzN x
structure SzF (x:Fld):Prop where
 n:x.name.size≤1048576
 t:x.type.name.size≤1048576
 u:x.union.size≤1048576
 d:SzV x.dflt
 o:Il x.notes
structure SzM (x:Msg):Prop where
 n:x.name.size≤1048576
 fl:x.fields.length≤1048576
 f:∀y∈x.fields,SzF y
 r:x.reserved.length≤1048576
 gl:x.gone.length≤1048576
 g:∀y∈x.gone,y.size≤1048576
 o:Il x.notes
structure SzI (x:Itm):Prop where
 n:x.name.size≤1048576
 o:Il x.notes
structure SzE (x:Enm):Prop where
 n:x.name.size≤1048576
 il:x.items.length≤1048576
 i:∀y∈x.items,SzI y
 r:x.reserved.length≤1048576
 o:Il x.notes
structure SzT (x:Mth):Prop where
 n:x.name.size≤1048576
 o:Il x.notes
structure SzW (x:Svc):Prop where
 n:x.name.size≤1048576
 ml:x.methods.length≤1048576
 m:∀y∈x.methods,SzT y
 o:Il x.notes
structure SzS (x:Scm):Prop where
 ml:x.messages.length≤1048576
 m:∀y∈x.messages,SzM y
 el:x.enums.length≤1048576
 e:∀y∈x.enums,SzE y
 wl:x.services.length≤1048576
 w:∀y∈x.services,SzW y
theorem CE{v:Val}(h:An (Ai v)≤1048576):SzV v:=by
 have a:=CG (e:=AJ) v.list
 have b:=CG (e:=Ap) v.pairs
 have c:=CG (e:=Ao) v.slots
 have d:=CG (e:=Az) v.raws
 simp only[Ai,An,bk]at h
 constructor<;>omega
theorem M0{v:Val}(h:An (Ai v)≤1048576):0≤v.bits∧v.bits≤18446744073709551615:=by
 simp only[Ai,An,bk]at h
 have:=xO (k:=.u64) (n:=v.bits) (by omega)
 exact this
theorem szN{x:Nt}(h:An (Cc x)≤1048576):SzN x:=by
 have e:An (Cc x)=x.name.size+An (Ai x.val):=by simp only[Cc,Ai,An,bk]
 exact⟨by omega,CE (by omega)⟩
theorem LS{l:List Nt}(h:AN (l.map Cc)≤1048576):Il l:=⟨by have:=CG (e:=Cc) l;omega,fun x hx=>szN (by have:=Dn (e:=Cc) hx;omega)⟩
theorem szF{x:Fld}(h:An (Aw x)≤1048576):SzF x:=by
 have e:x.name.size+x.type.name.size+x.union.size+An (Ai x.dflt)+AN (x.notes.map Cc)≤An (Aw x):=by
  simp only[Aw,Ai,An,bk]
  omega
 exact⟨by omega,by omega,by omega,CE (by omega),LS (by omega)⟩
theorem szM{x:Msg}(h:An (AU x)≤1048576):SzM x:=by
 simp only[AU,An,bk]at h
 have a:=CG (e:=Aw) x.fields
 have b:=CG (e:=CB) x.reserved
 have c:=CG (e:=A4) x.gone
 exact⟨by omega,by omega,fun y hy=>szF (by have:=Dn (e:=Aw) hy;omega),by omega,by omega,fun y hy=>by have:=Dn (e:=A4) hy;simp only[A4,An,bk]at this;omega,LS (by omega)⟩
theorem szI{x:Itm}(h:An (CV x)≤1048576):SzI x:=by
 simp only[CV,An,bk]at h
 exact⟨by omega,LS (by omega)⟩
theorem szE{x:Enm}(h:An (BV x)≤1048576):SzE x:=by
 simp only[BV,An,bk]at h
 have a:=CG (e:=CV) x.items
 have b:=CG (e:=CB) x.reserved
 exact⟨by omega,by omega,fun y hy=>szI (by have:=Dn (e:=CV) hy;omega),by omega,LS (by omega)⟩
theorem szT{x:Mth}(h:An (G6 x)≤1048576):SzT x:=by
 simp only[G6,An,bk]at h
 exact⟨by omega,LS (by omega)⟩
theorem szW{x:Svc}(h:An (Di x)≤1048576):SzW x:=by
 simp only[Di,An,bk]at h
 have a:=CG (e:=G6) x.methods
 exact⟨by omega,by omega,fun y hy=>szT (by have:=Dn (e:=G6) hy;omega),LS (by omega)⟩
theorem Hn{x:Scm}(h:An (Au x)≤1048576):SzS x:=by
 simp only[Au,An,bk]at h
 have a:=CG (e:=AU) x.messages
 have b:=CG (e:=BV) x.enums
 have c:=CG (e:=Di) x.services
 exact⟨by omega,fun y hy=>szM (by have:=Dn (e:=AU) hy;omega),by omega,fun y hy=>szE (by have:=Dn (e:=BV) hy;omega),by omega,fun y hy=>szW (by have:=Dn (e:=Di) hy;omega)⟩
end Go.Proofs.YtalafnjhcecdpaaGreatDoor
