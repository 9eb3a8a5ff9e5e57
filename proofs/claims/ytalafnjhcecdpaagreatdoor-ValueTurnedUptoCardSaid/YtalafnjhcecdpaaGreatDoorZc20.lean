import Derived.Test.YtalafnjhcecdpaaGreatDoorZc19
import Derived.Test.YtalafnjhcecdpaaGreatDoorZc09
import Derived.Test.YtalafnjhcecdpaaGreatDoorZc08
import Derived.Test.YtalafnjhcecdpaaGreatDoorRows
import Derived.WalkKit
import Derived.ProofKit
import Derived.OpenShut
import Derived.Carry
import Derived.Deep.DeepHandedRow
import Derived.Test.YtalafnjhcecdpaaGreatDoorZc11
import Derived.Test.YtalafnjhcecdpaaGreatDoorZc00
namespace Go.Proofs.YtalafnjhcecdpaaGreatDoor
set_option maxRecDepth 100000
set_option linter.all false
open Go Go.Eng
abbrev Fv(a:Val):Ad×Blk:=kk 2 33 7 (cD (Ah a))
abbrev Fx(a:Val):Ad×Blk:=kk 3 33 7 (cD (Ah a))
abbrev EA:Bool→AV:=fun y=>vB y
def gY(a:Val)(b:Val):Nat→St:=fun c=>Ac [pp 2,pp 3,(5,vN c)] [(Fv a),(Fx b)]
def hJ(a:Val)(b:Val):Unit→Nat×St:=fun _=>(0,Ac [pp 2,pp 3] [(Fv a),(Fx b)])
abbrev Gj:=Val→Val→Option (Bool)
def Pg(a:Val)(d:Val)(c:Gj):Nat→Option (Lv (Nat) (Unit) (Bool)):=fun b=>(wg<|vz (Am a.list)<|br (decide ((b:Int)<(a.list.length:Int))) (wg<|ix a.list b fun e=>wg<|ix d.list b fun f=>cs Tryz.prog 12 [.agg ((Ah e).map .d),.agg ((Ah f).map .d)] [] [] (c e f) (fun y=>vB y) fun g=>br (!g) (Aw EA nG false) (vs (wa b 1)<|ln (gY a d) (b+1))) (Af (hJ a d) ()):PT 0 _).m
def gL(a:Val)(b:Val):Nat→St:=fun v5=>Ac [pp 2,pp 3,(6,vN v5)] [(Fv a),(Fx b)]
def fd(a:Val)(b:Val):Unit→Nat×St:=fun _=>(2,Ac [pp 2,pp 3] [(Fv a),(Fx b)])
def PF(a:Val)(d:Val)(b:Gj):Nat→Option (Lv (Nat) (Unit) (Bool)):=fun v5=>(wg<|vz (Am a.pairs)<|br (decide ((v5:Int)<(a.pairs.length:Int))) (wg<|ix a.pairs v5 fun g=>wg<|ix d.pairs v5 fun h=>cs Tryz.prog 12 [.agg ((Ah g.key).map .d),.agg ((Ah h.key).map .d)] [] [] (b g.key h.key) (fun y=>vB y) fun e=>wg<|Bn (!(!e)) a.pairs (v5:Int) fun i=>wg<|Bn (!(!e)) d.pairs (v5:Int) fun c=>CX (!(!e)) Tryz.prog 12 [.agg ((Ah i.val).map .d),.agg ((Ah c.val).map .d)] [] [] (b i.val c.val) (fun y=>vB y) fun f=>br ((!e)||(!f)) (Aw EA nG false) (vs (wa v5 1)<|ln (gL a d) (v5+1))) (Af (fd a d) ()):PT 0 _).m
def iz(b:Val)(c:Val):Nat→St:=fun a=>Ac [pp 2,pp 3,(7,vN a)] [(Fv b),(Fx c)]
def ey(a:Val)(b:Val):Unit→Nat×St:=fun _=>(4,Ac [pp 2,pp 3] [(Fv a),(Fx b)])
def Pi(d:Val)(g:Val)(h:Gj):Nat→Option (Lv (Nat) (Unit) (Bool)):=fun a=>(wg<|vz (Am d.slots)<|br (decide ((a:Int)<(d.slots.length:Int))) (wg<|ix d.slots a fun b=>wg<|ix g.slots a fun c=>wg<|Bn (!(!decide (b.num=c.num))) d.slots (a:Int) fun e=>wg<|Bn (!(!decide (b.num=c.num))) g.slots (a:Int) fun f=>CX (!(!decide (b.num=c.num))) Tryz.prog 12 [.agg ((Ah e.val).map .d),.agg ((Ah f.val).map .d)] [] [] (h e.val f.val) (fun y=>vB y) fun i=>br ((!decide (b.num=c.num))||(!i)) (Aw EA nG false) (vs (wa a 1)<|ln (iz d g) (a+1))) (Af (ey d g) ()):PT 0 _).m
def gO(b:Val)(c:Val):Nat→St:=fun a=>Ac [pp 2,pp 3,(8,vN a)] [(Fv b),(Fx c)]
def fR:Unit→Nat×St:=fun _=>(6,Ac [] [])
def Pu(d:Val)(e:Val)(f:Gj):Nat→Option (Lv (Nat) (Unit) (Bool)):=fun a=>(wg<|vz (Am d.raws)<|br (decide ((a:Int)<(d.raws.length:Int))) (wg<|ix d.raws a fun b=>wg<|ix e.raws a fun c=>br (!(decide (b.num=c.num)&&(decide (b.wire=c.wire)&&(decide (b.bits=c.bits)&&(decide (b.data=c.data)&&true))))) (Aw EA nG false) (vs (wa a 1)<|ln (gO d e) (a+1))) (Af (fR) ()):PT 0 _).m
def QY(c:Gj)(a:Val)(b:Val):Option (Bool):=(wg<|wg<|wg<|wg<|wg<|wg<|wg<|vy (!(((!decide (a.kind=b.kind))||(!decide (a.bits=b.bits)))||(!decide (a.text=b.text)))) (Am a.list)<|wg<|vy (!(((!decide (a.kind=b.kind))||(!decide (a.bits=b.bits)))||(!decide (a.text=b.text)))) (Am b.list)<|wg<|vy (!((((!decide (a.kind=b.kind))||(!decide (a.bits=b.bits)))||(!decide (a.text=b.text)))||(!decide ((a.list.length:Int)=(b.list.length:Int))))) (Am a.pairs)<|wg<|vy (!((((!decide (a.kind=b.kind))||(!decide (a.bits=b.bits)))||(!decide (a.text=b.text)))||(!decide ((a.list.length:Int)=(b.list.length:Int))))) (Am b.pairs)<|wg<|vy (!(((((!decide (a.kind=b.kind))||(!decide (a.bits=b.bits)))||(!decide (a.text=b.text)))||(!decide ((a.list.length:Int)=(b.list.length:Int))))||(!decide ((a.pairs.length:Int)=(b.pairs.length:Int))))) (Am a.slots)<|wg<|vy (!(((((!decide (a.kind=b.kind))||(!decide (a.bits=b.bits)))||(!decide (a.text=b.text)))||(!decide ((a.list.length:Int)=(b.list.length:Int))))||(!decide ((a.pairs.length:Int)=(b.pairs.length:Int))))) (Am b.slots)<|wg<|vy (!((((((!decide (a.kind=b.kind))||(!decide (a.bits=b.bits)))||(!decide (a.text=b.text)))||(!decide ((a.list.length:Int)=(b.list.length:Int))))||(!decide ((a.pairs.length:Int)=(b.pairs.length:Int))))||(!decide ((a.slots.length:Int)=(b.slots.length:Int))))) (Am a.raws)<|wg<|vy (!((((((!decide (a.kind=b.kind))||(!decide (a.bits=b.bits)))||(!decide (a.text=b.text)))||(!decide ((a.list.length:Int)=(b.list.length:Int))))||(!decide ((a.pairs.length:Int)=(b.pairs.length:Int))))||(!decide ((a.slots.length:Int)=(b.slots.length:Int))))) (Am b.raws)<|br (((((((!decide (a.kind=b.kind))||(!decide (a.bits=b.bits)))||(!decide (a.text=b.text)))||(!decide ((a.list.length:Int)=(b.list.length:Int))))||(!decide ((a.pairs.length:Int)=(b.pairs.length:Int))))||(!decide ((a.slots.length:Int)=(b.slots.length:Int))))||(!decide ((a.raws.length:Int)=(b.raws.length:Int)))) (lr EA nG false) (lc (Ac [pp 2,pp 3] [(Fv a),(Fx b)]) ((lc (Ac [pp 2,pp 3,(5,vI 0)] [(Fv a),(Fx b)]) ((Ag (Pg a b c) Aj 0).bind (Sum.elim (fun _=>(lc (Ac [pp 2,pp 3,(6,vI 0)] [(Fv a),(Fx b)]) ((Ag (PF a b c) Aj 0).bind (Sum.elim (fun _=>(lc (Ac [pp 2,pp 3,(7,vI 0)] [(Fv a),(Fx b)]) ((Ag (Pi a b c) Aj 0).bind (Sum.elim (fun _=>(lc (Ac [pp 2,pp 3,(8,vI 0)] [(Fv a),(Fx b)]) ((Ag (Pu a b c) Aj 0).bind (Sum.elim (fun _=>(lr EA nG true:PT 0 _).m) some)):PT 0 _).m) some)):PT 0 _).m) some)):PT 0 _).m) some)):PT 0 _).m)):PT 0 _).m
abbrev NH(a:Gj):Prop:=∀(b:Val) (c:Val),KC Tryz.prog 12 [.agg ((Ah b).map .d),.agg ((Ah c).map .d)] (a b c) EA
theorem Zyu{C:Cx}(co:CO C 0)(e:Val)(f:Val)(a:Gj)(d:NH a):KL Tryz.prog (Ar tl) 174 C (pa [0,0,1,0,1,1] (As Tryz.f12)) [.tmp 4] 0 (gY e f) (hJ e f) EA nG (Pg e f a):=fun k _ m Q h j L=>eN co (Ab [2,3,5] ES) (Ab [2,3] ES) j m L fun r g=>⟨fun b=>fun c=>⟨fun y hy i _ _=>by rw[(d b c).x,(d b c).e];exact(d b c).k _ i y hy,fun l=>⟨id,id⟩⟩,id⟩
theorem ZzN{C:Cx}(co:CO C 0)(i:Val)(j:Val)(c:Gj)(b:NH c):KL Tryz.prog (Ar tl) 174 C (pa [0,0,1,0,1,1,1] (As Tryz.f12)) [.tmp 4] 0 (gL i j) (fd i j) EA nG (PF i j c):=fun v5 _ m Q k l L=>eN co (Ab [2,3,6] ES) (Ab [2,3] ES) l m L fun r g=>⟨fun e=>fun f=>⟨fun y hy d _ _=>by rw[(b e.key f.key).x,(b e.key f.key).e];exact(b e.key f.key).k _ d y hy,fun o=>fun h=>fun a=>⟨fun y hy d _ _=>by rw[(b h.val a.val).x,(b h.val a.val).e];exact(b h.val a.val).k _ d y hy,fun n=>⟨id,id⟩⟩⟩,id⟩
theorem ZyU{C:Cx}(co:CO C 0)(e:Val)(f:Val)(c:Gj)(d:NH c):KL Tryz.prog (Ar tl) 174 C (pa [0,0,1,0,1,1,1,1] (As Tryz.f12)) [.tmp 4] 0 (iz e f) (ey e f) EA nG (Pi e f c):=fun n _ m Q h l L=>eN co (Ab [2,3,7] ES) (Ab [2,3] ES) l m L fun r g=>⟨fun j=>fun k=>fun a=>fun b=>⟨fun y hy i _ _=>by rw[(d a.val b.val).x,(d a.val b.val).e];exact(d a.val b.val).k _ i y hy,fun o=>⟨id,id⟩⟩,id⟩
theorem ZzE{C:Cx}(co:CO C 0)(c:Val)(d:Val)(a:Gj)(g:NH a):KL Tryz.prog (Ar tl) 174 C (pa [0,0,1,0,1,1,1,1,1] (As Tryz.f12)) [.tmp 4] 0 (gO c d) (fR) EA nG (Pu c d a):=fun f _ m Q b e L=>eN co (Ab [2,3,8] ES) nl e m L
theorem uu(a:Gj)(d:NH a)(b:Val)(c:Val):KC Tryz.prog 12 [.agg ((Ah b).map .d),.agg ((Ah c).map .d)] (QY a b c) EA:=kC Tryz.func12 Tryz.ntmps12 [.tmp 4] fun co m L=>mJ co 2 (Ab [2,3] ES) nl nH m L fun r g=>⟨id,fun _ m L=>sq (mJ co 1 (Ab [2,3,5] ES) nl nH m L fun r g=>fun _ m L=>bk 0 (lo (Ay (Zyu co b c a d) nH m L (fun _ m=>sq (mJ co 1 (Ab [2,3,6] ES) nl nH m L fun r g=>fun _ m L=>bk 2 (lo (Ay (ZzN co b c a d) nH m L (fun _ m=>sq (mJ co 1 (Ab [2,3,7] ES) nl nH m L fun r g=>fun _ m L=>bk 4 (lo (Ay (ZyU co b c a d) nH m L (fun _ m=>sq (mJ co 1 (Ab [2,3,8] ES) nl nH m L fun r g=>fun _ m L=>bk 6 (lo (Ay (ZzE co b c a d) nH m L (fun _ m=>fO co m L))))))))))))))))⟩
def JS:Nat→Val→Val→Option (Bool)
 |0=>fun _ _=>none
 |a+1=>QY (JS a)
theorem kP:∀(c:Nat) (a:Val) (b:Val),KC Tryz.prog 12 [.agg ((Ah a).map .d),.agg ((Ah b).map .d)] (JS c a b) EA
 |0,a,b=>⟨fun _ _ _ h=>(by cases h),by intro r;kernel_rfl,by intro r y;kernel_rfl⟩
 |c+1,a,b=>uu (JS c) (kP c) a b
abbrev kV:Bool→AV:=fun y=>vB y
def kZ(a:Int):Option (Bool):=(lr kV nG (decide (a=(2:Int))||decide (a=(3:Int))):PT 0 _).m
theorem uG(a:Int):KC Tryz.prog 259 [vI a] (kZ a) kV:=kC Tryz.func259 Tryz.ntmps259 [.tmp 2] fun co m L=>fO co m L
abbrev N8:Int→AV:=fun y=>.d (.int .u64 y)
def ZF(a:Val):PT 0 (Int):=wg<|vz (wk .u64 (a.bits+9223372036854775808))<|lr N8 nG (IntKind.u64.wrap (a.bits+9223372036854775808))
def XI(a:Val):Option (Int):=(wg<|cl (uG a.kind) fun b=>br b (ZF a) (wg<|br (!decide (a.kind=(6:Int))) (wg<|lr N8 nG a.bits) (wg<|cl (ii a.bits) fun c=>br (decide (c=(0:Int))) (lr N8 nG 18446744073709551615) (wg<|br (decide ((9223372036854775808:Int)≤a.bits)) (wg<|vz (wk .u64 ((18446744073709551615:Int)-a.bits))<|lr N8 nG (IntKind.u64.wrap ((18446744073709551615:Int)-a.bits))) (ZF a)))):PT 0 _).m
theorem Ua(a:Val):KC Tryz.prog 241 [.agg ((Ah a).map .d)] (XI a) N8:=kC Tryz.func241 Tryz.ntmps241 [.tmp 2] fun co m L=>fO co m L
abbrev HV:Int→AV:=fun y=>vI y
def la(a:Val)(b:Val):Option (Int):=(wg<|wg<|br (decide (a.kind<b.kind)) (lr HV nG (-1)) (wg<|wg<|br (decide (b.kind<a.kind)) (lr HV nG 1) (wg<|cl (fB a.kind) fun c=>br (!c) (lr HV nG 0) (wg<|cl (T4 a.kind) fun d=>wg<|wg<|br (d&&Bw a.text b.text) (lr HV nG (-1)) (wg<|cl (T4 a.kind) fun e=>wg<|wg<|br (e&&(!(Bw a.text b.text||decide (a.text=b.text)))) (lr HV nG 1) (wg<|cl (T4 a.kind) fun f=>br f (lr HV nG 0) (wg<|cl (Ua a) fun g=>wg<|cl (Ua b) fun h=>br (decide (g<h)) (lr HV nG (-1)) (wg<|cl (Ua a) fun i=>wg<|cl (Ua b) fun j=>br (decide (j<i)) (lr HV nG 1) (lr HV nG 0)))))))):PT 0 _).m
end Go.Proofs.YtalafnjhcecdpaaGreatDoor
namespace Go.Proofs.YtalafnjhcecdpaaGreatDoor
set_option maxRecDepth 100000
set_option linter.all false
open Go Go.Eng
abbrev VT:List (Ad×Bool):=[((1,1),false),((1,2),false),((1,3),false),((1,5),false),((1,6),true),((1,1035),true)]
abbrev Qu:List (Ad×Bool):=[((1,1),false),((1,2),false),((1,3),false),((1,1035),true)]
abbrev kF:List (Ad×Bool):=[((1,1),false),((1,2),false),((1,3),false),((1,5),false),((1,1035),true)]
abbrev Ft:Ad×Blk:=kk 2 33 7 [vI 0,.d (.int .u64 0),vS ⟨#[]⟩,.e0,.e0,.e0,.e0]
abbrev Ga(a:Val):Ad×Blk:=kk 1 33 7 (cD (Ah a))
abbrev Kg(a:Val)(b:List Slt):Ad×Blk:=kk 3 33 7 [vI a.kind,.d (.int .u64 0),vS ⟨#[]⟩,.e0,.e0,.ref (1,1035) 0 0 b.length,vL AA a.raws]
abbrev Kd(a:List Slt):Ad×Blk:=kk 1035 42 8 (Aa Ao a)
abbrev PD(a:Slt):Ad×Blk:=kk 5 42 8 (cD (BF a))
abbrev fb(a:Val):Ad×Blk:=kk 3 33 7 [vI a.kind,.d (.int .u64 0),vS ⟨#[]⟩,.e0,.e0,.e0,vL AA a.raws]
abbrev PL:Val→AV:=fun y=>.agg ((Ah y).map .d)
def fw(a:Val):Int×List Slt→St:=fun(c,b)=>Ac [pp 1,pp 2,pp 3,(4,vI c)] [(Ga a),Ft,(Kg a b),(Kd b)]
def eP(a:Val):List Slt→Nat×St:=fun b=>(0,Ac [pp 2,pp 3] [Ft,kk 3 33 7 [vI a.kind,.d (.int .u64 0),vS ⟨#[]⟩,.e0,.e0,.ref (1,1035) 0 0 b.length,vL AA a.raws],kk 1035 42 8 (Aa Ao b)])
def gA(a:Val)(e:Int)(b:List Slt)(d:Slt):List Pr×Int→St:=fun(c,v5)=>Ac [pp 1,pp 2,pp 3,(4,vI e),pp 5,(6,.ref (1,6) 0 0 c.length),(7,vI v5)] [(Ga a),Ft,(Kg a b),(PD d),kk 6 64 14 (Aa Ap c),(Kd b)]
def gx(a:Val)(e:Int)(b:List Slt)(d:Slt):List Pr→Nat×St:=fun c=>(2,Ac [pp 1,pp 2,pp 3,(4,vI e),pp 5,(6,.ref (1,6) 0 0 c.length)] [(Ga a),Ft,(Kg a b),(PD d),kk 6 64 14 (Aa Ap c),(Kd b)])
def MJ(e:Val)(f:Int)(b:List Slt)(c:Slt):List Pr×Int→Option (Lv (List Pr×Int) (List Pr) (Val)):=fun(a,v5)=>(br (decide ((0:Int)≤v5)) (wg<|Ct c.val.pairs v5 fun d=>vw .sep<|ap a (d:Pr)<|vs (wi (v5-1))<|vz (fl (a++[d]))<|vz (fl b)<|ln (gA e f b c) (a++[d],(v5-1))) (vz (fl a)<|vz (fl b)<|Af (gx e f b c) a):PT 0 _).m
def MU(c:Val):Int×List Slt→Option (Lv (Int×List Slt) (List Slt) (Val)):=fun(e,b)=>(br (decide ((0:Int)≤e)) (vz (fl b)<|lc (Ac [pp 1,pp 2,pp 3,(4,vI e)] [(Ga c),Ft,(Kg c b),(Kd b)]) ((wg<|Ct c.slots e fun a=>wg<|vz (fl b)<|lc (Ac [pp 1,pp 2,pp 3,(4,vI e),pp 5,(6,.e0)] [(Ga c),Ft,(Kg c b),(PD a),(Kd b)]) ((wg<|vz (Am a.val.pairs)<|vs (wi ((a.val.pairs.length:Int)-1))<|vz (fl b)<|lc (Ac [pp 1,pp 2,pp 3,(4,vI e),pp 5,(6,.e0),(7,vI ((a.val.pairs.length:Int)-1))] [(Ga c),Ft,(Kg c b),(PD a),(Kd b)]) ((vw (.ads 6 6 64 14)<|vz (fl ([]:List Pr))<|vz (fl b)<|lc (Ac [pp 1,pp 2,pp 3,(4,vI e),pp 5,(6,.ref (1,6) 0 0 ([]:List Pr).length),(7,vI ((a.val.pairs.length:Int)-1))] [(Ga c),Ft,(Kg c b),(PD a),kk 6 64 14 (Aa Ap ([]:List Pr)),(Kd b)]) ((Ag (MJ c e b a) Aj (([]:List Pr),((a.val.pairs.length:Int)-1))).bind (Sum.elim (fun d=>(wg<|vw (.frz 6 [(6,(d.map Ap)),(44,(d.map Ap))] [((1,5),5,(d.map Ap))])<|vz (fz d)<|vz (fz d)<|vz (fz d)<|vw .sep<|wg<|wg<|vw .sep<|ap b ((.mk a.num (.mk a.val.kind a.val.bits a.val.text a.val.list d a.val.slots a.val.raws:Val):Slt):Slt)<|wg<|vz (fl (b++([(.mk a.num (.mk a.val.kind a.val.bits a.val.text a.val.list d a.val.slots a.val.raws:Val):Slt)])))<|lc (Ac [pp 1,pp 2,pp 3,(4,vI e)] [(Ga c),Ft,kk 3 33 7 [vI c.kind,.d (.int .u64 0),vS ⟨#[]⟩,.e0,.e0,.ref (1,1035) 0 0 (b++([(.mk a.num (.mk a.val.kind a.val.bits a.val.text a.val.list d a.val.slots a.val.raws:Val):Slt)])).length,vL AA c.raws],kk 1035 42 8 (Aa Ao (b++([(.mk a.num (.mk a.val.kind a.val.bits a.val.text a.val.list d a.val.slots a.val.raws:Val):Slt)])))]) ((vs (wi (e-1))<|vz (fl (b++([(.mk a.num (.mk a.val.kind a.val.bits a.val.text a.val.list d a.val.slots a.val.raws:Val):Slt)])))<|ln (fw c) ((e-1),b++([(.mk a.num (.mk a.val.kind a.val.bits a.val.text a.val.list d a.val.slots a.val.raws:Val):Slt)])):PT 0 _).m):PT 0 _).m) (fun z=>some (.rt z)))):PT 0 _).m):PT 0 _).m):PT 0 _).m)) (vz (fl b)<|Af (eP c) b):PT 0 _).m
def Xn(a:Val):Option (Val):=(wg<|wg<|wg<|lc (Ac [pp 1,pp 2,pp 3] [(Ga a),Ft,(fb a)]) ((wg<|vz (Am a.slots)<|vs (wi ((a.slots.length:Int)-1))<|lc (Ac [pp 1,pp 2,pp 3,(4,vI ((a.slots.length:Int)-1))] [(Ga a),Ft,(fb a)]) ((vw (.adc (1,3) 5 1035 42 8)<|vz (fl ([]:List Slt))<|lc (Ac [pp 1,pp 2,pp 3,(4,vI ((a.slots.length:Int)-1))] [(Ga a),Ft,kk 3 33 7 [vI a.kind,.d (.int .u64 0),vS ⟨#[]⟩,.e0,.e0,.ref (1,1035) 0 0 ([]:List Slt).length,vL AA a.raws],kk 1035 42 8 (Aa Ao ([]:List Slt))]) ((Ag (MU a) Aj (((a.slots.length:Int)-1),([]:List Slt))).bind (Sum.elim (fun b=>(wg<|wg<|vz (fr b)<|lr PL nG (.mk a.kind 0 ⟨#[]⟩ [] [] b a.raws:Val):PT 0 _).m) some)):PT 0 _).m):PT 0 _).m):PT 0 _).m
theorem ZyX{C:Cx}(co:CO C 0)(b:Val)(d:Int)(c:List Slt)(a:Slt):KL Tryz.prog (Ar tl) 54 C (pa [0,0,1,0,1,1,0,0,1,0,0,1,0,1,1] (As Tryz.f19)) [.cell 2 33] 0 (gA b d c a) (gx b d c a) PL nG (MJ b d c a):=fun(g,v5) _ m Q e f L=>eN co (Ab [1,2,3,4,5,6,7] VT) (Ab [1,2,3,4,5,6] VT) f m L
theorem ZyR{C:Cx}(co:CO C 0)(b:Val):KL Tryz.prog (Ar tl) 54 C (pa [0,0,1,0,1,1] (As Tryz.f19)) [.cell 2 33] 0 (fw b) (eP b) PL nG (MU b):=fun(f,e) _ m Q c a L=>mJ co 1 (Ab [1,2,3,4] Qu) (Ab [2,3] [((1,2),false),((1,3),false),((1,1035),true)]) a m L fun r g=>⟨fun _ m L=>sq (bk 1 (mJ co 2 (Ab [1,2,3,4,5,6] kF) nl a m L fun r g=>fun d=>fun _ m L=>sq (mJ co 1 (Ab [1,2,3,4,5,6,7] kF) nl a m L fun r g=>fun _ m L=>bk 2 (cM co (Ab [1,2,3,4,5,6,7] VT) m L fun r g=>fun _ m L=>lo (He (ZyX co b f e d) a m L (fun h m=>eN co (Ab [1,2,3,4] Qu) nl a m L fun r g=>fun _ m L=>eN co (Ab [1,2,3,4] Qu) nl a m L)))))),id⟩
theorem xc(a:Val):KC Tryz.prog 19 [.agg ((Ah a).map .d)] (Xn a) PL:=kC Tryz.func19 Tryz.ntmps19 [.cell 2 33] fun co m L=>mJ co 2 (Ab [1,2,3] [((1,1),false),((1,2),false),((1,3),false)]) nl nH m L fun r g=>fun _ m L=>sq (mJ co 1 (Ab [1,2,3,4] [((1,1),false),((1,2),false),((1,3),false)]) nl nH m L fun r g=>fun _ m L=>bk 0 (cM co (Ab [1,2,3,4] Qu) m L fun r g=>fun _ m L=>lo (Ay (ZyR co a) nH m L (fun b m=>fO co m L))))
abbrev E5:Bool→AV:=fun y=>vB y
def Xg(a:Scm)(c:ByteArray)(d:Val):Option (Bool):=(wg<|cl (ro a) fun e=>wg<|wg<|AF (!(!e)) (Rc a c d) fun h=>br ((!e)||(!decide (h=(0:Int)))) (cl (dP) fun i=>lr E5 nG i) (wg<|cl (xc d) fun f=>wg<|wg<|wg<|cl (Rc a c f) fun b=>wg<|wg<|AF (decide (b=(0:Int))) (Kv (GE Aj) (Ob Aj) a c f) fun j=>wg<|wg<|AF (decide (b=(0:Int))) (Kv (GE Aj) (Ob Aj) a c d) fun k=>AF (decide (b=(0:Int))) (kP Aj j k) fun g=>AF (decide (b=(0:Int))&&g) (dP) fun l=>lr E5 nG ((decide (b=(0:Int))&&g)&&l)):PT 0 _).m
theorem rm(a:Scm)(b:ByteArray)(c:Val):KC Tryz.prog 5 [.agg ((At a).map .d),vS b,.agg ((Ah c).map .d)] (Xg a b c) E5:=kC Tryz.func5 Tryz.ntmps5 [.tmp 6] fun co m L=>fO co m L
end Go.Proofs.YtalafnjhcecdpaaGreatDoor
namespace Go.Proofs.YtalafnjhcecdpaaGreatDoor
set_option linter.all false
open Go Go.Eng Go.ChangeShapes Go.WideShapes Go.ChangeAt Go.RowKit
theorem mP{H:Type}(b:List UInt8):Rows.uptoBulk (DataW.lit (H:=H) (.string b))=b.length+1:=by simp only[Rows.uptoBulk]
theorem yH{H:Type}(a b:List (DataW H)):Rows.uptoBulk (.slice a b)=Rows.uptoBulkAll a+Rows.uptoBulkAll b+1:=by simp only[Rows.uptoBulk]
theorem Zwc{H:Type}(a:List (DataW H)):Rows.uptoBulk (.agg a)=Rows.uptoBulkAll a+1:=by simp only[Rows.uptoBulk]
def IT(W:World)(ds:List D)(cs:List Value)(o:Nat):Prop:=∀(i:Nat) (d:D),ds[i]?=some d→∃c,cs[o+i]?=some c∧RepD W (· <W.heap.size) d c
def Kq(W:World)(ds:List D)(cs:List Value):Prop:=ds.length=cs.length∧IT W ds cs 0
theorem IT.app{W:World}{ds a:List D}{cs:List Value}{o:Nat}(h:IT W ds cs o)(k:IT W a cs (o+ds.length)):IT W (ds++a) cs o:=fun i d hi=>by
 rcases YD i ds.length with hl|hl
 ·rw[Yr hl]at hi;exact h i d hi
 ·rw[YC hl]at hi
  obtain⟨c,b,e⟩:=k _ d hi
  grind
theorem IT.nil{W:World}{cs:List Value}{o:Nat}:IT W [] cs o:=fun i d h=>by simp at h
theorem Kq.at{W:World}{ds:List D}{cs:List Value}{o k:Nat}(h:Kq W ds ((cs.drop o).take k)):IT W ds cs o:=fun i d hi=>by
 obtain⟨c,a,b⟩:=h.2 i d hi
 grind
def rk(k:IntKind)(n:Int):Nat:=if Lit.wf (.int k n)=true then 0 else 1000000000000
theorem uq{k:IntKind}{n:Int}(h:rk k n≤1048576):k.min≤n∧n≤k.max:=by
 unfold rk at h
 split at h
 ·rename_i a
  unfold Lit.wf at a
  rw[Yc]at a
  exact⟨Y4 a.1,Y4 a.2⟩
 ·omega
mutual
def bk:D→Nat
 |.int k n=>rk k n
 |.bool _=>0
 |.str s=>s.size
 |.list a=>AH a
 |.map _ a=>AH a
def An:List D→Nat
 |[]=>0
 |d::l=>bk d+An l
def AH:List (List D)→Nat
 |[]=>0
 |e::l=>An e+1+AH l
end
theorem Mj:∀a b:List D,An (a++b)=An a+An b
 |[],b=>by rw[GB,An,YP]
 |d::a,b=>by rw[JC,An,An,Mj a b,YI]
theorem aT(d:D):An [d]=bk d:=by rw[An,An,FN]
theorem Cv{α:Type}{e:α→List D}:∀l:List α,l.length≤AH (l.map e)
 |[]=>Cn _
 |x::l=>by have:=Cv (e:=e) l;rw[YR,AH,D7];omega
theorem Dg{α:Type}{e:α→List D}{x:α}:∀{l:List α},x∈l→An (e x)+1≤AH (l.map e)
 |y::l,h=>by
  rw[YR,AH]
  cases Yu.1 h with
  |inl h=>subst h;omega
  |inr h=>have:=Dg (e:=e) h;omega
section
variable {H:Type} (enc:TypeId×Value→H) (P:Program) (W:World)
def B7{α:Type}(n:Nat)(t:TypeId)(e:α→List D):Prop:=
 ∀cs x,DataW.trod enc P W 0 (fun _=>true) true n t cs=some x→∃v:α,Kq W (e v) cs∧An (e v)+1≤Rows.uptoBulk x.1
end
section
variable {H:Type} {enc:TypeId×Value→H} {P:Program} {W:World} {n:Nat} {t:TypeId}
theorem ah(d:DataW H):1≤Rows.uptoBulk d:=by cases d<;>(try (rename_i l;cases l))<;>simp[Rows.uptoBulk]
theorem Oy{d:D}{c:Value}(h:RepD W (· <W.heap.size) d c):Kq W [d] [c]:=⟨rfl,fun i d' hi=>by
 cases i with
 |zero=>cases hi;exact⟨c,rfl,h⟩
 |succ i=>simp at hi⟩
theorem Ei{k:IntKind}(a:P.underlying t=some (.int k)):B7 enc P W n t (fun v:Int=>[.int k v]):=fun cs x hx=>by
 obtain⟨m,rfl,rfl,b⟩:=DataW.trod_int a hx
 refine⟨m,Oy (.int _ _),?_⟩
 rw[aT,bk,rk,Yk b]
 exact ah _
theorem oH(a:P.underlying t=some .bool):B7 enc P W n t (fun v:Bool=>[.bool v]):=fun cs x hx=>by
 obtain⟨m,rfl,rfl⟩:=DataW.trod_bool a hx
 exact⟨m,Oy (.bool _),ah _⟩
theorem Ee(a:P.underlying t=some .string):B7 enc P W n t (fun v:ByteArray=>[.str v]):=fun cs x hx=>by
 obtain⟨m,rfl,rfl,_⟩:=DataW.trod_string a hx
 refine⟨m,Oy (.str _),?_⟩
 rw[mP,aT]
 exact Ye _
theorem pu{α:Type}{e:α→List D}:∀(l:List α) (xs:List (DataW H×List MemPlace)),l.length=xs.length→(∀(i:Nat) (v:α),l[i]?=some v→∃y:DataW H×List MemPlace,xs[i]?=some y∧An (e v)+1≤Rows.uptoBulk y.1)→AH (l.map e)≤Rows.uptoBulkAll (xs.map (·.1))
 |[],_,_,_=>Cn _
 |x::l,[],h,_=>by cases h
 |x::l,y::xs,h,k=>by
  have:=pu l xs (Vi h) (fun i v hi=>k (i+1) v hi)
  obtain⟨c,a,b⟩:=k 0 x rfl
  cases a
  rw[YR,YR,AH]
  simp only[Rows.uptoBulkAll]
  omega
theorem oB{α:Type}{Q:Nat→α→Prop}:∀(len:Nat),(∀i,i<len→∃v,Q i v)→∃l:List α,l.length=len∧∀i v,l[i]?=some v→Q i v
 |0,_=>⟨[],rfl,fun i v h=>by simp at h⟩
 |len+1,h=>by
  obtain⟨l,a,b⟩:=oB len (fun i hi=>h i (by omega))
  obtain⟨v,c⟩:=h len (by omega)
  refine⟨l++[v],by simp[a],fun i w hi=>?_⟩
  grind
theorem C3{α:Type}{e:TypeId}{b:α→List D}{sz:Nat}(X:P.underlying t=some (.slice e))(E:P.cellsOf e=sz)(V:sz≠0)(hl:∀x,(b x).length=sz)(h:∀m,m<n→B7 enc P W m e b):
  B7 enc P W n t (fun l:List α=>[.list (l.map b)]):=fun cs x hx=>by
 rcases DataW.trod_slice X hx with⟨rfl,rfl⟩|⟨a,len,cap,g,J,m,rfl,rfl,rfl,Z,z,T,U,hi,_,_⟩
 ·exact⟨[],Oy .nil,ah _⟩
 ·have k:∀i,i<len→∃v:α,∃y f,g[i]?=some y∧W.cells? 0 (a.add (i*sz)) sz=some f∧Kq W (b v) f∧An (b v)+1≤Rows.uptoBulk y.1:=fun i B=>by
   have I:=hi i B
   rw[Ya (by omega),E]at I
   obtain⟨f,N,O⟩:=eg.1 I
   obtain⟨v,Q,R⟩:=h m (by omega) f _ O
   exact⟨v,_,f,Ya (by omega),N,Q,R⟩
  obtain⟨l,A,r⟩:=oB len k
  have cell:∀(i j:Nat) (e':List D) (x:D),(l.map b)[i]?=some e'→e'[j]?=some x→∃c,W.cell? (a.add (i*sz+j))=some c∧RepD W (· <W.heap.size) x c:=fun i j e' x d o=>by
   rw[YM]at d
   cases s:l[i]? with
   |none=>rw[s]at d;cases d
   |some v=>
    rw[s]at d
    cases d
    obtain⟨y,f,p,q,F,G⟩:=r i v s
    obtain⟨c,H,K⟩:=F.2 j x o
    rw[YP]at H
    obtain⟨_,Y,L⟩:=World.cells?_some q
    have u:j<sz:=by
     rw[←hl v]
     rcases YD j (b v).length with h|h
     ·exact h
     ·rw[YO h]at o;cases o
    refine⟨c,?_,K⟩
    rw[←Go.Eng.add_add,L j u,H]
  refine⟨l,Oy ?_,?_⟩
  ·have hlen:(l.map b).length=len:=by simp[A]
   have:=RepD.list (w:=W) (S:=(· <W.heap.size)) (l.map b) a sz cap (fun i j=>(W.cell? (a.add (i*sz+j))).getD undef) (fun C=>by
     have M:0<len:=by
      rcases Qd len with h|h
      ·exact absurd (IA (hlen.trans h)) C
      ·exact h
     obtain⟨v,y,f,_,q,_⟩:=k 0 M
     have:=World.cells?_block q (by omega)
     rw[Nr]at this
     rw[←Go.Eng.block_add a 0];exact this)
    (by rw[hlen];exact z) (fun e' he=>by obtain⟨y,_,rfl⟩:=YT.1 he;exact hl y)
    (fun i j e' x d o=>by obtain⟨c,p,_⟩:=cell i j e' x d o;rw[p];rfl)
    (fun i j e' x d o=>by obtain⟨c,p,q⟩:=cell i j e' x d o;rw[p];exact q)
   rw[hlen]at this
   exact this
  ·rw[yH,aT,bk]
   have:=pu (e:=b) l g (by omega) (fun i v s=>by
    obtain⟨y,f,p,q,F,G⟩:=r i v s
    exact⟨y,p,G⟩)
   omega
def FB(xs:List (DataW H×List MemPlace))(i:Nat):Nat:=Rows.uptoBulkAll ((xs.drop i).map (·.1))
theorem Bj{xs:List (DataW H×List MemPlace)}{i:Nat}{a b:List D}(h:An a+1+FB xs (i+1)≤FB xs i)(k:An b≤FB xs (i+1)):An (a++b)≤FB xs i:=by
 rw[Mj];omega
theorem Eh{xs:List (DataW H×List MemPlace)}{i:Nat}{a:List D}(h:An a+1+FB xs (i+1)≤FB xs i):An a≤FB xs i:=by omega
theorem Ef{xs:List (DataW H×List MemPlace)}{a:List D}(h:An a≤FB xs 0):An a+1≤Rows.uptoBulk (.agg (xs.map (·.1))):=by
 rw[Zwc];exact Nat.succ_le_succ h
theorem Ztd{α:Type}{e:α→List D}{m i:Nat}{c:TypeId}{a:List Value}{xs:List (DataW H×List MemPlace)}(h:B7 enc P W m c e)(b:DataW.trod enc P W 0 (fun _=>true) true m c a=xs[i]?)(hi:i<xs.length):
  ∃v,Kq W (e v) a∧An (e v)+1+FB xs (i+1)≤FB xs i:=by
 rw[Ya hi]at b
 obtain⟨v,d,f⟩:=h _ _ b
 refine⟨v,d,?_⟩
 unfold FB
 rw[GA hi,YR]
 simp only[Rows.uptoBulkAll]
 omega
theorem rf{α:Type}{e:α→List D}{m i k:Nat}{b:TypeId}{a:List Value}{xs:List (DataW H×List MemPlace)}(h:B7 enc P W m b e)(c:DataW.trod enc P W 0 (fun _=>true) true m b a=xs[i]?)(hx:xs.length=k)(hi:Nat.blt i k=true:=by kernel_rfl):
  ∃v,Kq W (e v) a∧An (e v)+1+FB xs (i+1)≤FB xs i:=Ztd h c (by rw[hx];exact Yg hi)
theorem bL{α:Type}{e e':α→List D}(he:∀x,e x=e' x)(h:B7 enc P W n t e'):B7 enc P W n t e:=fun cs x hx=>by
 obtain⟨v,a,b⟩:=h cs x hx
 grind
theorem od{α:Type}{e:α→List D}{q:Array Field}{r:Reach}{b:Nat}{v:Value}{d:DataW H}{p:List MemPlace}(rd:∀n,B7 enc P W n t e)(w:P.underlying t=some (.struct q))(z:Value.okWide P W r b t v)
  (h:DataW.Trod enc P W 0 (fun _=>true) true t v d p):∃x:α,(∀m l,RepA W (· <W.heap.size) (fun _=>⟨0,false,0,0,[]⟩) m l (.agg ((e x).map .d)) v)∧An (e x)+1≤Rows.uptoBulk d:=by
 obtain⟨cs,rfl,_⟩:=okWide_struct w z
 obtain⟨n,u⟩:=h
 obtain⟨x,k,s⟩:=rd n _ _ u
 have hl:(e x).length=cs.size:=by rw[k.1];simp[Value.cells]
 have key:∀(i:Nat) (c:Value),cs[i]?=some c→∃d,(e x)[i]?=some d∧RepD W (· <W.heap.size) d c:=fun i c f=>by
  have g:i<(e x).length:=by
   grind
  obtain⟨j,a,o⟩:=k.2 i _ (Ya g)
  have:j=c:=by
   rw[YP]at a
   have:cs.toList[i]?=some j:=a
   grind
  grind
 refine⟨x,fun m l=>.agg _ _ (by rw[YE,hl]) (fun i c f=>?_) (fun i y c hy f=>?_),s⟩
 ·obtain⟨d,_,a⟩:=key i c f;exact a.one
 ·obtain⟨d,a,o⟩:=key i c f
  rw[YM,a]at hy
  cases hy
  exact .d _ _ o
theorem rM{r:Reach}{a:Nat}{v:Value}{d:DataW H}{p:List MemPlace}(e:P.underlying t=some .string)(g:Value.okWide P W r a t v)(h:DataW.Trod enc P W 0 (fun _=>true) true t v d p):
  ∃x:ByteArray,(∀S Hp m l,RepA W S Hp m l (.d (.str x)) v)∧x.size+1≤Rows.uptoBulk d:=by
 obtain⟨x,rfl⟩:=okWide_string e g
 obtain⟨n,f⟩:=h
 obtain⟨s,b,c,_⟩:=DataW.trod_string e f
 have b:x=s:=by simpa[Value.cells]using b
 subst b
 have c:d=.lit (.string x.data.toList):=congrArg Prod.fst c
 subst c
 refine⟨x,fun _ _ _ _=>.d _ _ (.str _),?_⟩
 rw[mP]
 exact Ye _
def dO:Hp:=fun _=>⟨0,false,0,0,[]⟩
theorem ok0(m:Mu):Ok 0 dO m (· <W.heap.size) W:=⟨fun _ h=>h,fun _ _ h=>(by cases h),fun _ _ h=>(by cases h),fun _ _ _ _ h=>(by cases h),fun _ _ h=>(by cases h),⟨fun _ _ h=>(by cases h),fun _ _ h=>(by cases h),fun _ _ _ _ h=>(by cases h)⟩⟩
def kB(w:World)(S:Nat→Prop)(Hp:Hp)(m:Mu)(l:Nat):List AV→List Value→Prop
 |[],[]=>True
 |x::xs,v::vs=>RepA w S Hp m l x v∧kB w S Hp m l xs vs
 |_,_=>False
theorem ZyH{w:World}{S:Nat→Prop}{Hp:Hp}{m:Mu}{l:Nat}{xs:List AV}{vs:List Value}(h:kB w S Hp m l xs vs):J8 w S Hp m l xs vs.toArray:=by
 suffices b:xs.length=vs.length∧∀(i:Nat) (x:AV) (v:Value),xs[i]?=some x→vs[i]?=some v→RepA w S Hp m l x v by
  exact⟨by simpa using b.1,fun i x v hx e=>b.2 i x v hx (by simpa using e)⟩
 induction xs generalizing vs with
 |nil=>cases vs with
  |nil=>exact⟨rfl,fun i x v h=>by simp at h⟩
  |cons _ _=>exact h.elim
 |cons x xs f=>cases vs with
  |nil=>exact h.elim
  |cons v vs=>
   obtain⟨c,d⟩:=f h.2
   refine⟨by simp[c],fun i y u hy a=>?_⟩
   cases i with
   |zero=>simp at hy a;subst hy;subst a;exact h.1
   |succ i=>exact d i y u (by simpa using hy) (by simpa using a)
theorem yU{f:Func}{s:ChangeSpec}{r:World}{args:Array Value}{ds A:List (DataW H)}{e:List MemPlace}{u:TypeId}(C:DataW.Whole enc P f.params.toList s.vars false W args.toList ds A e)(c:s.vars=[])
  (k:laidOutB P=true) (z:∀t∈f.params.toList,P.readableRec t=true∧t<P.types.size) (g:f.resultTypes.toList=[u]) (L:P.underlying u=some .bool)
  (j:s.fn H (ds++A)={results:=[.lit (.bool true)],args:=ds }) (n:Below W.heap.size W r):s.post enc P f false true false false W args (.bool true) r:=by
 obtain⟨p,q,G,B,rfl,I,J⟩:=id C
 rw[c]at B
 obtain⟨rfl,rfl⟩:=trodVars_none B
 refine⟨ds,[],p++[],[],p,[],C,?_,?_,?_,?_,fun h=>by cases h⟩
 ·rw[j,g]
  have:(Value.bool true).resultList f.resultTypes.size=[.bool true]:=by
   have:f.resultTypes.size=1:=by rw[←FP,g];rfl
   rw[this];rfl
  rw[this]
  exact trodAll_cons_mk (shut_bool L _) trodAll_mk0
 ·rw[j]
  have key:∀(l:List TypeId) (vs:List Value) (m:List (DataW H)) (ps:List MemPlace),(∀t∈l,P.readableRec t=true∧t<P.types.size)→DataW.TrodAll enc P W 0 (fun _=>true) true l vs m ps→
    DataW.TrodAll enc P r 0 (fun b=>decide (b<W.heap.size)) true l vs m ps:=by
   intro l
   induction l with
   |nil=>intro vs m ps _ h;obtain⟨rfl,rfl,rfl⟩:=trodAll_nil h;exact trodAll_mk0
   |cons t l M=>
    intro vs m ps y h
    have w:=DataW.TrodAll.lt h
    obtain⟨v,N,d,D,a,b,rfl,rfl,rfl,E,F⟩:=trodAll_cons h
    exact trodAll_cons_mk (Below.trod k (y t (by simp)).1 (y t (by simp)).2 E n (fun x hx=>w x (Ho _ hx))) (M _ _ _ (fun t K=>y t (by simp[K])) F)
  exact key _ _ _ _ z G
 ·rw[c,j];exact rfl
 ·refine⟨n.os,n.output,fun i hi=>?_⟩
  rw[n.block i hi]
  cases W.heap[i]? with
  |none=>rfl
  |some o=>cases o<;>simp
end
end Go.Proofs.YtalafnjhcecdpaaGreatDoor
namespace Go.Proofs.YtalafnjhcecdpaaGreatDoor
set_option linter.all false
open Go Go.Eng
section
variable {H:Type} {enc:TypeId×Value→H} {W:World}
set_option maxRecDepth 100000
theorem tg(n:Nat):B7 enc Tryz.prog W n 44 AA:=fun cs x hx=>by
 obtain⟨xs,m,rfl,rfl,c,a,b⟩:=DataW.trod_struct Tryz.underlying44 hx
 obtain⟨v0,h,d⟩:=rf (Ei Tryz.underlying3) (b 0 _ rfl) a
 obtain⟨l,i,e⟩:=rf (Ei Tryz.underlying3) (b 1 _ rfl) a
 obtain⟨v2,j,f⟩:=rf (Ei Tryz.underlying27) (b 2 _ rfl) a
 obtain⟨v3,k,g⟩:=rf (Ee Tryz.underlying9) (b 3 _ rfl) a
 have q:=Ef (Bj d (Bj e (Bj f (Eh g))))
 exact⟨.mk v0 l v2 v3,⟨by rw[c];kernel_rfl,(h.at.app (i.at.app (j.at.app k.at)))⟩,q⟩
theorem Zvk(n:Nat)(h:∀k,k<n→B7 enc Tryz.prog W k 33 Ah):B7 enc Tryz.prog W n 64 CD:=fun cs x hx=>by
 obtain⟨xs,m,rfl,rfl,b,a,c⟩:=DataW.trod_struct Tryz.underlying64 hx
 obtain⟨v0,f,d⟩:=rf (h m (by omega)) (c 0 _ rfl) a
 obtain⟨i,g,e⟩:=rf (h m (by omega)) (c 1 _ rfl) a
 have q:=Ef (Bj d (Eh e))
 exact⟨.mk v0 i,⟨by rw[b];kernel_rfl,(f.at.app g.at)⟩,q⟩
theorem zy(n:Nat)(h:∀k,k<n→B7 enc Tryz.prog W k 33 Ah):B7 enc Tryz.prog W n 42 BF:=fun cs x hx=>by
 obtain⟨xs,m,rfl,rfl,b,a,c⟩:=DataW.trod_struct Tryz.underlying42 hx
 obtain⟨v0,f,d⟩:=rf (Ei Tryz.underlying3) (c 0 _ rfl) a
 obtain⟨i,g,e⟩:=rf (h m (by omega)) (c 1 _ rfl) a
 have q:=Ef (Bj d (Eh e))
 exact⟨.mk v0 i,⟨by rw[b];kernel_rfl,(f.at.app g.at)⟩,q⟩
theorem bc(n:Nat):B7 enc Tryz.prog W n 33 Ah:=by
 induction n using Nat.strongRecOn with
 |ind n e=>
 intro cs x hx
 obtain⟨xs,m,rfl,rfl,c,a,b⟩:=DataW.trod_struct Tryz.underlying33 hx
 obtain⟨v0,s,f⟩:=rf (Ei Tryz.underlying3) (b 0 _ rfl) a
 obtain⟨A,t,g⟩:=rf (Ei Tryz.underlying27) (b 1 _ rfl) a
 obtain⟨v2,u,h⟩:=rf (Ee Tryz.underlying9) (b 2 _ rfl) a
 obtain⟨v3,v,i⟩:=rf (C3 Tryz.underlying28 (by kernel_rfl:Tryz.prog.cellsOf 33=7) (by decide) (fun x=>by rw[F2];rfl) (fun k d=>(bL F2 (e k (by omega))))) (b 3 _ rfl) a
 obtain⟨v4,w,l⟩:=rf (C3 Tryz.underlying29 (by kernel_rfl:Tryz.prog.cellsOf 64=14) (by decide) (fun x=>by rw[Ka];rfl) (fun k d=>(bL Ka (Zvk k (fun j r=>e j (by omega)))))) (b 4 _ rfl) a
 obtain⟨v5,y,o⟩:=rf (C3 Tryz.underlying30 (by kernel_rfl:Tryz.prog.cellsOf 42=8) (by decide) (fun x=>by rw[J5];rfl) (fun k d=>(bL J5 (zy k (fun j r=>e j (by omega)))))) (b 5 _ rfl) a
 obtain⟨B,z,p⟩:=rf (C3 Tryz.underlying31 (by kernel_rfl:Tryz.prog.cellsOf 44=4) (by decide) (fun _=>rfl) (fun k d=>(tg k))) (b 6 _ rfl) a
 have q:=Ef (Bj f (Bj g (Bj h (Bj i (Bj l (Bj o (Eh p)))))))
 exact⟨.mk v0 A v2 v3 v4 v5 B,⟨by rw[c];kernel_rfl,(s.at.app (t.at.app (u.at.app (v.at.app (w.at.app (y.at.app z.at))))))⟩,q⟩
theorem sH(n:Nat):B7 enc Tryz.prog W n 53 DY:=fun cs x hx=>by
 obtain⟨xs,m,rfl,rfl,b,a,c⟩:=DataW.trod_struct Tryz.underlying53 hx
 obtain⟨v0,f,d⟩:=rf (Ei Tryz.underlying3) (c 0 _ rfl) a
 obtain⟨h,g,e⟩:=rf (Ee Tryz.underlying9) (c 1 _ rfl) a
 have q:=Ef (Bj d (Eh e))
 exact⟨.mk v0 h,⟨by rw[b];kernel_rfl,(f.at.app g.at)⟩,q⟩
theorem Mz(n:Nat):B7 enc Tryz.prog W n 242 B3:=fun cs x hx=>by
 obtain⟨xs,m,rfl,rfl,b,a,c⟩:=DataW.trod_struct Tryz.underlying242 hx
 obtain⟨v0,f,d⟩:=rf (Ee Tryz.underlying9) (c 0 _ rfl) a
 obtain⟨h,g,e⟩:=rf (bc m) (c 1 _ rfl) a
 have q:=Ef (Bj d (Eh e))
 exact⟨.mk v0 h,⟨by rw[b];kernel_rfl,(f.at.app g.at)⟩,q⟩
theorem tp(n:Nat):B7 enc Tryz.prog W n 56 Au:=fun cs x hx=>by
 obtain⟨xs,m,rfl,rfl,c,a,b⟩:=DataW.trod_struct Tryz.underlying56 hx
 obtain⟨v0,p,d⟩:=rf (Ei Tryz.underlying3) (b 0 _ rfl) a
 obtain⟨A,r,e⟩:=rf (Ee Tryz.underlying9) (b 1 _ rfl) a
 obtain⟨v2,s,f⟩:=rf (Ei Tryz.underlying3) (b 2 _ rfl) a
 obtain⟨v3,t,g⟩:=rf (Ei Tryz.underlying3) (b 3 _ rfl) a
 obtain⟨v4,u,h⟩:=rf (sH m) (b 4 _ rfl) a
 obtain⟨v5,v,i⟩:=rf (Ee Tryz.underlying9) (b 5 _ rfl) a
 obtain⟨B,w,j⟩:=rf (oH Tryz.underlying4) (b 6 _ rfl) a
 obtain⟨C,y,l⟩:=rf (bc m) (b 7 _ rfl) a
 obtain⟨D,z,o⟩:=rf (C3 Tryz.underlying54 (by kernel_rfl:Tryz.prog.cellsOf 242=8) (by decide) (fun _=>rfl) (fun k E=>(Mz k))) (b 8 _ rfl) a
 have q:=Ef (Bj d (Bj e (Bj f (Bj g (Bj h (Bj i (Bj j (Bj l (Eh o)))))))))
 exact⟨.mk v0 A v2 v3 v4 v5 B C D,⟨by rw[c];kernel_rfl,(p.at.app (r.at.app (s.at.app (t.at.app (u.at.app (v.at.app (w.at.app (y.at.app z.at))))))))⟩,q⟩
theorem qy(n:Nat):B7 enc Tryz.prog W n 195 Cq:=fun cs x hx=>by
 obtain⟨xs,m,rfl,rfl,b,a,c⟩:=DataW.trod_struct Tryz.underlying195 hx
 obtain⟨v0,f,d⟩:=rf (Ei Tryz.underlying3) (c 0 _ rfl) a
 obtain⟨h,g,e⟩:=rf (Ei Tryz.underlying3) (c 1 _ rfl) a
 have q:=Ef (Bj d (Eh e))
 exact⟨.mk v0 h,⟨by rw[b];kernel_rfl,(f.at.app g.at)⟩,q⟩
theorem tf(n:Nat):B7 enc Tryz.prog W n 61 AO:=fun cs x hx=>by
 obtain⟨xs,m,rfl,rfl,c,a,b⟩:=DataW.trod_struct Tryz.underlying61 hx
 obtain⟨v0,j,e⟩:=rf (Ee Tryz.underlying9) (b 0 _ rfl) a
 obtain⟨s,l,f⟩:=rf (C3 Tryz.underlying57 (by kernel_rfl:Tryz.prog.cellsOf 56=16) (by decide) (fun _=>rfl) (fun k d=>(tp k))) (b 1 _ rfl) a
 obtain⟨v2,o,g⟩:=rf (C3 Tryz.underlying58 (by kernel_rfl:Tryz.prog.cellsOf 195=2) (by decide) (fun _=>rfl) (fun k d=>(qy k))) (b 2 _ rfl) a
 obtain⟨v3,p,h⟩:=rf (C3 Tryz.underlying59 (by kernel_rfl:Tryz.prog.cellsOf 9=1) (by decide) (fun _=>rfl) (fun k d=>(Ee Tryz.underlying9))) (b 3 _ rfl) a
 obtain⟨v4,r,i⟩:=rf (C3 Tryz.underlying54 (by kernel_rfl:Tryz.prog.cellsOf 242=8) (by decide) (fun _=>rfl) (fun k d=>(Mz k))) (b 4 _ rfl) a
 have q:=Ef (Bj e (Bj f (Bj g (Bj h (Eh i)))))
 exact⟨.mk v0 s v2 v3 v4,⟨by rw[c];kernel_rfl,(j.at.app (l.at.app (o.at.app (p.at.app r.at))))⟩,q⟩
theorem tP(n:Nat):B7 enc Tryz.prog W n 164 CK:=fun cs x hx=>by
 obtain⟨xs,m,rfl,rfl,b,a,c⟩:=DataW.trod_struct Tryz.underlying164 hx
 obtain⟨v0,g,d⟩:=rf (Ee Tryz.underlying9) (c 0 _ rfl) a
 obtain⟨j,h,e⟩:=rf (Ei Tryz.underlying3) (c 1 _ rfl) a
 obtain⟨v2,i,f⟩:=rf (C3 Tryz.underlying54 (by kernel_rfl:Tryz.prog.cellsOf 242=8) (by decide) (fun _=>rfl) (fun k l=>(Mz k))) (c 2 _ rfl) a
 have q:=Ef (Bj d (Bj e (Eh f)))
 exact⟨.mk v0 j v2,⟨by rw[b];kernel_rfl,(g.at.app (h.at.app i.at))⟩,q⟩
theorem sE(n:Nat):B7 enc Tryz.prog W n 108 BO:=fun cs x hx=>by
 obtain⟨xs,m,rfl,rfl,c,a,b⟩:=DataW.trod_struct Tryz.underlying108 hx
 obtain⟨v0,j,e⟩:=rf (Ee Tryz.underlying9) (b 0 _ rfl) a
 obtain⟨s,l,f⟩:=rf (oH Tryz.underlying4) (b 1 _ rfl) a
 obtain⟨v2,o,g⟩:=rf (C3 Tryz.underlying106 (by kernel_rfl:Tryz.prog.cellsOf 164=3) (by decide) (fun _=>rfl) (fun k d=>(tP k))) (b 2 _ rfl) a
 obtain⟨v3,p,h⟩:=rf (C3 Tryz.underlying58 (by kernel_rfl:Tryz.prog.cellsOf 195=2) (by decide) (fun _=>rfl) (fun k d=>(qy k))) (b 3 _ rfl) a
 obtain⟨v4,r,i⟩:=rf (C3 Tryz.underlying54 (by kernel_rfl:Tryz.prog.cellsOf 242=8) (by decide) (fun _=>rfl) (fun k d=>(Mz k))) (b 4 _ rfl) a
 have q:=Ef (Bj e (Bj f (Bj g (Bj h (Eh i)))))
 exact⟨.mk v0 s v2 v3 v4,⟨by rw[c];kernel_rfl,(j.at.app (l.at.app (o.at.app (p.at.app r.at))))⟩,q⟩
theorem tk(n:Nat):B7 enc Tryz.prog W n 166 G4:=fun cs x hx=>by
 obtain⟨xs,m,rfl,rfl,c,a,b⟩:=DataW.trod_struct Tryz.underlying166 hx
 obtain⟨v0,i,d⟩:=rf (Ee Tryz.underlying9) (b 0 _ rfl) a
 obtain⟨r,j,e⟩:=rf (Ee Tryz.underlying9) (b 1 _ rfl) a
 obtain⟨v2,l,f⟩:=rf (Ee Tryz.underlying9) (b 2 _ rfl) a
 obtain⟨v3,o,g⟩:=rf (Ei Tryz.underlying3) (b 3 _ rfl) a
 obtain⟨v4,p,h⟩:=rf (C3 Tryz.underlying54 (by kernel_rfl:Tryz.prog.cellsOf 242=8) (by decide) (fun _=>rfl) (fun k s=>(Mz k))) (b 4 _ rfl) a
 have q:=Ef (Bj d (Bj e (Bj f (Bj g (Eh h)))))
 exact⟨.mk v0 r v2 v3 v4,⟨by rw[c];kernel_rfl,(i.at.app (j.at.app (l.at.app (o.at.app p.at))))⟩,q⟩
theorem tb(n:Nat):B7 enc Tryz.prog W n 112 C8:=fun cs x hx=>by
 obtain⟨xs,m,rfl,rfl,b,a,c⟩:=DataW.trod_struct Tryz.underlying112 hx
 obtain⟨v0,h,d⟩:=rf (Ee Tryz.underlying9) (c 0 _ rfl) a
 obtain⟨l,i,e⟩:=rf (C3 Tryz.underlying110 (by kernel_rfl:Tryz.prog.cellsOf 166=5) (by decide) (fun _=>rfl) (fun k g=>(tk k))) (c 1 _ rfl) a
 obtain⟨v2,j,f⟩:=rf (C3 Tryz.underlying54 (by kernel_rfl:Tryz.prog.cellsOf 242=8) (by decide) (fun _=>rfl) (fun k g=>(Mz k))) (c 2 _ rfl) a
 have q:=Ef (Bj d (Bj e (Eh f)))
 exact⟨.mk v0 l v2,⟨by rw[b];kernel_rfl,(h.at.app (i.at.app j.at))⟩,q⟩
theorem sk(n:Nat):B7 enc Tryz.prog W n 26 At:=fun cs x hx=>by
 obtain⟨xs,m,rfl,rfl,b,a,c⟩:=DataW.trod_struct Tryz.underlying26 hx
 obtain⟨v0,h,e⟩:=rf (C3 Tryz.underlying22 (by kernel_rfl:Tryz.prog.cellsOf 61=5) (by decide) (fun _=>rfl) (fun k d=>(tf k))) (c 0 _ rfl) a
 obtain⟨l,i,f⟩:=rf (C3 Tryz.underlying23 (by kernel_rfl:Tryz.prog.cellsOf 108=5) (by decide) (fun _=>rfl) (fun k d=>(sE k))) (c 1 _ rfl) a
 obtain⟨v2,j,g⟩:=rf (C3 Tryz.underlying24 (by kernel_rfl:Tryz.prog.cellsOf 112=3) (by decide) (fun _=>rfl) (fun k d=>(tb k))) (c 2 _ rfl) a
 have q:=Ef (Bj e (Bj f (Eh g)))
 exact⟨.mk v0 l v2,⟨by rw[b];kernel_rfl,(h.at.app (i.at.app j.at))⟩,q⟩
end
end Go.Proofs.YtalafnjhcecdpaaGreatDoor
namespace Go.Eng
set_option linter.all false
open Go Go.RowKit
section
variable {σ ξ ρ α β γ:Type}
theorem IF{B:Nat→Option (Lv Nat ξ ρ)}{N:Nat}(l:List α)(p:α→Bool)(f:Nat→ρ)(e:ξ)
  (hs:∀i x,l[i]?=some x→B i=some (if p x=true then .rt (f i)else .nx (i+1))) (he:B l.length=some (.ex e)) (hN:l.length<N):
  Ag B N 0=some (match l.findIdx? p with|some i=>.inr (f i)|none=>.inl e):=by
 suffices H:∀k i N,i+k=l.length→k<N→Ag B N i=some (match (l.drop i).findIdx? p with|some j=>.inr (f (i+j))|none=>.inl e)by
  have:=H l.length 0 N (by omega) hN
  simpa using this
 intro k
 induction k with
 |zero=>
  intro i N hi hN
  obtain⟨N,rfl⟩:∃m,N=m+1:=⟨N-1,by omega⟩
  have:i=l.length:=by omega
  subst this
  rw[Ag,he,NA]
  rfl
 |succ k b=>
  intro i N hi hN
  obtain⟨N,rfl⟩:∃m,N=m+1:=⟨N-1,by omega⟩
  have a:i<l.length:=by omega
  rw[Ag,hs i l[i] (Ya a),GA a,List.findIdx?_cons]
  cases c:p l[i]with
  |true=>simp
  |false=>
   simp only[Ym,YH]
   rw[b (i+1) N (by omega) (by omega)]
   cases(List.drop (i+1) l).findIdx? p with
   |none=>rfl
   |some j=>simp[YI,Np 1 j]
def Mw(R:List α→α→Option ρ):List α→List α→Option ρ
 |_,[]=>none
 |p,x::l=>match R p x with
  |some r=>some r
  |none=>Mw R (p++[x]) l
theorem ZvE{B:σ→Option (Lv σ ξ ρ)}{N:Nat}(l:List α)(S:List α→β)(R:List α→α→Option ρ)(mk:Nat→β→σ)(e:β→ξ)
  (hs:∀i x,l[i]?=some x→B (mk i (S (l.take i)))=some (match R (l.take i) x with|some r=>.rt r|none=>.nx (mk (i+1) (S (l.take i++[x])))))
  (he:B (mk l.length (S l))=some (.ex (e (S l)))) (hN:l.length<N):Ag B N (mk 0 (S []))=some ((Mw R [] l).elim (.inl (e (S l))) .inr):=by
 suffices H:∀k i N,i+k=l.length→k<N→Ag B N (mk i (S (l.take i)))=some ((Mw R (l.take i) (l.drop i)).elim (.inl (e (S l))) .inr)by
  have:=H l.length 0 N (by omega) hN
  grind
 intro k
 induction k with
 |zero=>
  intro i N hi hN
  obtain⟨N,rfl⟩:∃m,N=m+1:=⟨N-1,by omega⟩
  have:i=l.length:=by omega
  subst this
  rw[Ag,P6,he,NA]
  rfl
 |succ k b=>
  intro i N hi hN
  obtain⟨N,rfl⟩:∃m,N=m+1:=⟨N-1,by omega⟩
  have a:i<l.length:=by omega
  rw[Ag,hs i l[i] (Ya a),GA a,Mw]
  cases R (l.take i) l[i]with
  |some r=>rfl
  |none=>
   have:=b (i+1) N (by omega) (by omega)
   rw[JD a]at this
   exact this
theorem lY{R:List α→α→Option ρ}(h:∀p x,R p x=none):∀(l p:List α),Mw R p l=none
 |[],p=>rfl
 |x::l,p=>by rw[Mw,h];exact lY h l _
theorem II{B:σ→Option (Lv σ ξ ρ)}{N:Nat}(l:List α)(S:List α→β)(mk:Nat→β→σ)(e:β→ξ)
  (hs:∀i x,l[i]?=some x→B (mk i (S (l.take i)))=some (.nx (mk (i+1) (S (l.take i++[x])))))
  (he:B (mk l.length (S l))=some (.ex (e (S l)))) (hN:l.length<N):Ag B N (mk 0 (S []))=some (.inl (e (S l))):=by
 rw[ZvE l S (fun _ _=>none) mk e hs he hN,lY fun _ _=>rfl]
 rfl
theorem nr{B:σ→Option (Lv σ ξ ρ)}(I:Nat→σ→Prop)(Q:ξ ⊕ ρ→Prop)
  (h:∀k v,I k v→∃o,B v=some o∧match o with|.nx c=>∃k',k'<k∧I k' c|.ex b=>Q (.inl b)|.rt y=>Q (.inr y)):
  ∀N k v,k<N→I k v→∃o,Ag B N v=some o∧Q o
 |0,k,v,d,_=>absurd d (Y0 _)
 |N+1,k,v,d,g=>by
  obtain⟨o,e,a⟩:=h k v g
  rw[Ag,e]
  cases o with
  |nx c=>obtain⟨k',i,f⟩:=a;exact nr I Q h N k' c (by omega) f
  |ex b=>exact⟨_,rfl,a⟩
  |rt y=>exact⟨_,rfl,a⟩
theorem B9{l:List α}{i:Nat}{x:α}(h:l[i]?=some x):(i:Int)<(l.length:Int):=by
 grind
theorem A6{n:Nat}(h:n<4611686018427387904):n<Aj:=h
end
end Go.Eng
namespace Go.Proofs.YtalafnjhcecdpaaGreatDoor
set_option linter.all false
open Go Go.Eng
def Ok{α:Type}(Q:α→Prop)(o:Option α):Prop:=∃y,o=some y∧Q y
section
variable {α β γ σ ξ ρ:Type} {Q:β→Prop} {P:α→Prop}
theorem Az{y:β}(h:Q y):Ok Q (some y):=⟨y,rfl,h⟩
theorem AD{m:Option α}{k:α→Option β}(h:Ok P m)(a:∀y,P y→Ok Q (k y)):Ok Q (m.bind k):=by
 obtain⟨y,rfl,h⟩:=h
 exact a y h
theorem BK{xs:List α}{i:Nat}{k:α→Option β}(h:i<xs.length)(a:∀x,xs[i]?=some x→x∈xs→Ok Q (k x)):Ok Q (xs[i]?.bind k):=by
 rw[Ya h]
 exact a _ (Ya h) (Ix h)
theorem AG{b:Bool}{x y:Option β}(h:b=true→Ok Q x)(a:b=false→Ok Q y):Ok Q (if b=true then x else y):=by
 cases b
 ·exact a rfl
 ·exact h rfl
theorem AI{c:Prop}{d:Decidable c}{a:Option β}(b:c)(h:Ok Q a):Ok Q (if c then a else none):=by
 rw[Yk b]
 exact h
theorem eV{lo hi:Bd}{n:Nat}{a:Option β}(b:lo.c∧hi.c∧lo.vl 0≤hi.vl n∧hi.vl n≤n)(h:Ok Q a):Ok Q (if lo.c∧hi.c∧lo.vl 0≤hi.vl n∧hi.vl n≤n then a else none):=by
 rw[Yk b]
 exact h
theorem Bl{b:Bool}{m:Option α}{x:Option β}(h:b=true→Ok P m)[Inhabited α](d:(b=true→P (m.getD default))→Ok Q x):Ok Q (if(b=true→m.isSome=true)then x else none):=by
 rw[Yk fun e=>by obtain⟨y,h,_⟩:=h e;rw[h];rfl]
 refine d fun e=>?_
 obtain⟨y,a,c⟩:=h e
 rw[a]
 exact c
theorem FX{b:Bool}{xs:List α}{i:Int}{x:Option β}[Rw α](h:b=true→0≤i∧i<xs.length)(c:(b=true→xs[i.toNat]?=some (xs.getD i.toNat Rw.z)∧xs.getD i.toNat Rw.z∈xs)→Ok Q x):Ok Q (if(b=true→0≤i∧i<xs.length)then x else none):=by
 rw[Yk h]
 refine c fun e=>?_
 have d:=h e
 have a:i.toNat<xs.length:=by omega
 rw[Yj,Ya a]
 exact⟨rfl,Ix a⟩
theorem Bt{B:σ→Option (Lv σ ξ ρ)}{N:Nat}{v:σ}(I:σ→Prop)(μ:σ→Nat){A:ξ→Prop}{R:ρ→Prop}(d:I v)(hN:μ v<N)
  (hs:∀v,I v→Ok (fun o=>match o with|.nx c=>I c∧μ c<μ v|.ex b=>A b|.rt y=>R y) (B v)):Ok (Sum.elim A R) (Ag B N v):=
 nr (fun k v=>I v∧μ v≤k) (Sum.elim A R) (fun k v h=>by
  obtain⟨o,e,a⟩:=hs v h.1
  refine⟨o,e,?_⟩
  cases o with
  |nx c=>exact⟨μ c,by have:=a.2;have:=h.2;omega,a.1,Ye _⟩
  |ex b=>exact a
  |rt y=>exact a) N (μ v) v hN ⟨d,Ye _⟩
theorem BD{m:Option (ξ ⊕ ρ)}{A:ξ→Prop}{R:ρ→Prop}{f:ξ→Option β}{g:ρ→Option β}(h:Ok (Sum.elim A R) m)(hx:∀b,A b→Ok Q (f b))(a:∀r,R r→Ok Q (g r)):Ok Q (m.bind (Sum.elim f g)):=by
 obtain⟨y,rfl,h⟩:=h
 cases y with
 |inl b=>exact hx b h
 |inr r=>exact a r h
theorem Ok.mono{a:β→Prop}{o:Option β}(h:Ok Q o)(k:∀y,Q y→a y):Ok a o:=by
 obtain⟨y,b,c⟩:=h
 exact⟨y,b,k y c⟩
theorem Ok.some{o:Option β}(h:Ok Q o):o.isSome=true:=by
 obtain⟨y,a,b⟩:=h
 rw[a]
 rfl
end
abbrev Tr{α:Type}:α→Prop:=fun _=>True
abbrev No{α:Type}:α→Prop:=fun _=>False
abbrev Ts{α β:Type}:α ⊕ β→Prop:=Sum.elim Tr Tr
theorem re:(⟨#[]⟩:ByteArray).size=0:=rfl
theorem AP{p:Prop}(h:p:=by first|trivial|assumption|contradiction|omega|grind|(simp only[Bd.c,Bd.vl,ByteArray.size_append,ei,re]at*;grind)):p:=h
theorem B6{p:Prop}(h:p:=by first|trivial|assumption|contradiction|omega|solve_by_elim|(simp only[Yc,YF,YU,La,Lb,YJ,YV]at*;omega)|grind):p:=h
theorem Rb(x:Int):Ok Tr (kW x):=⟨_,rfl,trivial⟩
theorem Rq(x:Int):Ok Tr (kY x):=⟨_,rfl,trivial⟩
theorem jl(x:Val):Ok Tr (XJ x):=⟨_,rfl,trivial⟩
theorem ki(x:Int):Ok Tr (Rz x):=⟨_,rfl,trivial⟩
theorem ku(x:Int):Ok Tr (Og x):=by
 dsimp only[Og,br,lr,br,rem]
 (repeat' (first|with_reducible (first|refine AG (fun _=>?_) fun _=>?_|refine Az ?_|refine AI ?_ ?_)))<;>exact B6
theorem Ws(x:ByteArray):Ok Tr (XR x):=by
 dsimp only[XR,Sa,Oz,Oo,br,lr,br]
 (repeat' (first|with_reducible (first|refine AG (fun _=>?_) fun _=>?_|refine Az ?_|refine AI ?_ ?_)))<;>exact B6
theorem wS(x:ByteArray)(n:Int):Ok Tr (XM x n):=by
 dsimp only[XM,ZI,R9,RY,Ot,Oq,RH,br,lr,br]
 (repeat' (first|with_reducible (first|refine AG (fun _=>?_) fun _=>?_|refine Az ?_|refine AI ?_ ?_)))<;>exact B6
theorem Wc(x:ByteArray):Ok Tr (Xp x):=by
 dsimp only[Xp,br,lr,br]
 (repeat' (first|with_reducible (first|refine AG (fun _=>?_) fun _=>?_|refine Az ?_|refine AI ?_ ?_)))<;>exact B6
def KX(x:Fld):Prop:=(x.card≠5→1≤x.card∧x.card≤4∧x.key=0)∧(x.card=5→x.key=1∨x.key=2∨x.key=3∨x.key=4∨x.key=5∨x.key=7)
theorem qZ(x:Fld):Ok (fun b=>b=true→KX x) (XL x):=by
 unfold KX
 dsimp only[XL,br,wg,lr,br]
 (repeat' (first|with_reducible (first|refine AG (fun _=>?_) fun _=>?_|refine Az ?_|refine AI ?_ ?_)))<;>(intro h;first|(cases h;done)|(simp only[Yc,YU,Vb,YJ,YV]at*;omega))
theorem Wj(x:ByteArray)(i a b:Int)(h:0≤i):Ok Tr (XB x i a b):=by
 dsimp only[XB,vz,lr,A1,Gn]
 (repeat' (first|with_reducible (first|refine AG (fun _=>?_) fun _=>?_|refine Az ?_|refine AI ?_ ?_)))<;>exact B6
theorem kQ(x:ByteArray)(i n:Int)(h:0≤i)(a:i≤2097152)(b:n≤9):Ok Tr (XK x i n):=by
 have q:Ok Ts (Ag (SY x i n) Aj 0):=by
  refine Bt (fun _:Nat=>True) (fun v:Nat=>(n-v).toNat) trivial ?_ fun v _=>?_
  ·unfold Aj
   omega
  dsimp only[SY,br,vs,Aw,ln,Af,cl,wa,wi,br]
  (repeat' (first|with_reducible (first|refine AG (fun _=>?_) fun _=>?_|refine Az ?_)|(with_reducible apply AD;(exact Wj _ _ _ _ (by omega));intro _ _)|with_reducible refine AI ?_ ?_))<;>exact B6
 dsimp only[XK,lr,lc]
 (repeat' (first|with_reducible (first|refine AG (fun _=>?_) fun _=>?_|refine Az ?_)|(with_reducible apply BD;(exact q);all_goals(intro _ _;try dsimp only))|with_reducible refine AI ?_ ?_))<;>exact B6
set_option maxRecDepth 20000 in
theorem w5(x:ByteArray)(i:Int)(h:0≤i)(h1:i<x.size)(h2:x.size≤1048576):Ok (fun y=>0≤y∧y≤4) (XN x i):=by
 dsimp only[XN,br,vg,lr,AF,wi,br,Uv]
 (repeat' (first|with_reducible (first|refine AG (fun _=>?_) fun _=>?_|refine Az ?_|refine BK ?_ fun _ _ _=>?_)|(with_reducible apply AD;(exact Wj _ _ _ _ (by omega));intro _ _)|(with_reducible apply AD;(exact kQ _ _ _ (by omega) (by omega) (by omega));intro _ _)|(with_reducible apply Bl;(exact fun _=>Wj _ _ _ _ (by omega));intro _)|(with_reducible apply Bl;(exact fun _=>kQ _ _ _ (by omega) (by omega) (by omega));intro _)|with_reducible refine AI ?_ ?_))<;>exact B6
theorem IL:∀a b:List (List D),AH (a++b)=AH a+AH b
 |[],b=>by rw[GB,AH,YP]
 |x::a,b=>by rw[JC,AH,AH,IL a b];omega
theorem R7{α:Type}(e:α→List D){l:List α}{i:Nat}{x:α}(h:l[i]?=some x):AH ((l.take (i+1)).map e)=AH ((l.take i).map e)+An (e x)+1:=by
 obtain⟨a,rfl⟩:=Yf.1 h
 rw[JD a,DP,IL]
 simp only[YR,Gz,AH]
 omega
theorem Ma{α:Type}(e:α→List D)(l:List α)(i:Nat):AH ((l.take i).map e)≤AH (l.map e):=by
 conv=>rhs;rw[←JH i l,DP,IL]
 omega
structure SzV (v:Val):Prop where
 t:v.text.size≤1048576
 l:v.list.length≤1048576
 p:v.pairs.length≤1048576
 s:v.slots.length≤1048576
 r:v.raws.length≤1048576
structure SzN (x:Nt):Prop where
 n:x.name.size≤1048576
 v:SzV x.val
abbrev H5(l:List Nt):Prop:=l.length≤1048576∧∀x∈l,SzN x
structure SzF (x:Fld):Prop where
 n:x.name.size≤1048576
 t:x.type.name.size≤1048576
 u:x.union.size≤1048576
 d:SzV x.dflt
 o:H5 x.notes
structure SzM (x:Msg):Prop where
 n:x.name.size≤1048576
 fl:x.fields.length≤1048576
 f:∀y∈x.fields,SzF y
 r:x.reserved.length≤1048576
 gl:x.gone.length≤1048576
 g:∀y∈x.gone,y.size≤1048576
 o:H5 x.notes
structure SzI (x:Itm):Prop where
 n:x.name.size≤1048576
 o:H5 x.notes
structure SzE (x:Enm):Prop where
 n:x.name.size≤1048576
 il:x.items.length≤1048576
 i:∀y∈x.items,SzI y
 r:x.reserved.length≤1048576
 o:H5 x.notes
structure SzT (x:Mth):Prop where
 n:x.name.size≤1048576
 o:H5 x.notes
structure SzW (x:Svc):Prop where
 n:x.name.size≤1048576
 ml:x.methods.length≤1048576
 m:∀y∈x.methods,SzT y
 o:H5 x.notes
structure SzS (x:Scm):Prop where
 ml:x.messages.length≤1048576
 m:∀y∈x.messages,SzM y
 el:x.enums.length≤1048576
 e:∀y∈x.enums,SzE y
 wl:x.services.length≤1048576
 w:∀y∈x.services,SzW y
theorem D5{v:Val}(h:An (Ah v)≤1048576):SzV v:=by
 have a:=Cv (e:=AJ) v.list
 have b:=Cv (e:=Ap) v.pairs
 have c:=Cv (e:=Ao) v.slots
 have d:=Cv (e:=AA) v.raws
 simp only[Ah,An,bk]at h
 constructor<;>omega
theorem MC{v:Val}(h:An (Ah v)≤1048576):0≤v.bits∧v.bits≤18446744073709551615:=by
 simp only[Ah,An,bk]at h
 have:=uq (k:=.u64) (n:=v.bits) (by omega)
 exact this
theorem szN{x:Nt}(h:An (B3 x)≤1048576):SzN x:=by
 have e:An (B3 x)=x.name.size+An (Ah x.val):=by simp only[B3,Ah,An,bk]
 exact⟨by omega,D5 (by omega)⟩
theorem LF{l:List Nt}(h:AH (l.map B3)≤1048576):H5 l:=⟨by have:=Cv (e:=B3) l;omega,fun x hx=>szN (by have:=Dg (e:=B3) hx;omega)⟩
theorem szF{x:Fld}(h:An (Au x)≤1048576):SzF x:=by
 have e:x.name.size+x.type.name.size+x.union.size+An (Ah x.dflt)+AH (x.notes.map B3)≤An (Au x):=by
  simp only[Au,Ah,An,bk]
  omega
 exact⟨by omega,by omega,by omega,D5 (by omega),LF (by omega)⟩
theorem szM{x:Msg}(h:An (AO x)≤1048576):SzM x:=by
 simp only[AO,An,bk]at h
 have a:=Cv (e:=Au) x.fields
 have b:=Cv (e:=Cq) x.reserved
 have c:=Cv (e:=AZ) x.gone
 exact⟨by omega,by omega,fun y hy=>szF (by have:=Dg (e:=Au) hy;omega),by omega,by omega,fun y hy=>by have:=Dg (e:=AZ) hy;simp only[AZ,An,bk]at this;omega,LF (by omega)⟩
theorem szI{x:Itm}(h:An (CK x)≤1048576):SzI x:=by
 simp only[CK,An,bk]at h
 exact⟨by omega,LF (by omega)⟩
theorem szE{x:Enm}(h:An (BO x)≤1048576):SzE x:=by
 simp only[BO,An,bk]at h
 have a:=Cv (e:=CK) x.items
 have b:=Cv (e:=Cq) x.reserved
 exact⟨by omega,by omega,fun y hy=>szI (by have:=Dg (e:=CK) hy;omega),by omega,LF (by omega)⟩
theorem szT{x:Mth}(h:An (G4 x)≤1048576):SzT x:=by
 simp only[G4,An,bk]at h
 exact⟨by omega,LF (by omega)⟩
theorem szW{x:Svc}(h:An (C8 x)≤1048576):SzW x:=by
 simp only[C8,An,bk]at h
 have a:=Cv (e:=G4) x.methods
 exact⟨by omega,by omega,fun y hy=>szT (by have:=Dg (e:=G4) hy;omega),LF (by omega)⟩
theorem Hf{x:Scm}(h:An (At x)≤1048576):SzS x:=by
 simp only[At,An,bk]at h
 have a:=Cv (e:=AO) x.messages
 have b:=Cv (e:=BO) x.enums
 have c:=Cv (e:=C8) x.services
 exact⟨by omega,fun y hy=>szM (by have:=Dg (e:=AO) hy;omega),by omega,fun y hy=>szE (by have:=Dg (e:=BO) hy;omega),by omega,fun y hy=>szW (by have:=Dg (e:=C8) hy;omega)⟩
end Go.Proofs.YtalafnjhcecdpaaGreatDoor
