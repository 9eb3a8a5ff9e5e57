import Derived.Test.YtjbijbkdiijhaaaGreatZa20
import Derived.Test.YtjbijbkdiijhaaaGreatZa09
import Derived.Test.YtjbijbkdiijhaaaGreatZa08
import Derived.Test.YtjbijbkdiijhaaaGreatRows
import Derived.WalkKit
import Derived.ProofKit
import Derived.OpenShut
import Derived.Carry
import Derived.Deep.DeepHandedRow
import Derived.Test.YtjbijbkdiijhaaaGreatZa11
import Derived.Test.YtjbijbkdiijhaaaGreatZa00
namespace Go.Proofs.YtjbijbkdiijhaaaGreat
set_option maxRecDepth 100000
set_option linter.all false
open Go Go.Eng
abbrev OS:List (Af×Bool):=[((1,4),false),((1,6),false),((1,7),false),((1,8),false),((1,9),false),((1,26),true)]
abbrev iS:List (Af×Bool):=[((1,6),false),((1,7),false),((1,8),false),((1,26),true)]
abbrev Gz(a:Val):Af×Blk:=kk 7 33 7 (cD (Ag a))
abbrev JV(a:Val):Af×Blk:=kk 6 33 7 (cD (Ag a))
abbrev JL:Af×Blk:=kk 8 33 7 [vI 0,.d (.int .u64 0),vS ⟨#[]⟩,.e0,.e0,.e0,.e0]
abbrev JN(a:Msg×Bool):Af×Blk:=kk 9 45 5 (cD (AU a.1))
abbrev RU(a:Scm):Af×Blk:=kk 4 26 3 (cD (Ar a))
abbrev R8(a:Val):Af×Blk:=kk 26 61 8 (Ab Aq a.slots)
def eF(c:Scm)(d:Val)(a:Val)(e:Msg×Bool):List Slt×Nat→St:=fun(b,v4)=>Ad [pp 4,pp 6,pp 7,pp 8,pp 9,(11,.ref (1,26) 0 0 b.length),(35,vL Aq a.slots),(36,vN a.slots.length),(37,vN v4)] [(RU c),(JV d),(Gz a),JL,(JN e),kk 26 61 8 (Ab Aq b)]
def w7(b:Val)(c:Val):List Slt→Nat×St:=fun a=>(0,Ad [pp 6,pp 7,pp 8,(11,.ref (1,26) 0 0 a.length)] [(JV b),(Gz c),JL,kk 26 61 8 (Ab Aq a)])
def Zw(g:Scm)(j:Val)(e:Val)(h:Scm→ByteArray→Val→Val→Option (Val))(k:Msg×Bool)(a:List Slt)(v4:Nat):PT 0 (Lv (List Slt×Nat) (List Slt) (Val)):=br (decide ((v4:Int)<(e.slots.length:Int))) (ix e.slots v4 fun b=>wg<|wg<|wg<|cl (yK k.1 b.num) fun m=>wg<|wg<|cs Tryz.prog 23 [.ref (1,26) 0 0 a.length,vI b.num] [(1,26)] [kk 26 61 8 (Ab Aq a)] (Vm a b.num) (fun y=>vI y) fun f=>br (decide ((0:Int)≤f)) (wg<|wg<|vs (AH f a.length 8)<|cp a f.toNat 1 7 fun l=>wg<|cs Tryz.prog 24 [.agg ((Ar g).map .d),.agg ((Ay m.1).map .d),.agg ((Ag l.val).map .d),.agg ((Ag b.val).map .d)] [] [] (Vu h g m.1 l.val b.val) (fun y=>.agg ((Ag y).map .d)) fun c=>vs (AH f a.length 8)<|DX a f.toNat 1 [(.int .i64 c.kind),(.int .u64 c.bits),(.str c.text),(.list (c.list.map A7)),(.list (c.pairs.map Ao)),(.list (c.slots.map Aq)),(.list (c.raws.map Av))] (fun i=>(.mk i.num c:Slt)) (fun _=>by rw[Rw.ef,Rw.ef];rfl) fun d=>rn 11 26 a.length d<|vw .sep<|vs (wa v4 1)<|vz (fl d)<|ln (eF g j e k) (d,v4+1)) (wg<|vw .sep<|ap a (b:Slt)<|vs (wa v4 1)<|vz (fl (a++[b]))<|ln (eF g j e k) (a++[b],v4+1))) (vz (fl a)<|Ah (w7 j e) a)
def NW(b:Scm)(c:Val)(d:Val)(a:Scm→ByteArray→Val→Val→Option (Val))(f:Msg×Bool):List Slt×Nat→Option (Lv (List Slt×Nat) (List Slt) (Val)):=fun(e,v4)=>(Zw b c d a f e v4).m
def fs(c:Val)(d:Val)(a:List Slt):PT 0 (Val):=wg<|wg<|cl (ZV0 c.raws d.raws) fun b=>wg<|vz (fr a)<|lr Kb nG (.mk 10 0 ⟨#[]⟩ [] [] a b:Val)
def dD(c:Val)(d:Val)(b:List Slt)(a:List Slt):PT 0 (Val):=rn 11 26 b.length a<|vz (fl a)<|lc (Ad [pp 6,pp 7,pp 8,(11,.ref (1,26) 0 0 a.length)] [(JV c),(Gz d),JL,kk 26 61 8 (Ab Aq a)]) ((fs c d a).m)
def fU(c:Val)(d:Val)(a:List Slt):PT 0 (Val):=vz (fl a)<|lc (Ad [pp 6,pp 7,pp 8,(11,.ref (1,26) 0 0 a.length),(73,.ref (1,26) 0 0 a.length)] [(JV c),(Gz d),JL,kk 26 61 8 (Ab Aq a)]) ((FE a (fun(z0:Slt) (e:Slt)=>MR z0 e)).bind fun b=>(dD c d a b).m)
def aQ(f:Scm)(d:Val)(a:Val)(c:Scm→ByteArray→Val→Val→Option (Val))(g:Msg×Bool)(b:List Slt):PT 0 (Val):=wg<|vz (An a.slots)<|vz (fl b)<|lc (Ad [pp 4,pp 6,pp 7,pp 8,pp 9,(11,.ref (1,26) 0 0 b.length),(35,vL Aq a.slots),(36,vN a.slots.length),(37,vI 0)] [(RU f),(JV d),(Gz a),JL,(JN g),kk 26 61 8 (Ab Aq b)]) ((Ak (NW f d a c g) Am (b,0)).bind (Sum.elim (fun e=>(fU d a e).m) some))
def cm(c:Scm)(d:Val)(e:Val)(b:Scm→ByteArray→Val→Val→Option (Val))(f:Msg×Bool)(a:List Slt):PT 0 (Val):=vz (fl a)<|lc (Ad [pp 4,pp 6,pp 7,pp 8,pp 9,(11,.ref (1,26) 0 0 a.length)] [(RU c),(JV d),(Gz e),JL,(JN f),kk 26 61 8 (Ab Aq a)]) ((aQ c d e b f a).m)
def aU(e:Scm)(a:Val)(c:Val)(b:Scm→ByteArray→Val→Val→Option (Val))(d:Msg×Bool):PT 0 (Val):=vz (fl a.slots)<|lc (Ad [pp 4,pp 6,pp 7,pp 8,pp 9,(31,.ref (1,26) 0 0 a.slots.length),(32,.fn (.func 20) [] [.ptr (1,9) 0 0,.ptr (1,7) 0 0])] [(RU e),(JV a),(Gz c),JL,(JN d),(R8 a)]) ((Pq a.slots (fun(z0:Slt)=>PC z0 d.1 c)).bind fun f=>(cm e a c b d f).m)
def eE(c:Scm)(f:ByteArray)(a:Val)(d:Val)(b:Scm→ByteArray→Val→Val→Option (Val)):PT 0 (Val):=wg<|cl (ZVC c f) fun e=>wg<|wg<|vz (An a.slots)<|msr a.slots.length [vI 0,vI 0,.d (.int .u64 0),vS ⟨#[]⟩,.e0,.e0,.e0,.e0]<|wg<|cpr a.slots.length a.slots.length [vI 0,vI 0,.d (.int .u64 0),vS ⟨#[]⟩,.e0,.e0,.e0,.e0] a.slots (by kernel_rfl)<|vz (fl a.slots)<|lc (Ad [pp 4,pp 6,pp 7,pp 8,pp 9,(11,.ref (1,26) 0 0 a.slots.length)] [(RU c),(JV a),(Gz d),JL,(JN e),(R8 a)]) ((aU c a d b e).m)
def UA(a:Scm→ByteArray→Val→Val→Option (Val))(b:Scm)(c:ByteArray)(d:Val)(e:Val):Option (Val):=(eE b c d e a).m
theorem ZE8{C:Cx}(co:CO C 0)(b:Scm)(c:Val)(d:Val)(a:Scm→ByteArray→Val→Val→Option (Val))(j:Msg×Bool)(h:∀(b:Scm) (n:ByteArray) (c:Val) (d:Val),KC Tryz.prog 10 [.agg ((Ar b).map .d),vS n,.agg ((Ag c).map .d),.agg ((Ag d).map .d)] (a b n c d) Kb):KL Tryz.prog (AC tl) 82 C (pa [0,0,1,0,1,1,1,1,1] (Az Tryz.f10)) [.cell 8 33] 0 (eF b c d j) (w7 c d) Kb nG (NW b c d a j):=fun(i,v4) _ hm Q m p o=>As co Aa Ae (Zw b c d a j i v4) (Ac [4,6,7,8,9,11,35,36,37] OS) (Ac [6,7,8,11] iS) p hm o fun r g=>⟨fun e=>fun k=>⟨fun y hy=>G8 (ZOH i e.num) hy co g [kk 26 61 8 (Ab Aq i)] [] (AG []) (fun l s t=>trivial) (fun H=>⟨fun _=>⟨rfl,AD (Aw _ _) (by kernel_rfl)⟩,by kernel_rfl,trivial⟩),fun u=>⟨fun f=>⟨fun y hy l _ _=>by rw[(iU a h b k.1 f.val e.val).x,(iU a h b k.1 f.val e.val).e];exact(iU a h b k.1 f.val e.val).k _ l y hy,fun v=>fun q=>id⟩,id⟩⟩,id⟩
theorem ZSr(c:Scm→ByteArray→Val→Val→Option (Val))(s:∀(f:Scm) (j:ByteArray) (a:Val) (b:Val),KC Tryz.prog 10 [.agg ((Ar f).map .d),vS j,.agg ((Ag a).map .d),.agg ((Ag b).map .d)] (c f j a b) Kb)(f:Scm)(j:ByteArray)(a:Val)(b:Val):KC Tryz.prog 10 [.agg ((Ar f).map .d),vS j,.agg ((Ag a).map .d),.agg ((Ag b).map .d)] (UA c f j a b) Kb:=AE Tryz.func10 Tryz.ntmps10 Aa [.cell 8 33] fun C co y hm n d=>Aj co Aa Ae 4 (eE f j a b c) (Ac [4,6,7,8,9,11] OS) nl nH hm d fun r g=>fun h=>fun _ hm d=>sq (rg (AM co Aa 2 (aU f a b c h) (Ac [4,6,7,8,9,31,32] OS) hm d fun r g=>fun _ hm d=>A6 co hm 19 [.ref (1,26) 0 0 a.slots.length,.fn (.func 20) [] [.ptr (1,9) 0 0,.ptr (1,7) 0 0]] [(1,26),(1,9),(1,7)] ([(R8 a)]++[(JN h),(Gz b)]) (fun z=>.ref (1,26) 0 0 z.length) (fun z=>[kk 26 61 8 (Ab Aq z)]) [] (fun z=>trivial) (trivial) (fun z i r g=>A5 (ZVH a.slots (fun(z0:Slt)=>PC z0 h.1 b)) i co g [(R8 a)] [(JN h),(Gz b)] [kk 26 61 8 (Ab Aq z)] (AG [(1,.fn (.func 20) [] [.ptr (r.κ (1,9)) (r.γ (1,9)+0) 0,.ptr (r.κ (1,7)) (r.γ (1,7)+0) 0])]) (fun q o t=>(fun z0 y i=>Lu (ZVB z0 h.1 b) i co g [(JN h),(Gz b)] [(R8 a)] o (by simp) (fun _=>.top) (fun _ _=>trivial) (fun l H=>⟨fun _=>⟨rfl,by kernel_rfl⟩,by kernel_rfl,⟨fun _=>⟨rfl,by kernel_rfl⟩,by kernel_rfl,trivial⟩⟩))) (fun H=>⟨fun _=>⟨rfl,AD (Aw _ _) (by kernel_rfl)⟩,by kernel_rfl,trivial⟩) (fun H=>⟨fun _=>⟨rfl,AD (Aw _ _) (by kernel_rfl)⟩,by kernel_rfl,trivial⟩)) fun p hm=>AI co Aa (cm f a b c h p) (Ac [4,6,7,8,9,11] OS) hm d fun r g=>fun _ hm d=>sq (Aj co Aa Ae 1 (aQ f a b c h p) (Ac [4,6,7,8,9,11,35,36,37] OS) nl nH hm d fun r g=>fun _ hm d=>bk 0 (lo (AF (ZE8 co f a b c h s) nH hm d (fun e hm=>sq (rg (AM co Aa 1 (fU a b e) (Ac [6,7,8,11,73] iS) hm d fun r g=>fun _ hm d=>A6 co hm 25 [.ref (1,26) 0 0 e.length,.fn (.func 26) [] []] [(1,26)] ([kk 26 61 8 (Ab Aq e)]++[]) (fun z=>.tup []) (fun z=>[kk 26 61 8 (Ab Aq z)]) [] (fun z=>trivial) (trivial) (fun z i r g=>A5 (ZVa e (fun(z0:Slt) (m:Slt)=>MR z0 m)) i co g [kk 26 61 8 (Ab Aq e)] [] [kk 26 61 8 (Ab Aq z)] (AG [(1,.fn (.func 26) [] [])]) (fun q o t=>(fun z0 m y i=>o1 (ZVK z0 m) i)) (fun H=>⟨fun _=>⟨rfl,AD (Aw _ _) (by kernel_rfl)⟩,by kernel_rfl,trivial⟩) (fun H=>⟨fun _=>⟨rfl,AD (Aw _ _) (by kernel_rfl)⟩,by kernel_rfl,trivial⟩)) fun k hm=>AI co Aa (dD a b e k) (Ac [6,7,8,11] iS) hm d fun r g=>fun _ hm d=>Ax co Aa Ae (fs a b k) hm d fun r g=>fun u=>id))))))))
def MO:Nat→Scm→ByteArray→Val→Val→Option (Val)
 |0=>fun _ _ _ _=>none
 |a+1=>UA (MO a)
theorem iv:∀(e:Nat) (a:Scm) (b:ByteArray) (c:Val) (d:Val),KC Tryz.prog 10 [.agg ((Ar a).map .d),vS b,.agg ((Ag c).map .d),.agg ((Ag d).map .d)] (MO e a b c d) Kb
 |0,a,b,c,d=>⟨fun _ _ _ h=>(by cases h),by intro r;kernel_rfl,by intro r y;kernel_rfl⟩
 |e+1,a,b,c,d=>ZSr (MO e) (iv e) a b c d
abbrev E8:Bool→AV:=fun y=>vB y
def yf:PT 0 (Bool):=wg<|wg<|wg<|wg<|vw .sep<|vw .sep<|wg<|vw .sep<|vw .sep<|wg<|vw .sep<|vw .sep<|wg<|wg<|vw .sep<|wg<|wg<|vw .sep<|wg<|wg<|wg<|wg<|cl ((iv Am (.mk ([(.mk (⟨#[97,46,77]⟩) ([(.mk 1 ⟨#[110]⟩ 3 0 (.mk 4 ⟨#[]⟩:Typ) ⟨#[]⟩ false (.mk 0 0 ⟨#[]⟩ ([]:List Val) ([]:List Pr) ([]:List Slt) ([]:List Raw):Val) ([]:List Nt):Fld),(.mk 2 ⟨#[108]⟩ 4 0 (.mk 7 ⟨#[]⟩:Typ) ⟨#[]⟩ false (.mk 0 0 ⟨#[]⟩ ([]:List Val) ([]:List Pr) ([]:List Slt) ([]:List Raw):Val) ([]:List Nt):Fld)]:List Fld) ([]:List Spn) ([]:List ByteArray) ([]:List Nt):Msg)]:List Msg) ([]:List Enm) ([]:List Svc):Scm) (⟨#[97,46,77]⟩) (.mk 10 0 ⟨#[]⟩ ([]:List Val) ([]:List Pr) ([(.mk 1 (.mk 4 1 ⟨#[]⟩ ([]:List Val) ([]:List Pr) ([]:List Slt) ([]:List Raw):Val):Slt),(.mk 2 (.mk 11 0 ⟨#[]⟩ ([(.mk 7 0 ⟨#[120]⟩ ([]:List Val) ([]:List Pr) ([]:List Slt) ([]:List Raw):Val)]:List Val) ([]:List Pr) ([]:List Slt) ([]:List Raw):Val):Slt)]:List Slt) ([]:List Raw):Val) (.mk 10 0 ⟨#[]⟩ ([]:List Val) ([]:List Pr) ([(.mk 2 (.mk 11 0 ⟨#[]⟩ ([(.mk 7 0 ⟨#[121]⟩ ([]:List Val) ([]:List Pr) ([]:List Slt) ([]:List Raw):Val)]:List Val) ([]:List Pr) ([]:List Slt) ([]:List Raw):Val):Slt)]:List Slt) ([]:List Raw):Val)).nrm (fun _ _ _ h=>.nrm h) (xs':=[.agg [.d (.list [AU (.mk (⟨#[97,46,77]⟩) ([(.mk 1 ⟨#[110]⟩ 3 0 (.mk 4 ⟨#[]⟩:Typ) ⟨#[]⟩ false (.mk 0 0 ⟨#[]⟩ ([]:List Val) ([]:List Pr) ([]:List Slt) ([]:List Raw):Val) ([]:List Nt):Fld),(.mk 2 ⟨#[108]⟩ 4 0 (.mk 7 ⟨#[]⟩:Typ) ⟨#[]⟩ false (.mk 0 0 ⟨#[]⟩ ([]:List Val) ([]:List Pr) ([]:List Slt) ([]:List Raw):Val) ([]:List Nt):Fld)]:List Fld) ([]:List Spn) ([]:List ByteArray) ([]:List Nt):Msg)]),.e0,.e0],vS (⟨#[97,46,77]⟩),.agg [vI 10,.d (.int .u64 0),vS ⟨#[]⟩,.e0,.e0,.d (.list [Dr (.mk 1 (.mk 4 1 ⟨#[]⟩ ([]:List Val) ([]:List Pr) ([]:List Slt) ([]:List Raw):Val):Slt),Dr (.mk 2 (.mk 11 0 ⟨#[]⟩ ([(.mk 7 0 ⟨#[120]⟩ ([]:List Val) ([]:List Pr) ([]:List Slt) ([]:List Raw):Val)]:List Val) ([]:List Pr) ([]:List Slt) ([]:List Raw):Val):Slt)]),.e0],.agg [vI 10,.d (.int .u64 0),vS ⟨#[]⟩,.e0,.e0,.d (.list [Dr (.mk 2 (.mk 11 0 ⟨#[]⟩ ([(.mk 7 0 ⟨#[121]⟩ ([]:List Val) ([]:List Pr) ([]:List Slt) ([]:List Raw):Val)]:List Val) ([]:List Pr) ([]:List Slt) ([]:List Raw):Val):Slt)]),.e0]]) (by intro r;kernel_rfl)) fun a=>wg<|wg<|vz (An a.slots)<|wg<|AZ (decide ((a.slots.length:Int)=(2:Int))) a.slots 0 fun b=>wg<|AZ (decide ((a.slots.length:Int)=(2:Int))&&decide (b.val.bits=(1:Int))) a.slots 1 fun c=>vy (decide ((a.slots.length:Int)=(2:Int))&&decide (b.val.bits=(1:Int))) (An c.val.list)<|wg<|AZ ((decide ((a.slots.length:Int)=(2:Int))&&decide (b.val.bits=(1:Int)))&&decide ((c.val.list.length:Int)=(2:Int))) a.slots 1 fun e=>AZ ((decide ((a.slots.length:Int)=(2:Int))&&decide (b.val.bits=(1:Int)))&&decide ((c.val.list.length:Int)=(2:Int))) e.val.list 0 fun d=>wg<|AZ (((decide ((a.slots.length:Int)=(2:Int))&&decide (b.val.bits=(1:Int)))&&decide ((c.val.list.length:Int)=(2:Int)))&&decide (d.text=(⟨#[120]⟩:ByteArray))) a.slots 1 fun f=>AZ (((decide ((a.slots.length:Int)=(2:Int))&&decide (b.val.bits=(1:Int)))&&decide ((c.val.list.length:Int)=(2:Int)))&&decide (d.text=(⟨#[120]⟩:ByteArray))) f.val.list 1 fun g=>lr E8 nG ((((decide ((a.slots.length:Int)=(2:Int))&&decide (b.val.bits=(1:Int)))&&decide ((c.val.list.length:Int)=(2:Int)))&&decide (d.text=(⟨#[120]⟩:ByteArray)))&&decide (g.text=(⟨#[121]⟩:ByteArray)))
def zf:Option (Bool):=(yf).m
theorem rl:KC Tryz.prog 8 [] (zf) E8:=AE Tryz.func8 Tryz.ntmps8 Aa [.tmp 0] fun C co y hm a b=>Ax co Aa Ae (yf) hm b fun r g=>fun j=>fun c=>fun d=>fun e=>fun f=>fun h=>fun i=>id
abbrev I6:List (Af×Bool):=[((1,12),true)]
abbrev H8(a:List Raw)(b:List Raw):Af×Blk:=kk 12 65 4 (Ab Av (a++b))
abbrev Sh:List Raw→AV:=fun y=>vL Av y
def wN(a:List Raw)(b:List Raw):List Raw×Nat→St:=fun(c,v2)=>Ad [(5,.ref (1,12) 0 0 (a++b).length),(6,vL Av c),(7,vN v2)] [(H8 a b)]
def wo:List Raw→Nat×St:=fun a=>(0,Ad [(6,vL Av a)] [])
def u4(a:List Raw)(b:List Raw)(c:List Raw)(v2:Nat):Int→St:=fun v3=>Ad [(5,.ref (1,12) 0 0 (a++b).length),(6,vL Av c),(7,vN v2),(8,vI v3)] [(H8 a b)]
def tZ(a:List Raw)(b:List Raw)(c:List Raw)(v2:Nat):Int→Nat×St:=fun d=>(2,Ad [(5,.ref (1,12) 0 0 (a++b).length),(6,vL Av c),(7,vN v2),(8,vI d)] [(H8 a b)])
def XI(a:List Raw)(b:List Raw)(c:List Raw)(v2:Nat)(v3:Int):PT 0 (Lv (Int) (Int) (List Raw)):=vg (decide ((0:Int)<v3)) (wi (v3-1))<|AZ (decide ((0:Int)<v3)) c (v3-1) fun d=>vg (decide ((0:Int)<v3)) (ir v2 (a++b).length 4)<|cpg (decide ((0:Int)<v3)) (a++b) v2 0 1 fun e=>br (decide ((0:Int)<v3)&&decide (e.num<d.num)) (vs (wi (v3-1))<|vz (fl (a++b))<|ln (u4 a b c v2) (v3-1)) (vz (fl (a++b))<|Ah (tZ a b c v2) v3)
def RD(a:List Raw)(b:List Raw)(c:List Raw)(v2:Nat):Int→Option (Lv (Int) (Int) (List Raw)):=fun v3=>(XI a b c v2 v3).m
def Zb(d:List Raw)(e:List Raw)(v2:Nat)(b:List Raw)(a:Raw)(c:List Raw):PT 0 (Lv (List Raw×Nat) (List Raw) (List Raw)):=vs (wa v2 1)<|vw (.frz 46 [(6,(((b++[a])++c).map Av))] [])<|vz (fz ((b++[a])++c))<|vz (fl (d++e))<|ln (wN d e) ((b++[a])++c,v2+1)
def XV(c:List Raw)(d:List Raw)(f:List Raw)(v2:Nat)(g:Int):PT 0 (Lv (List Raw×Nat) (List Raw) (List Raw)):=sL f .no (.it g) fun a=>a0 a<|vs (ir v2 (c++d).length 4)<|ca (c++d) v2 fun b=>vw .sep<|ap a (b:Raw)<|sL f (.it g) .no fun e=>aq (a++[b]) e<|vz (fl (c++d))<|vz (fl ((a++[b])++e))<|lc (Ad [(5,.ref (1,12) 0 0 (c++d).length),(6,.ref (1,46) 0 0 ((a++[b])++e).length),(7,vN v2)] [(H8 c d),kk 46 65 4 (Ab Av ((a++[b])++e))]) ((Zb c d v2 a b e).m)
def Tu(a:List Raw)(b:List Raw)(v1:List Raw)(v2:Nat):PT 0 (Lv (List Raw×Nat) (List Raw) (List Raw)):=vz (An v1)<|vz (fl (a++b))<|lc (Ad [(5,.ref (1,12) 0 0 (a++b).length),(6,vL Av v1),(7,vN v2),(8,vN v1.length)] [(H8 a b)]) ((Ak (RD a b v1 v2) Am (v1.length:Int)).bind (Sum.elim (fun c=>(XV a b v1 v2 c).m) (fun z=>some (.rt z))))
def X5(a:List Raw)(b:List Raw)(c:List Raw)(v2:Nat):PT 0 (Lv (List Raw×Nat) (List Raw) (List Raw)):=vz (Bz (a++b).length)<|br (decide ((v2:Int)<((a++b).length:Int))) (vz (fl (a++b))<|lc (Ad [(5,.ref (1,12) 0 0 (a++b).length),(6,vL Av c),(7,vN v2)] [(H8 a b)]) ((Tu a b c v2).m)) (Ah (wo) c)
def NR(a:List Raw)(b:List Raw):List Raw×Nat→Option (Lv (List Raw×Nat) (List Raw) (List Raw)):=fun(c,v2)=>(X5 a b c v2).m
def b9(a:List Raw):PT 0 (List Raw):=lr Sh nG a
def eC(a:List Raw)(b:List Raw):PT 0 (List Raw):=vw (.ads 6 6 65 4)<|vw (.frz 6 [(6,(([]:List Raw).map Av))] [])<|vz (fz ([]:List Raw))<|vz (fl (a++b))<|lc (Ad [(5,.ref (1,12) 0 0 (a++b).length),(6,vL Av ([]:List Raw)),(7,vI 0)] [(H8 a b)]) ((Ak (NR a b) Am (([]:List Raw),0)).bind (Sum.elim (fun c=>(b9 c).m) some))
def a8(a:List Raw)(b:List Raw):PT 0 (List Raw):=vz (fl (a++b))<|lc (Ad [(5,.ref (1,12) 0 0 (a++b).length),(6,.e0),(7,vI 0)] [(H8 a b)]) ((eC a b).m)
def bP(a:List Raw)(b:List Raw):PT 0 (List Raw):=a0 a<|aq a b<|vz (fl (a++b))<|lc (Ad [(5,.ref (1,12) 0 0 (a++b).length),(6,.e0)] [(H8 a b)]) ((a8 a b).m)
def jF(a:List Raw)(b:List Raw):Option (List Raw):=(bP a b).m
theorem ZEX{C:Cx}(co:CO C 0)(a:List Raw)(b:List Raw)(c:List Raw)(v2:Nat):KL Tryz.prog (AC tl) 61 C (pa [0,0,0,1,0,0,1,0,0,1,0,1,1,1,1] (Az Tryz.f29)) [.tmp 4] 0 (u4 a b c v2) (tZ a b c v2) Sh nG (RD a b c v2):=fun v3 _ hm Q d f e=>As co Aa Ae (XI a b c v2 v3) (Ac [5,6,7,8] I6) (Ac [5,6,7,8] I6) f hm e fun r g=>fun h=>fun i=>⟨id,id⟩
theorem ZEh{C:Cx}(co:CO C 0)(b:List Raw)(c:List Raw):KL Tryz.prog (AC tl) 61 C (pa [0,0,1,0,1,1,1,1] (Az Tryz.f29)) [.tmp 4] 0 (wN b c) (wo) Sh nG (NR b c):=fun(e,v2) _ hm Q f d a=>Aj co Aa Ae 1 (X5 b c e v2) (Ac [5,6,7] I6) (AK [6]) d hm a fun r g=>⟨fun _ hm a=>sq (bk 1 (Aj co Aa Ae 1 (Tu b c e v2) (Ac [5,6,7,8] I6) nl d hm a fun r g=>fun _ hm a=>sq (bk 2 (lo (Ek (ZEX co b c e v2) d hm a (fun k hm=>As co Aa Ae (XV b c e v2 k) (Ac [5,6,7] [((1,12),true),((1,46),true)]) nl d hm a fun r g=>fun i=>fun h=>fun j=>fun _ hm a=>As co Aa Ae (Zb b c v2 i h j) (Ac [5,6,7] I6) nl d hm a fun r g=>id)))))),id⟩
theorem ZWd(b:List Raw)(c:List Raw):KC Tryz.prog 29 [vL Av b,vL Av c] (jF b c) Sh:=AE Tryz.func29 Tryz.ntmps29 Aa [.tmp 4] fun C co y hm e a=>Aj co Aa Ae 4 (bP b c) (Ac [5,6] I6) nl nH hm a fun r g=>fun _ hm a=>sq (Aj co Aa Ae 1 (a8 b c) (Ac [5,6,7] I6) nl nH hm a fun r g=>fun _ hm a=>bk 0 (GI co (eC b c) (Ac [5,6,7] I6) hm a fun r g=>fun _ hm a=>lo (AF (ZEh co b c) nH hm a (fun d hm=>Ax co Aa Ae (b9 d) hm a fun r g=>id))))
abbrev Zn:Af×Blk:=kk 4 33 7 [vI 0,.d (.int .u64 0),vS ⟨#[]⟩,.e0,.e0,.e0,.e0]
abbrev dw(a:Val):Af×Blk:=kk 2 33 7 (cD (Ag a))
abbrev Si:Val×Bool→AV:=fun y=>.tup [.agg ((Ag y.1).map .d),vB y.2]
def wJ(a:Val)(b:Int):Nat→St:=fun c=>Ad [(1,vI b),pp 2,pp 4,(6,vN c)] [(dw a),Zn]
def vJ:Unit→Nat×St:=fun _=>(0,Ad [pp 4] [Zn])
def Tl(a:Val)(c:Int)(b:Nat):PT 0 (Lv (Nat) (Unit) (Val×Bool)):=wg<|vz (An a.slots)<|br (decide ((b:Int)<(a.slots.length:Int))) (wg<|ix a.slots b fun d=>br (decide (d.num=c)) (wg<|ix a.slots b fun e=>wg<|AA Si nG (e.val,true)) (vs (wa b 1)<|ln (wJ a c) (b+1))) (Ah (vJ) ())
def Ru(a:Val)(b:Int):Nat→Option (Lv (Nat) (Unit) (Val×Bool)):=fun c=>(Tl a b c).m
def bC:PT 0 (Val×Bool):=wg<|lr Si nG ((.mk 0 0 ⟨#[]⟩ [] [] [] []:Val),false)
def eU(a:Val)(b:Int):PT 0 (Val×Bool):=lc (Ad [(1,vI b),pp 2,pp 4,(6,vI 0)] [(dw a),Zn]) ((Ak (Ru a b) Am 0).bind (Sum.elim (fun _=>(bC).m) some))
def gc(a:Val)(b:Int):PT 0 (Val×Bool):=lc (Ad [(1,vI b),pp 2,pp 4] [(dw a),Zn]) ((eU a b).m)
def jH(a:Val)(b:Int):Option (Val×Bool):=(gc a b).m
theorem ZEg{C:Cx}(co:CO C 0)(a:Val)(b:Int):KL Tryz.prog (AC tl) 29 C (pa [0,0,1,0,1] (Az Tryz.f30)) [.cell 4 33,.tmp 5] 0 (wJ a b) (vJ) Si nG (Ru a b):=fun f _ hm Q c e d=>As co Aa Ae (Tl a b f) (Ac [1,2,4,6] Ga) (Ac [4] F8) e hm d fun r g=>⟨fun h=>⟨fun i=>id,id⟩,id⟩
theorem iL(b:Val)(c:Int):KC Tryz.prog 30 [.agg ((Ag b).map .d),vI c] (jH b c) Si:=AE Tryz.func30 Tryz.ntmps30 Aa [.cell 4 33,.tmp 5] fun C co y hm d a=>Aj co Aa Ae 1 (gc b c) (Ac [1,2,4] Ga) nl nH hm a fun r g=>fun _ hm a=>sq (Aj co Aa Ae 1 (eU b c) (Ac [1,2,4,6] Ga) nl nH hm a fun r g=>fun _ hm a=>bk 0 (lo (AF (ZEg co b c) nH hm a (fun _ hm=>Ax co Aa Ae (bC) hm a fun r g=>id))))
abbrev i4:List (Af×Bool):=[((1,3),false),((1,4),false),((1,5),false)]
abbrev ez(a:Msg):Af×Blk:=kk 3 45 5 (cD (AU a))
abbrev dO(a:Fld):Af×Blk:=kk 4 51 16 (cD (Ay a))
abbrev fN(a:Val):Af×Blk:=kk 5 33 7 (cD (Ag a))
abbrev Sj:Bool→AV:=fun y=>vB y
def xm(a:Msg)(b:Fld)(c:Val):Nat→St:=fun d=>Ad [pp 3,pp 4,pp 5,(7,vN d)] [(ez a),(dO b),(fN c)]
def uu:Unit→Nat×St:=fun _=>(0,Ad [] [])
def XJ(a:Msg)(b:Fld)(e:Val)(c:Nat):PT 0 (Lv (Nat) (Unit) (Bool)):=wg<|vz (An a.fields)<|br (decide ((c:Int)<(a.fields.length:Int))) (wg<|ix a.fields c fun d=>wg<|wg<|wg<|cl (iL e d.num) fun f=>wg<|wg<|wg<|wg<|wg<|wg<|br ((((!decide (b.union=(⟨#[]⟩:ByteArray)))&&decide (d.union=b.union))&&(!decide (d.num=b.num)))&&f.2) (AA Sj nG true) (vs (wa c 1)<|ln (xm a b e) (c+1))) (Ah (uu) ())
def Rr(a:Msg)(b:Fld)(c:Val):Nat→Option (Lv (Nat) (Unit) (Bool)):=fun d=>(XJ a b c d).m
def eZ:PT 0 (Bool):=lr Sj nG false
def eT(a:Msg)(b:Fld)(c:Val):PT 0 (Bool):=lc (Ad [pp 3,pp 4,pp 5,(7,vI 0)] [(ez a),(dO b),(fN c)]) ((Ak (Rr a b c) Am 0).bind (Sum.elim (fun _=>(eZ).m) some))
def cU(a:Msg)(b:Fld)(c:Val):PT 0 (Bool):=lc (Ad [pp 3,pp 4,pp 5] [(ez a),(dO b),(fN c)]) ((eT a b c).m)
def jx(a:Msg)(b:Fld)(c:Val):Option (Bool):=(cU a b c).m
theorem ZJA{C:Cx}(co:CO C 0)(a:Msg)(b:Fld)(c:Val):KL Tryz.prog (AC tl) 50 C (pa [0,0,1,0,1] (Az Tryz.f32)) [.tmp 6] 0 (xm a b c) (uu) Sj nG (Rr a b c):=fun h _ hm Q d f e=>As co Aa Ae (XJ a b c h) (Ac [3,4,5,7] i4) nl f hm e fun r g=>⟨fun i=>fun j=>⟨id,id⟩,id⟩
theorem ZVD(b:Msg)(c:Fld)(d:Val):KC Tryz.prog 32 [.agg ((AU b).map .d),.agg ((Ay c).map .d),.agg ((Ag d).map .d)] (jx b c d) Sj:=AE Tryz.func32 Tryz.ntmps32 Aa [.tmp 6] fun C co y hm e a=>Aj co Aa Ae 1 (cU b c d) (Ac [3,4,5] i4) nl nH hm a fun r g=>fun _ hm a=>sq (Aj co Aa Ae 1 (eT b c d) (Ac [3,4,5,7] i4) nl nH hm a fun r g=>fun _ hm a=>bk 0 (lo (AF (ZJA co b c d) nH hm a (fun _ hm=>Ax co Aa Ae (eZ) hm a fun r g=>id))))
abbrev Kc:Val→AV:=fun y=>.agg ((Ag y).map .d)
abbrev Oi:Val→AV:=fun y=>.agg ((Ag y).map .d)
def gH(e:Scm)(c:Fld)(a:Val)(b:Val)(d:Scm→ByteArray→Val→Val→Option (Val)):PT 0 (Val):=wg<|br (decide (c.card=(4:Int))) (wg<|a0 a.list<|wg<|aq a.list b.list<|wg<|vz (fr (a.list++b.list))<|lr Oi nG (.mk 11 0 ⟨#[]⟩ (a.list++b.list) [] [] []:Val)) (wg<|br (decide (c.card=(5:Int))) (wg<|a0 a.pairs<|wg<|aq a.pairs b.pairs<|vw (.frz 30 [(10,((a.pairs++b.pairs).map Ao)),(34,((a.pairs++b.pairs).map Ao))] [])<|vz (fz (a.pairs++b.pairs))<|vz (fz (a.pairs++b.pairs))<|vw .sep<|cl (yS (a.pairs++b.pairs)) fun f=>wg<|lr Oi nG (.mk 12 0 ⟨#[]⟩ [] f [] []:Val)) (wg<|br (decide (c.type.kind=(10:Int))) (wg<|wg<|wg<|wg<|cs Tryz.prog 11 [.agg ((Ar e).map .d),vS c.type.name,.agg ((Ag a).map .d),.agg ((Ag b).map .d)] [] [] (d e c.type.name a b) (fun y=>.agg ((Ag y).map .d)) fun g=>wg<|lr Oi nG g) (wg<|wg<|lr Oi nG b)))
def Jw(a:Scm→ByteArray→Val→Val→Option (Val))(b:Scm)(c:Fld)(d:Val)(e:Val):Option (Val):=(gH b c d e a).m
theorem Eh(e:Scm→ByteArray→Val→Val→Option (Val))(f:∀(a:Scm) (b:ByteArray) (c:Val) (d:Val),KC Tryz.prog 11 [.agg ((Ar a).map .d),vS b,.agg ((Ag c).map .d),.agg ((Ag d).map .d)] (e a b c d) Kc)(a:Scm)(b:Fld)(c:Val)(d:Val):KC Tryz.prog 31 [.agg ((Ar a).map .d),.agg ((Ay b).map .d),.agg ((Ag c).map .d),.agg ((Ag d).map .d)] (Jw e a b c d) Oi:=AE Tryz.func31 Tryz.ntmps31 Aa [.cell 8 33] fun C co y hm h j=>Ax co Aa Ae (gH a b c d e) hm j fun r g=>⟨id,⟨fun k=>id,⟨⟨fun y hy i _ _=>by rw[(f a b.type.name c d).x,(f a b.type.name c d).e];exact(f a b.type.name c d).k _ i y hy,fun l=>id⟩,id⟩⟩⟩
abbrev Mj:List (Af×Bool):=[((1,6),false),((1,7),false),((1,8),false),((1,9),false),((1,11),false),((1,1115),true)]
abbrev yx:List (Af×Bool):=[((1,4),false),((1,6),false),((1,7),false),((1,8),false),((1,9),false),((1,11),false)]
abbrev Ia:Af×Blk:=kk 8 33 7 [vI 0,.d (.int .u64 0),vS ⟨#[]⟩,.e0,.e0,.e0,.e0]
abbrev JO(a:Val):Af×Blk:=kk 6 33 7 (cD (Ag a))
abbrev JZ(a:Val):Af×Blk:=kk 7 33 7 (cD (Ag a))
abbrev JK(a:Msg×Bool):Af×Blk:=kk 9 45 5 (cD (AU a.1))
abbrev dc(a:List Slt)(b:List Raw):Af×Blk:=kk 11 33 7 [vI 10,.d (.int .u64 0),vS ⟨#[]⟩,.e0,.e0,.ref (1,1115) 0 0 a.length,vL Av b]
abbrev ua(a:Scm):Af×Blk:=kk 4 26 3 (cD (Ar a))
abbrev ww(a:List Raw):Af×Blk:=kk 11 33 7 [vI 10,.d (.int .u64 0),vS ⟨#[]⟩,.e0,.e0,.e0,vL Av a]
def ZTc:Pl:=(.opt [1,8] 1 (.fst 8 (.fst 9 (.fst 10 (.fst 11 (.fst 12 (.fst 13 .nil)))))) (.opt [1,8] 8 (.fst 9 (.fst 1 (.fst 10 (.fst 11 (.fst 12 (.fst 13 .nil)))))) .nil))
def ZTl:Pl:=(.opt [3,8] 3 (.fst 8 (.fst 9 (.fst 10 (.fst 11 (.fst 12 (.fst 13 .nil)))))) (.opt [3,8] 8 (.fst 3 (.fst 9 (.fst 10 (.fst 11 (.fst 12 (.fst 13 .nil)))))) .nil))
def ZR4:Pl:=(.opt [1,3,8] 1 ZTl (.opt [1,3,8] 3 ZTc (.opt [1,3,8] 8 (.fst 1 (.fst 3 (.fst 9 (.fst 10 (.fst 11 (.fst 12 (.fst 13 .nil))))))) .nil)))
def dy(b:Scm)(c:Val)(d:Val)(e:Msg×Bool)(f:List Raw):Nat×List Slt→St:=fun(v3,a)=>Ad [(4,.iptr (Ar b) 0),pp 6,pp 7,pp 8,pp 9,pp 11,(12,vN v3)] [(JO c),(JZ d),Ia,(JK e),(dc a f),kk 1115 61 8 (Ab Aq a)]
def v5(b:List Raw):List Slt→Nat×St:=fun a=>(0,Ad [pp 8,pp 11] [Ia,kk 11 33 7 [vI 10,.d (.int .u64 0),vS ⟨#[]⟩,.e0,.e0,.ref (1,1115) 0 0 a.length,vL Av b],kk 1115 61 8 (Ab Aq a)])
def XD(d:Scm)(e:Val)(f:Val)(g:Msg×Bool)(h:List Raw)(v3:Nat)(b:List Slt)(a:Fld)(c:Val):PT 0 (Lv (Nat×List Slt) (List Slt) (Val)):=vs (wa v3 1)<|vz (fl (b++([(.mk a.num c:Slt)])))<|ln (dy d e f g h) (v3+1,b++([(.mk a.num c:Slt)]))
def JY(d:Scm)(e:Val)(f:Val)(g:Msg×Bool)(h:List Raw)(v3:Nat)(b:List Slt)(a:Fld)(c:Val):PT 0 (Lv (Nat×List Slt) (List Slt) (Val)):=vz (fl (b++([(.mk a.num c:Slt)])))<|lc (Ad [(4,.iptr (Ar d) 0),pp 6,pp 7,pp 8,pp 9,pp 11,(12,vN v3)] [(JO e),(JZ f),Ia,(JK g),kk 11 33 7 [vI 10,.d (.int .u64 0),vS ⟨#[]⟩,.e0,.e0,.ref (1,1115) 0 0 (b++([(.mk a.num c:Slt)])).length,vL Av h],kk 1115 61 8 (Ab Aq (b++([(.mk a.num c:Slt)])))]) ((XD d e f g h v3 b a c).m)
def cP(b:Scm)(h:Val)(i:Val)(c:Scm→ByteArray→Val→Val→Option (Val))(j:Msg×Bool)(k:List Raw)(v3:Nat)(e:List Slt)(a:Fld)(f:Val×Bool)(g:Val×Bool):PT 0 (Lv (Nat×List Slt) (List Slt) (Val)):=tw (wg<|cs Tryz.prog 31 [.agg ((Ar b).map .d),.agg ((Ay a).map .d),.agg ((Ag f.1).map .d),.agg ((Ag g.1).map .d)] [] [] (Jw c b a f.1 g.1) (fun y=>.agg ((Ag y).map .d)) fun d=>vw .sep<|ap e ((.mk a.num d:Slt):Slt)<|wg<|(JY b h i j k v3 e a d)) (cs Tryz.prog 31 [.agg ((Ar b).map .d),.agg ((Ay a).map .d),.agg ((Ag f.1).map .d),.agg ((Ag g.1).map .d)] [] [] (Jw c b a f.1 g.1) (fun y=>.agg ((Ag y).map .d)) fun d=>wg<|vw .sep<|ap e ((.mk a.num d:Slt):Slt)<|wg<|(JY b h i j k v3 e a d))
def aX(b:Scm)(h:Val)(i:Val)(c:Scm→ByteArray→Val→Val→Option (Val))(j:Msg×Bool)(k:List Raw)(v3:Nat)(e:List Slt)(a:Fld)(f:Val×Bool)(g:Val×Bool):PT 0 (Lv (Nat×List Slt) (List Slt) (Val)):=tw (wg<|cs Tryz.prog 31 [.agg ((Ar b).map .d),.agg ((Ay a).map .d),.agg ((Ag f.1).map .d),.agg ((Ag g.1).map .d)] [] [] (Jw c b a f.1 g.1) (fun y=>.agg ((Ag y).map .d)) fun d=>vw .sep<|ap e ((.mk a.num d:Slt):Slt)<|wg<|(JY b h i j k v3 e a d)) (cs Tryz.prog 31 [.agg ((Ar b).map .d),.agg ((Ay a).map .d),.agg ((Ag f.1).map .d),.agg ((Ag g.1).map .d)] [] [] (Jw c b a f.1 g.1) (fun y=>.agg ((Ag y).map .d)) fun d=>wg<|vw .sep<|ap e ((.mk a.num d:Slt):Slt)<|wg<|(JY b h i j k v3 e a d))
def dW(c:Scm)(g:Val)(h:Val)(a:Scm→ByteArray→Val→Val→Option (Val))(i:Msg×Bool)(j:List Raw)(v3:Nat)(d:List Slt)(b:Fld)(e:Val×Bool)(f:Val×Bool):PT 0 (Lv (Nat×List Slt) (List Slt) (Val)):=tw (wg<|(cP c g h a i j v3 d b e f)) (tw (wg<|(aX c g h a i j v3 d b e f)) (cs Tryz.prog 31 [.agg ((Ar c).map .d),.agg ((Ay b).map .d),.agg ((Ag e.1).map .d),.agg ((Ag f.1).map .d)] [] [] (Jw a c b e.1 f.1) (fun y=>.agg ((Ag y).map .d)) fun k=>wg<|wg<|vw .sep<|ap d ((.mk b.num k:Slt):Slt)<|wg<|(JY c g h i j v3 d b k)))
def TV(c:Scm)(d:Val)(e:Val)(a:Scm→ByteArray→Val→Val→Option (Val))(g:Msg×Bool)(h:List Raw)(v3:Nat)(f:List Slt)(b:Fld)(i:Val×Bool)(j:Val×Bool):PT 0 (Lv (Nat×List Slt) (List Slt) (Val)):=wg<|wg<|wg<|(dW c d e a g h v3 f b i j)
def WL(b:Scm)(c:Val)(d:Val)(e:Msg×Bool)(f:List Raw)(v3:Nat)(a:List Slt):PT 0 (Lv (Nat×List Slt) (List Slt) (Val)):=vs (wa v3 1)<|vz (fl a)<|ln (dy b c d e f) (v3+1,a)
def Wg(b:Scm)(c:Val)(d:Val)(e:Msg×Bool)(f:List Raw)(v3:Nat):List Slt→St:=fun a=>Ad [(4,.iptr (Ar b) 0),pp 6,pp 7,pp 8,pp 9,pp 11,(12,vN v3)] [(JO c),(JZ d),Ia,(JK e),kk 11 33 7 [vI 10,.d (.int .u64 0),vS ⟨#[]⟩,.e0,.e0,.ref (1,1115) 0 0 a.length,vL Av f],kk 1115 61 8 (Ab Aq a)]
def M3(b:Scm)(c:Val)(d:Val)(e:Msg×Bool)(f:List Raw)(v3:Nat):List Slt→Option (Lv (Nat×List Slt) (List Slt) (Val)):=fun a=>(WL b c d e f v3 a).m
def Wx(e:Scm)(f:Val)(c:Val)(d:Msg×Bool)(g:List Raw)(v3:Nat)(a:List Slt)(b:Fld)(h:Val×Bool)(i:Val×Bool):PT 0 (Lv (Nat×List Slt) (List Slt) (Val)):=br i.2 (wg<|wg<|wg<|vw .sep<|ap a ((.mk b.num i.1:Slt):Slt)<|wg<|vz (fl (a++([(.mk b.num i.1:Slt)])))<|lc (Wg e f c d g v3 (a++([(.mk b.num i.1:Slt)]))) (M3 e f c d g v3 (a++([(.mk b.num i.1:Slt)])))) (wg<|wg<|wg<|AO h.2 (ZVD d.1 b c) fun j=>br (h.2&&(!j)) (wg<|wg<|wg<|vw .sep<|ap a ((.mk b.num h.1:Slt):Slt)<|wg<|vz (fl (a++([(.mk b.num h.1:Slt)])))<|lc (Wg e f c d g v3 (a++([(.mk b.num h.1:Slt)]))) (M3 e f c d g v3 (a++([(.mk b.num h.1:Slt)])))) (vz (fl a)<|lc (Wg e f c d g v3 a) (M3 e f c d g v3 a)))
def W7(i:Scm)(e:Val)(f:Val)(h:Scm→ByteArray→Val→Val→Option (Val))(g:Msg×Bool)(j:List Raw)(v3:Nat)(d:List Slt):PT 0 (Lv (Nat×List Slt) (List Slt) (Val)):=wg<|ix g.1.fields v3 fun c=>wg<|wg<|wg<|cl (iL e c.num) fun a=>wg<|wg<|wg<|cl (iL f c.num) fun b=>wg<|vz (fl d)<|lc (Ad [(4,.iptr (Ar i) 0),pp 6,pp 7,pp 8,pp 9,pp 11,(12,vN v3),pp 13,pp 14,(15,vB a.2),pp 16,(17,vB b.2),(59,vB (a.2&&b.2))] [(JO e),(JZ f),Ia,(JK g),(dc d j),kk 13 51 16 (cD (Ay c)),kk 14 33 7 (cD (Ag a.1)),kk 16 33 7 (cD (Ag b.1)),kk 1115 61 8 (Ab Aq d)]) (if(a.2&&b.2)=true then(TV i e f h g j v3 d c a b).m else(Wx i e f g j v3 d c a b).m)
def W4(e:Scm)(f:Val)(g:Val)(c:Scm→ByteArray→Val→Val→Option (Val))(b:Msg×Bool)(d:List Raw)(v3:Nat)(a:List Slt):PT 0 (Lv (Nat×List Slt) (List Slt) (Val)):=wg<|vz (An b.1.fields)<|br (decide ((v3:Int)<(b.1.fields.length:Int))) (vz (fl a)<|lc (Ad [(4,.iptr (Ar e) 0),pp 6,pp 7,pp 8,pp 9,pp 11,(12,vN v3)] [(JO f),(JZ g),Ia,(JK b),(dc a d),kk 1115 61 8 (Ab Aq a)]) ((W7 e f g c b d v3 a).m)) (vz (fl a)<|Ah (v5 d) a)
def NX(b:Scm)(c:Val)(d:Val)(a:Scm→ByteArray→Val→Val→Option (Val))(f:Msg×Bool)(g:List Raw):Nat×List Slt→Option (Lv (Nat×List Slt) (List Slt) (Val)):=fun(v3,e)=>(W4 b c d a f g v3 e).m
def o4(b:List Raw)(a:List Slt):PT 0 (Val):=wg<|wg<|vz (fr a)<|lr Kc nG (.mk 10 0 ⟨#[]⟩ [] [] a b:Val)
def mN(d:Scm)(e:Val)(f:Val)(a:Scm→ByteArray→Val→Val→Option (Val))(g:Msg×Bool)(c:List Raw):PT 0 (Val):=vw (.adc (1,11) 5 1115 61 8)<|vw (.fzb 4 [4])<|vz (fl ([]:List Slt))<|lc (Ad [(4,.iptr (Ar d) 0),pp 6,pp 7,pp 8,pp 9,pp 11,(12,vI 0)] [(JO e),(JZ f),Ia,(JK g),kk 11 33 7 [vI 10,.d (.int .u64 0),vS ⟨#[]⟩,.e0,.e0,.ref (1,1115) 0 0 ([]:List Slt).length,vL Av c],kk 1115 61 8 (Ab Aq ([]:List Slt))]) ((Ak (NX d e f a g c) Am (0,([]:List Slt))).bind (Sum.elim (fun b=>(o4 c b).m) some))
def pH(b:Scm)(c:Val)(d:Val)(a:Scm→ByteArray→Val→Val→Option (Val))(e:Msg×Bool)(f:List Raw):PT 0 (Val):=lc (Ad [pp 4,pp 6,pp 7,pp 8,pp 9,pp 11,(12,vI 0)] [(ua b),(JO c),(JZ d),Ia,(JK e),(ww f)]) ((mN b c d a e f).m)
def mV(b:Scm)(g:ByteArray)(c:Val)(d:Val)(a:Scm→ByteArray→Val→Val→Option (Val)):PT 0 (Val):=wg<|cl (Ug b g) fun e=>wg<|wg<|wg<|cl (ZWd c.raws d.raws) fun f=>wg<|lc (Ad [pp 4,pp 6,pp 7,pp 8,pp 9,pp 11] [(ua b),(JO c),(JZ d),Ia,(JK e),(ww f)]) ((pH b c d a e f).m)
def U2(a:Scm→ByteArray→Val→Val→Option (Val))(b:Scm)(c:ByteArray)(d:Val)(e:Val):Option (Val):=(mV b c d e a).m
theorem ZIS{C:Cx}(co:CO C 0)(b:Scm)(i:Val)(j:Val)(a:Scm→ByteArray→Val→Val→Option (Val))(m:Msg×Bool)(l:List Raw)(f:∀(b:Scm) (A:ByteArray) (i:Val) (j:Val),KC Tryz.prog 11 [.agg ((Ar b).map .d),vS A,.agg ((Ag i).map .d),.agg ((Ag j).map .d)] (a b A i j) Kc):KL Tryz.prog (AC tl) 101 C (pa [0,0,1,0,1,1,1] (Az Tryz.f11)) [.cell 8 33] 0 (dy b i j m l) (v5 l) Kc nG (NX b i j a m l):=fun(v3,p) _ hm Q z t n=>Aj co Aa Ae 1 (W4 b i j a m l v3 p) (Ac [4,6,7,8,9,11,12] Mj) (Ac [8,11] [((1,8),false),((1,11),false),((1,1115),true)]) t hm n fun r g=>⟨fun _ hm n=>sq (bk 1 (Aj co Aa Ae 4 (W7 b i j a m l v3 p) (Ac [4,6,7,8,9,11,12,13,14,15,16,17,59] [((1,6),false),((1,7),false),((1,8),false),((1,9),false),((1,11),false),((1,13),false),((1,14),false),((1,16),false),((1,1115),true)]) nl t hm n fun r g=>fun c=>fun d=>fun e=>fun _ hm n=>cd (d.2&&e.2) hm (fun hm=>GO co Aa Ae (.fst 0 (.fst 2 (.fst 4 (.fst 5 (.fst 6 (.fst 7 ZR4)))))) [4] (TV b i j a m l v3 p c d e) (Ac [4,6,7,8,9,11,12] Mj) hm n fun r g=>J8 (fun(s:∀(k:Val),PT.n (JY b i j m l v3 p c k) _)=>J8 (fun u=>J8 (fun v=>J8 (fun w=>w) (⟨u,⟨v,⟨fun y hy o _ _=>by rw[(Eh a f b c d.1 e.1).x,(Eh a f b c d.1 e.1).e];exact(Eh a f b c d.1 e.1).k _ o y hy,fun k=>(s k)⟩,fun _ h=>h⟩,fun _ h=>h⟩)) (⟨⟨fun y hy o _ _=>by rw[(Eh a f b c d.1 e.1).x,(Eh a f b c d.1 e.1).e];exact(Eh a f b c d.1 e.1).k _ o y hy,fun k=>(s k)⟩,⟨fun y hy o _ _=>by rw[(Eh a f b c d.1 e.1).x,(Eh a f b c d.1 e.1).e];exact(Eh a f b c d.1 e.1).k _ o y hy,fun k=>(s k)⟩,fun _ h=>h⟩)) (⟨⟨fun y hy o _ _=>by rw[(Eh a f b c d.1 e.1).x,(Eh a f b c d.1 e.1).e];exact(Eh a f b c d.1 e.1).k _ o y hy,fun k=>(s k)⟩,⟨fun y hy o _ _=>by rw[(Eh a f b c d.1 e.1).x,(Eh a f b c d.1 e.1).e];exact(Eh a f b c d.1 e.1).k _ o y hy,fun k=>(s k)⟩,fun _ h=>h⟩)) (fun k=>fun _ hm n=>As co Aa Ae (XD b i j m l v3 p c k) (Ac [4,6,7,8,9,11,12] Mj) nl t hm n fun r g=>id)) (fun hm=>ZR7 co Aa Ae (Wx b i j m l v3 p c d e) (Ac [4,6,7,8,9,11,12] Mj) nl t hm n (.normal) (Wg b i j m l v3) (M3 b i j m l v3) (fun x _ hm n=>As co Aa Ae (WL b i j m l v3 x) (Ac [4,6,7,8,9,11,12] Mj) nl t hm n fun r g=>id) fun q r g=>⟨q (p++([(.mk c.num e.1:Slt)])),fun B=>⟨q (p++([(.mk c.num d.1:Slt)])),q p⟩⟩))),id⟩
theorem ZRV(a:Scm→ByteArray→Val→Val→Option (Val))(l:∀(b:Scm) (f:ByteArray) (c:Val) (d:Val),KC Tryz.prog 11 [.agg ((Ar b).map .d),vS f,.agg ((Ag c).map .d),.agg ((Ag d).map .d)] (a b f c d) Kc)(b:Scm)(f:ByteArray)(c:Val)(d:Val):KC Tryz.prog 11 [.agg ((Ar b).map .d),vS f,.agg ((Ag c).map .d),.agg ((Ag d).map .d)] (U2 a b f c d) Kc:=AE Tryz.func11 Tryz.ntmps11 Aa [.cell 8 33] fun C co y hm k e=>Aj co Aa Ae 3 (mV b f c d a) (Ac [4,6,7,8,9,11] yx) nl nH hm e fun r g=>fun j=>fun h=>fun _ hm e=>sq (Aj co Aa Ae 1 (pH b c d a j h) (Ac [4,6,7,8,9,11,12] yx) nl nH hm e fun r g=>fun _ hm e=>bk 0 (GI co (mN b c d a j h) (Ac [4,6,7,8,9,11,12] Mj) hm e fun r g=>fun _ hm e=>lo (AF (ZIS co b c d a j h l) nH hm e (fun i hm=>Ax co Aa Ae (o4 h i) hm e fun r g=>id))))
def MF:Nat→Scm→ByteArray→Val→Val→Option (Val)
 |0=>fun _ _ _ _=>none
 |a+1=>U2 (MF a)
theorem yD:∀(e:Nat) (a:Scm) (b:ByteArray) (c:Val) (d:Val),KC Tryz.prog 11 [.agg ((Ar a).map .d),vS b,.agg ((Ag c).map .d),.agg ((Ag d).map .d)] (MF e a b c d) Kc
 |0,a,b,c,d=>⟨fun _ _ _ h=>(by cases h),by intro r;kernel_rfl,by intro r y;kernel_rfl⟩
 |e+1,a,b,c,d=>ZRV (MF e) (yD e) a b c d
abbrev E3:Bool→AV:=fun y=>vB y
def gX(a:Scm)(b:ByteArray)(c:Val)(d:Val):PT 0 (Bool):=wg<|cl (K_6 a) fun e=>wg<|wg<|AO (!(!e)) (rj a b c) fun f=>wg<|wg<|AO (!((!e)||(!f))) (rj a b d) fun h=>br (((!e)||(!f))||(!h)) (cl (rl) fun i=>lr E3 nG i) (wg<|wg<|wg<|cl (iv Am a b c d) fun j=>wg<|wg<|wg<|cl (yD Am a b c d) fun k=>cl (Z2 Am j k) fun g=>AO g (rl) fun l=>lr E3 nG (g&&l))
def jp(a:Scm)(b:ByteArray)(c:Val)(d:Val):Option (Bool):=(gX a b c d).m
theorem K_3(a:Scm)(b:ByteArray)(c:Val)(d:Val):KC Tryz.prog 3 [.agg ((Ar a).map .d),vS b,.agg ((Ag c).map .d),.agg ((Ag d).map .d)] (jp a b c d) E3:=AE Tryz.func3 Tryz.ntmps3 Aa [.tmp 8] fun C co y hm e f=>Ax co Aa Ae (gX a b c d) hm f fun r g=>fun h=>fun i=>fun j=>⟨fun k=>id,fun l=>fun m=>fun n=>fun o=>id⟩
end Go.Proofs.YtjbijbkdiijhaaaGreat
namespace Go.Proofs.YtjbijbkdiijhaaaGreat
set_option linter.all false
open Go Go.Eng
end Go.Proofs.YtjbijbkdiijhaaaGreat
namespace Go.Proofs.YtjbijbkdiijhaaaGreat
set_option linter.all false
open Go Go.Eng Go.ChangeShapes Go.WideShapes Go.ChangeAt Go.RowKit
theorem ZoJ{H:Type}(b:List UInt8):Rows.uptoBulk (DataW.lit (H:=H) (.string b))=b.length+1:=by simp only[Rows.uptoBulk]
theorem ZqZ{H:Type}(a b:List (DataW H)):Rows.uptoBulk (.slice a b)=Rows.uptoBulkAll a+Rows.uptoBulkAll b+1:=by simp only[Rows.uptoBulk]
theorem ZBO{H:Type}(a:List (DataW H)):Rows.uptoBulk (.agg a)=Rows.uptoBulkAll a+1:=by simp only[Rows.uptoBulk]
def JP(W:World)(ds:List D)(cs:List Value)(o:Nat):Prop:=∀(i:Nat) (d:D),ds[i]?=some d→∃c,cs[o+i]?=some c∧RepD W (· <W.heap.size) d c
def LI(W:World)(ds:List D)(cs:List Value):Prop:=ds.length=cs.length∧JP W ds cs 0
theorem JP.app{W:World}{ds a:List D}{cs:List Value}{o:Nat}(h:JP W ds cs o)(k:JP W a cs (o+ds.length)):JP W (ds++a) cs o:=fun i d hi=>by
 rcases YF i ds.length with hl|hl
 ·rw[Yr hl]at hi;exact h i d hi
 ·rw[YB hl]at hi
  obtain⟨c,b,e⟩:=k _ d hi
  grind
theorem JP.nil{W:World}{cs:List Value}{o:Nat}:JP W [] cs o:=fun i d h=>by simp at h
theorem LI.at{W:World}{ds:List D}{cs:List Value}{o k:Nat}(h:LI W ds ((cs.drop o).take k)):JP W ds cs o:=fun i d hi=>by
 obtain⟨c,a,b⟩:=h.2 i d hi
 grind
def rk(k:IntKind)(n:Int):Nat:=if Lit.wf (.int k n)=true then 0 else 1000000000000
theorem wA{k:IntKind}{n:Int}(h:rk k n≤1048576):k.min≤n∧n≤k.max:=by
 unfold rk at h
 split at h
 ·rename_i a
  unfold Lit.wf at a
  rw[Yb]at a
  exact⟨Y0 a.1,Y0 a.2⟩
 ·omega
mutual
def bk:D→Nat
 |.int k n=>rk k n
 |.bool _=>0
 |.str s=>s.size
 |.list a=>AS a
 |.map _ a=>AS a
def At:List D→Nat
 |[]=>0
 |d::l=>bk d+At l
def AS:List (List D)→Nat
 |[]=>0
 |e::l=>At e+1+AS l
end
theorem M6:∀a b:List D,At (a++b)=At a+At b
 |[],b=>by rw[Gi,At,YN]
 |d::a,b=>by rw[HG,At,At,M6 a b,YI]
theorem lz(d:D):At [d]=bk d:=by rw[At,At,G3]
theorem Cz{α:Type}{e:α→List D}:∀l:List α,l.length≤AS (l.map e)
 |[]=>Cs _
 |x::l=>by have:=Cz (e:=e) l;rw[YV,AS,EX];omega
theorem C1{α:Type}{e:α→List D}{x:α}:∀{l:List α},x∈l→At (e x)+1≤AS (l.map e)
 |y::l,h=>by
  rw[YV,AS]
  cases Yw.1 h with
  |inl h=>subst h;omega
  |inr h=>have:=C1 (e:=e) h;omega
section
variable {H:Type} (enc:TypeId×Value→H) (P:Program) (W:World)
def Ch{α:Type}(n:Nat)(t:TypeId)(e:α→List D):Prop:=
 ∀cs x,DataW.trod enc P W 0 (fun _=>true) true n t cs=some x→∃v:α,LI W (e v) cs∧At (e v)+1≤Rows.uptoBulk x.1
end
section
variable {H:Type} {enc:TypeId×Value→H} {P:Program} {W:World} {n:Nat} {t:TypeId}
theorem lx(d:DataW H):1≤Rows.uptoBulk d:=by cases d<;>(try (rename_i l;cases l))<;>simp[Rows.uptoBulk]
theorem PP{d:D}{c:Value}(h:RepD W (· <W.heap.size) d c):LI W [d] [c]:=⟨rfl,fun i d' hi=>by
 cases i with
 |zero=>cases hi;exact⟨c,rfl,h⟩
 |succ i=>simp at hi⟩
theorem ED{k:IntKind}(a:P.underlying t=some (.int k)):Ch enc P W n t (fun v:Int=>[.int k v]):=fun cs x hx=>by
 obtain⟨m,rfl,rfl,b⟩:=DataW.trod_int a hx
 refine⟨m,PP (.int _ _),?_⟩
 rw[lz,bk,rk,Yj b]
 exact lx _
theorem ZwD(a:P.underlying t=some .bool):Ch enc P W n t (fun v:Bool=>[.bool v]):=fun cs x hx=>by
 obtain⟨m,rfl,rfl⟩:=DataW.trod_bool a hx
 exact⟨m,PP (.bool _),lx _⟩
theorem EE(a:P.underlying t=some .string):Ch enc P W n t (fun v:ByteArray=>[.str v]):=fun cs x hx=>by
 obtain⟨m,rfl,rfl,_⟩:=DataW.trod_string a hx
 refine⟨m,PP (.str _),?_⟩
 rw[ZoJ,lz]
 exact Yf _
theorem sr{α:Type}{e:α→List D}:∀(l:List α) (xs:List (DataW H×List MemPlace)),l.length=xs.length→(∀(i:Nat) (v:α),l[i]?=some v→∃y:DataW H×List MemPlace,xs[i]?=some y∧At (e v)+1≤Rows.uptoBulk y.1)→AS (l.map e)≤Rows.uptoBulkAll (xs.map (·.1))
 |[],_,_,_=>Cs _
 |x::l,[],h,_=>by cases h
 |x::l,y::xs,h,k=>by
  have:=sr l xs (aM h) (fun i v hi=>k (i+1) v hi)
  obtain⟨c,a,b⟩:=k 0 x rfl
  cases a
  rw[YV,YV,AS]
  simp only[Rows.uptoBulkAll]
  omega
theorem Zut{α:Type}{Q:Nat→α→Prop}:∀(len:Nat),(∀i,i<len→∃v,Q i v)→∃l:List α,l.length=len∧∀i v,l[i]?=some v→Q i v
 |0,_=>⟨[],rfl,fun i v h=>by simp at h⟩
 |len+1,h=>by
  obtain⟨l,a,b⟩:=Zut len (fun i hi=>h i (by omega))
  obtain⟨v,c⟩:=h len (by omega)
  refine⟨l++[v],by simp[a],fun i w hi=>?_⟩
  grind
theorem De{α:Type}{e:TypeId}{b:α→List D}{sz:Nat}(X:P.underlying t=some (.slice e))(E:P.cellsOf e=sz)(V:sz≠0)(hl:∀x,(b x).length=sz)(h:∀m,m<n→Ch enc P W m e b):
  Ch enc P W n t (fun l:List α=>[.list (l.map b)]):=fun cs x hx=>by
 rcases DataW.trod_slice X hx with⟨rfl,rfl⟩|⟨a,len,cap,g,J,m,rfl,rfl,rfl,Z,z,T,U,hi,_,_⟩
 ·exact⟨[],PP .nil,lx _⟩
 ·have k:∀i,i<len→∃v:α,∃y f,g[i]?=some y∧W.cells? 0 (a.add (i*sz)) sz=some f∧LI W (b v) f∧At (b v)+1≤Rows.uptoBulk y.1:=fun i B=>by
   have I:=hi i B
   rw[Ye (by omega),E]at I
   obtain⟨f,N,O⟩:=rA.1 I
   obtain⟨v,Q,R⟩:=h m (by omega) f _ O
   exact⟨v,_,f,Ye (by omega),N,Q,R⟩
  obtain⟨l,A,r⟩:=Zut len k
  have cell:∀(i j:Nat) (e':List D) (x:D),(l.map b)[i]?=some e'→e'[j]?=some x→∃c,W.cell? (a.add (i*sz+j))=some c∧RepD W (· <W.heap.size) x c:=fun i j e' x d o=>by
   rw[YR]at d
   cases s:l[i]? with
   |none=>rw[s]at d;cases d
   |some v=>
    rw[s]at d
    cases d
    obtain⟨y,f,p,q,F,G⟩:=r i v s
    obtain⟨c,H,K⟩:=F.2 j x o
    rw[YN]at H
    obtain⟨_,Y,L⟩:=World.cells?_some q
    have u:j<sz:=by
     rw[←hl v]
     rcases YF j (b v).length with h|h
     ·exact h
     ·rw[YK h]at o;cases o
    refine⟨c,?_,K⟩
    rw[←Go.Eng.add_add,L j u,H]
  refine⟨l,PP ?_,?_⟩
  ·have hlen:(l.map b).length=len:=by simp[A]
   have:=RepD.list (w:=W) (S:=(· <W.heap.size)) (l.map b) a sz cap (fun i j=>(W.cell? (a.add (i*sz+j))).getD undef) (fun C=>by
     have M:0<len:=by
      rcases ak len with h|h
      ·exact absurd (I0 (hlen.trans h)) C
      ·exact h
     obtain⟨v,y,f,_,q,_⟩:=k 0 M
     have:=World.cells?_block q (by omega)
     rw[Ko]at this
     rw[←Go.Eng.block_add a 0];exact this)
    (by rw[hlen];exact z) (fun e' he=>by obtain⟨y,_,rfl⟩:=YW.1 he;exact hl y)
    (fun i j e' x d o=>by obtain⟨c,p,_⟩:=cell i j e' x d o;rw[p];rfl)
    (fun i j e' x d o=>by obtain⟨c,p,q⟩:=cell i j e' x d o;rw[p];exact q)
   rw[hlen]at this
   exact this
  ·rw[ZqZ,lz,bk]
   have:=sr (e:=b) l g (by omega) (fun i v s=>by
    obtain⟨y,f,p,q,F,G⟩:=r i v s
    exact⟨y,p,G⟩)
   omega
def FB(xs:List (DataW H×List MemPlace))(i:Nat):Nat:=Rows.uptoBulkAll ((xs.drop i).map (·.1))
theorem Bw{xs:List (DataW H×List MemPlace)}{i:Nat}{a b:List D}(h:At a+1+FB xs (i+1)≤FB xs i)(k:At b≤FB xs (i+1)):At (a++b)≤FB xs i:=by
 rw[M6];omega
theorem EC{xs:List (DataW H×List MemPlace)}{i:Nat}{a:List D}(h:At a+1+FB xs (i+1)≤FB xs i):At a≤FB xs i:=by omega
theorem EF{xs:List (DataW H×List MemPlace)}{a:List D}(h:At a≤FB xs 0):At a+1≤Rows.uptoBulk (.agg (xs.map (·.1))):=by
 rw[ZBO];exact Nat.succ_le_succ h
theorem ZBg{α:Type}{e:α→List D}{m i:Nat}{c:TypeId}{a:List Value}{xs:List (DataW H×List MemPlace)}(h:Ch enc P W m c e)(b:DataW.trod enc P W 0 (fun _=>true) true m c a=xs[i]?)(hi:i<xs.length):
  ∃v,LI W (e v) a∧At (e v)+1+FB xs (i+1)≤FB xs i:=by
 rw[Ye hi]at b
 obtain⟨v,d,f⟩:=h _ _ b
 refine⟨v,d,?_⟩
 unfold FB
 rw[HH hi,YV]
 simp only[Rows.uptoBulkAll]
 omega
theorem rf{α:Type}{e:α→List D}{m i k:Nat}{b:TypeId}{a:List Value}{xs:List (DataW H×List MemPlace)}(h:Ch enc P W m b e)(c:DataW.trod enc P W 0 (fun _=>true) true m b a=xs[i]?)(hx:xs.length=k)(hi:Nat.blt i k=true:=by kernel_rfl):
  ∃v,LI W (e v) a∧At (e v)+1+FB xs (i+1)≤FB xs i:=ZBg h c (by rw[hx];exact Yh hi)
theorem qa{α:Type}{e e':α→List D}(he:∀x,e x=e' x)(h:Ch enc P W n t e'):Ch enc P W n t e:=fun cs x hx=>by
 obtain⟨v,a,b⟩:=h cs x hx
 grind
theorem lG{α:Type}{e:α→List D}{q:Array Field}{r:Reach}{b:Nat}{v:Value}{d:DataW H}{p:List MemPlace}(rd:∀n,Ch enc P W n t e)(w:P.underlying t=some (.struct q))(z:Value.okWide P W r b t v)
  (h:DataW.Trod enc P W 0 (fun _=>true) true t v d p):∃x:α,(∀m l,RepA W (· <W.heap.size) (fun _=>⟨0,false,0,0,[]⟩) m l (.agg ((e x).map .d)) v)∧At (e x)+1≤Rows.uptoBulk d:=by
 obtain⟨cs,rfl,_⟩:=okWide_struct w z
 obtain⟨n,u⟩:=h
 obtain⟨x,k,s⟩:=rd n _ _ u
 have hl:(e x).length=cs.size:=by rw[k.1];simp[Value.cells]
 have key:∀(i:Nat) (c:Value),cs[i]?=some c→∃d,(e x)[i]?=some d∧RepD W (· <W.heap.size) d c:=fun i c f=>by
  have g:i<(e x).length:=by
   grind
  obtain⟨j,a,o⟩:=k.2 i _ (Ye g)
  have:j=c:=by
   rw[YN]at a
   have:cs.toList[i]?=some j:=a
   grind
  grind
 refine⟨x,fun m l=>.agg _ _ (by rw[YG,hl]) (fun i c f=>?_) (fun i y c hy f=>?_),s⟩
 ·obtain⟨d,_,a⟩:=key i c f;exact a.one
 ·obtain⟨d,a,o⟩:=key i c f
  rw[YR,a]at hy
  cases hy
  exact .d _ _ o
theorem ZIA{r:Reach}{a:Nat}{v:Value}{d:DataW H}{p:List MemPlace}(e:P.underlying t=some .string)(g:Value.okWide P W r a t v)(h:DataW.Trod enc P W 0 (fun _=>true) true t v d p):
  ∃x:ByteArray,(∀S Hp m l,RepA W S Hp m l (.d (.str x)) v)∧x.size+1≤Rows.uptoBulk d:=by
 obtain⟨x,rfl⟩:=okWide_string e g
 obtain⟨n,f⟩:=h
 obtain⟨s,b,c,_⟩:=DataW.trod_string e f
 have b:x=s:=by simpa[Value.cells]using b
 subst b
 have c:d=.lit (.string x.data.toList):=congrArg Prod.fst c
 subst c
 refine⟨x,fun _ _ _ _=>.d _ _ (.str _),?_⟩
 rw[ZoJ]
 exact Yf _
def ri:Hp:=fun _=>⟨0,false,0,0,[]⟩
theorem ok0(m:Mu):Ok 0 ri m (· <W.heap.size) W:=⟨fun _ h=>h,fun _ _ h=>(by cases h),fun _ _ h=>(by cases h),fun _ _ _ _ h=>(by cases h),fun _ _ h=>(by cases h),⟨fun _ _ h=>(by cases h),fun _ _ h=>(by cases h),fun _ _ _ _ h=>(by cases h)⟩⟩
def y2(w:World)(S:Nat→Prop)(Hp:Hp)(m:Mu)(l:Nat):List AV→List Value→Prop
 |[],[]=>True
 |x::xs,v::vs=>RepA w S Hp m l x v∧y2 w S Hp m l xs vs
 |_,_=>False
theorem ZEM{w:World}{S:Nat→Prop}{Hp:Hp}{m:Mu}{l:Nat}{xs:List AV}{vs:List Value}(h:y2 w S Hp m l xs vs):K8 w S Hp m l xs vs.toArray:=by
 suffices b:xs.length=vs.length∧∀(i:Nat) (x:AV) (v:Value),xs[i]?=some x→vs[i]?=some v→RepA w S Hp m l x v by
  exact⟨by simpa using b.1,fun i x v hx e=>b.2 i x v hx (by simpa using e)⟩
 induction xs generalizing vs with
 |nil=>cases vs with
  |nil=>exact⟨rfl,fun i x v h=>by simp at h⟩
  |cons _ _=>exact h.elim
 |cons x xs f=>cases vs with
  |nil=>exact h.elim
  |cons v vs=>
   obtain⟨c,d⟩:=f h.2
   refine⟨by simp[c],fun i y u hy a=>?_⟩
   cases i with
   |zero=>simp at hy a;subst hy;subst a;exact h.1
   |succ i=>exact d i y u (by simpa using hy) (by simpa using a)
theorem ZtB{f:Func}{s:ChangeSpec}{r:World}{args:Array Value}{ds A:List (DataW H)}{e:List MemPlace}{u:TypeId}(C:DataW.Whole enc P f.params.toList s.vars false W args.toList ds A e)(c:s.vars=[])
  (k:laidOutB P=true) (z:∀t∈f.params.toList,P.readableRec t=true∧t<P.types.size) (g:f.resultTypes.toList=[u]) (L:P.underlying u=some .bool)
  (j:s.fn H (ds++A)={results:=[.lit (.bool true)],args:=ds }) (n:Below W.heap.size W r):s.post enc P f false true false false W args (.bool true) r:=by
 obtain⟨p,q,G,B,rfl,I,J⟩:=id C
 rw[c]at B
 obtain⟨rfl,rfl⟩:=trodVars_none B
 refine⟨ds,[],p++[],[],p,[],C,?_,?_,?_,?_,fun h=>by cases h⟩
 ·rw[j,g]
  have:(Value.bool true).resultList f.resultTypes.size=[.bool true]:=by
   have:f.resultTypes.size=1:=by rw[←HE,g];rfl
   rw[this];rfl
  rw[this]
  exact trodAll_cons_mk (shut_bool L _) trodAll_mk0
 ·rw[j]
  have key:∀(l:List TypeId) (vs:List Value) (m:List (DataW H)) (ps:List MemPlace),(∀t∈l,P.readableRec t=true∧t<P.types.size)→DataW.TrodAll enc P W 0 (fun _=>true) true l vs m ps→
    DataW.TrodAll enc P r 0 (fun b=>decide (b<W.heap.size)) true l vs m ps:=by
   intro l
   induction l with
   |nil=>intro vs m ps _ h;obtain⟨rfl,rfl,rfl⟩:=trodAll_nil h;exact trodAll_mk0
   |cons t l M=>
    intro vs m ps y h
    have w:=DataW.TrodAll.lt h
    obtain⟨v,N,d,D,a,b,rfl,rfl,rfl,E,F⟩:=trodAll_cons h
    exact trodAll_cons_mk (Below.trod k (y t (by simp)).1 (y t (by simp)).2 E n (fun x hx=>w x (HM _ hx))) (M _ _ _ (fun t K=>y t (by simp[K])) F)
  exact key _ _ _ _ z G
 ·rw[c,j];exact rfl
 ·refine⟨n.os,n.output,fun i hi=>?_⟩
  rw[n.block i hi]
  cases W.heap[i]? with
  |none=>rfl
  |some o=>cases o<;>simp
end
end Go.Proofs.YtjbijbkdiijhaaaGreat
namespace Go.Proofs.YtjbijbkdiijhaaaGreat
set_option linter.all false
open Go Go.Eng
section
variable {H:Type} {enc:TypeId×Value→H} {W:World}
set_option maxRecDepth 100000
theorem ZPP(n:Nat):Ch enc Tryz.prog W n 65 Av:=fun cs x hx=>by
 obtain⟨xs,m,rfl,rfl,c,a,b⟩:=DataW.trod_struct Tryz.underlying65 hx
 obtain⟨v0,h,d⟩:=rf (ED Tryz.underlying3) (b 0 _ rfl) a
 obtain⟨l,i,e⟩:=rf (ED Tryz.underlying3) (b 1 _ rfl) a
 obtain⟨v2,j,f⟩:=rf (ED Tryz.underlying27) (b 2 _ rfl) a
 obtain⟨v3,k,g⟩:=rf (EE Tryz.underlying9) (b 3 _ rfl) a
 have q:=EF (Bw d (Bw e (Bw f (EC g))))
 exact⟨.mk v0 l v2 v3,⟨by rw[c];kernel_rfl,(h.at.app (i.at.app (j.at.app k.at)))⟩,q⟩
theorem Zy2(n:Nat)(h:∀k,k<n→Ch enc Tryz.prog W k 33 Ag):Ch enc Tryz.prog W n 63 N6:=fun cs x hx=>by
 obtain⟨xs,m,rfl,rfl,b,a,c⟩:=DataW.trod_struct Tryz.underlying63 hx
 obtain⟨v0,f,d⟩:=rf (h m (by omega)) (c 0 _ rfl) a
 obtain⟨i,g,e⟩:=rf (h m (by omega)) (c 1 _ rfl) a
 have q:=EF (Bw d (EC e))
 exact⟨.mk v0 i,⟨by rw[b];kernel_rfl,(f.at.app g.at)⟩,q⟩
theorem ZrA(n:Nat)(h:∀k,k<n→Ch enc Tryz.prog W k 33 Ag):Ch enc Tryz.prog W n 61 Dr:=fun cs x hx=>by
 obtain⟨xs,m,rfl,rfl,b,a,c⟩:=DataW.trod_struct Tryz.underlying61 hx
 obtain⟨v0,f,d⟩:=rf (ED Tryz.underlying3) (c 0 _ rfl) a
 obtain⟨i,g,e⟩:=rf (h m (by omega)) (c 1 _ rfl) a
 have q:=EF (Bw d (EC e))
 exact⟨.mk v0 i,⟨by rw[b];kernel_rfl,(f.at.app g.at)⟩,q⟩
theorem Wp(n:Nat):Ch enc Tryz.prog W n 33 Ag:=by
 induction n using Nat.strongRecOn with
 |ind n e=>
 intro cs x hx
 obtain⟨xs,m,rfl,rfl,c,a,b⟩:=DataW.trod_struct Tryz.underlying33 hx
 obtain⟨v0,s,f⟩:=rf (ED Tryz.underlying3) (b 0 _ rfl) a
 obtain⟨A,t,g⟩:=rf (ED Tryz.underlying27) (b 1 _ rfl) a
 obtain⟨v2,u,h⟩:=rf (EE Tryz.underlying9) (b 2 _ rfl) a
 obtain⟨v3,v,i⟩:=rf (De Tryz.underlying28 (by kernel_rfl:Tryz.prog.cellsOf 33=7) (by decide) (fun x=>by rw[Gt];rfl) (fun k d=>(qa Gt (e k (by omega))))) (b 3 _ rfl) a
 obtain⟨v4,w,l⟩:=rf (De Tryz.underlying29 (by kernel_rfl:Tryz.prog.cellsOf 63=14) (by decide) (fun x=>by rw[Ly];rfl) (fun k d=>(qa Ly (Zy2 k (fun j r=>e j (by omega)))))) (b 4 _ rfl) a
 obtain⟨B,y,o⟩:=rf (De Tryz.underlying30 (by kernel_rfl:Tryz.prog.cellsOf 61=8) (by decide) (fun x=>by rw[La];rfl) (fun k d=>(qa La (ZrA k (fun j r=>e j (by omega)))))) (b 5 _ rfl) a
 obtain⟨C,z,p⟩:=rf (De Tryz.underlying31 (by kernel_rfl:Tryz.prog.cellsOf 65=4) (by decide) (fun _=>rfl) (fun k d=>(ZPP k))) (b 6 _ rfl) a
 have q:=EF (Bw f (Bw g (Bw h (Bw i (Bw l (Bw o (EC p)))))))
 exact⟨.mk v0 A v2 v3 v4 B C,⟨by rw[c];kernel_rfl,(s.at.app (t.at.app (u.at.app (v.at.app (w.at.app (y.at.app z.at))))))⟩,q⟩
theorem ZPw(n:Nat):Ch enc Tryz.prog W n 49 Hv:=fun cs x hx=>by
 obtain⟨xs,m,rfl,rfl,b,a,c⟩:=DataW.trod_struct Tryz.underlying49 hx
 obtain⟨v0,f,d⟩:=rf (ED Tryz.underlying3) (c 0 _ rfl) a
 obtain⟨h,g,e⟩:=rf (EE Tryz.underlying9) (c 1 _ rfl) a
 have q:=EF (Bw d (EC e))
 exact⟨.mk v0 h,⟨by rw[b];kernel_rfl,(f.at.app g.at)⟩,q⟩
theorem NC(n:Nat):Ch enc Tryz.prog W n 180 Cb:=fun cs x hx=>by
 obtain⟨xs,m,rfl,rfl,b,a,c⟩:=DataW.trod_struct Tryz.underlying180 hx
 obtain⟨v0,f,d⟩:=rf (EE Tryz.underlying9) (c 0 _ rfl) a
 obtain⟨h,g,e⟩:=rf (Wp m) (c 1 _ rfl) a
 have q:=EF (Bw d (EC e))
 exact⟨.mk v0 h,⟨by rw[b];kernel_rfl,(f.at.app g.at)⟩,q⟩
theorem ZOS(n:Nat):Ch enc Tryz.prog W n 51 Ay:=fun cs x hx=>by
 obtain⟨xs,m,rfl,rfl,c,a,b⟩:=DataW.trod_struct Tryz.underlying51 hx
 obtain⟨v0,p,d⟩:=rf (ED Tryz.underlying3) (b 0 _ rfl) a
 obtain⟨A,r,e⟩:=rf (EE Tryz.underlying9) (b 1 _ rfl) a
 obtain⟨v2,s,f⟩:=rf (ED Tryz.underlying3) (b 2 _ rfl) a
 obtain⟨v3,t,g⟩:=rf (ED Tryz.underlying3) (b 3 _ rfl) a
 obtain⟨v4,u,h⟩:=rf (ZPw m) (b 4 _ rfl) a
 obtain⟨B,v,i⟩:=rf (EE Tryz.underlying9) (b 5 _ rfl) a
 obtain⟨C,w,j⟩:=rf (ZwD Tryz.underlying4) (b 6 _ rfl) a
 obtain⟨D,y,l⟩:=rf (Wp m) (b 7 _ rfl) a
 obtain⟨E,z,o⟩:=rf (De Tryz.underlying43 (by kernel_rfl:Tryz.prog.cellsOf 180=8) (by decide) (fun _=>rfl) (fun k F=>(NC k))) (b 8 _ rfl) a
 have q:=EF (Bw d (Bw e (Bw f (Bw g (Bw h (Bw i (Bw j (Bw l (EC o)))))))))
 exact⟨.mk v0 A v2 v3 v4 B C D E,⟨by rw[c];kernel_rfl,(p.at.app (r.at.app (s.at.app (t.at.app (u.at.app (v.at.app (w.at.app (y.at.app z.at))))))))⟩,q⟩
theorem sH(n:Nat):Ch enc Tryz.prog W n 152 CB:=fun cs x hx=>by
 obtain⟨xs,m,rfl,rfl,b,a,c⟩:=DataW.trod_struct Tryz.underlying152 hx
 obtain⟨v0,f,d⟩:=rf (ED Tryz.underlying3) (c 0 _ rfl) a
 obtain⟨h,g,e⟩:=rf (ED Tryz.underlying3) (c 1 _ rfl) a
 have q:=EF (Bw d (EC e))
 exact⟨.mk v0 h,⟨by rw[b];kernel_rfl,(f.at.app g.at)⟩,q⟩
theorem ZO2(n:Nat):Ch enc Tryz.prog W n 45 AU:=fun cs x hx=>by
 obtain⟨xs,m,rfl,rfl,c,a,b⟩:=DataW.trod_struct Tryz.underlying45 hx
 obtain⟨v0,j,e⟩:=rf (EE Tryz.underlying9) (b 0 _ rfl) a
 obtain⟨s,l,f⟩:=rf (De Tryz.underlying40 (by kernel_rfl:Tryz.prog.cellsOf 51=16) (by decide) (fun _=>rfl) (fun k d=>(ZOS k))) (b 1 _ rfl) a
 obtain⟨v2,o,g⟩:=rf (De Tryz.underlying41 (by kernel_rfl:Tryz.prog.cellsOf 152=2) (by decide) (fun _=>rfl) (fun k d=>(sH k))) (b 2 _ rfl) a
 obtain⟨v3,p,h⟩:=rf (De Tryz.underlying42 (by kernel_rfl:Tryz.prog.cellsOf 9=1) (by decide) (fun _=>rfl) (fun k d=>(EE Tryz.underlying9))) (b 3 _ rfl) a
 obtain⟨v4,r,i⟩:=rf (De Tryz.underlying43 (by kernel_rfl:Tryz.prog.cellsOf 180=8) (by decide) (fun _=>rfl) (fun k d=>(NC k))) (b 4 _ rfl) a
 have q:=EF (Bw e (Bw f (Bw g (Bw h (EC i)))))
 exact⟨.mk v0 s v2 v3 v4,⟨by rw[c];kernel_rfl,(j.at.app (l.at.app (o.at.app (p.at.app r.at))))⟩,q⟩
theorem ZPd(n:Nat):Ch enc Tryz.prog W n 125 FX:=fun cs x hx=>by
 obtain⟨xs,m,rfl,rfl,b,a,c⟩:=DataW.trod_struct Tryz.underlying125 hx
 obtain⟨v0,g,d⟩:=rf (EE Tryz.underlying9) (c 0 _ rfl) a
 obtain⟨j,h,e⟩:=rf (ED Tryz.underlying3) (c 1 _ rfl) a
 obtain⟨v2,i,f⟩:=rf (De Tryz.underlying43 (by kernel_rfl:Tryz.prog.cellsOf 180=8) (by decide) (fun _=>rfl) (fun k l=>(NC k))) (c 2 _ rfl) a
 have q:=EF (Bw d (Bw e (EC f)))
 exact⟨.mk v0 j v2,⟨by rw[b];kernel_rfl,(g.at.app (h.at.app i.at))⟩,q⟩
theorem ZPc(n:Nat):Ch enc Tryz.prog W n 89 Cv:=fun cs x hx=>by
 obtain⟨xs,m,rfl,rfl,c,a,b⟩:=DataW.trod_struct Tryz.underlying89 hx
 obtain⟨v0,j,e⟩:=rf (EE Tryz.underlying9) (b 0 _ rfl) a
 obtain⟨s,l,f⟩:=rf (ZwD Tryz.underlying4) (b 1 _ rfl) a
 obtain⟨v2,o,g⟩:=rf (De Tryz.underlying87 (by kernel_rfl:Tryz.prog.cellsOf 125=3) (by decide) (fun _=>rfl) (fun k d=>(ZPd k))) (b 2 _ rfl) a
 obtain⟨v3,p,h⟩:=rf (De Tryz.underlying41 (by kernel_rfl:Tryz.prog.cellsOf 152=2) (by decide) (fun _=>rfl) (fun k d=>(sH k))) (b 3 _ rfl) a
 obtain⟨v4,r,i⟩:=rf (De Tryz.underlying43 (by kernel_rfl:Tryz.prog.cellsOf 180=8) (by decide) (fun _=>rfl) (fun k d=>(NC k))) (b 4 _ rfl) a
 have q:=EF (Bw e (Bw f (Bw g (Bw h (EC i)))))
 exact⟨.mk v0 s v2 v3 v4,⟨by rw[c];kernel_rfl,(j.at.app (l.at.app (o.at.app (p.at.app r.at))))⟩,q⟩
theorem ZMY(n:Nat):Ch enc Tryz.prog W n 127 Hq:=fun cs x hx=>by
 obtain⟨xs,m,rfl,rfl,c,a,b⟩:=DataW.trod_struct Tryz.underlying127 hx
 obtain⟨v0,i,d⟩:=rf (EE Tryz.underlying9) (b 0 _ rfl) a
 obtain⟨r,j,e⟩:=rf (EE Tryz.underlying9) (b 1 _ rfl) a
 obtain⟨v2,l,f⟩:=rf (EE Tryz.underlying9) (b 2 _ rfl) a
 obtain⟨v3,o,g⟩:=rf (ED Tryz.underlying3) (b 3 _ rfl) a
 obtain⟨v4,p,h⟩:=rf (De Tryz.underlying43 (by kernel_rfl:Tryz.prog.cellsOf 180=8) (by decide) (fun _=>rfl) (fun k s=>(NC k))) (b 4 _ rfl) a
 have q:=EF (Bw d (Bw e (Bw f (Bw g (EC h)))))
 exact⟨.mk v0 r v2 v3 v4,⟨by rw[c];kernel_rfl,(i.at.app (j.at.app (l.at.app (o.at.app p.at))))⟩,q⟩
theorem ZNV(n:Nat):Ch enc Tryz.prog W n 93 Di:=fun cs x hx=>by
 obtain⟨xs,m,rfl,rfl,b,a,c⟩:=DataW.trod_struct Tryz.underlying93 hx
 obtain⟨v0,h,d⟩:=rf (EE Tryz.underlying9) (c 0 _ rfl) a
 obtain⟨l,i,e⟩:=rf (De Tryz.underlying91 (by kernel_rfl:Tryz.prog.cellsOf 127=5) (by decide) (fun _=>rfl) (fun k g=>(ZMY k))) (c 1 _ rfl) a
 obtain⟨v2,j,f⟩:=rf (De Tryz.underlying43 (by kernel_rfl:Tryz.prog.cellsOf 180=8) (by decide) (fun _=>rfl) (fun k g=>(NC k))) (c 2 _ rfl) a
 have q:=EF (Bw d (Bw e (EC f)))
 exact⟨.mk v0 l v2,⟨by rw[b];kernel_rfl,(h.at.app (i.at.app j.at))⟩,q⟩
theorem ZNE(n:Nat):Ch enc Tryz.prog W n 26 Ar:=fun cs x hx=>by
 obtain⟨xs,m,rfl,rfl,b,a,c⟩:=DataW.trod_struct Tryz.underlying26 hx
 obtain⟨v0,h,e⟩:=rf (De Tryz.underlying22 (by kernel_rfl:Tryz.prog.cellsOf 45=5) (by decide) (fun _=>rfl) (fun k d=>(ZO2 k))) (c 0 _ rfl) a
 obtain⟨l,i,f⟩:=rf (De Tryz.underlying23 (by kernel_rfl:Tryz.prog.cellsOf 89=5) (by decide) (fun _=>rfl) (fun k d=>(ZPc k))) (c 1 _ rfl) a
 obtain⟨v2,j,g⟩:=rf (De Tryz.underlying24 (by kernel_rfl:Tryz.prog.cellsOf 93=3) (by decide) (fun _=>rfl) (fun k d=>(ZNV k))) (c 2 _ rfl) a
 have q:=EF (Bw e (Bw f (EC g)))
 exact⟨.mk v0 l v2,⟨by rw[b];kernel_rfl,(h.at.app (i.at.app j.at))⟩,q⟩
end
end Go.Proofs.YtjbijbkdiijhaaaGreat
namespace Go.Eng
set_option linter.all false
open Go Go.RowKit
section
variable {σ ξ ρ α β γ:Type}
theorem Ew{B:Nat→Option (Lv Nat ξ ρ)}{N:Nat}(l:List α)(p:α→Bool)(f:Nat→ρ)(e:ξ)
  (hs:∀i x,l[i]?=some x→B i=some (if p x=true then .rt (f i)else .nx (i+1))) (he:B l.length=some (.ex e)) (hN:l.length<N):
  Ak B N 0=some (match l.findIdx? p with|some i=>.inr (f i)|none=>.inl e):=by
 suffices H:∀k i N,i+k=l.length→k<N→Ak B N i=some (match (l.drop i).findIdx? p with|some j=>.inr (f (i+j))|none=>.inl e)by
  have:=H l.length 0 N (by omega) hN
  simpa using this
 intro k
 induction k with
 |zero=>
  intro i N hi hN
  obtain⟨N,rfl⟩:∃m,N=m+1:=⟨N-1,by omega⟩
  have:i=l.length:=by omega
  subst this
  rw[Ak,he,SY]
  rfl
 |succ k b=>
  intro i N hi hN
  obtain⟨N,rfl⟩:∃m,N=m+1:=⟨N-1,by omega⟩
  have a:i<l.length:=by omega
  rw[Ak,hs i l[i] (Ye a),HH a,List.findIdx?_cons]
  cases c:p l[i]with
  |true=>simp
  |false=>
   simp only[Yo,YP]
   rw[b (i+1) N (by omega) (by omega)]
   cases(List.drop (i+1) l).findIdx? p with
   |none=>rfl
   |some j=>simp[YI,OC 1 j]
def M9(R:List α→α→Option ρ):List α→List α→Option ρ
 |_,[]=>none
 |p,x::l=>match R p x with
  |some r=>some r
  |none=>M9 R (p++[x]) l
theorem Zzg{B:σ→Option (Lv σ ξ ρ)}{N:Nat}(l:List α)(S:List α→β)(R:List α→α→Option ρ)(mk:Nat→β→σ)(e:β→ξ)
  (hs:∀i x,l[i]?=some x→B (mk i (S (l.take i)))=some (match R (l.take i) x with|some r=>.rt r|none=>.nx (mk (i+1) (S (l.take i++[x])))))
  (he:B (mk l.length (S l))=some (.ex (e (S l)))) (hN:l.length<N):Ak B N (mk 0 (S []))=some ((M9 R [] l).elim (.inl (e (S l))) .inr):=by
 suffices H:∀k i N,i+k=l.length→k<N→Ak B N (mk i (S (l.take i)))=some ((M9 R (l.take i) (l.drop i)).elim (.inl (e (S l))) .inr)by
  have:=H l.length 0 N (by omega) hN
  grind
 intro k
 induction k with
 |zero=>
  intro i N hi hN
  obtain⟨N,rfl⟩:∃m,N=m+1:=⟨N-1,by omega⟩
  have:i=l.length:=by omega
  subst this
  rw[Ak,L6,he,SY]
  rfl
 |succ k b=>
  intro i N hi hN
  obtain⟨N,rfl⟩:∃m,N=m+1:=⟨N-1,by omega⟩
  have a:i<l.length:=by omega
  rw[Ak,hs i l[i] (Ye a),HH a,M9]
  cases R (l.take i) l[i]with
  |some r=>rfl
  |none=>
   have:=b (i+1) N (by omega) (by omega)
   rw[Y5 a]at this
   exact this
theorem zT{R:List α→α→Option ρ}(h:∀p x,R p x=none):∀(l p:List α),M9 R p l=none
 |[],p=>rfl
 |x::l,p=>by rw[M9,h];exact zT h l _
theorem Ex{B:σ→Option (Lv σ ξ ρ)}{N:Nat}(l:List α)(S:List α→β)(mk:Nat→β→σ)(e:β→ξ)
  (hs:∀i x,l[i]?=some x→B (mk i (S (l.take i)))=some (.nx (mk (i+1) (S (l.take i++[x])))))
  (he:B (mk l.length (S l))=some (.ex (e (S l)))) (hN:l.length<N):Ak B N (mk 0 (S []))=some (.inl (e (S l))):=by
 rw[Zzg l S (fun _ _=>none) mk e hs he hN,zT fun _ _=>rfl]
 rfl
theorem Zo0{B:σ→Option (Lv σ ξ ρ)}(I:Nat→σ→Prop)(Q:ξ ⊕ ρ→Prop)
  (h:∀k v,I k v→∃o,B v=some o∧match o with|.nx c=>∃k',k'<k∧I k' c|.ex b=>Q (.inl b)|.rt y=>Q (.inr y)):
  ∀N k v,k<N→I k v→∃o,Ak B N v=some o∧Q o
 |0,k,v,d,_=>absurd d (Y1 _)
 |N+1,k,v,d,g=>by
  obtain⟨o,e,a⟩:=h k v g
  rw[Ak,e]
  cases o with
  |nx c=>obtain⟨k',i,f⟩:=a;exact Zo0 I Q h N k' c (by omega) f
  |ex b=>exact⟨_,rfl,a⟩
  |rt y=>exact⟨_,rfl,a⟩
theorem BI{l:List α}{i:Nat}{x:α}(h:l[i]?=some x):(i:Int)<(l.length:Int):=by
 grind
theorem A1{n:Nat}(h:n<4611686018427387904):n<Am:=h
end
end Go.Eng
