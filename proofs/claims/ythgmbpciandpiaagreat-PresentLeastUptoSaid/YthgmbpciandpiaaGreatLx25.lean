import Derived.Test.YthgmbpciandpiaaGreatLx24
import Derived.Test.YthgmbpciandpiaaGreatLx10
import Derived.Test.YthgmbpciandpiaaGreatRows
import Derived.WalkKit
import Derived.ProofKit
import Derived.OpenShut
import Derived.Carry
import Derived.Deep.DeepHandedRow
import Derived.Test.YthgmbpciandpiaaGreatLx11
import Derived.Test.YthgmbpciandpiaaGreatLx00
namespace Go.Proofs.YthgmbpciandpiaaGreat
set_option maxRecDepth 100000
set_option linter.all false
open Go Go.Eng
abbrev PA(a:Scm):Ad×Blk:=((0,0),⟨0,true,26,3,(cD (Al a))⟩)
abbrev PX:Ad×Blk:=kk 6 33 7 [vI 0,.d (.int .u64 0),vS ⟨#[]⟩,.e0,.e0,.e0,.e0]
abbrev dp:Int×Int×ByteArray×List Val×List Pr×List Raw×List Slt→AV:=fun y=>.agg [vI y.1,.d (.int .u64 y.2.1),vS y.2.2.1,vL AM y.2.2.2.1,vL Ay y.2.2.2.2.1,.ref (0,1) 1 0 y.2.2.2.2.2.2.length,vL AZ y.2.2.2.2.2.1]
@[reducible] def dg(a:Scm):Int×Int×ByteArray×List Val×List Pr×List Raw×List Slt→List Blk:=fun y=>[⟨0,true,26,3,(cD (Al a))⟩,⟨1,true,65,8,Af Ap y.2.2.2.2.2.2⟩]
def qP(d:Acs)(a:Val)(b:Scm):Nat×List Slt→St:=fun(e,c)=>Ab [pp 3,pp 4,pp 5,pp 6,(15,vL Ap a.slots),(16,vN a.slots.length),(17,vN e)] [(PA b),kk 3 68 8 (cD (Cc d)),kk 4 33 7 [vI a.kind,.d (.int .u64 a.bits),vS a.text,vL AM a.list,vL Ay a.pairs,.ref (1,1045) 0 0 c.length,vL AZ a.raws],kk 5 110 1 [.fn (.func 48) [] [.ptr (0,0) 0 0]],PX,kk 1045 65 8 (Af Ap c)]
def tC(b:Val)(a:Scm):List Slt→Nat×St:=fun c=>(0,Ab [pp 4,pp 6] [(PA a),kk 4 33 7 [vI b.kind,.d (.int .u64 b.bits),vS b.text,vL AM b.list,vL Ay b.pairs,.ref (1,1045) 0 0 c.length,vL AZ b.raws],PX,kk 1045 65 8 (Af Ap c)])
def pN(g:Acs)(d:Val)(a:Scm)(e:Nat)(c:List Slt):PT 2 (Lv (Nat×List Slt) (List Slt) (Int×Int×ByteArray×List Val×List Pr×List Raw×List Slt)):=br (decide ((e:Int)<(d.slots.length:Int))) (ix d.slots e fun b=>wg<|wg<|wg<|cl (LX g.m b.num) fun h=>wg<|wg<|wg<|cs Tryz.prog 85 [.agg ((An h.1).map .d),.agg ((Ag b.val).map .d),.fn (.func 86) [] [.ptr (1,5) 0 0,.ptr (1,10) 1 0]] [] [] (fA h.1 b.val) (fun y=>.agg ((Ag y).map .d)) fun f=>wg<|wg<|wg<|vw .sep<|ap c ((.mk b.num f:Slt):Slt)<|wg<|vs (wa e 1)<|vz (fl (c++([(.mk b.num f:Slt)])))<|ln (qP g d a) (e+1,c++([(.mk b.num f:Slt)]))) (vz (fl c)<|Aj (tC d a) c)
def o1(c:Acs)(d:Val)(a:Scm)(b:Scm→ByteArray→Val→Option (Val)):Nat×List Slt→Option (Lv (Nat×List Slt) (List Slt) (Int×Int×ByteArray×List Val×List Pr×List Raw×List Slt)):=fun(f,e)=>(pN c d a f e).m
def qm(b:Val)(a:Scm)(c:List Slt):PT 2 (Int×Int×ByteArray×List Val×List Pr×List Raw×List Slt):=wg<|wg<|mvc 1045 1 6 5 c<|lr dp (dg a) (b.kind,b.bits,b.text,b.list,b.pairs,b.raws,c)
def tK(d:Acs)(b:Val)(a:Scm)(c:Scm→ByteArray→Val→Option (Val)):PT 2 (Int×Int×ByteArray×List Val×List Pr×List Raw×List Slt):=vw (.adc (1,4) 5 1045 65 8)<|vz (fl ([]:List Slt))<|lc (Ab [pp 3,pp 4,pp 5,pp 6,(15,vL Ap b.slots),(16,vN b.slots.length),(17,vI 0)] [(PA a),kk 3 68 8 (cD (Cc d)),kk 4 33 7 [vI b.kind,.d (.int .u64 b.bits),vS b.text,vL AM b.list,vL Ay b.pairs,.ref (1,1045) 0 0 ([]:List Slt).length,vL AZ b.raws],kk 5 110 1 [.fn (.func 48) [] [.ptr (0,0) 0 0]],PX,kk 1045 65 8 (Af Ap ([]:List Slt))]) ((Am (o1 d b a c) Ai (0,([]:List Slt))).bind (Sum.elim (fun e=>(qm b a e).m) some))
def re(d:Acs)(b:Val)(a:Scm)(c:Scm→ByteArray→Val→Option (Val)):PT 2 (Int×Int×ByteArray×List Val×List Pr×List Raw×List Slt):=vz (Ah b.slots)<|lc (Ab [pp 3,pp 4,pp 5,pp 6,(15,vL Ap b.slots),(16,vN b.slots.length),(17,vI 0)] [(PA a),kk 3 68 8 (cD (Cc d)),kk 4 33 7 [vI b.kind,.d (.int .u64 b.bits),vS b.text,vL AM b.list,vL Ay b.pairs,.e0,vL AZ b.raws],kk 5 110 1 [.fn (.func 48) [] [.ptr (0,0) 0 0]],PX]) ((tK d b a c).m)
def pX(d:Acs)(b:Val)(a:Scm)(c:Scm→ByteArray→Val→Option (Val)):PT 2 (Int×Int×ByteArray×List Val×List Pr×List Raw×List Slt):=wg<|wg<|lc (Ab [pp 3,pp 4,pp 5,pp 6,(7,vL Ap b.slots)] [(PA a),kk 3 68 8 (cD (Cc d)),kk 4 33 7 [vI b.kind,.d (.int .u64 b.bits),vS b.text,vL AM b.list,vL Ay b.pairs,.e0,vL AZ b.raws],kk 5 110 1 [.fn (.func 48) [] [.ptr (0,0) 0 0]],PX]) ((re d b a c).m)
def Zcx(b:Scm→ByteArray→Val→Option (Val))(c:Acs)(d:Val)(a:Scm):Option (Int×Int×ByteArray×List Val×List Pr×List Raw×List Slt):=(pX c d a b).m
theorem ZBP{C:Cx}(co:CO C 2)(c:Acs)(b:Val)(a:Scm)(d:Scm→ByteArray→Val→Option (Val))(o:∀(c:Scm) (b:ByteArray) (f:Val),KC Tryz.prog 23 [.agg ((Al c).map .d),vS b,.agg ((Ag f).map .d)] (d c b f) K3):KL Tryz.prog (Az tl) 43 C (pa [0,0,1,0,1,1,1] (Aw Tryz.f46)) [.cell 6 33] 2 (qP c b a) (tC b a) dp (dg a) (o1 c b a d):=fun(l,k) _ hm Q e j i=>Av co Aa Ac (pN c b a l k) (Ae [3,4,5,6,15,16,17] Tc) (Ae [4,6] ZX6) j hm i fun r g=>⟨fun h=>fun m=>⟨fun y hy=>B6 (ZXG m.1 h.val) hy co g [] [] (AN [(2,.fn (.func 86) [] [.ptr (r.κ (1,5)) (r.γ (1,5)+0) 0,.ptr (r.κ (1,10)) (r.γ (1,10)+1) 0])]) (fun n hg p=>trivial) (fun H=>trivial),fun q=>id⟩,id⟩
theorem ZVF(b:Scm→ByteArray→Val→Option (Val))(i:∀(d:Scm) (c:ByteArray) (h:Val),KC Tryz.prog 23 [.agg ((Al d).map .d),vS c,.agg ((Ag h).map .d)] (b d c h) K3)(d:Acs)(c:Val)(a:Scm):KO Tryz.prog 46 2 [.agg ((Cc d).map .d),.agg ((Ag c).map .d),.fn (.func 48) [] [.ptr (0,0) 0 0]] [⟨0,true,26,3,(cD (Al a))⟩,⟨0,false,0,0,[]⟩] (fun _ _ _ _=>True) (Zcx b d c a) dp (dg a):=Bi Tryz.func46 Tryz.ntmps46 Aa [.cell 6 33] 2 (fun C co k y hm f e=>Ak co Aa Ac 3 (pX d c a b) (Ae [3,4,5,6,7] SU) nl nH hm e fun r g=>fun _ hm e=>sq (Ak co Aa Ac 1 (re d c a b) (Ae [3,4,5,6,15,16,17] SU) nl nH hm e fun r g=>fun _ hm e=>bk 0 (Fh co (tK d c a b) (Ae [3,4,5,6,15,16,17] Tc) hm e fun r g=>fun _ hm e=>lo (AF (ZBP co d c a b i) nH hm e (fun j hm=>Ao co Aa Ac (qm c a j) hm e fun r g=>id))))) (hB:=fun y=>⟨.inr (by kernel_rfl),rfl,⟨.inl (A2 _ _),rfl,trivial⟩⟩)
abbrev KE(a:Acs×Bool):Ad×Blk:=kk 7 68 8 (cD (Cc a.1))
abbrev M1(a:Scm):Ad×Blk:=kk 3 26 3 (cD (Al a))
abbrev P7:Ad×Blk:=kk 6 33 7 [vI 0,.d (.int .u64 0),vS ⟨#[]⟩,.e0,.e0,.e0,.e0]
abbrev PL(a:Int×Int×ByteArray×List Val×List Pr×List Raw×List Slt):Ad×Blk:=kk 18 65 8 (Af Ap a.2.2.2.2.2.2)
abbrev yU(a:Int×Int×ByteArray×List Val×List Pr×List Raw×List Slt):Ad×Blk:=kk 5 33 7 [vI a.1,.d (.int .u64 a.2.1),vS a.2.2.1,vL AM a.2.2.2.1,vL Ay a.2.2.2.2.1,.ref (1,18) 0 0 a.2.2.2.2.2.2.length,vL AZ a.2.2.2.2.2.1]
abbrev uN(a:Val):Ad×Blk:=kk 5 33 7 (cD (Ag a))
def yM(a:Int×Int×ByteArray×List Val×List Pr×List Raw×List Slt)(b:List Slt):PT 0 (Val):=wg<|wg<|vz (fr b)<|lr K3 nG (.mk a.1 a.2.1 a.2.2.1 a.2.2.2.1 a.2.2.2.2.1 b a.2.2.2.2.2.1:Val)
def xl(a:Int×Int×ByteArray×List Val×List Pr×List Raw×List Slt)(b:List Slt):PT 0 (Val):=wg<|vz (fl b)<|lc (Ab [pp 5,pp 6] [kk 5 33 7 [vI a.1,.d (.int .u64 a.2.1),vS a.2.2.1,vL AM a.2.2.2.1,vL Ay a.2.2.2.2.1,.ref (1,18) 0 0 b.length,vL AZ a.2.2.2.2.2.1],P7,kk 18 65 8 (Af Ap b)]) ((yM a b).m)
def wT(b:Acs×Bool)(a:Int×Int×ByteArray×List Val×List Pr×List Raw×List Slt):PT 0 (Val):=wg<|vz (fl a.2.2.2.2.2.2)<|lc (Ab [pp 5,pp 6,(20,.ref (1,18) 0 0 a.2.2.2.2.2.2.length),(21,.fn (.func 50) [] [.ptr (1,7) 0 0])] [(yU a),P7,(KE b),(PL a)]) ((fw a.2.2.2.2.2.2 (fun(z0:Slt)=>fv z0 b.1)).bind fun c=>(xl a c).m)
def u0(b:Acs×Bool)(a:Int×Int×ByteArray×List Val×List Pr×List Raw×List Slt):PT 0 (Val):=wg<|vz (fl a.2.2.2.2.2.2)<|lc (Ab [pp 5,pp 6,pp 7] [(yU a),P7,(KE b),(PL a)]) ((wT b a).m)
def vk(d:Scm)(c:Val)(b:Scm→ByteArray→Val→Option (Val))(a:Acs×Bool):PT 0 (Val):=wg<|wg<|lc (Ab [pp 5,pp 6,pp 7,(15,.agg ((Cc a.1).map .d)),(16,.agg ((Ag c).map .d)),(17,.fn (.func 48) [] [.ptr (1,3) 0 0])] [(M1 d),(uN c),P7,(KE a)]) ((Zcx b a.1 c d).bind fun e=>(u0 a e).m)
def yN(b:Scm)(e:ByteArray)(c:Val)(a:Scm→ByteArray→Val→Option (Val)):PT 0 (Val):=wg<|cl (R2 b e) fun d=>wg<|lc (Ab [pp 3,pp 5,pp 6,pp 7] [(M1 b),(uN c),P7,(KE d)]) ((vk b c a d).m)
def ZYT(a:Scm→ByteArray→Val→Option (Val))(b:Scm)(c:ByteArray)(d:Val):Option (Val):=(yN b c d a).m
theorem ZWT(b:Scm→ByteArray→Val→Option (Val))(o:∀(a:Scm) (i:ByteArray) (e:Val),KC Tryz.prog 23 [.agg ((Al a).map .d),vS i,.agg ((Ag e).map .d)] (b a i e) K3)(a:Scm)(i:ByteArray)(e:Val):KC Tryz.prog 23 [.agg ((Al a).map .d),vS i,.agg ((Ag e).map .d)] (ZYT b a i e) K3:=As Tryz.func23 Tryz.ntmps23 Aa [.cell 6 33] fun C co y hm k c=>Ak co Aa Ac 2 (yN a i e b) (Ae [3,5,6,7] [((1,3),false),((1,5),false),((1,6),false),((1,7),false)]) nl nH hm c fun r g=>fun d=>fun _ hm c=>sq (rg (BJ co Aa 3 (vk a e b d) (Ae [5,6,7,15,16,17] [((1,3),false),((1,5),false),((1,6),false),((1,7),false)]) hm c fun r g=>fun _ hm c=>HK co hm 46 [.agg ((Cc d.1).map .d),.agg ((Ag e).map .d),.fn (.func 48) [] [.ptr (1,3) 0 0]] [(1,3),(1,18)] ([(M1 a),((1,18),⟨0,false,0,0,[]⟩)]++[]) (fun z=>.agg [vI z.1,.d (.int .u64 z.2.1),vS z.2.2.1,vL AM z.2.2.2.1,vL Ay z.2.2.2.2.1,.ref (1,18) 1 0 z.2.2.2.2.2.2.length,vL AZ z.2.2.2.2.2.1]) (fun z=>[(M1 a),((1,18),⟨1,true,65,8,Af Ap z.2.2.2.2.2.2⟩)]) [] (fun z=>trivial) (trivial) (fun z j r g=>Eg (ZVF b o d.1 e a) j co g [(M1 a),((1,18),⟨0,false,0,0,[]⟩)] [] [(M1 a),((1,18),⟨1,true,65,8,Af Ap z.2.2.2.2.2.2⟩)] (AN []) (fun n hg p=>trivial) (fun H=>⟨fun _=>⟨rfl,by kernel_rfl⟩,by kernel_rfl,⟨(fun h=>by cases h),by kernel_rfl,trivial⟩⟩) (fun H=>⟨fun _=>⟨rfl,by kernel_rfl⟩,by kernel_rfl,⟨fun _=>⟨rfl,BA (A2 _ _) (by kernel_rfl)⟩,by kernel_rfl,trivial⟩⟩)) fun f hm=>Bf co Aa (u0 d f) (Ae [5,6,7] [((1,5),false),((1,6),false),((1,7),false),((1,18),true)]) hm c fun r g=>fun _ hm c=>sq (rg (BJ co Aa 3 (wT d f) (Ae [5,6,20,21] [((1,5),false),((1,6),false),((1,7),false),((1,18),true)]) hm c fun r g=>fun _ hm c=>HK co hm 49 [.ref (1,18) 0 0 f.2.2.2.2.2.2.length,.fn (.func 50) [] [.ptr (1,7) 0 0]] [(1,18),(1,7)] ([(PL f)]++[(KE d)]) (fun z=>.ref (1,18) 0 0 z.length) (fun z=>[kk 18 65 8 (Af Ap z)]) [] (fun z=>trivial) (trivial) (fun z j r g=>Eg (ZX2 f.2.2.2.2.2.2 (fun(z0:Slt)=>fv z0 d.1)) j co g [(PL f)] [(KE d)] [kk 18 65 8 (Af Ap z)] (AN [(1,.fn (.func 50) [] [.ptr (r.κ (1,7)) (r.γ (1,7)+0) 0])]) (fun n hg p=>(fun z0 y j=>D1 (ZY3 z0 d.1) j co g [(KE d)] [(PL f)] hg (by simp) (fun _=>.top) (fun _ _=>trivial) (fun l H=>⟨fun _=>⟨rfl,by kernel_rfl⟩,by kernel_rfl,trivial⟩))) (fun H=>⟨fun _=>⟨rfl,BA (A2 _ _) (by kernel_rfl)⟩,by kernel_rfl,trivial⟩) (fun H=>⟨fun _=>⟨rfl,BA (A2 _ _) (by kernel_rfl)⟩,by kernel_rfl,trivial⟩)) fun m hm=>Bf co Aa (xl f m) (Ae [5,6] [((1,5),false),((1,6),false),((1,18),true)]) hm c fun r g=>fun _ hm c=>Ao co Aa Ac (yM f m) hm c fun r g=>id))))
def fk:Nat→Scm→ByteArray→Val→Option (Val)
 |0=>fun _ _ _=>none
 |a+1=>ZYT (fk a)
theorem z8:∀(d:Nat) (a:Scm) (b:ByteArray) (c:Val),KC Tryz.prog 23 [.agg ((Al a).map .d),vS b,.agg ((Ag c).map .d)] (fk d a b c) K3
 |0,a,b,c=>⟨fun _ _ _ h=>(by cases h),by intro r;kernel_rfl,by intro r y;kernel_rfl⟩
 |d+1,a,b,c=>ZWT (fk d) (z8 d) a b c
abbrev Ec:ByteArray:=⟨#[97,46,77]⟩
abbrev LB:ByteArray:=⟨#[117]⟩
abbrev JD:Scm:=(.mk ([(.mk Ec ([(.mk 1 ⟨#[110]⟩ 2 0 (.mk 4 ⟨#[]⟩:Typ) ⟨#[]⟩ true (.mk 4 7 ⟨#[]⟩ ([]:List Val) ([]:List Pr) ([]:List Slt) ([]:List Raw):Val) ([]:List Nt):Fld),(.mk 2 ⟨#[112]⟩ 2 0 (.mk 7 ⟨#[]⟩:Typ) LB false (.mk 0 0 ⟨#[]⟩ ([]:List Val) ([]:List Pr) ([]:List Slt) ([]:List Raw):Val) ([]:List Nt):Fld),(.mk 3 ⟨#[113]⟩ 2 0 (.mk 7 ⟨#[]⟩:Typ) LB false (.mk 0 0 ⟨#[]⟩ ([]:List Val) ([]:List Pr) ([]:List Slt) ([]:List Raw):Val) ([]:List Nt):Fld)]:List Fld) ([]:List Spn) ([]:List ByteArray) ([]:List Nt):Msg)]:List Msg) ([]:List Enm) ([]:List Svc):Scm)
abbrev JJ:Msg:=(.mk Ec ([(.mk 1 ⟨#[110]⟩ 2 0 (.mk 4 ⟨#[]⟩:Typ) ⟨#[]⟩ true (.mk 4 7 ⟨#[]⟩ ([]:List Val) ([]:List Pr) ([]:List Slt) ([]:List Raw):Val) ([]:List Nt):Fld),(.mk 2 ⟨#[112]⟩ 2 0 (.mk 7 ⟨#[]⟩:Typ) LB false (.mk 0 0 ⟨#[]⟩ ([]:List Val) ([]:List Pr) ([]:List Slt) ([]:List Raw):Val) ([]:List Nt):Fld),(.mk 3 ⟨#[113]⟩ 2 0 (.mk 7 ⟨#[]⟩:Typ) LB false (.mk 0 0 ⟨#[]⟩ ([]:List Val) ([]:List Pr) ([]:List Slt) ([]:List Raw):Val) ([]:List Nt):Fld)]:List Fld) ([]:List Spn) ([]:List ByteArray) ([]:List Nt):Msg)
abbrev E8:Bool→AV:=fun y=>vB y
def ZXI:PT 0 (Bool):=wg<|wg<|wg<|wg<|wg<|vw .sep<|wg<|wg<|vw .sep<|wg<|wg<|wg<|wg<|cl ((K_9 JD Ec (.mk 10 0 ⟨#[]⟩ ([]:List Val) ([]:List Pr) ([]:List Slt) ([]:List Raw):Val) 1).nrm (fun _ _ _ h=>.nrm h) (xs':=[.agg [.d (.list [AB JJ]),.e0,.e0],vS Ec,.agg [vI 10,.d (.int .u64 0),vS ⟨#[]⟩,.e0,.e0,.e0,.e0],vI 1]) (by intro r;kernel_rfl)) fun b=>wg<|wg<|wg<|cl ((ZY0 JD Ec (.mk 10 0 ⟨#[]⟩ ([]:List Val) ([]:List Pr) ([]:List Slt) ([]:List Raw):Val) 2 (.mk 7 0 ⟨#[97]⟩ ([]:List Val) ([]:List Pr) ([]:List Slt) ([]:List Raw):Val)).nrm (fun _ _ _ h=>.nrm h) (xs':=[.agg [.d (.list [AB JJ]),.e0,.e0],vS Ec,.agg [vI 10,.d (.int .u64 0),vS ⟨#[]⟩,.e0,.e0,.e0,.e0],vI 2,.agg [vI 7,.d (.int .u64 0),vS ⟨#[97]⟩,.e0,.e0,.e0,.e0]]) (by intro r;kernel_rfl)) fun c=>wg<|wg<|wg<|cl ((ZY0 JD Ec c.1 3 (.mk 7 0 ⟨#[]⟩ ([]:List Val) ([]:List Pr) ([]:List Slt) ([]:List Raw):Val)).nrm (fun _ _ _ h=>.nrm h) (xs':=[.agg [.d (.list [AB JJ]),.e0,.e0],vS Ec,.agg ((Ag c.1).map .d),vI 3,.agg [vI 7,.d (.int .u64 0),vS ⟨#[]⟩,.e0,.e0,.e0,.e0]]) (by intro r;kernel_rfl)) fun g=>wg<|wg<|wg<|cl ((Z0b JD Ec g.1 LB).nrm (fun _ _ _ h=>.nrm h) (xs':=[.agg [.d (.list [AB JJ]),.e0,.e0],vS Ec,.agg ((Ag g.1).map .d),vS LB]) (by intro r;kernel_rfl)) fun e=>wg<|cl ((ZXm JD Ec).nrm (fun _ _ _ h=>.nrm h) (xs':=[.agg [.d (.list [AB JJ]),.e0,.e0],vS Ec]) (by intro r;kernel_rfl)) fun a=>wg<|wg<|wg<|cl ((ZYz Ai JD Ec (.mk 10 0 ⟨#[]⟩ ([]:List Val) ([]:List Pr) ([]:List Slt) ([]:List Raw):Val)).nrm (fun _ _ _ h=>.nrm h) (xs':=[.agg [.d (.list [AB JJ]),.e0,.e0],vS Ec,.agg [vI 10,.d (.int .u64 0),vS ⟨#[]⟩,.e0,.e0,.e0,.e0]]) (by intro r;kernel_rfl)) fun n=>wg<|wg<|vy (!(((((!decide (b.2=(0:Int)))||(!decide (c.2=(0:Int))))||(!decide (g.2=(0:Int))))||(!decide (e.2=(0:Int))))||(!a.2))) (Ah c.1.slots)<|wg<|vy (!((((((!decide (b.2=(0:Int)))||(!decide (c.2=(0:Int))))||(!decide (g.2=(0:Int))))||(!decide (e.2=(0:Int))))||(!a.2))||(!decide ((c.1.slots.length:Int)=(1:Int))))) (Ah g.1.slots)<|wg<|vy (!(((((((!decide (b.2=(0:Int)))||(!decide (c.2=(0:Int))))||(!decide (g.2=(0:Int))))||(!decide (e.2=(0:Int))))||(!a.2))||(!decide ((c.1.slots.length:Int)=(1:Int))))||(!decide ((g.1.slots.length:Int)=(1:Int))))) (Ah n.slots)<|bF ((((((((!decide (b.2=(0:Int)))||(!decide (c.2=(0:Int))))||(!decide (g.2=(0:Int))))||(!decide (e.2=(0:Int))))||(!a.2))||(!decide ((c.1.slots.length:Int)=(1:Int))))||(!decide ((g.1.slots.length:Int)=(1:Int))))||(!decide ((n.slots.length:Int)=(1:Int))))<|wg<|wg<|AS (decide (b.1.bits=(7:Int))) c.1.slots 0 fun f=>wg<|AS (decide (b.1.bits=(7:Int))&&decide (f.num=(2:Int))) g.1.slots 0 fun i=>wg<|wg<|vy ((((decide (b.1.bits=(7:Int))&&decide (f.num=(2:Int)))&&decide (i.num=(3:Int)))&&decide (e.1=(3:Int)))&&decide (a.1.kind=(10:Int))) (Ah a.1.slots)<|wg<|AS (((((decide (b.1.bits=(7:Int))&&decide (f.num=(2:Int)))&&decide (i.num=(3:Int)))&&decide (e.1=(3:Int)))&&decide (a.1.kind=(10:Int)))&&decide ((a.1.slots.length:Int)=(0:Int))) n.slots 0 fun k=>wg<|wg<|AC ((((((decide (b.1.bits=(7:Int))&&decide (f.num=(2:Int)))&&decide (i.num=(3:Int)))&&decide (e.1=(3:Int)))&&decide (a.1.kind=(10:Int)))&&decide ((a.1.slots.length:Int)=(0:Int)))&&decide (k.val.bits=(7:Int))) ((z8 Ai JD Ec n).nrm (fun _ _ _ h=>.nrm h) (xs':=[.agg [.d (.list [AB JJ]),.e0,.e0],vS Ec,.agg ((Ag n).map .d)]) (by intro r;kernel_rfl)) fun d=>vy ((((((decide (b.1.bits=(7:Int))&&decide (f.num=(2:Int)))&&decide (i.num=(3:Int)))&&decide (e.1=(3:Int)))&&decide (a.1.kind=(10:Int)))&&decide ((a.1.slots.length:Int)=(0:Int)))&&decide (k.val.bits=(7:Int))) (Ah d.slots)<|wg<|AC (((((((decide (b.1.bits=(7:Int))&&decide (f.num=(2:Int)))&&decide (i.num=(3:Int)))&&decide (e.1=(3:Int)))&&decide (a.1.kind=(10:Int)))&&decide ((a.1.slots.length:Int)=(0:Int)))&&decide (k.val.bits=(7:Int)))&&decide ((d.slots.length:Int)=(0:Int))) (dt c.1 2) fun j=>wg<|AC ((((((((decide (b.1.bits=(7:Int))&&decide (f.num=(2:Int)))&&decide (i.num=(3:Int)))&&decide (e.1=(3:Int)))&&decide (a.1.kind=(10:Int)))&&decide ((a.1.slots.length:Int)=(0:Int)))&&decide (k.val.bits=(7:Int)))&&decide ((d.slots.length:Int)=(0:Int)))&&j) (dt c.1 1) fun l=>wg<|AC (((((((((decide (b.1.bits=(7:Int))&&decide (f.num=(2:Int)))&&decide (i.num=(3:Int)))&&decide (e.1=(3:Int)))&&decide (a.1.kind=(10:Int)))&&decide ((a.1.slots.length:Int)=(0:Int)))&&decide (k.val.bits=(7:Int)))&&decide ((d.slots.length:Int)=(0:Int)))&&j)&&(!l)) (dq c.1 2) fun m=>vy (((((((((decide (b.1.bits=(7:Int))&&decide (f.num=(2:Int)))&&decide (i.num=(3:Int)))&&decide (e.1=(3:Int)))&&decide (a.1.kind=(10:Int)))&&decide ((a.1.slots.length:Int)=(0:Int)))&&decide (k.val.bits=(7:Int)))&&decide ((d.slots.length:Int)=(0:Int)))&&j)&&(!l)) (Ah m.slots)<|lr E8 nG ((((((((((decide (b.1.bits=(7:Int))&&decide (f.num=(2:Int)))&&decide (i.num=(3:Int)))&&decide (e.1=(3:Int)))&&decide (a.1.kind=(10:Int)))&&decide ((a.1.slots.length:Int)=(0:Int)))&&decide (k.val.bits=(7:Int)))&&decide ((d.slots.length:Int)=(0:Int)))&&j)&&(!l))&&decide ((m.slots.length:Int)=(0:Int)))
def Zc2:Option (Bool):=(ZXI).m
theorem Xo:KC Tryz.prog 8 [] (Zc2) E8:=As Tryz.func8 Tryz.ntmps8 Aa [.tmp 0] fun C co y hm a b=>Ao co Aa Ac (ZXI) hm b fun r g=>fun k=>fun l=>fun m=>fun n=>fun o=>fun p=>fun h=>fun i=>fun j=>fun c=>fun d=>fun e=>fun f=>id
abbrev RR:Ad×Blk:=kk 4 61 5 [vS ⟨#[]⟩,.e0,.e0,.e0,.e0]
abbrev Zd(a:Scm):Ad×Blk:=kk 2 26 3 (cD (Al a))
abbrev Qn:Msg×Int→AV:=fun y=>.tup [.agg ((AB y.1).map .d),vI y.2]
def yW(a:Scm)(b:ByteArray):Nat→St:=fun c=>Ab [(1,vS b),pp 2,pp 4,(6,vN c)] [(Zd a),RR]
def zh:Unit→Nat×St:=fun _=>(0,Ab [pp 4] [RR])
def V6(b:Scm)(c:ByteArray)(a:Nat):PT 0 (Lv (Nat) (Unit) (Msg×Int)):=wg<|vz (Ah b.messages)<|br (decide ((a:Int)<(b.messages.length:Int))) (wg<|ix b.messages a fun d=>br (decide (d.name=c)) (wg<|ix b.messages a fun e=>wg<|Au Qn nG (e,(a:Int))) (vs (wa a 1)<|ln (yW b c) (a+1))) (Aj (zh) ())
def PP(a:Scm)(b:ByteArray):Nat→Option (Lv (Nat) (Unit) (Msg×Int)):=fun c=>(V6 a b c).m
def bo:PT 0 (Msg×Int):=wg<|lr Qn nG ((.mk ⟨#[]⟩ [] [] [] []:Msg),(-1))
def Zl(a:Scm)(b:ByteArray):PT 0 (Msg×Int):=lc (Ab [(1,vS b),pp 2,pp 4,(6,vI 0)] [(Zd a),RR]) ((Am (PP a b) Ai 0).bind (Sum.elim (fun _=>(bo).m) some))
def ZR(a:Scm)(b:ByteArray):PT 0 (Msg×Int):=lc (Ab [(1,vS b),pp 2,pp 4] [(Zd a),RR]) ((Zl a b).m)
def ej(a:Scm)(b:ByteArray):Option (Msg×Int):=(ZR a b).m
theorem ZJH{C:Cx}(co:CO C 0)(a:Scm)(b:ByteArray):KL Tryz.prog (Az tl) 29 C (pa [0,0,1,0,1] (Aw Tryz.f35)) [.cell 4 61,.tmp 5] 0 (yW a b) (zh) Qn nG (PP a b):=fun f _ hm Q c e d=>Av co Aa Ac (V6 a b f) (Ae [1,2,4,6] FY) (Ae [4] D9) e hm d fun r g=>⟨fun h=>⟨fun i=>id,id⟩,id⟩
theorem ZXY(b:Scm)(c:ByteArray):KC Tryz.prog 35 [.agg ((Al b).map .d),vS c] (ej b c) Qn:=As Tryz.func35 Tryz.ntmps35 Aa [.cell 4 61,.tmp 5] fun C co y hm d a=>Ak co Aa Ac 1 (ZR b c) (Ae [1,2,4] FY) nl nH hm a fun r g=>fun _ hm a=>sq (Ak co Aa Ac 1 (Zl b c) (Ae [1,2,4,6] FY) nl nH hm a fun r g=>fun _ hm a=>bk 0 (lo (AF (ZJH co b c) nH hm a (fun _ hm=>Ao co Aa Ac (bo) hm a fun r g=>id))))
abbrev HT:List (Ad×Bool):=[((1,2),false),((1,15),true)]
abbrev HN(a:Scm):Ad×Blk:=kk 2 26 3 (cD (Al a))
abbrev MW(a:List Int):Ad×Blk:=kk 15 3 1 (Af Cr a)
abbrev Qo:List Int→AV:=fun y=>vL Cr y
def zg(b:Scm)(c:List Int):Nat×List Int→St:=fun(d,a)=>Ab [(1,vL Cr c),pp 2,(5,.ref (1,15) 0 0 a.length),(6,vN d)] [(HN b),(MW a)]
def xM:List Int→Nat×St:=fun a=>(0,Ab [(5,.ref (1,15) 0 0 a.length)] [kk 15 3 1 (Af Cr a)])
def PC(b:Scm)(c:List Int)(d:Nat)(a:List Int):Int×Nat→St:=fun(v3,v4)=>Ab [(1,vL Cr c),pp 2,(5,.ref (1,15) 0 0 a.length),(6,vN d),(7,vI v3),(8,vN v4)] [(HN b),(MW a)]
def xT(c:Scm)(d:List Int)(e:Nat)(b:List Int):Int→Nat×St:=fun a=>(2,Ab [(1,vL Cr d),pp 2,(5,.ref (1,15) 0 0 b.length),(6,vN e),(7,vI a)] [(HN c),(MW b)])
def HJ(b:Scm)(c:List Int)(d:Nat)(a:List Int)(v3:Int)(v4:Nat):PT 0 (Lv (Int×Nat) (Int) (List Int)):=wg<|ix b.messages d fun h=>vz (Ah h.fields)<|br (decide ((v4:Int)<(h.fields.length:Int))&&decide ((0:Int)≤v3)) (wg<|ix b.messages d fun i=>ix i.fields v4 fun g=>wg<|wg<|wg<|br ((!decide (g.card=(1:Int)))||(!decide (g.type.kind=(10:Int)))) (vs (wa v4 1)<|vz (fl a)<|ln (PC b c d a) (v3,v4+1)) (wg<|wg<|cl (ZXY b g.type.name) fun e=>wg<|AS (decide ((0:Int)≤e.2)) c e.2 fun j=>br (decide ((0:Int)≤e.2)&&decide (j=(0:Int))) (vs (wa v4 1)<|vz (fl a)<|ln (PC b c d a) ((-1),v4+1)) (br (decide ((0:Int)≤e.2)) (CF c e.2 fun f=>vs (wa v4 1)<|vz (fl a)<|ln (PC b c d a) ((C5 true v3 f),v4+1)) (vs (wa v4 1)<|vz (fl a)<|ln (PC b c d a) (v3,v4+1))))) (vz (fl a)<|Aj (xT b c d a) v3)
def Gi(a:Scm)(b:List Int)(d:Nat)(c:List Int):Int×Nat→Option (Lv (Int×Nat) (Int) (List Int)):=fun(v3,v4)=>(HJ a b d c v3 v4).m
def Wa(d:Scm)(e:List Int)(b:Nat)(c:List Int)(a:Int):PT 0 (Lv (Nat×List Int) (List Int) (List Int)):=vs (wa b 1)<|vz (fl (c.set b (a+1)))<|ln (zg d e) (b+1,c.set b (a+1))
def Rq(d:Scm)(e:List Int)(c:Nat)(b:List Int)(a:Int):PT 0 (Lv (Nat×List Int) (List Int) (List Int)):=vs (wi (a+1))<|vs (ir c b.length 1)<|vs (st b c ((a+1):Int))<|rn 5 15 b.length (b.set c (a+1))<|vz (fl (b.set c (a+1)))<|lc (Ab [(1,vL Cr e),pp 2,(5,.ref (1,15) 0 0 (b.set c (a+1)).length),(6,vN c)] [(HN d),kk 15 3 1 (Af Cr (b.set c (a+1)))]) ((Wa d e c b a).m)
def Re(b:Scm)(c:List Int)(d:Nat)(a:List Int):PT 0 (Lv (Nat×List Int) (List Int) (List Int)):=vz (fl a)<|lc (Ab [(1,vL Cr c),pp 2,(5,.ref (1,15) 0 0 a.length),(6,vN d),(7,vI 0),(8,vI 0)] [(HN b),(MW a)]) ((Am (Gi b c d a) Ai (0,0)).bind (Sum.elim (fun e=>(Rq b c d a e).m) (fun z=>some (.rt z))))
def Wy(b:Scm)(c:List Int)(d:Nat)(a:List Int):PT 0 (Lv (Nat×List Int) (List Int) (List Int)):=vz (fl a)<|lc (Ab [(1,vL Cr c),pp 2,(5,.ref (1,15) 0 0 a.length),(6,vN d),(7,vI 0)] [(HN b),(MW a)]) ((Re b c d a).m)
def Wj(c:Scm)(d:List Int)(b:Nat)(a:List Int):PT 0 (Lv (Nat×List Int) (List Int) (List Int)):=vz (A7 a.length)<|br (decide ((b:Int)<(a.length:Int))) (vz (fl a)<|lc (Ab [(1,vL Cr d),pp 2,(5,.ref (1,15) 0 0 a.length),(6,vN b)] [(HN c),(MW a)]) ((Wy c d b a).m)) (vz (fl a)<|Aj (xM) a)
def PQ(a:Scm)(b:List Int):Nat×List Int→Option (Lv (Nat×List Int) (List Int) (List Int)):=fun(d,c)=>(Wj a b d c).m
def bp(a:List Int):PT 0 (List Int):=vz (fr a)<|lr Qo nG a
def bf(a:Scm)(c:List Int):PT 0 (List Int):=vz (fl (List.replicate a.messages.length (0:Int)))<|lc (Ab [(1,vL Cr c),pp 2,(5,.ref (1,15) 0 0 (List.replicate a.messages.length (0:Int)).length),(6,vI 0)] [(HN a),kk 15 3 1 (Af Cr (List.replicate a.messages.length (0:Int)))]) ((Am (PQ a c) Ai (0,List.replicate a.messages.length (0:Int))).bind (Sum.elim (fun b=>(bp b).m) some))
def bD(a:Scm)(b:List Int):PT 0 (List Int):=wg<|vz (Ah a.messages)<|ms a.messages.length (0:Int) [vI 0] (by first|rfl|kernel_rfl)<|vz (fl (List.replicate a.messages.length (0:Int)))<|lc (Ab [(1,vL Cr b),pp 2,(5,.ref (1,15) 0 0 (List.replicate a.messages.length (0:Int)).length)] [(HN a),kk 15 3 1 (Af Cr (List.replicate a.messages.length (0:Int)))]) ((bf a b).m)
def ei(a:Scm)(b:List Int):Option (List Int):=(bD a b).m
theorem ZJX{C:Cx}(co:CO C 0)(a:Scm)(b:List Int)(d:Nat)(c:List Int):KL Tryz.prog (Az tl) 86 C (pa [0,0,1,0,1,0,0,1,0,0,1,0,1,1] (Aw Tryz.f36)) [.tmp 4] 0 (PC a b d c) (xT a b d c) Qo nG (Gi a b d c):=fun(v3,v4) _ hm Q e i h=>Av co Aa Ac (HJ a b d c v3 v4) (Ae [1,2,5,6,7,8] HT) (Ae [1,2,5,6,7] HT) i hm h fun r g=>fun j=>⟨fun k=>fun l=>⟨id,fun n=>fun m=>⟨id,⟨fun f=>id,id⟩⟩⟩,id⟩
theorem ZHv{C:Cx}(co:CO C 0)(b:Scm)(c:List Int):KL Tryz.prog (Az tl) 86 C (pa [0,0,1,0,1,1] (Aw Tryz.f36)) [.tmp 4] 0 (zg b c) (xM) Qo nG (PQ b c):=fun(f,e) _ hm Q i d a=>Ak co Aa Ac 1 (Wj b c f e) (Ae [1,2,5,6] HT) (Ae [5] [((1,15),true)]) d hm a fun r g=>⟨fun _ hm a=>sq (bk 1 (Ak co Aa Ac 1 (Wy b c f e) (Ae [1,2,5,6,7] HT) nl d hm a fun r g=>fun _ hm a=>sq (Ak co Aa Ac 1 (Re b c f e) (Ae [1,2,5,6,7,8] HT) nl d hm a fun r g=>fun _ hm a=>bk 2 (lo (Fp (ZJX co b c f e) d hm a (fun h hm=>Av co Aa Ac (Rq b c f e h) (Ae [1,2,5,6] HT) nl d hm a fun r g=>fun _ hm a=>Av co Aa Ac (Wa b c f e h) (Ae [1,2,5,6] HT) nl d hm a fun r g=>id)))))),id⟩
theorem ZZS(b:Scm)(c:List Int):KC Tryz.prog 36 [.agg ((Al b).map .d),vL Cr c] (ei b c) Qo:=As Tryz.func36 Tryz.ntmps36 Aa [.tmp 4] fun C co y hm e a=>Ak co Aa Ac 2 (bD b c) (Ae [1,2,5] HT) nl nH hm a fun r g=>fun _ hm a=>sq (Ak co Aa Ac 1 (bf b c) (Ae [1,2,5,6] HT) nl nH hm a fun r g=>fun _ hm a=>bk 0 (lo (AF (ZHv co b c) nH hm a (fun d hm=>Ao co Aa Ac (bp d) hm a fun r g=>id))))
abbrev Wq(a:Scm):Ad×Blk:=kk 2 26 3 (cD (Al a))
abbrev Qk:Int→AV:=fun y=>vI y
def yG(a:Scm)(b:Msg×Int):List Int×Nat→St:=fun(v2,v3)=>Ab [pp 2,(6,vI b.2),(7,vL Cr v2),(8,vN v3)] [(Wq a)]
def wI(a:Msg×Int):List Int→Nat×St:=fun v5=>(0,Ab [(6,vI a.2),(7,vL Cr v5)] [])
def Wb(a:Scm)(b:Msg×Int)(v2:List Int)(v3:Nat):PT 0 (Lv (List Int×Nat) (List Int) (Int)):=wg<|vz (Ah a.messages)<|br (decide ((v3:Int)<(a.messages.length:Int))) (wg<|cl (ZZS a v2) fun c=>vs (wa v3 1)<|ln (yG a b) (c,v3+1)) (Aj (wI b) v2)
def PU(a:Scm)(b:Msg×Int):List Int×Nat→Option (Lv (List Int×Nat) (List Int) (Int)):=fun(v2,v3)=>(Wb a b v2 v3).m
def Wn(b:Msg×Int)(v5:List Int):PT 0 (Int):=CF v5 b.2 fun a=>lr Qk nG a
def Ws(a:Scm)(b:Msg×Int):PT 0 (Int):=vw (.frz 20 [(7,((List.replicate a.messages.length (0:Int)).map Cr))] [])<|vz (fz (List.replicate a.messages.length (0:Int)))<|lc (Ab [pp 2,(6,vI b.2),(7,vL Cr (List.replicate a.messages.length (0:Int))),(8,vI 0)] [(Wq a)]) ((Am (PU a b) Ai (List.replicate a.messages.length (0:Int),0)).bind (Sum.elim (fun v5=>(Wn b v5).m) some))
def RQ(a:Scm)(b:Msg×Int):PT 0 (Int):=vz (fl (List.replicate a.messages.length (0:Int)))<|lc (Ab [pp 2,(6,vI b.2),(7,.ref (1,20) 0 0 (List.replicate a.messages.length (0:Int)).length),(8,vI 0)] [(Wq a),kk 20 3 1 (Af Cr (List.replicate a.messages.length (0:Int)))]) ((Ws a b).m)
def Wd(a:Scm)(c:ByteArray):PT 0 (Int):=wg<|cl (ZXY a c) fun b=>wg<|br (decide (b.2<(0:Int))) (lr Qk nG 0) (wg<|vz (Ah a.messages)<|ms a.messages.length (0:Int) [vI 0] (by first|rfl|kernel_rfl)<|vz (fl (List.replicate a.messages.length (0:Int)))<|lc (Ab [pp 2,(6,vI b.2),(7,.ref (1,20) 0 0 (List.replicate a.messages.length (0:Int)).length)] [(Wq a),kk 20 3 1 (Af Cr (List.replicate a.messages.length (0:Int)))]) ((RQ a b).m))
def Tl(a:Scm)(b:ByteArray):Option (Int):=(Wd a b).m
theorem ZMC{C:Cx}(co:CO C 0)(b:Scm)(a:Msg×Int):KL Tryz.prog (Az tl) 35 C (pa [0,0,1,0,1,1,1,1] (Aw Tryz.f14)) [.tmp 4] 0 (yG b a) (wI a) Qk nG (PU b a):=fun(v2,v3) _ hm Q c e d=>Av co Aa Ac (Wb b a v2 v3) (Ae [2,6,7,8] Ee) (AH [6,7]) e hm d fun r g=>⟨fun f=>id,id⟩
theorem ZZK(b:Scm)(d:ByteArray):KC Tryz.prog 14 [.agg ((Al b).map .d),vS d] (Tl b d) Qk:=As Tryz.func14 Tryz.ntmps14 Aa [.tmp 4] fun C co y hm e a=>Ak co Aa Ac 4 (Wd b d) (Ae [2,6,7] [((1,2),false),((1,20),true)]) nl nH hm a fun r g=>fun c=>⟨id,fun _ hm a=>sq (Ak co Aa Ac 1 (RQ b c) (Ae [2,6,7,8] [((1,2),false),((1,20),true)]) nl nH hm a fun r g=>fun _ hm a=>bk 0 (Fh co (Ws b c) (Ae [2,6,7,8] Ee) hm a fun r g=>fun _ hm a=>lo (AF (ZMC co b c) nH hm a (fun v5 hm=>Ao co Aa Ac (Wn c v5) hm a fun r g=>fun f=>id))))⟩
abbrev GQ(a:Val):Ad×Blk:=kk 1 33 7 (cD (Ag a))
abbrev F2:Int→AV:=fun y=>vI y
def yX(a:Val):Int×Nat→St:=fun(b,v2)=>Ab [pp 1,(3,vI b),(4,vN v2)] [(GQ a)]
def yH(a:Val):Int→Nat×St:=fun v5=>(0,Ab [pp 1,(3,vI v5)] [(GQ a)])
def cg(a:Val)(b:Val→Option (Int))(d:Int)(v2:Nat):PT 0 (Lv (Int×Nat) (Int) (Int)):=wg<|vz (Ah a.list)<|br (decide ((v2:Int)<(a.list.length:Int))) (wg<|ix a.list v2 fun c=>cs Tryz.prog 16 [.agg ((Ag c).map .d)] [] [] (b c) (fun y=>vI y) fun e=>vs (wa v2 1)<|ln (yX a) ((C5 true d e),v2+1)) (Aj (yH a) d)
def Rf(b:Val)(a:Val→Option (Int)):Int×Nat→Option (Lv (Int×Nat) (Int) (Int)):=fun(c,v2)=>(cg b a c v2).m
def y0(a:Val):Int×Nat→St:=fun(b,c)=>Ab [pp 1,(3,vI b),(5,vN c)] [(GQ a)]
def wM(b:Val):Int→Nat×St:=fun a=>(2,Ab [pp 1,(3,vI a)] [(GQ b)])
def Z9(a:Val)(b:Val→Option (Int))(g:Int)(d:Nat):PT 0 (Lv (Int×Nat) (Int) (Int)):=wg<|vz (Ah a.pairs)<|br (decide ((d:Int)<(a.pairs.length:Int))) (wg<|ix a.pairs d fun f=>cs Tryz.prog 16 [.agg ((Ag f.key).map .d)] [] [] (b f.key) (fun y=>vI y) fun h=>wg<|ix a.pairs d fun c=>cs Tryz.prog 16 [.agg ((Ag c.val).map .d)] [] [] (b c.val) (fun y=>vI y) fun e=>vs (wa d 1)<|ln (y0 a) ((C5 true (C5 true g h) e),d+1)) (Aj (wM a) g)
def Q3(b:Val)(a:Val→Option (Int)):Int×Nat→Option (Lv (Int×Nat) (Int) (Int)):=fun(c,d)=>(Z9 b a c d).m
def uQ(c:Val):Int×Nat→St:=fun(a,b)=>Ab [pp 1,(3,vI a),(6,vN b)] [(GQ c)]
def y9(b:Val):Int→Nat×St:=fun a=>(4,Ab [pp 1,(3,vI a)] [(GQ b)])
def Rp(c:Val)(e:Val→Option (Int))(d:Int)(a:Nat):PT 0 (Lv (Int×Nat) (Int) (Int)):=wg<|vz (Ah c.slots)<|br (decide ((a:Int)<(c.slots.length:Int))) (wg<|ix c.slots a fun b=>cs Tryz.prog 16 [.agg ((Ag b.val).map .d)] [] [] (e b.val) (fun y=>vI y) fun f=>vs (wa a 1)<|ln (uQ c) ((C5 true d f),a+1)) (Aj (y9 c) d)
def MV(d:Val)(a:Val→Option (Int)):Int×Nat→Option (Lv (Int×Nat) (Int) (Int)):=fun(b,c)=>(Rp d a b c).m
def XV(b:Val)(a:Int):PT 0 (Int):=wg<|br (decide (b.kind=(10:Int))) (vs (wi (a+1))<|lr F2 nG (a+1)) (lr F2 nG a)
def aL(c:Val)(b:Val→Option (Int))(a:Int):PT 0 (Int):=lc (Ab [pp 1,(3,vI a),(6,vI 0)] [(GQ c)]) ((Am (MV c b) Ai (a,0)).bind (Sum.elim (fun d=>(XV c d).m) some))
def Z2(b:Val)(a:Val→Option (Int))(v5:Int):PT 0 (Int):=lc (Ab [pp 1,(3,vI v5),(5,vI 0)] [(GQ b)]) ((Am (Q3 b a) Ai (v5,0)).bind (Sum.elim (fun c=>(aL b a c).m) some))
def bE(b:Val)(a:Val→Option (Int)):PT 0 (Int):=lc (Ab [pp 1,(3,vI 0),(4,vI 0)] [(GQ b)]) ((Am (Rf b a) Ai (0,0)).bind (Sum.elim (fun v5=>(Z2 b a v5).m) some))
def ZQ(b:Val)(a:Val→Option (Int)):PT 0 (Int):=lc (Ab [pp 1,(3,vI 0)] [(GQ b)]) ((bE b a).m)
def LQ(a:Val→Option (Int))(b:Val):Option (Int):=(ZQ b a).m
theorem ZMb{C:Cx}(co:CO C 0)(b:Val)(a:Val→Option (Int))(d:∀(b:Val),KC Tryz.prog 16 [.agg ((Ag b).map .d)] (a b) F2):KL Tryz.prog (Az tl) 67 C (pa [0,0,1,0,1,1] (Aw Tryz.f16)) [.tmp 2] 0 (yX b) (yH b) F2 nG (Rf b a):=fun(j,v2) _ hm Q e i h=>Av co Aa Ac (cg b a j v2) (Ae [1,3,4] BC) (Ae [1,3] BC) i hm h fun r g=>⟨fun c=>⟨fun y hy f _ _=>by rw[(d c).x,(d c).e];exact(d c).k _ f y hy,fun k=>id⟩,id⟩
theorem ZKy{C:Cx}(co:CO C 0)(c:Val)(a:Val→Option (Int))(d:∀(c:Val),KC Tryz.prog 16 [.agg ((Ag c).map .d)] (a c) F2):KL Tryz.prog (Az tl) 67 C (pa [0,0,1,0,1,1,1] (Aw Tryz.f16)) [.tmp 2] 0 (y0 c) (wM c) F2 nG (Q3 c a):=fun(k,l) _ hm Q h j i=>Av co Aa Ac (Z9 c a k l) (Ae [1,3,5] BC) (Ae [1,3] BC) j hm i fun r g=>⟨fun f=>⟨fun y hy e _ _=>by rw[(d f.key).x,(d f.key).e];exact(d f.key).k _ e y hy,fun n=>fun b=>⟨fun y hy e _ _=>by rw[(d b.val).x,(d b.val).e];exact(d b.val).k _ e y hy,fun m=>id⟩⟩,id⟩
theorem ZKx{C:Cx}(co:CO C 0)(c:Val)(a:Val→Option (Int))(d:∀(c:Val),KC Tryz.prog 16 [.agg ((Ag c).map .d)] (a c) F2):KL Tryz.prog (Az tl) 67 C (pa [0,0,1,0,1,1,1,1] (Aw Tryz.f16)) [.tmp 2] 0 (uQ c) (y9 c) F2 nG (MV c a):=fun(e,f) _ hm Q h k j=>Av co Aa Ac (Rp c a e f) (Ae [1,3,6] BC) (Ae [1,3] BC) k hm j fun r g=>⟨fun b=>⟨fun y hy i _ _=>by rw[(d b.val).x,(d b.val).e];exact(d b.val).k _ i y hy,fun l=>id⟩,id⟩
theorem ZVP(a:Val→Option (Int))(d:∀(b:Val),KC Tryz.prog 16 [.agg ((Ag b).map .d)] (a b) F2)(b:Val):KC Tryz.prog 16 [.agg ((Ag b).map .d)] (LQ a b) F2:=As Tryz.func16 Tryz.ntmps16 Aa [.tmp 2] fun C co y hm h c=>Ak co Aa Ac 2 (ZQ b a) (Ae [1,3] BC) nl nH hm c fun r g=>fun _ hm c=>sq (Ak co Aa Ac 1 (bE b a) (Ae [1,3,4] BC) nl nH hm c fun r g=>fun _ hm c=>bk 0 (lo (AF (ZMb co b a d) nH hm c (fun v5 hm=>sq (Ak co Aa Ac 1 (Z2 b a v5) (Ae [1,3,5] BC) nl nH hm c fun r g=>fun _ hm c=>bk 2 (lo (AF (ZKy co b a d) nH hm c (fun e hm=>sq (Ak co Aa Ac 1 (aL b a e) (Ae [1,3,6] BC) nl nH hm c fun r g=>fun _ hm c=>bk 4 (lo (AF (ZKx co b a d) nH hm c (fun f hm=>Ao co Aa Ac (XV b f) hm c fun r g=>⟨id,id⟩))))))))))))
def Dy:Nat→Val→Option (Int)
 |0=>fun _=>none
 |a+1=>LQ (Dy a)
theorem ZYv:∀(b:Nat) (a:Val),KC Tryz.prog 16 [.agg ((Ag a).map .d)] (Dy b a) F2
 |0,a=>⟨fun _ _ _ h=>(by cases h),by intro r;kernel_rfl,by intro r y;kernel_rfl⟩
 |b+1,a=>ZVP (Dy b) (ZYv b) a
abbrev E4:Bool→AV:=fun y=>vB y
def cZ(b:Scm)(c:ByteArray):PT 0 (Bool):=wg<|cl (K_5 b c) fun i=>br (!i) (cl (Xo) fun j=>lr E4 nG j) (wg<|cl (ZXm b c) fun a=>wg<|wg<|cl (ZZK b c) fun d=>br (!a.2) (wg<|cl ((dD Ai a.1 (.mk 0 0 ⟨#[]⟩ ([]:List Val) ([]:List Pr) ([]:List Slt) ([]:List Raw):Val)).nrm (fun _ _ _ h=>.nrm h) (xs':=[.agg ((Ag a.1).map .d),.agg [vI 0,.d (.int .u64 0),vS ⟨#[]⟩,.e0,.e0,.e0,.e0]]) (by intro r;kernel_rfl)) fun f=>AC f (Xo) fun k=>lr E4 nG (f&&k)) (wg<|wg<|cl (K_7 b c a.1) fun e=>wg<|AC e (ZYv Ai a.1) fun g=>AC ((e&&decide (g=d))&&decide (d≤(16:Int))) (Xo) fun l=>lr E4 nG (((e&&decide (g=d))&&decide (d≤(16:Int)))&&l)))
def eC(a:Scm)(b:ByteArray):Option (Bool):=(cZ a b).m
theorem K_4(a:Scm)(b:ByteArray):KC Tryz.prog 4 [.agg ((Al a).map .d),vS b] (eC a b) E4:=As Tryz.func4 Tryz.ntmps4 Aa [.tmp 4] fun C co y hm c d=>Ao co Aa Ac (cZ a b) hm d fun r g=>fun e=>⟨fun f=>id,fun h=>fun i=>⟨fun j=>fun k=>id,fun l=>fun m=>fun n=>id⟩⟩
end Go.Proofs.YthgmbpciandpiaaGreat
namespace Go.Proofs.YthgmbpciandpiaaGreat
set_option linter.all false
open Go Go.Eng Go.ChangeShapes Go.WideShapes Go.ChangeAt Go.RowKit
theorem ZpF{H:Type}(b:List UInt8):Rows.uptoBulk (DataW.lit (H:=H) (.string b))=b.length+1:=by simp only[Rows.uptoBulk]
theorem Zql{H:Type}(a b:List (DataW H)):Rows.uptoBulk (.slice a b)=Rows.uptoBulkAll a+Rows.uptoBulkAll b+1:=by simp only[Rows.uptoBulk]
theorem ZA9{H:Type}(a:List (DataW H)):Rows.uptoBulk (.agg a)=Rows.uptoBulkAll a+1:=by simp only[Rows.uptoBulk]
def I9(W:World)(ds:List D)(cs:List Value)(o:Nat):Prop:=∀(i:Nat) (d:D),ds[i]?=some d→∃c,cs[o+i]?=some c∧RepD W (· <W.heap.size) d c
def KP(W:World)(ds:List D)(cs:List Value):Prop:=ds.length=cs.length∧I9 W ds cs 0
theorem I9.app{W:World}{ds es:List D}{cs:List Value}{o:Nat}(h:I9 W ds cs o)(k:I9 W es cs (o+ds.length)):I9 W (ds++es) cs o:=fun i d hi=>by
 rcases YH i ds.length with hl|hl
 ·rw[Yn hl]at hi;exact h i d hi
 ·rw[Yt hl]at hi
  obtain⟨c,a,b⟩:=k _ d hi
  grind
theorem I9.nil{W:World}{cs:List Value}{o:Nat}:I9 W [] cs o:=fun i d h=>by simp at h
theorem KP.at{W:World}{ds:List D}{cs:List Value}{o k:Nat}(h:KP W ds ((cs.drop o).take k)):I9 W ds cs o:=fun i d hi=>by
 obtain⟨c,a,b⟩:=h.2 i d hi
 grind
def rk(k:IntKind)(n:Int):Nat:=if Lit.wf (.int k n)=true then 0 else 1000000000000
theorem xU{k:IntKind}{n:Int}(h:rk k n≤1048576):k.min≤n∧n≤k.max:=by
 unfold rk at h
 split at h
 ·rename_i a
  unfold Lit.wf at a
  rw[Yc]at a
  exact⟨Y3 a.1,Y3 a.2⟩
 ·omega
mutual
def bk:D→Nat
 |.int k n=>rk k n
 |.bool _=>0
 |.str s=>s.size
 |.list es=>AR es
 |.map _ es=>AR es
def Ar:List D→Nat
 |[]=>0
 |d::l=>bk d+Ar l
def AR:List (List D)→Nat
 |[]=>0
 |e::l=>Ar e+1+AR l
end
theorem Mm:∀a b:List D,Ar (a++b)=Ar a+Ar b
 |[],b=>by rw[Ip,Ar,YJ]
 |d::a,b=>by rw[In,Ar,Ar,Mm a b,YE]
theorem iA(d:D):Ar [d]=bk d:=by rw[Ar,Ar,EA]
theorem CH{α:Type}{e:α→List D}:∀l:List α,l.length≤AR (l.map e)
 |[]=>Ft _
 |x::l=>by have:=CH (e:=e) l;rw[YS,AR,DW];omega
theorem CQ{α:Type}{e:α→List D}{x:α}:∀{l:List α},x∈l→Ar (e x)+1≤AR (l.map e)
 |y::l,h=>by
  rw[YS,AR]
  cases YG.1 h with
  |inl h=>subst h;omega
  |inr h=>have:=CQ (e:=e) h;omega
section
variable {H:Type} (enc:TypeId×Value→H) (P:Program) (W:World)
def Cm{α:Type}(n:Nat)(t:TypeId)(e:α→List D):Prop:=
 ∀cs x,DataW.trod enc P W 0 (fun _=>true) true n t cs=some x→∃v:α,KP W (e v) cs∧Ar (e v)+1≤Rows.uptoBulk x.1
end
section
variable {H:Type} {enc:TypeId×Value→H} {P:Program} {W:World} {n:Nat} {t:TypeId}
theorem gQ(d:DataW H):1≤Rows.uptoBulk d:=by cases d<;>(try (rename_i l;cases l))<;>simp[Rows.uptoBulk]
theorem OR{d:D}{c:Value}(h:RepD W (· <W.heap.size) d c):KP W [d] [c]:=⟨rfl,fun i d' hi=>by
 cases i with
 |zero=>cases hi;exact⟨c,rfl,h⟩
 |succ i=>simp at hi⟩
theorem EF{k:IntKind}(a:P.underlying t=some (.int k)):Cm enc P W n t (fun v:Int=>[.int k v]):=fun cs x c=>by
 obtain⟨m,rfl,rfl,b⟩:=DataW.trod_int a c
 refine⟨m,OR (.int _ _),?_⟩
 rw[iA,bk,rk,Yg b]
 exact gQ _
theorem ZvA(a:P.underlying t=some .bool):Cm enc P W n t (fun v:Bool=>[.bool v]):=fun cs x b=>by
 obtain⟨m,rfl,rfl⟩:=DataW.trod_bool a b
 exact⟨m,OR (.bool _),gQ _⟩
theorem EH(a:P.underlying t=some .string):Cm enc P W n t (fun v:ByteArray=>[.str v]):=fun cs x b=>by
 obtain⟨m,rfl,rfl,_⟩:=DataW.trod_string a b
 refine⟨m,OR (.str _),?_⟩
 rw[ZpF,iA]
 exact Yf _
theorem qa{α:Type}{e:α→List D}:∀(l:List α) (xs:List (DataW H×List MemPlace)),l.length=xs.length→(∀(i:Nat) (v:α),l[i]?=some v→∃y:DataW H×List MemPlace,xs[i]?=some y∧Ar (e v)+1≤Rows.uptoBulk y.1)→AR (l.map e)≤Rows.uptoBulkAll (xs.map (·.1))
 |[],_,_,_=>Ft _
 |x::l,[],h,_=>by cases h
 |x::l,y::xs,h,k=>by
  have:=qa l xs (NR h) (fun i v hi=>k (i+1) v hi)
  obtain⟨c,a,b⟩:=k 0 x rfl
  cases a
  rw[YS,YS,AR]
  simp only[Rows.uptoBulkAll]
  omega
theorem Zsk{α:Type}{Q:Nat→α→Prop}:∀(len:Nat),(∀i,i<len→∃v,Q i v)→∃l:List α,l.length=len∧∀i v,l[i]?=some v→Q i v
 |0,_=>⟨[],rfl,fun i v h=>by simp at h⟩
 |len+1,h=>by
  obtain⟨l,a,b⟩:=Zsk len (fun i hi=>h i (by omega))
  obtain⟨v,c⟩:=h len (by omega)
  refine⟨l++[v],by simp[a],fun i w hi=>?_⟩
  grind
theorem Dn{α:Type}{e:TypeId}{b:α→List D}{sz:Nat}(V:P.underlying t=some (.slice e))(E:P.cellsOf e=sz)(U:sz≠0)(hl:∀x,(b x).length=sz)(h:∀m,m<n→Cm enc P W m e b):
  Cm enc P W n t (fun l:List α=>[.list (l.map b)]):=fun cs x X=>by
 rcases DataW.trod_slice V X with⟨rfl,rfl⟩|⟨a,len,cap,g,rest,m,rfl,rfl,rfl,Z,z,R,T,hi,_,_⟩
 ·exact⟨[],OR .nil,gQ _⟩
 ·have k:∀i,i<len→∃v:α,∃y f,g[i]?=some y∧W.cells? 0 (a.add (i*sz)) sz=some f∧KP W (b v) f∧Ar (b v)+1≤Rows.uptoBulk y.1:=fun i B=>by
   have I:=hi i B
   rw[Ya (by omega),E]at I
   obtain⟨f,M,N⟩:=oO.1 I
   obtain⟨v,O,Q⟩:=h m (by omega) f _ N
   exact⟨v,_,f,Ya (by omega),M,O,Q⟩
  obtain⟨l,A,r⟩:=Zsk len k
  have cell:∀(i j:Nat) (e':List D) (x:D),(l.map b)[i]?=some e'→e'[j]?=some x→∃c,W.cell? (a.add (i*sz+j))=some c∧RepD W (· <W.heap.size) x c:=fun i j e' x d o=>by
   rw[YL]at d
   cases s:l[i]? with
   |none=>rw[s]at d;cases d
   |some v=>
    rw[s]at d
    cases d
    obtain⟨y,f,p,q,F,G⟩:=r i v s
    obtain⟨c,H,J⟩:=F.2 j x o
    rw[YJ]at H
    obtain⟨_,Y,K⟩:=World.cells?_some q
    have u:j<sz:=by
     rw[←hl v]
     rcases YH j (b v).length with h|h
     ·exact h
     ·rw[YK h]at o;cases o
    refine⟨c,?_,J⟩
    rw[←Go.Eng.add_add,K j u,H]
  refine⟨l,OR ?_,?_⟩
  ·have hlen:(l.map b).length=len:=by simp[A]
   have:=RepD.list (w:=W) (S:=(· <W.heap.size)) (l.map b) a sz cap (fun i j=>(W.cell? (a.add (i*sz+j))).getD undef) (fun C=>by
     have L:0<len:=by
      rcases XA len with h|h
      ·exact absurd (Ir (hlen.trans h)) C
      ·exact h
     obtain⟨v,y,f,_,q,_⟩:=k 0 L
     have:=World.cells?_block q (by omega)
     rw[He]at this
     rw[←Go.Eng.block_add a 0];exact this)
    (by rw[hlen];exact z) (fun e' he=>by obtain⟨y,_,rfl⟩:=YI.1 he;exact hl y)
    (fun i j e' x d o=>by obtain⟨c,p,_⟩:=cell i j e' x d o;rw[p];rfl)
    (fun i j e' x d o=>by obtain⟨c,p,q⟩:=cell i j e' x d o;rw[p];exact q)
   rw[hlen]at this
   exact this
  ·rw[Zql,iA,bk]
   have:=qa (e:=b) l g (by omega) (fun i v s=>by
    obtain⟨y,f,p,q,F,G⟩:=r i v s
    exact⟨y,p,G⟩)
   omega
def FB(xs:List (DataW H×List MemPlace))(i:Nat):Nat:=Rows.uptoBulkAll ((xs.drop i).map (·.1))
theorem Bx{xs:List (DataW H×List MemPlace)}{i:Nat}{a b:List D}(h:Ar a+1+FB xs (i+1)≤FB xs i)(k:Ar b≤FB xs (i+1)):Ar (a++b)≤FB xs i:=by
 rw[Mm];omega
theorem EE{xs:List (DataW H×List MemPlace)}{i:Nat}{a:List D}(h:Ar a+1+FB xs (i+1)≤FB xs i):Ar a≤FB xs i:=by omega
theorem EG{xs:List (DataW H×List MemPlace)}{a:List D}(h:Ar a≤FB xs 0):Ar a+1≤Rows.uptoBulk (.agg (xs.map (·.1))):=by
 rw[ZA9];exact Nat.succ_le_succ h
theorem Zz1{α:Type}{e:α→List D}{m i:Nat}{c:TypeId}{a:List Value}{xs:List (DataW H×List MemPlace)}(h:Cm enc P W m c e)(b:DataW.trod enc P W 0 (fun _=>true) true m c a=xs[i]?)(hi:i<xs.length):
  ∃v,KP W (e v) a∧Ar (e v)+1+FB xs (i+1)≤FB xs i:=by
 rw[Ya hi]at b
 obtain⟨v,d,f⟩:=h _ _ b
 refine⟨v,d,?_⟩
 unfold FB
 rw[Jt hi,YS]
 simp only[Rows.uptoBulkAll]
 omega
theorem rf{α:Type}{e:α→List D}{m i k:Nat}{b:TypeId}{a:List Value}{xs:List (DataW H×List MemPlace)}(h:Cm enc P W m b e)(c:DataW.trod enc P W 0 (fun _=>true) true m b a=xs[i]?)(d:xs.length=k)(hi:Nat.blt i k=true:=by kernel_rfl):
  ∃v,KP W (e v) a∧Ar (e v)+1+FB xs (i+1)≤FB xs i:=Zz1 h c (by rw[d];exact Yh hi)
theorem kx{α:Type}{e e':α→List D}(he:∀x,e x=e' x)(h:Cm enc P W n t e'):Cm enc P W n t e:=fun cs x a=>by
 obtain⟨v,b,c⟩:=h cs x a
 grind
theorem ZMD{α:Type}{e:α→List D}{q:Array Field}{r:Reach}{b:Nat}{v:Value}{d:DataW H}{p:List MemPlace}(rd:∀n,Cm enc P W n t e)(w:P.underlying t=some (.struct q))(z:Value.okWide P W r b t v)
  (h:DataW.Trod enc P W 0 (fun _=>true) true t v d p):∃x:α,(∀m l,RepA W (· <W.heap.size) (fun _=>⟨0,false,0,0,[]⟩) m l (.agg ((e x).map .d)) v)∧Ar (e x)+1≤Rows.uptoBulk d:=by
 obtain⟨cs,rfl,_⟩:=okWide_struct w z
 obtain⟨n,u⟩:=h
 obtain⟨x,k,s⟩:=rd n _ _ u
 have hl:(e x).length=cs.size:=by rw[k.1];simp[Value.cells]
 have key:∀(i:Nat) (c:Value),cs[i]?=some c→∃d,(e x)[i]?=some d∧RepD W (· <W.heap.size) d c:=fun i c f=>by
  have g:i<(e x).length:=by
   grind
  obtain⟨j,a,o⟩:=k.2 i _ (Ya g)
  have:j=c:=by
   rw[YJ]at a
   have:cs.toList[i]?=some j:=a
   grind
  grind
 refine⟨x,fun m l=>.agg _ _ (by rw[YC,hl]) (fun i c f=>?_) (fun i y c hy f=>?_),s⟩
 ·obtain⟨d,_,a⟩:=key i c f;exact a.one
 ·obtain⟨d,a,o⟩:=key i c f
  rw[YL,a]at hy
  cases hy
  exact .d _ _ o
theorem ZIc{r:Reach}{a:Nat}{v:Value}{d:DataW H}{p:List MemPlace}(e:P.underlying t=some .string)(g:Value.okWide P W r a t v)(h:DataW.Trod enc P W 0 (fun _=>true) true t v d p):
  ∃x:ByteArray,(∀S Hp m l,RepA W S Hp m l (.d (.str x)) v)∧x.size+1≤Rows.uptoBulk d:=by
 obtain⟨x,rfl⟩:=okWide_string e g
 obtain⟨n,f⟩:=h
 obtain⟨s,b,c,_⟩:=DataW.trod_string e f
 have b:x=s:=by simpa[Value.cells]using b
 subst b
 have c:d=.lit (.string x.data.toList):=congrArg Prod.fst c
 subst c
 refine⟨x,fun _ _ _ _=>.d _ _ (.str _),?_⟩
 rw[ZpF]
 exact Yf _
def oK:Hp:=fun _=>⟨0,false,0,0,[]⟩
theorem ok0(m:Mu):Ok 0 oK m (· <W.heap.size) W:=⟨fun _ h=>h,fun _ _ h=>(by cases h),fun _ _ h=>(by cases h),fun _ _ _ _ h=>(by cases h),fun _ _ h=>(by cases h),⟨fun _ _ h=>(by cases h),fun _ _ h=>(by cases h),fun _ _ _ _ h=>(by cases h)⟩⟩
def ZYF(w:World)(S:Nat→Prop)(Hp:Hp)(m:Mu)(l:Nat):List AV→List Value→Prop
 |[],[]=>True
 |x::xs,v::vs=>RepA w S Hp m l x v∧ZYF w S Hp m l xs vs
 |_,_=>False
theorem ZKq{w:World}{S:Nat→Prop}{Hp:Hp}{m:Mu}{l:Nat}{xs:List AV}{vs:List Value}(h:ZYF w S Hp m l xs vs):Mo w S Hp m l xs vs.toArray:=by
 suffices b:xs.length=vs.length∧∀(i:Nat) (x:AV) (v:Value),xs[i]?=some x→vs[i]?=some v→RepA w S Hp m l x v by
  exact⟨by simpa using b.1,fun i x v f e=>b.2 i x v f (by simpa using e)⟩
 induction xs generalizing vs with
 |nil=>cases vs with
  |nil=>exact⟨rfl,fun i x v h=>by simp at h⟩
  |cons _ _=>exact h.elim
 |cons x xs g=>cases vs with
  |nil=>exact h.elim
  |cons v vs=>
   obtain⟨c,d⟩:=g h.2
   refine⟨by simp[c],fun i y u hy a=>?_⟩
   cases i with
   |zero=>simp at hy a;subst hy;subst a;exact h.1
   |succ i=>exact d i y u (by simpa using hy) (by simpa using a)
theorem Zte{f:Func}{s:ChangeSpec}{n:World}{args:Array Value}{ds z:List (DataW H)}{e:List MemPlace}{u:TypeId}(B:DataW.Whole enc P f.params.toList s.vars false W args.toList ds z e)(c:s.vars=[])
  (k:laidOutB P=true) (y:∀t∈f.params.toList,P.readableRec t=true∧t<P.types.size) (g:f.resultTypes.toList=[u]) (K:P.underlying u=some .bool)
  (j:s.fn H (ds++z)={results:=[.lit (.bool true)],args:=ds }) (m:Below W.heap.size W n):s.post enc P f false true false false W args (.bool true) n:=by
 obtain⟨p,q,F,A,rfl,G,I⟩:=id B
 rw[c]at A
 obtain⟨rfl,rfl⟩:=trodVars_none A
 refine⟨ds,[],p++[],[],p,[],B,?_,?_,?_,?_,fun h=>by cases h⟩
 ·rw[j,g]
  have:(Value.bool true).resultList f.resultTypes.size=[.bool true]:=by
   have:f.resultTypes.size=1:=by rw[←YW,g];rfl
   rw[this];rfl
  rw[this]
  exact trodAll_cons_mk (shut_bool K _) trodAll_mk0
 ·rw[j]
  have key:∀(l:List TypeId) (vs:List Value) (es:List (DataW H)) (ps:List MemPlace),(∀t∈l,P.readableRec t=true∧t<P.types.size)→DataW.TrodAll enc P W 0 (fun _=>true) true l vs es ps→
    DataW.TrodAll enc P n 0 (fun b=>decide (b<W.heap.size)) true l vs es ps:=by
   intro l
   induction l with
   |nil=>intro vs es ps _ h;obtain⟨rfl,rfl,rfl⟩:=trodAll_nil h;exact trodAll_mk0
   |cons t l M=>
    intro vs es ps w h
    have r:=DataW.TrodAll.lt h
    obtain⟨v,N,d,C,a,b,rfl,rfl,rfl,D,E⟩:=trodAll_cons h
    exact trodAll_cons_mk (Below.trod k (w t (by simp)).1 (w t (by simp)).2 D m (fun x L=>r x (Jp _ L))) (M _ _ _ (fun t J=>w t (by simp[J])) E)
  exact key _ _ _ _ y F
 ·rw[c,j];exact rfl
 ·refine⟨m.os,m.output,fun i hi=>?_⟩
  rw[m.block i hi]
  cases W.heap[i]? with
  |none=>rfl
  |some o=>cases o<;>simp
end
end Go.Proofs.YthgmbpciandpiaaGreat
namespace Go.Proofs.YthgmbpciandpiaaGreat
set_option linter.all false
open Go Go.Eng
section
variable {H:Type} {enc:TypeId×Value→H} {W:World}
set_option maxRecDepth 100000
theorem ZTk(n:Nat):Cm enc Tryz.prog W n 87 AZ:=fun cs x h=>by
 obtain⟨xs,m,rfl,rfl,c,a,b⟩:=DataW.trod_struct Tryz.underlying87 h
 obtain⟨v0,i,d⟩:=rf (EF Tryz.underlying3) (b 0 _ rfl) a
 obtain⟨o,j,e⟩:=rf (EF Tryz.underlying3) (b 1 _ rfl) a
 obtain⟨v2,k,f⟩:=rf (EF Tryz.underlying27) (b 2 _ rfl) a
 obtain⟨v3,l,g⟩:=rf (EH Tryz.underlying9) (b 3 _ rfl) a
 have q:=EG (Bx d (Bx e (Bx f (EE g))))
 exact⟨.mk v0 o v2 v3,⟨by rw[c];kernel_rfl,(i.at.app (j.at.app (k.at.app l.at)))⟩,q⟩
theorem ZBa(n:Nat)(h:∀k,k<n→Cm enc Tryz.prog W k 33 Ag):Cm enc Tryz.prog W n 85 Dt:=fun cs x f=>by
 obtain⟨xs,m,rfl,rfl,b,a,c⟩:=DataW.trod_struct Tryz.underlying85 f
 obtain⟨v0,g,d⟩:=rf (h m (by omega)) (c 0 _ rfl) a
 obtain⟨j,i,e⟩:=rf (h m (by omega)) (c 1 _ rfl) a
 have q:=EG (Bx d (EE e))
 exact⟨.mk v0 j,⟨by rw[b];kernel_rfl,(g.at.app i.at)⟩,q⟩
theorem ZwA(n:Nat)(h:∀k,k<n→Cm enc Tryz.prog W k 33 Ag):Cm enc Tryz.prog W n 65 B2:=fun cs x f=>by
 obtain⟨xs,m,rfl,rfl,b,a,c⟩:=DataW.trod_struct Tryz.underlying65 f
 obtain⟨v0,g,d⟩:=rf (EF Tryz.underlying3) (c 0 _ rfl) a
 obtain⟨j,i,e⟩:=rf (h m (by omega)) (c 1 _ rfl) a
 have q:=EG (Bx d (EE e))
 exact⟨.mk v0 j,⟨by rw[b];kernel_rfl,(g.at.app i.at)⟩,q⟩
theorem ut(n:Nat):Cm enc Tryz.prog W n 33 Ag:=by
 induction n using Nat.strongRecOn with
 |ind n e=>
 intro cs x s
 obtain⟨xs,m,rfl,rfl,c,a,b⟩:=DataW.trod_struct Tryz.underlying33 s
 obtain⟨v0,t,f⟩:=rf (EF Tryz.underlying3) (b 0 _ rfl) a
 obtain⟨B,u,g⟩:=rf (EF Tryz.underlying27) (b 1 _ rfl) a
 obtain⟨v2,v,h⟩:=rf (EH Tryz.underlying9) (b 2 _ rfl) a
 obtain⟨v3,w,i⟩:=rf (Dn Tryz.underlying28 (by kernel_rfl:Tryz.prog.cellsOf 33=7) (by decide) (fun x=>by rw[F9];rfl) (fun k d=>(kx F9 (e k (by omega))))) (b 3 _ rfl) a
 obtain⟨v4,y,l⟩:=rf (Dn Tryz.underlying29 (by kernel_rfl:Tryz.prog.cellsOf 85=14) (by decide) (fun x=>by rw[Kq];rfl) (fun k d=>(kx Kq (ZBa k (fun j r=>e j (by omega)))))) (b 4 _ rfl) a
 obtain⟨v5,z,o⟩:=rf (Dn Tryz.underlying30 (by kernel_rfl:Tryz.prog.cellsOf 65=8) (by decide) (fun x=>by rw[GI];rfl) (fun k d=>(kx GI (ZwA k (fun j r=>e j (by omega)))))) (b 5 _ rfl) a
 obtain⟨C,A,p⟩:=rf (Dn Tryz.underlying31 (by kernel_rfl:Tryz.prog.cellsOf 87=4) (by decide) (fun _=>rfl) (fun k d=>(ZTk k))) (b 6 _ rfl) a
 have q:=EG (Bx f (Bx g (Bx h (Bx i (Bx l (Bx o (EE p)))))))
 exact⟨.mk v0 B v2 v3 v4 v5 C,⟨by rw[c];kernel_rfl,(t.at.app (u.at.app (v.at.app (w.at.app (y.at.app (z.at.app A.at))))))⟩,q⟩
theorem ZSo(n:Nat):Cm enc Tryz.prog W n 53 DS:=fun cs x f=>by
 obtain⟨xs,m,rfl,rfl,b,a,c⟩:=DataW.trod_struct Tryz.underlying53 f
 obtain⟨v0,g,d⟩:=rf (EF Tryz.underlying3) (c 0 _ rfl) a
 obtain⟨i,h,e⟩:=rf (EH Tryz.underlying9) (c 1 _ rfl) a
 have q:=EG (Bx d (EE e))
 exact⟨.mk v0 i,⟨by rw[b];kernel_rfl,(g.at.app h.at)⟩,q⟩
theorem M4(n:Nat):Cm enc Tryz.prog W n 132 BU:=fun cs x f=>by
 obtain⟨xs,m,rfl,rfl,b,a,c⟩:=DataW.trod_struct Tryz.underlying132 f
 obtain⟨v0,g,d⟩:=rf (EH Tryz.underlying9) (c 0 _ rfl) a
 obtain⟨i,h,e⟩:=rf (ut m) (c 1 _ rfl) a
 have q:=EG (Bx d (EE e))
 exact⟨.mk v0 i,⟨by rw[b];kernel_rfl,(g.at.app h.at)⟩,q⟩
theorem ZOl(n:Nat):Cm enc Tryz.prog W n 56 An:=fun cs x p=>by
 obtain⟨xs,m,rfl,rfl,c,a,b⟩:=DataW.trod_struct Tryz.underlying56 p
 obtain⟨v0,r,d⟩:=rf (EF Tryz.underlying3) (b 0 _ rfl) a
 obtain⟨B,s,e⟩:=rf (EH Tryz.underlying9) (b 1 _ rfl) a
 obtain⟨v2,t,f⟩:=rf (EF Tryz.underlying3) (b 2 _ rfl) a
 obtain⟨v3,u,g⟩:=rf (EF Tryz.underlying3) (b 3 _ rfl) a
 obtain⟨v4,v,h⟩:=rf (ZSo m) (b 4 _ rfl) a
 obtain⟨v5,w,i⟩:=rf (EH Tryz.underlying9) (b 5 _ rfl) a
 obtain⟨C,y,j⟩:=rf (ZvA Tryz.underlying4) (b 6 _ rfl) a
 obtain⟨D,z,l⟩:=rf (ut m) (b 7 _ rfl) a
 obtain⟨E,A,o⟩:=rf (Dn Tryz.underlying54 (by kernel_rfl:Tryz.prog.cellsOf 132=8) (by decide) (fun _=>rfl) (fun k F=>(M4 k))) (b 8 _ rfl) a
 have q:=EG (Bx d (Bx e (Bx f (Bx g (Bx h (Bx i (Bx j (Bx l (EE o)))))))))
 exact⟨.mk v0 B v2 v3 v4 v5 C D E,⟨by rw[c];kernel_rfl,(r.at.app (s.at.app (t.at.app (u.at.app (v.at.app (w.at.app (y.at.app (z.at.app A.at))))))))⟩,q⟩
theorem qN(n:Nat):Cm enc Tryz.prog W n 207 CC:=fun cs x f=>by
 obtain⟨xs,m,rfl,rfl,b,a,c⟩:=DataW.trod_struct Tryz.underlying207 f
 obtain⟨v0,g,d⟩:=rf (EF Tryz.underlying3) (c 0 _ rfl) a
 obtain⟨i,h,e⟩:=rf (EF Tryz.underlying3) (c 1 _ rfl) a
 have q:=EG (Bx d (EE e))
 exact⟨.mk v0 i,⟨by rw[b];kernel_rfl,(g.at.app h.at)⟩,q⟩
theorem ZOL(n:Nat):Cm enc Tryz.prog W n 61 AB:=fun cs x j=>by
 obtain⟨xs,m,rfl,rfl,c,a,b⟩:=DataW.trod_struct Tryz.underlying61 j
 obtain⟨v0,l,e⟩:=rf (EH Tryz.underlying9) (b 0 _ rfl) a
 obtain⟨t,o,f⟩:=rf (Dn Tryz.underlying57 (by kernel_rfl:Tryz.prog.cellsOf 56=16) (by decide) (fun _=>rfl) (fun k d=>(ZOl k))) (b 1 _ rfl) a
 obtain⟨v2,p,g⟩:=rf (Dn Tryz.underlying58 (by kernel_rfl:Tryz.prog.cellsOf 207=2) (by decide) (fun _=>rfl) (fun k d=>(qN k))) (b 2 _ rfl) a
 obtain⟨v3,r,h⟩:=rf (Dn Tryz.underlying59 (by kernel_rfl:Tryz.prog.cellsOf 9=1) (by decide) (fun _=>rfl) (fun k d=>(EH Tryz.underlying9))) (b 3 _ rfl) a
 obtain⟨v4,s,i⟩:=rf (Dn Tryz.underlying54 (by kernel_rfl:Tryz.prog.cellsOf 132=8) (by decide) (fun _=>rfl) (fun k d=>(M4 k))) (b 4 _ rfl) a
 have q:=EG (Bx e (Bx f (Bx g (Bx h (EE i)))))
 exact⟨.mk v0 t v2 v3 v4,⟨by rw[c];kernel_rfl,(l.at.app (o.at.app (p.at.app (r.at.app s.at))))⟩,q⟩
theorem ZRS(n:Nat):Cm enc Tryz.prog W n 94 Cw:=fun cs x g=>by
 obtain⟨xs,m,rfl,rfl,b,a,c⟩:=DataW.trod_struct Tryz.underlying94 g
 obtain⟨v0,h,d⟩:=rf (EH Tryz.underlying9) (c 0 _ rfl) a
 obtain⟨l,i,e⟩:=rf (EF Tryz.underlying3) (c 1 _ rfl) a
 obtain⟨v2,j,f⟩:=rf (Dn Tryz.underlying54 (by kernel_rfl:Tryz.prog.cellsOf 132=8) (by decide) (fun _=>rfl) (fun k o=>(M4 k))) (c 2 _ rfl) a
 have q:=EG (Bx d (Bx e (EE f)))
 exact⟨.mk v0 l v2,⟨by rw[b];kernel_rfl,(h.at.app (i.at.app j.at))⟩,q⟩
theorem ZSZ(n:Nat):Cm enc Tryz.prog W n 92 Bz:=fun cs x j=>by
 obtain⟨xs,m,rfl,rfl,c,a,b⟩:=DataW.trod_struct Tryz.underlying92 j
 obtain⟨v0,l,e⟩:=rf (EH Tryz.underlying9) (b 0 _ rfl) a
 obtain⟨t,o,f⟩:=rf (ZvA Tryz.underlying4) (b 1 _ rfl) a
 obtain⟨v2,p,g⟩:=rf (Dn Tryz.underlying90 (by kernel_rfl:Tryz.prog.cellsOf 94=3) (by decide) (fun _=>rfl) (fun k d=>(ZRS k))) (b 2 _ rfl) a
 obtain⟨v3,r,h⟩:=rf (Dn Tryz.underlying58 (by kernel_rfl:Tryz.prog.cellsOf 207=2) (by decide) (fun _=>rfl) (fun k d=>(qN k))) (b 3 _ rfl) a
 obtain⟨v4,s,i⟩:=rf (Dn Tryz.underlying54 (by kernel_rfl:Tryz.prog.cellsOf 132=8) (by decide) (fun _=>rfl) (fun k d=>(M4 k))) (b 4 _ rfl) a
 have q:=EG (Bx e (Bx f (Bx g (Bx h (EE i)))))
 exact⟨.mk v0 t v2 v3 v4,⟨by rw[c];kernel_rfl,(l.at.app (o.at.app (p.at.app (r.at.app s.at))))⟩,q⟩
theorem ZR3(n:Nat):Cm enc Tryz.prog W n 99 G0:=fun cs x i=>by
 obtain⟨xs,m,rfl,rfl,c,a,b⟩:=DataW.trod_struct Tryz.underlying99 i
 obtain⟨v0,j,d⟩:=rf (EH Tryz.underlying9) (b 0 _ rfl) a
 obtain⟨s,l,e⟩:=rf (EH Tryz.underlying9) (b 1 _ rfl) a
 obtain⟨v2,o,f⟩:=rf (EH Tryz.underlying9) (b 2 _ rfl) a
 obtain⟨v3,p,g⟩:=rf (EF Tryz.underlying3) (b 3 _ rfl) a
 obtain⟨v4,r,h⟩:=rf (Dn Tryz.underlying54 (by kernel_rfl:Tryz.prog.cellsOf 132=8) (by decide) (fun _=>rfl) (fun k t=>(M4 k))) (b 4 _ rfl) a
 have q:=EG (Bx d (Bx e (Bx f (Bx g (EE h)))))
 exact⟨.mk v0 s v2 v3 v4,⟨by rw[c];kernel_rfl,(j.at.app (l.at.app (o.at.app (p.at.app r.at))))⟩,q⟩
theorem ZPr(n:Nat):Cm enc Tryz.prog W n 97 C4:=fun cs x h=>by
 obtain⟨xs,m,rfl,rfl,b,a,c⟩:=DataW.trod_struct Tryz.underlying97 h
 obtain⟨v0,i,d⟩:=rf (EH Tryz.underlying9) (c 0 _ rfl) a
 obtain⟨o,j,e⟩:=rf (Dn Tryz.underlying95 (by kernel_rfl:Tryz.prog.cellsOf 99=5) (by decide) (fun _=>rfl) (fun k g=>(ZR3 k))) (c 1 _ rfl) a
 obtain⟨v2,l,f⟩:=rf (Dn Tryz.underlying54 (by kernel_rfl:Tryz.prog.cellsOf 132=8) (by decide) (fun _=>rfl) (fun k g=>(M4 k))) (c 2 _ rfl) a
 have q:=EG (Bx d (Bx e (EE f)))
 exact⟨.mk v0 o v2,⟨by rw[b];kernel_rfl,(i.at.app (j.at.app l.at))⟩,q⟩
theorem ZR8(n:Nat):Cm enc Tryz.prog W n 26 Al:=fun cs x h=>by
 obtain⟨xs,m,rfl,rfl,b,a,c⟩:=DataW.trod_struct Tryz.underlying26 h
 obtain⟨v0,i,e⟩:=rf (Dn Tryz.underlying22 (by kernel_rfl:Tryz.prog.cellsOf 61=5) (by decide) (fun _=>rfl) (fun k d=>(ZOL k))) (c 0 _ rfl) a
 obtain⟨o,j,f⟩:=rf (Dn Tryz.underlying23 (by kernel_rfl:Tryz.prog.cellsOf 92=5) (by decide) (fun _=>rfl) (fun k d=>(ZSZ k))) (c 1 _ rfl) a
 obtain⟨v2,l,g⟩:=rf (Dn Tryz.underlying24 (by kernel_rfl:Tryz.prog.cellsOf 97=3) (by decide) (fun _=>rfl) (fun k d=>(ZPr k))) (c 2 _ rfl) a
 have q:=EG (Bx e (Bx f (EE g)))
 exact⟨.mk v0 o v2,⟨by rw[b];kernel_rfl,(i.at.app (j.at.app l.at))⟩,q⟩
end
end Go.Proofs.YthgmbpciandpiaaGreat
namespace Go.Eng
set_option linter.all false
open Go Go.RowKit
section
variable {σ ξ ρ α β γ:Type}
def M6(g:β→α→β ⊕ ρ):β→List α→β ⊕ ρ
 |b,[]=>.inl b
 |b,x::l=>match g b x with
  |.inl a=>M6 g a l
  |.inr r=>.inr r
theorem ZxM{B:σ→Option (Lv σ ξ ρ)}{N:Nat}(l:List α)(mk:Nat→β→σ)(I:Nat→β→Prop)(g:β→α→β ⊕ ρ)(e:β→ξ)
  (hs:∀i b x,l[i]?=some x→I i b→B (mk i b)=some (Sum.elim (fun a=>Lv.nx (mk (i+1) a)) Lv.rt (g b x))∧∀a,g b x=.inl a→I (i+1) a)
  (he:∀b,I l.length b→B (mk l.length b)=some (.ex (e b))) (d:β) (h:I 0 d) (hN:l.length<N):Am B N (mk 0 d)=some (Sum.map e id (M6 g d l)):=by
 suffices H:∀k i b N,i+k=l.length→I i b→k<N→Am B N (mk i b)=some (Sum.map e id (M6 g b (l.drop i)))by
  have:=H l.length 0 d N (by omega) h hN
  simpa using this
 intro k
 induction k with
 |zero=>
  intro i b N hi f hN
  obtain⟨N,rfl⟩:∃m,N=m+1:=⟨N-1,by omega⟩
  have:i=l.length:=by omega
  subst this
  rw[Am,he b f,NP]
  rfl
 |succ k o=>
  intro i b N hi f hN
  obtain⟨N,rfl⟩:∃m,N=m+1:=⟨N-1,by omega⟩
  have c:i<l.length:=by omega
  obtain⟨j,n⟩:=hs i b l[i] (Ya c) f
  rw[Am,j,Jt c,M6]
  cases hg:g b l[i]with
  |inl a=>exact o (i+1) a N (by omega) (n a hg) (by omega)
  |inr r=>rfl
theorem GE{B:Nat→Option (Lv Nat ξ ρ)}{N:Nat}(l:List α)(p:α→Bool)(f:Nat→ρ)(e:ξ)
  (hs:∀i x,l[i]?=some x→B i=some (if p x=true then .rt (f i)else .nx (i+1))) (he:B l.length=some (.ex e)) (hN:l.length<N):
  Am B N 0=some (match l.findIdx? p with|some i=>.inr (f i)|none=>.inl e):=by
 suffices H:∀k i N,i+k=l.length→k<N→Am B N i=some (match (l.drop i).findIdx? p with|some j=>.inr (f (i+j))|none=>.inl e)by
  have:=H l.length 0 N (by omega) hN
  simpa using this
 intro k
 induction k with
 |zero=>
  intro i N hi hN
  obtain⟨N,rfl⟩:∃m,N=m+1:=⟨N-1,by omega⟩
  have:i=l.length:=by omega
  subst this
  rw[Am,he,NP]
  rfl
 |succ k b=>
  intro i N hi hN
  obtain⟨N,rfl⟩:∃m,N=m+1:=⟨N-1,by omega⟩
  have a:i<l.length:=by omega
  rw[Am,hs i l[i] (Ya a),Jt a,List.findIdx?_cons]
  cases c:p l[i]with
  |true=>simp
  |false=>
   simp only[Yu,Y1]
   rw[b (i+1) N (by omega) (by omega)]
   cases(List.drop (i+1) l).findIdx? p with
   |none=>rfl
   |some j=>simp[YE,QO 1 j]
def Mx(R:List α→α→Option ρ):List α→List α→Option ρ
 |_,[]=>none
 |p,x::l=>match R p x with
  |some r=>some r
  |none=>Mx R (p++[x]) l
theorem ZBl{B:σ→Option (Lv σ ξ ρ)}{N:Nat}(l:List α)(S:List α→β)(R:List α→α→Option ρ)(mk:Nat→β→σ)(e:β→ξ)
  (hs:∀i x,l[i]?=some x→B (mk i (S (l.take i)))=some (match R (l.take i) x with|some r=>.rt r|none=>.nx (mk (i+1) (S (l.take i++[x])))))
  (he:B (mk l.length (S l))=some (.ex (e (S l)))) (hN:l.length<N):Am B N (mk 0 (S []))=some ((Mx R [] l).elim (.inl (e (S l))) .inr):=by
 suffices H:∀k i N,i+k=l.length→k<N→Am B N (mk i (S (l.take i)))=some ((Mx R (l.take i) (l.drop i)).elim (.inl (e (S l))) .inr)by
  have:=H l.length 0 N (by omega) hN
  grind
 intro k
 induction k with
 |zero=>
  intro i N hi hN
  obtain⟨N,rfl⟩:∃m,N=m+1:=⟨N-1,by omega⟩
  have:i=l.length:=by omega
  subst this
  rw[Am,Lc,he,NP]
  rfl
 |succ k b=>
  intro i N hi hN
  obtain⟨N,rfl⟩:∃m,N=m+1:=⟨N-1,by omega⟩
  have a:i<l.length:=by omega
  rw[Am,hs i l[i] (Ya a),Jt a,Mx]
  cases R (l.take i) l[i]with
  |some r=>rfl
  |none=>
   have:=b (i+1) N (by omega) (by omega)
   rw[Y4 a]at this
   exact this
theorem Zh8{R:List α→α→Option ρ}(h:∀p x,R p x=none):∀(l p:List α),Mx R p l=none
 |[],p=>rfl
 |x::l,p=>by rw[Mx,h];exact Zh8 h l _
theorem Eh{B:σ→Option (Lv σ ξ ρ)}{N:Nat}(l:List α)(S:List α→β)(mk:Nat→β→σ)(e:β→ξ)
  (hs:∀i x,l[i]?=some x→B (mk i (S (l.take i)))=some (.nx (mk (i+1) (S (l.take i++[x])))))
  (he:B (mk l.length (S l))=some (.ex (e (S l)))) (hN:l.length<N):Am B N (mk 0 (S []))=some (.inl (e (S l))):=by
 rw[ZBl l S (fun _ _=>none) mk e hs he hN,Zh8 fun _ _=>rfl]
 rfl
theorem Kj{B:σ→Option (Lv σ ξ ρ)}(I:Nat→σ→Prop)(Q:ξ ⊕ ρ→Prop)
  (h:∀k v,I k v→∃o,B v=some o∧match o with|.nx c=>∃k',k'<k∧I k' c|.ex b=>Q (.inl b)|.rt y=>Q (.inr y)):
  ∀N k v,k<N→I k v→∃o,Am B N v=some o∧Q o
 |0,k,v,d,_=>absurd d (GC _)
 |N+1,k,v,d,g=>by
  obtain⟨o,e,a⟩:=h k v g
  rw[Am,e]
  cases o with
  |nx c=>obtain⟨k',i,f⟩:=a;exact Kj I Q h N k' c (by omega) f
  |ex b=>exact⟨_,rfl,a⟩
  |rt y=>exact⟨_,rfl,a⟩
theorem BP{l:List α}{i:Nat}{x:α}(h:l[i]?=some x):(i:Int)<(l.length:Int):=by
 grind
theorem A6{n:Nat}(h:n<4611686018427387904):n<Ai:=h
end
end Go.Eng
