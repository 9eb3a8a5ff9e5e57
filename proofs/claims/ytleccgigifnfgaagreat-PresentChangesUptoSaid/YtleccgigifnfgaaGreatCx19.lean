import Derived.Test.YtleccgigifnfgaaGreatCx18
import Derived.Test.YtleccgigifnfgaaGreatCx00
namespace Go.Proofs.YtleccgigifnfgaaGreat
set_option maxRecDepth 100000
set_option linter.all false
open Go Go.Eng
abbrev Lj(a:Val):Ad×Blk:=((1,1),⟨0,true,33,7,[vI a.kind,.d (.int .u64 a.bits),vS a.text,vL Ar a.list,vL As a.pairs,vL Ah a.slots,vL Au a.raws]⟩)
abbrev RN:List Val→AV:=fun y=>vL Ar y
def r9(a:Val):List Val×Nat→St:=fun(b,v3)=>Ab [(1,.ptr (1,1) 0 0),(3,.ref (1,10) 0 0 b.length),(12,vL As a.pairs),(13,vN a.pairs.length),(14,vN v3)] [(Lj a),((1,10),⟨0,true,33,7,Af Ar b⟩)]
def s3(b:Val):List Val→Nat×St:=fun a=>(0,Ab [(1,.ptr (1,1) 0 0),(3,.ref (1,10) 0 0 a.length)] [(Lj b),((1,10),⟨0,true,33,7,Af Ar a⟩)])
def U7(c:Val)(b:List Val)(v3:Nat):PT 0 (Lv (List Val×Nat) (List Val) (List Val)):=br (decide ((v3:Int)<(c.pairs.length:Int))) (ix c.pairs v3 fun a=>vw .go<|vw .go<|vw .go<|vw .sep<|oy b (a.key:Val) a.val<|vs (wa v3 1)<|vz (fl (b++([a.key,a.val])))<|ln (r9 c) (b++([a.key,a.val]),v3+1)) (vz (fl b)<|Ak (s3 c) b)
def Pa(a:Val):List Val×Nat→Option (Lv (List Val×Nat) (List Val) (List Val)):=fun(b,v3)=>(U7 a b v3).m
def sI(a:Val):List Val×Nat→St:=fun(b,c)=>Ab [(3,.ref (1,10) 0 0 b.length),(27,vL Ah a.slots),(28,vN a.slots.length),(29,vN c)] [((1,10),⟨0,true,33,7,Af Ar b⟩)]
def rz:List Val→Nat×St:=fun a=>(2,Ab [(3,.ref (1,10) 0 0 a.length)] [((1,10),⟨0,true,33,7,Af Ar a⟩)])
def Uw(d:Val)(a:List Val)(b:Nat):PT 0 (Lv (List Val×Nat) (List Val) (List Val)):=br (decide ((b:Int)<(d.slots.length:Int))) (ix d.slots b fun c=>vw .go<|vw .go<|vw .sep<|ap a (c.val:Val)<|vs (wa b 1)<|vz (fl (a++[c.val]))<|ln (sI d) (a++[c.val],b+1)) (vz (fl a)<|Ak (rz) a)
def OO(a:Val):List Val×Nat→Option (Lv (List Val×Nat) (List Val) (List Val)):=fun(b,c)=>(Uw a b c).m
def nH(a:List Val):PT 0 (List Val):=vz (fr a)<|lr RN (fun _=>[]) a
def lE(a:Val)(b:List Val):PT 0 (List Val):=vw .go<|vz (Ag a.slots)<|vz (fl b)<|lc (Ab [(3,.ref (1,10) 0 0 b.length),(27,vL Ah a.slots),(28,vN a.slots.length),(29,vI 0)] [((1,10),⟨0,true,33,7,Af Ar b⟩)]) ((An (OO a) Aj (b,0)).bind (Sum.elim (fun c=>(nH c).m) some))
def nU(a:Val)(b:List Val):PT 0 (List Val):=vw .go<|vz (Ag a.pairs)<|vz (fl b)<|lc (Ab [(1,.ptr (1,1) 0 0),(3,.ref (1,10) 0 0 b.length),(12,vL As a.pairs),(13,vN a.pairs.length),(14,vI 0)] [(Lj a),((1,10),⟨0,true,33,7,Af Ar b⟩)]) ((An (Pa a) Aj (b,0)).bind (Sum.elim (fun c=>(lE a c).m) some))
def kc(b:Val)(a:List Val):PT 0 (List Val):=vz (fl a)<|lc (Ab [(1,.ptr (1,1) 0 0),(3,.ref (1,10) 0 0 a.length)] [(Lj b),((1,10),⟨0,true,33,7,Af Ar a⟩)]) ((nU b a).m)
def mq(a:Val):PT 0 (List Val):=vw .go<|lc (Ab [(1,.ptr (1,1) 0 0),(9,vL Ar a.list)] [(Lj a)]) ((Tu a.list).bind fun b=>(kc a b).m)
def mB(a:Val):PT 0 (List Val):=lc (Ab [(1,.ptr (1,1) 0 0)] [(Lj a)]) ((mq a).m)
def fe(a:Val):Option (List Val):=(mB a).m
theorem Zzz{C:Cx}(co:CO C 0)(a:Val):KL Tryz.prog (AF tl) 40 C (pa [0,0,1,0,1,1] (AB Tryz.f196)) [.tmp 2] 0 (r9 a) (s3 a) RN (fun _=>[]) (Pa a):=fun(e,v3) _ hm Q b d c=>AA co Aa Ac (U7 a e v3) (Ae [1,3,12,13,14] F9) (Ae [1,3] F9) d hm c fun r g=>⟨fun f=>id,id⟩
theorem Zzh{C:Cx}(co:CO C 0)(a:Val):KL Tryz.prog (AF tl) 40 C (pa [0,0,1,0,1,1,1] (AB Tryz.f196)) [.tmp 2] 0 (sI a) (rz) RN (fun _=>[]) (OO a):=fun(e,f) _ hm Q b d c=>AA co Aa Ac (Uw a e f) (Ae [3,27,28,29] [((1,10),true)]) (Ae [3] [((1,10),true)]) d hm c fun r g=>⟨fun h=>id,id⟩
theorem ZTE(b:Val):KC Tryz.prog 196 [.agg ((Ai b).map .d)] (fe b) RN:=Aw Tryz.func196 Tryz.ntmps196 Aa [.tmp 2] fun C co y hm c a=>Al co Aa Ac 1 (mB b) (Ae [1] BZ) nl (fun _ h=>h) hm a fun r g=>fun _ hm a=>sq (rg (Bw co Aa 2 (mq b) (Ae [1,9] BZ) hm a fun r g=>fun _ hm a=>Hq co hm 224 [vL Ar b.list] [(1,10)] ([((1,10),⟨0,false,0,0,[]⟩)]++[]) (fun z=>.ref (1,10) 1 0 z.length) (fun z=>[((1,10),⟨1,true,33,7,Af Ar z⟩)]) [] (fun z=>trivial) (trivial) (fun z e r g=>DV (ZS5 b.list) e co g [((1,10),⟨0,false,0,0,[]⟩)] [] [((1,10),⟨1,true,33,7,Af Ar z⟩)] (AL []) (fun j k l=>trivial) (fun H=>⟨(fun h=>by cases h),by kernel_rfl,trivial⟩) (fun H=>⟨fun _=>⟨rfl,Bn (A0 _ _) (by kernel_rfl)⟩,by kernel_rfl,trivial⟩)) fun d hm=>Bb co Aa (kc b d) (Ae [1,3] F9) hm a fun r g=>fun _ hm a=>sq (Al co Aa Ac 1 (nU b d) (Ae [1,3,12,13,14] F9) nl (fun _ h=>h) hm a fun r g=>fun _ hm a=>bk 0 (lo (AG (Zzz co b) (fun _ h=>h) hm a (fun f hm=>sq (Al co Aa Ac 1 (lE b f) (Ae [3,27,28,29] [((1,10),true)]) nl (fun _ h=>h) hm a fun r g=>fun _ hm a=>bk 2 (lo (AG (Zzh co b) (fun _ h=>h) hm a (fun i hm=>Am co Aa Ac (nH i) hm a fun r g=>id))))))))))
abbrev K2:Int→AV:=fun y=>vI y
def rN(a:List Val):Int×Nat→St:=fun(v2,v3)=>Ab [(3,vI v2),(11,vL Ar a),(12,vN a.length),(13,vN v3)] []
def qY:Int→Nat×St:=fun a=>(0,Ab [(3,vI a)] [])
def Uy(a:Val→Option (Int))(b:List Val)(v2:Int)(v3:Nat):PT 0 (Lv (Int×Nat) (Int) (Int)):=br (decide ((v3:Int)<(b.length:Int))) (ix b v3 fun c=>vw .go<|vw .go<|cs Tryz.prog 168 [.agg ((Ai c).map .d)] [] [] (a c) (fun y=>vI y) fun d=>vs (wi (v2+d))<|vs (wa v3 1)<|ln (rN b) ((v2+d),v3+1)) (Ak (qY) v2)
def Pe(a:Val→Option (Int))(b:List Val):Int×Nat→Option (Lv (Int×Nat) (Int) (Int)):=fun(v2,v3)=>(Uy a b v2 v3).m
def nf(a:Int):PT 0 (Int):=lr K2 (fun _=>[]) a
def mX(c:Val)(a:Val→Option (Int)):PT 0 (Int):=vw .go<|cl (ZTE c) fun b=>vz (Ag b)<|lc (Ab [(3,vN (1+c.raws.length)),(11,vL Ar b),(12,vN b.length),(13,vI 0)] []) ((An (Pe a b) Aj (((1+c.raws.length:Nat):Int),0)).bind (Sum.elim (fun d=>(nf d).m) some))
def jB(a:Val)(b:Val→Option (Int)):PT 0 (Int):=vw .go<|vz (Ag a.raws)<|vs (wa 1 a.raws.length)<|lc (Ab [(1,.ptr (1,1) 0 0),(3,vN (1+a.raws.length))] [((1,1),⟨0,true,33,7,[vI a.kind,.d (.int .u64 a.bits),vS a.text,vL Ar a.list,vL As a.pairs,vL Ah a.slots,vL Au a.raws]⟩)]) ((mX a b).m)
def VY(a:Val→Option (Int))(b:Val):Option (Int):=(jB b a).m
theorem Zzi{C:Cx}(co:CO C 0)(a:Val→Option (Int))(d:List Val)(c:∀(f:Val),KC Tryz.prog 168 [.agg ((Ai f).map .d)] (a f) K2):KL Tryz.prog (AF tl) 23 C (pa [0,0,1,0,1,1] (AB Tryz.f168)) [.tmp 2] 0 (rN d) (qY) K2 (fun _=>[]) (Pe a d):=fun(v2,v3) _ hm Q e j i=>AA co Aa Ac (Uy a d v2 v3) (AN [3,11,12,13]) (AN [3]) j hm i fun r g=>⟨fun b=>⟨fun y hy h _ _=>by rw[(c b).x,(c b).e];exact(c b).k _ h y hy,fun k=>id⟩,id⟩
theorem ZNS(a:Val→Option (Int))(e:∀(b:Val),KC Tryz.prog 168 [.agg ((Ai b).map .d)] (a b) K2)(b:Val):KC Tryz.prog 168 [.agg ((Ai b).map .d)] (VY a b) K2:=Aw Tryz.func168 Tryz.ntmps168 Aa [.tmp 2] fun C co y hm d c=>Al co Aa Ac 2 (jB b a) (Ae [1,3] BZ) nl (fun _ h=>h) hm c fun r g=>fun _ hm c=>sq (Al co Aa Ac 1 (mX b a) (AN [3,11,12,13]) nl (fun _ h=>h) hm c fun r g=>fun i=>fun _ hm c=>bk 0 (lo (AG (Zzi co a i e) (fun _ h=>h) hm c (fun f hm=>Am co Aa Ac (nf f) hm c fun r g=>id))))
def Lu:Nat→Val→Option (Int)
 |0=>fun _=>none
 |a+1=>VY (Lu a)
theorem wX:∀(b:Nat) (a:Val),KC Tryz.prog 168 [.agg ((Ai a).map .d)] (Lu b a) K2
 |0,a=>⟨fun _ _ _ h=>(by cases h),by intro r;kernel_rfl,by intro r y;kernel_rfl⟩
 |b+1,a=>ZNS (Lu b) (wX b) a
abbrev Nj:Int→AV:=fun y=>vI y
def nG(a:Scm)(e:ByteArray)(b:Val):PT 0 (Int):=vw .go<|cl (R5 a e) fun c=>vw .go<|br (!c.2) (lr Nj (fun _=>[]) 10) (vw .go<|vw .go<|vw .go<|cl (QR (JW Aj) (uE Aj) a c.1 b 1) fun d=>br (!decide (d=(0:Int))) (lr Nj (fun _=>[]) d) (vw .go<|cl (wX Aj b) fun f=>br (decide ((4096:Int)<f)) (lr Nj (fun _=>[]) 3) (lr Nj (fun _=>[]) 0)))
def fI(a:Scm)(b:ByteArray)(c:Val):Option (Int):=(nG a b c).m
theorem ZT2(a:Scm)(b:ByteArray)(c:Val):KC Tryz.prog 139 [.agg ((Av a).map .d),vS b,.agg ((Ai c).map .d)] (fI a b c) Nj:=Aw Tryz.func139 Tryz.ntmps139 Aa [.tmp 6] fun C co y hm d e=>Am co Aa Ac (nG a b c) hm e fun r g=>fun f=>⟨id,fun h=>⟨id,fun i=>⟨id,id⟩⟩⟩
abbrev Ko:Bool→AV:=fun y=>vB y
def ZP(b:Scm)(a:Typ)(c:Val):PT 0 (Bool):=vw .go<|br (decide (a.kind=(10:Int))) (vw .go<|vw .go<|vw .go<|cl (ZT2 b a.name c) fun d=>lr Ko (fun _=>[]) (decide (d=(0:Int)))) (vw .go<|cl (KH a.kind) fun e=>br (!e) (lr Ko (fun _=>[]) false) (vw .go<|br (decide (a.kind=(9:Int))) (vw .go<|vw .go<|cl (RF b a.name) fun f=>vw .go<|br (!f.2) (lr Ko (fun _=>[]) false) (vw .go<|vw .go<|vw .go<|cl (QP b a c) fun g=>lr Ko (fun _=>[]) (decide (g=(0:Int))))) (vw .go<|vw .go<|vw .go<|cl (QP b a c) fun h=>lr Ko (fun _=>[]) (decide (h=(0:Int))))))
def fE(a:Scm)(b:Typ)(c:Val):Option (Bool):=(ZP a b c).m
theorem yR(a:Scm)(b:Typ)(c:Val):KC Tryz.prog 95 [.agg ((Av a).map .d),.agg ((EA b).map .d),.agg ((Ai c).map .d)] (fE a b c) Ko:=Aw Tryz.func95 Tryz.ntmps95 Aa [.tmp 6] fun C co y hm d e=>Am co Aa Ac (ZP a b c) hm e fun r g=>⟨fun f=>id,fun h=>⟨id,⟨fun i=>⟨id,fun j=>id⟩,fun k=>id⟩⟩⟩
abbrev dy(a:Val):Ad×Blk:=((1,5),⟨1,true,33,7,[vI a.kind,.d (.int .u64 a.bits),vS a.text,vL Ar a.list,vL As a.pairs,vL Ah a.slots,vL Au a.raws]⟩)
abbrev Kn:Int→AV:=fun y=>vI y
def bH(d:Acs)(a:Typ)(c:Val):PT 0 (Int):=vw .go<|vw .go<|vw .go<|clg (decide (a.kind=(9:Int))) (de a.kind c) fun e=>br (decide (a.kind=(9:Int))&&e) (vw .go<|vw .go<|cl (RF d.s a.name) fun b=>vw .go<|vw .go<|vw .go<|De (b.2&&(!b.1.opn)) Tryz.prog 93 [vL Ca b.1.items,.fn (.func 94) [] [.ptr (1,5) 1 0]] [(1,5)] [(dy c)] (N8 b.1.items (fun(z0:Itm)=>S4 z0 c)) (fun y=>vB y) fun f=>br ((b.2&&(!b.1.opn))&&(!f)) (lr Kn (fun _=>[]) 16) (vw .go<|vw .go<|vw .go<|cl (yR d.s a c) fun g=>br (!g) (lr Kn (fun _=>[]) 12) (lr Kn (fun _=>[]) 0))) (vw .go<|vw .go<|vw .go<|cl (yR d.s a c) fun h=>br (!h) (lr Kn (fun _=>[]) 12) (lr Kn (fun _=>[]) 0))
def eG(a:Acs)(b:Typ)(c:Val):Option (Int):=(bH a b c).m
theorem cF(b:Acs)(c:Typ)(a:Val):KC Tryz.prog 57 [.agg ((F7 b).map .d),.agg ((EA c).map .d),.agg ((Ai a).map .d)] (eG b c a) Kn:=Aw Tryz.func57 Tryz.ntmps57 Aa [.tmp 6] fun C co y hm d e=>Am co Aa Ac (bH b c a) hm e fun r g=>fun m=>⟨fun i=>⟨fun y hy=>BQ (zX i.1.items (fun(z0:Itm)=>S4 z0 a)) hy co g [] [(dy a)] (AL [(1,.fn (.func 94) [] [.ptr (r.κ (1,5)) (r.γ (1,5)+1) 0])]) (fun j f k=>(fun z0 y h=>Dz (ZWF z0 a) h co g [(dy a)] [] f (by simp) (fun _=>.top) (fun _ _=>trivial) (fun l H=>⟨fun _=>⟨rfl,by kernel_rfl⟩,by kernel_rfl,trivial⟩))) (fun H=>trivial),fun n=>⟨id,fun o=>⟨id,id⟩⟩⟩,fun p=>⟨id,id⟩⟩
abbrev pn:Bool→AV:=fun y=>vB y
def X1(a:Val):PT 0 (Bool):=vw .go<|vw .go<|vw .go<|vy (decide (a.bits=(0:Int))&&decide (a.text=(⟨#[]⟩:ByteArray))) (Ag a.slots)<|vw .go<|vy (decide (a.bits=(0:Int))&&decide (a.text=(⟨#[]⟩:ByteArray))) (Ag a.raws)<|vg (decide (a.bits=(0:Int))&&decide (a.text=(⟨#[]⟩:ByteArray))) (wa a.slots.length a.raws.length)<|lr pn (fun _=>[]) ((decide (a.bits=(0:Int))&&decide (a.text=(⟨#[]⟩:ByteArray)))&&decide (((a.slots.length+a.raws.length:Nat):Int)=(0:Int)))
def fk(a:Val):Option (Bool):=(X1 a).m
theorem y3(a:Val):KC Tryz.prog 88 [.agg ((Ai a).map .d)] (fk a) pn:=Aw Tryz.func88 Tryz.ntmps88 Aa [.tmp 2] fun C co y hm b c=>Am co Aa Ac (X1 a) hm c fun r g=>id
abbrev C1:List (Ad×Bool):=[((1,3),false),((1,4),false),((1,5),false)]
abbrev cK(a:Acs):Ad×Blk:=((1,3),⟨0,true,69,8,[vS a.m.name,vL Aq a.m.fields,vL AQ a.m.reserved,vL AC a.m.gone,vL Ax a.m.notes,vL AE a.s.messages,vL AP a.s.enums,vL AZ a.s.services]⟩)
abbrev ci(a:Fld):Ad×Blk:=((1,4),⟨0,true,54,16,[vI a.num,vS a.name,vI a.card,vI a.key,vI a.type.kind,vS a.type.name,vS a.union,vB a.hasDefault,vI a.dflt.kind,.d (.int .u64 a.dflt.bits),vS a.dflt.text,vL Ar a.dflt.list,vL As a.dflt.pairs,vL Ah a.dflt.slots,vL Au a.dflt.raws,vL Ax a.notes]⟩)
abbrev MU:Int→AV:=fun y=>vI y
def wr(b:Acs)(c:Fld)(a:Val):Nat→St:=fun v2=>Ab [(3,.ptr (1,3) 0 0),(4,.ptr (1,4) 0 0),(25,vL Ar a.list),(26,vN a.list.length),(27,vN v2)] [(cK b),(ci c)]
def yh:Unit→Nat×St:=fun _=>(0,Ab [] [])
def Q7(b:Acs)(c:Fld)(a:Val)(v2:Nat):PT 0 (Lv (Nat) (Unit) (Int)):=br (decide ((v2:Int)<(a.list.length:Int))) (ix a.list v2 fun e=>vw .go<|vw .go<|vw .go<|vw .go<|cl (cF b c.type e) fun d=>br (!decide (d=(0:Int))) (Ap MU (fun _=>[]) d) (vs (wa v2 1)<|ln (wr b c a) (v2+1))) (Ak (yh) ())
def PU(a:Acs)(b:Fld)(c:Val):Nat→Option (Lv (Nat) (Unit) (Int)):=fun v2=>(Q7 a b c v2).m
def bg:PT 0 (Int):=lr MU (fun _=>[]) 0
def Xy(b:Acs)(c:Fld)(a:Val):PT 0 (Int):=vw .go<|vz (Ag a.list)<|lc (Ab [(3,.ptr (1,3) 0 0),(4,.ptr (1,4) 0 0),(25,vL Ar a.list),(26,vN a.list.length),(27,vI 0)] [(cK b),(ci c)]) ((An (PU b c a) Aj 0).bind (Sum.elim (fun _=>(bg).m) some))
def bz(b:Acs)(c:Fld)(a:Val):PT 0 (Int):=vw .go<|vw .go<|clg (!(!decide (a.kind=(11:Int)))) (y3 a) fun d=>vw .go<|vy (!((!decide (a.kind=(11:Int)))||(!d))) (Ag a.pairs)<|br (((!decide (a.kind=(11:Int)))||(!d))||decide ((0:Int)<(a.pairs.length:Int))) (lr MU (fun _=>[]) 12) (lc (Ab [(3,.ptr (1,3) 0 0),(4,.ptr (1,4) 0 0),(5,.ptr (1,5) 0 0)] [(cK b),(ci c),((1,5),⟨0,true,33,7,[vI a.kind,.d (.int .u64 a.bits),vS a.text,vL Ar a.list,vL As a.pairs,vL Ah a.slots,vL Au a.raws]⟩)]) ((Xy b c a).m))
def eD(a:Acs)(b:Fld)(c:Val):Option (Int):=(bz a b c).m
theorem ZHg{C:Cx}(co:CO C 0)(a:Acs)(b:Fld)(c:Val):KL Tryz.prog (AF tl) 40 C (pa [0,0,1,0,1,1] (AB Tryz.f55)) [.tmp 6] 0 (wr a b c) (yh) MU (fun _=>[]) (PU a b c):=fun v2 _ hm Q d f e=>AA co Aa Ac (Q7 a b c v2) (Ae [3,4,25,26,27] P1) nl f hm e fun r g=>⟨fun h=>fun i=>⟨id,id⟩,id⟩
theorem ZXi(b:Acs)(c:Fld)(d:Val):KC Tryz.prog 55 [.agg ((F7 b).map .d),.agg ((Aq c).map .d),.agg ((Ai d).map .d)] (eD b c d) MU:=Aw Tryz.func55 Tryz.ntmps55 Aa [.tmp 6] fun C co y hm e a=>Al co Aa Ac 2 (bz b c d) (Ae [3,4,5] C1) nl (fun _ h=>h) hm a fun r g=>fun f=>⟨id,fun _ hm a=>sq (Al co Aa Ac 1 (Xy b c d) (Ae [3,4,25,26,27] P1) nl (fun _ h=>h) hm a fun r g=>fun _ hm a=>bk 0 (lo (AG (ZHg co b c d) (fun _ h=>h) hm a (fun _ hm=>Am co Aa Ac (bg) hm a fun r g=>id))))⟩
abbrev pq:Bool→AV:=fun y=>vB y
@[reducible] def pG(w0:Pr):Bool→List Blk:=fun y=>[⟨0,true,81,14,[vI w0.key.kind,.d (.int .u64 w0.key.bits),vS w0.key.text,vL Ar w0.key.list,vL As w0.key.pairs,vL Ah w0.key.slots,vL Au w0.key.raws,vI w0.val.kind,.d (.int .u64 w0.val.bits),vS w0.val.text,vL Ar w0.val.list,vL As w0.val.pairs,vL Ah w0.val.slots,vL Au w0.val.raws]⟩]
def Z5(a:Pr)(w0:Pr):PT 1 (Bool):=vw .go<|vw .go<|cl (cG w0.key a.key) fun b=>lr pq (pG w0) b
def N3(a:Pr)(w0:Pr):Option (Bool):=(Z5 a w0).m
theorem ZWT(a:Pr)(w0:Pr):KO Tryz.prog 91 1 [.agg ((HF a).map .d),.ptr (0,0) 0 0] [⟨0,true,81,14,[vI w0.key.kind,.d (.int .u64 w0.key.bits),vS w0.key.text,vL Ar w0.key.list,vL As w0.key.pairs,vL Ah w0.key.slots,vL Au w0.key.raws,vI w0.val.kind,.d (.int .u64 w0.val.bits),vS w0.val.text,vL Ar w0.val.list,vL As w0.val.pairs,vL Ah w0.val.slots,vL Au w0.val.raws]⟩] (fun _ _ _ _=>True) (N3 a w0) pq (pG w0):=Be Tryz.func91 Tryz.ntmps91 Aa [.tmp 3] 1 (fun C co d y hm b c=>Am co Aa Ac (Z5 a w0) hm c fun r g=>fun e=>id) (hB:=fun y=>⟨.inr (by kernel_rfl),rfl,trivial⟩)
abbrev dA(a:Acs):Ad×Blk:=((1,3),⟨0,true,69,8,[vS a.m.name,vL Aq a.m.fields,vL AQ a.m.reserved,vL AC a.m.gone,vL Ax a.m.notes,vL AE a.s.messages,vL AP a.s.enums,vL AZ a.s.services]⟩)
abbrev cL(a:Fld):Ad×Blk:=((1,4),⟨0,true,54,16,[vI a.num,vS a.name,vI a.card,vI a.key,vI a.type.kind,vS a.type.name,vS a.union,vB a.hasDefault,vI a.dflt.kind,.d (.int .u64 a.dflt.bits),vS a.dflt.text,vL Ar a.dflt.list,vL As a.dflt.pairs,vL Ah a.dflt.slots,vL Au a.dflt.raws,vL Ax a.notes]⟩)
abbrev bZ(a:Val):Ad×Blk:=((1,5),⟨0,true,33,7,[vI a.kind,.d (.int .u64 a.bits),vS a.text,vL Ar a.list,vL As a.pairs,vL Ah a.slots,vL Au a.raws]⟩)
abbrev I0:Int→AV:=fun y=>vI y
def uU(b:Acs)(c:Fld)(a:Val):Nat→St:=fun v2=>Ab [(3,.ptr (1,3) 0 0),(4,.ptr (1,4) 0 0),(5,.ptr (1,5) 0 0),(25,vL As a.pairs),(26,vN a.pairs.length),(27,vN v2)] [(dA b),(cL c),(bZ a)]
def vf:Unit→Nat×St:=fun _=>(0,Ab [] [])
def PC(e:Acs)(c:Fld)(b:Val)(v2:Nat):PT 0 (Lv (Nat) (Unit) (Int)):=br (decide ((v2:Int)<(b.pairs.length:Int))) (ix b.pairs v2 fun a=>vw .go<|vw .go<|vw .go<|cl (de c.key a.key) fun g=>br (!g) (Ap I0 (fun _=>[]) 12) (vw .go<|sL b.pairs .no (.nt v2) fun d=>cs Tryz.prog 90 [vL As d,.fn (.func 91) [] [.ptr (1,8) 1 0]] [(1,8)] [((1,8),⟨1,true,81,14,[vI a.key.kind,.d (.int .u64 a.key.bits),vS a.key.text,vL Ar a.key.list,vL As a.key.pairs,vL Ah a.key.slots,vL Au a.key.raws,vI a.val.kind,.d (.int .u64 a.val.bits),vS a.val.text,vL Ar a.val.list,vL As a.val.pairs,vL Ah a.val.slots,vL Au a.val.raws]⟩)] (JU d (fun(z0:Pr)=>N3 z0 a)) (fun y=>vB y) fun h=>br h (Ap I0 (fun _=>[]) 9) (vw .go<|vw .go<|vw .go<|cl (cF e c.type a.val) fun f=>br (!decide (f=(0:Int))) (Ap I0 (fun _=>[]) f) (vs (wa v2 1)<|ln (uU e c b) (v2+1))))) (Ak (vf) ())
def MC(a:Acs)(b:Fld)(c:Val):Nat→Option (Lv (Nat) (Unit) (Int)):=fun v2=>(PC a b c v2).m
def bj:PT 0 (Int):=lr I0 (fun _=>[]) 0
def aQ(b:Acs)(c:Fld)(a:Val):PT 0 (Int):=vw .go<|vz (Ag a.pairs)<|lc (Ab [(3,.ptr (1,3) 0 0),(4,.ptr (1,4) 0 0),(5,.ptr (1,5) 0 0),(25,vL As a.pairs),(26,vN a.pairs.length),(27,vI 0)] [(dA b),(cL c),(bZ a)]) ((An (MC b c a) Aj 0).bind (Sum.elim (fun _=>(bj).m) some))
def Zk(b:Acs)(c:Fld)(a:Val):PT 0 (Int):=vw .go<|vw .go<|clg (!(!decide (a.kind=(12:Int)))) (y3 a) fun d=>vw .go<|vy (!((!decide (a.kind=(12:Int)))||(!d))) (Ag a.list)<|br (((!decide (a.kind=(12:Int)))||(!d))||decide ((0:Int)<(a.list.length:Int))) (lr I0 (fun _=>[]) 12) (lc (Ab [(3,.ptr (1,3) 0 0),(4,.ptr (1,4) 0 0),(5,.ptr (1,5) 0 0)] [(dA b),(cL c),(bZ a)]) ((aQ b c a).m))
def dN(a:Acs)(b:Fld)(c:Val):Option (Int):=(Zk a b c).m
theorem ZJP{C:Cx}(co:CO C 0)(b:Acs)(c:Fld)(d:Val):KL Tryz.prog (AF tl) 54 C (pa [0,0,1,0,1,1] (AB Tryz.f56)) [.tmp 6] 0 (uU b c d) (vf) I0 (fun _=>[]) (MC b c d):=fun v2 _ hm Q e h f=>AA co Aa Ac (PC b c d v2) (Ae [3,4,5,25,26,27] C1) nl h hm f fun r g=>⟨fun a=>fun o=>⟨id,fun k=>⟨fun y hy=>BQ (ZWm k (fun(z0:Pr)=>N3 z0 a)) hy co g [] [((1,8),⟨1,true,81,14,[vI a.key.kind,.d (.int .u64 a.key.bits),vS a.key.text,vL Ar a.key.list,vL As a.key.pairs,vL Ah a.key.slots,vL Au a.key.raws,vI a.val.kind,.d (.int .u64 a.val.bits),vS a.val.text,vL Ar a.val.list,vL As a.val.pairs,vL Ah a.val.slots,vL Au a.val.raws]⟩)] (AL [(1,.fn (.func 91) [] [.ptr (r.κ (1,8)) (r.γ (1,8)+1) 0])]) (fun m i n=>(fun z0 y j=>Dz (ZWT z0 a) j co g [((1,8),⟨1,true,81,14,[vI a.key.kind,.d (.int .u64 a.key.bits),vS a.key.text,vL Ar a.key.list,vL As a.key.pairs,vL Ah a.key.slots,vL Au a.key.raws,vI a.val.kind,.d (.int .u64 a.val.bits),vS a.val.text,vL Ar a.val.list,vL As a.val.pairs,vL Ah a.val.slots,vL Au a.val.raws]⟩)] [] i (by simp) (fun _=>.top) (fun _ _=>trivial) (fun l H=>⟨fun _=>⟨rfl,by kernel_rfl⟩,by kernel_rfl,trivial⟩))) (fun H=>trivial),fun p=>⟨id,fun q=>⟨id,id⟩⟩⟩⟩,id⟩
theorem ZWG(b:Acs)(c:Fld)(d:Val):KC Tryz.prog 56 [.agg ((F7 b).map .d),.agg ((Aq c).map .d),.agg ((Ai d).map .d)] (dN b c d) I0:=Aw Tryz.func56 Tryz.ntmps56 Aa [.tmp 6] fun C co y hm e a=>Al co Aa Ac 2 (Zk b c d) (Ae [3,4,5] C1) nl (fun _ h=>h) hm a fun r g=>fun f=>⟨id,fun _ hm a=>sq (Al co Aa Ac 1 (aQ b c d) (Ae [3,4,5,25,26,27] C1) nl (fun _ h=>h) hm a fun r g=>fun _ hm a=>bk 0 (lo (AG (ZJP co b c d) (fun _ h=>h) hm a (fun _ hm=>Am co Aa Ac (bj) hm a fun r g=>id))))⟩
abbrev P9:Int→AV:=fun y=>vI y
def bR(b:Acs)(a:Fld)(c:Val):PT 0 (Int):=vw .go<|br (decide (a.card=(4:Int))) (vw .go<|vw .go<|vw .go<|cl (ZXi b a c) fun d=>lr P9 (fun _=>[]) d) (br (decide (a.card=(5:Int))) (vw .go<|vw .go<|vw .go<|cl (ZWG b a c) fun e=>lr P9 (fun _=>[]) e) (vw .go<|vw .go<|vw .go<|cl (cF b a.type c) fun f=>lr P9 (fun _=>[]) f))
def dJ(a:Acs)(b:Fld)(c:Val):Option (Int):=(bR a b c).m
theorem ZXJ(a:Acs)(b:Fld)(c:Val):KC Tryz.prog 26 [.agg ((F7 a).map .d),.agg ((Aq b).map .d),.agg ((Ai c).map .d)] (dJ a b c) P9:=Aw Tryz.func26 Tryz.ntmps26 Aa [.tmp 6] fun C co y hm d e=>Am co Aa Ac (bR a b c) hm e fun r g=>⟨fun f=>id,⟨fun h=>id,fun i=>id⟩⟩
abbrev pe:Bool→AV:=fun y=>vB y
def Zz(a:Val):PT 0 (Bool):=vw .go<|cl (KH a.kind) fun b=>vw .go<|clg b (ZWu a) fun c=>vw .go<|vw .go<|lr pe (fun _=>[]) (((b&&c)&&decide (a.bits=(0:Int)))&&decide (a.text=(⟨#[]⟩:ByteArray)))
def fs(a:Val):Option (Bool):=(Zz a).m
theorem ZW7(a:Val):KC Tryz.prog 61 [.agg ((Ai a).map .d)] (fs a) pe:=Aw Tryz.func61 Tryz.ntmps61 Aa [.tmp 2] fun C co y hm b c=>Am co Aa Ac (Zz a) hm c fun r g=>fun d=>fun e=>id
abbrev oY:Bool→AV:=fun y=>vB y
def aL(b:Fld)(a:Val):PT 0 (Bool):=vw .go<|vw .go<|clg (decide (b.card=(3:Int))) (ZW7 a) fun c=>vw .go<|vw .go<|vy ((!(decide (b.card=(3:Int))&&c))&&decide (a.kind=(11:Int))) (Ag a.list)<|vw .go<|vw .go<|vy ((!((decide (b.card=(3:Int))&&c)||(decide (a.kind=(11:Int))&&decide ((a.list.length:Int)=(0:Int)))))&&decide (a.kind=(12:Int))) (Ag a.pairs)<|lr oY (fun _=>[]) (((decide (b.card=(3:Int))&&c)||(decide (a.kind=(11:Int))&&decide ((a.list.length:Int)=(0:Int))))||(decide (a.kind=(12:Int))&&decide ((a.pairs.length:Int)=(0:Int))))
def eV(a:Fld)(b:Val):Option (Bool):=(aL a b).m
theorem ZXp(a:Fld)(b:Val):KC Tryz.prog 28 [.agg ((Aq a).map .d),.agg ((Ai b).map .d)] (eV a b) oY:=Aw Tryz.func28 Tryz.ntmps28 Aa [.tmp 4] fun C co y hm c d=>Am co Aa Ac (aL a b) hm d fun r g=>fun e=>id
abbrev pf:Bool→AV:=fun y=>vB y
@[reducible] def pC(w0:Slt):Bool→List Blk:=fun y=>[⟨0,true,67,8,[vI w0.num,vI w0.val.kind,.d (.int .u64 w0.val.bits),vS w0.val.text,vL Ar w0.val.list,vL As w0.val.pairs,vL Ah w0.val.slots,vL Au w0.val.raws]⟩]
def uw(a:Slt)(w0:Slt):PT 1 (Bool):=vw .go<|vw .go<|lr pf (pC w0) (decide (w0.num<a.num))
def Tw(a:Slt)(w0:Slt):Option (Bool):=(uw a w0).m
theorem ZWJ(a:Slt)(w0:Slt):KO Tryz.prog 63 1 [.agg ((Cg a).map .d),.ptr (0,0) 0 0] [⟨0,true,67,8,[vI w0.num,vI w0.val.kind,.d (.int .u64 w0.val.bits),vS w0.val.text,vL Ar w0.val.list,vL As w0.val.pairs,vL Ah w0.val.slots,vL Au w0.val.raws]⟩] (fun _ _ _ _=>True) (Tw a w0) pf (pC w0):=Be Tryz.func63 Tryz.ntmps63 Aa [.tmp 3] 1 (fun C co d y hm b c=>Am co Aa Ac (uw a w0) hm c fun r g=>id) (hB:=fun y=>⟨.inr (by kernel_rfl),rfl,trivial⟩)
abbrev y1:List Slt→AV:=fun y=>.ref (0,0) 1 0 y.length
@[reducible] def za(a:List Slt):List Slt→List Blk:=fun y=>[⟨1,true,67,8,Af Ah y⟩,⟨0,true,67,8,Af Ah a⟩]
def U4(b:List Slt)(c:Int)(a:List Slt):PT 2 (List Slt):=sR b.length 0 (.it c) .no<|vz (A2 a.length)<|bF (decide ((a.length:Int)=(0:Int)))<|vz (A2 b.length)<|bT (decide (c=(b.length:Int)))<|ar b a (0,1) 0<|GP 0 (Af Ah a) (fun _=>Zo6 _)<|lr y1 (za a) (b++a)
def Zig(a:List Slt)(b:Int)(c:List Slt):Option (List Slt):=(U4 a b c).m
theorem ZS8(b:List Slt)(c:Int)(a:List Slt):KO Tryz.prog 64 2 [.ref (0,0) 0 0 b.length,vI c,.ref (0,1) 0 0 a.length] [⟨0,true,67,8,Af Ah b⟩,⟨0,true,67,8,Af Ah a⟩] (fun _ _ _ _=>True) (Zig b c a) y1 (za a):=Be Tryz.func64 Tryz.ntmps64 Aa [.tmp 6] 2 (fun C co f y hm d e=>Am co Aa Ac (U4 b c a) hm e fun r g=>id) (hB:=fun y=>⟨.inl (A0 _ _),rfl,⟨.inl (A0 _ _),rfl,trivial⟩⟩)
abbrev E64:List Slt→AV:=fun y=>.ref (0,0) 1 0 y.length
@[reducible] def pD(a:List Slt):List Slt→List Blk:=fun y=>[⟨1,true,67,8,Af Ah y⟩,⟨0,true,67,8,Af Cg a⟩]
def Lw(a:List Slt)(b:Int)(c:List Slt):Option (List Slt):=if 0≤b∧b≤a.length∧a.length<549755813887∧c.length=1 then some (a.take b.toNat++c++a.drop b.toNat)else none
theorem cS(d:List Slt)(t:Int)(p:List Slt):KO Tryz.prog 64 2 [.ref (0,0) 0 0 d.length,vI t,.ref (0,1) 0 0 p.length] [⟨0,true,67,8,Af Ah d⟩,⟨0,true,67,8,Af Cg p⟩] (fun _ _ _ _=>True) (Lw d t p) E64 (pD p):=⟨fun l H ks s θ n c f j z y hy=>by
 obtain⟨⟨v,D,E,w⟩,hy⟩:=BJ hy
 cases hy
 obtain⟨i,rfl⟩:=W7 v
 rw[C9]
 match p,w with
 |[x],_=>
  have ev:Af Cg [x]=Af Ah [x]:=by simp[Af,IC]
  dsimp only[pD]
  rw[ev]at j⊢
  by_cases hi:i=d.length
  ·subst hi
   refine(ZS8 d (d.length:Int) [x]).k l H ks s θ n c f j z _ ?_
   show(U4 d (d.length:Int) [x]).m=_
   dsimp only[U4,sR,vz,Ag,bF,bT,A2,aq,GP,lr]
   simp[Bd.c,Bd.vl]
   omega
  ·match ks,n,c,f,j with
   |[m,h],_,c,f,j=>
    have A:H m=⟨_,true,.t 67,8,Af Ah d⟩:=(j.1.2 rfl).trans (LB (A0 _ _))
    have u:H h=⟨_,true,.t 67,8,Af Ah [x]⟩:=(j.2.1.2 rfl).trans (LB (A0 _ _))
    have o:m≠h:=fun e=>by subst e;simp at f
    have hl:(d.take i++[x]++d.drop i).length=d.length+1:=by
     simp only[Yx,YC,CV,Ej,Y5]
     omega
    refine ZuK c.1 c.2.1 o d x i (by omega) (by omega) A u ⟨?_,?_⟩
    ·show _=AV.ref _ _ _ _
     rw[hl]
     rfl
    ·have B:=LB (r:=B5 l [m,h] s θ H) (k:=(0,0)) (g:=1) (e:=67) (sz:=8) (A0 Ah (d.take i++[x]++d.drop i))
     have C:=LB (r:=B5 l [m,h] s θ H) (k:=(0,1)) (g:=0) (e:=67) (sz:=8) (A0 Ah [x])
     refine Eq.trans ?_ (congr (congrArg (fun a b=>updH (updH H m a) h b) B) C).symm
     show _=updH (updH H m _) h _
     rw[←u]
     funext q
     by_cases e:q=h
     ·subst e
      rw[AM,AI _ _ o.symm]
     ·rw[AI (k:=h) _ _ e]
      simp⟩
abbrev FA(a:Slt):Ad×Blk:=((1,17),⟨1,true,67,8,Af Cg ([a]:List Slt)⟩)
abbrev KN:Ad×Blk:=((1,14),⟨0,false,0,0,[]⟩)
abbrev dn(a:Slt):Ad×Blk:=((1,3),⟨1,true,67,8,[vI a.num,vI a.val.kind,.d (.int .u64 a.val.bits),vS a.val.text,vL Ar a.val.list,vL As a.val.pairs,vL Ah a.val.slots,vL Au a.val.raws]⟩)
abbrev oZ:List Slt→AV:=fun y=>vL Ah y
def J9(a:List Slt):PT 0 (List Slt):=vz (fr a)<|lr oZ (fun _=>[]) a
def bb(d:List Slt)(b:Slt)(v2:Int):PT 0 (List Slt):=tw (ch Tryz.prog 36 [vL Ah d] [(1,14)] ([KN]++[]) (JY d) (fun z=>.ref (1,14) 1 0 z.length) (fun z=>[((1,14),⟨1,true,67,8,Af Ah z⟩)]) fun c=>vw .go<|vw .go<|ch Tryz.prog 64 [.ref (1,14) 1 0 c.length,vI v2,.ref (1,17) 1 0 ([b]:List Slt).length] [(1,14),(1,17)] ([((1,14),⟨1,true,67,8,Af Ah c⟩),(FA b)]++[]) (Lw c v2 ([b]:List Slt)) (fun z=>.ref (1,14) 2 0 z.length) (fun z=>[((1,14),⟨2,true,67,8,Af Ah z⟩),(FA b)]) fun a=>vz (fl a)<|lc (Ab [(4,.ref (1,14) 0 0 a.length)] [((1,14),⟨0,true,67,8,Af Ah a⟩)]) ((J9 a).m)) (vw .go<|tw (ch Tryz.prog 36 [vL Ah d] [(1,14)] ([KN]++[]) (JY d) (fun z=>.ref (1,14) 1 0 z.length) (fun z=>[((1,14),⟨1,true,67,8,Af Ah z⟩)]) fun c=>vw .go<|ch Tryz.prog 64 [.ref (1,14) 1 0 c.length,vI v2,.ref (1,17) 1 0 ([b]:List Slt).length] [(1,14),(1,17)] ([((1,14),⟨1,true,67,8,Af Ah c⟩),(FA b)]++[]) (Lw c v2 ([b]:List Slt)) (fun z=>.ref (1,14) 2 0 z.length) (fun z=>[((1,14),⟨2,true,67,8,Af Ah z⟩),(FA b)]) fun a=>vz (fl a)<|lc (Ab [(4,.ref (1,14) 0 0 a.length)] [((1,14),⟨0,true,67,8,Af Ah a⟩)]) ((J9 a).m)) (vw .go<|ch Tryz.prog 36 [vL Ah d] [(1,14)] ([KN]++[]) (JY d) (fun z=>.ref (1,14) 1 0 z.length) (fun z=>[((1,14),⟨1,true,67,8,Af Ah z⟩)]) fun c=>ch Tryz.prog 64 [.ref (1,14) 1 0 c.length,vI v2,.ref (1,17) 1 0 ([b]:List Slt).length] [(1,14),(1,17)] ([((1,14),⟨1,true,67,8,Af Ah c⟩),(FA b)]++[]) (Lw c v2 ([b]:List Slt)) (fun z=>.ref (1,14) 2 0 z.length) (fun z=>[((1,14),⟨2,true,67,8,Af Ah z⟩),(FA b)]) fun a=>vz (fl a)<|lc (Ab [(4,.ref (1,14) 0 0 a.length)] [((1,14),⟨0,true,67,8,Af Ah a⟩)]) ((J9 a).m)))
def oe(b:List Slt)(a:Slt):Int→St:=fun v2=>Ab [(0,vL Ah b),(3,.ptr (1,3) 0 0),(5,vI v2)] [((1,3),⟨0,true,67,8,[vI a.num,vI a.val.kind,.d (.int .u64 a.val.bits),vS a.val.text,vL Ar a.val.list,vL As a.val.pairs,vL Ah a.val.slots,vL Au a.val.raws]⟩)]
def Uh(a:List Slt)(b:Slt):Int→Option (List Slt):=fun v2=>(bb a b v2).m
def Xv(a:List Slt)(b:Slt):PT 0 (List Slt):=cs Tryz.prog 62 [vL Ah a,.fn (.func 63) [] [.ptr (1,3) 1 0]] [(1,3)] [(dn b)] (Lr a (fun(z0:Slt)=>Tw z0 b)) (fun y=>vI y) fun c=>br (decide (c<(0:Int))) (vz (Ag a)<|lc (oe a b (a.length:Int)) (Uh a b (a.length:Int))) (lc (oe a b c) (Uh a b c))
def ff(a:List Slt)(b:Slt):Option (List Slt):=(Xv a b).m
theorem zl(c:List Slt)(a:Slt):KC Tryz.prog 29 [vL Ah c,.agg ((Cg a).map .d)] (ff c a) oZ:=Aw Tryz.func29 Tryz.ntmps29 Aa [.tmp 4] fun C co y hm n d=>vr co Aa Ac 3 (Xv c a) (Ae [0,3,5] DP) nl (fun _ h=>h) hm d (oe c a) (Uh c a) (fun v2 _ hm d=>sq (F2 co Aa Ac (.fst 0 (.fst 2 (.two 1 3 (.fst 3 (.fst 4 (.fst 5 (.fst 6 .nil)))) (.two 1 4 (.fst 4 (.fst 5 (.fst 6 .nil))) (.fst 1 (.fst 5 (.fst 6 .nil))))))) [] (bb c a v2) (Ae [4] [((1,14),true)]) hm d fun r g=>⟨⟨fun z b=>DV (Sn c) b co g [KN] [] [((1,14),⟨1,true,67,8,Af Ah z⟩)] (AL []) (fun i f j=>trivial) (fun H=>⟨(fun h=>by cases h),by kernel_rfl,trivial⟩) (fun H=>⟨fun _=>⟨rfl,Bn (A0 _ _) (by kernel_rfl)⟩,by kernel_rfl,trivial⟩),fun z=>trivial,fun e=>⟨fun z b=>DV (cS e v2 ([a]:List Slt)) b co g [((1,14),⟨1,true,67,8,Af Ah e⟩),(FA a)] [] [((1,14),⟨2,true,67,8,Af Ah z⟩),(FA a)] (AL []) (fun i f j=>trivial) (fun H=>⟨fun _=>⟨rfl,Bn (A0 _ _) (by kernel_rfl)⟩,by kernel_rfl,⟨fun _=>⟨rfl,Bn (A0 _ _) (by kernel_rfl)⟩,by kernel_rfl,trivial⟩⟩) (fun H=>⟨fun _=>⟨rfl,Bn (A0 _ _) (by kernel_rfl)⟩,by kernel_rfl,⟨fun _=>⟨rfl,Bn (A0 _ _) (by kernel_rfl)⟩,by kernel_rfl,trivial⟩⟩),fun z=>trivial,fun k=>fun _ hm d=>Am co Aa Ac (J9 k) hm d fun r g=>id⟩⟩,⟨⟨fun z b=>DV (Sn c) b co g [KN] [] [((1,14),⟨1,true,67,8,Af Ah z⟩)] (AL []) (fun i f j=>trivial) (fun H=>⟨(fun h=>by cases h),by kernel_rfl,trivial⟩) (fun H=>⟨fun _=>⟨rfl,Bn (A0 _ _) (by kernel_rfl)⟩,by kernel_rfl,trivial⟩),fun z=>trivial,fun e=>⟨fun z b=>DV (cS e v2 ([a]:List Slt)) b co g [((1,14),⟨1,true,67,8,Af Ah e⟩),(FA a)] [] [((1,14),⟨2,true,67,8,Af Ah z⟩),(FA a)] (AL []) (fun i f j=>trivial) (fun H=>⟨fun _=>⟨rfl,Bn (A0 _ _) (by kernel_rfl)⟩,by kernel_rfl,⟨fun _=>⟨rfl,Bn (A0 _ _) (by kernel_rfl)⟩,by kernel_rfl,trivial⟩⟩) (fun H=>⟨fun _=>⟨rfl,Bn (A0 _ _) (by kernel_rfl)⟩,by kernel_rfl,⟨fun _=>⟨rfl,Bn (A0 _ _) (by kernel_rfl)⟩,by kernel_rfl,trivial⟩⟩),fun z=>trivial,fun k=>fun _ hm d=>Am co Aa Ac (J9 k) hm d fun r g=>id⟩⟩,⟨fun z b=>DV (Sn c) b co g [KN] [] [((1,14),⟨1,true,67,8,Af Ah z⟩)] (AL []) (fun i f j=>trivial) (fun H=>⟨(fun h=>by cases h),by kernel_rfl,trivial⟩) (fun H=>⟨fun _=>⟨rfl,Bn (A0 _ _) (by kernel_rfl)⟩,by kernel_rfl,trivial⟩),fun z=>trivial,fun e=>⟨fun z b=>DV (cS e v2 ([a]:List Slt)) b co g [((1,14),⟨1,true,67,8,Af Ah e⟩),(FA a)] [] [((1,14),⟨2,true,67,8,Af Ah z⟩),(FA a)] (AL []) (fun i f j=>trivial) (fun H=>⟨fun _=>⟨rfl,Bn (A0 _ _) (by kernel_rfl)⟩,by kernel_rfl,⟨fun _=>⟨rfl,Bn (A0 _ _) (by kernel_rfl)⟩,by kernel_rfl,trivial⟩⟩) (fun H=>⟨fun _=>⟨rfl,Bn (A0 _ _) (by kernel_rfl)⟩,by kernel_rfl,⟨fun _=>⟨rfl,Bn (A0 _ _) (by kernel_rfl)⟩,by kernel_rfl,trivial⟩⟩),fun z=>trivial,fun k=>fun _ hm d=>Am co Aa Ac (J9 k) hm d fun r g=>id⟩⟩,fun _ h=>h⟩,fun _ h=>h⟩)) fun m r g=>⟨fun y hy=>BQ (dC c (fun(z0:Slt)=>Tw z0 a)) hy co g [] [(dn a)] (AL [(1,.fn (.func 63) [] [.ptr (r.κ (1,3)) (r.γ (1,3)+1) 0])]) (fun i f j=>(fun z0 y b=>Dz (ZWJ z0 a) b co g [(dn a)] [] f (by simp) (fun _=>.top) (fun _ _=>trivial) (fun l H=>⟨fun _=>⟨rfl,by kernel_rfl⟩,by kernel_rfl,trivial⟩))) (fun H=>trivial),fun o=>⟨m (c.length:Int),m o⟩⟩
abbrev cT:List (Ad×Bool):=[((1,9),false),((1,10),false),((1,13),false),((1,16),false)]
abbrev SM(a:Val):Ad×Blk:=((1,9),⟨0,true,33,7,[vI a.kind,.d (.int .u64 a.bits),vS a.text,vL Ar a.list,vL As a.pairs,vL Ah a.slots,vL Au a.raws]⟩)
abbrev Sh:Ad×Blk:=((1,10),⟨0,true,33,7,[vI 0,.d (.int .u64 0),vS ⟨#[]⟩,.e0,.e0,.e0,.e0]⟩)
abbrev R6(a:Acs×Fld×Int):Ad×Blk:=((1,13),⟨0,true,54,16,[vI a.2.1.num,vS a.2.1.name,vI a.2.1.card,vI a.2.1.key,vI a.2.1.type.kind,vS a.2.1.type.name,vS a.2.1.union,vB a.2.1.hasDefault,vI a.2.1.dflt.kind,.d (.int .u64 a.2.1.dflt.bits),vS a.2.1.dflt.text,vL Ar a.2.1.dflt.list,vL As a.2.1.dflt.pairs,vL Ah a.2.1.dflt.slots,vL Au a.2.1.dflt.raws,vL Ax a.2.1.notes]⟩)
abbrev zR(a:Val):Ad×Blk:=((1,16),⟨0,true,33,7,[vI a.kind,.d (.int .u64 a.bits),vS a.text,vL Ar a.list,vL As a.pairs,vL Ah a.slots,vL Au a.raws]⟩)
abbrev E8:Val×Int→AV:=fun y=>.tup [.agg ((Ai y.1).map .d),vI y.2]
def zu(h:Int)(i:Val)(j:Acs×Fld×Int)(d:List Fld):Nat×Int×Int×ByteArray×List Val×List Pr×List Slt×List Raw→St:=fun(v5,c6,e,f,g,a,b,c)=>Ab [(3,vI h),(9,.ptr (1,9) 0 0),(10,.ptr (1,10) 0 0),(13,.ptr (1,13) 0 0),(16,.ptr (1,16) 0 0),(46,vL Aq d),(47,vN d.length),(48,vN v5)] [(SM i),Sh,(R6 j),((1,16),⟨0,true,33,7,[vI c6,.d (.int .u64 e),vS f,vL Ar g,vL As a,vL Ah b,vL Au c]⟩)]
def z2(h:Int)(i:Val)(j:Acs×Fld×Int):Int×Int×ByteArray×List Val×List Pr×List Slt×List Raw→Nat×St:=fun(a,b,c,d,e,f,g)=>(0,Ab [(3,vI h),(9,.ptr (1,9) 0 0),(10,.ptr (1,10) 0 0),(13,.ptr (1,13) 0 0),(16,.ptr (1,16) 0 0)] [(SM i),Sh,(R6 j),((1,16),⟨0,true,33,7,[vI a,.d (.int .u64 b),vS c,vL Ar d,vL As e,vL Ah f,vL Au g]⟩)])
def Sr(j:Int)(k:Val)(l:Acs×Fld×Int)(f:List Fld)(v5:Nat)(c6:Int)(g:Int)(h:ByteArray)(i:List Val)(b:List Pr)(c:List Slt)(d:List Raw):PT 0 (Lv (Nat×Int×Int×ByteArray×List Val×List Pr×List Slt×List Raw) (Int×Int×ByteArray×List Val×List Pr×List Slt×List Raw) (Val×Int)):=br (decide ((v5:Int)<(f.length:Int))) (ix f v5 fun e=>vw .go<|vw .go<|vw .go<|cl (SL (.mk c6 g h i b c d:Val) e.num) fun a=>vw .go<|vs (wa v5 1)<|ln (zu j k l f) (v5+1,a.kind,a.bits,a.text,a.list,a.pairs,a.slots,a.raws)) (Ak (z2 j k l) (c6,g,h,i,b,c,d))
def NS(g:Int)(h:Val)(i:Acs×Fld×Int)(j:List Fld):Nat×Int×Int×ByteArray×List Val×List Pr×List Slt×List Raw→Option (Lv (Nat×Int×Int×ByteArray×List Val×List Pr×List Slt×List Raw) (Int×Int×ByteArray×List Val×List Pr×List Slt×List Raw) (Val×Int)):=fun(v5,c6,d,e,f,a,b,c)=>(Sr g h i j v5 c6 d e f a b c).m
def cM(k:Int)(j:Val)(l:Acs×Fld×Int)(a:Int)(b:Int)(c:ByteArray)(d:List Val)(e:List Pr)(f:List Slt)(g:List Raw):PT 0 (Val×Int):=vw .go<|vw .go<|cl (ZXp l.2.1 j) fun h=>br (!h) (vw .go<|vw .go<|cl (zl f (.mk k j:Slt)) fun i=>vw .go<|vw .go<|vw .go<|lr E8 (fun _=>[]) ((.mk a b c d e i g:Val),0)) (vw .go<|vw .go<|lr E8 (fun _=>[]) ((.mk a b c d e f g:Val),0))
def dh(k:Int)(l:Val)(b:Acs×Fld×Int)(a:Val):PT 0 (Val×Int):=vw .go<|vw .go<|cl (dl b.1.m b.2.1.union) fun c=>vz (Ag c)<|lc (Ab [(3,vI k),(9,.ptr (1,9) 0 0),(10,.ptr (1,10) 0 0),(13,.ptr (1,13) 0 0),(16,.ptr (1,16) 0 0),(46,vL Aq c),(47,vN c.length),(48,vI 0)] [(SM l),Sh,(R6 b),(zR a)]) ((An (NS k l b c) Aj (0,a.kind,a.bits,a.text,a.list,a.pairs,a.slots,a.raws)).bind (Sum.elim (fun(d,e,f,g,h,i,j)=>(cM k l b d e f g h i j).m) some))
def dq(f:Scm)(g:ByteArray)(h:Val)(b:Int)(c:Val):PT 0 (Val×Int):=vw .go<|cl (yU f g b) fun a=>vw .go<|vw .go<|br (!decide (a.2.2=(0:Int))) (vw .go<|lr E8 (fun _=>[]) ((.mk 0 0 ⟨#[]⟩ [] [] [] []:Val),a.2.2)) (vw .go<|vw .go<|vw .go<|cl (ZXJ a.1 a.2.1 c) fun d=>br (!decide (d=(0:Int))) (vw .go<|lr E8 (fun _=>[]) ((.mk 0 0 ⟨#[]⟩ [] [] [] []:Val),d)) (vw .go<|cl (SL h b) fun e=>vw .go<|lc (Ab [(3,vI b),(9,.ptr (1,9) 0 0),(10,.ptr (1,10) 0 0),(12,.ptr (1,12) 0 0),(13,.ptr (1,13) 0 0),(16,.ptr (1,16) 0 0)] [(SM c),Sh,((1,12),⟨0,true,69,8,[vS a.1.m.name,vL Aq a.1.m.fields,vL AQ a.1.m.reserved,vL AC a.1.m.gone,vL Ax a.1.m.notes,vL AE a.1.s.messages,vL AP a.1.s.enums,vL AZ a.1.s.services]⟩),(R6 a),(zR e)]) ((dh b c a e).m)))
def fH(a:Scm)(b:ByteArray)(c:Val)(d:Int)(e:Val):Option (Val×Int):=(dq a b c d e).m
theorem ZOK{C:Cx}(co:CO C 0)(a:Int)(b:Val)(c:Acs×Fld×Int)(h:List Fld):KL Tryz.prog (AF tl) 69 C (pa [0,0,1,0,1,1,1,1,1] (AB Tryz.f8)) [.cell 10 33,.tmp 11] 0 (zu a b c h) (z2 a b c) E8 (fun _=>[]) (NS a b c h):=fun(v5,c6,j,k,l,d,e,f) _ hm Q i o n=>AA co Aa Ac (Sr a b c h v5 c6 j k l d e f) (Ae [3,9,10,13,16,46,47,48] cT) (Ae [3,9,10,13,16] cT) o hm n fun r g=>⟨fun m=>fun p=>id,id⟩
theorem WV(m:Scm)(n:ByteArray)(o:Val)(b:Int)(c:Val):KC Tryz.prog 8 [.agg ((Av m).map .d),vS n,.agg ((Ai o).map .d),vI b,.agg ((Ai c).map .d)] (fH m n o b c) E8:=Aw Tryz.func8 Tryz.ntmps8 Aa [.cell 10 33,.tmp 11] fun C co y hm q a=>Al co Aa Ac 5 (dq m n o b c) (Ae [3,9,10,12,13,16] [((1,9),false),((1,10),false),((1,12),false),((1,13),false),((1,16),false)]) nl (fun _ h=>h) hm a fun r g=>fun p=>⟨id,fun w=>⟨id,fun u=>fun _ hm a=>sq (Al co Aa Ac 1 (dh b c p u) (Ae [3,9,10,13,16,46,47,48] cT) nl (fun _ h=>h) hm a fun r g=>fun v=>fun _ hm a=>bk 0 (lo (AG (ZOK co b c p v) (fun _ h=>h) hm a (fun(d,e,f,i,j,k,l) hm=>Am co Aa Ac (cM b c p d e f i j k l) hm a fun r g=>fun s=>⟨fun t=>id,id⟩))))⟩⟩
abbrev pj:Bool→AV:=fun y=>vB y
@[reducible] def pE(w0:Int):Bool→List Blk:=fun y=>[⟨0,true,3,1,[vI w0]⟩]
def ui(a:Slt)(w0:Int):PT 1 (Bool):=vw .go<|vw .go<|lr pj (pE w0) (decide (a.num=w0))
def fa(a:Slt)(w0:Int):Option (Bool):=(ui a w0).m
theorem ZXj(a:Slt)(w0:Int):KO Tryz.prog 69 1 [.agg ((Cg a).map .d),.ptr (0,0) 0 0] [⟨0,true,3,1,[vI w0]⟩] (fun _ _ _ _=>True) (fa a w0) pj (pE w0):=Be Tryz.func69 Tryz.ntmps69 Aa [.tmp 3] 1 (fun C co d y hm b c=>Am co Aa Ac (ui a w0) hm c fun r g=>id) (hB:=fun y=>⟨.inr (by kernel_rfl),rfl,trivial⟩)
abbrev o2:Int→AV:=fun y=>vI y
def xS(a:List Slt)(b:Int):PT 0 (Int):=cs Tryz.prog 62 [vL Ah a,.fn (.func 69) [] [.ptr (1,3) 1 0]] [(1,3)] [((1,3),⟨1,true,3,1,[vI b]⟩)] (Lr a (fun(z0:Slt)=>fa z0 b)) (fun y=>vI y) fun c=>lr o2 (fun _=>[]) c
def ZhK(a:List Slt)(b:Int):Option (Int):=(xS a b).m
theorem ZWh(b:List Slt)(a:Int):KC Tryz.prog 38 [vL Ah b,vI a] (ZhK b a) o2:=Aw Tryz.func38 Tryz.ntmps38 Aa [.tmp 4] fun C co y hm c d=>Am co Aa Ac (xS b a) hm d fun r g=>⟨fun y hy=>BQ (dC b (fun(z0:Slt)=>fa z0 a)) hy co g [] [((1,3),⟨1,true,3,1,[vI a]⟩)] (AL [(1,.fn (.func 69) [] [.ptr (r.κ (1,3)) (r.γ (1,3)+1) 0])]) (fun h e i=>(fun z0 y f=>Dz (ZXj z0 a) f co g [((1,3),⟨1,true,3,1,[vI a]⟩)] [] e (by simp) (fun _=>.top) (fun _ _=>trivial) (fun l H=>⟨fun _=>⟨rfl,by kernel_rfl⟩,by kernel_rfl,trivial⟩))) (fun H=>trivial),fun j=>id⟩
abbrev WK:Val→AV:=fun y=>.agg ((Ai y).map .d)
def v8(a:Int):PT 0 (Val):=cl (KH a) fun b=>br (!b) (vw .go<|lr WK (fun _=>[]) (.mk 0 0 ⟨#[]⟩ [] [] [] []:Val)) (vw .go<|lr WK (fun _=>[]) (.mk a 0 ⟨#[]⟩ [] [] [] []:Val))
def Zkj(a:Int):Option (Val):=(v8 a).m
theorem ZWy(a:Int):KC Tryz.prog 70 [vI a] (Zkj a) WK:=Aw Tryz.func70 Tryz.ntmps70 Aa [.cell 2 33] fun C co y hm b c=>Am co Aa Ac (v8 a) hm c fun r g=>fun d=>⟨id,id⟩
abbrev Kk:Val→AV:=fun y=>.agg ((Ai y).map .d)
def x0(a:Fld):PT 0 (Val):=vw .go<|br a.hasDefault (vw .go<|vw .go<|lr Kk (fun _=>[]) a.dflt) (vw .go<|br (decide (a.card=(4:Int))) (vw .go<|lr Kk (fun _=>[]) (.mk 11 0 ⟨#[]⟩ [] [] [] []:Val)) (vw .go<|br (decide (a.card=(5:Int))) (vw .go<|lr Kk (fun _=>[]) (.mk 12 0 ⟨#[]⟩ [] [] [] []:Val)) (vw .go<|br (decide (a.type.kind=(10:Int))) (vw .go<|lr Kk (fun _=>[]) (.mk 10 0 ⟨#[]⟩ [] [] [] []:Val)) (vw .go<|cl (ZWy a.type.kind) fun b=>vw .go<|lr Kk (fun _=>[]) b))))
def Zih(a:Fld):Option (Val):=(x0 a).m
theorem ZXw(a:Fld):KC Tryz.prog 39 [.agg ((Aq a).map .d)] (Zih a) Kk:=Aw Tryz.func39 Tryz.ntmps39 Aa [.cell 2 33] fun C co y hm b c=>Am co Aa Ac (x0 a) hm c fun r g=>⟨id,⟨id,⟨id,⟨id,fun d=>id⟩⟩⟩⟩
abbrev P7:Val×Int→AV:=fun y=>.tup [.agg ((Ai y.1).map .d),vI y.2]
def uZ(f:Scm)(g:ByteArray)(b:Val)(c:Int):PT 0 (Val×Int):=vw .go<|cl (yU f g c) fun a=>vw .go<|vw .go<|br (!decide (a.2.2=(0:Int))) (vw .go<|lr P7 (fun _=>[]) ((.mk 0 0 ⟨#[]⟩ [] [] [] []:Val),a.2.2)) (vw .go<|cl (ZWh b.slots c) fun d=>br (decide ((0:Int)≤d)) (vw .go<|B4 b.slots d fun e=>vw .go<|lr P7 (fun _=>[]) (e.val,0)) (vw .go<|cl (ZXw a.2.1) fun h=>vw .go<|lr P7 (fun _=>[]) (h,0)))
def Zkc(a:Scm)(b:ByteArray)(c:Val)(d:Int):Option (Val×Int):=(uZ a b c d).m
theorem ZWL(a:Scm)(b:ByteArray)(c:Val)(d:Int):KC Tryz.prog 15 [.agg ((Av a).map .d),vS b,.agg ((Ai c).map .d),vI d] (Zkc a b c d) P7:=Aw Tryz.func15 Tryz.ntmps15 Aa [.cell 8 33,.tmp 9] fun C co y hm e f=>Am co Aa Ac (uZ a b c d) hm f fun r g=>fun i=>⟨id,fun j=>⟨fun h=>id,fun k=>id⟩⟩
abbrev oV:Bool→AV:=fun y=>vB y
def x1(a:Val)(b:Int):PT 0 (Bool):=vw .go<|cl (ZWh a.slots b) fun c=>lr oV (fun _=>[]) (decide ((0:Int)≤c))
def Zkd(a:Val)(b:Int):Option (Bool):=(x1 a b).m
theorem cC(a:Val)(b:Int):KC Tryz.prog 17 [.agg ((Ai a).map .d),vI b] (Zkd a b) oV:=Aw Tryz.func17 Tryz.ntmps17 Aa [.tmp 4] fun C co y hm c d=>Am co Aa Ac (x1 a b) hm d fun r g=>fun e=>id
abbrev o4:Bool→AV:=fun y=>vB y
def H45(a:Fld→Option Bool):Cl:=fun no l H θ=>(∀(z0:Fld) y,a z0=some y→Cr Tryz.prog l no H (θ 1) [.agg ((Aq z0).map .d)] (vB y))
def u9(b:List Fld)(a:Fld→Option Bool):PT 0 (Bool):=cs Tryz.prog 80 [vL Aq b,.fn (.yield 1) [] []] [] [] (ZeU b a) (fun y=>vI y) fun c=>lr o4 (fun _=>[]) (decide ((0:Int)≤c))
def ZdV(b:List Fld)(a:Fld→Option Bool):Option (Bool):=(u9 b a).m
theorem ZWB(b:List Fld)(a:Fld→Option Bool):KO Tryz.prog 45 0 [vL Aq b,.fn (.yield 1) [] []] [] (H45 a) (ZdV b a) o4 (fun _=>[]):=Be Tryz.func45 Tryz.ntmps45 Aa [.tmp 4] 0 (fun C co e y hm c d=>Am co Aa Ac (u9 b a) hm d fun r g=>⟨fun y hy=>BQ (ZXB b a) hy co g [] [] (AL [(1,r.θ 1)]) (fun i j f=>(fun z0 y h=>LZ co g [] f (e z0 y h))) (fun H=>trivial),fun k=>id⟩)
abbrev o5:Bool→AV:=fun y=>vB y
@[reducible] def pz(w0:Slt):Bool→List Blk:=fun y=>[⟨0,true,67,8,[vI w0.num,vI w0.val.kind,.d (.int .u64 w0.val.bits),vS w0.val.text,vL Ar w0.val.list,vL As w0.val.pairs,vL Ah w0.val.slots,vL Au w0.val.raws]⟩]
def wE(a:Fld)(w0:Slt):PT 1 (Bool):=vw .go<|vw .go<|lr o5 (pz w0) (decide (a.num=w0.num))
def eZ(a:Fld)(w0:Slt):Option (Bool):=(wE a w0).m
theorem ZXA(a:Fld)(w0:Slt):KO Tryz.prog 46 1 [.agg ((Aq a).map .d),.ptr (0,0) 0 0] [⟨0,true,67,8,[vI w0.num,vI w0.val.kind,.d (.int .u64 w0.val.bits),vS w0.val.text,vL Ar w0.val.list,vL As w0.val.pairs,vL Ah w0.val.slots,vL Au w0.val.raws]⟩] (fun _ _ _ _=>True) (eZ a w0) o5 (pz w0):=Be Tryz.func46 Tryz.ntmps46 Aa [.tmp 3] 1 (fun C co d y hm b c=>Am co Aa Ac (wE a w0) hm c fun r g=>id) (hB:=fun y=>⟨.inr (by kernel_rfl),rfl,trivial⟩)
abbrev WE:Int×Int→AV:=fun y=>.tup [vI y.1,vI y.2]
def wv(a:Val)(b:List Fld):Nat→St:=fun v3=>Ab [(12,vL Aq b),(31,vL Ah a.slots),(32,vN a.slots.length),(33,vN v3)] []
def ZSK:Empty→Nat×St:=Empty.elim
def uk(b:Val)(c:List Fld)(v3:Nat):PT 0 (Lv (Nat) (Empty) (Int×Int)):=bT (decide ((v3:Int)<(b.slots.length:Int)))<|ix b.slots v3 fun a=>vw .go<|cs Tryz.prog 45 [vL Aq c,.fn (.func 46) [] [.ptr (1,14) 1 0]] [(1,14)] [((1,14),⟨1,true,67,8,[vI a.num,vI a.val.kind,.d (.int .u64 a.val.bits),vS a.val.text,vL Ar a.val.list,vL As a.val.pairs,vL Ah a.val.slots,vL Au a.val.raws]⟩)] (ZdV c (fun(z0:Fld)=>eZ z0 a)) (fun y=>vB y) fun d=>br d (vw .go<|Ap WE (fun _=>[]) (a.num,0)) (vs (wa v3 1)<|ln (wv b c) (v3+1))
def xB(a:Val)(b:List Fld):Nat→Option (Lv (Nat) (Empty) (Int×Int)):=fun v3=>(uk a b v3).m
def vY(a:Val)(b:List Fld):PT 0 (Int×Int):=vw .go<|vz (Ag a.slots)<|lc (Ab [(12,vL Aq b),(31,vL Ah a.slots),(32,vN a.slots.length),(33,vI 0)] []) ((An (xB a b) Aj 0).bind (Sum.elim (Empty.elim) some))
def wR(d:Scm)(e:ByteArray)(a:Val)(f:ByteArray):PT 0 (Int×Int):=vw .go<|cl (Sf d e) fun c=>vw .go<|bF (!c.2)<|vw .go<|cl (dl c.1.m f) fun b=>vz (Ag b)<|bF (decide ((b.length:Int)=(0:Int)))<|lc (Ab [(6,.ptr (1,6) 0 0),(12,vL Aq b)] [((1,6),⟨0,true,33,7,[vI a.kind,.d (.int .u64 a.bits),vS a.text,vL Ar a.list,vL As a.pairs,vL Ah a.slots,vL Au a.raws]⟩)]) ((vY a b).m)
def ZhD(a:Scm)(b:ByteArray)(c:Val)(d:ByteArray):Option (Int×Int):=(wR a b c d).m
theorem ZJZ{C:Cx}(co:CO C 0)(c:Val)(b:List Fld):KL Tryz.prog (AF tl) 43 C (pa [0,0,1,0,1,1,1,1,1] (AB Tryz.f21)) [.tmp 8,.tmp 9] 0 (wv c b) (ZSK) WE (fun _=>[]) (xB c b):=fun v3 _ hm Q d f e=>AA co Aa Ac (uk c b v3) (AN [12,31,32,33]) nl f hm e fun r g=>fun a=>⟨fun y hy=>BQ (ZWB b (fun(z0:Fld)=>eZ z0 a)) hy co g [] [((1,14),⟨1,true,67,8,[vI a.num,vI a.val.kind,.d (.int .u64 a.val.bits),vS a.val.text,vL Ar a.val.list,vL As a.val.pairs,vL Ah a.val.slots,vL Au a.val.raws]⟩)] (AL [(1,.fn (.func 46) [] [.ptr (r.κ (1,14)) (r.γ (1,14)+1) 0])]) (fun j h k=>(fun z0 y i=>Dz (ZXA z0 a) i co g [((1,14),⟨1,true,67,8,[vI a.num,vI a.val.kind,.d (.int .u64 a.val.bits),vS a.val.text,vL Ar a.val.list,vL As a.val.pairs,vL Ah a.val.slots,vL Au a.val.raws]⟩)] [] h (by simp) (fun _=>.top) (fun _ _=>trivial) (fun l H=>⟨fun _=>⟨rfl,by kernel_rfl⟩,by kernel_rfl,trivial⟩))) (fun H=>trivial),fun m=>⟨id,id⟩⟩
theorem ZXf(d:Scm)(e:ByteArray)(c:Val)(f:ByteArray):KC Tryz.prog 21 [.agg ((Av d).map .d),vS e,.agg ((Ai c).map .d),vS f] (ZhD d e c f) WE:=Aw Tryz.func21 Tryz.ntmps21 Aa [.tmp 8,.tmp 9] fun C co y hm i a=>Al co Aa Ac 5 (wR d e c f) (Ae [6,12] [((1,6),false)]) nl (fun _ h=>h) hm a fun r g=>fun k=>fun j=>fun _ hm a=>sq (Al co Aa Ac 1 (vY c j) (AN [12,31,32,33]) nl (fun _ h=>h) hm a fun r g=>fun _ hm a=>bk 0 (lo (AG (ZJZ co c j) (fun _ h=>h) hm a (fun b=>b.elim))))
abbrev Sm:List (Ad×Bool):=[((1,1),false),((1,2),false),((1,3),false),((1,10),false),((1,11),false)]
abbrev yC:List (Ad×Bool):=[((1,2),false),((1,3),false),((1,10),false),((1,11),false)]
abbrev Js:Ad×Blk:=((1,2),⟨0,true,139,2,[.p (.map none),.p (.map none)]⟩)
abbrev JP:Ad×Blk:=((1,3),⟨0,true,139,2,[.mp (1,10) 0,.mp (1,11) 0]⟩)
abbrev Jn:Ad×Blk:=((1,11),⟨0,true,.m false (([]:List (ByteArray×Bool)).map A3),0,[]⟩)
abbrev Si(a:Scm):Ad×Blk:=((1,1),⟨0,true,26,3,[vL AE a.messages,vL AP a.enums,vL AZ a.services]⟩)
abbrev Sg(a:List (ByteArray×Msg)):Ad×Blk:=((1,10),⟨0,true,.m true (a.map A3),0,[]⟩)
abbrev Ql:Web→AV:=fun y=>.agg ((Je y).map .d)
def ZV(a:Scm):Nat×List (ByteArray×Msg)→St:=fun(c,b)=>Ab [(1,.ptr (1,1) 0 0),(2,.ptr (1,2) 0 0),(3,.ptr (1,3) 0 0),(14,vL AE a.messages),(15,vN a.messages.length),(16,vN c)] [(Si a),Js,JP,((1,10),⟨0,true,.m true (b.map A3),0,[]⟩),Jn]
def wO(a:Scm):List (ByteArray×Msg)→Nat×St:=fun b=>(0,Ab [(1,.ptr (1,1) 0 0),(2,.ptr (1,2) 0 0),(3,.ptr (1,3) 0 0)] [(Si a),Js,JP,(Sg b),Jn])
def xU(c:Scm)(a:Nat)(d:List (ByteArray×Msg)):PT 0 (Lv (Nat×List (ByteArray×Msg)) (List (ByteArray×Msg)) (Web)):=br (decide ((a:Int)<(c.messages.length:Int))) (ix c.messages a fun b=>vw .go<|vw .go<|vw .go<|HI d b.name fun f e=>vw .go<|br (!e) (vw .go<|vw .go<|vw .go<|IV d b.name b<|vs (wa a 1)<|ln (ZV c) (a+1,Jw b.name b d)) (vs (wa a 1)<|ln (ZV c) (a+1,d))) (Ak (wO c) d)
def xV(a:Scm):Nat×List (ByteArray×Msg)→Option (Lv (Nat×List (ByteArray×Msg)) (List (ByteArray×Msg)) (Web)):=fun(c,b)=>(xU a c b).m
def ZUc(a:Scm)(b:List (ByteArray×Msg)):Unit→St:=fun _=>Ab [(2,.ptr (1,2) 0 0),(3,.ptr (1,3) 0 0),(38,vN a.enums.length),(39,vI 0)] [Js,JP,(Sg b),Jn]
def xg(a:List (ByteArray×Msg)):Unit→Nat×St:=fun _=>(2,Ab [(2,.ptr (1,2) 0 0),(3,.ptr (1,3) 0 0)] [Js,JP,(Sg a),Jn])
def x3(a:Scm)(b:List (ByteArray×Msg)):PT 0 (Lv (Unit) (Unit) (Web)):=bF (decide ((0:Int)<(a.enums.length:Int)))<|Ak (xg b) ()
def ul(a:Scm)(b:List (ByteArray×Msg)):Unit→Option (Lv (Unit) (Unit) (Web)):=fun _=>(x3 a b).m
def vJ(a:List (ByteArray×Msg)):PT 0 (Web):=vw .go<|vw .go<|lr Ql (fun _=>[]) (.mk a ([]:List (ByteArray×Bool)):Web)
def wA(a:Scm)(b:List (ByteArray×Msg)):PT 0 (Web):=vw .go<|vz (Ag a.enums)<|lc (Ab [(2,.ptr (1,2) 0 0),(3,.ptr (1,3) 0 0),(38,vN a.enums.length),(39,vI 0)] [Js,JP,(Sg b),Jn]) ((An (ul a b) Aj ()).bind (Sum.elim (fun _=>(vJ b).m) some))
def xo(a:Scm):PT 0 (Web):=vw .go<|vz (Ag a.messages)<|lc (Ab [(1,.ptr (1,1) 0 0),(2,.ptr (1,2) 0 0),(3,.ptr (1,3) 0 0),(14,vL AE a.messages),(15,vN a.messages.length),(16,vI 0)] [(Si a),Js,JP,((1,10),⟨0,true,.m true (([]:List (ByteArray×Msg)).map A3),0,[]⟩),Jn]) ((An (xV a) Aj (0,([]:List (ByteArray×Msg)))).bind (Sum.elim (fun b=>(wA a b).m) some))
def vT(a:Scm):PT 0 (Web):=vw .go<|lc (Ab [(1,.ptr (1,1) 0 0),(2,.ptr (1,2) 0 0),(3,.ptr (1,3) 0 0)] [(Si a),Js,JP,((1,10),⟨0,true,.m true (([]:List (ByteArray×Msg)).map A3),0,[]⟩),Jn]) ((xo a).m)
def Zj5(a:Scm):Option (Web):=(vT a).m
theorem ZIq{C:Cx}(co:CO C 0)(a:Scm):KL Tryz.prog (AF tl) 49 C (pa [0,0,1,0,1,1] (AB Tryz.f81)) [.cell 2 139] 0 (ZV a) (wO a) Ql (fun _=>[]) (xV a):=fun(f,e) _ hm Q b d c=>AA co Aa Ac (xU a f e) (Ae [1,2,3,14,15,16] Sm) (Ae [1,2,3] Sm) d hm c fun r g=>⟨fun i=>fun j h=>⟨id,id⟩,id⟩
theorem ZFB{C:Cx}(co:CO C 0)(b:Scm)(a:List (ByteArray×Msg)):KL Tryz.prog (AF tl) 49 C (pa [0,0,1,0,1,1,1] (AB Tryz.f81)) [.cell 2 139] 0 (ZUc b a) (xg a) Ql (fun _=>[]) (ul b a):=fun _ _ hm Q c e d=>AA co Aa Ac (x3 b a) nl (Ae [2,3] yC) e hm d fun r g=>id
theorem ZWw(b:Scm):KC Tryz.prog 81 [.agg ((Av b).map .d)] (Zj5 b) Ql:=Aw Tryz.func81 Tryz.ntmps81 Aa [.cell 2 139] fun C co y hm d a=>Al co Aa Ac 2 (vT b) (Ae [1,2,3] Sm) nl (fun _ h=>h) hm a fun r g=>fun _ hm a=>sq (Al co Aa Ac 1 (xo b) (Ae [1,2,3,14,15,16] Sm) nl (fun _ h=>h) hm a fun r g=>fun _ hm a=>bk 0 (lo (AG (ZIq co b) (fun _ h=>h) hm a (fun c hm=>sq (Al co Aa Ac 1 (wA b c) (Ae [2,3,38,39] yC) nl (fun _ h=>h) hm a fun r g=>fun _ hm a=>bk 2 (lo (AG (ZFB co b c) (fun _ h=>h) hm a (fun _ hm=>Am co Aa Ac (vJ c) hm a fun r g=>id))))))))
abbrev SB:List ByteArray→AV:=fun y=>vL AC y
def sv:List ByteArray×List (ByteArray×Msg)→St:=fun(a,b)=>Ab [(3,.ref (1,3) 0 0 a.length),(7,.ptr (1,7) 0 0)] [((1,3),⟨0,true,9,1,Af AC a⟩),((1,7),⟨0,true,.i true (b.map A3) none,0,[]⟩)]
def r6:List ByteArray→Nat×St:=fun a=>(0,Ab [(3,.ref (1,3) 0 0 a.length)] [((1,3),⟨0,true,9,1,Af AC a⟩)])
def qp(a:List ByteArray)(d:List (ByteArray×Msg)):PT 0 (List (Lv (List ByteArray×List (ByteArray×Msg)) (List ByteArray) (List ByteArray))):=nxN d (vw .go<|vz (fl a)<|ZXd (r6) a) fun b c=>vw .go<|vw .sep<|vw .sep<|vw .sep<|ap a (b.1:ByteArray)<|vz (fl (a++[b.1]))<|lnN (sv) (a++[b.1],c)
def sj:List ByteArray×List (ByteArray×Msg)→Option (List (Lv (List ByteArray×List (ByteArray×Msg)) (List ByteArray) (List ByteArray))):=fun(a,b)=>(qp a b).m
def ro(a:List ByteArray):PT 0 (List (List ByteArray)):=vz (fr a)<|lrN SB (fun _=>[]) a
def qs(b:List ByteArray)(a:List ByteArray):PT 0 (List (List ByteArray)):=rn 3 3 b.length a<|vz (fl a)<|lc (Ab [(3,.ref (1,3) 0 0 a.length)] [((1,3),⟨0,true,9,1,Af AC a⟩)]) ((ro a).m)
def tx(a:List ByteArray):PT 0 (List (List ByteArray)):=vz (fl a)<|lc (Ab [(3,.ref (1,3) 0 0 a.length),(16,.ref (1,3) 0 0 a.length)] [((1,3),⟨0,true,9,1,Af AC a⟩)]) ((Zgs a).bind fun b=>(qs a b).m)
def ua(a:Web):PT 0 (List (List ByteArray)):=vw (.ads 3 3 9 1)<|vz (fl ([]:List ByteArray))<|lc (Ab [(3,.ref (1,3) 0 0 ([]:List ByteArray).length),(7,.ptr (1,7) 0 0)] [((1,3),⟨0,true,9,1,Af AC ([]:List ByteArray)⟩),((1,7),⟨0,true,.i true (a.messages.map A3) none,0,[]⟩)]) (Q5 (Pp (sj) Aj (([]:List ByteArray),a.messages)) (Sum.elim (fun b=>(tx b).m) (fun z=>some [z])))
def sx(a:Web):PT 0 (List (List ByteArray)):=vw .go<|lc (Ab [(3,.e0),(7,.ptr (1,7) 0 0)] [((1,7),⟨0,true,.i true (a.messages.map A3) none,0,[]⟩)]) ((ua a).m)
def ud(a:Web):PT 0 (List (List ByteArray)):=lc (Ab [(1,.ptr (1,1) 0 0),(3,.e0)] [((1,1),⟨0,true,139,2,[.d (.map true (a.messages.map A3)),.d (.map false (a.enums.map A3))]⟩)]) ((sx a).m)
def ZeP(a:Web):Option (List (List ByteArray)):=(ud a).m
theorem ZyU{C:Cx}(co:CO C 0):WU Tryz.prog (AF tl) 19 C (pa [0,0,1,0,1,1] (AB Tryz.f120)) [.tmp 2] 0 (sv) (r6) SB (fun _=>[]) (sj):=fun(d,e) _ hm Q a c b=>AA co Aa Ac (qp d e) (Ae [3,7] [((1,3),true),((1,7),false)]) (Ae [3] [((1,3),true)]) c hm b fun r g=>⟨ZAM _,fun h=>h _ (.head _),fun i f=>fun h=>h _ (.head _)⟩
theorem ZUu(c:Web):KCN Tryz.prog 120 [.agg ((Je c).map .d)] (ZeP c) SB:=ZWI Tryz.func120 Tryz.ntmps120 Aa [.tmp 2] fun C co y hm d a=>Al co Aa Ac 2 (ud c) (Ae [1,3] BZ) nl (fun _ h=>h) hm a fun r g=>fun _ hm a=>sq (Al co Aa Ac 1 (sx c) (Ae [3,7] [((1,7),false)]) nl (fun _ h=>h) hm a fun r g=>fun _ hm a=>bk 0 (Hy co (ua c) (Ae [3,7] [((1,3),true),((1,7),false)]) hm a fun r g=>fun _ hm a=>lo (ZXE (ZyU co) (fun _ h=>h) hm a (fun b _ hm a=>sq (rg (Bw co Aa 1 (tx b) (Ae [3,16] [((1,3),true)]) hm a fun r g=>fun _ hm a=>Hq co hm 160 [.ref (1,3) 0 0 b.length] [(1,3)] ([((1,3),⟨0,true,9,1,Af AC b⟩)]++[]) (fun z=>.tup []) (fun z=>[((1,3),⟨0,true,9,1,Af AC z⟩)]) [] (fun z=>trivial) (trivial) (fun z f r g=>DV (ZTz b) f co g [((1,3),⟨0,true,9,1,Af AC b⟩)] [] [((1,3),⟨0,true,9,1,Af AC z⟩)] (AL []) (fun i j k=>trivial) (fun H=>⟨fun _=>⟨rfl,Bn (A0 _ _) (by kernel_rfl)⟩,by kernel_rfl,trivial⟩) (fun H=>⟨fun _=>⟨rfl,Bn (A0 _ _) (by kernel_rfl)⟩,by kernel_rfl,trivial⟩)) fun e hm=>Bb co Aa (qs b e) (Ae [3] [((1,3),true)]) hm a fun r g=>fun _ hm a=>Am co Aa Ac (ro e) hm a fun r g=>fun h=>h _ (.head _)))))))
def ZgO(a:Web):Option (List ByteArray):=cu (ZeP a)
theorem ZPj(a:Web):KC Tryz.prog 120 [.agg ((Je a).map .d)] (ZgO a) SB:=(ZUu a).uniq
abbrev ZXc:Bool→AV:=fun y=>vB y
def ZiK(a:Web)(b:Fld):Option (Bool):=none
theorem ZT8(a:Web)(b:Fld):KC Tryz.prog 161 [.agg ((Je a).map .d),.agg ((Aq b).map .d)] (ZiK a b) ZXc:=⟨fun _ _ _ h=>(by cases h),by intro r;kernel_rfl,by intro r y;kernel_rfl⟩
abbrev R0(a:List (ByteArray×Int)):Ad×Blk:=((0,0),⟨0,true,.m false (a.map A3),0,[]⟩)
abbrev cO(a:Web):Ad×Blk:=((1,3),⟨0,true,139,2,[.d (.map true (a.messages.map A3)),.d (.map false (a.enums.map A3))]⟩)
abbrev ou:Int→AV:=fun y=>vI y
@[reducible] def nW(a:List (ByteArray×Int)):Int→List Blk:=fun y=>[⟨0,true,.m false (a.map A3),0,[]⟩]
def ZoF(b:Web)(c:List (ByteArray×Int))(a:Msg):Nat→St:=fun v3=>Ab [(3,.ptr (1,3) 0 0),(7,vI 1),(15,vL Aq a.fields),(16,vN a.fields.length),(17,vN v3)] [(R0 c),(cO b)]
def Znn(a:List (ByteArray×Int)):Unit→Nat×St:=fun _=>(0,Ab [(7,vI 1)] [(R0 a)])
def ZoY(c:Web)(d:List (ByteArray×Int))(b:Msg)(v3:Nat):PT 1 (Lv (Nat) (Unit) (Int)):=br (decide ((v3:Int)<(b.fields.length:Int))) (ix b.fields v3 fun a=>vw .go<|vw .go<|vw .go<|vw .go<|clg (!(!decide (a.card=(1:Int)))) (ZT8 c a) fun e=>bT ((!decide (a.card=(1:Int)))||(!e))<|vs (wa v3 1)<|ln (ZoF c d b) (v3+1)) (Ak (Znn d) ())
def Zoh(b:Web)(c:List (ByteArray×Int))(a:Msg):Nat→Option (Lv (Nat) (Unit) (Int)):=fun v3=>(ZoY b c a v3).m
def Zoa(a:List (ByteArray×Int)):PT 1 (Int):=lr ou (nW a) 1
def ZoB(b:Web)(d:ByteArray)(c:List (ByteArray×Int)):PT 1 (Int):=vw .go<|HI b.messages d fun a e=>vz (Ag a.fields)<|lc (Ab [(3,.ptr (1,3) 0 0),(7,vI 1),(15,vL Aq a.fields),(16,vN a.fields.length),(17,vI 0)] [(R0 c),(cO b)]) ((An (Zoh b c a) Aj 0).bind (Sum.elim (fun _=>(Zoa c).m) some))
def ZnY(a:Web)(b:ByteArray)(c:List (ByteArray×Int)):PT 1 (Int):=lc (Ab [(1,vS b),(3,.ptr (1,3) 0 0),(7,vI 1)] [(R0 c),(cO a)]) ((ZoB a b c).m)
def ZdU(a:Web)(b:ByteArray)(c:List (ByteArray×Int)):Option (Int):=(ZnY a b c).m
theorem ZqL{C:Cx}(co:CO C 1)(c:Web)(a:List (ByteArray×Int))(b:Msg):KL Tryz.prog (AF tl) 43 C (pa [0,0,1,0,1,1] (AB Tryz.f121)) [.tmp 6] 1 (ZoF c a b) (Znn a) ou (nW a) (Zoh c a b):=fun v3 _ hm Q d f e=>AA co Aa Ac (ZoY c a b v3) (Ae [3,7,15,16,17] [((0,0),false),((1,3),false)]) (Ae [7] [((0,0),false)]) f hm e fun r g=>⟨fun h=>fun i=>id,id⟩
theorem ZK0(c:Web)(d:ByteArray)(a:List (ByteArray×Int)):KO Tryz.prog 121 1 [.agg ((Je c).map .d),vS d,.mp (0,0) 0] [⟨0,true,.m false (a.map A3),0,[]⟩] (fun _ _ _ _=>True) (ZdU c d a) ou (nW a):=Be Tryz.func121 Tryz.ntmps121 Aa [.tmp 6] 1 (fun C co j y hm e b=>Al co Aa Ac 2 (ZnY c d a) (Ae [1,3,7] [((0,0),false),((1,3),false)]) nl (fun _ h=>h) hm b fun r g=>fun _ hm b=>sq (Al co Aa Ac 1 (ZoB c d a) (Ae [3,7,15,16,17] [((0,0),false),((1,3),false)]) nl (fun _ h=>h) hm b fun r g=>fun f i=>fun _ hm b=>bk 0 (lo (AG (ZqL co c a f) (fun _ h=>h) hm b (fun _ hm=>Am co Aa Ac (Zoa a) hm b fun r g=>id))))) (hB:=fun y=>⟨.inl Zlc,rfl,trivial⟩)
end Go.Proofs.YtleccgigifnfgaaGreat
