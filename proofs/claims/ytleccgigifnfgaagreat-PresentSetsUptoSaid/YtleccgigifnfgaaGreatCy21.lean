import Derived.Test.YtleccgigifnfgaaGreatCy20
import Derived.Test.YtleccgigifnfgaaGreatCy09
import Derived.Test.YtleccgigifnfgaaGreatRows
import Derived.WalkKit
import Derived.ProofKit
import Derived.OpenShut
import Derived.Carry
import Derived.Deep.DeepHandedRow
import Derived.Test.YtleccgigifnfgaaGreatCy10
import Derived.Test.YtleccgigifnfgaaGreatCy00
namespace Go.Proofs.YtleccgigifnfgaaGreat
set_option maxRecDepth 100000
set_option linter.all false
open Go Go.Eng
abbrev EN(a:Val):Ac×Blk:=((1,2),⟨0,true,33,7,[vI a.kind,.d (.int .u64 a.bits),vS a.text,vL Ap a.list,vL Aq a.pairs,vL Ag a.slots,vL As a.raws]⟩)
abbrev EP(a:Val):Ac×Blk:=((1,3),⟨0,true,33,7,[vI a.kind,.d (.int .u64 a.bits),vS a.text,vL Ap a.list,vL Aq a.pairs,vL Ag a.slots,vL As a.raws]⟩)
abbrev C1:Bool→AV:=fun y=>vB y
def rr(a:Val)(b:Val):Nat→St:=fun c=>Ab [(2,.ptr (1,2) 0 0),(3,.ptr (1,3) 0 0),(5,vN c)] [(EN a),(EP b)]
def pZ(a:Val)(b:Val):Unit→Nat×St:=fun _=>(0,Ab [(2,.ptr (1,2) 0 0),(3,.ptr (1,3) 0 0)] [(EN a),(EP b)])
def Ws(a:Val)(d:Val)(c:Val→Val→Option (Bool))(b:Nat):PT 0 (Lv (Nat) (Unit) (Bool)):=vw .go<|vz (Ah a.list)<|br (decide ((b:Int)<(a.list.length:Int))) (vw .go<|ix a.list b fun e=>vw .go<|ix d.list b fun f=>cs Tryz.prog 10 [.agg ((Ai e).map .d),.agg ((Ai f).map .d)] [] [] (c e f) (fun y=>vB y) fun g=>br (!g) (Au C1 (fun _=>[]) false) (vs (wa b 1)<|ln (rr a d) (b+1))) (Ak (pZ a d) ())
def SY(b:Val)(c:Val)(a:Val→Val→Option (Bool)):Nat→Option (Lv (Nat) (Unit) (Bool)):=fun d=>(Ws b c a d).m
def oD(a:Val)(b:Val):Nat→St:=fun v5=>Ab [(2,.ptr (1,2) 0 0),(3,.ptr (1,3) 0 0),(6,vN v5)] [(EN a),(EP b)]
def rX(a:Val)(b:Val):Unit→Nat×St:=fun _=>(2,Ab [(2,.ptr (1,2) 0 0),(3,.ptr (1,3) 0 0)] [(EN a),(EP b)])
def Xb(a:Val)(d:Val)(b:Val→Val→Option (Bool))(v5:Nat):PT 0 (Lv (Nat) (Unit) (Bool)):=vw .go<|vz (Ah a.pairs)<|br (decide ((v5:Int)<(a.pairs.length:Int))) (vw .go<|ix a.pairs v5 fun g=>vw .go<|ix d.pairs v5 fun h=>cs Tryz.prog 10 [.agg ((Ai g.key).map .d),.agg ((Ai h.key).map .d)] [] [] (b g.key h.key) (fun y=>vB y) fun e=>vw .go<|A9 (!(!e)) a.pairs (v5:Int) fun i=>vw .go<|A9 (!(!e)) d.pairs (v5:Int) fun c=>Dt (!(!e)) Tryz.prog 10 [.agg ((Ai i.val).map .d),.agg ((Ai c.val).map .d)] [] [] (b i.val c.val) (fun y=>vB y) fun f=>br ((!e)||(!f)) (Au C1 (fun _=>[]) false) (vs (wa v5 1)<|ln (oD a d) (v5+1))) (Ak (rX a d) ())
def T4(b:Val)(c:Val)(a:Val→Val→Option (Bool)):Nat→Option (Lv (Nat) (Unit) (Bool)):=fun v5=>(Xb b c a v5).m
def ri(b:Val)(c:Val):Nat→St:=fun a=>Ab [(2,.ptr (1,2) 0 0),(3,.ptr (1,3) 0 0),(7,vN a)] [(EN b),(EP c)]
def oh(a:Val)(b:Val):Unit→Nat×St:=fun _=>(4,Ab [(2,.ptr (1,2) 0 0),(3,.ptr (1,3) 0 0)] [(EN a),(EP b)])
def Xd(d:Val)(g:Val)(h:Val→Val→Option (Bool))(a:Nat):PT 0 (Lv (Nat) (Unit) (Bool)):=vw .go<|vz (Ah d.slots)<|br (decide ((a:Int)<(d.slots.length:Int))) (vw .go<|ix d.slots a fun b=>vw .go<|ix g.slots a fun c=>vw .go<|A9 (!(!decide (b.num=c.num))) d.slots (a:Int) fun e=>vw .go<|A9 (!(!decide (b.num=c.num))) g.slots (a:Int) fun f=>Dt (!(!decide (b.num=c.num))) Tryz.prog 10 [.agg ((Ai e.val).map .d),.agg ((Ai f.val).map .d)] [] [] (h e.val f.val) (fun y=>vB y) fun i=>br ((!decide (b.num=c.num))||(!i)) (Au C1 (fun _=>[]) false) (vs (wa a 1)<|ln (ri d g) (a+1))) (Ak (oh d g) ())
def SV(c:Val)(d:Val)(a:Val→Val→Option (Bool)):Nat→Option (Lv (Nat) (Unit) (Bool)):=fun b=>(Xd c d a b).m
def qx(b:Val)(c:Val):Nat→St:=fun a=>Ab [(2,.ptr (1,2) 0 0),(3,.ptr (1,3) 0 0),(8,vN a)] [(EN b),(EP c)]
def rh:Unit→Nat×St:=fun _=>(6,Ab [] [])
def VK(d:Val)(e:Val)(a:Nat):PT 0 (Lv (Nat) (Unit) (Bool)):=vw .go<|vz (Ah d.raws)<|br (decide ((a:Int)<(d.raws.length:Int))) (vw .go<|ix d.raws a fun b=>vw .go<|ix e.raws a fun c=>br (!(decide (b.num=c.num)&&(decide (b.wire=c.wire)&&(decide (b.bits=c.bits)&&(decide (b.data=c.data)&&true))))) (Au C1 (fun _=>[]) false) (vs (wa a 1)<|ln (qx d e) (a+1))) (Ak (rh) ())
def Tq(c:Val)(d:Val)(b:Val→Val→Option (Bool)):Nat→Option (Lv (Nat) (Unit) (Bool)):=fun a=>(VK c d a).m
def Ze:PT 0 (Bool):=lr C1 (fun _=>[]) true
def WV(b:Val)(c:Val)(a:Val→Val→Option (Bool)):PT 0 (Bool):=lc (Ab [(2,.ptr (1,2) 0 0),(3,.ptr (1,3) 0 0),(8,vI 0)] [(EN b),(EP c)]) ((Ao (Tq b c a) Aj 0).bind (Sum.elim (fun _=>(Ze).m) some))
def Xz(b:Val)(c:Val)(a:Val→Val→Option (Bool)):PT 0 (Bool):=lc (Ab [(2,.ptr (1,2) 0 0),(3,.ptr (1,3) 0 0),(7,vI 0)] [(EN b),(EP c)]) ((Ao (SV b c a) Aj 0).bind (Sum.elim (fun _=>(WV b c a).m) some))
def X9(b:Val)(c:Val)(a:Val→Val→Option (Bool)):PT 0 (Bool):=lc (Ab [(2,.ptr (1,2) 0 0),(3,.ptr (1,3) 0 0),(6,vI 0)] [(EN b),(EP c)]) ((Ao (T4 b c a) Aj 0).bind (Sum.elim (fun _=>(Xz b c a).m) some))
def Wi(b:Val)(c:Val)(a:Val→Val→Option (Bool)):PT 0 (Bool):=lc (Ab [(2,.ptr (1,2) 0 0),(3,.ptr (1,3) 0 0),(5,vI 0)] [(EN b),(EP c)]) ((Ao (SY b c a) Aj 0).bind (Sum.elim (fun _=>(X9 b c a).m) some))
def fV(a:Val)(b:Val)(c:Val→Val→Option (Bool)):PT 0 (Bool):=vw .go<|vw .go<|vw .go<|vw .go<|vw .go<|vw .go<|vw .go<|vy (!(((!decide (a.kind=b.kind))||(!decide (a.bits=b.bits)))||(!decide (a.text=b.text)))) (Ah a.list)<|vw .go<|vy (!(((!decide (a.kind=b.kind))||(!decide (a.bits=b.bits)))||(!decide (a.text=b.text)))) (Ah b.list)<|vw .go<|vy (!((((!decide (a.kind=b.kind))||(!decide (a.bits=b.bits)))||(!decide (a.text=b.text)))||(!decide ((a.list.length:Int)=(b.list.length:Int))))) (Ah a.pairs)<|vw .go<|vy (!((((!decide (a.kind=b.kind))||(!decide (a.bits=b.bits)))||(!decide (a.text=b.text)))||(!decide ((a.list.length:Int)=(b.list.length:Int))))) (Ah b.pairs)<|vw .go<|vy (!(((((!decide (a.kind=b.kind))||(!decide (a.bits=b.bits)))||(!decide (a.text=b.text)))||(!decide ((a.list.length:Int)=(b.list.length:Int))))||(!decide ((a.pairs.length:Int)=(b.pairs.length:Int))))) (Ah a.slots)<|vw .go<|vy (!(((((!decide (a.kind=b.kind))||(!decide (a.bits=b.bits)))||(!decide (a.text=b.text)))||(!decide ((a.list.length:Int)=(b.list.length:Int))))||(!decide ((a.pairs.length:Int)=(b.pairs.length:Int))))) (Ah b.slots)<|vw .go<|vy (!((((((!decide (a.kind=b.kind))||(!decide (a.bits=b.bits)))||(!decide (a.text=b.text)))||(!decide ((a.list.length:Int)=(b.list.length:Int))))||(!decide ((a.pairs.length:Int)=(b.pairs.length:Int))))||(!decide ((a.slots.length:Int)=(b.slots.length:Int))))) (Ah a.raws)<|vw .go<|vy (!((((((!decide (a.kind=b.kind))||(!decide (a.bits=b.bits)))||(!decide (a.text=b.text)))||(!decide ((a.list.length:Int)=(b.list.length:Int))))||(!decide ((a.pairs.length:Int)=(b.pairs.length:Int))))||(!decide ((a.slots.length:Int)=(b.slots.length:Int))))) (Ah b.raws)<|br (((((((!decide (a.kind=b.kind))||(!decide (a.bits=b.bits)))||(!decide (a.text=b.text)))||(!decide ((a.list.length:Int)=(b.list.length:Int))))||(!decide ((a.pairs.length:Int)=(b.pairs.length:Int))))||(!decide ((a.slots.length:Int)=(b.slots.length:Int))))||(!decide ((a.raws.length:Int)=(b.raws.length:Int)))) (lr C1 (fun _=>[]) false) (lc (Ab [(2,.ptr (1,2) 0 0),(3,.ptr (1,3) 0 0)] [(EN a),(EP b)]) ((Wi a b c).m))
def PG(a:Val→Val→Option (Bool))(b:Val)(c:Val):Option (Bool):=(fV b c a).m
theorem ZD3{C:Cx}(co:CO C 0)(b:Val)(c:Val)(a:Val→Val→Option (Bool))(f:∀(b:Val) (c:Val),KC Tryz.prog 10 [.agg ((Ai b).map .d),.agg ((Ai c).map .d)] (a b c) C1):KL Tryz.prog (AE tl) 174 C (pa [0,0,1,0,1,1] (AB Tryz.f10)) [.tmp 4] 0 (rr b c) (pZ b c) C1 (fun _=>[]) (SY b c a):=fun l _ hm Q h k j=>AD co Aa Ad (Ws b c a l) (Af [2,3,5] CB) (Af [2,3] CB) k hm j fun r g=>⟨fun d=>fun e=>⟨fun y hy i _ _=>by rw[(f d e).x,(f d e).e];exact(f d e).k _ i y hy,fun m=>⟨id,id⟩⟩,id⟩
theorem ZDk{C:Cx}(co:CO C 0)(c:Val)(d:Val)(a:Val→Val→Option (Bool))(e:∀(c:Val) (d:Val),KC Tryz.prog 10 [.agg ((Ai c).map .d),.agg ((Ai d).map .d)] (a c d) C1):KL Tryz.prog (AE tl) 174 C (pa [0,0,1,0,1,1,1] (AB Tryz.f10)) [.tmp 4] 0 (oD c d) (rX c d) C1 (fun _=>[]) (T4 c d a):=fun v5 _ hm Q k m l=>AD co Aa Ad (Xb c d a v5) (Af [2,3,6] CB) (Af [2,3] CB) m hm l fun r g=>⟨fun h=>fun i=>⟨fun y hy f _ _=>by rw[(e h.key i.key).x,(e h.key i.key).e];exact(e h.key i.key).k _ f y hy,fun o=>fun j=>fun b=>⟨fun y hy f _ _=>by rw[(e j.val b.val).x,(e j.val b.val).e];exact(e j.val b.val).k _ f y hy,fun n=>⟨id,id⟩⟩⟩,id⟩
theorem ZES{C:Cx}(co:CO C 0)(d:Val)(e:Val)(a:Val→Val→Option (Bool))(f:∀(d:Val) (e:Val),KC Tryz.prog 10 [.agg ((Ai d).map .d),.agg ((Ai e).map .d)] (a d e) C1):KL Tryz.prog (AE tl) 174 C (pa [0,0,1,0,1,1,1,1] (AB Tryz.f10)) [.tmp 4] 0 (ri d e) (oh d e) C1 (fun _=>[]) (SV d e a):=fun h _ hm Q i n m=>AD co Aa Ad (Xd d e a h) (Af [2,3,7] CB) (Af [2,3] CB) n hm m fun r g=>⟨fun k=>fun l=>fun b=>fun c=>⟨fun y hy j _ _=>by rw[(f b.val c.val).x,(f b.val c.val).e];exact(f b.val c.val).k _ j y hy,fun o=>⟨id,id⟩⟩,id⟩
theorem ZF9{C:Cx}(co:CO C 0)(a:Val)(b:Val)(c:Val→Val→Option (Bool))(k:∀(a:Val) (b:Val),KC Tryz.prog 10 [.agg ((Ai a).map .d),.agg ((Ai b).map .d)] (c a b) C1):KL Tryz.prog (AE tl) 174 C (pa [0,0,1,0,1,1,1,1,1] (AB Tryz.f10)) [.tmp 4] 0 (qx a b) (rh) C1 (fun _=>[]) (Tq a b c):=fun d _ hm Q e j i=>AD co Aa Ad (VK a b d) (Af [2,3,8] CB) nl j hm i fun r g=>⟨fun f=>fun h=>⟨id,id⟩,id⟩
theorem ZPx(a:Val→Val→Option (Bool))(e:∀(c:Val) (d:Val),KC Tryz.prog 10 [.agg ((Ai c).map .d),.agg ((Ai d).map .d)] (a c d) C1)(c:Val)(d:Val):KC Tryz.prog 10 [.agg ((Ai c).map .d),.agg ((Ai d).map .d)] (PG a c d) C1:=Av Tryz.func10 Tryz.ntmps10 Aa [.tmp 4] fun C co y hm f b=>Al co Aa Ad 2 (fV c d a) (Af [2,3] CB) nl (fun _ h=>h) hm b fun r g=>⟨id,fun _ hm b=>sq (Al co Aa Ad 1 (Wi c d a) (Af [2,3,5] CB) nl (fun _ h=>h) hm b fun r g=>fun _ hm b=>bk 0 (lo (AK (ZD3 co c d a e) (fun _ h=>h) hm b (fun _ hm=>sq (Al co Aa Ad 1 (X9 c d a) (Af [2,3,6] CB) nl (fun _ h=>h) hm b fun r g=>fun _ hm b=>bk 2 (lo (AK (ZDk co c d a e) (fun _ h=>h) hm b (fun _ hm=>sq (Al co Aa Ad 1 (Xz c d a) (Af [2,3,7] CB) nl (fun _ h=>h) hm b fun r g=>fun _ hm b=>bk 4 (lo (AK (ZES co c d a e) (fun _ h=>h) hm b (fun _ hm=>sq (Al co Aa Ad 1 (WV c d a) (Af [2,3,8] CB) nl (fun _ h=>h) hm b fun r g=>fun _ hm b=>bk 6 (lo (AK (ZF9 co c d a e) (fun _ h=>h) hm b (fun _ hm=>An co Aa Ad (Ze) hm b fun r g=>id))))))))))))))))⟩
def Dz:Nat→Val→Val→Option (Bool)
 |0=>fun _ _=>none
 |a+1=>PG (Dz a)
theorem PO:∀(c:Nat) (a:Val) (b:Val),KC Tryz.prog 10 [.agg ((Ai a).map .d),.agg ((Ai b).map .d)] (Dz c a b) C1
 |0,a,b=>⟨fun _ _ _ h=>(by cases h),by intro r;kernel_rfl,by intro r y;kernel_rfl⟩
 |c+1,a,b=>ZPx (Dz c) (PO c) a b
abbrev XD(a:Val):Ac×Blk:=((1,2),⟨0,true,33,7,[vI a.kind,.d (.int .u64 a.bits),vS a.text,vL Ap a.list,vL Aq a.pairs,vL Ag a.slots,vL As a.raws]⟩)
abbrev OA:Bool→AV:=fun y=>vB y
def oo(a:Val)(b:Int):Nat→St:=fun c=>Ab [(1,vI b),(2,.ptr (1,2) 0 0),(5,vN c)] [(XD a)]
def pw:Unit→Nat×St:=fun _=>(0,Ab [] [])
def Ty(a:Val)(c:Int)(b:Nat):PT 0 (Lv (Nat) (Unit) (Bool)):=vw .go<|vz (Ah a.slots)<|br (decide ((b:Int)<(a.slots.length:Int))) (vw .go<|ix a.slots b fun d=>br (decide (d.num=c)) (Au OA (fun _=>[]) true) (vs (wa b 1)<|ln (oo a c) (b+1))) (Ak (pw) ())
def Oa(a:Val)(b:Int):Nat→Option (Lv (Nat) (Unit) (Bool)):=fun c=>(Ty a b c).m
def Ww:PT 0 (Bool):=lr OA (fun _=>[]) false
def Zf(a:Val)(b:Int):PT 0 (Bool):=lc (Ab [(1,vI b),(2,.ptr (1,2) 0 0),(5,vI 0)] [(XD a)]) ((Ao (Oa a b) Aj 0).bind (Sum.elim (fun _=>(Ww).m) some))
def Xr(a:Val)(b:Int):PT 0 (Bool):=lc (Ab [(1,vI b),(2,.ptr (1,2) 0 0)] [(XD a)]) ((Zf a b).m)
def bG(a:Val)(b:Int):Option (Bool):=(Xr a b).m
theorem ZBO{C:Cx}(co:CO C 0)(a:Val)(b:Int):KL Tryz.prog (AE tl) 21 C (pa [0,0,1,0,1] (AB Tryz.f40)) [.tmp 4] 0 (oo a b) (pw) OA (fun _=>[]) (Oa a b):=fun f _ hm Q c e d=>AD co Aa Ad (Ty a b f) (Af [1,2,5] FD) nl e hm d fun r g=>⟨fun h=>⟨id,id⟩,id⟩
theorem uk(b:Val)(c:Int):KC Tryz.prog 40 [.agg ((Ai b).map .d),vI c] (bG b c) OA:=Av Tryz.func40 Tryz.ntmps40 Aa [.tmp 4] fun C co y hm d a=>Al co Aa Ad 1 (Xr b c) (Af [1,2] FD) nl (fun _ h=>h) hm a fun r g=>fun _ hm a=>sq (Al co Aa Ad 1 (Zf b c) (Af [1,2,5] FD) nl (fun _ h=>h) hm a fun r g=>fun _ hm a=>bk 0 (lo (AK (ZBO co b c) (fun _ h=>h) hm a (fun _ hm=>An co Aa Ad (Ww) hm a fun r g=>id))))
abbrev Jh(a:Msg):Ac×Blk:=((1,2),⟨0,true,48,5,[vS a.name,vL Ar a.fields,vL AR a.reserved,vL Az a.gone,vL Ay a.notes]⟩)
abbrev Jj(a:Val):Ac×Blk:=((1,3),⟨0,true,33,7,[vI a.kind,.d (.int .u64 a.bits),vS a.text,vL Ap a.list,vL Aq a.pairs,vL Ag a.slots,vL As a.raws]⟩)
abbrev LH:Bool→AV:=fun y=>vB y
def pq(a:Msg)(b:Val):Nat→St:=fun c=>Ab [(2,.ptr (1,2) 0 0),(3,.ptr (1,3) 0 0),(5,vN c)] [(Jh a),(Jj b)]
def qp:Unit→Nat×St:=fun _=>(0,Ab [] [])
def rV(a:Msg)(b:Val)(c:Nat):Nat→St:=fun v2=>Ab [(2,.ptr (1,2) 0 0),(3,.ptr (1,3) 0 0),(5,vN c),(6,vN v2)] [(Jh a),(Jj b)]
def rc(a:Msg)(b:Val)(c:Nat):Unit→Nat×St:=fun _=>(2,Ab [(2,.ptr (1,2) 0 0),(3,.ptr (1,3) 0 0),(5,vN c)] [(Jh a),(Jj b)])
def TF(b:Msg)(f:Val)(c:Nat)(v2:Nat):PT 0 (Lv (Nat) (Unit) (Bool)):=br (decide ((v2:Int)<(c:Int))) (vw .go<|ix b.fields c fun a=>vw .go<|A9 (!decide (a.union=(⟨#[]⟩:ByteArray))) b.fields (c:Int) fun d=>vw .go<|A9 (!decide (a.union=(⟨#[]⟩:ByteArray))) b.fields (v2:Int) fun e=>vw .go<|vw .go<|A9 ((!decide (a.union=(⟨#[]⟩:ByteArray)))&&decide (d.union=e.union)) b.fields (c:Int) fun h=>clg ((!decide (a.union=(⟨#[]⟩:ByteArray)))&&decide (d.union=e.union)) (uk f h.num) fun g=>vw .go<|vw .go<|A9 (((!decide (a.union=(⟨#[]⟩:ByteArray)))&&decide (d.union=e.union))&&g) b.fields (v2:Int) fun i=>clg (((!decide (a.union=(⟨#[]⟩:ByteArray)))&&decide (d.union=e.union))&&g) (uk f i.num) fun j=>br ((((!decide (a.union=(⟨#[]⟩:ByteArray)))&&decide (d.union=e.union))&&g)&&j) (Au LH (fun _=>[]) false) (vs (wa v2 1)<|ln (rV b f c) (v2+1))) (Ak (rc b f c) ())
def Lc(a:Msg)(b:Val)(c:Nat):Nat→Option (Lv (Nat) (Unit) (Bool)):=fun v2=>(TF a b c v2).m
def Tv(b:Msg)(c:Val)(a:Nat):PT 0 (Lv (Nat) (Unit) (Bool)):=vs (wa a 1)<|ln (pq b c) (a+1)
def TN(a:Msg)(b:Val)(c:Nat):PT 0 (Lv (Nat) (Unit) (Bool)):=lc (Ab [(2,.ptr (1,2) 0 0),(3,.ptr (1,3) 0 0),(5,vN c),(6,vI 0)] [(Jh a),(Jj b)]) ((Ao (Lc a b c) Aj 0).bind (Sum.elim (fun _=>(Tv a b c).m) (fun z=>some (.rt z))))
def Tx(a:Msg)(c:Val)(b:Nat):PT 0 (Lv (Nat) (Unit) (Bool)):=vw .go<|vz (Ah a.fields)<|br (decide ((b:Int)<(a.fields.length:Int))) (lc (Ab [(2,.ptr (1,2) 0 0),(3,.ptr (1,3) 0 0),(5,vN b)] [(Jh a),(Jj c)]) ((TN a c b).m)) (Ak (qp) ())
def N1(a:Msg)(b:Val):Nat→Option (Lv (Nat) (Unit) (Bool)):=fun c=>(Tx a b c).m
def Zc:PT 0 (Bool):=lr LH (fun _=>[]) true
def VA(a:Msg)(b:Val):PT 0 (Bool):=lc (Ab [(2,.ptr (1,2) 0 0),(3,.ptr (1,3) 0 0),(5,vI 0)] [(Jh a),(Jj b)]) ((Ao (N1 a b) Aj 0).bind (Sum.elim (fun _=>(Zc).m) some))
def U5(a:Msg)(b:Val):PT 0 (Bool):=lc (Ab [(2,.ptr (1,2) 0 0),(3,.ptr (1,3) 0 0)] [(Jh a),(Jj b)]) ((VA a b).m)
def aL(a:Msg)(b:Val):Option (Bool):=(U5 a b).m
theorem ZEl{C:Cx}(co:CO C 0)(a:Msg)(b:Val)(c:Nat):KL Tryz.prog (AE tl) 61 C (pa [0,0,1,0,0,1,0,0,1,0,1] (AB Tryz.f16)) [.tmp 4] 0 (rV a b c) (rc a b c) LH (fun _=>[]) (Lc a b c):=fun v2 _ hm Q d f e=>AD co Aa Ad (TF a b c v2) (Af [2,3,5,6] CB) (Af [2,3,5] CB) f hm e fun r g=>⟨fun h=>fun i=>fun j=>fun k=>fun m=>fun l=>fun n=>⟨id,id⟩,id⟩
theorem ZCc{C:Cx}(co:CO C 0)(b:Msg)(c:Val):KL Tryz.prog (AE tl) 61 C (pa [0,0,1,0,1] (AB Tryz.f16)) [.tmp 4] 0 (pq b c) (qp) LH (fun _=>[]) (N1 b c):=fun e _ hm Q f d a=>Al co Aa Ad 1 (Tx b c e) (Af [2,3,5] CB) nl d hm a fun r g=>⟨fun _ hm a=>sq (bk 1 (Al co Aa Ad 1 (TN b c e) (Af [2,3,5,6] CB) nl d hm a fun r g=>fun _ hm a=>bk 2 (lo (HY (ZEl co b c e) d hm a (fun _ hm=>AD co Aa Ad (Tv b c e) (Af [2,3,5] CB) nl d hm a fun r g=>id))))),id⟩
theorem sJ(b:Msg)(c:Val):KC Tryz.prog 16 [.agg ((AH b).map .d),.agg ((Ai c).map .d)] (aL b c) LH:=Av Tryz.func16 Tryz.ntmps16 Aa [.tmp 4] fun C co y hm d a=>Al co Aa Ad 1 (U5 b c) (Af [2,3] CB) nl (fun _ h=>h) hm a fun r g=>fun _ hm a=>sq (Al co Aa Ad 1 (VA b c) (Af [2,3,5] CB) nl (fun _ h=>h) hm a fun r g=>fun _ hm a=>bk 0 (lo (AK (ZCc co b c) (fun _ h=>h) hm a (fun _ hm=>An co Aa Ad (Zc) hm a fun r g=>id))))
abbrev Zr:List (Ac×Bool):=[((1,5),false),((1,7),false),((1,11),false),((1,13),false),((1,15),false)]
abbrev Wc(a:Scm):Ac×Blk:=((1,5),⟨0,true,26,3,[vL AH a.messages,vL AQ a.enums,vL AX a.services]⟩)
abbrev Vy(a:Val):Ac×Blk:=((1,7),⟨0,true,33,7,[vI a.kind,.d (.int .u64 a.bits),vS a.text,vL Ap a.list,vL Aq a.pairs,vL Ag a.slots,vL As a.raws]⟩)
abbrev VU(a:Val×Int):Ac×Blk:=((1,11),⟨0,true,33,7,[vI a.1.kind,.d (.int .u64 a.1.bits),vS a.1.text,vL Ap a.1.list,vL Aq a.1.pairs,vL Ag a.1.slots,vL As a.1.raws]⟩)
abbrev XF(a:Msg×Bool):Ac×Blk:=((1,13),⟨0,true,48,5,[vS a.1.name,vL Ar a.1.fields,vL AR a.1.reserved,vL Az a.1.gone,vL Ay a.1.notes]⟩)
abbrev Xx(a:Fld×Bool):Ac×Blk:=((1,15),⟨0,true,54,16,[vI a.1.num,vS a.1.name,vI a.1.card,vI a.1.key,vI a.1.type.kind,vS a.1.type.name,vS a.1.union,vB a.1.hasDefault,vI a.1.dflt.kind,.d (.int .u64 a.1.dflt.bits),vS a.1.dflt.text,vL Ap a.1.dflt.list,vL Aq a.1.dflt.pairs,vL Ag a.1.dflt.slots,vL As a.1.dflt.raws,vL Ay a.1.notes]⟩)
abbrev E4:Bool→AV:=fun y=>vB y
def Qc(b:Scm)(c:ByteArray)(d:Val)(e:Int)(f:Val×Int)(g:Msg×Bool)(h:Fld×Bool):Nat→St:=fun a=>Ab [(1,vS c),(3,vI e),(5,.ptr (1,5) 0 0),(7,.ptr (1,7) 0 0),(11,.ptr (1,11) 0 0),(13,.ptr (1,13) 0 0),(15,.ptr (1,15) 0 0),(19,vN a)] [(Wc b),(Vy d),(VU f),(XF g),(Xx h)]
def tX:Unit→Nat×St:=fun _=>(0,Ab [] [])
def ZE(d:Scm)(e:ByteArray)(j:Val)(k:Int)(h:Val×Int)(c:Msg×Bool)(i:Fld×Bool)(a:Nat):PT 0 (Lv (Nat) (Unit) (Bool)):=vw .go<|vz (Ah c.1.fields)<|br (decide ((a:Int)<(c.1.fields.length:Int))) (vw .go<|ix c.1.fields a fun b=>vw .go<|vw .go<|br (decide (b.num=k)) (vs (wa a 1)<|ln (Qc d e j k h c i) (a+1)) (vw .go<|vw .go<|vw .go<|cl (PX d e j b.num) fun f=>vw .go<|vw .go<|vw .go<|vw .go<|cl (PX d e h.1 b.num) fun g=>vw .go<|br ((!decide (f.2=(0:Int)))||(!decide (g.2=(0:Int)))) (Au E4 (fun _=>[]) false) (vw .go<|vw .go<|vw .go<|br ((!decide (i.1.union=(⟨#[]⟩:ByteArray)))&&decide (b.union=i.1.union)) (vw .go<|vw .go<|cl (Pg h.1 b.num) fun l=>br l (Au E4 (fun _=>[]) false) (vs (wa a 1)<|ln (Qc d e j k h c i) (a+1))) (vw .go<|vw .go<|cl (PO Aj f.1 g.1) fun m=>br (!m) (Au E4 (fun _=>[]) false) (vs (wa a 1)<|ln (Qc d e j k h c i) (a+1)))))) (Ak (tX) ())
def PK(b:Scm)(c:ByteArray)(d:Val)(e:Int)(f:Val×Int)(g:Msg×Bool)(h:Fld×Bool):Nat→Option (Lv (Nat) (Unit) (Bool)):=fun a=>(ZE b c d e f g h a).m
def ZU:PT 0 (Bool):=cl (UE) fun a=>lr E4 (fun _=>[]) a
def Zn(a:Scm)(b:ByteArray)(c:Val)(d:Int)(e:Val×Int)(f:Msg×Bool)(g:Fld×Bool):PT 0 (Bool):=lc (Ab [(1,vS b),(3,vI d),(5,.ptr (1,5) 0 0),(7,.ptr (1,7) 0 0),(11,.ptr (1,11) 0 0),(13,.ptr (1,13) 0 0),(15,.ptr (1,15) 0 0),(19,vI 0)] [(Wc a),(Vy c),(VU e),(XF f),(Xx g)]) ((Ao (PK a b c d e f g) Aj 0).bind (Sum.elim (fun _=>(ZU).m) some))
def Z9(j:Scm)(k:ByteArray)(g:Val)(l:Int)(m:Val):PT 0 (Bool):=vw .go<|cl (K_5 j k) fun n=>vw .go<|clg (!(!n)) (mf g 2000) fun o=>vw .go<|clg (!((!n)||(!o))) (mf m 2000) fun q=>br (((!n)||(!o))||(!q)) (cl (UE) fun s=>lr E4 (fun _=>[]) s) (vw .go<|vw .go<|vw .go<|cl (UF j k g l m) fun e=>vw .go<|br (!decide (e.2=(0:Int))) (vw .go<|cl ((PO Aj e.1 (.mk 0 0 ⟨#[]⟩ ([]:List Val) ([]:List Pr) ([]:List Slt) ([]:List Raw):Val)).nrm (fun _ _ _ h=>.nrm h) (xs':=[.agg ((Ai e.1).map .d),.agg [vI 0,.d (.int .u64 0),vS ⟨#[]⟩,.e0,.e0,.e0,.e0]]) (by intro r;kernel_rfl)) fun p=>clg p (UE) fun t=>lr E4 (fun _=>[]) (p&&t)) (vw .go<|cl (ZTl j k) fun c=>vw .go<|vw .go<|cl (ZTg c.1 l) fun f=>vw .go<|vw .go<|vw .go<|cl (PX j k e.1 l) fun a=>vw .go<|vw .go<|vw .go<|clg (!(((!c.2)||(!f.2))||(!decide (a.2=(0:Int))))) (PO Aj m a.1) fun b=>vw .go<|vw .go<|clg (!((((!c.2)||(!f.2))||(!decide (a.2=(0:Int))))||(!b))) (sJ c.1 g) fun d=>vw .go<|vw .go<|clg ((!((((!c.2)||(!f.2))||(!decide (a.2=(0:Int))))||(!b)))&&d) (sJ c.1 e.1) fun i=>vw .go<|vy (!(((((!c.2)||(!f.2))||(!decide (a.2=(0:Int))))||(!b))||(d&&(!i)))) (Ah e.1.raws)<|vw .go<|vy (!(((((!c.2)||(!f.2))||(!decide (a.2=(0:Int))))||(!b))||(d&&(!i)))) (Ah g.raws)<|br ((((((!c.2)||(!f.2))||(!decide (a.2=(0:Int))))||(!b))||(d&&(!i)))||(!decide ((e.1.raws.length:Int)=(g.raws.length:Int)))) (lr E4 (fun _=>[]) false) (lc (Ab [(1,vS k),(3,vI l),(5,.ptr (1,5) 0 0),(7,.ptr (1,7) 0 0),(11,.ptr (1,11) 0 0),(13,.ptr (1,13) 0 0),(15,.ptr (1,15) 0 0)] [(Wc j),(Vy g),(VU e),(XF c),(Xx f)]) ((Zn j k g l e c f).m))))
def aA(a:Scm)(b:ByteArray)(c:Val)(d:Int)(e:Val):Option (Bool):=(Z9 a b c d e).m
theorem ZIs{C:Cx}(co:CO C 0)(a:Scm)(b:ByteArray)(c:Val)(d:Int)(f:Val×Int)(h:Msg×Bool)(i:Fld×Bool):KL Tryz.prog (AE tl) 172 C (pa [0,0,1,0,1,1,1,1,1,1,1,1] (AB Tryz.f4)) [.tmp 10] 0 (Qc a b c d f h i) (tX) E4 (fun _=>[]) (PK a b c d f h i):=fun e _ hm Q j m l=>AD co Aa Ad (ZE a b c d f h i e) (Af [1,3,5,7,11,13,15,19] Zr) nl m hm l fun r g=>⟨fun k=>⟨id,fun n=>fun o=>⟨id,⟨fun p=>⟨id,id⟩,fun q=>⟨id,id⟩⟩⟩⟩,id⟩
theorem K_4(b:Scm)(c:ByteArray)(d:Val)(e:Int)(f:Val):KC Tryz.prog 4 [.agg ((AC b).map .d),vS c,.agg ((Ai d).map .d),vI e,.agg ((Ai f).map .d)] (aA b c d e f) E4:=Av Tryz.func4 Tryz.ntmps4 Aa [.tmp 10] fun C co y hm i a=>Al co Aa Ad 8 (Z9 b c d e f) (Af [1,3,5,7,11,13,15] Zr) nl (fun _ h=>h) hm a fun r g=>fun s=>fun t=>fun u=>⟨fun v=>id,fun j=>⟨fun w=>fun x=>id,fun k=>fun l=>fun m=>fun n=>fun o=>fun p=>⟨id,fun _ hm a=>sq (Al co Aa Ad 1 (Zn b c d e j k l) (Af [1,3,5,7,11,13,15,19] Zr) nl (fun _ h=>h) hm a fun r g=>fun _ hm a=>bk 0 (lo (AK (ZIs co b c d e j k l) (fun _ h=>h) hm a (fun _ hm=>An co Aa Ad (ZU) hm a fun r g=>fun q=>id))))⟩⟩⟩
end Go.Proofs.YtleccgigifnfgaaGreat
namespace Go.Proofs.YtleccgigifnfgaaGreat
set_option linter.all false
open Go Go.Eng
end Go.Proofs.YtleccgigifnfgaaGreat
namespace Go.Proofs.YtleccgigifnfgaaGreat
set_option linter.all false
open Go Go.Eng Go.ChangeShapes Go.WideShapes Go.ChangeAt Go.RowKit
theorem wM{H:Type}(b:List UInt8):Rows.uptoBulk (DataW.lit (H:=H) (.string b))=b.length+1:=by simp only[Rows.uptoBulk]
theorem Zos{H:Type}(a b:List (DataW H)):Rows.uptoBulk (.slice a b)=Rows.uptoBulkAll a+Rows.uptoBulkAll b+1:=by simp only[Rows.uptoBulk]
theorem Zyo{H:Type}(a:List (DataW H)):Rows.uptoBulk (.agg a)=Rows.uptoBulkAll a+1:=by simp only[Rows.uptoBulk]
def HB(W:World)(ds:List D)(cs:List Value)(o:Nat):Prop:=∀(i:Nat) (d:D),ds[i]?=some d→∃c,cs[o+i]?=some c∧RepD W (· <W.heap.size) d c
def Jl(W:World)(ds:List D)(cs:List Value):Prop:=ds.length=cs.length∧HB W ds cs 0
theorem HB.app{W:World}{ds es:List D}{cs:List Value}{o:Nat}(h:HB W ds cs o)(k:HB W es cs (o+ds.length)):HB W (ds++es) cs o:=fun i d hi=>by
 rcases YH i ds.length with hl|hl
 ·rw[Yt hl]at hi;exact h i d hi
 ·rw[YC hl]at hi
  obtain⟨c,a,b⟩:=k _ d hi
  grind
theorem HB.nil{W:World}{cs:List Value}{o:Nat}:HB W [] cs o:=fun i d h=>by simp at h
theorem Jl.at{W:World}{ds:List D}{cs:List Value}{o k:Nat}(h:Jl W ds ((cs.drop o).take k)):HB W ds cs o:=fun i d hi=>by
 obtain⟨c,a,b⟩:=h.2 i d hi
 grind
def rk(k:IntKind)(n:Int):Nat:=if Lit.wf (.int k n)=true then 0 else 1000000000000
theorem ZPR{k:IntKind}{n:Int}(h:rk k n≤1048576):k.min≤n∧n≤k.max:=by
 unfold rk at h
 split at h
 ·rename_i a
  unfold Lit.wf at a
  rw[Ya]at a
  exact⟨Fg a.1,Fg a.2⟩
 ·omega
mutual
def bk:D→Nat
 |.int k n=>rk k n
 |.bool _=>0
 |.str s=>s.size
 |.list es=>CY es
 |.map _ es=>CY es
def AA:List D→Nat
 |[]=>0
 |d::l=>bk d+AA l
def CY:List (List D)→Nat
 |[]=>0
 |e::l=>AA e+1+CY l
end
theorem Nz:∀a b:List D,AA (a++b)=AA a+AA b
 |[],b=>by rw[G9,AA,YP]
 |d::a,b=>by rw[L6,AA,AA,Nz a b,YI]
theorem ez(d:D):AA [d]=bk d:=by rw[AA,AA,DS]
theorem Di{α:Type}{e:α→List D}:∀l:List α,l.length≤CY (l.map e)
 |[]=>DT _
 |x::l=>by have:=Di (e:=e) l;rw[Y9,CY,Db];omega
theorem CT{α:Type}{e:α→List D}{x:α}:∀{l:List α},x∈l→AA (e x)+1≤CY (l.map e)
 |y::l,h=>by
  rw[Y9,CY]
  cases YM.1 h with
  |inl h=>subst h;omega
  |inr h=>have:=CT (e:=e) h;omega
section
variable {H:Type} (enc:TypeId×Value→H) (P:Program) (W:World)
def BW{α:Type}(n:Nat)(t:TypeId)(e:α→List D):Prop:=
 ∀cs x,DataW.trod enc P W 0 (fun _=>true) true n t cs=some x→∃v:α,Jl W (e v) cs∧AA (e v)+1≤Rows.uptoBulk x.1
end
section
variable {H:Type} {enc:TypeId×Value→H} {P:Program} {W:World} {n:Nat} {t:TypeId}
theorem dL(d:DataW H):1≤Rows.uptoBulk d:=by cases d<;>(try (rename_i l;cases l))<;>simp[Rows.uptoBulk]
theorem M6{d:D}{c:Value}(h:RepD W (· <W.heap.size) d c):Jl W [d] [c]:=⟨rfl,fun i d' hi=>by
 cases i with
 |zero=>cases hi;exact⟨c,rfl,h⟩
 |succ i=>simp at hi⟩
theorem DW{k:IntKind}(a:P.underlying t=some (.int k)):BW enc P W n t (fun v:Int=>[.int k v]):=fun cs x c=>by
 obtain⟨m,rfl,rfl,b⟩:=DataW.trod_int a c
 refine⟨m,M6 (.int _ _),?_⟩
 rw[ez,bk,rk,Ys b]
 exact dL _
theorem xM(a:P.underlying t=some .bool):BW enc P W n t (fun v:Bool=>[.bool v]):=fun cs x b=>by
 obtain⟨m,rfl,rfl⟩:=DataW.trod_bool a b
 exact⟨m,M6 (.bool _),dL _⟩
theorem D0(a:P.underlying t=some .string):BW enc P W n t (fun v:ByteArray=>[.str v]):=fun cs x b=>by
 obtain⟨m,rfl,rfl,_⟩:=DataW.trod_string a b
 refine⟨m,M6 (.str _),?_⟩
 rw[wM,ez]
 exact Yp _
theorem mM{α:Type}{e:α→List D}:∀(l:List α) (xs:List (DataW H×List MemPlace)),l.length=xs.length→(∀(i:Nat) (v:α),l[i]?=some v→∃y:DataW H×List MemPlace,xs[i]?=some y∧AA (e v)+1≤Rows.uptoBulk y.1)→CY (l.map e)≤Rows.uptoBulkAll (xs.map (·.1))
 |[],_,_,_=>DT _
 |x::l,[],h,_=>by cases h
 |x::l,y::xs,h,k=>by
  have:=mM l xs (L0 h) (fun i v hi=>k (i+1) v hi)
  obtain⟨c,a,b⟩:=k 0 x rfl
  cases a
  rw[Y9,Y9,CY]
  simp only[Rows.uptoBulkAll]
  omega
theorem xE{α:Type}{Q:Nat→α→Prop}:∀(len:Nat),(∀i,i<len→∃v,Q i v)→∃l:List α,l.length=len∧∀i v,l[i]?=some v→Q i v
 |0,_=>⟨[],rfl,fun i v h=>by simp at h⟩
 |len+1,h=>by
  obtain⟨l,a,b⟩:=xE len (fun i hi=>h i (by omega))
  obtain⟨v,c⟩:=h len (by omega)
  refine⟨l++[v],by simp[a],fun i w hi=>?_⟩
  grind
theorem CJ{α:Type}{e:TypeId}{b:α→List D}{sz:Nat}(V:P.underlying t=some (.slice e))(E:P.cellsOf e=sz)(U:sz≠0)(hl:∀x,(b x).length=sz)(h:∀m,m<n→BW enc P W m e b):
  BW enc P W n t (fun l:List α=>[.list (l.map b)]):=fun cs x X=>by
 rcases DataW.trod_slice V X with⟨rfl,rfl⟩|⟨a,len,cap,g,rest,m,rfl,rfl,rfl,Z,z,R,T,hi,_,_⟩
 ·exact⟨[],M6 .nil,dL _⟩
 ·have k:∀i,i<len→∃v:α,∃y f,g[i]?=some y∧W.cells? 0 (a.add (i*sz)) sz=some f∧Jl W (b v) f∧AA (b v)+1≤Rows.uptoBulk y.1:=fun i B=>by
   have I:=hi i B
   rw[Yh (by omega),E]at I
   obtain⟨f,M,N⟩:=mm.1 I
   obtain⟨v,O,Q⟩:=h m (by omega) f _ N
   exact⟨v,_,f,Yh (by omega),M,O,Q⟩
  obtain⟨l,A,r⟩:=xE len k
  have cell:∀(i j:Nat) (e':List D) (x:D),(l.map b)[i]?=some e'→e'[j]?=some x→∃c,W.cell? (a.add (i*sz+j))=some c∧RepD W (· <W.heap.size) x c:=fun i j e' x d o=>by
   rw[YO]at d
   cases s:l[i]? with
   |none=>rw[s]at d;cases d
   |some v=>
    rw[s]at d
    cases d
    obtain⟨y,f,p,q,F,G⟩:=r i v s
    obtain⟨c,H,J⟩:=F.2 j x o
    rw[YP]at H
    obtain⟨_,Y,K⟩:=World.cells?_some q
    have u:j<sz:=by
     rw[←hl v]
     rcases YH j (b v).length with h|h
     ·exact h
     ·rw[YT h]at o;cases o
    refine⟨c,?_,J⟩
    rw[←Go.Eng.add_add,K j u,H]
  refine⟨l,M6 ?_,?_⟩
  ·have hlen:(l.map b).length=len:=by simp[A]
   have:=RepD.list (w:=W) (S:=(· <W.heap.size)) (l.map b) a sz cap (fun i j=>(W.cell? (a.add (i*sz+j))).getD undef) (fun C=>by
     have L:0<len:=by
      rcases G7 len with h|h
      ·exact absurd (YB (hlen.trans h)) C
      ·exact h
     obtain⟨v,y,f,_,q,_⟩:=k 0 L
     have:=World.cells?_block q (by omega)
     rw[Gj]at this
     rw[←Go.Eng.block_add a 0];exact this)
    (by rw[hlen];exact z) (fun e' he=>by obtain⟨y,_,rfl⟩:=Y0.1 he;exact hl y)
    (fun i j e' x d o=>by obtain⟨c,p,_⟩:=cell i j e' x d o;rw[p];rfl)
    (fun i j e' x d o=>by obtain⟨c,p,q⟩:=cell i j e' x d o;rw[p];exact q)
   rw[hlen]at this
   exact this
  ·rw[Zos,ez,bk]
   have:=mM (e:=b) l g (by omega) (fun i v s=>by
    obtain⟨y,f,p,q,F,G⟩:=r i v s
    exact⟨y,p,G⟩)
   omega
def FB(xs:List (DataW H×List MemPlace))(i:Nat):Nat:=Rows.uptoBulkAll ((xs.drop i).map (·.1))
theorem Bk{xs:List (DataW H×List MemPlace)}{i:Nat}{a b:List D}(h:AA a+1+FB xs (i+1)≤FB xs i)(k:AA b≤FB xs (i+1)):AA (a++b)≤FB xs i:=by
 rw[Nz];omega
theorem DY{xs:List (DataW H×List MemPlace)}{i:Nat}{a:List D}(h:AA a+1+FB xs (i+1)≤FB xs i):AA a≤FB xs i:=by omega
theorem DZ{xs:List (DataW H×List MemPlace)}{a:List D}(h:AA a≤FB xs 0):AA a+1≤Rows.uptoBulk (.agg (xs.map (·.1))):=by
 rw[Zyo];exact Nat.succ_le_succ h
theorem ZxV{α:Type}{e:α→List D}{m i:Nat}{c:TypeId}{a:List Value}{xs:List (DataW H×List MemPlace)}(h:BW enc P W m c e)(b:DataW.trod enc P W 0 (fun _=>true) true m c a=xs[i]?)(hi:i<xs.length):
  ∃v,Jl W (e v) a∧AA (e v)+1+FB xs (i+1)≤FB xs i:=by
 rw[Yh hi]at b
 obtain⟨v,d,f⟩:=h _ _ b
 refine⟨v,d,?_⟩
 unfold FB
 rw[Ik hi,Y9]
 simp only[Rows.uptoBulkAll]
 omega
theorem rf{α:Type}{e:α→List D}{m i k:Nat}{b:TypeId}{a:List Value}{xs:List (DataW H×List MemPlace)}(h:BW enc P W m b e)(c:DataW.trod enc P W 0 (fun _=>true) true m b a=xs[i]?)(d:xs.length=k)(hi:Nat.blt i k=true:=by kernel_rfl):
  ∃v,Jl W (e v) a∧AA (e v)+1+FB xs (i+1)≤FB xs i:=ZxV h c (by rw[d];exact Yo hi)
theorem j5{α:Type}{e e':α→List D}(he:∀x,e x=e' x)(h:BW enc P W n t e'):BW enc P W n t e:=fun cs x a=>by
 obtain⟨v,b,c⟩:=h cs x a
 grind
theorem dX{α:Type}{e:α→List D}{q:Array Field}{r:Reach}{b:Nat}{v:Value}{d:DataW H}{p:List MemPlace}(rd:∀n,BW enc P W n t e)(w:P.underlying t=some (.struct q))(z:Value.okWide P W r b t v)
  (h:DataW.Trod enc P W 0 (fun _=>true) true t v d p):∃x:α,(∀m l,RepA W (· <W.heap.size) (fun _=>⟨0,false,0,0,[]⟩) m l (.agg ((e x).map .d)) v)∧AA (e x)+1≤Rows.uptoBulk d:=by
 obtain⟨cs,rfl,_⟩:=okWide_struct w z
 obtain⟨n,u⟩:=h
 obtain⟨x,k,s⟩:=rd n _ _ u
 have hl:(e x).length=cs.size:=by rw[k.1];simp[Value.cells]
 have key:∀(i:Nat) (c:Value),cs[i]?=some c→∃d,(e x)[i]?=some d∧RepD W (· <W.heap.size) d c:=fun i c f=>by
  have g:i<(e x).length:=by
   grind
  obtain⟨j,a,o⟩:=k.2 i _ (Yh g)
  have:j=c:=by
   rw[YP]at a
   have:cs.toList[i]?=some j:=a
   grind
  grind
 refine⟨x,fun m l=>.agg _ _ (by rw[YL,hl]) (fun i c f=>?_) (fun i y c hy f=>?_),s⟩
 ·obtain⟨d,_,a⟩:=key i c f;exact a.one
 ·obtain⟨d,a,o⟩:=key i c f
  rw[YO,a]at hy
  cases hy
  exact .d _ _ o
theorem ZCo{k:IntKind}{r:Reach}{a:Nat}{v:Value}{d:DataW H}{p:List MemPlace}(b:P.underlying t=some (.int k))(c:Value.okWide P W r a t v):
  ∃x:Int,∀S Hp m l,RepA W S Hp m l (.d (.int k x)) v:=by
 obtain⟨x,rfl⟩:=okWide_int b c
 exact⟨x,fun _ _ _ _=>.d _ _ (.int _ _)⟩
theorem ZF8{r:Reach}{a:Nat}{v:Value}{d:DataW H}{p:List MemPlace}(e:P.underlying t=some .string)(g:Value.okWide P W r a t v)(h:DataW.Trod enc P W 0 (fun _=>true) true t v d p):
  ∃x:ByteArray,(∀S Hp m l,RepA W S Hp m l (.d (.str x)) v)∧x.size+1≤Rows.uptoBulk d:=by
 obtain⟨x,rfl⟩:=okWide_string e g
 obtain⟨n,f⟩:=h
 obtain⟨s,b,c,_⟩:=DataW.trod_string e f
 have b:x=s:=by simpa[Value.cells]using b
 subst b
 have c:d=.lit (.string x.data.toList):=congrArg Prod.fst c
 subst c
 refine⟨x,fun _ _ _ _=>.d _ _ (.str _),?_⟩
 rw[wM]
 exact Yp _
def me:Hp:=fun _=>⟨0,false,0,0,[]⟩
theorem ok0(m:Mu):Ok 0 me m (· <W.heap.size) W:=⟨fun _ h=>h,fun _ _ h=>(by cases h),fun _ _ h=>(by cases h),fun _ _ _ _ h=>(by cases h),fun _ _ h=>(by cases h),⟨fun _ _ h=>(by cases h),fun _ _ h=>(by cases h),fun _ _ _ _ h=>(by cases h)⟩⟩
def tk(w:World)(S:Nat→Prop)(Hp:Hp)(m:Mu)(l:Nat):List AV→List Value→Prop
 |[],[]=>True
 |x::xs,v::vs=>RepA w S Hp m l x v∧tk w S Hp m l xs vs
 |_,_=>False
theorem ZFP{w:World}{S:Nat→Prop}{Hp:Hp}{m:Mu}{l:Nat}{xs:List AV}{vs:List Value}(h:tk w S Hp m l xs vs):KN w S Hp m l xs vs.toArray:=by
 suffices b:xs.length=vs.length∧∀(i:Nat) (x:AV) (v:Value),xs[i]?=some x→vs[i]?=some v→RepA w S Hp m l x v by
  exact⟨by simpa using b.1,fun i x v f e=>b.2 i x v f (by simpa using e)⟩
 induction xs generalizing vs with
 |nil=>cases vs with
  |nil=>exact⟨rfl,fun i x v h=>by simp at h⟩
  |cons _ _=>exact h.elim
 |cons x xs g=>cases vs with
  |nil=>exact h.elim
  |cons v vs=>
   obtain⟨c,d⟩:=g h.2
   refine⟨by simp[c],fun i y u hy a=>?_⟩
   cases i with
   |zero=>simp at hy a;subst hy;subst a;exact h.1
   |succ i=>exact d i y u (by simpa using hy) (by simpa using a)
theorem Zre{f:Func}{s:ChangeSpec}{n:World}{args:Array Value}{ds z:List (DataW H)}{e:List MemPlace}{u:TypeId}(B:DataW.Whole enc P f.params.toList s.vars false W args.toList ds z e)(c:s.vars=[])
  (k:laidOutB P=true) (y:∀t∈f.params.toList,P.readableRec t=true∧t<P.types.size) (g:f.resultTypes.toList=[u]) (K:P.underlying u=some .bool)
  (j:s.fn H (ds++z)={results:=[.lit (.bool true)],args:=ds }) (m:Below W.heap.size W n):s.post enc P f false true false false W args (.bool true) n:=by
 obtain⟨p,q,F,A,rfl,G,I⟩:=id B
 rw[c]at A
 obtain⟨rfl,rfl⟩:=trodVars_none A
 refine⟨ds,[],p++[],[],p,[],B,?_,?_,?_,?_,fun h=>by cases h⟩
 ·rw[j,g]
  have:(Value.bool true).resultList f.resultTypes.size=[.bool true]:=by
   have:f.resultTypes.size=1:=by rw[←YX,g];rfl
   rw[this];rfl
  rw[this]
  exact trodAll_cons_mk (shut_bool K _) trodAll_mk0
 ·rw[j]
  have key:∀(l:List TypeId) (vs:List Value) (es:List (DataW H)) (ps:List MemPlace),(∀t∈l,P.readableRec t=true∧t<P.types.size)→DataW.TrodAll enc P W 0 (fun _=>true) true l vs es ps→
    DataW.TrodAll enc P n 0 (fun b=>decide (b<W.heap.size)) true l vs es ps:=by
   intro l
   induction l with
   |nil=>intro vs es ps _ h;obtain⟨rfl,rfl,rfl⟩:=trodAll_nil h;exact trodAll_mk0
   |cons t l M=>
    intro vs es ps w h
    have r:=DataW.TrodAll.lt h
    obtain⟨v,N,d,C,a,b,rfl,rfl,rfl,D,E⟩:=trodAll_cons h
    exact trodAll_cons_mk (Below.trod k (w t (by simp)).1 (w t (by simp)).2 D m (fun x L=>r x (Ic _ L))) (M _ _ _ (fun t J=>w t (by simp[J])) E)
  exact key _ _ _ _ y F
 ·rw[c,j];exact rfl
 ·refine⟨m.os,m.output,fun i hi=>?_⟩
  rw[m.block i hi]
  cases W.heap[i]? with
  |none=>rfl
  |some o=>cases o<;>simp
end
end Go.Proofs.YtleccgigifnfgaaGreat
namespace Go.Proofs.YtleccgigifnfgaaGreat
set_option linter.all false
open Go Go.Eng
section
variable {H:Type} {enc:TypeId×Value→H} {W:World}
set_option maxRecDepth 100000
theorem ZIo(n:Nat):BW enc Tryz.prog W n 83 As:=fun cs x h=>by
 obtain⟨xs,m,rfl,rfl,c,a,b⟩:=DataW.trod_struct Tryz.underlying83 h
 obtain⟨v0,i,d⟩:=rf (DW Tryz.underlying3) (b 0 _ rfl) a
 obtain⟨o,j,e⟩:=rf (DW Tryz.underlying3) (b 1 _ rfl) a
 obtain⟨v2,k,f⟩:=rf (DW Tryz.underlying27) (b 2 _ rfl) a
 obtain⟨v3,l,g⟩:=rf (D0 Tryz.underlying9) (b 3 _ rfl) a
 have q:=DZ (Bk d (Bk e (Bk f (DY g))))
 exact⟨.mk v0 o v2 v3,⟨by rw[c];kernel_rfl,(i.at.app (j.at.app (k.at.app l.at)))⟩,q⟩
theorem ZyJ(n:Nat)(h:∀k,k<n→BW enc Tryz.prog W k 33 Ai):BW enc Tryz.prog W n 81 GS:=fun cs x f=>by
 obtain⟨xs,m,rfl,rfl,b,a,c⟩:=DataW.trod_struct Tryz.underlying81 f
 obtain⟨v0,g,d⟩:=rf (h m (by omega)) (c 0 _ rfl) a
 obtain⟨j,i,e⟩:=rf (h m (by omega)) (c 1 _ rfl) a
 have q:=DZ (Bk d (DY e))
 exact⟨.mk v0 j,⟨by rw[b];kernel_rfl,(g.at.app i.at)⟩,q⟩
theorem ZsS(n:Nat)(h:∀k,k<n→BW enc Tryz.prog W k 33 Ai):BW enc Tryz.prog W n 67 Cb:=fun cs x f=>by
 obtain⟨xs,m,rfl,rfl,b,a,c⟩:=DataW.trod_struct Tryz.underlying67 f
 obtain⟨v0,g,d⟩:=rf (DW Tryz.underlying3) (c 0 _ rfl) a
 obtain⟨j,i,e⟩:=rf (h m (by omega)) (c 1 _ rfl) a
 have q:=DZ (Bk d (DY e))
 exact⟨.mk v0 j,⟨by rw[b];kernel_rfl,(g.at.app i.at)⟩,q⟩
theorem Sx(n:Nat):BW enc Tryz.prog W n 33 Ai:=by
 induction n using Nat.strongRecOn with
 |ind n e=>
 intro cs x s
 obtain⟨xs,m,rfl,rfl,c,a,b⟩:=DataW.trod_struct Tryz.underlying33 s
 obtain⟨v0,t,f⟩:=rf (DW Tryz.underlying3) (b 0 _ rfl) a
 obtain⟨B,u,g⟩:=rf (DW Tryz.underlying27) (b 1 _ rfl) a
 obtain⟨v2,v,h⟩:=rf (D0 Tryz.underlying9) (b 2 _ rfl) a
 obtain⟨v3,w,i⟩:=rf (CJ Tryz.underlying28 (by kernel_rfl:Tryz.prog.cellsOf 33=7) (by decide) (fun x=>by rw[Gu];rfl) (fun k d=>(j5 Gu (e k (by omega))))) (b 3 _ rfl) a
 obtain⟨v4,y,l⟩:=rf (CJ Tryz.underlying29 (by kernel_rfl:Tryz.prog.cellsOf 81=14) (by decide) (fun x=>by rw[KY];rfl) (fun k d=>(j5 KY (ZyJ k (fun j r=>e j (by omega)))))) (b 4 _ rfl) a
 obtain⟨v5,z,o⟩:=rf (CJ Tryz.underlying30 (by kernel_rfl:Tryz.prog.cellsOf 67=8) (by decide) (fun x=>by rw[Hy];rfl) (fun k d=>(j5 Hy (ZsS k (fun j r=>e j (by omega)))))) (b 5 _ rfl) a
 obtain⟨C,A,p⟩:=rf (CJ Tryz.underlying31 (by kernel_rfl:Tryz.prog.cellsOf 83=4) (by decide) (fun _=>rfl) (fun k d=>(ZIo k))) (b 6 _ rfl) a
 have q:=DZ (Bk f (Bk g (Bk h (Bk i (Bk l (Bk o (DY p)))))))
 exact⟨.mk v0 B v2 v3 v4 v5 C,⟨by rw[c];kernel_rfl,(t.at.app (u.at.app (v.at.app (w.at.app (y.at.app (z.at.app A.at))))))⟩,q⟩
theorem ZIp(n:Nat):BW enc Tryz.prog W n 52 He:=fun cs x f=>by
 obtain⟨xs,m,rfl,rfl,b,a,c⟩:=DataW.trod_struct Tryz.underlying52 f
 obtain⟨v0,g,d⟩:=rf (DW Tryz.underlying3) (c 0 _ rfl) a
 obtain⟨i,h,e⟩:=rf (D0 Tryz.underlying9) (c 1 _ rfl) a
 have q:=DZ (Bk d (DY e))
 exact⟨.mk v0 i,⟨by rw[b];kernel_rfl,(g.at.app h.at)⟩,q⟩
theorem Le(n:Nat):BW enc Tryz.prog W n 122 Ay:=fun cs x f=>by
 obtain⟨xs,m,rfl,rfl,b,a,c⟩:=DataW.trod_struct Tryz.underlying122 f
 obtain⟨v0,g,d⟩:=rf (D0 Tryz.underlying9) (c 0 _ rfl) a
 obtain⟨i,h,e⟩:=rf (Sx m) (c 1 _ rfl) a
 have q:=DZ (Bk d (DY e))
 exact⟨.mk v0 i,⟨by rw[b];kernel_rfl,(g.at.app h.at)⟩,q⟩
theorem ZIF(n:Nat):BW enc Tryz.prog W n 54 Ar:=fun cs x p=>by
 obtain⟨xs,m,rfl,rfl,c,a,b⟩:=DataW.trod_struct Tryz.underlying54 p
 obtain⟨v0,r,d⟩:=rf (DW Tryz.underlying3) (b 0 _ rfl) a
 obtain⟨B,s,e⟩:=rf (D0 Tryz.underlying9) (b 1 _ rfl) a
 obtain⟨v2,t,f⟩:=rf (DW Tryz.underlying3) (b 2 _ rfl) a
 obtain⟨v3,u,g⟩:=rf (DW Tryz.underlying3) (b 3 _ rfl) a
 obtain⟨v4,v,h⟩:=rf (ZIp m) (b 4 _ rfl) a
 obtain⟨v5,w,i⟩:=rf (D0 Tryz.underlying9) (b 5 _ rfl) a
 obtain⟨C,y,j⟩:=rf (xM Tryz.underlying4) (b 6 _ rfl) a
 obtain⟨D,z,l⟩:=rf (Sx m) (b 7 _ rfl) a
 obtain⟨E,A,o⟩:=rf (CJ Tryz.underlying46 (by kernel_rfl:Tryz.prog.cellsOf 122=8) (by decide) (fun _=>rfl) (fun k F=>(Le k))) (b 8 _ rfl) a
 have q:=DZ (Bk d (Bk e (Bk f (Bk g (Bk h (Bk i (Bk j (Bk l (DY o)))))))))
 exact⟨.mk v0 B v2 v3 v4 v5 C D E,⟨by rw[c];kernel_rfl,(r.at.app (s.at.app (t.at.app (u.at.app (v.at.app (w.at.app (y.at.app (z.at.app A.at))))))))⟩,q⟩
theorem m8(n:Nat):BW enc Tryz.prog W n 201 AR:=fun cs x f=>by
 obtain⟨xs,m,rfl,rfl,b,a,c⟩:=DataW.trod_struct Tryz.underlying201 f
 obtain⟨v0,g,d⟩:=rf (DW Tryz.underlying3) (c 0 _ rfl) a
 obtain⟨i,h,e⟩:=rf (DW Tryz.underlying3) (c 1 _ rfl) a
 have q:=DZ (Bk d (DY e))
 exact⟨.mk v0 i,⟨by rw[b];kernel_rfl,(g.at.app h.at)⟩,q⟩
theorem ZJF(n:Nat):BW enc Tryz.prog W n 48 AH:=fun cs x j=>by
 obtain⟨xs,m,rfl,rfl,c,a,b⟩:=DataW.trod_struct Tryz.underlying48 j
 obtain⟨v0,l,e⟩:=rf (D0 Tryz.underlying9) (b 0 _ rfl) a
 obtain⟨t,o,f⟩:=rf (CJ Tryz.underlying43 (by kernel_rfl:Tryz.prog.cellsOf 54=16) (by decide) (fun _=>rfl) (fun k d=>(ZIF k))) (b 1 _ rfl) a
 obtain⟨v2,p,g⟩:=rf (CJ Tryz.underlying44 (by kernel_rfl:Tryz.prog.cellsOf 201=2) (by decide) (fun _=>rfl) (fun k d=>(m8 k))) (b 2 _ rfl) a
 obtain⟨v3,r,h⟩:=rf (CJ Tryz.underlying45 (by kernel_rfl:Tryz.prog.cellsOf 9=1) (by decide) (fun _=>rfl) (fun k d=>(D0 Tryz.underlying9))) (b 3 _ rfl) a
 obtain⟨v4,s,i⟩:=rf (CJ Tryz.underlying46 (by kernel_rfl:Tryz.prog.cellsOf 122=8) (by decide) (fun _=>rfl) (fun k d=>(Le k))) (b 4 _ rfl) a
 have q:=DZ (Bk e (Bk f (Bk g (Bk h (DY i)))))
 exact⟨.mk v0 t v2 v3 v4,⟨by rw[c];kernel_rfl,(l.at.app (o.at.app (p.at.app (r.at.app s.at))))⟩,q⟩
theorem ZKi(n:Nat):BW enc Tryz.prog W n 95 Ca:=fun cs x g=>by
 obtain⟨xs,m,rfl,rfl,b,a,c⟩:=DataW.trod_struct Tryz.underlying95 g
 obtain⟨v0,h,d⟩:=rf (D0 Tryz.underlying9) (c 0 _ rfl) a
 obtain⟨l,i,e⟩:=rf (DW Tryz.underlying3) (c 1 _ rfl) a
 obtain⟨v2,j,f⟩:=rf (CJ Tryz.underlying46 (by kernel_rfl:Tryz.prog.cellsOf 122=8) (by decide) (fun _=>rfl) (fun k o=>(Le k))) (c 2 _ rfl) a
 have q:=DZ (Bk d (Bk e (DY f)))
 exact⟨.mk v0 l v2,⟨by rw[b];kernel_rfl,(h.at.app (i.at.app j.at))⟩,q⟩
theorem ZIz(n:Nat):BW enc Tryz.prog W n 93 AQ:=fun cs x j=>by
 obtain⟨xs,m,rfl,rfl,c,a,b⟩:=DataW.trod_struct Tryz.underlying93 j
 obtain⟨v0,l,e⟩:=rf (D0 Tryz.underlying9) (b 0 _ rfl) a
 obtain⟨t,o,f⟩:=rf (xM Tryz.underlying4) (b 1 _ rfl) a
 obtain⟨v2,p,g⟩:=rf (CJ Tryz.underlying91 (by kernel_rfl:Tryz.prog.cellsOf 95=3) (by decide) (fun _=>rfl) (fun k d=>(ZKi k))) (b 2 _ rfl) a
 obtain⟨v3,r,h⟩:=rf (CJ Tryz.underlying44 (by kernel_rfl:Tryz.prog.cellsOf 201=2) (by decide) (fun _=>rfl) (fun k d=>(m8 k))) (b 3 _ rfl) a
 obtain⟨v4,s,i⟩:=rf (CJ Tryz.underlying46 (by kernel_rfl:Tryz.prog.cellsOf 122=8) (by decide) (fun _=>rfl) (fun k d=>(Le k))) (b 4 _ rfl) a
 have q:=DZ (Bk e (Bk f (Bk g (Bk h (DY i)))))
 exact⟨.mk v0 t v2 v3 v4,⟨by rw[c];kernel_rfl,(l.at.app (o.at.app (p.at.app (r.at.app s.at))))⟩,q⟩
theorem ZKU(n:Nat):BW enc Tryz.prog W n 100 FX:=fun cs x i=>by
 obtain⟨xs,m,rfl,rfl,c,a,b⟩:=DataW.trod_struct Tryz.underlying100 i
 obtain⟨v0,j,d⟩:=rf (D0 Tryz.underlying9) (b 0 _ rfl) a
 obtain⟨s,l,e⟩:=rf (D0 Tryz.underlying9) (b 1 _ rfl) a
 obtain⟨v2,o,f⟩:=rf (D0 Tryz.underlying9) (b 2 _ rfl) a
 obtain⟨v3,p,g⟩:=rf (DW Tryz.underlying3) (b 3 _ rfl) a
 obtain⟨v4,r,h⟩:=rf (CJ Tryz.underlying46 (by kernel_rfl:Tryz.prog.cellsOf 122=8) (by decide) (fun _=>rfl) (fun k t=>(Le k))) (b 4 _ rfl) a
 have q:=DZ (Bk d (Bk e (Bk f (Bk g (DY h)))))
 exact⟨.mk v0 s v2 v3 v4,⟨by rw[c];kernel_rfl,(j.at.app (l.at.app (o.at.app (p.at.app r.at))))⟩,q⟩
theorem ZJ8(n:Nat):BW enc Tryz.prog W n 98 AX:=fun cs x h=>by
 obtain⟨xs,m,rfl,rfl,b,a,c⟩:=DataW.trod_struct Tryz.underlying98 h
 obtain⟨v0,i,d⟩:=rf (D0 Tryz.underlying9) (c 0 _ rfl) a
 obtain⟨o,j,e⟩:=rf (CJ Tryz.underlying96 (by kernel_rfl:Tryz.prog.cellsOf 100=5) (by decide) (fun _=>rfl) (fun k g=>(ZKU k))) (c 1 _ rfl) a
 obtain⟨v2,l,f⟩:=rf (CJ Tryz.underlying46 (by kernel_rfl:Tryz.prog.cellsOf 122=8) (by decide) (fun _=>rfl) (fun k g=>(Le k))) (c 2 _ rfl) a
 have q:=DZ (Bk d (Bk e (DY f)))
 exact⟨.mk v0 o v2,⟨by rw[b];kernel_rfl,(i.at.app (j.at.app l.at))⟩,q⟩
theorem ZKs(n:Nat):BW enc Tryz.prog W n 26 AC:=fun cs x h=>by
 obtain⟨xs,m,rfl,rfl,b,a,c⟩:=DataW.trod_struct Tryz.underlying26 h
 obtain⟨v0,i,e⟩:=rf (CJ Tryz.underlying22 (by kernel_rfl:Tryz.prog.cellsOf 48=5) (by decide) (fun _=>rfl) (fun k d=>(ZJF k))) (c 0 _ rfl) a
 obtain⟨o,j,f⟩:=rf (CJ Tryz.underlying23 (by kernel_rfl:Tryz.prog.cellsOf 93=5) (by decide) (fun _=>rfl) (fun k d=>(ZIz k))) (c 1 _ rfl) a
 obtain⟨v2,l,g⟩:=rf (CJ Tryz.underlying24 (by kernel_rfl:Tryz.prog.cellsOf 98=3) (by decide) (fun _=>rfl) (fun k d=>(ZJ8 k))) (c 2 _ rfl) a
 have q:=DZ (Bk e (Bk f (DY g)))
 exact⟨.mk v0 o v2,⟨by rw[b];kernel_rfl,(i.at.app (j.at.app l.at))⟩,q⟩
end
end Go.Proofs.YtleccgigifnfgaaGreat
namespace Go.Eng
set_option linter.all false
open Go Go.RowKit
section
variable {σ ξ ρ α β γ:Type}
theorem EF{B:Nat→Option (Lv Nat ξ ρ)}{N:Nat}(l:List α)(p:α→Bool)(f:Nat→ρ)(e:ξ)
  (hs:∀i x,l[i]?=some x→B i=some (if p x=true then .rt (f i)else .nx (i+1))) (he:B l.length=some (.ex e)) (hN:l.length<N):
  Ao B N 0=some (match l.findIdx? p with|some i=>.inr (f i)|none=>.inl e):=by
 suffices H:∀k i N,i+k=l.length→k<N→Ao B N i=some (match (l.drop i).findIdx? p with|some j=>.inr (f (i+j))|none=>.inl e)by
  have:=H l.length 0 N (by omega) hN
  simpa using this
 intro k
 induction k with
 |zero=>
  intro i N hi hN
  obtain⟨N,rfl⟩:∃m,N=m+1:=⟨N-1,by omega⟩
  have:i=l.length:=by omega
  subst this
  rw[Ao,he,OX]
  rfl
 |succ k b=>
  intro i N hi hN
  obtain⟨N,rfl⟩:∃m,N=m+1:=⟨N-1,by omega⟩
  have a:i<l.length:=by omega
  rw[Ao,hs i l[i] (Yh a),Ik a,List.findIdx?_cons]
  cases c:p l[i]with
  |true=>simp
  |false=>
   simp only[Yw,YR]
   rw[b (i+1) N (by omega) (by omega)]
   cases(List.drop (i+1) l).findIdx? p with
   |none=>rfl
   |some j=>simp[YI,L1 1 j]
def KS(R:List α→α→Option ρ):List α→List α→Option ρ
 |_,[]=>none
 |p,x::l=>match R p x with
  |some r=>some r
  |none=>KS R (p++[x]) l
theorem Zx0{B:σ→Option (Lv σ ξ ρ)}{N:Nat}(l:List α)(S:List α→β)(R:List α→α→Option ρ)(mk:Nat→β→σ)(e:β→ξ)
  (hs:∀i x,l[i]?=some x→B (mk i (S (l.take i)))=some (match R (l.take i) x with|some r=>.rt r|none=>.nx (mk (i+1) (S (l.take i++[x])))))
  (he:B (mk l.length (S l))=some (.ex (e (S l)))) (hN:l.length<N):Ao B N (mk 0 (S []))=some ((KS R [] l).elim (.inl (e (S l))) .inr):=by
 suffices H:∀k i N,i+k=l.length→k<N→Ao B N (mk i (S (l.take i)))=some ((KS R (l.take i) (l.drop i)).elim (.inl (e (S l))) .inr)by
  have:=H l.length 0 N (by omega) hN
  grind
 intro k
 induction k with
 |zero=>
  intro i N hi hN
  obtain⟨N,rfl⟩:∃m,N=m+1:=⟨N-1,by omega⟩
  have:i=l.length:=by omega
  subst this
  rw[Ao,L9,he,OX]
  rfl
 |succ k b=>
  intro i N hi hN
  obtain⟨N,rfl⟩:∃m,N=m+1:=⟨N-1,by omega⟩
  have a:i<l.length:=by omega
  rw[Ao,hs i l[i] (Yh a),Ik a,KS]
  cases R (l.take i) l[i]with
  |some r=>rfl
  |none=>
   have:=b (i+1) N (by omega) (by omega)
   rw[Ij a]at this
   exact this
theorem vj{R:List α→α→Option ρ}(h:∀p x,R p x=none):∀(l p:List α),KS R p l=none
 |[],p=>rfl
 |x::l,p=>by rw[KS,h];exact vj h l _
theorem RC{B:σ→Option (Lv σ ξ ρ)}{N:Nat}(l:List α)(S:List α→β)(mk:Nat→β→σ)(e:β→ξ)
  (hs:∀i x,l[i]?=some x→B (mk i (S (l.take i)))=some (.nx (mk (i+1) (S (l.take i++[x])))))
  (he:B (mk l.length (S l))=some (.ex (e (S l)))) (hN:l.length<N):Ao B N (mk 0 (S []))=some (.inl (e (S l))):=by
 rw[Zx0 l S (fun _ _=>none) mk e hs he hN,vj fun _ _=>rfl]
 rfl
theorem xr{B:σ→Option (Lv σ ξ ρ)}(I:Nat→σ→Prop)(Q:ξ ⊕ ρ→Prop)
  (h:∀k v,I k v→∃o,B v=some o∧match o with|.nx c=>∃k',k'<k∧I k' c|.ex b=>Q (.inl b)|.rt y=>Q (.inr y)):
  ∀N k v,k<N→I k v→∃o,Ao B N v=some o∧Q o
 |0,k,v,d,_=>absurd d (Ih _)
 |N+1,k,v,d,g=>by
  obtain⟨o,e,a⟩:=h k v g
  rw[Ao,e]
  cases o with
  |nx c=>obtain⟨k',i,f⟩:=a;exact xr I Q h N k' c (by omega) f
  |ex b=>exact⟨_,rfl,a⟩
  |rt y=>exact⟨_,rfl,a⟩
theorem B6{l:List α}{i:Nat}{x:α}(h:l[i]?=some x):(i:Int)<(l.length:Int):=by
 grind
theorem BB{n:Nat}(h:n<4611686018427387904):n<Aj:=h
end
end Go.Eng
namespace Go.Proofs.YtleccgigifnfgaaGreat
set_option linter.all false
open Go Go.Eng
def Ok{α:Type}(Q:α→Prop)(o:Option α):Prop:=∃y,o=some y∧Q y
section
variable {α β γ σ ξ ρ:Type} {Q:β→Prop} {P:α→Prop}
theorem Ok.pure{y:β}(h:Q y):Ok Q (some y):=⟨y,rfl,h⟩
theorem Ok.bind{m:Option α}{k:α→Option β}(h:Ok P m)(a:∀y,P y→Ok Q (k y)):Ok Q (m.bind k):=by
 obtain⟨y,rfl,h⟩:=h
 exact a y h
theorem Ok.idx{xs:List α}{i:Nat}{k:α→Option β}(h:i<xs.length)(a:∀x,xs[i]?=some x→x∈xs→Ok Q (k x)):Ok Q (xs[i]?.bind k):=by
 rw[Yh h]
 exact a _ (Yh h) (Ma h)
theorem Ok.ite{c:Prop}{d:Decidable c}{a b:Option β}(h:c→Ok Q a)(e:¬c→Ok Q b):Ok Q (if c then a else b):=by
 split
 ·exact h ‹_›
 ·exact e ‹_›
theorem Ok.br{b:Bool}{x y:Option β}(h:b=true→Ok Q x)(a:b=false→Ok Q y):Ok Q (if b=true then x else y):=by
 cases b
 ·exact a rfl
 ·exact h rfl
theorem Ok.if{c:Prop}{d:Decidable c}{a:Option β}(b:c)(h:Ok Q a):Ok Q (if c then a else none):=by
 rw[Ys b]
 exact h
theorem Ok.ss{lo hi:Bd}{n:Nat}{a:Option β}(b:lo.c∧hi.c∧lo.vl 0≤hi.vl n∧hi.vl n≤n)(h:Ok Q a):Ok Q (if lo.c∧hi.c∧lo.vl 0≤hi.vl n∧hi.vl n≤n then a else none):=by
 rw[Ys b]
 exact h
theorem Ok.clg{b:Bool}{m:Option α}{x:Option β}(h:b=true→Ok P m)[Inhabited α](d:(b=true→P (m.getD default))→Ok Q x):Ok Q (if(b=true→m.isSome=true)then x else none):=by
 rw[Ys fun e=>by obtain⟨y,h,_⟩:=h e;rw[h];rfl]
 refine d fun e=>?_
 obtain⟨y,a,c⟩:=h e
 rw[a]
 exact c
theorem Ok.idxg{b:Bool}{xs:List α}{i:Int}{x:Option β}[Rw α](h:b=true→0≤i∧i<xs.length)(c:(b=true→xs[i.toNat]?=some (xs.getD i.toNat Rw.z)∧xs.getD i.toNat Rw.z∈xs)→Ok Q x):Ok Q (if(b=true→0≤i∧i<xs.length)then x else none):=by
 rw[Ys h]
 refine c fun e=>?_
 have d:=h e
 have a:i.toNat<xs.length:=by omega
 rw[YG,Yh a]
 exact⟨rfl,Ma a⟩
theorem Ok.loop{B:σ→Option (Lv σ ξ ρ)}{N:Nat}{v:σ}(I:σ→Prop)(μ:σ→Nat){A:ξ→Prop}{R:ρ→Prop}(d:I v)(hN:μ v<N)
  (hs:∀v,I v→Ok (fun o=>match o with|.nx c=>I c∧μ c<μ v|.ex b=>A b|.rt y=>R y) (B v)):Ok (Sum.elim A R) (Ao B N v):=
 xr (fun k v=>I v∧μ v≤k) (Sum.elim A R) (fun k v h=>by
  obtain⟨o,e,a⟩:=hs v h.1
  refine⟨o,e,?_⟩
  cases o with
  |nx c=>exact⟨μ c,by have:=a.2;have:=h.2;omega,a.1,Yp _⟩
  |ex b=>exact a
  |rt y=>exact a) N (μ v) v hN ⟨d,Yp _⟩
theorem Ok.lb{m:Option (ξ ⊕ ρ)}{A:ξ→Prop}{R:ρ→Prop}{f:ξ→Option β}{g:ρ→Option β}(h:Ok (Sum.elim A R) m)(c:∀b,A b→Ok Q (f b))(a:∀r,R r→Ok Q (g r)):Ok Q (m.bind (Sum.elim f g)):=by
 obtain⟨y,rfl,h⟩:=h
 cases y with
 |inl b=>exact c b h
 |inr r=>exact a r h
theorem Ok.mono{a:β→Prop}{o:Option β}(h:Ok Q o)(k:∀y,Q y→a y):Ok a o:=by
 obtain⟨y,b,c⟩:=h
 exact⟨y,b,k y c⟩
theorem Ok.some{o:Option β}(h:Ok Q o):o.isSome=true:=by
 obtain⟨y,a,b⟩:=h
 rw[a]
 rfl
end
abbrev Tr{α:Type}:α→Prop:=fun _=>True
abbrev No{α:Type}:α→Prop:=fun _=>False
abbrev Ts{α β:Type}:α ⊕ β→Prop:=Sum.elim Tr Tr
theorem AL:(⟨#[]⟩:ByteArray).size=0:=rfl
theorem PS(x:Int):Ok Tr (uA x):=⟨_,rfl,trivial⟩
theorem PP(x:Int):Ok Tr (uw x):=⟨_,rfl,trivial⟩
theorem te(x:Val):Ok Tr (aF x):=⟨_,rfl,trivial⟩
theorem sU(x:Int):Ok Tr (Qx x):=⟨_,rfl,trivial⟩
theorem sA(x:Int):Ok Tr (MS x):=by
 dsimp only[MS,Sm,br,lr,br,rem]
 (repeat' (first|with_reducible refine Ok.br (fun _=>?_) (fun _=>?_)|with_reducible refine Ok.pure ?_|with_reducible refine Ok.if ?_ ?_))<;>(first|trivial|assumption|contradiction|omega|solve_by_elim|(simp only[Ya,Yj,Yk,Yg,Ym,Ye,Yb]at*;omega)|grind)
theorem ZI(x:ByteArray):Ok Tr (aJ x):=by
 dsimp only[aJ,jU,RA,Nd,M4,br,lr,br]
 (repeat' (first|with_reducible refine Ok.br (fun _=>?_) (fun _=>?_)|with_reducible refine Ok.pure ?_|with_reducible refine Ok.if ?_ ?_))<;>(first|trivial|assumption|contradiction|omega|solve_by_elim|(simp only[Ya,Yj,Yk,Yg,Ym,Ye,Yb]at*;omega)|grind)
theorem ZSG(x:ByteArray)(n:Int):Ok Tr (aD x n):=by
 dsimp only[aD,i9,cR,Rf,QX,M3,M5,QN,br,lr,br]
 (repeat' (first|with_reducible refine Ok.br (fun _=>?_) (fun _=>?_)|with_reducible refine Ok.pure ?_|with_reducible refine Ok.if ?_ ?_))<;>(first|trivial|assumption|contradiction|omega|solve_by_elim|(simp only[Ya,Yj,Yk,Yg,Ym,Ye,Yb]at*;omega)|grind)
theorem ZD(x:ByteArray):Ok Tr (bm x):=by
 dsimp only[bm,jJ,br,lr,br]
 (repeat' (first|with_reducible refine Ok.br (fun _=>?_) (fun _=>?_)|with_reducible refine Ok.pure ?_|with_reducible refine Ok.if ?_ ?_))<;>(first|trivial|assumption|contradiction|omega|solve_by_elim|(simp only[Ya,Yj,Yk,Yg,Ym,Ye,Yb]at*;omega)|grind)
def LG(x:Fld):Prop:=(x.card≠5→1≤x.card∧x.card≤4∧x.key=0)∧(x.card=5→x.key=1∨x.key=2∨x.key=3∨x.key=4∨x.key=5∨x.key=7)
theorem z6(x:Fld):Ok (fun b=>b=true→LG x) (bz x):=by
 unfold LG
 dsimp only[bz,ic,br,vw,lr,br]
 (repeat' (first|with_reducible refine Ok.br (fun _=>?_) (fun _=>?_)|with_reducible refine Ok.pure ?_|with_reducible refine Ok.if ?_ ?_))<;>(intro h;first|(cases h;done)|(simp only[Ya,Yk,US,Ye,Yb]at*;omega))
theorem ZK(x:ByteArray)(i a b:Int)(h:0≤i):Ok Tr (bg x i a b):=by
 dsimp only[bg,gW,vz,lr,A2,FA]
 (repeat' (first|with_reducible refine Ok.br (fun _=>?_) (fun _=>?_)|with_reducible refine Ok.pure ?_|with_reducible refine Ok.if ?_ ?_))<;>(first|trivial|assumption|contradiction|omega|solve_by_elim|(simp only[Ya,Yj,Yk,Yg,Ym,Ye,Yb]at*;omega)|grind)
theorem sP(x:ByteArray)(i n:Int)(h:0≤i)(a:i≤2097152)(b:n≤9):Ok Tr (aH x i n):=by
 have q:Ok Ts (Ao (SC x i n) Aj 0):=by
  refine Ok.loop (fun _:Nat=>True) (fun v:Nat=>(n-v).toNat) trivial ?_ fun v _=>?_
  ·unfold Aj
   omega
  dsimp only[SC,g8,br,vs,Au,ln,Ak,cl,wa,wi,br]
  (repeat' (first|with_reducible refine Ok.br (fun _=>?_) (fun _=>?_)|with_reducible refine Ok.pure ?_|(with_reducible apply Ok.bind;(exact ZK _ _ _ _ (by omega));intro _ _)|with_reducible refine Ok.if ?_ ?_))<;>(first|trivial|assumption|contradiction|omega|solve_by_elim|(simp only[Ya,Yj,Yk,Yg,Ym,Ye,Yb]at*;omega)|grind)
 dsimp only[aH,kw,i4,gA,lr,lc]
 (repeat' (first|with_reducible refine Ok.br (fun _=>?_) (fun _=>?_)|with_reducible refine Ok.pure ?_|(with_reducible apply Ok.lb;(exact q);all_goals(intro _ _;try dsimp only))|with_reducible refine Ok.if ?_ ?_))<;>(first|trivial|assumption|contradiction|omega|solve_by_elim|(simp only[Ya,Yj,Yk,Yg,Ym,Ye,Yb]at*;omega)|grind)
set_option maxRecDepth 20000 in
theorem ZS6(x:ByteArray)(i:Int)(h:0≤i)(h1:i<x.size)(h2:x.size≤1048576):Ok (fun y=>0≤y∧y≤4) (aE x i):=by
 dsimp only[aE,gh,br,vg,lr,clg,wi,br,Ud]
 (repeat' (first|with_reducible refine Ok.br (fun _=>?_) (fun _=>?_)|with_reducible refine Ok.pure ?_|with_reducible refine Ok.idx ?_ (fun _ _ _=>?_)|(with_reducible apply Ok.bind;(exact ZK _ _ _ _ (by omega));intro _ _)|(with_reducible apply Ok.bind;(exact sP _ _ _ (by omega) (by omega) (by omega));intro _ _)|(with_reducible apply Ok.clg;(exact fun _=>ZK _ _ _ _ (by omega));intro _)|(with_reducible apply Ok.clg;(exact fun _=>sP _ _ _ (by omega) (by omega) (by omega));intro _)|with_reducible refine Ok.if ?_ ?_))<;>(first|trivial|assumption|contradiction|omega|solve_by_elim|(simp only[Ya,Yj,Yk,Yg,Ym,Ye,Yb]at*;omega)|grind)
structure SzV (v:Val):Prop where
 t:v.text.size≤1048576
 l:v.list.length≤1048576
 p:v.pairs.length≤1048576
 s:v.slots.length≤1048576
 r:v.raws.length≤1048576
structure SzN (x:Nt):Prop where
 n:x.name.size≤1048576
 v:SzV x.val
abbrev FZ(l:List Nt):Prop:=l.length≤1048576∧∀x∈l,SzN x
structure SzF (x:Fld):Prop where
 n:x.name.size≤1048576
 t:x.type.name.size≤1048576
 u:x.union.size≤1048576
 d:SzV x.dflt
 o:FZ x.notes
structure SzM (x:Msg):Prop where
 n:x.name.size≤1048576
 fl:x.fields.length≤1048576
 f:∀y∈x.fields,SzF y
 r:x.reserved.length≤1048576
 gl:x.gone.length≤1048576
 g:∀y∈x.gone,y.size≤1048576
 o:FZ x.notes
structure SzI (x:Itm):Prop where
 n:x.name.size≤1048576
 o:FZ x.notes
structure SzE (x:Enm):Prop where
 n:x.name.size≤1048576
 il:x.items.length≤1048576
 i:∀y∈x.items,SzI y
 r:x.reserved.length≤1048576
 o:FZ x.notes
structure SzT (x:Mth):Prop where
 n:x.name.size≤1048576
 o:FZ x.notes
structure SzW (x:Svc):Prop where
 n:x.name.size≤1048576
 ml:x.methods.length≤1048576
 m:∀y∈x.methods,SzT y
 o:FZ x.notes
structure SzS (x:Scm):Prop where
 ml:x.messages.length≤1048576
 m:∀y∈x.messages,SzM y
 el:x.enums.length≤1048576
 e:∀y∈x.enums,SzE y
 wl:x.services.length≤1048576
 w:∀y∈x.services,SzW y
theorem CS{v:Val}(h:AA (Ai v)≤1048576):SzV v:=by
 have a:=Di (e:=Ap) v.list
 have b:=Di (e:=Aq) v.pairs
 have c:=Di (e:=Ag) v.slots
 have d:=Di (e:=As) v.raws
 simp only[Ai,AA,bk]at h
 constructor<;>omega
theorem TW{v:Val}(h:AA (Ai v)≤1048576):0≤v.bits∧v.bits≤18446744073709551615:=by
 simp only[Ai,AA,bk]at h
 have:=ZPR (k:=.u64) (n:=v.bits) (by omega)
 exact this
theorem szN{x:Nt}(h:AA (Ay x)≤1048576):SzN x:=by
 have e:AA (Ay x)=x.name.size+AA (Ai x.val):=by simp only[Ay,Ai,AA,bk]
 exact⟨by omega,CS (by omega)⟩
theorem Kh{l:List Nt}(h:CY (l.map Ay)≤1048576):FZ l:=⟨by have:=Di (e:=Ay) l;omega,fun x a=>szN (by have:=CT (e:=Ay) a;omega)⟩
theorem szF{x:Fld}(h:AA (Ar x)≤1048576):SzF x:=by
 have e:x.name.size+x.type.name.size+x.union.size+AA (Ai x.dflt)+CY (x.notes.map Ay)≤AA (Ar x):=by
  simp only[Ar,Ai,AA,bk]
  omega
 exact⟨by omega,by omega,by omega,CS (by omega),Kh (by omega)⟩
theorem szM{x:Msg}(h:AA (AH x)≤1048576):SzM x:=by
 simp only[AH,AA,bk]at h
 have a:=Di (e:=Ar) x.fields
 have b:=Di (e:=AR) x.reserved
 have c:=Di (e:=Az) x.gone
 exact⟨by omega,by omega,fun y hy=>szF (by have:=CT (e:=Ar) hy;omega),by omega,by omega,fun y hy=>by have:=CT (e:=Az) hy;simp only[Az,AA,bk]at this;omega,Kh (by omega)⟩
theorem szI{x:Itm}(h:AA (Ca x)≤1048576):SzI x:=by
 simp only[Ca,AA,bk]at h
 exact⟨by omega,Kh (by omega)⟩
theorem szE{x:Enm}(h:AA (AQ x)≤1048576):SzE x:=by
 simp only[AQ,AA,bk]at h
 have a:=Di (e:=Ca) x.items
 have b:=Di (e:=AR) x.reserved
 exact⟨by omega,by omega,fun y hy=>szI (by have:=CT (e:=Ca) hy;omega),by omega,Kh (by omega)⟩
theorem szT{x:Mth}(h:AA (FX x)≤1048576):SzT x:=by
 simp only[FX,AA,bk]at h
 exact⟨by omega,Kh (by omega)⟩
theorem szW{x:Svc}(h:AA (AX x)≤1048576):SzW x:=by
 simp only[AX,AA,bk]at h
 have a:=Di (e:=FX) x.methods
 exact⟨by omega,by omega,fun y hy=>szT (by have:=CT (e:=FX) hy;omega),Kh (by omega)⟩
theorem FH{x:Scm}(h:AA (AC x)≤1048576):SzS x:=by
 simp only[AC,AA,bk]at h
 have a:=Di (e:=AH) x.messages
 have b:=Di (e:=AQ) x.enums
 have c:=Di (e:=AX) x.services
 exact⟨by omega,fun y hy=>szM (by have:=CT (e:=AH) hy;omega),by omega,fun y hy=>szE (by have:=CT (e:=AQ) hy;omega),by omega,fun y hy=>szW (by have:=CT (e:=AX) hy;omega)⟩
end Go.Proofs.YtleccgigifnfgaaGreat
