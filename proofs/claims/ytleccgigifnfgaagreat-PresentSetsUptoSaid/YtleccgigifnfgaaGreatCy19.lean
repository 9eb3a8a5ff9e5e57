import Derived.Test.YtleccgigifnfgaaGreatCy18
import Derived.Test.YtleccgigifnfgaaGreatCy00
namespace Go.Proofs.YtleccgigifnfgaaGreat
set_option maxRecDepth 100000
set_option linter.all false
open Go Go.Eng
abbrev JL(a:Val):Ac×Blk:=((1,1),⟨0,true,33,7,[vI a.kind,.d (.int .u64 a.bits),vS a.text,vL Ap a.list,vL Aq a.pairs,vL Ag a.slots,vL As a.raws]⟩)
abbrev Po:List Val→AV:=fun y=>vL Ap y
def mY(a:Val):List Val×Nat→St:=fun(b,v3)=>Ab [(1,.ptr (1,1) 0 0),(3,.ref (1,10) 0 0 b.length),(12,vL Aq a.pairs),(13,vN a.pairs.length),(14,vN v3)] [(JL a),((1,10),⟨0,true,33,7,Ae Ap b⟩)]
def yL(b:Val):List Val→Nat×St:=fun a=>(0,Ab [(1,.ptr (1,1) 0 0),(3,.ref (1,10) 0 0 a.length)] [(JL b),((1,10),⟨0,true,33,7,Ae Ap a⟩)])
def R2(c:Val)(b:List Val)(v3:Nat):PT 0 (Lv (List Val×Nat) (List Val) (List Val)):=br (decide ((v3:Int)<(c.pairs.length:Int))) (ix c.pairs v3 fun a=>vw .go<|vw .go<|vw .go<|vw .sep<|kR b (a.key:Val) a.val<|vs (wa v3 1)<|vz (fl (b++([a.key,a.val])))<|ln (mY c) (b++([a.key,a.val]),v3+1)) (vz (fl b)<|Ak (yL c) b)
def NO(a:Val):List Val×Nat→Option (Lv (List Val×Nat) (List Val) (List Val)):=fun(b,v3)=>(R2 a b v3).m
def yF(a:Val):List Val×Nat→St:=fun(b,c)=>Ab [(3,.ref (1,10) 0 0 b.length),(27,vL Ag a.slots),(28,vN a.slots.length),(29,vN c)] [((1,10),⟨0,true,33,7,Ae Ap b⟩)]
def nu:List Val→Nat×St:=fun a=>(2,Ab [(3,.ref (1,10) 0 0 a.length)] [((1,10),⟨0,true,33,7,Ae Ap a⟩)])
def SM(d:Val)(a:List Val)(b:Nat):PT 0 (Lv (List Val×Nat) (List Val) (List Val)):=br (decide ((b:Int)<(d.slots.length:Int))) (ix d.slots b fun c=>vw .go<|vw .go<|vw .sep<|ap a (c.val:Val)<|vs (wa b 1)<|vz (fl (a++[c.val]))<|ln (yF d) (a++[c.val],b+1)) (vz (fl a)<|Ak (nu) a)
def NP(a:Val):List Val×Nat→Option (Lv (List Val×Nat) (List Val) (List Val)):=fun(b,c)=>(SM a b c).m
def ig(a:List Val):PT 0 (List Val):=vz (fr a)<|lr Po (fun _=>[]) a
def iy(a:Val)(b:List Val):PT 0 (List Val):=vw .go<|vz (Ah a.slots)<|vz (fl b)<|lc (Ab [(3,.ref (1,10) 0 0 b.length),(27,vL Ag a.slots),(28,vN a.slots.length),(29,vI 0)] [((1,10),⟨0,true,33,7,Ae Ap b⟩)]) ((Ao (NP a) Aj (b,0)).bind (Sum.elim (fun c=>(ig c).m) some))
def fH(a:Val)(b:List Val):PT 0 (List Val):=vw .go<|vz (Ah a.pairs)<|vz (fl b)<|lc (Ab [(1,.ptr (1,1) 0 0),(3,.ref (1,10) 0 0 b.length),(12,vL Aq a.pairs),(13,vN a.pairs.length),(14,vI 0)] [(JL a),((1,10),⟨0,true,33,7,Ae Ap b⟩)]) ((Ao (NO a) Aj (b,0)).bind (Sum.elim (fun c=>(iy a c).m) some))
def fK(b:Val)(a:List Val):PT 0 (List Val):=vz (fl a)<|lc (Ab [(1,.ptr (1,1) 0 0),(3,.ref (1,10) 0 0 a.length)] [(JL b),((1,10),⟨0,true,33,7,Ae Ap a⟩)]) ((fH b a).m)
def jV(a:Val):PT 0 (List Val):=vw .go<|lc (Ab [(1,.ptr (1,1) 0 0),(9,vL Ap a.list)] [(JL a)]) ((Q0 a.list).bind fun b=>(fK a b).m)
def j7(a:Val):PT 0 (List Val):=lc (Ab [(1,.ptr (1,1) 0 0)] [(JL a)]) ((jV a).m)
def cm(a:Val):Option (List Val):=(j7 a).m
theorem Zv5{C:Cx}(co:CO C 0)(a:Val):KL Tryz.prog (AE tl) 40 C (pa [0,0,1,0,1,1] (AB Tryz.f196)) [.tmp 2] 0 (mY a) (yL a) Po (fun _=>[]) (NO a):=fun(e,v3) _ hm Q b d c=>AD co Aa Ad (R2 a e v3) (Af [1,3,12,13,14] FE) (Af [1,3] FE) d hm c fun r g=>⟨fun f=>id,id⟩
theorem Zw2{C:Cx}(co:CO C 0)(a:Val):KL Tryz.prog (AE tl) 40 C (pa [0,0,1,0,1,1,1] (AB Tryz.f196)) [.tmp 2] 0 (yF a) (nu) Po (fun _=>[]) (NP a):=fun(e,f) _ hm Q b d c=>AD co Aa Ad (SM a e f) (Af [3,27,28,29] [((1,10),true)]) (Af [3] [((1,10),true)]) d hm c fun r g=>⟨fun h=>id,id⟩
theorem ZPw(b:Val):KC Tryz.prog 196 [.agg ((Ai b).map .d)] (cm b) Po:=Av Tryz.func196 Tryz.ntmps196 Aa [.tmp 2] fun C co y hm c a=>Al co Aa Ad 1 (j7 b) (Af [1] CP) nl (fun _ h=>h) hm a fun r g=>fun _ hm a=>sq (rg (Br co Aa 2 (jV b) (Af [1,9] CP) hm a fun r g=>fun _ hm a=>GD co hm 224 [vL Ap b.list] [(1,10)] ([((1,10),⟨0,false,0,0,[]⟩)]++[]) (fun z=>.ref (1,10) 1 0 z.length) (fun z=>[((1,10),⟨1,true,33,7,Ae Ap z⟩)]) [] (fun z=>trivial) (trivial) (fun z e r g=>DA (ZQc b.list) e co g [((1,10),⟨0,false,0,0,[]⟩)] [] [((1,10),⟨1,true,33,7,Ae Ap z⟩)] (AM []) (fun j k l=>trivial) (fun H=>⟨(fun h=>by cases h),by kernel_rfl,trivial⟩) (fun H=>⟨fun _=>⟨rfl,Bl (AW _ _) (by kernel_rfl)⟩,by kernel_rfl,trivial⟩)) fun d hm=>A4 co Aa (fK b d) (Af [1,3] FE) hm a fun r g=>fun _ hm a=>sq (Al co Aa Ad 1 (fH b d) (Af [1,3,12,13,14] FE) nl (fun _ h=>h) hm a fun r g=>fun _ hm a=>bk 0 (lo (AK (Zv5 co b) (fun _ h=>h) hm a (fun f hm=>sq (Al co Aa Ad 1 (iy b f) (Af [3,27,28,29] [((1,10),true)]) nl (fun _ h=>h) hm a fun r g=>fun _ hm a=>bk 2 (lo (AK (Zw2 co b) (fun _ h=>h) hm a (fun i hm=>An co Aa Ad (ig i) hm a fun r g=>id))))))))))
abbrev JM:Int→AV:=fun y=>vI y
def ng(a:List Val):Int×Nat→St:=fun(v2,v3)=>Ab [(3,vI v2),(11,vL Ap a),(12,vN a.length),(13,vN v3)] []
def nR:Int→Nat×St:=fun a=>(0,Ab [(3,vI a)] [])
def R0(a:Val→Option (Int))(b:List Val)(v2:Int)(v3:Nat):PT 0 (Lv (Int×Nat) (Int) (Int)):=br (decide ((v3:Int)<(b.length:Int))) (ix b v3 fun c=>vw .go<|vw .go<|cs Tryz.prog 168 [.agg ((Ai c).map .d)] [] [] (a c) (fun y=>vI y) fun d=>vs (wi (v2+d))<|vs (wa v3 1)<|ln (ng b) ((v2+d),v3+1)) (Ak (nR) v2)
def NT(a:Val→Option (Int))(b:List Val):Int×Nat→Option (Lv (Int×Nat) (Int) (Int)):=fun(v2,v3)=>(R0 a b v2 v3).m
def kG(a:Int):PT 0 (Int):=lr JM (fun _=>[]) a
def jI(c:Val)(a:Val→Option (Int)):PT 0 (Int):=vw .go<|cl (ZPw c) fun b=>vz (Ah b)<|lc (Ab [(3,vN (1+c.raws.length)),(11,vL Ap b),(12,vN b.length),(13,vI 0)] []) ((Ao (NT a b) Aj (((1+c.raws.length:Nat):Int),0)).bind (Sum.elim (fun d=>(kG d).m) some))
def jc(a:Val)(b:Val→Option (Int)):PT 0 (Int):=vw .go<|vz (Ah a.raws)<|vs (wa 1 a.raws.length)<|lc (Ab [(1,.ptr (1,1) 0 0),(3,vN (1+a.raws.length))] [((1,1),⟨0,true,33,7,[vI a.kind,.d (.int .u64 a.bits),vS a.text,vL Ap a.list,vL Aq a.pairs,vL Ag a.slots,vL As a.raws]⟩)]) ((jI a b).m)
def TT(a:Val→Option (Int))(b:Val):Option (Int):=(jc b a).m
theorem ZxS{C:Cx}(co:CO C 0)(a:Val→Option (Int))(d:List Val)(c:∀(f:Val),KC Tryz.prog 168 [.agg ((Ai f).map .d)] (a f) JM):KL Tryz.prog (AE tl) 23 C (pa [0,0,1,0,1,1] (AB Tryz.f168)) [.tmp 2] 0 (ng d) (nR) JM (fun _=>[]) (NT a d):=fun(v2,v3) _ hm Q e j i=>AD co Aa Ad (R0 a d v2 v3) (AO [3,11,12,13]) (AO [3]) j hm i fun r g=>⟨fun b=>⟨fun y hy h _ _=>by rw[(c b).x,(c b).e];exact(c b).k _ h y hy,fun k=>id⟩,id⟩
theorem ZJc(a:Val→Option (Int))(e:∀(b:Val),KC Tryz.prog 168 [.agg ((Ai b).map .d)] (a b) JM)(b:Val):KC Tryz.prog 168 [.agg ((Ai b).map .d)] (TT a b) JM:=Av Tryz.func168 Tryz.ntmps168 Aa [.tmp 2] fun C co y hm d c=>Al co Aa Ad 2 (jc b a) (Af [1,3] CP) nl (fun _ h=>h) hm c fun r g=>fun _ hm c=>sq (Al co Aa Ad 1 (jI b a) (AO [3,11,12,13]) nl (fun _ h=>h) hm c fun r g=>fun i=>fun _ hm c=>bk 0 (lo (AK (ZxS co a i e) (fun _ h=>h) hm c (fun f hm=>An co Aa Ad (kG f) hm c fun r g=>id))))
def Kq:Nat→Val→Option (Int)
 |0=>fun _=>none
 |a+1=>TT (Kq a)
theorem rL:∀(b:Nat) (a:Val),KC Tryz.prog 168 [.agg ((Ai a).map .d)] (Kq b a) JM
 |0,a=>⟨fun _ _ _ h=>(by cases h),by intro r;kernel_rfl,by intro r y;kernel_rfl⟩
 |b+1,a=>ZJc (Kq b) (rL b) a
abbrev MC:Int→AV:=fun y=>vI y
def jZ(a:Scm)(e:ByteArray)(b:Val):PT 0 (Int):=vw .go<|cl (PW a e) fun c=>vw .go<|br (!c.2) (lr MC (fun _=>[]) 10) (vw .go<|vw .go<|vw .go<|cl (T0 (I6 Aj) (oY Aj) a c.1 b 1) fun d=>br (!decide (d=(0:Int))) (lr MC (fun _=>[]) d) (vw .go<|cl (rL Aj b) fun f=>br (decide ((4096:Int)<f)) (lr MC (fun _=>[]) 3) (lr MC (fun _=>[]) 0)))
def ci(a:Scm)(b:ByteArray)(c:Val):Option (Int):=(jZ a b c).m
theorem ZOj(a:Scm)(b:ByteArray)(c:Val):KC Tryz.prog 139 [.agg ((AC a).map .d),vS b,.agg ((Ai c).map .d)] (ci a b c) MC:=Av Tryz.func139 Tryz.ntmps139 Aa [.tmp 6] fun C co y hm d e=>An co Aa Ad (jZ a b c) hm e fun r g=>fun f=>⟨id,fun h=>⟨id,fun i=>⟨id,id⟩⟩⟩
abbrev JA:Bool→AV:=fun y=>vB y
def Vj(b:Scm)(a:Typ)(c:Val):PT 0 (Bool):=vw .go<|br (decide (a.kind=(10:Int))) (vw .go<|vw .go<|vw .go<|cl (ZOj b a.name c) fun d=>lr JA (fun _=>[]) (decide (d=(0:Int)))) (vw .go<|cl (Ke a.kind) fun e=>br (!e) (lr JA (fun _=>[]) false) (vw .go<|br (decide (a.kind=(9:Int))) (vw .go<|vw .go<|cl (Qu b a.name) fun f=>vw .go<|br (!f.2) (lr JA (fun _=>[]) false) (vw .go<|vw .go<|vw .go<|cl (Tp b a c) fun g=>lr JA (fun _=>[]) (decide (g=(0:Int))))) (vw .go<|vw .go<|vw .go<|cl (Tp b a c) fun h=>lr JA (fun _=>[]) (decide (h=(0:Int))))))
def bX(a:Scm)(b:Typ)(c:Val):Option (Bool):=(Vj a b c).m
theorem sY(a:Scm)(b:Typ)(c:Val):KC Tryz.prog 95 [.agg ((AC a).map .d),.agg ((He b).map .d),.agg ((Ai c).map .d)] (bX a b c) JA:=Av Tryz.func95 Tryz.ntmps95 Aa [.tmp 6] fun C co y hm d e=>An co Aa Ad (Vj a b c) hm e fun r g=>⟨fun f=>id,fun h=>⟨id,⟨fun i=>⟨id,fun j=>id⟩,fun k=>id⟩⟩⟩
abbrev Z8(a:Val):Ac×Blk:=((1,5),⟨1,true,33,7,[vI a.kind,.d (.int .u64 a.bits),vS a.text,vL Ap a.list,vL Aq a.pairs,vL Ag a.slots,vL As a.raws]⟩)
abbrev Jz:Int→AV:=fun y=>vI y
def Vl(d:Acs)(a:Typ)(c:Val):PT 0 (Int):=vw .go<|vw .go<|vw .go<|clg (decide (a.kind=(9:Int))) (ao a.kind c) fun e=>br (decide (a.kind=(9:Int))&&e) (vw .go<|vw .go<|cl (Qu d.s a.name) fun b=>vw .go<|vw .go<|vw .go<|Dt (b.2&&(!b.1.opn)) Tryz.prog 93 [vL Ca b.1.items,.fn (.func 94) [] [.ptr (1,5) 1 0]] [(1,5)] [(Z8 c)] (MX b.1.items (fun(z0:Itm)=>QB z0 c)) (fun y=>vB y) fun f=>br ((b.2&&(!b.1.opn))&&(!f)) (lr Jz (fun _=>[]) 16) (vw .go<|vw .go<|vw .go<|cl (sY d.s a c) fun g=>br (!g) (lr Jz (fun _=>[]) 12) (lr Jz (fun _=>[]) 0))) (vw .go<|vw .go<|vw .go<|cl (sY d.s a c) fun h=>br (!h) (lr Jz (fun _=>[]) 12) (lr Jz (fun _=>[]) 0))
def aS(a:Acs)(b:Typ)(c:Val):Option (Int):=(Vl a b c).m
theorem Zx(b:Acs)(c:Typ)(a:Val):KC Tryz.prog 57 [.agg ((Fs b).map .d),.agg ((He c).map .d),.agg ((Ai a).map .d)] (aS b c a) Jz:=Av Tryz.func57 Tryz.ntmps57 Aa [.tmp 6] fun C co y hm d e=>An co Aa Ad (Vl b c a) hm e fun r g=>fun m=>⟨fun i=>⟨fun y hy=>BJ (sX i.1.items (fun(z0:Itm)=>QB z0 a)) hy co g [] [(Z8 a)] (AM [(1,.fn (.func 94) [] [.ptr (r.κ (1,5)) (r.γ (1,5)+1) 0])]) (fun j f k=>(fun z0 y h=>Dg (ZSi z0 a) h co g [(Z8 a)] [] f (by simp) (fun _=>.top) (fun _ _=>trivial) (fun l H=>⟨fun _=>⟨rfl,by kernel_rfl⟩,by kernel_rfl,trivial⟩))) (fun H=>trivial),fun n=>⟨id,fun o=>⟨id,id⟩⟩⟩,fun p=>⟨id,id⟩⟩
abbrev lR:Bool→AV:=fun y=>vB y
def VX(a:Val):PT 0 (Bool):=vw .go<|vw .go<|vw .go<|vy (decide (a.bits=(0:Int))&&decide (a.text=(⟨#[]⟩:ByteArray))) (Ah a.slots)<|vw .go<|vy (decide (a.bits=(0:Int))&&decide (a.text=(⟨#[]⟩:ByteArray))) (Ah a.raws)<|vg (decide (a.bits=(0:Int))&&decide (a.text=(⟨#[]⟩:ByteArray))) (wa a.slots.length a.raws.length)<|lr lR (fun _=>[]) ((decide (a.bits=(0:Int))&&decide (a.text=(⟨#[]⟩:ByteArray)))&&decide (((a.slots.length+a.raws.length:Nat):Int)=(0:Int)))
def ct(a:Val):Option (Bool):=(VX a).m
theorem td(a:Val):KC Tryz.prog 88 [.agg ((Ai a).map .d)] (ct a) lR:=Av Tryz.func88 Tryz.ntmps88 Aa [.tmp 2] fun C co y hm b c=>An co Aa Ad (VX a) hm c fun r g=>id
abbrev Pf:List (Ac×Bool):=[((1,3),false),((1,4),false),((1,5),false)]
abbrev Zu(a:Acs):Ac×Blk:=((1,3),⟨0,true,69,8,[vS a.m.name,vL Ar a.m.fields,vL AR a.m.reserved,vL Az a.m.gone,vL Ay a.m.notes,vL AH a.s.messages,vL AQ a.s.enums,vL AX a.s.services]⟩)
abbrev ZF(a:Fld):Ac×Blk:=((1,4),⟨0,true,54,16,[vI a.num,vS a.name,vI a.card,vI a.key,vI a.type.kind,vS a.type.name,vS a.union,vB a.hasDefault,vI a.dflt.kind,.d (.int .u64 a.dflt.bits),vS a.dflt.text,vL Ap a.dflt.list,vL Aq a.dflt.pairs,vL Ag a.dflt.slots,vL As a.dflt.raws,vL Ay a.notes]⟩)
abbrev LI:Int→AV:=fun y=>vI y
def ow(b:Acs)(c:Fld)(a:Val):Nat→St:=fun v2=>Ab [(3,.ptr (1,3) 0 0),(4,.ptr (1,4) 0 0),(25,vL Ap a.list),(26,vN a.list.length),(27,vN v2)] [(Zu b),(ZF c)]
def o3:Unit→Nat×St:=fun _=>(0,Ab [] [])
def Tc(b:Acs)(c:Fld)(a:Val)(v2:Nat):PT 0 (Lv (Nat) (Unit) (Int)):=br (decide ((v2:Int)<(a.list.length:Int))) (ix a.list v2 fun e=>vw .go<|vw .go<|vw .go<|vw .go<|cl (Zx b c.type e) fun d=>br (!decide (d=(0:Int))) (Au LI (fun _=>[]) d) (vs (wa v2 1)<|ln (ow b c a) (v2+1))) (Ak (o3) ())
def Om(a:Acs)(b:Fld)(c:Val):Nat→Option (Lv (Nat) (Unit) (Int)):=fun v2=>(Tc a b c v2).m
def Ve:PT 0 (Int):=lr LI (fun _=>[]) 0
def WL(b:Acs)(c:Fld)(a:Val):PT 0 (Int):=vw .go<|vz (Ah a.list)<|lc (Ab [(3,.ptr (1,3) 0 0),(4,.ptr (1,4) 0 0),(25,vL Ap a.list),(26,vN a.list.length),(27,vI 0)] [(Zu b),(ZF c)]) ((Ao (Om b c a) Aj 0).bind (Sum.elim (fun _=>(Ve).m) some))
def Xg(b:Acs)(c:Fld)(a:Val):PT 0 (Int):=vw .go<|vw .go<|clg (!(!decide (a.kind=(11:Int)))) (td a) fun d=>vw .go<|vy (!((!decide (a.kind=(11:Int)))||(!d))) (Ah a.pairs)<|br (((!decide (a.kind=(11:Int)))||(!d))||decide ((0:Int)<(a.pairs.length:Int))) (lr LI (fun _=>[]) 12) (lc (Ab [(3,.ptr (1,3) 0 0),(4,.ptr (1,4) 0 0),(5,.ptr (1,5) 0 0)] [(Zu b),(ZF c),((1,5),⟨0,true,33,7,[vI a.kind,.d (.int .u64 a.bits),vS a.text,vL Ap a.list,vL Aq a.pairs,vL Ag a.slots,vL As a.raws]⟩)]) ((WL b c a).m))
def aX(a:Acs)(b:Fld)(c:Val):Option (Int):=(Xg a b c).m
theorem ZG4{C:Cx}(co:CO C 0)(a:Acs)(b:Fld)(c:Val):KL Tryz.prog (AE tl) 40 C (pa [0,0,1,0,1,1] (AB Tryz.f55)) [.tmp 6] 0 (ow a b c) (o3) LI (fun _=>[]) (Om a b c):=fun v2 _ hm Q d f e=>AD co Aa Ad (Tc a b c v2) (Af [3,4,25,26,27] Oo) nl f hm e fun r g=>⟨fun h=>fun i=>⟨id,id⟩,id⟩
theorem ZSw(b:Acs)(c:Fld)(d:Val):KC Tryz.prog 55 [.agg ((Fs b).map .d),.agg ((Ar c).map .d),.agg ((Ai d).map .d)] (aX b c d) LI:=Av Tryz.func55 Tryz.ntmps55 Aa [.tmp 6] fun C co y hm e a=>Al co Aa Ad 2 (Xg b c d) (Af [3,4,5] Pf) nl (fun _ h=>h) hm a fun r g=>fun f=>⟨id,fun _ hm a=>sq (Al co Aa Ad 1 (WL b c d) (Af [3,4,25,26,27] Oo) nl (fun _ h=>h) hm a fun r g=>fun _ hm a=>bk 0 (lo (AK (ZG4 co b c d) (fun _ h=>h) hm a (fun _ hm=>An co Aa Ad (Ve) hm a fun r g=>id))))⟩
abbrev lT:Bool→AV:=fun y=>vB y
@[reducible] def l6(w0:Pr):Bool→List Blk:=fun y=>[⟨0,true,81,14,[vI w0.key.kind,.d (.int .u64 w0.key.bits),vS w0.key.text,vL Ap w0.key.list,vL Aq w0.key.pairs,vL Ag w0.key.slots,vL As w0.key.raws,vI w0.val.kind,.d (.int .u64 w0.val.bits),vS w0.val.text,vL Ap w0.val.list,vL Aq w0.val.pairs,vL Ag w0.val.slots,vL As w0.val.raws]⟩]
def VG(a:Pr)(w0:Pr):PT 1 (Bool):=vw .go<|vw .go<|cl (Z4 w0.key a.key) fun b=>lr lT (l6 w0) b
def MR(a:Pr)(w0:Pr):Option (Bool):=(VG a w0).m
theorem ZTd(a:Pr)(w0:Pr):KO Tryz.prog 91 1 [.agg ((GS a).map .d),.ptr (0,0) 0 0] [⟨0,true,81,14,[vI w0.key.kind,.d (.int .u64 w0.key.bits),vS w0.key.text,vL Ap w0.key.list,vL Aq w0.key.pairs,vL Ag w0.key.slots,vL As w0.key.raws,vI w0.val.kind,.d (.int .u64 w0.val.bits),vS w0.val.text,vL Ap w0.val.list,vL Aq w0.val.pairs,vL Ag w0.val.slots,vL As w0.val.raws]⟩] (fun _ _ _ _=>True) (MR a w0) lT (l6 w0):=A8 Tryz.func91 Tryz.ntmps91 Aa [.tmp 3] 1 (fun C co d y hm b c=>An co Aa Ad (VG a w0) hm c fun r g=>fun e=>id) (hB:=fun y=>⟨.inr (by kernel_rfl),rfl,trivial⟩)
abbrev ac(a:Acs):Ac×Blk:=((1,3),⟨0,true,69,8,[vS a.m.name,vL Ar a.m.fields,vL AR a.m.reserved,vL Az a.m.gone,vL Ay a.m.notes,vL AH a.s.messages,vL AQ a.s.enums,vL AX a.s.services]⟩)
abbrev am(a:Fld):Ac×Blk:=((1,4),⟨0,true,54,16,[vI a.num,vS a.name,vI a.card,vI a.key,vI a.type.kind,vS a.type.name,vS a.union,vB a.hasDefault,vI a.dflt.kind,.d (.int .u64 a.dflt.bits),vS a.dflt.text,vL Ap a.dflt.list,vL Aq a.dflt.pairs,vL Ag a.dflt.slots,vL As a.dflt.raws,vL Ay a.notes]⟩)
abbrev Zk(a:Val):Ac×Blk:=((1,5),⟨0,true,33,7,[vI a.kind,.d (.int .u64 a.bits),vS a.text,vL Ap a.list,vL Aq a.pairs,vL Ag a.slots,vL As a.raws]⟩)
abbrev H7:Int→AV:=fun y=>vI y
def oA(b:Acs)(c:Fld)(a:Val):Nat→St:=fun v2=>Ab [(3,.ptr (1,3) 0 0),(4,.ptr (1,4) 0 0),(5,.ptr (1,5) 0 0),(25,vL Aq a.pairs),(26,vN a.pairs.length),(27,vN v2)] [(ac b),(am c),(Zk a)]
def oe:Unit→Nat×St:=fun _=>(0,Ab [] [])
def N9(e:Acs)(c:Fld)(b:Val)(v2:Nat):PT 0 (Lv (Nat) (Unit) (Int)):=br (decide ((v2:Int)<(b.pairs.length:Int))) (ix b.pairs v2 fun a=>vw .go<|vw .go<|vw .go<|cl (ao c.key a.key) fun g=>br (!g) (Au H7 (fun _=>[]) 12) (vw .go<|sL b.pairs .no (.nt v2) fun d=>cs Tryz.prog 90 [vL Aq d,.fn (.func 91) [] [.ptr (1,8) 1 0]] [(1,8)] [((1,8),⟨1,true,81,14,[vI a.key.kind,.d (.int .u64 a.key.bits),vS a.key.text,vL Ap a.key.list,vL Aq a.key.pairs,vL Ag a.key.slots,vL As a.key.raws,vI a.val.kind,.d (.int .u64 a.val.bits),vS a.val.text,vL Ap a.val.list,vL Aq a.val.pairs,vL Ag a.val.slots,vL As a.val.raws]⟩)] (I5 d (fun(z0:Pr)=>MR z0 a)) (fun y=>vB y) fun h=>br h (Au H7 (fun _=>[]) 9) (vw .go<|vw .go<|vw .go<|cl (Zx e c.type a.val) fun f=>br (!decide (f=(0:Int))) (Au H7 (fun _=>[]) f) (vs (wa v2 1)<|ln (oA e c b) (v2+1))))) (Ak (oe) ())
def Lp(a:Acs)(b:Fld)(c:Val):Nat→Option (Lv (Nat) (Unit) (Int)):=fun v2=>(N9 a b c v2).m
def Vh:PT 0 (Int):=lr H7 (fun _=>[]) 0
def Vc(b:Acs)(c:Fld)(a:Val):PT 0 (Int):=vw .go<|vz (Ah a.pairs)<|lc (Ab [(3,.ptr (1,3) 0 0),(4,.ptr (1,4) 0 0),(5,.ptr (1,5) 0 0),(25,vL Aq a.pairs),(26,vN a.pairs.length),(27,vI 0)] [(ac b),(am c),(Zk a)]) ((Ao (Lp b c a) Aj 0).bind (Sum.elim (fun _=>(Vh).m) some))
def U8(b:Acs)(c:Fld)(a:Val):PT 0 (Int):=vw .go<|vw .go<|clg (!(!decide (a.kind=(12:Int)))) (td a) fun d=>vw .go<|vy (!((!decide (a.kind=(12:Int)))||(!d))) (Ah a.list)<|br (((!decide (a.kind=(12:Int)))||(!d))||decide ((0:Int)<(a.list.length:Int))) (lr H7 (fun _=>[]) 12) (lc (Ab [(3,.ptr (1,3) 0 0),(4,.ptr (1,4) 0 0),(5,.ptr (1,5) 0 0)] [(ac b),(am c),(Zk a)]) ((Vc b c a).m))
def bh(a:Acs)(b:Fld)(c:Val):Option (Int):=(U8 a b c).m
theorem ZBY{C:Cx}(co:CO C 0)(b:Acs)(c:Fld)(d:Val):KL Tryz.prog (AE tl) 54 C (pa [0,0,1,0,1,1] (AB Tryz.f56)) [.tmp 6] 0 (oA b c d) (oe) H7 (fun _=>[]) (Lp b c d):=fun v2 _ hm Q e h f=>AD co Aa Ad (N9 b c d v2) (Af [3,4,5,25,26,27] Pf) nl h hm f fun r g=>⟨fun a=>fun o=>⟨id,fun k=>⟨fun y hy=>BJ (tB k (fun(z0:Pr)=>MR z0 a)) hy co g [] [((1,8),⟨1,true,81,14,[vI a.key.kind,.d (.int .u64 a.key.bits),vS a.key.text,vL Ap a.key.list,vL Aq a.key.pairs,vL Ag a.key.slots,vL As a.key.raws,vI a.val.kind,.d (.int .u64 a.val.bits),vS a.val.text,vL Ap a.val.list,vL Aq a.val.pairs,vL Ag a.val.slots,vL As a.val.raws]⟩)] (AM [(1,.fn (.func 91) [] [.ptr (r.κ (1,8)) (r.γ (1,8)+1) 0])]) (fun m i n=>(fun z0 y j=>Dg (ZTd z0 a) j co g [((1,8),⟨1,true,81,14,[vI a.key.kind,.d (.int .u64 a.key.bits),vS a.key.text,vL Ap a.key.list,vL Aq a.key.pairs,vL Ag a.key.slots,vL As a.key.raws,vI a.val.kind,.d (.int .u64 a.val.bits),vS a.val.text,vL Ap a.val.list,vL Aq a.val.pairs,vL Ag a.val.slots,vL As a.val.raws]⟩)] [] i (by simp) (fun _=>.top) (fun _ _=>trivial) (fun l H=>⟨fun _=>⟨rfl,by kernel_rfl⟩,by kernel_rfl,trivial⟩))) (fun H=>trivial),fun p=>⟨id,fun q=>⟨id,id⟩⟩⟩⟩,id⟩
theorem ZS3(b:Acs)(c:Fld)(d:Val):KC Tryz.prog 56 [.agg ((Fs b).map .d),.agg ((Ar c).map .d),.agg ((Ai d).map .d)] (bh b c d) H7:=Av Tryz.func56 Tryz.ntmps56 Aa [.tmp 6] fun C co y hm e a=>Al co Aa Ad 2 (U8 b c d) (Af [3,4,5] Pf) nl (fun _ h=>h) hm a fun r g=>fun f=>⟨id,fun _ hm a=>sq (Al co Aa Ad 1 (Vc b c d) (Af [3,4,5,25,26,27] Pf) nl (fun _ h=>h) hm a fun r g=>fun _ hm a=>bk 0 (lo (AK (ZBY co b c d) (fun _ h=>h) hm a (fun _ hm=>An co Aa Ad (Vh) hm a fun r g=>id))))⟩
abbrev Oz:Int→AV:=fun y=>vI y
def VF(b:Acs)(a:Fld)(c:Val):PT 0 (Int):=vw .go<|br (decide (a.card=(4:Int))) (vw .go<|vw .go<|vw .go<|cl (ZSw b a c) fun d=>lr Oz (fun _=>[]) d) (br (decide (a.card=(5:Int))) (vw .go<|vw .go<|vw .go<|cl (ZS3 b a c) fun e=>lr Oz (fun _=>[]) e) (vw .go<|vw .go<|vw .go<|cl (Zx b a.type c) fun f=>lr Oz (fun _=>[]) f))
def aU(a:Acs)(b:Fld)(c:Val):Option (Int):=(VF a b c).m
theorem ZSB(a:Acs)(b:Fld)(c:Val):KC Tryz.prog 26 [.agg ((Fs a).map .d),.agg ((Ar b).map .d),.agg ((Ai c).map .d)] (aU a b c) Oz:=Av Tryz.func26 Tryz.ntmps26 Aa [.tmp 6] fun C co y hm d e=>An co Aa Ad (VF a b c) hm e fun r g=>⟨fun f=>id,⟨fun h=>id,fun i=>id⟩⟩
abbrev lL:Bool→AV:=fun y=>vB y
def W7(a:Val):PT 0 (Bool):=vw .go<|cl (Ke a.kind) fun b=>vw .go<|clg b (sN a) fun c=>vw .go<|vw .go<|lr lL (fun _=>[]) (((b&&c)&&decide (a.bits=(0:Int)))&&decide (a.text=(⟨#[]⟩:ByteArray)))
def bK(a:Val):Option (Bool):=(W7 a).m
theorem ZSK(a:Val):KC Tryz.prog 61 [.agg ((Ai a).map .d)] (bK a) lL:=Av Tryz.func61 Tryz.ntmps61 Aa [.tmp 2] fun C co y hm b c=>An co Aa Ad (W7 a) hm c fun r g=>fun d=>fun e=>id
abbrev lz:Bool→AV:=fun y=>vB y
def VT(b:Fld)(a:Val):PT 0 (Bool):=vw .go<|vw .go<|clg (decide (b.card=(3:Int))) (ZSK a) fun c=>vw .go<|vw .go<|vy ((!(decide (b.card=(3:Int))&&c))&&decide (a.kind=(11:Int))) (Ah a.list)<|vw .go<|vw .go<|vy ((!((decide (b.card=(3:Int))&&c)||(decide (a.kind=(11:Int))&&decide ((a.list.length:Int)=(0:Int)))))&&decide (a.kind=(12:Int))) (Ah a.pairs)<|lr lz (fun _=>[]) (((decide (b.card=(3:Int))&&c)||(decide (a.kind=(11:Int))&&decide ((a.list.length:Int)=(0:Int))))||(decide (a.kind=(12:Int))&&decide ((a.pairs.length:Int)=(0:Int))))
def bq(a:Fld)(b:Val):Option (Bool):=(VT a b).m
theorem ZTt(a:Fld)(b:Val):KC Tryz.prog 28 [.agg ((Ar a).map .d),.agg ((Ai b).map .d)] (bq a b) lz:=Av Tryz.func28 Tryz.ntmps28 Aa [.tmp 4] fun C co y hm c d=>An co Aa Ad (VT a b) hm d fun r g=>fun e=>id
abbrev lM:Bool→AV:=fun y=>vB y
@[reducible] def l2(w0:Slt):Bool→List Blk:=fun y=>[⟨0,true,67,8,[vI w0.num,vI w0.val.kind,.d (.int .u64 w0.val.bits),vS w0.val.text,vL Ap w0.val.list,vL Aq w0.val.pairs,vL Ag w0.val.slots,vL As w0.val.raws]⟩]
def o0(a:Slt)(w0:Slt):PT 1 (Bool):=vw .go<|vw .go<|lr lM (l2 w0) (decide (w0.num<a.num))
def QM(a:Slt)(w0:Slt):Option (Bool):=(o0 a w0).m
theorem ZSS(a:Slt)(w0:Slt):KO Tryz.prog 63 1 [.agg ((Cb a).map .d),.ptr (0,0) 0 0] [⟨0,true,67,8,[vI w0.num,vI w0.val.kind,.d (.int .u64 w0.val.bits),vS w0.val.text,vL Ap w0.val.list,vL Aq w0.val.pairs,vL Ag w0.val.slots,vL As w0.val.raws]⟩] (fun _ _ _ _=>True) (QM a w0) lM (l2 w0):=A8 Tryz.func63 Tryz.ntmps63 Aa [.tmp 3] 1 (fun C co d y hm b c=>An co Aa Ad (o0 a w0) hm c fun r g=>id) (hB:=fun y=>⟨.inr (by kernel_rfl),rfl,trivial⟩)
abbrev sd:List Slt→AV:=fun y=>.ref (0,0) 1 0 y.length
@[reducible] def tW(a:List Slt):List Slt→List Blk:=fun y=>[⟨1,true,67,8,Ae Ag y⟩,⟨0,true,67,8,Ae Ag a⟩]
def SJ(b:List Slt)(c:Int)(a:List Slt):PT 2 (List Slt):=sR b.length 0 (.it c) .no<|vz (A2 a.length)<|bF (decide ((a.length:Int)=(0:Int)))<|vz (A2 b.length)<|bT (decide (c=(b.length:Int)))<|ar b a (0,1) 0<|Gf 0 (Ae Ag a) (fun _=>xc _)<|lr sd (tW a) (b++a)
def ZhK(a:List Slt)(b:Int)(c:List Slt):Option (List Slt):=(SJ a b c).m
theorem ZOi(b:List Slt)(c:Int)(a:List Slt):KO Tryz.prog 64 2 [.ref (0,0) 0 0 b.length,vI c,.ref (0,1) 0 0 a.length] [⟨0,true,67,8,Ae Ag b⟩,⟨0,true,67,8,Ae Ag a⟩] (fun _ _ _ _=>True) (ZhK b c a) sd (tW a):=A8 Tryz.func64 Tryz.ntmps64 Aa [.tmp 6] 2 (fun C co f y hm d e=>An co Aa Ad (SJ b c a) hm e fun r g=>id) (hB:=fun y=>⟨.inl (AW _ _),rfl,⟨.inl (AW _ _),rfl,trivial⟩⟩)
abbrev E64:List Slt→AV:=fun y=>.ref (0,0) 1 0 y.length
@[reducible] def l3(a:List Slt):List Slt→List Blk:=fun y=>[⟨1,true,67,8,Ae Ag y⟩,⟨0,true,67,8,Ae Cb a⟩]
def Kr(a:List Slt)(b:Int)(c:List Slt):Option (List Slt):=if 0≤b∧b≤a.length∧a.length<549755813887∧c.length=1 then some (a.take b.toNat++c++a.drop b.toNat)else none
theorem ZB(d:List Slt)(t:Int)(p:List Slt):KO Tryz.prog 64 2 [.ref (0,0) 0 0 d.length,vI t,.ref (0,1) 0 0 p.length] [⟨0,true,67,8,Ae Ag d⟩,⟨0,true,67,8,Ae Cb p⟩] (fun _ _ _ _=>True) (Kr d t p) E64 (l3 p):=⟨fun l H ks s θ n c f j z y hy=>by
 obtain⟨⟨v,D,E,w⟩,hy⟩:=BD hy
 cases hy
 obtain⟨i,rfl⟩:=UZ v
 rw[Ff]
 match p,w with
 |[x],_=>
  have ev:Ae Cb [x]=Ae Ag [x]:=by simp[Ae,Hy]
  dsimp only[l3]
  rw[ev]at j⊢
  by_cases hi:i=d.length
  ·subst hi
   refine(ZOi d (d.length:Int) [x]).k l H ks s θ n c f j z _ ?_
   show(SJ d (d.length:Int) [x]).m=_
   dsimp only[SJ,sR,vz,Ah,bF,bT,A2,aq,Gf,lr]
   simp[Bd.c,Bd.vl]
   omega
  ·match ks,n,c,f,j with
   |[m,h],_,c,f,j=>
    have A:H m=⟨_,true,.t 67,8,Ae Ag d⟩:=(j.1.2 rfl).trans (Kw (AW _ _))
    have u:H h=⟨_,true,.t 67,8,Ae Ag [x]⟩:=(j.2.1.2 rfl).trans (Kw (AW _ _))
    have o:m≠h:=fun e=>by subst e;simp at f
    have hl:(d.take i++[x]++d.drop i).length=d.length+1:=by
     simp only[Yv,YF,Db,Fh,Y2]
     omega
    refine ZpB c.1 c.2.1 o d x i (by omega) (by omega) A u ⟨?_,?_⟩
    ·show _=AV.ref _ _ _ _
     rw[hl]
     rfl
    ·have B:=Kw (r:=BV l [m,h] s θ H) (k:=(0,0)) (g:=1) (e:=67) (sz:=8) (AW Ag (d.take i++[x]++d.drop i))
     have C:=Kw (r:=BV l [m,h] s θ H) (k:=(0,1)) (g:=0) (e:=67) (sz:=8) (AW Ag [x])
     refine Eq.trans ?_ (congr (congrArg (fun a b=>updH (updH H m a) h b) B) C).symm
     show _=updH (updH H m _) h _
     rw[←u]
     funext q
     by_cases e:q=h
     ·subst e
      rw[AN,AG _ _ o.symm]
     ·rw[AG (k:=h) _ _ e]
      simp⟩
abbrev EU(a:Slt):Ac×Blk:=((1,17),⟨1,true,67,8,Ae Cb ([a]:List Slt)⟩)
abbrev JO:Ac×Blk:=((1,14),⟨0,false,0,0,[]⟩)
abbrev ZN(a:Slt):Ac×Blk:=((1,3),⟨1,true,67,8,[vI a.num,vI a.val.kind,.d (.int .u64 a.val.bits),vS a.val.text,vL Ap a.val.list,vL Aq a.val.pairs,vL Ag a.val.slots,vL As a.val.raws]⟩)
abbrev lA:List Slt→AV:=fun y=>vL Ag y
def Jm(a:List Slt):PT 0 (List Slt):=vz (fr a)<|lr lA (fun _=>[]) a
def Xp(d:List Slt)(b:Slt)(v2:Int):PT 0 (List Slt):=tw (ch Tryz.prog 36 [vL Ag d] [(1,14)] ([JO]++[]) (I8 d) (fun z=>.ref (1,14) 1 0 z.length) (fun z=>[((1,14),⟨1,true,67,8,Ae Ag z⟩)]) fun c=>vw .go<|vw .go<|ch Tryz.prog 64 [.ref (1,14) 1 0 c.length,vI v2,.ref (1,17) 1 0 ([b]:List Slt).length] [(1,14),(1,17)] ([((1,14),⟨1,true,67,8,Ae Ag c⟩),(EU b)]++[]) (Kr c v2 ([b]:List Slt)) (fun z=>.ref (1,14) 2 0 z.length) (fun z=>[((1,14),⟨2,true,67,8,Ae Ag z⟩),(EU b)]) fun a=>vz (fl a)<|lc (Ab [(4,.ref (1,14) 0 0 a.length)] [((1,14),⟨0,true,67,8,Ae Ag a⟩)]) ((Jm a).m)) (vw .go<|tw (ch Tryz.prog 36 [vL Ag d] [(1,14)] ([JO]++[]) (I8 d) (fun z=>.ref (1,14) 1 0 z.length) (fun z=>[((1,14),⟨1,true,67,8,Ae Ag z⟩)]) fun c=>vw .go<|ch Tryz.prog 64 [.ref (1,14) 1 0 c.length,vI v2,.ref (1,17) 1 0 ([b]:List Slt).length] [(1,14),(1,17)] ([((1,14),⟨1,true,67,8,Ae Ag c⟩),(EU b)]++[]) (Kr c v2 ([b]:List Slt)) (fun z=>.ref (1,14) 2 0 z.length) (fun z=>[((1,14),⟨2,true,67,8,Ae Ag z⟩),(EU b)]) fun a=>vz (fl a)<|lc (Ab [(4,.ref (1,14) 0 0 a.length)] [((1,14),⟨0,true,67,8,Ae Ag a⟩)]) ((Jm a).m)) (vw .go<|ch Tryz.prog 36 [vL Ag d] [(1,14)] ([JO]++[]) (I8 d) (fun z=>.ref (1,14) 1 0 z.length) (fun z=>[((1,14),⟨1,true,67,8,Ae Ag z⟩)]) fun c=>ch Tryz.prog 64 [.ref (1,14) 1 0 c.length,vI v2,.ref (1,17) 1 0 ([b]:List Slt).length] [(1,14),(1,17)] ([((1,14),⟨1,true,67,8,Ae Ag c⟩),(EU b)]++[]) (Kr c v2 ([b]:List Slt)) (fun z=>.ref (1,14) 2 0 z.length) (fun z=>[((1,14),⟨2,true,67,8,Ae Ag z⟩),(EU b)]) fun a=>vz (fl a)<|lc (Ab [(4,.ref (1,14) 0 0 a.length)] [((1,14),⟨0,true,67,8,Ae Ag a⟩)]) ((Jm a).m)))
def kE(b:List Slt)(a:Slt):Int→St:=fun v2=>Ab [(0,vL Ag b),(3,.ptr (1,3) 0 0),(5,vI v2)] [((1,3),⟨0,true,67,8,[vI a.num,vI a.val.kind,.d (.int .u64 a.val.bits),vS a.val.text,vL Ap a.val.list,vL Aq a.val.pairs,vL Ag a.val.slots,vL As a.val.raws]⟩)]
def RD(a:List Slt)(b:Slt):Int→Option (List Slt):=fun v2=>(Xp a b v2).m
def U4(a:List Slt)(b:Slt):PT 0 (List Slt):=cs Tryz.prog 62 [vL Ag a,.fn (.func 63) [] [.ptr (1,3) 1 0]] [(1,3)] [(ZN b)] (Km a (fun(z0:Slt)=>QM z0 b)) (fun y=>vI y) fun c=>br (decide (c<(0:Int))) (vz (Ah a)<|lc (kE a b (a.length:Int)) (RD a b (a.length:Int))) (lc (kE a b c) (RD a b c))
def b7(a:List Slt)(b:Slt):Option (List Slt):=(U4 a b).m
theorem se(c:List Slt)(a:Slt):KC Tryz.prog 29 [vL Ag c,.agg ((Cb a).map .d)] (b7 c a) lA:=Av Tryz.func29 Tryz.ntmps29 Aa [.tmp 4] fun C co y hm n d=>ZOr co Aa Ad 3 (U4 c a) (Af [0,3,5] D7) nl (fun _ h=>h) hm d (kE c a) (RD c a) (fun v2 _ hm d=>sq (IP co Aa Ad (.fst 0 (.fst 2 (.two 1 3 (.fst 3 (.fst 4 (.fst 5 (.fst 6 .nil)))) (.two 1 4 (.fst 4 (.fst 5 (.fst 6 .nil))) (.fst 1 (.fst 5 (.fst 6 .nil))))))) [] (Xp c a v2) (Af [4] [((1,14),true)]) hm d fun r g=>⟨⟨fun z b=>DA (PI c) b co g [JO] [] [((1,14),⟨1,true,67,8,Ae Ag z⟩)] (AM []) (fun i f j=>trivial) (fun H=>⟨(fun h=>by cases h),by kernel_rfl,trivial⟩) (fun H=>⟨fun _=>⟨rfl,Bl (AW _ _) (by kernel_rfl)⟩,by kernel_rfl,trivial⟩),fun z=>trivial,fun e=>⟨fun z b=>DA (ZB e v2 ([a]:List Slt)) b co g [((1,14),⟨1,true,67,8,Ae Ag e⟩),(EU a)] [] [((1,14),⟨2,true,67,8,Ae Ag z⟩),(EU a)] (AM []) (fun i f j=>trivial) (fun H=>⟨fun _=>⟨rfl,Bl (AW _ _) (by kernel_rfl)⟩,by kernel_rfl,⟨fun _=>⟨rfl,Bl (AW _ _) (by kernel_rfl)⟩,by kernel_rfl,trivial⟩⟩) (fun H=>⟨fun _=>⟨rfl,Bl (AW _ _) (by kernel_rfl)⟩,by kernel_rfl,⟨fun _=>⟨rfl,Bl (AW _ _) (by kernel_rfl)⟩,by kernel_rfl,trivial⟩⟩),fun z=>trivial,fun k=>fun _ hm d=>An co Aa Ad (Jm k) hm d fun r g=>id⟩⟩,⟨⟨fun z b=>DA (PI c) b co g [JO] [] [((1,14),⟨1,true,67,8,Ae Ag z⟩)] (AM []) (fun i f j=>trivial) (fun H=>⟨(fun h=>by cases h),by kernel_rfl,trivial⟩) (fun H=>⟨fun _=>⟨rfl,Bl (AW _ _) (by kernel_rfl)⟩,by kernel_rfl,trivial⟩),fun z=>trivial,fun e=>⟨fun z b=>DA (ZB e v2 ([a]:List Slt)) b co g [((1,14),⟨1,true,67,8,Ae Ag e⟩),(EU a)] [] [((1,14),⟨2,true,67,8,Ae Ag z⟩),(EU a)] (AM []) (fun i f j=>trivial) (fun H=>⟨fun _=>⟨rfl,Bl (AW _ _) (by kernel_rfl)⟩,by kernel_rfl,⟨fun _=>⟨rfl,Bl (AW _ _) (by kernel_rfl)⟩,by kernel_rfl,trivial⟩⟩) (fun H=>⟨fun _=>⟨rfl,Bl (AW _ _) (by kernel_rfl)⟩,by kernel_rfl,⟨fun _=>⟨rfl,Bl (AW _ _) (by kernel_rfl)⟩,by kernel_rfl,trivial⟩⟩),fun z=>trivial,fun k=>fun _ hm d=>An co Aa Ad (Jm k) hm d fun r g=>id⟩⟩,⟨fun z b=>DA (PI c) b co g [JO] [] [((1,14),⟨1,true,67,8,Ae Ag z⟩)] (AM []) (fun i f j=>trivial) (fun H=>⟨(fun h=>by cases h),by kernel_rfl,trivial⟩) (fun H=>⟨fun _=>⟨rfl,Bl (AW _ _) (by kernel_rfl)⟩,by kernel_rfl,trivial⟩),fun z=>trivial,fun e=>⟨fun z b=>DA (ZB e v2 ([a]:List Slt)) b co g [((1,14),⟨1,true,67,8,Ae Ag e⟩),(EU a)] [] [((1,14),⟨2,true,67,8,Ae Ag z⟩),(EU a)] (AM []) (fun i f j=>trivial) (fun H=>⟨fun _=>⟨rfl,Bl (AW _ _) (by kernel_rfl)⟩,by kernel_rfl,⟨fun _=>⟨rfl,Bl (AW _ _) (by kernel_rfl)⟩,by kernel_rfl,trivial⟩⟩) (fun H=>⟨fun _=>⟨rfl,Bl (AW _ _) (by kernel_rfl)⟩,by kernel_rfl,⟨fun _=>⟨rfl,Bl (AW _ _) (by kernel_rfl)⟩,by kernel_rfl,trivial⟩⟩),fun z=>trivial,fun k=>fun _ hm d=>An co Aa Ad (Jm k) hm d fun r g=>id⟩⟩,fun _ h=>h⟩,fun _ h=>h⟩)) fun m r g=>⟨fun y hy=>BJ (Zv c (fun(z0:Slt)=>QM z0 a)) hy co g [] [(ZN a)] (AM [(1,.fn (.func 63) [] [.ptr (r.κ (1,3)) (r.γ (1,3)+1) 0])]) (fun i f j=>(fun z0 y b=>Dg (ZSS z0 a) b co g [(ZN a)] [] f (by simp) (fun _=>.top) (fun _ _=>trivial) (fun l H=>⟨fun _=>⟨rfl,by kernel_rfl⟩,by kernel_rfl,trivial⟩))) (fun H=>trivial),fun o=>⟨m (c.length:Int),m o⟩⟩
abbrev ai:List (Ac×Bool):=[((1,9),false),((1,10),false),((1,13),false),((1,16),false)]
abbrev Pt(a:Val):Ac×Blk:=((1,9),⟨0,true,33,7,[vI a.kind,.d (.int .u64 a.bits),vS a.text,vL Ap a.list,vL Aq a.pairs,vL Ag a.slots,vL As a.raws]⟩)
abbrev Pi:Ac×Blk:=((1,10),⟨0,true,33,7,[vI 0,.d (.int .u64 0),vS ⟨#[]⟩,.e0,.e0,.e0,.e0]⟩)
abbrev P0(a:Acs×Fld×Int):Ac×Blk:=((1,13),⟨0,true,54,16,[vI a.2.1.num,vS a.2.1.name,vI a.2.1.card,vI a.2.1.key,vI a.2.1.type.kind,vS a.2.1.type.name,vS a.2.1.union,vB a.2.1.hasDefault,vI a.2.1.dflt.kind,.d (.int .u64 a.2.1.dflt.bits),vS a.2.1.dflt.text,vL Ap a.2.1.dflt.list,vL Aq a.2.1.dflt.pairs,vL Ag a.2.1.dflt.slots,vL As a.2.1.dflt.raws,vL Ay a.2.1.notes]⟩)
abbrev th(a:Val):Ac×Blk:=((1,16),⟨0,true,33,7,[vI a.kind,.d (.int .u64 a.bits),vS a.text,vL Ap a.list,vL Aq a.pairs,vL Ag a.slots,vL As a.raws]⟩)
abbrev E8:Val×Int→AV:=fun y=>.tup [.agg ((Ai y.1).map .d),vI y.2]
def tO(h:Int)(i:Val)(j:Acs×Fld×Int)(d:List Fld):Nat×Int×Int×ByteArray×List Val×List Pr×List Slt×List Raw→St:=fun(v5,c6,e,f,g,a,b,c)=>Ab [(3,vI h),(9,.ptr (1,9) 0 0),(10,.ptr (1,10) 0 0),(13,.ptr (1,13) 0 0),(16,.ptr (1,16) 0 0),(46,vL Ar d),(47,vN d.length),(48,vN v5)] [(Pt i),Pi,(P0 j),((1,16),⟨0,true,33,7,[vI c6,.d (.int .u64 e),vS f,vL Ap g,vL Aq a,vL Ag b,vL As c]⟩)]
def ug(h:Int)(i:Val)(j:Acs×Fld×Int):Int×Int×ByteArray×List Val×List Pr×List Slt×List Raw→Nat×St:=fun(a,b,c,d,e,f,g)=>(0,Ab [(3,vI h),(9,.ptr (1,9) 0 0),(10,.ptr (1,10) 0 0),(13,.ptr (1,13) 0 0),(16,.ptr (1,16) 0 0)] [(Pt i),Pi,(P0 j),((1,16),⟨0,true,33,7,[vI a,.d (.int .u64 b),vS c,vL Ap d,vL Aq e,vL Ag f,vL As g]⟩)])
def Pe(j:Int)(k:Val)(l:Acs×Fld×Int)(f:List Fld)(v5:Nat)(c6:Int)(g:Int)(h:ByteArray)(i:List Val)(b:List Pr)(c:List Slt)(d:List Raw):PT 0 (Lv (Nat×Int×Int×ByteArray×List Val×List Pr×List Slt×List Raw) (Int×Int×ByteArray×List Val×List Pr×List Slt×List Raw) (Val×Int)):=br (decide ((v5:Int)<(f.length:Int))) (ix f v5 fun e=>vw .go<|vw .go<|vw .go<|cl (Zo (.mk c6 g h i b c d:Val) e.num) fun a=>vw .go<|vs (wa v5 1)<|ln (tO j k l f) (v5+1,a.kind,a.bits,a.text,a.list,a.pairs,a.slots,a.raws)) (Ak (ug j k l) (c6,g,h,i,b,c,d))
def Mg(g:Int)(h:Val)(i:Acs×Fld×Int)(j:List Fld):Nat×Int×Int×ByteArray×List Val×List Pr×List Slt×List Raw→Option (Lv (Nat×Int×Int×ByteArray×List Val×List Pr×List Slt×List Raw) (Int×Int×ByteArray×List Val×List Pr×List Slt×List Raw) (Val×Int)):=fun(v5,c6,d,e,f,a,b,c)=>(Pe g h i j v5 c6 d e f a b c).m
def Z6(k:Int)(j:Val)(l:Acs×Fld×Int)(a:Int)(b:Int)(c:ByteArray)(d:List Val)(e:List Pr)(f:List Slt)(g:List Raw):PT 0 (Val×Int):=vw .go<|vw .go<|cl (ZTt l.2.1 j) fun h=>br (!h) (vw .go<|vw .go<|cl (se f (.mk k j:Slt)) fun i=>vw .go<|vw .go<|vw .go<|lr E8 (fun _=>[]) ((.mk a b c d e i g:Val),0)) (vw .go<|vw .go<|lr E8 (fun _=>[]) ((.mk a b c d e f g:Val),0))
def ah(k:Int)(l:Val)(b:Acs×Fld×Int)(a:Val):PT 0 (Val×Int):=vw .go<|vw .go<|cl (au b.1.m b.2.1.union) fun c=>vz (Ah c)<|lc (Ab [(3,vI k),(9,.ptr (1,9) 0 0),(10,.ptr (1,10) 0 0),(13,.ptr (1,13) 0 0),(16,.ptr (1,16) 0 0),(46,vL Ar c),(47,vN c.length),(48,vI 0)] [(Pt l),Pi,(P0 b),(th a)]) ((Ao (Mg k l b c) Aj (0,a.kind,a.bits,a.text,a.list,a.pairs,a.slots,a.raws)).bind (Sum.elim (fun(d,e,f,g,h,i,j)=>(Z6 k l b d e f g h i j).m) some))
def ZS(f:Scm)(g:ByteArray)(h:Val)(b:Int)(c:Val):PT 0 (Val×Int):=vw .go<|cl (tc f g b) fun a=>vw .go<|vw .go<|br (!decide (a.2.2=(0:Int))) (vw .go<|lr E8 (fun _=>[]) ((.mk 0 0 ⟨#[]⟩ [] [] [] []:Val),a.2.2)) (vw .go<|vw .go<|vw .go<|cl (ZSB a.1 a.2.1 c) fun d=>br (!decide (d=(0:Int))) (vw .go<|lr E8 (fun _=>[]) ((.mk 0 0 ⟨#[]⟩ [] [] [] []:Val),d)) (vw .go<|cl (Zo h b) fun e=>vw .go<|lc (Ab [(3,vI b),(9,.ptr (1,9) 0 0),(10,.ptr (1,10) 0 0),(12,.ptr (1,12) 0 0),(13,.ptr (1,13) 0 0),(16,.ptr (1,16) 0 0)] [(Pt c),Pi,((1,12),⟨0,true,69,8,[vS a.1.m.name,vL Ar a.1.m.fields,vL AR a.1.m.reserved,vL Az a.1.m.gone,vL Ay a.1.m.notes,vL AH a.1.s.messages,vL AQ a.1.s.enums,vL AX a.1.s.services]⟩),(P0 a),(th e)]) ((ah b c a e).m)))
def bY(a:Scm)(b:ByteArray)(c:Val)(d:Int)(e:Val):Option (Val×Int):=(ZS a b c d e).m
theorem ZKV{C:Cx}(co:CO C 0)(a:Int)(b:Val)(c:Acs×Fld×Int)(h:List Fld):KL Tryz.prog (AE tl) 69 C (pa [0,0,1,0,1,1,1,1,1] (AB Tryz.f8)) [.cell 10 33,.tmp 11] 0 (tO a b c h) (ug a b c) E8 (fun _=>[]) (Mg a b c h):=fun(v5,c6,j,k,l,d,e,f) _ hm Q i o n=>AD co Aa Ad (Pe a b c h v5 c6 j k l d e f) (Af [3,9,10,13,16,46,47,48] ai) (Af [3,9,10,13,16] ai) o hm n fun r g=>⟨fun m=>fun p=>id,id⟩
theorem UF(m:Scm)(n:ByteArray)(o:Val)(b:Int)(c:Val):KC Tryz.prog 8 [.agg ((AC m).map .d),vS n,.agg ((Ai o).map .d),vI b,.agg ((Ai c).map .d)] (bY m n o b c) E8:=Av Tryz.func8 Tryz.ntmps8 Aa [.cell 10 33,.tmp 11] fun C co y hm q a=>Al co Aa Ad 5 (ZS m n o b c) (Af [3,9,10,12,13,16] [((1,9),false),((1,10),false),((1,12),false),((1,13),false),((1,16),false)]) nl (fun _ h=>h) hm a fun r g=>fun p=>⟨id,fun w=>⟨id,fun u=>fun _ hm a=>sq (Al co Aa Ad 1 (ah b c p u) (Af [3,9,10,13,16,46,47,48] ai) nl (fun _ h=>h) hm a fun r g=>fun v=>fun _ hm a=>bk 0 (lo (AK (ZKV co b c p v) (fun _ h=>h) hm a (fun(d,e,f,i,j,k,l) hm=>An co Aa Ad (Z6 b c p d e f i j k l) hm a fun r g=>fun s=>⟨fun t=>id,id⟩))))⟩⟩
abbrev lN:Bool→AV:=fun y=>vB y
@[reducible] def l4(w0:Int):Bool→List Blk:=fun y=>[⟨0,true,3,1,[vI w0]⟩]
def qg(a:Slt)(w0:Int):PT 1 (Bool):=vw .go<|vw .go<|lr lN (l4 w0) (decide (a.num=w0))
def MV(a:Slt)(w0:Int):Option (Bool):=(qg a w0).m
theorem ZTk(a:Slt)(w0:Int):KO Tryz.prog 69 1 [.agg ((Cb a).map .d),.ptr (0,0) 0 0] [⟨0,true,3,1,[vI w0]⟩] (fun _ _ _ _=>True) (MV a w0) lN (l4 w0):=A8 Tryz.func69 Tryz.ntmps69 Aa [.tmp 3] 1 (fun C co d y hm b c=>An co Aa Ad (qg a w0) hm c fun r g=>id) (hB:=fun y=>⟨.inr (by kernel_rfl),rfl,trivial⟩)
abbrev lC:Int→AV:=fun y=>vI y
def S9(a:List Slt)(b:Int):PT 0 (Int):=cs Tryz.prog 62 [vL Ag a,.fn (.func 69) [] [.ptr (1,3) 1 0]] [(1,3)] [((1,3),⟨1,true,3,1,[vI b]⟩)] (Km a (fun(z0:Slt)=>MV z0 b)) (fun y=>vI y) fun c=>lr lC (fun _=>[]) c
def QL(a:List Slt)(b:Int):Option (Int):=(S9 a b).m
theorem uf(b:List Slt)(a:Int):KC Tryz.prog 38 [vL Ag b,vI a] (QL b a) lC:=Av Tryz.func38 Tryz.ntmps38 Aa [.tmp 4] fun C co y hm c d=>An co Aa Ad (S9 b a) hm d fun r g=>⟨fun y hy=>BJ (Zv b (fun(z0:Slt)=>MV z0 a)) hy co g [] [((1,3),⟨1,true,3,1,[vI a]⟩)] (AM [(1,.fn (.func 69) [] [.ptr (r.κ (1,3)) (r.γ (1,3)+1) 0])]) (fun h e i=>(fun z0 y f=>Dg (ZTk z0 a) f co g [((1,3),⟨1,true,3,1,[vI a]⟩)] [] e (by simp) (fun _=>.top) (fun _ _=>trivial) (fun l H=>⟨fun _=>⟨rfl,by kernel_rfl⟩,by kernel_rfl,trivial⟩))) (fun H=>trivial),fun j=>id⟩
abbrev Us:Val→AV:=fun y=>.agg ((Ai y).map .d)
def W0(a:Int):PT 0 (Val):=cl (Ke a) fun b=>br (!b) (vw .go<|lr Us (fun _=>[]) (.mk 0 0 ⟨#[]⟩ [] [] [] []:Val)) (vw .go<|lr Us (fun _=>[]) (.mk a 0 ⟨#[]⟩ [] [] [] []:Val))
def uZ(a:Int):Option (Val):=(W0 a).m
theorem ZTc(a:Int):KC Tryz.prog 70 [vI a] (uZ a) Us:=Av Tryz.func70 Tryz.ntmps70 Aa [.cell 2 33] fun C co y hm b c=>An co Aa Ad (W0 a) hm c fun r g=>fun d=>⟨id,id⟩
abbrev Jw:Val→AV:=fun y=>.agg ((Ai y).map .d)
def VE(a:Fld):PT 0 (Val):=vw .go<|br a.hasDefault (vw .go<|vw .go<|lr Jw (fun _=>[]) a.dflt) (vw .go<|br (decide (a.card=(4:Int))) (vw .go<|lr Jw (fun _=>[]) (.mk 11 0 ⟨#[]⟩ [] [] [] []:Val)) (vw .go<|br (decide (a.card=(5:Int))) (vw .go<|lr Jw (fun _=>[]) (.mk 12 0 ⟨#[]⟩ [] [] [] []:Val)) (vw .go<|br (decide (a.type.kind=(10:Int))) (vw .go<|lr Jw (fun _=>[]) (.mk 10 0 ⟨#[]⟩ [] [] [] []:Val)) (vw .go<|cl (ZTc a.type.kind) fun b=>vw .go<|lr Jw (fun _=>[]) b))))
def bM(a:Fld):Option (Val):=(VE a).m
theorem ZSu(a:Fld):KC Tryz.prog 39 [.agg ((Ar a).map .d)] (bM a) Jw:=Av Tryz.func39 Tryz.ntmps39 Aa [.cell 2 33] fun C co y hm b c=>An co Aa Ad (VE a) hm c fun r g=>⟨id,⟨id,⟨id,⟨id,fun d=>id⟩⟩⟩⟩
abbrev Ox:Val×Int→AV:=fun y=>.tup [.agg ((Ai y.1).map .d),vI y.2]
def U7(f:Scm)(g:ByteArray)(b:Val)(c:Int):PT 0 (Val×Int):=vw .go<|cl (tc f g c) fun a=>vw .go<|vw .go<|br (!decide (a.2.2=(0:Int))) (vw .go<|lr Ox (fun _=>[]) ((.mk 0 0 ⟨#[]⟩ [] [] [] []:Val),a.2.2)) (vw .go<|cl (uf b.slots c) fun d=>br (decide ((0:Int)≤d)) (vw .go<|B1 b.slots d fun e=>vw .go<|lr Ox (fun _=>[]) (e.val,0)) (vw .go<|cl (ZSu a.2.1) fun h=>vw .go<|lr Ox (fun _=>[]) (h,0)))
def ce(a:Scm)(b:ByteArray)(c:Val)(d:Int):Option (Val×Int):=(U7 a b c d).m
theorem PX(a:Scm)(b:ByteArray)(c:Val)(d:Int):KC Tryz.prog 15 [.agg ((AC a).map .d),vS b,.agg ((Ai c).map .d),vI d] (ce a b c d) Ox:=Av Tryz.func15 Tryz.ntmps15 Aa [.cell 8 33,.tmp 9] fun C co y hm e f=>An co Aa Ad (U7 a b c d) hm f fun r g=>fun i=>⟨id,fun j=>⟨fun h=>id,fun k=>id⟩⟩
abbrev lw:Bool→AV:=fun y=>vB y
def X7(a:Val)(b:Int):PT 0 (Bool):=vw .go<|cl (uf a.slots b) fun c=>lr lw (fun _=>[]) (decide ((0:Int)≤c))
def b0(a:Val)(b:Int):Option (Bool):=(X7 a b).m
theorem Pg(a:Val)(b:Int):KC Tryz.prog 17 [.agg ((Ai a).map .d),vI b] (b0 a b) lw:=Av Tryz.func17 Tryz.ntmps17 Aa [.tmp 4] fun C co y hm c d=>An co Aa Ad (X7 a b) hm d fun r g=>fun e=>id
abbrev lE:Bool→AV:=fun y=>vB y
def H45(a:Fld→Option Bool):Cl:=fun no l H θ=>(∀(z0:Fld) y,a z0=some y→Cg Tryz.prog l no H (θ 1) [.agg ((Ar z0).map .d)] (vB y))
def qJ(b:List Fld)(a:Fld→Option Bool):PT 0 (Bool):=cs Tryz.prog 80 [vL Ar b,.fn (.yield 1) [] []] [] [] (uK b a) (fun y=>vI y) fun c=>lr lE (fun _=>[]) (decide ((0:Int)≤c))
def uI(b:List Fld)(a:Fld→Option Bool):Option (Bool):=(qJ b a).m
theorem ZTj(b:List Fld)(a:Fld→Option Bool):KO Tryz.prog 45 0 [vL Ar b,.fn (.yield 1) [] []] [] (H45 a) (uI b a) lE (fun _=>[]):=A8 Tryz.func45 Tryz.ntmps45 Aa [.tmp 4] 0 (fun C co e y hm c d=>An co Aa Ad (qJ b a) hm d fun r g=>⟨fun y hy=>BJ (ZTr b a) hy co g [] [] (AM [(1,r.θ 1)]) (fun i j f=>(fun z0 y h=>KP co g [] f (e z0 y h))) (fun H=>trivial),fun k=>id⟩)
abbrev lF:Bool→AV:=fun y=>vB y
@[reducible] def lZ(w0:Slt):Bool→List Blk:=fun y=>[⟨0,true,67,8,[vI w0.num,vI w0.val.kind,.d (.int .u64 w0.val.bits),vS w0.val.text,vL Ap w0.val.list,vL Aq w0.val.pairs,vL Ag w0.val.slots,vL As w0.val.raws]⟩]
def qF(a:Fld)(w0:Slt):PT 1 (Bool):=vw .go<|vw .go<|lr lF (lZ w0) (decide (a.num=w0.num))
def bp(a:Fld)(w0:Slt):Option (Bool):=(qF a w0).m
theorem ZSN(a:Fld)(w0:Slt):KO Tryz.prog 46 1 [.agg ((Ar a).map .d),.ptr (0,0) 0 0] [⟨0,true,67,8,[vI w0.num,vI w0.val.kind,.d (.int .u64 w0.val.bits),vS w0.val.text,vL Ap w0.val.list,vL Aq w0.val.pairs,vL Ag w0.val.slots,vL As w0.val.raws]⟩] (fun _ _ _ _=>True) (bp a w0) lF (lZ w0):=A8 Tryz.func46 Tryz.ntmps46 Aa [.tmp 3] 1 (fun C co d y hm b c=>An co Aa Ad (qF a w0) hm c fun r g=>id) (hB:=fun y=>⟨.inr (by kernel_rfl),rfl,trivial⟩)
abbrev Um:Int×Int→AV:=fun y=>.tup [vI y.1,vI y.2]
def rK(a:Val)(b:List Fld):Nat→St:=fun v3=>Ab [(12,vL Ar b),(31,vL Ag a.slots),(32,vN a.slots.length),(33,vN v3)] []
def ZQq:Empty→Nat×St:=Empty.elim
def qZ(b:Val)(c:List Fld)(v3:Nat):PT 0 (Lv (Nat) (Empty) (Int×Int)):=bT (decide ((v3:Int)<(b.slots.length:Int)))<|ix b.slots v3 fun a=>vw .go<|cs Tryz.prog 45 [vL Ar c,.fn (.func 46) [] [.ptr (1,14) 1 0]] [(1,14)] [((1,14),⟨1,true,67,8,[vI a.num,vI a.val.kind,.d (.int .u64 a.val.bits),vS a.val.text,vL Ap a.val.list,vL Aq a.val.pairs,vL Ag a.val.slots,vL As a.val.raws]⟩)] (uI c (fun(z0:Fld)=>bp z0 a)) (fun y=>vB y) fun d=>br d (vw .go<|Au Um (fun _=>[]) (a.num,0)) (vs (wa v3 1)<|ln (rK b c) (v3+1))
def qz(a:Val)(b:List Fld):Nat→Option (Lv (Nat) (Empty) (Int×Int)):=fun v3=>(qZ a b v3).m
def oK(a:Val)(b:List Fld):PT 0 (Int×Int):=vw .go<|vz (Ah a.slots)<|lc (Ab [(12,vL Ar b),(31,vL Ag a.slots),(32,vN a.slots.length),(33,vI 0)] []) ((Ao (qz a b) Aj 0).bind (Sum.elim (Empty.elim) some))
def py(d:Scm)(e:ByteArray)(a:Val)(f:ByteArray):PT 0 (Int×Int):=vw .go<|cl (Qr d e) fun c=>vw .go<|bF (!c.2)<|vw .go<|cl (au c.1.m f) fun b=>vz (Ah b)<|bF (decide ((b.length:Int)=(0:Int)))<|lc (Ab [(6,.ptr (1,6) 0 0),(12,vL Ar b)] [((1,6),⟨0,true,33,7,[vI a.kind,.d (.int .u64 a.bits),vS a.text,vL Ap a.list,vL Aq a.pairs,vL Ag a.slots,vL As a.raws]⟩)]) ((oK a b).m)
def Zht(a:Scm)(b:ByteArray)(c:Val)(d:ByteArray):Option (Int×Int):=(py a b c d).m
theorem ZFT{C:Cx}(co:CO C 0)(c:Val)(b:List Fld):KL Tryz.prog (AE tl) 43 C (pa [0,0,1,0,1,1,1,1,1] (AB Tryz.f21)) [.tmp 8,.tmp 9] 0 (rK c b) (ZQq) Um (fun _=>[]) (qz c b):=fun v3 _ hm Q d f e=>AD co Aa Ad (qZ c b v3) (AO [12,31,32,33]) nl f hm e fun r g=>fun a=>⟨fun y hy=>BJ (ZTj b (fun(z0:Fld)=>bp z0 a)) hy co g [] [((1,14),⟨1,true,67,8,[vI a.num,vI a.val.kind,.d (.int .u64 a.val.bits),vS a.val.text,vL Ap a.val.list,vL Aq a.val.pairs,vL Ag a.val.slots,vL As a.val.raws]⟩)] (AM [(1,.fn (.func 46) [] [.ptr (r.κ (1,14)) (r.γ (1,14)+1) 0])]) (fun j h k=>(fun z0 y i=>Dg (ZSN z0 a) i co g [((1,14),⟨1,true,67,8,[vI a.num,vI a.val.kind,.d (.int .u64 a.val.bits),vS a.val.text,vL Ap a.val.list,vL Aq a.val.pairs,vL Ag a.val.slots,vL As a.val.raws]⟩)] [] h (by simp) (fun _=>.top) (fun _ _=>trivial) (fun l H=>⟨fun _=>⟨rfl,by kernel_rfl⟩,by kernel_rfl,trivial⟩))) (fun H=>trivial),fun m=>⟨id,id⟩⟩
theorem ZTb(d:Scm)(e:ByteArray)(c:Val)(f:ByteArray):KC Tryz.prog 21 [.agg ((AC d).map .d),vS e,.agg ((Ai c).map .d),vS f] (Zht d e c f) Um:=Av Tryz.func21 Tryz.ntmps21 Aa [.tmp 8,.tmp 9] fun C co y hm i a=>Al co Aa Ad 5 (py d e c f) (Af [6,12] [((1,6),false)]) nl (fun _ h=>h) hm a fun r g=>fun k=>fun j=>fun _ hm a=>sq (Al co Aa Ad 1 (oK c j) (AO [12,31,32,33]) nl (fun _ h=>h) hm a fun r g=>fun _ hm a=>bk 0 (lo (AK (ZFT co c j) (fun _ h=>h) hm a (fun b=>b.elim))))
abbrev PM:List (Ac×Bool):=[((1,1),false),((1,2),false),((1,3),false),((1,10),false),((1,11),false)]
abbrev tC:List (Ac×Bool):=[((1,2),false),((1,3),false),((1,10),false),((1,11),false)]
abbrev IU:Ac×Blk:=((1,2),⟨0,true,139,2,[.p (.map none),.p (.map none)]⟩)
abbrev I2:Ac×Blk:=((1,3),⟨0,true,139,2,[.mp (1,10) 0,.mp (1,11) 0]⟩)
abbrev I0:Ac×Blk:=((1,11),⟨0,true,.m false (([]:List (ByteArray×Bool)).map AY),0,[]⟩)
abbrev Ph(a:Scm):Ac×Blk:=((1,1),⟨0,true,26,3,[vL AH a.messages,vL AQ a.enums,vL AX a.services]⟩)
abbrev PC(a:List (ByteArray×Msg)):Ac×Blk:=((1,10),⟨0,true,.m true (a.map AY),0,[]⟩)
abbrev OJ:Web→AV:=fun y=>.agg ((ID y).map .d)
def Xh(a:Scm):Nat×List (ByteArray×Msg)→St:=fun(c,b)=>Ab [(1,.ptr (1,1) 0 0),(2,.ptr (1,2) 0 0),(3,.ptr (1,3) 0 0),(14,vL AH a.messages),(15,vN a.messages.length),(16,vN c)] [(Ph a),IU,I2,((1,10),⟨0,true,.m true (b.map AY),0,[]⟩),I0]
def oN(a:Scm):List (ByteArray×Msg)→Nat×St:=fun b=>(0,Ab [(1,.ptr (1,1) 0 0),(2,.ptr (1,2) 0 0),(3,.ptr (1,3) 0 0)] [(Ph a),IU,I2,(PC b),I0])
def oL(c:Scm)(a:Nat)(d:List (ByteArray×Msg)):PT 0 (Lv (Nat×List (ByteArray×Msg)) (List (ByteArray×Msg)) (Web)):=br (decide ((a:Int)<(c.messages.length:Int))) (ix c.messages a fun b=>vw .go<|vw .go<|vw .go<|GU d b.name fun f e=>vw .go<|br (!e) (vw .go<|vw .go<|vw .go<|HZ d b.name b<|vs (wa a 1)<|ln (Xh c) (a+1,Ip b.name b d)) (vs (wa a 1)<|ln (Xh c) (a+1,d))) (Ak (oN c) d)
def og(a:Scm):Nat×List (ByteArray×Msg)→Option (Lv (Nat×List (ByteArray×Msg)) (List (ByteArray×Msg)) (Web)):=fun(c,b)=>(oL a c b).m
def ZPk(a:Scm)(b:List (ByteArray×Msg)):Unit→St:=fun _=>Ab [(2,.ptr (1,2) 0 0),(3,.ptr (1,3) 0 0),(38,vN a.enums.length),(39,vI 0)] [IU,I2,(PC b),I0]
def oM(a:List (ByteArray×Msg)):Unit→Nat×St:=fun _=>(2,Ab [(2,.ptr (1,2) 0 0),(3,.ptr (1,3) 0 0)] [IU,I2,(PC a),I0])
def qb(a:Scm)(b:List (ByteArray×Msg)):PT 0 (Lv (Unit) (Unit) (Web)):=bF (decide ((0:Int)<(a.enums.length:Int)))<|Ak (oM b) ()
def ph(a:Scm)(b:List (ByteArray×Msg)):Unit→Option (Lv (Unit) (Unit) (Web)):=fun _=>(qb a b).m
def qe(a:List (ByteArray×Msg)):PT 0 (Web):=vw .go<|vw .go<|lr OJ (fun _=>[]) (.mk a ([]:List (ByteArray×Bool)):Web)
def ot(a:Scm)(b:List (ByteArray×Msg)):PT 0 (Web):=vw .go<|vz (Ah a.enums)<|lc (Ab [(2,.ptr (1,2) 0 0),(3,.ptr (1,3) 0 0),(38,vN a.enums.length),(39,vI 0)] [IU,I2,(PC b),I0]) ((Ao (ph a b) Aj ()).bind (Sum.elim (fun _=>(qe b).m) some))
def qY(a:Scm):PT 0 (Web):=vw .go<|vz (Ah a.messages)<|lc (Ab [(1,.ptr (1,1) 0 0),(2,.ptr (1,2) 0 0),(3,.ptr (1,3) 0 0),(14,vL AH a.messages),(15,vN a.messages.length),(16,vI 0)] [(Ph a),IU,I2,((1,10),⟨0,true,.m true (([]:List (ByteArray×Msg)).map AY),0,[]⟩),I0]) ((Ao (og a) Aj (0,([]:List (ByteArray×Msg)))).bind (Sum.elim (fun b=>(ot a b).m) some))
def rS(a:Scm):PT 0 (Web):=vw .go<|lc (Ab [(1,.ptr (1,1) 0 0),(2,.ptr (1,2) 0 0),(3,.ptr (1,3) 0 0)] [(Ph a),IU,I2,((1,10),⟨0,true,.m true (([]:List (ByteArray×Msg)).map AY),0,[]⟩),I0]) ((qY a).m)
def ZjG(a:Scm):Option (Web):=(rS a).m
theorem ZBW{C:Cx}(co:CO C 0)(a:Scm):KL Tryz.prog (AE tl) 49 C (pa [0,0,1,0,1,1] (AB Tryz.f81)) [.cell 2 139] 0 (Xh a) (oN a) OJ (fun _=>[]) (og a):=fun(f,e) _ hm Q b d c=>AD co Aa Ad (oL a f e) (Af [1,2,3,14,15,16] PM) (Af [1,2,3] PM) d hm c fun r g=>⟨fun i=>fun j h=>⟨id,id⟩,id⟩
theorem ZD7{C:Cx}(co:CO C 0)(b:Scm)(a:List (ByteArray×Msg)):KL Tryz.prog (AE tl) 49 C (pa [0,0,1,0,1,1,1] (AB Tryz.f81)) [.cell 2 139] 0 (ZPk b a) (oM a) OJ (fun _=>[]) (ph b a):=fun _ _ hm Q c e d=>AD co Aa Ad (qb b a) nl (Af [2,3] tC) e hm d fun r g=>id
theorem ZSO(b:Scm):KC Tryz.prog 81 [.agg ((AC b).map .d)] (ZjG b) OJ:=Av Tryz.func81 Tryz.ntmps81 Aa [.cell 2 139] fun C co y hm d a=>Al co Aa Ad 2 (rS b) (Af [1,2,3] PM) nl (fun _ h=>h) hm a fun r g=>fun _ hm a=>sq (Al co Aa Ad 1 (qY b) (Af [1,2,3,14,15,16] PM) nl (fun _ h=>h) hm a fun r g=>fun _ hm a=>bk 0 (lo (AK (ZBW co b) (fun _ h=>h) hm a (fun c hm=>sq (Al co Aa Ad 1 (ot b c) (Af [2,3,38,39] tC) nl (fun _ h=>h) hm a fun r g=>fun _ hm a=>bk 2 (lo (AK (ZD7 co b c) (fun _ h=>h) hm a (fun _ hm=>An co Aa Ad (qe c) hm a fun r g=>id))))))))
abbrev PH:List ByteArray→AV:=fun y=>vL Az y
def yP:List ByteArray×List (ByteArray×Msg)→St:=fun(a,b)=>Ab [(3,.ref (1,3) 0 0 a.length),(7,.ptr (1,7) 0 0)] [((1,3),⟨0,true,9,1,Ae Az a⟩),((1,7),⟨0,true,.i true (b.map AY) none,0,[]⟩)]
def mV:List ByteArray→Nat×St:=fun a=>(0,Ab [(3,.ref (1,3) 0 0 a.length)] [((1,3),⟨0,true,9,1,Ae Az a⟩)])
def yS(a:List ByteArray)(d:List (ByteArray×Msg)):PT 0 (List (Lv (List ByteArray×List (ByteArray×Msg)) (List ByteArray) (List ByteArray))):=nxN d (vw .go<|vz (fl a)<|ZSX (mV) a) fun b c=>vw .go<|vw .sep<|vw .sep<|vw .sep<|ap a (b.1:ByteArray)<|vz (fl (a++[b.1]))<|lnN (yP) (a++[b.1],c)
def mL:List ByteArray×List (ByteArray×Msg)→Option (List (Lv (List ByteArray×List (ByteArray×Msg)) (List ByteArray) (List ByteArray))):=fun(a,b)=>(yS a b).m
def nS(a:List ByteArray):PT 0 (List (List ByteArray)):=vz (fr a)<|lrN PH (fun _=>[]) a
def ym(b:List ByteArray)(a:List ByteArray):PT 0 (List (List ByteArray)):=rn 3 3 b.length a<|vz (fl a)<|lc (Ab [(3,.ref (1,3) 0 0 a.length)] [((1,3),⟨0,true,9,1,Ae Az a⟩)]) ((nS a).m)
def mZ(a:List ByteArray):PT 0 (List (List ByteArray)):=vz (fl a)<|lc (Ab [(3,.ref (1,3) 0 0 a.length),(16,.ref (1,3) 0 0 a.length)] [((1,3),⟨0,true,9,1,Ae Az a⟩)]) ((u0 a).bind fun b=>(ym a b).m)
def zf(a:Web):PT 0 (List (List ByteArray)):=vw (.ads 3 3 9 1)<|vz (fl ([]:List ByteArray))<|lc (Ab [(3,.ref (1,3) 0 0 ([]:List ByteArray).length),(7,.ptr (1,7) 0 0)] [((1,3),⟨0,true,9,1,Ae Az ([]:List ByteArray)⟩),((1,7),⟨0,true,.i true (a.messages.map AY) none,0,[]⟩)]) (TX (Oc (mL) Aj (([]:List ByteArray),a.messages)) (Sum.elim (fun b=>(mZ b).m) (fun z=>some [z])))
def nT(a:Web):PT 0 (List (List ByteArray)):=vw .go<|lc (Ab [(3,.e0),(7,.ptr (1,7) 0 0)] [((1,7),⟨0,true,.i true (a.messages.map AY) none,0,[]⟩)]) ((zf a).m)
def mW(a:Web):PT 0 (List (List ByteArray)):=lc (Ab [(1,.ptr (1,1) 0 0),(3,.e0)] [((1,1),⟨0,true,139,2,[.d (.map true (a.messages.map AY)),.d (.map false (a.enums.map AY))]⟩)]) ((nT a).m)
def uM(a:Web):Option (List (List ByteArray)):=(mW a).m
theorem Zwm{C:Cx}(co:CO C 0):UD Tryz.prog (AE tl) 19 C (pa [0,0,1,0,1,1] (AB Tryz.f120)) [.tmp 2] 0 (yP) (mV) PH (fun _=>[]) (mL):=fun(d,e) _ hm Q a c b=>AD co Aa Ad (yS d e) (Af [3,7] [((1,3),true),((1,7),false)]) (Af [3] [((1,3),true)]) c hm b fun r g=>⟨Zyi _,fun h=>h _ (.head _),fun i f=>fun h=>h _ (.head _)⟩
theorem ZOU(c:Web):KCN Tryz.prog 120 [.agg ((ID c).map .d)] (uM c) PH:=ZSL Tryz.func120 Tryz.ntmps120 Aa [.tmp 2] fun C co y hm d a=>Al co Aa Ad 2 (mW c) (Af [1,3] CP) nl (fun _ h=>h) hm a fun r g=>fun _ hm a=>sq (Al co Aa Ad 1 (nT c) (Af [3,7] [((1,7),false)]) nl (fun _ h=>h) hm a fun r g=>fun _ hm a=>bk 0 (Kg co (zf c) (Af [3,7] [((1,3),true),((1,7),false)]) hm a fun r g=>fun _ hm a=>lo (ZSU (Zwm co) (fun _ h=>h) hm a (fun b _ hm a=>sq (rg (Br co Aa 1 (mZ b) (Af [3,16] [((1,3),true)]) hm a fun r g=>fun _ hm a=>GD co hm 160 [.ref (1,3) 0 0 b.length] [(1,3)] ([((1,3),⟨0,true,9,1,Ae Az b⟩)]++[]) (fun z=>.tup []) (fun z=>[((1,3),⟨0,true,9,1,Ae Az z⟩)]) [] (fun z=>trivial) (trivial) (fun z f r g=>DA (ZPX b) f co g [((1,3),⟨0,true,9,1,Ae Az b⟩)] [] [((1,3),⟨0,true,9,1,Ae Az z⟩)] (AM []) (fun i j k=>trivial) (fun H=>⟨fun _=>⟨rfl,Bl (AW _ _) (by kernel_rfl)⟩,by kernel_rfl,trivial⟩) (fun H=>⟨fun _=>⟨rfl,Bl (AW _ _) (by kernel_rfl)⟩,by kernel_rfl,trivial⟩)) fun e hm=>A4 co Aa (ym b e) (Af [3] [((1,3),true)]) hm a fun r g=>fun _ hm a=>An co Aa Ad (nS e) hm a fun r g=>fun h=>h _ (.head _)))))))
def Zgs(a:Web):Option (List ByteArray):=ZH (uM a)
theorem ZKE(a:Web):KC Tryz.prog 120 [.agg ((ID a).map .d)] (Zgs a) PH:=(ZOU a).uniq
abbrev ZSz:Bool→AV:=fun y=>vB y
def Zh1(a:Web)(b:Fld):Option (Bool):=none
theorem ZPZ(a:Web)(b:Fld):KC Tryz.prog 161 [.agg ((ID a).map .d),.agg ((Ar b).map .d)] (Zh1 a b) ZSz:=⟨fun _ _ _ h=>(by cases h),by intro r;kernel_rfl,by intro r y;kernel_rfl⟩
abbrev PA(a:List (ByteArray×Int)):Ac×Blk:=((0,0),⟨0,true,.m false (a.map AY),0,[]⟩)
abbrev ZM(a:Web):Ac×Blk:=((1,3),⟨0,true,139,2,[.d (.map true (a.messages.map AY)),.d (.map false (a.enums.map AY))]⟩)
abbrev eP:Int→AV:=fun y=>vI y
@[reducible] def eI(a:List (ByteArray×Int)):Int→List Blk:=fun y=>[⟨0,true,.m false (a.map AY),0,[]⟩]
def xu(b:Web)(c:List (ByteArray×Int))(a:Msg):Nat→St:=fun v3=>Ab [(3,.ptr (1,3) 0 0),(7,vI 1),(15,vL Ar a.fields),(16,vN a.fields.length),(17,vN v3)] [(PA c),(ZM b)]
def wB(a:List (ByteArray×Int)):Unit→Nat×St:=fun _=>(0,Ab [(7,vI 1)] [(PA a)])
def wI(c:Web)(d:List (ByteArray×Int))(b:Msg)(v3:Nat):PT 1 (Lv (Nat) (Unit) (Int)):=br (decide ((v3:Int)<(b.fields.length:Int))) (ix b.fields v3 fun a=>vw .go<|vw .go<|vw .go<|vw .go<|clg (!(!decide (a.card=(1:Int)))) (ZPZ c a) fun e=>bT ((!decide (a.card=(1:Int)))||(!e))<|vs (wa v3 1)<|ln (xu c d b) (v3+1)) (Ak (wB d) ())
def wN(b:Web)(c:List (ByteArray×Int))(a:Msg):Nat→Option (Lv (Nat) (Unit) (Int)):=fun v3=>(wI b c a v3).m
def xj(a:List (ByteArray×Int)):PT 1 (Int):=lr eP (eI a) 1
def wT(b:Web)(d:ByteArray)(c:List (ByteArray×Int)):PT 1 (Int):=vw .go<|GU b.messages d fun a e=>vz (Ah a.fields)<|lc (Ab [(3,.ptr (1,3) 0 0),(7,vI 1),(15,vL Ar a.fields),(16,vN a.fields.length),(17,vI 0)] [(PA c),(ZM b)]) ((Ao (wN b c a) Aj 0).bind (Sum.elim (fun _=>(xj c).m) some))
def wQ(a:Web)(b:ByteArray)(c:List (ByteArray×Int)):PT 1 (Int):=lc (Ab [(1,vS b),(3,.ptr (1,3) 0 0),(7,vI 1)] [(PA c),(ZM a)]) ((wT a b c).m)
def uH(a:Web)(b:ByteArray)(c:List (ByteArray×Int)):Option (Int):=(wQ a b c).m
theorem Zn6{C:Cx}(co:CO C 1)(c:Web)(a:List (ByteArray×Int))(b:Msg):KL Tryz.prog (AE tl) 43 C (pa [0,0,1,0,1,1] (AB Tryz.f121)) [.tmp 6] 1 (xu c a b) (wB a) eP (eI a) (wN c a b):=fun v3 _ hm Q d f e=>AD co Aa Ad (wI c a b v3) (Af [3,7,15,16,17] [((0,0),false),((1,3),false)]) (Af [7] [((0,0),false)]) f hm e fun r g=>⟨fun h=>fun i=>id,id⟩
theorem ZGR(c:Web)(d:ByteArray)(a:List (ByteArray×Int)):KO Tryz.prog 121 1 [.agg ((ID c).map .d),vS d,.mp (0,0) 0] [⟨0,true,.m false (a.map AY),0,[]⟩] (fun _ _ _ _=>True) (uH c d a) eP (eI a):=A8 Tryz.func121 Tryz.ntmps121 Aa [.tmp 6] 1 (fun C co j y hm e b=>Al co Aa Ad 2 (wQ c d a) (Af [1,3,7] [((0,0),false),((1,3),false)]) nl (fun _ h=>h) hm b fun r g=>fun _ hm b=>sq (Al co Aa Ad 1 (wT c d a) (Af [3,7,15,16,17] [((0,0),false),((1,3),false)]) nl (fun _ h=>h) hm b fun r g=>fun f i=>fun _ hm b=>bk 0 (lo (AK (Zn6 co c a f) (fun _ h=>h) hm b (fun _ hm=>An co Aa Ad (xj a) hm b fun r g=>id))))) (hB:=fun y=>⟨.inl wu,rfl,trivial⟩)
end Go.Proofs.YtleccgigifnfgaaGreat
