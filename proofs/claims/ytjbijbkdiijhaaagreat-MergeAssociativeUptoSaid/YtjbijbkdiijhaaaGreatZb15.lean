import Derived.Test.YtjbijbkdiijhaaaGreatZb14
import Derived.Test.YtjbijbkdiijhaaaGreatZb00
namespace Go.Proofs.YtjbijbkdiijhaaaGreat
set_option maxRecDepth 100000
set_option linter.all false
open Go Go.Eng
abbrev Ht:List (Af×Bool):=[((1,1),false)]
abbrev Iw(a:Val):Af×Blk:=kk 1 33 7 (cD (Ag a))
abbrev G0:Int→AV:=fun y=>vI y
def wv(a:Val):Int×Nat→St:=fun(b,v2)=>Ad [pp 1,(3,vI b),(4,vN v2)] [(Iw a)]
def xj(a:Val):Int→Nat×St:=fun b=>(0,Ad [pp 1,(3,vI b)] [(Iw a)])
def T4(a:Val)(b:Val→Option (Int))(c:Int)(v2:Nat):PT 0 (Lv (Int×Nat) (Int) (Int)):=wg<|vz (An a.list)<|br (decide ((v2:Int)<(a.list.length:Int))) (wg<|ix a.list v2 fun d=>cs Tryz.prog 77 [.agg ((Ag d).map .d)] [] [] (b d) (fun y=>vI y) fun e=>vs (wi (c+e))<|vs (wa v2 1)<|ln (wv a) ((c+e),v2+1)) (Ai (xj a) c)
def RT(b:Val)(a:Val→Option (Int)):Int×Nat→Option (Lv (Int×Nat) (Int) (Int)):=fun(c,v2)=>(T4 b a c v2).m
def vP(a:Val):Int×Nat→St:=fun(b,c)=>Ad [pp 1,(3,vI b),(5,vN c)] [(Iw a)]
def wR(b:Val):Int→Nat×St:=fun a=>(2,Ad [pp 1,(3,vI a)] [(Iw b)])
def Zw(b:Val)(c:Val→Option (Int))(f:Int)(e:Nat):PT 0 (Lv (Int×Nat) (Int) (Int)):=wg<|vz (An b.pairs)<|br (decide ((e:Int)<(b.pairs.length:Int))) (wg<|ix b.pairs e fun h=>cs Tryz.prog 77 [.agg ((Ag h.key).map .d)] [] [] (c h.key) (fun y=>vI y) fun g=>wg<|ix b.pairs e fun d=>cs Tryz.prog 77 [.agg ((Ag d.val).map .d)] [] [] (c d.val) (fun y=>vI y) fun a=>vs (wi (g+a))<|vs (wi (f+(g+a)))<|vs (wa e 1)<|ln (vP b) ((f+(g+a)),e+1)) (Ai (wR b) f)
def RW(b:Val)(a:Val→Option (Int)):Int×Nat→Option (Lv (Int×Nat) (Int) (Int)):=fun(c,d)=>(Zw b a c d).m
def vM(c:Val):Int×Nat→St:=fun(a,b)=>Ad [pp 1,(3,vI a),(6,vN b)] [(Iw c)]
def vY:Int→Nat×St:=fun a=>(4,Ad [(3,vI a)] [])
def T6(e:Val)(f:Val→Option (Int))(b:Int)(a:Nat):PT 0 (Lv (Int×Nat) (Int) (Int)):=wg<|vz (An e.slots)<|br (decide ((a:Int)<(e.slots.length:Int))) (wg<|ix e.slots a fun c=>cs Tryz.prog 77 [.agg ((Ag c.val).map .d)] [] [] (f c.val) (fun y=>vI y) fun d=>vs (wi (b+d))<|vs (wa a 1)<|ln (vM e) ((b+d),a+1)) (Ai (vY) b)
def R7(d:Val)(a:Val→Option (Int)):Int×Nat→Option (Lv (Int×Nat) (Int) (Int)):=fun(b,c)=>(T6 d a b c).m
def cS(a:Int):PT 0 (Int):=lr G0 nG a
def bj(d:Val)(b:Val→Option (Int))(a:Int):PT 0 (Int):=lc (Ad [pp 1,(3,vI a),(6,vI 0)] [(Iw d)]) ((Am (R7 d b) Al (a,0)).bind (Sum.elim (fun c=>(cS c).m) some))
def cR(b:Val)(a:Val→Option (Int))(d:Int):PT 0 (Int):=lc (Ad [pp 1,(3,vI d),(5,vI 0)] [(Iw b)]) ((Am (RW b a) Al (d,0)).bind (Sum.elim (fun c=>(bj b a c).m) some))
def fj(b:Val)(a:Val→Option (Int)):PT 0 (Int):=lc (Ad [pp 1,(3,vN (1+b.raws.length)),(4,vI 0)] [(Iw b)]) ((Am (RT b a) Al (((1+b.raws.length:Nat):Int),0)).bind (Sum.elim (fun c=>(cR b a c).m) some))
def gn(a:Val)(b:Val→Option (Int)):PT 0 (Int):=wg<|vz (An a.raws)<|vs (wa 1 a.raws.length)<|lc (Ad [pp 1,(3,vN (1+a.raws.length))] [(Iw a)]) ((fj a b).m)
def Vb(a:Val→Option (Int))(b:Val):Option (Int):=(gn b a).m
theorem ZIN{C:Cx}(co:CO C 0)(b:Val)(a:Val→Option (Int))(d:∀(b:Val),KC Tryz.prog 77 [.agg ((Ag b).map .d)] (a b) G0):KL Tryz.prog (AC tl) 67 C (pa [0,0,1,0,1,1] (Az Tryz.f77)) [.tmp 2] 0 (wv b) (xj b) G0 nG (RT b a):=fun(j,v2) _ hm Q e i h=>At co Aa Ae (T4 b a j v2) (Ac [1,3,4] Ht) (Ac [1,3] Ht) i hm h fun r g=>⟨fun c=>⟨fun y hy f _ _=>by rw[(d c).x,(d c).e];exact(d c).k _ f y hy,fun k=>id⟩,id⟩
theorem ZH9{C:Cx}(co:CO C 0)(c:Val)(a:Val→Option (Int))(d:∀(c:Val),KC Tryz.prog 77 [.agg ((Ag c).map .d)] (a c) G0):KL Tryz.prog (AC tl) 67 C (pa [0,0,1,0,1,1,1] (Az Tryz.f77)) [.tmp 2] 0 (vP c) (wR c) G0 nG (RW c a):=fun(k,l) _ hm Q h j i=>At co Aa Ae (Zw c a k l) (Ac [1,3,5] Ht) (Ac [1,3] Ht) j hm i fun r g=>⟨fun f=>⟨fun y hy e _ _=>by rw[(d f.key).x,(d f.key).e];exact(d f.key).k _ e y hy,fun n=>fun b=>⟨fun y hy e _ _=>by rw[(d b.val).x,(d b.val).e];exact(d b.val).k _ e y hy,fun m=>id⟩⟩,id⟩
theorem ZK5{C:Cx}(co:CO C 0)(c:Val)(a:Val→Option (Int))(d:∀(c:Val),KC Tryz.prog 77 [.agg ((Ag c).map .d)] (a c) G0):KL Tryz.prog (AC tl) 67 C (pa [0,0,1,0,1,1,1,1] (Az Tryz.f77)) [.tmp 2] 0 (vM c) (vY) G0 nG (R7 c a):=fun(e,f) _ hm Q h k j=>At co Aa Ae (T6 c a e f) (Ac [1,3,6] Ht) (AJ [3]) k hm j fun r g=>⟨fun b=>⟨fun y hy i _ _=>by rw[(d b.val).x,(d b.val).e];exact(d b.val).k _ i y hy,fun l=>id⟩,id⟩
theorem ZRc(a:Val→Option (Int))(d:∀(c:Val),KC Tryz.prog 77 [.agg ((Ag c).map .d)] (a c) G0)(c:Val):KC Tryz.prog 77 [.agg ((Ag c).map .d)] (Vb a c) G0:=AF Tryz.func77 Tryz.ntmps77 Aa [.tmp 2] fun C co y hm h b=>Aj co Aa Ae 2 (gn c a) (Ac [1,3] Ht) nl nH hm b fun r g=>fun _ hm b=>sq (Aj co Aa Ae 1 (fj c a) (Ac [1,3,4] Ht) nl nH hm b fun r g=>fun _ hm b=>bk 0 (lo (AH (ZIN co c a d) nH hm b (fun i hm=>sq (Aj co Aa Ae 1 (cR c a i) (Ac [1,3,5] Ht) nl nH hm b fun r g=>fun _ hm b=>bk 2 (lo (AH (ZH9 co c a d) nH hm b (fun e hm=>sq (Aj co Aa Ae 1 (bj c a e) (Ac [1,3,6] Ht) nl nH hm b fun r g=>fun _ hm b=>bk 4 (lo (AH (ZK5 co c a d) nH hm b (fun f hm=>Ax co Aa Ae (cS f) hm b fun r g=>id))))))))))))
def Jx:Nat→Val→Option (Int)
 |0=>fun _=>none
 |a+1=>Vb (Jx a)
theorem yK:∀(b:Nat) (a:Val),KC Tryz.prog 77 [.agg ((Ag a).map .d)] (Jx b a) G0
 |0,a=>⟨fun _ _ _ h=>(by cases h),by intro r;kernel_rfl,by intro r y;kernel_rfl⟩
 |b+1,a=>ZRc (Jx b) (yK b) a
abbrev Om:Int→AV:=fun y=>vI y
def b9(a:Scm)(e:ByteArray)(b:Val)(f:Bool):PT 0 (Int):=wg<|cl (iz a e) fun c=>wg<|br (!c.2) (lr Om nG 10) (wg<|wg<|wg<|cl (UU (Jt Al) (tR Al) a c.1 b 1 f) fun d=>br (!decide (d=(0:Int))) (lr Om nG d) (wg<|cl (yK Al b) fun g=>br (decide ((4096:Int)<g)) (lr Om nG 3) (lr Om nG 0)))
def jk(a:Scm)(b:ByteArray)(c:Val)(d:Bool):Option (Int):=(b9 a b c d).m
theorem ZVI(a:Scm)(b:ByteArray)(c:Val)(d:Bool):KC Tryz.prog 41 [.agg ((Au a).map .d),vS b,.agg ((Ag c).map .d),vB d] (jk a b c d) Om:=AF Tryz.func41 Tryz.ntmps41 Aa [.tmp 8] fun C co y hm e f=>Ax co Aa Ae (b9 a b c d) hm f fun r g=>fun h=>⟨id,fun i=>⟨id,fun j=>⟨id,id⟩⟩⟩
abbrev qr:Int→AV:=fun y=>vI y
def bq(a:Scm)(b:ByteArray)(c:Val):PT 0 (Int):=wg<|wg<|cl (ZVI a b c true) fun d=>lr qr nG d
def jR(a:Scm)(b:ByteArray)(c:Val):Option (Int):=(bq a b c).m
theorem ZVK(a:Scm)(b:ByteArray)(c:Val):KC Tryz.prog 16 [.agg ((Au a).map .d),vS b,.agg ((Ag c).map .d)] (jR a b c) qr:=AF Tryz.func16 Tryz.ntmps16 Aa [.tmp 6] fun C co y hm d e=>Ax co Aa Ae (bq a b c) hm e fun r g=>fun f=>id
abbrev qJ:Bool→AV:=fun y=>vB y
def dZ(a:Val):PT 0 (Bool):=wg<|cl (bh a.kind) fun b=>wg<|wg<|wg<|AP ((b&&decide (a.bits=(0:Int)))&&decide (a.text=(⟨#[]⟩:ByteArray))) (ul a) fun c=>lr qJ nG (((b&&decide (a.bits=(0:Int)))&&decide (a.text=(⟨#[]⟩:ByteArray)))&&c)
def jd(a:Val):Option (Bool):=(dZ a).m
theorem ZUw(a:Val):KC Tryz.prog 78 [.agg ((Ag a).map .d)] (jd a) qJ:=AF Tryz.func78 Tryz.ntmps78 Aa [.tmp 2] fun C co y hm b c=>Ax co Aa Ae (dZ a) hm c fun r g=>fun d=>fun e=>id
abbrev SA:Bool→AV:=fun y=>vB y
def fC(b:Fld)(a:Val):PT 0 (Bool):=wg<|br (decide (b.card=(4:Int))) (wg<|vz (An a.list)<|lr SA nG (decide ((a.list.length:Int)=(0:Int)))) (wg<|br (decide (b.card=(5:Int))) (wg<|vz (An a.pairs)<|lr SA nG (decide ((a.pairs.length:Int)=(0:Int)))) (wg<|wg<|AP (decide (b.card=(3:Int))) (ZUw a) fun c=>lr SA nG (decide (b.card=(3:Int))&&c)))
def jp(a:Fld)(b:Val):Option (Bool):=(fC a b).m
theorem ZU1(a:Fld)(b:Val):KC Tryz.prog 42 [.agg ((AB a).map .d),.agg ((Ag b).map .d)] (jp a b) SA:=AF Tryz.func42 Tryz.ntmps42 Aa [.tmp 4] fun C co y hm c d=>Ax co Aa Ae (fC a b) hm d fun r g=>⟨id,⟨id,fun e=>id⟩⟩
abbrev UD:Int→AV:=fun y=>vI y
def mg(a:Int)(b:Int):PT 0 (Int):=br (decide (a<b)) (lr UD nG (-1)) (br (decide (b<a)) (lr UD nG 1) (lr UD nG 0))
def jH(a:Int)(b:Int):Option (Int):=(mg a b).m
theorem JQ(a:Int)(b:Int):KC Tryz.prog 129 [vI a,vI b] (jH a b) UD:=AF Tryz.func129 Tryz.ntmps129 Aa [.tmp 4] fun C co y hm c d=>Ax co Aa Ae (mg a b) hm d fun r g=>⟨id,⟨id,id⟩⟩
abbrev Jd:Int→AV:=fun y=>vI y
def s4(a:Raw)(b:Raw):PT 0 (Int):=wg<|wg<|br (!decide (a.num=b.num)) (wg<|wg<|cl (JQ a.num b.num) fun c=>lr Jd nG c) (wg<|wg<|br (!decide (a.wire=b.wire)) (wg<|wg<|cl (JQ a.wire b.wire) fun d=>lr Jd nG d) (wg<|wg<|br (decide (a.bits<b.bits)) (lr Jd nG (-1)) (wg<|wg<|br (decide (b.bits<a.bits)) (lr Jd nG 1) (wg<|wg<|br (BM a.data b.data) (lr Jd nG (-1)) (wg<|wg<|br (!(BM a.data b.data||decide (a.data=b.data))) (lr Jd nG 1) (lr Jd nG 0))))))
def Zfu(a:Raw)(b:Raw):Option (Int):=(s4 a b).m
theorem ZRv(a:Raw)(b:Raw):KC Tryz.prog 155 [.agg ((Av a).map .d),.agg ((Av b).map .d)] (Zfu a b) Jd:=AF Tryz.func155 Tryz.ntmps155 Aa [.tmp 4] fun C co y hm c d=>Ax co Aa Ae (s4 a b) hm d fun r g=>⟨fun e=>id,⟨fun f=>id,⟨id,⟨id,⟨id,⟨id,id⟩⟩⟩⟩⟩⟩
abbrev Uz:Int→AV:=fun y=>vI y
def tH(a:List Raw)(b:List Raw):Nat→St:=fun c=>Ad [(0,vL Av a),(1,vL Av b),(5,vN c)] []
def tL(a:List Raw)(b:List Raw):Unit→Nat×St:=fun _=>(0,Ad [(0,vL Av a),(1,vL Av b)] [])
def tC(b:List Raw)(c:List Raw)(a:Nat):PT 0 (Lv (Nat) (Unit) (Int)):=vz (An b)<|vy (decide ((a:Int)<(b.length:Int))) (An c)<|br (decide ((a:Int)<(b.length:Int))&&decide ((a:Int)<(c.length:Int))) (ix b a fun e=>ix c a fun f=>cl (ZRv e f) fun d=>br (!decide (d=(0:Int))) (AA Uz nG d) (vs (wa a 1)<|ln (tH b c) (a+1))) (Ai (tL b c) ())
def sJ(a:List Raw)(b:List Raw):Nat→Option (Lv (Nat) (Unit) (Int)):=fun c=>(tC a b c).m
def s7(a:List Raw)(b:List Raw):PT 0 (Int):=vz (An a)<|vz (An b)<|cl (JQ (a.length:Int) (b.length:Int)) fun c=>lr Uz nG c
def rI(a:List Raw)(b:List Raw):PT 0 (Int):=lc (Ad [(0,vL Av a),(1,vL Av b),(5,vI 0)] []) ((Am (sJ a b) Al 0).bind (Sum.elim (fun _=>(s7 a b).m) some))
def sh(a:List Raw)(b:List Raw):PT 0 (Int):=lc (Ad [(0,vL Av a),(1,vL Av b)] []) ((rI a b).m)
def Ze9(a:List Raw)(b:List Raw):Option (Int):=(sh a b).m
theorem ZxS{C:Cx}(co:CO C 0)(a:List Raw)(b:List Raw):KL Tryz.prog (AC tl) 36 C (pa [0,0,1,0,1] (Az Tryz.f133)) [.tmp 4] 0 (tH a b) (tL a b) Uz nG (sJ a b):=fun f _ hm Q c e d=>At co Aa Ae (tC a b f) (AJ [0,1,5]) (AJ [0,1]) e hm d fun r g=>⟨fun h=>fun i=>fun j=>⟨id,id⟩,id⟩
theorem ZSY(b:List Raw)(c:List Raw):KC Tryz.prog 133 [vL Av b,vL Av c] (Ze9 b c) Uz:=AF Tryz.func133 Tryz.ntmps133 Aa [.tmp 4] fun C co y hm d a=>Aj co Aa Ae 1 (sh b c) (AJ [0,1]) nl nH hm a fun r g=>fun _ hm a=>sq (Aj co Aa Ae 1 (rI b c) (AJ [0,1,5]) nl nH hm a fun r g=>fun _ hm a=>bk 0 (lo (AH (ZxS co b c) nH hm a (fun _ hm=>Ax co Aa Ae (s7 b c) hm a fun r g=>fun e=>id))))
abbrev yR:Bool→AV:=fun y=>vB y
def n9(a:Int):PT 0 (Bool):=lr yR nG (decide (a=(2:Int))||decide (a=(3:Int)))
def yW(a:Int):Option (Bool):=(n9 a).m
theorem ZRu(a:Int):KC Tryz.prog 166 [vI a] (yW a) yR:=AF Tryz.func166 Tryz.ntmps166 Aa [.tmp 2] fun C co y hm b c=>Ax co Aa Ae (n9 a) hm c fun r g=>id
abbrev OX:Int→AV:=fun y=>.d (.int .u64 y)
def kE(a:Val):PT 0 (Int):=wg<|vz (wk .u64 (a.bits+9223372036854775808))<|lr OX nG (IntKind.u64.wrap (a.bits+9223372036854775808))
def nF(a:Val):PT 0 (Int):=wg<|cl (ZRu a.kind) fun b=>br b (kE a) (wg<|br (!decide (a.kind=(6:Int))) (wg<|lr OX nG a.bits) (wg<|cl (ve a.bits) fun c=>br (decide (c=(0:Int))) (lr OX nG 18446744073709551615) (wg<|br (decide ((9223372036854775808:Int)≤a.bits)) (wg<|vz (wk .u64 ((18446744073709551615:Int)-a.bits))<|lr OX nG (IntKind.u64.wrap ((18446744073709551615:Int)-a.bits))) (kE a))))
def jv(a:Val):Option (Int):=(nF a).m
theorem Tq(a:Val):KC Tryz.prog 156 [.agg ((Ag a).map .d)] (jv a) OX:=AF Tryz.func156 Tryz.ntmps156 Aa [.tmp 2] fun C co y hm b c=>Ax co Aa Ae (nF a) hm c fun r g=>fun d=>⟨id,⟨id,fun e=>⟨id,⟨id,id⟩⟩⟩⟩
abbrev Hv:Int→AV:=fun y=>vI y
def pF(a:Val)(b:Val):PT 0 (Int):=wg<|wg<|br (decide (a.kind<b.kind)) (lr Hv nG (-1)) (wg<|wg<|br (decide (b.kind<a.kind)) (lr Hv nG 1) (wg<|cl (bh a.kind) fun c=>br (!c) (lr Hv nG 0) (wg<|cl (Zm a.kind) fun d=>wg<|wg<|br (d&&BM a.text b.text) (lr Hv nG (-1)) (wg<|cl (Zm a.kind) fun e=>wg<|wg<|br (e&&(!(BM a.text b.text||decide (a.text=b.text)))) (lr Hv nG 1) (wg<|cl (Zm a.kind) fun f=>br f (lr Hv nG 0) (wg<|cl (Tq a) fun g=>wg<|cl (Tq b) fun h=>br (decide (g<h)) (lr Hv nG (-1)) (wg<|cl (Tq a) fun i=>wg<|cl (Tq b) fun j=>br (decide (j<i)) (lr Hv nG 1) (lr Hv nG 0))))))))
def jF(a:Val)(b:Val):Option (Int):=(pF a b).m
theorem ZRj(a:Val)(b:Val):KC Tryz.prog 134 [.agg ((Ag a).map .d),.agg ((Ag b).map .d)] (jF a b) Hv:=AF Tryz.func134 Tryz.ntmps134 Aa [.tmp 4] fun C co y hm c d=>Ax co Aa Ae (pF a b) hm d fun r g=>⟨id,⟨id,fun e=>⟨id,fun f=>⟨id,fun h=>⟨id,fun i=>⟨id,fun j=>fun k=>⟨id,fun l=>fun m=>⟨id,id⟩⟩⟩⟩⟩⟩⟩⟩
abbrev D7:Int→AV:=fun y=>vI y
abbrev Uf:Int→AV:=fun y=>vI y
def th(a:List Val)(b:List Val):Nat→St:=fun c=>Ad [(0,vL Bb a),(1,vL Bb b),(5,vN c)] []
def rK(a:List Val)(b:List Val):Unit→Nat×St:=fun _=>(0,Ad [(0,vL Bb a),(1,vL Bb b)] [])
def su(b:List Val)(c:List Val)(d:Val→Val→Option (Int))(a:Nat):PT 0 (Lv (Nat) (Unit) (Int)):=vz (An b)<|vy (decide ((a:Int)<(b.length:Int))) (An c)<|br (decide ((a:Int)<(b.length:Int))&&decide ((a:Int)<(c.length:Int))) (ix b a fun e=>ix c a fun f=>cs Tryz.prog 97 [.agg ((Ag e).map .d),.agg ((Ag f).map .d)] [] [] (d e f) (fun y=>vI y) fun g=>br (!decide (g=(0:Int))) (AA Uf nG g) (vs (wa a 1)<|ln (th b c) (a+1))) (Ai (rK b c) ())
def tx(b:List Val)(c:List Val)(a:Val→Val→Option (Int)):Nat→Option (Lv (Nat) (Unit) (Int)):=fun d=>(su b c a d).m
def sn(a:List Val)(b:List Val):PT 0 (Int):=vz (An a)<|vz (An b)<|cl (JQ (a.length:Int) (b.length:Int)) fun c=>lr Uf nG c
def r8(b:List Val)(c:List Val)(a:Val→Val→Option (Int)):PT 0 (Int):=lc (Ad [(0,vL Bb b),(1,vL Bb c),(5,vI 0)] []) ((Am (tx b c a) Al 0).bind (Sum.elim (fun _=>(sn b c).m) some))
def r9(b:List Val)(c:List Val)(a:Val→Val→Option (Int)):PT 0 (Int):=lc (Ad [(0,vL Bb b),(1,vL Bb c)] []) ((r8 b c a).m)
def y1(a:Val→Val→Option (Int))(b:List Val)(c:List Val):Option (Int):=(r9 b c a).m
theorem Zy0{C:Cx}(co:CO C 0)(b:List Val)(c:List Val)(a:Val→Val→Option (Int))(f:∀(b:Val) (c:Val),KC Tryz.prog 97 [.agg ((Ag b).map .d),.agg ((Ag c).map .d)] (a b c) D7):KL Tryz.prog (AC tl) 36 C (pa [0,0,1,0,1] (Az Tryz.f130)) [.tmp 4] 0 (th b c) (rK b c) Uf nG (tx b c a):=fun l _ hm Q h k j=>At co Aa Ae (su b c a l) (AJ [0,1,5]) (AJ [0,1]) k hm j fun r g=>⟨fun d=>fun e=>⟨fun y hy i _ _=>by rw[(f d e).x,(f d e).e];exact(f d e).k _ i y hy,fun m=>⟨id,id⟩⟩,id⟩
theorem cj(a:Val→Val→Option (Int))(f:∀(b:Val) (c:Val),KC Tryz.prog 97 [.agg ((Ag b).map .d),.agg ((Ag c).map .d)] (a b c) D7)(b:List Val)(c:List Val):KC Tryz.prog 130 [vL Bb b,vL Bb c] (y1 a b c) Uf:=AF Tryz.func130 Tryz.ntmps130 Aa [.tmp 4] fun C co y hm e d=>Aj co Aa Ae 1 (r9 b c a) (AJ [0,1]) nl nH hm d fun r g=>fun _ hm d=>sq (Aj co Aa Ae 1 (r8 b c a) (AJ [0,1,5]) nl nH hm d fun r g=>fun _ hm d=>bk 0 (lo (AH (Zy0 co b c a f) nH hm d (fun _ hm=>Ax co Aa Ae (sn b c) hm d fun r g=>fun h=>id))))
abbrev Pm:Int→AV:=fun y=>vI y
def r6(a:List Pr)(b:List Pr):Nat→St:=fun c=>Ad [(0,vL Ap a),(1,vL Ap b),(5,vN c)] []
def sG(a:List Pr)(b:List Pr):Unit→Nat×St:=fun _=>(0,Ad [(0,vL Ap a),(1,vL Ap b)] [])
def rL(b:List Pr)(c:List Pr)(d:Val→Val→Option (Int))(a:Nat):PT 0 (Lv (Nat) (Unit) (Int)):=vz (An b)<|vy (decide ((a:Int)<(b.length:Int))) (An c)<|br (decide ((a:Int)<(b.length:Int))&&decide ((a:Int)<(c.length:Int))) (ix b a fun e=>ix c a fun f=>cs Tryz.prog 97 [.agg ((Ag e.key).map .d),.agg ((Ag f.key).map .d)] [] [] (d e.key f.key) (fun y=>vI y) fun i=>br (!decide (i=(0:Int))) (AA Pm nG i) (ix b a fun g=>ix c a fun h=>cs Tryz.prog 97 [.agg ((Ag g.val).map .d),.agg ((Ag h.val).map .d)] [] [] (d g.val h.val) (fun y=>vI y) fun j=>br (!decide (j=(0:Int))) (AA Pm nG j) (vs (wa a 1)<|ln (r6 b c) (a+1)))) (Ai (sG b c) ())
def tE(b:List Pr)(c:List Pr)(a:Val→Val→Option (Int)):Nat→Option (Lv (Nat) (Unit) (Int)):=fun d=>(rL b c a d).m
def rE(a:List Pr)(b:List Pr):PT 0 (Int):=vz (An a)<|vz (An b)<|cl (JQ (a.length:Int) (b.length:Int)) fun c=>lr Pm nG c
def rT(b:List Pr)(c:List Pr)(a:Val→Val→Option (Int)):PT 0 (Int):=lc (Ad [(0,vL Ap b),(1,vL Ap c),(5,vI 0)] []) ((Am (tE b c a) Al 0).bind (Sum.elim (fun _=>(rE b c).m) some))
def sp(b:List Pr)(c:List Pr)(a:Val→Val→Option (Int)):PT 0 (Int):=lc (Ad [(0,vL Ap b),(1,vL Ap c)] []) ((rT b c a).m)
def yY(a:Val→Val→Option (Int))(b:List Pr)(c:List Pr):Option (Int):=(sp b c a).m
theorem ZxU{C:Cx}(co:CO C 0)(b:List Pr)(c:List Pr)(a:Val→Val→Option (Int))(d:∀(b:Val) (c:Val),KC Tryz.prog 97 [.agg ((Ag b).map .d),.agg ((Ag c).map .d)] (a b c) D7):KL Tryz.prog (AC tl) 53 C (pa [0,0,1,0,1] (Az Tryz.f131)) [.tmp 4] 0 (r6 b c) (sG b c) Pm nG (tE b c a):=fun n _ hm Q k m l=>At co Aa Ae (rL b c a n) (AJ [0,1,5]) (AJ [0,1]) m hm l fun r g=>⟨fun f=>fun h=>⟨fun y hy e _ _=>by rw[(d f.key h.key).x,(d f.key h.key).e];exact(d f.key h.key).k _ e y hy,fun o=>⟨id,fun i=>fun j=>⟨fun y hy e _ _=>by rw[(d i.val j.val).x,(d i.val j.val).e];exact(d i.val j.val).k _ e y hy,fun p=>⟨id,id⟩⟩⟩⟩,id⟩
theorem fV(a:Val→Val→Option (Int))(f:∀(b:Val) (c:Val),KC Tryz.prog 97 [.agg ((Ag b).map .d),.agg ((Ag c).map .d)] (a b c) D7)(b:List Pr)(c:List Pr):KC Tryz.prog 131 [vL Ap b,vL Ap c] (yY a b c) Pm:=AF Tryz.func131 Tryz.ntmps131 Aa [.tmp 4] fun C co y hm e d=>Aj co Aa Ae 1 (sp b c a) (AJ [0,1]) nl nH hm d fun r g=>fun _ hm d=>sq (Aj co Aa Ae 1 (rT b c a) (AJ [0,1,5]) nl nH hm d fun r g=>fun _ hm d=>bk 0 (lo (AH (ZxU co b c a f) nH hm d (fun _ hm=>Ax co Aa Ae (rE b c) hm d fun r g=>fun h=>id))))
abbrev OW:Int→AV:=fun y=>vI y
def rQ(a:List Slt)(b:List Slt):Nat→St:=fun c=>Ad [(0,vL Aq a),(1,vL Aq b),(5,vN c)] []
def s3(a:List Slt)(b:List Slt):Unit→Nat×St:=fun _=>(0,Ad [(0,vL Aq a),(1,vL Aq b)] [])
def sk(b:List Slt)(c:List Slt)(d:Val→Val→Option (Int))(a:Nat):PT 0 (Lv (Nat) (Unit) (Int)):=vz (An b)<|vy (decide ((a:Int)<(b.length:Int))) (An c)<|br (decide ((a:Int)<(b.length:Int))&&decide ((a:Int)<(c.length:Int))) (ix b a fun i=>ix c a fun j=>cl (JQ i.num j.num) fun g=>br (!decide (g=(0:Int))) (AA OW nG g) (ix b a fun e=>ix c a fun f=>cs Tryz.prog 97 [.agg ((Ag e.val).map .d),.agg ((Ag f.val).map .d)] [] [] (d e.val f.val) (fun y=>vI y) fun h=>br (!decide (h=(0:Int))) (AA OW nG h) (vs (wa a 1)<|ln (rQ b c) (a+1)))) (Ai (s3 b c) ())
def sY(b:List Slt)(c:List Slt)(a:Val→Val→Option (Int)):Nat→Option (Lv (Nat) (Unit) (Int)):=fun d=>(sk b c a d).m
def sE(a:List Slt)(b:List Slt):PT 0 (Int):=vz (An a)<|vz (An b)<|cl (JQ (a.length:Int) (b.length:Int)) fun c=>lr OW nG c
def r7(b:List Slt)(c:List Slt)(a:Val→Val→Option (Int)):PT 0 (Int):=lc (Ad [(0,vL Aq b),(1,vL Aq c),(5,vI 0)] []) ((Am (sY b c a) Al 0).bind (Sum.elim (fun _=>(sE b c).m) some))
def tf(b:List Slt)(c:List Slt)(a:Val→Val→Option (Int)):PT 0 (Int):=lc (Ad [(0,vL Aq b),(1,vL Aq c)] []) ((r7 b c a).m)
def yX(a:Val→Val→Option (Int))(b:List Slt)(c:List Slt):Option (Int):=(tf b c a).m
theorem ZyL{C:Cx}(co:CO C 0)(b:List Slt)(c:List Slt)(a:Val→Val→Option (Int))(f:∀(b:Val) (c:Val),KC Tryz.prog 97 [.agg ((Ag b).map .d),.agg ((Ag c).map .d)] (a b c) D7):KL Tryz.prog (AC tl) 53 C (pa [0,0,1,0,1] (Az Tryz.f132)) [.tmp 4] 0 (rQ b c) (s3 b c) OW nG (sY b c a):=fun l _ hm Q h k j=>At co Aa Ae (sk b c a l) (AJ [0,1,5]) (AJ [0,1]) k hm j fun r g=>⟨fun m=>fun n=>fun o=>⟨id,fun d=>fun e=>⟨fun y hy i _ _=>by rw[(f d.val e.val).x,(f d.val e.val).e];exact(f d.val e.val).k _ i y hy,fun p=>⟨id,id⟩⟩⟩,id⟩
theorem gO(a:Val→Val→Option (Int))(f:∀(b:Val) (c:Val),KC Tryz.prog 97 [.agg ((Ag b).map .d),.agg ((Ag c).map .d)] (a b c) D7)(b:List Slt)(c:List Slt):KC Tryz.prog 132 [vL Aq b,vL Aq c] (yX a b c) OW:=AF Tryz.func132 Tryz.ntmps132 Aa [.tmp 4] fun C co y hm e d=>Aj co Aa Ae 1 (tf b c a) (AJ [0,1]) nl nH hm d fun r g=>fun _ hm d=>sq (Aj co Aa Ae 1 (r7 b c a) (AJ [0,1,5]) nl nH hm d fun r g=>fun _ hm d=>bk 0 (lo (AH (ZyL co b c a f) nH hm d (fun _ hm=>Ax co Aa Ae (sE b c) hm d fun r g=>fun h=>id))))
def bR(a:Val)(b:Val)(c:Val→Val→Option (Int)):PT 0 (Int):=wg<|wg<|br (!decide (a.kind=b.kind)) (wg<|wg<|cl (JQ a.kind b.kind) fun e=>lr D7 nG e) (wg<|br (decide (a.kind=(11:Int))) (wg<|wg<|cs Tryz.prog 130 [vL Bb a.list,vL Bb b.list] [] [] (y1 c a.list b.list) (fun y=>vI y) fun f=>lr D7 nG f) (br (decide (a.kind=(12:Int))) (wg<|wg<|cs Tryz.prog 131 [vL Ap a.pairs,vL Ap b.pairs] [] [] (yY c a.pairs b.pairs) (fun y=>vI y) fun g=>lr D7 nG g) (br (decide (a.kind=(10:Int))) (wg<|wg<|cs Tryz.prog 132 [vL Aq a.slots,vL Aq b.slots] [] [] (yX c a.slots b.slots) (fun y=>vI y) fun d=>br (!decide (d=(0:Int))) (lr D7 nG d) (wg<|wg<|cl (ZSY a.raws b.raws) fun h=>lr D7 nG h)) (wg<|wg<|cl (ZRj a b) fun i=>lr D7 nG i))))
def Us(a:Val→Val→Option (Int))(b:Val)(c:Val):Option (Int):=(bR b c a).m
theorem ZRK(a:Val→Val→Option (Int))(d:∀(b:Val) (c:Val),KC Tryz.prog 97 [.agg ((Ag b).map .d),.agg ((Ag c).map .d)] (a b c) D7)(b:Val)(c:Val):KC Tryz.prog 97 [.agg ((Ag b).map .d),.agg ((Ag c).map .d)] (Us a b c) D7:=AF Tryz.func97 Tryz.ntmps97 Aa [.tmp 4] fun C co y hm f h=>Ax co Aa Ae (bR b c a) hm h fun r g=>⟨fun i=>id,⟨⟨fun y hy e _ _=>by rw[(cj a d b.list c.list).x,(cj a d b.list c.list).e];exact(cj a d b.list c.list).k _ e y hy,fun j=>id⟩,⟨⟨fun y hy e _ _=>by rw[(fV a d b.pairs c.pairs).x,(fV a d b.pairs c.pairs).e];exact(fV a d b.pairs c.pairs).k _ e y hy,fun k=>id⟩,⟨⟨fun y hy e _ _=>by rw[(gO a d b.slots c.slots).x,(gO a d b.slots c.slots).e];exact(gO a d b.slots c.slots).k _ e y hy,fun l=>⟨id,fun m=>id⟩⟩,fun n=>id⟩⟩⟩⟩
def PD:Nat→Val→Val→Option (Int)
 |0=>fun _ _=>none
 |a+1=>Us (PD a)
theorem h9:∀(c:Nat) (a:Val) (b:Val),KC Tryz.prog 97 [.agg ((Ag a).map .d),.agg ((Ag b).map .d)] (PD c a b) D7
 |0,a,b=>⟨fun _ _ _ h=>(by cases h),by intro r;kernel_rfl,by intro r y;kernel_rfl⟩
 |c+1,a,b=>ZRK (PD c) (h9 c) a b
abbrev On:List Pr→AV:=fun y=>vL Ap y
def cV(a:List Pr):List Pr×Nat→St:=fun(b,v2)=>Ad [(0,vL Ap a),(3,vL Ap b),(4,vN v2)] []
def u2:List Pr→Nat×St:=fun a=>(0,Ad [(3,vL Ap a)] [])
def uV(a:List Pr)(b:List Pr)(v2:Nat):Bool×Nat→St:=fun(v3,v4)=>Ad [(0,vL Ap a),(3,vL Ap b),(4,vN v2),(5,vB v3),(6,vN v4)] []
def vD(a:List Pr)(b:List Pr)(v2:Nat):Bool→Nat×St:=fun c=>(2,Ad [(0,vL Ap a),(3,vL Ap b),(4,vN v2),(5,vB c)] [])
def Xw(a:List Pr)(b:List Pr)(v2:Nat)(v3:Bool)(v4:Nat):PT 0 (Lv (Bool×Nat) (Bool) (List Pr)):=vz (An a)<|br (decide ((v4:Int)<(a.length:Int))) (A1 v3 a (v2:Int) fun c=>A1 v3 a (v4:Int) fun d=>AP v3 (h9 Al c.key d.key) fun e=>vs (wa v4 1)<|ln (uV a b v2) ((v3&&(!decide (e=(0:Int)))),v4+1)) (Ai (vD a b v2) v3)
def NB(a:List Pr)(b:List Pr)(v2:Nat):Bool×Nat→Option (Lv (Bool×Nat) (Bool) (List Pr)):=fun(v3,v4)=>(Xw a b v2 v3 v4).m
def tX(a:List Pr)(b:List Pr)(v2:Nat):Nat→St:=fun v9=>Ad [(0,vL Ap a),(3,vL Ap b),(4,vN v2),(7,vN v9)] []
def ws(b:List Pr)(c:List Pr)(v2:Nat):Nat→Nat×St:=fun a=>(4,Ad [(0,vL Ap b),(3,vL Ap c),(4,vN v2),(7,vN a)] [])
def XG(c:List Pr)(v1:List Pr)(v2:Nat)(v9:Nat):PT 0 (Lv (Nat) (Nat) (List Pr)):=vz (An v1)<|A1 (decide ((v9:Int)<(v1.length:Int))) v1 (v9:Int) fun a=>A1 (decide ((v9:Int)<(v1.length:Int))) c (v2:Int) fun b=>AP (decide ((v9:Int)<(v1.length:Int))) (h9 Al a.key b.key) fun d=>br (decide ((v9:Int)<(v1.length:Int))&&decide (d<(0:Int))) (vs (wa v9 1)<|ln (tX c v1 v2) (v9+1)) (Ai (ws c v1 v2) v9)
def NQ(a:List Pr)(b:List Pr)(v2:Nat):Nat→Option (Lv (Nat) (Nat) (List Pr)):=fun v9=>(XG a b v2 v9).m
def X0(d:List Pr)(v2:Nat)(a:Pr)(b:List Pr)(c:List Pr):PT 0 (Lv (List Pr×Nat) (List Pr) (List Pr)):=vs (wa v2 1)<|vw (.frz 72 [(3,((c++(([a]:List Pr)++b)).map Ap))] [])<|vz (fz (c++(([a]:List Pr)++b)))<|ln (cV d) (c++(([a]:List Pr)++b),v2+1)
def TP(e:List Pr)(f:List Pr)(v2:Nat)(d:Nat)(b:Pr)(c:List Pr):PT 0 (Lv (List Pr×Nat) (List Pr) (List Pr)):=sL f .no (.nt d) fun a=>a0 a<|ar a (([b]:List Pr)++c) (1,63) 0<|vz (fl (a++(([b]:List Pr)++c)))<|lc (Ad [(0,vL Ap e),(3,.ref (1,72) 0 0 (a++(([b]:List Pr)++c)).length),(4,vN v2)] [kk 72 63 14 (Ab Ap (a++(([b]:List Pr)++c)))]) ((X0 e v2 b c a).m)
def XO(d:List Pr)(e:List Pr)(v2:Nat)(c:Nat):PT 0 (Lv (List Pr×Nat) (List Pr) (List Pr)):=ix d v2 fun a=>sL e (.nt c) .no fun b=>wg<|pZ (a:Pr) b<|vz (fl (([a]:List Pr)++b))<|lc (Ad [(0,vL Ap d),(3,vL Ap e),(4,vN v2),(7,vN c),(8,.ref (1,63) 0 0 (([a]:List Pr)++b).length)] [kk 63 63 14 (Ab Ap (([a]:List Pr)++b))]) ((TP d e v2 c a b).m)
def Zx(a:List Pr)(b:List Pr)(v2:Nat):PT 0 (Lv (List Pr×Nat) (List Pr) (List Pr)):=lc (Ad [(0,vL Ap a),(3,vL Ap b),(4,vN v2),(7,vI 0)] []) ((Am (NQ a b v2) Al 0).bind (Sum.elim (fun c=>(XO a b v2 c).m) (fun z=>some (.rt z))))
def Xv(a:List Pr)(b:List Pr)(v2:Nat):PT 0 (Lv (List Pr×Nat) (List Pr) (List Pr)):=vs (wa v2 1)<|ln (cV a) (b,v2+1)
def XP(a:List Pr)(b:List Pr)(v2:Nat):PT 0 (Lv (List Pr×Nat) (List Pr) (List Pr)):=lc (Ad [(0,vL Ap a),(3,vL Ap b),(4,vN v2)] []) ((Xv a b v2).m)
def XD(a:List Pr)(b:List Pr)(v2:Nat)(c:Bool):PT 0 (Lv (List Pr×Nat) (List Pr) (List Pr)):=lc (Ad [(0,vL Ap a),(3,vL Ap b),(4,vN v2),(38,vB c)] []) (if c=true then(Zx a b v2).m else(XP a b v2).m)
def Xh(a:List Pr)(b:List Pr)(v2:Nat):PT 0 (Lv (List Pr×Nat) (List Pr) (List Pr)):=vs (wa v2 1)<|lc (Ad [(0,vL Ap a),(3,vL Ap b),(4,vN v2),(5,vB true),(6,vN (v2+1))] []) ((Am (NB a b v2) Al (true,v2+1)).bind (Sum.elim (fun c=>(XD a b v2 c).m) (fun z=>some (.rt z))))
def WK(a:List Pr)(b:List Pr)(v2:Nat):PT 0 (Lv (List Pr×Nat) (List Pr) (List Pr)):=lc (Ad [(0,vL Ap a),(3,vL Ap b),(4,vN v2),(5,vB true)] []) ((Xh a b v2).m)
def Ww(a:List Pr)(b:List Pr)(v2:Nat):PT 0 (Lv (List Pr×Nat) (List Pr) (List Pr)):=vz (An a)<|br (decide ((v2:Int)<(a.length:Int))) (lc (Ad [(0,vL Ap a),(3,vL Ap b),(4,vN v2)] []) ((WK a b v2).m)) (Ai (u2) b)
def RD(a:List Pr):List Pr×Nat→Option (Lv (List Pr×Nat) (List Pr) (List Pr)):=fun(b,v2)=>(Ww a b v2).m
def oh(a:List Pr):PT 0 (List Pr):=lr On nG a
def mC(b:List Pr):PT 0 (List Pr):=vw (.ads 3 3 63 14)<|vw (.frz 3 [(3,(([]:List Pr).map Ap))] [])<|vz (fz ([]:List Pr))<|lc (Ad [(0,vL Ap b),(3,vL Ap ([]:List Pr)),(4,vI 0)] []) ((Am (RD b) Al (([]:List Pr),0)).bind (Sum.elim (fun a=>(oh a).m) some))
def mZ(a:List Pr):PT 0 (List Pr):=lc (Ad [(0,vL Ap a),(3,.e0),(4,vI 0)] []) ((mC a).m)
def ns(a:List Pr):PT 0 (List Pr):=lc (Ad [(0,vL Ap a),(3,.e0)] []) ((mZ a).m)
def jN(a:List Pr):Option (List Pr):=(ns a).m
theorem ZJc{C:Cx}(co:CO C 0)(a:List Pr)(b:List Pr)(v2:Nat):KL Tryz.prog (AC tl) 76 C (pa [0,0,1,0,1,0,0,1,0,0,1,0,1,1] (Az Tryz.f62)) [.tmp 2] 0 (uV a b v2) (vD a b v2) On nG (NB a b v2):=fun(v3,v4) _ hm Q c e d=>At co Aa Ae (Xw a b v2 v3 v4) (AJ [0,3,4,5,6]) (AJ [0,3,4,5]) e hm d fun r g=>⟨fun f=>fun h=>fun i=>id,id⟩
theorem ZEz{C:Cx}(co:CO C 0)(a:List Pr)(b:List Pr)(v2:Nat):KL Tryz.prog (AC tl) 76 C (pa [0,0,0,1,0,1,1,1,0,0,1,0,0,1,0,1,1] (Az Tryz.f62)) [.tmp 2] 0 (tX a b v2) (ws a b v2) On nG (NQ a b v2):=fun v9 _ hm Q c h f=>At co Aa Ae (XG a b v2 v9) (AJ [0,3,4,7]) (AJ [0,3,4,7]) h hm f fun r g=>fun d=>fun e=>fun i=>⟨id,id⟩
theorem ZHY{C:Cx}(co:CO C 0)(b:List Pr):KL Tryz.prog (AC tl) 76 C (pa [0,0,1,0,1,1] (Az Tryz.f62)) [.tmp 2] 0 (cV b) (u2) On nG (RD b):=fun(d,v2) _ hm Q j c a=>Aj co Aa Ae 1 (Ww b d v2) (AJ [0,3,4]) (AJ [3]) c hm a fun r g=>⟨fun _ hm a=>sq (bk 1 (Aj co Aa Ae 1 (WK b d v2) (AJ [0,3,4,5]) nl c hm a fun r g=>fun _ hm a=>sq (Aj co Aa Ae 1 (Xh b d v2) (AJ [0,3,4,5,6]) nl c hm a fun r g=>fun _ hm a=>bk 2 (lo (Eu (ZJc co b d v2) c hm a (fun k hm=>Aj co Aa Ae 1 (XD b d v2 k) (AJ [0,3,4,38]) nl c hm a fun r g=>fun _ hm a=>cd k hm (fun hm=>Aj co Aa Ae 1 (Zx b d v2) (AJ [0,3,4,7]) nl c hm a fun r g=>fun _ hm a=>sq (bk 4 (lo (Eu (ZEz co b d v2) c hm a (fun h hm=>sq (Fp co Aa Ae (.fst 0 (.fst 1 (.fst 2 (.fst 5 (.fst 6 (.fst 7 (.fst 3 (.fst 4 (.fst 8 (.fst 9 .nil)))))))))) [] (XO b d v2 h) (Ac [0,3,4,7,8] [((1,63),true)]) hm a fun r g=>fun e=>fun f=>fun _ hm a=>At co Aa Ae (TP b d v2 h e f) (Ac [0,3,4] [((1,72),true)]) nl c hm a fun r g=>fun i=>fun _ hm a=>At co Aa Ae (X0 b v2 e f i) (AJ [0,3,4]) nl c hm a fun r g=>id)))))) (fun hm=>At co Aa Ae (XP b d v2) (AJ [0,3,4]) nl c hm a fun r g=>fun _ hm a=>At co Aa Ae (Xv b d v2) (AJ [0,3,4]) nl c hm a fun r g=>id))))))),id⟩
theorem ZVA(b:List Pr):KC Tryz.prog 62 [vL Ap b] (jN b) On:=AF Tryz.func62 Tryz.ntmps62 Aa [.tmp 2] fun C co y hm d a=>Aj co Aa Ae 2 (ns b) (AJ [0,3]) nl nH hm a fun r g=>fun _ hm a=>sq (Aj co Aa Ae 1 (mZ b) (AJ [0,3,4]) nl nH hm a fun r g=>fun _ hm a=>bk 0 (IC co (mC b) (AJ [0,3,4]) hm a fun r g=>fun _ hm a=>lo (AH (ZHY co b) nH hm a (fun c hm=>Ax co Aa Ae (oh c) hm a fun r g=>id))))
abbrev DR:Val→AV:=fun y=>.agg ((Ag y).map .d)
abbrev KD:List (Af×Bool):=[((1,6),false),((1,7),false),((1,9),false),((1,11),false),((1,1095),true)]
abbrev Uu:List (Af×Bool):=[((1,6),false),((1,7),false),((1,9),false),((1,1095),true)]
abbrev IB:List (Af×Bool):=[((1,6),false),((1,9),false),((1,1095),true)]
abbrev xS:List (Af×Bool):=[((1,3),false),((1,5),false),((1,6),false),((1,7),false),((1,9),false)]
abbrev CQ:Af×Blk:=kk 6 33 7 [vI 0,.d (.int .u64 0),vS ⟨#[]⟩,.e0,.e0,.e0,.e0]
abbrev Ga(a:Msg×Bool):Af×Blk:=kk 7 45 5 (cD (AR a.1))
abbrev Hx(a:List Slt):Af×Blk:=kk 1095 61 8 (Ab Aq a)
abbrev Mk(a:Fld):Af×Blk:=kk 11 51 16 (cD (AB a))
abbrev Pb(b:List Slt)(a:List Raw):Af×Blk:=kk 9 33 7 [vI 10,.d (.int .u64 0),vS ⟨#[]⟩,.e0,.e0,.ref (1,1095) 0 0 b.length,vL Av a]
abbrev UO(a:List Slt):Af×Blk:=kk 9 33 7 [vI 10,.d (.int .u64 0),vS ⟨#[]⟩,.e0,.e0,.ref (1,1095) 0 0 a.length,.e0]
abbrev Ui(a:List Slt):Af×Blk:=kk 1095 61 8 (Ab Aq a)
abbrev g7(a:List Slt):Af×Blk:=kk 9 33 7 [vI 10,.d (.int .u64 0),vS ⟨#[]⟩,.e0,.e0,.ref (1,1095) 0 0 a.length,.e0]
abbrev x7(a:List Slt):Af×Blk:=kk 9 33 7 [vI 10,.d (.int .u64 0),vS ⟨#[]⟩,.e0,.e0,.ref (1,1095) 0 0 a.length,.e0]
abbrev xN(a:Scm):Af×Blk:=kk 3 26 3 (cD (Au a))
abbrev yz(a:Val):Af×Blk:=kk 5 33 7 (cD (Ag a))
abbrev ya:Af×Blk:=kk 9 33 7 [vI 10,.d (.int .u64 0),vS ⟨#[]⟩,.e0,.e0,.e0,.e0]
def ZSx:Pl:=(.opt [1,12] 1 (.fst 12 (.fst 13 (.fst 14 (.fst 15 (.fst 16 (.fst 17 .nil)))))) (.opt [1,12] 12 (.fst 13 (.fst 1 (.fst 14 (.fst 15 (.fst 16 (.fst 17 .nil)))))) .nil))
def ZR6:Pl:=(.opt [3,12] 3 (.fst 12 (.fst 13 (.fst 14 (.fst 15 (.fst 16 (.fst 17 .nil)))))) (.opt [3,12] 12 (.fst 3 (.fst 13 (.fst 14 (.fst 15 (.fst 16 (.fst 17 .nil)))))) .nil))
def ZS4:Pl:=(.opt [1,3,12] 1 ZR6 (.opt [1,3,12] 3 ZSx (.opt [1,3,12] 12 (.fst 1 (.fst 3 (.fst 13 (.fst 14 (.fst 15 (.fst 16 (.fst 17 .nil))))))) .nil)))
abbrev L0:Val→AV:=fun y=>.agg ((Ag y).map .d)
def uJ(b:Scm)(c:Val)(d:Msg×Bool):Nat×List Slt→St:=fun(v2,a)=>Ad [(3,.iptr (Au b) 0),(5,.iptr (Ag c) 0),pp 6,pp 7,pp 9,(10,vN v2)] [CQ,(Ga d),(g7 a),kk 1095 61 8 (Ab Aq a)]
def vE(b:Val):List Slt→Nat×St:=fun a=>(0,Ad [(5,.iptr (Ag b) 0),pp 6,pp 9] [CQ,(x7 a),(Hx a)])
def cH(c:Scm)(d:Val)(f:Msg×Bool)(v2:Nat)(b:Fld):Nat×List Slt→St:=fun(e,a)=>Ad [(3,.iptr (Au c) 0),(5,.iptr (Ag d) 0),pp 6,pp 7,pp 9,(10,vN v2),pp 11,(12,vN e)] [CQ,(Ga f),(UO a),(Mk b),(Ui a)]
def v6(b:Scm)(c:Val)(d:Msg×Bool)(v2:Nat):List Slt→Nat×St:=fun a=>(2,Ad [(3,.iptr (Au b) 0),(5,.iptr (Ag c) 0),pp 6,pp 7,pp 9,(10,vN v2)] [CQ,(Ga d),kk 9 33 7 [vI 10,.d (.int .u64 0),vS ⟨#[]⟩,.e0,.e0,.ref (1,1095) 0 0 a.length,.e0],kk 1095 61 8 (Ab Aq a)])
def XJ(e:Scm)(f:Val)(g:Msg×Bool)(v2:Nat)(b:Fld)(d:Nat)(c:List Slt)(a:Val):PT 0 (Lv (Nat×List Slt) (List Slt) (Val)):=vs (wa d 1)<|vz (fl (c++([(.mk b.num a:Slt)])))<|ln (cH e f g v2 b) (d+1,c++([(.mk b.num a:Slt)]))
def JO(d:Scm)(e:Val)(g:Msg×Bool)(v2:Nat)(b:Fld)(f:Nat)(c:List Slt)(a:Val):PT 0 (Lv (Nat×List Slt) (List Slt) (Val)):=vz (fl (c++([(.mk b.num a:Slt)])))<|lc (Ad [(3,.iptr (Au d) 0),(5,.iptr (Ag e) 0),pp 6,pp 7,pp 9,(10,vN v2),pp 11,(12,vN f)] [CQ,(Ga g),kk 9 33 7 [vI 10,.d (.int .u64 0),vS ⟨#[]⟩,.e0,.e0,.ref (1,1095) 0 0 (c++([(.mk b.num a:Slt)])).length,.e0],(Mk b),kk 1095 61 8 (Ab Aq (c++([(.mk b.num a:Slt)])))]) ((XJ d e g v2 b f c a).m)
def TG(d:Scm)(g:Val)(e:Scm→Fld→Val→Option (Val))(i:Msg×Bool)(v2:Nat)(c:Fld)(h:Nat)(f:List Slt)(b:Slt):PT 0 (Lv (Nat×List Slt) (List Slt) (Val)):=tw (wg<|cs Tryz.prog 43 [.agg ((Au d).map .d),.agg ((AB c).map .d),.agg ((Ag b.val).map .d)] [] [] (e d c b.val) (fun y=>.agg ((Ag y).map .d)) fun a=>vw .sep<|ap f ((.mk c.num a:Slt):Slt)<|wg<|(JO d g i v2 c h f a)) (cs Tryz.prog 43 [.agg ((Au d).map .d),.agg ((AB c).map .d),.agg ((Ag b.val).map .d)] [] [] (e d c b.val) (fun y=>.agg ((Ag y).map .d)) fun a=>wg<|vw .sep<|ap f ((.mk c.num a:Slt):Slt)<|wg<|(JO d g i v2 c h f a))
def TZ(d:Scm)(g:Val)(e:Scm→Fld→Val→Option (Val))(i:Msg×Bool)(v2:Nat)(c:Fld)(h:Nat)(f:List Slt)(b:Slt):PT 0 (Lv (Nat×List Slt) (List Slt) (Val)):=tw (wg<|cs Tryz.prog 43 [.agg ((Au d).map .d),.agg ((AB c).map .d),.agg ((Ag b.val).map .d)] [] [] (e d c b.val) (fun y=>.agg ((Ag y).map .d)) fun a=>vw .sep<|ap f ((.mk c.num a:Slt):Slt)<|wg<|(JO d g i v2 c h f a)) (cs Tryz.prog 43 [.agg ((Au d).map .d),.agg ((AB c).map .d),.agg ((Ag b.val).map .d)] [] [] (e d c b.val) (fun y=>.agg ((Ag y).map .d)) fun a=>wg<|vw .sep<|ap f ((.mk c.num a:Slt):Slt)<|wg<|(JO d g i v2 c h f a))
def X4(d:Scm)(g:Val)(b:Scm→Fld→Val→Option (Val))(i:Msg×Bool)(v2:Nat)(c:Fld)(h:Nat)(f:List Slt)(a:Slt):PT 0 (Lv (Nat×List Slt) (List Slt) (Val)):=tw (wg<|(TG d g b i v2 c h f a)) (tw (wg<|(TZ d g b i v2 c h f a)) (cs Tryz.prog 43 [.agg ((Au d).map .d),.agg ((AB c).map .d),.agg ((Ag a.val).map .d)] [] [] (b d c a.val) (fun y=>.agg ((Ag y).map .d)) fun e=>wg<|wg<|vw .sep<|ap f ((.mk c.num e:Slt):Slt)<|wg<|(JO d g i v2 c h f e)))
def XE(f:Scm)(c:Val)(a:Scm→Fld→Val→Option (Val))(h:Msg×Bool)(v2:Nat)(e:Fld)(d:Nat)(g:List Slt):PT 0 (Lv (Nat×List Slt) (List Slt) (Val)):=ix c.slots d fun b=>wg<|(X4 f c a h v2 e d g b)
def WA(d:Scm)(e:Val)(f:Msg×Bool)(v2:Nat)(c:Fld)(b:Nat)(a:List Slt):PT 0 (Lv (Nat×List Slt) (List Slt) (Val)):=vs (wa b 1)<|vz (fl a)<|ln (cH d e f v2 c) (b+1,a)
def W4(c:Scm)(d:Val)(f:Msg×Bool)(v2:Nat)(b:Fld)(e:Nat)(a:List Slt):PT 0 (Lv (Nat×List Slt) (List Slt) (Val)):=vz (fl a)<|lc (Ad [(3,.iptr (Au c) 0),(5,.iptr (Ag d) 0),pp 6,pp 7,pp 9,(10,vN v2),pp 11,(12,vN e)] [CQ,(Ga f),(UO a),(Mk b),(Ui a)]) ((WA c d f v2 b e a).m)
def W7(g:Scm)(b:Val)(f:Scm→Fld→Val→Option (Val))(h:Msg×Bool)(v2:Nat)(a:Fld)(d:Nat)(c:List Slt):PT 0 (Lv (Nat×List Slt) (List Slt) (Val)):=ix b.slots d fun e=>wg<|wg<|A1 (decide (e.num=a.num)) b.slots (d:Int) fun j=>AP (decide (e.num=a.num)) (ZU1 a j.val) fun i=>vz (fl c)<|lc (Ad [(3,.iptr (Au g) 0),(5,.iptr (Ag b) 0),pp 6,pp 7,pp 9,(10,vN v2),pp 11,(12,vN d),(61,vB (decide (e.num=a.num)&&(!i)))] [CQ,(Ga h),(UO c),(Mk a),(Ui c)]) (if(decide (e.num=a.num)&&(!i))=true then(XE g b f h v2 a d c).m else(W4 g b h v2 a d c).m)
def Xm(d:Scm)(b:Val)(c:Scm→Fld→Val→Option (Val))(f:Msg×Bool)(v2:Nat)(g:Fld)(e:Nat)(a:List Slt):PT 0 (Lv (Nat×List Slt) (List Slt) (Val)):=vz (An b.slots)<|br (decide ((e:Int)<(b.slots.length:Int))) (vz (fl a)<|lc (Ad [(3,.iptr (Au d) 0),(5,.iptr (Ag b) 0),pp 6,pp 7,pp 9,(10,vN v2),pp 11,(12,vN e)] [CQ,(Ga f),(UO a),(Mk g),(Ui a)]) ((W7 d b c f v2 g e a).m)) (vz (fl a)<|Ai (v6 d b f v2) a)
def RB(c:Scm)(d:Val)(a:Scm→Fld→Val→Option (Val))(g:Msg×Bool)(v2:Nat)(b:Fld):Nat×List Slt→Option (Lv (Nat×List Slt) (List Slt) (Val)):=fun(f,e)=>(Xm c d a g v2 b f e).m
def WZ(b:Scm)(c:Val)(d:Msg×Bool)(v2:Nat)(a:List Slt):PT 0 (Lv (Nat×List Slt) (List Slt) (Val)):=vs (wa v2 1)<|vz (fl a)<|ln (uJ b c d) (v2+1,a)
def Wz(d:Scm)(e:Val)(c:Scm→Fld→Val→Option (Val))(b:Msg×Bool)(v2:Nat)(a:List Slt):PT 0 (Lv (Nat×List Slt) (List Slt) (Val)):=wg<|ix b.1.fields v2 fun g=>wg<|vz (fl a)<|lc (Ad [(3,.iptr (Au d) 0),(5,.iptr (Ag e) 0),pp 6,pp 7,pp 9,(10,vN v2),pp 11,(12,vI 0)] [CQ,(Ga b),(g7 a),(Mk g),kk 1095 61 8 (Ab Aq a)]) ((Am (RB d e c b v2 g) Al (0,a)).bind (Sum.elim (fun f=>(WZ d e b v2 f).m) (fun z=>some (.rt z))))
def WI(e:Scm)(d:Val)(c:Scm→Fld→Val→Option (Val))(b:Msg×Bool)(v2:Nat)(a:List Slt):PT 0 (Lv (Nat×List Slt) (List Slt) (Val)):=wg<|vz (An b.1.fields)<|br (decide ((v2:Int)<(b.1.fields.length:Int))) (vz (fl a)<|lc (Ad [(3,.iptr (Au e) 0),(5,.iptr (Ag d) 0),pp 6,pp 7,pp 9,(10,vN v2)] [CQ,(Ga b),(g7 a),kk 1095 61 8 (Ab Aq a)]) ((Wz e d c b v2 a).m)) (vz (fl a)<|Ai (vE d) a)
def R2(b:Scm)(c:Val)(a:Scm→Fld→Val→Option (Val))(e:Msg×Bool):Nat×List Slt→Option (Lv (Nat×List Slt) (List Slt) (Val)):=fun(v2,d)=>(WI b c a e v2 d).m
def vW(d:Val)(a:List Slt):Nat×List Raw→St:=fun(c,b)=>Ad [(5,.iptr (Ag d) 0),pp 6,pp 9,(13,vN c)] [CQ,(Pb a b),(Hx a)]
def wB(a:List Slt):List Raw→Nat×St:=fun b=>(4,Ad [pp 6,pp 9] [CQ,kk 9 33 7 [vI 10,.d (.int .u64 0),vS ⟨#[]⟩,.e0,.e0,.ref (1,1095) 0 0 a.length,vL Av b],(Hx a)])
def wS(e:Val)(a:List Slt)(c:Nat)(b:List Raw):Int→St:=fun d=>Ad [(5,.iptr (Ag e) 0),pp 6,pp 9,(13,vN c),(14,vI d)] [CQ,(Pb a b),(Hx a)]
def wy(e:Val)(a:List Slt)(c:Nat)(b:List Raw):Int→Nat×St:=fun d=>(6,Ad [(5,.iptr (Ag e) 0),pp 6,pp 9,(13,vN c),(14,vI d)] [CQ,(Pb a b),(Hx a)])
def W2(g:Val)(b:List Slt)(d:Nat)(c:List Raw)(a:Int):PT 0 (Lv (Int) (Int) (Val)):=wg<|vg (decide ((0:Int)<a)) (wi (a-1))<|A1 (decide ((0:Int)<a)) c (a-1) fun e=>A1 (decide ((0:Int)<a)) g.raws (d:Int) fun f=>br (decide ((0:Int)<a)&&decide (f.num<e.num)) (vs (wi (a-1))<|vz (fl b)<|ln (wS g b d c) (a-1)) (vz (fl b)<|Ai (wy g b d c) a)
def R1(f:Val)(e:Scm→Fld→Val→Option (Val))(b:List Slt)(c:Nat)(a:List Raw):Int→Option (Lv (Int) (Int) (Val)):=fun d=>(W2 f b c a d).m
def Xq(f:Val)(d:List Slt)(e:Nat)(b:List Raw)(a:Raw)(c:List Raw):PT 0 (Lv (Nat×List Raw) (List Raw) (Val)):=vs (wa e 1)<|vw (.frz 114 [] [((1,9),6,(((b++[a])++c).map Av))])<|vz (fz ((b++[a])++c))<|vz (fl d)<|ln (vW f d) (e+1,(b++[a])++c)
def Xb(h:Val)(d:List Slt)(e:Nat)(f:List Raw)(g:Int):PT 0 (Lv (Nat×List Raw) (List Raw) (Val)):=wg<|sL f .no (.it g) fun a=>a0 a<|ix h.raws e fun b=>vw .sep<|ap a (b:Raw)<|wg<|sL f (.it g) .no fun c=>aq (a++[b]) c<|wg<|vz (fl ((a++[b])++c))<|vz (fl d)<|lc (Ad [(5,.iptr (Ag h) 0),pp 6,pp 9,(13,vN e)] [CQ,kk 9 33 7 [vI 10,.d (.int .u64 0),vS ⟨#[]⟩,.e0,.e0,.ref (1,1095) 0 0 d.length,.ref (1,114) 0 0 ((a++[b])++c).length],kk 114 65 4 (Ab Av ((a++[b])++c)),(Hx d)]) ((Xq h d e a b c).m)
def WE(e:Val)(d:Scm→Fld→Val→Option (Val))(b:List Slt)(c:Nat)(a:List Raw):PT 0 (Lv (Nat×List Raw) (List Raw) (Val)):=wg<|vz (An a)<|vz (fl b)<|lc (Ad [(5,.iptr (Ag e) 0),pp 6,pp 9,(13,vN c),(14,vN a.length)] [CQ,(Pb b a),(Hx b)]) ((Am (R1 e d b c a) Al (a.length:Int)).bind (Sum.elim (fun f=>(Xb e b c a f).m) (fun z=>some (.rt z))))
def WO(d:Val)(e:Scm→Fld→Val→Option (Val))(a:List Slt)(c:Nat)(b:List Raw):PT 0 (Lv (Nat×List Raw) (List Raw) (Val)):=vz (An d.raws)<|br (decide ((c:Int)<(d.raws.length:Int))) (vz (fl a)<|lc (Ad [(5,.iptr (Ag d) 0),pp 6,pp 9,(13,vN c)] [CQ,(Pb a b),(Hx a)]) ((WE d e a c b).m)) (vz (fl a)<|Ai (wB a) b)
def NI(e:Val)(a:Scm→Fld→Val→Option (Val))(c:List Slt):Nat×List Raw→Option (Lv (Nat×List Raw) (List Raw) (Val)):=fun(d,b)=>(WO e a c d b).m
def oF(a:List Slt)(b:List Raw):PT 0 (Val):=wg<|wg<|vz (fr a)<|lr L0 nG (.mk 10 0 ⟨#[]⟩ [] [] a b:Val)
def pL(d:Val)(b:Scm→Fld→Val→Option (Val))(a:List Slt):PT 0 (Val):=vw (.adc (1,9) 6 1096 65 4)<|vw (.frz 1096 [] [((1,9),6,(([]:List Raw).map Av))])<|vz (fz ([]:List Raw))<|vz (fl a)<|lc (Ad [(5,.iptr (Ag d) 0),pp 6,pp 9,(13,vI 0)] [CQ,kk 9 33 7 [vI 10,.d (.int .u64 0),vS ⟨#[]⟩,.e0,.e0,.ref (1,1095) 0 0 a.length,vL Av ([]:List Raw)],(Hx a)]) ((Am (NI d b a) Al (0,([]:List Raw))).bind (Sum.elim (fun c=>(oF a c).m) some))
def mI(c:Val)(b:Scm→Fld→Val→Option (Val))(a:List Slt):PT 0 (Val):=vz (fl a)<|lc (Ad [(5,.iptr (Ag c) 0),pp 6,pp 9,(13,vI 0)] [CQ,(x7 a),(Hx a)]) ((pL c b a).m)
def pz(d:Scm)(b:Val)(a:Scm→Fld→Val→Option (Val))(e:Msg×Bool):PT 0 (Val):=vw (.adc (1,9) 5 1095 61 8)<|vw (.fzb 3 [3])<|vw (.fzb 5 [5])<|vz (fl ([]:List Slt))<|lc (Ad [(3,.iptr (Au d) 0),(5,.iptr (Ag b) 0),pp 6,pp 7,pp 9,(10,vI 0)] [CQ,(Ga e),kk 9 33 7 [vI 10,.d (.int .u64 0),vS ⟨#[]⟩,.e0,.e0,.ref (1,1095) 0 0 ([]:List Slt).length,.e0],kk 1095 61 8 (Ab Aq ([]:List Slt))]) ((Am (R2 d b a e) Al (0,([]:List Slt))).bind (Sum.elim (fun c=>(mI b a c).m) some))
def nf(b:Scm)(c:Val)(a:Scm→Fld→Val→Option (Val))(d:Msg×Bool):PT 0 (Val):=lc (Ad [pp 3,pp 5,pp 6,pp 7,pp 9,(10,vI 0)] [(xN b),(yz c),CQ,(Ga d),ya]) ((pz b c a d).m)
def pA(b:Scm)(e:ByteArray)(c:Val)(a:Scm→Fld→Val→Option (Val)):PT 0 (Val):=wg<|cl (iz b e) fun d=>wg<|wg<|lc (Ad [pp 3,pp 5,pp 6,pp 7,pp 9] [(xN b),(yz c),CQ,(Ga d),ya]) ((nf b c a d).m)
def PC(a:Scm→Fld→Val→Option (Val))(b:Scm)(c:ByteArray)(d:Val):Option (Val):=(pA b c d a).m
theorem ZJp{C:Cx}(co:CO C 0)(b:Scm)(f:Val)(e:Scm→Fld→Val→Option (Val))(j:Msg×Bool)(v2:Nat)(c:Fld)(i:∀(b:Scm) (v:Fld) (f:Val),KC Tryz.prog 43 [.agg ((Au b).map .d),.agg ((AB v).map .d),.agg ((Ag f).map .d)] (e b v f) DR):KL Tryz.prog (AC tl) 132 C (pa [0,0,1,1,0,0,1,0,0,1,0,1,1,1] (Az Tryz.f17)) [.cell 6 33] 0 (cH b f j v2 c) (v6 b f j v2) L0 nG (RB b f e j v2 c):=fun(m,l) _ hm Q u p k=>Aj co Aa Ae 1 (Xm b f e j v2 c m l) (Ac [3,5,6,7,9,10,11,12] KD) (Ac [3,5,6,7,9,10] Uu) p hm k fun r g=>⟨fun _ hm k=>sq (bk 3 (Aj co Aa Ae 1 (W7 b f e j v2 c m l) (Ac [3,5,6,7,9,10,11,12,61] KD) nl p hm k fun r g=>fun w=>fun z=>fun x=>fun _ hm k=>cd (decide (w.num=c.num)&&(!x)) hm (fun hm=>Fp co Aa Ae (.fst 0 (.fst 2 (.fst 4 (.fst 6 (.fst 7 (.fst 8 (.fst 9 (.fst 10 (.fst 5 (.fst 11 ZS4)))))))))) [3,5] (XE b f e j v2 c m l) (Ac [3,5,6,7,9,10,11,12] KD) hm k fun r g=>ZN (fun(o:∀(d:Val),PT.n (JO b f j v2 c m l d) _)=>ZN (fun(q:∀(a:Slt),PT.n (TG b f e j v2 c m l a) _)=>ZN (fun(s:∀(a:Slt),PT.n (TZ b f e j v2 c m l a) _)=>ZN (fun(t:∀(a:Slt),PT.n (X4 b f e j v2 c m l a) _)=>fun a=>(t a)) (fun a=>⟨(q a),⟨(s a),⟨fun y hy n _ _=>by rw[(i b c a.val).x,(i b c a.val).e];exact(i b c a.val).k _ n y hy,fun d=>(o d)⟩,fun _ h=>h⟩,fun _ h=>h⟩)) (fun a=>⟨⟨fun y hy n _ _=>by rw[(i b c a.val).x,(i b c a.val).e];exact(i b c a.val).k _ n y hy,fun d=>(o d)⟩,⟨fun y hy n _ _=>by rw[(i b c a.val).x,(i b c a.val).e];exact(i b c a.val).k _ n y hy,fun d=>(o d)⟩,fun _ h=>h⟩)) (fun a=>⟨⟨fun y hy n _ _=>by rw[(i b c a.val).x,(i b c a.val).e];exact(i b c a.val).k _ n y hy,fun d=>(o d)⟩,⟨fun y hy n _ _=>by rw[(i b c a.val).x,(i b c a.val).e];exact(i b c a.val).k _ n y hy,fun d=>(o d)⟩,fun _ h=>h⟩)) (fun d=>fun _ hm k=>At co Aa Ae (XJ b f j v2 c m l d) (Ac [3,5,6,7,9,10,11,12] KD) nl p hm k fun r g=>id)) (fun hm=>At co Aa Ae (W4 b f j v2 c m l) (Ac [3,5,6,7,9,10,11,12] KD) nl p hm k fun r g=>fun _ hm k=>At co Aa Ae (WA b f j v2 c m l) (Ac [3,5,6,7,9,10,11,12] KD) nl p hm k fun r g=>id))),id⟩
theorem ZKY{C:Cx}(co:CO C 0)(c:Scm)(b:Val)(a:Scm→Fld→Val→Option (Val))(e:Msg×Bool)(m:∀(c:Scm) (j:Fld) (b:Val),KC Tryz.prog 43 [.agg ((Au c).map .d),.agg ((AB j).map .d),.agg ((Ag b).map .d)] (a c j b) DR):KL Tryz.prog (AC tl) 132 C (pa [0,0,1,0,1,1,1] (Az Tryz.f17)) [.cell 6 33] 0 (uJ c b e) (vE b) L0 nG (R2 c b a e):=fun(v2,k) _ hm Q i f d=>Aj co Aa Ae 1 (WI c b a e v2 k) (Ac [3,5,6,7,9,10] Uu) (Ac [5,6,9] IB) f hm d fun r g=>⟨fun _ hm d=>sq (bk 1 (Aj co Aa Ae 2 (Wz c b a e v2 k) (Ac [3,5,6,7,9,10,11,12] KD) nl f hm d fun r g=>fun l=>fun _ hm d=>bk 2 (lo (Eu (ZJp co c b a e v2 l m) f hm d (fun h hm=>At co Aa Ae (WZ c b e v2 h) (Ac [3,5,6,7,9,10] Uu) nl f hm d fun r g=>id))))),id⟩
theorem ZK2{C:Cx}(co:CO C 0)(d:Val)(e:Scm→Fld→Val→Option (Val))(b:List Slt)(c:Nat)(a:List Raw)(o:∀(i:Scm) (j:Fld) (d:Val),KC Tryz.prog 43 [.agg ((Au i).map .d),.agg ((AB j).map .d),.agg ((Ag d).map .d)] (e i j d) DR):KL Tryz.prog (AC tl) 132 C (pa [0,0,0,1,0,0,1,0,0,1,0,1,1,1,1] (Az Tryz.f17)) [.cell 6 33] 0 (wS d b c a) (wy d b c a) L0 nG (R1 d e b c a):=fun f _ hm Q h n m=>At co Aa Ae (W2 d b c a f) (Ac [5,6,9,13,14] IB) (Ac [5,6,9,13,14] IB) n hm m fun r g=>fun k=>fun l=>⟨id,id⟩
theorem ZI0{C:Cx}(co:CO C 0)(d:Val)(b:Scm→Fld→Val→Option (Val))(a:List Slt)(p:∀(n:Scm) (o:Fld) (d:Val),KC Tryz.prog 43 [.agg ((Au n).map .d),.agg ((AB o).map .d),.agg ((Ag d).map .d)] (b n o d) DR):KL Tryz.prog (AC tl) 132 C (pa [0,0,1,0,1,1,1,1] (Az Tryz.f17)) [.cell 6 33] 0 (vW d a) (wB a) L0 nG (NI d b a):=fun(c,e) _ hm Q m h f=>Aj co Aa Ae 1 (WO d b a c e) (Ac [5,6,9,13] IB) (Ac [6,9] IB) h hm f fun r g=>⟨fun _ hm f=>sq (bk 5 (Aj co Aa Ae 1 (WE d b a c e) (Ac [5,6,9,13,14] IB) nl h hm f fun r g=>fun _ hm f=>sq (bk 6 (lo (Eu (ZK2 co d b a c e p) h hm f (fun l hm=>At co Aa Ae (Xb d a c e l) (Ac [5,6,9,13] [((1,6),false),((1,9),false),((1,114),true),((1,1095),true)]) nl h hm f fun r g=>fun j=>fun i=>fun k=>fun _ hm f=>At co Aa Ae (Xq d a c j i k) (Ac [5,6,9,13] IB) nl h hm f fun r g=>id)))))),id⟩
theorem UH(a:Scm→Fld→Val→Option (Val))(k:∀(d:Scm) (f:Fld) (c:Val),KC Tryz.prog 43 [.agg ((Au d).map .d),.agg ((AB f).map .d),.agg ((Ag c).map .d)] (a d f c) DR)(d:Scm)(f:ByteArray)(c:Val):KC Tryz.prog 17 [.agg ((Au d).map .d),vS f,.agg ((Ag c).map .d)] (PC a d f c) L0:=AF Tryz.func17 Tryz.ntmps17 Aa [.cell 6 33] fun C co y hm j b=>Aj co Aa Ae 3 (pA d f c a) (Ac [3,5,6,7,9] xS) nl nH hm b fun r g=>fun i=>fun _ hm b=>sq (Aj co Aa Ae 1 (nf d c a i) (Ac [3,5,6,7,9,10] xS) nl nH hm b fun r g=>fun _ hm b=>bk 0 (IC co (pz d c a i) (Ac [3,5,6,7,9,10] Uu) hm b fun r g=>fun _ hm b=>lo (AH (ZKY co d c a i k) nH hm b (fun e hm=>sq (Aj co Aa Ae 1 (mI c a e) (Ac [5,6,9,13] IB) nl nH hm b fun r g=>fun _ hm b=>bk 4 (IC co (pL c a e) (Ac [5,6,9,13] IB) hm b fun r g=>fun _ hm b=>lo (AH (ZI0 co c a e k) nH hm b (fun h hm=>Ax co Aa Ae (oF e h) hm b fun r g=>id))))))))
abbrev ZV:Val→AV:=fun y=>.agg ((Ag y).map .d)
def cm(d:Scm)(b:Typ)(c:Val)(a:Scm→Fld→Val→Option (Val)):PT 0 (Val):=wg<|br (decide (b.kind=(10:Int))) (wg<|wg<|wg<|cs Tryz.prog 17 [.agg ((Au d).map .d),vS b.name,.agg ((Ag c).map .d)] [] [] (PC a d b.name c) (fun y=>.agg ((Ag y).map .d)) fun e=>wg<|lr ZV nG e) (wg<|cl (hU c) fun f=>wg<|lr ZV nG f)
def KV(a:Scm→Fld→Val→Option (Val))(b:Scm)(c:Typ)(d:Val):Option (Val):=(cm b c d a).m
theorem F7(a:Scm→Fld→Val→Option (Val))(e:∀(b:Scm) (c:Fld) (d:Val),KC Tryz.prog 43 [.agg ((Au b).map .d),.agg ((AB c).map .d),.agg ((Ag d).map .d)] (a b c d) DR)(b:Scm)(c:Typ)(d:Val):KC Tryz.prog 79 [.agg ((Au b).map .d),.agg ((Hw c).map .d),.agg ((Ag d).map .d)] (KV a b c d) ZV:=AF Tryz.func79 Tryz.ntmps79 Aa [.cell 6 33] fun C co y hm f i=>Ax co Aa Ae (cm b c d a) hm i fun r g=>⟨⟨fun y hy h _ _=>by rw[(UH a e b c.name d).x,(UH a e b c.name d).e];exact(UH a e b c.name d).k _ h y hy,fun j=>id⟩,fun k=>id⟩
abbrev Mj:List (Af×Bool):=[((1,6),false),((1,7),false),((1,1073),true)]
abbrev Pd:List (Af×Bool):=[((1,6),false),((1,9),true)]
abbrev Ks:List (Af×Bool):=[((1,3),false),((1,4),false),((1,5),false),((1,6),false)]
abbrev x1:List (Af×Bool):=[((1,3),false),((1,4),false),((1,5),false),((1,6),false),((1,7),false)]
abbrev Dc:Af×Blk:=kk 6 33 7 [vI 0,.d (.int .u64 0),vS ⟨#[]⟩,.e0,.e0,.e0,.e0]
abbrev IE(a:Scm):Af×Blk:=kk 3 26 3 (cD (Au a))
abbrev IJ(a:Fld):Af×Blk:=kk 4 51 16 (cD (AB a))
abbrev IG(a:Val):Af×Blk:=kk 5 33 7 (cD (Ag a))
abbrev wz(a:List Val):Af×Blk:=kk 7 33 7 [vI 11,.d (.int .u64 0),vS ⟨#[]⟩,.ref (1,1073) 0 0 a.length,.e0,.e0,.e0]
abbrev wP(a:List Val)(b:Val):Af×Blk:=kk 7 33 7 [vI 11,.d (.int .u64 0),vS ⟨#[]⟩,.ref (1,1073) 0 0 (a++[b]).length,.e0,.e0,.e0]
abbrev uw:Af×Blk:=kk 7 33 7 [vI 11,.d (.int .u64 0),vS ⟨#[]⟩,.e0,.e0,.e0,.e0]
def xu(b:Scm)(c:Fld)(d:Val):Nat×List Val→St:=fun(e,a)=>Ad [(3,.iptr (Au b) 0),(4,.iptr (AB c) 0),(5,.iptr (Ag d) 0),pp 6,pp 7,(8,vN e)] [Dc,(wz a),kk 1073 33 7 (Ab Bb a)]
def uW:List Val→Nat×St:=fun a=>(0,Ad [pp 6,pp 7] [Dc,kk 7 33 7 [vI 11,.d (.int .u64 0),vS ⟨#[]⟩,.ref (1,1073) 0 0 a.length,.e0,.e0,.e0],kk 1073 33 7 (Ab Bb a)])
def NE(d:Scm)(e:Fld)(f:Val)(b:Nat)(a:List Val)(c:Val):PT 0 (Lv (Nat×List Val) (List Val) (Val)):=vs (wa b 1)<|vz (fl (a++[c]))<|ln (xu d e f) (b+1,a++[c])
def Tu(c:Scm)(d:Fld)(f:Val)(e:Scm→Fld→Val→Option (Val))(g:Nat)(b:List Val):PT 0 (Lv (Nat×List Val) (List Val) (Val)):=ix f.list g fun h=>tw (wg<|cs Tryz.prog 79 [.agg ((Au c).map .d),.agg ((Hw d.type).map .d),.agg ((Ag h).map .d)] [] [] (KV e c d.type h) (fun y=>.agg ((Ag y).map .d)) fun a=>vw .sep<|ap b (a:Val)<|wg<|vz (fl (b++[a]))<|lc (Ad [(3,.iptr (Au c) 0),(4,.iptr (AB d) 0),(5,.iptr (Ag f) 0),pp 6,pp 7,(8,vN g)] [Dc,(wP b a),kk 1073 33 7 (Ab Bb (b++[a]))]) ((NE c d f g b a).m)) (cs Tryz.prog 79 [.agg ((Au c).map .d),.agg ((Hw d.type).map .d),.agg ((Ag h).map .d)] [] [] (KV e c d.type h) (fun y=>.agg ((Ag y).map .d)) fun a=>wg<|vw .sep<|ap b (a:Val)<|wg<|vz (fl (b++[a]))<|lc (Ad [(3,.iptr (Au c) 0),(4,.iptr (AB d) 0),(5,.iptr (Ag f) 0),pp 6,pp 7,(8,vN g)] [Dc,(wP b a),kk 1073 33 7 (Ab Bb (b++[a]))]) ((NE c d f g b a).m))
def XI(e:Scm)(f:Fld)(b:Val)(c:Scm→Fld→Val→Option (Val))(d:Nat)(a:List Val):PT 0 (Lv (Nat×List Val) (List Val) (Val)):=vz (An b.list)<|br (decide ((d:Int)<(b.list.length:Int))) (vz (fl a)<|lc (Ad [(3,.iptr (Au e) 0),(4,.iptr (AB f) 0),(5,.iptr (Ag b) 0),pp 6,pp 7,(8,vN d)] [Dc,(wz a),kk 1073 33 7 (Ab Bb a)]) ((Tu e f b c d a).m)) (vz (fl a)<|Ai (uW) a)
def R8(b:Scm)(c:Fld)(d:Val)(a:Scm→Fld→Val→Option (Val)):Nat×List Val→Option (Lv (Nat×List Val) (List Val) (Val)):=fun(f,e)=>(XI b c d a f e).m
def dh(a:List Val):PT 0 (Val):=wg<|wg<|vz (fr a)<|lr DR nG (.mk 11 0 ⟨#[]⟩ a [] [] []:Val)
def dm(b:Scm)(c:Fld)(d:Val)(a:Scm→Fld→Val→Option (Val)):PT 0 (Val):=vw (.adc (1,7) 3 1073 33 7)<|vw (.fzb 3 [3])<|vw (.fzb 4 [4])<|vw (.fzb 5 [5])<|vz (fl ([]:List Val))<|lc (Ad [(3,.iptr (Au b) 0),(4,.iptr (AB c) 0),(5,.iptr (Ag d) 0),pp 6,pp 7,(8,vI 0)] [Dc,kk 7 33 7 [vI 11,.d (.int .u64 0),vS ⟨#[]⟩,.ref (1,1073) 0 0 ([]:List Val).length,.e0,.e0,.e0],kk 1073 33 7 (Ab Bb ([]:List Val))]) ((Am (R8 b c d a) Al (0,([]:List Val))).bind (Sum.elim (fun e=>(dh e).m) some))
def gf(b:Scm)(c:Fld)(d:Val)(a:Scm→Fld→Val→Option (Val)):PT 0 (Val):=lc (Ad [pp 3,pp 4,pp 5,pp 6,pp 7,(8,vI 0)] [(IE b),(IJ c),(IG d),Dc,uw]) ((dm b c d a).m)
def gN(b:Scm)(c:Fld)(d:Val)(a:Scm→Fld→Val→Option (Val)):PT 0 (Val):=wg<|lc (Ad [pp 3,pp 4,pp 5,pp 6,pp 7] [(IE b),(IJ c),(IG d),Dc,uw]) ((gf b c d a).m)
def xD(b:Scm)(c:Fld)(d:Val):List Pr×Nat→St:=fun(a,e)=>Ad [(3,.iptr (Au b) 0),(4,.iptr (AB c) 0),(5,.iptr (Ag d) 0),pp 6,(9,.ref (1,9) 0 0 a.length),(10,vN e)] [Dc,kk 9 63 14 (Ab Ap a)]
def wA:List Pr→Nat×St:=fun a=>(2,Ad [pp 6,(9,.ref (1,9) 0 0 a.length)] [Dc,kk 9 63 14 (Ab Ap a)])
def TQ(e:Scm)(f:Fld)(g:Val)(c:List Pr)(d:Nat)(a:Val)(b:Val):PT 0 (Lv (List Pr×Nat) (List Pr) (Val)):=vs (wa d 1)<|vz (fl (c++([(.mk a b:Pr)])))<|ln (xD e f g) (c++([(.mk a b:Pr)]),d+1)
def TF(d:Scm)(e:Fld)(f:Val)(h:Scm→Fld→Val→Option (Val))(c:List Pr)(g:Nat):PT 0 (Lv (List Pr×Nat) (List Pr) (Val)):=ix f.pairs g fun j=>ix f.pairs g fun i=>du (cl (hU j.key) fun a=>cs Tryz.prog 79 [.agg ((Au d).map .d),.agg ((Hw e.type).map .d),.agg ((Ag i.val).map .d)] [] [] (KV h d e.type i.val) (fun y=>.agg ((Ag y).map .d)) fun b=>vw .sep<|ap c ((.mk a b:Pr):Pr)<|vz (fl (c++([(.mk a b:Pr)])))<|lc (Ad [(3,.iptr (Au d) 0),(4,.iptr (AB e) 0),(5,.iptr (Ag f) 0),pp 6,(9,.ref (1,9) 0 0 (c++([(.mk a b:Pr)])).length),(10,vN g)] [Dc,kk 9 63 14 (Ab Ap (c++([(.mk a b:Pr)])))]) ((TQ d e f c g a b).m))
def Xg(e:Scm)(f:Fld)(b:Val)(c:Scm→Fld→Val→Option (Val))(a:List Pr)(d:Nat):PT 0 (Lv (List Pr×Nat) (List Pr) (Val)):=vz (An b.pairs)<|br (decide ((d:Int)<(b.pairs.length:Int))) (vz (fl a)<|lc (Ad [(3,.iptr (Au e) 0),(4,.iptr (AB f) 0),(5,.iptr (Ag b) 0),pp 6,(9,.ref (1,9) 0 0 a.length),(10,vN d)] [Dc,kk 9 63 14 (Ab Ap a)]) ((TF e f b c a d).m)) (vz (fl a)<|Ai (wA) a)
def Sl(b:Scm)(c:Fld)(d:Val)(a:Scm→Fld→Val→Option (Val)):List Pr×Nat→Option (Lv (List Pr×Nat) (List Pr) (Val)):=fun(e,f)=>(Xg b c d a e f).m
def nm(a:List Pr):PT 0 (Val):=vw (.frz 9 [(9,(a.map Ap))] [])<|vz (fz a)<|vw .sep<|cl (ZVA a) fun b=>wg<|lr DR nG (.mk 12 0 ⟨#[]⟩ [] b [] []:Val)
def px(c:Scm)(d:Fld)(e:Val)(a:Scm→Fld→Val→Option (Val)):PT 0 (Val):=vw (.ads 9 9 63 14)<|vw (.fzb 3 [3])<|vw (.fzb 4 [4])<|vw (.fzb 5 [5])<|vz (fl ([]:List Pr))<|lc (Ad [(3,.iptr (Au c) 0),(4,.iptr (AB d) 0),(5,.iptr (Ag e) 0),pp 6,(9,.ref (1,9) 0 0 ([]:List Pr).length),(10,vI 0)] [Dc,kk 9 63 14 (Ab Ap ([]:List Pr))]) ((Am (Sl c d e a) Al (([]:List Pr),0)).bind (Sum.elim (fun b=>(nm b).m) some))
def pc(b:Scm)(c:Fld)(d:Val)(a:Scm→Fld→Val→Option (Val)):PT 0 (Val):=lc (Ad [pp 3,pp 4,pp 5,pp 6,(9,.e0),(10,vI 0)] [(IE b),(IJ c),(IG d),Dc]) ((px b c d a).m)
def oX(b:Scm)(c:Fld)(d:Val)(a:Scm→Fld→Val→Option (Val)):PT 0 (Val):=lc (Ad [pp 3,pp 4,pp 5,pp 6,(9,.e0)] [(IE b),(IJ c),(IG d),Dc]) ((pc b c d a).m)
def oD(c:Scm)(d:Fld)(e:Val)(a:Scm→Fld→Val→Option (Val)):PT 0 (Val):=wg<|wg<|wg<|cs Tryz.prog 79 [.agg ((Au c).map .d),.agg ((Hw d.type).map .d),.agg ((Ag e).map .d)] [] [] (KV a c d.type e) (fun y=>.agg ((Ag y).map .d)) fun b=>wg<|lr DR nG b
def pi(b:Scm)(c:Fld)(d:Val)(a:Scm→Fld→Val→Option (Val)):PT 0 (Val):=lc (Ad [pp 3,pp 4,pp 5,pp 6] [(IE b),(IJ c),(IG d),Dc]) ((oD b c d a).m)
def mQ(c:Scm)(b:Fld)(d:Val)(a:Scm→Fld→Val→Option (Val)):PT 0 (Val):=wg<|lc (Ad [pp 3,pp 4,pp 5,pp 6,(39,vB (decide (b.card=(5:Int))))] [(IE c),(IJ b),(IG d),Dc]) (if decide (b.card=(5:Int))=true then(oX c b d a).m else(pi c b d a).m)
def o6(b:Scm)(c:Fld)(d:Val)(a:Scm→Fld→Val→Option (Val)):PT 0 (Val):=lc (Ad [pp 3,pp 4,pp 5,pp 6] [(IE b),(IJ c),(IG d),Dc]) ((mQ b c d a).m)
def na(c:Scm)(b:Fld)(d:Val)(a:Scm→Fld→Val→Option (Val)):PT 0 (Val):=wg<|lc (Ad [pp 3,pp 4,pp 5,pp 6,(13,vB (decide (b.card=(4:Int))))] [(IE c),(IJ b),(IG d),Dc]) (if decide (b.card=(4:Int))=true then(gN c b d a).m else(o6 c b d a).m)
def o4(b:Scm)(c:Fld)(d:Val)(a:Scm→Fld→Val→Option (Val)):PT 0 (Val):=lc (Ad [pp 3,pp 4,pp 5,pp 6] [(IE b),(IJ c),(IG d),Dc]) ((na b c d a).m)
def Ud(a:Scm→Fld→Val→Option (Val))(b:Scm)(c:Fld)(d:Val):Option (Val):=(o4 b c d a).m
theorem ZIC{C:Cx}(co:CO C 0)(b:Scm)(c:Fld)(d:Val)(a:Scm→Fld→Val→Option (Val))(i:∀(b:Scm) (c:Fld) (d:Val),KC Tryz.prog 43 [.agg ((Au b).map .d),.agg ((AB c).map .d),.agg ((Ag d).map .d)] (a b c d) DR):KL Tryz.prog (AC tl) 76 C (pa [0,0,1,0,1,0,1,0,1] (Az Tryz.f43)) [.cell 6 33] 0 (xu b c d) (uW) DR nG (R8 b c d a):=fun(k,j) _ hm Q o m e=>Aj co Aa Ae 1 (XI b c d a k j) (Ac [3,4,5,6,7,8] Mj) (Ac [6,7] Mj) m hm e fun r g=>⟨fun _ hm e=>sq (bk 1 (Fp co Aa Ae (.fst 0 (.fst 2 (.fst 3 (.fst 4 (.fst 5 (.fst 6 (.fst 7 (.fst 8 (.fst 9 (.two 1 10 (.fst 10 (.fst 11 (.fst 12 (.fst 13 (.fst 14 .nil))))) (.fst 1 (.fst 11 (.fst 12 (.fst 13 (.fst 14 .nil))))))))))))))) [3,4,5] (Tu b c d a k j) (Ac [3,4,5,6,7,8] Mj) hm e fun r g=>fun f=>⟨⟨fun y hy l _ _=>by rw[(F7 a i b c.type f).x,(F7 a i b c.type f).e];exact(F7 a i b c.type f).k _ l y hy,fun n=>fun _ hm e=>At co Aa Ae (NE b c d k j n) (Ac [3,4,5,6,7,8] Mj) nl m hm e fun r g=>id⟩,⟨fun y hy l _ _=>by rw[(F7 a i b c.type f).x,(F7 a i b c.type f).e];exact(F7 a i b c.type f).k _ l y hy,fun n=>fun _ hm e=>At co Aa Ae (NE b c d k j n) (Ac [3,4,5,6,7,8] Mj) nl m hm e fun r g=>id⟩,fun _ h=>h⟩)),id⟩
theorem ZEk{C:Cx}(co:CO C 0)(b:Scm)(c:Fld)(d:Val)(a:Scm→Fld→Val→Option (Val))(h:∀(b:Scm) (c:Fld) (d:Val),KC Tryz.prog 43 [.agg ((Au b).map .d),.agg ((AB c).map .d),.agg ((Ag d).map .d)] (a b c d) DR):KL Tryz.prog (AC tl) 76 C (pa [0,0,1,0,1,0,1,0,1,1] (Az Tryz.f43)) [.cell 6 33] 0 (xD b c d) (wA) DR nG (Sl b c d a):=fun(i,j) _ hm Q m n e=>Aj co Aa Ae 1 (Xg b c d a i j) (Ac [3,4,5,6,9,10] Pd) (Ac [6,9] Pd) n hm e fun r g=>⟨fun _ hm e=>sq (bk 3 (Fp co Aa Ae (.fst 0 (.fst 1 (.fst 2 (.fst 3 (.fst 4 (.fst 5 (.fst 8 (.fst 9 (.fst 10 (.fst 11 (.fst 12 (.fst 13 (.fst 14 (.fst 15 (.fst 6 (.two 7 16 (.fst 16 (.fst 17 (.fst 18 (.fst 19 (.fst 20 (.fst 21 .nil)))))) (.fst 7 (.fst 17 (.fst 18 (.fst 19 (.fst 20 (.fst 21 .nil)))))))))))))))))))))) [3,4,5] (TF b c d a i j) (Ac [3,4,5,6,9,10] Pd) hm e fun r g=>fun p=>fun f=>fun k=>⟨fun y hy o _ _=>by rw[(F7 a h b c.type f.val).x,(F7 a h b c.type f.val).e];exact(F7 a h b c.type f.val).k _ o y hy,fun l=>fun _ hm e=>At co Aa Ae (TQ b c d i j k l) (Ac [3,4,5,6,9,10] Pd) nl n hm e fun r g=>id⟩)),id⟩
theorem ZSl(a:Scm→Fld→Val→Option (Val))(f:∀(d:Scm) (c:Fld) (e:Val),KC Tryz.prog 43 [.agg ((Au d).map .d),.agg ((AB c).map .d),.agg ((Ag e).map .d)] (a d c e) DR)(d:Scm)(c:Fld)(e:Val):KC Tryz.prog 43 [.agg ((Au d).map .d),.agg ((AB c).map .d),.agg ((Ag e).map .d)] (Ud a d c e) DR:=AF Tryz.func43 Tryz.ntmps43 Aa [.cell 6 33] fun C co y hm i b=>Aj co Aa Ae 1 (o4 d c e a) (Ac [3,4,5,6] Ks) nl nH hm b fun r g=>fun _ hm b=>sq (Aj co Aa Ae 1 (na d c e a) (Ac [3,4,5,6,13] Ks) nl nH hm b fun r g=>fun _ hm b=>cd (decide (c.card=(4:Int))) hm (fun hm=>Aj co Aa Ae 1 (gN d c e a) (Ac [3,4,5,6,7] x1) nl nH hm b fun r g=>fun _ hm b=>sq (Aj co Aa Ae 1 (gf d c e a) (Ac [3,4,5,6,7,8] x1) nl nH hm b fun r g=>fun _ hm b=>bk 0 (IC co (dm d c e a) (Ac [3,4,5,6,7,8] Mj) hm b fun r g=>fun _ hm b=>lo (AH (ZIC co d c e a f) nH hm b (fun k hm=>At co Aa Ae (dh k) nl nl nH hm b fun r g=>id))))) (fun hm=>At co Aa Ae (o6 d c e a) (Ac [3,4,5,6] Ks) nl nH hm b fun r g=>fun _ hm b=>sq (Aj co Aa Ae 1 (mQ d c e a) (Ac [3,4,5,6,39] Ks) nl nH hm b fun r g=>fun _ hm b=>cd (decide (c.card=(5:Int))) hm (fun hm=>Aj co Aa Ae 1 (oX d c e a) (Ac [3,4,5,6,9] Ks) nl nH hm b fun r g=>fun _ hm b=>sq (Aj co Aa Ae 1 (pc d c e a) (Ac [3,4,5,6,9,10] Ks) nl nH hm b fun r g=>fun _ hm b=>bk 2 (IC co (px d c e a) (Ac [3,4,5,6,9,10] Pd) hm b fun r g=>fun _ hm b=>lo (AH (ZEk co d c e a f) nH hm b (fun h hm=>At co Aa Ae (nm h) nl nl nH hm b fun r g=>fun l=>id))))) (fun hm=>At co Aa Ae (pi d c e a) (Ac [3,4,5,6] Ks) nl nH hm b fun r g=>fun _ hm b=>Ax co Aa Ae (oD d c e a) hm b fun r g=>⟨fun y hy j _ _=>by rw[(F7 a f d c.type e).x,(F7 a f d c.type e).e];exact(F7 a f d c.type e).k _ j y hy,fun m=>id⟩))))
def KX:Nat→Scm→Fld→Val→Option (Val)
 |0=>fun _ _ _=>none
 |a+1=>Ud (KX a)
theorem yi:∀(d:Nat) (a:Scm) (b:Fld) (c:Val),KC Tryz.prog 43 [.agg ((Au a).map .d),.agg ((AB b).map .d),.agg ((Ag c).map .d)] (KX d a b c) DR
 |0,a,b,c=>⟨fun _ _ _ h=>(by cases h),by intro r;kernel_rfl,by intro r y;kernel_rfl⟩
 |d+1,a,b,c=>ZSl (KX d) (yi d) a b c
abbrev E7:Bool→AV:=fun y=>vB y
def g0(c:Scm)(d:ByteArray)(a:Val):PT 0 (Bool):=wg<|wg<|cl (ZVK c d a) fun b=>wg<|wg<|wg<|AP (decide (b=(0:Int))) (UH (KX Al) (yi Al) c d a) fun e=>AP (decide (b=(0:Int))) (Ou Al a e) fun f=>lr E7 nG (decide (b=(0:Int))&&f)
def jG(a:Scm)(b:ByteArray)(c:Val):Option (Bool):=(g0 a b c).m
theorem Z8(a:Scm)(b:ByteArray)(c:Val):KC Tryz.prog 7 [.agg ((Au a).map .d),vS b,.agg ((Ag c).map .d)] (jG a b c) E7:=AF Tryz.func7 Tryz.ntmps7 Aa [.tmp 6] fun C co y hm d e=>Ax co Aa Ae (g0 a b c) hm e fun r g=>fun f=>fun h=>fun i=>id
abbrev TW:Af×Blk:=kk 4 45 5 [vS ⟨#[]⟩,.e0,.e0,.e0,.e0]
abbrev SB:Msg×Bool→AV:=fun y=>.tup [.agg ((AR y.1).map .d),vB y.2]
def qX(a:Msg→Option Bool):Cl:=fun no l H θ=>(∀(z0:Msg) y,a z0=some y→CP Tryz.prog l no H (θ 1) [.agg ((AR z0).map .d)] (vB y))
def xC(a:List Msg):Nat→St:=fun b=>Ad [(1,.fn (.yield 1) [] []),pp 4,(9,vL AR a),(10,vN a.length),(11,vN b)] [TW]
def vh:Unit→Nat×St:=fun _=>(0,Ad [pp 4] [TW])
def Zt(c:List Msg)(d:Msg→Option Bool)(a:Nat):PT 0 (Lv (Nat) (Unit) (Msg×Bool)):=br (decide ((a:Int)<(c.length:Int))) (ix c a fun b=>wg<|wg<|cf Tryz.prog 1 [.agg ((AR b).map .d)] (d b) (fun y=>vB y) fun e=>br e (wg<|wg<|AA SB nG (b,true)) (vs (wa a 1)<|ln (xC c) (a+1))) (Ai (vh) ())
def RV(b:List Msg)(a:Msg→Option Bool):Nat→Option (Lv (Nat) (Unit) (Msg×Bool)):=fun c=>(Zt b a c).m
def gA:PT 0 (Msg×Bool):=wg<|wg<|lr SB nG ((.mk ⟨#[]⟩ [] [] [] []:Msg),false)
def dU(a:List Msg)(b:Msg→Option Bool):PT 0 (Msg×Bool):=vz (An a)<|lc (Ad [(1,.fn (.yield 1) [] []),pp 4,(9,vL AR a),(10,vN a.length),(11,vI 0)] [TW]) ((Am (RV a b) Al 0).bind (Sum.elim (fun _=>(gA).m) some))
def fG(b:List Msg)(a:Msg→Option Bool):PT 0 (Msg×Bool):=lc (Ad [(0,vL AR b),(1,.fn (.yield 1) [] []),pp 4] [TW]) ((dU b a).m)
def Vf(b:List Msg)(a:Msg→Option Bool):Option (Msg×Bool):=(fG b a).m
theorem ZD9{C:Cx}(co:CO C 0)(b:List Msg)(a:Msg→Option Bool)(f:(qX a) C.no C.l C.H0 C.θ):KL Tryz.prog (AC tl) 21 C (pa [0,0,1,0,1] (Az Tryz.f44)) [.cell 4 45,.tmp 5] 0 (xC b) (vh) SB nG (RV b a):=fun h _ hm Q c e d=>At co Aa Ae (Zt b a h) (Ac [1,4,9,10,11] GQ) (Ac [4] GQ) e hm d fun r g=>⟨fun i=>⟨⟨fun y hy=>f _ y hy,by intro r;kernel_rfl,by intro r y;kernel_rfl⟩,fun j=>⟨id,id⟩⟩,id⟩
theorem ZUH(c:List Msg)(a:Msg→Option Bool):KO Tryz.prog 44 0 [vL AR c,.fn (.yield 1) [] []] [] (qX a) (Vf c a) SB nG:=Bv Tryz.func44 Tryz.ntmps44 Aa [.cell 4 45,.tmp 5] 0 (fun C co e y hm d b=>Aj co Aa Ae 1 (fG c a) (Ac [0,1,4] GQ) nl nH hm b fun r g=>fun _ hm b=>sq (Aj co Aa Ae 1 (dU c a) (Ac [1,4,9,10,11] GQ) nl nH hm b fun r g=>fun _ hm b=>bk 0 (lo (AH (ZD9 co c a e) nH hm b (fun _ hm=>Ax co Aa Ae (gA) hm b fun r g=>id)))))
abbrev qy:Bool→AV:=fun y=>vB y
@[reducible] def qP(w0:ByteArray):Bool→List Blk:=fun y=>[⟨0,true,9,1,[vS w0]⟩]
def xi(a:Msg)(w0:ByteArray):PT 1 (Bool):=wg<|wg<|lr qy (qP w0) (decide (a.name=w0))
def MO(a:Msg)(w0:ByteArray):Option (Bool):=(xi a w0).m
theorem ZVz(a:Msg)(w0:ByteArray):KO Tryz.prog 45 1 [.agg ((AR a).map .d),.ptr (0,0) 0 0] [⟨0,true,9,1,[vS w0]⟩] (fun _ _ _ _=>True) (MO a w0) qy (qP w0):=Bv Tryz.func45 Tryz.ntmps45 Aa [.tmp 3] 1 (fun C co d y hm b c=>Ax co Aa Ae (xi a w0) hm c fun r g=>id) (hB:=fun y=>⟨.inr (by kernel_rfl),rfl,trivial⟩)
abbrev qs:Msg×Bool→AV:=fun y=>.tup [.agg ((AR y.1).map .d),vB y.2]
def bG(a:Scm)(b:ByteArray):PT 0 (Msg×Bool):=wg<|cs Tryz.prog 44 [vL AR a.messages,.fn (.func 45) [] [.ptr (1,3) 1 0]] [(1,3)] [((1,3),⟨1,true,9,1,[vS b]⟩)] (Vf a.messages (fun(z0:Msg)=>MO z0 b)) (fun y=>.tup [.agg ((AR y.1).map .d),vB y.2]) fun c=>wg<|lr qs nG (c.1,c.2)
def Vo(a:Scm)(b:ByteArray):Option (Msg×Bool):=(bG a b).m
theorem ZUu(b:Scm)(a:ByteArray):KC Tryz.prog 18 [.agg ((Au b).map .d),vS a] (Vo b a) qs:=AF Tryz.func18 Tryz.ntmps18 Aa [.cell 4 45,.tmp 5] fun C co y hm c d=>Ax co Aa Ae (bG b a) hm d fun r g=>⟨fun y hy=>He (ZUH b.messages (fun(z0:Msg)=>MO z0 a)) hy co g [] [((1,3),⟨1,true,9,1,[vS a]⟩)] (AG [(1,.fn (.func 45) [] [.ptr (r.κ (1,3)) (r.γ (1,3)+1) 0])]) (fun h e i=>(fun z0 y f=>Lc (ZVz z0 a) f co g [((1,3),⟨1,true,9,1,[vS a]⟩)] [] e (by simp) (fun _=>.top) (fun _ _=>trivial) (fun l H=>⟨fun _=>⟨rfl,by kernel_rfl⟩,by kernel_rfl,trivial⟩))) (fun H=>trivial),fun j=>id⟩
abbrev SC:Int→AV:=fun y=>vI y
def qY(a:Slt→Option Bool):Cl:=fun no l H θ=>(∀(z0:Slt) y,a z0=some y→CP Tryz.prog l no H (θ 1) [.agg ((Dz z0).map .d)] (vB y))
def vj(a:List Slt):Nat→St:=fun b=>Ad [(0,vL Aq a),(1,.fn (.yield 1) [] []),(7,vN a.length),(8,vN b)] []
def vi:Unit→Nat×St:=fun _=>(0,Ad [] [])
def TD(b:List Slt)(c:Slt→Option Bool)(a:Nat):PT 0 (Lv (Nat) (Unit) (Int)):=br (decide ((a:Int)<(b.length:Int))) (ix b a fun d=>cf Tryz.prog 1 [.agg ((Dz d).map .d)] (c d) (fun y=>vB y) fun e=>br e (AA SC nG (a:Int)) (vs (wa a 1)<|ln (vj b) (a+1))) (Ai (vi) ())
def RO(b:List Slt)(a:Slt→Option Bool):Nat→Option (Lv (Nat) (Unit) (Int)):=fun c=>(TD b a c).m
def eX:PT 0 (Int):=lr SC nG (-1)
def bY(a:List Slt)(b:Slt→Option Bool):PT 0 (Int):=vz (An a)<|lc (Ad [(0,vL Aq a),(1,.fn (.yield 1) [] []),(7,vN a.length),(8,vI 0)] []) ((Am (RO a b) Al 0).bind (Sum.elim (fun _=>(eX).m) some))
def dW(b:List Slt)(a:Slt→Option Bool):PT 0 (Int):=lc (Ad [(0,vL Aq b),(1,.fn (.yield 1) [] [])] []) ((bY b a).m)
def Vz(b:List Slt)(a:Slt→Option Bool):Option (Int):=(dW b a).m
theorem ZLb{C:Cx}(co:CO C 0)(b:List Slt)(a:Slt→Option Bool)(f:(qY a) C.no C.l C.H0 C.θ):KL Tryz.prog (AC tl) 19 C (pa [0,0,1,0,1] (Az Tryz.f46)) [.tmp 4] 0 (vj b) (vi) SC nG (RO b a):=fun h _ hm Q c e d=>At co Aa Ae (TD b a h) (AJ [0,1,7,8]) nl e hm d fun r g=>⟨fun i=>⟨⟨fun y hy=>f _ y hy,by intro r;kernel_rfl,by intro r y;kernel_rfl⟩,fun j=>⟨id,id⟩⟩,id⟩
theorem ZU7(c:List Slt)(a:Slt→Option Bool):KO Tryz.prog 46 0 [vL Aq c,.fn (.yield 1) [] []] [] (qY a) (Vz c a) SC nG:=Bv Tryz.func46 Tryz.ntmps46 Aa [.tmp 4] 0 (fun C co e y hm d b=>Aj co Aa Ae 1 (dW c a) (AJ [0,1]) nl nH hm b fun r g=>fun _ hm b=>sq (Aj co Aa Ae 1 (bY c a) (AJ [0,1,7,8]) nl nH hm b fun r g=>fun _ hm b=>bk 0 (lo (AH (ZLb co c a e) nH hm b (fun _ hm=>Ax co Aa Ae (eX) hm b fun r g=>id)))))
abbrev Zk:Int→AV:=fun y=>vI y
@[reducible] def X1(a:List Slt):Int→List Blk:=fun y=>[⟨0,true,61,8,Ab Aq a⟩]
def wY(a:Slt→Option Bool):Cl:=fun no l H θ=>(∀(z0:Slt) y,a z0=some y→CP Tryz.prog l no H (θ 1) [.agg ((Dz z0).map .d)] (vB y))
def ZsM(a:List Slt):Nat→St:=fun b=>Ad [(0,.ref (0,0) 0 0 a.length),(1,.fn (.yield 1) [] []),(7,vN a.length),(8,vN b)] [((0,0),⟨0,true,61,8,Ab Aq a⟩)]
def ZrL(a:List Slt):Unit→Nat×St:=fun _=>(0,Ad [] [((0,0),⟨0,true,61,8,Ab Aq a⟩)])
def P7(a:List Slt)(c:Slt→Option Bool)(b:Nat):PT 1 (Lv (Nat) (Unit) (Int)):=br (decide ((b:Int)<(a.length:Int))) (vs (ir b a.length 8)<|ca a b fun d=>cf Tryz.prog 1 [.agg ((Dz d).map .d)] (c d) (fun y=>vB y) fun e=>br e (AA Zk (X1 a) (b:Int)) (vs (wa b 1)<|vz (fl a)<|ln (ZsM a) (b+1))) (vz (fl a)<|Ai (ZrL a) ())
def Wo(b:List Slt)(a:Slt→Option Bool):Nat→Option (Lv (Nat) (Unit) (Int)):=fun c=>(P7 b a c).m
def Qb(a:List Slt):PT 1 (Int):=lr Zk (X1 a) (-1)
def P4(a:List Slt)(b:Slt→Option Bool):PT 1 (Int):=vz (BH a.length)<|vz (fl a)<|lc (Ad [(0,.ref (0,0) 0 0 a.length),(1,.fn (.yield 1) [] []),(7,vN a.length),(8,vI 0)] [((0,0),⟨0,true,61,8,Ab Aq a⟩)]) ((Am (Wo a b) Al 0).bind (Sum.elim (fun _=>(Qb a).m) some))
def Qq(a:List Slt)(b:Slt→Option Bool):PT 1 (Int):=vz (fl a)<|lc (Ad [(0,.ref (0,0) 0 0 a.length),(1,.fn (.yield 1) [] [])] [((0,0),⟨0,true,61,8,Ab Aq a⟩)]) ((P4 a b).m)
def Pw(b:List Slt)(a:Slt→Option Bool):Option (Int):=(Qq b a).m
theorem ZrK{C:Cx}(co:CO C 1)(b:List Slt)(a:Slt→Option Bool)(f:(wY a) C.no C.l C.H0 C.θ):KL Tryz.prog (AC tl) 19 C (pa [0,0,1,0,1] (Az Tryz.f46)) [.tmp 4] 1 (ZsM b) (ZrL b) Zk (X1 b) (Wo b a):=fun h _ hm Q c e d=>At co Aa Ae (P7 b a h) (Ac [0,1,7,8] Ah) (Ac [] Ah) e hm d fun r g=>⟨fun i=>⟨⟨fun y hy=>f _ y hy,by intro r;kernel_rfl,by intro r y;kernel_rfl⟩,fun j=>⟨id,id⟩⟩,id⟩
theorem tj(b:List Slt)(a:Slt→Option Bool):KO Tryz.prog 46 1 [.ref (0,0) 0 0 b.length,.fn (.yield 1) [] []] [⟨0,true,61,8,Ab Aq b⟩] (wY a) (Pw b a) Zk (X1 b):=Bv Tryz.func46 Tryz.ntmps46 Aa [.tmp 4] 1 (fun C co e y hm d c=>Aj co Aa Ae 1 (Qq b a) (Ac [0,1] Ah) nl nH hm c fun r g=>fun _ hm c=>sq (Aj co Aa Ae 1 (P4 b a) (Ac [0,1,7,8] Ah) nl nH hm c fun r g=>fun _ hm c=>bk 0 (lo (AH (ZrK co b a e) nH hm c (fun _ hm=>Ax co Aa Ae (Qb b) hm c fun r g=>id))))) (hB:=fun y=>⟨.inl (Aw _ _),rfl,trivial⟩)
end Go.Proofs.YtjbijbkdiijhaaaGreat
