import Derived.Test.YtjbijbkdiijhaaaGreatZa15
import Derived.Test.YtjbijbkdiijhaaaGreatZa00
namespace Go.Proofs.YtjbijbkdiijhaaaGreat
set_option maxRecDepth 100000
set_option linter.all false
open Go Go.Eng
abbrev Iu:List (Af×Bool):=[((1,1),false)]
abbrev Iv(a:Val):Af×Blk:=kk 1 33 7 (cD (Ag a))
abbrev GW:Int→AV:=fun y=>vI y
def ux(a:Val):Int×Nat→St:=fun(b,v2)=>Ad [pp 1,(3,vI b),(4,vN v2)] [(Iv a)]
def uk(a:Val):Int→Nat×St:=fun b=>(0,Ad [pp 1,(3,vI b)] [(Iv a)])
def TF(a:Val)(b:Val→Option (Int))(c:Int)(v2:Nat):PT 0 (Lv (Int×Nat) (Int) (Int)):=wg<|vz (An a.list)<|br (decide ((v2:Int)<(a.list.length:Int))) (wg<|ix a.list v2 fun d=>cs Tryz.prog 77 [.agg ((Ag d).map .d)] [] [] (b d) (fun y=>vI y) fun e=>vs (wi (c+e))<|vs (wa v2 1)<|ln (ux a) ((c+e),v2+1)) (Ah (uk a) c)
def R2(b:Val)(a:Val→Option (Int)):Int×Nat→Option (Lv (Int×Nat) (Int) (Int)):=fun(c,v2)=>(TF b a c v2).m
def wG(a:Val):Int×Nat→St:=fun(b,c)=>Ad [pp 1,(3,vI b),(5,vN c)] [(Iv a)]
def uv(b:Val):Int→Nat×St:=fun a=>(2,Ad [pp 1,(3,vI a)] [(Iv b)])
def Tk(b:Val)(c:Val→Option (Int))(f:Int)(e:Nat):PT 0 (Lv (Int×Nat) (Int) (Int)):=wg<|vz (An b.pairs)<|br (decide ((e:Int)<(b.pairs.length:Int))) (wg<|ix b.pairs e fun h=>cs Tryz.prog 77 [.agg ((Ag h.key).map .d)] [] [] (c h.key) (fun y=>vI y) fun g=>wg<|ix b.pairs e fun d=>cs Tryz.prog 77 [.agg ((Ag d.val).map .d)] [] [] (c d.val) (fun y=>vI y) fun a=>vs (wi (g+a))<|vs (wi (f+(g+a)))<|vs (wa e 1)<|ln (wG b) ((f+(g+a)),e+1)) (Ah (uv b) f)
def RI(b:Val)(a:Val→Option (Int)):Int×Nat→Option (Lv (Int×Nat) (Int) (Int)):=fun(c,d)=>(Tk b a c d).m
def vG(c:Val):Int×Nat→St:=fun(a,b)=>Ad [pp 1,(3,vI a),(6,vN b)] [(Iv c)]
def xi:Int→Nat×St:=fun a=>(4,Ad [(3,vI a)] [])
def Tw(e:Val)(f:Val→Option (Int))(b:Int)(a:Nat):PT 0 (Lv (Int×Nat) (Int) (Int)):=wg<|vz (An e.slots)<|br (decide ((a:Int)<(e.slots.length:Int))) (wg<|ix e.slots a fun c=>cs Tryz.prog 77 [.agg ((Ag c.val).map .d)] [] [] (f c.val) (fun y=>vI y) fun d=>vs (wi (b+d))<|vs (wa a 1)<|ln (vG e) ((b+d),a+1)) (Ah (xi) b)
def Rl(d:Val)(a:Val→Option (Int)):Int×Nat→Option (Lv (Int×Nat) (Int) (Int)):=fun(b,c)=>(Tw d a b c).m
def dR(a:Int):PT 0 (Int):=lr GW nG a
def aP(d:Val)(b:Val→Option (Int))(a:Int):PT 0 (Int):=lc (Ad [pp 1,(3,vI a),(6,vI 0)] [(Iv d)]) ((Ak (Rl d b) Am (a,0)).bind (Sum.elim (fun c=>(dR c).m) some))
def ff(b:Val)(a:Val→Option (Int))(d:Int):PT 0 (Int):=lc (Ad [pp 1,(3,vI d),(5,vI 0)] [(Iv b)]) ((Ak (RI b a) Am (d,0)).bind (Sum.elim (fun c=>(aP b a c).m) some))
def cw(b:Val)(a:Val→Option (Int)):PT 0 (Int):=lc (Ad [pp 1,(3,vN (1+b.raws.length)),(4,vI 0)] [(Iv b)]) ((Ak (R2 b a) Am (((1+b.raws.length:Nat):Int),0)).bind (Sum.elim (fun c=>(ff b a c).m) some))
def aY(a:Val)(b:Val→Option (Int)):PT 0 (Int):=wg<|vz (An a.raws)<|vs (wa 1 a.raws.length)<|lc (Ad [pp 1,(3,vN (1+a.raws.length))] [(Iv a)]) ((cw a b).m)
def UP(a:Val→Option (Int))(b:Val):Option (Int):=(aY b a).m
theorem ZFG{C:Cx}(co:CO C 0)(b:Val)(a:Val→Option (Int))(d:∀(b:Val),KC Tryz.prog 77 [.agg ((Ag b).map .d)] (a b) GW):KL Tryz.prog (AC tl) 67 C (pa [0,0,1,0,1,1] (Az Tryz.f77)) [.tmp 2] 0 (ux b) (uk b) GW nG (R2 b a):=fun(j,v2) _ hm Q e i h=>As co Aa Ae (TF b a j v2) (Ac [1,3,4] Iu) (Ac [1,3] Iu) i hm h fun r g=>⟨fun c=>⟨fun y hy f _ _=>by rw[(d c).x,(d c).e];exact(d c).k _ f y hy,fun k=>id⟩,id⟩
theorem ZLf{C:Cx}(co:CO C 0)(c:Val)(a:Val→Option (Int))(d:∀(c:Val),KC Tryz.prog 77 [.agg ((Ag c).map .d)] (a c) GW):KL Tryz.prog (AC tl) 67 C (pa [0,0,1,0,1,1,1] (Az Tryz.f77)) [.tmp 2] 0 (wG c) (uv c) GW nG (RI c a):=fun(k,l) _ hm Q h j i=>As co Aa Ae (Tk c a k l) (Ac [1,3,5] Iu) (Ac [1,3] Iu) j hm i fun r g=>⟨fun f=>⟨fun y hy e _ _=>by rw[(d f.key).x,(d f.key).e];exact(d f.key).k _ e y hy,fun n=>fun b=>⟨fun y hy e _ _=>by rw[(d b.val).x,(d b.val).e];exact(d b.val).k _ e y hy,fun m=>id⟩⟩,id⟩
theorem ZDY{C:Cx}(co:CO C 0)(c:Val)(a:Val→Option (Int))(d:∀(c:Val),KC Tryz.prog 77 [.agg ((Ag c).map .d)] (a c) GW):KL Tryz.prog (AC tl) 67 C (pa [0,0,1,0,1,1,1,1] (Az Tryz.f77)) [.tmp 2] 0 (vG c) (xi) GW nG (Rl c a):=fun(e,f) _ hm Q h k j=>As co Aa Ae (Tw c a e f) (Ac [1,3,6] Iu) (AK [3]) k hm j fun r g=>⟨fun b=>⟨fun y hy i _ _=>by rw[(d b.val).x,(d b.val).e];exact(d b.val).k _ i y hy,fun l=>id⟩,id⟩
theorem ZRy(a:Val→Option (Int))(d:∀(c:Val),KC Tryz.prog 77 [.agg ((Ag c).map .d)] (a c) GW)(c:Val):KC Tryz.prog 77 [.agg ((Ag c).map .d)] (UP a c) GW:=AE Tryz.func77 Tryz.ntmps77 Aa [.tmp 2] fun C co y hm h b=>Aj co Aa Ae 2 (aY c a) (Ac [1,3] Iu) nl nH hm b fun r g=>fun _ hm b=>sq (Aj co Aa Ae 1 (cw c a) (Ac [1,3,4] Iu) nl nH hm b fun r g=>fun _ hm b=>bk 0 (lo (AF (ZFG co c a d) nH hm b (fun i hm=>sq (Aj co Aa Ae 1 (ff c a i) (Ac [1,3,5] Iu) nl nH hm b fun r g=>fun _ hm b=>bk 2 (lo (AF (ZLf co c a d) nH hm b (fun e hm=>sq (Aj co Aa Ae 1 (aP c a e) (Ac [1,3,6] Iu) nl nH hm b fun r g=>fun _ hm b=>bk 4 (lo (AF (ZDY co c a d) nH hm b (fun f hm=>Ax co Aa Ae (dR f) hm b fun r g=>id))))))))))))
def Jt:Nat→Val→Option (Int)
 |0=>fun _=>none
 |a+1=>UP (Jt a)
theorem xY:∀(b:Nat) (a:Val),KC Tryz.prog 77 [.agg ((Ag a).map .d)] (Jt b a) GW
 |0,a=>⟨fun _ _ _ h=>(by cases h),by intro r;kernel_rfl,by intro r y;kernel_rfl⟩
 |b+1,a=>ZRy (Jt b) (xY b) a
abbrev Om:Int→AV:=fun y=>vI y
def gS(a:Scm)(e:ByteArray)(b:Val)(f:Bool):PT 0 (Int):=wg<|cl (Ug a e) fun c=>wg<|br (!c.2) (lr Om nG 10) (wg<|wg<|wg<|cl (Ub (Js Am) (u2 Am) a c.1 b 1 f) fun d=>br (!decide (d=(0:Int))) (lr Om nG d) (wg<|cl (xY Am b) fun g=>br (decide ((4096:Int)<g)) (lr Om nG 3) (lr Om nG 0)))
def jr(a:Scm)(b:ByteArray)(c:Val)(d:Bool):Option (Int):=(gS a b c d).m
theorem ZVQ(a:Scm)(b:ByteArray)(c:Val)(d:Bool):KC Tryz.prog 41 [.agg ((Ar a).map .d),vS b,.agg ((Ag c).map .d),vB d] (jr a b c d) Om:=AE Tryz.func41 Tryz.ntmps41 Aa [.tmp 8] fun C co y hm e f=>Ax co Aa Ae (gS a b c d) hm f fun r g=>fun h=>⟨id,fun i=>⟨id,fun j=>⟨id,id⟩⟩⟩
abbrev qy:Int→AV:=fun y=>vI y
def dV(a:Scm)(b:ByteArray)(c:Val):PT 0 (Int):=wg<|wg<|cl (ZVQ a b c true) fun d=>lr qy nG d
def j8(a:Scm)(b:ByteArray)(c:Val):Option (Int):=(dV a b c).m
theorem ZVe(a:Scm)(b:ByteArray)(c:Val):KC Tryz.prog 16 [.agg ((Ar a).map .d),vS b,.agg ((Ag c).map .d)] (j8 a b c) qy:=AE Tryz.func16 Tryz.ntmps16 Aa [.tmp 6] fun C co y hm d e=>Ax co Aa Ae (dV a b c) hm e fun r g=>fun f=>id
abbrev qQ:Bool→AV:=fun y=>vB y
def bQ(a:Val):PT 0 (Bool):=wg<|cl (aV a.kind) fun b=>wg<|wg<|wg<|AO ((b&&decide (a.bits=(0:Int)))&&decide (a.text=(⟨#[]⟩:ByteArray))) (xf a) fun c=>lr qQ nG (((b&&decide (a.bits=(0:Int)))&&decide (a.text=(⟨#[]⟩:ByteArray)))&&c)
def jT(a:Val):Option (Bool):=(bQ a).m
theorem ZU8(a:Val):KC Tryz.prog 78 [.agg ((Ag a).map .d)] (jT a) qQ:=AE Tryz.func78 Tryz.ntmps78 Aa [.tmp 2] fun C co y hm b c=>Ax co Aa Ae (bQ a) hm c fun r g=>fun d=>fun e=>id
abbrev Sq:Bool→AV:=fun y=>vB y
def fV(b:Fld)(a:Val):PT 0 (Bool):=wg<|br (decide (b.card=(4:Int))) (wg<|vz (An a.list)<|lr Sq nG (decide ((a.list.length:Int)=(0:Int)))) (wg<|br (decide (b.card=(5:Int))) (wg<|vz (An a.pairs)<|lr Sq nG (decide ((a.pairs.length:Int)=(0:Int)))) (wg<|wg<|AO (decide (b.card=(3:Int))) (ZU8 a) fun c=>lr Sq nG (decide (b.card=(3:Int))&&c)))
def jk(a:Fld)(b:Val):Option (Bool):=(fV a b).m
theorem ZVL(a:Fld)(b:Val):KC Tryz.prog 42 [.agg ((Ay a).map .d),.agg ((Ag b).map .d)] (jk a b) Sq:=AE Tryz.func42 Tryz.ntmps42 Aa [.tmp 4] fun C co y hm c d=>Ax co Aa Ae (fV a b) hm d fun r g=>⟨id,⟨id,fun e=>id⟩⟩
abbrev Uk:Int→AV:=fun y=>vI y
def mW(a:Int)(b:Int):PT 0 (Int):=br (decide (a<b)) (lr Uk nG (-1)) (br (decide (b<a)) (lr Uk nG 1) (lr Uk nG 0))
def jm(a:Int)(b:Int):Option (Int):=(mW a b).m
theorem JS(a:Int)(b:Int):KC Tryz.prog 129 [vI a,vI b] (jm a b) Uk:=AE Tryz.func129 Tryz.ntmps129 Aa [.tmp 4] fun C co y hm c d=>Ax co Aa Ae (mW a b) hm d fun r g=>⟨id,⟨id,id⟩⟩
abbrev I9:Int→AV:=fun y=>vI y
def tP(a:Raw)(b:Raw):PT 0 (Int):=wg<|wg<|br (!decide (a.num=b.num)) (wg<|wg<|cl (JS a.num b.num) fun c=>lr I9 nG c) (wg<|wg<|br (!decide (a.wire=b.wire)) (wg<|wg<|cl (JS a.wire b.wire) fun d=>lr I9 nG d) (wg<|wg<|br (decide (a.bits<b.bits)) (lr I9 nG (-1)) (wg<|wg<|br (decide (b.bits<a.bits)) (lr I9 nG 1) (wg<|wg<|br (BL a.data b.data) (lr I9 nG (-1)) (wg<|wg<|br (!(BL a.data b.data||decide (a.data=b.data))) (lr I9 nG 1) (lr I9 nG 0))))))
def Zfj(a:Raw)(b:Raw):Option (Int):=(tP a b).m
theorem ZTr(a:Raw)(b:Raw):KC Tryz.prog 155 [.agg ((Av a).map .d),.agg ((Av b).map .d)] (Zfj a b) I9:=AE Tryz.func155 Tryz.ntmps155 Aa [.tmp 4] fun C co y hm c d=>Ax co Aa Ae (tP a b) hm d fun r g=>⟨fun e=>id,⟨fun f=>id,⟨id,⟨id,⟨id,⟨id,id⟩⟩⟩⟩⟩⟩
abbrev T5:Int→AV:=fun y=>vI y
def th(a:List Raw)(b:List Raw):Nat→St:=fun c=>Ad [(0,vL Av a),(1,vL Av b),(5,vN c)] []
def sn(a:List Raw)(b:List Raw):Unit→Nat×St:=fun _=>(0,Ad [(0,vL Av a),(1,vL Av b)] [])
def rS(b:List Raw)(c:List Raw)(a:Nat):PT 0 (Lv (Nat) (Unit) (Int)):=vz (An b)<|vy (decide ((a:Int)<(b.length:Int))) (An c)<|br (decide ((a:Int)<(b.length:Int))&&decide ((a:Int)<(c.length:Int))) (ix b a fun e=>ix c a fun f=>cl (ZTr e f) fun d=>br (!decide (d=(0:Int))) (AA T5 nG d) (vs (wa a 1)<|ln (th b c) (a+1))) (Ah (sn b c) ())
def rQ(a:List Raw)(b:List Raw):Nat→Option (Lv (Nat) (Unit) (Int)):=fun c=>(rS a b c).m
def rO(a:List Raw)(b:List Raw):PT 0 (Int):=vz (An a)<|vz (An b)<|cl (JS (a.length:Int) (b.length:Int)) fun c=>lr T5 nG c
def sB(a:List Raw)(b:List Raw):PT 0 (Int):=lc (Ad [(0,vL Av a),(1,vL Av b),(5,vI 0)] []) ((Ak (rQ a b) Am 0).bind (Sum.elim (fun _=>(rO a b).m) some))
def sx(a:List Raw)(b:List Raw):PT 0 (Int):=lc (Ad [(0,vL Av a),(1,vL Av b)] []) ((sB a b).m)
def Ze6(a:List Raw)(b:List Raw):Option (Int):=(sx a b).m
theorem ZyH{C:Cx}(co:CO C 0)(a:List Raw)(b:List Raw):KL Tryz.prog (AC tl) 36 C (pa [0,0,1,0,1] (Az Tryz.f133)) [.tmp 4] 0 (th a b) (sn a b) T5 nG (rQ a b):=fun f _ hm Q c e d=>As co Aa Ae (rS a b f) (AK [0,1,5]) (AK [0,1]) e hm d fun r g=>⟨fun h=>fun i=>fun j=>⟨id,id⟩,id⟩
theorem ZST(b:List Raw)(c:List Raw):KC Tryz.prog 133 [vL Av b,vL Av c] (Ze6 b c) T5:=AE Tryz.func133 Tryz.ntmps133 Aa [.tmp 4] fun C co y hm d a=>Aj co Aa Ae 1 (sx b c) (AK [0,1]) nl nH hm a fun r g=>fun _ hm a=>sq (Aj co Aa Ae 1 (sB b c) (AK [0,1,5]) nl nH hm a fun r g=>fun _ hm a=>bk 0 (lo (AF (ZyH co b c) nH hm a (fun _ hm=>Ax co Aa Ae (rO b c) hm a fun r g=>fun e=>id))))
abbrev yk:Bool→AV:=fun y=>vB y
def oW(a:Int):PT 0 (Bool):=lr yk nG (decide (a=(2:Int))||decide (a=(3:Int)))
def zb(a:Int):Option (Bool):=(oW a).m
theorem ZTa(a:Int):KC Tryz.prog 166 [vI a] (zb a) yk:=AE Tryz.func166 Tryz.ntmps166 Aa [.tmp 2] fun C co y hm b c=>Ax co Aa Ae (oW a) hm c fun r g=>id
abbrev O6:Int→AV:=fun y=>.d (.int .u64 y)
def kP(a:Val):PT 0 (Int):=wg<|vz (wk .u64 (a.bits+9223372036854775808))<|lr O6 nG (IntKind.u64.wrap (a.bits+9223372036854775808))
def nW(a:Val):PT 0 (Int):=wg<|cl (ZTa a.kind) fun b=>br b (kP a) (wg<|br (!decide (a.kind=(6:Int))) (wg<|lr O6 nG a.bits) (wg<|cl (wx a.bits) fun c=>br (decide (c=(0:Int))) (lr O6 nG 18446744073709551615) (wg<|br (decide ((9223372036854775808:Int)≤a.bits)) (wg<|vz (wk .u64 ((18446744073709551615:Int)-a.bits))<|lr O6 nG (IntKind.u64.wrap ((18446744073709551615:Int)-a.bits))) (kP a))))
def jD(a:Val):Option (Int):=(nW a).m
theorem XL(a:Val):KC Tryz.prog 156 [.agg ((Ag a).map .d)] (jD a) O6:=AE Tryz.func156 Tryz.ntmps156 Aa [.tmp 2] fun C co y hm b c=>Ax co Aa Ae (nW a) hm c fun r g=>fun d=>⟨id,⟨id,fun e=>⟨id,⟨id,id⟩⟩⟩⟩
abbrev Hl:Int→AV:=fun y=>vI y
def nR(a:Val)(b:Val):PT 0 (Int):=wg<|wg<|br (decide (a.kind<b.kind)) (lr Hl nG (-1)) (wg<|wg<|br (decide (b.kind<a.kind)) (lr Hl nG 1) (wg<|cl (aV a.kind) fun c=>br (!c) (lr Hl nG 0) (wg<|cl (Td a.kind) fun d=>wg<|wg<|br (d&&BL a.text b.text) (lr Hl nG (-1)) (wg<|cl (Td a.kind) fun e=>wg<|wg<|br (e&&(!(BL a.text b.text||decide (a.text=b.text)))) (lr Hl nG 1) (wg<|cl (Td a.kind) fun f=>br f (lr Hl nG 0) (wg<|cl (XL a) fun g=>wg<|cl (XL b) fun h=>br (decide (g<h)) (lr Hl nG (-1)) (wg<|cl (XL a) fun i=>wg<|cl (XL b) fun j=>br (decide (j<i)) (lr Hl nG 1) (lr Hl nG 0))))))))
def jC(a:Val)(b:Val):Option (Int):=(nR a b).m
theorem ZSt(a:Val)(b:Val):KC Tryz.prog 134 [.agg ((Ag a).map .d),.agg ((Ag b).map .d)] (jC a b) Hl:=AE Tryz.func134 Tryz.ntmps134 Aa [.tmp 4] fun C co y hm c d=>Ax co Aa Ae (nR a b) hm d fun r g=>⟨id,⟨id,fun e=>⟨id,fun f=>⟨id,fun h=>⟨id,fun i=>⟨id,fun j=>fun k=>⟨id,fun l=>fun m=>⟨id,id⟩⟩⟩⟩⟩⟩⟩⟩
abbrev DZ:Int→AV:=fun y=>vI y
abbrev Ux:Int→AV:=fun y=>vI y
def sU(a:List Val)(b:List Val):Nat→St:=fun c=>Ad [(0,vL A7 a),(1,vL A7 b),(5,vN c)] []
def sG(a:List Val)(b:List Val):Unit→Nat×St:=fun _=>(0,Ad [(0,vL A7 a),(1,vL A7 b)] [])
def tg(b:List Val)(c:List Val)(d:Val→Val→Option (Int))(a:Nat):PT 0 (Lv (Nat) (Unit) (Int)):=vz (An b)<|vy (decide ((a:Int)<(b.length:Int))) (An c)<|br (decide ((a:Int)<(b.length:Int))&&decide ((a:Int)<(c.length:Int))) (ix b a fun e=>ix c a fun f=>cs Tryz.prog 97 [.agg ((Ag e).map .d),.agg ((Ag f).map .d)] [] [] (d e f) (fun y=>vI y) fun g=>br (!decide (g=(0:Int))) (AA Ux nG g) (vs (wa a 1)<|ln (sU b c) (a+1))) (Ah (sG b c) ())
def tN(b:List Val)(c:List Val)(a:Val→Val→Option (Int)):Nat→Option (Lv (Nat) (Unit) (Int)):=fun d=>(tg b c a d).m
def rY(a:List Val)(b:List Val):PT 0 (Int):=vz (An a)<|vz (An b)<|cl (JS (a.length:Int) (b.length:Int)) fun c=>lr Ux nG c
def tA(b:List Val)(c:List Val)(a:Val→Val→Option (Int)):PT 0 (Int):=lc (Ad [(0,vL A7 b),(1,vL A7 c),(5,vI 0)] []) ((Ak (tN b c a) Am 0).bind (Sum.elim (fun _=>(rY b c).m) some))
def sd(b:List Val)(c:List Val)(a:Val→Val→Option (Int)):PT 0 (Int):=lc (Ad [(0,vL A7 b),(1,vL A7 c)] []) ((tA b c a).m)
def zc(a:Val→Val→Option (Int))(b:List Val)(c:List Val):Option (Int):=(sd b c a).m
theorem ZAc{C:Cx}(co:CO C 0)(b:List Val)(c:List Val)(a:Val→Val→Option (Int))(f:∀(b:Val) (c:Val),KC Tryz.prog 97 [.agg ((Ag b).map .d),.agg ((Ag c).map .d)] (a b c) DZ):KL Tryz.prog (AC tl) 36 C (pa [0,0,1,0,1] (Az Tryz.f130)) [.tmp 4] 0 (sU b c) (sG b c) Ux nG (tN b c a):=fun l _ hm Q h k j=>As co Aa Ae (tg b c a l) (AK [0,1,5]) (AK [0,1]) k hm j fun r g=>⟨fun d=>fun e=>⟨fun y hy i _ _=>by rw[(f d e).x,(f d e).e];exact(f d e).k _ i y hy,fun m=>⟨id,id⟩⟩,id⟩
theorem gk(a:Val→Val→Option (Int))(f:∀(b:Val) (c:Val),KC Tryz.prog 97 [.agg ((Ag b).map .d),.agg ((Ag c).map .d)] (a b c) DZ)(b:List Val)(c:List Val):KC Tryz.prog 130 [vL A7 b,vL A7 c] (zc a b c) Ux:=AE Tryz.func130 Tryz.ntmps130 Aa [.tmp 4] fun C co y hm e d=>Aj co Aa Ae 1 (sd b c a) (AK [0,1]) nl nH hm d fun r g=>fun _ hm d=>sq (Aj co Aa Ae 1 (tA b c a) (AK [0,1,5]) nl nH hm d fun r g=>fun _ hm d=>bk 0 (lo (AF (ZAc co b c a f) nH hm d (fun _ hm=>Ax co Aa Ae (rY b c) hm d fun r g=>fun h=>id))))
abbrev O7:Int→AV:=fun y=>vI y
def sg(a:List Pr)(b:List Pr):Nat→St:=fun c=>Ad [(0,vL Ao a),(1,vL Ao b),(5,vN c)] []
def tp(a:List Pr)(b:List Pr):Unit→Nat×St:=fun _=>(0,Ad [(0,vL Ao a),(1,vL Ao b)] [])
def sp(b:List Pr)(c:List Pr)(d:Val→Val→Option (Int))(a:Nat):PT 0 (Lv (Nat) (Unit) (Int)):=vz (An b)<|vy (decide ((a:Int)<(b.length:Int))) (An c)<|br (decide ((a:Int)<(b.length:Int))&&decide ((a:Int)<(c.length:Int))) (ix b a fun e=>ix c a fun f=>cs Tryz.prog 97 [.agg ((Ag e.key).map .d),.agg ((Ag f.key).map .d)] [] [] (d e.key f.key) (fun y=>vI y) fun i=>br (!decide (i=(0:Int))) (AA O7 nG i) (ix b a fun g=>ix c a fun h=>cs Tryz.prog 97 [.agg ((Ag g.val).map .d),.agg ((Ag h.val).map .d)] [] [] (d g.val h.val) (fun y=>vI y) fun j=>br (!decide (j=(0:Int))) (AA O7 nG j) (vs (wa a 1)<|ln (sg b c) (a+1)))) (Ah (tp b c) ())
def tE(b:List Pr)(c:List Pr)(a:Val→Val→Option (Int)):Nat→Option (Lv (Nat) (Unit) (Int)):=fun d=>(sp b c a d).m
def sK(a:List Pr)(b:List Pr):PT 0 (Int):=vz (An a)<|vz (An b)<|cl (JS (a.length:Int) (b.length:Int)) fun c=>lr O7 nG c
def sF(b:List Pr)(c:List Pr)(a:Val→Val→Option (Int)):PT 0 (Int):=lc (Ad [(0,vL Ao b),(1,vL Ao c),(5,vI 0)] []) ((Ak (tE b c a) Am 0).bind (Sum.elim (fun _=>(sK b c).m) some))
def tR(b:List Pr)(c:List Pr)(a:Val→Val→Option (Int)):PT 0 (Int):=lc (Ad [(0,vL Ao b),(1,vL Ao c)] []) ((sF b c a).m)
def zg(a:Val→Val→Option (Int))(b:List Pr)(c:List Pr):Option (Int):=(tR b c a).m
theorem ZAV{C:Cx}(co:CO C 0)(b:List Pr)(c:List Pr)(a:Val→Val→Option (Int))(d:∀(b:Val) (c:Val),KC Tryz.prog 97 [.agg ((Ag b).map .d),.agg ((Ag c).map .d)] (a b c) DZ):KL Tryz.prog (AC tl) 53 C (pa [0,0,1,0,1] (Az Tryz.f131)) [.tmp 4] 0 (sg b c) (tp b c) O7 nG (tE b c a):=fun n _ hm Q k m l=>As co Aa Ae (sp b c a n) (AK [0,1,5]) (AK [0,1]) m hm l fun r g=>⟨fun f=>fun h=>⟨fun y hy e _ _=>by rw[(d f.key h.key).x,(d f.key h.key).e];exact(d f.key h.key).k _ e y hy,fun o=>⟨id,fun i=>fun j=>⟨fun y hy e _ _=>by rw[(d i.val j.val).x,(d i.val j.val).e];exact(d i.val j.val).k _ e y hy,fun p=>⟨id,id⟩⟩⟩⟩,id⟩
theorem fw(a:Val→Val→Option (Int))(f:∀(b:Val) (c:Val),KC Tryz.prog 97 [.agg ((Ag b).map .d),.agg ((Ag c).map .d)] (a b c) DZ)(b:List Pr)(c:List Pr):KC Tryz.prog 131 [vL Ao b,vL Ao c] (zg a b c) O7:=AE Tryz.func131 Tryz.ntmps131 Aa [.tmp 4] fun C co y hm e d=>Aj co Aa Ae 1 (tR b c a) (AK [0,1]) nl nH hm d fun r g=>fun _ hm d=>sq (Aj co Aa Ae 1 (sF b c a) (AK [0,1,5]) nl nH hm d fun r g=>fun _ hm d=>bk 0 (lo (AF (ZAV co b c a f) nH hm d (fun _ hm=>Ax co Aa Ae (sK b c) hm d fun r g=>fun h=>id))))
abbrev OW:Int→AV:=fun y=>vI y
def sY(a:List Slt)(b:List Slt):Nat→St:=fun c=>Ad [(0,vL Aq a),(1,vL Aq b),(5,vN c)] []
def tx(a:List Slt)(b:List Slt):Unit→Nat×St:=fun _=>(0,Ad [(0,vL Aq a),(1,vL Aq b)] [])
def sX(b:List Slt)(c:List Slt)(d:Val→Val→Option (Int))(a:Nat):PT 0 (Lv (Nat) (Unit) (Int)):=vz (An b)<|vy (decide ((a:Int)<(b.length:Int))) (An c)<|br (decide ((a:Int)<(b.length:Int))&&decide ((a:Int)<(c.length:Int))) (ix b a fun i=>ix c a fun j=>cl (JS i.num j.num) fun g=>br (!decide (g=(0:Int))) (AA OW nG g) (ix b a fun e=>ix c a fun f=>cs Tryz.prog 97 [.agg ((Ag e.val).map .d),.agg ((Ag f.val).map .d)] [] [] (d e.val f.val) (fun y=>vI y) fun h=>br (!decide (h=(0:Int))) (AA OW nG h) (vs (wa a 1)<|ln (sY b c) (a+1)))) (Ah (tx b c) ())
def su(b:List Slt)(c:List Slt)(a:Val→Val→Option (Int)):Nat→Option (Lv (Nat) (Unit) (Int)):=fun d=>(sX b c a d).m
def te(a:List Slt)(b:List Slt):PT 0 (Int):=vz (An a)<|vz (An b)<|cl (JS (a.length:Int) (b.length:Int)) fun c=>lr OW nG c
def tU(b:List Slt)(c:List Slt)(a:Val→Val→Option (Int)):PT 0 (Int):=lc (Ad [(0,vL Aq b),(1,vL Aq c),(5,vI 0)] []) ((Ak (su b c a) Am 0).bind (Sum.elim (fun _=>(te b c).m) some))
def r8(b:List Slt)(c:List Slt)(a:Val→Val→Option (Int)):PT 0 (Int):=lc (Ad [(0,vL Aq b),(1,vL Aq c)] []) ((tU b c a).m)
def zd(a:Val→Val→Option (Int))(b:List Slt)(c:List Slt):Option (Int):=(r8 b c a).m
theorem ZyI{C:Cx}(co:CO C 0)(b:List Slt)(c:List Slt)(a:Val→Val→Option (Int))(f:∀(b:Val) (c:Val),KC Tryz.prog 97 [.agg ((Ag b).map .d),.agg ((Ag c).map .d)] (a b c) DZ):KL Tryz.prog (AC tl) 53 C (pa [0,0,1,0,1] (Az Tryz.f132)) [.tmp 4] 0 (sY b c) (tx b c) OW nG (su b c a):=fun l _ hm Q h k j=>As co Aa Ae (sX b c a l) (AK [0,1,5]) (AK [0,1]) k hm j fun r g=>⟨fun m=>fun n=>fun o=>⟨id,fun d=>fun e=>⟨fun y hy i _ _=>by rw[(f d.val e.val).x,(f d.val e.val).e];exact(f d.val e.val).k _ i y hy,fun p=>⟨id,id⟩⟩⟩,id⟩
theorem eA(a:Val→Val→Option (Int))(f:∀(b:Val) (c:Val),KC Tryz.prog 97 [.agg ((Ag b).map .d),.agg ((Ag c).map .d)] (a b c) DZ)(b:List Slt)(c:List Slt):KC Tryz.prog 132 [vL Aq b,vL Aq c] (zd a b c) OW:=AE Tryz.func132 Tryz.ntmps132 Aa [.tmp 4] fun C co y hm e d=>Aj co Aa Ae 1 (r8 b c a) (AK [0,1]) nl nH hm d fun r g=>fun _ hm d=>sq (Aj co Aa Ae 1 (tU b c a) (AK [0,1,5]) nl nH hm d fun r g=>fun _ hm d=>bk 0 (lo (AF (ZyI co b c a f) nH hm d (fun _ hm=>Ax co Aa Ae (te b c) hm d fun r g=>fun h=>id))))
def eh(a:Val)(b:Val)(c:Val→Val→Option (Int)):PT 0 (Int):=wg<|wg<|br (!decide (a.kind=b.kind)) (wg<|wg<|cl (JS a.kind b.kind) fun e=>lr DZ nG e) (wg<|br (decide (a.kind=(11:Int))) (wg<|wg<|cs Tryz.prog 130 [vL A7 a.list,vL A7 b.list] [] [] (zc c a.list b.list) (fun y=>vI y) fun f=>lr DZ nG f) (br (decide (a.kind=(12:Int))) (wg<|wg<|cs Tryz.prog 131 [vL Ao a.pairs,vL Ao b.pairs] [] [] (zg c a.pairs b.pairs) (fun y=>vI y) fun g=>lr DZ nG g) (br (decide (a.kind=(10:Int))) (wg<|wg<|cs Tryz.prog 132 [vL Aq a.slots,vL Aq b.slots] [] [] (zd c a.slots b.slots) (fun y=>vI y) fun d=>br (!decide (d=(0:Int))) (lr DZ nG d) (wg<|wg<|cl (ZST a.raws b.raws) fun h=>lr DZ nG h)) (wg<|wg<|cl (ZSt a b) fun i=>lr DZ nG i))))
def Uy(a:Val→Val→Option (Int))(b:Val)(c:Val):Option (Int):=(eh b c a).m
theorem ZRF(a:Val→Val→Option (Int))(d:∀(b:Val) (c:Val),KC Tryz.prog 97 [.agg ((Ag b).map .d),.agg ((Ag c).map .d)] (a b c) DZ)(b:Val)(c:Val):KC Tryz.prog 97 [.agg ((Ag b).map .d),.agg ((Ag c).map .d)] (Uy a b c) DZ:=AE Tryz.func97 Tryz.ntmps97 Aa [.tmp 4] fun C co y hm f h=>Ax co Aa Ae (eh b c a) hm h fun r g=>⟨fun i=>id,⟨⟨fun y hy e _ _=>by rw[(gk a d b.list c.list).x,(gk a d b.list c.list).e];exact(gk a d b.list c.list).k _ e y hy,fun j=>id⟩,⟨⟨fun y hy e _ _=>by rw[(fw a d b.pairs c.pairs).x,(fw a d b.pairs c.pairs).e];exact(fw a d b.pairs c.pairs).k _ e y hy,fun k=>id⟩,⟨⟨fun y hy e _ _=>by rw[(eA a d b.slots c.slots).x,(eA a d b.slots c.slots).e];exact(eA a d b.slots c.slots).k _ e y hy,fun l=>⟨id,fun m=>id⟩⟩,fun n=>id⟩⟩⟩⟩
def PA:Nat→Val→Val→Option (Int)
 |0=>fun _ _=>none
 |a+1=>Uy (PA a)
theorem ij:∀(c:Nat) (a:Val) (b:Val),KC Tryz.prog 97 [.agg ((Ag a).map .d),.agg ((Ag b).map .d)] (PA c a b) DZ
 |0,a,b=>⟨fun _ _ _ h=>(by cases h),by intro r;kernel_rfl,by intro r y;kernel_rfl⟩
 |c+1,a,b=>ZRF (PA c) (ij c) a b
abbrev On:List Pr→AV:=fun y=>vL Ao y
def gE(a:List Pr):List Pr×Nat→St:=fun(b,v2)=>Ad [(0,vL Ao a),(3,vL Ao b),(4,vN v2)] []
def vF:List Pr→Nat×St:=fun a=>(0,Ad [(3,vL Ao a)] [])
def vW(a:List Pr)(b:List Pr)(v2:Nat):Bool×Nat→St:=fun(v3,v4)=>Ad [(0,vL Ao a),(3,vL Ao b),(4,vN v2),(5,vB v3),(6,vN v4)] []
def uN(a:List Pr)(b:List Pr)(v2:Nat):Bool→Nat×St:=fun c=>(2,Ad [(0,vL Ao a),(3,vL Ao b),(4,vN v2),(5,vB c)] [])
def T1(a:List Pr)(b:List Pr)(v2:Nat)(v3:Bool)(v4:Nat):PT 0 (Lv (Bool×Nat) (Bool) (List Pr)):=vz (An a)<|br (decide ((v4:Int)<(a.length:Int))) (AZ v3 a (v2:Int) fun c=>AZ v3 a (v4:Int) fun d=>AO v3 (ij Am c.key d.key) fun e=>vs (wa v4 1)<|ln (vW a b v2) ((v3&&(!decide (e=(0:Int)))),v4+1)) (Ah (uN a b v2) v3)
def NO(a:List Pr)(b:List Pr)(v2:Nat):Bool×Nat→Option (Lv (Bool×Nat) (Bool) (List Pr)):=fun(v3,v4)=>(T1 a b v2 v3 v4).m
def xe(a:List Pr)(b:List Pr)(v2:Nat):Nat→St:=fun v9=>Ad [(0,vL Ao a),(3,vL Ao b),(4,vN v2),(7,vN v9)] []
def wh(b:List Pr)(c:List Pr)(v2:Nat):Nat→Nat×St:=fun a=>(4,Ad [(0,vL Ao b),(3,vL Ao c),(4,vN v2),(7,vN a)] [])
def X0(c:List Pr)(v1:List Pr)(v2:Nat)(v9:Nat):PT 0 (Lv (Nat) (Nat) (List Pr)):=vz (An v1)<|AZ (decide ((v9:Int)<(v1.length:Int))) v1 (v9:Int) fun a=>AZ (decide ((v9:Int)<(v1.length:Int))) c (v2:Int) fun b=>AO (decide ((v9:Int)<(v1.length:Int))) (ij Am a.key b.key) fun d=>br (decide ((v9:Int)<(v1.length:Int))&&decide (d<(0:Int))) (vs (wa v9 1)<|ln (xe c v1 v2) (v9+1)) (Ah (wh c v1 v2) v9)
def NG(a:List Pr)(b:List Pr)(v2:Nat):Nat→Option (Lv (Nat) (Nat) (List Pr)):=fun v9=>(X0 a b v2 v9).m
def Ty(d:List Pr)(v2:Nat)(a:Pr)(b:List Pr)(c:List Pr):PT 0 (Lv (List Pr×Nat) (List Pr) (List Pr)):=vs (wa v2 1)<|vw (.frz 72 [(3,((c++(([a]:List Pr)++b)).map Ao))] [])<|vz (fz (c++(([a]:List Pr)++b)))<|ln (gE d) (c++(([a]:List Pr)++b),v2+1)
def XU(e:List Pr)(f:List Pr)(v2:Nat)(d:Nat)(b:Pr)(c:List Pr):PT 0 (Lv (List Pr×Nat) (List Pr) (List Pr)):=sL f .no (.nt d) fun a=>a0 a<|ar a (([b]:List Pr)++c) (1,63) 0<|vz (fl (a++(([b]:List Pr)++c)))<|lc (Ad [(0,vL Ao e),(3,.ref (1,72) 0 0 (a++(([b]:List Pr)++c)).length),(4,vN v2)] [kk 72 63 14 (Ab Ao (a++(([b]:List Pr)++c)))]) ((Ty e v2 b c a).m)
def Zq(d:List Pr)(e:List Pr)(v2:Nat)(c:Nat):PT 0 (Lv (List Pr×Nat) (List Pr) (List Pr)):=ix d v2 fun a=>sL e (.nt c) .no fun b=>wg<|qc (a:Pr) b<|vz (fl (([a]:List Pr)++b))<|lc (Ad [(0,vL Ao d),(3,vL Ao e),(4,vN v2),(7,vN c),(8,.ref (1,63) 0 0 (([a]:List Pr)++b).length)] [kk 63 63 14 (Ab Ao (([a]:List Pr)++b))]) ((XU d e v2 c a b).m)
def Xv(a:List Pr)(b:List Pr)(v2:Nat):PT 0 (Lv (List Pr×Nat) (List Pr) (List Pr)):=lc (Ad [(0,vL Ao a),(3,vL Ao b),(4,vN v2),(7,vI 0)] []) ((Ak (NG a b v2) Am 0).bind (Sum.elim (fun c=>(Zq a b v2 c).m) (fun z=>some (.rt z))))
def TK(a:List Pr)(b:List Pr)(v2:Nat):PT 0 (Lv (List Pr×Nat) (List Pr) (List Pr)):=vs (wa v2 1)<|ln (gE a) (b,v2+1)
def Zd(a:List Pr)(b:List Pr)(v2:Nat):PT 0 (Lv (List Pr×Nat) (List Pr) (List Pr)):=lc (Ad [(0,vL Ao a),(3,vL Ao b),(4,vN v2)] []) ((TK a b v2).m)
def Xy(a:List Pr)(b:List Pr)(v2:Nat)(c:Bool):PT 0 (Lv (List Pr×Nat) (List Pr) (List Pr)):=lc (Ad [(0,vL Ao a),(3,vL Ao b),(4,vN v2),(38,vB c)] []) (if c=true then(Xv a b v2).m else(Zd a b v2).m)
def Wt(a:List Pr)(b:List Pr)(v2:Nat):PT 0 (Lv (List Pr×Nat) (List Pr) (List Pr)):=vs (wa v2 1)<|lc (Ad [(0,vL Ao a),(3,vL Ao b),(4,vN v2),(5,vB true),(6,vN (v2+1))] []) ((Ak (NO a b v2) Am (true,v2+1)).bind (Sum.elim (fun c=>(Xy a b v2 c).m) (fun z=>some (.rt z))))
def W1(a:List Pr)(b:List Pr)(v2:Nat):PT 0 (Lv (List Pr×Nat) (List Pr) (List Pr)):=lc (Ad [(0,vL Ao a),(3,vL Ao b),(4,vN v2),(5,vB true)] []) ((Wt a b v2).m)
def W0(a:List Pr)(b:List Pr)(v2:Nat):PT 0 (Lv (List Pr×Nat) (List Pr) (List Pr)):=vz (An a)<|br (decide ((v2:Int)<(a.length:Int))) (lc (Ad [(0,vL Ao a),(3,vL Ao b),(4,vN v2)] []) ((W1 a b v2).m)) (Ah (vF) b)
def R3(a:List Pr):List Pr×Nat→Option (Lv (List Pr×Nat) (List Pr) (List Pr)):=fun(b,v2)=>(W0 a b v2).m
def m0(a:List Pr):PT 0 (List Pr):=lr On nG a
def na(b:List Pr):PT 0 (List Pr):=vw (.ads 3 3 63 14)<|vw (.frz 3 [(3,(([]:List Pr).map Ao))] [])<|vz (fz ([]:List Pr))<|lc (Ad [(0,vL Ao b),(3,vL Ao ([]:List Pr)),(4,vI 0)] []) ((Ak (R3 b) Am (([]:List Pr),0)).bind (Sum.elim (fun a=>(m0 a).m) some))
def og(a:List Pr):PT 0 (List Pr):=lc (Ad [(0,vL Ao a),(3,.e0),(4,vI 0)] []) ((na a).m)
def n9(a:List Pr):PT 0 (List Pr):=lc (Ad [(0,vL Ao a),(3,.e0)] []) ((og a).m)
def jU(a:List Pr):Option (List Pr):=(n9 a).m
theorem ZHc{C:Cx}(co:CO C 0)(a:List Pr)(b:List Pr)(v2:Nat):KL Tryz.prog (AC tl) 76 C (pa [0,0,1,0,1,0,0,1,0,0,1,0,1,1] (Az Tryz.f62)) [.tmp 2] 0 (vW a b v2) (uN a b v2) On nG (NO a b v2):=fun(v3,v4) _ hm Q c e d=>As co Aa Ae (T1 a b v2 v3 v4) (AK [0,3,4,5,6]) (AK [0,3,4,5]) e hm d fun r g=>⟨fun f=>fun h=>fun i=>id,id⟩
theorem ZGA{C:Cx}(co:CO C 0)(a:List Pr)(b:List Pr)(v2:Nat):KL Tryz.prog (AC tl) 76 C (pa [0,0,0,1,0,1,1,1,0,0,1,0,0,1,0,1,1] (Az Tryz.f62)) [.tmp 2] 0 (xe a b v2) (wh a b v2) On nG (NG a b v2):=fun v9 _ hm Q c h f=>As co Aa Ae (X0 a b v2 v9) (AK [0,3,4,7]) (AK [0,3,4,7]) h hm f fun r g=>fun d=>fun e=>fun i=>⟨id,id⟩
theorem ZDZ{C:Cx}(co:CO C 0)(b:List Pr):KL Tryz.prog (AC tl) 76 C (pa [0,0,1,0,1,1] (Az Tryz.f62)) [.tmp 2] 0 (gE b) (vF) On nG (R3 b):=fun(d,v2) _ hm Q j c a=>Aj co Aa Ae 1 (W0 b d v2) (AK [0,3,4]) (AK [3]) c hm a fun r g=>⟨fun _ hm a=>sq (bk 1 (Aj co Aa Ae 1 (W1 b d v2) (AK [0,3,4,5]) nl c hm a fun r g=>fun _ hm a=>sq (Aj co Aa Ae 1 (Wt b d v2) (AK [0,3,4,5,6]) nl c hm a fun r g=>fun _ hm a=>bk 2 (lo (Ek (ZHc co b d v2) c hm a (fun k hm=>Aj co Aa Ae 1 (Xy b d v2 k) (AK [0,3,4,38]) nl c hm a fun r g=>fun _ hm a=>cd k hm (fun hm=>Aj co Aa Ae 1 (Xv b d v2) (AK [0,3,4,7]) nl c hm a fun r g=>fun _ hm a=>sq (bk 4 (lo (Ek (ZGA co b d v2) c hm a (fun h hm=>sq (GO co Aa Ae (.fst 0 (.fst 1 (.fst 2 (.fst 5 (.fst 6 (.fst 7 (.fst 3 (.fst 4 (.fst 8 (.fst 9 .nil)))))))))) [] (Zq b d v2 h) (Ac [0,3,4,7,8] [((1,63),true)]) hm a fun r g=>fun e=>fun f=>fun _ hm a=>As co Aa Ae (XU b d v2 h e f) (Ac [0,3,4] [((1,72),true)]) nl c hm a fun r g=>fun i=>fun _ hm a=>As co Aa Ae (Ty b v2 e f i) (AK [0,3,4]) nl c hm a fun r g=>id)))))) (fun hm=>As co Aa Ae (Zd b d v2) (AK [0,3,4]) nl c hm a fun r g=>fun _ hm a=>As co Aa Ae (TK b d v2) (AK [0,3,4]) nl c hm a fun r g=>id))))))),id⟩
theorem yS(b:List Pr):KC Tryz.prog 62 [vL Ao b] (jU b) On:=AE Tryz.func62 Tryz.ntmps62 Aa [.tmp 2] fun C co y hm d a=>Aj co Aa Ae 2 (n9 b) (AK [0,3]) nl nH hm a fun r g=>fun _ hm a=>sq (Aj co Aa Ae 1 (og b) (AK [0,3,4]) nl nH hm a fun r g=>fun _ hm a=>bk 0 (GI co (na b) (AK [0,3,4]) hm a fun r g=>fun _ hm a=>lo (AF (ZDZ co b) nH hm a (fun c hm=>Ax co Aa Ae (m0 c) hm a fun r g=>id))))
abbrev DI:Val→AV:=fun y=>.agg ((Ag y).map .d)
abbrev Kx:List (Af×Bool):=[((1,6),false),((1,7),false),((1,9),false),((1,11),false),((1,1095),true)]
abbrev Uf:List (Af×Bool):=[((1,6),false),((1,7),false),((1,9),false),((1,1095),true)]
abbrev Ir:List (Af×Bool):=[((1,6),false),((1,9),false),((1,1095),true)]
abbrev yj:List (Af×Bool):=[((1,3),false),((1,5),false),((1,6),false),((1,7),false),((1,9),false)]
abbrev CL:Af×Blk:=kk 6 33 7 [vI 0,.d (.int .u64 0),vS ⟨#[]⟩,.e0,.e0,.e0,.e0]
abbrev FZ(a:Msg×Bool):Af×Blk:=kk 7 45 5 (cD (AU a.1))
abbrev Hu(a:List Slt):Af×Blk:=kk 1095 61 8 (Ab Aq a)
abbrev Ms(a:Fld):Af×Blk:=kk 11 51 16 (cD (Ay a))
abbrev Pj(b:List Slt)(a:List Raw):Af×Blk:=kk 9 33 7 [vI 10,.d (.int .u64 0),vS ⟨#[]⟩,.e0,.e0,.ref (1,1095) 0 0 b.length,vL Av a]
abbrev US(a:List Slt):Af×Blk:=kk 9 33 7 [vI 10,.d (.int .u64 0),vS ⟨#[]⟩,.e0,.e0,.ref (1,1095) 0 0 a.length,.e0]
abbrev T4(a:List Slt):Af×Blk:=kk 1095 61 8 (Ab Aq a)
abbrev i3(a:List Slt):Af×Blk:=kk 9 33 7 [vI 10,.d (.int .u64 0),vS ⟨#[]⟩,.e0,.e0,.ref (1,1095) 0 0 a.length,.e0]
abbrev yP(a:List Slt):Af×Blk:=kk 9 33 7 [vI 10,.d (.int .u64 0),vS ⟨#[]⟩,.e0,.e0,.ref (1,1095) 0 0 a.length,.e0]
abbrev yF(a:Scm):Af×Blk:=kk 3 26 3 (cD (Ar a))
abbrev yc(a:Val):Af×Blk:=kk 5 33 7 (cD (Ag a))
abbrev yh:Af×Blk:=kk 9 33 7 [vI 10,.d (.int .u64 0),vS ⟨#[]⟩,.e0,.e0,.e0,.e0]
def ZSR:Pl:=(.opt [1,12] 1 (.fst 12 (.fst 13 (.fst 14 (.fst 15 (.fst 16 (.fst 17 .nil)))))) (.opt [1,12] 12 (.fst 13 (.fst 1 (.fst 14 (.fst 15 (.fst 16 (.fst 17 .nil)))))) .nil))
def ZS3:Pl:=(.opt [3,12] 3 (.fst 12 (.fst 13 (.fst 14 (.fst 15 (.fst 16 (.fst 17 .nil)))))) (.opt [3,12] 12 (.fst 3 (.fst 13 (.fst 14 (.fst 15 (.fst 16 (.fst 17 .nil)))))) .nil))
def ZSb:Pl:=(.opt [1,3,12] 1 ZS3 (.opt [1,3,12] 3 ZSR (.opt [1,3,12] 12 (.fst 1 (.fst 3 (.fst 13 (.fst 14 (.fst 15 (.fst 16 (.fst 17 .nil))))))) .nil)))
abbrev LZ:Val→AV:=fun y=>.agg ((Ag y).map .d)
def xN(b:Scm)(c:Val)(d:Msg×Bool):Nat×List Slt→St:=fun(v2,a)=>Ad [(3,.iptr (Ar b) 0),(5,.iptr (Ag c) 0),pp 6,pp 7,pp 9,(10,vN v2)] [CL,(FZ d),(i3 a),kk 1095 61 8 (Ab Aq a)]
def xh(b:Val):List Slt→Nat×St:=fun a=>(0,Ad [(5,.iptr (Ag b) 0),pp 6,pp 9] [CL,(yP a),(Hu a)])
def b7(c:Scm)(d:Val)(f:Msg×Bool)(v2:Nat)(b:Fld):Nat×List Slt→St:=fun(e,a)=>Ad [(3,.iptr (Ar c) 0),(5,.iptr (Ag d) 0),pp 6,pp 7,pp 9,(10,vN v2),pp 11,(12,vN e)] [CL,(FZ f),(US a),(Ms b),(T4 a)]
def ud(b:Scm)(c:Val)(d:Msg×Bool)(v2:Nat):List Slt→Nat×St:=fun a=>(2,Ad [(3,.iptr (Ar b) 0),(5,.iptr (Ag c) 0),pp 6,pp 7,pp 9,(10,vN v2)] [CL,(FZ d),kk 9 33 7 [vI 10,.d (.int .u64 0),vS ⟨#[]⟩,.e0,.e0,.ref (1,1095) 0 0 a.length,.e0],kk 1095 61 8 (Ab Aq a)])
def Zt(e:Scm)(f:Val)(g:Msg×Bool)(v2:Nat)(b:Fld)(d:Nat)(c:List Slt)(a:Val):PT 0 (Lv (Nat×List Slt) (List Slt) (Val)):=vs (wa d 1)<|vz (fl (c++([(.mk b.num a:Slt)])))<|ln (b7 e f g v2 b) (d+1,c++([(.mk b.num a:Slt)]))
def JJ(d:Scm)(e:Val)(g:Msg×Bool)(v2:Nat)(b:Fld)(f:Nat)(c:List Slt)(a:Val):PT 0 (Lv (Nat×List Slt) (List Slt) (Val)):=vz (fl (c++([(.mk b.num a:Slt)])))<|lc (Ad [(3,.iptr (Ar d) 0),(5,.iptr (Ag e) 0),pp 6,pp 7,pp 9,(10,vN v2),pp 11,(12,vN f)] [CL,(FZ g),kk 9 33 7 [vI 10,.d (.int .u64 0),vS ⟨#[]⟩,.e0,.e0,.ref (1,1095) 0 0 (c++([(.mk b.num a:Slt)])).length,.e0],(Ms b),kk 1095 61 8 (Ab Aq (c++([(.mk b.num a:Slt)])))]) ((Zt d e g v2 b f c a).m)
def Te(d:Scm)(g:Val)(e:Scm→Fld→Val→Option (Val))(i:Msg×Bool)(v2:Nat)(c:Fld)(h:Nat)(f:List Slt)(b:Slt):PT 0 (Lv (Nat×List Slt) (List Slt) (Val)):=tw (wg<|cs Tryz.prog 43 [.agg ((Ar d).map .d),.agg ((Ay c).map .d),.agg ((Ag b.val).map .d)] [] [] (e d c b.val) (fun y=>.agg ((Ag y).map .d)) fun a=>vw .sep<|ap f ((.mk c.num a:Slt):Slt)<|wg<|(JJ d g i v2 c h f a)) (cs Tryz.prog 43 [.agg ((Ar d).map .d),.agg ((Ay c).map .d),.agg ((Ag b.val).map .d)] [] [] (e d c b.val) (fun y=>.agg ((Ag y).map .d)) fun a=>wg<|vw .sep<|ap f ((.mk c.num a:Slt):Slt)<|wg<|(JJ d g i v2 c h f a))
def TN(d:Scm)(g:Val)(e:Scm→Fld→Val→Option (Val))(i:Msg×Bool)(v2:Nat)(c:Fld)(h:Nat)(f:List Slt)(b:Slt):PT 0 (Lv (Nat×List Slt) (List Slt) (Val)):=tw (wg<|cs Tryz.prog 43 [.agg ((Ar d).map .d),.agg ((Ay c).map .d),.agg ((Ag b.val).map .d)] [] [] (e d c b.val) (fun y=>.agg ((Ag y).map .d)) fun a=>vw .sep<|ap f ((.mk c.num a:Slt):Slt)<|wg<|(JJ d g i v2 c h f a)) (cs Tryz.prog 43 [.agg ((Ar d).map .d),.agg ((Ay c).map .d),.agg ((Ag b.val).map .d)] [] [] (e d c b.val) (fun y=>.agg ((Ag y).map .d)) fun a=>wg<|vw .sep<|ap f ((.mk c.num a:Slt):Slt)<|wg<|(JJ d g i v2 c h f a))
def XN(d:Scm)(g:Val)(b:Scm→Fld→Val→Option (Val))(i:Msg×Bool)(v2:Nat)(c:Fld)(h:Nat)(f:List Slt)(a:Slt):PT 0 (Lv (Nat×List Slt) (List Slt) (Val)):=tw (wg<|(Te d g b i v2 c h f a)) (tw (wg<|(TN d g b i v2 c h f a)) (cs Tryz.prog 43 [.agg ((Ar d).map .d),.agg ((Ay c).map .d),.agg ((Ag a.val).map .d)] [] [] (b d c a.val) (fun y=>.agg ((Ag y).map .d)) fun e=>wg<|wg<|vw .sep<|ap f ((.mk c.num e:Slt):Slt)<|wg<|(JJ d g i v2 c h f e)))
def Xr(f:Scm)(c:Val)(a:Scm→Fld→Val→Option (Val))(h:Msg×Bool)(v2:Nat)(e:Fld)(d:Nat)(g:List Slt):PT 0 (Lv (Nat×List Slt) (List Slt) (Val)):=ix c.slots d fun b=>wg<|(XN f c a h v2 e d g b)
def Wo(d:Scm)(e:Val)(f:Msg×Bool)(v2:Nat)(c:Fld)(b:Nat)(a:List Slt):PT 0 (Lv (Nat×List Slt) (List Slt) (Val)):=vs (wa b 1)<|vz (fl a)<|ln (b7 d e f v2 c) (b+1,a)
def W9(c:Scm)(d:Val)(f:Msg×Bool)(v2:Nat)(b:Fld)(e:Nat)(a:List Slt):PT 0 (Lv (Nat×List Slt) (List Slt) (Val)):=vz (fl a)<|lc (Ad [(3,.iptr (Ar c) 0),(5,.iptr (Ag d) 0),pp 6,pp 7,pp 9,(10,vN v2),pp 11,(12,vN e)] [CL,(FZ f),(US a),(Ms b),(T4 a)]) ((Wo c d f v2 b e a).m)
def WH(g:Scm)(b:Val)(f:Scm→Fld→Val→Option (Val))(h:Msg×Bool)(v2:Nat)(a:Fld)(d:Nat)(c:List Slt):PT 0 (Lv (Nat×List Slt) (List Slt) (Val)):=ix b.slots d fun e=>wg<|wg<|AZ (decide (e.num=a.num)) b.slots (d:Int) fun j=>AO (decide (e.num=a.num)) (ZVL a j.val) fun i=>vz (fl c)<|lc (Ad [(3,.iptr (Ar g) 0),(5,.iptr (Ag b) 0),pp 6,pp 7,pp 9,(10,vN v2),pp 11,(12,vN d),(61,vB (decide (e.num=a.num)&&(!i)))] [CL,(FZ h),(US c),(Ms a),(T4 c)]) (if(decide (e.num=a.num)&&(!i))=true then(Xr g b f h v2 a d c).m else(W9 g b h v2 a d c).m)
def WS(d:Scm)(b:Val)(c:Scm→Fld→Val→Option (Val))(f:Msg×Bool)(v2:Nat)(g:Fld)(e:Nat)(a:List Slt):PT 0 (Lv (Nat×List Slt) (List Slt) (Val)):=vz (An b.slots)<|br (decide ((e:Int)<(b.slots.length:Int))) (vz (fl a)<|lc (Ad [(3,.iptr (Ar d) 0),(5,.iptr (Ag b) 0),pp 6,pp 7,pp 9,(10,vN v2),pp 11,(12,vN e)] [CL,(FZ f),(US a),(Ms g),(T4 a)]) ((WH d b c f v2 g e a).m)) (vz (fl a)<|Ah (ud d b f v2) a)
def Rv(c:Scm)(d:Val)(a:Scm→Fld→Val→Option (Val))(g:Msg×Bool)(v2:Nat)(b:Fld):Nat×List Slt→Option (Lv (Nat×List Slt) (List Slt) (Val)):=fun(f,e)=>(WS c d a g v2 b f e).m
def WM(b:Scm)(c:Val)(d:Msg×Bool)(v2:Nat)(a:List Slt):PT 0 (Lv (Nat×List Slt) (List Slt) (Val)):=vs (wa v2 1)<|vz (fl a)<|ln (xN b c d) (v2+1,a)
def W6(d:Scm)(e:Val)(c:Scm→Fld→Val→Option (Val))(b:Msg×Bool)(v2:Nat)(a:List Slt):PT 0 (Lv (Nat×List Slt) (List Slt) (Val)):=wg<|ix b.1.fields v2 fun g=>wg<|vz (fl a)<|lc (Ad [(3,.iptr (Ar d) 0),(5,.iptr (Ag e) 0),pp 6,pp 7,pp 9,(10,vN v2),pp 11,(12,vI 0)] [CL,(FZ b),(i3 a),(Ms g),kk 1095 61 8 (Ab Aq a)]) ((Ak (Rv d e c b v2 g) Am (0,a)).bind (Sum.elim (fun f=>(WM d e b v2 f).m) (fun z=>some (.rt z))))
def Xm(e:Scm)(d:Val)(c:Scm→Fld→Val→Option (Val))(b:Msg×Bool)(v2:Nat)(a:List Slt):PT 0 (Lv (Nat×List Slt) (List Slt) (Val)):=wg<|vz (An b.1.fields)<|br (decide ((v2:Int)<(b.1.fields.length:Int))) (vz (fl a)<|lc (Ad [(3,.iptr (Ar e) 0),(5,.iptr (Ag d) 0),pp 6,pp 7,pp 9,(10,vN v2)] [CL,(FZ b),(i3 a),kk 1095 61 8 (Ab Aq a)]) ((W6 e d c b v2 a).m)) (vz (fl a)<|Ah (xh d) a)
def RP(b:Scm)(c:Val)(a:Scm→Fld→Val→Option (Val))(e:Msg×Bool):Nat×List Slt→Option (Lv (Nat×List Slt) (List Slt) (Val)):=fun(v2,d)=>(Xm b c a e v2 d).m
def xg(d:Val)(a:List Slt):Nat×List Raw→St:=fun(c,b)=>Ad [(5,.iptr (Ag d) 0),pp 6,pp 9,(13,vN c)] [CL,(Pj a b),(Hu a)]
def tX(a:List Slt):List Raw→Nat×St:=fun b=>(4,Ad [pp 6,pp 9] [CL,kk 9 33 7 [vI 10,.d (.int .u64 0),vS ⟨#[]⟩,.e0,.e0,.ref (1,1095) 0 0 a.length,vL Av b],(Hu a)])
def wI(e:Val)(a:List Slt)(c:Nat)(b:List Raw):Int→St:=fun d=>Ad [(5,.iptr (Ag e) 0),pp 6,pp 9,(13,vN c),(14,vI d)] [CL,(Pj a b),(Hu a)]
def wd(e:Val)(a:List Slt)(c:Nat)(b:List Raw):Int→Nat×St:=fun d=>(6,Ad [(5,.iptr (Ag e) 0),pp 6,pp 9,(13,vN c),(14,vI d)] [CL,(Pj a b),(Hu a)])
def Wr(g:Val)(b:List Slt)(d:Nat)(c:List Raw)(a:Int):PT 0 (Lv (Int) (Int) (Val)):=wg<|vg (decide ((0:Int)<a)) (wi (a-1))<|AZ (decide ((0:Int)<a)) c (a-1) fun e=>AZ (decide ((0:Int)<a)) g.raws (d:Int) fun f=>br (decide ((0:Int)<a)&&decide (f.num<e.num)) (vs (wi (a-1))<|vz (fl b)<|ln (wI g b d c) (a-1)) (vz (fl b)<|Ah (wd g b d c) a)
def RY(f:Val)(e:Scm→Fld→Val→Option (Val))(b:List Slt)(c:Nat)(a:List Raw):Int→Option (Lv (Int) (Int) (Val)):=fun d=>(Wr f b c a d).m
def WB(f:Val)(d:List Slt)(e:Nat)(b:List Raw)(a:Raw)(c:List Raw):PT 0 (Lv (Nat×List Raw) (List Raw) (Val)):=vs (wa e 1)<|vw (.frz 114 [] [((1,9),6,(((b++[a])++c).map Av))])<|vz (fz ((b++[a])++c))<|vz (fl d)<|ln (xg f d) (e+1,(b++[a])++c)
def WV(h:Val)(d:List Slt)(e:Nat)(f:List Raw)(g:Int):PT 0 (Lv (Nat×List Raw) (List Raw) (Val)):=wg<|sL f .no (.it g) fun a=>a0 a<|ix h.raws e fun b=>vw .sep<|ap a (b:Raw)<|wg<|sL f (.it g) .no fun c=>aq (a++[b]) c<|wg<|vz (fl ((a++[b])++c))<|vz (fl d)<|lc (Ad [(5,.iptr (Ag h) 0),pp 6,pp 9,(13,vN e)] [CL,kk 9 33 7 [vI 10,.d (.int .u64 0),vS ⟨#[]⟩,.e0,.e0,.ref (1,1095) 0 0 d.length,.ref (1,114) 0 0 ((a++[b])++c).length],kk 114 65 4 (Ab Av ((a++[b])++c)),(Hu d)]) ((WB h d e a b c).m)
def Xl(e:Val)(d:Scm→Fld→Val→Option (Val))(b:List Slt)(c:Nat)(a:List Raw):PT 0 (Lv (Nat×List Raw) (List Raw) (Val)):=wg<|vz (An a)<|vz (fl b)<|lc (Ad [(5,.iptr (Ag e) 0),pp 6,pp 9,(13,vN c),(14,vN a.length)] [CL,(Pj b a),(Hu b)]) ((Ak (RY e d b c a) Am (a.length:Int)).bind (Sum.elim (fun f=>(WV e b c a f).m) (fun z=>some (.rt z))))
def Xc(d:Val)(e:Scm→Fld→Val→Option (Val))(a:List Slt)(c:Nat)(b:List Raw):PT 0 (Lv (Nat×List Raw) (List Raw) (Val)):=vz (An d.raws)<|br (decide ((c:Int)<(d.raws.length:Int))) (vz (fl a)<|lc (Ad [(5,.iptr (Ag d) 0),pp 6,pp 9,(13,vN c)] [CL,(Pj a b),(Hu a)]) ((Xl d e a c b).m)) (vz (fl a)<|Ah (tX a) b)
def N4(e:Val)(a:Scm→Fld→Val→Option (Val))(c:List Slt):Nat×List Raw→Option (Lv (Nat×List Raw) (List Raw) (Val)):=fun(d,b)=>(Xc e a c d b).m
def nY(a:List Slt)(b:List Raw):PT 0 (Val):=wg<|wg<|vz (fr a)<|lr LZ nG (.mk 10 0 ⟨#[]⟩ [] [] a b:Val)
def oK(d:Val)(b:Scm→Fld→Val→Option (Val))(a:List Slt):PT 0 (Val):=vw (.adc (1,9) 6 1096 65 4)<|vw (.frz 1096 [] [((1,9),6,(([]:List Raw).map Av))])<|vz (fz ([]:List Raw))<|vz (fl a)<|lc (Ad [(5,.iptr (Ag d) 0),pp 6,pp 9,(13,vI 0)] [CL,kk 9 33 7 [vI 10,.d (.int .u64 0),vS ⟨#[]⟩,.e0,.e0,.ref (1,1095) 0 0 a.length,vL Av ([]:List Raw)],(Hu a)]) ((Ak (N4 d b a) Am (0,([]:List Raw))).bind (Sum.elim (fun c=>(nY a c).m) some))
def oX(c:Val)(b:Scm→Fld→Val→Option (Val))(a:List Slt):PT 0 (Val):=vz (fl a)<|lc (Ad [(5,.iptr (Ag c) 0),pp 6,pp 9,(13,vI 0)] [CL,(yP a),(Hu a)]) ((oK c b a).m)
def nB(d:Scm)(b:Val)(a:Scm→Fld→Val→Option (Val))(e:Msg×Bool):PT 0 (Val):=vw (.adc (1,9) 5 1095 61 8)<|vw (.fzb 3 [3])<|vw (.fzb 5 [5])<|vz (fl ([]:List Slt))<|lc (Ad [(3,.iptr (Ar d) 0),(5,.iptr (Ag b) 0),pp 6,pp 7,pp 9,(10,vI 0)] [CL,(FZ e),kk 9 33 7 [vI 10,.d (.int .u64 0),vS ⟨#[]⟩,.e0,.e0,.ref (1,1095) 0 0 ([]:List Slt).length,.e0],kk 1095 61 8 (Ab Aq ([]:List Slt))]) ((Ak (RP d b a e) Am (0,([]:List Slt))).bind (Sum.elim (fun c=>(oX b a c).m) some))
def pW(b:Scm)(c:Val)(a:Scm→Fld→Val→Option (Val))(d:Msg×Bool):PT 0 (Val):=lc (Ad [pp 3,pp 5,pp 6,pp 7,pp 9,(10,vI 0)] [(yF b),(yc c),CL,(FZ d),yh]) ((nB b c a d).m)
def nM(b:Scm)(e:ByteArray)(c:Val)(a:Scm→Fld→Val→Option (Val)):PT 0 (Val):=wg<|cl (Ug b e) fun d=>wg<|wg<|lc (Ad [pp 3,pp 5,pp 6,pp 7,pp 9] [(yF b),(yc c),CL,(FZ d),yh]) ((pW b c a d).m)
def Px(a:Scm→Fld→Val→Option (Val))(b:Scm)(c:ByteArray)(d:Val):Option (Val):=(nM b c d a).m
theorem ZHi{C:Cx}(co:CO C 0)(b:Scm)(f:Val)(e:Scm→Fld→Val→Option (Val))(j:Msg×Bool)(v2:Nat)(c:Fld)(i:∀(b:Scm) (v:Fld) (f:Val),KC Tryz.prog 43 [.agg ((Ar b).map .d),.agg ((Ay v).map .d),.agg ((Ag f).map .d)] (e b v f) DI):KL Tryz.prog (AC tl) 132 C (pa [0,0,1,1,0,0,1,0,0,1,0,1,1,1] (Az Tryz.f17)) [.cell 6 33] 0 (b7 b f j v2 c) (ud b f j v2) LZ nG (Rv b f e j v2 c):=fun(m,l) _ hm Q u p k=>Aj co Aa Ae 1 (WS b f e j v2 c m l) (Ac [3,5,6,7,9,10,11,12] Kx) (Ac [3,5,6,7,9,10] Uf) p hm k fun r g=>⟨fun _ hm k=>sq (bk 3 (Aj co Aa Ae 1 (WH b f e j v2 c m l) (Ac [3,5,6,7,9,10,11,12,61] Kx) nl p hm k fun r g=>fun w=>fun z=>fun x=>fun _ hm k=>cd (decide (w.num=c.num)&&(!x)) hm (fun hm=>GO co Aa Ae (.fst 0 (.fst 2 (.fst 4 (.fst 6 (.fst 7 (.fst 8 (.fst 9 (.fst 10 (.fst 5 (.fst 11 ZSb)))))))))) [3,5] (Xr b f e j v2 c m l) (Ac [3,5,6,7,9,10,11,12] Kx) hm k fun r g=>J8 (fun(o:∀(d:Val),PT.n (JJ b f j v2 c m l d) _)=>J8 (fun(q:∀(a:Slt),PT.n (Te b f e j v2 c m l a) _)=>J8 (fun(s:∀(a:Slt),PT.n (TN b f e j v2 c m l a) _)=>J8 (fun(t:∀(a:Slt),PT.n (XN b f e j v2 c m l a) _)=>fun a=>(t a)) (fun a=>⟨(q a),⟨(s a),⟨fun y hy n _ _=>by rw[(i b c a.val).x,(i b c a.val).e];exact(i b c a.val).k _ n y hy,fun d=>(o d)⟩,fun _ h=>h⟩,fun _ h=>h⟩)) (fun a=>⟨⟨fun y hy n _ _=>by rw[(i b c a.val).x,(i b c a.val).e];exact(i b c a.val).k _ n y hy,fun d=>(o d)⟩,⟨fun y hy n _ _=>by rw[(i b c a.val).x,(i b c a.val).e];exact(i b c a.val).k _ n y hy,fun d=>(o d)⟩,fun _ h=>h⟩)) (fun a=>⟨⟨fun y hy n _ _=>by rw[(i b c a.val).x,(i b c a.val).e];exact(i b c a.val).k _ n y hy,fun d=>(o d)⟩,⟨fun y hy n _ _=>by rw[(i b c a.val).x,(i b c a.val).e];exact(i b c a.val).k _ n y hy,fun d=>(o d)⟩,fun _ h=>h⟩)) (fun d=>fun _ hm k=>As co Aa Ae (Zt b f j v2 c m l d) (Ac [3,5,6,7,9,10,11,12] Kx) nl p hm k fun r g=>id)) (fun hm=>As co Aa Ae (W9 b f j v2 c m l) (Ac [3,5,6,7,9,10,11,12] Kx) nl p hm k fun r g=>fun _ hm k=>As co Aa Ae (Wo b f j v2 c m l) (Ac [3,5,6,7,9,10,11,12] Kx) nl p hm k fun r g=>id))),id⟩
theorem ZGG{C:Cx}(co:CO C 0)(c:Scm)(b:Val)(a:Scm→Fld→Val→Option (Val))(e:Msg×Bool)(m:∀(c:Scm) (j:Fld) (b:Val),KC Tryz.prog 43 [.agg ((Ar c).map .d),.agg ((Ay j).map .d),.agg ((Ag b).map .d)] (a c j b) DI):KL Tryz.prog (AC tl) 132 C (pa [0,0,1,0,1,1,1] (Az Tryz.f17)) [.cell 6 33] 0 (xN c b e) (xh b) LZ nG (RP c b a e):=fun(v2,k) _ hm Q i f d=>Aj co Aa Ae 1 (Xm c b a e v2 k) (Ac [3,5,6,7,9,10] Uf) (Ac [5,6,9] Ir) f hm d fun r g=>⟨fun _ hm d=>sq (bk 1 (Aj co Aa Ae 2 (W6 c b a e v2 k) (Ac [3,5,6,7,9,10,11,12] Kx) nl f hm d fun r g=>fun l=>fun _ hm d=>bk 2 (lo (Ek (ZHi co c b a e v2 l m) f hm d (fun h hm=>As co Aa Ae (WM c b e v2 h) (Ac [3,5,6,7,9,10] Uf) nl f hm d fun r g=>id))))),id⟩
theorem ZJf{C:Cx}(co:CO C 0)(d:Val)(e:Scm→Fld→Val→Option (Val))(b:List Slt)(c:Nat)(a:List Raw)(o:∀(i:Scm) (j:Fld) (d:Val),KC Tryz.prog 43 [.agg ((Ar i).map .d),.agg ((Ay j).map .d),.agg ((Ag d).map .d)] (e i j d) DI):KL Tryz.prog (AC tl) 132 C (pa [0,0,0,1,0,0,1,0,0,1,0,1,1,1,1] (Az Tryz.f17)) [.cell 6 33] 0 (wI d b c a) (wd d b c a) LZ nG (RY d e b c a):=fun f _ hm Q h n m=>As co Aa Ae (Wr d b c a f) (Ac [5,6,9,13,14] Ir) (Ac [5,6,9,13,14] Ir) n hm m fun r g=>fun k=>fun l=>⟨id,id⟩
theorem ZEr{C:Cx}(co:CO C 0)(d:Val)(b:Scm→Fld→Val→Option (Val))(a:List Slt)(p:∀(n:Scm) (o:Fld) (d:Val),KC Tryz.prog 43 [.agg ((Ar n).map .d),.agg ((Ay o).map .d),.agg ((Ag d).map .d)] (b n o d) DI):KL Tryz.prog (AC tl) 132 C (pa [0,0,1,0,1,1,1,1] (Az Tryz.f17)) [.cell 6 33] 0 (xg d a) (tX a) LZ nG (N4 d b a):=fun(c,e) _ hm Q m h f=>Aj co Aa Ae 1 (Xc d b a c e) (Ac [5,6,9,13] Ir) (Ac [6,9] Ir) h hm f fun r g=>⟨fun _ hm f=>sq (bk 5 (Aj co Aa Ae 1 (Xl d b a c e) (Ac [5,6,9,13,14] Ir) nl h hm f fun r g=>fun _ hm f=>sq (bk 6 (lo (Ek (ZJf co d b a c e p) h hm f (fun l hm=>As co Aa Ae (WV d a c e l) (Ac [5,6,9,13] [((1,6),false),((1,9),false),((1,114),true),((1,1095),true)]) nl h hm f fun r g=>fun j=>fun i=>fun k=>fun _ hm f=>As co Aa Ae (WB d a c j i k) (Ac [5,6,9,13] Ir) nl h hm f fun r g=>id)))))),id⟩
theorem Uj(a:Scm→Fld→Val→Option (Val))(k:∀(d:Scm) (f:Fld) (c:Val),KC Tryz.prog 43 [.agg ((Ar d).map .d),.agg ((Ay f).map .d),.agg ((Ag c).map .d)] (a d f c) DI)(d:Scm)(f:ByteArray)(c:Val):KC Tryz.prog 17 [.agg ((Ar d).map .d),vS f,.agg ((Ag c).map .d)] (Px a d f c) LZ:=AE Tryz.func17 Tryz.ntmps17 Aa [.cell 6 33] fun C co y hm j b=>Aj co Aa Ae 3 (nM d f c a) (Ac [3,5,6,7,9] yj) nl nH hm b fun r g=>fun i=>fun _ hm b=>sq (Aj co Aa Ae 1 (pW d c a i) (Ac [3,5,6,7,9,10] yj) nl nH hm b fun r g=>fun _ hm b=>bk 0 (GI co (nB d c a i) (Ac [3,5,6,7,9,10] Uf) hm b fun r g=>fun _ hm b=>lo (AF (ZGG co d c a i k) nH hm b (fun e hm=>sq (Aj co Aa Ae 1 (oX c a e) (Ac [5,6,9,13] Ir) nl nH hm b fun r g=>fun _ hm b=>bk 4 (GI co (oK c a e) (Ac [5,6,9,13] Ir) hm b fun r g=>fun _ hm b=>lo (AF (ZEr co c a e k) nH hm b (fun h hm=>Ax co Aa Ae (nY e h) hm b fun r g=>id))))))))
abbrev ZP:Val→AV:=fun y=>.agg ((Ag y).map .d)
def fA(d:Scm)(b:Typ)(c:Val)(a:Scm→Fld→Val→Option (Val)):PT 0 (Val):=wg<|br (decide (b.kind=(10:Int))) (wg<|wg<|wg<|cs Tryz.prog 17 [.agg ((Ar d).map .d),vS b.name,.agg ((Ag c).map .d)] [] [] (Px a d b.name c) (fun y=>.agg ((Ag y).map .d)) fun e=>wg<|lr ZP nG e) (wg<|cl (iI c) fun f=>wg<|lr ZP nG f)
def KY(a:Scm→Fld→Val→Option (Val))(b:Scm)(c:Typ)(d:Val):Option (Val):=(fA b c d a).m
theorem F4(a:Scm→Fld→Val→Option (Val))(e:∀(b:Scm) (c:Fld) (d:Val),KC Tryz.prog 43 [.agg ((Ar b).map .d),.agg ((Ay c).map .d),.agg ((Ag d).map .d)] (a b c d) DI)(b:Scm)(c:Typ)(d:Val):KC Tryz.prog 79 [.agg ((Ar b).map .d),.agg ((Hv c).map .d),.agg ((Ag d).map .d)] (KY a b c d) ZP:=AE Tryz.func79 Tryz.ntmps79 Aa [.cell 6 33] fun C co y hm f i=>Ax co Aa Ae (fA b c d a) hm i fun r g=>⟨⟨fun y hy h _ _=>by rw[(Uj a e b c.name d).x,(Uj a e b c.name d).e];exact(Uj a e b c.name d).k _ h y hy,fun j=>id⟩,fun k=>id⟩
abbrev Mx:List (Af×Bool):=[((1,6),false),((1,7),false),((1,1073),true)]
abbrev OY:List (Af×Bool):=[((1,6),false),((1,9),true)]
abbrev KI:List (Af×Bool):=[((1,3),false),((1,4),false),((1,5),false),((1,6),false)]
abbrev yt:List (Af×Bool):=[((1,3),false),((1,4),false),((1,5),false),((1,6),false),((1,7),false)]
abbrev C6:Af×Blk:=kk 6 33 7 [vI 0,.d (.int .u64 0),vS ⟨#[]⟩,.e0,.e0,.e0,.e0]
abbrev IH(a:Scm):Af×Blk:=kk 3 26 3 (cD (Ar a))
abbrev It(a:Fld):Af×Blk:=kk 4 51 16 (cD (Ay a))
abbrev IF(a:Val):Af×Blk:=kk 5 33 7 (cD (Ag a))
abbrev ws(a:List Val):Af×Blk:=kk 7 33 7 [vI 11,.d (.int .u64 0),vS ⟨#[]⟩,.ref (1,1073) 0 0 a.length,.e0,.e0,.e0]
abbrev wL(a:List Val)(b:Val):Af×Blk:=kk 7 33 7 [vI 11,.d (.int .u64 0),vS ⟨#[]⟩,.ref (1,1073) 0 0 (a++[b]).length,.e0,.e0,.e0]
abbrev wr:Af×Blk:=kk 7 33 7 [vI 11,.d (.int .u64 0),vS ⟨#[]⟩,.e0,.e0,.e0,.e0]
def xO(b:Scm)(c:Fld)(d:Val):Nat×List Val→St:=fun(e,a)=>Ad [(3,.iptr (Ar b) 0),(4,.iptr (Ay c) 0),(5,.iptr (Ag d) 0),pp 6,pp 7,(8,vN e)] [C6,(ws a),kk 1073 33 7 (Ab A7 a)]
def wK:List Val→Nat×St:=fun a=>(0,Ad [pp 6,pp 7] [C6,kk 7 33 7 [vI 11,.d (.int .u64 0),vS ⟨#[]⟩,.ref (1,1073) 0 0 a.length,.e0,.e0,.e0],kk 1073 33 7 (Ab A7 a)])
def N0(d:Scm)(e:Fld)(f:Val)(b:Nat)(a:List Val)(c:Val):PT 0 (Lv (Nat×List Val) (List Val) (Val)):=vs (wa b 1)<|vz (fl (a++[c]))<|ln (xO d e f) (b+1,a++[c])
def Ze(c:Scm)(d:Fld)(f:Val)(e:Scm→Fld→Val→Option (Val))(g:Nat)(b:List Val):PT 0 (Lv (Nat×List Val) (List Val) (Val)):=ix f.list g fun h=>tw (wg<|cs Tryz.prog 79 [.agg ((Ar c).map .d),.agg ((Hv d.type).map .d),.agg ((Ag h).map .d)] [] [] (KY e c d.type h) (fun y=>.agg ((Ag y).map .d)) fun a=>vw .sep<|ap b (a:Val)<|wg<|vz (fl (b++[a]))<|lc (Ad [(3,.iptr (Ar c) 0),(4,.iptr (Ay d) 0),(5,.iptr (Ag f) 0),pp 6,pp 7,(8,vN g)] [C6,(wL b a),kk 1073 33 7 (Ab A7 (b++[a]))]) ((N0 c d f g b a).m)) (cs Tryz.prog 79 [.agg ((Ar c).map .d),.agg ((Hv d.type).map .d),.agg ((Ag h).map .d)] [] [] (KY e c d.type h) (fun y=>.agg ((Ag y).map .d)) fun a=>wg<|vw .sep<|ap b (a:Val)<|wg<|vz (fl (b++[a]))<|lc (Ad [(3,.iptr (Ar c) 0),(4,.iptr (Ay d) 0),(5,.iptr (Ag f) 0),pp 6,pp 7,(8,vN g)] [C6,(wL b a),kk 1073 33 7 (Ab A7 (b++[a]))]) ((N0 c d f g b a).m))
def Zm(e:Scm)(f:Fld)(b:Val)(c:Scm→Fld→Val→Option (Val))(d:Nat)(a:List Val):PT 0 (Lv (Nat×List Val) (List Val) (Val)):=vz (An b.list)<|br (decide ((d:Int)<(b.list.length:Int))) (vz (fl a)<|lc (Ad [(3,.iptr (Ar e) 0),(4,.iptr (Ay f) 0),(5,.iptr (Ag b) 0),pp 6,pp 7,(8,vN d)] [C6,(ws a),kk 1073 33 7 (Ab A7 a)]) ((Ze e f b c d a).m)) (vz (fl a)<|Ah (wK) a)
def RL(b:Scm)(c:Fld)(d:Val)(a:Scm→Fld→Val→Option (Val)):Nat×List Val→Option (Lv (Nat×List Val) (List Val) (Val)):=fun(f,e)=>(Zm b c d a f e).m
def dx(a:List Val):PT 0 (Val):=wg<|wg<|vz (fr a)<|lr DI nG (.mk 11 0 ⟨#[]⟩ a [] [] []:Val)
def et(b:Scm)(c:Fld)(d:Val)(a:Scm→Fld→Val→Option (Val)):PT 0 (Val):=vw (.adc (1,7) 3 1073 33 7)<|vw (.fzb 3 [3])<|vw (.fzb 4 [4])<|vw (.fzb 5 [5])<|vz (fl ([]:List Val))<|lc (Ad [(3,.iptr (Ar b) 0),(4,.iptr (Ay c) 0),(5,.iptr (Ag d) 0),pp 6,pp 7,(8,vI 0)] [C6,kk 7 33 7 [vI 11,.d (.int .u64 0),vS ⟨#[]⟩,.ref (1,1073) 0 0 ([]:List Val).length,.e0,.e0,.e0],kk 1073 33 7 (Ab A7 ([]:List Val))]) ((Ak (RL b c d a) Am (0,([]:List Val))).bind (Sum.elim (fun e=>(dx e).m) some))
def fS(b:Scm)(c:Fld)(d:Val)(a:Scm→Fld→Val→Option (Val)):PT 0 (Val):=lc (Ad [pp 3,pp 4,pp 5,pp 6,pp 7,(8,vI 0)] [(IH b),(It c),(IF d),C6,wr]) ((et b c d a).m)
def eJ(b:Scm)(c:Fld)(d:Val)(a:Scm→Fld→Val→Option (Val)):PT 0 (Val):=wg<|lc (Ad [pp 3,pp 4,pp 5,pp 6,pp 7] [(IH b),(It c),(IF d),C6,wr]) ((fS b c d a).m)
def wZ(b:Scm)(c:Fld)(d:Val):List Pr×Nat→St:=fun(a,e)=>Ad [(3,.iptr (Ar b) 0),(4,.iptr (Ay c) 0),(5,.iptr (Ag d) 0),pp 6,(9,.ref (1,9) 0 0 a.length),(10,vN e)] [C6,kk 9 63 14 (Ab Ao a)]
def xq:List Pr→Nat×St:=fun a=>(2,Ad [pp 6,(9,.ref (1,9) 0 0 a.length)] [C6,kk 9 63 14 (Ab Ao a)])
def X7(e:Scm)(f:Fld)(g:Val)(c:List Pr)(d:Nat)(a:Val)(b:Val):PT 0 (Lv (List Pr×Nat) (List Pr) (Val)):=vs (wa d 1)<|vz (fl (c++([(.mk a b:Pr)])))<|ln (wZ e f g) (c++([(.mk a b:Pr)]),d+1)
def XO(d:Scm)(e:Fld)(f:Val)(h:Scm→Fld→Val→Option (Val))(c:List Pr)(g:Nat):PT 0 (Lv (List Pr×Nat) (List Pr) (Val)):=ix f.pairs g fun j=>ix f.pairs g fun i=>du (cl (iI j.key) fun a=>cs Tryz.prog 79 [.agg ((Ar d).map .d),.agg ((Hv e.type).map .d),.agg ((Ag i.val).map .d)] [] [] (KY h d e.type i.val) (fun y=>.agg ((Ag y).map .d)) fun b=>vw .sep<|ap c ((.mk a b:Pr):Pr)<|vz (fl (c++([(.mk a b:Pr)])))<|lc (Ad [(3,.iptr (Ar d) 0),(4,.iptr (Ay e) 0),(5,.iptr (Ag f) 0),pp 6,(9,.ref (1,9) 0 0 (c++([(.mk a b:Pr)])).length),(10,vN g)] [C6,kk 9 63 14 (Ab Ao (c++([(.mk a b:Pr)])))]) ((X7 d e f c g a b).m))
def WU(e:Scm)(f:Fld)(b:Val)(c:Scm→Fld→Val→Option (Val))(a:List Pr)(d:Nat):PT 0 (Lv (List Pr×Nat) (List Pr) (Val)):=vz (An b.pairs)<|br (decide ((d:Int)<(b.pairs.length:Int))) (vz (fl a)<|lc (Ad [(3,.iptr (Ar e) 0),(4,.iptr (Ay f) 0),(5,.iptr (Ag b) 0),pp 6,(9,.ref (1,9) 0 0 a.length),(10,vN d)] [C6,kk 9 63 14 (Ab Ao a)]) ((XO e f b c a d).m)) (vz (fl a)<|Ah (xq) a)
def Rq(b:Scm)(c:Fld)(d:Val)(a:Scm→Fld→Val→Option (Val)):List Pr×Nat→Option (Lv (List Pr×Nat) (List Pr) (Val)):=fun(e,f)=>(WU b c d a e f).m
def ox(a:List Pr):PT 0 (Val):=vw (.frz 9 [(9,(a.map Ao))] [])<|vz (fz a)<|vw .sep<|cl (yS a) fun b=>wg<|lr DI nG (.mk 12 0 ⟨#[]⟩ [] b [] []:Val)
def nS(c:Scm)(d:Fld)(e:Val)(a:Scm→Fld→Val→Option (Val)):PT 0 (Val):=vw (.ads 9 9 63 14)<|vw (.fzb 3 [3])<|vw (.fzb 4 [4])<|vw (.fzb 5 [5])<|vz (fl ([]:List Pr))<|lc (Ad [(3,.iptr (Ar c) 0),(4,.iptr (Ay d) 0),(5,.iptr (Ag e) 0),pp 6,(9,.ref (1,9) 0 0 ([]:List Pr).length),(10,vI 0)] [C6,kk 9 63 14 (Ab Ao ([]:List Pr))]) ((Ak (Rq c d e a) Am (([]:List Pr),0)).bind (Sum.elim (fun b=>(ox b).m) some))
def mQ(b:Scm)(c:Fld)(d:Val)(a:Scm→Fld→Val→Option (Val)):PT 0 (Val):=lc (Ad [pp 3,pp 4,pp 5,pp 6,(9,.e0),(10,vI 0)] [(IH b),(It c),(IF d),C6]) ((nS b c d a).m)
def oR(b:Scm)(c:Fld)(d:Val)(a:Scm→Fld→Val→Option (Val)):PT 0 (Val):=lc (Ad [pp 3,pp 4,pp 5,pp 6,(9,.e0)] [(IH b),(It c),(IF d),C6]) ((mQ b c d a).m)
def o7(c:Scm)(d:Fld)(e:Val)(a:Scm→Fld→Val→Option (Val)):PT 0 (Val):=wg<|wg<|wg<|cs Tryz.prog 79 [.agg ((Ar c).map .d),.agg ((Hv d.type).map .d),.agg ((Ag e).map .d)] [] [] (KY a c d.type e) (fun y=>.agg ((Ag y).map .d)) fun b=>wg<|lr DI nG b
def pt(b:Scm)(c:Fld)(d:Val)(a:Scm→Fld→Val→Option (Val)):PT 0 (Val):=lc (Ad [pp 3,pp 4,pp 5,pp 6] [(IH b),(It c),(IF d),C6]) ((o7 b c d a).m)
def mo(c:Scm)(b:Fld)(d:Val)(a:Scm→Fld→Val→Option (Val)):PT 0 (Val):=wg<|lc (Ad [pp 3,pp 4,pp 5,pp 6,(39,vB (decide (b.card=(5:Int))))] [(IH c),(It b),(IF d),C6]) (if decide (b.card=(5:Int))=true then(oR c b d a).m else(pt c b d a).m)
def mU(b:Scm)(c:Fld)(d:Val)(a:Scm→Fld→Val→Option (Val)):PT 0 (Val):=lc (Ad [pp 3,pp 4,pp 5,pp 6] [(IH b),(It c),(IF d),C6]) ((mo b c d a).m)
def mz(c:Scm)(b:Fld)(d:Val)(a:Scm→Fld→Val→Option (Val)):PT 0 (Val):=wg<|lc (Ad [pp 3,pp 4,pp 5,pp 6,(13,vB (decide (b.card=(4:Int))))] [(IH c),(It b),(IF d),C6]) (if decide (b.card=(4:Int))=true then(eJ c b d a).m else(mU c b d a).m)
def mu(b:Scm)(c:Fld)(d:Val)(a:Scm→Fld→Val→Option (Val)):PT 0 (Val):=lc (Ad [pp 3,pp 4,pp 5,pp 6] [(IH b),(It c),(IF d),C6]) ((mz b c d a).m)
def UT(a:Scm→Fld→Val→Option (Val))(b:Scm)(c:Fld)(d:Val):Option (Val):=(mu b c d a).m
theorem ZHE{C:Cx}(co:CO C 0)(b:Scm)(c:Fld)(d:Val)(a:Scm→Fld→Val→Option (Val))(i:∀(b:Scm) (c:Fld) (d:Val),KC Tryz.prog 43 [.agg ((Ar b).map .d),.agg ((Ay c).map .d),.agg ((Ag d).map .d)] (a b c d) DI):KL Tryz.prog (AC tl) 76 C (pa [0,0,1,0,1,0,1,0,1] (Az Tryz.f43)) [.cell 6 33] 0 (xO b c d) (wK) DI nG (RL b c d a):=fun(k,j) _ hm Q o m e=>Aj co Aa Ae 1 (Zm b c d a k j) (Ac [3,4,5,6,7,8] Mx) (Ac [6,7] Mx) m hm e fun r g=>⟨fun _ hm e=>sq (bk 1 (GO co Aa Ae (.fst 0 (.fst 2 (.fst 3 (.fst 4 (.fst 5 (.fst 6 (.fst 7 (.fst 8 (.fst 9 (.two 1 10 (.fst 10 (.fst 11 (.fst 12 (.fst 13 (.fst 14 .nil))))) (.fst 1 (.fst 11 (.fst 12 (.fst 13 (.fst 14 .nil))))))))))))))) [3,4,5] (Ze b c d a k j) (Ac [3,4,5,6,7,8] Mx) hm e fun r g=>fun f=>⟨⟨fun y hy l _ _=>by rw[(F4 a i b c.type f).x,(F4 a i b c.type f).e];exact(F4 a i b c.type f).k _ l y hy,fun n=>fun _ hm e=>As co Aa Ae (N0 b c d k j n) (Ac [3,4,5,6,7,8] Mx) nl m hm e fun r g=>id⟩,⟨fun y hy l _ _=>by rw[(F4 a i b c.type f).x,(F4 a i b c.type f).e];exact(F4 a i b c.type f).k _ l y hy,fun n=>fun _ hm e=>As co Aa Ae (N0 b c d k j n) (Ac [3,4,5,6,7,8] Mx) nl m hm e fun r g=>id⟩,fun _ h=>h⟩)),id⟩
theorem ZH2{C:Cx}(co:CO C 0)(b:Scm)(c:Fld)(d:Val)(a:Scm→Fld→Val→Option (Val))(h:∀(b:Scm) (c:Fld) (d:Val),KC Tryz.prog 43 [.agg ((Ar b).map .d),.agg ((Ay c).map .d),.agg ((Ag d).map .d)] (a b c d) DI):KL Tryz.prog (AC tl) 76 C (pa [0,0,1,0,1,0,1,0,1,1] (Az Tryz.f43)) [.cell 6 33] 0 (wZ b c d) (xq) DI nG (Rq b c d a):=fun(i,j) _ hm Q m n e=>Aj co Aa Ae 1 (WU b c d a i j) (Ac [3,4,5,6,9,10] OY) (Ac [6,9] OY) n hm e fun r g=>⟨fun _ hm e=>sq (bk 3 (GO co Aa Ae (.fst 0 (.fst 1 (.fst 2 (.fst 3 (.fst 4 (.fst 5 (.fst 8 (.fst 9 (.fst 10 (.fst 11 (.fst 12 (.fst 13 (.fst 14 (.fst 15 (.fst 6 (.two 7 16 (.fst 16 (.fst 17 (.fst 18 (.fst 19 (.fst 20 (.fst 21 .nil)))))) (.fst 7 (.fst 17 (.fst 18 (.fst 19 (.fst 20 (.fst 21 .nil)))))))))))))))))))))) [3,4,5] (XO b c d a i j) (Ac [3,4,5,6,9,10] OY) hm e fun r g=>fun p=>fun f=>fun k=>⟨fun y hy o _ _=>by rw[(F4 a h b c.type f.val).x,(F4 a h b c.type f.val).e];exact(F4 a h b c.type f.val).k _ o y hy,fun l=>fun _ hm e=>As co Aa Ae (X7 b c d i j k l) (Ac [3,4,5,6,9,10] OY) nl n hm e fun r g=>id⟩)),id⟩
theorem ZSD(a:Scm→Fld→Val→Option (Val))(f:∀(d:Scm) (c:Fld) (e:Val),KC Tryz.prog 43 [.agg ((Ar d).map .d),.agg ((Ay c).map .d),.agg ((Ag e).map .d)] (a d c e) DI)(d:Scm)(c:Fld)(e:Val):KC Tryz.prog 43 [.agg ((Ar d).map .d),.agg ((Ay c).map .d),.agg ((Ag e).map .d)] (UT a d c e) DI:=AE Tryz.func43 Tryz.ntmps43 Aa [.cell 6 33] fun C co y hm i b=>Aj co Aa Ae 1 (mu d c e a) (Ac [3,4,5,6] KI) nl nH hm b fun r g=>fun _ hm b=>sq (Aj co Aa Ae 1 (mz d c e a) (Ac [3,4,5,6,13] KI) nl nH hm b fun r g=>fun _ hm b=>cd (decide (c.card=(4:Int))) hm (fun hm=>Aj co Aa Ae 1 (eJ d c e a) (Ac [3,4,5,6,7] yt) nl nH hm b fun r g=>fun _ hm b=>sq (Aj co Aa Ae 1 (fS d c e a) (Ac [3,4,5,6,7,8] yt) nl nH hm b fun r g=>fun _ hm b=>bk 0 (GI co (et d c e a) (Ac [3,4,5,6,7,8] Mx) hm b fun r g=>fun _ hm b=>lo (AF (ZHE co d c e a f) nH hm b (fun k hm=>As co Aa Ae (dx k) nl nl nH hm b fun r g=>id))))) (fun hm=>As co Aa Ae (mU d c e a) (Ac [3,4,5,6] KI) nl nH hm b fun r g=>fun _ hm b=>sq (Aj co Aa Ae 1 (mo d c e a) (Ac [3,4,5,6,39] KI) nl nH hm b fun r g=>fun _ hm b=>cd (decide (c.card=(5:Int))) hm (fun hm=>Aj co Aa Ae 1 (oR d c e a) (Ac [3,4,5,6,9] KI) nl nH hm b fun r g=>fun _ hm b=>sq (Aj co Aa Ae 1 (mQ d c e a) (Ac [3,4,5,6,9,10] KI) nl nH hm b fun r g=>fun _ hm b=>bk 2 (GI co (nS d c e a) (Ac [3,4,5,6,9,10] OY) hm b fun r g=>fun _ hm b=>lo (AF (ZH2 co d c e a f) nH hm b (fun h hm=>As co Aa Ae (ox h) nl nl nH hm b fun r g=>fun l=>id))))) (fun hm=>As co Aa Ae (pt d c e a) (Ac [3,4,5,6] KI) nl nH hm b fun r g=>fun _ hm b=>Ax co Aa Ae (o7 d c e a) hm b fun r g=>⟨fun y hy j _ _=>by rw[(F4 a f d c.type e).x,(F4 a f d c.type e).e];exact(F4 a f d c.type e).k _ j y hy,fun m=>id⟩))))
def K2:Nat→Scm→Fld→Val→Option (Val)
 |0=>fun _ _ _=>none
 |a+1=>UT (K2 a)
theorem yO:∀(d:Nat) (a:Scm) (b:Fld) (c:Val),KC Tryz.prog 43 [.agg ((Ar a).map .d),.agg ((Ay b).map .d),.agg ((Ag c).map .d)] (K2 d a b c) DI
 |0,a,b,c=>⟨fun _ _ _ h=>(by cases h),by intro r;kernel_rfl,by intro r y;kernel_rfl⟩
 |d+1,a,b,c=>ZSD (K2 d) (yO d) a b c
abbrev E7:Bool→AV:=fun y=>vB y
def iW(c:Scm)(d:ByteArray)(a:Val):PT 0 (Bool):=wg<|wg<|cl (ZVe c d a) fun b=>wg<|wg<|wg<|AO (decide (b=(0:Int))) (Uj (K2 Am) (yO Am) c d a) fun e=>AO (decide (b=(0:Int))) (Z2 Am a e) fun f=>lr E7 nG (decide (b=(0:Int))&&f)
def jR(a:Scm)(b:ByteArray)(c:Val):Option (Bool):=(iW a b c).m
theorem rj(a:Scm)(b:ByteArray)(c:Val):KC Tryz.prog 7 [.agg ((Ar a).map .d),vS b,.agg ((Ag c).map .d)] (jR a b c) E7:=AE Tryz.func7 Tryz.ntmps7 Aa [.tmp 6] fun C co y hm d e=>Ax co Aa Ae (iW a b c) hm e fun r g=>fun f=>fun h=>fun i=>id
abbrev Xz:Af×Blk:=kk 4 45 5 [vS ⟨#[]⟩,.e0,.e0,.e0,.e0]
abbrev Sr:Msg×Bool→AV:=fun y=>.tup [.agg ((AU y.1).map .d),vB y.2]
def q9(a:Msg→Option Bool):Cl:=fun no l H θ=>(∀(z0:Msg) y,a z0=some y→CM Tryz.prog l no H (θ 1) [.agg ((AU z0).map .d)] (vB y))
def uY(a:List Msg):Nat→St:=fun b=>Ad [(1,.fn (.yield 1) [] []),pp 4,(9,vL AU a),(10,vN a.length),(11,vN b)] [Xz]
def vx:Unit→Nat×St:=fun _=>(0,Ad [pp 4] [Xz])
def Zc(c:List Msg)(d:Msg→Option Bool)(a:Nat):PT 0 (Lv (Nat) (Unit) (Msg×Bool)):=br (decide ((a:Int)<(c.length:Int))) (ix c a fun b=>wg<|wg<|cf Tryz.prog 1 [.agg ((AU b).map .d)] (d b) (fun y=>vB y) fun e=>br e (wg<|wg<|AA Sr nG (b,true)) (vs (wa a 1)<|ln (uY c) (a+1))) (Ah (vx) ())
def RT(b:List Msg)(a:Msg→Option Bool):Nat→Option (Lv (Nat) (Unit) (Msg×Bool)):=fun c=>(Zc b a c).m
def cR:PT 0 (Msg×Bool):=wg<|wg<|lr Sr nG ((.mk ⟨#[]⟩ [] [] [] []:Msg),false)
def aS(a:List Msg)(b:Msg→Option Bool):PT 0 (Msg×Bool):=vz (An a)<|lc (Ad [(1,.fn (.yield 1) [] []),pp 4,(9,vL AU a),(10,vN a.length),(11,vI 0)] [Xz]) ((Ak (RT a b) Am 0).bind (Sum.elim (fun _=>(cR).m) some))
def gV(b:List Msg)(a:Msg→Option Bool):PT 0 (Msg×Bool):=lc (Ad [(0,vL AU b),(1,.fn (.yield 1) [] []),pp 4] [Xz]) ((aS b a).m)
def U6(b:List Msg)(a:Msg→Option Bool):Option (Msg×Bool):=(gV b a).m
theorem ZGs{C:Cx}(co:CO C 0)(b:List Msg)(a:Msg→Option Bool)(f:(q9 a) C.no C.l C.H0 C.θ):KL Tryz.prog (AC tl) 21 C (pa [0,0,1,0,1] (Az Tryz.f44)) [.cell 4 45,.tmp 5] 0 (uY b) (vx) Sr nG (RT b a):=fun h _ hm Q c e d=>As co Aa Ae (Zc b a h) (Ac [1,4,9,10,11] F8) (Ac [4] F8) e hm d fun r g=>⟨fun i=>⟨⟨fun y hy=>f _ y hy,by intro r;kernel_rfl,by intro r y;kernel_rfl⟩,fun j=>⟨id,id⟩⟩,id⟩
theorem ZVv(c:List Msg)(a:Msg→Option Bool):KO Tryz.prog 44 0 [vL AU c,.fn (.yield 1) [] []] [] (q9 a) (U6 c a) Sr nG:=Bv Tryz.func44 Tryz.ntmps44 Aa [.cell 4 45,.tmp 5] 0 (fun C co e y hm d b=>Aj co Aa Ae 1 (gV c a) (Ac [0,1,4] F8) nl nH hm b fun r g=>fun _ hm b=>sq (Aj co Aa Ae 1 (aS c a) (Ac [1,4,9,10,11] F8) nl nH hm b fun r g=>fun _ hm b=>bk 0 (lo (AF (ZGs co c a e) nH hm b (fun _ hm=>Ax co Aa Ae (cR) hm b fun r g=>id)))))
abbrev qF:Bool→AV:=fun y=>vB y
@[reducible] def qX(w0:ByteArray):Bool→List Blk:=fun y=>[⟨0,true,9,1,[vS w0]⟩]
def vr(a:Msg)(w0:ByteArray):PT 1 (Bool):=wg<|wg<|lr qF (qX w0) (decide (a.name=w0))
def MM(a:Msg)(w0:ByteArray):Option (Bool):=(vr a w0).m
theorem ZVu(a:Msg)(w0:ByteArray):KO Tryz.prog 45 1 [.agg ((AU a).map .d),.ptr (0,0) 0 0] [⟨0,true,9,1,[vS w0]⟩] (fun _ _ _ _=>True) (MM a w0) qF (qX w0):=Bv Tryz.func45 Tryz.ntmps45 Aa [.tmp 3] 1 (fun C co d y hm b c=>Ax co Aa Ae (vr a w0) hm c fun r g=>id) (hB:=fun y=>⟨.inr (by kernel_rfl),rfl,trivial⟩)
abbrev qz:Msg×Bool→AV:=fun y=>.tup [.agg ((AU y.1).map .d),vB y.2]
def fO(a:Scm)(b:ByteArray):PT 0 (Msg×Bool):=wg<|cs Tryz.prog 44 [vL AU a.messages,.fn (.func 45) [] [.ptr (1,3) 1 0]] [(1,3)] [((1,3),⟨1,true,9,1,[vS b]⟩)] (U6 a.messages (fun(z0:Msg)=>MM z0 b)) (fun y=>.tup [.agg ((AU y.1).map .d),vB y.2]) fun c=>wg<|lr qz nG (c.1,c.2)
def Vi(a:Scm)(b:ByteArray):Option (Msg×Bool):=(fO a b).m
theorem ZVC(b:Scm)(a:ByteArray):KC Tryz.prog 18 [.agg ((Ar b).map .d),vS a] (Vi b a) qz:=AE Tryz.func18 Tryz.ntmps18 Aa [.cell 4 45,.tmp 5] fun C co y hm c d=>Ax co Aa Ae (fO b a) hm d fun r g=>⟨fun y hy=>G8 (ZVv b.messages (fun(z0:Msg)=>MM z0 a)) hy co g [] [((1,3),⟨1,true,9,1,[vS a]⟩)] (AG [(1,.fn (.func 45) [] [.ptr (r.κ (1,3)) (r.γ (1,3)+1) 0])]) (fun h e i=>(fun z0 y f=>Lu (ZVu z0 a) f co g [((1,3),⟨1,true,9,1,[vS a]⟩)] [] e (by simp) (fun _=>.top) (fun _ _=>trivial) (fun l H=>⟨fun _=>⟨rfl,by kernel_rfl⟩,by kernel_rfl,trivial⟩))) (fun H=>trivial),fun j=>id⟩
abbrev Ss:Int→AV:=fun y=>vI y
def ra(a:Slt→Option Bool):Cl:=fun no l H θ=>(∀(z0:Slt) y,a z0=some y→CM Tryz.prog l no H (θ 1) [.agg ((Dr z0).map .d)] (vB y))
def w8(a:List Slt):Nat→St:=fun b=>Ad [(0,vL Aq a),(1,.fn (.yield 1) [] []),(7,vN a.length),(8,vN b)] []
def xd:Unit→Nat×St:=fun _=>(0,Ad [] [])
def Tg(b:List Slt)(c:Slt→Option Bool)(a:Nat):PT 0 (Lv (Nat) (Unit) (Int)):=br (decide ((a:Int)<(b.length:Int))) (ix b a fun d=>cf Tryz.prog 1 [.agg ((Dr d).map .d)] (c d) (fun y=>vB y) fun e=>br e (AA Ss nG (a:Int)) (vs (wa a 1)<|ln (w8 b) (a+1))) (Ah (xd) ())
def RW(b:List Slt)(a:Slt→Option Bool):Nat→Option (Lv (Nat) (Unit) (Int)):=fun c=>(Tg b a c).m
def eX:PT 0 (Int):=lr Ss nG (-1)
def ga(a:List Slt)(b:Slt→Option Bool):PT 0 (Int):=vz (An a)<|lc (Ad [(0,vL Aq a),(1,.fn (.yield 1) [] []),(7,vN a.length),(8,vI 0)] []) ((Ak (RW a b) Am 0).bind (Sum.elim (fun _=>(eX).m) some))
def fQ(b:List Slt)(a:Slt→Option Bool):PT 0 (Int):=lc (Ad [(0,vL Aq b),(1,.fn (.yield 1) [] [])] []) ((ga b a).m)
def Vn(b:List Slt)(a:Slt→Option Bool):Option (Int):=(fQ b a).m
theorem ZHd{C:Cx}(co:CO C 0)(b:List Slt)(a:Slt→Option Bool)(f:(ra a) C.no C.l C.H0 C.θ):KL Tryz.prog (AC tl) 19 C (pa [0,0,1,0,1] (Az Tryz.f46)) [.tmp 4] 0 (w8 b) (xd) Ss nG (RW b a):=fun h _ hm Q c e d=>As co Aa Ae (Tg b a h) (AK [0,1,7,8]) nl e hm d fun r g=>⟨fun i=>⟨⟨fun y hy=>f _ y hy,by intro r;kernel_rfl,by intro r y;kernel_rfl⟩,fun j=>⟨id,id⟩⟩,id⟩
theorem ZVp(c:List Slt)(a:Slt→Option Bool):KO Tryz.prog 46 0 [vL Aq c,.fn (.yield 1) [] []] [] (ra a) (Vn c a) Ss nG:=Bv Tryz.func46 Tryz.ntmps46 Aa [.tmp 4] 0 (fun C co e y hm d b=>Aj co Aa Ae 1 (fQ c a) (AK [0,1]) nl nH hm b fun r g=>fun _ hm b=>sq (Aj co Aa Ae 1 (ga c a) (AK [0,1,7,8]) nl nH hm b fun r g=>fun _ hm b=>bk 0 (lo (AF (ZHd co c a e) nH hm b (fun _ hm=>Ax co Aa Ae (eX) hm b fun r g=>id)))))
abbrev Xs:Int→AV:=fun y=>vI y
@[reducible] def XY(a:List Slt):Int→List Blk:=fun y=>[⟨0,true,61,8,Ab Aq a⟩]
def vj(a:Slt→Option Bool):Cl:=fun no l H θ=>(∀(z0:Slt) y,a z0=some y→CM Tryz.prog l no H (θ 1) [.agg ((Dr z0).map .d)] (vB y))
def Zs9(a:List Slt):Nat→St:=fun b=>Ad [(0,.ref (0,0) 0 0 a.length),(1,.fn (.yield 1) [] []),(7,vN a.length),(8,vN b)] [((0,0),⟨0,true,61,8,Ab Aq a⟩)]
def ZvX(a:List Slt):Unit→Nat×St:=fun _=>(0,Ad [] [((0,0),⟨0,true,61,8,Ab Aq a⟩)])
def Qf(a:List Slt)(c:Slt→Option Bool)(b:Nat):PT 1 (Lv (Nat) (Unit) (Int)):=br (decide ((b:Int)<(a.length:Int))) (vs (ir b a.length 8)<|ca a b fun d=>cf Tryz.prog 1 [.agg ((Dr d).map .d)] (c d) (fun y=>vB y) fun e=>br e (AA Xs (XY a) (b:Int)) (vs (wa b 1)<|vz (fl a)<|ln (Zs9 a) (b+1))) (vz (fl a)<|Ah (ZvX a) ())
def Wj(b:List Slt)(a:Slt→Option Bool):Nat→Option (Lv (Nat) (Unit) (Int)):=fun c=>(Qf b a c).m
def PX(a:List Slt):PT 1 (Int):=lr Xs (XY a) (-1)
def PZ(a:List Slt)(b:Slt→Option Bool):PT 1 (Int):=vz (Bz a.length)<|vz (fl a)<|lc (Ad [(0,.ref (0,0) 0 0 a.length),(1,.fn (.yield 1) [] []),(7,vN a.length),(8,vI 0)] [((0,0),⟨0,true,61,8,Ab Aq a⟩)]) ((Ak (Wj a b) Am 0).bind (Sum.elim (fun _=>(PX a).m) some))
def Qa(a:List Slt)(b:Slt→Option Bool):PT 1 (Int):=vz (fl a)<|lc (Ad [(0,.ref (0,0) 0 0 a.length),(1,.fn (.yield 1) [] [])] [((0,0),⟨0,true,61,8,Ab Aq a⟩)]) ((PZ a b).m)
def Ps(b:List Slt)(a:Slt→Option Bool):Option (Int):=(Qa b a).m
theorem ZuQ{C:Cx}(co:CO C 1)(b:List Slt)(a:Slt→Option Bool)(f:(vj a) C.no C.l C.H0 C.θ):KL Tryz.prog (AC tl) 19 C (pa [0,0,1,0,1] (Az Tryz.f46)) [.tmp 4] 1 (Zs9 b) (ZvX b) Xs (XY b) (Wj b a):=fun h _ hm Q c e d=>As co Aa Ae (Qf b a h) (Ac [0,1,7,8] Ai) (Ac [] Ai) e hm d fun r g=>⟨fun i=>⟨⟨fun y hy=>f _ y hy,by intro r;kernel_rfl,by intro r y;kernel_rfl⟩,fun j=>⟨id,id⟩⟩,id⟩
theorem sS(b:List Slt)(a:Slt→Option Bool):KO Tryz.prog 46 1 [.ref (0,0) 0 0 b.length,.fn (.yield 1) [] []] [⟨0,true,61,8,Ab Aq b⟩] (vj a) (Ps b a) Xs (XY b):=Bv Tryz.func46 Tryz.ntmps46 Aa [.tmp 4] 1 (fun C co e y hm d c=>Aj co Aa Ae 1 (Qa b a) (Ac [0,1] Ai) nl nH hm c fun r g=>fun _ hm c=>sq (Aj co Aa Ae 1 (PZ b a) (Ac [0,1,7,8] Ai) nl nH hm c fun r g=>fun _ hm c=>bk 0 (lo (AF (ZuQ co b a e) nH hm c (fun _ hm=>Ax co Aa Ae (PX b) hm c fun r g=>id))))) (hB:=fun y=>⟨.inl (Aw _ _),rfl,trivial⟩)
end Go.Proofs.YtjbijbkdiijhaaaGreat
