import Derived.Test.YtjbijbkdiijhaaaGreatZc15
import Derived.Test.YtjbijbkdiijhaaaGreatZc00
namespace Go.Proofs.YtjbijbkdiijhaaaGreat
set_option maxRecDepth 100000
set_option linter.all false
open Go Go.Eng
abbrev Iw:List (Af×Bool):=[((1,1),false)]
abbrev IC(a:Val):Af×Blk:=kk 1 33 7 (cD (Ag a))
abbrev GY:Int→AV:=fun y=>vI y
def ub(a:Val):Int×Nat→St:=fun(b,v2)=>Ad [pp 1,(3,vI b),(4,vN v2)] [(IC a)]
def vG(a:Val):Int→Nat×St:=fun b=>(0,Ad [pp 1,(3,vI b)] [(IC a)])
def Xi(a:Val)(b:Val→Option (Int))(c:Int)(v2:Nat):PT 0 (Lv (Int×Nat) (Int) (Int)):=wg<|vz (An a.list)<|br (decide ((v2:Int)<(a.list.length:Int))) (wg<|ix a.list v2 fun d=>cs Tryz.prog 77 [.agg ((Ag d).map .d)] [] [] (b d) (fun y=>vI y) fun e=>vs (wi (c+e))<|vs (wa v2 1)<|ln (ub a) ((c+e),v2+1)) (Ai (vG a) c)
def Ru(b:Val)(a:Val→Option (Int)):Int×Nat→Option (Lv (Int×Nat) (Int) (Int)):=fun(c,v2)=>(Xi b a c v2).m
def wE(a:Val):Int×Nat→St:=fun(b,c)=>Ad [pp 1,(3,vI b),(5,vN c)] [(IC a)]
def tE(b:Val):Int→Nat×St:=fun a=>(2,Ad [pp 1,(3,vI a)] [(IC b)])
def Xr(b:Val)(c:Val→Option (Int))(f:Int)(e:Nat):PT 0 (Lv (Int×Nat) (Int) (Int)):=wg<|vz (An b.pairs)<|br (decide ((e:Int)<(b.pairs.length:Int))) (wg<|ix b.pairs e fun h=>cs Tryz.prog 77 [.agg ((Ag h.key).map .d)] [] [] (c h.key) (fun y=>vI y) fun g=>wg<|ix b.pairs e fun d=>cs Tryz.prog 77 [.agg ((Ag d.val).map .d)] [] [] (c d.val) (fun y=>vI y) fun a=>vs (wi (g+a))<|vs (wi (f+(g+a)))<|vs (wa e 1)<|ln (wE b) ((f+(g+a)),e+1)) (Ai (tE b) f)
def RI(b:Val)(a:Val→Option (Int)):Int×Nat→Option (Lv (Int×Nat) (Int) (Int)):=fun(c,d)=>(Xr b a c d).m
def uV(c:Val):Int×Nat→St:=fun(a,b)=>Ad [pp 1,(3,vI a),(6,vN b)] [(IC c)]
def tN:Int→Nat×St:=fun a=>(4,Ad [(3,vI a)] [])
def W5(e:Val)(f:Val→Option (Int))(b:Int)(a:Nat):PT 0 (Lv (Int×Nat) (Int) (Int)):=wg<|vz (An e.slots)<|br (decide ((a:Int)<(e.slots.length:Int))) (wg<|ix e.slots a fun c=>cs Tryz.prog 77 [.agg ((Ag c.val).map .d)] [] [] (f c.val) (fun y=>vI y) fun d=>vs (wi (b+d))<|vs (wa a 1)<|ln (uV e) ((b+d),a+1)) (Ai (tN) b)
def RQ(d:Val)(a:Val→Option (Int)):Int×Nat→Option (Lv (Int×Nat) (Int) (Int)):=fun(b,c)=>(W5 d a b c).m
def fs(a:Int):PT 0 (Int):=lr GY nG a
def eM(d:Val)(b:Val→Option (Int))(a:Int):PT 0 (Int):=lc (Ad [pp 1,(3,vI a),(6,vI 0)] [(IC d)]) ((Al (RQ d b) Am (a,0)).bind (Sum.elim (fun c=>(fs c).m) some))
def dG(b:Val)(a:Val→Option (Int))(d:Int):PT 0 (Int):=lc (Ad [pp 1,(3,vI d),(5,vI 0)] [(IC b)]) ((Al (RI b a) Am (d,0)).bind (Sum.elim (fun c=>(eM b a c).m) some))
def de(b:Val)(a:Val→Option (Int)):PT 0 (Int):=lc (Ad [pp 1,(3,vN (1+b.raws.length)),(4,vI 0)] [(IC b)]) ((Al (Ru b a) Am (((1+b.raws.length:Nat):Int),0)).bind (Sum.elim (fun c=>(dG b a c).m) some))
def dV(a:Val)(b:Val→Option (Int)):PT 0 (Int):=wg<|vz (An a.raws)<|vs (wa 1 a.raws.length)<|lc (Ad [pp 1,(3,vN (1+a.raws.length))] [(IC a)]) ((de a b).m)
def TV(a:Val→Option (Int))(b:Val):Option (Int):=(dV b a).m
theorem ZJk{C:Cx}(co:CO C 0)(b:Val)(a:Val→Option (Int))(d:∀(b:Val),KC Tryz.prog 77 [.agg ((Ag b).map .d)] (a b) GY):KL Tryz.prog (AC tl) 67 C (pa [0,0,1,0,1,1] (AA Tryz.f77)) [.tmp 2] 0 (ub b) (vG b) GY nG (Ru b a):=fun(j,v2) _ hm Q e i h=>At co Aa Ae (Xi b a j v2) (Ac [1,3,4] Iw) (Ac [1,3] Iw) i hm h fun r g=>⟨fun c=>⟨fun y hy f _ _=>by rw[(d c).x,(d c).e];exact(d c).k _ f y hy,fun k=>id⟩,id⟩
theorem ZJD{C:Cx}(co:CO C 0)(c:Val)(a:Val→Option (Int))(d:∀(c:Val),KC Tryz.prog 77 [.agg ((Ag c).map .d)] (a c) GY):KL Tryz.prog (AC tl) 67 C (pa [0,0,1,0,1,1,1] (AA Tryz.f77)) [.tmp 2] 0 (wE c) (tE c) GY nG (RI c a):=fun(k,l) _ hm Q h j i=>At co Aa Ae (Xr c a k l) (Ac [1,3,5] Iw) (Ac [1,3] Iw) j hm i fun r g=>⟨fun f=>⟨fun y hy e _ _=>by rw[(d f.key).x,(d f.key).e];exact(d f.key).k _ e y hy,fun n=>fun b=>⟨fun y hy e _ _=>by rw[(d b.val).x,(d b.val).e];exact(d b.val).k _ e y hy,fun m=>id⟩⟩,id⟩
theorem ZD0{C:Cx}(co:CO C 0)(c:Val)(a:Val→Option (Int))(d:∀(c:Val),KC Tryz.prog 77 [.agg ((Ag c).map .d)] (a c) GY):KL Tryz.prog (AC tl) 67 C (pa [0,0,1,0,1,1,1,1] (AA Tryz.f77)) [.tmp 2] 0 (uV c) (tN) GY nG (RQ c a):=fun(e,f) _ hm Q h k j=>At co Aa Ae (W5 c a e f) (Ac [1,3,6] Iw) (AK [3]) k hm j fun r g=>⟨fun b=>⟨fun y hy i _ _=>by rw[(d b.val).x,(d b.val).e];exact(d b.val).k _ i y hy,fun l=>id⟩,id⟩
theorem ZSn(a:Val→Option (Int))(d:∀(c:Val),KC Tryz.prog 77 [.agg ((Ag c).map .d)] (a c) GY)(c:Val):KC Tryz.prog 77 [.agg ((Ag c).map .d)] (TV a c) GY:=AF Tryz.func77 Tryz.ntmps77 Aa [.tmp 2] fun C co y hm h b=>Aj co Aa Ae 2 (dV c a) (Ac [1,3] Iw) nl nH hm b fun r g=>fun _ hm b=>sq (Aj co Aa Ae 1 (de c a) (Ac [1,3,4] Iw) nl nH hm b fun r g=>fun _ hm b=>bk 0 (lo (AE (ZJk co c a d) nH hm b (fun i hm=>sq (Aj co Aa Ae 1 (dG c a i) (Ac [1,3,5] Iw) nl nH hm b fun r g=>fun _ hm b=>bk 2 (lo (AE (ZJD co c a d) nH hm b (fun e hm=>sq (Aj co Aa Ae 1 (eM c a e) (Ac [1,3,6] Iw) nl nH hm b fun r g=>fun _ hm b=>bk 4 (lo (AE (ZD0 co c a d) nH hm b (fun f hm=>Ax co Aa Ae (fs f) hm b fun r g=>id))))))))))))
def Jx:Nat→Val→Option (Int)
 |0=>fun _=>none
 |a+1=>TV (Jx a)
theorem yt:∀(b:Nat) (a:Val),KC Tryz.prog 77 [.agg ((Ag a).map .d)] (Jx b a) GY
 |0,a=>⟨fun _ _ _ h=>(by cases h),by intro r;kernel_rfl,by intro r y;kernel_rfl⟩
 |b+1,a=>ZSn (Jx b) (yt b) a
abbrev Oc:Int→AV:=fun y=>vI y
def dC(a:Scm)(e:ByteArray)(b:Val)(f:Bool):PT 0 (Int):=wg<|cl (UG a e) fun c=>wg<|br (!c.2) (lr Oc nG 10) (wg<|wg<|wg<|cl (TS (Jt Am) (vV Am) a c.1 b 1 f) fun d=>br (!decide (d=(0:Int))) (lr Oc nG d) (wg<|cl (yt Am b) fun g=>br (decide ((4096:Int)<g)) (lr Oc nG 3) (lr Oc nG 0)))
def i4(a:Scm)(b:ByteArray)(c:Val)(d:Bool):Option (Int):=(dC a b c d).m
theorem ZUr(a:Scm)(b:ByteArray)(c:Val)(d:Bool):KC Tryz.prog 41 [.agg ((Au a).map .d),vS b,.agg ((Ag c).map .d),vB d] (i4 a b c d) Oc:=AF Tryz.func41 Tryz.ntmps41 Aa [.tmp 8] fun C co y hm e f=>Ax co Aa Ae (dC a b c d) hm f fun r g=>fun h=>⟨id,fun i=>⟨id,fun j=>⟨id,id⟩⟩⟩
abbrev qg:Int→AV:=fun y=>vI y
def bo(a:Scm)(b:ByteArray)(c:Val):PT 0 (Int):=wg<|wg<|cl (ZUr a b c true) fun d=>lr qg nG d
def jF(a:Scm)(b:ByteArray)(c:Val):Option (Int):=(bo a b c).m
theorem ZUp(a:Scm)(b:ByteArray)(c:Val):KC Tryz.prog 16 [.agg ((Au a).map .d),vS b,.agg ((Ag c).map .d)] (jF a b c) qg:=AF Tryz.func16 Tryz.ntmps16 Aa [.tmp 6] fun C co y hm d e=>Ax co Aa Ae (bo a b c) hm e fun r g=>fun f=>id
abbrev qy:Bool→AV:=fun y=>vB y
def fD(a:Val):PT 0 (Bool):=wg<|cl (bz a.kind) fun b=>wg<|wg<|wg<|AO ((b&&decide (a.bits=(0:Int)))&&decide (a.text=(⟨#[]⟩:ByteArray))) (v6 a) fun c=>lr qy nG (((b&&decide (a.bits=(0:Int)))&&decide (a.text=(⟨#[]⟩:ByteArray)))&&c)
def iV(a:Val):Option (Bool):=(fD a).m
theorem ZUQ(a:Val):KC Tryz.prog 78 [.agg ((Ag a).map .d)] (iV a) qy:=AF Tryz.func78 Tryz.ntmps78 Aa [.tmp 2] fun C co y hm b c=>Ax co Aa Ae (fD a) hm c fun r g=>fun d=>fun e=>id
abbrev Sf:Bool→AV:=fun y=>vB y
def fS(b:Fld)(a:Val):PT 0 (Bool):=wg<|br (decide (b.card=(4:Int))) (wg<|vz (An a.list)<|lr Sf nG (decide ((a.list.length:Int)=(0:Int)))) (wg<|br (decide (b.card=(5:Int))) (wg<|vz (An a.pairs)<|lr Sf nG (decide ((a.pairs.length:Int)=(0:Int)))) (wg<|wg<|AO (decide (b.card=(3:Int))) (ZUQ a) fun c=>lr Sf nG (decide (b.card=(3:Int))&&c)))
def i6(a:Fld)(b:Val):Option (Bool):=(fS a b).m
theorem ZVB(a:Fld)(b:Val):KC Tryz.prog 42 [.agg ((Az a).map .d),.agg ((Ag b).map .d)] (i6 a b) Sf:=AF Tryz.func42 Tryz.ntmps42 Aa [.tmp 4] fun C co y hm c d=>Ax co Aa Ae (fS a b) hm d fun r g=>⟨id,⟨id,fun e=>id⟩⟩
abbrev Uw:Int→AV:=fun y=>vI y
def nJ(a:Int)(b:Int):PT 0 (Int):=br (decide (a<b)) (lr Uw nG (-1)) (br (decide (b<a)) (lr Uw nG 1) (lr Uw nG 0))
def jw(a:Int)(b:Int):Option (Int):=(nJ a b).m
theorem JY(a:Int)(b:Int):KC Tryz.prog 129 [vI a,vI b] (jw a b) Uw:=AF Tryz.func129 Tryz.ntmps129 Aa [.tmp 4] fun C co y hm c d=>Ax co Aa Ae (nJ a b) hm d fun r g=>⟨id,⟨id,id⟩⟩
abbrev I5:Int→AV:=fun y=>vI y
def tn(a:Raw)(b:Raw):PT 0 (Int):=wg<|wg<|br (!decide (a.num=b.num)) (wg<|wg<|cl (JY a.num b.num) fun c=>lr I5 nG c) (wg<|wg<|br (!decide (a.wire=b.wire)) (wg<|wg<|cl (JY a.wire b.wire) fun d=>lr I5 nG d) (wg<|wg<|br (decide (a.bits<b.bits)) (lr I5 nG (-1)) (wg<|wg<|br (decide (b.bits<a.bits)) (lr I5 nG 1) (wg<|wg<|br (BJ a.data b.data) (lr I5 nG (-1)) (wg<|wg<|br (!(BJ a.data b.data||decide (a.data=b.data))) (lr I5 nG 1) (lr I5 nG 0))))))
def Ze9(a:Raw)(b:Raw):Option (Int):=(tn a b).m
theorem ZSa(a:Raw)(b:Raw):KC Tryz.prog 155 [.agg ((Av a).map .d),.agg ((Av b).map .d)] (Ze9 a b) I5:=AF Tryz.func155 Tryz.ntmps155 Aa [.tmp 4] fun C co y hm c d=>Ax co Aa Ae (tn a b) hm d fun r g=>⟨fun e=>id,⟨fun f=>id,⟨id,⟨id,⟨id,⟨id,id⟩⟩⟩⟩⟩⟩
abbrev TL:Int→AV:=fun y=>vI y
def sx(a:List Raw)(b:List Raw):Nat→St:=fun c=>Ad [(0,vL Av a),(1,vL Av b),(5,vN c)] []
def sM(a:List Raw)(b:List Raw):Unit→Nat×St:=fun _=>(0,Ad [(0,vL Av a),(1,vL Av b)] [])
def sE(b:List Raw)(c:List Raw)(a:Nat):PT 0 (Lv (Nat) (Unit) (Int)):=vz (An b)<|vy (decide ((a:Int)<(b.length:Int))) (An c)<|br (decide ((a:Int)<(b.length:Int))&&decide ((a:Int)<(c.length:Int))) (ix b a fun e=>ix c a fun f=>cl (ZSa e f) fun d=>br (!decide (d=(0:Int))) (Ay TL nG d) (vs (wa a 1)<|ln (sx b c) (a+1))) (Ai (sM b c) ())
def rA(a:List Raw)(b:List Raw):Nat→Option (Lv (Nat) (Unit) (Int)):=fun c=>(sE a b c).m
def r7(a:List Raw)(b:List Raw):PT 0 (Int):=vz (An a)<|vz (An b)<|cl (JY (a.length:Int) (b.length:Int)) fun c=>lr TL nG c
def tu(a:List Raw)(b:List Raw):PT 0 (Int):=lc (Ad [(0,vL Av a),(1,vL Av b),(5,vI 0)] []) ((Al (rA a b) Am 0).bind (Sum.elim (fun _=>(r7 a b).m) some))
def sw(a:List Raw)(b:List Raw):PT 0 (Int):=lc (Ad [(0,vL Av a),(1,vL Av b)] []) ((tu a b).m)
def Ze2(a:List Raw)(b:List Raw):Option (Int):=(sw a b).m
theorem ZBb{C:Cx}(co:CO C 0)(a:List Raw)(b:List Raw):KL Tryz.prog (AC tl) 36 C (pa [0,0,1,0,1] (AA Tryz.f133)) [.tmp 4] 0 (sx a b) (sM a b) TL nG (rA a b):=fun f _ hm Q c e d=>At co Aa Ae (sE a b f) (AK [0,1,5]) (AK [0,1]) e hm d fun r g=>⟨fun h=>fun i=>fun j=>⟨id,id⟩,id⟩
theorem ZSK(b:List Raw)(c:List Raw):KC Tryz.prog 133 [vL Av b,vL Av c] (Ze2 b c) TL:=AF Tryz.func133 Tryz.ntmps133 Aa [.tmp 4] fun C co y hm d a=>Aj co Aa Ae 1 (sw b c) (AK [0,1]) nl nH hm a fun r g=>fun _ hm a=>sq (Aj co Aa Ae 1 (tu b c) (AK [0,1,5]) nl nH hm a fun r g=>fun _ hm a=>bk 0 (lo (AE (ZBb co b c) nH hm a (fun _ hm=>Ax co Aa Ae (r7 b c) hm a fun r g=>fun e=>id))))
abbrev xK:Bool→AV:=fun y=>vB y
def mn(a:Int):PT 0 (Bool):=lr xK nG (decide (a=(2:Int))||decide (a=(3:Int)))
def yP(a:Int):Option (Bool):=(mn a).m
theorem ZRH(a:Int):KC Tryz.prog 166 [vI a] (yP a) xK:=AF Tryz.func166 Tryz.ntmps166 Aa [.tmp 2] fun C co y hm b c=>Ax co Aa Ae (mn a) hm c fun r g=>id
abbrev OZ:Int→AV:=fun y=>.d (.int .u64 y)
def kB(a:Val):PT 0 (Int):=wg<|vz (wk .u64 (a.bits+9223372036854775808))<|lr OZ nG (IntKind.u64.wrap (a.bits+9223372036854775808))
def nK(a:Val):PT 0 (Int):=wg<|cl (ZRH a.kind) fun b=>br b (kB a) (wg<|br (!decide (a.kind=(6:Int))) (wg<|lr OZ nG a.bits) (wg<|cl (xp a.bits) fun c=>br (decide (c=(0:Int))) (lr OZ nG 18446744073709551615) (wg<|br (decide ((9223372036854775808:Int)≤a.bits)) (wg<|vz (wk .u64 ((18446744073709551615:Int)-a.bits))<|lr OZ nG (IntKind.u64.wrap ((18446744073709551615:Int)-a.bits))) (kB a))))
def jl(a:Val):Option (Int):=(nK a).m
theorem W1(a:Val):KC Tryz.prog 156 [.agg ((Ag a).map .d)] (jl a) OZ:=AF Tryz.func156 Tryz.ntmps156 Aa [.tmp 2] fun C co y hm b c=>Ax co Aa Ae (nK a) hm c fun r g=>fun d=>⟨id,⟨id,fun e=>⟨id,⟨id,id⟩⟩⟩⟩
abbrev Ho:Int→AV:=fun y=>vI y
def l8(a:Val)(b:Val):PT 0 (Int):=wg<|wg<|br (decide (a.kind<b.kind)) (lr Ho nG (-1)) (wg<|wg<|br (decide (b.kind<a.kind)) (lr Ho nG 1) (wg<|cl (bz a.kind) fun c=>br (!c) (lr Ho nG 0) (wg<|cl (X0 a.kind) fun d=>wg<|wg<|br (d&&BJ a.text b.text) (lr Ho nG (-1)) (wg<|cl (X0 a.kind) fun e=>wg<|wg<|br (e&&(!(BJ a.text b.text||decide (a.text=b.text)))) (lr Ho nG 1) (wg<|cl (X0 a.kind) fun f=>br f (lr Ho nG 0) (wg<|cl (W1 a) fun g=>wg<|cl (W1 b) fun h=>br (decide (g<h)) (lr Ho nG (-1)) (wg<|cl (W1 a) fun i=>wg<|cl (W1 b) fun j=>br (decide (j<i)) (lr Ho nG 1) (lr Ho nG 0))))))))
def jq(a:Val)(b:Val):Option (Int):=(l8 a b).m
theorem ZRi(a:Val)(b:Val):KC Tryz.prog 134 [.agg ((Ag a).map .d),.agg ((Ag b).map .d)] (jq a b) Ho:=AF Tryz.func134 Tryz.ntmps134 Aa [.tmp 4] fun C co y hm c d=>Ax co Aa Ae (l8 a b) hm d fun r g=>⟨id,⟨id,fun e=>⟨id,fun f=>⟨id,fun h=>⟨id,fun i=>⟨id,fun j=>fun k=>⟨id,fun l=>fun m=>⟨id,id⟩⟩⟩⟩⟩⟩⟩⟩
abbrev D0:Int→AV:=fun y=>vI y
abbrev Uz:Int→AV:=fun y=>vI y
def ts(a:List Val)(b:List Val):Nat→St:=fun c=>Ad [(0,vL A8 a),(1,vL A8 b),(5,vN c)] []
def th(a:List Val)(b:List Val):Unit→Nat×St:=fun _=>(0,Ad [(0,vL A8 a),(1,vL A8 b)] [])
def ru(b:List Val)(c:List Val)(d:Val→Val→Option (Int))(a:Nat):PT 0 (Lv (Nat) (Unit) (Int)):=vz (An b)<|vy (decide ((a:Int)<(b.length:Int))) (An c)<|br (decide ((a:Int)<(b.length:Int))&&decide ((a:Int)<(c.length:Int))) (ix b a fun e=>ix c a fun f=>cs Tryz.prog 97 [.agg ((Ag e).map .d),.agg ((Ag f).map .d)] [] [] (d e f) (fun y=>vI y) fun g=>br (!decide (g=(0:Int))) (Ay Uz nG g) (vs (wa a 1)<|ln (ts b c) (a+1))) (Ai (th b c) ())
def rP(b:List Val)(c:List Val)(a:Val→Val→Option (Int)):Nat→Option (Lv (Nat) (Unit) (Int)):=fun d=>(ru b c a d).m
def sg(a:List Val)(b:List Val):PT 0 (Int):=vz (An a)<|vz (An b)<|cl (JY (a.length:Int) (b.length:Int)) fun c=>lr Uz nG c
def rN(b:List Val)(c:List Val)(a:Val→Val→Option (Int)):PT 0 (Int):=lc (Ad [(0,vL A8 b),(1,vL A8 c),(5,vI 0)] []) ((Al (rP b c a) Am 0).bind (Sum.elim (fun _=>(sg b c).m) some))
def tz(b:List Val)(c:List Val)(a:Val→Val→Option (Int)):PT 0 (Int):=lc (Ad [(0,vL A8 b),(1,vL A8 c)] []) ((rN b c a).m)
def yT(a:Val→Val→Option (Int))(b:List Val)(c:List Val):Option (Int):=(tz b c a).m
theorem ZyW{C:Cx}(co:CO C 0)(b:List Val)(c:List Val)(a:Val→Val→Option (Int))(f:∀(b:Val) (c:Val),KC Tryz.prog 97 [.agg ((Ag b).map .d),.agg ((Ag c).map .d)] (a b c) D0):KL Tryz.prog (AC tl) 36 C (pa [0,0,1,0,1] (AA Tryz.f130)) [.tmp 4] 0 (ts b c) (th b c) Uz nG (rP b c a):=fun l _ hm Q h k j=>At co Aa Ae (ru b c a l) (AK [0,1,5]) (AK [0,1]) k hm j fun r g=>⟨fun d=>fun e=>⟨fun y hy i _ _=>by rw[(f d e).x,(f d e).e];exact(f d e).k _ i y hy,fun m=>⟨id,id⟩⟩,id⟩
theorem ge(a:Val→Val→Option (Int))(f:∀(b:Val) (c:Val),KC Tryz.prog 97 [.agg ((Ag b).map .d),.agg ((Ag c).map .d)] (a b c) D0)(b:List Val)(c:List Val):KC Tryz.prog 130 [vL A8 b,vL A8 c] (yT a b c) Uz:=AF Tryz.func130 Tryz.ntmps130 Aa [.tmp 4] fun C co y hm e d=>Aj co Aa Ae 1 (tz b c a) (AK [0,1]) nl nH hm d fun r g=>fun _ hm d=>sq (Aj co Aa Ae 1 (rN b c a) (AK [0,1,5]) nl nH hm d fun r g=>fun _ hm d=>bk 0 (lo (AE (ZyW co b c a f) nH hm d (fun _ hm=>Ax co Aa Ae (sg b c) hm d fun r g=>fun h=>id))))
abbrev ON:Int→AV:=fun y=>vI y
def tv(a:List Pr)(b:List Pr):Nat→St:=fun c=>Ad [(0,vL Ap a),(1,vL Ap b),(5,vN c)] []
def rI(a:List Pr)(b:List Pr):Unit→Nat×St:=fun _=>(0,Ad [(0,vL Ap a),(1,vL Ap b)] [])
def sv(b:List Pr)(c:List Pr)(d:Val→Val→Option (Int))(a:Nat):PT 0 (Lv (Nat) (Unit) (Int)):=vz (An b)<|vy (decide ((a:Int)<(b.length:Int))) (An c)<|br (decide ((a:Int)<(b.length:Int))&&decide ((a:Int)<(c.length:Int))) (ix b a fun e=>ix c a fun f=>cs Tryz.prog 97 [.agg ((Ag e.key).map .d),.agg ((Ag f.key).map .d)] [] [] (d e.key f.key) (fun y=>vI y) fun i=>br (!decide (i=(0:Int))) (Ay ON nG i) (ix b a fun g=>ix c a fun h=>cs Tryz.prog 97 [.agg ((Ag g.val).map .d),.agg ((Ag h.val).map .d)] [] [] (d g.val h.val) (fun y=>vI y) fun j=>br (!decide (j=(0:Int))) (Ay ON nG j) (vs (wa a 1)<|ln (tv b c) (a+1)))) (Ai (rI b c) ())
def sG(b:List Pr)(c:List Pr)(a:Val→Val→Option (Int)):Nat→Option (Lv (Nat) (Unit) (Int)):=fun d=>(sv b c a d).m
def tA(a:List Pr)(b:List Pr):PT 0 (Int):=vz (An a)<|vz (An b)<|cl (JY (a.length:Int) (b.length:Int)) fun c=>lr ON nG c
def s9(b:List Pr)(c:List Pr)(a:Val→Val→Option (Int)):PT 0 (Int):=lc (Ad [(0,vL Ap b),(1,vL Ap c),(5,vI 0)] []) ((Al (sG b c a) Am 0).bind (Sum.elim (fun _=>(tA b c).m) some))
def sk(b:List Pr)(c:List Pr)(a:Val→Val→Option (Int)):PT 0 (Int):=lc (Ad [(0,vL Ap b),(1,vL Ap c)] []) ((s9 b c a).m)
def yS(a:Val→Val→Option (Int))(b:List Pr)(c:List Pr):Option (Int):=(sk b c a).m
theorem ZAF{C:Cx}(co:CO C 0)(b:List Pr)(c:List Pr)(a:Val→Val→Option (Int))(d:∀(b:Val) (c:Val),KC Tryz.prog 97 [.agg ((Ag b).map .d),.agg ((Ag c).map .d)] (a b c) D0):KL Tryz.prog (AC tl) 53 C (pa [0,0,1,0,1] (AA Tryz.f131)) [.tmp 4] 0 (tv b c) (rI b c) ON nG (sG b c a):=fun n _ hm Q k m l=>At co Aa Ae (sv b c a n) (AK [0,1,5]) (AK [0,1]) m hm l fun r g=>⟨fun f=>fun h=>⟨fun y hy e _ _=>by rw[(d f.key h.key).x,(d f.key h.key).e];exact(d f.key h.key).k _ e y hy,fun o=>⟨id,fun i=>fun j=>⟨fun y hy e _ _=>by rw[(d i.val j.val).x,(d i.val j.val).e];exact(d i.val j.val).k _ e y hy,fun p=>⟨id,id⟩⟩⟩⟩,id⟩
theorem bq(a:Val→Val→Option (Int))(f:∀(b:Val) (c:Val),KC Tryz.prog 97 [.agg ((Ag b).map .d),.agg ((Ag c).map .d)] (a b c) D0)(b:List Pr)(c:List Pr):KC Tryz.prog 131 [vL Ap b,vL Ap c] (yS a b c) ON:=AF Tryz.func131 Tryz.ntmps131 Aa [.tmp 4] fun C co y hm e d=>Aj co Aa Ae 1 (sk b c a) (AK [0,1]) nl nH hm d fun r g=>fun _ hm d=>sq (Aj co Aa Ae 1 (s9 b c a) (AK [0,1,5]) nl nH hm d fun r g=>fun _ hm d=>bk 0 (lo (AE (ZAF co b c a f) nH hm d (fun _ hm=>Ax co Aa Ae (tA b c) hm d fun r g=>fun h=>id))))
abbrev O1:Int→AV:=fun y=>vI y
def tp(a:List Slt)(b:List Slt):Nat→St:=fun c=>Ad [(0,vL Aq a),(1,vL Aq b),(5,vN c)] []
def tb(a:List Slt)(b:List Slt):Unit→Nat×St:=fun _=>(0,Ad [(0,vL Aq a),(1,vL Aq b)] [])
def sh(b:List Slt)(c:List Slt)(d:Val→Val→Option (Int))(a:Nat):PT 0 (Lv (Nat) (Unit) (Int)):=vz (An b)<|vy (decide ((a:Int)<(b.length:Int))) (An c)<|br (decide ((a:Int)<(b.length:Int))&&decide ((a:Int)<(c.length:Int))) (ix b a fun i=>ix c a fun j=>cl (JY i.num j.num) fun g=>br (!decide (g=(0:Int))) (Ay O1 nG g) (ix b a fun e=>ix c a fun f=>cs Tryz.prog 97 [.agg ((Ag e.val).map .d),.agg ((Ag f.val).map .d)] [] [] (d e.val f.val) (fun y=>vI y) fun h=>br (!decide (h=(0:Int))) (Ay O1 nG h) (vs (wa a 1)<|ln (tp b c) (a+1)))) (Ai (tb b c) ())
def sp(b:List Slt)(c:List Slt)(a:Val→Val→Option (Int)):Nat→Option (Lv (Nat) (Unit) (Int)):=fun d=>(sh b c a d).m
def rr(a:List Slt)(b:List Slt):PT 0 (Int):=vz (An a)<|vz (An b)<|cl (JY (a.length:Int) (b.length:Int)) fun c=>lr O1 nG c
def s4(b:List Slt)(c:List Slt)(a:Val→Val→Option (Int)):PT 0 (Int):=lc (Ad [(0,vL Aq b),(1,vL Aq c),(5,vI 0)] []) ((Al (sp b c a) Am 0).bind (Sum.elim (fun _=>(rr b c).m) some))
def ti(b:List Slt)(c:List Slt)(a:Val→Val→Option (Int)):PT 0 (Int):=lc (Ad [(0,vL Aq b),(1,vL Aq c)] []) ((s4 b c a).m)
def yU(a:Val→Val→Option (Int))(b:List Slt)(c:List Slt):Option (Int):=(ti b c a).m
theorem ZzH{C:Cx}(co:CO C 0)(b:List Slt)(c:List Slt)(a:Val→Val→Option (Int))(f:∀(b:Val) (c:Val),KC Tryz.prog 97 [.agg ((Ag b).map .d),.agg ((Ag c).map .d)] (a b c) D0):KL Tryz.prog (AC tl) 53 C (pa [0,0,1,0,1] (AA Tryz.f132)) [.tmp 4] 0 (tp b c) (tb b c) O1 nG (sp b c a):=fun l _ hm Q h k j=>At co Aa Ae (sh b c a l) (AK [0,1,5]) (AK [0,1]) k hm j fun r g=>⟨fun m=>fun n=>fun o=>⟨id,fun d=>fun e=>⟨fun y hy i _ _=>by rw[(f d.val e.val).x,(f d.val e.val).e];exact(f d.val e.val).k _ i y hy,fun p=>⟨id,id⟩⟩⟩,id⟩
theorem ed(a:Val→Val→Option (Int))(f:∀(b:Val) (c:Val),KC Tryz.prog 97 [.agg ((Ag b).map .d),.agg ((Ag c).map .d)] (a b c) D0)(b:List Slt)(c:List Slt):KC Tryz.prog 132 [vL Aq b,vL Aq c] (yU a b c) O1:=AF Tryz.func132 Tryz.ntmps132 Aa [.tmp 4] fun C co y hm e d=>Aj co Aa Ae 1 (ti b c a) (AK [0,1]) nl nH hm d fun r g=>fun _ hm d=>sq (Aj co Aa Ae 1 (s4 b c a) (AK [0,1,5]) nl nH hm d fun r g=>fun _ hm d=>bk 0 (lo (AE (ZzH co b c a f) nH hm d (fun _ hm=>Ax co Aa Ae (rr b c) hm d fun r g=>fun h=>id))))
def bg(a:Val)(b:Val)(c:Val→Val→Option (Int)):PT 0 (Int):=wg<|wg<|br (!decide (a.kind=b.kind)) (wg<|wg<|cl (JY a.kind b.kind) fun e=>lr D0 nG e) (wg<|br (decide (a.kind=(11:Int))) (wg<|wg<|cs Tryz.prog 130 [vL A8 a.list,vL A8 b.list] [] [] (yT c a.list b.list) (fun y=>vI y) fun f=>lr D0 nG f) (br (decide (a.kind=(12:Int))) (wg<|wg<|cs Tryz.prog 131 [vL Ap a.pairs,vL Ap b.pairs] [] [] (yS c a.pairs b.pairs) (fun y=>vI y) fun g=>lr D0 nG g) (br (decide (a.kind=(10:Int))) (wg<|wg<|cs Tryz.prog 132 [vL Aq a.slots,vL Aq b.slots] [] [] (yU c a.slots b.slots) (fun y=>vI y) fun d=>br (!decide (d=(0:Int))) (lr D0 nG d) (wg<|wg<|cl (ZSK a.raws b.raws) fun h=>lr D0 nG h)) (wg<|wg<|cl (ZRi a b) fun i=>lr D0 nG i))))
def Ui(a:Val→Val→Option (Int))(b:Val)(c:Val):Option (Int):=(bg b c a).m
theorem ZSr(a:Val→Val→Option (Int))(d:∀(b:Val) (c:Val),KC Tryz.prog 97 [.agg ((Ag b).map .d),.agg ((Ag c).map .d)] (a b c) D0)(b:Val)(c:Val):KC Tryz.prog 97 [.agg ((Ag b).map .d),.agg ((Ag c).map .d)] (Ui a b c) D0:=AF Tryz.func97 Tryz.ntmps97 Aa [.tmp 4] fun C co y hm f h=>Ax co Aa Ae (bg b c a) hm h fun r g=>⟨fun i=>id,⟨⟨fun y hy e _ _=>by rw[(ge a d b.list c.list).x,(ge a d b.list c.list).e];exact(ge a d b.list c.list).k _ e y hy,fun j=>id⟩,⟨⟨fun y hy e _ _=>by rw[(bq a d b.pairs c.pairs).x,(bq a d b.pairs c.pairs).e];exact(bq a d b.pairs c.pairs).k _ e y hy,fun k=>id⟩,⟨⟨fun y hy e _ _=>by rw[(ed a d b.slots c.slots).x,(ed a d b.slots c.slots).e];exact(ed a d b.slots c.slots).k _ e y hy,fun l=>⟨id,fun m=>id⟩⟩,fun n=>id⟩⟩⟩⟩
def Pu:Nat→Val→Val→Option (Int)
 |0=>fun _ _=>none
 |a+1=>Ui (Pu a)
theorem gT:∀(c:Nat) (a:Val) (b:Val),KC Tryz.prog 97 [.agg ((Ag a).map .d),.agg ((Ag b).map .d)] (Pu c a b) D0
 |0,a,b=>⟨fun _ _ _ h=>(by cases h),by intro r;kernel_rfl,by intro r y;kernel_rfl⟩
 |c+1,a,b=>ZSr (Pu c) (gT c) a b
abbrev Od:List Pr→AV:=fun y=>vL Ap y
def cm(a:List Pr):List Pr×Nat→St:=fun(b,v2)=>Ad [(0,vL Ap a),(3,vL Ap b),(4,vN v2)] []
def tW:List Pr→Nat×St:=fun a=>(0,Ad [(3,vL Ap a)] [])
def uB(a:List Pr)(b:List Pr)(v2:Nat):Bool×Nat→St:=fun(v3,v4)=>Ad [(0,vL Ap a),(3,vL Ap b),(4,vN v2),(5,vB v3),(6,vN v4)] []
def wJ(a:List Pr)(b:List Pr)(v2:Nat):Bool→Nat×St:=fun c=>(2,Ad [(0,vL Ap a),(3,vL Ap b),(4,vN v2),(5,vB c)] [])
def Xm(a:List Pr)(b:List Pr)(v2:Nat)(v3:Bool)(v4:Nat):PT 0 (Lv (Bool×Nat) (Bool) (List Pr)):=vz (An a)<|br (decide ((v4:Int)<(a.length:Int))) (A0 v3 a (v2:Int) fun c=>A0 v3 a (v4:Int) fun d=>AO v3 (gT Am c.key d.key) fun e=>vs (wa v4 1)<|ln (uB a b v2) ((v3&&(!decide (e=(0:Int)))),v4+1)) (Ai (wJ a b v2) v3)
def NI(a:List Pr)(b:List Pr)(v2:Nat):Bool×Nat→Option (Lv (Bool×Nat) (Bool) (List Pr)):=fun(v3,v4)=>(Xm a b v2 v3 v4).m
def uF(a:List Pr)(b:List Pr)(v2:Nat):Nat→St:=fun v9=>Ad [(0,vL Ap a),(3,vL Ap b),(4,vN v2),(7,vN v9)] []
def ud(b:List Pr)(c:List Pr)(v2:Nat):Nat→Nat×St:=fun a=>(4,Ad [(0,vL Ap b),(3,vL Ap c),(4,vN v2),(7,vN a)] [])
def Tc(c:List Pr)(v1:List Pr)(v2:Nat)(v9:Nat):PT 0 (Lv (Nat) (Nat) (List Pr)):=vz (An v1)<|A0 (decide ((v9:Int)<(v1.length:Int))) v1 (v9:Int) fun a=>A0 (decide ((v9:Int)<(v1.length:Int))) c (v2:Int) fun b=>AO (decide ((v9:Int)<(v1.length:Int))) (gT Am a.key b.key) fun d=>br (decide ((v9:Int)<(v1.length:Int))&&decide (d<(0:Int))) (vs (wa v9 1)<|ln (uF c v1 v2) (v9+1)) (Ai (ud c v1 v2) v9)
def Nh(a:List Pr)(b:List Pr)(v2:Nat):Nat→Option (Lv (Nat) (Nat) (List Pr)):=fun v9=>(Tc a b v2 v9).m
def XT(d:List Pr)(v2:Nat)(a:Pr)(b:List Pr)(c:List Pr):PT 0 (Lv (List Pr×Nat) (List Pr) (List Pr)):=vs (wa v2 1)<|vw (.frz 72 [(3,((c++(([a]:List Pr)++b)).map Ap))] [])<|vz (fz (c++(([a]:List Pr)++b)))<|ln (cm d) (c++(([a]:List Pr)++b),v2+1)
def XN(e:List Pr)(f:List Pr)(v2:Nat)(d:Nat)(b:Pr)(c:List Pr):PT 0 (Lv (List Pr×Nat) (List Pr) (List Pr)):=sL f .no (.nt d) fun a=>a0 a<|ar a (([b]:List Pr)++c) (1,63) 0<|vz (fl (a++(([b]:List Pr)++c)))<|lc (Ad [(0,vL Ap e),(3,.ref (1,72) 0 0 (a++(([b]:List Pr)++c)).length),(4,vN v2)] [kk 72 63 14 (Ab Ap (a++(([b]:List Pr)++c)))]) ((XT e v2 b c a).m)
def Tp(d:List Pr)(e:List Pr)(v2:Nat)(c:Nat):PT 0 (Lv (List Pr×Nat) (List Pr) (List Pr)):=ix d v2 fun a=>sL e (.nt c) .no fun b=>wg<|pO (a:Pr) b<|vz (fl (([a]:List Pr)++b))<|lc (Ad [(0,vL Ap d),(3,vL Ap e),(4,vN v2),(7,vN c),(8,.ref (1,63) 0 0 (([a]:List Pr)++b).length)] [kk 63 63 14 (Ab Ap (([a]:List Pr)++b))]) ((XN d e v2 c a b).m)
def W2(a:List Pr)(b:List Pr)(v2:Nat):PT 0 (Lv (List Pr×Nat) (List Pr) (List Pr)):=lc (Ad [(0,vL Ap a),(3,vL Ap b),(4,vN v2),(7,vI 0)] []) ((Al (Nh a b v2) Am 0).bind (Sum.elim (fun c=>(Tp a b v2 c).m) (fun z=>some (.rt z))))
def Xh(a:List Pr)(b:List Pr)(v2:Nat):PT 0 (Lv (List Pr×Nat) (List Pr) (List Pr)):=vs (wa v2 1)<|ln (cm a) (b,v2+1)
def XA(a:List Pr)(b:List Pr)(v2:Nat):PT 0 (Lv (List Pr×Nat) (List Pr) (List Pr)):=lc (Ad [(0,vL Ap a),(3,vL Ap b),(4,vN v2)] []) ((Xh a b v2).m)
def XG(a:List Pr)(b:List Pr)(v2:Nat)(c:Bool):PT 0 (Lv (List Pr×Nat) (List Pr) (List Pr)):=lc (Ad [(0,vL Ap a),(3,vL Ap b),(4,vN v2),(38,vB c)] []) (if c=true then(W2 a b v2).m else(XA a b v2).m)
def WE(a:List Pr)(b:List Pr)(v2:Nat):PT 0 (Lv (List Pr×Nat) (List Pr) (List Pr)):=vs (wa v2 1)<|lc (Ad [(0,vL Ap a),(3,vL Ap b),(4,vN v2),(5,vB true),(6,vN (v2+1))] []) ((Al (NI a b v2) Am (true,v2+1)).bind (Sum.elim (fun c=>(XG a b v2 c).m) (fun z=>some (.rt z))))
def WN(a:List Pr)(b:List Pr)(v2:Nat):PT 0 (Lv (List Pr×Nat) (List Pr) (List Pr)):=lc (Ad [(0,vL Ap a),(3,vL Ap b),(4,vN v2),(5,vB true)] []) ((WE a b v2).m)
def Wv(a:List Pr)(b:List Pr)(v2:Nat):PT 0 (Lv (List Pr×Nat) (List Pr) (List Pr)):=vz (An a)<|br (decide ((v2:Int)<(a.length:Int))) (lc (Ad [(0,vL Ap a),(3,vL Ap b),(4,vN v2)] []) ((WN a b v2).m)) (Ai (tW) b)
def RL(a:List Pr):List Pr×Nat→Option (Lv (List Pr×Nat) (List Pr) (List Pr)):=fun(b,v2)=>(Wv a b v2).m
def mc(a:List Pr):PT 0 (List Pr):=lr Od nG a
def oh(b:List Pr):PT 0 (List Pr):=vw (.ads 3 3 63 14)<|vw (.frz 3 [(3,(([]:List Pr).map Ap))] [])<|vz (fz ([]:List Pr))<|lc (Ad [(0,vL Ap b),(3,vL Ap ([]:List Pr)),(4,vI 0)] []) ((Al (RL b) Am (([]:List Pr),0)).bind (Sum.elim (fun a=>(mc a).m) some))
def m8(a:List Pr):PT 0 (List Pr):=lc (Ad [(0,vL Ap a),(3,.e0),(4,vI 0)] []) ((oh a).m)
def pD(a:List Pr):PT 0 (List Pr):=lc (Ad [(0,vL Ap a),(3,.e0)] []) ((m8 a).m)
def jA(a:List Pr):Option (List Pr):=(pD a).m
theorem ZIO{C:Cx}(co:CO C 0)(a:List Pr)(b:List Pr)(v2:Nat):KL Tryz.prog (AC tl) 76 C (pa [0,0,1,0,1,0,0,1,0,0,1,0,1,1] (AA Tryz.f62)) [.tmp 2] 0 (uB a b v2) (wJ a b v2) Od nG (NI a b v2):=fun(v3,v4) _ hm Q c e d=>At co Aa Ae (Xm a b v2 v3 v4) (AK [0,3,4,5,6]) (AK [0,3,4,5]) e hm d fun r g=>⟨fun f=>fun h=>fun i=>id,id⟩
theorem ZKG{C:Cx}(co:CO C 0)(a:List Pr)(b:List Pr)(v2:Nat):KL Tryz.prog (AC tl) 76 C (pa [0,0,0,1,0,1,1,1,0,0,1,0,0,1,0,1,1] (AA Tryz.f62)) [.tmp 2] 0 (uF a b v2) (ud a b v2) Od nG (Nh a b v2):=fun v9 _ hm Q c h f=>At co Aa Ae (Tc a b v2 v9) (AK [0,3,4,7]) (AK [0,3,4,7]) h hm f fun r g=>fun d=>fun e=>fun i=>⟨id,id⟩
theorem ZEk{C:Cx}(co:CO C 0)(b:List Pr):KL Tryz.prog (AC tl) 76 C (pa [0,0,1,0,1,1] (AA Tryz.f62)) [.tmp 2] 0 (cm b) (tW) Od nG (RL b):=fun(d,v2) _ hm Q j c a=>Aj co Aa Ae 1 (Wv b d v2) (AK [0,3,4]) (AK [3]) c hm a fun r g=>⟨fun _ hm a=>sq (bk 1 (Aj co Aa Ae 1 (WN b d v2) (AK [0,3,4,5]) nl c hm a fun r g=>fun _ hm a=>sq (Aj co Aa Ae 1 (WE b d v2) (AK [0,3,4,5,6]) nl c hm a fun r g=>fun _ hm a=>bk 2 (lo (El (ZIO co b d v2) c hm a (fun k hm=>Aj co Aa Ae 1 (XG b d v2 k) (AK [0,3,4,38]) nl c hm a fun r g=>fun _ hm a=>cd k hm (fun hm=>Aj co Aa Ae 1 (W2 b d v2) (AK [0,3,4,7]) nl c hm a fun r g=>fun _ hm a=>sq (bk 4 (lo (El (ZKG co b d v2) c hm a (fun h hm=>sq (Hs co Aa Ae (.fst 0 (.fst 1 (.fst 2 (.fst 5 (.fst 6 (.fst 7 (.fst 3 (.fst 4 (.fst 8 (.fst 9 .nil)))))))))) [] (Tp b d v2 h) (Ac [0,3,4,7,8] [((1,63),true)]) hm a fun r g=>fun e=>fun f=>fun _ hm a=>At co Aa Ae (XN b d v2 h e f) (Ac [0,3,4] [((1,72),true)]) nl c hm a fun r g=>fun i=>fun _ hm a=>At co Aa Ae (XT b v2 e f i) (AK [0,3,4]) nl c hm a fun r g=>id)))))) (fun hm=>At co Aa Ae (XA b d v2) (AK [0,3,4]) nl c hm a fun r g=>fun _ hm a=>At co Aa Ae (Xh b d v2) (AK [0,3,4]) nl c hm a fun r g=>id))))))),id⟩
theorem ZVE(b:List Pr):KC Tryz.prog 62 [vL Ap b] (jA b) Od:=AF Tryz.func62 Tryz.ntmps62 Aa [.tmp 2] fun C co y hm d a=>Aj co Aa Ae 2 (pD b) (AK [0,3]) nl nH hm a fun r g=>fun _ hm a=>sq (Aj co Aa Ae 1 (m8 b) (AK [0,3,4]) nl nH hm a fun r g=>fun _ hm a=>bk 0 (HZ co (oh b) (AK [0,3,4]) hm a fun r g=>fun _ hm a=>lo (AE (ZEk co b) nH hm a (fun c hm=>Ax co Aa Ae (mc c) hm a fun r g=>id))))
abbrev DL:Val→AV:=fun y=>.agg ((Ag y).map .d)
abbrev KS:List (Af×Bool):=[((1,6),false),((1,7),false),((1,9),false),((1,11),false),((1,1095),true)]
abbrev Ud:List (Af×Bool):=[((1,6),false),((1,7),false),((1,9),false),((1,1095),true)]
abbrev Ix:List (Af×Bool):=[((1,6),false),((1,9),false),((1,1095),true)]
abbrev yL:List (Af×Bool):=[((1,3),false),((1,5),false),((1,6),false),((1,7),false),((1,9),false)]
abbrev CM:Af×Blk:=kk 6 33 7 [vI 0,.d (.int .u64 0),vS ⟨#[]⟩,.e0,.e0,.e0,.e0]
abbrev F7(a:Msg×Bool):Af×Blk:=kk 7 45 5 (cD (AU a.1))
abbrev Hu(a:List Slt):Af×Blk:=kk 1095 61 8 (Ab Aq a)
abbrev Mi(a:Fld):Af×Blk:=kk 11 51 16 (cD (Az a))
abbrev OL(b:List Slt)(a:List Raw):Af×Blk:=kk 9 33 7 [vI 10,.d (.int .u64 0),vS ⟨#[]⟩,.e0,.e0,.ref (1,1095) 0 0 b.length,vL Av a]
abbrev TZ(a:List Slt):Af×Blk:=kk 9 33 7 [vI 10,.d (.int .u64 0),vS ⟨#[]⟩,.e0,.e0,.ref (1,1095) 0 0 a.length,.e0]
abbrev Uh(a:List Slt):Af×Blk:=kk 1095 61 8 (Ab Aq a)
abbrev gI(a:List Slt):Af×Blk:=kk 9 33 7 [vI 10,.d (.int .u64 0),vS ⟨#[]⟩,.e0,.e0,.ref (1,1095) 0 0 a.length,.e0]
abbrev yA(a:List Slt):Af×Blk:=kk 9 33 7 [vI 10,.d (.int .u64 0),vS ⟨#[]⟩,.e0,.e0,.ref (1,1095) 0 0 a.length,.e0]
abbrev yF(a:Scm):Af×Blk:=kk 3 26 3 (cD (Au a))
abbrev yy(a:Val):Af×Blk:=kk 5 33 7 (cD (Ag a))
abbrev yG:Af×Blk:=kk 9 33 7 [vI 10,.d (.int .u64 0),vS ⟨#[]⟩,.e0,.e0,.e0,.e0]
def ZRJ:Pl:=(.opt [1,12] 1 (.fst 12 (.fst 13 (.fst 14 (.fst 15 (.fst 16 (.fst 17 .nil)))))) (.opt [1,12] 12 (.fst 13 (.fst 1 (.fst 14 (.fst 15 (.fst 16 (.fst 17 .nil)))))) .nil))
def ZS3:Pl:=(.opt [3,12] 3 (.fst 12 (.fst 13 (.fst 14 (.fst 15 (.fst 16 (.fst 17 .nil)))))) (.opt [3,12] 12 (.fst 3 (.fst 13 (.fst 14 (.fst 15 (.fst 16 (.fst 17 .nil)))))) .nil))
def ZRY:Pl:=(.opt [1,3,12] 1 ZS3 (.opt [1,3,12] 3 ZRJ (.opt [1,3,12] 12 (.fst 1 (.fst 3 (.fst 13 (.fst 14 (.fst 15 (.fst 16 (.fst 17 .nil))))))) .nil)))
abbrev LV:Val→AV:=fun y=>.agg ((Ag y).map .d)
def vY(b:Scm)(c:Val)(d:Msg×Bool):Nat×List Slt→St:=fun(v2,a)=>Ad [(3,.iptr (Au b) 0),(5,.iptr (Ag c) 0),pp 6,pp 7,pp 9,(10,vN v2)] [CM,(F7 d),(gI a),kk 1095 61 8 (Ab Aq a)]
def wW(b:Val):List Slt→Nat×St:=fun a=>(0,Ad [(5,.iptr (Ag b) 0),pp 6,pp 9] [CM,(yA a),(Hu a)])
def di(c:Scm)(d:Val)(f:Msg×Bool)(v2:Nat)(b:Fld):Nat×List Slt→St:=fun(e,a)=>Ad [(3,.iptr (Au c) 0),(5,.iptr (Ag d) 0),pp 6,pp 7,pp 9,(10,vN v2),pp 11,(12,vN e)] [CM,(F7 f),(TZ a),(Mi b),(Uh a)]
def u6(b:Scm)(c:Val)(d:Msg×Bool)(v2:Nat):List Slt→Nat×St:=fun a=>(2,Ad [(3,.iptr (Au b) 0),(5,.iptr (Ag c) 0),pp 6,pp 7,pp 9,(10,vN v2)] [CM,(F7 d),kk 9 33 7 [vI 10,.d (.int .u64 0),vS ⟨#[]⟩,.e0,.e0,.ref (1,1095) 0 0 a.length,.e0],kk 1095 61 8 (Ab Aq a)])
def W3(e:Scm)(f:Val)(g:Msg×Bool)(v2:Nat)(b:Fld)(d:Nat)(c:List Slt)(a:Val):PT 0 (Lv (Nat×List Slt) (List Slt) (Val)):=vs (wa d 1)<|vz (fl (c++([(.mk b.num a:Slt)])))<|ln (di e f g v2 b) (d+1,c++([(.mk b.num a:Slt)]))
def JU(d:Scm)(e:Val)(g:Msg×Bool)(v2:Nat)(b:Fld)(f:Nat)(c:List Slt)(a:Val):PT 0 (Lv (Nat×List Slt) (List Slt) (Val)):=vz (fl (c++([(.mk b.num a:Slt)])))<|lc (Ad [(3,.iptr (Au d) 0),(5,.iptr (Ag e) 0),pp 6,pp 7,pp 9,(10,vN v2),pp 11,(12,vN f)] [CM,(F7 g),kk 9 33 7 [vI 10,.d (.int .u64 0),vS ⟨#[]⟩,.e0,.e0,.ref (1,1095) 0 0 (c++([(.mk b.num a:Slt)])).length,.e0],(Mi b),kk 1095 61 8 (Ab Aq (c++([(.mk b.num a:Slt)])))]) ((W3 d e g v2 b f c a).m)
def Zi(d:Scm)(g:Val)(e:Scm→Fld→Val→Option (Val))(i:Msg×Bool)(v2:Nat)(c:Fld)(h:Nat)(f:List Slt)(b:Slt):PT 0 (Lv (Nat×List Slt) (List Slt) (Val)):=tw (wg<|cs Tryz.prog 43 [.agg ((Au d).map .d),.agg ((Az c).map .d),.agg ((Ag b.val).map .d)] [] [] (e d c b.val) (fun y=>.agg ((Ag y).map .d)) fun a=>vw .sep<|ap f ((.mk c.num a:Slt):Slt)<|wg<|(JU d g i v2 c h f a)) (cs Tryz.prog 43 [.agg ((Au d).map .d),.agg ((Az c).map .d),.agg ((Ag b.val).map .d)] [] [] (e d c b.val) (fun y=>.agg ((Ag y).map .d)) fun a=>wg<|vw .sep<|ap f ((.mk c.num a:Slt):Slt)<|wg<|(JU d g i v2 c h f a))
def Tm(d:Scm)(g:Val)(e:Scm→Fld→Val→Option (Val))(i:Msg×Bool)(v2:Nat)(c:Fld)(h:Nat)(f:List Slt)(b:Slt):PT 0 (Lv (Nat×List Slt) (List Slt) (Val)):=tw (wg<|cs Tryz.prog 43 [.agg ((Au d).map .d),.agg ((Az c).map .d),.agg ((Ag b.val).map .d)] [] [] (e d c b.val) (fun y=>.agg ((Ag y).map .d)) fun a=>vw .sep<|ap f ((.mk c.num a:Slt):Slt)<|wg<|(JU d g i v2 c h f a)) (cs Tryz.prog 43 [.agg ((Au d).map .d),.agg ((Az c).map .d),.agg ((Ag b.val).map .d)] [] [] (e d c b.val) (fun y=>.agg ((Ag y).map .d)) fun a=>wg<|vw .sep<|ap f ((.mk c.num a:Slt):Slt)<|wg<|(JU d g i v2 c h f a))
def Xp(d:Scm)(g:Val)(b:Scm→Fld→Val→Option (Val))(i:Msg×Bool)(v2:Nat)(c:Fld)(h:Nat)(f:List Slt)(a:Slt):PT 0 (Lv (Nat×List Slt) (List Slt) (Val)):=tw (wg<|(Zi d g b i v2 c h f a)) (tw (wg<|(Tm d g b i v2 c h f a)) (cs Tryz.prog 43 [.agg ((Au d).map .d),.agg ((Az c).map .d),.agg ((Ag a.val).map .d)] [] [] (b d c a.val) (fun y=>.agg ((Ag y).map .d)) fun e=>wg<|wg<|vw .sep<|ap f ((.mk c.num e:Slt):Slt)<|wg<|(JU d g i v2 c h f e)))
def Tv(f:Scm)(c:Val)(a:Scm→Fld→Val→Option (Val))(h:Msg×Bool)(v2:Nat)(e:Fld)(d:Nat)(g:List Slt):PT 0 (Lv (Nat×List Slt) (List Slt) (Val)):=ix c.slots d fun b=>wg<|(Xp f c a h v2 e d g b)
def Wz(d:Scm)(e:Val)(f:Msg×Bool)(v2:Nat)(c:Fld)(b:Nat)(a:List Slt):PT 0 (Lv (Nat×List Slt) (List Slt) (Val)):=vs (wa b 1)<|vz (fl a)<|ln (di d e f v2 c) (b+1,a)
def Wx(c:Scm)(d:Val)(f:Msg×Bool)(v2:Nat)(b:Fld)(e:Nat)(a:List Slt):PT 0 (Lv (Nat×List Slt) (List Slt) (Val)):=vz (fl a)<|lc (Ad [(3,.iptr (Au c) 0),(5,.iptr (Ag d) 0),pp 6,pp 7,pp 9,(10,vN v2),pp 11,(12,vN e)] [CM,(F7 f),(TZ a),(Mi b),(Uh a)]) ((Wz c d f v2 b e a).m)
def WF(g:Scm)(b:Val)(f:Scm→Fld→Val→Option (Val))(h:Msg×Bool)(v2:Nat)(a:Fld)(d:Nat)(c:List Slt):PT 0 (Lv (Nat×List Slt) (List Slt) (Val)):=ix b.slots d fun e=>wg<|wg<|A0 (decide (e.num=a.num)) b.slots (d:Int) fun j=>AO (decide (e.num=a.num)) (ZVB a j.val) fun i=>vz (fl c)<|lc (Ad [(3,.iptr (Au g) 0),(5,.iptr (Ag b) 0),pp 6,pp 7,pp 9,(10,vN v2),pp 11,(12,vN d),(61,vB (decide (e.num=a.num)&&(!i)))] [CM,(F7 h),(TZ c),(Mi a),(Uh c)]) (if(decide (e.num=a.num)&&(!i))=true then(Tv g b f h v2 a d c).m else(Wx g b h v2 a d c).m)
def WD(d:Scm)(b:Val)(c:Scm→Fld→Val→Option (Val))(f:Msg×Bool)(v2:Nat)(g:Fld)(e:Nat)(a:List Slt):PT 0 (Lv (Nat×List Slt) (List Slt) (Val)):=vz (An b.slots)<|br (decide ((e:Int)<(b.slots.length:Int))) (vz (fl a)<|lc (Ad [(3,.iptr (Au d) 0),(5,.iptr (Ag b) 0),pp 6,pp 7,pp 9,(10,vN v2),pp 11,(12,vN e)] [CM,(F7 f),(TZ a),(Mi g),(Uh a)]) ((WF d b c f v2 g e a).m)) (vz (fl a)<|Ai (u6 d b f v2) a)
def RU(c:Scm)(d:Val)(a:Scm→Fld→Val→Option (Val))(g:Msg×Bool)(v2:Nat)(b:Fld):Nat×List Slt→Option (Lv (Nat×List Slt) (List Slt) (Val)):=fun(f,e)=>(WD c d a g v2 b f e).m
def Ws(b:Scm)(c:Val)(d:Msg×Bool)(v2:Nat)(a:List Slt):PT 0 (Lv (Nat×List Slt) (List Slt) (Val)):=vs (wa v2 1)<|vz (fl a)<|ln (vY b c d) (v2+1,a)
def Wd(d:Scm)(e:Val)(c:Scm→Fld→Val→Option (Val))(b:Msg×Bool)(v2:Nat)(a:List Slt):PT 0 (Lv (Nat×List Slt) (List Slt) (Val)):=wg<|ix b.1.fields v2 fun g=>wg<|vz (fl a)<|lc (Ad [(3,.iptr (Au d) 0),(5,.iptr (Ag e) 0),pp 6,pp 7,pp 9,(10,vN v2),pp 11,(12,vI 0)] [CM,(F7 b),(gI a),(Mi g),kk 1095 61 8 (Ab Aq a)]) ((Al (RU d e c b v2 g) Am (0,a)).bind (Sum.elim (fun f=>(Ws d e b v2 f).m) (fun z=>some (.rt z))))
def Ww(e:Scm)(d:Val)(c:Scm→Fld→Val→Option (Val))(b:Msg×Bool)(v2:Nat)(a:List Slt):PT 0 (Lv (Nat×List Slt) (List Slt) (Val)):=wg<|vz (An b.1.fields)<|br (decide ((v2:Int)<(b.1.fields.length:Int))) (vz (fl a)<|lc (Ad [(3,.iptr (Au e) 0),(5,.iptr (Ag d) 0),pp 6,pp 7,pp 9,(10,vN v2)] [CM,(F7 b),(gI a),kk 1095 61 8 (Ab Aq a)]) ((Wd e d c b v2 a).m)) (vz (fl a)<|Ai (wW d) a)
def RJ(b:Scm)(c:Val)(a:Scm→Fld→Val→Option (Val))(e:Msg×Bool):Nat×List Slt→Option (Lv (Nat×List Slt) (List Slt) (Val)):=fun(v2,d)=>(Ww b c a e v2 d).m
def uo(d:Val)(a:List Slt):Nat×List Raw→St:=fun(c,b)=>Ad [(5,.iptr (Ag d) 0),pp 6,pp 9,(13,vN c)] [CM,(OL a b),(Hu a)]
def tJ(a:List Slt):List Raw→Nat×St:=fun b=>(4,Ad [pp 6,pp 9] [CM,kk 9 33 7 [vI 10,.d (.int .u64 0),vS ⟨#[]⟩,.e0,.e0,.ref (1,1095) 0 0 a.length,vL Av b],(Hu a)])
def v5(e:Val)(a:List Slt)(c:Nat)(b:List Raw):Int→St:=fun d=>Ad [(5,.iptr (Ag e) 0),pp 6,pp 9,(13,vN c),(14,vI d)] [CM,(OL a b),(Hu a)]
def wZ(e:Val)(a:List Slt)(c:Nat)(b:List Raw):Int→Nat×St:=fun d=>(6,Ad [(5,.iptr (Ag e) 0),pp 6,pp 9,(13,vN c),(14,vI d)] [CM,(OL a b),(Hu a)])
def WM(g:Val)(b:List Slt)(d:Nat)(c:List Raw)(a:Int):PT 0 (Lv (Int) (Int) (Val)):=wg<|vg (decide ((0:Int)<a)) (wi (a-1))<|A0 (decide ((0:Int)<a)) c (a-1) fun e=>A0 (decide ((0:Int)<a)) g.raws (d:Int) fun f=>br (decide ((0:Int)<a)&&decide (f.num<e.num)) (vs (wi (a-1))<|vz (fl b)<|ln (v5 g b d c) (a-1)) (vz (fl b)<|Ai (wZ g b d c) a)
def Rz(f:Val)(e:Scm→Fld→Val→Option (Val))(b:List Slt)(c:Nat)(a:List Raw):Int→Option (Lv (Int) (Int) (Val)):=fun d=>(WM f b c a d).m
def WS(f:Val)(d:List Slt)(e:Nat)(b:List Raw)(a:Raw)(c:List Raw):PT 0 (Lv (Nat×List Raw) (List Raw) (Val)):=vs (wa e 1)<|vw (.frz 114 [] [((1,9),6,(((b++[a])++c).map Av))])<|vz (fz ((b++[a])++c))<|vz (fl d)<|ln (uo f d) (e+1,(b++[a])++c)
def Wa(h:Val)(d:List Slt)(e:Nat)(f:List Raw)(g:Int):PT 0 (Lv (Nat×List Raw) (List Raw) (Val)):=wg<|sL f .no (.it g) fun a=>a0 a<|ix h.raws e fun b=>vw .sep<|ap a (b:Raw)<|wg<|sL f (.it g) .no fun c=>aq (a++[b]) c<|wg<|vz (fl ((a++[b])++c))<|vz (fl d)<|lc (Ad [(5,.iptr (Ag h) 0),pp 6,pp 9,(13,vN e)] [CM,kk 9 33 7 [vI 10,.d (.int .u64 0),vS ⟨#[]⟩,.e0,.e0,.ref (1,1095) 0 0 d.length,.ref (1,114) 0 0 ((a++[b])++c).length],kk 114 65 4 (Ab Av ((a++[b])++c)),(Hu d)]) ((WS h d e a b c).m)
def WT(e:Val)(d:Scm→Fld→Val→Option (Val))(b:List Slt)(c:Nat)(a:List Raw):PT 0 (Lv (Nat×List Raw) (List Raw) (Val)):=wg<|vz (An a)<|vz (fl b)<|lc (Ad [(5,.iptr (Ag e) 0),pp 6,pp 9,(13,vN c),(14,vN a.length)] [CM,(OL b a),(Hu b)]) ((Al (Rz e d b c a) Am (a.length:Int)).bind (Sum.elim (fun f=>(Wa e b c a f).m) (fun z=>some (.rt z))))
def V5(d:Val)(e:Scm→Fld→Val→Option (Val))(a:List Slt)(c:Nat)(b:List Raw):PT 0 (Lv (Nat×List Raw) (List Raw) (Val)):=vz (An d.raws)<|br (decide ((c:Int)<(d.raws.length:Int))) (vz (fl a)<|lc (Ad [(5,.iptr (Ag d) 0),pp 6,pp 9,(13,vN c)] [CM,(OL a b),(Hu a)]) ((WT d e a c b).m)) (vz (fl a)<|Ai (tJ a) b)
def ND(e:Val)(a:Scm→Fld→Val→Option (Val))(c:List Slt):Nat×List Raw→Option (Lv (Nat×List Raw) (List Raw) (Val)):=fun(d,b)=>(V5 e a c d b).m
def m5(a:List Slt)(b:List Raw):PT 0 (Val):=wg<|wg<|vz (fr a)<|lr LV nG (.mk 10 0 ⟨#[]⟩ [] [] a b:Val)
def nW(d:Val)(b:Scm→Fld→Val→Option (Val))(a:List Slt):PT 0 (Val):=vw (.adc (1,9) 6 1096 65 4)<|vw (.frz 1096 [] [((1,9),6,(([]:List Raw).map Av))])<|vz (fz ([]:List Raw))<|vz (fl a)<|lc (Ad [(5,.iptr (Ag d) 0),pp 6,pp 9,(13,vI 0)] [CM,kk 9 33 7 [vI 10,.d (.int .u64 0),vS ⟨#[]⟩,.e0,.e0,.ref (1,1095) 0 0 a.length,vL Av ([]:List Raw)],(Hu a)]) ((Al (ND d b a) Am (0,([]:List Raw))).bind (Sum.elim (fun c=>(m5 a c).m) some))
def nX(c:Val)(b:Scm→Fld→Val→Option (Val))(a:List Slt):PT 0 (Val):=vz (fl a)<|lc (Ad [(5,.iptr (Ag c) 0),pp 6,pp 9,(13,vI 0)] [CM,(yA a),(Hu a)]) ((nW c b a).m)
def pI(d:Scm)(b:Val)(a:Scm→Fld→Val→Option (Val))(e:Msg×Bool):PT 0 (Val):=vw (.adc (1,9) 5 1095 61 8)<|vw (.fzb 3 [3])<|vw (.fzb 5 [5])<|vz (fl ([]:List Slt))<|lc (Ad [(3,.iptr (Au d) 0),(5,.iptr (Ag b) 0),pp 6,pp 7,pp 9,(10,vI 0)] [CM,(F7 e),kk 9 33 7 [vI 10,.d (.int .u64 0),vS ⟨#[]⟩,.e0,.e0,.ref (1,1095) 0 0 ([]:List Slt).length,.e0],kk 1095 61 8 (Ab Aq ([]:List Slt))]) ((Al (RJ d b a e) Am (0,([]:List Slt))).bind (Sum.elim (fun c=>(nX b a c).m) some))
def n5(b:Scm)(c:Val)(a:Scm→Fld→Val→Option (Val))(d:Msg×Bool):PT 0 (Val):=lc (Ad [pp 3,pp 5,pp 6,pp 7,pp 9,(10,vI 0)] [(yF b),(yy c),CM,(F7 d),yG]) ((pI b c a d).m)
def oU(b:Scm)(e:ByteArray)(c:Val)(a:Scm→Fld→Val→Option (Val)):PT 0 (Val):=wg<|cl (UG b e) fun d=>wg<|wg<|lc (Ad [pp 3,pp 5,pp 6,pp 7,pp 9] [(yF b),(yy c),CM,(F7 d),yG]) ((n5 b c a d).m)
def Pt(a:Scm→Fld→Val→Option (Val))(b:Scm)(c:ByteArray)(d:Val):Option (Val):=(oU b c d a).m
theorem ZIw{C:Cx}(co:CO C 0)(b:Scm)(f:Val)(e:Scm→Fld→Val→Option (Val))(j:Msg×Bool)(v2:Nat)(c:Fld)(i:∀(b:Scm) (v:Fld) (f:Val),KC Tryz.prog 43 [.agg ((Au b).map .d),.agg ((Az v).map .d),.agg ((Ag f).map .d)] (e b v f) DL):KL Tryz.prog (AC tl) 132 C (pa [0,0,1,1,0,0,1,0,0,1,0,1,1,1] (AA Tryz.f17)) [.cell 6 33] 0 (di b f j v2 c) (u6 b f j v2) LV nG (RU b f e j v2 c):=fun(m,l) _ hm Q u p k=>Aj co Aa Ae 1 (WD b f e j v2 c m l) (Ac [3,5,6,7,9,10,11,12] KS) (Ac [3,5,6,7,9,10] Ud) p hm k fun r g=>⟨fun _ hm k=>sq (bk 3 (Aj co Aa Ae 1 (WF b f e j v2 c m l) (Ac [3,5,6,7,9,10,11,12,61] KS) nl p hm k fun r g=>fun w=>fun z=>fun x=>fun _ hm k=>cd (decide (w.num=c.num)&&(!x)) hm (fun hm=>Hs co Aa Ae (.fst 0 (.fst 2 (.fst 4 (.fst 6 (.fst 7 (.fst 8 (.fst 9 (.fst 10 (.fst 5 (.fst 11 ZRY)))))))))) [3,5] (Tv b f e j v2 c m l) (Ac [3,5,6,7,9,10,11,12] KS) hm k fun r g=>Zu (fun(o:∀(d:Val),PT.n (JU b f j v2 c m l d) _)=>Zu (fun(q:∀(a:Slt),PT.n (Zi b f e j v2 c m l a) _)=>Zu (fun(s:∀(a:Slt),PT.n (Tm b f e j v2 c m l a) _)=>Zu (fun(t:∀(a:Slt),PT.n (Xp b f e j v2 c m l a) _)=>fun a=>(t a)) (fun a=>⟨(q a),⟨(s a),⟨fun y hy n _ _=>by rw[(i b c a.val).x,(i b c a.val).e];exact(i b c a.val).k _ n y hy,fun d=>(o d)⟩,fun _ h=>h⟩,fun _ h=>h⟩)) (fun a=>⟨⟨fun y hy n _ _=>by rw[(i b c a.val).x,(i b c a.val).e];exact(i b c a.val).k _ n y hy,fun d=>(o d)⟩,⟨fun y hy n _ _=>by rw[(i b c a.val).x,(i b c a.val).e];exact(i b c a.val).k _ n y hy,fun d=>(o d)⟩,fun _ h=>h⟩)) (fun a=>⟨⟨fun y hy n _ _=>by rw[(i b c a.val).x,(i b c a.val).e];exact(i b c a.val).k _ n y hy,fun d=>(o d)⟩,⟨fun y hy n _ _=>by rw[(i b c a.val).x,(i b c a.val).e];exact(i b c a.val).k _ n y hy,fun d=>(o d)⟩,fun _ h=>h⟩)) (fun d=>fun _ hm k=>At co Aa Ae (W3 b f j v2 c m l d) (Ac [3,5,6,7,9,10,11,12] KS) nl p hm k fun r g=>id)) (fun hm=>At co Aa Ae (Wx b f j v2 c m l) (Ac [3,5,6,7,9,10,11,12] KS) nl p hm k fun r g=>fun _ hm k=>At co Aa Ae (Wz b f j v2 c m l) (Ac [3,5,6,7,9,10,11,12] KS) nl p hm k fun r g=>id))),id⟩
theorem ZEW{C:Cx}(co:CO C 0)(c:Scm)(b:Val)(a:Scm→Fld→Val→Option (Val))(e:Msg×Bool)(m:∀(c:Scm) (j:Fld) (b:Val),KC Tryz.prog 43 [.agg ((Au c).map .d),.agg ((Az j).map .d),.agg ((Ag b).map .d)] (a c j b) DL):KL Tryz.prog (AC tl) 132 C (pa [0,0,1,0,1,1,1] (AA Tryz.f17)) [.cell 6 33] 0 (vY c b e) (wW b) LV nG (RJ c b a e):=fun(v2,k) _ hm Q i f d=>Aj co Aa Ae 1 (Ww c b a e v2 k) (Ac [3,5,6,7,9,10] Ud) (Ac [5,6,9] Ix) f hm d fun r g=>⟨fun _ hm d=>sq (bk 1 (Aj co Aa Ae 2 (Wd c b a e v2 k) (Ac [3,5,6,7,9,10,11,12] KS) nl f hm d fun r g=>fun l=>fun _ hm d=>bk 2 (lo (El (ZIw co c b a e v2 l m) f hm d (fun h hm=>At co Aa Ae (Ws c b e v2 h) (Ac [3,5,6,7,9,10] Ud) nl f hm d fun r g=>id))))),id⟩
theorem ZHH{C:Cx}(co:CO C 0)(d:Val)(e:Scm→Fld→Val→Option (Val))(b:List Slt)(c:Nat)(a:List Raw)(o:∀(i:Scm) (j:Fld) (d:Val),KC Tryz.prog 43 [.agg ((Au i).map .d),.agg ((Az j).map .d),.agg ((Ag d).map .d)] (e i j d) DL):KL Tryz.prog (AC tl) 132 C (pa [0,0,0,1,0,0,1,0,0,1,0,1,1,1,1] (AA Tryz.f17)) [.cell 6 33] 0 (v5 d b c a) (wZ d b c a) LV nG (Rz d e b c a):=fun f _ hm Q h n m=>At co Aa Ae (WM d b c a f) (Ac [5,6,9,13,14] Ix) (Ac [5,6,9,13,14] Ix) n hm m fun r g=>fun k=>fun l=>⟨id,id⟩
theorem ZIk{C:Cx}(co:CO C 0)(d:Val)(b:Scm→Fld→Val→Option (Val))(a:List Slt)(p:∀(n:Scm) (o:Fld) (d:Val),KC Tryz.prog 43 [.agg ((Au n).map .d),.agg ((Az o).map .d),.agg ((Ag d).map .d)] (b n o d) DL):KL Tryz.prog (AC tl) 132 C (pa [0,0,1,0,1,1,1,1] (AA Tryz.f17)) [.cell 6 33] 0 (uo d a) (tJ a) LV nG (ND d b a):=fun(c,e) _ hm Q m h f=>Aj co Aa Ae 1 (V5 d b a c e) (Ac [5,6,9,13] Ix) (Ac [6,9] Ix) h hm f fun r g=>⟨fun _ hm f=>sq (bk 5 (Aj co Aa Ae 1 (WT d b a c e) (Ac [5,6,9,13,14] Ix) nl h hm f fun r g=>fun _ hm f=>sq (bk 6 (lo (El (ZHH co d b a c e p) h hm f (fun l hm=>At co Aa Ae (Wa d a c e l) (Ac [5,6,9,13] [((1,6),false),((1,9),false),((1,114),true),((1,1095),true)]) nl h hm f fun r g=>fun j=>fun i=>fun k=>fun _ hm f=>At co Aa Ae (WS d a c j i k) (Ac [5,6,9,13] Ix) nl h hm f fun r g=>id)))))),id⟩
theorem UI(a:Scm→Fld→Val→Option (Val))(k:∀(d:Scm) (f:Fld) (c:Val),KC Tryz.prog 43 [.agg ((Au d).map .d),.agg ((Az f).map .d),.agg ((Ag c).map .d)] (a d f c) DL)(d:Scm)(f:ByteArray)(c:Val):KC Tryz.prog 17 [.agg ((Au d).map .d),vS f,.agg ((Ag c).map .d)] (Pt a d f c) LV:=AF Tryz.func17 Tryz.ntmps17 Aa [.cell 6 33] fun C co y hm j b=>Aj co Aa Ae 3 (oU d f c a) (Ac [3,5,6,7,9] yL) nl nH hm b fun r g=>fun i=>fun _ hm b=>sq (Aj co Aa Ae 1 (n5 d c a i) (Ac [3,5,6,7,9,10] yL) nl nH hm b fun r g=>fun _ hm b=>bk 0 (HZ co (pI d c a i) (Ac [3,5,6,7,9,10] Ud) hm b fun r g=>fun _ hm b=>lo (AE (ZEW co d c a i k) nH hm b (fun e hm=>sq (Aj co Aa Ae 1 (nX c a e) (Ac [5,6,9,13] Ix) nl nH hm b fun r g=>fun _ hm b=>bk 4 (HZ co (nW c a e) (Ac [5,6,9,13] Ix) hm b fun r g=>fun _ hm b=>lo (AE (ZIk co c a e k) nH hm b (fun h hm=>Ax co Aa Ae (m5 e h) hm b fun r g=>id))))))))
abbrev ZC:Val→AV:=fun y=>.agg ((Ag y).map .d)
def bh(d:Scm)(b:Typ)(c:Val)(a:Scm→Fld→Val→Option (Val)):PT 0 (Val):=wg<|br (decide (b.kind=(10:Int))) (wg<|wg<|wg<|cs Tryz.prog 17 [.agg ((Au d).map .d),vS b.name,.agg ((Ag c).map .d)] [] [] (Pt a d b.name c) (fun y=>.agg ((Ag y).map .d)) fun e=>wg<|lr ZC nG e) (wg<|cl (iR c) fun f=>wg<|lr ZC nG f)
def KV(a:Scm→Fld→Val→Option (Val))(b:Scm)(c:Typ)(d:Val):Option (Val):=(bh b c d a).m
theorem F6(a:Scm→Fld→Val→Option (Val))(e:∀(b:Scm) (c:Fld) (d:Val),KC Tryz.prog 43 [.agg ((Au b).map .d),.agg ((Az c).map .d),.agg ((Ag d).map .d)] (a b c d) DL)(b:Scm)(c:Typ)(d:Val):KC Tryz.prog 79 [.agg ((Au b).map .d),.agg ((HA c).map .d),.agg ((Ag d).map .d)] (KV a b c d) ZC:=AF Tryz.func79 Tryz.ntmps79 Aa [.cell 6 33] fun C co y hm f i=>Ax co Aa Ae (bh b c d a) hm i fun r g=>⟨⟨fun y hy h _ _=>by rw[(UI a e b c.name d).x,(UI a e b c.name d).e];exact(UI a e b c.name d).k _ h y hy,fun j=>id⟩,fun k=>id⟩
abbrev L9:List (Af×Bool):=[((1,6),false),((1,7),false),((1,1073),true)]
abbrev Pe:List (Af×Bool):=[((1,6),false),((1,9),true)]
abbrev KD:List (Af×Bool):=[((1,3),false),((1,4),false),((1,5),false),((1,6),false)]
abbrev xN:List (Af×Bool):=[((1,3),false),((1,4),false),((1,5),false),((1,6),false),((1,7),false)]
abbrev C9:Af×Blk:=kk 6 33 7 [vI 0,.d (.int .u64 0),vS ⟨#[]⟩,.e0,.e0,.e0,.e0]
abbrev IK(a:Scm):Af×Blk:=kk 3 26 3 (cD (Au a))
abbrev IB(a:Fld):Af×Blk:=kk 4 51 16 (cD (Az a))
abbrev HU(a:Val):Af×Blk:=kk 5 33 7 (cD (Ag a))
abbrev we(a:List Val):Af×Blk:=kk 7 33 7 [vI 11,.d (.int .u64 0),vS ⟨#[]⟩,.ref (1,1073) 0 0 a.length,.e0,.e0,.e0]
abbrev uu(a:List Val)(b:Val):Af×Blk:=kk 7 33 7 [vI 11,.d (.int .u64 0),vS ⟨#[]⟩,.ref (1,1073) 0 0 (a++[b]).length,.e0,.e0,.e0]
abbrev wc:Af×Blk:=kk 7 33 7 [vI 11,.d (.int .u64 0),vS ⟨#[]⟩,.e0,.e0,.e0,.e0]
def vm(b:Scm)(c:Fld)(d:Val):Nat×List Val→St:=fun(e,a)=>Ad [(3,.iptr (Au b) 0),(4,.iptr (Az c) 0),(5,.iptr (Ag d) 0),pp 6,pp 7,(8,vN e)] [C9,(we a),kk 1073 33 7 (Ab A8 a)]
def uv:List Val→Nat×St:=fun a=>(0,Ad [pp 6,pp 7] [C9,kk 7 33 7 [vI 11,.d (.int .u64 0),vS ⟨#[]⟩,.ref (1,1073) 0 0 a.length,.e0,.e0,.e0],kk 1073 33 7 (Ab A8 a)])
def Ny(d:Scm)(e:Fld)(f:Val)(b:Nat)(a:List Val)(c:Val):PT 0 (Lv (Nat×List Val) (List Val) (Val)):=vs (wa b 1)<|vz (fl (a++[c]))<|ln (vm d e f) (b+1,a++[c])
def Zc(c:Scm)(d:Fld)(f:Val)(e:Scm→Fld→Val→Option (Val))(g:Nat)(b:List Val):PT 0 (Lv (Nat×List Val) (List Val) (Val)):=ix f.list g fun h=>tw (wg<|cs Tryz.prog 79 [.agg ((Au c).map .d),.agg ((HA d.type).map .d),.agg ((Ag h).map .d)] [] [] (KV e c d.type h) (fun y=>.agg ((Ag y).map .d)) fun a=>vw .sep<|ap b (a:Val)<|wg<|vz (fl (b++[a]))<|lc (Ad [(3,.iptr (Au c) 0),(4,.iptr (Az d) 0),(5,.iptr (Ag f) 0),pp 6,pp 7,(8,vN g)] [C9,(uu b a),kk 1073 33 7 (Ab A8 (b++[a]))]) ((Ny c d f g b a).m)) (cs Tryz.prog 79 [.agg ((Au c).map .d),.agg ((HA d.type).map .d),.agg ((Ag h).map .d)] [] [] (KV e c d.type h) (fun y=>.agg ((Ag y).map .d)) fun a=>wg<|vw .sep<|ap b (a:Val)<|wg<|vz (fl (b++[a]))<|lc (Ad [(3,.iptr (Au c) 0),(4,.iptr (Az d) 0),(5,.iptr (Ag f) 0),pp 6,pp 7,(8,vN g)] [C9,(uu b a),kk 1073 33 7 (Ab A8 (b++[a]))]) ((Ny c d f g b a).m))
def To(e:Scm)(f:Fld)(b:Val)(c:Scm→Fld→Val→Option (Val))(d:Nat)(a:List Val):PT 0 (Lv (Nat×List Val) (List Val) (Val)):=vz (An b.list)<|br (decide ((d:Int)<(b.list.length:Int))) (vz (fl a)<|lc (Ad [(3,.iptr (Au e) 0),(4,.iptr (Az f) 0),(5,.iptr (Ag b) 0),pp 6,pp 7,(8,vN d)] [C9,(we a),kk 1073 33 7 (Ab A8 a)]) ((Zc e f b c d a).m)) (vz (fl a)<|Ai (uv) a)
def Rx(b:Scm)(c:Fld)(d:Val)(a:Scm→Fld→Val→Option (Val)):Nat×List Val→Option (Lv (Nat×List Val) (List Val) (Val)):=fun(f,e)=>(To b c d a f e).m
def aG(a:List Val):PT 0 (Val):=wg<|wg<|vz (fr a)<|lr DL nG (.mk 11 0 ⟨#[]⟩ a [] [] []:Val)
def bK(b:Scm)(c:Fld)(d:Val)(a:Scm→Fld→Val→Option (Val)):PT 0 (Val):=vw (.adc (1,7) 3 1073 33 7)<|vw (.fzb 3 [3])<|vw (.fzb 4 [4])<|vw (.fzb 5 [5])<|vz (fl ([]:List Val))<|lc (Ad [(3,.iptr (Au b) 0),(4,.iptr (Az c) 0),(5,.iptr (Ag d) 0),pp 6,pp 7,(8,vI 0)] [C9,kk 7 33 7 [vI 11,.d (.int .u64 0),vS ⟨#[]⟩,.ref (1,1073) 0 0 ([]:List Val).length,.e0,.e0,.e0],kk 1073 33 7 (Ab A8 ([]:List Val))]) ((Al (Rx b c d a) Am (0,([]:List Val))).bind (Sum.elim (fun e=>(aG e).m) some))
def eA(b:Scm)(c:Fld)(d:Val)(a:Scm→Fld→Val→Option (Val)):PT 0 (Val):=lc (Ad [pp 3,pp 4,pp 5,pp 6,pp 7,(8,vI 0)] [(IK b),(IB c),(HU d),C9,wc]) ((bK b c d a).m)
def gq(b:Scm)(c:Fld)(d:Val)(a:Scm→Fld→Val→Option (Val)):PT 0 (Val):=wg<|lc (Ad [pp 3,pp 4,pp 5,pp 6,pp 7] [(IK b),(IB c),(HU d),C9,wc]) ((eA b c d a).m)
def u2(b:Scm)(c:Fld)(d:Val):List Pr×Nat→St:=fun(a,e)=>Ad [(3,.iptr (Au b) 0),(4,.iptr (Az c) 0),(5,.iptr (Ag d) 0),pp 6,(9,.ref (1,9) 0 0 a.length),(10,vN e)] [C9,kk 9 63 14 (Ab Ap a)]
def tY:List Pr→Nat×St:=fun a=>(2,Ad [pp 6,(9,.ref (1,9) 0 0 a.length)] [C9,kk 9 63 14 (Ab Ap a)])
def XM(e:Scm)(f:Fld)(g:Val)(c:List Pr)(d:Nat)(a:Val)(b:Val):PT 0 (Lv (List Pr×Nat) (List Pr) (Val)):=vs (wa d 1)<|vz (fl (c++([(.mk a b:Pr)])))<|ln (u2 e f g) (c++([(.mk a b:Pr)]),d+1)
def Tk(d:Scm)(e:Fld)(f:Val)(h:Scm→Fld→Val→Option (Val))(c:List Pr)(g:Nat):PT 0 (Lv (List Pr×Nat) (List Pr) (Val)):=ix f.pairs g fun j=>ix f.pairs g fun i=>du (cl (iR j.key) fun a=>cs Tryz.prog 79 [.agg ((Au d).map .d),.agg ((HA e.type).map .d),.agg ((Ag i.val).map .d)] [] [] (KV h d e.type i.val) (fun y=>.agg ((Ag y).map .d)) fun b=>vw .sep<|ap c ((.mk a b:Pr):Pr)<|vz (fl (c++([(.mk a b:Pr)])))<|lc (Ad [(3,.iptr (Au d) 0),(4,.iptr (Az e) 0),(5,.iptr (Ag f) 0),pp 6,(9,.ref (1,9) 0 0 (c++([(.mk a b:Pr)])).length),(10,vN g)] [C9,kk 9 63 14 (Ab Ap (c++([(.mk a b:Pr)])))]) ((XM d e f c g a b).m))
def WV(e:Scm)(f:Fld)(b:Val)(c:Scm→Fld→Val→Option (Val))(a:List Pr)(d:Nat):PT 0 (Lv (List Pr×Nat) (List Pr) (Val)):=vz (An b.pairs)<|br (decide ((d:Int)<(b.pairs.length:Int))) (vz (fl a)<|lc (Ad [(3,.iptr (Au e) 0),(4,.iptr (Az f) 0),(5,.iptr (Ag b) 0),pp 6,(9,.ref (1,9) 0 0 a.length),(10,vN d)] [C9,kk 9 63 14 (Ab Ap a)]) ((Tk e f b c a d).m)) (vz (fl a)<|Ai (tY) a)
def Rt(b:Scm)(c:Fld)(d:Val)(a:Scm→Fld→Val→Option (Val)):List Pr×Nat→Option (Lv (List Pr×Nat) (List Pr) (Val)):=fun(e,f)=>(WV b c d a e f).m
def nz(a:List Pr):PT 0 (Val):=vw (.frz 9 [(9,(a.map Ap))] [])<|vz (fz a)<|vw .sep<|cl (ZVE a) fun b=>wg<|lr DL nG (.mk 12 0 ⟨#[]⟩ [] b [] []:Val)
def nv(c:Scm)(d:Fld)(e:Val)(a:Scm→Fld→Val→Option (Val)):PT 0 (Val):=vw (.ads 9 9 63 14)<|vw (.fzb 3 [3])<|vw (.fzb 4 [4])<|vw (.fzb 5 [5])<|vz (fl ([]:List Pr))<|lc (Ad [(3,.iptr (Au c) 0),(4,.iptr (Az d) 0),(5,.iptr (Ag e) 0),pp 6,(9,.ref (1,9) 0 0 ([]:List Pr).length),(10,vI 0)] [C9,kk 9 63 14 (Ab Ap ([]:List Pr))]) ((Al (Rt c d e a) Am (([]:List Pr),0)).bind (Sum.elim (fun b=>(nz b).m) some))
def nn(b:Scm)(c:Fld)(d:Val)(a:Scm→Fld→Val→Option (Val)):PT 0 (Val):=lc (Ad [pp 3,pp 4,pp 5,pp 6,(9,.e0),(10,vI 0)] [(IK b),(IB c),(HU d),C9]) ((nv b c d a).m)
def o0(b:Scm)(c:Fld)(d:Val)(a:Scm→Fld→Val→Option (Val)):PT 0 (Val):=lc (Ad [pp 3,pp 4,pp 5,pp 6,(9,.e0)] [(IK b),(IB c),(HU d),C9]) ((nn b c d a).m)
def nb(c:Scm)(d:Fld)(e:Val)(a:Scm→Fld→Val→Option (Val)):PT 0 (Val):=wg<|wg<|wg<|cs Tryz.prog 79 [.agg ((Au c).map .d),.agg ((HA d.type).map .d),.agg ((Ag e).map .d)] [] [] (KV a c d.type e) (fun y=>.agg ((Ag y).map .d)) fun b=>wg<|lr DL nG b
def mZ(b:Scm)(c:Fld)(d:Val)(a:Scm→Fld→Val→Option (Val)):PT 0 (Val):=lc (Ad [pp 3,pp 4,pp 5,pp 6] [(IK b),(IB c),(HU d),C9]) ((nb b c d a).m)
def nD(c:Scm)(b:Fld)(d:Val)(a:Scm→Fld→Val→Option (Val)):PT 0 (Val):=wg<|lc (Ad [pp 3,pp 4,pp 5,pp 6,(39,vB (decide (b.card=(5:Int))))] [(IK c),(IB b),(HU d),C9]) (if decide (b.card=(5:Int))=true then(o0 c b d a).m else(mZ c b d a).m)
def n2(b:Scm)(c:Fld)(d:Val)(a:Scm→Fld→Val→Option (Val)):PT 0 (Val):=lc (Ad [pp 3,pp 4,pp 5,pp 6] [(IK b),(IB c),(HU d),C9]) ((nD b c d a).m)
def nT(c:Scm)(b:Fld)(d:Val)(a:Scm→Fld→Val→Option (Val)):PT 0 (Val):=wg<|lc (Ad [pp 3,pp 4,pp 5,pp 6,(13,vB (decide (b.card=(4:Int))))] [(IK c),(IB b),(HU d),C9]) (if decide (b.card=(4:Int))=true then(gq c b d a).m else(n2 c b d a).m)
def nM(b:Scm)(c:Fld)(d:Val)(a:Scm→Fld→Val→Option (Val)):PT 0 (Val):=lc (Ad [pp 3,pp 4,pp 5,pp 6] [(IK b),(IB c),(HU d),C9]) ((nT b c d a).m)
def T8(a:Scm→Fld→Val→Option (Val))(b:Scm)(c:Fld)(d:Val):Option (Val):=(nM b c d a).m
theorem ZJR{C:Cx}(co:CO C 0)(b:Scm)(c:Fld)(d:Val)(a:Scm→Fld→Val→Option (Val))(i:∀(b:Scm) (c:Fld) (d:Val),KC Tryz.prog 43 [.agg ((Au b).map .d),.agg ((Az c).map .d),.agg ((Ag d).map .d)] (a b c d) DL):KL Tryz.prog (AC tl) 76 C (pa [0,0,1,0,1,0,1,0,1] (AA Tryz.f43)) [.cell 6 33] 0 (vm b c d) (uv) DL nG (Rx b c d a):=fun(k,j) _ hm Q o m e=>Aj co Aa Ae 1 (To b c d a k j) (Ac [3,4,5,6,7,8] L9) (Ac [6,7] L9) m hm e fun r g=>⟨fun _ hm e=>sq (bk 1 (Hs co Aa Ae (.fst 0 (.fst 2 (.fst 3 (.fst 4 (.fst 5 (.fst 6 (.fst 7 (.fst 8 (.fst 9 (.two 1 10 (.fst 10 (.fst 11 (.fst 12 (.fst 13 (.fst 14 .nil))))) (.fst 1 (.fst 11 (.fst 12 (.fst 13 (.fst 14 .nil))))))))))))))) [3,4,5] (Zc b c d a k j) (Ac [3,4,5,6,7,8] L9) hm e fun r g=>fun f=>⟨⟨fun y hy l _ _=>by rw[(F6 a i b c.type f).x,(F6 a i b c.type f).e];exact(F6 a i b c.type f).k _ l y hy,fun n=>fun _ hm e=>At co Aa Ae (Ny b c d k j n) (Ac [3,4,5,6,7,8] L9) nl m hm e fun r g=>id⟩,⟨fun y hy l _ _=>by rw[(F6 a i b c.type f).x,(F6 a i b c.type f).e];exact(F6 a i b c.type f).k _ l y hy,fun n=>fun _ hm e=>At co Aa Ae (Ny b c d k j n) (Ac [3,4,5,6,7,8] L9) nl m hm e fun r g=>id⟩,fun _ h=>h⟩)),id⟩
theorem ZG8{C:Cx}(co:CO C 0)(b:Scm)(c:Fld)(d:Val)(a:Scm→Fld→Val→Option (Val))(h:∀(b:Scm) (c:Fld) (d:Val),KC Tryz.prog 43 [.agg ((Au b).map .d),.agg ((Az c).map .d),.agg ((Ag d).map .d)] (a b c d) DL):KL Tryz.prog (AC tl) 76 C (pa [0,0,1,0,1,0,1,0,1,1] (AA Tryz.f43)) [.cell 6 33] 0 (u2 b c d) (tY) DL nG (Rt b c d a):=fun(i,j) _ hm Q m n e=>Aj co Aa Ae 1 (WV b c d a i j) (Ac [3,4,5,6,9,10] Pe) (Ac [6,9] Pe) n hm e fun r g=>⟨fun _ hm e=>sq (bk 3 (Hs co Aa Ae (.fst 0 (.fst 1 (.fst 2 (.fst 3 (.fst 4 (.fst 5 (.fst 8 (.fst 9 (.fst 10 (.fst 11 (.fst 12 (.fst 13 (.fst 14 (.fst 15 (.fst 6 (.two 7 16 (.fst 16 (.fst 17 (.fst 18 (.fst 19 (.fst 20 (.fst 21 .nil)))))) (.fst 7 (.fst 17 (.fst 18 (.fst 19 (.fst 20 (.fst 21 .nil)))))))))))))))))))))) [3,4,5] (Tk b c d a i j) (Ac [3,4,5,6,9,10] Pe) hm e fun r g=>fun p=>fun f=>fun k=>⟨fun y hy o _ _=>by rw[(F6 a h b c.type f.val).x,(F6 a h b c.type f.val).e];exact(F6 a h b c.type f.val).k _ o y hy,fun l=>fun _ hm e=>At co Aa Ae (XM b c d i j k l) (Ac [3,4,5,6,9,10] Pe) nl n hm e fun r g=>id⟩)),id⟩
theorem ZSz(a:Scm→Fld→Val→Option (Val))(f:∀(d:Scm) (c:Fld) (e:Val),KC Tryz.prog 43 [.agg ((Au d).map .d),.agg ((Az c).map .d),.agg ((Ag e).map .d)] (a d c e) DL)(d:Scm)(c:Fld)(e:Val):KC Tryz.prog 43 [.agg ((Au d).map .d),.agg ((Az c).map .d),.agg ((Ag e).map .d)] (T8 a d c e) DL:=AF Tryz.func43 Tryz.ntmps43 Aa [.cell 6 33] fun C co y hm i b=>Aj co Aa Ae 1 (nM d c e a) (Ac [3,4,5,6] KD) nl nH hm b fun r g=>fun _ hm b=>sq (Aj co Aa Ae 1 (nT d c e a) (Ac [3,4,5,6,13] KD) nl nH hm b fun r g=>fun _ hm b=>cd (decide (c.card=(4:Int))) hm (fun hm=>Aj co Aa Ae 1 (gq d c e a) (Ac [3,4,5,6,7] xN) nl nH hm b fun r g=>fun _ hm b=>sq (Aj co Aa Ae 1 (eA d c e a) (Ac [3,4,5,6,7,8] xN) nl nH hm b fun r g=>fun _ hm b=>bk 0 (HZ co (bK d c e a) (Ac [3,4,5,6,7,8] L9) hm b fun r g=>fun _ hm b=>lo (AE (ZJR co d c e a f) nH hm b (fun k hm=>At co Aa Ae (aG k) nl nl nH hm b fun r g=>id))))) (fun hm=>At co Aa Ae (n2 d c e a) (Ac [3,4,5,6] KD) nl nH hm b fun r g=>fun _ hm b=>sq (Aj co Aa Ae 1 (nD d c e a) (Ac [3,4,5,6,39] KD) nl nH hm b fun r g=>fun _ hm b=>cd (decide (c.card=(5:Int))) hm (fun hm=>Aj co Aa Ae 1 (o0 d c e a) (Ac [3,4,5,6,9] KD) nl nH hm b fun r g=>fun _ hm b=>sq (Aj co Aa Ae 1 (nn d c e a) (Ac [3,4,5,6,9,10] KD) nl nH hm b fun r g=>fun _ hm b=>bk 2 (HZ co (nv d c e a) (Ac [3,4,5,6,9,10] Pe) hm b fun r g=>fun _ hm b=>lo (AE (ZG8 co d c e a f) nH hm b (fun h hm=>At co Aa Ae (nz h) nl nl nH hm b fun r g=>fun l=>id))))) (fun hm=>At co Aa Ae (mZ d c e a) (Ac [3,4,5,6] KD) nl nH hm b fun r g=>fun _ hm b=>Ax co Aa Ae (nb d c e a) hm b fun r g=>⟨fun y hy j _ _=>by rw[(F6 a f d c.type e).x,(F6 a f d c.type e).e];exact(F6 a f d c.type e).k _ j y hy,fun m=>id⟩))))
def KX:Nat→Scm→Fld→Val→Option (Val)
 |0=>fun _ _ _=>none
 |a+1=>T8 (KX a)
theorem xM:∀(d:Nat) (a:Scm) (b:Fld) (c:Val),KC Tryz.prog 43 [.agg ((Au a).map .d),.agg ((Az b).map .d),.agg ((Ag c).map .d)] (KX d a b c) DL
 |0,a,b,c=>⟨fun _ _ _ h=>(by cases h),by intro r;kernel_rfl,by intro r y;kernel_rfl⟩
 |d+1,a,b,c=>ZSz (KX d) (xM d) a b c
abbrev E7:Bool→AV:=fun y=>vB y
def gG(c:Scm)(d:ByteArray)(a:Val):PT 0 (Bool):=wg<|wg<|cl (ZUp c d a) fun b=>wg<|wg<|wg<|AO (decide (b=(0:Int))) (UI (KX Am) (xM Am) c d a) fun e=>AO (decide (b=(0:Int))) (Oh Am a e) fun f=>lr E7 nG (decide (b=(0:Int))&&f)
def jv(a:Scm)(b:ByteArray)(c:Val):Option (Bool):=(gG a b c).m
theorem qR(a:Scm)(b:ByteArray)(c:Val):KC Tryz.prog 7 [.agg ((Au a).map .d),vS b,.agg ((Ag c).map .d)] (jv a b c) E7:=AF Tryz.func7 Tryz.ntmps7 Aa [.tmp 6] fun C co y hm d e=>Ax co Aa Ae (gG a b c) hm e fun r g=>fun f=>fun h=>fun i=>id
abbrev TD:Af×Blk:=kk 4 45 5 [vS ⟨#[]⟩,.e0,.e0,.e0,.e0]
abbrev Sg:Msg×Bool→AV:=fun y=>.tup [.agg ((AU y.1).map .d),vB y.2]
def qL(a:Msg→Option Bool):Cl:=fun no l H θ=>(∀(z0:Msg) y,a z0=some y→CP Tryz.prog l no H (θ 1) [.agg ((AU z0).map .d)] (vB y))
def uI(a:List Msg):Nat→St:=fun b=>Ad [(1,.fn (.yield 1) [] []),pp 4,(9,vL AU a),(10,vN a.length),(11,vN b)] [TD]
def uE:Unit→Nat×St:=fun _=>(0,Ad [pp 4] [TD])
def Tl(c:List Msg)(d:Msg→Option Bool)(a:Nat):PT 0 (Lv (Nat) (Unit) (Msg×Bool)):=br (decide ((a:Int)<(c.length:Int))) (ix c a fun b=>wg<|wg<|cf Tryz.prog 1 [.agg ((AU b).map .d)] (d b) (fun y=>vB y) fun e=>br e (wg<|wg<|Ay Sg nG (b,true)) (vs (wa a 1)<|ln (uI c) (a+1))) (Ai (uE) ())
def Rl(b:List Msg)(a:Msg→Option Bool):Nat→Option (Lv (Nat) (Unit) (Msg×Bool)):=fun c=>(Tl b a c).m
def dP:PT 0 (Msg×Bool):=wg<|wg<|lr Sg nG ((.mk ⟨#[]⟩ [] [] [] []:Msg),false)
def dD(a:List Msg)(b:Msg→Option Bool):PT 0 (Msg×Bool):=vz (An a)<|lc (Ad [(1,.fn (.yield 1) [] []),pp 4,(9,vL AU a),(10,vN a.length),(11,vI 0)] [TD]) ((Al (Rl a b) Am 0).bind (Sum.elim (fun _=>(dP).m) some))
def dN(b:List Msg)(a:Msg→Option Bool):PT 0 (Msg×Bool):=lc (Ad [(0,vL AU b),(1,.fn (.yield 1) [] []),pp 4] [TD]) ((dD b a).m)
def UO(b:List Msg)(a:Msg→Option Bool):Option (Msg×Bool):=(dN b a).m
theorem ZJu{C:Cx}(co:CO C 0)(b:List Msg)(a:Msg→Option Bool)(f:(qL a) C.no C.l C.H0 C.θ):KL Tryz.prog (AC tl) 21 C (pa [0,0,1,0,1] (AA Tryz.f44)) [.cell 4 45,.tmp 5] 0 (uI b) (uE) Sg nG (Rl b a):=fun h _ hm Q c e d=>At co Aa Ae (Tl b a h) (Ac [1,4,9,10,11] EJ) (Ac [4] EJ) e hm d fun r g=>⟨fun i=>⟨⟨fun y hy=>f _ y hy,by intro r;kernel_rfl,by intro r y;kernel_rfl⟩,fun j=>⟨id,id⟩⟩,id⟩
theorem ZU0(c:List Msg)(a:Msg→Option Bool):KO Tryz.prog 44 0 [vL AU c,.fn (.yield 1) [] []] [] (qL a) (UO c a) Sg nG:=Bu Tryz.func44 Tryz.ntmps44 Aa [.cell 4 45,.tmp 5] 0 (fun C co e y hm d b=>Aj co Aa Ae 1 (dN c a) (Ac [0,1,4] EJ) nl nH hm b fun r g=>fun _ hm b=>sq (Aj co Aa Ae 1 (dD c a) (Ac [1,4,9,10,11] EJ) nl nH hm b fun r g=>fun _ hm b=>bk 0 (lo (AE (ZJu co c a e) nH hm b (fun _ hm=>Ax co Aa Ae (dP) hm b fun r g=>id)))))
abbrev qn:Bool→AV:=fun y=>vB y
@[reducible] def qE(w0:ByteArray):Bool→List Blk:=fun y=>[⟨0,true,9,1,[vS w0]⟩]
def wq(a:Msg)(w0:ByteArray):PT 1 (Bool):=wg<|wg<|lr qn (qE w0) (decide (a.name=w0))
def MG(a:Msg)(w0:ByteArray):Option (Bool):=(wq a w0).m
theorem ZVp(a:Msg)(w0:ByteArray):KO Tryz.prog 45 1 [.agg ((AU a).map .d),.ptr (0,0) 0 0] [⟨0,true,9,1,[vS w0]⟩] (fun _ _ _ _=>True) (MG a w0) qn (qE w0):=Bu Tryz.func45 Tryz.ntmps45 Aa [.tmp 3] 1 (fun C co d y hm b c=>Ax co Aa Ae (wq a w0) hm c fun r g=>id) (hB:=fun y=>⟨.inr (by kernel_rfl),rfl,trivial⟩)
abbrev qh:Msg×Bool→AV:=fun y=>.tup [.agg ((AU y.1).map .d),vB y.2]
def ey(a:Scm)(b:ByteArray):PT 0 (Msg×Bool):=wg<|cs Tryz.prog 44 [vL AU a.messages,.fn (.func 45) [] [.ptr (1,3) 1 0]] [(1,3)] [((1,3),⟨1,true,9,1,[vS b]⟩)] (UO a.messages (fun(z0:Msg)=>MG z0 b)) (fun y=>.tup [.agg ((AU y.1).map .d),vB y.2]) fun c=>wg<|lr qh nG (c.1,c.2)
def U1(a:Scm)(b:ByteArray):Option (Msg×Bool):=(ey a b).m
theorem ZUK(b:Scm)(a:ByteArray):KC Tryz.prog 18 [.agg ((Au b).map .d),vS a] (U1 b a) qh:=AF Tryz.func18 Tryz.ntmps18 Aa [.cell 4 45,.tmp 5] fun C co y hm c d=>Ax co Aa Ae (ey b a) hm d fun r g=>⟨fun y hy=>G9 (ZU0 b.messages (fun(z0:Msg)=>MG z0 a)) hy co g [] [((1,3),⟨1,true,9,1,[vS a]⟩)] (AG [(1,.fn (.func 45) [] [.ptr (r.κ (1,3)) (r.γ (1,3)+1) 0])]) (fun h e i=>(fun z0 y f=>Lr (ZVp z0 a) f co g [((1,3),⟨1,true,9,1,[vS a]⟩)] [] e (by simp) (fun _=>.top) (fun _ _=>trivial) (fun l H=>⟨fun _=>⟨rfl,by kernel_rfl⟩,by kernel_rfl,trivial⟩))) (fun H=>trivial),fun j=>id⟩
abbrev Sh:Int→AV:=fun y=>vI y
def qM(a:Slt→Option Bool):Cl:=fun no l H θ=>(∀(z0:Slt) y,a z0=some y→CP Tryz.prog l no H (θ 1) [.agg ((Dr z0).map .d)] (vB y))
def uY(a:List Slt):Nat→St:=fun b=>Ad [(0,vL Aq a),(1,.fn (.yield 1) [] []),(7,vN a.length),(8,vN b)] []
def ua:Unit→Nat×St:=fun _=>(0,Ad [] [])
def S4(b:List Slt)(c:Slt→Option Bool)(a:Nat):PT 0 (Lv (Nat) (Unit) (Int)):=br (decide ((a:Int)<(b.length:Int))) (ix b a fun d=>cf Tryz.prog 1 [.agg ((Dr d).map .d)] (c d) (fun y=>vB y) fun e=>br e (Ay Sh nG (a:Int)) (vs (wa a 1)<|ln (uY b) (a+1))) (Ai (ua) ())
def Rp(b:List Slt)(a:Slt→Option Bool):Nat→Option (Lv (Nat) (Unit) (Int)):=fun c=>(S4 b a c).m
def da:PT 0 (Int):=lr Sh nG (-1)
def dL(a:List Slt)(b:Slt→Option Bool):PT 0 (Int):=vz (An a)<|lc (Ad [(0,vL Aq a),(1,.fn (.yield 1) [] []),(7,vN a.length),(8,vI 0)] []) ((Al (Rp a b) Am 0).bind (Sum.elim (fun _=>(da).m) some))
def bS(b:List Slt)(a:Slt→Option Bool):PT 0 (Int):=lc (Ad [(0,vL Aq b),(1,.fn (.yield 1) [] [])] []) ((dL b a).m)
def U8(b:List Slt)(a:Slt→Option Bool):Option (Int):=(bS b a).m
theorem ZFR{C:Cx}(co:CO C 0)(b:List Slt)(a:Slt→Option Bool)(f:(qM a) C.no C.l C.H0 C.θ):KL Tryz.prog (AC tl) 19 C (pa [0,0,1,0,1] (AA Tryz.f46)) [.tmp 4] 0 (uY b) (ua) Sh nG (Rp b a):=fun h _ hm Q c e d=>At co Aa Ae (S4 b a h) (AK [0,1,7,8]) nl e hm d fun r g=>⟨fun i=>⟨⟨fun y hy=>f _ y hy,by intro r;kernel_rfl,by intro r y;kernel_rfl⟩,fun j=>⟨id,id⟩⟩,id⟩
theorem ZVo(c:List Slt)(a:Slt→Option Bool):KO Tryz.prog 46 0 [vL Aq c,.fn (.yield 1) [] []] [] (qM a) (U8 c a) Sh nG:=Bu Tryz.func46 Tryz.ntmps46 Aa [.tmp 4] 0 (fun C co e y hm d b=>Aj co Aa Ae 1 (bS c a) (AK [0,1]) nl nH hm b fun r g=>fun _ hm b=>sq (Aj co Aa Ae 1 (dL c a) (AK [0,1,7,8]) nl nH hm b fun r g=>fun _ hm b=>bk 0 (lo (AE (ZFR co c a e) nH hm b (fun _ hm=>Ax co Aa Ae (da) hm b fun r g=>id)))))
abbrev XP:Int→AV:=fun y=>vI y
@[reducible] def XJ(a:List Slt):Int→List Blk:=fun y=>[⟨0,true,61,8,Ab Aq a⟩]
def wn(a:Slt→Option Bool):Cl:=fun no l H θ=>(∀(z0:Slt) y,a z0=some y→CP Tryz.prog l no H (θ 1) [.agg ((Dr z0).map .d)] (vB y))
def ZsG(a:List Slt):Nat→St:=fun b=>Ad [(0,.ref (0,0) 0 0 a.length),(1,.fn (.yield 1) [] []),(7,vN a.length),(8,vN b)] [((0,0),⟨0,true,61,8,Ab Aq a⟩)]
def ZuR(a:List Slt):Unit→Nat×St:=fun _=>(0,Ad [] [((0,0),⟨0,true,61,8,Ab Aq a⟩)])
def Qc(a:List Slt)(c:Slt→Option Bool)(b:Nat):PT 1 (Lv (Nat) (Unit) (Int)):=br (decide ((b:Int)<(a.length:Int))) (vs (ir b a.length 8)<|ca a b fun d=>cf Tryz.prog 1 [.agg ((Dr d).map .d)] (c d) (fun y=>vB y) fun e=>br e (Ay XP (XJ a) (b:Int)) (vs (wa b 1)<|vz (fl a)<|ln (ZsG a) (b+1))) (vz (fl a)<|Ai (ZuR a) ())
def VS(b:List Slt)(a:Slt→Option Bool):Nat→Option (Lv (Nat) (Unit) (Int)):=fun c=>(Qc b a c).m
def Qb(a:List Slt):PT 1 (Int):=lr XP (XJ a) (-1)
def PS(a:List Slt)(b:Slt→Option Bool):PT 1 (Int):=vz (BF a.length)<|vz (fl a)<|lc (Ad [(0,.ref (0,0) 0 0 a.length),(1,.fn (.yield 1) [] []),(7,vN a.length),(8,vI 0)] [((0,0),⟨0,true,61,8,Ab Aq a⟩)]) ((Al (VS a b) Am 0).bind (Sum.elim (fun _=>(Qb a).m) some))
def P7(a:List Slt)(b:Slt→Option Bool):PT 1 (Int):=vz (fl a)<|lc (Ad [(0,.ref (0,0) 0 0 a.length),(1,.fn (.yield 1) [] [])] [((0,0),⟨0,true,61,8,Ab Aq a⟩)]) ((PS a b).m)
def Pm(b:List Slt)(a:Slt→Option Bool):Option (Int):=(P7 b a).m
theorem Zsx{C:Cx}(co:CO C 1)(b:List Slt)(a:Slt→Option Bool)(f:(wn a) C.no C.l C.H0 C.θ):KL Tryz.prog (AC tl) 19 C (pa [0,0,1,0,1] (AA Tryz.f46)) [.tmp 4] 1 (ZsG b) (ZuR b) XP (XJ b) (VS b a):=fun h _ hm Q c e d=>At co Aa Ae (Qc b a h) (Ac [0,1,7,8] Ah) (Ac [] Ah) e hm d fun r g=>⟨fun i=>⟨⟨fun y hy=>f _ y hy,by intro r;kernel_rfl,by intro r y;kernel_rfl⟩,fun j=>⟨id,id⟩⟩,id⟩
theorem sU(b:List Slt)(a:Slt→Option Bool):KO Tryz.prog 46 1 [.ref (0,0) 0 0 b.length,.fn (.yield 1) [] []] [⟨0,true,61,8,Ab Aq b⟩] (wn a) (Pm b a) XP (XJ b):=Bu Tryz.func46 Tryz.ntmps46 Aa [.tmp 4] 1 (fun C co e y hm d c=>Aj co Aa Ae 1 (P7 b a) (Ac [0,1] Ah) nl nH hm c fun r g=>fun _ hm c=>sq (Aj co Aa Ae 1 (PS b a) (Ac [0,1,7,8] Ah) nl nH hm c fun r g=>fun _ hm c=>bk 0 (lo (AE (Zsx co b a e) nH hm c (fun _ hm=>Ax co Aa Ae (Qb b) hm c fun r g=>id))))) (hB:=fun y=>⟨.inl (Aw _ _),rfl,trivial⟩)
end Go.Proofs.YtjbijbkdiijhaaaGreat
