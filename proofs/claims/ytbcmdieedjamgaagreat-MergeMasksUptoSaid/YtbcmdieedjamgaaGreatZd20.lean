import Derived.Test.YtbcmdieedjamgaaGreatZd19
import Derived.Test.YtbcmdieedjamgaaGreatZd00
namespace Go.Proofs.YtbcmdieedjamgaaGreat
set_option maxRecDepth 100000
set_option linter.all false
open Go Go.Eng
abbrev kv:Bool→AV:=fun y=>vB y
def qj(a:Val):PT 0 (Bool):=wg<|cl (Zh a.kind) fun b=>wg<|wg<|wg<|AE ((b&&decide (a.bits=(0:Int)))&&decide (a.text=(⟨#[]⟩:ByteArray))) (vX a) fun c=>lr kv nG (((b&&decide (a.bits=(0:Int)))&&decide (a.text=(⟨#[]⟩:ByteArray)))&&c)
def dC(a:Val):Option (Bool):=(qj a).m
theorem ZYl(a:Val):KC Tryz.prog 92 [.agg ((Ae a).map .d)] (dC a) kv:=kC Tryz.func92 Tryz.ntmps92 [.tmp 2] fun co m L=>fO co m L
abbrev Rt:Bool→AV:=fun y=>vB y
def rD(b:Fld)(a:Val):PT 0 (Bool):=wg<|br (decide (b.card=(4:Int))) (wg<|vz (Ai a.list)<|lr Rt nG (decide ((a.list.length:Int)=(0:Int)))) (wg<|br (decide (b.card=(5:Int))) (wg<|vz (Ai a.pairs)<|lr Rt nG (decide ((a.pairs.length:Int)=(0:Int)))) (wg<|wg<|AE (decide (b.card=(3:Int))) (ZYl a) fun c=>lr Rt nG (decide (b.card=(3:Int))&&c)))
def dI(a:Fld)(b:Val):Option (Bool):=(rD a b).m
theorem ZY3(a:Fld)(b:Val):KC Tryz.prog 49 [.agg ((Av a).map .d),.agg ((Ae b).map .d)] (dI a b) Rt:=kC Tryz.func49 Tryz.ntmps49 [.tmp 4] fun co m L=>fO co m L
abbrev SZ:Int→AV:=fun y=>vI y
def nC(a:Int)(b:Int):PT 0 (Int):=br (decide (a<b)) (lr SZ nG (-1)) (br (decide (b<a)) (lr SZ nG 1) (lr SZ nG 0))
def eq(a:Int)(b:Int):Option (Int):=(nC a b).m
theorem J3(a:Int)(b:Int):KC Tryz.prog 155 [vI a,vI b] (eq a b) SZ:=kC Tryz.func155 Tryz.ntmps155 [.tmp 4] fun co m L=>fO co m L
abbrev Ju:Int→AV:=fun y=>vI y
def ZR9(a:Raw)(b:Raw):PT 0 (Int):=wg<|wg<|br (!decide (a.num=b.num)) (wg<|wg<|cl (J3 a.num b.num) fun c=>lr Ju nG c) (wg<|wg<|br (!decide (a.wire=b.wire)) (wg<|wg<|cl (J3 a.wire b.wire) fun d=>lr Ju nG d) (wg<|wg<|br (decide (a.bits<b.bits)) (lr Ju nG (-1)) (wg<|wg<|br (decide (b.bits<a.bits)) (lr Ju nG 1) (wg<|wg<|br (BB a.data b.data) (lr Ju nG (-1)) (wg<|wg<|br (!(BB a.data b.data||decide (a.data=b.data))) (lr Ju nG 1) (lr Ju nG 0))))))
def Zfx(a:Raw)(b:Raw):Option (Int):=(ZR9 a b).m
theorem ZWx(a:Raw)(b:Raw):KC Tryz.prog 174 [.agg ((Au a).map .d),.agg ((Au b).map .d)] (Zfx a b) Ju:=kC Tryz.func174 Tryz.ntmps174 [.tmp 4] fun co m L=>fO co m L
abbrev SG:Int→AV:=fun y=>vI y
def lH(a:List Raw)(b:List Raw):Nat→St:=fun c=>Ac [(0,vL Au a),(1,vL Au b),(5,vN c)] []
def lX(a:List Raw)(b:List Raw):Unit→Nat×St:=fun _=>(0,Ac [(0,vL Au a),(1,vL Au b)] [])
def ZNC(b:List Raw)(c:List Raw)(a:Nat):PT 0 (Lv (Nat) (Unit) (Int)):=vz (Ai b)<|vy (decide ((a:Int)<(b.length:Int))) (Ai c)<|br (decide ((a:Int)<(b.length:Int))&&decide ((a:Int)<(c.length:Int))) (ix b a fun e=>ix c a fun f=>cl (ZWx e f) fun d=>br (!decide (d=(0:Int))) (Ar SG nG d) (vs (wa a 1)<|ln (lH b c) (a+1))) (Af (lX b c) ())
def nQ(a:List Raw)(b:List Raw):Nat→Option (Lv (Nat) (Unit) (Int)):=fun c=>(ZNC a b c).m
def ZLs(a:List Raw)(b:List Raw):PT 0 (Int):=vz (Ai a)<|vz (Ai b)<|cl (J3 (a.length:Int) (b.length:Int)) fun c=>lr SG nG c
def ZSn(a:List Raw)(b:List Raw):PT 0 (Int):=lc (Ac [(0,vL Au a),(1,vL Au b),(5,vI 0)] []) ((Aj (nQ a b) Ag 0).bind (Sum.elim (fun _=>(ZLs a b).m) some))
def ZMS(a:List Raw)(b:List Raw):PT 0 (Int):=lc (Ac [(0,vL Au a),(1,vL Au b)] []) ((ZSn a b).m)
def Zfk(a:List Raw)(b:List Raw):Option (Int):=(ZMS a b).m
theorem ZvH{C:Cx}(co:CO C 0)(a:List Raw)(b:List Raw):KL Tryz.prog (As tl) 36 C (pa [0,0,1,0,1] (At Tryz.f159)) [.tmp 4] 0 (lH a b) (lX a b) SG nG (nQ a b):=fun e _ m Q c d L=>eN co (AD [0,1,5]) (AD [0,1]) d m L
theorem ZWd(a:List Raw)(b:List Raw):KC Tryz.prog 159 [vL Au a,vL Au b] (Zfk a b) SG:=kC Tryz.func159 Tryz.ntmps159 [.tmp 4] fun co m L=>mJ co 1 (AD [0,1]) nl nH m L fun r g=>fun _ m L=>sq (mJ co 1 (AD [0,1,5]) nl nH m L fun r g=>fun _ m L=>bk 0 (lo (Ax (ZvH co a b) nH m L (fun _ m=>fO co m L))))
abbrev ZXx:Bool→AV:=fun y=>vB y
def nD(a:Int):PT 0 (Bool):=lr ZXx nG (decide (a=(2:Int))||decide (a=(3:Int)))
def Zds(a:Int):Option (Bool):=(nD a).m
theorem ZVR(a:Int):KC Tryz.prog 181 [vI a] (Zds a) ZXx:=kC Tryz.func181 Tryz.ntmps181 [.tmp 2] fun co m L=>fO co m L
abbrev OR:Int→AV:=fun y=>.d (.int .u64 y)
def fM(a:Val):PT 0 (Int):=wg<|vz (wk .u64 (a.bits+9223372036854775808))<|lr OR nG (IntKind.u64.wrap (a.bits+9223372036854775808))
def lh(a:Val):PT 0 (Int):=wg<|cl (ZVR a.kind) fun b=>br b (fM a) (wg<|br (!decide (a.kind=(6:Int))) (wg<|lr OR nG a.bits) (wg<|cl (qc a.bits) fun c=>br (decide (c=(0:Int))) (lr OR nG 18446744073709551615) (wg<|br (decide ((9223372036854775808:Int)≤a.bits)) (wg<|vz (wk .u64 ((18446744073709551615:Int)-a.bits))<|lr OR nG (IntKind.u64.wrap ((18446744073709551615:Int)-a.bits))) (fM a))))
def ee(a:Val):Option (Int):=(lh a).m
theorem Ww(a:Val):KC Tryz.prog 175 [.agg ((Ae a).map .d)] (ee a) OR:=kC Tryz.func175 Tryz.ntmps175 [.tmp 2] fun co m L=>fO co m L
abbrev Hu:Int→AV:=fun y=>vI y
def oA(a:Val)(b:Val):PT 0 (Int):=wg<|wg<|br (decide (a.kind<b.kind)) (lr Hu nG (-1)) (wg<|wg<|br (decide (b.kind<a.kind)) (lr Hu nG 1) (wg<|cl (Zh a.kind) fun c=>br (!c) (lr Hu nG 0) (wg<|cl (Wp a.kind) fun d=>wg<|wg<|br (d&&BB a.text b.text) (lr Hu nG (-1)) (wg<|cl (Wp a.kind) fun e=>wg<|wg<|br (e&&(!(BB a.text b.text||decide (a.text=b.text)))) (lr Hu nG 1) (wg<|cl (Wp a.kind) fun f=>br f (lr Hu nG 0) (wg<|cl (Ww a) fun g=>wg<|cl (Ww b) fun h=>br (decide (g<h)) (lr Hu nG (-1)) (wg<|cl (Ww a) fun i=>wg<|cl (Ww b) fun j=>br (decide (j<i)) (lr Hu nG 1) (lr Hu nG 0))))))))
def dO(a:Val)(b:Val):Option (Int):=(oA a b).m
theorem ZWs(a:Val)(b:Val):KC Tryz.prog 160 [.agg ((Ae a).map .d),.agg ((Ae b).map .d)] (dO a b) Hu:=kC Tryz.func160 Tryz.ntmps160 [.tmp 4] fun co m L=>fO co m L
abbrev El:Int→AV:=fun y=>vI y
abbrev Tl:Int→AV:=fun y=>vI y
def m7(a:List Val)(b:List Val):Nat→St:=fun c=>Ac [(0,vL AW a),(1,vL AW b),(5,vN c)] []
def px(a:List Val)(b:List Val):Unit→Nat×St:=fun _=>(0,Ac [(0,vL AW a),(1,vL AW b)] [])
def ZLI(b:List Val)(d:List Val)(c:Val→Val→Option (Int))(a:Nat):PT 0 (Lv (Nat) (Unit) (Int)):=vz (Ai b)<|vy (decide ((a:Int)<(b.length:Int))) (Ai d)<|br (decide ((a:Int)<(b.length:Int))&&decide ((a:Int)<(d.length:Int))) (ix b a fun e=>ix d a fun f=>cs Tryz.prog 128 [.agg ((Ae e).map .d),.agg ((Ae f).map .d)] [] [] (c e f) (fun y=>vI y) fun g=>br (!decide (g=(0:Int))) (Ar Tl nG g) (vs (wa a 1)<|ln (m7 b d) (a+1))) (Af (px b d) ())
def pC(b:List Val)(c:List Val)(a:Val→Val→Option (Int)):Nat→Option (Lv (Nat) (Unit) (Int)):=fun d=>(ZLI b c a d).m
def ZKW(a:List Val)(b:List Val):PT 0 (Int):=vz (Ai a)<|vz (Ai b)<|cl (J3 (a.length:Int) (b.length:Int)) fun c=>lr Tl nG c
def ZLd(b:List Val)(c:List Val)(a:Val→Val→Option (Int)):PT 0 (Int):=lc (Ac [(0,vL AW b),(1,vL AW c),(5,vI 0)] []) ((Aj (pC b c a) Ag 0).bind (Sum.elim (fun _=>(ZKW b c).m) some))
def ZKD(b:List Val)(c:List Val)(a:Val→Val→Option (Int)):PT 0 (Int):=lc (Ac [(0,vL AW b),(1,vL AW c)] []) ((ZLd b c a).m)
def Zdz(a:Val→Val→Option (Int))(b:List Val)(c:List Val):Option (Int):=(ZKD b c a).m
theorem ZwM{C:Cx}(co:CO C 0)(b:List Val)(c:List Val)(a:Val→Val→Option (Int))(f:∀(b:Val) (c:Val),KC Tryz.prog 128 [.agg ((Ae b).map .d),.agg ((Ae c).map .d)] (a b c) El):KL Tryz.prog (As tl) 36 C (pa [0,0,1,0,1] (At Tryz.f156)) [.tmp 4] 0 (m7 b c) (px b c) Tl nG (pC b c a):=fun k _ m Q h j L=>eN co (AD [0,1,5]) (AD [0,1]) j m L fun r g=>⟨fun d=>fun e=>⟨fun y hy i _ _=>by rw[(f d e).x,(f d e).e];exact(f d e).k _ i y hy,fun l=>⟨id,id⟩⟩,id⟩
theorem a8(a:Val→Val→Option (Int))(d:∀(b:Val) (c:Val),KC Tryz.prog 128 [.agg ((Ae b).map .d),.agg ((Ae c).map .d)] (a b c) El)(b:List Val)(c:List Val):KC Tryz.prog 156 [vL AW b,vL AW c] (Zdz a b c) Tl:=kC Tryz.func156 Tryz.ntmps156 [.tmp 4] fun co m L=>mJ co 1 (AD [0,1]) nl nH m L fun r g=>fun _ m L=>sq (mJ co 1 (AD [0,1,5]) nl nH m L fun r g=>fun _ m L=>bk 0 (lo (Ax (ZwM co b c a d) nH m L (fun _ m=>fO co m L))))
abbrev OF:Int→AV:=fun y=>vI y
def mc(a:List Pr)(b:List Pr):Nat→St:=fun c=>Ac [(0,vL Aq a),(1,vL Aq b),(5,vN c)] []
def mS(a:List Pr)(b:List Pr):Unit→Nat×St:=fun _=>(0,Ac [(0,vL Aq a),(1,vL Aq b)] [])
def ZQ3(c:List Pr)(d:List Pr)(b:Val→Val→Option (Int))(a:Nat):PT 0 (Lv (Nat) (Unit) (Int)):=vz (Ai c)<|vy (decide ((a:Int)<(c.length:Int))) (Ai d)<|br (decide ((a:Int)<(c.length:Int))&&decide ((a:Int)<(d.length:Int))) (ix c a fun e=>ix d a fun f=>cs Tryz.prog 128 [.agg ((Ae e.key).map .d),.agg ((Ae f.key).map .d)] [] [] (b e.key f.key) (fun y=>vI y) fun i=>br (!decide (i=(0:Int))) (Ar OF nG i) (ix c a fun g=>ix d a fun h=>cs Tryz.prog 128 [.agg ((Ae g.val).map .d),.agg ((Ae h.val).map .d)] [] [] (b g.val h.val) (fun y=>vI y) fun j=>br (!decide (j=(0:Int))) (Ar OF nG j) (vs (wa a 1)<|ln (mc c d) (a+1)))) (Af (mS c d) ())
def mM(b:List Pr)(c:List Pr)(a:Val→Val→Option (Int)):Nat→Option (Lv (Nat) (Unit) (Int)):=fun d=>(ZQ3 b c a d).m
def ZQo(a:List Pr)(b:List Pr):PT 0 (Int):=vz (Ai a)<|vz (Ai b)<|cl (J3 (a.length:Int) (b.length:Int)) fun c=>lr OF nG c
def ZPw(b:List Pr)(c:List Pr)(a:Val→Val→Option (Int)):PT 0 (Int):=lc (Ac [(0,vL Aq b),(1,vL Aq c),(5,vI 0)] []) ((Aj (mM b c a) Ag 0).bind (Sum.elim (fun _=>(ZQo b c).m) some))
def ZPW(b:List Pr)(c:List Pr)(a:Val→Val→Option (Int)):PT 0 (Int):=lc (Ac [(0,vL Aq b),(1,vL Aq c)] []) ((ZPw b c a).m)
def ZdB(a:Val→Val→Option (Int))(b:List Pr)(c:List Pr):Option (Int):=(ZPW b c a).m
theorem ZxB{C:Cx}(co:CO C 0)(c:List Pr)(d:List Pr)(a:Val→Val→Option (Int))(b:∀(c:Val) (d:Val),KC Tryz.prog 128 [.agg ((Ae c).map .d),.agg ((Ae d).map .d)] (a c d) El):KL Tryz.prog (As tl) 53 C (pa [0,0,1,0,1] (At Tryz.f157)) [.tmp 4] 0 (mc c d) (mS c d) OF nG (mM c d a):=fun n _ m Q k l L=>eN co (AD [0,1,5]) (AD [0,1]) l m L fun r g=>⟨fun f=>fun h=>⟨fun y hy e _ _=>by rw[(b f.key h.key).x,(b f.key h.key).e];exact(b f.key h.key).k _ e y hy,fun o=>⟨id,fun i=>fun j=>⟨fun y hy e _ _=>by rw[(b i.val j.val).x,(b i.val j.val).e];exact(b i.val j.val).k _ e y hy,fun p=>⟨id,id⟩⟩⟩⟩,id⟩
theorem X9(a:Val→Val→Option (Int))(d:∀(b:Val) (c:Val),KC Tryz.prog 128 [.agg ((Ae b).map .d),.agg ((Ae c).map .d)] (a b c) El)(b:List Pr)(c:List Pr):KC Tryz.prog 157 [vL Aq b,vL Aq c] (ZdB a b c) OF:=kC Tryz.func157 Tryz.ntmps157 [.tmp 4] fun co m L=>mJ co 1 (AD [0,1]) nl nH m L fun r g=>fun _ m L=>sq (mJ co 1 (AD [0,1,5]) nl nH m L fun r g=>fun _ m L=>bk 0 (lo (Ax (ZxB co b c a d) nH m L (fun _ m=>fO co m L))))
abbrev O7:Int→AV:=fun y=>vI y
def nM(a:List Slt)(b:List Slt):Nat→St:=fun c=>Ac [(0,vL Ap a),(1,vL Ap b),(5,vN c)] []
def oV(a:List Slt)(b:List Slt):Unit→Nat×St:=fun _=>(0,Ac [(0,vL Ap a),(1,vL Ap b)] [])
def ZRu(b:List Slt)(c:List Slt)(d:Val→Val→Option (Int))(a:Nat):PT 0 (Lv (Nat) (Unit) (Int)):=vz (Ai b)<|vy (decide ((a:Int)<(b.length:Int))) (Ai c)<|br (decide ((a:Int)<(b.length:Int))&&decide ((a:Int)<(c.length:Int))) (ix b a fun i=>ix c a fun j=>cl (J3 i.num j.num) fun g=>br (!decide (g=(0:Int))) (Ar O7 nG g) (ix b a fun e=>ix c a fun f=>cs Tryz.prog 128 [.agg ((Ae e.val).map .d),.agg ((Ae f.val).map .d)] [] [] (d e.val f.val) (fun y=>vI y) fun h=>br (!decide (h=(0:Int))) (Ar O7 nG h) (vs (wa a 1)<|ln (nM b c) (a+1)))) (Af (oV b c) ())
def ow(b:List Slt)(c:List Slt)(a:Val→Val→Option (Int)):Nat→Option (Lv (Nat) (Unit) (Int)):=fun d=>(ZRu b c a d).m
def ZRq(a:List Slt)(b:List Slt):PT 0 (Int):=vz (Ai a)<|vz (Ai b)<|cl (J3 (a.length:Int) (b.length:Int)) fun c=>lr O7 nG c
def ZOb(b:List Slt)(c:List Slt)(a:Val→Val→Option (Int)):PT 0 (Int):=lc (Ac [(0,vL Ap b),(1,vL Ap c),(5,vI 0)] []) ((Aj (ow b c a) Ag 0).bind (Sum.elim (fun _=>(ZRq b c).m) some))
def ZPa(b:List Slt)(c:List Slt)(a:Val→Val→Option (Int)):PT 0 (Int):=lc (Ac [(0,vL Ap b),(1,vL Ap c)] []) ((ZOb b c a).m)
def ZdE(a:Val→Val→Option (Int))(b:List Slt)(c:List Slt):Option (Int):=(ZPa b c a).m
theorem ZyE{C:Cx}(co:CO C 0)(b:List Slt)(c:List Slt)(a:Val→Val→Option (Int))(f:∀(b:Val) (c:Val),KC Tryz.prog 128 [.agg ((Ae b).map .d),.agg ((Ae c).map .d)] (a b c) El):KL Tryz.prog (As tl) 53 C (pa [0,0,1,0,1] (At Tryz.f158)) [.tmp 4] 0 (nM b c) (oV b c) O7 nG (ow b c a):=fun n _ m Q h j L=>eN co (AD [0,1,5]) (AD [0,1]) j m L fun r g=>⟨fun k=>fun l=>fun o=>⟨id,fun d=>fun e=>⟨fun y hy i _ _=>by rw[(f d.val e.val).x,(f d.val e.val).e];exact(f d.val e.val).k _ i y hy,fun p=>⟨id,id⟩⟩⟩,id⟩
theorem ZK(a:Val→Val→Option (Int))(d:∀(b:Val) (c:Val),KC Tryz.prog 128 [.agg ((Ae b).map .d),.agg ((Ae c).map .d)] (a b c) El)(b:List Slt)(c:List Slt):KC Tryz.prog 158 [vL Ap b,vL Ap c] (ZdE a b c) O7:=kC Tryz.func158 Tryz.ntmps158 [.tmp 4] fun co m L=>mJ co 1 (AD [0,1]) nl nH m L fun r g=>fun _ m L=>sq (mJ co 1 (AD [0,1,5]) nl nH m L fun r g=>fun _ m L=>bk 0 (lo (Ax (ZyE co b c a d) nH m L (fun _ m=>fO co m L))))
def lT(a:Val)(c:Val)(b:Val→Val→Option (Int)):PT 0 (Int):=wg<|wg<|br (!decide (a.kind=c.kind)) (wg<|wg<|cl (J3 a.kind c.kind) fun e=>lr El nG e) (wg<|br (decide (a.kind=(11:Int))) (wg<|wg<|cs Tryz.prog 156 [vL AW a.list,vL AW c.list] [] [] (Zdz b a.list c.list) (fun y=>vI y) fun f=>lr El nG f) (br (decide (a.kind=(12:Int))) (wg<|wg<|cs Tryz.prog 157 [vL Aq a.pairs,vL Aq c.pairs] [] [] (ZdB b a.pairs c.pairs) (fun y=>vI y) fun g=>lr El nG g) (br (decide (a.kind=(10:Int))) (wg<|wg<|cs Tryz.prog 158 [vL Ap a.slots,vL Ap c.slots] [] [] (ZdE b a.slots c.slots) (fun y=>vI y) fun d=>br (!decide (d=(0:Int))) (lr El nG d) (wg<|wg<|cl (ZWd a.raws c.raws) fun h=>lr El nG h)) (wg<|wg<|cl (ZWs a c) fun i=>lr El nG i))))
def WH(a:Val→Val→Option (Int))(b:Val)(c:Val):Option (Int):=(lT b c a).m
theorem ZN5(a:Val→Val→Option (Int))(d:∀(b:Val) (c:Val),KC Tryz.prog 128 [.agg ((Ae b).map .d),.agg ((Ae c).map .d)] (a b c) El)(b:Val)(c:Val):KC Tryz.prog 128 [.agg ((Ae b).map .d),.agg ((Ae c).map .d)] (WH a b c) El:=DO Tryz.func128 Tryz.ntmps128 AS [.tmp 4] fun C co y m f L=>fO co m L fun r g=>⟨fun h=>id,⟨⟨fun y hy e _ _=>by rw[(a8 a d b.list c.list).x,(a8 a d b.list c.list).e];exact(a8 a d b.list c.list).k _ e y hy,fun i=>id⟩,⟨⟨fun y hy e _ _=>by rw[(X9 a d b.pairs c.pairs).x,(X9 a d b.pairs c.pairs).e];exact(X9 a d b.pairs c.pairs).k _ e y hy,fun j=>id⟩,⟨⟨fun y hy e _ _=>by rw[(ZK a d b.slots c.slots).x,(ZK a d b.slots c.slots).e];exact(ZK a d b.slots c.slots).k _ e y hy,fun k=>⟨id,fun l=>id⟩⟩,fun n=>id⟩⟩⟩⟩
def Pk:Nat→Val→Val→Option (Int)
 |0=>fun _ _=>none
 |a+1=>WH (Pk a)
theorem Zu:∀(c:Nat) (a:Val) (b:Val),KC Tryz.prog 128 [.agg ((Ae a).map .d),.agg ((Ae b).map .d)] (Pk c a b) El
 |0,a,b=>⟨fun _ _ _ h=>(by cases h),by intro r;kernel_rfl,by intro r y;kernel_rfl⟩
 |c+1,a,b=>ZN5 (Pk c) (Zu c) a b
abbrev N6:List Pr→AV:=fun y=>vL Aq y
def aN(a:List Pr):List Pr×Nat→St:=fun(b,v2)=>Ac [(0,vL Aq a),(3,vL Aq b),(4,vN v2)] []
def qs:List Pr→Nat×St:=fun a=>(0,Ac [(3,vL Aq a)] [])
def ul(a:List Pr)(b:List Pr)(v2:Nat):Bool×Nat→St:=fun(v3,v4)=>Ac [(0,vL Aq a),(3,vL Aq b),(4,vN v2),(5,vB v3),(6,vN v4)] []
def wQ(a:List Pr)(b:List Pr)(v2:Nat):Bool→Nat×St:=fun c=>(2,Ac [(0,vL Aq a),(3,vL Aq b),(4,vN v2),(5,vB c)] [])
def bh(a:List Pr)(b:List Pr)(v2:Nat)(v3:Bool)(v4:Nat):PT 0 (Lv (Bool×Nat) (Bool) (List Pr)):=vz (Ai a)<|br (decide ((v4:Int)<(a.length:Int))) (AN v3 a (v2:Int) fun c=>AN v3 a (v4:Int) fun d=>AE v3 (Zu Ag c.key d.key) fun e=>vs (wa v4 1)<|ln (ul a b v2) ((v3&&(!decide (e=(0:Int)))),v4+1)) (Af (wQ a b v2) v3)
def NE(a:List Pr)(b:List Pr)(v2:Nat):Bool×Nat→Option (Lv (Bool×Nat) (Bool) (List Pr)):=fun(v3,v4)=>(bh a b v2 v3 v4).m
def xu(a:List Pr)(b:List Pr)(v2:Nat):Nat→St:=fun v9=>Ac [(0,vL Aq a),(3,vL Aq b),(4,vN v2),(7,vN v9)] []
def qo(b:List Pr)(c:List Pr)(v2:Nat):Nat→Nat×St:=fun a=>(4,Ac [(0,vL Aq b),(3,vL Aq c),(4,vN v2),(7,vN a)] [])
def ZP(c:List Pr)(v1:List Pr)(v2:Nat)(v9:Nat):PT 0 (Lv (Nat) (Nat) (List Pr)):=vz (Ai v1)<|AN (decide ((v9:Int)<(v1.length:Int))) v1 (v9:Int) fun a=>AN (decide ((v9:Int)<(v1.length:Int))) c (v2:Int) fun b=>AE (decide ((v9:Int)<(v1.length:Int))) (Zu Ag a.key b.key) fun d=>br (decide ((v9:Int)<(v1.length:Int))&&decide (d<(0:Int))) (vs (wa v9 1)<|ln (xu c v1 v2) (v9+1)) (Af (qo c v1 v2) v9)
def ND(a:List Pr)(b:List Pr)(v2:Nat):Nat→Option (Lv (Nat) (Nat) (List Pr)):=fun v9=>(ZP a b v2 v9).m
def Z5(d:List Pr)(v2:Nat)(a:Pr)(b:List Pr)(c:List Pr):PT 0 (Lv (List Pr×Nat) (List Pr) (List Pr)):=vs (wa v2 1)<|vw (.frz 72 [(3,((c++(([a]:List Pr)++b)).map Aq))] [])<|vz (fz (c++(([a]:List Pr)++b)))<|ln (aN d) (c++(([a]:List Pr)++b),v2+1)
def bn(e:List Pr)(f:List Pr)(v2:Nat)(d:Nat)(b:Pr)(c:List Pr):PT 0 (Lv (List Pr×Nat) (List Pr) (List Pr)):=sL f .no (.nt d) fun a=>a0 a<|ar a (([b]:List Pr)++c) (1,63) 0<|vz (fl (a++(([b]:List Pr)++c)))<|lc (Ac [(0,vL Aq e),(3,.ref (1,72) 0 0 (a++(([b]:List Pr)++c)).length),(4,vN v2)] [kk 72 63 14 (Ab Aq (a++(([b]:List Pr)++c)))]) ((Z5 e v2 b c a).m)
def V4(d:List Pr)(e:List Pr)(v2:Nat)(c:Nat):PT 0 (Lv (List Pr×Nat) (List Pr) (List Pr)):=ix d v2 fun a=>sL e (.nt c) .no fun b=>wg<|jC (a:Pr) b<|vz (fl (([a]:List Pr)++b))<|lc (Ac [(0,vL Aq d),(3,vL Aq e),(4,vN v2),(7,vN c),(8,.ref (1,63) 0 0 (([a]:List Pr)++b).length)] [kk 63 63 14 (Ab Aq (([a]:List Pr)++b))]) ((bn d e v2 c a b).m)
def az(a:List Pr)(b:List Pr)(v2:Nat):PT 0 (Lv (List Pr×Nat) (List Pr) (List Pr)):=lc (Ac [(0,vL Aq a),(3,vL Aq b),(4,vN v2),(7,vI 0)] []) ((Aj (ND a b v2) Ag 0).bind (Sum.elim (fun c=>(V4 a b v2 c).m) (fun z=>some (.rt z))))
def bu(a:List Pr)(b:List Pr)(v2:Nat):PT 0 (Lv (List Pr×Nat) (List Pr) (List Pr)):=vs (wa v2 1)<|ln (aN a) (b,v2+1)
def au(a:List Pr)(b:List Pr)(v2:Nat):PT 0 (Lv (List Pr×Nat) (List Pr) (List Pr)):=lc (Ac [(0,vL Aq a),(3,vL Aq b),(4,vN v2)] []) ((bu a b v2).m)
def Z0(a:List Pr)(b:List Pr)(v2:Nat)(c:Bool):PT 0 (Lv (List Pr×Nat) (List Pr) (List Pr)):=lc (Ac [(0,vL Aq a),(3,vL Aq b),(4,vN v2),(38,vB c)] []) (if c=true then(az a b v2).m else(au a b v2).m)
def i9(a:List Pr)(b:List Pr)(v2:Nat):PT 0 (Lv (List Pr×Nat) (List Pr) (List Pr)):=vs (wa v2 1)<|lc (Ac [(0,vL Aq a),(3,vL Aq b),(4,vN v2),(5,vB true),(6,vN (v2+1))] []) ((Aj (NE a b v2) Ag (true,v2+1)).bind (Sum.elim (fun c=>(Z0 a b v2 c).m) (fun z=>some (.rt z))))
def hM(a:List Pr)(b:List Pr)(v2:Nat):PT 0 (Lv (List Pr×Nat) (List Pr) (List Pr)):=lc (Ac [(0,vL Aq a),(3,vL Aq b),(4,vN v2),(5,vB true)] []) ((i9 a b v2).m)
def g6(a:List Pr)(b:List Pr)(v2:Nat):PT 0 (Lv (List Pr×Nat) (List Pr) (List Pr)):=vz (Ai a)<|br (decide ((v2:Int)<(a.length:Int))) (lc (Ac [(0,vL Aq a),(3,vL Aq b),(4,vN v2)] []) ((hM a b v2).m)) (Af (qs) b)
def Q6(a:List Pr):List Pr×Nat→Option (Lv (List Pr×Nat) (List Pr) (List Pr)):=fun(b,v2)=>(g6 a b v2).m
def ZzO(a:List Pr):PT 0 (List Pr):=lr N6 nG a
def pn(b:List Pr):PT 0 (List Pr):=vw (.ads 3 3 63 14)<|vw (.frz 3 [(3,(([]:List Pr).map Aq))] [])<|vz (fz ([]:List Pr))<|lc (Ac [(0,vL Aq b),(3,vL Aq ([]:List Pr)),(4,vI 0)] []) ((Aj (Q6 b) Ag (([]:List Pr),0)).bind (Sum.elim (fun a=>(ZzO a).m) some))
def oO(a:List Pr):PT 0 (List Pr):=lc (Ac [(0,vL Aq a),(3,.e0),(4,vI 0)] []) ((pn a).m)
def pD(a:List Pr):PT 0 (List Pr):=lc (Ac [(0,vL Aq a),(3,.e0)] []) ((oO a).m)
def eA(a:List Pr):Option (List Pr):=(pD a).m
theorem ZGk{C:Cx}(co:CO C 0)(a:List Pr)(b:List Pr)(v2:Nat):KL Tryz.prog (As tl) 76 C (pa [0,0,1,0,1,0,0,1,0,0,1,0,1,1] (At Tryz.f95)) [.tmp 2] 0 (ul a b v2) (wQ a b v2) N6 nG (NE a b v2):=fun(v3,v4) _ m Q c d L=>eN co (AD [0,3,4,5,6]) (AD [0,3,4,5]) d m L
theorem ZEi{C:Cx}(co:CO C 0)(a:List Pr)(b:List Pr)(v2:Nat):KL Tryz.prog (As tl) 76 C (pa [0,0,0,1,0,1,1,1,0,0,1,0,0,1,0,1,1] (At Tryz.f95)) [.tmp 2] 0 (xu a b v2) (qo a b v2) N6 nG (ND a b v2):=fun v9 _ m Q c d L=>eN co (AD [0,3,4,7]) (AD [0,3,4,7]) d m L
theorem ZFb{C:Cx}(co:CO C 0)(b:List Pr):KL Tryz.prog (As tl) 76 C (pa [0,0,1,0,1,1] (At Tryz.f95)) [.tmp 2] 0 (aN b) (qs) N6 nG (Q6 b):=fun(c,v2) _ m Q e a L=>mJ co 1 (AD [0,3,4]) (AD [3]) a m L fun r g=>⟨fun _ m L=>sq (bk 1 (mJ co 1 (AD [0,3,4,5]) nl a m L fun r g=>fun _ m L=>sq (mJ co 1 (AD [0,3,4,5,6]) nl a m L fun r g=>fun _ m L=>bk 2 (lo (Et (ZGk co b c v2) a m L (fun j m=>mJ co 1 (AD [0,3,4,38]) nl a m L fun r g=>fun _ m L=>Bg m (fun m=>mJ co 1 (AD [0,3,4,7]) nl a m L fun r g=>fun _ m L=>sq (bk 4 (lo (Et (ZEi co b c v2) a m L (fun d m=>sq (Gk co AS BM (.fst 0 (.fst 1 (.fst 2 (.fst 5 (.fst 6 (.fst 7 (.fst 3 (.fst 4 (.fst 8 (.fst 9 .nil)))))))))) [] (V4 b c v2 d) (Aa [0,3,4,7,8] [((1,63),true)]) m L fun r g=>fun f=>fun h=>fun _ m L=>eN co (Aa [0,3,4] [((1,72),true)]) nl a m L fun r g=>fun i=>fun _ m L=>eN co (AD [0,3,4]) nl a m L)))))) (fun m=>eN co (AD [0,3,4]) nl a m L fun r g=>fun _ m L=>eN co (AD [0,3,4]) nl a m L))))))),id⟩
theorem ZXb(a:List Pr):KC Tryz.prog 95 [vL Aq a] (eA a) N6:=kC Tryz.func95 Tryz.ntmps95 [.tmp 2] fun co m L=>mJ co 2 (AD [0,3]) nl nH m L fun r g=>fun _ m L=>sq (mJ co 1 (AD [0,3,4]) nl nH m L fun r g=>fun _ m L=>bk 0 (cM co (AD [0,3,4]) m L fun r g=>fun _ m L=>lo (Ax (ZFb co a) nH m L (fun b m=>fO co m L))))
abbrev DP:Val→AV:=fun y=>.agg ((Ae y).map .d)
abbrev KS:List (Ad×Bool):=[((1,6),false),((1,7),false),((1,9),false),((1,11),false),((1,1095),true)]
abbrev S6:List (Ad×Bool):=[((1,6),false),((1,7),false),((1,9),false),((1,1095),true)]
abbrev IH:List (Ad×Bool):=[((1,6),false),((1,9),false),((1,1095),true)]
abbrev zx:List (Ad×Bool):=[((1,3),false),((1,5),false),((1,6),false),((1,7),false),((1,9),false)]
abbrev CG:Ad×Blk:=kk 6 35 7 [vI 0,.d (.int .u64 0),vS ⟨#[]⟩,.e0,.e0,.e0,.e0]
abbrev F1(a:Msg×Bool):Ad×Blk:=kk 7 56 5 (cD (AH a.1))
abbrev Hm(a:List Slt):Ad×Blk:=kk 1095 58 8 (Ab Ap a)
abbrev NC(a:Fld):Ad×Blk:=kk 11 51 16 (cD (Av a))
abbrev Qz(b:List Slt)(a:List Raw):Ad×Blk:=kk 9 35 7 [vI 10,.d (.int .u64 0),vS ⟨#[]⟩,.e0,.e0,.ref (1,1095) 0 0 b.length,vL Au a]
abbrev WD(a:List Slt):Ad×Blk:=kk 9 35 7 [vI 10,.d (.int .u64 0),vS ⟨#[]⟩,.e0,.e0,.ref (1,1095) 0 0 a.length,.e0]
abbrev X5(a:List Slt):Ad×Blk:=kk 9 35 7 [vI 10,.d (.int .u64 0),vS ⟨#[]⟩,.e0,.e0,.ref (1,1095) 0 0 a.length,.e0]
abbrev ub(a:List Slt):Ad×Blk:=kk 9 35 7 [vI 10,.d (.int .u64 0),vS ⟨#[]⟩,.e0,.e0,.ref (1,1095) 0 0 a.length,.e0]
abbrev uV(a:Scm):Ad×Blk:=kk 3 26 3 (cD (Am a))
abbrev tt(a:Val):Ad×Blk:=kk 5 35 7 (cD (Ae a))
abbrev vj:Ad×Blk:=kk 9 35 7 [vI 10,.d (.int .u64 0),vS ⟨#[]⟩,.e0,.e0,.e0,.e0]
def ZVu:Pl:=(.opt [1,12] 1 (.fst 12 (.fst 13 (.fst 14 (.fst 15 (.fst 16 (.fst 17 .nil)))))) (.opt [1,12] 12 (.fst 13 (.fst 1 (.fst 14 (.fst 15 (.fst 16 (.fst 17 .nil)))))) .nil))
def ZUa:Pl:=(.opt [3,12] 3 (.fst 12 (.fst 13 (.fst 14 (.fst 15 (.fst 16 (.fst 17 .nil)))))) (.opt [3,12] 12 (.fst 3 (.fst 13 (.fst 14 (.fst 15 (.fst 16 (.fst 17 .nil)))))) .nil))
def ZT4:Pl:=(.opt [1,3,12] 1 ZUa (.opt [1,3,12] 3 ZVu (.opt [1,3,12] 12 (.fst 1 (.fst 3 (.fst 13 (.fst 14 (.fst 15 (.fst 16 (.fst 17 .nil))))))) .nil)))
abbrev LQ:Val→AV:=fun y=>.agg ((Ae y).map .d)
def ya(b:Scm)(c:Val)(d:Msg×Bool):Nat×List Slt→St:=fun(v2,a)=>Ac [(3,.iptr (Am b) 0),(5,.iptr (Ae c) 0),pp 6,pp 7,pp 9,(10,vN v2)] [CG,(F1 d),(X5 a),kk 1095 58 8 (Ab Ap a)]
def rL(b:Val):List Slt→Nat×St:=fun a=>(0,Ac [(5,.iptr (Ae b) 0),pp 6,pp 9] [CG,(ub a),(Hm a)])
def Zc(c:Scm)(d:Val)(f:Msg×Bool)(v2:Nat)(b:Fld):Nat×List Slt→St:=fun(e,a)=>Ac [(3,.iptr (Am c) 0),(5,.iptr (Ae d) 0),pp 6,pp 7,pp 9,(10,vN v2),pp 11,(12,vN e)] [CG,(F1 f),(WD a),(NC b),kk 1095 58 8 (Ab Ap a)]
def w3(b:Scm)(c:Val)(d:Msg×Bool)(v2:Nat):List Slt→Nat×St:=fun a=>(2,Ac [(3,.iptr (Am b) 0),(5,.iptr (Ae c) 0),pp 6,pp 7,pp 9,(10,vN v2)] [CG,(F1 d),kk 9 35 7 [vI 10,.d (.int .u64 0),vS ⟨#[]⟩,.e0,.e0,.ref (1,1095) 0 0 a.length,.e0],kk 1095 58 8 (Ab Ap a)])
def ZR(e:Scm)(f:Val)(g:Msg×Bool)(v2:Nat)(b:Fld)(d:Nat)(c:List Slt)(a:Val):PT 0 (Lv (Nat×List Slt) (List Slt) (Val)):=vs (wa d 1)<|vz (fl (c++([(.mk b.num a:Slt)])))<|ln (Zc e f g v2 b) (d+1,c++([(.mk b.num a:Slt)]))
def J2(d:Scm)(e:Val)(g:Msg×Bool)(v2:Nat)(b:Fld)(f:Nat)(c:List Slt)(a:Val):PT 0 (Lv (Nat×List Slt) (List Slt) (Val)):=vz (fl (c++([(.mk b.num a:Slt)])))<|lc (Ac [(3,.iptr (Am d) 0),(5,.iptr (Ae e) 0),pp 6,pp 7,pp 9,(10,vN v2),pp 11,(12,vN f)] [CG,(F1 g),kk 9 35 7 [vI 10,.d (.int .u64 0),vS ⟨#[]⟩,.e0,.e0,.ref (1,1095) 0 0 (c++([(.mk b.num a:Slt)])).length,.e0],(NC b),kk 1095 58 8 (Ab Ap (c++([(.mk b.num a:Slt)])))]) ((ZR d e g v2 b f c a).m)
def W2(d:Scm)(g:Val)(e:Scm→Fld→Val→Option (Val))(i:Msg×Bool)(v2:Nat)(c:Fld)(h:Nat)(f:List Slt)(b:Slt):PT 0 (Lv (Nat×List Slt) (List Slt) (Val)):=tw (wg<|cs Tryz.prog 50 [.agg ((Am d).map .d),.agg ((Av c).map .d),.agg ((Ae b.val).map .d)] [] [] (e d c b.val) (fun y=>.agg ((Ae y).map .d)) fun a=>vw .sep<|ap f ((.mk c.num a:Slt):Slt)<|wg<|(J2 d g i v2 c h f a)) (cs Tryz.prog 50 [.agg ((Am d).map .d),.agg ((Av c).map .d),.agg ((Ae b.val).map .d)] [] [] (e d c b.val) (fun y=>.agg ((Ae y).map .d)) fun a=>wg<|vw .sep<|ap f ((.mk c.num a:Slt):Slt)<|wg<|(J2 d g i v2 c h f a))
def VZ(d:Scm)(g:Val)(e:Scm→Fld→Val→Option (Val))(i:Msg×Bool)(v2:Nat)(c:Fld)(h:Nat)(f:List Slt)(b:Slt):PT 0 (Lv (Nat×List Slt) (List Slt) (Val)):=tw (wg<|cs Tryz.prog 50 [.agg ((Am d).map .d),.agg ((Av c).map .d),.agg ((Ae b.val).map .d)] [] [] (e d c b.val) (fun y=>.agg ((Ae y).map .d)) fun a=>vw .sep<|ap f ((.mk c.num a:Slt):Slt)<|wg<|(J2 d g i v2 c h f a)) (cs Tryz.prog 50 [.agg ((Am d).map .d),.agg ((Av c).map .d),.agg ((Ae b.val).map .d)] [] [] (e d c b.val) (fun y=>.agg ((Ae y).map .d)) fun a=>wg<|vw .sep<|ap f ((.mk c.num a:Slt):Slt)<|wg<|(J2 d g i v2 c h f a))
def VM(d:Scm)(g:Val)(b:Scm→Fld→Val→Option (Val))(i:Msg×Bool)(v2:Nat)(c:Fld)(h:Nat)(f:List Slt)(a:Slt):PT 0 (Lv (Nat×List Slt) (List Slt) (Val)):=tw (wg<|(W2 d g b i v2 c h f a)) (tw (wg<|(VZ d g b i v2 c h f a)) (cs Tryz.prog 50 [.agg ((Am d).map .d),.agg ((Av c).map .d),.agg ((Ae a.val).map .d)] [] [] (b d c a.val) (fun y=>.agg ((Ae y).map .d)) fun e=>wg<|wg<|vw .sep<|ap f ((.mk c.num e:Slt):Slt)<|wg<|(J2 d g i v2 c h f e)))
def V6(f:Scm)(c:Val)(a:Scm→Fld→Val→Option (Val))(h:Msg×Bool)(v2:Nat)(e:Fld)(d:Nat)(g:List Slt):PT 0 (Lv (Nat×List Slt) (List Slt) (Val)):=ix c.slots d fun b=>wg<|(VM f c a h v2 e d g b)
def jo(d:Scm)(e:Val)(f:Msg×Bool)(v2:Nat)(c:Fld)(b:Nat)(a:List Slt):PT 0 (Lv (Nat×List Slt) (List Slt) (Val)):=vs (wa b 1)<|vz (fl a)<|ln (Zc d e f v2 c) (b+1,a)
def jm(c:Scm)(d:Val)(f:Msg×Bool)(v2:Nat)(b:Fld)(e:Nat)(a:List Slt):PT 0 (Lv (Nat×List Slt) (List Slt) (Val)):=vz (fl a)<|lc (Ac [(3,.iptr (Am c) 0),(5,.iptr (Ae d) 0),pp 6,pp 7,pp 9,(10,vN v2),pp 11,(12,vN e)] [CG,(F1 f),(WD a),(NC b),kk 1095 58 8 (Ab Ap a)]) ((jo c d f v2 b e a).m)
def i1(g:Scm)(b:Val)(f:Scm→Fld→Val→Option (Val))(h:Msg×Bool)(v2:Nat)(a:Fld)(d:Nat)(c:List Slt):PT 0 (Lv (Nat×List Slt) (List Slt) (Val)):=ix b.slots d fun e=>wg<|wg<|AN (decide (e.num=a.num)) b.slots (d:Int) fun j=>AE (decide (e.num=a.num)) (ZY3 a j.val) fun i=>vz (fl c)<|lc (Ac [(3,.iptr (Am g) 0),(5,.iptr (Ae b) 0),pp 6,pp 7,pp 9,(10,vN v2),pp 11,(12,vN d),(61,vB (decide (e.num=a.num)&&(!i)))] [CG,(F1 h),(WD c),(NC a),kk 1095 58 8 (Ab Ap c)]) (if(decide (e.num=a.num)&&(!i))=true then(V6 g b f h v2 a d c).m else(jm g b h v2 a d c).m)
def jc(d:Scm)(b:Val)(c:Scm→Fld→Val→Option (Val))(f:Msg×Bool)(v2:Nat)(g:Fld)(e:Nat)(a:List Slt):PT 0 (Lv (Nat×List Slt) (List Slt) (Val)):=vz (Ai b.slots)<|br (decide ((e:Int)<(b.slots.length:Int))) (vz (fl a)<|lc (Ac [(3,.iptr (Am d) 0),(5,.iptr (Ae b) 0),pp 6,pp 7,pp 9,(10,vN v2),pp 11,(12,vN e)] [CG,(F1 f),(WD a),(NC g),kk 1095 58 8 (Ab Ap a)]) ((i1 d b c f v2 g e a).m)) (vz (fl a)<|Af (w3 d b f v2) a)
def QK(c:Scm)(d:Val)(a:Scm→Fld→Val→Option (Val))(g:Msg×Bool)(v2:Nat)(b:Fld):Nat×List Slt→Option (Lv (Nat×List Slt) (List Slt) (Val)):=fun(f,e)=>(jc c d a g v2 b f e).m
def iS(b:Scm)(c:Val)(d:Msg×Bool)(v2:Nat)(a:List Slt):PT 0 (Lv (Nat×List Slt) (List Slt) (Val)):=vs (wa v2 1)<|vz (fl a)<|ln (ya b c d) (v2+1,a)
def iK(d:Scm)(e:Val)(c:Scm→Fld→Val→Option (Val))(b:Msg×Bool)(v2:Nat)(a:List Slt):PT 0 (Lv (Nat×List Slt) (List Slt) (Val)):=wg<|ix b.1.fields v2 fun g=>wg<|vz (fl a)<|lc (Ac [(3,.iptr (Am d) 0),(5,.iptr (Ae e) 0),pp 6,pp 7,pp 9,(10,vN v2),pp 11,(12,vI 0)] [CG,(F1 b),(X5 a),(NC g),kk 1095 58 8 (Ab Ap a)]) ((Aj (QK d e c b v2 g) Ag (0,a)).bind (Sum.elim (fun f=>(iS d e b v2 f).m) (fun z=>some (.rt z))))
def gY(e:Scm)(d:Val)(c:Scm→Fld→Val→Option (Val))(b:Msg×Bool)(v2:Nat)(a:List Slt):PT 0 (Lv (Nat×List Slt) (List Slt) (Val)):=wg<|vz (Ai b.1.fields)<|br (decide ((v2:Int)<(b.1.fields.length:Int))) (vz (fl a)<|lc (Ac [(3,.iptr (Am e) 0),(5,.iptr (Ae d) 0),pp 6,pp 7,pp 9,(10,vN v2)] [CG,(F1 b),(X5 a),kk 1095 58 8 (Ab Ap a)]) ((iK e d c b v2 a).m)) (vz (fl a)<|Af (rL d) a)
def Rc(b:Scm)(c:Val)(a:Scm→Fld→Val→Option (Val))(e:Msg×Bool):Nat×List Slt→Option (Lv (Nat×List Slt) (List Slt) (Val)):=fun(v2,d)=>(gY b c a e v2 d).m
def yi(d:Val)(a:List Slt):Nat×List Raw→St:=fun(c,b)=>Ac [(5,.iptr (Ae d) 0),pp 6,pp 9,(13,vN c)] [CG,(Qz a b),(Hm a)]
def uP(a:List Slt):List Raw→Nat×St:=fun b=>(4,Ac [pp 6,pp 9] [CG,kk 9 35 7 [vI 10,.d (.int .u64 0),vS ⟨#[]⟩,.e0,.e0,.ref (1,1095) 0 0 a.length,vL Au b],(Hm a)])
def tO(e:Val)(a:List Slt)(c:Nat)(b:List Raw):Int→St:=fun d=>Ac [(5,.iptr (Ae e) 0),pp 6,pp 9,(13,vN c),(14,vI d)] [CG,(Qz a b),(Hm a)]
def p5(e:Val)(a:List Slt)(c:Nat)(b:List Raw):Int→Nat×St:=fun d=>(6,Ac [(5,.iptr (Ae e) 0),pp 6,pp 9,(13,vN c),(14,vI d)] [CG,(Qz a b),(Hm a)])
def iQ(g:Val)(b:List Slt)(d:Nat)(c:List Raw)(a:Int):PT 0 (Lv (Int) (Int) (Val)):=wg<|vg (decide ((0:Int)<a)) (wi (a-1))<|AN (decide ((0:Int)<a)) c (a-1) fun e=>AN (decide ((0:Int)<a)) g.raws (d:Int) fun f=>br (decide ((0:Int)<a)&&decide (f.num<e.num)) (vs (wi (a-1))<|vz (fl b)<|ln (tO g b d c) (a-1)) (vz (fl b)<|Af (p5 g b d c) a)
def Rb(f:Val)(e:Scm→Fld→Val→Option (Val))(b:List Slt)(c:Nat)(a:List Raw):Int→Option (Lv (Int) (Int) (Val)):=fun d=>(iQ f b c a d).m
def iP(f:Val)(d:List Slt)(e:Nat)(b:List Raw)(a:Raw)(c:List Raw):PT 0 (Lv (Nat×List Raw) (List Raw) (Val)):=vs (wa e 1)<|vw (.frz 114 [] [((1,9),6,(((b++[a])++c).map Au))])<|vz (fz ((b++[a])++c))<|vz (fl d)<|ln (yi f d) (e+1,(b++[a])++c)
def hU(h:Val)(d:List Slt)(e:Nat)(f:List Raw)(g:Int):PT 0 (Lv (Nat×List Raw) (List Raw) (Val)):=wg<|sL f .no (.it g) fun a=>a0 a<|ix h.raws e fun b=>vw .sep<|ap a (b:Raw)<|wg<|sL f (.it g) .no fun c=>aq (a++[b]) c<|wg<|vz (fl ((a++[b])++c))<|vz (fl d)<|lc (Ac [(5,.iptr (Ae h) 0),pp 6,pp 9,(13,vN e)] [CG,kk 9 35 7 [vI 10,.d (.int .u64 0),vS ⟨#[]⟩,.e0,.e0,.ref (1,1095) 0 0 d.length,.ref (1,114) 0 0 ((a++[b])++c).length],kk 114 65 4 (Ab Au ((a++[b])++c)),(Hm d)]) ((iP h d e a b c).m)
def jk(e:Val)(d:Scm→Fld→Val→Option (Val))(b:List Slt)(c:Nat)(a:List Raw):PT 0 (Lv (Nat×List Raw) (List Raw) (Val)):=wg<|vz (Ai a)<|vz (fl b)<|lc (Ac [(5,.iptr (Ae e) 0),pp 6,pp 9,(13,vN c),(14,vN a.length)] [CG,(Qz b a),(Hm b)]) ((Aj (Rb e d b c a) Ag (a.length:Int)).bind (Sum.elim (fun f=>(hU e b c a f).m) (fun z=>some (.rt z))))
def g7(d:Val)(e:Scm→Fld→Val→Option (Val))(a:List Slt)(c:Nat)(b:List Raw):PT 0 (Lv (Nat×List Raw) (List Raw) (Val)):=vz (Ai d.raws)<|br (decide ((c:Int)<(d.raws.length:Int))) (vz (fl a)<|lc (Ac [(5,.iptr (Ae d) 0),pp 6,pp 9,(13,vN c)] [CG,(Qz a b),(Hm a)]) ((jk d e a c b).m)) (vz (fl a)<|Af (uP a) b)
def Nx(e:Val)(a:Scm→Fld→Val→Option (Val))(c:List Slt):Nat×List Raw→Option (Lv (Nat×List Raw) (List Raw) (Val)):=fun(d,b)=>(g7 e a c d b).m
def nU(a:List Slt)(b:List Raw):PT 0 (Val):=wg<|wg<|vz (fr a)<|lr LQ nG (.mk 10 0 ⟨#[]⟩ [] [] a b:Val)
def mA(d:Val)(b:Scm→Fld→Val→Option (Val))(a:List Slt):PT 0 (Val):=vw (.adc (1,9) 6 1096 65 4)<|vw (.frz 1096 [] [((1,9),6,(([]:List Raw).map Au))])<|vz (fz ([]:List Raw))<|vz (fl a)<|lc (Ac [(5,.iptr (Ae d) 0),pp 6,pp 9,(13,vI 0)] [CG,kk 9 35 7 [vI 10,.d (.int .u64 0),vS ⟨#[]⟩,.e0,.e0,.ref (1,1095) 0 0 a.length,vL Au ([]:List Raw)],(Hm a)]) ((Aj (Nx d b a) Ag (0,([]:List Raw))).bind (Sum.elim (fun c=>(nU a c).m) some))
def pJ(c:Val)(b:Scm→Fld→Val→Option (Val))(a:List Slt):PT 0 (Val):=vz (fl a)<|lc (Ac [(5,.iptr (Ae c) 0),pp 6,pp 9,(13,vI 0)] [CG,(ub a),(Hm a)]) ((mA c b a).m)
def m8(d:Scm)(b:Val)(a:Scm→Fld→Val→Option (Val))(e:Msg×Bool):PT 0 (Val):=vw (.adc (1,9) 5 1095 58 8)<|vw (.fzb 3 [3])<|vw (.fzb 5 [5])<|vz (fl ([]:List Slt))<|lc (Ac [(3,.iptr (Am d) 0),(5,.iptr (Ae b) 0),pp 6,pp 7,pp 9,(10,vI 0)] [CG,(F1 e),kk 9 35 7 [vI 10,.d (.int .u64 0),vS ⟨#[]⟩,.e0,.e0,.ref (1,1095) 0 0 ([]:List Slt).length,.e0],kk 1095 58 8 (Ab Ap ([]:List Slt))]) ((Aj (Rc d b a e) Ag (0,([]:List Slt))).bind (Sum.elim (fun c=>(pJ b a c).m) some))
def lu(b:Scm)(c:Val)(a:Scm→Fld→Val→Option (Val))(d:Msg×Bool):PT 0 (Val):=lc (Ac [pp 3,pp 5,pp 6,pp 7,pp 9,(10,vI 0)] [(uV b),(tt c),CG,(F1 d),vj]) ((m8 b c a d).m)
def nL(b:Scm)(e:ByteArray)(c:Val)(a:Scm→Fld→Val→Option (Val)):PT 0 (Val):=wg<|cl (SM b e) fun d=>wg<|wg<|lc (Ac [pp 3,pp 5,pp 6,pp 7,pp 9] [(uV b),(tt c),CG,(F1 d),vj]) ((lu b c a d).m)
def Pi(a:Scm→Fld→Val→Option (Val))(b:Scm)(c:ByteArray)(d:Val):Option (Val):=(nL b c d a).m
theorem ZFM{C:Cx}(co:CO C 0)(b:Scm)(i:Val)(f:Scm→Fld→Val→Option (Val))(k:Msg×Bool)(v2:Nat)(d:Fld)(e:∀(b:Scm) (v:Fld) (i:Val),KC Tryz.prog 50 [.agg ((Am b).map .d),.agg ((Av v).map .d),.agg ((Ae i).map .d)] (f b v i) DP):KL Tryz.prog (As tl) 132 C (pa [0,0,1,1,0,0,1,0,0,1,0,1,1,1] (At Tryz.f19)) [.cell 6 35] 0 (Zc b i k v2 d) (w3 b i k v2) LQ nG (QK b i f k v2 d):=fun(p,o) _ m Q u n L=>mJ co 1 (Aa [3,5,6,7,9,10,11,12] KS) (Aa [3,5,6,7,9,10] S6) n m L fun r g=>⟨fun _ m L=>sq (bk 3 (mJ co 1 (Aa [3,5,6,7,9,10,11,12,61] KS) nl n m L fun r g=>fun w=>fun x=>fun z=>fun _ m L=>Bg m (fun m=>Gk co AS BM (.fst 0 (.fst 2 (.fst 4 (.fst 6 (.fst 7 (.fst 8 (.fst 9 (.fst 10 (.fst 5 (.fst 11 ZT4)))))))))) [3,5] (V6 b i f k v2 d p o) (Aa [3,5,6,7,9,10,11,12] KS) m L fun r g=>Kg (fun(l:∀(c:Val),PT.n (J2 b i k v2 d p o c) _)=>Kg (fun(q:∀(a:Slt),PT.n (W2 b i f k v2 d p o a) _)=>Kg (fun(s:∀(a:Slt),PT.n (VZ b i f k v2 d p o a) _)=>Kg (fun(t:∀(a:Slt),PT.n (VM b i f k v2 d p o a) _)=>fun a=>(t a)) (fun a=>⟨(q a),⟨(s a),⟨fun y hy j _ _=>by rw[(e b d a.val).x,(e b d a.val).e];exact(e b d a.val).k _ j y hy,fun c=>(l c)⟩,fun _ h=>h⟩,fun _ h=>h⟩)) (fun a=>⟨⟨fun y hy j _ _=>by rw[(e b d a.val).x,(e b d a.val).e];exact(e b d a.val).k _ j y hy,fun c=>(l c)⟩,⟨fun y hy j _ _=>by rw[(e b d a.val).x,(e b d a.val).e];exact(e b d a.val).k _ j y hy,fun c=>(l c)⟩,fun _ h=>h⟩)) (fun a=>⟨⟨fun y hy j _ _=>by rw[(e b d a.val).x,(e b d a.val).e];exact(e b d a.val).k _ j y hy,fun c=>(l c)⟩,⟨fun y hy j _ _=>by rw[(e b d a.val).x,(e b d a.val).e];exact(e b d a.val).k _ j y hy,fun c=>(l c)⟩,fun _ h=>h⟩)) (fun c=>fun _ m L=>eN co (Aa [3,5,6,7,9,10,11,12] KS) nl n m L)) (fun m=>eN co (Aa [3,5,6,7,9,10,11,12] KS) nl n m L fun r g=>fun _ m L=>eN co (Aa [3,5,6,7,9,10,11,12] KS) nl n m L))),id⟩
theorem ZEq{C:Cx}(co:CO C 0)(c:Scm)(b:Val)(a:Scm→Fld→Val→Option (Val))(e:Msg×Bool)(j:∀(c:Scm) (h:Fld) (b:Val),KC Tryz.prog 50 [.agg ((Am c).map .d),.agg ((Av h).map .d),.agg ((Ae b).map .d)] (a c h b) DP):KL Tryz.prog (As tl) 132 C (pa [0,0,1,0,1,1,1] (At Tryz.f19)) [.cell 6 35] 0 (ya c b e) (rL b) LQ nG (Rc c b a e):=fun(v2,l) _ m Q f d L=>mJ co 1 (Aa [3,5,6,7,9,10] S6) (Aa [5,6,9] IH) d m L fun r g=>⟨fun _ m L=>sq (bk 1 (mJ co 2 (Aa [3,5,6,7,9,10,11,12] KS) nl d m L fun r g=>fun i=>fun _ m L=>bk 2 (lo (Et (ZFM co c b a e v2 i j) d m L (fun k m=>eN co (Aa [3,5,6,7,9,10] S6) nl d m L))))),id⟩
theorem ZGE{C:Cx}(co:CO C 0)(d:Val)(e:Scm→Fld→Val→Option (Val))(b:List Slt)(c:Nat)(a:List Raw)(k:∀(g:Scm) (h:Fld) (d:Val),KC Tryz.prog 50 [.agg ((Am g).map .d),.agg ((Av h).map .d),.agg ((Ae d).map .d)] (e g h d) DP):KL Tryz.prog (As tl) 132 C (pa [0,0,0,1,0,0,1,0,0,1,0,1,1,1,1] (At Tryz.f19)) [.cell 6 35] 0 (tO d b c a) (p5 d b c a) LQ nG (Rb d e b c a):=fun j _ m Q f i L=>eN co (Aa [5,6,9,13,14] IH) (Aa [5,6,9,13,14] IH) i m L
theorem ZH1{C:Cx}(co:CO C 0)(c:Val)(b:Scm→Fld→Val→Option (Val))(a:List Slt)(l:∀(i:Scm) (j:Fld) (c:Val),KC Tryz.prog 50 [.agg ((Am i).map .d),.agg ((Av j).map .d),.agg ((Ae c).map .d)] (b i j c) DP):KL Tryz.prog (As tl) 132 C (pa [0,0,1,0,1,1,1,1] (At Tryz.f19)) [.cell 6 35] 0 (yi c a) (uP a) LQ nG (Nx c b a):=fun(f,e) _ m Q h d L=>mJ co 1 (Aa [5,6,9,13] IH) (Aa [6,9] IH) d m L fun r g=>⟨fun _ m L=>sq (bk 5 (mJ co 1 (Aa [5,6,9,13,14] IH) nl d m L fun r g=>fun _ m L=>sq (bk 6 (lo (Et (ZGE co c b a f e l) d m L (fun p m=>eN co (Aa [5,6,9,13] [((1,6),false),((1,9),false),((1,114),true),((1,1095),true)]) nl d m L fun r g=>fun n=>fun k=>fun o=>fun _ m L=>eN co (Aa [5,6,9,13] IH) nl d m L)))))),id⟩
theorem S7(a:Scm→Fld→Val→Option (Val))(f:∀(c:Scm) (d:Fld) (b:Val),KC Tryz.prog 50 [.agg ((Am c).map .d),.agg ((Av d).map .d),.agg ((Ae b).map .d)] (a c d b) DP)(c:Scm)(d:ByteArray)(b:Val):KC Tryz.prog 19 [.agg ((Am c).map .d),vS d,.agg ((Ae b).map .d)] (Pi a c d b) LQ:=kC Tryz.func19 Tryz.ntmps19 [.cell 6 35] fun co m L=>mJ co 3 (Aa [3,5,6,7,9] zx) nl nH m L fun r g=>fun i=>fun _ m L=>sq (mJ co 1 (Aa [3,5,6,7,9,10] zx) nl nH m L fun r g=>fun _ m L=>bk 0 (cM co (Aa [3,5,6,7,9,10] S6) m L fun r g=>fun _ m L=>lo (Ax (ZEq co c b a i f) nH m L (fun e m=>sq (mJ co 1 (Aa [5,6,9,13] IH) nl nH m L fun r g=>fun _ m L=>bk 4 (cM co (Aa [5,6,9,13] IH) m L fun r g=>fun _ m L=>lo (Ax (ZH1 co b a e f) nH m L (fun h m=>fO co m L))))))))
abbrev Xo:Val→AV:=fun y=>.agg ((Ae y).map .d)
def uy(d:Scm)(b:Typ)(c:Val)(a:Scm→Fld→Val→Option (Val)):PT 0 (Val):=wg<|br (decide (b.kind=(10:Int))) (wg<|wg<|wg<|cs Tryz.prog 19 [.agg ((Am d).map .d),vS b.name,.agg ((Ae c).map .d)] [] [] (Pi a d b.name c) (fun y=>.agg ((Ae y).map .d)) fun e=>wg<|lr Xo nG e) (wg<|cl (cg c) fun f=>wg<|lr Xo nG f)
def La(a:Scm→Fld→Val→Option (Val))(b:Scm)(c:Typ)(d:Val):Option (Val):=(uy b c d a).m
theorem Gg(a:Scm→Fld→Val→Option (Val))(e:∀(b:Scm) (c:Fld) (d:Val),KC Tryz.prog 50 [.agg ((Am b).map .d),.agg ((Av c).map .d),.agg ((Ae d).map .d)] (a b c d) DP)(b:Scm)(c:Typ)(d:Val):KC Tryz.prog 93 [.agg ((Am b).map .d),.agg ((HB c).map .d),.agg ((Ae d).map .d)] (La a b c d) Xo:=DO Tryz.func93 Tryz.ntmps93 AS [.cell 6 35] fun C co y m f L=>fO co m L fun r g=>⟨⟨fun y hy h _ _=>by rw[(S7 a e b c.name d).x,(S7 a e b c.name d).e];exact(S7 a e b c.name d).k _ h y hy,fun i=>id⟩,fun j=>id⟩
abbrev Mp:List (Ad×Bool):=[((1,6),false),((1,7),false),((1,1073),true)]
abbrev OX:List (Ad×Bool):=[((1,6),false),((1,9),true)]
abbrev KE:List (Ad×Bool):=[((1,3),false),((1,4),false),((1,5),false),((1,6),false)]
abbrev ZXV:List (Ad×Bool):=[((1,3),false),((1,4),false),((1,5),false),((1,6),false),((1,7),false)]
abbrev CV:Ad×Blk:=kk 6 35 7 [vI 0,.d (.int .u64 0),vS ⟨#[]⟩,.e0,.e0,.e0,.e0]
abbrev If(a:Scm):Ad×Blk:=kk 3 26 3 (cD (Am a))
abbrev Ia(a:Fld):Ad×Blk:=kk 4 51 16 (cD (Av a))
abbrev Ie(a:Val):Ad×Blk:=kk 5 35 7 (cD (Ae a))
abbrev pZ(a:List Val):Ad×Blk:=kk 7 35 7 [vI 11,.d (.int .u64 0),vS ⟨#[]⟩,.ref (1,1073) 0 0 a.length,.e0,.e0,.e0]
abbrev rE(a:List Val)(b:Val):Ad×Blk:=kk 7 35 7 [vI 11,.d (.int .u64 0),vS ⟨#[]⟩,.ref (1,1073) 0 0 (a++[b]).length,.e0,.e0,.e0]
abbrev rx:Ad×Blk:=kk 7 35 7 [vI 11,.d (.int .u64 0),vS ⟨#[]⟩,.e0,.e0,.e0,.e0]
def sN(b:Scm)(c:Fld)(d:Val):Nat×List Val→St:=fun(e,a)=>Ac [(3,.iptr (Am b) 0),(4,.iptr (Av c) 0),(5,.iptr (Ae d) 0),pp 6,pp 7,(8,vN e)] [CV,(pZ a),kk 1073 35 7 (Ab AW a)]
def ui:List Val→Nat×St:=fun a=>(0,Ac [pp 6,pp 7] [CV,kk 7 35 7 [vI 11,.d (.int .u64 0),vS ⟨#[]⟩,.ref (1,1073) 0 0 a.length,.e0,.e0,.e0],kk 1073 35 7 (Ab AW a)])
def WW(d:Scm)(e:Fld)(f:Val)(b:Nat)(a:List Val)(c:Val):PT 0 (Lv (Nat×List Val) (List Val) (Val)):=vs (wa b 1)<|vz (fl (a++[c]))<|ln (sN d e f) (b+1,a++[c])
def W1(c:Scm)(d:Fld)(f:Val)(e:Scm→Fld→Val→Option (Val))(g:Nat)(b:List Val):PT 0 (Lv (Nat×List Val) (List Val) (Val)):=ix f.list g fun h=>tw (wg<|cs Tryz.prog 93 [.agg ((Am c).map .d),.agg ((HB d.type).map .d),.agg ((Ae h).map .d)] [] [] (La e c d.type h) (fun y=>.agg ((Ae y).map .d)) fun a=>vw .sep<|ap b (a:Val)<|wg<|vz (fl (b++[a]))<|lc (Ac [(3,.iptr (Am c) 0),(4,.iptr (Av d) 0),(5,.iptr (Ae f) 0),pp 6,pp 7,(8,vN g)] [CV,(rE b a),kk 1073 35 7 (Ab AW (b++[a]))]) ((WW c d f g b a).m)) (cs Tryz.prog 93 [.agg ((Am c).map .d),.agg ((HB d.type).map .d),.agg ((Ae h).map .d)] [] [] (La e c d.type h) (fun y=>.agg ((Ae y).map .d)) fun a=>wg<|vw .sep<|ap b (a:Val)<|wg<|vz (fl (b++[a]))<|lc (Ac [(3,.iptr (Am c) 0),(4,.iptr (Av d) 0),(5,.iptr (Ae f) 0),pp 6,pp 7,(8,vN g)] [CV,(rE b a),kk 1073 35 7 (Ab AW (b++[a]))]) ((WW c d f g b a).m))
def bp(e:Scm)(f:Fld)(b:Val)(c:Scm→Fld→Val→Option (Val))(d:Nat)(a:List Val):PT 0 (Lv (Nat×List Val) (List Val) (Val)):=vz (Ai b.list)<|br (decide ((d:Int)<(b.list.length:Int))) (vz (fl a)<|lc (Ac [(3,.iptr (Am e) 0),(4,.iptr (Av f) 0),(5,.iptr (Ae b) 0),pp 6,pp 7,(8,vN d)] [CV,(pZ a),kk 1073 35 7 (Ab AW a)]) ((W1 e f b c d a).m)) (vz (fl a)<|Af (ui) a)
def QJ(b:Scm)(c:Fld)(d:Val)(a:Scm→Fld→Val→Option (Val)):Nat×List Val→Option (Lv (Nat×List Val) (List Val) (Val)):=fun(f,e)=>(bp b c d a f e).m
def rj(a:List Val):PT 0 (Val):=wg<|wg<|vz (fr a)<|lr DP nG (.mk 11 0 ⟨#[]⟩ a [] [] []:Val)
def qv(b:Scm)(c:Fld)(d:Val)(a:Scm→Fld→Val→Option (Val)):PT 0 (Val):=vw (.adc (1,7) 3 1073 35 7)<|vw (.fzb 3 [3])<|vw (.fzb 4 [4])<|vw (.fzb 5 [5])<|vz (fl ([]:List Val))<|lc (Ac [(3,.iptr (Am b) 0),(4,.iptr (Av c) 0),(5,.iptr (Ae d) 0),pp 6,pp 7,(8,vI 0)] [CV,kk 7 35 7 [vI 11,.d (.int .u64 0),vS ⟨#[]⟩,.ref (1,1073) 0 0 ([]:List Val).length,.e0,.e0,.e0],kk 1073 35 7 (Ab AW ([]:List Val))]) ((Aj (QJ b c d a) Ag (0,([]:List Val))).bind (Sum.elim (fun e=>(rj e).m) some))
def sg(b:Scm)(c:Fld)(d:Val)(a:Scm→Fld→Val→Option (Val)):PT 0 (Val):=lc (Ac [pp 3,pp 4,pp 5,pp 6,pp 7,(8,vI 0)] [(If b),(Ia c),(Ie d),CV,rx]) ((qv b c d a).m)
def qx(b:Scm)(c:Fld)(d:Val)(a:Scm→Fld→Val→Option (Val)):PT 0 (Val):=wg<|lc (Ac [pp 3,pp 4,pp 5,pp 6,pp 7] [(If b),(Ia c),(Ie d),CV,rx]) ((sg b c d a).m)
def se(b:Scm)(c:Fld)(d:Val):List Pr×Nat→St:=fun(a,e)=>Ac [(3,.iptr (Am b) 0),(4,.iptr (Av c) 0),(5,.iptr (Ae d) 0),pp 6,(9,.ref (1,9) 0 0 a.length),(10,vN e)] [CV,kk 9 63 14 (Ab Aq a)]
def td:List Pr→Nat×St:=fun a=>(2,Ac [pp 6,(9,.ref (1,9) 0 0 a.length)] [CV,kk 9 63 14 (Ab Aq a)])
def aK(e:Scm)(f:Fld)(g:Val)(c:List Pr)(d:Nat)(a:Val)(b:Val):PT 0 (Lv (List Pr×Nat) (List Pr) (Val)):=vs (wa d 1)<|vz (fl (c++([(.mk a b:Pr)])))<|ln (se e f g) (c++([(.mk a b:Pr)]),d+1)
def WM(d:Scm)(e:Fld)(f:Val)(h:Scm→Fld→Val→Option (Val))(c:List Pr)(g:Nat):PT 0 (Lv (List Pr×Nat) (List Pr) (Val)):=ix f.pairs g fun j=>ix f.pairs g fun i=>du (cl (cg j.key) fun a=>cs Tryz.prog 93 [.agg ((Am d).map .d),.agg ((HB e.type).map .d),.agg ((Ae i.val).map .d)] [] [] (La h d e.type i.val) (fun y=>.agg ((Ae y).map .d)) fun b=>vw .sep<|ap c ((.mk a b:Pr):Pr)<|vz (fl (c++([(.mk a b:Pr)])))<|lc (Ac [(3,.iptr (Am d) 0),(4,.iptr (Av e) 0),(5,.iptr (Ae f) 0),pp 6,(9,.ref (1,9) 0 0 (c++([(.mk a b:Pr)])).length),(10,vN g)] [CV,kk 9 63 14 (Ab Aq (c++([(.mk a b:Pr)])))]) ((aK d e f c g a b).m))
def iX(e:Scm)(f:Fld)(b:Val)(c:Scm→Fld→Val→Option (Val))(a:List Pr)(d:Nat):PT 0 (Lv (List Pr×Nat) (List Pr) (Val)):=vz (Ai b.pairs)<|br (decide ((d:Int)<(b.pairs.length:Int))) (vz (fl a)<|lc (Ac [(3,.iptr (Am e) 0),(4,.iptr (Av f) 0),(5,.iptr (Ae b) 0),pp 6,(9,.ref (1,9) 0 0 a.length),(10,vN d)] [CV,kk 9 63 14 (Ab Aq a)]) ((WM e f b c a d).m)) (vz (fl a)<|Af (td) a)
def QG(b:Scm)(c:Fld)(d:Val)(a:Scm→Fld→Val→Option (Val)):List Pr×Nat→Option (Lv (List Pr×Nat) (List Pr) (Val)):=fun(e,f)=>(iX b c d a e f).m
def pi(a:List Pr):PT 0 (Val):=vw (.frz 9 [(9,(a.map Aq))] [])<|vz (fz a)<|vw .sep<|cl (ZXb a) fun b=>wg<|lr DP nG (.mk 12 0 ⟨#[]⟩ [] b [] []:Val)
def oo(c:Scm)(d:Fld)(e:Val)(a:Scm→Fld→Val→Option (Val)):PT 0 (Val):=vw (.ads 9 9 63 14)<|vw (.fzb 3 [3])<|vw (.fzb 4 [4])<|vw (.fzb 5 [5])<|vz (fl ([]:List Pr))<|lc (Ac [(3,.iptr (Am c) 0),(4,.iptr (Av d) 0),(5,.iptr (Ae e) 0),pp 6,(9,.ref (1,9) 0 0 ([]:List Pr).length),(10,vI 0)] [CV,kk 9 63 14 (Ab Aq ([]:List Pr))]) ((Aj (QG c d e a) Ag (([]:List Pr),0)).bind (Sum.elim (fun b=>(pi b).m) some))
def ZzH(b:Scm)(c:Fld)(d:Val)(a:Scm→Fld→Val→Option (Val)):PT 0 (Val):=lc (Ac [pp 3,pp 4,pp 5,pp 6,(9,.e0),(10,vI 0)] [(If b),(Ia c),(Ie d),CV]) ((oo b c d a).m)
def oi(b:Scm)(c:Fld)(d:Val)(a:Scm→Fld→Val→Option (Val)):PT 0 (Val):=lc (Ac [pp 3,pp 4,pp 5,pp 6,(9,.e0)] [(If b),(Ia c),(Ie d),CV]) ((ZzH b c d a).m)
def n5(c:Scm)(d:Fld)(e:Val)(a:Scm→Fld→Val→Option (Val)):PT 0 (Val):=wg<|wg<|wg<|cs Tryz.prog 93 [.agg ((Am c).map .d),.agg ((HB d.type).map .d),.agg ((Ae e).map .d)] [] [] (La a c d.type e) (fun y=>.agg ((Ae y).map .d)) fun b=>wg<|lr DP nG b
def lE(b:Scm)(c:Fld)(d:Val)(a:Scm→Fld→Val→Option (Val)):PT 0 (Val):=lc (Ac [pp 3,pp 4,pp 5,pp 6] [(If b),(Ia c),(Ie d),CV]) ((n5 b c d a).m)
def mR(c:Scm)(b:Fld)(d:Val)(a:Scm→Fld→Val→Option (Val)):PT 0 (Val):=wg<|lc (Ac [pp 3,pp 4,pp 5,pp 6,(39,vB (decide (b.card=(5:Int))))] [(If c),(Ia b),(Ie d),CV]) (if decide (b.card=(5:Int))=true then(oi c b d a).m else(lE c b d a).m)
def mb(b:Scm)(c:Fld)(d:Val)(a:Scm→Fld→Val→Option (Val)):PT 0 (Val):=lc (Ac [pp 3,pp 4,pp 5,pp 6] [(If b),(Ia c),(Ie d),CV]) ((mR b c d a).m)
def pu(c:Scm)(b:Fld)(d:Val)(a:Scm→Fld→Val→Option (Val)):PT 0 (Val):=wg<|lc (Ac [pp 3,pp 4,pp 5,pp 6,(13,vB (decide (b.card=(4:Int))))] [(If c),(Ia b),(Ie d),CV]) (if decide (b.card=(4:Int))=true then(qx c b d a).m else(mb c b d a).m)
def nk(b:Scm)(c:Fld)(d:Val)(a:Scm→Fld→Val→Option (Val)):PT 0 (Val):=lc (Ac [pp 3,pp 4,pp 5,pp 6] [(If b),(Ia c),(Ie d),CV]) ((pu b c d a).m)
def Td(a:Scm→Fld→Val→Option (Val))(b:Scm)(c:Fld)(d:Val):Option (Val):=(nk b c d a).m
theorem ZHh{C:Cx}(co:CO C 0)(b:Scm)(c:Fld)(f:Val)(a:Scm→Fld→Val→Option (Val))(e:∀(b:Scm) (c:Fld) (f:Val),KC Tryz.prog 50 [.agg ((Am b).map .d),.agg ((Av c).map .d),.agg ((Ae f).map .d)] (a b c f) DP):KL Tryz.prog (As tl) 76 C (pa [0,0,1,0,1,0,1,0,1] (At Tryz.f50)) [.cell 6 35] 0 (sN b c f) (ui) DP nG (QJ b c f a):=fun(n,l) _ m Q k j L=>mJ co 1 (Aa [3,4,5,6,7,8] Mp) (Aa [6,7] Mp) j m L fun r g=>⟨fun _ m L=>sq (bk 1 (Gk co AS BM (.fst 0 (.fst 2 (.fst 3 (.fst 4 (.fst 5 (.fst 6 (.fst 7 (.fst 8 (.fst 9 (.two 1 10 (.fst 10 (.fst 11 (.fst 12 (.fst 13 (.fst 14 .nil))))) (.fst 1 (.fst 11 (.fst 12 (.fst 13 (.fst 14 .nil))))))))))))))) [3,4,5] (W1 b c f a n l) (Aa [3,4,5,6,7,8] Mp) m L fun r g=>fun d=>⟨⟨fun y hy i _ _=>by rw[(Gg a e b c.type d).x,(Gg a e b c.type d).e];exact(Gg a e b c.type d).k _ i y hy,fun o=>fun _ m L=>eN co (Aa [3,4,5,6,7,8] Mp) nl j m L⟩,⟨fun y hy i _ _=>by rw[(Gg a e b c.type d).x,(Gg a e b c.type d).e];exact(Gg a e b c.type d).k _ i y hy,fun o=>fun _ m L=>eN co (Aa [3,4,5,6,7,8] Mp) nl j m L⟩,fun _ h=>h⟩)),id⟩
theorem ZEv{C:Cx}(co:CO C 0)(b:Scm)(c:Fld)(d:Val)(a:Scm→Fld→Val→Option (Val))(f:∀(b:Scm) (c:Fld) (d:Val),KC Tryz.prog 50 [.agg ((Am b).map .d),.agg ((Av c).map .d),.agg ((Ae d).map .d)] (a b c d) DP):KL Tryz.prog (As tl) 76 C (pa [0,0,1,0,1,0,1,0,1,1] (At Tryz.f50)) [.cell 6 35] 0 (se b c d) (td) DP nG (QG b c d a):=fun(k,l) _ m Q h i L=>mJ co 1 (Aa [3,4,5,6,9,10] OX) (Aa [6,9] OX) i m L fun r g=>⟨fun _ m L=>sq (bk 3 (Gk co AS BM (.fst 0 (.fst 1 (.fst 2 (.fst 3 (.fst 4 (.fst 5 (.fst 8 (.fst 9 (.fst 10 (.fst 11 (.fst 12 (.fst 13 (.fst 14 (.fst 15 (.fst 6 (.two 7 16 (.fst 16 (.fst 17 (.fst 18 (.fst 19 (.fst 20 (.fst 21 .nil)))))) (.fst 7 (.fst 17 (.fst 18 (.fst 19 (.fst 20 (.fst 21 .nil)))))))))))))))))))))) [3,4,5] (WM b c d a k l) (Aa [3,4,5,6,9,10] OX) m L fun r g=>fun p=>fun e=>fun n=>⟨fun y hy j _ _=>by rw[(Gg a f b c.type e.val).x,(Gg a f b c.type e.val).e];exact(Gg a f b c.type e.val).k _ j y hy,fun o=>fun _ m L=>eN co (Aa [3,4,5,6,9,10] OX) nl i m L⟩)),id⟩
theorem ZWi(a:Scm→Fld→Val→Option (Val))(e:∀(b:Scm) (c:Fld) (d:Val),KC Tryz.prog 50 [.agg ((Am b).map .d),.agg ((Av c).map .d),.agg ((Ae d).map .d)] (a b c d) DP)(b:Scm)(c:Fld)(d:Val):KC Tryz.prog 50 [.agg ((Am b).map .d),.agg ((Av c).map .d),.agg ((Ae d).map .d)] (Td a b c d) DP:=DO Tryz.func50 Tryz.ntmps50 AS [.cell 6 35] fun C co y m f L=>mJ co 1 (Aa [3,4,5,6] KE) nl nH m L fun r g=>fun _ m L=>sq (mJ co 1 (Aa [3,4,5,6,13] KE) nl nH m L fun r g=>fun _ m L=>Bg m (fun m=>mJ co 1 (Aa [3,4,5,6,7] ZXV) nl nH m L fun r g=>fun _ m L=>sq (mJ co 1 (Aa [3,4,5,6,7,8] ZXV) nl nH m L fun r g=>fun _ m L=>bk 0 (cM co (Aa [3,4,5,6,7,8] Mp) m L fun r g=>fun _ m L=>lo (Ax (ZHh co b c d a e) nH m L (fun k m=>eN co nl nl nH m L))))) (fun m=>eN co (Aa [3,4,5,6] KE) nl nH m L fun r g=>fun _ m L=>sq (mJ co 1 (Aa [3,4,5,6,39] KE) nl nH m L fun r g=>fun _ m L=>Bg m (fun m=>mJ co 1 (Aa [3,4,5,6,9] KE) nl nH m L fun r g=>fun _ m L=>sq (mJ co 1 (Aa [3,4,5,6,9,10] KE) nl nH m L fun r g=>fun _ m L=>bk 2 (cM co (Aa [3,4,5,6,9,10] OX) m L fun r g=>fun _ m L=>lo (Ax (ZEv co b c d a e) nH m L (fun i m=>eN co nl nl nH m L))))) (fun m=>eN co (Aa [3,4,5,6] KE) nl nH m L fun r g=>fun _ m L=>fO co m L fun r g=>⟨fun y hy h _ _=>by rw[(Gg a e b c.type d).x,(Gg a e b c.type d).e];exact(Gg a e b c.type d).k _ h y hy,fun j=>id⟩))))
def Ld:Nat→Scm→Fld→Val→Option (Val)
 |0=>fun _ _ _=>none
 |a+1=>Td (Ld a)
theorem ZXe:∀(d:Nat) (a:Scm) (b:Fld) (c:Val),KC Tryz.prog 50 [.agg ((Am a).map .d),.agg ((Av b).map .d),.agg ((Ae c).map .d)] (Ld d a b c) DP
 |0,a,b,c=>⟨fun _ _ _ h=>(by cases h),by intro r;kernel_rfl,by intro r y;kernel_rfl⟩
 |d+1,a,b,c=>ZWi (Ld d) (ZXe d) a b c
abbrev E7:Bool→AV:=fun y=>vB y
def yY(c:Scm)(d:ByteArray)(a:Val):PT 0 (Bool):=wg<|wg<|cl (ZY1 c d a) fun b=>wg<|wg<|wg<|AE (decide (b=(0:Int))) (S7 (Ld Ag) (ZXe Ag) c d a) fun e=>AE (decide (b=(0:Int))) (RR Ag a e) fun f=>lr E7 nG (decide (b=(0:Int))&&f)
def dA(a:Scm)(b:ByteArray)(c:Val):Option (Bool):=(yY a b c).m
theorem kK(a:Scm)(b:ByteArray)(c:Val):KC Tryz.prog 7 [.agg ((Am a).map .d),vS b,.agg ((Ae c).map .d)] (dA a b c) E7:=kC Tryz.func7 Tryz.ntmps7 [.tmp 6] fun co m L=>fO co m L
abbrev Jg:List (Ad×Bool):=[((1,12),true)]
abbrev Iw(a:List Raw)(b:List Raw):Ad×Blk:=kk 12 65 4 (Ab Au (a++b))
abbrev Ru:List Raw→AV:=fun y=>vL Au y
def sV(a:List Raw)(b:List Raw):List Raw×Nat→St:=fun(c,v2)=>Ac [(5,.ref (1,12) 0 0 (a++b).length),(6,vL Au c),(7,vN v2)] [(Iw a b)]
def wc:List Raw→Nat×St:=fun a=>(0,Ac [(6,vL Au a)] [])
def w6(a:List Raw)(b:List Raw)(c:List Raw)(v2:Nat):Int→St:=fun v3=>Ac [(5,.ref (1,12) 0 0 (a++b).length),(6,vL Au c),(7,vN v2),(8,vI v3)] [(Iw a b)]
def xP(a:List Raw)(b:List Raw)(c:List Raw)(v2:Nat):Int→Nat×St:=fun d=>(2,Ac [(5,.ref (1,12) 0 0 (a++b).length),(6,vL Au c),(7,vN v2),(8,vI d)] [(Iw a b)])
def Z4(a:List Raw)(b:List Raw)(c:List Raw)(v2:Nat)(v3:Int):PT 0 (Lv (Int) (Int) (List Raw)):=vg (decide ((0:Int)<v3)) (wi (v3-1))<|AN (decide ((0:Int)<v3)) c (v3-1) fun d=>vg (decide ((0:Int)<v3)) (ir v2 (a++b).length 4)<|cpg (decide ((0:Int)<v3)) (a++b) v2 0 1 fun e=>br (decide ((0:Int)<v3)&&decide (e.num<d.num)) (vs (wi (v3-1))<|vz (fl (a++b))<|ln (w6 a b c v2) (v3-1)) (vz (fl (a++b))<|Af (xP a b c v2) v3)
def Q0(a:List Raw)(b:List Raw)(c:List Raw)(v2:Nat):Int→Option (Lv (Int) (Int) (List Raw)):=fun v3=>(Z4 a b c v2 v3).m
def aS(d:List Raw)(e:List Raw)(v2:Nat)(b:List Raw)(a:Raw)(c:List Raw):PT 0 (Lv (List Raw×Nat) (List Raw) (List Raw)):=vs (wa v2 1)<|vw (.frz 46 [(6,(((b++[a])++c).map Au))] [])<|vz (fz ((b++[a])++c))<|vz (fl (d++e))<|ln (sV d e) ((b++[a])++c,v2+1)
def bv(c:List Raw)(d:List Raw)(f:List Raw)(v2:Nat)(g:Int):PT 0 (Lv (List Raw×Nat) (List Raw) (List Raw)):=sL f .no (.it g) fun a=>a0 a<|vs (ir v2 (c++d).length 4)<|ca (c++d) v2 fun b=>vw .sep<|ap a (b:Raw)<|sL f (.it g) .no fun e=>aq (a++[b]) e<|vz (fl (c++d))<|vz (fl ((a++[b])++e))<|lc (Ac [(5,.ref (1,12) 0 0 (c++d).length),(6,.ref (1,46) 0 0 ((a++[b])++e).length),(7,vN v2)] [(Iw c d),kk 46 65 4 (Ab Au ((a++[b])++e))]) ((aS c d v2 a b e).m)
def ax(a:List Raw)(b:List Raw)(v1:List Raw)(v2:Nat):PT 0 (Lv (List Raw×Nat) (List Raw) (List Raw)):=vz (Ai v1)<|vz (fl (a++b))<|lc (Ac [(5,.ref (1,12) 0 0 (a++b).length),(6,vL Au v1),(7,vN v2),(8,vN v1.length)] [(Iw a b)]) ((Aj (Q0 a b v1 v2) Ag (v1.length:Int)).bind (Sum.elim (fun c=>(bv a b v1 v2 c).m) (fun z=>some (.rt z))))
def ZM(a:List Raw)(b:List Raw)(c:List Raw)(v2:Nat):PT 0 (Lv (List Raw×Nat) (List Raw) (List Raw)):=vz (Br (a++b).length)<|br (decide ((v2:Int)<((a++b).length:Int))) (vz (fl (a++b))<|lc (Ac [(5,.ref (1,12) 0 0 (a++b).length),(6,vL Au c),(7,vN v2)] [(Iw a b)]) ((ax a b c v2).m)) (Af (wc) c)
def Nm(a:List Raw)(b:List Raw):List Raw×Nat→Option (Lv (List Raw×Nat) (List Raw) (List Raw)):=fun(c,v2)=>(ZM a b c v2).m
def yJ(a:List Raw):PT 0 (List Raw):=lr Ru nG a
def ws(a:List Raw)(b:List Raw):PT 0 (List Raw):=vw (.ads 6 6 65 4)<|vw (.frz 6 [(6,(([]:List Raw).map Au))] [])<|vz (fz ([]:List Raw))<|vz (fl (a++b))<|lc (Ac [(5,.ref (1,12) 0 0 (a++b).length),(6,vL Au ([]:List Raw)),(7,vI 0)] [(Iw a b)]) ((Aj (Nm a b) Ag (([]:List Raw),0)).bind (Sum.elim (fun c=>(yJ c).m) some))
def tU(a:List Raw)(b:List Raw):PT 0 (List Raw):=vz (fl (a++b))<|lc (Ac [(5,.ref (1,12) 0 0 (a++b).length),(6,.e0),(7,vI 0)] [(Iw a b)]) ((ws a b).m)
def vh(a:List Raw)(b:List Raw):PT 0 (List Raw):=a0 a<|aq a b<|vz (fl (a++b))<|lc (Ac [(5,.ref (1,12) 0 0 (a++b).length),(6,.e0)] [(Iw a b)]) ((tU a b).m)
def ei(a:List Raw)(b:List Raw):Option (List Raw):=(vh a b).m
theorem ZEo{C:Cx}(co:CO C 0)(a:List Raw)(b:List Raw)(c:List Raw)(v2:Nat):KL Tryz.prog (As tl) 61 C (pa [0,0,0,1,0,0,1,0,0,1,0,1,1,1,1] (At Tryz.f51)) [.tmp 4] 0 (w6 a b c v2) (xP a b c v2) Ru nG (Q0 a b c v2):=fun v3 _ m Q d e L=>eN co (Aa [5,6,7,8] Jg) (Aa [5,6,7,8] Jg) e m L
theorem ZEE{C:Cx}(co:CO C 0)(b:List Raw)(c:List Raw):KL Tryz.prog (As tl) 61 C (pa [0,0,1,0,1,1,1,1] (At Tryz.f51)) [.tmp 4] 0 (sV b c) (wc) Ru nG (Nm b c):=fun(e,v2) _ m Q d a L=>mJ co 1 (Aa [5,6,7] Jg) (AD [6]) a m L fun r g=>⟨fun _ m L=>sq (bk 1 (mJ co 1 (Aa [5,6,7,8] Jg) nl a m L fun r g=>fun _ m L=>sq (bk 2 (lo (Et (ZEo co b c e v2) a m L (fun j m=>eN co (Aa [5,6,7] [((1,12),true),((1,46),true)]) nl a m L fun r g=>fun h=>fun f=>fun i=>fun _ m L=>eN co (Aa [5,6,7] Jg) nl a m L)))))),id⟩
theorem ZZv(a:List Raw)(b:List Raw):KC Tryz.prog 51 [vL Au a,vL Au b] (ei a b) Ru:=kC Tryz.func51 Tryz.ntmps51 [.tmp 4] fun co m L=>mJ co 4 (Aa [5,6] Jg) nl nH m L fun r g=>fun _ m L=>sq (mJ co 1 (Aa [5,6,7] Jg) nl nH m L fun r g=>fun _ m L=>bk 0 (cM co (Aa [5,6,7] Jg) m L fun r g=>fun _ m L=>lo (Ax (ZEE co a b) nH m L (fun c m=>fO co m L))))
abbrev Wz:Ad×Blk:=kk 4 35 7 [vI 0,.d (.int .u64 0),vS ⟨#[]⟩,.e0,.e0,.e0,.e0]
abbrev Zj(a:Val):Ad×Blk:=kk 2 35 7 (cD (Ae a))
abbrev Rv:Val×Bool→AV:=fun y=>.tup [.agg ((Ae y.1).map .d),vB y.2]
def s9(a:Val)(b:Int):Nat→St:=fun c=>Ac [(1,vI b),pp 2,pp 4,(6,vN c)] [(Zj a),Wz]
def xG:Unit→Nat×St:=fun _=>(0,Ac [pp 4] [Wz])
def Zi(a:Val)(c:Int)(b:Nat):PT 0 (Lv (Nat) (Unit) (Val×Bool)):=wg<|vz (Ai a.slots)<|br (decide ((b:Int)<(a.slots.length:Int))) (wg<|ix a.slots b fun d=>br (decide (d.num=c)) (wg<|ix a.slots b fun e=>wg<|Ar Rv nG (e.val,true)) (vs (wa b 1)<|ln (s9 a c) (b+1))) (Af (xG) ())
def QW(a:Val)(b:Int):Nat→Option (Lv (Nat) (Unit) (Val×Bool)):=fun c=>(Zi a b c).m
def tA:PT 0 (Val×Bool):=wg<|lr Rv nG ((.mk 0 0 ⟨#[]⟩ [] [] [] []:Val),false)
def uu(a:Val)(b:Int):PT 0 (Val×Bool):=lc (Ac [(1,vI b),pp 2,pp 4,(6,vI 0)] [(Zj a),Wz]) ((Aj (QW a b) Ag 0).bind (Sum.elim (fun _=>(tA).m) some))
def qH(a:Val)(b:Int):PT 0 (Val×Bool):=lc (Ac [(1,vI b),pp 2,pp 4] [(Zj a),Wz]) ((uu a b).m)
def eh(a:Val)(b:Int):Option (Val×Bool):=(qH a b).m
theorem ZEn{C:Cx}(co:CO C 0)(b:Val)(c:Int):KL Tryz.prog (As tl) 29 C (pa [0,0,1,0,1] (At Tryz.f52)) [.cell 4 35,.tmp 5] 0 (s9 b c) (xG) Rv nG (QW b c):=fun e _ m Q a d L=>eN co (Aa [1,2,4,6] CH) (Aa [4] Dl) d m L
theorem dt(a:Val)(b:Int):KC Tryz.prog 52 [.agg ((Ae a).map .d),vI b] (eh a b) Rv:=kC Tryz.func52 Tryz.ntmps52 [.cell 4 35,.tmp 5] fun co m L=>mJ co 1 (Aa [1,2,4] CH) nl nH m L fun r g=>fun _ m L=>sq (mJ co 1 (Aa [1,2,4,6] CH) nl nH m L fun r g=>fun _ m L=>bk 0 (lo (Ax (ZEn co a b) nH m L (fun _ m=>fO co m L))))
abbrev bU:List (Ad×Bool):=[((1,3),false),((1,4),false),((1,5),false)]
abbrev ab(a:Msg):Ad×Blk:=kk 3 56 5 (cD (AH a))
abbrev Zf(a:Fld):Ad×Blk:=kk 4 51 16 (cD (Av a))
abbrev Zp(a:Val):Ad×Blk:=kk 5 35 7 (cD (Ae a))
abbrev Rx:Bool→AV:=fun y=>vB y
def wN(a:Msg)(b:Fld)(c:Val):Nat→St:=fun d=>Ac [pp 3,pp 4,pp 5,(7,vN d)] [(ab a),(Zf b),(Zp c)]
def wF:Unit→Nat×St:=fun _=>(0,Ac [] [])
def Zr(a:Msg)(b:Fld)(e:Val)(c:Nat):PT 0 (Lv (Nat) (Unit) (Bool)):=wg<|vz (Ai a.fields)<|br (decide ((c:Int)<(a.fields.length:Int))) (wg<|ix a.fields c fun d=>wg<|wg<|wg<|cl (dt e d.num) fun f=>wg<|wg<|wg<|wg<|wg<|wg<|br ((((!decide (b.union=(⟨#[]⟩:ByteArray)))&&decide (d.union=b.union))&&(!decide (d.num=b.num)))&&f.2) (Ar Rx nG true) (vs (wa c 1)<|ln (wN a b e) (c+1))) (Af (wF) ())
def Q9(a:Msg)(b:Fld)(c:Val):Nat→Option (Lv (Nat) (Unit) (Bool)):=fun d=>(Zr a b c d).m
def qQ:PT 0 (Bool):=lr Rx nG false
def qU(a:Msg)(b:Fld)(c:Val):PT 0 (Bool):=lc (Ac [pp 3,pp 4,pp 5,(7,vI 0)] [(ab a),(Zf b),(Zp c)]) ((Aj (Q9 a b c) Ag 0).bind (Sum.elim (fun _=>(qQ).m) some))
def wo(a:Msg)(b:Fld)(c:Val):PT 0 (Bool):=lc (Ac [pp 3,pp 4,pp 5] [(ab a),(Zf b),(Zp c)]) ((qU a b c).m)
def dL(a:Msg)(b:Fld)(c:Val):Option (Bool):=(wo a b c).m
theorem ZIy{C:Cx}(co:CO C 0)(b:Msg)(c:Fld)(d:Val):KL Tryz.prog (As tl) 50 C (pa [0,0,1,0,1] (At Tryz.f54)) [.tmp 6] 0 (wN b c d) (wF) Rx nG (Q9 b c d):=fun f _ m Q a e L=>eN co (Aa [3,4,5,7] bU) nl e m L
theorem ZZz(a:Msg)(b:Fld)(c:Val):KC Tryz.prog 54 [.agg ((AH a).map .d),.agg ((Av b).map .d),.agg ((Ae c).map .d)] (dL a b c) Rx:=kC Tryz.func54 Tryz.ntmps54 [.tmp 6] fun co m L=>mJ co 1 (Aa [3,4,5] bU) nl nH m L fun r g=>fun _ m L=>sq (mJ co 1 (Aa [3,4,5,7] bU) nl nH m L fun r g=>fun _ m L=>bk 0 (lo (Ax (ZIy co a b c) nH m L (fun _ m=>fO co m L))))
abbrev Kk:Val→AV:=fun y=>.agg ((Ae y).map .d)
abbrev N4:Val→AV:=fun y=>.agg ((Ae y).map .d)
def p9(e:Scm)(c:Fld)(a:Val)(b:Val)(d:Scm→ByteArray→Val→Val→Option (Val)):PT 0 (Val):=wg<|br (decide (c.card=(4:Int))) (wg<|a0 a.list<|wg<|aq a.list b.list<|wg<|vz (fr (a.list++b.list))<|lr N4 nG (.mk 11 0 ⟨#[]⟩ (a.list++b.list) [] [] []:Val)) (wg<|br (decide (c.card=(5:Int))) (wg<|a0 a.pairs<|wg<|aq a.pairs b.pairs<|vw (.frz 30 [(10,((a.pairs++b.pairs).map Aq)),(34,((a.pairs++b.pairs).map Aq))] [])<|vz (fz (a.pairs++b.pairs))<|vz (fz (a.pairs++b.pairs))<|vw .sep<|cl (ZXb (a.pairs++b.pairs)) fun f=>wg<|lr N4 nG (.mk 12 0 ⟨#[]⟩ [] f [] []:Val)) (wg<|br (decide (c.type.kind=(10:Int))) (wg<|wg<|wg<|wg<|cs Tryz.prog 20 [.agg ((Am e).map .d),vS c.type.name,.agg ((Ae a).map .d),.agg ((Ae b).map .d)] [] [] (d e c.type.name a b) (fun y=>.agg ((Ae y).map .d)) fun g=>wg<|lr N4 nG g) (wg<|wg<|lr N4 nG b)))
def JG(a:Scm→ByteArray→Val→Val→Option (Val))(b:Scm)(c:Fld)(d:Val)(e:Val):Option (Val):=(p9 b c d e a).m
theorem Ej(e:Scm→ByteArray→Val→Val→Option (Val))(f:∀(a:Scm) (b:ByteArray) (c:Val) (d:Val),KC Tryz.prog 20 [.agg ((Am a).map .d),vS b,.agg ((Ae c).map .d),.agg ((Ae d).map .d)] (e a b c d) Kk)(a:Scm)(b:Fld)(c:Val)(d:Val):KC Tryz.prog 53 [.agg ((Am a).map .d),.agg ((Av b).map .d),.agg ((Ae c).map .d),.agg ((Ae d).map .d)] (JG e a b c d) N4:=DO Tryz.func53 Tryz.ntmps53 AS [.cell 8 35] fun C co y m h L=>fO co m L fun r g=>⟨id,⟨fun j=>id,⟨⟨fun y hy i _ _=>by rw[(f a b.type.name c d).x,(f a b.type.name c d).e];exact(f a b.type.name c d).k _ i y hy,fun k=>id⟩,id⟩⟩⟩
end Go.Proofs.YtbcmdieedjamgaaGreat
