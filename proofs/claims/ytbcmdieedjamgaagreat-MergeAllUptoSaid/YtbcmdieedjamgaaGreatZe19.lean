import Derived.Test.YtbcmdieedjamgaaGreatZe18
import Derived.Test.YtbcmdieedjamgaaGreatZe00
namespace Go.Proofs.YtbcmdieedjamgaaGreat
set_option maxRecDepth 100000
set_option linter.all false
open Go Go.Eng
abbrev jg:Bool→AV:=fun y=>vB y
def q8(a:Val):PT 0 (Bool):=wg<|cl (Zi a.kind) fun b=>wg<|wg<|wg<|AH ((b&&decide (a.bits=(0:Int)))&&decide (a.text=(⟨#[]⟩:ByteArray))) (ql a) fun c=>lr jg nG (((b&&decide (a.bits=(0:Int)))&&decide (a.text=(⟨#[]⟩:ByteArray)))&&c)
def bY(a:Val):Option (Bool):=(q8 a).m
theorem ZXy(a:Val):KC Tryz.prog 92 [.agg ((Ae a).map .d)] (bY a) jg:=kC Tryz.func92 Tryz.ntmps92 [.tmp 2] fun co m L=>fO co m L
abbrev QY:Bool→AV:=fun y=>vB y
def tY(b:Fld)(a:Val):PT 0 (Bool):=wg<|br (decide (b.card=(4:Int))) (wg<|vz (Aj a.list)<|lr QY nG (decide ((a.list.length:Int)=(0:Int)))) (wg<|br (decide (b.card=(5:Int))) (wg<|vz (Aj a.pairs)<|lr QY nG (decide ((a.pairs.length:Int)=(0:Int)))) (wg<|wg<|AH (decide (b.card=(3:Int))) (ZXy a) fun c=>lr QY nG (decide (b.card=(3:Int))&&c)))
def cg(a:Fld)(b:Val):Option (Bool):=(tY a b).m
theorem ZXJ(a:Fld)(b:Val):KC Tryz.prog 49 [.agg ((Aw a).map .d),.agg ((Ae b).map .d)] (cg a b) QY:=kC Tryz.func49 Tryz.ntmps49 [.tmp 4] fun co m L=>fO co m L
abbrev Sv:Int→AV:=fun y=>vI y
def lF(a:Int)(b:Int):PT 0 (Int):=br (decide (a<b)) (lr Sv nG (-1)) (br (decide (b<a)) (lr Sv nG 1) (lr Sv nG 0))
def bX(a:Int)(b:Int):Option (Int):=(lF a b).m
theorem JG(a:Int)(b:Int):KC Tryz.prog 155 [vI a,vI b] (bX a b) Sv:=kC Tryz.func155 Tryz.ntmps155 [.tmp 4] fun co m L=>fO co m L
abbrev Jh:Int→AV:=fun y=>vI y
def ZNQ(a:Raw)(b:Raw):PT 0 (Int):=wg<|wg<|br (!decide (a.num=b.num)) (wg<|wg<|cl (JG a.num b.num) fun c=>lr Jh nG c) (wg<|wg<|br (!decide (a.wire=b.wire)) (wg<|wg<|cl (JG a.wire b.wire) fun d=>lr Jh nG d) (wg<|wg<|br (decide (a.bits<b.bits)) (lr Jh nG (-1)) (wg<|wg<|br (decide (b.bits<a.bits)) (lr Jh nG 1) (wg<|wg<|br (BB a.data b.data) (lr Jh nG (-1)) (wg<|wg<|br (!(BB a.data b.data||decide (a.data=b.data))) (lr Jh nG 1) (lr Jh nG 0))))))
def Zfh(a:Raw)(b:Raw):Option (Int):=(ZNQ a b).m
theorem ZTw(a:Raw)(b:Raw):KC Tryz.prog 174 [.agg ((Av a).map .d),.agg ((Av b).map .d)] (Zfh a b) Jh:=kC Tryz.func174 Tryz.ntmps174 [.tmp 4] fun co m L=>fO co m L
abbrev Sl:Int→AV:=fun y=>vI y
def kY(a:List Raw)(b:List Raw):Nat→St:=fun c=>Ac [(0,vL Av a),(1,vL Av b),(5,vN c)] []
def Zzs(a:List Raw)(b:List Raw):Unit→Nat×St:=fun _=>(0,Ac [(0,vL Av a),(1,vL Av b)] [])
def ZLb(b:List Raw)(c:List Raw)(a:Nat):PT 0 (Lv (Nat) (Unit) (Int)):=vz (Aj b)<|vy (decide ((a:Int)<(b.length:Int))) (Aj c)<|br (decide ((a:Int)<(b.length:Int))&&decide ((a:Int)<(c.length:Int))) (ix b a fun e=>ix c a fun f=>cl (ZTw e f) fun d=>br (!decide (d=(0:Int))) (At Sl nG d) (vs (wa a 1)<|ln (kY b c) (a+1))) (Af (Zzs b c) ())
def mf(a:List Raw)(b:List Raw):Nat→Option (Lv (Nat) (Unit) (Int)):=fun c=>(ZLb a b c).m
def ZNE(a:List Raw)(b:List Raw):PT 0 (Int):=vz (Aj a)<|vz (Aj b)<|cl (JG (a.length:Int) (b.length:Int)) fun c=>lr Sl nG c
def ZIG(a:List Raw)(b:List Raw):PT 0 (Int):=lc (Ac [(0,vL Av a),(1,vL Av b),(5,vI 0)] []) ((Ai (mf a b) Ah 0).bind (Sum.elim (fun _=>(ZNE a b).m) some))
def ZQM(a:List Raw)(b:List Raw):PT 0 (Int):=lc (Ac [(0,vL Av a),(1,vL Av b)] []) ((ZIG a b).m)
def Zfa(a:List Raw)(b:List Raw):Option (Int):=(ZQM a b).m
theorem ZyA{C:Cx}(co:CO C 0)(a:List Raw)(b:List Raw):KL Tryz.prog (Ar tl) 36 C (pa [0,0,1,0,1] (As Tryz.f159)) [.tmp 4] 0 (kY a b) (Zzs a b) Sl nG (mf a b):=fun e _ m Q c d L=>eN co (AD [0,1,5]) (AD [0,1]) d m L
theorem ZTr(a:List Raw)(b:List Raw):KC Tryz.prog 159 [vL Av a,vL Av b] (Zfa a b) Sl:=kC Tryz.func159 Tryz.ntmps159 [.tmp 4] fun co m L=>mJ co 1 (AD [0,1]) nl nH m L fun r g=>fun _ m L=>sq (mJ co 1 (AD [0,1,5]) nl nH m L fun r g=>fun _ m L=>bk 0 (lo (Ay (ZyA co a b) nH m L (fun _ m=>fO co m L))))
abbrev wP:Bool→AV:=fun y=>vB y
def ke(a:Int):PT 0 (Bool):=lr wP nG (decide (a=(2:Int))||decide (a=(3:Int)))
def yr(a:Int):Option (Bool):=(ke a).m
theorem ZTn(a:Int):KC Tryz.prog 181 [vI a] (yr a) wP:=kC Tryz.func181 Tryz.ntmps181 [.tmp 2] fun co m L=>fO co m L
abbrev OH:Int→AV:=fun y=>.d (.int .u64 y)
def ee(a:Val):PT 0 (Int):=wg<|vz (wk .u64 (a.bits+9223372036854775808))<|lr OH nG (IntKind.u64.wrap (a.bits+9223372036854775808))
def nw(a:Val):PT 0 (Int):=wg<|cl (ZTn a.kind) fun b=>br b (ee a) (wg<|br (!decide (a.kind=(6:Int))) (wg<|lr OH nG a.bits) (wg<|cl (sw a.bits) fun c=>br (decide (c=(0:Int))) (lr OH nG 18446744073709551615) (wg<|br (decide ((9223372036854775808:Int)≤a.bits)) (wg<|vz (wk .u64 ((18446744073709551615:Int)-a.bits))<|lr OH nG (IntKind.u64.wrap ((18446744073709551615:Int)-a.bits))) (ee a))))
def cE(a:Val):Option (Int):=(nw a).m
theorem Vg(a:Val):KC Tryz.prog 175 [.agg ((Ae a).map .d)] (cE a) OH:=kC Tryz.func175 Tryz.ntmps175 [.tmp 2] fun co m L=>fO co m L
abbrev Hq:Int→AV:=fun y=>vI y
def nW(a:Val)(b:Val):PT 0 (Int):=wg<|wg<|br (decide (a.kind<b.kind)) (lr Hq nG (-1)) (wg<|wg<|br (decide (b.kind<a.kind)) (lr Hq nG 1) (wg<|cl (Zi a.kind) fun c=>br (!c) (lr Hq nG 0) (wg<|cl (Vn a.kind) fun d=>wg<|wg<|br (d&&BB a.text b.text) (lr Hq nG (-1)) (wg<|cl (Vn a.kind) fun e=>wg<|wg<|br (e&&(!(BB a.text b.text||decide (a.text=b.text)))) (lr Hq nG 1) (wg<|cl (Vn a.kind) fun f=>br f (lr Hq nG 0) (wg<|cl (Vg a) fun g=>wg<|cl (Vg b) fun h=>br (decide (g<h)) (lr Hq nG (-1)) (wg<|cl (Vg a) fun i=>wg<|cl (Vg b) fun j=>br (decide (j<i)) (lr Hq nG 1) (lr Hq nG 0))))))))
def cN(a:Val)(b:Val):Option (Int):=(nW a b).m
theorem ZUT(a:Val)(b:Val):KC Tryz.prog 160 [.agg ((Ae a).map .d),.agg ((Ae b).map .d)] (cN a b) Hq:=kC Tryz.func160 Tryz.ntmps160 [.tmp 4] fun co m L=>fO co m L
abbrev Eg:Int→AV:=fun y=>vI y
abbrev R5:Int→AV:=fun y=>vI y
def ZzG(a:List Val)(b:List Val):Nat→St:=fun c=>Ac [(0,vL Az a),(1,vL Az b),(5,vN c)] []
def nf(a:List Val)(b:List Val):Unit→Nat×St:=fun _=>(0,Ac [(0,vL Az a),(1,vL Az b)] [])
def ZOC(b:List Val)(d:List Val)(c:Val→Val→Option (Int))(a:Nat):PT 0 (Lv (Nat) (Unit) (Int)):=vz (Aj b)<|vy (decide ((a:Int)<(b.length:Int))) (Aj d)<|br (decide ((a:Int)<(b.length:Int))&&decide ((a:Int)<(d.length:Int))) (ix b a fun e=>ix d a fun f=>cs Tryz.prog 128 [.agg ((Ae e).map .d),.agg ((Ae f).map .d)] [] [] (c e f) (fun y=>vI y) fun g=>br (!decide (g=(0:Int))) (At R5 nG g) (vs (wa a 1)<|ln (ZzG b d) (a+1))) (Af (nf b d) ())
def kZ(b:List Val)(c:List Val)(a:Val→Val→Option (Int)):Nat→Option (Lv (Nat) (Unit) (Int)):=fun d=>(ZOC b c a d).m
def ZJB(a:List Val)(b:List Val):PT 0 (Int):=vz (Aj a)<|vz (Aj b)<|cl (JG (a.length:Int) (b.length:Int)) fun c=>lr R5 nG c
def ZPi(b:List Val)(c:List Val)(a:Val→Val→Option (Int)):PT 0 (Int):=lc (Ac [(0,vL Az b),(1,vL Az c),(5,vI 0)] []) ((Ai (kZ b c a) Ah 0).bind (Sum.elim (fun _=>(ZJB b c).m) some))
def ZNV(b:List Val)(c:List Val)(a:Val→Val→Option (Int)):PT 0 (Int):=lc (Ac [(0,vL Az b),(1,vL Az c)] []) ((ZPi b c a).m)
def yw(a:Val→Val→Option (Int))(b:List Val)(c:List Val):Option (Int):=(ZNV b c a).m
theorem Zxf{C:Cx}(co:CO C 0)(b:List Val)(c:List Val)(a:Val→Val→Option (Int))(f:∀(b:Val) (c:Val),KC Tryz.prog 128 [.agg ((Ae b).map .d),.agg ((Ae c).map .d)] (a b c) Eg):KL Tryz.prog (Ar tl) 36 C (pa [0,0,1,0,1] (As Tryz.f156)) [.tmp 4] 0 (ZzG b c) (nf b c) R5 nG (kZ b c a):=fun k _ m Q h j L=>eN co (AD [0,1,5]) (AD [0,1]) j m L fun r g=>⟨fun d=>fun e=>⟨fun y hy i _ _=>by rw[(f d e).x,(f d e).e];exact(f d e).k _ i y hy,fun l=>⟨id,id⟩⟩,id⟩
theorem XM(a:Val→Val→Option (Int))(d:∀(b:Val) (c:Val),KC Tryz.prog 128 [.agg ((Ae b).map .d),.agg ((Ae c).map .d)] (a b c) Eg)(b:List Val)(c:List Val):KC Tryz.prog 156 [vL Az b,vL Az c] (yw a b c) R5:=kC Tryz.func156 Tryz.ntmps156 [.tmp 4] fun co m L=>mJ co 1 (AD [0,1]) nl nH m L fun r g=>fun _ m L=>sq (mJ co 1 (AD [0,1,5]) nl nH m L fun r g=>fun _ m L=>bk 0 (lo (Ay (Zxf co b c a d) nH m L (fun _ m=>fO co m L))))
abbrev OF:Int→AV:=fun y=>vI y
def kR(a:List Pr)(b:List Pr):Nat→St:=fun c=>Ac [(0,vL Ap a),(1,vL Ap b),(5,vN c)] []
def k9(a:List Pr)(b:List Pr):Unit→Nat×St:=fun _=>(0,Ac [(0,vL Ap a),(1,vL Ap b)] [])
def ZQZ(c:List Pr)(d:List Pr)(b:Val→Val→Option (Int))(a:Nat):PT 0 (Lv (Nat) (Unit) (Int)):=vz (Aj c)<|vy (decide ((a:Int)<(c.length:Int))) (Aj d)<|br (decide ((a:Int)<(c.length:Int))&&decide ((a:Int)<(d.length:Int))) (ix c a fun e=>ix d a fun f=>cs Tryz.prog 128 [.agg ((Ae e.key).map .d),.agg ((Ae f.key).map .d)] [] [] (b e.key f.key) (fun y=>vI y) fun i=>br (!decide (i=(0:Int))) (At OF nG i) (ix c a fun g=>ix d a fun h=>cs Tryz.prog 128 [.agg ((Ae g.val).map .d),.agg ((Ae h.val).map .d)] [] [] (b g.val h.val) (fun y=>vI y) fun j=>br (!decide (j=(0:Int))) (At OF nG j) (vs (wa a 1)<|ln (kR c d) (a+1)))) (Af (k9 c d) ())
def kT(b:List Pr)(c:List Pr)(a:Val→Val→Option (Int)):Nat→Option (Lv (Nat) (Unit) (Int)):=fun d=>(ZQZ b c a d).m
def ZMO(a:List Pr)(b:List Pr):PT 0 (Int):=vz (Aj a)<|vz (Aj b)<|cl (JG (a.length:Int) (b.length:Int)) fun c=>lr OF nG c
def ZJ8(b:List Pr)(c:List Pr)(a:Val→Val→Option (Int)):PT 0 (Int):=lc (Ac [(0,vL Ap b),(1,vL Ap c),(5,vI 0)] []) ((Ai (kT b c a) Ah 0).bind (Sum.elim (fun _=>(ZMO b c).m) some))
def ZLN(b:List Pr)(c:List Pr)(a:Val→Val→Option (Int)):PT 0 (Int):=lc (Ac [(0,vL Ap b),(1,vL Ap c)] []) ((ZJ8 b c a).m)
def yx(a:Val→Val→Option (Int))(b:List Pr)(c:List Pr):Option (Int):=(ZLN b c a).m
theorem ZxJ{C:Cx}(co:CO C 0)(c:List Pr)(d:List Pr)(a:Val→Val→Option (Int))(b:∀(c:Val) (d:Val),KC Tryz.prog 128 [.agg ((Ae c).map .d),.agg ((Ae d).map .d)] (a c d) Eg):KL Tryz.prog (Ar tl) 53 C (pa [0,0,1,0,1] (As Tryz.f157)) [.tmp 4] 0 (kR c d) (k9 c d) OF nG (kT c d a):=fun n _ m Q k l L=>eN co (AD [0,1,5]) (AD [0,1]) l m L fun r g=>⟨fun f=>fun h=>⟨fun y hy e _ _=>by rw[(b f.key h.key).x,(b f.key h.key).e];exact(b f.key h.key).k _ e y hy,fun o=>⟨id,fun i=>fun j=>⟨fun y hy e _ _=>by rw[(b i.val j.val).x,(b i.val j.val).e];exact(b i.val j.val).k _ e y hy,fun p=>⟨id,id⟩⟩⟩⟩,id⟩
theorem Z7(a:Val→Val→Option (Int))(d:∀(b:Val) (c:Val),KC Tryz.prog 128 [.agg ((Ae b).map .d),.agg ((Ae c).map .d)] (a b c) Eg)(b:List Pr)(c:List Pr):KC Tryz.prog 157 [vL Ap b,vL Ap c] (yx a b c) OF:=kC Tryz.func157 Tryz.ntmps157 [.tmp 4] fun co m L=>mJ co 1 (AD [0,1]) nl nH m L fun r g=>fun _ m L=>sq (mJ co 1 (AD [0,1,5]) nl nH m L fun r g=>fun _ m L=>bk 0 (lo (Ay (ZxJ co b c a d) nH m L (fun _ m=>fO co m L))))
abbrev Oh:Int→AV:=fun y=>vI y
def kV(a:List Slt)(b:List Slt):Nat→St:=fun c=>Ac [(0,vL Aq a),(1,vL Aq b),(5,vN c)] []
def lN(a:List Slt)(b:List Slt):Unit→Nat×St:=fun _=>(0,Ac [(0,vL Aq a),(1,vL Aq b)] [])
def ZIO(b:List Slt)(c:List Slt)(d:Val→Val→Option (Int))(a:Nat):PT 0 (Lv (Nat) (Unit) (Int)):=vz (Aj b)<|vy (decide ((a:Int)<(b.length:Int))) (Aj c)<|br (decide ((a:Int)<(b.length:Int))&&decide ((a:Int)<(c.length:Int))) (ix b a fun i=>ix c a fun j=>cl (JG i.num j.num) fun g=>br (!decide (g=(0:Int))) (At Oh nG g) (ix b a fun e=>ix c a fun f=>cs Tryz.prog 128 [.agg ((Ae e.val).map .d),.agg ((Ae f.val).map .d)] [] [] (d e.val f.val) (fun y=>vI y) fun h=>br (!decide (h=(0:Int))) (At Oh nG h) (vs (wa a 1)<|ln (kV b c) (a+1)))) (Af (lN b c) ())
def nP(b:List Slt)(c:List Slt)(a:Val→Val→Option (Int)):Nat→Option (Lv (Nat) (Unit) (Int)):=fun d=>(ZIO b c a d).m
def ZMp(a:List Slt)(b:List Slt):PT 0 (Int):=vz (Aj a)<|vz (Aj b)<|cl (JG (a.length:Int) (b.length:Int)) fun c=>lr Oh nG c
def ZLy(b:List Slt)(c:List Slt)(a:Val→Val→Option (Int)):PT 0 (Int):=lc (Ac [(0,vL Aq b),(1,vL Aq c),(5,vI 0)] []) ((Ai (nP b c a) Ah 0).bind (Sum.elim (fun _=>(ZMp b c).m) some))
def ZOo(b:List Slt)(c:List Slt)(a:Val→Val→Option (Int)):PT 0 (Int):=lc (Ac [(0,vL Aq b),(1,vL Aq c)] []) ((ZLy b c a).m)
def yt(a:Val→Val→Option (Int))(b:List Slt)(c:List Slt):Option (Int):=(ZOo b c a).m
theorem Zyu{C:Cx}(co:CO C 0)(b:List Slt)(c:List Slt)(a:Val→Val→Option (Int))(f:∀(b:Val) (c:Val),KC Tryz.prog 128 [.agg ((Ae b).map .d),.agg ((Ae c).map .d)] (a b c) Eg):KL Tryz.prog (Ar tl) 53 C (pa [0,0,1,0,1] (As Tryz.f158)) [.tmp 4] 0 (kV b c) (lN b c) Oh nG (nP b c a):=fun n _ m Q h j L=>eN co (AD [0,1,5]) (AD [0,1]) j m L fun r g=>⟨fun k=>fun l=>fun o=>⟨id,fun d=>fun e=>⟨fun y hy i _ _=>by rw[(f d.val e.val).x,(f d.val e.val).e];exact(f d.val e.val).k _ i y hy,fun p=>⟨id,id⟩⟩⟩,id⟩
theorem Zs(a:Val→Val→Option (Int))(d:∀(b:Val) (c:Val),KC Tryz.prog 128 [.agg ((Ae b).map .d),.agg ((Ae c).map .d)] (a b c) Eg)(b:List Slt)(c:List Slt):KC Tryz.prog 158 [vL Aq b,vL Aq c] (yt a b c) Oh:=kC Tryz.func158 Tryz.ntmps158 [.tmp 4] fun co m L=>mJ co 1 (AD [0,1]) nl nH m L fun r g=>fun _ m L=>sq (mJ co 1 (AD [0,1,5]) nl nH m L fun r g=>fun _ m L=>bk 0 (lo (Ay (Zyu co b c a d) nH m L (fun _ m=>fO co m L))))
def nj(a:Val)(c:Val)(b:Val→Val→Option (Int)):PT 0 (Int):=wg<|wg<|br (!decide (a.kind=c.kind)) (wg<|wg<|cl (JG a.kind c.kind) fun e=>lr Eg nG e) (wg<|br (decide (a.kind=(11:Int))) (wg<|wg<|cs Tryz.prog 156 [vL Az a.list,vL Az c.list] [] [] (yw b a.list c.list) (fun y=>vI y) fun f=>lr Eg nG f) (br (decide (a.kind=(12:Int))) (wg<|wg<|cs Tryz.prog 157 [vL Ap a.pairs,vL Ap c.pairs] [] [] (yx b a.pairs c.pairs) (fun y=>vI y) fun g=>lr Eg nG g) (br (decide (a.kind=(10:Int))) (wg<|wg<|cs Tryz.prog 158 [vL Aq a.slots,vL Aq c.slots] [] [] (yt b a.slots c.slots) (fun y=>vI y) fun d=>br (!decide (d=(0:Int))) (lr Eg nG d) (wg<|wg<|cl (ZTr a.raws c.raws) fun h=>lr Eg nG h)) (wg<|wg<|cl (ZUT a c) fun i=>lr Eg nG i))))
def VI(a:Val→Val→Option (Int))(b:Val)(c:Val):Option (Int):=(nj b c a).m
theorem ZKJ(a:Val→Val→Option (Int))(d:∀(b:Val) (c:Val),KC Tryz.prog 128 [.agg ((Ae b).map .d),.agg ((Ae c).map .d)] (a b c) Eg)(b:Val)(c:Val):KC Tryz.prog 128 [.agg ((Ae b).map .d),.agg ((Ae c).map .d)] (VI a b c) Eg:=DM Tryz.func128 Tryz.ntmps128 AU [.tmp 4] fun C co y m f L=>fO co m L fun r g=>⟨fun h=>id,⟨⟨fun y hy e _ _=>by rw[(XM a d b.list c.list).x,(XM a d b.list c.list).e];exact(XM a d b.list c.list).k _ e y hy,fun i=>id⟩,⟨⟨fun y hy e _ _=>by rw[(Z7 a d b.pairs c.pairs).x,(Z7 a d b.pairs c.pairs).e];exact(Z7 a d b.pairs c.pairs).k _ e y hy,fun j=>id⟩,⟨⟨fun y hy e _ _=>by rw[(Zs a d b.slots c.slots).x,(Zs a d b.slots c.slots).e];exact(Zs a d b.slots c.slots).k _ e y hy,fun k=>⟨id,fun l=>id⟩⟩,fun n=>id⟩⟩⟩⟩
def O4:Nat→Val→Val→Option (Int)
 |0=>fun _ _=>none
 |a+1=>VI (O4 a)
theorem Z2:∀(c:Nat) (a:Val) (b:Val),KC Tryz.prog 128 [.agg ((Ae a).map .d),.agg ((Ae b).map .d)] (O4 c a b) Eg
 |0,a,b=>⟨fun _ _ _ h=>(by cases h),by intro r;kernel_rfl,by intro r y;kernel_rfl⟩
 |c+1,a,b=>ZKJ (O4 c) (Z2 c) a b
abbrev NM:List Pr→AV:=fun y=>vL Ap y
def XR(a:List Pr):List Pr×Nat→St:=fun(b,v2)=>Ac [(0,vL Ap a),(3,vL Ap b),(4,vN v2)] []
def o7:List Pr→Nat×St:=fun a=>(0,Ac [(3,vL Ap a)] [])
def oC(a:List Pr)(b:List Pr)(v2:Nat):Bool×Nat→St:=fun(v3,v4)=>Ac [(0,vL Ap a),(3,vL Ap b),(4,vN v2),(5,vB v3),(6,vN v4)] []
def oY(a:List Pr)(b:List Pr)(v2:Nat):Bool→Nat×St:=fun c=>(2,Ac [(0,vL Ap a),(3,vL Ap b),(4,vN v2),(5,vB c)] [])
def ZM(a:List Pr)(b:List Pr)(v2:Nat)(v3:Bool)(v4:Nat):PT 0 (Lv (Bool×Nat) (Bool) (List Pr)):=vz (Aj a)<|br (decide ((v4:Int)<(a.length:Int))) (AR v3 a (v2:Int) fun c=>AR v3 a (v4:Int) fun d=>AH v3 (Z2 Ah c.key d.key) fun e=>vs (wa v4 1)<|ln (oC a b v2) ((v3&&(!decide (e=(0:Int)))),v4+1)) (Af (oY a b v2) v3)
def M6(a:List Pr)(b:List Pr)(v2:Nat):Bool×Nat→Option (Lv (Bool×Nat) (Bool) (List Pr)):=fun(v3,v4)=>(ZM a b v2 v3 v4).m
def pZ(a:List Pr)(b:List Pr)(v2:Nat):Nat→St:=fun v9=>Ac [(0,vL Ap a),(3,vL Ap b),(4,vN v2),(7,vN v9)] []
def o0(b:List Pr)(c:List Pr)(v2:Nat):Nat→Nat×St:=fun a=>(4,Ac [(0,vL Ap b),(3,vL Ap c),(4,vN v2),(7,vN a)] [])
def X5(c:List Pr)(v1:List Pr)(v2:Nat)(v9:Nat):PT 0 (Lv (Nat) (Nat) (List Pr)):=vz (Aj v1)<|AR (decide ((v9:Int)<(v1.length:Int))) v1 (v9:Int) fun a=>AR (decide ((v9:Int)<(v1.length:Int))) c (v2:Int) fun b=>AH (decide ((v9:Int)<(v1.length:Int))) (Z2 Ah a.key b.key) fun d=>br (decide ((v9:Int)<(v1.length:Int))&&decide (d<(0:Int))) (vs (wa v9 1)<|ln (pZ c v1 v2) (v9+1)) (Af (o0 c v1 v2) v9)
def Nf(a:List Pr)(b:List Pr)(v2:Nat):Nat→Option (Lv (Nat) (Nat) (List Pr)):=fun v9=>(X5 a b v2 v9).m
def XW(d:List Pr)(v2:Nat)(a:Pr)(b:List Pr)(c:List Pr):PT 0 (Lv (List Pr×Nat) (List Pr) (List Pr)):=vs (wa v2 1)<|vw (.frz 72 [(3,((c++(([a]:List Pr)++b)).map Ap))] [])<|vz (fz (c++(([a]:List Pr)++b)))<|ln (XR d) (c++(([a]:List Pr)++b),v2+1)
def X8(e:List Pr)(f:List Pr)(v2:Nat)(d:Nat)(b:Pr)(c:List Pr):PT 0 (Lv (List Pr×Nat) (List Pr) (List Pr)):=sL f .no (.nt d) fun a=>a0 a<|ar a (([b]:List Pr)++c) (1,63) 0<|vz (fl (a++(([b]:List Pr)++c)))<|lc (Ac [(0,vL Ap e),(3,.ref (1,72) 0 0 (a++(([b]:List Pr)++c)).length),(4,vN v2)] [kk 72 63 14 (Aa Ap (a++(([b]:List Pr)++c)))]) ((XW e v2 b c a).m)
def Wi(d:List Pr)(e:List Pr)(v2:Nat)(c:Nat):PT 0 (Lv (List Pr×Nat) (List Pr) (List Pr)):=ix d v2 fun a=>sL e (.nt c) .no fun b=>wg<|iw (a:Pr) b<|vz (fl (([a]:List Pr)++b))<|lc (Ac [(0,vL Ap d),(3,vL Ap e),(4,vN v2),(7,vN c),(8,.ref (1,63) 0 0 (([a]:List Pr)++b).length)] [kk 63 63 14 (Aa Ap (([a]:List Pr)++b))]) ((X8 d e v2 c a b).m)
def Z4(a:List Pr)(b:List Pr)(v2:Nat):PT 0 (Lv (List Pr×Nat) (List Pr) (List Pr)):=lc (Ac [(0,vL Ap a),(3,vL Ap b),(4,vN v2),(7,vI 0)] []) ((Ai (Nf a b v2) Ah 0).bind (Sum.elim (fun c=>(Wi a b v2 c).m) (fun z=>some (.rt z))))
def X7(a:List Pr)(b:List Pr)(v2:Nat):PT 0 (Lv (List Pr×Nat) (List Pr) (List Pr)):=vs (wa v2 1)<|ln (XR a) (b,v2+1)
def ZP(a:List Pr)(b:List Pr)(v2:Nat):PT 0 (Lv (List Pr×Nat) (List Pr) (List Pr)):=lc (Ac [(0,vL Ap a),(3,vL Ap b),(4,vN v2)] []) ((X7 a b v2).m)
def XH(a:List Pr)(b:List Pr)(v2:Nat)(c:Bool):PT 0 (Lv (List Pr×Nat) (List Pr) (List Pr)):=lc (Ac [(0,vL Ap a),(3,vL Ap b),(4,vN v2),(38,vB c)] []) (if c=true then(Z4 a b v2).m else(ZP a b v2).m)
def fK(a:List Pr)(b:List Pr)(v2:Nat):PT 0 (Lv (List Pr×Nat) (List Pr) (List Pr)):=vs (wa v2 1)<|lc (Ac [(0,vL Ap a),(3,vL Ap b),(4,vN v2),(5,vB true),(6,vN (v2+1))] []) ((Ai (M6 a b v2) Ah (true,v2+1)).bind (Sum.elim (fun c=>(XH a b v2 c).m) (fun z=>some (.rt z))))
def hP(a:List Pr)(b:List Pr)(v2:Nat):PT 0 (Lv (List Pr×Nat) (List Pr) (List Pr)):=lc (Ac [(0,vL Ap a),(3,vL Ap b),(4,vN v2),(5,vB true)] []) ((fK a b v2).m)
def gE(a:List Pr)(b:List Pr)(v2:Nat):PT 0 (Lv (List Pr×Nat) (List Pr) (List Pr)):=vz (Aj a)<|br (decide ((v2:Int)<(a.length:Int))) (lc (Ac [(0,vL Ap a),(3,vL Ap b),(4,vN v2)] []) ((hP a b v2).m)) (Af (o7) b)
def QJ(a:List Pr):List Pr×Nat→Option (Lv (List Pr×Nat) (List Pr) (List Pr)):=fun(b,v2)=>(gE a b v2).m
def mW(a:List Pr):PT 0 (List Pr):=lr NM nG a
def nE(b:List Pr):PT 0 (List Pr):=vw (.ads 3 3 63 14)<|vw (.frz 3 [(3,(([]:List Pr).map Ap))] [])<|vz (fz ([]:List Pr))<|lc (Ac [(0,vL Ap b),(3,vL Ap ([]:List Pr)),(4,vI 0)] []) ((Ai (QJ b) Ah (([]:List Pr),0)).bind (Sum.elim (fun a=>(mW a).m) some))
def Zz2(a:List Pr):PT 0 (List Pr):=lc (Ac [(0,vL Ap a),(3,.e0),(4,vI 0)] []) ((nE a).m)
def ZzA(a:List Pr):PT 0 (List Pr):=lc (Ac [(0,vL Ap a),(3,.e0)] []) ((Zz2 a).m)
def cX(a:List Pr):Option (List Pr):=(ZzA a).m
theorem ZHu{C:Cx}(co:CO C 0)(a:List Pr)(b:List Pr)(v2:Nat):KL Tryz.prog (Ar tl) 76 C (pa [0,0,1,0,1,0,0,1,0,0,1,0,1,1] (As Tryz.f95)) [.tmp 2] 0 (oC a b v2) (oY a b v2) NM nG (M6 a b v2):=fun(v3,v4) _ m Q c d L=>eN co (AD [0,3,4,5,6]) (AD [0,3,4,5]) d m L
theorem ZF4{C:Cx}(co:CO C 0)(a:List Pr)(b:List Pr)(v2:Nat):KL Tryz.prog (Ar tl) 76 C (pa [0,0,0,1,0,1,1,1,0,0,1,0,0,1,0,1,1] (As Tryz.f95)) [.tmp 2] 0 (pZ a b v2) (o0 a b v2) NM nG (Nf a b v2):=fun v9 _ m Q c d L=>eN co (AD [0,3,4,7]) (AD [0,3,4,7]) d m L
theorem ZH4{C:Cx}(co:CO C 0)(b:List Pr):KL Tryz.prog (Ar tl) 76 C (pa [0,0,1,0,1,1] (As Tryz.f95)) [.tmp 2] 0 (XR b) (o7) NM nG (QJ b):=fun(c,v2) _ m Q e a L=>mJ co 1 (AD [0,3,4]) (AD [3]) a m L fun r g=>⟨fun _ m L=>sq (bk 1 (mJ co 1 (AD [0,3,4,5]) nl a m L fun r g=>fun _ m L=>sq (mJ co 1 (AD [0,3,4,5,6]) nl a m L fun r g=>fun _ m L=>bk 2 (lo (Ej (ZHu co b c v2) a m L (fun j m=>mJ co 1 (AD [0,3,4,38]) nl a m L fun r g=>fun _ m L=>Bg m (fun m=>mJ co 1 (AD [0,3,4,7]) nl a m L fun r g=>fun _ m L=>sq (bk 4 (lo (Ej (ZF4 co b c v2) a m L (fun d m=>sq (F5 co AU BN (.fst 0 (.fst 1 (.fst 2 (.fst 5 (.fst 6 (.fst 7 (.fst 3 (.fst 4 (.fst 8 (.fst 9 .nil)))))))))) [] (Wi b c v2 d) (Ab [0,3,4,7,8] [((1,63),true)]) m L fun r g=>fun f=>fun h=>fun _ m L=>eN co (Ab [0,3,4] [((1,72),true)]) nl a m L fun r g=>fun i=>fun _ m L=>eN co (AD [0,3,4]) nl a m L)))))) (fun m=>eN co (AD [0,3,4]) nl a m L fun r g=>fun _ m L=>eN co (AD [0,3,4]) nl a m L))))))),id⟩
theorem xE(a:List Pr):KC Tryz.prog 95 [vL Ap a] (cX a) NM:=kC Tryz.func95 Tryz.ntmps95 [.tmp 2] fun co m L=>mJ co 2 (AD [0,3]) nl nH m L fun r g=>fun _ m L=>sq (mJ co 1 (AD [0,3,4]) nl nH m L fun r g=>fun _ m L=>bk 0 (cM co (AD [0,3,4]) m L fun r g=>fun _ m L=>lo (Ay (ZH4 co a) nH m L (fun b m=>fO co m L))))
abbrev DN:Val→AV:=fun y=>.agg ((Ae y).map .d)
abbrev Kx:List (Ad×Bool):=[((1,6),false),((1,7),false),((1,9),false),((1,11),false),((1,1095),true)]
abbrev RT:List (Ad×Bool):=[((1,6),false),((1,7),false),((1,9),false),((1,1095),true)]
abbrev It:List (Ad×Bool):=[((1,6),false),((1,9),false),((1,1095),true)]
abbrev yd:List (Ad×Bool):=[((1,3),false),((1,5),false),((1,6),false),((1,7),false),((1,9),false)]
abbrev CG:Ad×Blk:=kk 6 35 7 [vI 0,.d (.int .u64 0),vS ⟨#[]⟩,.e0,.e0,.e0,.e0]
abbrev FS(a:Msg×Bool):Ad×Blk:=kk 7 56 5 (cD (AK a.1))
abbrev Hh(a:List Slt):Ad×Blk:=kk 1095 58 8 (Aa Aq a)
abbrev Np(a:Fld):Ad×Blk:=kk 11 51 16 (cD (Aw a))
abbrev QH(b:List Slt)(a:List Raw):Ad×Blk:=kk 9 35 7 [vI 10,.d (.int .u64 0),vS ⟨#[]⟩,.e0,.e0,.ref (1,1095) 0 0 b.length,vL Av a]
abbrev Wg(a:List Slt):Ad×Blk:=kk 9 35 7 [vI 10,.d (.int .u64 0),vS ⟨#[]⟩,.e0,.e0,.ref (1,1095) 0 0 a.length,.e0]
abbrev Z3(a:List Slt):Ad×Blk:=kk 9 35 7 [vI 10,.d (.int .u64 0),vS ⟨#[]⟩,.e0,.e0,.ref (1,1095) 0 0 a.length,.e0]
abbrev r8(a:List Slt):Ad×Blk:=kk 9 35 7 [vI 10,.d (.int .u64 0),vS ⟨#[]⟩,.e0,.e0,.ref (1,1095) 0 0 a.length,.e0]
abbrev tE(a:Scm):Ad×Blk:=kk 3 26 3 (cD (Al a))
abbrev qS(a:Val):Ad×Blk:=kk 5 35 7 (cD (Ae a))
abbrev rN:Ad×Blk:=kk 9 35 7 [vI 10,.d (.int .u64 0),vS ⟨#[]⟩,.e0,.e0,.e0,.e0]
def ZUl:Pl:=(.opt [1,12] 1 (.fst 12 (.fst 13 (.fst 14 (.fst 15 (.fst 16 (.fst 17 .nil)))))) (.opt [1,12] 12 (.fst 13 (.fst 1 (.fst 14 (.fst 15 (.fst 16 (.fst 17 .nil)))))) .nil))
def ZUt:Pl:=(.opt [3,12] 3 (.fst 12 (.fst 13 (.fst 14 (.fst 15 (.fst 16 (.fst 17 .nil)))))) (.opt [3,12] 12 (.fst 3 (.fst 13 (.fst 14 (.fst 15 (.fst 16 (.fst 17 .nil)))))) .nil))
def ZTm:Pl:=(.opt [1,3,12] 1 ZUt (.opt [1,3,12] 3 ZUl (.opt [1,3,12] 12 (.fst 1 (.fst 3 (.fst 13 (.fst 14 (.fst 15 (.fst 16 (.fst 17 .nil))))))) .nil)))
abbrev LC:Val→AV:=fun y=>.agg ((Ae y).map .d)
def px(b:Scm)(c:Val)(d:Msg×Bool):Nat×List Slt→St:=fun(v2,a)=>Ac [(3,.iptr (Al b) 0),(5,.iptr (Ae c) 0),pp 6,pp 7,pp 9,(10,vN v2)] [CG,(FS d),(Z3 a),kk 1095 58 8 (Aa Aq a)]
def uX(b:Val):List Slt→Nat×St:=fun a=>(0,Ac [(5,.iptr (Ae b) 0),pp 6,pp 9] [CG,(r8 a),(Hh a)])
def ZA(c:Scm)(d:Val)(f:Msg×Bool)(v2:Nat)(b:Fld):Nat×List Slt→St:=fun(e,a)=>Ac [(3,.iptr (Al c) 0),(5,.iptr (Ae d) 0),pp 6,pp 7,pp 9,(10,vN v2),pp 11,(12,vN e)] [CG,(FS f),(Wg a),(Np b),kk 1095 58 8 (Aa Aq a)]
def uO(b:Scm)(c:Val)(d:Msg×Bool)(v2:Nat):List Slt→Nat×St:=fun a=>(2,Ac [(3,.iptr (Al b) 0),(5,.iptr (Ae c) 0),pp 6,pp 7,pp 9,(10,vN v2)] [CG,(FS d),kk 9 35 7 [vI 10,.d (.int .u64 0),vS ⟨#[]⟩,.e0,.e0,.ref (1,1095) 0 0 a.length,.e0],kk 1095 58 8 (Aa Aq a)])
def XQ(e:Scm)(f:Val)(g:Msg×Bool)(v2:Nat)(b:Fld)(d:Nat)(c:List Slt)(a:Val):PT 0 (Lv (Nat×List Slt) (List Slt) (Val)):=vs (wa d 1)<|vz (fl (c++([(.mk b.num a:Slt)])))<|ln (ZA e f g v2 b) (d+1,c++([(.mk b.num a:Slt)]))
def JK(d:Scm)(e:Val)(g:Msg×Bool)(v2:Nat)(b:Fld)(f:Nat)(c:List Slt)(a:Val):PT 0 (Lv (Nat×List Slt) (List Slt) (Val)):=vz (fl (c++([(.mk b.num a:Slt)])))<|lc (Ac [(3,.iptr (Al d) 0),(5,.iptr (Ae e) 0),pp 6,pp 7,pp 9,(10,vN v2),pp 11,(12,vN f)] [CG,(FS g),kk 9 35 7 [vI 10,.d (.int .u64 0),vS ⟨#[]⟩,.e0,.e0,.ref (1,1095) 0 0 (c++([(.mk b.num a:Slt)])).length,.e0],(Np b),kk 1095 58 8 (Aa Aq (c++([(.mk b.num a:Slt)])))]) ((XQ d e g v2 b f c a).m)
def Vu(d:Scm)(g:Val)(e:Scm→Fld→Val→Option (Val))(i:Msg×Bool)(v2:Nat)(c:Fld)(h:Nat)(f:List Slt)(b:Slt):PT 0 (Lv (Nat×List Slt) (List Slt) (Val)):=tw (wg<|cs Tryz.prog 50 [.agg ((Al d).map .d),.agg ((Aw c).map .d),.agg ((Ae b.val).map .d)] [] [] (e d c b.val) (fun y=>.agg ((Ae y).map .d)) fun a=>vw .sep<|ap f ((.mk c.num a:Slt):Slt)<|wg<|(JK d g i v2 c h f a)) (cs Tryz.prog 50 [.agg ((Al d).map .d),.agg ((Aw c).map .d),.agg ((Ae b.val).map .d)] [] [] (e d c b.val) (fun y=>.agg ((Ae y).map .d)) fun a=>wg<|vw .sep<|ap f ((.mk c.num a:Slt):Slt)<|wg<|(JK d g i v2 c h f a))
def Wz(d:Scm)(g:Val)(e:Scm→Fld→Val→Option (Val))(i:Msg×Bool)(v2:Nat)(c:Fld)(h:Nat)(f:List Slt)(b:Slt):PT 0 (Lv (Nat×List Slt) (List Slt) (Val)):=tw (wg<|cs Tryz.prog 50 [.agg ((Al d).map .d),.agg ((Aw c).map .d),.agg ((Ae b.val).map .d)] [] [] (e d c b.val) (fun y=>.agg ((Ae y).map .d)) fun a=>vw .sep<|ap f ((.mk c.num a:Slt):Slt)<|wg<|(JK d g i v2 c h f a)) (cs Tryz.prog 50 [.agg ((Al d).map .d),.agg ((Aw c).map .d),.agg ((Ae b.val).map .d)] [] [] (e d c b.val) (fun y=>.agg ((Ae y).map .d)) fun a=>wg<|vw .sep<|ap f ((.mk c.num a:Slt):Slt)<|wg<|(JK d g i v2 c h f a))
def VT(d:Scm)(g:Val)(b:Scm→Fld→Val→Option (Val))(i:Msg×Bool)(v2:Nat)(c:Fld)(h:Nat)(f:List Slt)(a:Slt):PT 0 (Lv (Nat×List Slt) (List Slt) (Val)):=tw (wg<|(Vu d g b i v2 c h f a)) (tw (wg<|(Wz d g b i v2 c h f a)) (cs Tryz.prog 50 [.agg ((Al d).map .d),.agg ((Aw c).map .d),.agg ((Ae a.val).map .d)] [] [] (b d c a.val) (fun y=>.agg ((Ae y).map .d)) fun e=>wg<|wg<|vw .sep<|ap f ((.mk c.num e:Slt):Slt)<|wg<|(JK d g i v2 c h f e)))
def Vv(f:Scm)(c:Val)(a:Scm→Fld→Val→Option (Val))(h:Msg×Bool)(v2:Nat)(e:Fld)(d:Nat)(g:List Slt):PT 0 (Lv (Nat×List Slt) (List Slt) (Val)):=ix c.slots d fun b=>wg<|(VT f c a h v2 e d g b)
def gV(d:Scm)(e:Val)(f:Msg×Bool)(v2:Nat)(c:Fld)(b:Nat)(a:List Slt):PT 0 (Lv (Nat×List Slt) (List Slt) (Val)):=vs (wa b 1)<|vz (fl a)<|ln (ZA d e f v2 c) (b+1,a)
def ge(c:Scm)(d:Val)(f:Msg×Bool)(v2:Nat)(b:Fld)(e:Nat)(a:List Slt):PT 0 (Lv (Nat×List Slt) (List Slt) (Val)):=vz (fl a)<|lc (Ac [(3,.iptr (Al c) 0),(5,.iptr (Ae d) 0),pp 6,pp 7,pp 9,(10,vN v2),pp 11,(12,vN e)] [CG,(FS f),(Wg a),(Np b),kk 1095 58 8 (Aa Aq a)]) ((gV c d f v2 b e a).m)
def ia(g:Scm)(b:Val)(f:Scm→Fld→Val→Option (Val))(h:Msg×Bool)(v2:Nat)(a:Fld)(d:Nat)(c:List Slt):PT 0 (Lv (Nat×List Slt) (List Slt) (Val)):=ix b.slots d fun e=>wg<|wg<|AR (decide (e.num=a.num)) b.slots (d:Int) fun j=>AH (decide (e.num=a.num)) (ZXJ a j.val) fun i=>vz (fl c)<|lc (Ac [(3,.iptr (Al g) 0),(5,.iptr (Ae b) 0),pp 6,pp 7,pp 9,(10,vN v2),pp 11,(12,vN d),(61,vB (decide (e.num=a.num)&&(!i)))] [CG,(FS h),(Wg c),(Np a),kk 1095 58 8 (Aa Aq c)]) (if(decide (e.num=a.num)&&(!i))=true then(Vv g b f h v2 a d c).m else(ge g b h v2 a d c).m)
def fN(d:Scm)(b:Val)(c:Scm→Fld→Val→Option (Val))(f:Msg×Bool)(v2:Nat)(g:Fld)(e:Nat)(a:List Slt):PT 0 (Lv (Nat×List Slt) (List Slt) (Val)):=vz (Aj b.slots)<|br (decide ((e:Int)<(b.slots.length:Int))) (vz (fl a)<|lc (Ac [(3,.iptr (Al d) 0),(5,.iptr (Ae b) 0),pp 6,pp 7,pp 9,(10,vN v2),pp 11,(12,vN e)] [CG,(FS f),(Wg a),(Np g),kk 1095 58 8 (Aa Aq a)]) ((ia d b c f v2 g e a).m)) (vz (fl a)<|Af (uO d b f v2) a)
def QI(c:Scm)(d:Val)(a:Scm→Fld→Val→Option (Val))(g:Msg×Bool)(v2:Nat)(b:Fld):Nat×List Slt→Option (Lv (Nat×List Slt) (List Slt) (Val)):=fun(f,e)=>(fN c d a g v2 b f e).m
def gn(b:Scm)(c:Val)(d:Msg×Bool)(v2:Nat)(a:List Slt):PT 0 (Lv (Nat×List Slt) (List Slt) (Val)):=vs (wa v2 1)<|vz (fl a)<|ln (px b c d) (v2+1,a)
def g7(d:Scm)(e:Val)(c:Scm→Fld→Val→Option (Val))(b:Msg×Bool)(v2:Nat)(a:List Slt):PT 0 (Lv (Nat×List Slt) (List Slt) (Val)):=wg<|ix b.1.fields v2 fun g=>wg<|vz (fl a)<|lc (Ac [(3,.iptr (Al d) 0),(5,.iptr (Ae e) 0),pp 6,pp 7,pp 9,(10,vN v2),pp 11,(12,vI 0)] [CG,(FS b),(Z3 a),(Np g),kk 1095 58 8 (Aa Aq a)]) ((Ai (QI d e c b v2 g) Ah (0,a)).bind (Sum.elim (fun f=>(gn d e b v2 f).m) (fun z=>some (.rt z))))
def hI(e:Scm)(d:Val)(c:Scm→Fld→Val→Option (Val))(b:Msg×Bool)(v2:Nat)(a:List Slt):PT 0 (Lv (Nat×List Slt) (List Slt) (Val)):=wg<|vz (Aj b.1.fields)<|br (decide ((v2:Int)<(b.1.fields.length:Int))) (vz (fl a)<|lc (Ac [(3,.iptr (Al e) 0),(5,.iptr (Ae d) 0),pp 6,pp 7,pp 9,(10,vN v2)] [CG,(FS b),(Z3 a),kk 1095 58 8 (Aa Aq a)]) ((g7 e d c b v2 a).m)) (vz (fl a)<|Af (uX d) a)
def Qk(b:Scm)(c:Val)(a:Scm→Fld→Val→Option (Val))(e:Msg×Bool):Nat×List Slt→Option (Lv (Nat×List Slt) (List Slt) (Val)):=fun(v2,d)=>(hI b c a e v2 d).m
def wy(d:Val)(a:List Slt):Nat×List Raw→St:=fun(c,b)=>Ac [(5,.iptr (Ae d) 0),pp 6,pp 9,(13,vN c)] [CG,(QH a b),(Hh a)]
def qB(a:List Slt):List Raw→Nat×St:=fun b=>(4,Ac [pp 6,pp 9] [CG,kk 9 35 7 [vI 10,.d (.int .u64 0),vS ⟨#[]⟩,.e0,.e0,.ref (1,1095) 0 0 a.length,vL Av b],(Hh a)])
def pt(e:Val)(a:List Slt)(c:Nat)(b:List Raw):Int→St:=fun d=>Ac [(5,.iptr (Ae e) 0),pp 6,pp 9,(13,vN c),(14,vI d)] [CG,(QH a b),(Hh a)]
def o8(e:Val)(a:List Slt)(c:Nat)(b:List Raw):Int→Nat×St:=fun d=>(6,Ac [(5,.iptr (Ae e) 0),pp 6,pp 9,(13,vN c),(14,vI d)] [CG,(QH a b),(Hh a)])
def fI(g:Val)(b:List Slt)(d:Nat)(c:List Raw)(a:Int):PT 0 (Lv (Int) (Int) (Val)):=wg<|vg (decide ((0:Int)<a)) (wi (a-1))<|AR (decide ((0:Int)<a)) c (a-1) fun e=>AR (decide ((0:Int)<a)) g.raws (d:Int) fun f=>br (decide ((0:Int)<a)&&decide (f.num<e.num)) (vs (wi (a-1))<|vz (fl b)<|ln (pt g b d c) (a-1)) (vz (fl b)<|Af (o8 g b d c) a)
def Qg(f:Val)(e:Scm→Fld→Val→Option (Val))(b:List Slt)(c:Nat)(a:List Raw):Int→Option (Lv (Int) (Int) (Val)):=fun d=>(fI f b c a d).m
def gM(f:Val)(d:List Slt)(e:Nat)(b:List Raw)(a:Raw)(c:List Raw):PT 0 (Lv (Nat×List Raw) (List Raw) (Val)):=vs (wa e 1)<|vw (.frz 114 [] [((1,9),6,(((b++[a])++c).map Av))])<|vz (fz ((b++[a])++c))<|vz (fl d)<|ln (wy f d) (e+1,(b++[a])++c)
def gJ(h:Val)(d:List Slt)(e:Nat)(f:List Raw)(g:Int):PT 0 (Lv (Nat×List Raw) (List Raw) (Val)):=wg<|sL f .no (.it g) fun a=>a0 a<|ix h.raws e fun b=>vw .sep<|ap a (b:Raw)<|wg<|sL f (.it g) .no fun c=>aq (a++[b]) c<|wg<|vz (fl ((a++[b])++c))<|vz (fl d)<|lc (Ac [(5,.iptr (Ae h) 0),pp 6,pp 9,(13,vN e)] [CG,kk 9 35 7 [vI 10,.d (.int .u64 0),vS ⟨#[]⟩,.e0,.e0,.ref (1,1095) 0 0 d.length,.ref (1,114) 0 0 ((a++[b])++c).length],kk 114 65 4 (Aa Av ((a++[b])++c)),(Hh d)]) ((gM h d e a b c).m)
def ie(e:Val)(d:Scm→Fld→Val→Option (Val))(b:List Slt)(c:Nat)(a:List Raw):PT 0 (Lv (Nat×List Raw) (List Raw) (Val)):=wg<|vz (Aj a)<|vz (fl b)<|lc (Ac [(5,.iptr (Ae e) 0),pp 6,pp 9,(13,vN c),(14,vN a.length)] [CG,(QH b a),(Hh b)]) ((Ai (Qg e d b c a) Ah (a.length:Int)).bind (Sum.elim (fun f=>(gJ e b c a f).m) (fun z=>some (.rt z))))
def gL(d:Val)(e:Scm→Fld→Val→Option (Val))(a:List Slt)(c:Nat)(b:List Raw):PT 0 (Lv (Nat×List Raw) (List Raw) (Val)):=vz (Aj d.raws)<|br (decide ((c:Int)<(d.raws.length:Int))) (vz (fl a)<|lc (Ac [(5,.iptr (Ae d) 0),pp 6,pp 9,(13,vN c)] [CG,(QH a b),(Hh a)]) ((ie d e a c b).m)) (vz (fl a)<|Af (qB a) b)
def Nb(e:Val)(a:Scm→Fld→Val→Option (Val))(c:List Slt):Nat×List Raw→Option (Lv (Nat×List Raw) (List Raw) (Val)):=fun(d,b)=>(gL e a c d b).m
def nN(a:List Slt)(b:List Raw):PT 0 (Val):=wg<|wg<|vz (fr a)<|lr LC nG (.mk 10 0 ⟨#[]⟩ [] [] a b:Val)
def kG(d:Val)(b:Scm→Fld→Val→Option (Val))(a:List Slt):PT 0 (Val):=vw (.adc (1,9) 6 1096 65 4)<|vw (.frz 1096 [] [((1,9),6,(([]:List Raw).map Av))])<|vz (fz ([]:List Raw))<|vz (fl a)<|lc (Ac [(5,.iptr (Ae d) 0),pp 6,pp 9,(13,vI 0)] [CG,kk 9 35 7 [vI 10,.d (.int .u64 0),vS ⟨#[]⟩,.e0,.e0,.ref (1,1095) 0 0 a.length,vL Av ([]:List Raw)],(Hh a)]) ((Ai (Nb d b a) Ah (0,([]:List Raw))).bind (Sum.elim (fun c=>(nN a c).m) some))
def lZ(c:Val)(b:Scm→Fld→Val→Option (Val))(a:List Slt):PT 0 (Val):=vz (fl a)<|lc (Ac [(5,.iptr (Ae c) 0),pp 6,pp 9,(13,vI 0)] [CG,(r8 a),(Hh a)]) ((kG c b a).m)
def lL(d:Scm)(b:Val)(a:Scm→Fld→Val→Option (Val))(e:Msg×Bool):PT 0 (Val):=vw (.adc (1,9) 5 1095 58 8)<|vw (.fzb 3 [3])<|vw (.fzb 5 [5])<|vz (fl ([]:List Slt))<|lc (Ac [(3,.iptr (Al d) 0),(5,.iptr (Ae b) 0),pp 6,pp 7,pp 9,(10,vI 0)] [CG,(FS e),kk 9 35 7 [vI 10,.d (.int .u64 0),vS ⟨#[]⟩,.e0,.e0,.ref (1,1095) 0 0 ([]:List Slt).length,.e0],kk 1095 58 8 (Aa Aq ([]:List Slt))]) ((Ai (Qk d b a e) Ah (0,([]:List Slt))).bind (Sum.elim (fun c=>(lZ b a c).m) some))
def lK(b:Scm)(c:Val)(a:Scm→Fld→Val→Option (Val))(d:Msg×Bool):PT 0 (Val):=lc (Ac [pp 3,pp 5,pp 6,pp 7,pp 9,(10,vI 0)] [(tE b),(qS c),CG,(FS d),rN]) ((lL b c a d).m)
def jQ(b:Scm)(e:ByteArray)(c:Val)(a:Scm→Fld→Val→Option (Val)):PT 0 (Val):=wg<|cl (SC b e) fun d=>wg<|wg<|lc (Ac [pp 3,pp 5,pp 6,pp 7,pp 9] [(tE b),(qS c),CG,(FS d),rN]) ((lK b c a d).m)
def OZ(a:Scm→Fld→Val→Option (Val))(b:Scm)(c:ByteArray)(d:Val):Option (Val):=(jQ b c d a).m
theorem ZHl{C:Cx}(co:CO C 0)(b:Scm)(i:Val)(f:Scm→Fld→Val→Option (Val))(k:Msg×Bool)(v2:Nat)(d:Fld)(e:∀(b:Scm) (v:Fld) (i:Val),KC Tryz.prog 50 [.agg ((Al b).map .d),.agg ((Aw v).map .d),.agg ((Ae i).map .d)] (f b v i) DN):KL Tryz.prog (Ar tl) 132 C (pa [0,0,1,1,0,0,1,0,0,1,0,1,1,1] (As Tryz.f19)) [.cell 6 35] 0 (ZA b i k v2 d) (uO b i k v2) LC nG (QI b i f k v2 d):=fun(p,o) _ m Q u n L=>mJ co 1 (Ab [3,5,6,7,9,10,11,12] Kx) (Ab [3,5,6,7,9,10] RT) n m L fun r g=>⟨fun _ m L=>sq (bk 3 (mJ co 1 (Ab [3,5,6,7,9,10,11,12,61] Kx) nl n m L fun r g=>fun w=>fun x=>fun z=>fun _ m L=>Bg m (fun m=>F5 co AU BN (.fst 0 (.fst 2 (.fst 4 (.fst 6 (.fst 7 (.fst 8 (.fst 9 (.fst 10 (.fst 5 (.fst 11 ZTm)))))))))) [3,5] (Vv b i f k v2 d p o) (Ab [3,5,6,7,9,10,11,12] Kx) m L fun r g=>J2 (fun(l:∀(c:Val),PT.n (JK b i k v2 d p o c) _)=>J2 (fun(q:∀(a:Slt),PT.n (Vu b i f k v2 d p o a) _)=>J2 (fun(s:∀(a:Slt),PT.n (Wz b i f k v2 d p o a) _)=>J2 (fun(t:∀(a:Slt),PT.n (VT b i f k v2 d p o a) _)=>fun a=>(t a)) (fun a=>⟨(q a),⟨(s a),⟨fun y hy j _ _=>by rw[(e b d a.val).x,(e b d a.val).e];exact(e b d a.val).k _ j y hy,fun c=>(l c)⟩,fun _ h=>h⟩,fun _ h=>h⟩)) (fun a=>⟨⟨fun y hy j _ _=>by rw[(e b d a.val).x,(e b d a.val).e];exact(e b d a.val).k _ j y hy,fun c=>(l c)⟩,⟨fun y hy j _ _=>by rw[(e b d a.val).x,(e b d a.val).e];exact(e b d a.val).k _ j y hy,fun c=>(l c)⟩,fun _ h=>h⟩)) (fun a=>⟨⟨fun y hy j _ _=>by rw[(e b d a.val).x,(e b d a.val).e];exact(e b d a.val).k _ j y hy,fun c=>(l c)⟩,⟨fun y hy j _ _=>by rw[(e b d a.val).x,(e b d a.val).e];exact(e b d a.val).k _ j y hy,fun c=>(l c)⟩,fun _ h=>h⟩)) (fun c=>fun _ m L=>eN co (Ab [3,5,6,7,9,10,11,12] Kx) nl n m L)) (fun m=>eN co (Ab [3,5,6,7,9,10,11,12] Kx) nl n m L fun r g=>fun _ m L=>eN co (Ab [3,5,6,7,9,10,11,12] Kx) nl n m L))),id⟩
theorem ZEW{C:Cx}(co:CO C 0)(c:Scm)(b:Val)(a:Scm→Fld→Val→Option (Val))(e:Msg×Bool)(j:∀(c:Scm) (h:Fld) (b:Val),KC Tryz.prog 50 [.agg ((Al c).map .d),.agg ((Aw h).map .d),.agg ((Ae b).map .d)] (a c h b) DN):KL Tryz.prog (Ar tl) 132 C (pa [0,0,1,0,1,1,1] (As Tryz.f19)) [.cell 6 35] 0 (px c b e) (uX b) LC nG (Qk c b a e):=fun(v2,l) _ m Q f d L=>mJ co 1 (Ab [3,5,6,7,9,10] RT) (Ab [5,6,9] It) d m L fun r g=>⟨fun _ m L=>sq (bk 1 (mJ co 2 (Ab [3,5,6,7,9,10,11,12] Kx) nl d m L fun r g=>fun i=>fun _ m L=>bk 2 (lo (Ej (ZHl co c b a e v2 i j) d m L (fun k m=>eN co (Ab [3,5,6,7,9,10] RT) nl d m L))))),id⟩
theorem ZGY{C:Cx}(co:CO C 0)(d:Val)(e:Scm→Fld→Val→Option (Val))(b:List Slt)(c:Nat)(a:List Raw)(k:∀(g:Scm) (h:Fld) (d:Val),KC Tryz.prog 50 [.agg ((Al g).map .d),.agg ((Aw h).map .d),.agg ((Ae d).map .d)] (e g h d) DN):KL Tryz.prog (Ar tl) 132 C (pa [0,0,0,1,0,0,1,0,0,1,0,1,1,1,1] (As Tryz.f19)) [.cell 6 35] 0 (pt d b c a) (o8 d b c a) LC nG (Qg d e b c a):=fun j _ m Q f i L=>eN co (Ab [5,6,9,13,14] It) (Ab [5,6,9,13,14] It) i m L
theorem ZEd{C:Cx}(co:CO C 0)(c:Val)(b:Scm→Fld→Val→Option (Val))(a:List Slt)(l:∀(i:Scm) (j:Fld) (c:Val),KC Tryz.prog 50 [.agg ((Al i).map .d),.agg ((Aw j).map .d),.agg ((Ae c).map .d)] (b i j c) DN):KL Tryz.prog (Ar tl) 132 C (pa [0,0,1,0,1,1,1,1] (As Tryz.f19)) [.cell 6 35] 0 (wy c a) (qB a) LC nG (Nb c b a):=fun(f,e) _ m Q h d L=>mJ co 1 (Ab [5,6,9,13] It) (Ab [6,9] It) d m L fun r g=>⟨fun _ m L=>sq (bk 5 (mJ co 1 (Ab [5,6,9,13,14] It) nl d m L fun r g=>fun _ m L=>sq (bk 6 (lo (Ej (ZGY co c b a f e l) d m L (fun p m=>eN co (Ab [5,6,9,13] [((1,6),false),((1,9),false),((1,114),true),((1,1095),true)]) nl d m L fun r g=>fun n=>fun k=>fun o=>fun _ m L=>eN co (Ab [5,6,9,13] It) nl d m L)))))),id⟩
theorem R9(a:Scm→Fld→Val→Option (Val))(f:∀(c:Scm) (d:Fld) (b:Val),KC Tryz.prog 50 [.agg ((Al c).map .d),.agg ((Aw d).map .d),.agg ((Ae b).map .d)] (a c d b) DN)(c:Scm)(d:ByteArray)(b:Val):KC Tryz.prog 19 [.agg ((Al c).map .d),vS d,.agg ((Ae b).map .d)] (OZ a c d b) LC:=kC Tryz.func19 Tryz.ntmps19 [.cell 6 35] fun co m L=>mJ co 3 (Ab [3,5,6,7,9] yd) nl nH m L fun r g=>fun i=>fun _ m L=>sq (mJ co 1 (Ab [3,5,6,7,9,10] yd) nl nH m L fun r g=>fun _ m L=>bk 0 (cM co (Ab [3,5,6,7,9,10] RT) m L fun r g=>fun _ m L=>lo (Ay (ZEW co c b a i f) nH m L (fun e m=>sq (mJ co 1 (Ab [5,6,9,13] It) nl nH m L fun r g=>fun _ m L=>bk 4 (cM co (Ab [5,6,9,13] It) m L fun r g=>fun _ m L=>lo (Ay (ZEd co b a e f) nH m L (fun h m=>fO co m L))))))))
abbrev WR:Val→AV:=fun y=>.agg ((Ae y).map .d)
def vK(d:Scm)(b:Typ)(c:Val)(a:Scm→Fld→Val→Option (Val)):PT 0 (Val):=wg<|br (decide (b.kind=(10:Int))) (wg<|wg<|wg<|cs Tryz.prog 19 [.agg ((Al d).map .d),vS b.name,.agg ((Ae c).map .d)] [] [] (OZ a d b.name c) (fun y=>.agg ((Ae y).map .d)) fun e=>wg<|lr WR nG e) (wg<|cl (bB c) fun f=>wg<|lr WR nG f)
def KT(a:Scm→Fld→Val→Option (Val))(b:Scm)(c:Typ)(d:Val):Option (Val):=(vK b c d a).m
theorem Gc(a:Scm→Fld→Val→Option (Val))(e:∀(b:Scm) (c:Fld) (d:Val),KC Tryz.prog 50 [.agg ((Al b).map .d),.agg ((Aw c).map .d),.agg ((Ae d).map .d)] (a b c d) DN)(b:Scm)(c:Typ)(d:Val):KC Tryz.prog 93 [.agg ((Al b).map .d),.agg ((Hm c).map .d),.agg ((Ae d).map .d)] (KT a b c d) WR:=DM Tryz.func93 Tryz.ntmps93 AU [.cell 6 35] fun C co y m f L=>fO co m L fun r g=>⟨⟨fun y hy h _ _=>by rw[(R9 a e b c.name d).x,(R9 a e b c.name d).e];exact(R9 a e b c.name d).k _ h y hy,fun i=>id⟩,fun j=>id⟩
abbrev L3:List (Ad×Bool):=[((1,6),false),((1,7),false),((1,1073),true)]
abbrev Oz:List (Ad×Bool):=[((1,6),false),((1,9),true)]
abbrev Kz:List (Ad×Bool):=[((1,3),false),((1,4),false),((1,5),false),((1,6),false)]
abbrev xR:List (Ad×Bool):=[((1,3),false),((1,4),false),((1,5),false),((1,6),false),((1,7),false)]
abbrev CZ:Ad×Blk:=kk 6 35 7 [vI 0,.d (.int .u64 0),vS ⟨#[]⟩,.e0,.e0,.e0,.e0]
abbrev Im(a:Scm):Ad×Blk:=kk 3 26 3 (cD (Al a))
abbrev H4(a:Fld):Ad×Blk:=kk 4 51 16 (cD (Aw a))
abbrev H3(a:Val):Ad×Blk:=kk 5 35 7 (cD (Ae a))
abbrev vW(a:List Val):Ad×Blk:=kk 7 35 7 [vI 11,.d (.int .u64 0),vS ⟨#[]⟩,.ref (1,1073) 0 0 a.length,.e0,.e0,.e0]
abbrev pF(a:List Val)(b:Val):Ad×Blk:=kk 7 35 7 [vI 11,.d (.int .u64 0),vS ⟨#[]⟩,.ref (1,1073) 0 0 (a++[b]).length,.e0,.e0,.e0]
abbrev rU:Ad×Blk:=kk 7 35 7 [vI 11,.d (.int .u64 0),vS ⟨#[]⟩,.e0,.e0,.e0,.e0]
def ph(b:Scm)(c:Fld)(d:Val):Nat×List Val→St:=fun(e,a)=>Ac [(3,.iptr (Al b) 0),(4,.iptr (Aw c) 0),(5,.iptr (Ae d) 0),pp 6,pp 7,(8,vN e)] [CZ,(vW a),kk 1073 35 7 (Aa Az a)]
def oJ:List Val→Nat×St:=fun a=>(0,Ac [pp 6,pp 7] [CZ,kk 7 35 7 [vI 11,.d (.int .u64 0),vS ⟨#[]⟩,.ref (1,1073) 0 0 a.length,.e0,.e0,.e0],kk 1073 35 7 (Aa Az a)])
def Wf(d:Scm)(e:Fld)(f:Val)(b:Nat)(a:List Val)(c:Val):PT 0 (Lv (Nat×List Val) (List Val) (Val)):=vs (wa b 1)<|vz (fl (a++[c]))<|ln (ph d e f) (b+1,a++[c])
def VP(c:Scm)(d:Fld)(f:Val)(e:Scm→Fld→Val→Option (Val))(g:Nat)(b:List Val):PT 0 (Lv (Nat×List Val) (List Val) (Val)):=ix f.list g fun h=>tw (wg<|cs Tryz.prog 93 [.agg ((Al c).map .d),.agg ((Hm d.type).map .d),.agg ((Ae h).map .d)] [] [] (KT e c d.type h) (fun y=>.agg ((Ae y).map .d)) fun a=>vw .sep<|ap b (a:Val)<|wg<|vz (fl (b++[a]))<|lc (Ac [(3,.iptr (Al c) 0),(4,.iptr (Aw d) 0),(5,.iptr (Ae f) 0),pp 6,pp 7,(8,vN g)] [CZ,(pF b a),kk 1073 35 7 (Aa Az (b++[a]))]) ((Wf c d f g b a).m)) (cs Tryz.prog 93 [.agg ((Al c).map .d),.agg ((Hm d.type).map .d),.agg ((Ae h).map .d)] [] [] (KT e c d.type h) (fun y=>.agg ((Ae y).map .d)) fun a=>wg<|vw .sep<|ap b (a:Val)<|wg<|vz (fl (b++[a]))<|lc (Ac [(3,.iptr (Al c) 0),(4,.iptr (Aw d) 0),(5,.iptr (Ae f) 0),pp 6,pp 7,(8,vN g)] [CZ,(pF b a),kk 1073 35 7 (Aa Az (b++[a]))]) ((Wf c d f g b a).m))
def Zz(e:Scm)(f:Fld)(b:Val)(c:Scm→Fld→Val→Option (Val))(d:Nat)(a:List Val):PT 0 (Lv (Nat×List Val) (List Val) (Val)):=vz (Aj b.list)<|br (decide ((d:Int)<(b.list.length:Int))) (vz (fl a)<|lc (Ac [(3,.iptr (Al e) 0),(4,.iptr (Aw f) 0),(5,.iptr (Ae b) 0),pp 6,pp 7,(8,vN d)] [CZ,(vW a),kk 1073 35 7 (Aa Az a)]) ((VP e f b c d a).m)) (vz (fl a)<|Af (oJ) a)
def Qs(b:Scm)(c:Fld)(d:Val)(a:Scm→Fld→Val→Option (Val)):Nat×List Val→Option (Lv (Nat×List Val) (List Val) (Val)):=fun(f,e)=>(Zz b c d a f e).m
def wo(a:List Val):PT 0 (Val):=wg<|wg<|vz (fr a)<|lr DN nG (.mk 11 0 ⟨#[]⟩ a [] [] []:Val)
def oE(b:Scm)(c:Fld)(d:Val)(a:Scm→Fld→Val→Option (Val)):PT 0 (Val):=vw (.adc (1,7) 3 1073 35 7)<|vw (.fzb 3 [3])<|vw (.fzb 4 [4])<|vw (.fzb 5 [5])<|vz (fl ([]:List Val))<|lc (Ac [(3,.iptr (Al b) 0),(4,.iptr (Aw c) 0),(5,.iptr (Ae d) 0),pp 6,pp 7,(8,vI 0)] [CZ,kk 7 35 7 [vI 11,.d (.int .u64 0),vS ⟨#[]⟩,.ref (1,1073) 0 0 ([]:List Val).length,.e0,.e0,.e0],kk 1073 35 7 (Aa Az ([]:List Val))]) ((Ai (Qs b c d a) Ah (0,([]:List Val))).bind (Sum.elim (fun e=>(wo e).m) some))
def sZ(b:Scm)(c:Fld)(d:Val)(a:Scm→Fld→Val→Option (Val)):PT 0 (Val):=lc (Ac [pp 3,pp 4,pp 5,pp 6,pp 7,(8,vI 0)] [(Im b),(H4 c),(H3 d),CZ,rU]) ((oE b c d a).m)
def tn(b:Scm)(c:Fld)(d:Val)(a:Scm→Fld→Val→Option (Val)):PT 0 (Val):=wg<|lc (Ac [pp 3,pp 4,pp 5,pp 6,pp 7] [(Im b),(H4 c),(H3 d),CZ,rU]) ((sZ b c d a).m)
def sM(b:Scm)(c:Fld)(d:Val):List Pr×Nat→St:=fun(a,e)=>Ac [(3,.iptr (Al b) 0),(4,.iptr (Aw c) 0),(5,.iptr (Ae d) 0),pp 6,(9,.ref (1,9) 0 0 a.length),(10,vN e)] [CZ,kk 9 63 14 (Aa Ap a)]
def ru:List Pr→Nat×St:=fun a=>(2,Ac [pp 6,(9,.ref (1,9) 0 0 a.length)] [CZ,kk 9 63 14 (Aa Ap a)])
def ZN(e:Scm)(f:Fld)(g:Val)(c:List Pr)(d:Nat)(a:Val)(b:Val):PT 0 (Lv (List Pr×Nat) (List Pr) (Val)):=vs (wa d 1)<|vz (fl (c++([(.mk a b:Pr)])))<|ln (sM e f g) (c++([(.mk a b:Pr)]),d+1)
def Vj(d:Scm)(e:Fld)(f:Val)(h:Scm→Fld→Val→Option (Val))(c:List Pr)(g:Nat):PT 0 (Lv (List Pr×Nat) (List Pr) (Val)):=ix f.pairs g fun j=>ix f.pairs g fun i=>du (cl (bB j.key) fun a=>cs Tryz.prog 93 [.agg ((Al d).map .d),.agg ((Hm e.type).map .d),.agg ((Ae i.val).map .d)] [] [] (KT h d e.type i.val) (fun y=>.agg ((Ae y).map .d)) fun b=>vw .sep<|ap c ((.mk a b:Pr):Pr)<|vz (fl (c++([(.mk a b:Pr)])))<|lc (Ac [(3,.iptr (Al d) 0),(4,.iptr (Aw e) 0),(5,.iptr (Ae f) 0),pp 6,(9,.ref (1,9) 0 0 (c++([(.mk a b:Pr)])).length),(10,vN g)] [CZ,kk 9 63 14 (Aa Ap (c++([(.mk a b:Pr)])))]) ((ZN d e f c g a b).m))
def fD(e:Scm)(f:Fld)(b:Val)(c:Scm→Fld→Val→Option (Val))(a:List Pr)(d:Nat):PT 0 (Lv (List Pr×Nat) (List Pr) (Val)):=vz (Aj b.pairs)<|br (decide ((d:Int)<(b.pairs.length:Int))) (vz (fl a)<|lc (Ac [(3,.iptr (Al e) 0),(4,.iptr (Aw f) 0),(5,.iptr (Ae b) 0),pp 6,(9,.ref (1,9) 0 0 a.length),(10,vN d)] [CZ,kk 9 63 14 (Aa Ap a)]) ((Vj e f b c a d).m)) (vz (fl a)<|Af (ru) a)
def QB(b:Scm)(c:Fld)(d:Val)(a:Scm→Fld→Val→Option (Val)):List Pr×Nat→Option (Lv (List Pr×Nat) (List Pr) (Val)):=fun(e,f)=>(fD b c d a e f).m
def mZ(a:List Pr):PT 0 (Val):=vw (.frz 9 [(9,(a.map Ap))] [])<|vz (fz a)<|vw .sep<|cl (xE a) fun b=>wg<|lr DN nG (.mk 12 0 ⟨#[]⟩ [] b [] []:Val)
def ZzV(c:Scm)(d:Fld)(e:Val)(a:Scm→Fld→Val→Option (Val)):PT 0 (Val):=vw (.ads 9 9 63 14)<|vw (.fzb 3 [3])<|vw (.fzb 4 [4])<|vw (.fzb 5 [5])<|vz (fl ([]:List Pr))<|lc (Ac [(3,.iptr (Al c) 0),(4,.iptr (Aw d) 0),(5,.iptr (Ae e) 0),pp 6,(9,.ref (1,9) 0 0 ([]:List Pr).length),(10,vI 0)] [CZ,kk 9 63 14 (Aa Ap ([]:List Pr))]) ((Ai (QB c d e a) Ah (([]:List Pr),0)).bind (Sum.elim (fun b=>(mZ b).m) some))
def Zze(b:Scm)(c:Fld)(d:Val)(a:Scm→Fld→Val→Option (Val)):PT 0 (Val):=lc (Ac [pp 3,pp 4,pp 5,pp 6,(9,.e0),(10,vI 0)] [(Im b),(H4 c),(H3 d),CZ]) ((ZzV b c d a).m)
def mR(b:Scm)(c:Fld)(d:Val)(a:Scm→Fld→Val→Option (Val)):PT 0 (Val):=lc (Ac [pp 3,pp 4,pp 5,pp 6,(9,.e0)] [(Im b),(H4 c),(H3 d),CZ]) ((Zze b c d a).m)
def kx(c:Scm)(d:Fld)(e:Val)(a:Scm→Fld→Val→Option (Val)):PT 0 (Val):=wg<|wg<|wg<|cs Tryz.prog 93 [.agg ((Al c).map .d),.agg ((Hm d.type).map .d),.agg ((Ae e).map .d)] [] [] (KT a c d.type e) (fun y=>.agg ((Ae y).map .d)) fun b=>wg<|lr DN nG b
def mP(b:Scm)(c:Fld)(d:Val)(a:Scm→Fld→Val→Option (Val)):PT 0 (Val):=lc (Ac [pp 3,pp 4,pp 5,pp 6] [(Im b),(H4 c),(H3 d),CZ]) ((kx b c d a).m)
def mQ(c:Scm)(b:Fld)(d:Val)(a:Scm→Fld→Val→Option (Val)):PT 0 (Val):=wg<|lc (Ac [pp 3,pp 4,pp 5,pp 6,(39,vB (decide (b.card=(5:Int))))] [(Im c),(H4 b),(H3 d),CZ]) (if decide (b.card=(5:Int))=true then(mR c b d a).m else(mP c b d a).m)
def Zzr(b:Scm)(c:Fld)(d:Val)(a:Scm→Fld→Val→Option (Val)):PT 0 (Val):=lc (Ac [pp 3,pp 4,pp 5,pp 6] [(Im b),(H4 c),(H3 d),CZ]) ((mQ b c d a).m)
def kN(c:Scm)(b:Fld)(d:Val)(a:Scm→Fld→Val→Option (Val)):PT 0 (Val):=wg<|lc (Ac [pp 3,pp 4,pp 5,pp 6,(13,vB (decide (b.card=(4:Int))))] [(Im c),(H4 b),(H3 d),CZ]) (if decide (b.card=(4:Int))=true then(tn c b d a).m else(Zzr c b d a).m)
def mq(b:Scm)(c:Fld)(d:Val)(a:Scm→Fld→Val→Option (Val)):PT 0 (Val):=lc (Ac [pp 3,pp 4,pp 5,pp 6] [(Im b),(H4 c),(H3 d),CZ]) ((kN b c d a).m)
def Sx(a:Scm→Fld→Val→Option (Val))(b:Scm)(c:Fld)(d:Val):Option (Val):=(mq b c d a).m
theorem ZEA{C:Cx}(co:CO C 0)(b:Scm)(c:Fld)(f:Val)(a:Scm→Fld→Val→Option (Val))(e:∀(b:Scm) (c:Fld) (f:Val),KC Tryz.prog 50 [.agg ((Al b).map .d),.agg ((Aw c).map .d),.agg ((Ae f).map .d)] (a b c f) DN):KL Tryz.prog (Ar tl) 76 C (pa [0,0,1,0,1,0,1,0,1] (As Tryz.f50)) [.cell 6 35] 0 (ph b c f) (oJ) DN nG (Qs b c f a):=fun(n,l) _ m Q k j L=>mJ co 1 (Ab [3,4,5,6,7,8] L3) (Ab [6,7] L3) j m L fun r g=>⟨fun _ m L=>sq (bk 1 (F5 co AU BN (.fst 0 (.fst 2 (.fst 3 (.fst 4 (.fst 5 (.fst 6 (.fst 7 (.fst 8 (.fst 9 (.two 1 10 (.fst 10 (.fst 11 (.fst 12 (.fst 13 (.fst 14 .nil))))) (.fst 1 (.fst 11 (.fst 12 (.fst 13 (.fst 14 .nil))))))))))))))) [3,4,5] (VP b c f a n l) (Ab [3,4,5,6,7,8] L3) m L fun r g=>fun d=>⟨⟨fun y hy i _ _=>by rw[(Gc a e b c.type d).x,(Gc a e b c.type d).e];exact(Gc a e b c.type d).k _ i y hy,fun o=>fun _ m L=>eN co (Ab [3,4,5,6,7,8] L3) nl j m L⟩,⟨fun y hy i _ _=>by rw[(Gc a e b c.type d).x,(Gc a e b c.type d).e];exact(Gc a e b c.type d).k _ i y hy,fun o=>fun _ m L=>eN co (Ab [3,4,5,6,7,8] L3) nl j m L⟩,fun _ h=>h⟩)),id⟩
theorem ZDR{C:Cx}(co:CO C 0)(b:Scm)(c:Fld)(d:Val)(a:Scm→Fld→Val→Option (Val))(f:∀(b:Scm) (c:Fld) (d:Val),KC Tryz.prog 50 [.agg ((Al b).map .d),.agg ((Aw c).map .d),.agg ((Ae d).map .d)] (a b c d) DN):KL Tryz.prog (Ar tl) 76 C (pa [0,0,1,0,1,0,1,0,1,1] (As Tryz.f50)) [.cell 6 35] 0 (sM b c d) (ru) DN nG (QB b c d a):=fun(k,l) _ m Q h i L=>mJ co 1 (Ab [3,4,5,6,9,10] Oz) (Ab [6,9] Oz) i m L fun r g=>⟨fun _ m L=>sq (bk 3 (F5 co AU BN (.fst 0 (.fst 1 (.fst 2 (.fst 3 (.fst 4 (.fst 5 (.fst 8 (.fst 9 (.fst 10 (.fst 11 (.fst 12 (.fst 13 (.fst 14 (.fst 15 (.fst 6 (.two 7 16 (.fst 16 (.fst 17 (.fst 18 (.fst 19 (.fst 20 (.fst 21 .nil)))))) (.fst 7 (.fst 17 (.fst 18 (.fst 19 (.fst 20 (.fst 21 .nil)))))))))))))))))))))) [3,4,5] (Vj b c d a k l) (Ab [3,4,5,6,9,10] Oz) m L fun r g=>fun p=>fun e=>fun n=>⟨fun y hy j _ _=>by rw[(Gc a f b c.type e.val).x,(Gc a f b c.type e.val).e];exact(Gc a f b c.type e.val).k _ j y hy,fun o=>fun _ m L=>eN co (Ab [3,4,5,6,9,10] Oz) nl i m L⟩)),id⟩
theorem ZTo(a:Scm→Fld→Val→Option (Val))(e:∀(b:Scm) (c:Fld) (d:Val),KC Tryz.prog 50 [.agg ((Al b).map .d),.agg ((Aw c).map .d),.agg ((Ae d).map .d)] (a b c d) DN)(b:Scm)(c:Fld)(d:Val):KC Tryz.prog 50 [.agg ((Al b).map .d),.agg ((Aw c).map .d),.agg ((Ae d).map .d)] (Sx a b c d) DN:=DM Tryz.func50 Tryz.ntmps50 AU [.cell 6 35] fun C co y m f L=>mJ co 1 (Ab [3,4,5,6] Kz) nl nH m L fun r g=>fun _ m L=>sq (mJ co 1 (Ab [3,4,5,6,13] Kz) nl nH m L fun r g=>fun _ m L=>Bg m (fun m=>mJ co 1 (Ab [3,4,5,6,7] xR) nl nH m L fun r g=>fun _ m L=>sq (mJ co 1 (Ab [3,4,5,6,7,8] xR) nl nH m L fun r g=>fun _ m L=>bk 0 (cM co (Ab [3,4,5,6,7,8] L3) m L fun r g=>fun _ m L=>lo (Ay (ZEA co b c d a e) nH m L (fun k m=>eN co nl nl nH m L))))) (fun m=>eN co (Ab [3,4,5,6] Kz) nl nH m L fun r g=>fun _ m L=>sq (mJ co 1 (Ab [3,4,5,6,39] Kz) nl nH m L fun r g=>fun _ m L=>Bg m (fun m=>mJ co 1 (Ab [3,4,5,6,9] Kz) nl nH m L fun r g=>fun _ m L=>sq (mJ co 1 (Ab [3,4,5,6,9,10] Kz) nl nH m L fun r g=>fun _ m L=>bk 2 (cM co (Ab [3,4,5,6,9,10] Oz) m L fun r g=>fun _ m L=>lo (Ay (ZDR co b c d a e) nH m L (fun i m=>eN co nl nl nH m L))))) (fun m=>eN co (Ab [3,4,5,6] Kz) nl nH m L fun r g=>fun _ m L=>fO co m L fun r g=>⟨fun y hy h _ _=>by rw[(Gc a e b c.type d).x,(Gc a e b c.type d).e];exact(Gc a e b c.type d).k _ h y hy,fun j=>id⟩))))
def KW:Nat→Scm→Fld→Val→Option (Val)
 |0=>fun _ _ _=>none
 |a+1=>Sx (KW a)
theorem wF:∀(d:Nat) (a:Scm) (b:Fld) (c:Val),KC Tryz.prog 50 [.agg ((Al a).map .d),.agg ((Aw b).map .d),.agg ((Ae c).map .d)] (KW d a b c) DN
 |0,a,b,c=>⟨fun _ _ _ h=>(by cases h),by intro r;kernel_rfl,by intro r y;kernel_rfl⟩
 |d+1,a,b,c=>ZTo (KW d) (wF d) a b c
abbrev E7:Bool→AV:=fun y=>vB y
def wW(c:Scm)(d:ByteArray)(a:Val):PT 0 (Bool):=wg<|wg<|cl (ZXz c d a) fun b=>wg<|wg<|wg<|AH (decide (b=(0:Int))) (R9 (KW Ah) (wF Ah) c d a) fun e=>AH (decide (b=(0:Int))) (Rk Ah a e) fun f=>lr E7 nG (decide (b=(0:Int))&&f)
def OS(a:Scm)(b:ByteArray)(c:Val):Option (Bool):=(wW a b c).m
theorem K_7(a:Scm)(b:ByteArray)(c:Val):KC Tryz.prog 7 [.agg ((Al a).map .d),vS b,.agg ((Ae c).map .d)] (OS a b c) E7:=kC Tryz.func7 Tryz.ntmps7 [.tmp 6] fun co m L=>fO co m L
abbrev Kn:List (Ad×Bool):=[((1,3),false),((1,6),false),((1,7),false)]
abbrev Ql:Ad×Blk:=kk 6 35 7 [vI 0,.d (.int .u64 0),vS ⟨#[]⟩,.e0,.e0,.e0,.e0]
abbrev Wu(a:Scm):Ad×Blk:=kk 3 26 3 (cD (Al a))
abbrev n3:Ad×Blk:=kk 7 35 7 [vI 10,.d (.int .u64 0),vS ⟨#[]⟩,.e0,.e0,.e0,.e0]
abbrev E8:Val→AV:=fun y=>.agg ((Ae y).map .d)
def aP(h:Scm)(i:ByteArray)(a:List Val):Nat×Int×Int×ByteArray×List Val×List Pr×List Slt×List Raw→St:=fun(j,b,c,d,e,c6,f,g)=>Ac [(1,vS i),pp 3,pp 6,pp 7,(11,vL Az a),(12,vN a.length),(13,vN j)] [(Wu h),Ql,kk 7 35 7 [vI b,.d (.int .u64 c),vS d,vL Az e,vL Ap c6,vL Aq f,vL Av g]]
def xJ:Int×Int×ByteArray×List Val×List Pr×List Slt×List Raw→Nat×St:=fun(a,b,c,d,e,f,g)=>(0,Ac [pp 6,pp 7] [Ql,kk 7 35 7 [vI a,.d (.int .u64 b),vS c,vL Az d,vL Ap e,vL Aq f,vL Av g]])
def bb(e:Scm)(f:ByteArray)(d:List Val)(c:Nat)(g:Int)(h:Int)(i:ByteArray)(j:List Val)(c6:List Pr)(k:List Slt)(l:List Raw):PT 0 (Lv (Nat×Int×Int×ByteArray×List Val×List Pr×List Slt×List Raw) (Int×Int×ByteArray×List Val×List Pr×List Slt×List Raw) (Val)):=br (decide ((c:Int)<(d.length:Int))) (ix d c fun b=>wg<|br (decide ((c:Int)=(0:Int))) (wg<|wg<|vs (wa c 1)<|ln (aP e f d) (c+1,b.kind,b.bits,b.text,b.list,b.pairs,b.slots,b.raws)) (wg<|wg<|wg<|cl (ak Ah e f (.mk g h i j c6 k l:Val) b) fun a=>wg<|vs (wa c 1)<|ln (aP e f d) (c+1,a.kind,a.bits,a.text,a.list,a.pairs,a.slots,a.raws))) (Af (xJ) (g,h,i,j,c6,k,l))
def Mg(g:Scm)(h:ByteArray)(i:List Val):Nat×Int×Int×ByteArray×List Val×List Pr×List Slt×List Raw→Option (Lv (Nat×Int×Int×ByteArray×List Val×List Pr×List Slt×List Raw) (Int×Int×ByteArray×List Val×List Pr×List Slt×List Raw) (Val)):=fun(j,a,b,c,d,c6,e,f)=>(bb g h i j a b c d c6 e f).m
def xW(a:Int)(b:Int)(c:ByteArray)(d:List Val)(e:List Pr)(f:List Slt)(g:List Raw):PT 0 (Val):=wg<|wg<|lr E8 nG (.mk a b c d e f g:Val)
def x0(i:Scm)(j:ByteArray)(h:List Val):PT 0 (Val):=vw (.adc (1,7) 3 1073 35 7)<|vw (.frz 1073 [] [((1,7),3,(([]:List Val).map Az))])<|vz (fz ([]:List Val))<|vw (.adc (1,7) 4 1074 63 14)<|vw (.frz 1074 [] [((1,7),4,(([]:List Pr).map Ap))])<|vz (fz ([]:List Pr))<|vw (.adc (1,7) 5 1075 58 8)<|vw (.frz 1075 [] [((1,7),5,(([]:List Slt).map Aq))])<|vz (fz ([]:List Slt))<|vw (.adc (1,7) 6 1076 65 4)<|vw (.frz 1076 [] [((1,7),6,(([]:List Raw).map Av))])<|vz (fz ([]:List Raw))<|lc (Ac [(1,vS j),pp 3,pp 6,pp 7,(11,vL Az h),(12,vN h.length),(13,vI 0)] [(Wu i),Ql,kk 7 35 7 [vI 10,.d (.int .u64 0),vS ⟨#[]⟩,vL Az ([]:List Val),vL Ap ([]:List Pr),vL Aq ([]:List Slt),vL Av ([]:List Raw)]]) ((Ai (Mg i j h) Ah (0,10,0,⟨#[]⟩,([]:List Val),([]:List Pr),([]:List Slt),([]:List Raw))).bind (Sum.elim (fun(a,b,c,d,e,f,g)=>(xW a b c d e f g).m) some))
def yc(b:Scm)(c:ByteArray)(a:List Val):PT 0 (Val):=vz (Aj a)<|lc (Ac [(1,vS c),pp 3,pp 6,pp 7,(11,vL Az a),(12,vN a.length),(13,vI 0)] [(Wu b),Ql,n3]) ((x0 b c a).m)
def wX(a:Scm)(b:ByteArray)(c:List Val):PT 0 (Val):=wg<|lc (Ac [(1,vS b),(2,vL Az c),pp 3,pp 6,pp 7] [(Wu a),Ql,n3]) ((yc a b c).m)
def dP(a:Scm)(b:ByteArray)(c:List Val):Option (Val):=(wX a b c).m
theorem ZP4{C:Cx}(co:CO C 0)(b:Scm)(c:ByteArray)(d:List Val):KL Tryz.prog (Ar tl) 28 C (pa [0,0,1,0,1,1] (As Tryz.f8)) [.cell 6 35] 0 (aP b c d) (xJ) E8 nG (Mg b c d):=fun(l,f,g,h,i,c6,j,k) _ m Q a e L=>eN co (Ab [1,3,6,7,11,12,13] Kn) (Ab [6,7] [((1,6),false),((1,7),false)]) e m L
theorem WY(a:Scm)(b:ByteArray)(c:List Val):KC Tryz.prog 8 [.agg ((Al a).map .d),vS b,vL Az c] (dP a b c) E8:=kC Tryz.func8 Tryz.ntmps8 [.cell 6 35] fun co m L=>mJ co 2 (Ab [1,2,3,6,7] Kn) nl nH m L fun r g=>fun _ m L=>sq (mJ co 1 (Ab [1,3,6,7,11,12,13] Kn) nl nH m L fun r g=>fun _ m L=>bk 0 (cM co (Ab [1,3,6,7,11,12,13] Kn) m L fun r g=>fun _ m L=>lo (Ay (ZP4 co a b c) nH m L (fun(d,e,f,h,i,j,k) m=>fO co m L))))
abbrev I5:List (Ad×Bool):=[((1,12),true)]
abbrev H8(a:List Raw)(b:List Raw):Ad×Blk:=kk 12 65 4 (Aa Av (a++b))
abbrev QZ:List Raw→AV:=fun y=>vL Av y
def wt(a:List Raw)(b:List Raw):List Raw×Nat→St:=fun(c,v2)=>Ac [(5,.ref (1,12) 0 0 (a++b).length),(6,vL Av c),(7,vN v2)] [(H8 a b)]
def n1:List Raw→Nat×St:=fun a=>(0,Ac [(6,vL Av a)] [])
def sE(a:List Raw)(b:List Raw)(c:List Raw)(v2:Nat):Int→St:=fun v3=>Ac [(5,.ref (1,12) 0 0 (a++b).length),(6,vL Av c),(7,vN v2),(8,vI v3)] [(H8 a b)]
def od(a:List Raw)(b:List Raw)(c:List Raw)(v2:Nat):Int→Nat×St:=fun d=>(2,Ac [(5,.ref (1,12) 0 0 (a++b).length),(6,vL Av c),(7,vN v2),(8,vI d)] [(H8 a b)])
def Z1(a:List Raw)(b:List Raw)(c:List Raw)(v2:Nat)(v3:Int):PT 0 (Lv (Int) (Int) (List Raw)):=vg (decide ((0:Int)<v3)) (wi (v3-1))<|AR (decide ((0:Int)<v3)) c (v3-1) fun d=>vg (decide ((0:Int)<v3)) (ir v2 (a++b).length 4)<|cpg (decide ((0:Int)<v3)) (a++b) v2 0 1 fun e=>br (decide ((0:Int)<v3)&&decide (e.num<d.num)) (vs (wi (v3-1))<|vz (fl (a++b))<|ln (sE a b c v2) (v3-1)) (vz (fl (a++b))<|Af (od a b c v2) v3)
def Qw(a:List Raw)(b:List Raw)(c:List Raw)(v2:Nat):Int→Option (Lv (Int) (Int) (List Raw)):=fun v3=>(Z1 a b c v2 v3).m
def XF(d:List Raw)(e:List Raw)(v2:Nat)(b:List Raw)(a:Raw)(c:List Raw):PT 0 (Lv (List Raw×Nat) (List Raw) (List Raw)):=vs (wa v2 1)<|vw (.frz 46 [(6,(((b++[a])++c).map Av))] [])<|vz (fz ((b++[a])++c))<|vz (fl (d++e))<|ln (wt d e) ((b++[a])++c,v2+1)
def XZ(c:List Raw)(d:List Raw)(f:List Raw)(v2:Nat)(g:Int):PT 0 (Lv (List Raw×Nat) (List Raw) (List Raw)):=sL f .no (.it g) fun a=>a0 a<|vs (ir v2 (c++d).length 4)<|ca (c++d) v2 fun b=>vw .sep<|ap a (b:Raw)<|sL f (.it g) .no fun e=>aq (a++[b]) e<|vz (fl (c++d))<|vz (fl ((a++[b])++e))<|lc (Ac [(5,.ref (1,12) 0 0 (c++d).length),(6,.ref (1,46) 0 0 ((a++[b])++e).length),(7,vN v2)] [(H8 c d),kk 46 65 4 (Aa Av ((a++[b])++e))]) ((XF c d v2 a b e).m)
def XI(a:List Raw)(b:List Raw)(v1:List Raw)(v2:Nat):PT 0 (Lv (List Raw×Nat) (List Raw) (List Raw)):=vz (Aj v1)<|vz (fl (a++b))<|lc (Ac [(5,.ref (1,12) 0 0 (a++b).length),(6,vL Av v1),(7,vN v2),(8,vN v1.length)] [(H8 a b)]) ((Ai (Qw a b v1 v2) Ah (v1.length:Int)).bind (Sum.elim (fun c=>(XZ a b v1 v2 c).m) (fun z=>some (.rt z))))
def Zw(a:List Raw)(b:List Raw)(c:List Raw)(v2:Nat):PT 0 (Lv (List Raw×Nat) (List Raw) (List Raw)):=vz (Bp (a++b).length)<|br (decide ((v2:Int)<((a++b).length:Int))) (vz (fl (a++b))<|lc (Ac [(5,.ref (1,12) 0 0 (a++b).length),(6,vL Av c),(7,vN v2)] [(H8 a b)]) ((XI a b c v2).m)) (Af (n1) c)
def Nh(a:List Raw)(b:List Raw):List Raw×Nat→Option (Lv (List Raw×Nat) (List Raw) (List Raw)):=fun(c,v2)=>(Zw a b c v2).m
def vJ(a:List Raw):PT 0 (List Raw):=lr QZ nG a
def qy(a:List Raw)(b:List Raw):PT 0 (List Raw):=vw (.ads 6 6 65 4)<|vw (.frz 6 [(6,(([]:List Raw).map Av))] [])<|vz (fz ([]:List Raw))<|vz (fl (a++b))<|lc (Ac [(5,.ref (1,12) 0 0 (a++b).length),(6,vL Av ([]:List Raw)),(7,vI 0)] [(H8 a b)]) ((Ai (Nh a b) Ah (([]:List Raw),0)).bind (Sum.elim (fun c=>(vJ c).m) some))
def pe(a:List Raw)(b:List Raw):PT 0 (List Raw):=vz (fl (a++b))<|lc (Ac [(5,.ref (1,12) 0 0 (a++b).length),(6,.e0),(7,vI 0)] [(H8 a b)]) ((qy a b).m)
def tz(a:List Raw)(b:List Raw):PT 0 (List Raw):=a0 a<|aq a b<|vz (fl (a++b))<|lc (Ac [(5,.ref (1,12) 0 0 (a++b).length),(6,.e0)] [(H8 a b)]) ((pe a b).m)
def cH(a:List Raw)(b:List Raw):Option (List Raw):=(tz a b).m
theorem ZD6{C:Cx}(co:CO C 0)(a:List Raw)(b:List Raw)(c:List Raw)(v2:Nat):KL Tryz.prog (Ar tl) 61 C (pa [0,0,0,1,0,0,1,0,0,1,0,1,1,1,1] (As Tryz.f51)) [.tmp 4] 0 (sE a b c v2) (od a b c v2) QZ nG (Qw a b c v2):=fun v3 _ m Q d e L=>eN co (Ab [5,6,7,8] I5) (Ab [5,6,7,8] I5) e m L
theorem ZFE{C:Cx}(co:CO C 0)(b:List Raw)(c:List Raw):KL Tryz.prog (Ar tl) 61 C (pa [0,0,1,0,1,1,1,1] (As Tryz.f51)) [.tmp 4] 0 (wt b c) (n1) QZ nG (Nh b c):=fun(e,v2) _ m Q d a L=>mJ co 1 (Ab [5,6,7] I5) (AD [6]) a m L fun r g=>⟨fun _ m L=>sq (bk 1 (mJ co 1 (Ab [5,6,7,8] I5) nl a m L fun r g=>fun _ m L=>sq (bk 2 (lo (Ej (ZD6 co b c e v2) a m L (fun j m=>eN co (Ab [5,6,7] [((1,12),true),((1,46),true)]) nl a m L fun r g=>fun h=>fun f=>fun i=>fun _ m L=>eN co (Ab [5,6,7] I5) nl a m L)))))),id⟩
theorem ZXD(a:List Raw)(b:List Raw):KC Tryz.prog 51 [vL Av a,vL Av b] (cH a b) QZ:=kC Tryz.func51 Tryz.ntmps51 [.tmp 4] fun co m L=>mJ co 4 (Ab [5,6] I5) nl nH m L fun r g=>fun _ m L=>sq (mJ co 1 (Ab [5,6,7] I5) nl nH m L fun r g=>fun _ m L=>bk 0 (cM co (Ab [5,6,7] I5) m L fun r g=>fun _ m L=>lo (Ay (ZFE co a b) nH m L (fun c m=>fO co m L))))
abbrev Vh:Ad×Blk:=kk 4 35 7 [vI 0,.d (.int .u64 0),vS ⟨#[]⟩,.e0,.e0,.e0,.e0]
abbrev ZC(a:Val):Ad×Blk:=kk 2 35 7 (cD (Ae a))
abbrev Q0:Val×Bool→AV:=fun y=>.tup [.agg ((Ae y.1).map .d),vB y.2]
def uU(a:Val)(b:Int):Nat→St:=fun c=>Ac [(1,vI b),pp 2,pp 4,(6,vN c)] [(ZC a),Vh]
def o3:Unit→Nat×St:=fun _=>(0,Ac [pp 4] [Vh])
def ZV(a:Val)(c:Int)(b:Nat):PT 0 (Lv (Nat) (Unit) (Val×Bool)):=wg<|vz (Aj a.slots)<|br (decide ((b:Int)<(a.slots.length:Int))) (wg<|ix a.slots b fun d=>br (decide (d.num=c)) (wg<|ix a.slots b fun e=>wg<|At Q0 nG (e.val,true)) (vs (wa b 1)<|ln (uU a c) (b+1))) (Af (o3) ())
def Qo(a:Val)(b:Int):Nat→Option (Lv (Nat) (Unit) (Val×Bool)):=fun c=>(ZV a b c).m
def tH:PT 0 (Val×Bool):=wg<|lr Q0 nG ((.mk 0 0 ⟨#[]⟩ [] [] [] []:Val),false)
def to(a:Val)(b:Int):PT 0 (Val×Bool):=lc (Ac [(1,vI b),pp 2,pp 4,(6,vI 0)] [(ZC a),Vh]) ((Ai (Qo a b) Ah 0).bind (Sum.elim (fun _=>(tH).m) some))
def pd(a:Val)(b:Int):PT 0 (Val×Bool):=lc (Ac [(1,vI b),pp 2,pp 4] [(ZC a),Vh]) ((to a b).m)
def cJ(a:Val)(b:Int):Option (Val×Bool):=(pd a b).m
theorem ZFn{C:Cx}(co:CO C 0)(b:Val)(c:Int):KL Tryz.prog (Ar tl) 29 C (pa [0,0,1,0,1] (As Tryz.f52)) [.cell 4 35,.tmp 5] 0 (uU b c) (o3) Q0 nG (Qo b c):=fun e _ m Q a d L=>eN co (Ab [1,2,4,6] Gf) (Ab [4] DU) d m L
theorem bK(a:Val)(b:Int):KC Tryz.prog 52 [.agg ((Ae a).map .d),vI b] (cJ a b) Q0:=kC Tryz.func52 Tryz.ntmps52 [.cell 4 35,.tmp 5] fun co m L=>mJ co 1 (Ab [1,2,4] Gf) nl nH m L fun r g=>fun _ m L=>sq (mJ co 1 (Ab [1,2,4,6] Gf) nl nH m L fun r g=>fun _ m L=>bk 0 (lo (Ay (ZFn co a b) nH m L (fun _ m=>fO co m L))))
abbrev bA:List (Ad×Bool):=[((1,3),false),((1,4),false),((1,5),false)]
abbrev ZF(a:Msg):Ad×Blk:=kk 3 56 5 (cD (AK a))
abbrev XG(a:Fld):Ad×Blk:=kk 4 51 16 (cD (Aw a))
abbrev Zm(a:Val):Ad×Blk:=kk 5 35 7 (cD (Ae a))
abbrev Q1:Bool→AV:=fun y=>vB y
def pD(a:Msg)(b:Fld)(c:Val):Nat→St:=fun d=>Ac [pp 3,pp 4,pp 5,(7,vN d)] [(ZF a),(XG b),(Zm c)]
def pJ:Unit→Nat×St:=fun _=>(0,Ac [] [])
def ZW(a:Msg)(b:Fld)(e:Val)(c:Nat):PT 0 (Lv (Nat) (Unit) (Bool)):=wg<|vz (Aj a.fields)<|br (decide ((c:Int)<(a.fields.length:Int))) (wg<|ix a.fields c fun d=>wg<|wg<|wg<|cl (bK e d.num) fun f=>wg<|wg<|wg<|wg<|wg<|wg<|br ((((!decide (b.union=(⟨#[]⟩:ByteArray)))&&decide (d.union=b.union))&&(!decide (d.num=b.num)))&&f.2) (At Q1 nG true) (vs (wa c 1)<|ln (pD a b e) (c+1))) (Af (pJ) ())
def QE(a:Msg)(b:Fld)(c:Val):Nat→Option (Lv (Nat) (Unit) (Bool)):=fun d=>(ZW a b c d).m
def sb:PT 0 (Bool):=lr Q1 nG false
def r5(a:Msg)(b:Fld)(c:Val):PT 0 (Bool):=lc (Ac [pp 3,pp 4,pp 5,(7,vI 0)] [(ZF a),(XG b),(Zm c)]) ((Ai (QE a b c) Ah 0).bind (Sum.elim (fun _=>(sb).m) some))
def we(a:Msg)(b:Fld)(c:Val):PT 0 (Bool):=lc (Ac [pp 3,pp 4,pp 5] [(ZF a),(XG b),(Zm c)]) ((r5 a b c).m)
def b8(a:Msg)(b:Fld)(c:Val):Option (Bool):=(we a b c).m
theorem ZH3{C:Cx}(co:CO C 0)(b:Msg)(c:Fld)(d:Val):KL Tryz.prog (Ar tl) 50 C (pa [0,0,1,0,1] (As Tryz.f54)) [.tmp 6] 0 (pD b c d) (pJ) Q1 nG (QE b c d):=fun f _ m Q a e L=>eN co (Ab [3,4,5,7] bA) nl e m L
theorem ZXL(a:Msg)(b:Fld)(c:Val):KC Tryz.prog 54 [.agg ((AK a).map .d),.agg ((Aw b).map .d),.agg ((Ae c).map .d)] (b8 a b c) Q1:=kC Tryz.func54 Tryz.ntmps54 [.tmp 6] fun co m L=>mJ co 1 (Ab [3,4,5] bA) nl nH m L fun r g=>fun _ m L=>sq (mJ co 1 (Ab [3,4,5,7] bA) nl nH m L fun r g=>fun _ m L=>bk 0 (lo (Ay (ZH3 co a b c) nH m L (fun _ m=>fO co m L))))
abbrev J6:Val→AV:=fun y=>.agg ((Ae y).map .d)
abbrev NK:Val→AV:=fun y=>.agg ((Ae y).map .d)
def s7(e:Scm)(c:Fld)(a:Val)(b:Val)(d:Scm→ByteArray→Val→Val→Option (Val)):PT 0 (Val):=wg<|br (decide (c.card=(4:Int))) (wg<|a0 a.list<|wg<|aq a.list b.list<|wg<|vz (fr (a.list++b.list))<|lr NK nG (.mk 11 0 ⟨#[]⟩ (a.list++b.list) [] [] []:Val)) (wg<|br (decide (c.card=(5:Int))) (wg<|a0 a.pairs<|wg<|aq a.pairs b.pairs<|vw (.frz 30 [(10,((a.pairs++b.pairs).map Ap)),(34,((a.pairs++b.pairs).map Ap))] [])<|vz (fz (a.pairs++b.pairs))<|vz (fz (a.pairs++b.pairs))<|vw .sep<|cl (xE (a.pairs++b.pairs)) fun f=>wg<|lr NK nG (.mk 12 0 ⟨#[]⟩ [] f [] []:Val)) (wg<|br (decide (c.type.kind=(10:Int))) (wg<|wg<|wg<|wg<|cs Tryz.prog 20 [.agg ((Al e).map .d),vS c.type.name,.agg ((Ae a).map .d),.agg ((Ae b).map .d)] [] [] (d e c.type.name a b) (fun y=>.agg ((Ae y).map .d)) fun g=>wg<|lr NK nG g) (wg<|wg<|lr NK nG b)))
def Jn(a:Scm→ByteArray→Val→Val→Option (Val))(b:Scm)(c:Fld)(d:Val)(e:Val):Option (Val):=(s7 b c d e a).m
theorem Ef(e:Scm→ByteArray→Val→Val→Option (Val))(f:∀(a:Scm) (b:ByteArray) (c:Val) (d:Val),KC Tryz.prog 20 [.agg ((Al a).map .d),vS b,.agg ((Ae c).map .d),.agg ((Ae d).map .d)] (e a b c d) J6)(a:Scm)(b:Fld)(c:Val)(d:Val):KC Tryz.prog 53 [.agg ((Al a).map .d),.agg ((Aw b).map .d),.agg ((Ae c).map .d),.agg ((Ae d).map .d)] (Jn e a b c d) NK:=DM Tryz.func53 Tryz.ntmps53 AU [.cell 8 35] fun C co y m h L=>fO co m L fun r g=>⟨id,⟨fun j=>id,⟨⟨fun y hy i _ _=>by rw[(f a b.type.name c d).x,(f a b.type.name c d).e];exact(f a b.type.name c d).k _ i y hy,fun k=>id⟩,id⟩⟩⟩
end Go.Proofs.YtbcmdieedjamgaaGreat
