import Derived.Test.YthgmbpciandpiaaGreatLx22
import Derived.Test.YthgmbpciandpiaaGreatLx00
namespace Go.Proofs.YthgmbpciandpiaaGreat
set_option maxRecDepth 100000
set_option linter.all false
open Go Go.Eng
abbrev JK(a:Scm):Ad×Blk:=kk 4 26 3 (cD (Al a))
abbrev Kt(a:Fld):Ad×Blk:=kk 5 56 16 (cD (An a))
abbrev P1(a:Val):Ad×Blk:=kk 6 33 7 (cD (Ag a))
def to(b:Scm)(c:Fld)(a:Val)(d:Int):Nat→St:=fun v2=>Ab [(3,vI d),pp 4,pp 5,(24,vL AM a.list),(25,vN a.list.length),(26,vN v2)] [(JK b),(Kt c)]
def qp:Unit→Nat×St:=fun _=>(1,Ab [] [])
def sj(b:Scm)(c:Fld)(d:Val)(e:Int)(a:Scm→Fld→Val→Int→Option (Int))(v2:Nat):PT 0 (Lv (Nat) (Unit) (Int)):=br (decide ((v2:Int)<(d.list.length:Int))) (ix d.list v2 fun f=>wg<|wg<|wg<|wg<|cs Tryz.prog 230 [.agg ((Al b).map .d),.agg ((DS c.type).map .d),.agg ((Ag f).map .d),vI e] [] [] (Tu a b c.type f e) (fun y=>vI y) fun g=>br (!decide (g=(0:Int))) (Au Dl nG g) (vs (wa v2 1)<|ln (to b c d e) (v2+1))) (Aj (qp) ())
def r8(b:Scm)(c:Fld)(d:Val)(e:Int)(a:Scm→Fld→Val→Int→Option (Int)):Nat→Option (Lv (Nat) (Unit) (Int)):=fun v2=>(sj b c d e a v2).m
def pe:PT 0 (Int):=lr Dl nG 0
def rx(c:Scm)(d:Fld)(b:Val)(e:Int)(a:Scm→Fld→Val→Int→Option (Int)):PT 0 (Int):=wg<|vz (Ah b.list)<|lc (Ab [(3,vI e),pp 4,pp 5,(24,vL AM b.list),(25,vN b.list.length),(26,vI 0)] [(JK c),(Kt d)]) ((Am (r8 c d b e a) Ai 0).bind (Sum.elim (fun _=>(pe).m) some))
def p9(c:Scm)(d:Fld)(b:Val)(e:Int)(a:Scm→Fld→Val→Int→Option (Int)):PT 0 (Int):=wg<|wg<|AC (!(!decide (b.kind=(11:Int)))) (Wt b) fun f=>br ((!decide (b.kind=(11:Int)))||f) (lr Dl nG 12) (lc (Ab [(3,vI e),pp 4,pp 5,pp 6] [(JK c),(Kt d),(P1 b)]) ((rx c d b e a).m))
def qb(b:Scm)(c:Fld)(d:Val)(e:Int)(a:Scm→Fld→Val→Int→Option (Int)):PT 0 (Int):=wg<|wg<|wg<|cs Tryz.prog 230 [.agg ((Al b).map .d),.agg ((DS c.type).map .d),.agg ((Ag d).map .d),vI e] [] [] (Tu a b c.type d e) (fun y=>vI y) fun f=>lr Dl nG f
def sJ(d:Scm)(c:Fld)(b:Val)(e:Int)(a:Scm→Fld→Val→Int→Option (Int)):PT 0 (Int):=br (decide (c.card=(5:Int))) (wg<|wg<|AC (!(!decide (b.kind=(12:Int)))) (Wt b) fun f=>br ((!decide (b.kind=(12:Int)))||f) (lr Dl nG 12) (wg<|wg<|wg<|cs Tryz.prog 231 [.agg ((Al d).map .d),.agg ((An c).map .d),vL Ay b.pairs,vI e] [] [] (Zfa a d c b.pairs e) (fun y=>vI y) fun g=>lr Dl nG g)) (lc (Ab [(3,vI e),pp 4,pp 5,pp 6] [(JK d),(Kt c),(P1 b)]) ((qb d c b e a).m))
def uj(c:Scm)(b:Fld)(d:Val)(e:Int)(a:Scm→Fld→Val→Int→Option (Int)):PT 0 (Int):=lc (Ab [(3,vI e),pp 4,pp 5,pp 6,(13,vI b.card),(14,vB (decide (b.card=(4:Int))))] [(JK c),(Kt b),(P1 d)]) (if decide (b.card=(4:Int))=true then(p9 c b d e a).m else(sJ c b d e a).m)
def ud(c:Scm)(b:Fld)(d:Val)(e:Int)(a:Scm→Fld→Val→Int→Option (Int)):PT 0 (Int):=wg<|lc (Ab [(3,vI e),pp 4,pp 5,pp 6,(13,vI b.card)] [(JK c),(Kt b),(P1 d)]) ((uj c b d e a).m)
def pP(b:Scm)(c:Fld)(d:Val)(e:Int)(a:Scm→Fld→Val→Int→Option (Int)):PT 0 (Int):=lc (Ab [(3,vI e),pp 4,pp 5,pp 6] [(JK b),(Kt c),(P1 d)]) ((ud b c d e a).m)
def x3(a:Scm→Fld→Val→Int→Option (Int))(b:Scm)(c:Fld)(d:Val)(e:Int):Option (Int):=(pP b c d e a).m
theorem ZAB{C:Cx}(co:CO C 0)(b:Scm)(c:Fld)(e:Val)(d:Int)(a:Scm→Fld→Val→Int→Option (Int))(h:∀(b:Scm) (c:Fld) (e:Val) (d:Int),KC Tryz.prog 219 [.agg ((Al b).map .d),.agg ((An c).map .d),.agg ((Ag e).map .d),vI d] (a b c e d) Dl):KL Tryz.prog (Az tl) 61 C (pa [0,0,1,0,1,0,1,0,1,0,1] (Aw Tryz.f219)) [.tmp 8] 0 (to b c e d) (qp) Dl nG (r8 b c e d a):=fun v2 _ hm Q i l k=>Av co Aa Ac (sj b c e d a v2) (Ae [3,4,5,24,25,26] J3) nl l hm k fun r g=>⟨fun f=>⟨fun y hy j _ _=>by rw[(HP a h b c.type f d).x,(HP a h b c.type f d).e];exact(HP a h b c.type f d).k _ j y hy,fun m=>⟨id,id⟩⟩,id⟩
theorem ZQM(a:Scm→Fld→Val→Int→Option (Int))(h:∀(c:Scm) (b:Fld) (d:Val) (e:Int),KC Tryz.prog 219 [.agg ((Al c).map .d),.agg ((An b).map .d),.agg ((Ag d).map .d),vI e] (a c b d e) Dl)(c:Scm)(b:Fld)(d:Val)(e:Int):KC Tryz.prog 219 [.agg ((Al c).map .d),.agg ((An b).map .d),.agg ((Ag d).map .d),vI e] (x3 a c b d e) Dl:=As Tryz.func219 Tryz.ntmps219 Aa [.tmp 8] fun C co y hm j f=>Ak co Aa Ac 1 (pP c b d e a) (Ae [3,4,5,6] FW) nl nH hm f fun r g=>fun _ hm f=>sq (Ak co Aa Ac 1 (ud c b d e a) (Ae [3,4,5,6,13] FW) nl nH hm f fun r g=>fun _ hm f=>bk 0 (Ak co Aa Ac 1 (uj c b d e a) (Ae [3,4,5,6,13,14] FW) nl nH hm f fun r g=>fun _ hm f=>cd (decide (b.card=(4:Int))) hm (fun hm=>Ak co Aa Ac 1 (p9 c b d e a) (Ae [3,4,5,6] FW) nl nH hm f fun r g=>fun k=>⟨id,fun _ hm f=>sq (Ak co Aa Ac 1 (rx c b d e a) (Ae [3,4,5,24,25,26] J3) nl nH hm f fun r g=>fun _ hm f=>bk 1 (lo (AF (ZAB co c b d e a h) nH hm f (fun _ hm=>Av co Aa Ac (pe) nl nl nH hm f fun r g=>id))))⟩) (fun hm=>Av co Aa Ac (sJ c b d e a) (Ae [3,4,5,6] FW) nl nH hm f fun r g=>⟨fun l=>⟨id,⟨fun y hy i _ _=>by rw[(Zx a h c b d.pairs e).x,(Zx a h c b d.pairs e).e];exact(Zx a h c b d.pairs e).k _ i y hy,fun m=>id⟩⟩,fun _ hm f=>Ao co Aa Ac (qb c b d e a) hm f fun r g=>⟨fun y hy i _ _=>by rw[(HP a h c b.type d e).x,(HP a h c b.type d e).e];exact(HP a h c b.type d e).k _ i y hy,fun n=>id⟩⟩)))
def Tz:Nat→Scm→Fld→Val→Int→Option (Int)
 |0=>fun _ _ _ _=>none
 |a+1=>x3 (Tz a)
theorem u9:∀(e:Nat) (a:Scm) (b:Fld) (c:Val) (d:Int),KC Tryz.prog 219 [.agg ((Al a).map .d),.agg ((An b).map .d),.agg ((Ag c).map .d),vI d] (Tz e a b c d) Dl
 |0,a,b,c,d=>⟨fun _ _ _ h=>(by cases h),by intro r;kernel_rfl,by intro r y;kernel_rfl⟩
 |e+1,a,b,c,d=>ZQM (Tz e) (u9 e) a b c d
abbrev dx:List Val→AV:=fun y=>.ref (0,0) 1 0 y.length
@[reducible] def dL:List Val→List Blk:=fun y=>[⟨1,true,33,7,Af AM y⟩]
def sC(a:List Val):PT 1 (List Val):=al AM a false fun b=>br b (vw .sep<|vw (.ads 2 2 33 7)<|mv 2 0 ([]:List Val)<|lr dx (dL) ([]:List Val)) (a0 a<|mv 7 0 a<|lr dx (dL) a)
def Zf7(a:List Val):Option (List Val):=(sC a).m
theorem ZUO(a:List Val):KO Tryz.prog 223 1 [vL AM a] [⟨0,false,0,0,[]⟩] (fun _ _ _ _=>True) (Zf7 a) dx (dL):=Bi Tryz.func223 Tryz.ntmps223 Aa [.tmp 2] 1 (fun C co f y hm c d=>Ao co Aa Ac (sC a) hm d fun r g=>⟨fun e=>⟨id,id⟩,by intro b h;subst h;cases b<;>rfl⟩) (hB:=fun y=>⟨.inl (A2 _ _),rfl,trivial⟩)
abbrev MZ(a:Val):Ad×Blk:=kk 1 33 7 (cD (Ag a))
abbrev SA:List Val→AV:=fun y=>vL AM y
def tP(a:Val):List Val×Nat→St:=fun(b,v3)=>Ab [pp 1,(3,.ref (1,10) 0 0 b.length),(12,vL Ay a.pairs),(13,vN a.pairs.length),(14,vN v3)] [(MZ a),kk 10 33 7 (Af AM b)]
def ph(b:Val):List Val→Nat×St:=fun a=>(0,Ab [pp 1,(3,.ref (1,10) 0 0 a.length)] [(MZ b),kk 10 33 7 (Af AM a)])
def p5(c:Val)(b:List Val)(v3:Nat):PT 0 (Lv (List Val×Nat) (List Val) (List Val)):=br (decide ((v3:Int)<(c.pairs.length:Int))) (ix c.pairs v3 fun a=>wg<|wg<|wg<|vw .sep<|ap2 b (a.key:Val) a.val<|vs (wa v3 1)<|vz (fl (b++([a.key,a.val])))<|ln (tP c) (b++([a.key,a.val]),v3+1)) (vz (fl b)<|Aj (ph c) b)
def qj(a:Val):List Val×Nat→Option (Lv (List Val×Nat) (List Val) (List Val)):=fun(b,v3)=>(p5 a b v3).m
def uy(a:Val):List Val×Nat→St:=fun(b,c)=>Ab [(3,.ref (1,10) 0 0 b.length),(27,vL Ap a.slots),(28,vN a.slots.length),(29,vN c)] [kk 10 33 7 (Af AM b)]
def pY:List Val→Nat×St:=fun a=>(2,Ab [(3,.ref (1,10) 0 0 a.length)] [kk 10 33 7 (Af AM a)])
def sH(d:Val)(a:List Val)(b:Nat):PT 0 (Lv (List Val×Nat) (List Val) (List Val)):=br (decide ((b:Int)<(d.slots.length:Int))) (ix d.slots b fun c=>wg<|wg<|vw .sep<|ap a (c.val:Val)<|vs (wa b 1)<|vz (fl (a++[c.val]))<|ln (uy d) (a++[c.val],b+1)) (vz (fl a)<|Aj (pY) a)
def pc(a:Val):List Val×Nat→Option (Lv (List Val×Nat) (List Val) (List Val)):=fun(b,c)=>(sH a b c).m
def q9(a:List Val):PT 0 (List Val):=vz (fr a)<|lr SA nG a
def tW(a:Val)(b:List Val):PT 0 (List Val):=wg<|vz (Ah a.slots)<|vz (fl b)<|lc (Ab [(3,.ref (1,10) 0 0 b.length),(27,vL Ap a.slots),(28,vN a.slots.length),(29,vI 0)] [kk 10 33 7 (Af AM b)]) ((Am (pc a) Ai (b,0)).bind (Sum.elim (fun c=>(q9 c).m) some))
def sU(a:Val)(b:List Val):PT 0 (List Val):=wg<|vz (Ah a.pairs)<|vz (fl b)<|lc (Ab [pp 1,(3,.ref (1,10) 0 0 b.length),(12,vL Ay a.pairs),(13,vN a.pairs.length),(14,vI 0)] [(MZ a),kk 10 33 7 (Af AM b)]) ((Am (qj a) Ai (b,0)).bind (Sum.elim (fun c=>(tW a c).m) some))
def tf(b:Val)(a:List Val):PT 0 (List Val):=vz (fl a)<|lc (Ab [pp 1,(3,.ref (1,10) 0 0 a.length)] [(MZ b),kk 10 33 7 (Af AM a)]) ((sU b a).m)
def sM(a:Val):PT 0 (List Val):=wg<|lc (Ab [pp 1,(9,vL AM a.list)] [(MZ a)]) ((Zf7 a.list).bind fun b=>(tf a b).m)
def pK(a:Val):PT 0 (List Val):=lc (Ab [pp 1] [(MZ a)]) ((sM a).m)
def Zkv(a:Val):Option (List Val):=(pK a).m
theorem ZAt{C:Cx}(co:CO C 0)(a:Val):KL Tryz.prog (Az tl) 40 C (pa [0,0,1,0,1,1] (Aw Tryz.f200)) [.tmp 2] 0 (tP a) (ph a) SA nG (qj a):=fun(e,v3) _ hm Q b d c=>Av co Aa Ac (p5 a e v3) (Ae [1,3,12,13,14] Gv) (Ae [1,3] Gv) d hm c fun r g=>⟨fun f=>id,id⟩
theorem ZAE{C:Cx}(co:CO C 0)(a:Val):KL Tryz.prog (Az tl) 40 C (pa [0,0,1,0,1,1,1] (Aw Tryz.f200)) [.tmp 2] 0 (uy a) (pY) SA nG (pc a):=fun(e,f) _ hm Q b d c=>Av co Aa Ac (sH a e f) (Ae [3,27,28,29] [((1,10),true)]) (Ae [3] [((1,10),true)]) d hm c fun r g=>⟨fun h=>id,id⟩
theorem ZVH(b:Val):KC Tryz.prog 200 [.agg ((Ag b).map .d)] (Zkv b) SA:=As Tryz.func200 Tryz.ntmps200 Aa [.tmp 2] fun C co y hm c a=>Ak co Aa Ac 1 (pK b) (Ae [1] BC) nl nH hm a fun r g=>fun _ hm a=>sq (rg (BJ co Aa 2 (sM b) (Ae [1,9] BC) hm a fun r g=>fun _ hm a=>HK co hm 223 [vL AM b.list] [(1,10)] ([((1,10),⟨0,false,0,0,[]⟩)]++[]) (fun z=>.ref (1,10) 1 0 z.length) (fun z=>[((1,10),⟨1,true,33,7,Af AM z⟩)]) [] (fun z=>trivial) (trivial) (fun z e r g=>Eg (ZUO b.list) e co g [((1,10),⟨0,false,0,0,[]⟩)] [] [((1,10),⟨1,true,33,7,Af AM z⟩)] (AN []) (fun j hg k=>trivial) (fun H=>⟨(fun h=>by cases h),by kernel_rfl,trivial⟩) (fun H=>⟨fun _=>⟨rfl,BA (A2 _ _) (by kernel_rfl)⟩,by kernel_rfl,trivial⟩)) fun d hm=>Bf co Aa (tf b d) (Ae [1,3] Gv) hm a fun r g=>fun _ hm a=>sq (Ak co Aa Ac 1 (sU b d) (Ae [1,3,12,13,14] Gv) nl nH hm a fun r g=>fun _ hm a=>bk 0 (lo (AF (ZAt co b) nH hm a (fun f hm=>sq (Ak co Aa Ac 1 (tW b f) (Ae [3,27,28,29] [((1,10),true)]) nl nH hm a fun r g=>fun _ hm a=>bk 2 (lo (AF (ZAE co b) nH hm a (fun i hm=>Ao co Aa Ac (q9 i) hm a fun r g=>id))))))))))
abbrev LJ:Int→AV:=fun y=>vI y
def sb(a:List Val):Int×Nat→St:=fun(v2,v3)=>Ab [(3,vI v2),(11,vL AM a),(12,vN a.length),(13,vN v3)] []
def sf:Int→Nat×St:=fun a=>(0,Ab [(3,vI a)] [])
def qv(a:Val→Option (Int))(b:List Val)(v2:Int)(v3:Nat):PT 0 (Lv (Int×Nat) (Int) (Int)):=br (decide ((v3:Int)<(b.length:Int))) (ix b v3 fun c=>wg<|wg<|cs Tryz.prog 175 [.agg ((Ag c).map .d)] [] [] (a c) (fun y=>vI y) fun d=>vs (wi (v2+d))<|vs (wa v3 1)<|ln (sb b) ((v2+d),v3+1)) (Aj (sf) v2)
def rS(a:Val→Option (Int))(b:List Val):Int×Nat→Option (Lv (Int×Nat) (Int) (Int)):=fun(v2,v3)=>(qv a b v2 v3).m
def pk(a:Int):PT 0 (Int):=lr LJ nG a
def pj(c:Val)(a:Val→Option (Int)):PT 0 (Int):=wg<|cl (ZVH c) fun b=>vz (Ah b)<|lc (Ab [(3,vN (1+c.raws.length)),(11,vL AM b),(12,vN b.length),(13,vI 0)] []) ((Am (rS a b) Ai (((1+c.raws.length:Nat):Int),0)).bind (Sum.elim (fun d=>(pk d).m) some))
def sw(b:Val)(a:Val→Option (Int)):PT 0 (Int):=wg<|vz (Ah b.raws)<|vs (wa 1 b.raws.length)<|lc (Ab [pp 1,(3,vN (1+b.raws.length))] [kk 1 33 7 (cD (Ag b))]) ((pj b a).m)
def w8(a:Val→Option (Int))(b:Val):Option (Int):=(sw b a).m
theorem Zzr{C:Cx}(co:CO C 0)(a:Val→Option (Int))(d:List Val)(c:∀(f:Val),KC Tryz.prog 175 [.agg ((Ag f).map .d)] (a f) LJ):KL Tryz.prog (Az tl) 23 C (pa [0,0,1,0,1,1] (Aw Tryz.f175)) [.tmp 2] 0 (sb d) (sf) LJ nG (rS a d):=fun(v2,v3) _ hm Q e j i=>Av co Aa Ac (qv a d v2 v3) (AH [3,11,12,13]) (AH [3]) j hm i fun r g=>⟨fun b=>⟨fun y hy h _ _=>by rw[(c b).x,(c b).e];exact(c b).k _ h y hy,fun k=>id⟩,id⟩
theorem ZNO(a:Val→Option (Int))(e:∀(b:Val),KC Tryz.prog 175 [.agg ((Ag b).map .d)] (a b) LJ)(b:Val):KC Tryz.prog 175 [.agg ((Ag b).map .d)] (w8 a b) LJ:=As Tryz.func175 Tryz.ntmps175 Aa [.tmp 2] fun C co y hm d c=>Ak co Aa Ac 2 (sw b a) (Ae [1,3] BC) nl nH hm c fun r g=>fun _ hm c=>sq (Ak co Aa Ac 1 (pj b a) (AH [3,11,12,13]) nl nH hm c fun r g=>fun h=>fun _ hm c=>bk 0 (lo (AF (Zzr co a h e) nH hm c (fun f hm=>Ao co Aa Ac (pk f) hm c fun r g=>id))))
def fH:Nat→Val→Option (Int)
 |0=>fun _=>none
 |a+1=>w8 (fH a)
theorem w7:∀(b:Nat) (a:Val),KC Tryz.prog 175 [.agg ((Ag a).map .d)] (fH b a) LJ
 |0,a=>⟨fun _ _ _ h=>(by cases h),by intro r;kernel_rfl,by intro r y;kernel_rfl⟩
 |b+1,a=>ZNO (fH b) (w7 b) a
abbrev N4:Int→AV:=fun y=>vI y
def sE(a:Scm)(e:ByteArray)(b:Val):PT 0 (Int):=wg<|cl (Ta a e) fun c=>wg<|br (!c.2) (lr N4 nG 10) (wg<|wg<|wg<|cl (Q8 (Tz Ai) (u9 Ai) a c.1 b 1) fun d=>br (!decide (d=(0:Int))) (lr N4 nG d) (wg<|cl (w7 Ai b) fun f=>br (decide ((4096:Int)<f)) (lr N4 nG 3) (lr N4 nG 0)))
def ZjX(a:Scm)(b:ByteArray)(c:Val):Option (Int):=(sE a b c).m
theorem ZWk(a:Scm)(b:ByteArray)(c:Val):KC Tryz.prog 144 [.agg ((Al a).map .d),vS b,.agg ((Ag c).map .d)] (ZjX a b c) N4:=As Tryz.func144 Tryz.ntmps144 Aa [.tmp 6] fun C co y hm d e=>Ao co Aa Ac (sE a b c) hm e fun r g=>fun f=>⟨id,fun h=>⟨id,fun i=>⟨id,id⟩⟩⟩
abbrev K7:Bool→AV:=fun y=>vB y
def uS(b:Scm)(a:Typ)(c:Val):PT 0 (Bool):=wg<|br (decide (a.kind=(10:Int))) (wg<|wg<|wg<|cl (ZWk b a.name c) fun d=>lr K7 nG (decide (d=(0:Int)))) (wg<|cl (LY a.kind) fun e=>br (!e) (lr K7 nG false) (wg<|br (decide (a.kind=(9:Int))) (wg<|wg<|cl (Sn b a.name) fun f=>wg<|br (!f.2) (lr K7 nG false) (wg<|wg<|wg<|cl (VP b a c) fun g=>lr K7 nG (decide (g=(0:Int))))) (wg<|wg<|wg<|cl (VP b a c) fun h=>lr K7 nG (decide (h=(0:Int))))))
def Zk4(a:Scm)(b:Typ)(c:Val):Option (Bool):=(uS a b c).m
theorem ZXR(a:Scm)(b:Typ)(c:Val):KC Tryz.prog 98 [.agg ((Al a).map .d),.agg ((DS b).map .d),.agg ((Ag c).map .d)] (Zk4 a b c) K7:=As Tryz.func98 Tryz.ntmps98 Aa [.tmp 6] fun C co y hm d e=>Ao co Aa Ac (uS a b c) hm e fun r g=>⟨fun f=>id,fun h=>⟨id,⟨fun i=>⟨id,fun j=>id⟩,fun k=>id⟩⟩⟩
abbrev ZI(a:Val):Ad×Blk:=((1,5),⟨1,true,33,7,(cD (Ag a))⟩)
abbrev K6:Int→AV:=fun y=>vI y
def yb(d:Acs)(a:Typ)(c:Val):PT 0 (Int):=wg<|wg<|wg<|AC (decide (a.kind=(9:Int))) (dz a.kind c) fun e=>br (decide (a.kind=(9:Int))&&e) (wg<|wg<|cl (Sn d.s a.name) fun b=>wg<|wg<|wg<|ER (b.2&&(!b.1.opn)) Tryz.prog 96 [vL Cw b.1.items,.fn (.func 97) [] [.ptr (1,5) 1 0]] [(1,5)] [(ZI c)] (eT b.1.items (fun(z0:Itm)=>eg z0 c)) (fun y=>vB y) fun f=>br ((b.2&&(!b.1.opn))&&(!f)) (lr K6 nG 16) (wg<|wg<|wg<|cl (ZXR d.s a c) fun g=>br (!g) (lr K6 nG 12) (lr K6 nG 0))) (wg<|wg<|wg<|cl (ZXR d.s a c) fun h=>br (!h) (lr K6 nG 12) (lr K6 nG 0))
def ZeU(a:Acs)(b:Typ)(c:Val):Option (Int):=(yb a b c).m
theorem cR(b:Acs)(c:Typ)(a:Val):KC Tryz.prog 60 [.agg ((Cc b).map .d),.agg ((DS c).map .d),.agg ((Ag a).map .d)] (ZeU b c a) K6:=As Tryz.func60 Tryz.ntmps60 Aa [.tmp 6] fun C co y hm d e=>Ao co Aa Ac (yb b c a) hm e fun r g=>fun k=>⟨fun h=>⟨fun y hy=>B6 (ZYZ h.1.items (fun(z0:Itm)=>eg z0 a)) hy co g [] [(ZI a)] (AN [(1,.fn (.func 97) [] [.ptr (r.κ (1,5)) (r.γ (1,5)+1) 0])]) (fun i hg j=>(fun z0 y f=>D1 (ZZc z0 a) f co g [(ZI a)] [] hg (by simp) (fun _=>.top) (fun _ _=>trivial) (fun l H=>⟨fun _=>⟨rfl,by kernel_rfl⟩,by kernel_rfl,trivial⟩))) (fun H=>trivial),fun m=>⟨id,fun n=>⟨id,id⟩⟩⟩,fun o=>⟨id,id⟩⟩
abbrev og:Bool→AV:=fun y=>vB y
def uR(a:Val):PT 0 (Bool):=wg<|wg<|wg<|vy (decide (a.bits=(0:Int))&&decide (a.text=(⟨#[]⟩:ByteArray))) (Ah a.slots)<|wg<|vy (decide (a.bits=(0:Int))&&decide (a.text=(⟨#[]⟩:ByteArray))) (Ah a.raws)<|vg (decide (a.bits=(0:Int))&&decide (a.text=(⟨#[]⟩:ByteArray))) (wa a.slots.length a.raws.length)<|lr og nG ((decide (a.bits=(0:Int))&&decide (a.text=(⟨#[]⟩:ByteArray)))&&decide (((a.slots.length+a.raws.length:Nat):Int)=(0:Int)))
def ZiJ(a:Val):Option (Bool):=(uR a).m
theorem ZYY(a:Val):KC Tryz.prog 91 [.agg ((Ag a).map .d)] (ZiJ a) og:=As Tryz.func91 Tryz.ntmps91 Aa [.tmp 2] fun C co y hm b c=>Ao co Aa Ac (uR a) hm c fun r g=>id
abbrev Sr:List (Ad×Bool):=[((1,3),false),((1,4),false),((1,5),false)]
abbrev bN(a:Acs):Ad×Blk:=kk 3 68 8 (cD (Cc a))
abbrev Z1(a:Fld):Ad×Blk:=kk 4 56 16 (cD (An a))
abbrev Np:Int→AV:=fun y=>vI y
def zI(b:Acs)(c:Fld)(a:Val):Nat→St:=fun v2=>Ab [pp 3,pp 4,(25,vL AM a.list),(26,vN a.list.length),(27,vN v2)] [(bN b),(Z1 c)]
def w6:Unit→Nat×St:=fun _=>(0,Ab [] [])
def zt(b:Acs)(c:Fld)(a:Val)(v2:Nat):PT 0 (Lv (Nat) (Unit) (Int)):=br (decide ((v2:Int)<(a.list.length:Int))) (ix a.list v2 fun e=>wg<|wg<|wg<|wg<|cl (cR b c.type e) fun d=>br (!decide (d=(0:Int))) (Au Np nG d) (vs (wa v2 1)<|ln (zI b c a) (v2+1))) (Aj (w6) ())
def u6(a:Acs)(b:Fld)(c:Val):Nat→Option (Lv (Nat) (Unit) (Int)):=fun v2=>(zt a b c v2).m
def wn:PT 0 (Int):=lr Np nG 0
def wO(b:Acs)(c:Fld)(a:Val):PT 0 (Int):=wg<|vz (Ah a.list)<|lc (Ab [pp 3,pp 4,(25,vL AM a.list),(26,vN a.list.length),(27,vI 0)] [(bN b),(Z1 c)]) ((Am (u6 b c a) Ai 0).bind (Sum.elim (fun _=>(wn).m) some))
def xS(b:Acs)(c:Fld)(a:Val):PT 0 (Int):=wg<|wg<|AC (!(!decide (a.kind=(11:Int)))) (ZYY a) fun d=>wg<|vy (!((!decide (a.kind=(11:Int)))||(!d))) (Ah a.pairs)<|br (((!decide (a.kind=(11:Int)))||(!d))||decide ((0:Int)<(a.pairs.length:Int))) (lr Np nG 12) (lc (Ab [pp 3,pp 4,pp 5] [(bN b),(Z1 c),kk 5 33 7 (cD (Ag a))]) ((wO b c a).m))
def ZeP(a:Acs)(b:Fld)(c:Val):Option (Int):=(xS a b c).m
theorem ZG7{C:Cx}(co:CO C 0)(a:Acs)(b:Fld)(c:Val):KL Tryz.prog (Az tl) 40 C (pa [0,0,1,0,1,1] (Aw Tryz.f58)) [.tmp 6] 0 (zI a b c) (w6) Np nG (u6 a b c):=fun v2 _ hm Q d f e=>Av co Aa Ac (zt a b c v2) (Ae [3,4,25,26,27] Qg) nl f hm e fun r g=>⟨fun h=>fun i=>⟨id,id⟩,id⟩
theorem ZZD(b:Acs)(c:Fld)(d:Val):KC Tryz.prog 58 [.agg ((Cc b).map .d),.agg ((An c).map .d),.agg ((Ag d).map .d)] (ZeP b c d) Np:=As Tryz.func58 Tryz.ntmps58 Aa [.tmp 6] fun C co y hm e a=>Ak co Aa Ac 2 (xS b c d) (Ae [3,4,5] Sr) nl nH hm a fun r g=>fun f=>⟨id,fun _ hm a=>sq (Ak co Aa Ac 1 (wO b c d) (Ae [3,4,25,26,27] Qg) nl nH hm a fun r g=>fun _ hm a=>bk 0 (lo (AF (ZG7 co b c d) nH hm a (fun _ hm=>Ao co Aa Ac (wn) hm a fun r g=>id))))⟩
abbrev oi:Bool→AV:=fun y=>vB y
@[reducible] def oD(w0:Pr):Bool→List Blk:=fun y=>[⟨0,true,85,14,(cD (Dt w0))⟩]
def u7(a:Pr)(w0:Pr):PT 1 (Bool):=wg<|wg<|cl (cM w0.key a.key) fun b=>lr oi (oD w0) b
def eG(a:Pr)(w0:Pr):Option (Bool):=(u7 a w0).m
theorem ZZB(a:Pr)(w0:Pr):KO Tryz.prog 94 1 [.agg ((Dt a).map .d),.ptr (0,0) 0 0] [⟨0,true,85,14,(cD (Dt w0))⟩] (fun _ _ _ _=>True) (eG a w0) oi (oD w0):=Bi Tryz.func94 Tryz.ntmps94 Aa [.tmp 3] 1 (fun C co d y hm b c=>Ao co Aa Ac (u7 a w0) hm c fun r g=>fun e=>id) (hB:=fun y=>⟨.inr (by kernel_rfl),rfl,trivial⟩)
abbrev a2(a:Acs):Ad×Blk:=kk 3 68 8 (cD (Cc a))
abbrev Zc(a:Fld):Ad×Blk:=kk 4 56 16 (cD (An a))
abbrev Zk(a:Val):Ad×Blk:=kk 5 33 7 (cD (Ag a))
abbrev Jk:Int→AV:=fun y=>vI y
def vW(b:Acs)(c:Fld)(a:Val):Nat→St:=fun v2=>Ab [pp 3,pp 4,pp 5,(25,vL Ay a.pairs),(26,vN a.pairs.length),(27,vN v2)] [(a2 b),(Zc c),(Zk a)]
def v6:Unit→Nat×St:=fun _=>(0,Ab [] [])
def xa(e:Acs)(c:Fld)(b:Val)(v2:Nat):PT 0 (Lv (Nat) (Unit) (Int)):=br (decide ((v2:Int)<(b.pairs.length:Int))) (ix b.pairs v2 fun a=>wg<|wg<|wg<|cl (dz c.key a.key) fun g=>br (!g) (Au Jk nG 12) (wg<|sL b.pairs .no (.nt v2) fun d=>cs Tryz.prog 93 [vL Ay d,.fn (.func 94) [] [.ptr (1,8) 1 0]] [(1,8)] [((1,8),⟨1,true,85,14,(cD (Dt a))⟩)] (eS d (fun(z0:Pr)=>eG z0 a)) (fun y=>vB y) fun h=>br h (Au Jk nG 9) (wg<|wg<|wg<|cl (cR e c.type a.val) fun f=>br (!decide (f=(0:Int))) (Au Jk nG f) (vs (wa v2 1)<|ln (vW e c b) (v2+1))))) (Aj (v6) ())
def xJ(a:Acs)(b:Fld)(c:Val):Nat→Option (Lv (Nat) (Unit) (Int)):=fun v2=>(xa a b c v2).m
def zm:PT 0 (Int):=lr Jk nG 0
def wJ(b:Acs)(c:Fld)(a:Val):PT 0 (Int):=wg<|vz (Ah a.pairs)<|lc (Ab [pp 3,pp 4,pp 5,(25,vL Ay a.pairs),(26,vN a.pairs.length),(27,vI 0)] [(a2 b),(Zc c),(Zk a)]) ((Am (xJ b c a) Ai 0).bind (Sum.elim (fun _=>(zm).m) some))
def wy(b:Acs)(c:Fld)(a:Val):PT 0 (Int):=wg<|wg<|AC (!(!decide (a.kind=(12:Int)))) (ZYY a) fun d=>wg<|vy (!((!decide (a.kind=(12:Int)))||(!d))) (Ah a.list)<|br (((!decide (a.kind=(12:Int)))||(!d))||decide ((0:Int)<(a.list.length:Int))) (lr Jk nG 12) (lc (Ab [pp 3,pp 4,pp 5] [(a2 b),(Zc c),(Zk a)]) ((wJ b c a).m))
def Zea(a:Acs)(b:Fld)(c:Val):Option (Int):=(wy a b c).m
theorem ZIm{C:Cx}(co:CO C 0)(b:Acs)(c:Fld)(d:Val):KL Tryz.prog (Az tl) 54 C (pa [0,0,1,0,1,1] (Aw Tryz.f59)) [.tmp 6] 0 (vW b c d) (v6) Jk nG (xJ b c d):=fun v2 _ hm Q e h f=>Av co Aa Ac (xa b c d v2) (Ae [3,4,5,25,26,27] Sr) nl h hm f fun r g=>⟨fun a=>fun n=>⟨id,fun j=>⟨fun y hy=>B6 (ZXt j (fun(z0:Pr)=>eG z0 a)) hy co g [] [((1,8),⟨1,true,85,14,(cD (Dt a))⟩)] (AN [(1,.fn (.func 94) [] [.ptr (r.κ (1,8)) (r.γ (1,8)+1) 0])]) (fun k hg m=>(fun z0 y i=>D1 (ZZB z0 a) i co g [((1,8),⟨1,true,85,14,(cD (Dt a))⟩)] [] hg (by simp) (fun _=>.top) (fun _ _=>trivial) (fun l H=>⟨fun _=>⟨rfl,by kernel_rfl⟩,by kernel_rfl,trivial⟩))) (fun H=>trivial),fun o=>⟨id,fun p=>⟨id,id⟩⟩⟩⟩,id⟩
theorem ZZb(b:Acs)(c:Fld)(d:Val):KC Tryz.prog 59 [.agg ((Cc b).map .d),.agg ((An c).map .d),.agg ((Ag d).map .d)] (Zea b c d) Jk:=As Tryz.func59 Tryz.ntmps59 Aa [.tmp 6] fun C co y hm e a=>Ak co Aa Ac 2 (wy b c d) (Ae [3,4,5] Sr) nl nH hm a fun r g=>fun f=>⟨id,fun _ hm a=>sq (Ak co Aa Ac 1 (wJ b c d) (Ae [3,4,5,25,26,27] Sr) nl nH hm a fun r g=>fun _ hm a=>bk 0 (lo (AF (ZIm co b c d) nH hm a (fun _ hm=>Ao co Aa Ac (zm) hm a fun r g=>id))))⟩
abbrev Qm:Int→AV:=fun y=>vI y
def zR(b:Acs)(a:Fld)(c:Val):PT 0 (Int):=wg<|br (decide (a.card=(4:Int))) (wg<|wg<|wg<|cl (ZZD b a c) fun d=>lr Qm nG d) (br (decide (a.card=(5:Int))) (wg<|wg<|wg<|cl (ZZb b a c) fun e=>lr Qm nG e) (wg<|wg<|wg<|cl (cR b a.type c) fun f=>lr Qm nG f))
def ZeI(a:Acs)(b:Fld)(c:Val):Option (Int):=(zR a b c).m
theorem ZZj(a:Acs)(b:Fld)(c:Val):KC Tryz.prog 28 [.agg ((Cc a).map .d),.agg ((An b).map .d),.agg ((Ag c).map .d)] (ZeI a b c) Qm:=As Tryz.func28 Tryz.ntmps28 Aa [.tmp 6] fun C co y hm d e=>Ao co Aa Ac (zR a b c) hm e fun r g=>⟨fun f=>id,⟨fun h=>id,fun i=>id⟩⟩
abbrev n7:Bool→AV:=fun y=>vB y
def x1(a:Val):PT 0 (Bool):=wg<|cl (LY a.kind) fun b=>wg<|AC b (ZYg a) fun c=>wg<|wg<|lr n7 nG (((b&&c)&&decide (a.bits=(0:Int)))&&decide (a.text=(⟨#[]⟩:ByteArray)))
def Zh5(a:Val):Option (Bool):=(x1 a).m
theorem ZZx(a:Val):KC Tryz.prog 64 [.agg ((Ag a).map .d)] (Zh5 a) n7:=As Tryz.func64 Tryz.ntmps64 Aa [.tmp 2] fun C co y hm b c=>Ao co Aa Ac (x1 a) hm c fun r g=>fun d=>fun e=>id
abbrev nV:Bool→AV:=fun y=>vB y
def yP(b:Fld)(a:Val):PT 0 (Bool):=wg<|wg<|AC (decide (b.card=(3:Int))) (ZZx a) fun c=>wg<|wg<|vy ((!(decide (b.card=(3:Int))&&c))&&decide (a.kind=(11:Int))) (Ah a.list)<|wg<|wg<|vy ((!((decide (b.card=(3:Int))&&c)||(decide (a.kind=(11:Int))&&decide ((a.list.length:Int)=(0:Int)))))&&decide (a.kind=(12:Int))) (Ah a.pairs)<|lr nV nG (((decide (b.card=(3:Int))&&c)||(decide (a.kind=(11:Int))&&decide ((a.list.length:Int)=(0:Int))))||(decide (a.kind=(12:Int))&&decide ((a.pairs.length:Int)=(0:Int))))
def Zgy(a:Fld)(b:Val):Option (Bool):=(yP a b).m
theorem ZZ6(a:Fld)(b:Val):KC Tryz.prog 30 [.agg ((An a).map .d),.agg ((Ag b).map .d)] (Zgy a b) nV:=As Tryz.func30 Tryz.ntmps30 Aa [.tmp 4] fun C co y hm c d=>Ao co Aa Ac (yP a b) hm d fun r g=>fun e=>id
abbrev n8:Bool→AV:=fun y=>vB y
@[reducible] def oA(w0:Slt):Bool→List Blk:=fun y=>[⟨0,true,65,8,(cD (B2 w0))⟩]
def xm(a:Slt)(w0:Slt):PT 1 (Bool):=wg<|wg<|lr n8 (oA w0) (decide (w0.num<a.num))
def Tn(a:Slt)(w0:Slt):Option (Bool):=(xm a w0).m
theorem ZZs(a:Slt)(w0:Slt):KO Tryz.prog 65 1 [.agg ((B2 a).map .d),.ptr (0,0) 0 0] [⟨0,true,65,8,(cD (B2 w0))⟩] (fun _ _ _ _=>True) (Tn a w0) n8 (oA w0):=Bi Tryz.func65 Tryz.ntmps65 Aa [.tmp 3] 1 (fun C co d y hm b c=>Ao co Aa Ac (xm a w0) hm c fun r g=>id) (hB:=fun y=>⟨.inr (by kernel_rfl),rfl,trivial⟩)
abbrev ZXq:List Slt→AV:=fun y=>.ref (0,0) 1 0 y.length
@[reducible] def ZXy(a:List Slt):List Slt→List Blk:=fun y=>[⟨1,true,65,8,Af Ap y⟩,⟨0,true,65,8,Af Ap a⟩]
def Vv(b:List Slt)(c:Int)(a:List Slt):PT 2 (List Slt):=sR b.length 0 (.it c) .no<|vz (A7 a.length)<|bF (decide ((a.length:Int)=(0:Int)))<|vz (A7 b.length)<|bT (decide (c=(b.length:Int)))<|ar b a (0,1) 0<|Ji 0 (Af Ap a) (fun _=>Zow _)<|lr ZXq (ZXy a) (b++a)
def Zig(a:List Slt)(b:Int)(c:List Slt):Option (List Slt):=(Vv a b c).m
theorem ZV9(b:List Slt)(c:Int)(a:List Slt):KO Tryz.prog 66 2 [.ref (0,0) 0 0 b.length,vI c,.ref (0,1) 0 0 a.length] [⟨0,true,65,8,Af Ap b⟩,⟨0,true,65,8,Af Ap a⟩] (fun _ _ _ _=>True) (Zig b c a) ZXq (ZXy a):=Bi Tryz.func66 Tryz.ntmps66 Aa [.tmp 6] 2 (fun C co f y hm d e=>Ao co Aa Ac (Vv b c a) hm e fun r g=>id) (hB:=fun y=>⟨.inl (A2 _ _),rfl,⟨.inl (A2 _ _),rfl,trivial⟩⟩)
abbrev E66:List Slt→AV:=fun y=>.ref (0,0) 1 0 y.length
@[reducible] def oB(a:List Slt):List Slt→List Blk:=fun y=>[⟨1,true,65,8,Af Ap y⟩,⟨0,true,65,8,Af B2 a⟩]
def Ma(a:List Slt)(b:Int)(c:List Slt):Option (List Slt):=if 0≤b∧b≤a.length∧a.length<549755813887∧c.length=1 then some (a.take b.toNat++c++a.drop b.toNat)else none
theorem dE(d:List Slt)(t:Int)(p:List Slt):KO Tryz.prog 66 2 [.ref (0,0) 0 0 d.length,vI t,.ref (0,1) 0 0 p.length] [⟨0,true,65,8,Af Ap d⟩,⟨0,true,65,8,Af B2 p⟩] (fun _ _ _ _=>True) (Ma d t p) E66 (oB p):=⟨fun l H ks s θ n c f j z y hy=>by
 obtain⟨⟨v,D,E,w⟩,hy⟩:=B0 hy
 cases hy
 obtain⟨i,rfl⟩:=oQ v
 rw[YX]
 match p,w with
 |[x],_=>
  have ev:Af B2 [x]=Af Ap [x]:=by simp[Af,GI]
  dsimp only[oB]
  rw[ev]at j⊢
  by_cases hi:i=d.length
  ·subst hi
   refine(ZV9 d (d.length:Int) [x]).k l H ks s θ n c f j z _ ?_
   show(Vv d (d.length:Int) [x]).m=_
   dsimp only[Vv,sR,vz,Ah,bF,bT,A7,aq,Ji,lr]
   simp[Bd.c,Bd.vl]
   omega
  ·match ks,n,c,f,j with
   |[m,h],_,c,f,j=>
    have A:H m=⟨_,true,.t 65,8,Af Ap d⟩:=(j.1.2 rfl).trans (Mf (A2 _ _))
    have u:H h=⟨_,true,.t 65,8,Af Ap [x]⟩:=(j.2.1.2 rfl).trans (Mf (A2 _ _))
    have o:m≠h:=fun e=>by subst e;simp at f
    have hl:(d.take i++[x]++d.drop i).length=d.length+1:=by
     simp only[Yo,Yy,DW,EW,YP]
     omega
    refine ZwE c.1 c.2.1 o d x i (by omega) (by omega) A u ⟨?_,?_⟩
    ·show _=AV.ref _ _ _ _
     rw[hl]
     rfl
    ·have B:=Mf (r:=Ck l [m,h] s θ H) (k:=(0,0)) (g:=1) (e:=65) (sz:=8) (A2 Ap (d.take i++[x]++d.drop i))
     have C:=Mf (r:=Ck l [m,h] s θ H) (k:=(0,1)) (g:=0) (e:=65) (sz:=8) (A2 Ap [x])
     refine Eq.trans ?_ (congr (congrArg (fun a b=>updH (updH H m a) h b) B) C).symm
     show _=updH (updH H m _) h _
     rw[←u]
     funext q
     by_cases e:q=h
     ·subst e
      rw[AO,AJ _ _ o.symm]
     ·rw[AJ (k:=h) _ _ e]
      simp⟩
abbrev FJ(a:Slt):Ad×Blk:=((1,17),⟨1,true,65,8,Af B2 ([a]:List Slt)⟩)
abbrev MK:Ad×Blk:=((1,14),⟨0,false,0,0,[]⟩)
abbrev Zf(a:Slt):Ad×Blk:=((1,3),⟨1,true,65,8,(cD (B2 a))⟩)
abbrev nW:List Slt→AV:=fun y=>vL Ap y
def KN(a:List Slt):PT 0 (List Slt):=vz (fr a)<|lr nW nG a
def ZU(d:List Slt)(b:Slt)(v2:Int):PT 0 (List Slt):=tw (ch Tryz.prog 53 [vL Ap d] [(1,14)] ([MK]++[]) (Kd d) (fun z=>.ref (1,14) 1 0 z.length) (fun z=>[((1,14),⟨1,true,65,8,Af Ap z⟩)]) fun c=>wg<|wg<|ch Tryz.prog 66 [.ref (1,14) 1 0 c.length,vI v2,.ref (1,17) 1 0 ([b]:List Slt).length] [(1,14),(1,17)] ([((1,14),⟨1,true,65,8,Af Ap c⟩),(FJ b)]++[]) (Ma c v2 ([b]:List Slt)) (fun z=>.ref (1,14) 2 0 z.length) (fun z=>[((1,14),⟨2,true,65,8,Af Ap z⟩),(FJ b)]) fun a=>vz (fl a)<|lc (Ab [(4,.ref (1,14) 0 0 a.length)] [kk 14 65 8 (Af Ap a)]) ((KN a).m)) (wg<|tw (ch Tryz.prog 53 [vL Ap d] [(1,14)] ([MK]++[]) (Kd d) (fun z=>.ref (1,14) 1 0 z.length) (fun z=>[((1,14),⟨1,true,65,8,Af Ap z⟩)]) fun c=>wg<|ch Tryz.prog 66 [.ref (1,14) 1 0 c.length,vI v2,.ref (1,17) 1 0 ([b]:List Slt).length] [(1,14),(1,17)] ([((1,14),⟨1,true,65,8,Af Ap c⟩),(FJ b)]++[]) (Ma c v2 ([b]:List Slt)) (fun z=>.ref (1,14) 2 0 z.length) (fun z=>[((1,14),⟨2,true,65,8,Af Ap z⟩),(FJ b)]) fun a=>vz (fl a)<|lc (Ab [(4,.ref (1,14) 0 0 a.length)] [kk 14 65 8 (Af Ap a)]) ((KN a).m)) (wg<|ch Tryz.prog 53 [vL Ap d] [(1,14)] ([MK]++[]) (Kd d) (fun z=>.ref (1,14) 1 0 z.length) (fun z=>[((1,14),⟨1,true,65,8,Af Ap z⟩)]) fun c=>ch Tryz.prog 66 [.ref (1,14) 1 0 c.length,vI v2,.ref (1,17) 1 0 ([b]:List Slt).length] [(1,14),(1,17)] ([((1,14),⟨1,true,65,8,Af Ap c⟩),(FJ b)]++[]) (Ma c v2 ([b]:List Slt)) (fun z=>.ref (1,14) 2 0 z.length) (fun z=>[((1,14),⟨2,true,65,8,Af Ap z⟩),(FJ b)]) fun a=>vz (fl a)<|lc (Ab [(4,.ref (1,14) 0 0 a.length)] [kk 14 65 8 (Af Ap a)]) ((KN a).m)))
def kT(a:List Slt)(b:Slt):Int→St:=fun v2=>Ab [(0,vL Ap a),pp 3,(5,vI v2)] [kk 3 65 8 (cD (B2 b))]
def Ug(a:List Slt)(b:Slt):Int→Option (List Slt):=fun v2=>(ZU a b v2).m
def ZZ(a:List Slt)(b:Slt):PT 0 (List Slt):=cs Tryz.prog 55 [vL Ap a,.fn (.func 65) [] [.ptr (1,3) 1 0]] [(1,3)] [(Zf b)] (L9 a (fun(z0:Slt)=>Tn z0 b)) (fun y=>vI y) fun c=>br (decide (c<(0:Int))) (vz (Ah a)<|lc (kT a b (a.length:Int)) (Ug a b (a.length:Int))) (lc (kT a b c) (Ug a b c))
def OD(a:List Slt)(b:Slt):Option (List Slt):=(ZZ a b).m
theorem S3(c:List Slt)(a:Slt):KC Tryz.prog 31 [vL Ap c,.agg ((B2 a).map .d)] (OD c a) nW:=As Tryz.func31 Tryz.ntmps31 Aa [.tmp 4] fun C co y hm m d=>ZVw co Aa Ac 3 (ZZ c a) (Ae [0,3,5] ZXn) nl nH hm d (kT c a) (Ug c a) (fun v2 _ hm d=>sq (Fg co Aa Ac (.fst 0 (.fst 2 (.two 1 3 (.fst 3 (.fst 4 (.fst 5 (.fst 6 .nil)))) (.two 1 4 (.fst 4 (.fst 5 (.fst 6 .nil))) (.fst 1 (.fst 5 (.fst 6 .nil))))))) [] (ZU c a v2) (Ae [4] [((1,14),true)]) hm d fun r g=>⟨⟨fun z b=>Eg (Sc c) b co g [MK] [] [((1,14),⟨1,true,65,8,Af Ap z⟩)] (AN []) (fun f hg i=>trivial) (fun H=>⟨(fun h=>by cases h),by kernel_rfl,trivial⟩) (fun H=>⟨fun _=>⟨rfl,BA (A2 _ _) (by kernel_rfl)⟩,by kernel_rfl,trivial⟩),fun z=>trivial,fun e=>⟨fun z b=>Eg (dE e v2 ([a]:List Slt)) b co g [((1,14),⟨1,true,65,8,Af Ap e⟩),(FJ a)] [] [((1,14),⟨2,true,65,8,Af Ap z⟩),(FJ a)] (AN []) (fun f hg i=>trivial) (fun H=>⟨fun _=>⟨rfl,BA (A2 _ _) (by kernel_rfl)⟩,by kernel_rfl,⟨fun _=>⟨rfl,BA (A2 _ _) (by kernel_rfl)⟩,by kernel_rfl,trivial⟩⟩) (fun H=>⟨fun _=>⟨rfl,BA (A2 _ _) (by kernel_rfl)⟩,by kernel_rfl,⟨fun _=>⟨rfl,BA (A2 _ _) (by kernel_rfl)⟩,by kernel_rfl,trivial⟩⟩),fun z=>trivial,fun j=>fun _ hm d=>Ao co Aa Ac (KN j) hm d fun r g=>id⟩⟩,⟨⟨fun z b=>Eg (Sc c) b co g [MK] [] [((1,14),⟨1,true,65,8,Af Ap z⟩)] (AN []) (fun f hg i=>trivial) (fun H=>⟨(fun h=>by cases h),by kernel_rfl,trivial⟩) (fun H=>⟨fun _=>⟨rfl,BA (A2 _ _) (by kernel_rfl)⟩,by kernel_rfl,trivial⟩),fun z=>trivial,fun e=>⟨fun z b=>Eg (dE e v2 ([a]:List Slt)) b co g [((1,14),⟨1,true,65,8,Af Ap e⟩),(FJ a)] [] [((1,14),⟨2,true,65,8,Af Ap z⟩),(FJ a)] (AN []) (fun f hg i=>trivial) (fun H=>⟨fun _=>⟨rfl,BA (A2 _ _) (by kernel_rfl)⟩,by kernel_rfl,⟨fun _=>⟨rfl,BA (A2 _ _) (by kernel_rfl)⟩,by kernel_rfl,trivial⟩⟩) (fun H=>⟨fun _=>⟨rfl,BA (A2 _ _) (by kernel_rfl)⟩,by kernel_rfl,⟨fun _=>⟨rfl,BA (A2 _ _) (by kernel_rfl)⟩,by kernel_rfl,trivial⟩⟩),fun z=>trivial,fun j=>fun _ hm d=>Ao co Aa Ac (KN j) hm d fun r g=>id⟩⟩,⟨fun z b=>Eg (Sc c) b co g [MK] [] [((1,14),⟨1,true,65,8,Af Ap z⟩)] (AN []) (fun f hg i=>trivial) (fun H=>⟨(fun h=>by cases h),by kernel_rfl,trivial⟩) (fun H=>⟨fun _=>⟨rfl,BA (A2 _ _) (by kernel_rfl)⟩,by kernel_rfl,trivial⟩),fun z=>trivial,fun e=>⟨fun z b=>Eg (dE e v2 ([a]:List Slt)) b co g [((1,14),⟨1,true,65,8,Af Ap e⟩),(FJ a)] [] [((1,14),⟨2,true,65,8,Af Ap z⟩),(FJ a)] (AN []) (fun f hg i=>trivial) (fun H=>⟨fun _=>⟨rfl,BA (A2 _ _) (by kernel_rfl)⟩,by kernel_rfl,⟨fun _=>⟨rfl,BA (A2 _ _) (by kernel_rfl)⟩,by kernel_rfl,trivial⟩⟩) (fun H=>⟨fun _=>⟨rfl,BA (A2 _ _) (by kernel_rfl)⟩,by kernel_rfl,⟨fun _=>⟨rfl,BA (A2 _ _) (by kernel_rfl)⟩,by kernel_rfl,trivial⟩⟩),fun z=>trivial,fun j=>fun _ hm d=>Ao co Aa Ac (KN j) hm d fun r g=>id⟩⟩,fun _ h=>h⟩,fun _ h=>h⟩)) fun k r g=>⟨fun y hy=>B6 (di c (fun(z0:Slt)=>Tn z0 a)) hy co g [] [(Zf a)] (AN [(1,.fn (.func 65) [] [.ptr (r.κ (1,3)) (r.γ (1,3)+1) 0])]) (fun f hg i=>(fun z0 y b=>D1 (ZZs z0 a) b co g [(Zf a)] [] hg (by simp) (fun _=>.top) (fun _ _=>trivial) (fun l H=>⟨fun _=>⟨rfl,by kernel_rfl⟩,by kernel_rfl,trivial⟩))) (fun H=>trivial),fun n=>⟨k (c.length:Int),k n⟩⟩
end Go.Proofs.YthgmbpciandpiaaGreat
