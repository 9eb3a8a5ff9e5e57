import Derived.Test.YthgmbpciandpiaaGreatNx21
import Derived.Test.YthgmbpciandpiaaGreatNx00
namespace Go.Proofs.YthgmbpciandpiaaGreat
set_option maxRecDepth 100000
set_option linter.all false
open Go Go.Eng
abbrev Ks(a:Scm):Ad×Blk:=kk 4 26 3 (cD (Al a))
abbrev K1(a:Fld):Ad×Blk:=kk 5 56 16 (cD (Ao a))
abbrev Qu(a:Val):Ad×Blk:=kk 6 33 7 (cD (Ag a))
def uJ(b:Scm)(c:Fld)(a:Val)(d:Int):Nat→St:=fun v2=>Ab [(3,vI d),pp 4,pp 5,(24,vL AM a.list),(25,vN a.list.length),(26,vN v2)] [(Ks b),(K1 c)]
def wd:Unit→Nat×St:=fun _=>(1,Ab [] [])
def XC(b:Scm)(c:Fld)(d:Val)(e:Int)(a:Scm→Fld→Val→Int→Option (Int))(v2:Nat):PT 0 (Lv (Nat) (Unit) (Int)):=br (decide ((v2:Int)<(d.list.length:Int))) (ix d.list v2 fun f=>wg<|wg<|wg<|wg<|cs Tryz.prog 230 [.agg ((Al b).map .d),.agg ((DJ c.type).map .d),.agg ((Ag f).map .d),vI e] [] [] (Mq a b c.type f e) (fun y=>vI y) fun g=>br (!decide (g=(0:Int))) (Ar C6 nG g) (vs (wa v2 1)<|ln (uJ b c d e) (v2+1))) (Ai (wd) ())
def PE(b:Scm)(c:Fld)(d:Val)(e:Int)(a:Scm→Fld→Val→Int→Option (Int)):Nat→Option (Lv (Nat) (Unit) (Int)):=fun v2=>(XC b c d e a v2).m
def nO:PT 0 (Int):=lr C6 nG 0
def n0(c:Scm)(d:Fld)(b:Val)(e:Int)(a:Scm→Fld→Val→Int→Option (Int)):PT 0 (Int):=wg<|vz (Ah b.list)<|lc (Ab [(3,vI e),pp 4,pp 5,(24,vL AM b.list),(25,vN b.list.length),(26,vI 0)] [(Ks c),(K1 d)]) ((An (PE c d b e a) Aj 0).bind (Sum.elim (fun _=>(nO).m) some))
def mc(c:Scm)(d:Fld)(b:Val)(e:Int)(a:Scm→Fld→Val→Int→Option (Int)):PT 0 (Int):=wg<|wg<|Az (!(!decide (b.kind=(11:Int)))) (SY b) fun f=>br ((!decide (b.kind=(11:Int)))||f) (lr C6 nG 12) (lc (Ab [(3,vI e),pp 4,pp 5,pp 6] [(Ks c),(K1 d),(Qu b)]) ((n0 c d b e a).m))
def lj(b:Scm)(c:Fld)(d:Val)(e:Int)(a:Scm→Fld→Val→Int→Option (Int)):PT 0 (Int):=wg<|wg<|wg<|cs Tryz.prog 230 [.agg ((Al b).map .d),.agg ((DJ c.type).map .d),.agg ((Ag d).map .d),vI e] [] [] (Mq a b c.type d e) (fun y=>vI y) fun f=>lr C6 nG f
def qp(d:Scm)(c:Fld)(b:Val)(e:Int)(a:Scm→Fld→Val→Int→Option (Int)):PT 0 (Int):=br (decide (c.card=(5:Int))) (wg<|wg<|Az (!(!decide (b.kind=(12:Int)))) (SY b) fun f=>br ((!decide (b.kind=(12:Int)))||f) (lr C6 nG 12) (wg<|wg<|wg<|cs Tryz.prog 231 [.agg ((Al d).map .d),.agg ((Ao c).map .d),vL Ay b.pairs,vI e] [] [] (U1 a d c b.pairs e) (fun y=>vI y) fun g=>lr C6 nG g)) (lc (Ab [(3,vI e),pp 4,pp 5,pp 6] [(Ks d),(K1 c),(Qu b)]) ((lj d c b e a).m))
def oh(c:Scm)(b:Fld)(d:Val)(e:Int)(a:Scm→Fld→Val→Int→Option (Int)):PT 0 (Int):=lc (Ab [(3,vI e),pp 4,pp 5,pp 6,(13,vI b.card),(14,vB (decide (b.card=(4:Int))))] [(Ks c),(K1 b),(Qu d)]) (if decide (b.card=(4:Int))=true then(mc c b d e a).m else(qp c b d e a).m)
def qq(c:Scm)(b:Fld)(d:Val)(e:Int)(a:Scm→Fld→Val→Int→Option (Int)):PT 0 (Int):=wg<|lc (Ab [(3,vI e),pp 4,pp 5,pp 6,(13,vI b.card)] [(Ks c),(K1 b),(Qu d)]) ((oh c b d e a).m)
def l6(b:Scm)(c:Fld)(d:Val)(e:Int)(a:Scm→Fld→Val→Int→Option (Int)):PT 0 (Int):=lc (Ab [(3,vI e),pp 4,pp 5,pp 6] [(Ks b),(K1 c),(Qu d)]) ((qq b c d e a).m)
def Sg(a:Scm→Fld→Val→Int→Option (Int))(b:Scm)(c:Fld)(d:Val)(e:Int):Option (Int):=(l6 b c d e a).m
theorem ZzP{C:Cx}(co:CO C 0)(b:Scm)(c:Fld)(e:Val)(d:Int)(a:Scm→Fld→Val→Int→Option (Int))(h:∀(b:Scm) (c:Fld) (e:Val) (d:Int),KC Tryz.prog 219 [.agg ((Al b).map .d),.agg ((Ao c).map .d),.agg ((Ag e).map .d),vI d] (a b c e d) C6):KL Tryz.prog (AB tl) 61 C (pa [0,0,1,0,1,0,1,0,1,0,1] (Aw Tryz.f219)) [.tmp 8] 0 (uJ b c e d) (wd) C6 nG (PE b c e d a):=fun v2 _ hm Q i l k=>Av co Aa Ac (XC b c e d a v2) (Ae [3,4,5,24,25,26] Kl) nl l hm k fun r g=>⟨fun f=>⟨fun y hy j _ _=>by rw[(Ib a h b c.type f d).x,(Ib a h b c.type f d).e];exact(Ib a h b c.type f d).k _ j y hy,fun m=>⟨id,id⟩⟩,id⟩
theorem ZPK(a:Scm→Fld→Val→Int→Option (Int))(h:∀(c:Scm) (b:Fld) (d:Val) (e:Int),KC Tryz.prog 219 [.agg ((Al c).map .d),.agg ((Ao b).map .d),.agg ((Ag d).map .d),vI e] (a c b d e) C6)(c:Scm)(b:Fld)(d:Val)(e:Int):KC Tryz.prog 219 [.agg ((Al c).map .d),.agg ((Ao b).map .d),.agg ((Ag d).map .d),vI e] (Sg a c b d e) C6:=Au Tryz.func219 Tryz.ntmps219 Aa [.tmp 8] fun C co y hm j f=>Ak co Aa Ac 1 (l6 c b d e a) (Ae [3,4,5,6] F4) nl nH hm f fun r g=>fun _ hm f=>sq (Ak co Aa Ac 1 (qq c b d e a) (Ae [3,4,5,6,13] F4) nl nH hm f fun r g=>fun _ hm f=>bk 0 (Ak co Aa Ac 1 (oh c b d e a) (Ae [3,4,5,6,13,14] F4) nl nH hm f fun r g=>fun _ hm f=>cd (decide (b.card=(4:Int))) hm (fun hm=>Ak co Aa Ac 1 (mc c b d e a) (Ae [3,4,5,6] F4) nl nH hm f fun r g=>fun k=>⟨id,fun _ hm f=>sq (Ak co Aa Ac 1 (n0 c b d e a) (Ae [3,4,5,24,25,26] Kl) nl nH hm f fun r g=>fun _ hm f=>bk 1 (lo (AF (ZzP co c b d e a h) nH hm f (fun _ hm=>Av co Aa Ac (nO) nl nl nH hm f fun r g=>id))))⟩) (fun hm=>Av co Aa Ac (qp c b d e a) (Ae [3,4,5,6] F4) nl nH hm f fun r g=>⟨fun l=>⟨id,⟨fun y hy i _ _=>by rw[(aK a h c b d.pairs e).x,(aK a h c b d.pairs e).e];exact(aK a h c b d.pairs e).k _ i y hy,fun m=>id⟩⟩,fun _ hm f=>Ap co Aa Ac (lj c b d e a) hm f fun r g=>⟨fun y hy i _ _=>by rw[(Ib a h c b.type d e).x,(Ib a h c b.type d e).e];exact(Ib a h c b.type d e).k _ i y hy,fun n=>id⟩⟩)))
def KH:Nat→Scm→Fld→Val→Int→Option (Int)
 |0=>fun _ _ _ _=>none
 |a+1=>Sg (KH a)
theorem xS:∀(e:Nat) (a:Scm) (b:Fld) (c:Val) (d:Int),KC Tryz.prog 219 [.agg ((Al a).map .d),.agg ((Ao b).map .d),.agg ((Ag c).map .d),vI d] (KH e a b c d) C6
 |0,a,b,c,d=>⟨fun _ _ _ h=>(by cases h),by intro r;kernel_rfl,by intro r y;kernel_rfl⟩
 |e+1,a,b,c,d=>ZPK (KH e) (xS e) a b c d
abbrev eV:List Val→AV:=fun y=>.ref (0,0) 1 0 y.length
@[reducible] def eU:List Val→List Blk:=fun y=>[⟨1,true,33,7,Af AM y⟩]
def lA(a:List Val):PT 1 (List Val):=al AM a false fun b=>br b (vw .sep<|vw (.ads 2 2 33 7)<|mv 2 0 ([]:List Val)<|lr eV (eU) ([]:List Val)) (a0 a<|mv 7 0 a<|lr eV (eU) a)
def UU(a:List Val):Option (List Val):=(lA a).m
theorem ZWt(a:List Val):KO Tryz.prog 223 1 [vL AM a] [⟨0,false,0,0,[]⟩] (fun _ _ _ _=>True) (UU a) eV (eU):=Bi Tryz.func223 Tryz.ntmps223 Aa [.tmp 2] 1 (fun C co f y hm c d=>Ap co Aa Ac (lA a) hm d fun r g=>⟨fun e=>⟨id,id⟩,by intro b h;subst h;cases b<;>rfl⟩) (hB:=fun y=>⟨.inl (A6 _ _),rfl,trivial⟩)
abbrev M9(a:Val):Ad×Blk:=kk 1 33 7 (cD (Ag a))
abbrev Tl:List Val→AV:=fun y=>vL AM y
def uf(a:Val):List Val×Nat→St:=fun(b,v3)=>Ab [pp 1,(3,.ref (1,10) 0 0 b.length),(12,vL Ay a.pairs),(13,vN a.pairs.length),(14,vN v3)] [(M9 a),kk 10 33 7 (Af AM b)]
def ve(b:Val):List Val→Nat×St:=fun a=>(0,Ab [pp 1,(3,.ref (1,10) 0 0 a.length)] [(M9 b),kk 10 33 7 (Af AM a)])
def WJ(c:Val)(b:List Val)(v3:Nat):PT 0 (Lv (List Val×Nat) (List Val) (List Val)):=br (decide ((v3:Int)<(c.pairs.length:Int))) (ix c.pairs v3 fun a=>wg<|wg<|wg<|vw .sep<|qK b (a.key:Val) a.val<|vs (wa v3 1)<|vz (fl (b++([a.key,a.val])))<|ln (uf c) (b++([a.key,a.val]),v3+1)) (vz (fl b)<|Ai (ve c) b)
def PQ(a:Val):List Val×Nat→Option (Lv (List Val×Nat) (List Val) (List Val)):=fun(b,v3)=>(WJ a b v3).m
def vV(a:Val):List Val×Nat→St:=fun(b,c)=>Ab [(3,.ref (1,10) 0 0 b.length),(27,vL Am a.slots),(28,vN a.slots.length),(29,vN c)] [kk 10 33 7 (Af AM b)]
def vC:List Val→Nat×St:=fun a=>(2,Ab [(3,.ref (1,10) 0 0 a.length)] [kk 10 33 7 (Af AM a)])
def Wi(d:Val)(a:List Val)(b:Nat):PT 0 (Lv (List Val×Nat) (List Val) (List Val)):=br (decide ((b:Int)<(d.slots.length:Int))) (ix d.slots b fun c=>wg<|wg<|vw .sep<|ap a (c.val:Val)<|vs (wa b 1)<|vz (fl (a++[c.val]))<|ln (vV d) (a++[c.val],b+1)) (vz (fl a)<|Ai (vC) a)
def PS(a:Val):List Val×Nat→Option (Lv (List Val×Nat) (List Val) (List Val)):=fun(b,c)=>(Wi a b c).m
def mm(a:List Val):PT 0 (List Val):=vz (fr a)<|lr Tl nG a
def l9(a:Val)(b:List Val):PT 0 (List Val):=wg<|vz (Ah a.slots)<|vz (fl b)<|lc (Ab [(3,.ref (1,10) 0 0 b.length),(27,vL Am a.slots),(28,vN a.slots.length),(29,vI 0)] [kk 10 33 7 (Af AM b)]) ((An (PS a) Aj (b,0)).bind (Sum.elim (fun c=>(mm c).m) some))
def qs(a:Val)(b:List Val):PT 0 (List Val):=wg<|vz (Ah a.pairs)<|vz (fl b)<|lc (Ab [pp 1,(3,.ref (1,10) 0 0 b.length),(12,vL Ay a.pairs),(13,vN a.pairs.length),(14,vI 0)] [(M9 a),kk 10 33 7 (Af AM b)]) ((An (PQ a) Aj (b,0)).bind (Sum.elim (fun c=>(l9 a c).m) some))
def pZ(b:Val)(a:List Val):PT 0 (List Val):=vz (fl a)<|lc (Ab [pp 1,(3,.ref (1,10) 0 0 a.length)] [(M9 b),kk 10 33 7 (Af AM a)]) ((qs b a).m)
def ni(a:Val):PT 0 (List Val):=wg<|lc (Ab [pp 1,(9,vL AM a.list)] [(M9 a)]) ((UU a.list).bind fun b=>(pZ a b).m)
def nf(a:Val):PT 0 (List Val):=lc (Ab [pp 1] [(M9 a)]) ((ni a).m)
def iT(a:Val):Option (List Val):=(nf a).m
theorem ZA3{C:Cx}(co:CO C 0)(a:Val):KL Tryz.prog (AB tl) 40 C (pa [0,0,1,0,1,1] (Aw Tryz.f200)) [.tmp 2] 0 (uf a) (ve a) Tl nG (PQ a):=fun(e,v3) _ hm Q b d c=>Av co Aa Ac (WJ a e v3) (Ae [1,3,12,13,14] GC) (Ae [1,3] GC) d hm c fun r g=>⟨fun f=>id,id⟩
theorem ZzX{C:Cx}(co:CO C 0)(a:Val):KL Tryz.prog (AB tl) 40 C (pa [0,0,1,0,1,1,1] (Aw Tryz.f200)) [.tmp 2] 0 (vV a) (vC) Tl nG (PS a):=fun(e,f) _ hm Q b d c=>Av co Aa Ac (Wi a e f) (Ae [3,27,28,29] [((1,10),true)]) (Ae [3] [((1,10),true)]) d hm c fun r g=>⟨fun h=>id,id⟩
theorem ZVN(b:Val):KC Tryz.prog 200 [.agg ((Ag b).map .d)] (iT b) Tl:=Au Tryz.func200 Tryz.ntmps200 Aa [.tmp 2] fun C co y hm c a=>Ak co Aa Ac 1 (nf b) (Ae [1] Cd) nl nH hm a fun r g=>fun _ hm a=>sq (rg (BK co Aa 2 (ni b) (Ae [1,9] Cd) hm a fun r g=>fun _ hm a=>Ig co hm 223 [vL AM b.list] [(1,10)] ([((1,10),⟨0,false,0,0,[]⟩)]++[]) (fun z=>.ref (1,10) 1 0 z.length) (fun z=>[((1,10),⟨1,true,33,7,Af AM z⟩)]) [] (fun z=>trivial) (trivial) (fun z e r g=>Ej (ZWt b.list) e co g [((1,10),⟨0,false,0,0,[]⟩)] [] [((1,10),⟨1,true,33,7,Af AM z⟩)] (AP []) (fun j k l=>trivial) (fun H=>⟨(fun h=>by cases h),by kernel_rfl,trivial⟩) (fun H=>⟨fun _=>⟨rfl,Bz (A6 _ _) (by kernel_rfl)⟩,by kernel_rfl,trivial⟩)) fun d hm=>Bf co Aa (pZ b d) (Ae [1,3] GC) hm a fun r g=>fun _ hm a=>sq (Ak co Aa Ac 1 (qs b d) (Ae [1,3,12,13,14] GC) nl nH hm a fun r g=>fun _ hm a=>bk 0 (lo (AF (ZA3 co b) nH hm a (fun f hm=>sq (Ak co Aa Ac 1 (l9 b f) (Ae [3,27,28,29] [((1,10),true)]) nl nH hm a fun r g=>fun _ hm a=>bk 2 (lo (AF (ZzX co b) nH hm a (fun i hm=>Ap co Aa Ac (mm i) hm a fun r g=>id))))))))))
abbrev LN:Int→AV:=fun y=>vI y
def u5(a:List Val):Int×Nat→St:=fun(v2,v3)=>Ab [(3,vI v2),(11,vL AM a),(12,vN a.length),(13,vN v3)] []
def wt:Int→Nat×St:=fun a=>(0,Ab [(3,vI a)] [])
def WT(a:Val→Option (Int))(b:List Val)(v2:Int)(v3:Nat):PT 0 (Lv (Int×Nat) (Int) (Int)):=br (decide ((v3:Int)<(b.length:Int))) (ix b v3 fun c=>wg<|wg<|cs Tryz.prog 175 [.agg ((Ag c).map .d)] [] [] (a c) (fun y=>vI y) fun d=>vs (wi (v2+d))<|vs (wa v3 1)<|ln (u5 b) ((v2+d),v3+1)) (Ai (wt) v2)
def PZ(a:Val→Option (Int))(b:List Val):Int×Nat→Option (Lv (Int×Nat) (Int) (Int)):=fun(v2,v3)=>(WT a b v2 v3).m
def mF(a:Int):PT 0 (Int):=lr LN nG a
def oV(c:Val)(a:Val→Option (Int)):PT 0 (Int):=wg<|cl (ZVN c) fun b=>vz (Ah b)<|lc (Ab [(3,vN (1+c.raws.length)),(11,vL AM b),(12,vN b.length),(13,vI 0)] []) ((An (PZ a b) Aj (((1+c.raws.length:Nat):Int),0)).bind (Sum.elim (fun d=>(mF d).m) some))
def n5(b:Val)(a:Val→Option (Int)):PT 0 (Int):=wg<|vz (Ah b.raws)<|vs (wa 1 b.raws.length)<|lc (Ab [pp 1,(3,vN (1+b.raws.length))] [kk 1 33 7 (cD (Ag b))]) ((oV b a).m)
def SQ(a:Val→Option (Int))(b:Val):Option (Int):=(n5 b a).m
theorem ZzZ{C:Cx}(co:CO C 0)(a:Val→Option (Int))(d:List Val)(c:∀(f:Val),KC Tryz.prog 175 [.agg ((Ag f).map .d)] (a f) LN):KL Tryz.prog (AB tl) 23 C (pa [0,0,1,0,1,1] (Aw Tryz.f175)) [.tmp 2] 0 (u5 d) (wt) LN nG (PZ a d):=fun(v2,v3) _ hm Q e j i=>Av co Aa Ac (WT a d v2 v3) (AH [3,11,12,13]) (AH [3]) j hm i fun r g=>⟨fun b=>⟨fun y hy h _ _=>by rw[(c b).x,(c b).e];exact(c b).k _ h y hy,fun k=>id⟩,id⟩
theorem ZSR(a:Val→Option (Int))(e:∀(b:Val),KC Tryz.prog 175 [.agg ((Ag b).map .d)] (a b) LN)(b:Val):KC Tryz.prog 175 [.agg ((Ag b).map .d)] (SQ a b) LN:=Au Tryz.func175 Tryz.ntmps175 Aa [.tmp 2] fun C co y hm d c=>Ak co Aa Ac 2 (n5 b a) (Ae [1,3] Cd) nl nH hm c fun r g=>fun _ hm c=>sq (Ak co Aa Ac 1 (oV b a) (AH [3,11,12,13]) nl nH hm c fun r g=>fun h=>fun _ hm c=>bk 0 (lo (AF (ZzZ co a h e) nH hm c (fun f hm=>Ap co Aa Ac (mF f) hm c fun r g=>id))))
def Mm:Nat→Val→Option (Int)
 |0=>fun _=>none
 |a+1=>SQ (Mm a)
theorem zj:∀(b:Nat) (a:Val),KC Tryz.prog 175 [.agg ((Ag a).map .d)] (Mm b a) LN
 |0,a=>⟨fun _ _ _ h=>(by cases h),by intro r;kernel_rfl,by intro r y;kernel_rfl⟩
 |b+1,a=>ZSR (Mm b) (zj b) a
abbrev Ot:Int→AV:=fun y=>vI y
def lR(a:Scm)(e:ByteArray)(b:Val):PT 0 (Int):=wg<|cl (UE a e) fun c=>wg<|br (!c.2) (lr Ot nG 10) (wg<|wg<|wg<|cl (RU (KH Aj) (xS Aj) a c.1 b 1) fun d=>br (!decide (d=(0:Int))) (lr Ot nG d) (wg<|cl (zj Aj b) fun f=>br (decide ((4096:Int)<f)) (lr Ot nG 3) (lr Ot nG 0)))
def iR(a:Scm)(b:ByteArray)(c:Val):Option (Int):=(lR a b c).m
theorem ZVv(a:Scm)(b:ByteArray)(c:Val):KC Tryz.prog 144 [.agg ((Al a).map .d),vS b,.agg ((Ag c).map .d)] (iR a b c) Ot:=Au Tryz.func144 Tryz.ntmps144 Aa [.tmp 6] fun C co y hm d e=>Ap co Aa Ac (lR a b c) hm e fun r g=>fun f=>⟨id,fun h=>⟨id,fun i=>⟨id,id⟩⟩⟩
abbrev Lt:Bool→AV:=fun y=>vB y
def bV(b:Scm)(a:Typ)(c:Val):PT 0 (Bool):=wg<|br (decide (a.kind=(10:Int))) (wg<|wg<|wg<|cl (ZVv b a.name c) fun d=>lr Lt nG (decide (d=(0:Int)))) (wg<|cl (LG a.kind) fun e=>br (!e) (lr Lt nG false) (wg<|br (decide (a.kind=(9:Int))) (wg<|wg<|cl (UB b a.name) fun f=>wg<|br (!f.2) (lr Lt nG false) (wg<|wg<|wg<|cl (S7 b a c) fun g=>lr Lt nG (decide (g=(0:Int))))) (wg<|wg<|wg<|cl (S7 b a c) fun h=>lr Lt nG (decide (h=(0:Int))))))
def iH(a:Scm)(b:Typ)(c:Val):Option (Bool):=(bV a b c).m
theorem ZW9(a:Scm)(b:Typ)(c:Val):KC Tryz.prog 98 [.agg ((Al a).map .d),.agg ((DJ b).map .d),.agg ((Ag c).map .d)] (iH a b c) Lt:=Au Tryz.func98 Tryz.ntmps98 Aa [.tmp 6] fun C co y hm d e=>Ap co Aa Ac (bV a b c) hm e fun r g=>⟨fun f=>id,fun h=>⟨id,⟨fun i=>⟨id,fun j=>id⟩,fun k=>id⟩⟩⟩
abbrev eb(a:Val):Ad×Blk:=((1,5),⟨1,true,33,7,(cD (Ag a))⟩)
abbrev Ls:Int→AV:=fun y=>vI y
def bo(d:Acs)(a:Typ)(c:Val):PT 0 (Int):=wg<|wg<|wg<|Az (decide (a.kind=(9:Int))) (eK a.kind c) fun e=>br (decide (a.kind=(9:Int))&&e) (wg<|wg<|cl (UB d.s a.name) fun b=>wg<|wg<|wg<|Dy (b.2&&(!b.1.opn)) Tryz.prog 96 [vL Cr b.1.items,.fn (.func 97) [] [.ptr (1,5) 1 0]] [(1,5)] [(eb c)] (OW b.1.items (fun(z0:Itm)=>UI z0 c)) (fun y=>vB y) fun f=>br ((b.2&&(!b.1.opn))&&(!f)) (lr Ls nG 16) (wg<|wg<|wg<|cl (ZW9 d.s a c) fun g=>br (!g) (lr Ls nG 12) (lr Ls nG 0))) (wg<|wg<|wg<|cl (ZW9 d.s a c) fun h=>br (!h) (lr Ls nG 12) (lr Ls nG 0))
def hI(a:Acs)(b:Typ)(c:Val):Option (Int):=(bo a b c).m
theorem fi(b:Acs)(c:Typ)(a:Val):KC Tryz.prog 60 [.agg ((Cc b).map .d),.agg ((DJ c).map .d),.agg ((Ag a).map .d)] (hI b c a) Ls:=Au Tryz.func60 Tryz.ntmps60 Aa [.tmp 6] fun C co y hm d e=>Ap co Aa Ac (bo b c a) hm e fun r g=>fun m=>⟨fun i=>⟨fun y hy=>B2 (ZYG i.1.items (fun(z0:Itm)=>UI z0 a)) hy co g [] [(eb a)] (AP [(1,.fn (.func 97) [] [.ptr (r.κ (1,5)) (r.γ (1,5)+1) 0])]) (fun j f k=>(fun z0 y h=>DY (ZZo z0 a) h co g [(eb a)] [] f (by simp) (fun _=>.top) (fun _ _=>trivial) (fun l H=>⟨fun _=>⟨rfl,by kernel_rfl⟩,by kernel_rfl,trivial⟩))) (fun H=>trivial),fun n=>⟨id,fun o=>⟨id,id⟩⟩⟩,fun p=>⟨id,id⟩⟩
abbrev rQ:Bool→AV:=fun y=>vB y
def ci(a:Val):PT 0 (Bool):=wg<|wg<|wg<|vy (decide (a.bits=(0:Int))&&decide (a.text=(⟨#[]⟩:ByteArray))) (Ah a.slots)<|wg<|vy (decide (a.bits=(0:Int))&&decide (a.text=(⟨#[]⟩:ByteArray))) (Ah a.raws)<|vg (decide (a.bits=(0:Int))&&decide (a.text=(⟨#[]⟩:ByteArray))) (wa a.slots.length a.raws.length)<|lr rQ nG ((decide (a.bits=(0:Int))&&decide (a.text=(⟨#[]⟩:ByteArray)))&&decide (((a.slots.length+a.raws.length:Nat):Int)=(0:Int)))
def is(a:Val):Option (Bool):=(ci a).m
theorem ZYe(a:Val):KC Tryz.prog 91 [.agg ((Ag a).map .d)] (is a) rQ:=Au Tryz.func91 Tryz.ntmps91 Aa [.tmp 2] fun C co y hm b c=>Ap co Aa Ac (ci a) hm c fun r g=>id
abbrev TJ:List (Ad×Bool):=[((1,3),false),((1,4),false),((1,5),false)]
abbrev Z2(a:Acs):Ad×Blk:=kk 3 68 8 (cD (Cc a))
abbrev eF(a:Fld):Ad×Blk:=kk 4 56 16 (cD (Ao a))
abbrev NM:Int→AV:=fun y=>vI y
def yL(b:Acs)(c:Fld)(a:Val):Nat→St:=fun v2=>Ab [pp 3,pp 4,(25,vL AM a.list),(26,vN a.list.length),(27,vN v2)] [(Z2 b),(eF c)]
def zf:Unit→Nat×St:=fun _=>(0,Ab [] [])
def RY(b:Acs)(c:Fld)(a:Val)(v2:Nat):PT 0 (Lv (Nat) (Unit) (Int)):=br (decide ((v2:Int)<(a.list.length:Int))) (ix a.list v2 fun e=>wg<|wg<|wg<|wg<|cl (fi b c.type e) fun d=>br (!decide (d=(0:Int))) (Ar NM nG d) (vs (wa v2 1)<|ln (yL b c a) (v2+1))) (Ai (zf) ())
def Qe(a:Acs)(b:Fld)(c:Val):Nat→Option (Lv (Nat) (Unit) (Int)):=fun v2=>(RY a b c v2).m
def b7:PT 0 (Int):=lr NM nG 0
def cG(b:Acs)(c:Fld)(a:Val):PT 0 (Int):=wg<|vz (Ah a.list)<|lc (Ab [pp 3,pp 4,(25,vL AM a.list),(26,vN a.list.length),(27,vI 0)] [(Z2 b),(eF c)]) ((An (Qe b c a) Aj 0).bind (Sum.elim (fun _=>(b7).m) some))
def aa(b:Acs)(c:Fld)(a:Val):PT 0 (Int):=wg<|wg<|Az (!(!decide (a.kind=(11:Int)))) (ZYe a) fun d=>wg<|vy (!((!decide (a.kind=(11:Int)))||(!d))) (Ah a.pairs)<|br (((!decide (a.kind=(11:Int)))||(!d))||decide ((0:Int)<(a.pairs.length:Int))) (lr NM nG 12) (lc (Ab [pp 3,pp 4,pp 5] [(Z2 b),(eF c),kk 5 33 7 (cD (Ag a))]) ((cG b c a).m))
def hJ(a:Acs)(b:Fld)(c:Val):Option (Int):=(aa a b c).m
theorem ZJ2{C:Cx}(co:CO C 0)(a:Acs)(b:Fld)(c:Val):KL Tryz.prog (AB tl) 40 C (pa [0,0,1,0,1,1] (Aw Tryz.f58)) [.tmp 6] 0 (yL a b c) (zf) NM nG (Qe a b c):=fun v2 _ hm Q d f e=>Av co Aa Ac (RY a b c v2) (Ae [3,4,25,26,27] QW) nl f hm e fun r g=>⟨fun h=>fun i=>⟨id,id⟩,id⟩
theorem ZZe(b:Acs)(c:Fld)(d:Val):KC Tryz.prog 58 [.agg ((Cc b).map .d),.agg ((Ao c).map .d),.agg ((Ag d).map .d)] (hJ b c d) NM:=Au Tryz.func58 Tryz.ntmps58 Aa [.tmp 6] fun C co y hm e a=>Ak co Aa Ac 2 (aa b c d) (Ae [3,4,5] TJ) nl nH hm a fun r g=>fun f=>⟨id,fun _ hm a=>sq (Ak co Aa Ac 1 (cG b c d) (Ae [3,4,25,26,27] QW) nl nH hm a fun r g=>fun _ hm a=>bk 0 (lo (AF (ZJ2 co b c d) nH hm a (fun _ hm=>Ap co Aa Ac (b7) hm a fun r g=>id))))⟩
abbrev rS:Bool→AV:=fun y=>vB y
@[reducible] def r9(w0:Pr):Bool→List Blk:=fun y=>[⟨0,true,85,14,(cD (Dp w0))⟩]
def aU(a:Pr)(w0:Pr):PT 1 (Bool):=wg<|wg<|cl (fY w0.key a.key) fun b=>lr rS (r9 w0) b
def ON(a:Pr)(w0:Pr):Option (Bool):=(aU a w0).m
theorem ZZv(a:Pr)(w0:Pr):KO Tryz.prog 94 1 [.agg ((Dp a).map .d),.ptr (0,0) 0 0] [⟨0,true,85,14,(cD (Dp w0))⟩] (fun _ _ _ _=>True) (ON a w0) rS (r9 w0):=Bi Tryz.func94 Tryz.ntmps94 Aa [.tmp 3] 1 (fun C co d y hm b c=>Ap co Aa Ac (aU a w0) hm c fun r g=>fun e=>id) (hB:=fun y=>⟨.inr (by kernel_rfl),rfl,trivial⟩)
abbrev cg(a:Acs):Ad×Blk:=kk 3 68 8 (cD (Cc a))
abbrev ZQ(a:Fld):Ad×Blk:=kk 4 56 16 (cD (Ao a))
abbrev az(a:Val):Ad×Blk:=kk 5 33 7 (cD (Ag a))
abbrev JH:Int→AV:=fun y=>vI y
def yO(b:Acs)(c:Fld)(a:Val):Nat→St:=fun v2=>Ab [pp 3,pp 4,pp 5,(25,vL Ay a.pairs),(26,vN a.pairs.length),(27,vN v2)] [(cg b),(ZQ c),(az a)]
def xO:Unit→Nat×St:=fun _=>(0,Ab [] [])
def QD(e:Acs)(c:Fld)(b:Val)(v2:Nat):PT 0 (Lv (Nat) (Unit) (Int)):=br (decide ((v2:Int)<(b.pairs.length:Int))) (ix b.pairs v2 fun a=>wg<|wg<|wg<|cl (eK c.key a.key) fun g=>br (!g) (Ar JH nG 12) (wg<|sL b.pairs .no (.nt v2) fun d=>cs Tryz.prog 93 [vL Ay d,.fn (.func 94) [] [.ptr (1,8) 1 0]] [(1,8)] [((1,8),⟨1,true,85,14,(cD (Dp a))⟩)] (Kz d (fun(z0:Pr)=>ON z0 a)) (fun y=>vB y) fun h=>br h (Ar JH nG 9) (wg<|wg<|wg<|cl (fi e c.type a.val) fun f=>br (!decide (f=(0:Int))) (Ar JH nG f) (vs (wa v2 1)<|ln (yO e c b) (v2+1))))) (Ai (xO) ())
def Nn(a:Acs)(b:Fld)(c:Val):Nat→Option (Lv (Nat) (Unit) (Int)):=fun v2=>(QD a b c v2).m
def aG:PT 0 (Int):=lr JH nG 0
def dg(b:Acs)(c:Fld)(a:Val):PT 0 (Int):=wg<|vz (Ah a.pairs)<|lc (Ab [pp 3,pp 4,pp 5,(25,vL Ay a.pairs),(26,vN a.pairs.length),(27,vI 0)] [(cg b),(ZQ c),(az a)]) ((An (Nn b c a) Aj 0).bind (Sum.elim (fun _=>(aG).m) some))
def bS(b:Acs)(c:Fld)(a:Val):PT 0 (Int):=wg<|wg<|Az (!(!decide (a.kind=(12:Int)))) (ZYe a) fun d=>wg<|vy (!((!decide (a.kind=(12:Int)))||(!d))) (Ah a.list)<|br (((!decide (a.kind=(12:Int)))||(!d))||decide ((0:Int)<(a.list.length:Int))) (lr JH nG 12) (lc (Ab [pp 3,pp 4,pp 5] [(cg b),(ZQ c),(az a)]) ((dg b c a).m))
def gp(a:Acs)(b:Fld)(c:Val):Option (Int):=(bS a b c).m
theorem ZKi{C:Cx}(co:CO C 0)(b:Acs)(c:Fld)(d:Val):KL Tryz.prog (AB tl) 54 C (pa [0,0,1,0,1,1] (Aw Tryz.f59)) [.tmp 6] 0 (yO b c d) (xO) JH nG (Nn b c d):=fun v2 _ hm Q e h f=>Av co Aa Ac (QD b c d v2) (Ae [3,4,5,25,26,27] TJ) nl h hm f fun r g=>⟨fun a=>fun o=>⟨id,fun k=>⟨fun y hy=>B2 (ZXT k (fun(z0:Pr)=>ON z0 a)) hy co g [] [((1,8),⟨1,true,85,14,(cD (Dp a))⟩)] (AP [(1,.fn (.func 94) [] [.ptr (r.κ (1,8)) (r.γ (1,8)+1) 0])]) (fun m i n=>(fun z0 y j=>DY (ZZv z0 a) j co g [((1,8),⟨1,true,85,14,(cD (Dp a))⟩)] [] i (by simp) (fun _=>.top) (fun _ _=>trivial) (fun l H=>⟨fun _=>⟨rfl,by kernel_rfl⟩,by kernel_rfl,trivial⟩))) (fun H=>trivial),fun p=>⟨id,fun q=>⟨id,id⟩⟩⟩⟩,id⟩
theorem ZZa(b:Acs)(c:Fld)(d:Val):KC Tryz.prog 59 [.agg ((Cc b).map .d),.agg ((Ao c).map .d),.agg ((Ag d).map .d)] (gp b c d) JH:=Au Tryz.func59 Tryz.ntmps59 Aa [.tmp 6] fun C co y hm e a=>Ak co Aa Ac 2 (bS b c d) (Ae [3,4,5] TJ) nl nH hm a fun r g=>fun f=>⟨id,fun _ hm a=>sq (Ak co Aa Ac 1 (dg b c d) (Ae [3,4,5,25,26,27] TJ) nl nH hm a fun r g=>fun _ hm a=>bk 0 (lo (AF (ZKi co b c d) nH hm a (fun _ hm=>Ap co Aa Ac (aG) hm a fun r g=>id))))⟩
abbrev Q0:Int→AV:=fun y=>vI y
def dq(b:Acs)(a:Fld)(c:Val):PT 0 (Int):=wg<|br (decide (a.card=(4:Int))) (wg<|wg<|wg<|cl (ZZe b a c) fun d=>lr Q0 nG d) (br (decide (a.card=(5:Int))) (wg<|wg<|wg<|cl (ZZa b a c) fun e=>lr Q0 nG e) (wg<|wg<|wg<|cl (fi b a.type c) fun f=>lr Q0 nG f))
def gZ(a:Acs)(b:Fld)(c:Val):Option (Int):=(dq a b c).m
theorem ZYZ(a:Acs)(b:Fld)(c:Val):KC Tryz.prog 28 [.agg ((Cc a).map .d),.agg ((Ao b).map .d),.agg ((Ag c).map .d)] (gZ a b c) Q0:=Au Tryz.func28 Tryz.ntmps28 Aa [.tmp 6] fun C co y hm d e=>Ap co Aa Ac (dq a b c) hm e fun r g=>⟨fun f=>id,⟨fun h=>id,fun i=>id⟩⟩
abbrev rJ:Bool→AV:=fun y=>vB y
def cT(a:Val):PT 0 (Bool):=wg<|cl (LG a.kind) fun b=>wg<|Az b (ZXm a) fun c=>wg<|wg<|lr rJ nG (((b&&c)&&decide (a.bits=(0:Int)))&&decide (a.text=(⟨#[]⟩:ByteArray)))
def iz(a:Val):Option (Bool):=(cT a).m
theorem ZZk(a:Val):KC Tryz.prog 64 [.agg ((Ag a).map .d)] (iz a) rJ:=Au Tryz.func64 Tryz.ntmps64 Aa [.tmp 2] fun C co y hm b c=>Ap co Aa Ac (cT a) hm c fun r g=>fun d=>fun e=>id
abbrev rr:Bool→AV:=fun y=>vB y
def eo(b:Fld)(a:Val):PT 0 (Bool):=wg<|wg<|Az (decide (b.card=(3:Int))) (ZZk a) fun c=>wg<|wg<|vy ((!(decide (b.card=(3:Int))&&c))&&decide (a.kind=(11:Int))) (Ah a.list)<|wg<|wg<|vy ((!((decide (b.card=(3:Int))&&c)||(decide (a.kind=(11:Int))&&decide ((a.list.length:Int)=(0:Int)))))&&decide (a.kind=(12:Int))) (Ah a.pairs)<|lr rr nG (((decide (b.card=(3:Int))&&c)||(decide (a.kind=(11:Int))&&decide ((a.list.length:Int)=(0:Int))))||(decide (a.kind=(12:Int))&&decide ((a.pairs.length:Int)=(0:Int))))
def ia(a:Fld)(b:Val):Option (Bool):=(eo a b).m
theorem ZY4(a:Fld)(b:Val):KC Tryz.prog 30 [.agg ((Ao a).map .d),.agg ((Ag b).map .d)] (ia a b) rr:=Au Tryz.func30 Tryz.ntmps30 Aa [.tmp 4] fun C co y hm c d=>Ap co Aa Ac (eo a b) hm d fun r g=>fun e=>id
abbrev rK:Bool→AV:=fun y=>vB y
@[reducible] def r6(w0:Slt):Bool→List Blk:=fun y=>[⟨0,true,65,8,(cD (BW w0))⟩]
def ZSr(a:Slt)(w0:Slt):PT 1 (Bool):=wg<|wg<|lr rK (r6 w0) (decide (w0.num<a.num))
def U2(a:Slt)(w0:Slt):Option (Bool):=(ZSr a w0).m
theorem ZYO(a:Slt)(w0:Slt):KO Tryz.prog 65 1 [.agg ((BW a).map .d),.ptr (0,0) 0 0] [⟨0,true,65,8,(cD (BW w0))⟩] (fun _ _ _ _=>True) (U2 a w0) rK (r6 w0):=Bi Tryz.func65 Tryz.ntmps65 Aa [.tmp 3] 1 (fun C co d y hm b c=>Ap co Aa Ac (ZSr a w0) hm c fun r g=>id) (hB:=fun y=>⟨.inr (by kernel_rfl),rfl,trivial⟩)
abbrev ZXB:List Slt→AV:=fun y=>.ref (0,0) 1 0 y.length
@[reducible] def ZYB(a:List Slt):List Slt→List Blk:=fun y=>[⟨1,true,65,8,Af Am y⟩,⟨0,true,65,8,Af Am a⟩]
def Wj(b:List Slt)(c:Int)(a:List Slt):PT 2 (List Slt):=sR b.length 0 (.it c) .no<|vz (A9 a.length)<|bF (decide ((a.length:Int)=(0:Int)))<|vz (A9 b.length)<|bT (decide (c=(b.length:Int)))<|ar b a (0,1) 0<|Hm 0 (Af Am a) (fun _=>Zpr _)<|lr ZXB (ZYB a) (b++a)
def ZiE(a:List Slt)(b:Int)(c:List Slt):Option (List Slt):=(Wj a b c).m
theorem ZVo(b:List Slt)(c:Int)(a:List Slt):KO Tryz.prog 66 2 [.ref (0,0) 0 0 b.length,vI c,.ref (0,1) 0 0 a.length] [⟨0,true,65,8,Af Am b⟩,⟨0,true,65,8,Af Am a⟩] (fun _ _ _ _=>True) (ZiE b c a) ZXB (ZYB a):=Bi Tryz.func66 Tryz.ntmps66 Aa [.tmp 6] 2 (fun C co f y hm d e=>Ap co Aa Ac (Wj b c a) hm e fun r g=>id) (hB:=fun y=>⟨.inl (A6 _ _),rfl,⟨.inl (A6 _ _),rfl,trivial⟩⟩)
abbrev E66:List Slt→AV:=fun y=>.ref (0,0) 1 0 y.length
@[reducible] def r7(a:List Slt):List Slt→List Blk:=fun y=>[⟨1,true,65,8,Af Am y⟩,⟨0,true,65,8,Af BW a⟩]
def Mn(a:List Slt)(b:Int)(c:List Slt):Option (List Slt):=if 0≤b∧b≤a.length∧a.length<549755813887∧c.length=1 then some (a.take b.toNat++c++a.drop b.toNat)else none
theorem gb(d:List Slt)(t:Int)(p:List Slt):KO Tryz.prog 66 2 [.ref (0,0) 0 0 d.length,vI t,.ref (0,1) 0 0 p.length] [⟨0,true,65,8,Af Am d⟩,⟨0,true,65,8,Af BW p⟩] (fun _ _ _ _=>True) (Mn d t p) E66 (r7 p):=⟨fun l H ks s θ n c f j z y hy=>by
 obtain⟨⟨v,D,E,w⟩,hy⟩:=BU hy
 cases hy
 obtain⟨i,rfl⟩:=RA v
 rw[YY]
 match p,w with
 |[x],_=>
  have ev:Af BW [x]=Af Am [x]:=by simp[Af,H2]
  dsimp only[r7]
  rw[ev]at j⊢
  by_cases hi:i=d.length
  ·subst hi
   refine(ZVo d (d.length:Int) [x]).k l H ks s θ n c f j z _ ?_
   show(Wj d (d.length:Int) [x]).m=_
   dsimp only[Wj,sR,vz,Ah,bF,bT,A9,aq,Hm,lr]
   simp[Bd.c,Bd.vl]
   omega
  ·match ks,n,c,f,j with
   |[m,h],_,c,f,j=>
    have A:H m=⟨_,true,.t 65,8,Af Am d⟩:=(j.1.2 rfl).trans (Mt (A6 _ _))
    have u:H h=⟨_,true,.t 65,8,Af Am [x]⟩:=(j.2.1.2 rfl).trans (Mt (A6 _ _))
    have o:m≠h:=fun e=>by subst e;simp at f
    have hl:(d.take i++[x]++d.drop i).length=d.length+1:=by
     simp only[Yq,Yu,DB,FE,YU]
     omega
    refine Zvt c.1 c.2.1 o d x i (by omega) (by omega) A u ⟨?_,?_⟩
    ·show _=AV.ref _ _ _ _
     rw[hl]
     rfl
    ·have B:=Mt (r:=Cj l [m,h] s θ H) (k:=(0,0)) (g:=1) (e:=65) (sz:=8) (A6 Am (d.take i++[x]++d.drop i))
     have C:=Mt (r:=Cj l [m,h] s θ H) (k:=(0,1)) (g:=0) (e:=65) (sz:=8) (A6 Am [x])
     refine Eq.trans ?_ (congr (congrArg (fun a b=>updH (updH H m a) h b) B) C).symm
     show _=updH (updH H m _) h _
     rw[←u]
     funext q
     by_cases e:q=h
     ·subst e
      rw[AQ,AJ _ _ o.symm]
     ·rw[AJ (k:=h) _ _ e]
      simp⟩
abbrev FN(a:Slt):Ad×Blk:=((1,17),⟨1,true,65,8,Af BW ([a]:List Slt)⟩)
abbrev Ni:Ad×Blk:=((1,14),⟨0,false,0,0,[]⟩)
abbrev ZY(a:Slt):Ad×Blk:=((1,3),⟨1,true,65,8,(cD (BW a))⟩)
abbrev ru:List Slt→AV:=fun y=>vL Am y
def K6(a:List Slt):PT 0 (List Slt):=vz (fr a)<|lr ru nG a
def ei(d:List Slt)(b:Slt)(v2:Int):PT 0 (List Slt):=tw (ch Tryz.prog 53 [vL Am d] [(1,14)] ([Ni]++[]) (KE d) (fun z=>.ref (1,14) 1 0 z.length) (fun z=>[((1,14),⟨1,true,65,8,Af Am z⟩)]) fun c=>wg<|wg<|ch Tryz.prog 66 [.ref (1,14) 1 0 c.length,vI v2,.ref (1,17) 1 0 ([b]:List Slt).length] [(1,14),(1,17)] ([((1,14),⟨1,true,65,8,Af Am c⟩),(FN b)]++[]) (Mn c v2 ([b]:List Slt)) (fun z=>.ref (1,14) 2 0 z.length) (fun z=>[((1,14),⟨2,true,65,8,Af Am z⟩),(FN b)]) fun a=>vz (fl a)<|lc (Ab [(4,.ref (1,14) 0 0 a.length)] [kk 14 65 8 (Af Am a)]) ((K6 a).m)) (wg<|tw (ch Tryz.prog 53 [vL Am d] [(1,14)] ([Ni]++[]) (KE d) (fun z=>.ref (1,14) 1 0 z.length) (fun z=>[((1,14),⟨1,true,65,8,Af Am z⟩)]) fun c=>wg<|ch Tryz.prog 66 [.ref (1,14) 1 0 c.length,vI v2,.ref (1,17) 1 0 ([b]:List Slt).length] [(1,14),(1,17)] ([((1,14),⟨1,true,65,8,Af Am c⟩),(FN b)]++[]) (Mn c v2 ([b]:List Slt)) (fun z=>.ref (1,14) 2 0 z.length) (fun z=>[((1,14),⟨2,true,65,8,Af Am z⟩),(FN b)]) fun a=>vz (fl a)<|lc (Ab [(4,.ref (1,14) 0 0 a.length)] [kk 14 65 8 (Af Am a)]) ((K6 a).m)) (wg<|ch Tryz.prog 53 [vL Am d] [(1,14)] ([Ni]++[]) (KE d) (fun z=>.ref (1,14) 1 0 z.length) (fun z=>[((1,14),⟨1,true,65,8,Af Am z⟩)]) fun c=>ch Tryz.prog 66 [.ref (1,14) 1 0 c.length,vI v2,.ref (1,17) 1 0 ([b]:List Slt).length] [(1,14),(1,17)] ([((1,14),⟨1,true,65,8,Af Am c⟩),(FN b)]++[]) (Mn c v2 ([b]:List Slt)) (fun z=>.ref (1,14) 2 0 z.length) (fun z=>[((1,14),⟨2,true,65,8,Af Am z⟩),(FN b)]) fun a=>vz (fl a)<|lc (Ab [(4,.ref (1,14) 0 0 a.length)] [kk 14 65 8 (Af Am a)]) ((K6 a).m)))
def o8(a:List Slt)(b:Slt):Int→St:=fun v2=>Ab [(0,vL Am a),pp 3,(5,vI v2)] [kk 3 65 8 (cD (BW b))]
def VZ(a:List Slt)(b:Slt):Int→Option (List Slt):=fun v2=>(ei a b v2).m
def bu(a:List Slt)(b:Slt):PT 0 (List Slt):=cs Tryz.prog 55 [vL Am a,.fn (.func 65) [] [.ptr (1,3) 1 0]] [(1,3)] [(ZY b)] (Mk a (fun(z0:Slt)=>U2 z0 b)) (fun y=>vI y) fun c=>br (decide (c<(0:Int))) (vz (Ah a)<|lc (o8 a b (a.length:Int)) (VZ a b (a.length:Int))) (lc (o8 a b c) (VZ a b c))
def iQ(a:List Slt)(b:Slt):Option (List Slt):=(bu a b).m
theorem TP(c:List Slt)(a:Slt):KC Tryz.prog 31 [vL Am c,.agg ((BW a).map .d)] (iQ c a) ru:=Au Tryz.func31 Tryz.ntmps31 Aa [.tmp 4] fun C co y hm n d=>ZUN co Aa Ac 3 (bu c a) (Ae [0,3,5] ER) nl nH hm d (o8 c a) (VZ c a) (fun v2 _ hm d=>sq (Fp co Aa Ac (.fst 0 (.fst 2 (.two 1 3 (.fst 3 (.fst 4 (.fst 5 (.fst 6 .nil)))) (.two 1 4 (.fst 4 (.fst 5 (.fst 6 .nil))) (.fst 1 (.fst 5 (.fst 6 .nil))))))) [] (ei c a v2) (Ae [4] [((1,14),true)]) hm d fun r g=>⟨⟨fun z b=>Ej (Ub c) b co g [Ni] [] [((1,14),⟨1,true,65,8,Af Am z⟩)] (AP []) (fun i f j=>trivial) (fun H=>⟨(fun h=>by cases h),by kernel_rfl,trivial⟩) (fun H=>⟨fun _=>⟨rfl,Bz (A6 _ _) (by kernel_rfl)⟩,by kernel_rfl,trivial⟩),fun z=>trivial,fun e=>⟨fun z b=>Ej (gb e v2 ([a]:List Slt)) b co g [((1,14),⟨1,true,65,8,Af Am e⟩),(FN a)] [] [((1,14),⟨2,true,65,8,Af Am z⟩),(FN a)] (AP []) (fun i f j=>trivial) (fun H=>⟨fun _=>⟨rfl,Bz (A6 _ _) (by kernel_rfl)⟩,by kernel_rfl,⟨fun _=>⟨rfl,Bz (A6 _ _) (by kernel_rfl)⟩,by kernel_rfl,trivial⟩⟩) (fun H=>⟨fun _=>⟨rfl,Bz (A6 _ _) (by kernel_rfl)⟩,by kernel_rfl,⟨fun _=>⟨rfl,Bz (A6 _ _) (by kernel_rfl)⟩,by kernel_rfl,trivial⟩⟩),fun z=>trivial,fun k=>fun _ hm d=>Ap co Aa Ac (K6 k) hm d fun r g=>id⟩⟩,⟨⟨fun z b=>Ej (Ub c) b co g [Ni] [] [((1,14),⟨1,true,65,8,Af Am z⟩)] (AP []) (fun i f j=>trivial) (fun H=>⟨(fun h=>by cases h),by kernel_rfl,trivial⟩) (fun H=>⟨fun _=>⟨rfl,Bz (A6 _ _) (by kernel_rfl)⟩,by kernel_rfl,trivial⟩),fun z=>trivial,fun e=>⟨fun z b=>Ej (gb e v2 ([a]:List Slt)) b co g [((1,14),⟨1,true,65,8,Af Am e⟩),(FN a)] [] [((1,14),⟨2,true,65,8,Af Am z⟩),(FN a)] (AP []) (fun i f j=>trivial) (fun H=>⟨fun _=>⟨rfl,Bz (A6 _ _) (by kernel_rfl)⟩,by kernel_rfl,⟨fun _=>⟨rfl,Bz (A6 _ _) (by kernel_rfl)⟩,by kernel_rfl,trivial⟩⟩) (fun H=>⟨fun _=>⟨rfl,Bz (A6 _ _) (by kernel_rfl)⟩,by kernel_rfl,⟨fun _=>⟨rfl,Bz (A6 _ _) (by kernel_rfl)⟩,by kernel_rfl,trivial⟩⟩),fun z=>trivial,fun k=>fun _ hm d=>Ap co Aa Ac (K6 k) hm d fun r g=>id⟩⟩,⟨fun z b=>Ej (Ub c) b co g [Ni] [] [((1,14),⟨1,true,65,8,Af Am z⟩)] (AP []) (fun i f j=>trivial) (fun H=>⟨(fun h=>by cases h),by kernel_rfl,trivial⟩) (fun H=>⟨fun _=>⟨rfl,Bz (A6 _ _) (by kernel_rfl)⟩,by kernel_rfl,trivial⟩),fun z=>trivial,fun e=>⟨fun z b=>Ej (gb e v2 ([a]:List Slt)) b co g [((1,14),⟨1,true,65,8,Af Am e⟩),(FN a)] [] [((1,14),⟨2,true,65,8,Af Am z⟩),(FN a)] (AP []) (fun i f j=>trivial) (fun H=>⟨fun _=>⟨rfl,Bz (A6 _ _) (by kernel_rfl)⟩,by kernel_rfl,⟨fun _=>⟨rfl,Bz (A6 _ _) (by kernel_rfl)⟩,by kernel_rfl,trivial⟩⟩) (fun H=>⟨fun _=>⟨rfl,Bz (A6 _ _) (by kernel_rfl)⟩,by kernel_rfl,⟨fun _=>⟨rfl,Bz (A6 _ _) (by kernel_rfl)⟩,by kernel_rfl,trivial⟩⟩),fun z=>trivial,fun k=>fun _ hm d=>Ap co Aa Ac (K6 k) hm d fun r g=>id⟩⟩,fun _ h=>h⟩,fun _ h=>h⟩)) fun m r g=>⟨fun y hy=>B2 (fK c (fun(z0:Slt)=>U2 z0 a)) hy co g [] [(ZY a)] (AP [(1,.fn (.func 65) [] [.ptr (r.κ (1,3)) (r.γ (1,3)+1) 0])]) (fun i f j=>(fun z0 y b=>DY (ZYO z0 a) b co g [(ZY a)] [] f (by simp) (fun _=>.top) (fun _ _=>trivial) (fun l H=>⟨fun _=>⟨rfl,by kernel_rfl⟩,by kernel_rfl,trivial⟩))) (fun H=>trivial),fun o=>⟨m (c.length:Int),m o⟩⟩
end Go.Proofs.YthgmbpciandpiaaGreat
