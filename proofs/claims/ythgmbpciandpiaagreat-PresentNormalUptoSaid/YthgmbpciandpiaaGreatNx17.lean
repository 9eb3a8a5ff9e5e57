import Derived.Test.YthgmbpciandpiaaGreatNx16
import Derived.Test.YthgmbpciandpiaaGreatNx00
namespace Go.Proofs.YthgmbpciandpiaaGreat
set_option maxRecDepth 100000
set_option linter.all false
open Go Go.Eng
abbrev HI:List (Ad×Bool):=[((1,2),false),((1,3),false),((1,5),false),((1,1051),true)]
abbrev HT:List (Ad×Bool):=[((1,2),false),((1,3),false),((1,5),false),((1,7),false),((1,1051),true)]
abbrev C5(a:Svc):Ad×Blk:=kk 3 97 3 (cD (CV a))
abbrev Dm(a:Scm):Ad×Blk:=kk 2 26 3 (cD (Al a))
abbrev HK(a:Mth):Ad×Blk:=kk 7 99 5 (cD (G4 a))
abbrev TZ(a:Svc)(b:List Prb):Ad×Blk:=kk 5 134 2 [vS a.name,.ref (1,1051) 0 0 b.length]
abbrev Um(a:List Prb):Ad×Blk:=kk 1051 170 3 (Af AA a)
abbrev Dz(e:ByteArray)(z:List Prb):List (Ad×Blk):=[kk 5 134 2 [vS e,.ref (1,1051) 0 0 z.length],kk 1051 170 3 (Af AA z)]
abbrev Zd:List Prb→AV:=fun y=>vL AA y
def zi(c:Scm)(a:Svc):Nat×List Prb→St:=fun(v4,b)=>Ab [pp 2,pp 3,pp 5,(6,vN v4)] [(Dm c),(C5 a),(TZ a b),(Um b)]
def x2(b:Svc):List Prb→Nat×St:=fun a=>(0,Ab [pp 3,pp 5] [(C5 b),kk 5 134 2 [vS b.name,.ref (1,1051) 0 0 a.length],kk 1051 170 3 (Af AA a)])
def eI(b:Scm)(c:Svc)(v4:Nat)(a:List Prb):PT 0 (Lv (Nat×List Prb) (List Prb) (List Prb)):=vs (wa v4 1)<|vz (fl a)<|ln (zi b c) (v4+1,a)
def bj(c:Scm)(b:Svc)(v4:Nat)(a:List Prb):PT 0 (Lv (Nat×List Prb) (List Prb) (List Prb)):=vz (fl a)<|lc (Ab [pp 2,pp 3,pp 5,(6,vN v4)] [(Dm c),(C5 b),kk 5 134 2 [vS b.name,.ref (1,1051) 0 0 a.length],kk 1051 170 3 (Af AA a)]) ((eI c b v4 a).m)
def eC(e:Scm)(b:Svc)(v4:Nat)(d:Mth)(a:List Prb):PT 0 (Lv (Nat×List Prb) (List Prb) (List Prb)):=wg<|vz (fl a)<|lc (Ab [pp 2,pp 3,pp 5,(6,vN v4),(80,vL BS d.notes),(81,vN v4)] [(Dm e),(C5 b),kk 5 134 2 [vS b.name,.ref (1,1051) 0 0 a.length],kk 1051 170 3 (Af AA a)]) ((HU b.name a d.notes 6 (v4:Int)).bind fun c=>(bj e b v4 c).m)
def dJ(d:Scm)(b:Svc)(v4:Nat)(c:Mth)(a:List Prb):PT 0 (Lv (Nat×List Prb) (List Prb) (List Prb)):=vz (fl a)<|lc (Ab [pp 2,pp 3,pp 5,(6,vN v4),pp 7] [(Dm d),(C5 b),kk 5 134 2 [vS b.name,.ref (1,1051) 0 0 a.length],(HK c),kk 1051 170 3 (Af AA a)]) ((eC d b v4 c a).m)
def aj(e:Scm)(c:Svc)(v4:Nat)(b:Mth)(a:List Prb):PT 0 (Lv (Nat×List Prb) (List Prb) (List Prb)):=wg<|wg<|vz (fl a)<|lc (Ab [pp 2,pp 3,pp 5,(6,vN v4),pp 7,(76,vB (decide (b.shape<(1:Int))||decide ((4:Int)<b.shape))),(77,vN v4)] [(Dm e),(C5 c),kk 5 134 2 [vS c.name,.ref (1,1051) 0 0 a.length],(HK b),kk 1051 170 3 (Af AA a)]) ((BF c.name a (decide (b.shape<(1:Int))||decide ((4:Int)<b.shape)) (v4:Int) 1).bind fun d=>(dJ e c v4 b d).m)
def dW(d:Scm)(b:Svc)(v4:Nat)(c:Mth)(a:List Prb):PT 0 (Lv (Nat×List Prb) (List Prb) (List Prb)):=vz (fl a)<|lc (Ab [pp 2,pp 3,pp 5,(6,vN v4),pp 7] [(Dm d),(C5 b),kk 5 134 2 [vS b.name,.ref (1,1051) 0 0 a.length],(HK c),kk 1051 170 3 (Af AA a)]) ((aj d b v4 c a).m)
def bE(e:Scm)(f:Svc)(v4:Nat)(d:Mth)(a:List Prb):PT 0 (Lv (Nat×List Prb) (List Prb) (List Prb)):=wg<|wg<|cl (Qa e d.inn) fun b=>wg<|wg<|Az (!(decide (b<(0:Int)))) (Qa e d.out) fun c=>vz (fl a)<|lc (Ab [pp 2,pp 3,pp 5,(6,vN v4),pp 7,(66,vB (decide (b<(0:Int))||decide (c<(0:Int)))),(67,vN v4)] [(Dm e),(C5 f),kk 5 134 2 [vS f.name,.ref (1,1051) 0 0 a.length],(HK d),kk 1051 170 3 (Af AA a)]) ((BF f.name a (decide (b<(0:Int))||decide (c<(0:Int))) (v4:Int) 12).bind fun g=>(dW e f v4 d g).m)
def cu(d:Scm)(b:Svc)(v4:Nat)(c:Mth)(a:List Prb):PT 0 (Lv (Nat×List Prb) (List Prb) (List Prb)):=vz (fl a)<|lc (Ab [pp 2,pp 3,pp 5,(6,vN v4),pp 7] [(Dm d),(C5 b),kk 5 134 2 [vS b.name,.ref (1,1051) 0 0 a.length],(HK c),kk 1051 170 3 (Af AA a)]) ((bE d b v4 c a).m)
def cE(f:Scm)(b:Svc)(v4:Nat)(a:Mth)(d:List Prb):PT 0 (Lv (Nat×List Prb) (List Prb) (List Prb)):=wg<|wg<|vg (decide ((0:Int)<(v4:Int))) (wi ((v4:Int)-1))<|AZ (decide ((0:Int)<(v4:Int))) b.methods ((v4:Int)-1) fun c=>vz (fl d)<|lc (Ab [pp 2,pp 3,pp 5,(6,vN v4),pp 7,(52,vB (decide ((0:Int)<(v4:Int))&&(Bx a.name c.name||decide (a.name=c.name)))),(53,vN v4)] [(Dm f),(C5 b),kk 5 134 2 [vS b.name,.ref (1,1051) 0 0 d.length],(HK a),kk 1051 170 3 (Af AA d)]) ((BF b.name d (decide ((0:Int)<(v4:Int))&&(Bx a.name c.name||decide (a.name=c.name))) (v4:Int) 11).bind fun e=>(cu f b v4 a e).m)
def lY(d:Scm)(b:Svc)(v4:Nat)(c:Mth)(a:List Prb):PT 0 (Lv (Nat×List Prb) (List Prb) (List Prb)):=vz (fl a)<|lc (Ab [pp 2,pp 3,pp 5,(6,vN v4),pp 7] [(Dm d),(C5 b),kk 5 134 2 [vS b.name,.ref (1,1051) 0 0 a.length],(HK c),kk 1051 170 3 (Af AA a)]) ((cE d b v4 c a).m)
def mo(d:Scm)(a:Svc)(v4:Nat)(b:List Prb)(c:Mth):PT 0 (Lv (Nat×List Prb) (List Prb) (List Prb)):=wg<|cl (Sn c.name) fun e=>vz (fl b)<|lc (Ab [pp 2,pp 3,pp 5,(6,vN v4),pp 7,(36,vB (!e)),(37,vN v4)] [(Dm d),(C5 a),(TZ a b),(HK c),(Um b)]) ((BF a.name b (!e) (v4:Int) 8).bind fun f=>(lY d a v4 c f).m)
def mB(d:Scm)(a:Svc)(v4:Nat)(b:List Prb):PT 0 (Lv (Nat×List Prb) (List Prb) (List Prb)):=wg<|ix a.methods v4 fun c=>wg<|vz (fl b)<|lc (Ab [pp 2,pp 3,pp 5,(6,vN v4),pp 7] [(Dm d),(C5 a),(TZ a b),(HK c),(Um b)]) ((mo d a v4 b c).m)
def p6(c:Scm)(a:Svc)(v4:Nat)(b:List Prb):PT 0 (Lv (Nat×List Prb) (List Prb) (List Prb)):=wg<|vz (Ah a.methods)<|br (decide ((v4:Int)<(a.methods.length:Int))) (vz (fl b)<|lc (Ab [pp 2,pp 3,pp 5,(6,vN v4)] [(Dm c),(C5 a),(TZ a b),(Um b)]) ((mB c a v4 b).m)) (vz (fl b)<|Ai (x2 a) b)
def XO(a:Scm)(b:Svc):Nat×List Prb→Option (Lv (Nat×List Prb) (List Prb) (List Prb)):=fun(v4,c)=>(p6 a b v4 c).m
def n1(a:List Prb):PT 0 (List Prb):=wg<|vz (fr a)<|lr Zd nG a
def oC(b:Svc)(a:List Prb):PT 0 (List Prb):=vz (fl a)<|lc (Ab [pp 5] (Dz b.name a)) ((n1 a).m)
def qI(b:Svc)(a:List Prb):PT 0 (List Prb):=wg<|vz (fl a)<|lc (Ab [pp 5,(84,vL BS b.notes)] (Dz b.name a)) ((HU b.name a b.notes 5 (-1)).bind fun c=>(oC b c).m)
def qC(d:Scm)(a:Svc)(b:List Prb):PT 0 (List Prb):=vz (fl b)<|lc (Ab [pp 2,pp 3,pp 5,(6,vI 0)] [(Dm d),(C5 a),kk 5 134 2 [vS a.name,.ref (1,1051) 0 0 b.length],kk 1051 170 3 (Af AA b)]) ((An (XO d a) Aj (0,b)).bind (Sum.elim (fun c=>(qI a c).m) some))
def oB(c:Scm)(b:Svc)(a:List Prb):PT 0 (List Prb):=vz (fl a)<|lc (Ab [pp 2,pp 3,pp 5] [(Dm c),(C5 b),kk 5 134 2 [vS b.name,.ref (1,1051) 0 0 a.length],kk 1051 170 3 (Af AA a)]) ((qC c b a).m)
def kY(c:Scm)(a:Svc)(b:List Prb):PT 0 (List Prb):=wg<|vz (Ah a.methods)<|vz (fl b)<|lc (Ab [pp 2,pp 3,pp 5,(19,vB (decide ((64:Int)<(a.methods.length:Int))))] [(Dm c),(C5 a),kk 5 134 2 [vS a.name,.ref (1,1051) 0 0 b.length],kk 1051 170 3 (Af AA b)]) ((BF a.name b (decide ((64:Int)<(a.methods.length:Int))) (-1) 3).bind fun d=>(oB c a d).m)
def n8(c:Scm)(b:Svc)(a:List Prb):PT 0 (List Prb):=vz (fl a)<|lc (Ab [pp 2,pp 3,pp 5] [(Dm c),(C5 b),kk 5 134 2 [vS b.name,.ref (1,1051) 0 0 a.length],kk 1051 170 3 (Af AA a)]) ((kY c b a).m)
def mC(b:Scm)(a:Svc):PT 0 (List Prb):=vw (.adc (1,5) 1 1051 170 3)<|vw .sep<|wg<|cl (ee a.name) fun c=>vz (fl ([]:List Prb))<|lc (Ab [pp 2,pp 3,pp 5,(14,vB (!c))] [(Dm b),(C5 a),kk 5 134 2 [vS a.name,.ref (1,1051) 0 0 ([]:List Prb).length],kk 1051 170 3 (Af AA ([]:List Prb))]) ((BF a.name ([]:List Prb) (!c) (-1) 8).bind fun d=>(n8 b a d).m)
def pR(b:Scm)(a:Svc):PT 0 (List Prb):=wg<|wg<|lc (Ab [pp 2,pp 3,pp 5] [(Dm b),(C5 a),kk 5 134 2 [vS a.name,.e0]]) ((mC b a).m)
def gv(a:Scm)(b:Svc):Option (List Prb):=(pR a b).m
theorem ZLt{C:Cx}(co:CO C 0)(c:Scm)(a:Svc):KL Tryz.prog (AB tl) 88 C (pa [0,0,1,0,1,1,1,1] (Aw Tryz.f79)) [.tmp 4] 0 (zi c a) (x2 a) Zd nG (XO c a):=fun(v4,i) _ hm Q o l b=>Ak co Aa Ac 1 (p6 c a v4 i) (Ae [2,3,5,6] HI) (Ae [3,5] [((1,3),false),((1,5),false),((1,1051),true)]) l hm b fun r g=>⟨fun _ hm b=>sq (bk 1 (Ak co Aa Ac 1 (mB c a v4 i) (Ae [2,3,5,6,7] HT) nl l hm b fun r g=>fun d=>fun _ hm b=>sq (rg (BK co Aa 5 (mo c a v4 i d) (Ae [2,3,5,6,7,36,37] HT) hm b fun r g=>fun q=>fun _ hm b=>Bt co hm (BV a.name i (!q) (v4:Int) 8) (Dz a.name i) [] (fun z=>.tup []) (Dz a.name) [] fun k hm=>Bf co Aa (lY c a v4 d k) (Ae [2,3,5,6,7] HT) hm b fun r g=>fun _ hm b=>sq (Fk co Aa Ac 15 (cE c a v4 d k) (Ae [2,3,5,6,7,52,53] HT) hm b fun r g=>fun p=>fun _ hm b=>Bt co hm (BV a.name k (decide ((0:Int)<(v4:Int))&&(Bx d.name p.name||decide (d.name=p.name))) (v4:Int) 11) (Dz a.name k) [] (fun z=>.tup []) (Dz a.name) [] fun e hm=>Bf co Aa (cu c a v4 d e) (Ae [2,3,5,6,7] HT) hm b fun r g=>fun _ hm b=>sq (rg (BK co Aa 13 (bE c a v4 d e) (Ae [2,3,5,6,7,66,67] HT) hm b fun r g=>fun m=>fun n=>fun _ hm b=>Bt co hm (BV a.name e (decide (m<(0:Int))||decide (n<(0:Int))) (v4:Int) 12) (Dz a.name e) [] (fun z=>.tup []) (Dz a.name) [] fun f hm=>Bf co Aa (dW c a v4 d f) (Ae [2,3,5,6,7] HT) hm b fun r g=>fun _ hm b=>sq (rg (BK co Aa 9 (aj c a v4 d f) (Ae [2,3,5,6,7,76,77] HT) hm b fun r g=>fun _ hm b=>Bt co hm (BV a.name f (decide (d.shape<(1:Int))||decide ((4:Int)<d.shape)) (v4:Int) 1) (Dz a.name f) [] (fun z=>.tup []) (Dz a.name) [] fun h hm=>Bf co Aa (dJ c a v4 d h) (Ae [2,3,5,6,7] HT) hm b fun r g=>fun _ hm b=>rg (BK co Aa 3 (eC c a v4 d h) (Ae [2,3,5,6,80,81] HI) hm b fun r g=>fun _ hm b=>Bt co hm (Nq a.name h d.notes 6 (v4:Int)) (Dz a.name h) [] (fun z=>.tup []) (Dz a.name) [] fun j hm=>Bf co Aa (bj c a v4 j) (Ae [2,3,5,6] HI) hm b fun r g=>fun _ hm b=>Av co Aa Ac (eI c a v4 j) (Ae [2,3,5,6] HI) nl l hm b fun r g=>id)))))))))),id⟩
theorem ZXo(c:Scm)(a:Svc):KC Tryz.prog 79 [.agg ((Al c).map .d),.agg ((CV a).map .d)] (gv c a) Zd:=Au Tryz.func79 Tryz.ntmps79 Aa [.tmp 4] fun C co y hm h b=>Ak co Aa Ac 2 (pR c a) (Ae [2,3,5] [((1,2),false),((1,3),false),((1,5),false)]) nl nH hm b fun r g=>fun _ hm b=>sq (rg (BK co Aa 4 (mC c a) (Ae [2,3,5,14] HI) hm b fun r g=>fun j=>fun _ hm b=>Bt co hm (BV a.name ([]:List Prb) (!j) (-1) 8) (Dz a.name ([]:List Prb)) [] (fun z=>.tup []) (Dz a.name) [] fun f hm=>Bf co Aa (n8 c a f) (Ae [2,3,5] HI) hm b fun r g=>fun _ hm b=>sq (rg (BK co Aa 4 (kY c a f) (Ae [2,3,5,19] HI) hm b fun r g=>fun _ hm b=>Bt co hm (BV a.name f (decide ((64:Int)<(a.methods.length:Int))) (-1) 3) (Dz a.name f) [] (fun z=>.tup []) (Dz a.name) [] fun i hm=>Bf co Aa (oB c a i) (Ae [2,3,5] HI) hm b fun r g=>fun _ hm b=>sq (Ak co Aa Ac 1 (qC c a i) (Ae [2,3,5,6] HI) nl nH hm b fun r g=>fun _ hm b=>bk 0 (lo (AF (ZLt co c a) nH hm b (fun d hm=>sq (rg (BK co Aa 2 (qI a d) (Ae [5,84] [((1,5),false),((1,1051),true)]) hm b fun r g=>fun _ hm b=>Bt co hm (Nq a.name d a.notes 5 (-1)) (Dz a.name d) [] (fun z=>.tup []) (Dz a.name) [] fun e hm=>Bf co Aa (oC a e) (Ae [5] [((1,5),false),((1,1051),true)]) hm b fun r g=>fun _ hm b=>Ap co Aa Ac (n1 e) hm b fun r g=>id))))))))))
abbrev D6(a:Scm):Ad×Blk:=kk 1 26 3 (cD (Al a))
abbrev Oe(a:List Prb):Ad×Blk:=kk 3 134 2 [vS ⟨#[]⟩,.ref (1,1031) 0 0 a.length]
abbrev Ox(a:List Prb):Ad×Blk:=kk 1031 170 3 (Af AA a)
abbrev TL(a:List Prb):Ad×Blk:=kk 3 134 2 [vS ⟨#[]⟩,.ref (1,1031) 0 0 a.length]
abbrev TD(a:List Prb):Ad×Blk:=kk 1031 170 3 (Af AA a)
abbrev TR(a:List Prb):Ad×Blk:=kk 3 134 2 [vS ⟨#[]⟩,.ref (1,1031) 0 0 a.length]
abbrev TE(a:List Prb):Ad×Blk:=kk 1031 170 3 (Af AA a)
abbrev eR(a:List Prb):Ad×Blk:=kk 3 134 2 [vS ⟨#[]⟩,.ref (1,1031) 0 0 a.length]
abbrev Lr:List Prb→AV:=fun y=>vL AA y
def yJ(b:Scm):Nat×List Prb→St:=fun(c,a)=>Ab [pp 1,pp 3,(4,vN c)] [(D6 b),(Oe a),(Ox a)]
def zP(b:Scm):List Prb→Nat×St:=fun a=>(0,Ab [pp 1,pp 3] [(D6 b),(TL a),(TD a)])
def dD(c:Scm)(a:Nat)(b:List Prb):PT 0 (Lv (Nat×List Prb) (List Prb) (List Prb)):=vs (wa a 1)<|vz (fl b)<|ln (yJ c) (a+1,b)
def ai(b:Scm)(c:Nat)(a:List Prb):PT 0 (Lv (Nat×List Prb) (List Prb) (List Prb)):=vz (fl a)<|lc (Ab [pp 1,pp 3,(4,vN c)] [(D6 b),kk 3 134 2 [vS ⟨#[]⟩,.ref (1,1031) 0 0 a.length],kk 1031 170 3 (Af AA a)]) ((dD b c a).m)
def ZS(b:Scm)(c:Nat)(e:List ByteArray)(a:List Prb):PT 0 (Lv (Nat×List Prb) (List Prb) (List Prb)):=cl (ZZN e) fun d=>vz (fl a)<|lc (Ab [pp 1,pp 3,(4,vN c),(27,vB (!d))] [(D6 b),(eR a),kk 1031 170 3 (Af AA a)]) ((BF ⟨#[]⟩ a (!d) (-1) 11).bind fun f=>(ai b c f).m)
def dI(b:Scm)(c:Nat)(d:List ByteArray)(a:List Prb):PT 0 (Lv (Nat×List Prb) (List Prb) (List Prb)):=vz (fl a)<|lc (Ab [pp 1,pp 3,(4,vN c),(5,vL AW d)] [(D6 b),(eR a),kk 1031 170 3 (Af AA a)]) ((ZS b c d a).m)
def cV(c:Scm)(d:Nat)(b:List Prb)(a:List ByteArray):PT 0 (Lv (Nat×List Prb) (List Prb) (List Prb)):=vz (Ah a)<|vz (fl b)<|lc (Ab [pp 1,pp 3,(4,vN d),(5,vL AW a),(23,vB (decide ((64:Int)<(a.length:Int))))] [(D6 c),(Oe b),(Ox b)]) ((BF ⟨#[]⟩ b (decide ((64:Int)<(a.length:Int))) (-1) 3).bind fun e=>(dI c d a e).m)
def Z1(b:Scm)(c:Nat)(a:List Prb):PT 0 (Lv (Nat×List Prb) (List Prb) (List Prb)):=wg<|cl (UD b (c:Int)) fun d=>vz (fl a)<|lc (Ab [pp 1,pp 3,(4,vN c),(5,vL AW d)] [(D6 b),(Oe a),(Ox a)]) ((cV b c a d).m)
def aD(b:Scm)(c:Nat)(a:List Prb):PT 0 (Lv (Nat×List Prb) (List Prb) (List Prb)):=br (decide ((c:Int)≤(3:Int))) (vz (fl a)<|lc (Ab [pp 1,pp 3,(4,vN c)] [(D6 b),(Oe a),(Ox a)]) ((Z1 b c a).m)) (vz (fl a)<|Ai (zP b) a)
def RS(a:Scm):Nat×List Prb→Option (Lv (Nat×List Prb) (List Prb) (List Prb)):=fun(c,b)=>(aD a c b).m
def zK(d:Scm)(c:List Bool):Nat×List Prb→St:=fun(b,a)=>Ab [(1,.iptr (Al d) 0),pp 3,(9,vL AX c),(10,vN b)] [kk 3 134 2 [vS ⟨#[]⟩,.ref (1,1031) 0 0 a.length],kk 1031 170 3 (Af AA a)]
def ZRz(b:Scm):List Prb→Nat×St:=fun a=>(2,Ab [(1,.iptr (Al b) 0),pp 3] [kk 3 134 2 [vS ⟨#[]⟩,.ref (1,1031) 0 0 a.length],kk 1031 170 3 (Af AA a)])
def Qm(e:Scm)(d:List Bool)(b:Nat)(a:List Prb)(c:List Prb):PT 0 (Lv (Nat×List Prb) (List Prb) (List Prb)):=vs (wa b 1)<|vz (fl (a++c))<|ln (zK e d) (b+1,a++c)
def dX(e:Scm)(c:List Bool)(d:Nat)(b:List Prb):PT 0 (Lv (Nat×List Prb) (List Prb) (List Prb)):=ix e.messages d fun f=>tw (wg<|cl (ZXW e f c) fun a=>aq b a<|wg<|vz (fl (b++a))<|lc (Ab [(1,.iptr (Al e) 0),pp 3,(9,vL AX c),(10,vN d)] [kk 3 134 2 [vS ⟨#[]⟩,.ref (1,1031) 0 0 (b++a).length],kk 1031 170 3 (Af AA (b++a))]) ((Qm e c d b a).m)) (cl (ZXW e f c) fun a=>wg<|aq b a<|wg<|vz (fl (b++a))<|lc (Ab [(1,.iptr (Al e) 0),pp 3,(9,vL AX c),(10,vN d)] [kk 3 134 2 [vS ⟨#[]⟩,.ref (1,1031) 0 0 (b++a).length],kk 1031 170 3 (Af AA (b++a))]) ((Qm e c d b a).m))
def oP(c:Scm)(d:List Bool)(b:Nat)(a:List Prb):PT 0 (Lv (Nat×List Prb) (List Prb) (List Prb)):=vz (Ah c.messages)<|br (decide ((b:Int)<(c.messages.length:Int))) (vz (fl a)<|lc (Ab [(1,.iptr (Al c) 0),pp 3,(9,vL AX d),(10,vN b)] [kk 3 134 2 [vS ⟨#[]⟩,.ref (1,1031) 0 0 a.length],kk 1031 170 3 (Af AA a)]) ((dX c d b a).m)) (vz (fl a)<|Ai (ZRz c) a)
def Sj(d:Scm)(c:List Bool):Nat×List Prb→Option (Lv (Nat×List Prb) (List Prb) (List Prb)):=fun(b,a)=>(oP d c b a).m
def x9(c:Scm):Nat×List Prb→St:=fun(b,a)=>Ab [(1,.iptr (Al c) 0),pp 3,(11,vN b)] [kk 3 134 2 [vS ⟨#[]⟩,.ref (1,1031) 0 0 a.length],kk 1031 170 3 (Af AA a)]
def xq(b:Scm):List Prb→Nat×St:=fun a=>(4,Ab [(1,.iptr (Al b) 0),pp 3] [kk 3 134 2 [vS ⟨#[]⟩,.ref (1,1031) 0 0 a.length],kk 1031 170 3 (Af AA a)])
def PI(d:Scm)(b:Nat)(a:List Prb)(c:List Prb):PT 0 (Lv (Nat×List Prb) (List Prb) (List Prb)):=vs (wa b 1)<|vz (fl (a++c))<|ln (x9 d) (b+1,a++c)
def oA(e:Scm)(c:Nat)(b:List Prb):PT 0 (Lv (Nat×List Prb) (List Prb) (List Prb)):=ix e.enums c fun d=>tw (wg<|cl (ZWW d) fun a=>aq b a<|wg<|vz (fl (b++a))<|lc (Ab [(1,.iptr (Al e) 0),pp 3,(11,vN c)] [kk 3 134 2 [vS ⟨#[]⟩,.ref (1,1031) 0 0 (b++a).length],kk 1031 170 3 (Af AA (b++a))]) ((PI e c b a).m)) (cl (ZWW d) fun a=>wg<|aq b a<|wg<|vz (fl (b++a))<|lc (Ab [(1,.iptr (Al e) 0),pp 3,(11,vN c)] [kk 3 134 2 [vS ⟨#[]⟩,.ref (1,1031) 0 0 (b++a).length],kk 1031 170 3 (Af AA (b++a))]) ((PI e c b a).m))
def kR(c:Scm)(b:Nat)(a:List Prb):PT 0 (Lv (Nat×List Prb) (List Prb) (List Prb)):=vz (Ah c.enums)<|br (decide ((b:Int)<(c.enums.length:Int))) (vz (fl a)<|lc (Ab [(1,.iptr (Al c) 0),pp 3,(11,vN b)] [kk 3 134 2 [vS ⟨#[]⟩,.ref (1,1031) 0 0 a.length],kk 1031 170 3 (Af AA a)]) ((oA c b a).m)) (vz (fl a)<|Ai (xq c) a)
def XL(c:Scm):Nat×List Prb→Option (Lv (Nat×List Prb) (List Prb) (List Prb)):=fun(b,a)=>(kR c b a).m
def ZSE(c:Scm):Nat×List Prb→St:=fun(b,a)=>Ab [(1,.iptr (Al c) 0),pp 3,(12,vN b)] [kk 3 134 2 [vS ⟨#[]⟩,.ref (1,1031) 0 0 a.length],kk 1031 170 3 (Af AA a)]
def zT:List Prb→Nat×St:=fun a=>(6,Ab [pp 3] [kk 3 134 2 [vS ⟨#[]⟩,.ref (1,1031) 0 0 a.length],kk 1031 170 3 (Af AA a)])
def PP(d:Scm)(b:Nat)(a:List Prb)(c:List Prb):PT 0 (Lv (Nat×List Prb) (List Prb) (List Prb)):=vs (wa b 1)<|vz (fl (a++c))<|ln (ZSE d) (b+1,a++c)
def mz(d:Scm)(c:Nat)(b:List Prb):PT 0 (Lv (Nat×List Prb) (List Prb) (List Prb)):=ix d.services c fun e=>tw (wg<|cl (ZXo d e) fun a=>aq b a<|wg<|vz (fl (b++a))<|lc (Ab [(1,.iptr (Al d) 0),pp 3,(12,vN c)] [kk 3 134 2 [vS ⟨#[]⟩,.ref (1,1031) 0 0 (b++a).length],kk 1031 170 3 (Af AA (b++a))]) ((PP d c b a).m)) (cl (ZXo d e) fun a=>wg<|aq b a<|wg<|vz (fl (b++a))<|lc (Ab [(1,.iptr (Al d) 0),pp 3,(12,vN c)] [kk 3 134 2 [vS ⟨#[]⟩,.ref (1,1031) 0 0 (b++a).length],kk 1031 170 3 (Af AA (b++a))]) ((PP d c b a).m))
def o2(c:Scm)(b:Nat)(a:List Prb):PT 0 (Lv (Nat×List Prb) (List Prb) (List Prb)):=vz (Ah c.services)<|br (decide ((b:Int)<(c.services.length:Int))) (vz (fl a)<|lc (Ab [(1,.iptr (Al c) 0),pp 3,(12,vN b)] [kk 3 134 2 [vS ⟨#[]⟩,.ref (1,1031) 0 0 a.length],kk 1031 170 3 (Af AA a)]) ((mz c b a).m)) (vz (fl a)<|Ai (zT) a)
def Sy(c:Scm):Nat×List Prb→Option (Lv (Nat×List Prb) (List Prb) (List Prb)):=fun(b,a)=>(o2 c b a).m
def lh(a:List Prb):PT 0 (List Prb):=wg<|vz (fr a)<|lr Lr nG a
def qA(c:Scm)(a:List Prb):PT 0 (List Prb):=vz (fl a)<|lc (Ab [(1,.iptr (Al c) 0),pp 3,(12,vI 0)] [kk 3 134 2 [vS ⟨#[]⟩,.ref (1,1031) 0 0 a.length],kk 1031 170 3 (Af AA a)]) ((An (Sy c) Aj (0,a)).bind (Sum.elim (fun b=>(lh b).m) some))
def o7(b:Scm)(a:List Prb):PT 0 (List Prb):=vz (fl a)<|lc (Ab [(1,.iptr (Al b) 0),pp 3,(11,vI 0)] [kk 3 134 2 [vS ⟨#[]⟩,.ref (1,1031) 0 0 a.length],kk 1031 170 3 (Af AA a)]) ((An (XL b) Aj (0,a)).bind (Sum.elim (fun c=>(qA b c).m) some))
def m0(c:Scm)(a:List Prb)(b:List Bool):PT 0 (List Prb):=vw (.fzb 1 [1])<|vz (fl a)<|lc (Ab [(1,.iptr (Al c) 0),pp 3,(9,vL AX b),(10,vI 0)] [(TR a),(TE a)]) ((An (Sj c b) Aj (0,a)).bind (Sum.elim (fun d=>(o7 c d).m) some))
def qg(c:Scm)(a:List Prb)(b:List Bool):PT 0 (List Prb):=vz (fl a)<|lc (Ab [pp 1,pp 3,(9,vL AX b),(10,vI 0)] [(D6 c),(TR a),(TE a)]) ((m0 c a b).m)
def mW(c:Scm)(a:List Prb):PT 0 (List Prb):=wg<|cl (ZZg c) fun b=>vz (fl a)<|lc (Ab [pp 1,pp 3,(9,vL AX b)] [(D6 c),(TR a),(TE a)]) ((qg c a b).m)
def lW(b:Scm)(a:List Prb):PT 0 (List Prb):=vz (fl a)<|lc (Ab [pp 1,pp 3] [(D6 b),(TR a),(TE a)]) ((mW b a).m)
def oU(g:Scm)(e:List Prb)(h:List ByteArray)(i:List ByteArray)(c:List ByteArray):PT 0 (List Prb):=cl (eO h i) fun a=>Az (!a) (eO h c) fun b=>Az (!(a||b)) (eO i c) fun d=>vz (fl e)<|lc (Ab [pp 1,pp 3,(47,vB ((a||b)||d))] [(D6 g),(TL e),(TD e)]) ((BF ⟨#[]⟩ e ((a||b)||d) (-1) 9).bind fun f=>(lW g f).m)
def qy(a:Scm)(c:List Prb):PT 0 (List Prb):=wg<|cl (UD a 1) fun d=>wg<|cl (UD a 2) fun e=>wg<|cl (UD a 3) fun b=>vz (fl c)<|lc (Ab [pp 1,pp 3,(6,vL AW d),(7,vL AW e),(8,vL AW b)] [(D6 a),(TL c),(TD c)]) ((oU a c d e b).m)
def n6(a:Scm):PT 0 (List Prb):=vw (.adc (1,3) 1 1031 170 3)<|vz (fl ([]:List Prb))<|lc (Ab [pp 1,pp 3,(4,vI 1)] [(D6 a),kk 3 134 2 [vS ⟨#[]⟩,.ref (1,1031) 0 0 ([]:List Prb).length],kk 1031 170 3 (Af AA ([]:List Prb))]) ((An (RS a) Aj (1,([]:List Prb))).bind (Sum.elim (fun b=>(qy a b).m) some))
def nF(a:Scm):PT 0 (List Prb):=lc (Ab [pp 1,pp 3,(4,vI 1)] [(D6 a),kk 3 134 2 [vS ⟨#[]⟩,.e0]]) ((n6 a).m)
def oT(a:Scm):PT 0 (List Prb):=wg<|lc (Ab [pp 1,pp 3] [(D6 a),kk 3 134 2 [vS ⟨#[]⟩,.e0]]) ((nF a).m)
def gU(a:Scm):Option (List Prb):=(oT a).m
theorem ZKa{C:Cx}(co:CO C 0)(b:Scm):KL Tryz.prog (AB tl) 107 C (pa [0,0,1,0,1,1] (Aw Tryz.f39)) [.tmp 2] 0 (yJ b) (zP b) Lr nG (RS b):=fun(c,d) _ hm Q i h a=>Ak co Aa Ac 1 (aD b c d) (Ae [1,3,4] Cb) (Ae [1,3] Cb) h hm a fun r g=>⟨fun _ hm a=>sq (bk 1 (Ak co Aa Ac 1 (Z1 b c d) (Ae [1,3,4,5] Cb) nl h hm a fun r g=>fun f=>fun _ hm a=>sq (rg (BK co Aa 3 (cV b c d f) (Ae [1,3,4,5,23] Cb) hm a fun r g=>fun _ hm a=>Bt co hm (BV ⟨#[]⟩ d (decide ((64:Int)<(f.length:Int))) (-1) 3) [(Oe d),(Ox d)] [] (fun z=>.tup []) (fun z=>[kk 3 134 2 [vS ⟨#[]⟩,.ref (1,1031) 0 0 z.length],kk 1031 170 3 (Af AA z)]) [] fun e hm=>Bf co Aa (dI b c f e) (Ae [1,3,4,5] Cb) hm a fun r g=>fun _ hm a=>rg (BK co Aa 3 (ZS b c f e) (Ae [1,3,4,27] Cb) hm a fun r g=>fun k=>fun _ hm a=>Bt co hm (BV ⟨#[]⟩ e (!k) (-1) 11) [(eR e),kk 1031 170 3 (Af AA e)] [] (fun z=>.tup []) (fun z=>[kk 3 134 2 [vS ⟨#[]⟩,.ref (1,1031) 0 0 z.length],kk 1031 170 3 (Af AA z)]) [] fun j hm=>Bf co Aa (ai b c j) (Ae [1,3,4] Cb) hm a fun r g=>fun _ hm a=>Av co Aa Ac (dD b c j) (Ae [1,3,4] Cb) nl h hm a fun r g=>id))))),id⟩
theorem ZJu{C:Cx}(co:CO C 0)(e:Scm)(a:List Bool):KL Tryz.prog (AB tl) 107 C (pa [0,0,1,0,1,1,1,1,1,1,1,1] (Aw Tryz.f39)) [.tmp 2] 0 (zK e a) (ZRz e) Lr nG (Sj e a):=fun(c,b) _ hm Q j i d=>Ak co Aa Ac 1 (oP e a c b) (Ae [1,3,9,10] C7) (Ae [1,3] C7) i hm d fun r g=>⟨fun _ hm d=>sq (bk 3 (Fp co Aa Ac (.fst 0 (.fst 2 (.fst 3 (.fst 4 (.fst 5 (.fst 6 (.fst 8 (.fst 7 (.two 1 9 (.fst 9 (.fst 10 (.fst 11 (.fst 12 .nil)))) (.fst 1 (.fst 10 (.fst 11 (.fst 12 .nil))))))))))))) [1] (dX e a c b) (Ae [1,3,9,10] C7) hm d fun r g=>fun k=>⟨fun f=>fun _ hm d=>Av co Aa Ac (Qm e a c b f) (Ae [1,3,9,10] C7) nl i hm d fun r g=>id,fun f=>fun _ hm d=>Av co Aa Ac (Qm e a c b f) (Ae [1,3,9,10] C7) nl i hm d fun r g=>id,fun _ h=>h⟩)),id⟩
theorem ZLT{C:Cx}(co:CO C 0)(d:Scm):KL Tryz.prog (AB tl) 107 C (pa [0,0,1,0,1,1,1,1,1,1,1,1,1] (Aw Tryz.f39)) [.tmp 2] 0 (x9 d) (xq d) Lr nG (XL d):=fun(b,a) _ hm Q i f c=>Ak co Aa Ac 1 (kR d b a) (Ae [1,3,11] C7) (Ae [1,3] C7) f hm c fun r g=>⟨fun _ hm c=>sq (bk 5 (Fp co Aa Ac (.fst 0 (.fst 2 (.fst 3 (.fst 4 (.fst 5 (.fst 6 (.two 1 7 (.fst 7 (.fst 8 (.fst 9 (.fst 10 .nil)))) (.fst 1 (.fst 8 (.fst 9 (.fst 10 .nil))))))))))) [1] (oA d b a) (Ae [1,3,11] C7) hm c fun r g=>fun j=>⟨fun e=>fun _ hm c=>Av co Aa Ac (PI d b a e) (Ae [1,3,11] C7) nl f hm c fun r g=>id,fun e=>fun _ hm c=>Av co Aa Ac (PI d b a e) (Ae [1,3,11] C7) nl f hm c fun r g=>id,fun _ h=>h⟩)),id⟩
theorem ZNd{C:Cx}(co:CO C 0)(e:Scm):KL Tryz.prog (AB tl) 107 C (pa [0,0,1,0,1,1,1,1,1,1,1,1,1,1] (Aw Tryz.f39)) [.tmp 2] 0 (ZSE e) (zT) Lr nG (Sy e):=fun(b,a) _ hm Q i f c=>Ak co Aa Ac 1 (o2 e b a) (Ae [1,3,12] C7) (Ae [3] C7) f hm c fun r g=>⟨fun _ hm c=>sq (bk 7 (Fp co Aa Ac (.fst 0 (.fst 2 (.fst 3 (.fst 4 (.fst 5 (.fst 6 (.fst 7 (.two 1 8 (.fst 8 (.fst 9 (.fst 10 (.fst 11 .nil)))) (.fst 1 (.fst 9 (.fst 10 (.fst 11 .nil)))))))))))) [1] (mz e b a) (Ae [1,3,12] C7) hm c fun r g=>fun j=>⟨fun d=>fun _ hm c=>Av co Aa Ac (PP e b a d) (Ae [1,3,12] C7) nl f hm c fun r g=>id,fun d=>fun _ hm c=>Av co Aa Ac (PP e b a d) (Ae [1,3,12] C7) nl f hm c fun r g=>id,fun _ h=>h⟩)),id⟩
theorem ZZI(b:Scm):KC Tryz.prog 39 [.agg ((Al b).map .d)] (gU b) Lr:=Au Tryz.func39 Tryz.ntmps39 Aa [.tmp 2] fun C co y hm n a=>Ak co Aa Ac 2 (oT b) (Ae [1,3] [((1,1),false),((1,3),false)]) nl nH hm a fun r g=>fun _ hm a=>sq (Ak co Aa Ac 1 (nF b) (Ae [1,3,4] [((1,1),false),((1,3),false)]) nl nH hm a fun r g=>fun _ hm a=>bk 0 (F1 co (n6 b) (Ae [1,3,4] Cb) hm a fun r g=>fun _ hm a=>lo (AF (ZKa co b) nH hm a (fun e hm=>Ak co Aa Ac 3 (qy b e) (Ae [1,3,6,7,8] Cb) nl nH hm a fun r g=>fun o=>fun p=>fun j=>fun _ hm a=>sq (rg (BK co Aa 13 (oU b e o p j) (Ae [1,3,47] Cb) hm a fun r g=>fun k=>fun l=>fun m=>fun _ hm a=>Bt co hm (BV ⟨#[]⟩ e ((k||l)||m) (-1) 9) [(TL e),(TD e)] [] (fun z=>.tup []) (fun z=>[kk 3 134 2 [vS ⟨#[]⟩,.ref (1,1031) 0 0 z.length],kk 1031 170 3 (Af AA z)]) [] fun c hm=>Bf co Aa (lW b c) (Ae [1,3] Cb) hm a fun r g=>fun _ hm a=>Ak co Aa Ac 1 (mW b c) (Ae [1,3,9] Cb) nl nH hm a fun r g=>fun d=>fun _ hm a=>sq (Ak co Aa Ac 1 (qg b c d) (Ae [1,3,9,10] Cb) nl nH hm a fun r g=>fun _ hm a=>bk 2 (F1 co (m0 b c d) (Ae [1,3,9,10] C7) hm a fun r g=>fun _ hm a=>lo (AF (ZJu co b d) nH hm a (fun f hm=>sq (Ak co Aa Ac 1 (o7 b f) (Ae [1,3,11] C7) nl nH hm a fun r g=>fun _ hm a=>bk 4 (lo (AF (ZLT co b) nH hm a (fun h hm=>sq (Ak co Aa Ac 1 (qA b h) (Ae [1,3,12] C7) nl nH hm a fun r g=>fun _ hm a=>bk 6 (lo (AF (ZNd co b) nH hm a (fun i hm=>Ap co Aa Ac (lh i) hm a fun r g=>id))))))))))))))))))
abbrev rm:Bool→AV:=fun y=>vB y
def cA(b:Scm):PT 0 (Bool):=wg<|cl (ZZI b) fun a=>vz (Ah a)<|lr rm nG (decide ((a.length:Int)=(0:Int)))
def UK(a:Scm):Option (Bool):=(cA a).m
theorem ZZG(a:Scm):KC Tryz.prog 18 [.agg ((Al a).map .d)] (UK a) rm:=Au Tryz.func18 Tryz.ntmps18 Aa [.tmp 2] fun C co y hm b c=>Ap co Aa Ac (cA a) hm c fun r g=>fun d=>id
abbrev E5:Bool→AV:=fun y=>vB y
def fs(b:Scm)(a:ByteArray):PT 0 (Bool):=vz (A9 a.size)<|wg<|Az (decide ((a.size:Int)≤(300:Int))) (ZZw b) fun c=>wg<|Az (decide ((a.size:Int)≤(300:Int))&&c) (ZZG b) fun d=>lr E5 nG ((decide ((a.size:Int)≤(300:Int))&&c)&&d)
def gK(a:Scm)(b:ByteArray):Option (Bool):=(fs a b).m
theorem K_5(a:Scm)(b:ByteArray):KC Tryz.prog 5 [.agg ((Al a).map .d),vS b] (gK a b) E5:=Au Tryz.func5 Tryz.ntmps5 Aa [.tmp 4] fun C co y hm c d=>Ap co Aa Ac (fs a b) hm d fun r g=>fun e=>fun f=>id
abbrev ER:List (Ad×Bool):=[((1,3),false)]
abbrev FZ(a:Val):Ad×Blk:=kk 3 33 7 (cD (Ag a))
abbrev EB:Int→AV:=fun y=>vI y
def zq(a:Val)(b:Int)(c:Int):Nat→St:=fun d=>Ab [(1,vI b),(2,vI ((c-1)-(a.raws.length:Int))),pp 3,(7,vN d)] [(FZ a)]
def ZSU(a:Val)(b:Int)(c:Int):Unit→Nat×St:=fun _=>(0,Ab [(1,vI b),(2,vI ((c-1)-(a.raws.length:Int))),pp 3] [(FZ a)])
def Z3(a:Val)(d:Int)(e:Int)(b:Nat):PT 0 (Lv (Nat) (Unit) (Int)):=wg<|vz (Ah a.raws)<|br (decide ((b:Int)<(a.raws.length:Int))) (wg<|ix a.raws b fun c=>vz (A9 c.data.size)<|br (decide ((5000:Int)<(c.data.size:Int))) (Ar EB nG (-1)) (vs (wa b 1)<|ln (zq a d e) (b+1))) (Ai (ZSU a d e) ())
def XI(b:Val)(c:Int)(d:Int)(a:Val→Int→Int→Option (Int)):Nat→Option (Lv (Nat) (Unit) (Int)):=fun e=>(Z3 b c d e).m
def zb(a:Val)(b:Int):Int×Nat→St:=fun(v3,v4)=>Ab [(1,vI b),(2,vI v3),pp 3,(8,vN v4)] [(FZ a)]
def ZSZ(a:Val)(b:Int):Int→Nat×St:=fun c=>(2,Ab [(1,vI b),(2,vI c),pp 3] [(FZ a)])
def cO(a:Val)(b:Int)(c:Val→Int→Int→Option (Int))(v3:Int)(v4:Nat):PT 0 (Lv (Int×Nat) (Int) (Int)):=wg<|vz (Ah a.list)<|br (decide ((v4:Int)<(a.list.length:Int))&&decide ((0:Int)≤v3)) (wg<|ix a.list v4 fun d=>vs (wi (b+1))<|cs Tryz.prog 19 [.agg ((Ag d).map .d),vI (b+1),vI v3] [] [] (c d (b+1) v3) (fun y=>vI y) fun e=>vs (wa v4 1)<|ln (zb a b) (e,v4+1)) (Ai (ZSZ a b) v3)
def Ta(b:Val)(c:Int)(a:Val→Int→Int→Option (Int)):Int×Nat→Option (Lv (Int×Nat) (Int) (Int)):=fun(v3,v4)=>(cO b c a v3 v4).m
def bR(a:Val)(b:Int):Int×Nat→St:=fun(c,v9)=>Ab [(1,vI b),(2,vI c),pp 3,(9,vN v9)] [(FZ a)]
def ZS0(b:Val)(c:Int):Int→Nat×St:=fun a=>(4,Ab [(1,vI c),(2,vI a),pp 3] [(FZ b)])
def dS(c:Val)(a:Int)(d:Val→Int→Int→Option (Int))(g:Int)(v9:Nat):PT 0 (Lv (Int×Nat) (Int) (Int)):=wg<|vz (Ah c.pairs)<|br (decide ((v9:Int)<(c.pairs.length:Int))&&decide ((0:Int)≤g)) (wg<|ix c.pairs v9 fun e=>vs (wi (a+1))<|cs Tryz.prog 19 [.agg ((Ag e.key).map .d),vI (a+1),vI g] [] [] (d e.key (a+1) g) (fun y=>vI y) fun b=>br (decide ((0:Int)≤b)) (wg<|ix c.pairs v9 fun f=>vs (wi (a+1))<|cs Tryz.prog 19 [.agg ((Ag f.val).map .d),vI (a+1),vI b] [] [] (d f.val (a+1) b) (fun y=>vI y) fun h=>vs (wa v9 1)<|ln (bR c a) (h,v9+1)) (vs (wa v9 1)<|ln (bR c a) (b,v9+1))) (Ai (ZS0 c a) g)
def R0(b:Val)(c:Int)(a:Val→Int→Int→Option (Int)):Int×Nat→Option (Lv (Int×Nat) (Int) (Int)):=fun(d,v9)=>(dS b c a d v9).m
def y7(c:Val)(d:Int):Int×Nat→St:=fun(a,b)=>Ab [(1,vI d),(2,vI a),pp 3,(10,vN b)] [(FZ c)]
def xn:Int→Nat×St:=fun a=>(6,Ab [(2,vI a)] [])
def bN(d:Val)(e:Int)(f:Val→Int→Int→Option (Int))(a:Int)(b:Nat):PT 0 (Lv (Int×Nat) (Int) (Int)):=wg<|vz (Ah d.slots)<|br (decide ((b:Int)<(d.slots.length:Int))&&decide ((0:Int)≤a)) (wg<|ix d.slots b fun c=>vs (wi (e+1))<|cs Tryz.prog 19 [.agg ((Ag c.val).map .d),vI (e+1),vI a] [] [] (f c.val (e+1) a) (fun y=>vI y) fun g=>vs (wa b 1)<|ln (y7 d e) (g,b+1)) (Ai (xn) a)
def SJ(d:Val)(e:Int)(a:Val→Int→Int→Option (Int)):Int×Nat→Option (Lv (Int×Nat) (Int) (Int)):=fun(b,c)=>(bN d e a b c).m
def ab(a:Int):PT 0 (Int):=lr EB nG a
def ah(d:Val)(e:Int)(b:Val→Int→Int→Option (Int))(a:Int):PT 0 (Int):=lc (Ab [(1,vI e),(2,vI a),pp 3,(10,vI 0)] [(FZ d)]) ((An (SJ d e b) Aj (a,0)).bind (Sum.elim (fun c=>(ab c).m) some))
def dF(b:Val)(c:Int)(a:Val→Int→Int→Option (Int))(e:Int):PT 0 (Int):=lc (Ab [(1,vI c),(2,vI e),pp 3,(9,vI 0)] [(FZ b)]) ((An (R0 b c a) Aj (e,0)).bind (Sum.elim (fun d=>(ah b c a d).m) some))
def eE(b:Val)(c:Int)(d:Int)(a:Val→Int→Int→Option (Int)):PT 0 (Int):=lc (Ab [(1,vI c),(2,vI ((d-1)-(b.raws.length:Int))),pp 3,(8,vI 0)] [(FZ b)]) ((An (Ta b c a) Aj (((d-1)-(b.raws.length:Int)),0)).bind (Sum.elim (fun e=>(dF b c a e).m) some))
def dY(b:Val)(c:Int)(d:Int)(a:Val→Int→Int→Option (Int)):PT 0 (Int):=lc (Ab [(1,vI c),(2,vI ((d-1)-(b.raws.length:Int))),pp 3,(7,vI 0)] [(FZ b)]) ((An (XI b c d a) Aj 0).bind (Sum.elim (fun _=>(eE b c d a).m) some))
def qF(a:Val)(b:Int)(c:Int)(d:Val→Int→Int→Option (Int)):PT 0 (Int):=vs (wi (c-1))<|wg<|vy (!(decide ((40:Int)<b))) (A9 a.text.size)<|wg<|vy (!(decide ((40:Int)<b)||decide ((5000:Int)<(a.text.size:Int)))) (Ah a.raws)<|br ((decide ((40:Int)<b)||decide ((5000:Int)<(a.text.size:Int)))||decide ((c-1)<(a.raws.length:Int))) (lr EB nG (-1)) (wg<|vz (Ah a.raws)<|vs (wi ((c-1)-(a.raws.length:Int)))<|lc (Ab [(1,vI b),(2,vI ((c-1)-(a.raws.length:Int))),pp 3] [(FZ a)]) ((dY a b c d).m))
def Ud(a:Val→Int→Int→Option (Int))(b:Val)(c:Int)(d:Int):Option (Int):=(qF b c d a).m
theorem ZHM{C:Cx}(co:CO C 0)(a:Val)(b:Int)(c:Int)(d:Val→Int→Int→Option (Int))(k:∀(a:Val) (b:Int) (c:Int),KC Tryz.prog 19 [.agg ((Ag a).map .d),vI b,vI c] (d a b c) EB):KL Tryz.prog (AB tl) 123 C (pa [0,0,1,0,1,1,1,1] (Aw Tryz.f19)) [.tmp 6] 0 (zq a b c) (ZSU a b c) EB nG (XI a b c d):=fun i _ hm Q e h f=>Av co Aa Ac (Z3 a b c i) (Ae [1,2,3,7] ER) (Ae [1,2,3] ER) h hm f fun r g=>⟨fun j=>⟨id,id⟩,id⟩
theorem ZHx{C:Cx}(co:CO C 0)(c:Val)(a:Int)(b:Val→Int→Int→Option (Int))(e:∀(c:Val) (a:Int) (h:Int),KC Tryz.prog 19 [.agg ((Ag c).map .d),vI a,vI h] (b c a h) EB):KL Tryz.prog (AB tl) 123 C (pa [0,0,1,0,1,1,1,1,1] (Aw Tryz.f19)) [.tmp 6] 0 (zb c a) (ZSZ c a) EB nG (Ta c a b):=fun(v3,v4) _ hm Q f k j=>Av co Aa Ac (cO c a b v3 v4) (Ae [1,2,3,8] ER) (Ae [1,2,3] ER) k hm j fun r g=>⟨fun d=>⟨fun y hy i _ _=>by rw[(e d (a+1) v3).x,(e d (a+1) v3).e];exact(e d (a+1) v3).k _ i y hy,fun l=>id⟩,id⟩
theorem ZLi{C:Cx}(co:CO C 0)(e:Val)(a:Int)(b:Val→Int→Int→Option (Int))(h:∀(e:Val) (a:Int) (l:Int),KC Tryz.prog 19 [.agg ((Ag e).map .d),vI a,vI l] (b e a l) EB):KL Tryz.prog (AB tl) 123 C (pa [0,0,1,0,1,1,1,1,1,1] (Aw Tryz.f19)) [.tmp 6] 0 (bR e a) (ZS0 e a) EB nG (R0 e a b):=fun(i,v9) _ hm Q k n m=>Av co Aa Ac (dS e a b i v9) (Ae [1,2,3,9] ER) (Ae [1,2,3] ER) n hm m fun r g=>⟨fun c=>⟨fun y hy j _ _=>by rw[(h c.key (a+1) i).x,(h c.key (a+1) i).e];exact(h c.key (a+1) i).k _ j y hy,fun f=>⟨fun d=>⟨fun y hy j _ _=>by rw[(h d.val (a+1) f).x,(h d.val (a+1) f).e];exact(h d.val (a+1) f).k _ j y hy,fun o=>id⟩,id⟩⟩,id⟩
theorem ZL2{C:Cx}(co:CO C 0)(e:Val)(a:Int)(c:Val→Int→Int→Option (Int))(f:∀(e:Val) (a:Int) (j:Int),KC Tryz.prog 19 [.agg ((Ag e).map .d),vI a,vI j] (c e a j) EB):KL Tryz.prog (AB tl) 123 C (pa [0,0,1,0,1,1,1,1,1,1,1] (Aw Tryz.f19)) [.tmp 6] 0 (y7 e a) (xn) EB nG (SJ e a c):=fun(b,h) _ hm Q i m l=>Av co Aa Ac (bN e a c b h) (Ae [1,2,3,10] ER) (AH [2]) m hm l fun r g=>⟨fun d=>⟨fun y hy k _ _=>by rw[(f d.val (a+1) b).x,(f d.val (a+1) b).e];exact(f d.val (a+1) b).k _ k y hy,fun n=>id⟩,id⟩
theorem ZVk(a:Val→Int→Int→Option (Int))(f:∀(c:Val) (d:Int) (e:Int),KC Tryz.prog 19 [.agg ((Ag c).map .d),vI d,vI e] (a c d e) EB)(c:Val)(d:Int)(e:Int):KC Tryz.prog 19 [.agg ((Ag c).map .d),vI d,vI e] (Ud a c d e) EB:=Au Tryz.func19 Tryz.ntmps19 Aa [.tmp 6] fun C co y hm j b=>Ak co Aa Ac 4 (qF c d e a) (Ae [1,2,3] ER) nl nH hm b fun r g=>⟨id,fun _ hm b=>sq (Ak co Aa Ac 1 (dY c d e a) (Ae [1,2,3,7] ER) nl nH hm b fun r g=>fun _ hm b=>bk 0 (lo (AF (ZHM co c d e a f) nH hm b (fun _ hm=>sq (Ak co Aa Ac 1 (eE c d e a) (Ae [1,2,3,8] ER) nl nH hm b fun r g=>fun _ hm b=>bk 2 (lo (AF (ZHx co c d a f) nH hm b (fun k hm=>sq (Ak co Aa Ac 1 (dF c d a k) (Ae [1,2,3,9] ER) nl nH hm b fun r g=>fun _ hm b=>bk 4 (lo (AF (ZLi co c d a f) nH hm b (fun h hm=>sq (Ak co Aa Ac 1 (ah c d a h) (Ae [1,2,3,10] ER) nl nH hm b fun r g=>fun _ hm b=>bk 6 (lo (AF (ZL2 co c d a f) nH hm b (fun i hm=>Ap co Aa Ac (ab i) hm b fun r g=>id))))))))))))))))⟩
def GQ:Nat→Val→Int→Int→Option (Int)
 |0=>fun _ _ _=>none
 |a+1=>Ud (GQ a)
theorem ZWS:∀(d:Nat) (a:Val) (b:Int) (c:Int),KC Tryz.prog 19 [.agg ((Ag a).map .d),vI b,vI c] (GQ d a b c) EB
 |0,a,b,c=>⟨fun _ _ _ h=>(by cases h),by intro r;kernel_rfl,by intro r y;kernel_rfl⟩
 |d+1,a,b,c=>ZVk (GQ d) (ZWS d) a b c
abbrev E6:Bool→AV:=fun y=>vB y
def eL(a:Val)(b:Int):PT 0 (Bool):=wg<|cl (ZWS Aj a 1 b) fun c=>lr E6 nG (decide ((0:Int)≤c))
def gT(a:Val)(b:Int):Option (Bool):=(eL a b).m
theorem sj(a:Val)(b:Int):KC Tryz.prog 6 [.agg ((Ag a).map .d),vI b] (gT a b) E6:=Au Tryz.func6 Tryz.ntmps6 Aa [.tmp 4] fun C co y hm c d=>Ap co Aa Ac (eL a b) hm d fun r g=>fun e=>id
abbrev HJ:List (Ad×Bool):=[((1,2),false),((1,4),false)]
abbrev Ep:List (Ad×Bool):=[((1,4),false)]
abbrev Tm:Ad×Blk:=kk 4 61 5 [vS ⟨#[]⟩,.e0,.e0,.e0,.e0]
abbrev eJ(a:Scm):Ad×Blk:=kk 2 26 3 (cD (Al a))
abbrev Q4:Msg×Bool→AV:=fun y=>.tup [.agg ((AE y.1).map .d),vB y.2]
def xh(a:Scm)(b:ByteArray):Nat→St:=fun c=>Ab [(1,vS b),pp 2,pp 4,(6,vN c)] [(eJ a),Tm]
def yC:Unit→Nat×St:=fun _=>(0,Ab [pp 4] [Tm])
def SD(a:Scm)(c:ByteArray)(b:Nat):PT 0 (Lv (Nat) (Unit) (Msg×Bool)):=wg<|vz (Ah a.messages)<|br (decide ((b:Int)<(a.messages.length:Int))) (wg<|ix a.messages b fun d=>br (decide (d.name=c)) (wg<|ix a.messages b fun e=>wg<|Ar Q4 nG (e,true)) (vs (wa b 1)<|ln (xh a c) (b+1))) (Ai (yC) ())
def Qz(a:Scm)(b:ByteArray):Nat→Option (Lv (Nat) (Unit) (Msg×Bool)):=fun c=>(SD a b c).m
def aS:PT 0 (Msg×Bool):=wg<|lr Q4 nG ((.mk ⟨#[]⟩ [] [] [] []:Msg),false)
def dR(a:Scm)(b:ByteArray):PT 0 (Msg×Bool):=lc (Ab [(1,vS b),pp 2,pp 4,(6,vI 0)] [(eJ a),Tm]) ((An (Qz a b) Aj 0).bind (Sum.elim (fun _=>(aS).m) some))
def aN(a:Scm)(b:ByteArray):PT 0 (Msg×Bool):=lc (Ab [(1,vS b),pp 2,pp 4] [(eJ a),Tm]) ((dR a b).m)
def Mg(a:Scm)(b:ByteArray):Option (Msg×Bool):=(aN a b).m
theorem ZJd{C:Cx}(co:CO C 0)(a:Scm)(b:ByteArray):KL Tryz.prog (AB tl) 28 C (pa [0,0,1,0,1] (Aw Tryz.f40)) [.cell 4 61,.tmp 5] 0 (xh a b) (yC) Q4 nG (Qz a b):=fun f _ hm Q c e d=>Av co Aa Ac (SD a b f) (Ae [1,2,4,6] HJ) (Ae [4] Ep) e hm d fun r g=>⟨fun h=>⟨fun i=>id,id⟩,id⟩
theorem fR(b:Scm)(c:ByteArray):KC Tryz.prog 40 [.agg ((Al b).map .d),vS c] (Mg b c) Q4:=Au Tryz.func40 Tryz.ntmps40 Aa [.cell 4 61,.tmp 5] fun C co y hm d a=>Ak co Aa Ac 1 (aN b c) (Ae [1,2,4] HJ) nl nH hm a fun r g=>fun _ hm a=>sq (Ak co Aa Ac 1 (dR b c) (Ae [1,2,4,6] HJ) nl nH hm a fun r g=>fun _ hm a=>bk 0 (lo (AF (ZJd co b c) nH hm a (fun _ hm=>Ap co Aa Ac (aS) hm a fun r g=>id))))
abbrev TV:Bool→AV:=fun y=>vB y
def pX(a:Val):PT 0 (Bool):=wg<|vz (Ah a.list)<|wg<|wg<|vy (!(decide ((0:Int)<(a.list.length:Int))&&(!decide (a.kind=(11:Int))))) (Ah a.pairs)<|wg<|wg<|vy (!((decide ((0:Int)<(a.list.length:Int))&&(!decide (a.kind=(11:Int))))||(decide ((0:Int)<(a.pairs.length:Int))&&(!decide (a.kind=(12:Int)))))) (Ah a.slots)<|wg<|wg<|vy (!(((decide ((0:Int)<(a.list.length:Int))&&(!decide (a.kind=(11:Int))))||(decide ((0:Int)<(a.pairs.length:Int))&&(!decide (a.kind=(12:Int)))))||(decide ((0:Int)<(a.slots.length:Int))&&(!decide (a.kind=(10:Int)))))) (Ah a.raws)<|wg<|br ((((decide ((0:Int)<(a.list.length:Int))&&(!decide (a.kind=(11:Int))))||(decide ((0:Int)<(a.pairs.length:Int))&&(!decide (a.kind=(12:Int)))))||(decide ((0:Int)<(a.slots.length:Int))&&(!decide (a.kind=(10:Int)))))||(decide ((0:Int)<(a.raws.length:Int))&&(!decide (a.kind=(10:Int))))) (lr TV nG true) (wg<|wg<|wg<|br ((!decide (a.text=(⟨#[]⟩:ByteArray)))&&(!(decide (a.kind=(7:Int))||decide (a.kind=(8:Int))))) (lr TV nG true) (wg<|wg<|wg<|wg<|lr TV nG ((!decide (a.bits=(0:Int)))&&((((decide (a.kind=(7:Int))||decide (a.kind=(8:Int)))||decide (a.kind=(11:Int)))||decide (a.kind=(12:Int)))||decide (a.kind=(10:Int))))))
def gY(a:Val):Option (Bool):=(pX a).m
theorem S0(a:Val):KC Tryz.prog 102 [.agg ((Ag a).map .d)] (gY a) TV:=Au Tryz.func102 Tryz.ntmps102 Aa [.tmp 2] fun C co y hm b c=>Ap co Aa Ac (pX a) hm c fun r g=>⟨id,⟨id,id⟩⟩
abbrev Ug:Ad×Blk:=kk 4 56 16 [vI 0,vS ⟨#[]⟩,vI 0,vI 0,vI 0,vS ⟨#[]⟩,vS ⟨#[]⟩,vB false,vI 0,.d (.int .u64 0),vS ⟨#[]⟩,.e0,.e0,.e0,.e0,.e0]
abbrev fp(a:Msg):Ad×Blk:=kk 2 61 5 (cD (AE a))
abbrev TU:Fld×Bool→AV:=fun y=>.tup [.agg ((Ao y.1).map .d),vB y.2]
def tW(a:Msg)(b:Int):Nat→St:=fun c=>Ab [(1,vI b),pp 2,pp 4,(6,vN c)] [(fp a),Ug]
def uO:Unit→Nat×St:=fun _=>(0,Ab [pp 4] [Ug])
def Wy(a:Msg)(c:Int)(b:Nat):PT 0 (Lv (Nat) (Unit) (Fld×Bool)):=wg<|vz (Ah a.fields)<|br (decide ((b:Int)<(a.fields.length:Int))) (wg<|ix a.fields b fun d=>br (decide (d.num=c)) (wg<|ix a.fields b fun e=>wg<|Ar TU nG (e,true)) (vs (wa b 1)<|ln (tW a c) (b+1))) (Ai (uO) ())
def PL(a:Msg)(b:Int):Nat→Option (Lv (Nat) (Unit) (Fld×Bool)):=fun c=>(Wy a b c).m
def pJ:PT 0 (Fld×Bool):=wg<|lr TU nG ((.mk 0 ⟨#[]⟩ 0 0 (.mk 0 ⟨#[]⟩:Typ) ⟨#[]⟩ false (.mk 0 0 ⟨#[]⟩ [] [] [] []:Val) []:Fld),false)
def lL(a:Msg)(b:Int):PT 0 (Fld×Bool):=lc (Ab [(1,vI b),pp 2,pp 4,(6,vI 0)] [(fp a),Ug]) ((An (PL a b) Aj 0).bind (Sum.elim (fun _=>(pJ).m) some))
def pQ(a:Msg)(b:Int):PT 0 (Fld×Bool):=lc (Ab [(1,vI b),pp 2,pp 4] [(fp a),Ug]) ((lL a b).m)
def hU(a:Msg)(b:Int):Option (Fld×Bool):=(pQ a b).m
theorem ZzI{C:Cx}(co:CO C 0)(a:Msg)(b:Int):KL Tryz.prog (AB tl) 28 C (pa [0,0,1,0,1] (Aw Tryz.f148)) [.cell 4 56,.tmp 5] 0 (tW a b) (uO) TU nG (PL a b):=fun f _ hm Q c e d=>Av co Aa Ac (Wy a b f) (Ae [1,2,4,6] HJ) (Ae [4] Ep) e hm d fun r g=>⟨fun h=>⟨fun i=>id,id⟩,id⟩
theorem ej(b:Msg)(c:Int):KC Tryz.prog 148 [.agg ((AE b).map .d),vI c] (hU b c) TU:=Au Tryz.func148 Tryz.ntmps148 Aa [.cell 4 56,.tmp 5] fun C co y hm d a=>Ak co Aa Ac 1 (pQ b c) (Ae [1,2,4] HJ) nl nH hm a fun r g=>fun _ hm a=>sq (Ak co Aa Ac 1 (lL b c) (Ae [1,2,4,6] HJ) nl nH hm a fun r g=>fun _ hm a=>bk 0 (lo (AF (ZzI co b c) nH hm a (fun _ hm=>Ap co Aa Ac (pJ) hm a fun r g=>id))))
abbrev TO:Ad×Blk:=kk 4 92 5 [vS ⟨#[]⟩,vB false,.e0,.e0,.e0]
abbrev fX(a:Scm):Ad×Blk:=kk 2 26 3 (cD (Al a))
abbrev T8:Enm×Bool→AV:=fun y=>.tup [.agg ((Bw y.1).map .d),vB y.2]
def uy(a:Scm)(b:ByteArray):Nat→St:=fun c=>Ab [(1,vS b),pp 2,pp 4,(6,vN c)] [(fX a),TO]
def tR:Unit→Nat×St:=fun _=>(0,Ab [pp 4] [TO])
def Wr(a:Scm)(c:ByteArray)(b:Nat):PT 0 (Lv (Nat) (Unit) (Enm×Bool)):=wg<|vz (Ah a.enums)<|br (decide ((b:Int)<(a.enums.length:Int))) (wg<|ix a.enums b fun d=>br (decide (d.name=c)) (wg<|ix a.enums b fun e=>wg<|Ar T8 nG (e,true)) (vs (wa b 1)<|ln (uy a c) (b+1))) (Ai (tR) ())
def PX(a:Scm)(b:ByteArray):Nat→Option (Lv (Nat) (Unit) (Enm×Bool)):=fun c=>(Wr a b c).m
def lD:PT 0 (Enm×Bool):=wg<|lr T8 nG ((.mk ⟨#[]⟩ false [] [] []:Enm),false)
def ld(a:Scm)(b:ByteArray):PT 0 (Enm×Bool):=lc (Ab [(1,vS b),pp 2,pp 4,(6,vI 0)] [(fX a),TO]) ((An (PX a b) Aj 0).bind (Sum.elim (fun _=>(lD).m) some))
def pY(a:Scm)(b:ByteArray):PT 0 (Enm×Bool):=lc (Ab [(1,vS b),pp 2,pp 4] [(fX a),TO]) ((ld a b).m)
def gN(a:Scm)(b:ByteArray):Option (Enm×Bool):=(pY a b).m
theorem ZAb{C:Cx}(co:CO C 0)(a:Scm)(b:ByteArray):KL Tryz.prog (AB tl) 28 C (pa [0,0,1,0,1] (Aw Tryz.f150)) [.cell 4 92,.tmp 5] 0 (uy a b) (tR) T8 nG (PX a b):=fun f _ hm Q c e d=>Av co Aa Ac (Wr a b f) (Ae [1,2,4,6] HJ) (Ae [4] Ep) e hm d fun r g=>⟨fun h=>⟨fun i=>id,id⟩,id⟩
theorem xp(b:Scm)(c:ByteArray):KC Tryz.prog 150 [.agg ((Al b).map .d),vS c] (gN b c) T8:=Au Tryz.func150 Tryz.ntmps150 Aa [.cell 4 92,.tmp 5] fun C co y hm d a=>Ak co Aa Ac 1 (pY b c) (Ae [1,2,4] HJ) nl nH hm a fun r g=>fun _ hm a=>sq (Ak co Aa Ac 1 (ld b c) (Ae [1,2,4,6] HJ) nl nH hm a fun r g=>fun _ hm a=>bk 0 (lo (AF (ZAb co b c) nH hm a (fun _ hm=>Ap co Aa Ac (lD) hm a fun r g=>id))))
abbrev fO(a:Enm):Ad×Blk:=kk 2 92 5 (cD (Bw a))
abbrev Ti:Bool→AV:=fun y=>vB y
def wG(a:Enm)(b:Int):Nat→St:=fun c=>Ab [(1,.d (.int .u64 b)),pp 2,(5,vN c)] [(fO a)]
def ul:Unit→Nat×St:=fun _=>(0,Ab [] [])
def WK(a:Enm)(e:Int)(b:Nat):PT 0 (Lv (Nat) (Unit) (Bool)):=wg<|vz (Ah a.items)<|br (decide ((b:Int)<(a.items.length:Int))) (wg<|ix a.items b fun c=>wg<|AZ (decide ((0:Int)≤c.num)) a.items (b:Int) fun d=>vy (decide ((0:Int)≤c.num)) (wk .u64 d.num)<|br (decide ((0:Int)≤c.num)&&decide ((IntKind.u64.wrap d.num)=e)) (Ar Ti nG true) (vs (wa b 1)<|ln (wG a e) (b+1))) (Ai (ul) ())
def PN(a:Enm)(b:Int):Nat→Option (Lv (Nat) (Unit) (Bool)):=fun c=>(WK a b c).m
def m9:PT 0 (Bool):=lr Ti nG false
def og(a:Enm)(b:Int):PT 0 (Bool):=lc (Ab [(1,.d (.int .u64 b)),pp 2,(5,vI 0)] [(fO a)]) ((An (PN a b) Aj 0).bind (Sum.elim (fun _=>(m9).m) some))
def kS(a:Enm)(b:Int):PT 0 (Bool):=lc (Ab [(1,.d (.int .u64 b)),pp 2] [(fO a)]) ((og a b).m)
def OK(a:Enm)(b:Int):Option (Bool):=(kS a b).m
theorem ZAj{C:Cx}(co:CO C 0)(a:Enm)(b:Int):KL Tryz.prog (AB tl) 31 C (pa [0,0,1,0,1] (Aw Tryz.f151)) [.tmp 4] 0 (wG a b) (ul) Ti nG (PN a b):=fun f _ hm Q c e d=>Av co Aa Ac (WK a b f) (Ae [1,2,5] EW) nl e hm d fun r g=>⟨fun h=>fun i=>⟨id,id⟩,id⟩
theorem zU(b:Enm)(c:Int):KC Tryz.prog 151 [.agg ((Bw b).map .d),.d (.int .u64 c)] (OK b c) Ti:=Au Tryz.func151 Tryz.ntmps151 Aa [.tmp 4] fun C co y hm d a=>Ak co Aa Ac 1 (kS b c) (Ae [1,2] EW) nl nH hm a fun r g=>fun _ hm a=>sq (Ak co Aa Ac 1 (og b c) (Ae [1,2,5] EW) nl nH hm a fun r g=>fun _ hm a=>bk 0 (lo (AF (ZAj co b c) nH hm a (fun _ hm=>Ap co Aa Ac (m9) hm a fun r g=>id))))
abbrev LK:Int→AV:=fun y=>vI y
def mn(b:Int)(a:Val):PT 0 (Int):=wg<|wg<|Az (!(!decide (a.kind=b))) (S0 a) fun c=>br ((!decide (a.kind=b))||c) (lr LK nG 12) (wg<|vz (A9 a.text.size)<|br (decide ((4096:Int)<(a.text.size:Int))) (lr LK nG 3) (wg<|cl (ec b a) fun d=>br (!d) (br (decide (b=(7:Int))) (lr LK nG 7) (lr LK nG 12)) (lr LK nG 0)))
def gc(a:Int)(b:Val):Option (Int):=(mn a b).m
theorem zu(a:Int)(b:Val):KC Tryz.prog 180 [vI a,.agg ((Ag b).map .d)] (gc a b) LK:=Au Tryz.func180 Tryz.ntmps180 Aa [.tmp 4] fun C co y hm c d=>Ap co Aa Ac (mn a b) hm d fun r g=>fun e=>⟨id,⟨id,fun f=>⟨⟨id,id⟩,id⟩⟩⟩
abbrev fq(a:Val):Ad×Blk:=kk 2 33 7 (cD (Ag a))
abbrev Uq:Bool→AV:=fun y=>vB y
def vQ(a:Val)(b:Int):Nat→St:=fun c=>Ab [(1,vI b),pp 2,(5,vN c)] [(fq a)]
def tz:Unit→Nat×St:=fun _=>(0,Ab [] [])
def WS(a:Val)(c:Int)(b:Nat):PT 0 (Lv (Nat) (Unit) (Bool)):=wg<|vz (Ah a.slots)<|br (decide ((b:Int)<(a.slots.length:Int))) (wg<|ix a.slots b fun d=>br (decide (d.num=c)) (Ar Uq nG true) (vs (wa b 1)<|ln (vQ a c) (b+1))) (Ai (tz) ())
def PM(a:Val)(b:Int):Nat→Option (Lv (Nat) (Unit) (Bool)):=fun c=>(WS a b c).m
def kU:PT 0 (Bool):=lr Uq nG false
def mG(a:Val)(b:Int):PT 0 (Bool):=lc (Ab [(1,vI b),pp 2,(5,vI 0)] [(fq a)]) ((An (PM a b) Aj 0).bind (Sum.elim (fun _=>(kU).m) some))
def qc(a:Val)(b:Int):PT 0 (Bool):=lc (Ab [(1,vI b),pp 2] [(fq a)]) ((mG a b).m)
def gR(a:Val)(b:Int):Option (Bool):=(qc a b).m
theorem ZCw{C:Cx}(co:CO C 0)(a:Val)(b:Int):KL Tryz.prog (AB tl) 21 C (pa [0,0,1,0,1] (Aw Tryz.f104)) [.tmp 4] 0 (vQ a b) (tz) Uq nG (PM a b):=fun f _ hm Q c e d=>Av co Aa Ac (WS a b f) (Ae [1,2,5] EW) nl e hm d fun r g=>⟨fun h=>⟨id,id⟩,id⟩
theorem ZUV(b:Val)(c:Int):KC Tryz.prog 104 [.agg ((Ag b).map .d),vI c] (gR b c) Uq:=Au Tryz.func104 Tryz.ntmps104 Aa [.tmp 4] fun C co y hm d a=>Ak co Aa Ac 1 (qc b c) (Ae [1,2] EW) nl nH hm a fun r g=>fun _ hm a=>sq (Ak co Aa Ac 1 (mG b c) (Ae [1,2,5] EW) nl nH hm a fun r g=>fun _ hm a=>bk 0 (lo (AF (ZCw co b c) nH hm a (fun _ hm=>Ap co Aa Ac (kU) hm a fun r g=>id))))
abbrev OF:Int→AV:=fun y=>vI y
def jn(a:Raw):PT 0 (Int):=wg<|wg<|vy (decide (a.wire=(3:Int))) (A9 a.data.size)<|wg<|vy (!(decide (a.wire=(3:Int))&&decide ((4096:Int)<(a.data.size:Int)))) (A9 a.data.size)<|br ((decide (a.wire=(3:Int))&&decide ((4096:Int)<(a.data.size:Int)))||decide ((65536:Int)<(a.data.size:Int))) (lr OF nG 3) (lr OF nG 0)
def pe(d:Scm)(e:Msg)(a:Raw):PT 0 (Int):=wg<|wg<|wg<|wg<|wg<|wg<|wg<|wg<|wg<|br (((((decide (a.num<(1:Int))||decide ((65535:Int)<a.num))||decide (a.wire<(0:Int)))||decide ((6:Int)<a.wire))||(((decide (a.wire=(0:Int))||decide (a.wire=(1:Int)))||decide (a.wire=(2:Int)))&&(!decide (a.data=(⟨#[]⟩:ByteArray)))))||((!((decide (a.wire=(0:Int))||decide (a.wire=(1:Int)))||decide (a.wire=(2:Int))))&&(!decide (a.bits=(0:Int))))) (lr OF nG 1) (wg<|wg<|cl (ej e a.num) fun b=>wg<|br b.2 (wg<|wg<|cl (xp d b.1.type.name) fun c=>wg<|wg<|wg<|wg<|wg<|wg<|wg<|wg<|Az (!((((((!decide (b.1.type.kind=(9:Int)))||(!c.2))||c.1.opn)||decide (b.1.card=(5:Int)))||(!decide (a.wire=(0:Int))))||decide ((2147483648:Int)≤a.bits))) (zU c.1 a.bits) fun f=>br (((((((!decide (b.1.type.kind=(9:Int)))||(!c.2))||c.1.opn)||decide (b.1.card=(5:Int)))||(!decide (a.wire=(0:Int))))||decide ((2147483648:Int)≤a.bits))||f) (lr OF nG 1) (jn a)) (jn a))
def gS(a:Scm)(b:Msg)(c:Raw):Option (Int):=(pe a b c).m
theorem ZWd(a:Scm)(b:Msg)(c:Raw):KC Tryz.prog 105 [.agg ((Al a).map .d),.agg ((AE b).map .d),.agg ((A0 c).map .d)] (gS a b c) OF:=Au Tryz.func105 Tryz.ntmps105 Aa [.tmp 6] fun C co y hm d e=>Ap co Aa Ac (pe a b c) hm e fun r g=>⟨id,fun f=>⟨fun h=>fun i=>⟨id,⟨id,id⟩⟩,⟨id,id⟩⟩⟩
abbrev Cn:Int→AV:=fun y=>vI y
end Go.Proofs.YthgmbpciandpiaaGreat
