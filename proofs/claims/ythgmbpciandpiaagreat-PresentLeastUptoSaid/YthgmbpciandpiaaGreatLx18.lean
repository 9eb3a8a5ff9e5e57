import Derived.Test.YthgmbpciandpiaaGreatLx17
import Derived.Test.YthgmbpciandpiaaGreatLx00
namespace Go.Proofs.YthgmbpciandpiaaGreat
set_option maxRecDepth 100000
set_option linter.all false
open Go Go.Eng
abbrev Hq:List (Ad×Bool):=[((1,2),false),((1,3),false),((1,5),false),((1,1051),true)]
abbrev Hm:List (Ad×Bool):=[((1,2),false),((1,3),false),((1,5),false),((1,7),false),((1,1051),true)]
abbrev Dd(a:Svc):Ad×Blk:=kk 3 97 3 (cD (C4 a))
abbrev Dr(a:Scm):Ad×Blk:=kk 2 26 3 (cD (Al a))
abbrev Ho(a:Mth):Ad×Blk:=kk 7 99 5 (cD (G0 a))
abbrev Sj(a:Svc)(b:List Prb):Ad×Blk:=kk 5 134 2 [vS a.name,.ref (1,1051) 0 0 b.length]
abbrev RT(a:List Prb):Ad×Blk:=kk 1051 170 3 (Af AA a)
abbrev DF(e:ByteArray)(z:List Prb):List (Ad×Blk):=[kk 5 134 2 [vS e,.ref (1,1051) 0 0 z.length],kk 1051 170 3 (Af AA z)]
abbrev Xd:List Prb→AV:=fun y=>vL AA y
def x9(c:Scm)(a:Svc):Nat×List Prb→St:=fun(v4,b)=>Ab [pp 2,pp 3,pp 5,(6,vN v4)] [(Dr c),(Dd a),(Sj a b),(RT b)]
def wz(b:Svc):List Prb→Nat×St:=fun a=>(0,Ab [pp 3,pp 5] [(Dd b),kk 5 134 2 [vS b.name,.ref (1,1051) 0 0 a.length],kk 1051 170 3 (Af AA a)])
def Zu(b:Scm)(c:Svc)(v4:Nat)(a:List Prb):PT 0 (Lv (Nat×List Prb) (List Prb) (List Prb)):=vs (wa v4 1)<|vz (fl a)<|ln (x9 b c) (v4+1,a)
def aI(c:Scm)(b:Svc)(v4:Nat)(a:List Prb):PT 0 (Lv (Nat×List Prb) (List Prb) (List Prb)):=vz (fl a)<|lc (Ab [pp 2,pp 3,pp 5,(6,vN v4)] [(Dr c),(Dd b),kk 5 134 2 [vS b.name,.ref (1,1051) 0 0 a.length],kk 1051 170 3 (Af AA a)]) ((Zu c b v4 a).m)
def bt(e:Scm)(b:Svc)(v4:Nat)(d:Mth)(a:List Prb):PT 0 (Lv (Nat×List Prb) (List Prb) (List Prb)):=wg<|vz (fl a)<|lc (Ab [pp 2,pp 3,pp 5,(6,vN v4),(80,vL BU d.notes),(81,vN v4)] [(Dr e),(Dd b),kk 5 134 2 [vS b.name,.ref (1,1051) 0 0 a.length],kk 1051 170 3 (Af AA a)]) ((Hw b.name a d.notes 6 (v4:Int)).bind fun c=>(aI e b v4 c).m)
def ZY(d:Scm)(b:Svc)(v4:Nat)(c:Mth)(a:List Prb):PT 0 (Lv (Nat×List Prb) (List Prb) (List Prb)):=vz (fl a)<|lc (Ab [pp 2,pp 3,pp 5,(6,vN v4),pp 7] [(Dr d),(Dd b),kk 5 134 2 [vS b.name,.ref (1,1051) 0 0 a.length],(Ho c),kk 1051 170 3 (Af AA a)]) ((bt d b v4 c a).m)
def b7(e:Scm)(c:Svc)(v4:Nat)(b:Mth)(a:List Prb):PT 0 (Lv (Nat×List Prb) (List Prb) (List Prb)):=wg<|wg<|vz (fl a)<|lc (Ab [pp 2,pp 3,pp 5,(6,vN v4),pp 7,(76,vB (decide (b.shape<(1:Int))||decide ((4:Int)<b.shape))),(77,vN v4)] [(Dr e),(Dd c),kk 5 134 2 [vS c.name,.ref (1,1051) 0 0 a.length],(Ho b),kk 1051 170 3 (Af AA a)]) ((BF c.name a (decide (b.shape<(1:Int))||decide ((4:Int)<b.shape)) (v4:Int) 1).bind fun d=>(ZY e c v4 b d).m)
def ah(d:Scm)(b:Svc)(v4:Nat)(c:Mth)(a:List Prb):PT 0 (Lv (Nat×List Prb) (List Prb) (List Prb)):=vz (fl a)<|lc (Ab [pp 2,pp 3,pp 5,(6,vN v4),pp 7] [(Dr d),(Dd b),kk 5 134 2 [vS b.name,.ref (1,1051) 0 0 a.length],(Ho c),kk 1051 170 3 (Af AA a)]) ((b7 d b v4 c a).m)
def aj(e:Scm)(f:Svc)(v4:Nat)(d:Mth)(a:List Prb):PT 0 (Lv (Nat×List Prb) (List Prb) (List Prb)):=wg<|wg<|cl (P9 e d.inn) fun b=>wg<|wg<|AC (!(decide (b<(0:Int)))) (P9 e d.out) fun c=>vz (fl a)<|lc (Ab [pp 2,pp 3,pp 5,(6,vN v4),pp 7,(66,vB (decide (b<(0:Int))||decide (c<(0:Int)))),(67,vN v4)] [(Dr e),(Dd f),kk 5 134 2 [vS f.name,.ref (1,1051) 0 0 a.length],(Ho d),kk 1051 170 3 (Af AA a)]) ((BF f.name a (decide (b<(0:Int))||decide (c<(0:Int))) (v4:Int) 12).bind fun g=>(ah e f v4 d g).m)
def ZS(d:Scm)(b:Svc)(v4:Nat)(c:Mth)(a:List Prb):PT 0 (Lv (Nat×List Prb) (List Prb) (List Prb)):=vz (fl a)<|lc (Ab [pp 2,pp 3,pp 5,(6,vN v4),pp 7] [(Dr d),(Dd b),kk 5 134 2 [vS b.name,.ref (1,1051) 0 0 a.length],(Ho c),kk 1051 170 3 (Af AA a)]) ((aj d b v4 c a).m)
def bA(f:Scm)(b:Svc)(v4:Nat)(a:Mth)(d:List Prb):PT 0 (Lv (Nat×List Prb) (List Prb) (List Prb)):=wg<|wg<|vg (decide ((0:Int)<(v4:Int))) (wi ((v4:Int)-1))<|AS (decide ((0:Int)<(v4:Int))) b.methods ((v4:Int)-1) fun c=>vz (fl d)<|lc (Ab [pp 2,pp 3,pp 5,(6,vN v4),pp 7,(52,vB (decide ((0:Int)<(v4:Int))&&(BZ a.name c.name||decide (a.name=c.name)))),(53,vN v4)] [(Dr f),(Dd b),kk 5 134 2 [vS b.name,.ref (1,1051) 0 0 d.length],(Ho a),kk 1051 170 3 (Af AA d)]) ((BF b.name d (decide ((0:Int)<(v4:Int))&&(BZ a.name c.name||decide (a.name=c.name))) (v4:Int) 11).bind fun e=>(ZS f b v4 a e).m)
def jz(d:Scm)(b:Svc)(v4:Nat)(c:Mth)(a:List Prb):PT 0 (Lv (Nat×List Prb) (List Prb) (List Prb)):=vz (fl a)<|lc (Ab [pp 2,pp 3,pp 5,(6,vN v4),pp 7] [(Dr d),(Dd b),kk 5 134 2 [vS b.name,.ref (1,1051) 0 0 a.length],(Ho c),kk 1051 170 3 (Af AA a)]) ((bA d b v4 c a).m)
def nc(d:Scm)(a:Svc)(v4:Nat)(b:List Prb)(c:Mth):PT 0 (Lv (Nat×List Prb) (List Prb) (List Prb)):=wg<|cl (Wx c.name) fun e=>vz (fl b)<|lc (Ab [pp 2,pp 3,pp 5,(6,vN v4),pp 7,(36,vB (!e)),(37,vN v4)] [(Dr d),(Dd a),(Sj a b),(Ho c),(RT b)]) ((BF a.name b (!e) (v4:Int) 8).bind fun f=>(jz d a v4 c f).m)
def lQ(d:Scm)(a:Svc)(v4:Nat)(b:List Prb):PT 0 (Lv (Nat×List Prb) (List Prb) (List Prb)):=wg<|ix a.methods v4 fun c=>wg<|vz (fl b)<|lc (Ab [pp 2,pp 3,pp 5,(6,vN v4),pp 7] [(Dr d),(Dd a),(Sj a b),(Ho c),(RT b)]) ((nc d a v4 b c).m)
def kW(c:Scm)(a:Svc)(v4:Nat)(b:List Prb):PT 0 (Lv (Nat×List Prb) (List Prb) (List Prb)):=wg<|vz (Ah a.methods)<|br (decide ((v4:Int)<(a.methods.length:Int))) (vz (fl b)<|lc (Ab [pp 2,pp 3,pp 5,(6,vN v4)] [(Dr c),(Dd a),(Sj a b),(RT b)]) ((lQ c a v4 b).m)) (vz (fl b)<|Aj (wz a) b)
def Wf(a:Scm)(b:Svc):Nat×List Prb→Option (Lv (Nat×List Prb) (List Prb) (List Prb)):=fun(v4,c)=>(kW a b v4 c).m
def jW(a:List Prb):PT 0 (List Prb):=wg<|vz (fr a)<|lr Xd nG a
def mQ(b:Svc)(a:List Prb):PT 0 (List Prb):=vz (fl a)<|lc (Ab [pp 5] (DF b.name a)) ((jW a).m)
def lh(b:Svc)(a:List Prb):PT 0 (List Prb):=wg<|vz (fl a)<|lc (Ab [pp 5,(84,vL BU b.notes)] (DF b.name a)) ((Hw b.name a b.notes 5 (-1)).bind fun c=>(mQ b c).m)
def ka(d:Scm)(a:Svc)(b:List Prb):PT 0 (List Prb):=vz (fl b)<|lc (Ab [pp 2,pp 3,pp 5,(6,vI 0)] [(Dr d),(Dd a),kk 5 134 2 [vS a.name,.ref (1,1051) 0 0 b.length],kk 1051 170 3 (Af AA b)]) ((Am (Wf d a) Ai (0,b)).bind (Sum.elim (fun c=>(lh a c).m) some))
def ja(c:Scm)(b:Svc)(a:List Prb):PT 0 (List Prb):=vz (fl a)<|lc (Ab [pp 2,pp 3,pp 5] [(Dr c),(Dd b),kk 5 134 2 [vS b.name,.ref (1,1051) 0 0 a.length],kk 1051 170 3 (Af AA a)]) ((ka c b a).m)
def lM(c:Scm)(a:Svc)(b:List Prb):PT 0 (List Prb):=wg<|vz (Ah a.methods)<|vz (fl b)<|lc (Ab [pp 2,pp 3,pp 5,(19,vB (decide ((64:Int)<(a.methods.length:Int))))] [(Dr c),(Dd a),kk 5 134 2 [vS a.name,.ref (1,1051) 0 0 b.length],kk 1051 170 3 (Af AA b)]) ((BF a.name b (decide ((64:Int)<(a.methods.length:Int))) (-1) 3).bind fun d=>(ja c a d).m)
def mE(c:Scm)(b:Svc)(a:List Prb):PT 0 (List Prb):=vz (fl a)<|lc (Ab [pp 2,pp 3,pp 5] [(Dr c),(Dd b),kk 5 134 2 [vS b.name,.ref (1,1051) 0 0 a.length],kk 1051 170 3 (Af AA a)]) ((lM c b a).m)
def mC(b:Scm)(a:Svc):PT 0 (List Prb):=vw (.adc (1,5) 1 1051 170 3)<|vw .sep<|wg<|cl (aN a.name) fun c=>vz (fl ([]:List Prb))<|lc (Ab [pp 2,pp 3,pp 5,(14,vB (!c))] [(Dr b),(Dd a),kk 5 134 2 [vS a.name,.ref (1,1051) 0 0 ([]:List Prb).length],kk 1051 170 3 (Af AA ([]:List Prb))]) ((BF a.name ([]:List Prb) (!c) (-1) 8).bind fun d=>(mE b a d).m)
def kQ(b:Scm)(a:Svc):PT 0 (List Prb):=wg<|wg<|lc (Ab [pp 2,pp 3,pp 5] [(Dr b),(Dd a),kk 5 134 2 [vS a.name,.e0]]) ((mC b a).m)
def eh(a:Scm)(b:Svc):Option (List Prb):=(kQ a b).m
theorem ZKd{C:Cx}(co:CO C 0)(c:Scm)(a:Svc):KL Tryz.prog (Az tl) 88 C (pa [0,0,1,0,1,1,1,1] (Aw Tryz.f79)) [.tmp 4] 0 (x9 c a) (wz a) Xd nG (Wf c a):=fun(v4,i) _ hm Q o l b=>Ak co Aa Ac 1 (kW c a v4 i) (Ae [2,3,5,6] Hq) (Ae [3,5] [((1,3),false),((1,5),false),((1,1051),true)]) l hm b fun r g=>⟨fun _ hm b=>sq (bk 1 (Ak co Aa Ac 1 (lQ c a v4 i) (Ae [2,3,5,6,7] Hm) nl l hm b fun r g=>fun d=>fun _ hm b=>sq (rg (BJ co Aa 5 (nc c a v4 i d) (Ae [2,3,5,6,7,36,37] Hm) hm b fun r g=>fun q=>fun _ hm b=>Bv co hm (BY a.name i (!q) (v4:Int) 8) (DF a.name i) [] (fun z=>.tup []) (DF a.name) [] fun k hm=>Bf co Aa (jz c a v4 d k) (Ae [2,3,5,6,7] Hm) hm b fun r g=>fun _ hm b=>sq (Fk co Aa Ac 15 (bA c a v4 d k) (Ae [2,3,5,6,7,52,53] Hm) hm b fun r g=>fun p=>fun _ hm b=>Bv co hm (BY a.name k (decide ((0:Int)<(v4:Int))&&(BZ d.name p.name||decide (d.name=p.name))) (v4:Int) 11) (DF a.name k) [] (fun z=>.tup []) (DF a.name) [] fun e hm=>Bf co Aa (ZS c a v4 d e) (Ae [2,3,5,6,7] Hm) hm b fun r g=>fun _ hm b=>sq (rg (BJ co Aa 13 (aj c a v4 d e) (Ae [2,3,5,6,7,66,67] Hm) hm b fun r g=>fun m=>fun n=>fun _ hm b=>Bv co hm (BY a.name e (decide (m<(0:Int))||decide (n<(0:Int))) (v4:Int) 12) (DF a.name e) [] (fun z=>.tup []) (DF a.name) [] fun f hm=>Bf co Aa (ah c a v4 d f) (Ae [2,3,5,6,7] Hm) hm b fun r g=>fun _ hm b=>sq (rg (BJ co Aa 9 (b7 c a v4 d f) (Ae [2,3,5,6,7,76,77] Hm) hm b fun r g=>fun _ hm b=>Bv co hm (BY a.name f (decide (d.shape<(1:Int))||decide ((4:Int)<d.shape)) (v4:Int) 1) (DF a.name f) [] (fun z=>.tup []) (DF a.name) [] fun h hm=>Bf co Aa (ZY c a v4 d h) (Ae [2,3,5,6,7] Hm) hm b fun r g=>fun _ hm b=>rg (BJ co Aa 3 (bt c a v4 d h) (Ae [2,3,5,6,80,81] Hq) hm b fun r g=>fun _ hm b=>Bv co hm (Na a.name h d.notes 6 (v4:Int)) (DF a.name h) [] (fun z=>.tup []) (DF a.name) [] fun j hm=>Bf co Aa (aI c a v4 j) (Ae [2,3,5,6] Hq) hm b fun r g=>fun _ hm b=>Av co Aa Ac (Zu c a v4 j) (Ae [2,3,5,6] Hq) nl l hm b fun r g=>id)))))))))),id⟩
theorem ZYi(c:Scm)(a:Svc):KC Tryz.prog 79 [.agg ((Al c).map .d),.agg ((C4 a).map .d)] (eh c a) Xd:=As Tryz.func79 Tryz.ntmps79 Aa [.tmp 4] fun C co y hm h b=>Ak co Aa Ac 2 (kQ c a) (Ae [2,3,5] [((1,2),false),((1,3),false),((1,5),false)]) nl nH hm b fun r g=>fun _ hm b=>sq (rg (BJ co Aa 4 (mC c a) (Ae [2,3,5,14] Hq) hm b fun r g=>fun j=>fun _ hm b=>Bv co hm (BY a.name ([]:List Prb) (!j) (-1) 8) (DF a.name ([]:List Prb)) [] (fun z=>.tup []) (DF a.name) [] fun f hm=>Bf co Aa (mE c a f) (Ae [2,3,5] Hq) hm b fun r g=>fun _ hm b=>sq (rg (BJ co Aa 4 (lM c a f) (Ae [2,3,5,19] Hq) hm b fun r g=>fun _ hm b=>Bv co hm (BY a.name f (decide ((64:Int)<(a.methods.length:Int))) (-1) 3) (DF a.name f) [] (fun z=>.tup []) (DF a.name) [] fun i hm=>Bf co Aa (ja c a i) (Ae [2,3,5] Hq) hm b fun r g=>fun _ hm b=>sq (Ak co Aa Ac 1 (ka c a i) (Ae [2,3,5,6] Hq) nl nH hm b fun r g=>fun _ hm b=>bk 0 (lo (AF (ZKd co c a) nH hm b (fun d hm=>sq (rg (BJ co Aa 2 (lh a d) (Ae [5,84] [((1,5),false),((1,1051),true)]) hm b fun r g=>fun _ hm b=>Bv co hm (Na a.name d a.notes 5 (-1)) (DF a.name d) [] (fun z=>.tup []) (DF a.name) [] fun e hm=>Bf co Aa (mQ a e) (Ae [5] [((1,5),false),((1,1051),true)]) hm b fun r g=>fun _ hm b=>Ao co Aa Ac (jW e) hm b fun r g=>id))))))))))
abbrev D5(a:Scm):Ad×Blk:=kk 1 26 3 (cD (Al a))
abbrev NW(a:List Prb):Ad×Blk:=kk 3 134 2 [vS ⟨#[]⟩,.ref (1,1031) 0 0 a.length]
abbrev N8(a:List Prb):Ad×Blk:=kk 1031 170 3 (Af AA a)
abbrev SI(a:List Prb):Ad×Blk:=kk 3 134 2 [vS ⟨#[]⟩,.ref (1,1031) 0 0 a.length]
abbrev Tf(a:List Prb):Ad×Blk:=kk 1031 170 3 (Af AA a)
abbrev Sx(a:List Prb):Ad×Blk:=kk 3 134 2 [vS ⟨#[]⟩,.ref (1,1031) 0 0 a.length]
abbrev Sw(a:List Prb):Ad×Blk:=kk 1031 170 3 (Af AA a)
abbrev cQ(a:List Prb):Ad×Blk:=kk 3 134 2 [vS ⟨#[]⟩,.ref (1,1031) 0 0 a.length]
abbrev K5:List Prb→AV:=fun y=>vL AA y
def wB(b:Scm):Nat×List Prb→St:=fun(c,a)=>Ab [pp 1,pp 3,(4,vN c)] [(D5 b),(NW a),(N8 a)]
def yK(b:Scm):List Prb→Nat×St:=fun a=>(0,Ab [pp 1,pp 3] [(D5 b),(SI a),(Tf a)])
def bG(c:Scm)(a:Nat)(b:List Prb):PT 0 (Lv (Nat×List Prb) (List Prb) (List Prb)):=vs (wa a 1)<|vz (fl b)<|ln (wB c) (a+1,b)
def aT(b:Scm)(c:Nat)(a:List Prb):PT 0 (Lv (Nat×List Prb) (List Prb) (List Prb)):=vz (fl a)<|lc (Ab [pp 1,pp 3,(4,vN c)] [(D5 b),kk 3 134 2 [vS ⟨#[]⟩,.ref (1,1031) 0 0 a.length],kk 1031 170 3 (Af AA a)]) ((bG b c a).m)
def cB(b:Scm)(c:Nat)(e:List ByteArray)(a:List Prb):PT 0 (Lv (Nat×List Prb) (List Prb) (List Prb)):=cl (ZZW e) fun d=>vz (fl a)<|lc (Ab [pp 1,pp 3,(4,vN c),(27,vB (!d))] [(D5 b),(cQ a),kk 1031 170 3 (Af AA a)]) ((BF ⟨#[]⟩ a (!d) (-1) 11).bind fun f=>(aT b c f).m)
def ai(b:Scm)(c:Nat)(d:List ByteArray)(a:List Prb):PT 0 (Lv (Nat×List Prb) (List Prb) (List Prb)):=vz (fl a)<|lc (Ab [pp 1,pp 3,(4,vN c),(5,vL AW d)] [(D5 b),(cQ a),kk 1031 170 3 (Af AA a)]) ((cB b c d a).m)
def aM(c:Scm)(d:Nat)(b:List Prb)(a:List ByteArray):PT 0 (Lv (Nat×List Prb) (List Prb) (List Prb)):=vz (Ah a)<|vz (fl b)<|lc (Ab [pp 1,pp 3,(4,vN d),(5,vL AW a),(23,vB (decide ((64:Int)<(a.length:Int))))] [(D5 c),(NW b),(N8 b)]) ((BF ⟨#[]⟩ b (decide ((64:Int)<(a.length:Int))) (-1) 3).bind fun e=>(ai c d a e).m)
def Zw(b:Scm)(c:Nat)(a:List Prb):PT 0 (Lv (Nat×List Prb) (List Prb) (List Prb)):=wg<|cl (SJ b (c:Int)) fun d=>vz (fl a)<|lc (Ab [pp 1,pp 3,(4,vN c),(5,vL AW d)] [(D5 b),(NW a),(N8 a)]) ((aM b c a d).m)
def bW(b:Scm)(c:Nat)(a:List Prb):PT 0 (Lv (Nat×List Prb) (List Prb) (List Prb)):=br (decide ((c:Int)≤(3:Int))) (vz (fl a)<|lc (Ab [pp 1,pp 3,(4,vN c)] [(D5 b),(NW a),(N8 a)]) ((Zw b c a).m)) (vz (fl a)<|Aj (yK b) a)
def Wo(a:Scm):Nat×List Prb→Option (Lv (Nat×List Prb) (List Prb) (List Prb)):=fun(c,b)=>(bW a c b).m
def y2(d:Scm)(c:List Bool):Nat×List Prb→St:=fun(b,a)=>Ab [(1,.iptr (Al d) 0),pp 3,(9,vL AU c),(10,vN b)] [kk 3 134 2 [vS ⟨#[]⟩,.ref (1,1031) 0 0 a.length],kk 1031 170 3 (Af AA a)]
def zo(b:Scm):List Prb→Nat×St:=fun a=>(2,Ab [(1,.iptr (Al b) 0),pp 3] [kk 3 134 2 [vS ⟨#[]⟩,.ref (1,1031) 0 0 a.length],kk 1031 170 3 (Af AA a)])
def Qa(e:Scm)(d:List Bool)(b:Nat)(a:List Prb)(c:List Prb):PT 0 (Lv (Nat×List Prb) (List Prb) (List Prb)):=vs (wa b 1)<|vz (fl (a++c))<|ln (y2 e d) (b+1,a++c)
def bJ(e:Scm)(c:List Bool)(d:Nat)(b:List Prb):PT 0 (Lv (Nat×List Prb) (List Prb) (List Prb)):=ix e.messages d fun f=>tw (wg<|cl (ZXb e f c) fun a=>aq b a<|wg<|vz (fl (b++a))<|lc (Ab [(1,.iptr (Al e) 0),pp 3,(9,vL AU c),(10,vN d)] [kk 3 134 2 [vS ⟨#[]⟩,.ref (1,1031) 0 0 (b++a).length],kk 1031 170 3 (Af AA (b++a))]) ((Qa e c d b a).m)) (cl (ZXb e f c) fun a=>wg<|aq b a<|wg<|vz (fl (b++a))<|lc (Ab [(1,.iptr (Al e) 0),pp 3,(9,vL AU c),(10,vN d)] [kk 3 134 2 [vS ⟨#[]⟩,.ref (1,1031) 0 0 (b++a).length],kk 1031 170 3 (Af AA (b++a))]) ((Qa e c d b a).m))
def jJ(c:Scm)(d:List Bool)(b:Nat)(a:List Prb):PT 0 (Lv (Nat×List Prb) (List Prb) (List Prb)):=vz (Ah c.messages)<|br (decide ((b:Int)<(c.messages.length:Int))) (vz (fl a)<|lc (Ab [(1,.iptr (Al c) 0),pp 3,(9,vL AU d),(10,vN b)] [kk 3 134 2 [vS ⟨#[]⟩,.ref (1,1031) 0 0 a.length],kk 1031 170 3 (Af AA a)]) ((bJ c d b a).m)) (vz (fl a)<|Aj (zo c) a)
def WL(d:Scm)(c:List Bool):Nat×List Prb→Option (Lv (Nat×List Prb) (List Prb) (List Prb)):=fun(b,a)=>(jJ d c b a).m
def wH(c:Scm):Nat×List Prb→St:=fun(b,a)=>Ab [(1,.iptr (Al c) 0),pp 3,(11,vN b)] [kk 3 134 2 [vS ⟨#[]⟩,.ref (1,1031) 0 0 a.length],kk 1031 170 3 (Af AA a)]
def zl(b:Scm):List Prb→Nat×St:=fun a=>(4,Ab [(1,.iptr (Al b) 0),pp 3] [kk 3 134 2 [vS ⟨#[]⟩,.ref (1,1031) 0 0 a.length],kk 1031 170 3 (Af AA a)])
def Pb(d:Scm)(b:Nat)(a:List Prb)(c:List Prb):PT 0 (Lv (Nat×List Prb) (List Prb) (List Prb)):=vs (wa b 1)<|vz (fl (a++c))<|ln (wH d) (b+1,a++c)
def jr(e:Scm)(c:Nat)(b:List Prb):PT 0 (Lv (Nat×List Prb) (List Prb) (List Prb)):=ix e.enums c fun d=>tw (wg<|cl (ZYS d) fun a=>aq b a<|wg<|vz (fl (b++a))<|lc (Ab [(1,.iptr (Al e) 0),pp 3,(11,vN c)] [kk 3 134 2 [vS ⟨#[]⟩,.ref (1,1031) 0 0 (b++a).length],kk 1031 170 3 (Af AA (b++a))]) ((Pb e c b a).m)) (cl (ZYS d) fun a=>wg<|aq b a<|wg<|vz (fl (b++a))<|lc (Ab [(1,.iptr (Al e) 0),pp 3,(11,vN c)] [kk 3 134 2 [vS ⟨#[]⟩,.ref (1,1031) 0 0 (b++a).length],kk 1031 170 3 (Af AA (b++a))]) ((Pb e c b a).m))
def mS(c:Scm)(b:Nat)(a:List Prb):PT 0 (Lv (Nat×List Prb) (List Prb) (List Prb)):=vz (Ah c.enums)<|br (decide ((b:Int)<(c.enums.length:Int))) (vz (fl a)<|lc (Ab [(1,.iptr (Al c) 0),pp 3,(11,vN b)] [kk 3 134 2 [vS ⟨#[]⟩,.ref (1,1031) 0 0 a.length],kk 1031 170 3 (Af AA a)]) ((jr c b a).m)) (vz (fl a)<|Aj (zl c) a)
def Ww(c:Scm):Nat×List Prb→Option (Lv (Nat×List Prb) (List Prb) (List Prb)):=fun(b,a)=>(mS c b a).m
def yD(c:Scm):Nat×List Prb→St:=fun(b,a)=>Ab [(1,.iptr (Al c) 0),pp 3,(12,vN b)] [kk 3 134 2 [vS ⟨#[]⟩,.ref (1,1031) 0 0 a.length],kk 1031 170 3 (Af AA a)]
def yF:List Prb→Nat×St:=fun a=>(6,Ab [pp 3] [kk 3 134 2 [vS ⟨#[]⟩,.ref (1,1031) 0 0 a.length],kk 1031 170 3 (Af AA a)])
def Pg(d:Scm)(b:Nat)(a:List Prb)(c:List Prb):PT 0 (Lv (Nat×List Prb) (List Prb) (List Prb)):=vs (wa b 1)<|vz (fl (a++c))<|ln (yD d) (b+1,a++c)
def iQ(d:Scm)(c:Nat)(b:List Prb):PT 0 (Lv (Nat×List Prb) (List Prb) (List Prb)):=ix d.services c fun e=>tw (wg<|cl (ZYi d e) fun a=>aq b a<|wg<|vz (fl (b++a))<|lc (Ab [(1,.iptr (Al d) 0),pp 3,(12,vN c)] [kk 3 134 2 [vS ⟨#[]⟩,.ref (1,1031) 0 0 (b++a).length],kk 1031 170 3 (Af AA (b++a))]) ((Pg d c b a).m)) (cl (ZYi d e) fun a=>wg<|aq b a<|wg<|vz (fl (b++a))<|lc (Ab [(1,.iptr (Al d) 0),pp 3,(12,vN c)] [kk 3 134 2 [vS ⟨#[]⟩,.ref (1,1031) 0 0 (b++a).length],kk 1031 170 3 (Af AA (b++a))]) ((Pg d c b a).m))
def mU(c:Scm)(b:Nat)(a:List Prb):PT 0 (Lv (Nat×List Prb) (List Prb) (List Prb)):=vz (Ah c.services)<|br (decide ((b:Int)<(c.services.length:Int))) (vz (fl a)<|lc (Ab [(1,.iptr (Al c) 0),pp 3,(12,vN b)] [kk 3 134 2 [vS ⟨#[]⟩,.ref (1,1031) 0 0 a.length],kk 1031 170 3 (Af AA a)]) ((iQ c b a).m)) (vz (fl a)<|Aj (yF) a)
def RM(c:Scm):Nat×List Prb→Option (Lv (Nat×List Prb) (List Prb) (List Prb)):=fun(b,a)=>(mU c b a).m
def jw(a:List Prb):PT 0 (List Prb):=wg<|vz (fr a)<|lr K5 nG a
def mO(c:Scm)(a:List Prb):PT 0 (List Prb):=vz (fl a)<|lc (Ab [(1,.iptr (Al c) 0),pp 3,(12,vI 0)] [kk 3 134 2 [vS ⟨#[]⟩,.ref (1,1031) 0 0 a.length],kk 1031 170 3 (Af AA a)]) ((Am (RM c) Ai (0,a)).bind (Sum.elim (fun b=>(jw b).m) some))
def mB(b:Scm)(a:List Prb):PT 0 (List Prb):=vz (fl a)<|lc (Ab [(1,.iptr (Al b) 0),pp 3,(11,vI 0)] [kk 3 134 2 [vS ⟨#[]⟩,.ref (1,1031) 0 0 a.length],kk 1031 170 3 (Af AA a)]) ((Am (Ww b) Ai (0,a)).bind (Sum.elim (fun c=>(mO b c).m) some))
def lY(c:Scm)(a:List Prb)(b:List Bool):PT 0 (List Prb):=vw (.fzb 1 [1])<|vz (fl a)<|lc (Ab [(1,.iptr (Al c) 0),pp 3,(9,vL AU b),(10,vI 0)] [(Sx a),(Sw a)]) ((Am (WL c b) Ai (0,a)).bind (Sum.elim (fun d=>(mB c d).m) some))
def mI(c:Scm)(a:List Prb)(b:List Bool):PT 0 (List Prb):=vz (fl a)<|lc (Ab [pp 1,pp 3,(9,vL AU b),(10,vI 0)] [(D5 c),(Sx a),(Sw a)]) ((lY c a b).m)
def kf(c:Scm)(a:List Prb):PT 0 (List Prb):=wg<|cl (ZZN c) fun b=>vz (fl a)<|lc (Ab [pp 1,pp 3,(9,vL AU b)] [(D5 c),(Sx a),(Sw a)]) ((mI c a b).m)
def ng(b:Scm)(a:List Prb):PT 0 (List Prb):=vz (fl a)<|lc (Ab [pp 1,pp 3] [(D5 b),(Sx a),(Sw a)]) ((kf b a).m)
def kw(g:Scm)(e:List Prb)(h:List ByteArray)(i:List ByteArray)(c:List ByteArray):PT 0 (List Prb):=cl (cE h i) fun a=>AC (!a) (cE h c) fun b=>AC (!(a||b)) (cE i c) fun d=>vz (fl e)<|lc (Ab [pp 1,pp 3,(47,vB ((a||b)||d))] [(D5 g),(SI e),(Tf e)]) ((BF ⟨#[]⟩ e ((a||b)||d) (-1) 9).bind fun f=>(ng g f).m)
def kn(a:Scm)(c:List Prb):PT 0 (List Prb):=wg<|cl (SJ a 1) fun d=>wg<|cl (SJ a 2) fun e=>wg<|cl (SJ a 3) fun b=>vz (fl c)<|lc (Ab [pp 1,pp 3,(6,vL AW d),(7,vL AW e),(8,vL AW b)] [(D5 a),(SI c),(Tf c)]) ((kw a c d e b).m)
def kh(a:Scm):PT 0 (List Prb):=vw (.adc (1,3) 1 1031 170 3)<|vz (fl ([]:List Prb))<|lc (Ab [pp 1,pp 3,(4,vI 1)] [(D5 a),kk 3 134 2 [vS ⟨#[]⟩,.ref (1,1031) 0 0 ([]:List Prb).length],kk 1031 170 3 (Af AA ([]:List Prb))]) ((Am (Wo a) Ai (1,([]:List Prb))).bind (Sum.elim (fun b=>(kn a b).m) some))
def jk(a:Scm):PT 0 (List Prb):=lc (Ab [pp 1,pp 3,(4,vI 1)] [(D5 a),kk 3 134 2 [vS ⟨#[]⟩,.e0]]) ((kh a).m)
def jx(a:Scm):PT 0 (List Prb):=wg<|lc (Ab [pp 1,pp 3] [(D5 a),kk 3 134 2 [vS ⟨#[]⟩,.e0]]) ((jk a).m)
def eO(a:Scm):Option (List Prb):=(jx a).m
theorem ZI9{C:Cx}(co:CO C 0)(b:Scm):KL Tryz.prog (Az tl) 107 C (pa [0,0,1,0,1,1] (Aw Tryz.f39)) [.tmp 2] 0 (wB b) (yK b) K5 nG (Wo b):=fun(c,d) _ hm Q i h a=>Ak co Aa Ac 1 (bW b c d) (Ae [1,3,4] Cd) (Ae [1,3] Cd) h hm a fun r g=>⟨fun _ hm a=>sq (bk 1 (Ak co Aa Ac 1 (Zw b c d) (Ae [1,3,4,5] Cd) nl h hm a fun r g=>fun f=>fun _ hm a=>sq (rg (BJ co Aa 3 (aM b c d f) (Ae [1,3,4,5,23] Cd) hm a fun r g=>fun _ hm a=>Bv co hm (BY ⟨#[]⟩ d (decide ((64:Int)<(f.length:Int))) (-1) 3) [(NW d),(N8 d)] [] (fun z=>.tup []) (fun z=>[kk 3 134 2 [vS ⟨#[]⟩,.ref (1,1031) 0 0 z.length],kk 1031 170 3 (Af AA z)]) [] fun e hm=>Bf co Aa (ai b c f e) (Ae [1,3,4,5] Cd) hm a fun r g=>fun _ hm a=>rg (BJ co Aa 3 (cB b c f e) (Ae [1,3,4,27] Cd) hm a fun r g=>fun k=>fun _ hm a=>Bv co hm (BY ⟨#[]⟩ e (!k) (-1) 11) [(cQ e),kk 1031 170 3 (Af AA e)] [] (fun z=>.tup []) (fun z=>[kk 3 134 2 [vS ⟨#[]⟩,.ref (1,1031) 0 0 z.length],kk 1031 170 3 (Af AA z)]) [] fun j hm=>Bf co Aa (aT b c j) (Ae [1,3,4] Cd) hm a fun r g=>fun _ hm a=>Av co Aa Ac (bG b c j) (Ae [1,3,4] Cd) nl h hm a fun r g=>id))))),id⟩
theorem ZL9{C:Cx}(co:CO C 0)(e:Scm)(a:List Bool):KL Tryz.prog (Az tl) 107 C (pa [0,0,1,0,1,1,1,1,1,1,1,1] (Aw Tryz.f39)) [.tmp 2] 0 (y2 e a) (zo e) K5 nG (WL e a):=fun(c,b) _ hm Q j i d=>Ak co Aa Ac 1 (jJ e a c b) (Ae [1,3,9,10] Dh) (Ae [1,3] Dh) i hm d fun r g=>⟨fun _ hm d=>sq (bk 3 (Fg co Aa Ac (.fst 0 (.fst 2 (.fst 3 (.fst 4 (.fst 5 (.fst 6 (.fst 8 (.fst 7 (.two 1 9 (.fst 9 (.fst 10 (.fst 11 (.fst 12 .nil)))) (.fst 1 (.fst 10 (.fst 11 (.fst 12 .nil))))))))))))) [1] (bJ e a c b) (Ae [1,3,9,10] Dh) hm d fun r g=>fun k=>⟨fun f=>fun _ hm d=>Av co Aa Ac (Qa e a c b f) (Ae [1,3,9,10] Dh) nl i hm d fun r g=>id,fun f=>fun _ hm d=>Av co Aa Ac (Qa e a c b f) (Ae [1,3,9,10] Dh) nl i hm d fun r g=>id,fun _ h=>h⟩)),id⟩
theorem ZIC{C:Cx}(co:CO C 0)(d:Scm):KL Tryz.prog (Az tl) 107 C (pa [0,0,1,0,1,1,1,1,1,1,1,1,1] (Aw Tryz.f39)) [.tmp 2] 0 (wH d) (zl d) K5 nG (Ww d):=fun(b,a) _ hm Q i f c=>Ak co Aa Ac 1 (mS d b a) (Ae [1,3,11] Dh) (Ae [1,3] Dh) f hm c fun r g=>⟨fun _ hm c=>sq (bk 5 (Fg co Aa Ac (.fst 0 (.fst 2 (.fst 3 (.fst 4 (.fst 5 (.fst 6 (.two 1 7 (.fst 7 (.fst 8 (.fst 9 (.fst 10 .nil)))) (.fst 1 (.fst 8 (.fst 9 (.fst 10 .nil))))))))))) [1] (jr d b a) (Ae [1,3,11] Dh) hm c fun r g=>fun j=>⟨fun e=>fun _ hm c=>Av co Aa Ac (Pb d b a e) (Ae [1,3,11] Dh) nl f hm c fun r g=>id,fun e=>fun _ hm c=>Av co Aa Ac (Pb d b a e) (Ae [1,3,11] Dh) nl f hm c fun r g=>id,fun _ h=>h⟩)),id⟩
theorem ZK0{C:Cx}(co:CO C 0)(e:Scm):KL Tryz.prog (Az tl) 107 C (pa [0,0,1,0,1,1,1,1,1,1,1,1,1,1] (Aw Tryz.f39)) [.tmp 2] 0 (yD e) (yF) K5 nG (RM e):=fun(b,a) _ hm Q i f c=>Ak co Aa Ac 1 (mU e b a) (Ae [1,3,12] Dh) (Ae [3] Dh) f hm c fun r g=>⟨fun _ hm c=>sq (bk 7 (Fg co Aa Ac (.fst 0 (.fst 2 (.fst 3 (.fst 4 (.fst 5 (.fst 6 (.fst 7 (.two 1 8 (.fst 8 (.fst 9 (.fst 10 (.fst 11 .nil)))) (.fst 1 (.fst 9 (.fst 10 (.fst 11 .nil)))))))))))) [1] (iQ e b a) (Ae [1,3,12] Dh) hm c fun r g=>fun j=>⟨fun d=>fun _ hm c=>Av co Aa Ac (Pg e b a d) (Ae [1,3,12] Dh) nl f hm c fun r g=>id,fun d=>fun _ hm c=>Av co Aa Ac (Pg e b a d) (Ae [1,3,12] Dh) nl f hm c fun r g=>id,fun _ h=>h⟩)),id⟩
theorem ZZn(b:Scm):KC Tryz.prog 39 [.agg ((Al b).map .d)] (eO b) K5:=As Tryz.func39 Tryz.ntmps39 Aa [.tmp 2] fun C co y hm n a=>Ak co Aa Ac 2 (jx b) (Ae [1,3] [((1,1),false),((1,3),false)]) nl nH hm a fun r g=>fun _ hm a=>sq (Ak co Aa Ac 1 (jk b) (Ae [1,3,4] [((1,1),false),((1,3),false)]) nl nH hm a fun r g=>fun _ hm a=>bk 0 (Fh co (kh b) (Ae [1,3,4] Cd) hm a fun r g=>fun _ hm a=>lo (AF (ZI9 co b) nH hm a (fun e hm=>Ak co Aa Ac 3 (kn b e) (Ae [1,3,6,7,8] Cd) nl nH hm a fun r g=>fun o=>fun p=>fun j=>fun _ hm a=>sq (rg (BJ co Aa 13 (kw b e o p j) (Ae [1,3,47] Cd) hm a fun r g=>fun k=>fun l=>fun m=>fun _ hm a=>Bv co hm (BY ⟨#[]⟩ e ((k||l)||m) (-1) 9) [(SI e),(Tf e)] [] (fun z=>.tup []) (fun z=>[kk 3 134 2 [vS ⟨#[]⟩,.ref (1,1031) 0 0 z.length],kk 1031 170 3 (Af AA z)]) [] fun c hm=>Bf co Aa (ng b c) (Ae [1,3] Cd) hm a fun r g=>fun _ hm a=>Ak co Aa Ac 1 (kf b c) (Ae [1,3,9] Cd) nl nH hm a fun r g=>fun d=>fun _ hm a=>sq (Ak co Aa Ac 1 (mI b c d) (Ae [1,3,9,10] Cd) nl nH hm a fun r g=>fun _ hm a=>bk 2 (Fh co (lY b c d) (Ae [1,3,9,10] Dh) hm a fun r g=>fun _ hm a=>lo (AF (ZL9 co b d) nH hm a (fun f hm=>sq (Ak co Aa Ac 1 (mB b f) (Ae [1,3,11] Dh) nl nH hm a fun r g=>fun _ hm a=>bk 4 (lo (AF (ZIC co b) nH hm a (fun h hm=>sq (Ak co Aa Ac 1 (mO b h) (Ae [1,3,12] Dh) nl nH hm a fun r g=>fun _ hm a=>bk 6 (lo (AF (ZK0 co b) nH hm a (fun i hm=>Ao co Aa Ac (jw i) hm a fun r g=>id))))))))))))))))))
abbrev nS:Bool→AV:=fun y=>vB y
def aa(b:Scm):PT 0 (Bool):=wg<|cl (ZZn b) fun a=>vz (Ah a)<|lr nS nG (decide ((a.length:Int)=(0:Int)))
def Oz(a:Scm):Option (Bool):=(aa a).m
theorem ZZG(a:Scm):KC Tryz.prog 18 [.agg ((Al a).map .d)] (Oz a) nS:=As Tryz.func18 Tryz.ntmps18 Aa [.tmp 2] fun C co y hm b c=>Ao co Aa Ac (aa a) hm c fun r g=>fun d=>id
abbrev E5:Bool→AV:=fun y=>vB y
def dn(b:Scm)(a:ByteArray):PT 0 (Bool):=vz (A7 a.size)<|wg<|AC (decide ((a.size:Int)≤(300:Int))) (ZZu b) fun c=>wg<|AC (decide ((a.size:Int)≤(300:Int))&&c) (ZZG b) fun d=>lr E5 nG ((decide ((a.size:Int)≤(300:Int))&&c)&&d)
def ff(a:Scm)(b:ByteArray):Option (Bool):=(dn a b).m
theorem K_5(a:Scm)(b:ByteArray):KC Tryz.prog 5 [.agg ((Al a).map .d),vS b] (ff a b) E5:=As Tryz.func5 Tryz.ntmps5 Aa [.tmp 4] fun C co y hm c d=>Ao co Aa Ac (dn a b) hm d fun r g=>fun e=>fun f=>id
abbrev ZXn:List (Ad×Bool):=[((1,3),false)]
abbrev FY:List (Ad×Bool):=[((1,2),false),((1,4),false)]
abbrev D9:List (Ad×Bool):=[((1,4),false)]
abbrev RV:Ad×Blk:=kk 4 61 5 [vS ⟨#[]⟩,.e0,.e0,.e0,.e0]
abbrev cN(a:Scm):Ad×Blk:=kk 2 26 3 (cD (Al a))
abbrev Qr:Msg×Bool→AV:=fun y=>.tup [.agg ((AB y.1).map .d),vB y.2]
def xq(a:Scm)(b:ByteArray):Nat→St:=fun c=>Ab [(1,vS b),pp 2,pp 4,(6,vN c)] [(cN a),RV]
def zq:Unit→Nat×St:=fun _=>(0,Ab [pp 4] [RV])
def V3(a:Scm)(c:ByteArray)(b:Nat):PT 0 (Lv (Nat) (Unit) (Msg×Bool)):=wg<|vz (Ah a.messages)<|br (decide ((b:Int)<(a.messages.length:Int))) (wg<|ix a.messages b fun d=>br (decide (d.name=c)) (wg<|ix a.messages b fun e=>wg<|Au Qr nG (e,true)) (vs (wa b 1)<|ln (xq a c) (b+1))) (Aj (zq) ())
def P5(a:Scm)(b:ByteArray):Nat→Option (Lv (Nat) (Unit) (Msg×Bool)):=fun c=>(V3 a b c).m
def ZW:PT 0 (Msg×Bool):=wg<|lr Qr nG ((.mk ⟨#[]⟩ [] [] [] []:Msg),false)
def X7(a:Scm)(b:ByteArray):PT 0 (Msg×Bool):=lc (Ab [(1,vS b),pp 2,pp 4,(6,vI 0)] [(cN a),RV]) ((Am (P5 a b) Ai 0).bind (Sum.elim (fun _=>(ZW).m) some))
def aE(a:Scm)(b:ByteArray):PT 0 (Msg×Bool):=lc (Ab [(1,vS b),pp 2,pp 4] [(cN a),RV]) ((X7 a b).m)
def L3(a:Scm)(b:ByteArray):Option (Msg×Bool):=(aE a b).m
theorem ZLl{C:Cx}(co:CO C 0)(a:Scm)(b:ByteArray):KL Tryz.prog (Az tl) 28 C (pa [0,0,1,0,1] (Aw Tryz.f40)) [.cell 4 61,.tmp 5] 0 (xq a b) (zq) Qr nG (P5 a b):=fun f _ hm Q c e d=>Av co Aa Ac (V3 a b f) (Ae [1,2,4,6] FY) (Ae [4] D9) e hm d fun r g=>⟨fun h=>⟨fun i=>id,id⟩,id⟩
theorem cK(b:Scm)(c:ByteArray):KC Tryz.prog 40 [.agg ((Al b).map .d),vS c] (L3 b c) Qr:=As Tryz.func40 Tryz.ntmps40 Aa [.cell 4 61,.tmp 5] fun C co y hm d a=>Ak co Aa Ac 1 (aE b c) (Ae [1,2,4] FY) nl nH hm a fun r g=>fun _ hm a=>sq (Ak co Aa Ac 1 (X7 b c) (Ae [1,2,4,6] FY) nl nH hm a fun r g=>fun _ hm a=>bk 0 (lo (AF (ZLl co b c) nH hm a (fun _ hm=>Ao co Aa Ac (ZW) hm a fun r g=>id))))
abbrev Sb:Bool→AV:=fun y=>vB y
def jP(a:Val):PT 0 (Bool):=wg<|vz (Ah a.list)<|wg<|wg<|vy (!(decide ((0:Int)<(a.list.length:Int))&&(!decide (a.kind=(11:Int))))) (Ah a.pairs)<|wg<|wg<|vy (!((decide ((0:Int)<(a.list.length:Int))&&(!decide (a.kind=(11:Int))))||(decide ((0:Int)<(a.pairs.length:Int))&&(!decide (a.kind=(12:Int)))))) (Ah a.slots)<|wg<|wg<|vy (!(((decide ((0:Int)<(a.list.length:Int))&&(!decide (a.kind=(11:Int))))||(decide ((0:Int)<(a.pairs.length:Int))&&(!decide (a.kind=(12:Int)))))||(decide ((0:Int)<(a.slots.length:Int))&&(!decide (a.kind=(10:Int)))))) (Ah a.raws)<|wg<|br ((((decide ((0:Int)<(a.list.length:Int))&&(!decide (a.kind=(11:Int))))||(decide ((0:Int)<(a.pairs.length:Int))&&(!decide (a.kind=(12:Int)))))||(decide ((0:Int)<(a.slots.length:Int))&&(!decide (a.kind=(10:Int)))))||(decide ((0:Int)<(a.raws.length:Int))&&(!decide (a.kind=(10:Int))))) (lr Sb nG true) (wg<|wg<|wg<|br ((!decide (a.text=(⟨#[]⟩:ByteArray)))&&(!(decide (a.kind=(7:Int))||decide (a.kind=(8:Int))))) (lr Sb nG true) (wg<|wg<|wg<|wg<|lr Sb nG ((!decide (a.bits=(0:Int)))&&((((decide (a.kind=(7:Int))||decide (a.kind=(8:Int)))||decide (a.kind=(11:Int)))||decide (a.kind=(12:Int)))||decide (a.kind=(10:Int))))))
def eX(a:Val):Option (Bool):=(jP a).m
theorem Wr(a:Val):KC Tryz.prog 102 [.agg ((Ag a).map .d)] (eX a) Sb:=As Tryz.func102 Tryz.ntmps102 Aa [.tmp 2] fun C co y hm b c=>Ao co Aa Ac (jP a) hm c fun r g=>⟨id,⟨id,id⟩⟩
abbrev SR:Ad×Blk:=kk 4 56 16 [vI 0,vS ⟨#[]⟩,vI 0,vI 0,vI 0,vS ⟨#[]⟩,vS ⟨#[]⟩,vB false,vI 0,.d (.int .u64 0),vS ⟨#[]⟩,.e0,.e0,.e0,.e0,.e0]
abbrev dB(a:Msg):Ad×Blk:=kk 2 61 5 (cD (AB a))
abbrev Sd:Fld×Bool→AV:=fun y=>.tup [.agg ((An y.1).map .d),vB y.2]
def rW(a:Msg)(b:Int):Nat→St:=fun c=>Ab [(1,vI b),pp 2,pp 4,(6,vN c)] [(dB a),SR]
def qC:Unit→Nat×St:=fun _=>(0,Ab [pp 4] [SR])
def VF(a:Msg)(c:Int)(b:Nat):PT 0 (Lv (Nat) (Unit) (Fld×Bool)):=wg<|vz (Ah a.fields)<|br (decide ((b:Int)<(a.fields.length:Int))) (wg<|ix a.fields b fun d=>br (decide (d.num=c)) (wg<|ix a.fields b fun e=>wg<|Au Sd nG (e,true)) (vs (wa b 1)<|ln (rW a c) (b+1))) (Aj (qC) ())
def Ps(a:Msg)(b:Int):Nat→Option (Lv (Nat) (Unit) (Fld×Bool)):=fun c=>(VF a b c).m
def lz:PT 0 (Fld×Bool):=wg<|lr Sd nG ((.mk 0 ⟨#[]⟩ 0 0 (.mk 0 ⟨#[]⟩:Typ) ⟨#[]⟩ false (.mk 0 0 ⟨#[]⟩ [] [] [] []:Val) []:Fld),false)
def mV(a:Msg)(b:Int):PT 0 (Fld×Bool):=lc (Ab [(1,vI b),pp 2,pp 4,(6,vI 0)] [(dB a),SR]) ((Am (Ps a b) Ai 0).bind (Sum.elim (fun _=>(lz).m) some))
def lX(a:Msg)(b:Int):PT 0 (Fld×Bool):=lc (Ab [(1,vI b),pp 2,pp 4] [(dB a),SR]) ((mV a b).m)
def eW(a:Msg)(b:Int):Option (Fld×Bool):=(lX a b).m
theorem Zyp{C:Cx}(co:CO C 0)(a:Msg)(b:Int):KL Tryz.prog (Az tl) 28 C (pa [0,0,1,0,1] (Aw Tryz.f148)) [.cell 4 56,.tmp 5] 0 (rW a b) (qC) Sd nG (Ps a b):=fun f _ hm Q c e d=>Av co Aa Ac (VF a b f) (Ae [1,2,4,6] FY) (Ae [4] D9) e hm d fun r g=>⟨fun h=>⟨fun i=>id,id⟩,id⟩
theorem Z4(b:Msg)(c:Int):KC Tryz.prog 148 [.agg ((AB b).map .d),vI c] (eW b c) Sd:=As Tryz.func148 Tryz.ntmps148 Aa [.cell 4 56,.tmp 5] fun C co y hm d a=>Ak co Aa Ac 1 (lX b c) (Ae [1,2,4] FY) nl nH hm a fun r g=>fun _ hm a=>sq (Ak co Aa Ac 1 (mV b c) (Ae [1,2,4,6] FY) nl nH hm a fun r g=>fun _ hm a=>bk 0 (lo (AF (Zyp co b c) nH hm a (fun _ hm=>Ao co Aa Ac (lz) hm a fun r g=>id))))
abbrev RW:Ad×Blk:=kk 4 92 5 [vS ⟨#[]⟩,vB false,.e0,.e0,.e0]
abbrev cH(a:Scm):Ad×Blk:=kk 2 26 3 (cD (Al a))
abbrev S9:Enm×Bool→AV:=fun y=>.tup [.agg ((Bz y.1).map .d),vB y.2]
def s3(a:Scm)(b:ByteArray):Nat→St:=fun c=>Ab [(1,vS b),pp 2,pp 4,(6,vN c)] [(cH a),RW]
def rP:Unit→Nat×St:=fun _=>(0,Ab [pp 4] [RW])
def VK(a:Scm)(c:ByteArray)(b:Nat):PT 0 (Lv (Nat) (Unit) (Enm×Bool)):=wg<|vz (Ah a.enums)<|br (decide ((b:Int)<(a.enums.length:Int))) (wg<|ix a.enums b fun d=>br (decide (d.name=c)) (wg<|ix a.enums b fun e=>wg<|Au S9 nG (e,true)) (vs (wa b 1)<|ln (s3 a c) (b+1))) (Aj (rP) ())
def O7(a:Scm)(b:ByteArray):Nat→Option (Lv (Nat) (Unit) (Enm×Bool)):=fun c=>(VK a b c).m
def jL:PT 0 (Enm×Bool):=wg<|lr S9 nG ((.mk ⟨#[]⟩ false [] [] []:Enm),false)
def iM(a:Scm)(b:ByteArray):PT 0 (Enm×Bool):=lc (Ab [(1,vS b),pp 2,pp 4,(6,vI 0)] [(cH a),RW]) ((Am (O7 a b) Ai 0).bind (Sum.elim (fun _=>(jL).m) some))
def kI(a:Scm)(b:ByteArray):PT 0 (Enm×Bool):=lc (Ab [(1,vS b),pp 2,pp 4] [(cH a),RW]) ((iM a b).m)
def fe(a:Scm)(b:ByteArray):Option (Enm×Bool):=(kI a b).m
theorem ZzX{C:Cx}(co:CO C 0)(a:Scm)(b:ByteArray):KL Tryz.prog (Az tl) 28 C (pa [0,0,1,0,1] (Aw Tryz.f150)) [.cell 4 92,.tmp 5] 0 (s3 a b) (rP) S9 nG (O7 a b):=fun f _ hm Q c e d=>Av co Aa Ac (VK a b f) (Ae [1,2,4,6] FY) (Ae [4] D9) e hm d fun r g=>⟨fun h=>⟨fun i=>id,id⟩,id⟩
theorem yu(b:Scm)(c:ByteArray):KC Tryz.prog 150 [.agg ((Al b).map .d),vS c] (fe b c) S9:=As Tryz.func150 Tryz.ntmps150 Aa [.cell 4 92,.tmp 5] fun C co y hm d a=>Ak co Aa Ac 1 (kI b c) (Ae [1,2,4] FY) nl nH hm a fun r g=>fun _ hm a=>sq (Ak co Aa Ac 1 (iM b c) (Ae [1,2,4,6] FY) nl nH hm a fun r g=>fun _ hm a=>bk 0 (lo (AF (ZzX co b c) nH hm a (fun _ hm=>Ao co Aa Ac (jL) hm a fun r g=>id))))
abbrev dS(a:Enm):Ad×Blk:=kk 2 92 5 (cD (Bz a))
abbrev SB:Bool→AV:=fun y=>vB y
def tU(a:Enm)(b:Int):Nat→St:=fun c=>Ab [(1,.d (.int .u64 b)),pp 2,(5,vN c)] [(dS a)]
def uF:Unit→Nat×St:=fun _=>(0,Ab [] [])
def UC(a:Enm)(e:Int)(b:Nat):PT 0 (Lv (Nat) (Unit) (Bool)):=wg<|vz (Ah a.items)<|br (decide ((b:Int)<(a.items.length:Int))) (wg<|ix a.items b fun c=>wg<|AS (decide ((0:Int)≤c.num)) a.items (b:Int) fun d=>vy (decide ((0:Int)≤c.num)) (wk .u64 d.num)<|br (decide ((0:Int)≤c.num)&&decide ((IntKind.u64.wrap d.num)=e)) (Au SB nG true) (vs (wa b 1)<|ln (tU a e) (b+1))) (Aj (uF) ())
def Pe(a:Enm)(b:Int):Nat→Option (Lv (Nat) (Unit) (Bool)):=fun c=>(UC a b c).m
def kV:PT 0 (Bool):=lr SB nG false
def jC(a:Enm)(b:Int):PT 0 (Bool):=lc (Ab [(1,.d (.int .u64 b)),pp 2,(5,vI 0)] [(dS a)]) ((Am (Pe a b) Ai 0).bind (Sum.elim (fun _=>(kV).m) some))
def jS(a:Enm)(b:Int):PT 0 (Bool):=lc (Ab [(1,.d (.int .u64 b)),pp 2] [(dS a)]) ((jC a b).m)
def Ou(a:Enm)(b:Int):Option (Bool):=(jS a b).m
theorem Zzn{C:Cx}(co:CO C 0)(a:Enm)(b:Int):KL Tryz.prog (Az tl) 31 C (pa [0,0,1,0,1] (Aw Tryz.f151)) [.tmp 4] 0 (tU a b) (uF) SB nG (Pe a b):=fun f _ hm Q c e d=>Av co Aa Ac (UC a b f) (Ae [1,2,5] Ee) nl e hm d fun r g=>⟨fun h=>fun i=>⟨id,id⟩,id⟩
theorem zk(b:Enm)(c:Int):KC Tryz.prog 151 [.agg ((Bz b).map .d),.d (.int .u64 c)] (Ou b c) SB:=As Tryz.func151 Tryz.ntmps151 Aa [.tmp 4] fun C co y hm d a=>Ak co Aa Ac 1 (jS b c) (Ae [1,2] Ee) nl nH hm a fun r g=>fun _ hm a=>sq (Ak co Aa Ac 1 (jC b c) (Ae [1,2,5] Ee) nl nH hm a fun r g=>fun _ hm a=>bk 0 (lo (AF (Zzn co b c) nH hm a (fun _ hm=>Ao co Aa Ac (kV) hm a fun r g=>id))))
abbrev Ll:Int→AV:=fun y=>vI y
def jI(b:Int)(a:Val):PT 0 (Int):=wg<|wg<|AC (!(!decide (a.kind=b))) (Wr a) fun c=>br ((!decide (a.kind=b))||c) (lr Ll nG 12) (wg<|vz (A7 a.text.size)<|br (decide ((4096:Int)<(a.text.size:Int))) (lr Ll nG 3) (wg<|cl (bv b a) fun d=>br (!d) (br (decide (b=(7:Int))) (lr Ll nG 7) (lr Ll nG 12)) (lr Ll nG 0)))
def eo(a:Int)(b:Val):Option (Int):=(jI a b).m
theorem vF(a:Int)(b:Val):KC Tryz.prog 180 [vI a,.agg ((Ag b).map .d)] (eo a b) Ll:=As Tryz.func180 Tryz.ntmps180 Aa [.tmp 4] fun C co y hm c d=>Ao co Aa Ac (jI a b) hm d fun r g=>fun e=>⟨id,⟨id,fun f=>⟨⟨id,id⟩,id⟩⟩⟩
abbrev cT(a:Val):Ad×Blk:=kk 2 33 7 (cD (Ag a))
abbrev R6:Bool→AV:=fun y=>vB y
def tp(a:Val)(b:Int):Nat→St:=fun c=>Ab [(1,vI b),pp 2,(5,vN c)] [(cT a)]
def sX:Unit→Nat×St:=fun _=>(0,Ab [] [])
def Vg(a:Val)(c:Int)(b:Nat):PT 0 (Lv (Nat) (Unit) (Bool)):=wg<|vz (Ah a.slots)<|br (decide ((b:Int)<(a.slots.length:Int))) (wg<|ix a.slots b fun d=>br (decide (d.num=c)) (Au R6 nG true) (vs (wa b 1)<|ln (tp a c) (b+1))) (Aj (sX) ())
def Pt(a:Val)(b:Int):Nat→Option (Lv (Nat) (Unit) (Bool)):=fun c=>(Vg a b c).m
def lg:PT 0 (Bool):=lr R6 nG false
def kj(a:Val)(b:Int):PT 0 (Bool):=lc (Ab [(1,vI b),pp 2,(5,vI 0)] [(cT a)]) ((Am (Pt a b) Ai 0).bind (Sum.elim (fun _=>(lg).m) some))
def l6(a:Val)(b:Int):PT 0 (Bool):=lc (Ab [(1,vI b),pp 2] [(cT a)]) ((kj a b).m)
def eQ(a:Val)(b:Int):Option (Bool):=(l6 a b).m
theorem Zy8{C:Cx}(co:CO C 0)(a:Val)(b:Int):KL Tryz.prog (Az tl) 21 C (pa [0,0,1,0,1] (Aw Tryz.f104)) [.tmp 4] 0 (tp a b) (sX) R6 nG (Pt a b):=fun f _ hm Q c e d=>Av co Aa Ac (Vg a b f) (Ae [1,2,5] Ee) nl e hm d fun r g=>⟨fun h=>⟨id,id⟩,id⟩
theorem ZVs(b:Val)(c:Int):KC Tryz.prog 104 [.agg ((Ag b).map .d),vI c] (eQ b c) R6:=As Tryz.func104 Tryz.ntmps104 Aa [.tmp 4] fun C co y hm d a=>Ak co Aa Ac 1 (l6 b c) (Ae [1,2] Ee) nl nH hm a fun r g=>fun _ hm a=>sq (Ak co Aa Ac 1 (kj b c) (Ae [1,2,5] Ee) nl nH hm a fun r g=>fun _ hm a=>bk 0 (lo (AF (Zy8 co b c) nH hm a (fun _ hm=>Ao co Aa Ac (lg) hm a fun r g=>id))))
abbrev N7:Int→AV:=fun y=>vI y
def gf(a:Raw):PT 0 (Int):=wg<|wg<|vy (decide (a.wire=(3:Int))) (A7 a.data.size)<|wg<|vy (!(decide (a.wire=(3:Int))&&decide ((4096:Int)<(a.data.size:Int)))) (A7 a.data.size)<|br ((decide (a.wire=(3:Int))&&decide ((4096:Int)<(a.data.size:Int)))||decide ((65536:Int)<(a.data.size:Int))) (lr N7 nG 3) (lr N7 nG 0)
def ly(d:Scm)(e:Msg)(a:Raw):PT 0 (Int):=wg<|wg<|wg<|wg<|wg<|wg<|wg<|wg<|wg<|br (((((decide (a.num<(1:Int))||decide ((65535:Int)<a.num))||decide (a.wire<(0:Int)))||decide ((6:Int)<a.wire))||(((decide (a.wire=(0:Int))||decide (a.wire=(1:Int)))||decide (a.wire=(2:Int)))&&(!decide (a.data=(⟨#[]⟩:ByteArray)))))||((!((decide (a.wire=(0:Int))||decide (a.wire=(1:Int)))||decide (a.wire=(2:Int))))&&(!decide (a.bits=(0:Int))))) (lr N7 nG 1) (wg<|wg<|cl (Z4 e a.num) fun b=>wg<|br b.2 (wg<|wg<|cl (yu d b.1.type.name) fun c=>wg<|wg<|wg<|wg<|wg<|wg<|wg<|wg<|AC (!((((((!decide (b.1.type.kind=(9:Int)))||(!c.2))||c.1.opn)||decide (b.1.card=(5:Int)))||(!decide (a.wire=(0:Int))))||decide ((2147483648:Int)≤a.bits))) (zk c.1 a.bits) fun f=>br (((((((!decide (b.1.type.kind=(9:Int)))||(!c.2))||c.1.opn)||decide (b.1.card=(5:Int)))||(!decide (a.wire=(0:Int))))||decide ((2147483648:Int)≤a.bits))||f) (lr N7 nG 1) (gf a)) (gf a))
def fg(a:Scm)(b:Msg)(c:Raw):Option (Int):=(ly a b c).m
theorem ZWa(a:Scm)(b:Msg)(c:Raw):KC Tryz.prog 105 [.agg ((Al a).map .d),.agg ((AB b).map .d),.agg ((AZ c).map .d)] (fg a b c) N7:=As Tryz.func105 Tryz.ntmps105 Aa [.tmp 6] fun C co y hm d e=>Ao co Aa Ac (ly a b c) hm e fun r g=>⟨id,fun f=>⟨fun h=>fun i=>⟨id,⟨id,id⟩⟩,⟨id,id⟩⟩⟩
abbrev Co:Int→AV:=fun y=>vI y
end Go.Proofs.YthgmbpciandpiaaGreat
