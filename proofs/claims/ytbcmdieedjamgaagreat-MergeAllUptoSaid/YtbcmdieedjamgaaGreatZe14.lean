import Derived.Test.YtbcmdieedjamgaaGreatZe13
import Derived.Test.YtbcmdieedjamgaaGreatZe00
namespace Go.Proofs.YtbcmdieedjamgaaGreat
set_option maxRecDepth 100000
set_option linter.all false
open Go Go.Eng
abbrev DS(a:Scm):Ad×Blk:=kk 1 26 3 (cD (Al a))
abbrev OE(a:List Prb):Ad×Blk:=kk 3 75 2 [vS ⟨#[]⟩,.ref (1,1031) 0 0 a.length]
abbrev OQ(a:List Prb):Ad×Blk:=kk 1031 114 3 (Aa Ak a)
abbrev Sg(a:List Prb):Ad×Blk:=kk 3 75 2 [vS ⟨#[]⟩,.ref (1,1031) 0 0 a.length]
abbrev R4(a:List Prb):Ad×Blk:=kk 1031 114 3 (Aa Ak a)
abbrev Sc(a:List Prb):Ad×Blk:=kk 3 75 2 [vS ⟨#[]⟩,.ref (1,1031) 0 0 a.length]
abbrev SD(a:List Prb):Ad×Blk:=kk 1031 114 3 (Aa Ak a)
abbrev ax(a:List Prb):Ad×Blk:=kk 3 75 2 [vS ⟨#[]⟩,.ref (1,1031) 0 0 a.length]
abbrev LB:List Prb→AV:=fun y=>vL Ak y
def qi(b:Scm):Nat×List Prb→St:=fun(c,a)=>Ac [pp 1,pp 3,(4,vN c)] [(DS b),(OE a),(OQ a)]
def vH(b:Scm):List Prb→Nat×St:=fun a=>(0,Ac [pp 1,pp 3] [(DS b),(Sg a),(R4 a)])
def qb(c:Scm)(a:Nat)(b:List Prb):PT 0 (Lv (Nat×List Prb) (List Prb) (List Prb)):=vs (wa a 1)<|vz (fl b)<|ln (qi c) (a+1,b)
def tt(b:Scm)(c:Nat)(a:List Prb):PT 0 (Lv (Nat×List Prb) (List Prb) (List Prb)):=vz (fl a)<|lc (Ac [pp 1,pp 3,(4,vN c)] [(DS b),kk 3 75 2 [vS ⟨#[]⟩,.ref (1,1031) 0 0 a.length],kk 1031 114 3 (Aa Ak a)]) ((qb b c a).m)
def oH(b:Scm)(c:Nat)(e:List ByteArray)(a:List Prb):PT 0 (Lv (Nat×List Prb) (List Prb) (List Prb)):=cl (ZXq e) fun d=>vz (fl a)<|lc (Ac [pp 1,pp 3,(4,vN c),(27,vB (!d))] [(DS b),(ax a),kk 1031 114 3 (Aa Ak a)]) ((Bv ⟨#[]⟩ a (!d) (-1) 11).bind fun f=>(tt b c f).m)
def pU(b:Scm)(c:Nat)(d:List ByteArray)(a:List Prb):PT 0 (Lv (Nat×List Prb) (List Prb) (List Prb)):=vz (fl a)<|lc (Ac [pp 1,pp 3,(4,vN c),(5,vL Bn d)] [(DS b),(ax a),kk 1031 114 3 (Aa Ak a)]) ((oH b c d a).m)
def n7(c:Scm)(d:Nat)(b:List Prb)(a:List ByteArray):PT 0 (Lv (Nat×List Prb) (List Prb) (List Prb)):=vz (Aj a)<|vz (fl b)<|lc (Ac [pp 1,pp 3,(4,vN d),(5,vL Bn a),(23,vB (decide ((64:Int)<(a.length:Int))))] [(DS c),(OE b),(OQ b)]) ((Bv ⟨#[]⟩ b (decide ((64:Int)<(a.length:Int))) (-1) 3).bind fun e=>(pU c d a e).m)
def pH(b:Scm)(c:Nat)(a:List Prb):PT 0 (Lv (Nat×List Prb) (List Prb) (List Prb)):=wg<|cl (Sj b (c:Int)) fun d=>vz (fl a)<|lc (Ac [pp 1,pp 3,(4,vN c),(5,vL Bn d)] [(DS b),(OE a),(OQ a)]) ((n7 b c a d).m)
def re(b:Scm)(c:Nat)(a:List Prb):PT 0 (Lv (Nat×List Prb) (List Prb) (List Prb)):=br (decide ((c:Int)≤(3:Int))) (vz (fl a)<|lc (Ac [pp 1,pp 3,(4,vN c)] [(DS b),(OE a),(OQ a)]) ((pH b c a).m)) (vz (fl a)<|Af (vH b) a)
def VZ(a:Scm):Nat×List Prb→Option (Lv (Nat×List Prb) (List Prb) (List Prb)):=fun(c,b)=>(re a c b).m
def q9(d:Scm)(c:List Bool):Nat×List Prb→St:=fun(b,a)=>Ac [(1,.iptr (Al d) 0),pp 3,(9,vL AN c),(10,vN b)] [kk 3 75 2 [vS ⟨#[]⟩,.ref (1,1031) 0 0 a.length],kk 1031 114 3 (Aa Ak a)]
def ww(b:Scm):List Prb→Nat×St:=fun a=>(2,Ac [(1,.iptr (Al b) 0),pp 3] [kk 3 75 2 [vS ⟨#[]⟩,.ref (1,1031) 0 0 a.length],kk 1031 114 3 (Aa Ak a)])
def Zh(e:Scm)(d:List Bool)(b:Nat)(a:List Prb)(c:List Prb):PT 0 (Lv (Nat×List Prb) (List Prb) (List Prb)):=vs (wa b 1)<|vz (fl (a++c))<|ln (q9 e d) (b+1,a++c)
def XX(e:Scm)(c:List Bool)(d:Nat)(b:List Prb):PT 0 (Lv (Nat×List Prb) (List Prb) (List Prb)):=ix e.messages d fun f=>tw (wg<|cl (xq e f c) fun a=>aq b a<|wg<|vz (fl (b++a))<|lc (Ac [(1,.iptr (Al e) 0),pp 3,(9,vL AN c),(10,vN d)] [kk 3 75 2 [vS ⟨#[]⟩,.ref (1,1031) 0 0 (b++a).length],kk 1031 114 3 (Aa Ak (b++a))]) ((Zh e c d b a).m)) (cl (xq e f c) fun a=>wg<|aq b a<|wg<|vz (fl (b++a))<|lc (Ac [(1,.iptr (Al e) 0),pp 3,(9,vL AN c),(10,vN d)] [kk 3 75 2 [vS ⟨#[]⟩,.ref (1,1031) 0 0 (b++a).length],kk 1031 114 3 (Aa Ak (b++a))]) ((Zh e c d b a).m))
def lg(c:Scm)(d:List Bool)(b:Nat)(a:List Prb):PT 0 (Lv (Nat×List Prb) (List Prb) (List Prb)):=vz (Aj c.messages)<|br (decide ((b:Int)<(c.messages.length:Int))) (vz (fl a)<|lc (Ac [(1,.iptr (Al c) 0),pp 3,(9,vL AN d),(10,vN b)] [kk 3 75 2 [vS ⟨#[]⟩,.ref (1,1031) 0 0 a.length],kk 1031 114 3 (Aa Ak a)]) ((XX c d b a).m)) (vz (fl a)<|Af (ww c) a)
def Wn(d:Scm)(c:List Bool):Nat×List Prb→Option (Lv (Nat×List Prb) (List Prb) (List Prb)):=fun(b,a)=>(lg d c b a).m
def vr(c:Scm):Nat×List Prb→St:=fun(b,a)=>Ac [(1,.iptr (Al c) 0),pp 3,(11,vN b)] [kk 3 75 2 [vS ⟨#[]⟩,.ref (1,1031) 0 0 a.length],kk 1031 114 3 (Aa Ak a)]
def oT(b:Scm):List Prb→Nat×St:=fun a=>(4,Ac [(1,.iptr (Al b) 0),pp 3] [kk 3 75 2 [vS ⟨#[]⟩,.ref (1,1031) 0 0 a.length],kk 1031 114 3 (Aa Ak a)])
def fW(d:Scm)(b:Nat)(a:List Prb)(c:List Prb):PT 0 (Lv (Nat×List Prb) (List Prb) (List Prb)):=vs (wa b 1)<|vz (fl (a++c))<|ln (vr d) (b+1,a++c)
def iv(e:Scm)(c:Nat)(b:List Prb):PT 0 (Lv (Nat×List Prb) (List Prb) (List Prb)):=ix e.enums c fun d=>tw (wg<|cl (xH d) fun a=>aq b a<|wg<|vz (fl (b++a))<|lc (Ac [(1,.iptr (Al e) 0),pp 3,(11,vN c)] [kk 3 75 2 [vS ⟨#[]⟩,.ref (1,1031) 0 0 (b++a).length],kk 1031 114 3 (Aa Ak (b++a))]) ((fW e c b a).m)) (cl (xH d) fun a=>wg<|aq b a<|wg<|vz (fl (b++a))<|lc (Ac [(1,.iptr (Al e) 0),pp 3,(11,vN c)] [kk 3 75 2 [vS ⟨#[]⟩,.ref (1,1031) 0 0 (b++a).length],kk 1031 114 3 (Aa Ak (b++a))]) ((fW e c b a).m))
def kj(c:Scm)(b:Nat)(a:List Prb):PT 0 (Lv (Nat×List Prb) (List Prb) (List Prb)):=vz (Aj c.enums)<|br (decide ((b:Int)<(c.enums.length:Int))) (vz (fl a)<|lc (Ac [(1,.iptr (Al c) 0),pp 3,(11,vN b)] [kk 3 75 2 [vS ⟨#[]⟩,.ref (1,1031) 0 0 a.length],kk 1031 114 3 (Aa Ak a)]) ((iv c b a).m)) (vz (fl a)<|Af (oT c) a)
def Wl(c:Scm):Nat×List Prb→Option (Lv (Nat×List Prb) (List Prb) (List Prb)):=fun(b,a)=>(kj c b a).m
def qn(c:Scm):Nat×List Prb→St:=fun(b,a)=>Ac [(1,.iptr (Al c) 0),pp 3,(12,vN b)] [kk 3 75 2 [vS ⟨#[]⟩,.ref (1,1031) 0 0 a.length],kk 1031 114 3 (Aa Ak a)]
def qT:List Prb→Nat×St:=fun a=>(6,Ac [pp 3] [kk 3 75 2 [vS ⟨#[]⟩,.ref (1,1031) 0 0 a.length],kk 1031 114 3 (Aa Ak a)])
def fE(d:Scm)(b:Nat)(a:List Prb)(c:List Prb):PT 0 (Lv (Nat×List Prb) (List Prb) (List Prb)):=vs (wa b 1)<|vz (fl (a++c))<|ln (qn d) (b+1,a++c)
def iu(d:Scm)(c:Nat)(b:List Prb):PT 0 (Lv (Nat×List Prb) (List Prb) (List Prb)):=ix d.services c fun e=>tw (wg<|cl (xU d e) fun a=>aq b a<|wg<|vz (fl (b++a))<|lc (Ac [(1,.iptr (Al d) 0),pp 3,(12,vN c)] [kk 3 75 2 [vS ⟨#[]⟩,.ref (1,1031) 0 0 (b++a).length],kk 1031 114 3 (Aa Ak (b++a))]) ((fE d c b a).m)) (cl (xU d e) fun a=>wg<|aq b a<|wg<|vz (fl (b++a))<|lc (Ac [(1,.iptr (Al d) 0),pp 3,(12,vN c)] [kk 3 75 2 [vS ⟨#[]⟩,.ref (1,1031) 0 0 (b++a).length],kk 1031 114 3 (Aa Ak (b++a))]) ((fE d c b a).m))
def ni(c:Scm)(b:Nat)(a:List Prb):PT 0 (Lv (Nat×List Prb) (List Prb) (List Prb)):=vz (Aj c.services)<|br (decide ((b:Int)<(c.services.length:Int))) (vz (fl a)<|lc (Ac [(1,.iptr (Al c) 0),pp 3,(12,vN b)] [kk 3 75 2 [vS ⟨#[]⟩,.ref (1,1031) 0 0 a.length],kk 1031 114 3 (Aa Ak a)]) ((iu c b a).m)) (vz (fl a)<|Af (qT) a)
def VG(c:Scm):Nat×List Prb→Option (Lv (Nat×List Prb) (List Prb) (List Prb)):=fun(b,a)=>(ni c b a).m
def mm(a:List Prb):PT 0 (List Prb):=wg<|vz (fr a)<|lr LB nG a
def nc(c:Scm)(a:List Prb):PT 0 (List Prb):=vz (fl a)<|lc (Ac [(1,.iptr (Al c) 0),pp 3,(12,vI 0)] [kk 3 75 2 [vS ⟨#[]⟩,.ref (1,1031) 0 0 a.length],kk 1031 114 3 (Aa Ak a)]) ((Ai (VG c) Ah (0,a)).bind (Sum.elim (fun b=>(mm b).m) some))
def kM(b:Scm)(a:List Prb):PT 0 (List Prb):=vz (fl a)<|lc (Ac [(1,.iptr (Al b) 0),pp 3,(11,vI 0)] [kk 3 75 2 [vS ⟨#[]⟩,.ref (1,1031) 0 0 a.length],kk 1031 114 3 (Aa Ak a)]) ((Ai (Wl b) Ah (0,a)).bind (Sum.elim (fun c=>(nc b c).m) some))
def ku(c:Scm)(a:List Prb)(b:List Bool):PT 0 (List Prb):=vw (.fzb 1 [1])<|vz (fl a)<|lc (Ac [(1,.iptr (Al c) 0),pp 3,(9,vL AN b),(10,vI 0)] [(Sc a),(SD a)]) ((Ai (Wn c b) Ah (0,a)).bind (Sum.elim (fun d=>(kM c d).m) some))
def Zzu(c:Scm)(a:List Prb)(b:List Bool):PT 0 (List Prb):=vz (fl a)<|lc (Ac [pp 1,pp 3,(9,vL AN b),(10,vI 0)] [(DS c),(Sc a),(SD a)]) ((ku c a b).m)
def j4(c:Scm)(a:List Prb):PT 0 (List Prb):=wg<|cl (ZXu c) fun b=>vz (fl a)<|lc (Ac [pp 1,pp 3,(9,vL AN b)] [(DS c),(Sc a),(SD a)]) ((Zzu c a b).m)
def ZzP(b:Scm)(a:List Prb):PT 0 (List Prb):=vz (fl a)<|lc (Ac [pp 1,pp 3] [(DS b),(Sc a),(SD a)]) ((j4 b a).m)
def kP(g:Scm)(e:List Prb)(h:List ByteArray)(i:List ByteArray)(c:List ByteArray):PT 0 (List Prb):=cl (bH h i) fun a=>AH (!a) (bH h c) fun b=>AH (!(a||b)) (bH i c) fun d=>vz (fl e)<|lc (Ac [pp 1,pp 3,(47,vB ((a||b)||d))] [(DS g),(Sg e),(R4 e)]) ((Bv ⟨#[]⟩ e ((a||b)||d) (-1) 9).bind fun f=>(ZzP g f).m)
def Zzg(a:Scm)(c:List Prb):PT 0 (List Prb):=wg<|cl (Sj a 1) fun d=>wg<|cl (Sj a 2) fun e=>wg<|cl (Sj a 3) fun b=>vz (fl c)<|lc (Ac [pp 1,pp 3,(6,vL Bn d),(7,vL Bn e),(8,vL Bn b)] [(DS a),(Sg c),(R4 c)]) ((kP a c d e b).m)
def Zzm(a:Scm):PT 0 (List Prb):=vw (.adc (1,3) 1 1031 114 3)<|vz (fl ([]:List Prb))<|lc (Ac [pp 1,pp 3,(4,vI 1)] [(DS a),kk 3 75 2 [vS ⟨#[]⟩,.ref (1,1031) 0 0 ([]:List Prb).length],kk 1031 114 3 (Aa Ak ([]:List Prb))]) ((Ai (VZ a) Ah (1,([]:List Prb))).bind (Sum.elim (fun b=>(Zzg a b).m) some))
def lm(a:Scm):PT 0 (List Prb):=lc (Ac [pp 1,pp 3,(4,vI 1)] [(DS a),kk 3 75 2 [vS ⟨#[]⟩,.e0]]) ((Zzm a).m)
def ZzD(a:Scm):PT 0 (List Prb):=wg<|lc (Ac [pp 1,pp 3] [(DS a),kk 3 75 2 [vS ⟨#[]⟩,.e0]]) ((lm a).m)
def cO(a:Scm):Option (List Prb):=(ZzD a).m
theorem ZHn{C:Cx}(co:CO C 0)(b:Scm):KL Tryz.prog (Ar tl) 107 C (pa [0,0,1,0,1,1] (As Tryz.f16)) [.tmp 2] 0 (qi b) (vH b) LB nG (VZ b):=fun(i,c) _ m Q e a L=>mJ co 1 (Ab [1,3,4] B4) (Ab [1,3] B4) a m L fun r g=>⟨fun _ m L=>sq (bk 1 (mJ co 1 (Ab [1,3,4,5] B4) nl a m L fun r g=>fun f=>fun _ m L=>sq (rg (pR co 3 (Ab [1,3,4,5,23] B4) m L fun r g=>fun _ m L=>Bl co m (BL ⟨#[]⟩ c (decide ((64:Int)<(f.length:Int))) (-1) 3) [(OE c),(OQ c)] [] (fun z=>.tup []) (fun z=>[kk 3 75 2 [vS ⟨#[]⟩,.ref (1,1031) 0 0 z.length],kk 1031 114 3 (Aa Ak z)]) [] fun d m=>eR co (Ab [1,3,4,5] B4) m L fun r g=>fun _ m L=>rg (pR co 3 (Ab [1,3,4,27] B4) m L fun r g=>fun h=>fun _ m L=>Bl co m (BL ⟨#[]⟩ d (!h) (-1) 11) [(ax d),kk 1031 114 3 (Aa Ak d)] [] (fun z=>.tup []) (fun z=>[kk 3 75 2 [vS ⟨#[]⟩,.ref (1,1031) 0 0 z.length],kk 1031 114 3 (Aa Ak z)]) [] fun j m=>eR co (Ab [1,3,4] B4) m L fun r g=>fun _ m L=>eN co (Ab [1,3,4] B4) nl a m L))))),id⟩
theorem ZFI{C:Cx}(co:CO C 0)(b:Scm)(a:List Bool):KL Tryz.prog (Ar tl) 107 C (pa [0,0,1,0,1,1,1,1,1,1,1,1] (As Tryz.f16)) [.tmp 2] 0 (q9 b a) (ww b) LB nG (Wn b a):=fun(e,d) _ m Q i c L=>mJ co 1 (Ab [1,3,9,10] C4) (Ab [1,3] C4) c m L fun r g=>⟨fun _ m L=>sq (bk 3 (F5 co AU BN (.fst 0 (.fst 2 (.fst 3 (.fst 4 (.fst 5 (.fst 6 (.fst 8 (.fst 7 (.two 1 9 (.fst 9 (.fst 10 (.fst 11 (.fst 12 .nil)))) (.fst 1 (.fst 10 (.fst 11 (.fst 12 .nil))))))))))))) [1] (XX b a e d) (Ab [1,3,9,10] C4) m L fun r g=>fun j=>⟨fun f=>fun _ m L=>eN co (Ab [1,3,9,10] C4) nl c m L,fun f=>fun _ m L=>eN co (Ab [1,3,9,10] C4) nl c m L,fun _ h=>h⟩)),id⟩
theorem ZGy{C:Cx}(co:CO C 0)(a:Scm):KL Tryz.prog (Ar tl) 107 C (pa [0,0,1,0,1,1,1,1,1,1,1,1,1] (As Tryz.f16)) [.tmp 2] 0 (vr a) (oT a) LB nG (Wl a):=fun(d,c) _ m Q f b L=>mJ co 1 (Ab [1,3,11] C4) (Ab [1,3] C4) b m L fun r g=>⟨fun _ m L=>sq (bk 5 (F5 co AU BN (.fst 0 (.fst 2 (.fst 3 (.fst 4 (.fst 5 (.fst 6 (.two 1 7 (.fst 7 (.fst 8 (.fst 9 (.fst 10 .nil)))) (.fst 1 (.fst 8 (.fst 9 (.fst 10 .nil))))))))))) [1] (iv a d c) (Ab [1,3,11] C4) m L fun r g=>fun i=>⟨fun e=>fun _ m L=>eN co (Ab [1,3,11] C4) nl b m L,fun e=>fun _ m L=>eN co (Ab [1,3,11] C4) nl b m L,fun _ h=>h⟩)),id⟩
theorem ZHc{C:Cx}(co:CO C 0)(b:Scm):KL Tryz.prog (Ar tl) 107 C (pa [0,0,1,0,1,1,1,1,1,1,1,1,1,1] (As Tryz.f16)) [.tmp 2] 0 (qn b) (qT) LB nG (VG b):=fun(d,c) _ m Q f a L=>mJ co 1 (Ab [1,3,12] C4) (Ab [3] C4) a m L fun r g=>⟨fun _ m L=>sq (bk 7 (F5 co AU BN (.fst 0 (.fst 2 (.fst 3 (.fst 4 (.fst 5 (.fst 6 (.fst 7 (.two 1 8 (.fst 8 (.fst 9 (.fst 10 (.fst 11 .nil)))) (.fst 1 (.fst 9 (.fst 10 (.fst 11 .nil)))))))))))) [1] (iu b d c) (Ab [1,3,12] C4) m L fun r g=>fun i=>⟨fun e=>fun _ m L=>eN co (Ab [1,3,12] C4) nl a m L,fun e=>fun _ m L=>eN co (Ab [1,3,12] C4) nl a m L,fun _ h=>h⟩)),id⟩
theorem ZXC(a:Scm):KC Tryz.prog 16 [.agg ((Al a).map .d)] (cO a) LB:=kC Tryz.func16 Tryz.ntmps16 [.tmp 2] fun co m L=>mJ co 2 (Ab [1,3] [((1,1),false),((1,3),false)]) nl nH m L fun r g=>fun _ m L=>sq (mJ co 1 (Ab [1,3,4] [((1,1),false),((1,3),false)]) nl nH m L fun r g=>fun _ m L=>bk 0 (cM co (Ab [1,3,4] B4) m L fun r g=>fun _ m L=>lo (Ay (ZHn co a) nH m L (fun b m=>mJ co 3 (Ab [1,3,6,7,8] B4) nl nH m L fun r g=>fun n=>fun o=>fun k=>fun _ m L=>sq (rg (pR co 13 (Ab [1,3,47] B4) m L fun r g=>fun c=>fun d=>fun e=>fun _ m L=>Bl co m (BL ⟨#[]⟩ b ((c||d)||e) (-1) 9) [(Sg b),(R4 b)] [] (fun z=>.tup []) (fun z=>[kk 3 75 2 [vS ⟨#[]⟩,.ref (1,1031) 0 0 z.length],kk 1031 114 3 (Aa Ak z)]) [] fun l m=>eR co (Ab [1,3] B4) m L fun r g=>fun _ m L=>mJ co 1 (Ab [1,3,9] B4) nl nH m L fun r g=>fun f=>fun _ m L=>sq (mJ co 1 (Ab [1,3,9,10] B4) nl nH m L fun r g=>fun _ m L=>bk 2 (cM co (Ab [1,3,9,10] C4) m L fun r g=>fun _ m L=>lo (Ay (ZFI co a f) nH m L (fun h m=>sq (mJ co 1 (Ab [1,3,11] C4) nl nH m L fun r g=>fun _ m L=>bk 4 (lo (Ay (ZGy co a) nH m L (fun i m=>sq (mJ co 1 (Ab [1,3,12] C4) nl nH m L fun r g=>fun _ m L=>bk 6 (lo (Ay (ZHc co a) nH m L (fun j m=>fO co m L))))))))))))))))))
abbrev E5:Bool→AV:=fun y=>vB y
def xM(b:Scm):PT 0 (Bool):=wg<|cl (ZXC b) fun a=>vz (Aj a)<|lr E5 nG (decide ((a.length:Int)=(0:Int)))
def SY(a:Scm):Option (Bool):=(xM a).m
theorem K_5(a:Scm):KC Tryz.prog 5 [.agg ((Al a).map .d)] (SY a) E5:=kC Tryz.func5 Tryz.ntmps5 [.tmp 2] fun co m L=>fO co m L
abbrev DU:List (Ad×Bool):=[((1,4),false)]
abbrev R0:Ad×Blk:=kk 4 56 5 [vS ⟨#[]⟩,.e0,.e0,.e0,.e0]
abbrev Q8:Msg×Bool→AV:=fun y=>.tup [.agg ((AK y.1).map .d),vB y.2]
def jo(a:Msg→Option Bool):Cl:=fun no l H θ=>(∀(z0:Msg) y,a z0=some y→CI Tryz.prog l no H (θ 1) [.agg ((AK z0).map .d)] (vB y))
def vD(a:List Msg):Nat→St:=fun b=>Ac [(1,.fn (.yield 1) [] []),pp 4,(9,vL AK a),(10,vN a.length),(11,vN b)] [R0]
def vU:Unit→Nat×St:=fun _=>(0,Ac [pp 4] [R0])
def XD(c:List Msg)(d:Msg→Option Bool)(a:Nat):PT 0 (Lv (Nat) (Unit) (Msg×Bool)):=br (decide ((a:Int)<(c.length:Int))) (ix c a fun b=>wg<|wg<|cf Tryz.prog 1 [.agg ((AK b).map .d)] (d b) (fun y=>vB y) fun e=>br e (wg<|wg<|At Q8 nG (b,true)) (vs (wa a 1)<|ln (vD c) (a+1))) (Af (vU) ())
def Qu(b:List Msg)(a:Msg→Option Bool):Nat→Option (Lv (Nat) (Unit) (Msg×Bool)):=fun c=>(XD b a c).m
def sW:PT 0 (Msg×Bool):=wg<|wg<|lr Q8 nG ((.mk ⟨#[]⟩ [] [] [] []:Msg),false)
def vn(a:List Msg)(b:Msg→Option Bool):PT 0 (Msg×Bool):=vz (Aj a)<|lc (Ac [(1,.fn (.yield 1) [] []),pp 4,(9,vL AK a),(10,vN a.length),(11,vI 0)] [R0]) ((Ai (Qu a b) Ah 0).bind (Sum.elim (fun _=>(sW).m) some))
def uW(b:List Msg)(a:Msg→Option Bool):PT 0 (Msg×Bool):=lc (Ac [(0,vL AK b),(1,.fn (.yield 1) [] []),pp 4] [R0]) ((vn b a).m)
def SW(b:List Msg)(a:Msg→Option Bool):Option (Msg×Bool):=(uW b a).m
theorem ZEm{C:Cx}(co:CO C 0)(c:List Msg)(a:Msg→Option Bool)(e:(jo a) C.no C.l C.H0 C.θ):KL Tryz.prog (Ar tl) 21 C (pa [0,0,1,0,1] (As Tryz.f72)) [.cell 4 56,.tmp 5] 0 (vD c) (vU) Q8 nG (Qu c a):=fun h _ m Q b d L=>eN co (Ab [1,4,9,10,11] DU) (Ab [4] DU) d m L fun r g=>⟨fun f=>⟨⟨fun y hy=>e _ y hy,by intro r;kernel_rfl,by intro r y;kernel_rfl⟩,fun i=>⟨id,id⟩⟩,id⟩
theorem ZXw(b:List Msg)(a:Msg→Option Bool):KO Tryz.prog 72 0 [vL AK b,.fn (.yield 1) [] []] [] (jo a) (SW b a) Q8 nG:=kO Tryz.func72 Tryz.ntmps72 [.cell 4 56,.tmp 5] 0 (fun co c m L=>mJ co 1 (Ab [0,1,4] DU) nl nH m L fun r g=>fun _ m L=>sq (mJ co 1 (Ab [1,4,9,10,11] DU) nl nH m L fun r g=>fun _ m L=>bk 0 (lo (Ay (ZEm co b a c) nH m L (fun _ m=>fO co m L)))))
abbrev i5:Bool→AV:=fun y=>vB y
@[reducible] def jj(w0:ByteArray):Bool→List Blk:=fun y=>[⟨0,true,9,1,[vS w0]⟩]
def ZS6(a:Msg)(w0:ByteArray):PT 1 (Bool):=wg<|wg<|lr i5 (jj w0) (decide (a.name=w0))
def Mt(a:Msg)(w0:ByteArray):Option (Bool):=(ZS6 a w0).m
theorem ZXH(a:Msg)(w0:ByteArray):KO Tryz.prog 73 1 [.agg ((AK a).map .d),.ptr (0,0) 0 0] [⟨0,true,9,1,[vS w0]⟩] (fun _ _ _ _=>True) (Mt a w0) i5 (jj w0):=kO Tryz.func73 Tryz.ntmps73 [.tmp 3] 1 (fun co b m L=>fO co m L)
abbrev iU:Msg×Bool→AV:=fun y=>.tup [.agg ((AK y.1).map .d),vB y.2]
def nZ(a:Scm)(b:ByteArray):PT 0 (Msg×Bool):=wg<|cs Tryz.prog 72 [vL AK a.messages,.fn (.func 73) [] [.ptr (1,3) 1 0]] [(1,3)] [((1,3),⟨1,true,9,1,[vS b]⟩)] (SW a.messages (fun(z0:Msg)=>Mt z0 b)) (fun y=>.tup [.agg ((AK y.1).map .d),vB y.2]) fun c=>wg<|lr iU nG (c.1,c.2)
def S7(a:Scm)(b:ByteArray):Option (Msg×Bool):=(nZ a b).m
theorem ZXK(b:Scm)(a:ByteArray):KC Tryz.prog 36 [.agg ((Al b).map .d),vS a] (S7 b a) iU:=DM Tryz.func36 Tryz.ntmps36 AU [.cell 4 56,.tmp 5] fun C co y m c L=>fO co m L fun r g=>⟨fun y hy=>HR (ZXw b.messages (fun(z0:Msg)=>Mt z0 a)) hy co g [] [((1,3),⟨1,true,9,1,[vS a]⟩)] (AB [(1,.fn (.func 73) [] [.ptr (r.κ (1,3)) (r.γ (1,3)+1) 0])]) (fun f d h=>(fun z0 y e=>Lg (ZXH z0 a) e co g [((1,3),⟨1,true,9,1,[vS a]⟩)] [] d (by simp) (fun _=>.top) (fun _ _=>trivial) (fun l H=>⟨fun _=>⟨rfl,by kernel_rfl⟩,by kernel_rfl,trivial⟩))) (fun H=>trivial),fun i=>id⟩
abbrev Q9:Int→AV:=fun y=>vI y
def jp(a:Slt→Option Bool):Cl:=fun no l H θ=>(∀(z0:Slt) y,a z0=some y→CI Tryz.prog l no H (θ 1) [.agg ((Dn z0).map .d)] (vB y))
def uq(a:List Slt):Nat→St:=fun b=>Ac [(0,vL Aq a),(1,.fn (.yield 1) [] []),(7,vN a.length),(8,vN b)] []
def vP:Unit→Nat×St:=fun _=>(0,Ac [] [])
def Zu(b:List Slt)(c:Slt→Option Bool)(a:Nat):PT 0 (Lv (Nat) (Unit) (Int)):=br (decide ((a:Int)<(b.length:Int))) (ix b a fun d=>cf Tryz.prog 1 [.agg ((Dn d).map .d)] (c d) (fun y=>vB y) fun e=>br e (At Q9 nG (a:Int)) (vs (wa a 1)<|ln (uq b) (a+1))) (Af (vP) ())
def Qd(b:List Slt)(a:Slt→Option Bool):Nat→Option (Lv (Nat) (Unit) (Int)):=fun c=>(Zu b a c).m
def pk:PT 0 (Int):=lr Q9 nG (-1)
def pQ(a:List Slt)(b:Slt→Option Bool):PT 0 (Int):=vz (Aj a)<|lc (Ac [(0,vL Aq a),(1,.fn (.yield 1) [] []),(7,vN a.length),(8,vI 0)] []) ((Ai (Qd a b) Ah 0).bind (Sum.elim (fun _=>(pk).m) some))
def pT(b:List Slt)(a:Slt→Option Bool):PT 0 (Int):=lc (Ac [(0,vL Aq b),(1,.fn (.yield 1) [] [])] []) ((pQ b a).m)
def Td(b:List Slt)(a:Slt→Option Bool):Option (Int):=(pT b a).m
theorem ZEX{C:Cx}(co:CO C 0)(c:List Slt)(a:Slt→Option Bool)(e:(jp a) C.no C.l C.H0 C.θ):KL Tryz.prog (Ar tl) 19 C (pa [0,0,1,0,1] (As Tryz.f74)) [.tmp 4] 0 (uq c) (vP) Q9 nG (Qd c a):=fun h _ m Q b d L=>eN co (AD [0,1,7,8]) nl d m L fun r g=>⟨fun f=>⟨⟨fun y hy=>e _ y hy,by intro r;kernel_rfl,by intro r y;kernel_rfl⟩,fun i=>⟨id,id⟩⟩,id⟩
theorem ZWU(b:List Slt)(a:Slt→Option Bool):KO Tryz.prog 74 0 [vL Aq b,.fn (.yield 1) [] []] [] (jp a) (Td b a) Q9 nG:=kO Tryz.func74 Tryz.ntmps74 [.tmp 4] 0 (fun co c m L=>mJ co 1 (AD [0,1]) nl nH m L fun r g=>fun _ m L=>sq (mJ co 1 (AD [0,1,7,8]) nl nH m L fun r g=>fun _ m L=>bk 0 (lo (Ay (ZEX co b a c) nH m L (fun _ m=>fO co m L)))))
abbrev VE:Int→AV:=fun y=>vI y
@[reducible] def VK(a:List Slt):Int→List Blk:=fun y=>[⟨0,true,58,8,Aa Aq a⟩]
def tp(a:Slt→Option Bool):Cl:=fun no l H θ=>(∀(z0:Slt) y,a z0=some y→CI Tryz.prog l no H (θ 1) [.agg ((Dn z0).map .d)] (vB y))
def Zsd(a:List Slt):Nat→St:=fun b=>Ac [(0,.ref (0,0) 0 0 a.length),(1,.fn (.yield 1) [] []),(7,vN a.length),(8,vN b)] [((0,0),⟨0,true,58,8,Aa Aq a⟩)]
def Zri(a:List Slt):Unit→Nat×St:=fun _=>(0,Ac [] [((0,0),⟨0,true,58,8,Aa Aq a⟩)])
def Uc(a:List Slt)(c:Slt→Option Bool)(b:Nat):PT 1 (Lv (Nat) (Unit) (Int)):=br (decide ((b:Int)<(a.length:Int))) (vs (ir b a.length 8)<|ca a b fun d=>cf Tryz.prog 1 [.agg ((Dn d).map .d)] (c d) (fun y=>vB y) fun e=>br e (At VE (VK a) (b:Int)) (vs (wa b 1)<|vz (fl a)<|ln (Zsd a) (b+1))) (vz (fl a)<|Af (Zri a) ())
def Ul(b:List Slt)(a:Slt→Option Bool):Nat→Option (Lv (Nat) (Unit) (Int)):=fun c=>(Uc b a c).m
def Ub(a:List Slt):PT 1 (Int):=lr VE (VK a) (-1)
def T9(a:List Slt)(b:Slt→Option Bool):PT 1 (Int):=vz (Bp a.length)<|vz (fl a)<|lc (Ac [(0,.ref (0,0) 0 0 a.length),(1,.fn (.yield 1) [] []),(7,vN a.length),(8,vI 0)] [((0,0),⟨0,true,58,8,Aa Aq a⟩)]) ((Ai (Ul a b) Ah 0).bind (Sum.elim (fun _=>(Ub a).m) some))
def Uj(a:List Slt)(b:Slt→Option Bool):PT 1 (Int):=vz (fl a)<|lc (Ac [(0,.ref (0,0) 0 0 a.length),(1,.fn (.yield 1) [] [])] [((0,0),⟨0,true,58,8,Aa Aq a⟩)]) ((T9 a b).m)
def OY(b:List Slt)(a:Slt→Option Bool):Option (Int):=(Uj b a).m
theorem ZsS{C:Cx}(co:CO C 1)(b:List Slt)(a:Slt→Option Bool)(e:(tp a) C.no C.l C.H0 C.θ):KL Tryz.prog (Ar tl) 19 C (pa [0,0,1,0,1] (As Tryz.f74)) [.tmp 4] 1 (Zsd b) (Zri b) VE (VK b) (Ul b a):=fun h _ m Q c d L=>eN co (Ab [0,1,7,8] Ag) (Ab [] Ag) d m L fun r g=>⟨fun f=>⟨⟨fun y hy=>e _ y hy,by intro r;kernel_rfl,by intro r y;kernel_rfl⟩,fun i=>⟨id,id⟩⟩,id⟩
theorem jW(b:List Slt)(a:Slt→Option Bool):KO Tryz.prog 74 1 [.ref (0,0) 0 0 b.length,.fn (.yield 1) [] []] [⟨0,true,58,8,Aa Aq b⟩] (tp a) (OY b a) VE (VK b):=kO Tryz.func74 Tryz.ntmps74 [.tmp 4] 1 (fun co c m L=>mJ co 1 (Ab [0,1] Ag) nl nH m L fun r g=>fun _ m L=>sq (mJ co 1 (Ab [0,1,7,8] Ag) nl nH m L fun r g=>fun _ m L=>bk 0 (lo (Ay (ZsS co b a c) nH m L (fun _ m=>fO co m L)))))
abbrev OO(a:List Slt):Ad×Blk:=((0,0),⟨0,true,58,8,Aa Aq a⟩)
abbrev WN:List Slt→AV:=fun y=>.ref (0,0) 0 0 y.length
@[reducible] def WU:List Slt→List Blk:=fun y=>[⟨0,true,58,8,Aa Aq y⟩]
def jn(a:Slt→Option Bool):Cl:=fun no l H θ=>(∀(z0:Slt) y,a z0=some y→CI Tryz.prog l no H (θ 1) [.agg ((Dn z0).map .d)] (vB y))
def ZD(a:List Slt):Int×Int×List Slt→St:=fun(v2,v3,b)=>Ac [(0,.ref (0,0) 0 0 a.length),(1,.fn (.yield 1) [] []),(5,vI v2),(6,vI v3)] [((0,0),⟨0,true,58,8,Aa Aq b⟩)]
def qc(a:List Slt):Int×List Slt→Nat×St:=fun(c,b)=>(0,Ac [(0,.ref (0,0) 0 0 a.length),(5,vI c)] [((0,0),⟨0,true,58,8,Aa Aq b⟩)])
def XK(b:List Slt)(d:Slt→Option Bool)(v2:Int)(v3:Int)(a:List Slt):PT 1 (Lv (Int×Int×List Slt) (Int×List Slt) (List Slt)):=vz (Bp b.length)<|br (decide (v3<(b.length:Int))) (vs (AA v3 b.length 8)<|ca a v3.toNat fun c=>wg<|wg<|cf Tryz.prog 1 [.agg ((Dn c).map .d)] (d c) (fun y=>vB y) fun e=>br (!e) (wg<|vs (AA v2 b.length 8)<|vs (st a v2.toNat c)<|BO 0 ((Rw.f (c:Slt)).map .d) (fun _=>G7 _)<|vs (wi (v2+1))<|vs (wi (v3+1))<|vz (fl (a.set v2.toNat c))<|ln (ZD b) ((v2+1),(v3+1),a.set v2.toNat c)) (vs (wi (v3+1))<|vz (fl a)<|ln (ZD b) (v2,(v3+1),a))) (vz (fl a)<|Af (qc b) (v2,a))
def QD(b:List Slt)(a:Slt→Option Bool):Int×Int×List Slt→Option (Lv (Int×Int×List Slt) (Int×List Slt) (List Slt)):=fun(v2,v3,c)=>(XK b a v2 v3 c).m
def po(c:List Slt)(a:Int)(b:List Slt):PT 1 (List Slt):=sR c.length 0 (.it a) .no<|cr b (0+a.toNat) (c.length-a.toNat) [vI 0,vI 0,.d (.int .u64 0),vS ⟨#[]⟩,.e0,.e0,.e0,.e0]<|BO 0 ([vI 0,vI 0,.d (.int .u64 0),vS ⟨#[]⟩,.e0,.e0,.e0,.e0]) (fun _=>Zsw (by kernel_rfl))<|J3 0 b (0+a.toNat) (c.length-a.toNat) [vI 0,vI 0,.d (.int .u64 0),vS ⟨#[]⟩,.e0,.e0,.e0,.e0]<|vw .sep<|sR c.length 0 .no (.it a)<|Ei (a.toNat=(b.take (0+a.toNat)).length) (fun E=>E.P (.ref (0,0) 0 0 a.toNat) ([⟨0,true,58,8,Aa Aq (b.take (0+a.toNat))⟩])) (b.take (0+a.toNat))
def q6(a:List Slt)(c:Slt→Option Bool)(b:Int):PT 1 (List Slt):=vs (wi (b+1))<|vz (fl a)<|lc (Ac [(0,.ref (0,0) 0 0 a.length),(1,.fn (.yield 1) [] []),(5,vI b),(6,vI (b+1))] [(OO a)]) ((Ai (QD a c) Ah (b,(b+1),a)).bind (Sum.elim (fun(e,d)=>(po a e d).m) some))
def rW(a:List Slt)(b:Slt→Option Bool):PT 1 (List Slt):=cs Tryz.prog 74 [.ref (0,0) 0 0 a.length,.fn (.yield 1) [] []] [(0,0)] [(OO a)] (OY a b) (fun y=>vI y) fun c=>br (decide (c=((-1):Int))) (lr WN (WU) a) (vz (fl a)<|lc (Ac [(0,.ref (0,0) 0 0 a.length),(1,.fn (.yield 1) [] []),(5,vI c)] [(OO a)]) ((q6 a b c).m))
def OX(b:List Slt)(a:Slt→Option Bool):Option (List Slt):=(rW b a).m
theorem ZHo{C:Cx}(co:CO C 1)(b:List Slt)(a:Slt→Option Bool)(e:(jn a) C.no C.l C.H0 C.θ):KL Tryz.prog (Ar tl) 42 C (pa [0,0,1,0,1,1,1] (As Tryz.f37)) [.tmp 4] 1 (ZD b) (qc b) WN (WU) (QD b a):=fun(v2,v3,h) _ m Q c d L=>eN co (Ab [0,1,5,6] Ag) (Ab [0,5] Ag) d m L fun r g=>⟨fun f=>⟨⟨fun y hy=>e _ y hy,by intro r;kernel_rfl,by intro r y;kernel_rfl⟩,fun i=>⟨id,id⟩⟩,id⟩
theorem ZXd(b:List Slt)(a:Slt→Option Bool):KO Tryz.prog 37 1 [.ref (0,0) 0 0 b.length,.fn (.yield 1) [] []] [⟨0,true,58,8,Aa Aq b⟩] (jn a) (OX b a) WN (WU):=EQ Tryz.func37 Tryz.ntmps37 AU [.tmp 4] 1 (fun C co d y m c L=>mJ co 3 (Ab [0,1,5] Ag) nl nH m L fun r g=>⟨fun y hy=>HR (jW b a) hy co g [(OO b)] [] (AB [(1,r.θ 1)]) (fun i j e=>(fun z0 y f=>Bx co g [(OO b)] e (d z0 y f))) (fun H=>⟨fun _=>⟨rfl,bz⟩,by kernel_rfl,trivial⟩),fun o=>⟨id,fun _ m L=>sq (mJ co 1 (Ab [0,1,5,6] Ag) nl nH m L fun r g=>fun _ m L=>bk 0 (lo (Ay (ZHo co b a d) nH m L (fun(l,k) m=>fO co m L fun r g=>fun h L=>lfx (congrArg (fun n=>(.ref (0,0) 0 0 n:AV)) h) L))))⟩⟩)
abbrev Sb:Ad×Blk:=kk 4 51 16 [vI 0,vS ⟨#[]⟩,vI 0,vI 0,vI 0,vS ⟨#[]⟩,vS ⟨#[]⟩,vB false,vI 0,.d (.int .u64 0),vS ⟨#[]⟩,.e0,.e0,.e0,.e0,.e0]
abbrev Ra:Fld×Bool→AV:=fun y=>.tup [.agg ((Aw y.1).map .d),vB y.2]
def jq(a:Fld→Option Bool):Cl:=fun no l H θ=>(∀(z0:Fld) y,a z0=some y→CI Tryz.prog l no H (θ 1) [.agg ((Aw z0).map .d)] (vB y))
def rR(a:List Fld):Nat→St:=fun b=>Ac [(1,.fn (.yield 1) [] []),pp 4,(9,vL Aw a),(10,vN a.length),(11,vN b)] [Sb]
def pS:Unit→Nat×St:=fun _=>(0,Ac [pp 4] [Sb])
def XL(c:List Fld)(d:Fld→Option Bool)(a:Nat):PT 0 (Lv (Nat) (Unit) (Fld×Bool)):=br (decide ((a:Int)<(c.length:Int))) (ix c a fun b=>wg<|wg<|cf Tryz.prog 1 [.agg ((Aw b).map .d)] (d b) (fun y=>vB y) fun e=>br e (wg<|wg<|At Ra nG (b,true)) (vs (wa a 1)<|ln (rR c) (a+1))) (Af (pS) ())
def Qz(b:List Fld)(a:Fld→Option Bool):Nat→Option (Lv (Nat) (Unit) (Fld×Bool)):=fun c=>(XL b a c).m
def tf:PT 0 (Fld×Bool):=wg<|wg<|lr Ra nG ((.mk 0 ⟨#[]⟩ 0 0 (.mk 0 ⟨#[]⟩:Typ) ⟨#[]⟩ false (.mk 0 0 ⟨#[]⟩ [] [] [] []:Val) []:Fld),false)
def oz(a:List Fld)(b:Fld→Option Bool):PT 0 (Fld×Bool):=vz (Aj a)<|lc (Ac [(1,.fn (.yield 1) [] []),pp 4,(9,vL Aw a),(10,vN a.length),(11,vI 0)] [Sb]) ((Ai (Qz a b) Ah 0).bind (Sum.elim (fun _=>(tf).m) some))
def uD(b:List Fld)(a:Fld→Option Bool):PT 0 (Fld×Bool):=lc (Ac [(0,vL Aw b),(1,.fn (.yield 1) [] []),pp 4] [Sb]) ((oz b a).m)
def S1(b:List Fld)(a:Fld→Option Bool):Option (Fld×Bool):=(uD b a).m
theorem ZIb{C:Cx}(co:CO C 0)(c:List Fld)(a:Fld→Option Bool)(e:(jq a) C.no C.l C.H0 C.θ):KL Tryz.prog (Ar tl) 21 C (pa [0,0,1,0,1] (As Tryz.f75)) [.cell 4 51,.tmp 5] 0 (rR c) (pS) Ra nG (Qz c a):=fun h _ m Q b d L=>eN co (Ab [1,4,9,10,11] DU) (Ab [4] DU) d m L fun r g=>⟨fun f=>⟨⟨fun y hy=>e _ y hy,by intro r;kernel_rfl,by intro r y;kernel_rfl⟩,fun i=>⟨id,id⟩⟩,id⟩
theorem ZXR(b:List Fld)(a:Fld→Option Bool):KO Tryz.prog 75 0 [vL Aw b,.fn (.yield 1) [] []] [] (jq a) (S1 b a) Ra nG:=kO Tryz.func75 Tryz.ntmps75 [.cell 4 51,.tmp 5] 0 (fun co c m L=>mJ co 1 (Ab [0,1,4] DU) nl nH m L fun r g=>fun _ m L=>sq (mJ co 1 (Ab [1,4,9,10,11] DU) nl nH m L fun r g=>fun _ m L=>bk 0 (lo (Ay (ZIb co b a c) nH m L (fun _ m=>fO co m L)))))
abbrev i6:Bool→AV:=fun y=>vB y
@[reducible] def jk(w0:Int):Bool→List Blk:=fun y=>[⟨0,true,3,1,[vI w0]⟩]
def ZT0(a:Fld)(w0:Int):PT 1 (Bool):=wg<|wg<|lr i6 (jk w0) (decide (a.num=w0))
def My(a:Fld)(w0:Int):Option (Bool):=(ZT0 a w0).m
theorem ZW3(a:Fld)(w0:Int):KO Tryz.prog 76 1 [.agg ((Aw a).map .d),.ptr (0,0) 0 0] [⟨0,true,3,1,[vI w0]⟩] (fun _ _ _ _=>True) (My a w0) i6 (jk w0):=kO Tryz.func76 Tryz.ntmps76 [.tmp 3] 1 (fun co b m L=>fO co m L)
abbrev iW:Fld×Bool→AV:=fun y=>.tup [.agg ((Aw y.1).map .d),vB y.2]
def qD(a:Msg)(b:Int):PT 0 (Fld×Bool):=wg<|cs Tryz.prog 75 [vL Aw a.fields,.fn (.func 76) [] [.ptr (1,3) 1 0]] [(1,3)] [((1,3),⟨1,true,3,1,[vI b]⟩)] (S1 a.fields (fun(z0:Fld)=>My z0 b)) (fun y=>.tup [.agg ((Aw y.1).map .d),vB y.2]) fun c=>wg<|lr iW nG (c.1,c.2)
def dE(a:Msg)(b:Int):Option (Fld×Bool):=(qD a b).m
theorem xI(b:Msg)(a:Int):KC Tryz.prog 39 [.agg ((AK b).map .d),vI a] (dE b a) iW:=DM Tryz.func39 Tryz.ntmps39 AU [.cell 4 51,.tmp 5] fun C co y m c L=>fO co m L fun r g=>⟨fun y hy=>HR (ZXR b.fields (fun(z0:Fld)=>My z0 a)) hy co g [] [((1,3),⟨1,true,3,1,[vI a]⟩)] (AB [(1,.fn (.func 76) [] [.ptr (r.κ (1,3)) (r.γ (1,3)+1) 0])]) (fun f d h=>(fun z0 y e=>Lg (ZW3 z0 a) e co g [((1,3),⟨1,true,3,1,[vI a]⟩)] [] d (by simp) (fun _=>.top) (fun _ _=>trivial) (fun l H=>⟨fun _=>⟨rfl,by kernel_rfl⟩,by kernel_rfl,trivial⟩))) (fun H=>trivial),fun i=>id⟩
abbrev R2:Int→AV:=fun y=>vI y
def ya(a:Fld→Option Bool):Cl:=fun no l H θ=>(∀(z0:Fld) y,a z0=some y→CI Tryz.prog l no H (θ 1) [.agg ((Aw z0).map .d)] (vB y))
def jY(a:List Fld):Nat→St:=fun b=>Ac [(0,vL Aw a),(1,.fn (.yield 1) [] []),(7,vN a.length),(8,vN b)] []
def nL:Unit→Nat×St:=fun _=>(0,Ac [] [])
def gb(b:List Fld)(c:Fld→Option Bool)(a:Nat):PT 0 (Lv (Nat) (Unit) (Int)):=br (decide ((a:Int)<(b.length:Int))) (ix b a fun d=>cf Tryz.prog 1 [.agg ((Aw d).map .d)] (c d) (fun y=>vB y) fun e=>br e (At R2 nG (a:Int)) (vs (wa a 1)<|ln (jY b) (a+1))) (Af (nL) ())
def PW(b:List Fld)(a:Fld→Option Bool):Nat→Option (Lv (Nat) (Unit) (Int)):=fun c=>(gb b a c).m
def Zzz:PT 0 (Int):=lr R2 nG (-1)
def nd(a:List Fld)(b:Fld→Option Bool):PT 0 (Int):=vz (Aj a)<|lc (Ac [(0,vL Aw a),(1,.fn (.yield 1) [] []),(7,vN a.length),(8,vI 0)] []) ((Ai (PW a b) Ah 0).bind (Sum.elim (fun _=>(Zzz).m) some))
def kf(b:List Fld)(a:Fld→Option Bool):PT 0 (Int):=lc (Ac [(0,vL Aw b),(1,.fn (.yield 1) [] [])] []) ((nd b a).m)
def dg(b:List Fld)(a:Fld→Option Bool):Option (Int):=(kf b a).m
theorem ZwB{C:Cx}(co:CO C 0)(c:List Fld)(a:Fld→Option Bool)(e:(ya a) C.no C.l C.H0 C.θ):KL Tryz.prog (Ar tl) 19 C (pa [0,0,1,0,1] (As Tryz.f105)) [.tmp 4] 0 (jY c) (nL) R2 nG (PW c a):=fun h _ m Q b d L=>eN co (AD [0,1,7,8]) nl d m L fun r g=>⟨fun f=>⟨⟨fun y hy=>e _ y hy,by intro r;kernel_rfl,by intro r y;kernel_rfl⟩,fun i=>⟨id,id⟩⟩,id⟩
theorem ZS2(b:List Fld)(a:Fld→Option Bool):KO Tryz.prog 105 0 [vL Aw b,.fn (.yield 1) [] []] [] (ya a) (dg b a) R2 nG:=kO Tryz.func105 Tryz.ntmps105 [.tmp 4] 0 (fun co c m L=>mJ co 1 (AD [0,1]) nl nH m L fun r g=>fun _ m L=>sq (mJ co 1 (AD [0,1,7,8]) nl nH m L fun r g=>fun _ m L=>bk 0 (lo (Ay (ZwB co b a c) nH m L (fun _ m=>fO co m L)))))
abbrev i7:Bool→AV:=fun y=>vB y
def H77(a:Fld→Option Bool):Cl:=fun no l H θ=>(∀(z0:Fld) y,a z0=some y→CI Tryz.prog l no H (θ 1) [.agg ((Aw z0).map .d)] (vB y))
def rl(b:List Fld)(a:Fld→Option Bool):PT 0 (Bool):=cs Tryz.prog 105 [vL Aw b,.fn (.yield 1) [] []] [] [] (dg b a) (fun y=>vI y) fun c=>lr i7 nG (decide ((0:Int)≤c))
def SV(b:List Fld)(a:Fld→Option Bool):Option (Bool):=(rl b a).m
theorem ZXF(b:List Fld)(a:Fld→Option Bool):KO Tryz.prog 77 0 [vL Aw b,.fn (.yield 1) [] []] [] (H77 a) (SV b a) i7 nG:=EQ Tryz.func77 Tryz.ntmps77 AU [.tmp 4] 0 (fun C co d y m c L=>fO co m L fun r g=>⟨fun y hy=>HR (ZS2 b a) hy co g [] [] (AB [(1,r.θ 1)]) (fun h i e=>(fun z0 y f=>Bx co g [] e (d z0 y f))) (fun H=>trivial),fun j=>id⟩)
abbrev Up:Int→AV:=fun y=>vI y
@[reducible] def UI(a:List Fld):Int→List Blk:=fun y=>[⟨0,true,51,16,Aa Aw a⟩]
def k7(a:Fld→Option Bool):Cl:=fun no l H θ=>(∀(z0:Fld) y,a z0=some y→CI Tryz.prog l no H (θ 1) [.agg ((Aw z0).map .d)] (vB y))
def Zoh(a:List Fld):Nat→St:=fun b=>Ac [(0,.ref (0,0) 0 0 a.length),(1,.fn (.yield 1) [] []),(7,vN a.length),(8,vN b)] [((0,0),⟨0,true,51,16,Aa Aw a⟩)]
def Zoy(a:List Fld):Unit→Nat×St:=fun _=>(0,Ac [] [((0,0),⟨0,true,51,16,Aa Aw a⟩)])
def TD(a:List Fld)(c:Fld→Option Bool)(b:Nat):PT 1 (Lv (Nat) (Unit) (Int)):=br (decide ((b:Int)<(a.length:Int))) (vs (ir b a.length 16)<|ca a b fun d=>cf Tryz.prog 1 [.agg ((Aw d).map .d)] (c d) (fun y=>vB y) fun e=>br e (At Up (UI a) (b:Int)) (vs (wa b 1)<|vz (fl a)<|ln (Zoh a) (b+1))) (vz (fl a)<|Af (Zoy a) ())
def TG(b:List Fld)(a:Fld→Option Bool):Nat→Option (Lv (Nat) (Unit) (Int)):=fun c=>(TD b a c).m
def TF(a:List Fld):PT 1 (Int):=lr Up (UI a) (-1)
def TS(a:List Fld)(b:Fld→Option Bool):PT 1 (Int):=vz (Bp a.length)<|vz (fl a)<|lc (Ac [(0,.ref (0,0) 0 0 a.length),(1,.fn (.yield 1) [] []),(7,vN a.length),(8,vI 0)] [((0,0),⟨0,true,51,16,Aa Aw a⟩)]) ((Ai (TG a b) Ah 0).bind (Sum.elim (fun _=>(TF a).m) some))
def TY(a:List Fld)(b:Fld→Option Bool):PT 1 (Int):=vz (fl a)<|lc (Ac [(0,.ref (0,0) 0 0 a.length),(1,.fn (.yield 1) [] [])] [((0,0),⟨0,true,51,16,Aa Aw a⟩)]) ((TS a b).m)
def S3(b:List Fld)(a:Fld→Option Bool):Option (Int):=(TY b a).m
theorem Zpw{C:Cx}(co:CO C 1)(b:List Fld)(a:Fld→Option Bool)(e:(k7 a) C.no C.l C.H0 C.θ):KL Tryz.prog (Ar tl) 19 C (pa [0,0,1,0,1] (As Tryz.f105)) [.tmp 4] 1 (Zoh b) (Zoy b) Up (UI b) (TG b a):=fun h _ m Q c d L=>eN co (Ab [0,1,7,8] Ag) (Ab [] Ag) d m L fun r g=>⟨fun f=>⟨⟨fun y hy=>e _ y hy,by intro r;kernel_rfl,by intro r y;kernel_rfl⟩,fun i=>⟨id,id⟩⟩,id⟩
theorem ZFD(b:List Fld)(a:Fld→Option Bool):KO Tryz.prog 105 1 [.ref (0,0) 0 0 b.length,.fn (.yield 1) [] []] [⟨0,true,51,16,Aa Aw b⟩] (k7 a) (S3 b a) Up (UI b):=kO Tryz.func105 Tryz.ntmps105 [.tmp 4] 1 (fun co c m L=>mJ co 1 (Ab [0,1] Ag) nl nH m L fun r g=>fun _ m L=>sq (mJ co 1 (Ab [0,1,7,8] Ag) nl nH m L fun r g=>fun _ m L=>bk 0 (lo (Ay (Zpw co b a c) nH m L (fun _ m=>fO co m L)))))
abbrev Ol(a:List Fld):Ad×Blk:=((0,0),⟨0,true,51,16,Aa Aw a⟩)
abbrev aO:List Fld→AV:=fun y=>.ref (0,0) 0 0 y.length
@[reducible] def aX:List Fld→List Blk:=fun y=>[⟨0,true,51,16,Aa Aw y⟩]
def xr(a:Fld→Option Bool):Cl:=fun no l H θ=>(∀(z0:Fld) y,a z0=some y→CI Tryz.prog l no H (θ 1) [.agg ((Aw z0).map .d)] (vB y))
def gN(a:List Fld):Int×Int×List Fld→St:=fun(v2,v3,b)=>Ac [(0,.ref (0,0) 0 0 a.length),(1,.fn (.yield 1) [] []),(5,vI v2),(6,vI v3)] [((0,0),⟨0,true,51,16,Aa Aw b⟩)]
def m9(a:List Fld):Int×List Fld→Nat×St:=fun(c,b)=>(0,Ac [(0,.ref (0,0) 0 0 a.length),(5,vI c)] [((0,0),⟨0,true,51,16,Aa Aw b⟩)])
def gA(b:List Fld)(d:Fld→Option Bool)(v2:Int)(v3:Int)(a:List Fld):PT 1 (Lv (Int×Int×List Fld) (Int×List Fld) (List Fld)):=vz (Bp b.length)<|br (decide (v3<(b.length:Int))) (vs (AA v3 b.length 16)<|ca a v3.toNat fun c=>wg<|wg<|cf Tryz.prog 1 [.agg ((Aw c).map .d)] (d c) (fun y=>vB y) fun e=>br (!e) (wg<|vs (AA v2 b.length 16)<|vs (st a v2.toNat c)<|BO 0 ((Rw.f (c:Fld)).map .d) (fun _=>G7 _)<|vs (wi (v2+1))<|vs (wi (v3+1))<|vz (fl (a.set v2.toNat c))<|ln (gN b) ((v2+1),(v3+1),a.set v2.toNat c)) (vs (wi (v3+1))<|vz (fl a)<|ln (gN b) (v2,(v3+1),a))) (vz (fl a)<|Af (m9 b) (v2,a))
def Qa(b:List Fld)(a:Fld→Option Bool):Int×Int×List Fld→Option (Lv (Int×Int×List Fld) (Int×List Fld) (List Fld)):=fun(v2,v3,c)=>(gA b a v2 v3 c).m
def kh(c:List Fld)(a:Int)(b:List Fld):PT 1 (List Fld):=sR c.length 0 (.it a) .no<|cr b (0+a.toNat) (c.length-a.toNat) [vI 0,vS ⟨#[]⟩,vI 0,vI 0,vI 0,vS ⟨#[]⟩,vS ⟨#[]⟩,vB false,vI 0,.d (.int .u64 0),vS ⟨#[]⟩,.e0,.e0,.e0,.e0,.e0]<|BO 0 ([vI 0,vS ⟨#[]⟩,vI 0,vI 0,vI 0,vS ⟨#[]⟩,vS ⟨#[]⟩,vB false,vI 0,.d (.int .u64 0),vS ⟨#[]⟩,.e0,.e0,.e0,.e0,.e0]) (fun _=>Zsw (by kernel_rfl))<|J3 0 b (0+a.toNat) (c.length-a.toNat) [vI 0,vS ⟨#[]⟩,vI 0,vI 0,vI 0,vS ⟨#[]⟩,vS ⟨#[]⟩,vB false,vI 0,.d (.int .u64 0),vS ⟨#[]⟩,.e0,.e0,.e0,.e0,.e0]<|vw .sep<|sR c.length 0 .no (.it a)<|Ei (a.toNat=(b.take (0+a.toNat)).length) (fun E=>E.P (.ref (0,0) 0 0 a.toNat) ([⟨0,true,51,16,Aa Aw (b.take (0+a.toNat))⟩])) (b.take (0+a.toNat))
def nS(a:List Fld)(c:Fld→Option Bool)(b:Int):PT 1 (List Fld):=vs (wi (b+1))<|vz (fl a)<|lc (Ac [(0,.ref (0,0) 0 0 a.length),(1,.fn (.yield 1) [] []),(5,vI b),(6,vI (b+1))] [(Ol a)]) ((Ai (Qa a c) Ah (b,(b+1),a)).bind (Sum.elim (fun(e,d)=>(kh a e d).m) some))
def ld(a:List Fld)(b:Fld→Option Bool):PT 1 (List Fld):=cs Tryz.prog 105 [.ref (0,0) 0 0 a.length,.fn (.yield 1) [] []] [(0,0)] [(Ol a)] (S3 a b) (fun y=>vI y) fun c=>br (decide (c=((-1):Int))) (lr aO (aX) a) (vz (fl a)<|lc (Ac [(0,.ref (0,0) 0 0 a.length),(1,.fn (.yield 1) [] []),(5,vI c)] [(Ol a)]) ((nS a b c).m))
def S0(b:List Fld)(a:Fld→Option Bool):Option (List Fld):=(ld b a).m
theorem Zwa{C:Cx}(co:CO C 1)(b:List Fld)(a:Fld→Option Bool)(e:(xr a) C.no C.l C.H0 C.θ):KL Tryz.prog (Ar tl) 42 C (pa [0,0,1,0,1,1,1] (As Tryz.f106)) [.tmp 4] 1 (gN b) (m9 b) aO (aX) (Qa b a):=fun(v2,v3,h) _ m Q c d L=>eN co (Ab [0,1,5,6] Ag) (Ab [0,5] Ag) d m L fun r g=>⟨fun f=>⟨⟨fun y hy=>e _ y hy,by intro r;kernel_rfl,by intro r y;kernel_rfl⟩,fun i=>⟨id,id⟩⟩,id⟩
theorem ZSn(b:List Fld)(a:Fld→Option Bool):KO Tryz.prog 106 1 [.ref (0,0) 0 0 b.length,.fn (.yield 1) [] []] [⟨0,true,51,16,Aa Aw b⟩] (xr a) (S0 b a) aO (aX):=EQ Tryz.func106 Tryz.ntmps106 AU [.tmp 4] 1 (fun C co d y m c L=>mJ co 3 (Ab [0,1,5] Ag) nl nH m L fun r g=>⟨fun y hy=>HR (ZFD b a) hy co g [(Ol b)] [] (AB [(1,r.θ 1)]) (fun i j e=>(fun z0 y f=>Bx co g [(Ol b)] e (d z0 y f))) (fun H=>⟨fun _=>⟨rfl,bz⟩,by kernel_rfl,trivial⟩),fun o=>⟨id,fun _ m L=>sq (mJ co 1 (Ab [0,1,5,6] Ag) nl nH m L fun r g=>fun _ m L=>bk 0 (lo (Ay (Zwa co b a d) nH m L (fun(l,k) m=>fO co m L fun r g=>fun h L=>lfx (congrArg (fun n=>(.ref (0,0) 0 0 n:AV)) h) L))))⟩⟩)
abbrev bL:List Fld→AV:=fun y=>.ref (0,0) 1 0 y.length
@[reducible] def a7:List Fld→List Blk:=fun y=>[⟨1,true,51,16,Aa Aw y⟩]
def ko(a:List Fld):PT 1 (List Fld):=al Aw a false fun b=>br b (vw .sep<|vw (.ads 2 2 51 16)<|mv 2 0 ([]:List Fld)<|lr bL (a7) ([]:List Fld)) (a0 a<|mv 7 0 a<|lr bL (a7) a)
def Ta(a:List Fld):Option (List Fld):=(ko a).m
theorem ZTf(a:List Fld):KO Tryz.prog 107 1 [vL Aw a] [⟨0,false,0,0,[]⟩] (fun _ _ _ _=>True) (Ta a) bL (a7):=kO Tryz.func107 Tryz.ntmps107 [.tmp 2] 1 (fun co b m L=>fO co m L)
abbrev xp:Bool→AV:=fun y=>vB y
@[reducible] def xl(w0:ByteArray):Bool→List Blk:=fun y=>[⟨0,true,9,1,[vS w0]⟩]
def ZPS(a:Fld)(w0:ByteArray):PT 1 (Bool):=wg<|wg<|lr xp (xl w0) (!decide (a.union=w0))
def S6(a:Fld)(w0:ByteArray):Option (Bool):=(ZPS a w0).m
theorem ZSB(a:Fld)(w0:ByteArray):KO Tryz.prog 108 1 [.agg ((Aw a).map .d),.ptr (0,0) 0 0] [⟨0,true,9,1,[vS w0]⟩] (fun _ _ _ _=>True) (S6 a w0) xp (xl w0):=kO Tryz.func108 Tryz.ntmps108 [.tmp 3] 1 (fun co b m L=>fO co m L)
abbrev Fl:List (Ad×Bool):=[((1,2),false),((1,3),false)]
abbrev Oq(a:ByteArray):Ad×Blk:=kk 3 9 1 [vS a]
abbrev WP:List Fld→AV:=fun y=>vL Aw y
def vi(a:List Fld):PT 0 (List Fld):=vz (fr a)<|lr WP nG a
def v8(a:List Fld):PT 0 (List Fld):=vz (fl a)<|lc (Ac [(4,.ref (1,9) 0 0 a.length)] [kk 9 51 16 (Aa Aw a)]) ((vi a).m)
def uT(b:ByteArray)(a:List Fld):PT 0 (List Fld):=vz (fl a)<|lc (Ac [(9,.ref (1,9) 0 0 a.length),(10,.fn (.func 108) [] [.ptr (1,3) 0 0])] [(Oq b),kk 9 51 16 (Aa Aw a)]) ((S0 a (fun(z0:Fld)=>S6 z0 b)).bind fun c=>(v8 c).m)
def uL(a:Msg)(b:ByteArray):PT 0 (List Fld):=wg<|lc (Ac [pp 3,(8,vL Aw a.fields)] [(Oq b)]) ((Ta a.fields).bind fun c=>(uT b c).m)
def sG(b:Msg)(a:ByteArray):PT 0 (List Fld):=wg<|br (decide (a=(⟨#[]⟩:ByteArray))) (lr WP nG ([]:List Fld)) (lc (Ac [pp 2,pp 3] [kk 2 56 5 (cD (AK b)),(Oq a)]) ((uL b a).m))
def Tl(a:Msg)(b:ByteArray):Option (List Fld):=(sG a b).m
theorem ZWH(b:Msg)(a:ByteArray):KC Tryz.prog 78 [.agg ((AK b).map .d),vS a] (Tl b a) WP:=DM Tryz.func78 Tryz.ntmps78 AU [.tmp 4] fun C co y m c L=>mJ co 2 (Ab [2,3] Fl) nl nH m L fun r g=>⟨id,fun _ m L=>sq (rg (pR co 2 (Ab [3,8] [((1,3),false)]) m L fun r g=>fun _ m L=>c6 co m (ZTf b.fields) [((1,9),⟨0,false,0,0,[]⟩)] [] (fun z=>.ref (1,9) 1 0 z.length) (fun z=>[((1,9),⟨1,true,51,16,Aa Aw z⟩)]) [] fun d m=>pR co 1 (Ab [9,10] [((1,3),false),((1,9),true)]) m L fun r g=>fun _ m L=>c6 (θ:=fun r=>AB [(1,.fn (.func 108) [] [.ptr (r.κ (1,3)) (r.γ (1,3)+0) 0])]) (hΘ:=fun r g h e i=>(fun z0 y f=>Lg (ZSB z0 a) f co g [(Oq a)] _ e (by simp) (fun _=>.top) (fun _ _=>trivial) (fun l H=>⟨fun _=>⟨rfl,by kernel_rfl⟩,by kernel_rfl,trivial⟩))) co m (ZSn d (fun(z0:Fld)=>S6 z0 a)) [kk 9 51 16 (Aa Aw d)] [(Oq a)] (fun z=>.ref (1,9) 0 0 z.length) (fun z=>[kk 9 51 16 (Aa Aw z)]) [] fun j m=>eR co (Ab [4] [((1,9),true)]) m L fun r g=>fun _ m L=>fO co m L))⟩
abbrev xV:Bool→AV:=fun y=>vB y
@[reducible] def xk(w0:Int):Bool→List Blk:=fun y=>[⟨0,true,3,1,[vI w0]⟩]
def ZLo(a:Slt)(w0:Int):PT 1 (Bool):=wg<|wg<|lr xV (xk w0) (decide (a.num=w0))
def SZ(a:Slt)(w0:Int):Option (Bool):=(ZLo a w0).m
theorem ZTC(a:Slt)(w0:Int):KO Tryz.prog 136 1 [.agg ((Dn a).map .d),.ptr (0,0) 0 0] [⟨0,true,3,1,[vI w0]⟩] (fun _ _ _ _=>True) (SZ a w0) xV (xk w0):=kO Tryz.func136 Tryz.ntmps136 [.tmp 3] 1 (fun co b m L=>fO co m L)
abbrev xA:Int→AV:=fun y=>vI y
def nX(a:List Slt)(b:Int):PT 0 (Int):=cs Tryz.prog 74 [vL Aq a,.fn (.func 136) [] [.ptr (1,3) 1 0]] [(1,3)] [((1,3),⟨1,true,3,1,[vI b]⟩)] (Td a (fun(z0:Slt)=>SZ z0 b)) (fun y=>vI y) fun c=>lr xA nG c
def yF(a:List Slt)(b:Int):Option (Int):=(nX a b).m
theorem ZSJ(b:List Slt)(a:Int):KC Tryz.prog 109 [vL Aq b,vI a] (yF b a) xA:=DM Tryz.func109 Tryz.ntmps109 AU [.tmp 4] fun C co y m c L=>fO co m L fun r g=>⟨fun y hy=>HR (ZWU b (fun(z0:Slt)=>SZ z0 a)) hy co g [] [((1,3),⟨1,true,3,1,[vI a]⟩)] (AB [(1,.fn (.func 136) [] [.ptr (r.κ (1,3)) (r.γ (1,3)+1) 0])]) (fun f d h=>(fun z0 y e=>Lg (ZTC z0 a) e co g [((1,3),⟨1,true,3,1,[vI a]⟩)] [] d (by simp) (fun _=>.top) (fun _ _=>trivial) (fun l H=>⟨fun _=>⟨rfl,by kernel_rfl⟩,by kernel_rfl,trivial⟩))) (fun H=>trivial),fun i=>id⟩
abbrev jc:Bool→AV:=fun y=>vB y
def vV(a:Val)(b:Int):PT 0 (Bool):=wg<|cl (ZSJ a.slots b) fun c=>lr jc nG (decide ((0:Int)≤c))
def di(a:Val)(b:Int):Option (Bool):=(vV a b).m
theorem ZXV(a:Val)(b:Int):KC Tryz.prog 80 [.agg ((Ae a).map .d),vI b] (di a b) jc:=kC Tryz.func80 Tryz.ntmps80 [.tmp 4] fun co m L=>fO co m L
abbrev i9:Bool→AV:=fun y=>vB y
@[reducible] def jl(w0:Fld)(a:Val):Bool→List Blk:=fun y=>[⟨0,true,51,16,(cD (Aw w0))⟩,⟨0,true,35,7,(cD (Ae a))⟩]
def oy(a:Fld)(w0:Fld)(b:Val):PT 2 (Bool):=wg<|wg<|wg<|wg<|AH (!decide (a.num=w0.num)) (ZXV b a.num) fun c=>lr i9 (jl w0 b) ((!decide (a.num=w0.num))&&c)
def O6(a:Fld)(w0:Fld)(b:Val):Option (Bool):=(oy a w0 b).m
theorem ZXp(b:Fld)(w0:Fld)(a:Val):KO Tryz.prog 79 2 [.agg ((Aw b).map .d),.ptr (0,0) 0 0,.ptr (0,1) 0 0] [⟨0,true,51,16,(cD (Aw w0))⟩,⟨0,true,35,7,(cD (Ae a))⟩] (fun _ _ _ _=>True) (O6 b w0 a) i9 (jl w0 a):=kO Tryz.func79 Tryz.ntmps79 [.tmp 4] 2 (fun co c m L=>fO co m L)
abbrev bu(a:Fld):Ad×Blk:=((1,4),⟨1,true,51,16,(cD (Aw a))⟩)
abbrev aR(a:Val):Ad×Blk:=((1,5),⟨1,true,35,7,(cD (Ae a))⟩)
abbrev iX:Bool→AV:=fun y=>vB y
def tJ(d:Msg)(a:Fld)(b:Val):PT 0 (Bool):=wg<|wg<|cl (ZWH d a.union) fun c=>cs Tryz.prog 77 [vL Aw c,.fn (.func 79) [] [.ptr (1,4) 1 0,.ptr (1,5) 1 0]] [(1,4),(1,5)] [(bu a),(aR b)] (SV c (fun(z0:Fld)=>O6 z0 a b)) (fun y=>vB y) fun e=>lr iX nG e
def dt(a:Msg)(b:Fld)(c:Val):Option (Bool):=(tJ a b c).m
theorem ZWN(d:Msg)(a:Fld)(b:Val):KC Tryz.prog 40 [.agg ((AK d).map .d),.agg ((Aw a).map .d),.agg ((Ae b).map .d)] (dt d a b) iX:=DM Tryz.func40 Tryz.ntmps40 AU [.tmp 6] fun C co y m c L=>fO co m L fun r g=>fun h=>⟨fun y hy=>HR (ZXF h (fun(z0:Fld)=>O6 z0 a b)) hy co g [] [(bu a),(aR b)] (AB [(1,.fn (.func 79) [] [.ptr (r.κ (1,4)) (r.γ (1,4)+1) 0,.ptr (r.κ (1,5)) (r.γ (1,5)+1) 0])]) (fun i e j=>(fun z0 y f=>Lg (ZXp z0 a b) f co g [(bu a),(aR b)] [] e (by simp) (fun _=>.top) (fun _ _=>trivial) (fun l H=>⟨fun _=>⟨rfl,by kernel_rfl⟩,by kernel_rfl,⟨fun _=>⟨rfl,by kernel_rfl⟩,by kernel_rfl,trivial⟩⟩))) (fun H=>trivial),fun k=>id⟩
abbrev iV:Bool→AV:=fun y=>vB y
@[reducible] def jh(w0:Msg)(a:Val):Bool→List Blk:=fun y=>[⟨0,true,56,5,(cD (AK w0))⟩,⟨0,true,35,7,(cD (Ae a))⟩]
def ri(b:Slt)(w0:Msg)(a:Val):PT 2 (Bool):=wg<|wg<|cl (xI w0 b.num) fun c=>wg<|wg<|wg<|wg<|cl (ZWN w0 c.1 a) fun d=>lr iV (jh w0 a) d
def O7(a:Slt)(w0:Msg)(b:Val):Option (Bool):=(ri a w0 b).m
theorem ZWT(b:Slt)(w0:Msg)(a:Val):KO Tryz.prog 38 2 [.agg ((Dn b).map .d),.ptr (0,0) 0 0,.ptr (0,1) 0 0] [⟨0,true,56,5,(cD (AK w0))⟩,⟨0,true,35,7,(cD (Ae a))⟩] (fun _ _ _ _=>True) (O7 b w0 a) iV (jh w0 a):=kO Tryz.func38 Tryz.ntmps38 [.tmp 4] 2 (fun co c m L=>fO co m L)
abbrev jd:Bool→AV:=fun y=>vB y
@[reducible] def jm(w0:Int):Bool→List Blk:=fun y=>[⟨0,true,3,1,[vI w0]⟩]
def ZUL(a:Slt)(w0:Int):PT 1 (Bool):=wg<|wg<|lr jd (jm w0) (decide (a.num=w0))
def Tc(a:Slt)(w0:Int):Option (Bool):=(ZUL a w0).m
theorem ZXe(a:Slt)(w0:Int):KO Tryz.prog 81 1 [.agg ((Dn a).map .d),.ptr (0,0) 0 0] [⟨0,true,3,1,[vI w0]⟩] (fun _ _ _ _=>True) (Tc a w0) jd (jm w0):=kO Tryz.func81 Tryz.ntmps81 [.tmp 3] 1 (fun co b m L=>fO co m L)
def ZEZ:Go.Shelf.Ren:=⟨fun|4=>110|n=>n,fun|22=>27|25=>35|n=>n,fun n=>n⟩
theorem Zxh:Go.Proofs.Lays8.n4 Tryz.prog ZEZ:={
 mixed:=by kernel_rfl,
 f4:=⟨Tryz.f110.name,by decide+kernel,Tryz.func110.trans (congrArg some (by kernel_rfl))⟩,
 t0:=Tryz.underlying0,
 a0:=Tryz.isAgg0,
 z0:=Tryz.sizeOf0,
 v0:=Tryz.zeroValue0,
 t3:=Tryz.underlying3,
 a3:=Tryz.isAgg3,
 z3:=Tryz.sizeOf3,
 v3:=Tryz.zeroValue3,
 t4:=Tryz.underlying4,
 a4:=Tryz.isAgg4,
 z4:=Tryz.sizeOf4,
 v4:=Tryz.zeroValue4,
 t9:=Tryz.underlying9,
 a9:=Tryz.isAgg9,
 z9:=Tryz.sizeOf9,
 v9:=Tryz.zeroValue9,
 t20:=Tryz.underlying20,
 a20:=Tryz.isAgg20,
 z20:=Tryz.sizeOf20,
 v20:=Tryz.zeroValue20,
 t22:=Tryz.underlying27,
 a22:=Tryz.isAgg27,
 z22:=Tryz.sizeOf27,
 v22:=Tryz.zeroValue27 }
abbrev ZW4:List Val→AV:=fun y=>.ref (0,0) 1 0 y.length
@[reducible] def ZXW:List Val→List Blk:=fun y=>[⟨1,true,35,7,Aa Az y⟩]
def dI(n:Nat):Option (List Val):=if n<549755813888 then some []else none
theorem ZTQ(n:Nat):KO Tryz.prog 110 1 [.e0,vN n] [⟨0,false,0,0,[]⟩] (fun _ _ _ _=>True) (dI n) ZW4 ZXW:=⟨fun l H ks k θ b a j i _ y hy=>by
 obtain⟨d,hy⟩:=BD hy
 cases hy
 match ks,b with
 |[m],_=>
  have hi:∃i0 z,(Tryz.prog).info? 35=some i0∧i0.zero=some z∧i0.size=7∧z.cells.size=i0.size∧i0.bytes≤256:=⟨_,_,rfl,rfl,rfl,by decide+kernel,by decide+kernel⟩
  obtain⟨i0,z,e,f,c,g,h⟩:=hi
  exact dO Zxh i0 z e f (by rw[c];decide) g h ⟨_,As Tryz.f110,Tryz.func110,by kernel_rfl,by kernel_rfl⟩ a.1 i.1.1 n d (by rw[c];exact⟨rfl,rfl⟩)⟩
abbrev F0:List (Ad×Bool):=[((1,24),true)]
abbrev Rb:List Val→AV:=fun y=>.ref (0,0) 1 0 y.length
@[reducible] def Rh:List Val→List Blk:=fun y=>[⟨1,true,35,7,Aa Az y⟩]
def uv(a:List (List Val)):Nat×Nat→St:=fun(b,v2)=>Ac [(0,vL Ff a),(3,vN b),(9,vL Ff a),(10,vN a.length),(11,vN v2)] []
def n9(a:List (List Val)):Nat→Nat×St:=fun v4=>(0,Ac [(0,vL Ff a),(3,vN v4)] [])
def Vz(b:List (List Val))(c:Nat)(v2:Nat):PT 1 (Lv (Nat×Nat) (Nat) (List Val)):=br (decide ((v2:Int)<(b.length:Int))) (ix b v2 fun a=>vz (Aj a)<|vs (wa c a.length)<|br (decide (((c+a.length:Nat):Int)<(0:Int))) (dd) (vs (wa v2 1)<|ln (uv b) (c+a.length,v2+1))) (Af (n9 b) c)
def Il(a:List (List Val)):Nat×Nat→Option (Lv (Nat×Nat) (Nat) (List Val)):=fun(b,v2)=>(Vz a b v2).m
def rh(a:List (List Val)):List Val×Nat→St:=fun(b,c)=>Ac [(6,.ref (1,24) 0 0 b.length),(25,vL Ff a),(26,vN a.length),(27,vN c)] [kk 24 35 7 (Aa Az b)]
def v6:List Val→Nat×St:=fun a=>(2,Ac [(6,.ref (1,24) 0 0 a.length)] [kk 24 35 7 (Aa Az a)])
def VJ(d:List (List Val))(a:List Val)(b:Nat):PT 1 (Lv (List Val×Nat) (List Val) (List Val)):=br (decide ((b:Int)<(d.length:Int))) (ix d b fun c=>aq a c<|vs (wa b 1)<|vz (fl (a++c))<|ln (rh d) (a++c,b+1)) (vz (fl a)<|Af (v6) a)
def Ic(a:List (List Val)):List Val×Nat→Option (Lv (List Val×Nat) (List Val) (List Val)):=fun(b,c)=>(VJ a b c).m
def vu(a:List Val):PT 1 (List Val):=vw .sep<|mv 24 0 a<|lr Rb (Rh) a
def rz(a:List (List Val))(b:List Val):PT 1 (List Val):=vz (Aj a)<|vz (fl b)<|lc (Ac [(6,.ref (1,24) 0 0 b.length),(25,vL Ff a),(26,vN a.length),(27,vI 0)] [kk 24 35 7 (Aa Az b)]) ((Ai (Ic a) Ah (b,0)).bind (Sum.elim (fun c=>(vu c).m) some))
def sd(b:List (List Val))(a:List Val):PT 1 (List Val):=vz (fl a)<|lc (Ac [(0,vL Ff b),(6,.ref (1,24) 0 0 a.length)] [kk 24 35 7 (Aa Az a)]) ((rz b a).m)
def rH(a:List (List Val))(v4:Nat):PT 1 (List Val):=lc (Ac [(0,vL Ff a),(23,vN v4)] []) ((dI v4).bind fun b=>(sd a b).m)
def ua(a:List (List Val)):PT 1 (List Val):=vz (Aj a)<|lc (Ac [(0,vL Ff a),(3,vI 0),(9,vL Ff a),(10,vN a.length),(11,vI 0)] []) ((Ai (Il a) Ah (0,0)).bind (Sum.elim (fun v4=>(rH a v4).m) some))
def ox(a:List (List Val)):PT 1 (List Val):=lc (Ac [(0,vL Ff a),(3,vI 0)] []) ((ua a).m)
def S8(a:List (List Val)):Option (List Val):=(ox a).m
theorem ZGm{C:Cx}(co:CO C 1)(a:List (List Val)):KL Tryz.prog (Ar tl) 36 C (pa [0,0,1,0,1,1] (As Tryz.f82)) [.tmp 2] 1 (uv a) (n9 a) Rb (Rh) (Il a):=fun(e,v2) _ m Q b c L=>eN co (AD [0,3,9,10,11]) (AD [0,3]) c m L fun r g=>⟨fun d=>⟨trivial,id⟩,id⟩
theorem ZHv{C:Cx}(co:CO C 1)(b:List (List Val)):KL Tryz.prog (Ar tl) 36 C (pa [0,0,1,0,1,1,1,1] (As Tryz.f82)) [.tmp 2] 1 (rh b) (v6) Rb (Rh) (Ic b):=fun(d,e) _ m Q a c L=>eN co (Ab [6,25,26,27] F0) (Ab [6] F0) c m L
theorem ZXU(a:List (List Val)):KO Tryz.prog 82 1 [vL Ff a] [⟨0,false,0,0,[]⟩] (fun _ _ _ _=>True) (S8 a) Rb (Rh):=kO Tryz.func82 Tryz.ntmps82 [.tmp 2] 1 (fun co b m L=>mJ co 2 (AD [0,3]) nl nH m L fun r g=>fun _ m L=>sq (mJ co 1 (AD [0,3,9,10,11]) nl nH m L fun r g=>fun _ m L=>bk 0 (lo (Ay (ZGm co a) nH m L (fun v4 m=>sq (rg (pR co 1 (AD [0,23]) m L fun r g=>fun _ m L=>c6 co m (ZTQ v4) [((1,24),⟨0,false,0,0,[]⟩)] [] (fun z=>.ref (1,24) 1 0 z.length) (fun z=>[((1,24),⟨1,true,35,7,Aa Az z⟩)]) [] fun d m=>eR co (Ab [0,6] F0) m L fun r g=>fun _ m L=>sq (mJ co 1 (Ab [6,25,26,27] F0) nl nH m L fun r g=>fun _ m L=>bk 2 (lo (Ay (ZHv co a) nH m L (fun c m=>fO co m L)))))))))))
abbrev bV:List Pr→AV:=fun y=>.ref (0,0) 1 0 y.length
@[reducible] def aj:List Pr→List Blk:=fun y=>[⟨1,true,63,14,Aa Ap y⟩]
def mM(a:List Pr):PT 1 (List Pr):=al Ap a false fun b=>br b (vw .sep<|vw (.ads 2 2 63 14)<|mv 2 0 ([]:List Pr)<|lr bV (aj) ([]:List Pr)) (a0 a<|mv 7 0 a<|lr bV (aj) a)
def S4(a:List Pr):Option (List Pr):=(mM a).m
theorem ZTT(a:List Pr):KO Tryz.prog 111 1 [vL Ap a] [⟨0,false,0,0,[]⟩] (fun _ _ _ _=>True) (S4 a) bV (aj):=kO Tryz.func111 Tryz.ntmps111 [.tmp 2] 1 (fun co b m L=>fO co m L)
section
variable {α:Type} [Rw α] [Tid α]
abbrev Hj:List α→AV:=fun y=>.tup []
@[reducible] def Hr:List α→List Blk:=fun y=>[⟨0,true,.t (Tid.t α),Rw.s α,Aa Rw.e y⟩]
def Ip(a:α→α→Option Int):Cl:=fun no l H θ=>(∀(z0:α) (b:α) y,a z0 b=some y→CI Tryz.prog l no H (θ 3) [.agg ((Rw.f z0).map .d),.agg ((Rw.f b).map .d)] (vI y))
def U2(a:List α)(b:Int)(c:Int):Int×List α→St:=fun(e,d)=>Ac [(0,.ref (0,0) 0 0 a.length),(1,vI b),(2,vI c),(3,.fn (.yield 3) [] []),(8,vI e)] [((0,0),⟨0,true,.t (Tid.t α),Rw.s α,Aa Rw.e d⟩)]
def UR:List α→Nat×St:=fun a=>(0,Ac [] [((0,0),⟨0,true,.t (Tid.t α),Rw.s α,Aa Rw.e a⟩)])
def UG(a:List α)(b:Int)(c:Int)(e:Int):Int×List α→St:=fun(v3,d)=>Ac [(0,.ref (0,0) 0 0 a.length),(1,vI b),(2,vI c),(3,.fn (.yield 3) [] []),(8,vI e),(9,vI v3)] [((0,0),⟨0,true,.t (Tid.t α),Rw.s α,Aa Rw.e d⟩)]
def UY(b:List α)(c:Int)(d:Int)(e:Int):List α→Nat×St:=fun a=>(2,Ac [(0,.ref (0,0) 0 0 b.length),(1,vI c),(2,vI d),(3,.fn (.yield 3) [] []),(8,vI e)] [((0,0),⟨0,true,.t (Tid.t α),Rw.s α,Aa Rw.e a⟩)])
def PQ(c:List α)(b:Int)(i:Int)(f:α→α→Option Int)(j:Int)(v3:Int)(a:List α):PT 1 (Lv (Int×List α) (List α) (List α)):=vg (decide (b<v3)) (AA v3 c.length (Rw.s α))<|Fo (decide (b<v3)) a v3.toNat fun g=>vg (decide (b<v3)) (wi (v3-1))<|vg (decide (b<v3)) (AA (v3-1) c.length (Rw.s α))<|Fo (decide (b<v3)) a (v3-1).toNat fun h=>Hw (decide (b<v3)) Tryz.prog 3 [.agg ((Rw.f g).map .d),.agg ((Rw.f h).map .d)] (f g h) (fun y=>vI y) fun k=>br (decide (b<v3)&&decide (k<(0:Int))) (vs (wi (v3-1))<|vs (wi (v3-1))<|vs (AA (v3-1) c.length (Rw.s α))<|ca a (v3-1).toNat fun d=>vs (AA v3 c.length (Rw.s α))<|ca a v3.toNat fun e=>vs (AA v3 c.length (Rw.s α))<|vs (st a v3.toNat d)<|BO 0 ((Rw.f (d:α)).map .d) (fun _=>G7 _)<|vs (AA (v3-1) c.length (Rw.s α))<|vs (st (a.set v3.toNat d) (v3-1).toNat e)<|BO 0 ((Rw.f (e:α)).map .d) (fun _=>G7 _)<|vs (wi (v3-1))<|vz (fl ((a.set v3.toNat d).set (v3-1).toNat e))<|ln (UG c b i j) ((v3-1),(a.set v3.toNat d).set (v3-1).toNat e)) (vz (fl a)<|Af (UY c b i j) a)
def Fa(b:List α)(c:Int)(d:Int)(a:α→α→Option Int)(f:Int):Int×List α→Option (Lv (Int×List α) (List α) (List α)):=fun(v3,e)=>(PQ b c d a f v3 e).m
def gR(c:List α)(d:Int)(e:Int)(b:Int)(a:List α):PT 1 (Lv (Int×List α) (List α) (List α)):=vs (wi (b+1))<|vz (fl a)<|ln (U2 c d e) ((b+1),a)
def gK(b:List α)(c:Int)(d:Int)(e:α→α→Option Int)(a:Int)(g:List α):PT 1 (Lv (Int×List α) (List α) (List α)):=vz (fl g)<|lc (Ac [(0,.ref (0,0) 0 0 b.length),(1,vI c),(2,vI d),(3,.fn (.yield 3) [] []),(8,vI a),(9,vI a)] [((0,0),⟨0,true,.t (Tid.t α),Rw.s α,Aa Rw.e g⟩)]) ((Ai (Fa b c d e a) Ah (a,g)).bind (Sum.elim (fun f=>(gR b c d a f).m) (fun z=>some (.rt z))))
def fM(e:List α)(f:Int)(b:Int)(c:α→α→Option Int)(d:Int)(a:List α):PT 1 (Lv (Int×List α) (List α) (List α)):=br (decide (d<b)) (vz (fl a)<|lc (Ac [(0,.ref (0,0) 0 0 e.length),(1,vI f),(2,vI b),(3,.fn (.yield 3) [] []),(8,vI d)] [((0,0),⟨0,true,.t (Tid.t α),Rw.s α,Aa Rw.e a⟩)]) ((gK e f b c d a).m)) (vz (fl a)<|Af (UR) a)
def HW(b:List α)(c:Int)(d:Int)(a:α→α→Option Int):Int×List α→Option (Lv (Int×List α) (List α) (List α)):=fun(f,e)=>(fM b c d a f e).m
def P0(a:List α):PT 1 (List α):=lr Hj (Hr) a
def Zz0(a:List α)(b:Int)(e:Int)(c:α→α→Option Int):PT 1 (List α):=vs (wi (b+1))<|vz (fl a)<|lc (Ac [(0,.ref (0,0) 0 0 a.length),(1,vI b),(2,vI e),(3,.fn (.yield 3) [] []),(8,vI (b+1))] [((0,0),⟨0,true,.t (Tid.t α),Rw.s α,Aa Rw.e a⟩)]) ((Ai (HW a b e c) Ah ((b+1),a)).bind (Sum.elim (fun d=>(P0 d).m) some))
def Jo(b:List α)(c:Int)(d:Int)(a:α→α→Option Int):Option (List α):=(Zz0 b c d a).m
end
theorem ZxT{C:Cx}(co:CO C 1)(b:List Pr)(c:Int)(d:Int)(a:Pr→Pr→Option Int)(e:Int)(i:(Ip a) C.no C.l C.H0 C.θ):KL Tryz.prog (Ar tl) 53 C (pa [0,0,1,0,0,1,0,0,1] (As Tryz.f163)) [] 1 (UG b c d e) (UY b c d e) Hj (Hr) (Fa b c d a e):=fun(v3,o) _ m Q f h L=>eN co (Ab [0,1,2,3,8,9] Ag) (Ab [0,1,2,3,8] Ag) h m L fun r g=>fun j=>fun k=>⟨⟨fun y hy=>i _ _ y hy,by intro r;kernel_rfl,by intro r y;kernel_rfl⟩,fun p=>⟨fun l=>fun n=>id,id⟩⟩
theorem Zwy{C:Cx}(co:CO C 1)(c:List Pr)(d:Int)(e:Int)(a:Pr→Pr→Option Int)(h:(Ip a) C.no C.l C.H0 C.θ):KL Tryz.prog (Ar tl) 53 C (pa [0,0,1] (As Tryz.f163)) [] 1 (U2 c d e) (UR) Hj (Hr) (HW c d e a):=fun(j,k) _ m Q f b L=>mJ co 1 (Ab [0,1,2,3,8] Ag) (Ab [] Ag) b m L fun r g=>⟨fun _ m L=>sq (bk 1 (mJ co 1 (Ab [0,1,2,3,8,9] Ag) nl b m L fun r g=>fun _ m L=>bk 2 (lo (Ej (ZxT co c d e a j h) b m L (fun i m=>eN co (Ab [0,1,2,3,8] Ag) nl b m L))))),id⟩
theorem tb(b:List Pr)(c:Int)(d:Int)(a:Pr→Pr→Option Int):KO Tryz.prog 163 1 [.ref (0,0) 0 0 b.length,vI c,vI d,.fn (.yield 3) [] []] [⟨0,true,63,14,Aa Ap b⟩] (Ip a) (Jo b c d a) Hj (Hr):=kO Tryz.func163 Tryz.ntmps163 [] 1 (fun co f m L=>mJ co 1 (Ab [0,1,2,3,8] Ag) nl nH m L fun r g=>fun _ m L=>bk 0 (lo (Ay (Zwy co b c d a f) nH m L (fun e m=>BW (P0 e) co m L (fun r g=>id) r g))))
section
variable {α:Type} [Rw α] [Tid α]
abbrev KN:List α→AV:=fun y=>.tup []
@[reducible] def Ku:List α→List Blk:=fun y=>[⟨0,true,.t (Tid.t α),Rw.s α,Aa Rw.e y⟩]
def Uu(a:List α)(b:Int)(c:Int)(d:Int):Nat×List α→St:=fun(f,e)=>Ac [(0,.ref (0,0) 0 0 a.length),(1,vI b),(2,vI c),(3,vI d),(10,vN f)] [((0,0),⟨0,true,.t (Tid.t α),Rw.s α,Aa Rw.e e⟩)]
def UX:List α→Nat×St:=fun a=>(0,Ac [] [((0,0),⟨0,true,.t (Tid.t α),Rw.s α,Aa Rw.e a⟩)])
def g8(f:List α)(b:Int)(c:Int)(h:Int)(a:Nat)(d:List α):PT 1 (Lv (Nat×List α) (List α) (List α)):=br (decide ((a:Int)<h)) (vs (wi (b+(a:Int)))<|vs (wi (c+(a:Int)))<|vs (wi (c+(a:Int)))<|vs (AA (c+(a:Int)) f.length (Rw.s α))<|ca d (c+(a:Int)).toNat fun e=>vs (wi (b+(a:Int)))<|vs (AA (b+(a:Int)) f.length (Rw.s α))<|ca d (b+(a:Int)).toNat fun g=>vs (AA (b+(a:Int)) f.length (Rw.s α))<|vs (st d (b+(a:Int)).toNat e)<|BO 0 ((Rw.f (e:α)).map .d) (fun _=>G7 _)<|vs (AA (c+(a:Int)) f.length (Rw.s α))<|vs (st (d.set (b+(a:Int)).toNat e) (c+(a:Int)).toNat g)<|BO 0 ((Rw.f (g:α)).map .d) (fun _=>G7 _)<|vs (wa a 1)<|vz (fl ((d.set (b+(a:Int)).toNat e).set (c+(a:Int)).toNat g))<|ln (Uu f b c h) (a+1,(d.set (b+(a:Int)).toNat e).set (c+(a:Int)).toNat g)) (vz (fl d)<|Af (UX) d)
def JB(a:List α)(b:Int)(c:Int)(d:Int):Nat×List α→Option (Lv (Nat×List α) (List α) (List α)):=fun(f,e)=>(g8 a b c d f e).m
def PS(a:List α):PT 1 (List α):=lr KN (Ku) a
def ZzF(a:List α)(b:Int)(c:Int)(d:Int):PT 1 (List α):=vz (fl a)<|lc (Ac [(0,.ref (0,0) 0 0 a.length),(1,vI b),(2,vI c),(3,vI d),(10,vI 0)] [((0,0),⟨0,true,.t (Tid.t α),Rw.s α,Aa Rw.e a⟩)]) ((Ai (JB a b c d) Ah (0,a)).bind (Sum.elim (fun e=>(PS e).m) some))
def HN(a:List α)(b:Int)(c:Int)(d:Int):Option (List α):=(ZzF a b c d).m
end
theorem Zv8{C:Cx}(co:CO C 1)(b:List Pr)(c:Int)(d:Int)(e:Int):KL Tryz.prog (Ar tl) 38 C (pa [0,0,1] (As Tryz.f182)) [] 1 (Uu b c d e) (UX) KN (Ku) (JB b c d e):=fun(h,g) _ m Q a f L=>eN co (Ab [0,1,2,3,10] Ag) (Ab [] Ag) f m L
theorem ZL(a:List Pr)(b:Int)(c:Int)(d:Int):KO Tryz.prog 182 1 [.ref (0,0) 0 0 a.length,vI b,vI c,vI d,.fn (.yield 4) [] []] [⟨0,true,63,14,Aa Ap a⟩] (fun _ _ _ _=>True) (HN a b c d) KN (Ku):=kO Tryz.func182 Tryz.ntmps182 [] 1 (fun co f m L=>mJ co 1 (Ab [0,1,2,3,10] Ag) nl nH m L fun r g=>fun _ m L=>bk 0 (lo (Ay (Zv8 co a b c d) nH m L (fun e m=>BW (PS e) co m L (fun r g=>id) r g))))
section
variable {α:Type} [Rw α] [Tid α]
abbrev KI:List α→AV:=fun y=>.tup []
@[reducible] def Kq:List α→List Blk:=fun y=>[⟨0,true,.t (Tid.t α),Rw.s α,Aa Rw.e y⟩]
def PP(a:List α)(b:Int):Int×Int×List α→St:=fun(d,v2,c)=>Ac [(0,.ref (0,0) 0 0 a.length),(2,vI b),(4,.fn (.yield 4) [] []),(10,vI d),(11,vI v2)] [((0,0),⟨0,true,.t (Tid.t α),Rw.s α,Aa Rw.e c⟩)]
def UM(a:List α)(b:Int):Int×List α→Nat×St:=fun(d,c)=>(0,Ac [(0,.ref (0,0) 0 0 a.length),(2,vI b),(4,.fn (.yield 4) [] []),(10,vI d)] [((0,0),⟨0,true,.t (Tid.t α),Rw.s α,Aa Rw.e c⟩)])
def UA(c:List α)(d:Int)(a:Int)(v2:Int)(b:List α):PT 1 (Lv (Int×Int×List α) (Int×List α) (List α)):=vs (wi (a-v2))<|vz (fl b)<|ln (PP c d) ((a-v2),v2,b)
def UN(b:List α)(c:Int)(d:Int)(v2:Int)(a:List α):PT 1 (Lv (Int×Int×List α) (Int×List α) (List α)):=vz (fl a)<|lc (Ac [(0,.ref (0,0) 0 0 b.length),(2,vI c),(4,.fn (.yield 4) [] []),(10,vI d),(11,vI v2)] [((0,0),⟨0,true,.t (Tid.t α),Rw.s α,Aa Rw.e a⟩)]) ((UA b c d v2 a).m)
def U3(c:List α)(a:Int)(b:Int)(v2:Int)(d:List α):PT 1 (Lv (Int×Int×List α) (Int×List α) (List α)):=vs (wi (a-b))<|vz (fl d)<|lc (Ac [(0,.ref (0,0) 0 0 c.length),(2,vI a),(4,.fn (.yield 4) [] []),(10,vI b),(11,vI v2),(24,.ref (0,0) 0 0 c.length),(27,vI (a-b)),(28,vI a),(29,vI v2),(30,.fn (.yield 4) [] [])] [((0,0),⟨0,true,.t (Tid.t α),Rw.s α,Aa Rw.e d⟩)]) (if c.length=d.length then(HN d (a-b) a v2).bind fun e=>(UN c a b v2 e).m else none)
def UH(c:List α)(d:Int)(a:Int)(v2:Int)(b:List α):PT 1 (Lv (Int×Int×List α) (Int×List α) (List α)):=vs (wi (v2-a))<|vz (fl b)<|ln (PP c d) (a,(v2-a),b)
def UK(b:List α)(c:Int)(d:Int)(v2:Int)(a:List α):PT 1 (Lv (Int×Int×List α) (Int×List α) (List α)):=vz (fl a)<|lc (Ac [(0,.ref (0,0) 0 0 b.length),(2,vI c),(4,.fn (.yield 4) [] []),(10,vI d),(11,vI v2)] [((0,0),⟨0,true,.t (Tid.t α),Rw.s α,Aa Rw.e a⟩)]) ((UH b c d v2 a).m)
def Ux(c:List α)(b:Int)(a:Int)(v2:Int)(d:List α):PT 1 (Lv (Int×Int×List α) (Int×List α) (List α)):=vs (wi (b-a))<|vs (wi (b+v2))<|vs (wi ((b+v2)-a))<|vz (fl d)<|lc (Ac [(0,.ref (0,0) 0 0 c.length),(2,vI b),(4,.fn (.yield 4) [] []),(10,vI a),(11,vI v2),(35,.ref (0,0) 0 0 c.length),(38,vI (b-a)),(43,vI ((b+v2)-a)),(44,vI a),(45,.fn (.yield 4) [] [])] [((0,0),⟨0,true,.t (Tid.t α),Rw.s α,Aa Rw.e d⟩)]) (if c.length=d.length then(HN d (b-a) ((b+v2)-a) a).bind fun e=>(UK c b a v2 e).m else none)
def UE(c:List α)(d:Int)(a:Int)(v2:Int)(b:List α):PT 1 (Lv (Int×Int×List α) (Int×List α) (List α)):=vz (fl b)<|lc (Ac [(0,.ref (0,0) 0 0 c.length),(2,vI d),(4,.fn (.yield 4) [] []),(10,vI a),(11,vI v2),(23,vB (decide (v2<a)))] [((0,0),⟨0,true,.t (Tid.t α),Rw.s α,Aa Rw.e b⟩)]) (if decide (v2<a)=true then(U3 c d a v2 b).m else(Ux c d a v2 b).m)
def Uo(c:List α)(d:Int)(b:Int)(v2:Int)(a:List α):PT 1 (Lv (Int×Int×List α) (Int×List α) (List α)):=br (!decide (b=v2)) (vz (fl a)<|lc (Ac [(0,.ref (0,0) 0 0 c.length),(2,vI d),(4,.fn (.yield 4) [] []),(10,vI b),(11,vI v2)] [((0,0),⟨0,true,.t (Tid.t α),Rw.s α,Aa Rw.e a⟩)]) ((UE c d b v2 a).m)) (vz (fl a)<|Af (UM c d) (b,a))
def Gy(a:List α)(b:Int):Int×Int×List α→Option (Lv (Int×Int×List α) (Int×List α) (List α)):=fun(d,v2,c)=>(Uo a b d v2 c).m
def P5(a:List α):PT 1 (List α):=lr KI (Kq) a
def Zrk(a:List α):PT 1 (List α):=vz (fl a)<|lc (Ac [] [((0,0),⟨0,true,.t (Tid.t α),Rw.s α,Aa Rw.e a⟩)]) ((P5 a).m)
def Zt8(d:List α)(a:Int)(b:Int)(c:List α):PT 1 (List α):=vs (wi (a-b))<|vz (fl c)<|lc (Ac [(50,.ref (0,0) 0 0 d.length),(53,vI (a-b)),(54,vI a),(55,vI b),(56,.fn (.yield 4) [] [])] [((0,0),⟨0,true,.t (Tid.t α),Rw.s α,Aa Rw.e c⟩)]) (if d.length=c.length then(HN c (a-b) a b).bind fun e=>(Zrk e).m else none)
def Zrt(b:List α)(c:Int)(a:Int)(d:Int):PT 1 (List α):=vs (wi (a-c))<|vs (wi (d-a))<|vz (fl b)<|lc (Ac [(0,.ref (0,0) 0 0 b.length),(2,vI a),(4,.fn (.yield 4) [] []),(10,vI (a-c)),(11,vI (d-a))] [((0,0),⟨0,true,.t (Tid.t α),Rw.s α,Aa Rw.e b⟩)]) ((Ai (Gy b a) Ah ((a-c),(d-a),b)).bind (Sum.elim (fun(f,e)=>(Zt8 b a f e).m) some))
def KY(a:List α)(b:Int)(c:Int)(d:Int):Option (List α):=(Zrt a b c d).m
end
theorem ZyW{C:Cx}(co:CO C 1)(c:List Pr)(a:Int):KL Tryz.prog (Ar tl) 58 C (pa [0,0,0,1,1] (As Tryz.f176)) [] 1 (PP c a) (UM c a) KI (Kq) (Gy c a):=fun(b,v2,e) _ m Q f d L=>mJ co 1 (Ab [0,2,4,10,11] Ag) (Ab [0,2,4,10] Ag) d m L fun r g=>⟨fun _ m L=>bk 1 (mJ co 1 (Ab [0,2,4,10,11,23] Ag) nl d m L fun r g=>fun _ m L=>Bg m (fun m=>sq (rg (pR co 7 (Ab [0,2,4,10,11,24,27,28,29,30] Ag) m L fun r g=>fun _ m L=>BK m fun heq m=>c6 (θ:=fun r=>AB [(4,r.θ 4)]) (xs:=[.ref (0,0) 0 0 c.length,vI (a-b),vI a,vI v2,.fn (.yield 4) [] []]) (hx:=by intro r H;rw[heq];kernel_rfl) co m (ZL e (a-b) a v2) [((0,0),⟨0,true,63,14,Aa Ap e⟩)] [] (fun z=>.tup []) (fun z=>[((0,0),⟨0,true,63,14,Aa Ap z⟩)]) [] fun h m=>eR co (Ab [0,2,4,10,11] Ag) m L fun r g=>fun _ m L=>eN co (Ab [0,2,4,10,11] Ag) nl d m L))) (fun m=>sq (rg (pR co 11 (Ab [0,2,4,10,11,35,38,43,44,45] Ag) m L fun r g=>fun _ m L=>BK m fun heq m=>c6 (θ:=fun r=>AB [(4,r.θ 4)]) (xs:=[.ref (0,0) 0 0 c.length,vI (a-b),vI ((a+v2)-b),vI b,.fn (.yield 4) [] []]) (hx:=by intro r H;rw[heq];kernel_rfl) co m (ZL e (a-b) ((a+v2)-b) b) [((0,0),⟨0,true,63,14,Aa Ap e⟩)] [] (fun z=>.tup []) (fun z=>[((0,0),⟨0,true,63,14,Aa Ap z⟩)]) [] fun i m=>eR co (Ab [0,2,4,10,11] Ag) m L fun r g=>fun _ m L=>eN co (Ab [0,2,4,10,11] Ag) nl d m L)))),id⟩
theorem ZSX(b:List Pr)(d:Int)(a:Int)(e:Int):KO Tryz.prog 176 1 [.ref (0,0) 0 0 b.length,vI d,vI a,vI e,.fn (.yield 4) [] []] [⟨0,true,63,14,Aa Ap b⟩] (fun _ _ _ _=>True) (KY b d a e) KI (Kq):=kO Tryz.func176 Tryz.ntmps176 [] 1 (fun co i m L=>mJ co 2 (Ab [0,2,4,10,11] Ag) nl nH m L fun r g=>fun _ m L=>sq (bk 0 (lo (Ay (ZyW co b a) nH m L (fun(c,f) m=>rg (pR co 7 (Ab [50,53,54,55,56] Ag) m L fun r g=>fun _ m L=>BK m fun heq m=>c6 (θ:=fun r=>AB [(4,r.θ 4)]) (xs:=[.ref (0,0) 0 0 b.length,vI (a-c),vI a,vI c,.fn (.yield 4) [] []]) (hx:=by intro r H;rw[heq];kernel_rfl) co m (ZL f (a-c) a c) [((0,0),⟨0,true,63,14,Aa Ap f⟩)] [] (fun z=>.tup []) (fun z=>[((0,0),⟨0,true,63,14,Aa Ap z⟩)]) [] fun h m=>eR co (Ab [] Ag) m L fun r g=>fun _ m L=>BW (P5 h) co m L (fun r g=>id) r g))))))
end Go.Proofs.YtbcmdieedjamgaaGreat
