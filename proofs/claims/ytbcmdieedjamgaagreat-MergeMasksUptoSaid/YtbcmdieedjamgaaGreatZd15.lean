import Derived.Test.YtbcmdieedjamgaaGreatZd14
import Derived.Test.YtbcmdieedjamgaaGreatZd00
namespace Go.Proofs.YtbcmdieedjamgaaGreat
set_option maxRecDepth 100000
set_option linter.all false
open Go Go.Eng
abbrev DY(a:Scm):Ad×Blk:=kk 1 26 3 (cD (Am a))
abbrev OL(a:List Prb):Ad×Blk:=kk 3 75 2 [vS ⟨#[]⟩,.ref (1,1031) 0 0 a.length]
abbrev OU(a:List Prb):Ad×Blk:=kk 1031 114 3 (Ab Ak a)
abbrev Tp(a:List Prb):Ad×Blk:=kk 3 75 2 [vS ⟨#[]⟩,.ref (1,1031) 0 0 a.length]
abbrev Sr(a:List Prb):Ad×Blk:=kk 1031 114 3 (Ab Ak a)
abbrev SA(a:List Prb):Ad×Blk:=kk 3 75 2 [vS ⟨#[]⟩,.ref (1,1031) 0 0 a.length]
abbrev SJ(a:List Prb):Ad×Blk:=kk 1031 114 3 (Ab Ak a)
abbrev cJ(a:List Prb):Ad×Blk:=kk 3 75 2 [vS ⟨#[]⟩,.ref (1,1031) 0 0 a.length]
abbrev LP:List Prb→AV:=fun y=>vL Ak y
def uM(b:Scm):Nat×List Prb→St:=fun(c,a)=>Ac [pp 1,pp 3,(4,vN c)] [(DY b),(OL a),(OU a)]
def qO(b:Scm):List Prb→Nat×St:=fun a=>(0,Ac [pp 1,pp 3] [(DY b),(Tp a),(Sr a)])
def rJ(c:Scm)(a:Nat)(b:List Prb):PT 0 (Lv (Nat×List Prb) (List Prb) (List Prb)):=vs (wa a 1)<|vz (fl b)<|ln (uM c) (a+1,b)
def tg(b:Scm)(c:Nat)(a:List Prb):PT 0 (Lv (Nat×List Prb) (List Prb) (List Prb)):=vz (fl a)<|lc (Ac [pp 1,pp 3,(4,vN c)] [(DY b),kk 3 75 2 [vS ⟨#[]⟩,.ref (1,1031) 0 0 a.length],kk 1031 114 3 (Ab Ak a)]) ((rJ b c a).m)
def wd(b:Scm)(c:Nat)(e:List ByteArray)(a:List Prb):PT 0 (Lv (Nat×List Prb) (List Prb) (List Prb)):=cl (ZZc e) fun d=>vz (fl a)<|lc (Ac [pp 1,pp 3,(4,vN c),(27,vB (!d))] [(DY b),(cJ a),kk 1031 114 3 (Ab Ak a)]) ((Bv ⟨#[]⟩ a (!d) (-1) 11).bind fun f=>(tg b c f).m)
def qW(b:Scm)(c:Nat)(d:List ByteArray)(a:List Prb):PT 0 (Lv (Nat×List Prb) (List Prb) (List Prb)):=vz (fl a)<|lc (Ac [pp 1,pp 3,(4,vN c),(5,vL Bp d)] [(DY b),(cJ a),kk 1031 114 3 (Ab Ak a)]) ((wd b c d a).m)
def xx(c:Scm)(d:Nat)(b:List Prb)(a:List ByteArray):PT 0 (Lv (Nat×List Prb) (List Prb) (List Prb)):=vz (Ai a)<|vz (fl b)<|lc (Ac [pp 1,pp 3,(4,vN d),(5,vL Bp a),(23,vB (decide ((64:Int)<(a.length:Int))))] [(DY c),(OL b),(OU b)]) ((Bv ⟨#[]⟩ b (decide ((64:Int)<(a.length:Int))) (-1) 3).bind fun e=>(qW c d a e).m)
def qS(b:Scm)(c:Nat)(a:List Prb):PT 0 (Lv (Nat×List Prb) (List Prb) (List Prb)):=wg<|cl (Sm b (c:Int)) fun d=>vz (fl a)<|lc (Ac [pp 1,pp 3,(4,vN c),(5,vL Bp d)] [(DY b),(OL a),(OU a)]) ((xx b c a d).m)
def sD(b:Scm)(c:Nat)(a:List Prb):PT 0 (Lv (Nat×List Prb) (List Prb) (List Prb)):=br (decide ((c:Int)≤(3:Int))) (vz (fl a)<|lc (Ac [pp 1,pp 3,(4,vN c)] [(DY b),(OL a),(OU a)]) ((qS b c a).m)) (vz (fl a)<|Af (qO b) a)
def WB(a:Scm):Nat×List Prb→Option (Lv (Nat×List Prb) (List Prb) (List Prb)):=fun(c,b)=>(sD a c b).m
def qZ(d:Scm)(c:List Bool):Nat×List Prb→St:=fun(b,a)=>Ac [(1,.iptr (Am d) 0),pp 3,(9,vL AO c),(10,vN b)] [kk 3 75 2 [vS ⟨#[]⟩,.ref (1,1031) 0 0 a.length],kk 1031 114 3 (Ab Ak a)]
def xc(b:Scm):List Prb→Nat×St:=fun a=>(2,Ac [(1,.iptr (Am b) 0),pp 3] [kk 3 75 2 [vS ⟨#[]⟩,.ref (1,1031) 0 0 a.length],kk 1031 114 3 (Ab Ak a)])
def Zb(e:Scm)(d:List Bool)(b:Nat)(a:List Prb)(c:List Prb):PT 0 (Lv (Nat×List Prb) (List Prb) (List Prb)):=vs (wa b 1)<|vz (fl (a++c))<|ln (qZ e d) (b+1,a++c)
def X7(e:Scm)(c:List Bool)(d:Nat)(b:List Prb):PT 0 (Lv (Nat×List Prb) (List Prb) (List Prb)):=ix e.messages d fun f=>tw (wg<|cl (ZXY e f c) fun a=>aq b a<|wg<|vz (fl (b++a))<|lc (Ac [(1,.iptr (Am e) 0),pp 3,(9,vL AO c),(10,vN d)] [kk 3 75 2 [vS ⟨#[]⟩,.ref (1,1031) 0 0 (b++a).length],kk 1031 114 3 (Ab Ak (b++a))]) ((Zb e c d b a).m)) (cl (ZXY e f c) fun a=>wg<|aq b a<|wg<|vz (fl (b++a))<|lc (Ac [(1,.iptr (Am e) 0),pp 3,(9,vL AO c),(10,vN d)] [kk 3 75 2 [vS ⟨#[]⟩,.ref (1,1031) 0 0 (b++a).length],kk 1031 114 3 (Ab Ak (b++a))]) ((Zb e c d b a).m))
def mn(c:Scm)(d:List Bool)(b:Nat)(a:List Prb):PT 0 (Lv (Nat×List Prb) (List Prb) (List Prb)):=vz (Ai c.messages)<|br (decide ((b:Int)<(c.messages.length:Int))) (vz (fl a)<|lc (Ac [(1,.iptr (Am c) 0),pp 3,(9,vL AO d),(10,vN b)] [kk 3 75 2 [vS ⟨#[]⟩,.ref (1,1031) 0 0 a.length],kk 1031 114 3 (Ab Ak a)]) ((X7 c d b a).m)) (vz (fl a)<|Af (xc c) a)
def WP(d:Scm)(c:List Bool):Nat×List Prb→Option (Lv (Nat×List Prb) (List Prb) (List Prb)):=fun(b,a)=>(mn d c b a).m
def tz(c:Scm):Nat×List Prb→St:=fun(b,a)=>Ac [(1,.iptr (Am c) 0),pp 3,(11,vN b)] [kk 3 75 2 [vS ⟨#[]⟩,.ref (1,1031) 0 0 a.length],kk 1031 114 3 (Ab Ak a)]
def ta(b:Scm):List Prb→Nat×St:=fun a=>(4,Ac [(1,.iptr (Am b) 0),pp 3] [kk 3 75 2 [vS ⟨#[]⟩,.ref (1,1031) 0 0 a.length],kk 1031 114 3 (Ab Ak a)])
def iN(d:Scm)(b:Nat)(a:List Prb)(c:List Prb):PT 0 (Lv (Nat×List Prb) (List Prb) (List Prb)):=vs (wa b 1)<|vz (fl (a++c))<|ln (tz d) (b+1,a++c)
def je(e:Scm)(c:Nat)(b:List Prb):PT 0 (Lv (Nat×List Prb) (List Prb) (List Prb)):=ix e.enums c fun d=>tw (wg<|cl (za d) fun a=>aq b a<|wg<|vz (fl (b++a))<|lc (Ac [(1,.iptr (Am e) 0),pp 3,(11,vN c)] [kk 3 75 2 [vS ⟨#[]⟩,.ref (1,1031) 0 0 (b++a).length],kk 1031 114 3 (Ab Ak (b++a))]) ((iN e c b a).m)) (cl (za d) fun a=>wg<|aq b a<|wg<|vz (fl (b++a))<|lc (Ac [(1,.iptr (Am e) 0),pp 3,(11,vN c)] [kk 3 75 2 [vS ⟨#[]⟩,.ref (1,1031) 0 0 (b++a).length],kk 1031 114 3 (Ab Ak (b++a))]) ((iN e c b a).m))
def mW(c:Scm)(b:Nat)(a:List Prb):PT 0 (Lv (Nat×List Prb) (List Prb) (List Prb)):=vz (Ai c.enums)<|br (decide ((b:Int)<(c.enums.length:Int))) (vz (fl a)<|lc (Ac [(1,.iptr (Am c) 0),pp 3,(11,vN b)] [kk 3 75 2 [vS ⟨#[]⟩,.ref (1,1031) 0 0 a.length],kk 1031 114 3 (Ab Ak a)]) ((je c b a).m)) (vz (fl a)<|Af (ta c) a)
def WE(c:Scm):Nat×List Prb→Option (Lv (Nat×List Prb) (List Prb) (List Prb)):=fun(b,a)=>(mW c b a).m
def ud(c:Scm):Nat×List Prb→St:=fun(b,a)=>Ac [(1,.iptr (Am c) 0),pp 3,(12,vN b)] [kk 3 75 2 [vS ⟨#[]⟩,.ref (1,1031) 0 0 a.length],kk 1031 114 3 (Ab Ak a)]
def ti:List Prb→Nat×St:=fun a=>(6,Ac [pp 3] [kk 3 75 2 [vS ⟨#[]⟩,.ref (1,1031) 0 0 a.length],kk 1031 114 3 (Ab Ak a)])
def hP(d:Scm)(b:Nat)(a:List Prb)(c:List Prb):PT 0 (Lv (Nat×List Prb) (List Prb) (List Prb)):=vs (wa b 1)<|vz (fl (a++c))<|ln (ud d) (b+1,a++c)
def ju(d:Scm)(c:Nat)(b:List Prb):PT 0 (Lv (Nat×List Prb) (List Prb) (List Prb)):=ix d.services c fun e=>tw (wg<|cl (ZXo d e) fun a=>aq b a<|wg<|vz (fl (b++a))<|lc (Ac [(1,.iptr (Am d) 0),pp 3,(12,vN c)] [kk 3 75 2 [vS ⟨#[]⟩,.ref (1,1031) 0 0 (b++a).length],kk 1031 114 3 (Ab Ak (b++a))]) ((hP d c b a).m)) (cl (ZXo d e) fun a=>wg<|aq b a<|wg<|vz (fl (b++a))<|lc (Ac [(1,.iptr (Am d) 0),pp 3,(12,vN c)] [kk 3 75 2 [vS ⟨#[]⟩,.ref (1,1031) 0 0 (b++a).length],kk 1031 114 3 (Ab Ak (b++a))]) ((hP d c b a).m))
def o5(c:Scm)(b:Nat)(a:List Prb):PT 0 (Lv (Nat×List Prb) (List Prb) (List Prb)):=vz (Ai c.services)<|br (decide ((b:Int)<(c.services.length:Int))) (vz (fl a)<|lc (Ac [(1,.iptr (Am c) 0),pp 3,(12,vN b)] [kk 3 75 2 [vS ⟨#[]⟩,.ref (1,1031) 0 0 a.length],kk 1031 114 3 (Ab Ak a)]) ((ju c b a).m)) (vz (fl a)<|Af (ti) a)
def Wr(c:Scm):Nat×List Prb→Option (Lv (Nat×List Prb) (List Prb) (List Prb)):=fun(b,a)=>(o5 c b a).m
def Zz4(a:List Prb):PT 0 (List Prb):=wg<|vz (fr a)<|lr LP nG a
def m6(c:Scm)(a:List Prb):PT 0 (List Prb):=vz (fl a)<|lc (Ac [(1,.iptr (Am c) 0),pp 3,(12,vI 0)] [kk 3 75 2 [vS ⟨#[]⟩,.ref (1,1031) 0 0 a.length],kk 1031 114 3 (Ab Ak a)]) ((Aj (Wr c) Ag (0,a)).bind (Sum.elim (fun b=>(Zz4 b).m) some))
def Zz3(b:Scm)(a:List Prb):PT 0 (List Prb):=vz (fl a)<|lc (Ac [(1,.iptr (Am b) 0),pp 3,(11,vI 0)] [kk 3 75 2 [vS ⟨#[]⟩,.ref (1,1031) 0 0 a.length],kk 1031 114 3 (Ab Ak a)]) ((Aj (WE b) Ag (0,a)).bind (Sum.elim (fun c=>(m6 b c).m) some))
def nr(c:Scm)(a:List Prb)(b:List Bool):PT 0 (List Prb):=vw (.fzb 1 [1])<|vz (fl a)<|lc (Ac [(1,.iptr (Am c) 0),pp 3,(9,vL AO b),(10,vI 0)] [(SA a),(SJ a)]) ((Aj (WP c b) Ag (0,a)).bind (Sum.elim (fun d=>(Zz3 c d).m) some))
def nh(c:Scm)(a:List Prb)(b:List Bool):PT 0 (List Prb):=vz (fl a)<|lc (Ac [pp 1,pp 3,(9,vL AO b),(10,vI 0)] [(DY c),(SA a),(SJ a)]) ((nr c a b).m)
def ob(c:Scm)(a:List Prb):PT 0 (List Prb):=wg<|cl (ZZl c) fun b=>vz (fl a)<|lc (Ac [pp 1,pp 3,(9,vL AO b)] [(DY c),(SA a),(SJ a)]) ((nh c a b).m)
def mw(b:Scm)(a:List Prb):PT 0 (List Prb):=vz (fl a)<|lc (Ac [pp 1,pp 3] [(DY b),(SA a),(SJ a)]) ((ob b a).m)
def mF(g:Scm)(e:List Prb)(h:List ByteArray)(i:List ByteArray)(c:List ByteArray):PT 0 (List Prb):=cl (cE h i) fun a=>AE (!a) (cE h c) fun b=>AE (!(a||b)) (cE i c) fun d=>vz (fl e)<|lc (Ac [pp 1,pp 3,(47,vB ((a||b)||d))] [(DY g),(Tp e),(Sr e)]) ((Bv ⟨#[]⟩ e ((a||b)||d) (-1) 9).bind fun f=>(mw g f).m)
def lx(a:Scm)(c:List Prb):PT 0 (List Prb):=wg<|cl (Sm a 1) fun d=>wg<|cl (Sm a 2) fun e=>wg<|cl (Sm a 3) fun b=>vz (fl c)<|lc (Ac [pp 1,pp 3,(6,vL Bp d),(7,vL Bp e),(8,vL Bp b)] [(DY a),(Tp c),(Sr c)]) ((mF a c d e b).m)
def l4(a:Scm):PT 0 (List Prb):=vw (.adc (1,3) 1 1031 114 3)<|vz (fl ([]:List Prb))<|lc (Ac [pp 1,pp 3,(4,vI 1)] [(DY a),kk 3 75 2 [vS ⟨#[]⟩,.ref (1,1031) 0 0 ([]:List Prb).length],kk 1031 114 3 (Ab Ak ([]:List Prb))]) ((Aj (WB a) Ag (1,([]:List Prb))).bind (Sum.elim (fun b=>(lx a b).m) some))
def pF(a:Scm):PT 0 (List Prb):=lc (Ac [pp 1,pp 3,(4,vI 1)] [(DY a),kk 3 75 2 [vS ⟨#[]⟩,.e0]]) ((l4 a).m)
def o6(a:Scm):PT 0 (List Prb):=wg<|lc (Ac [pp 1,pp 3] [(DY a),kk 3 75 2 [vS ⟨#[]⟩,.e0]]) ((pF a).m)
def dP(a:Scm):Option (List Prb):=(o6 a).m
theorem ZHO{C:Cx}(co:CO C 0)(b:Scm):KL Tryz.prog (As tl) 107 C (pa [0,0,1,0,1,1] (At Tryz.f16)) [.tmp 2] 0 (uM b) (qO b) LP nG (WB b):=fun(i,c) _ m Q e a L=>mJ co 1 (Aa [1,3,4] B3) (Aa [1,3] B3) a m L fun r g=>⟨fun _ m L=>sq (bk 1 (mJ co 1 (Aa [1,3,4,5] B3) nl a m L fun r g=>fun f=>fun _ m L=>sq (rg (pR co 3 (Aa [1,3,4,5,23] B3) m L fun r g=>fun _ m L=>Bm co m (BL ⟨#[]⟩ c (decide ((64:Int)<(f.length:Int))) (-1) 3) [(OL c),(OU c)] [] (fun z=>.tup []) (fun z=>[kk 3 75 2 [vS ⟨#[]⟩,.ref (1,1031) 0 0 z.length],kk 1031 114 3 (Ab Ak z)]) [] fun d m=>eR co (Aa [1,3,4,5] B3) m L fun r g=>fun _ m L=>rg (pR co 3 (Aa [1,3,4,27] B3) m L fun r g=>fun h=>fun _ m L=>Bm co m (BL ⟨#[]⟩ d (!h) (-1) 11) [(cJ d),kk 1031 114 3 (Ab Ak d)] [] (fun z=>.tup []) (fun z=>[kk 3 75 2 [vS ⟨#[]⟩,.ref (1,1031) 0 0 z.length],kk 1031 114 3 (Ab Ak z)]) [] fun j m=>eR co (Aa [1,3,4] B3) m L fun r g=>fun _ m L=>eN co (Aa [1,3,4] B3) nl a m L))))),id⟩
theorem ZHf{C:Cx}(co:CO C 0)(b:Scm)(a:List Bool):KL Tryz.prog (As tl) 107 C (pa [0,0,1,0,1,1,1,1,1,1,1,1] (At Tryz.f16)) [.tmp 2] 0 (qZ b a) (xc b) LP nG (WP b a):=fun(e,d) _ m Q i c L=>mJ co 1 (Aa [1,3,9,10] C1) (Aa [1,3] C1) c m L fun r g=>⟨fun _ m L=>sq (bk 3 (Gk co AS BM (.fst 0 (.fst 2 (.fst 3 (.fst 4 (.fst 5 (.fst 6 (.fst 8 (.fst 7 (.two 1 9 (.fst 9 (.fst 10 (.fst 11 (.fst 12 .nil)))) (.fst 1 (.fst 10 (.fst 11 (.fst 12 .nil))))))))))))) [1] (X7 b a e d) (Aa [1,3,9,10] C1) m L fun r g=>fun j=>⟨fun f=>fun _ m L=>eN co (Aa [1,3,9,10] C1) nl c m L,fun f=>fun _ m L=>eN co (Aa [1,3,9,10] C1) nl c m L,fun _ h=>h⟩)),id⟩
theorem ZIm{C:Cx}(co:CO C 0)(a:Scm):KL Tryz.prog (As tl) 107 C (pa [0,0,1,0,1,1,1,1,1,1,1,1,1] (At Tryz.f16)) [.tmp 2] 0 (tz a) (ta a) LP nG (WE a):=fun(d,c) _ m Q f b L=>mJ co 1 (Aa [1,3,11] C1) (Aa [1,3] C1) b m L fun r g=>⟨fun _ m L=>sq (bk 5 (Gk co AS BM (.fst 0 (.fst 2 (.fst 3 (.fst 4 (.fst 5 (.fst 6 (.two 1 7 (.fst 7 (.fst 8 (.fst 9 (.fst 10 .nil)))) (.fst 1 (.fst 8 (.fst 9 (.fst 10 .nil))))))))))) [1] (je a d c) (Aa [1,3,11] C1) m L fun r g=>fun i=>⟨fun e=>fun _ m L=>eN co (Aa [1,3,11] C1) nl b m L,fun e=>fun _ m L=>eN co (Aa [1,3,11] C1) nl b m L,fun _ h=>h⟩)),id⟩
theorem ZIe{C:Cx}(co:CO C 0)(b:Scm):KL Tryz.prog (As tl) 107 C (pa [0,0,1,0,1,1,1,1,1,1,1,1,1,1] (At Tryz.f16)) [.tmp 2] 0 (ud b) (ti) LP nG (Wr b):=fun(d,c) _ m Q f a L=>mJ co 1 (Aa [1,3,12] C1) (Aa [3] C1) a m L fun r g=>⟨fun _ m L=>sq (bk 7 (Gk co AS BM (.fst 0 (.fst 2 (.fst 3 (.fst 4 (.fst 5 (.fst 6 (.fst 7 (.two 1 8 (.fst 8 (.fst 9 (.fst 10 (.fst 11 .nil)))) (.fst 1 (.fst 9 (.fst 10 (.fst 11 .nil)))))))))))) [1] (ju b d c) (Aa [1,3,12] C1) m L fun r g=>fun i=>⟨fun e=>fun _ m L=>eN co (Aa [1,3,12] C1) nl a m L,fun e=>fun _ m L=>eN co (Aa [1,3,12] C1) nl a m L,fun _ h=>h⟩)),id⟩
theorem ZYg(a:Scm):KC Tryz.prog 16 [.agg ((Am a).map .d)] (dP a) LP:=kC Tryz.func16 Tryz.ntmps16 [.tmp 2] fun co m L=>mJ co 2 (Aa [1,3] [((1,1),false),((1,3),false)]) nl nH m L fun r g=>fun _ m L=>sq (mJ co 1 (Aa [1,3,4] [((1,1),false),((1,3),false)]) nl nH m L fun r g=>fun _ m L=>bk 0 (cM co (Aa [1,3,4] B3) m L fun r g=>fun _ m L=>lo (Ax (ZHO co a) nH m L (fun b m=>mJ co 3 (Aa [1,3,6,7,8] B3) nl nH m L fun r g=>fun n=>fun o=>fun k=>fun _ m L=>sq (rg (pR co 13 (Aa [1,3,47] B3) m L fun r g=>fun c=>fun d=>fun e=>fun _ m L=>Bm co m (BL ⟨#[]⟩ b ((c||d)||e) (-1) 9) [(Tp b),(Sr b)] [] (fun z=>.tup []) (fun z=>[kk 3 75 2 [vS ⟨#[]⟩,.ref (1,1031) 0 0 z.length],kk 1031 114 3 (Ab Ak z)]) [] fun l m=>eR co (Aa [1,3] B3) m L fun r g=>fun _ m L=>mJ co 1 (Aa [1,3,9] B3) nl nH m L fun r g=>fun f=>fun _ m L=>sq (mJ co 1 (Aa [1,3,9,10] B3) nl nH m L fun r g=>fun _ m L=>bk 2 (cM co (Aa [1,3,9,10] C1) m L fun r g=>fun _ m L=>lo (Ax (ZHf co a f) nH m L (fun h m=>sq (mJ co 1 (Aa [1,3,11] C1) nl nH m L fun r g=>fun _ m L=>bk 4 (lo (Ax (ZIm co a) nH m L (fun i m=>sq (mJ co 1 (Aa [1,3,12] C1) nl nH m L fun r g=>fun _ m L=>bk 6 (lo (Ax (ZIe co a) nH m L (fun j m=>fO co m L))))))))))))))))))
abbrev E5:Bool→AV:=fun y=>vB y
def y1(b:Scm):PT 0 (Bool):=wg<|cl (ZYg b) fun a=>vz (Ai a)<|lr E5 nG (decide ((a.length:Int)=(0:Int)))
def Tz(a:Scm):Option (Bool):=(y1 a).m
theorem K_5(a:Scm):KC Tryz.prog 5 [.agg ((Am a).map .d)] (Tz a) E5:=kC Tryz.func5 Tryz.ntmps5 [.tmp 2] fun co m L=>fO co m L
abbrev Dl:List (Ad×Bool):=[((1,4),false)]
abbrev SN:Ad×Blk:=kk 4 56 5 [vS ⟨#[]⟩,.e0,.e0,.e0,.e0]
abbrev RF:Msg×Bool→AV:=fun y=>.tup [.agg ((AH y.1).map .d),vB y.2]
def kF(a:Msg→Option Bool):Cl:=fun no l H θ=>(∀(z0:Msg) y,a z0=some y→CJ Tryz.prog l no H (θ 1) [.agg ((AH z0).map .d)] (vB y))
def pO(a:List Msg):Nat→St:=fun b=>Ac [(1,.fn (.yield 1) [] []),pp 4,(9,vL AH a),(10,vN a.length),(11,vN b)] [SN]
def uf:Unit→Nat×St:=fun _=>(0,Ac [pp 4] [SN])
def aj(c:List Msg)(d:Msg→Option Bool)(a:Nat):PT 0 (Lv (Nat) (Unit) (Msg×Bool)):=br (decide ((a:Int)<(c.length:Int))) (ix c a fun b=>wg<|wg<|cf Tryz.prog 1 [.agg ((AH b).map .d)] (d b) (fun y=>vB y) fun e=>br e (wg<|wg<|Ar RF nG (b,true)) (vs (wa a 1)<|ln (pO c) (a+1))) (Af (uf) ())
def QC(b:List Msg)(a:Msg→Option Bool):Nat→Option (Lv (Nat) (Unit) (Msg×Bool)):=fun c=>(aj b a c).m
def xV:PT 0 (Msg×Bool):=wg<|wg<|lr RF nG ((.mk ⟨#[]⟩ [] [] [] []:Msg),false)
def vP(a:List Msg)(b:Msg→Option Bool):PT 0 (Msg×Bool):=vz (Ai a)<|lc (Ac [(1,.fn (.yield 1) [] []),pp 4,(9,vL AH a),(10,vN a.length),(11,vI 0)] [SN]) ((Aj (QC a b) Ag 0).bind (Sum.elim (fun _=>(xV).m) some))
def ym(b:List Msg)(a:Msg→Option Bool):PT 0 (Msg×Bool):=lc (Ac [(0,vL AH b),(1,.fn (.yield 1) [] []),pp 4] [SN]) ((vP b a).m)
def Tv(b:List Msg)(a:Msg→Option Bool):Option (Msg×Bool):=(ym b a).m
theorem ZG9{C:Cx}(co:CO C 0)(c:List Msg)(a:Msg→Option Bool)(e:(kF a) C.no C.l C.H0 C.θ):KL Tryz.prog (As tl) 21 C (pa [0,0,1,0,1] (At Tryz.f72)) [.cell 4 56,.tmp 5] 0 (pO c) (uf) RF nG (QC c a):=fun h _ m Q b d L=>eN co (Aa [1,4,9,10,11] Dl) (Aa [4] Dl) d m L fun r g=>⟨fun f=>⟨⟨fun y hy=>e _ y hy,by intro r;kernel_rfl,by intro r y;kernel_rfl⟩,fun i=>⟨id,id⟩⟩,id⟩
theorem ZYU(b:List Msg)(a:Msg→Option Bool):KO Tryz.prog 72 0 [vL AH b,.fn (.yield 1) [] []] [] (kF a) (Tv b a) RF nG:=kO Tryz.func72 Tryz.ntmps72 [.cell 4 56,.tmp 5] 0 (fun co c m L=>mJ co 1 (Aa [0,1,4] Dl) nl nH m L fun r g=>fun _ m L=>sq (mJ co 1 (Aa [1,4,9,10,11] Dl) nl nH m L fun r g=>fun _ m L=>bk 0 (lo (Ax (ZG9 co b a c) nH m L (fun _ m=>fO co m L)))))
abbrev kl:Bool→AV:=fun y=>vB y
@[reducible] def kz(w0:ByteArray):Bool→List Blk:=fun y=>[⟨0,true,9,1,[vS w0]⟩]
def ZU5(a:Msg)(w0:ByteArray):PT 1 (Bool):=wg<|wg<|lr kl (kz w0) (decide (a.name=w0))
def MK(a:Msg)(w0:ByteArray):Option (Bool):=(ZU5 a w0).m
theorem ZY4(a:Msg)(w0:ByteArray):KO Tryz.prog 73 1 [.agg ((AH a).map .d),.ptr (0,0) 0 0] [⟨0,true,9,1,[vS w0]⟩] (fun _ _ _ _=>True) (MK a w0) kl (kz w0):=kO Tryz.func73 Tryz.ntmps73 [.tmp 3] 1 (fun co b m L=>fO co m L)
abbrev j8:Msg×Bool→AV:=fun y=>.tup [.agg ((AH y.1).map .d),vB y.2]
def wG(a:Scm)(b:ByteArray):PT 0 (Msg×Bool):=wg<|cs Tryz.prog 72 [vL AH a.messages,.fn (.func 73) [] [.ptr (1,3) 1 0]] [(1,3)] [((1,3),⟨1,true,9,1,[vS b]⟩)] (Tv a.messages (fun(z0:Msg)=>MK z0 b)) (fun y=>.tup [.agg ((AH y.1).map .d),vB y.2]) fun c=>wg<|lr j8 nG (c.1,c.2)
def TK(a:Scm)(b:ByteArray):Option (Msg×Bool):=(wG a b).m
theorem ZZq(b:Scm)(a:ByteArray):KC Tryz.prog 36 [.agg ((Am b).map .d),vS a] (TK b a) j8:=DO Tryz.func36 Tryz.ntmps36 AS [.cell 4 56,.tmp 5] fun C co y m c L=>fO co m L fun r g=>⟨fun y hy=>HY (ZYU b.messages (fun(z0:Msg)=>MK z0 a)) hy co g [] [((1,3),⟨1,true,9,1,[vS a]⟩)] (AA [(1,.fn (.func 73) [] [.ptr (r.κ (1,3)) (r.γ (1,3)+1) 0])]) (fun f d h=>(fun z0 y e=>Ls (ZY4 z0 a) e co g [((1,3),⟨1,true,9,1,[vS a]⟩)] [] d (by simp) (fun _=>.top) (fun _ _=>trivial) (fun l H=>⟨fun _=>⟨rfl,by kernel_rfl⟩,by kernel_rfl,trivial⟩))) (fun H=>trivial),fun i=>id⟩
abbrev RH:Int→AV:=fun y=>vI y
def kG(a:Slt→Option Bool):Cl:=fun no l H θ=>(∀(z0:Slt) y,a z0=some y→CJ Tryz.prog l no H (θ 1) [.agg ((Dk z0).map .d)] (vB y))
def vJ(a:List Slt):Nat→St:=fun b=>Ac [(0,vL Ap a),(1,.fn (.yield 1) [] []),(7,vN a.length),(8,vN b)] []
def q9:Unit→Nat×St:=fun _=>(0,Ac [] [])
def ac(b:List Slt)(c:Slt→Option Bool)(a:Nat):PT 0 (Lv (Nat) (Unit) (Int)):=br (decide ((a:Int)<(b.length:Int))) (ix b a fun d=>cf Tryz.prog 1 [.agg ((Dk d).map .d)] (c d) (fun y=>vB y) fun e=>br e (Ar RH nG (a:Int)) (vs (wa a 1)<|ln (vJ b) (a+1))) (Af (q9) ())
def QR(b:List Slt)(a:Slt→Option Bool):Nat→Option (Lv (Nat) (Unit) (Int)):=fun c=>(ac b a c).m
def w9:PT 0 (Int):=lr RH nG (-1)
def yg(a:List Slt)(b:Slt→Option Bool):PT 0 (Int):=vz (Ai a)<|lc (Ac [(0,vL Ap a),(1,.fn (.yield 1) [] []),(7,vN a.length),(8,vI 0)] []) ((Aj (QR a b) Ag 0).bind (Sum.elim (fun _=>(w9).m) some))
def yP(b:List Slt)(a:Slt→Option Bool):PT 0 (Int):=lc (Ac [(0,vL Ap b),(1,.fn (.yield 1) [] [])] []) ((yg b a).m)
def TN(b:List Slt)(a:Slt→Option Bool):Option (Int):=(yP b a).m
theorem ZEL{C:Cx}(co:CO C 0)(c:List Slt)(a:Slt→Option Bool)(e:(kG a) C.no C.l C.H0 C.θ):KL Tryz.prog (As tl) 19 C (pa [0,0,1,0,1] (At Tryz.f74)) [.tmp 4] 0 (vJ c) (q9) RH nG (QR c a):=fun h _ m Q b d L=>eN co (AD [0,1,7,8]) nl d m L fun r g=>⟨fun f=>⟨⟨fun y hy=>e _ y hy,by intro r;kernel_rfl,by intro r y;kernel_rfl⟩,fun i=>⟨id,id⟩⟩,id⟩
theorem ZZE(b:List Slt)(a:Slt→Option Bool):KO Tryz.prog 74 0 [vL Ap b,.fn (.yield 1) [] []] [] (kG a) (TN b a) RH nG:=kO Tryz.func74 Tryz.ntmps74 [.tmp 4] 0 (fun co c m L=>mJ co 1 (AD [0,1]) nl nH m L fun r g=>fun _ m L=>sq (mJ co 1 (AD [0,1,7,8]) nl nH m L fun r g=>fun _ m L=>bk 0 (lo (Ax (ZEL co b a c) nH m L (fun _ m=>fO co m L)))))
abbrev Wu:Int→AV:=fun y=>vI y
@[reducible] def V5(a:List Slt):Int→List Blk:=fun y=>[⟨0,true,58,8,Ab Ap a⟩]
def wt(a:Slt→Option Bool):Cl:=fun no l H θ=>(∀(z0:Slt) y,a z0=some y→CJ Tryz.prog l no H (θ 1) [.agg ((Dk z0).map .d)] (vB y))
def ZuX(a:List Slt):Nat→St:=fun b=>Ac [(0,.ref (0,0) 0 0 a.length),(1,.fn (.yield 1) [] []),(7,vN a.length),(8,vN b)] [((0,0),⟨0,true,58,8,Ab Ap a⟩)]
def ZrM(a:List Slt):Unit→Nat×St:=fun _=>(0,Ac [] [((0,0),⟨0,true,58,8,Ab Ap a⟩)])
def UN(a:List Slt)(c:Slt→Option Bool)(b:Nat):PT 1 (Lv (Nat) (Unit) (Int)):=br (decide ((b:Int)<(a.length:Int))) (vs (ir b a.length 8)<|ca a b fun d=>cf Tryz.prog 1 [.agg ((Dk d).map .d)] (c d) (fun y=>vB y) fun e=>br e (Ar Wu (V5 a) (b:Int)) (vs (wa b 1)<|vz (fl a)<|ln (ZuX a) (b+1))) (vz (fl a)<|Af (ZrM a) ())
def UK(b:List Slt)(a:Slt→Option Bool):Nat→Option (Lv (Nat) (Unit) (Int)):=fun c=>(UN b a c).m
def Uy(a:List Slt):PT 1 (Int):=lr Wu (V5 a) (-1)
def UG(a:List Slt)(b:Slt→Option Bool):PT 1 (Int):=vz (Br a.length)<|vz (fl a)<|lc (Ac [(0,.ref (0,0) 0 0 a.length),(1,.fn (.yield 1) [] []),(7,vN a.length),(8,vI 0)] [((0,0),⟨0,true,58,8,Ab Ap a⟩)]) ((Aj (UK a b) Ag 0).bind (Sum.elim (fun _=>(Uy a).m) some))
def UB(a:List Slt)(b:Slt→Option Bool):PT 1 (Int):=vz (fl a)<|lc (Ac [(0,.ref (0,0) 0 0 a.length),(1,.fn (.yield 1) [] [])] [((0,0),⟨0,true,58,8,Ab Ap a⟩)]) ((UG a b).m)
def Pd(b:List Slt)(a:Slt→Option Bool):Option (Int):=(UB b a).m
theorem ZrO{C:Cx}(co:CO C 1)(b:List Slt)(a:Slt→Option Bool)(e:(wt a) C.no C.l C.H0 C.θ):KL Tryz.prog (As tl) 19 C (pa [0,0,1,0,1] (At Tryz.f74)) [.tmp 4] 1 (ZuX b) (ZrM b) Wu (V5 b) (UK b a):=fun h _ m Q c d L=>eN co (Aa [0,1,7,8] Ah) (Aa [] Ah) d m L fun r g=>⟨fun f=>⟨⟨fun y hy=>e _ y hy,by intro r;kernel_rfl,by intro r y;kernel_rfl⟩,fun i=>⟨id,id⟩⟩,id⟩
theorem mE(b:List Slt)(a:Slt→Option Bool):KO Tryz.prog 74 1 [.ref (0,0) 0 0 b.length,.fn (.yield 1) [] []] [⟨0,true,58,8,Ab Ap b⟩] (wt a) (Pd b a) Wu (V5 b):=kO Tryz.func74 Tryz.ntmps74 [.tmp 4] 1 (fun co c m L=>mJ co 1 (Aa [0,1] Ah) nl nH m L fun r g=>fun _ m L=>sq (mJ co 1 (Aa [0,1,7,8] Ah) nl nH m L fun r g=>fun _ m L=>bk 0 (lo (Ax (ZrO co b a c) nH m L (fun _ m=>fO co m L)))))
abbrev OE(a:List Slt):Ad×Blk:=((0,0),⟨0,true,58,8,Ab Ap a⟩)
abbrev Xk:List Slt→AV:=fun y=>.ref (0,0) 0 0 y.length
@[reducible] def Xr:List Slt→List Blk:=fun y=>[⟨0,true,58,8,Ab Ap y⟩]
def kE(a:Slt→Option Bool):Cl:=fun no l H θ=>(∀(z0:Slt) y,a z0=some y→CJ Tryz.prog l no H (θ 1) [.agg ((Dk z0).map .d)] (vB y))
def a5(a:List Slt):Int×Int×List Slt→St:=fun(v2,v3,b)=>Ac [(0,.ref (0,0) 0 0 a.length),(1,.fn (.yield 1) [] []),(5,vI v2),(6,vI v3)] [((0,0),⟨0,true,58,8,Ab Ap b⟩)]
def uv(a:List Slt):Int×List Slt→Nat×St:=fun(c,b)=>(0,Ac [(0,.ref (0,0) 0 0 a.length),(5,vI c)] [((0,0),⟨0,true,58,8,Ab Ap b⟩)])
def bm(b:List Slt)(d:Slt→Option Bool)(v2:Int)(v3:Int)(a:List Slt):PT 1 (Lv (Int×Int×List Slt) (Int×List Slt) (List Slt)):=vz (Br b.length)<|br (decide (v3<(b.length:Int))) (vs (Az v3 b.length 8)<|ca a v3.toNat fun c=>wg<|wg<|cf Tryz.prog 1 [.agg ((Dk c).map .d)] (d c) (fun y=>vB y) fun e=>br (!e) (wg<|vs (Az v2 b.length 8)<|vs (st a v2.toNat c)<|BP 0 ((Rw.f (c:Slt)).map .d) (fun _=>Hl _)<|vs (wi (v2+1))<|vs (wi (v3+1))<|vz (fl (a.set v2.toNat c))<|ln (a5 b) ((v2+1),(v3+1),a.set v2.toNat c)) (vs (wi (v3+1))<|vz (fl a)<|ln (a5 b) (v2,(v3+1),a))) (vz (fl a)<|Af (uv b) (v2,a))
def QT(b:List Slt)(a:Slt→Option Bool):Int×Int×List Slt→Option (Lv (Int×Int×List Slt) (Int×List Slt) (List Slt)):=fun(v2,v3,c)=>(bm b a v2 v3 c).m
def vr(c:List Slt)(a:Int)(b:List Slt):PT 1 (List Slt):=sR c.length 0 (.it a) .no<|cr b (0+a.toNat) (c.length-a.toNat) [vI 0,vI 0,.d (.int .u64 0),vS ⟨#[]⟩,.e0,.e0,.e0,.e0]<|BP 0 ([vI 0,vI 0,.d (.int .u64 0),vS ⟨#[]⟩,.e0,.e0,.e0,.e0]) (fun _=>Ztm (by kernel_rfl))<|Kh 0 b (0+a.toNat) (c.length-a.toNat) [vI 0,vI 0,.d (.int .u64 0),vS ⟨#[]⟩,.e0,.e0,.e0,.e0]<|vw .sep<|sR c.length 0 .no (.it a)<|Es (a.toNat=(b.take (0+a.toNat)).length) (fun E=>E.P (.ref (0,0) 0 0 a.toNat) ([⟨0,true,58,8,Ab Ap (b.take (0+a.toNat))⟩])) (b.take (0+a.toNat))
def wr(a:List Slt)(c:Slt→Option Bool)(b:Int):PT 1 (List Slt):=vs (wi (b+1))<|vz (fl a)<|lc (Ac [(0,.ref (0,0) 0 0 a.length),(1,.fn (.yield 1) [] []),(5,vI b),(6,vI (b+1))] [(OE a)]) ((Aj (QT a c) Ag (b,(b+1),a)).bind (Sum.elim (fun(e,d)=>(vr a e d).m) some))
def qE(a:List Slt)(b:Slt→Option Bool):PT 1 (List Slt):=cs Tryz.prog 74 [.ref (0,0) 0 0 a.length,.fn (.yield 1) [] []] [(0,0)] [(OE a)] (Pd a b) (fun y=>vI y) fun c=>br (decide (c=((-1):Int))) (lr Xk (Xr) a) (vz (fl a)<|lc (Ac [(0,.ref (0,0) 0 0 a.length),(1,.fn (.yield 1) [] []),(5,vI c)] [(OE a)]) ((wr a b c).m))
def Pp(b:List Slt)(a:Slt→Option Bool):Option (List Slt):=(qE b a).m
theorem ZGU{C:Cx}(co:CO C 1)(b:List Slt)(a:Slt→Option Bool)(e:(kE a) C.no C.l C.H0 C.θ):KL Tryz.prog (As tl) 42 C (pa [0,0,1,0,1,1,1] (At Tryz.f37)) [.tmp 4] 1 (a5 b) (uv b) Xk (Xr) (QT b a):=fun(v2,v3,h) _ m Q c d L=>eN co (Aa [0,1,5,6] Ah) (Aa [0,5] Ah) d m L fun r g=>⟨fun f=>⟨⟨fun y hy=>e _ y hy,by intro r;kernel_rfl,by intro r y;kernel_rfl⟩,fun i=>⟨id,id⟩⟩,id⟩
theorem ZYP(b:List Slt)(a:Slt→Option Bool):KO Tryz.prog 37 1 [.ref (0,0) 0 0 b.length,.fn (.yield 1) [] []] [⟨0,true,58,8,Ab Ap b⟩] (kE a) (Pp b a) Xk (Xr):=EV Tryz.func37 Tryz.ntmps37 AS [.tmp 4] 1 (fun C co d y m c L=>mJ co 3 (Aa [0,1,5] Ah) nl nH m L fun r g=>⟨fun y hy=>HY (mE b a) hy co g [(OE b)] [] (AA [(1,r.θ 1)]) (fun i j e=>(fun z0 y f=>Bx co g [(OE b)] e (d z0 y f))) (fun H=>⟨fun _=>⟨rfl,bz⟩,by kernel_rfl,trivial⟩),fun o=>⟨id,fun _ m L=>sq (mJ co 1 (Aa [0,1,5,6] Ah) nl nH m L fun r g=>fun _ m L=>bk 0 (lo (Ax (ZGU co b a d) nH m L (fun(l,k) m=>fO co m L fun r g=>fun h L=>lfx (congrArg (fun n=>(.ref (0,0) 0 0 n:AV)) h) L))))⟩⟩)
abbrev To:Ad×Blk:=kk 4 51 16 [vI 0,vS ⟨#[]⟩,vI 0,vI 0,vI 0,vS ⟨#[]⟩,vS ⟨#[]⟩,vB false,vI 0,.d (.int .u64 0),vS ⟨#[]⟩,.e0,.e0,.e0,.e0,.e0]
abbrev RI:Fld×Bool→AV:=fun y=>.tup [.agg ((Av y.1).map .d),vB y.2]
def kH(a:Fld→Option Bool):Cl:=fun no l H θ=>(∀(z0:Fld) y,a z0=some y→CJ Tryz.prog l no H (θ 1) [.agg ((Av z0).map .d)] (vB y))
def xj(a:List Fld):Nat→St:=fun b=>Ac [(1,.fn (.yield 1) [] []),pp 4,(9,vL Av a),(10,vN a.length),(11,vN b)] [To]
def yu:Unit→Nat×St:=fun _=>(0,Ac [pp 4] [To])
def ZQ(c:List Fld)(d:Fld→Option Bool)(a:Nat):PT 0 (Lv (Nat) (Unit) (Fld×Bool)):=br (decide ((a:Int)<(c.length:Int))) (ix c a fun b=>wg<|wg<|cf Tryz.prog 1 [.agg ((Av b).map .d)] (d b) (fun y=>vB y) fun e=>br e (wg<|wg<|Ar RI nG (b,true)) (vs (wa a 1)<|ln (xj c) (a+1))) (Af (yu) ())
def QU(b:List Fld)(a:Fld→Option Bool):Nat→Option (Lv (Nat) (Unit) (Fld×Bool)):=fun c=>(ZQ b a c).m
def sW:PT 0 (Fld×Bool):=wg<|wg<|lr RI nG ((.mk 0 ⟨#[]⟩ 0 0 (.mk 0 ⟨#[]⟩:Typ) ⟨#[]⟩ false (.mk 0 0 ⟨#[]⟩ [] [] [] []:Val) []:Fld),false)
def ut(a:List Fld)(b:Fld→Option Bool):PT 0 (Fld×Bool):=vz (Ai a)<|lc (Ac [(1,.fn (.yield 1) [] []),pp 4,(9,vL Av a),(10,vN a.length),(11,vI 0)] [To]) ((Aj (QU a b) Ag 0).bind (Sum.elim (fun _=>(sW).m) some))
def vd(b:List Fld)(a:Fld→Option Bool):PT 0 (Fld×Bool):=lc (Ac [(0,vL Av b),(1,.fn (.yield 1) [] []),pp 4] [To]) ((ut b a).m)
def TA(b:List Fld)(a:Fld→Option Bool):Option (Fld×Bool):=(vd b a).m
theorem ZFQ{C:Cx}(co:CO C 0)(c:List Fld)(a:Fld→Option Bool)(e:(kH a) C.no C.l C.H0 C.θ):KL Tryz.prog (As tl) 21 C (pa [0,0,1,0,1] (At Tryz.f75)) [.cell 4 51,.tmp 5] 0 (xj c) (yu) RI nG (QU c a):=fun h _ m Q b d L=>eN co (Aa [1,4,9,10,11] Dl) (Aa [4] Dl) d m L fun r g=>⟨fun f=>⟨⟨fun y hy=>e _ y hy,by intro r;kernel_rfl,by intro r y;kernel_rfl⟩,fun i=>⟨id,id⟩⟩,id⟩
theorem ZYK(b:List Fld)(a:Fld→Option Bool):KO Tryz.prog 75 0 [vL Av b,.fn (.yield 1) [] []] [] (kH a) (TA b a) RI nG:=kO Tryz.func75 Tryz.ntmps75 [.cell 4 51,.tmp 5] 0 (fun co c m L=>mJ co 1 (Aa [0,1,4] Dl) nl nH m L fun r g=>fun _ m L=>sq (mJ co 1 (Aa [1,4,9,10,11] Dl) nl nH m L fun r g=>fun _ m L=>bk 0 (lo (Ax (ZFQ co b a c) nH m L (fun _ m=>fO co m L)))))
abbrev km:Bool→AV:=fun y=>vB y
@[reducible] def kA(w0:Int):Bool→List Blk:=fun y=>[⟨0,true,3,1,[vI w0]⟩]
def ZT8(a:Fld)(w0:Int):PT 1 (Bool):=wg<|wg<|lr km (kA w0) (decide (a.num=w0))
def MN(a:Fld)(w0:Int):Option (Bool):=(ZT8 a w0).m
theorem ZY0(a:Fld)(w0:Int):KO Tryz.prog 76 1 [.agg ((Av a).map .d),.ptr (0,0) 0 0] [⟨0,true,3,1,[vI w0]⟩] (fun _ _ _ _=>True) (MN a w0) km (kA w0):=kO Tryz.func76 Tryz.ntmps76 [.tmp 3] 1 (fun co b m L=>fO co m L)
abbrev ka:Fld×Bool→AV:=fun y=>.tup [.agg ((Av y.1).map .d),vB y.2]
def wP(a:Msg)(b:Int):PT 0 (Fld×Bool):=wg<|cs Tryz.prog 75 [vL Av a.fields,.fn (.func 76) [] [.ptr (1,3) 1 0]] [(1,3)] [((1,3),⟨1,true,3,1,[vI b]⟩)] (TA a.fields (fun(z0:Fld)=>MN z0 b)) (fun y=>.tup [.agg ((Av y.1).map .d),vB y.2]) fun c=>wg<|lr ka nG (c.1,c.2)
def fd(a:Msg)(b:Int):Option (Fld×Bool):=(wP a b).m
theorem zN(b:Msg)(a:Int):KC Tryz.prog 39 [.agg ((AH b).map .d),vI a] (fd b a) ka:=DO Tryz.func39 Tryz.ntmps39 AS [.cell 4 51,.tmp 5] fun C co y m c L=>fO co m L fun r g=>⟨fun y hy=>HY (ZYK b.fields (fun(z0:Fld)=>MN z0 a)) hy co g [] [((1,3),⟨1,true,3,1,[vI a]⟩)] (AA [(1,.fn (.func 76) [] [.ptr (r.κ (1,3)) (r.γ (1,3)+1) 0])]) (fun f d h=>(fun z0 y e=>Ls (ZY0 z0 a) e co g [((1,3),⟨1,true,3,1,[vI a]⟩)] [] d (by simp) (fun _=>.top) (fun _ _=>trivial) (fun l H=>⟨fun _=>⟨rfl,by kernel_rfl⟩,by kernel_rfl,trivial⟩))) (fun H=>trivial),fun i=>id⟩
abbrev Sy:Int→AV:=fun y=>vI y
def ZXX(a:Fld→Option Bool):Cl:=fun no l H θ=>(∀(z0:Fld) y,a z0=some y→CJ Tryz.prog l no H (θ 1) [.agg ((Av z0).map .d)] (vB y))
def ZzM(a:List Fld):Nat→St:=fun b=>Ac [(0,vL Av a),(1,.fn (.yield 1) [] []),(7,vN a.length),(8,vN b)] []
def ZzV:Unit→Nat×St:=fun _=>(0,Ac [] [])
def iy(b:List Fld)(c:Fld→Option Bool)(a:Nat):PT 0 (Lv (Nat) (Unit) (Int)):=br (decide ((a:Int)<(b.length:Int))) (ix b a fun d=>cf Tryz.prog 1 [.agg ((Av d).map .d)] (c d) (fun y=>vB y) fun e=>br e (Ar Sy nG (a:Int)) (vs (wa a 1)<|ln (ZzM b) (a+1))) (Af (ZzV) ())
def P7(b:List Fld)(a:Fld→Option Bool):Nat→Option (Lv (Nat) (Unit) (Int)):=fun c=>(iy b a c).m
def ny:PT 0 (Int):=lr Sy nG (-1)
def m0(a:List Fld)(b:Fld→Option Bool):PT 0 (Int):=vz (Ai a)<|lc (Ac [(0,vL Av a),(1,.fn (.yield 1) [] []),(7,vN a.length),(8,vI 0)] []) ((Aj (P7 a b) Ag 0).bind (Sum.elim (fun _=>(ny).m) some))
def me(b:List Fld)(a:Fld→Option Bool):PT 0 (Int):=lc (Ac [(0,vL Av b),(1,.fn (.yield 1) [] [])] []) ((m0 b a).m)
def eH(b:List Fld)(a:Fld→Option Bool):Option (Int):=(me b a).m
theorem ZyO{C:Cx}(co:CO C 0)(c:List Fld)(a:Fld→Option Bool)(e:(ZXX a) C.no C.l C.H0 C.θ):KL Tryz.prog (As tl) 19 C (pa [0,0,1,0,1] (At Tryz.f105)) [.tmp 4] 0 (ZzM c) (ZzV) Sy nG (P7 c a):=fun h _ m Q b d L=>eN co (AD [0,1,7,8]) nl d m L fun r g=>⟨fun f=>⟨⟨fun y hy=>e _ y hy,by intro r;kernel_rfl,by intro r y;kernel_rfl⟩,fun i=>⟨id,id⟩⟩,id⟩
theorem ZUZ(b:List Fld)(a:Fld→Option Bool):KO Tryz.prog 105 0 [vL Av b,.fn (.yield 1) [] []] [] (ZXX a) (eH b a) Sy nG:=kO Tryz.func105 Tryz.ntmps105 [.tmp 4] 0 (fun co c m L=>mJ co 1 (AD [0,1]) nl nH m L fun r g=>fun _ m L=>sq (mJ co 1 (AD [0,1,7,8]) nl nH m L fun r g=>fun _ m L=>bk 0 (lo (Ax (ZyO co b a c) nH m L (fun _ m=>fO co m L)))))
abbrev kn:Bool→AV:=fun y=>vB y
def H77(a:Fld→Option Bool):Cl:=fun no l H θ=>(∀(z0:Fld) y,a z0=some y→CJ Tryz.prog l no H (θ 1) [.agg ((Av z0).map .d)] (vB y))
def um(b:List Fld)(a:Fld→Option Bool):PT 0 (Bool):=cs Tryz.prog 105 [vL Av b,.fn (.yield 1) [] []] [] [] (eH b a) (fun y=>vI y) fun c=>lr kn nG (decide ((0:Int)≤c))
def Tu(b:List Fld)(a:Fld→Option Bool):Option (Bool):=(um b a).m
theorem ZY5(b:List Fld)(a:Fld→Option Bool):KO Tryz.prog 77 0 [vL Av b,.fn (.yield 1) [] []] [] (H77 a) (Tu b a) kn nG:=EV Tryz.func77 Tryz.ntmps77 AS [.tmp 4] 0 (fun C co d y m c L=>fO co m L fun r g=>⟨fun y hy=>HY (ZUZ b a) hy co g [] [] (AA [(1,r.θ 1)]) (fun h i e=>(fun z0 y f=>Bx co g [] e (d z0 y f))) (fun H=>trivial),fun j=>id⟩)
abbrev Vl:Int→AV:=fun y=>vI y
@[reducible] def Vc(a:List Fld):Int→List Blk:=fun y=>[⟨0,true,51,16,Ab Av a⟩]
def mD(a:Fld→Option Bool):Cl:=fun no l H θ=>(∀(z0:Fld) y,a z0=some y→CJ Tryz.prog l no H (θ 1) [.agg ((Av z0).map .d)] (vB y))
def ZnF(a:List Fld):Nat→St:=fun b=>Ac [(0,.ref (0,0) 0 0 a.length),(1,.fn (.yield 1) [] []),(7,vN a.length),(8,vN b)] [((0,0),⟨0,true,51,16,Ab Av a⟩)]
def ZoX(a:List Fld):Unit→Nat×St:=fun _=>(0,Ac [] [((0,0),⟨0,true,51,16,Ab Av a⟩)])
def Us(a:List Fld)(c:Fld→Option Bool)(b:Nat):PT 1 (Lv (Nat) (Unit) (Int)):=br (decide ((b:Int)<(a.length:Int))) (vs (ir b a.length 16)<|ca a b fun d=>cf Tryz.prog 1 [.agg ((Av d).map .d)] (c d) (fun y=>vB y) fun e=>br e (Ar Vl (Vc a) (b:Int)) (vs (wa b 1)<|vz (fl a)<|ln (ZnF a) (b+1))) (vz (fl a)<|Af (ZoX a) ())
def Ue(b:List Fld)(a:Fld→Option Bool):Nat→Option (Lv (Nat) (Unit) (Int)):=fun c=>(Us b a c).m
def Uc(a:List Fld):PT 1 (Int):=lr Vl (Vc a) (-1)
def Uk(a:List Fld)(b:Fld→Option Bool):PT 1 (Int):=vz (Br a.length)<|vz (fl a)<|lc (Ac [(0,.ref (0,0) 0 0 a.length),(1,.fn (.yield 1) [] []),(7,vN a.length),(8,vI 0)] [((0,0),⟨0,true,51,16,Ab Av a⟩)]) ((Aj (Ue a b) Ag 0).bind (Sum.elim (fun _=>(Uc a).m) some))
def Ul(a:List Fld)(b:Fld→Option Bool):PT 1 (Int):=vz (fl a)<|lc (Ac [(0,.ref (0,0) 0 0 a.length),(1,.fn (.yield 1) [] [])] [((0,0),⟨0,true,51,16,Ab Av a⟩)]) ((Uk a b).m)
def TC(b:List Fld)(a:Fld→Option Bool):Option (Int):=(Ul b a).m
theorem ZpB{C:Cx}(co:CO C 1)(b:List Fld)(a:Fld→Option Bool)(e:(mD a) C.no C.l C.H0 C.θ):KL Tryz.prog (As tl) 19 C (pa [0,0,1,0,1] (At Tryz.f105)) [.tmp 4] 1 (ZnF b) (ZoX b) Vl (Vc b) (Ue b a):=fun h _ m Q c d L=>eN co (Aa [0,1,7,8] Ah) (Aa [] Ah) d m L fun r g=>⟨fun f=>⟨⟨fun y hy=>e _ y hy,by intro r;kernel_rfl,by intro r y;kernel_rfl⟩,fun i=>⟨id,id⟩⟩,id⟩
theorem ZIs(b:List Fld)(a:Fld→Option Bool):KO Tryz.prog 105 1 [.ref (0,0) 0 0 b.length,.fn (.yield 1) [] []] [⟨0,true,51,16,Ab Av b⟩] (mD a) (TC b a) Vl (Vc b):=kO Tryz.func105 Tryz.ntmps105 [.tmp 4] 1 (fun co c m L=>mJ co 1 (Aa [0,1] Ah) nl nH m L fun r g=>fun _ m L=>sq (mJ co 1 (Aa [0,1,7,8] Ah) nl nH m L fun r g=>fun _ m L=>bk 0 (lo (Ax (ZpB co b a c) nH m L (fun _ m=>fO co m L)))))
abbrev OP(a:List Fld):Ad×Blk:=((0,0),⟨0,true,51,16,Ab Av a⟩)
abbrev dw:List Fld→AV:=fun y=>.ref (0,0) 0 0 y.length
@[reducible] def bJ:List Fld→List Blk:=fun y=>[⟨0,true,51,16,Ab Av y⟩]
def zu(a:Fld→Option Bool):Cl:=fun no l H θ=>(∀(z0:Fld) y,a z0=some y→CJ Tryz.prog l no H (θ 1) [.agg ((Av z0).map .d)] (vB y))
def iR(a:List Fld):Int×Int×List Fld→St:=fun(v2,v3,b)=>Ac [(0,.ref (0,0) 0 0 a.length),(1,.fn (.yield 1) [] []),(5,vI v2),(6,vI v3)] [((0,0),⟨0,true,51,16,Ab Av b⟩)]
def oE(a:List Fld):Int×List Fld→Nat×St:=fun(c,b)=>(0,Ac [(0,.ref (0,0) 0 0 a.length),(5,vI c)] [((0,0),⟨0,true,51,16,Ab Av b⟩)])
def ia(b:List Fld)(d:Fld→Option Bool)(v2:Int)(v3:Int)(a:List Fld):PT 1 (Lv (Int×Int×List Fld) (Int×List Fld) (List Fld)):=vz (Br b.length)<|br (decide (v3<(b.length:Int))) (vs (Az v3 b.length 16)<|ca a v3.toNat fun c=>wg<|wg<|cf Tryz.prog 1 [.agg ((Av c).map .d)] (d c) (fun y=>vB y) fun e=>br (!e) (wg<|vs (Az v2 b.length 16)<|vs (st a v2.toNat c)<|BP 0 ((Rw.f (c:Fld)).map .d) (fun _=>Hl _)<|vs (wi (v2+1))<|vs (wi (v3+1))<|vz (fl (a.set v2.toNat c))<|ln (iR b) ((v2+1),(v3+1),a.set v2.toNat c)) (vs (wi (v3+1))<|vz (fl a)<|ln (iR b) (v2,(v3+1),a))) (vz (fl a)<|Af (oE b) (v2,a))
def Qc(b:List Fld)(a:Fld→Option Bool):Int×Int×List Fld→Option (Lv (Int×Int×List Fld) (Int×List Fld) (List Fld)):=fun(v2,v3,c)=>(ia b a v2 v3 c).m
def o1(c:List Fld)(a:Int)(b:List Fld):PT 1 (List Fld):=sR c.length 0 (.it a) .no<|cr b (0+a.toNat) (c.length-a.toNat) [vI 0,vS ⟨#[]⟩,vI 0,vI 0,vI 0,vS ⟨#[]⟩,vS ⟨#[]⟩,vB false,vI 0,.d (.int .u64 0),vS ⟨#[]⟩,.e0,.e0,.e0,.e0,.e0]<|BP 0 ([vI 0,vS ⟨#[]⟩,vI 0,vI 0,vI 0,vS ⟨#[]⟩,vS ⟨#[]⟩,vB false,vI 0,.d (.int .u64 0),vS ⟨#[]⟩,.e0,.e0,.e0,.e0,.e0]) (fun _=>Ztm (by kernel_rfl))<|Kh 0 b (0+a.toNat) (c.length-a.toNat) [vI 0,vS ⟨#[]⟩,vI 0,vI 0,vI 0,vS ⟨#[]⟩,vS ⟨#[]⟩,vB false,vI 0,.d (.int .u64 0),vS ⟨#[]⟩,.e0,.e0,.e0,.e0,.e0]<|vw .sep<|sR c.length 0 .no (.it a)<|Es (a.toNat=(b.take (0+a.toNat)).length) (fun E=>E.P (.ref (0,0) 0 0 a.toNat) ([⟨0,true,51,16,Ab Av (b.take (0+a.toNat))⟩])) (b.take (0+a.toNat))
def l7(a:List Fld)(c:Fld→Option Bool)(b:Int):PT 1 (List Fld):=vs (wi (b+1))<|vz (fl a)<|lc (Ac [(0,.ref (0,0) 0 0 a.length),(1,.fn (.yield 1) [] []),(5,vI b),(6,vI (b+1))] [(OP a)]) ((Aj (Qc a c) Ag (b,(b+1),a)).bind (Sum.elim (fun(e,d)=>(o1 a e d).m) some))
def lG(a:List Fld)(b:Fld→Option Bool):PT 1 (List Fld):=cs Tryz.prog 105 [.ref (0,0) 0 0 a.length,.fn (.yield 1) [] []] [(0,0)] [(OP a)] (TC a b) (fun y=>vI y) fun c=>br (decide (c=((-1):Int))) (lr dw (bJ) a) (vz (fl a)<|lc (Ac [(0,.ref (0,0) 0 0 a.length),(1,.fn (.yield 1) [] []),(5,vI c)] [(OP a)]) ((l7 a b c).m))
def TB(b:List Fld)(a:Fld→Option Bool):Option (List Fld):=(lG b a).m
theorem Zw6{C:Cx}(co:CO C 1)(b:List Fld)(a:Fld→Option Bool)(e:(zu a) C.no C.l C.H0 C.θ):KL Tryz.prog (As tl) 42 C (pa [0,0,1,0,1,1,1] (At Tryz.f106)) [.tmp 4] 1 (iR b) (oE b) dw (bJ) (Qc b a):=fun(v2,v3,h) _ m Q c d L=>eN co (Aa [0,1,5,6] Ah) (Aa [0,5] Ah) d m L fun r g=>⟨fun f=>⟨⟨fun y hy=>e _ y hy,by intro r;kernel_rfl,by intro r y;kernel_rfl⟩,fun i=>⟨id,id⟩⟩,id⟩
theorem ZVI(b:List Fld)(a:Fld→Option Bool):KO Tryz.prog 106 1 [.ref (0,0) 0 0 b.length,.fn (.yield 1) [] []] [⟨0,true,51,16,Ab Av b⟩] (zu a) (TB b a) dw (bJ):=EV Tryz.func106 Tryz.ntmps106 AS [.tmp 4] 1 (fun C co d y m c L=>mJ co 3 (Aa [0,1,5] Ah) nl nH m L fun r g=>⟨fun y hy=>HY (ZIs b a) hy co g [(OP b)] [] (AA [(1,r.θ 1)]) (fun i j e=>(fun z0 y f=>Bx co g [(OP b)] e (d z0 y f))) (fun H=>⟨fun _=>⟨rfl,bz⟩,by kernel_rfl,trivial⟩),fun o=>⟨id,fun _ m L=>sq (mJ co 1 (Aa [0,1,5,6] Ah) nl nH m L fun r g=>fun _ m L=>bk 0 (lo (Ax (Zw6 co b a d) nH m L (fun(l,k) m=>fO co m L fun r g=>fun h L=>lfx (congrArg (fun n=>(.ref (0,0) 0 0 n:AV)) h) L))))⟩⟩)
abbrev bB:List Fld→AV:=fun y=>.ref (0,0) 1 0 y.length
@[reducible] def bP:List Fld→List Blk:=fun y=>[⟨1,true,51,16,Ab Av y⟩]
def mQ(a:List Fld):PT 1 (List Fld):=al Av a false fun b=>br b (vw .sep<|vw (.ads 2 2 51 16)<|mv 2 0 ([]:List Fld)<|lr bB (bP) ([]:List Fld)) (a0 a<|mv 7 0 a<|lr bB (bP) a)
def TE(a:List Fld):Option (List Fld):=(mQ a).m
theorem ZWm(a:List Fld):KO Tryz.prog 107 1 [vL Av a] [⟨0,false,0,0,[]⟩] (fun _ _ _ _=>True) (TE a) bB (bP):=kO Tryz.func107 Tryz.ntmps107 [.tmp 2] 1 (fun co b m L=>fO co m L)
abbrev zR:Bool→AV:=fun y=>vB y
@[reducible] def zm(w0:ByteArray):Bool→List Blk:=fun y=>[⟨0,true,9,1,[vS w0]⟩]
def ZJ6(a:Fld)(w0:ByteArray):PT 1 (Bool):=wg<|wg<|lr zR (zm w0) (!decide (a.union=w0))
def TG(a:Fld)(w0:ByteArray):Option (Bool):=(ZJ6 a w0).m
theorem ZVK(a:Fld)(w0:ByteArray):KO Tryz.prog 108 1 [.agg ((Av a).map .d),.ptr (0,0) 0 0] [⟨0,true,9,1,[vS w0]⟩] (fun _ _ _ _=>True) (TG a w0) zR (zm w0):=kO Tryz.func108 Tryz.ntmps108 [.tmp 3] 1 (fun co b m L=>fO co m L)
abbrev Fr:List (Ad×Bool):=[((1,2),false),((1,3),false)]
abbrev OW(a:ByteArray):Ad×Blk:=kk 3 9 1 [vS a]
abbrev Xm:List Fld→AV:=fun y=>vL Av y
def tb(a:List Fld):PT 0 (List Fld):=vz (fr a)<|lr Xm nG a
def x5(a:List Fld):PT 0 (List Fld):=vz (fl a)<|lc (Ac [(4,.ref (1,9) 0 0 a.length)] [kk 9 51 16 (Ab Av a)]) ((tb a).m)
def ro(b:ByteArray)(a:List Fld):PT 0 (List Fld):=vz (fl a)<|lc (Ac [(9,.ref (1,9) 0 0 a.length),(10,.fn (.func 108) [] [.ptr (1,3) 0 0])] [(OW b),kk 9 51 16 (Ab Av a)]) ((TB a (fun(z0:Fld)=>TG z0 b)).bind fun c=>(x5 c).m)
def tH(a:Msg)(b:ByteArray):PT 0 (List Fld):=wg<|lc (Ac [pp 3,(8,vL Av a.fields)] [(OW b)]) ((TE a.fields).bind fun c=>(ro b c).m)
def tk(b:Msg)(a:ByteArray):PT 0 (List Fld):=wg<|br (decide (a=(⟨#[]⟩:ByteArray))) (lr Xm nG ([]:List Fld)) (lc (Ac [pp 2,pp 3] [kk 2 56 5 (cD (AH b)),(OW a)]) ((tH b a).m))
def TU(a:Msg)(b:ByteArray):Option (List Fld):=(tk a b).m
theorem ZZm(b:Msg)(a:ByteArray):KC Tryz.prog 78 [.agg ((AH b).map .d),vS a] (TU b a) Xm:=DO Tryz.func78 Tryz.ntmps78 AS [.tmp 4] fun C co y m c L=>mJ co 2 (Aa [2,3] Fr) nl nH m L fun r g=>⟨id,fun _ m L=>sq (rg (pR co 2 (Aa [3,8] [((1,3),false)]) m L fun r g=>fun _ m L=>c6 co m (ZWm b.fields) [((1,9),⟨0,false,0,0,[]⟩)] [] (fun z=>.ref (1,9) 1 0 z.length) (fun z=>[((1,9),⟨1,true,51,16,Ab Av z⟩)]) [] fun d m=>pR co 1 (Aa [9,10] [((1,3),false),((1,9),true)]) m L fun r g=>fun _ m L=>c6 (θ:=fun r=>AA [(1,.fn (.func 108) [] [.ptr (r.κ (1,3)) (r.γ (1,3)+0) 0])]) (hΘ:=fun r g h e i=>(fun z0 y f=>Ls (ZVK z0 a) f co g [(OW a)] _ e (by simp) (fun _=>.top) (fun _ _=>trivial) (fun l H=>⟨fun _=>⟨rfl,by kernel_rfl⟩,by kernel_rfl,trivial⟩))) co m (ZVI d (fun(z0:Fld)=>TG z0 a)) [kk 9 51 16 (Ab Av d)] [(OW a)] (fun z=>.ref (1,9) 0 0 z.length) (fun z=>[kk 9 51 16 (Ab Av z)]) [] fun j m=>eR co (Aa [4] [((1,9),true)]) m L fun r g=>fun _ m L=>fO co m L))⟩
abbrev ZXd:Bool→AV:=fun y=>vB y
@[reducible] def zi(w0:Int):Bool→List Blk:=fun y=>[⟨0,true,3,1,[vI w0]⟩]
def ZRL(a:Slt)(w0:Int):PT 1 (Bool):=wg<|wg<|lr ZXd (zi w0) (decide (a.num=w0))
def TL(a:Slt)(w0:Int):Option (Bool):=(ZRL a w0).m
theorem ZVp(a:Slt)(w0:Int):KO Tryz.prog 136 1 [.agg ((Dk a).map .d),.ptr (0,0) 0 0] [⟨0,true,3,1,[vI w0]⟩] (fun _ _ _ _=>True) (TL a w0) ZXd (zi w0):=kO Tryz.func136 Tryz.ntmps136 [.tmp 3] 1 (fun co b m L=>fO co m L)
abbrev zX:Int→AV:=fun y=>vI y
def ZzP(a:List Slt)(b:Int):PT 0 (Int):=cs Tryz.prog 74 [vL Ap a,.fn (.func 136) [] [.ptr (1,3) 1 0]] [(1,3)] [((1,3),⟨1,true,3,1,[vI b]⟩)] (TN a (fun(z0:Slt)=>TL z0 b)) (fun y=>vI y) fun c=>lr zX nG c
def ZfB(a:List Slt)(b:Int):Option (Int):=(ZzP a b).m
theorem ZV4(b:List Slt)(a:Int):KC Tryz.prog 109 [vL Ap b,vI a] (ZfB b a) zX:=DO Tryz.func109 Tryz.ntmps109 AS [.tmp 4] fun C co y m c L=>fO co m L fun r g=>⟨fun y hy=>HY (ZZE b (fun(z0:Slt)=>TL z0 a)) hy co g [] [((1,3),⟨1,true,3,1,[vI a]⟩)] (AA [(1,.fn (.func 136) [] [.ptr (r.κ (1,3)) (r.γ (1,3)+1) 0])]) (fun f d h=>(fun z0 y e=>Ls (ZVp z0 a) e co g [((1,3),⟨1,true,3,1,[vI a]⟩)] [] d (by simp) (fun _=>.top) (fun _ _=>trivial) (fun l H=>⟨fun _=>⟨rfl,by kernel_rfl⟩,by kernel_rfl,trivial⟩))) (fun H=>trivial),fun i=>id⟩
abbrev kq:Bool→AV:=fun y=>vB y
def wj(a:Val)(b:Int):PT 0 (Bool):=wg<|cl (ZV4 a.slots b) fun c=>lr kq nG (decide ((0:Int)≤c))
def eO(a:Val)(b:Int):Option (Bool):=(wj a b).m
theorem ZZe(a:Val)(b:Int):KC Tryz.prog 80 [.agg ((Ae a).map .d),vI b] (eO a b) kq:=kC Tryz.func80 Tryz.ntmps80 [.tmp 4] fun co m L=>fO co m L
abbrev ko:Bool→AV:=fun y=>vB y
@[reducible] def kB(w0:Fld)(a:Val):Bool→List Blk:=fun y=>[⟨0,true,51,16,(cD (Av w0))⟩,⟨0,true,35,7,(cD (Ae a))⟩]
def tB(a:Fld)(w0:Fld)(b:Val):PT 2 (Bool):=wg<|wg<|wg<|wg<|AE (!decide (a.num=w0.num)) (ZZe b a.num) fun c=>lr ko (kB w0 b) ((!decide (a.num=w0.num))&&c)
def Po(a:Fld)(w0:Fld)(b:Val):Option (Bool):=(tB a w0 b).m
theorem ZYd(b:Fld)(w0:Fld)(a:Val):KO Tryz.prog 79 2 [.agg ((Av b).map .d),.ptr (0,0) 0 0,.ptr (0,1) 0 0] [⟨0,true,51,16,(cD (Av w0))⟩,⟨0,true,35,7,(cD (Ae a))⟩] (fun _ _ _ _=>True) (Po b w0 a) ko (kB w0 a):=kO Tryz.func79 Tryz.ntmps79 [.tmp 4] 2 (fun co c m L=>fO co m L)
abbrev bV(a:Fld):Ad×Blk:=((1,4),⟨1,true,51,16,(cD (Av a))⟩)
abbrev cI(a:Val):Ad×Blk:=((1,5),⟨1,true,35,7,(cD (Ae a))⟩)
abbrev kb:Bool→AV:=fun y=>vB y
def wv(d:Msg)(a:Fld)(b:Val):PT 0 (Bool):=wg<|wg<|cl (ZZm d a.union) fun c=>cs Tryz.prog 77 [vL Av c,.fn (.func 79) [] [.ptr (1,4) 1 0,.ptr (1,5) 1 0]] [(1,4),(1,5)] [(bV a),(cI b)] (Tu c (fun(z0:Fld)=>Po z0 a b)) (fun y=>vB y) fun e=>lr kb nG e
def eU(a:Msg)(b:Fld)(c:Val):Option (Bool):=(wv a b c).m
theorem ZZG(d:Msg)(a:Fld)(b:Val):KC Tryz.prog 40 [.agg ((AH d).map .d),.agg ((Av a).map .d),.agg ((Ae b).map .d)] (eU d a b) kb:=DO Tryz.func40 Tryz.ntmps40 AS [.tmp 6] fun C co y m c L=>fO co m L fun r g=>fun h=>⟨fun y hy=>HY (ZY5 h (fun(z0:Fld)=>Po z0 a b)) hy co g [] [(bV a),(cI b)] (AA [(1,.fn (.func 79) [] [.ptr (r.κ (1,4)) (r.γ (1,4)+1) 0,.ptr (r.κ (1,5)) (r.γ (1,5)+1) 0])]) (fun i e j=>(fun z0 y f=>Ls (ZYd z0 a b) f co g [(bV a),(cI b)] [] e (by simp) (fun _=>.top) (fun _ _=>trivial) (fun l H=>⟨fun _=>⟨rfl,by kernel_rfl⟩,by kernel_rfl,⟨fun _=>⟨rfl,by kernel_rfl⟩,by kernel_rfl,trivial⟩⟩))) (fun H=>trivial),fun k=>id⟩
abbrev j9:Bool→AV:=fun y=>vB y
@[reducible] def kw(w0:Msg)(a:Val):Bool→List Blk:=fun y=>[⟨0,true,56,5,(cD (AH w0))⟩,⟨0,true,35,7,(cD (Ae a))⟩]
def tJ(b:Slt)(w0:Msg)(a:Val):PT 2 (Bool):=wg<|wg<|cl (zN w0 b.num) fun c=>wg<|wg<|wg<|wg<|cl (ZZG w0 c.1 a) fun d=>lr j9 (kw w0 a) d
def Pn(a:Slt)(w0:Msg)(b:Val):Option (Bool):=(tJ a w0 b).m
theorem ZZr(b:Slt)(w0:Msg)(a:Val):KO Tryz.prog 38 2 [.agg ((Dk b).map .d),.ptr (0,0) 0 0,.ptr (0,1) 0 0] [⟨0,true,56,5,(cD (AH w0))⟩,⟨0,true,35,7,(cD (Ae a))⟩] (fun _ _ _ _=>True) (Pn b w0 a) j9 (kw w0 a):=kO Tryz.func38 Tryz.ntmps38 [.tmp 4] 2 (fun co c m L=>fO co m L)
abbrev kr:Bool→AV:=fun y=>vB y
@[reducible] def kD(w0:Int):Bool→List Blk:=fun y=>[⟨0,true,3,1,[vI w0]⟩]
def ZUj(a:Slt)(w0:Int):PT 1 (Bool):=wg<|wg<|lr kr (kD w0) (decide (a.num=w0))
def TO(a:Slt)(w0:Int):Option (Bool):=(ZUj a w0).m
theorem ZZg(a:Slt)(w0:Int):KO Tryz.prog 81 1 [.agg ((Dk a).map .d),.ptr (0,0) 0 0] [⟨0,true,3,1,[vI w0]⟩] (fun _ _ _ _=>True) (TO a w0) kr (kD w0):=kO Tryz.func81 Tryz.ntmps81 [.tmp 3] 1 (fun co b m L=>fO co m L)
def ZFa:Go.Shelf.Ren:=⟨fun|4=>110|n=>n,fun|22=>27|25=>35|n=>n,fun n=>n⟩
theorem Zyb:Go.Proofs.Lays8.n4 Tryz.prog ZFa:={
 mixed:=by kernel_rfl,
 f4:=⟨Tryz.f110.name,by decide+kernel,Tryz.func110.trans (congrArg some (by kernel_rfl))⟩,
 t0:=Tryz.underlying0,
 a0:=Tryz.isAgg0,
 z0:=Tryz.sizeOf0,
 v0:=Tryz.zeroValue0,
 t3:=Tryz.underlying3,
 a3:=Tryz.isAgg3,
 z3:=Tryz.sizeOf3,
 v3:=Tryz.zeroValue3,
 t4:=Tryz.underlying4,
 a4:=Tryz.isAgg4,
 z4:=Tryz.sizeOf4,
 v4:=Tryz.zeroValue4,
 t9:=Tryz.underlying9,
 a9:=Tryz.isAgg9,
 z9:=Tryz.sizeOf9,
 v9:=Tryz.zeroValue9,
 t20:=Tryz.underlying20,
 a20:=Tryz.isAgg20,
 z20:=Tryz.sizeOf20,
 v20:=Tryz.zeroValue20,
 t22:=Tryz.underlying27,
 a22:=Tryz.isAgg27,
 z22:=Tryz.sizeOf27,
 v22:=Tryz.zeroValue27 }
abbrev ZY2:List Val→AV:=fun y=>.ref (0,0) 1 0 y.length
@[reducible] def ZZn:List Val→List Blk:=fun y=>[⟨1,true,35,7,Ab AW y⟩]
def fi(n:Nat):Option (List Val):=if n<549755813888 then some []else none
theorem ZUu(n:Nat):KO Tryz.prog 110 1 [.e0,vN n] [⟨0,false,0,0,[]⟩] (fun _ _ _ _=>True) (fi n) ZY2 ZZn:=⟨fun l H ks k θ b a j i _ y hy=>by
 obtain⟨d,hy⟩:=BD hy
 cases hy
 match ks,b with
 |[m],_=>
  have hi:∃i0 z,(Tryz.prog).info? 35=some i0∧i0.zero=some z∧i0.size=7∧z.cells.size=i0.size∧i0.bytes≤256:=⟨_,_,rfl,rfl,rfl,by decide+kernel,by decide+kernel⟩
  obtain⟨i0,z,e,f,c,g,h⟩:=hi
  exact fB Zyb i0 z e f (by rw[c];decide) g h ⟨_,At Tryz.f110,Tryz.func110,by kernel_rfl,by kernel_rfl⟩ a.1 i.1.1 n d (by rw[c];exact⟨rfl,rfl⟩)⟩
abbrev Gb:List (Ad×Bool):=[((1,24),true)]
abbrev RJ:List Val→AV:=fun y=>.ref (0,0) 1 0 y.length
@[reducible] def RO:List Val→List Blk:=fun y=>[⟨1,true,35,7,Ab AW y⟩]
def qI(a:List (List Val)):Nat×Nat→St:=fun(b,v2)=>Ac [(0,vL Fl a),(3,vN b),(9,vL Fl a),(10,vN a.length),(11,vN v2)] []
def sP(a:List (List Val)):Nat→Nat×St:=fun v4=>(0,Ac [(0,vL Fl a),(3,vN v4)] [])
def V8(b:List (List Val))(c:Nat)(v2:Nat):PT 1 (Lv (Nat×Nat) (Nat) (List Val)):=br (decide ((v2:Int)<(b.length:Int))) (ix b v2 fun a=>vz (Ai a)<|vs (wa c a.length)<|br (decide (((c+a.length:Nat):Int)<(0:Int))) (dd) (vs (wa v2 1)<|ln (qI b) (c+a.length,v2+1))) (Af (sP b) c)
def Ix(a:List (List Val)):Nat×Nat→Option (Lv (Nat×Nat) (Nat) (List Val)):=fun(b,v2)=>(V8 a b v2).m
def uO(a:List (List Val)):List Val×Nat→St:=fun(b,c)=>Ac [(6,.ref (1,24) 0 0 b.length),(25,vL Fl a),(26,vN a.length),(27,vN c)] [kk 24 35 7 (Ab AW b)]
def uJ:List Val→Nat×St:=fun a=>(2,Ac [(6,.ref (1,24) 0 0 a.length)] [kk 24 35 7 (Ab AW a)])
def WU(d:List (List Val))(a:List Val)(b:Nat):PT 1 (Lv (List Val×Nat) (List Val) (List Val)):=br (decide ((b:Int)<(d.length:Int))) (ix d b fun c=>aq a c<|vs (wa b 1)<|vz (fl (a++c))<|ln (uO d) (a++c,b+1)) (vz (fl a)<|Af (uJ) a)
def Ij(a:List (List Val)):List Val×Nat→Option (Lv (List Val×Nat) (List Val) (List Val)):=fun(b,c)=>(WU a b c).m
def wU(a:List Val):PT 1 (List Val):=vw .sep<|mv 24 0 a<|lr RJ (RO) a
def qy(a:List (List Val))(b:List Val):PT 1 (List Val):=vz (Ai a)<|vz (fl b)<|lc (Ac [(6,.ref (1,24) 0 0 b.length),(25,vL Fl a),(26,vN a.length),(27,vI 0)] [kk 24 35 7 (Ab AW b)]) ((Aj (Ij a) Ag (b,0)).bind (Sum.elim (fun c=>(wU c).m) some))
def yT(b:List (List Val))(a:List Val):PT 1 (List Val):=vz (fl a)<|lc (Ac [(0,vL Fl b),(6,.ref (1,24) 0 0 a.length)] [kk 24 35 7 (Ab AW a)]) ((qy b a).m)
def tY(a:List (List Val))(v4:Nat):PT 1 (List Val):=lc (Ac [(0,vL Fl a),(23,vN v4)] []) ((fi v4).bind fun b=>(yT a b).m)
def wH(a:List (List Val)):PT 1 (List Val):=vz (Ai a)<|lc (Ac [(0,vL Fl a),(3,vI 0),(9,vL Fl a),(10,vN a.length),(11,vI 0)] []) ((Aj (Ix a) Ag (0,0)).bind (Sum.elim (fun v4=>(tY a v4).m) some))
def yI(a:List (List Val)):PT 1 (List Val):=lc (Ac [(0,vL Fl a),(3,vI 0)] []) ((wH a).m)
def TJ(a:List (List Val)):Option (List Val):=(yI a).m
theorem ZF1{C:Cx}(co:CO C 1)(a:List (List Val)):KL Tryz.prog (As tl) 36 C (pa [0,0,1,0,1,1] (At Tryz.f82)) [.tmp 2] 1 (qI a) (sP a) RJ (RO) (Ix a):=fun(e,v2) _ m Q b c L=>eN co (AD [0,3,9,10,11]) (AD [0,3]) c m L fun r g=>⟨fun d=>⟨trivial,id⟩,id⟩
theorem ZF2{C:Cx}(co:CO C 1)(b:List (List Val)):KL Tryz.prog (As tl) 36 C (pa [0,0,1,0,1,1,1,1] (At Tryz.f82)) [.tmp 2] 1 (uO b) (uJ) RJ (RO) (Ij b):=fun(d,e) _ m Q a c L=>eN co (Aa [6,25,26,27] Gb) (Aa [6] Gb) c m L
theorem ZYB(a:List (List Val)):KO Tryz.prog 82 1 [vL Fl a] [⟨0,false,0,0,[]⟩] (fun _ _ _ _=>True) (TJ a) RJ (RO):=kO Tryz.func82 Tryz.ntmps82 [.tmp 2] 1 (fun co b m L=>mJ co 2 (AD [0,3]) nl nH m L fun r g=>fun _ m L=>sq (mJ co 1 (AD [0,3,9,10,11]) nl nH m L fun r g=>fun _ m L=>bk 0 (lo (Ax (ZF1 co a) nH m L (fun v4 m=>sq (rg (pR co 1 (AD [0,23]) m L fun r g=>fun _ m L=>c6 co m (ZUu v4) [((1,24),⟨0,false,0,0,[]⟩)] [] (fun z=>.ref (1,24) 1 0 z.length) (fun z=>[((1,24),⟨1,true,35,7,Ab AW z⟩)]) [] fun d m=>eR co (Aa [0,6] Gb) m L fun r g=>fun _ m L=>sq (mJ co 1 (Aa [6,25,26,27] Gb) nl nH m L fun r g=>fun _ m L=>bk 2 (lo (Ax (ZF2 co a) nH m L (fun c m=>fO co m L)))))))))))
abbrev cN:List Pr→AV:=fun y=>.ref (0,0) 1 0 y.length
@[reducible] def cC:List Pr→List Blk:=fun y=>[⟨1,true,63,14,Ab Aq y⟩]
def mO(a:List Pr):PT 1 (List Pr):=al Aq a false fun b=>br b (vw .sep<|vw (.ads 2 2 63 14)<|mv 2 0 ([]:List Pr)<|lr cN (cC) ([]:List Pr)) (a0 a<|mv 7 0 a<|lr cN (cC) a)
def TT(a:List Pr):Option (List Pr):=(mO a).m
theorem ZTZ(a:List Pr):KO Tryz.prog 111 1 [vL Aq a] [⟨0,false,0,0,[]⟩] (fun _ _ _ _=>True) (TT a) cN (cC):=kO Tryz.func111 Tryz.ntmps111 [.tmp 2] 1 (fun co b m L=>fO co m L)
section
variable {α:Type} [Rw α] [Tid α]
abbrev Hy:List α→AV:=fun y=>.tup []
@[reducible] def HD:List α→List Blk:=fun y=>[⟨0,true,.t (Tid.t α),Rw.s α,Ab Rw.e y⟩]
def IE(a:α→α→Option Int):Cl:=fun no l H θ=>(∀(z0:α) (b:α) y,a z0 b=some y→CJ Tryz.prog l no H (θ 3) [.agg ((Rw.f z0).map .d),.agg ((Rw.f b).map .d)] (vI y))
def U6(a:List α)(b:Int)(c:Int):Int×List α→St:=fun(e,d)=>Ac [(0,.ref (0,0) 0 0 a.length),(1,vI b),(2,vI c),(3,.fn (.yield 3) [] []),(8,vI e)] [((0,0),⟨0,true,.t (Tid.t α),Rw.s α,Ab Rw.e d⟩)]
def Vv:List α→Nat×St:=fun a=>(0,Ac [] [((0,0),⟨0,true,.t (Tid.t α),Rw.s α,Ab Rw.e a⟩)])
def Vh(a:List α)(b:Int)(c:Int)(e:Int):Int×List α→St:=fun(v3,d)=>Ac [(0,.ref (0,0) 0 0 a.length),(1,vI b),(2,vI c),(3,.fn (.yield 3) [] []),(8,vI e),(9,vI v3)] [((0,0),⟨0,true,.t (Tid.t α),Rw.s α,Ab Rw.e d⟩)]
def Vo(b:List α)(c:Int)(d:Int)(e:Int):List α→Nat×St:=fun a=>(2,Ac [(0,.ref (0,0) 0 0 b.length),(1,vI c),(2,vI d),(3,.fn (.yield 3) [] []),(8,vI e)] [((0,0),⟨0,true,.t (Tid.t α),Rw.s α,Ab Rw.e a⟩)])
def P3(c:List α)(b:Int)(i:Int)(f:α→α→Option Int)(j:Int)(v3:Int)(a:List α):PT 1 (Lv (Int×List α) (List α) (List α)):=vg (decide (b<v3)) (Az v3 c.length (Rw.s α))<|Fv (decide (b<v3)) a v3.toNat fun g=>vg (decide (b<v3)) (wi (v3-1))<|vg (decide (b<v3)) (Az (v3-1) c.length (Rw.s α))<|Fv (decide (b<v3)) a (v3-1).toNat fun h=>HG (decide (b<v3)) Tryz.prog 3 [.agg ((Rw.f g).map .d),.agg ((Rw.f h).map .d)] (f g h) (fun y=>vI y) fun k=>br (decide (b<v3)&&decide (k<(0:Int))) (vs (wi (v3-1))<|vs (wi (v3-1))<|vs (Az (v3-1) c.length (Rw.s α))<|ca a (v3-1).toNat fun d=>vs (Az v3 c.length (Rw.s α))<|ca a v3.toNat fun e=>vs (Az v3 c.length (Rw.s α))<|vs (st a v3.toNat d)<|BP 0 ((Rw.f (d:α)).map .d) (fun _=>Hl _)<|vs (Az (v3-1) c.length (Rw.s α))<|vs (st (a.set v3.toNat d) (v3-1).toNat e)<|BP 0 ((Rw.f (e:α)).map .d) (fun _=>Hl _)<|vs (wi (v3-1))<|vz (fl ((a.set v3.toNat d).set (v3-1).toNat e))<|ln (Vh c b i j) ((v3-1),(a.set v3.toNat d).set (v3-1).toNat e)) (vz (fl a)<|Af (Vo c b i j) a)
def Fi(b:List α)(c:Int)(d:Int)(a:α→α→Option Int)(f:Int):Int×List α→Option (Lv (Int×List α) (List α) (List α)):=fun(v3,e)=>(P3 b c d a f v3 e).m
def ie(c:List α)(d:Int)(e:Int)(b:Int)(a:List α):PT 1 (Lv (Int×List α) (List α) (List α)):=vs (wi (b+1))<|vz (fl a)<|ln (U6 c d e) ((b+1),a)
def iG(b:List α)(c:Int)(d:Int)(e:α→α→Option Int)(a:Int)(g:List α):PT 1 (Lv (Int×List α) (List α) (List α)):=vz (fl g)<|lc (Ac [(0,.ref (0,0) 0 0 b.length),(1,vI c),(2,vI d),(3,.fn (.yield 3) [] []),(8,vI a),(9,vI a)] [((0,0),⟨0,true,.t (Tid.t α),Rw.s α,Ab Rw.e g⟩)]) ((Aj (Fi b c d e a) Ag (a,g)).bind (Sum.elim (fun f=>(ie b c d a f).m) (fun z=>some (.rt z))))
def jt(e:List α)(f:Int)(b:Int)(c:α→α→Option Int)(d:Int)(a:List α):PT 1 (Lv (Int×List α) (List α) (List α)):=br (decide (d<b)) (vz (fl a)<|lc (Ac [(0,.ref (0,0) 0 0 e.length),(1,vI f),(2,vI b),(3,.fn (.yield 3) [] []),(8,vI d)] [((0,0),⟨0,true,.t (Tid.t α),Rw.s α,Ab Rw.e a⟩)]) ((iG e f b c d a).m)) (vz (fl a)<|Af (Vv) a)
def H8(b:List α)(c:Int)(d:Int)(a:α→α→Option Int):Int×List α→Option (Lv (Int×List α) (List α) (List α)):=fun(f,e)=>(jt b c d a f e).m
def Qs(a:List α):PT 1 (List α):=lr Hy (HD) a
def lO(a:List α)(b:Int)(e:Int)(c:α→α→Option Int):PT 1 (List α):=vs (wi (b+1))<|vz (fl a)<|lc (Ac [(0,.ref (0,0) 0 0 a.length),(1,vI b),(2,vI e),(3,.fn (.yield 3) [] []),(8,vI (b+1))] [((0,0),⟨0,true,.t (Tid.t α),Rw.s α,Ab Rw.e a⟩)]) ((Aj (H8 a b e c) Ag ((b+1),a)).bind (Sum.elim (fun d=>(Qs d).m) some))
def JE(b:List α)(c:Int)(d:Int)(a:α→α→Option Int):Option (List α):=(lO b c d a).m
end
theorem ZyA{C:Cx}(co:CO C 1)(b:List Pr)(c:Int)(d:Int)(a:Pr→Pr→Option Int)(e:Int)(i:(IE a) C.no C.l C.H0 C.θ):KL Tryz.prog (As tl) 53 C (pa [0,0,1,0,0,1,0,0,1] (At Tryz.f163)) [] 1 (Vh b c d e) (Vo b c d e) Hy (HD) (Fi b c d a e):=fun(v3,o) _ m Q f h L=>eN co (Aa [0,1,2,3,8,9] Ah) (Aa [0,1,2,3,8] Ah) h m L fun r g=>fun j=>fun k=>⟨⟨fun y hy=>i _ _ y hy,by intro r;kernel_rfl,by intro r y;kernel_rfl⟩,fun p=>⟨fun l=>fun n=>id,id⟩⟩
theorem ZwS{C:Cx}(co:CO C 1)(c:List Pr)(d:Int)(e:Int)(a:Pr→Pr→Option Int)(h:(IE a) C.no C.l C.H0 C.θ):KL Tryz.prog (As tl) 53 C (pa [0,0,1] (At Tryz.f163)) [] 1 (U6 c d e) (Vv) Hy (HD) (H8 c d e a):=fun(j,k) _ m Q f b L=>mJ co 1 (Aa [0,1,2,3,8] Ah) (Aa [] Ah) b m L fun r g=>⟨fun _ m L=>sq (bk 1 (mJ co 1 (Aa [0,1,2,3,8,9] Ah) nl b m L fun r g=>fun _ m L=>bk 2 (lo (Et (ZyA co c d e a j h) b m L (fun i m=>eN co (Aa [0,1,2,3,8] Ah) nl b m L))))),id⟩
theorem x8(b:List Pr)(c:Int)(d:Int)(a:Pr→Pr→Option Int):KO Tryz.prog 163 1 [.ref (0,0) 0 0 b.length,vI c,vI d,.fn (.yield 3) [] []] [⟨0,true,63,14,Ab Aq b⟩] (IE a) (JE b c d a) Hy (HD):=kO Tryz.func163 Tryz.ntmps163 [] 1 (fun co f m L=>mJ co 1 (Aa [0,1,2,3,8] Ah) nl nH m L fun r g=>fun _ m L=>bk 0 (lo (Ax (ZwS co b c d a f) nH m L (fun e m=>BX (Qs e) co m L (fun r g=>id) r g))))
section
variable {α:Type} [Rw α] [Tid α]
abbrev KX:List α→AV:=fun y=>.tup []
@[reducible] def KP:List α→List Blk:=fun y=>[⟨0,true,.t (Tid.t α),Rw.s α,Ab Rw.e y⟩]
def UW(a:List α)(b:Int)(c:Int)(d:Int):Nat×List α→St:=fun(f,e)=>Ac [(0,.ref (0,0) 0 0 a.length),(1,vI b),(2,vI c),(3,vI d),(10,vN f)] [((0,0),⟨0,true,.t (Tid.t α),Rw.s α,Ab Rw.e e⟩)]
def U9:List α→Nat×St:=fun a=>(0,Ac [] [((0,0),⟨0,true,.t (Tid.t α),Rw.s α,Ab Rw.e a⟩)])
def iM(f:List α)(b:Int)(c:Int)(h:Int)(a:Nat)(d:List α):PT 1 (Lv (Nat×List α) (List α) (List α)):=br (decide ((a:Int)<h)) (vs (wi (b+(a:Int)))<|vs (wi (c+(a:Int)))<|vs (wi (c+(a:Int)))<|vs (Az (c+(a:Int)) f.length (Rw.s α))<|ca d (c+(a:Int)).toNat fun e=>vs (wi (b+(a:Int)))<|vs (Az (b+(a:Int)) f.length (Rw.s α))<|ca d (b+(a:Int)).toNat fun g=>vs (Az (b+(a:Int)) f.length (Rw.s α))<|vs (st d (b+(a:Int)).toNat e)<|BP 0 ((Rw.f (e:α)).map .d) (fun _=>Hl _)<|vs (Az (c+(a:Int)) f.length (Rw.s α))<|vs (st (d.set (b+(a:Int)).toNat e) (c+(a:Int)).toNat g)<|BP 0 ((Rw.f (g:α)).map .d) (fun _=>Hl _)<|vs (wa a 1)<|vz (fl ((d.set (b+(a:Int)).toNat e).set (c+(a:Int)).toNat g))<|ln (UW f b c h) (a+1,(d.set (b+(a:Int)).toNat e).set (c+(a:Int)).toNat g)) (vz (fl d)<|Af (U9) d)
def JU(a:List α)(b:Int)(c:Int)(d:Int):Nat×List α→Option (Lv (Nat×List α) (List α) (List α)):=fun(f,e)=>(iM a b c d f e).m
def Qh(a:List α):PT 1 (List α):=lr KX (KP) a
def ld(a:List α)(b:Int)(c:Int)(d:Int):PT 1 (List α):=vz (fl a)<|lc (Ac [(0,.ref (0,0) 0 0 a.length),(1,vI b),(2,vI c),(3,vI d),(10,vI 0)] [((0,0),⟨0,true,.t (Tid.t α),Rw.s α,Ab Rw.e a⟩)]) ((Aj (JU a b c d) Ag (0,a)).bind (Sum.elim (fun e=>(Qh e).m) some))
def HW(a:List α)(b:Int)(c:Int)(d:Int):Option (List α):=(ld a b c d).m
end
theorem ZxE{C:Cx}(co:CO C 1)(b:List Pr)(c:Int)(d:Int)(e:Int):KL Tryz.prog (As tl) 38 C (pa [0,0,1] (At Tryz.f182)) [] 1 (UW b c d e) (U9) KX (KP) (JU b c d e):=fun(h,g) _ m Q a f L=>eN co (Aa [0,1,2,3,10] Ah) (Aa [] Ah) f m L
theorem aM(a:List Pr)(b:Int)(c:Int)(d:Int):KO Tryz.prog 182 1 [.ref (0,0) 0 0 a.length,vI b,vI c,vI d,.fn (.yield 4) [] []] [⟨0,true,63,14,Ab Aq a⟩] (fun _ _ _ _=>True) (HW a b c d) KX (KP):=kO Tryz.func182 Tryz.ntmps182 [] 1 (fun co f m L=>mJ co 1 (Aa [0,1,2,3,10] Ah) nl nH m L fun r g=>fun _ m L=>bk 0 (lo (Ax (ZxE co a b c d) nH m L (fun e m=>BX (Qh e) co m L (fun r g=>id) r g))))
section
variable {α:Type} [Rw α] [Tid α]
abbrev KW:List α→AV:=fun y=>.tup []
@[reducible] def KQ:List α→List Blk:=fun y=>[⟨0,true,.t (Tid.t α),Rw.s α,Ab Rw.e y⟩]
def Qi(a:List α)(b:Int):Int×Int×List α→St:=fun(d,v2,c)=>Ac [(0,.ref (0,0) 0 0 a.length),(2,vI b),(4,.fn (.yield 4) [] []),(10,vI d),(11,vI v2)] [((0,0),⟨0,true,.t (Tid.t α),Rw.s α,Ab Rw.e c⟩)]
def VJ(a:List α)(b:Int):Int×List α→Nat×St:=fun(d,c)=>(0,Ac [(0,.ref (0,0) 0 0 a.length),(2,vI b),(4,.fn (.yield 4) [] []),(10,vI d)] [((0,0),⟨0,true,.t (Tid.t α),Rw.s α,Ab Rw.e c⟩)])
def UO(c:List α)(d:Int)(a:Int)(v2:Int)(b:List α):PT 1 (Lv (Int×Int×List α) (Int×List α) (List α)):=vs (wi (a-v2))<|vz (fl b)<|ln (Qi c d) ((a-v2),v2,b)
def Vf(b:List α)(c:Int)(d:Int)(v2:Int)(a:List α):PT 1 (Lv (Int×Int×List α) (Int×List α) (List α)):=vz (fl a)<|lc (Ac [(0,.ref (0,0) 0 0 b.length),(2,vI c),(4,.fn (.yield 4) [] []),(10,vI d),(11,vI v2)] [((0,0),⟨0,true,.t (Tid.t α),Rw.s α,Ab Rw.e a⟩)]) ((UO b c d v2 a).m)
def Vj(c:List α)(a:Int)(b:Int)(v2:Int)(d:List α):PT 1 (Lv (Int×Int×List α) (Int×List α) (List α)):=vs (wi (a-b))<|vz (fl d)<|lc (Ac [(0,.ref (0,0) 0 0 c.length),(2,vI a),(4,.fn (.yield 4) [] []),(10,vI b),(11,vI v2),(24,.ref (0,0) 0 0 c.length),(27,vI (a-b)),(28,vI a),(29,vI v2),(30,.fn (.yield 4) [] [])] [((0,0),⟨0,true,.t (Tid.t α),Rw.s α,Ab Rw.e d⟩)]) (if c.length=d.length then(HW d (a-b) a v2).bind fun e=>(Vf c a b v2 e).m else none)
def Vn(c:List α)(d:Int)(a:Int)(v2:Int)(b:List α):PT 1 (Lv (Int×Int×List α) (Int×List α) (List α)):=vs (wi (v2-a))<|vz (fl b)<|ln (Qi c d) (a,(v2-a),b)
def UV(b:List α)(c:Int)(d:Int)(v2:Int)(a:List α):PT 1 (Lv (Int×Int×List α) (Int×List α) (List α)):=vz (fl a)<|lc (Ac [(0,.ref (0,0) 0 0 b.length),(2,vI c),(4,.fn (.yield 4) [] []),(10,vI d),(11,vI v2)] [((0,0),⟨0,true,.t (Tid.t α),Rw.s α,Ab Rw.e a⟩)]) ((Vn b c d v2 a).m)
def U5(c:List α)(b:Int)(a:Int)(v2:Int)(d:List α):PT 1 (Lv (Int×Int×List α) (Int×List α) (List α)):=vs (wi (b-a))<|vs (wi (b+v2))<|vs (wi ((b+v2)-a))<|vz (fl d)<|lc (Ac [(0,.ref (0,0) 0 0 c.length),(2,vI b),(4,.fn (.yield 4) [] []),(10,vI a),(11,vI v2),(35,.ref (0,0) 0 0 c.length),(38,vI (b-a)),(43,vI ((b+v2)-a)),(44,vI a),(45,.fn (.yield 4) [] [])] [((0,0),⟨0,true,.t (Tid.t α),Rw.s α,Ab Rw.e d⟩)]) (if c.length=d.length then(HW d (b-a) ((b+v2)-a) a).bind fun e=>(UV c b a v2 e).m else none)
def Vs(c:List α)(d:Int)(a:Int)(v2:Int)(b:List α):PT 1 (Lv (Int×Int×List α) (Int×List α) (List α)):=vz (fl b)<|lc (Ac [(0,.ref (0,0) 0 0 c.length),(2,vI d),(4,.fn (.yield 4) [] []),(10,vI a),(11,vI v2),(23,vB (decide (v2<a)))] [((0,0),⟨0,true,.t (Tid.t α),Rw.s α,Ab Rw.e b⟩)]) (if decide (v2<a)=true then(Vj c d a v2 b).m else(U5 c d a v2 b).m)
def UR(c:List α)(d:Int)(b:Int)(v2:Int)(a:List α):PT 1 (Lv (Int×Int×List α) (Int×List α) (List α)):=br (!decide (b=v2)) (vz (fl a)<|lc (Ac [(0,.ref (0,0) 0 0 c.length),(2,vI d),(4,.fn (.yield 4) [] []),(10,vI b),(11,vI v2)] [((0,0),⟨0,true,.t (Tid.t α),Rw.s α,Ab Rw.e a⟩)]) ((Vs c d b v2 a).m)) (vz (fl a)<|Af (VJ c d) (b,a))
def GJ(a:List α)(b:Int):Int×Int×List α→Option (Lv (Int×Int×List α) (Int×List α) (List α)):=fun(d,v2,c)=>(UR a b d v2 c).m
def Qw(a:List α):PT 1 (List α):=lr KW (KQ) a
def Ztl(a:List α):PT 1 (List α):=vz (fl a)<|lc (Ac [] [((0,0),⟨0,true,.t (Tid.t α),Rw.s α,Ab Rw.e a⟩)]) ((Qw a).m)
def ZsC(d:List α)(a:Int)(b:Int)(c:List α):PT 1 (List α):=vs (wi (a-b))<|vz (fl c)<|lc (Ac [(50,.ref (0,0) 0 0 d.length),(53,vI (a-b)),(54,vI a),(55,vI b),(56,.fn (.yield 4) [] [])] [((0,0),⟨0,true,.t (Tid.t α),Rw.s α,Ab Rw.e c⟩)]) (if d.length=c.length then(HW c (a-b) a b).bind fun e=>(Ztl e).m else none)
def ZtV(b:List α)(c:Int)(a:Int)(d:Int):PT 1 (List α):=vs (wi (a-c))<|vs (wi (d-a))<|vz (fl b)<|lc (Ac [(0,.ref (0,0) 0 0 b.length),(2,vI a),(4,.fn (.yield 4) [] []),(10,vI (a-c)),(11,vI (d-a))] [((0,0),⟨0,true,.t (Tid.t α),Rw.s α,Ab Rw.e b⟩)]) ((Aj (GJ b a) Ag ((a-c),(d-a),b)).bind (Sum.elim (fun(f,e)=>(ZsC b a f e).m) some))
def Le(a:List α)(b:Int)(c:Int)(d:Int):Option (List α):=(ZtV a b c d).m
end
theorem ZyJ{C:Cx}(co:CO C 1)(c:List Pr)(a:Int):KL Tryz.prog (As tl) 58 C (pa [0,0,0,1,1] (At Tryz.f176)) [] 1 (Qi c a) (VJ c a) KW (KQ) (GJ c a):=fun(b,v2,e) _ m Q f d L=>mJ co 1 (Aa [0,2,4,10,11] Ah) (Aa [0,2,4,10] Ah) d m L fun r g=>⟨fun _ m L=>bk 1 (mJ co 1 (Aa [0,2,4,10,11,23] Ah) nl d m L fun r g=>fun _ m L=>Bg m (fun m=>sq (rg (pR co 7 (Aa [0,2,4,10,11,24,27,28,29,30] Ah) m L fun r g=>fun _ m L=>BK m fun heq m=>c6 (θ:=fun r=>AA [(4,r.θ 4)]) (xs:=[.ref (0,0) 0 0 c.length,vI (a-b),vI a,vI v2,.fn (.yield 4) [] []]) (hx:=by intro r H;rw[heq];kernel_rfl) co m (aM e (a-b) a v2) [((0,0),⟨0,true,63,14,Ab Aq e⟩)] [] (fun z=>.tup []) (fun z=>[((0,0),⟨0,true,63,14,Ab Aq z⟩)]) [] fun h m=>eR co (Aa [0,2,4,10,11] Ah) m L fun r g=>fun _ m L=>eN co (Aa [0,2,4,10,11] Ah) nl d m L))) (fun m=>sq (rg (pR co 11 (Aa [0,2,4,10,11,35,38,43,44,45] Ah) m L fun r g=>fun _ m L=>BK m fun heq m=>c6 (θ:=fun r=>AA [(4,r.θ 4)]) (xs:=[.ref (0,0) 0 0 c.length,vI (a-b),vI ((a+v2)-b),vI b,.fn (.yield 4) [] []]) (hx:=by intro r H;rw[heq];kernel_rfl) co m (aM e (a-b) ((a+v2)-b) b) [((0,0),⟨0,true,63,14,Ab Aq e⟩)] [] (fun z=>.tup []) (fun z=>[((0,0),⟨0,true,63,14,Ab Aq z⟩)]) [] fun i m=>eR co (Aa [0,2,4,10,11] Ah) m L fun r g=>fun _ m L=>eN co (Aa [0,2,4,10,11] Ah) nl d m L)))),id⟩
theorem ZWc(b:List Pr)(d:Int)(a:Int)(e:Int):KO Tryz.prog 176 1 [.ref (0,0) 0 0 b.length,vI d,vI a,vI e,.fn (.yield 4) [] []] [⟨0,true,63,14,Ab Aq b⟩] (fun _ _ _ _=>True) (Le b d a e) KW (KQ):=kO Tryz.func176 Tryz.ntmps176 [] 1 (fun co i m L=>mJ co 2 (Aa [0,2,4,10,11] Ah) nl nH m L fun r g=>fun _ m L=>sq (bk 0 (lo (Ax (ZyJ co b a) nH m L (fun(c,f) m=>rg (pR co 7 (Aa [50,53,54,55,56] Ah) m L fun r g=>fun _ m L=>BK m fun heq m=>c6 (θ:=fun r=>AA [(4,r.θ 4)]) (xs:=[.ref (0,0) 0 0 b.length,vI (a-c),vI a,vI c,.fn (.yield 4) [] []]) (hx:=by intro r H;rw[heq];kernel_rfl) co m (aM f (a-c) a c) [((0,0),⟨0,true,63,14,Ab Aq f⟩)] [] (fun z=>.tup []) (fun z=>[((0,0),⟨0,true,63,14,Ab Aq z⟩)]) [] fun h m=>eR co (Aa [] Ah) m L fun r g=>fun _ m L=>BX (Qw h) co m L (fun r g=>id) r g))))))
end Go.Proofs.YtbcmdieedjamgaaGreat
