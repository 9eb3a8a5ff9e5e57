import Derived.Test.YthgmbpciandpiaaGreatLx23
import Derived.Test.YthgmbpciandpiaaGreatLx00
namespace Go.Proofs.YthgmbpciandpiaaGreat
set_option maxRecDepth 100000
set_option linter.all false
open Go Go.Eng
abbrev dk:List (Ad×Bool):=[((1,9),false),((1,10),false),((1,13),false),((1,16),false)]
abbrev RK(a:Val):Ad×Blk:=kk 9 33 7 (cD (Ag a))
abbrev VZ:Ad×Blk:=kk 10 33 7 [vI 0,.d (.int .u64 0),vS ⟨#[]⟩,.e0,.e0,.e0,.e0]
abbrev WK(a:Acs×Fld×Int):Ad×Blk:=kk 13 56 16 (cD (An a.2.1))
abbrev wW(a:Val):Ad×Blk:=kk 16 33 7 (cD (Ag a))
abbrev K1:Val×Int→AV:=fun y=>.tup [.agg ((Ag y.1).map .d),vI y.2]
def vt(h:Int)(i:Val)(j:Acs×Fld×Int)(d:List Fld):Nat×Int×Int×ByteArray×List Val×List Pr×List Slt×List Raw→St:=fun(v5,c6,e,f,g,a,b,c)=>Ab [(3,vI h),pp 9,pp 10,pp 13,pp 16,(46,vL An d),(47,vN d.length),(48,vN v5)] [(RK i),VZ,(WK j),kk 16 33 7 [vI c6,.d (.int .u64 e),vS f,vL AM g,vL Ay a,vL Ap b,vL AZ c]]
def vE(h:Int)(i:Val)(j:Acs×Fld×Int):Int×Int×ByteArray×List Val×List Pr×List Slt×List Raw→Nat×St:=fun(a,b,c,d,e,f,g)=>(0,Ab [(3,vI h),pp 9,pp 10,pp 13,pp 16] [(RK i),VZ,(WK j),kk 16 33 7 [vI a,.d (.int .u64 b),vS c,vL AM d,vL Ay e,vL Ap f,vL AZ g]])
def zW(j:Int)(k:Val)(l:Acs×Fld×Int)(f:List Fld)(v5:Nat)(c6:Int)(g:Int)(h:ByteArray)(i:List Val)(b:List Pr)(c:List Slt)(d:List Raw):PT 0 (Lv (Nat×Int×Int×ByteArray×List Val×List Pr×List Slt×List Raw) (Int×Int×ByteArray×List Val×List Pr×List Slt×List Raw) (Val×Int)):=br (decide ((v5:Int)<(f.length:Int))) (ix f v5 fun e=>wg<|wg<|wg<|cl (dq (.mk c6 g h i b c d:Val) e.num) fun a=>wg<|vs (wa v5 1)<|ln (vt j k l f) (v5+1,a.kind,a.bits,a.text,a.list,a.pairs,a.slots,a.raws)) (Aj (vE j k l) (c6,g,h,i,b,c,d))
def wC(g:Int)(h:Val)(i:Acs×Fld×Int)(j:List Fld):Nat×Int×Int×ByteArray×List Val×List Pr×List Slt×List Raw→Option (Lv (Nat×Int×Int×ByteArray×List Val×List Pr×List Slt×List Raw) (Int×Int×ByteArray×List Val×List Pr×List Slt×List Raw) (Val×Int)):=fun(v5,c6,d,e,f,a,b,c)=>(zW g h i j v5 c6 d e f a b c).m
def yo(k:Int)(j:Val)(l:Acs×Fld×Int)(a:Int)(b:Int)(c:ByteArray)(d:List Val)(e:List Pr)(f:List Slt)(g:List Raw):PT 0 (Val×Int):=wg<|wg<|cl (ZZ6 l.2.1 j) fun h=>br (!h) (wg<|wg<|cl (S3 f (.mk k j:Slt)) fun i=>wg<|wg<|wg<|lr K1 nG ((.mk a b c d e i g:Val),0)) (wg<|wg<|lr K1 nG ((.mk a b c d e f g:Val),0))
def y8(k:Int)(l:Val)(b:Acs×Fld×Int)(a:Val):PT 0 (Val×Int):=wg<|wg<|cl (db b.1.m b.2.1.union) fun c=>vz (Ah c)<|lc (Ab [(3,vI k),pp 9,pp 10,pp 13,pp 16,(46,vL An c),(47,vN c.length),(48,vI 0)] [(RK l),VZ,(WK b),(wW a)]) ((Am (wC k l b c) Ai (0,a.kind,a.bits,a.text,a.list,a.pairs,a.slots,a.raws)).bind (Sum.elim (fun(d,e,f,g,h,i,j)=>(yo k l b d e f g h i j).m) some))
def zy(f:Scm)(g:ByteArray)(h:Val)(b:Int)(c:Val):PT 0 (Val×Int):=wg<|cl (ZYq f g b) fun a=>wg<|wg<|br (!decide (a.2.2=(0:Int))) (wg<|lr K1 nG ((.mk 0 0 ⟨#[]⟩ [] [] [] []:Val),a.2.2)) (wg<|wg<|wg<|cl (ZZj a.1 a.2.1 c) fun d=>br (!decide (d=(0:Int))) (wg<|lr K1 nG ((.mk 0 0 ⟨#[]⟩ [] [] [] []:Val),d)) (wg<|cl (dq h b) fun e=>wg<|lc (Ab [(3,vI b),pp 9,pp 10,pp 12,pp 13,pp 16] [(RK c),VZ,kk 12 68 8 (cD (Cc a.1)),(WK a),(wW e)]) ((y8 b c a e).m)))
def ZkI(a:Scm)(b:ByteArray)(c:Val)(d:Int)(e:Val):Option (Val×Int):=(zy a b c d e).m
theorem ZME{C:Cx}(co:CO C 0)(a:Int)(b:Val)(c:Acs×Fld×Int)(h:List Fld):KL Tryz.prog (Az tl) 69 C (pa [0,0,1,0,1,1,1,1,1] (Aw Tryz.f11)) [.cell 10 33,.tmp 11] 0 (vt a b c h) (vE a b c) K1 nG (wC a b c h):=fun(v5,c6,j,k,l,d,e,f) _ hm Q i o n=>Av co Aa Ac (zW a b c h v5 c6 j k l d e f) (Ae [3,9,10,13,16,46,47,48] dk) (Ae [3,9,10,13,16] dk) o hm n fun r g=>⟨fun m=>fun p=>id,id⟩
theorem ZY0(l:Scm)(m:ByteArray)(n:Val)(b:Int)(c:Val):KC Tryz.prog 11 [.agg ((Al l).map .d),vS m,.agg ((Ag n).map .d),vI b,.agg ((Ag c).map .d)] (ZkI l m n b c) K1:=As Tryz.func11 Tryz.ntmps11 Aa [.cell 10 33,.tmp 11] fun C co y hm p a=>Ak co Aa Ac 5 (zy l m n b c) (Ae [3,9,10,12,13,16] [((1,9),false),((1,10),false),((1,12),false),((1,13),false),((1,16),false)]) nl nH hm a fun r g=>fun o=>⟨id,fun v=>⟨id,fun t=>fun _ hm a=>sq (Ak co Aa Ac 1 (y8 b c o t) (Ae [3,9,10,13,16,46,47,48] dk) nl nH hm a fun r g=>fun u=>fun _ hm a=>bk 0 (lo (AF (ZME co b c o u) nH hm a (fun(d,e,f,h,i,j,k) hm=>Ao co Aa Ac (yo b c o d e f h i j k) hm a fun r g=>fun q=>⟨fun s=>id,id⟩))))⟩⟩
abbrev SK:List (Ad×Bool):=[((1,1),false),((1,2),false),((1,3),false),((1,10),false),((1,11),false)]
abbrev cL:List (Ad×Bool):=[((1,2),false),((1,3),false),((1,10),false),((1,11),false)]
abbrev Kv:Ad×Blk:=kk 2 128 2 [.p (.map none),.p (.map none)]
abbrev Kx:Ad×Blk:=kk 3 128 2 [.mp (1,10) 0,.mp (1,11) 0]
abbrev PY:Ad×Blk:=kk 11 (.m false (([]:List (ByteArray×Bool)).map A5)) 0 []
abbrev Rk(a:Scm):Ad×Blk:=kk 1 26 3 (cD (Al a))
abbrev Qu:Web→AV:=fun y=>.agg ((Jw y).map .d)
def ZA(a:Scm):Nat×List (ByteArray×Msg)→St:=fun(c,b)=>Ab [pp 1,pp 2,pp 3,(14,vL AB a.messages),(15,vN a.messages.length),(16,vN c)] [(Rk a),Kv,Kx,kk 10 (.m true (b.map A5)) 0 [],PY]
def zP(a:Scm):List (ByteArray×Msg)→Nat×St:=fun b=>(0,Ab [pp 1,pp 2,pp 3] [(Rk a),Kv,Kx,kk 10 (.m true (b.map A5)) 0 [],PY])
def WB(c:Scm)(a:Nat)(d:List (ByteArray×Msg)):PT 0 (Lv (Nat×List (ByteArray×Msg)) (List (ByteArray×Msg)) (Web)):=br (decide ((a:Int)<(c.messages.length:Int))) (ix c.messages a fun b=>wg<|wg<|wg<|F1 d b.name fun f e=>wg<|br (!e) (wg<|wg<|wg<|G9 d b.name b<|vs (wa a 1)<|ln (ZA c) (a+1,Cv b.name b d)) (vs (wa a 1)<|ln (ZA c) (a+1,d))) (Aj (zP c) d)
def MQ(a:Scm):Nat×List (ByteArray×Msg)→Option (Lv (Nat×List (ByteArray×Msg)) (List (ByteArray×Msg)) (Web)):=fun(c,b)=>(WB a c b).m
def zx(a:Scm)(b:List (ByteArray×Msg)):Nat×List (ByteArray×Bool)→St:=fun(d,c)=>Ab [pp 2,pp 3,(37,vL Bz a.enums),(38,vN a.enums.length),(39,vN d)] [Kv,Kx,kk 10 (.m true (b.map A5)) 0 [],kk 11 (.m false (c.map A5)) 0 []]
def yq(b:List (ByteArray×Msg)):List (ByteArray×Bool)→Nat×St:=fun a=>(2,Ab [pp 2,pp 3] [Kv,Kx,kk 10 (.m true (b.map A5)) 0 [],kk 11 (.m false (a.map A5)) 0 []])
def VY(b:Scm)(e:List (ByteArray×Msg))(a:Nat)(c:List (ByteArray×Bool)):PT 0 (Lv (Nat×List (ByteArray×Bool)) (List (ByteArray×Bool)) (Web)):=br (decide ((a:Int)<(b.enums.length:Int))) (ix b.enums a fun d=>wg<|wg<|wg<|G9 c d.name (true:Bool)<|vs (wa a 1)<|ln (zx b e) (a+1,Cv d.name (true:Bool) c)) (Aj (yq e) c)
def M0(a:Scm)(b:List (ByteArray×Msg)):Nat×List (ByteArray×Bool)→Option (Lv (Nat×List (ByteArray×Bool)) (List (ByteArray×Bool)) (Web)):=fun(d,c)=>(VY a b d c).m
def ax(b:List (ByteArray×Msg))(a:List (ByteArray×Bool)):PT 0 (Web):=wg<|wg<|lr Qu nG (.mk b a:Web)
def bm(a:Scm)(c:List (ByteArray×Msg)):PT 0 (Web):=wg<|vz (Ah a.enums)<|lc (Ab [pp 2,pp 3,(37,vL Bz a.enums),(38,vN a.enums.length),(39,vI 0)] [Kv,Kx,kk 10 (.m true (c.map A5)) 0 [],PY]) ((Am (M0 a c) Ai (0,([]:List (ByteArray×Bool)))).bind (Sum.elim (fun b=>(ax c b).m) some))
def X0(a:Scm):PT 0 (Web):=wg<|vz (Ah a.messages)<|lc (Ab [pp 1,pp 2,pp 3,(14,vL AB a.messages),(15,vN a.messages.length),(16,vI 0)] [(Rk a),Kv,Kx,kk 10 (.m true (([]:List (ByteArray×Msg)).map A5)) 0 [],PY]) ((Am (MQ a) Ai (0,([]:List (ByteArray×Msg)))).bind (Sum.elim (fun b=>(bm a b).m) some))
def aV(a:Scm):PT 0 (Web):=wg<|lc (Ab [pp 1,pp 2,pp 3] [(Rk a),Kv,Kx,kk 10 (.m true (([]:List (ByteArray×Msg)).map A5)) 0 [],PY]) ((X0 a).m)
def fF(a:Scm):Option (Web):=(aV a).m
theorem ZJG{C:Cx}(co:CO C 0)(a:Scm):KL Tryz.prog (Az tl) 49 C (pa [0,0,1,0,1,1] (Aw Tryz.f69)) [.cell 2 128] 0 (ZA a) (zP a) Qu nG (MQ a):=fun(f,e) _ hm Q b d c=>Av co Aa Ac (WB a f e) (Ae [1,2,3,14,15,16] SK) (Ae [1,2,3] SK) d hm c fun r g=>⟨fun i=>fun j h=>⟨id,id⟩,id⟩
theorem ZKL{C:Cx}(co:CO C 0)(b:Scm)(a:List (ByteArray×Msg)):KL Tryz.prog (Az tl) 49 C (pa [0,0,1,0,1,1,1] (Aw Tryz.f69)) [.cell 2 128] 0 (zx b a) (yq a) Qu nG (M0 b a):=fun(h,f) _ hm Q c e d=>Av co Aa Ac (VY b a h f) (Ae [2,3,37,38,39] cL) (Ae [2,3] cL) e hm d fun r g=>⟨fun i=>id,id⟩
theorem ZZp(b:Scm):KC Tryz.prog 69 [.agg ((Al b).map .d)] (fF b) Qu:=As Tryz.func69 Tryz.ntmps69 Aa [.cell 2 128] fun C co y hm e a=>Ak co Aa Ac 2 (aV b) (Ae [1,2,3] SK) nl nH hm a fun r g=>fun _ hm a=>sq (Ak co Aa Ac 1 (X0 b) (Ae [1,2,3,14,15,16] SK) nl nH hm a fun r g=>fun _ hm a=>bk 0 (lo (AF (ZJG co b) nH hm a (fun d hm=>sq (Ak co Aa Ac 1 (bm b d) (Ae [2,3,37,38,39] cL) nl nH hm a fun r g=>fun _ hm a=>bk 2 (lo (AF (ZKL co b d) nH hm a (fun c hm=>Ao co Aa Ac (ax d c) hm a fun r g=>id))))))))
abbrev SE:List ByteArray→AV:=fun y=>vL AW y
def uk:List ByteArray×List (ByteArray×Msg)→St:=fun(a,b)=>Ab [(3,.ref (1,3) 0 0 a.length),pp 7] [kk 3 9 1 (Af AW a),kk 7 (.i true (b.map A5) none) 0 []]
def qh:List ByteArray→Nat×St:=fun a=>(0,Ab [(3,.ref (1,3) 0 0 a.length)] [kk 3 9 1 (Af AW a)])
def Vy(a:List ByteArray)(d:List (ByteArray×Msg)):PT 0 (List (Lv (List ByteArray×List (ByteArray×Msg)) (List ByteArray) (List ByteArray))):=nE d (wg<|vz (fl a)<|ZXu (qh) a) fun b c=>wg<|vw .sep<|vw .sep<|vw .sep<|ap a (b.1:ByteArray)<|vz (fl (a++[b.1]))<|lnN (uk) (a++[b.1],c)
def Ms:List ByteArray×List (ByteArray×Msg)→Option (List (Lv (List ByteArray×List (ByteArray×Msg)) (List ByteArray) (List ByteArray))):=fun(a,b)=>(Vy a b).m
def kq(a:List ByteArray):PT 0 (List (List ByteArray)):=vz (fr a)<|lrN SE nG a
def mz(b:List ByteArray)(a:List ByteArray):PT 0 (List (List ByteArray)):=rn 3 3 b.length a<|vz (fl a)<|lc (Ab [(3,.ref (1,3) 0 0 a.length)] [kk 3 9 1 (Af AW a)]) ((kq a).m)
def mn(a:List ByteArray):PT 0 (List (List ByteArray)):=vz (fl a)<|lc (Ab [(3,.ref (1,3) 0 0 a.length),(16,.ref (1,3) 0 0 a.length)] [kk 3 9 1 (Af AW a)]) ((fE a).bind fun b=>(mz a b).m)
def iR(a:Web):PT 0 (List (List ByteArray)):=vw (.ads 3 3 9 1)<|vz (fl ([]:List ByteArray))<|lc (Ab [(3,.ref (1,3) 0 0 ([]:List ByteArray).length),pp 7] [kk 3 9 1 (Af AW ([]:List ByteArray)),kk 7 (.i true (a.messages.map A5) none) 0 []]) (PS (I8 (Ms) Ai (([]:List ByteArray),a.messages)) (Sum.elim (fun b=>(mn b).m) (fun z=>some [z])))
def kc(a:Web):PT 0 (List (List ByteArray)):=wg<|lc (Ab [(3,.e0),pp 7] [kk 7 (.i true (a.messages.map A5) none) 0 []]) ((iR a).m)
def lN(a:Web):PT 0 (List (List ByteArray)):=lc (Ab [pp 1,(3,.e0)] [kk 1 128 2 [.d (.map true (a.messages.map A5)),.d (.map false (a.enums.map A5))]]) ((kc a).m)
def eM(a:Web):Option (List (List ByteArray)):=(lN a).m
theorem ZyU{C:Cx}(co:CO C 0):Xn Tryz.prog (Az tl) 19 C (pa [0,0,1,0,1,1] (Aw Tryz.f106)) [.tmp 2] 0 (uk) (qh) SE nG (Ms):=fun(d,e) _ hm Q a c b=>Av co Aa Ac (Vy d e) (Ae [3,7] [((1,3),true),((1,7),false)]) (Ae [3] [((1,3),true)]) c hm b fun r g=>⟨ZA3 _,fun h=>h _ (.head _),fun i f=>fun h=>h _ (.head _)⟩
theorem ZWF(c:Web):KCN Tryz.prog 106 [.agg ((Jw c).map .d)] (eM c) SE:=ZZd Tryz.func106 Tryz.ntmps106 Aa [.tmp 2] fun C co y hm d a=>Ak co Aa Ac 2 (lN c) (Ae [1,3] BC) nl nH hm a fun r g=>fun _ hm a=>sq (Ak co Aa Ac 1 (kc c) (Ae [3,7] [((1,7),false)]) nl nH hm a fun r g=>fun _ hm a=>bk 0 (Fh co (iR c) (Ae [3,7] [((1,3),true),((1,7),false)]) hm a fun r g=>fun _ hm a=>lo (ZZQ (ZyU co) nH hm a (fun b _ hm a=>sq (rg (BJ co Aa 1 (mn b) (Ae [3,16] [((1,3),true)]) hm a fun r g=>fun _ hm a=>HK co hm 152 [.ref (1,3) 0 0 b.length] [(1,3)] ([kk 3 9 1 (Af AW b)]++[]) (fun z=>.tup []) (fun z=>[kk 3 9 1 (Af AW z)]) [] (fun z=>trivial) (trivial) (fun z f r g=>Eg (ZUX b) f co g [kk 3 9 1 (Af AW b)] [] [kk 3 9 1 (Af AW z)] (AN []) (fun i hg j=>trivial) (fun H=>⟨fun _=>⟨rfl,BA (A2 _ _) (by kernel_rfl)⟩,by kernel_rfl,trivial⟩) (fun H=>⟨fun _=>⟨rfl,BA (A2 _ _) (by kernel_rfl)⟩,by kernel_rfl,trivial⟩)) fun e hm=>Bf co Aa (mz b e) (Ae [3] [((1,3),true)]) hm a fun r g=>fun _ hm a=>Ao co Aa Ac (kq e) hm a fun r g=>fun h=>h _ (.head _)))))))
def Zey(a:Web):Option (List ByteArray):=N9 (eM a)
theorem ZRa(a:Web):KC Tryz.prog 106 [.agg ((Jw a).map .d)] (Zey a) SE:=(ZWF a).uniq
abbrev ZYP:Bool→AV:=fun y=>vB y
def jR(c:Web)(a:Fld):PT 0 (Bool):=wg<|wg<|F1 c.messages a.type.name fun d b=>wg<|wg<|lr ZYP nG (b&&decide (a.type.kind=(10:Int)))
def fL(a:Web)(b:Fld):Option (Bool):=(jR a b).m
theorem ZU3(a:Web)(b:Fld):KC Tryz.prog 153 [.agg ((Jw a).map .d),.agg ((An b).map .d)] (fL a b) ZYP:=As Tryz.func153 Tryz.ntmps153 Aa [.tmp 4] fun C co y hm c d=>Ao co Aa Ac (jR a b) hm d fun r g=>fun f e=>id
abbrev ak(a:Web):Ad×Blk:=kk 3 128 2 [.d (.map true (a.messages.map A5)),.d (.map false (a.enums.map A5))]
abbrev UB:Int→AV:=fun y=>vI y
@[reducible] def Uw(a:List (ByteArray×Int)):Int→List Blk:=fun y=>[⟨0,true,.m false (a.map A5),0,[]⟩]
def gC(b:Web)(c:List (ByteArray×Int))(a:Msg):Int×Nat→St:=fun(v3,v4)=>Ab [(2,.mp (0,0) 0),pp 3,(7,vI v3),(15,vL An a.fields),(16,vN a.fields.length),(17,vN v4)] [((0,0),⟨0,true,.m false (c.map A5),0,[]⟩),(ak b)]
def ZoN(a:List (ByteArray×Int)):Int→Nat×St:=fun v9=>(0,Ab [(7,vI v9)] [((0,0),⟨0,true,.m false (a.map A5),0,[]⟩)])
def T3(e:Web)(a:List (ByteArray×Int))(c:Msg)(v3:Int)(v4:Nat):PT 1 (Lv (Int×Nat) (Int) (Int)):=br (decide ((v4:Int)<(c.fields.length:Int))) (ix c.fields v4 fun b=>wg<|wg<|wg<|wg<|AC (!(!decide (b.card=(1:Int)))) (ZU3 e b) fun f=>br ((!decide (b.card=(1:Int)))||(!f)) (vs (wa v4 1)<|ln (gC e a c) (v3,v4+1)) (wg<|F1 a b.type.name fun d g=>br (decide (d=(0:Int))) (Au UB (Uw a) 0) (vs (wi (d+1))<|vs (wa v4 1)<|ln (gC e a c) ((C5 true v3 (d+1)),v4+1)))) (Aj (ZoN a) v3)
def OW(b:Web)(c:List (ByteArray×Int))(a:Msg):Int×Nat→Option (Lv (Int×Nat) (Int) (Int)):=fun(v3,v4)=>(T3 b c a v3 v4).m
def gJ(a:List (ByteArray×Int))(v9:Int):PT 1 (Int):=lr UB (Uw a) v9
def g8(b:Web)(d:ByteArray)(c:List (ByteArray×Int)):PT 1 (Int):=wg<|F1 b.messages d fun a e=>vz (Ah a.fields)<|lc (Ab [(2,.mp (0,0) 0),pp 3,(7,vI 1),(15,vL An a.fields),(16,vN a.fields.length),(17,vI 0)] [((0,0),⟨0,true,.m false (c.map A5),0,[]⟩),(ak b)]) ((Am (OW b c a) Ai (1,0)).bind (Sum.elim (fun v9=>(gJ c v9).m) some))
def gT(a:Web)(b:ByteArray)(c:List (ByteArray×Int)):PT 1 (Int):=lc (Ab [(1,vS b),(2,.mp (0,0) 0),pp 3,(7,vI 1)] [((0,0),⟨0,true,.m false (c.map A5),0,[]⟩),(ak a)]) ((g8 a b c).m)
def Tk(a:Web)(b:ByteArray)(c:List (ByteArray×Int)):Option (Int):=(gT a b c).m
theorem Zqc{C:Cx}(co:CO C 1)(c:Web)(a:List (ByteArray×Int))(b:Msg):KL Tryz.prog (Az tl) 43 C (pa [0,0,1,0,1,1] (Aw Tryz.f107)) [.tmp 6] 1 (gC c a b) (ZoN a) UB (Uw a) (OW c a b):=fun(v3,v4) _ hm Q d f e=>Av co Aa Ac (T3 c a b v3 v4) (Ae [2,3,7,15,16,17] [((0,0),false),((1,3),false)]) (Ae [7] [((0,0),false)]) f hm e fun r g=>⟨fun i=>fun k=>⟨id,fun j h=>⟨id,id⟩⟩,id⟩
theorem ZI0(c:Web)(d:ByteArray)(a:List (ByteArray×Int)):KO Tryz.prog 107 1 [.agg ((Jw c).map .d),vS d,.mp (0,0) 0] [⟨0,true,.m false (a.map A5),0,[]⟩] (fun _ _ _ _=>True) (Tk c d a) UB (Uw a):=Bi Tryz.func107 Tryz.ntmps107 Aa [.tmp 6] 1 (fun C co i y hm e b=>Ak co Aa Ac 2 (gT c d a) (Ae [1,2,3,7] [((0,0),false),((1,3),false)]) nl nH hm b fun r g=>fun _ hm b=>sq (Ak co Aa Ac 1 (g8 c d a) (Ae [2,3,7,15,16,17] [((0,0),false),((1,3),false)]) nl nH hm b fun r g=>fun f h=>fun _ hm b=>bk 0 (lo (AF (Zqc co c a f) nH hm b (fun v9 hm=>Ao co Aa Ac (gJ a v9) hm b fun r g=>id))))) (hB:=fun y=>⟨.inl Zlx,rfl,trivial⟩)
abbrev Jy:List (Ad×Bool):=[((1,1),false),((1,8),false)]
abbrev KM(a:Web):Ad×Blk:=kk 1 128 2 [.d (.map true (a.messages.map A5)),.d (.map false (a.enums.map A5))]
abbrev Qv:List (ByteArray×Int)→AV:=fun y=>.d (.map false (y.map A5))
def vd(b:Web)(a:List ByteArray):Nat×List (ByteArray×Int)→St:=fun(v2,c)=>Ab [pp 1,(3,.mp (1,8) 0),(4,vL AW a),(12,vN a.length),(13,vN v2)] [(KM b),kk 8 (.m false (c.map A5)) 0 []]
def x5:List (ByteArray×Int)→Nat×St:=fun a=>(0,Ab [(3,.mp (1,8) 0)] [kk 8 (.m false (a.map A5)) 0 []])
def bV(b:Web)(a:List ByteArray)(v2:Nat):Nat×List (ByteArray×Int)→St:=fun(v4,c)=>Ab [pp 1,(3,.mp (1,8) 0),(4,vL AW a),(12,vN a.length),(13,vN v2),(15,vL AW a),(16,vN a.length),(17,vN v4)] [(KM b),kk 8 (.m false (c.map A5)) 0 []]
def z2(b:Web)(a:List ByteArray)(v2:Nat):List (ByteArray×Int)→Nat×St:=fun c=>(2,Ab [pp 1,(3,.mp (1,8) 0),(4,vL AW a),(12,vN a.length),(13,vN v2)] [(KM b),kk 8 (.m false (c.map A5)) 0 []])
def Pw(b:Web)(c:List ByteArray)(v2:Nat)(v4:Nat)(a:List (ByteArray×Int)):PT 0 (Lv (Nat×List (ByteArray×Int)) (List (ByteArray×Int)) (List (ByteArray×Int))):=br (decide ((v4:Int)<(c.length:Int))) (ix c v4 fun d=>wg<|cs Tryz.prog 107 [.agg ((Jw b).map .d),vS d,.mp (1,8) 0] [(1,8)] [kk 8 (.m false (a.map A5)) 0 []] (Tk b d a) (fun y=>vI y) fun e=>br (decide ((0:Int)<e)) (G9 a d e<|vs (wa v4 1)<|ln (bV b c v2) (v4+1,Cv d e a)) (vs (wa v4 1)<|ln (bV b c v2) (v4+1,a))) (Aj (z2 b c v2) a)
def MN(a:Web)(c:List ByteArray)(v2:Nat):Nat×List (ByteArray×Int)→Option (Lv (Nat×List (ByteArray×Int)) (List (ByteArray×Int)) (List (ByteArray×Int))):=fun(v4,b)=>(Pw a c v2 v4 b).m
def V0(a:Web)(c:List ByteArray)(v2:Nat)(b:List (ByteArray×Int)):PT 0 (Lv (Nat×List (ByteArray×Int)) (List (ByteArray×Int)) (List (ByteArray×Int))):=vs (wa v2 1)<|ln (vd a c) (v2+1,b)
def WP(b:Web)(a:List ByteArray)(v2:Nat)(c:List (ByteArray×Int)):PT 0 (Lv (Nat×List (ByteArray×Int)) (List (ByteArray×Int)) (List (ByteArray×Int))):=vz (Ah a)<|lc (Ab [pp 1,(3,.mp (1,8) 0),(4,vL AW a),(12,vN a.length),(13,vN v2),(15,vL AW a),(16,vN a.length),(17,vI 0)] [(KM b),kk 8 (.m false (c.map A5)) 0 []]) ((Am (MN b a v2) Ai (0,c)).bind (Sum.elim (fun d=>(V0 b a v2 d).m) (fun z=>some (.rt z))))
def Wm(c:Web)(a:List ByteArray)(v2:Nat)(b:List (ByteArray×Int)):PT 0 (Lv (Nat×List (ByteArray×Int)) (List (ByteArray×Int)) (List (ByteArray×Int))):=br (decide ((v2:Int)<(a.length:Int))) (lc (Ab [pp 1,(3,.mp (1,8) 0),(4,vL AW a),(12,vN a.length),(13,vN v2)] [(KM c),kk 8 (.m false (b.map A5)) 0 []]) ((WP c a v2 b).m)) (Aj (x5) b)
def PV(a:Web)(c:List ByteArray):Nat×List (ByteArray×Int)→Option (Lv (Nat×List (ByteArray×Int)) (List (ByteArray×Int)) (List (ByteArray×Int))):=fun(v2,b)=>(Wm a c v2 b).m
def aQ(a:List (ByteArray×Int)):PT 0 (List (ByteArray×Int)):=lr Qv nG a
def ZO(b:Web)(a:List ByteArray):PT 0 (List (ByteArray×Int)):=vz (Ah a)<|lc (Ab [pp 1,(3,.mp (1,8) 0),(4,vL AW a),(12,vN a.length),(13,vI 0)] [(KM b),kk 8 (.m false (([]:List (ByteArray×Int)).map A5)) 0 []]) ((Am (PV b a) Ai (0,([]:List (ByteArray×Int)))).bind (Sum.elim (fun c=>(aQ c).m) some))
def bZ(a:Web):PT 0 (List (ByteArray×Int)):=wg<|cl (ZRa a) fun b=>lc (Ab [pp 1,(3,.mp (1,8) 0),(4,vL AW b)] [(KM a),kk 8 (.m false (([]:List (ByteArray×Int)).map A5)) 0 []]) ((ZO a b).m)
def eR(a:Web):Option (List (ByteArray×Int)):=(bZ a).m
theorem ZJh{C:Cx}(co:CO C 0)(a:Web)(b:List ByteArray)(v2:Nat):KL Tryz.prog (Az tl) 33 C (pa [0,0,1,0,0,1,1,0,0,1,0,1,1,1] (Aw Tryz.f70)) [.tmp 2] 0 (bV a b v2) (z2 a b v2) Qv nG (MN a b v2):=fun(v4,c) _ hm Q d h f=>Av co Aa Ac (Pw a b v2 v4 c) (Ae [1,3,4,12,13,15,16,17] Jy) (Ae [1,3,4,12,13] Jy) h hm f fun r g=>⟨fun e=>⟨fun y hy=>B6 (ZI0 a e c) hy co g [kk 8 (.m false (c.map A5)) 0 []] [] (AN []) (fun i hg j=>trivial) (fun H=>⟨fun _=>⟨rfl,BA Zlx (by kernel_rfl)⟩,by kernel_rfl,trivial⟩),fun k=>⟨id,id⟩⟩,id⟩
theorem ZMT{C:Cx}(co:CO C 0)(b:Web)(c:List ByteArray):KL Tryz.prog (Az tl) 33 C (pa [0,0,1,0,1,1,1] (Aw Tryz.f70)) [.tmp 2] 0 (vd b c) (x5) Qv nG (PV b c):=fun(v2,f) _ hm Q e d a=>Ak co Aa Ac 2 (Wm b c v2 f) (Ae [1,3,4,12,13] Jy) (Ae [3] [((1,8),false)]) d hm a fun r g=>⟨fun _ hm a=>sq (bk 1 (Ak co Aa Ac 1 (WP b c v2 f) (Ae [1,3,4,12,13,15,16,17] Jy) nl d hm a fun r g=>fun _ hm a=>bk 2 (lo (Fp (ZJh co b c v2) d hm a (fun h hm=>Av co Aa Ac (V0 b c v2 h) (Ae [1,3,4,12,13] Jy) nl d hm a fun r g=>id))))),id⟩
theorem ZZz(b:Web):KC Tryz.prog 70 [.agg ((Jw b).map .d)] (eR b) Qv:=As Tryz.func70 Tryz.ntmps70 Aa [.tmp 2] fun C co y hm c a=>Ak co Aa Ac 3 (bZ b) (Ae [1,3,4] Jy) nl nH hm a fun r g=>fun d=>fun _ hm a=>sq (Ak co Aa Ac 1 (ZO b d) (Ae [1,3,4,12,13] Jy) nl nH hm a fun r g=>fun _ hm a=>bk 0 (lo (AF (ZMT co b d) nH hm a (fun e hm=>Ao co Aa Ac (aQ e) hm a fun r g=>id))))
abbrev nX:Int→AV:=fun y=>vI y
def Zt(b:Scm)(c:ByteArray):PT 0 (Int):=wg<|cl (ZZp b) fun d=>cl (ZZz d) fun e=>F1 e c fun a f=>lr nX nG a
def fK(a:Scm)(b:ByteArray):Option (Int):=(Zt a b).m
theorem ZZh(a:Scm)(b:ByteArray):KC Tryz.prog 33 [.agg ((Al a).map .d),vS b] (fK a b) nX:=As Tryz.func33 Tryz.ntmps33 Aa [.tmp 4] fun C co y hm c d=>Ao co Aa Ac (Zt a b) hm d fun r g=>fun h=>fun i=>fun f e=>id
abbrev cG:List (Ad×Bool):=[((1,2),false),((1,4),false),((1,7),false)]
abbrev PI:Ad×Blk:=kk 4 33 7 [vI 0,.d (.int .u64 0),vS ⟨#[]⟩,.e0,.e0,.e0,.e0]
abbrev RL(a:Scm):Ad×Blk:=kk 2 26 3 (cD (Al a))
abbrev xj:Ad×Blk:=kk 7 33 7 [vI 10,.d (.int .u64 0),vS ⟨#[]⟩,.e0,.e0,.e0,.e0]
abbrev Ih:Val×Int×Bool→AV:=fun y=>.tup [.agg ((Ag y.1).map .d),vI y.2.1,vB y.2.2]
def VT(c:Scm)(a:Msg×Bool):Int×Nat×List Slt→St:=fun(v2,v3,b)=>Ab [pp 2,pp 4,pp 7,(8,vI v2),(24,vL An a.1.fields),(25,vN a.1.fields.length),(26,vN v3)] [(RL c),PI,kk 7 33 7 [vI 10,.d (.int .u64 0),vS ⟨#[]⟩,.e0,.e0,vL Ap b,.e0]]
def wX:Int×List Slt→Nat×St:=fun(b,a)=>(0,Ab [pp 4,pp 7,(8,vI b)] [PI,kk 7 33 7 [vI 10,.d (.int .u64 0),vS ⟨#[]⟩,.e0,.e0,vL Ap a,.e0]])
def bw(b:Scm)(f:Scm→ByteArray→Option (Val×Int×Bool))(c:Msg×Bool)(v2:Int)(v3:Nat)(e:List Slt):PT 0 (Lv (Int×Nat×List Slt) (Int×List Slt) (Val×Int×Bool)):=br (decide ((v3:Int)<(c.1.fields.length:Int))) (ix c.1.fields v3 fun a=>wg<|wg<|br (!decide (a.card=(1:Int))) (vs (wa v3 1)<|ln (VT b c) (v2,v3+1,e)) (wg<|cl (ZYs a.type.kind) fun g=>wg<|wg<|br (decide (a.type.kind=(10:Int))) (wg<|wg<|cs Tryz.prog 34 [.agg ((Al b).map .d),vS a.type.name] [] [] (f b a.type.name) (fun y=>.tup [.agg ((Ag y.1).map .d),vI y.2.1,vB y.2.2]) fun d=>wg<|vs (wi (v2+d.2.1))<|br ((!d.2.2)||decide ((4096:Int)<(v2+d.2.1))) (wg<|Au Ih nG ((.mk 0 0 ⟨#[]⟩ [] [] [] []:Val),0,false)) (wg<|wg<|wg<|cl (S3 e (.mk a.num d.1:Slt)) fun h=>wg<|vs (wa v3 1)<|ln (VT b c) ((v2+d.2.1),v3+1,h))) (vs (wi (v2+1))<|br (decide ((4096:Int)<(v2+1))) (wg<|Au Ih nG ((.mk 0 0 ⟨#[]⟩ [] [] [] []:Val),0,false)) (wg<|wg<|wg<|cl (S3 e (.mk a.num g:Slt)) fun i=>wg<|vs (wa v3 1)<|ln (VT b c) ((v2+1),v3+1,i))))) (Aj (wX) (v2,e))
def V7(c:Scm)(a:Scm→ByteArray→Option (Val×Int×Bool))(d:Msg×Bool):Int×Nat×List Slt→Option (Lv (Int×Nat×List Slt) (Int×List Slt) (Val×Int×Bool)):=fun(v2,v3,b)=>(bw c a d v2 v3 b).m
def Zb(b:Int)(a:List Slt):PT 0 (Val×Int×Bool):=wg<|wg<|lr Ih nG ((.mk 10 0 ⟨#[]⟩ [] [] a []:Val),b,true)
def aG(e:Scm)(a:Scm→ByteArray→Option (Val×Int×Bool))(d:Msg×Bool):PT 0 (Val×Int×Bool):=vw (.adc (1,7) 5 1075 65 8)<|vw (.frz 1075 [] [((1,7),5,(([]:List Slt).map Ap))])<|vz (fz ([]:List Slt))<|lc (Ab [pp 2,pp 4,pp 7,(8,vI 1),(24,vL An d.1.fields),(25,vN d.1.fields.length),(26,vI 0)] [(RL e),PI,kk 7 33 7 [vI 10,.d (.int .u64 0),vS ⟨#[]⟩,.e0,.e0,vL Ap ([]:List Slt),.e0]]) ((Am (V7 e a d) Ai (1,0,([]:List Slt))).bind (Sum.elim (fun(c,b)=>(Zb c b).m) some))
def aB(c:Scm)(b:Scm→ByteArray→Option (Val×Int×Bool))(a:Msg×Bool):PT 0 (Val×Int×Bool):=wg<|vz (Ah a.1.fields)<|lc (Ab [pp 2,pp 4,pp 7,(8,vI 1),(24,vL An a.1.fields),(25,vN a.1.fields.length),(26,vI 0)] [(RL c),PI,xj]) ((aG c b a).m)
def Zz(b:Scm)(d:ByteArray)(a:Scm→ByteArray→Option (Val×Int×Bool)):PT 0 (Val×Int×Bool):=wg<|wg<|cl (Ta b d) fun c=>wg<|lc (Ab [pp 2,pp 4,pp 7,(8,vI 1),pp 9] [(RL b),PI,xj,kk 9 61 5 (cD (AB c.1))]) ((aB b a c).m)
def SY(a:Scm→ByteArray→Option (Val×Int×Bool))(b:Scm)(c:ByteArray):Option (Val×Int×Bool):=(Zz b c a).m
theorem ZK5{C:Cx}(co:CO C 0)(a:Scm)(b:Scm→ByteArray→Option (Val×Int×Bool))(e:Msg×Bool)(d:∀(a:Scm) (h:ByteArray),KC Tryz.prog 34 [.agg ((Al a).map .d),vS h] (b a h) Ih):KL Tryz.prog (Az tl) 71 C (pa [0,0,1,0,1,1,1] (Aw Tryz.f34)) [.cell 4 33,.tmp 5,.tmp 6] 0 (VT a e) (wX) Ih nG (V7 a b e):=fun(v2,v3,j) _ hm Q f l k=>Av co Aa Ac (bw a b e v2 v3 j) (Ae [2,4,7,8,24,25,26] cG) (Ae [4,7,8] [((1,4),false),((1,7),false)]) l hm k fun r g=>⟨fun c=>⟨id,fun m=>⟨⟨fun y hy i _ _=>by rw[(d a c.type.name).x,(d a c.type.name).e];exact(d a c.type.name).k _ i y hy,fun n=>⟨id,fun o=>id⟩⟩,⟨id,fun p=>id⟩⟩⟩,id⟩
theorem ZWQ(a:Scm→ByteArray→Option (Val×Int×Bool))(j:∀(b:Scm) (d:ByteArray),KC Tryz.prog 34 [.agg ((Al b).map .d),vS d] (a b d) Ih)(b:Scm)(d:ByteArray):KC Tryz.prog 34 [.agg ((Al b).map .d),vS d] (SY a b d) Ih:=As Tryz.func34 Tryz.ntmps34 Aa [.cell 4 33,.tmp 5,.tmp 6] fun C co y hm i c=>Ak co Aa Ac 3 (Zz b d a) (Ae [2,4,7,8,9] [((1,2),false),((1,4),false),((1,7),false),((1,9),false)]) nl nH hm c fun r g=>fun h=>fun _ hm c=>sq (Ak co Aa Ac 1 (aB b a h) (Ae [2,4,7,8,24,25,26] cG) nl nH hm c fun r g=>fun _ hm c=>bk 0 (Fh co (aG b a h) (Ae [2,4,7,8,24,25,26] cG) hm c fun r g=>fun _ hm c=>lo (AF (ZK5 co b a h j) nH hm c (fun(f,e) hm=>Ao co Aa Ac (Zb f e) hm c fun r g=>id))))
def IX:Nat→Scm→ByteArray→Option (Val×Int×Bool)
 |0=>fun _ _=>none
 |a+1=>SY (IX a)
theorem ZXl:∀(c:Nat) (a:Scm) (b:ByteArray),KC Tryz.prog 34 [.agg ((Al a).map .d),vS b] (IX c a b) Ih
 |0,a,b=>⟨fun _ _ _ h=>(by cases h),by intro r;kernel_rfl,by intro r y;kernel_rfl⟩
 |c+1,a,b=>ZWQ (IX c) (ZXl c) a b
abbrev W4:Val×Bool→AV:=fun y=>.tup [.agg ((Ag y.1).map .d),vB y.2]
def bY(a:Scm)(b:ByteArray):PT 0 (Val×Bool):=wg<|cl (ZZh a b) fun c=>br (decide (c=(0:Int))||decide ((16:Int)<c)) (wg<|lr W4 nG ((.mk 0 0 ⟨#[]⟩ [] [] [] []:Val),false)) (wg<|cl (ZXl Ai a b) fun d=>wg<|wg<|wg<|lr W4 nG (d.1,d.2.2))
def Tp(a:Scm)(b:ByteArray):Option (Val×Bool):=(bY a b).m
theorem ZXm(a:Scm)(b:ByteArray):KC Tryz.prog 13 [.agg ((Al a).map .d),vS b] (Tp a b) W4:=As Tryz.func13 Tryz.ntmps13 Aa [.cell 4 33,.tmp 5] fun C co y hm c d=>Ao co Aa Ac (bY a b) hm d fun r g=>fun e=>⟨id,fun f=>id⟩
abbrev nZ:Bool→AV:=fun y=>vB y
def H44(a:Fld→Option Bool):Cl:=fun no l H θ=>(∀(z0:Fld) y,a z0=some y→CS Tryz.prog l no H (θ 1) [.agg ((An z0).map .d)] (vB y))
def xA(b:List Fld)(a:Fld→Option Bool):PT 0 (Bool):=cs Tryz.prog 84 [vL An b,.fn (.yield 1) [] []] [] [] (Zew b a) (fun y=>vI y) fun c=>lr nZ nG (decide ((0:Int)≤c))
def Zdv(b:List Fld)(a:Fld→Option Bool):Option (Bool):=(xA b a).m
theorem ZY9(b:List Fld)(a:Fld→Option Bool):KO Tryz.prog 44 0 [vL An b,.fn (.yield 1) [] []] [] (H44 a) (Zdv b a) nZ nG:=Bi Tryz.func44 Tryz.ntmps44 Aa [.tmp 4] 0 (fun C co e y hm c d=>Ao co Aa Ac (xA b a) hm d fun r g=>⟨fun y hy=>B6 (ZY6 b a) hy co g [] [] (AN [(1,r.θ 1)]) (fun i hg f=>(fun z0 y h=>ME co g [] f (e z0 y h))) (fun H=>trivial),fun j=>id⟩)
abbrev n0:Bool→AV:=fun y=>vB y
@[reducible] def ou(w0:Slt):Bool→List Blk:=fun y=>[⟨0,true,65,8,(cD (B2 w0))⟩]
def wR(a:Fld)(w0:Slt):PT 1 (Bool):=wg<|wg<|lr n0 (ou w0) (decide (a.num=w0.num))
def eN(a:Fld)(w0:Slt):Option (Bool):=(wR a w0).m
theorem ZZJ(a:Fld)(w0:Slt):KO Tryz.prog 45 1 [.agg ((An a).map .d),.ptr (0,0) 0 0] [⟨0,true,65,8,(cD (B2 w0))⟩] (fun _ _ _ _=>True) (eN a w0) n0 (ou w0):=Bi Tryz.func45 Tryz.ntmps45 Aa [.tmp 3] 1 (fun C co d y hm b c=>Ao co Aa Ac (wR a w0) hm c fun r g=>id) (hB:=fun y=>⟨.inr (by kernel_rfl),rfl,trivial⟩)
abbrev W5:Int×Int→AV:=fun y=>.tup [vI y.1,vI y.2]
def y7(a:Val)(b:List Fld):Nat→St:=fun v3=>Ab [(12,vL An b),(31,vL Ap a.slots),(32,vN a.slots.length),(33,vN v3)] []
def ZWY:Empty→Nat×St:=Empty.elim
def zU(b:Val)(c:List Fld)(v3:Nat):PT 0 (Lv (Nat) (Empty) (Int×Int)):=bT (decide ((v3:Int)<(b.slots.length:Int)))<|ix b.slots v3 fun a=>wg<|cs Tryz.prog 44 [vL An c,.fn (.func 45) [] [.ptr (1,14) 1 0]] [(1,14)] [((1,14),⟨1,true,65,8,(cD (B2 a))⟩)] (Zdv c (fun(z0:Fld)=>eN z0 a)) (fun y=>vB y) fun d=>br d (wg<|Au W5 nG (a.num,0)) (vs (wa v3 1)<|ln (y7 b c) (v3+1))
def ws(a:Val)(b:List Fld):Nat→Option (Lv (Nat) (Empty) (Int×Int)):=fun v3=>(zU a b v3).m
def wA(a:Val)(b:List Fld):PT 0 (Int×Int):=wg<|vz (Ah a.slots)<|lc (Ab [(12,vL An b),(31,vL Ap a.slots),(32,vN a.slots.length),(33,vI 0)] []) ((Am (ws a b) Ai 0).bind (Sum.elim (Empty.elim) some))
def yc(d:Scm)(e:ByteArray)(b:Val)(f:ByteArray):PT 0 (Int×Int):=wg<|cl (R2 d e) fun c=>wg<|bF (!c.2)<|wg<|cl (db c.1.m f) fun a=>vz (Ah a)<|bF (decide ((a.length:Int)=(0:Int)))<|lc (Ab [pp 6,(12,vL An a)] [kk 6 33 7 (cD (Ag b))]) ((wA b a).m)
def ZhK(a:Scm)(b:ByteArray)(c:Val)(d:ByteArray):Option (Int×Int):=(yc a b c d).m
theorem ZHk{C:Cx}(co:CO C 0)(c:Val)(b:List Fld):KL Tryz.prog (Az tl) 43 C (pa [0,0,1,0,1,1,1,1,1] (Aw Tryz.f21)) [.tmp 8,.tmp 9] 0 (y7 c b) (ZWY) W5 nG (ws c b):=fun v3 _ hm Q d f e=>Av co Aa Ac (zU c b v3) (AH [12,31,32,33]) nl f hm e fun r g=>fun a=>⟨fun y hy=>B6 (ZY9 b (fun(z0:Fld)=>eN z0 a)) hy co g [] [((1,14),⟨1,true,65,8,(cD (B2 a))⟩)] (AN [(1,.fn (.func 45) [] [.ptr (r.κ (1,14)) (r.γ (1,14)+1) 0])]) (fun i hg j=>(fun z0 y h=>D1 (ZZJ z0 a) h co g [((1,14),⟨1,true,65,8,(cD (B2 a))⟩)] [] hg (by simp) (fun _=>.top) (fun _ _=>trivial) (fun l H=>⟨fun _=>⟨rfl,by kernel_rfl⟩,by kernel_rfl,trivial⟩))) (fun H=>trivial),fun k=>⟨id,id⟩⟩
theorem Z0b(d:Scm)(e:ByteArray)(c:Val)(f:ByteArray):KC Tryz.prog 21 [.agg ((Al d).map .d),vS e,.agg ((Ag c).map .d),vS f] (ZhK d e c f) W5:=As Tryz.func21 Tryz.ntmps21 Aa [.tmp 8,.tmp 9] fun C co y hm h a=>Ak co Aa Ac 5 (yc d e c f) (Ae [6,12] [((1,6),false)]) nl nH hm a fun r g=>fun j=>fun i=>fun _ hm a=>sq (Ak co Aa Ac 1 (wA c i) (AH [12,31,32,33]) nl nH hm a fun r g=>fun _ hm a=>bk 0 (lo (AF (ZHk co c i) nH hm a (fun b=>b.elim))))
abbrev oc:Val→AV:=fun y=>.agg ((Ag y).map .d)
def yy(a:Fld)(b:Val):PT 0 (Val):=wg<|bT (!decide (a.type.kind=(10:Int)))<|wg<|wg<|lr oc nG b
def fA(a:Fld)(b:Val):Option (Val):=(yy a b).m
theorem ZXG(a:Fld)(b:Val):KO Tryz.prog 85 0 [.agg ((An a).map .d),.agg ((Ag b).map .d),.fn (.yield 2) [] []] [] (fun _ _ _ _=>True) (fA a b) oc nG:=Bi Tryz.func85 Tryz.ntmps85 Aa [.cell 6 33] 0 (fun C co e y hm c d=>Ao co Aa Ac (yy a b) hm d fun r g=>id)
abbrev Ig:Val→AV:=fun y=>.agg ((Ag y).map .d)
abbrev Tc:List (Ad×Bool):=[((0,0),false),((1,3),false),((1,4),false),((1,5),false),((1,6),false),((1,1045),true)]
abbrev ZX6:List (Ad×Bool):=[((0,0),false),((1,4),false),((1,6),false),((1,1045),true)]
abbrev SU:List (Ad×Bool):=[((0,0),false),((1,3),false),((1,4),false),((1,5),false),((1,6),false)]
abbrev PJ(a:Scm):Ad×Blk:=((0,0),⟨0,true,26,3,(cD (Al a))⟩)
abbrev PF:Ad×Blk:=kk 6 33 7 [vI 0,.d (.int .u64 0),vS ⟨#[]⟩,.e0,.e0,.e0,.e0]
abbrev dP:Val→AV:=fun y=>.agg ((Ag y).map .d)
@[reducible] def dm(a:Scm):Val→List Blk:=fun y=>[⟨0,true,26,3,(cD (Al a))⟩]
def uC(d:Acs)(a:Val)(b:Scm):Nat×List Slt→St:=fun(e,c)=>Ab [pp 3,pp 4,pp 5,pp 6,(15,vL Ap a.slots),(16,vN a.slots.length),(17,vN e)] [(PJ b),kk 3 68 8 (cD (Cc d)),kk 4 33 7 [vI a.kind,.d (.int .u64 a.bits),vS a.text,vL AM a.list,vL Ay a.pairs,.ref (1,1045) 0 0 c.length,vL AZ a.raws],kk 5 110 1 [.fn (.func 47) [] [.ptr (0,0) 0 0]],PF,kk 1045 65 8 (Af Ap c)]
def r7(b:Val)(a:Scm):List Slt→Nat×St:=fun c=>(0,Ab [pp 4,pp 6] [(PJ a),kk 4 33 7 [vI b.kind,.d (.int .u64 b.bits),vS b.text,vL AM b.list,vL Ay b.pairs,.ref (1,1045) 0 0 c.length,vL AZ b.raws],PF,kk 1045 65 8 (Af Ap c)])
def tv(g:Acs)(d:Val)(a:Scm)(e:Nat)(c:List Slt):PT 1 (Lv (Nat×List Slt) (List Slt) (Val)):=br (decide ((e:Int)<(d.slots.length:Int))) (ix d.slots e fun b=>wg<|wg<|wg<|cl (LX g.m b.num) fun h=>wg<|wg<|wg<|cs Tryz.prog 85 [.agg ((An h.1).map .d),.agg ((Ag b.val).map .d),.fn (.func 86) [] [.ptr (1,5) 0 0,.ptr (1,10) 1 0]] [] [] (fA h.1 b.val) (fun y=>.agg ((Ag y).map .d)) fun f=>wg<|wg<|wg<|vw .sep<|ap c ((.mk b.num f:Slt):Slt)<|wg<|vs (wa e 1)<|vz (fl (c++([(.mk b.num f:Slt)])))<|ln (uC g d a) (e+1,c++([(.mk b.num f:Slt)]))) (vz (fl c)<|Aj (r7 d a) c)
def sr(c:Acs)(d:Val)(a:Scm)(b:Scm→ByteArray→Val→Option (Val)):Nat×List Slt→Option (Lv (Nat×List Slt) (List Slt) (Val)):=fun(f,e)=>(tv c d a f e).m
def tY(b:Val)(a:Scm)(c:List Slt):PT 1 (Val):=wg<|wg<|vz (fr c)<|lr dP (dm a) (.mk b.kind b.bits b.text b.list b.pairs c b.raws:Val)
def um(d:Acs)(b:Val)(a:Scm)(c:Scm→ByteArray→Val→Option (Val)):PT 1 (Val):=vw (.adc (1,4) 5 1045 65 8)<|vz (fl ([]:List Slt))<|lc (Ab [pp 3,pp 4,pp 5,pp 6,(15,vL Ap b.slots),(16,vN b.slots.length),(17,vI 0)] [(PJ a),kk 3 68 8 (cD (Cc d)),kk 4 33 7 [vI b.kind,.d (.int .u64 b.bits),vS b.text,vL AM b.list,vL Ay b.pairs,.ref (1,1045) 0 0 ([]:List Slt).length,vL AZ b.raws],kk 5 110 1 [.fn (.func 47) [] [.ptr (0,0) 0 0]],PF,kk 1045 65 8 (Af Ap ([]:List Slt))]) ((Am (sr d b a c) Ai (0,([]:List Slt))).bind (Sum.elim (fun e=>(tY b a e).m) some))
def rZ(d:Acs)(b:Val)(a:Scm)(c:Scm→ByteArray→Val→Option (Val)):PT 1 (Val):=vz (Ah b.slots)<|lc (Ab [pp 3,pp 4,pp 5,pp 6,(15,vL Ap b.slots),(16,vN b.slots.length),(17,vI 0)] [(PJ a),kk 3 68 8 (cD (Cc d)),kk 4 33 7 [vI b.kind,.d (.int .u64 b.bits),vS b.text,vL AM b.list,vL Ay b.pairs,.e0,vL AZ b.raws],kk 5 110 1 [.fn (.func 47) [] [.ptr (0,0) 0 0]],PF]) ((um d b a c).m)
def pF(d:Acs)(b:Val)(a:Scm)(c:Scm→ByteArray→Val→Option (Val)):PT 1 (Val):=wg<|wg<|lc (Ab [pp 3,pp 4,pp 5,pp 6,(7,vL Ap b.slots)] [(PJ a),kk 3 68 8 (cD (Cc d)),kk 4 33 7 [vI b.kind,.d (.int .u64 b.bits),vS b.text,vL AM b.list,vL Ay b.pairs,.e0,vL AZ b.raws],kk 5 110 1 [.fn (.func 47) [] [.ptr (0,0) 0 0]],PF]) ((rZ d b a c).m)
def ZcG(b:Scm→ByteArray→Val→Option (Val))(c:Acs)(d:Val)(a:Scm):Option (Val):=(pF c d a b).m
theorem ZAR{C:Cx}(co:CO C 1)(c:Acs)(b:Val)(a:Scm)(d:Scm→ByteArray→Val→Option (Val))(o:∀(c:Scm) (b:ByteArray) (f:Val),KC Tryz.prog 22 [.agg ((Al c).map .d),vS b,.agg ((Ag f).map .d)] (d c b f) Ig):KL Tryz.prog (Az tl) 43 C (pa [0,0,1,0,1,1,1] (Aw Tryz.f46)) [.cell 6 33] 1 (uC c b a) (r7 b a) dP (dm a) (sr c b a d):=fun(l,k) _ hm Q e j i=>Av co Aa Ac (tv c b a l k) (Ae [3,4,5,6,15,16,17] Tc) (Ae [4,6] ZX6) j hm i fun r g=>⟨fun h=>fun m=>⟨fun y hy=>B6 (ZXG m.1 h.val) hy co g [] [] (AN [(2,.fn (.func 86) [] [.ptr (r.κ (1,5)) (r.γ (1,5)+0) 0,.ptr (r.κ (1,10)) (r.γ (1,10)+1) 0])]) (fun n hg p=>trivial) (fun H=>trivial),fun q=>id⟩,id⟩
theorem ZWr(b:Scm→ByteArray→Val→Option (Val))(i:∀(d:Scm) (c:ByteArray) (h:Val),KC Tryz.prog 22 [.agg ((Al d).map .d),vS c,.agg ((Ag h).map .d)] (b d c h) Ig)(d:Acs)(c:Val)(a:Scm):KO Tryz.prog 46 1 [.agg ((Cc d).map .d),.agg ((Ag c).map .d),.fn (.func 47) [] [.ptr (0,0) 0 0]] [⟨0,true,26,3,(cD (Al a))⟩] (fun _ _ _ _=>True) (ZcG b d c a) dP (dm a):=Bi Tryz.func46 Tryz.ntmps46 Aa [.cell 6 33] 1 (fun C co k y hm f e=>Ak co Aa Ac 3 (pF d c a b) (Ae [3,4,5,6,7] SU) nl nH hm e fun r g=>fun _ hm e=>sq (Ak co Aa Ac 1 (rZ d c a b) (Ae [3,4,5,6,15,16,17] SU) nl nH hm e fun r g=>fun _ hm e=>bk 0 (Fh co (um d c a b) (Ae [3,4,5,6,15,16,17] Tc) hm e fun r g=>fun _ hm e=>lo (AF (ZAR co d c a b i) nH hm e (fun j hm=>Ao co Aa Ac (tY c a j) hm e fun r g=>id))))) (hB:=fun y=>⟨.inr (by kernel_rfl),rfl,trivial⟩)
abbrev Q5:Ad×Blk:=kk 6 33 7 [vI 0,.d (.int .u64 0),vS ⟨#[]⟩,.e0,.e0,.e0,.e0]
abbrev zu(a:Val):Ad×Blk:=kk 5 33 7 (cD (Ag a))
abbrev xw(a:Scm):Ad×Blk:=((1,3),⟨1,true,26,3,(cD (Al a))⟩)
def cw(b:Acs×Bool)(a:Val):Nat×List Slt→St:=fun(v3,c)=>Ab [pp 5,pp 6,(23,vL An b.1.m.fields),(24,vN b.1.m.fields.length),(25,vN v3)] [kk 5 33 7 [vI a.kind,.d (.int .u64 a.bits),vS a.text,vL AM a.list,vL Ay a.pairs,vL Ap c,vL AZ a.raws],Q5]
def wo(a:Val):List Slt→Nat×St:=fun b=>(0,Ab [pp 5,pp 6] [kk 5 33 7 [vI a.kind,.d (.int .u64 a.bits),vS a.text,vL AM a.list,vL Ay a.pairs,vL Ap b,vL AZ a.raws],Q5])
def zG(d:Acs×Bool)(a:Val)(v3:Nat)(c:List Slt):PT 0 (Lv (Nat×List Slt) (List Slt) (Val)):=br (decide ((v3:Int)<(d.1.m.fields.length:Int))) (ix d.1.m.fields v3 fun b=>wg<|wg<|wg<|wg<|wg<|AC (b.hasDefault&&decide (b.union=(⟨#[]⟩:ByteArray))) (dt (.mk a.kind a.bits a.text a.list a.pairs c a.raws:Val) b.num) fun e=>br ((b.hasDefault&&decide (b.union=(⟨#[]⟩:ByteArray)))&&(!e)) (wg<|wg<|wg<|cl (S3 c (.mk b.num b.dflt:Slt)) fun f=>wg<|vs (wa v3 1)<|ln (cw d a) (v3+1,f)) (vs (wa v3 1)<|ln (cw d a) (v3+1,c))) (Aj (wo a) c)
def zY(a:Scm→ByteArray→Val→Option (Val))(c:Acs×Bool)(d:Val):Nat×List Slt→Option (Lv (Nat×List Slt) (List Slt) (Val)):=fun(v3,b)=>(zG c d v3 b).m
def wE(a:Val)(b:List Slt):PT 0 (Val):=wg<|wg<|lr Ig nG (.mk a.kind a.bits a.text a.list a.pairs b a.raws:Val)
def zL(c:Scm→ByteArray→Val→Option (Val))(a:Acs×Bool)(b:Val):PT 0 (Val):=wg<|vz (Ah a.1.m.fields)<|lc (Ab [pp 5,pp 6,(23,vL An a.1.m.fields),(24,vN a.1.m.fields.length),(25,vI 0)] [(zu b),Q5]) ((Am (zY c a b) Ai (0,b.slots)).bind (Sum.elim (fun d=>(wE b d).m) some))
def zX(c:Scm)(f:ByteArray)(d:Val)(a:Scm→ByteArray→Val→Option (Val)):PT 0 (Val):=wg<|cl (R2 c f) fun b=>wg<|wg<|wg<|cs Tryz.prog 46 [.agg ((Cc b.1).map .d),.agg ((Ag d).map .d),.fn (.func 47) [] [.ptr (1,3) 1 0]] [(1,3)] [(xw c)] (ZcG a b.1 d c) (fun y=>.agg ((Ag y).map .d)) fun e=>wg<|lc (Ab [pp 5,pp 6,pp 7] [(zu e),Q5,kk 7 68 8 (cD (Cc b.1))]) ((zL a b e).m)
def ZYl(a:Scm→ByteArray→Val→Option (Val))(b:Scm)(c:ByteArray)(d:Val):Option (Val):=(zX b c d a).m
theorem ZLe{C:Cx}(co:CO C 0)(a:Scm→ByteArray→Val→Option (Val))(c:Acs×Bool)(b:Val)(m:∀(e:Scm) (f:ByteArray) (h:Val),KC Tryz.prog 22 [.agg ((Al e).map .d),vS f,.agg ((Ag h).map .d)] (a e f h) Ig):KL Tryz.prog (Az tl) 54 C (pa [0,0,1,0,1,1,1] (Aw Tryz.f22)) [.cell 6 33] 0 (cw c b) (wo b) Ig nG (zY a c b):=fun(v3,i) _ hm Q d k j=>Av co Aa Ac (zG c b v3 i) (Ae [5,6,23,24,25] S8) (Ae [5,6] S8) k hm j fun r g=>⟨fun l=>fun n=>⟨fun o=>id,id⟩,id⟩
theorem ZWj(a:Scm→ByteArray→Val→Option (Val))(j:∀(b:Scm) (e:ByteArray) (c:Val),KC Tryz.prog 22 [.agg ((Al b).map .d),vS e,.agg ((Ag c).map .d)] (a b e c) Ig)(b:Scm)(e:ByteArray)(c:Val):KC Tryz.prog 22 [.agg ((Al b).map .d),vS e,.agg ((Ag c).map .d)] (ZYl a b e c) Ig:=As Tryz.func22 Tryz.ntmps22 Aa [.cell 6 33] fun C co y hm i d=>Ak co Aa Ac 3 (zX b e c a) (Ae [5,6,7] Cj) nl nH hm d fun r g=>fun f=>⟨fun y hy=>B6 (ZWr a j f.1 c b) hy co g [(xw b)] [] (AN []) (fun l hg m=>trivial) (fun H=>⟨fun _=>⟨rfl,by kernel_rfl⟩,by kernel_rfl,trivial⟩),fun h=>fun _ hm d=>sq (Ak co Aa Ac 1 (zL a f h) (Ae [5,6,23,24,25] S8) nl nH hm d fun r g=>fun _ hm d=>bk 0 (lo (AF (ZLe co a f h j) nH hm d (fun k hm=>Ao co Aa Ac (wE h k) hm d fun r g=>id))))⟩
def fI:Nat→Scm→ByteArray→Val→Option (Val)
 |0=>fun _ _ _=>none
 |a+1=>ZYl (fI a)
theorem ZYz:∀(d:Nat) (a:Scm) (b:ByteArray) (c:Val),KC Tryz.prog 22 [.agg ((Al a).map .d),vS b,.agg ((Ag c).map .d)] (fI d a b c) Ig
 |0,a,b,c=>⟨fun _ _ _ h=>(by cases h),by intro r;kernel_rfl,by intro r y;kernel_rfl⟩
 |d+1,a,b,c=>ZWj (fI d) (ZYz d) a b c
abbrev n1:Bool→AV:=fun y=>vB y
@[reducible] def ow(w0:Acs):Bool→List Blk:=fun y=>[⟨0,true,68,8,(cD (Cc w0))⟩]
def x4(b:Slt)(w0:Acs):PT 1 (Bool):=wg<|wg<|cl (LX w0.m b.num) fun a=>wg<|wg<|wg<|wg<|AC (a.2&&a.1.hasDefault) (cM a.1.dflt b.val) fun c=>lr n1 (ow w0) ((a.2&&a.1.hasDefault)&&c)
def fv(a:Slt)(w0:Acs):Option (Bool):=(x4 a w0).m
theorem ZY3(a:Slt)(w0:Acs):KO Tryz.prog 50 1 [.agg ((B2 a).map .d),.ptr (0,0) 0 0] [⟨0,true,68,8,(cD (Cc w0))⟩] (fun _ _ _ _=>True) (fv a w0) n1 (ow w0):=Bi Tryz.func50 Tryz.ntmps50 Aa [.tmp 3] 1 (fun C co d y hm b c=>Ao co Aa Ac (x4 a w0) hm c fun r g=>fun e=>fun f=>id) (hB:=fun y=>⟨.inr (by kernel_rfl),rfl,trivial⟩)
abbrev K3:Val→AV:=fun y=>.agg ((Ag y).map .d)
end Go.Proofs.YthgmbpciandpiaaGreat
