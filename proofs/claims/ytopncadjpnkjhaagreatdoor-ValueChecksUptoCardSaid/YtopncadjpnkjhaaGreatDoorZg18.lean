import Derived.Test.YtopncadjpnkjhaaGreatDoorZg17
import Derived.Test.YtopncadjpnkjhaaGreatDoorZg00
namespace Go.Proofs.YtopncadjpnkjhaaGreatDoor
set_option maxRecDepth 100000
set_option linter.all false
open Go Go.Eng
abbrev JX:List (Ab×Bool):=[((1,6),false),((1,8),false),((1,1083),true)]
abbrev LI:List (Ab×Bool):=[((1,6),false),((1,11),false),((1,1114),true)]
abbrev LA:List (Ab×Bool):=[((1,3),false),((1,4),false),((1,5),false),((1,6),false)]
abbrev Cd:Ab×Blk:=kk 6 33 7 [vI 0,.d (.int .u64 0),vS ⟨#[]⟩,.e0,.e0,.e0,.e0]
abbrev GF(a:Scm):Ab×Blk:=kk 3 26 3 (cD (Ak a))
abbrev Gu(a:Fld):Ab×Blk:=kk 4 53 16 (cD (Am a))
abbrev IW(a:Val):Ab×Blk:=kk 5 33 7 (cD (Ae a))
abbrev Zi(a:List Val):Ab×Blk:=kk 8 33 7 [vI 11,.d (.int .u64 0),vS ⟨#[]⟩,.ref (1,1083) 0 0 a.length,.e0,.e0,.e0]
abbrev SW(a:List Val):Ab×Blk:=kk 6 33 7 [vI 11,.d (.int .u64 0),vS ⟨#[]⟩,.ref (1,1083) 0 0 a.length,.e0,.e0,.e0]
abbrev Zv(a:List Pr):Ab×Blk:=kk 11 33 7 [vI 12,.d (.int .u64 0),vS ⟨#[]⟩,.e0,.ref (1,1114) 0 0 a.length,.e0,.e0]
abbrev SU(a:List Pr):Ab×Blk:=kk 6 33 7 [vI 12,.d (.int .u64 0),vS ⟨#[]⟩,.e0,.ref (1,1114) 0 0 a.length,.e0,.e0]
abbrev eY(a:List Val)(b:Val):Ab×Blk:=kk 8 33 7 [vI 11,.d (.int .u64 0),vS ⟨#[]⟩,.ref (1,1083) 0 0 (a++[b]).length,.e0,.e0,.e0]
abbrev fj:Ab×Blk:=kk 8 33 7 [vI 11,.d (.int .u64 0),vS ⟨#[]⟩,.e0,.e0,.e0,.e0]
abbrev bO:Ab×Blk:=kk 11 33 7 [vI 12,.d (.int .u64 0),vS ⟨#[]⟩,.e0,.e0,.e0,.e0]
abbrev bt(a:Val):Ab×Blk:=kk 6 33 7 (cD (Ae a))
def tR:Pl:=(.opt [1,10] 1 (.fst 10 (.fst 11 (.fst 12 (.fst 13 (.fst 14 (.fst 15 .nil)))))) (.opt [1,10] 10 (.fst 11 (.fst 1 (.fst 12 (.fst 13 (.fst 14 (.fst 15 .nil)))))) .nil))
def wX:Pl:=(.opt [1,4] 1 (.fst 4 (.fst 10 (.fst 11 (.fst 12 (.fst 13 (.fst 14 (.fst 15 .nil))))))) (.opt [1,4] 4 tR .nil))
def xV:Pl:=(.opt [4,9] 4 (.fst 9 (.fst 10 (.fst 11 (.fst 12 (.fst 13 (.fst 14 (.fst 15 .nil))))))) (.opt [4,9] 9 (.fst 4 (.fst 10 (.fst 11 (.fst 12 (.fst 13 (.fst 14 (.fst 15 .nil))))))) .nil))
def wn:Pl:=(.opt [1,4,9] 1 xV (.opt [1,4,9] 4 (.fst 9 tR) (.opt [1,4,9] 9 wX .nil)))
def dt(c:Scm)(d:Fld)(a:Val):Nat×List Val→St:=fun(e,b)=>Aa [(3,.iptr (Ak c) 0),(4,.iptr (Am d) 0),pp 6,pp 8,(20,vL AF a.list),(21,vN a.list.length),(22,vN e)] [Cd,(Zi b),kk 1083 33 7 (Ac AF b)]
def eh:List Val→Nat×St:=fun a=>(1,Aa [pp 6,pp 8] [Cd,kk 8 33 7 [vI 11,.d (.int .u64 0),vS ⟨#[]⟩,.ref (1,1083) 0 0 a.length,.e0,.e0,.e0],kk 1083 33 7 (Ac AF a)])
def gQ(d:Scm)(e:Fld)(f:Val)(b:Nat)(a:List Val)(c:Val):PT 0 (Lv (Nat×List Val) (List Val) (Val×Bool)):=vs (wa b 1)<|vz (fl (a++[c]))<|ln (dt d e f) (b+1,a++[c])
def gE(c:Scm)(d:Fld)(e:Val)(f:Scm→Fld→Val→Option (Val×Bool))(h:Nat)(b:List Val)(g:Val):PT 0 (Lv (Nat×List Val) (List Val) (Val×Bool)):=wg<|tw (wg<|cs Tryz.prog 91 [.agg ((Ak c).map .d),.agg ((CJ d.type).map .d),.agg ((Ae g).map .d)] [] [] (F4 f c d.type g) (fun y=>.agg ((Ae y).map .d)) fun a=>vw .sep<|ap b (a:Val)<|wg<|vz (fl (b++[a]))<|lc (Aa [(3,.iptr (Ak c) 0),(4,.iptr (Am d) 0),pp 6,pp 8,(20,vL AF e.list),(21,vN e.list.length),(22,vN h)] [Cd,(eY b a),kk 1083 33 7 (Ac AF (b++[a]))]) ((gQ c d e h b a).m)) (cs Tryz.prog 91 [.agg ((Ak c).map .d),.agg ((CJ d.type).map .d),.agg ((Ae g).map .d)] [] [] (F4 f c d.type g) (fun y=>.agg ((Ae y).map .d)) fun a=>wg<|vw .sep<|ap b (a:Val)<|wg<|vz (fl (b++[a]))<|lc (Aa [(3,.iptr (Ak c) 0),(4,.iptr (Am d) 0),pp 6,pp 8,(20,vL AF e.list),(21,vN e.list.length),(22,vN h)] [Cd,(eY b a),kk 1083 33 7 (Ac AF (b++[a]))]) ((gQ c d e h b a).m))
def zz(f:Scm)(g:Fld)(a:Val)(c:Scm→Fld→Val→Option (Val×Bool))(d:Nat)(b:List Val):PT 0 (Lv (Nat×List Val) (List Val) (Val×Bool)):=ix a.list d fun e=>wg<|vz (fl b)<|lc (Aa [(3,.iptr (Ak f) 0),(4,.iptr (Am g) 0),pp 6,pp 8,pp 10,(20,vL AF a.list),(21,vN a.list.length),(22,vN d)] [Cd,(Zi b),kk 10 33 7 (cD (Ae e)),kk 1083 33 7 (Ac AF b)]) ((gE f g a c d b e).m)
def zL(e:Scm)(f:Fld)(b:Val)(c:Scm→Fld→Val→Option (Val×Bool))(d:Nat)(a:List Val):PT 0 (Lv (Nat×List Val) (List Val) (Val×Bool)):=br (decide ((d:Int)<(b.list.length:Int))) (vz (fl a)<|lc (Aa [(3,.iptr (Ak e) 0),(4,.iptr (Am f) 0),pp 6,pp 8,(20,vL AF b.list),(21,vN b.list.length),(22,vN d)] [Cd,(Zi a),kk 1083 33 7 (Ac AF a)]) ((zz e f b c d a).m)) (vz (fl a)<|Ah (eh) a)
def gL(b:Scm)(c:Fld)(d:Val)(a:Scm→Fld→Val→Option (Val×Bool)):Nat×List Val→Option (Lv (Nat×List Val) (List Val) (Val×Bool)):=fun(f,e)=>(zL b c d a f e).m
def Tg(a:List Val):PT 0 (Val×Bool):=vz (fr a)<|lr DV nG ((.mk 11 0 ⟨#[]⟩ a [] [] []:Val),decide ((0:Int)<(a.length:Int)))
def nm(a:List Val):PT 0 (Val×Bool):=wg<|vz (fl a)<|lc (Aa [pp 6,(7,vB (decide ((0:Int)<(a.length:Int))))] [(SW a),kk 1083 33 7 (Ac AF a)]) ((Tg a).m)
def ep(a:List Val):PT 0 (Val×Bool):=tw (wg<|tw (wg<|vz (AR a.length)<|du (nm a)) (wg<|wg<|vz (AR a.length)<|vz (fl a)<|lc (Aa [pp 6,(7,vB (decide ((0:Int)<(a.length:Int))))] [(SW a),kk 1083 33 7 (Ac AF a)]) ((Tg a).m))) (wg<|vz (AR a.length)<|tw (wg<|du (nm a)) (wg<|wg<|vz (fl a)<|lc (Aa [pp 6,(7,vB (decide ((0:Int)<(a.length:Int))))] [(SW a),kk 1083 33 7 (Ac AF a)]) ((Tg a).m)))
def yZ(c:Scm)(d:Fld)(b:Val)(a:Scm→Fld→Val→Option (Val×Bool)):PT 0 (Val×Bool):=vw (.adc (1,8) 3 1083 33 7)<|vw (.fzb 3 [3])<|vw (.fzb 4 [4])<|vz (fl ([]:List Val))<|lc (Aa [(3,.iptr (Ak c) 0),(4,.iptr (Am d) 0),pp 6,pp 8,(20,vL AF b.list),(21,vN b.list.length),(22,vI 0)] [Cd,kk 8 33 7 [vI 11,.d (.int .u64 0),vS ⟨#[]⟩,.ref (1,1083) 0 0 ([]:List Val).length,.e0,.e0,.e0],kk 1083 33 7 (Ac AF ([]:List Val))]) ((Al (gL c d b a) Ai (0,([]:List Val))).bind (Sum.elim (fun e=>(ep e).m) some))
def zt(c:Scm)(d:Fld)(a:Val)(b:Scm→Fld→Val→Option (Val×Bool)):PT 0 (Val×Bool):=wg<|vz (Ag a.list)<|lc (Aa [pp 3,pp 4,pp 6,pp 8,(20,vL AF a.list),(21,vN a.list.length),(22,vI 0)] [(GF c),(Gu d),Cd,fj]) ((yZ c d a b).m)
def zd(b:Scm)(c:Fld)(d:Val)(a:Scm→Fld→Val→Option (Val×Bool)):PT 0 (Val×Bool):=wg<|lc (Aa [pp 3,pp 4,pp 5,pp 6,pp 8] [(GF b),(Gu c),(IW d),Cd,fj]) ((zt b c d a).m)
def eM(c:Scm)(d:Fld)(b:List Pr):Nat×List Pr→St:=fun(e,a)=>Aa [(3,.iptr (Ak c) 0),(4,.iptr (Am d) 0),pp 6,pp 11,(47,vL Ay b),(48,vN b.length),(49,vN e)] [Cd,(Zv a),kk 1114 57 14 (Ac Ay a)]
def ez:List Pr→Nat×St:=fun a=>(3,Aa [pp 6,pp 11] [Cd,kk 11 33 7 [vI 12,.d (.int .u64 0),vS ⟨#[]⟩,.e0,.ref (1,1114) 0 0 a.length,.e0,.e0],kk 1114 57 14 (Ac Ay a)])
def x2(e:Scm)(f:Fld)(g:List Pr)(d:Nat)(c:List Pr)(a:Val)(b:Val):PT 0 (Lv (Nat×List Pr) (List Pr) (Val×Bool)):=vs (wa d 1)<|vz (fl (c++([(.mk a b:Pr)])))<|ln (eM e f g) (d+1,c++([(.mk a b:Pr)]))
def Kn(e:Scm)(f:Fld)(d:List Pr)(g:Nat)(c:List Pr)(a:Val)(b:Val):PT 0 (Lv (Nat×List Pr) (List Pr) (Val×Bool)):=vz (fl (c++([(.mk a b:Pr)])))<|lc (Aa [(3,.iptr (Ak e) 0),(4,.iptr (Am f) 0),pp 6,pp 11,(47,vL Ay d),(48,vN d.length),(49,vN g)] [Cd,kk 11 33 7 [vI 12,.d (.int .u64 0),vS ⟨#[]⟩,.e0,.ref (1,1114) 0 0 (c++([(.mk a b:Pr)])).length,.e0,.e0],kk 1114 57 14 (Ac Ay (c++([(.mk a b:Pr)])))]) ((x2 e f d g c a b).m)
def xB(d:Scm)(e:Fld)(f:Scm→Fld→Val→Option (Val×Bool))(i:List Pr)(h:Nat)(g:List Pr)(c:Pr):PT 0 (Lv (Nat×List Pr) (List Pr) (Val×Bool)):=tw (cl (JS c.key) fun a=>wg<|cs Tryz.prog 91 [.agg ((Ak d).map .d),.agg ((CJ e.type).map .d),.agg ((Ae c.val).map .d)] [] [] (F4 f d e.type c.val) (fun y=>.agg ((Ae y).map .d)) fun b=>vw .sep<|ap g ((.mk a b:Pr):Pr)<|wg<|(Kn d e i h g a b)) (wg<|cl (JS c.key) fun a=>cs Tryz.prog 91 [.agg ((Ak d).map .d),.agg ((CJ e.type).map .d),.agg ((Ae c.val).map .d)] [] [] (F4 f d e.type c.val) (fun y=>.agg ((Ae y).map .d)) fun b=>vw .sep<|ap g ((.mk a b:Pr):Pr)<|wg<|(Kn d e i h g a b))
def Xw(c:Scm)(d:Fld)(e:Scm→Fld→Val→Option (Val×Bool))(i:List Pr)(h:Nat)(g:List Pr)(f:Pr)(b:Val):PT 0 (Lv (Nat×List Pr) (List Pr) (Val×Bool)):=tw (wg<|cs Tryz.prog 91 [.agg ((Ak c).map .d),.agg ((CJ d.type).map .d),.agg ((Ae f.val).map .d)] [] [] (F4 e c d.type f.val) (fun y=>.agg ((Ae y).map .d)) fun a=>vw .sep<|ap g ((.mk b a:Pr):Pr)<|wg<|(Kn c d i h g b a)) (cs Tryz.prog 91 [.agg ((Ak c).map .d),.agg ((CJ d.type).map .d),.agg ((Ae f.val).map .d)] [] [] (F4 e c d.type f.val) (fun y=>.agg ((Ae y).map .d)) fun a=>wg<|vw .sep<|ap g ((.mk b a:Pr):Pr)<|wg<|(Kn c d i h g b a))
def w7(e:Scm)(f:Fld)(b:Scm→Fld→Val→Option (Val×Bool))(i:List Pr)(h:Nat)(g:List Pr)(c:Pr):PT 0 (Lv (Nat×List Pr) (List Pr) (Val×Bool)):=tw (wg<|cl (JS c.key) fun a=>cs Tryz.prog 91 [.agg ((Ak e).map .d),.agg ((CJ f.type).map .d),.agg ((Ae c.val).map .d)] [] [] (F4 b e f.type c.val) (fun y=>.agg ((Ae y).map .d)) fun d=>vw .sep<|ap g ((.mk a d:Pr):Pr)<|wg<|(Kn e f i h g a d)) (cl (JS c.key) fun a=>(Xw e f b i h g c a))
def xd(c:Scm)(d:Fld)(a:Scm→Fld→Val→Option (Val×Bool))(h:List Pr)(f:Nat)(e:List Pr)(b:Pr):PT 0 (Lv (Nat×List Pr) (List Pr) (Val×Bool)):=tw (wg<|(xB c d a h f e b)) (tw (cl (JS b.key) fun g=>wg<|(Xw c d a h f e b g)) (wg<|(w7 c d a h f e b)))
def pB(c:Scm)(d:Fld)(a:Scm→Fld→Val→Option (Val×Bool))(g:List Pr)(f:Nat)(e:List Pr)(b:Pr):PT 0 (Lv (Nat×List Pr) (List Pr) (Val×Bool)):=wg<|(xd c d a g f e b)
def xp(f:Scm)(g:Fld)(c:Scm→Fld→Val→Option (Val×Bool))(b:List Pr)(d:Nat)(a:List Pr):PT 0 (Lv (Nat×List Pr) (List Pr) (Val×Bool)):=ix b d fun e=>wg<|vz (fl a)<|lc (Aa [(3,.iptr (Ak f) 0),(4,.iptr (Am g) 0),pp 6,pp 11,pp 13,(47,vL Ay b),(48,vN b.length),(49,vN d)] [Cd,(Zv a),kk 13 57 14 (cD (Cg e)),kk 1114 57 14 (Ac Ay a)]) ((pB f g c b d a e).m)
def xx(e:Scm)(f:Fld)(c:Scm→Fld→Val→Option (Val×Bool))(b:List Pr)(d:Nat)(a:List Pr):PT 0 (Lv (Nat×List Pr) (List Pr) (Val×Bool)):=br (decide ((d:Int)<(b.length:Int))) (vz (fl a)<|lc (Aa [(3,.iptr (Ak e) 0),(4,.iptr (Am f) 0),pp 6,pp 11,(47,vL Ay b),(48,vN b.length),(49,vN d)] [Cd,(Zv a),kk 1114 57 14 (Ac Ay a)]) ((xp e f c b d a).m)) (vz (fl a)<|Ah (ez) a)
def fF(b:Scm)(c:Fld)(a:Scm→Fld→Val→Option (Val×Bool))(f:List Pr):Nat×List Pr→Option (Lv (Nat×List Pr) (List Pr) (Val×Bool)):=fun(e,d)=>(xx b c a f e d).m
def Za(a:List Pr):PT 0 (Val×Bool):=vz (fr a)<|lr DV nG ((.mk 12 0 ⟨#[]⟩ [] a [] []:Val),decide ((0:Int)<(a.length:Int)))
def mL(a:List Pr):PT 0 (Val×Bool):=wg<|vz (fl a)<|lc (Aa [pp 6,(7,vB (decide ((0:Int)<(a.length:Int))))] [(SU a),kk 1114 57 14 (Ac Ay a)]) ((Za a).m)
def pM(a:List Pr):PT 0 (Val×Bool):=tw (wg<|tw (wg<|vz (AR a.length)<|du (mL a)) (wg<|wg<|vz (AR a.length)<|vz (fl a)<|lc (Aa [pp 6,(7,vB (decide ((0:Int)<(a.length:Int))))] [(SU a),kk 1114 57 14 (Ac Ay a)]) ((Za a).m))) (wg<|vz (AR a.length)<|tw (wg<|du (mL a)) (wg<|wg<|vz (fl a)<|lc (Aa [pp 6,(7,vB (decide ((0:Int)<(a.length:Int))))] [(SU a),kk 1114 57 14 (Ac Ay a)]) ((Za a).m)))
def wZ(d:Scm)(e:Fld)(a:Scm→Fld→Val→Option (Val×Bool))(c:List Pr):PT 0 (Val×Bool):=vw (.adc (1,11) 4 1114 57 14)<|vw (.fzb 3 [3])<|vw (.fzb 4 [4])<|vz (fl ([]:List Pr))<|lc (Aa [(3,.iptr (Ak d) 0),(4,.iptr (Am e) 0),pp 6,pp 11,(47,vL Ay c),(48,vN c.length),(49,vI 0)] [Cd,kk 11 33 7 [vI 12,.d (.int .u64 0),vS ⟨#[]⟩,.e0,.ref (1,1114) 0 0 ([]:List Pr).length,.e0,.e0],kk 1114 57 14 (Ac Ay ([]:List Pr))]) ((Al (fF d e a c) Ai (0,([]:List Pr))).bind (Sum.elim (fun b=>(pM b).m) some))
def w4(c:Scm)(d:Fld)(e:Val)(b:Scm→Fld→Val→Option (Val×Bool)):PT 0 (Val×Bool):=wg<|cl (ZQS e.pairs) fun a=>vz (Ag a)<|lc (Aa [pp 3,pp 4,pp 6,pp 11,(47,vL Ay a),(48,vN a.length),(49,vI 0)] [(GF c),(Gu d),Cd,bO]) ((wZ c d b a).m)
def w6(b:Scm)(c:Fld)(d:Val)(a:Scm→Fld→Val→Option (Val×Bool)):PT 0 (Val×Bool):=wg<|lc (Aa [pp 3,pp 4,pp 5,pp 6,pp 11] [(GF b),(Gu c),(IW d),Cd,bO]) ((w4 b c d a).m)
def o1(c:Fld)(a:Val)(b:Bool):PT 0 (Val×Bool):=lr DV nG (a,((!decide (c.card=(3:Int)))||(!b)))
def tE(f:Scm)(c:Fld)(e:Val)(d:Scm→Fld→Val→Option (Val×Bool)):PT 0 (Val×Bool):=vw (.fzb 3 [3])<|vw (.fzb 4 [4])<|vw (.fzb 5 [5])<|vw .sep<|du (cs Tryz.prog 91 [.agg ((Ak f).map .d),.agg ((CJ c.type).map .d),.agg ((Ae e).map .d)] [] [] (F4 d f c.type e) (fun y=>.agg ((Ae y).map .d)) fun a=>Aw (!(!decide (c.card=(3:Int)))) (ZQ2 e) fun b=>tw (du (wg<|lc (Aa [pp 6,(7,vB ((!decide (c.card=(3:Int)))||(!b)))] [(bt a)]) ((o1 c a b).m))) (wg<|lc (Aa [pp 6,(7,vB ((!decide (c.card=(3:Int)))||(!b)))] [(bt a)]) ((o1 c a b).m)))
def x7(b:Scm)(c:Fld)(d:Val)(a:Scm→Fld→Val→Option (Val×Bool)):PT 0 (Val×Bool):=lc (Aa [pp 3,pp 4,pp 5,pp 6] [(GF b),(Gu c),(IW d),Cd]) ((tE b c d a).m)
def w8(c:Scm)(b:Fld)(d:Val)(a:Scm→Fld→Val→Option (Val×Bool)):PT 0 (Val×Bool):=lc (Aa [pp 3,pp 4,pp 5,pp 6,(42,vB (decide (b.card=(5:Int))))] [(GF c),(Gu b),(IW d),Cd]) (if decide (b.card=(5:Int))=true then(w6 c b d a).m else(x7 c b d a).m)
def wz(c:Scm)(a:Fld)(d:Val)(b:Scm→Fld→Val→Option (Val×Bool)):PT 0 (Val×Bool):=lc (Aa [pp 3,pp 4,pp 5,pp 6,(15,vI a.card),(16,vB (decide (a.card=(4:Int))))] [(GF c),(Gu a),(IW d),Cd]) (if decide (a.card=(4:Int))=true then(zd c a d b).m else(w8 c a d b).m)
def wh(c:Scm)(b:Fld)(d:Val)(a:Scm→Fld→Val→Option (Val×Bool)):PT 0 (Val×Bool):=wg<|lc (Aa [pp 3,pp 4,pp 5,pp 6,(15,vI b.card)] [(GF c),(Gu b),(IW d),Cd]) ((wz c b d a).m)
def wo(b:Scm)(c:Fld)(d:Val)(a:Scm→Fld→Val→Option (Val×Bool)):PT 0 (Val×Bool):=lc (Aa [pp 3,pp 4,pp 5,pp 6] [(GF b),(Gu c),(IW d),Cd]) ((wh b c d a).m)
def kZ(a:Scm→Fld→Val→Option (Val×Bool))(b:Scm)(c:Fld)(d:Val):Option (Val×Bool):=(wo b c d a).m
theorem ZyP{C:Cx}(co:CO C 0)(b:Scm)(c:Fld)(f:Val)(a:Scm→Fld→Val→Option (Val×Bool))(e:∀(b:Scm) (c:Fld) (f:Val),KC Tryz.prog 38 [.agg ((Ak b).map .d),.agg ((Am c).map .d),.agg ((Ae f).map .d)] (a b c f) DV):KL Tryz.prog (Aq tl) 87 C (pa [0,0,1,0,1,0,1,0,1,0,1] (Ar Tryz.f38)) [.cell 6 33,.tmp 7] 0 (dt b c f) (eh) DV nG (gL b c f a):=fun(n,l) _ m Q k i L=>mJ co 2 (Ad [3,4,6,8,20,21,22] JX) (Ad [6,8] JX) i m L fun r g=>⟨fun _ m L=>sq (bk 2 (mJ co 1 (Ad [3,4,6,8,10,20,21,22] [((1,6),false),((1,8),false),((1,10),false),((1,1083),true)]) nl i m L fun r g=>fun d=>fun _ m L=>EE co AG BM (.fst 0 (.fst 2 (.fst 3 (.fst 4 (.fst 5 (.two 1 6 (.fst 6 (.fst 7 (.fst 8 (.fst 9 (.fst 10 .nil))))) (.fst 1 (.fst 7 (.fst 8 (.fst 9 (.fst 10 .nil))))))))))) [3,4] (gE b c f a n l d) (Ad [3,4,6,8,20,21,22] JX) m L fun r g=>⟨⟨fun y hy j _ _=>by rw[(B0 a e b c.type d).x,(B0 a e b c.type d).e];exact(B0 a e b c.type d).k _ j y hy,fun o=>fun _ m L=>eN co (Ad [3,4,6,8,20,21,22] JX) nl i m L⟩,⟨fun y hy j _ _=>by rw[(B0 a e b c.type d).x,(B0 a e b c.type d).e];exact(B0 a e b c.type d).k _ j y hy,fun o=>fun _ m L=>eN co (Ad [3,4,6,8,20,21,22] JX) nl i m L⟩,fun _ h=>h⟩)),id⟩
theorem vx{C:Cx}(co:CO C 0)(d:Scm)(e:Fld)(a:Scm→Fld→Val→Option (Val×Bool))(n:List Pr)(i:∀(d:Scm) (e:Fld) (w:Val),KC Tryz.prog 38 [.agg ((Ak d).map .d),.agg ((Am e).map .d),.agg ((Ae w).map .d)] (a d e w) DV):KL Tryz.prog (Aq tl) 87 C (pa [0,0,1,0,1,0,1,1,1,0,1,0,1] (Ar Tryz.f38)) [.cell 6 33,.tmp 7] 0 (eM d e n) (ez) DV nG (fF d e a n):=fun(u,t) _ m Q v s L=>mJ co 2 (Ad [3,4,6,11,47,48,49] LI) (Ad [6,11] LI) s m L fun r g=>⟨fun _ m L=>sq (bk 4 (mJ co 1 (Ad [3,4,6,11,13,47,48,49] [((1,6),false),((1,11),false),((1,13),false),((1,1114),true)]) nl s m L fun r g=>fun f=>fun _ m L=>EE co AG BM (.fst 0 (.fst 2 (.fst 5 (.fst 6 (.fst 7 (.fst 8 (.fst 3 wn))))))) [3,4] (pB d e a n u t f) (Ad [3,4,6,11,47,48,49] LI) m L fun r g=>Nn (fun(k:∀(b:Val) (c:Val),PT.n (Kn d e n u t b c) _)=>Nn (fun o=>Nn (fun(l:∀(b:Val),PT.n (Xw d e a n u t f b) _)=>Nn (fun p=>Nn (fun q=>q) (⟨o,⟨fun b=>(l b),p,fun _ h=>h⟩,fun _ h=>h⟩)) (⟨fun b=>⟨fun y hy j _ _=>by rw[(B0 a i d e.type f.val).x,(B0 a i d e.type f.val).e];exact(B0 a i d e.type f.val).k _ j y hy,fun c=>(k b c)⟩,fun b=>(l b),fun _ h=>h⟩)) (fun b=>⟨⟨fun y hy j _ _=>by rw[(B0 a i d e.type f.val).x,(B0 a i d e.type f.val).e];exact(B0 a i d e.type f.val).k _ j y hy,fun c=>(k b c)⟩,⟨fun y hy j _ _=>by rw[(B0 a i d e.type f.val).x,(B0 a i d e.type f.val).e];exact(B0 a i d e.type f.val).k _ j y hy,fun c=>(k b c)⟩,fun _ h=>h⟩)) (⟨fun b=>⟨fun y hy j _ _=>by rw[(B0 a i d e.type f.val).x,(B0 a i d e.type f.val).e];exact(B0 a i d e.type f.val).k _ j y hy,fun c=>(k b c)⟩,fun b=>⟨fun y hy j _ _=>by rw[(B0 a i d e.type f.val).x,(B0 a i d e.type f.val).e];exact(B0 a i d e.type f.val).k _ j y hy,fun c=>(k b c)⟩,fun _ h=>h⟩)) (fun b c=>fun _ m L=>eN co (Ad [3,4,6,11,47,48,49] LI) nl s m L))),id⟩
theorem ZNP(a:Scm→Fld→Val→Option (Val×Bool))(e:∀(b:Scm) (c:Fld) (d:Val),KC Tryz.prog 38 [.agg ((Ak b).map .d),.agg ((Am c).map .d),.agg ((Ae d).map .d)] (a b c d) DV)(b:Scm)(c:Fld)(d:Val):KC Tryz.prog 38 [.agg ((Ak b).map .d),.agg ((Am c).map .d),.agg ((Ae d).map .d)] (kZ a b c d) DV:=Ci Tryz.func38 Tryz.ntmps38 AG [.cell 6 33,.tmp 7] fun C co y m i L=>mJ co 1 (Ad [3,4,5,6] LA) nl nH m L fun r g=>fun _ m L=>sq (mJ co 1 (Ad [3,4,5,6,15] LA) nl nH m L fun r g=>fun _ m L=>bk 0 (mJ co 1 (Ad [3,4,5,6,15,16] LA) nl nH m L fun r g=>fun _ m L=>KV m (fun m=>mJ co 1 (Ad [3,4,5,6,8] [((1,3),false),((1,4),false),((1,5),false),((1,6),false),((1,8),false)]) nl nH m L fun r g=>fun _ m L=>sq (mJ co 1 (Ad [3,4,6,8,20,21,22] [((1,3),false),((1,4),false),((1,6),false),((1,8),false)]) nl nH m L fun r g=>fun _ m L=>bk 1 (cM co (Ad [3,4,6,8,20,21,22] JX) m L fun r g=>fun _ m L=>lo (Az (ZyP co b c d a e) nH m L (fun k m=>sq (EE co AG BM (.fst 1 (.two 0 2 (.two 2 5 (.fst 3 (.two 4 5 (.fst 5 (.fst 6 .nil)) (.fst 4 (.fst 6 .nil)))) (.fst 2 (.fst 3 (.fst 4 (.fst 6 .nil))))) (.fst 3 (.two 0 4 (.two 4 5 (.fst 5 (.fst 6 .nil)) (.fst 4 (.fst 6 .nil))) (.fst 0 (.fst 5 (.fst 6 .nil))))))) [] (ep k) (Ad [6,7] [((1,6),false),((1,1083),true)]) m L fun r g=>⟨⟨fun _ m L=>eN co nl nl nH m L,fun _ m L=>eN co nl nl nH m L,fun _ h=>h⟩,⟨fun _ m L=>eN co nl nl nH m L,fun _ m L=>eN co nl nl nH m L,fun _ h=>h⟩,fun _ h=>h⟩)))))) (fun m=>mJ co 1 (Ad [3,4,5,6,42] LA) nl nH m L fun r g=>fun _ m L=>KV m (fun m=>mJ co 1 (Ad [3,4,5,6,11] [((1,3),false),((1,4),false),((1,5),false),((1,6),false),((1,11),false)]) nl nH m L fun r g=>fun _ m L=>sq (mJ co 1 (Ad [3,4,6,11,47,48,49] [((1,3),false),((1,4),false),((1,6),false),((1,11),false)]) nl nH m L fun r g=>fun o=>fun _ m L=>bk 3 (cM co (Ad [3,4,6,11,47,48,49] LI) m L fun r g=>fun _ m L=>lo (Az (vx co b c a o e) nH m L (fun f m=>sq (EE co AG BM (.fst 1 (.two 0 2 (.two 2 5 (.fst 3 (.two 4 5 (.fst 5 (.fst 6 .nil)) (.fst 4 (.fst 6 .nil)))) (.fst 2 (.fst 3 (.fst 4 (.fst 6 .nil))))) (.fst 3 (.two 0 4 (.two 4 5 (.fst 5 (.fst 6 .nil)) (.fst 4 (.fst 6 .nil))) (.fst 0 (.fst 5 (.fst 6 .nil))))))) [] (pM f) (Ad [6,7] [((1,6),false),((1,1114),true)]) m L fun r g=>⟨⟨fun _ m L=>eN co nl nl nH m L,fun _ m L=>eN co nl nl nH m L,fun _ h=>h⟩,⟨fun _ m L=>eN co nl nl nH m L,fun _ m L=>eN co nl nl nH m L,fun _ h=>h⟩,fun _ h=>h⟩)))))) (fun m=>eN co (Ad [3,4,5,6] LA) nl nH m L fun r g=>fun _ m L=>sq (EE co AG BM (.fst 0 (.fst 1 (.fst 2 (.fst 3 (.fst 5 (.fst 6 (.two 4 7 (.fst 7 (.fst 8 (.fst 9 (.fst 10 (.two 11 13 (.two 12 13 (.fst 13 (.fst 14 .nil)) (.fst 12 (.fst 14 .nil))) (.fst 11 (.fst 12 (.fst 14 .nil)))))))) (.fst 4 (.fst 8 (.fst 9 (.fst 10 (.two 11 13 (.two 12 13 (.fst 13 (.fst 14 .nil)) (.fst 12 (.fst 14 .nil))) (.fst 11 (.fst 12 (.fst 14 .nil))))))))))))))) [3,4,5] (tE b c d a) (Ad [6,7] [((1,6),false)]) m L fun r g=>⟨fun y hy j _ _=>by rw[(B0 a e b c.type d).x,(B0 a e b c.type d).e];exact(B0 a e b c.type d).k _ j y hy,fun l=>fun n=>⟨fun _ m L=>fO co m L,fun _ m L=>fO co m L,fun _ h=>h⟩⟩)))))
def Md:Nat→Scm→Fld→Val→Option (Val×Bool)
 |0=>fun _ _ _=>none
 |a+1=>kZ (Md a)
theorem Tv:∀(d:Nat) (a:Scm) (b:Fld) (c:Val),KC Tryz.prog 38 [.agg ((Ak a).map .d),.agg ((Am b).map .d),.agg ((Ae c).map .d)] (Md d a b c) DV
 |0,a,b,c=>⟨fun _ _ _ h=>(by cases h),by intro r;kernel_rfl,by intro r y;kernel_rfl⟩
 |d+1,a,b,c=>ZNP (Md d) (Tv d) a b c
abbrev az:Nod→AV:=fun y=>.agg ((ZQx y).map .d)
def zO(a:Val):PT 0 (Nod):=wg<|wg<|wg<|wg<|vz (Ag a.list)<|wg<|vz (Ag a.pairs)<|wg<|vz (Ag a.slots)<|wg<|vz (Ag a.raws)<|wg<|lr az nG (.mk a.kind a.bits a.text (a.list.length:Int) (a.pairs.length:Int) (a.slots.length:Int) (a.raws.length:Int):Nod)
def Zk9(a:Val):Option (Nod):=(zO a).m
theorem kz(a:Val):KC Tryz.prog 97 [.agg ((Ae a).map .d)] (Zk9 a) az:=kC Tryz.func97 Tryz.ntmps97 [.cell 2 146] fun co m L=>fO co m L
abbrev R8:Bool→AV:=fun y=>vB y
def za(a:List Raw):Unit→St:=fun _=>Aa [(12,vN a.length),(13,vI 0)] []
def dp:Unit→Nat×St:=fun _=>(0,Aa [] [])
def ZOf(a:List Raw):PT 0 (Lv (Unit) (Unit) (Bool)):=bF (decide ((0:Int)<(a.length:Int)))<|Ah (dp) ()
def ct(a:List Raw):Unit→Option (Lv (Unit) (Unit) (Bool)):=fun _=>(ZOf a).m
def zR:PT 0 (Bool):=lr R8 nG true
def ZN1(a:List Raw):PT 0 (Bool):=vz (Ag a)<|lc (Aa [(12,vN a.length),(13,vI 0)] []) ((Al (ct a) Ai ()).bind (Sum.elim (fun _=>(zR).m) some))
def ZNR(a:List Raw)(b:List Raw):PT 0 (Bool):=vz (Ag a)<|vz (Ag b)<|bF (!decide ((a.length:Int)=(b.length:Int)))<|lc (Aa [(0,vL A4 a)] []) ((ZN1 a).m)
def Zky(a:List Raw)(b:List Raw):Option (Bool):=(ZNR a b).m
theorem Zzs{C:Cx}(co:CO C 0)(b:List Raw):KL Tryz.prog (Aq tl) 26 C (pa [0,0,1,0,1,1] (Ar Tryz.f98)) [.tmp 4] 0 (za b) (dp) R8 nG (ct b):=fun _ _ m Q a c L=>eN co nl nl c m L
theorem ZQ1(a:List Raw)(b:List Raw):KC Tryz.prog 98 [vL A4 a,vL A4 b] (Zky a b) R8:=kC Tryz.func98 Tryz.ntmps98 [.tmp 4] fun co m L=>mJ co 2 (AI [0]) nl nH m L fun r g=>fun _ m L=>sq (mJ co 1 (AI [12,13]) nl nH m L fun r g=>fun _ m L=>bk 0 (lo (Az (Zzs co a) nH m L (fun _ m=>fO co m L))))
abbrev R9:Bool→AV:=fun y=>vB y
def aL(a:Val→Val→Option Bool):Cl:=fun no l H θ=>(∀(z0:Val) (b:Val) y,a z0 b=some y→BH Tryz.prog l no H (θ 2) [.agg ((Ae z0).map .d),.agg ((Ae b).map .d)] (vB y))
def dz(a:List Val)(b:List Val):Nat→St:=fun c=>Aa [(1,vL AF b),(2,.fn (.yield 2) [] []),(15,vL AF a),(16,vN a.length),(17,vN c)] []
def fJ:Unit→Nat×St:=fun _=>(0,Aa [] [])
def ZNE(b:List Val)(f:List Val)(c:Val→Val→Option Bool)(a:Nat):PT 0 (Lv (Nat) (Unit) (Bool)):=br (decide ((a:Int)<(b.length:Int))) (ix b a fun d=>wg<|ix f a fun e=>wg<|wg<|wg<|cf Tryz.prog 2 [.agg ((Ae d).map .d),.agg ((Ae e).map .d)] (c d e) (fun y=>vB y) fun g=>bF (!g)<|vs (wa a 1)<|ln (dz b f) (a+1)) (Ah (fJ) ())
def ig(b:List Val)(c:List Val)(a:Val→Val→Option Bool):Nat→Option (Lv (Nat) (Unit) (Bool)):=fun d=>(ZNE b c a d).m
def zI:PT 0 (Bool):=lr R9 nG true
def zZ(a:List Val)(c:List Val)(b:Val→Val→Option Bool):PT 0 (Bool):=vz (Ag a)<|lc (Aa [(1,vL AF c),(2,.fn (.yield 2) [] []),(15,vL AF a),(16,vN a.length),(17,vI 0)] []) ((Al (ig a c b) Ai 0).bind (Sum.elim (fun _=>(zI).m) some))
def zN(a:List Val)(b:List Val)(c:Val→Val→Option Bool):PT 0 (Bool):=vz (Ag a)<|vz (Ag b)<|bF (!decide ((a.length:Int)=(b.length:Int)))<|lc (Aa [(0,vL AF a),(1,vL AF b),(2,.fn (.yield 2) [] [])] []) ((zZ a b c).m)
def lE(b:List Val)(c:List Val)(a:Val→Val→Option Bool):Option (Bool):=(zN b c a).m
theorem Zy7{C:Cx}(co:CO C 0)(c:List Val)(d:List Val)(a:Val→Val→Option Bool)(f:(aL a) C.no C.l C.H0 C.θ):KL Tryz.prog (Aq tl) 32 C (pa [0,0,1,0,1,1] (Ar Tryz.f99)) [.tmp 6] 0 (dz c d) (fJ) R9 nG (ig c d a):=fun j _ m Q b e L=>eN co (AI [1,2,15,16,17]) nl e m L fun r g=>⟨fun h=>fun i=>⟨⟨fun y hy=>f _ _ y hy,by intro r;kernel_rfl,by intro r y;kernel_rfl⟩,fun k=>id⟩,id⟩
theorem ZQd(b:List Val)(c:List Val)(a:Val→Val→Option Bool):KO Tryz.prog 99 0 [vL AF b,vL AF c,.fn (.yield 2) [] []] [] (aL a) (lE b c a) R9 nG:=kO Tryz.func99 Tryz.ntmps99 [.tmp 6] 0 (fun co d m L=>mJ co 2 (AI [0,1,2]) nl nH m L fun r g=>fun _ m L=>sq (mJ co 1 (AI [1,2,15,16,17]) nl nH m L fun r g=>fun _ m L=>bk 0 (lo (Az (Zy7 co b c a d) nH m L (fun _ m=>fO co m L)))))
abbrev TA:Bool→AV:=fun y=>vB y
def kD(a:Pr→Pr→Option Bool):Cl:=fun no l H θ=>(∀(z0:Pr) (b:Pr) y,a z0 b=some y→BH Tryz.prog l no H (θ 2) [.agg ((Cg z0).map .d),.agg ((Cg b).map .d)] (vB y))
def ra(a:List Pr)(b:List Pr):Nat→St:=fun c=>Aa [(1,vL Ay b),(2,.fn (.yield 2) [] []),(15,vL Ay a),(16,vN a.length),(17,vN c)] []
def tG:Unit→Nat×St:=fun _=>(0,Aa [] [])
def wA(b:List Pr)(f:List Pr)(c:Pr→Pr→Option Bool)(a:Nat):PT 0 (Lv (Nat) (Unit) (Bool)):=br (decide ((a:Int)<(b.length:Int))) (ix b a fun d=>wg<|ix f a fun e=>wg<|wg<|wg<|cf Tryz.prog 2 [.agg ((Cg d).map .d),.agg ((Cg e).map .d)] (c d e) (fun y=>vB y) fun g=>bF (!g)<|vs (wa a 1)<|ln (ra b f) (a+1)) (Ah (tG) ())
def pC(b:List Pr)(c:List Pr)(a:Pr→Pr→Option Bool):Nat→Option (Lv (Nat) (Unit) (Bool)):=fun d=>(wA b c a d).m
def wx:PT 0 (Bool):=lr TA nG true
def wv(a:List Pr)(c:List Pr)(b:Pr→Pr→Option Bool):PT 0 (Bool):=vz (Ag a)<|lc (Aa [(1,vL Ay c),(2,.fn (.yield 2) [] []),(15,vL Ay a),(16,vN a.length),(17,vI 0)] []) ((Al (pC a c b) Ai 0).bind (Sum.elim (fun _=>(wx).m) some))
def x3(a:List Pr)(b:List Pr)(c:Pr→Pr→Option Bool):PT 0 (Bool):=vz (Ag a)<|vz (Ag b)<|bF (!decide ((a.length:Int)=(b.length:Int)))<|lc (Aa [(0,vL Ay a),(1,vL Ay b),(2,.fn (.yield 2) [] [])] []) ((wv a b c).m)
def lF(b:List Pr)(c:List Pr)(a:Pr→Pr→Option Bool):Option (Bool):=(x3 b c a).m
theorem Zre{C:Cx}(co:CO C 0)(c:List Pr)(d:List Pr)(a:Pr→Pr→Option Bool)(f:(kD a) C.no C.l C.H0 C.θ):KL Tryz.prog (Aq tl) 32 C (pa [0,0,1,0,1,1] (Ar Tryz.f100)) [.tmp 6] 0 (ra c d) (tG) TA nG (pC c d a):=fun j _ m Q b e L=>eN co (AI [1,2,15,16,17]) nl e m L fun r g=>⟨fun h=>fun i=>⟨⟨fun y hy=>f _ _ y hy,by intro r;kernel_rfl,by intro r y;kernel_rfl⟩,fun k=>id⟩,id⟩
theorem ZNC(b:List Pr)(c:List Pr)(a:Pr→Pr→Option Bool):KO Tryz.prog 100 0 [vL Ay b,vL Ay c,.fn (.yield 2) [] []] [] (kD a) (lF b c a) TA nG:=kO Tryz.func100 Tryz.ntmps100 [.tmp 6] 0 (fun co d m L=>mJ co 2 (AI [0,1,2]) nl nH m L fun r g=>fun _ m L=>sq (mJ co 1 (AI [1,2,15,16,17]) nl nH m L fun r g=>fun _ m L=>bk 0 (lo (Az (Zre co b c a d) nH m L (fun _ m=>fO co m L)))))
abbrev TE:Bool→AV:=fun y=>vB y
def jB(a:Slt→Slt→Option Bool):Cl:=fun no l H θ=>(∀(z0:Slt) (b:Slt) y,a z0 b=some y→BH Tryz.prog l no H (θ 2) [.agg ((Bq z0).map .d),.agg ((Bq b).map .d)] (vB y))
def qj(a:List Slt)(b:List Slt):Nat→St:=fun c=>Aa [(1,vL At b),(2,.fn (.yield 2) [] []),(15,vL At a),(16,vN a.length),(17,vN c)] []
def sr:Unit→Nat×St:=fun _=>(0,Aa [] [])
def xY(b:List Slt)(f:List Slt)(c:Slt→Slt→Option Bool)(a:Nat):PT 0 (Lv (Nat) (Unit) (Bool)):=br (decide ((a:Int)<(b.length:Int))) (ix b a fun d=>wg<|ix f a fun e=>wg<|wg<|wg<|cf Tryz.prog 2 [.agg ((Bq d).map .d),.agg ((Bq e).map .d)] (c d e) (fun y=>vB y) fun g=>bF (!g)<|vs (wa a 1)<|ln (qj b f) (a+1)) (Ah (sr) ())
def pr(b:List Slt)(c:List Slt)(a:Slt→Slt→Option Bool):Nat→Option (Lv (Nat) (Unit) (Bool)):=fun d=>(xY b c a d).m
def xT:PT 0 (Bool):=lr TE nG true
def xj(a:List Slt)(c:List Slt)(b:Slt→Slt→Option Bool):PT 0 (Bool):=vz (Ag a)<|lc (Aa [(1,vL At c),(2,.fn (.yield 2) [] []),(15,vL At a),(16,vN a.length),(17,vI 0)] []) ((Al (pr a c b) Ai 0).bind (Sum.elim (fun _=>(xT).m) some))
def x5(a:List Slt)(b:List Slt)(c:Slt→Slt→Option Bool):PT 0 (Bool):=vz (Ag a)<|vz (Ag b)<|bF (!decide ((a.length:Int)=(b.length:Int)))<|lc (Aa [(0,vL At a),(1,vL At b),(2,.fn (.yield 2) [] [])] []) ((xj a b c).m)
def lH(b:List Slt)(c:List Slt)(a:Slt→Slt→Option Bool):Option (Bool):=(x5 b c a).m
theorem Zsw{C:Cx}(co:CO C 0)(c:List Slt)(d:List Slt)(a:Slt→Slt→Option Bool)(f:(jB a) C.no C.l C.H0 C.θ):KL Tryz.prog (Aq tl) 32 C (pa [0,0,1,0,1,1] (Ar Tryz.f102)) [.tmp 6] 0 (qj c d) (sr) TE nG (pr c d a):=fun j _ m Q b e L=>eN co (AI [1,2,15,16,17]) nl e m L fun r g=>⟨fun h=>fun i=>⟨⟨fun y hy=>f _ _ y hy,by intro r;kernel_rfl,by intro r y;kernel_rfl⟩,fun k=>id⟩,id⟩
theorem ZNi(b:List Slt)(c:List Slt)(a:Slt→Slt→Option Bool):KO Tryz.prog 102 0 [vL At b,vL At c,.fn (.yield 2) [] []] [] (jB a) (lH b c a) TE nG:=kO Tryz.func102 Tryz.ntmps102 [.tmp 6] 0 (fun co d m L=>mJ co 2 (AI [0,1,2]) nl nH m L fun r g=>fun _ m L=>sq (mJ co 1 (AI [1,2,15,16,17]) nl nH m L fun r g=>fun _ m L=>bk 0 (lo (Az (Zsw co b c a d) nH m L (fun _ m=>fO co m L)))))
abbrev Ia:Bool→AV:=fun y=>vB y
abbrev ki:Bool→AV:=fun y=>vB y
def xz(b:Pr)(c:Pr)(a:Val→Val→Option (Bool)):PT 0 (Bool):=wg<|wg<|cs Tryz.prog 42 [.agg ((Ae b.key).map .d),.agg ((Ae c.key).map .d)] [] [] (a b.key c.key) (fun y=>vB y) fun d=>wg<|wg<|DQ d Tryz.prog 42 [.agg ((Ae b.val).map .d),.agg ((Ae c.val).map .d)] [] [] (a b.val c.val) (fun y=>vB y) fun e=>lr ki nG (d&&e)
def Vm(a:Val→Val→Option (Bool))(b:Pr)(c:Pr):Option (Bool):=(xz b c a).m
theorem ZNg(d:Val→Val→Option (Bool))(c:∀(a:Val) (b:Val),KC Tryz.prog 42 [.agg ((Ae a).map .d),.agg ((Ae b).map .d)] (d a b) Ia)(a:Pr)(b:Pr):KC Tryz.prog 101 [.agg ((Cg a).map .d),.agg ((Cg b).map .d)] (Vm d a b) ki:=Ci Tryz.func101 Tryz.ntmps101 AG [.tmp 4] fun C co y m f L=>fO co m L fun r g=>⟨fun y hy e _ _=>by rw[(c a.key b.key).x,(c a.key b.key).e];exact(c a.key b.key).k _ e y hy,fun h=>⟨fun y hy e _ _=>by rw[(c a.val b.val).x,(c a.val b.val).e];exact(c a.val b.val).k _ e y hy,fun i=>id⟩⟩
abbrev jH:Bool→AV:=fun y=>vB y
def wc(a:Slt)(b:Slt)(c:Val→Val→Option (Bool)):PT 0 (Bool):=wg<|wg<|wg<|wg<|DQ (decide (a.num=b.num)) Tryz.prog 42 [.agg ((Ae a.val).map .d),.agg ((Ae b.val).map .d)] [] [] (c a.val b.val) (fun y=>vB y) fun d=>lr jH nG (decide (a.num=b.num)&&d)
def Vl(a:Val→Val→Option (Bool))(b:Slt)(c:Slt):Option (Bool):=(wc b c a).m
theorem ZNX(c:Val→Val→Option (Bool))(d:∀(a:Val) (b:Val),KC Tryz.prog 42 [.agg ((Ae a).map .d),.agg ((Ae b).map .d)] (c a b) Ia)(a:Slt)(b:Slt):KC Tryz.prog 103 [.agg ((Bq a).map .d),.agg ((Bq b).map .d)] (Vl c a b) jH:=Ci Tryz.func103 Tryz.ntmps103 AG [.tmp 4] fun C co y m e L=>fO co m L fun r g=>⟨fun y hy f _ _=>by rw[(d a.val b.val).x,(d a.val b.val).e];exact(d a.val b.val).k _ f y hy,fun h=>id⟩
def zK(c:Val)(d:Val)(e:Val→Val→Option (Bool)):PT 0 (Bool):=wg<|cl (kz c) fun a=>wg<|cl (kz d) fun b=>wg<|wg<|Aw (!(!(decide (a.kind=b.kind)&&(decide (a.bits=b.bits)&&(decide (a.text=b.text)&&(decide (a.list=b.list)&&(decide (a.pairs=b.pairs)&&(decide (a.slots=b.slots)&&(decide (a.raws=b.raws)&&true))))))))) (ZQ1 c.raws d.raws) fun g=>wg<|wg<|DQ (!((!(decide (a.kind=b.kind)&&(decide (a.bits=b.bits)&&(decide (a.text=b.text)&&(decide (a.list=b.list)&&(decide (a.pairs=b.pairs)&&(decide (a.slots=b.slots)&&(decide (a.raws=b.raws)&&true))))))))||(!g))) Tryz.prog 99 [vL AF c.list,vL AF d.list,.fn (.func 42) [] []] [] [] (lE c.list d.list (fun(z0:Val) (f:Val)=>e z0 f)) (fun y=>vB y) fun i=>br (((!(decide (a.kind=b.kind)&&(decide (a.bits=b.bits)&&(decide (a.text=b.text)&&(decide (a.list=b.list)&&(decide (a.pairs=b.pairs)&&(decide (a.slots=b.slots)&&(decide (a.raws=b.raws)&&true))))))))||(!g))||(!i)) (lr Ia nG false) (wg<|wg<|cs Tryz.prog 100 [vL Ay c.pairs,vL Ay d.pairs,.fn (.func 101) [] []] [] [] (lF c.pairs d.pairs (fun(z0:Pr) (f:Pr)=>Vm e z0 f)) (fun y=>vB y) fun h=>wg<|wg<|DQ h Tryz.prog 102 [vL At c.slots,vL At d.slots,.fn (.func 103) [] []] [] [] (lH c.slots d.slots (fun(z0:Slt) (f:Slt)=>Vl e z0 f)) (fun y=>vB y) fun j=>lr Ia nG (h&&j))
def ke(a:Val→Val→Option (Bool))(b:Val)(c:Val):Option (Bool):=(zK b c a).m
theorem yO(a:Val→Val→Option (Bool))(f:∀(c:Val) (d:Val),KC Tryz.prog 42 [.agg ((Ae c).map .d),.agg ((Ae d).map .d)] (a c d) Ia)(c:Val)(d:Val):KC Tryz.prog 42 [.agg ((Ae c).map .d),.agg ((Ae d).map .d)] (ke a c d) Ia:=Ci Tryz.func42 Tryz.ntmps42 AG [.tmp 4] fun C co y m i L=>fO co m L fun r g=>fun l=>fun n=>fun o=>⟨fun y hy=>CQ (ZQd c.list d.list (fun(z0:Val) (b:Val)=>a z0 b)) hy co g [] [] (AJ [(2,.fn (.func 42) [] [])]) (fun h j k=>(fun z0 b y e=>Hs (f z0 b) e)) (fun H=>trivial),fun p=>⟨id,⟨fun y hy=>CQ (ZNC c.pairs d.pairs (fun(z0:Pr) (b:Pr)=>Vm a z0 b)) hy co g [] [] (AJ [(2,.fn (.func 101) [] [])]) (fun h j k=>(fun z0 b y e=>Hs (ZNg a f z0 b) e)) (fun H=>trivial),fun q=>⟨fun y hy=>CQ (ZNi c.slots d.slots (fun(z0:Slt) (b:Slt)=>Vl a z0 b)) hy co g [] [] (AJ [(2,.fn (.func 103) [] [])]) (fun h j k=>(fun z0 b y e=>Hs (ZNX a f z0 b) e)) (fun H=>trivial),fun s=>id⟩⟩⟩⟩
def Vd:Nat→Val→Val→Option (Bool)
 |0=>fun _ _=>none
 |a+1=>ke (Vd a)
theorem jQ:∀(c:Nat) (a:Val) (b:Val),KC Tryz.prog 42 [.agg ((Ae a).map .d),.agg ((Ae b).map .d)] (Vd c a b) Ia
 |0,a,b=>⟨fun _ _ _ h=>(by cases h),by intro r;kernel_rfl,by intro r y;kernel_rfl⟩
 |c+1,a,b=>yO (Vd c) (jQ c) a b
abbrev Z2:Bool→AV:=fun y=>vB y
def yV(c:Scm)(d:ByteArray)(a:Val):PT 0 (Bool):=wg<|wg<|cl (Sf c d a) fun b=>wg<|wg<|wg<|Aw (decide (b=(0:Int))) (Ly (Md Ai) (Tv Ai) c d a) fun e=>Aw (decide (b=(0:Int))) (jQ Ai a e) fun f=>lr Z2 nG (decide (b=(0:Int))&&f)
def ZhF(a:Scm)(b:ByteArray)(c:Val):Option (Bool):=(yV a b c).m
theorem k7(a:Scm)(b:ByteArray)(c:Val):KC Tryz.prog 16 [.agg ((Ak a).map .d),vS b,.agg ((Ae c).map .d)] (ZhF a b c) Z2:=kC Tryz.func16 Tryz.ntmps16 [.tmp 6] fun co m L=>fO co m L
abbrev QS(a:Val):Ab×Blk:=kk 1 33 7 (cD (Ae a))
abbrev H7:Int→AV:=fun y=>vI y
def g8(b:Val)(a:List Val):Int×Nat→St:=fun(v2,v3)=>Aa [pp 1,(3,vI v2),(7,vL AF a),(8,vN a.length),(9,vN v3)] [(QS b)]
def is(a:Val):Int→Nat×St:=fun b=>(0,Aa [pp 1,(3,vI b)] [(QS a)])
def ZNd(d:Val)(a:Val→Option (Int))(b:List Val)(v2:Int)(v3:Nat):PT 0 (Lv (Int×Nat) (Int) (Int)):=br (decide ((v3:Int)<(b.length:Int))) (ix b v3 fun c=>wg<|wg<|cs Tryz.prog 17 [.agg ((Ae c).map .d)] [] [] (a c) (fun y=>vI y) fun e=>vs (wa v3 1)<|ln (g8 d b) ((Fk true v2 e),v3+1)) (Ah (is d) v2)
def dq(b:Val)(a:Val→Option (Int))(c:List Val):Int×Nat→Option (Lv (Int×Nat) (Int) (Int)):=fun(v2,v3)=>(ZNd b a c v2 v3).m
def ZNe(b:Val)(a:Int):PT 0 (Int):=wg<|br (decide (b.kind=(10:Int))) (vs (wi (a+1))<|lr H7 nG (a+1)) (lr H7 nG a)
def yp(a:Val)(c:Val→Option (Int)):PT 0 (Int):=wg<|cl (kl a) fun b=>vz (Ag b)<|lc (Aa [pp 1,(3,vI 0),(7,vL AF b),(8,vN b.length),(9,vI 0)] [(QS a)]) ((Al (dq a c b) Ai (0,0)).bind (Sum.elim (fun d=>(ZNe a d).m) some))
def yh(b:Val)(a:Val→Option (Int)):PT 0 (Int):=lc (Aa [pp 1,(3,vI 0)] [(QS b)]) ((yp b a).m)
def ju(a:Val→Option (Int))(b:Val):Option (Int):=(yh b a).m
theorem vf{C:Cx}(co:CO C 0)(a:Val)(b:Val→Option (Int))(f:List Val)(d:∀(a:Val),KC Tryz.prog 17 [.agg ((Ae a).map .d)] (b a) H7):KL Tryz.prog (Aq tl) 24 C (pa [0,0,1,0,1,1] (Ar Tryz.f17)) [.tmp 2] 0 (g8 a f) (is a) H7 nG (dq a b f):=fun(v2,v3) _ m Q e i L=>eN co (Ad [1,3,7,8,9] Dd) (Ad [1,3] Dd) i m L fun r g=>⟨fun c=>⟨fun y hy h _ _=>by rw[(d c).x,(d c).e];exact(d c).k _ h y hy,fun j=>id⟩,id⟩
theorem ZNc(a:Val→Option (Int))(c:∀(b:Val),KC Tryz.prog 17 [.agg ((Ae b).map .d)] (a b) H7)(b:Val):KC Tryz.prog 17 [.agg ((Ae b).map .d)] (ju a b) H7:=kC Tryz.func17 Tryz.ntmps17 [.tmp 2] fun co m L=>mJ co 2 (Ad [1,3] Dd) nl nH m L fun r g=>fun _ m L=>sq (mJ co 1 (Ad [1,3,7,8,9] Dd) nl nH m L fun r g=>fun d=>fun _ m L=>bk 0 (lo (Az (vf co b a d c) nH m L (fun e m=>fO co m L))))
def VH:Nat→Val→Option (Int)
 |0=>fun _=>none
 |a+1=>ju (VH a)
theorem jr:∀(b:Nat) (a:Val),KC Tryz.prog 17 [.agg ((Ae a).map .d)] (VH b a) H7
 |0,a=>⟨fun _ _ _ h=>(by cases h),by intro r;kernel_rfl,by intro r y;kernel_rfl⟩
 |b+1,a=>ZNc (VH b) (jr b) a
abbrev uN:ByteArray→AV:=fun y=>vS y
def ZhC(a:List ByteArray)(b:ByteArray):Option ByteArray:=if a.length≤140737488355328∧(Lib.join (a.map (·.data.toList)) b.data.toList).length≤140737488355328 then some (Q4 a b)else none
theorem Of(a:List ByteArray)(b:ByteArray):KC Tryz.prog 54 [vL AQ a,vS b] (ZhC a b) uN:=⟨fun l H y hy=>by
 obtain⟨⟨c,d⟩,hy⟩:=Bs hy
 cases hy
 exact Zm8 Xk TT ⟨_,Ar Tryz.f54,Tryz.func54,by kernel_rfl,by kernel_rfl⟩ a b c d ⟨rfl,rfl⟩,fun r=>by kernel_rfl,fun r y=>rfl⟩
abbrev R0:ByteArray→AV:=fun y=>vS y
def aG(a:Val→Option ByteArray):Cl:=fun no l H θ=>(∀(z0:Val) y,a z0=some y→BH Tryz.prog l no H (θ 1) [.agg ((Ae z0).map .d)] (vS y))
def cS(a:List Val):List ByteArray×Nat→St:=fun(b,v2)=>Aa [(1,.fn (.yield 1) [] []),(5,.ref (1,5) 0 0 b.length),(8,vL AF a),(9,vN a.length),(10,vN v2)] [kk 5 9 1 (Ac AQ b)]
def bw:List ByteArray→Nat×St:=fun a=>(0,Aa [(5,.ref (1,5) 0 0 a.length)] [kk 5 9 1 (Ac AQ a)])
def ZNK(b:List Val)(c:Val→Option ByteArray)(a:List ByteArray)(v2:Nat):PT 0 (Lv (List ByteArray×Nat) (List ByteArray) (ByteArray)):=br (decide ((v2:Int)<(b.length:Int))) (ix b v2 fun e=>wg<|wg<|cf Tryz.prog 1 [.agg ((Ae e).map .d)] (c e) (fun y=>vS y) fun d=>vw .sep<|ap a (d:ByteArray)<|vs (wa v2 1)<|vz (fl (a++[d]))<|ln (cS b) (a++[d],v2+1)) (vz (fl a)<|Ah (bw) a)
def eA(b:List Val)(a:Val→Option ByteArray):List ByteArray×Nat→Option (Lv (List ByteArray×Nat) (List ByteArray) (ByteArray)):=fun(c,v2)=>(ZNK b a c v2).m
def yT(a:List ByteArray):PT 0 (ByteArray):=vw (.frz 5 [(5,(a.map AQ))] [])<|vz (fz a)<|vw .sep<|cl (Of a (⟨#[44,32]⟩)) fun b=>lr R0 nG b
def yA(a:List Val)(b:Val→Option ByteArray):PT 0 (ByteArray):=vw (.ads 5 5 9 1)<|vz (fl ([]:List ByteArray))<|lc (Aa [(1,.fn (.yield 1) [] []),(5,.ref (1,5) 0 0 ([]:List ByteArray).length),(8,vL AF a),(9,vN a.length),(10,vI 0)] [kk 5 9 1 (Ac AQ ([]:List ByteArray))]) ((Al (eA a b) Ai (([]:List ByteArray),0)).bind (Sum.elim (fun c=>(yT c).m) some))
def zf(a:List Val)(b:Val→Option ByteArray):PT 0 (ByteArray):=vz (Ag a)<|lc (Aa [(1,.fn (.yield 1) [] []),(5,.e0),(8,vL AF a),(9,vN a.length),(10,vI 0)] []) ((yA a b).m)
def ZNn(b:List Val)(a:Val→Option ByteArray):PT 0 (ByteArray):=lc (Aa [(0,vL AF b),(1,.fn (.yield 1) [] []),(5,.e0)] []) ((zf b a).m)
def lh(b:List Val)(a:Val→Option ByteArray):Option (ByteArray):=(ZNn b a).m
theorem vO{C:Cx}(co:CO C 0)(c:List Val)(a:Val→Option ByteArray)(e:(aG a) C.no C.l C.H0 C.θ):KL Tryz.prog (Aq tl) 23 C (pa [0,0,1,0,1,1] (Ar Tryz.f44)) [.tmp 4] 0 (cS c) (bw) R0 nG (eA c a):=fun(h,v2) _ m Q b d L=>eN co (Ad [1,5,8,9,10] I0) (Ad [5] I0) d m L fun r g=>⟨fun f=>⟨⟨fun y hy=>e _ y hy,by intro r;kernel_rfl,by intro r y;kernel_rfl⟩,fun i=>id⟩,id⟩
theorem ZQo(b:List Val)(a:Val→Option ByteArray):KO Tryz.prog 44 0 [vL AF b,.fn (.yield 1) [] []] [] (aG a) (lh b a) R0 nG:=kO Tryz.func44 Tryz.ntmps44 [.tmp 4] 0 (fun co c m L=>mJ co 2 (AI [0,1,5]) nl nH m L fun r g=>fun _ m L=>sq (mJ co 1 (AI [1,5,8,9,10]) nl nH m L fun r g=>fun _ m L=>bk 0 (cM co (Ad [1,5,8,9,10] I0) m L fun r g=>fun _ m L=>lo (Az (vO co b a c) nH m L (fun d m=>fO co m L)))))
abbrev R1:ByteArray→AV:=fun y=>vS y
def aH(a:Slt→Option ByteArray):Cl:=fun no l H θ=>(∀(z0:Slt) y,a z0=some y→BH Tryz.prog l no H (θ 1) [.agg ((Bq z0).map .d)] (vS y))
def dW(a:List Slt):List ByteArray×Nat→St:=fun(b,v2)=>Aa [(1,.fn (.yield 1) [] []),(5,.ref (1,5) 0 0 b.length),(8,vL At a),(9,vN a.length),(10,vN v2)] [kk 5 9 1 (Ac AQ b)]
def gH:List ByteArray→Nat×St:=fun a=>(0,Aa [(5,.ref (1,5) 0 0 a.length)] [kk 5 9 1 (Ac AQ a)])
def zP(b:List Slt)(c:Slt→Option ByteArray)(a:List ByteArray)(v2:Nat):PT 0 (Lv (List ByteArray×Nat) (List ByteArray) (ByteArray)):=br (decide ((v2:Int)<(b.length:Int))) (ix b v2 fun e=>wg<|wg<|cf Tryz.prog 1 [.agg ((Bq e).map .d)] (c e) (fun y=>vS y) fun d=>vw .sep<|ap a (d:ByteArray)<|vs (wa v2 1)<|vz (fl (a++[d]))<|ln (dW b) (a++[d],v2+1)) (vz (fl a)<|Ah (gH) a)
def ft(b:List Slt)(a:Slt→Option ByteArray):List ByteArray×Nat→Option (Lv (List ByteArray×Nat) (List ByteArray) (ByteArray)):=fun(c,v2)=>(zP b a c v2).m
def yy(a:List ByteArray):PT 0 (ByteArray):=vw (.frz 5 [(5,(a.map AQ))] [])<|vz (fz a)<|vw .sep<|cl (Of a (⟨#[44,32]⟩)) fun b=>lr R1 nG b
def yX(a:List Slt)(b:Slt→Option ByteArray):PT 0 (ByteArray):=vw (.ads 5 5 9 1)<|vz (fl ([]:List ByteArray))<|lc (Aa [(1,.fn (.yield 1) [] []),(5,.ref (1,5) 0 0 ([]:List ByteArray).length),(8,vL At a),(9,vN a.length),(10,vI 0)] [kk 5 9 1 (Ac AQ ([]:List ByteArray))]) ((Al (ft a b) Ai (([]:List ByteArray),0)).bind (Sum.elim (fun c=>(yy c).m) some))
def zl(a:List Slt)(b:Slt→Option ByteArray):PT 0 (ByteArray):=vz (Ag a)<|lc (Aa [(1,.fn (.yield 1) [] []),(5,.e0),(8,vL At a),(9,vN a.length),(10,vI 0)] []) ((yX a b).m)
def zp(b:List Slt)(a:Slt→Option ByteArray):PT 0 (ByteArray):=lc (Aa [(0,vL At b),(1,.fn (.yield 1) [] []),(5,.e0)] []) ((zl b a).m)
def ly(b:List Slt)(a:Slt→Option ByteArray):Option (ByteArray):=(zp b a).m
theorem vQ{C:Cx}(co:CO C 0)(c:List Slt)(a:Slt→Option ByteArray)(e:(aH a) C.no C.l C.H0 C.θ):KL Tryz.prog (Aq tl) 23 C (pa [0,0,1,0,1,1] (Ar Tryz.f47)) [.tmp 4] 0 (dW c) (gH) R1 nG (ft c a):=fun(h,v2) _ m Q b d L=>eN co (Ad [1,5,8,9,10] I0) (Ad [5] I0) d m L fun r g=>⟨fun f=>⟨⟨fun y hy=>e _ y hy,by intro r;kernel_rfl,by intro r y;kernel_rfl⟩,fun i=>id⟩,id⟩
theorem ZQA(b:List Slt)(a:Slt→Option ByteArray):KO Tryz.prog 47 0 [vL At b,.fn (.yield 1) [] []] [] (aH a) (ly b a) R1 nG:=kO Tryz.func47 Tryz.ntmps47 [.tmp 4] 0 (fun co c m L=>mJ co 2 (AI [0,1,5]) nl nH m L fun r g=>fun _ m L=>sq (mJ co 1 (AI [1,5,8,9,10]) nl nH m L fun r g=>fun _ m L=>bk 0 (cM co (Ad [1,5,8,9,10] I0) m L fun r g=>fun _ m L=>lo (Az (vQ co b a c) nH m L (fun d m=>fO co m L)))))
abbrev kS:ByteArray→AV:=fun y=>vS y
def xH(a:Int):PT 0 (ByteArray):=bT (decide (a<(10:Int)))<|vs (wi (a+1))<|ss (⟨#[48,49,50,51,52,53,54,55,56,57,97,98,99,100,101,102,103,104,105,106,107,108,109,110,111,112,113,114,115,116,117,118,119,120,121,122]⟩:ByteArray) (.it a) (.it (a+1)) fun s1=>lr kS nG s1
def ZgN(a:Int):Option (ByteArray):=(xH a).m
theorem fk(a:Int):KC Tryz.prog 149 [vI a] (ZgN a) kS:=kC Tryz.func149 Tryz.ntmps149 [.tmp 2] fun co m L=>fO co m L
abbrev jn:ByteArray→AV:=fun y=>vS y
def ws(a:Int)(b:Int):PT 0 (ByteArray):=bT (decide (b=(10:Int)))<|bT (decide ((0:Int)≤a)&&decide (a<(100:Int)))<|cl (fk a) fun c=>lr jn nG c
def Zfg(a:Int)(b:Int):Option (ByteArray):=(ws a b).m
theorem ZNG(a:Int)(b:Int):KC Tryz.prog 148 [vI a,vI b] (Zfg a b) jn:=kC Tryz.func148 Tryz.ntmps148 [.tmp 4] fun co m L=>fO co m L
abbrev j9:ByteArray→AV:=fun y=>vS y
def w9(a:Int):PT 0 (ByteArray):=cl (ZNG a 10) fun b=>lr j9 nG b
def ZhK(a:Int):Option (ByteArray):=(w9 a).m
theorem ZNv(a:Int):KC Tryz.prog 105 [vI a] (ZhK a) j9:=kC Tryz.func105 Tryz.ntmps105 [.tmp 2] fun co m L=>fO co m L
abbrev Z9:ByteArray→AV:=fun y=>vS y
def yx(a:Int):PT 0 (ByteArray):=cl (ZNv a) fun b=>lr Z9 nG b
def Zhr(a:Int):Option (ByteArray):=(yx a).m
theorem kN(a:Int):KC Tryz.prog 49 [vI a] (Zhr a) Z9:=kC Tryz.func49 Tryz.ntmps49 [.tmp 2] fun co m L=>fO co m L
abbrev ji:ByteArray→AV:=fun y=>vS y
def ww(a:Int)(b:Int):PT 0 (ByteArray):=bT (decide (b=(10:Int)))<|bT (decide (a<(100:Int)))<|vz (wk .i64 a)<|cl (fk (IntKind.i64.wrap a)) fun c=>lr ji nG c
def Ze0(a:Int)(b:Int):Option (ByteArray):=(ww a b).m
theorem ZOd(a:Int)(b:Int):KC Tryz.prog 106 [.d (.int .u64 a),vI b] (Ze0 a b) ji:=kC Tryz.func106 Tryz.ntmps106 [.tmp 4] fun co m L=>fO co m L
abbrev aa:ByteArray→AV:=fun y=>vS y
def ZNk(a:Int)(b:Int):PT 0 (ByteArray):=cl (ZOd a b) fun c=>lr aa nG c
def ZeJ(a:Int)(b:Int):Option (ByteArray):=(ZNk a b).m
theorem ko(a:Int)(b:Int):KC Tryz.prog 52 [.d (.int .u64 a),vI b] (ZeJ a b) aa:=kC Tryz.func52 Tryz.ntmps52 [.tmp 4] fun co m L=>fO co m L
abbrev ZQY:ByteArray→AV:=fun y=>vS y
def Zkt(a:ByteArray):Option ByteArray:=if a=⟨#[97]⟩then some ⟨#[34,97,34]⟩else none
theorem iF(a:ByteArray):KC Tryz.prog 114 [vS a] (Zkt a) ZQY:=⟨fun l H y hy=>by
 obtain⟨b,hy⟩:=Bs hy
 cases hy
 subst b
 exact Zoq (ds:=[.str ⟨#[97]⟩]) (V:=[.string ⟨#[97]⟩]) ⟨_,Ar Tryz.f114,Tryz.func114,by kernel_rfl,by kernel_rfl⟩ rfl vC ⟨rfl,rfl⟩,fun r=>by kernel_rfl,fun r y=>rfl⟩
abbrev K8:ByteArray→AV:=fun y=>vS y
def yY(a:Val):PT 0 (ByteArray):=wg<|wg<|cl (T4 a.kind a) fun b=>bF (!b)<|wg<|bF (decide (a.kind=(1:Int)))<|br (decide (a.kind=(2:Int))) (bF (decide (a.kind=(2:Int)))<|bF (decide (a.kind=(6:Int)))<|br (decide (a.kind=(7:Int))) (wg<|cl (iF a.text) fun c=>lr K8 nG c) (bF (decide (a.kind=(8:Int)))<|wg<|cl (ko a.bits 10) fun d=>lr K8 nG d)) (bF (decide (a.kind=(3:Int)))<|bF (decide (a.kind=(6:Int)))<|br (decide (a.kind=(7:Int))) (wg<|cl (iF a.text) fun e=>lr K8 nG e) (bF (decide (a.kind=(8:Int)))<|wg<|cl (ko a.bits 10) fun f=>lr K8 nG f))
def ZiP(a:Val):Option (ByteArray):=(yY a).m
theorem ZQM(a:Val):KC Tryz.prog 56 [.agg ((Ae a).map .d)] (ZiP a) K8:=kC Tryz.func56 Tryz.ntmps56 [.tmp 2] fun co m L=>fO co m L
abbrev GZ:ByteArray→AV:=fun y=>vS y
abbrev Z8:ByteArray→AV:=fun y=>vS y
def zm(b:Slt)(a:Val→Option (ByteArray)):PT 0 (ByteArray):=wg<|cl (kN b.num) fun d=>ad d (⟨#[32]⟩:ByteArray) fun s2=>wg<|cs Tryz.prog 19 [.agg ((Ae b.val).map .d)] [] [] (a b.val) (fun y=>vS y) fun e=>ad s2 e fun c=>lr Z8 nG c
def Vr(a:Val→Option (ByteArray))(b:Slt):Option (ByteArray):=(zm b a).m
theorem ZQ6(b:Val→Option (ByteArray))(c:∀(a:Val),KC Tryz.prog 19 [.agg ((Ae a).map .d)] (b a) GZ)(a:Slt):KC Tryz.prog 48 [.agg ((Bq a).map .d)] (Vr b a) Z8:=Ci Tryz.func48 Tryz.ntmps48 AG [.tmp 2] fun C co y m d L=>fO co m L fun r g=>fun h=>fun s2=>⟨fun y hy e _ _=>by rw[(c a.val).x,(c a.val).e];exact(c a.val).k _ e y hy,fun i=>fun f=>id⟩
def ZNS(a:Val)(b:Val→Option (ByteArray)):PT 0 (ByteArray):=wg<|br (decide (a.kind=(11:Int))) (wg<|cs Tryz.prog 44 [vL AF a.list,.fn (.func 19) [] []] [] [] (lh a.list (fun(z0:Val)=>b z0)) (fun y=>vS y) fun n=>ad (⟨#[91]⟩:ByteArray) n fun s2=>ad s2 (⟨#[93]⟩:ByteArray) fun k=>lr GZ nG k) (bF (decide (a.kind=(12:Int)))<|br (decide (a.kind=(10:Int))) (wg<|vz (Ag a.slots)<|br (decide ((0:Int)<(a.slots.length:Int))) (wg<|cs Tryz.prog 47 [vL At a.slots,.fn (.func 48) [] []] [] [] (ly a.slots (fun(z0:Slt)=>Vr b z0)) (fun y=>vS y) fun c=>vw .sep<|a1 (c:ByteArray)<|rn 3 32 1 ([c]:List ByteArray)<|vw .sep<|wg<|vz (Ag a.raws)<|bF (decide ((0:Int)<(a.raws.length:Int)))<|vw (.frz 32 [(3,(([c]:List ByteArray).map AQ))] [])<|vz (fz ([c]:List ByteArray))<|vw .sep<|cl (Of ([c]:List ByteArray) (⟨#[44,32]⟩)) fun o=>ad (⟨#[123]⟩:ByteArray) o fun s6=>ad s6 (⟨#[125]⟩:ByteArray) fun l=>lr GZ nG l) (wg<|vz (Ag a.raws)<|bF (decide ((0:Int)<(a.raws.length:Int)))<|cl ((Of [] (⟨#[44,32]⟩)).nrm (fun _ _ _ h=>.nrm h) (xs':=[.e0,vS (⟨#[44,32]⟩)]) (by intro r;kernel_rfl)) fun p=>ad (⟨#[123]⟩:ByteArray) p fun m=>ad m (⟨#[125]⟩:ByteArray) fun d=>lr GZ nG d)) (wg<|wg<|cl (T4 a.kind a) fun g=>bF (!g)<|wg<|cl (kN a.kind) fun i=>ad i (⟨#[58]⟩:ByteArray) fun e=>wg<|cl (ZQM a) fun j=>ad e j fun f=>lr GZ nG f))
def kL(a:Val→Option (ByteArray))(b:Val):Option (ByteArray):=(ZNS b a).m
theorem zy(a:Val→Option (ByteArray))(e:∀(b:Val),KC Tryz.prog 19 [.agg ((Ae b).map .d)] (a b) GZ)(b:Val):KC Tryz.prog 19 [.agg ((Ae b).map .d)] (kL a b) GZ:=Ci Tryz.func19 Tryz.ntmps19 AG [.tmp 2] fun C co y m d L=>fO co m L fun r g=>⟨⟨fun y hy=>CQ (ZQo b.list (fun(z0:Val)=>a z0)) hy co g [] [] (AJ [(1,.fn (.func 19) [] [])]) (fun f h i=>(fun z0 y c=>Hs (e z0) c)) (fun H=>trivial),fun u=>fun s2=>fun q=>id⟩,⟨⟨⟨fun y hy=>CQ (ZQA b.slots (fun(z0:Slt)=>Vr a z0)) hy co g [] [] (AJ [(1,.fn (.func 48) [] [])]) (fun f h i=>(fun z0 y c=>Hs (ZQ6 a e z0) c)) (fun H=>trivial),fun v=>fun w=>fun s6=>fun s=>id⟩,fun x=>fun t=>fun j=>id⟩,fun n=>fun o=>fun k=>fun p=>fun l=>id⟩⟩
def Vz:Nat→Val→Option (ByteArray)
 |0=>fun _=>none
 |a+1=>kL (Vz a)
theorem jk:∀(b:Nat) (a:Val),KC Tryz.prog 19 [.agg ((Ae a).map .d)] (Vz b a) GZ
 |0,a=>⟨fun _ _ _ h=>(by cases h),by intro r;kernel_rfl,by intro r y;kernel_rfl⟩
 |b+1,a=>zy (Vz b) (jk b) a
abbrev FH:ByteArray:=⟨#[97,46,77]⟩
abbrev O0:Scm:=(.mk ([(.mk FH ([(.mk 1 ⟨#[110]⟩ 3 0 (.mk 4 ⟨#[]⟩:Typ) ⟨#[]⟩ false (.mk 0 0 ⟨#[]⟩ ([]:List Val) ([]:List Pr) ([]:List Slt) ([]:List Raw):Val) ([]:List Nt):Fld),(.mk 2 ⟨#[108]⟩ 4 0 (.mk 7 ⟨#[]⟩:Typ) ⟨#[]⟩ false (.mk 0 0 ⟨#[]⟩ ([]:List Val) ([]:List Pr) ([]:List Slt) ([]:List Raw):Val) ([]:List Nt):Fld)]:List Fld) ([]:List Spn) ([]:List ByteArray) ([]:List Nt):Msg)]:List Msg) ([]:List Enm) ([]:List Svc):Scm)
abbrev OX:Msg:=(.mk FH ([(.mk 1 ⟨#[110]⟩ 3 0 (.mk 4 ⟨#[]⟩:Typ) ⟨#[]⟩ false (.mk 0 0 ⟨#[]⟩ ([]:List Val) ([]:List Pr) ([]:List Slt) ([]:List Raw):Val) ([]:List Nt):Fld),(.mk 2 ⟨#[108]⟩ 4 0 (.mk 7 ⟨#[]⟩:Typ) ⟨#[]⟩ false (.mk 0 0 ⟨#[]⟩ ([]:List Val) ([]:List Pr) ([]:List Slt) ([]:List Raw):Val) ([]:List Nt):Fld)]:List Fld) ([]:List Spn) ([]:List ByteArray) ([]:List Nt):Msg)
abbrev E7:Bool→AV:=fun y=>vB y
def ZQF:PT 0 (Bool):=wg<|wg<|wg<|wg<|vw .sep<|vw .sep<|wg<|vw .sep<|vw .sep<|wg<|wg<|vw .sep<|wg<|wg<|wg<|cl ((Ly (Md Ai) (Tv Ai) O0 FH (.mk 10 0 ⟨#[]⟩ ([]:List Val) ([]:List Pr) ([(.mk 2 (.mk 11 0 ⟨#[]⟩ ([(.mk 7 0 ⟨#[97]⟩ ([]:List Val) ([]:List Pr) ([]:List Slt) ([]:List Raw):Val)]:List Val) ([]:List Pr) ([]:List Slt) ([]:List Raw):Val):Slt),(.mk 1 (.mk 4 0 ⟨#[]⟩ ([]:List Val) ([]:List Pr) ([]:List Slt) ([]:List Raw):Val):Slt)]:List Slt) ([]:List Raw):Val)).nrm (fun _ _ _ h=>.nrm h) (xs':=[.agg [.d (.list [Au OX]),.e0,.e0],vS FH,.agg [vI 10,.d (.int .u64 0),vS ⟨#[]⟩,.e0,.e0,.d (.list [Bq (.mk 2 (.mk 11 0 ⟨#[]⟩ ([(.mk 7 0 ⟨#[97]⟩ ([]:List Val) ([]:List Pr) ([]:List Slt) ([]:List Raw):Val)]:List Val) ([]:List Pr) ([]:List Slt) ([]:List Raw):Val):Slt),Bq (.mk 1 (.mk 4 0 ⟨#[]⟩ ([]:List Val) ([]:List Pr) ([]:List Slt) ([]:List Raw):Val):Slt)]),.e0]]) (by intro r;kernel_rfl)) fun a=>wg<|wg<|wg<|cl ((Sf O0 FH (.mk 10 0 ⟨#[]⟩ ([]:List Val) ([]:List Pr) ([(.mk 2 (.mk 11 0 ⟨#[]⟩ ([(.mk 7 0 ⟨#[97]⟩ ([]:List Val) ([]:List Pr) ([]:List Slt) ([]:List Raw):Val)]:List Val) ([]:List Pr) ([]:List Slt) ([]:List Raw):Val):Slt),(.mk 1 (.mk 4 0 ⟨#[]⟩ ([]:List Val) ([]:List Pr) ([]:List Slt) ([]:List Raw):Val):Slt)]:List Slt) ([]:List Raw):Val)).nrm (fun _ _ _ h=>.nrm h) (xs':=[.agg [.d (.list [Au OX]),.e0,.e0],vS FH,.agg [vI 10,.d (.int .u64 0),vS ⟨#[]⟩,.e0,.e0,.d (.list [Bq (.mk 2 (.mk 11 0 ⟨#[]⟩ ([(.mk 7 0 ⟨#[97]⟩ ([]:List Val) ([]:List Pr) ([]:List Slt) ([]:List Raw):Val)]:List Val) ([]:List Pr) ([]:List Slt) ([]:List Raw):Val):Slt),Bq (.mk 1 (.mk 4 0 ⟨#[]⟩ ([]:List Val) ([]:List Pr) ([]:List Slt) ([]:List Raw):Val):Slt)]),.e0]]) (by intro r;kernel_rfl)) fun b=>wg<|wg<|Aw (decide (b=(0:Int))) ((k7 O0 FH (.mk 10 0 ⟨#[]⟩ ([]:List Val) ([]:List Pr) ([(.mk 2 (.mk 11 0 ⟨#[]⟩ ([(.mk 7 0 ⟨#[97]⟩ ([]:List Val) ([]:List Pr) ([]:List Slt) ([]:List Raw):Val)]:List Val) ([]:List Pr) ([]:List Slt) ([]:List Raw):Val):Slt),(.mk 1 (.mk 4 0 ⟨#[]⟩ ([]:List Val) ([]:List Pr) ([]:List Slt) ([]:List Raw):Val):Slt)]:List Slt) ([]:List Raw):Val)).nrm (fun _ _ _ h=>.nrm h) (xs':=[.agg [.d (.list [Au OX]),.e0,.e0],vS FH,.agg [vI 10,.d (.int .u64 0),vS ⟨#[]⟩,.e0,.e0,.d (.list [Bq (.mk 2 (.mk 11 0 ⟨#[]⟩ ([(.mk 7 0 ⟨#[97]⟩ ([]:List Val) ([]:List Pr) ([]:List Slt) ([]:List Raw):Val)]:List Val) ([]:List Pr) ([]:List Slt) ([]:List Raw):Val):Slt),Bq (.mk 1 (.mk 4 0 ⟨#[]⟩ ([]:List Val) ([]:List Pr) ([]:List Slt) ([]:List Raw):Val):Slt)]),.e0]]) (by intro r;kernel_rfl)) fun c=>wg<|wg<|Aw (decide (b=(0:Int))&&(!c)) ((k7 O0 FH a).nrm (fun _ _ _ h=>.nrm h) (xs':=[.agg [.d (.list [Au OX]),.e0,.e0],vS FH,.agg ((Ae a).map .d)]) (by intro r;kernel_rfl)) fun d=>wg<|vy ((decide (b=(0:Int))&&(!c))&&d) (Ag a.slots)<|wg<|A8 (((decide (b=(0:Int))&&(!c))&&d)&&decide ((a.slots.length:Int)=(1:Int))) a.slots 0 fun e=>wg<|Aw ((((decide (b=(0:Int))&&(!c))&&d)&&decide ((a.slots.length:Int)=(1:Int)))&&decide (e.num=(2:Int))) ((jr Ai (.mk 10 0 ⟨#[]⟩ ([]:List Val) ([]:List Pr) ([(.mk 2 (.mk 11 0 ⟨#[]⟩ ([(.mk 7 0 ⟨#[97]⟩ ([]:List Val) ([]:List Pr) ([]:List Slt) ([]:List Raw):Val)]:List Val) ([]:List Pr) ([]:List Slt) ([]:List Raw):Val):Slt),(.mk 1 (.mk 4 0 ⟨#[]⟩ ([]:List Val) ([]:List Pr) ([]:List Slt) ([]:List Raw):Val):Slt)]:List Slt) ([]:List Raw):Val)).nrm (fun _ _ _ h=>.nrm h) (xs':=[.agg [vI 10,.d (.int .u64 0),vS ⟨#[]⟩,.e0,.e0,.d (.list [Bq (.mk 2 (.mk 11 0 ⟨#[]⟩ ([(.mk 7 0 ⟨#[97]⟩ ([]:List Val) ([]:List Pr) ([]:List Slt) ([]:List Raw):Val)]:List Val) ([]:List Pr) ([]:List Slt) ([]:List Raw):Val):Slt),Bq (.mk 1 (.mk 4 0 ⟨#[]⟩ ([]:List Val) ([]:List Pr) ([]:List Slt) ([]:List Raw):Val):Slt)]),.e0]]) (by intro r;kernel_rfl)) fun f=>wg<|Aw (((((decide (b=(0:Int))&&(!c))&&d)&&decide ((a.slots.length:Int)=(1:Int)))&&decide (e.num=(2:Int)))&&decide (f=(1:Int))) ((Uw Ai (.mk 10 0 ⟨#[]⟩ ([]:List Val) ([]:List Pr) ([(.mk 2 (.mk 11 0 ⟨#[]⟩ ([(.mk 7 0 ⟨#[97]⟩ ([]:List Val) ([]:List Pr) ([]:List Slt) ([]:List Raw):Val)]:List Val) ([]:List Pr) ([]:List Slt) ([]:List Raw):Val):Slt),(.mk 1 (.mk 4 0 ⟨#[]⟩ ([]:List Val) ([]:List Pr) ([]:List Slt) ([]:List Raw):Val):Slt)]:List Slt) ([]:List Raw):Val)).nrm (fun _ _ _ h=>.nrm h) (xs':=[.agg [vI 10,.d (.int .u64 0),vS ⟨#[]⟩,.e0,.e0,.d (.list [Bq (.mk 2 (.mk 11 0 ⟨#[]⟩ ([(.mk 7 0 ⟨#[97]⟩ ([]:List Val) ([]:List Pr) ([]:List Slt) ([]:List Raw):Val)]:List Val) ([]:List Pr) ([]:List Slt) ([]:List Raw):Val):Slt),Bq (.mk 1 (.mk 4 0 ⟨#[]⟩ ([]:List Val) ([]:List Pr) ([]:List Slt) ([]:List Raw):Val):Slt)]),.e0]]) (by intro r;kernel_rfl)) fun g=>wg<|Aw ((((((decide (b=(0:Int))&&(!c))&&d)&&decide ((a.slots.length:Int)=(1:Int)))&&decide (e.num=(2:Int)))&&decide (f=(1:Int)))&&decide (g=(4:Int))) ((jk Ai (.mk 10 0 ⟨#[]⟩ ([]:List Val) ([]:List Pr) ([(.mk 2 (.mk 11 0 ⟨#[]⟩ ([(.mk 7 0 ⟨#[97]⟩ ([]:List Val) ([]:List Pr) ([]:List Slt) ([]:List Raw):Val)]:List Val) ([]:List Pr) ([]:List Slt) ([]:List Raw):Val):Slt),(.mk 1 (.mk 4 0 ⟨#[]⟩ ([]:List Val) ([]:List Pr) ([]:List Slt) ([]:List Raw):Val):Slt)]:List Slt) ([]:List Raw):Val)).nrm (fun _ _ _ h=>.nrm h) (xs':=[.agg [vI 10,.d (.int .u64 0),vS ⟨#[]⟩,.e0,.e0,.d (.list [Bq (.mk 2 (.mk 11 0 ⟨#[]⟩ ([(.mk 7 0 ⟨#[97]⟩ ([]:List Val) ([]:List Pr) ([]:List Slt) ([]:List Raw):Val)]:List Val) ([]:List Pr) ([]:List Slt) ([]:List Raw):Val):Slt),Bq (.mk 1 (.mk 4 0 ⟨#[]⟩ ([]:List Val) ([]:List Pr) ([]:List Slt) ([]:List Raw):Val):Slt)]),.e0]]) (by intro r;kernel_rfl)) fun i=>lr E7 nG (((((((decide (b=(0:Int))&&(!c))&&d)&&decide ((a.slots.length:Int)=(1:Int)))&&decide (e.num=(2:Int)))&&decide (f=(1:Int)))&&decide (g=(4:Int)))&&decide (i=(⟨#[123,50,32,91,55,58,34,97,34,93,44,32,49,32,52,58,48,125]⟩:ByteArray)))
def li:Option (Bool):=(ZQF).m
theorem aN:KC Tryz.prog 7 [] (li) E7:=kC Tryz.func7 Tryz.ntmps7 [.tmp 0] fun co m L=>fO co m L
abbrev GO:List (Ab×Bool):=[((1,2),false),((1,4),false)]
abbrev RE:Ab×Blk:=kk 4 47 5 [vS ⟨#[]⟩,.e0,.e0,.e0,.e0]
abbrev S6(a:Scm):Ab×Blk:=kk 2 26 3 (cD (Ak a))
abbrev Nq:Msg×Bool→AV:=fun y=>.tup [.agg ((Au y.1).map .d),vB y.2]
def eO(a:Scm)(b:ByteArray):Nat→St:=fun c=>Aa [(1,vS b),pp 2,pp 4,(6,vN c)] [(S6 a),RE]
def dS:Unit→Nat×St:=fun _=>(0,Aa [pp 4] [RE])
def Zk(a:Scm)(c:ByteArray)(b:Nat):PT 0 (Lv (Nat) (Unit) (Msg×Bool)):=wg<|vz (Ag a.messages)<|br (decide ((b:Int)<(a.messages.length:Int))) (wg<|ix a.messages b fun d=>br (decide (d.name=c)) (wg<|ix a.messages b fun e=>wg<|An Nq nG (e,true)) (vs (wa b 1)<|ln (eO a c) (b+1))) (Ah (dS) ())
def M8(a:Scm)(b:ByteArray):Nat→Option (Lv (Nat) (Unit) (Msg×Bool)):=fun c=>(Zk a b c).m
def gK:PT 0 (Msg×Bool):=wg<|lr Nq nG ((.mk ⟨#[]⟩ [] [] [] []:Msg),false)
def eq(a:Scm)(b:ByteArray):PT 0 (Msg×Bool):=lc (Aa [(1,vS b),pp 2,pp 4,(6,vI 0)] [(S6 a),RE]) ((Al (M8 a b) Ai 0).bind (Sum.elim (fun _=>(gK).m) some))
def gm(a:Scm)(b:ByteArray):PT 0 (Msg×Bool):=lc (Aa [(1,vS b),pp 2,pp 4] [(S6 a),RE]) ((eq a b).m)
def L5(a:Scm)(b:ByteArray):Option (Msg×Bool):=(gm a b).m
theorem vG{C:Cx}(co:CO C 0)(b:Scm)(c:ByteArray):KL Tryz.prog (Aq tl) 28 C (pa [0,0,1,0,1] (Ar Tryz.f12)) [.cell 4 47,.tmp 5] 0 (eO b c) (dS) Nq nG (M8 b c):=fun e _ m Q a d L=>eN co (Ad [1,2,4,6] GO) (Ad [4] Ds) d m L
theorem jp(a:Scm)(b:ByteArray):KC Tryz.prog 12 [.agg ((Ak a).map .d),vS b] (L5 a b) Nq:=kC Tryz.func12 Tryz.ntmps12 [.cell 4 47,.tmp 5] fun co m L=>mJ co 1 (Ad [1,2,4] GO) nl nH m L fun r g=>fun _ m L=>sq (mJ co 1 (Ad [1,2,4,6] GO) nl nH m L fun r g=>fun _ m L=>bk 0 (lo (Az (vG co a b) nH m L (fun _ m=>fO co m L))))
abbrev N8:Bool→AV:=fun y=>vB y
def pe(a:Val):PT 0 (Bool):=wg<|vz (Ag a.list)<|wg<|wg<|vy (!(decide ((0:Int)<(a.list.length:Int))&&(!decide (a.kind=(11:Int))))) (Ag a.pairs)<|wg<|wg<|vy (!((decide ((0:Int)<(a.list.length:Int))&&(!decide (a.kind=(11:Int))))||(decide ((0:Int)<(a.pairs.length:Int))&&(!decide (a.kind=(12:Int)))))) (Ag a.slots)<|wg<|wg<|vy (!(((decide ((0:Int)<(a.list.length:Int))&&(!decide (a.kind=(11:Int))))||(decide ((0:Int)<(a.pairs.length:Int))&&(!decide (a.kind=(12:Int)))))||(decide ((0:Int)<(a.slots.length:Int))&&(!decide (a.kind=(10:Int)))))) (Ag a.raws)<|wg<|br ((((decide ((0:Int)<(a.list.length:Int))&&(!decide (a.kind=(11:Int))))||(decide ((0:Int)<(a.pairs.length:Int))&&(!decide (a.kind=(12:Int)))))||(decide ((0:Int)<(a.slots.length:Int))&&(!decide (a.kind=(10:Int)))))||(decide ((0:Int)<(a.raws.length:Int))&&(!decide (a.kind=(10:Int))))) (lr N8 nG true) (wg<|wg<|wg<|br ((!decide (a.text=(⟨#[]⟩:ByteArray)))&&(!(decide (a.kind=(7:Int))||decide (a.kind=(8:Int))))) (lr N8 nG true) (wg<|wg<|wg<|wg<|lr N8 nG ((!decide (a.bits=(0:Int)))&&((((decide (a.kind=(7:Int))||decide (a.kind=(8:Int)))||decide (a.kind=(11:Int)))||decide (a.kind=(12:Int)))||decide (a.kind=(10:Int))))))
def UT(a:Val):Option (Bool):=(pe a).m
theorem RD(a:Val):KC Tryz.prog 122 [.agg ((Ae a).map .d)] (UT a) N8:=kC Tryz.func122 Tryz.ntmps122 [.tmp 2] fun co m L=>fO co m L
abbrev QO:Ab×Blk:=kk 4 53 16 [vI 0,vS ⟨#[]⟩,vI 0,vI 0,vI 0,vS ⟨#[]⟩,vS ⟨#[]⟩,vB false,vI 0,.d (.int .u64 0),vS ⟨#[]⟩,.e0,.e0,.e0,.e0,.e0]
abbrev ZA(a:Msg):Ab×Blk:=kk 2 47 5 (cD (Au a))
abbrev Nr:Fld×Bool→AV:=fun y=>.tup [.agg ((Am y.1).map .d),vB y.2]
def gP(a:Msg)(b:Int):Nat→St:=fun c=>Aa [(1,vI b),pp 2,pp 4,(6,vN c)] [(ZA a),QO]
def ja:Unit→Nat×St:=fun _=>(0,Aa [pp 4] [QO])
def SQ(a:Msg)(c:Int)(b:Nat):PT 0 (Lv (Nat) (Unit) (Fld×Bool)):=wg<|vz (Ag a.fields)<|br (decide ((b:Int)<(a.fields.length:Int))) (wg<|ix a.fields b fun d=>br (decide (d.num=c)) (wg<|ix a.fields b fun e=>wg<|An Nr nG (e,true)) (vs (wa b 1)<|ln (gP a c) (b+1))) (Ah (ja) ())
def Nb(a:Msg)(b:Int):Nat→Option (Lv (Nat) (Unit) (Fld×Bool)):=fun c=>(SQ a b c).m
def b9:PT 0 (Fld×Bool):=wg<|lr Nr nG ((.mk 0 ⟨#[]⟩ 0 0 (.mk 0 ⟨#[]⟩:Typ) ⟨#[]⟩ false (.mk 0 0 ⟨#[]⟩ [] [] [] []:Val) []:Fld),false)
def iv(a:Msg)(b:Int):PT 0 (Fld×Bool):=lc (Aa [(1,vI b),pp 2,pp 4,(6,vI 0)] [(ZA a),QO]) ((Al (Nb a b) Ai 0).bind (Sum.elim (fun _=>(b9).m) some))
def dU(a:Msg)(b:Int):PT 0 (Fld×Bool):=lc (Aa [(1,vI b),pp 2,pp 4] [(ZA a),QO]) ((iv a b).m)
def UN(a:Msg)(b:Int):Option (Fld×Bool):=(dU a b).m
theorem ZzO{C:Cx}(co:CO C 0)(b:Msg)(c:Int):KL Tryz.prog (Aq tl) 28 C (pa [0,0,1,0,1] (Ar Tryz.f13)) [.cell 4 53,.tmp 5] 0 (gP b c) (ja) Nr nG (Nb b c):=fun e _ m Q a d L=>eN co (Ad [1,2,4,6] GO) (Ad [4] Ds) d m L
theorem Uk(a:Msg)(b:Int):KC Tryz.prog 13 [.agg ((Au a).map .d),vI b] (UN a b) Nr:=kC Tryz.func13 Tryz.ntmps13 [.cell 4 53,.tmp 5] fun co m L=>mJ co 1 (Ad [1,2,4] GO) nl nH m L fun r g=>fun _ m L=>sq (mJ co 1 (Ad [1,2,4,6] GO) nl nH m L fun r g=>fun _ m L=>bk 0 (lo (Az (ZzO co a b) nH m L (fun _ m=>fO co m L))))
abbrev Jc:Int→AV:=fun y=>vI y
def bm(b:Int)(a:Val):PT 0 (Int):=wg<|wg<|Aw (!(!decide (a.kind=b))) (RD a) fun c=>br ((!decide (a.kind=b))||c) (lr Jc nG 12) (wg<|vz (AR a.text.size)<|br (decide ((4096:Int)<(a.text.size:Int))) (lr Jc nG 3) (wg<|cl (Tf b a) fun d=>br (!d) (br (decide (b=(7:Int))) (lr Jc nG 7) (lr Jc nG 12)) (lr Jc nG 0)))
def UL(a:Int)(b:Val):Option (Int):=(bm a b).m
theorem la(a:Int)(b:Val):KC Tryz.prog 70 [vI a,.agg ((Ae b).map .d)] (UL a b) Jc:=kC Tryz.func70 Tryz.ntmps70 [.tmp 4] fun co m L=>fO co m L
abbrev Rp:Ab×Blk:=kk 4 68 5 [vS ⟨#[]⟩,vB false,.e0,.e0,.e0]
abbrev SF(a:Scm):Ab×Blk:=kk 2 26 3 (cD (Ak a))
abbrev NB:Enm×Bool→AV:=fun y=>.tup [.agg ((Bi y.1).map .d),vB y.2]
def bI(a:Scm)(b:ByteArray):Nat→St:=fun c=>Aa [(1,vS b),pp 2,pp 4,(6,vN c)] [(SF a),Rp]
def iA:Unit→Nat×St:=fun _=>(0,Aa [pp 4] [Rp])
def S0(a:Scm)(c:ByteArray)(b:Nat):PT 0 (Lv (Nat) (Unit) (Enm×Bool)):=wg<|vz (Ag a.enums)<|br (decide ((b:Int)<(a.enums.length:Int))) (wg<|ix a.enums b fun d=>br (decide (d.name=c)) (wg<|ix a.enums b fun e=>wg<|An NB nG (e,true)) (vs (wa b 1)<|ln (bI a c) (b+1))) (Ah (iA) ())
def M3(a:Scm)(b:ByteArray):Nat→Option (Lv (Nat) (Unit) (Enm×Bool)):=fun c=>(S0 a b c).m
def ea:PT 0 (Enm×Bool):=wg<|lr NB nG ((.mk ⟨#[]⟩ false [] [] []:Enm),false)
def bY(a:Scm)(b:ByteArray):PT 0 (Enm×Bool):=lc (Aa [(1,vS b),pp 2,pp 4,(6,vI 0)] [(SF a),Rp]) ((Al (M3 a b) Ai 0).bind (Sum.elim (fun _=>(ea).m) some))
def bG(a:Scm)(b:ByteArray):PT 0 (Enm×Bool):=lc (Aa [(1,vS b),pp 2,pp 4] [(SF a),Rp]) ((bY a b).m)
def U0(a:Scm)(b:ByteArray):Option (Enm×Bool):=(bG a b).m
theorem uY{C:Cx}(co:CO C 0)(b:Scm)(c:ByteArray):KL Tryz.prog (Aq tl) 28 C (pa [0,0,1,0,1] (Ar Tryz.f71)) [.cell 4 68,.tmp 5] 0 (bI b c) (iA) NB nG (M3 b c):=fun e _ m Q a d L=>eN co (Ad [1,2,4,6] GO) (Ad [4] Ds) d m L
theorem jY(a:Scm)(b:ByteArray):KC Tryz.prog 71 [.agg ((Ak a).map .d),vS b] (U0 a b) NB:=kC Tryz.func71 Tryz.ntmps71 [.cell 4 68,.tmp 5] fun co m L=>mJ co 1 (Ad [1,2,4] GO) nl nH m L fun r g=>fun _ m L=>sq (mJ co 1 (Ad [1,2,4,6] GO) nl nH m L fun r g=>fun _ m L=>bk 0 (lo (Az (uY co a b) nH m L (fun _ m=>fO co m L))))
abbrev Zr(a:Enm):Ab×Blk:=kk 2 68 5 (cD (Bi a))
abbrev NC:Bool→AV:=fun y=>vB y
def e9(a:Enm)(b:Int):Nat→St:=fun c=>Aa [(1,.d (.int .u64 b)),pp 2,(5,vN c)] [(Zr a)]
def cB:Unit→Nat×St:=fun _=>(0,Aa [] [])
def S8(a:Enm)(e:Int)(b:Nat):PT 0 (Lv (Nat) (Unit) (Bool)):=wg<|vz (Ag a.items)<|br (decide ((b:Int)<(a.items.length:Int))) (wg<|ix a.items b fun c=>wg<|A8 (decide ((0:Int)≤c.num)) a.items (b:Int) fun d=>vy (decide ((0:Int)≤c.num)) (wk .u64 d.num)<|br (decide ((0:Int)≤c.num)&&decide ((IntKind.u64.wrap d.num)=e)) (An NC nG true) (vs (wa b 1)<|ln (e9 a e) (b+1))) (Ah (cB) ())
def M2(a:Enm)(b:Int):Nat→Option (Lv (Nat) (Unit) (Bool)):=fun c=>(S8 a b c).m
def iq:PT 0 (Bool):=lr NC nG false
def dZ(a:Enm)(b:Int):PT 0 (Bool):=lc (Aa [(1,.d (.int .u64 b)),pp 2,(5,vI 0)] [(Zr a)]) ((Al (M2 a b) Ai 0).bind (Sum.elim (fun _=>(iq).m) some))
def i5(a:Enm)(b:Int):PT 0 (Bool):=lc (Aa [(1,.d (.int .u64 b)),pp 2] [(Zr a)]) ((dZ a b).m)
def L8(a:Enm)(b:Int):Option (Bool):=(i5 a b).m
theorem ZzD{C:Cx}(co:CO C 0)(b:Enm)(c:Int):KL Tryz.prog (Aq tl) 31 C (pa [0,0,1,0,1] (Ar Tryz.f72)) [.tmp 4] 0 (e9 b c) (cB) NC nG (M2 b c):=fun e _ m Q a d L=>eN co (Ad [1,2,5] DS) nl d m L
theorem ld(a:Enm)(b:Int):KC Tryz.prog 72 [.agg ((Bi a).map .d),.d (.int .u64 b)] (L8 a b) NC:=kC Tryz.func72 Tryz.ntmps72 [.tmp 4] fun co m L=>mJ co 1 (Ad [1,2] DS) nl nH m L fun r g=>fun _ m L=>sq (mJ co 1 (Ad [1,2,5] DS) nl nH m L fun r g=>fun _ m L=>bk 0 (lo (Az (ZzD co a b) nH m L (fun _ m=>fO co m L))))
abbrev Zm(a:Val):Ab×Blk:=kk 2 33 7 (cD (Ae a))
abbrev Oq:Bool→AV:=fun y=>vB y
def ts(a:Val)(b:Int):Nat→St:=fun c=>Aa [(1,vI b),pp 2,(5,vN c)] [(Zm a)]
def tZ:Unit→Nat×St:=fun _=>(0,Aa [] [])
def Xg(a:Val)(c:Int)(b:Nat):PT 0 (Lv (Nat) (Unit) (Bool)):=wg<|vz (Ag a.slots)<|br (decide ((b:Int)<(a.slots.length:Int))) (wg<|ix a.slots b fun d=>br (decide (d.num=c)) (An Oq nG true) (vs (wa b 1)<|ln (ts a c) (b+1))) (Ah (tZ) ())
def MF(a:Val)(b:Int):Nat→Option (Lv (Nat) (Unit) (Bool)):=fun c=>(Xg a b c).m
def qI:PT 0 (Bool):=lr Oq nG false
def o5(a:Val)(b:Int):PT 0 (Bool):=lc (Aa [(1,vI b),pp 2,(5,vI 0)] [(Zm a)]) ((Al (MF a b) Ai 0).bind (Sum.elim (fun _=>(qI).m) some))
def qu(a:Val)(b:Int):PT 0 (Bool):=lc (Aa [(1,vI b),pp 2] [(Zm a)]) ((o5 a b).m)
def Vh(a:Val)(b:Int):Option (Bool):=(qu a b).m
theorem Zra{C:Cx}(co:CO C 0)(b:Val)(c:Int):KL Tryz.prog (Aq tl) 21 C (pa [0,0,1,0,1] (Ar Tryz.f124)) [.tmp 4] 0 (ts b c) (tZ) Oq nG (MF b c):=fun e _ m Q a d L=>eN co (Ad [1,2,5] DS) nl d m L
theorem yK(a:Val)(b:Int):KC Tryz.prog 124 [.agg ((Ae a).map .d),vI b] (Vh a b) Oq:=kC Tryz.func124 Tryz.ntmps124 [.tmp 4] fun co m L=>mJ co 1 (Ad [1,2] DS) nl nH m L fun r g=>fun _ m L=>sq (mJ co 1 (Ad [1,2,5] DS) nl nH m L fun r g=>fun _ m L=>bk 0 (lo (Az (Zra co a b) nH m L (fun _ m=>fO co m L))))
abbrev LH:Int→AV:=fun y=>vI y
def Wb(a:Raw):PT 0 (Int):=wg<|wg<|vy (decide (a.wire=(3:Int))) (AR a.data.size)<|wg<|vy (!(decide (a.wire=(3:Int))&&decide ((4096:Int)<(a.data.size:Int)))) (AR a.data.size)<|br ((decide (a.wire=(3:Int))&&decide ((4096:Int)<(a.data.size:Int)))||decide ((65536:Int)<(a.data.size:Int))) (lr LH nG 3) (lr LH nG 0)
def sC(d:Scm)(e:Msg)(a:Raw):PT 0 (Int):=wg<|wg<|wg<|wg<|wg<|wg<|wg<|wg<|wg<|br (((((decide (a.num<(1:Int))||decide ((65535:Int)<a.num))||decide (a.wire<(0:Int)))||decide ((6:Int)<a.wire))||(((decide (a.wire=(0:Int))||decide (a.wire=(1:Int)))||decide (a.wire=(2:Int)))&&(!decide (a.data=(⟨#[]⟩:ByteArray)))))||((!((decide (a.wire=(0:Int))||decide (a.wire=(1:Int)))||decide (a.wire=(2:Int))))&&(!decide (a.bits=(0:Int))))) (lr LH nG 1) (wg<|wg<|cl (Uk e a.num) fun b=>wg<|br b.2 (wg<|wg<|cl (jY d b.1.type.name) fun c=>wg<|wg<|wg<|wg<|wg<|wg<|wg<|wg<|Aw (!((((((!decide (b.1.type.kind=(9:Int)))||(!c.2))||c.1.opn)||decide (b.1.card=(5:Int)))||(!decide (a.wire=(0:Int))))||decide ((2147483648:Int)≤a.bits))) (ld c.1 a.bits) fun f=>br (((((((!decide (b.1.type.kind=(9:Int)))||(!c.2))||c.1.opn)||decide (b.1.card=(5:Int)))||(!decide (a.wire=(0:Int))))||decide ((2147483648:Int)≤a.bits))||f) (lr LH nG 1) (Wb a)) (Wb a))
def Vg(a:Scm)(b:Msg)(c:Raw):Option (Int):=(sC a b c).m
theorem ZNt(a:Scm)(b:Msg)(c:Raw):KC Tryz.prog 125 [.agg ((Ak a).map .d),.agg ((Au b).map .d),.agg ((A4 c).map .d)] (Vg a b c) LH:=kC Tryz.func125 Tryz.ntmps125 [.tmp 6] fun co m L=>fO co m L
abbrev BR:Int→AV:=fun y=>vI y
abbrev FR:List (Ab×Bool):=[((1,6),false),((1,13),false)]
abbrev Ex(a:Scm):Ab×Blk:=kk 6 26 3 (cD (Ak a))
abbrev E2(a:Fld×Bool):Ab×Blk:=kk 13 53 16 (cD (Am a.1))
abbrev IT:Int→AV:=fun y=>vI y
def tJ(a:Scm)(b:Msg)(c:Val)(d:Int)(e:Int)(f:Bool)(g:Fld×Bool):Nat→St:=fun v3=>Aa [(3,vI d),(4,vI e),(5,vB f),pp 6,(7,.iptr (Au b) 0),(8,.iptr (Ae c) 0),pp 13,(15,vN v3)] [(Ex a),(E2 g)]
def qr(a:Scm)(b:Msg)(c:Val)(d:Int)(e:Int)(f:Bool)(g:Fld×Bool):Unit→Nat×St:=fun _=>(0,Aa [(3,vI d),(4,vI e),(5,vB f),pp 6,(7,.iptr (Au b) 0),(8,.iptr (Ae c) 0),pp 13] [(Ex a),(E2 g)])
def X9(d:Scm)(e:Msg)(a:Val)(b:Int)(f:Int)(g:Bool)(c:Fld×Bool)(v3:Nat):PT 0 (Lv (Nat) (Unit) (Int)):=br (decide ((v3:Int)<b)) (ix a.slots v3 fun h=>wg<|br (decide (h.num=c.1.num)) (An IT nG 9) (vs (wa v3 1)<|ln (tJ d e a b f g c) (v3+1))) (Ah (qr d e a b f g c) ())
def Kv(b:Scm)(c:Msg)(d:Val)(e:Int)(f:Int)(g:Bool)(a:Scm→Fld→Val→Int→Bool→Option (Int))(h:Fld×Bool):Nat→Option (Lv (Nat) (Unit) (Int)):=fun v3=>(X9 b c d e f g h v3).m
def qw(a:Scm)(b:Msg)(c:Val)(d:Int)(e:Int)(f:Bool)(g:Fld×Bool):Nat→St:=fun v5=>Aa [(3,vI d),(4,vI e),(5,vB f),pp 6,(7,.iptr (Au b) 0),(8,.iptr (Ae c) 0),pp 13,(16,vN v5)] [(Ex a),(E2 g)]
def rG(a:Scm)(b:Val)(c:Int)(d:Int)(e:Bool)(f:Fld×Bool):Unit→Nat×St:=fun _=>(2,Aa [(3,vI c),(4,vI d),(5,vB e),pp 6,(8,.iptr (Ae b) 0),pp 13] [(Ex a),(E2 f)])
def X0(a:Scm)(b:Msg)(c:Val)(d:Int)(e:Int)(f:Bool)(g:Fld×Bool)(v5:Nat):PT 0 (Lv (Nat) (Unit) (Int)):=vs (wa v5 1)<|ln (qw a b c d e f g) (v5+1)
def XB(b:Scm)(c:Msg)(d:Val)(e:Int)(f:Int)(g:Bool)(a:Fld×Bool)(v5:Nat)(h:Fld×Bool):PT 0 (Lv (Nat) (Unit) (Int)):=wg<|wg<|wg<|br ((!decide (a.1.union=(⟨#[]⟩:ByteArray)))&&decide (h.1.union=a.1.union)) (An IT nG 15) (lc (Aa [(3,vI e),(4,vI f),(5,vB g),pp 6,(7,.iptr (Au c) 0),(8,.iptr (Ae d) 0),pp 13,(16,vN v5)] [(Ex b),(E2 a)]) ((X0 b c d e f g a v5).m))
def Qk(c:Scm)(a:Msg)(b:Val)(d:Int)(e:Int)(f:Bool)(g:Fld×Bool)(v5:Nat):PT 0 (Lv (Nat) (Unit) (Int)):=ix b.slots v5 fun i=>du (cl (Uk a i.num) fun h=>wg<|lc (Aa [(3,vI d),(4,vI e),(5,vB f),pp 6,(7,.iptr (Au a) 0),(8,.iptr (Ae b) 0),pp 13,(16,vN v5),pp 17] [(Ex c),(E2 g),kk 17 53 16 (cD (Am h.1))]) ((XB c a b d e f g v5 h).m))
def Xe(b:Scm)(g:Msg)(c:Val)(a:Int)(d:Int)(e:Bool)(f:Fld×Bool)(v5:Nat):PT 0 (Lv (Nat) (Unit) (Int)):=br (decide ((v5:Int)<a)) (lc (Aa [(3,vI a),(4,vI d),(5,vB e),pp 6,(7,.iptr (Au g) 0),(8,.iptr (Ae c) 0),pp 13,(16,vN v5)] [(Ex b),(E2 f)]) ((Qk b g c a d e f v5).m)) (Ah (rG b c a d e f) ())
def Kt(b:Scm)(c:Msg)(d:Val)(e:Int)(f:Int)(g:Bool)(a:Scm→Fld→Val→Int→Bool→Option (Int))(h:Fld×Bool):Nat→Option (Lv (Nat) (Unit) (Int)):=fun v5=>(Xe b c d e f g h v5).m
def su(d:Scm)(g:Val)(h:Int)(b:Int)(e:Bool)(a:Scm→Fld→Val→Int→Bool→Option (Int))(f:Fld×Bool):PT 0 (Int):=wg<|wg<|CA g.slots h fun c=>vs (wi (b+1))<|cs Tryz.prog 165 [.agg ((Ak d).map .d),.agg ((Am f.1).map .d),.agg ((Ae c.val).map .d),vI (b+1),vB e] [] [] (a d f.1 c.val (b+1) e) (fun y=>vI y) fun i=>lr IT nG i
def tk(b:Scm)(h:Msg)(c:Val)(d:Int)(e:Int)(f:Bool)(a:Scm→Fld→Val→Int→Bool→Option (Int))(g:Fld×Bool):PT 0 (Int):=lc (Aa [(3,vI d),(4,vI e),(5,vB f),pp 6,(7,.iptr (Au h) 0),(8,.iptr (Ae c) 0),pp 13,(16,vI 0)] [(Ex b),(E2 g)]) ((Al (Kt b h c d e f a g) Ai 0).bind (Sum.elim (fun _=>(su b c d e f a g).m) some))
def pK(b:Scm)(c:Msg)(d:Val)(e:Int)(f:Int)(g:Bool)(a:Scm→Fld→Val→Int→Bool→Option (Int))(h:Fld×Bool):PT 0 (Int):=lc (Aa [(3,vI e),(4,vI f),(5,vB g),pp 6,(7,.iptr (Au c) 0),(8,.iptr (Ae d) 0),pp 13,(15,vI 0)] [(Ex b),(E2 h)]) ((Al (Kv b c d e f g a h) Ai 0).bind (Sum.elim (fun _=>(tk b c d e f g a h).m) some))
def qk(c:Scm)(d:Msg)(e:Val)(f:Int)(g:Int)(h:Bool)(a:Scm→Fld→Val→Int→Bool→Option (Int))(b:Fld×Bool):PT 0 (Int):=br (!b.2) (lr IT nG 8) (lc (Aa [(3,vI f),(4,vI g),(5,vB h),pp 6,(7,.iptr (Au d) 0),(8,.iptr (Ae e) 0),pp 13] [(Ex c),(E2 b)]) ((pK c d e f g h a b).m))
def WO(f:Scm)(b:Msg)(c:Val)(d:Int)(g:Int)(h:Bool)(a:Scm→Fld→Val→Int→Bool→Option (Int)):PT 0 (Int):=vw (.fzb 7 [7])<|vw (.fzb 8 [8])<|vw .sep<|CA c.slots d fun i=>du (cl (Uk b i.num) fun e=>wg<|lc (Aa [(3,vI d),(4,vI g),(5,vB h),pp 6,(7,.iptr (Au b) 0),(8,.iptr (Ae c) 0),pp 13,(14,vB e.2)] [(Ex f),(E2 e)]) ((qk f b c d g h a e).m))
def n3(b:Scm)(c:Msg)(d:Val)(e:Int)(f:Int)(g:Bool)(a:Scm→Fld→Val→Int→Bool→Option (Int)):PT 0 (Int):=lc (Aa [(3,vI e),(4,vI f),(5,vB g),pp 6,pp 7,pp 8] [(Ex b),kk 7 47 5 (cD (Au c)),kk 8 33 7 (cD (Ae d))]) ((WO b c d e f g a).m)
def O1(a:Scm→Fld→Val→Int→Bool→Option (Int))(b:Scm)(c:Msg)(d:Val)(e:Int)(f:Int)(g:Bool):Option (Int):=(n3 b c d e f g a).m
theorem ZtH{C:Cx}(co:CO C 0)(b:Scm)(c:Msg)(d:Val)(e:Int)(f:Int)(g:Bool)(a:Scm→Fld→Val→Int→Bool→Option (Int))(h:Fld×Bool)(k:∀(b:Scm) (c:Fld) (d:Val) (e:Int) (f:Bool),KC Tryz.prog 165 [.agg ((Ak b).map .d),.agg ((Am c).map .d),.agg ((Ae d).map .d),vI e,vB f] (a b c d e f) BR):KL Tryz.prog (Aq tl) 84 C (pa [0,0,1,0,1,1,1] (Ar Tryz.f123)) [.tmp 12] 0 (tJ b c d e f g h) (qr b c d e f g h) IT nG (Kv b c d e f g a h):=fun v3 _ m Q i j L=>eN co (Ad [3,4,5,6,7,8,13,15] FR) (Ad [3,4,5,6,7,8,13] FR) j m L
theorem ZtM{C:Cx}(co:CO C 0)(b:Scm)(f:Msg)(c:Val)(d:Int)(e:Int)(h:Bool)(a:Scm→Fld→Val→Int→Bool→Option (Int))(i:Fld×Bool)(n:∀(b:Scm) (f:Fld) (c:Val) (d:Int) (e:Bool),KC Tryz.prog 165 [.agg ((Ak b).map .d),.agg ((Am f).map .d),.agg ((Ae c).map .d),vI d,vB e] (a b f c d e) BR):KL Tryz.prog (Aq tl) 84 C (pa [0,0,1,0,1,1,1,1] (Ar Tryz.f123)) [.tmp 12] 0 (qw b f c d e h i) (rG b c d e h i) IT nG (Kt b f c d e h a i):=fun v5 _ m Q k j L=>mJ co 1 (Ad [3,4,5,6,7,8,13,16] FR) (Ad [3,4,5,6,8,13] FR) j m L fun r g=>⟨fun _ m L=>sq (bk 3 (sq (EE co AG BM (.fst 0 (.fst 1 (.fst 2 (.fst 3 (.fst 4 (.fst 5 (.fst 6 (.two 7 11 (.fst 8 (.fst 9 (.fst 10 (.fst 11 (.fst 12 (.fst 13 .nil)))))) (.fst 7 (.fst 8 (.fst 9 (.fst 10 (.fst 12 (.fst 13 .nil)))))))))))))) [7,8] (Qk b f c d e h i v5) (Ad [3,4,5,6,7,8,13,16,17] [((1,6),false),((1,13),false),((1,17),false)]) m L fun r g=>fun l=>fun o=>fun _ m L=>eN co (Ad [3,4,5,6,7,8,13,16] FR) nl j m L fun r g=>⟨id,fun _ m L=>eN co (Ad [3,4,5,6,7,8,13,16] FR) nl j m L⟩))),id⟩
theorem Zd(a:Scm→Fld→Val→Int→Bool→Option (Int))(i:∀(b:Scm) (d:Fld) (e:Val) (f:Int) (c:Bool),KC Tryz.prog 165 [.agg ((Ak b).map .d),.agg ((Am d).map .d),.agg ((Ae e).map .d),vI f,vB c] (a b d e f c) BR)(b:Scm)(d:Msg)(e:Val)(f:Int)(c:Int)(h:Bool):KC Tryz.prog 123 [.agg ((Ak b).map .d),.agg ((Au d).map .d),.agg ((Ae e).map .d),vI f,vI c,vB h] (O1 a b d e f c h) IT:=Ci Tryz.func123 Tryz.ntmps123 AG [.tmp 12] fun C co y m l L=>mJ co 1 (Ad [3,4,5,6,7,8] [((1,6),false),((1,7),false),((1,8),false)]) nl nH m L fun r g=>fun _ m L=>sq (EE co AG BM (.fst 0 (.fst 1 (.fst 2 (.fst 3 (.fst 4 (.fst 5 (.fst 6 (.two 7 11 (.fst 8 (.fst 9 (.fst 10 (.fst 11 (.fst 12 (.fst 13 .nil)))))) (.fst 7 (.fst 8 (.fst 9 (.fst 10 (.fst 12 (.fst 13 .nil)))))))))))))) [7,8] (WO b d e f c h a) (Ad [3,4,5,6,7,8,13,14] FR) m L fun r g=>fun o=>fun j=>fun _ m L=>mJ co 1 (Ad [3,4,5,6,7,8,13] FR) nl nH m L fun r g=>⟨id,fun _ m L=>sq (mJ co 1 (Ad [3,4,5,6,7,8,13,15] FR) nl nH m L fun r g=>fun _ m L=>bk 0 (lo (Az (ZtH co b d e f c h a j i) nH m L (fun _ m=>sq (mJ co 1 (Ad [3,4,5,6,7,8,13,16] FR) nl nH m L fun r g=>fun _ m L=>bk 2 (lo (Az (ZtM co b d e f c h a j i) nH m L (fun _ m=>fO co m L fun r g=>fun k=>⟨fun y hy n _ _=>by rw[(i b j.1 k.val (c+1) h).x,(i b j.1 k.val (c+1) h).e];exact(i b j.1 k.val (c+1) h).k _ n y hy,fun p=>id⟩))))))))⟩)
end Go.Proofs.YtopncadjpnkjhaaGreatDoor
