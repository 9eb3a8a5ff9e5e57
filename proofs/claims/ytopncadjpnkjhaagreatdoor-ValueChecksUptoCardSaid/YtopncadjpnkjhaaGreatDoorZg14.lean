import Derived.Test.YtopncadjpnkjhaaGreatDoorZg12
import Derived.Test.YtopncadjpnkjhaaGreatDoorZg13
import Derived.Test.YtopncadjpnkjhaaGreatDoorZg00
namespace Go.Proofs.YtopncadjpnkjhaaGreatDoor
set_option maxRecDepth 100000
set_option linter.all false
open Go Go.Eng
section
variable {n os:Nat} {C:Cx} {τ:St} {Q:Exit→St→Prop} {p:List Nat} {b c:Code} {β:Type} {Post:AV→List Blk→Prop} {rs:List ResultVar} {L:β→Prop} {y:β}
theorem mJ{fx:List Nat}(co:COx C os fx)(m:Nat){v:PT os β}(lf a:Lf)(d:∀τ,FQ (Aq tl) rs os Post .ret τ→Q .ret τ)(i:v.m=some y)(c:HL L y)
 (f:∀r (g:Gd C r),v.n ⟨⟨C.l,r,fun e τ'=>match e with|.normal=>LW Tryz.prog n C (pa (up m p) b) τ' Q|e=>Q e τ',Post⟩,L,C,_,co,g,rfl⟩)
 (h:∀l r Q Post,OS Tryz.prog (Aq tl) l n os r m (pa p b) v.a τ (KB (Aq tl) rs os fx r Post lf a Q)=v.q ⟨l,r,Q,Post⟩:=by intro l r Q P;kernel_rfl) (hl:RP m (pa p b)=true:=by kernel_rfl):LW Tryz.prog n C (pa p b) τ Q:=ZQK co AG BM m v lf a d i c f h hl
theorem eN{fx:List Nat}(co:COx C os fx){v:PT os β}(lf a:Lf)(e:∀τ,FQ (Aq tl) rs os Post .ret τ→Q .ret τ)(h:v.m=some y)(d:HL L y)
 (f:∀r (g:Gd C r),v.n ⟨⟨C.l,r,Q,Post⟩,L,C,_,co,g,rfl⟩:=by
  intro r g
  repeat' (first|exact id|exact trivial|refine⟨?_,?_⟩|intro _|(rename_i b h;subst h;cases b<;>rfl))) (i:∀l r Q Post,Ca Tryz.prog (Aq tl) l n os r c v.a τ (KB (Aq tl) rs os fx r Post lf a Q)=v.q ⟨l,r,Q,Post⟩:=by intro l r Q P;kernel_rfl):LW Tryz.prog n C c τ Q:=ZRd co AG BM v lf a e h d f i
theorem fO {fx:List Nat} (co:COx C os fx) {v:PT os β} (h:v.m=some y) (a:HL L y) (d:∀r (g:Gd C r),v.n ⟨⟨C.l,r,fun _ _=>False,Post⟩,L,C,_,co,g,rfl⟩:=by
  intro r g
  repeat' (first|exact id|exact trivial|refine⟨?_,?_⟩|intro _|(rename_i b h;subst h;cases b<;>rfl)))
 (e:∀l r Q Post,Ca Tryz.prog (Aq tl) l n os r c v.a τ (KF (Aq tl) rs os Post)=v.q ⟨l,r,Q,Post⟩:=by intro l r Q P;kernel_rfl):LW Tryz.prog n C c τ (FQ (Aq tl) rs os Post):=ZQp co AG BM v h a d e
theorem pR{k:Nat}{fx:List Nat}(co:COx C os fx)(m:Nat){v:PT os β}(lf:Lf)(h:v.m=some y)(d:HL L y)(e:∀r (g:Gd C r),v.n ⟨⟨C.l,r,fun _ τ'=>LO Tryz.prog n C c (k+m) τ' Q,fun _ _=>False⟩,L,C,_,co,g,rfl⟩)
 (f:∀l r Q Post,AW r os v.a τ (fun τ a=>EF Tryz.prog (Aq tl) l n r ((BB c).toList.map (·.dst)) (Gi m (FD k (BB c).toList)) [] a (fun τ' env b=>AW r os b (C7 env τ') (fun τ _=>Do fx lf τ (Q .normal))) τ)=v.q ⟨l,r,Q,Post⟩:=by intro l r Q P;kernel_rfl):LO Tryz.prog n C c k τ Q:=ZQc co AG m v lf h d e f
theorem eR {k:Nat} {fx:List Nat} (co:COx C os fx) {v:PT os β} (lf:Lf) (j:v.m=some y) (e:HL L y) (f:∀r (g:Gd C r),v.n ⟨⟨C.l,r,Q,fun _ _=>False⟩,L,C,_,co,g,rfl⟩:=by
  intro r g
  repeat' (first|exact id|exact trivial|refine⟨?_,?_⟩|intro _|(rename_i b h;subst h;cases b<;>rfl)))
 (i:∀l r Q Post,AW r os v.a τ (fun τ a=>EF Tryz.prog (Aq tl) l n r ((BB c).toList.map (·.dst)) (FD k (BB c).toList) [] a (fun τ' env d=>AW r os d (C7 env τ') (fun τ _=>Do fx lf τ (Q .normal))) τ)=v.q ⟨l,r,Q,Post⟩:=by intro l r Q P;kernel_rfl):LO Tryz.prog n C c k τ Q:=ZQE co AG v lf j e f i
theorem cM{fx:List Nat}(co:COx C os fx){v:PT os β}(lf:Lf)(e:v.m=some y)(a:HL L y)(b:∀r (g:Gd C r),v.n ⟨⟨C.l,r,fun _ τ'=>LW Tryz.prog n C c τ' Q,fun _ _=>False⟩,L,C,_,co,g,rfl⟩)
 (d:∀l r Q Post,AW r os v.a τ (fun τ _=>Do fx lf τ (Q .normal))=v.q ⟨l,r,Q,Post⟩:=by intro l r Q P;kernel_rfl):LW Tryz.prog n C c τ Q:=ZQa co v lf e a b d
theorem kC{f:FuncId}{fn:Func}{xs:List AV}{γ:Type}{M:Option γ}{e:γ→AV}(c:Tryz.prog.funcs[f]?=some fn)(d:fn.ntmps=n)(rs:List ResultVar)
  (h:∀{C:Cx} {y:γ} {Post:AV→List Blk→Prop},CO C 0→M=some y→HL (fun y=>Post (e y) []) y→LW Tryz.prog n C (pa [] (Ar fn)) (Aa (C2 0 xs) []) (FQ (Aq tl) rs 0 Post))
  (i:∀r,Aj r xs=xs:=by intro r;kernel_rfl) (he:∀r y,ren r (e y)=e y:=by intro r y;kernel_rfl)
  (b:fn.body=some (Ar fn):=by kernel_rfl) (a:(fn.name== "runtime.NumGoroutine")=false:=by kernel_rfl) (g:fn.results.toList=rs:=by kernel_rfl) (hl:Nat.ble xs.length n=true:=by kernel_rfl):KC Tryz.prog f xs M e:=Ci c d AG rs (fun C co y m Post L=>h co m L) i he b a g hl
theorem kO{f:FuncId}{fn:Func}{ys:List AV}{c:List Blk}{Θ:Cl}{γ:Type}{M:Option γ}{e:γ→AV}{b:γ→List Blk}(k:Tryz.prog.funcs[f]?=some fn)(l:fn.ntmps=n)(rs:List ResultVar)(os:Nat)
  (h:∀{C:Cx} {y:γ} {Post:AV→List Blk→Prop},CO C os→Θ C.no C.l C.H0 C.θ→M=some y→HL (fun y=>Post (e y) (b y)) y→LW Tryz.prog n C (pa [] (Ar fn)) (Aa (C2 0 ys) (CS 0 c)) (FQ (Aq tl) rs os Post))
  (he:∀y,H1 os (e y)=true:=by intro y;kernel_rfl) (g:∀y,ED os (b y):=by intro y;repeat(first|exact trivial|refine⟨.inl (D0 _ _),rfl,?_⟩|refine⟨.inl Hw,rfl,?_⟩|refine⟨.inr (by kernel_rfl),rfl,?_⟩)) (hl:∀y,(b y).length=os:=by intro y;rfl) (d:GN os (CS 0 c)=true:=by kernel_rfl)
  (j:fn.body=some (Ar fn):=by kernel_rfl) (a:(fn.name== "runtime.NumGoroutine")=false:=by kernel_rfl) (o:fn.results.toList=rs:=by kernel_rfl) (p:Nat.ble ys.length n=true:=by kernel_rfl):KO Tryz.prog f os ys c Θ M e b:=Da k l AG rs os (fun C co i y m Post L=>h co i m L) he g hl d j a o p
theorem KV{P:Program}{x:Bool}{a c:Option β}(hm:(if x=true then a else c)=some y)(d:a=some y→LW P n C (pa (0::p) b) τ Q)(e:c=some y→LW P n C (pa (1::p) b) τ Q)(hs:ge (pa p b)=true:=by kernel_rfl)(he:ev τ.s (qE (pa p b))=.d (.bool x):=by kernel_rfl):LW P n C (pa p b) τ Q:=cd x hm d e hs he
end
theorem bz{r b:Ren}{k k':Ab}{g a:Nat}{e:TypeId}{sz:Nat}{α:Type}{en:α→List D}{xs:List α}(h:r.γ k+g=b.γ k'+a:=by kernel_rfl):AA r k ⟨g,true,e,sz,Ac en xs⟩=AA b k' ⟨a,true,e,sz,Ac en xs⟩:=EW (D0 _ _) h
class Tid (α:Type) where
 t:Nat
instance:Tid Slt:=⟨51⟩
instance:Tid Raw:=⟨89⟩
instance:Tid Pr:=⟨57⟩
abbrev HZ:List (Ab×Bool):=[((1,2),false),((1,5),true)]
abbrev I0:List (Ab×Bool):=[((1,5),true)]
abbrev DS:List (Ab×Bool):=[((1,2),false)]
abbrev Dv(a:Scm):Ab×Blk:=kk 2 26 3 (cD (Ak a))
abbrev K6:List ByteArray→AV:=fun y=>vL AQ y
def fH(b:Scm)(c:Int):List ByteArray×Nat→St:=fun(a,v2)=>Aa [(1,vI c),pp 2,(5,.ref (1,5) 0 0 a.length),(6,vN v2)] [(Dv b),kk 5 9 1 (Ac AQ a)]
def gg(b:Scm)(c:Int):List ByteArray→Nat×St:=fun a=>(0,Aa [(1,vI c),pp 2,(5,.ref (1,5) 0 0 a.length)] [(Dv b),kk 5 9 1 (Ac AQ a)])
def g0(a:Scm)(c:Int)(b:List ByteArray)(v2:Nat):PT 0 (Lv (List ByteArray×Nat) (List ByteArray) (List ByteArray)):=wg<|vy (decide (c=(1:Int))) (Ag a.messages)<|br (decide (c=(1:Int))&&decide ((v2:Int)<(a.messages.length:Int))) (wg<|ix a.messages v2 fun d=>vw .sep<|ap b (d.name:ByteArray)<|vs (wa v2 1)<|vz (fl (b++[d.name]))<|ln (fH a c) (b++[d.name],v2+1)) (vz (fl b)<|Ah (gg a c) b)
def Ri(a:Scm)(b:Int):List ByteArray×Nat→Option (Lv (List ByteArray×Nat) (List ByteArray) (List ByteArray)):=fun(c,v2)=>(g0 a b c v2).m
def eo(b:Scm)(c:Int):List ByteArray×Nat→St:=fun(a,d)=>Aa [(1,vI c),pp 2,(5,.ref (1,5) 0 0 a.length),(7,vN d)] [(Dv b),kk 5 9 1 (Ac AQ a)]
def fV(b:Scm)(c:Int):List ByteArray→Nat×St:=fun a=>(2,Aa [(1,vI c),pp 2,(5,.ref (1,5) 0 0 a.length)] [(Dv b),kk 5 9 1 (Ac AQ a)])
def fi(a:Scm)(c:Int)(b:List ByteArray)(d:Nat):PT 0 (Lv (List ByteArray×Nat) (List ByteArray) (List ByteArray)):=wg<|vy (decide (c=(2:Int))) (Ag a.enums)<|br (decide (c=(2:Int))&&decide ((d:Int)<(a.enums.length:Int))) (wg<|ix a.enums d fun e=>vw .sep<|ap b (e.name:ByteArray)<|vs (wa d 1)<|vz (fl (b++[e.name]))<|ln (eo a c) (b++[e.name],d+1)) (vz (fl b)<|Ah (fV a c) b)
def Rj(a:Scm)(b:Int):List ByteArray×Nat→Option (Lv (List ByteArray×Nat) (List ByteArray) (List ByteArray)):=fun(c,d)=>(fi a b c d).m
def im(c:Scm)(d:Int):List ByteArray×Nat→St:=fun(b,a)=>Aa [(1,vI d),pp 2,(5,.ref (1,5) 0 0 b.length),(8,vN a)] [(Dv c),kk 5 9 1 (Ac AQ b)]
def gZ:List ByteArray→Nat×St:=fun a=>(4,Aa [(5,.ref (1,5) 0 0 a.length)] [kk 5 9 1 (Ac AQ a)])
def dK(d:Scm)(e:Int)(c:List ByteArray)(a:Nat):PT 0 (Lv (List ByteArray×Nat) (List ByteArray) (List ByteArray)):=wg<|vy (decide (e=(3:Int))) (Ag d.services)<|br (decide (e=(3:Int))&&decide ((a:Int)<(d.services.length:Int))) (wg<|ix d.services a fun b=>vw .sep<|ap c (b.name:ByteArray)<|vs (wa a 1)<|vz (fl (c++[b.name]))<|ln (im d e) (c++[b.name],a+1)) (vz (fl c)<|Ah (gZ) c)
def Q8(b:Scm)(c:Int):List ByteArray×Nat→Option (Lv (List ByteArray×Nat) (List ByteArray) (List ByteArray)):=fun(d,a)=>(dK b c d a).m
def eI(a:List ByteArray):PT 0 (List ByteArray):=vz (fr a)<|lr K6 nG a
def g7(c:Scm)(d:Int)(a:List ByteArray):PT 0 (List ByteArray):=vz (fl a)<|lc (Aa [(1,vI d),pp 2,(5,.ref (1,5) 0 0 a.length),(8,vI 0)] [(Dv c),kk 5 9 1 (Ac AQ a)]) ((Al (Q8 c d) Ai (a,0)).bind (Sum.elim (fun b=>(eI b).m) some))
def i7(b:Scm)(c:Int)(a:List ByteArray):PT 0 (List ByteArray):=vz (fl a)<|lc (Aa [(1,vI c),pp 2,(5,.ref (1,5) 0 0 a.length),(7,vI 0)] [(Dv b),kk 5 9 1 (Ac AQ a)]) ((Al (Rj b c) Ai (a,0)).bind (Sum.elim (fun d=>(g7 b c d).m) some))
def b5(a:Scm)(b:Int):PT 0 (List ByteArray):=vw (.ads 5 5 9 1)<|vz (fl ([]:List ByteArray))<|lc (Aa [(1,vI b),pp 2,(5,.ref (1,5) 0 0 ([]:List ByteArray).length),(6,vI 0)] [(Dv a),kk 5 9 1 (Ac AQ ([]:List ByteArray))]) ((Al (Ri a b) Ai (([]:List ByteArray),0)).bind (Sum.elim (fun c=>(i7 a b c).m) some))
def g6(a:Scm)(b:Int):PT 0 (List ByteArray):=lc (Aa [(1,vI b),pp 2,(5,.e0),(6,vI 0)] [(Dv a)]) ((b5 a b).m)
def eF(a:Scm)(b:Int):PT 0 (List ByteArray):=lc (Aa [(1,vI b),pp 2,(5,.e0)] [(Dv a)]) ((g6 a b).m)
def UR(a:Scm)(b:Int):Option (List ByteArray):=(eF a b).m
theorem vJ{C:Cx}(co:CO C 0)(a:Scm)(b:Int):KL Tryz.prog (Aq tl) 70 C (pa [0,0,1,0,1,1] (Ar Tryz.f27)) [.tmp 4] 0 (fH a b) (gg a b) K6 nG (Ri a b):=fun(d,v2) _ m Q Post c L=>eN co (Ad [1,2,5,6] HZ) (Ad [1,2,5] HZ) c m L
theorem uX{C:Cx}(co:CO C 0)(a:Scm)(b:Int):KL Tryz.prog (Aq tl) 70 C (pa [0,0,1,0,1,1,1] (Ar Tryz.f27)) [.tmp 4] 0 (eo a b) (fV a b) K6 nG (Rj a b):=fun(d,e) _ m Q Post c L=>eN co (Ad [1,2,5,7] HZ) (Ad [1,2,5] HZ) c m L
theorem vV{C:Cx}(co:CO C 0)(a:Scm)(b:Int):KL Tryz.prog (Aq tl) 70 C (pa [0,0,1,0,1,1,1,1] (Ar Tryz.f27)) [.tmp 4] 0 (im a b) (gZ) K6 nG (Q8 a b):=fun(e,d) _ m Q Post c L=>eN co (Ad [1,2,5,8] HZ) (Ad [5] I0) c m L
theorem OP(a:Scm)(b:Int):KC Tryz.prog 27 [.agg ((Ak a).map .d),vI b] (UR a b) K6:=kC Tryz.func27 Tryz.ntmps27 [.tmp 4] fun co m L=>mJ co 2 (Ad [1,2,5] DS) nl nH m L fun r g=>fun _ m L=>sq (mJ co 1 (Ad [1,2,5,6] DS) nl nH m L fun r g=>fun _ m L=>bk 0 (cM co (Ad [1,2,5,6] HZ) m L fun r g=>fun _ m L=>lo (Az (vJ co a b) nH m L (fun d m=>sq (mJ co 1 (Ad [1,2,5,7] HZ) nl nH m L fun r g=>fun _ m L=>bk 2 (lo (Az (uX co a b) nH m L (fun e m=>sq (mJ co 1 (Ad [1,2,5,8] HZ) nl nH m L fun r g=>fun _ m L=>bk 4 (lo (Az (vV co a b) nH m L (fun c m=>fO co m L))))))))))))
abbrev Ec:List (Ab×Bool):=[((0,0),false),((0,1),true)]
abbrev RW:List Prb→AV:=fun y=>.tup []
@[reducible] def Sa(a:ByteArray):List Prb→List Blk:=fun y=>[⟨0,true,74,2,[vS a,.ref (0,1) 0 0 y.length]⟩,⟨0,true,124,3,Ac Af y⟩]
def S7(a:ByteArray)(b:List Prb)(c:Int)(d:Int):PT 2 (List Prb):=lr RW (Sa a) (b++([(.mk a c d:Prb)]))
def S1(a:ByteArray)(b:List Prb)(c:Int)(d:Int):PT 2 (List Prb):=wg<|wg<|vw .sep<|ap b ((.mk a c d:Prb):Prb)<|I7 1 (Ac Af [(.mk a c d:Prb)]) (fun _=>ZrX _)<|wg<|vwl 0 [.ref (0,1) 1 0 (b++([(.mk a c d:Prb)])).length]<|vz (fl (b++([(.mk a c d:Prb)])))<|lc (Aa [] [((0,0),⟨0,true,74,2,[vS a,.ref (0,1) 0 0 (b++([(.mk a c d:Prb)])).length]⟩),((0,1),⟨0,true,124,3,Ac Af (b++([(.mk a c d:Prb)]))⟩)]) ((S7 a b c d).m)
def gu(a:ByteArray)(b:List Prb):PT 2 (List Prb):=lr RW (Sa a) b
def ek(a:ByteArray)(b:List Prb)(c:Bool)(d:Int)(e:Int):PT 2 (List Prb):=vz (fl b)<|lc (Aa [(0,.ptr (0,0) 0 0),(2,vI d),(3,vI e),(8,vB c)] [((0,0),⟨0,true,74,2,[vS a,.ref (0,1) 0 0 b.length]⟩),((0,1),⟨0,true,124,3,Ac Af b⟩)]) (if c=true then(S1 a b d e).m else(gu a b).m)
def Be(a:ByteArray)(b:List Prb)(c:Bool)(d:Int)(e:Int):Option (List Prb):=(ek a b c d e).m
theorem Br(a:ByteArray)(b:List Prb)(f:Bool)(c:Int)(d:Int):KG Tryz.prog 28 2 [1] [(1,0)] [.ptr (0,0) 0 0,vB f,vI c,vI d] [⟨0,true,74,2,[vS a,.ref (0,1) 0 0 b.length]⟩,⟨0,true,124,3,Ac Af b⟩] (Be a b f c d) RW (Sa a):=ZM Tryz.func28 Tryz.ntmps28 AG [] 2 [1] [0] [(1,0)] (fun C co e y m Post L=>mJ co 1 (Ad [0,2,3,8] Ec) nl nH m L fun r g=>fun _ m L=>KV m (fun m=>EE co AG BM (.fst 0 (.fst 1 (.fst 2 (.fst 3 (.fst 5 (.fst 6 (.fst 7 (.fst 9 (.fst 10 (.fst 4 (.fst 8 (.fst 11 (.fst 12 (.fst 13 (.fst 14 (.fst 15 (.fst 16 .nil))))))))))))))))) [] (S1 a b c d) (Ad [] Ec) m L fun r g=>⟨w5 g e,fun _ m L=>EJ (S7 a b c d) co m L (fun r g=>id) r g⟩) (fun m=>fO co m L))
abbrev Ns:Bool→AV:=fun y=>vB y
def iZ(a:List ByteArray):Nat→St:=fun b=>Aa [(0,vL AQ a),(3,vN b)] []
def cR:Unit→Nat×St:=fun _=>(0,Aa [] [])
def bf(b:List ByteArray)(a:Nat):PT 0 (Lv (Nat) (Unit) (Bool)):=vz (Ag b)<|br (decide ((a:Int)<(b.length:Int))) (ix b a fun c=>vs (wi ((a:Int)-1))<|CA b ((a:Int)-1) fun d=>br (BL c d||decide (c=d)) (An Ns nG false) (vs (wa a 1)<|ln (iZ b) (a+1))) (Ah (cR) ())
def Ra(a:List ByteArray):Nat→Option (Lv (Nat) (Unit) (Bool)):=fun b=>(bf a b).m
def bU:PT 0 (Bool):=lr Ns nG true
def hU(a:List ByteArray):PT 0 (Bool):=lc (Aa [(0,vL AQ a),(3,vI 1)] []) ((Al (Ra a) Ai 1).bind (Sum.elim (fun _=>(bU).m) some))
def fd(a:List ByteArray):PT 0 (Bool):=lc (Aa [(0,vL AQ a)] []) ((hU a).m)
def UD(a:List ByteArray):Option (Bool):=(fd a).m
theorem uR{C:Cx}(co:CO C 0)(a:List ByteArray):KL Tryz.prog (Aq tl) 20 C (pa [0,0,1,0,1] (Ar Tryz.f29)) [.tmp 2] 0 (iZ a) (cR) Ns nG (Ra a):=fun c _ m Q Post b L=>eN co (AI [0,3]) nl b m L
theorem ZQz(a:List ByteArray):KC Tryz.prog 29 [vL AQ a] (UD a) Ns:=kC Tryz.func29 Tryz.ntmps29 [.tmp 2] fun co m L=>mJ co 1 (AI [0]) nl nH m L fun r g=>fun _ m L=>sq (mJ co 1 (AI [0,3]) nl nH m L fun r g=>fun _ m L=>bk 0 (lo (Az (uR co a) nH m L (fun _ m=>fO co m L))))
abbrev ND:Bool→AV:=fun y=>vB y
def fU(a:List ByteArray)(b:ByteArray):Nat→St:=fun c=>Aa [(0,vL AQ a),(1,vS b),(5,vN c)] []
def eH:Unit→Nat×St:=fun _=>(0,Aa [] [])
def Ze(a:List ByteArray)(c:ByteArray)(b:Nat):PT 0 (Lv (Nat) (Unit) (Bool)):=vz (Ag a)<|br (decide ((b:Int)<(a.length:Int))) (ix a b fun d=>br (decide (d=c)) (An ND nG true) (vs (wa b 1)<|ln (fU a c) (b+1))) (Ah (eH) ())
def KI(a:List ByteArray)(b:ByteArray):Nat→Option (Lv (Nat) (Unit) (Bool)):=fun c=>(Ze a b c).m
def ZB:PT 0 (Bool):=lr ND nG false
def Zn(a:List ByteArray)(b:ByteArray):PT 0 (Bool):=lc (Aa [(0,vL AQ a),(1,vS b),(5,vI 0)] []) ((Al (KI a b) Ai 0).bind (Sum.elim (fun _=>(ZB).m) some))
def Zz(a:List ByteArray)(b:ByteArray):PT 0 (Bool):=lc (Aa [(0,vL AQ a),(1,vS b)] []) ((Zn a b).m)
def Mb(a:List ByteArray)(b:ByteArray):Option (Bool):=(Zz a b).m
theorem vk{C:Cx}(co:CO C 0)(a:List ByteArray)(b:ByteArray):KL Tryz.prog (Aq tl) 18 C (pa [0,0,1,0,1] (Ar Tryz.f73)) [.tmp 4] 0 (fU a b) (eH) ND nG (KI a b):=fun d _ m Q Post c L=>eN co (AI [0,1,5]) nl c m L
theorem kG(a:List ByteArray)(b:ByteArray):KC Tryz.prog 73 [vL AQ a,vS b] (Mb a b) ND:=kC Tryz.func73 Tryz.ntmps73 [.tmp 4] fun co m L=>mJ co 1 (AI [0,1]) nl nH m L fun r g=>fun _ m L=>sq (mJ co 1 (AI [0,1,5]) nl nH m L fun r g=>fun _ m L=>bk 0 (lo (Az (vk co a b) nH m L (fun _ m=>fO co m L))))
abbrev Nu:Bool→AV:=fun y=>vB y
def ij(a:List ByteArray)(b:List ByteArray):Nat→St:=fun c=>Aa [(0,vL AQ a),(1,vL AQ b),(5,vN c)] []
def dO:Unit→Nat×St:=fun _=>(0,Aa [] [])
def bE(a:List ByteArray)(c:List ByteArray)(b:Nat):PT 0 (Lv (Nat) (Unit) (Bool)):=vz (Ag a)<|br (decide ((b:Int)<(a.length:Int))) (ix a b fun d=>cl (kG c d) fun e=>br e (An Nu nG true) (vs (wa b 1)<|ln (ij a c) (b+1))) (Ah (dO) ())
def Ro(a:List ByteArray)(b:List ByteArray):Nat→Option (Lv (Nat) (Unit) (Bool)):=fun c=>(bE a b c).m
def fT:PT 0 (Bool):=lr Nu nG false
def fL(a:List ByteArray)(b:List ByteArray):PT 0 (Bool):=lc (Aa [(0,vL AQ a),(1,vL AQ b),(5,vI 0)] []) ((Al (Ro a b) Ai 0).bind (Sum.elim (fun _=>(fT).m) some))
def fW(a:List ByteArray)(b:List ByteArray):PT 0 (Bool):=lc (Aa [(0,vL AQ a),(1,vL AQ b)] []) ((fL a b).m)
def UH(a:List ByteArray)(b:List ByteArray):Option (Bool):=(fW a b).m
theorem vD{C:Cx}(co:CO C 0)(a:List ByteArray)(b:List ByteArray):KL Tryz.prog (Aq tl) 18 C (pa [0,0,1,0,1] (Ar Tryz.f30)) [.tmp 4] 0 (ij a b) (dO) Nu nG (Ro a b):=fun d _ m Q Post c L=>eN co (AI [0,1,5]) nl c m L
theorem Us(a:List ByteArray)(b:List ByteArray):KC Tryz.prog 30 [vL AQ a,vL AQ b] (UH a b) Nu:=kC Tryz.func30 Tryz.ntmps30 [.tmp 4] fun co m L=>mJ co 1 (AI [0,1]) nl nH m L fun r g=>fun _ m L=>sq (mJ co 1 (AI [0,1,5]) nl nH m L fun r g=>fun _ m L=>bk 0 (lo (Az (vD co a b) nH m L (fun _ m=>fO co m L))))
abbrev Ao(a:Scm):Ab×Blk:=kk 2 26 3 (cD (Ak a))
abbrev NH:Int→AV:=fun y=>vI y
def eG(a:Scm)(b:ByteArray):Nat→St:=fun c=>Aa [(1,vS b),pp 2,(5,vN c)] [(Ao a)]
def gA:Unit→Nat×St:=fun _=>(0,Aa [] [])
def dN(b:Scm)(c:ByteArray)(a:Nat):PT 0 (Lv (Nat) (Unit) (Int)):=wg<|vz (Ag b.messages)<|br (decide ((a:Int)<(b.messages.length:Int))) (wg<|ix b.messages a fun d=>br (decide (d.name=c)) (An NH nG (a:Int)) (vs (wa a 1)<|ln (eG b c) (a+1))) (Ah (gA) ())
def QT(a:Scm)(b:ByteArray):Nat→Option (Lv (Nat) (Unit) (Int)):=fun c=>(dN a b c).m
def i2:PT 0 (Int):=lr NH nG (-1)
def cZ(a:Scm)(b:ByteArray):PT 0 (Int):=lc (Aa [(1,vS b),pp 2,(5,vI 0)] [(Ao a)]) ((Al (QT a b) Ai 0).bind (Sum.elim (fun _=>(i2).m) some))
def ee(a:Scm)(b:ByteArray):PT 0 (Int):=lc (Aa [(1,vS b),pp 2] [(Ao a)]) ((cZ a b).m)
def UF(a:Scm)(b:ByteArray):Option (Int):=(ee a b).m
theorem ZyA{C:Cx}(co:CO C 0)(a:Scm)(b:ByteArray):KL Tryz.prog (Aq tl) 22 C (pa [0,0,1,0,1] (Ar Tryz.f85)) [.tmp 4] 0 (eG a b) (gA) NH nG (QT a b):=fun d _ m Q Post c L=>eN co (Ad [1,2,5] DS) nl c m L
theorem LQ(a:Scm)(b:ByteArray):KC Tryz.prog 85 [.agg ((Ak a).map .d),vS b] (UF a b) NH:=kC Tryz.func85 Tryz.ntmps85 [.tmp 4] fun co m L=>mJ co 1 (Ad [1,2] DS) nl nH m L fun r g=>fun _ m L=>sq (mJ co 1 (Ad [1,2,5] DS) nl nH m L fun r g=>fun _ m L=>bk 0 (lo (Az (ZyA co a b) nH m L (fun _ m=>fO co m L))))
abbrev ZG(a:Scm):Ab×Blk:=kk 3 26 3 (cD (Ak a))
abbrev ZH(a:Msg):Ab×Blk:=kk 4 47 5 (cD (Au a))
abbrev NE:Bool→AV:=fun y=>vB y
def Zw(a:Scm)(b:Msg)(c:List Bool):Nat→St:=fun d=>Aa [(2,vL AE c),pp 3,pp 4,(7,vN d)] [(ZG a),(ZH b)]
def cK:Unit→Nat×St:=fun _=>(0,Aa [] [])
def eQ(d:Scm)(b:Msg)(e:List Bool)(a:Nat):PT 0 (Lv (Nat) (Unit) (Bool)):=wg<|vz (Ag b.fields)<|br (decide ((a:Int)<(b.fields.length:Int))) (wg<|ix b.fields a fun c=>wg<|wg<|wg<|br ((!decide (c.card=(1:Int)))||(!decide (c.type.kind=(10:Int)))) (vs (wa a 1)<|ln (Zw d b e) (a+1)) (wg<|wg<|cl (LQ d c.type.name) fun f=>A8 (decide ((0:Int)≤f)) e f fun g=>br (decide ((0:Int)≤f)&&(!g)) (An NE nG true) (vs (wa a 1)<|ln (Zw d b e) (a+1)))) (Ah (cK) ())
def QR(a:Scm)(b:Msg)(c:List Bool):Nat→Option (Lv (Nat) (Unit) (Bool)):=fun d=>(eQ a b c d).m
def dy:PT 0 (Bool):=lr NE nG false
def dG(a:Scm)(b:Msg)(c:List Bool):PT 0 (Bool):=lc (Aa [(2,vL AE c),pp 3,pp 4,(7,vI 0)] [(ZG a),(ZH b)]) ((Al (QR a b c) Ai 0).bind (Sum.elim (fun _=>(dy).m) some))
def gR(a:Scm)(b:Msg)(c:List Bool):PT 0 (Bool):=lc (Aa [(2,vL AE c),pp 3,pp 4] [(ZG a),(ZH b)]) ((dG a b c).m)
def UV(a:Scm)(b:Msg)(c:List Bool):Option (Bool):=(gR a b c).m
theorem vT{C:Cx}(co:CO C 0)(a:Scm)(b:Msg)(c:List Bool):KL Tryz.prog (Aq tl) 45 C (pa [0,0,1,0,1] (Ar Tryz.f74)) [.tmp 6] 0 (Zw a b c) (cK) NE nG (QR a b c):=fun e _ m Q Post d L=>eN co (Ad [2,3,4,7] [((1,3),false),((1,4),false)]) nl d m L
theorem ZP3(a:Scm)(b:Msg)(c:List Bool):KC Tryz.prog 74 [.agg ((Ak a).map .d),.agg ((Au b).map .d),vL AE c] (UV a b c) NE:=kC Tryz.func74 Tryz.ntmps74 [.tmp 6] fun co m L=>mJ co 1 (Ad [2,3,4] [((1,3),false),((1,4),false)]) nl nH m L fun r g=>fun _ m L=>sq (mJ co 1 (Ad [2,3,4,7] [((1,3),false),((1,4),false)]) nl nH m L fun r g=>fun _ m L=>bk 0 (lo (Az (vT co a b c) nH m L (fun _ m=>fO co m L))))
abbrev ZL:List (Ab×Bool):=[((0,0),true),((1,3),false),((1,4),false)]
abbrev AO:List (Ab×Bool):=[((0,0),true)]
abbrev ZI(a:Scm):Ab×Blk:=kk 3 26 3 (cD (Ak a))
abbrev ZJ(a:Msg):Ab×Blk:=kk 4 47 5 (cD (Au a))
abbrev RB:Bool→AV:=fun y=>vB y
@[reducible] def Rg(a:List Bool):Bool→List Blk:=fun y=>[⟨0,true,4,1,Ac AE a⟩]
def WR(b:Scm)(c:Msg)(a:List Bool):Nat→St:=fun d=>Aa [(2,.ref (0,0) 0 0 a.length),pp 3,pp 4,(7,vN d)] [((0,0),⟨0,true,4,1,Ac AE a⟩),(ZI b),(ZJ c)]
def nU(a:List Bool):Unit→Nat×St:=fun _=>(0,Aa [] [((0,0),⟨0,true,4,1,Ac AE a⟩)])
def oX(f:Scm)(c:Msg)(a:List Bool)(b:Nat):PT 1 (Lv (Nat) (Unit) (Bool)):=wg<|vz (Ag c.fields)<|br (decide ((b:Int)<(c.fields.length:Int))) (wg<|ix c.fields b fun e=>wg<|wg<|wg<|br ((!decide (e.card=(1:Int)))||(!decide (e.type.kind=(10:Int)))) (vs (wa b 1)<|vz (fl a)<|ln (WR f c a) (b+1)) (wg<|wg<|cl (LQ f e.type.name) fun d=>vg (decide ((0:Int)≤d)) (CM d a.length 1)<|RI (decide ((0:Int)≤d)) a d.toNat fun g=>br (decide ((0:Int)≤d)&&(!g)) (An RB (Rg a) true) (vs (wa b 1)<|vz (fl a)<|ln (WR f c a) (b+1)))) (vz (fl a)<|Ah (nU a) ())
def Qc(a:Scm)(b:Msg)(c:List Bool):Nat→Option (Lv (Nat) (Unit) (Bool)):=fun d=>(oX a b c d).m
def ou(a:List Bool):PT 1 (Bool):=lr RB (Rg a) false
def oG(b:Scm)(c:Msg)(a:List Bool):PT 1 (Bool):=vz (fl a)<|lc (Aa [(2,.ref (0,0) 0 0 a.length),pp 3,pp 4,(7,vI 0)] [((0,0),⟨0,true,4,1,Ac AE a⟩),(ZI b),(ZJ c)]) ((Al (Qc b c a) Ai 0).bind (Sum.elim (fun _=>(ou a).m) some))
def oO(b:Scm)(c:Msg)(a:List Bool):PT 1 (Bool):=vz (fl a)<|lc (Aa [(2,.ref (0,0) 0 0 a.length),pp 3,pp 4] [((0,0),⟨0,true,4,1,Ac AE a⟩),(ZI b),(ZJ c)]) ((oG b c a).m)
def O2(a:Scm)(b:Msg)(c:List Bool):Option (Bool):=(oO a b c).m
theorem ZnI{C:Cx}(co:CO C 1)(b:Scm)(c:Msg)(a:List Bool):KL Tryz.prog (Aq tl) 45 C (pa [0,0,1,0,1] (Ar Tryz.f74)) [.tmp 6] 1 (WR b c a) (nU a) RB (Rg a) (Qc b c a):=fun e _ m Q Post d L=>eN co (Ad [2,3,4,7] ZL) (Ad [] AO) d m L
theorem wG(b:Scm)(c:Msg)(a:List Bool):KO Tryz.prog 74 1 [.agg ((Ak b).map .d),.agg ((Au c).map .d),.ref (0,0) 0 0 a.length] [⟨0,true,4,1,Ac AE a⟩] (fun _ _ _ _=>True) (O2 b c a) RB (Rg a):=kO Tryz.func74 Tryz.ntmps74 [.tmp 6] 1 (fun co d m L=>mJ co 1 (Ad [2,3,4] ZL) nl nH m L fun r g=>fun _ m L=>sq (mJ co 1 (Ad [2,3,4,7] ZL) nl nH m L fun r g=>fun _ m L=>bk 0 (lo (Az (ZnI co b c a) nH m L (fun _ m=>fO co m L)))))
abbrev Fj:List (Ab×Bool):=[((1,1),false),((1,10),true)]
abbrev IY(a:Scm):Ab×Blk:=kk 1 26 3 (cD (Ak a))
abbrev Nw:List Bool→AV:=fun y=>vL AE y
def dI(b:Scm):Bool×Nat×List Bool→St:=fun(c,v2,a)=>Aa [pp 1,(3,.ref (1,10) 0 0 a.length),(4,vB c),(5,vN v2)] [(IY b),kk 10 4 1 (Ac AE a)]
def gW:List Bool→Nat×St:=fun a=>(0,Aa [(3,.ref (1,10) 0 0 a.length)] [kk 10 4 1 (Ac AE a)])
def ZC(b:Scm)(v2:Nat):Bool×Nat×List Bool→St:=fun(v4,v5,a)=>Aa [pp 1,(3,.ref (1,10) 0 0 a.length),(4,vB v4),(5,vN v2),(6,vN v5)] [(IY b),kk 10 4 1 (Ac AE a)]
def hZ(c:Scm)(v2:Nat):Bool×List Bool→Nat×St:=fun(b,a)=>(2,Aa [pp 1,(3,.ref (1,10) 0 0 a.length),(4,vB b),(5,vN v2)] [(IY c),kk 10 4 1 (Ac AE a)])
def fy(b:Scm)(v2:Nat)(v4:Bool)(v5:Nat)(a:List Bool):PT 0 (Lv (Bool×Nat×List Bool) (Bool×List Bool) (List Bool)):=wg<|vz (Ag b.messages)<|br (decide ((v5:Int)<(b.messages.length:Int))) (vs (ir v5 a.length 1)<|ca a v5 fun c=>wg<|wg<|A8 (!c) b.messages (v5:Int) fun d=>DQ (!c) Tryz.prog 74 [.agg ((Ak b).map .d),.agg ((Au d).map .d),.ref (1,10) 0 0 a.length] [(1,10)] [kk 10 4 1 (Ac AE a)] (O2 b d a) (fun y=>vB y) fun e=>br ((!c)&&(!e)) (vs (ir v5 a.length 1)<|vs (st a v5 true)<|rn 3 10 a.length (a.set v5 true)<|vw .sep<|vs (wa v5 1)<|vz (fl (a.set v5 true))<|ln (ZC b v2) (true,v5+1,a.set v5 true)) (vs (wa v5 1)<|vz (fl a)<|ln (ZC b v2) (v4,v5+1,a))) (vz (fl a)<|Ah (hZ b v2) (v4,a))
def Rb(a:Scm)(v2:Nat):Bool×Nat×List Bool→Option (Lv (Bool×Nat×List Bool) (Bool×List Bool) (List Bool)):=fun(v4,v5,b)=>(fy a v2 v4 v5 b).m
def cE(c:Scm)(v2:Nat)(b:Bool)(a:List Bool):PT 0 (Lv (Bool×Nat×List Bool) (List Bool) (List Bool)):=vs (wa v2 1)<|vz (fl a)<|ln (dI c) (b,v2+1,a)
def ip(b:Scm)(v2:Nat)(a:List Bool):PT 0 (Lv (Bool×Nat×List Bool) (List Bool) (List Bool)):=vz (fl a)<|lc (Aa [pp 1,(3,.ref (1,10) 0 0 a.length),(4,vB false),(5,vN v2),(6,vI 0)] [(IY b),kk 10 4 1 (Ac AE a)]) ((Al (Rb b v2) Ai (false,0,a)).bind (Sum.elim (fun(d,c)=>(cE b v2 d c).m) (fun z=>some (.rt z))))
def dQ(b:Scm)(c:Bool)(v2:Nat)(a:List Bool):PT 0 (Lv (Bool×Nat×List Bool) (List Bool) (List Bool)):=wg<|vz (Ag b.messages)<|br (decide ((v2:Int)<(b.messages.length:Int))&&c) (vz (fl a)<|lc (Aa [pp 1,(3,.ref (1,10) 0 0 a.length),(5,vN v2)] [(IY b),kk 10 4 1 (Ac AE a)]) ((ip b v2 a).m)) (vz (fl a)<|Ah (gW) a)
def Rk(a:Scm):Bool×Nat×List Bool→Option (Lv (Bool×Nat×List Bool) (List Bool) (List Bool)):=fun(c,v2,b)=>(dQ a c v2 b).m
def iX(a:List Bool):PT 0 (List Bool):=vz (fr a)<|lr Nw nG a
def ei(a:Scm):PT 0 (List Bool):=vz (fl (List.replicate a.messages.length false))<|lc (Aa [pp 1,(3,.ref (1,10) 0 0 (List.replicate a.messages.length false).length),(4,vB true),(5,vI 0)] [(IY a),kk 10 4 1 (Ac AE (List.replicate a.messages.length false))]) ((Al (Rk a) Ai (true,0,List.replicate a.messages.length false)).bind (Sum.elim (fun b=>(iX b).m) some))
def h9(a:Scm):PT 0 (List Bool):=wg<|vz (Ag a.messages)<|ms a.messages.length false [vB false] (by first|rfl|kernel_rfl)<|vz (fl (List.replicate a.messages.length false))<|lc (Aa [pp 1,(3,.ref (1,10) 0 0 (List.replicate a.messages.length false).length),(4,vB true)] [(IY a),kk 10 4 1 (Ac AE (List.replicate a.messages.length false))]) ((ei a).m)
def U9(a:Scm):Option (List Bool):=(h9 a).m
theorem Zza{C:Cx}(co:CO C 0)(a:Scm)(v2:Nat):KL Tryz.prog (Aq tl) 48 C (pa [0,0,1,1,0,0,1,0,0,1,0,1,1,1] (Ar Tryz.f31)) [.tmp 2] 0 (ZC a v2) (hZ a v2) Nw nG (Rb a v2):=fun(v4,v5,b) _ m Q Post d L=>eN co (Ad [1,3,4,5,6] Fj) (Ad [1,3,4,5] Fj) d m L fun r g=>⟨fun e=>fun c=>⟨fun y hy=>s6 (wG a c b) hy co g [kk 10 4 1 (Ac AE b)] [],fun f=>⟨id,id⟩⟩,id⟩
theorem ZzK{C:Cx}(co:CO C 0)(b:Scm):KL Tryz.prog (Aq tl) 48 C (pa [0,0,1,0,1,1,1] (Ar Tryz.f31)) [.tmp 2] 0 (dI b) (gW) Nw nG (Rk b):=fun(f,v2,e) _ m Q Post a L=>mJ co 1 (Ad [1,3,5] Fj) (Ad [3] [((1,10),true)]) a m L fun r g=>⟨fun _ m L=>sq (bk 1 (mJ co 2 (Ad [1,3,4,5,6] Fj) nl a m L fun r g=>fun _ m L=>bk 2 (lo (I3 (Zza co b v2) a m L (fun(d,c) m=>eN co (Ad [1,3,4,5] Fj) nl a m L))))),id⟩
theorem ZQC(a:Scm):KC Tryz.prog 31 [.agg ((Ak a).map .d)] (U9 a) Nw:=kC Tryz.func31 Tryz.ntmps31 [.tmp 2] fun co m L=>mJ co 3 (Ad [1,3,4] Fj) nl nH m L fun r g=>fun _ m L=>sq (mJ co 1 (Ad [1,3,4,5] Fj) nl nH m L fun r g=>fun _ m L=>bk 0 (lo (Az (ZzK co a) nH m L (fun b m=>fO co m L))))
abbrev jK:Bool→AV:=fun y=>vB y
def xP(a:Int):PT 0 (Bool):=lr jK nG (decide ((97:Int)≤a)&&decide (a≤(122:Int)))
def ll(a:Int):Option (Bool):=(xP a).m
theorem iN(a:Int):KC Tryz.prog 171 [.d (.int .u8 a)] (ll a) jK:=kC Tryz.func171 Tryz.ntmps171 [.tmp 2] fun co m L=>fO co m L
abbrev jV:Bool→AV:=fun y=>vB y
def wq(a:Int):PT 0 (Bool):=lr jV nG (decide ((65:Int)≤a)&&decide (a≤(90:Int)))
def lm(a:Int):Option (Bool):=(wq a).m
theorem bB(a:Int):KC Tryz.prog 172 [.d (.int .u8 a)] (lm a) jV:=kC Tryz.func172 Tryz.ntmps172 [.tmp 2] fun co m L=>fO co m L
abbrev Lw:Bool→AV:=fun y=>vB y
def qN(a:ByteArray):Nat→St:=fun v5=>Aa [(0,vS a),(3,vN v5)] []
def tp:Unit→Nat×St:=fun _=>(0,Aa [] [])
def rM(a:ByteArray)(v5:Nat):PT 0 (Lv (Nat) (Unit) (Bool)):=vz (AR a.size)<|br (decide ((v5:Int)<(a.size:Int))) (ib a v5 fun g=>cl (iN (g.toNat:Int)) fun c=>EO (!c) a (v5:Int) fun h=>Aw (!c) (bB (h.toNat:Int)) fun e=>EO ((!c)&&(!e)) a (v5:Int) fun b=>EO (((!c)&&(!e))&&(!decide ((b.toNat:Int)=(95:Int)))) a (v5:Int) fun d=>EO ((((!c)&&(!e))&&(!decide ((b.toNat:Int)=(95:Int))))&&(!(decide ((d.toNat:Int)<(48:Int))))) a (v5:Int) fun f=>br ((((!c)&&(!e))&&(!decide ((b.toNat:Int)=(95:Int))))&&(decide ((d.toNat:Int)<(48:Int))||decide ((57:Int)<(f.toNat:Int)))) (An Lw nG false) (vs (wa v5 1)<|ln (qN a) (v5+1))) (Ah (tp) ())
def Qi(a:ByteArray):Nat→Option (Lv (Nat) (Unit) (Bool)):=fun v5=>(rM a v5).m
def qe:PT 0 (Bool):=lr Lw nG true
def rl(a:ByteArray):PT 0 (Bool):=lc (Aa [(0,vS a),(3,vI 1)] []) ((Al (Qi a) Ai 1).bind (Sum.elim (fun _=>(qe).m) some))
def qh(a:ByteArray):PT 0 (Bool):=vz (AR a.size)<|vy (!(decide ((a.size:Int)=(0:Int)))) (AR a.size)<|EO (!(decide ((a.size:Int)=(0:Int))||decide ((40:Int)<(a.size:Int)))) a 0 fun c=>Aw (!(decide ((a.size:Int)=(0:Int))||decide ((40:Int)<(a.size:Int)))) (iN (c.toNat:Int)) fun b=>EO ((!(decide ((a.size:Int)=(0:Int))||decide ((40:Int)<(a.size:Int))))&&(!b)) a 0 fun d=>Aw ((!(decide ((a.size:Int)=(0:Int))||decide ((40:Int)<(a.size:Int))))&&(!b)) (bB (d.toNat:Int)) fun e=>br ((decide ((a.size:Int)=(0:Int))||decide ((40:Int)<(a.size:Int)))||((!b)&&(!e))) (lr Lw nG false) (lc (Aa [(0,vS a)] []) ((rl a).m))
def U8(a:ByteArray):Option (Bool):=(qh a).m
theorem Zty{C:Cx}(co:CO C 0)(a:ByteArray):KL Tryz.prog (Aq tl) 60 C (pa [0,0,1,0,1,1] (Ar Tryz.f133)) [.tmp 2] 0 (qN a) (tp) Lw nG (Qi a):=fun v5 _ m Q Post b L=>eN co (AI [0,3]) nl b m L
theorem Zy(a:ByteArray):KC Tryz.prog 133 [vS a] (U8 a) Lw:=kC Tryz.func133 Tryz.ntmps133 [.tmp 2] fun co m L=>mJ co 2 (AI [0]) nl nH m L fun r g=>fun b=>fun d=>fun c=>fun e=>⟨id,fun _ m L=>sq (mJ co 1 (AI [0,3]) nl nH m L fun r g=>fun _ m L=>bk 0 (lo (Az (Zty co a) nH m L (fun _ m=>fO co m L))))⟩
abbrev LM:Bool→AV:=fun y=>vB y
def X3(a:ByteArray):ByteArray×Nat→St:=fun(b,v2)=>Aa [(0,vS a),(3,vS b),(4,vN v2)] []
def te:ByteArray→Nat×St:=fun a=>(0,Aa [(3,vS a)] [])
def rX(a:ByteArray)(b:ByteArray)(v2:Nat):PT 0 (Lv (ByteArray×Nat) (ByteArray) (Bool)):=vz (AR a.size)<|br (decide ((v2:Int)<(a.size:Int))) (ib a v2 fun c=>br (!decide ((c.toNat:Int)=(46:Int))) (vs (wa v2 1)<|ss a (.nt v2) (.nt (v2+1)) fun d=>ad b d fun e=>vs (wa v2 1)<|ln (X3 a) (e,v2+1)) (cl (Zy b) fun f=>br (!f) (An LM nG false) (vs (wa v2 1)<|ln (X3 a) (⟨#[]⟩,v2+1)))) (Ah (te) b)
def Qu(a:ByteArray):ByteArray×Nat→Option (Lv (ByteArray×Nat) (ByteArray) (Bool)):=fun(b,v2)=>(rX a b v2).m
def tD(a:ByteArray):PT 0 (Bool):=cl (Zy a) fun b=>lr LM nG b
def ti(a:ByteArray):PT 0 (Bool):=lc (Aa [(0,vS a),(3,vS ⟨#[]⟩),(4,vI 0)] []) ((Al (Qu a) Ai (⟨#[]⟩,0)).bind (Sum.elim (fun b=>(tD b).m) some))
def rJ(a:ByteArray):PT 0 (Bool):=vz (AR a.size)<|br (decide ((120:Int)<(a.size:Int))) (lr LM nG false) (lc (Aa [(0,vS a),(3,vS ⟨#[]⟩)] []) ((ti a).m))
def U7(a:ByteArray):Option (Bool):=(rJ a).m
theorem Zsi{C:Cx}(co:CO C 0)(a:ByteArray):KL Tryz.prog (Aq tl) 30 C (pa [0,0,1,0,1,1,1] (Ar Tryz.f130)) [.tmp 2] 0 (X3 a) (te) LM nG (Qu a):=fun(c,v2) _ m Q Post b L=>eN co (AI [0,3,4]) (AI [3]) b m L
theorem yn(a:ByteArray):KC Tryz.prog 130 [vS a] (U7 a) LM:=kC Tryz.func130 Tryz.ntmps130 [.tmp 2] fun co m L=>mJ co 3 (AI [0,3]) nl nH m L fun r g=>⟨id,fun _ m L=>sq (mJ co 1 (AI [0,3,4]) nl nH m L fun r g=>fun _ m L=>bk 0 (lo (Az (Zsi co a) nH m L (fun b m=>fO co m L))))⟩
abbrev Ow:ByteArray×ByteArray→AV:=fun y=>.tup [vS y.1,vS y.2]
def qz(a:ByteArray):Int→St:=fun b=>Aa [(0,vS a),(4,vI b)] []
def sf(a:ByteArray):Unit→Nat×St:=fun _=>(0,Aa [(0,vS a)] [])
def ua(b:ByteArray)(a:Int):PT 0 (Lv (Int) (Unit) (ByteArray×ByteArray)):=br (decide ((0:Int)≤a)) (Nl b a fun c=>br (decide ((c.toNat:Int)=(46:Int))) (ss b .no (.it a) fun d=>vs (wi (a+1))<|ss b (.it (a+1)) .no fun e=>An Ow nG (d,e)) (vs (wi (a-1))<|ln (qz b) (a-1))) (Ah (sf b) ())
def Qz(a:ByteArray):Int→Option (Lv (Int) (Unit) (ByteArray×ByteArray)):=fun b=>(ua a b).m
def py(a:ByteArray):PT 0 (ByteArray×ByteArray):=lr Ow nG (⟨#[]⟩,a)
def sd(a:ByteArray):PT 0 (ByteArray×ByteArray):=vz (AR a.size)<|vs (wi ((a.size:Int)-1))<|lc (Aa [(0,vS a),(4,vI ((a.size:Int)-1))] []) ((Al (Qz a) Ai ((a.size:Int)-1)).bind (Sum.elim (fun _=>(py a).m) some))
def qF(a:ByteArray):PT 0 (ByteArray×ByteArray):=lc (Aa [(0,vS a)] []) ((sd a).m)
def UM(a:ByteArray):Option (ByteArray×ByteArray):=(qF a).m
theorem Zrk{C:Cx}(co:CO C 0)(a:ByteArray):KL Tryz.prog (Aq tl) 24 C (pa [0,0,1,0,1] (Ar Tryz.f131)) [.tmp 2,.tmp 3] 0 (qz a) (sf a) Ow nG (Qz a):=fun c _ m Q Post b L=>eN co (AI [0,4]) (AI [0]) b m L
theorem yk(a:ByteArray):KC Tryz.prog 131 [vS a] (UM a) Ow:=kC Tryz.func131 Tryz.ntmps131 [.tmp 2,.tmp 3] fun co m L=>mJ co 1 (AI [0]) nl nH m L fun r g=>fun _ m L=>sq (mJ co 1 (AI [0,4]) nl nH m L fun r g=>fun _ m L=>bk 0 (lo (Az (Zrk co a) nH m L (fun _ m=>fO co m L))))
abbrev A1:Bool→AV:=fun y=>vB y
def qY(a:ByteArray):PT 0 (Bool):=br (decide (a=(⟨#[109,101,115,115,97,103,101]⟩:ByteArray))) (br (decide (a=(⟨#[109,101,115,115,97,103,101]⟩:ByteArray))) (lr A1 nG true) (lr A1 nG false)) (br (decide (a=(⟨#[101,110,117,109]⟩:ByteArray))) (br (decide (a=(⟨#[101,110,117,109]⟩:ByteArray))) (lr A1 nG true) (lr A1 nG false)) (br (decide (a=(⟨#[115,101,114,118,105,99,101]⟩:ByteArray))) (br (decide (a=(⟨#[115,101,114,118,105,99,101]⟩:ByteArray))) (lr A1 nG true) (lr A1 nG false)) (br (decide (a=(⟨#[117,110,105,111,110]⟩:ByteArray))) (br (decide (a=(⟨#[117,110,105,111,110]⟩:ByteArray))) (lr A1 nG true) (lr A1 nG false)) (br (decide (a=(⟨#[109,97,112]⟩:ByteArray))) (br (decide (a=(⟨#[109,97,112]⟩:ByteArray))) (lr A1 nG true) (lr A1 nG false)) (br (decide (a=(⟨#[108,105,115,116]⟩:ByteArray))) (br (decide (a=(⟨#[108,105,115,116]⟩:ByteArray))) (lr A1 nG true) (lr A1 nG false)) (br (decide (a=(⟨#[114,101,113,117,105,114,101,100]⟩:ByteArray))) (br (decide (a=(⟨#[114,101,113,117,105,114,101,100]⟩:ByteArray))) (lr A1 nG true) (lr A1 nG false)) (br (decide (a=(⟨#[111,112,116,105,111,110,97,108]⟩:ByteArray))) (br (decide (a=(⟨#[111,112,116,105,111,110,97,108]⟩:ByteArray))) (lr A1 nG true) (lr A1 nG false)) (br (decide (a=(⟨#[112,108,97,105,110]⟩:ByteArray))) (br (decide (a=(⟨#[112,108,97,105,110]⟩:ByteArray))) (lr A1 nG true) (lr A1 nG false)) (br (decide (a=(⟨#[100,101,102,97,117,108,116]⟩:ByteArray))) (br (decide (a=(⟨#[100,101,102,97,117,108,116]⟩:ByteArray))) (lr A1 nG true) (lr A1 nG false)) (br (decide (a=(⟨#[114,101,115,101,114,118,101,100]⟩:ByteArray))) (br (decide (a=(⟨#[114,101,115,101,114,118,101,100]⟩:ByteArray))) (lr A1 nG true) (lr A1 nG false)) (br (decide (a=(⟨#[105,109,112,111,114,116]⟩:ByteArray))) (br (decide (a=(⟨#[105,109,112,111,114,116]⟩:ByteArray))) (lr A1 nG true) (lr A1 nG false)) (br (decide (a=(⟨#[115,112,97,99,101]⟩:ByteArray))) (br (decide (a=(⟨#[115,112,97,99,101]⟩:ByteArray))) (lr A1 nG true) (lr A1 nG false)) (br (decide (a=(⟨#[114,112,99]⟩:ByteArray))) (br (decide (a=(⟨#[114,112,99]⟩:ByteArray))) (lr A1 nG true) (lr A1 nG false)) (br (decide (a=(⟨#[115,116,114,101,97,109]⟩:ByteArray))) (br (decide (a=(⟨#[115,116,114,101,97,109]⟩:ByteArray))) (lr A1 nG true) (lr A1 nG false)) (br (decide (a=(⟨#[114,101,116,117,114,110,115]⟩:ByteArray))) (br (decide (a=(⟨#[114,101,116,117,114,110,115]⟩:ByteArray))) (lr A1 nG true) (lr A1 nG false)) (br (decide (a=(⟨#[111,112,101,110]⟩:ByteArray))) (br (decide (a=(⟨#[111,112,101,110]⟩:ByteArray))) (lr A1 nG true) (lr A1 nG false)) (br (decide (a=(⟨#[116,114,117,101]⟩:ByteArray))) (br (decide (a=(⟨#[116,114,117,101]⟩:ByteArray))) (lr A1 nG true) (lr A1 nG false)) (br (decide (a=(⟨#[102,97,108,115,101]⟩:ByteArray))) (br (decide (a=(⟨#[102,97,108,115,101]⟩:ByteArray))) (lr A1 nG true) (lr A1 nG false)) (br (decide (a=(⟨#[110,97,110]⟩:ByteArray))) (br (decide (a=(⟨#[110,97,110]⟩:ByteArray))) (lr A1 nG true) (lr A1 nG false)) (br (decide (a=(⟨#[105,110,102]⟩:ByteArray))) (lr A1 nG true) (lr A1 nG false)))))))))))))))))))))
def UK(a:ByteArray):Option (Bool):=(qY a).m
theorem fP(a:ByteArray):KC Tryz.prog 132 [vS a] (UK a) A1:=kC Tryz.func132 Tryz.ntmps132 [.tmp 2] fun co m L=>fO co m L
abbrev La:Bool→AV:=fun y=>vB y
def bQ:ByteArray×Nat→St:=fun(v2,v3)=>Aa [(0,vS v2),(3,vN v3)] []
def ga:Unit→Nat×St:=fun _=>(0,Aa [] [])
def iM(v2:ByteArray)(v3:Nat):PT 0 (Lv (ByteArray×Nat) (Unit) (Bool)):=br (decide ((v3:Int)<(120:Int))&&(!decide (v2=(⟨#[]⟩:ByteArray)))) (cl (yk v2) fun a=>cl (fP a.2) fun b=>br b (An La nG false) (vs (wa v3 1)<|ln (bQ) (a.1,v3+1))) (Ah (ga) ())
def QP:ByteArray×Nat→Option (Lv (ByteArray×Nat) (Unit) (Bool)):=fun(v2,v3)=>(iM v2 v3).m
def ew:PT 0 (Bool):=lr La nG true
def fv(a:ByteArray):PT 0 (Bool):=lc (Aa [(0,vS a),(3,vI 0)] []) ((Al (QP) Ai (a,0)).bind (Sum.elim (fun _=>(ew).m) some))
def dk(a:ByteArray):PT 0 (Bool):=cl (yn a) fun b=>br (!b) (lr La nG false) (lc (Aa [(0,vS a)] []) ((fv a).m))
def Va(a:ByteArray):Option (Bool):=(dk a).m
theorem ZzX{C:Cx}(co:CO C 0):KL Tryz.prog (Aq tl) 25 C (pa [0,0,1,0,1,1] (Ar Tryz.f75)) [.tmp 2] 0 (bQ) (ga) La nG (QP):=fun(v2,v3) _ m Q Post a L=>eN co (AI [0,3]) nl a m L
theorem Tl(a:ByteArray):KC Tryz.prog 75 [vS a] (Va a) La:=kC Tryz.func75 Tryz.ntmps75 [.tmp 2] fun co m L=>mJ co 2 (AI [0]) nl nH m L fun r g=>fun b=>⟨id,fun _ m L=>sq (mJ co 1 (AI [0,3]) nl nH m L fun r g=>fun _ m L=>bk 0 (lo (Az (ZzX co) nH m L (fun _ m=>fO co m L))))⟩
abbrev ak:Bool→AV:=fun y=>vB y
def eb(a:ByteArray):PT 0 (Bool):=cl (Zy a) fun b=>Aw b (fP a) fun c=>lr ak nG (b&&(!c))
def UC(a:ByteArray):Option (Bool):=(eb a).m
theorem OA(a:ByteArray):KC Tryz.prog 76 [vS a] (UC a) ak:=kC Tryz.func76 Tryz.ntmps76 [.tmp 2] fun co m L=>fO co m L
abbrev NF:Bool→AV:=fun y=>vB y
def iy(a:List Spn)(b:Int):Nat→St:=fun c=>Aa [(0,vL B7 a),(1,vI b),(5,vN c)] []
def i9:Unit→Nat×St:=fun _=>(0,Aa [] [])
def iR(a:List Spn)(c:Int)(b:Nat):PT 0 (Lv (Nat) (Unit) (Bool)):=vz (Ag a)<|br (decide ((b:Int)<(a.length:Int))) (ix a b fun d=>A8 (decide (d.lo≤c)) a (b:Int) fun e=>br (decide (d.lo≤c)&&decide (c≤e.hi)) (An NF nG true) (vs (wa b 1)<|ln (iy a c) (b+1))) (Ah (i9) ())
def Q9(a:List Spn)(b:Int):Nat→Option (Lv (Nat) (Unit) (Bool)):=fun c=>(iR a b c).m
def gY:PT 0 (Bool):=lr NF nG false
def ej(a:List Spn)(b:Int):PT 0 (Bool):=lc (Aa [(0,vL B7 a),(1,vI b),(5,vI 0)] []) ((Al (Q9 a b) Ai 0).bind (Sum.elim (fun _=>(gY).m) some))
def eu(a:List Spn)(b:Int):PT 0 (Bool):=lc (Aa [(0,vL B7 a),(1,vI b)] []) ((ej a b).m)
def U3(a:List Spn)(b:Int):Option (Bool):=(eu a b).m
theorem v7{C:Cx}(co:CO C 0)(a:List Spn)(b:Int):KL Tryz.prog (Aq tl) 28 C (pa [0,0,1,0,1] (Ar Tryz.f77)) [.tmp 4] 0 (iy a b) (i9) NF nG (Q9 a b):=fun d _ m Q Post c L=>eN co (AI [0,1,5]) nl c m L
theorem j7(a:List Spn)(b:Int):KC Tryz.prog 77 [vL B7 a,vI b] (U3 a b) NF:=kC Tryz.func77 Tryz.ntmps77 [.tmp 4] fun co m L=>mJ co 1 (AI [0,1]) nl nH m L fun r g=>fun _ m L=>sq (mJ co 1 (AI [0,1,5]) nl nH m L fun r g=>fun _ m L=>bk 0 (lo (Az (v7 co a b) nH m L (fun _ m=>fO co m L))))
abbrev Dz:Bool→AV:=fun y=>vB y
def iO(a:Fld):PT 0 (Bool):=wg<|br (!decide (a.card=(5:Int))) (wg<|wg<|wg<|lr Dz nG ((decide ((1:Int)≤a.card)&&decide (a.card≤(4:Int)))&&decide (a.key=(0:Int)))) (wg<|br (decide (a.key=(1:Int))) (br (decide (a.key=(1:Int))) (lr Dz nG true) (lr Dz nG false)) (br (decide (a.key=(2:Int))) (br (decide (a.key=(2:Int))) (lr Dz nG true) (lr Dz nG false)) (br (decide (a.key=(3:Int))) (br (decide (a.key=(3:Int))) (lr Dz nG true) (lr Dz nG false)) (br (decide (a.key=(4:Int))) (br (decide (a.key=(4:Int))) (lr Dz nG true) (lr Dz nG false)) (br (decide (a.key=(5:Int))) (br (decide (a.key=(5:Int))) (lr Dz nG true) (lr Dz nG false)) (br (decide (a.key=(7:Int))) (lr Dz nG true) (lr Dz nG false)))))))
def UY(a:Fld):Option (Bool):=(iO a).m
theorem ZQn(a:Fld):KC Tryz.prog 78 [.agg ((Am a).map .d)] (UY a) Dz:=kC Tryz.func78 Tryz.ntmps78 [.tmp 2] fun co m L=>fO co m L
abbrev ZK(a:Scm):Ab×Blk:=kk 2 26 3 (cD (Ak a))
abbrev Oc:Int→AV:=fun y=>vI y
def qJ(a:Scm)(b:ByteArray):Nat→St:=fun c=>Aa [(1,vS b),pp 2,(5,vN c)] [(ZK a)]
def ro:Unit→Nat×St:=fun _=>(0,Aa [] [])
def qK(b:Scm)(c:ByteArray)(a:Nat):PT 0 (Lv (Nat) (Unit) (Int)):=wg<|vz (Ag b.enums)<|br (decide ((a:Int)<(b.enums.length:Int))) (wg<|ix b.enums a fun d=>br (decide (d.name=c)) (An Oc nG (a:Int)) (vs (wa a 1)<|ln (qJ b c) (a+1))) (Ah (ro) ())
def Qx(a:Scm)(b:ByteArray):Nat→Option (Lv (Nat) (Unit) (Int)):=fun c=>(qK a b c).m
def rz:PT 0 (Int):=lr Oc nG (-1)
def tx(a:Scm)(b:ByteArray):PT 0 (Int):=lc (Aa [(1,vS b),pp 2,(5,vI 0)] [(ZK a)]) ((Al (Qx a b) Ai 0).bind (Sum.elim (fun _=>(rz).m) some))
def o8(a:Scm)(b:ByteArray):PT 0 (Int):=lc (Aa [(1,vS b),pp 2] [(ZK a)]) ((tx a b).m)
def U6(a:Scm)(b:ByteArray):Option (Int):=(o8 a b).m
theorem Zry{C:Cx}(co:CO C 0)(a:Scm)(b:ByteArray):KL Tryz.prog (Aq tl) 22 C (pa [0,0,1,0,1] (Ar Tryz.f134)) [.tmp 4] 0 (qJ a b) (ro) Oc nG (Qx a b):=fun d _ m Q Post c L=>eN co (Ad [1,2,5] DS) nl c m L
theorem eW(a:Scm)(b:ByteArray):KC Tryz.prog 134 [.agg ((Ak a).map .d),vS b] (U6 a b) Oc:=kC Tryz.func134 Tryz.ntmps134 [.tmp 4] fun co m L=>mJ co 1 (Ad [1,2] DS) nl nH m L fun r g=>fun _ m L=>sq (mJ co 1 (Ad [1,2,5] DS) nl nH m L fun r g=>fun _ m L=>bk 0 (lo (Az (Zry co a b) nH m L (fun _ m=>fO co m L))))
abbrev NG:Bool→AV:=fun y=>vB y
def bh(b:Scm)(a:Fld):PT 0 (Bool):=wg<|br (decide (a.type.kind=(9:Int))) (wg<|wg<|cl (eW b a.type.name) fun c=>lr NG nG (decide ((0:Int)≤c))) (br (decide (a.type.kind=(10:Int))) (wg<|wg<|cl (LQ b a.type.name) fun d=>wg<|lr NG nG (decide ((0:Int)≤d)&&(!decide (a.card=(3:Int))))) (wg<|wg<|wg<|lr NG nG ((decide ((1:Int)≤a.type.kind)&&decide (a.type.kind≤(8:Int)))&&decide (a.type.name=(⟨#[]⟩:ByteArray)))))
def UJ(a:Scm)(b:Fld):Option (Bool):=(bh a b).m
theorem ZQl(a:Scm)(b:Fld):KC Tryz.prog 79 [.agg ((Ak a).map .d),.agg ((Am b).map .d)] (UJ a b) NG:=kC Tryz.func79 Tryz.ntmps79 [.tmp 4] fun co m L=>fO co m L
abbrev I1:List (Ab×Bool):=[((1,2),false),((1,5),false)]
abbrev RN(a:Msg):Ab×Blk:=kk 2 47 5 (cD (Au a))
abbrev N5(a:Fld):Ab×Blk:=kk 5 53 16 (cD (Am a))
abbrev Jd:Bool→AV:=fun y=>vB y
def Zc(b:Msg)(c:Int)(a:Fld):Bool×Nat→St:=fun(v3,v4)=>Aa [(1,vI c),pp 2,pp 5,(6,vB v3),(7,vN v4)] [(RN b),(N5 a)]
def cL(b:Msg)(c:Int)(a:Fld):Bool→Nat×St:=fun d=>(0,Aa [(1,vI c),pp 2,pp 5,(6,vB d)] [(RN b),(N5 a)])
def iI(a:Msg)(c:Int)(b:Fld)(v3:Bool)(v4:Nat):PT 0 (Lv (Bool×Nat) (Bool) (Bool)):=wg<|vz (Ag a.fields)<|br (decide ((v4:Int)<(a.fields.length:Int))) (wg<|ix a.fields v4 fun d=>wg<|br (decide (d.name=b.union)) (An Jd nG false) (wg<|A8 (decide ((v4:Int)<c)) a.fields (v4:Int) fun e=>wg<|br (decide ((v4:Int)<c)&&decide (e.union=b.union)) (vs (wa v4 1)<|ln (Zc a c b) (true,v4+1)) (vs (wa v4 1)<|ln (Zc a c b) (v3,v4+1)))) (Ah (cL a c b) v3)
def Rl(b:Msg)(c:Int)(a:Fld):Bool×Nat→Option (Lv (Bool×Nat) (Bool) (Bool)):=fun(v3,v4)=>(iI b c a v3 v4).m
def dl(e:Msg)(b:Int)(c:Fld)(a:Bool):PT 0 (Bool):=wg<|vg (!(!a)) (wi (b-1))<|A8 (!(!a)) e.fields (b-1) fun d=>wg<|lr Jd nG ((!a)||decide (d.union=c.union))
def eK(b:Msg)(c:Int)(a:Fld):PT 0 (Bool):=lc (Aa [(1,vI c),pp 2,pp 5,(6,vB false),(7,vI 0)] [(RN b),(N5 a)]) ((Al (Rl b c a) Ai (false,0)).bind (Sum.elim (fun d=>(dl b c a d).m) some))
def gX(b:Msg)(c:Int):PT 0 (Bool):=wg<|CA b.fields c fun a=>wg<|wg<|br (decide (a.union=(⟨#[]⟩:ByteArray))) (lr Jd nG true) (wg<|wg<|Aw (!(!decide (a.card=(2:Int)))) (OA a.union) fun d=>br ((!decide (a.card=(2:Int)))||(!d)) (lr Jd nG false) (lc (Aa [(1,vI c),pp 2,pp 5,(6,vB false)] [(RN b),(N5 a)]) ((eK b c a).m)))
def US(a:Msg)(b:Int):Option (Bool):=(gX a b).m
theorem ZzF{C:Cx}(co:CO C 0)(b:Msg)(c:Int)(a:Fld):KL Tryz.prog (Aq tl) 69 C (pa [0,0,1,0,1,1,1,1,1] (Ar Tryz.f80)) [.tmp 4] 0 (Zc b c a) (cL b c a) Jd nG (Rl b c a):=fun(v3,v4) _ m Q Post d L=>eN co (Ad [1,2,5,6,7] I1) (Ad [1,2,5,6] I1) d m L
theorem ZP2(a:Msg)(b:Int):KC Tryz.prog 80 [.agg ((Au a).map .d),vI b] (US a b) Jd:=kC Tryz.func80 Tryz.ntmps80 [.tmp 4] fun co m L=>mJ co 5 (Ad [1,2,5,6] I1) nl nH m L fun r g=>fun c=>⟨id,fun e=>⟨id,fun _ m L=>sq (mJ co 1 (Ad [1,2,5,6,7] I1) nl nH m L fun r g=>fun _ m L=>bk 0 (lo (Az (ZzF co a b c) nH m L (fun d m=>fO co m L))))⟩⟩
abbrev ka:Bool→AV:=fun y=>vB y
def Xo(a:ByteArray)(b:Int)(d:Int)(f:Int):PT 0 (Bool):=vz (AR a.size)<|EO (decide (b<(a.size:Int))) a b fun c=>EO (decide (b<(a.size:Int))&&decide (d≤(c.toNat:Int))) a b fun e=>lr ka nG ((decide (b<(a.size:Int))&&decide (d≤(c.toNat:Int)))&&decide ((e.toNat:Int)≤f))
def J1(a:ByteArray)(b:Int)(c:Int)(d:Int):Option (Bool):=(Xo a b c d).m
theorem M9(a:ByteArray)(b:Int)(c:Int)(d:Int):KC Tryz.prog 207 [vS a,vI b,.d (.int .u8 c),.d (.int .u8 d)] (J1 a b c d) ka:=kC Tryz.func207 Tryz.ntmps207 [.tmp 8] fun co m L=>fO co m L
abbrev Ol:Bool→AV:=fun y=>vB y
def sO(a:ByteArray)(b:Int)(c:Int):Nat→St:=fun d=>Aa [(0,vS a),(1,vI b),(2,vI c),(7,vN d)] []
def ru:Unit→Nat×St:=fun _=>(0,Aa [] [])
def Qn(c:ByteArray)(b:Int)(d:Int)(a:Nat):PT 0 (Lv (Nat) (Unit) (Bool)):=br (decide ((a:Int)<d)) (vs (wi (b+(a:Int)))<|cl (M9 c (b+(a:Int)) 128 191) fun e=>br (!e) (An Ol nG false) (vs (wa a 1)<|ln (sO c b d) (a+1))) (Ah (ru) ())
def ID(a:ByteArray)(b:Int)(c:Int):Nat→Option (Lv (Nat) (Unit) (Bool)):=fun d=>(Qn a b c d).m
def XY:PT 0 (Bool):=lr Ol nG true
def X4(a:ByteArray)(b:Int)(c:Int):PT 0 (Bool):=lc (Aa [(0,vS a),(1,vI b),(2,vI c),(7,vI 0)] []) ((Al (ID a b c) Ai 0).bind (Sum.elim (fun _=>(XY).m) some))
def Xp(a:ByteArray)(b:Int)(c:Int):PT 0 (Bool):=lc (Aa [(0,vS a),(1,vI b),(2,vI c)] []) ((X4 a b c).m)
def Iv(a:ByteArray)(b:Int)(c:Int):Option (Bool):=(Xp a b c).m
theorem Zsv{C:Cx}(co:CO C 0)(a:ByteArray)(b:Int)(c:Int):KL Tryz.prog (Aq tl) 19 C (pa [0,0,1,0,1] (Ar Tryz.f206)) [.tmp 6] 0 (sO a b c) (ru) Ol nG (ID a b c):=fun e _ m Q Post d L=>eN co (AI [0,1,2,7]) nl d m L
theorem IH(a:ByteArray)(b:Int)(c:Int):KC Tryz.prog 206 [vS a,vI b,vI c] (Iv a b c) Ol:=kC Tryz.func206 Tryz.ntmps206 [.tmp 6] fun co m L=>mJ co 1 (AI [0,1,2]) nl nH m L fun r g=>fun _ m L=>sq (mJ co 1 (AI [0,1,2,7]) nl nH m L fun r g=>fun _ m L=>bk 0 (lo (Az (Zsv co a b c) nH m L (fun _ m=>fO co m L))))
abbrev FI:Int→AV:=fun y=>vI y
def XJ(c:ByteArray)(b:Int):PT 0 (Int):=Nl c b fun a=>br (decide ((a.toNat:Int)<(128:Int))) (lr FI nG 1) (vg (decide ((194:Int)≤(a.toNat:Int))&&decide ((a.toNat:Int)≤(223:Int))) (wi (b+1))<|Aw (decide ((194:Int)≤(a.toNat:Int))&&decide ((a.toNat:Int)≤(223:Int))) (IH c (b+1) 1) fun j=>br ((decide ((194:Int)≤(a.toNat:Int))&&decide ((a.toNat:Int)≤(223:Int)))&&j) (lr FI nG 2) (vg (decide ((a.toNat:Int)=(224:Int))) (wi (b+1))<|Aw (decide ((a.toNat:Int)=(224:Int))) (M9 c (b+1) 160 191) fun g=>vg (decide ((a.toNat:Int)=(224:Int))&&g) (wi (b+2))<|Aw (decide ((a.toNat:Int)=(224:Int))&&g) (IH c (b+2) 1) fun k=>br ((decide ((a.toNat:Int)=(224:Int))&&g)&&k) (lr FI nG 3) (vg (decide ((a.toNat:Int)=(237:Int))) (wi (b+1))<|Aw (decide ((a.toNat:Int)=(237:Int))) (M9 c (b+1) 128 159) fun h=>vg (decide ((a.toNat:Int)=(237:Int))&&h) (wi (b+2))<|Aw (decide ((a.toNat:Int)=(237:Int))&&h) (IH c (b+2) 1) fun l=>br ((decide ((a.toNat:Int)=(237:Int))&&h)&&l) (lr FI nG 3) (vg ((decide ((225:Int)≤(a.toNat:Int))&&decide ((a.toNat:Int)≤(239:Int)))&&(!decide ((a.toNat:Int)=(237:Int)))) (wi (b+1))<|Aw ((decide ((225:Int)≤(a.toNat:Int))&&decide ((a.toNat:Int)≤(239:Int)))&&(!decide ((a.toNat:Int)=(237:Int)))) (IH c (b+1) 2) fun m=>br (((decide ((225:Int)≤(a.toNat:Int))&&decide ((a.toNat:Int)≤(239:Int)))&&(!decide ((a.toNat:Int)=(237:Int))))&&m) (lr FI nG 3) (vg (decide ((a.toNat:Int)=(240:Int))) (wi (b+1))<|Aw (decide ((a.toNat:Int)=(240:Int))) (M9 c (b+1) 144 191) fun i=>vg (decide ((a.toNat:Int)=(240:Int))&&i) (wi (b+2))<|Aw (decide ((a.toNat:Int)=(240:Int))&&i) (IH c (b+2) 2) fun n=>br ((decide ((a.toNat:Int)=(240:Int))&&i)&&n) (lr FI nG 4) (vg (decide ((241:Int)≤(a.toNat:Int))&&decide ((a.toNat:Int)≤(243:Int))) (wi (b+1))<|Aw (decide ((241:Int)≤(a.toNat:Int))&&decide ((a.toNat:Int)≤(243:Int))) (IH c (b+1) 3) fun e=>br ((decide ((241:Int)≤(a.toNat:Int))&&decide ((a.toNat:Int)≤(243:Int)))&&e) (lr FI nG 4) (vg (decide ((a.toNat:Int)=(244:Int))) (wi (b+1))<|Aw (decide ((a.toNat:Int)=(244:Int))) (M9 c (b+1) 128 143) fun d=>vg (decide ((a.toNat:Int)=(244:Int))&&d) (wi (b+2))<|Aw (decide ((a.toNat:Int)=(244:Int))&&d) (IH c (b+2) 2) fun f=>br ((decide ((a.toNat:Int)=(244:Int))&&d)&&f) (lr FI nG 4) (lr FI nG 0))))))))
def L9(a:ByteArray)(b:Int):Option (Int):=(XJ a b).m
theorem ye(a:ByteArray)(b:Int):KC Tryz.prog 177 [vS a,vI b] (L9 a b) FI:=kC Tryz.func177 Tryz.ntmps177 [.tmp 4] fun co m L=>fO co m L
abbrev Om:Int→AV:=fun y=>vI y
def qD(a:ByteArray):Int→St:=fun b=>Aa [(0,vS a),(3,vI b)] []
def rc:Unit→Nat×St:=fun _=>(0,Aa [] [])
def Xr(b:ByteArray)(a:Int):PT 0 (Lv (Int) (Unit) (Int)):=vz (AR b.size)<|br (decide (a<(b.size:Int))) (cl (ye b a) fun c=>br (decide (c=(0:Int))) (An Om nG a) (vs (wi (a+c))<|ln (qD b) (a+c))) (Ah (rc) ())
def Kr(a:ByteArray):Int→Option (Lv (Int) (Unit) (Int)):=fun b=>(Xr a b).m
def Xi:PT 0 (Int):=lr Om nG (-1)
def XZ(a:ByteArray):PT 0 (Int):=lc (Aa [(0,vS a),(3,vI 0)] []) ((Al (Kr a) Ai 0).bind (Sum.elim (fun _=>(Xi).m) some))
def Xt(a:ByteArray):PT 0 (Int):=lc (Aa [(0,vS a)] []) ((XZ a).m)
def O9(a:ByteArray):Option (Int):=(Xt a).m
theorem Ztt{C:Cx}(co:CO C 0)(a:ByteArray):KL Tryz.prog (Aq tl) 18 C (pa [0,0,1,0,1] (Ar Tryz.f138)) [.tmp 2] 0 (qD a) (rc) Om nG (Kr a):=fun c _ m Q Post b L=>eN co (AI [0,3]) nl b m L
theorem zS(a:ByteArray):KC Tryz.prog 138 [vS a] (O9 a) Om:=kC Tryz.func138 Tryz.ntmps138 [.tmp 2] fun co m L=>mJ co 1 (AI [0]) nl nH m L fun r g=>fun _ m L=>sq (mJ co 1 (AI [0,3]) nl nH m L fun r g=>fun _ m L=>bk 0 (lo (Az (Ztt co a) nH m L (fun _ m=>fO co m L))))
abbrev ao:Bool→AV:=fun y=>vB y
def Tc(a:ByteArray):PT 0 (Bool):=cl (zS a) fun b=>lr ao nG (decide (b<(0:Int)))
def JY(a:ByteArray):Option (Bool):=(Tc a).m
theorem jE(a:ByteArray):KC Tryz.prog 84 [vS a] (JY a) ao:=kC Tryz.func84 Tryz.ntmps84 [.tmp 2] fun co m L=>fO co m L
abbrev kE:Bool→AV:=fun y=>vB y
def wy(a:Int):PT 0 (Bool):=lr kE nG (decide ((1:Int)≤a)&&decide (a≤(9:Int)))
def Pb(a:Int):Option (Bool):=(wy a).m
theorem yj(a:Int):KC Tryz.prog 168 [vI a] (Pb a) kE:=kC Tryz.func168 Tryz.ntmps168 [.tmp 2] fun co m L=>fO co m L
abbrev jl:Bool→AV:=fun y=>vB y
def Xu(a:Val):PT 0 (Bool):=wg<|vz (Ag a.list)<|wg<|vy (decide ((a.list.length:Int)=(0:Int))) (Ag a.pairs)<|wg<|vy (decide ((a.list.length:Int)=(0:Int))&&decide ((a.pairs.length:Int)=(0:Int))) (Ag a.slots)<|wg<|vy ((decide ((a.list.length:Int)=(0:Int))&&decide ((a.pairs.length:Int)=(0:Int)))&&decide ((a.slots.length:Int)=(0:Int))) (Ag a.raws)<|lr jl nG (((decide ((a.list.length:Int)=(0:Int))&&decide ((a.pairs.length:Int)=(0:Int)))&&decide ((a.slots.length:Int)=(0:Int)))&&decide ((a.raws.length:Int)=(0:Int)))
def Ma(a:Val):Option (Bool):=(Xu a).m
theorem z8(a:Val):KC Tryz.prog 169 [.agg ((Ae a).map .d)] (Ma a) jl:=kC Tryz.func169 Tryz.ntmps169 [.tmp 2] fun co m L=>fO co m L
abbrev kf:Bool→AV:=fun y=>vB y
def XH(a:Int):PT 0 (Bool):=lr kf nG (decide (a=(7:Int))||decide (a=(8:Int)))
def L7(a:Int):Option (Bool):=(XH a).m
theorem yW(a:Int):KC Tryz.prog 170 [vI a] (L7 a) kf:=kC Tryz.func170 Tryz.ntmps170 [.tmp 2] fun co m L=>fO co m L
abbrev GI:Bool→AV:=fun y=>vB y
def QM(b:Int)(a:Val):PT 0 (Bool):=cl (yj b) fun c=>wg<|wg<|Aw (!((!c)||(!decide (a.kind=b)))) (z8 a) fun d=>br (((!c)||(!decide (a.kind=b)))||(!d)) (lr GI nG false) (cl (yW b) fun e=>br e (wg<|wg<|vy (decide (a.bits=(0:Int))) (AR a.text.size)<|wg<|Aw ((decide (a.bits=(0:Int))&&decide ((a.text.size:Int)≤(4096:Int)))&&(!(decide (b=(8:Int))))) (jE a.text) fun f=>lr GI nG ((decide (a.bits=(0:Int))&&decide ((a.text.size:Int)≤(4096:Int)))&&(decide (b=(8:Int))||f))) (wg<|br (!decide (a.text=(⟨#[]⟩:ByteArray))) (lr GI nG false) (br (decide (b=(1:Int))) (wg<|lr GI nG (decide (a.bits≤(1:Int)))) (br (decide (b=(2:Int))) (wg<|vz (wk .i64 a.bits)<|lr GI nG (decide (((-2147483648):Int)≤(IntKind.i64.wrap a.bits))&&decide ((IntKind.i64.wrap a.bits)≤(2147483647:Int)))) (br (decide (b=(4:Int))) (wg<|lr GI nG (decide (a.bits<(4294967296:Int)))) (br (decide (b=(9:Int))) (wg<|lr GI nG (decide (a.bits<(2147483648:Int)))) (lr GI nG true)))))))
def Hi(a:Int)(b:Val):Option (Bool):=(QM a b).m
theorem Tf(a:Int)(b:Val):KC Tryz.prog 129 [vI a,.agg ((Ae b).map .d)] (Hi a b) GI:=kC Tryz.func129 Tryz.ntmps129 [.tmp 4] fun co m L=>fO co m L
abbrev jf:Bool→AV:=fun y=>vB y
def uf(a:Val)(b:Val):PT 0 (Bool):=wg<|wg<|wg<|wg<|wg<|wg<|wg<|vy ((decide (a.kind=b.kind)&&decide (a.bits=b.bits))&&decide (a.text=b.text)) (Ag a.list)<|wg<|vy ((decide (a.kind=b.kind)&&decide (a.bits=b.bits))&&decide (a.text=b.text)) (Ag a.pairs)<|vg ((decide (a.kind=b.kind)&&decide (a.bits=b.bits))&&decide (a.text=b.text)) (wa a.list.length a.pairs.length)<|wg<|vy ((decide (a.kind=b.kind)&&decide (a.bits=b.bits))&&decide (a.text=b.text)) (Ag a.slots)<|vg ((decide (a.kind=b.kind)&&decide (a.bits=b.bits))&&decide (a.text=b.text)) (wa (a.list.length+a.pairs.length) a.slots.length)<|wg<|vy ((decide (a.kind=b.kind)&&decide (a.bits=b.bits))&&decide (a.text=b.text)) (Ag a.raws)<|vg ((decide (a.kind=b.kind)&&decide (a.bits=b.bits))&&decide (a.text=b.text)) (wa ((a.list.length+a.pairs.length)+a.slots.length) a.raws.length)<|wg<|vy ((decide (a.kind=b.kind)&&decide (a.bits=b.bits))&&decide (a.text=b.text)) (Ag b.list)<|vg ((decide (a.kind=b.kind)&&decide (a.bits=b.bits))&&decide (a.text=b.text)) (wa (((a.list.length+a.pairs.length)+a.slots.length)+a.raws.length) b.list.length)<|wg<|vy ((decide (a.kind=b.kind)&&decide (a.bits=b.bits))&&decide (a.text=b.text)) (Ag b.pairs)<|vg ((decide (a.kind=b.kind)&&decide (a.bits=b.bits))&&decide (a.text=b.text)) (wa ((((a.list.length+a.pairs.length)+a.slots.length)+a.raws.length)+b.list.length) b.pairs.length)<|wg<|vy ((decide (a.kind=b.kind)&&decide (a.bits=b.bits))&&decide (a.text=b.text)) (Ag b.slots)<|vg ((decide (a.kind=b.kind)&&decide (a.bits=b.bits))&&decide (a.text=b.text)) (wa (((((a.list.length+a.pairs.length)+a.slots.length)+a.raws.length)+b.list.length)+b.pairs.length) b.slots.length)<|wg<|vy ((decide (a.kind=b.kind)&&decide (a.bits=b.bits))&&decide (a.text=b.text)) (Ag b.raws)<|vg ((decide (a.kind=b.kind)&&decide (a.bits=b.bits))&&decide (a.text=b.text)) (wa ((((((a.list.length+a.pairs.length)+a.slots.length)+a.raws.length)+b.list.length)+b.pairs.length)+b.slots.length) b.raws.length)<|lr jf nG (((decide (a.kind=b.kind)&&decide (a.bits=b.bits))&&decide (a.text=b.text))&&decide (((((((((a.list.length+a.pairs.length)+a.slots.length)+a.raws.length)+b.list.length)+b.pairs.length)+b.slots.length)+b.raws.length:Nat):Int)=(0:Int)))
def UG(a:Val)(b:Val):Option (Bool):=(uf a b).m
theorem dP(a:Val)(b:Val):KC Tryz.prog 135 [.agg ((Ae a).map .d),.agg ((Ae b).map .d)] (UG a b) jf:=kC Tryz.func135 Tryz.ntmps135 [.tmp 4] fun co m L=>fO co m L
abbrev JV:Int→AV:=fun y=>vI y
def pY(a:Int):PT 0 (Int):=rem .u64 a 9223372036854775808<|br (decide ((9218868437227405312:Int)<(JP .u64 a 9223372036854775808))) (lr JV nG 0) (br (decide ((JP .u64 a 9223372036854775808)=(9218868437227405312:Int))) (lr JV nG 1) (br (decide ((JP .u64 a 9223372036854775808)=(0:Int))) (lr JV nG 2) (br (decide ((JP .u64 a 9223372036854775808)<(4503599627370496:Int))) (lr JV nG 3) (lr JV nG 4))))
def UQ(a:Int):Option (Int):=(pY a).m
theorem ZN6(a:Int):KC Tryz.prog 173 [.d (.int .u64 a)] (UQ a) JV:=kC Tryz.func173 Tryz.ntmps173 [.tmp 2] fun co m L=>fO co m L
abbrev Tq:Val→AV:=fun y=>.agg ((Ae y).map .d)
def pq(a:Val):PT 0 (Val):=wg<|wg<|Aw (decide (a.kind=(6:Int))) (ZN6 a.bits) fun b=>br (decide (a.kind=(6:Int))&&decide (b=(0:Int))) (wg<|wg<|wg<|lr Tq nG (.mk a.kind 9221120237041090560 a.text a.list a.pairs a.slots a.raws:Val)) (wg<|wg<|lr Tq nG a)
def UI(a:Val):Option (Val):=(pq a).m
theorem y7(a:Val):KC Tryz.prog 136 [.agg ((Ae a).map .d)] (UI a) Tq:=kC Tryz.func136 Tryz.ntmps136 [.cell 2 33] fun co m L=>fO co m L
abbrev TG(a:Scm):Ab×Blk:=kk 2 26 3 (cD (Ak a))
abbrev Uo(a:Fld):Ab×Blk:=kk 5 33 7 (cD (Ae a.dflt))
abbrev G1:Bool→AV:=fun y=>vB y
def eB(a:Scm)(b:Fld)(d:Int):Nat→St:=fun c=>Aa [pp 2,pp 5,(6,vI d),(7,vN c)] [(TG a),(Uo b)]
def gv:Unit→Nat×St:=fun _=>(0,Aa [] [])
def dM(b:Scm)(f:Fld)(c:Int)(a:Nat):PT 0 (Lv (Nat) (Unit) (Bool)):=wg<|CA b.enums c fun d=>vz (Ag d.items)<|br (decide ((a:Int)<(d.items.length:Int))) (wg<|CA b.enums c fun g=>ix g.items a fun e=>vz (wk .u64 e.num)<|wg<|br (decide ((IntKind.u64.wrap e.num)=f.dflt.bits)) (An G1 nG true) (vs (wa a 1)<|ln (eB b f c) (a+1))) (Ah (gv) ())
def Q7(a:Scm)(b:Fld)(d:Int):Nat→Option (Lv (Nat) (Unit) (Bool)):=fun c=>(dM a b d c).m
def i4:PT 0 (Bool):=lr G1 nG false
def iD(a:Scm)(b:Fld)(c:Int):PT 0 (Bool):=lc (Aa [pp 2,pp 5,(6,vI c),(7,vI 0)] [(TG a),(Uo b)]) ((Al (Q7 a b c) Ai 0).bind (Sum.elim (fun _=>(i4).m) some))
def eV(b:Scm)(a:Fld):PT 0 (Bool):=wg<|wg<|wg<|br (!a.hasDefault) (wg<|cl ((dP a.dflt (.mk 0 0 ⟨#[]⟩ ([]:List Val) ([]:List Pr) ([]:List Slt) ([]:List Raw):Val)).nrm (fun _ _ _ h=>.nrm h) (xs':=[.agg ((Ae a.dflt).map .d),.agg [vI 0,.d (.int .u64 0),vS ⟨#[]⟩,.e0,.e0,.e0,.e0]]) (by intro r;kernel_rfl)) fun e=>lr G1 nG e) (wg<|wg<|wg<|wg<|Aw (!((!decide (a.card=(2:Int)))||(!decide (a.union=(⟨#[]⟩:ByteArray))))) (Tf a.type.kind a.dflt) fun c=>wg<|wg<|Aw (!(((!decide (a.card=(2:Int)))||(!decide (a.union=(⟨#[]⟩:ByteArray))))||(!c))) (y7 a.dflt) fun f=>Aw (!(((!decide (a.card=(2:Int)))||(!decide (a.union=(⟨#[]⟩:ByteArray))))||(!c))) (dP a.dflt f) fun g=>br ((((!decide (a.card=(2:Int)))||(!decide (a.union=(⟨#[]⟩:ByteArray))))||(!c))||(!g)) (lr G1 nG false) (wg<|wg<|cl (eW b a.type.name) fun d=>wg<|br (!decide (a.type.kind=(9:Int))) (lr G1 nG true) (br (decide (d<(0:Int))) (lr G1 nG false) (lc (Aa [pp 2,pp 5,(6,vI d)] [(TG b),(Uo a)]) ((iD b a d).m)))))
def UW(a:Scm)(b:Fld):Option (Bool):=(eV a b).m
theorem uS{C:Cx}(co:CO C 0)(a:Scm)(b:Fld)(c:Int):KL Tryz.prog (Aq tl) 75 C (pa [0,0,1,0,1,1,1,1,1,1,1] (Ar Tryz.f81)) [.tmp 4] 0 (eB a b c) (gv) G1 nG (Q7 a b c):=fun e _ m Q Post d L=>eN co (Ad [2,5,6,7] I1) nl d m L
theorem ZQL(a:Scm)(b:Fld):KC Tryz.prog 81 [.agg ((Ak a).map .d),.agg ((Am b).map .d)] (UW a b) G1:=kC Tryz.func81 Tryz.ntmps81 [.tmp 4] fun co m L=>mJ co 7 (Ad [2,5,6] I1) nl nH m L fun r g=>⟨fun d=>id,fun e=>fun f=>fun h=>⟨id,fun c=>⟨id,⟨id,fun _ m L=>sq (mJ co 1 (Ad [2,5,6,7] I1) nl nH m L fun r g=>fun _ m L=>bk 0 (lo (Az (uS co a b c) nH m L (fun _ m=>fO co m L))))⟩⟩⟩⟩
abbrev uk:ByteArray:=⟨#[115,105,110,99,101]⟩
abbrev ul:ByteArray:=⟨#[109,105,110]⟩
abbrev lb3:ByteArray:=⟨#[109,97,120]⟩
abbrev um:ByteArray:=⟨#[117,110,116,105,108]⟩
abbrev uo:ByteArray:=⟨#[108,101,110,103,116,104]⟩
abbrev lb6:ByteArray:=⟨#[116,105,109,101,111,117,116]⟩
abbrev uq:ByteArray:=⟨#[97,108,105,97,115]⟩
abbrev ur:ByteArray:=⟨#[114,111,117,116,101]⟩
abbrev Df:Int→AV:=fun y=>vI y
def Mf(a:ByteArray):PT 0 (Int):=br (decide (a=ul)) (br (decide (a=ul)) (lr Df nG 3) (lr Df nG 0)) (br (decide (a=lb3)) (lr Df nG 3) (lr Df nG 0))
def Mq(a:ByteArray):PT 0 (Int):=br (decide (a=uk)) (br (decide (a=uk)) (lr Df nG 4) (Mf a)) (br (decide (a=um)) (br (decide (a=um)) (lr Df nG 4) (Mf a)) (br (decide (a=uo)) (br (decide (a=uo)) (lr Df nG 4) (Mf a)) (br (decide (a=lb6)) (lr Df nG 4) (Mf a))))
def PG(a:ByteArray):PT 0 (Int):=br (decide (a=(⟨#[100,111,99]⟩:ByteArray))) (br (decide (a=(⟨#[100,111,99]⟩:ByteArray))) (lr Df nG 7) (Mq a)) (br (decide (a=uq)) (br (decide (a=uq)) (lr Df nG 7) (Mq a)) (br (decide (a=ur)) (br (decide (a=ur)) (lr Df nG 7) (Mq a)) (br (decide (a=(⟨#[111,119,110,101,114]⟩:ByteArray))) (lr Df nG 7) (Mq a))))
def rD(a:ByteArray):PT 0 (Int):=br (decide (a=(⟨#[100,101,112,114,101,99,97,116,101,100]⟩:ByteArray))) (br (decide (a=(⟨#[100,101,112,114,101,99,97,116,101,100]⟩:ByteArray))) (lr Df nG 1) (PG a)) (br (decide (a=(⟨#[115,101,99,114,101,116]⟩:ByteArray))) (br (decide (a=(⟨#[115,101,99,114,101,116]⟩:ByteArray))) (lr Df nG 1) (PG a)) (br (decide (a=(⟨#[105,100,101,109,112,111,116,101,110,116]⟩:ByteArray))) (lr Df nG 1) (PG a)))
def U1(a:ByteArray):Option (Int):=(rD a).m
theorem fC(a:ByteArray):KC Tryz.prog 174 [vS a] (U1 a) Df:=kC Tryz.func174 Tryz.ntmps174 [.tmp 2] fun co m L=>fO co m L
abbrev ut:ByteArray:=⟨#[109,105,110]⟩
abbrev lb:ByteArray:=⟨#[105,100,101,109,112,111,116,101,110,116]⟩
abbrev kr:ByteArray:=⟨#[116,105,109,101,111,117,116]⟩
abbrev ZQU:ByteArray:=⟨#[114,111,117,116,101]⟩
abbrev jv:ByteArray:=⟨#[109,97,120]⟩
abbrev lg:ByteArray:=⟨#[108,101,110,103,116,104]⟩
abbrev ZRf:ByteArray:=⟨#[115,101,99,114,101,116]⟩
abbrev GD:Bool→AV:=fun y=>vB y
def Pf(a:Int):PT 0 (Bool):=lr GD nG (decide (a=(1:Int))||decide (a=(5:Int)))
def Mh(b:ByteArray)(a:Int):PT 0 (Bool):=br (decide (b=lb)) (br (decide (b=lb)) (lr GD nG (decide (a=(6:Int)))) (Pf a)) (br (decide (b=kr)) (br (decide (b=kr)) (lr GD nG (decide (a=(6:Int)))) (Pf a)) (br (decide (b=ZQU)) (lr GD nG (decide (a=(6:Int)))) (Pf a)))
def Me(a:Int):PT 0 (Bool):=lr GD nG (decide (a=(2:Int)))
def PF(a:ByteArray)(b:Int):PT 0 (Bool):=br (decide (a=ut)) (br (decide (a=ut)) (Me b) (Mh a b)) (br (decide (a=jv)) (br (decide (a=jv)) (Me b) (Mh a b)) (br (decide (a=lg)) (br (decide (a=lg)) (Me b) (Mh a b)) (br (decide (a=ZRf)) (Me b) (Mh a b))))
def Pp(a:Int):PT 0 (Bool):=lr GD nG ((decide (a=(2:Int))||decide (a=(4:Int)))||decide (a=(6:Int)))
def Wh(a:ByteArray)(b:Int):PT 0 (Bool):=br (decide (a=(⟨#[97,108,105,97,115]⟩:ByteArray))) (br (decide (a=(⟨#[97,108,105,97,115]⟩:ByteArray))) (Pp b) (PF a b)) (br (decide (a=(⟨#[115,105,110,99,101]⟩:ByteArray))) (br (decide (a=(⟨#[115,105,110,99,101]⟩:ByteArray))) (Pp b) (PF a b)) (br (decide (a=(⟨#[117,110,116,105,108]⟩:ByteArray))) (Pp b) (PF a b)))
def pA(b:ByteArray)(a:Int):PT 0 (Bool):=br (decide (b=(⟨#[100,101,112,114,101,99,97,116,101,100]⟩:ByteArray))) (br (decide (b=(⟨#[100,101,112,114,101,99,97,116,101,100]⟩:ByteArray))) (lr GD nG (decide ((1:Int)≤a)&&decide (a≤(6:Int)))) (Wh b a)) (br (decide (b=(⟨#[100,111,99]⟩:ByteArray))) (lr GD nG (decide ((1:Int)≤a)&&decide (a≤(6:Int)))) (Wh b a))
def UX(a:ByteArray)(b:Int):Option (Bool):=(pA a b).m
theorem yi(a:ByteArray)(b:Int):KC Tryz.prog 175 [vS a,vI b] (UX a b) GD:=kC Tryz.func175 Tryz.ntmps175 [.tmp 4] fun co m L=>fO co m L
abbrev kh:Bool→AV:=fun y=>vB y
def q7(b:Nt):PT 0 (Bool):=wg<|cl (fC b.name) fun a=>wg<|wg<|Aw ((!decide (a=(0:Int)))&&decide (b.val.kind=a)) (Tf a b.val) fun c=>lr kh nG (((!decide (a=(0:Int)))&&decide (b.val.kind=a))&&c)
def UP(a:Nt):Option (Bool):=(q7 a).m
theorem yG(a:Nt):KC Tryz.prog 176 [.agg ((BJ a).map .d)] (UP a) kh:=kC Tryz.func176 Tryz.ntmps176 [.tmp 2] fun co m L=>fO co m L
abbrev GB:Int→AV:=fun y=>vI y
def sM(a:List Nt)(b:Int):Nat→St:=fun c=>Aa [(0,vL BJ a),(1,vI b),(5,vN c)] []
def sY:Unit→Nat×St:=fun _=>(0,Aa [] [])
def pj(b:List Nt)(e:Int)(a:Nat):PT 0 (Lv (Nat) (Unit) (Int)):=vz (Ag b)<|br (decide ((a:Int)<(b.length:Int))) (ix b a fun f=>cl (fC f.name) fun k=>br (decide (k=(0:Int))) (An GB nG 8) (ix b a fun g=>cl (yi g.name e) fun l=>br (!l) (An GB nG 1) (ix b a fun h=>cl (yG h) fun m=>br (!m) (An GB nG 12) (A8 (decide ((0:Int)<(a:Int))) b (a:Int) fun i=>vg (decide ((0:Int)<(a:Int))) (wi ((a:Int)-1))<|A8 (decide ((0:Int)<(a:Int))) b ((a:Int)-1) fun j=>br (decide ((0:Int)<(a:Int))&&BL i.name j.name) (An GB nG 11) (A8 (decide ((0:Int)<(a:Int))) b (a:Int) fun c=>vg (decide ((0:Int)<(a:Int))) (wi ((a:Int)-1))<|A8 (decide ((0:Int)<(a:Int))) b ((a:Int)-1) fun d=>br (decide ((0:Int)<(a:Int))&&decide (c.name=d.name)) (An GB nG 9) (vs (wa a 1)<|ln (sM b e) (a+1))))))) (Ah (sY) ())
def Qh(a:List Nt)(b:Int):Nat→Option (Lv (Nat) (Unit) (Int)):=fun c=>(pj a b c).m
def qW:PT 0 (Int):=lr GB nG 0
def s3(a:List Nt)(b:Int):PT 0 (Int):=lc (Aa [(0,vL BJ a),(1,vI b),(5,vI 0)] []) ((Al (Qh a b) Ai 0).bind (Sum.elim (fun _=>(qW).m) some))
def sx(a:List Nt)(b:Int):PT 0 (Int):=vz (Ag a)<|br (decide ((8:Int)<(a.length:Int))) (lr GB nG 3) (lc (Aa [(0,vL BJ a),(1,vI b)] []) ((s3 a b).m))
def UU(a:List Nt)(b:Int):Option (Int):=(sx a b).m
theorem Zs7{C:Cx}(co:CO C 0)(a:List Nt)(b:Int):KL Tryz.prog (Aq tl) 68 C (pa [0,0,1,0,1,1] (Ar Tryz.f137)) [.tmp 4] 0 (sM a b) (sY) GB nG (Qh a b):=fun d _ m Q Post c L=>eN co (AI [0,1,5]) nl c m L
theorem y9(a:List Nt)(b:Int):KC Tryz.prog 137 [vL BJ a,vI b] (UU a b) GB:=kC Tryz.func137 Tryz.ntmps137 [.tmp 4] fun co m L=>mJ co 2 (AI [0,1]) nl nH m L fun r g=>⟨id,fun _ m L=>sq (mJ co 1 (AI [0,1,5]) nl nH m L fun r g=>fun _ m L=>bk 0 (lo (Az (Zs7 co a b) nH m L (fun _ m=>fO co m L))))⟩
abbrev am:List Prb→AV:=fun y=>.tup []
@[reducible] def aE(a:ByteArray):List Prb→List Blk:=fun y=>[⟨0,true,74,2,[vS a,.ref (0,1) 0 0 y.length]⟩,⟨0,true,124,3,Ac Af y⟩]
def SN(a:ByteArray)(b:List Prb):PT 2 (List Prb):=lr am (aE a) b
def gM(a:ByteArray)(b:List Prb):PT 2 (List Prb):=vz (fl b)<|lc (Aa [] [((0,0),⟨0,true,74,2,[vS a,.ref (0,1) 0 0 b.length]⟩),((0,1),⟨0,true,124,3,Ac Af b⟩)]) ((SN a b).m)
def gV(a:ByteArray)(b:List Prb)(d:Int)(c:Int):PT 2 (List Prb):=vz (fl b)<|lc (Aa [(12,.ptr (0,0) 0 0),(14,vB (!decide (c=(0:Int)))),(15,vI d),(16,vI c)] [((0,0),⟨0,true,74,2,[vS a,.ref (0,1) 0 0 b.length]⟩),((0,1),⟨0,true,124,3,Ac Af b⟩)]) ((Be a b (!decide (c=(0:Int))) d c).bind fun e=>(gM a e).m)
def bD(a:ByteArray)(b:List Prb)(e:List Nt)(f:Int)(c:Int):PT 2 (List Prb):=cl (y9 e f) fun d=>vz (fl b)<|lc (Aa [(0,.ptr (0,0) 0 0),(3,vI c),(8,vI d)] [((0,0),⟨0,true,74,2,[vS a,.ref (0,1) 0 0 b.length]⟩),((0,1),⟨0,true,124,3,Ac Af b⟩)]) ((gV a b c d).m)
def F5(a:ByteArray)(b:List Prb)(c:List Nt)(d:Int)(e:Int):Option (List Prb):=(bD a b c d e).m
theorem JU(a:ByteArray)(b:List Prb)(d:List Nt)(e:Int)(c:Int):KG Tryz.prog 82 2 [1] [(1,0)] [.ptr (0,0) 0 0,vL BJ d,vI e,vI c] [⟨0,true,74,2,[vS a,.ref (0,1) 0 0 b.length]⟩,⟨0,true,124,3,Ac Af b⟩] (F5 a b d e c) am (aE a):=ZM Tryz.func82 Tryz.ntmps82 AG [] 2 [1] [0] [(1,0)] (fun C co h y m Post L=>mJ co 1 (Ad [0,3,8] Ec) nl nH m L fun r g=>fun f=>fun _ m L=>rg (pR co 5 (Ad [12,14,15,16] Ec) m L fun r g=>fun _ m L=>A7 co m (Br a b (!decide (f=(0:Int))) c f) [((0,0),⟨0,true,74,2,[vS a,.ref (0,1) 0 0 b.length]⟩),((0,1),⟨0,true,124,3,Ac Af b⟩)] [] (fun z=>.tup []) (fun z=>[((0,0),⟨0,true,74,2,[vS a,.ref (0,1) 0 0 z.length]⟩),((0,1),⟨0,true,124,3,Ac Af z⟩)]) [] fun i m=>eR co (Ad [] Ec) m L fun r g=>fun _ m L=>EJ (SN a i) co m L (fun r g=>id) r g))
abbrev ON(a:ByteArray)(b:List Prb):Ab×Blk:=((0,0),⟨0,true,74,2,[vS a,.ref (0,1) 0 0 b.length]⟩)
abbrev R3:List Prb→AV:=fun y=>.tup []
@[reducible] def Sc(a:ByteArray):List Prb→List Blk:=fun y=>[⟨0,true,74,2,[vS a,.ref (0,1) 0 0 y.length]⟩,⟨0,true,124,3,Ac Af y⟩]
def bR(a:ByteArray)(c:List Spn)(d:Int)(e:Int):Nat×List Prb→St:=fun(f,b)=>Aa [(0,.ptr (0,0) 0 0),(1,vL B7 c),(2,vI d),(3,vI e),(8,vN f)] [(ON a b),((0,1),⟨0,true,124,3,Ac Af b⟩)]
def fS(a:ByteArray):List Prb→Nat×St:=fun b=>(0,Aa [] [((0,0),⟨0,true,74,2,[vS a,.ref (0,1) 0 0 b.length]⟩),((0,1),⟨0,true,124,3,Ac Af b⟩)])
def cW(a:ByteArray)(d:List Spn)(e:Int)(f:Int)(c:Nat)(b:List Prb):PT 2 (Lv (Nat×List Prb) (List Prb) (List Prb)):=vs (wa c 1)<|vz (fl b)<|ln (bR a d e f) (c+1,b)
def g9(a:ByteArray)(c:List Spn)(d:Int)(e:Int)(f:Nat)(b:List Prb):PT 2 (Lv (Nat×List Prb) (List Prb) (List Prb)):=vz (fl b)<|lc (Aa [(0,.ptr (0,0) 0 0),(1,vL B7 c),(2,vI d),(3,vI e),(8,vN f)] [((0,0),⟨0,true,74,2,[vS a,.ref (0,1) 0 0 b.length]⟩),((0,1),⟨0,true,124,3,Ac Af b⟩)]) ((cW a c d e f b).m)
def SY(a:ByteArray)(c:List Spn)(h:Int)(i:Int)(b:Nat)(d:List Prb):PT 2 (Lv (Nat×List Prb) (List Prb) (List Prb)):=A8 (decide ((0:Int)<(b:Int))) c (b:Int) fun f=>vg (decide ((0:Int)<(b:Int))) (wi ((b:Int)-1))<|A8 (decide ((0:Int)<(b:Int))) c ((b:Int)-1) fun g=>vz (fl d)<|lc (Aa [(0,.ptr (0,0) 0 0),(1,vL B7 c),(2,vI h),(3,vI i),(8,vN b),(46,.ptr (0,0) 0 0),(62,vB (decide ((0:Int)<(b:Int))&&decide (f.lo≤g.hi)))] [((0,0),⟨0,true,74,2,[vS a,.ref (0,1) 0 0 d.length]⟩),((0,1),⟨0,true,124,3,Ac Af d⟩)]) ((Be a d (decide ((0:Int)<(b:Int))&&decide (f.lo≤g.hi)) (-1) 11).bind fun e=>(g9 a c h i b e).m)
def eC(a:ByteArray)(c:List Spn)(d:Int)(e:Int)(f:Nat)(b:List Prb):PT 2 (Lv (Nat×List Prb) (List Prb) (List Prb)):=vz (fl b)<|lc (Aa [(0,.ptr (0,0) 0 0),(1,vL B7 c),(2,vI d),(3,vI e),(8,vN f)] [((0,0),⟨0,true,74,2,[vS a,.ref (0,1) 0 0 b.length]⟩),((0,1),⟨0,true,124,3,Ac Af b⟩)]) ((SY a c d e f b).m)
def Zl(a:ByteArray)(c:List Spn)(b:Int)(d:Int)(e:Nat)(h:List Prb):PT 2 (Lv (Nat×List Prb) (List Prb) (List Prb)):=ix c e fun f=>A8 (!(decide (f.lo<b))) c (e:Int) fun g=>A8 (!(decide (f.lo<b)||decide (d<g.hi))) c (e:Int) fun i=>A8 (!(decide (f.lo<b)||decide (d<g.hi))) c (e:Int) fun j=>vz (fl h)<|lc (Aa [(0,.ptr (0,0) 0 0),(1,vL B7 c),(2,vI b),(3,vI d),(8,vN e),(15,.ptr (0,0) 0 0),(44,vB ((decide (f.lo<b)||decide (d<g.hi))||decide (j.hi<i.lo)))] [(ON a h),((0,1),⟨0,true,124,3,Ac Af h⟩)]) ((Be a h ((decide (f.lo<b)||decide (d<g.hi))||decide (j.hi<i.lo)) (-1) 6).bind fun k=>(eC a c b d e k).m)
def iK(a:ByteArray)(c:List Spn)(e:Int)(f:Int)(d:Nat)(b:List Prb):PT 2 (Lv (Nat×List Prb) (List Prb) (List Prb)):=vz (Ag c)<|br (decide ((d:Int)<(c.length:Int))) (vz (fl b)<|lc (Aa [(0,.ptr (0,0) 0 0),(1,vL B7 c),(2,vI e),(3,vI f),(8,vN d)] [(ON a b),((0,1),⟨0,true,124,3,Ac Af b⟩)]) ((Zl a c e f d b).m)) (vz (fl b)<|Ah (fS a) b)
def QW(a:ByteArray)(b:List Spn)(c:Int)(d:Int):Nat×List Prb→Option (Lv (Nat×List Prb) (List Prb) (List Prb)):=fun(f,e)=>(iK a b c d f e).m
def Zb(a:ByteArray)(b:List Prb):PT 2 (List Prb):=lr R3 (Sc a) b
def gS(a:ByteArray)(b:List Prb)(d:List Spn)(e:Int)(f:Int):PT 2 (List Prb):=vz (fl b)<|lc (Aa [(0,.ptr (0,0) 0 0),(1,vL B7 d),(2,vI e),(3,vI f),(8,vI 0)] [((0,0),⟨0,true,74,2,[vS a,.ref (0,1) 0 0 b.length]⟩),((0,1),⟨0,true,124,3,Ac Af b⟩)]) ((Al (QW a d e f) Ai (0,b)).bind (Sum.elim (fun c=>(Zb a c).m) some))
def L4(a:ByteArray)(b:List Prb)(c:List Spn)(d:Int)(e:Int):Option (List Prb):=(gS a b c d e).m
theorem vh{C:Cx}(co:COx C 2 [0])(q:G2 C.κ [(1,0)])(a:ByteArray)(d:List Spn)(b:Int)(c:Int):KL Tryz.prog (Aq tl) 64 C (pa [0,0,1] (Ar Tryz.f83)) [] 2 (bR a d b c) (fS a) R3 (Sc a) (QW a d b c):=fun(h,e) _ m Q Post i L=>mJ co 1 (Ad [0,1,2,3,8] Ec) (Ad [] Ec) i m L fun r g=>⟨fun _ m L=>sq (bk 1 (sq (Ea co AG BM 30 (Zl a d b c h e) (Ad [0,1,2,3,8,15,44] Ec) m L fun r g=>fun j=>fun k=>fun l=>fun n=>fun _ m L=>A7 co m (Br a e ((decide (j.lo<b)||decide (c<k.hi))||decide (n.hi<l.lo)) (-1) 6) [(ON a e),((0,1),⟨0,true,124,3,Ac Af e⟩)] [] (fun z=>.tup []) (fun z=>[((0,0),⟨0,true,74,2,[vS a,.ref (0,1) 0 0 z.length]⟩),((0,1),⟨0,true,124,3,Ac Af z⟩)]) [] fun f m=>eR co (Ad [0,1,2,3,8] Ec) m L fun r g=>fun _ m L=>Ea co AG BM 17 (SY a d b c h f) (Ad [0,1,2,3,8,46,62] Ec) m L fun r g=>fun o=>fun p=>fun _ m L=>A7 co m (Br a f (decide ((0:Int)<(h:Int))&&decide (o.lo≤p.hi)) (-1) 11) [((0,0),⟨0,true,74,2,[vS a,.ref (0,1) 0 0 f.length]⟩),((0,1),⟨0,true,124,3,Ac Af f⟩)] [] (fun z=>.tup []) (fun z=>[((0,0),⟨0,true,74,2,[vS a,.ref (0,1) 0 0 z.length]⟩),((0,1),⟨0,true,124,3,Ac Af z⟩)]) [] fun s m=>eR co (Ad [0,1,2,3,8] Ec) m L fun r g=>fun _ m L=>eN co (Ad [0,1,2,3,8] Ec) nl i m L))),id⟩
theorem ku(a:ByteArray)(b:List Prb)(d:List Spn)(e:Int)(f:Int):KG Tryz.prog 83 2 [1] [(1,0)] [.ptr (0,0) 0 0,vL B7 d,vI e,vI f] [⟨0,true,74,2,[vS a,.ref (0,1) 0 0 b.length]⟩,⟨0,true,124,3,Ac Af b⟩] (L4 a b d e f) R3 (Sc a):=ZM Tryz.func83 Tryz.ntmps83 AG [] 2 [1] [0] [(1,0)] (fun C co c y m Post L=>mJ co 1 (Ad [0,1,2,3,8] Ec) nl nH m L fun r g=>fun _ m L=>bk 0 (lo (Az (vh co c a d e f) nH m L (fun h m=>EJ (Zb a h) co m L (fun r g=>id) r g))))
end Go.Proofs.YtopncadjpnkjhaaGreatDoor
