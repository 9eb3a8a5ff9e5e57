import Derived.Test.YthcplkfhnnlafaaGreatZm12
import Derived.Test.YthcplkfhnnlafaaGreatZm13
import Derived.Test.YthcplkfhnnlafaaGreatZm00
namespace Go.Proofs.YthcplkfhnnlafaaGreat
set_option maxRecDepth 100000
set_option linter.all false
open Go Go.Eng
section
variable {n os:Nat} {C:Cx} {τ:St} {Q:Exit->St->Prop} {p:List Nat} {b c:Code} {β:Type} {Post:AV->List Blk->Prop} {rs:List ResultVar} {L:β->Prop} {y:β}
theorem mJ{fx:List Nat}(co:COx C os fx)(m:Nat){v:PT os β}(lf a:Lf)(d:∀τ,FQ (At tl) rs os Post .ret τ->Q .ret τ)(i:v.m=some y)(c:HL L y)
 (f:∀r (g:Gd C r),v.n ⟨⟨C.l,r,λe τ'=>match e with|.normal=>LW Tryz.prog n C (pa (up m p) b) τ' Q|e=>Q e τ',Post⟩,L,C,_,co,g,rfl⟩)
 (h:∀l r Q Post,Qg Tryz.prog (At tl) l n os r m (pa p b) v.a τ (KB (At tl) rs os fx r Post lf a Q)=v.q ⟨l,r,Q,Post⟩:=by intro l r Q P;kernel_rfl) (hl:S3 m (pa p b)=true:=by kernel_rfl):LW Tryz.prog n C (pa p b) τ Q:=uO co AJ BS m v lf a d i c f h hl
theorem eN{fx:List Nat}(co:COx C os fx){v:PT os β}(lf a:Lf)(e:∀τ,FQ (At tl) rs os Post .ret τ->Q .ret τ)(h:v.m=some y)(d:HL L y)
 (f:∀r (g:Gd C r),v.n ⟨⟨C.l,r,Q,Post⟩,L,C,_,co,g,rfl⟩:=by
  intro r g
  repeat' (first|exact id|exact trivial|refine⟨?_,?_⟩|intro _|(rename_i b h;subst h;cases b<;>rfl))) (i:∀l r Q Post,C7 Tryz.prog (At tl) l n os r c v.a τ (KB (At tl) rs os fx r Post lf a Q)=v.q ⟨l,r,Q,Post⟩:=by intro l r Q P;kernel_rfl):LW Tryz.prog n C c τ Q:=ZS5 co AJ BS v lf a e h d f i
theorem fO {fx:List Nat} (co:COx C os fx) {v:PT os β} (h:v.m=some y) (a:HL L y) (d:∀r (g:Gd C r),v.n ⟨⟨C.l,r,λ_ _=>False,Post⟩,L,C,_,co,g,rfl⟩:=by
  intro r g
  repeat' (first|exact id|exact trivial|refine⟨?_,?_⟩|intro _|(rename_i b h;subst h;cases b<;>rfl)))
 (e:∀l r Q Post,C7 Tryz.prog (At tl) l n os r c v.a τ (KF (At tl) rs os Post)=v.q ⟨l,r,Q,Post⟩:=by intro l r Q P;kernel_rfl):LW Tryz.prog n C c τ (FQ (At tl) rs os Post):=ZUl co AJ BS v h a d e
theorem pR{k:Nat}{fx:List Nat}(co:COx C os fx)(m:Nat){v:PT os β}(lf:Lf)(h:v.m=some y)(d:HL L y)(e:∀r (g:Gd C r),v.n ⟨⟨C.l,r,λ_ τ'=>LO Tryz.prog n C c (k+m) τ' Q,λ_ _=>False⟩,L,C,_,co,g,rfl⟩)
 (f:∀l r Q Post,Bg r os v.a τ (λτ a=>GS Tryz.prog (At tl) l n r ((Cf c).toList.map (·.dst)) (Jd m (Ia k (Cf c).toList)) [] a (λτ' env b=>Bg r os b (Eh env τ') (λτ _=>EO fx lf τ (Q .normal))) τ)=v.q ⟨l,r,Q,Post⟩:=by intro l r Q P;kernel_rfl):LO Tryz.prog n C c k τ Q:=ZS3 co AJ m v lf h d e f
theorem eR {k:Nat} {fx:List Nat} (co:COx C os fx) {v:PT os β} (lf:Lf) (j:v.m=some y) (e:HL L y) (f:∀r (g:Gd C r),v.n ⟨⟨C.l,r,Q,λ_ _=>False⟩,L,C,_,co,g,rfl⟩:=by
  intro r g
  repeat' (first|exact id|exact trivial|refine⟨?_,?_⟩|intro _|(rename_i b h;subst h;cases b<;>rfl)))
 (i:∀l r Q Post,Bg r os v.a τ (λτ a=>GS Tryz.prog (At tl) l n r ((Cf c).toList.map (·.dst)) (Ia k (Cf c).toList) [] a (λτ' env d=>Bg r os d (Eh env τ') (λτ _=>EO fx lf τ (Q .normal))) τ)=v.q ⟨l,r,Q,Post⟩:=by intro l r Q P;kernel_rfl):LO Tryz.prog n C c k τ Q:=ZTr co AJ v lf j e f i
theorem cM{fx:List Nat}(co:COx C os fx){v:PT os β}(lf:Lf)(e:v.m=some y)(a:HL L y)(b:∀r (g:Gd C r),v.n ⟨⟨C.l,r,λ_ τ'=>LW Tryz.prog n C c τ' Q,λ_ _=>False⟩,L,C,_,co,g,rfl⟩)
 (d:∀l r Q Post,Bg r os v.a τ (λτ _=>EO fx lf τ (Q .normal))=v.q ⟨l,r,Q,Post⟩:=by intro l r Q P;kernel_rfl):LW Tryz.prog n C c τ Q:=ZUp co v lf e a b d
theorem kC{f:FuncId}{fn:Func}{xs:List AV}{γ:Type}{M:Option γ}{e:γ->AV}(c:Tryz.prog.funcs[f]?=some fn)(d:fn.ntmps=n)(rs:List ResultVar)
  (h:∀{C:Cx} {y:γ} {Post:AV->List Blk->Prop},CO C 0->M=some y->HL (λy=>Post (e y) []) y->LW Tryz.prog n C (pa [] (Au fn)) (Ac (D7 0 xs) []) (FQ (At tl) rs 0 Post))
  (hx:∀r,Aq r xs=xs:=by intro r;kernel_rfl) (he:∀r y,ren r (e y)=e y:=by intro r y;kernel_rfl)
  (b:fn.body=some (Au fn):=by kernel_rfl) (a:(fn.name== "runtime.NumGoroutine")=false:=by kernel_rfl) (g:fn.results.toList=rs:=by kernel_rfl) (hl:Nat.ble xs.length n=true:=by kernel_rfl):KC Tryz.prog f xs M e:=Cp c d AJ rs (λC co y m Post L=>h co m L) hx he b a g hl
theorem kO{f:FuncId}{fn:Func}{ys:List AV}{c:List Blk}{Θ:Cl}{γ:Type}{M:Option γ}{e:γ->AV}{b:γ->List Blk}(k:Tryz.prog.funcs[f]?=some fn)(l:fn.ntmps=n)(rs:List ResultVar)(os:Nat)
  (h:∀{C:Cx} {y:γ} {Post:AV->List Blk->Prop},CO C os->Θ C.no C.l C.H0 C.θ->M=some y->HL (λy=>Post (e y) (b y)) y->LW Tryz.prog n C (pa [] (Au fn)) (Ac (D7 0 ys) (DY 0 c)) (FQ (At tl) rs os Post))
  (he:∀y,Lp os (e y)=true:=by intro y;kernel_rfl) (g:∀y,GV os (b y):=by intro y;repeat(first|exact trivial|refine⟨.inl (FI _ _),rfl,?_⟩|refine⟨.inl K7,rfl,?_⟩|refine⟨.inr aC,rfl,?_⟩)) (hl:∀y,(b y).length=os:=by intro y;rfl) (d:JD os (DY 0 c)=true:=by kernel_rfl)
  (j:fn.body=some (Au fn):=by kernel_rfl) (a:(fn.name== "runtime.NumGoroutine")=false:=by kernel_rfl) (o:fn.results.toList=rs:=by kernel_rfl) (hx:Nat.ble ys.length n=true:=by kernel_rfl):KO Tryz.prog f os ys c Θ M e b:=C2 k l AJ rs os (λC co i y m Post L=>h co i m L) he g hl d j a o hx
theorem Bj{P:Program}{x:Bool}{a m2:Option β}(hm:(if x=true then a else m2)=some y)(c:a=some y->LW P n C (pa (0::p) b) τ Q)(d:m2=some y->LW P n C (pa (1::p) b) τ Q)(hs:qa (pa p b)=true:=by kernel_rfl)(he:ev τ.s (nD (pa p b))=.d (.bool x):=by kernel_rfl):LW P n C (pa p b) τ Q:=cd x hm c d hs he
end
theorem bz{r b:Ren}{k k':Ad}{g a:Nat}{e:TypeId}{sz:Nat}{α:Type}{en:α->List D}{xs:List α}(h:r.γ k+g=b.γ k'+a:=by kernel_rfl):AP r k ⟨g,true,e,sz,Ab en xs⟩=AP b k' ⟨a,true,e,sz,Ab en xs⟩:=Hg (FI _ _) h
class Tid (α:Type) where
 t:Nat
instance:Tid Slt:=⟨57⟩
instance:Tid Raw:=⟨94⟩
instance:Tid Pr:=⟨92⟩
abbrev Ln:List (Ad×Bool):=[((1,2),false),((1,5),true)]
abbrev Fu:List (Ad×Bool):=[((1,2),false)]
abbrev Dd(a:Scm):Ad×Blk:=kk 2 26 3 (cD (Al a))
abbrev Pt:List ByteArray->AV:=λy=>vL Bu y
def qF(b:Scm)(c:Int):List ByteArray×Nat->St:=λ(a,v2)=>Ac [(1,vI c),pp 2,(5,.ref (1,5) 0 0 a.length),(6,vN v2)] [(Dd b),kk 5 9 1 (Ab Bu a)]
def qe(b:Scm)(c:Int):List ByteArray->Nat×St:=λa=>(0,Ac [(1,vI c),pp 2,(5,.ref (1,5) 0 0 a.length)] [(Dd b),kk 5 9 1 (Ab Bu a)])
def Zp(a:Scm)(c:Int):List ByteArray×Nat->Option (Lv (List ByteArray×Nat) (List ByteArray) (List ByteArray)):=λ(b,v2)=>(wg<|vy (decide (c=(1:Int))) (Ah a.messages)<|br (decide (c=(1:Int))&&decide ((v2:Int)<(a.messages.length:Int))) (wg<|ix a.messages v2 λd=>vw .sep<|ap b (d.name:ByteArray)<|vs (wa v2 1)<|vz (fl (b++[d.name]))<|ln (qF a c) (b++[d.name],v2+1)) (vz (fl b)<|Af (qe a c) b):PT 0 _).m
def rE(b:Scm)(c:Int):List ByteArray×Nat->St:=λ(a,d)=>Ac [(1,vI c),pp 2,(5,.ref (1,5) 0 0 a.length),(7,vN d)] [(Dd b),kk 5 9 1 (Ab Bu a)]
def o1(b:Scm)(c:Int):List ByteArray->Nat×St:=λa=>(2,Ac [(1,vI c),pp 2,(5,.ref (1,5) 0 0 a.length)] [(Dd b),kk 5 9 1 (Ab Bu a)])
def Zc(a:Scm)(c:Int):List ByteArray×Nat->Option (Lv (List ByteArray×Nat) (List ByteArray) (List ByteArray)):=λ(b,d)=>(wg<|vy (decide (c=(2:Int))) (Ah a.enums)<|br (decide (c=(2:Int))&&decide ((d:Int)<(a.enums.length:Int))) (wg<|ix a.enums d λe=>vw .sep<|ap b (e.name:ByteArray)<|vs (wa d 1)<|vz (fl (b++[e.name]))<|ln (rE a c) (b++[e.name],d+1)) (vz (fl b)<|Af (o1 a c) b):PT 0 _).m
def oL(c:Scm)(d:Int):List ByteArray×Nat->St:=λ(b,a)=>Ac [(1,vI d),pp 2,(5,.ref (1,5) 0 0 b.length),(8,vN a)] [(Dd c),kk 5 9 1 (Ab Bu b)]
def pH:List ByteArray->Nat×St:=λa=>(4,Ac [(5,.ref (1,5) 0 0 a.length)] [kk 5 9 1 (Ab Bu a)])
def Zj(d:Scm)(e:Int):List ByteArray×Nat->Option (Lv (List ByteArray×Nat) (List ByteArray) (List ByteArray)):=λ(c,a)=>(wg<|vy (decide (e=(3:Int))) (Ah d.services)<|br (decide (e=(3:Int))&&decide ((a:Int)<(d.services.length:Int))) (wg<|ix d.services a λb=>vw .sep<|ap c (b.name:ByteArray)<|vs (wa a 1)<|vz (fl (c++[b.name]))<|ln (oL d e) (c++[b.name],a+1)) (vz (fl c)<|Af (pH) c):PT 0 _).m
def eB(a:Scm)(b:Int):Option (List ByteArray):=(lc (Ac [(1,vI b),pp 2,(5,.e0)] [(Dd a)]) ((lc (Ac [(1,vI b),pp 2,(5,.e0),(6,vI 0)] [(Dd a)]) ((vw (.ads 5 5 9 1)<|vz (fl ([]:List ByteArray))<|lc (Ac [(1,vI b),pp 2,(5,.ref (1,5) 0 0 ([]:List ByteArray).length),(6,vI 0)] [(Dd a),kk 5 9 1 (Ab Bu ([]:List ByteArray))]) ((Aj (Zp a b) Ag (([]:List ByteArray),0)).bind (Sum.elim (λd=>(vz (fl d)<|lc (Ac [(1,vI b),pp 2,(5,.ref (1,5) 0 0 d.length),(7,vI 0)] [(Dd a),kk 5 9 1 (Ab Bu d)]) ((Aj (Zc a b) Ag (d,0)).bind (Sum.elim (λe=>(vz (fl e)<|lc (Ac [(1,vI b),pp 2,(5,.ref (1,5) 0 0 e.length),(8,vI 0)] [(Dd a),kk 5 9 1 (Ab Bu e)]) ((Aj (Zj a b) Ag (e,0)).bind (Sum.elim (λc=>(vz (fr c)<|lr Pt nG c:PT 0 _).m) some)):PT 0 _).m) some)):PT 0 _).m) some)):PT 0 _).m):PT 0 _).m):PT 0 _).m
theorem ZEC{C:Cx}(co:CO C 0)(a:Scm)(b:Int):KL Tryz.prog (At tl) 70 C (pa [0,0,1,0,1,1] (Au Tryz.f31)) [.tmp 4] 0 (qF a b) (qe a b) Pt nG (Zp a b):=λ(d,v2) _ m Q Post c L=>eN co (Aa [1,2,5,6] Ln) (Aa [1,2,5] Ln) c m L
theorem ZDk{C:Cx}(co:CO C 0)(a:Scm)(b:Int):KL Tryz.prog (At tl) 70 C (pa [0,0,1,0,1,1,1] (Au Tryz.f31)) [.tmp 4] 0 (rE a b) (o1 a b) Pt nG (Zc a b):=λ(d,e) _ m Q Post c L=>eN co (Aa [1,2,5,7] Ln) (Aa [1,2,5] Ln) c m L
theorem ZF5{C:Cx}(co:CO C 0)(a:Scm)(b:Int):KL Tryz.prog (At tl) 70 C (pa [0,0,1,0,1,1,1,1] (Au Tryz.f31)) [.tmp 4] 0 (oL a b) (pH) Pt nG (Zj a b):=λ(e,d) _ m Q Post c L=>eN co (Aa [1,2,5,8] Ln) (Aa [5] [((1,5),true)]) c m L
theorem UU(a:Scm)(b:Int):KC Tryz.prog 31 [.agg ((Al a).map .d),vI b] (eB a b) Pt:=kC Tryz.func31 Tryz.ntmps31 [.tmp 4] λco m L=>mJ co 2 (Aa [1,2,5] Fu) nl nH m L λr g=>λ_ m L=>sq (mJ co 1 (Aa [1,2,5,6] Fu) nl nH m L λr g=>λ_ m L=>bk 0 (cM co (Aa [1,2,5,6] Ln) m L λr g=>λ_ m L=>lo (Ax (ZEC co a b) nH m L (λd m=>sq (mJ co 1 (Aa [1,2,5,7] Ln) nl nH m L λr g=>λ_ m L=>bk 2 (lo (Ax (ZDk co a b) nH m L (λe m=>sq (mJ co 1 (Aa [1,2,5,8] Ln) nl nH m L λr g=>λ_ m L=>bk 4 (lo (Ax (ZF5 co a b) nH m L (λc m=>fO co m L))))))))))))
abbrev F5:List (Ad×Bool):=[((0,0),false),((0,1),true)]
abbrev ZP:List Prb->AV:=λy=>.tup []
@[reducible] def Z2(a:ByteArray):List Prb->List Blk:=λy=>[⟨0,true,74,2,[vS a,.ref (0,1) 0 0 y.length]⟩,⟨0,true,133,3,Ab Ak y⟩]
def ce(a:ByteArray)(b:List Prb)(c:Int)(d:Int):PT 2 (List Prb):=lr ZP (Z2 a) (b++([(.mk a c d:Prb)]))
def bb(a:ByteArray)(b:List Prb)(c:Int)(d:Int):PT 2 (List Prb):=wg<|wg<|vw .sep<|ap b ((.mk a c d:Prb):Prb)<|B3 1 (Ab Ak [(.mk a c d:Prb)]) (λ_=>ZzK _)<|wg<|vwl 0 [.ref (0,1) 1 0 (b++([(.mk a c d:Prb)])).length]<|vz (fl (b++([(.mk a c d:Prb)])))<|lc (Ac [] [((0,0),⟨0,true,74,2,[vS a,.ref (0,1) 0 0 (b++([(.mk a c d:Prb)])).length]⟩),((0,1),⟨0,true,133,3,Ab Ak (b++([(.mk a c d:Prb)]))⟩)]) ((ce a b c d).m)
def BH(a:ByteArray)(b:List Prb)(c:Bool)(d:Int)(e:Int):Option (List Prb):=(vz (fl b)<|lc (Ac [(0,.ptr (0,0) 0 0),(2,vI d),(3,vI e),(8,vB c)] [((0,0),⟨0,true,74,2,[vS a,.ref (0,1) 0 0 b.length]⟩),((0,1),⟨0,true,133,3,Ab Ak b⟩)]) (if c=true then(bb a b d e).m else(lr ZP (Z2 a) b:PT 2 _).m):PT 2 _).m
theorem BX(a:ByteArray)(b:List Prb)(f:Bool)(c:Int)(d:Int):KG Tryz.prog 32 2 [1] [(1,0)] [.ptr (0,0) 0 0,vB f,vI c,vI d] [⟨0,true,74,2,[vS a,.ref (0,1) 0 0 b.length]⟩,⟨0,true,133,3,Ab Ak b⟩] (BH a b f c d) ZP (Z2 a):=j5 Tryz.func32 Tryz.ntmps32 AJ [] 2 [1] [0] [(1,0)] (λC co e y m Post L=>mJ co 1 (Aa [0,2,3,8] F5) nl nH m L λr g=>λ_ m L=>Bj m (λm=>Et co AJ BS (.fst 0 (.fst 1 (.fst 2 (.fst 3 (.fst 5 (.fst 6 (.fst 7 (.fst 9 (.fst 10 (.fst 4 (.fst 8 (.fst 11 (.fst 12 (.fst 13 (.fst 14 (.fst 15 (.fst 16 .nil))))))))))))))))) [] (bb a b c d) (Aa [] F5) m L λr g=>⟨ZLW g e,λ_ m L=>Cb (ce a b c d) co m L (λr g=>id) r g⟩) (λm=>fO co m L))
abbrev Ta:Bool->AV:=λy=>vB y
def sM(a:List ByteArray):Nat->St:=λb=>Ac [(0,vL Bu a),(3,vN b)] []
def pz:Unit->Nat×St:=λ_=>(0,Ac [] [])
def Zu(b:List ByteArray):Nat->Option (Lv (Nat) (Unit) (Bool)):=λa=>(vz (Ah b)<|br (decide ((a:Int)<(b.length:Int))) (ix b a λc=>vs (wi ((a:Int)-1))<|CB b ((a:Int)-1) λd=>br (BB c d||decide (c=d)) (Ar Ta nG false) (vs (wa a 1)<|ln (sM b) (a+1))) (Af (pz) ()):PT 0 _).m
def ep(a:List ByteArray):Option (Bool):=(lc (Ac [(0,vL Bu a)] []) ((lc (Ac [(0,vL Bu a),(3,vI 1)] []) ((Aj (Zu a) Ag 1).bind (Sum.elim (λ_=>(lr Ta nG true:PT 0 _).m) some)):PT 0 _).m):PT 0 _).m
theorem ZGw{C:Cx}(co:CO C 0)(a:List ByteArray):KL Tryz.prog (At tl) 20 C (pa [0,0,1,0,1] (Au Tryz.f33)) [.tmp 2] 0 (sM a) (pz) Ta nG (Zu a):=λc _ m Q Post b L=>eN co (Ay [0,3]) nl b m L
theorem ZT6(a:List ByteArray):KC Tryz.prog 33 [vL Bu a] (ep a) Ta:=kC Tryz.func33 Tryz.ntmps33 [.tmp 2] λco m L=>mJ co 1 (Ay [0]) nl nH m L λr g=>λ_ m L=>sq (mJ co 1 (Ay [0,3]) nl nH m L λr g=>λ_ m L=>bk 0 (lo (Ax (ZGw co a) nH m L (λ_ m=>fO co m L))))
abbrev Tn:Bool->AV:=λy=>vB y
def qo(a:List ByteArray)(b:ByteArray):Nat->St:=λc=>Ac [(0,vL Bu a),(1,vS b),(5,vN c)] []
def oO:Unit->Nat×St:=λ_=>(0,Ac [] [])
def OO(a:List ByteArray)(c:ByteArray):Nat->Option (Lv (Nat) (Unit) (Bool)):=λb=>(vz (Ah a)<|br (decide ((b:Int)<(a.length:Int))) (ix a b λd=>br (decide (d=c)) (Ar Tn nG true) (vs (wa b 1)<|ln (qo a c) (b+1))) (Af (oO) ()):PT 0 _).m
def QM(a:List ByteArray)(b:ByteArray):Option (Bool):=(lc (Ac [(0,vL Bu a),(1,vS b)] []) ((lc (Ac [(0,vL Bu a),(1,vS b),(5,vI 0)] []) ((Aj (OO a b) Ag 0).bind (Sum.elim (λ_=>(lr Tn nG false:PT 0 _).m) some)):PT 0 _).m):PT 0 _).m
theorem ZFB{C:Cx}(co:CO C 0)(a:List ByteArray)(b:ByteArray):KL Tryz.prog (At tl) 18 C (pa [0,0,1,0,1] (Au Tryz.f78)) [.tmp 4] 0 (qo a b) (oO) Tn nG (OO a b):=λd _ m Q Post c L=>eN co (Ay [0,1,5]) nl c m L
theorem ub(a:List ByteArray)(b:ByteArray):KC Tryz.prog 78 [vL Bu a,vS b] (QM a b) Tn:=kC Tryz.func78 Tryz.ntmps78 [.tmp 4] λco m L=>mJ co 1 (Ay [0,1]) nl nH m L λr g=>λ_ m L=>sq (mJ co 1 (Ay [0,1,5]) nl nH m L λr g=>λ_ m L=>bk 0 (lo (Ax (ZFB co a b) nH m L (λ_ m=>fO co m L))))
abbrev Tb:Bool->AV:=λy=>vB y
def oh(a:List ByteArray)(b:List ByteArray):Nat->St:=λc=>Ac [(0,vL Bu a),(1,vL Bu b),(5,vN c)] []
def qv:Unit->Nat×St:=λ_=>(0,Ac [] [])
def XR(a:List ByteArray)(c:List ByteArray):Nat->Option (Lv (Nat) (Unit) (Bool)):=λb=>(vz (Ah a)<|br (decide ((b:Int)<(a.length:Int))) (ix a b λd=>cl (ub c d) λe=>br e (Ar Tb nG true) (vs (wa b 1)<|ln (oh a c) (b+1))) (Af (qv) ()):PT 0 _).m
def eI(a:List ByteArray)(b:List ByteArray):Option (Bool):=(lc (Ac [(0,vL Bu a),(1,vL Bu b)] []) ((lc (Ac [(0,vL Bu a),(1,vL Bu b),(5,vI 0)] []) ((Aj (XR a b) Ag 0).bind (Sum.elim (λ_=>(lr Tb nG false:PT 0 _).m) some)):PT 0 _).m):PT 0 _).m
theorem ZFu{C:Cx}(co:CO C 0)(a:List ByteArray)(b:List ByteArray):KL Tryz.prog (At tl) 18 C (pa [0,0,1,0,1] (Au Tryz.f34)) [.tmp 4] 0 (oh a b) (qv) Tb nG (XR a b):=λd _ m Q Post c L=>eN co (Ay [0,1,5]) nl c m L
theorem dW(a:List ByteArray)(b:List ByteArray):KC Tryz.prog 34 [vL Bu a,vL Bu b] (eI a b) Tb:=kC Tryz.func34 Tryz.ntmps34 [.tmp 4] λco m L=>mJ co 1 (Ay [0,1]) nl nH m L λr g=>λ_ m L=>sq (mJ co 1 (Ay [0,1,5]) nl nH m L λr g=>λ_ m L=>bk 0 (lo (Ax (ZFu co a b) nH m L (λ_ m=>fO co m L))))
abbrev Av(a:Scm):Ad×Blk:=kk 2 26 3 (cD (Al a))
abbrev Tt:Int->AV:=λy=>vI y
def qI(a:Scm)(b:ByteArray):Nat->St:=λc=>Ac [(1,vS b),pp 2,(5,vN c)] [(Av a)]
def o3:Unit->Nat×St:=λ_=>(0,Ac [] [])
def Ze(b:Scm)(c:ByteArray):Nat->Option (Lv (Nat) (Unit) (Int)):=λa=>(wg<|vz (Ah b.messages)<|br (decide ((a:Int)<(b.messages.length:Int))) (wg<|ix b.messages a λd=>br (decide (d.name=c)) (Ar Tt nG (a:Int)) (vs (wa a 1)<|ln (qI b c) (a+1))) (Af (o3) ()):PT 0 _).m
def ek(a:Scm)(b:ByteArray):Option (Int):=(lc (Ac [(1,vS b),pp 2] [(Av a)]) ((lc (Ac [(1,vS b),pp 2,(5,vI 0)] [(Av a)]) ((Aj (Ze a b) Ag 0).bind (Sum.elim (λ_=>(lr Tt nG (-1):PT 0 _).m) some)):PT 0 _).m):PT 0 _).m
theorem ZFF{C:Cx}(co:CO C 0)(a:Scm)(b:ByteArray):KL Tryz.prog (At tl) 22 C (pa [0,0,1,0,1] (Au Tryz.f90)) [.tmp 4] 0 (qI a b) (o3) Tt nG (Ze a b):=λd _ m Q Post c L=>eN co (Aa [1,2,5] Fu) nl c m L
theorem Ql(a:Scm)(b:ByteArray):KC Tryz.prog 90 [.agg ((Al a).map .d),vS b] (ek a b) Tt:=kC Tryz.func90 Tryz.ntmps90 [.tmp 4] λco m L=>mJ co 1 (Aa [1,2] Fu) nl nH m L λr g=>λ_ m L=>sq (mJ co 1 (Aa [1,2,5] Fu) nl nH m L λr g=>λ_ m L=>bk 0 (lo (Ax (ZFF co a b) nH m L (λ_ m=>fO co m L))))
abbrev jV(a:Scm):Ad×Blk:=kk 3 26 3 (cD (Al a))
abbrev jW(a:Msg):Ad×Blk:=kk 4 55 5 (cD (AH a))
abbrev To:Bool->AV:=λy=>vB y
def bM(a:Scm)(b:Msg)(c:List Bool):Nat->St:=λd=>Ac [(2,vL AY c),pp 3,pp 4,(7,vN d)] [(jV a),(jW b)]
def q8:Unit->Nat×St:=λ_=>(0,Ac [] [])
def XO(d:Scm)(b:Msg)(e:List Bool):Nat->Option (Lv (Nat) (Unit) (Bool)):=λa=>(wg<|vz (Ah b.fields)<|br (decide ((a:Int)<(b.fields.length:Int))) (wg<|ix b.fields a λc=>wg<|wg<|wg<|br ((!decide (c.card=(1:Int)))||(!decide (c.type.kind=(10:Int)))) (vs (wa a 1)<|ln (bM d b e) (a+1)) (wg<|wg<|cl (Ql d c.type.name) λf=>AZ (decide ((0:Int)<=f)) e f λg=>br (decide ((0:Int)<=f)&&(!g)) (Ar To nG true) (vs (wa a 1)<|ln (bM d b e) (a+1)))) (Af (q8) ()):PT 0 _).m
def eY(a:Scm)(b:Msg)(c:List Bool):Option (Bool):=(lc (Ac [(2,vL AY c),pp 3,pp 4] [(jV a),(jW b)]) ((lc (Ac [(2,vL AY c),pp 3,pp 4,(7,vI 0)] [(jV a),(jW b)]) ((Aj (XO a b c) Ag 0).bind (Sum.elim (λ_=>(lr To nG false:PT 0 _).m) some)):PT 0 _).m):PT 0 _).m
theorem ZGG{C:Cx}(co:CO C 0)(a:Scm)(b:Msg)(c:List Bool):KL Tryz.prog (At tl) 45 C (pa [0,0,1,0,1] (Au Tryz.f79)) [.tmp 6] 0 (bM a b c) (q8) To nG (XO a b c):=λe _ m Q Post d L=>eN co (Aa [2,3,4,7] [((1,3),false),((1,4),false)]) nl d m L
theorem ZTC(a:Scm)(b:Msg)(c:List Bool):KC Tryz.prog 79 [.agg ((Al a).map .d),.agg ((AH b).map .d),vL AY c] (eY a b c) To:=kC Tryz.func79 Tryz.ntmps79 [.tmp 6] λco m L=>mJ co 1 (Aa [2,3,4] [((1,3),false),((1,4),false)]) nl nH m L λr g=>λ_ m L=>sq (mJ co 1 (Aa [2,3,4,7] [((1,3),false),((1,4),false)]) nl nH m L λr g=>λ_ m L=>bk 0 (lo (Ax (ZGG co a b c) nH m L (λ_ m=>fO co m L))))
abbrev j4:List (Ad×Bool):=[((0,0),true),((1,3),false),((1,4),false)]
abbrev Ai:List (Ad×Bool):=[((0,0),true)]
abbrev jX(a:Scm):Ad×Blk:=kk 3 26 3 (cD (Al a))
abbrev jY(a:Msg):Ad×Blk:=kk 4 55 5 (cD (AH a))
abbrev Zb:Bool->AV:=λy=>vB y
@[reducible] def XP(a:List Bool):Bool->List Blk:=λy=>[⟨0,true,4,1,Ab AY a⟩]
def iA(b:Scm)(c:Msg)(a:List Bool):Nat->St:=λd=>Ac [(2,.ref (0,0) 0 0 a.length),pp 3,pp 4,(7,vN d)] [((0,0),⟨0,true,4,1,Ab AY a⟩),(jX b),(jY c)]
def x6(a:List Bool):Unit->Nat×St:=λ_=>(0,Ac [] [((0,0),⟨0,true,4,1,Ab AY a⟩)])
def WK(f:Scm)(c:Msg)(a:List Bool):Nat->Option (Lv (Nat) (Unit) (Bool)):=λb=>(wg<|vz (Ah c.fields)<|br (decide ((b:Int)<(c.fields.length:Int))) (wg<|ix c.fields b λe=>wg<|wg<|wg<|br ((!decide (e.card=(1:Int)))||(!decide (e.type.kind=(10:Int)))) (vs (wa b 1)<|vz (fl a)<|ln (iA f c a) (b+1)) (wg<|wg<|cl (Ql f e.type.name) λd=>vg (decide ((0:Int)<=d)) (AD d a.length 1)<|F4 (decide ((0:Int)<=d)) a d.toNat λg=>br (decide ((0:Int)<=d)&&(!g)) (Ar Zb (XP a) true) (vs (wa b 1)<|vz (fl a)<|ln (iA f c a) (b+1)))) (vz (fl a)<|Af (x6 a) ()):PT 1 _).m
def Vr(b:Scm)(c:Msg)(a:List Bool):Option (Bool):=(vz (fl a)<|lc (Ac [(2,.ref (0,0) 0 0 a.length),pp 3,pp 4] [((0,0),⟨0,true,4,1,Ab AY a⟩),(jX b),(jY c)]) ((vz (fl a)<|lc (Ac [(2,.ref (0,0) 0 0 a.length),pp 3,pp 4,(7,vI 0)] [((0,0),⟨0,true,4,1,Ab AY a⟩),(jX b),(jY c)]) ((Aj (WK b c a) Ag 0).bind (Sum.elim (λ_=>(lr Zb (XP a) false:PT 1 _).m) some)):PT 1 _).m):PT 1 _).m
theorem Zva{C:Cx}(co:CO C 1)(b:Scm)(c:Msg)(a:List Bool):KL Tryz.prog (At tl) 45 C (pa [0,0,1,0,1] (Au Tryz.f79)) [.tmp 6] 1 (iA b c a) (x6 a) Zb (XP a) (WK b c a):=λe _ m Q Post d L=>eN co (Aa [2,3,4,7] j4) (Aa [] Ai) d m L
theorem ZHS(b:Scm)(c:Msg)(a:List Bool):KO Tryz.prog 79 1 [.agg ((Al b).map .d),.agg ((AH c).map .d),.ref (0,0) 0 0 a.length] [⟨0,true,4,1,Ab AY a⟩] (λ_ _ _ _=>True) (Vr b c a) Zb (XP a):=kO Tryz.func79 Tryz.ntmps79 [.tmp 6] 1 (λco d m L=>mJ co 1 (Aa [2,3,4] j4) nl nH m L λr g=>λ_ m L=>sq (mJ co 1 (Aa [2,3,4,7] j4) nl nH m L λr g=>λ_ m L=>bk 0 (lo (Ax (Zva co b c a) nH m L (λ_ m=>fO co m L)))))
abbrev HE:List (Ad×Bool):=[((1,1),false),((1,10),true)]
abbrev MU(a:Scm):Ad×Blk:=kk 1 26 3 (cD (Al a))
abbrev Tc:List Bool->AV:=λy=>vL AY y
def qQ(b:Scm):Bool×Nat×List Bool->St:=λ(c,v2,a)=>Ac [pp 1,(3,.ref (1,10) 0 0 a.length),(4,vB c),(5,vN v2)] [(MU b),kk 10 4 1 (Ab AY a)]
def sD:List Bool->Nat×St:=λa=>(0,Ac [(3,.ref (1,10) 0 0 a.length)] [kk 10 4 1 (Ab AY a)])
def aY(b:Scm)(v2:Nat):Bool×Nat×List Bool->St:=λ(v4,c,a)=>Ac [pp 1,(3,.ref (1,10) 0 0 a.length),(4,vB v4),(5,vN v2),(6,vN c)] [(MU b),kk 10 4 1 (Ab AY a)]
def sJ(c:Scm)(v2:Nat):Bool×List Bool->Nat×St:=λ(b,a)=>(2,Ac [pp 1,(3,.ref (1,10) 0 0 a.length),(4,vB b),(5,vN v2)] [(MU c),kk 10 4 1 (Ab AY a)])
def Zk(c:Scm)(v2:Nat):Bool×Nat×List Bool->Option (Lv (Bool×Nat×List Bool) (Bool×List Bool) (List Bool)):=λ(v4,b,a)=>(wg<|vz (Ah c.messages)<|br (decide ((b:Int)<(c.messages.length:Int))) (vs (ir b a.length 1)<|ca a b λd=>wg<|wg<|AZ (!d) c.messages (b:Int) λe=>C1 (!d) Tryz.prog 79 [.agg ((Al c).map .d),.agg ((AH e).map .d),.ref (1,10) 0 0 a.length] [(1,10)] [kk 10 4 1 (Ab AY a)] (Vr c e a) (λy=>vB y) λf=>br ((!d)&&(!f)) (vs (ir b a.length 1)<|vs (st a b true)<|rn 3 10 a.length (a.set b true)<|vw .sep<|vs (wa b 1)<|vz (fl (a.set b true))<|ln (aY c v2) (true,b+1,a.set b true)) (vs (wa b 1)<|vz (fl a)<|ln (aY c v2) (v4,b+1,a))) (vz (fl a)<|Af (sJ c v2) (v4,a)):PT 0 _).m
def X0(b:Scm):Bool×Nat×List Bool->Option (Lv (Bool×Nat×List Bool) (List Bool) (List Bool)):=λ(e,v2,a)=>(wg<|vz (Ah b.messages)<|br (decide ((v2:Int)<(b.messages.length:Int))&&e) (vz (fl a)<|lc (Ac [pp 1,(3,.ref (1,10) 0 0 a.length),(5,vN v2)] [(MU b),kk 10 4 1 (Ab AY a)]) ((vz (fl a)<|lc (Ac [pp 1,(3,.ref (1,10) 0 0 a.length),(4,vB false),(5,vN v2),(6,vI 0)] [(MU b),kk 10 4 1 (Ab AY a)]) ((Aj (Zk b v2) Ag (false,0,a)).bind (Sum.elim (λ(d,c)=>(vs (wa v2 1)<|vz (fl c)<|ln (qQ b) (d,v2+1,c):PT 0 _).m) (λz=>some (.rt z)))):PT 0 _).m)) (vz (fl a)<|Af (sD) a):PT 0 _).m
def eO(a:Scm):Option (List Bool):=(wg<|vz (Ah a.messages)<|ms a.messages.length false [vB false] (by first|rfl|kernel_rfl)<|vz (fl (List.replicate a.messages.length false))<|lc (Ac [pp 1,(3,.ref (1,10) 0 0 (List.replicate a.messages.length false).length),(4,vB true)] [(MU a),kk 10 4 1 (Ab AY (List.replicate a.messages.length false))]) ((vz (fl (List.replicate a.messages.length false))<|lc (Ac [pp 1,(3,.ref (1,10) 0 0 (List.replicate a.messages.length false).length),(4,vB true),(5,vI 0)] [(MU a),kk 10 4 1 (Ab AY (List.replicate a.messages.length false))]) ((Aj (X0 a) Ag (true,0,List.replicate a.messages.length false)).bind (Sum.elim (λb=>(vz (fr b)<|lr Tc nG b:PT 0 _).m) some)):PT 0 _).m):PT 0 _).m
theorem ZF7{C:Cx}(co:CO C 0)(a:Scm)(v2:Nat):KL Tryz.prog (At tl) 48 C (pa [0,0,1,1,0,0,1,0,0,1,0,1,1,1] (Au Tryz.f35)) [.tmp 2] 0 (aY a v2) (sJ a v2) Tc nG (Zk a v2):=λ(v4,f,b) _ m Q Post d L=>eN co (Aa [1,3,4,5,6] HE) (Aa [1,3,4,5] HE) d m L λr g=>⟨λe=>λc=>⟨λy hy=>s6 (ZHS a c b) hy co g [kk 10 4 1 (Ab AY b)] [],λh=>⟨id,id⟩⟩,id⟩
theorem ZEf{C:Cx}(co:CO C 0)(b:Scm):KL Tryz.prog (At tl) 48 C (pa [0,0,1,0,1,1,1] (Au Tryz.f35)) [.tmp 2] 0 (qQ b) (sD) Tc nG (X0 b):=λ(f,v2,e) _ m Q Post a L=>mJ co 1 (Aa [1,3,5] HE) (Aa [3] [((1,10),true)]) a m L λr g=>⟨λ_ m L=>sq (bk 1 (mJ co 2 (Aa [1,3,4,5,6] HE) nl a m L λr g=>λ_ m L=>bk 2 (lo (Fv (ZF7 co b v2) a m L (λ(d,c) m=>eN co (Aa [1,3,4,5] HE) nl a m L))))),id⟩
theorem ZTs(a:Scm):KC Tryz.prog 35 [.agg ((Al a).map .d)] (eO a) Tc:=kC Tryz.func35 Tryz.ntmps35 [.tmp 2] λco m L=>mJ co 3 (Aa [1,3,4] HE) nl nH m L λr g=>λ_ m L=>sq (mJ co 1 (Aa [1,3,4,5] HE) nl nH m L λr g=>λ_ m L=>bk 0 (lo (Ax (ZEf co a) nH m L (λb m=>fO co m L))))
abbrev tH:Bool->AV:=λy=>vB y
def u9(a:Int):Option (Bool):=(lr tH nG (decide ((97:Int)<=a)&&decide (a<=(122:Int))):PT 0 _).m
theorem oW(a:Int):KC Tryz.prog 163 [.d (.int .u8 a)] (u9 a) tH:=kC Tryz.func163 Tryz.ntmps163 [.tmp 2] λco m L=>fO co m L
abbrev uA:Bool->AV:=λy=>vB y
def vi(a:Int):Option (Bool):=(lr uA nG (decide ((65:Int)<=a)&&decide (a<=(90:Int))):PT 0 _).m
theorem oo(a:Int):KC Tryz.prog 164 [.d (.int .u8 a)] (vi a) uA:=kC Tryz.func164 Tryz.ntmps164 [.tmp 2] λco m L=>fO co m L
abbrev Qu:Bool->AV:=λy=>vB y
def ob(a:ByteArray):Nat->St:=λb=>Ac [(0,vS a),(3,vN b)] []
def na:Unit->Nat×St:=λ_=>(0,Ac [] [])
def W1(a:ByteArray):Nat->Option (Lv (Nat) (Unit) (Bool)):=λb=>(vz (A3 a.size)<|br (decide ((b:Int)<(a.size:Int))) (ib a b λh=>cl (oW (h.toNat:Int)) λd=>GY (!d) a (b:Int) λi=>Az (!d) (oo (i.toNat:Int)) λf=>GY ((!d)&&(!f)) a (b:Int) λc=>GY (((!d)&&(!f))&&(!decide ((c.toNat:Int)=(95:Int)))) a (b:Int) λe=>GY ((((!d)&&(!f))&&(!decide ((c.toNat:Int)=(95:Int))))&&(!(decide ((e.toNat:Int)<(48:Int))))) a (b:Int) λg=>br ((((!d)&&(!f))&&(!decide ((c.toNat:Int)=(95:Int))))&&(decide ((e.toNat:Int)<(48:Int))||decide ((57:Int)<(g.toNat:Int)))) (Ar Qu nG false) (vs (wa b 1)<|ln (ob a) (b+1))) (Af (na) ()):PT 0 _).m
def eW(a:ByteArray):Option (Bool):=(vz (A3 a.size)<|vy (!(decide ((a.size:Int)=(0:Int)))) (A3 a.size)<|GY (!(decide ((a.size:Int)=(0:Int))||decide ((40:Int)<(a.size:Int)))) a 0 λc=>Az (!(decide ((a.size:Int)=(0:Int))||decide ((40:Int)<(a.size:Int)))) (oW (c.toNat:Int)) λb=>GY ((!(decide ((a.size:Int)=(0:Int))||decide ((40:Int)<(a.size:Int))))&&(!b)) a 0 λd=>Az ((!(decide ((a.size:Int)=(0:Int))||decide ((40:Int)<(a.size:Int))))&&(!b)) (oo (d.toNat:Int)) λe=>br ((decide ((a.size:Int)=(0:Int))||decide ((40:Int)<(a.size:Int)))||((!b)&&(!e))) (lr Qu nG false) (lc (Ac [(0,vS a)] []) ((lc (Ac [(0,vS a),(3,vI 1)] []) ((Aj (W1 a) Ag 1).bind (Sum.elim (λ_=>(lr Qu nG true:PT 0 _).m) some)):PT 0 _).m)):PT 0 _).m
theorem ZyX{C:Cx}(co:CO C 0)(a:ByteArray):KL Tryz.prog (At tl) 60 C (pa [0,0,1,0,1,1] (Au Tryz.f127)) [.tmp 2] 0 (ob a) (na) Qu nG (W1 a):=λc _ m Q Post b L=>eN co (Ay [0,3]) nl b m L
theorem bL(a:ByteArray):KC Tryz.prog 127 [vS a] (eW a) Qu:=kC Tryz.func127 Tryz.ntmps127 [.tmp 2] λco m L=>mJ co 2 (Ay [0]) nl nH m L λr g=>λb=>λd=>λc=>λe=>⟨id,λ_ m L=>sq (mJ co 1 (Ay [0,3]) nl nH m L λr g=>λ_ m L=>bk 0 (lo (Ax (ZyX co a) nH m L (λ_ m=>fO co m L))))⟩
abbrev Qy:Bool->AV:=λy=>vB y
def iZ(a:ByteArray):ByteArray×Nat->St:=λ(b,v2)=>Ac [(0,vS a),(3,vS b),(4,vN v2)] []
def ni:ByteArray->Nat×St:=λa=>(0,Ac [(3,vS a)] [])
def WZ(a:ByteArray):ByteArray×Nat->Option (Lv (ByteArray×Nat) (ByteArray) (Bool)):=λ(b,v2)=>(vz (A3 a.size)<|br (decide ((v2:Int)<(a.size:Int))) (ib a v2 λc=>br (!decide ((c.toNat:Int)=(46:Int))) (vs (wa v2 1)<|ss a (.nt v2) (.nt (v2+1)) λd=>ad b d λe=>vs (wa v2 1)<|ln (iZ a) (e,v2+1)) (cl (bL b) λf=>br (!f) (Ar Qy nG false) (vs (wa v2 1)<|ln (iZ a) (⟨#[]⟩,v2+1)))) (Af (ni) b):PT 0 _).m
def eQ(a:ByteArray):Option (Bool):=(vz (A3 a.size)<|br (decide ((120:Int)<(a.size:Int))) (lr Qy nG false) (lc (Ac [(0,vS a),(3,vS ⟨#[]⟩)] []) ((lc (Ac [(0,vS a),(3,vS ⟨#[]⟩),(4,vI 0)] []) ((Aj (WZ a) Ag (⟨#[]⟩,0)).bind (Sum.elim (λb=>(cl (bL b) λc=>lr Qy nG c:PT 0 _).m) some)):PT 0 _).m)):PT 0 _).m
theorem ZyS{C:Cx}(co:CO C 0)(a:ByteArray):KL Tryz.prog (At tl) 30 C (pa [0,0,1,0,1,1,1] (Au Tryz.f124)) [.tmp 2] 0 (iZ a) (ni) Qy nG (WZ a):=λ(c,v2) _ m Q Post b L=>eN co (Ay [0,3,4]) (Ay [3]) b m L
theorem ZP5(a:ByteArray):KC Tryz.prog 124 [vS a] (eQ a) Qy:=kC Tryz.func124 Tryz.ntmps124 [.tmp 2] λco m L=>mJ co 3 (Ay [0,3]) nl nH m L λr g=>⟨id,λ_ m L=>sq (mJ co 1 (Ay [0,3,4]) nl nH m L λr g=>λ_ m L=>bk 0 (lo (Ax (ZyS co a) nH m L (λb m=>fO co m L))))⟩
abbrev UK:ByteArray×ByteArray->AV:=λy=>.tup [vS y.1,vS y.2]
def n3(a:ByteArray):Int->St:=λb=>Ac [(0,vS a),(4,vI b)] []
def mi(a:ByteArray):Unit->Nat×St:=λ_=>(0,Ac [(0,vS a)] [])
def WX(b:ByteArray):Int->Option (Lv (Int) (Unit) (ByteArray×ByteArray)):=λa=>(br (decide ((0:Int)<=a)) (S1 b a λc=>br (decide ((c.toNat:Int)=(46:Int))) (ss b .no (.it a) λd=>vs (wi (a+1))<|ss b (.it (a+1)) .no λe=>Ar UK nG (d,e)) (vs (wi (a-1))<|ln (n3 b) (a-1))) (Af (mi b) ()):PT 0 _).m
def eC(a:ByteArray):Option (ByteArray×ByteArray):=(lc (Ac [(0,vS a)] []) ((vz (A3 a.size)<|vs (wi ((a.size:Int)-1))<|lc (Ac [(0,vS a),(4,vI ((a.size:Int)-1))] []) ((Aj (WX a) Ag ((a.size:Int)-1)).bind (Sum.elim (λ_=>(lr UK nG (⟨#[]⟩,a):PT 0 _).m) some)):PT 0 _).m):PT 0 _).m
theorem ZzW{C:Cx}(co:CO C 0)(a:ByteArray):KL Tryz.prog (At tl) 24 C (pa [0,0,1,0,1] (Au Tryz.f125)) [.tmp 2,.tmp 3] 0 (n3 a) (mi a) UK nG (WX a):=λc _ m Q Post b L=>eN co (Ay [0,4]) (Ay [0]) b m L
theorem ZOL(a:ByteArray):KC Tryz.prog 125 [vS a] (eC a) UK:=kC Tryz.func125 Tryz.ntmps125 [.tmp 2,.tmp 3] λco m L=>mJ co 1 (Ay [0]) nl nH m L λr g=>λ_ m L=>sq (mJ co 1 (Ay [0,4]) nl nH m L λr g=>λ_ m L=>bk 0 (lo (Ax (ZzW co a) nH m L (λ_ m=>fO co m L))))
abbrev Bo:Bool->AV:=λy=>vB y
def eV(a:ByteArray):Option (Bool):=(br (decide (a=(⟨#[109,101,115,115,97,103,101]⟩:ByteArray))) (br (decide (a=(⟨#[109,101,115,115,97,103,101]⟩:ByteArray))) (lr Bo nG true) (lr Bo nG false)) (br (decide (a=(⟨#[101,110,117,109]⟩:ByteArray))) (br (decide (a=(⟨#[101,110,117,109]⟩:ByteArray))) (lr Bo nG true) (lr Bo nG false)) (br (decide (a=(⟨#[115,101,114,118,105,99,101]⟩:ByteArray))) (br (decide (a=(⟨#[115,101,114,118,105,99,101]⟩:ByteArray))) (lr Bo nG true) (lr Bo nG false)) (br (decide (a=(⟨#[117,110,105,111,110]⟩:ByteArray))) (br (decide (a=(⟨#[117,110,105,111,110]⟩:ByteArray))) (lr Bo nG true) (lr Bo nG false)) (br (decide (a=(⟨#[109,97,112]⟩:ByteArray))) (br (decide (a=(⟨#[109,97,112]⟩:ByteArray))) (lr Bo nG true) (lr Bo nG false)) (br (decide (a=(⟨#[108,105,115,116]⟩:ByteArray))) (br (decide (a=(⟨#[108,105,115,116]⟩:ByteArray))) (lr Bo nG true) (lr Bo nG false)) (br (decide (a=(⟨#[114,101,113,117,105,114,101,100]⟩:ByteArray))) (br (decide (a=(⟨#[114,101,113,117,105,114,101,100]⟩:ByteArray))) (lr Bo nG true) (lr Bo nG false)) (br (decide (a=(⟨#[111,112,116,105,111,110,97,108]⟩:ByteArray))) (br (decide (a=(⟨#[111,112,116,105,111,110,97,108]⟩:ByteArray))) (lr Bo nG true) (lr Bo nG false)) (br (decide (a=(⟨#[112,108,97,105,110]⟩:ByteArray))) (br (decide (a=(⟨#[112,108,97,105,110]⟩:ByteArray))) (lr Bo nG true) (lr Bo nG false)) (br (decide (a=(⟨#[100,101,102,97,117,108,116]⟩:ByteArray))) (br (decide (a=(⟨#[100,101,102,97,117,108,116]⟩:ByteArray))) (lr Bo nG true) (lr Bo nG false)) (br (decide (a=(⟨#[114,101,115,101,114,118,101,100]⟩:ByteArray))) (br (decide (a=(⟨#[114,101,115,101,114,118,101,100]⟩:ByteArray))) (lr Bo nG true) (lr Bo nG false)) (br (decide (a=(⟨#[105,109,112,111,114,116]⟩:ByteArray))) (br (decide (a=(⟨#[105,109,112,111,114,116]⟩:ByteArray))) (lr Bo nG true) (lr Bo nG false)) (br (decide (a=(⟨#[115,112,97,99,101]⟩:ByteArray))) (br (decide (a=(⟨#[115,112,97,99,101]⟩:ByteArray))) (lr Bo nG true) (lr Bo nG false)) (br (decide (a=(⟨#[114,112,99]⟩:ByteArray))) (br (decide (a=(⟨#[114,112,99]⟩:ByteArray))) (lr Bo nG true) (lr Bo nG false)) (br (decide (a=(⟨#[115,116,114,101,97,109]⟩:ByteArray))) (br (decide (a=(⟨#[115,116,114,101,97,109]⟩:ByteArray))) (lr Bo nG true) (lr Bo nG false)) (br (decide (a=(⟨#[114,101,116,117,114,110,115]⟩:ByteArray))) (br (decide (a=(⟨#[114,101,116,117,114,110,115]⟩:ByteArray))) (lr Bo nG true) (lr Bo nG false)) (br (decide (a=(⟨#[111,112,101,110]⟩:ByteArray))) (br (decide (a=(⟨#[111,112,101,110]⟩:ByteArray))) (lr Bo nG true) (lr Bo nG false)) (br (decide (a=(⟨#[116,114,117,101]⟩:ByteArray))) (br (decide (a=(⟨#[116,114,117,101]⟩:ByteArray))) (lr Bo nG true) (lr Bo nG false)) (br (decide (a=(⟨#[102,97,108,115,101]⟩:ByteArray))) (br (decide (a=(⟨#[102,97,108,115,101]⟩:ByteArray))) (lr Bo nG true) (lr Bo nG false)) (br (decide (a=(⟨#[110,97,110]⟩:ByteArray))) (br (decide (a=(⟨#[110,97,110]⟩:ByteArray))) (lr Bo nG true) (lr Bo nG false)) (br (decide (a=(⟨#[105,110,102]⟩:ByteArray))) (lr Bo nG true) (lr Bo nG false))))))))))))))))))))):PT 0 _).m
theorem qH(a:ByteArray):KC Tryz.prog 126 [vS a] (eV a) Bo:=kC Tryz.func126 Tryz.ntmps126 [.tmp 2] λco m L=>fO co m L
abbrev PB:Bool->AV:=λy=>vB y
def pD:ByteArray×Nat->St:=λ(v2,v3)=>Ac [(0,vS v2),(3,vN v3)] []
def r4:Unit->Nat×St:=λ_=>(0,Ac [] [])
def XN:ByteArray×Nat->Option (Lv (ByteArray×Nat) (Unit) (Bool)):=λ(v2,v3)=>(br (decide ((v3:Int)<(120:Int))&&(!decide (v2=(⟨#[]⟩:ByteArray)))) (cl (ZOL v2) λa=>cl (qH a.2) λb=>br b (Ar PB nG false) (vs (wa v3 1)<|ln (pD) (a.1,v3+1))) (Af (r4) ()):PT 0 _).m
def eS(a:ByteArray):Option (Bool):=(cl (ZP5 a) λb=>br (!b) (lr PB nG false) (lc (Ac [(0,vS a)] []) ((lc (Ac [(0,vS a),(3,vI 0)] []) ((Aj (XN) Ag (a,0)).bind (Sum.elim (λ_=>(lr PB nG true:PT 0 _).m) some)):PT 0 _).m)):PT 0 _).m
theorem ZGf{C:Cx}(co:CO C 0):KL Tryz.prog (At tl) 25 C (pa [0,0,1,0,1,1] (Au Tryz.f80)) [.tmp 2] 0 (pD) (r4) PB nG (XN):=λ(v2,v3) _ m Q Post a L=>eN co (Ay [0,3]) nl a m L
theorem cS(a:ByteArray):KC Tryz.prog 80 [vS a] (eS a) PB:=kC Tryz.func80 Tryz.ntmps80 [.tmp 2] λco m L=>mJ co 2 (Ay [0]) nl nH m L λr g=>λb=>⟨id,λ_ m L=>sq (mJ co 1 (Ay [0,3]) nl nH m L λr g=>λ_ m L=>bk 0 (lo (Ax (ZGf co) nH m L (λ_ m=>fO co m L))))⟩
abbrev kK:Bool->AV:=λy=>vB y
def eo(a:ByteArray):Option (Bool):=(cl (bL a) λb=>Az b (qH a) λc=>lr kK nG (b&&(!c)):PT 0 _).m
theorem U0(a:ByteArray):KC Tryz.prog 81 [vS a] (eo a) kK:=kC Tryz.func81 Tryz.ntmps81 [.tmp 2] λco m L=>fO co m L
abbrev Tp:Bool->AV:=λy=>vB y
def qY(a:List Spn)(b:Int):Nat->St:=λc=>Ac [(0,vL CZ a),(1,vI b),(5,vN c)] []
def sH:Unit->Nat×St:=λ_=>(0,Ac [] [])
def XW(a:List Spn)(c:Int):Nat->Option (Lv (Nat) (Unit) (Bool)):=λb=>(vz (Ah a)<|br (decide ((b:Int)<(a.length:Int))) (ix a b λd=>AZ (decide (d.lo<=c)) a (b:Int) λe=>br (decide (d.lo<=c)&&decide (c<=e.hi)) (Ar Tp nG true) (vs (wa b 1)<|ln (qY a c) (b+1))) (Af (sH) ()):PT 0 _).m
def et(a:List Spn)(b:Int):Option (Bool):=(lc (Ac [(0,vL CZ a),(1,vI b)] []) ((lc (Ac [(0,vL CZ a),(1,vI b),(5,vI 0)] []) ((Aj (XW a b) Ag 0).bind (Sum.elim (λ_=>(lr Tp nG false:PT 0 _).m) some)):PT 0 _).m):PT 0 _).m
theorem ZF2{C:Cx}(co:CO C 0)(a:List Spn)(b:Int):KL Tryz.prog (At tl) 28 C (pa [0,0,1,0,1] (Au Tryz.f82)) [.tmp 4] 0 (qY a b) (sH) Tp nG (XW a b):=λd _ m Q Post c L=>eN co (Ay [0,1,5]) nl c m L
theorem uE(a:List Spn)(b:Int):KC Tryz.prog 82 [vL CZ a,vI b] (et a b) Tp:=kC Tryz.func82 Tryz.ntmps82 [.tmp 4] λco m L=>mJ co 1 (Ay [0,1]) nl nH m L λr g=>λ_ m L=>sq (mJ co 1 (Ay [0,1,5]) nl nH m L λr g=>λ_ m L=>bk 0 (lo (Ax (ZF2 co a b) nH m L (λ_ m=>fO co m L))))
abbrev E0:Bool->AV:=λy=>vB y
def eJ(a:Fld):Option (Bool):=(wg<|br (!decide (a.card=(5:Int))) (wg<|wg<|wg<|lr E0 nG ((decide ((1:Int)<=a.card)&&decide (a.card<=(4:Int)))&&decide (a.key=(0:Int)))) (wg<|br (decide (a.key=(1:Int))) (br (decide (a.key=(1:Int))) (lr E0 nG true) (lr E0 nG false)) (br (decide (a.key=(2:Int))) (br (decide (a.key=(2:Int))) (lr E0 nG true) (lr E0 nG false)) (br (decide (a.key=(3:Int))) (br (decide (a.key=(3:Int))) (lr E0 nG true) (lr E0 nG false)) (br (decide (a.key=(4:Int))) (br (decide (a.key=(4:Int))) (lr E0 nG true) (lr E0 nG false)) (br (decide (a.key=(5:Int))) (br (decide (a.key=(5:Int))) (lr E0 nG true) (lr E0 nG false)) (br (decide (a.key=(7:Int))) (lr E0 nG true) (lr E0 nG false))))))):PT 0 _).m
theorem ZTg(a:Fld):KC Tryz.prog 83 [.agg ((As a).map .d)] (eJ a) E0:=kC Tryz.func83 Tryz.ntmps83 [.tmp 2] λco m L=>fO co m L
abbrev jZ(a:Scm):Ad×Blk:=kk 2 26 3 (cD (Al a))
abbrev UY:Int->AV:=λy=>vI y
def nS(a:Scm)(b:ByteArray):Nat->St:=λc=>Ac [(1,vS b),pp 2,(5,vN c)] [(jZ a)]
def nk:Unit->Nat×St:=λ_=>(0,Ac [] [])
def W0(b:Scm)(c:ByteArray):Nat->Option (Lv (Nat) (Unit) (Int)):=λa=>(wg<|vz (Ah b.enums)<|br (decide ((a:Int)<(b.enums.length:Int))) (wg<|ix b.enums a λd=>br (decide (d.name=c)) (Ar UY nG (a:Int)) (vs (wa a 1)<|ln (nS b c) (a+1))) (Af (nk) ()):PT 0 _).m
def eg(a:Scm)(b:ByteArray):Option (Int):=(lc (Ac [(1,vS b),pp 2] [(jZ a)]) ((lc (Ac [(1,vS b),pp 2,(5,vI 0)] [(jZ a)]) ((Aj (W0 a b) Ag 0).bind (Sum.elim (λ_=>(lr UY nG (-1):PT 0 _).m) some)):PT 0 _).m):PT 0 _).m
theorem Zx3{C:Cx}(co:CO C 0)(a:Scm)(b:ByteArray):KL Tryz.prog (At tl) 22 C (pa [0,0,1,0,1] (Au Tryz.f128)) [.tmp 4] 0 (nS a b) (nk) UY nG (W0 a b):=λd _ m Q Post c L=>eN co (Aa [1,2,5] Fu) nl c m L
theorem rx(a:Scm)(b:ByteArray):KC Tryz.prog 128 [.agg ((Al a).map .d),vS b] (eg a b) UY:=kC Tryz.func128 Tryz.ntmps128 [.tmp 4] λco m L=>mJ co 1 (Aa [1,2] Fu) nl nH m L λr g=>λ_ m L=>sq (mJ co 1 (Aa [1,2,5] Fu) nl nH m L λr g=>λ_ m L=>bk 0 (lo (Ax (Zx3 co a b) nH m L (λ_ m=>fO co m L))))
abbrev Tq:Bool->AV:=λy=>vB y
def fd(b:Scm)(a:Fld):Option (Bool):=(wg<|br (decide (a.type.kind=(9:Int))) (wg<|wg<|cl (rx b a.type.name) λc=>lr Tq nG (decide ((0:Int)<=c))) (br (decide (a.type.kind=(10:Int))) (wg<|wg<|cl (Ql b a.type.name) λd=>wg<|lr Tq nG (decide ((0:Int)<=d)&&(!decide (a.card=(3:Int))))) (wg<|wg<|wg<|lr Tq nG ((decide ((1:Int)<=a.type.kind)&&decide (a.type.kind<=(8:Int)))&&decide (a.type.name=(⟨#[]⟩:ByteArray))))):PT 0 _).m
theorem ZTW(a:Scm)(b:Fld):KC Tryz.prog 84 [.agg ((Al a).map .d),.agg ((As b).map .d)] (fd a b) Tq:=kC Tryz.func84 Tryz.ntmps84 [.tmp 4] λco m L=>fO co m L
abbrev MW:List (Ad×Bool):=[((1,2),false),((1,5),false)]
abbrev ZH(a:Msg):Ad×Blk:=kk 2 55 5 (cD (AH a))
abbrev Uu(a:Fld):Ad×Blk:=kk 5 50 16 (cD (As a))
abbrev M5:Bool->AV:=λy=>vB y
def bp(b:Msg)(c:Int)(a:Fld):Bool×Nat->St:=λ(v3,v4)=>Ac [(1,vI c),pp 2,pp 5,(6,vB v3),(7,vN v4)] [(ZH b),(Uu a)]
def q6(b:Msg)(c:Int)(a:Fld):Bool->Nat×St:=λd=>(0,Ac [(1,vI c),pp 2,pp 5,(6,vB d)] [(ZH b),(Uu a)])
def XG(a:Msg)(c:Int)(b:Fld):Bool×Nat->Option (Lv (Bool×Nat) (Bool) (Bool)):=λ(v3,v4)=>(wg<|vz (Ah a.fields)<|br (decide ((v4:Int)<(a.fields.length:Int))) (wg<|ix a.fields v4 λd=>wg<|br (decide (d.name=b.union)) (Ar M5 nG false) (wg<|AZ (decide ((v4:Int)<c)) a.fields (v4:Int) λe=>wg<|br (decide ((v4:Int)<c)&&decide (e.union=b.union)) (vs (wa v4 1)<|ln (bp a c b) (true,v4+1)) (vs (wa v4 1)<|ln (bp a c b) (v3,v4+1)))) (Af (q6 a c b) v3):PT 0 _).m
def eX(c:Msg)(b:Int):Option (Bool):=(wg<|CB c.fields b λa=>wg<|wg<|br (decide (a.union=(⟨#[]⟩:ByteArray))) (lr M5 nG true) (wg<|wg<|Az (!(!decide (a.card=(2:Int)))) (U0 a.union) λf=>br ((!decide (a.card=(2:Int)))||(!f)) (lr M5 nG false) (lc (Ac [(1,vI b),pp 2,pp 5,(6,vB false)] [(ZH c),(Uu a)]) ((lc (Ac [(1,vI b),pp 2,pp 5,(6,vB false),(7,vI 0)] [(ZH c),(Uu a)]) ((Aj (XG c b a) Ag (false,0)).bind (Sum.elim (λd=>(wg<|vg (!(!d)) (wi (b-1))<|AZ (!(!d)) c.fields (b-1) λe=>wg<|lr M5 nG ((!d)||decide (e.union=a.union)):PT 0 _).m) some)):PT 0 _).m))):PT 0 _).m
theorem ZFI{C:Cx}(co:CO C 0)(b:Msg)(c:Int)(a:Fld):KL Tryz.prog (At tl) 69 C (pa [0,0,1,0,1,1,1,1,1] (Au Tryz.f85)) [.tmp 4] 0 (bp b c a) (q6 b c a) M5 nG (XG b c a):=λ(v3,v4) _ m Q Post d L=>eN co (Aa [1,2,5,6,7] MW) (Aa [1,2,5,6] MW) d m L
theorem ZTI(a:Msg)(b:Int):KC Tryz.prog 85 [.agg ((AH a).map .d),vI b] (eX a b) M5:=kC Tryz.func85 Tryz.ntmps85 [.tmp 4] λco m L=>mJ co 5 (Aa [1,2,5,6] MW) nl nH m L λr g=>λc=>⟨id,λe=>⟨id,λ_ m L=>sq (mJ co 1 (Aa [1,2,5,6,7] MW) nl nH m L λr g=>λ_ m L=>bk 0 (lo (Ax (ZFI co a b c) nH m L (λd m=>fO co m L))))⟩⟩
abbrev NF:Int->AV:=λy=>vI y
def QA(a:Int):Option (Int):=(rem .u64 a 9223372036854775808<|br (decide ((9218868437227405312:Int)<(Kc .u64 a 9223372036854775808))) (lr NF nG 0) (br (decide ((Kc .u64 a 9223372036854775808)=(9218868437227405312:Int))) (lr NF nG 1) (br (decide ((Kc .u64 a 9223372036854775808)=(0:Int))) (lr NF nG 2) (br (decide ((Kc .u64 a 9223372036854775808)<(4503599627370496:Int))) (lr NF nG 3) (lr NF nG 4)))):PT 0 _).m
theorem qC(a:Int):KC Tryz.prog 139 [.d (.int .u64 a)] (QA a) NF:=kC Tryz.func139 Tryz.ntmps139 [.tmp 2] λco m L=>fO co m L
abbrev ZY:Val->AV:=λy=>.agg ((Ae y).map .d)
def QJ(a:Val):Option (Val):=(wg<|wg<|Az (decide (a.kind=(6:Int))) (qC a.bits) λb=>br (decide (a.kind=(6:Int))&&decide (b=(0:Int))) (wg<|wg<|wg<|lr ZY nG (.mk a.kind 9221120237041090560 a.text a.list a.pairs a.slots a.raws:Val)) (wg<|wg<|lr ZY nG a):PT 0 _).m
theorem dX(a:Val):KC Tryz.prog 95 [.agg ((Ae a).map .d)] (QJ a) ZY:=kC Tryz.func95 Tryz.ntmps95 [.cell 2 33] λco m L=>fO co m L
abbrev uD:Bool->AV:=λy=>vB y
def em(a:Val)(b:Val):Option (Bool):=(wg<|wg<|wg<|wg<|wg<|wg<|wg<|vy ((decide (a.kind=b.kind)&&decide (a.bits=b.bits))&&decide (a.text=b.text)) (Ah a.list)<|wg<|vy ((decide (a.kind=b.kind)&&decide (a.bits=b.bits))&&decide (a.text=b.text)) (Ah a.pairs)<|vg ((decide (a.kind=b.kind)&&decide (a.bits=b.bits))&&decide (a.text=b.text)) (wa a.list.length a.pairs.length)<|wg<|vy ((decide (a.kind=b.kind)&&decide (a.bits=b.bits))&&decide (a.text=b.text)) (Ah a.slots)<|vg ((decide (a.kind=b.kind)&&decide (a.bits=b.bits))&&decide (a.text=b.text)) (wa (a.list.length+a.pairs.length) a.slots.length)<|wg<|vy ((decide (a.kind=b.kind)&&decide (a.bits=b.bits))&&decide (a.text=b.text)) (Ah a.raws)<|vg ((decide (a.kind=b.kind)&&decide (a.bits=b.bits))&&decide (a.text=b.text)) (wa ((a.list.length+a.pairs.length)+a.slots.length) a.raws.length)<|wg<|vy ((decide (a.kind=b.kind)&&decide (a.bits=b.bits))&&decide (a.text=b.text)) (Ah b.list)<|vg ((decide (a.kind=b.kind)&&decide (a.bits=b.bits))&&decide (a.text=b.text)) (wa (((a.list.length+a.pairs.length)+a.slots.length)+a.raws.length) b.list.length)<|wg<|vy ((decide (a.kind=b.kind)&&decide (a.bits=b.bits))&&decide (a.text=b.text)) (Ah b.pairs)<|vg ((decide (a.kind=b.kind)&&decide (a.bits=b.bits))&&decide (a.text=b.text)) (wa ((((a.list.length+a.pairs.length)+a.slots.length)+a.raws.length)+b.list.length) b.pairs.length)<|wg<|vy ((decide (a.kind=b.kind)&&decide (a.bits=b.bits))&&decide (a.text=b.text)) (Ah b.slots)<|vg ((decide (a.kind=b.kind)&&decide (a.bits=b.bits))&&decide (a.text=b.text)) (wa (((((a.list.length+a.pairs.length)+a.slots.length)+a.raws.length)+b.list.length)+b.pairs.length) b.slots.length)<|wg<|vy ((decide (a.kind=b.kind)&&decide (a.bits=b.bits))&&decide (a.text=b.text)) (Ah b.raws)<|vg ((decide (a.kind=b.kind)&&decide (a.bits=b.bits))&&decide (a.text=b.text)) (wa ((((((a.list.length+a.pairs.length)+a.slots.length)+a.raws.length)+b.list.length)+b.pairs.length)+b.slots.length) b.raws.length)<|lr uD nG (((decide (a.kind=b.kind)&&decide (a.bits=b.bits))&&decide (a.text=b.text))&&decide (((((((((a.list.length+a.pairs.length)+a.slots.length)+a.raws.length)+b.list.length)+b.pairs.length)+b.slots.length)+b.raws.length:Nat):Int)=(0:Int))):PT 0 _).m
theorem sm(a:Val)(b:Val):KC Tryz.prog 129 [.agg ((Ae a).map .d),.agg ((Ae b).map .d)] (em a b) uD:=kC Tryz.func129 Tryz.ntmps129 [.tmp 4] λco m L=>fO co m L
abbrev ux:Bool->AV:=λy=>vB y
def NS(a:ByteArray)(b:Int)(d:Int)(f:Int):Option (Bool):=(vz (A3 a.size)<|GY (decide (b<(a.size:Int))) a b λc=>GY (decide (b<(a.size:Int))&&decide (d<=(c.toNat:Int))) a b λe=>lr ux nG ((decide (b<(a.size:Int))&&decide (d<=(c.toNat:Int)))&&decide ((e.toNat:Int)<=f)):PT 0 _).m
theorem SS(a:ByteArray)(b:Int)(c:Int)(d:Int):KC Tryz.prog 196 [vS a,vI b,.d (.int .u8 c),.d (.int .u8 d)] (NS a b c d) ux:=kC Tryz.func196 Tryz.ntmps196 [.tmp 8] λco m L=>fO co m L
abbrev Uv:Bool->AV:=λy=>vB y
def n1(a:ByteArray)(b:Int)(c:Int):Nat->St:=λd=>Ac [(0,vS a),(1,vI b),(2,vI c),(7,vN d)] []
def nv:Unit->Nat×St:=λ_=>(0,Ac [] [])
def Mx(c:ByteArray)(b:Int)(d:Int):Nat->Option (Lv (Nat) (Unit) (Bool)):=λa=>(br (decide ((a:Int)<d)) (vs (wi (b+(a:Int)))<|cl (SS c (b+(a:Int)) 128 191) λe=>br (!e) (Ar Uv nG false) (vs (wa a 1)<|ln (n1 c b d) (a+1))) (Af (nv) ()):PT 0 _).m
def L8(a:ByteArray)(b:Int)(c:Int):Option (Bool):=(lc (Ac [(0,vS a),(1,vI b),(2,vI c)] []) ((lc (Ac [(0,vS a),(1,vI b),(2,vI c),(7,vI 0)] []) ((Aj (Mx a b c) Ag 0).bind (Sum.elim (λ_=>(lr Uv nG true:PT 0 _).m) some)):PT 0 _).m):PT 0 _).m
theorem Zyn{C:Cx}(co:CO C 0)(a:ByteArray)(b:Int)(c:Int):KL Tryz.prog (At tl) 19 C (pa [0,0,1,0,1] (Au Tryz.f195)) [.tmp 6] 0 (n1 a b c) (nv) Uv nG (Mx a b c):=λe _ m Q Post d L=>eN co (Ay [0,1,2,7]) nl d m L
theorem MJ(a:ByteArray)(b:Int)(c:Int):KC Tryz.prog 195 [vS a,vI b,vI c] (L8 a b c) Uv:=kC Tryz.func195 Tryz.ntmps195 [.tmp 6] λco m L=>mJ co 1 (Ay [0,1,2]) nl nH m L λr g=>λ_ m L=>sq (mJ co 1 (Ay [0,1,2,7]) nl nH m L λr g=>λ_ m L=>bk 0 (lo (Ax (Zyn co a b c) nH m L (λ_ m=>fO co m L))))
abbrev Ig:Int->AV:=λy=>vI y
def QK(c:ByteArray)(b:Int):Option (Int):=(S1 c b λa=>br (decide ((a.toNat:Int)<(128:Int))) (lr Ig nG 1) (vg (decide ((194:Int)<=(a.toNat:Int))&&decide ((a.toNat:Int)<=(223:Int))) (wi (b+1))<|Az (decide ((194:Int)<=(a.toNat:Int))&&decide ((a.toNat:Int)<=(223:Int))) (MJ c (b+1) 1) λj=>br ((decide ((194:Int)<=(a.toNat:Int))&&decide ((a.toNat:Int)<=(223:Int)))&&j) (lr Ig nG 2) (vg (decide ((a.toNat:Int)=(224:Int))) (wi (b+1))<|Az (decide ((a.toNat:Int)=(224:Int))) (SS c (b+1) 160 191) λg=>vg (decide ((a.toNat:Int)=(224:Int))&&g) (wi (b+2))<|Az (decide ((a.toNat:Int)=(224:Int))&&g) (MJ c (b+2) 1) λk=>br ((decide ((a.toNat:Int)=(224:Int))&&g)&&k) (lr Ig nG 3) (vg (decide ((a.toNat:Int)=(237:Int))) (wi (b+1))<|Az (decide ((a.toNat:Int)=(237:Int))) (SS c (b+1) 128 159) λh=>vg (decide ((a.toNat:Int)=(237:Int))&&h) (wi (b+2))<|Az (decide ((a.toNat:Int)=(237:Int))&&h) (MJ c (b+2) 1) λl=>br ((decide ((a.toNat:Int)=(237:Int))&&h)&&l) (lr Ig nG 3) (vg ((decide ((225:Int)<=(a.toNat:Int))&&decide ((a.toNat:Int)<=(239:Int)))&&(!decide ((a.toNat:Int)=(237:Int)))) (wi (b+1))<|Az ((decide ((225:Int)<=(a.toNat:Int))&&decide ((a.toNat:Int)<=(239:Int)))&&(!decide ((a.toNat:Int)=(237:Int)))) (MJ c (b+1) 2) λm=>br (((decide ((225:Int)<=(a.toNat:Int))&&decide ((a.toNat:Int)<=(239:Int)))&&(!decide ((a.toNat:Int)=(237:Int))))&&m) (lr Ig nG 3) (vg (decide ((a.toNat:Int)=(240:Int))) (wi (b+1))<|Az (decide ((a.toNat:Int)=(240:Int))) (SS c (b+1) 144 191) λi=>vg (decide ((a.toNat:Int)=(240:Int))&&i) (wi (b+2))<|Az (decide ((a.toNat:Int)=(240:Int))&&i) (MJ c (b+2) 2) λn=>br ((decide ((a.toNat:Int)=(240:Int))&&i)&&n) (lr Ig nG 4) (vg (decide ((241:Int)<=(a.toNat:Int))&&decide ((a.toNat:Int)<=(243:Int))) (wi (b+1))<|Az (decide ((241:Int)<=(a.toNat:Int))&&decide ((a.toNat:Int)<=(243:Int))) (MJ c (b+1) 3) λe=>br ((decide ((241:Int)<=(a.toNat:Int))&&decide ((a.toNat:Int)<=(243:Int)))&&e) (lr Ig nG 4) (vg (decide ((a.toNat:Int)=(244:Int))) (wi (b+1))<|Az (decide ((a.toNat:Int)=(244:Int))) (SS c (b+1) 128 143) λd=>vg (decide ((a.toNat:Int)=(244:Int))&&d) (wi (b+2))<|Az (decide ((a.toNat:Int)=(244:Int))&&d) (MJ c (b+2) 2) λf=>br ((decide ((a.toNat:Int)=(244:Int))&&d)&&f) (lr Ig nG 4) (lr Ig nG 0)))))))):PT 0 _).m
theorem ZQe(a:ByteArray)(b:Int):KC Tryz.prog 169 [vS a,vI b] (QK a b) Ig:=kC Tryz.func169 Tryz.ntmps169 [.tmp 4] λco m L=>fO co m L
abbrev UC:Int->AV:=λy=>vI y
def nO(a:ByteArray):Int->St:=λb=>Ac [(0,vS a),(3,vI b)] []
def mg:Unit->Nat×St:=λ_=>(0,Ac [] [])
def OF(b:ByteArray):Int->Option (Lv (Int) (Unit) (Int)):=λa=>(vz (A3 b.size)<|br (decide (a<(b.size:Int))) (cl (ZQe b a) λc=>br (decide (c=(0:Int))) (Ar UC nG a) (vs (wi (a+c))<|ln (nO b) (a+c))) (Af (mg) ()):PT 0 _).m
def Vq(a:ByteArray):Option (Int):=(lc (Ac [(0,vS a)] []) ((lc (Ac [(0,vS a),(3,vI 0)] []) ((Aj (OF a) Ag 0).bind (Sum.elim (λ_=>(lr UC nG (-1):PT 0 _).m) some)):PT 0 _).m):PT 0 _).m
theorem Zyy{C:Cx}(co:CO C 0)(a:ByteArray):KL Tryz.prog (At tl) 18 C (pa [0,0,1,0,1] (Au Tryz.f132)) [.tmp 2] 0 (nO a) (mg) UC nG (OF a):=λc _ m Q Post b L=>eN co (Ay [0,3]) nl b m L
theorem ZQp(a:ByteArray):KC Tryz.prog 132 [vS a] (Vq a) UC:=kC Tryz.func132 Tryz.ntmps132 [.tmp 2] λco m L=>mJ co 1 (Ay [0]) nl nH m L λr g=>λ_ m L=>sq (mJ co 1 (Ay [0,3]) nl nH m L λr g=>λ_ m L=>bk 0 (lo (Ax (Zyy co a) nH m L (λ_ m=>fO co m L))))
abbrev kM:Bool->AV:=λy=>vB y
def NU(a:ByteArray):Option (Bool):=(cl (ZQp a) λb=>lr kM nG (decide (b<(0:Int))):PT 0 _).m
theorem ur(a:ByteArray):KC Tryz.prog 89 [vS a] (NU a) kM:=kC Tryz.func89 Tryz.ntmps89 [.tmp 2] λco m L=>fO co m L
abbrev sW:Bool->AV:=λy=>vB y
def L9(a:Int):Option (Bool):=(lr sW nG (decide ((1:Int)<=a)&&decide (a<=(9:Int))):PT 0 _).m
theorem bU(a:Int):KC Tryz.prog 137 [vI a] (L9 a) sW:=kC Tryz.func137 Tryz.ntmps137 [.tmp 2] λco m L=>fO co m L
abbrev sV:Bool->AV:=λy=>vB y
def QH(a:Val):Option (Bool):=(wg<|vz (Ah a.list)<|wg<|vy (decide ((a.list.length:Int)=(0:Int))) (Ah a.pairs)<|wg<|vy (decide ((a.list.length:Int)=(0:Int))&&decide ((a.pairs.length:Int)=(0:Int))) (Ah a.slots)<|wg<|vy ((decide ((a.list.length:Int)=(0:Int))&&decide ((a.pairs.length:Int)=(0:Int)))&&decide ((a.slots.length:Int)=(0:Int))) (Ah a.raws)<|lr sV nG (((decide ((a.list.length:Int)=(0:Int))&&decide ((a.pairs.length:Int)=(0:Int)))&&decide ((a.slots.length:Int)=(0:Int)))&&decide ((a.raws.length:Int)=(0:Int))):PT 0 _).m
theorem oJ(a:Val):KC Tryz.prog 138 [.agg ((Ae a).map .d)] (QH a) sV:=kC Tryz.func138 Tryz.ntmps138 [.tmp 2] λco m L=>fO co m L
abbrev uw:Bool->AV:=λy=>vB y
def L6(a:Int):Option (Bool):=(lr uw nG (decide (a=(7:Int))||decide (a=(8:Int))):PT 0 _).m
theorem Zn(a:Int):KC Tryz.prog 165 [vI a] (L6 a) uw:=kC Tryz.func165 Tryz.ntmps165 [.tmp 2] λco m L=>fO co m L
abbrev Jt:Bool->AV:=λy=>vB y
def KH(b:Int)(a:Val):Option (Bool):=(cl (bU b) λc=>wg<|wg<|Az (!((!c)||(!decide (a.kind=b)))) (oJ a) λd=>br (((!c)||(!decide (a.kind=b)))||(!d)) (lr Jt nG false) (cl (Zn b) λe=>br e (wg<|wg<|vy (decide (a.bits=(0:Int))) (A3 a.text.size)<|wg<|Az ((decide (a.bits=(0:Int))&&decide ((a.text.size:Int)<=(4096:Int)))&&(!(decide (b=(8:Int))))) (ur a.text) λf=>lr Jt nG ((decide (a.bits=(0:Int))&&decide ((a.text.size:Int)<=(4096:Int)))&&(decide (b=(8:Int))||f))) (wg<|br (!decide (a.text=(⟨#[]⟩:ByteArray))) (lr Jt nG false) (br (decide (b=(1:Int))) (wg<|lr Jt nG (decide (a.bits<=(1:Int)))) (br (decide (b=(2:Int))) (wg<|vz (wk .i64 a.bits)<|lr Jt nG (decide (((-2147483648):Int)<=(IntKind.i64.wrap a.bits))&&decide ((IntKind.i64.wrap a.bits)<=(2147483647:Int)))) (br (decide (b=(4:Int))) (wg<|lr Jt nG (decide (a.bits<(4294967296:Int)))) (br (decide (b=(9:Int))) (wg<|lr Jt nG (decide (a.bits<(2147483648:Int)))) (lr Jt nG true))))))):PT 0 _).m
theorem ba(a:Int)(b:Val):KC Tryz.prog 130 [vI a,.agg ((Ae b).map .d)] (KH a b) Jt:=kC Tryz.func130 Tryz.ntmps130 [.tmp 4] λco m L=>fO co m L
abbrev dG(a:Scm):Ad×Blk:=kk 2 26 3 (cD (Al a))
abbrev ct(a:Fld):Ad×Blk:=kk 5 33 7 (cD (Ae a.dflt))
abbrev JZ:Bool->AV:=λy=>vB y
def ra(a:Scm)(b:Fld)(d:Int):Nat->St:=λc=>Ac [pp 2,pp 5,(6,vI d),(7,vN c)] [(dG a),(ct b)]
def rK:Unit->Nat×St:=λ_=>(0,Ac [] [])
def Zt(b:Scm)(f:Fld)(c:Int):Nat->Option (Lv (Nat) (Unit) (Bool)):=λa=>(wg<|CB b.enums c λd=>vz (Ah d.items)<|br (decide ((a:Int)<(d.items.length:Int))) (wg<|CB b.enums c λg=>ix g.items a λe=>vz (wk .u64 e.num)<|wg<|br (decide ((IntKind.u64.wrap e.num)=f.dflt.bits)) (Ar JZ nG true) (vs (wa a 1)<|ln (ra b f c) (a+1))) (Af (rK) ()):PT 0 _).m
def eE(b:Scm)(a:Fld):Option (Bool):=(wg<|wg<|wg<|br (!a.hasDefault) (wg<|cl ((sm a.dflt (.mk 0 0 ⟨#[]⟩ ([]:List Val) ([]:List Pr) ([]:List Slt) ([]:List Raw):Val)).nrm (λ_ _ _ h=>.nrm h) (xs':=[.agg ((Ae a.dflt).map .d),.agg [vI 0,.d (.int .u64 0),vS ⟨#[]⟩,.e0,.e0,.e0,.e0]]) (by intro r;kernel_rfl)) λe=>lr JZ nG e) (wg<|wg<|wg<|wg<|Az (!((!decide (a.card=(2:Int)))||(!decide (a.union=(⟨#[]⟩:ByteArray))))) (ba a.type.kind a.dflt) λd=>wg<|wg<|Az (!(((!decide (a.card=(2:Int)))||(!decide (a.union=(⟨#[]⟩:ByteArray))))||(!d))) (dX a.dflt) λf=>Az (!(((!decide (a.card=(2:Int)))||(!decide (a.union=(⟨#[]⟩:ByteArray))))||(!d))) (sm a.dflt f) λg=>br ((((!decide (a.card=(2:Int)))||(!decide (a.union=(⟨#[]⟩:ByteArray))))||(!d))||(!g)) (lr JZ nG false) (wg<|wg<|cl (rx b a.type.name) λc=>wg<|br (!decide (a.type.kind=(9:Int))) (lr JZ nG true) (br (decide (c<(0:Int))) (lr JZ nG false) (lc (Ac [pp 2,pp 5,(6,vI c)] [(dG b),(ct a)]) ((lc (Ac [pp 2,pp 5,(6,vI c),(7,vI 0)] [(dG b),(ct a)]) ((Aj (Zt b a c) Ag 0).bind (Sum.elim (λ_=>(lr JZ nG false:PT 0 _).m) some)):PT 0 _).m))))):PT 0 _).m
theorem ZDF{C:Cx}(co:CO C 0)(a:Scm)(b:Fld)(c:Int):KL Tryz.prog (At tl) 75 C (pa [0,0,1,0,1,1,1,1,1,1,1] (Au Tryz.f86)) [.tmp 4] 0 (ra a b c) (rK) JZ nG (Zt a b c):=λe _ m Q Post d L=>eN co (Aa [2,5,6,7] MW) nl d m L
theorem ZSX(a:Scm)(b:Fld):KC Tryz.prog 86 [.agg ((Al a).map .d),.agg ((As b).map .d)] (eE a b) JZ:=kC Tryz.func86 Tryz.ntmps86 [.tmp 4] λco m L=>mJ co 7 (Aa [2,5,6] MW) nl nH m L λr g=>⟨λd=>id,λe=>λf=>λh=>⟨id,λc=>⟨id,⟨id,λ_ m L=>sq (mJ co 1 (Aa [2,5,6,7] MW) nl nH m L λr g=>λ_ m L=>bk 0 (lo (Ax (ZDF co a b c) nH m L (λ_ m=>fO co m L))))⟩⟩⟩⟩
abbrev zL:ByteArray:=⟨#[115,105,110,99,101]⟩
abbrev zN:ByteArray:=⟨#[109,105,110]⟩
abbrev lb3:ByteArray:=⟨#[109,97,120]⟩
abbrev zO:ByteArray:=⟨#[117,110,116,105,108]⟩
abbrev zP:ByteArray:=⟨#[108,101,110,103,116,104]⟩
abbrev lb6:ByteArray:=⟨#[116,105,109,101,111,117,116]⟩
abbrev zQ:ByteArray:=⟨#[97,108,105,97,115]⟩
abbrev zR:ByteArray:=⟨#[114,111,117,116,101]⟩
abbrev Ex:Int->AV:=λy=>vI y
def Q1(a:ByteArray):PT 0 (Int):=br (decide (a=zN)) (br (decide (a=zN)) (lr Ex nG 3) (lr Ex nG 0)) (br (decide (a=lb3)) (lr Ex nG 3) (lr Ex nG 0))
def Ra(a:ByteArray):PT 0 (Int):=br (decide (a=zL)) (br (decide (a=zL)) (lr Ex nG 4) (Q1 a)) (br (decide (a=zO)) (br (decide (a=zO)) (lr Ex nG 4) (Q1 a)) (br (decide (a=zP)) (br (decide (a=zP)) (lr Ex nG 4) (Q1 a)) (br (decide (a=lb6)) (lr Ex nG 4) (Q1 a))))
def Wg(a:ByteArray):PT 0 (Int):=br (decide (a=(⟨#[100,111,99]⟩:ByteArray))) (br (decide (a=(⟨#[100,111,99]⟩:ByteArray))) (lr Ex nG 7) (Ra a)) (br (decide (a=zQ)) (br (decide (a=zQ)) (lr Ex nG 7) (Ra a)) (br (decide (a=zR)) (br (decide (a=zR)) (lr Ex nG 7) (Ra a)) (br (decide (a=(⟨#[111,119,110,101,114]⟩:ByteArray))) (lr Ex nG 7) (Ra a))))
def eK(a:ByteArray):Option (Int):=(br (decide (a=(⟨#[100,101,112,114,101,99,97,116,101,100]⟩:ByteArray))) (br (decide (a=(⟨#[100,101,112,114,101,99,97,116,101,100]⟩:ByteArray))) (lr Ex nG 1) (Wg a)) (br (decide (a=(⟨#[115,101,99,114,101,116]⟩:ByteArray))) (br (decide (a=(⟨#[115,101,99,114,101,116]⟩:ByteArray))) (lr Ex nG 1) (Wg a)) (br (decide (a=(⟨#[105,100,101,109,112,111,116,101,110,116]⟩:ByteArray))) (lr Ex nG 1) (Wg a))):PT 0 _).m
theorem pB(a:ByteArray):KC Tryz.prog 166 [vS a] (eK a) Ex:=kC Tryz.func166 Tryz.ntmps166 [.tmp 2] λco m L=>fO co m L
abbrev zS:ByteArray:=⟨#[109,105,110]⟩
abbrev tu:ByteArray:=⟨#[105,100,101,109,112,111,116,101,110,116]⟩
abbrev tC:ByteArray:=⟨#[116,105,109,101,111,117,116]⟩
abbrev ZTK:ByteArray:=⟨#[114,111,117,116,101]⟩
abbrev uf:ByteArray:=⟨#[109,97,120]⟩
abbrev sY:ByteArray:=⟨#[108,101,110,103,116,104]⟩
abbrev ZUc:ByteArray:=⟨#[115,101,99,114,101,116]⟩
abbrev JI:Bool->AV:=λy=>vB y
def VD(a:Int):PT 0 (Bool):=lr JI nG (decide (a=(1:Int))||decide (a=(5:Int)))
def Q4(b:ByteArray)(a:Int):PT 0 (Bool):=br (decide (b=tu)) (br (decide (b=tu)) (lr JI nG (decide (a=(6:Int)))) (VD a)) (br (decide (b=tC)) (br (decide (b=tC)) (lr JI nG (decide (a=(6:Int)))) (VD a)) (br (decide (b=ZTK)) (lr JI nG (decide (a=(6:Int)))) (VD a)))
def Q3(a:Int):PT 0 (Bool):=lr JI nG (decide (a=(2:Int)))
def Wc(a:ByteArray)(b:Int):PT 0 (Bool):=br (decide (a=zS)) (br (decide (a=zS)) (Q3 b) (Q4 a b)) (br (decide (a=uf)) (br (decide (a=uf)) (Q3 b) (Q4 a b)) (br (decide (a=sY)) (br (decide (a=sY)) (Q3 b) (Q4 a b)) (br (decide (a=ZUc)) (Q3 b) (Q4 a b))))
def VN(a:Int):PT 0 (Bool):=lr JI nG ((decide (a=(2:Int))||decide (a=(4:Int)))||decide (a=(6:Int)))
def gk(a:ByteArray)(b:Int):PT 0 (Bool):=br (decide (a=(⟨#[97,108,105,97,115]⟩:ByteArray))) (br (decide (a=(⟨#[97,108,105,97,115]⟩:ByteArray))) (VN b) (Wc a b)) (br (decide (a=(⟨#[115,105,110,99,101]⟩:ByteArray))) (br (decide (a=(⟨#[115,105,110,99,101]⟩:ByteArray))) (VN b) (Wc a b)) (br (decide (a=(⟨#[117,110,116,105,108]⟩:ByteArray))) (VN b) (Wc a b)))
def eL(b:ByteArray)(a:Int):Option (Bool):=(br (decide (b=(⟨#[100,101,112,114,101,99,97,116,101,100]⟩:ByteArray))) (br (decide (b=(⟨#[100,101,112,114,101,99,97,116,101,100]⟩:ByteArray))) (lr JI nG (decide ((1:Int)<=a)&&decide (a<=(6:Int)))) (gk b a)) (br (decide (b=(⟨#[100,111,99]⟩:ByteArray))) (lr JI nG (decide ((1:Int)<=a)&&decide (a<=(6:Int)))) (gk b a)):PT 0 _).m
theorem ZQb(a:ByteArray)(b:Int):KC Tryz.prog 167 [vS a,vI b] (eL a b) JI:=kC Tryz.func167 Tryz.ntmps167 [.tmp 4] λco m L=>fO co m L
abbrev tN:Bool->AV:=λy=>vB y
def eF(b:Nt):Option (Bool):=(wg<|cl (pB b.name) λa=>wg<|wg<|Az ((!decide (a=(0:Int)))&&decide (b.val.kind=a)) (ba a b.val) λc=>lr tN nG (((!decide (a=(0:Int)))&&decide (b.val.kind=a))&&c):PT 0 _).m
theorem ZO6(a:Nt):KC Tryz.prog 168 [.agg ((Co a).map .d)] (eF a) tN:=kC Tryz.func168 Tryz.ntmps168 [.tmp 2] λco m L=>fO co m L
abbrev Jm:Int->AV:=λy=>vI y
def mV(a:List Nt)(b:Int):Nat->St:=λc=>Ac [(0,vL Co a),(1,vI b),(5,vN c)] []
def n5:Unit->Nat×St:=λ_=>(0,Ac [] [])
def Xt(b:List Nt)(e:Int):Nat->Option (Lv (Nat) (Unit) (Int)):=λa=>(vz (Ah b)<|br (decide ((a:Int)<(b.length:Int))) (ix b a λf=>cl (pB f.name) λk=>br (decide (k=(0:Int))) (Ar Jm nG 8) (ix b a λg=>cl (ZQb g.name e) λl=>br (!l) (Ar Jm nG 1) (ix b a λh=>cl (ZO6 h) λm=>br (!m) (Ar Jm nG 12) (AZ (decide ((0:Int)<(a:Int))) b (a:Int) λi=>vg (decide ((0:Int)<(a:Int))) (wi ((a:Int)-1))<|AZ (decide ((0:Int)<(a:Int))) b ((a:Int)-1) λj=>br (decide ((0:Int)<(a:Int))&&BB i.name j.name) (Ar Jm nG 11) (AZ (decide ((0:Int)<(a:Int))) b (a:Int) λc=>vg (decide ((0:Int)<(a:Int))) (wi ((a:Int)-1))<|AZ (decide ((0:Int)<(a:Int))) b ((a:Int)-1) λd=>br (decide ((0:Int)<(a:Int))&&decide (c.name=d.name)) (Ar Jm nG 9) (vs (wa a 1)<|ln (mV b e) (a+1))))))) (Af (n5) ()):PT 0 _).m
def eD(a:List Nt)(b:Int):Option (Int):=(vz (Ah a)<|br (decide ((8:Int)<(a.length:Int))) (lr Jm nG 3) (lc (Ac [(0,vL Co a),(1,vI b)] []) ((lc (Ac [(0,vL Co a),(1,vI b),(5,vI 0)] []) ((Aj (Xt a b) Ag 0).bind (Sum.elim (λ_=>(lr Jm nG 0:PT 0 _).m) some)):PT 0 _).m)):PT 0 _).m
theorem Zzf{C:Cx}(co:CO C 0)(a:List Nt)(b:Int):KL Tryz.prog (At tl) 68 C (pa [0,0,1,0,1,1] (Au Tryz.f131)) [.tmp 4] 0 (mV a b) (n5) Jm nG (Xt a b):=λd _ m Q Post c L=>eN co (Ay [0,1,5]) nl c m L
theorem ZO9(a:List Nt)(b:Int):KC Tryz.prog 131 [vL Co a,vI b] (eD a b) Jm:=kC Tryz.func131 Tryz.ntmps131 [.tmp 4] λco m L=>mJ co 2 (Ay [0,1]) nl nH m L λr g=>⟨id,λ_ m L=>sq (mJ co 1 (Ay [0,1,5]) nl nH m L λr g=>λ_ m L=>bk 0 (lo (Ax (Zzf co a b) nH m L (λ_ m=>fO co m L))))⟩
abbrev kL:List Prb->AV:=λy=>.tup []
@[reducible] def kV(a:ByteArray):List Prb->List Blk:=λy=>[⟨0,true,74,2,[vS a,.ref (0,1) 0 0 y.length]⟩,⟨0,true,133,3,Ab Ak y⟩]
def bW(a:ByteArray)(b:List Prb):PT 2 (List Prb):=lr kL (kV a) b
def IK(a:ByteArray)(b:List Prb)(f:List Nt)(g:Int)(e:Int):Option (List Prb):=(cl (ZO9 f g) λc=>vz (fl b)<|lc (Ac [(0,.ptr (0,0) 0 0),(3,vI e),(8,vI c)] [((0,0),⟨0,true,74,2,[vS a,.ref (0,1) 0 0 b.length]⟩),((0,1),⟨0,true,133,3,Ab Ak b⟩)]) ((vz (fl b)<|lc (Ac [(12,.ptr (0,0) 0 0),(14,vB (!decide (c=(0:Int)))),(15,vI e),(16,vI c)] [((0,0),⟨0,true,74,2,[vS a,.ref (0,1) 0 0 b.length]⟩),((0,1),⟨0,true,133,3,Ab Ak b⟩)]) ((BH a b (!decide (c=(0:Int))) e c).bind λd=>(vz (fl d)<|lc (Ac [] [((0,0),⟨0,true,74,2,[vS a,.ref (0,1) 0 0 d.length]⟩),((0,1),⟨0,true,133,3,Ab Ak d⟩)]) ((bW a d).m):PT 2 _).m):PT 2 _).m):PT 2 _).m
theorem Nw(a:ByteArray)(b:List Prb)(d:List Nt)(e:Int)(c:Int):KG Tryz.prog 87 2 [1] [(1,0)] [.ptr (0,0) 0 0,vL Co d,vI e,vI c] [⟨0,true,74,2,[vS a,.ref (0,1) 0 0 b.length]⟩,⟨0,true,133,3,Ab Ak b⟩] (IK a b d e c) kL (kV a):=j5 Tryz.func87 Tryz.ntmps87 AJ [] 2 [1] [0] [(1,0)] (λC co h y m Post L=>mJ co 1 (Aa [0,3,8] F5) nl nH m L λr g=>λf=>λ_ m L=>rg (pR co 5 (Aa [12,14,15,16] F5) m L λr g=>λ_ m L=>Br co m (BX a b (!decide (f=(0:Int))) c f) [((0,0),⟨0,true,74,2,[vS a,.ref (0,1) 0 0 b.length]⟩),((0,1),⟨0,true,133,3,Ab Ak b⟩)] [] (λz=>.tup []) (λz=>[((0,0),⟨0,true,74,2,[vS a,.ref (0,1) 0 0 z.length]⟩),((0,1),⟨0,true,133,3,Ab Ak z⟩)]) [] λi m=>eR co (Aa [] F5) m L λr g=>λ_ m L=>Cb (bW a i) co m L (λr g=>id) r g))
abbrev Vg(a:ByteArray)(b:List Prb):Ad×Blk:=((0,0),⟨0,true,74,2,[vS a,.ref (0,1) 0 0 b.length]⟩)
abbrev ZW:List Prb->AV:=λy=>.tup []
@[reducible] def Z5(a:ByteArray):List Prb->List Blk:=λy=>[⟨0,true,74,2,[vS a,.ref (0,1) 0 0 y.length]⟩,⟨0,true,133,3,Ab Ak y⟩]
def rm(a:ByteArray)(c:List Spn)(d:Int)(e:Int):Nat×List Prb->St:=λ(f,b)=>Ac [(0,.ptr (0,0) 0 0),(1,vL CZ c),(2,vI d),(3,vI e),(8,vN f)] [(Vg a b),((0,1),⟨0,true,133,3,Ab Ak b⟩)]
def oU(a:ByteArray):List Prb->Nat×St:=λb=>(0,Ac [] [((0,0),⟨0,true,74,2,[vS a,.ref (0,1) 0 0 b.length]⟩),((0,1),⟨0,true,133,3,Ab Ak b⟩)])
def bc(a:ByteArray)(d:List Spn)(f:Int)(g:Int)(b:Nat)(e:List Prb):PT 2 (Lv (Nat×List Prb) (List Prb) (List Prb)):=AZ (decide ((0:Int)<(b:Int))) d (b:Int) λh=>vg (decide ((0:Int)<(b:Int))) (wi ((b:Int)-1))<|AZ (decide ((0:Int)<(b:Int))) d ((b:Int)-1) λi=>vz (fl e)<|lc (Ac [(0,.ptr (0,0) 0 0),(1,vL CZ d),(2,vI f),(3,vI g),(8,vN b),(46,.ptr (0,0) 0 0),(62,vB (decide ((0:Int)<(b:Int))&&decide (h.lo<=i.hi)))] [((0,0),⟨0,true,74,2,[vS a,.ref (0,1) 0 0 e.length]⟩),((0,1),⟨0,true,133,3,Ab Ak e⟩)]) ((BH a e (decide ((0:Int)<(b:Int))&&decide (h.lo<=i.hi)) (-1) 11).bind λc=>(vz (fl c)<|lc (Ac [(0,.ptr (0,0) 0 0),(1,vL CZ d),(2,vI f),(3,vI g),(8,vN b)] [((0,0),⟨0,true,74,2,[vS a,.ref (0,1) 0 0 c.length]⟩),((0,1),⟨0,true,133,3,Ab Ak c⟩)]) ((vs (wa b 1)<|vz (fl c)<|ln (rm a d f g) (b+1,c):PT 2 _).m):PT 2 _).m)
def bA(a:ByteArray)(c:List Spn)(b:Int)(d:Int)(e:Nat)(h:List Prb):PT 2 (Lv (Nat×List Prb) (List Prb) (List Prb)):=ix c e λf=>AZ (!(decide (f.lo<b))) c (e:Int) λg=>AZ (!(decide (f.lo<b)||decide (d<g.hi))) c (e:Int) λj=>AZ (!(decide (f.lo<b)||decide (d<g.hi))) c (e:Int) λk=>vz (fl h)<|lc (Ac [(0,.ptr (0,0) 0 0),(1,vL CZ c),(2,vI b),(3,vI d),(8,vN e),(15,.ptr (0,0) 0 0),(44,vB ((decide (f.lo<b)||decide (d<g.hi))||decide (k.hi<j.lo)))] [(Vg a h),((0,1),⟨0,true,133,3,Ab Ak h⟩)]) ((BH a h ((decide (f.lo<b)||decide (d<g.hi))||decide (k.hi<j.lo)) (-1) 6).bind λi=>(vz (fl i)<|lc (Ac [(0,.ptr (0,0) 0 0),(1,vL CZ c),(2,vI b),(3,vI d),(8,vN e)] [((0,0),⟨0,true,74,2,[vS a,.ref (0,1) 0 0 i.length]⟩),((0,1),⟨0,true,133,3,Ab Ak i⟩)]) ((bc a c b d e i).m):PT 2 _).m)
def XV(a:ByteArray)(c:List Spn)(e:Int)(f:Int):Nat×List Prb->Option (Lv (Nat×List Prb) (List Prb) (List Prb)):=λ(d,b)=>(vz (Ah c)<|br (decide ((d:Int)<(c.length:Int))) (vz (fl b)<|lc (Ac [(0,.ptr (0,0) 0 0),(1,vL CZ c),(2,vI e),(3,vI f),(8,vN d)] [(Vg a b),((0,1),⟨0,true,133,3,Ab Ak b⟩)]) ((bA a c e f d b).m)) (vz (fl b)<|Af (oU a) b):PT 2 _).m
def bJ(a:ByteArray)(b:List Prb):PT 2 (List Prb):=lr ZW (Z5 a) b
def QB(a:ByteArray)(b:List Prb)(d:List Spn)(e:Int)(f:Int):Option (List Prb):=(vz (fl b)<|lc (Ac [(0,.ptr (0,0) 0 0),(1,vL CZ d),(2,vI e),(3,vI f),(8,vI 0)] [((0,0),⟨0,true,74,2,[vS a,.ref (0,1) 0 0 b.length]⟩),((0,1),⟨0,true,133,3,Ab Ak b⟩)]) ((Aj (XV a d e f) Ag (0,b)).bind (Sum.elim (λc=>(bJ a c).m) some)):PT 2 _).m
theorem ZFn{C:Cx}(co:COx C 2 [0])(q:J0 C.κ [(1,0)])(a:ByteArray)(d:List Spn)(b:Int)(c:Int):KL Tryz.prog (At tl) 64 C (pa [0,0,1] (Au Tryz.f88)) [] 2 (rm a d b c) (oU a) ZW (Z5 a) (XV a d b c):=λ(h,e) _ m Q Post i L=>mJ co 1 (Aa [0,1,2,3,8] F5) (Aa [] F5) i m L λr g=>⟨λ_ m L=>sq (bk 1 (sq (F0 co AJ BS 30 (bA a d b c h e) (Aa [0,1,2,3,8,15,44] F5) m L λr g=>λj=>λk=>λl=>λn=>λ_ m L=>Br co m (BX a e ((decide (j.lo<b)||decide (c<k.hi))||decide (n.hi<l.lo)) (-1) 6) [(Vg a e),((0,1),⟨0,true,133,3,Ab Ak e⟩)] [] (λz=>.tup []) (λz=>[((0,0),⟨0,true,74,2,[vS a,.ref (0,1) 0 0 z.length]⟩),((0,1),⟨0,true,133,3,Ab Ak z⟩)]) [] λf m=>eR co (Aa [0,1,2,3,8] F5) m L λr g=>λ_ m L=>F0 co AJ BS 17 (bc a d b c h f) (Aa [0,1,2,3,8,46,62] F5) m L λr g=>λo=>λp=>λ_ m L=>Br co m (BX a f (decide ((0:Int)<(h:Int))&&decide (o.lo<=p.hi)) (-1) 11) [((0,0),⟨0,true,74,2,[vS a,.ref (0,1) 0 0 f.length]⟩),((0,1),⟨0,true,133,3,Ab Ak f⟩)] [] (λz=>.tup []) (λz=>[((0,0),⟨0,true,74,2,[vS a,.ref (0,1) 0 0 z.length]⟩),((0,1),⟨0,true,133,3,Ab Ak z⟩)]) [] λs m=>eR co (Aa [0,1,2,3,8] F5) m L λr g=>λ_ m L=>eN co (Aa [0,1,2,3,8] F5) nl i m L))),id⟩
theorem tc(a:ByteArray)(b:List Prb)(d:List Spn)(e:Int)(f:Int):KG Tryz.prog 88 2 [1] [(1,0)] [.ptr (0,0) 0 0,vL CZ d,vI e,vI f] [⟨0,true,74,2,[vS a,.ref (0,1) 0 0 b.length]⟩,⟨0,true,133,3,Ab Ak b⟩] (QB a b d e f) ZW (Z5 a):=j5 Tryz.func88 Tryz.ntmps88 AJ [] 2 [1] [0] [(1,0)] (λC co c y m Post L=>mJ co 1 (Aa [0,1,2,3,8] F5) nl nH m L λr g=>λ_ m L=>bk 0 (lo (Ax (ZFn co c a d e f) nH m L (λh m=>Cb (bJ a h) co m L (λr g=>id) r g))))
end Go.Proofs.YthcplkfhnnlafaaGreat
