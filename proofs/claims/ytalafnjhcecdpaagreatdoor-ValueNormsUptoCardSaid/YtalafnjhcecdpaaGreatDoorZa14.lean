import Derived.Test.YtalafnjhcecdpaaGreatDoorZa12
import Derived.Test.YtalafnjhcecdpaaGreatDoorZa13
import Derived.Test.YtalafnjhcecdpaaGreatDoorZa00
namespace Go.Proofs.YtalafnjhcecdpaaGreatDoor
set_option maxRecDepth 100000
set_option linter.all false
open Go Go.Eng
section
variable {n os:Nat} {C:Cx} {τ:St} {Q:Exit->St->Prop} {p:List Nat} {b c:Code} {β:Type} {Post:AV->List Blk->Prop} {rs:List ResultVar} {L:β->Prop} {y:β}
theorem mJ{fx:List Nat}(co:COx C os fx)(m:Nat){v:PT os β}(lf a:Lf)(d:∀τ,FQ (As tl) rs os Post .ret τ->Q .ret τ)(i:v.m=some y)(c:HL L y)
 (f:∀r (g:Gd C r),v.n ⟨⟨C.l,r,λe τ'=>match e with|.normal=>LW Tryz.prog n C (pa (up m p) b) τ' Q|e=>Q e τ',Post⟩,L,C,_,co,g,rfl⟩)
 (h:∀l r Q Post,O7 Tryz.prog (As tl) l n os r m (pa p b) v.a τ (KB (As tl) rs os fx r Post lf a Q)=v.q ⟨l,r,Q,Post⟩:=by intro l r Q P;kernel_rfl) (hl:RF m (pa p b)=true:=by kernel_rfl):LW Tryz.prog n C (pa p b) τ Q:=pP co AI BK m v lf a d i c f h hl
theorem eN{fx:List Nat}(co:COx C os fx){v:PT os β}(lf a:Lf)(e:∀τ,FQ (As tl) rs os Post .ret τ->Q .ret τ)(h:v.m=some y)(d:HL L y)
 (f:∀r (g:Gd C r),v.n ⟨⟨C.l,r,Q,Post⟩,L,C,_,co,g,rfl⟩:=by
  intro r g
  repeat' (first|exact id|exact trivial|refine⟨?_,?_⟩|intro _|(rename_i b h;subst h;cases b<;>rfl))) (i:∀l r Q Post,CT Tryz.prog (As tl) l n os r c v.a τ (KB (As tl) rs os fx r Post lf a Q)=v.q ⟨l,r,Q,Post⟩:=by intro l r Q P;kernel_rfl):LW Tryz.prog n C c τ Q:=ZQy co AI BK v lf a e h d f i
theorem fO {fx:List Nat} (co:COx C os fx) {v:PT os β} (h:v.m=some y) (a:HL L y) (d:∀r (g:Gd C r),v.n ⟨⟨C.l,r,λ_ _=>False,Post⟩,L,C,_,co,g,rfl⟩:=by
  intro r g
  repeat' (first|exact id|exact trivial|refine⟨?_,?_⟩|intro _|(rename_i b h;subst h;cases b<;>rfl)))
 (e:∀l r Q Post,CT Tryz.prog (As tl) l n os r c v.a τ (KF (As tl) rs os Post)=v.q ⟨l,r,Q,Post⟩:=by intro l r Q P;kernel_rfl):LW Tryz.prog n C c τ (FQ (As tl) rs os Post):=ZRw co AI BK v h a d e
theorem pR{k:Nat}{fx:List Nat}(co:COx C os fx)(m:Nat){v:PT os β}(lf:Lf)(h:v.m=some y)(d:HL L y)(e:∀r (g:Gd C r),v.n ⟨⟨C.l,r,λ_ τ'=>LO Tryz.prog n C c (k+m) τ' Q,λ_ _=>False⟩,L,C,_,co,g,rfl⟩)
 (f:∀l r Q Post,A9 r os v.a τ (λτ a=>Gg Tryz.prog (As tl) l n r ((B6 c).toList.map (·.dst)) (Ix m (HA k (B6 c).toList)) [] a (λτ' env b=>A9 r os b (DS env τ') (λτ _=>Ei fx lf τ (Q .normal))) τ)=v.q ⟨l,r,Q,Post⟩:=by intro l r Q P;kernel_rfl):LO Tryz.prog n C c k τ Q:=ZRG co AI m v lf h d e f
theorem eR {k:Nat} {fx:List Nat} (co:COx C os fx) {v:PT os β} (lf:Lf) (j:v.m=some y) (e:HL L y) (f:∀r (g:Gd C r),v.n ⟨⟨C.l,r,Q,λ_ _=>False⟩,L,C,_,co,g,rfl⟩:=by
  intro r g
  repeat' (first|exact id|exact trivial|refine⟨?_,?_⟩|intro _|(rename_i b h;subst h;cases b<;>rfl)))
 (i:∀l r Q Post,A9 r os v.a τ (λτ a=>Gg Tryz.prog (As tl) l n r ((B6 c).toList.map (·.dst)) (HA k (B6 c).toList) [] a (λτ' env d=>A9 r os d (DS env τ') (λτ _=>Ei fx lf τ (Q .normal))) τ)=v.q ⟨l,r,Q,Post⟩:=by intro l r Q P;kernel_rfl):LO Tryz.prog n C c k τ Q:=ZQv co AI v lf j e f i
theorem cM{fx:List Nat}(co:COx C os fx){v:PT os β}(lf:Lf)(e:v.m=some y)(a:HL L y)(b:∀r (g:Gd C r),v.n ⟨⟨C.l,r,λ_ τ'=>LW Tryz.prog n C c τ' Q,λ_ _=>False⟩,L,C,_,co,g,rfl⟩)
 (d:∀l r Q Post,A9 r os v.a τ (λτ _=>Ei fx lf τ (Q .normal))=v.q ⟨l,r,Q,Post⟩:=by intro l r Q P;kernel_rfl):LW Tryz.prog n C c τ Q:=ZRv co v lf e a b d
theorem kC{f:FuncId}{fn:Func}{xs:List AV}{γ:Type}{M:Option γ}{e:γ->AV}(c:Tryz.prog.funcs[f]?=some fn)(d:fn.ntmps=n)(rs:List ResultVar)
  (h:∀{C:Cx} {y:γ} {Post:AV->List Blk->Prop},CO C 0->M=some y->HL (λy=>Post (e y) []) y->LW Tryz.prog n C (pa [] (At fn)) (Ab (DQ 0 xs) []) (FQ (As tl) rs 0 Post))
  (hx:∀r,Ao r xs=xs:=by intro r;kernel_rfl) (he:∀r y,ren r (e y)=e y:=by intro r y;kernel_rfl)
  (b:fn.body=some (At fn):=by kernel_rfl) (a:(fn.name== "runtime.NumGoroutine")=false:=by kernel_rfl) (g:fn.results.toList=rs:=by kernel_rfl) (hl:Nat.ble xs.length n=true:=by kernel_rfl):KC Tryz.prog f xs M e:=Cu c d AI rs (λC co y m Post L=>h co m L) hx he b a g hl
theorem kO{f:FuncId}{fn:Func}{ys:List AV}{c:List Blk}{Θ:Cl}{γ:Type}{M:Option γ}{e:γ->AV}{b:γ->List Blk}(k:Tryz.prog.funcs[f]?=some fn)(l:fn.ntmps=n)(rs:List ResultVar)(os:Nat)
  (h:∀{C:Cx} {y:γ} {Post:AV->List Blk->Prop},CO C os->Θ C.no C.l C.H0 C.θ->M=some y->HL (λy=>Post (e y) (b y)) y->LW Tryz.prog n C (pa [] (At fn)) (Ab (DQ 0 ys) (DF 0 c)) (FQ (As tl) rs os Post))
  (he:∀y,Ku os (e y)=true:=by intro y;kernel_rfl) (g:∀y,Gj os (b y):=by intro y;repeat(first|exact trivial|refine⟨.inl (Ff _ _),rfl,?_⟩|refine⟨.inl Ka,rfl,?_⟩|refine⟨.inr aC,rfl,?_⟩)) (hl:∀y,(b y).length=os:=by intro y;rfl) (d:IY os (DF 0 c)=true:=by kernel_rfl)
  (j:fn.body=some (At fn):=by kernel_rfl) (a:(fn.name== "runtime.NumGoroutine")=false:=by kernel_rfl) (o:fn.results.toList=rs:=by kernel_rfl) (hx:Nat.ble ys.length n=true:=by kernel_rfl):KO Tryz.prog f os ys c Θ M e b:=Dj k l AI rs os (λC co i y m Post L=>h co i m L) he g hl d j a o hx
theorem Bk{P:Program}{x:Bool}{a m2:Option β}(hm:(if x=true then a else m2)=some y)(c:a=some y->LW P n C (pa (0::p) b) τ Q)(d:m2=some y->LW P n C (pa (1::p) b) τ Q)(hs:nD (pa p b)=true:=by kernel_rfl)(he:ev τ.s (vt (pa p b))=.d (.bool x):=by kernel_rfl):LW P n C (pa p b) τ Q:=cd x hm c d hs he
end
theorem bz{r b:Ren}{k k':Ad}{g a:Nat}{e:TypeId}{sz:Nat}{α:Type}{en:α->List D}{xs:List α}(h:r.γ k+g=b.γ k'+a:=by kernel_rfl):AJ r k ⟨g,true,e,sz,Ac en xs⟩=AJ b k' ⟨a,true,e,sz,Ac en xs⟩:=GB (Ff _ _) h
class Tid (α:Type) where
 t:Nat
instance:Tid Slt:=⟨42⟩
instance:Tid Raw:=⟨44⟩
instance:Tid Pr:=⟨64⟩
abbrev Kt:List (Ad×Bool):=[((1,2),false),((1,5),true)]
abbrev L6:List (Ad×Bool):=[((1,5),true)]
abbrev EW:List (Ad×Bool):=[((1,2),false)]
abbrev Eu(a:Scm):Ad×Blk:=kk 2 26 3 (cD (Al a))
abbrev OA:List ByteArray->AV:=λy=>vL A6 y
def l7(b:Scm)(c:Int):List ByteArray×Nat->St:=λ(a,v2)=>Ab [(1,vI c),pp 2,(5,.ref (1,5) 0 0 a.length),(6,vN v2)] [(Eu b),kk 5 9 1 (Ac A6 a)]
def kZ(b:Scm)(c:Int):List ByteArray->Nat×St:=λa=>(0,Ab [(1,vI c),pp 2,(5,.ref (1,5) 0 0 a.length)] [(Eu b),kk 5 9 1 (Ac A6 a)])
def VZ(a:Scm)(c:Int):List ByteArray×Nat->Option (Lv (List ByteArray×Nat) (List ByteArray) (List ByteArray)):=λ(b,v2)=>(wg<|vy (decide (c=(1:Int))) (Ai a.messages)<|br (decide (c=(1:Int))&&decide ((v2:Int)<(a.messages.length:Int))) (wg<|ix a.messages v2 λd=>vw .sep<|ap b (d.name:ByteArray)<|vs (wa v2 1)<|vz (fl (b++[d.name]))<|ln (l7 a c) (b++[d.name],v2+1)) (vz (fl b)<|Af (kZ a c) b):PT 0 _).m
def kP(b:Scm)(c:Int):List ByteArray×Nat->St:=λ(a,d)=>Ab [(1,vI c),pp 2,(5,.ref (1,5) 0 0 a.length),(7,vN d)] [(Eu b),kk 5 9 1 (Ac A6 a)]
def kJ(b:Scm)(c:Int):List ByteArray->Nat×St:=λa=>(2,Ab [(1,vI c),pp 2,(5,.ref (1,5) 0 0 a.length)] [(Eu b),kk 5 9 1 (Ac A6 a)])
def Wn(a:Scm)(c:Int):List ByteArray×Nat->Option (Lv (List ByteArray×Nat) (List ByteArray) (List ByteArray)):=λ(b,d)=>(wg<|vy (decide (c=(2:Int))) (Ai a.enums)<|br (decide (c=(2:Int))&&decide ((d:Int)<(a.enums.length:Int))) (wg<|ix a.enums d λe=>vw .sep<|ap b (e.name:ByteArray)<|vs (wa d 1)<|vz (fl (b++[e.name]))<|ln (kP a c) (b++[e.name],d+1)) (vz (fl b)<|Af (kJ a c) b):PT 0 _).m
def kR(c:Scm)(d:Int):List ByteArray×Nat->St:=λ(b,a)=>Ab [(1,vI d),pp 2,(5,.ref (1,5) 0 0 b.length),(8,vN a)] [(Eu c),kk 5 9 1 (Ac A6 b)]
def mQ:List ByteArray->Nat×St:=λa=>(4,Ab [(5,.ref (1,5) 0 0 a.length)] [kk 5 9 1 (Ac A6 a)])
def Wm(d:Scm)(e:Int):List ByteArray×Nat->Option (Lv (List ByteArray×Nat) (List ByteArray) (List ByteArray)):=λ(c,a)=>(wg<|vy (decide (e=(3:Int))) (Ai d.services)<|br (decide (e=(3:Int))&&decide ((a:Int)<(d.services.length:Int))) (wg<|ix d.services a λb=>vw .sep<|ap c (b.name:ByteArray)<|vs (wa a 1)<|vz (fl (c++[b.name]))<|ln (kR d e) (c++[b.name],a+1)) (vz (fl c)<|Af (mQ) c):PT 0 _).m
def cw(a:Scm)(b:Int):Option (List ByteArray):=(lc (Ab [(1,vI b),pp 2,(5,.e0)] [(Eu a)]) ((lc (Ab [(1,vI b),pp 2,(5,.e0),(6,vI 0)] [(Eu a)]) ((vw (.ads 5 5 9 1)<|vz (fl ([]:List ByteArray))<|lc (Ab [(1,vI b),pp 2,(5,.ref (1,5) 0 0 ([]:List ByteArray).length),(6,vI 0)] [(Eu a),kk 5 9 1 (Ac A6 ([]:List ByteArray))]) ((Aj (VZ a b) Ah (([]:List ByteArray),0)).bind (Sum.elim (λd=>(vz (fl d)<|lc (Ab [(1,vI b),pp 2,(5,.ref (1,5) 0 0 d.length),(7,vI 0)] [(Eu a),kk 5 9 1 (Ac A6 d)]) ((Aj (Wn a b) Ah (d,0)).bind (Sum.elim (λe=>(vz (fl e)<|lc (Ab [(1,vI b),pp 2,(5,.ref (1,5) 0 0 e.length),(8,vI 0)] [(Eu a),kk 5 9 1 (Ac A6 e)]) ((Aj (Wm a b) Ah (e,0)).bind (Sum.elim (λc=>(vz (fr c)<|lr OA nG c:PT 0 _).m) some)):PT 0 _).m) some)):PT 0 _).m) some)):PT 0 _).m):PT 0 _).m):PT 0 _).m
theorem xJ{C:Cx}(co:CO C 0)(a:Scm)(b:Int):KL Tryz.prog (As tl) 70 C (pa [0,0,1,0,1,1] (At Tryz.f65)) [.tmp 4] 0 (l7 a b) (kZ a b) OA nG (VZ a b):=λ(d,v2) _ m Q Post c L=>eN co (Aa [1,2,5,6] Kt) (Aa [1,2,5] Kt) c m L
theorem yP{C:Cx}(co:CO C 0)(a:Scm)(b:Int):KL Tryz.prog (As tl) 70 C (pa [0,0,1,0,1,1,1] (At Tryz.f65)) [.tmp 4] 0 (kP a b) (kJ a b) OA nG (Wn a b):=λ(d,e) _ m Q Post c L=>eN co (Aa [1,2,5,7] Kt) (Aa [1,2,5] Kt) c m L
theorem xw{C:Cx}(co:CO C 0)(a:Scm)(b:Int):KL Tryz.prog (As tl) 70 C (pa [0,0,1,0,1,1,1,1] (At Tryz.f65)) [.tmp 4] 0 (kR a b) (mQ) OA nG (Wm a b):=λ(e,d) _ m Q Post c L=>eN co (Aa [1,2,5,8] Kt) (Aa [5] L6) c m L
theorem Sw(a:Scm)(b:Int):KC Tryz.prog 65 [.agg ((Al a).map .d),vI b] (cw a b) OA:=kC Tryz.func65 Tryz.ntmps65 [.tmp 4] λco m L=>mJ co 2 (Aa [1,2,5] EW) nl nH m L λr g=>λ_ m L=>sq (mJ co 1 (Aa [1,2,5,6] EW) nl nH m L λr g=>λ_ m L=>bk 0 (cM co (Aa [1,2,5,6] Kt) m L λr g=>λ_ m L=>lo (Aw (xJ co a b) nH m L (λd m=>sq (mJ co 1 (Aa [1,2,5,7] Kt) nl nH m L λr g=>λ_ m L=>bk 2 (lo (Aw (yP co a b) nH m L (λe m=>sq (mJ co 1 (Aa [1,2,5,8] Kt) nl nH m L λr g=>λ_ m L=>bk 4 (lo (Aw (xw co a b) nH m L (λc m=>fO co m L))))))))))))
abbrev FA:List (Ad×Bool):=[((0,0),false),((0,1),true)]
abbrev Xc:List Prb->AV:=λy=>.tup []
@[reducible] def Xl(a:ByteArray):List Prb->List Blk:=λy=>[⟨0,true,97,2,[vS a,.ref (0,1) 0 0 y.length]⟩,⟨0,true,155,3,Ac Ak y⟩]
def Ze(a:ByteArray)(b:List Prb)(c:Int)(d:Int):PT 2 (List Prb):=lr Xc (Xl a) (b++([(.mk a c d:Prb)]))
def ZI(a:ByteArray)(b:List Prb)(c:Int)(d:Int):PT 2 (List Prb):=wg<|wg<|vw .sep<|ap b ((.mk a c d:Prb):Prb)<|Ca 1 (Ac Ak [(.mk a c d:Prb)]) (λ_=>ZxM _)<|wg<|vwl 0 [.ref (0,1) 1 0 (b++([(.mk a c d:Prb)])).length]<|vz (fl (b++([(.mk a c d:Prb)])))<|lc (Ab [] [((0,0),⟨0,true,97,2,[vS a,.ref (0,1) 0 0 (b++([(.mk a c d:Prb)])).length]⟩),((0,1),⟨0,true,155,3,Ac Ak (b++([(.mk a c d:Prb)]))⟩)]) ((Ze a b c d).m)
def Bx(a:ByteArray)(b:List Prb)(c:Bool)(d:Int)(e:Int):Option (List Prb):=(vz (fl b)<|lc (Ab [(0,.ptr (0,0) 0 0),(2,vI d),(3,vI e),(8,vB c)] [((0,0),⟨0,true,97,2,[vS a,.ref (0,1) 0 0 b.length]⟩),((0,1),⟨0,true,155,3,Ac Ak b⟩)]) (if c=true then(ZI a b d e).m else(lr Xc (Xl a) b:PT 2 _).m):PT 2 _).m
theorem BR(a:ByteArray)(b:List Prb)(f:Bool)(c:Int)(d:Int):KG Tryz.prog 66 2 [1] [(1,0)] [.ptr (0,0) 0 0,vB f,vI c,vI d] [⟨0,true,97,2,[vS a,.ref (0,1) 0 0 b.length]⟩,⟨0,true,155,3,Ac Ak b⟩] (Bx a b f c d) Xc (Xl a):=gM Tryz.func66 Tryz.ntmps66 AI [] 2 [1] [0] [(1,0)] (λC co e y m Post L=>mJ co 1 (Aa [0,2,3,8] FA) nl nH m L λr g=>λ_ m L=>Bk m (λm=>D7 co AI BK (.fst 0 (.fst 1 (.fst 2 (.fst 3 (.fst 5 (.fst 6 (.fst 7 (.fst 9 (.fst 10 (.fst 4 (.fst 8 (.fst 11 (.fst 12 (.fst 13 (.fst 14 (.fst 15 (.fst 16 .nil))))))))))))))))) [] (ZI a b c d) (Aa [] FA) m L λr g=>⟨z7 g e,λ_ m L=>B1 (Ze a b c d) co m L (λr g=>id) r g⟩) (λm=>fO co m L))
abbrev RM:Bool->AV:=λy=>vB y
def k7(a:List ByteArray):Nat->St:=λb=>Ab [(0,vL A6 a),(3,vN b)] []
def l8:Unit->Nat×St:=λ_=>(0,Ab [] [])
def WD(b:List ByteArray):Nat->Option (Lv (Nat) (Unit) (Bool)):=λa=>(vz (Ai b)<|br (decide ((a:Int)<(b.length:Int))) (ix b a λc=>vs (wi ((a:Int)-1))<|Di b ((a:Int)-1) λd=>br (Bt c d||decide (c=d)) (Aq RM nG false) (vs (wa a 1)<|ln (k7 b) (a+1))) (Af (l8) ()):PT 0 _).m
def bH(a:List ByteArray):Option (Bool):=(lc (Ab [(0,vL A6 a)] []) ((lc (Ab [(0,vL A6 a),(3,vI 1)] []) ((Aj (WD a) Ah 1).bind (Sum.elim (λ_=>(lr RM nG true:PT 0 _).m) some)):PT 0 _).m):PT 0 _).m
theorem xr{C:Cx}(co:CO C 0)(a:List ByteArray):KL Tryz.prog (As tl) 20 C (pa [0,0,1,0,1] (At Tryz.f67)) [.tmp 2] 0 (k7 a) (l8) RM nG (WD a):=λc _ m Q Post b L=>eN co (AA [0,3]) nl b m L
theorem ZQU(a:List ByteArray):KC Tryz.prog 67 [vL A6 a] (bH a) RM:=kC Tryz.func67 Tryz.ntmps67 [.tmp 2] λco m L=>mJ co 1 (AA [0]) nl nH m L λr g=>λ_ m L=>sq (mJ co 1 (AA [0,3]) nl nH m L λr g=>λ_ m L=>bk 0 (lo (Aw (xr co a) nH m L (λ_ m=>fO co m L))))
abbrev SP:Bool->AV:=λy=>vB y
def jV(a:List ByteArray)(b:ByteArray):Nat->St:=λc=>Ab [(0,vL A6 a),(1,vS b),(5,vN c)] []
def jH:Unit->Nat×St:=λ_=>(0,Ab [] [])
def NR(a:List ByteArray)(c:ByteArray):Nat->Option (Lv (Nat) (Unit) (Bool)):=λb=>(vz (Ai a)<|br (decide ((b:Int)<(a.length:Int))) (ix a b λd=>br (decide (d=c)) (Aq SP nG true) (vs (wa b 1)<|ln (jV a c) (b+1))) (Af (jH) ()):PT 0 _).m
def PO(a:List ByteArray)(b:ByteArray):Option (Bool):=(lc (Ab [(0,vL A6 a),(1,vS b)] []) ((lc (Ab [(0,vL A6 a),(1,vS b),(5,vI 0)] []) ((Aj (NR a b) Ah 0).bind (Sum.elim (λ_=>(lr SP nG false:PT 0 _).m) some)):PT 0 _).m):PT 0 _).m
theorem ZvH{C:Cx}(co:CO C 0)(a:List ByteArray)(b:ByteArray):KL Tryz.prog (As tl) 18 C (pa [0,0,1,0,1] (At Tryz.f125)) [.tmp 4] 0 (jV a b) (jH) SP nG (NR a b):=λd _ m Q Post c L=>eN co (AA [0,1,5]) nl c m L
theorem lY(a:List ByteArray)(b:ByteArray):KC Tryz.prog 125 [vL A6 a,vS b] (PO a b) SP:=kC Tryz.func125 Tryz.ntmps125 [.tmp 4] λco m L=>mJ co 1 (AA [0,1]) nl nH m L λr g=>λ_ m L=>sq (mJ co 1 (AA [0,1,5]) nl nH m L λr g=>λ_ m L=>bk 0 (lo (Aw (ZvH co a b) nH m L (λ_ m=>fO co m L))))
abbrev RN:Bool->AV:=λy=>vB y
def m8(a:List ByteArray)(b:List ByteArray):Nat->St:=λc=>Ab [(0,vL A6 a),(1,vL A6 b),(5,vN c)] []
def nW:Unit->Nat×St:=λ_=>(0,Ab [] [])
def Wf(a:List ByteArray)(c:List ByteArray):Nat->Option (Lv (Nat) (Unit) (Bool)):=λb=>(vz (Ai a)<|br (decide ((b:Int)<(a.length:Int))) (ix a b λd=>cl (lY c d) λe=>br e (Aq RN nG true) (vs (wa b 1)<|ln (m8 a c) (b+1))) (Af (nW) ()):PT 0 _).m
def bX(a:List ByteArray)(b:List ByteArray):Option (Bool):=(lc (Ab [(0,vL A6 a),(1,vL A6 b)] []) ((lc (Ab [(0,vL A6 a),(1,vL A6 b),(5,vI 0)] []) ((Aj (Wf a b) Ah 0).bind (Sum.elim (λ_=>(lr RN nG false:PT 0 _).m) some)):PT 0 _).m):PT 0 _).m
theorem xL{C:Cx}(co:CO C 0)(a:List ByteArray)(b:List ByteArray):KL Tryz.prog (As tl) 18 C (pa [0,0,1,0,1] (At Tryz.f68)) [.tmp 4] 0 (m8 a b) (nW) RN nG (Wf a b):=λd _ m Q Post c L=>eN co (AA [0,1,5]) nl c m L
theorem ZZ(a:List ByteArray)(b:List ByteArray):KC Tryz.prog 68 [vL A6 a,vL A6 b] (bX a b) RN:=kC Tryz.func68 Tryz.ntmps68 [.tmp 4] λco m L=>mJ co 1 (AA [0,1]) nl nH m L λr g=>λ_ m L=>sq (mJ co 1 (AA [0,1,5]) nl nH m L λr g=>λ_ m L=>bk 0 (lo (Aw (xL co a b) nH m L (λ_ m=>fO co m L))))
abbrev Av(a:Scm):Ad×Blk:=kk 2 26 3 (cD (Al a))
abbrev Tq:Int->AV:=λy=>vI y
def jx(a:Scm)(b:ByteArray):Nat->St:=λc=>Ab [(1,vS b),pp 2,(5,vN c)] [(Av a)]
def vY:Unit->Nat×St:=λ_=>(0,Ab [] [])
def U8(b:Scm)(c:ByteArray):Nat->Option (Lv (Nat) (Unit) (Int)):=λa=>(wg<|vz (Ai b.messages)<|br (decide ((a:Int)<(b.messages.length:Int))) (wg<|ix b.messages a λd=>br (decide (d.name=c)) (Aq Tq nG (a:Int)) (vs (wa a 1)<|ln (jx b c) (a+1))) (Af (vY) ()):PT 0 _).m
def bE(a:Scm)(b:ByteArray):Option (Int):=(lc (Ab [(1,vS b),pp 2] [(Av a)]) ((lc (Ab [(1,vS b),pp 2,(5,vI 0)] [(Av a)]) ((Aj (U8 a b) Ah 0).bind (Sum.elim (λ_=>(lr Tq nG (-1):PT 0 _).m) some)):PT 0 _).m):PT 0 _).m
theorem ZvF{C:Cx}(co:CO C 0)(a:Scm)(b:ByteArray):KL Tryz.prog (As tl) 22 C (pa [0,0,1,0,1] (At Tryz.f136)) [.tmp 4] 0 (jx a b) (vY) Tq nG (U8 a b):=λd _ m Q Post c L=>eN co (Aa [1,2,5] EW) nl c m L
theorem Q7(a:Scm)(b:ByteArray):KC Tryz.prog 136 [.agg ((Al a).map .d),vS b] (bE a b) Tq:=kC Tryz.func136 Tryz.ntmps136 [.tmp 4] λco m L=>mJ co 1 (Aa [1,2] EW) nl nH m L λr g=>λ_ m L=>sq (mJ co 1 (Aa [1,2,5] EW) nl nH m L λr g=>λ_ m L=>bk 0 (lo (Aw (ZvF co a b) nH m L (λ_ m=>fO co m L))))
abbrev gG(a:Scm):Ad×Blk:=kk 3 26 3 (cD (Al a))
abbrev gH(a:Msg):Ad×Blk:=kk 4 61 5 (cD (AD a))
abbrev S0:Bool->AV:=λy=>vB y
def fX(a:Scm)(b:Msg)(c:List Bool):Nat->St:=λd=>Ab [(2,vL AO c),pp 3,pp 4,(7,vN d)] [(gG a),(gH b)]
def vM:Unit->Nat×St:=λ_=>(0,Ab [] [])
def Vs(d:Scm)(b:Msg)(e:List Bool):Nat->Option (Lv (Nat) (Unit) (Bool)):=λa=>(wg<|vz (Ai b.fields)<|br (decide ((a:Int)<(b.fields.length:Int))) (wg<|ix b.fields a λc=>wg<|wg<|wg<|br ((!decide (c.card=(1:Int)))||(!decide (c.type.kind=(10:Int)))) (vs (wa a 1)<|ln (fX d b e) (a+1)) (wg<|wg<|cl (Q7 d c.type.name) λf=>AW (decide ((0:Int)<=f)) e f λg=>br (decide ((0:Int)<=f)&&(!g)) (Aq S0 nG true) (vs (wa a 1)<|ln (fX d b e) (a+1)))) (Af (vM) ()):PT 0 _).m
def bO(a:Scm)(b:Msg)(c:List Bool):Option (Bool):=(lc (Ab [(2,vL AO c),pp 3,pp 4] [(gG a),(gH b)]) ((lc (Ab [(2,vL AO c),pp 3,pp 4,(7,vI 0)] [(gG a),(gH b)]) ((Aj (Vs a b c) Ah 0).bind (Sum.elim (λ_=>(lr S0 nG false:PT 0 _).m) some)):PT 0 _).m):PT 0 _).m
theorem ZwE{C:Cx}(co:CO C 0)(a:Scm)(b:Msg)(c:List Bool):KL Tryz.prog (As tl) 45 C (pa [0,0,1,0,1] (At Tryz.f126)) [.tmp 6] 0 (fX a b c) (vM) S0 nG (Vs a b c):=λe _ m Q Post d L=>eN co (Aa [2,3,4,7] [((1,3),false),((1,4),false)]) nl d m L
theorem ZNi(a:Scm)(b:Msg)(c:List Bool):KC Tryz.prog 126 [.agg ((Al a).map .d),.agg ((AD b).map .d),vL AO c] (bO a b c) S0:=kC Tryz.func126 Tryz.ntmps126 [.tmp 6] λco m L=>mJ co 1 (Aa [2,3,4] [((1,3),false),((1,4),false)]) nl nH m L λr g=>λ_ m L=>sq (mJ co 1 (Aa [2,3,4,7] [((1,3),false),((1,4),false)]) nl nH m L λr g=>λ_ m L=>bk 0 (lo (Aw (ZwE co a b c) nH m L (λ_ m=>fO co m L))))
abbrev gL:List (Ad×Bool):=[((0,0),true),((1,3),false),((1,4),false)]
abbrev Ag:List (Ad×Bool):=[((0,0),true)]
abbrev gI(a:Scm):Ad×Blk:=kk 3 26 3 (cD (Al a))
abbrev gJ(a:Msg):Ad×Blk:=kk 4 61 5 (cD (AD a))
abbrev Vu:Bool->AV:=λy=>vB y
@[reducible] def U6(a:List Bool):Bool->List Blk:=λy=>[⟨0,true,4,1,Ac AO a⟩]
def eh(b:Scm)(c:Msg)(a:List Bool):Nat->St:=λd=>Ab [(2,.ref (0,0) 0 0 a.length),pp 3,pp 4,(7,vN d)] [((0,0),⟨0,true,4,1,Ac AO a⟩),(gI b),(gJ c)]
def rX(a:List Bool):Unit->Nat×St:=λ_=>(0,Ab [] [((0,0),⟨0,true,4,1,Ac AO a⟩)])
def UH(f:Scm)(c:Msg)(a:List Bool):Nat->Option (Lv (Nat) (Unit) (Bool)):=λb=>(wg<|vz (Ai c.fields)<|br (decide ((b:Int)<(c.fields.length:Int))) (wg<|ix c.fields b λe=>wg<|wg<|wg<|br ((!decide (e.card=(1:Int)))||(!decide (e.type.kind=(10:Int)))) (vs (wa b 1)<|vz (fl a)<|ln (eh f c a) (b+1)) (wg<|wg<|cl (Q7 f e.type.name) λd=>vg (decide ((0:Int)<=d)) (AG d a.length 1)<|Fy (decide ((0:Int)<=d)) a d.toNat λg=>br (decide ((0:Int)<=d)&&(!g)) (Aq Vu (U6 a) true) (vs (wa b 1)<|vz (fl a)<|ln (eh f c a) (b+1)))) (vz (fl a)<|Af (rX a) ()):PT 1 _).m
def TM(b:Scm)(c:Msg)(a:List Bool):Option (Bool):=(vz (fl a)<|lc (Ab [(2,.ref (0,0) 0 0 a.length),pp 3,pp 4] [((0,0),⟨0,true,4,1,Ac AO a⟩),(gI b),(gJ c)]) ((vz (fl a)<|lc (Ab [(2,.ref (0,0) 0 0 a.length),pp 3,pp 4,(7,vI 0)] [((0,0),⟨0,true,4,1,Ac AO a⟩),(gI b),(gJ c)]) ((Aj (UH b c a) Ah 0).bind (Sum.elim (λ_=>(lr Vu (U6 a) false:PT 1 _).m) some)):PT 1 _).m):PT 1 _).m
theorem Zp9{C:Cx}(co:CO C 1)(b:Scm)(c:Msg)(a:List Bool):KL Tryz.prog (As tl) 45 C (pa [0,0,1,0,1] (At Tryz.f126)) [.tmp 6] 1 (eh b c a) (rX a) Vu (U6 a) (UH b c a):=λe _ m Q Post d L=>eN co (Aa [2,3,4,7] gL) (Aa [] Ag) d m L
theorem yH(b:Scm)(c:Msg)(a:List Bool):KO Tryz.prog 126 1 [.agg ((Al b).map .d),.agg ((AD c).map .d),.ref (0,0) 0 0 a.length] [⟨0,true,4,1,Ac AO a⟩] (λ_ _ _ _=>True) (TM b c a) Vu (U6 a):=kO Tryz.func126 Tryz.ntmps126 [.tmp 6] 1 (λco d m L=>mJ co 1 (Aa [2,3,4] gL) nl nH m L λr g=>λ_ m L=>sq (mJ co 1 (Aa [2,3,4,7] gL) nl nH m L λr g=>λ_ m L=>bk 0 (lo (Aw (Zp9 co b c a) nH m L (λ_ m=>fO co m L)))))
abbrev G2:List (Ad×Bool):=[((1,1),false),((1,10),true)]
abbrev L4(a:Scm):Ad×Blk:=kk 1 26 3 (cD (Al a))
abbrev RO:List Bool->AV:=λy=>vL AO y
def k9(b:Scm):Bool×Nat×List Bool->St:=λ(c,v2,a)=>Ab [pp 1,(3,.ref (1,10) 0 0 a.length),(4,vB c),(5,vN v2)] [(L4 b),kk 10 4 1 (Ac AO a)]
def lE:List Bool->Nat×St:=λa=>(0,Ab [(3,.ref (1,10) 0 0 a.length)] [kk 10 4 1 (Ac AO a)])
def ZA(b:Scm)(v2:Nat):Bool×Nat×List Bool->St:=λ(v4,v5,a)=>Ab [pp 1,(3,.ref (1,10) 0 0 a.length),(4,vB v4),(5,vN v2),(6,vN v5)] [(L4 b),kk 10 4 1 (Ac AO a)]
def la(c:Scm)(v2:Nat):Bool×List Bool->Nat×St:=λ(b,a)=>(2,Ab [pp 1,(3,.ref (1,10) 0 0 a.length),(4,vB b),(5,vN v2)] [(L4 c),kk 10 4 1 (Ac AO a)])
def Wd(b:Scm)(v2:Nat):Bool×Nat×List Bool->Option (Lv (Bool×Nat×List Bool) (Bool×List Bool) (List Bool)):=λ(v4,v5,a)=>(wg<|vz (Ai b.messages)<|br (decide ((v5:Int)<(b.messages.length:Int))) (vs (ir v5 a.length 1)<|ca a v5 λc=>wg<|wg<|AW (!c) b.messages (v5:Int) λd=>CF (!c) Tryz.prog 126 [.agg ((Al b).map .d),.agg ((AD d).map .d),.ref (1,10) 0 0 a.length] [(1,10)] [kk 10 4 1 (Ac AO a)] (TM b d a) (λy=>vB y) λe=>br ((!c)&&(!e)) (vs (ir v5 a.length 1)<|vs (st a v5 true)<|rn 3 10 a.length (a.set v5 true)<|vw .sep<|vs (wa v5 1)<|vz (fl (a.set v5 true))<|ln (ZA b v2) (true,v5+1,a.set v5 true)) (vs (wa v5 1)<|vz (fl a)<|ln (ZA b v2) (v4,v5+1,a))) (vz (fl a)<|Af (la b v2) (v4,a)):PT 0 _).m
def WA(b:Scm):Bool×Nat×List Bool->Option (Lv (Bool×Nat×List Bool) (List Bool) (List Bool)):=λ(e,v2,a)=>(wg<|vz (Ai b.messages)<|br (decide ((v2:Int)<(b.messages.length:Int))&&e) (vz (fl a)<|lc (Ab [pp 1,(3,.ref (1,10) 0 0 a.length),(5,vN v2)] [(L4 b),kk 10 4 1 (Ac AO a)]) ((vz (fl a)<|lc (Ab [pp 1,(3,.ref (1,10) 0 0 a.length),(4,vB false),(5,vN v2),(6,vI 0)] [(L4 b),kk 10 4 1 (Ac AO a)]) ((Aj (Wd b v2) Ah (false,0,a)).bind (Sum.elim (λ(d,c)=>(vs (wa v2 1)<|vz (fl c)<|ln (k9 b) (d,v2+1,c):PT 0 _).m) (λz=>some (.rt z)))):PT 0 _).m)) (vz (fl a)<|Af (lE) a):PT 0 _).m
def bC(a:Scm):Option (List Bool):=(wg<|vz (Ai a.messages)<|ms a.messages.length false [vB false] (by first|rfl|kernel_rfl)<|vz (fl (List.replicate a.messages.length false))<|lc (Ab [pp 1,(3,.ref (1,10) 0 0 (List.replicate a.messages.length false).length),(4,vB true)] [(L4 a),kk 10 4 1 (Ac AO (List.replicate a.messages.length false))]) ((vz (fl (List.replicate a.messages.length false))<|lc (Ab [pp 1,(3,.ref (1,10) 0 0 (List.replicate a.messages.length false).length),(4,vB true),(5,vI 0)] [(L4 a),kk 10 4 1 (Ac AO (List.replicate a.messages.length false))]) ((Aj (WA a) Ah (true,0,List.replicate a.messages.length false)).bind (Sum.elim (λb=>(vz (fr b)<|lr RO nG b:PT 0 _).m) some)):PT 0 _).m):PT 0 _).m
theorem xn{C:Cx}(co:CO C 0)(a:Scm)(v2:Nat):KL Tryz.prog (As tl) 48 C (pa [0,0,1,1,0,0,1,0,0,1,0,1,1,1] (At Tryz.f69)) [.tmp 2] 0 (ZA a v2) (la a v2) RO nG (Wd a v2):=λ(v4,v5,b) _ m Q Post d L=>eN co (Aa [1,3,4,5,6] G2) (Aa [1,3,4,5] G2) d m L λr g=>⟨λe=>λc=>⟨λy hy=>s6 (yH a c b) hy co g [kk 10 4 1 (Ac AO b)] [],λf=>⟨id,id⟩⟩,id⟩
theorem xd{C:Cx}(co:CO C 0)(b:Scm):KL Tryz.prog (As tl) 48 C (pa [0,0,1,0,1,1,1] (At Tryz.f69)) [.tmp 2] 0 (k9 b) (lE) RO nG (WA b):=λ(f,v2,e) _ m Q Post a L=>mJ co 1 (Aa [1,3,5] G2) (Aa [3] [((1,10),true)]) a m L λr g=>⟨λ_ m L=>sq (bk 1 (mJ co 2 (Aa [1,3,4,5,6] G2) nl a m L λr g=>λ_ m L=>bk 2 (lo (EX (xn co b v2) a m L (λ(d,c) m=>eN co (Aa [1,3,4,5] G2) nl a m L))))),id⟩
theorem ZQL(a:Scm):KC Tryz.prog 69 [.agg ((Al a).map .d)] (bC a) RO:=kC Tryz.func69 Tryz.ntmps69 [.tmp 2] λco m L=>mJ co 3 (Aa [1,3,4] G2) nl nH m L λr g=>λ_ m L=>sq (mJ co 1 (Aa [1,3,4,5] G2) nl nH m L λr g=>λ_ m L=>bk 0 (lo (Aw (xd co a) nH m L (λb m=>fO co m L))))
abbrev pG:Bool->AV:=λy=>vB y
def M3(a:ByteArray)(b:Int)(d:Int)(f:Int):Option (Bool):=(vz (A1 a.size)<|Gk (decide (b<(a.size:Int))) a b λc=>Gk (decide (b<(a.size:Int))&&decide (d<=(c.toNat:Int))) a b λe=>lr pG nG ((decide (b<(a.size:Int))&&decide (d<=(c.toNat:Int)))&&decide ((e.toNat:Int)<=f)):PT 0 _).m
theorem Rx(a:ByteArray)(b:Int)(c:Int)(d:Int):KC Tryz.prog 225 [vS a,vI b,.d (.int .u8 c),.d (.int .u8 d)] (M3 a b c d) pG:=kC Tryz.func225 Tryz.ntmps225 [.tmp 8] λco m L=>fO co m L
abbrev Tc:Bool->AV:=λy=>vB y
def jP(a:ByteArray)(b:Int)(c:Int):Nat->St:=λd=>Ab [(0,vS a),(1,vI b),(2,vI c),(7,vN d)] []
def uY:Unit->Nat×St:=λ_=>(0,Ab [] [])
def LI(c:ByteArray)(b:Int)(d:Int):Nat->Option (Lv (Nat) (Unit) (Bool)):=λa=>(br (decide ((a:Int)<d)) (vs (wi (b+(a:Int)))<|cl (Rx c (b+(a:Int)) 128 191) λe=>br (!e) (Aq Tc nG false) (vs (wa a 1)<|ln (jP c b d) (a+1))) (Af (uY) ()):PT 0 _).m
def Ll(a:ByteArray)(b:Int)(c:Int):Option (Bool):=(lc (Ab [(0,vS a),(1,vI b),(2,vI c)] []) ((lc (Ab [(0,vS a),(1,vI b),(2,vI c),(7,vI 0)] []) ((Aj (LI a b c) Ah 0).bind (Sum.elim (λ_=>(lr Tc nG true:PT 0 _).m) some)):PT 0 _).m):PT 0 _).m
theorem ZxI{C:Cx}(co:CO C 0)(a:ByteArray)(b:Int)(c:Int):KL Tryz.prog (As tl) 19 C (pa [0,0,1,0,1] (At Tryz.f224)) [.tmp 6] 0 (jP a b c) (uY) Tc nG (LI a b c):=λe _ m Q Post d L=>eN co (AA [0,1,2,7]) nl d m L
theorem LU(a:ByteArray)(b:Int)(c:Int):KC Tryz.prog 224 [vS a,vI b,vI c] (Ll a b c) Tc:=kC Tryz.func224 Tryz.ntmps224 [.tmp 6] λco m L=>mJ co 1 (AA [0,1,2]) nl nH m L λr g=>λ_ m L=>sq (mJ co 1 (AA [0,1,2,7]) nl nH m L λr g=>λ_ m L=>bk 0 (lo (Aw (ZxI co a b c) nH m L (λ_ m=>fO co m L))))
abbrev HF:Int->AV:=λy=>vI y
def PN(c:ByteArray)(b:Int):Option (Int):=(RE c b λa=>br (decide ((a.toNat:Int)<(128:Int))) (lr HF nG 1) (vg (decide ((194:Int)<=(a.toNat:Int))&&decide ((a.toNat:Int)<=(223:Int))) (wi (b+1))<|Ax (decide ((194:Int)<=(a.toNat:Int))&&decide ((a.toNat:Int)<=(223:Int))) (LU c (b+1) 1) λj=>br ((decide ((194:Int)<=(a.toNat:Int))&&decide ((a.toNat:Int)<=(223:Int)))&&j) (lr HF nG 2) (vg (decide ((a.toNat:Int)=(224:Int))) (wi (b+1))<|Ax (decide ((a.toNat:Int)=(224:Int))) (Rx c (b+1) 160 191) λg=>vg (decide ((a.toNat:Int)=(224:Int))&&g) (wi (b+2))<|Ax (decide ((a.toNat:Int)=(224:Int))&&g) (LU c (b+2) 1) λk=>br ((decide ((a.toNat:Int)=(224:Int))&&g)&&k) (lr HF nG 3) (vg (decide ((a.toNat:Int)=(237:Int))) (wi (b+1))<|Ax (decide ((a.toNat:Int)=(237:Int))) (Rx c (b+1) 128 159) λh=>vg (decide ((a.toNat:Int)=(237:Int))&&h) (wi (b+2))<|Ax (decide ((a.toNat:Int)=(237:Int))&&h) (LU c (b+2) 1) λl=>br ((decide ((a.toNat:Int)=(237:Int))&&h)&&l) (lr HF nG 3) (vg ((decide ((225:Int)<=(a.toNat:Int))&&decide ((a.toNat:Int)<=(239:Int)))&&(!decide ((a.toNat:Int)=(237:Int)))) (wi (b+1))<|Ax ((decide ((225:Int)<=(a.toNat:Int))&&decide ((a.toNat:Int)<=(239:Int)))&&(!decide ((a.toNat:Int)=(237:Int)))) (LU c (b+1) 2) λm=>br (((decide ((225:Int)<=(a.toNat:Int))&&decide ((a.toNat:Int)<=(239:Int)))&&(!decide ((a.toNat:Int)=(237:Int))))&&m) (lr HF nG 3) (vg (decide ((a.toNat:Int)=(240:Int))) (wi (b+1))<|Ax (decide ((a.toNat:Int)=(240:Int))) (Rx c (b+1) 144 191) λi=>vg (decide ((a.toNat:Int)=(240:Int))&&i) (wi (b+2))<|Ax (decide ((a.toNat:Int)=(240:Int))&&i) (LU c (b+2) 2) λn=>br ((decide ((a.toNat:Int)=(240:Int))&&i)&&n) (lr HF nG 4) (vg (decide ((241:Int)<=(a.toNat:Int))&&decide ((a.toNat:Int)<=(243:Int))) (wi (b+1))<|Ax (decide ((241:Int)<=(a.toNat:Int))&&decide ((a.toNat:Int)<=(243:Int))) (LU c (b+1) 3) λe=>br ((decide ((241:Int)<=(a.toNat:Int))&&decide ((a.toNat:Int)<=(243:Int)))&&e) (lr HF nG 4) (vg (decide ((a.toNat:Int)=(244:Int))) (wi (b+1))<|Ax (decide ((a.toNat:Int)=(244:Int))) (Rx c (b+1) 128 143) λd=>vg (decide ((a.toNat:Int)=(244:Int))&&d) (wi (b+2))<|Ax (decide ((a.toNat:Int)=(244:Int))&&d) (LU c (b+2) 2) λf=>br ((decide ((a.toNat:Int)=(244:Int))&&d)&&f) (lr HF nG 4) (lr HF nG 0)))))))):PT 0 _).m
theorem ZM6(a:ByteArray)(b:Int):KC Tryz.prog 171 [vS a,vI b] (PN a b) HF:=kC Tryz.func171 Tryz.ntmps171 [.tmp 4] λco m L=>fO co m L
abbrev S9:Int->AV:=λy=>vI y
def jX(a:ByteArray):Int->St:=λb=>Ab [(0,vS a),(3,vI b)] []
def vH:Unit->Nat×St:=λ_=>(0,Ab [] [])
def NL(b:ByteArray):Int->Option (Lv (Int) (Unit) (Int)):=λa=>(vz (A1 b.size)<|br (decide (a<(b.size:Int))) (cl (ZM6 b a) λc=>br (decide (c=(0:Int))) (Aq S9 nG a) (vs (wi (a+c))<|ln (jX b) (a+c))) (Af (vH) ()):PT 0 _).m
def TL(a:ByteArray):Option (Int):=(lc (Ab [(0,vS a)] []) ((lc (Ab [(0,vS a),(3,vI 0)] []) ((Aj (NL a) Ah 0).bind (Sum.elim (λ_=>(lr S9 nG (-1):PT 0 _).m) some)):PT 0 _).m):PT 0 _).m
theorem Zwb{C:Cx}(co:CO C 0)(a:ByteArray):KL Tryz.prog (As tl) 18 C (pa [0,0,1,0,1] (At Tryz.f170)) [.tmp 2] 0 (jX a) (vH) S9 nG (NL a):=λc _ m Q Post b L=>eN co (AA [0,3]) nl b m L
theorem ZL2(a:ByteArray):KC Tryz.prog 170 [vS a] (TL a) S9:=kC Tryz.func170 Tryz.ntmps170 [.tmp 2] λco m L=>mJ co 1 (AA [0]) nl nH m L λr g=>λ_ m L=>sq (mJ co 1 (AA [0,3]) nl nH m L λr g=>λ_ m L=>bk 0 (lo (Aw (Zwb co a) nH m L (λ_ m=>fO co m L))))
abbrev oP:Bool->AV:=λy=>vB y
def M6(a:ByteArray):Option (Bool):=(cl (ZL2 a) λb=>lr oP nG (decide (b<(0:Int))):PT 0 _).m
theorem nN(a:ByteArray):KC Tryz.prog 119 [vS a] (M6 a) oP:=kC Tryz.func119 Tryz.ntmps119 [.tmp 2] λco m L=>fO co m L
abbrev o5:Bool->AV:=λy=>vB y
def qg(a:Int):Option (Bool):=(lr o5 nG (decide ((97:Int)<=a)&&decide (a<=(122:Int))):PT 0 _).m
theorem nw(a:Int):KC Tryz.prog 226 [.d (.int .u8 a)] (qg a) o5:=kC Tryz.func226 Tryz.ntmps226 [.tmp 2] λco m L=>fO co m L
abbrev qa:Bool->AV:=λy=>vB y
def qj(a:Int):Option (Bool):=(lr qa nG (decide ((65:Int)<=a)&&decide (a<=(90:Int))):PT 0 _).m
theorem lm(a:Int):KC Tryz.prog 227 [.d (.int .u8 a)] (qj a) qa:=kC Tryz.func227 Tryz.ntmps227 [.tmp 2] λco m L=>fO co m L
abbrev PC:Bool->AV:=λy=>vB y
def u9(a:ByteArray):Nat->St:=λv5=>Ab [(0,vS a),(3,vN v5)] []
def jS:Unit->Nat×St:=λ_=>(0,Ab [] [])
def Vi(a:ByteArray):Nat->Option (Lv (Nat) (Unit) (Bool)):=λv5=>(vz (A1 a.size)<|br (decide ((v5:Int)<(a.size:Int))) (ib a v5 λg=>cl (nw (g.toNat:Int)) λc=>Gk (!c) a (v5:Int) λh=>Ax (!c) (lm (h.toNat:Int)) λe=>Gk ((!c)&&(!e)) a (v5:Int) λb=>Gk (((!c)&&(!e))&&(!decide ((b.toNat:Int)=(95:Int)))) a (v5:Int) λd=>Gk ((((!c)&&(!e))&&(!decide ((b.toNat:Int)=(95:Int))))&&(!(decide ((d.toNat:Int)<(48:Int))))) a (v5:Int) λf=>br ((((!c)&&(!e))&&(!decide ((b.toNat:Int)=(95:Int))))&&(decide ((d.toNat:Int)<(48:Int))||decide ((57:Int)<(f.toNat:Int)))) (Aq PC nG false) (vs (wa v5 1)<|ln (u9 a) (v5+1))) (Af (jS) ()):PT 0 _).m
def b6(a:ByteArray):Option (Bool):=(vz (A1 a.size)<|vy (!(decide ((a.size:Int)=(0:Int)))) (A1 a.size)<|Gk (!(decide ((a.size:Int)=(0:Int))||decide ((40:Int)<(a.size:Int)))) a 0 λc=>Ax (!(decide ((a.size:Int)=(0:Int))||decide ((40:Int)<(a.size:Int)))) (nw (c.toNat:Int)) λb=>Gk ((!(decide ((a.size:Int)=(0:Int))||decide ((40:Int)<(a.size:Int))))&&(!b)) a 0 λd=>Ax ((!(decide ((a.size:Int)=(0:Int))||decide ((40:Int)<(a.size:Int))))&&(!b)) (lm (d.toNat:Int)) λe=>br ((decide ((a.size:Int)=(0:Int))||decide ((40:Int)<(a.size:Int)))||((!b)&&(!e))) (lr PC nG false) (lc (Ab [(0,vS a)] []) ((lc (Ab [(0,vS a),(3,vI 1)] []) ((Aj (Vi a) Ah 1).bind (Sum.elim (λ_=>(lr PC nG true:PT 0 _).m) some)):PT 0 _).m)):PT 0 _).m
theorem ZyB{C:Cx}(co:CO C 0)(a:ByteArray):KL Tryz.prog (As tl) 60 C (pa [0,0,1,0,1,1] (At Tryz.f176)) [.tmp 2] 0 (u9 a) (jS) PC nG (Vi a):=λv5 _ m Q Post b L=>eN co (AA [0,3]) nl b m L
theorem Zf(a:ByteArray):KC Tryz.prog 176 [vS a] (b6 a) PC:=kC Tryz.func176 Tryz.ntmps176 [.tmp 2] λco m L=>mJ co 2 (AA [0]) nl nH m L λr g=>λb=>λd=>λc=>λe=>⟨id,λ_ m L=>sq (mJ co 1 (AA [0,3]) nl nH m L λr g=>λ_ m L=>bk 0 (lo (Aw (ZyB co a) nH m L (λ_ m=>fO co m L))))⟩
abbrev Px:Bool->AV:=λy=>vB y
def fG(a:ByteArray):ByteArray×Nat->St:=λ(b,v2)=>Ab [(0,vS a),(3,vS b),(4,vN v2)] []
def uy:ByteArray->Nat×St:=λa=>(0,Ab [(3,vS a)] [])
def VA(a:ByteArray):ByteArray×Nat->Option (Lv (ByteArray×Nat) (ByteArray) (Bool)):=λ(b,v2)=>(vz (A1 a.size)<|br (decide ((v2:Int)<(a.size:Int))) (ib a v2 λc=>br (!decide ((c.toNat:Int)=(46:Int))) (vs (wa v2 1)<|ss a (.nt v2) (.nt (v2+1)) λd=>ad b d λe=>vs (wa v2 1)<|ln (fG a) (e,v2+1)) (cl (Zf b) λf=>br (!f) (Aq Px nG false) (vs (wa v2 1)<|ln (fG a) (⟨#[]⟩,v2+1)))) (Af (uy) b):PT 0 _).m
def cb(a:ByteArray):Option (Bool):=(vz (A1 a.size)<|br (decide ((120:Int)<(a.size:Int))) (lr Px nG false) (lc (Ab [(0,vS a),(3,vS ⟨#[]⟩)] []) ((lc (Ab [(0,vS a),(3,vS ⟨#[]⟩),(4,vI 0)] []) ((Aj (VA a) Ah (⟨#[]⟩,0)).bind (Sum.elim (λb=>(cl (Zf b) λc=>lr Px nG c:PT 0 _).m) some)):PT 0 _).m)):PT 0 _).m
theorem ZvK{C:Cx}(co:CO C 0)(a:ByteArray):KL Tryz.prog (As tl) 30 C (pa [0,0,1,0,1,1,1] (At Tryz.f173)) [.tmp 2] 0 (fG a) (uy) Px nG (VA a):=λ(c,v2) _ m Q Post b L=>eN co (AA [0,3,4]) (AA [3]) b m L
theorem ZMf(a:ByteArray):KC Tryz.prog 173 [vS a] (cb a) Px:=kC Tryz.func173 Tryz.ntmps173 [.tmp 2] λco m L=>mJ co 3 (AA [0,3]) nl nH m L λr g=>⟨id,λ_ m L=>sq (mJ co 1 (AA [0,3,4]) nl nH m L λr g=>λ_ m L=>bk 0 (lo (Aw (ZvK co a) nH m L (λb m=>fO co m L))))⟩
abbrev Tk:ByteArray×ByteArray->AV:=λy=>.tup [vS y.1,vS y.2]
def u0(a:ByteArray):Int->St:=λb=>Ab [(0,vS a),(4,vI b)] []
def jK(a:ByteArray):Unit->Nat×St:=λ_=>(0,Ab [(0,vS a)] [])
def Vh(b:ByteArray):Int->Option (Lv (Int) (Unit) (ByteArray×ByteArray)):=λa=>(br (decide ((0:Int)<=a)) (RE b a λc=>br (decide ((c.toNat:Int)=(46:Int))) (ss b .no (.it a) λd=>vs (wi (a+1))<|ss b (.it (a+1)) .no λe=>Aq Tk nG (d,e)) (vs (wi (a-1))<|ln (u0 b) (a-1))) (Af (jK b) ()):PT 0 _).m
def cu(a:ByteArray):Option (ByteArray×ByteArray):=(lc (Ab [(0,vS a)] []) ((vz (A1 a.size)<|vs (wi ((a.size:Int)-1))<|lc (Ab [(0,vS a),(4,vI ((a.size:Int)-1))] []) ((Aj (Vh a) Ah ((a.size:Int)-1)).bind (Sum.elim (λ_=>(lr Tk nG (⟨#[]⟩,a):PT 0 _).m) some)):PT 0 _).m):PT 0 _).m
theorem Zwm{C:Cx}(co:CO C 0)(a:ByteArray):KL Tryz.prog (As tl) 24 C (pa [0,0,1,0,1] (At Tryz.f174)) [.tmp 2,.tmp 3] 0 (u0 a) (jK a) Tk nG (Vh a):=λc _ m Q Post b L=>eN co (AA [0,4]) (AA [0]) b m L
theorem ZMz(a:ByteArray):KC Tryz.prog 174 [vS a] (cu a) Tk:=kC Tryz.func174 Tryz.ntmps174 [.tmp 2,.tmp 3] λco m L=>mJ co 1 (AA [0]) nl nH m L λr g=>λ_ m L=>sq (mJ co 1 (AA [0,4]) nl nH m L λr g=>λ_ m L=>bk 0 (lo (Aw (Zwm co a) nH m L (λ_ m=>fO co m L))))
abbrev Bh:Bool->AV:=λy=>vB y
def b9(a:ByteArray):Option (Bool):=(br (decide (a=(⟨#[109,101,115,115,97,103,101]⟩:ByteArray))) (br (decide (a=(⟨#[109,101,115,115,97,103,101]⟩:ByteArray))) (lr Bh nG true) (lr Bh nG false)) (br (decide (a=(⟨#[101,110,117,109]⟩:ByteArray))) (br (decide (a=(⟨#[101,110,117,109]⟩:ByteArray))) (lr Bh nG true) (lr Bh nG false)) (br (decide (a=(⟨#[115,101,114,118,105,99,101]⟩:ByteArray))) (br (decide (a=(⟨#[115,101,114,118,105,99,101]⟩:ByteArray))) (lr Bh nG true) (lr Bh nG false)) (br (decide (a=(⟨#[117,110,105,111,110]⟩:ByteArray))) (br (decide (a=(⟨#[117,110,105,111,110]⟩:ByteArray))) (lr Bh nG true) (lr Bh nG false)) (br (decide (a=(⟨#[109,97,112]⟩:ByteArray))) (br (decide (a=(⟨#[109,97,112]⟩:ByteArray))) (lr Bh nG true) (lr Bh nG false)) (br (decide (a=(⟨#[108,105,115,116]⟩:ByteArray))) (br (decide (a=(⟨#[108,105,115,116]⟩:ByteArray))) (lr Bh nG true) (lr Bh nG false)) (br (decide (a=(⟨#[114,101,113,117,105,114,101,100]⟩:ByteArray))) (br (decide (a=(⟨#[114,101,113,117,105,114,101,100]⟩:ByteArray))) (lr Bh nG true) (lr Bh nG false)) (br (decide (a=(⟨#[111,112,116,105,111,110,97,108]⟩:ByteArray))) (br (decide (a=(⟨#[111,112,116,105,111,110,97,108]⟩:ByteArray))) (lr Bh nG true) (lr Bh nG false)) (br (decide (a=(⟨#[112,108,97,105,110]⟩:ByteArray))) (br (decide (a=(⟨#[112,108,97,105,110]⟩:ByteArray))) (lr Bh nG true) (lr Bh nG false)) (br (decide (a=(⟨#[100,101,102,97,117,108,116]⟩:ByteArray))) (br (decide (a=(⟨#[100,101,102,97,117,108,116]⟩:ByteArray))) (lr Bh nG true) (lr Bh nG false)) (br (decide (a=(⟨#[114,101,115,101,114,118,101,100]⟩:ByteArray))) (br (decide (a=(⟨#[114,101,115,101,114,118,101,100]⟩:ByteArray))) (lr Bh nG true) (lr Bh nG false)) (br (decide (a=(⟨#[105,109,112,111,114,116]⟩:ByteArray))) (br (decide (a=(⟨#[105,109,112,111,114,116]⟩:ByteArray))) (lr Bh nG true) (lr Bh nG false)) (br (decide (a=(⟨#[115,112,97,99,101]⟩:ByteArray))) (br (decide (a=(⟨#[115,112,97,99,101]⟩:ByteArray))) (lr Bh nG true) (lr Bh nG false)) (br (decide (a=(⟨#[114,112,99]⟩:ByteArray))) (br (decide (a=(⟨#[114,112,99]⟩:ByteArray))) (lr Bh nG true) (lr Bh nG false)) (br (decide (a=(⟨#[115,116,114,101,97,109]⟩:ByteArray))) (br (decide (a=(⟨#[115,116,114,101,97,109]⟩:ByteArray))) (lr Bh nG true) (lr Bh nG false)) (br (decide (a=(⟨#[114,101,116,117,114,110,115]⟩:ByteArray))) (br (decide (a=(⟨#[114,101,116,117,114,110,115]⟩:ByteArray))) (lr Bh nG true) (lr Bh nG false)) (br (decide (a=(⟨#[111,112,101,110]⟩:ByteArray))) (br (decide (a=(⟨#[111,112,101,110]⟩:ByteArray))) (lr Bh nG true) (lr Bh nG false)) (br (decide (a=(⟨#[116,114,117,101]⟩:ByteArray))) (br (decide (a=(⟨#[116,114,117,101]⟩:ByteArray))) (lr Bh nG true) (lr Bh nG false)) (br (decide (a=(⟨#[102,97,108,115,101]⟩:ByteArray))) (br (decide (a=(⟨#[102,97,108,115,101]⟩:ByteArray))) (lr Bh nG true) (lr Bh nG false)) (br (decide (a=(⟨#[110,97,110]⟩:ByteArray))) (br (decide (a=(⟨#[110,97,110]⟩:ByteArray))) (lr Bh nG true) (lr Bh nG false)) (br (decide (a=(⟨#[105,110,102]⟩:ByteArray))) (lr Bh nG true) (lr Bh nG false))))))))))))))))))))):PT 0 _).m
theorem lw(a:ByteArray):KC Tryz.prog 175 [vS a] (b9 a) Bh:=kC Tryz.func175 Tryz.ntmps175 [.tmp 2] λco m L=>fO co m L
abbrev Pf:Bool->AV:=λy=>vB y
def vJ:ByteArray×Nat->St:=λ(v2,v3)=>Ab [(0,vS v2),(3,vN v3)] []
def jm:Unit->Nat×St:=λ_=>(0,Ab [] [])
def VG:ByteArray×Nat->Option (Lv (ByteArray×Nat) (Unit) (Bool)):=λ(v2,v3)=>(br (decide ((v3:Int)<(120:Int))&&(!decide (v2=(⟨#[]⟩:ByteArray)))) (cl (ZMz v2) λa=>cl (lw a.2) λb=>br b (Aq Pf nG false) (vs (wa v3 1)<|ln (vJ) (a.1,v3+1))) (Af (jm) ()):PT 0 _).m
def ce(a:ByteArray):Option (Bool):=(cl (ZMf a) λb=>br (!b) (lr Pf nG false) (lc (Ab [(0,vS a)] []) ((lc (Ab [(0,vS a),(3,vI 0)] []) ((Aj (VG) Ah (a,0)).bind (Sum.elim (λ_=>(lr Pf nG true:PT 0 _).m) some)):PT 0 _).m)):PT 0 _).m
theorem ZxJ{C:Cx}(co:CO C 0):KL Tryz.prog (As tl) 25 C (pa [0,0,1,0,1,1] (At Tryz.f127)) [.tmp 2] 0 (vJ) (jm) Pf nG (VG):=λ(v2,v3) _ m Q Post a L=>eN co (AA [0,3]) nl a m L
theorem XX(a:ByteArray):KC Tryz.prog 127 [vS a] (ce a) Pf:=kC Tryz.func127 Tryz.ntmps127 [.tmp 2] λco m L=>mJ co 2 (AA [0]) nl nH m L λr g=>λb=>⟨id,λ_ m L=>sq (mJ co 1 (AA [0,3]) nl nH m L λr g=>λ_ m L=>bk 0 (lo (Aw (ZxJ co) nH m L (λ_ m=>fO co m L))))⟩
abbrev oq:Bool->AV:=λy=>vB y
def bG(a:ByteArray):Option (Bool):=(cl (Zf a) λb=>Ax b (lw a) λc=>lr oq nG (b&&(!c)):PT 0 _).m
theorem V8(a:ByteArray):KC Tryz.prog 128 [vS a] (bG a) oq:=kC Tryz.func128 Tryz.ntmps128 [.tmp 2] λco m L=>fO co m L
abbrev Tz:Bool->AV:=λy=>vB y
def uL(a:List Spn)(b:Int):Nat->St:=λc=>Ab [(0,vL CK a),(1,vI b),(5,vN c)] []
def uH:Unit->Nat×St:=λ_=>(0,Ab [] [])
def Va(a:List Spn)(c:Int):Nat->Option (Lv (Nat) (Unit) (Bool)):=λb=>(vz (Ai a)<|br (decide ((b:Int)<(a.length:Int))) (ix a b λd=>AW (decide (d.lo<=c)) a (b:Int) λe=>br (decide (d.lo<=c)&&decide (c<=e.hi)) (Aq Tz nG true) (vs (wa b 1)<|ln (uL a c) (b+1))) (Af (uH) ()):PT 0 _).m
def bJ(a:List Spn)(b:Int):Option (Bool):=(lc (Ab [(0,vL CK a),(1,vI b)] []) ((lc (Ab [(0,vL CK a),(1,vI b),(5,vI 0)] []) ((Aj (Va a b) Ah 0).bind (Sum.elim (λ_=>(lr Tz nG false:PT 0 _).m) some)):PT 0 _).m):PT 0 _).m
theorem Zu0{C:Cx}(co:CO C 0)(a:List Spn)(b:Int):KL Tryz.prog (As tl) 28 C (pa [0,0,1,0,1] (At Tryz.f129)) [.tmp 4] 0 (uL a b) (uH) Tz nG (Va a b):=λd _ m Q Post c L=>eN co (AA [0,1,5]) nl c m L
theorem j9(a:List Spn)(b:Int):KC Tryz.prog 129 [vL CK a,vI b] (bJ a b) Tz:=kC Tryz.func129 Tryz.ntmps129 [.tmp 4] λco m L=>mJ co 1 (AA [0,1]) nl nH m L λr g=>λ_ m L=>sq (mJ co 1 (AA [0,1,5]) nl nH m L λr g=>λ_ m L=>bk 0 (lo (Aw (Zu0 co a b) nH m L (λ_ m=>fO co m L))))
abbrev ET:Bool->AV:=λy=>vB y
def bS(a:Fld):Option (Bool):=(wg<|br (!decide (a.card=(5:Int))) (wg<|wg<|wg<|lr ET nG ((decide ((1:Int)<=a.card)&&decide (a.card<=(4:Int)))&&decide (a.key=(0:Int)))) (wg<|br (decide (a.key=(1:Int))) (br (decide (a.key=(1:Int))) (lr ET nG true) (lr ET nG false)) (br (decide (a.key=(2:Int))) (br (decide (a.key=(2:Int))) (lr ET nG true) (lr ET nG false)) (br (decide (a.key=(3:Int))) (br (decide (a.key=(3:Int))) (lr ET nG true) (lr ET nG false)) (br (decide (a.key=(4:Int))) (br (decide (a.key=(4:Int))) (lr ET nG true) (lr ET nG false)) (br (decide (a.key=(5:Int))) (br (decide (a.key=(5:Int))) (lr ET nG true) (lr ET nG false)) (br (decide (a.key=(7:Int))) (lr ET nG true) (lr ET nG false))))))):PT 0 _).m
theorem ZMN(a:Fld):KC Tryz.prog 130 [.agg ((Au a).map .d)] (bS a) ET:=kC Tryz.func130 Tryz.ntmps130 [.tmp 2] λco m L=>fO co m L
abbrev gK(a:Scm):Ad×Blk:=kk 2 26 3 (cD (Al a))
abbrev Sm:Int->AV:=λy=>vI y
def jA(a:Scm)(b:ByteArray):Nat->St:=λc=>Ab [(1,vS b),pp 2,(5,vN c)] [(gK a)]
def uM:Unit->Nat×St:=λ_=>(0,Ab [] [])
def Vj(b:Scm)(c:ByteArray):Nat->Option (Lv (Nat) (Unit) (Int)):=λa=>(wg<|vz (Ai b.enums)<|br (decide ((a:Int)<(b.enums.length:Int))) (wg<|ix b.enums a λd=>br (decide (d.name=c)) (Aq Sm nG (a:Int)) (vs (wa a 1)<|ln (jA b c) (a+1))) (Af (uM) ()):PT 0 _).m
def bB(a:Scm)(b:ByteArray):Option (Int):=(lc (Ab [(1,vS b),pp 2] [(gK a)]) ((lc (Ab [(1,vS b),pp 2,(5,vI 0)] [(gK a)]) ((Aj (Vj a b) Ah 0).bind (Sum.elim (λ_=>(lr Sm nG (-1):PT 0 _).m) some)):PT 0 _).m):PT 0 _).m
theorem Zxl{C:Cx}(co:CO C 0)(a:Scm)(b:ByteArray):KL Tryz.prog (As tl) 22 C (pa [0,0,1,0,1] (At Tryz.f177)) [.tmp 4] 0 (jA a b) (uM) Sm nG (Vj a b):=λd _ m Q Post c L=>eN co (Aa [1,2,5] EW) nl c m L
theorem kf(a:Scm)(b:ByteArray):KC Tryz.prog 177 [.agg ((Al a).map .d),vS b] (bB a b) Sm:=kC Tryz.func177 Tryz.ntmps177 [.tmp 4] λco m L=>mJ co 1 (Aa [1,2] EW) nl nH m L λr g=>λ_ m L=>sq (mJ co 1 (Aa [1,2,5] EW) nl nH m L λr g=>λ_ m L=>bk 0 (lo (Aw (Zxl co a b) nH m L (λ_ m=>fO co m L))))
abbrev Td:Bool->AV:=λy=>vB y
def bM(b:Scm)(a:Fld):Option (Bool):=(wg<|br (decide (a.type.kind=(9:Int))) (wg<|wg<|cl (kf b a.type.name) λc=>lr Td nG (decide ((0:Int)<=c))) (br (decide (a.type.kind=(10:Int))) (wg<|wg<|cl (Q7 b a.type.name) λd=>wg<|lr Td nG (decide ((0:Int)<=d)&&(!decide (a.card=(3:Int))))) (wg<|wg<|wg<|lr Td nG ((decide ((1:Int)<=a.type.kind)&&decide (a.type.kind<=(8:Int)))&&decide (a.type.name=(⟨#[]⟩:ByteArray))))):PT 0 _).m
theorem ZMY(a:Scm)(b:Fld):KC Tryz.prog 131 [.agg ((Al a).map .d),.agg ((Au b).map .d)] (bM a b) Td:=kC Tryz.func131 Tryz.ntmps131 [.tmp 4] λco m L=>fO co m L
abbrev L7:List (Ad×Bool):=[((1,2),false),((1,5),false)]
abbrev WW(a:Msg):Ad×Blk:=kk 2 61 5 (cD (AD a))
abbrev Sq(a:Fld):Ad×Blk:=kk 5 56 16 (cD (Au a))
abbrev Mt:Bool->AV:=λy=>vB y
def gj(b:Msg)(c:Int)(a:Fld):Bool×Nat->St:=λ(v3,v4)=>Ab [(1,vI c),pp 2,pp 5,(6,vB v3),(7,vN v4)] [(WW b),(Sq a)]
def vd(b:Msg)(c:Int)(a:Fld):Bool->Nat×St:=λd=>(0,Ab [(1,vI c),pp 2,pp 5,(6,vB d)] [(WW b),(Sq a)])
def Vc(a:Msg)(c:Int)(b:Fld):Bool×Nat->Option (Lv (Bool×Nat) (Bool) (Bool)):=λ(v3,v4)=>(wg<|vz (Ai a.fields)<|br (decide ((v4:Int)<(a.fields.length:Int))) (wg<|ix a.fields v4 λd=>wg<|br (decide (d.name=b.union)) (Aq Mt nG false) (wg<|AW (decide ((v4:Int)<c)) a.fields (v4:Int) λe=>wg<|br (decide ((v4:Int)<c)&&decide (e.union=b.union)) (vs (wa v4 1)<|ln (gj a c b) (true,v4+1)) (vs (wa v4 1)<|ln (gj a c b) (v3,v4+1)))) (Af (vd a c b) v3):PT 0 _).m
def bQ(c:Msg)(b:Int):Option (Bool):=(wg<|Di c.fields b λa=>wg<|wg<|br (decide (a.union=(⟨#[]⟩:ByteArray))) (lr Mt nG true) (wg<|wg<|Ax (!(!decide (a.card=(2:Int)))) (V8 a.union) λf=>br ((!decide (a.card=(2:Int)))||(!f)) (lr Mt nG false) (lc (Ab [(1,vI b),pp 2,pp 5,(6,vB false)] [(WW c),(Sq a)]) ((lc (Ab [(1,vI b),pp 2,pp 5,(6,vB false),(7,vI 0)] [(WW c),(Sq a)]) ((Aj (Vc c b a) Ah (false,0)).bind (Sum.elim (λd=>(wg<|vg (!(!d)) (wi (b-1))<|AW (!(!d)) c.fields (b-1) λe=>wg<|lr Mt nG ((!d)||decide (e.union=a.union)):PT 0 _).m) some)):PT 0 _).m))):PT 0 _).m
theorem ZxE{C:Cx}(co:CO C 0)(b:Msg)(c:Int)(a:Fld):KL Tryz.prog (As tl) 69 C (pa [0,0,1,0,1,1,1,1,1] (At Tryz.f132)) [.tmp 4] 0 (gj b c a) (vd b c a) Mt nG (Vc b c a):=λ(v3,v4) _ m Q Post d L=>eN co (Aa [1,2,5,6,7] L7) (Aa [1,2,5,6] L7) d m L
theorem ZOe(a:Msg)(b:Int):KC Tryz.prog 132 [.agg ((AD a).map .d),vI b] (bQ a b) Mt:=kC Tryz.func132 Tryz.ntmps132 [.tmp 4] λco m L=>mJ co 5 (Aa [1,2,5,6] L7) nl nH m L λr g=>λc=>⟨id,λe=>⟨id,λ_ m L=>sq (mJ co 1 (Aa [1,2,5,6,7] L7) nl nH m L λr g=>λ_ m L=>bk 0 (lo (Aw (ZxE co a b c) nH m L (λd m=>fO co m L))))⟩⟩
abbrev pC:Bool->AV:=λy=>vB y
def Lm(a:Int):Option (Bool):=(lr pC nG (decide ((1:Int)<=a)&&decide (a<=(9:Int))):PT 0 _).m
theorem ZK(a:Int):KC Tryz.prog 116 [vI a] (Lm a) pC:=kC Tryz.func116 Tryz.ntmps116 [.tmp 2] λco m L=>fO co m L
abbrev pY:Bool->AV:=λy=>vB y
def PK(a:Val):Option (Bool):=(wg<|vz (Ai a.list)<|wg<|vy (decide ((a.list.length:Int)=(0:Int))) (Ai a.pairs)<|wg<|vy (decide ((a.list.length:Int)=(0:Int))&&decide ((a.pairs.length:Int)=(0:Int))) (Ai a.slots)<|wg<|vy ((decide ((a.list.length:Int)=(0:Int))&&decide ((a.pairs.length:Int)=(0:Int)))&&decide ((a.slots.length:Int)=(0:Int))) (Ai a.raws)<|lr pY nG (((decide ((a.list.length:Int)=(0:Int))&&decide ((a.pairs.length:Int)=(0:Int)))&&decide ((a.slots.length:Int)=(0:Int)))&&decide ((a.raws.length:Int)=(0:Int))):PT 0 _).m
theorem nK(a:Val):KC Tryz.prog 117 [.agg ((Ae a).map .d)] (PK a) pY:=kC Tryz.func117 Tryz.ntmps117 [.tmp 2] λco m L=>fO co m L
abbrev oS:Bool->AV:=λy=>vB y
def Lj(a:Int):Option (Bool):=(lr oS nG (decide (a=(7:Int))||decide (a=(8:Int))):PT 0 _).m
theorem WE(a:Int):KC Tryz.prog 118 [vI a] (Lj a) oS:=kC Tryz.func118 Tryz.ntmps118 [.tmp 2] λco m L=>fO co m L
abbrev HX:Bool->AV:=λy=>vB y
def JM(b:Int)(a:Val):Option (Bool):=(cl (ZK b) λc=>wg<|wg<|Ax (!((!c)||(!decide (a.kind=b)))) (nK a) λd=>br (((!c)||(!decide (a.kind=b)))||(!d)) (lr HX nG false) (cl (WE b) λe=>br e (wg<|wg<|vy (decide (a.bits=(0:Int))) (A1 a.text.size)<|wg<|Ax ((decide (a.bits=(0:Int))&&decide ((a.text.size:Int)<=(4096:Int)))&&(!(decide (b=(8:Int))))) (nN a.text) λf=>lr HX nG ((decide (a.bits=(0:Int))&&decide ((a.text.size:Int)<=(4096:Int)))&&(decide (b=(8:Int))||f))) (wg<|br (!decide (a.text=(⟨#[]⟩:ByteArray))) (lr HX nG false) (br (decide (b=(1:Int))) (wg<|lr HX nG (decide (a.bits<=(1:Int)))) (br (decide (b=(2:Int))) (wg<|vz (wk .i64 a.bits)<|lr HX nG (decide (((-2147483648):Int)<=(IntKind.i64.wrap a.bits))&&decide ((IntKind.i64.wrap a.bits)<=(2147483647:Int)))) (br (decide (b=(4:Int))) (wg<|lr HX nG (decide (a.bits<(4294967296:Int)))) (br (decide (b=(9:Int))) (wg<|lr HX nG (decide (a.bits<(2147483648:Int)))) (lr HX nG true))))))):PT 0 _).m
theorem bb(a:Int)(b:Val):KC Tryz.prog 58 [vI a,.agg ((Ae b).map .d)] (JM a b) HX:=kC Tryz.func58 Tryz.ntmps58 [.tmp 4] λco m L=>fO co m L
abbrev MQ:Int->AV:=λy=>vI y
def PE(a:Int):Option (Int):=(rem .u64 a 9223372036854775808<|br (decide ((9218868437227405312:Int)<(JC .u64 a 9223372036854775808))) (lr MQ nG 0) (br (decide ((JC .u64 a 9223372036854775808)=(9218868437227405312:Int))) (lr MQ nG 1) (br (decide ((JC .u64 a 9223372036854775808)=(0:Int))) (lr MQ nG 2) (br (decide ((JC .u64 a 9223372036854775808)<(4503599627370496:Int))) (lr MQ nG 3) (lr MQ nG 4)))):PT 0 _).m
theorem lR(a:Int):KC Tryz.prog 121 [.d (.int .u64 a)] (PE a) MQ:=kC Tryz.func121 Tryz.ntmps121 [.tmp 2] λco m L=>fO co m L
abbrev Xj:Val->AV:=λy=>.agg ((Ae y).map .d)
def PJ(a:Val):Option (Val):=(wg<|wg<|Ax (decide (a.kind=(6:Int))) (lR a.bits) λb=>br (decide (a.kind=(6:Int))&&decide (b=(0:Int))) (wg<|wg<|wg<|lr Xj nG (.mk a.kind 9221120237041090560 a.text a.list a.pairs a.slots a.raws:Val)) (wg<|wg<|lr Xj nG a):PT 0 _).m
theorem aI(a:Val):KC Tryz.prog 96 [.agg ((Ae a).map .d)] (PJ a) Xj:=kC Tryz.func96 Tryz.ntmps96 [.cell 2 33] λco m L=>fO co m L
abbrev pj:Bool->AV:=λy=>vB y
def bD(a:Val)(b:Val):Option (Bool):=(wg<|wg<|wg<|wg<|wg<|wg<|wg<|vy ((decide (a.kind=b.kind)&&decide (a.bits=b.bits))&&decide (a.text=b.text)) (Ai a.list)<|wg<|vy ((decide (a.kind=b.kind)&&decide (a.bits=b.bits))&&decide (a.text=b.text)) (Ai a.pairs)<|vg ((decide (a.kind=b.kind)&&decide (a.bits=b.bits))&&decide (a.text=b.text)) (wa a.list.length a.pairs.length)<|wg<|vy ((decide (a.kind=b.kind)&&decide (a.bits=b.bits))&&decide (a.text=b.text)) (Ai a.slots)<|vg ((decide (a.kind=b.kind)&&decide (a.bits=b.bits))&&decide (a.text=b.text)) (wa (a.list.length+a.pairs.length) a.slots.length)<|wg<|vy ((decide (a.kind=b.kind)&&decide (a.bits=b.bits))&&decide (a.text=b.text)) (Ai a.raws)<|vg ((decide (a.kind=b.kind)&&decide (a.bits=b.bits))&&decide (a.text=b.text)) (wa ((a.list.length+a.pairs.length)+a.slots.length) a.raws.length)<|wg<|vy ((decide (a.kind=b.kind)&&decide (a.bits=b.bits))&&decide (a.text=b.text)) (Ai b.list)<|vg ((decide (a.kind=b.kind)&&decide (a.bits=b.bits))&&decide (a.text=b.text)) (wa (((a.list.length+a.pairs.length)+a.slots.length)+a.raws.length) b.list.length)<|wg<|vy ((decide (a.kind=b.kind)&&decide (a.bits=b.bits))&&decide (a.text=b.text)) (Ai b.pairs)<|vg ((decide (a.kind=b.kind)&&decide (a.bits=b.bits))&&decide (a.text=b.text)) (wa ((((a.list.length+a.pairs.length)+a.slots.length)+a.raws.length)+b.list.length) b.pairs.length)<|wg<|vy ((decide (a.kind=b.kind)&&decide (a.bits=b.bits))&&decide (a.text=b.text)) (Ai b.slots)<|vg ((decide (a.kind=b.kind)&&decide (a.bits=b.bits))&&decide (a.text=b.text)) (wa (((((a.list.length+a.pairs.length)+a.slots.length)+a.raws.length)+b.list.length)+b.pairs.length) b.slots.length)<|wg<|vy ((decide (a.kind=b.kind)&&decide (a.bits=b.bits))&&decide (a.text=b.text)) (Ai b.raws)<|vg ((decide (a.kind=b.kind)&&decide (a.bits=b.bits))&&decide (a.text=b.text)) (wa ((((((a.list.length+a.pairs.length)+a.slots.length)+a.raws.length)+b.list.length)+b.pairs.length)+b.slots.length) b.raws.length)<|lr pj nG (((decide (a.kind=b.kind)&&decide (a.bits=b.bits))&&decide (a.text=b.text))&&decide (((((((((a.list.length+a.pairs.length)+a.slots.length)+a.raws.length)+b.list.length)+b.pairs.length)+b.slots.length)+b.raws.length:Nat):Int)=(0:Int))):PT 0 _).m
theorem l4(a:Val)(b:Val):KC Tryz.prog 178 [.agg ((Ae a).map .d),.agg ((Ae b).map .d)] (bD a b) pj:=kC Tryz.func178 Tryz.ntmps178 [.tmp 4] λco m L=>fO co m L
abbrev bu(a:Scm):Ad×Blk:=kk 2 26 3 (cD (Al a))
abbrev aT(a:Fld):Ad×Blk:=kk 5 33 7 (cD (Ae a.dflt))
abbrev Jz:Bool->AV:=λy=>vB y
def uN(a:Scm)(b:Fld)(d:Int):Nat->St:=λc=>Ab [pp 2,pp 5,(6,vI d),(7,vN c)] [(bu a),(aT b)]
def i5:Unit->Nat×St:=λ_=>(0,Ab [] [])
def Vd(b:Scm)(f:Fld)(c:Int):Nat->Option (Lv (Nat) (Unit) (Bool)):=λa=>(wg<|Di b.enums c λd=>vz (Ai d.items)<|br (decide ((a:Int)<(d.items.length:Int))) (wg<|Di b.enums c λg=>ix g.items a λe=>vz (wk .u64 e.num)<|wg<|br (decide ((IntKind.u64.wrap e.num)=f.dflt.bits)) (Aq Jz nG true) (vs (wa a 1)<|ln (uN b f c) (a+1))) (Af (i5) ()):PT 0 _).m
def cA(b:Scm)(a:Fld):Option (Bool):=(wg<|wg<|wg<|br (!a.hasDefault) (wg<|cl ((l4 a.dflt (.mk 0 0 ⟨#[]⟩ ([]:List Val) ([]:List Pr) ([]:List Slt) ([]:List Raw):Val)).nrm (λ_ _ _ h=>.nrm h) (xs':=[.agg ((Ae a.dflt).map .d),.agg [vI 0,.d (.int .u64 0),vS ⟨#[]⟩,.e0,.e0,.e0,.e0]]) (by intro r;kernel_rfl)) λe=>lr Jz nG e) (wg<|wg<|wg<|wg<|Ax (!((!decide (a.card=(2:Int)))||(!decide (a.union=(⟨#[]⟩:ByteArray))))) (bb a.type.kind a.dflt) λd=>wg<|wg<|Ax (!(((!decide (a.card=(2:Int)))||(!decide (a.union=(⟨#[]⟩:ByteArray))))||(!d))) (aI a.dflt) λf=>Ax (!(((!decide (a.card=(2:Int)))||(!decide (a.union=(⟨#[]⟩:ByteArray))))||(!d))) (l4 a.dflt f) λg=>br ((((!decide (a.card=(2:Int)))||(!decide (a.union=(⟨#[]⟩:ByteArray))))||(!d))||(!g)) (lr Jz nG false) (wg<|wg<|cl (kf b a.type.name) λc=>wg<|br (!decide (a.type.kind=(9:Int))) (lr Jz nG true) (br (decide (c<(0:Int))) (lr Jz nG false) (lc (Ab [pp 2,pp 5,(6,vI c)] [(bu b),(aT a)]) ((lc (Ab [pp 2,pp 5,(6,vI c),(7,vI 0)] [(bu b),(aT a)]) ((Aj (Vd b a c) Ah 0).bind (Sum.elim (λ_=>(lr Jz nG false:PT 0 _).m) some)):PT 0 _).m))))):PT 0 _).m
theorem Zvr{C:Cx}(co:CO C 0)(a:Scm)(b:Fld)(c:Int):KL Tryz.prog (As tl) 75 C (pa [0,0,1,0,1,1,1,1,1,1,1] (At Tryz.f133)) [.tmp 4] 0 (uN a b c) (i5) Jz nG (Vd a b c):=λe _ m Q Post d L=>eN co (Aa [2,5,6,7] L7) nl d m L
theorem ZLS(a:Scm)(b:Fld):KC Tryz.prog 133 [.agg ((Al a).map .d),.agg ((Au b).map .d)] (cA a b) Jz:=kC Tryz.func133 Tryz.ntmps133 [.tmp 4] λco m L=>mJ co 7 (Aa [2,5,6] L7) nl nH m L λr g=>⟨λd=>id,λe=>λf=>λh=>⟨id,λc=>⟨id,⟨id,λ_ m L=>sq (mJ co 1 (Aa [2,5,6,7] L7) nl nH m L λr g=>λ_ m L=>bk 0 (lo (Aw (Zvr co a b c) nH m L (λ_ m=>fO co m L))))⟩⟩⟩⟩
abbrev wb:ByteArray:=⟨#[115,105,110,99,101]⟩
abbrev wc:ByteArray:=⟨#[109,105,110]⟩
abbrev lb3:ByteArray:=⟨#[109,97,120]⟩
abbrev wd:ByteArray:=⟨#[117,110,116,105,108]⟩
abbrev we:ByteArray:=⟨#[108,101,110,103,116,104]⟩
abbrev lb6:ByteArray:=⟨#[116,105,109,101,111,117,116]⟩
abbrev wh:ByteArray:=⟨#[97,108,105,97,115]⟩
abbrev wj:ByteArray:=⟨#[114,111,117,116,101]⟩
abbrev Ea:Int->AV:=λy=>vI y
def PU(a:ByteArray):PT 0 (Int):=br (decide (a=wc)) (br (decide (a=wc)) (lr Ea nG 3) (lr Ea nG 0)) (br (decide (a=lb3)) (lr Ea nG 3) (lr Ea nG 0))
def P2(a:ByteArray):PT 0 (Int):=br (decide (a=wb)) (br (decide (a=wb)) (lr Ea nG 4) (PU a)) (br (decide (a=wd)) (br (decide (a=wd)) (lr Ea nG 4) (PU a)) (br (decide (a=we)) (br (decide (a=we)) (lr Ea nG 4) (PU a)) (br (decide (a=lb6)) (lr Ea nG 4) (PU a))))
def Uo(a:ByteArray):PT 0 (Int):=br (decide (a=(⟨#[100,111,99]⟩:ByteArray))) (br (decide (a=(⟨#[100,111,99]⟩:ByteArray))) (lr Ea nG 7) (P2 a)) (br (decide (a=wh)) (br (decide (a=wh)) (lr Ea nG 7) (P2 a)) (br (decide (a=wj)) (br (decide (a=wj)) (lr Ea nG 7) (P2 a)) (br (decide (a=(⟨#[111,119,110,101,114]⟩:ByteArray))) (lr Ea nG 7) (P2 a))))
def bU(a:ByteArray):Option (Int):=(br (decide (a=(⟨#[100,101,112,114,101,99,97,116,101,100]⟩:ByteArray))) (br (decide (a=(⟨#[100,101,112,114,101,99,97,116,101,100]⟩:ByteArray))) (lr Ea nG 1) (Uo a)) (br (decide (a=(⟨#[115,101,99,114,101,116]⟩:ByteArray))) (br (decide (a=(⟨#[115,101,99,114,101,116]⟩:ByteArray))) (lr Ea nG 1) (Uo a)) (br (decide (a=(⟨#[105,100,101,109,112,111,116,101,110,116]⟩:ByteArray))) (lr Ea nG 1) (Uo a))):PT 0 _).m
theorem mA(a:ByteArray):KC Tryz.prog 228 [vS a] (bU a) Ea:=kC Tryz.func228 Tryz.ntmps228 [.tmp 2] λco m L=>fO co m L
abbrev wn:ByteArray:=⟨#[109,105,110]⟩
abbrev oR:ByteArray:=⟨#[105,100,101,109,112,111,116,101,110,116]⟩
abbrev pq:ByteArray:=⟨#[116,105,109,101,111,117,116]⟩
abbrev ZQ4:ByteArray:=⟨#[114,111,117,116,101]⟩
abbrev ph:ByteArray:=⟨#[109,97,120]⟩
abbrev pB:ByteArray:=⟨#[108,101,110,103,116,104]⟩
abbrev ZRe:ByteArray:=⟨#[115,101,99,114,101,116]⟩
abbrev I2:Bool->AV:=λy=>vB y
def TS(a:Int):PT 0 (Bool):=lr I2 nG (decide (a=(1:Int))||decide (a=(5:Int)))
def PV(b:ByteArray)(a:Int):PT 0 (Bool):=br (decide (b=oR)) (br (decide (b=oR)) (lr I2 nG (decide (a=(6:Int)))) (TS a)) (br (decide (b=pq)) (br (decide (b=pq)) (lr I2 nG (decide (a=(6:Int)))) (TS a)) (br (decide (b=ZQ4)) (lr I2 nG (decide (a=(6:Int)))) (TS a)))
def PW(a:Int):PT 0 (Bool):=lr I2 nG (decide (a=(2:Int)))
def Un(a:ByteArray)(b:Int):PT 0 (Bool):=br (decide (a=wn)) (br (decide (a=wn)) (PW b) (PV a b)) (br (decide (a=ph)) (br (decide (a=ph)) (PW b) (PV a b)) (br (decide (a=pB)) (br (decide (a=pB)) (PW b) (PV a b)) (br (decide (a=ZRe)) (PW b) (PV a b))))
def T6(a:Int):PT 0 (Bool):=lr I2 nG ((decide (a=(2:Int))||decide (a=(4:Int)))||decide (a=(6:Int)))
def dH(a:ByteArray)(b:Int):PT 0 (Bool):=br (decide (a=(⟨#[97,108,105,97,115]⟩:ByteArray))) (br (decide (a=(⟨#[97,108,105,97,115]⟩:ByteArray))) (T6 b) (Un a b)) (br (decide (a=(⟨#[115,105,110,99,101]⟩:ByteArray))) (br (decide (a=(⟨#[115,105,110,99,101]⟩:ByteArray))) (T6 b) (Un a b)) (br (decide (a=(⟨#[117,110,116,105,108]⟩:ByteArray))) (T6 b) (Un a b)))
def bW(b:ByteArray)(a:Int):Option (Bool):=(br (decide (b=(⟨#[100,101,112,114,101,99,97,116,101,100]⟩:ByteArray))) (br (decide (b=(⟨#[100,101,112,114,101,99,97,116,101,100]⟩:ByteArray))) (lr I2 nG (decide ((1:Int)<=a)&&decide (a<=(6:Int)))) (dH b a)) (br (decide (b=(⟨#[100,111,99]⟩:ByteArray))) (lr I2 nG (decide ((1:Int)<=a)&&decide (a<=(6:Int)))) (dH b a)):PT 0 _).m
theorem ZMr(a:ByteArray)(b:Int):KC Tryz.prog 229 [vS a,vI b] (bW a b) I2:=kC Tryz.func229 Tryz.ntmps229 [.tmp 4] λco m L=>fO co m L
abbrev n2:Bool->AV:=λy=>vB y
def cq(b:Nt):Option (Bool):=(wg<|cl (mA b.name) λa=>wg<|wg<|Ax ((!decide (a=(0:Int)))&&decide (b.val.kind=a)) (bb a b.val) λc=>lr n2 nG (((!decide (a=(0:Int)))&&decide (b.val.kind=a))&&c):PT 0 _).m
theorem ZN3(a:Nt):KC Tryz.prog 230 [.agg ((Cd a).map .d)] (cq a) n2:=kC Tryz.func230 Tryz.ntmps230 [.tmp 2] λco m L=>fO co m L
abbrev IX:Int->AV:=λy=>vI y
def uB(a:List Nt)(b:Int):Nat->St:=λc=>Ab [(0,vL Cd a),(1,vI b),(5,vN c)] []
def ui:Unit->Nat×St:=λ_=>(0,Ab [] [])
def UX(b:List Nt)(e:Int):Nat->Option (Lv (Nat) (Unit) (Int)):=λa=>(vz (Ai b)<|br (decide ((a:Int)<(b.length:Int))) (ix b a λf=>cl (mA f.name) λk=>br (decide (k=(0:Int))) (Aq IX nG 8) (ix b a λg=>cl (ZMr g.name e) λl=>br (!l) (Aq IX nG 1) (ix b a λh=>cl (ZN3 h) λm=>br (!m) (Aq IX nG 12) (AW (decide ((0:Int)<(a:Int))) b (a:Int) λi=>vg (decide ((0:Int)<(a:Int))) (wi ((a:Int)-1))<|AW (decide ((0:Int)<(a:Int))) b ((a:Int)-1) λj=>br (decide ((0:Int)<(a:Int))&&Bt i.name j.name) (Aq IX nG 11) (AW (decide ((0:Int)<(a:Int))) b (a:Int) λc=>vg (decide ((0:Int)<(a:Int))) (wi ((a:Int)-1))<|AW (decide ((0:Int)<(a:Int))) b ((a:Int)-1) λd=>br (decide ((0:Int)<(a:Int))&&decide (c.name=d.name)) (Aq IX nG 9) (vs (wa a 1)<|ln (uB b e) (a+1))))))) (Af (ui) ()):PT 0 _).m
def cB(a:List Nt)(b:Int):Option (Int):=(vz (Ai a)<|br (decide ((8:Int)<(a.length:Int))) (lr IX nG 3) (lc (Ab [(0,vL Cd a),(1,vI b)] []) ((lc (Ab [(0,vL Cd a),(1,vI b),(5,vI 0)] []) ((Aj (UX a b) Ah 0).bind (Sum.elim (λ_=>(lr IX nG 0:PT 0 _).m) some)):PT 0 _).m)):PT 0 _).m
theorem Zwa{C:Cx}(co:CO C 0)(a:List Nt)(b:Int):KL Tryz.prog (As tl) 68 C (pa [0,0,1,0,1,1] (At Tryz.f179)) [.tmp 4] 0 (uB a b) (ui) IX nG (UX a b):=λd _ m Q Post c L=>eN co (AA [0,1,5]) nl c m L
theorem ZMG(a:List Nt)(b:Int):KC Tryz.prog 179 [vL Cd a,vI b] (cB a b) IX:=kC Tryz.func179 Tryz.ntmps179 [.tmp 4] λco m L=>mJ co 2 (AA [0,1]) nl nH m L λr g=>⟨id,λ_ m L=>sq (mJ co 1 (AA [0,1,5]) nl nH m L λr g=>λ_ m L=>bk 0 (lo (Aw (Zwa co a b) nH m L (λ_ m=>fO co m L))))⟩
abbrev pM:List Prb->AV:=λy=>.tup []
@[reducible] def oI(a:ByteArray):List Prb->List Blk:=λy=>[⟨0,true,97,2,[vS a,.ref (0,1) 0 0 y.length]⟩,⟨0,true,155,3,Ac Ak y⟩]
def gb(a:ByteArray)(b:List Prb):PT 2 (List Prb):=lr pM (oI a) b
def Ih(a:ByteArray)(b:List Prb)(f:List Nt)(g:Int)(e:Int):Option (List Prb):=(cl (ZMG f g) λc=>vz (fl b)<|lc (Ab [(0,.ptr (0,0) 0 0),(3,vI e),(8,vI c)] [((0,0),⟨0,true,97,2,[vS a,.ref (0,1) 0 0 b.length]⟩),((0,1),⟨0,true,155,3,Ac Ak b⟩)]) ((vz (fl b)<|lc (Ab [(12,.ptr (0,0) 0 0),(14,vB (!decide (c=(0:Int)))),(15,vI e),(16,vI c)] [((0,0),⟨0,true,97,2,[vS a,.ref (0,1) 0 0 b.length]⟩),((0,1),⟨0,true,155,3,Ac Ak b⟩)]) ((Bx a b (!decide (c=(0:Int))) e c).bind λd=>(vz (fl d)<|lc (Ab [] [((0,0),⟨0,true,97,2,[vS a,.ref (0,1) 0 0 d.length]⟩),((0,1),⟨0,true,155,3,Ac Ak d⟩)]) ((gb a d).m):PT 2 _).m):PT 2 _).m):PT 2 _).m
theorem Od(a:ByteArray)(b:List Prb)(d:List Nt)(e:Int)(c:Int):KG Tryz.prog 134 2 [1] [(1,0)] [.ptr (0,0) 0 0,vL Cd d,vI e,vI c] [⟨0,true,97,2,[vS a,.ref (0,1) 0 0 b.length]⟩,⟨0,true,155,3,Ac Ak b⟩] (Ih a b d e c) pM (oI a):=gM Tryz.func134 Tryz.ntmps134 AI [] 2 [1] [0] [(1,0)] (λC co h y m Post L=>mJ co 1 (Aa [0,3,8] FA) nl nH m L λr g=>λf=>λ_ m L=>rg (pR co 5 (Aa [12,14,15,16] FA) m L λr g=>λ_ m L=>Bn co m (BR a b (!decide (f=(0:Int))) c f) [((0,0),⟨0,true,97,2,[vS a,.ref (0,1) 0 0 b.length]⟩),((0,1),⟨0,true,155,3,Ac Ak b⟩)] [] (λz=>.tup []) (λz=>[((0,0),⟨0,true,97,2,[vS a,.ref (0,1) 0 0 z.length]⟩),((0,1),⟨0,true,155,3,Ac Ak z⟩)]) [] λi m=>eR co (Aa [] FA) m L λr g=>λ_ m L=>B1 (gb a i) co m L (λr g=>id) r g))
abbrev Sn(a:ByteArray)(b:List Prb):Ad×Blk:=((0,0),⟨0,true,97,2,[vS a,.ref (0,1) 0 0 b.length]⟩)
abbrev aS:List Prb->AV:=λy=>.tup []
@[reducible] def a7(a:ByteArray):List Prb->List Blk:=λy=>[⟨0,true,97,2,[vS a,.ref (0,1) 0 0 y.length]⟩,⟨0,true,155,3,Ac Ak y⟩]
def vq(a:ByteArray)(c:List Spn)(d:Int)(e:Int):Nat×List Prb->St:=λ(f,b)=>Ab [(0,.ptr (0,0) 0 0),(1,vL CK c),(2,vI d),(3,vI e),(8,vN f)] [(Sn a b),((0,1),⟨0,true,155,3,Ac Ak b⟩)]
def vf(a:ByteArray):List Prb->Nat×St:=λb=>(0,Ab [] [((0,0),⟨0,true,97,2,[vS a,.ref (0,1) 0 0 b.length]⟩),((0,1),⟨0,true,155,3,Ac Ak b⟩)])
def fB(a:ByteArray)(d:List Spn)(f:Int)(g:Int)(b:Nat)(e:List Prb):PT 2 (Lv (Nat×List Prb) (List Prb) (List Prb)):=AW (decide ((0:Int)<(b:Int))) d (b:Int) λh=>vg (decide ((0:Int)<(b:Int))) (wi ((b:Int)-1))<|AW (decide ((0:Int)<(b:Int))) d ((b:Int)-1) λi=>vz (fl e)<|lc (Ab [(0,.ptr (0,0) 0 0),(1,vL CK d),(2,vI f),(3,vI g),(8,vN b),(46,.ptr (0,0) 0 0),(62,vB (decide ((0:Int)<(b:Int))&&decide (h.lo<=i.hi)))] [((0,0),⟨0,true,97,2,[vS a,.ref (0,1) 0 0 e.length]⟩),((0,1),⟨0,true,155,3,Ac Ak e⟩)]) ((Bx a e (decide ((0:Int)<(b:Int))&&decide (h.lo<=i.hi)) (-1) 11).bind λc=>(vz (fl c)<|lc (Ab [(0,.ptr (0,0) 0 0),(1,vL CK d),(2,vI f),(3,vI g),(8,vN b)] [((0,0),⟨0,true,97,2,[vS a,.ref (0,1) 0 0 c.length]⟩),((0,1),⟨0,true,155,3,Ac Ak c⟩)]) ((vs (wa b 1)<|vz (fl c)<|ln (vq a d f g) (b+1,c):PT 2 _).m):PT 2 _).m)
def ft(a:ByteArray)(c:List Spn)(b:Int)(d:Int)(e:Nat)(h:List Prb):PT 2 (Lv (Nat×List Prb) (List Prb) (List Prb)):=ix c e λf=>AW (!(decide (f.lo<b))) c (e:Int) λg=>AW (!(decide (f.lo<b)||decide (d<g.hi))) c (e:Int) λj=>AW (!(decide (f.lo<b)||decide (d<g.hi))) c (e:Int) λk=>vz (fl h)<|lc (Ab [(0,.ptr (0,0) 0 0),(1,vL CK c),(2,vI b),(3,vI d),(8,vN e),(15,.ptr (0,0) 0 0),(44,vB ((decide (f.lo<b)||decide (d<g.hi))||decide (k.hi<j.lo)))] [(Sn a h),((0,1),⟨0,true,155,3,Ac Ak h⟩)]) ((Bx a h ((decide (f.lo<b)||decide (d<g.hi))||decide (k.hi<j.lo)) (-1) 6).bind λi=>(vz (fl i)<|lc (Ab [(0,.ptr (0,0) 0 0),(1,vL CK c),(2,vI b),(3,vI d),(8,vN e)] [((0,0),⟨0,true,97,2,[vS a,.ref (0,1) 0 0 i.length]⟩),((0,1),⟨0,true,155,3,Ac Ak i⟩)]) ((fB a c b d e i).m):PT 2 _).m)
def U4(a:ByteArray)(c:List Spn)(e:Int)(f:Int):Nat×List Prb->Option (Lv (Nat×List Prb) (List Prb) (List Prb)):=λ(d,b)=>(vz (Ai c)<|br (decide ((d:Int)<(c.length:Int))) (vz (fl b)<|lc (Ab [(0,.ptr (0,0) 0 0),(1,vL CK c),(2,vI e),(3,vI f),(8,vN d)] [(Sn a b),((0,1),⟨0,true,155,3,Ac Ak b⟩)]) ((ft a c e f d b).m)) (vz (fl b)<|Af (vf a) b):PT 2 _).m
def fU(a:ByteArray)(b:List Prb):PT 2 (List Prb):=lr aS (a7 a) b
def PF(a:ByteArray)(b:List Prb)(d:List Spn)(e:Int)(f:Int):Option (List Prb):=(vz (fl b)<|lc (Ab [(0,.ptr (0,0) 0 0),(1,vL CK d),(2,vI e),(3,vI f),(8,vI 0)] [((0,0),⟨0,true,97,2,[vS a,.ref (0,1) 0 0 b.length]⟩),((0,1),⟨0,true,155,3,Ac Ak b⟩)]) ((Aj (U4 a d e f) Ah (0,b)).bind (Sum.elim (λc=>(fU a c).m) some)):PT 2 _).m
theorem ZuZ{C:Cx}(co:COx C 2 [0])(q:Jo C.κ [(1,0)])(a:ByteArray)(d:List Spn)(b:Int)(c:Int):KL Tryz.prog (As tl) 64 C (pa [0,0,1] (At Tryz.f135)) [] 2 (vq a d b c) (vf a) aS (a7 a) (U4 a d b c):=λ(h,e) _ m Q Post i L=>mJ co 1 (Aa [0,1,2,3,8] FA) (Aa [] FA) i m L λr g=>⟨λ_ m L=>sq (bk 1 (sq (Fx co AI BK 30 (ft a d b c h e) (Aa [0,1,2,3,8,15,44] FA) m L λr g=>λj=>λk=>λl=>λn=>λ_ m L=>Bn co m (BR a e ((decide (j.lo<b)||decide (c<k.hi))||decide (n.hi<l.lo)) (-1) 6) [(Sn a e),((0,1),⟨0,true,155,3,Ac Ak e⟩)] [] (λz=>.tup []) (λz=>[((0,0),⟨0,true,97,2,[vS a,.ref (0,1) 0 0 z.length]⟩),((0,1),⟨0,true,155,3,Ac Ak z⟩)]) [] λf m=>eR co (Aa [0,1,2,3,8] FA) m L λr g=>λ_ m L=>Fx co AI BK 17 (fB a d b c h f) (Aa [0,1,2,3,8,46,62] FA) m L λr g=>λo=>λp=>λ_ m L=>Bn co m (BR a f (decide ((0:Int)<(h:Int))&&decide (o.lo<=p.hi)) (-1) 11) [((0,0),⟨0,true,97,2,[vS a,.ref (0,1) 0 0 f.length]⟩),((0,1),⟨0,true,155,3,Ac Ak f⟩)] [] (λz=>.tup []) (λz=>[((0,0),⟨0,true,97,2,[vS a,.ref (0,1) 0 0 z.length]⟩),((0,1),⟨0,true,155,3,Ac Ak z⟩)]) [] λs m=>eR co (Aa [0,1,2,3,8] FA) m L λr g=>λ_ m L=>eN co (Aa [0,1,2,3,8] FA) nl i m L))),id⟩
theorem lQ(a:ByteArray)(b:List Prb)(d:List Spn)(e:Int)(f:Int):KG Tryz.prog 135 2 [1] [(1,0)] [.ptr (0,0) 0 0,vL CK d,vI e,vI f] [⟨0,true,97,2,[vS a,.ref (0,1) 0 0 b.length]⟩,⟨0,true,155,3,Ac Ak b⟩] (PF a b d e f) aS (a7 a):=gM Tryz.func135 Tryz.ntmps135 AI [] 2 [1] [0] [(1,0)] (λC co c y m Post L=>mJ co 1 (Aa [0,1,2,3,8] FA) nl nH m L λr g=>λ_ m L=>bk 0 (lo (Aw (ZuZ co c a d e f) nH m L (λh m=>B1 (fU a h) co m L (λr g=>id) r g))))
end Go.Proofs.YtalafnjhcecdpaaGreatDoor
