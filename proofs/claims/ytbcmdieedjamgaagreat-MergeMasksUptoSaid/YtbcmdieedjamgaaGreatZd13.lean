import Derived.Test.YtbcmdieedjamgaaGreatZd12
import Derived.Test.YtbcmdieedjamgaaGreatZd00
namespace Go.Proofs.YtbcmdieedjamgaaGreat
set_option maxRecDepth 100000
set_option linter.all false
open Go Go.Eng
section
variable {n os:Nat} {C:Cx} {τ:St} {Q:Exit→St→Prop} {p:List Nat} {b c:Code} {β:Type} {Post:AV→List Blk→Prop} {rs:List ResultVar} {L:β→Prop} {y:β}
theorem mJ{fx:List Nat}(co:COx C os fx)(m:Nat){v:PT os β}(lf a:Lf)(d:∀τ,FQ (As tl) rs os Post .ret τ→Q .ret τ)(i:v.m=some y)(c:HL L y)
 (f:∀r (g:Gd C r),v.n ⟨⟨C.l,r,fun e τ'=>match e with|.normal=>LW Tryz.prog n C (pa (up m p) b) τ' Q|e=>Q e τ',Post⟩,L,C,_,co,g,rfl⟩)
 (h:∀l r Q Post,OD Tryz.prog (As tl) l n os r m (pa p b) v.a τ (KB (As tl) rs os fx r Post lf a Q)=v.q ⟨l,r,Q,Post⟩:=by intro l r Q P;kernel_rfl) (hl:Ri m (pa p b)=true:=by kernel_rfl):LW Tryz.prog n C (pa p b) τ Q:=z5 co AS BM m v lf a d i c f h hl
theorem eN{fx:List Nat}(co:COx C os fx){v:PT os β}(lf a:Lf)(e:∀τ,FQ (As tl) rs os Post .ret τ→Q .ret τ)(h:v.m=some y)(d:HL L y)
 (f:∀r (g:Gd C r),v.n ⟨⟨C.l,r,Q,Post⟩,L,C,_,co,g,rfl⟩:=by
  intro r g
  repeat' (first|exact id|exact trivial|refine⟨?_,?_⟩|intro _|(rename_i b h;subst h;cases b<;>rfl))) (i:∀l r Q Post,Cw Tryz.prog (As tl) l n os r c v.a τ (KB (As tl) rs os fx r Post lf a Q)=v.q ⟨l,r,Q,Post⟩:=by intro l r Q P;kernel_rfl):LW Tryz.prog n C c τ Q:=ZXa co AS BM v lf a e h d f i
theorem fO {fx:List Nat} (co:COx C os fx) {v:PT os β} (h:v.m=some y) (a:HL L y) (d:∀r (g:Gd C r),v.n ⟨⟨C.l,r,fun _ _=>False,Post⟩,L,C,_,co,g,rfl⟩:=by
  intro r g
  repeat' (first|exact id|exact trivial|refine⟨?_,?_⟩|intro _|(rename_i b h;subst h;cases b<;>rfl)))
 (e:∀l r Q Post,Cw Tryz.prog (As tl) l n os r c v.a τ (KF (As tl) rs os Post)=v.q ⟨l,r,Q,Post⟩:=by intro l r Q P;kernel_rfl):LW Tryz.prog n C c τ (FQ (As tl) rs os Post):=ZYw co AS BM v h a d e
theorem pR{k:Nat}{fx:List Nat}(co:COx C os fx)(m:Nat){v:PT os β}(lf:Lf)(h:v.m=some y)(d:HL L y)(e:∀r (g:Gd C r),v.n ⟨⟨C.l,r,fun _ τ'=>LO Tryz.prog n C c (k+m) τ' Q,fun _ _=>False⟩,L,C,_,co,g,rfl⟩)
 (f:∀l r Q Post,A7 r os v.a τ (fun τ a=>Gi Tryz.prog (As tl) l n r ((BZ c).toList.map (·.dst)) (It m (Hr k (BZ c).toList)) [] a (fun τ' env b=>A7 r os b (Dz env τ') (fun τ _=>Ei fx lf τ (Q .normal))) τ)=v.q ⟨l,r,Q,Post⟩:=by intro l r Q P;kernel_rfl):LO Tryz.prog n C c k τ Q:=ZZH co AS m v lf h d e f
theorem eR {k:Nat} {fx:List Nat} (co:COx C os fx) {v:PT os β} (lf:Lf) (j:v.m=some y) (e:HL L y) (f:∀r (g:Gd C r),v.n ⟨⟨C.l,r,Q,fun _ _=>False⟩,L,C,_,co,g,rfl⟩:=by
  intro r g
  repeat' (first|exact id|exact trivial|refine⟨?_,?_⟩|intro _|(rename_i b h;subst h;cases b<;>rfl)))
 (i:∀l r Q Post,A7 r os v.a τ (fun τ a=>Gi Tryz.prog (As tl) l n r ((BZ c).toList.map (·.dst)) (Hr k (BZ c).toList) [] a (fun τ' env d=>A7 r os d (Dz env τ') (fun τ _=>Ei fx lf τ (Q .normal))) τ)=v.q ⟨l,r,Q,Post⟩:=by intro l r Q P;kernel_rfl):LO Tryz.prog n C c k τ Q:=ZYF co AS v lf j e f i
theorem cM{fx:List Nat}(co:COx C os fx){v:PT os β}(lf:Lf)(e:v.m=some y)(a:HL L y)(b:∀r (g:Gd C r),v.n ⟨⟨C.l,r,fun _ τ'=>LW Tryz.prog n C c τ' Q,fun _ _=>False⟩,L,C,_,co,g,rfl⟩)
 (d:∀l r Q Post,A7 r os v.a τ (fun τ _=>Ei fx lf τ (Q .normal))=v.q ⟨l,r,Q,Post⟩:=by intro l r Q P;kernel_rfl):LW Tryz.prog n C c τ Q:=ZYq co v lf e a b d
theorem kC{f:FuncId}{fn:Func}{xs:List AV}{γ:Type}{M:Option γ}{e:γ→AV}(c:Tryz.prog.funcs[f]?=some fn)(d:fn.ntmps=n)(rs:List ResultVar)
  (h:∀{C:Cx} {y:γ} {Post:AV→List Blk→Prop},CO C 0→M=some y→HL (fun y=>Post (e y) []) y→LW Tryz.prog n C (pa [] (At fn)) (Ac (DA 0 xs) []) (FQ (As tl) rs 0 Post))
  (hx:∀r,Ao r xs=xs:=by intro r;kernel_rfl) (he:∀r y,ren r (e y)=e y:=by intro r y;kernel_rfl)
  (b:fn.body=some (At fn):=by kernel_rfl) (a:(fn.name== "runtime.NumGoroutine")=false:=by kernel_rfl) (g:fn.results.toList=rs:=by kernel_rfl) (hl:Nat.ble xs.length n=true:=by kernel_rfl):KC Tryz.prog f xs M e:=DO c d AS rs (fun C co y m Post L=>h co m L) hx he b a g hl
theorem kO{f:FuncId}{fn:Func}{ys:List AV}{c:List Blk}{Θ:Cl}{γ:Type}{M:Option γ}{e:γ→AV}{b:γ→List Blk}(k:Tryz.prog.funcs[f]?=some fn)(l:fn.ntmps=n)(rs:List ResultVar)(os:Nat)
  (h:∀{C:Cx} {y:γ} {Post:AV→List Blk→Prop},CO C os→Θ C.no C.l C.H0 C.θ→M=some y→HL (fun y=>Post (e y) (b y)) y→LW Tryz.prog n C (pa [] (At fn)) (Ac (DA 0 ys) (Dm 0 c)) (FQ (As tl) rs os Post))
  (he:∀y,Kd os (e y)=true:=by intro y;kernel_rfl) (g:∀y,Gc os (b y):=by intro y;repeat(first|exact trivial|refine⟨.inl (Fc _ _),rfl,?_⟩|refine⟨.inl JZ,rfl,?_⟩|refine⟨.inr (by kernel_rfl),rfl,?_⟩)) (hl:∀y,(b y).length=os:=by intro y;rfl) (d:Iy os (Dm 0 c)=true:=by kernel_rfl)
  (j:fn.body=some (At fn):=by kernel_rfl) (a:(fn.name== "runtime.NumGoroutine")=false:=by kernel_rfl) (o:fn.results.toList=rs:=by kernel_rfl) (hx:Nat.ble ys.length n=true:=by kernel_rfl):KO Tryz.prog f os ys c Θ M e b:=EV k l AS rs os (fun C co i y m Post L=>h co i m L) he g hl d j a o hx
theorem Bg{P:Program}{x:Bool}{a m2:Option β}(hm:(if x=true then a else m2)=some y)(c:a=some y→LW P n C (pa (0::p) b) τ Q)(d:m2=some y→LW P n C (pa (1::p) b) τ Q)(hs:qu (pa p b)=true:=by kernel_rfl)(he:ev τ.s (n6 (pa p b))=.d (.bool x):=by kernel_rfl):LW P n C (pa p b) τ Q:=cd x hm c d hs he
end
theorem bz{r b:Ren}{k k':Ad}{g a:Nat}{e:TypeId}{sz:Nat}{α:Type}{en:α→List D}{xs:List α}(h:r.γ k+g=b.γ k'+a:=by kernel_rfl):AL r k ⟨g,true,e,sz,Ab en xs⟩=AL b k' ⟨a,true,e,sz,Ab en xs⟩:=GE (Fc _ _) h
class Tid (α:Type) where
 t:Nat
instance:Tid Slt:=⟨58⟩
instance:Tid Raw:=⟨65⟩
instance:Tid Pr:=⟨63⟩
abbrev Kc:List (Ad×Bool):=[((1,2),false),((1,5),true)]
abbrev EU:List (Ad×Bool):=[((1,2),false)]
abbrev ET(a:Scm):Ad×Blk:=kk 2 26 3 (cD (Am a))
abbrev N0:List ByteArray→AV:=fun y=>vL Bp y
def xh(b:Scm)(c:Int):List ByteArray×Nat→St:=fun(a,v2)=>Ac [(1,vI c),pp 2,(5,.ref (1,5) 0 0 a.length),(6,vN v2)] [(ET b),kk 5 9 1 (Ab Bp a)]
def qk(b:Scm)(c:Int):List ByteArray→Nat×St:=fun a=>(0,Ac [(1,vI c),pp 2,(5,.ref (1,5) 0 0 a.length)] [(ET b),kk 5 9 1 (Ab Bp a)])
def vi(a:Scm)(c:Int)(b:List ByteArray)(v2:Nat):PT 0 (Lv (List ByteArray×Nat) (List ByteArray) (List ByteArray)):=wg<|vy (decide (c=(1:Int))) (Ai a.messages)<|br (decide (c=(1:Int))&&decide ((v2:Int)<(a.messages.length:Int))) (wg<|ix a.messages v2 fun d=>vw .sep<|ap b (d.name:ByteArray)<|vs (wa v2 1)<|vz (fl (b++[d.name]))<|ln (xh a c) (b++[d.name],v2+1)) (vz (fl b)<|Af (qk a c) b)
def W0(a:Scm)(b:Int):List ByteArray×Nat→Option (Lv (List ByteArray×Nat) (List ByteArray) (List ByteArray)):=fun(c,v2)=>(vi a b c v2).m
def x7(b:Scm)(c:Int):List ByteArray×Nat→St:=fun(a,d)=>Ac [(1,vI c),pp 2,(5,.ref (1,5) 0 0 a.length),(7,vN d)] [(ET b),kk 5 9 1 (Ab Bp a)]
def u9(b:Scm)(c:Int):List ByteArray→Nat×St:=fun a=>(2,Ac [(1,vI c),pp 2,(5,.ref (1,5) 0 0 a.length)] [(ET b),kk 5 9 1 (Ab Bp a)])
def xd(a:Scm)(c:Int)(b:List ByteArray)(d:Nat):PT 0 (Lv (List ByteArray×Nat) (List ByteArray) (List ByteArray)):=wg<|vy (decide (c=(2:Int))) (Ai a.enums)<|br (decide (c=(2:Int))&&decide ((d:Int)<(a.enums.length:Int))) (wg<|ix a.enums d fun e=>vw .sep<|ap b (e.name:ByteArray)<|vs (wa d 1)<|vz (fl (b++[e.name]))<|ln (x7 a c) (b++[e.name],d+1)) (vz (fl b)<|Af (u9 a c) b)
def Wc(a:Scm)(b:Int):List ByteArray×Nat→Option (Lv (List ByteArray×Nat) (List ByteArray) (List ByteArray)):=fun(c,d)=>(xd a b c d).m
def xT(c:Scm)(d:Int):List ByteArray×Nat→St:=fun(b,a)=>Ac [(1,vI d),pp 2,(5,.ref (1,5) 0 0 b.length),(8,vN a)] [(ET c),kk 5 9 1 (Ab Bp b)]
def tZ:List ByteArray→Nat×St:=fun a=>(4,Ac [(5,.ref (1,5) 0 0 a.length)] [kk 5 9 1 (Ab Bp a)])
def rX(d:Scm)(e:Int)(c:List ByteArray)(a:Nat):PT 0 (Lv (List ByteArray×Nat) (List ByteArray) (List ByteArray)):=wg<|vy (decide (e=(3:Int))) (Ai d.services)<|br (decide (e=(3:Int))&&decide ((a:Int)<(d.services.length:Int))) (wg<|ix d.services a fun b=>vw .sep<|ap c (b.name:ByteArray)<|vs (wa a 1)<|vz (fl (c++[b.name]))<|ln (xT d e) (c++[b.name],a+1)) (vz (fl c)<|Af (tZ) c)
def WQ(b:Scm)(c:Int):List ByteArray×Nat→Option (Lv (List ByteArray×Nat) (List ByteArray) (List ByteArray)):=fun(d,a)=>(rX b c d a).m
def q5(a:List ByteArray):PT 0 (List ByteArray):=vz (fr a)<|lr N0 nG a
def vF(c:Scm)(d:Int)(a:List ByteArray):PT 0 (List ByteArray):=vz (fl a)<|lc (Ac [(1,vI d),pp 2,(5,.ref (1,5) 0 0 a.length),(8,vI 0)] [(ET c),kk 5 9 1 (Ab Bp a)]) ((Aj (WQ c d) Ag (a,0)).bind (Sum.elim (fun b=>(q5 b).m) some))
def xO(b:Scm)(c:Int)(a:List ByteArray):PT 0 (List ByteArray):=vz (fl a)<|lc (Ac [(1,vI c),pp 2,(5,.ref (1,5) 0 0 a.length),(7,vI 0)] [(ET b),kk 5 9 1 (Ab Bp a)]) ((Aj (Wc b c) Ag (a,0)).bind (Sum.elim (fun d=>(vF b c d).m) some))
def ql(a:Scm)(b:Int):PT 0 (List ByteArray):=vw (.ads 5 5 9 1)<|vz (fl ([]:List ByteArray))<|lc (Ac [(1,vI b),pp 2,(5,.ref (1,5) 0 0 ([]:List ByteArray).length),(6,vI 0)] [(ET a),kk 5 9 1 (Ab Bp ([]:List ByteArray))]) ((Aj (W0 a b) Ag (([]:List ByteArray),0)).bind (Sum.elim (fun c=>(xO a b c).m) some))
def ur(a:Scm)(b:Int):PT 0 (List ByteArray):=lc (Ac [(1,vI b),pp 2,(5,.e0),(6,vI 0)] [(ET a)]) ((ql a b).m)
def qz(a:Scm)(b:Int):PT 0 (List ByteArray):=lc (Ac [(1,vI b),pp 2,(5,.e0)] [(ET a)]) ((ur a b).m)
def ez(a:Scm)(b:Int):Option (List ByteArray):=(qz a b).m
theorem ZHC{C:Cx}(co:CO C 0)(a:Scm)(b:Int):KL Tryz.prog (As tl) 70 C (pa [0,0,1,0,1,1] (At Tryz.f28)) [.tmp 4] 0 (xh a b) (qk a b) N0 nG (W0 a b):=fun(d,v2) _ m Q Post c L=>eN co (Aa [1,2,5,6] Kc) (Aa [1,2,5] Kc) c m L
theorem ZFL{C:Cx}(co:CO C 0)(a:Scm)(b:Int):KL Tryz.prog (As tl) 70 C (pa [0,0,1,0,1,1,1] (At Tryz.f28)) [.tmp 4] 0 (x7 a b) (u9 a b) N0 nG (Wc a b):=fun(d,e) _ m Q Post c L=>eN co (Aa [1,2,5,7] Kc) (Aa [1,2,5] Kc) c m L
theorem ZFx{C:Cx}(co:CO C 0)(a:Scm)(b:Int):KL Tryz.prog (As tl) 70 C (pa [0,0,1,0,1,1,1,1] (At Tryz.f28)) [.tmp 4] 0 (xT a b) (tZ) N0 nG (WQ a b):=fun(e,d) _ m Q Post c L=>eN co (Aa [1,2,5,8] Kc) (Aa [5] [((1,5),true)]) c m L
theorem Sm(a:Scm)(b:Int):KC Tryz.prog 28 [.agg ((Am a).map .d),vI b] (ez a b) N0:=kC Tryz.func28 Tryz.ntmps28 [.tmp 4] fun co m L=>mJ co 2 (Aa [1,2,5] EU) nl nH m L fun r g=>fun _ m L=>sq (mJ co 1 (Aa [1,2,5,6] EU) nl nH m L fun r g=>fun _ m L=>bk 0 (cM co (Aa [1,2,5,6] Kc) m L fun r g=>fun _ m L=>lo (Ax (ZHC co a b) nH m L (fun d m=>sq (mJ co 1 (Aa [1,2,5,7] Kc) nl nH m L fun r g=>fun _ m L=>bk 2 (lo (Ax (ZFL co a b) nH m L (fun e m=>sq (mJ co 1 (Aa [1,2,5,8] Kc) nl nH m L fun r g=>fun _ m L=>bk 4 (lo (Ax (ZFx co a b) nH m L (fun c m=>fO co m L))))))))))))
abbrev Fx:List (Ad×Bool):=[((0,0),false),((0,1),true)]
abbrev Xi:List Prb→AV:=fun y=>.tup []
@[reducible] def Xq(a:ByteArray):List Prb→List Blk:=fun y=>[⟨0,true,75,2,[vS a,.ref (0,1) 0 0 y.length]⟩,⟨0,true,114,3,Ab Ak y⟩]
def bo(a:ByteArray)(b:List Prb)(c:Int)(d:Int):PT 2 (List Prb):=lr Xi (Xq a) (b++([(.mk a c d:Prb)]))
def aW(a:ByteArray)(b:List Prb)(c:Int)(d:Int):PT 2 (List Prb):=wg<|wg<|vw .sep<|ap b ((.mk a c d:Prb):Prb)<|BP 1 (Ab Ak [(.mk a c d:Prb)]) (fun _=>ZxT _)<|wg<|vwl 0 [.ref (0,1) 1 0 (b++([(.mk a c d:Prb)])).length]<|vz (fl (b++([(.mk a c d:Prb)])))<|lc (Ac [] [((0,0),⟨0,true,75,2,[vS a,.ref (0,1) 0 0 (b++([(.mk a c d:Prb)])).length]⟩),((0,1),⟨0,true,114,3,Ab Ak (b++([(.mk a c d:Prb)]))⟩)]) ((bo a b c d).m)
def uN(a:ByteArray)(b:List Prb):PT 2 (List Prb):=lr Xi (Xq a) b
def wI(a:ByteArray)(b:List Prb)(c:Bool)(d:Int)(e:Int):PT 2 (List Prb):=vz (fl b)<|lc (Ac [(0,.ptr (0,0) 0 0),(2,vI d),(3,vI e),(8,vB c)] [((0,0),⟨0,true,75,2,[vS a,.ref (0,1) 0 0 b.length]⟩),((0,1),⟨0,true,114,3,Ab Ak b⟩)]) (if c=true then(aW a b d e).m else(uN a b).m)
def Bv(a:ByteArray)(b:List Prb)(c:Bool)(d:Int)(e:Int):Option (List Prb):=(wI a b c d e).m
theorem BL(a:ByteArray)(b:List Prb)(f:Bool)(c:Int)(d:Int):KG Tryz.prog 29 2 [1] [(1,0)] [.ptr (0,0) 0 0,vB f,vI c,vI d] [⟨0,true,75,2,[vS a,.ref (0,1) 0 0 b.length]⟩,⟨0,true,114,3,Ab Ak b⟩] (Bv a b f c d) Xi (Xq a):=jM Tryz.func29 Tryz.ntmps29 AS [] 2 [1] [0] [(1,0)] (fun C co e y m Post L=>mJ co 1 (Aa [0,2,3,8] Fx) nl nH m L fun r g=>fun _ m L=>Bg m (fun m=>Gk co AS BM (.fst 0 (.fst 1 (.fst 2 (.fst 3 (.fst 5 (.fst 6 (.fst 7 (.fst 9 (.fst 10 (.fst 4 (.fst 8 (.fst 11 (.fst 12 (.fst 13 (.fst 14 (.fst 15 (.fst 16 .nil))))))))))))))))) [] (aW a b c d) (Aa [] Fx) m L fun r g=>⟨ZPo g e,fun _ m L=>BX (bo a b c d) co m L (fun r g=>id) r g⟩) (fun m=>fO co m L))
abbrev Rn:Bool→AV:=fun y=>vB y
def te(a:List ByteArray):Nat→St:=fun b=>Ac [(0,vL Bp a),(3,vN b)] []
def wh:Unit→Nat×St:=fun _=>(0,Ac [] [])
def s8(b:List ByteArray)(a:Nat):PT 0 (Lv (Nat) (Unit) (Bool)):=vz (Ai b)<|br (decide ((a:Int)<(b.length:Int))) (ix b a fun c=>vs (wi ((a:Int)-1))<|CC b ((a:Int)-1) fun d=>br (BB c d||decide (c=d)) (Ar Rn nG false) (vs (wa a 1)<|ln (te b) (a+1))) (Af (wh) ())
def WC(a:List ByteArray):Nat→Option (Lv (Nat) (Unit) (Bool)):=fun b=>(s8 a b).m
def qR:PT 0 (Bool):=lr Rn nG true
def q7(a:List ByteArray):PT 0 (Bool):=lc (Ac [(0,vL Bp a),(3,vI 1)] []) ((Aj (WC a) Ag 1).bind (Sum.elim (fun _=>(qR).m) some))
def u7(a:List ByteArray):PT 0 (Bool):=lc (Ac [(0,vL Bp a)] []) ((q7 a).m)
def dF(a:List ByteArray):Option (Bool):=(u7 a).m
theorem ZIA{C:Cx}(co:CO C 0)(a:List ByteArray):KL Tryz.prog (As tl) 20 C (pa [0,0,1,0,1] (At Tryz.f30)) [.tmp 2] 0 (te a) (wh) Rn nG (WC a):=fun c _ m Q Post b L=>eN co (AD [0,3]) nl b m L
theorem ZZc(a:List ByteArray):KC Tryz.prog 30 [vL Bp a] (dF a) Rn:=kC Tryz.func30 Tryz.ntmps30 [.tmp 2] fun co m L=>mJ co 1 (AD [0]) nl nH m L fun r g=>fun _ m L=>sq (mJ co 1 (AD [0,3]) nl nH m L fun r g=>fun _ m L=>bk 0 (lo (Ax (ZIA co a) nH m L (fun _ m=>fO co m L))))
abbrev RA:Bool→AV:=fun y=>vB y
def sb(a:List ByteArray)(b:ByteArray):Nat→St:=fun c=>Ac [(0,vL Bp a),(1,vS b),(5,vN c)] []
def wZ:Unit→Nat×St:=fun _=>(0,Ac [] [])
def ba(a:List ByteArray)(c:ByteArray)(b:Nat):PT 0 (Lv (Nat) (Unit) (Bool)):=vz (Ai a)<|br (decide ((b:Int)<(a.length:Int))) (ix a b fun d=>br (decide (d=c)) (Ar RA nG true) (vs (wa b 1)<|ln (sb a c) (b+1))) (Af (wZ) ())
def Np(a:List ByteArray)(b:ByteArray):Nat→Option (Lv (Nat) (Unit) (Bool)):=fun c=>(ba a b c).m
def ZJ:PT 0 (Bool):=lr RA nG false
def ZZ(a:List ByteArray)(b:ByteArray):PT 0 (Bool):=lc (Ac [(0,vL Bp a),(1,vS b),(5,vI 0)] []) ((Aj (Np a b) Ag 0).bind (Sum.elim (fun _=>(ZJ).m) some))
def ZI(a:List ByteArray)(b:ByteArray):PT 0 (Bool):=lc (Ac [(0,vL Bp a),(1,vS b)] []) ((ZZ a b).m)
def Pm(a:List ByteArray)(b:ByteArray):Option (Bool):=(ZI a b).m
theorem ZIC{C:Cx}(co:CO C 0)(a:List ByteArray)(b:ByteArray):KL Tryz.prog (As tl) 18 C (pa [0,0,1,0,1] (At Tryz.f59)) [.tmp 4] 0 (sb a b) (wZ) RA nG (Np a b):=fun d _ m Q Post c L=>eN co (AD [0,1,5]) nl c m L
theorem ZXp(a:List ByteArray)(b:ByteArray):KC Tryz.prog 59 [vL Bp a,vS b] (Pm a b) RA:=kC Tryz.func59 Tryz.ntmps59 [.tmp 4] fun co m L=>mJ co 1 (AD [0,1]) nl nH m L fun r g=>fun _ m L=>sq (mJ co 1 (AD [0,1,5]) nl nH m L fun r g=>fun _ m L=>bk 0 (lo (Ax (ZIC co a b) nH m L (fun _ m=>fO co m L))))
abbrev Ro:Bool→AV:=fun y=>vB y
def pY(a:List ByteArray)(b:List ByteArray):Nat→St:=fun c=>Ac [(0,vL Bp a),(1,vL Bp b),(5,vN c)] []
def uh:Unit→Nat×St:=fun _=>(0,Ac [] [])
def uS(a:List ByteArray)(c:List ByteArray)(b:Nat):PT 0 (Lv (Nat) (Unit) (Bool)):=vz (Ai a)<|br (decide ((b:Int)<(a.length:Int))) (ix a b fun d=>cl (ZXp c d) fun e=>br e (Ar Ro nG true) (vs (wa b 1)<|ln (pY a c) (b+1))) (Af (uh) ())
def WI(a:List ByteArray)(b:List ByteArray):Nat→Option (Lv (Nat) (Unit) (Bool)):=fun c=>(uS a b c).m
def wV:PT 0 (Bool):=lr Ro nG false
def xo(a:List ByteArray)(b:List ByteArray):PT 0 (Bool):=lc (Ac [(0,vL Bp a),(1,vL Bp b),(5,vI 0)] []) ((Aj (WI a b) Ag 0).bind (Sum.elim (fun _=>(wV).m) some))
def uD(a:List ByteArray)(b:List ByteArray):PT 0 (Bool):=lc (Ac [(0,vL Bp a),(1,vL Bp b)] []) ((xo a b).m)
def dZ(a:List ByteArray)(b:List ByteArray):Option (Bool):=(uD a b).m
theorem ZHT{C:Cx}(co:CO C 0)(a:List ByteArray)(b:List ByteArray):KL Tryz.prog (As tl) 18 C (pa [0,0,1,0,1] (At Tryz.f31)) [.tmp 4] 0 (pY a b) (uh) Ro nG (WI a b):=fun d _ m Q Post c L=>eN co (AD [0,1,5]) nl c m L
theorem cE(a:List ByteArray)(b:List ByteArray):KC Tryz.prog 31 [vL Bp a,vL Bp b] (dZ a b) Ro:=kC Tryz.func31 Tryz.ntmps31 [.tmp 4] fun co m L=>mJ co 1 (AD [0,1]) nl nH m L fun r g=>fun _ m L=>sq (mJ co 1 (AD [0,1,5]) nl nH m L fun r g=>fun _ m L=>bk 0 (lo (Ax (ZHT co a b) nH m L (fun _ m=>fO co m L))))
abbrev Aw(a:Scm):Ad×Blk:=kk 2 26 3 (cD (Am a))
abbrev RE:Int→AV:=fun y=>vI y
def vY(a:Scm)(b:ByteArray):Nat→St:=fun c=>Ac [(1,vS b),pp 2,(5,vN c)] [(Aw a)]
def uc:Unit→Nat×St:=fun _=>(0,Ac [] [])
def vu(b:Scm)(c:ByteArray)(a:Nat):PT 0 (Lv (Nat) (Unit) (Int)):=wg<|vz (Ai b.messages)<|br (decide ((a:Int)<(b.messages.length:Int))) (wg<|ix b.messages a fun d=>br (decide (d.name=c)) (Ar RE nG (a:Int)) (vs (wa a 1)<|ln (vY b c) (a+1))) (Af (uc) ())
def V0(a:Scm)(b:ByteArray):Nat→Option (Lv (Nat) (Unit) (Int)):=fun c=>(vu a b c).m
def qY:PT 0 (Int):=lr RE nG (-1)
def ue(a:Scm)(b:ByteArray):PT 0 (Int):=lc (Ac [(1,vS b),pp 2,(5,vI 0)] [(Aw a)]) ((Aj (V0 a b) Ag 0).bind (Sum.elim (fun _=>(qY).m) some))
def rS(a:Scm)(b:ByteArray):PT 0 (Int):=lc (Ac [(1,vS b),pp 2] [(Aw a)]) ((ue a b).m)
def dM(a:Scm)(b:ByteArray):Option (Int):=(rS a b).m
theorem ZIG{C:Cx}(co:CO C 0)(a:Scm)(b:ByteArray):KL Tryz.prog (As tl) 22 C (pa [0,0,1,0,1] (At Tryz.f71)) [.tmp 4] 0 (vY a b) (uc) RE nG (V0 a b):=fun d _ m Q Post c L=>eN co (Aa [1,2,5] EU) nl c m L
theorem O9(a:Scm)(b:ByteArray):KC Tryz.prog 71 [.agg ((Am a).map .d),vS b] (dM a b) RE:=kC Tryz.func71 Tryz.ntmps71 [.tmp 4] fun co m L=>mJ co 1 (Aa [1,2] EU) nl nH m L fun r g=>fun _ m L=>sq (mJ co 1 (Aa [1,2,5] EU) nl nH m L fun r g=>fun _ m L=>bk 0 (lo (Ax (ZIG co a b) nH m L (fun _ m=>fO co m L))))
abbrev jG(a:Scm):Ad×Blk:=kk 3 26 3 (cD (Am a))
abbrev jH(a:Msg):Ad×Blk:=kk 4 56 5 (cD (AH a))
abbrev RB:Bool→AV:=fun y=>vB y
def a6(a:Scm)(b:Msg)(c:List Bool):Nat→St:=fun d=>Ac [(2,vL AO c),pp 3,pp 4,(7,vN d)] [(jG a),(jH b)]
def s7:Unit→Nat×St:=fun _=>(0,Ac [] [])
def xL(d:Scm)(b:Msg)(e:List Bool)(a:Nat):PT 0 (Lv (Nat) (Unit) (Bool)):=wg<|vz (Ai b.fields)<|br (decide ((a:Int)<(b.fields.length:Int))) (wg<|ix b.fields a fun c=>wg<|wg<|wg<|br ((!decide (c.card=(1:Int)))||(!decide (c.type.kind=(10:Int)))) (vs (wa a 1)<|ln (a6 d b e) (a+1)) (wg<|wg<|cl (O9 d c.type.name) fun f=>AN (decide ((0:Int)≤f)) e f fun g=>br (decide ((0:Int)≤f)&&(!g)) (Ar RB nG true) (vs (wa a 1)<|ln (a6 d b e) (a+1)))) (Af (s7) ())
def VS(a:Scm)(b:Msg)(c:List Bool):Nat→Option (Lv (Nat) (Unit) (Bool)):=fun d=>(xL a b c d).m
def sv:PT 0 (Bool):=lr RB nG false
def rz(a:Scm)(b:Msg)(c:List Bool):PT 0 (Bool):=lc (Ac [(2,vL AO c),pp 3,pp 4,(7,vI 0)] [(jG a),(jH b)]) ((Aj (VS a b c) Ag 0).bind (Sum.elim (fun _=>(sv).m) some))
def uZ(a:Scm)(b:Msg)(c:List Bool):PT 0 (Bool):=lc (Ac [(2,vL AO c),pp 3,pp 4] [(jG a),(jH b)]) ((rz a b c).m)
def ey(a:Scm)(b:Msg)(c:List Bool):Option (Bool):=(uZ a b c).m
theorem ZHS{C:Cx}(co:CO C 0)(a:Scm)(b:Msg)(c:List Bool):KL Tryz.prog (As tl) 45 C (pa [0,0,1,0,1] (At Tryz.f60)) [.tmp 6] 0 (a6 a b c) (s7) RB nG (VS a b c):=fun e _ m Q Post d L=>eN co (Aa [2,3,4,7] [((1,3),false),((1,4),false)]) nl d m L
theorem ZZy(a:Scm)(b:Msg)(c:List Bool):KC Tryz.prog 60 [.agg ((Am a).map .d),.agg ((AH b).map .d),vL AO c] (ey a b c) RB:=kC Tryz.func60 Tryz.ntmps60 [.tmp 6] fun co m L=>mJ co 1 (Aa [2,3,4] [((1,3),false),((1,4),false)]) nl nH m L fun r g=>fun _ m L=>sq (mJ co 1 (Aa [2,3,4,7] [((1,3),false),((1,4),false)]) nl nH m L fun r g=>fun _ m L=>bk 0 (lo (Ax (ZHS co a b c) nH m L (fun _ m=>fO co m L))))
abbrev jL:List (Ad×Bool):=[((0,0),true),((1,3),false),((1,4),false)]
abbrev Ah:List (Ad×Bool):=[((0,0),true)]
abbrev jI(a:Scm):Ad×Blk:=kk 3 26 3 (cD (Am a))
abbrev jJ(a:Msg):Ad×Blk:=kk 4 56 5 (cD (AH a))
abbrev Wf:Bool→AV:=fun y=>vB y
@[reducible] def Wd(a:List Bool):Bool→List Blk:=fun y=>[⟨0,true,4,1,Ab AO a⟩]
def gH(b:Scm)(c:Msg)(a:List Bool):Nat→St:=fun d=>Ac [(2,.ref (0,0) 0 0 a.length),pp 3,pp 4,(7,vN d)] [((0,0),⟨0,true,4,1,Ab AO a⟩),(jI b),(jJ c)]
def Zs5(a:List Bool):Unit→Nat×St:=fun _=>(0,Ac [] [((0,0),⟨0,true,4,1,Ab AO a⟩)])
def Zr4(f:Scm)(c:Msg)(a:List Bool)(b:Nat):PT 1 (Lv (Nat) (Unit) (Bool)):=wg<|vz (Ai c.fields)<|br (decide ((b:Int)<(c.fields.length:Int))) (wg<|ix c.fields b fun e=>wg<|wg<|wg<|br ((!decide (e.card=(1:Int)))||(!decide (e.type.kind=(10:Int)))) (vs (wa b 1)<|vz (fl a)<|ln (gH f c a) (b+1)) (wg<|wg<|cl (O9 f e.type.name) fun d=>vg (decide ((0:Int)≤d)) (Az d a.length 1)<|Fv (decide ((0:Int)≤d)) a d.toNat fun g=>br (decide ((0:Int)≤d)&&(!g)) (Ar Wf (Wd a) true) (vs (wa b 1)<|vz (fl a)<|ln (gH f c a) (b+1)))) (vz (fl a)<|Af (Zs5 a) ())
def UI(a:Scm)(b:Msg)(c:List Bool):Nat→Option (Lv (Nat) (Unit) (Bool)):=fun d=>(Zr4 a b c d).m
def Zux(a:List Bool):PT 1 (Bool):=lr Wf (Wd a) false
def Zrq(b:Scm)(c:Msg)(a:List Bool):PT 1 (Bool):=vz (fl a)<|lc (Ac [(2,.ref (0,0) 0 0 a.length),pp 3,pp 4,(7,vI 0)] [((0,0),⟨0,true,4,1,Ab AO a⟩),(jI b),(jJ c)]) ((Aj (UI b c a) Ag 0).bind (Sum.elim (fun _=>(Zux a).m) some))
def Zuj(b:Scm)(c:Msg)(a:List Bool):PT 1 (Bool):=vz (fl a)<|lc (Ac [(2,.ref (0,0) 0 0 a.length),pp 3,pp 4] [((0,0),⟨0,true,4,1,Ab AO a⟩),(jI b),(jJ c)]) ((Zrq b c a).m)
def Ty(a:Scm)(b:Msg)(c:List Bool):Option (Bool):=(Zuj a b c).m
theorem Zra{C:Cx}(co:CO C 1)(b:Scm)(c:Msg)(a:List Bool):KL Tryz.prog (As tl) 45 C (pa [0,0,1,0,1] (At Tryz.f60)) [.tmp 6] 1 (gH b c a) (Zs5 a) Wf (Wd a) (UI b c a):=fun e _ m Q Post d L=>eN co (Aa [2,3,4,7] jL) (Aa [] Ah) d m L
theorem ZJO(b:Scm)(c:Msg)(a:List Bool):KO Tryz.prog 60 1 [.agg ((Am b).map .d),.agg ((AH c).map .d),.ref (0,0) 0 0 a.length] [⟨0,true,4,1,Ab AO a⟩] (fun _ _ _ _=>True) (Ty b c a) Wf (Wd a):=kO Tryz.func60 Tryz.ntmps60 [.tmp 6] 1 (fun co d m L=>mJ co 1 (Aa [2,3,4] jL) nl nH m L fun r g=>fun _ m L=>sq (mJ co 1 (Aa [2,3,4,7] jL) nl nH m L fun r g=>fun _ m L=>bk 0 (lo (Ax (Zra co b c a) nH m L (fun _ m=>fO co m L)))))
abbrev LH:List (Ad×Bool):=[((1,1),false),((1,10),true)]
abbrev LD(a:Scm):Ad×Blk:=kk 1 26 3 (cD (Am a))
abbrev Rp:List Bool→AV:=fun y=>vL AO y
def tn(b:Scm):Bool×Nat×List Bool→St:=fun(c,v2,a)=>Ac [pp 1,(3,.ref (1,10) 0 0 a.length),(4,vB c),(5,vN v2)] [(LD b),kk 10 4 1 (Ab AO a)]
def ux:List Bool→Nat×St:=fun a=>(0,Ac [(3,.ref (1,10) 0 0 a.length)] [kk 10 4 1 (Ab AO a)])
def aG(b:Scm)(v2:Nat):Bool×Nat×List Bool→St:=fun(v4,c,a)=>Ac [pp 1,(3,.ref (1,10) 0 0 a.length),(4,vB v4),(5,vN v2),(6,vN c)] [(LD b),kk 10 4 1 (Ab AO a)]
def vG(c:Scm)(v2:Nat):Bool×List Bool→Nat×St:=fun(b,a)=>(2,Ac [pp 1,(3,.ref (1,10) 0 0 a.length),(4,vB b),(5,vN v2)] [(LD c),kk 10 4 1 (Ab AO a)])
def qp(c:Scm)(v2:Nat)(v4:Bool)(b:Nat)(a:List Bool):PT 0 (Lv (Bool×Nat×List Bool) (Bool×List Bool) (List Bool)):=wg<|vz (Ai c.messages)<|br (decide ((b:Int)<(c.messages.length:Int))) (vs (ir b a.length 1)<|ca a b fun d=>wg<|wg<|AN (!d) c.messages (b:Int) fun e=>J9 (!d) Tryz.prog 60 [.agg ((Am c).map .d),.agg ((AH e).map .d),.ref (1,10) 0 0 a.length] [(1,10)] [kk 10 4 1 (Ab AO a)] (Ty c e a) (fun y=>vB y) fun f=>br ((!d)&&(!f)) (vs (ir b a.length 1)<|vs (st a b true)<|rn 3 10 a.length (a.set b true)<|vw .sep<|vs (wa b 1)<|vz (fl (a.set b true))<|ln (aG c v2) (true,b+1,a.set b true)) (vs (wa b 1)<|vz (fl a)<|ln (aG c v2) (v4,b+1,a))) (vz (fl a)<|Af (vG c v2) (v4,a))
def Wh(a:Scm)(v2:Nat):Bool×Nat×List Bool→Option (Lv (Bool×Nat×List Bool) (Bool×List Bool) (List Bool)):=fun(v4,c,b)=>(qp a v2 v4 c b).m
def sY(c:Scm)(v2:Nat)(b:Bool)(a:List Bool):PT 0 (Lv (Bool×Nat×List Bool) (List Bool) (List Bool)):=vs (wa v2 1)<|vz (fl a)<|ln (tn c) (b,v2+1,a)
def r5(b:Scm)(v2:Nat)(a:List Bool):PT 0 (Lv (Bool×Nat×List Bool) (List Bool) (List Bool)):=vz (fl a)<|lc (Ac [pp 1,(3,.ref (1,10) 0 0 a.length),(4,vB false),(5,vN v2),(6,vI 0)] [(LD b),kk 10 4 1 (Ab AO a)]) ((Aj (Wh b v2) Ag (false,0,a)).bind (Sum.elim (fun(d,c)=>(sY b v2 d c).m) (fun z=>some (.rt z))))
def th(b:Scm)(c:Bool)(v2:Nat)(a:List Bool):PT 0 (Lv (Bool×Nat×List Bool) (List Bool) (List Bool)):=wg<|vz (Ai b.messages)<|br (decide ((v2:Int)<(b.messages.length:Int))&&c) (vz (fl a)<|lc (Ac [pp 1,(3,.ref (1,10) 0 0 a.length),(5,vN v2)] [(LD b),kk 10 4 1 (Ab AO a)]) ((r5 b v2 a).m)) (vz (fl a)<|Af (ux) a)
def VY(a:Scm):Bool×Nat×List Bool→Option (Lv (Bool×Nat×List Bool) (List Bool) (List Bool)):=fun(c,v2,b)=>(th a c v2 b).m
def xr(a:List Bool):PT 0 (List Bool):=vz (fr a)<|lr Rp nG a
def sA(a:Scm):PT 0 (List Bool):=vz (fl (List.replicate a.messages.length false))<|lc (Ac [pp 1,(3,.ref (1,10) 0 0 (List.replicate a.messages.length false).length),(4,vB true),(5,vI 0)] [(LD a),kk 10 4 1 (Ab AO (List.replicate a.messages.length false))]) ((Aj (VY a) Ag (true,0,List.replicate a.messages.length false)).bind (Sum.elim (fun b=>(xr b).m) some))
def rm(a:Scm):PT 0 (List Bool):=wg<|vz (Ai a.messages)<|ms a.messages.length false [vB false] (by first|rfl|kernel_rfl)<|vz (fl (List.replicate a.messages.length false))<|lc (Ac [pp 1,(3,.ref (1,10) 0 0 (List.replicate a.messages.length false).length),(4,vB true)] [(LD a),kk 10 4 1 (Ab AO (List.replicate a.messages.length false))]) ((sA a).m)
def dB(a:Scm):Option (List Bool):=(rm a).m
theorem ZEj{C:Cx}(co:CO C 0)(a:Scm)(v2:Nat):KL Tryz.prog (As tl) 48 C (pa [0,0,1,1,0,0,1,0,0,1,0,1,1,1] (At Tryz.f32)) [.tmp 2] 0 (aG a v2) (vG a v2) Rp nG (Wh a v2):=fun(v4,f,b) _ m Q Post d L=>eN co (Aa [1,3,4,5,6] LH) (Aa [1,3,4,5] LH) d m L fun r g=>⟨fun e=>fun c=>⟨fun y hy=>s6 (ZJO a c b) hy co g [kk 10 4 1 (Ab AO b)] [],fun h=>⟨id,id⟩⟩,id⟩
theorem ZHd{C:Cx}(co:CO C 0)(b:Scm):KL Tryz.prog (As tl) 48 C (pa [0,0,1,0,1,1,1] (At Tryz.f32)) [.tmp 2] 0 (tn b) (ux) Rp nG (VY b):=fun(f,v2,e) _ m Q Post a L=>mJ co 1 (Aa [1,3,5] LH) (Aa [3] [((1,10),true)]) a m L fun r g=>⟨fun _ m L=>sq (bk 1 (mJ co 2 (Aa [1,3,4,5,6] LH) nl a m L fun r g=>fun _ m L=>bk 2 (lo (Et (ZEj co b v2) a m L (fun(d,c) m=>eN co (Aa [1,3,4,5] LH) nl a m L))))),id⟩
theorem ZZl(a:Scm):KC Tryz.prog 32 [.agg ((Am a).map .d)] (dB a) Rp:=kC Tryz.func32 Tryz.ntmps32 [.tmp 2] fun co m L=>mJ co 3 (Aa [1,3,4] LH) nl nH m L fun r g=>fun _ m L=>sq (mJ co 1 (Aa [1,3,4,5] LH) nl nH m L fun r g=>fun _ m L=>bk 0 (lo (Ax (ZHd co a) nH m L (fun b m=>fO co m L))))
abbrev zZ:Bool→AV:=fun y=>vB y
def ZNG(a:Int):PT 0 (Bool):=lr zZ nG (decide ((97:Int)≤a)&&decide (a≤(122:Int)))
def Zdw(a:Int):Option (Bool):=(ZNG a).m
theorem si(a:Int):KC Tryz.prog 129 [.d (.int .u8 a)] (Zdw a) zZ:=kC Tryz.func129 Tryz.ntmps129 [.tmp 2] fun co m L=>fO co m L
abbrev zU:Bool→AV:=fun y=>vB y
def ZMg(a:Int):PT 0 (Bool):=lr zU nG (decide ((65:Int)≤a)&&decide (a≤(90:Int)))
def Zdi(a:Int):Option (Bool):=(ZMg a).m
theorem xK(a:Int):KC Tryz.prog 130 [.d (.int .u8 a)] (Zdi a) zU:=kC Tryz.func130 Tryz.ntmps130 [.tmp 2] fun co m L=>fO co m L
abbrev N8:Bool→AV:=fun y=>vB y
def vq(a:ByteArray):Nat→St:=fun b=>Ac [(0,vS a),(3,vN b)] []
def tu:Unit→Nat×St:=fun _=>(0,Ac [] [])
def sx(a:ByteArray)(b:Nat):PT 0 (Lv (Nat) (Unit) (Bool)):=vz (Br a.size)<|br (decide ((b:Int)<(a.size:Int))) (ib a b fun h=>cl (si (h.toNat:Int)) fun d=>Gm (!d) a (b:Int) fun i=>AE (!d) (xK (i.toNat:Int)) fun f=>Gm ((!d)&&(!f)) a (b:Int) fun c=>Gm (((!d)&&(!f))&&(!decide ((c.toNat:Int)=(95:Int)))) a (b:Int) fun e=>Gm ((((!d)&&(!f))&&(!decide ((c.toNat:Int)=(95:Int))))&&(!(decide ((e.toNat:Int)<(48:Int))))) a (b:Int) fun g=>br ((((!d)&&(!f))&&(!decide ((c.toNat:Int)=(95:Int))))&&(decide ((e.toNat:Int)<(48:Int))||decide ((57:Int)<(g.toNat:Int)))) (Ar N8 nG false) (vs (wa b 1)<|ln (vq a) (b+1))) (Af (tu) ())
def Wb(a:ByteArray):Nat→Option (Lv (Nat) (Unit) (Bool)):=fun b=>(sx a b).m
def tL:PT 0 (Bool):=lr N8 nG true
def rT(a:ByteArray):PT 0 (Bool):=lc (Ac [(0,vS a),(3,vI 1)] []) ((Aj (Wb a) Ag 1).bind (Sum.elim (fun _=>(tL).m) some))
def ru(a:ByteArray):PT 0 (Bool):=vz (Br a.size)<|vy (!(decide ((a.size:Int)=(0:Int)))) (Br a.size)<|Gm (!(decide ((a.size:Int)=(0:Int))||decide ((40:Int)<(a.size:Int)))) a 0 fun c=>AE (!(decide ((a.size:Int)=(0:Int))||decide ((40:Int)<(a.size:Int)))) (si (c.toNat:Int)) fun b=>Gm ((!(decide ((a.size:Int)=(0:Int))||decide ((40:Int)<(a.size:Int))))&&(!b)) a 0 fun d=>AE ((!(decide ((a.size:Int)=(0:Int))||decide ((40:Int)<(a.size:Int))))&&(!b)) (xK (d.toNat:Int)) fun e=>br ((decide ((a.size:Int)=(0:Int))||decide ((40:Int)<(a.size:Int)))||((!b)&&(!e))) (lr N8 nG false) (lc (Ac [(0,vS a)] []) ((rT a).m))
def ep(a:ByteArray):Option (Bool):=(ru a).m
theorem ZEI{C:Cx}(co:CO C 0)(a:ByteArray):KL Tryz.prog (As tl) 60 C (pa [0,0,1,0,1,1] (At Tryz.f99)) [.tmp 2] 0 (vq a) (tu) N8 nG (Wb a):=fun c _ m Q Post b L=>eN co (AD [0,3]) nl b m L
theorem cw(a:ByteArray):KC Tryz.prog 99 [vS a] (ep a) N8:=kC Tryz.func99 Tryz.ntmps99 [.tmp 2] fun co m L=>mJ co 2 (AD [0]) nl nH m L fun r g=>fun b=>fun d=>fun c=>fun e=>⟨id,fun _ m L=>sq (mJ co 1 (AD [0,3]) nl nH m L fun r g=>fun _ m L=>bk 0 (lo (Ax (ZEI co a) nH m L (fun _ m=>fO co m L))))⟩
abbrev N7:Bool→AV:=fun y=>vB y
def Z7(a:ByteArray):ByteArray×Nat→St:=fun(b,v2)=>Ac [(0,vS a),(3,vS b),(4,vN v2)] []
def yG:ByteArray→Nat×St:=fun a=>(0,Ac [(3,vS a)] [])
def v7(a:ByteArray)(b:ByteArray)(v2:Nat):PT 0 (Lv (ByteArray×Nat) (ByteArray) (Bool)):=vz (Br a.size)<|br (decide ((v2:Int)<(a.size:Int))) (ib a v2 fun c=>br (!decide ((c.toNat:Int)=(46:Int))) (vs (wa v2 1)<|ss a (.nt v2) (.nt (v2+1)) fun d=>ad b d fun e=>vs (wa v2 1)<|ln (Z7 a) (e,v2+1)) (cl (cw b) fun f=>br (!f) (Ar N7 nG false) (vs (wa v2 1)<|ln (Z7 a) (⟨#[]⟩,v2+1)))) (Af (yG) b)
def Wq(a:ByteArray):ByteArray×Nat→Option (Lv (ByteArray×Nat) (ByteArray) (Bool)):=fun(b,v2)=>(v7 a b v2).m
def sU(a:ByteArray):PT 0 (Bool):=cl (cw a) fun b=>lr N7 nG b
def xl(a:ByteArray):PT 0 (Bool):=lc (Ac [(0,vS a),(3,vS ⟨#[]⟩),(4,vI 0)] []) ((Aj (Wq a) Ag (⟨#[]⟩,0)).bind (Sum.elim (fun b=>(sU b).m) some))
def tK(a:ByteArray):PT 0 (Bool):=vz (Br a.size)<|br (decide ((120:Int)<(a.size:Int))) (lr N7 nG false) (lc (Ac [(0,vS a),(3,vS ⟨#[]⟩)] []) ((xl a).m))
def eo(a:ByteArray):Option (Bool):=(tK a).m
theorem ZHc{C:Cx}(co:CO C 0)(a:ByteArray):KL Tryz.prog (As tl) 30 C (pa [0,0,1,0,1,1,1] (At Tryz.f96)) [.tmp 2] 0 (Z7 a) (yG) N7 nG (Wq a):=fun(c,v2) _ m Q Post b L=>eN co (AD [0,3,4]) (AD [3]) b m L
theorem ZYo(a:ByteArray):KC Tryz.prog 96 [vS a] (eo a) N7:=kC Tryz.func96 Tryz.ntmps96 [.tmp 2] fun co m L=>mJ co 3 (AD [0,3]) nl nH m L fun r g=>⟨id,fun _ m L=>sq (mJ co 1 (AD [0,3,4]) nl nH m L fun r g=>fun _ m L=>bk 0 (lo (Ax (ZHc co a) nH m L (fun b m=>fO co m L))))⟩
abbrev RM:ByteArray×ByteArray→AV:=fun y=>.tup [vS y.1,vS y.2]
def ve(a:ByteArray):Int→St:=fun b=>Ac [(0,vS a),(4,vI b)] []
def xm(a:ByteArray):Unit→Nat×St:=fun _=>(0,Ac [(0,vS a)] [])
def uH(b:ByteArray)(a:Int):PT 0 (Lv (Int) (Unit) (ByteArray×ByteArray)):=br (decide ((0:Int)≤a)) (Rh b a fun c=>br (decide ((c.toNat:Int)=(46:Int))) (ss b .no (.it a) fun d=>vs (wi (a+1))<|ss b (.it (a+1)) .no fun e=>Ar RM nG (d,e)) (vs (wi (a-1))<|ln (ve b) (a-1))) (Af (xm b) ())
def VN(a:ByteArray):Int→Option (Lv (Int) (Unit) (ByteArray×ByteArray)):=fun b=>(uH a b).m
def qe(a:ByteArray):PT 0 (ByteArray×ByteArray):=lr RM nG (⟨#[]⟩,a)
def vD(a:ByteArray):PT 0 (ByteArray×ByteArray):=vz (Br a.size)<|vs (wi ((a.size:Int)-1))<|lc (Ac [(0,vS a),(4,vI ((a.size:Int)-1))] []) ((Aj (VN a) Ag ((a.size:Int)-1)).bind (Sum.elim (fun _=>(qe a).m) some))
def yA(a:ByteArray):PT 0 (ByteArray×ByteArray):=lc (Ac [(0,vS a)] []) ((vD a).m)
def eF(a:ByteArray):Option (ByteArray×ByteArray):=(yA a).m
theorem ZHx{C:Cx}(co:CO C 0)(a:ByteArray):KL Tryz.prog (As tl) 24 C (pa [0,0,1,0,1] (At Tryz.f97)) [.tmp 2,.tmp 3] 0 (ve a) (xm a) RM nG (VN a):=fun c _ m Q Post b L=>eN co (AD [0,4]) (AD [0]) b m L
theorem ZZs(a:ByteArray):KC Tryz.prog 97 [vS a] (eF a) RM:=kC Tryz.func97 Tryz.ntmps97 [.tmp 2,.tmp 3] fun co m L=>mJ co 1 (AD [0]) nl nH m L fun r g=>fun _ m L=>sq (mJ co 1 (AD [0,4]) nl nH m L fun r g=>fun _ m L=>bk 0 (lo (Ax (ZHx co a) nH m L (fun _ m=>fO co m L))))
abbrev Bb:Bool→AV:=fun y=>vB y
def uC(a:ByteArray):PT 0 (Bool):=br (decide (a=(⟨#[109,101,115,115,97,103,101]⟩:ByteArray))) (br (decide (a=(⟨#[109,101,115,115,97,103,101]⟩:ByteArray))) (lr Bb nG true) (lr Bb nG false)) (br (decide (a=(⟨#[101,110,117,109]⟩:ByteArray))) (br (decide (a=(⟨#[101,110,117,109]⟩:ByteArray))) (lr Bb nG true) (lr Bb nG false)) (br (decide (a=(⟨#[115,101,114,118,105,99,101]⟩:ByteArray))) (br (decide (a=(⟨#[115,101,114,118,105,99,101]⟩:ByteArray))) (lr Bb nG true) (lr Bb nG false)) (br (decide (a=(⟨#[117,110,105,111,110]⟩:ByteArray))) (br (decide (a=(⟨#[117,110,105,111,110]⟩:ByteArray))) (lr Bb nG true) (lr Bb nG false)) (br (decide (a=(⟨#[109,97,112]⟩:ByteArray))) (br (decide (a=(⟨#[109,97,112]⟩:ByteArray))) (lr Bb nG true) (lr Bb nG false)) (br (decide (a=(⟨#[108,105,115,116]⟩:ByteArray))) (br (decide (a=(⟨#[108,105,115,116]⟩:ByteArray))) (lr Bb nG true) (lr Bb nG false)) (br (decide (a=(⟨#[114,101,113,117,105,114,101,100]⟩:ByteArray))) (br (decide (a=(⟨#[114,101,113,117,105,114,101,100]⟩:ByteArray))) (lr Bb nG true) (lr Bb nG false)) (br (decide (a=(⟨#[111,112,116,105,111,110,97,108]⟩:ByteArray))) (br (decide (a=(⟨#[111,112,116,105,111,110,97,108]⟩:ByteArray))) (lr Bb nG true) (lr Bb nG false)) (br (decide (a=(⟨#[112,108,97,105,110]⟩:ByteArray))) (br (decide (a=(⟨#[112,108,97,105,110]⟩:ByteArray))) (lr Bb nG true) (lr Bb nG false)) (br (decide (a=(⟨#[100,101,102,97,117,108,116]⟩:ByteArray))) (br (decide (a=(⟨#[100,101,102,97,117,108,116]⟩:ByteArray))) (lr Bb nG true) (lr Bb nG false)) (br (decide (a=(⟨#[114,101,115,101,114,118,101,100]⟩:ByteArray))) (br (decide (a=(⟨#[114,101,115,101,114,118,101,100]⟩:ByteArray))) (lr Bb nG true) (lr Bb nG false)) (br (decide (a=(⟨#[105,109,112,111,114,116]⟩:ByteArray))) (br (decide (a=(⟨#[105,109,112,111,114,116]⟩:ByteArray))) (lr Bb nG true) (lr Bb nG false)) (br (decide (a=(⟨#[115,112,97,99,101]⟩:ByteArray))) (br (decide (a=(⟨#[115,112,97,99,101]⟩:ByteArray))) (lr Bb nG true) (lr Bb nG false)) (br (decide (a=(⟨#[114,112,99]⟩:ByteArray))) (br (decide (a=(⟨#[114,112,99]⟩:ByteArray))) (lr Bb nG true) (lr Bb nG false)) (br (decide (a=(⟨#[115,116,114,101,97,109]⟩:ByteArray))) (br (decide (a=(⟨#[115,116,114,101,97,109]⟩:ByteArray))) (lr Bb nG true) (lr Bb nG false)) (br (decide (a=(⟨#[114,101,116,117,114,110,115]⟩:ByteArray))) (br (decide (a=(⟨#[114,101,116,117,114,110,115]⟩:ByteArray))) (lr Bb nG true) (lr Bb nG false)) (br (decide (a=(⟨#[111,112,101,110]⟩:ByteArray))) (br (decide (a=(⟨#[111,112,101,110]⟩:ByteArray))) (lr Bb nG true) (lr Bb nG false)) (br (decide (a=(⟨#[116,114,117,101]⟩:ByteArray))) (br (decide (a=(⟨#[116,114,117,101]⟩:ByteArray))) (lr Bb nG true) (lr Bb nG false)) (br (decide (a=(⟨#[102,97,108,115,101]⟩:ByteArray))) (br (decide (a=(⟨#[102,97,108,115,101]⟩:ByteArray))) (lr Bb nG true) (lr Bb nG false)) (br (decide (a=(⟨#[110,97,110]⟩:ByteArray))) (br (decide (a=(⟨#[110,97,110]⟩:ByteArray))) (lr Bb nG true) (lr Bb nG false)) (br (decide (a=(⟨#[105,110,102]⟩:ByteArray))) (lr Bb nG true) (lr Bb nG false)))))))))))))))))))))
def ek(a:ByteArray):Option (Bool):=(uC a).m
theorem z7(a:ByteArray):KC Tryz.prog 98 [vS a] (ek a) Bb:=kC Tryz.func98 Tryz.ntmps98 [.tmp 2] fun co m L=>fO co m L
abbrev N5:Bool→AV:=fun y=>vB y
def yd:ByteArray×Nat→St:=fun(v2,v3)=>Ac [(0,vS v2),(3,vN v3)] []
def r7:Unit→Nat×St:=fun _=>(0,Ac [] [])
def yH(v2:ByteArray)(v3:Nat):PT 0 (Lv (ByteArray×Nat) (Unit) (Bool)):=br (decide ((v3:Int)<(120:Int))&&(!decide (v2=(⟨#[]⟩:ByteArray)))) (cl (ZZs v2) fun a=>cl (z7 a.2) fun b=>br b (Ar N5 nG false) (vs (wa v3 1)<|ln (yd) (a.1,v3+1))) (Af (r7) ())
def V2:ByteArray×Nat→Option (Lv (ByteArray×Nat) (Unit) (Bool)):=fun(v2,v3)=>(yH v2 v3).m
def tX:PT 0 (Bool):=lr N5 nG true
def yQ(a:ByteArray):PT 0 (Bool):=lc (Ac [(0,vS a),(3,vI 0)] []) ((Aj (V2) Ag (a,0)).bind (Sum.elim (fun _=>(tX).m) some))
def uj(a:ByteArray):PT 0 (Bool):=cl (ZYo a) fun b=>br (!b) (lr N5 nG false) (lc (Ac [(0,vS a)] []) ((yQ a).m))
def et(a:ByteArray):Option (Bool):=(uj a).m
theorem ZGa{C:Cx}(co:CO C 0):KL Tryz.prog (As tl) 25 C (pa [0,0,1,0,1,1] (At Tryz.f61)) [.tmp 2] 0 (yd) (r7) N5 nG (V2):=fun(v2,v3) _ m Q Post a L=>eN co (AD [0,3]) nl a m L
theorem b9(a:ByteArray):KC Tryz.prog 61 [vS a] (et a) N5:=kC Tryz.func61 Tryz.ntmps61 [.tmp 2] fun co m L=>mJ co 2 (AD [0]) nl nH m L fun r g=>fun b=>⟨id,fun _ m L=>sq (mJ co 1 (AD [0,3]) nl nH m L fun r g=>fun _ m L=>bk 0 (lo (Ax (ZGa co) nH m L (fun _ m=>fO co m L))))⟩
abbrev kh:Bool→AV:=fun y=>vB y
def s3(a:ByteArray):PT 0 (Bool):=cl (cw a) fun b=>AE b (z7 a) fun c=>lr kh nG (b&&(!c))
def dN(a:ByteArray):Option (Bool):=(s3 a).m
theorem Tg(a:ByteArray):KC Tryz.prog 62 [vS a] (dN a) kh:=kC Tryz.func62 Tryz.ntmps62 [.tmp 2] fun co m L=>fO co m L
abbrev RC:Bool→AV:=fun y=>vB y
def x1(a:List Spn)(b:Int):Nat→St:=fun c=>Ac [(0,vL CA a),(1,vI b),(5,vN c)] []
def w5:Unit→Nat×St:=fun _=>(0,Ac [] [])
def xR(a:List Spn)(c:Int)(b:Nat):PT 0 (Lv (Nat) (Unit) (Bool)):=vz (Ai a)<|br (decide ((b:Int)<(a.length:Int))) (ix a b fun d=>AN (decide (d.lo≤c)) a (b:Int) fun e=>br (decide (d.lo≤c)&&decide (c≤e.hi)) (Ar RC nG true) (vs (wa b 1)<|ln (x1 a c) (b+1))) (Af (w5) ())
def V7(a:List Spn)(b:Int):Nat→Option (Lv (Nat) (Unit) (Bool)):=fun c=>(xR a b c).m
def rQ:PT 0 (Bool):=lr RC nG false
def wx(a:List Spn)(b:Int):PT 0 (Bool):=lc (Ac [(0,vL CA a),(1,vI b),(5,vI 0)] []) ((Aj (V7 a b) Ag 0).bind (Sum.elim (fun _=>(rQ).m) some))
def wK(a:List Spn)(b:Int):PT 0 (Bool):=lc (Ac [(0,vL CA a),(1,vI b)] []) ((wx a b).m)
def dH(a:List Spn)(b:Int):Option (Bool):=(wK a b).m
theorem ZF3{C:Cx}(co:CO C 0)(a:List Spn)(b:Int):KL Tryz.prog (As tl) 28 C (pa [0,0,1,0,1] (At Tryz.f63)) [.tmp 4] 0 (x1 a b) (w5) RC nG (V7 a b):=fun d _ m Q Post c L=>eN co (AD [0,1,5]) nl c m L
theorem z8(a:List Spn)(b:Int):KC Tryz.prog 63 [vL CA a,vI b] (dH a b) RC:=kC Tryz.func63 Tryz.ntmps63 [.tmp 4] fun co m L=>mJ co 1 (AD [0,1]) nl nH m L fun r g=>fun _ m L=>sq (mJ co 1 (AD [0,1,5]) nl nH m L fun r g=>fun _ m L=>bk 0 (lo (Ax (ZF3 co a b) nH m L (fun _ m=>fO co m L))))
abbrev Ey:Bool→AV:=fun y=>vB y
def wJ(a:Fld):PT 0 (Bool):=wg<|br (!decide (a.card=(5:Int))) (wg<|wg<|wg<|lr Ey nG ((decide ((1:Int)≤a.card)&&decide (a.card≤(4:Int)))&&decide (a.key=(0:Int)))) (wg<|br (decide (a.key=(1:Int))) (br (decide (a.key=(1:Int))) (lr Ey nG true) (lr Ey nG false)) (br (decide (a.key=(2:Int))) (br (decide (a.key=(2:Int))) (lr Ey nG true) (lr Ey nG false)) (br (decide (a.key=(3:Int))) (br (decide (a.key=(3:Int))) (lr Ey nG true) (lr Ey nG false)) (br (decide (a.key=(4:Int))) (br (decide (a.key=(4:Int))) (lr Ey nG true) (lr Ey nG false)) (br (decide (a.key=(5:Int))) (br (decide (a.key=(5:Int))) (lr Ey nG true) (lr Ey nG false)) (br (decide (a.key=(7:Int))) (lr Ey nG true) (lr Ey nG false)))))))
def dX(a:Fld):Option (Bool):=(wJ a).m
theorem ZYy(a:Fld):KC Tryz.prog 64 [.agg ((Av a).map .d)] (dX a) Ey:=kC Tryz.func64 Tryz.ntmps64 [.tmp 2] fun co m L=>fO co m L
abbrev jK(a:Scm):Ad×Blk:=kk 2 26 3 (cD (Am a))
abbrev SW:Int→AV:=fun y=>vI y
def oZ(a:Scm)(b:ByteArray):Nat→St:=fun c=>Ac [(1,vS b),pp 2,(5,vN c)] [(jK a)]
def oS:Unit→Nat×St:=fun _=>(0,Ac [] [])
def mT(b:Scm)(c:ByteArray)(a:Nat):PT 0 (Lv (Nat) (Unit) (Int)):=wg<|vz (Ai b.enums)<|br (decide ((a:Int)<(b.enums.length:Int))) (wg<|ix b.enums a fun d=>br (decide (d.name=c)) (Ar SW nG (a:Int)) (vs (wa a 1)<|ln (oZ b c) (a+1))) (Af (oS) ())
def U1(a:Scm)(b:ByteArray):Nat→Option (Lv (Nat) (Unit) (Int)):=fun c=>(mT a b c).m
def pm:PT 0 (Int):=lr SW nG (-1)
def oM(a:Scm)(b:ByteArray):PT 0 (Int):=lc (Ac [(1,vS b),pp 2,(5,vI 0)] [(jK a)]) ((Aj (U1 a b) Ag 0).bind (Sum.elim (fun _=>(pm).m) some))
def nw(a:Scm)(b:ByteArray):PT 0 (Int):=lc (Ac [(1,vS b),pp 2] [(jK a)]) ((oM a b).m)
def dJ(a:Scm)(b:ByteArray):Option (Int):=(nw a b).m
theorem Zxu{C:Cx}(co:CO C 0)(a:Scm)(b:ByteArray):KL Tryz.prog (As tl) 22 C (pa [0,0,1,0,1] (At Tryz.f100)) [.tmp 4] 0 (oZ a b) (oS) SW nG (U1 a b):=fun d _ m Q Post c L=>eN co (Aa [1,2,5] EU) nl c m L
theorem yB(a:Scm)(b:ByteArray):KC Tryz.prog 100 [.agg ((Am a).map .d),vS b] (dJ a b) SW:=kC Tryz.func100 Tryz.ntmps100 [.tmp 4] fun co m L=>mJ co 1 (Aa [1,2] EU) nl nH m L fun r g=>fun _ m L=>sq (mJ co 1 (Aa [1,2,5] EU) nl nH m L fun r g=>fun _ m L=>bk 0 (lo (Ax (Zxu co a b) nH m L (fun _ m=>fO co m L))))
abbrev RD:Bool→AV:=fun y=>vB y
def yw(b:Scm)(a:Fld):PT 0 (Bool):=wg<|br (decide (a.type.kind=(9:Int))) (wg<|wg<|cl (yB b a.type.name) fun c=>lr RD nG (decide ((0:Int)≤c))) (br (decide (a.type.kind=(10:Int))) (wg<|wg<|cl (O9 b a.type.name) fun d=>wg<|lr RD nG (decide ((0:Int)≤d)&&(!decide (a.card=(3:Int))))) (wg<|wg<|wg<|lr RD nG ((decide ((1:Int)≤a.type.kind)&&decide (a.type.kind≤(8:Int)))&&decide (a.type.name=(⟨#[]⟩:ByteArray)))))
def dS(a:Scm)(b:Fld):Option (Bool):=(yw a b).m
theorem ZYt(a:Scm)(b:Fld):KC Tryz.prog 65 [.agg ((Am a).map .d),.agg ((Av b).map .d)] (dS a b) RD:=kC Tryz.func65 Tryz.ntmps65 [.tmp 4] fun co m L=>fO co m L
abbrev LI:List (Ad×Bool):=[((1,2),false),((1,5),false)]
abbrev Xb(a:Msg):Ad×Blk:=kk 2 56 5 (cD (AH a))
abbrev Sl(a:Fld):Ad×Blk:=kk 5 51 16 (cD (Av a))
abbrev LR:Bool→AV:=fun y=>vB y
def Za(b:Msg)(c:Int)(a:Fld):Bool×Nat→St:=fun(v3,v4)=>Ac [(1,vI c),pp 2,pp 5,(6,vB v3),(7,vN v4)] [(Xb b),(Sl a)]
def uG(b:Msg)(c:Int)(a:Fld):Bool→Nat×St:=fun d=>(0,Ac [(1,vI c),pp 2,pp 5,(6,vB d)] [(Xb b),(Sl a)])
def xf(a:Msg)(c:Int)(b:Fld)(v3:Bool)(v4:Nat):PT 0 (Lv (Bool×Nat) (Bool) (Bool)):=wg<|vz (Ai a.fields)<|br (decide ((v4:Int)<(a.fields.length:Int))) (wg<|ix a.fields v4 fun d=>wg<|br (decide (d.name=b.union)) (Ar LR nG false) (wg<|AN (decide ((v4:Int)<c)) a.fields (v4:Int) fun e=>wg<|br (decide ((v4:Int)<c)&&decide (e.union=b.union)) (vs (wa v4 1)<|ln (Za a c b) (true,v4+1)) (vs (wa v4 1)<|ln (Za a c b) (v3,v4+1)))) (Af (uG a c b) v3)
def Wt(b:Msg)(c:Int)(a:Fld):Bool×Nat→Option (Lv (Bool×Nat) (Bool) (Bool)):=fun(v3,v4)=>(xf b c a v3 v4).m
def wB(e:Msg)(b:Int)(c:Fld)(a:Bool):PT 0 (Bool):=wg<|vg (!(!a)) (wi (b-1))<|AN (!(!a)) e.fields (b-1) fun d=>wg<|lr LR nG ((!a)||decide (d.union=c.union))
def sI(b:Msg)(c:Int)(a:Fld):PT 0 (Bool):=lc (Ac [(1,vI c),pp 2,pp 5,(6,vB false),(7,vI 0)] [(Xb b),(Sl a)]) ((Aj (Wt b c a) Ag (false,0)).bind (Sum.elim (fun d=>(wB b c a d).m) some))
def yy(b:Msg)(c:Int):PT 0 (Bool):=wg<|CC b.fields c fun a=>wg<|wg<|br (decide (a.union=(⟨#[]⟩:ByteArray))) (lr LR nG true) (wg<|wg<|AE (!(!decide (a.card=(2:Int)))) (Tg a.union) fun d=>br ((!decide (a.card=(2:Int)))||(!d)) (lr LR nG false) (lc (Ac [(1,vI c),pp 2,pp 5,(6,vB false)] [(Xb b),(Sl a)]) ((sI b c a).m)))
def dT(a:Msg)(b:Int):Option (Bool):=(yy a b).m
theorem ZEb{C:Cx}(co:CO C 0)(b:Msg)(c:Int)(a:Fld):KL Tryz.prog (As tl) 69 C (pa [0,0,1,0,1,1,1,1,1] (At Tryz.f66)) [.tmp 4] 0 (Za b c a) (uG b c a) LR nG (Wt b c a):=fun(v3,v4) _ m Q Post d L=>eN co (Aa [1,2,5,6,7] LI) (Aa [1,2,5,6] LI) d m L
theorem ZYV(a:Msg)(b:Int):KC Tryz.prog 66 [.agg ((AH a).map .d),vI b] (dT a b) LR:=kC Tryz.func66 Tryz.ntmps66 [.tmp 4] fun co m L=>mJ co 5 (Aa [1,2,5,6] LI) nl nH m L fun r g=>fun c=>⟨id,fun e=>⟨id,fun _ m L=>sq (mJ co 1 (Aa [1,2,5,6,7] LI) nl nH m L fun r g=>fun _ m L=>bk 0 (lo (Ax (ZEb co a b c) nH m L (fun d m=>fO co m L))))⟩⟩
abbrev L8:Int→AV:=fun y=>vI y
def iu(a:Int):PT 0 (Int):=rem .u64 a 9223372036854775808<|br (decide ((9218868437227405312:Int)<(Jj .u64 a 9223372036854775808))) (lr L8 nG 0) (br (decide ((Jj .u64 a 9223372036854775808)=(9218868437227405312:Int))) (lr L8 nG 1) (br (decide ((Jj .u64 a 9223372036854775808)=(0:Int))) (lr L8 nG 2) (br (decide ((Jj .u64 a 9223372036854775808)<(4503599627370496:Int))) (lr L8 nG 3) (lr L8 nG 4))))
def Pe(a:Int):Option (Int):=(iu a).m
theorem qc(a:Int):KC Tryz.prog 127 [.d (.int .u64 a)] (Pe a) L8:=kC Tryz.func127 Tryz.ntmps127 [.tmp 2] fun co m L=>fO co m L
abbrev Xp:Val→AV:=fun y=>.agg ((Ae y).map .d)
def bx(a:Val):PT 0 (Val):=wg<|wg<|AE (decide (a.kind=(6:Int))) (qc a.bits) fun b=>br (decide (a.kind=(6:Int))&&decide (b=(0:Int))) (wg<|wg<|wg<|lr Xp nG (.mk a.kind 9221120237041090560 a.text a.list a.pairs a.slots a.raws:Val)) (wg<|wg<|lr Xp nG a)
def Pj(a:Val):Option (Val):=(bx a).m
theorem cg(a:Val):KC Tryz.prog 94 [.agg ((Ae a).map .d)] (Pj a) Xp:=kC Tryz.func94 Tryz.ntmps94 [.cell 2 35] fun co m L=>fO co m L
abbrev zA:Bool→AV:=fun y=>vB y
def ZzC(a:Val)(b:Val):PT 0 (Bool):=wg<|wg<|wg<|wg<|wg<|wg<|wg<|vy ((decide (a.kind=b.kind)&&decide (a.bits=b.bits))&&decide (a.text=b.text)) (Ai a.list)<|wg<|vy ((decide (a.kind=b.kind)&&decide (a.bits=b.bits))&&decide (a.text=b.text)) (Ai a.pairs)<|vg ((decide (a.kind=b.kind)&&decide (a.bits=b.bits))&&decide (a.text=b.text)) (wa a.list.length a.pairs.length)<|wg<|vy ((decide (a.kind=b.kind)&&decide (a.bits=b.bits))&&decide (a.text=b.text)) (Ai a.slots)<|vg ((decide (a.kind=b.kind)&&decide (a.bits=b.bits))&&decide (a.text=b.text)) (wa (a.list.length+a.pairs.length) a.slots.length)<|wg<|vy ((decide (a.kind=b.kind)&&decide (a.bits=b.bits))&&decide (a.text=b.text)) (Ai a.raws)<|vg ((decide (a.kind=b.kind)&&decide (a.bits=b.bits))&&decide (a.text=b.text)) (wa ((a.list.length+a.pairs.length)+a.slots.length) a.raws.length)<|wg<|vy ((decide (a.kind=b.kind)&&decide (a.bits=b.bits))&&decide (a.text=b.text)) (Ai b.list)<|vg ((decide (a.kind=b.kind)&&decide (a.bits=b.bits))&&decide (a.text=b.text)) (wa (((a.list.length+a.pairs.length)+a.slots.length)+a.raws.length) b.list.length)<|wg<|vy ((decide (a.kind=b.kind)&&decide (a.bits=b.bits))&&decide (a.text=b.text)) (Ai b.pairs)<|vg ((decide (a.kind=b.kind)&&decide (a.bits=b.bits))&&decide (a.text=b.text)) (wa ((((a.list.length+a.pairs.length)+a.slots.length)+a.raws.length)+b.list.length) b.pairs.length)<|wg<|vy ((decide (a.kind=b.kind)&&decide (a.bits=b.bits))&&decide (a.text=b.text)) (Ai b.slots)<|vg ((decide (a.kind=b.kind)&&decide (a.bits=b.bits))&&decide (a.text=b.text)) (wa (((((a.list.length+a.pairs.length)+a.slots.length)+a.raws.length)+b.list.length)+b.pairs.length) b.slots.length)<|wg<|vy ((decide (a.kind=b.kind)&&decide (a.bits=b.bits))&&decide (a.text=b.text)) (Ai b.raws)<|vg ((decide (a.kind=b.kind)&&decide (a.bits=b.bits))&&decide (a.text=b.text)) (wa ((((((a.list.length+a.pairs.length)+a.slots.length)+a.raws.length)+b.list.length)+b.pairs.length)+b.slots.length) b.raws.length)<|lr zA nG (((decide (a.kind=b.kind)&&decide (a.bits=b.bits))&&decide (a.text=b.text))&&decide (((((((((a.list.length+a.pairs.length)+a.slots.length)+a.raws.length)+b.list.length)+b.pairs.length)+b.slots.length)+b.raws.length:Nat):Int)=(0:Int)))
def dE(a:Val)(b:Val):Option (Bool):=(ZzC a b).m
theorem rW(a:Val)(b:Val):KC Tryz.prog 101 [.agg ((Ae a).map .d),.agg ((Ae b).map .d)] (dE a b) zA:=kC Tryz.func101 Tryz.ntmps101 [.tmp 4] fun co m L=>fO co m L
abbrev zC:Bool→AV:=fun y=>vB y
def g9(a:ByteArray)(b:Int)(d:Int)(f:Int):PT 0 (Bool):=vz (Br a.size)<|Gm (decide (b<(a.size:Int))) a b fun c=>Gm (decide (b<(a.size:Int))&&decide (d≤(c.toNat:Int))) a b fun e=>lr zC nG ((decide (b<(a.size:Int))&&decide (d≤(c.toNat:Int)))&&decide ((e.toNat:Int)≤f))
def MG(a:ByteArray)(b:Int)(c:Int)(d:Int):Option (Bool):=(g9 a b c d).m
theorem Q5(a:ByteArray)(b:Int)(c:Int)(d:Int):KC Tryz.prog 162 [vS a,vI b,.d (.int .u8 c),.d (.int .u8 d)] (MG a b c d) zC:=kC Tryz.func162 Tryz.ntmps162 [.tmp 8] fun co m L=>fO co m L
abbrev Tb:Bool→AV:=fun y=>vB y
def l6(a:ByteArray)(b:Int)(c:Int):Nat→St:=fun d=>Ac [(0,vS a),(1,vI b),(2,vI c),(7,vN d)] []
def ZzW:Unit→Nat×St:=fun _=>(0,Ac [] [])
def VC(c:ByteArray)(b:Int)(d:Int)(a:Nat):PT 0 (Lv (Nat) (Unit) (Bool)):=br (decide ((a:Int)<d)) (vs (wi (b+(a:Int)))<|cl (Q5 c (b+(a:Int)) 128 191) fun e=>br (!e) (Ar Tb nG false) (vs (wa a 1)<|ln (l6 c b d) (a+1))) (Af (ZzW) ())
def Lr(a:ByteArray)(b:Int)(c:Int):Nat→Option (Lv (Nat) (Unit) (Bool)):=fun d=>(VC a b c d).m
def jA:PT 0 (Bool):=lr Tb nG true
def iU(a:ByteArray)(b:Int)(c:Int):PT 0 (Bool):=lc (Ac [(0,vS a),(1,vI b),(2,vI c),(7,vI 0)] []) ((Aj (Lr a b c) Ag 0).bind (Sum.elim (fun _=>(jA).m) some))
def i3(a:ByteArray)(b:Int)(c:Int):PT 0 (Bool):=lc (Ac [(0,vS a),(1,vI b),(2,vI c)] []) ((iU a b c).m)
def Lc(a:ByteArray)(b:Int)(c:Int):Option (Bool):=(i3 a b c).m
theorem Zx5{C:Cx}(co:CO C 0)(a:ByteArray)(b:Int)(c:Int):KL Tryz.prog (As tl) 19 C (pa [0,0,1,0,1] (At Tryz.f161)) [.tmp 6] 0 (l6 a b c) (ZzW) Tb nG (Lr a b c):=fun e _ m Q Post d L=>eN co (AD [0,1,2,7]) nl d m L
theorem LA(a:ByteArray)(b:Int)(c:Int):KC Tryz.prog 161 [vS a,vI b,vI c] (Lc a b c) Tb:=kC Tryz.func161 Tryz.ntmps161 [.tmp 6] fun co m L=>mJ co 1 (AD [0,1,2]) nl nH m L fun r g=>fun _ m L=>sq (mJ co 1 (AD [0,1,2,7]) nl nH m L fun r g=>fun _ m L=>bk 0 (lo (Ax (Zx5 co a b c) nH m L (fun _ m=>fO co m L))))
abbrev Hv:Int→AV:=fun y=>vI y
def i4(c:ByteArray)(b:Int):PT 0 (Int):=Rh c b fun a=>br (decide ((a.toNat:Int)<(128:Int))) (lr Hv nG 1) (vg (decide ((194:Int)≤(a.toNat:Int))&&decide ((a.toNat:Int)≤(223:Int))) (wi (b+1))<|AE (decide ((194:Int)≤(a.toNat:Int))&&decide ((a.toNat:Int)≤(223:Int))) (LA c (b+1) 1) fun j=>br ((decide ((194:Int)≤(a.toNat:Int))&&decide ((a.toNat:Int)≤(223:Int)))&&j) (lr Hv nG 2) (vg (decide ((a.toNat:Int)=(224:Int))) (wi (b+1))<|AE (decide ((a.toNat:Int)=(224:Int))) (Q5 c (b+1) 160 191) fun g=>vg (decide ((a.toNat:Int)=(224:Int))&&g) (wi (b+2))<|AE (decide ((a.toNat:Int)=(224:Int))&&g) (LA c (b+2) 1) fun k=>br ((decide ((a.toNat:Int)=(224:Int))&&g)&&k) (lr Hv nG 3) (vg (decide ((a.toNat:Int)=(237:Int))) (wi (b+1))<|AE (decide ((a.toNat:Int)=(237:Int))) (Q5 c (b+1) 128 159) fun h=>vg (decide ((a.toNat:Int)=(237:Int))&&h) (wi (b+2))<|AE (decide ((a.toNat:Int)=(237:Int))&&h) (LA c (b+2) 1) fun l=>br ((decide ((a.toNat:Int)=(237:Int))&&h)&&l) (lr Hv nG 3) (vg ((decide ((225:Int)≤(a.toNat:Int))&&decide ((a.toNat:Int)≤(239:Int)))&&(!decide ((a.toNat:Int)=(237:Int)))) (wi (b+1))<|AE ((decide ((225:Int)≤(a.toNat:Int))&&decide ((a.toNat:Int)≤(239:Int)))&&(!decide ((a.toNat:Int)=(237:Int)))) (LA c (b+1) 2) fun m=>br (((decide ((225:Int)≤(a.toNat:Int))&&decide ((a.toNat:Int)≤(239:Int)))&&(!decide ((a.toNat:Int)=(237:Int))))&&m) (lr Hv nG 3) (vg (decide ((a.toNat:Int)=(240:Int))) (wi (b+1))<|AE (decide ((a.toNat:Int)=(240:Int))) (Q5 c (b+1) 144 191) fun i=>vg (decide ((a.toNat:Int)=(240:Int))&&i) (wi (b+2))<|AE (decide ((a.toNat:Int)=(240:Int))&&i) (LA c (b+2) 2) fun n=>br ((decide ((a.toNat:Int)=(240:Int))&&i)&&n) (lr Hv nG 4) (vg (decide ((241:Int)≤(a.toNat:Int))&&decide ((a.toNat:Int)≤(243:Int))) (wi (b+1))<|AE (decide ((241:Int)≤(a.toNat:Int))&&decide ((a.toNat:Int)≤(243:Int))) (LA c (b+1) 3) fun e=>br ((decide ((241:Int)≤(a.toNat:Int))&&decide ((a.toNat:Int)≤(243:Int)))&&e) (lr Hv nG 4) (vg (decide ((a.toNat:Int)=(244:Int))) (wi (b+1))<|AE (decide ((a.toNat:Int)=(244:Int))) (Q5 c (b+1) 128 143) fun d=>vg (decide ((a.toNat:Int)=(244:Int))&&d) (wi (b+2))<|AE (decide ((a.toNat:Int)=(244:Int))&&d) (LA c (b+2) 2) fun f=>br ((decide ((a.toNat:Int)=(244:Int))&&d)&&f) (lr Hv nG 4) (lr Hv nG 0))))))))
def Ph(a:ByteArray)(b:Int):Option (Int):=(i4 a b).m
theorem ZVs(a:ByteArray)(b:Int):KC Tryz.prog 135 [vS a,vI b] (Ph a b) Hv:=kC Tryz.func135 Tryz.ntmps135 [.tmp 4] fun co m L=>fO co m L
abbrev Tq:Int→AV:=fun y=>vI y
def pz(a:ByteArray):Int→St:=fun b=>Ac [(0,vS a),(3,vI b)] []
def lj:Unit→Nat×St:=fun _=>(0,Ac [] [])
def hZ(b:ByteArray)(a:Int):PT 0 (Lv (Int) (Unit) (Int)):=vz (Br b.size)<|br (decide (a<(b.size:Int))) (cl (ZVs b a) fun c=>br (decide (c=(0:Int))) (Ar Tq nG a) (vs (wi (a+c))<|ln (pz b) (a+c))) (Af (lj) ())
def Nd(a:ByteArray):Int→Option (Lv (Int) (Unit) (Int)):=fun b=>(hZ a b).m
def jy:PT 0 (Int):=lr Tq nG (-1)
def jl(a:ByteArray):PT 0 (Int):=lc (Ac [(0,vS a),(3,vI 0)] []) ((Aj (Nd a) Ag 0).bind (Sum.elim (fun _=>(jy).m) some))
def iY(a:ByteArray):PT 0 (Int):=lc (Ac [(0,vS a)] []) ((jl a).m)
def Tx(a:ByteArray):Option (Int):=(iY a).m
theorem Zw5{C:Cx}(co:CO C 0)(a:ByteArray):KL Tryz.prog (As tl) 18 C (pa [0,0,1,0,1] (At Tryz.f104)) [.tmp 2] 0 (pz a) (lj) Tq nG (Nd a):=fun c _ m Q Post b L=>eN co (AD [0,3]) nl b m L
theorem ZVx(a:ByteArray):KC Tryz.prog 104 [vS a] (Tx a) Tq:=kC Tryz.func104 Tryz.ntmps104 [.tmp 2] fun co m L=>mJ co 1 (AD [0]) nl nH m L fun r g=>fun _ m L=>sq (mJ co 1 (AD [0,3]) nl nH m L fun r g=>fun _ m L=>bk 0 (lo (Ax (Zw5 co a) nH m L (fun _ m=>fO co m L))))
abbrev kj:Bool→AV:=fun y=>vB y
def bj(a:ByteArray):PT 0 (Bool):=cl (ZVx a) fun b=>lr kj nG (decide (b<(0:Int)))
def MI(a:ByteArray):Option (Bool):=(bj a).m
theorem zG(a:ByteArray):KC Tryz.prog 70 [vS a] (MI a) kj:=kC Tryz.func70 Tryz.ntmps70 [.tmp 2] fun co m L=>fO co m L
abbrev zq:Bool→AV:=fun y=>vB y
def mG(a:Int):PT 0 (Bool):=lr zq nG (decide ((1:Int)≤a)&&decide (a≤(9:Int)))
def ML(a:Int):Option (Bool):=(mG a).m
theorem Zh(a:Int):KC Tryz.prog 125 [vI a] (ML a) zq:=kC Tryz.func125 Tryz.ntmps125 [.tmp 2] fun co m L=>fO co m L
abbrev ZXm:Bool→AV:=fun y=>vB y
def is(a:Val):PT 0 (Bool):=wg<|vz (Ai a.list)<|wg<|vy (decide ((a.list.length:Int)=(0:Int))) (Ai a.pairs)<|wg<|vy (decide ((a.list.length:Int)=(0:Int))&&decide ((a.pairs.length:Int)=(0:Int))) (Ai a.slots)<|wg<|vy ((decide ((a.list.length:Int)=(0:Int))&&decide ((a.pairs.length:Int)=(0:Int)))&&decide ((a.slots.length:Int)=(0:Int))) (Ai a.raws)<|lr ZXm nG (((decide ((a.list.length:Int)=(0:Int))&&decide ((a.pairs.length:Int)=(0:Int)))&&decide ((a.slots.length:Int)=(0:Int)))&&decide ((a.raws.length:Int)=(0:Int)))
def Pf(a:Val):Option (Bool):=(is a).m
theorem vX(a:Val):KC Tryz.prog 126 [.agg ((Ae a).map .d)] (Pf a) ZXm:=kC Tryz.func126 Tryz.ntmps126 [.tmp 2] fun co m L=>fO co m L
abbrev zQ:Bool→AV:=fun y=>vB y
def VA(a:Int):PT 0 (Bool):=lr zQ nG (decide (a=(7:Int))||decide (a=(8:Int)))
def MH(a:Int):Option (Bool):=(VA a).m
theorem Wp(a:Int):KC Tryz.prog 131 [vI a] (MH a) zQ:=kC Tryz.func131 Tryz.ntmps131 [.tmp 2] fun co m L=>fO co m L
abbrev IP:Bool→AV:=fun y=>vB y
def Vy(b:Int)(a:Val):PT 0 (Bool):=cl (Zh b) fun c=>wg<|wg<|AE (!((!c)||(!decide (a.kind=b)))) (vX a) fun d=>br (((!c)||(!decide (a.kind=b)))||(!d)) (lr IP nG false) (cl (Wp b) fun e=>br e (wg<|wg<|vy (decide (a.bits=(0:Int))) (Br a.text.size)<|wg<|AE ((decide (a.bits=(0:Int))&&decide ((a.text.size:Int)≤(4096:Int)))&&(!(decide (b=(8:Int))))) (zG a.text) fun f=>lr IP nG ((decide (a.bits=(0:Int))&&decide ((a.text.size:Int)≤(4096:Int)))&&(decide (b=(8:Int))||f))) (wg<|br (!decide (a.text=(⟨#[]⟩:ByteArray))) (lr IP nG false) (br (decide (b=(1:Int))) (wg<|lr IP nG (decide (a.bits≤(1:Int)))) (br (decide (b=(2:Int))) (wg<|vz (wk .i64 a.bits)<|lr IP nG (decide (((-2147483648):Int)≤(IntKind.i64.wrap a.bits))&&decide ((IntKind.i64.wrap a.bits)≤(2147483647:Int)))) (br (decide (b=(4:Int))) (wg<|lr IP nG (decide (a.bits<(4294967296:Int)))) (br (decide (b=(9:Int))) (wg<|lr IP nG (decide (a.bits<(2147483648:Int)))) (lr IP nG true)))))))
def JD(a:Int)(b:Val):Option (Bool):=(Vy a b).m
theorem be(a:Int)(b:Val):KC Tryz.prog 102 [vI a,.agg ((Ae b).map .d)] (JD a b) IP:=kC Tryz.func102 Tryz.ntmps102 [.tmp 4] fun co m L=>fO co m L
abbrev cP(a:Scm):Ad×Blk:=kk 2 26 3 (cD (Am a))
abbrev dc(a:Fld):Ad×Blk:=kk 5 35 7 (cD (Ae a.dflt))
abbrev I4:Bool→AV:=fun y=>vB y
def xS(a:Scm)(b:Fld)(d:Int):Nat→St:=fun c=>Ac [pp 2,pp 5,(6,vI d),(7,vN c)] [(cP a),(dc b)]
def rH:Unit→Nat×St:=fun _=>(0,Ac [] [])
def tf(b:Scm)(f:Fld)(c:Int)(a:Nat):PT 0 (Lv (Nat) (Unit) (Bool)):=wg<|CC b.enums c fun d=>vz (Ai d.items)<|br (decide ((a:Int)<(d.items.length:Int))) (wg<|CC b.enums c fun g=>ix g.items a fun e=>vz (wk .u64 e.num)<|wg<|br (decide ((IntKind.u64.wrap e.num)=f.dflt.bits)) (Ar I4 nG true) (vs (wa a 1)<|ln (xS b f c) (a+1))) (Af (rH) ())
def W3(a:Scm)(b:Fld)(d:Int):Nat→Option (Lv (Nat) (Unit) (Bool)):=fun c=>(tf a b d c).m
def rK:PT 0 (Bool):=lr I4 nG false
def sF(a:Scm)(b:Fld)(c:Int):PT 0 (Bool):=lc (Ac [pp 2,pp 5,(6,vI c),(7,vI 0)] [(cP a),(dc b)]) ((Aj (W3 a b c) Ag 0).bind (Sum.elim (fun _=>(rK).m) some))
def qM(b:Scm)(a:Fld):PT 0 (Bool):=wg<|wg<|wg<|br (!a.hasDefault) (wg<|cl ((rW a.dflt (.mk 0 0 ⟨#[]⟩ ([]:List Val) ([]:List Pr) ([]:List Slt) ([]:List Raw):Val)).nrm (fun _ _ _ h=>.nrm h) (xs':=[.agg ((Ae a.dflt).map .d),.agg [vI 0,.d (.int .u64 0),vS ⟨#[]⟩,.e0,.e0,.e0,.e0]]) (by intro r;kernel_rfl)) fun e=>lr I4 nG e) (wg<|wg<|wg<|wg<|AE (!((!decide (a.card=(2:Int)))||(!decide (a.union=(⟨#[]⟩:ByteArray))))) (be a.type.kind a.dflt) fun c=>wg<|wg<|AE (!(((!decide (a.card=(2:Int)))||(!decide (a.union=(⟨#[]⟩:ByteArray))))||(!c))) (cg a.dflt) fun f=>AE (!(((!decide (a.card=(2:Int)))||(!decide (a.union=(⟨#[]⟩:ByteArray))))||(!c))) (rW a.dflt f) fun g=>br ((((!decide (a.card=(2:Int)))||(!decide (a.union=(⟨#[]⟩:ByteArray))))||(!c))||(!g)) (lr I4 nG false) (wg<|wg<|cl (yB b a.type.name) fun d=>wg<|br (!decide (a.type.kind=(9:Int))) (lr I4 nG true) (br (decide (d<(0:Int))) (lr I4 nG false) (lc (Ac [pp 2,pp 5,(6,vI d)] [(cP b),(dc a)]) ((sF b a d).m)))))
def eD(a:Scm)(b:Fld):Option (Bool):=(qM a b).m
theorem ZIj{C:Cx}(co:CO C 0)(a:Scm)(b:Fld)(c:Int):KL Tryz.prog (As tl) 75 C (pa [0,0,1,0,1,1,1,1,1,1,1] (At Tryz.f67)) [.tmp 4] 0 (xS a b c) (rH) I4 nG (W3 a b c):=fun e _ m Q Post d L=>eN co (Aa [2,5,6,7] LI) nl d m L
theorem ZYN(a:Scm)(b:Fld):KC Tryz.prog 67 [.agg ((Am a).map .d),.agg ((Av b).map .d)] (eD a b) I4:=kC Tryz.func67 Tryz.ntmps67 [.tmp 4] fun co m L=>mJ co 7 (Aa [2,5,6] LI) nl nH m L fun r g=>⟨fun d=>id,fun e=>fun f=>fun h=>⟨id,fun c=>⟨id,⟨id,fun _ m L=>sq (mJ co 1 (Aa [2,5,6,7] LI) nl nH m L fun r g=>fun _ m L=>bk 0 (lo (Ax (ZIj co a b c) nH m L (fun _ m=>fO co m L))))⟩⟩⟩⟩
abbrev lb1:ByteArray:=⟨#[115,105,110,99,101]⟩
abbrev lb2:ByteArray:=⟨#[109,105,110]⟩
abbrev lb3:ByteArray:=⟨#[109,97,120]⟩
abbrev lb4:ByteArray:=⟨#[117,110,116,105,108]⟩
abbrev lb5:ByteArray:=⟨#[108,101,110,103,116,104]⟩
abbrev lb6:ByteArray:=⟨#[116,105,109,101,111,117,116]⟩
abbrev lb7:ByteArray:=⟨#[97,108,105,97,115]⟩
abbrev lb8:ByteArray:=⟨#[114,111,117,116,101]⟩
abbrev D1:Int→AV:=fun y=>vI y
def Pt(a:ByteArray):PT 0 (Int):=br (decide (a=lb2)) (br (decide (a=lb2)) (lr D1 nG 3) (lr D1 nG 0)) (br (decide (a=lb3)) (lr D1 nG 3) (lr D1 nG 0))
def Pz(a:ByteArray):PT 0 (Int):=br (decide (a=lb1)) (br (decide (a=lb1)) (lr D1 nG 4) (Pt a)) (br (decide (a=lb4)) (br (decide (a=lb4)) (lr D1 nG 4) (Pt a)) (br (decide (a=lb5)) (br (decide (a=lb5)) (lr D1 nG 4) (Pt a)) (br (decide (a=lb6)) (lr D1 nG 4) (Pt a))))
def T4(a:ByteArray):PT 0 (Int):=br (decide (a=(⟨#[100,111,99]⟩:ByteArray))) (br (decide (a=(⟨#[100,111,99]⟩:ByteArray))) (lr D1 nG 7) (Pz a)) (br (decide (a=lb7)) (br (decide (a=lb7)) (lr D1 nG 7) (Pz a)) (br (decide (a=lb8)) (br (decide (a=lb8)) (lr D1 nG 7) (Pz a)) (br (decide (a=(⟨#[111,119,110,101,114]⟩:ByteArray))) (lr D1 nG 7) (Pz a))))
def nY(a:ByteArray):PT 0 (Int):=br (decide (a=(⟨#[100,101,112,114,101,99,97,116,101,100]⟩:ByteArray))) (br (decide (a=(⟨#[100,101,112,114,101,99,97,116,101,100]⟩:ByteArray))) (lr D1 nG 1) (T4 a)) (br (decide (a=(⟨#[115,101,99,114,101,116]⟩:ByteArray))) (br (decide (a=(⟨#[115,101,99,114,101,116]⟩:ByteArray))) (lr D1 nG 1) (T4 a)) (br (decide (a=(⟨#[105,100,101,109,112,111,116,101,110,116]⟩:ByteArray))) (lr D1 nG 1) (T4 a)))
def eg(a:ByteArray):Option (Int):=(nY a).m
theorem yz(a:ByteArray):KC Tryz.prog 132 [vS a] (eg a) D1:=kC Tryz.func132 Tryz.ntmps132 [.tmp 2] fun co m L=>fO co m L
abbrev lb9:ByteArray:=⟨#[109,105,110]⟩
abbrev ZXq:ByteArray:=⟨#[105,100,101,109,112,111,116,101,110,116]⟩
abbrev zP:ByteArray:=⟨#[116,105,109,101,111,117,116]⟩
abbrev ZYT:ByteArray:=⟨#[114,111,117,116,101]⟩
abbrev zz:ByteArray:=⟨#[109,97,120]⟩
abbrev z1:ByteArray:=⟨#[108,101,110,103,116,104]⟩
abbrev ZZD:ByteArray:=⟨#[115,101,99,114,101,116]⟩
abbrev IA:Bool→AV:=fun y=>vB y
def TF(a:Int):PT 0 (Bool):=lr IA nG (decide (a=(1:Int))||decide (a=(5:Int)))
def Pq(b:ByteArray)(a:Int):PT 0 (Bool):=br (decide (b=ZXq)) (br (decide (b=ZXq)) (lr IA nG (decide (a=(6:Int)))) (TF a)) (br (decide (b=zP)) (br (decide (b=zP)) (lr IA nG (decide (a=(6:Int)))) (TF a)) (br (decide (b=ZYT)) (lr IA nG (decide (a=(6:Int)))) (TF a)))
def Ps(a:Int):PT 0 (Bool):=lr IA nG (decide (a=(2:Int)))
def Ua(a:ByteArray)(b:Int):PT 0 (Bool):=br (decide (a=lb9)) (br (decide (a=lb9)) (Ps b) (Pq a b)) (br (decide (a=zz)) (br (decide (a=zz)) (Ps b) (Pq a b)) (br (decide (a=z1)) (br (decide (a=z1)) (Ps b) (Pq a b)) (br (decide (a=ZZD)) (Ps b) (Pq a b))))
def TV(a:Int):PT 0 (Bool):=lr IA nG ((decide (a=(2:Int))||decide (a=(4:Int)))||decide (a=(6:Int)))
def fw(a:ByteArray)(b:Int):PT 0 (Bool):=br (decide (a=(⟨#[97,108,105,97,115]⟩:ByteArray))) (br (decide (a=(⟨#[97,108,105,97,115]⟩:ByteArray))) (TV b) (Ua a b)) (br (decide (a=(⟨#[115,105,110,99,101]⟩:ByteArray))) (br (decide (a=(⟨#[115,105,110,99,101]⟩:ByteArray))) (TV b) (Ua a b)) (br (decide (a=(⟨#[117,110,116,105,108]⟩:ByteArray))) (TV b) (Ua a b)))
def pc(b:ByteArray)(a:Int):PT 0 (Bool):=br (decide (b=(⟨#[100,101,112,114,101,99,97,116,101,100]⟩:ByteArray))) (br (decide (b=(⟨#[100,101,112,114,101,99,97,116,101,100]⟩:ByteArray))) (lr IA nG (decide ((1:Int)≤a)&&decide (a≤(6:Int)))) (fw b a)) (br (decide (b=(⟨#[100,111,99]⟩:ByteArray))) (lr IA nG (decide ((1:Int)≤a)&&decide (a≤(6:Int)))) (fw b a))
def ej(a:ByteArray)(b:Int):Option (Bool):=(pc a b).m
theorem ZVa(a:ByteArray)(b:Int):KC Tryz.prog 133 [vS a,vI b] (ej a b) IA:=kC Tryz.func133 Tryz.ntmps133 [.tmp 4] fun co m L=>fO co m L
abbrev zo:Bool→AV:=fun y=>vB y
def oX(b:Nt):PT 0 (Bool):=wg<|cl (yz b.name) fun a=>wg<|wg<|AE ((!decide (a=(0:Int)))&&decide (b.val.kind=a)) (be a b.val) fun c=>lr zo nG (((!decide (a=(0:Int)))&&decide (b.val.kind=a))&&c)
def dW(a:Nt):Option (Bool):=(oX a).m
theorem ZVY(a:Nt):KC Tryz.prog 134 [.agg ((B7 a).map .d)] (dW a) zo:=kC Tryz.func134 Tryz.ntmps134 [.tmp 2] fun co m L=>fO co m L
abbrev IM:Int→AV:=fun y=>vI y
def oU(a:List Nt)(b:Int):Nat→St:=fun c=>Ac [(0,vL B7 a),(1,vI b),(5,vN c)] []
def pL:Unit→Nat×St:=fun _=>(0,Ac [] [])
def ZzJ(b:List Nt)(e:Int)(a:Nat):PT 0 (Lv (Nat) (Unit) (Int)):=vz (Ai b)<|br (decide ((a:Int)<(b.length:Int))) (ix b a fun f=>cl (yz f.name) fun k=>br (decide (k=(0:Int))) (Ar IM nG 8) (ix b a fun g=>cl (ZVa g.name e) fun l=>br (!l) (Ar IM nG 1) (ix b a fun h=>cl (ZVY h) fun m=>br (!m) (Ar IM nG 12) (AN (decide ((0:Int)<(a:Int))) b (a:Int) fun i=>vg (decide ((0:Int)<(a:Int))) (wi ((a:Int)-1))<|AN (decide ((0:Int)<(a:Int))) b ((a:Int)-1) fun j=>br (decide ((0:Int)<(a:Int))&&BB i.name j.name) (Ar IM nG 11) (AN (decide ((0:Int)<(a:Int))) b (a:Int) fun c=>vg (decide ((0:Int)<(a:Int))) (wi ((a:Int)-1))<|AN (decide ((0:Int)<(a:Int))) b ((a:Int)-1) fun d=>br (decide ((0:Int)<(a:Int))&&decide (c.name=d.name)) (Ar IM nG 9) (vs (wa a 1)<|ln (oU b e) (a+1))))))) (Af (pL) ())
def UY(a:List Nt)(b:Int):Nat→Option (Lv (Nat) (Unit) (Int)):=fun c=>(ZzJ a b c).m
def Zz1:PT 0 (Int):=lr IM nG 0
def nJ(a:List Nt)(b:Int):PT 0 (Int):=lc (Ac [(0,vL B7 a),(1,vI b),(5,vI 0)] []) ((Aj (UY a b) Ag 0).bind (Sum.elim (fun _=>(Zz1).m) some))
def nm(a:List Nt)(b:Int):PT 0 (Int):=vz (Ai a)<|br (decide ((8:Int)<(a.length:Int))) (lr IM nG 3) (lc (Ac [(0,vL B7 a),(1,vI b)] []) ((nJ a b).m))
def eB(a:List Nt)(b:Int):Option (Int):=(nm a b).m
theorem ZyK{C:Cx}(co:CO C 0)(a:List Nt)(b:Int):KL Tryz.prog (As tl) 68 C (pa [0,0,1,0,1,1] (At Tryz.f103)) [.tmp 4] 0 (oU a b) (pL) IM nG (UY a b):=fun d _ m Q Post c L=>eN co (AD [0,1,5]) nl c m L
theorem ZUE(a:List Nt)(b:Int):KC Tryz.prog 103 [vL B7 a,vI b] (eB a b) IM:=kC Tryz.func103 Tryz.ntmps103 [.tmp 4] fun co m L=>mJ co 2 (AD [0,1]) nl nH m L fun r g=>⟨id,fun _ m L=>sq (mJ co 1 (AD [0,1,5]) nl nH m L fun r g=>fun _ m L=>bk 0 (lo (Ax (ZyK co a b) nH m L (fun _ m=>fO co m L))))⟩
abbrev ki:List Prb→AV:=fun y=>.tup []
@[reducible] def kx(a:ByteArray):List Prb→List Blk:=fun y=>[⟨0,true,75,2,[vS a,.ref (0,1) 0 0 y.length]⟩,⟨0,true,114,3,Ab Ak y⟩]
def aB(a:ByteArray)(b:List Prb):PT 2 (List Prb):=lr ki (kx a) b
def uk(a:ByteArray)(b:List Prb):PT 2 (List Prb):=vz (fl b)<|lc (Ac [] [((0,0),⟨0,true,75,2,[vS a,.ref (0,1) 0 0 b.length]⟩),((0,1),⟨0,true,114,3,Ab Ak b⟩)]) ((aB a b).m)
def xN(a:ByteArray)(b:List Prb)(d:Int)(c:Int):PT 2 (List Prb):=vz (fl b)<|lc (Ac [(12,.ptr (0,0) 0 0),(14,vB (!decide (c=(0:Int)))),(15,vI d),(16,vI c)] [((0,0),⟨0,true,75,2,[vS a,.ref (0,1) 0 0 b.length]⟩),((0,1),⟨0,true,114,3,Ab Ak b⟩)]) ((Bv a b (!decide (c=(0:Int))) d c).bind fun e=>(uk a e).m)
def qF(a:ByteArray)(b:List Prb)(e:List Nt)(f:Int)(c:Int):PT 2 (List Prb):=cl (ZUE e f) fun d=>vz (fl b)<|lc (Ac [(0,.ptr (0,0) 0 0),(3,vI c),(8,vI d)] [((0,0),⟨0,true,75,2,[vS a,.ref (0,1) 0 0 b.length]⟩),((0,1),⟨0,true,114,3,Ab Ak b⟩)]) ((xN a b c d).m)
def HX(a:ByteArray)(b:List Prb)(c:List Nt)(d:Int)(e:Int):Option (List Prb):=(qF a b c d e).m
theorem Ml(a:ByteArray)(b:List Prb)(d:List Nt)(e:Int)(c:Int):KG Tryz.prog 68 2 [1] [(1,0)] [.ptr (0,0) 0 0,vL B7 d,vI e,vI c] [⟨0,true,75,2,[vS a,.ref (0,1) 0 0 b.length]⟩,⟨0,true,114,3,Ab Ak b⟩] (HX a b d e c) ki (kx a):=jM Tryz.func68 Tryz.ntmps68 AS [] 2 [1] [0] [(1,0)] (fun C co h y m Post L=>mJ co 1 (Aa [0,3,8] Fx) nl nH m L fun r g=>fun f=>fun _ m L=>rg (pR co 5 (Aa [12,14,15,16] Fx) m L fun r g=>fun _ m L=>Bm co m (BL a b (!decide (f=(0:Int))) c f) [((0,0),⟨0,true,75,2,[vS a,.ref (0,1) 0 0 b.length]⟩),((0,1),⟨0,true,114,3,Ab Ak b⟩)] [] (fun z=>.tup []) (fun z=>[((0,0),⟨0,true,75,2,[vS a,.ref (0,1) 0 0 z.length]⟩),((0,1),⟨0,true,114,3,Ab Ak z⟩)]) [] fun i m=>eR co (Aa [] Fx) m L fun r g=>fun _ m L=>BX (aB a i) co m L (fun r g=>id) r g))
end Go.Proofs.YtbcmdieedjamgaaGreat
