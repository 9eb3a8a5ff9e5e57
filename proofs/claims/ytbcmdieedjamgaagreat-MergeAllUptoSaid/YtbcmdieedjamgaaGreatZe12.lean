import Derived.Test.YtbcmdieedjamgaaGreatZe11
import Derived.Test.YtbcmdieedjamgaaGreatZe00
namespace Go.Proofs.YtbcmdieedjamgaaGreat
set_option maxRecDepth 100000
set_option linter.all false
open Go Go.Eng
section
variable {n os:Nat} {C:Cx} {τ:St} {Q:Exit→St→Prop} {p:List Nat} {b c:Code} {β:Type} {Post:AV→List Blk→Prop} {rs:List ResultVar} {L:β→Prop} {y:β}
theorem mJ{fx:List Nat}(co:COx C os fx)(m:Nat){v:PT os β}(lf a:Lf)(d:∀τ,FQ (Ar tl) rs os Post .ret τ→Q .ret τ)(i:v.m=some y)(c:HL L y)
 (f:∀r (g:Gd C r),v.n ⟨⟨C.l,r,fun e τ'=>match e with|.normal=>LW Tryz.prog n C (pa (up m p) b) τ' Q|e=>Q e τ',Post⟩,L,C,_,co,g,rfl⟩)
 (h:∀l r Q Post,OM Tryz.prog (Ar tl) l n os r m (pa p b) v.a τ (KB (Ar tl) rs os fx r Post lf a Q)=v.q ⟨l,r,Q,Post⟩:=by intro l r Q P;kernel_rfl) (hl:QN m (pa p b)=true:=by kernel_rfl):LW Tryz.prog n C (pa p b) τ Q:=yk co AU BN m v lf a d i c f h hl
theorem eN{fx:List Nat}(co:COx C os fx){v:PT os β}(lf a:Lf)(e:∀τ,FQ (Ar tl) rs os Post .ret τ→Q .ret τ)(h:v.m=some y)(d:HL L y)
 (f:∀r (g:Gd C r),v.n ⟨⟨C.l,r,Q,Post⟩,L,C,_,co,g,rfl⟩:=by
  intro r g
  repeat' (first|exact id|exact trivial|refine⟨?_,?_⟩|intro _|(rename_i b h;subst h;cases b<;>rfl))) (i:∀l r Q Post,Cw Tryz.prog (Ar tl) l n os r c v.a τ (KB (Ar tl) rs os fx r Post lf a Q)=v.q ⟨l,r,Q,Post⟩:=by intro l r Q P;kernel_rfl):LW Tryz.prog n C c τ Q:=wZ co AU BN v lf a e h d f i
theorem fO {fx:List Nat} (co:COx C os fx) {v:PT os β} (h:v.m=some y) (a:HL L y) (d:∀r (g:Gd C r),v.n ⟨⟨C.l,r,fun _ _=>False,Post⟩,L,C,_,co,g,rfl⟩:=by
  intro r g
  repeat' (first|exact id|exact trivial|refine⟨?_,?_⟩|intro _|(rename_i b h;subst h;cases b<;>rfl)))
 (e:∀l r Q Post,Cw Tryz.prog (Ar tl) l n os r c v.a τ (KF (Ar tl) rs os Post)=v.q ⟨l,r,Q,Post⟩:=by intro l r Q P;kernel_rfl):LW Tryz.prog n C c τ (FQ (Ar tl) rs os Post):=ZXc co AU BN v h a d e
theorem pR{k:Nat}{fx:List Nat}(co:COx C os fx)(m:Nat){v:PT os β}(lf:Lf)(h:v.m=some y)(d:HL L y)(e:∀r (g:Gd C r),v.n ⟨⟨C.l,r,fun _ τ'=>LO Tryz.prog n C c (k+m) τ' Q,fun _ _=>False⟩,L,C,_,co,g,rfl⟩)
 (f:∀l r Q Post,A7 r os v.a τ (fun τ a=>FZ Tryz.prog (Ar tl) l n r ((BZ c).toList.map (·.dst)) (H7 m (Hi k (BZ c).toList)) [] a (fun τ' env b=>A7 r os b (DG env τ') (fun τ _=>Eb fx lf τ (Q .normal))) τ)=v.q ⟨l,r,Q,Post⟩:=by intro l r Q P;kernel_rfl):LO Tryz.prog n C c k τ Q:=ZXl co AU m v lf h d e f
theorem eR {k:Nat} {fx:List Nat} (co:COx C os fx) {v:PT os β} (lf:Lf) (j:v.m=some y) (e:HL L y) (f:∀r (g:Gd C r),v.n ⟨⟨C.l,r,Q,fun _ _=>False⟩,L,C,_,co,g,rfl⟩:=by
  intro r g
  repeat' (first|exact id|exact trivial|refine⟨?_,?_⟩|intro _|(rename_i b h;subst h;cases b<;>rfl)))
 (i:∀l r Q Post,A7 r os v.a τ (fun τ a=>FZ Tryz.prog (Ar tl) l n r ((BZ c).toList.map (·.dst)) (Hi k (BZ c).toList) [] a (fun τ' env d=>A7 r os d (DG env τ') (fun τ _=>Eb fx lf τ (Q .normal))) τ)=v.q ⟨l,r,Q,Post⟩:=by intro l r Q P;kernel_rfl):LO Tryz.prog n C c k τ Q:=ZWW co AU v lf j e f i
theorem cM{fx:List Nat}(co:COx C os fx){v:PT os β}(lf:Lf)(e:v.m=some y)(a:HL L y)(b:∀r (g:Gd C r),v.n ⟨⟨C.l,r,fun _ τ'=>LW Tryz.prog n C c τ' Q,fun _ _=>False⟩,L,C,_,co,g,rfl⟩)
 (d:∀l r Q Post,A7 r os v.a τ (fun τ _=>Eb fx lf τ (Q .normal))=v.q ⟨l,r,Q,Post⟩:=by intro l r Q P;kernel_rfl):LW Tryz.prog n C c τ Q:=ZWB co v lf e a b d
theorem kC{f:FuncId}{fn:Func}{xs:List AV}{γ:Type}{M:Option γ}{e:γ→AV}(c:Tryz.prog.funcs[f]?=some fn)(d:fn.ntmps=n)(rs:List ResultVar)
  (h:∀{C:Cx} {y:γ} {Post:AV→List Blk→Prop},CO C 0→M=some y→HL (fun y=>Post (e y) []) y→LW Tryz.prog n C (pa [] (As fn)) (Ac (DI 0 xs) []) (FQ (Ar tl) rs 0 Post))
  (hx:∀r,Ao r xs=xs:=by intro r;kernel_rfl) (he:∀r y,ren r (e y)=e y:=by intro r y;kernel_rfl)
  (b:fn.body=some (As fn):=by kernel_rfl) (a:(fn.name== "runtime.NumGoroutine")=false:=by kernel_rfl) (g:fn.results.toList=rs:=by kernel_rfl) (hl:Nat.ble xs.length n=true:=by kernel_rfl):KC Tryz.prog f xs M e:=DM c d AU rs (fun C co y m Post L=>h co m L) hx he b a g hl
theorem kO{f:FuncId}{fn:Func}{ys:List AV}{c:List Blk}{Θ:Cl}{γ:Type}{M:Option γ}{e:γ→AV}{b:γ→List Blk}(k:Tryz.prog.funcs[f]?=some fn)(l:fn.ntmps=n)(rs:List ResultVar)(os:Nat)
  (h:∀{C:Cx} {y:γ} {Post:AV→List Blk→Prop},CO C os→Θ C.no C.l C.H0 C.θ→M=some y→HL (fun y=>Post (e y) (b y)) y→LW Tryz.prog n C (pa [] (As fn)) (Ac (DI 0 ys) (Dp 0 c)) (FQ (Ar tl) rs os Post))
  (he:∀y,JZ os (e y)=true:=by intro y;kernel_rfl) (g:∀y,F1 os (b y):=by intro y;repeat(first|exact trivial|refine⟨.inl (EZ _ _),rfl,?_⟩|refine⟨.inl JH,rfl,?_⟩|refine⟨.inr (by kernel_rfl),rfl,?_⟩)) (hl:∀y,(b y).length=os:=by intro y;rfl) (d:Iu os (Dp 0 c)=true:=by kernel_rfl)
  (j:fn.body=some (As fn):=by kernel_rfl) (a:(fn.name== "runtime.NumGoroutine")=false:=by kernel_rfl) (o:fn.results.toList=rs:=by kernel_rfl) (hx:Nat.ble ys.length n=true:=by kernel_rfl):KO Tryz.prog f os ys c Θ M e b:=EQ k l AU rs os (fun C co i y m Post L=>h co i m L) he g hl d j a o hx
theorem Bg{P:Program}{x:Bool}{a m2:Option β}(hm:(if x=true then a else m2)=some y)(c:a=some y→LW P n C (pa (0::p) b) τ Q)(d:m2=some y→LW P n C (pa (1::p) b) τ Q)(hs:sv (pa p b)=true:=by kernel_rfl)(he:ev τ.s (kJ (pa p b))=.d (.bool x):=by kernel_rfl):LW P n C (pa p b) τ Q:=cd x hm c d hs he
end
theorem bz{r b:Ren}{k k':Ad}{g a:Nat}{e:TypeId}{sz:Nat}{α:Type}{en:α→List D}{xs:List α}(h:r.γ k+g=b.γ k'+a:=by kernel_rfl):AL r k ⟨g,true,e,sz,Aa en xs⟩=AL b k' ⟨a,true,e,sz,Aa en xs⟩:=Gu (EZ _ _) h
class Tid (α:Type) where
 t:Nat
instance:Tid Slt:=⟨58⟩
instance:Tid Raw:=⟨65⟩
instance:Tid Pr:=⟨63⟩
abbrev JY:List (Ad×Bool):=[((1,2),false),((1,5),true)]
abbrev EP:List (Ad×Bool):=[((1,2),false)]
abbrev Dr(a:Scm):Ad×Blk:=kk 2 26 3 (cD (Al a))
abbrev NG:List ByteArray→AV:=fun y=>vL Bn y
def tG(b:Scm)(c:Int):List ByteArray×Nat→St:=fun(a,v2)=>Ac [(1,vI c),pp 2,(5,.ref (1,5) 0 0 a.length),(6,vN v2)] [(Dr b),kk 5 9 1 (Aa Bn a)]
def pL(b:Scm)(c:Int):List ByteArray→Nat×St:=fun a=>(0,Ac [(1,vI c),pp 2,(5,.ref (1,5) 0 0 a.length)] [(Dr b),kk 5 9 1 (Aa Bn a)])
def si(a:Scm)(c:Int)(b:List ByteArray)(v2:Nat):PT 0 (Lv (List ByteArray×Nat) (List ByteArray) (List ByteArray)):=wg<|vy (decide (c=(1:Int))) (Aj a.messages)<|br (decide (c=(1:Int))&&decide ((v2:Int)<(a.messages.length:Int))) (wg<|ix a.messages v2 fun d=>vw .sep<|ap b (d.name:ByteArray)<|vs (wa v2 1)<|vz (fl (b++[d.name]))<|ln (tG a c) (b++[d.name],v2+1)) (vz (fl b)<|Af (pL a c) b)
def Vk(a:Scm)(b:Int):List ByteArray×Nat→Option (Lv (List ByteArray×Nat) (List ByteArray) (List ByteArray)):=fun(c,v2)=>(si a b c v2).m
def rP(b:Scm)(c:Int):List ByteArray×Nat→St:=fun(a,d)=>Ac [(1,vI c),pp 2,(5,.ref (1,5) 0 0 a.length),(7,vN d)] [(Dr b),kk 5 9 1 (Aa Bn a)]
def oF(b:Scm)(c:Int):List ByteArray→Nat×St:=fun a=>(2,Ac [(1,vI c),pp 2,(5,.ref (1,5) 0 0 a.length)] [(Dr b),kk 5 9 1 (Aa Bn a)])
def s9(a:Scm)(c:Int)(b:List ByteArray)(d:Nat):PT 0 (Lv (List ByteArray×Nat) (List ByteArray) (List ByteArray)):=wg<|vy (decide (c=(2:Int))) (Aj a.enums)<|br (decide (c=(2:Int))&&decide ((d:Int)<(a.enums.length:Int))) (wg<|ix a.enums d fun e=>vw .sep<|ap b (e.name:ByteArray)<|vs (wa d 1)<|vz (fl (b++[e.name]))<|ln (rP a c) (b++[e.name],d+1)) (vz (fl b)<|Af (oF a c) b)
def Wt(a:Scm)(b:Int):List ByteArray×Nat→Option (Lv (List ByteArray×Nat) (List ByteArray) (List ByteArray)):=fun(c,d)=>(s9 a b c d).m
def vZ(c:Scm)(d:Int):List ByteArray×Nat→St:=fun(b,a)=>Ac [(1,vI d),pp 2,(5,.ref (1,5) 0 0 b.length),(8,vN a)] [(Dr c),kk 5 9 1 (Aa Bn b)]
def qg:List ByteArray→Nat×St:=fun a=>(4,Ac [(5,.ref (1,5) 0 0 a.length)] [kk 5 9 1 (Aa Bn a)])
def pE(d:Scm)(e:Int)(c:List ByteArray)(a:Nat):PT 0 (Lv (List ByteArray×Nat) (List ByteArray) (List ByteArray)):=wg<|vy (decide (e=(3:Int))) (Aj d.services)<|br (decide (e=(3:Int))&&decide ((a:Int)<(d.services.length:Int))) (wg<|ix d.services a fun b=>vw .sep<|ap c (b.name:ByteArray)<|vs (wa a 1)<|vz (fl (c++[b.name]))<|ln (vZ d e) (c++[b.name],a+1)) (vz (fl c)<|Af (qg) c)
def VA(b:Scm)(c:Int):List ByteArray×Nat→Option (Lv (List ByteArray×Nat) (List ByteArray) (List ByteArray)):=fun(d,a)=>(pE b c d a).m
def uB(a:List ByteArray):PT 0 (List ByteArray):=vz (fr a)<|lr NG nG a
def og(c:Scm)(d:Int)(a:List ByteArray):PT 0 (List ByteArray):=vz (fl a)<|lc (Ac [(1,vI d),pp 2,(5,.ref (1,5) 0 0 a.length),(8,vI 0)] [(Dr c),kk 5 9 1 (Aa Bn a)]) ((Ai (VA c d) Ah (a,0)).bind (Sum.elim (fun b=>(uB b).m) some))
def rX(b:Scm)(c:Int)(a:List ByteArray):PT 0 (List ByteArray):=vz (fl a)<|lc (Ac [(1,vI c),pp 2,(5,.ref (1,5) 0 0 a.length),(7,vI 0)] [(Dr b),kk 5 9 1 (Aa Bn a)]) ((Ai (Wt b c) Ah (a,0)).bind (Sum.elim (fun d=>(og b c d).m) some))
def wd(a:Scm)(b:Int):PT 0 (List ByteArray):=vw (.ads 5 5 9 1)<|vz (fl ([]:List ByteArray))<|lc (Ac [(1,vI b),pp 2,(5,.ref (1,5) 0 0 ([]:List ByteArray).length),(6,vI 0)] [(Dr a),kk 5 9 1 (Aa Bn ([]:List ByteArray))]) ((Ai (Vk a b) Ah (([]:List ByteArray),0)).bind (Sum.elim (fun c=>(rX a b c).m) some))
def wx(a:Scm)(b:Int):PT 0 (List ByteArray):=lc (Ac [(1,vI b),pp 2,(5,.e0),(6,vI 0)] [(Dr a)]) ((wd a b).m)
def ve(a:Scm)(b:Int):PT 0 (List ByteArray):=lc (Ac [(1,vI b),pp 2,(5,.e0)] [(Dr a)]) ((wx a b).m)
def db(a:Scm)(b:Int):Option (List ByteArray):=(ve a b).m
theorem ZGz{C:Cx}(co:CO C 0)(a:Scm)(b:Int):KL Tryz.prog (Ar tl) 70 C (pa [0,0,1,0,1,1] (As Tryz.f28)) [.tmp 4] 0 (tG a b) (pL a b) NG nG (Vk a b):=fun(d,v2) _ m Q Post c L=>eN co (Ab [1,2,5,6] JY) (Ab [1,2,5] JY) c m L
theorem ZGG{C:Cx}(co:CO C 0)(a:Scm)(b:Int):KL Tryz.prog (Ar tl) 70 C (pa [0,0,1,0,1,1,1] (As Tryz.f28)) [.tmp 4] 0 (rP a b) (oF a b) NG nG (Wt a b):=fun(d,e) _ m Q Post c L=>eN co (Ab [1,2,5,7] JY) (Ab [1,2,5] JY) c m L
theorem ZGC{C:Cx}(co:CO C 0)(a:Scm)(b:Int):KL Tryz.prog (Ar tl) 70 C (pa [0,0,1,0,1,1,1,1] (As Tryz.f28)) [.tmp 4] 0 (vZ a b) (qg) NG nG (VA a b):=fun(e,d) _ m Q Post c L=>eN co (Ab [1,2,5,8] JY) (Ab [5] [((1,5),true)]) c m L
theorem Sj(a:Scm)(b:Int):KC Tryz.prog 28 [.agg ((Al a).map .d),vI b] (db a b) NG:=kC Tryz.func28 Tryz.ntmps28 [.tmp 4] fun co m L=>mJ co 2 (Ab [1,2,5] EP) nl nH m L fun r g=>fun _ m L=>sq (mJ co 1 (Ab [1,2,5,6] EP) nl nH m L fun r g=>fun _ m L=>bk 0 (cM co (Ab [1,2,5,6] JY) m L fun r g=>fun _ m L=>lo (Ay (ZGz co a b) nH m L (fun d m=>sq (mJ co 1 (Ab [1,2,5,7] JY) nl nH m L fun r g=>fun _ m L=>bk 2 (lo (Ay (ZGG co a b) nH m L (fun e m=>sq (mJ co 1 (Ab [1,2,5,8] JY) nl nH m L fun r g=>fun _ m L=>bk 4 (lo (Ay (ZGC co a b) nH m L (fun c m=>fO co m L))))))))))))
abbrev Fq:List (Ad×Bool):=[((0,0),false),((0,1),true)]
abbrev WL:List Prb→AV:=fun y=>.tup []
@[reducible] def WT(a:ByteArray):List Prb→List Blk:=fun y=>[⟨0,true,75,2,[vS a,.ref (0,1) 0 0 y.length]⟩,⟨0,true,114,3,Aa Ak y⟩]
def ZZ(a:ByteArray)(b:List Prb)(c:Int)(d:Int):PT 2 (List Prb):=lr WL (WT a) (b++([(.mk a c d:Prb)]))
def Xv(a:ByteArray)(b:List Prb)(c:Int)(d:Int):PT 2 (List Prb):=wg<|wg<|vw .sep<|ap b ((.mk a c d:Prb):Prb)<|BO 1 (Aa Ak [(.mk a c d:Prb)]) (fun _=>Zx7 _)<|wg<|vwl 0 [.ref (0,1) 1 0 (b++([(.mk a c d:Prb)])).length]<|vz (fl (b++([(.mk a c d:Prb)])))<|lc (Ac [] [((0,0),⟨0,true,75,2,[vS a,.ref (0,1) 0 0 (b++([(.mk a c d:Prb)])).length]⟩),((0,1),⟨0,true,114,3,Aa Ak (b++([(.mk a c d:Prb)]))⟩)]) ((ZZ a b c d).m)
def qX(a:ByteArray)(b:List Prb):PT 2 (List Prb):=lr WL (WT a) b
def tj(a:ByteArray)(b:List Prb)(c:Bool)(d:Int)(e:Int):PT 2 (List Prb):=vz (fl b)<|lc (Ac [(0,.ptr (0,0) 0 0),(2,vI d),(3,vI e),(8,vB c)] [((0,0),⟨0,true,75,2,[vS a,.ref (0,1) 0 0 b.length]⟩),((0,1),⟨0,true,114,3,Aa Ak b⟩)]) (if c=true then(Xv a b d e).m else(qX a b).m)
def Bv(a:ByteArray)(b:List Prb)(c:Bool)(d:Int)(e:Int):Option (List Prb):=(tj a b c d e).m
theorem BL(a:ByteArray)(b:List Prb)(f:Bool)(c:Int)(d:Int):KG Tryz.prog 29 2 [1] [(1,0)] [.ptr (0,0) 0 0,vB f,vI c,vI d] [⟨0,true,75,2,[vS a,.ref (0,1) 0 0 b.length]⟩,⟨0,true,114,3,Aa Ak b⟩] (Bv a b f c d) WL (WT a):=iH Tryz.func29 Tryz.ntmps29 AU [] 2 [1] [0] [(1,0)] (fun C co e y m Post L=>mJ co 1 (Ab [0,2,3,8] Fq) nl nH m L fun r g=>fun _ m L=>Bg m (fun m=>F5 co AU BN (.fst 0 (.fst 1 (.fst 2 (.fst 3 (.fst 5 (.fst 6 (.fst 7 (.fst 9 (.fst 10 (.fst 4 (.fst 8 (.fst 11 (.fst 12 (.fst 13 (.fst 14 (.fst 15 (.fst 16 .nil))))))))))))))))) [] (Xv a b c d) (Ab [] Fq) m L fun r g=>⟨ZJG g e,fun _ m L=>BW (ZZ a b c d) co m L (fun r g=>id) r g⟩) (fun m=>fO co m L))
abbrev QS:Bool→AV:=fun y=>vB y
def uw(a:List ByteArray):Nat→St:=fun b=>Ac [(0,vL Bn a),(3,vN b)] []
def qm:Unit→Nat×St:=fun _=>(0,Ac [] [])
def uC(b:List ByteArray)(a:Nat):PT 0 (Lv (Nat) (Unit) (Bool)):=vz (Aj b)<|br (decide ((a:Int)<(b.length:Int))) (ix b a fun c=>vs (wi ((a:Int)-1))<|Cj b ((a:Int)-1) fun d=>br (BB c d||decide (c=d)) (At QS nG false) (vs (wa a 1)<|ln (uw b) (a+1))) (Af (qm) ())
def Wj(a:List ByteArray):Nat→Option (Lv (Nat) (Unit) (Bool)):=fun b=>(uC a b).m
def sF:PT 0 (Bool):=lr QS nG true
def tZ(a:List ByteArray):PT 0 (Bool):=lc (Ac [(0,vL Bn a),(3,vI 1)] []) ((Ai (Wj a) Ah 1).bind (Sum.elim (fun _=>(sF).m) some))
def vj(a:List ByteArray):PT 0 (Bool):=lc (Ac [(0,vL Bn a)] []) ((tZ a).m)
def b0(a:List ByteArray):Option (Bool):=(vj a).m
theorem ZFo{C:Cx}(co:CO C 0)(a:List ByteArray):KL Tryz.prog (Ar tl) 20 C (pa [0,0,1,0,1] (As Tryz.f30)) [.tmp 2] 0 (uw a) (qm) QS nG (Wj a):=fun c _ m Q Post b L=>eN co (AD [0,3]) nl b m L
theorem ZXq(a:List ByteArray):KC Tryz.prog 30 [vL Bn a] (b0 a) QS:=kC Tryz.func30 Tryz.ntmps30 [.tmp 2] fun co m L=>mJ co 1 (AD [0]) nl nH m L fun r g=>fun _ m L=>sq (mJ co 1 (AD [0,3]) nl nH m L fun r g=>fun _ m L=>bk 0 (lo (Ay (ZFo co a) nH m L (fun _ m=>fO co m L))))
abbrev Q3:Bool→AV:=fun y=>vB y
def rO(a:List ByteArray)(b:ByteArray):Nat→St:=fun c=>Ac [(0,vL Bn a),(1,vS b),(5,vN c)] []
def sY:Unit→Nat×St:=fun _=>(0,Ac [] [])
def Xx(a:List ByteArray)(c:ByteArray)(b:Nat):PT 0 (Lv (Nat) (Unit) (Bool)):=vz (Aj a)<|br (decide ((b:Int)<(a.length:Int))) (ix a b fun d=>br (decide (d=c)) (At Q3 nG true) (vs (wa b 1)<|ln (rO a c) (b+1))) (Af (sY) ())
def Na(a:List ByteArray)(b:ByteArray):Nat→Option (Lv (Nat) (Unit) (Bool)):=fun c=>(Xx a b c).m
def Z9:PT 0 (Bool):=lr Q3 nG false
def XC(a:List ByteArray)(b:ByteArray):PT 0 (Bool):=lc (Ac [(0,vL Bn a),(1,vS b),(5,vI 0)] []) ((Ai (Na a b) Ah 0).bind (Sum.elim (fun _=>(Z9).m) some))
def ZX(a:List ByteArray)(b:ByteArray):PT 0 (Bool):=lc (Ac [(0,vL Bn a),(1,vS b)] []) ((XC a b).m)
def O5(a:List ByteArray)(b:ByteArray):Option (Bool):=(ZX a b).m
theorem ZHm{C:Cx}(co:CO C 0)(a:List ByteArray)(b:ByteArray):KL Tryz.prog (Ar tl) 18 C (pa [0,0,1,0,1] (As Tryz.f59)) [.tmp 4] 0 (rO a b) (sY) Q3 nG (Na a b):=fun d _ m Q Post c L=>eN co (AD [0,1,5]) nl c m L
theorem wJ(a:List ByteArray)(b:ByteArray):KC Tryz.prog 59 [vL Bn a,vS b] (O5 a b) Q3:=kC Tryz.func59 Tryz.ntmps59 [.tmp 4] fun co m L=>mJ co 1 (AD [0,1]) nl nH m L fun r g=>fun _ m L=>sq (mJ co 1 (AD [0,1,5]) nl nH m L fun r g=>fun _ m L=>bk 0 (lo (Ay (ZHm co a b) nH m L (fun _ m=>fO co m L))))
abbrev QT:Bool→AV:=fun y=>vB y
def pI(a:List ByteArray)(b:List ByteArray):Nat→St:=fun c=>Ac [(0,vL Bn a),(1,vL Bn b),(5,vN c)] []
def rp:Unit→Nat×St:=fun _=>(0,Ac [] [])
def uY(a:List ByteArray)(c:List ByteArray)(b:Nat):PT 0 (Lv (Nat) (Unit) (Bool)):=vz (Aj a)<|br (decide ((b:Int)<(a.length:Int))) (ix a b fun d=>cl (wJ c d) fun e=>br e (At QT nG true) (vs (wa b 1)<|ln (pI a c) (b+1))) (Af (rp) ())
def VS(a:List ByteArray)(b:List ByteArray):Nat→Option (Lv (Nat) (Unit) (Bool)):=fun c=>(uY a b c).m
def s3:PT 0 (Bool):=lr QT nG false
def sN(a:List ByteArray)(b:List ByteArray):PT 0 (Bool):=lc (Ac [(0,vL Bn a),(1,vL Bn b),(5,vI 0)] []) ((Ai (VS a b) Ah 0).bind (Sum.elim (fun _=>(s3).m) some))
def p4(a:List ByteArray)(b:List ByteArray):PT 0 (Bool):=lc (Ac [(0,vL Bn a),(1,vL Bn b)] []) ((sN a b).m)
def cK(a:List ByteArray)(b:List ByteArray):Option (Bool):=(p4 a b).m
theorem ZGx{C:Cx}(co:CO C 0)(a:List ByteArray)(b:List ByteArray):KL Tryz.prog (Ar tl) 18 C (pa [0,0,1,0,1] (As Tryz.f31)) [.tmp 4] 0 (pI a b) (rp) QT nG (VS a b):=fun d _ m Q Post c L=>eN co (AD [0,1,5]) nl c m L
theorem bH(a:List ByteArray)(b:List ByteArray):KC Tryz.prog 31 [vL Bn a,vL Bn b] (cK a b) QT:=kC Tryz.func31 Tryz.ntmps31 [.tmp 4] fun co m L=>mJ co 1 (AD [0,1]) nl nH m L fun r g=>fun _ m L=>sq (mJ co 1 (AD [0,1,5]) nl nH m L fun r g=>fun _ m L=>bk 0 (lo (Ay (ZGx co a b) nH m L (fun _ m=>fO co m L))))
abbrev Au(a:Scm):Ad×Blk:=kk 2 26 3 (cD (Al a))
abbrev Q7:Int→AV:=fun y=>vI y
def qd(a:Scm)(b:ByteArray):Nat→St:=fun c=>Ac [(1,vS b),pp 2,(5,vN c)] [(Au a)]
def pP:Unit→Nat×St:=fun _=>(0,Ac [] [])
def sX(b:Scm)(c:ByteArray)(a:Nat):PT 0 (Lv (Nat) (Unit) (Int)):=wg<|vz (Aj b.messages)<|br (decide ((a:Int)<(b.messages.length:Int))) (wg<|ix b.messages a fun d=>br (decide (d.name=c)) (At Q7 nG (a:Int)) (vs (wa a 1)<|ln (qd b c) (a+1))) (Af (pP) ())
def Wp(a:Scm)(b:ByteArray):Nat→Option (Lv (Nat) (Unit) (Int)):=fun c=>(sX a b c).m
def qY:PT 0 (Int):=lr Q7 nG (-1)
def sn(a:Scm)(b:ByteArray):PT 0 (Int):=lc (Ac [(1,vS b),pp 2,(5,vI 0)] [(Au a)]) ((Ai (Wp a b) Ah 0).bind (Sum.elim (fun _=>(qY).m) some))
def tX(a:Scm)(b:ByteArray):PT 0 (Int):=lc (Ac [(1,vS b),pp 2] [(Au a)]) ((sn a b).m)
def ci(a:Scm)(b:ByteArray):Option (Int):=(tX a b).m
theorem ZFY{C:Cx}(co:CO C 0)(a:Scm)(b:ByteArray):KL Tryz.prog (Ar tl) 22 C (pa [0,0,1,0,1] (As Tryz.f71)) [.tmp 4] 0 (qd a b) (pP) Q7 nG (Wp a b):=fun d _ m Q Post c L=>eN co (Ab [1,2,5] EP) nl c m L
theorem Of(a:Scm)(b:ByteArray):KC Tryz.prog 71 [.agg ((Al a).map .d),vS b] (ci a b) Q7:=kC Tryz.func71 Tryz.ntmps71 [.tmp 4] fun co m L=>mJ co 1 (Ab [1,2] EP) nl nH m L fun r g=>fun _ m L=>sq (mJ co 1 (Ab [1,2,5] EP) nl nH m L fun r g=>fun _ m L=>bk 0 (lo (Ay (ZFY co a b) nH m L (fun _ m=>fO co m L))))
abbrev iB(a:Scm):Ad×Blk:=kk 3 26 3 (cD (Al a))
abbrev iC(a:Msg):Ad×Blk:=kk 4 56 5 (cD (AK a))
abbrev Q4:Bool→AV:=fun y=>vB y
def Zf(a:Scm)(b:Msg)(c:List Bool):Nat→St:=fun d=>Ac [(2,vL AN c),pp 3,pp 4,(7,vN d)] [(iB a),(iC b)]
def th:Unit→Nat×St:=fun _=>(0,Ac [] [])
def ou(d:Scm)(b:Msg)(e:List Bool)(a:Nat):PT 0 (Lv (Nat) (Unit) (Bool)):=wg<|vz (Aj b.fields)<|br (decide ((a:Int)<(b.fields.length:Int))) (wg<|ix b.fields a fun c=>wg<|wg<|wg<|br ((!decide (c.card=(1:Int)))||(!decide (c.type.kind=(10:Int)))) (vs (wa a 1)<|ln (Zf d b e) (a+1)) (wg<|wg<|cl (Of d c.type.name) fun f=>AR (decide ((0:Int)≤f)) e f fun g=>br (decide ((0:Int)≤f)&&(!g)) (At Q4 nG true) (vs (wa a 1)<|ln (Zf d b e) (a+1)))) (Af (th) ())
def VB(a:Scm)(b:Msg)(c:List Bool):Nat→Option (Lv (Nat) (Unit) (Bool)):=fun d=>(ou a b c d).m
def ra:PT 0 (Bool):=lr Q4 nG false
def sV(a:Scm)(b:Msg)(c:List Bool):PT 0 (Bool):=lc (Ac [(2,vL AN c),pp 3,pp 4,(7,vI 0)] [(iB a),(iC b)]) ((Ai (VB a b c) Ah 0).bind (Sum.elim (fun _=>(ra).m) some))
def uh(a:Scm)(b:Msg)(c:List Bool):PT 0 (Bool):=lc (Ac [(2,vL AN c),pp 3,pp 4] [(iB a),(iC b)]) ((sV a b c).m)
def cZ(a:Scm)(b:Msg)(c:List Bool):Option (Bool):=(uh a b c).m
theorem ZEK{C:Cx}(co:CO C 0)(a:Scm)(b:Msg)(c:List Bool):KL Tryz.prog (Ar tl) 45 C (pa [0,0,1,0,1] (As Tryz.f60)) [.tmp 6] 0 (Zf a b c) (th) Q4 nG (VB a b c):=fun e _ m Q Post d L=>eN co (Ab [2,3,4,7] [((1,3),false),((1,4),false)]) nl d m L
theorem ZXi(a:Scm)(b:Msg)(c:List Bool):KC Tryz.prog 60 [.agg ((Al a).map .d),.agg ((AK b).map .d),vL AN c] (cZ a b c) Q4:=kC Tryz.func60 Tryz.ntmps60 [.tmp 6] fun co m L=>mJ co 1 (Ab [2,3,4] [((1,3),false),((1,4),false)]) nl nH m L fun r g=>fun _ m L=>sq (mJ co 1 (Ab [2,3,4,7] [((1,3),false),((1,4),false)]) nl nH m L fun r g=>fun _ m L=>bk 0 (lo (Ay (ZEK co a b c) nH m L (fun _ m=>fO co m L))))
abbrev iG:List (Ad×Bool):=[((0,0),true),((1,3),false),((1,4),false)]
abbrev Ag:List (Ad×Bool):=[((0,0),true)]
abbrev iD(a:Scm):Ad×Blk:=kk 3 26 3 (cD (Al a))
abbrev iE(a:Msg):Ad×Blk:=kk 4 56 5 (cD (AK a))
abbrev V1:Bool→AV:=fun y=>vB y
@[reducible] def VF(a:List Bool):Bool→List Blk:=fun y=>[⟨0,true,4,1,Aa AN a⟩]
def eK(b:Scm)(c:Msg)(a:List Bool):Nat→St:=fun d=>Ac [(2,.ref (0,0) 0 0 a.length),pp 3,pp 4,(7,vN d)] [((0,0),⟨0,true,4,1,Aa AN a⟩),(iD b),(iE c)]
def Zsf(a:List Bool):Unit→Nat×St:=fun _=>(0,Ac [] [((0,0),⟨0,true,4,1,Aa AN a⟩)])
def ZtP(f:Scm)(c:Msg)(a:List Bool)(b:Nat):PT 1 (Lv (Nat) (Unit) (Bool)):=wg<|vz (Aj c.fields)<|br (decide ((b:Int)<(c.fields.length:Int))) (wg<|ix c.fields b fun e=>wg<|wg<|wg<|br ((!decide (e.card=(1:Int)))||(!decide (e.type.kind=(10:Int)))) (vs (wa b 1)<|vz (fl a)<|ln (eK f c a) (b+1)) (wg<|wg<|cl (Of f e.type.name) fun d=>vg (decide ((0:Int)≤d)) (AA d a.length 1)<|Fo (decide ((0:Int)≤d)) a d.toNat fun g=>br (decide ((0:Int)≤d)&&(!g)) (At V1 (VF a) true) (vs (wa b 1)<|vz (fl a)<|ln (eK f c a) (b+1)))) (vz (fl a)<|Af (Zsf a) ())
def Ua(a:Scm)(b:Msg)(c:List Bool):Nat→Option (Lv (Nat) (Unit) (Bool)):=fun d=>(ZtP a b c d).m
def ZuE(a:List Bool):PT 1 (Bool):=lr V1 (VF a) false
def Zto(b:Scm)(c:Msg)(a:List Bool):PT 1 (Bool):=vz (fl a)<|lc (Ac [(2,.ref (0,0) 0 0 a.length),pp 3,pp 4,(7,vI 0)] [((0,0),⟨0,true,4,1,Aa AN a⟩),(iD b),(iE c)]) ((Ai (Ua b c a) Ah 0).bind (Sum.elim (fun _=>(ZuE a).m) some))
def ZtK(b:Scm)(c:Msg)(a:List Bool):PT 1 (Bool):=vz (fl a)<|lc (Ac [(2,.ref (0,0) 0 0 a.length),pp 3,pp 4] [((0,0),⟨0,true,4,1,Aa AN a⟩),(iD b),(iE c)]) ((Zto b c a).m)
def SX(a:Scm)(b:Msg)(c:List Bool):Option (Bool):=(ZtK a b c).m
theorem Zst{C:Cx}(co:CO C 1)(b:Scm)(c:Msg)(a:List Bool):KL Tryz.prog (Ar tl) 45 C (pa [0,0,1,0,1] (As Tryz.f60)) [.tmp 6] 1 (eK b c a) (Zsf a) V1 (VF a) (Ua b c a):=fun e _ m Q Post d L=>eN co (Ab [2,3,4,7] iG) (Ab [] Ag) d m L
theorem ZKj(b:Scm)(c:Msg)(a:List Bool):KO Tryz.prog 60 1 [.agg ((Al b).map .d),.agg ((AK c).map .d),.ref (0,0) 0 0 a.length] [⟨0,true,4,1,Aa AN a⟩] (fun _ _ _ _=>True) (SX b c a) V1 (VF a):=kO Tryz.func60 Tryz.ntmps60 [.tmp 6] 1 (fun co d m L=>mJ co 1 (Ab [2,3,4] iG) nl nH m L fun r g=>fun _ m L=>sq (mJ co 1 (Ab [2,3,4,7] iG) nl nH m L fun r g=>fun _ m L=>bk 0 (lo (Ay (Zst co b c a) nH m L (fun _ m=>fO co m L)))))
abbrev Lu:List (Ad×Bool):=[((1,1),false),((1,10),true)]
abbrev Lr(a:Scm):Ad×Blk:=kk 1 26 3 (cD (Al a))
abbrev QU:List Bool→AV:=fun y=>vL AN y
def qN(b:Scm):Bool×Nat×List Bool→St:=fun(c,v2,a)=>Ac [pp 1,(3,.ref (1,10) 0 0 a.length),(4,vB c),(5,vN v2)] [(Lr b),kk 10 4 1 (Aa AN a)]
def pM:List Bool→Nat×St:=fun a=>(0,Ac [(3,.ref (1,10) 0 0 a.length)] [kk 10 4 1 (Aa AN a)])
def X0(b:Scm)(v2:Nat):Bool×Nat×List Bool→St:=fun(v4,c,a)=>Ac [pp 1,(3,.ref (1,10) 0 0 a.length),(4,vB v4),(5,vN v2),(6,vN c)] [(Lr b),kk 10 4 1 (Aa AN a)]
def qe(c:Scm)(v2:Nat):Bool×List Bool→Nat×St:=fun(b,a)=>(2,Ac [pp 1,(3,.ref (1,10) 0 0 a.length),(4,vB b),(5,vN v2)] [(Lr c),kk 10 4 1 (Aa AN a)])
def sp(c:Scm)(v2:Nat)(v4:Bool)(b:Nat)(a:List Bool):PT 0 (Lv (Bool×Nat×List Bool) (Bool×List Bool) (List Bool)):=wg<|vz (Aj c.messages)<|br (decide ((b:Int)<(c.messages.length:Int))) (vs (ir b a.length 1)<|ca a b fun d=>wg<|wg<|AR (!d) c.messages (b:Int) fun e=>JV (!d) Tryz.prog 60 [.agg ((Al c).map .d),.agg ((AK e).map .d),.ref (1,10) 0 0 a.length] [(1,10)] [kk 10 4 1 (Aa AN a)] (SX c e a) (fun y=>vB y) fun f=>br ((!d)&&(!f)) (vs (ir b a.length 1)<|vs (st a b true)<|rn 3 10 a.length (a.set b true)<|vw .sep<|vs (wa b 1)<|vz (fl (a.set b true))<|ln (X0 c v2) (true,b+1,a.set b true)) (vs (wa b 1)<|vz (fl a)<|ln (X0 c v2) (v4,b+1,a))) (vz (fl a)<|Af (qe c v2) (v4,a))
def V0(a:Scm)(v2:Nat):Bool×Nat×List Bool→Option (Lv (Bool×Nat×List Bool) (Bool×List Bool) (List Bool)):=fun(v4,c,b)=>(sp a v2 v4 c b).m
def qs(c:Scm)(v2:Nat)(b:Bool)(a:List Bool):PT 0 (Lv (Bool×Nat×List Bool) (List Bool) (List Bool)):=vs (wa v2 1)<|vz (fl a)<|ln (qN c) (b,v2+1,a)
def qv(b:Scm)(v2:Nat)(a:List Bool):PT 0 (Lv (Bool×Nat×List Bool) (List Bool) (List Bool)):=vz (fl a)<|lc (Ac [pp 1,(3,.ref (1,10) 0 0 a.length),(4,vB false),(5,vN v2),(6,vI 0)] [(Lr b),kk 10 4 1 (Aa AN a)]) ((Ai (V0 b v2) Ah (false,0,a)).bind (Sum.elim (fun(d,c)=>(qs b v2 d c).m) (fun z=>some (.rt z))))
def oQ(b:Scm)(c:Bool)(v2:Nat)(a:List Bool):PT 0 (Lv (Bool×Nat×List Bool) (List Bool) (List Bool)):=wg<|vz (Aj b.messages)<|br (decide ((v2:Int)<(b.messages.length:Int))&&c) (vz (fl a)<|lc (Ac [pp 1,(3,.ref (1,10) 0 0 a.length),(5,vN v2)] [(Lr b),kk 10 4 1 (Aa AN a)]) ((qv b v2 a).m)) (vz (fl a)<|Af (pM) a)
def Wh(a:Scm):Bool×Nat×List Bool→Option (Lv (Bool×Nat×List Bool) (List Bool) (List Bool)):=fun(c,v2,b)=>(oQ a c v2 b).m
def wc(a:List Bool):PT 0 (List Bool):=vz (fr a)<|lr QU nG a
def oA(a:Scm):PT 0 (List Bool):=vz (fl (List.replicate a.messages.length false))<|lc (Ac [pp 1,(3,.ref (1,10) 0 0 (List.replicate a.messages.length false).length),(4,vB true),(5,vI 0)] [(Lr a),kk 10 4 1 (Aa AN (List.replicate a.messages.length false))]) ((Ai (Wh a) Ah (true,0,List.replicate a.messages.length false)).bind (Sum.elim (fun b=>(wc b).m) some))
def oN(a:Scm):PT 0 (List Bool):=wg<|vz (Aj a.messages)<|ms a.messages.length false [vB false] (by first|rfl|kernel_rfl)<|vz (fl (List.replicate a.messages.length false))<|lc (Ac [pp 1,(3,.ref (1,10) 0 0 (List.replicate a.messages.length false).length),(4,vB true)] [(Lr a),kk 10 4 1 (Aa AN (List.replicate a.messages.length false))]) ((oA a).m)
def cS(a:Scm):Option (List Bool):=(oN a).m
theorem ZFf{C:Cx}(co:CO C 0)(a:Scm)(v2:Nat):KL Tryz.prog (Ar tl) 48 C (pa [0,0,1,1,0,0,1,0,0,1,0,1,1,1] (As Tryz.f32)) [.tmp 2] 0 (X0 a v2) (qe a v2) QU nG (V0 a v2):=fun(v4,f,b) _ m Q Post d L=>eN co (Ab [1,3,4,5,6] Lu) (Ab [1,3,4,5] Lu) d m L fun r g=>⟨fun e=>fun c=>⟨fun y hy=>s6 (ZKj a c b) hy co g [kk 10 4 1 (Aa AN b)] [],fun h=>⟨id,id⟩⟩,id⟩
theorem ZG6{C:Cx}(co:CO C 0)(b:Scm):KL Tryz.prog (Ar tl) 48 C (pa [0,0,1,0,1,1,1] (As Tryz.f32)) [.tmp 2] 0 (qN b) (pM) QU nG (Wh b):=fun(f,v2,e) _ m Q Post a L=>mJ co 1 (Ab [1,3,5] Lu) (Ab [3] [((1,10),true)]) a m L fun r g=>⟨fun _ m L=>sq (bk 1 (mJ co 2 (Ab [1,3,4,5,6] Lu) nl a m L fun r g=>fun _ m L=>bk 2 (lo (Ej (ZFf co b v2) a m L (fun(d,c) m=>eN co (Ab [1,3,4,5] Lu) nl a m L))))),id⟩
theorem ZXu(a:Scm):KC Tryz.prog 32 [.agg ((Al a).map .d)] (cS a) QU:=kC Tryz.func32 Tryz.ntmps32 [.tmp 2] fun co m L=>mJ co 3 (Ab [1,3,4] Lu) nl nH m L fun r g=>fun _ m L=>sq (mJ co 1 (Ab [1,3,4,5] Lu) nl nH m L fun r g=>fun _ m L=>bk 0 (lo (Ay (ZG6 co a) nH m L (fun b m=>fO co m L))))
abbrev xC:Bool→AV:=fun y=>vB y
def ZRc(a:Int):PT 0 (Bool):=lr xC nG (decide ((97:Int)≤a)&&decide (a≤(122:Int)))
def yy(a:Int):Option (Bool):=(ZRc a).m
theorem wq(a:Int):KC Tryz.prog 129 [.d (.int .u8 a)] (yy a) xC:=kC Tryz.func129 Tryz.ntmps129 [.tmp 2] fun co m L=>fO co m L
abbrev w8:Bool→AV:=fun y=>vB y
def ZJM(a:Int):PT 0 (Bool):=lr w8 nG (decide ((65:Int)≤a)&&decide (a≤(90:Int)))
def yq(a:Int):Option (Bool):=(ZJM a).m
theorem uF(a:Int):KC Tryz.prog 130 [.d (.int .u8 a)] (yq a) w8:=kC Tryz.func130 Tryz.ntmps130 [.tmp 2] fun co m L=>fO co m L
abbrev NO:Bool→AV:=fun y=>vB y
def ob(a:ByteArray):Nat→St:=fun b=>Ac [(0,vS a),(3,vN b)] []
def uA:Unit→Nat×St:=fun _=>(0,Ac [] [])
def tM(a:ByteArray)(b:Nat):PT 0 (Lv (Nat) (Unit) (Bool)):=vz (Bp a.size)<|br (decide ((b:Int)<(a.size:Int))) (ib a b fun h=>cl (wq (h.toNat:Int)) fun d=>Gg (!d) a (b:Int) fun i=>AH (!d) (uF (i.toNat:Int)) fun f=>Gg ((!d)&&(!f)) a (b:Int) fun c=>Gg (((!d)&&(!f))&&(!decide ((c.toNat:Int)=(95:Int)))) a (b:Int) fun e=>Gg ((((!d)&&(!f))&&(!decide ((c.toNat:Int)=(95:Int))))&&(!(decide ((e.toNat:Int)<(48:Int))))) a (b:Int) fun g=>br ((((!d)&&(!f))&&(!decide ((c.toNat:Int)=(95:Int))))&&(decide ((e.toNat:Int)<(48:Int))||decide ((57:Int)<(g.toNat:Int)))) (At NO nG false) (vs (wa b 1)<|ln (ob a) (b+1))) (Af (uA) ())
def V3(a:ByteArray):Nat→Option (Lv (Nat) (Unit) (Bool)):=fun b=>(tM a b).m
def um:PT 0 (Bool):=lr NO nG true
def ul(a:ByteArray):PT 0 (Bool):=lc (Ac [(0,vS a),(3,vI 1)] []) ((Ai (V3 a) Ah 1).bind (Sum.elim (fun _=>(um).m) some))
def sm(a:ByteArray):PT 0 (Bool):=vz (Bp a.size)<|vy (!(decide ((a.size:Int)=(0:Int)))) (Bp a.size)<|Gg (!(decide ((a.size:Int)=(0:Int))||decide ((40:Int)<(a.size:Int)))) a 0 fun c=>AH (!(decide ((a.size:Int)=(0:Int))||decide ((40:Int)<(a.size:Int)))) (wq (c.toNat:Int)) fun b=>Gg ((!(decide ((a.size:Int)=(0:Int))||decide ((40:Int)<(a.size:Int))))&&(!b)) a 0 fun d=>AH ((!(decide ((a.size:Int)=(0:Int))||decide ((40:Int)<(a.size:Int))))&&(!b)) (uF (d.toNat:Int)) fun e=>br ((decide ((a.size:Int)=(0:Int))||decide ((40:Int)<(a.size:Int)))||((!b)&&(!e))) (lr NO nG false) (lc (Ac [(0,vS a)] []) ((ul a).m))
def bZ(a:ByteArray):Option (Bool):=(sm a).m
theorem ZF0{C:Cx}(co:CO C 0)(a:ByteArray):KL Tryz.prog (Ar tl) 60 C (pa [0,0,1,0,1,1] (As Tryz.f99)) [.tmp 2] 0 (ob a) (uA) NO nG (V3 a):=fun c _ m Q Post b L=>eN co (AD [0,3]) nl b m L
theorem bm(a:ByteArray):KC Tryz.prog 99 [vS a] (bZ a) NO:=kC Tryz.func99 Tryz.ntmps99 [.tmp 2] fun co m L=>mJ co 2 (AD [0]) nl nH m L fun r g=>fun b=>fun d=>fun c=>fun e=>⟨id,fun _ m L=>sq (mJ co 1 (AD [0,3]) nl nH m L fun r g=>fun _ m L=>bk 0 (lo (Ay (ZF0 co a) nH m L (fun _ m=>fO co m L))))⟩
abbrev NN:Bool→AV:=fun y=>vB y
def Xw(a:ByteArray):ByteArray×Nat→St:=fun(b,v2)=>Ac [(0,vS a),(3,vS b),(4,vN v2)] []
def pj:ByteArray→Nat×St:=fun a=>(0,Ac [(3,vS a)] [])
def pB(a:ByteArray)(b:ByteArray)(v2:Nat):PT 0 (Lv (ByteArray×Nat) (ByteArray) (Bool)):=vz (Bp a.size)<|br (decide ((v2:Int)<(a.size:Int))) (ib a v2 fun c=>br (!decide ((c.toNat:Int)=(46:Int))) (vs (wa v2 1)<|ss a (.nt v2) (.nt (v2+1)) fun d=>ad b d fun e=>vs (wa v2 1)<|ln (Xw a) (e,v2+1)) (cl (bm b) fun f=>br (!f) (At NN nG false) (vs (wa v2 1)<|ln (Xw a) (⟨#[]⟩,v2+1)))) (Af (pj) b)
def VO(a:ByteArray):ByteArray×Nat→Option (Lv (ByteArray×Nat) (ByteArray) (Bool)):=fun(b,v2)=>(pB a b v2).m
def n2(a:ByteArray):PT 0 (Bool):=cl (bm a) fun b=>lr NN nG b
def oe(a:ByteArray):PT 0 (Bool):=lc (Ac [(0,vS a),(3,vS ⟨#[]⟩),(4,vI 0)] []) ((Ai (VO a) Ah (⟨#[]⟩,0)).bind (Sum.elim (fun b=>(n2 b).m) some))
def qF(a:ByteArray):PT 0 (Bool):=vz (Bp a.size)<|br (decide ((120:Int)<(a.size:Int))) (lr NN nG false) (lc (Ac [(0,vS a),(3,vS ⟨#[]⟩)] []) ((oe a).m))
def bW(a:ByteArray):Option (Bool):=(qF a).m
theorem ZFm{C:Cx}(co:CO C 0)(a:ByteArray):KL Tryz.prog (Ar tl) 30 C (pa [0,0,1,0,1,1,1] (As Tryz.f96)) [.tmp 2] 0 (Xw a) (pj) NN nG (VO a):=fun(c,v2) _ m Q Post b L=>eN co (AD [0,3,4]) (AD [3]) b m L
theorem ZXs(a:ByteArray):KC Tryz.prog 96 [vS a] (bW a) NN:=kC Tryz.func96 Tryz.ntmps96 [.tmp 2] fun co m L=>mJ co 3 (AD [0,3]) nl nH m L fun r g=>⟨id,fun _ m L=>sq (mJ co 1 (AD [0,3,4]) nl nH m L fun r g=>fun _ m L=>bk 0 (lo (Ay (ZFm co a) nH m L (fun b m=>fO co m L))))⟩
abbrev Rf:ByteArray×ByteArray→AV:=fun y=>.tup [vS y.1,vS y.2]
def rI(a:ByteArray):Int→St:=fun b=>Ac [(0,vS a),(4,vI b)] []
def tN(a:ByteArray):Unit→Nat×St:=fun _=>(0,Ac [(0,vS a)] [])
def sT(b:ByteArray)(a:Int):PT 0 (Lv (Int) (Unit) (ByteArray×ByteArray)):=br (decide ((0:Int)≤a)) (QM b a fun c=>br (decide ((c.toNat:Int)=(46:Int))) (ss b .no (.it a) fun d=>vs (wi (a+1))<|ss b (.it (a+1)) .no fun e=>At Rf nG (d,e)) (vs (wi (a-1))<|ln (rI b) (a-1))) (Af (tN b) ())
def VL(a:ByteArray):Int→Option (Lv (Int) (Unit) (ByteArray×ByteArray)):=fun b=>(sT a b).m
def p9(a:ByteArray):PT 0 (ByteArray×ByteArray):=lr Rf nG (⟨#[]⟩,a)
def pK(a:ByteArray):PT 0 (ByteArray×ByteArray):=vz (Bp a.size)<|vs (wi ((a.size:Int)-1))<|lc (Ac [(0,vS a),(4,vI ((a.size:Int)-1))] []) ((Ai (VL a) Ah ((a.size:Int)-1)).bind (Sum.elim (fun _=>(p9 a).m) some))
def oX(a:ByteArray):PT 0 (ByteArray×ByteArray):=lc (Ac [(0,vS a)] []) ((pK a).m)
def de(a:ByteArray):Option (ByteArray×ByteArray):=(oX a).m
theorem ZGl{C:Cx}(co:CO C 0)(a:ByteArray):KL Tryz.prog (Ar tl) 24 C (pa [0,0,1,0,1] (As Tryz.f97)) [.tmp 2,.tmp 3] 0 (rI a) (tN a) Rf nG (VL a):=fun c _ m Q Post b L=>eN co (AD [0,4]) (AD [0]) b m L
theorem ZXo(a:ByteArray):KC Tryz.prog 97 [vS a] (de a) Rf:=kC Tryz.func97 Tryz.ntmps97 [.tmp 2,.tmp 3] fun co m L=>mJ co 1 (AD [0]) nl nH m L fun r g=>fun _ m L=>sq (mJ co 1 (AD [0,4]) nl nH m L fun r g=>fun _ m L=>bk 0 (lo (Ay (ZGl co a) nH m L (fun _ m=>fO co m L))))
abbrev Bb:Bool→AV:=fun y=>vB y
def o1(a:ByteArray):PT 0 (Bool):=br (decide (a=(⟨#[109,101,115,115,97,103,101]⟩:ByteArray))) (br (decide (a=(⟨#[109,101,115,115,97,103,101]⟩:ByteArray))) (lr Bb nG true) (lr Bb nG false)) (br (decide (a=(⟨#[101,110,117,109]⟩:ByteArray))) (br (decide (a=(⟨#[101,110,117,109]⟩:ByteArray))) (lr Bb nG true) (lr Bb nG false)) (br (decide (a=(⟨#[115,101,114,118,105,99,101]⟩:ByteArray))) (br (decide (a=(⟨#[115,101,114,118,105,99,101]⟩:ByteArray))) (lr Bb nG true) (lr Bb nG false)) (br (decide (a=(⟨#[117,110,105,111,110]⟩:ByteArray))) (br (decide (a=(⟨#[117,110,105,111,110]⟩:ByteArray))) (lr Bb nG true) (lr Bb nG false)) (br (decide (a=(⟨#[109,97,112]⟩:ByteArray))) (br (decide (a=(⟨#[109,97,112]⟩:ByteArray))) (lr Bb nG true) (lr Bb nG false)) (br (decide (a=(⟨#[108,105,115,116]⟩:ByteArray))) (br (decide (a=(⟨#[108,105,115,116]⟩:ByteArray))) (lr Bb nG true) (lr Bb nG false)) (br (decide (a=(⟨#[114,101,113,117,105,114,101,100]⟩:ByteArray))) (br (decide (a=(⟨#[114,101,113,117,105,114,101,100]⟩:ByteArray))) (lr Bb nG true) (lr Bb nG false)) (br (decide (a=(⟨#[111,112,116,105,111,110,97,108]⟩:ByteArray))) (br (decide (a=(⟨#[111,112,116,105,111,110,97,108]⟩:ByteArray))) (lr Bb nG true) (lr Bb nG false)) (br (decide (a=(⟨#[112,108,97,105,110]⟩:ByteArray))) (br (decide (a=(⟨#[112,108,97,105,110]⟩:ByteArray))) (lr Bb nG true) (lr Bb nG false)) (br (decide (a=(⟨#[100,101,102,97,117,108,116]⟩:ByteArray))) (br (decide (a=(⟨#[100,101,102,97,117,108,116]⟩:ByteArray))) (lr Bb nG true) (lr Bb nG false)) (br (decide (a=(⟨#[114,101,115,101,114,118,101,100]⟩:ByteArray))) (br (decide (a=(⟨#[114,101,115,101,114,118,101,100]⟩:ByteArray))) (lr Bb nG true) (lr Bb nG false)) (br (decide (a=(⟨#[105,109,112,111,114,116]⟩:ByteArray))) (br (decide (a=(⟨#[105,109,112,111,114,116]⟩:ByteArray))) (lr Bb nG true) (lr Bb nG false)) (br (decide (a=(⟨#[115,112,97,99,101]⟩:ByteArray))) (br (decide (a=(⟨#[115,112,97,99,101]⟩:ByteArray))) (lr Bb nG true) (lr Bb nG false)) (br (decide (a=(⟨#[114,112,99]⟩:ByteArray))) (br (decide (a=(⟨#[114,112,99]⟩:ByteArray))) (lr Bb nG true) (lr Bb nG false)) (br (decide (a=(⟨#[115,116,114,101,97,109]⟩:ByteArray))) (br (decide (a=(⟨#[115,116,114,101,97,109]⟩:ByteArray))) (lr Bb nG true) (lr Bb nG false)) (br (decide (a=(⟨#[114,101,116,117,114,110,115]⟩:ByteArray))) (br (decide (a=(⟨#[114,101,116,117,114,110,115]⟩:ByteArray))) (lr Bb nG true) (lr Bb nG false)) (br (decide (a=(⟨#[111,112,101,110]⟩:ByteArray))) (br (decide (a=(⟨#[111,112,101,110]⟩:ByteArray))) (lr Bb nG true) (lr Bb nG false)) (br (decide (a=(⟨#[116,114,117,101]⟩:ByteArray))) (br (decide (a=(⟨#[116,114,117,101]⟩:ByteArray))) (lr Bb nG true) (lr Bb nG false)) (br (decide (a=(⟨#[102,97,108,115,101]⟩:ByteArray))) (br (decide (a=(⟨#[102,97,108,115,101]⟩:ByteArray))) (lr Bb nG true) (lr Bb nG false)) (br (decide (a=(⟨#[110,97,110]⟩:ByteArray))) (br (decide (a=(⟨#[110,97,110]⟩:ByteArray))) (lr Bb nG true) (lr Bb nG false)) (br (decide (a=(⟨#[105,110,102]⟩:ByteArray))) (lr Bb nG true) (lr Bb nG false)))))))))))))))))))))
def cR(a:ByteArray):Option (Bool):=(o1 a).m
theorem wG(a:ByteArray):KC Tryz.prog 98 [vS a] (cR a) Bb:=kC Tryz.func98 Tryz.ntmps98 [.tmp 2] fun co m L=>fO co m L
abbrev NL:Bool→AV:=fun y=>vB y
def oV:ByteArray×Nat→St:=fun(v2,v3)=>Ac [(0,vS v2),(3,vN v3)] []
def uR:Unit→Nat×St:=fun _=>(0,Ac [] [])
def u7(v2:ByteArray)(v3:Nat):PT 0 (Lv (ByteArray×Nat) (Unit) (Bool)):=br (decide ((v3:Int)<(120:Int))&&(!decide (v2=(⟨#[]⟩:ByteArray)))) (cl (ZXo v2) fun a=>cl (wG a.2) fun b=>br b (At NL nG false) (vs (wa v3 1)<|ln (oV) (a.1,v3+1))) (Af (uR) ())
def V6:ByteArray×Nat→Option (Lv (ByteArray×Nat) (Unit) (Bool)):=fun(v2,v3)=>(u7 v2 v3).m
def ue:PT 0 (Bool):=lr NL nG true
def vh(a:ByteArray):PT 0 (Bool):=lc (Ac [(0,vS a),(3,vI 0)] []) ((Ai (V6) Ah (a,0)).bind (Sum.elim (fun _=>(ue).m) some))
def ud(a:ByteArray):PT 0 (Bool):=cl (ZXs a) fun b=>br (!b) (lr NL nG false) (lc (Ac [(0,vS a)] []) ((vh a).m))
def cQ(a:ByteArray):Option (Bool):=(ud a).m
theorem ZHQ{C:Cx}(co:CO C 0):KL Tryz.prog (Ar tl) 25 C (pa [0,0,1,0,1,1] (As Tryz.f61)) [.tmp 2] 0 (oV) (uR) NL nG (V6):=fun(v2,v3) _ m Q Post a L=>eN co (AD [0,3]) nl a m L
theorem bG(a:ByteArray):KC Tryz.prog 61 [vS a] (cQ a) NL:=kC Tryz.func61 Tryz.ntmps61 [.tmp 2] fun co m L=>mJ co 2 (AD [0]) nl nH m L fun r g=>fun b=>⟨id,fun _ m L=>sq (mJ co 1 (AD [0,3]) nl nH m L fun r g=>fun _ m L=>bk 0 (lo (Ay (ZHQ co) nH m L (fun _ m=>fO co m L))))⟩
abbrev i1:Bool→AV:=fun y=>vB y
def pG(a:ByteArray):PT 0 (Bool):=cl (bm a) fun b=>AH b (wG a) fun c=>lr i1 nG (b&&(!c))
def cm(a:ByteArray):Option (Bool):=(pG a).m
theorem RY(a:ByteArray):KC Tryz.prog 62 [vS a] (cm a) i1:=kC Tryz.func62 Tryz.ntmps62 [.tmp 2] fun co m L=>fO co m L
abbrev Q5:Bool→AV:=fun y=>vB y
def n8(a:List Spn)(b:Int):Nat→St:=fun c=>Ac [(0,vL Cz a),(1,vI b),(5,vN c)] []
def sg:Unit→Nat×St:=fun _=>(0,Ac [] [])
def p8(a:List Spn)(c:Int)(b:Nat):PT 0 (Lv (Nat) (Unit) (Bool)):=vz (Aj a)<|br (decide ((b:Int)<(a.length:Int))) (ix a b fun d=>AR (decide (d.lo≤c)) a (b:Int) fun e=>br (decide (d.lo≤c)&&decide (c≤e.hi)) (At Q5 nG true) (vs (wa b 1)<|ln (n8 a c) (b+1))) (Af (sg) ())
def V9(a:List Spn)(b:Int):Nat→Option (Lv (Nat) (Unit) (Bool)):=fun c=>(p8 a b c).m
def pg:PT 0 (Bool):=lr Q5 nG false
def oO(a:List Spn)(b:Int):PT 0 (Bool):=lc (Ac [(0,vL Cz a),(1,vI b),(5,vI 0)] []) ((Ai (V9 a b) Ah 0).bind (Sum.elim (fun _=>(pg).m) some))
def oI(a:List Spn)(b:Int):PT 0 (Bool):=lc (Ac [(0,vL Cz a),(1,vI b)] []) ((oO a b).m)
def b7(a:List Spn)(b:Int):Option (Bool):=(oI a b).m
theorem ZEl{C:Cx}(co:CO C 0)(a:List Spn)(b:Int):KL Tryz.prog (Ar tl) 28 C (pa [0,0,1,0,1] (As Tryz.f63)) [.tmp 4] 0 (n8 a b) (sg) Q5 nG (V9 a b):=fun d _ m Q Post c L=>eN co (AD [0,1,5]) nl c m L
theorem yl(a:List Spn)(b:Int):KC Tryz.prog 63 [vL Cz a,vI b] (b7 a b) Q5:=kC Tryz.func63 Tryz.ntmps63 [.tmp 4] fun co m L=>mJ co 1 (AD [0,1]) nl nH m L fun r g=>fun _ m L=>sq (mJ co 1 (AD [0,1,5]) nl nH m L fun r g=>fun _ m L=>bk 0 (lo (Ay (ZEl co a b) nH m L (fun _ m=>fO co m L))))
abbrev Eo:Bool→AV:=fun y=>vB y
def o4(a:Fld):PT 0 (Bool):=wg<|br (!decide (a.card=(5:Int))) (wg<|wg<|wg<|lr Eo nG ((decide ((1:Int)≤a.card)&&decide (a.card≤(4:Int)))&&decide (a.key=(0:Int)))) (wg<|br (decide (a.key=(1:Int))) (br (decide (a.key=(1:Int))) (lr Eo nG true) (lr Eo nG false)) (br (decide (a.key=(2:Int))) (br (decide (a.key=(2:Int))) (lr Eo nG true) (lr Eo nG false)) (br (decide (a.key=(3:Int))) (br (decide (a.key=(3:Int))) (lr Eo nG true) (lr Eo nG false)) (br (decide (a.key=(4:Int))) (br (decide (a.key=(4:Int))) (lr Eo nG true) (lr Eo nG false)) (br (decide (a.key=(5:Int))) (br (decide (a.key=(5:Int))) (lr Eo nG true) (lr Eo nG false)) (br (decide (a.key=(7:Int))) (lr Eo nG true) (lr Eo nG false)))))))
def cB(a:Fld):Option (Bool):=(o4 a).m
theorem ZXr(a:Fld):KC Tryz.prog 64 [.agg ((Aw a).map .d)] (cB a) Eo:=kC Tryz.func64 Tryz.ntmps64 [.tmp 2] fun co m L=>fO co m L
abbrev iF(a:Scm):Ad×Blk:=kk 2 26 3 (cD (Al a))
abbrev SE:Int→AV:=fun y=>vI y
def Zzx(a:Scm)(b:ByteArray):Nat→St:=fun c=>Ac [(1,vS b),pp 2,(5,vN c)] [(iF a)]
def m7:Unit→Nat×St:=fun _=>(0,Ac [] [])
def l0(b:Scm)(c:ByteArray)(a:Nat):PT 0 (Lv (Nat) (Unit) (Int)):=wg<|vz (Aj b.enums)<|br (decide ((a:Int)<(b.enums.length:Int))) (wg<|ix b.enums a fun d=>br (decide (d.name=c)) (At SE nG (a:Int)) (vs (wa a 1)<|ln (Zzx b c) (a+1))) (Af (m7) ())
def U6(a:Scm)(b:ByteArray):Nat→Option (Lv (Nat) (Unit) (Int)):=fun c=>(l0 a b c).m
def Zzc:PT 0 (Int):=lr SE nG (-1)
def nq(a:Scm)(b:ByteArray):PT 0 (Int):=lc (Ac [(1,vS b),pp 2,(5,vI 0)] [(iF a)]) ((Ai (U6 a b) Ah 0).bind (Sum.elim (fun _=>(Zzc).m) some))
def l9(a:Scm)(b:ByteArray):PT 0 (Int):=lc (Ac [(1,vS b),pp 2] [(iF a)]) ((nq a b).m)
def b9(a:Scm)(b:ByteArray):Option (Int):=(l9 a b).m
theorem ZvD{C:Cx}(co:CO C 0)(a:Scm)(b:ByteArray):KL Tryz.prog (Ar tl) 22 C (pa [0,0,1,0,1] (As Tryz.f100)) [.tmp 4] 0 (Zzx a b) (m7) SE nG (U6 a b):=fun d _ m Q Post c L=>eN co (Ab [1,2,5] EP) nl c m L
theorem qh(a:Scm)(b:ByteArray):KC Tryz.prog 100 [.agg ((Al a).map .d),vS b] (b9 a b) SE:=kC Tryz.func100 Tryz.ntmps100 [.tmp 4] fun co m L=>mJ co 1 (Ab [1,2] EP) nl nH m L fun r g=>fun _ m L=>sq (mJ co 1 (Ab [1,2,5] EP) nl nH m L fun r g=>fun _ m L=>bk 0 (lo (Ay (ZvD co a b) nH m L (fun _ m=>fO co m L))))
abbrev Q6:Bool→AV:=fun y=>vB y
def pC(b:Scm)(a:Fld):PT 0 (Bool):=wg<|br (decide (a.type.kind=(9:Int))) (wg<|wg<|cl (qh b a.type.name) fun c=>lr Q6 nG (decide ((0:Int)≤c))) (br (decide (a.type.kind=(10:Int))) (wg<|wg<|cl (Of b a.type.name) fun d=>wg<|lr Q6 nG (decide ((0:Int)≤d)&&(!decide (a.card=(3:Int))))) (wg<|wg<|wg<|lr Q6 nG ((decide ((1:Int)≤a.type.kind)&&decide (a.type.kind≤(8:Int)))&&decide (a.type.name=(⟨#[]⟩:ByteArray)))))
def ct(a:Scm)(b:Fld):Option (Bool):=(pC a b).m
theorem ZXA(a:Scm)(b:Fld):KC Tryz.prog 65 [.agg ((Al a).map .d),.agg ((Aw b).map .d)] (ct a b) Q6:=kC Tryz.func65 Tryz.ntmps65 [.tmp 4] fun co m L=>fO co m L
abbrev Lw:List (Ad×Bool):=[((1,2),false),((1,5),false)]
abbrev WE(a:Msg):Ad×Blk:=kk 2 56 5 (cD (AK a))
abbrev RS(a:Fld):Ad×Blk:=kk 5 51 16 (cD (Aw a))
abbrev LD:Bool→AV:=fun y=>vB y
def Z6(b:Msg)(c:Int)(a:Fld):Bool×Nat→St:=fun(v3,v4)=>Ac [(1,vI c),pp 2,pp 5,(6,vB v3),(7,vN v4)] [(WE b),(RS a)]
def r7(b:Msg)(c:Int)(a:Fld):Bool→Nat×St:=fun d=>(0,Ac [(1,vI c),pp 2,pp 5,(6,vB d)] [(WE b),(RS a)])
def wu(a:Msg)(c:Int)(b:Fld)(v3:Bool)(v4:Nat):PT 0 (Lv (Bool×Nat) (Bool) (Bool)):=wg<|vz (Aj a.fields)<|br (decide ((v4:Int)<(a.fields.length:Int))) (wg<|ix a.fields v4 fun d=>wg<|br (decide (d.name=b.union)) (At LD nG false) (wg<|AR (decide ((v4:Int)<c)) a.fields (v4:Int) fun e=>wg<|br (decide ((v4:Int)<c)&&decide (e.union=b.union)) (vs (wa v4 1)<|ln (Z6 a c b) (true,v4+1)) (vs (wa v4 1)<|ln (Z6 a c b) (v3,v4+1)))) (Af (r7 a c b) v3)
def Wm(b:Msg)(c:Int)(a:Fld):Bool×Nat→Option (Lv (Bool×Nat) (Bool) (Bool)):=fun(v3,v4)=>(wu b c a v3 v4).m
def ro(e:Msg)(b:Int)(c:Fld)(a:Bool):PT 0 (Bool):=wg<|vg (!(!a)) (wi (b-1))<|AR (!(!a)) e.fields (b-1) fun d=>wg<|lr LD nG ((!a)||decide (d.union=c.union))
def q7(b:Msg)(c:Int)(a:Fld):PT 0 (Bool):=lc (Ac [(1,vI c),pp 2,pp 5,(6,vB false),(7,vI 0)] [(WE b),(RS a)]) ((Ai (Wm b c a) Ah (false,0)).bind (Sum.elim (fun d=>(ro b c a d).m) some))
def sx(b:Msg)(c:Int):PT 0 (Bool):=wg<|Cj b.fields c fun a=>wg<|wg<|br (decide (a.union=(⟨#[]⟩:ByteArray))) (lr LD nG true) (wg<|wg<|AH (!(!decide (a.card=(2:Int)))) (RY a.union) fun d=>br ((!decide (a.card=(2:Int)))||(!d)) (lr LD nG false) (lc (Ac [(1,vI c),pp 2,pp 5,(6,vB false)] [(WE b),(RS a)]) ((q7 b c a).m)))
def cW(a:Msg)(b:Int):Option (Bool):=(sx a b).m
theorem ZEE{C:Cx}(co:CO C 0)(b:Msg)(c:Int)(a:Fld):KL Tryz.prog (Ar tl) 69 C (pa [0,0,1,0,1,1,1,1,1] (As Tryz.f66)) [.tmp 4] 0 (Z6 b c a) (r7 b c a) LD nG (Wm b c a):=fun(v3,v4) _ m Q Post d L=>eN co (Ab [1,2,5,6,7] Lw) (Ab [1,2,5,6] Lw) d m L
theorem ZWO(a:Msg)(b:Int):KC Tryz.prog 66 [.agg ((AK a).map .d),vI b] (cW a b) LD:=kC Tryz.func66 Tryz.ntmps66 [.tmp 4] fun co m L=>mJ co 5 (Ab [1,2,5,6] Lw) nl nH m L fun r g=>fun c=>⟨id,fun e=>⟨id,fun _ m L=>sq (mJ co 1 (Ab [1,2,5,6,7] Lw) nl nH m L fun r g=>fun _ m L=>bk 0 (lo (Ay (ZEE co a b c) nH m L (fun d m=>fO co m L))))⟩⟩
abbrev L1:Int→AV:=fun y=>vI y
def gZ(a:Int):PT 0 (Int):=rem .u64 a 9223372036854775808<|br (decide ((9218868437227405312:Int)<(EJ .u64 a 9223372036854775808))) (lr L1 nG 0) (br (decide ((EJ .u64 a 9223372036854775808)=(9218868437227405312:Int))) (lr L1 nG 1) (br (decide ((EJ .u64 a 9223372036854775808)=(0:Int))) (lr L1 nG 2) (br (decide ((EJ .u64 a 9223372036854775808)<(4503599627370496:Int))) (lr L1 nG 3) (lr L1 nG 4))))
def OT(a:Int):Option (Int):=(gZ a).m
theorem sw(a:Int):KC Tryz.prog 127 [.d (.int .u64 a)] (OT a) L1:=kC Tryz.func127 Tryz.ntmps127 [.tmp 2] fun co m L=>fO co m L
abbrev WS:Val→AV:=fun y=>.agg ((Ae y).map .d)
def Z0(a:Val):PT 0 (Val):=wg<|wg<|AH (decide (a.kind=(6:Int))) (sw a.bits) fun b=>br (decide (a.kind=(6:Int))&&decide (b=(0:Int))) (wg<|wg<|wg<|lr WS nG (.mk a.kind 9221120237041090560 a.text a.list a.pairs a.slots a.raws:Val)) (wg<|wg<|lr WS nG a)
def O1(a:Val):Option (Val):=(Z0 a).m
theorem bB(a:Val):KC Tryz.prog 94 [.agg ((Ae a).map .d)] (O1 a) WS:=kC Tryz.func94 Tryz.ntmps94 [.cell 2 35] fun co m L=>fO co m L
abbrev xS:Bool→AV:=fun y=>vB y
def m6(a:Val)(b:Val):PT 0 (Bool):=wg<|wg<|wg<|wg<|wg<|wg<|wg<|vy ((decide (a.kind=b.kind)&&decide (a.bits=b.bits))&&decide (a.text=b.text)) (Aj a.list)<|wg<|vy ((decide (a.kind=b.kind)&&decide (a.bits=b.bits))&&decide (a.text=b.text)) (Aj a.pairs)<|vg ((decide (a.kind=b.kind)&&decide (a.bits=b.bits))&&decide (a.text=b.text)) (wa a.list.length a.pairs.length)<|wg<|vy ((decide (a.kind=b.kind)&&decide (a.bits=b.bits))&&decide (a.text=b.text)) (Aj a.slots)<|vg ((decide (a.kind=b.kind)&&decide (a.bits=b.bits))&&decide (a.text=b.text)) (wa (a.list.length+a.pairs.length) a.slots.length)<|wg<|vy ((decide (a.kind=b.kind)&&decide (a.bits=b.bits))&&decide (a.text=b.text)) (Aj a.raws)<|vg ((decide (a.kind=b.kind)&&decide (a.bits=b.bits))&&decide (a.text=b.text)) (wa ((a.list.length+a.pairs.length)+a.slots.length) a.raws.length)<|wg<|vy ((decide (a.kind=b.kind)&&decide (a.bits=b.bits))&&decide (a.text=b.text)) (Aj b.list)<|vg ((decide (a.kind=b.kind)&&decide (a.bits=b.bits))&&decide (a.text=b.text)) (wa (((a.list.length+a.pairs.length)+a.slots.length)+a.raws.length) b.list.length)<|wg<|vy ((decide (a.kind=b.kind)&&decide (a.bits=b.bits))&&decide (a.text=b.text)) (Aj b.pairs)<|vg ((decide (a.kind=b.kind)&&decide (a.bits=b.bits))&&decide (a.text=b.text)) (wa ((((a.list.length+a.pairs.length)+a.slots.length)+a.raws.length)+b.list.length) b.pairs.length)<|wg<|vy ((decide (a.kind=b.kind)&&decide (a.bits=b.bits))&&decide (a.text=b.text)) (Aj b.slots)<|vg ((decide (a.kind=b.kind)&&decide (a.bits=b.bits))&&decide (a.text=b.text)) (wa (((((a.list.length+a.pairs.length)+a.slots.length)+a.raws.length)+b.list.length)+b.pairs.length) b.slots.length)<|wg<|vy ((decide (a.kind=b.kind)&&decide (a.bits=b.bits))&&decide (a.text=b.text)) (Aj b.raws)<|vg ((decide (a.kind=b.kind)&&decide (a.bits=b.bits))&&decide (a.text=b.text)) (wa ((((((a.list.length+a.pairs.length)+a.slots.length)+a.raws.length)+b.list.length)+b.pairs.length)+b.slots.length) b.raws.length)<|lr xS nG (((decide (a.kind=b.kind)&&decide (a.bits=b.bits))&&decide (a.text=b.text))&&decide (((((((((a.list.length+a.pairs.length)+a.slots.length)+a.raws.length)+b.list.length)+b.pairs.length)+b.slots.length)+b.raws.length:Nat):Int)=(0:Int)))
def cj(a:Val)(b:Val):Option (Bool):=(m6 a b).m
theorem qU(a:Val)(b:Val):KC Tryz.prog 101 [.agg ((Ae a).map .d),.agg ((Ae b).map .d)] (cj a b) xS:=kC Tryz.func101 Tryz.ntmps101 [.tmp 4] fun co m L=>fO co m L
abbrev xX:Bool→AV:=fun y=>vB y
def gg(a:ByteArray)(b:Int)(d:Int)(f:Int):PT 0 (Bool):=vz (Bp a.size)<|Gg (decide (b<(a.size:Int))) a b fun c=>Gg (decide (b<(a.size:Int))&&decide (d≤(c.toNat:Int))) a b fun e=>lr xX nG ((decide (b<(a.size:Int))&&decide (d≤(c.toNat:Int)))&&decide ((e.toNat:Int)≤f))
def Mo(a:ByteArray)(b:Int)(c:Int)(d:Int):Option (Bool):=(gg a b c d).m
theorem Qi(a:ByteArray)(b:Int)(c:Int)(d:Int):KC Tryz.prog 162 [vS a,vI b,.d (.int .u8 c),.d (.int .u8 d)] (Mo a b c d) xX:=kC Tryz.func162 Tryz.ntmps162 [.tmp 8] fun co m L=>fO co m L
abbrev Su:Bool→AV:=fun y=>vB y
def lM(a:ByteArray)(b:Int)(c:Int):Nat→St:=fun d=>Ac [(0,vS a),(1,vI b),(2,vI c),(7,vN d)] []
def kt:Unit→Nat×St:=fun _=>(0,Ac [] [])
def Vc(c:ByteArray)(b:Int)(d:Int)(a:Nat):PT 0 (Lv (Nat) (Unit) (Bool)):=br (decide ((a:Int)<d)) (vs (wi (b+(a:Int)))<|cl (Qi c (b+(a:Int)) 128 191) fun e=>br (!e) (At Su nG false) (vs (wa a 1)<|ln (lM c b d) (a+1))) (Af (kt) ())
def Le(a:ByteArray)(b:Int)(c:Int):Nat→Option (Lv (Nat) (Unit) (Bool)):=fun d=>(Vc a b c d).m
def gp:PT 0 (Bool):=lr Su nG true
def fH(a:ByteArray)(b:Int)(c:Int):PT 0 (Bool):=lc (Ac [(0,vS a),(1,vI b),(2,vI c),(7,vI 0)] []) ((Ai (Le a b c) Ah 0).bind (Sum.elim (fun _=>(gp).m) some))
def fJ(a:ByteArray)(b:Int)(c:Int):PT 0 (Bool):=lc (Ac [(0,vS a),(1,vI b),(2,vI c)] []) ((fH a b c).m)
def KV(a:ByteArray)(b:Int)(c:Int):Option (Bool):=(fJ a b c).m
theorem Zve{C:Cx}(co:CO C 0)(a:ByteArray)(b:Int)(c:Int):KL Tryz.prog (Ar tl) 19 C (pa [0,0,1,0,1] (As Tryz.f161)) [.tmp 6] 0 (lM a b c) (kt) Su nG (Le a b c):=fun e _ m Q Post d L=>eN co (AD [0,1,2,7]) nl d m L
theorem Ll(a:ByteArray)(b:Int)(c:Int):KC Tryz.prog 161 [vS a,vI b,vI c] (KV a b c) Su:=kC Tryz.func161 Tryz.ntmps161 [.tmp 6] fun co m L=>mJ co 1 (AD [0,1,2]) nl nH m L fun r g=>fun _ m L=>sq (mJ co 1 (AD [0,1,2,7]) nl nH m L fun r g=>fun _ m L=>bk 0 (lo (Ay (Zve co a b c) nH m L (fun _ m=>fO co m L))))
abbrev Hu:Int→AV:=fun y=>vI y
def ga(c:ByteArray)(b:Int):PT 0 (Int):=QM c b fun a=>br (decide ((a.toNat:Int)<(128:Int))) (lr Hu nG 1) (vg (decide ((194:Int)≤(a.toNat:Int))&&decide ((a.toNat:Int)≤(223:Int))) (wi (b+1))<|AH (decide ((194:Int)≤(a.toNat:Int))&&decide ((a.toNat:Int)≤(223:Int))) (Ll c (b+1) 1) fun j=>br ((decide ((194:Int)≤(a.toNat:Int))&&decide ((a.toNat:Int)≤(223:Int)))&&j) (lr Hu nG 2) (vg (decide ((a.toNat:Int)=(224:Int))) (wi (b+1))<|AH (decide ((a.toNat:Int)=(224:Int))) (Qi c (b+1) 160 191) fun g=>vg (decide ((a.toNat:Int)=(224:Int))&&g) (wi (b+2))<|AH (decide ((a.toNat:Int)=(224:Int))&&g) (Ll c (b+2) 1) fun k=>br ((decide ((a.toNat:Int)=(224:Int))&&g)&&k) (lr Hu nG 3) (vg (decide ((a.toNat:Int)=(237:Int))) (wi (b+1))<|AH (decide ((a.toNat:Int)=(237:Int))) (Qi c (b+1) 128 159) fun h=>vg (decide ((a.toNat:Int)=(237:Int))&&h) (wi (b+2))<|AH (decide ((a.toNat:Int)=(237:Int))&&h) (Ll c (b+2) 1) fun l=>br ((decide ((a.toNat:Int)=(237:Int))&&h)&&l) (lr Hu nG 3) (vg ((decide ((225:Int)≤(a.toNat:Int))&&decide ((a.toNat:Int)≤(239:Int)))&&(!decide ((a.toNat:Int)=(237:Int)))) (wi (b+1))<|AH ((decide ((225:Int)≤(a.toNat:Int))&&decide ((a.toNat:Int)≤(239:Int)))&&(!decide ((a.toNat:Int)=(237:Int)))) (Ll c (b+1) 2) fun m=>br (((decide ((225:Int)≤(a.toNat:Int))&&decide ((a.toNat:Int)≤(239:Int)))&&(!decide ((a.toNat:Int)=(237:Int))))&&m) (lr Hu nG 3) (vg (decide ((a.toNat:Int)=(240:Int))) (wi (b+1))<|AH (decide ((a.toNat:Int)=(240:Int))) (Qi c (b+1) 144 191) fun i=>vg (decide ((a.toNat:Int)=(240:Int))&&i) (wi (b+2))<|AH (decide ((a.toNat:Int)=(240:Int))&&i) (Ll c (b+2) 2) fun n=>br ((decide ((a.toNat:Int)=(240:Int))&&i)&&n) (lr Hu nG 4) (vg (decide ((241:Int)≤(a.toNat:Int))&&decide ((a.toNat:Int)≤(243:Int))) (wi (b+1))<|AH (decide ((241:Int)≤(a.toNat:Int))&&decide ((a.toNat:Int)≤(243:Int))) (Ll c (b+1) 3) fun e=>br ((decide ((241:Int)≤(a.toNat:Int))&&decide ((a.toNat:Int)≤(243:Int)))&&e) (lr Hu nG 4) (vg (decide ((a.toNat:Int)=(244:Int))) (wi (b+1))<|AH (decide ((a.toNat:Int)=(244:Int))) (Qi c (b+1) 128 143) fun d=>vg (decide ((a.toNat:Int)=(244:Int))&&d) (wi (b+2))<|AH (decide ((a.toNat:Int)=(244:Int))&&d) (Ll c (b+2) 2) fun f=>br ((decide ((a.toNat:Int)=(244:Int))&&d)&&f) (lr Hu nG 4) (lr Hu nG 0))))))))
def O2(a:ByteArray)(b:Int):Option (Int):=(ga a b).m
theorem ZTO(a:ByteArray)(b:Int):KC Tryz.prog 135 [vS a,vI b] (O2 a b) Hu:=kC Tryz.func135 Tryz.ntmps135 [.tmp 4] fun co m L=>fO co m L
abbrev R3:Int→AV:=fun y=>vI y
def kv(a:ByteArray):Int→St:=fun b=>Ac [(0,vS a),(3,vI b)] []
def nY:Unit→Nat×St:=fun _=>(0,Ac [] [])
def gf(b:ByteArray)(a:Int):PT 0 (Lv (Int) (Unit) (Int)):=vz (Bp b.size)<|br (decide (a<(b.size:Int))) (cl (ZTO b a) fun c=>br (decide (c=(0:Int))) (At R3 nG a) (vs (wi (a+c))<|ln (kv b) (a+c))) (Af (nY) ())
def MV(a:ByteArray):Int→Option (Lv (Int) (Unit) (Int)):=fun b=>(gf a b).m
def hH:PT 0 (Int):=lr R3 nG (-1)
def gx(a:ByteArray):PT 0 (Int):=lc (Ac [(0,vS a),(3,vI 0)] []) ((Ai (MV a) Ah 0).bind (Sum.elim (fun _=>(hH).m) some))
def hU(a:ByteArray):PT 0 (Int):=lc (Ac [(0,vS a)] []) ((gx a).m)
def SU(a:ByteArray):Option (Int):=(hU a).m
theorem Zv4{C:Cx}(co:CO C 0)(a:ByteArray):KL Tryz.prog (Ar tl) 18 C (pa [0,0,1,0,1] (As Tryz.f104)) [.tmp 2] 0 (kv a) (nY) R3 nG (MV a):=fun c _ m Q Post b L=>eN co (AD [0,3]) nl b m L
theorem ZTe(a:ByteArray):KC Tryz.prog 104 [vS a] (SU a) R3:=kC Tryz.func104 Tryz.ntmps104 [.tmp 2] fun co m L=>mJ co 1 (AD [0]) nl nH m L fun r g=>fun _ m L=>sq (mJ co 1 (AD [0,3]) nl nH m L fun r g=>fun _ m L=>bk 0 (lo (Ay (Zv4 co a) nH m L (fun _ m=>fO co m L))))
abbrev i4:Bool→AV:=fun y=>vB y
def ZR(a:ByteArray):PT 0 (Bool):=cl (ZTe a) fun b=>lr i4 nG (decide (b<(0:Int)))
def Mq(a:ByteArray):Option (Bool):=(ZR a).m
theorem x3(a:ByteArray):KC Tryz.prog 70 [vS a] (Mq a) i4:=kC Tryz.func70 Tryz.ntmps70 [.tmp 2] fun co m L=>fO co m L
abbrev ym:Bool→AV:=fun y=>vB y
def mV(a:Int):PT 0 (Bool):=lr ym nG (decide ((1:Int)≤a)&&decide (a≤(9:Int)))
def Mx(a:Int):Option (Bool):=(mV a).m
theorem Zi(a:Int):KC Tryz.prog 125 [vI a] (Mx a) ym:=kC Tryz.func125 Tryz.ntmps125 [.tmp 2] fun co m L=>fO co m L
abbrev yg:Bool→AV:=fun y=>vB y
def gP(a:Val):PT 0 (Bool):=wg<|vz (Aj a.list)<|wg<|vy (decide ((a.list.length:Int)=(0:Int))) (Aj a.pairs)<|wg<|vy (decide ((a.list.length:Int)=(0:Int))&&decide ((a.pairs.length:Int)=(0:Int))) (Aj a.slots)<|wg<|vy ((decide ((a.list.length:Int)=(0:Int))&&decide ((a.pairs.length:Int)=(0:Int)))&&decide ((a.slots.length:Int)=(0:Int))) (Aj a.raws)<|lr yg nG (((decide ((a.list.length:Int)=(0:Int))&&decide ((a.pairs.length:Int)=(0:Int)))&&decide ((a.slots.length:Int)=(0:Int)))&&decide ((a.raws.length:Int)=(0:Int)))
def O0(a:Val):Option (Bool):=(gP a).m
theorem ql(a:Val):KC Tryz.prog 126 [.agg ((Ae a).map .d)] (O0 a) yg:=kC Tryz.func126 Tryz.ntmps126 [.tmp 2] fun co m L=>fO co m L
abbrev xY:Bool→AV:=fun y=>vB y
def Ur(a:Int):PT 0 (Bool):=lr xY nG (decide (a=(7:Int))||decide (a=(8:Int)))
def Mr(a:Int):Option (Bool):=(Ur a).m
theorem Vn(a:Int):KC Tryz.prog 131 [vI a] (Mr a) xY:=kC Tryz.func131 Tryz.ntmps131 [.tmp 2] fun co m L=>fO co m L
abbrev IF:Bool→AV:=fun y=>vB y
def U0(b:Int)(a:Val):PT 0 (Bool):=cl (Zi b) fun c=>wg<|wg<|AH (!((!c)||(!decide (a.kind=b)))) (ql a) fun d=>br (((!c)||(!decide (a.kind=b)))||(!d)) (lr IF nG false) (cl (Vn b) fun e=>br e (wg<|wg<|vy (decide (a.bits=(0:Int))) (Bp a.text.size)<|wg<|AH ((decide (a.bits=(0:Int))&&decide ((a.text.size:Int)≤(4096:Int)))&&(!(decide (b=(8:Int))))) (x3 a.text) fun f=>lr IF nG ((decide (a.bits=(0:Int))&&decide ((a.text.size:Int)≤(4096:Int)))&&(decide (b=(8:Int))||f))) (wg<|br (!decide (a.text=(⟨#[]⟩:ByteArray))) (lr IF nG false) (br (decide (b=(1:Int))) (wg<|lr IF nG (decide (a.bits≤(1:Int)))) (br (decide (b=(2:Int))) (wg<|vz (wk .i64 a.bits)<|lr IF nG (decide (((-2147483648):Int)≤(IntKind.i64.wrap a.bits))&&decide ((IntKind.i64.wrap a.bits)≤(2147483647:Int)))) (br (decide (b=(4:Int))) (wg<|lr IF nG (decide (a.bits<(4294967296:Int)))) (br (decide (b=(9:Int))) (wg<|lr IF nG (decide (a.bits<(2147483648:Int)))) (lr IF nG true)))))))
def Jp(a:Int)(b:Val):Option (Bool):=(U0 a b).m
theorem ZB(a:Int)(b:Val):KC Tryz.prog 102 [vI a,.agg ((Ae b).map .d)] (Jp a b) IF:=kC Tryz.func102 Tryz.ntmps102 [.tmp 4] fun co m L=>fO co m L
abbrev bn(a:Scm):Ad×Blk:=kk 2 26 3 (cD (Al a))
abbrev bw(a:Fld):Ad×Blk:=kk 5 35 7 (cD (Ae a.dflt))
abbrev IV:Bool→AV:=fun y=>vB y
def rE(a:Scm)(b:Fld)(d:Int):Nat→St:=fun c=>Ac [pp 2,pp 5,(6,vI d),(7,vN c)] [(bn a),(bw b)]
def qH:Unit→Nat×St:=fun _=>(0,Ac [] [])
def uo(b:Scm)(f:Fld)(c:Int)(a:Nat):PT 0 (Lv (Nat) (Unit) (Bool)):=wg<|Cj b.enums c fun d=>vz (Aj d.items)<|br (decide ((a:Int)<(d.items.length:Int))) (wg<|Cj b.enums c fun g=>ix g.items a fun e=>vz (wk .u64 e.num)<|wg<|br (decide ((IntKind.u64.wrap e.num)=f.dflt.bits)) (At IV nG true) (vs (wa a 1)<|ln (rE b f c) (a+1))) (Af (qH) ())
def VD(a:Scm)(b:Fld)(d:Int):Nat→Option (Lv (Nat) (Unit) (Bool)):=fun c=>(uo a b d c).m
def oq:PT 0 (Bool):=lr IV nG false
def tq(a:Scm)(b:Fld)(c:Int):PT 0 (Bool):=lc (Ac [pp 2,pp 5,(6,vI c),(7,vI 0)] [(bn a),(bw b)]) ((Ai (VD a b c) Ah 0).bind (Sum.elim (fun _=>(oq).m) some))
def tC(b:Scm)(a:Fld):PT 0 (Bool):=wg<|wg<|wg<|br (!a.hasDefault) (wg<|cl ((qU a.dflt (.mk 0 0 ⟨#[]⟩ ([]:List Val) ([]:List Pr) ([]:List Slt) ([]:List Raw):Val)).nrm (fun _ _ _ h=>.nrm h) (xs':=[.agg ((Ae a.dflt).map .d),.agg [vI 0,.d (.int .u64 0),vS ⟨#[]⟩,.e0,.e0,.e0,.e0]]) (by intro r;kernel_rfl)) fun e=>lr IV nG e) (wg<|wg<|wg<|wg<|AH (!((!decide (a.card=(2:Int)))||(!decide (a.union=(⟨#[]⟩:ByteArray))))) (ZB a.type.kind a.dflt) fun c=>wg<|wg<|AH (!(((!decide (a.card=(2:Int)))||(!decide (a.union=(⟨#[]⟩:ByteArray))))||(!c))) (bB a.dflt) fun f=>AH (!(((!decide (a.card=(2:Int)))||(!decide (a.union=(⟨#[]⟩:ByteArray))))||(!c))) (qU a.dflt f) fun g=>br ((((!decide (a.card=(2:Int)))||(!decide (a.union=(⟨#[]⟩:ByteArray))))||(!c))||(!g)) (lr IV nG false) (wg<|wg<|cl (qh b a.type.name) fun d=>wg<|br (!decide (a.type.kind=(9:Int))) (lr IV nG true) (br (decide (d<(0:Int))) (lr IV nG false) (lc (Ac [pp 2,pp 5,(6,vI d)] [(bn b),(bw a)]) ((tq b a d).m)))))
def cV(a:Scm)(b:Fld):Option (Bool):=(tC a b).m
theorem ZGB{C:Cx}(co:CO C 0)(a:Scm)(b:Fld)(c:Int):KL Tryz.prog (Ar tl) 75 C (pa [0,0,1,0,1,1,1,1,1,1,1] (As Tryz.f67)) [.tmp 4] 0 (rE a b c) (qH) IV nG (VD a b c):=fun e _ m Q Post d L=>eN co (Ab [2,5,6,7] Lw) nl d m L
theorem ZWQ(a:Scm)(b:Fld):KC Tryz.prog 67 [.agg ((Al a).map .d),.agg ((Aw b).map .d)] (cV a b) IV:=kC Tryz.func67 Tryz.ntmps67 [.tmp 4] fun co m L=>mJ co 7 (Ab [2,5,6] Lw) nl nH m L fun r g=>⟨fun d=>id,fun e=>fun f=>fun h=>⟨id,fun c=>⟨id,⟨id,fun _ m L=>sq (mJ co 1 (Ab [2,5,6,7] Lw) nl nH m L fun r g=>fun _ m L=>bk 0 (lo (Ay (ZGB co a b c) nH m L (fun _ m=>fO co m L))))⟩⟩⟩⟩
abbrev lb1:ByteArray:=⟨#[115,105,110,99,101]⟩
abbrev lb2:ByteArray:=⟨#[109,105,110]⟩
abbrev lb3:ByteArray:=⟨#[109,97,120]⟩
abbrev lb4:ByteArray:=⟨#[117,110,116,105,108]⟩
abbrev lb5:ByteArray:=⟨#[108,101,110,103,116,104]⟩
abbrev lb6:ByteArray:=⟨#[116,105,109,101,111,117,116]⟩
abbrev lb7:ByteArray:=⟨#[97,108,105,97,115]⟩
abbrev lb8:ByteArray:=⟨#[114,111,117,116,101]⟩
abbrev DV:Int→AV:=fun y=>vI y
def O9(a:ByteArray):PT 0 (Int):=br (decide (a=lb2)) (br (decide (a=lb2)) (lr DV nG 3) (lr DV nG 0)) (br (decide (a=lb3)) (lr DV nG 3) (lr DV nG 0))
def Ph(a:ByteArray):PT 0 (Int):=br (decide (a=lb1)) (br (decide (a=lb1)) (lr DV nG 4) (O9 a)) (br (decide (a=lb4)) (br (decide (a=lb4)) (lr DV nG 4) (O9 a)) (br (decide (a=lb5)) (br (decide (a=lb5)) (lr DV nG 4) (O9 a)) (br (decide (a=lb6)) (lr DV nG 4) (O9 a))))
def Tw(a:ByteArray):PT 0 (Int):=br (decide (a=(⟨#[100,111,99]⟩:ByteArray))) (br (decide (a=(⟨#[100,111,99]⟩:ByteArray))) (lr DV nG 7) (Ph a)) (br (decide (a=lb7)) (br (decide (a=lb7)) (lr DV nG 7) (Ph a)) (br (decide (a=lb8)) (br (decide (a=lb8)) (lr DV nG 7) (Ph a)) (br (decide (a=(⟨#[111,119,110,101,114]⟩:ByteArray))) (lr DV nG 7) (Ph a))))
def lj(a:ByteArray):PT 0 (Int):=br (decide (a=(⟨#[100,101,112,114,101,99,97,116,101,100]⟩:ByteArray))) (br (decide (a=(⟨#[100,101,112,114,101,99,97,116,101,100]⟩:ByteArray))) (lr DV nG 1) (Tw a)) (br (decide (a=(⟨#[115,101,99,114,101,116]⟩:ByteArray))) (br (decide (a=(⟨#[115,101,99,114,101,116]⟩:ByteArray))) (lr DV nG 1) (Tw a)) (br (decide (a=(⟨#[105,100,101,109,112,111,116,101,110,116]⟩:ByteArray))) (lr DV nG 1) (Tw a)))
def cG(a:ByteArray):Option (Int):=(lj a).m
theorem qE(a:ByteArray):KC Tryz.prog 132 [vS a] (cG a) DV:=kC Tryz.func132 Tryz.ntmps132 [.tmp 2] fun co m L=>fO co m L
abbrev lb9:ByteArray:=⟨#[109,105,110]⟩
abbrev yj:ByteArray:=⟨#[105,100,101,109,112,111,116,101,110,116]⟩
abbrev xe:ByteArray:=⟨#[116,105,109,101,111,117,116]⟩
abbrev ZWE:ByteArray:=⟨#[114,111,117,116,101]⟩
abbrev xa:ByteArray:=⟨#[109,97,120]⟩
abbrev wH:ByteArray:=⟨#[108,101,110,103,116,104]⟩
abbrev ZWX:ByteArray:=⟨#[115,101,99,114,101,116]⟩
abbrev Iv:Bool→AV:=fun y=>vB y
def Te(a:Int):PT 0 (Bool):=lr Iv nG (decide (a=(1:Int))||decide (a=(5:Int)))
def Pa(b:ByteArray)(a:Int):PT 0 (Bool):=br (decide (b=yj)) (br (decide (b=yj)) (lr Iv nG (decide (a=(6:Int)))) (Te a)) (br (decide (b=xe)) (br (decide (b=xe)) (lr Iv nG (decide (a=(6:Int)))) (Te a)) (br (decide (b=ZWE)) (lr Iv nG (decide (a=(6:Int)))) (Te a)))
def Pb(a:Int):PT 0 (Bool):=lr Iv nG (decide (a=(2:Int)))
def Tv(a:ByteArray)(b:Int):PT 0 (Bool):=br (decide (a=lb9)) (br (decide (a=lb9)) (Pb b) (Pa a b)) (br (decide (a=xa)) (br (decide (a=xa)) (Pb b) (Pa a b)) (br (decide (a=wH)) (br (decide (a=wH)) (Pb b) (Pa a b)) (br (decide (a=ZWX)) (Pb b) (Pa a b))))
def Tj(a:Int):PT 0 (Bool):=lr Iv nG ((decide (a=(2:Int))||decide (a=(4:Int)))||decide (a=(6:Int)))
def dX(a:ByteArray)(b:Int):PT 0 (Bool):=br (decide (a=(⟨#[97,108,105,97,115]⟩:ByteArray))) (br (decide (a=(⟨#[97,108,105,97,115]⟩:ByteArray))) (Tj b) (Tv a b)) (br (decide (a=(⟨#[115,105,110,99,101]⟩:ByteArray))) (br (decide (a=(⟨#[115,105,110,99,101]⟩:ByteArray))) (Tj b) (Tv a b)) (br (decide (a=(⟨#[117,110,116,105,108]⟩:ByteArray))) (Tj b) (Tv a b)))
def lS(b:ByteArray)(a:Int):PT 0 (Bool):=br (decide (b=(⟨#[100,101,112,114,101,99,97,116,101,100]⟩:ByteArray))) (br (decide (b=(⟨#[100,101,112,114,101,99,97,116,101,100]⟩:ByteArray))) (lr Iv nG (decide ((1:Int)≤a)&&decide (a≤(6:Int)))) (dX b a)) (br (decide (b=(⟨#[100,111,99]⟩:ByteArray))) (lr Iv nG (decide ((1:Int)≤a)&&decide (a≤(6:Int)))) (dX b a))
def cI(a:ByteArray)(b:Int):Option (Bool):=(lS a b).m
theorem ZUH(a:ByteArray)(b:Int):KC Tryz.prog 133 [vS a,vI b] (cI a b) Iv:=kC Tryz.func133 Tryz.ntmps133 [.tmp 4] fun co m L=>fO co m L
abbrev xB:Bool→AV:=fun y=>vB y
def lh(b:Nt):PT 0 (Bool):=wg<|cl (qE b.name) fun a=>wg<|wg<|AH ((!decide (a=(0:Int)))&&decide (b.val.kind=a)) (ZB a b.val) fun c=>lr xB nG (((!decide (a=(0:Int)))&&decide (b.val.kind=a))&&c)
def da(a:Nt):Option (Bool):=(lh a).m
theorem ZUz(a:Nt):KC Tryz.prog 134 [.agg ((B6 a).map .d)] (da a) xB:=kC Tryz.func134 Tryz.ntmps134 [.tmp 2] fun co m L=>fO co m L
abbrev Iy:Int→AV:=fun y=>vI y
def mX(a:List Nt)(b:Int):Nat→St:=fun c=>Ac [(0,vL B6 a),(1,vI b),(5,vN c)] []
def mU:Unit→Nat×St:=fun _=>(0,Ac [] [])
def lG(b:List Nt)(e:Int)(a:Nat):PT 0 (Lv (Nat) (Unit) (Int)):=vz (Aj b)<|br (decide ((a:Int)<(b.length:Int))) (ix b a fun f=>cl (qE f.name) fun k=>br (decide (k=(0:Int))) (At Iy nG 8) (ix b a fun g=>cl (ZUH g.name e) fun l=>br (!l) (At Iy nG 1) (ix b a fun h=>cl (ZUz h) fun m=>br (!m) (At Iy nG 12) (AR (decide ((0:Int)<(a:Int))) b (a:Int) fun i=>vg (decide ((0:Int)<(a:Int))) (wi ((a:Int)-1))<|AR (decide ((0:Int)<(a:Int))) b ((a:Int)-1) fun j=>br (decide ((0:Int)<(a:Int))&&BB i.name j.name) (At Iy nG 11) (AR (decide ((0:Int)<(a:Int))) b (a:Int) fun c=>vg (decide ((0:Int)<(a:Int))) (wi ((a:Int)-1))<|AR (decide ((0:Int)<(a:Int))) b ((a:Int)-1) fun d=>br (decide ((0:Int)<(a:Int))&&decide (c.name=d.name)) (At Iy nG 9) (vs (wa a 1)<|ln (mX b e) (a+1))))))) (Af (mU) ())
def U7(a:List Nt)(b:Int):Nat→Option (Lv (Nat) (Unit) (Int)):=fun c=>(lG a b c).m
def nO:PT 0 (Int):=lr Iy nG 0
def kr(a:List Nt)(b:Int):PT 0 (Int):=lc (Ac [(0,vL B6 a),(1,vI b),(5,vI 0)] []) ((Ai (U7 a b) Ah 0).bind (Sum.elim (fun _=>(nO).m) some))
def mG(a:List Nt)(b:Int):PT 0 (Int):=vz (Aj a)<|br (decide ((8:Int)<(a.length:Int))) (lr Iy nG 3) (lc (Ac [(0,vL B6 a),(1,vI b)] []) ((kr a b).m))
def cT(a:List Nt)(b:Int):Option (Int):=(mG a b).m
theorem Zxv{C:Cx}(co:CO C 0)(a:List Nt)(b:Int):KL Tryz.prog (Ar tl) 68 C (pa [0,0,1,0,1,1] (As Tryz.f103)) [.tmp 4] 0 (mX a b) (mU) Iy nG (U7 a b):=fun d _ m Q Post c L=>eN co (AD [0,1,5]) nl c m L
theorem ZTa(a:List Nt)(b:Int):KC Tryz.prog 103 [vL B6 a,vI b] (cT a b) Iy:=kC Tryz.func103 Tryz.ntmps103 [.tmp 4] fun co m L=>mJ co 2 (AD [0,1]) nl nH m L fun r g=>⟨id,fun _ m L=>sq (mJ co 1 (AD [0,1,5]) nl nH m L fun r g=>fun _ m L=>bk 0 (lo (Ay (Zxv co a b) nH m L (fun _ m=>fO co m L))))⟩
abbrev i3:List Prb→AV:=fun y=>.tup []
@[reducible] def ji(a:ByteArray):List Prb→List Blk:=fun y=>[⟨0,true,75,2,[vS a,.ref (0,1) 0 0 y.length]⟩,⟨0,true,114,3,Aa Ak y⟩]
def Zv(a:ByteArray)(b:List Prb):PT 2 (List Prb):=lr i3 (ji a) b
def qM(a:ByteArray)(b:List Prb):PT 2 (List Prb):=vz (fl b)<|lc (Ac [] [((0,0),⟨0,true,75,2,[vS a,.ref (0,1) 0 0 b.length]⟩),((0,1),⟨0,true,114,3,Aa Ak b⟩)]) ((Zv a b).m)
def rY(a:ByteArray)(b:List Prb)(d:Int)(c:Int):PT 2 (List Prb):=vz (fl b)<|lc (Ac [(12,.ptr (0,0) 0 0),(14,vB (!decide (c=(0:Int)))),(15,vI d),(16,vI c)] [((0,0),⟨0,true,75,2,[vS a,.ref (0,1) 0 0 b.length]⟩),((0,1),⟨0,true,114,3,Aa Ak b⟩)]) ((Bv a b (!decide (c=(0:Int))) d c).bind fun e=>(qM a e).m)
def sS(a:ByteArray)(b:List Prb)(e:List Nt)(f:Int)(c:Int):PT 2 (List Prb):=cl (ZTa e f) fun d=>vz (fl b)<|lc (Ac [(0,.ptr (0,0) 0 0),(3,vI c),(8,vI d)] [((0,0),⟨0,true,75,2,[vS a,.ref (0,1) 0 0 b.length]⟩),((0,1),⟨0,true,114,3,Aa Ak b⟩)]) ((rY a b c d).m)
def HO(a:ByteArray)(b:List Prb)(c:List Nt)(d:Int)(e:Int):Option (List Prb):=(sS a b c d e).m
theorem Mn(a:ByteArray)(b:List Prb)(d:List Nt)(e:Int)(c:Int):KG Tryz.prog 68 2 [1] [(1,0)] [.ptr (0,0) 0 0,vL B6 d,vI e,vI c] [⟨0,true,75,2,[vS a,.ref (0,1) 0 0 b.length]⟩,⟨0,true,114,3,Aa Ak b⟩] (HO a b d e c) i3 (ji a):=iH Tryz.func68 Tryz.ntmps68 AU [] 2 [1] [0] [(1,0)] (fun C co h y m Post L=>mJ co 1 (Ab [0,3,8] Fq) nl nH m L fun r g=>fun f=>fun _ m L=>rg (pR co 5 (Ab [12,14,15,16] Fq) m L fun r g=>fun _ m L=>Bl co m (BL a b (!decide (f=(0:Int))) c f) [((0,0),⟨0,true,75,2,[vS a,.ref (0,1) 0 0 b.length]⟩),((0,1),⟨0,true,114,3,Aa Ak b⟩)] [] (fun z=>.tup []) (fun z=>[((0,0),⟨0,true,75,2,[vS a,.ref (0,1) 0 0 z.length]⟩),((0,1),⟨0,true,114,3,Aa Ak z⟩)]) [] fun i m=>eR co (Ab [] Fq) m L fun r g=>fun _ m L=>BW (Zv a i) co m L (fun r g=>id) r g))
end Go.Proofs.YtbcmdieedjamgaaGreat
