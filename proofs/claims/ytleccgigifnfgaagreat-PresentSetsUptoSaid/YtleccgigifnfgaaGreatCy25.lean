import Derived.Test.YtleccgigifnfgaaGreatCy24
import Derived.Test.YtleccgigifnfgaaGreatCy00
namespace Go.Proofs.YtleccgigifnfgaaGreat
set_option linter.all false
open Go Go.Eng
def Ex(s:Scm)(t:Typ)(v:Val):Int:=if Fu s t v=true then 0 else if t.kind=9∧CA t.kind v=true then 16 else 12
def JX(E:Val→Int)(key:Int)(l:List Pr)(i:Nat)(p:Pr):Int:=if CA key p.key=false then 12 else if((l.take i).any fun q=>Fy q.key p.key)=true then 9 else E p.val
def EX(s:Scm)(f:Fld)(v:Val):Int:=
 if f.card=4 then(if v.kind≠11∨v.bits≠0∨v.text≠⟨#[]⟩∨0<v.pairs.length∨0<v.slots.length∨0<v.raws.length then 12 else BQ (fun _ x=>Ex s f.type x) v.list 0)
 else if f.card=5 then(if v.kind≠12∨v.bits≠0∨v.text≠⟨#[]⟩∨0<v.list.length∨0<v.slots.length∨0<v.raws.length then 12 else BQ (JX (Ex s f.type) f.key v.pairs) v.pairs 0)
 else Ex s f.type v
theorem dk{n:Int}{v:Val}(h:CA n v=true):1≤n∧n≤9∧v.kind=n:=by
 unfold CA at h
 simp only[Ya,Ye]at h
 exact h.1.1
theorem ZTe{v:Val}(h:CA 9 v=true):CF 9 v=0:=by
 have b:=(dk h).2.2
 unfold CF
 have d:B0 v=false∧v.text.size=0:=by
  unfold CA at h
  rw[show C8 9=false by decide,Yr (by decide)]at h
  simp only[Ya,Ye]at h
  obtain⟨⟨_,a⟩,c,_⟩:=h
  unfold Eu at a
  rw[Ye]at a
  unfold B0
  rw[Yb,b,c]
  refine⟨fun h=>?_,rfl⟩
  rcases h with h|h|h|h|h
  ·omega
  ·omega
  ·omega
  ·exact h.1 rfl
  ·omega
 rw[Yr (fun e=>e.elim (fun e=>e b) (fun e=>by rw[d.1]at e;cases e)),Yr (by omega),Ys h]
theorem ZIR{s:Scm}(hs:AA (AC s)≤1048576)(g:GdS s)(a:Acs)(l:a.s=s)(t:Typ)(n:GdT s t)(v:Val)(i:A6 v):aS a t v=some (Ex s t v):=by
 have h:=FH hs
 have f:=xf (BO s t.name).1.items (fun z=>QB z v) (fun x=>decide (IntKind.u64.wrap x.num=v.bits)) (fun x _=>rfl) (ep h _)
 have j:((BO s t.name).1.items.any fun x=>decide (IntKind.u64.wrap x.num=v.bits))=FC (BO s t.name).1 v.bits:=rfl
 rw[j]at f
 dsimp only[aS,Vl,br,vw,lr,cl,clg,Dt,br]
 rw[l,ZD0 hs g t v i,gg _ (CS i),R5 s _ h.el]
 simp only[Yi,f]
 unfold Ex
 by_cases c:t.kind=9∧CA t.kind v=true
 ·obtain⟨b,d⟩:=c
  have he:=n.en b
  have m:Fu s t v=decide (¬((BO s t.name).1.opn=false∧FC (BO s t.name).1 v.bits=false)):=by
   rw[b]at d
   unfold Fu Cp
   rw[Yr (by omega),Yr (by omega),Yr (by omega),b,ZTe d,Yr (by omega),he,Yr (by decide:¬true=false)]
   refine decide_eq_decide.2 ?_
   by_cases k:(BO s t.name).1.opn=false∧FC (BO s t.name).1 v.bits=false
   ·rw[Ys k]
    exact⟨fun e=>absurd e (by decide),fun e=>absurd k e⟩
   ·rw[Yr k]
    exact⟨fun _=>k,fun _=>rfl⟩
  rw[m,he,b]
  rw[b]at d
  rw[d]
  cases(BO s t.name).1.opn<;>cases FC (BO s t.name).1 v.bits<;>simp
 ·rw[Yr c]
  by_cases b:t.kind=9
  ·have d:CA t.kind v=false:=by
    cases h:CA t.kind v with
    |false=>rfl
    |true=>exact absurd ⟨b,h⟩ c
   rw[d]
   cases Fu s t v<;>simp
  ·cases Fu s t v<;>simp[b]
theorem ZxO{a b:Val}(h:a.kind=b.kind):Fy a b=Fy b a:=by
 unfold Fy
 rw[h]
 congr 1
 split
 ·exact decide_eq_decide.2 eq_comm
 ·split
  ·exact decide_eq_decide.2 eq_comm
  ·exact decide_eq_decide.2 eq_comm
theorem vC{v:Val}(h:SzV v):ct v=some (decide (v.bits=0∧v.text=⟨#[]⟩∧v.slots.length=0∧v.raws.length=0)):=by
 obtain⟨t1,t2,t3,t4,t5⟩:=h
 have b:v.slots.length<4611686018427387904:=by omega
 have c:v.raws.length<4611686018427387904:=by omega
 have d:v.slots.length+v.raws.length<9223372036854775808:=by omega
 dsimp only[ct,VX,vy,vw,vg,lr,wa,Ah]
 simp only[b,c,d,Dd,YJ]
 congr 1
 rw[OZ]
 simp only[Ya,Ye,and_assoc]
 by_cases a:v.text=⟨#[]⟩
 ·simp only[a,Dx];omega
 ·simp only[a,Dw,FJ]
theorem ZGO{E:Val→Int}{key:Int}{l:List Pr}{i:Nat}(b:∀(j:Nat) (y:Pr),j<i→l[j]?=some y→JX E key l j y=0):∀q∈l.take i,CA key q.key=true:=fun q d=>by
 obtain⟨j,a⟩:=YK.1 d
 rw[YU]at a
 split at a
 ·have:=b j q (by assumption) a
  unfold JX at this
  cases c:CA key q.key with
  |true=>rfl
  |false=>
   rw[c,Ys rfl]at this
   cases this
 ·cases a
theorem ZLl{s:Scm}(hs:AA (AC s)≤1048576)(g:GdS s)(a:Acs)(M:a.s=s)(f:Fld)(O:GdF s f)(v:Val)(k:A6 v):aU a f v=some (EX s f v):=by
 have I:=CS k
 obtain⟨s1,s2,V,W,X⟩:=CS k
 have o:v.list.length<4611686018427387904:=by omega
 have w2:v.pairs.length<4611686018427387904:=by omega
 have D:=fun(x:Val) (l:A6 x)=>ZIR hs g a M f.type O.t x l
 have T:=Hu (B:=Om a f v) (N:=Aj) v.list (fun _ x=>Ex s f.type x) id () (fun i x l _=>by
  have t:=B6 l
  have u:i+1<9223372036854775808:=by have:=(Yn.1 l).1;omega
  have e:=D x (N0 k (Yu l))
  dsimp only[Om,Tc,br,ix,vw,vs,v2,Au,ln,Ak,cl,wa,br]
  simp only[t,u,l,e,YE,YJ,Yi]
  by_cases hy:Ex s f.type x=0<;>simp[hy]) (by dsimp only[Om,Tc,br,ix,vw,vs,v2,Au,ln,Ak,cl,wa,br];simp) (BB (by omega))
 have U:=Hu (B:=Lp a f v) (N:=Aj) v.pairs (JX (Ex s f.type) f.key v.pairs) id () (fun i p h L=>by
  have t:=B6 h
  have hi:=(Yn.1 h).1
  have u:i+1<9223372036854775808:=by omega
  have K:i≤v.pairs.length:=by omega
  have E:=HH k (Yu h)
  have r:=gg f.key (CS E.1)
  have C:=D p.val E.2
  have P:=ZGO L
  unfold JX
  cases w:CA f.key p.key with
  |true=>
   have kp:=dk w
   have J:I5 (v.pairs.take i) (fun z=>MR z p)=some ((v.pairs.take i).any fun q=>Fy q.key p.key):=wG _ _ _ (fun q H=>by
    have S:=dk (P q H)
    have e:=(zW (d:=p.key) (x:=q.key) (by rw[kp.2.2];omega) E.1 (HH k (O5 H)).1).1
    rw[ZxO (kp.2.2.trans S.2.2.symm)]at e
    dsimp only[MR,VG,vw,lr,cl]
    rw[e]
    rfl) (by rw[YF];omega)
   dsimp only[Lp,N9,br,ix,vw,vs,v2,Au,ln,Ak,cl,cs,wa,sL,br]
   simp only[t,u,K,h,r,C,J,w,Bd.c,Bd.vl,JG,FK,YE,YJ,Yi,DP,DT]
   by_cases y:((v.pairs.take i).any fun q=>Fy q.key p.key)=true
   ·simp[y]
   ·by_cases A:Ex s f.type p.val=0
    ·simp only[y,A]
     simp
    ·simp only[y,A]
     simp[A]
  |false=>
   dsimp only[Lp,N9,br,ix,vw,vs,v2,Au,ln,Ak,cl,cs,wa,sL,br]
   simp only[t,u,h,r,w,YE,YJ,Yi]
   simp) (by dsimp only[Lp,N9,br,ix,vw,vs,v2,Au,ln,Ak,cl,cs,wa,sL,br];simp) (BB (by omega))
 have e0:=D v k
 have r:f.card=4→aX a f v=some (EX s f v):=fun m=>by
  unfold EX
  rw[Ys m]
  dsimp only[aX,Xg,WL,Ve,br,vz,vy,vw,lr,lc,clg,Ah,br]
  rw[vC I,T]
  by_cases c:v.kind≠11∨v.bits≠0∨v.text≠⟨#[]⟩∨0<v.pairs.length∨0<v.slots.length∨0<v.raws.length
  ·rw[Ys c]
   by_cases b:v.kind=11
   ·by_cases cl:v.bits=0∧v.text=⟨#[]⟩∧v.slots.length=0∧v.raws.length=0
    ·have h:0<v.pairs.length:=by
      obtain⟨F,G,Q,R⟩:=cl
      rcases c with c|c|c|c|c|c
      ·exact absurd b c
      ·exact absurd F c
      ·exact absurd G c
      ·exact c
      ·omega
      ·omega
     have j:(0:Int)<v.pairs.length:=by omega
     rw[Y6 cl]
     simp[b,w2,h,j]
    ·rw[Dy cl]
     simp[b]
   ·simp[b]
  ·rw[Yr c]
   have b:v.kind=11:=Decidable.not_not.1 fun e=>c (.inl e)
   have cl:v.bits=0∧v.text=⟨#[]⟩∧v.slots.length=0∧v.raws.length=0:=⟨Decidable.not_not.1 fun e=>c (.inr (.inl e)),Decidable.not_not.1 fun e=>c (.inr (.inr (.inl e))),by
    rcases G7 v.slots.length with e|e
    ·exact e
    ·exact absurd (.inr (.inr (.inr (.inr (.inl e))))) c,by
    rcases G7 v.raws.length with e|e
    ·exact e
    ·exact absurd (.inr (.inr (.inr (.inr (.inr e))))) c⟩
   have h:¬(0:Int)<v.pairs.length:=fun e=>c (.inr (.inr (.inr (.inl (by omega)))))
   rw[Y6 cl]
   by_cases c6:BQ (fun _ x=>Ex s f.type x) v.list 0=0
   ·simp only[b,h,c6,o,w2,YE,YV,Y5,C2,Io,Yw,Gk,Dd,Ef,YQ,YJ,YR,Yi]
    rfl
   ·simp only[b,h,c6,o,w2,YE,YV,Y5,C2,Io,Yw,Gk,Dd,Ef,YQ,YJ,YR,Yi]
    rfl
 have C:f.card=5→bh a f v=some (EX s f v):=fun n=>by
  unfold EX
  rw[Yr (by omega),Ys n]
  dsimp only[bh,U8,Vc,Vh,br,vz,vy,vw,lr,lc,clg,Ah,br]
  rw[vC I,U]
  by_cases c:v.kind≠12∨v.bits≠0∨v.text≠⟨#[]⟩∨0<v.list.length∨0<v.slots.length∨0<v.raws.length
  ·rw[Ys c]
   by_cases b:v.kind=12
   ·by_cases cl:v.bits=0∧v.text=⟨#[]⟩∧v.slots.length=0∧v.raws.length=0
    ·have h:0<v.list.length:=by
      obtain⟨F,G,Q,R⟩:=cl
      rcases c with c|c|c|c|c|c
      ·exact absurd b c
      ·exact absurd F c
      ·exact absurd G c
      ·exact c
      ·omega
      ·omega
     have j:(0:Int)<v.list.length:=by omega
     rw[Y6 cl]
     simp[b,o,h,j]
    ·rw[Dy cl]
     simp[b]
   ·simp[b]
  ·rw[Yr c]
   have b:v.kind=12:=Decidable.not_not.1 fun e=>c (.inl e)
   have cl:v.bits=0∧v.text=⟨#[]⟩∧v.slots.length=0∧v.raws.length=0:=⟨Decidable.not_not.1 fun e=>c (.inr (.inl e)),Decidable.not_not.1 fun e=>c (.inr (.inr (.inl e))),by
    rcases G7 v.slots.length with e|e
    ·exact e
    ·exact absurd (.inr (.inr (.inr (.inr (.inl e))))) c,by
    rcases G7 v.raws.length with e|e
    ·exact e
    ·exact absurd (.inr (.inr (.inr (.inr (.inr e))))) c⟩
   have h:¬(0:Int)<v.list.length:=fun e=>c (.inr (.inr (.inr (.inl (by omega)))))
   rw[Y6 cl]
   by_cases c6:BQ (JX (Ex s f.type) f.key v.pairs) v.pairs 0=0
   ·simp only[b,h,c6,o,w2,YE,YV,Y5,C2,Io,Yw,Gk,Dd,Ef,YQ,YJ,YR,Yi]
    rfl
   ·simp only[b,h,c6,o,w2,YE,YV,Y5,C2,Io,Yw,Gk,Dd,Ef,YQ,YJ,YR,Yi]
    rfl
 dsimp only[aU,VF,br,vw,lr,cl,br]
 by_cases m:f.card=4
 ·rw[r m]
  simp[m]
 ·by_cases n:f.card=5
  ·rw[C n]
   simp[n]
  ·rw[e0]
   unfold EX
   simp[m,n]
end Go.Proofs.YtleccgigifnfgaaGreat
namespace Go.Proofs.YtleccgigifnfgaaGreat
set_option linter.all false
open Go Go.Eng
def PD(v:Val):Bool:=decide (1≤v.kind∧v.kind≤9)&&Eu v&&decide (v.bits=0)&&decide (v.text=⟨#[]⟩)
theorem ZIX{v:Val}(h:SzV v):bK v=some (PD v):=by
 have a:I7 v.kind=some (decide (1≤v.kind)&&decide (v.kind≤9)):=rfl
 dsimp only[bK,W7,vw,lr,cl,clg]
 rw[a,n8 h,Yi]
 unfold PD
 rw[Bool.decide_and]
 cases(decide (1≤v.kind)&&decide (v.kind≤9))<;>cases Eu v<;>cases decide (v.bits=0)<;>cases decide (v.text=⟨#[]⟩)<;>cases C8 v.kind<;>rfl
def MG(f:Fld)(v:Val):Bool:=(decide (f.card=3)&&PD v||decide (v.kind=11)&&decide (v.list.length=0))||decide (v.kind=12)&&decide (v.pairs.length=0)
theorem ZMa(f:Fld){v:Val}(h:SzV v):bq f v=some (MG f v):=by
 have c:=h
 obtain⟨t1,t2,t3,t4,t5⟩:=h
 have d:v.list.length<4611686018427387904:=by omega
 have e:v.pairs.length<4611686018427387904:=by omega
 have a:decide ((v.list.length:Int)=0)=decide (v.list.length=0):=decide_eq_decide.2 (by omega)
 have b:decide ((v.pairs.length:Int)=0)=decide (v.pairs.length=0):=decide_eq_decide.2 (by omega)
 dsimp only[bq,VT,vy,vw,lr,clg,Ah]
 rw[ZIX c]
 simp only[d,e,Dd,YJ,Ef,YQ,a,b]
 rfl
def mh(n:Int)(v:Val):Prop:=1≤n∧n≤9∧v.kind=n∧UH v
def mi(t:Typ)(v:Val):Prop:=(t.kind=10→v.kind=10)∧(t.kind≠10→mh t.kind v)
def Ux(f:Fld)(v:Val):Prop:=(f.card=4→v=.mk 11 0 ⟨#[]⟩ v.list [] [] [])∧(f.card=5→v=.mk 12 0 ⟨#[]⟩ [] v.pairs [] [])∧(f.card≠4→f.card≠5→mi f.type v)
theorem ZJA{n:Int}{v:Val}(e:1≤n)(f:n≤9)(h:CF n v=0):mh n v:=by
 obtain⟨a1,g,_,_⟩:=PN h
 obtain⟨a,b,d⟩:=Rr e f a1 g
 unfold Eu at a
 unfold C8 at b d
 rw[Ye]at a
 refine⟨e,f,a1,YB a.1,YB a.2.1,YB a.2.2.1,YB a.2.2.2,fun c=>b (Y6 (a1▸c)),fun c=>d (Dy (a1▸c))⟩
theorem Zu2{s:Scm}{k:Bool}{d:Nat}{m:Msg}{v:Val}(h:Bv s k d m v=0):v.kind=10∧B0 v=false:=by
 have:¬(v.kind≠10∨B0 v=true):=fun c=>by
  cases d<;>(unfold Bv at h;rw[Ys c]at h;cases h)
 refine⟨Decidable.not_not.1 fun e=>this (.inl e),?_⟩
 cases a:B0 v with
 |false=>rfl
 |true=>exact absurd (.inr a) this
theorem Zxh{s:Scm}{k:Bool}{n:ByteArray}{v:Val}(h:ML s k n v=0):(Bg s n).2=true∧Bv s k 16 (Bg s n).1 v=0∧cnt v≤4096:=by
 unfold ML at h
 cases a:(Bg s n).2 with
 |false=>rw[a,Ys rfl]at h;cases h
 |true=>
  rw[a,Yr (by decide)]at h
  by_cases c:Bv s k 16 (Bg s n).1 v=0
  ·rw[Yr (fun e=>e c)]at h
   by_cases b:4096<cnt v
   ·rw[Ys b]at h;cases h
   ·exact⟨rfl,c,by omega⟩
  ·rw[Ys c]at h
   exact absurd h c
theorem ZBT{s:Scm}{t:Typ}{v:Val}(h:Fu s t v=true):mi t v:=by
 unfold Fu at h
 by_cases c:t.kind=10
 ·rw[Ys c,Ye]at h
  exact⟨fun _=>(Zu2 (Zxh h).2.1).1,fun e=>absurd c e⟩
 ·rw[Yr c,Ye]at h
  refine⟨fun e=>absurd e c,fun _=>?_⟩
  unfold Cp at h
  rw[Yr c]at h
  by_cases a:t.kind<1∨9<t.kind
  ·rw[Ys a]at h;cases h
  ·rw[Yr a]at h
   refine ZJA (by omega) (by omega) ?_
   by_cases b:CF t.kind v≠0∨t.kind≠9
   ·rw[Ys b]at h;exact h
   ·exact Decidable.not_not.1 fun e=>b (.inl e)
theorem ZSv{s:Scm}{t:Typ}{v:Val}(h:Ex s t v=0):Fu s t v=true:=by
 unfold Ex at h
 cases c:Fu s t v with
 |true=>rfl
 |false=>
  rw[c,Yr (by decide)]at h
  split at h<;>cases h
theorem ZSr{s:Scm}{f:Fld}{v:Val}(h:EX s f v=0):Ux f v:=by
 unfold EX at h
 by_cases d:f.card=4
 ·rw[Ys d]at h
  by_cases c:v.kind≠11∨v.bits≠0∨v.text≠⟨#[]⟩∨0<v.pairs.length∨0<v.slots.length∨0<v.raws.length
  ·rw[Ys c]at h;cases h
  ·simp only[not_or,Decidable.not_not,ne_eq,Nat.not_lt,Nat.le_zero]at c
   obtain⟨g,i,j,a,b,c6⟩:=c
   refine⟨fun _=>?_,fun e=>by omega,fun e=>absurd d e⟩
   cases v
   simp only[Val.kind,Val.bits,Val.text,Val.list,Val.pairs,Val.slots,Val.raws]at*
   rw[g,i,j,YB a,YB b,YB c6]
 ·rw[Yr d]at h
  by_cases b:f.card=5
  ·rw[Ys b]at h
   by_cases c:v.kind≠12∨v.bits≠0∨v.text≠⟨#[]⟩∨0<v.list.length∨0<v.slots.length∨0<v.raws.length
   ·rw[Ys c]at h;cases h
   ·simp only[not_or,Decidable.not_not,ne_eq,Nat.not_lt,Nat.le_zero]at c
    obtain⟨g,i,j,a,k,c6⟩:=c
    refine⟨fun e=>absurd e d,fun _=>?_,fun _ e=>absurd b e⟩
    cases v
    simp only[Val.kind,Val.bits,Val.text,Val.list,Val.pairs,Val.slots,Val.raws]at*
    rw[g,i,j,YB a,YB k,YB c6]
  ·rw[Yr b]at h
   exact⟨fun e=>absurd e d,fun e=>absurd e b,fun _ _=>ZBT (ZSv h)⟩
def ZQ(f:Fld)(v:Val):Prop:=(f.card=3∧1≤v.kind∧v.kind≤9∧v=.mk v.kind 0 ⟨#[]⟩ [] [] [] [])∨(v.kind=11∧v.list=[])∨(v.kind=12∧v.pairs=[])
theorem ZKn{f:Fld}{v:Val}(h:MG f v=true):ZQ f v:=by
 unfold MG PD Eu at h
 simp only[Yj,Ya,Ye]at h
 rcases h with(h|h)|h
 ·obtain⟨c,⟨⟨b,a⟩,d⟩,e⟩:=h
  refine .inl ⟨c,b.1,b.2,?_⟩
  cases v
  simp only[Val.kind,Val.bits,Val.text,Val.list,Val.pairs,Val.slots,Val.raws]at*
  rw[d,e,YB a.1,YB a.2.1,YB a.2.2.1,YB a.2.2.2]
 ·exact .inr (.inl ⟨h.1,YB h.2⟩)
 ·exact .inr (.inr ⟨h.1,YB h.2⟩)
def B2(l:List Slt)(k:Int):List Slt:=l.filter fun x=>!decide (x.num=k)
theorem nm(v:Val)(k:Int)(h:v.slots.length≤1048576):bN v k=some (.mk v.kind v.bits v.text v.list v.pairs (B2 v.slots k) v.raws):=by
 have a:=zX v.slots (by omega)
 have b:=n41 v.slots (fun z=>QV z k) (fun x=>decide (x.num=k)) (fun x _=>rfl) (by omega)
 have c:(B2 v.slots k).length<549755813888:=Nat.lt_of_le_of_lt (Ib _ _) (by omega)
 have d:v.slots.length<549755813888:=by omega
 dsimp only[bN,W9,XE,Zd,Za,VN,vz,vw,lr,lc,fl,fr]
 rw[a,Yi,b]
 rw[show v.slots.filter (fun x=>!decide (x.num=k))=B2 v.slots k from rfl,Yi]
def DG(l:List Slt)(U:List Fld):List Slt:=U.foldl (fun l g=>B2 l g.num) l
theorem ee:∀(U:List Fld) (l:List Slt),(DG l U).length≤l.length
 |[],l=>Yp _
 |g::U,l=>DR (ee U (B2 l g.num)) (Ib _ _)
theorem Zyr(l:List Slt)(U:List Fld)(g:Fld):DG l (U++[g])=B2 (DG l U) g.num:=by
 unfold DG
 rw[List.foldl_append]
 rfl
def BI(l:List Slt)(F:List Fld)(f:Fld)(k:Int)(b:Bool)(x:Val):List Slt:=
 if b=true then DG (B2 l k) (Cs F f.union)else GH (DG (B2 l k) (Cs F f.union)) (.mk k x)
def IT(s:Scm)(n:ByteArray)(v:Val)(k:Int)(x:Val):Val×Int:=
 if(Bg s n).2=false then(zV,10)else if(BN (AJ s n) k).2=false then(zV,8)
 else if EX s (A5 (AJ s n) k) x≠0 then(zV,EX s (A5 (AJ s n) k) x)
 else(.mk v.kind v.bits v.text v.list v.pairs (BI v.slots (AJ s n) (A5 (AJ s n) k) k (MG (A5 (AJ s n) k) x) x) v.raws,0)
theorem ZMO{s:Scm}(hs:AA (AC s)≤1048576)(g:GdS s)(n:ByteArray)(v:Val)(k:Int)(x:Val)(H:A6 v)(u:A6 x):bY s n v k x=some (IT s n v k x):=by
 have h:=FH hs
 have I:=CS H
 have t:=I.s
 have d:(AJ s n).length≤1048576:=eb h n
 have j:QJ s n=some (.mk (Bg s n).1 s,(Bg s n).2):=zT s n h.ml
 unfold IT
 dsimp only[bY,ZS,ah,Z6,br,vz,vw,lr,lc,cl,Ah,br]
 cases hm:(Bg s n).2 with
 |false=>
  have a:Ok (fun y:Acs×Fld×Int=>y.2.2=10) (Gm s n k):=by
   dsimp only[Gm,K4,La,K6,br,vw,lr,lc,cl,br]
   rw[j,Yi,hm]
   exact⟨_,rfl,rfl⟩
  obtain⟨y,a,a1⟩:=a
  rw[a,Yi,a1]
  rfl
 |true=>
  cases l:(BN (AJ s n) k).2 with
  |false=>
   have a:Ok (fun y:Acs×Fld×Int=>y.2.2=8) (Gm s n k):=by
    dsimp only[Gm,K4,La,K6,br,vw,lr,lc,cl,br]
    rw[j,Yi,hm]
    simp only[Y5,Yw,YR,YJ]
    rw[Oq (Bg s n).1 k d,Yi]
    rw[show(Bg s n).1.fields=AJ s n from rfl,l]
    exact⟨_,rfl,rfl⟩
   obtain⟨y,a,a1⟩:=a
   rw[a,Yi,a1]
   rfl
  |true=>
   have a:Gm s n k=some (.mk (Bg s n).1 s,A5 (AJ s n) k,0):=by
    dsimp only[Gm,K4,La,K6,br,vw,lr,lc,cl,br]
    rw[j,Yi,hm]
    simp only[Y5,Yw,YR,YJ]
    rw[Oq (Bg s n).1 k d,Yi]
    rw[show(Bg s n).1.fields=AJ s n from rfl,l]
    rfl
   have c:A5 (AJ s n) k∈AJ s n:=by
    rcases RK (AJ s n) k with⟨e,o⟩|⟨e,o⟩
    ·rw[l]at e;cases e
    ·exact o
   have A:=ZLl hs g (.mk (Bg s n).1 s) rfl (A5 (AJ s n) k) (g.fl n _ c) x u
   rw[a,Yi]
   simp only[A,Yi]
   by_cases hy:EX s (A5 (AJ s n) k) x=0
   ·have C:=nm v k t
    have J:(B2 v.slots k).length≤1048576:=DR (Ib _ _) t
    have f:=xS (Bg s n).1 (A5 (AJ s n) k).union d
    rw[show(Bg s n).1.fields=AJ s n from rfl]at f
    have K:(Cs (AJ s n) (A5 (AJ s n) k).union).length≤1048576:=DR (eh _ _) d
    have D:=ZMa (A5 (AJ s n) k) (CS u)
    unfold BI
    generalize Cs (AJ s n) (A5 (AJ s n) k).union=U at f K
    have z:∀p:List Fld,(DG (B2 v.slots k) p).length≤1048576:=fun p=>DR (ee _ _) J
    have q:=fun M:Acs×Fld×Int=>RC (B:=Mg k x M U) (N:=Aj) (ρ:=Val×Int) U (fun p=>(v.kind,v.bits,v.text,v.list,v.pairs,DG (B2 v.slots k) p,v.raws)) (fun i b=>(i,b)) id (fun i g m=>by
     have E:=B6 m
     have O:=(Yn.1 m).1
     have F:i+1<9223372036854775808:=by omega
     have G:=nm (.mk v.kind v.bits v.text v.list v.pairs (DG (B2 v.slots k) (U.take i)) v.raws) g.num (z _)
     rw[Zyr]
     dsimp only[Mg,Pe,br,ix,vw,vs,ln,Ak,cl,wa,br]
     simp only[E,m,F,YE,YJ,Yi]
     rw[G]
     rfl) (by dsimp only[Mg,Pe,br,ix,vw,vs,ln,Ak,cl,wa,br];simp) (BB (by omega))
    have w:U.length<4611686018427387904:=by omega
    have L:DG (B2 v.slots k) []=B2 v.slots k:=rfl
    simp only[L]at q
    have r:=n34 (DG (B2 v.slots k) U) (.mk k x) (DR (z U) (by decide))
    simp only[hy,YE,Y5,Yw,YR,C,Yi,f,w,YJ]
    cases v
    simp only[Val.kind,Val.bits,Val.text,Val.list,Val.pairs,Val.slots,Val.raws]at q r⊢
    rw[q]
    simp only[id,Yi,L3,D]
    cases MG (A5 (AJ s n) k) x with
    |true=>simp
    |false=>simp[r]
   ·simp[hy]
    rfl
theorem dW{F:List Fld}(h:CX F F.length){i:Nat}{f g:Fld}(k:F[i]?=some f)(b:g∈F)(e:g.num=f.num):g=f:=by
 obtain⟨c,d,j⟩:=wx h k
 rw[c]at b
 rcases Ii.1 b with a|a
 ·exact absurd e (d g a)
 ·rcases YM.1 a with a|a
  ·exact a
  ·exact absurd e (j g a)
theorem wd(l:List Slt)(k:Int):Bi (B2 l k) k=none:=by
 unfold Bi B2
 rw[O9]
 intro x a
 have:=(Eh.1 a).2
 simpa using this
theorem wr(l:List Slt)(k j:Int)(h:j≠k):Bi (B2 l k) j=Bi l j:=by
 unfold Bi B2
 rw[List.find?_filter]
 congr 1
 funext x
 by_cases e:x.num=j
 ·have a:¬x.num=k:=fun b=>h (e.symm.trans b)
  simp[a]
 ·simp[e]
theorem eo:∀(U:List Fld) (l:List Slt) (j:Int),Bi (DG l U) j=if(U.any fun g=>decide (g.num=j))=true then none else Bi l j
 |[],l,j=>rfl
 |g::U,l,j=>by
  show Bi (DG (B2 l g.num) U) j=_
  rw[eo U (B2 l g.num) j,List.any_cons]
  by_cases e:g.num=j
  ·subst e
   rw[wd]
   simp
  ·rw[wr l g.num j fun h=>e h.symm]
   simp[e]
theorem Zol(l:List Slt)(F:List Fld)(f:Fld)(k:Int)(b:Bool)(x:Val):Bi (BI l F f k b x) k=if b=true then none else some (.mk k x):=by
 have e:Bi (DG (B2 l k) (Cs F f.union)) k=none:=by
  rw[eo,wd]
  split<;>rfl
 unfold BI
 cases b with
 |true=>exact e
 |false=>exact ZnQ _ (.mk k x) e
theorem vu(l:List Slt)(F:List Fld)(f:Fld)(k:Int)(b:Bool)(x:Val)(j:Int)(h:j≠k):Bi (BI l F f k b x) j=if((Cs F f.union).any fun g=>decide (g.num=j))=true then none else Bi l j:=by
 have e:Bi (DG (B2 l k) (Cs F f.union)) j=if((Cs F f.union).any fun g=>decide (g.num=j))=true then none else Bi l j:=by
  rw[eo,wr l k j h]
 unfold BI
 cases b with
 |true=>exact e
 |false=>rw[Yr (by decide),ZoE _ (.mk k x) j fun a=>h a.symm,e]
theorem n5{F:List Fld}(h:CX F F.length){i:Nat}{o:Fld}(d:F[i]?=some o)(u:ByteArray):((Cs F u).any fun g=>decide (g.num=o.num))=(!decide (u=⟨#[]⟩)&&decide (o.union=u)):=by
 unfold Cs
 by_cases e:u=⟨#[]⟩
 ·simp[e]
 ·rw[Yr e]
  by_cases a:o.union=u
  ·rw[show(!decide (u=⟨#[]⟩)&&decide (o.union=u))=true by simp[e,a],YW]
   exact⟨o,Eh.2 ⟨Yu d,by simpa using a⟩,by simp⟩
  ·rw[show(!decide (u=⟨#[]⟩)&&decide (o.union=u))=false by simp[a],List.any_eq_false]
   intro g j
   obtain⟨f,c⟩:=Eh.1 j
   intro b
   have b:g.num=o.num:=by simpa using b
   rw[dW h d f b]at c
   exact a (by simpa using c)
theorem ZHc{F:List Fld}(v:Ul F){f:Fld}(w:f∈F){x:Val}(t:Ux f x)(l:List Slt){b:Bool}(i:b=true→ZQ f x):E2 (BI l F f f.num b x) f=x:=by
 unfold E2
 rw[Zol]
 cases b with
 |false=>rfl
 |true=>
  have i:=i rfl
  show H5 f=x
  obtain⟨r,s,p⟩:=t
  have j:f.card≠2→f.hasDefault=false:=fun u=>by
   cases e:f.hasDefault with
   |false=>rfl
   |true=>exact absurd ((v f w).1 e).2.1 u
  unfold H5
  rcases i with⟨c,y,z,e⟩|⟨k,e⟩|⟨k,e⟩
  ·obtain⟨t1,t2⟩:=p (by omega) (by omega)
   have d:f.type.kind≠10:=fun e=>by have:=t1 e;omega
   obtain⟨m,n,o,q⟩:=t2 d
   rw[j (by omega),Yr (by decide),Yr (by omega),Yr (by omega),Yr d,Ys ⟨m,n⟩,←o,←e]
  ·by_cases g:f.card=4
   ·have a:=r g
    rw[e]at a
    rw[j (by omega),Yr (by decide),Ys g,←a]
   ·exfalso
    by_cases h:f.card=5
    ·have a:=s h
     rw[a]at k
     exact absurd (show(12:Int)=11 from k) (by decide)
    ·obtain⟨t1,t2⟩:=p g h
     by_cases d:f.type.kind=10
     ·have:=t1 d;omega
     ·obtain⟨m,n,o,q⟩:=t2 d;omega
  ·by_cases h:f.card=5
   ·have a:=s h
    rw[e]at a
    rw[j (by omega),Yr (by decide),Yr (by omega),Ys h,←a]
   ·exfalso
    by_cases g:f.card=4
    ·have a:=r g
     rw[a]at k
     exact absurd (show(11:Int)=12 from k) (by decide)
    ·obtain⟨t1,t2⟩:=p g h
     by_cases d:f.type.kind=10
     ·have:=t1 d;omega
     ·obtain⟨m,n,o,q⟩:=t2 d;omega
def JB(F:List Fld)(l:List Slt):Prop:=∀(i j:Nat) (a b:Fld),j<i→F[i]?=some a→F[j]?=some b→a.union≠⟨#[]⟩→a.union=b.union→BK l a.num=true→BK l b.num=true→False
theorem ZLk{F:List Fld}(h:CX F F.length){B:Nat}{f:Fld}(v:F[B]?=some f)(l:List Slt)(b:Bool)(x:Val)(A:JB F l):JB F (BI l F f f.num b x):=by
 have key:∀(i:Nat) (a:Fld),F[i]?=some a→a.num≠f.num→BK (BI l F f f.num b x) a.num=true→BK l a.num=true∧¬(f.union≠⟨#[]⟩∧a.union=f.union):=fun i a g z n=>by
  rw[dM,vu _ _ _ _ _ _ _ z,n5 h g]at n
  by_cases e:f.union≠⟨#[]⟩∧a.union=f.union
  ·rw[show(!decide (f.union=⟨#[]⟩)&&decide (a.union=f.union))=true by simp[e.1,e.2],Ys rfl]at n
   cases n
  ·have w:(!decide (f.union=⟨#[]⟩)&&decide (a.union=f.union))=false:=by
    simp only[Yg,US,Ye,Yb]
    by_cases s:f.union=⟨#[]⟩
    ·exact .inl s
    ·exact .inr fun y=>e ⟨s,y⟩
   rw[w,Yr (by decide),←dM]at n
   exact⟨n,e⟩
 intro i j a c r g m k heq t u
 by_cases q:a.num=f.num
 ·have p:=dW h v (Yu g) q
  by_cases o:c.num=f.num
  ·obtain⟨d,rfl⟩:∃d,i=j+1+d:=⟨i-(j+1),by omega⟩
   have:=SD h d j c a m g
   omega
  ·have:=(key j c m o u).2
   subst p
   exact this ⟨k,heq.symm⟩
 ·by_cases o:c.num=f.num
  ·have p:=dW h v (Yu m) o
   have:=(key i a g q t).2
   subst p
   exact this ⟨heq▸k,heq⟩
  ·exact A i j a c r g m k heq (key i a g q t).1 (key j c m o u).1
theorem ZFA{l:List Slt}{k:Int}{x:Slt}(h:Bi l k=some x):x∈l:=Il h
theorem ZSY(k:Int)(c:0≤k)(d:k≤12):A6 (.mk k 0 ⟨#[]⟩ [] [] [] []):=by
 show AA (Ai (.mk k 0 ⟨#[]⟩ [] [] [] []))≤1048576
 have e:Ai (.mk k 0 ⟨#[]⟩ [] [] [] [])=[.int .i64 k,.int .u64 0,.str ⟨#[]⟩,.list [],.list [],.list [],.list []]:=rfl
 have a:rk .i64 k=0:=by
  have:k=0∨k=1∨k=2∨k=3∨k=4∨k=5∨k=6∨k=7∨k=8∨k=9∨k=10∨k=11∨k=12:=by omega
  rcases this with rfl|rfl|rfl|rfl|rfl|rfl|rfl|rfl|rfl|rfl|rfl|rfl|rfl<;>rfl
 have b:rk .u64 0=0:=rfl
 rw[e]
 simp only[AA,bk,CY,AL,a,b]
 decide
theorem ZIc{f:Fld}(h:A6 f.dflt):A6 (H5 f):=by
 unfold H5 zV
 repeat' split
 all_goals first|exact h|exact ZSY _ (by omega) (by omega)
theorem ZPn{f:Fld}{v:Val}(h:A6 f.dflt)(a:A6 v):A6 (E2 v.slots f):=by
 unfold E2
 cases e:Bi v.slots f.num with
 |none=>exact ZIc h
 |some x=>exact N3 a (ZFA e)
theorem ZKm(s:Scm)(n:ByteArray)(v:Val)(k:Int)(x:Val):((IT s n v k x).2≠0∧(IT s n v k x).1=zV)∨((Bg s n).2=true∧(BN (AJ s n) k).2=true∧Ux (A5 (AJ s n) k) x∧∃b:Bool,(b=true→ZQ (A5 (AJ s n) k) x)∧IT s n v k x=(.mk v.kind v.bits v.text v.list v.pairs (BI v.slots (AJ s n) (A5 (AJ s n) k) k b x) v.raws,0)):=by
 unfold IT
 cases c:(Bg s n).2 with
 |false=>exact .inl ⟨by rw[Ys rfl];decide,by rw[Ys rfl]⟩
 |true=>
  cases d:(BN (AJ s n) k).2 with
  |false=>exact .inl ⟨by rw[Yr (by decide),Ys rfl];decide,by rw[Yr (by decide),Ys rfl]⟩
  |true=>
   by_cases a:EX s (A5 (AJ s n) k) x=0
   ·rw[Yr (by decide),Yr (by decide),Yr (fun e=>e a)]
    exact .inr ⟨rfl,rfl,ZSr a,_,ZKn,rfl⟩
   ·rw[Yr (by decide),Yr (by decide),Ys a]
    exact .inl ⟨a,rfl⟩
def GZ(l:List Slt)(a b:Fld):Bool:=(!decide (a.union=⟨#[]⟩)&&decide (a.union=b.union))&&(BK l a.num&&BK l b.num)
theorem ZKa{F:List Fld}{l:List Slt}:JB F l↔∀(i j:Nat) (a b:Fld),j<i→F[i]?=some a→F[j]?=some b→GZ l a b=false:=by
 unfold JB GZ
 constructor
 ·intro h i j a b c e f
  cases d:(!decide (a.union=⟨#[]⟩)&&decide (a.union=b.union))&&(BK l a.num&&BK l b.num)with
  |false=>rfl
  |true=>
   exfalso
   simp only[Ya,Yk,Yb,Ye]at d
   exact h i j a b c e f d.1.1 d.1.2 d.2.1 d.2.2
 ·intro h i j a b c e f g k m n
  have:=h i j a b c e f
  simp[g,k,m,n]at this
  exact g (by rw[k];exact this)
def LD(F:List Fld)(l:List Slt)(i:Nat)(a:Fld):Int:=if((F.take i).any fun b=>GZ l a b)=true then 1 else 0
theorem rz(m:Msg)(v:Val)(hm:m.fields.length≤1048576)(r:v.slots.length≤4194304):Ok (fun b=>b=true↔JB m.fields v.slots) (aL m v):=by
 have s:m.fields.length<4611686018427387904:=by omega
 have G:∀(i:Nat) (a:Fld),m.fields[i]?=some a→Ao (Lc m v i) Aj 0=some (if((m.fields.take i).any fun b=>GZ v.slots a b)=true then .inr false else .inl ()):=by
  intro i a d
  have hi:=(Yn.1 d).1
  have p:(m.fields.take i).length=i:=by rw[YF];omega
  exact wR (B:=Lc m v i) (N:=Aj) (m.fields.take i) (fun b=>GZ v.slots a b) false () (fun j b f=>by
   have g:j<i∧m.fields[j]?=some b:=by
    rw[YU]at f
    split at f
    ·exact⟨by assumption,f⟩
    ·cases f
   obtain⟨n,k⟩:=g
   have t:(j:Int)<i:=by omega
   have u:j+1<9223372036854775808:=by omega
   have y:m.fields.getD i Rw.z=a:=by rw[YG,d];rfl
   have z:m.fields.getD j Rw.z=b:=by rw[YG,k];rfl
   have A:(0:Int)≤i∧(i:Int)<m.fields.length:=by omega
   have C:(0:Int)≤j∧(j:Int)<m.fields.length:=by omega
   have D:=zU v a.num r
   have E:=zU v b.num r
   unfold GZ
   dsimp only[Lc,TF,br,ix,A9,vw,vs,v2,Au,ln,Ak,clg,wa,br]
   simp only[t,u,d,y,z,A,C,D,E,Ff,YE,YJ,Dd,Ef,YQ,Yi,DP]
   rw[Bool.and_assoc]
   cases((!decide (a.union=⟨#[]⟩))&&decide (a.union=b.union))&&(BK v.slots a.num&&BK v.slots b.num)<;>simp) (by rw[p];dsimp only[Lc,TF,br,ix,A9,vw,vs,v2,Au,ln,Ak,clg,wa,br];simp) (by rw[p];exact BB (by omega))
 have F:=Hu (B:=N1 m v) (N:=Aj) m.fields (LD m.fields v.slots) (fun _=>false) () (fun i a d _=>by
  have n:=B6 d
  have k:i+1<9223372036854775808:=by have:=(Yn.1 d).1;omega
  have e:=G i a d
  unfold LD
  dsimp only[N1,Tx,TN,Tv,br,vz,vw,vs,ln,Ak,lc,wa,Ah,br]
  simp only[s,n,k,e,YE,YJ]
  cases(m.fields.take i).any fun b=>GZ v.slots a b<;>simp) (by dsimp only[N1,Tx,TN,Tv,br,vz,vw,vs,ln,Ak,lc,wa,Ah,br];simp[s]) (BB (by omega))
 have q:BQ (LD m.fields v.slots) m.fields 0=0↔JB m.fields v.slots:=by
  rw[nM,ZKa]
  constructor
  ·intro h i j a b l d f
   have:=h i a d
   unfold LD at this
   rw[YP]at this
   cases x:GZ v.slots a b with
   |false=>rfl
   |true=>
    rw[Ys]at this
    ·cases this
    ·exact YW.2 ⟨b,YK.2 ⟨j,by rw[YU,Ys l];exact f⟩,x⟩
  ·intro h i a d
   unfold LD
   rw[YP,Yr]
   intro he
   obtain⟨b,w,o⟩:=YW.1 he
   obtain⟨j,g⟩:=YK.1 w
   rw[YU]at g
   split at g
   ·rw[h i j a b (by assumption) d g]at o
    cases o
   ·cases g
 dsimp only[aL,U5,VA,Zc,lr,lc]
 rw[F]
 by_cases c:BQ (LD m.fields v.slots) m.fields 0=0
 ·rw[Ys c]
  exact⟨true,rfl,Iff.intro (fun _=>q.1 c) fun _=>rfl⟩
 ·rw[Yr c]
  exact⟨false,rfl,Iff.intro (fun h=>absurd h (by decide)) fun h=>absurd (q.2 h) c⟩
theorem Zi1{s:Scm}{n:ByteArray}{v:Val}{k:Int}{x:Val}(hs:AA (AC s)≤1048576)(_:(0:Nat)≤1)(u:AA (Ai v)≤1048576)(P:AA (Ai x)≤1048576):aA s n v k x=some true:=by
 have h:=FH hs
 obtain⟨b,e1,g1⟩:=o6g s n h
 obtain⟨b2,e2,_⟩:=o6 v u
 obtain⟨b3,e3,_⟩:=o6 x P
 dsimp only[aA,Z9,Zn,ZU,br,vy,vw,lr,lc,cl,clg,Ah,br]
 rw[e1,Yi,e2,e3,aw]
 cases b with
 |false=>simp
 |true=>
 have t:=g1 rfl
 have hl:(AJ s n).length≤1048576:=(RN t hs n).2.2
 have I:CX (AJ s n) (AJ s n).length:=(RN t hs n).1
 have hd:Ul (AJ s n):=(RN t hs n).2.1
 cases b2 with
 |false=>simp
 |true=>
 cases b3 with
 |false=>simp
 |true=>
 have E:=ZMO hs (ZJ5 t hs) n v k x u P
 have a4:=ZKm s n v k x
 generalize IT s n v k x=we at E a4
 obtain⟨w,er⟩:=we
 rcases a4 with⟨a1,C⟩|⟨hm,J,m,a,Z,he⟩
 ·have a1:er≠0:=a1
  have C:w=zV:=C
  subst C
  have R:AA (Ai zV)≤1048576:=by decide
  obtain⟨y,s1,s2⟩:=Lz Aj zV (BB (by omega)) R
  subst s2
  unfold zV at*
  simp[E,a1,s1]
 ·have hn:=dD J
  have e:A5 (AJ s n) k∈AJ s n:=by
   rcases RK (AJ s n) k with⟨D,S⟩|⟨D,S⟩
   ·rw[J]at D;cases D
   ·exact S
  have M:BN (AJ s n) k=(A5 (AJ s n) k,true):=by rw[←J];rfl
  generalize A5 (AJ s n) k=f at m Z he hn e M
  subst hn
  cases he
  obtain⟨i0,K⟩:=YK.1 e
  have A:=CS u
  have ls:(BI v.slots (AJ s n) f f.num a x).length≤4194304:=by
   have h1:=ee (Cs (AJ s n) f.union) (B2 v.slots f.num)
   have Y:(B2 v.slots f.num).length≤v.slots.length:=Ib _ _
   have h3:=A.s
   unfold BI
   split
   ·omega
   ·rw[ZyD];omega
  have m1:QA s n=some (Bg s n):=m32 s n h.ml
  have m2:Qy (Bg s n).1 f.num=some (f,true):=(n35 _ f.num hl).trans (congrArg some M)
  have W:=fun(o:Fld) (c:BN (AJ s n) o.num=(o,true))=>zH s n (.mk v.kind v.bits v.text v.list v.pairs (BI v.slots (AJ s n) f f.num a x) v.raws) o h.ml hl ls hm c
  have gv:=fun(o:Fld) (c:BN (AJ s n) o.num=(o,true))=>zH s n v o h.ml hl (by have:=A.s;omega) hm c
  have T:=W f M
  rw[show E2 (Val.mk v.kind v.bits v.text v.list v.pairs (BI v.slots (AJ s n) f f.num a x) v.raws).slots f=x from ZHc hd e m v.slots Z]at T
  have sm:∀y:Val,A6 y→Dz Aj y y=some true:=fun y hy=>by
   obtain⟨z,s1,s2⟩:=Lz Aj y (by have:AA (Ai y)≤1048576:=hy;exact A3 (by omega)) hy
   subst s2
   exact s1
  have s1:=sm x P
  obtain⟨u1,e5,a5⟩:=rz (Bg s n).1 v hl (by have:=A.s;omega)
  obtain⟨u2,e6,a6⟩:=rz (Bg s n).1 (.mk v.kind v.bits v.text v.list v.pairs (BI v.slots (AJ s n) f f.num a x) v.raws) hl ls
  have N:(u1&&!u2)=false:=by
   cases O:u1 with
   |false=>rfl
   |true=>
    have Y:u2=true:=a6.2 (ZLk I K v.slots a x (a5.1 O))
    rw[Y]
    rfl
  have lr:v.raws.length<4611686018427387904:=by have:=A.r;omega
  have q:Ok (Sum.elim Tr No) (Ao (PK s n v f.num (.mk v.kind v.bits v.text v.list v.pairs (BI v.slots (AJ s n) f f.num a x) v.raws,0) (Bg s n) (f,true)) Aj 0):=by
   refine Ok.loop (fun j:Nat=>j≤(AJ s n).length) (fun j:Nat=>(AJ s n).length-j) (by omega) (A3 (by omega)) fun j hj=>?_
   have r:(AJ s n).length<4611686018427387904:=by omega
   dsimp only[PK,ZE,br,ix,vz,vw,vs,Au,ln,Ak,cl,wa,Ah,br]
   rw[show(Bg s n).1.fields=AJ s n from rfl]
   by_cases d:(j:Int)<(AJ s n).length
   ·have L:j<(AJ s n).length:=by omega
    have c:(AJ s n)[j]?=some (AJ s n)[j]:=Yh L
    have B:j+1<9223372036854775808:=by omega
    generalize (AJ s n)[j]=o at c
    by_cases p:o.num=f.num
    ·simp[r,d,c,p,B]
     exact⟨_,rfl,⟨by omega,by omega⟩⟩
    ·have X:=Je I c
     have F:=gv o X
     have i:=W o X
     have U:=n19 (.mk v.kind v.bits v.text v.list v.pairs (BI v.slots (AJ s n) f f.num a x) v.raws) o.num (by show(BI v.slots (AJ s n) f f.num a x).length<_;omega)
     have V:BK (BI v.slots (AJ s n) f f.num a x) o.num=(Bi (BI v.slots (AJ s n) f f.num a x) o.num).isSome:=dM _ _
     have G:E2 (BI v.slots (AJ s n) f f.num a x) o=(Bi (BI v.slots (AJ s n) f f.num a x) o.num).elim (H5 o) fun x=>x.val:=rfl
     rw[vu _ _ _ _ _ _ _ p,n5 I c]at V G
     have Q:=ZPn ((hd o (Yu c))).2 u
     have s2:=sm _ Q
     by_cases l:f.union=⟨#[]⟩
     ·have H:E2 (BI v.slots (AJ s n) f f.num a x) o=E2 v.slots o:=by rw[G];simp[l];rfl
      rw[show(Val.mk v.kind v.bits v.text v.list v.pairs (BI v.slots (AJ s n) f f.num a x) v.raws).slots=BI v.slots (AJ s n) f f.num a x from rfl,H]at i
      simp[r,d,c,p,F,i,l,s2,B]
      exact⟨_,rfl,⟨by omega,by omega⟩⟩
     ·by_cases g:o.union=f.union
      ·have g9:BK (BI v.slots (AJ s n) f f.num a x) o.num=false:=by rw[V];simp[l,g]
       rw[show(Val.mk v.kind v.bits v.text v.list v.pairs (BI v.slots (AJ s n) f f.num a x) v.raws).slots=BI v.slots (AJ s n) f f.num a x from rfl,g9]at U
       simp[r,d,c,p,F,i,U,l,g,B]
       exact⟨_,rfl,⟨by omega,by omega⟩⟩
      ·have H:E2 (BI v.slots (AJ s n) f f.num a x) o=E2 v.slots o:=by rw[G];simp[g];rfl
       rw[show(Val.mk v.kind v.bits v.text v.list v.pairs (BI v.slots (AJ s n) f f.num a x) v.raws).slots=BI v.slots (AJ s n) f f.num a x from rfl,H]at i
       simp[r,d,c,p,F,i,l,g,s2,B]
       exact⟨_,rfl,⟨by omega,by omega⟩⟩
   ·simp[r,d]
    exact⟨_,rfl,trivial⟩
  obtain⟨y,q1,q2⟩:=q
  cases y with
  |inr y=>exact q2.elim
  |inl y=>
   simp[E,m1,m2,T,s1,e5,e6,N,hm,lr,q1]
   exact⟨fun h=>by rw[h]at N;simpa using N,rfl⟩
end Go.Proofs.YtleccgigifnfgaaGreat
