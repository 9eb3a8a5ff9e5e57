import Derived.Test.YthgmbpciandpiaaGreatLx12
import Derived.Test.YthgmbpciandpiaaGreatLx13
import Derived.Test.YthgmbpciandpiaaGreatLx25
import Derived.Test.YthgmbpciandpiaaGreatLx14
import Derived.Test.YthgmbpciandpiaaGreatLx27
import Derived.Test.YthgmbpciandpiaaGreatLx28
import Derived.Test.YthgmbpciandpiaaGreatLx00
namespace Go.Eng
set_option linter.all false
open Go
section
variable {σ ξ ρ β γ:Type}
def DD(M:Option (List β))(Q:β→Prop):Prop:=∃ys,M=some ys∧ys≠[]∧∀y∈ys,Q y
theorem DD.imp{M:Option (List β)}{Q R:β→Prop}(h:DD M Q)(k:∀y,Q y→R y):DD M R:=by
 obtain⟨ys,a,b,c⟩:=h
 exact⟨ys,a,b,fun y hy=>k y (c y hy)⟩
theorem OM{y:β}{Q:β→Prop}(h:Q y):DD (some [y]) Q:=⟨[y],rfl,by simp,fun z a=>by rw[Hj.1 a];exact h⟩
theorem gA{Q:β→Prop}:∀{l:List (Option (List β))},l≠[]→(∀x∈l,DD x Q)→DD (GP l) Q
 |[],h,_=>absurd rfl h
 |x::r,_,h=>by
  obtain⟨ys,rfl,b,c⟩:=h _ (YB ..)
  by_cases a:r=[]
  ·subst a
   exact⟨ys++[],rfl,by simpa using b,fun y hy=>c y (by simpa using hy)⟩
  ·obtain⟨g,d,i,e⟩:=gA a fun x f=>h x (Ys _ f)
   refine⟨ys++g,by rw[GP,d],by simp[b],fun y hy=>?_⟩
   rcases Hf.1 hy with hy|hy
   ·exact c y hy
   ·exact e y hy
theorem ZkU{M:Option (List γ)}{k:γ→Option (List β)}{Q:γ→Prop}{R:β→Prop}(h:DD M Q)(a:∀z,Q z→DD (k z) R):DD (PS M k) R:=by
 obtain⟨ys,rfl,b,c⟩:=h
 show DD (GP (ys.map k)) R
 refine gA (by simpa using b) fun x d=>?_
 obtain⟨y,hy,rfl⟩:=YI.1 d
 exact a y (c y hy)
theorem ZJ1{os:Nat}{V:Type}[Mv V]{xs:List (ByteArray×V)}{b:PT os (List β)}{c:ByteArray×V→List (ByteArray×V)→PT os (List β)}{Q:β→Prop}
  (f:xs=[]→DD b.m Q) (g:∀i x,xs[i]?=some x→DD (c x (xs.eraseIdx i)).m Q):DD (nE xs b c).m Q:=by
 cases xs with
 |nil=>exact f rfl
 |cons a r=>
  show DD (GP _) Q
  refine gA (by simp) fun x h=>?_
  obtain⟨i,hi,rfl⟩:=YI.1 h
  have hi:=Lj.1 hi
  have e:(a::r)[i]?=some ((a::r)[i]):=Ya hi
  have d:(a::r).getD i (⟨#[]⟩,Mv.z)=(a::r)[i]:=by rw[Ym,e];rfl
  rw[d]
  exact g i _ e
theorem Zli{B:σ→Option (List (Lv σ ξ ρ))}(I:Nat→σ→Prop)(Q:ξ ⊕ ρ→Prop)
  (h:∀k v,I k v→DD (B v) fun o=>match o with|.nx c=>∃k',k'<k∧I k' c|.ex b=>Q (.inl b)|.rt y=>Q (.inr y)):
  ∀N k v,k<N→I k v→DD (I8 B N v) Q
 |0,k,v,d,_=>absurd d (GC _)
 |N+1,k,v,d,f=>by
  rw[I8]
  refine ZkU (h k v f) fun o a=>?_
  cases o with
  |nx c=>obtain⟨k',g,e⟩:=a;exact Zli I Q h N k' c (by omega) e
  |ex b=>exact OM a
  |rt y=>exact OM a
theorem Zvt[DecidableEq β]{M:Option (List β)}{y:β}(h:DD M fun z=>z=y):N9 M=some y:=by
 obtain⟨ys,a,b,c⟩:=h
 exact ZHt a b c
end
section
variable {V:Type}
def BK(r:List (ByteArray×V)):List ByteArray:=r.map (·.1)
theorem TY(x y:ByteArray)(v:V):∀r:List (ByteArray×V),Dj y (Cv x v r)=if x=y then some v else Dj y r
 |[]=>by
  unfold Cv Dj
  by_cases h:x=y<;>simp[h,Dj]
 |p::r=>by
  unfold Cv
  by_cases h:p.1=x
  ·rw[show decide (p.1=x)=true from YV h]
   show Dj y ((x,v)::r)=_
   unfold Dj
   by_cases a:x=y
   ·simp[a]
   ·simp[a,show¬p.1=y from fun b=>a (h.symm.trans b)]
  ·rw[show decide (p.1=x)=false from Fv h]
   show Dj y (p::Cv x v r)=_
   unfold Dj
   rw[TY x y v r]
   by_cases a:p.1=y
   ·simp[a,show¬x=y from fun b=>h (a.trans b.symm)]
   ·simp[a]
theorem iv(x:ByteArray)(v:V):∀r:List (ByteArray×V),(x∈BK r∧BK (Cv x v r)=BK r)∨(x∉BK r∧BK (Cv x v r)=BK r++[x])
 |[]=>.inr ⟨by simp[BK],rfl⟩
 |p::r=>by
  have d:=iv x v r
  unfold Cv
  by_cases h:p.1=x
  ·rw[show decide (p.1=x)=true from YV h]
   exact .inl ⟨by unfold BK;simp[h],by unfold BK;simp[h]⟩
  ·rw[show decide (p.1=x)=false from Fv h]
   have c:¬x=p.1:=fun e=>h e.symm
   show(x∈p.1::BK r∧p.1::BK (Cv x v r)=p.1::BK r)∨(x∉p.1::BK r∧p.1::BK (Cv x v r)=p.1::BK r++[x])
   rcases d with⟨a,b⟩|⟨a,b⟩
   ·exact .inl ⟨Ys _ a,by rw[b]⟩
   ·exact .inr ⟨fun hm=>(YG.1 hm).elim c a,by rw[b];rfl⟩
theorem ZSC(x:ByteArray)(v:V){r:List (ByteArray×V)}(h:(BK r).Nodup):(BK (Cv x v r)).Nodup:=by
 rcases iv x v r with⟨_,e⟩|⟨f,e⟩
 ·rw[e];exact h
 ·rw[e,List.nodup_append]
  exact⟨h,by simp,fun a d b c=>by simp at c;subst c;exact fun e=>f (e▸d)⟩
theorem Zwp(x:ByteArray):∀r:List (ByteArray×V),x∈BK r↔(Dj x r).isSome=true
 |[]=>by simp[BK,Dj]
 |p::r=>by
  have b:=Zwp x r
  unfold Dj
  by_cases h:p.1=x
  ·simp[BK,h]
  ·have a:¬x=p.1:=fun e=>h e.symm
   simp only[h,Y2,BK,YS,YG,a,false_or]
   exact b
theorem ZIN(x:ByteArray)(v:V)(r:List (ByteArray×V)):(Cv x v r).length≤r.length+1:=by
 have e:∀r:List (ByteArray×V),r.length=(BK r).length:=fun r=>(YC _).symm
 rw[e,e r]
 rcases iv x v r with⟨_,e⟩|⟨_,e⟩<;>rw[e]<;>simp
end
def Ep(s:Scm)(n:ByteArray):Option Msg:=s.messages.find? fun m=>decide (m.name=n)
def Be(s:Scm)(n:ByteArray):Bool:=(Ep s n).isSome
def isE(s:Scm)(n:ByteArray):Bool:=s.enums.any fun e=>decide (e.name=n)
def AX(s:Scm)(n:ByteArray):List Fld:=((Ep s n).map Msg.fields).getD []
def Ha(s:Scm)(f:Fld):Bool:=Be s f.type.name&&decide (f.type.kind=10)
def u5(s:Scm)(n:ByteArray):List ByteArray:=((AX s n).filter (Ha s)).map fun f=>f.type.name
structure Fw (s:Scm):Prop where
 m:s.messages.length≤900
 e:s.enums.length≤900
 f:∀m∈s.messages,m.fields.length≤1048576
theorem Fw.fl{s:Scm}(h:Fw s)(n:ByteArray):(AX s n).length≤1048576:=by
 unfold AX
 cases hm:Ep s n with
 |none=>simp
 |some m=>exact h.f m (Y8 hm)
theorem Fw.nl{s:Scm}(h:Fw s)(n:ByteArray):(u5 s n).length≤1048576:=by
 unfold u5
 rw[YC]
 exact DI (XM _ _) (h.fl n)
def WX(s:Scm):List ByteArray:=s.messages.map Msg.name
theorem ZHX{s:Scm}{n:ByteArray}:Be s n=true↔n∈WX s:=by
 unfold Be Ep WX
 rw[List.find?_isSome]
 simp[YI]
structure WOk (s:Scm) (w:Web):Prop where
 m:∀n,Dj n w.messages=Ep s n
 e:∀n,Bj n w.enums=isE s n
 nd:(BK w.messages).Nodup
 l:w.messages.length≤s.messages.length
theorem WOk.im{s:Scm}{w:Web}(h:WOk s w)(n:ByteArray):ES n w.messages=Be s n:=by unfold ES Be;rw[h.m]
theorem WOk.fl{s:Scm}{w:Web}(h:WOk s w)(n:ByteArray):(Bj n w.messages).fields=AX s n:=by
 unfold Bj AX
 rw[h.m]
 cases Ep s n<;>rfl
theorem WOk.key{s:Scm}{w:Web}(h:WOk s w)(n:ByteArray):n∈BK w.messages↔Be s n=true:=by rw[Zwp,h.m];rfl
end Go.Eng
namespace Go.Proofs.YthgmbpciandpiaaGreat
set_option linter.all false
open Go Go.Eng
def DG(l:List Msg):List (ByteArray×Msg):=l.foldl (fun r m=>if ES m.name r=true then r else Cv m.name m r) []
def Jj(l:List Enm):List (ByteArray×Bool):=l.foldl (fun r e=>Cv e.name true r) []
theorem Zpd(l:List Msg)(m:Msg):DG (l++[m])=if ES m.name (DG l)=true then DG l else Cv m.name m (DG l):=by unfold DG;rw[NM];rfl
theorem ZoI(l:List Enm)(e:Enm):Jj (l++[e])=Cv e.name true (Jj l):=by unfold Jj;rw[NM];rfl
theorem Zst{α:Type}{P:List α→Prop}(a:P [])(b:∀l x,P l→P (l++[x]))(l:List α):P l:=by
 have:∀l:List α,P l.reverse:=fun l=>by
  induction l with
  |nil=>exact a
  |cons x l c=>rw[List.reverse_cons];exact b _ _ c
 simpa using this l.reverse
theorem ZPt(l:List Msg):(∀n,Dj n (DG l)=l.find? fun m=>decide (m.name=n))∧(BK (DG l)).Nodup∧(DG l).length≤l.length:=by
 refine Zst (P:=fun l=>(∀n,Dj n (DG l)=l.find? fun m=>decide (m.name=n))∧(BK (DG l)).Nodup∧(DG l).length≤l.length) ⟨fun n=>rfl,by simp[DG,BK],Yf _⟩ (fun l m ⟨a,b,c⟩=>?_) l
 rw[Zpd]
 split
 ·rename_i h
  refine⟨fun n=>?_,b,by simp;omega⟩
  rw[a,XF]
  cases d:l.find? fun m=>decide (m.name=n)with
  |some x=>rfl
  |none=>
   have:¬m.name=n:=fun e=>by
    subst e
    unfold ES at h
    rw[a,d]at h
    cases h
   simp[this]
 ·rename_i h
  refine⟨fun n=>?_,ZSC _ _ b,DI (ZIN ..) (by simp;omega)⟩
  rw[TY,XF,a]
  by_cases e:m.name=n
  ·subst e
   have:l.find? (fun x=>decide (x.name=m.name))=none:=by
    unfold ES at h
    rw[a]at h
    simpa using h
   simp[this]
  ·simp only[e,Y1]
   cases l.find? fun m=>decide (m.name=n)<;>simp[e]
theorem ZS9(l:List Enm)(n:ByteArray):Bj n (Jj l)=l.any fun e=>decide (e.name=n):=by
 refine Zst (P:=fun l=>Bj n (Jj l)=l.any fun e=>decide (e.name=n)) rfl (fun l e a=>?_) l
 rw[ZoI,List.any_append,←a]
 unfold Bj
 rw[TY]
 by_cases h:e.name=n<;>simp[h]
def ZXZ(s:Scm):Web:=⟨DG s.messages,Jj s.enums⟩
theorem ZMv(s:Scm):WOk s (ZXZ s):=by
 obtain⟨a,b,c⟩:=ZPt s.messages
 exact⟨a,ZS9 s.enums,b,c⟩
theorem ZZM{s:Scm}(h:Fw s):fF s=some (ZXZ s):=by
 have hm:=h.m
 have he:=h.e
 have f:Am (MQ s) Ai (0,[])=some (.inl (DG s.messages)):=by
  have:=Eh (B:=MQ s) (N:=Ai) s.messages DG (fun i b=>(i,b)) id (hN:=A6 (by omega)) (he:=by simp[MQ,WB,br,ix,wg,vs,ln,Aj,wa,F1,G9,br]) (hs:=fun i x a=>by
   have c:=BP a
   have e:=(Yd.1 a).1
   have d:i+1<9223372036854775808:=by omega
   dsimp only[MQ,WB,br,ix,wg,vs,ln,Aj,wa,F1,G9,br]
   simp only[c,d,a,Yv,Yx,Ye,Zpd]
   cases ES x.name (DG (s.messages.take i))<;>simp)
  exact this
 have g:Am (M0 s (DG s.messages)) Ai (0,[])=some (.inl (Jj s.enums)):=by
  have:=Eh (B:=M0 s (DG s.messages)) (N:=Ai) s.enums Jj (fun i b=>(i,b)) id (hN:=A6 (by omega)) (he:=by simp[M0,VY,br,ix,wg,vs,ln,Aj,wa,G9,br]) (hs:=fun i x a=>by
   have c:=BP a
   have e:=(Yd.1 a).1
   have d:i+1<9223372036854775808:=by omega
   dsimp only[M0,VY,br,ix,wg,vs,ln,Aj,wa,G9,br]
   simp only[c,d,a,Yv,Yx,Ye,ZoI])
  exact this
 dsimp only[fF,aV,X0,bm,ax,vz,wg,lr,lc,Ah]
 rw[f]
 simp only[Ye,EZ,g]
 rfl
section
variable {s:Scm} {w:Web} (hw:WOk s w) (h:Fw s)
include hw
theorem ZZF(f:Fld):fL w f=some (Ha s f):=by
 dsimp only[fL,jR,wg,lr,F1]
 rw[hw.im]
 rfl
end
theorem Zms{l r:List ByteArray}(h:l.Perm r):HR l=HR r:=
 (((Kh l).trans h).trans (Kh r).symm).eq_of_pairwise (fun a b _ _ c d=>ZxA (List.le_antisymm c d)) (TZ l) (TZ r)
theorem ZQX{l r:List ByteArray}(h:l.Nodup)(hs:∀x∈l,x∈r):l.length≤r.length:=List.Nodup.length_le_of_subset h hs
theorem ZiX{α:Type}:∀{l:List α} {i:Nat} {x:α},l[i]?=some x→(x::l.eraseIdx i).Perm l
 |a::l,0,x,h=>by simp at h;subst h;exact .refl _
 |a::l,i+1,x,h=>by
  simp at h
  exact(List.Perm.swap ..).trans ((ZiX h).cons a)
def C6(w:Web):List ByteArray:=HR (BK w.messages)
section
variable {s:Scm} {w:Web} (hw:WOk s w) (h:Fw s)
include hw
theorem hI(n:ByteArray):n∈C6 w↔Be s n=true:=by
 unfold C6
 rw[(Kh _).mem_iff,hw.key]
include h
theorem ZJP:(C6 w).length≤900:=by
 unfold C6
 rw[(Kh _).length_eq]
 have:=hw.l
 have:=h.m
 simp only[BK,YC]
 omega
theorem n33:Zey w=some (C6 w):=by
 have hl:=hw.l
 have hm:=h.m
 refine Zvt ?_
 have p:DD (I8 Ms Ai ([],w.messages)) fun o=>Sum.elim (fun l=>l.Perm (BK w.messages)) (fun _=>False) o:=by
  refine Zli (B:=Ms) (fun k v=>v.2.length=k∧(v.1++BK v.2).Perm (BK w.messages)) _ (fun k v m=>?_) Ai w.messages.length ([],w.messages) (A6 (by omega)) ⟨rfl,.refl _⟩
  obtain⟨q,g⟩:=v
  obtain⟨j,c⟩:=m
  simp only at j c
  have a:q.length≤900:=by
   have:=c.length_eq
   simp only[Yo,BK,YC]at this
   omega
  unfold Ms
  simp only
  unfold Vy
  refine ZJ1 (fun e=>?_) (fun i x f=>?_)
  ·subst e
   refine OM ?_
   simpa[BK]using c
  ·have d:=(Yd.1 f).1
   dsimp only[Ms,Vy,vz,vw,wg,ap,nE,lnN,ZXu,fl]
   rw[Yg (by omega)]
   refine OM ⟨(g.eraseIdx i).length,by rw[List.length_eraseIdx_of_lt d];omega,rfl,?_⟩
   have e:=(Yd.1 f).2
   have n:(x::g.eraseIdx i).Perm g:=ZiX f
   refine .trans ?_ c
   rw[Fu]
   refine List.Perm.append_left _ ?_
   exact n.map (·.1)
 dsimp only[eM,lN,kc,iR,mn,mz,kq,vz,vw,wg,lc,rn,lrN,fl,fr]
 refine ZkU p fun o b=>?_
 cases o with
 |inr _=>exact b.elim
 |inl l=>
  have b:l.Perm (BK w.messages):=b
  have a:l.length≤900:=by
   have:=b.length_eq
   simp only[BK,YC]at this
   omega
  have hs:(HR l).length=l.length:=(Kh l).length_eq
  simp only[EZ]
  unfold fE
  rw[Yg (by omega)]
  simp only[Ye,hs,Yx]
  exact OM (Zms b)
end
def Et(s:Scm)(n:ByteArray):Option Nat:=s.messages.findIdx? fun m=>decide (m.name=n)
def H3(s:Scm)(n:ByteArray):Msg×Int:=(Et s n).elim (zM,-1) fun i=>(s.messages.getD i zM,(i:Int))
theorem Zww(s:Scm)(n:ByteArray):Ep s n=(Et s n).bind fun i=>s.messages[i]?:=TX _ _
theorem Po{s:Scm}{n:ByteArray}{i:Nat}(h:Et s n=some i):i<s.messages.length:=by
 unfold Et at h
 rw[NG]at h
 exact h.1
theorem Ua(s:Scm)(n:ByteArray):(Et s n).isSome=Be s n:=by
 unfold Be
 rw[Zww]
 cases h:Et s n with
 |none=>rfl
 |some i=>simp[Ya (Po h)]
theorem N0{s:Scm}(h:Fw s)(n:ByteArray):ej s n=some (H3 s n):=by
 have hm:=h.m
 have d:=GE (B:=PP s n) (N:=Ai) s.messages (fun m=>decide (m.name=n)) (fun i=>(s.messages.getD i zM,(i:Int))) () (fun i x a=>by
  have b:=BP a
  have e:=(Yd.1 a).1
  have c:i+1<9223372036854775808:=by omega
  dsimp only[PP,V6,br,ix,vz,wg,vs,Au,ln,Aj,wa,Ah,br]
  simp only[b,c,a,Yv,Yx,Ye,Ym,YU]
  cases decide (x.name=n)<;>simp) (by simp[PP,V6,br,ix,vz,wg,vs,Au,ln,Aj,wa,Ah,br]) (A6 (by omega))
 dsimp only[ej,ZR,Zl,bo,wg,lr,lc]
 rw[d]
 unfold H3 Et
 cases s.messages.findIdx? fun m=>decide (m.name=n)<;>rfl
def Cs(s:Scm)(f:Fld):Bool:=decide (f.card=1)&&Ha s f
def B3(s:Scm)(n:ByteArray):List ByteArray:=((AX s n).filter (Cs s)).map fun f=>f.type.name
def BH(K:ByteArray→Int)(l:List ByteArray):Int:=if l.any (fun x=>decide (K x=0))=true then 0 else l.foldl (fun h x=>max h (K x+1)) 1
theorem Pq{K:ByteArray→Int}{l:List ByteArray}:l.any (fun x=>decide (K x=0))=true↔∃x∈l,K x=0:=by simp[YQ]
theorem ZJe{K:ByteArray→Int}{l:List ByteArray}(h:∃x∈l,K x=0):BH K l=0:=by unfold BH;rw[Yg (Pq.2 h)]
theorem Km(K:ByteArray→Int):∀(l:List ByteArray) (a:Int),a≤l.foldl (fun h x=>max h (K x+1)) a∧∀x∈l,K x+1≤l.foldl (fun h x=>max h (K x+1)) a
 |[],a=>⟨NK _,fun x h=>by cases h⟩
 |y::l,a=>by
  obtain⟨d,c⟩:=Km K l (max a (K y+1))
  rw[Ez]
  refine⟨by omega,fun x b=>?_⟩
  rcases YG.1 b with rfl|b
  ·omega
  ·exact c x b
theorem Us(K:ByteArray→Int):∀(l:List ByteArray) (a:Int),l.foldl (fun h x=>max h (K x+1)) a=a∨∃x∈l,l.foldl (fun h x=>max h (K x+1)) a=K x+1
 |[],a=>.inl rfl
 |y::l,a=>by
  rw[Ez]
  rcases Us K l (max a (K y+1))with h|⟨x,b,h⟩
  ·by_cases c:a≤K y+1
   ·exact .inr ⟨y,YB ..,by rw[h];omega⟩
   ·exact .inl (by rw[h];omega)
  ·exact .inr ⟨x,Ys _ b,h⟩
theorem HH{K:ByteArray→Int}{l:List ByteArray}(h:BH K l≠0):(∀x∈l,K x≠0)∧BH K l=l.foldl (fun h x=>max h (K x+1)) 1:=by
 unfold BH at*
 split at h
 ·exact absurd rfl h
 ·rename_i a
  rw[Yj a]
  exact⟨fun x b e=>a (Pq.2 ⟨x,b,e⟩),rfl⟩
theorem OT{K J:ByteArray→Int}{l:List ByteArray}(h:∀x∈l,K x=J x):BH K l=BH J l:=by
 unfold BH
 have c:l.any (fun x=>decide (K x=0))=l.any (fun x=>decide (J x=0)):=by
  rw[QL,Pq,Pq]
  exact⟨fun⟨x,a,b⟩=>⟨x,a,by rw[←h x a];exact b⟩,fun⟨x,a,b⟩=>⟨x,a,by rw[h x a];exact b⟩⟩
 have d:∀a:Int,l.foldl (fun h x=>max h (K x+1)) a=l.foldl (fun h x=>max h (J x+1)) a:=by
  clear c
  induction l with
  |nil=>intro a;rfl
  |cons y l f=>
   intro a
   rw[Ez,Ez,h y (YB ..)]
   exact f (fun x e=>h x (Ys _ e)) _
 rw[c,d]
def A4(s:Scm):Nat→ByteArray→Int
 |0,_=>0
 |k+1,n=>if Be s n=true then BH (A4 s k) (B3 s n)else 0
theorem Mt(s:Scm):∀(k:Nat) (n:ByteArray),0≤A4 s k n∧A4 s k n≤k
 |0,n=>⟨NK _,NK _⟩
 |k+1,n=>by
  unfold A4
  split
  ·by_cases h:BH (A4 s k) (B3 s n)=0
   ·rw[h];omega
   ·obtain⟨c,a⟩:=HH h
    rw[a]
    have d:=(Km (A4 s k) (B3 s n) 1).1
    rcases Us (A4 s k) (B3 s n) 1 with b|⟨x,e,b⟩
    ·omega
    ·have:=(Mt s k x).2
     omega
  ·omega
theorem mH(s:Scm):∀(k:Nat) (n:ByteArray),A4 s k n≠0→A4 s (k+1) n=A4 s k n
 |0,n,h=>absurd rfl h
 |k+1,n,h=>by
  rw[show A4 s (k+1+1) n=if Be s n=true then BH (A4 s (k+1)) (B3 s n)else 0 from rfl]
  have e:A4 s (k+1) n=if Be s n=true then BH (A4 s k) (B3 s n)else 0:=rfl
  rw[e]at h⊢
  by_cases hm:Be s n=true
  ·rw[Yg hm]at h⊢
   rw[Yg hm]
   exact OT fun x a=>mH s k x ((HH h).1 x a)
  ·rw[Yj hm]at h;exact absurd rfl h
theorem Uj(s:Scm)(k:Nat){n:ByteArray}(h:A4 s k n≠0):∀j,A4 s (k+j) n=A4 s k n
 |0=>rfl
 |j+1=>by
  have:=Uj s k h j
  rw[←YE,mH s (k+j) n (by rw[this];exact h),this]
theorem qR(s:Scm):∀(k:Nat) (n:ByteArray),A4 s k n≠0→A4 s (A4 s k n).toNat n=A4 s k n
 |0,n,h=>absurd rfl h
 |k+1,n,h=>by
  have e:A4 s (k+1) n=if Be s n=true then BH (A4 s k) (B3 s n)else 0:=rfl
  by_cases hm:Be s n=true
  ·rw[Yg hm]at e
   rw[e]at h⊢
   obtain⟨c,f⟩:=HH h
   obtain⟨d,a⟩:∃d:Nat,BH (A4 s k) (B3 s n)=(d+1:Nat):=by
    have:=(Km (A4 s k) (B3 s n) 1).1
    rw[←f]at this
    exact⟨(BH (A4 s k) (B3 s n)).toNat-1,by omega⟩
   rw[a,YX]
   rw[show A4 s (d+1) n=if Be s n=true then BH (A4 s d) (B3 s n)else 0 from rfl,Yg hm,←a]
   refine OT fun x b=>?_
   have i:=(Km (A4 s k) (B3 s n) 1).2 x b
   rw[←f,a]at i
   have g:=qR s k x (c x b)
   have m:=(Mt s k x).1
   obtain⟨j,l⟩:∃j,d=(A4 s k x).toNat+j:=⟨d-(A4 s k x).toNat,by omega⟩
   rw[l,Uj s _ (by rw[g];exact c x b) j,g]
  ·rw[Yj hm]at e
   exact absurd e h
theorem px(s:Scm):∀(d:Nat) (k:Nat) (n:ByteArray),A4 s k n=(d:Int)→∃l:List ByteArray,l.length=d∧l.Nodup∧(∀x∈l,Be s x=true∧A4 s k x≤(d:Int)∧A4 s k x≠0)
 |0,k,n,h=>⟨[],rfl,.nil,fun x j=>by cases j⟩
 |d+1,0,n,h=>by
  have:(0:Int)=((d+1:Nat):Int):=h
  omega
 |d+1,k+1,n,h=>by
  have e:A4 s (k+1) n=if Be s n=true then BH (A4 s k) (B3 s n)else 0:=rfl
  have f:A4 s (k+1) n≠0:=by rw[h];omega
  by_cases hm:Be s n=true
  ·rw[Yg hm]at e
   have g:BH (A4 s k) (B3 s n)≠0:=by rw[←e];exact f
   obtain⟨q,o⟩:=HH g
   rcases Us (A4 s k) (B3 s n) 1 with i|⟨x,j,i⟩
   ·have:d=0:=by rw[e,o,i]at h;omega
    subst this
    exact⟨[n],rfl,by simp,fun y hy=>by rw[Hj.1 hy];exact⟨hm,by rw[h];omega,f⟩⟩
   ·have m:A4 s (k+1) x=(d:Int):=by rw[mH s k x (q x j)];rw[e,o,i]at h;omega
    obtain⟨l,t,u,p⟩:=px s d (k+1) x m
    refine⟨n::l,by simp[t],Xs.2 ⟨fun r=>?_,u⟩,fun y hy=>?_⟩
    ·have:=(p n r).2.1
     omega
    ·rcases YG.1 hy with rfl|hy
     ·exact⟨hm,by rw[h];omega,f⟩
     ·obtain⟨a,b,c⟩:=p y hy
      exact⟨a,by omega,c⟩
  ·rw[Yj hm]at e
   exact absurd e f
theorem sG{s:Scm}{r:List ByteArray}(c:∀n,Be s n=true→n∈r)(k:Nat)(n:ByteArray):A4 s k n≤(r.length:Int):=by
 have e:=(Mt s k n).1
 obtain⟨l,f,a,b⟩:=px s (A4 s k n).toNat k n (by omega)
 have:=ZQX a (r:=r) fun x d=>c x (b x d).1
 omega
theorem ZKj{s:Scm}{N:Nat}(hN:∀k n,A4 s k n≤(N:Int)):∀(j:Nat) (n:ByteArray),A4 s (N+j) n=A4 s N n:=fun j n=>by
 by_cases h:A4 s N n=0
 ·by_cases a:A4 s (N+j) n=0
  ·rw[h,a]
  ·have b:=qR s (N+j) n a
   have d:=(Mt s (N+j) n).1
   have e:=hN (N+j) n
   obtain⟨i,hi⟩:∃i,N=(A4 s (N+j) n).toNat+i:=⟨N-(A4 s (N+j) n).toNat,by omega⟩
   have c:=Uj s (A4 s (N+j) n).toNat (n:=n) (by rw[b];exact a) i
   rw[←hi,b]at c
   rw[c]
 ·exact Uj s N h j
def AP(s:Scm)(n:ByteArray):Int:=A4 s s.messages.length n
theorem uJ{s:Scm}(k:Nat)(n:ByteArray):A4 s k n≤(s.messages.length:Int):=by
 have:=sG (s:=s) (r:=WX s) (fun n h=>ZHX.1 h) k n
 unfold WX at this
 rwa [YC]at this
theorem ZL8(s:Scm)(j:Nat)(n:ByteArray):A4 s (s.messages.length+j) n=AP s n:=ZKj uJ j n
theorem Mw(s:Scm)(n:ByteArray):AP s n=if Be s n=true then BH (AP s) (B3 s n)else 0:=by
 rw[←ZL8 s 1 n]
 rfl
theorem HE(s:Scm)(n:ByteArray):0≤AP s n∧AP s n≤(s.messages.length:Int):=⟨(Mt s _ n).1,uJ _ n⟩
def JG(s:Scm)(K:ByteArray→Int)(r:Int):Prop:=(∀n,K n=0∨K n=AP s n)∧∀n,AP s n≠0→AP s n≤r→K n=AP s n
theorem JG.hg{s:Scm}{K:ByteArray→Int}{r:Int}(h:JG s K r){n:ByteArray}(hm:Be s n=true):(BH K (B3 s n)=0∨BH K (B3 s n)=AP s n)∧(AP s n≠0→AP s n≤r+1→BH K (B3 s n)=AP s n):=by
 have e:=Mw s n
 rw[Yg hm]at e
 refine⟨?_,fun c i=>?_⟩
 ·by_cases b:BH K (B3 s n)=0
  ·exact .inl b
  ·refine .inr ?_
   rw[e]
   exact OT fun x a=>(h.1 x).resolve_left ((HH b).1 x a)
 ·rw[e]
  have d:BH (AP s) (B3 s n)≠0:=by rw[←e];exact c
  obtain⟨f,g⟩:=HH d
  refine OT fun x a=>h.2 x (f x a) ?_
  have:=(Km (AP s) (B3 s n) 1).2 x a
  rw[←g,←e]at this
  omega
theorem iC(x y:ByteArray)(v:Int)(r:List (ByteArray×Int)):Bj y (Cv x v r)=if x=y then v else Bj y r:=by
 unfold Bj
 rw[TY]
 split<;>rfl
section
variable {s:Scm} {w:Web} (hw:WOk s w) (h:Fw s)
include hw h
theorem ZZm(n:ByteArray)(K:List (ByteArray×Int))(u:∀x,0≤Bj x K∧Bj x K≤1000):Tk w n K=some (BH (fun x=>Bj x K) (B3 s n)):=by
 have hl:=h.fl n
 have e:=hw.fl n
 have j:=ZxM (B:=OW w K (Bj n w.messages)) (N:=Ai) (AX s n) (fun i (v:Int)=>(v,i)) (fun i v=>1≤v∧v≤1001) (fun v f=>if Cs s f=true then(if Bj f.type.name K=0 then .inr 0 else .inl (max v (Bj f.type.name K+1)))else(.inl v:Int ⊕ Int)) id (fun i v f d t=>by
  have m:=BP d
  have z:=(Yd.1 d).1
  have o:i+1<9223372036854775808:=by omega
  obtain⟨D,E⟩:=u f.type.name
  refine⟨?_,fun y q=>?_⟩
  ·dsimp only[OW,T3,br,ix,wg,vs,Au,ln,Aj,AC,wa,wi,F1,br]
   unfold Cs
   simp only[e,m,o,d,ZZF hw,Yv,Yx,Ye,Hl,EY,YU]
   by_cases c:f.card=1
   ·cases C:Ha s f with
    |false=>simp[c]
    |true=>
     by_cases b:Bj f.type.name K=0
     ·simp[c,b]
     ·have p:C5 true v (Bj f.type.name K+1)=max v (Bj f.type.name K+1):=by unfold C5;simp only[Yx];omega
      have r:(-9223372036854775808:Int)≤Bj f.type.name K+1∧Bj f.type.name K+1<9223372036854775808:=by omega
      simp[c,b,p,r]
   ·simp[c]
  ·split at q
   ·split at q
    ·cases q
    ·cases q;omega
   ·cases q;exact t) (fun v _=>by dsimp only[OW,T3,br,ix,wg,vs,Au,ln,Aj,AC,wa,wi,F1,br];simp[e]) 1 (by omega) (A6 (by omega))
 have k:∀(l:List Fld) (a:Int),M6 (fun v f=>if Cs s f=true then(if Bj f.type.name K=0 then .inr 0 else .inl (max v (Bj f.type.name K+1)))else(.inl v:Int ⊕ Int)) a l=if(((l.filter (Cs s)).map fun f=>f.type.name).any fun x=>decide (Bj x K=0))=true then .inr 0 else .inl (((l.filter (Cs s)).map fun f=>f.type.name).foldl (fun h x=>max h (Bj x K+1)) a):=fun l=>by
  induction l with
  |nil=>intro a;rfl
  |cons f l g=>
   intro a
   rw[M6,Ld]
   cases A:Cs s f with
   |false=>simp[g]
   |true=>
    by_cases b:Bj f.type.name K=0
    ·simp[b]
    ·simp[b,g]
 rw[k]at j
 dsimp only[Tk,gT,g8,gJ,vz,wg,lr,lc,F1,Ah]
 rw[j]
 unfold BH B3
 split<;>rfl
end
section
variable {s:Scm} {w:Web} (hw:WOk s w) (h:Fw s)
include hw h
theorem ZU6{K:List (ByteArray×Int)}{r:Int}(a:JG s (fun x=>Bj x K) r)(x:ByteArray):0≤Bj x K∧Bj x K≤1000:=by
 have b:=HE s x
 have c:=h.m
 rcases a.1 x with e|e
 ·have e:Bj x K=0:=e
  omega
 ·have e:Bj x K=AP s x:=e
  omega
theorem ZZy:∃K,eR w=some K∧∀n,Bj n K=AP s n:=by
 have F:=ZJP hw h
 have O:=Kj (B:=PV w (C6 w)) (I:=fun k v=>k+v.1=(C6 w).length∧JG s (fun x=>Bj x v.2) v.1) (Q:=fun o=>Sum.elim (fun K=>JG s (fun x=>Bj x K) (C6 w).length) (fun _=>False) o) (fun k v H=>by
  obtain⟨r,K⟩:=v
  obtain⟨M,D⟩:=H
  simp only at M D
  by_cases L:r<(C6 w).length
  ·have P:=Kj (B:=MN w (C6 w) r) (I:=fun k v=>k+v.1=(C6 w).length∧JG s (fun x=>Bj x v.2) r∧∀n∈(C6 w).take v.1,AP s n≠0→AP s n≤(r:Int)+1→Bj n v.2=AP s n) (Q:=fun o=>Sum.elim (fun K=>JG s (fun x=>Bj x K) ((r:Int)+1)) (fun _=>False) o) (fun k v J=>by
    obtain⟨i,K⟩:=v
    obtain⟨N,c,y⟩:=J
    simp only at N c y
    cases b:(C6 w)[i]? with
    |none=>
     have C:=NE.1 b
     rw[Jv C]at y
     refine⟨.ex K,by dsimp only[MN,Pw,br,ix,wg,vs,v2,ln,Aj,cs,wa,G9,br];simp[show¬(i:Int)<((C6 w).length:Int)by omega],c.1,fun n d l=>y n ?_ d l⟩
     rw[hI hw]
     cases hm:Be s n with
     |true=>rfl
     |false=>rw[Mw,hm]at d;exact absurd rfl d
    |some n=>
     have E:=BP b
     obtain⟨A,m⟩:=Yd.1 b
     have z:i+1<9223372036854775808:=by omega
     have p:n∈C6 w:=Yk b
     have hm:Be s n=true:=(hI hw n).1 p
     have q:=ZZm hw h n K (ZU6 hw h c)
     obtain⟨d,l⟩:=c.hg hm
     have t:∀x,x∈(C6 w).take (i+1)→x∈(C6 w).take i∨x=n:=fun x a=>by
      obtain⟨_,rfl⟩:=Yd.1 b
      rw[Y4 A]at a
      rcases Hf.1 a with q|q
      ·exact .inl q
      ·exact .inr (Hj.1 q)
     by_cases u:0<BH (fun x=>Bj x K) (B3 s n)
     ·have he:BH (fun x=>Bj x K) (B3 s n)=AP s n:=d.resolve_left (by omega)
      refine⟨.nx (i+1,Cv n (BH (fun x=>Bj x K) (B3 s n)) K),by dsimp only[MN,Pw,br,ix,wg,vs,v2,ln,Aj,cs,wa,G9,br];simp[E,A,z,b,m,q,u],k-1,by omega,by simp only;omega,⟨fun x=>?_,fun x f g=>?_⟩,fun x a f g=>?_⟩
      ·simp only[iC]
       split
       ·rename_i e;subst e;exact .inr he
       ·exact c.1 x
      ·simp only[iC]
       split
       ·rename_i e;subst e;exact he
       ·exact c.2 x f g
      ·simp only[iC]
       split
       ·rename_i e;subst e;exact he
       ·rename_i e
        exact y x ((t x a).resolve_right fun q=>e q.symm) f g
     ·refine⟨.nx (i+1,K),by dsimp only[MN,Pw,br,ix,wg,vs,v2,ln,Aj,cs,wa,G9,br];simp[E,A,z,b,m,q,u],k-1,by omega,by simp only;omega,c,fun x a f g=>?_⟩
      rcases t x a with q|rfl
      ·exact y x q f g
      ·have:=l f g
       have:=(HE s x).1
       omega) Ai (C6 w).length (0,K) (A6 (by omega)) ⟨rfl,D,fun n F=>by simp at F⟩
   obtain⟨o,e,j⟩:=P
   cases o with
   |inr _=>exact j.elim
   |inl G=>
    have z:r+1<9223372036854775808:=by omega
    exact⟨.nx (r+1,G),by dsimp only[PV,Wm,WP,V0,br,vz,vs,v2,ln,Aj,lc,wa,Ah,br];simp[L,e,z],k-1,by omega,by simp only;omega,j⟩
  ·refine⟨.ex K,by dsimp only[PV,Wm,WP,V0,br,vz,vs,v2,ln,Aj,lc,wa,Ah,br];simp[show¬(r:Int)<((C6 w).length:Int)by omega],?_⟩
   have:r=(C6 w).length:=by omega
   subst this
   exact D) Ai (C6 w).length (0,[]) (A6 (by omega)) ⟨rfl,fun n=>.inl rfl,fun n d l=>by
    have:=(HE s n).1
    simp only at l
    omega⟩
 obtain⟨o,e,j⟩:=O
 cases o with
 |inr _=>exact j.elim
 |inl K=>
  refine⟨K,?_,fun n=>?_⟩
  ·dsimp only[eR,bZ,ZO,aQ,vz,wg,lr,lc,cl,Ah]
   simp only[n33 hw h,Ye,e,EZ]
  ·by_cases u:AP s n=0
   ·rcases j.1 n with e|e
    ·exact e.trans u.symm
    ·exact e
   ·exact j.2 n u (sG (fun x a=>(hI hw x).2 a) _ _)
end
theorem ZZf{s:Scm}(h:Fw s)(n:ByteArray):fK s n=some (AP s n):=by
 obtain⟨K,e,k⟩:=ZZy (ZMv s) h
 dsimp only[fK,Zt,wg,lr,cl,F1]
 simp only[ZZM h,e,Ye,k]
def DU(s:Scm)(l:List Fld):List ByteArray:=(l.filter (Cs s)).map fun f=>f.type.name
theorem Zyv(s:Scm)(l:List Fld)(f:Fld):DU s (l++[f])=DU s l++(if Cs s f=true then[f.type.name]else[]):=by
 unfold DU
 rw[QU,EX]
 cases a:Cs s f<;>simp[Ld,a]
def DE(s:Scm)(K:List Int)(x:ByteArray):Int:=(Et s x).elim 0 fun i=>K.getD i 0
section
variable {s:Scm} (h:Fw s)
include h
theorem q48(K:List Int)(hl:K.length=s.messages.length)(L:∀x∈K,0≤x∧x≤1000)(i:Nat)(m:Msg)(hm:s.messages[i]?=some m)(G:List Int):∃v,Am (Gi s K i G) Ai (0,0)=some (.inl v)∧v+1=BH (DE s K) (DU s m.fields)∧ -1≤v∧v≤1000:=by
 have T:=h.f m (Yk hm)
 have M:∀x,0≤DE s K x∧DE s K x≤1000:=fun x=>by
  unfold DE
  cases b:Et s x with
  |none=>exact⟨NK _,show(0:Int)≤1000 by decide⟩
  |some j=>
   have U:=Po b
   have e:K[j]?=some K[j]:=Ya (by omega)
   show 0≤K.getD j 0∧K.getD j 0≤1000
   rw[Ym,e]
   exact L _ (Io _)
 have O:=Kj (B:=Gi s K i G) (I:=fun k v=>k+v.2=m.fields.length∧((0≤v.1∧v.1≤1000∧(∀x∈DU s (m.fields.take v.2),DE s K x≠0)∧v.1+1=(DU s (m.fields.take v.2)).foldl (fun h x=>max h (DE s K x+1)) 1)∨(v.1= -1∧∃x∈DU s m.fields,DE s K x=0))) (Q:=fun o=>Sum.elim (fun v=>v+1=BH (DE s K) (DU s m.fields)∧ -1≤v∧v≤1000) (fun _=>False) o) (fun k v J=>by
  obtain⟨v,j⟩:=v
  obtain⟨N,F⟩:=J
  simp only at N F
  have P:s.messages.getD i zM=m:=by rw[Ym,hm];rfl
  rcases F with⟨a1,t,a3,a4⟩|⟨a1,t⟩
  ·cases g:m.fields[j]? with
   |none=>
    have C:=NE.1 g
    rw[Jv C]at a3 a4
    refine⟨.ex v,by dsimp only[Gi,HJ,br,ix,CF,AS,vz,wg,vs,ln,Aj,cl,wa,fl,Ah,br];simp[hm,show¬j<m.fields.length by omega],?_,by omega,by omega⟩
    unfold BH
    rw[Yj fun q=>by obtain⟨x,b,e⟩:=Pq.1 q;exact a3 x b e]
    exact a4
   |some f=>
    obtain⟨r,c⟩:=Yd.1 g
    have S:=BP g
    have u:j+1<9223372036854775808:=by omega
    have a:=Zyv s (m.fields.take j) f
    rw[show m.fields.take j++[f]=m.fields.take (j+1)by rw[Y4 r,c]]at a
    have B8:=M f.type.name
    have w:=Ua s f.type.name
    have key:DE s K f.type.name=(Et s f.type.name).elim 0 fun i=>K.getD i 0:=rfl
    by_cases n:f.card=1
    ·by_cases d:f.type.kind=10
     ·cases b:Et s f.type.name with
      |none=>
       have l:Cs s f=false:=by unfold Cs Ha;rw[←w,b];simp
       rw[l]at a
       refine⟨.nx (v,j+1),by dsimp only[Gi,HJ,br,ix,CF,AS,vz,wg,vs,ln,Aj,cl,wa,fl,Ah,br];simp[hm,r,u,a1,g,c,n,d,N0 h,H3,b],k-1,by omega,by simp only;omega,.inl ⟨a1,t,?_,?_⟩⟩
       ·simpa[a]using a3
       ·simpa[a]using a4
      |some p=>
       have V:=Po b
       have l:Cs s f=true:=by unfold Cs Ha;rw[←w,b];simp[n,d]
       rw[l]at a
       have D:K[p]?=some K[p]:=Ya (by omega)
       have z:DE s K f.type.name=K[p]:=by rw[key,b];show K.getD p 0=_;rw[Ym,D];rfl
       have y:p<K.length:=by omega
       have R:K.getD p Rw.z=K[p]:=by rw[Ym,D];rfl
       by_cases A:K[p]=0
       ·refine⟨.nx (-1,j+1),by dsimp only[Gi,HJ,br,ix,CF,AS,vz,wg,vs,ln,Aj,cl,wa,fl,Ah,br];simp[hm,r,u,a1,g,c,n,d,N0 h,H3,b,y,A],k-1,by omega,by simp only;omega,.inr ⟨rfl,f.type.name,?_,by rw[z];exact A⟩⟩
        unfold DU
        exact YI.2 ⟨f,Y6.2 ⟨Yk g,l⟩,rfl⟩
       ·rw[z]at B8
        have H:C5 true v K[p]=max v K[p]:=by unfold C5;simp only[Yx];omega
        refine⟨.nx (max v K[p],j+1),by dsimp only[Gi,HJ,br,ix,CF,AS,vz,wg,vs,ln,Aj,cl,wa,fl,Ah,br];simp[hm,r,u,a1,g,c,n,d,N0 h,H3,b,y,A,H],k-1,by omega,by simp only;omega,.inl ⟨by simp only;omega,by simp only;omega,fun x b=>?_,?_⟩⟩
        ·simp only[a,Yx]at b
         rcases Hf.1 b with q|q
         ·exact a3 x q
         ·rw[Hj.1 q,z];exact A
        ·simp only[a,Yx,NM,Ez,List.foldl_nil,←a4,z]
         omega
     ·have l:Cs s f=false:=by unfold Cs Ha;simp[d]
      rw[l]at a
      refine⟨.nx (v,j+1),by dsimp only[Gi,HJ,br,ix,CF,AS,vz,wg,vs,ln,Aj,cl,wa,fl,Ah,br];simp[hm,r,u,a1,g,c,n,d],k-1,by omega,by simp only;omega,.inl ⟨a1,t,?_,?_⟩⟩
      ·simpa[a]using a3
      ·simpa[a]using a4
    ·have l:Cs s f=false:=by unfold Cs;simp[n]
     rw[l]at a
     refine⟨.nx (v,j+1),by dsimp only[Gi,HJ,br,ix,CF,AS,vz,wg,vs,ln,Aj,cl,wa,fl,Ah,br];simp[hm,r,u,a1,g,c,n],k-1,by omega,by simp only;omega,.inl ⟨a1,t,?_,?_⟩⟩
     ·simpa[a]using a3
     ·simpa[a]using a4
  ·refine⟨.ex v,by dsimp only[Gi,HJ,br,ix,CF,AS,vz,wg,vs,ln,Aj,cl,wa,fl,Ah,br];simp[hm,a1],?_,by omega,by omega⟩
   rw[ZJe t,a1]
   rfl) Ai m.fields.length (0,0) (A6 (by omega)) ⟨rfl,.inl ⟨by decide,by decide,by simp[DU],by simp[DU]⟩⟩
 obtain⟨o,e,E⟩:=O
 cases o with
 |inr _=>exact E.elim
 |inl v=>exact⟨v,e,E⟩
theorem ZZk(K:List Int)(hl:K.length=s.messages.length)(u:∀x∈K,0≤x∧x≤1000):∃L,ei s K=some L∧L.length=s.messages.length∧∀(i:Nat) (m:Msg),s.messages[i]?=some m→L[i]?=some (BH (DE s K) (DU s m.fields)):=by
 have hm:=h.m
 have A:=Kj (B:=PQ s K) (I:=fun k v=>k+v.1=s.messages.length∧v.2.length=s.messages.length∧∀(i:Nat) (m:Msg),i<v.1→s.messages[i]?=some m→v.2[i]?=some (BH (DE s K) (DU s m.fields))) (Q:=fun o=>Sum.elim (fun L=>L.length=s.messages.length∧∀(i:Nat) (m:Msg),s.messages[i]?=some m→L[i]?=some (BH (DE s K) (DU s m.fields))) (fun _=>False) o) (fun k v t=>by
  obtain⟨i,r⟩:=v
  obtain⟨y,d,f⟩:=t
  simp only at y d f
  cases c:s.messages[i]? with
  |none=>
   have w:=NE.1 c
   exact⟨.ex r,by dsimp only[PQ,Wj,Wy,Re,Rq,Wa,br,vz,vs,ln,Aj,lc,wa,wi,ir,st,rn,fl,A7,br];simp[show¬(i:Int)<(r.length:Int)by omega],d,fun j m b=>f j m (by have:=(Yd.1 b).1;omega) b⟩
  |some m=>
   have D:=(Yd.1 c).1
   have p:i+1<9223372036854775808:=by omega
   obtain⟨v,e,C,v2,v3⟩:=q48 h K hl u i m c r
   have q:(-9223372036854775808:Int)≤v+1∧v+1<9223372036854775808:=by omega
   have l:i<r.length:=by omega
   refine⟨.nx (i+1,r.set i (v+1)),by dsimp only[PQ,Wj,Wy,Re,Rq,Wa,br,vz,vs,ln,Aj,lc,wa,wi,ir,st,rn,fl,A7,br];simp[l,e,p,q],k-1,by omega,by simp only;omega,by simp[d],fun j z b a=>?_⟩
   simp only
   by_cases g:i=j
   ·subst g
    rw[c]at a
    cases a
    rw[List.getElem?_set_self l,C]
   ·rw[List.getElem?_set_ne g]
    exact f j z (by simp only at b;omega) a) Ai s.messages.length (0,List.replicate s.messages.length 0) (A6 (by omega)) ⟨rfl,by simp,fun j m b=>by simp only at b;omega⟩
 obtain⟨o,e,n⟩:=A
 cases o with
 |inr _=>exact n.elim
 |inl L=>
  refine⟨L,?_,n⟩
  dsimp only[ei,bD,bf,bp,vz,wg,lr,lc,ms,fl,fr,Ah]
  rw[Yg (by omega),e]
  rfl
theorem ZY5(n:ByteArray):Tl s n=some (AP s n):=by
 have hm:=h.m
 cases a:Et s n with
 |none=>
  have e:AP s n=0:=by
   rw[Mw,←Ua,a]
   rfl
  dsimp only[Tl,Wd,RQ,Ws,Wn,br,CF,vz,vw,wg,lr,lc,cl,ms,fl,fz,Ah,br]
  simp[N0 h,H3,a,e]
 |some p=>
  have H:=Kj (B:=PU s (H3 s n)) (I:=fun k v=>k+v.2=s.messages.length∧v.1.length=s.messages.length∧(∀x i,Et s x=some i→v.1[i]?=some (A4 s v.2 x))∧∀x∈v.1,0≤x∧x≤1000) (Q:=fun o=>Sum.elim (fun L=>L.length=s.messages.length∧∀x i,Et s x=some i→L[i]?=some (AP s x)) (fun _=>False) o) (fun k v C=>by
   obtain⟨K,r⟩:=v
   obtain⟨F,f,g,m⟩:=C
   simp only at F f g m
   by_cases E:r<s.messages.length
   ·obtain⟨L,e,G,q⟩:=ZZk h K f m
    have w:r+1<9223372036854775808:=by omega
    have c:∀x,DE s K x=A4 s r x:=fun x=>by
     unfold DE
     cases a:Et s x with
     |none=>
      have:Be s x=false:=by rw[←Ua,a];rfl
      cases r with
      |zero=>rfl
      |succ r=>show 0=if Be s x=true then _ else 0;rw[this];rfl
     |some i=>
      show K.getD i 0=_
      rw[Ym,g x i a];rfl
    refine⟨.nx (L,r+1),by dsimp only[PU,Wb,br,vz,wg,vs,v2,ln,Aj,cl,wa,Ah,br];simp[E,e,w],k-1,by omega,by simp only;omega,G,fun x i a=>?_,fun x a=>?_⟩
    ·have hi:=Po a
     have b:s.messages[i]?=some s.messages[i]:=Ya hi
     simp only
     rw[q i _ b]
     have D:Be s x=true:=by rw[←Ua,a];rfl
     have d:AX s x=s.messages[i].fields:=by unfold AX;rw[Zww,a];simp[b]
     show _=some (if Be s x=true then BH (A4 s r) (B3 s x)else 0)
     rw[Yg D]
     unfold B3
     rw[d]
     exact congrArg some (OT fun y _=>c y)
    ·obtain⟨i,hi,rfl⟩:=Xv.1 a
     have b:s.messages[i]?=some s.messages[i]:=Ya (by simp only at hi;omega)
     have:=q i _ b
     simp only at hi
     rw[Ya hi]at this
     have u:=Option.some.inj this
     simp only
     rw[u]
     by_cases l:BH (DE s K) (DU s s.messages[i].fields)=0
     ·rw[l];decide
     ·obtain⟨_,J⟩:=HH l
      rw[J]
      have z3:=(Km (DE s K) (DU s s.messages[i].fields) 1).1
      rcases Us (DE s K) (DU s s.messages[i].fields) 1 with z4|⟨y,hy,z4⟩
      ·omega
      ·have:=(Mt s r y).2
       rw[←c]at this
       omega
   ·refine⟨.ex K,by dsimp only[PU,Wb,br,vz,wg,vs,v2,ln,Aj,cl,wa,Ah,br];simp[show¬(r:Int)<(s.messages.length:Int)by omega],f,?_⟩
    have:r=s.messages.length:=by omega
    subst this
    exact g) Ai s.messages.length (List.replicate s.messages.length 0,0) (A6 (by omega)) ⟨rfl,by simp,fun x i a=>by
     have:=Po a
     simp[List.getElem?_replicate,this,A4],fun x a=>by
     rw[(QT.1 a).2];decide⟩
  obtain⟨o,e,j⟩:=H
  cases o with
  |inr _=>exact j.elim
  |inl L=>
   have:=j.2 n p a
   dsimp only[Tl,Wd,RQ,Ws,Wn,br,CF,vz,vw,wg,lr,lc,cl,ms,fl,fz,Ah,br]
   simp only[N0 h,Ye]
   have t:(H3 s n).2=(p:Int):=by unfold H3;rw[a];rfl
   have z:s.messages.length≤549755813888:=by omega
   rw[e]
   have A:¬(p:Int)<0:=by omega
   simp[t,z,this,A]
end
def Cy(k:Int):Val:=if(decide (1≤k)&&decide (k≤9))=true then .mk k 0 ⟨#[]⟩ [] [] [] []else .mk 0 0 ⟨#[]⟩ [] [] [] []
def Bs(R:ByteArray→Val×Nat)(f:Fld):Val×Nat:=if f.type.kind=10 then R f.type.name else(Cy f.type.kind,1)
def Dw(l:List Fld):List Fld:=l.filter fun f=>decide (f.card=1)
def BX(R:ByteArray→Val×Nat)(l:List Fld):Nat:=((Dw l).map fun f=>(Bs R f).2).sum
def BB(R:ByteArray→Val×Nat)(l:List Fld):List Slt:=(Dw l).map fun f=>.mk f.num (Bs R f).1
def AY(s:Scm):Nat→ByteArray→Val×Nat
 |0,_=>(.mk 10 0 ⟨#[]⟩ [] [] [] [],1)
 |k+1,n=>(.mk 10 0 ⟨#[]⟩ [] [] (BB (AY s k) (AX s n)) [],1+BX (AY s k) (AX s n))
theorem Zpb(l:List Fld)(f:Fld):Dw (l++[f])=Dw l++(if f.card=1 then[f]else[]):=by
 unfold Dw
 rw[QU]
 by_cases h:f.card=1<;>simp[Ld,h]
theorem Zwa(R:ByteArray→Val×Nat)(l:List Fld)(f:Fld):BX R (l++[f])=BX R l+(if f.card=1 then(Bs R f).2 else 0):=by
 unfold BX
 rw[Zpb]
 by_cases h:f.card=1<;>simp[h]
theorem ZsI(R:ByteArray→Val×Nat)(l:List Fld)(f:Fld):BB R (l++[f])=BB R l++(if f.card=1 then[.mk f.num (Bs R f).1]else[]):=by
 unfold BB
 rw[Zpb]
 by_cases h:f.card=1<;>simp[h]
theorem ZJW(R:ByteArray→Val×Nat)(l:List Fld)(i:Nat):BX R (l.take i)≤BX R l:=by
 have h:l=l.take i++l.drop i:=(Hi i l).symm
 have e:BX R l=BX R (l.take i)+BX R (l.drop i):=by
  conv=>lhs;rw[h]
  unfold BX Dw
  rw[QU,EX,List.sum_append]
 omega
theorem Zpk(R:ByteArray→Val×Nat)(l:List Fld):(BB R l).length≤l.length:=by
 unfold BB Dw
 rw[YC]
 exact XM _ _
theorem ZHG{α:Type}{l:List α}{i:Nat}{x:α}(h:l[i]?=some x):l.take (i+1)=l.take i++[x]:=by
 obtain⟨a,rfl⟩:=Yd.1 h
 exact Y4 a
theorem ZtX{l:List Fld}(h:C3 l l.length):∀(d i:Nat) (a b:Fld),l[i]?=some a→l[i+1+d]?=some b→a.num<b.num
 |0,i,a,b,e,c=>h i a b (Yd.1 c).1 e c
 |d+1,i,a,b,e,c=>by
  have g:=(Yd.1 c).1
  have f:i+1+d<l.length:=by omega
  have j:=ZtX h d i a l[i+1+d] e (Ya f)
  have k:=h (i+1+d) l[i+1+d] b (by omega) (Ya f) c
  omega
theorem ZBM{R:ByteArray→Val×Nat}{l:List Fld}(h:C3 l l.length){i:Nat}{f:Fld}(b:l[i]?=some f):∀x∈BB R (l.take i),x.num<f.num:=fun x a=>by
 unfold BB Dw at a
 obtain⟨g,hg,rfl⟩:=YI.1 a
 obtain⟨j,c,rfl⟩:=oT.1 (Y6.1 hg).1
 exact ZtX h (i-(j+1)) j _ f (Ya (by omega)) (by rw[show j+1+(i-(j+1))=i by omega];exact b)
theorem k62(k:Int):fD k=some (Cy k):=by
 dsimp only[fD,ci,br,wg,lr,cl,br,Zh7,Z6,lr]
 unfold Cy
 cases(decide (1≤k)&&decide (k≤9))<;>rfl
theorem k61(s:Scm)(n:ByteArray)(h:s.messages.length≤1048576):fi s n=some (Cp s.messages zM fun m=>decide (m.name=n)):=by
 dsimp only[fi,ay,wg,lr,cs]
 rw[m84 _ _ h]
 rfl
theorem ZQ3(s:Scm)(n:ByteArray):(Cp s.messages zM fun m=>decide (m.name=n)).1.fields=AX s n:=by
 unfold Cp AX Ep
 cases s.messages.find? fun m=>decide (m.name=n)<;>rfl
theorem k34(l:List Slt)(x:Slt)(h:l.length≤1048576)(a:∀y∈l,y.num<x.num):OD l x=some (l++[x]):=by
 have e:l.findIdx? (fun y=>decide (x.num<y.num))=none:=XJ.2 fun y hy=>by have:=a y hy;simp;omega
 rw[n34 l x (by omega)]
 unfold dl
 rw[e]
def Gy:Val:=.mk 0 0 ⟨#[]⟩ [] [] [] []
def JO(r:Val×Nat):Val×Int×Bool:=if r.2≤4096 then(r.1,(r.2:Int),true)else(Gy,0,false)
theorem ZIf{R:ByteArray→Val×Nat}(h:∀x,1≤(R x).2)(f:Fld):1≤(Bs R f).2:=by
 unfold Bs
 split
 ·exact h _
 ·exact Yf _
theorem Zn3(s:Scm):∀(k:Nat) (x:ByteArray),1≤(AY s k x).2
 |0,_=>Yf _
 |k+1,_=>by show 1≤1+_;omega
theorem k26{s:Scm}{n:ByteArray}(hs:s.messages.length≤1048576)(hl:(AX s n).length≤1048576)(M:C3 (AX s n) (AX s n).length)(R:ByteArray→Val×Nat)(B:Nat)
  (L:∀f∈AX s n,f.card=1→f.type.kind=10→IX B s f.type.name=some (JO (R f.type.name))) (Q:∀x,1≤(R x).2):
  IX (B+1) s n=some (JO (.mk 10 0 ⟨#[]⟩ [] [] (BB R (AX s n)) [],1+BX R (AX s n))):=by
 obtain⟨C,q⟩:∃C,C=Cp s.messages zM fun m=>decide (m.name=n):=⟨_,rfl⟩
 have K:C.1.fields=AX s n:=by rw[q];exact ZQ3 s n
 obtain⟨F,I⟩:∃F,F=AX s n:=⟨_,rfl⟩
 rw[←I]at K hl M L⊢
 have U:Ok (Sum.elim (fun v:Int×List Slt=>v.1=((1+BX R F:Nat):Int)∧1+BX R F≤4096∧v.2=BB R F) (fun y=>y=(Gy,0,false)∧4096<1+BX R F)) (Am (V7 s (IX B) C) Ai (1,0,([]:List Slt))):=by
  refine A8 (fun v:Int×Nat×List Slt=>v.2.1≤F.length∧v.1=((1+BX R (F.take v.2.1):Nat):Int)∧1+BX R (F.take v.2.1)≤4096∧v.2.2=BB R (F.take v.2.1)) (fun v:Int×Nat×List Slt=>F.length-v.2.1) ⟨Ft _,by simp[BX,Dw],by simp[BX,Dw],by simp[BB,Dw]⟩ (Bm (by omega)) fun v T=>?_
  obtain⟨v,i,c⟩:=v
  obtain⟨O,G,H,h⟩:=T
  dsimp only at O G H h
  dsimp only[V7,bw,br,ix,wg,vs,v2,Au,ln,Aj,cl,cs,wa,wi,br]
  rw[K]
  cases o:F[i]? with
  |none=>
   have P:=NE.1 o
   have hi:i=F.length:=by omega
   subst hi
   rw[Lc]at G H h
   have g:¬((F.length:Int)<(F.length:Int)):=by omega
   simp only[g,Y2,Yu,Y1]
   exact AD ⟨G,H,h⟩
  |some f=>
   have hi:=(Yd.1 o).1
   have N:(i:Int)<(F.length:Int):=by omega
   have E:i+1<9223372036854775808:=by omega
   have hm:=Yk o
   have a:=Zwa R (F.take i) f
   have d:=ZsI R (F.take i) f
   rw[←ZHG o]at a d
   have V:=ZJW R F (i+1)
   have W:i<9223372036854775807:=by omega
   simp only[N,Yv,Yx,Ye]
   by_cases l:f.card=1
   ·rw[Yg l]at a d
    have p:c.length≤1048576:=by
     have:=Zpk R (F.take i)
     rw[←h,Yy]at this
     omega
    have j:∀x:Val,OD c (.mk f.num x)=some (c++[.mk f.num x]):=fun x=>k34 c (.mk f.num x) p fun y hy=>ZBM M o y (by rw[←h];exact hy)
    have t:=ZIf Q f
    simp only[l,k62,Ye,Yv,Y5,Yu,Y1]
    by_cases w:f.type.kind=10
    ·have k:Bs R f=R f.type.name:=by unfold Bs;rw[Yg w]
     rw[k]at a d t
     have S:=L f hm l w
     simp only[w,Yv,Yx,S,Ye]
     unfold JO
     by_cases u:(R f.type.name).2≤4096
     ·have z: -9223372036854775808≤v+((R f.type.name).2:Int)∧v+((R f.type.name).2:Int)<9223372036854775808:=by omega
      simp only[u,Yx,z,Dx,Y5,Jn]
      by_cases r:(4096:Int)<v+((R f.type.name).2:Int)
      ·simp only[r,Yv,Yx]
       exact AD ⟨rfl,by omega⟩
      ·simp only[r,Y2,Yu,Y1,j,Ye,E,Yx]
       refine AD ⟨⟨by show i+1≤_;omega,?_,?_,?_⟩,by show F.length-(i+1)<F.length-i;omega⟩
       ·show v+_=((1+BX R (F.take (i+1)):Nat):Int);omega
       ·show 1+BX R (F.take (i+1))≤4096;omega
       ·show c++_=_;rw[d,h]
     ·have z: -9223372036854775808≤v+(0:Int)∧v+(0:Int)<9223372036854775808:=by omega
      simp only[u,Y1,z,Dx,Yx,DY,NH]
      exact AD ⟨rfl,by omega⟩
    ·have k:Bs R f=(Cy f.type.kind,1):=by unfold Bs;rw[Yj w]
     rw[k]at a d
     have z: -9223372036854775808≤v+(1:Int)∧v+(1:Int)<9223372036854775808:=by omega
     simp only[w,Y2,Yu,Y1,z,Dx,Yx]
     by_cases r:(4096:Int)<v+1
     ·simp only[r,Yv,Yx]
      exact AD ⟨rfl,by simp only at a;omega⟩
     ·simp only[r,Y2,Yu,Y1,j,Ye,E,Yx]
      refine AD ⟨⟨by show i+1≤_;omega,?_,?_,?_⟩,by show F.length-(i+1)<F.length-i;omega⟩
      ·show v+1=((1+BX R (F.take (i+1)):Nat):Int);simp only at a;omega
      ·show 1+BX R (F.take (i+1))≤4096;simp only at a;omega
      ·show c++_=_;rw[d,h]
   ·rw[Yj l]at a d
    simp only[l,Y2,DY,Yx,E]
    refine AD ⟨⟨by show i+1≤_;omega,?_,?_,?_⟩,by show F.length-(i+1)<F.length-i;omega⟩
    ·show v=((1+BX R (F.take (i+1)):Nat):Int);omega
    ·show 1+BX R (F.take (i+1))≤4096;omega
    ·show c=_;rw[d,h,Iq]
 obtain⟨y,e,u⟩:=U
 show SY (IX B) s n=_
 dsimp only[SY,Zz,aB,aG,Zb,vz,vw,wg,lr,lc,cl,fz,Ah]
 rw[k61 _ _ hs,Ye,←q,e]
 cases y with
 |inl b=>
  obtain⟨A,D,J⟩:=u
  obtain⟨b,c⟩:=b
  dsimp only at A D J
  subst J
  subst A
  unfold JO
  rw[Yg D]
  rfl
 |inr y=>
  obtain⟨A,D⟩:=u
  subst A
  unfold JO
  rw[Yj (by show¬1+BX R F≤4096;omega)]
  rfl
theorem UJ{s:Scm}{n:ByteArray}{k:Nat}(h:Be s n=true→AP s n≠0∧AP s n≤((k+1:Nat):Int)){f:Fld}(a:f∈AX s n)(g:f.card=1)(i:f.type.kind=10):Be s f.type.name=true→AP s f.type.name≠0∧AP s f.type.name≤(k:Int):=fun j=>by
 have hm:Be s n=true:=by
  unfold Be
  unfold AX at a
  cases e:Ep s n with
  |none=>rw[e]at a;simp at a
  |some m=>rfl
 obtain⟨b,l⟩:=h hm
 have e:=Mw s n
 rw[Yg hm]at e
 rw[e]at b
 obtain⟨d,o⟩:=HH b
 have c:f.type.name∈B3 s n:=by
  unfold B3
  refine YI.2 ⟨f,Y6.2 ⟨a,?_⟩,rfl⟩
  unfold Cs Ha
  simp[g,i,j]
 have p:=(Km (AP s) (B3 s n) 1).2 _ c
 exact⟨d _ c,by omega⟩
theorem ZTn{s:Scm}{n:ByteArray}(h:Be s n=true→AP s n≠0∧AP s n≤((0:Nat):Int)){f:Fld}(a:f∈AX s n):False:=by
 have hm:Be s n=true:=by
  unfold Be
  unfold AX at a
  cases e:Ep s n with
  |none=>rw[e]at a;simp at a
  |some m=>rfl
 have:=h hm
 have:=(HE s n).1
 omega
section
variable {s:Scm} (hs:s.messages.length≤1048576) (hl:∀n,(AX s n).length≤1048576)
include hs hl
theorem ZYV(c:∀n,C3 (AX s n) (AX s n).length):∀(k a:Nat) (n:ByteArray),(Be s n=true→AP s n≠0∧AP s n≤(k:Int))→k<a→IX a s n=some (JO (AY s (k+1) n))
 |k,0,n,h,b=>by omega
 |0,a+1,n,h,b=>k26 hs (hl n) (c n) (AY s 0) a (fun f b _ _=>(ZTn h b).elim) (Zn3 s 0)
 |k+1,a+1,n,h,b=>k26 hs (hl n) (c n) (AY s (k+1)) a (fun f hm d e=>ZYV c k a _ (UJ h hm d e) (by omega)) (Zn3 s _)
end
theorem ZV5(k:Int)(h:0≤k∧k≤12):rk .i64 k=0:=by
 have:k=0∨k=1∨k=2∨k=3∨k=4∨k=5∨k=6∨k=7∨k=8∨k=9∨k=10∨k=11∨k=12:=by omega
 rcases this with rfl|rfl|rfl|rfl|rfl|rfl|rfl|rfl|rfl|rfl|rfl|rfl|rfl<;>rfl
theorem O8(k:Int)(h:0≤k∧k≤12):Ar (Ag (.mk k 0 ⟨#[]⟩ [] [] [] []))=0:=by
 show Ar [.int .i64 k,.int .u64 0,.str ⟨#[]⟩,.list [],.list [],.list [],.list []]=0
 simp only[Ar,bk,AR,W2,ZV5 k h]
 decide
theorem ZPH(k:Int):Ar (Ag (Cy k))=0:=by
 unfold Cy
 split
 ·rename_i h
  rw[Yc,Yw,Yw]at h
  exact O8 _ (by omega)
 ·exact O8 _ (by omega)
theorem rz(R:ByteArray→Val×Nat)(h:∀x,Ar (Ag (R x).1)+1≤(R x).2):∀l:List Fld,(∀f∈l,rk .i64 f.num=0)→AR ((l.map fun f=>(.mk f.num (Bs R f).1:Slt)).map Ap)≤(l.map fun f=>(Bs R f).2).sum
 |[],_=>Yf _
 |f::l,a=>by
  have g:=rz R h l fun f c=>a f (Ys _ c)
  have b:=a f YB
  have e:Ap (.mk f.num (Bs R f).1)=D.int .i64 f.num::Ag (Bs R f).1:=by rw[GI];rfl
  have d:Ar (Ag (Bs R f).1)+1≤(Bs R f).2:=by
   unfold Bs
   split
   ·exact h _
   ·rw[ZPH];exact Yf _
  simp only[YS,List.sum_cons,AR,e,Ar,bk,b]
  omega
theorem tq{s:Scm}(a:∀(n:ByteArray),∀f∈AX s n,rk .i64 f.num=0):∀(k:Nat) (n:ByteArray),Ar (Ag (AY s k n).1)+1≤(AY s k n).2
 |0,n=>by
  unfold AY
  rw[O8 _ (by omega)]
  exact Yf _
 |k+1,n=>by
  have h:=rz (AY s k) (tq a k) (Dw (AX s n)) fun f c=>a n f (Y6.1 c).1
  unfold AY
  show Ar (Ag (.mk 10 0 ⟨#[]⟩ [] [] (BB (AY s k) (AX s n)) []))+1≤1+BX (AY s k) (AX s n)
  have b:Ar (Ag (.mk 10 0 ⟨#[]⟩ [] [] (BB (AY s k) (AX s n)) []))=Ar [.int .i64 10,.int .u64 0,.str ⟨#[]⟩,.list [],.list [],.list ((BB (AY s k) (AX s n)).map Ap),.list []]:=rfl
  have d:rk .i64 10=0:=by decide
  have e:rk .u64 0=0:=by decide
  rw[b]
  simp only[Ar,bk,AR,W2,d,e]
  unfold BB BX
  omega
theorem ZSr{s:Scm}(h:∀(i:Nat) (m:Msg),s.messages[i]?=some m→GdM s m)(n:ByteArray):C3 (AX s n) (AX s n).length:=by
 unfold AX Ep
 cases e:s.messages.find? fun m=>decide (m.name=n)with
 |none=>intro i a b hi;simp at hi
 |some m=>
  obtain⟨i,hi⟩:=YD.1 (Y8 e)
  exact(h i m hi).asc
theorem ia(s:Scm)(n:ByteArray):AX s n=BV s n:=by
 unfold AX Ep BV Cp
 cases s.messages.find? fun m=>decide (m.name=n)<;>rfl
theorem jZ(s:Scm)(n:ByteArray):Be s n=(B1 s n).2:=by
 unfold Be Ep B1 Cp
 cases s.messages.find? fun m=>decide (m.name=n)<;>rfl
theorem Ue{R:ByteArray→Val×Nat}{F:List Fld}{x:Slt}:x∈BB R F↔∃f∈F,f.card=1∧x=.mk f.num (Bs R f).1:=by
 unfold BB Dw
 rw[YI]
 constructor
 ·rintro⟨f,c,rfl⟩
  obtain⟨a,b⟩:=Y6.1 c
  exact⟨f,a,Y3 b,rfl⟩
 ·rintro⟨f,a,b,rfl⟩
  exact⟨f,Y6.2 ⟨a,YV b⟩,rfl⟩
theorem Zv6{R:ByteArray→Val×Nat}{F:List Fld}(h:C3 F F.length):GS (BB R F):=by
 unfold GS BB Dw
 rw[List.pairwise_map]
 exact(jD h).filter _
theorem ZRP{k:Int}(h:1≤k∧k≤9):Cy k=.mk k 0 ⟨#[]⟩ [] [] [] []:=by
 unfold Cy
 rw[Yg (by simp[h])]
theorem ZRf{k:Int}(h:1≤k∧k≤9):Ej k (.mk k 0 ⟨#[]⟩ [] [] [] [])=0:=by
 have:k=1∨k=2∨k=3∨k=4∨k=5∨k=6∨k=7∨k=8∨k=9:=by omega
 rcases this with rfl|rfl|rfl|rfl|rfl|rfl|rfl|rfl|rfl<;>decide+kernel
theorem ZWK{s:Scm}(he:∀(j:Nat) (e:Enm),s.enums[j]?=some e→Hd e){f:Fld}(h:GdF s f)(o:f.type.kind≠10)(R:Msg→Val→Int):Dk R s f.type (Cy f.type.kind)=0:=by
 have p:=h.ty
 have b:1≤f.type.kind∧f.type.kind≤9:=by omega
 have sc:=ZRf b
 rw[ZRP b]
 unfold Dk
 rw[Yj o,Yj (by omega)]
 by_cases g:f.type.kind=9
 ·have d:=h.en g
  rw[Yj (fun c=>c.elim (fun e=>e sc) fun e=>e g),Yj (by rw[d];decide),Yj]
  rintro⟨_,a⟩
  unfold C2 Cp at d a
  cases e:s.enums.find? fun x=>decide (x.name=f.type.name)with
  |none=>rw[e]at d;cases d
  |some x=>
   rw[e]at a
   obtain⟨j,n⟩:=YD.1 (Y8 e)
   obtain⟨i,k,l⟩:=he j x n
   have m:H9 x 0=true:=YQ.2 ⟨i,Yk k,by rw[l];decide+kernel⟩
   have a:H9 x 0=false:=a
   rw[m]at a
   cases a
 ·rw[Yg (.inr g)]
  exact sc
theorem Vt{s:Scm}(g:GdS s){n:ByteArray}{f:Fld}(a:f∈AX s n)(b:f.type.kind=10):Be s f.type.name=true:=by
 rw[jZ]
 rw[ia]at a
 exact(g.fl n f a).ms b
theorem qe{s:Scm}(g:GdS s):∀(k:Nat) (n:ByteArray),Be s n=true→AP s n≠0→AP s n≤(k:Int)→AY s (k+1) n=AY s k n
 |0,n,_,i,j=>by
  have:=(HE s n).1
  omega
 |k+1,n,hm,i,j=>by
  have e:∀f∈Dw (AX s n),Bs (AY s (k+1)) f=Bs (AY s k) f:=fun f c=>by
   obtain⟨c,h⟩:=Y6.1 c
   have h:=Y3 h
   unfold Bs
   by_cases d:f.type.kind=10
   ·rw[Yg d,Yg d]
    have l:=Vt g c d
    obtain⟨a,b⟩:=UJ (k:=k) (fun _=>⟨i,j⟩) c h d l
    exact qe g k _ l a b
   ·rw[Yj d,Yj d]
  have m:BB (AY s (k+1)) (AX s n)=BB (AY s k) (AX s n):=Y9 fun f c=>by rw[e f c]
  have o:BX (AY s (k+1)) (AX s n)=BX (AY s k) (AX s n):=congrArg List.sum (Y9 fun f c=>by rw[e f c])
  show(Val.mk 10 0 ⟨#[]⟩ [] [] (BB (AY s (k+1)) (AX s n)) [],1+BX (AY s (k+1)) (AX s n))=(Val.mk 10 0 ⟨#[]⟩ [] [] (BB (AY s k) (AX s n)) [],1+BX (AY s k) (AX s n))
  rw[m,o]
theorem ZKH(l:List Slt):CA (.mk 10 0 ⟨#[]⟩ [] [] l [])=false:=by
 unfold CA
 rw[YM]
 rintro(⟨_,h⟩|⟨_,h⟩|⟨h,_⟩|⟨h,_⟩|⟨h,_⟩)
 ·exact absurd h (Nat.lt_irrefl 0)
 ·exact absurd h (Nat.lt_irrefl 0)
 ·exact h rfl
 ·exact h rfl
 ·exact h rfl
theorem o3{s:Scm}(g:GdS s)(he:∀(j:Nat) (e:Enm),s.enums[j]?=some e→Hd e):∀(k:Nat) (n:ByteArray),Be s n=true→AP s n≠0→AP s n≤(k:Int)→Bc s true k (B1 s n).1 (AY s k n).1=0
 |0,n,_,r,t=>by
  have:=(HE s n).1
  omega
 |k+1,n,hm,r,t=>by
  have o:=g.asc n
  have q:(B1 s n).1.fields=BV s n:=rfl
  rw[MJ]
  show OkM s true k (B1 s n).1 (.mk 10 0 ⟨#[]⟩ [] [] (BB (AY s k) (AX s n)) [])
  have i:=ia s n
  refine⟨rfl,ZKH _,?_,fun x d=>?_,fun f c p=>?_,fun x d=>by cases d⟩
  ·rw[q]
   show(BB (AY s k) (AX s n)).Pairwise _
   rw[i]
   refine List.Pairwise.imp_of_mem (fun {a b} _ v u=>⟨by omega,?_⟩) (Zv6 (R:=AY s k) o)
   obtain⟨f,c,p,rfl⟩:=Ue.1 v
   rintro⟨_,h⟩
   have e:BG (BV s n) (Slt.mk f.num (Bs (AY s k) f).1).num=f:=congrArg Prod.fst (Kr o c)
   rw[e]at h
   have:=(g.fl n f c).un h
   omega
  ·have d:x∈BB (AY s k) (AX s n):=d
   rw[i]at d
   obtain⟨f,c,p,rfl⟩:=Ue.1 d
   rw[q,show(Slt.mk f.num (Bs (AY s k) f).1).num=f.num from rfl,Kr o c,show BG (BV s n) f.num=f from congrArg Prod.fst (Kr o c)]
   refine⟨rfl,?_⟩
   show CK (Bc s true k) s true f (Bs (AY s k) f).1=0
   unfold CK Bs
   rw[Yj (by omega),Yj (by omega)]
   by_cases l:f.type.kind=10
   ·rw[Yg l]
    have m:f∈AX s n:=by rw[i];exact c
    have d:=Vt g m l
    obtain⟨a,b⟩:=UJ (k:=k) (fun _=>⟨r,t⟩) m p l d
    unfold Dk
    rw[Yg l,Yg ((jZ s f.type.name)▸d)]
    exact o3 g he k _ d a b
   ·rw[Yj l]
    exact ZWK he (g.fl n f c) l _
  ·rw[q]at c
   refine YQ.2 ⟨.mk f.num (Bs (AY s k) f).1,Ue.2 ⟨f,by rw[i];exact c,p,rfl⟩,YV rfl⟩
theorem ZPc(k:Int):Dg (Cy k)=Cy k:=by
 unfold Dg
 rw[Yj]
 rintro⟨_,h⟩
 have e:(Cy k).bits=0:=by unfold Cy;split<;>rfl
 rw[e]at h
 revert h
 decide+kernel
theorem Zrl{s:Scm}(g:GdS s):∀(k d:Nat) (n:ByteArray),BQ s d n (AY s k n).1=(AY s k n).1
 |k,0,n=>rfl
 |0,d+1,n=>by
  have:Cq (CD (BQ s d)) (BV s n) []=[]:=by unfold Cq;simp
  show Val.mk 10 0 ⟨#[]⟩ [] [] (Cq (CD (BQ s d)) (BV s n) []) (FX [])=_
  rw[this]
  rfl
 |k+1,d+1,n=>by
  have a:=g.asc n
  show Val.mk 10 0 ⟨#[]⟩ [] [] (Cq (CD (BQ s d)) (BV s n) (BB (AY s k) (AX s n))) (FX [])=.mk 10 0 ⟨#[]⟩ [] [] (BB (AY s k) (AX s n)) []
  rw[ia,ZB0 a (Zv6 a) fun x e=>?_]
  ·rfl
  ·obtain⟨f,c,h,rfl⟩:=Ue.1 e
   unfold oM
   rw[show(Slt.mk f.num (Bs (AY s k) f).1).num=f.num from rfl,Kr a c,show BG (BV s n) f.num=f from congrArg Prod.fst (Kr a c)]
   refine⟨rfl,?_,?_⟩
   ·unfold Ce
    rw[Yj (by omega),Yj (by omega),Fv (by omega)]
    rfl
   ·show CD (BQ s d) f (Bs (AY s k) f).1=(Bs (AY s k) f).1
    unfold CD Dq Bs
    rw[Yj (by omega),Yj (by omega)]
    by_cases b:f.type.kind=10
    ·rw[Yg b,Yg b]
     exact Zrl g k d f.type.name
    ·rw[Yj b,Yj b]
     exact ZPc _
theorem ZPw(k:Int):cnt (Cy k)=1:=by
 unfold Cy
 split<;>rfl
theorem ZuL{R:ByteArray→Val×Nat}(h:∀n,cnt (R n).1=(R n).2):∀l:List Fld,B7 (l.map fun f=>(.mk f.num (Bs R f).1:Slt))=(l.map fun f=>(Bs R f).2).sum
 |[]=>rfl
 |f::l=>by
  have b:=ZuL h l
  have a:cnt (Bs R f).1=(Bs R f).2:=by
   unfold Bs
   split
   ·exact h _
   ·exact ZPw _
  simp only[YS,List.sum_cons,B7,KI,a,b]
theorem ZrV(s:Scm):∀(k:Nat) (n:ByteArray),cnt (AY s k n).1=(AY s k n).2
 |0,n=>rfl
 |k+1,n=>by
  have h:=ZuL (ZrV s k) (Dw (AX s n))
  show cnt (.mk 10 0 ⟨#[]⟩ [] [] (BB (AY s k) (AX s n)) [])=1+BX (AY s k) (AX s n)
  unfold BB BX
  simp only[cnt,Br,BM,EW,h]
theorem T4{s:Scm}(K:ByteArray→Int):∀(F:List Fld) (a:Int),(∀f∈F,f.type.kind=10→Be s f.type.name=true)→(F.filter fun f=>decide (f.card=1)).foldl (fun d f=>max d (if f.type.kind=10 then K f.type.name else 0)) a+1=((F.filter (Cs s)).map fun f=>f.type.name).foldl (fun h x=>max h (K x+1)) (max a 0+1)∨¬(0≤a)
 |[],a,_=>by
  by_cases h:0≤a
  ·left
   show a+1=max a 0+1
   rw[Int.max_eq_left h]
  ·exact .inr h
 |f::F,a,i=>by
  by_cases h:0≤a
  ·by_cases c:f.card=1
   ·by_cases g:f.type.kind=10
    ·have j:=i f YB g
     have r:Cs s f=true:=by unfold Cs Ha;simp[c,g,j]
     have b:=T4 K F (max a (K f.type.name)) fun o e=>i o (Ys _ e)
     rcases b with b|b
     ·left
      rw[NF (by simpa using c),NF r,Ez,YS,Ez,Yg g,b]
      congr 1
      omega
     ·exact absurd (by omega:0≤max a (K f.type.name)) b
    ·have r:¬Cs s f=true:=by unfold Cs Ha;simp[g]
     have b:=T4 K F (max a 0) fun o e=>i o (Ys _ e)
     rcases b with b|b
     ·left
      rw[NF (by simpa using c),Lg r,Ez,Yj g,b]
      congr 1
      omega
     ·exact absurd (by omega:0≤max a 0) b
   ·have r:¬Cs s f=true:=by unfold Cs;simp[c]
    rw[Lg (by simpa using c),Lg r]
    exact T4 K F a fun o e=>i o (Ys _ e)
  ·exact .inr h
theorem Zn0(R:Val→Option Int)(v:Val)(g:v.list=[])(h:v.pairs=[])(z:v.slots.length≤1048576)(D:Slt→Int)(r:∀x∈v.slots,R x.val=some (D x))(s:∀x∈v.slots,0≤D x∧D x≤1000000):LQ R v=some (if v.kind=10 then v.slots.foldl (fun d x=>max d (D x)) 0+1 else v.slots.foldl (fun d x=>max d (D x)) 0):=by
 have m:v.slots.length<4611686018427387904:=by omega
 have u:=Eh (B:=Rf v R) (N:=Ai) (ρ:=Int) v.list (fun _=>(0:Int)) (fun i b=>(b,i)) id (fun i x f=>by rw[g]at f;simp at f) (by dsimp only[Rf,cg,br,ix,vz,wg,vs,v2,ln,Aj,cs,wa,Ah,br];simp[g]) (by rw[g];exact A6 (by simp))
 have w:=Eh (B:=Q3 v R) (N:=Ai) (ρ:=Int) v.pairs (fun _=>(0:Int)) (fun i b=>(b,i)) id (fun i x f=>by rw[h]at f;simp at f) (by dsimp only[Q3,Z9,br,ix,vz,wg,vs,ln,Aj,cs,wa,Ah,br];simp[h]) (by rw[h];exact A6 (by simp))
 have j:=Eh (B:=MV v R) (N:=Ai) (ρ:=Int) v.slots (fun p=>p.foldl (fun d x=>max d (D x)) 0) (fun i b=>(b,i)) id (fun i x f=>by
  have o:=BP f
  have q:i+1<9223372036854775808:=by have:=(Yd.1 f).1;omega
  have e:=r x (Yk f)
  rw[NM,Ez,List.foldl_nil]
  generalize (v.slots.take i).foldl (fun d x=>max d (D x)) 0=a
  dsimp only[MV,Rp,br,ix,vz,wg,vs,ln,Aj,cs,wa,Ah,br]
  simp only[m,o,f,e,q,Yv,Yx,Ye]
  unfold C5
  simp
  try omega) (by dsimp only[MV,Rp,br,ix,vz,wg,vs,ln,Aj,cs,wa,Ah,br];simp[m]) (A6 (by omega))
 have n:∀(l:List Slt) (a:Int),0≤a→a≤1000000→(∀x∈l,0≤D x∧D x≤1000000)→0≤l.foldl (fun d x=>max d (D x)) a∧l.foldl (fun d x=>max d (D x)) a≤1000000:=by
  intro l
  induction l with
  |nil=>intro a k g _;exact⟨k,g⟩
  |cons x l t=>
   intro a k g hl
   have:=hl x YB
   exact t (max a (D x)) (by omega) (by omega) fun y hy=>hl y (Ys _ hy)
 have b:=n v.slots 0 (by omega) (by omega) s
 dsimp only[LQ,ZQ,bE,Z2,aL,XV,br,wg,vs,lr,lc,wi,br]
 rw[u,Ye]
 simp only[EZ,id]
 rw[w,Ye]
 simp only[EZ,id]
 have j:Am (MV v R) Ai (0,0)=some (.inl (v.slots.foldl (fun d x=>max d (D x)) 0)):=j
 rw[j,Ye]
 simp only[EZ,id]
 by_cases c:v.kind=10
 ·rw[Yg (YV c),Yg c,Yg (by omega)]
 ·rw[Yj (by simp[c]),Yj c]
theorem ZQo(c:Nat)(k:Int):Dy (c+1) (Cy k)=some 0:=by
 have e:Cy k=.mk (Cy k).kind 0 ⟨#[]⟩ [] [] [] []:=by unfold Cy;split<;>rfl
 have h:(Cy k).kind≠10:=by
  unfold Cy
  split
  ·rename_i h
   rw[Yc,Yw,Yw]at h
   show k≠10
   omega
  ·decide
 have d:(Cy k).list=[]:=by rw[e];rfl
 have f:(Cy k).pairs=[]:=by rw[e];rfl
 have b:(Cy k).slots=[]:=by rw[e];rfl
 show LQ (Dy c) (Cy k)=some 0
 rw[Zn0 _ _ d f (by rw[b];simp) (fun _=>0) (fun x a=>by rw[b]at a;cases a) (fun x a=>by rw[b]at a;cases a),Yj h,b]
 rfl
theorem ZsM{s:Scm}(g:GdS s)(hl:∀n,(AX s n).length≤1048576)(hm:s.messages.length≤1000000):∀(k c:Nat) (n:ByteArray),Be s n=true→AP s n≠0→AP s n≤(k:Int)→k<c→Dy c (AY s k n).1=some (AP s n)
 |0,c,n,_,t,w,_=>by
  have:=(HE s n).1
  omega
 |k+1,0,n,_,_,_,h=>by omega
 |k+1,c+1,n,i,t,w,D=>by
  have key:∀f∈Dw (AX s n),Dy c (Bs (AY s k) f).1=some (if f.type.kind=10 then AP s f.type.name else 0):=fun f j=>by
   obtain⟨j,v⟩:=Y6.1 j
   have v:=Y3 v
   unfold Bs
   by_cases p:f.type.kind=10
   ·rw[Yg p,Yg p]
    have i:=Vt g j p
    obtain⟨a,b⟩:=UJ (k:=k) (fun _=>⟨t,w⟩) j v p i
    exact ZsM g hl hm k c _ i a b (by omega)
   ·rw[Yj p,Yj p]
    obtain⟨c,rfl⟩:∃m,c=m+1:=⟨c-1,by omega⟩
    exact ZQo c _
  have q:∀x∈BB (AY s k) (AX s n),Dy c x.val=some ((Dy c x.val).getD 0)∧0≤(Dy c x.val).getD 0∧(Dy c x.val).getD 0≤1000000:=fun x i=>by
   unfold BB at i
   obtain⟨f,j,rfl⟩:=YI.1 i
   have:=key f j
   rw[show(Slt.mk f.num (Bs (AY s k) f).1).val=(Bs (AY s k) f).1 from rfl,this]
   refine⟨rfl,?_⟩
   show 0≤(if f.type.kind=10 then AP s f.type.name else 0)∧(if f.type.kind=10 then AP s f.type.name else 0)≤1000000
   have:=HE s f.type.name
   split<;>omega
  have e:=Zn0 (Dy c) (.mk 10 0 ⟨#[]⟩ [] [] (BB (AY s k) (AX s n)) []) rfl rfl (DI (Zpk _ _) (hl n)) (fun x=>(Dy c x.val).getD 0) (fun x i=>(q x i).1) (fun x i=>(q x i).2)
  show LQ (Dy c) (.mk 10 0 ⟨#[]⟩ [] [] (BB (AY s k) (AX s n)) [])=_
  rw[e,Yg (show(Val.mk 10 0 ⟨#[]⟩ [] [] (BB (AY s k) (AX s n)) []).kind=10 from rfl)]
  have z:(BB (AY s k) (AX s n)).foldl (fun d x=>max d ((Dy c x.val).getD 0)) 0=(Dw (AX s n)).foldl (fun d f=>max d (if f.type.kind=10 then AP s f.type.name else 0)) 0:=by
   unfold BB
   rw[List.foldl_map]
   have H:∀(l:List Fld) (a:Int),(∀f∈l,Dy c (Bs (AY s k) f).1=some (if f.type.kind=10 then AP s f.type.name else 0))→l.foldl (fun d f=>max d ((Dy c (Slt.mk f.num (Bs (AY s k) f).1).val).getD 0)) a=l.foldl (fun d f=>max d (if f.type.kind=10 then AP s f.type.name else 0)) a:=by
    intro l
    induction l with
    |nil=>intro a _;rfl
    |cons f l C=>
     intro a y
     rw[Ez,Ez,show(Slt.mk f.num (Bs (AY s k) f).1).val=(Bs (AY s k) f).1 from rfl,y f YB]
     exact C _ fun o B=>y o (Ys _ B)
   exact H _ 0 key
  have r:=T4 (s:=s) (AP s) (AX s n) 0 fun f j p=>Vt g j p
  have u:=Mw s n
  rw[Yg i]at u
  rw[u]at t
  have A:=(HH t).2
  rcases r with r|r
  ·show some ((BB (AY s k) (AX s n)).foldl (fun d x=>max d ((Dy c x.val).getD 0)) 0+1)=_
   rw[z]
   unfold Dw
   rw[r,u,A]
   rfl
  ·omega
end Go.Proofs.YthgmbpciandpiaaGreat
