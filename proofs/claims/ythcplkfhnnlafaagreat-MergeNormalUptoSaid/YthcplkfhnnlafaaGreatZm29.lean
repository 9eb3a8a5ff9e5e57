import Derived.Test.YthcplkfhnnlafaaGreatZm28
import Derived.Test.YthcplkfhnnlafaaGreatZm25
import Derived.Test.YthcplkfhnnlafaaGreatZm26
import Derived.Test.YthcplkfhnnlafaaGreatZm00
namespace Go.Proofs.YthcplkfhnnlafaaGreat
set_option linter.all false
open Go Go.Eng
theorem Ip{l:List Slt}{k:Int}{x:Slt}(h:BA l k=some x):x∈l/\x.num=k:=⟨J5 h,Y7 (p:=x.num=k) (aR (p:=λx:Slt=>decide (x.num=k)) h)⟩
theorem RF{l:List Slt}{k:Int}:BA l k=none↔∀x∈l,x.num≠k:=by unfold BA;rw[TN];simp
theorem l7{α:Type}{R:α->α->Prop}(sy:∀{a b},R a b->R b a){l:List α}(h:l.Pairwise R){x y:α}(hx:x∈l)(hy:y∈l)(n:x≠y):R x y:=by
 obtain⟨i,hi,rfl⟩:=List.mem_iff_getElem.1 hx;obtain⟨j,d,rfl⟩:=List.mem_iff_getElem.1 hy;rcases PX i j with c|c|c
 ·exact G6.1 h i j hi d c
 ·subst c;exact absurd rfl n
 ·exact sy (G6.1 h j i d hi c)
theorem xu{l:List Slt}(h:l.Pairwise λa b=>a.num≠b.num){x:Slt}(hx:x∈l):BA l x.num=some x:=by
 cases e:BA l x.num with
 |none=>exact absurd rfl (RF.1 e x hx)
 |some y=>
  obtain⟨d,f⟩:=Ip e;by_cases c:y=x
  ·rw[c]
  ·exact absurd f (l7 (R:=λa b:Slt=>a.num≠b.num) (λh e=>h e.symm) h d hx c)
def F9(R:ByteArray->Val->Val->Val)(F:List Fld)(p:List Slt)(x:Slt):Slt:=.mk x.num ((BA p x.num).elim x.val λy=>DI R (AC F x.num) x.val y.val)
def Ck(R:ByteArray->Val->Val->Val)(F:List Fld)(A p:List Slt):List Slt:=A.map (F9 R F p)++p.filter λy=>!Bt A y.num
theorem Zxp(p:List Slt)(y:Slt)(k:Int)(h:y.num≠k):BA (p++[y]) k=BA p k:=by unfold BA;rw[TR];simp[h]
theorem xo{R:ByteArray->Val->Val->Val}{F:List Fld}{p:List Slt}{y x:Slt}(h:y.num≠x.num):F9 R F (p++[y]) x=F9 R F p x:=by unfold F9;rw[Zxp p y x.num h]
theorem ZD2(R:ByteArray->Val->Val->Val)(F:List Fld)(A:List Slt):Ck R F A []=A:=by
 have:F9 R F []=id:=funext λx=>by cases x;rfl
 unfold Ck;rw[this];simp
theorem ZK6{R:ByteArray->Val->Val->Val}{F:List Fld}{A p:List Slt}{y:Slt}{i:Nat}(hi:A.findIdx? (λx=>decide (x.num=y.num))=some i):(Ck R F A p).findIdx? (λx=>decide (x.num=y.num))=some i:=by unfold Ck;rw[List.findIdx?_append,List.findIdx?_map];have:((λx:Slt=>decide (x.num=y.num))∘F9 R F p)=λx=>decide (x.num=y.num):=rfl;rw[this,hi];rfl
theorem ZDY{R:ByteArray->Val->Val->Val}{F:List Fld}{A p:List Slt}{y:Slt}{i:Nat}(m:A.Pairwise λa b=>a.num≠b.num)(r:∀x∈p,x.num≠y.num)(hi:A.findIdx? (λx=>decide (x.num=y.num))=some i):
  ∃x,A[i]?=some x/\(Ck R F A p)[i]?=some x/\x.num=y.num/\Ck R F A (p++[y])=(Ck R F A p).set i (.mk x.num (DI R (AC F y.num) x.val y.val)):=by
 obtain⟨d,o,_⟩:=Nc.1 hi;have hx:A[i]?=some A[i]:=Ye d;have f:(A[i]).num=y.num:=Y7 o;have n:BA p (A[i]).num=none:=by rw[RF,f];exact r
 have t:F9 R F p A[i]=A[i]:=by unfold F9;rw[n];cases A[i];rfl
 refine⟨A[i],hx,?_,f,?_⟩
 ·unfold Ck;rw[Ys (by rw[YF];exact d),YR,hx,Y0,t]
 ·have s:Bt A y.num=true:=YP.2 ⟨A[i],G3 d,Yp f⟩;unfold Ck;rw[EH,show([y].filter λy=>!Bt A y.num)=[]by simp[s],Iy,List.set_append_left (h:=by rw[YF];exact d)];congr 1;apply List.ext_getElem?;intro j;rw[YR,List.getElem?_set,YF,YR];by_cases c:i=j
  ·subst c;rw[Yi rfl,Yi d,hx,Y0];congr 1;unfold F9;rw[show BA (p++[y]) (A[i]).num=some y by unfold BA at*;rw[TR,n];simp[f],f];rfl
  ·rw[Yh c];cases e:A[j]? with
   |none=>rfl
   |some z=>
    have q:=(Yb.1 e);obtain⟨g,k⟩:=q;have l:y.num≠z.num:=by
     rw[<-f,<-k];rcases Nat.lt_or_gt_of_ne c with h|h
     ·exact(G6.1 m) i j d g h
     ·exact λe=>(G6.1 m) j i g d h e.symm
    rw[Y0,Y0,xo l]
theorem ZEm{R:ByteArray->Val->Val->Val}{F:List Fld}{A p:List Slt}{y:Slt}(b:∀x∈p,x.num≠y.num)(hi:A.findIdx? (λx=>decide (x.num=y.num))=none):
  (Ck R F A p).findIdx? (λx=>decide (x.num=y.num))=none/\Ck R F A (p++[y])=Ck R F A p++[y]:=by
 have a:∀x∈A,x.num≠y.num:=λx hx=>of_decide_eq_false (Nb.1 hi x hx);constructor
 ·rw[Nb];intro x hx;refine Yu ?_;rcases DT.1 hx with hx|hx
  ·obtain⟨z,d,rfl⟩:=YV.1 hx;exact a z d
  ·exact b x ((Y2.1 hx).1)
 ·have c:Bt A y.num=false:=by unfold Bt;rw[TQ];intro x hx;simp[a x hx]
  unfold Ck;rw[EH,show([y].filter λy=>!Bt A y.num)=[y]by simp[c],DB];congr 1;exact El λx hx=>xo λe=>a x hx e.symm
theorem zx(R:ByteArray->Val->Val->Val)(F:List Fld)(A p:List Slt):(Ck R F A p).length<=A.length+p.length:=by unfold Ck;rw[Yt,YF];have:=ID (λy=>!Bt A y.num) p;omega
theorem ZE1{R:ByteArray->Val->Val->Val}{F:List Fld}{A p:List Slt}{z:Slt}:z∈Ck R F A p↔(∃x∈A,z=F9 R F p x)\/(z∈p/\∀x∈A,x.num≠z.num):=by
 unfold Ck;rw[DT,YV,Y2];have:(!Bt A z.num)=true↔∀x∈A,x.num≠z.num:=by unfold Bt;simp
 rw[this];constructor
 ·rintro(⟨x,hx,rfl⟩|h)
  ·exact .inl ⟨x,hx,rfl⟩
  ·exact .inr h
 ·rintro(⟨x,hx,rfl⟩|h)
  ·exact .inl ⟨x,hx,rfl⟩
  ·exact .inr h
theorem ZKt{R:ByteArray->Val->Val->Val}{F:List Fld}{A p:List Slt}(c:A.Pairwise λa b=>a.num≠b.num)(d:p.Pairwise λa b=>a.num≠b.num):(Ck R F A p).Pairwise λa b=>a.num≠b.num:=by unfold Ck;rw[PV];refine⟨by rw[Nh];exact c,d.filter _,λx hx y hy=>?_⟩;obtain⟨z,e,rfl⟩:=YV.1 hx;have h:=(Y2.1 hy).2;unfold Bt at h;rw[YM,TQ]at h;have:=h z e;simp at this;exact this
theorem gO{l:List Slt}(h:l.Pairwise λa b=>a.num≠b.num):Fq (Ce DP l):=by have d:=vF (cf:=DP) (IS Slt.num) l;have f:(Ce DP l).Pairwise λa b=>a.num≠b.num:=(List.Perm.pairwise_iff (fun {a b} h e=>h e.symm) (HV l)).2 h;refine(List.pairwise_and_iff.2 ⟨d,f⟩).imp fun {a b} c=>?_;have:=c.1;unfold DP Bv at this;have g:=c.2;grind
theorem Rg{R:ByteArray->Val->Val->Val}{F:List Fld}{a b:List Slt}{f:Fld}{z:Slt}(h:z∈DX R F a b f):z.num=f.num:=by
 unfold DX at h;split at h
 ·rw[Y5.1 h];rfl
 ·rw[Y5.1 h];rfl
 ·split at h
  ·cases h
  ·rw[Y5.1 h];rfl
 ·cases h
theorem Zzw(R:ByteArray->Val->Val->Val)(F:List Fld)(a b:List Slt)(f:Fld):Fq (DX R F a b f):=by
 unfold DX Fq;split
 ·exact Na _ _
 ·exact Na _ _
 ·split
  ·exact .nil
  ·exact Na _ _
 ·exact .nil
theorem WI{R:ByteArray->Val->Val->Val}{F:List Fld}{a b:List Slt}:∀{l:List Fld},(l.Pairwise λa b=>a.num<b.num)->Fq (Dm R F a b l)
 |[],_=>.nil
 |f::l,h=>by obtain⟨c,d⟩:=Y1.1 h;have i:=WI (R:=R) (F:=F) (a:=a) (b:=b) d;show(DX R F a b f++Dm R F a b l).Pairwise _;rw[PV];refine⟨Zzw R F a b f,i,λx hx y hy=>?_⟩;obtain⟨g,e,hy⟩:=Nj.1 hy;rw[Rg hx,Rg hy];exact c g e
theorem jG{F:List Fld}(h:CF F F.length){b:List Slt}(p:b.Pairwise λx y=>x.num≠y.num/\D1 F x y){f:Fld}(q:f∈F){y:Slt}(hy:BA b f.num=some y):Dl F f b=false:=by
 unfold Dl;rw[TQ];intro g r c;simp only[Yc,YM,Yr,YB,xa,E1]at c;obtain⟨⟨⟨k,l⟩,m⟩,z,s⟩:=c;obtain⟨t,i⟩:=Ip hy;obtain⟨m2,j⟩:=Ip s;have n:AC F y.num=f:=by rw[i];exact congrArg Prod.fst (FO h q)
 have o:AC F z.num=g:=by rw[j];exact congrArg Prod.fst (FO h r)
 have d:D1 F z y:=(l7 (R:=λa b:Slt=>a.num≠b.num/\D1 F a b) (λh=>⟨λe=>h.1 e.symm,h.2.symm⟩) p m2 t (λe=>m (by rw[<-j,e,i]))).2;unfold D1 at d;rw[n,o]at d;exact d ⟨l,k⟩
theorem ZDO{R:ByteArray->Val->Val->Val}{F:List Fld}(h:CF F F.length){a b:List Slt}(p:a.Pairwise λx y=>x.num≠y.num)(o:b.Pairwise λx y=>x.num≠y.num/\D1 F x y)
  (u:∀x∈a,(Bh F x.num).2=true) (v:∀x∈b,(Bh F x.num).2=true):Ce DP (Ck R F (a.filter λx=>!Dl F (AC F x.num) b) b)=Dm R F a b F:=by
 have Dd:b.Pairwise λx y=>x.num≠y.num:=o.imp λs=>s.1;have fl:∀k,(Bh F k).2=true->AC F k∈F/\(AC F k).num=k:=λk q=>by
  rcases K1 F k with⟨c,_⟩|⟨_,c⟩
  ·rw[q]at c;cases c
  ·exact⟨c,Mk q⟩
 have n:∀f∈F,AC F f.num=f:=λf m=>congrArg Prod.fst (FO h m);refine WO (gO (ZKt (p.filter _) Dd)) (WI (H1 h)) λz=>?_;rw[(HV _).mem_iff,ZE1];unfold Dm;rw[Nj];constructor
 ·rintro(⟨x,hx,rfl⟩|⟨d,t⟩)
  ·obtain⟨hx,r⟩:=Y2.1 hx;rw[YM]at r;obtain⟨f1,f2⟩:=fl _ (u x hx);refine⟨AC F x.num,f1,?_⟩;unfold DX F9;rw[f2,xu p hx];cases e:BA b x.num with
   |none=>rw[r];exact Y5.2 rfl
   |some y=>exact Y5.2 rfl
  ·obtain⟨f1,f2⟩:=fl _ (v z d);refine⟨AC F z.num,f1,?_⟩;have e:=xu Dd d;unfold DX;rw[f2,e];cases i:BA a z.num with
   |none=>cases z;exact Y5.2 rfl
   |some x=>
    exfalso;obtain⟨j,g⟩:=Ip i;refine t x (Y2.2 ⟨j,?_⟩) g;rw[g,jG h o f1 (by rw[f2];exact e)];rfl
 ·rintro⟨f,m,d⟩;unfold DX at d;split at d
  ·rename_i x y i l;obtain⟨j,g⟩:=Ip i;refine .inl ⟨x,Y2.2 ⟨j,?_⟩,?_⟩
   ·rw[g,n f m,jG h o m l];rfl
   ·rw[Y5.1 d];unfold F9;rw[g,l,n f m];rfl
  ·rename_i y i l;obtain⟨j,g⟩:=Ip l;have e:z=y:=(by rw[Y5.1 d,<-g];cases y;rfl);subst e;exact .inr ⟨j,λx hx=>by rw[g];exact RF.1 i x ((Y2.1 hx).1)⟩
  ·rename_i x i l;obtain⟨j,g⟩:=Ip i;split at d
   ·cases d
   ·rename_i c;refine .inl ⟨x,Y2.2 ⟨j,?_⟩,?_⟩
    ·rw[g,n f m,YM,aK];exact c
    ·rw[Y5.1 d];unfold F9;rw[g,l];rfl
  ·cases d
theorem zi(l:List Raw)(y x:Raw):∀k:Nat,k<=l.length->EU (l++[y]) x k=EU l x k
 |0,_=>rfl
 |k+1,h=>by rw[EU,EU,zi l y x k ae,Yj,Yj,Ys ae]
theorem xh(x:Raw):∀(n:Nat) (out:List Raw),out.length=n->insR out x=Go.Eng.insR Db out x
 |0,out,h=>by rw[List.length_eq_zero_iff.1 h];rfl
 |n+1,out,h=>by
  have d:out≠[]:=λe=>by rw[e]at h;cases h
  obtain⟨l,y,rfl⟩:∃l y,out=l++[y]:=⟨_,_,(lG d).symm⟩;have hl:l.length=n:=by rw[Yt]at h;simpa using h
  have j:=xh x n l hl;unfold insR Go.Eng.insR at*;have e0:(l++[y]).length=l.length+1:=by simp
  have g:(l++[y]).getD l.length Rw.z=y:=by simp
  rw[e0,EU,g,zi l y x l.length (Yf _),TJ];show _=(List.dropWhile _ (y::l.reverse)).reverse++x::(List.takeWhile _ (y::l.reverse)).reverse;have f:Db x y<0↔x.num<y.num:=by unfold Db Bv;grind
  rw[List.dropWhile_cons,List.takeWhile_cons];by_cases c:x.num<y.num
  ·have a:=iU l x l.length;have b:decide (Db x y<0)=true:=Yp (f.2 c);rw[Yi c,b,Yi rfl,Yi rfl,TU a,aE a,List.reverse_cons,<-DB,j];simp
  ·have b:¬decide (Db x y<0)=true:=(by rw[Yr,f];exact c);have i:(l++[y]).take (l.length+1)=l++[y]:=J2 (by simp);rw[Yh c,Yh b,Yh b,i];simp
theorem Og(l:List Raw):Ci l=Ce Db l:=by have:insR=Go.Eng.insR Db:=funext λout=>funext λx=>xh x _ out rfl;unfold Ci Ce;rw[this]
end Go.Proofs.YthcplkfhnnlafaaGreat
namespace Go.Proofs.YthcplkfhnnlafaaGreat
set_option linter.all false
open Go Go.Eng
theorem Zz8(l:List Pr)(h:l.length<549755813888):VL l=some l:=by
 cases l with
 |nil=>rfl
 |cons x r=>
  dsimp only[VL,al,br,vw,lr,a0,mv,br];simp only[Em]at h;simp;omega
theorem l8{a b:Val}(s:1<=a.kind/\a.kind<=9)(j:AN a)(l:AN b):N5 a b=some (B7 a b):=by
 obtain⟨n,q,f,u⟩:=Oq j;obtain⟨k,p,e,t⟩:=Oq l;have r:(decide (1<=a.kind)&&decide (a.kind<=9))=true:=by simp[s]
 unfold B7;by_cases he:a.kind=b.kind
 ·have i:(decide (1<=b.kind)&&decide (b.kind<=9))=true:=by rw[<-he];exact r
  dsimp only[N5,br,wg,lr,cl,br,fq,wg,lr,cl,bT,N6,lr,V5,br,vz,wg,lr,cl,br,QW,lr];simp only[he,Yn,YQ,Yk,YE,i,Yq,Ya,ne_eq,IG];rw[<-he];by_cases h:a.kind=7\/a.kind=8
  ·have d:(decide (a.kind=7)||decide (a.kind=8))=true:=(by simpa using h);rw[Yi h];simp only[d,Yq,th,Ya]
  ·have d:(decide (a.kind=7)||decide (a.kind=8))=false:=(by simpa using h);rw[Yh h];simp only[d,Yk,YE];by_cases hs:a.kind=2\/a.kind=3
   ·have c:(decide (a.kind=2)||decide (a.kind=3))=true:=(by simpa using hs);have g:∀m:Nat,m<18446744073709551616->IntKind.i64.wrap (m:Int)=IntKind.u64.wrap ((m:Int)+9223372036854775808)-9223372036854775808:=λm hm=>by rw[IntKind.wrap_i64];unfold IntKind.wrap;simp only[show IntKind.u64.bits=64 from rfl,show IntKind.u64.signed=false from rfl,CJ,Yk,YE];omega
    simp only[c,hs,Yq,Ky,Ya];rw[q,p,g n f,g k e];unfold Bv;simp only[Int.sub_lt_sub_right_iff]
   ·have c:(decide (a.kind=2)||decide (a.kind=3))=false:=(by simpa using hs);by_cases o:a.kind=6
    ·simp only[c,hs,Yk,YE];simp only[o,Yq,Yn,q,p,Vd f,Vd e,Vi,Ya,YW]
    ·simp only[c,hs,o,Yk,YE,YC,Vi,Ya]
 ·dsimp only[N5,br,wg,lr,cl,br];simp only[he,YC,YS,Yq,Ky,Ya,ne_eq,G2]
theorem ZPK{a b:Val}(e:1<=a.kind/\a.kind<=9)(c:AN a)(d:AN b):Oa a b=some (decide (B7 a b=0)):=by dsimp only[Oa,wg,lr,cl];rw[l8 e c d];rfl
def HF(l:List Pr):Nat->List Pr
 |0=>[]
 |i+1=>if i+1<l.length/\Bb (l.getD i Rw.z) (l.getD (i+1) Rw.z)=0 then HF l i else HF l i++[l.getD i Rw.z]
theorem x9(l:List Pr):∀i:Nat,(HF l i).length<=i
 |0=>Yf _
 |i+1=>by
  have:=x9 l i;rw[HF];split
  ·omega
  ·rw[Yt,J3];omega
theorem wE(l:List Pr):∀i:Nat,i<=l.length->Fk l=HF l i++Fk (l.drop i)
 |0,_=>rfl
 |i+1,h=>by
  have hi:i<l.length:=h;have e0:l.getD i Rw.z=l[i]:=by rw[Yj,Ye hi];rfl
  rw[wE l i ae,IH hi,HF,e0];by_cases c:i+1<l.length
  ·have b:l.getD (i+1) Rw.z=l[i+1]:=(by rw[Yj,Ye c];rfl);rw[IH c,Fk,b];by_cases a:Bb l[i] l[i+1]=0
   ·rw[Yi a,Yi ⟨c,a⟩]
   ·rw[Yh a,Yh λh=>a h.2,DB];rfl
  ·rw[Yh λh=>c h.1,List.drop_eq_nil_of_le ae];simp[Fk]
theorem xA(l:List Pr)(hl:l.length<=4194304)(j:∀p∈l,(1<=p.key.kind/\p.key.kind<=9)/\AN p.key):fw l=some (BY l):=by
 have C:=Zz8 l ae;have t:Eo l (λz0 s=>N2 z0 s)=some (Ce Bb l):=by have h:=S4 (pf:=λz0 s=>N2 z0 s) (cmp:=Bb) RW l (λx hx y hy=>by dsimp only[N2,wg,lr,cl];rw[l8 (j x hx).1 (j x hx).2 (j y hy).2];rfl) hl;rw[Q0 FL l]at h;exact h
 have u:=fQ (cf:=Bb) l;have a:∀p∈Ce Bb l,(1<=p.key.kind/\p.key.kind<=9)/\AN p.key:=λp d=>j p ((HV l).mem_iff.1 d);have v:=wE (Ce Bb l) (Ce Bb l).length (Yf _);rw[TT,Zqv,show Fk []=[]from rfl,Iy]at v;rw[v];generalize Ce Bb l=m at t u a;have r:=CK (B:=ON m) (N:=Ag) (ρ:=List Pr) m (λp=>HF m p.length) (λi b=>(b,i)) id (λi p d=>by
  have w:=A5 d;have hi:=(Yb.1 d).1;have g:i+1<9223372036854775808:=ae
  have A:(m.take i).length=i:=by rw[Yz];omega
  have o:(m.take i++[p]).length=i+1:=by rw[Yt,A];rfl
  have F:m.getD i Rw.z=p:=by rw[Yj,d];rfl
  have a1:=x9 m i;have z:((i+1:Nat):Int)=m.length↔i+1=m.length:=ae
  rw[A,o,HF,F];have k:(HF m i).length<549755813887:=ae
  generalize HF m i=out at k⊢;dsimp only[ON,br,vz,vw,wg,vs,vg,ln,Af,ap,Az,wa,ir,ca,fl,A3,br];by_cases c:i+1=m.length
  ·have e:¬i+1<m.length:=ae;simp only[w,g,z,c,e,d,k,hi,Yn,YQ,HN,Yk,Ya,IA,Yq,YE,DA];have E:m.length<9223372036854775808:=ae;simp[E]
  ·have e:i+1<m.length:=ae;have hm:m.getD (i+1) Rw.z∈m:=(by rw[Yj,Ye e];exact G3 e);have D:=ZPK (a p (Yg d)).1 (a p (Yg d)).2 (a _ hm).2;simp only[w,g,z,c,e,d,D,hi,Yn,YC,YS,G4,Ya,Y6,YK,forall_const,Yq,C4];generalize m.getD (i+1) Rw.z=q;by_cases f:Bb p q=0
   ·have n:B7 p.key q.key=0:=f;simp[f,n,g]
   ·have n:¬B7 p.key q.key=0:=f;simp[f,n,g,k]) (by dsimp only[ON,br,vz,vw,wg,vs,vg,ln,Af,ap,Az,wa,ir,ca,fl,A3,br];simp) (AM ae)
 have r:Aj (ON m) Ag ([],0)=some (.inl (HF m m.length)):=r;dsimp only[fw,vz,vw,lr,lc,rn,fl,fr,A3];rw[C,Ya,t,Ya,Yi u.symm,r];rfl
theorem ZC5(a b:List Raw)(f:a.length<=1048576)(g:b.length<=1048576):fP a b=some (Ci (a++b)):=by have c:=ZHD a b f g;have d:=ZEy (a++b) (by rw[Yt];omega);rw[Og];have e:=fQ (cf:=Db) (a++b);dsimp only[fP,vz,vw,lr,lc,rn,fl,fr];rw[c,Ya,d,Ya,Yi e.symm]
theorem ZGL{s:Scm}(R:Scm->ByteArray->Val->Val->Option Val)(d:Nat)(l:ag s R d)(f:Fld)(x y:Val)(hx:AN x)(hy:AN y)(j:ak (Wk s d) f x)(k:ak (Wk s d) f y):V1 R s f x y=some (DI (Be s d) f x y):=by
 have h:=Cm hx;have i:=Cm hy;unfold DI;dsimp only[V1,br,vz,vw,wg,lr,lc,cl,cs,fl,fz,fr,br];by_cases g:f.card=4
 ·rw[Yi (Yp g),ZLL _ _ h.l i.l,Yi g];rfl
 ·rw[Yh (by simp[g]),Yh g];by_cases a:f.card=5
  ·have n:=h.p;have m:=i.p;have e:=xA (x.pairs++y.pairs) (by rw[Yt];omega) λp b=>by
    rcases DT.1 b with b|b
    ·exact⟨j.1 a p b,(DJ hx b).1⟩
    ·exact⟨k.1 a p b,(DJ hy b).1⟩
   rw[Yi (Yp a),ZJe _ _ h.p i.p,Ya,e,Yi a];rfl
  ·rw[Yh (by simp[a]),Yh a];by_cases c:f.type.kind=10
   ·rw[Yi (Yp c),Yi c,l f.type.name x y hx hy (j.2 g a c) (k.2 g a c)];rfl
   ·rw[Yh (by simp[c]),Yh c]
theorem ZDH(l:List Slt)(k:Int)(h:l.length<4611686018427387904):VK l k=some (Do l λx=>decide (x.num=k)):=by dsimp only[VK,lr,cs];rw[qi l (λz0=>VH z0 k) (λx=>decide (x.num=k)) (λx _=>rfl) h];rfl
theorem ZIC{s:Scm}(hs:An (Al s)<=1048576)(g:GdS s)(R:Scm->ByteArray->Val->Val->Option Val)(d:Nat)(Y:ag s R d)(n:ByteArray)(a b:Val)(D:AN a)(E:AN b)(v:Wk s (d+1) n a)(f:Wk s (d+1) n b):TA R s n a b=some (Be s (d+1) n a b):=by
 have K:=Cm D;have L:=Cm E;have M:Mb s n=some (AK s n):=ZK s n (DR hs).ml;have t:=g.asc n;have hl:(AA s n).length<=1048576:=Ms (DR hs) n;have s1:=K.s;have s2:=L.s;have o:=ZPL (AK s n).1 a.slots b hl s1 ae;have O:=ZC5 a.raws b.raws K.r L.r;rw[show(AK s n).1.fields=AA s n from rfl]at o;have pa:a.slots.Pairwise λx y=>x.num≠y.num:=v.1.imp λh=>h.1;have pb:b.slots.Pairwise λx y=>x.num≠y.num:=f.1.imp λh=>h.1;have P:=ZDO (R:=Be s d) t pa f.1 (λx hx=>(v.2 x hx).1) (λx hx=>(f.2 x hx).1);have C:∀x∈a.slots.filter (λx=>!Dl (AA s n) (AC (AA s n) x.num) b.slots),x∈a.slots:=λx hx=>(Y2.1 hx).1;have lA:=ID (λx=>!Dl (AA s n) (AC (AA s n) x.num) b.slots) a.slots;have J:(a.slots.filter λx=>!Dl (AA s n) (AC (AA s n) x.num) b.slots).Pairwise λx y=>x.num≠y.num:=pa.filter _;rw[Be,<-P];generalize (a.slots.filter λx=>!Dl (AA s n) (AC (AA s n) x.num) b.slots)=A at o C lA J⊢;have fl:∀k,(Bh (AA s n) k).2=true->AC (AA s n) k∈AA s n:=λk G=>by
  rcases K1 (AA s n) k with⟨c,_⟩|⟨_,c⟩
  ·rw[G]at c;cases c
  ·exact c
 have w:=CK (B:=Nx s a b R (AK s n)) (N:=Ag) (ρ:=Val) b.slots (λp=>Ck (Be s d) (AA s n) A p) (λi b=>(b,i)) id (λi y hy=>by
  have V:=A5 hy;have hi:=(Yb.1 hy).1;have z:i+1<9223372036854775808:=ae
  have hm:=Yg hy;have Q:=S5 (AK s n).1 y.num hl;have H:∀x∈b.slots.take i,x.num≠y.num:=λx hx=>by obtain⟨j,u⟩:=YJ.1 hx;have e:j<i:=(by have:=(Yb.1 u).1;rw[Yz]at this;omega);rw[Y4,Yi e]at u;obtain⟨j1,j2⟩:=Yb.1 u;obtain⟨Z,i2⟩:=Yb.1 hy;rw[<-j2,<-i2];exact(G6.1 pb) j i j1 Z e
  have l1:=zx (Be s d) (AA s n) A (b.slots.take i);rw[Yz]at l1;have l2:(Ck (Be s d) (AA s n) A (b.slots.take i)).length<549755813887:=ae
  have S:=ZDH (Ck (Be s d) (AA s n) A (b.slots.take i)) y.num ae;dsimp only[Nx,EE,br,ix,vz,vw,wg,vs,ln,Af,ap,cl,cs,wa,AD,cp,rn,fl,br,AD];simp only[V,hy,Yn,Yq,Ya,Q,S];cases r:A.findIdx? λx=>decide (x.num=y.num)with
  |none=>
   obtain⟨t1,t2⟩:=ZEm (R:=Be s d) (F:=AA s n) H r;have q:Do (Ck (Be s d) (AA s n) A (b.slots.take i)) (λx=>decide (x.num=y.num))= -1:=(by unfold Do;rw[t1]);rw[q,t2];simp[l2,z]
  |some k=>
   obtain⟨x,t1,t2,t3,t4⟩:=ZDY (R:=Be s d) (F:=AA s n) J H r;have t0:=ZK6 (R:=Be s d) (F:=AA s n) (p:=b.slots.take i) r;have q:Do (Ck (Be s d) (AA s n) A (b.slots.take i)) (λx=>decide (x.num=y.num))=(k:Int):=(by unfold Do;rw[t0]);have hx:x∈a.slots:=C x (Yg t1);have I:=v.2 x hx;have o2:=f.2 y hm;rw[t3]at I;have T:=ZGL R d Y (AC (AA s n) y.num) x.val y.val (GC D hx) (GC E hm) I.2 o2.2;have G:=(Yb.1 t2).1;have U:(Bh (AK s n).1.fields y.num).1=AC (AA s n) y.num:=rfl;have W:(0:Int)<=(k:Int):=ae;have X:(k:Int)<((Ck (Be s d) (AA s n) A (b.slots.take i)).length:Int):=ae;rw[q,t4,U];simp only[W,X,t2,T,Yn,Yq,Ya,YW,BZ,PQ,CT];simp[z]) (by dsimp only[Nx,EE,br,ix,vz,vw,wg,vs,ln,Af,ap,cl,cs,wa,AD,cp,rn,fl,br,AD];simp) (AM ae)
 have w:Aj (Nx s a b R (AK s n)) Ag (A,0)=some (.inl (Ck (Be s d) (AA s n) A b.slots)):=by have:=w;rw[ZD2]at this;exact this
 have l3:=zx (Be s d) (AA s n) A b.slots;have l:=ZFz (Ck (Be s d) (AA s n) A b.slots) ae;have m:=fQ (cf:=DP) (Ck (Be s d) (AA s n) A b.slots);have w1:a.slots.length<=549755813888:=ae
 dsimp only[TA,vz,wg,lr,lc,cl,rn,zY,zJ,fl,fr,Ah];rw[M,Ya,Yi w1,Yi ⟨Yf _,rfl⟩,o,Ya,w];simp only[Ya,Cr,l,m,O,Yq]
theorem u1{s:Scm}(hs:An (Al s)<=1048576)(g:GdS s):∀c d:Nat,d<=c->ag s (Mf c) d
 |_,0,_=>λ_ _ _ _ _ h=>h.elim
 |0,d+1,h=>ae
 |c+1,d+1,h=>λn a b e f i j=>ZIC hs g (Mf c) d (u1 hs g c d ae) n a b e f i j
theorem Zzr{s:Scm}(hs:An (Al s)<=1048576)(g:GdS s)(n:ByteArray)(a b:Val)(c:AN a)(d:AN b)(e:Wk s 16 n a)(f:Wk s 16 n b):Mf Ag s n a b=some (Be s 16 n a b):=u1 hs g Ag 16 (Nat.le_of_lt (AM ae)) n a b c d e f
theorem ZAu{s:Scm}(hs:An (Al s)<=1048576)(g:GdS s)(n:ByteArray)(a b:Val)(c:AN a)(d:AN b)(e:OkW s true 15 (AK s n).1 a)(f:OkW s true 15 (AK s n).1 b):Mf Ag s n a b=some (Be s 16 n a b):=Zzr hs g n a b c d (e.wk g) (f.wk g)
def wO(o:Option Slt):Nat:=o.elim 0 λx=>An (Am x)+1
theorem gS(x:Slt)(l:List Slt)(k:Int):BA (x::l) k=if x.num=k then some x else BA l k:=by unfold BA;rw[List.find?_cons];by_cases h:x.num=k<;>simp[h]
theorem yr(x:Slt)(l:List Slt):∀{F:List Fld},(F.Pairwise λa b=>a.num<b.num)->(F.map λf=>wO (BA (x::l) f.num)).sum<=An (Am x)+1+(F.map λf=>wO (BA l f.num)).sum
 |[],_=>B8 _
 |f::F,h=>by
  obtain⟨d,i⟩:=Y1.1 h;have k:=yr x l i;simp only[YY,List.sum_cons];rw[gS];by_cases c:x.num=f.num
  ·have e:(F.map λf=>wO (BA (x::l) f.num))=F.map λf=>wO (BA l f.num):=El λg j=>by have:=d g j;rw[gS,Yh ae]
   rw[Yi c,e];show An (Am x)+1+_<=_;omega
  ·rw[Yh c];omega
theorem iL{F:List Fld}(h:F.Pairwise λa b=>a.num<b.num):∀l:List Slt,(F.map λf=>wO (BA l f.num)).sum<=AS (l.map Am)
 |[]=>by
  have e:(F.map λf=>wO (BA [] f.num))=F.map λ_=>0:=rfl;rw[e];clear h e
  induction F with
  |nil=>exact Yf _
  |cons f F c=>simpa using c
 |x::l=>by have d:=yr x l h;have g:=iL h l;rw[YY,AS];omega
theorem ZCS{R:ByteArray->Val->Val->Val}(d:∀n x y,An (Ae (R n x y))<=An (Ae x)+An (Ae y))(f:Fld)(x y:Val):An (Ae (DI R f x y))<=An (Ae x)+An (Ae y):=by
 have b:rk .u64 0=0:=by decide
 have e:(⟨#[]⟩:ByteArray).size=0:=rfl;unfold DI;split
 ·have a:rk .i64 11=0:=by decide
  rw[MH,GX x,GX y,Df,He];simp only[a,b,DU,AS];omega
 ·split
  ·have a:rk .i64 12=0:=(by decide);have c:=jA (x.pairs++y.pairs) (x.pairs++y.pairs).length;rw[Ni,Df,He]at c;rw[MH,GX x,GX y];simp only[a,b,DU,AS,BY];omega
  ·split
   ·exact d _ _ _
   ·omega
theorem ZGD{R:ByteArray->Val->Val->Val}(e:∀n x y,An (Ae (R n x y))<=An (Ae x)+An (Ae y))(F:List Fld)(a b:List Slt)(f:Fld):AS ((DX R F a b f).map Am)<=wO (BA a f.num)+wO (BA b f.num):=by
 have s:∀(k:Int) (v:Val),AS (([Slt.mk k v]:List Slt).map Am)=rk .i64 k+An (Ae v)+1:=λk v=>by rw[YY,DU,AS,U3];rfl
 have w:∀(l:List Slt) (x:Slt),BA l f.num=some x->wO (BA l f.num)=rk .i64 f.num+An (Ae x.val)+1:=λl x h=>by rw[h,<-(Ip h).2,<-U3];rfl
 unfold DX;split
 ·rename_i x y c d;have:=ZCS e f x.val y.val;rw[s,w a x c,w b y d];omega
 ·rename_i y c d;rw[s,w b y d];omega
 ·rename_i x c d;split
  ·exact B8 _
  ·rw[s,w a x c];omega
 ·exact B8 _
theorem nJ{R:ByteArray->Val->Val->Val}(c:∀n x y,An (Ae (R n x y))<=An (Ae x)+An (Ae y))(F:List Fld)(a b:List Slt):∀l:List Fld,AS ((Dm R F a b l).map Am)<=(l.map λf=>wO (BA a f.num)).sum+(l.map λf=>wO (BA b f.num)).sum
 |[]=>B8 _
 |f::l=>by have d:=nJ c F a b l;have h:=ZGD c F a b f;show AS ((DX R F a b f++Dm R F a b l).map Am)<=_;rw[Df,He];simp only[YY,List.sum_cons];omega
theorem nQ{s:Scm}(h:∀n:ByteArray,CF (AA s n) (AA s n).length):∀(d:Nat) (n:ByteArray) (a b:Val),An (Ae (Be s d n a b))<=An (Ae a)+An (Ae b)
 |0,n,a,b=>PY _ _
 |d+1,n,a,b=>by
  have e:rk .i64 10=0:=by decide
  have f:rk .u64 0=0:=by decide
  have g:=nJ (λn x y=>nQ h d n x y) (AA s n) a.slots b.slots (AA s n);have i:=iL (H1 (h n)) a.slots;have j:=iL (H1 (h n)) b.slots;have c:=jB (a.raws++b.raws) [];rw[Df,He]at c;rw[Be,MH,GX a,GX b,Ci];simp only[e,f,c,DU,AS];have:(⟨#[]⟩:ByteArray).size=0:=rfl;omega
def vO(l:List Slt)(k:Int):Option Val:=(BA l k).map Slt.val
theorem iC(l:List Slt)(k:Int):Bt l k=(vO l k).isSome:=by rw[xa,vO,Option.isSome_map]
def mo(R:ByteArray->Val->Val->Val)(f:Fld)(A B:Option Val)(r:Bool):Option Val:=
 match A,B with
 |some x,some y=>some (DI R f x y)
 |none,some y=>some y
 |some x,none=>if r=true then none else some x
 |none,none=>none
theorem iB(R:ByteArray->Val->Val->Val)(F:List Fld)(a b:List Slt)(f:Fld):DX R F a b f=((mo R f (vO a f.num) (vO b f.num) (Dl F f b)).map (Slt.mk f.num)).toList:=by
 unfold DX vO mo;cases BA a f.num with
 |none=>cases BA b f.num<;>rfl
 |some x=>
  cases BA b f.num with
  |some y=>rfl
  |none=>
   show(if Dl F f b=true then[]else[Slt.mk f.num x.val])=((if Dl F f b=true then none else some x.val).map (Slt.mk f.num)).toList;split<;>rfl
theorem mH{R:ByteArray->Val->Val->Val}{F:List Fld}{a b:List Slt}:∀{l:List Fld},(l.Pairwise λa b=>a.num<b.num)->∀f∈l,vO (Dm R F a b l) f.num=mo R f (vO a f.num) (vO b f.num) (Dl F f b)
 |g::l,h,f,c=>by
  obtain⟨d,j⟩:=Y1.1 h;have e0:vO (Dm R F a b (g::l)) f.num=(vO (DX R F a b g) f.num).or (vO (Dm R F a b l) f.num):=by show vO (DX R F a b g++Dm R F a b l) f.num=_;unfold vO BA;rw[TR];cases List.find? (λx:Slt=>decide (x.num=f.num)) (DX R F a b g)<;>rfl
  rw[e0];rcases Yx.1 c with rfl|c
  ·have i:vO (Dm R F a b l) f.num=none:=(by unfold vO;rw[RF.2 λx hx=>by obtain⟨k,m,hx⟩:=Nj.1 hx;rw[Rg hx];have:=d k m;omega];rfl);rw[i,iB];cases mo R f (vO a f.num) (vO b f.num) (Dl F f b)with
   |none=>rfl
   |some v=>
    show(vO [Slt.mk f.num v] f.num).or none=some v;unfold vO;rw[gS,Yi (show(Slt.mk f.num v).num=f.num from rfl)];rfl
  ·have e:vO (DX R F a b g) f.num=none:=(by unfold vO;rw[RF.2 λx hx=>by rw[Rg hx];have:=d f c;omega];rfl);rw[e,mH j f c];rfl
theorem Rm{R:ByteArray->Val->Val->Val}{F:List Fld}{a b:List Slt}{l:List Fld}{z:Slt}:z∈Dm R F a b l↔∃f∈l,z.num=f.num/\mo R f (vO a f.num) (vO b f.num) (Dl F f b)=some z.val:=by
 unfold Dm;rw[Nj];constructor
 ·rintro⟨f,d,e⟩;refine⟨f,d,Rg e,?_⟩;rw[iB,Option.mem_toList,Gi]at e;obtain⟨v,c,rfl⟩:=e;exact c
 ·rintro⟨f,d,c,g⟩;refine⟨f,d,?_⟩;rw[iB,g,Option.mem_toList,Y0,<-c];cases z;rfl
theorem W2{l:List Slt}{k:Int}{v:Val}(h:vO l k=some v):∃x∈l,x.num=k/\x.val=v:=by unfold vO at h;obtain⟨x,a,b⟩:=Gi.1 h;exact⟨x,(Ip a).1,(Ip a).2,b⟩
theorem jz{F:List Fld}{f g:Fld}{b:List Slt}(e:g∈F)(a:g.union=f.union)(c:f.union≠⟨#[]⟩)(d:g.num≠f.num)(h:(vO b g.num).isSome=true):Dl F f b=true:=by unfold Dl;rw[YP];refine⟨g,e,?_⟩;simp[a,c,d,iC,h]
theorem ZE2{F:List Fld}(h:CF F F.length){b:List Slt}(c:b.Pairwise λx y=>x.num≠y.num/\D1 F x y){f:Fld}(d:f∈F){v:Val}(hy:vO b f.num=some v):Dl F f b=false:=by unfold vO at hy;obtain⟨x,a,_⟩:=Gi.1 hy;exact jG h c d a
theorem ZEA{k:Int}{q p:Pr}(a:q.key.kind=k)(b:p.key.kind=k)(h:FY q.key p.key=true):¬Bb q p<0:=by intro c;unfold FY at h;rw[Yc,Yr,Yr]at h;have c:B7 q.key p.key<0:=c;unfold B7 at c;rw[h.1,h.2,a.trans b.symm]at c;exact WB.ir p.key c
theorem jg{k:Int}{l:List Val}{p:List Pr}{sl:List Slt}{r:List Raw}(hl:k=11\/l=[])(f:k=12\/p=[])(hs:k=10\/(sl=[]/\r=[])):BF (.mk k 0 ⟨#[]⟩ l p sl r)=false:=by
 unfold BF;refine Yu ?_;rintro(⟨a,b⟩|⟨a,b⟩|⟨a,b⟩|⟨a,_⟩|⟨a,_⟩)
 ·rcases hl with e|e
  ·exact a e
  ·subst e;exact absurd b (PU 0)
 ·rcases f with e|e
  ·exact a e
  ·subst e;exact absurd b (PU 0)
 ·rcases hs with e|⟨c,d⟩
  ·exact a e
  ·subst c;subst d;exact b.elim (PU 0) (PU 0)
 ·exact a rfl
 ·exact a rfl
theorem ZwM{s:Scm}{d:Nat}{R:ByteArray->Val->Val->Val}(u:∀d':Nat,d=d'+1->∀(n:ByteArray) (x y:Val),OkM s true d' (AK s n).1 x->OkM s true d' (AK s n).1 y->OkM s true d' (AK s n).1 (R n x y)){f:Fld}(w:GdF s f){x y:Val}(m:A7 (AL s true d) s true f x=0)(b:A7 (AL s true d) s true f y=0):A7 (AL s true d) s true f (DI R f x y)=0:=by
 unfold DI;by_cases a:f.card=4
 ·unfold A7 at*;rw[Yi a]at m b;rw[Yi a,Yi a];have k:∀v:Val,(if v.kind≠11\/BF v=true then(12:Int)else BR (λ_ x=>BL (AL s true d) s f.type x) v.list 0)=0->∀z∈v.list,BL (AL s true d) s f.type z=0:=λv h=>by
   split at h
   ·cases h
   ·exact(KW _ _).1 h
  rw[Yh (by
   rintro(h|h)
   ·exact h rfl
   ·rw[jg (.inl rfl) (.inr rfl) (.inr ⟨rfl,rfl⟩)]at h;cases h)]
  exact(KW _ _).2 λz C=>(DT.1 C).elim (k x m z) (k y b z)
 ·by_cases l:f.card=5
  ·unfold A7 at*;rw[Yh a,Yi l]at m b;rw[Yh a,Yh a,Yi l,Yi l];have k:∀v:Val,(if v.kind≠12\/BF v=true then(12:Int)else BR (GL (BL (AL s true d) s f.type) f.key true v.pairs) v.pairs 0)=0->∀p∈v.pairs,CA f.key p.key=0/\BL (AL s true d) s f.type p.val=0:=λv h p g=>by
    split at h
    ·cases h
    ·rw[IW]at h;obtain⟨j,A⟩:=YJ.1 g;have:=h j p A;rw[O1]at this;exact⟨this.1,this.2.2⟩
   have r:∀p∈x.pairs++y.pairs,CA f.key p.key=0/\BL (AL s true d) s f.type p.val=0:=λp g=>(DT.1 g).elim (k x m p) (k y b p);rw[Yh (by
    rintro(h|h)
    ·exact h rfl
    ·rw[jg (.inr rfl) (.inl rfl) (.inr ⟨rfl,rfl⟩)]at h;cases h),IW]
   intro j p g;have hm:=KT (Yg g);rw[YU,O1];refine⟨(r p hm).1,?_,(r p hm).2⟩;rintro⟨_,c⟩;obtain⟨q,B,e⟩:=YP.1 c;obtain⟨i,hi⟩:=YJ.1 B;have o:i<j:=(by have:=(Yb.1 hi).1;rw[Yz]at this;omega);rw[Y4,Yi o]at hi;have t:=KT (Yg hi);refine ZEA (JH (r q t).1).1 (JH (r p hm).1).1 e ?_;obtain⟨D,E⟩:=Yb.1 hi;obtain⟨F,G⟩:=Yb.1 g;rw[<-E,<-G];exact G6.1 (IP (x.pairs++y.pairs)) i j D F o
  ·rw[Yh a,Yh l];by_cases c:f.type.kind=10
   ·rw[Yi c];unfold A7 at*;rw[Yh a,Yh l]at*;obtain⟨d',e,H⟩:=Mo c m;obtain⟨d2,J,I⟩:=Mo c b;have:d2=d':=ae;subst this;subst e;unfold BL;rw[Yi c,Yi (w.ms c)];exact Ov.2 (u d2 rfl f.type.name x y H I)
   ·rw[Yh c];exact b
theorem Rh{R:ByteArray->Val->Val->Val}{f:Fld}{A B:Option Val}{r:Bool}{v:Val}(h:mo R f A B r=some v):(∃x y,A=some x/\B=some y/\v=DI R f x y)\/(A=none/\B=some v)\/(A=some v/\B=none/\r=false):=by
 unfold mo at h;cases A with
 |none=>
  cases B with
  |none=>cases h
  |some y=>cases h;exact .inr (.inl ⟨rfl,rfl⟩)
 |some x=>
  cases B with
  |none=>
   cases r with
   |true=>cases h
   |false=>cases h;exact .inr (.inr ⟨rfl,rfl,rfl⟩)
  |some y=>cases h;exact .inl ⟨x,y,rfl,rfl,rfl⟩
theorem ZEt{s:Scm}(g:GdS s){d:Nat}{R:ByteArray->Val->Val->Val}(K:∀d':Nat,d=d'+1->∀(n:ByteArray) (x y:Val),OkM s true d' (AK s n).1 x->OkM s true d' (AK s n).1 y->OkM s true d' (AK s n).1 (R n x y)){n:ByteArray}{a b v:Val}(E:OkW s true d (AK s n).1 a)(F:OkW s true d (AK s n).1 b)(C:v.slots=Dm R (AA s n) a.slots b.slots (AA s n)):OkW s true d (AK s n).1 v:=by
 have j:=g.asc n;have o:∀f∈AA s n,Bh (AA s n) f.num=(f,true):=λf q=>FO j q;have pa:=E.pw;have pb:=F.pw;rw[show(AK s n).1.fields=AA s n from rfl]at pa pb;have G:∀f∈AA s n,∀x,vO a.slots f.num=some x->A7 (AL s true d) s true f x=0:=λf q x hx=>by obtain⟨z,c,i,p⟩:=W2 hx;have:=(E.sl z c).2;rw[i,show AC (AK s n).1.fields f.num=f from congrArg Prod.fst (o f q),p]at this;exact this
 have H:∀f∈AA s n,∀x,vO b.slots f.num=some x->A7 (AL s true d) s true f x=0:=λf q x hx=>by obtain⟨z,c,i,p⟩:=W2 hx;have:=(F.sl z c).2;rw[i,show AC (AK s n).1.fields f.num=f from congrArg Prod.fst (o f q),p]at this;exact this
 constructor
 ·rw[C,show(AK s n).1.fields=AA s n from rfl];refine lL ?_ (WI (H1 j));intro V W M m2 L;obtain⟨f1,w,N,I⟩:=Rm.1 M;obtain⟨f2,A,O,J⟩:=Rm.1 m2;refine⟨ae,?_⟩;have P:AC (AA s n) V.num=f1:=by rw[N];exact congrArg Prod.fst (o f1 w)
  have Q:AC (AA s n) W.num=f2:=by rw[O];exact congrArg Prod.fst (o f2 A)
  unfold D1;rw[P,Q];rintro⟨t,B⟩;have m:f1.num≠f2.num:=ae
  have two:∀l:List Slt,(l.Pairwise λx y=>x.num≠y.num/\D1 (AA s n) x y)->∀x y,vO l f1.num=some x->vO l f2.num=some y->False:=λl hl x y hx hy=>by have h:=ZE2 j hl A hy;rw[jz w t B m (by rw[hx];rfl)]at h;cases h
  have u:=Rh I;have r:=Rh J;cases Dd:vO b.slots f1.num with
  |some X=>
   cases Av:vO b.slots f2.num with
   |some U=>exact two _ pb _ _ Dd Av
   |none=>
    rw[Av]at r;have T:=jz (b:=b.slots) w t B m (by rw[Dd];rfl);rcases r with⟨_,_,_,h,_⟩|⟨_,h⟩|⟨_,_,h⟩
    ·cases h
    ·cases h
    ·rw[T]at h;cases h
  |none=>
   rw[Dd]at u;cases Av:vO b.slots f2.num with
   |some U=>
    have S:=jz (b:=b.slots) A t.symm (by rw[t];exact B) (λe=>m e.symm) (by rw[Av];rfl);rcases u with⟨_,_,_,h,_⟩|⟨_,h⟩|⟨_,_,h⟩
    ·cases h
    ·cases h
    ·rw[S]at h;cases h
   |none=>
    rw[Av]at r;rcases u with⟨_,_,_,h,_⟩|⟨_,h⟩|⟨c,_,_⟩
    ·cases h
    ·cases h
    ·rcases r with⟨_,_,_,h,_⟩|⟨_,h⟩|⟨i,_,_⟩
     ·cases h
     ·cases h
     ·exact two _ pa _ _ c i
 ·intro z D;rw[C]at D;obtain⟨f,k,e,h⟩:=Rm.1 D;rw[e,show Bh (AK s n).1.fields f.num=(f,true)from o f k,show AC (AK s n).1.fields f.num=f from congrArg Prod.fst (o f k)];refine⟨rfl,?_⟩;rcases Rh h with⟨x,y,c,i,p⟩|⟨_,i⟩|⟨c,_,_⟩
  ·rw[p];exact ZwM K (g.fl n f k) (G f k x c) (H f k y i)
  ·exact H f k _ i
  ·exact G f k _ c
theorem nj{s:Scm}(g:GdS s):∀(d:Nat) (n:ByteArray) (a b:Val),OkM s true d (AK s n).1 a->OkM s true d (AK s n).1 b->OkM s true d (AK s n).1 (Be s (d+1) n a b)
 |d,n,a,b,k,l=>by
  have hw:OkW s true d (AK s n).1 (Be s (d+1) n a b):=ZEt g (R:=Be s d) (λd' e n x y m o=>by subst e;exact nj g d' n x y m o) k.w l.w rfl;refine⟨rfl,?_,hw.pw,hw.sl,λf h c=>?_,λx hx=>?_⟩
  ·exact jg (.inr rfl) (.inr rfl) (.inl rfl)
  ·have h:f∈AA s n:=h;show Bt (Dm (Be s d) (AA s n) a.slots b.slots (AA s n)) f.num=true;rw[iC,mH (H1 (g.asc n)) f h];have i:=k.rq f h c;have j:=l.rq f h c;rw[iC,E1]at i j;obtain⟨x,i⟩:=i;obtain⟨y,j⟩:=j;rw[i,j];rfl
  ·have hx:x∈Ci (a.raws++b.raws):=hx;rw[Og,(HV _).mem_iff]at hx;exact(DT.1 hx).elim (k.rw x) (l.rw x)
theorem ZxC(out:List Raw)(x:Raw):∃A B:List Raw,out=A++B/\Go.Eng.insR Db out x=A++x::B/\∀b∈B,x.num<b.num:=by
 refine⟨(out.reverse.dropWhile λy=>decide (Db x y<0)).reverse,(out.reverse.takeWhile λy=>decide (Db x y<0)).reverse,?_,rfl,λb c=>?_⟩
 ·rw[<-TJ,aD,ao]
 ·have a:=List.all_takeWhile (p:=λy=>decide (Db x y<0)) (l:=out.reverse);rw[Yv]at a;have h:=Y7 (a b (List.mem_reverse.1 c));unfold Db Bv at h;grind
theorem ZGg(k:Int)(out:List Raw)(x:Raw):(Go.Eng.insR Db out x).filter (λy=>decide (y.num=k))=(out++[x]).filter (λy=>decide (y.num=k)):=by
 obtain⟨A,B,e,h,a⟩:=ZxC out x;rw[h,e,EH,EH,EH,DB];congr 1;by_cases c:x.num=k
 ·have:B.filter (λy=>decide (y.num=k))=[]:=by rw[TW];intro b d;have:=a b d;rw[Yr];omega
  simp[c,this]
 ·simp[c]
theorem xc(k:Int):∀l out:List Raw,(l.foldl (Go.Eng.insR Db) out).filter (λy=>decide (y.num=k))=(out++l).filter (λy=>decide (y.num=k))
 |[],out=>by simp
 |x::l,out=>by rw[Nk,xc k l,EH,ZGg,<-EH,DB];rfl
theorem x7:∀{a b:List Raw},a.Pairwise (λx y=>x.num<=y.num)->b.Pairwise (λx y=>x.num<=y.num)->(∀k:Int,a.filter (λy=>decide (y.num=k))=b.filter (λy=>decide (y.num=k)))->a=b
 |[],[],_,_,_=>rfl
 |[],y::b,_,_,h=>by have:=h y.num;simp at this
 |x::a,[],_,_,h=>by have:=h x.num;simp at this
 |x::a,y::b,j,l,h=>by
  obtain⟨a1,d⟩:=Y1.1 j;obtain⟨f,g⟩:=Y1.1 l;have hx:=h x.num;have e:x.num=y.num:=by
   have m:x∈(y::b).filter (λz=>decide (z.num=x.num)):=(by rw[<-hx];exact Y2.2 ⟨YH,by simp⟩);have m2:y∈(x::a).filter (λz=>decide (z.num=y.num)):=(by rw[h y.num];exact Y2.2 ⟨YH,by simp⟩);have n:y.num<=x.num:=by
    rcases Yx.1 (Y2.1 m).1 with e|e
    ·rw[e];exact TZ _
    ·exact f x e
   have o:x.num<=y.num:=by
    rcases Yx.1 (Y2.1 m2).1 with e|e
    ·rw[e];exact TZ _
    ·exact a1 y e
   omega
  rw[lN (by simp),lN (by simp[e])]at hx;obtain⟨i,_⟩:=List.cons.inj hx;subst i;rw[x7 d g λk=>?_];have:=h k;rw[PP,PP]at this;by_cases c:x.num=k
  ·simpa[c]using this
  ·simpa[c]using this
theorem ZDM(k:Int)(l:List Raw):(Ci l).filter (λy=>decide (y.num=k))=l.filter (λy=>decide (y.num=k)):=by rw[Og,Ce,xc];rfl
theorem n0(l:List Raw):(Ci l).Pairwise (λx y=>x.num<=y.num):=by rw[Og];refine(vF (cf:=Db) (IS Raw.num) l).imp λh=>?_;unfold Db Bv at h;grind
theorem ZHM(l:List Raw):Ci (Ci l)=Ci l:=x7 (n0 _) (n0 _) λk=>by simp only[ZDM]
theorem ZIc(p:Pr):Bb p p=0:=(Lh p p).2 ⟨FL.ir p,FL.ir p⟩
theorem ZEp{l m:List Pr}{p:Pr}:P4 (l++m) p↔P4 m p\/(P4 l p/\∀q∈m,¬Bb p q=0):=by
 constructor
 ·rintro⟨j,b,d⟩;by_cases c:j<l.length
  ·rw[Ys c]at b;refine .inr ⟨⟨j,b,λk y a e=>?_⟩,λq n e=>?_⟩
   ·have f:=(Yb.1 a).1;exact d k y (by rw[Ys f];exact a) e
   ·obtain⟨i,hi⟩:=YJ.1 n;have:=d (l.length+i) q (by rw[Yw ae,TV];exact hi) e;omega
  ·rw[Yw ae]at b;refine .inl ⟨j-l.length,b,λk y a e=>?_⟩;have:=d (l.length+k) y (by rw[Yw ae,TV];exact a) e;omega
 ·rintro(⟨j,b,d⟩|⟨⟨j,b,d⟩,g⟩)
  ·refine⟨l.length+j,by rw[Yw ae,TV];exact b,λk y a e=>?_⟩;by_cases c:k<l.length
   ·omega
   ·rw[Yw ae]at a;have:=d (k-l.length) y a e;omega
  ·have h:=(Yb.1 b).1;refine⟨j,by rw[Ys h];exact b,λk y a e=>?_⟩;by_cases c:k<l.length
   ·rw[Ys c]at a;exact d k y a e
   ·rw[Yw ae]at a;exact absurd e (g y (Yg a))
theorem xG{l:List Pr}{p:Pr}(h:p∈BY l):p∈l:=KT h
theorem yC{l:List Pr}(h:D4 l){p:Pr}:P4 l p↔p∈l:=by
 constructor
 ·rintro⟨j,c,_⟩;exact Yg c
 ·intro f;obtain⟨j,b⟩:=YJ.1 f;refine⟨j,b,λk y d e=>Nat.le_of_not_lt λa=>?_⟩;obtain⟨g,i⟩:=Yb.1 b;obtain⟨m,n⟩:=Yb.1 d;have:=G6.1 h j k g m a;rw[i,n]at this;exact((Lh p y).1 e).1 this
theorem xQ{l:List Pr}(h:D4 l):BY l=l:=hZ (IP l) h λx=>KQ.trans (yC h)
theorem sx{R:ByteArray->Val->Val->Val}{f:Fld}(c:f.card=4)(x y:Val):DI R f x y=.mk 11 0 ⟨#[]⟩ (x.list++y.list) [] [] []:=Yi c
theorem qt{R:ByteArray->Val->Val->Val}{f:Fld}(c:f.card=5)(x y:Val):DI R f x y=.mk 12 0 ⟨#[]⟩ [] (BY (x.pairs++y.pairs)) [] []:=(Yh ae).trans (Yi c)
theorem rG{R:ByteArray->Val->Val->Val}{f:Fld}(a:¬f.card=4)(b:¬f.card=5)(c:f.type.kind=10)(x y:Val):DI R f x y=R f.type.name x y:=(Yh a).trans ((Yh b).trans (Yi c))
theorem sb{R:ByteArray->Val->Val->Val}{f:Fld}(a:¬f.card=4)(b:¬f.card=5)(c:¬f.type.kind=10)(x y:Val):DI R f x y=y:=(Yh a).trans ((Yh b).trans (Yh c))
theorem Zty{s:Scm}(g:GdS s){d:Nat}{n:ByteArray}{a:Val}(pa:a.slots.Pairwise λx y=>x.num≠y.num)(e:a=AW s (d+1) n a):Fq a.slots/\(∀x∈a.slots,PE (BJ (AW s d)) (AA s n) x)/\Ci a.raws=a.raws/\a=.mk 10 0 ⟨#[]⟩ [] [] a.slots a.raws:=by obtain⟨c,f,h,i,j,k,b⟩:=jn.1 e;obtain⟨l,m⟩:=ZKg (g.asc n) pa k;have b:a.raws=Ci a.raws:=b;exact⟨l,m,b.symm,jn.2 ⟨c,f,h,i,j,rfl,rfl⟩⟩
theorem iv:∀{l:List Pr} {p:Pr},p∈l->LG p<=DZ l
 |y::l,x,h=>by
  rw[DZ];rcases Yx.1 h with rfl|h
  ·omega
  ·have:=iv h;omega
theorem zd{k:Nat}:∀{l:List Pr},(∀x∈l,LG x<=k)->DZ l<=k
 |[],_=>by rw[DZ];omega
 |y::l,h=>by have a:=h y (YH ..);have b:=zd (l:=l) λx hx=>h x (YI _ hx);rw[DZ];omega
theorem xV:∀{l:List Slt} {x:Slt},x∈l->dp x.val<=Ei l
 |y::l,x,h=>by
  rw[Ei,io];rcases Yx.1 h with rfl|h
  ·omega
  ·have:=xV h;omega
theorem yu{k:Nat}:∀{l:List Slt},(∀x∈l,dp x.val<=k)->Ei l<=k
 |[],_=>by rw[Ei];omega
 |y::l,h=>by have a:=h y (YH ..);have b:=yu (l:=l) λx hx=>h x (YI _ hx);rw[Ei,io];omega
theorem m5{s:Scm}(g:GdS s):∀(d:Nat) (n:ByteArray) (a b:Val),OkM s true d (AK s n).1 a->OkM s true d (AK s n).1 b->dp (Be s (d+1) n a b)<=max (dp a) (dp b)
 |d,n,a,b,t,B=>by
  have r:=g.asc n;have C:∀f∈AA s n,Bh (AA s n) f.num=(f,true):=λf i=>FO r i;have q:∀v:Val,OkM s true d (AK s n).1 v->∀f∈AA s n,∀x,vO v.slots f.num=some x->A7 (AL s true d) s true f x=0/\dp x+1<=dp v:=λv ov f i x hx=>by obtain⟨z,j,k,o⟩:=W2 hx;have A:=(ov.sl z j).2;rw[k,show AC (AK s n).1.fields f.num=f from congrArg Prod.fst (C f i),o]at A;have D:=xV j;rw[o]at D;refine⟨A,?_⟩;rw[MR v,Yi ov.kd];omega
  have e:dp (Be s (d+1) n a b)=Ei (Dm (Be s d) (AA s n) a.slots b.slots (AA s n))+1:=by show dp (Val.mk 10 0 ⟨#[]⟩ [] [] (Dm (Be s d) (AA s n) a.slots b.slots (AA s n)) (Ci (a.raws++b.raws)))=_;rw[dp,B1,DZ,Yi rfl];omega
  rw[e];have key:Ei (Dm (Be s d) (AA s n) a.slots b.slots (AA s n))<=max (dp a) (dp b)-1:=yu λz F=>by
   obtain⟨f,i,J,h⟩:=Rm.1 F;rcases Rh h with⟨x,y,j,k,o⟩|⟨_,k⟩|⟨j,_,_⟩
   ·obtain⟨u,M⟩:=q a t f i x j;obtain⟨w,N⟩:=q b B f i y k;rw[o];have:dp (DI (Be s d) f x y)<=max (dp x) (dp y):=by
     by_cases l:f.card=4
     ·rw[sx l,dp,Oo,DZ,Ei,Yh (by decide),MR x,MR y];omega
     ·by_cases m:f.card=5
      ·have:DZ (BY (x.pairs++y.pairs))<=max (DZ x.pairs) (DZ y.pairs):=zd λp E=>by
        rcases DT.1 (xG E)with h|h
        ·have:=iv h;omega
        ·have:=iv h;omega
       rw[qt m,dp,B1,Ei,Yh (by decide),MR x,MR y];omega
      ·by_cases c:f.type.kind=10
       ·unfold A7 at u w;rw[Yh l,Yh m]at u w;obtain⟨d1,I,G⟩:=Mo c u;obtain⟨d2,L,H⟩:=Mo c w;have:d2=d1:=ae;subst this;subst I;rw[rG l m c];exact m5 g d2 f.type.name x y G H
       ·rw[sb l m c];omega
    omega
   ·have:=(q b B f i _ k).2;omega
   ·have:=(q a t f i _ j).2;omega
  have K:1<=dp a:=by rw[MR a,Yi t.kd];omega
  omega
theorem ZAr{x y:List Pr}(h:D4 y):y.length<=(BY (x++y)).length:=by
 have b:∀{l:List Pr},D4 l->l.Nodup:=λhl=>hl.imp fun {x y} h e=>by subst e;exact FL.ir _ h
 have a:y.Perm ((BY (x++y)).filter λp=>y.any λq=>decide (Bb p q=0)):=(lI (b h) ((b (IP _)).filter _)).2 λp=>by
  rw[Y2,KQ,ZEp,yC h,YP];constructor
  ·intro a;exact⟨.inl a,p,a,Yp (ZIc p)⟩
  ·rintro⟨a|⟨_,c⟩,q,d,e⟩
   ·exact a
   ·exact absurd (Y7 e) (c q d)
 rw[a.length_eq];exact ID _ _
theorem zG{v:Val}(h:v.kind≠6):BK v=v:=Yh λc=>h c.1
theorem dq{N:ByteArray->Val->Val}{f:Fld}(c:f.card=4)(v:Val):BJ N f v=.mk 11 0 ⟨#[]⟩ (v.list.map (Ba N f.type)) [] [] []:=Yi c
theorem dv{N:ByteArray->Val->Val}{f:Fld}(c:f.card=5)(v:Val):BJ N f v=.mk 12 0 ⟨#[]⟩ [] (BY (v.pairs.map λp=>.mk (BK p.key) (Ba N f.type p.val))) [] []:=(Yh ae).trans (Yi c)
theorem ue{N:ByteArray->Val->Val}{f:Fld}(a:¬f.card=4)(b:¬f.card=5)(v:Val):BJ N f v=Ba N f.type v:=(Yh a).trans (Yh b)
theorem yJ{N:ByteArray->Val->Val}{t:Typ}{l:List Pr}(c:∀p∈l,p.key.kind≠6)(e:BY (l.map λp=>.mk (BK p.key) (Ba N t p.val))=l):(l.map λp=>Pr.mk (BK p.key) (Ba N t p.val))=l:=by
 have d:D4 l:=by rw[<-e];exact IP _
 have hm:D4 (l.map λp=>Pr.mk (BK p.key) (Ba N t p.val)):=by unfold D4;rw[Nh];refine lL (fun {a b} f g h=>?_) d;show B7 (BK a.key) (BK b.key)<0;rw[zG (c a f),zG (c b g)];exact h
 rw[xQ hm]at e;exact e
theorem oc{s:Scm}{d:Nat}{f:Fld}{v:Val}(b:GdF s f)(a:f.card=5)(h:A7 (AL s true d) s true f v=0):∀p∈v.pairs,p.key.kind≠6:=λp e=>by
 unfold A7 at h;rw[Yh ae,Yi a]at h;split at h
 ·cases h
 ·rw[IW]at h;obtain⟨j,c⟩:=YJ.1 e;have:=h j p c;rw[O1]at this;have g:=(JH this.1).1;have i:=b.ky a;omega
theorem Zx7{s:Scm}{d:Nat}(B:∀d':Nat,d=d'+1->∀(n:ByteArray) (x y:Val),OkM s true d' (AK s n).1 x->OkM s true d' (AK s n).1 y->x=AW s (d'+1) n x->y=AW s (d'+1) n y->Be s (d'+1) n x y=AW s (d'+1) n (Be s (d'+1) n x y)){f:Fld}(w:GdF s f){x y:Val}(m:A7 (AL s true d) s true f x=0)(o:A7 (AL s true d) s true f y=0)(v:Bc f x=false)(q:Bc f y=false)(k:BJ (AW s d) f x=x)(j:BJ (AW s d) f y=y):Bc f (DI (Be s d) f x y)=false/\BJ (AW s d) f (DI (Be s d) f x y)=DI (Be s d) f x y:=by
 by_cases a:f.card=4
 ·unfold Bc at*;rw[Yi a]at v q;rw[dq a]at k j;have r:x.list.map (Ba (AW s d) f.type)=x.list:=congrArg Val.list k;have t:y.list.map (Ba (AW s d) f.type)=y.list:=congrArg Val.list j;rw[sx a,Yi a,dq a];refine⟨?_,?_⟩
  ·show decide ((x.list++y.list).length=0)=false;rw[YB]at v⊢;rw[Yt];omega
  ·show Val.mk 11 0 ⟨#[]⟩ ((x.list++y.list).map (Ba (AW s d) f.type)) [] [] []=_;rw[Df,r,t]
 ·by_cases b:f.card=5
  ·unfold Bc at*;rw[Yh a,Yi b]at v q;rw[dv b]at k j;have E:BY (x.pairs.map λp=>.mk (BK p.key) (Ba (AW s d) f.type p.val))=x.pairs:=congrArg Val.pairs k;have z:BY (y.pairs.map λp=>.mk (BK p.key) (Ba (AW s d) f.type p.val))=y.pairs:=congrArg Val.pairs j;have A:D4 y.pairs:=(by rw[<-z];exact IP _);have r:=yJ (oc w b m) E;have t:=yJ (oc w b o) z;rw[qt b,Yh a,Yi b,dv b];refine⟨?_,?_⟩
   ·show decide ((BY (x.pairs++y.pairs)).length=0)=false;have:=ZAr (x:=x.pairs) A;rw[YB]at q⊢;omega
   ·show Val.mk 12 0 ⟨#[]⟩ [] (BY ((BY (x.pairs++y.pairs)).map λp=>Pr.mk (BK p.key) (Ba (AW s d) f.type p.val))) [] []=_;have fx:∀p∈BY (x.pairs++y.pairs),Pr.mk (BK p.key) (Ba (AW s d) f.type p.val)=p:=λp u=>by
     have key:∀l:List Pr,(l.map λp=>Pr.mk (BK p.key) (Ba (AW s d) f.type p.val))=l->p∈l->Pr.mk (BK p.key) (Ba (AW s d) f.type p.val)=p:=λl e u=>by obtain⟨i,hi⟩:=YJ.1 u;have h:=congrArg (λl=>l[i]?) e;simp only[YR,hi,Y0]at h;exact Option.some.inj h
     exact(DT.1 (xG u)).elim (key _ r) (key _ t)
    rw[El (g:=id) fx,List.map_id,xQ (IP _)]
  ·rw[ue a b]at k j⊢;by_cases c:f.type.kind=10
   ·unfold A7 at m o;rw[Yh a,Yh b]at m o;obtain⟨d1,F,C⟩:=Mo c m;obtain⟨d2,G,D⟩:=Mo c o;have:d2=d1:=ae;subst this;subst F;unfold Ba at k j⊢;rw[Yi c]at k j⊢;rw[rG a b c];refine⟨?_,(B d2 rfl f.type.name x y C D k.symm j.symm).symm⟩;unfold Bc;rw[Yh a,Yh b];have:Kn (Be s (d2+1) f.type.name x y)=false:=(by unfold Kn;rw[show(Be s (d2+1) f.type.name x y).kind=10 from rfl];rfl);rw[this,Gf]
   ·rw[sb a b c];exact⟨q,j⟩
theorem y0{s:Scm}(g:GdS s):∀(d:Nat) (n:ByteArray) (a b:Val),OkM s true d (AK s n).1 a->OkM s true d (AK s n).1 b->a=AW s (d+1) n a->b=AW s (d+1) n b->Be s (d+1) n a b=AW s (d+1) n (Be s (d+1) n a b)
 |d,n,a,b,u,w,r,t=>by
  have i:=g.asc n;have l:∀f∈AA s n,Bh (AA s n) f.num=(f,true):=λf c=>FO i c;have o:∀v:Val,OkM s true d (AK s n).1 v->v=AW s (d+1) n v->∀f∈AA s n,∀x,vO v.slots f.num=some x->A7 (AL s true d) s true f x=0/\Bc f x=false/\BJ (AW s d) f x=x:=λv ov E f c x hx=>by obtain⟨z,j,k,m⟩:=W2 hx;have q:=(ov.sl z j).2;have p:=(Zty g (ov.pw.imp λh=>h.1) E).2.1 z j;rw[k,show AC (AK s n).1.fields f.num=f from congrArg Prod.fst (l f c),m]at q;unfold PE at p;rw[k,show AC (AA s n) f.num=f from congrArg Prod.fst (l f c),m]at p;exact⟨q,p.2⟩
  show Val.mk 10 0 ⟨#[]⟩ [] [] (Dm (Be s d) (AA s n) a.slots b.slots (AA s n)) (Ci (a.raws++b.raws))=Val.mk 10 0 ⟨#[]⟩ [] [] (Cz (BJ (AW s d)) (AA s n) (Dm (Be s d) (AA s n) a.slots b.slots (AA s n))) (Ci (Ci (a.raws++b.raws)));rw[ZHM,ZwA i (WI (H1 i)) λx hx=>?_];obtain⟨f,c,e,h⟩:=Rm.1 hx;unfold PE;rw[e,l f c,show AC (AA s n) f.num=f from congrArg Prod.fst (l f c)];refine⟨rfl,?_⟩;rcases Rh h with⟨y,z,j,k,m⟩|⟨_,k⟩|⟨j,_,_⟩
  ·rw[m];obtain⟨a1,A,a3⟩:=o a u r f c y j;obtain⟨B,C,D⟩:=o b w t f c z k;exact Zx7 (λd' e n x y G H nx F=>by subst e;exact y0 g d' n x y G H nx F) (g.fl n f c) a1 B A C a3 D
  ·exact(o b w t f c _ k).2
  ·exact(o a u r f c _ j).2
end Go.Proofs.YthcplkfhnnlafaaGreat
