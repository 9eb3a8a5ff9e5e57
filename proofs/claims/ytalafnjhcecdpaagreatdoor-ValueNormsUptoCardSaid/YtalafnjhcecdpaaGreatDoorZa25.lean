import Derived.Test.YtalafnjhcecdpaaGreatDoorZa24
import Derived.Test.YtalafnjhcecdpaaGreatDoorZa00
namespace Go.Proofs.YtalafnjhcecdpaaGreatDoor
set_option linter.all false
open Go Go.Eng
theorem NC{v:Val}(b:AK v):∃n:Nat,v.bits=n/\n<18446744073709551616/\v.bits.toNat=n:=by obtain⟨n,a⟩:=XL (Oa b).1;exact⟨n,a,by have:=(Oa b).2;omega,by rw[a];rfl⟩
theorem je{v:Val}(h:AK v):PJ v=some (CC v):=by
 obtain⟨n,d,f,g⟩:=NC h;obtain⟨y,e,a⟩:=oz f;rw[<-d]at e;unfold CC;dsimp only[PJ,br,wg,lr,Ax,br];rw[e,g];by_cases c:v.kind=6
 ·cases b:HK n with
  |true=>
   rw[b,Yr]at a;simp[c,a]
  |false=>
   rw[b,YE]at a;simp[c,a]
 ·simp[c]
theorem yJ{v:Val}(h:SzV v):ci v=some (MA v):=by have a:Lm v.kind=some (decide (1<=v.kind)&&decide (v.kind<=9)):=rfl;dsimp only[ci,wg,lr,cl,Ax];rw[a,jN h,Ya];unfold MA;rw[OX];cases(decide (1<=v.kind)&&decide (v.kind<=9))<;>cases EQ v<;>cases decide (v.bits=0)<;>cases decide (v.text=⟨#[]⟩)<;>rfl
theorem ZRc(f:Fld){v:Val}(h:SzV v):bw f v=some (Bo f v):=by
 have d:v.list.length<4611686018427387904:=by have:=h.l;omega
 have e:v.pairs.length<4611686018427387904:=by have:=h.p;omega
 have g:decide ((v.list.length:Int)=0)=decide (v.list.length=0):=decide_eq_decide.2 ae;have i:decide ((v.pairs.length:Int)=0)=decide (v.pairs.length=0):=decide_eq_decide.2 ae;unfold Bo;dsimp only[bw,br,vz,wg,lr,Ax,Ai,br];rw[yJ h];by_cases b:f.card=4
 ·simp[b,d]
 ·by_cases c:f.card=5
  ·simp[c,e]
  ·by_cases a:f.card=3
   ·simp[a]
   ·simp[a,b,c]
theorem tb{a b:Val}(v:1<=a.kind/\a.kind<=9)(g:AK a)(i:AK b):PP Ah a b=some (Cc a b):=by
 obtain⟨n,s,m,o⟩:=NC g;obtain⟨k,r,j,l⟩:=NC i;have w:(Ah:Nat)=(Ah-1)+1:=by have:=Zw;omega
 rw[w];show VU (PP (Ah-1)) a b=_;unfold Cc;dsimp only[VU,br,wg,lr,cl,cs,br];by_cases he:a.kind=b.kind
 ·have a1:¬a.kind=11:=ae
  have u:¬a.kind=12:=ae
  have a3:¬a.kind=10:=ae
  have z:=SC m s;have t:=SC j r;rw[<-he]at t;have e:(decide (1<=b.kind)&&decide (b.kind<=9))=true:=by rw[<-he];simp[v]
  have q:PQ a b=some (if a.kind=7\/a.kind=8 then Ec a.text b.text else if a.kind=2\/a.kind=3 then Bv (IntKind.u64.wrap (a.bits+9223372036854775808)) (IntKind.u64.wrap (b.bits+9223372036854775808))else if a.kind=6 then Bv (CP a.bits.toNat) (CP b.bits.toNat)else Bv a.bits b.bits):=by
   have y:¬a.kind<b.kind:=ae;have x:¬b.kind<a.kind:=ae;dsimp only[PQ,br,wg,lr,cl,br,Lm,lr,Lj,lr];simp only[he,e,Ya,Yx,Yp,Int.lt_irrefl,YN,Yi,YC];rw[<-he];by_cases d:a.kind=7\/a.kind=8
   ·have c:(decide (a.kind=7)||decide (a.kind=8))=true:=(by simpa using d);rw[Ym d];simp only[c,Yp,Y4];unfold Ec;cases h:Bt a.text b.text with
    |true=>simp
    |false=>by_cases f:a.text=b.text<;>simp[f]
   ·have c:(decide (a.kind=7)||decide (a.kind=8))=false:=(by simpa using d);rw[Yk d];simp only[c,Yi,YC,Y5,z,t,Ya];have A:∀a b:Int,(if decide (a<b)=true then some (-1:Int)else if decide (b<a)=true then some 1 else some 0)=some (Bv a b):=λa b=>by
     unfold Bv;by_cases h:a<b
     ·simp[h]
     ·by_cases f:b<a<;>simp[h,f]
    rw[A,o,l,s,r];by_cases hs:a.kind=2\/a.kind=3
    ·simp only[hs,Yp]
    ·simp only[hs,YC];by_cases p:a.kind=6
     ·simp only[p,Yp]
     ·simp only[p,YC]
  rw[<-he];simp only[a1,u,a3,Yo,Yx,YN,Yi,YC,q,Ya,ne_eq,H4]
 ·simp only[he,Yx,YQ,Yp,ZQP,Ya,ne_eq,Gu]
theorem Zl{α:Type}{p:α->Bool}:∀{l:List α} {v:Nat},v<=l.length->(∀(j:Nat) (x:α),j<v->l[j]?=some x->p x=false)->(∀x,l[v]?=some x->p x=true)->l.findIdx p=v
 |[],v,h,_,_=>by simp at h;subst h;rfl
 |x::l,0,_,_,a=>by rw[Xx,a x rfl];rfl
 |x::l,v+1,h,b,a=>by rw[Xx,b 0 x ae rfl];show l.findIdx p+1=v+1;rw[Zl (v:=v) (by simpa using h) (λj y c hy=>b (j+1) y ae hy) λy hy=>a y hy]
theorem P8{l:List Pr}:∀{i:Nat} {p:Pr},p∈CL l i->p∈l
 |0,p,h=>by cases h
 |i+1,p,h=>by
  unfold CL at h;cases e:l[i]? with
  |none=>rw[e]at h;exact P8 h
  |some q=>
   rw[e]at h;dsimp only at h;split at h
   ·exact P8 h
   ·unfold F7 at h;rcases Hg.1 h with h|h
    ·exact P8 (Sc h)
    ·rcases Hg.1 h with h|h
     ·rw[Hb.1 h];exact Yh e
     ·exact P8 (XB h)
theorem Zvi(l:List Pr)(p:Pr):(F7 l p).length=l.length+1:=by unfold F7;rw[Yt,Yt,YD,Dz];simp;omega
theorem Uy(l:List Pr):∀i:Nat,(CL l i).length<=i
 |0=>Yf _
 |i+1=>by
  have a:=Uy l i;unfold CL;cases l[i]? with
  |none=>exact R3 a
  |some q=>
   dsimp only;split
   ·omega
   ·rw[Zvi];omega
theorem wX(l:List Pr)(hl:l.length<=4194304)(s:∀p∈l,(1<=p.key.kind/\p.key.kind<=9)/\AK p.key):cj l=some (DG l):=by
 have u:l.length<4611686018427387904:=ae
 have T:∀(out:List Pr) (i:Nat) (p:Pr),l[i]?=some p->Aj (NX l out i) Ah (true,i+1)=some (.inl (!(l.drop (i+1)).any λq=>decide (Cc p.key q.key=0))):=by
  intro out i p f;have hi:=(Yc.1 f).1;have q:=DB (B:=NX l out i) (N:=Ah) (ρ:=List Pr) (l.drop (i+1)) (λx=>!x.any λq=>decide (Cc p.key q.key=0)) (λj b=>(b,i+1+j)) id (λj x hx=>by
   rw[YY]at hx;have h:((i+1+j:Nat):Int)<l.length:=A5 hx;have m:i+1+j+1<9223372036854775808:=(by have:=(Yc.1 hx).1;omega);have A:l.getD i Rw.z=p:=(by rw[Yg,f];rfl);have C:l.getD (i+1+j) Rw.z=x:=(by rw[Yg,hx];rfl);have D:(0:Int)<=i/\(i:Int)<l.length:=ae;have E:(0:Int)<=((i+1+j:Nat):Int)/\((i+1+j:Nat):Int)<l.length:=⟨ae,h⟩;have o:=s p (Yh f);have e:=tb o.1 o.2 (s x (Yh hx)).2;rw[List.any_append];generalize ((l.drop (i+1)).take j).any (λq=>decide (Cc p.key q.key=0))=t;dsimp only[NX,br,AW,vz,vs,v2,ln,Af,Ax,wa,Ai,br];simp only[u,h,A,C,D,E,e,YW,Yo,Yp,B5,CQ,Y0,YI];rw[Ym m];cases t<;>simp[List.any_cons,YM]) (by
   dsimp only[NX,br,AW,vz,vs,v2,ln,Af,Ax,wa,Ai,br];have g:¬((i+1+(l.drop (i+1)).length:Nat):Int)<l.length:=(by rw[Dz];omega);simp only[u,g,Yx,Yi,Yp,YC];rfl) (by rw[Dz];exact AM ae)
  exact q
 have U:∀(out:List Pr) (i:Nat) (p:Pr),l[i]?=some p->(∀q∈out,q∈l)->out.length<=4194304->Aj (Oi l out i) Ah 0=some (.inl (Jb out p)):=by
  intro out i p f Q R;have hi:=(Yc.1 f).1;have w2:out.length<4611686018427387904:=ae
  have A:l.getD i Rw.z=p:=by rw[Yg,f];rfl
  have D:(0:Int)<=i/\(i:Int)<l.length:=ae
  have q:Ok (Sum.elim (λy:Nat=>y=Jb out p) No) (Aj (Oi l out i) Ah 0):=by
   refine Bu (λv:Nat=>v<=out.length/\∀(j:Nat) (x:Pr),j<v->out[j]?=some x->(!decide (Cc x.key p.key<0))=false) (λv:Nat=>out.length-v) ⟨Cn _,λj x K=>absurd K (Y2 _)⟩ (AM ae) λv S=>?_;obtain⟨J,w⟩:=S;by_cases c:v<out.length
   ·have hx:=Yd c;have hm:=Hc c;generalize out[v]=x at hx hm;have h:(v:Int)<out.length:=ae;have m:v+1<9223372036854775808:=ae;have C:out.getD v Rw.z=x:=(by rw[Yg,hx];rfl);have E:(0:Int)<=v/\(v:Int)<out.length:=ae;have r:=s x (Q x hm);have e:=tb r.1 r.2 (s p (Yh f)).2;dsimp only[Oi,br,AW,vz,vs,v2,ln,Af,Ax,wa,Ai,br];simp only[w2,h,A,C,D,E,e,YW,Yo,Yp,B5,CQ,Y0,YI,Y4];by_cases d:Cc x.key p.key<0
    ·rw[Yq d,Ym rfl,Ym m];refine⟨_,rfl,⟨⟨ae,λj y K hy=>?_⟩,ae⟩⟩;by_cases P:j=v
     ·subst P;rw[hx]at hy;cases hy;rw[Yq d];rfl
     ·exact w j y ae hy
    ·rw[Ys d,Yk (by decide)];refine⟨_,rfl,?_⟩;exact(Zl J w λy hy=>by rw[hx]at hy;cases hy;rw[Ys d];rfl).symm
   ·have h:¬(v:Int)<out.length:=ae;dsimp only[Oi,br,AW,vz,vs,v2,ln,Af,Ax,wa,Ai,br];simp only[w2,h,Yx,Yi,H3,Y5,Yp,YC];refine⟨_,rfl,?_⟩;exact(Zl J w λy hy=>by have:=(Yc.1 hy).1;omega).symm
  obtain⟨y,e,a⟩:=q;cases y with
  |inr y=>exact a.elim
  |inl y=>
   have a:y=Jb out p:=a;rw[e,a]
 have M:=DB (B:=Ra l) (N:=Ah) (ρ:=List Pr) l (λp=>CL l p.length) (λi b=>(b,i)) id (λi p f=>by
  have h:=A5 f;have hi:=(Yc.1 f).1;have m:i+1<9223372036854775808:=ae
  have L:(l.take i).length=i:=by rw[YD];omega
  have z:(l.take i++[p]).length=i+1:=by rw[Yt,L];rfl
  have hm:=λq=>@P8 l i q;have n:=Uy l i;have hs:CL l (i+1)=if((l.drop (i+1)).any λq=>decide (Cc p.key q.key=0))=true then CL l i else F7 (CL l i) p:=by rw[CL,f]
  rw[L,z,hs];unfold F7;generalize CL l i=out at hm n⊢;have O:=T out i p f;have I:=U out i p f hm ae;have a1:Jb out p<=out.length:=List.findIdx_le_length;generalize Jb out p=k at I a1⊢;have F:(out.take k).length+(([p]:List Pr)++out.drop k).length<549755813888:=by rw[Yt,YD,Dz,Js];omega
  have G:([p]:List Pr).length+(out.drop k).length<549755813888:=by rw[Dz,Js];omega
  have H:(out.take k).length<549755813888:=by rw[YD];omega
  dsimp only[Ra,Wu,br,ix,vz,vw,wg,vs,v2,ln,Af,lc,gA,ar,a0,wa,sL,fl,fz,Ai,br];simp only[u,h,m,O,f,Yo,Yp,Ya,C2,id];cases(l.drop (i+1)).any λq=>decide (Cc p.key q.key=0)with
  |true=>simp
  |false=>
   simp only[YQ,Yp,I,Ya,C2,Bd.c,Bd.vl,a1,Yf,B5,C1,Cn,F,G,H,OQ,Hh,Yi,YC];simp[F,G,H,Jr];omega) (by dsimp only[Ra,Wu,br,ix,vz,vw,wg,vs,v2,ln,Af,lc,gA,ar,a0,wa,sL,fl,fz,Ai,br];simp[u]) (AM ae)
 rw[show CL l ([]:List Pr).length=[]from rfl]at M;dsimp only[cj,vz,vw,lr,lc,fz];rw[M];rfl
end Go.Proofs.YtalafnjhcecdpaaGreatDoor
namespace Go.Proofs.YtalafnjhcecdpaaGreatDoor
set_option linter.all false
open Go Go.Eng
theorem UR{α β:Type}{e:α->List D}{e':β->List D}{g:β->α}:∀{l:List β},(∀x∈l,Ap (e (g x))<=Ap (e' x))->AR ((l.map g).map e)<=AR (l.map e')
 |[],_=>Yf _
 |x::l,h=>by have a:=h x YJ;have b:=UR (l:=l) λy hy=>h y (YH _ hy);simp only[YZ,AR];omega
theorem eg{α:Type}(e:α->List D)(p:α->Bool):∀l:List α,AR (l.map e)=AR ((l.filter p).map e)+AR ((l.filter λx=>!p x).map e)
 |[]=>rfl
 |x::l=>by have h:=eg e p l;cases c:p x<;>simp only[XO,c,YZ,AR,YN,YQ,Yi,Yp,YC]<;>omega
theorem Mz(v:Val):Ap (Ae v)=rk .i64 v.kind+(rk .u64 v.bits+(v.text.size+(AR (v.list.map AE)+(AR (v.pairs.map An)+(AR (v.slots.map Ar)+AR (v.raws.map Ay)))))):=by simp only[Ae,Ap,bk];omega
theorem Ws(k b:Int)(t:ByteArray)(l:List Val)(p:List Pr)(s:List Slt)(r:List Raw):Ap (Ae (.mk k b t l p s r))=rk .i64 k+(rk .u64 b+(t.size+(AR (l.map AE)+(AR (p.map An)+(AR (s.map Ar)+AR (r.map Ay)))))):=Mz _
theorem pk(p:Pr):Ap (An p)=Ap (Ae p.key)+Ap (Ae p.val):=by
 have e:An p=Ae p.key++Ae p.val:=by rw[LM];rfl
 rw[e,NE]
theorem oC(x:Slt):Ap (Ar x)=rk .i64 x.num+Ap (Ae x.val):=by
 have e:Ar x=D.int .i64 x.num::Ae x.val:=by rw[LH];rfl
 rw[e,Ap,bk]
theorem tA(v:Val):Ap (Ae (CC v))<=Ap (Ae v):=by
 unfold CC;split
 ·rw[Ws,Mz v];have h:rk .u64 9221120237041090560=0:=by decide
  rw[h];omega
 ·exact Yf _
theorem nk{α:Type}(e:α->List D)(l:List α)(i:Nat):AR ((l.take i).map e)+AR ((l.drop i).map e)=AR (l.map e):=by
 conv=>rhs;rw[<-H9 i l,D1,Lz]
theorem jU:∀(l out:List Raw),AR ((l.foldl insR out).map Ay)=AR (out.map Ay)+AR (l.map Ay)
 |[],out=>rfl
 |x::l,out=>by rw[OW,jU l];have h:=nk Ay out (Es out x out.length);unfold insR;simp only[D1,Lz,YZ,E6,AR];omega
theorem jy(l:List Pr):∀i:Nat,AR ((CL l i).map An)<=AR ((l.take i).map An)
 |0=>Yf _
 |i+1=>by
  have a:=jy l i;unfold CL;cases e:l[i]? with
  |none=>
   have h:=List.getElem?_eq_none_iff.1 e;rw[Jr ae]at a⊢;exact a
  |some q=>
   rw[Uk An e];dsimp only;split
   ·omega
   ·have h:=nk An (CL l i) (Jb (CL l i) q);unfold F7;simp only[D1,Lz,YZ,E6,AR];omega
theorem jJ{N:Fld->Val->Val}(hN:∀f x,Ap (Ae (N f x))<=Ap (Ae x)):∀{F:List Fld} (l:List Slt),(F.Pairwise λa b=>a.num<b.num)->AR ((CN N F l).map Ar)<=AR (l.map Ar)
 |[],l,_=>by show 0<=_;omega
 |f::F,l,h=>by
  obtain⟨g,i⟩:=DY.1 h;have k:=jJ hN (l.filter λx=>!decide (x.num=f.num)) i;have e:CN N F (l.filter λx=>!decide (x.num=f.num))=CN N F l:=by
   unfold CN;rw[List.flatMap_def,List.flatMap_def];congr 1;refine Fa λo j=>?_;rw[List.filter_filter];congr 1;refine List.filter_congr λx _=>?_;have:=g o j;by_cases c:x.num=o.num
   ·have d:¬x.num=f.num:=ae;simp[d]
   ·simp[c]
  rw[e]at k;have b:=eg Ar (λx=>decide (x.num=f.num)) l;have a:=eg Ar (λx=>!Bo f x.val) (l.filter λx=>decide (x.num=f.num));have m:AR (((l.filter λx=>decide (x.num=f.num)&&!Bo f x.val).map λx=>Slt.mk f.num (N f x.val)).map Ar)<=AR (((l.filter λx=>decide (x.num=f.num)).filter λx=>!Bo f x.val).map Ar):=by rw[List.filter_filter];rw[show(l.filter λx=>decide (x.num=f.num)&&!Bo f x.val)=l.filter λx=>!Bo f x.val&&decide (x.num=f.num)from List.filter_congr λx _=>Bool.and_comm _ _];refine UR λx hx=>?_;have hx:=(Hf.1 hx).2;rw[Yb,Yr]at hx;have:=hN f x.val;rw[oC,oC,hx.2];exact Nat.add_le_add_left this _
  show AR ((((l.filter λx=>decide (x.num=f.num)&&!Bo f x.val).map λx=>Slt.mk f.num (N f x.val))++CN N F l).map Ar)<=_;rw[D1,Lz];omega
theorem fe{R:ByteArray->Val->Val}(a:∀n v,Ap (Ae (R n v))<=Ap (Ae v))(t:Typ)(v:Val):Ap (Ae (BF R t v))<=Ap (Ae v):=by
 unfold BF;split
 ·exact a _ _
 ·exact tA v
theorem zP{R:ByteArray->Val->Val}(c:∀n v,Ap (Ae (R n v))<=Ap (Ae v))(f:Fld)(v:Val):Ap (Ae (B2 R f v))<=Ap (Ae v):=by
 unfold B2;split
 ·have a:rk .i64 11=0:=by decide
  have b:rk .u64 0=0:=by decide
  have d:AR ((v.list.map (BF R f.type)).map AE)<=AR (v.list.map AE):=UR λx _=>by rw[GE,GE];exact fe c f.type x
  rw[Ws,Mz v];simp only[a,b,E6,AR];have:(⟨#[]⟩:ByteArray).size=0:=rfl;omega
 ·split
  ·have a:rk .i64 12=0:=(by decide);have b:rk .u64 0=0:=(by decide);have d:AR ((v.pairs.map λp=>Pr.mk (CC p.key) (BF R f.type p.val)).map An)<=AR (v.pairs.map An):=UR λp _=>by rw[pk,pk];exact Nat.add_le_add (tA p.key) (fe c f.type p.val)
   have e:=jy (v.pairs.map λp=>Pr.mk (CC p.key) (BF R f.type p.val)) (v.pairs.map λp=>Pr.mk (CC p.key) (BF R f.type p.val)).length;rw[OU]at e;rw[Ws,Mz v];simp only[a,b,E6,AR,DG];have:(⟨#[]⟩:ByteArray).size=0:=rfl;omega
  ·exact fe c f.type v
theorem U3{s:Scm}(h:∀n:ByteArray,Ds (Bg s n) (Bg s n).length):∀(d:Nat) (n:ByteArray) (v:Val),Ap (Ae (A0 s d n v))<=Ap (Ae v)
 |0,n,v=>Yf _
 |d+1,n,v=>by
  have a:rk .i64 10=0:=by decide
  have b:rk .u64 0=0:=by decide
  have e:=jJ (λf x=>zP (λn v=>U3 h d n v) f x) v.slots (vx (h n));have c:=jU v.raws [];rw[A0,Ws,Mz v,ES];simp only[a,b,c,E6,AR];have:(⟨#[]⟩:ByteArray).size=0:=rfl;omega
def RW(a:Bool)(s:Scm)(R:Scm->Fld->Val->Option Val)(d:Nat):Prop:=∀(f:Fld) (v:Val),GdF s f->AK v->BN (AP s a d) s a f v=0->R s f v=some (B2 (A0 s d) f v)
theorem tY{N:Fld->Val->Val}{l:List Slt}(hl:l.Pairwise λa b=>a.num≠b.num):∀F:List Fld,(CN N F l).length<=F.length
 |[]=>Yf _
 |f::F=>by
  have g:=tY (N:=N) hl F;show(((l.filter λx=>decide (x.num=f.num)&&!Bo f x.val).map λx=>Slt.mk f.num (N f x.val))++CN N F l).length<=_;rw[Yt,YF,D0];by_cases c:∃x∈l,x.num=f.num/\Bo f x.val=false
  ·obtain⟨x,hx,e,d⟩:=c;have:=ri hl (λy=>!Bo f y.val) hx (by rw[d];rfl);rw[<-e,this,Js];omega
  ·rw[q6 f.num (λy=>!Bo f y.val) λx hx e=>by
    cases d:Bo f x.val with
    |true=>rfl
    |false=>exact absurd ⟨x,hx,e,d⟩ c,Hd]
   omega
theorem ZwY(l:List Raw)(x:Raw):(insR l x).length=l.length+1:=by unfold insR;simp only[Yt,YD,Dz,Js];omega
theorem ti:∀(l out:List Raw),(l.foldl insR out).length=out.length+l.length
 |[],out=>rfl
 |x::l,out=>by rw[OW,ti l,ZwY,D0];omega
theorem gg(out:List Raw)(x:Raw):∀k:Nat,Es out x k<=k
 |0=>Yf _
 |k+1=>by have:=gg out x k;unfold Es;split<;>omega
theorem tk{s:Scm}{I:Bool}(hs:Ap (Al s)<=1048576)(g:GdS s)(R:Scm->Fld->Val->Option Val)(d:Nat)(hR:RW I s R d)(n:ByteArray)(v:Val)(z:AK v)(h:OkM s I d (A4 s n).1 v):PM R s n v=some (A0 s (d+1) n v):=by
 have G:=Cm z;have W:M4 s n=some (A4 s n):=gO s n (DX hs).ml;have ha:=g.asc n;have hl:(Bg s n).length<=1048576:=ND (DX hs) n;have zs:=G.s;have zr:=G.r;have M:(Bg s n).length<4611686018427387904:=ae
 have w2:v.slots.length<4611686018427387904:=ae
 have O:v.raws.length<4611686018427387904:=ae
 have pw:v.slots.Pairwise λa b=>a.num≠b.num:=h.pw.imp λh=>h.1;have J:=DB (B:=Rv s v R (A4 s n)) (N:=Ah) (ρ:=Val) (Bg s n) (λp=>CN (B2 (A0 s d)) p v.slots) (λi b=>(i,b)) id (λi f u=>by
  have r:=A5 u;have hi:=(Yc.1 u).1;have y:i+1<9223372036854775808:=ae
  have hm:=Yh u;have K:=DB (B:=RB s v R (A4 s n) i f) (N:=Ah) (ρ:=Val) v.slots (λp=>CN (B2 (A0 s d)) ((Bg s n).take i) v.slots++(p.filter λx=>decide (x.num=f.num)&&!Bo f x.val).map λx=>Slt.mk f.num (B2 (A0 s d) f x.val)) (λi b=>(i,b)) id (λj x hx=>by
   have H:=A5 hx;have hj:=(Yc.1 hx).1;have C:j+1<9223372036854775808:=ae;have D:v.slots.getD j Rw.z=x:=(by rw[Yg,hx];rfl);have E:(0:Int)<=j/\(j:Int)<v.slots.length:=⟨ae,H⟩;have l:=Yh hx;have X:=ZRc f (Cm (GQ z l));have a1:=tY (N:=B2 (A0 s d)) pw ((Bg s n).take i);have w:(((v.slots.take j).filter λx=>decide (x.num=f.num)&&!Bo f x.val).map λx=>Slt.mk f.num (B2 (A0 s d) f x.val)).length<=4194304:=(by rw[YF];refine D2 (Sb _ _) ?_;rw[YD];omega);rw[YD]at a1;rw[KN,D1];have a3:(CN (B2 (A0 s d)) ((Bg s n).take i) v.slots++((v.slots.take j).filter λx=>decide (x.num=f.num)&&!Bo f x.val).map λx=>Slt.mk f.num (B2 (A0 s d) f x.val)).length<549755813887:=(by rw[Yt];omega);rw[<-DZ];generalize CN (B2 (A0 s d)) ((Bg s n).take i) v.slots++((v.slots.take j).filter λx=>decide (x.num=f.num)&&!Bo f x.val).map (λx=>Slt.mk f.num (B2 (A0 s d) f x.val))=out at a3⊢;dsimp only[RB,Wi,WH,Kd,Wt,Wo,br,ix,AW,vz,vw,wg,vs,v2,ln,Af,lc,ap,Ax,cs,wa,tw,fl,Ai,br];simp only[w2,H,D,E,hx,X,YW,Yo,Yp,Ya,B5,CQ,Y0,YI];by_cases c:x.num=f.num
   ·cases F:Bo f x.val with
    |true=>simp[c,F,C]
    |false=>
     have ef:AU (Bg s n) x.num=f:=(by unfold AU;rw[c,U7 ha hm]);have o:=(h.sl x l).2;rw[show(A4 s n).1.fields=Bg s n from rfl,ef]at o;have Y:=hR f x.val (g.fl n f hm) (GQ z l) o;simp[c,F,C,Y,a3]
   ·simp[c,C]) (by dsimp only[RB,Wi,WH,Kd,Wt,Wo,br,ix,AW,vz,vw,wg,vs,v2,ln,Af,lc,ap,Ax,cs,wa,tw,fl,Ai,br];simp[w2]) (AM ae)
  dsimp only[Rv,br,ix,vz,wg,vs,v2,ln,Af,lc,wa,fl,Ai,br];rw[show(A4 s n).1.fields=Bg s n from rfl];simp only[M,r,u,Yo,Yp,Ya];simp only[List.filter_nil,E6,KP]at K;rw[K];have Z:CN (B2 (A0 s d)) ((Bg s n).take i++[f]) v.slots=CN (B2 (A0 s d)) ((Bg s n).take i) v.slots++(v.slots.filter λx=>decide (x.num=f.num)&&!Bo f x.val).map λx=>Slt.mk f.num (B2 (A0 s d) f x.val):=by unfold CN;rw[List.flatMap_append,Xw,List.flatMap_nil,KP]
  simp only[Ya,C2,id,y,Yp,Z]) (by dsimp only[Rv,br,ix,vz,wg,vs,v2,ln,Af,lc,wa,fl,Ai,br];rw[show(A4 s n).1.fields=Bg s n from rfl];simp[M]) (AM ae)
 have q3:∀out:List Slt,Aj (Oh v R out) Ah (0,[])=some (.inl (ES v.raws)):=λout=>by
  have q:=DB (B:=Oh v R out) (N:=Ah) (ρ:=Val) v.raws ES (λi b=>(i,b)) id (λi x hx=>by
   have r:=A5 hx;have hi:=(Yc.1 hx).1;have y:i+1<9223372036854775808:=ae;have e:ES (v.raws.take i++[x])=insR (ES (v.raws.take i)) x:=(by unfold ES;rw[List.foldl_append];rfl);have a1:(ES (v.raws.take i)).length<=4194304:=(by unfold ES;rw[ti,YD];simp only[Hd];omega);rw[e];generalize ES (v.raws.take i)=c at a1⊢;have w4:c.length<4611686018427387904:=ae;have D:v.raws.getD i Rw.z=x:=(by rw[Yg,hx];rfl);have E:(0:Int)<=i/\(i:Int)<v.raws.length:=⟨ae,r⟩;have q4:∀(k N:Nat),k<=c.length->k<N->Aj (Rp v R out i c) N (k:Int)=some (.inl ((Es c x k:Nat):Int)):=by
    intro k
    induction k with
    |zero=>
     intro N _ hN;obtain⟨N,rfl⟩:∃m,N=m+1:=⟨N-1,ae⟩;rw[Aj];dsimp only[Rp,br,AW,vz,wg,vs,vg,ln,Af,wi,fl,br];simp[Es]
    |succ k A=>
     intro N hk hN;obtain⟨N,rfl⟩:∃m,N=m+1:=⟨N-1,ae⟩;have P:((k+1:Nat):Int)-1=(k:Int):=ae;have Q:(0:Int)<((k+1:Nat):Int):=ae;have S:(0:Int)<=k/\(k:Int)<c.length:=⟨ae,ae⟩;have T: -9223372036854775808<=(k:Int)/\(k:Int)<9223372036854775808:=ae;have A:=A N ae ae;rw[Aj,Es];dsimp only[Rp,br,AW,vz,wg,vs,vg,ln,Af,wi,fl,br];simp only[P,Q,S,T,D,E,YW,Yo,Yp,Ya,Y4,B5,CQ];by_cases t:x.num<(c.getD k Rw.z).num
     ·rw[Yq t,Ym rfl,Ym t];exact A
     ·rw[Ys t,Yk (by decide),Yk t]
   have L:=q4 c.length Ah (Yf _) (AM ae);have w:=gg c x c.length;unfold insR;generalize Es c x c.length=k at L w⊢;have U:(c.take k).length<549755813887:=(by rw[YD];omega);have V:(c.take k++[x]).length+(c.drop k).length<549755813888:=(by rw[Yt,YD,Dz,Js];omega);dsimp only[Oh,br,ix,vz,vw,wg,vs,ln,Af,lc,ap,aq,a0,wa,sL,fl,fz,Ai,br];simp only[O,w4,r,y,L,hx,Yo,Yp,Ya,C2,id,Bd.c,Bd.vl,YW];simp[U,V,w];exact⟨ae,ae,ae,Jr (by rw[Dz];exact Yf _)⟩) (by dsimp only[Oh,br,ix,vz,vw,wg,vs,ln,Af,lc,ap,aq,a0,wa,sL,fl,fz,Ai,br];simp[O]) (AM ae)
  exact q
 dsimp only[PM,vz,vw,wg,lr,lc,cl,fl,fz,fr];rw[W,Ya];rw[show CN (B2 (A0 s d)) ([]:List Fld) v.slots=[]from rfl]at J;rw[J,Ya];simp only[C2,id];rw[q3,Ya];rfl
theorem fp{s:Scm}{f:Bool}(hs:Ap (Al s)<=1048576)(g:GdS s)(R:Scm->Fld->Val->Option Val)(d:Nat)(i:∀d':Nat,d=d'+1->RW f s R d')(t:Typ)(v:Val)(b:AK v)(h:B3 (AP s f d) s t v=0):Li R s t v=some (BF (A0 s d) t v):=by
 unfold BF;dsimp only[Li,br,wg,lr,cl,cs,br];by_cases c:t.kind=10
 ·unfold B3 at h;rw[Ym c]at h;cases a:(A4 s t.name).2 with
  |false=>rw[a]at h;cases h
  |true=>
   rw[a,Ym rfl]at h;cases d with
   |zero=>
    unfold AP at h;split at h<;>cases h
   |succ d=>
    have e:=tk hs g R d (i d rfl) t.name v b (Vv.1 h);rw[Ym (Yq c),e,Ym c];rfl
 ·rw[Yk (by simp[c]),je b,Yk c];rfl
theorem ZMK{s:Scm}{n:Bool}(hs:Ap (Al s)<=1048576)(g:GdS s)(R:Scm->Fld->Val->Option Val)(d:Nat)(t:∀d':Nat,d=d'+1->RW n s R d')(f:Fld)(v:Val)(E:GdF s f)(c:AK v)(h:BN (AP s n d) s n f v=0):SX R s f v=some (B2 (A0 s d) f v):=by
 have y:=Cm c;have I:=y.l;have J:=y.p;have z:v.list.length<4611686018427387904:=ae
 have w2:v.pairs.length<4611686018427387904:=ae
 unfold B2;unfold BN at h;dsimp only[SX,vz,vw,wg,lr,lc,cl,cs,fl,fz,fr];by_cases m:f.card=4
 ·rw[Ym m]at h⊢;split at h
  ·cases h
  ·rw[Ny]at h;have q:=DB (B:=Rs s f v R) (N:=Ah) (ρ:=Val) v.list (λp=>p.map (BF (A0 s d) f.type)) (λi b=>(i,b)) id (λi x hx=>by have o:=A5 hx;have hi:=(Yc.1 hx).1;have r:i+1<9223372036854775808:=ae;have hm:=Yh hx;have e:=fp hs g R d t f.type x (Hx c hm) (h x hm);have a1:((v.list.take i).map (BF (A0 s d) f.type)).length<549755813887:=(by rw[YF,YD];omega);rw[D1];generalize (v.list.take i).map (BF (A0 s d) f.type)=out at a1⊢;dsimp only[Rs,WL,Wg,br,ix,vz,vw,wg,vs,ln,Af,lc,ap,cs,wa,tw,fl,Ai,br];simp only[z,o,r,hx,e,a1,Yo,Yp,Ya,YZ,E6]) (by dsimp only[Rs,WL,Wg,br,ix,vz,vw,wg,vs,ln,Af,lc,ap,cs,wa,tw,fl,Ai,br];simp[z]) (AM ae);rw[E6]at q;rw[Ym (Yq m),q];rfl
 ·rw[Yk m]at h⊢;rw[Yk (by simp[m])];by_cases k:f.card=5
  ·rw[Ym k]at h⊢;split at h
   ·cases h
   ·rw[NK]at h;have u:∀p∈v.pairs,p.key.kind=f.key/\B3 (AP s n d) s f.type p.val=0:=λp a=>by obtain⟨j,F⟩:=YP.1 a;have:=h j p F;rw[Zj]at this;exact⟨(MV this.1).1,this.2.2⟩
    have G:=E.ky k;have w:∀p∈v.pairs,CC p.key=p.key:=λp a=>by unfold CC;rw[Yk];have:=(u p a).1;omega
    have q:=DB (B:=Rg s f v R) (N:=Ah) (ρ:=Val) v.pairs (λl=>l.map λp=>Pr.mk (CC p.key) (BF (A0 s d) f.type p.val)) (λi b=>(b,i)) id (λi p a=>by have o:=A5 a;have hi:=(Yc.1 a).1;have r:i+1<9223372036854775808:=ae;have hm:=Yh a;have e:=fp hs g R d t f.type p.val (Dr c hm).2 (u p hm).2;have A:=je (Dr c hm).1;have a1:((v.pairs.take i).map λp=>Pr.mk (CC p.key) (BF (A0 s d) f.type p.val)).length<549755813887:=(by rw[YF,YD];omega);rw[D1];generalize (v.pairs.take i).map (λp=>Pr.mk (CC p.key) (BF (A0 s d) f.type p.val))=out at a1⊢;dsimp only[Rg,Wh,br,ix,vz,vw,vs,ln,Af,lc,ap,cl,cs,wa,du,fl,Ai,br];simp only[w2,o,r,a,e,A,a1,Yo,Yp,Ya,YZ,E6]) (by dsimp only[Rg,Wh,br,ix,vz,vw,vs,ln,Af,lc,ap,cl,cs,wa,du,fl,Ai,br];simp[w2]) (AM ae);rw[E6]at q;have C:=wX (v.pairs.map λp=>Pr.mk (CC p.key) (BF (A0 s d) f.type p.val)) (by rw[YF];have:=CH (e:=An) v.pairs;have D:Ap (Ae v)<=1048576:=c;rw[Mz]at D;omega) λq H=>by
     obtain⟨p,a,rfl⟩:=YV.1 H;have:=(u p a).1;refine⟨?_,?_⟩
     ·show 1<=(CC p.key).kind/\(CC p.key).kind<=9;rw[w p a];omega
     ·show AK (CC p.key);rw[w p a];exact(Dr c a).1
    rw[Ym (Yq k),q,Ya];simp only[C2,id];rw[C];rfl
  ·rw[Yk k]at h⊢;rw[Yk (by simp[k]),fp hs g R d t f.type v c h];rfl
theorem wt{s:Scm}{j:Bool}(hs:Ap (Al s)<=1048576)(g:GdS s):∀a d:Nat,d<a->RW j s (JN a) d
 |0,d,h=>ae
 |a+1,d,h=>λf v c i b=>ZMK hs g (JN a) d (λd' e=>wt hs g a d' ae) f v c i b
theorem sC{s:Scm}{b:Bool}(hs:Ap (Al s)<=1048576)(g:GdS s)(n:ByteArray)(v:Val)(a:AK v)(h:OkM s b 15 (A4 s n).1 v):PM (JN Ah) s n v=some (A0 s 16 n v):=tk hs g _ 15 (wt hs g Ah 15 (AM ae)) n v a h
theorem Zx5{s:Scm}(hs:Ap (Al s)<=1048576)(g:GdS s)(n:ByteArray)(v:Val)(d:AK v):Ok (λb:Bool=>b=true↔Fp s true n v=0/\v=A0 s 16 n v) (b7 s n v):=by
 dsimp only[b7,wg,lr,cl,Ax];rw[y1 hs n v d,Ya];by_cases c:Fp s true n v=0
 ·have i:AK (A0 s 16 n v):=D2 (U3 g.asc 16 n v) d;obtain⟨b,e,a⟩:=mN d i;have f:=sC hs g n v d (fP.1 c).2.1;simp[c,e,f,a];exact⟨_,rfl,a⟩
 ·exact⟨false,by simp[c],Iff.intro (λh=>absurd h (by decide)) λh=>absurd h.1 c⟩
structure OkW (s:Scm) (k:Bool) (d:Nat) (m:Msg) (v:Val):Prop where
 pw:v.slots.Pairwise λa b=>a.num≠b.num/\HZ m.fields a b
 sl:∀x∈v.slots,(BG m.fields x.num).2=true/\BN (AP s k d) s k (AU m.fields x.num) x.val=0
theorem OkM.w{s:Scm}{k:Bool}{d:Nat}{m:Msg}{v:Val}(h:OkM s k d m v):OkW s k d m v:=⟨h.pw,h.sl⟩
def wN(W:ByteArray->Val->Prop)(f:Fld)(v:Val):Prop:=(f.card=5->∀p∈v.pairs,1<=p.key.kind/\p.key.kind<=9)/\(¬f.card=4->¬f.card=5->f.type.kind=10->W f.type.name v)
def Wk(s:Scm):Nat->ByteArray->Val->Prop
 |0,_,_=>False
 |d+1,n,v=>(v.slots.Pairwise λa b=>a.num≠b.num/\HZ (Bg s n) a b)/\∀x∈v.slots,(BG (Bg s n) x.num).2=true/\wN (Wk s d) (AU (Bg s n) x.num) x.val
theorem yc{s:Scm}{t:Typ}{v:Val}{d:Nat}(c:t.kind=10)(h:B3 (AP s true d) s t v=0):∃d',d=d'+1/\OkM s true d' (A4 s t.name).1 v:=by
 unfold B3 at h;rw[Ym c]at h;cases a:(A4 s t.name).2 with
 |false=>rw[a]at h;cases h
 |true=>
  rw[a,Ym rfl]at h;cases d with
  |zero=>
   unfold AP at h;split at h<;>cases h
  |succ d=>exact⟨d,rfl,Vv.1 h⟩
theorem Zwf{s:Scm}{f:Fld}{v:Val}{d:Nat}(b:GdF s f)(a:f.card=5)(h:BN (AP s true d) s true f v=0):∀p∈v.pairs,1<=p.key.kind/\p.key.kind<=9:=λp e=>by
 unfold BN at h;rw[Yk ae,Ym a]at h;split at h
 ·cases h
 ·rw[NK]at h;obtain⟨j,c⟩:=YP.1 e;have:=h j p c;rw[Zj]at this;have g:=(MV this.1).1;have i:=b.ky a;omega
theorem OkW.wk{s:Scm}(g:GdS s):∀(d:Nat) {n:ByteArray} {v:Val},OkW s true d (A4 s n).1 v->Wk s (d+1) n v
 |d,n,v,o=>⟨o.pw,λx hx=>by
  obtain⟨b,a⟩:=o.sl x hx;have b:(BG (Bg s n) x.num).2=true:=b;have a:BN (AP s true d) s true (AU (Bg s n) x.num) x.val=0:=a;have i:AU (Bg s n) x.num∈Bg s n:=by
   rcases Qe (Bg s n) x.num with⟨c,_⟩|⟨_,c⟩
   ·rw[b]at c;cases c
   ·exact c
  refine⟨b,λf=>Zwf (g.fl n _ i) f a,λh f c=>?_⟩;unfold BN at a;rw[Yk h,Yk f]at a;obtain⟨d',e,j⟩:=yc c a;subst e;exact OkW.wk g d' j.w⟩
end Go.Proofs.YtalafnjhcecdpaaGreatDoor
