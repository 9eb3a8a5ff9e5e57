import Derived.Test.YthcplkfhnnlafaaGreatZm25
import Derived.Test.YthcplkfhnnlafaaGreatZm00
namespace Go.Proofs.YthcplkfhnnlafaaGreat
set_option linter.all false
open Go Go.Eng
theorem ZQq(l:List Raw)(h:l.length<=4194304):gh l l=some true:=by
 have w:l.length<4611686018427387904:=ae
 have q:=CK (B:=SD l l) (N:=Ag) (ρ:=Bool) l (λ_=>()) (λi _=>i) id (λi x hx=>by
  have a:=A5 hx;have b:i+1<9223372036854775808:=by have:=(Yb.1 hx).1;omega
  dsimp only[SD,br,ix,vs,Ar,ln,Af,wa,br];simp[a,b,hx]) (by dsimp only[SD,br,ix,vs,Ar,ln,Af,wa,br];simp) (AM ae)
 dsimp only[gh,br,vz,lr,lc,Ah,br];simp[w,q]
theorem ZQK(l:List Val)(h:l.length<=4194304)(f:Val->Val->Option Bool)(d:∀x∈l,f x x=some true):VG l l f=some true:=by
 have w:l.length<4611686018427387904:=ae
 have q:=CK (B:=SV l l f) (N:=Ag) (ρ:=Bool) l (λ_=>()) (λi _=>i) id (λi x hx=>by
  have a:=A5 hx;have b:i+1<9223372036854775808:=by have:=(Yb.1 hx).1;omega
  have c:=d x (Yg hx);dsimp only[SV,br,ix,wg,vs,Ar,ln,Af,cf,wa,br];simp[a,b,c,hx]) (by dsimp only[SV,br,ix,wg,vs,Ar,ln,Af,cf,wa,br];simp) (AM ae)
 dsimp only[VG,br,vz,lr,lc,Ah,br];simp[w,q]
theorem ZPi(l:List Pr)(h:l.length<=4194304)(f:Pr->Pr->Option Bool)(d:∀x∈l,f x x=some true):VJ l l f=some true:=by
 have w:l.length<4611686018427387904:=ae
 have q:=CK (B:=SZ l l f) (N:=Ag) (ρ:=Bool) l (λ_=>()) (λi _=>i) id (λi x hx=>by
  have a:=A5 hx;have b:i+1<9223372036854775808:=by have:=(Yb.1 hx).1;omega
  have c:=d x (Yg hx);dsimp only[SZ,br,ix,wg,vs,Ar,ln,Af,cf,wa,br];simp[a,b,c,hx]) (by dsimp only[SZ,br,ix,wg,vs,Ar,ln,Af,cf,wa,br];simp) (AM ae)
 dsimp only[VJ,br,vz,lr,lc,Ah,br];simp[w,q]
theorem ZQM(l:List Slt)(h:l.length<=4194304)(f:Slt->Slt->Option Bool)(d:∀x∈l,f x x=some true):VI l l f=some true:=by
 have w:l.length<4611686018427387904:=ae
 have q:=CK (B:=Ss l l f) (N:=Ag) (ρ:=Bool) l (λ_=>()) (λi _=>i) id (λi x hx=>by
  have a:=A5 hx;have b:i+1<9223372036854775808:=by have:=(Yb.1 hx).1;omega
  have c:=d x (Yg hx);dsimp only[Ss,br,ix,wg,vs,Ar,ln,Af,cf,wa,br];simp[a,b,c,hx]) (by dsimp only[Ss,br,ix,wg,vs,Ar,ln,Af,cf,wa,br];simp) (AM ae)
 dsimp only[VI,br,vz,lr,lc,Ah,br];simp[w,q]
theorem SG:∀(c:Nat) (v:Val),An (Ae v)<c->AN v->KD c v v=some true
 |0,v,h,_=>ae
 |c+1,v,h,k=>by
  obtain⟨t1,t2,t3,t4,t5⟩:=Cm k;have j:v.list.length<4611686018427387904:=ae
  have l:v.pairs.length<4611686018427387904:=ae
  have m:v.slots.length<4611686018427387904:=ae
  have n:v.raws.length<4611686018427387904:=ae
  have e0:gb v=some (.mk v.kind v.bits v.text (v.list.length:Int) (v.pairs.length:Int) (v.slots.length:Int) (v.raws.length:Int)):=by dsimp only[gb,vz,wg,lr,Ah]
  have e:=ZQq v.raws ae;have f:=ZQK v.list ae (λz0 d=>KD c z0 d) λx hx=>SG c x (by have:=Zr hx;omega) (I1 k hx);have g:=ZPi v.pairs ae (λz0 d=>QF (KD c) z0 d) λx hx=>by have a:=SG c x.key (by have:=(MP hx).1;omega) (DJ k hx).1;have b:=SG c x.val (by have:=(MP hx).2;omega) (DJ k hx).2;dsimp only[QF,wg,lr,cs,C1];simp[a,b]
  have i:=ZQM v.slots ae (λz0 d=>QD (KD c) z0 d) λx hx=>by have a:=SG c x.val (by have:=XB hx;omega) (GC k hx);dsimp only[QD,wg,lr,C1];simp[a]
  show UI (KD c) v v=_;dsimp only[UI,br,wg,lr,cl,Az,cs,C1,br];rw[e0];simp[e,f,g,i]
mutual
def dp:Val->Nat
 |.mk k _ _ l p s _=>max (max (B1 l) (DZ p)) (Ei s)+if k=10 then 1 else 0
def B1:List Val->Nat
 |[]=>0
 |v::l=>max (dp v) (B1 l)
def LG:Pr->Nat
 |.mk k v=>max (dp k) (dp v)
def DZ:List Pr->Nat
 |[]=>0
 |p::l=>max (LG p) (DZ l)
def P7:Slt->Nat
 |.mk _ v=>dp v
def Ei:List Slt->Nat
 |[]=>0
 |x::l=>max (P7 x) (Ei l)
end
mutual
theorem SJ:∀v:Val,dp v<=cnt v
 |.mk k b t l p s r=>by have a:=lY l;have c:=nR p;have d:=nF s;rw[dp,cnt];split<;>omega
theorem lY:∀l:List Val,B1 l<=A1 l
 |[]=>B8 _
 |v::l=>by have a:=SJ v;have b:=lY l;rw[B1,A1];omega
theorem ZF9:∀p:Pr,LG p<=Lc p
 |.mk k v=>by have a:=SJ k;have b:=SJ v;rw[LG,Lc];omega
theorem nR:∀l:List Pr,DZ l<=Bz l
 |[]=>B8 _
 |v::l=>by have a:=ZF9 v;have b:=nR l;rw[DZ,Bz];omega
theorem ZEi:∀x:Slt,P7 x<=K8 x
 |.mk n v=>by have a:=SJ v;rw[P7,K8];omega
theorem nF:∀l:List Slt,Ei l<=B0 l
 |[]=>B8 _
 |v::l=>by have a:=ZEi v;have b:=nF l;rw[Ei,B0];omega
end
theorem io(x:Slt):P7 x=dp x.val:=by cases x;rw[P7];rfl
theorem ZG1(p:Pr):LG p=max (dp p.key) (dp p.val):=by cases p;rw[LG];rfl
theorem MR(v:Val):dp v=max (max (B1 v.list) (DZ v.pairs)) (Ei v.slots)+if v.kind=10 then 1 else 0:=by cases v;rw[dp];rfl
theorem Oo:∀a b:List Val,B1 (a++b)=max (B1 a) (B1 b)
 |[],b=>by rw[B1,Ge];omega
 |v::a,b=>by rw[HO,B1,B1,Oo a b];omega
theorem nU:∀l:List Pr,B1 (l.flatMap λp=>[p.key,p.val])=DZ l
 |[]=>by rw[List.flatMap_nil,B1,DZ]
 |p::l=>by rw[TP,Oo,nU l,DZ,ZG1,B1,B1,B1];omega
theorem mN:∀l:List Slt,B1 (l.map λx=>x.val)=Ei l
 |[]=>by rw[DU,B1,Ei]
 |p::l=>by rw[YY,B1,mN l,Ei,io]
theorem ZIP(v:Val):dp v=B1 (Ch v)+if v.kind=10 then 1 else 0:=by unfold Ch;rw[Oo,Oo,nU,mN,MR]
theorem Xh:∀(d:Nat) (v:Val),An (Ae v)<d->AN v->Me d v=some (dp v:Int)
 |0,v,h,_=>ae
 |d+1,v,h,k=>by
  have l:=Cm k;have hl:=xC l;have r:=jf k;have s:=SJ v;have q:(Ch v).length<4611686018427387904:=ae
  have j:=CK (B:=Pa v (Me d) (Ch v)) (N:=Ag) (ρ:=Int) (Ch v) (λp=>(B1 p:Int)) (λi b=>(b,i)) id (λi x hx=>by have n:=A5 hx;have o:i+1<9223372036854775808:=(by have:=(Yb.1 hx).1;omega);have hm:=w5 k (Yg hx);have e:=Xh d x ae hm.1;have f:Ek true (B1 ((Ch v).take i):Int) (dp x:Int)=(B1 ((Ch v).take i++[x]):Int):=(by rw[Oo,B1,B1];unfold Ek;rw[Yi rfl];split<;>omega);generalize (B1 ((Ch v).take i):Int)=a at f⊢;generalize (B1 ((Ch v).take i++[x]):Int)=b at f⊢;generalize (dp x:Int)=c at e f;dsimp only[Pa,br,ix,wg,vs,v2,ln,Af,cs,wa,br];simp only[n,hx,Yn,Yq,Ya];rw[e,Ya,Yi o,f]) (by dsimp only[Pa,br,ix,wg,vs,v2,ln,Af,cs,wa,br];simp) (AM ae);have j:Aj (Pa v (Me d) (Ch v)) Ag (0,0)=some (.inl (B1 (Ch v):Int)):=j;have e0:=ZIP v;show Uj (Me d) v=_;dsimp only[Uj,br,vz,wg,vs,lr,lc,cl,wi,Ah,br];rw[yR l];simp only[q,Yq,j,Ya,Cr];by_cases c:v.kind=10
  ·rw[Yi c]at e0;have g:(B1 (Ch v):Int)+1=(dp v:Int):=ae;have m: -9223372036854775808<=(dp v:Int)/\(dp v:Int)<9223372036854775808:=ae;rw[Yi (Yp c),g,Yi m]
  ·rw[Yh c]at e0;have g:(B1 (Ch v):Int)=(dp v:Int):=ae;rw[Yh (by simp[c]),g]
end Go.Proofs.YthcplkfhnnlafaaGreat
namespace Go.Proofs.YthcplkfhnnlafaaGreat
set_option linter.all false
open Go Go.Eng
def BK(v:Val):Val:=if v.kind=6/\Ib v.bits.toNat=true then .mk v.kind 9221120237041090560 v.text v.list v.pairs v.slots v.raws else v
def B7(a b:Val):Int:=if a.kind≠b.kind then Bv a.kind b.kind else if a.kind=7\/a.kind=8 then EB a.text b.text else if a.kind=2\/a.kind=3 then Bv (IntKind.u64.wrap (a.bits+9223372036854775808)) (IntKind.u64.wrap (b.bits+9223372036854775808))else if a.kind=6 then Bv (C3 a.bits.toNat) (C3 b.bits.toNat)else Bv a.bits b.bits
def JN(out:List Pr)(p:Pr):Nat:=out.findIdx λq=>!decide (B7 q.key p.key<0)
def GQ(out:List Pr)(p:Pr):List Pr:=out.take (JN out p)++([p]++out.drop (JN out p))
def CX(l:List Pr):Nat->List Pr
 |0=>[]
 |i+1=>match l[i]? with
  |some p=>if((l.drop (i+1)).any λq=>decide (B7 p.key q.key=0))=true then CX l i else GQ (CX l i) p
  |none=>CX l i
def BY(l:List Pr):List Pr:=CX l l.length
def EU(out:List Raw)(x:Raw):Nat->Nat
 |0=>0
 |k+1=>if x.num<(out.getD k Rw.z).num then EU out x k else k+1
def insR(out:List Raw)(x:Raw):List Raw:=(out.take (EU out x out.length)++[x])++out.drop (EU out x out.length)
def Ci(l:List Raw):List Raw:=l.foldl insR []
def Ba(R:ByteArray->Val->Val)(t:Typ)(v:Val):Val:=if t.kind=10 then R t.name v else BK v
def BJ(R:ByteArray->Val->Val)(f:Fld)(v:Val):Val:=
 if f.card=4 then .mk 11 0 ⟨#[]⟩ (v.list.map (Ba R f.type)) [] [] []
 else if f.card=5 then .mk 12 0 ⟨#[]⟩ [] (BY (v.pairs.map λp=>.mk (BK p.key) (Ba R f.type p.val))) [] []
 else Ba R f.type v
def Kn(v:Val):Bool:=decide (1<=v.kind/\v.kind<=9)&&Fp v&&decide (v.bits=0)&&decide (v.text=⟨#[]⟩)
def Bc(f:Fld)(v:Val):Bool:=if f.card=4 then decide (v.list.length=0)else if f.card=5 then decide (v.pairs.length=0)else decide (f.card=3)&&Kn v
def Cz(N:Fld->Val->Val)(F:List Fld)(l:List Slt):List Slt:=F.flatMap λf=>(l.filter λx=>decide (x.num=f.num)&&!Bc f x.val).map λx=>.mk f.num (N f x.val)
def AW(s:Scm):Nat->ByteArray->Val->Val
 |0,_,v=>v
 |d+1,n,v=>.mk 10 0 ⟨#[]⟩ [] [] (Cz (BJ (AW s d)) (AA s n) v.slots) (Ci v.raws)
def Fq(l:List Slt):Prop:=l.Pairwise λa b=>a.num<b.num
def PE(N:Fld->Val->Val)(F:List Fld)(x:Slt):Prop:=(Bh F x.num).2=true/\Bc (AC F x.num) x.val=false/\N (AC F x.num) x.val=x.val
theorem ZD6{F:List Fld}(h:CF F F.length){f g:Fld}(c:f∈F)(d:g∈F)(e:f.num=g.num):f=g:=by have a:=FO h c;have b:=FO h d;rw[e,b]at a;exact(Prod.mk.inj a).1.symm
theorem H1{F:List Fld}(h:CF F F.length):F.Pairwise λa b=>a.num<b.num:=by rw[G6];intro i j hi d c;exact WY h (j-(i+1)) i _ _ (Ye hi) (by rw[show i+1+(j-(i+1))=j by omega];exact Ye d)
theorem gv{l:List Slt}(h:l.Pairwise λa b=>a.num≠b.num)(p:Slt->Bool){x:Slt}(hx:x∈l)(g:p x=true):(l.filter λy=>decide (y.num=x.num)&&p y)=[x]:=by
 induction l with
 |nil=>cases hx
 |cons y l j=>
  obtain⟨c,f⟩:=Y1.1 h;rcases Yx.1 hx with e|hx
  ·subst e;have d:(l.filter λz=>decide (z.num=x.num)&&p z)=[]:=(by rw[TW];intro z i;have:=c z i;simp only[Yc,Yr,not_and];exact λe=>absurd e.symm this);rw[PP,d];simp[g]
  ·have:=c x hx;rw[PP,j f hx];simp[this]
theorem vE{l:List Slt}(k:Int)(p:Slt->Bool)(h:∀x∈l,x.num=k->p x=false):(l.filter λy=>decide (y.num=k)&&p y)=[]:=by rw[TW];intro z a;simp only[Yc,Yr,not_and];intro e;rw[h z a e];decide
theorem WR{N:Fld->Val->Val}{F:List Fld}{l:List Slt}{z:Slt}:z∈Cz N F l↔∃f∈F,∃x∈l,x.num=f.num/\Bc f x.val=false/\z=.mk f.num (N f x.val):=by
 unfold Cz;rw[Nj];constructor
 ·rintro⟨f,c,h⟩;obtain⟨x,hx,rfl⟩:=YV.1 h;obtain⟨b,a⟩:=Y2.1 hx;simp only[Yc,Yr,YM]at a;exact⟨f,c,x,b,a.1,a.2,rfl⟩
 ·rintro⟨f,c,x,hx,b,a,rfl⟩;exact⟨f,c,YV.2 ⟨x,Y2.2 ⟨hx,by simp[b,a]⟩,rfl⟩⟩
theorem Wz{N:Fld->Val->Val}:∀{F:List Fld} {l:List Slt},(F.Pairwise λa b=>a.num<b.num)->(l.Pairwise λa b=>a.num≠b.num)->Fq (Cz N F l)
 |[],l,_,_=>by unfold Cz Fq;simp
 |f::F,l,h,hl=>by
  obtain⟨i,j⟩:=Y1.1 h;have o:=Wz (N:=N) (l:=l) j hl;show Fq ((l.filter λx=>decide (x.num=f.num)&&!Bc f x.val).map (λx=>Slt.mk f.num (N f x.val))++Cz N F l);unfold Fq;rw[PV];refine⟨?_,o,λa k b m=>?_⟩
  ·rw[Nh];by_cases c:∃x∈l,x.num=f.num/\Bc f x.val=false
   ·obtain⟨x,hx,e,d⟩:=c;have:=gv hl (λy=>!Bc f y.val) hx (by rw[d];rfl);rw[<-e,this];exact Na _ _
   ·rw[vE f.num (λy=>!Bc f y.val) λx hx e=>by
     cases d:Bc f x.val with
     |true=>rfl
     |false=>exact absurd ⟨x,hx,e,d⟩ c]
    exact List.Pairwise.nil
  ·obtain⟨x,_,rfl⟩:=YV.1 k;obtain⟨g,n,y,_,_,_,rfl⟩:=WR.1 m;exact i g n
theorem ZCU{l:List Slt}(h:Fq l):l.Pairwise λa b=>a.num≠b.num:=h.imp λh=>ae
theorem WO:∀{a b:List Slt},Fq a->Fq b->(∀x,x∈a↔x∈b)->a=b
 |[],[],_,_,_=>rfl
 |[],y::b,_,_,h=>absurd ((h y).2 YH) aN
 |x::a,[],_,_,h=>absurd ((h x).1 YH) aN
 |x::a,y::b,j,k,h=>by
  obtain⟨a1,g⟩:=Y1.1 j;obtain⟨f,i⟩:=Y1.1 k;have e:x=y:=by
   rcases Yx.1 ((h x).1 YH)with e|e
   ·exact e
   ·rcases Yx.1 ((h y).2 YH)with d|d
    ·exact d.symm
    ·have l:=a1 y d;have m:=f x e;omega
  subst e;rw[WO g i λz=>?_];constructor
  ·intro c;rcases Yx.1 ((h z).1 (YI _ c))with e|e
   ·subst e;have:=a1 z c;omega
   ·exact e
  ·intro c;rcases Yx.1 ((h z).2 (YI _ c))with e|e
   ·subst e;have:=f z c;omega
   ·exact e
theorem ZwA{N:Fld->Val->Val}{F:List Fld}(h:CF F F.length){l:List Slt}(i:Fq l)(j:∀x∈l,PE N F x):Cz N F l=l:=by
 refine WO (Wz (H1 h) (ZCU i)) i λz=>?_;rw[WR];constructor
 ·rintro⟨f,n,x,hx,g,o,rfl⟩;obtain⟨a,m,b⟩:=j x hx;have e:AC F x.num=f:=by unfold AC;rw[g,FO h n]
  rw[e]at b;rw[b,<-g];cases x;exact hx
 ·intro k;obtain⟨a,m,b⟩:=j z k;rcases K1 F z.num with⟨c,d⟩|⟨c,d⟩
  ·rw[a]at c;cases c
  ·refine⟨_,d,z,k,(Mk a).symm,m,?_⟩;rw[b,Mk a];cases z;rfl
theorem ZKg{N:Fld->Val->Val}{F:List Fld}(h:CF F F.length){l:List Slt}(k:l.Pairwise λa b=>a.num≠b.num)(e:l=Cz N F l):Fq l/\∀x∈l,PE N F x:=by
 refine⟨e▸Wz (H1 h) k,λz g=>?_⟩;have i:=g;rw[e]at g;obtain⟨f,m,x,hx,c,n,j⟩:=WR.1 g;have p:z.num=x.num:=by rw[j,c];rfl
 have d:x=z:=by have o:=gv k (λ_=>true) hx rfl;have hm:z∈l.filter λy=>decide (y.num=x.num)&&true:=Y2.2 ⟨i,by simp[p]⟩;rw[o]at hm;exact(Y5.1 hm).symm
 subst d;have ef:AC F x.num=f:=by unfold AC;rw[c,FO h m]
 refine⟨by rw[c,FO h m],by rw[ef];exact n,?_⟩;rw[ef];have:=congrArg Slt.val j;exact this.symm
theorem KW{α:Type}(f:α->Int)(l:List α):BR (λ_ x=>f x) l 0=0↔∀x∈l,f x=0:=by
 rw[IW];constructor
 ·intro h x hx;obtain⟨j,a⟩:=YJ.1 hx;exact h j x a
 ·intro h j x a;exact h x (Yg a)
def D1(F:List Fld)(a b:Slt):Prop:=¬((AC F a.num).union=(AC F b.num).union/\(AC F b.num).union≠⟨#[]⟩)
theorem D1.symm{F:List Fld}{a b:Slt}(h:D1 F a b):D1 F b a:=λ⟨e,k⟩=>h ⟨e.symm,by rw[<-e]at*;exact k⟩
theorem jw{R:Fld->Val->Int}{F:List Fld}{l:List Slt}{i:Nat}{x:Slt}:Ee R F l i x=0↔(Bh F x.num).2=true/\(∀y∈l.take i,y.num≠x.num/\D1 F y x)/\R (AC F x.num) x.val=0:=by
 unfold Ee;cases f:(Bh F x.num).2 with
 |false=>simp
 |true=>
  rw[Yh (by decide)];by_cases b:Bt (l.take i) x.num=true
  ·rw[Yi b];constructor
   ·intro h;cases h
   ·rintro⟨_,h,_⟩;obtain⟨y,hy,e⟩:=YP.1 b;exact absurd (Y7 e) (h y hy).1
  ·rw[Yh b];have c:∀y∈l.take i,y.num≠x.num:=λy hy e=>b (YP.2 ⟨y,hy,Yp e⟩);by_cases a:HB F (l.take i) (AC F x.num).union=true
   ·rw[Yi a];constructor
    ·intro h;cases h
    ·rintro⟨_,h,_⟩;unfold HB at a;rw[Yc,YM,YB]at a;obtain⟨y,hy,e⟩:=YP.1 a.2;exact absurd ⟨Y7 e,a.1⟩ (h y hy).2
   ·rw[Yh a];have d:∀y∈l.take i,D1 F y x:=λy hy ⟨e,k⟩=>a (by unfold HB;rw[Yc,YM,YB];exact⟨k,YP.2 ⟨y,hy,Yp e⟩⟩);exact⟨λh=>⟨rfl,λy hy=>⟨c y hy,d y hy⟩,h⟩,λh=>h.2.2⟩
theorem xJ{R:Fld->Val->Int}{F:List Fld}{l:List Slt}:BR (Ee R F l) l 0=0↔(l.Pairwise λa b=>a.num≠b.num/\D1 F a b)/\∀x∈l,(Bh F x.num).2=true/\R (AC F x.num) x.val=0:=by
 rw[IW,G6];constructor
 ·intro h;refine⟨λi j hi d c=>?_,λx hx=>?_⟩
  ·have:=h j _ (Ye d);rw[YU,jw]at this;exact this.2.1 l[i] (YJ.2 ⟨i,by rw[Y4,Yi c];exact Ye hi⟩)
  ·obtain⟨j,d⟩:=YJ.1 hx;have:=h j x d;rw[YU,jw]at this;exact⟨this.1,this.2.2⟩
 ·rintro⟨g,k⟩ j x d;rw[YU,jw];have hx:=k x (Yg d);obtain⟨f,rfl⟩:=Yb.1 d;refine⟨hx.1,λy hy=>?_,hx.2⟩;obtain⟨i,hi⟩:=YJ.1 hy;rw[Y4]at hi;split at hi
  ·rename_i c;obtain⟨e,rfl⟩:=Yb.1 hi;exact g i j e f c
  ·cases hi
structure OkM (s:Scm) (k:Bool) (d:Nat) (m:Msg) (v:Val):Prop where
 kd:v.kind=10
 ot:BF v=false
 pw:v.slots.Pairwise λa b=>a.num≠b.num/\D1 m.fields a b
 sl:∀x∈v.slots,(Bh m.fields x.num).2=true/\A7 (AL s k d) s k (AC m.fields x.num) x.val=0
 rq:∀f∈m.fields,f.card=1->Bt v.slots f.num=true
 rw:∀x∈v.raws,GW s m.fields x=0
theorem ma{l:List Slt}{f:Fld}:GU l f=0↔(f.card=1->Bt l f.num=true):=by
 unfold GU;by_cases c:f.card=1
 ·cases h:Bt l f.num<;>simp[c]
 ·simp[c]
theorem Zqz{s:Scm}{k:Bool}{d:Nat}{m:Msg}{v:Val}(h:AL s k d m v=0):v.kind=10/\BF v=false:=by
 have:¬(v.kind≠10\/BF v=true):=λc=>by cases d<;>(unfold AL at h;rw[Yi c]at h;cases h)
 refine⟨Decidable.not_not.1 λe=>this (.inl e),?_⟩;cases a:BF v with
 |false=>rfl
 |true=>exact absurd (.inr a) this
theorem Ov{s:Scm}{k:Bool}{d:Nat}{m:Msg}{v:Val}:AL s k (d+1) m v=0↔OkM s k d m v:=by
 constructor
 ·intro h;have g:=Zqz h;unfold AL at h;rw[Yh (λc=>c.elim (λe=>e g.1) (λe=>by rw[g.2]at e;cases e))]at h;by_cases a:BR (Ee (A7 (AL s k d) s k) m.fields v.slots) v.slots 0=0
  ·rw[Yh (λe=>e a)]at h;by_cases b:BR (λ_ f=>GU v.slots f) m.fields 0=0
   ·rw[Yh (λe=>e b)]at h;obtain⟨a1,j⟩:=xJ.1 a;exact⟨g.1,g.2,a1,j,λf i=>ma.1 ((KW _ _).1 b f i),λx hx=>(KW _ _).1 h x hx⟩
   ·rw[Yi b]at h;exact absurd h b
  ·rw[Yi a]at h;exact absurd h a
 ·rintro⟨l,n,o,p,q,r⟩;unfold AL;have a:BR (Ee (A7 (AL s k d) s k) m.fields v.slots) v.slots 0=0:=xJ.2 ⟨o,p⟩;have b:BR (λ_ f=>GU v.slots f) m.fields 0=0:=(KW _ _).2 λf i=>ma.2 (q f i);rw[Yh (λc=>c.elim (λe=>e l) (λe=>by rw[n]at e;cases e)),Yh (λe=>e a),Yh (λe=>e b)];exact(KW _ _).2 r
theorem O1{E:Val->Int}{key:Int}{k:Bool}{l:List Pr}{i:Nat}{p:Pr}:GL E key k l i p=0↔CA key p.key=0/\¬(k=true/\((l.take i).any λq=>FY q.key p.key)=true)/\E p.val=0:=by
 unfold GL;by_cases a:CA key p.key=0
 ·rw[Yh (λe=>e a)];by_cases b:k=true/\((l.take i).any λq=>FY q.key p.key)=true
  ·rw[Yi b];exact Iff.intro (λh=>by cases h) λh=>absurd b h.2.1
  ·rw[Yh b];exact⟨λh=>⟨a,b,h⟩,λh=>h.2.2⟩
 ·rw[Yi a];exact⟨λh=>absurd h a,λh=>absurd h.1 a⟩
theorem Xi{s:Scm}{k:Bool}{n:ByteArray}{v:Val}:GF s k n v=0↔(AK s n).2=true/\OkM s k 15 (AK s n).1 v/\cnt v<=4096:=by
 rw[<-Ov];unfold GF;cases b:(AK s n).2 with
 |false=>simp
 |true=>
  rw[Yh (by decide)];by_cases c:AL s k 16 (AK s n).1 v=0
  ·rw[Yh (λe=>e c)];by_cases a:4096<cnt v
   ·rw[Yi a];exact Iff.intro (λh=>by cases h) λh=>by have:=h.2.2;omega
   ·rw[Yh a];exact⟨λ_=>⟨rfl,c,ae⟩,λ_=>rfl⟩
  ·rw[Yi c];exact⟨λh=>absurd h c,λh=>absurd h.2.1 c⟩
theorem Oq{v:Val}(b:AN v):∃n:Nat,v.bits=n/\n<18446744073709551616/\v.bits.toNat=n:=by obtain⟨n,a⟩:=az (O6 b).1;exact⟨n,a,by have:=(O6 b).2;omega,by rw[a];rfl⟩
theorem ny{v:Val}(h:AN v):QJ v=some (BK v):=by
 obtain⟨n,d,f,g⟩:=Oq h;obtain⟨y,e,a⟩:=tD f;rw[<-d]at e;unfold BK;dsimp only[QJ,br,wg,lr,Az,br];rw[e,g];by_cases c:v.kind=6
 ·cases b:Ib n with
  |true=>
   rw[b,Yr]at a;simp[c,a]
  |false=>
   rw[b,YB]at a;simp[c,a]
 ·simp[c]
theorem ZFX{v:Val}(h:SzV v):eT v=some (Kn v):=by have a:L9 v.kind=some (decide (1<=v.kind)&&decide (v.kind<=9)):=rfl;dsimp only[eT,wg,lr,cl,Az];rw[a,nT h,Ya];unfold Kn;rw[PR];cases(decide (1<=v.kind)&&decide (v.kind<=9))<;>cases Fp v<;>cases decide (v.bits=0)<;>cases decide (v.text=⟨#[]⟩)<;>rfl
theorem ZTz(f:Fld){v:Val}(h:SzV v):ej f v=some (Bc f v):=by
 have d:v.list.length<4611686018427387904:=by have:=h.l;omega
 have e:v.pairs.length<4611686018427387904:=by have:=h.p;omega
 have g:decide ((v.list.length:Int)=0)=decide (v.list.length=0):=decide_eq_decide.2 ae;have i:decide ((v.pairs.length:Int)=0)=decide (v.pairs.length=0):=decide_eq_decide.2 ae;unfold Bc;dsimp only[ej,br,vz,wg,lr,Az,Ah,br];rw[ZFX h];by_cases b:f.card=4
 ·simp[b,d]
 ·by_cases c:f.card=5
  ·simp[c,e]
  ·by_cases a:f.card=3
   ·simp[a]
   ·simp[a,b,c]
theorem yq{a b:Val}(v:1<=a.kind/\a.kind<=9)(g:AN a)(i:AN b):QN Ag a b=some (B7 a b):=by
 obtain⟨n,s,m,o⟩:=Oq g;obtain⟨k,r,j,l⟩:=Oq i;have w:(Ag:Nat)=(Ag-1)+1:=by have:=bD;omega
 rw[w];show Zf (QN (Ag-1)) a b=_;unfold B7;dsimp only[Zf,br,wg,lr,cl,cs,br];by_cases he:a.kind=b.kind
 ·have a1:¬a.kind=11:=ae
  have u:¬a.kind=12:=ae
  have a3:¬a.kind=10:=ae
  have z:=Vc m s;have t:=Vc j r;rw[<-he]at t;have e:(decide (1<=b.kind)&&decide (b.kind<=9))=true:=by rw[<-he];simp[v]
  have q:QO a b=some (if a.kind=7\/a.kind=8 then EB a.text b.text else if a.kind=2\/a.kind=3 then Bv (IntKind.u64.wrap (a.bits+9223372036854775808)) (IntKind.u64.wrap (b.bits+9223372036854775808))else if a.kind=6 then Bv (C3 a.bits.toNat) (C3 b.bits.toNat)else Bv a.bits b.bits):=by
   have y:¬a.kind<b.kind:=ae;have x:¬b.kind<a.kind:=ae;dsimp only[QO,br,wg,lr,cl,br,L9,lr,L6,lr];simp only[he,e,Ya,YC,Yq,Int.lt_irrefl,YQ,Yk,YE];rw[<-he];by_cases d:a.kind=7\/a.kind=8
   ·have c:(decide (a.kind=7)||decide (a.kind=8))=true:=(by simpa using d);rw[Yi d];simp only[c,Yq,Y9];unfold EB;cases h:BB a.text b.text with
    |true=>simp
    |false=>by_cases f:a.text=b.text<;>simp[f]
   ·have c:(decide (a.kind=7)||decide (a.kind=8))=false:=(by simpa using d);rw[Yh d];simp only[c,Yk,YE,CJ,z,t,Ya];have A:∀a b:Int,(if decide (a<b)=true then some (-1:Int)else if decide (b<a)=true then some 1 else some 0)=some (Bv a b):=λa b=>by
     unfold Bv;by_cases h:a<b
     ·simp[h]
     ·by_cases f:b<a<;>simp[h,f]
    rw[A,o,l,s,r];by_cases hs:a.kind=2\/a.kind=3
    ·simp only[hs,Yq]
    ·simp only[hs,YE];by_cases p:a.kind=6
     ·simp only[p,Yq]
     ·simp only[p,YE]
  rw[<-he];simp only[a1,u,a3,Yn,YC,YQ,Yk,YE,q,Ya,ne_eq,IG]
 ·simp only[he,YC,YS,Yq,ZTT,Ya,ne_eq,G2]
theorem a7{α:Type}{p:α->Bool}:∀{l:List α} {v:Nat},v<=l.length->(∀(j:Nat) (x:α),j<v->l[j]?=some x->p x=false)->(∀x,l[v]?=some x->p x=true)->l.findIdx p=v
 |[],v,h,_,_=>by simp at h;subst h;rfl
 |x::l,0,_,_,a=>by rw[aL,a x rfl];rfl
 |x::l,v+1,h,b,a=>by rw[aL,b 0 x ae rfl];show l.findIdx p+1=v+1;rw[a7 (v:=v) (by simpa using h) (λj y c hy=>b (j+1) y ae hy) λy hy=>a y hy]
theorem KT{l:List Pr}:∀{i:Nat} {p:Pr},p∈CX l i->p∈l
 |0,p,h=>by cases h
 |i+1,p,h=>by
  unfold CX at h;cases e:l[i]? with
  |none=>rw[e]at h;exact KT h
  |some q=>
   rw[e]at h;dsimp only at h;split at h
   ·exact KT h
   ·unfold GQ at h;rcases DT.1 h with h|h
    ·exact KT (TX h)
    ·rcases DT.1 h with h|h
     ·rw[Y5.1 h];exact Yg e
     ·exact KT (aB h)
theorem ZwL(l:List Pr)(p:Pr):(GQ l p).length=l.length+1:=by unfold GQ;rw[Yt,Yt,Yz,DS];simp;omega
theorem Wi(l:List Pr):∀i:Nat,(CX l i).length<=i
 |0=>Yf _
 |i+1=>by
  have a:=Wi l i;unfold CX;cases l[i]? with
  |none=>exact TO a
  |some q=>
   dsimp only;split
   ·omega
   ·rw[ZwL];omega
theorem ZDw(l:List Pr)(hl:l.length<=4194304)(s:∀p∈l,(1<=p.key.kind/\p.key.kind<=9)/\AN p.key):eZ l=some (BY l):=by
 have u:l.length<4611686018427387904:=ae
 have T:∀(out:List Pr) (i:Nat) (p:Pr),l[i]?=some p->Aj (O8 l out i) Ag (true,i+1)=some (.inl (!(l.drop (i+1)).any λq=>decide (B7 p.key q.key=0))):=by
  intro out i p f;have hi:=(Yb.1 f).1;have q:=CK (B:=O8 l out i) (N:=Ag) (ρ:=List Pr) (l.drop (i+1)) (λx=>!x.any λq=>decide (B7 p.key q.key=0)) (λj b=>(b,i+1+j)) id (λj x hx=>by
   rw[YZ]at hx;have h:((i+1+j:Nat):Int)<l.length:=A5 hx;have m:i+1+j+1<9223372036854775808:=(by have:=(Yb.1 hx).1;omega);have A:l.getD i Rw.z=p:=(by rw[Yj,f];rfl);have C:l.getD (i+1+j) Rw.z=x:=(by rw[Yj,hx];rfl);have D:(0:Int)<=i/\(i:Int)<l.length:=ae;have E:(0:Int)<=((i+1+j:Nat):Int)/\((i+1+j:Nat):Int)<l.length:=⟨ae,h⟩;have o:=s p (Yg f);have e:=yq o.1 o.2 (s x (Yg hx)).2;rw[List.any_append];generalize ((l.drop (i+1)).take j).any (λq=>decide (B7 p.key q.key=0))=t;dsimp only[O8,br,AZ,vz,vs,v2,ln,Af,Az,wa,Ah,br];simp only[u,h,A,C,D,E,e,YW,Yn,Yq,BZ,CT,Y6,YK];rw[Yi m];cases t<;>simp[List.any_cons,YO]) (by
   dsimp only[O8,br,AZ,vz,vs,v2,ln,Af,Az,wa,Ah,br];have g:¬((i+1+(l.drop (i+1)).length:Nat):Int)<l.length:=(by rw[DS];omega);simp only[u,g,YC,Yk,Yq,YE];rfl) (by rw[DS];exact AM ae)
  exact q
 have U:∀(out:List Pr) (i:Nat) (p:Pr),l[i]?=some p->(∀q∈out,q∈l)->out.length<=4194304->Aj (Pb l out i) Ag 0=some (.inl (JN out p)):=by
  intro out i p f Q R;have hi:=(Yb.1 f).1;have w2:out.length<4611686018427387904:=ae
  have A:l.getD i Rw.z=p:=by rw[Yj,f];rfl
  have D:(0:Int)<=i/\(i:Int)<l.length:=ae
  have q:Ok (Sum.elim (λy:Nat=>y=JN out p) No) (Aj (Pb l out i) Ag 0):=by
   refine BC (λv:Nat=>v<=out.length/\∀(j:Nat) (x:Pr),j<v->out[j]?=some x->(!decide (B7 x.key p.key<0))=false) (λv:Nat=>out.length-v) ⟨B8 _,λj x K=>absurd K (Y8 _)⟩ (AM ae) λv S=>?_;obtain⟨J,w⟩:=S;by_cases c:v<out.length
   ·have hx:=Ye c;have hm:=G3 c;generalize out[v]=x at hx hm;have h:(v:Int)<out.length:=ae;have m:v+1<9223372036854775808:=ae;have C:out.getD v Rw.z=x:=(by rw[Yj,hx];rfl);have E:(0:Int)<=v/\(v:Int)<out.length:=ae;have r:=s x (Q x hm);have e:=yq r.1 r.2 (s p (Yg f)).2;dsimp only[Pb,br,AZ,vz,vs,v2,ln,Af,Az,wa,Ah,br];simp only[w2,h,A,C,D,E,e,YW,Yn,Yq,BZ,CT,Y6,YK,Y9];by_cases d:B7 x.key p.key<0
    ·rw[Yp d,Yi rfl,Yi m];refine⟨_,rfl,⟨⟨ae,λj y K hy=>?_⟩,ae⟩⟩;by_cases P:j=v
     ·subst P;rw[hx]at hy;cases hy;rw[Yp d];rfl
     ·exact w j y ae hy
    ·rw[Yu d,Yh (by decide)];refine⟨_,rfl,?_⟩;exact(a7 J w λy hy=>by rw[hx]at hy;cases hy;rw[Yu d];rfl).symm
   ·have h:¬(v:Int)<out.length:=ae;dsimp only[Pb,br,AZ,vz,vs,v2,ln,Af,Az,wa,Ah,br];simp only[w2,h,YC,Yk,IA,CJ,Yq,YE];refine⟨_,rfl,?_⟩;exact(a7 J w λy hy=>by have:=(Yb.1 hy).1;omega).symm
  obtain⟨y,e,a⟩:=q;cases y with
  |inr y=>exact a.elim
  |inl y=>
   have a:y=JN out p:=a;rw[e,a]
 have M:=CK (B:=Si l) (N:=Ag) (ρ:=List Pr) l (λp=>CX l p.length) (λi b=>(b,i)) id (λi p f=>by
  have h:=A5 f;have hi:=(Yb.1 f).1;have m:i+1<9223372036854775808:=ae
  have L:(l.take i).length=i:=by rw[Yz];omega
  have z:(l.take i++[p]).length=i+1:=by rw[Yt,L];rfl
  have hm:=λq=>@KT l i q;have n:=Wi l i;have hs:CX l (i+1)=if((l.drop (i+1)).any λq=>decide (B7 p.key q.key=0))=true then CX l i else GQ (CX l i) p:=by rw[CX,f]
  rw[L,z,hs];unfold GQ;generalize CX l i=out at hm n⊢;have O:=T out i p f;have I:=U out i p f hm ae;have a1:JN out p<=out.length:=List.findIdx_le_length;generalize JN out p=k at I a1⊢;have F:(out.take k).length+(([p]:List Pr)++out.drop k).length<549755813888:=by rw[Yt,Yz,DS,J3];omega
  have G:([p]:List Pr).length+(out.drop k).length<549755813888:=by rw[DS,J3];omega
  have H:(out.take k).length<549755813888:=by rw[Yz];omega
  dsimp only[Si,XK,br,ix,vz,vw,wg,vs,v2,ln,Af,lc,jR,ar,a0,wa,sL,fl,fz,Ah,br];simp only[u,h,m,O,f,Yn,Yq,Ya,Cr,id];cases(l.drop (i+1)).any λq=>decide (B7 p.key q.key=0)with
  |true=>simp
  |false=>
   simp only[YS,Yq,I,Ya,Cr,Bd.c,Bd.vl,a1,Yf,BZ,C4,B8,F,G,H,PO,HQ,Yk,YE];simp[F,G,H,J2];omega) (by dsimp only[Si,XK,br,ix,vz,vw,wg,vs,v2,ln,Af,lc,jR,ar,a0,wa,sL,fl,fz,Ah,br];simp[u]) (AM ae)
 rw[show CX l ([]:List Pr).length=[]from rfl]at M;dsimp only[eZ,vz,vw,lr,lc,fz];rw[M];rfl
theorem WP{α β:Type}{e:α->List D}{e':β->List D}{g:β->α}:∀{l:List β},(∀x∈l,An (e (g x))<=An (e' x))->AS ((l.map g).map e)<=AS (l.map e')
 |[],_=>Yf _
 |x::l,h=>by have a:=h x YH;have b:=WP (l:=l) λy hy=>h y (YI _ hy);simp only[YY,AS];omega
theorem gZ{α:Type}(e:α->List D)(p:α->Bool):∀l:List α,AS (l.map e)=AS ((l.filter p).map e)+AS ((l.filter λx=>!p x).map e)
 |[]=>rfl
 |x::l=>by have h:=gZ e p l;cases c:p x<;>simp only[PP,c,YY,AS,YQ,YS,Yk,Yq,YE]<;>omega
theorem GX(v:Val):An (Ae v)=rk .i64 v.kind+(rk .u64 v.bits+(v.text.size+(AS (v.list.map AE)+(AS (v.pairs.map Ap)+(AS (v.slots.map Am)+AS (v.raws.map Aw)))))):=by simp only[Ae,An,bk];omega
theorem MH(k b:Int)(t:ByteArray)(l:List Val)(p:List Pr)(s:List Slt)(r:List Raw):An (Ae (.mk k b t l p s r))=rk .i64 k+(rk .u64 b+(t.size+(AS (l.map AE)+(AS (p.map Ap)+(AS (s.map Am)+AS (r.map Aw)))))):=GX _
theorem ta(p:Pr):An (Ap p)=An (Ae p.key)+An (Ae p.val):=by
 have e:Ap p=Ae p.key++Ae p.val:=by rw[Mw];rfl
 rw[e,On]
theorem U3(x:Slt):An (Am x)=rk .i64 x.num+An (Ae x.val):=by
 have e:Am x=D.int .i64 x.num::Ae x.val:=by rw[Mn];rfl
 rw[e,An,bk]
theorem yf(v:Val):An (Ae (BK v))<=An (Ae v):=by
 unfold BK;split
 ·rw[MH,GX v];have h:rk .u64 9221120237041090560=0:=by decide
  rw[h];omega
 ·exact Yf _
theorem sv{α:Type}(e:α->List D)(l:List α)(i:Nat):AS ((l.take i).map e)+AS ((l.drop i).map e)=AS (l.map e):=by
 conv=>rhs;rw[<-IB i l,Df,He]
theorem jB:∀(l out:List Raw),AS ((l.foldl insR out).map Aw)=AS (out.map Aw)+AS (l.map Aw)
 |[],out=>rfl
 |x::l,out=>by rw[Nk,jB l];have h:=sv Aw out (EU out x out.length);unfold insR;simp only[Df,He,YY,DU,AS];omega
theorem jA(l:List Pr):∀i:Nat,AS ((CX l i).map Ap)<=AS ((l.take i).map Ap)
 |0=>Yf _
 |i+1=>by
  have a:=jA l i;unfold CX;cases e:l[i]? with
  |none=>
   have h:=List.getElem?_eq_none_iff.1 e;rw[J2 ae]at a⊢;exact a
  |some q=>
   rw[Wh Ap e];dsimp only;split
   ·omega
   ·have h:=sv Ap (CX l i) (JN (CX l i) q);unfold GQ;simp only[Df,He,YY,DU,AS];omega
theorem mc{N:Fld->Val->Val}(hN:∀f x,An (Ae (N f x))<=An (Ae x)):∀{F:List Fld} (l:List Slt),(F.Pairwise λa b=>a.num<b.num)->AS ((Cz N F l).map Am)<=AS (l.map Am)
 |[],l,_=>by show 0<=_;omega
 |f::F,l,h=>by
  obtain⟨g,i⟩:=Y1.1 h;have k:=mc hN (l.filter λx=>!decide (x.num=f.num)) i;have e:Cz N F (l.filter λx=>!decide (x.num=f.num))=Cz N F l:=by
   unfold Cz;rw[List.flatMap_def,List.flatMap_def];congr 1;refine El λo j=>?_;rw[List.filter_filter];congr 1;refine List.filter_congr λx _=>?_;have:=g o j;by_cases c:x.num=o.num
   ·have d:¬x.num=f.num:=ae;simp[d]
   ·simp[c]
  rw[e]at k;have b:=gZ Am (λx=>decide (x.num=f.num)) l;have a:=gZ Am (λx=>!Bc f x.val) (l.filter λx=>decide (x.num=f.num));have m:AS (((l.filter λx=>decide (x.num=f.num)&&!Bc f x.val).map λx=>Slt.mk f.num (N f x.val)).map Am)<=AS (((l.filter λx=>decide (x.num=f.num)).filter λx=>!Bc f x.val).map Am):=by rw[List.filter_filter];rw[show(l.filter λx=>decide (x.num=f.num)&&!Bc f x.val)=l.filter λx=>!Bc f x.val&&decide (x.num=f.num)from List.filter_congr λx _=>Bool.and_comm _ _];refine WP λx hx=>?_;have hx:=(Y2.1 hx).2;rw[Yc,Yr]at hx;have:=hN f x.val;rw[U3,U3,hx.2];exact Nat.add_le_add_left this _
  show AS ((((l.filter λx=>decide (x.num=f.num)&&!Bc f x.val).map λx=>Slt.mk f.num (N f x.val))++Cz N F l).map Am)<=_;rw[Df,He];omega
theorem iN{R:ByteArray->Val->Val}(a:∀n v,An (Ae (R n v))<=An (Ae v))(t:Typ)(v:Val):An (Ae (Ba R t v))<=An (Ae v):=by
 unfold Ba;split
 ·exact a _ _
 ·exact yf v
theorem ZKL{R:ByteArray->Val->Val}(c:∀n v,An (Ae (R n v))<=An (Ae v))(f:Fld)(v:Val):An (Ae (BJ R f v))<=An (Ae v):=by
 unfold BJ;split
 ·have a:rk .i64 11=0:=by decide
  have b:rk .u64 0=0:=by decide
  have d:AS ((v.list.map (Ba R f.type)).map AE)<=AS (v.list.map AE):=WP λx _=>by rw[Hj,Hj];exact iN c f.type x
  rw[MH,GX v];simp only[a,b,DU,AS];have:(⟨#[]⟩:ByteArray).size=0:=rfl;omega
 ·split
  ·have a:rk .i64 12=0:=(by decide);have b:rk .u64 0=0:=(by decide);have d:AS ((v.pairs.map λp=>Pr.mk (BK p.key) (Ba R f.type p.val)).map Ap)<=AS (v.pairs.map Ap):=WP λp _=>by rw[ta,ta];exact Nat.add_le_add (yf p.key) (iN c f.type p.val)
   have e:=jA (v.pairs.map λp=>Pr.mk (BK p.key) (Ba R f.type p.val)) (v.pairs.map λp=>Pr.mk (BK p.key) (Ba R f.type p.val)).length;rw[Ni]at e;rw[MH,GX v];simp only[a,b,DU,AS,BY];have:(⟨#[]⟩:ByteArray).size=0:=rfl;omega
  ·exact iN c f.type v
theorem mR{s:Scm}(h:∀n:ByteArray,CF (AA s n) (AA s n).length):∀(d:Nat) (n:ByteArray) (v:Val),An (Ae (AW s d n v))<=An (Ae v)
 |0,n,v=>Yf _
 |d+1,n,v=>by
  have a:rk .i64 10=0:=by decide
  have b:rk .u64 0=0:=by decide
  have e:=mc (λf x=>ZKL (λn v=>mR h d n v) f x) v.slots (H1 (h n));have c:=jB v.raws [];rw[AW,MH,GX v,Ci];simp only[a,b,c,DU,AS];have:(⟨#[]⟩:ByteArray).size=0:=rfl;omega
def TD(a:Bool)(s:Scm)(R:Scm->Fld->Val->Option Val)(d:Nat):Prop:=∀(f:Fld) (v:Val),GdF s f->AN v->A7 (AL s a d) s a f v=0->R s f v=some (BJ (AW s d) f v)
theorem y4{N:Fld->Val->Val}{l:List Slt}(hl:l.Pairwise λa b=>a.num≠b.num):∀F:List Fld,(Cz N F l).length<=F.length
 |[]=>Yf _
 |f::F=>by
  have g:=y4 (N:=N) hl F;show(((l.filter λx=>decide (x.num=f.num)&&!Bc f x.val).map λx=>Slt.mk f.num (N f x.val))++Cz N F l).length<=_;rw[Yt,YF,Em];by_cases c:∃x∈l,x.num=f.num/\Bc f x.val=false
  ·obtain⟨x,hx,e,d⟩:=c;have:=gv hl (λy=>!Bc f y.val) hx (by rw[d];rfl);rw[<-e,this,J3];omega
  ·rw[vE f.num (λy=>!Bc f y.val) λx hx e=>by
    cases d:Bc f x.val with
    |true=>rfl
    |false=>exact absurd ⟨x,hx,e,d⟩ c,HP]
   omega
theorem Zy5(l:List Raw)(x:Raw):(insR l x).length=l.length+1:=by unfold insR;simp only[Yt,Yz,DS,J3];omega
theorem y2:∀(l out:List Raw),(l.foldl insR out).length=out.length+l.length
 |[],out=>rfl
 |x::l,out=>by rw[Nk,y2 l,Zy5,Em];omega
theorem iU(out:List Raw)(x:Raw):∀k:Nat,EU out x k<=k
 |0=>Yf _
 |k+1=>by have:=iU out x k;unfold EU;split<;>omega
theorem yh{s:Scm}{I:Bool}(hs:An (Al s)<=1048576)(g:GdS s)(R:Scm->Fld->Val->Option Val)(d:Nat)(hR:TD I s R d)(n:ByteArray)(v:Val)(z:AN v)(h:OkM s I d (AK s n).1 v):QI R s n v=some (AW s (d+1) n v):=by
 have G:=Cm z;have W:NR s n=some (AK s n):=j7 s n (DR hs).ml;have ha:=g.asc n;have hl:(AA s n).length<=1048576:=Ms (DR hs) n;have zs:=G.s;have zr:=G.r;have M:(AA s n).length<4611686018427387904:=ae
 have w2:v.slots.length<4611686018427387904:=ae
 have O:v.raws.length<4611686018427387904:=ae
 have pw:v.slots.Pairwise λa b=>a.num≠b.num:=h.pw.imp λh=>h.1;have J:=CK (B:=SM s v R (AK s n)) (N:=Ag) (ρ:=Val) (AA s n) (λp=>Cz (BJ (AW s d)) p v.slots) (λi b=>(i,b)) id (λi f u=>by
  have r:=A5 u;have hi:=(Yb.1 u).1;have y:i+1<9223372036854775808:=ae
  have hm:=Yg u;have K:=CK (B:=SL s v R (AK s n) i f) (N:=Ag) (ρ:=Val) v.slots (λp=>Cz (BJ (AW s d)) ((AA s n).take i) v.slots++(p.filter λx=>decide (x.num=f.num)&&!Bc f x.val).map λx=>Slt.mk f.num (BJ (AW s d) f x.val)) (λi b=>(i,b)) id (λj x hx=>by
   have H:=A5 hx;have hj:=(Yb.1 hx).1;have C:j+1<9223372036854775808:=ae;have D:v.slots.getD j Rw.z=x:=(by rw[Yj,hx];rfl);have E:(0:Int)<=j/\(j:Int)<v.slots.length:=⟨ae,H⟩;have l:=Yg hx;have X:=ZTz f (Cm (GC z l));have a1:=y4 (N:=BJ (AW s d)) pw ((AA s n).take i);have w:(((v.slots.take j).filter λx=>decide (x.num=f.num)&&!Bc f x.val).map λx=>Slt.mk f.num (BJ (AW s d) f x.val)).length<=4194304:=(by rw[YF];refine EF (ID _ _) ?_;rw[Yz];omega);rw[Yz]at a1;rw[EH,Df];have a3:(Cz (BJ (AW s d)) ((AA s n).take i) v.slots++((v.slots.take j).filter λx=>decide (x.num=f.num)&&!Bc f x.val).map λx=>Slt.mk f.num (BJ (AW s d) f x.val)).length<549755813887:=(by rw[Yt];omega);rw[<-DB];generalize Cz (BJ (AW s d)) ((AA s n).take i) v.slots++((v.slots.take j).filter λx=>decide (x.num=f.num)&&!Bc f x.val).map (λx=>Slt.mk f.num (BJ (AW s d) f x.val))=out at a3⊢;dsimp only[SL,XX,T5,Lg,X4,XM,br,ix,AZ,vz,vw,wg,vs,v2,ln,Af,lc,ap,Az,cs,wa,tw,fl,Ah,br];simp only[w2,H,D,E,hx,X,YW,Yn,Yq,Ya,BZ,CT,Y6,YK];by_cases c:x.num=f.num
   ·cases F:Bc f x.val with
    |true=>simp[c,F,C]
    |false=>
     have ef:AC (AA s n) x.num=f:=(by unfold AC;rw[c,FO ha hm]);have o:=(h.sl x l).2;rw[show(AK s n).1.fields=AA s n from rfl,ef]at o;have Y:=hR f x.val (g.fl n f hm) (GC z l) o;simp[c,F,C,Y,a3]
   ·simp[c,C]) (by dsimp only[SL,XX,T5,Lg,X4,XM,br,ix,AZ,vz,vw,wg,vs,v2,ln,Af,lc,ap,Az,cs,wa,tw,fl,Ah,br];simp[w2]) (AM ae)
  dsimp only[SM,br,ix,vz,wg,vs,v2,ln,Af,lc,wa,fl,Ah,br];rw[show(AK s n).1.fields=AA s n from rfl];simp only[M,r,u,Yn,Yq,Ya];simp only[List.filter_nil,DU,Iy]at K;rw[K];have Z:Cz (BJ (AW s d)) ((AA s n).take i++[f]) v.slots=Cz (BJ (AW s d)) ((AA s n).take i) v.slots++(v.slots.filter λx=>decide (x.num=f.num)&&!Bc f x.val).map λx=>Slt.mk f.num (BJ (AW s d) f x.val):=by unfold Cz;rw[List.flatMap_append,TP,List.flatMap_nil,Iy]
  simp only[Ya,Cr,id,y,Yq,Z]) (by dsimp only[SM,br,ix,vz,wg,vs,v2,ln,Af,lc,wa,fl,Ah,br];rw[show(AK s n).1.fields=AA s n from rfl];simp[M]) (AM ae)
 have q3:∀out:List Slt,Aj (OJ v R out) Ag (0,[])=some (.inl (Ci v.raws)):=λout=>by
  have q:=CK (B:=OJ v R out) (N:=Ag) (ρ:=Val) v.raws Ci (λi b=>(i,b)) id (λi x hx=>by
   have r:=A5 hx;have hi:=(Yb.1 hx).1;have y:i+1<9223372036854775808:=ae;have e:Ci (v.raws.take i++[x])=insR (Ci (v.raws.take i)) x:=(by unfold Ci;rw[List.foldl_append];rfl);have a1:(Ci (v.raws.take i)).length<=4194304:=(by unfold Ci;rw[y2,Yz];simp only[HP];omega);rw[e];generalize Ci (v.raws.take i)=c at a1⊢;have w4:c.length<4611686018427387904:=ae;have D:v.raws.getD i Rw.z=x:=(by rw[Yj,hx];rfl);have E:(0:Int)<=i/\(i:Int)<v.raws.length:=⟨ae,r⟩;have q4:∀(k N:Nat),k<=c.length->k<N->Aj (Su v R out i c) N (k:Int)=some (.inl ((EU c x k:Nat):Int)):=by
    intro k
    induction k with
    |zero=>
     intro N _ hN;obtain⟨N,rfl⟩:∃m,N=m+1:=⟨N-1,ae⟩;rw[Aj];dsimp only[Su,br,AZ,vz,wg,vs,vg,ln,Af,wi,fl,br];simp[EU]
    |succ k A=>
     intro N hk hN;obtain⟨N,rfl⟩:∃m,N=m+1:=⟨N-1,ae⟩;have P:((k+1:Nat):Int)-1=(k:Int):=ae;have Q:(0:Int)<((k+1:Nat):Int):=ae;have S:(0:Int)<=k/\(k:Int)<c.length:=⟨ae,ae⟩;have T: -9223372036854775808<=(k:Int)/\(k:Int)<9223372036854775808:=ae;have A:=A N ae ae;rw[Aj,EU];dsimp only[Su,br,AZ,vz,wg,vs,vg,ln,Af,wi,fl,br];simp only[P,Q,S,T,D,E,YW,Yn,Yq,Ya,Y9,BZ,CT];by_cases t:x.num<(c.getD k Rw.z).num
     ·rw[Yp t,Yi rfl,Yi t];exact A
     ·rw[Yu t,Yh (by decide),Yh t]
   have L:=q4 c.length Ag (Yf _) (AM ae);have w:=iU c x c.length;unfold insR;generalize EU c x c.length=k at L w⊢;have U:(c.take k).length<549755813887:=(by rw[Yz];omega);have V:(c.take k++[x]).length+(c.drop k).length<549755813888:=(by rw[Yt,Yz,DS,J3];omega);dsimp only[OJ,br,ix,vz,vw,wg,vs,ln,Af,lc,ap,aq,a0,wa,sL,fl,fz,Ah,br];simp only[O,w4,r,y,L,hx,Yn,Yq,Ya,Cr,id,Bd.c,Bd.vl,YW];simp[U,V,w];exact⟨ae,ae,ae,J2 (by rw[DS];exact Yf _)⟩) (by dsimp only[OJ,br,ix,vz,vw,wg,vs,ln,Af,lc,ap,aq,a0,wa,sL,fl,fz,Ah,br];simp[O]) (AM ae)
  exact q
 dsimp only[QI,vz,vw,wg,lr,lc,cl,fl,fz,fr];rw[W,Ya];rw[show Cz (BJ (AW s d)) ([]:List Fld) v.slots=[]from rfl]at J;rw[J,Ya];simp only[Cr,id];rw[q3,Ya];rfl
theorem iS{s:Scm}{f:Bool}(hs:An (Al s)<=1048576)(g:GdS s)(R:Scm->Fld->Val->Option Val)(d:Nat)(i:∀d':Nat,d=d'+1->TD f s R d')(t:Typ)(v:Val)(b:AN v)(h:BL (AL s f d) s t v=0):L5 R s t v=some (Ba (AW s d) t v):=by
 unfold Ba;dsimp only[L5,br,wg,lr,cl,cs,br];by_cases c:t.kind=10
 ·unfold BL at h;rw[Yi c]at h;cases a:(AK s t.name).2 with
  |false=>rw[a]at h;cases h
  |true=>
   rw[a,Yi rfl]at h;cases d with
   |zero=>
    unfold AL at h;split at h<;>cases h
   |succ d=>
    have e:=yh hs g R d (i d rfl) t.name v b (Ov.1 h);rw[Yi (Yp c),e,Yi c];rfl
 ·rw[Yh (by simp[c]),ny b,Yh c];rfl
theorem ZQc{s:Scm}{n:Bool}(hs:An (Al s)<=1048576)(g:GdS s)(R:Scm->Fld->Val->Option Val)(d:Nat)(t:∀d':Nat,d=d'+1->TD n s R d')(f:Fld)(v:Val)(E:GdF s f)(c:AN v)(h:A7 (AL s n d) s n f v=0):Va R s f v=some (BJ (AW s d) f v):=by
 have y:=Cm c;have I:=y.l;have J:=y.p;have z:v.list.length<4611686018427387904:=ae
 have w2:v.pairs.length<4611686018427387904:=ae
 unfold BJ;unfold A7 at h;dsimp only[Va,vz,vw,wg,lr,lc,cl,cs,fl,fz,fr];by_cases m:f.card=4
 ·rw[Yi m]at h⊢;split at h
  ·cases h
  ·rw[KW]at h;have q:=CK (B:=SK s f v R) (N:=Ag) (ρ:=Val) v.list (λp=>p.map (Ba (AW s d) f.type)) (λi b=>(i,b)) id (λi x hx=>by have o:=A5 hx;have hi:=(Yb.1 hx).1;have r:i+1<9223372036854775808:=ae;have hm:=Yg hx;have e:=iS hs g R d t f.type x (I1 c hm) (h x hm);have a1:((v.list.take i).map (Ba (AW s d) f.type)).length<549755813887:=(by rw[YF,Yz];omega);rw[Df];generalize (v.list.take i).map (Ba (AW s d) f.type)=out at a1⊢;dsimp only[SK,T9,XZ,br,ix,vz,vw,wg,vs,ln,Af,lc,ap,cs,wa,tw,fl,Ah,br];simp only[z,o,r,hx,e,a1,Yn,Yq,Ya,YY,DU]) (by dsimp only[SK,T9,XZ,br,ix,vz,vw,wg,vs,ln,Af,lc,ap,cs,wa,tw,fl,Ah,br];simp[z]) (AM ae);rw[DU]at q;rw[Yi (Yp m),q];rfl
 ·rw[Yh m]at h⊢;rw[Yh (by simp[m])];by_cases k:f.card=5
  ·rw[Yi k]at h⊢;split at h
   ·cases h
   ·rw[IW]at h;have u:∀p∈v.pairs,p.key.kind=f.key/\BL (AL s n d) s f.type p.val=0:=λp a=>by obtain⟨j,F⟩:=YJ.1 a;have:=h j p F;rw[O1]at this;exact⟨(JH this.1).1,this.2.2⟩
    have G:=E.ky k;have w:∀p∈v.pairs,BK p.key=p.key:=λp a=>by unfold BK;rw[Yh];have:=(u p a).1;omega
    have q:=CK (B:=R9 s f v R) (N:=Ag) (ρ:=Val) v.pairs (λl=>l.map λp=>Pr.mk (BK p.key) (Ba (AW s d) f.type p.val)) (λi b=>(b,i)) id (λi p a=>by have o:=A5 a;have hi:=(Yb.1 a).1;have r:i+1<9223372036854775808:=ae;have hm:=Yg a;have e:=iS hs g R d t f.type p.val (DJ c hm).2 (u p hm).2;have A:=ny (DJ c hm).1;have a1:((v.pairs.take i).map λp=>Pr.mk (BK p.key) (Ba (AW s d) f.type p.val)).length<549755813887:=(by rw[YF,Yz];omega);rw[Df];generalize (v.pairs.take i).map (λp=>Pr.mk (BK p.key) (Ba (AW s d) f.type p.val))=out at a1⊢;dsimp only[R9,XI,br,ix,vz,vw,vs,ln,Af,lc,ap,cl,cs,wa,du,fl,Ah,br];simp only[w2,o,r,a,e,A,a1,Yn,Yq,Ya,YY,DU]) (by dsimp only[R9,XI,br,ix,vz,vw,vs,ln,Af,lc,ap,cl,cs,wa,du,fl,Ah,br];simp[w2]) (AM ae);rw[DU]at q;have C:=ZDw (v.pairs.map λp=>Pr.mk (BK p.key) (Ba (AW s d) f.type p.val)) (by rw[YF];have:=CU (e:=Ap) v.pairs;have D:An (Ae v)<=1048576:=c;rw[GX]at D;omega) λq H=>by
     obtain⟨p,a,rfl⟩:=YV.1 H;have:=(u p a).1;refine⟨?_,?_⟩
     ·show 1<=(BK p.key).kind/\(BK p.key).kind<=9;rw[w p a];omega
     ·show AN (BK p.key);rw[w p a];exact(DJ c a).1
    rw[Yi (Yp k),q,Ya];simp only[Cr,id];rw[C];rfl
  ·rw[Yh k]at h⊢;rw[Yh (by simp[k]),iS hs g R d t f.type v c h];rfl
theorem z5{s:Scm}{j:Bool}(hs:An (Al s)<=1048576)(g:GdS s):∀a d:Nat,d<a->TD j s (Ma a) d
 |0,d,h=>ae
 |a+1,d,h=>λf v c i b=>ZQc hs g (Ma a) d (λd' e=>z5 hs g a d' ae) f v c i b
theorem ZxA{s:Scm}{b:Bool}(hs:An (Al s)<=1048576)(g:GdS s)(n:ByteArray)(v:Val)(a:AN v)(h:OkM s b 15 (AK s n).1 v):QI (Ma Ag) s n v=some (AW s 16 n v):=yh hs g _ 15 (z5 hs g Ag 15 (AM ae)) n v a h
theorem xE{s:Scm}(hs:An (Al s)<=1048576)(g:GdS s)(n:ByteArray)(v:Val)(d:AN v):Ok (λb:Bool=>b=true↔GF s true n v=0/\v=AW s 16 n v) (eM s n v):=by
 dsimp only[eM,wg,lr,cl,Az];rw[ZED hs n v d,Ya];by_cases c:GF s true n v=0
 ·have i:AN (AW s 16 n v):=EF (mR g.asc 16 n v) d;obtain⟨b,e,a⟩:=ZPb d i;have f:=ZxA hs g n v d (Xi.1 c).2.1;simp[c,e,f,a];exact⟨_,rfl,a⟩
 ·exact⟨false,by simp[c],Iff.intro (λh=>absurd h (by decide)) λh=>absurd h.1 c⟩
def Dl(F:List Fld)(f:Fld)(l:List Slt):Bool:=F.any λg=>(((!decide (f.union=⟨#[]⟩))&&decide (g.union=f.union))&&!decide (g.num=f.num))&&Bt l g.num
def DI(R:ByteArray->Val->Val->Val)(f:Fld)(x y:Val):Val:=
 if f.card=4 then .mk 11 0 ⟨#[]⟩ (x.list++y.list) [] [] []else if f.card=5 then .mk 12 0 ⟨#[]⟩ [] (BY (x.pairs++y.pairs)) [] []else if f.type.kind=10 then R f.type.name x y else y
def DX(R:ByteArray->Val->Val->Val)(F:List Fld)(a b:List Slt)(f:Fld):List Slt:=
 match BA a f.num,BA b f.num with
 |some x,some y=>[.mk f.num (DI R f x.val y.val)]
 |none,some y=>[.mk f.num y.val]
 |some x,none=>if Dl F f b=true then[]else[.mk f.num x.val]
 |none,none=>[]
def Dm(R:ByteArray->Val->Val->Val)(F:List Fld)(a b:List Slt)(l:List Fld):List Slt:=l.flatMap (DX R F a b)
def Be(s:Scm):Nat->ByteArray->Val->Val->Val
 |0,_,a,_=>a
 |d+1,n,a,b=>.mk 10 0 ⟨#[]⟩ [] [] (Dm (Be s d) (AA s n) a.slots b.slots (AA s n)) (Ci (a.raws++b.raws))
structure OkW (s:Scm) (k:Bool) (d:Nat) (m:Msg) (v:Val):Prop where
 pw:v.slots.Pairwise λa b=>a.num≠b.num/\D1 m.fields a b
 sl:∀x∈v.slots,(Bh m.fields x.num).2=true/\A7 (AL s k d) s k (AC m.fields x.num) x.val=0
theorem OkM.w{s:Scm}{k:Bool}{d:Nat}{m:Msg}{v:Val}(h:OkM s k d m v):OkW s k d m v:=⟨h.pw,h.sl⟩
def ak(W:ByteArray->Val->Prop)(f:Fld)(v:Val):Prop:=(f.card=5->∀p∈v.pairs,1<=p.key.kind/\p.key.kind<=9)/\(¬f.card=4->¬f.card=5->f.type.kind=10->W f.type.name v)
def Wk(s:Scm):Nat->ByteArray->Val->Prop
 |0,_,_=>False
 |d+1,n,v=>(v.slots.Pairwise λa b=>a.num≠b.num/\D1 (AA s n) a b)/\∀x∈v.slots,(Bh (AA s n) x.num).2=true/\ak (Wk s d) (AC (AA s n) x.num) x.val
def ag(s:Scm)(R:Scm->ByteArray->Val->Val->Option Val)(d:Nat):Prop:=∀(n:ByteArray) (a b:Val),AN a->AN b->Wk s d n a->Wk s d n b->R s n a b=some (Be s d n a b)
theorem Mo{s:Scm}{t:Typ}{v:Val}{d:Nat}(c:t.kind=10)(h:BL (AL s true d) s t v=0):∃d',d=d'+1/\OkM s true d' (AK s t.name).1 v:=by
 unfold BL at h;rw[Yi c]at h;cases a:(AK s t.name).2 with
 |false=>rw[a]at h;cases h
 |true=>
  rw[a,Yi rfl]at h;cases d with
  |zero=>
   unfold AL at h;split at h<;>cases h
  |succ d=>exact⟨d,rfl,Ov.1 h⟩
theorem Zw4{s:Scm}{f:Fld}{v:Val}{d:Nat}(b:GdF s f)(a:f.card=5)(h:A7 (AL s true d) s true f v=0):∀p∈v.pairs,1<=p.key.kind/\p.key.kind<=9:=λp e=>by
 unfold A7 at h;rw[Yh ae,Yi a]at h;split at h
 ·cases h
 ·rw[IW]at h;obtain⟨j,c⟩:=YJ.1 e;have:=h j p c;rw[O1]at this;have g:=(JH this.1).1;have i:=b.ky a;omega
theorem OkW.wk{s:Scm}(g:GdS s):∀(d:Nat) {n:ByteArray} {v:Val},OkW s true d (AK s n).1 v->Wk s (d+1) n v
 |d,n,v,o=>⟨o.pw,λx hx=>by
  obtain⟨b,a⟩:=o.sl x hx;have b:(Bh (AA s n) x.num).2=true:=b;have a:A7 (AL s true d) s true (AC (AA s n) x.num) x.val=0:=a;have i:AC (AA s n) x.num∈AA s n:=by
   rcases K1 (AA s n) x.num with⟨c,_⟩|⟨_,c⟩
   ·rw[b]at c;cases c
   ·exact c
  refine⟨b,λf=>Zw4 (g.fl n _ i) f a,λh f c=>?_⟩;unfold A7 at a;rw[Yh h,Yh f]at a;obtain⟨d',e,j⟩:=Mo c a;subst e;exact OkW.wk g d' j.w⟩
end Go.Proofs.YthcplkfhnnlafaaGreat
