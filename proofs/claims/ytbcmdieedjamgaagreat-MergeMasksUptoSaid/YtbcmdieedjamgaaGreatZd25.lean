import Derived.Test.YtbcmdieedjamgaaGreatZd24
import Derived.Test.YtbcmdieedjamgaaGreatZd00
namespace Go.Proofs.YtbcmdieedjamgaaGreat
set_option linter.all false
open Go Go.Eng
theorem PL{v:Val}(b:AP v):∃n:Nat,v.bits=n∧n<18446744073709551616∧v.bits.toNat=n:=by
 obtain⟨n,a⟩:=Int.eq_ofNat_of_zero_le (sj b).1
 exact⟨n,a,by have:=(sj b).2;omega,by rw[a];rfl⟩
theorem nz{v:Val}(h:AP v):Pj v=some (Dn v):=by
 obtain⟨n,d,f,g⟩:=PL h
 obtain⟨y,e,a⟩:=ZXT f
 rw[←d]at e
 unfold Dn
 dsimp only[Pj,bx,br,wg,lr,AE,br]
 rw[e,g]
 by_cases c:v.kind=6
 ·cases b:ID n with
  |true=>
   rw[b,YE]at a
   simp[c,a]
  |false=>
   rw[b,YJ]at a
   simp[c,a]
 ·simp[c]
theorem ZEV{v:Val}(h:SzV v):dC v=some (dq v):=by
 have a:ML v.kind=some (decide (1≤v.kind)&&decide (v.kind≤9)):=rfl
 dsimp only[dC,qj,wg,lr,cl,AE]
 rw[a,Zz7 h,Ya]
 unfold dq
 rw[X4]
 cases(decide (1≤v.kind)&&decide (v.kind≤9))<;>cases Mt v<;>cases decide (v.bits=0)<;>cases decide (v.text=⟨#[]⟩)<;>rfl
theorem ZZf(f:Fld){v:Val}(h:SzV v):dI f v=some (C4 f v):=by
 have d:v.list.length<4611686018427387904:=by have:=h.l;omega
 have e:v.pairs.length<4611686018427387904:=by have:=h.p;omega
 have g:decide ((v.list.length:Int)=0)=decide (v.list.length=0):=decide_eq_decide.2 (by omega)
 have i:decide ((v.pairs.length:Int)=0)=decide (v.pairs.length=0):=decide_eq_decide.2 (by omega)
 unfold C4
 dsimp only[dI,rD,br,vz,wg,lr,AE,Ai,br]
 rw[ZEV h]
 by_cases b:f.card=4
 ·simp[b,d]
 ·by_cases c:f.card=5
  ·simp[c,e]
  ·by_cases a:f.card=3
   ·simp[a]
   ·simp[a,b,c]
theorem Zsr{a b:Val}(v:1≤a.kind∧a.kind≤9)(g:AP a)(i:AP b):Pk Ag a b=some (B6 a b):=by
 obtain⟨n,s,m,o⟩:=PL g
 obtain⟨k,r,j,l⟩:=PL i
 have w:(Ag:Nat)=(Ag-1)+1:=by have:=rh;omega
 rw[w]
 show WH (Pk (Ag-1)) a b=_
 unfold B6
 dsimp only[WH,lT,br,wg,lr,cl,cs,br]
 by_cases he:a.kind=b.kind
 ·have a1:¬a.kind=11:=by omega
  have u:¬a.kind=12:=by omega
  have a3:¬a.kind=10:=by omega
  have z:=zH m s
  have t:=zH j r
  rw[←he]at t
  have e:(decide (1≤b.kind)&&decide (b.kind≤9))=true:=by rw[←he];simp[v]
  have q:dO a b=some (if a.kind=7∨a.kind=8 then ER a.text b.text else if a.kind=2∨a.kind=3 then BJ (IntKind.u64.wrap (a.bits+9223372036854775808)) (IntKind.u64.wrap (b.bits+9223372036854775808))else if a.kind=6 then BJ (G2 a.bits.toNat) (G2 b.bits.toNat)else BJ a.bits b.bits):=by
   have y:¬a.kind<b.kind:=by omega
   have x:¬b.kind<a.kind:=by omega
   dsimp only[dO,oA,br,wg,lr,cl,br,ML,mG,lr,MH,VA,lr]
   simp only[he,e,Ya,YU,Yq,Int.lt_irrefl,YY,Yn,YK]
   rw[←he]
   by_cases d:a.kind=7∨a.kind=8
   ·have c:(decide (a.kind=7)||decide (a.kind=8))=true:=by simpa using d
    rw[Yj d]
    simp only[c,Yq,Dt]
    unfold ER
    cases h:BB a.text b.text with
    |true=>simp
    |false=>by_cases f:a.text=b.text<;>simp[f]
   ·have c:(decide (a.kind=7)||decide (a.kind=8))=false:=by simpa using d
    rw[Ym d]
    simp only[c,Yn,YK,Ds,z,t,Ya]
    have A:∀a b:Int,(if decide (a<b)=true then some (-1:Int)else if decide (b<a)=true then some 1 else some 0)=some (BJ a b):=fun a b=>by
     unfold BJ
     by_cases h:a<b
     ·simp[h]
     ·by_cases f:b<a<;>simp[h,f]
    rw[A,o,l,s,r]
    by_cases hs:a.kind=2∨a.kind=3
    ·simp only[hs,Yq]
    ·simp only[hs,YK]
     by_cases p:a.kind=6
     ·simp only[p,Yq]
     ·simp only[p,YK]
  rw[←he]
  simp only[a1,u,a3,Yp,YU,YY,Yn,YK,q,Ya,ne_eq,On]
 ·simp only[he,YU,Y6,Yq,ZYp,Ya,ne_eq,LZ]
theorem bt{α:Type}{p:α→Bool}:∀{l:List α} {v:Nat},v≤l.length→(∀(j:Nat) (x:α),j<v→l[j]?=some x→p x=false)→(∀x,l[v]?=some x→p x=true)→l.findIdx p=v
 |[],v,h,_,_=>by simp at h;subst h;rfl
 |x::l,0,_,_,a=>by rw[XF,a x rfl];rfl
 |x::l,v+1,h,b,a=>by
  rw[XF,b 0 x (by omega) rfl]
  show l.findIdx p+1=v+1
  rw[bt (v:=v) (by simpa using h) (fun j y c hy=>b (j+1) y (by omega) hy) fun y hy=>a y hy]
theorem PG{l:List Pr}:∀{i:Nat} {p:Pr},p∈CB l i→p∈l
 |0,p,h=>by cases h
 |i+1,p,h=>by
  unfold CB at h
  cases e:l[i]? with
  |none=>rw[e]at h;exact PG h
  |some q=>
   rw[e]at h
   dsimp only at h
   split at h
   ·exact PG h
   ·unfold Gf at h
    rcases FH.1 h with h|h
    ·exact PG (XJ h)
    ·rcases FH.1 h with h|h
     ·rw[Y5.1 h]
      exact Yi e
     ·exact PG (XI h)
theorem ZyR(l:List Pr)(p:Pr):(Gf l p).length=l.length+1:=by
 unfold Gf
 rw[Yr,Yr,Yw,Y8]
 simp
 omega
theorem Znq(l:List Pr):∀i:Nat,(CB l i).length≤i
 |0=>Yf _
 |i+1=>by
  have a:=Znq l i
  unfold CB
  cases l[i]? with
  |none=>exact Sd a
  |some q=>
   dsimp only
   split
   ·omega
   ·rw[ZyR];omega
theorem Zup(l:List Pr)(hl:l.length≤4194304)(s:∀p∈l,(1≤p.key.kind∧p.key.kind≤9)∧AP p.key):eA l=some (IC l):=by
 have u:l.length<4611686018427387904:=by omega
 have T:∀(out:List Pr) (i:Nat) (p:Pr),l[i]?=some p→Aj (NE l out i) Ag (true,i+1)=some (.inl (!(l.drop (i+1)).any fun q=>decide (B6 p.key q.key=0))):=by
  intro out i p f
  have hi:=(Yb.1 f).1
  have q:=Dh (B:=NE l out i) (N:=Ag) (ρ:=List Pr) (l.drop (i+1)) (fun x=>!x.any fun q=>decide (B6 p.key q.key=0)) (fun j b=>(b,i+1+j)) id (fun j x hx=>by
   rw[Y0]at hx
   have h:((i+1+j:Nat):Int)<l.length:=Ba hx
   have m:i+1+j+1<9223372036854775808:=by have:=(Yb.1 hx).1;omega
   have A:l.getD i Rw.z=p:=by rw[Yg,f];rfl
   have C:l.getD (i+1+j) Rw.z=x:=by rw[Yg,hx];rfl
   have D:(0:Int)≤i∧(i:Int)<l.length:=by omega
   have E:(0:Int)≤((i+1+j:Nat):Int)∧((i+1+j:Nat):Int)<l.length:=⟨by omega,h⟩
   have o:=s p (Yi f)
   have e:=Zsr o.1 o.2 (s x (Yi hx)).2
   rw[List.any_append]
   generalize ((l.drop (i+1)).take j).any (fun q=>decide (B6 p.key q.key=0))=t
   dsimp only[NE,bh,br,AN,vz,vs,v2,ln,Af,AE,wa,Ai,br]
   simp only[u,h,A,C,D,E,e,YS,Yp,Yq,Ck,D8,FI,YQ]
   rw[Yj m]
   cases t<;>simp[List.any_cons,YI]) (by
   dsimp only[NE,bh,br,AN,vz,vs,v2,ln,Af,AE,wa,Ai,br]
   have g:¬((i+1+(l.drop (i+1)).length:Nat):Int)<l.length:=by rw[Y8];omega
   simp only[u,g,YU,Yn,Yq,YK]
   rfl) (by rw[Y8];exact AK (by omega))
  exact q
 have U:∀(out:List Pr) (i:Nat) (p:Pr),l[i]?=some p→(∀q∈out,q∈l)→out.length≤4194304→Aj (ND l out i) Ag 0=some (.inl (IU out p)):=by
  intro out i p f Q R
  have hi:=(Yb.1 f).1
  have w2:out.length<4611686018427387904:=by omega
  have A:l.getD i Rw.z=p:=by rw[Yg,f];rfl
  have D:(0:Int)≤i∧(i:Int)<l.length:=by omega
  have q:Ok (Sum.elim (fun y:Nat=>y=IU out p) No) (Aj (ND l out i) Ag 0):=by
   refine Bt (fun v:Nat=>v≤out.length∧∀(j:Nat) (x:Pr),j<v→out[j]?=some x→(!decide (B6 x.key p.key<0))=false) (fun v:Nat=>out.length-v) ⟨Cj _,fun j x K=>absurd K (Y2 _)⟩ (AK (by omega)) fun v S=>?_
   obtain⟨J,w⟩:=S
   by_cases c:v<out.length
   ·have hx:=Yc c
    have hm:=FJ c
    generalize out[v]=x at hx hm
    have h:(v:Int)<out.length:=by omega
    have m:v+1<9223372036854775808:=by omega
    have C:out.getD v Rw.z=x:=by rw[Yg,hx];rfl
    have E:(0:Int)≤v∧(v:Int)<out.length:=by omega
    have r:=s x (Q x hm)
    have e:=Zsr r.1 r.2 (s p (Yi f)).2
    dsimp only[ND,ZP,br,AN,vz,vs,v2,ln,Af,AE,wa,Ai,br]
    simp only[w2,h,A,C,D,E,e,YS,Yp,Yq,Ck,D8,FI,YQ,Dt]
    by_cases d:B6 x.key p.key<0
    ·rw[Yo d,Yj rfl,Yj m]
     refine⟨_,rfl,⟨⟨by omega,fun j y K hy=>?_⟩,by omega⟩⟩
     by_cases P:j=v
     ·subst P
      rw[hx]at hy
      cases hy
      rw[Yo d];rfl
     ·exact w j y (by omega) hy
    ·rw[Yt d,Ym (by decide)]
     refine⟨_,rfl,?_⟩
     exact(bt J w fun y hy=>by rw[hx]at hy;cases hy;rw[Yt d];rfl).symm
   ·have h:¬(v:Int)<out.length:=by omega
    dsimp only[ND,ZP,br,AN,vz,vs,v2,ln,Af,AE,wa,Ai,br]
    simp only[w2,h,YU,Yn,L6,Ds,Yq,YK]
    refine⟨_,rfl,?_⟩
    exact(bt J w fun y hy=>by have:=(Yb.1 hy).1;omega).symm
  obtain⟨y,e,a⟩:=q
  cases y with
  |inr y=>exact a.elim
  |inl y=>
   have a:y=IU out p:=a
   rw[e,a]
 have M:=Dh (B:=Q6 l) (N:=Ag) (ρ:=List Pr) l (fun p=>CB l p.length) (fun i b=>(b,i)) id (fun i p f=>by
  have h:=Ba f
  have hi:=(Yb.1 f).1
  have m:i+1<9223372036854775808:=by omega
  have L:(l.take i).length=i:=by rw[Yw];omega
  have z:(l.take i++[p]).length=i+1:=by rw[Yr,L];rfl
  have hm:=fun q=>@PG l i q
  have n:=Znq l i
  have hs:CB l (i+1)=if((l.drop (i+1)).any fun q=>decide (B6 p.key q.key=0))=true then CB l i else Gf (CB l i) p:=by
   rw[CB,f]
  rw[L,z,hs]
  unfold Gf
  generalize CB l i=out at hm n⊢
  have O:=T out i p f
  have I:=U out i p f hm (by omega)
  have a1:IU out p≤out.length:=List.findIdx_le_length
  generalize IU out p=k at I a1⊢
  have F:(out.take k).length+(([p]:List Pr)++out.drop k).length<549755813888:=by rw[Yr,Yw,Y8,HU];omega
  have G:([p]:List Pr).length+(out.drop k).length<549755813888:=by rw[Y8,HU];omega
  have H:(out.take k).length<549755813888:=by rw[Yw];omega
  dsimp only[Q6,g6,hM,i9,Z0,az,au,V4,bu,bn,Z5,br,ix,vz,vw,wg,vs,v2,ln,Af,lc,jC,ar,a0,wa,sL,fl,fz,Ai,br]
  simp only[u,h,m,O,f,Yp,Yq,Ya,Cp,id]
  cases(l.drop (i+1)).any fun q=>decide (B6 p.key q.key=0)with
  |true=>simp
  |false=>
   simp only[Y6,Yq,I,Ya,Cp,Bd.c,Bd.vl,a1,Yf,Ck,HV,Cj,F,G,H,Nat.sub_zero,L5,Yn,YK]
   simp[F,G,H,Ja]
   omega) (by dsimp only[Q6,g6,hM,i9,Z0,az,au,V4,bu,bn,Z5,br,ix,vz,vw,wg,vs,v2,ln,Af,lc,jC,ar,a0,wa,sL,fl,fz,Ai,br];simp[u]) (AK (by omega))
 rw[show CB l ([]:List Pr).length=[]from rfl]at M
 dsimp only[eA,pD,oO,pn,ZzO,vz,vw,lr,lc,fz]
 rw[M]
 rfl
end Go.Proofs.YtbcmdieedjamgaaGreat
namespace Go.Proofs.YtbcmdieedjamgaaGreat
set_option linter.all false
open Go Go.Eng
theorem UM{α β:Type}{e:α→List D}{e':β→List D}{g:β→α}:∀{l:List β},(∀x∈l,An (e (g x))≤An (e' x))→AB ((l.map g).map e)≤AB (l.map e')
 |[],_=>Yf _
 |x::l,h=>by
  have a:=h x YB
  have b:=UM (l:=l) fun y hy=>h y (Yy _ hy)
  simp only[YT,AB]
  omega
theorem gf{α:Type}(e:α→List D)(p:α→Bool):∀l:List α,AB (l.map e)=AB ((l.filter p).map e)+AB ((l.filter fun x=>!p x).map e)
 |[]=>rfl
 |x::l=>by
  have h:=gf e p l
  cases c:p x<;>simp only[XY,c,YT,AB,YY,Y6,Yn,Yq,YK]<;>omega
theorem EO(v:Val):An (Ae v)=rk .i64 v.kind+(rk .u64 v.bits+(v.text.size+(AB (v.list.map AW)+(AB (v.pairs.map Aq)+(AB (v.slots.map Ap)+AB (v.raws.map Au)))))):=by
 simp only[Ae,An,bk]
 omega
theorem H9(k b:Int)(t:ByteArray)(l:List Val)(p:List Pr)(s:List Slt)(r:List Raw):An (Ae (.mk k b t l p s r))=rk .i64 k+(rk .u64 b+(t.size+(AB (l.map AW)+(AB (p.map Aq)+(AB (s.map Ap)+AB (r.map Au)))))):=EO _
theorem zy(p:Pr):An (Aq p)=An (Ae p.key)+An (Ae p.val):=by
 have e:Aq p=Ae p.key++Ae p.val:=by rw[Lu];rfl
 rw[e,M6]
theorem JB(x:Slt):An (Ap x)=rk .i64 x.num+An (Ae x.val):=by
 have e:Ap x=D.int .i64 x.num::Ae x.val:=by rw[Ll];rfl
 rw[e,An,bk]
theorem Zst(v:Val):An (Ae (Dn v))≤An (Ae v):=by
 unfold Dn
 split
 ·rw[H9,EO v]
  have h:rk .u64 9221120237041090560=0:=by decide
  rw[h]
  omega
 ·exact Yf _
theorem rZ{α:Type}(e:α→List D)(l:List α)(i:Nat):AB ((l.take i).map e)+AB ((l.drop i).map e)=AB (l.map e):=by
 conv=>rhs;rw[←HT i l,DQ,GF]
theorem iI:∀(l out:List Raw),AB ((l.foldl insR out).map Au)=AB (out.map Au)+AB (l.map Au)
 |[],out=>rfl
 |x::l,out=>by
  rw[Ox,iI l]
  have h:=rZ Au out (De out x out.length)
  unfold insR
  simp only[DQ,GF,YT,Du,AB]
  omega
theorem gW(l:List Pr):∀i:Nat,AB ((CB l i).map Aq)≤AB ((l.take i).map Aq)
 |0=>Yf _
 |i+1=>by
  have a:=gW l i
  unfold CB
  cases e:l[i]? with
  |none=>
   have h:=List.getElem?_eq_none_iff.1 e
   rw[Ja (by omega)]at a⊢
   exact a
  |some q=>
   rw[T6 Aq e]
   dsimp only
   split
   ·omega
   ·have h:=rZ Aq (CB l i) (IU (CB l i) q)
    unfold Gf
    simp only[DQ,GF,YT,Du,AB]
    omega
theorem ph{N:Fld→Val→Val}(hN:∀f x,An (Ae (N f x))≤An (Ae x)):∀{F:List Fld} (l:List Slt),(F.Pairwise fun a b=>a.num<b.num)→AB ((DU N F l).map Ap)≤AB (l.map Ap)
 |[],l,_=>by show 0≤_;omega
 |f::F,l,h=>by
  obtain⟨g,i⟩:=Dr.1 h
  have k:=ph hN (l.filter fun x=>!decide (x.num=f.num)) i
  have e:DU N F (l.filter fun x=>!decide (x.num=f.num))=DU N F l:=by
   unfold DU
   rw[List.flatMap_def,List.flatMap_def]
   congr 1
   refine Ez fun o j=>?_
   rw[List.filter_filter]
   congr 1
   refine List.filter_congr fun x _=>?_
   have:=g o j
   by_cases c:x.num=o.num
   ·have d:¬x.num=f.num:=by omega
    simp[d]
   ·simp[c]
  rw[e]at k
  have b:=gf Ap (fun x=>decide (x.num=f.num)) l
  have a:=gf Ap (fun x=>!C4 f x.val) (l.filter fun x=>decide (x.num=f.num))
  have m:AB (((l.filter fun x=>decide (x.num=f.num)&&!C4 f x.val).map fun x=>Slt.mk f.num (N f x.val)).map Ap)≤AB (((l.filter fun x=>decide (x.num=f.num)).filter fun x=>!C4 f x.val).map Ap):=by
   rw[List.filter_filter]
   rw[show(l.filter fun x=>decide (x.num=f.num)&&!C4 f x.val)=l.filter fun x=>!C4 f x.val&&decide (x.num=f.num)from List.filter_congr fun x _=>Bool.and_comm _ _]
   refine UM fun x hx=>?_
   have hx:=(EA.1 hx).2
   rw[Yd,YE]at hx
   have:=hN f x.val
   rw[JB,JB,hx.2]
   exact XN this _
  show AB ((((l.filter fun x=>decide (x.num=f.num)&&!C4 f x.val).map fun x=>Slt.mk f.num (N f x.val))++DU N F l).map Ap)≤_
  rw[DQ,GF]
  omega
theorem gQ{R:ByteArray→Val→Val}(a:∀n v,An (Ae (R n v))≤An (Ae v))(t:Typ)(v:Val):An (Ae (Do R t v))≤An (Ae v):=by
 unfold Do
 split
 ·exact a _ _
 ·exact Zst v
theorem ZOK{R:ByteArray→Val→Val}(c:∀n v,An (Ae (R n v))≤An (Ae v))(f:Fld)(v:Val):An (Ae (Dd R f v))≤An (Ae v):=by
 unfold Dd
 split
 ·have a:rk .i64 11=0:=by decide
  have b:rk .u64 0=0:=by decide
  have d:AB ((v.list.map (Do R f.type)).map AW)≤AB (v.list.map AW):=UM fun x _=>by rw[GG,GG];exact gQ c f.type x
  rw[H9,EO v]
  simp only[a,b,Du,AB]
  have:(⟨#[]⟩:ByteArray).size=0:=rfl
  omega
 ·split
  ·have a:rk .i64 12=0:=by decide
   have b:rk .u64 0=0:=by decide
   have d:AB ((v.pairs.map fun p=>Pr.mk (Dn p.key) (Do R f.type p.val)).map Aq)≤AB (v.pairs.map Aq):=UM fun p _=>by
    rw[zy,zy]
    exact Nat.add_le_add (Zst p.key) (gQ c f.type p.val)
   have e:=gW (v.pairs.map fun p=>Pr.mk (Dn p.key) (Do R f.type p.val)) (v.pairs.map fun p=>Pr.mk (Dn p.key) (Do R f.type p.val)).length
   rw[L0]at e
   rw[H9,EO v]
   simp only[a,b,Du,AB,IC]
   have:(⟨#[]⟩:ByteArray).size=0:=rfl
   omega
  ·exact gQ c f.type v
theorem lw{s:Scm}(h:∀n:ByteArray,DM (Ay s n) (Ay s n).length):∀(d:Nat) (n:ByteArray) (v:Val),An (Ae (BW s d n v))≤An (Ae v)
 |0,n,v=>Yf _
 |d+1,n,v=>by
  have a:rk .i64 10=0:=by decide
  have b:rk .u64 0=0:=by decide
  have e:=ph (fun f x=>ZOK (fun n v=>lw h d n v) f x) v.slots (Vk (h n))
  have c:=iI v.raws []
  rw[BW,H9,EO v,Ch]
  simp only[a,b,c,Du,AB]
  have:(⟨#[]⟩:ByteArray).size=0:=rfl
  omega
def RV(s:Scm)(R:Scm→Fld→Val→Option Val)(d:Nat):Prop:=∀(f:Fld) (v:Val),GdF s f→AP v→Cn (A6 s true d) s true f v=0→R s f v=some (Dd (BW s d) f v)
theorem Ztc{N:Fld→Val→Val}{l:List Slt}(hl:l.Pairwise fun a b=>a.num≠b.num):∀F:List Fld,(DU N F l).length≤F.length
 |[]=>Yf _
 |f::F=>by
  have g:=Ztc (N:=N) hl F
  show(((l.filter fun x=>decide (x.num=f.num)&&!C4 f x.val).map fun x=>Slt.mk f.num (N f x.val))++DU N F l).length≤_
  rw[Yr,YG,E1]
  by_cases c:∃x∈l,x.num=f.num∧C4 f x.val=false
  ·obtain⟨x,hx,e,d⟩:=c
   have:=Zp2 hl (fun y=>!C4 f y.val) hx (by rw[d];rfl)
   rw[←e,this,HU]
   omega
  ·rw[Zna f.num (fun y=>!C4 f y.val) fun x hx e=>by
    cases d:C4 f x.val with
    |true=>rfl
    |false=>exact absurd ⟨x,hx,e,d⟩ c,G6]
   omega
theorem ZyM(l:List Raw)(x:Raw):(insR l x).length=l.length+1:=by
 unfold insR
 simp only[Yr,Yw,Y8,HU]
 omega
theorem gJ:∀(l out:List Raw),(l.foldl insR out).length=out.length+l.length
 |[],out=>rfl
 |x::l,out=>by rw[Ox,gJ l,ZyM,E1];omega
theorem Vd(out:List Raw)(x:Raw):∀k:Nat,De out x k≤k
 |0=>Yf _
 |k+1=>by
  have:=Vd out x k
  unfold De
  split<;>omega
theorem Zs2{s:Scm}(hs:An (Am s)≤1048576)(g:GdS s)(R:Scm→Fld→Val→Option Val)(d:Nat)(Z:RV s R d)(n:ByteArray)(v:Val)(z:AP v)(h:OkM s true d (A0 s n).1 v):Pi R s n v=some (BW s (d+1) n v):=by
 have G:=Ci z
 have V:K9 s n=some (A0 s n):=Xd s n (EW hs).ml
 have ha:=g.asc n
 have hl:(Ay s n).length≤1048576:=M7 (EW hs) n
 have zs:=G.s
 have zr:=G.r
 have L:(Ay s n).length<4611686018427387904:=by omega
 have w2:v.slots.length<4611686018427387904:=by omega
 have M:v.raws.length<4611686018427387904:=by omega
 have pw:v.slots.Pairwise fun a b=>a.num≠b.num:=h.pw.imp fun h=>h.1
 have I:=Dh (B:=Rc s v R (A0 s n)) (N:=Ag) (ρ:=Val) (Ay s n) (fun p=>DU (Dd (BW s d)) p v.slots) (fun i b=>(i,b)) id (fun i f u=>by
  have r:=Ba u
  have hi:=(Yb.1 u).1
  have y:i+1<9223372036854775808:=by omega
  have hm:=Yi u
  have J:=Dh (B:=QK s v R (A0 s n) i f) (N:=Ag) (ρ:=Val) v.slots (fun p=>DU (Dd (BW s d)) ((Ay s n).take i) v.slots++(p.filter fun x=>decide (x.num=f.num)&&!C4 f x.val).map fun x=>Slt.mk f.num (Dd (BW s d) f x.val)) (fun i b=>(i,b)) id (fun j x hx=>by
   have H:=Ba hx
   have hj:=(Yb.1 hx).1
   have C:j+1<9223372036854775808:=by omega
   have D:v.slots.getD j Rw.z=x:=by rw[Yg,hx];rfl
   have E:(0:Int)≤j∧(j:Int)<v.slots.length:=⟨by omega,H⟩
   have l:=Yi hx
   have W:=ZZf f (Ci (Fm z l))
   have a1:=Ztc (N:=Dd (BW s d)) pw ((Ay s n).take i)
   have w:(((v.slots.take j).filter fun x=>decide (x.num=f.num)&&!C4 f x.val).map fun x=>Slt.mk f.num (Dd (BW s d) f x.val)).length≤4194304:=by
    rw[YG]
    refine Eb (L3 _ _) ?_
    rw[Yw]
    omega
   rw[Yw]at a1
   rw[HQ,DQ]
   have a3:(DU (Dd (BW s d)) ((Ay s n).take i) v.slots++((v.slots.take j).filter fun x=>decide (x.num=f.num)&&!C4 f x.val).map fun x=>Slt.mk f.num (Dd (BW s d) f x.val)).length<549755813887:=by rw[Yr];omega
   rw[←Ea]
   generalize DU (Dd (BW s d)) ((Ay s n).take i) v.slots++((v.slots.take j).filter fun x=>decide (x.num=f.num)&&!C4 f x.val).map (fun x=>Slt.mk f.num (Dd (BW s d) f x.val))=out at a3⊢
   dsimp only[QK,jc,i1,jm,V6,jo,VM,J2,W2,VZ,ZR,br,ix,AN,vz,vw,wg,vs,v2,ln,Af,lc,ap,AE,cs,wa,tw,fl,Ai,br]
   simp only[w2,H,D,E,hx,W,YS,Yp,Yq,Ya,Ck,D8,FI,YQ]
   by_cases c:x.num=f.num
   ·cases F:C4 f x.val with
    |true=>simp[c,F,C]
    |false=>
     have ef:AY (Ay s n) x.num=f:=by
      unfold AY
      rw[c,P8 ha hm]
     have o:=(h.sl x l).2
     rw[show(A0 s n).1.fields=Ay s n from rfl,ef]at o
     have X:=Z f x.val (g.fl n f hm) (Fm z l) o
     simp[c,F,C,X,a3]
   ·simp[c,C]) (by dsimp only[QK,jc,i1,jm,V6,jo,VM,J2,W2,VZ,ZR,br,ix,AN,vz,vw,wg,vs,v2,ln,Af,lc,ap,AE,cs,wa,tw,fl,Ai,br];simp[w2]) (AK (by omega))
  dsimp only[Rc,gY,iK,iS,br,ix,vz,wg,vs,v2,ln,Af,lc,wa,fl,Ai,br]
  rw[show(A0 s n).1.fields=Ay s n from rfl]
  simp only[L,r,u,Yp,Yq,Ya]
  simp only[List.filter_nil,Du,FG]at J
  rw[J]
  have Y:DU (Dd (BW s d)) ((Ay s n).take i++[f]) v.slots=DU (Dd (BW s d)) ((Ay s n).take i) v.slots++(v.slots.filter fun x=>decide (x.num=f.num)&&!C4 f x.val).map fun x=>Slt.mk f.num (Dd (BW s d) f x.val):=by
   unfold DU
   rw[List.flatMap_append,List.flatMap_cons,List.flatMap_nil,FG]
  simp only[Ya,Cp,id,y,Yq,Y]) (by dsimp only[Rc,gY,iK,iS,br,ix,vz,wg,vs,v2,ln,Af,lc,wa,fl,Ai,br];rw[show(A0 s n).1.fields=Ay s n from rfl];simp[L]) (AK (by omega))
 have q3:∀out:List Slt,Aj (Nx v R out) Ag (0,[])=some (.inl (Ch v.raws)):=fun out=>by
  have q:=Dh (B:=Nx v R out) (N:=Ag) (ρ:=Val) v.raws Ch (fun i b=>(i,b)) id (fun i x hx=>by
   have r:=Ba hx
   have hi:=(Yb.1 hx).1
   have y:i+1<9223372036854775808:=by omega
   have e:Ch (v.raws.take i++[x])=insR (Ch (v.raws.take i)) x:=by
    unfold Ch
    rw[List.foldl_append]
    rfl
   have a1:(Ch (v.raws.take i)).length≤4194304:=by
    unfold Ch
    rw[gJ,Yw]
    simp only[G6]
    omega
   rw[e]
   generalize Ch (v.raws.take i)=c at a1⊢
   have w4:c.length<4611686018427387904:=by omega
   have D:v.raws.getD i Rw.z=x:=by rw[Yg,hx];rfl
   have E:(0:Int)≤i∧(i:Int)<v.raws.length:=⟨by omega,r⟩
   have q4:∀(k N:Nat),k≤c.length→k<N→Aj (Rb v R out i c) N (k:Int)=some (.inl ((De c x k:Nat):Int)):=by
    intro k
    induction k with
    |zero=>
     intro N _ hN
     obtain⟨N,rfl⟩:∃m,N=m+1:=⟨N-1,by omega⟩
     rw[Aj]
     dsimp only[Rb,iQ,br,AN,vz,wg,vs,vg,ln,Af,wi,fl,br]
     simp[De]
    |succ k A=>
     intro N hk hN
     obtain⟨N,rfl⟩:∃m,N=m+1:=⟨N-1,by omega⟩
     have O:((k+1:Nat):Int)-1=(k:Int):=by omega
     have P:(0:Int)<((k+1:Nat):Int):=by omega
     have Q:(0:Int)≤k∧(k:Int)<c.length:=⟨by omega,by omega⟩
     have S: -9223372036854775808≤(k:Int)∧(k:Int)<9223372036854775808:=by omega
     have A:=A N (by omega) (by omega)
     rw[Aj,De]
     dsimp only[Rb,iQ,br,AN,vz,wg,vs,vg,ln,Af,wi,fl,br]
     simp only[O,P,Q,S,D,E,YS,Yp,Yq,Ya,Dt,Ck,D8]
     by_cases t:x.num<(c.getD k Rw.z).num
     ·rw[Yo t,Yj rfl,Yj t]
      exact A
     ·rw[Yt t,Ym (by decide),Ym t]
   have K:=q4 c.length Ag (Yf _) (AK (by omega))
   have w:=Vd c x c.length
   unfold insR
   generalize De c x c.length=k at K w⊢
   have T:(c.take k).length<549755813887:=by rw[Yw];omega
   have U:(c.take k++[x]).length+(c.drop k).length<549755813888:=by rw[Yr,Yw,Y8,HU];omega
   dsimp only[Nx,g7,jk,hU,iP,br,ix,vz,vw,wg,vs,ln,Af,lc,ap,aq,a0,wa,sL,fl,fz,Ai,br]
   simp only[M,w4,r,y,K,hx,Yp,Yq,Ya,Cp,id,Bd.c,Bd.vl,YS]
   simp[T,U,w]
   exact⟨by omega,by omega,by omega,Ja (by rw[Y8];exact Yf _)⟩) (by dsimp only[Nx,g7,jk,hU,iP,br,ix,vz,vw,wg,vs,ln,Af,lc,ap,aq,a0,wa,sL,fl,fz,Ai,br];simp[M]) (AK (by omega))
  exact q
 dsimp only[Pi,nL,lu,m8,pJ,mA,nU,vz,vw,wg,lr,lc,cl,fl,fz,fr]
 rw[V,Ya]
 rw[show DU (Dd (BW s d)) ([]:List Fld) v.slots=[]from rfl]at I
 rw[I,Ya]
 simp only[Cp,id]
 rw[q3,Ya]
 rfl
theorem iZ{s:Scm}(hs:An (Am s)≤1048576)(g:GdS s)(R:Scm→Fld→Val→Option Val)(d:Nat)(f:∀d':Nat,d=d'+1→RV s R d')(t:Typ)(v:Val)(b:AP v)(h:DL (A6 s true d) s t v=0):La R s t v=some (Do (BW s d) t v):=by
 unfold Do
 dsimp only[La,uy,br,wg,lr,cl,cs,br]
 by_cases c:t.kind=10
 ·unfold DL at h
  rw[Yj c]at h
  cases a:(A0 s t.name).2 with
  |false=>rw[a]at h;cases h
  |true=>
   rw[a,Yj rfl]at h
   cases d with
   |zero=>
    unfold A6 at h
    split at h<;>cases h
   |succ d=>
    have e:=Zs2 hs g R d (f d rfl) t.name v b (jn.1 h)
    rw[Yj (Yo c),e,Yj c]
    rfl
 ·rw[Ym (by simp[c]),nz b,Ym c]
  rfl
theorem ZWy{s:Scm}(hs:An (Am s)≤1048576)(g:GdS s)(R:Scm→Fld→Val→Option Val)(d:Nat)(r:∀d':Nat,d=d'+1→RV s R d')(f:Fld)(v:Val)(D:GdF s f)(c:AP v)(h:Cn (A6 s true d) s true f v=0):Td R s f v=some (Dd (BW s d) f v):=by
 have w:=Ci c
 have H:=w.l
 have I:=w.p
 have y:v.list.length<4611686018427387904:=by omega
 have w2:v.pairs.length<4611686018427387904:=by omega
 unfold Dd
 unfold Cn at h
 dsimp only[Td,nk,pu,mb,qx,mR,sg,oi,lE,qv,ZzH,n5,rj,oo,pi,vz,vw,wg,lr,lc,cl,cs,fl,fz,fr]
 by_cases m:f.card=4
 ·rw[Yj m]at h⊢
  split at h
  ·cases h
  ·rw[PJ]at h
   have q:=Dh (B:=QJ s f v R) (N:=Ag) (ρ:=Val) v.list (fun p=>p.map (Do (BW s d) f.type)) (fun i b=>(i,b)) id (fun i x hx=>by
    have n:=Ba hx
    have hi:=(Yb.1 hx).1
    have o:i+1<9223372036854775808:=by omega
    have hm:=Yi hx
    have e:=iZ hs g R d r f.type x (Q4 c hm) (h x hm)
    have a1:((v.list.take i).map (Do (BW s d) f.type)).length<549755813887:=by rw[YG,Yw];omega
    rw[DQ]
    generalize (v.list.take i).map (Do (BW s d) f.type)=out at a1⊢
    dsimp only[QJ,bp,W1,WW,br,ix,vz,vw,wg,vs,ln,Af,lc,ap,cs,wa,tw,fl,Ai,br]
    simp only[y,n,o,hx,e,a1,Yp,Yq,Ya,YT,Du]) (by dsimp only[QJ,bp,W1,WW,br,ix,vz,vw,wg,vs,ln,Af,lc,ap,cs,wa,tw,fl,Ai,br];simp[y]) (AK (by omega))
   rw[Du]at q
   rw[Yj (Yo m),q]
   rfl
 ·rw[Ym m]at h⊢
  rw[Ym (by simp[m])]
  by_cases k:f.card=5
  ·rw[Yj k]at h⊢
   split at h
   ·cases h
   ·rw[Qo]at h
    have t:∀p∈v.pairs,p.key.kind=f.key∧DL (A6 s true d) s f.type p.val=0:=fun p a=>by
     obtain⟨j,E⟩:=YN.1 a
     have:=h j p E
     rw[qA]at this
     exact⟨(dp this.1).1,this.2.2⟩
    have F:=D.ky k
    have u:∀p∈v.pairs,Dn p.key=p.key:=fun p a=>by
     unfold Dn
     rw[Ym]
     have:=(t p a).1
     omega
    have q:=Dh (B:=QG s f v R) (N:=Ag) (ρ:=Val) v.pairs (fun l=>l.map fun p=>Pr.mk (Dn p.key) (Do (BW s d) f.type p.val)) (fun i b=>(b,i)) id (fun i p a=>by
     have n:=Ba a
     have hi:=(Yb.1 a).1
     have o:i+1<9223372036854775808:=by omega
     have hm:=Yi a
     have e:=iZ hs g R d r f.type p.val (EL c hm).2 (t p hm).2
     have z:=nz (EL c hm).1
     have a1:((v.pairs.take i).map fun p=>Pr.mk (Dn p.key) (Do (BW s d) f.type p.val)).length<549755813887:=by rw[YG,Yw];omega
     rw[DQ]
     generalize (v.pairs.take i).map (fun p=>Pr.mk (Dn p.key) (Do (BW s d) f.type p.val))=out at a1⊢
     dsimp only[QG,iX,WM,aK,br,ix,vz,vw,vs,ln,Af,lc,ap,cl,cs,wa,du,fl,Ai,br]
     simp only[w2,n,o,a,e,z,a1,Yp,Yq,Ya,YT,Du]) (by dsimp only[QG,iX,WM,aK,br,ix,vz,vw,vs,ln,Af,lc,ap,cl,cs,wa,du,fl,Ai,br];simp[w2]) (AK (by omega))
    rw[Du]at q
    have A:=Zup (v.pairs.map fun p=>Pr.mk (Dn p.key) (Do (BW s d) f.type p.val)) (by rw[YG];have:=Cr (e:=Aq) v.pairs;have C:An (Ae v)≤1048576:=c;rw[EO]at C;omega) fun q G=>by
     obtain⟨p,a,rfl⟩:=YX.1 G
     have:=(t p a).1
     refine⟨?_,?_⟩
     ·show 1≤(Dn p.key).kind∧(Dn p.key).kind≤9
      rw[u p a]
      omega
     ·show AP (Dn p.key)
      rw[u p a]
      exact(EL c a).1
    rw[Yj (Yo k),q,Ya]
    simp only[Cp,id]
    rw[A]
    rfl
  ·rw[Ym k]at h⊢
   rw[Ym (by simp[k]),iZ hs g R d r f.type v c h]
   rfl
theorem nfH{s:Scm}(hs:An (Am s)≤1048576)(g:GdS s):∀a d:Nat,d<a→RV s (Ld a) d
 |0,d,h=>by omega
 |a+1,d,h=>fun f v c i b=>ZWy hs g (Ld a) d (fun d' e=>nfH hs g a d' (by omega)) f v c i b
theorem Zwp{s:Scm}(hs:An (Am s)≤1048576)(g:GdS s)(n:ByteArray)(v:Val)(a:AP v)(h:OkM s true 15 (A0 s n).1 v):Pi (Ld Ag) s n v=some (BW s 16 n v):=Zs2 hs g _ 15 (nfH hs g Ag 15 (AK (by omega))) n v a h
theorem ZnW{s:Scm}(hs:An (Am s)≤1048576)(g:GdS s)(n:ByteArray)(v:Val)(d:AP v):Ok (fun b:Bool=>b=true↔K3 s true n v=0∧v=BW s 16 n v) (dA s n v):=by
 dsimp only[dA,yY,wg,lr,cl,AE]
 rw[ZHi hs n v d,Ya]
 by_cases c:K3 s true n v=0
 ·have i:AP (BW s 16 n v):=Eb (lw g.asc 16 n v) d
  obtain⟨b,e,a⟩:=xC d i
  have f:=Zwp hs g n v d (gV.1 c).2.1
  simp[c,e,f,a]
  exact⟨_,rfl,a⟩
 ·exact⟨false,by simp[c],Iff.intro (fun h=>absurd h (by decide)) fun h=>absurd h.1 c⟩
def Eo(F:List Fld)(f:Fld)(l:List Slt):Bool:=F.any fun g=>(((!decide (f.union=⟨#[]⟩))&&decide (g.union=f.union))&&!decide (g.num=f.num))&&BS l g.num
def Io(R:ByteArray→Val→Val→Val)(f:Fld)(x y:Val):Val:=
 if f.card=4 then .mk 11 0 ⟨#[]⟩ (x.list++y.list) [] [] []else if f.card=5 then .mk 12 0 ⟨#[]⟩ [] (IC (x.pairs++y.pairs)) [] []else if f.type.kind=10 then R f.type.name x y else y
def DF(R:ByteArray→Val→Val→Val)(F:List Fld)(a b:List Slt)(f:Fld):List Slt:=
 match Bo a f.num,Bo b f.num with
 |some x,some y=>[.mk f.num (Io R f x.val y.val)]
 |none,some y=>[.mk f.num y.val]
 |some x,none=>if Eo F f b=true then[]else[.mk f.num x.val]
 |none,none=>[]
def DV(R:ByteArray→Val→Val→Val)(F:List Fld)(a b:List Slt)(l:List Fld):List Slt:=l.flatMap (DF R F a b)
def Bq(s:Scm):Nat→ByteArray→Val→Val→Val
 |0,_,a,_=>a
 |d+1,n,a,b=>.mk 10 0 ⟨#[]⟩ [] [] (DV (Bq s d) (Ay s n) a.slots b.slots (Ay s n)) (Ch (a.raws++b.raws))
theorem Zso(R:ByteArray→Val→Val→Val)(F:List Fld)(a b:List Slt):∀l:List Fld,(DV R F a b l).length≤l.length
 |[]=>Yf _
 |f::l=>by
  have c:=Zso R F a b l
  have h:(DF R F a b f).length≤1:=by
   unfold DF
   split
   ·exact Yf _
   ·exact Yf _
   ·split
    ·exact Cj _
    ·exact Yf _
   ·exact Cj _
  show(DF R F a b f++DV R F a b l).length≤_
  rw[Yr,E1]
  omega
def QN(l:List Slt)(k:Int):Val×Bool:=(Bo l k).elim (zV,false) fun x=>(x.val,true)
theorem fQ(v:Val)(k:Int)(h:v.slots.length≤4194304):eh v k=some (QN v.slots k):=by
 have w:v.slots.length<4611686018427387904:=by omega
 have f:=Di (B:=QW v k) (N:=Ag) v.slots (fun x=>decide (x.num=k)) (fun i=>((v.slots.getD i Rw.z).val,true)) () (fun i x hx=>by
  have b:=Ba hx
  have c:i+1<9223372036854775808:=by have:=(Yb.1 hx).1;omega
  have d:v.slots.getD i Rw.z=x:=by rw[Yg,hx];rfl
  dsimp only[QW,Zi,br,ix,vz,wg,vs,Ar,ln,Af,wa,Ai,br]
  simp only[w,b,c,d,hx,Yp,Yq,Ya]
  cases decide (x.num=k)<;>rfl) (by dsimp only[QW,Zi,br,ix,vz,wg,vs,Ar,ln,Af,wa,Ai,br];simp[w]) (AK (by omega))
 dsimp only[eh,qH,uu,tA,wg,lr,lc]
 unfold QN Bo
 rw[f,MX]
 cases e:v.slots.findIdx? fun x=>decide (x.num=k)with
 |none=>rfl
 |some i=>
  have a:=(Y3.1 e).1
  simp[Yc a]
theorem ZsS(l:List Slt)(k:Int):(QN l k).2=BS l k:=by
 rw[Zn8]
 unfold QN
 cases Bo l k<;>rfl
theorem ZIE(m:Msg)(f:Fld)(v:Val)(hm:m.fields.length≤1048576)(h:v.slots.length≤4194304):dL m f v=some (Eo m.fields f v.slots):=by
 have w:m.fields.length<4611686018427387904:=by omega
 have d:=Up (B:=Q9 m f v) (N:=Ag) m.fields (fun g=>(((!decide (f.union=⟨#[]⟩))&&decide (g.union=f.union))&&!decide (g.num=f.num))&&BS v.slots g.num) true () (fun i g a=>by
  have b:=Ba a
  have c:i+1<9223372036854775808:=by have:=(Yb.1 a).1;omega
  have e:=fQ v g.num h
  dsimp only[Q9,Zr,br,ix,vz,wg,vs,Ar,ln,Af,cl,wa,Ai,br]
  simp only[w,b,c,a,e,ZsS,Yp,Yq,Ya]
  generalize ((((!decide (f.union=⟨#[]⟩))&&decide (g.union=f.union))&&!decide (g.num=f.num))&&BS v.slots g.num)=t
  cases t<;>rfl) (by dsimp only[Q9,Zr,br,ix,vz,wg,vs,Ar,ln,Af,cl,wa,Ai,br];simp[w]) (AK (by omega))
 dsimp only[dL,wo,qU,qQ,lr,lc]
 rw[d]
 unfold Eo
 cases m.fields.any fun g=>(((!decide (f.union=⟨#[]⟩))&&decide (g.union=f.union))&&!decide (g.num=f.num))&&BS v.slots g.num<;>rfl
theorem Zyl(a b:List Raw)(F:a.length≤1048576)(G:b.length≤1048576):ei a b=some (Ch (a++b)):=by
 have hl:(a++b).length≤2097152:=by rw[Yr];omega
 have y:a.length+b.length<549755813888:=by omega
 dsimp only[ei,vh,tU,ws,yJ,vz,vw,lr,lc,aq,a0,fl,fz]
 rw[Yj (by omega),Yj y]
 have C:∀l:List Raw,l=a++b→Aj (Nm a b) Ag ([],0)=some (.inl (Ch l)):=fun l e0=>by
  have z:l.length≤2097152:=by rw[e0];exact hl
  have q:=Dh (B:=Nm a b) (N:=Ag) (ρ:=List Raw) l Ch (fun i b=>(b,i)) id (fun i x hx=>by
   have g:=Ba hx
   have hi:=(Yb.1 hx).1
   have w:i+1<9223372036854775808:=by omega
   have e:Ch (l.take i++[x])=insR (Ch (l.take i)) x:=by
    unfold Ch
    rw[List.foldl_append]
    rfl
   have a1:(Ch (l.take i)).length≤4194304:=by
    unfold Ch
    rw[gJ,Yw]
    simp only[G6]
    omega
   rw[e]
   generalize Ch (l.take i)=c at a1⊢
   have E:c.length<4611686018427387904:=by omega
   have h:l.getD i Rw.z=x:=by rw[Yg,hx];rfl
   have A:(0:Int)≤i∧(i:Int)<l.length:=⟨by omega,g⟩
   have D:∀(k N:Nat),k≤c.length→k<N→Aj (Q0 a b c i) N (k:Int)=some (.inl ((De c x k:Nat):Int)):=by
    intro k
    induction k with
    |zero=>
     intro N _ hN
     obtain⟨N,rfl⟩:∃m,N=m+1:=⟨N-1,by omega⟩
     rw[Aj]
     dsimp only[Q0,Z4,br,AN,vz,vs,vg,v2,ln,Af,wi,ir,fl,br]
     simp[De]
    |succ k d=>
     intro N H hN
     obtain⟨N,rfl⟩:∃m,N=m+1:=⟨N-1,by omega⟩
     have n:((k+1:Nat):Int)-1=(k:Int):=by omega
     have o:(0:Int)<((k+1:Nat):Int):=by omega
     have p:(0:Int)≤k∧(k:Int)<c.length:=⟨by omega,by omega⟩
     have r: -9223372036854775808≤(k:Int)∧(k:Int)<9223372036854775808:=by omega
     have s:i<l.length:=hi
     have d:=d N (by omega) (by omega)
     rw[Aj,De]
     dsimp only[Q0,Z4,br,AN,vz,vs,vg,v2,ln,Af,wi,ir,fl,br]
     rw[←e0]
     simp only[n,o,p,r,s,h,A,YS,Yp,Yq,Ya,Dt,Ck,D8]
     by_cases t:x.num<(c.getD k Rw.z).num
     ·rw[Yo t,Yj rfl,Yj t]
      exact d
     ·rw[Yt t,Ym (by decide),Ym t]
   have j:=D c.length Ag (Yf _) (AK (by omega))
   have f:=Vd c x c.length
   unfold insR
   generalize De c x c.length=k at j f⊢
   have u:(c.take k).length<549755813887:=by rw[Yw];omega
   have v:(c.take k++[x]).length+(c.drop k).length<549755813888:=by rw[Yr,Yw,Y8,HU];omega
   dsimp only[Nm,ZM,ax,bv,aS,br,vz,vw,vs,v2,ln,Af,lc,ap,aq,a0,wa,ir,ca,sL,fl,fz,Ai,Br,br]
   rw[←e0]
   simp only[E,g,w,j,hx,h,Yp,Yq,Ya,Cp,id,Bd.c,Bd.vl,YS]
   simp[u,v,f,hi]
   exact⟨by omega,by omega,by omega,Ja (by rw[Y8];exact Yf _)⟩) (by dsimp only[Nm,ZM,ax,bv,aS,br,vz,vw,vs,v2,ln,Af,lc,ap,aq,a0,wa,ir,ca,sL,fl,fz,Ai,Br,br];rw[←e0];simp) (AK (by rw[e0];omega))
  exact q
 rw[C _ rfl]
 rfl
structure OkW (s:Scm) (k:Bool) (d:Nat) (m:Msg) (v:Val):Prop where
 pw:v.slots.Pairwise fun a b=>a.num≠b.num∧D7 m.fields a b
 sl:∀x∈v.slots,(BH m.fields x.num).2=true∧Cn (A6 s k d) s k (AY m.fields x.num) x.val=0
theorem OkM.w{s:Scm}{k:Bool}{d:Nat}{m:Msg}{v:Val}(h:OkM s k d m v):OkW s k d m v:=⟨h.pw,h.sl⟩
def LX(W:ByteArray→Val→Prop)(f:Fld)(v:Val):Prop:=(f.card=5→∀p∈v.pairs,1≤p.key.kind∧p.key.kind≤9)∧(¬f.card=4→¬f.card=5→f.type.kind=10→W f.type.name v)
def Wk(s:Scm):Nat→ByteArray→Val→Prop
 |0,_,_=>False
 |d+1,n,v=>(v.slots.Pairwise fun a b=>a.num≠b.num∧D7 (Ay s n) a b)∧∀x∈v.slots,(BH (Ay s n) x.num).2=true∧LX (Wk s d) (AY (Ay s n) x.num) x.val
def LU(s:Scm)(R:Scm→ByteArray→Val→Val→Option Val)(d:Nat):Prop:=∀(n:ByteArray) (a b:Val),AP a→AP b→Wk s d n a→Wk s d n b→R s n a b=some (Bq s d n a b)
theorem Ztq{s:Scm}{t:Typ}{v:Val}{d:Nat}(c:t.kind=10)(h:DL (A6 s true d) s t v=0):∃d',d=d'+1∧OkM s true d' (A0 s t.name).1 v:=by
 unfold DL at h
 rw[Yj c]at h
 cases a:(A0 s t.name).2 with
 |false=>rw[a]at h;cases h
 |true=>
  rw[a,Yj rfl]at h
  cases d with
  |zero=>
   unfold A6 at h
   split at h<;>cases h
  |succ d=>exact⟨d,rfl,jn.1 h⟩
theorem Zyd{s:Scm}{f:Fld}{v:Val}{d:Nat}(b:GdF s f)(a:f.card=5)(h:Cn (A6 s true d) s true f v=0):∀p∈v.pairs,1≤p.key.kind∧p.key.kind≤9:=fun p e=>by
 unfold Cn at h
 rw[Ym (by omega),Yj a]at h
 split at h
 ·cases h
 ·rw[Qo]at h
  obtain⟨j,c⟩:=YN.1 e
  have:=h j p c
  rw[qA]at this
  have g:=(dp this.1).1
  have i:=b.ky a
  omega
theorem OkW.wk{s:Scm}(g:GdS s):∀(d:Nat) {n:ByteArray} {v:Val},OkW s true d (A0 s n).1 v→Wk s (d+1) n v
 |d,n,v,o=>⟨o.pw,fun x hx=>by
  obtain⟨b,a⟩:=o.sl x hx
  have b:(BH (Ay s n) x.num).2=true:=b
  have a:Cn (A6 s true d) s true (AY (Ay s n) x.num) x.val=0:=a
  have i:AY (Ay s n) x.num∈Ay s n:=by
   rcases JS (Ay s n) x.num with⟨c,_⟩|⟨_,c⟩
   ·rw[b]at c;cases c
   ·exact c
  refine⟨b,fun f=>Zyd (g.fl n _ i) f a,fun h f c=>?_⟩
  unfold Cn at a
  rw[Ym h,Ym f]at a
  obtain⟨d',e,j⟩:=Ztq c a
  subst e
  exact OkW.wk g d' j.w⟩
theorem Zxx{s:Scm}(R:Scm→ByteArray→Val→Val→Option Val)(d:Nat)(l:LU s R d)(f:Fld)(x y:Val)(hx:AP x)(hy:AP y)(h:LX (Wk s d) f x)(i:LX (Wk s d) f y):JG R s f x y=some (Io (Bq s d) f x y):=by
 have j:=Ci hx
 have k:=Ci hy
 have t:=j.l
 have u:=j.p
 have q:=k.l
 have r:=k.p
 have m:x.list.length<549755813888:=by omega
 have w2:x.list.length+y.list.length<549755813888:=by omega
 have n:x.pairs.length<549755813888:=by omega
 have o:x.pairs.length+y.pairs.length<549755813888:=by omega
 unfold Io
 dsimp only[JG,p9,br,vz,vw,wg,lr,aq,a0,cl,cs,fz,fr,br]
 by_cases g:f.card=4
 ·rw[Yj (Yo g),Yj m,Yj w2,Yj g]
 ·rw[Ym (by simp[g]),Ym g]
  by_cases a:f.card=5
  ·have e:=Zup (x.pairs++y.pairs) (by rw[Yr];omega) fun p b=>by
    rcases FH.1 b with b|b
    ·exact⟨h.1 a p b,(EL hx b).1⟩
    ·exact⟨i.1 a p b,(EL hy b).1⟩
   rw[Yj (Yo a),Yj n,Yj o,e,Yj a]
   rfl
  ·rw[Ym (by simp[a]),Ym a]
   by_cases c:f.type.kind=10
   ·rw[Yj (Yo c),Yj c,l f.type.name x y hx hy (h.2 g a c) (i.2 g a c)]
    rfl
   ·rw[Ym (by simp[c]),Ym c]
theorem ZHN{s:Scm}(hs:An (Am s)≤1048576)(g:GdS s)(R:Scm→ByteArray→Val→Val→Option Val)(d:Nat)(K:LU s R d)(n:ByteArray)(a b:Val)(l:AP a)(o:AP b)(z:Wk s (d+1) n a)(A:Wk s (d+1) n b):SY R s n a b=some (Bq s (d+1) n a b):=by
 have D:=Ci l
 have E:=Ci o
 have F:K9 s n=some (A0 s n):=Xd s n (EW hs).ml
 have m:=g.asc n
 have hl:(Ay s n).length≤1048576:=M7 (EW hs) n
 have C:(Ay s n).length<4611686018427387904:=by omega
 have s1:=D.s
 have s2:=E.s
 have O:=D.r
 have P:=E.r
 have G:=Zyl a.raws b.raws (by omega) (by omega)
 have key:∀(v:Val),AP v→Wk s (d+1) n v→∀(f:Fld) (x:Slt),f∈Ay s n→Bo v.slots f.num=some x→AP x.val∧LX (Wk s d) f x.val:=fun v M ov f x c hx=>by
  have hm:x∈v.slots:=Ha hx
  have L:x.num=f.num:=Y1 (p:=x.num=f.num) (R4 (p:=fun x:Slt=>decide (x.num=f.num)) hx)
  have h:=(ov.2 x hm).2
  rw[L,show AY (Ay s n) f.num=f from congrArg Prod.fst (P8 m c)]at h
  exact⟨Fm M hm,h⟩
 have q:=Dh (B:=Nq s a b R (A0 s n) (Ch (a.raws++b.raws))) (N:=Ag) (ρ:=Val) (Ay s n) (fun p=>DV (Bq s d) (Ay s n) a.slots b.slots p) (fun i b=>(i,b)) id (fun i f c=>by
  have J:=Ba c
  have hi:=(Yb.1 c).1
  have j:i+1<9223372036854775808:=by omega
  have hm:=Yi c
  have r:=fQ a f.num (by omega)
  have t:=fQ b f.num (by omega)
  have u:=ZIE (A0 s n).1 f b hl (by omega)
  rw[show(A0 s n).1.fields=Ay s n from rfl]at u
  have a1:=Zso (Bq s d) (Ay s n) a.slots b.slots ((Ay s n).take i)
  rw[Yw]at a1
  have H:DV (Bq s d) (Ay s n) a.slots b.slots ((Ay s n).take i++[f])=DV (Bq s d) (Ay s n) a.slots b.slots ((Ay s n).take i)++DF (Bq s d) (Ay s n) a.slots b.slots f:=by
   unfold DV
   rw[List.flatMap_append,List.flatMap_cons,List.flatMap_nil,FG]
  rw[H]
  have e:(DV (Bq s d) (Ay s n) a.slots b.slots ((Ay s n).take i)).length<549755813887:=by omega
  generalize DV (Bq s d) (Ay s n) a.slots b.slots ((Ay s n).take i)=out at e⊢
  unfold DF
  unfold QN at r t
  dsimp only[Nq,g8,jp,Vt,VU,M0,bw,gZ,JX,Zt,aA,ZS,br,ix,vz,vw,wg,vs,ln,Af,lc,ap,cl,AE,cs,wa,tw,fl,Ai,br]
  rw[show(A0 s n).1.fields=Ay s n from rfl]
  simp only[C,J,c,r,t,Yp,Yq,Ya]
  cases w:Bo a.slots f.num with
  |none=>
   cases k:Bo b.slots f.num with
   |none=>simp[j]
   |some y=>simp[j,e]
  |some x=>
   cases k:Bo b.slots f.num with
   |none=>
    simp only[Ov,Ow,u,Ks,Yn,YK,FI,YQ,D8,Yq,Dt]
    cases Eo (Ay s n) f b.slots<;>simp[j,e]
   |some y=>
    have I:=Zxx R d K f x.val y.val (key a l z f x hm w).1 (key b o A f y hm k).1 (key a l z f x hm w).2 (key b o A f y hm k).2
    simp[j,e,I]) (by dsimp only[Nq,g8,jp,Vt,VU,M0,bw,gZ,JX,Zt,aA,ZS,br,ix,vz,vw,wg,vs,ln,Af,lc,ap,cl,AE,cs,wa,tw,fl,Ai,br];rw[show(A0 s n).1.fields=Ay s n from rfl];simp[C]) (AK (by omega))
 dsimp only[SY,pG,oP,n9,oY,vz,vw,wg,lr,lc,cl,fl,fr]
 rw[F,Ya,G,Ya]
 have q:Aj (Nq s a b R (A0 s n) (Ch (a.raws++b.raws))) Ag (0,[])=some (.inl (DV (Bq s d) (Ay s n) a.slots b.slots (Ay s n))):=q
 rw[q]
 rfl
theorem rp{s:Scm}(hs:An (Am s)≤1048576)(g:GdS s):∀c d:Nat,d≤c→LU s (MJ c) d
 |_,0,_=>fun _ _ _ _ _ h=>h.elim
 |0,d+1,h=>by omega
 |c+1,d+1,h=>fun n a b e f i j=>ZHN hs g (MJ c) d (rp hs g c d (by omega)) n a b e f i j
theorem Zjc{s:Scm}(hs:An (Am s)≤1048576)(g:GdS s)(n:ByteArray)(a b:Val)(c:AP a)(d:AP b)(e:Wk s 16 n a)(f:Wk s 16 n b):MJ Ag s n a b=some (Bq s 16 n a b):=rp hs g Ag 16 (Nat.le_of_lt (AK (by omega))) n a b c d e f
end Go.Proofs.YtbcmdieedjamgaaGreat
