import Derived.Test.YthcplkfhnnlafaaGreatZm23
import Derived.Sort.Walk0
import Derived.Test.YthcplkfhnnlafaaGreatZm00
namespace Go.Proofs.YthcplkfhnnlafaaGreat
set_option linter.all false
open Go Go.Eng
theorem vld(c:Nat):Utf8.valid (c:Int)=decide (c<0xD800\/0xE000<=c/\c<=0x10FFFF):=by unfold Utf8.valid;rw[Nl];simp only[YG,Yc,Yr];omega
theorem ZT9(a b c d:Nat)(i j l:Prop)[Decidable i][Decidable j][Decidable l](r:a<256)(s:b<256)(t:c<256)(u:d<256)(z:Nat)
 (g:z=if a<0x80 then 1
 else if 0xc2<=a/\a<=0xdf/\i/\0x80<=b/\b<=0xbf then 2
 else if a=0xe0/\(i/\0xa0<=b/\b<=0xbf)/\(j/\0x80<=c/\c<=0xbf)then 3
 else if a=0xed/\(i/\0x80<=b/\b<=0x9f)/\(j/\0x80<=c/\c<=0xbf)then 3
 else if 0xe1<=a/\a<=0xef/\a≠0xed/\(i/\0x80<=b/\b<=0xbf)/\(j/\0x80<=c/\c<=0xbf)then 3
 else if a=0xf0/\(i/\0x90<=b/\b<=0xbf)/\(j/\0x80<=c/\c<=0xbf)/\(l/\0x80<=d/\d<=0xbf)then 4
 else if 0xf1<=a/\a<=0xf3/\(i/\0x80<=b/\b<=0xbf)/\(j/\0x80<=c/\c<=0xbf)/\(l/\0x80<=d/\d<=0xbf)then 4
 else if a=0xf4/\(i/\0x80<=b/\b<=0x8f)/\(j/\0x80<=c/\c<=0xbf)/\(l/\0x80<=d/\d<=0xbf)then 4
 else 0) (D:Nat×Nat) (f:D=if a<0x80 then(a,1)
 else if a/32=6/\i/\b/64=2 then
  if(a%32)*64+b%64>=0x80 then((a%32)*64+b%64,2)else(65533,1)
 else if a/16=14/\(i/\b/64=2)/\(j/\c/64=2)then
  if(a%16)*4096+(b%64)*64+c%64>=0x800/\((a%16)*4096+(b%64)*64+c%64<0xD800\/0xE000<=(a%16)*4096+(b%64)*64+c%64/\(a%16)*4096+(b%64)*64+c%64<=0x10FFFF)then((a%16)*4096+(b%64)*64+c%64,3)else(65533,1)
 else if a/8=30/\(i/\b/64=2)/\(j/\c/64=2)/\(l/\d/64=2)then
  if(a%8)*262144+(b%64)*4096+(c%64)*64+d%64>=0x10000/\((a%8)*262144+(b%64)*4096+(c%64)*64+d%64<0xD800\/0xE000<=(a%8)*262144+(b%64)*4096+(c%64)*64+d%64/\(a%8)*262144+(b%64)*4096+(c%64)*64+d%64<=0x10FFFF)then((a%8)*262144+(b%64)*4096+(c%64)*64+d%64,4)else(65533,1)
 else(65533,1)):(z=0->D.1=65533/\¬(a=0xef/\(i/\b=0xbf)/\(j/\c=0xbd)))/\(z≠0->D.2=z/\(D.1=65533->a=0xef/\(i/\b=0xbf)/\(j/\c=0xbd))):=by
 by_cases a0:a<128
 ·rw[Yi a0]at g f;subst g f;exact⟨λh=>absurd h (by decide),λ_=>⟨rfl,λh=>by dsimp only at h;omega⟩⟩
 rw[Yh a0]at g f;by_cases a1:a/32=6
 ·simp only[show¬a=224 by omega,show¬a=237 by omega,show¬225<=a by omega,show¬a=240 by omega,show¬241<=a by omega,show¬a=244 by omega,show¬a/16=14 by omega,show¬a/8=30 by omega,show¬a=0xef by omega,DA,YE,Gj,a1,C4,G2,II]at g f⊢;by_cases k:i
  ·simp only[k,C4]at g f;split at g<;>split at f<;>(try split at f)<;>subst g f<;>dsimp only<;>omega
  ·simp only[k,DA,YE,Gj]at g f;subst g f;exact⟨λ_=>rfl,λh=>absurd rfl h⟩
 by_cases p:a/16=14
 ·simp only[show¬a<=223 by omega,show¬a=240 by omega,show¬241<=a by omega,show¬a=244 by omega,show¬a/8=30 by omega,a1,p,DA,YE,Gj,C4]at g f⊢;by_cases k:i<;>by_cases o:j<;>simp only[k,o,C4,DA,Gj,YE]at g f⊢
  ·by_cases m:a=0xe0
   ·subst m;simp only[show¬(224=237)by decide,show¬225<=224 by decide,C4,DA,YE]at g;split at g<;>split at f<;>(try split at f)<;>subst g f<;>dsimp only<;>omega
   ·by_cases n:a=0xed
    ·subst n;simp only[show¬(237=224)by decide,ne_eq,IG,C4,DA,Gj,YE]at g;split at g<;>split at f<;>(try split at f)<;>subst g f<;>dsimp only<;>omega
    ·simp only[m,n,DA,YE]at g;split at g<;>split at f<;>(try split at f)<;>subst g f<;>dsimp only<;>omega
  all_goals(subst g f;exact⟨λ_=>⟨rfl,by simp⟩,λh=>absurd rfl h⟩)
 ·simp only[show¬(a=0xef)by omega,show¬a=224 by omega,show¬a=237 by omega,a1,p,DA,YE,G2,II]at g f⊢;rw[Yh (by omega:¬(0xc2<=a/\a<=0xdf/\i/\0x80<=b/\b<=0xbf)),Yh (by omega:¬(0xe1<=a/\a<=0xef/\a≠0xed/\(i/\0x80<=b/\b<=0xbf)/\(j/\0x80<=c/\c<=0xbf)))]at g;by_cases e:i/\j/\l
  ·obtain⟨k,o,q⟩:=e;simp only[k,o,q,C4]at g f;by_cases m:a=0xf0
   ·subst m;simp only[show¬(240=244)by decide,show¬241<=240 by decide,C4,DA,YE]at g;split at g<;>split at f<;>(try split at f)<;>subst g f<;>dsimp only<;>omega
   ·by_cases n:a=0xf4
    ·subst n;simp only[show¬(244=240)by decide,show¬244<=243 by decide,C4,DA,Gj,YE]at g;split at g<;>split at f<;>(try split at f)<;>subst g f<;>dsimp only<;>omega
    ·simp only[m,n,DA,YE]at g;split at g<;>split at f<;>(try split at f)<;>subst g f<;>dsimp only<;>omega
  ·rw[Yh (λh=>e ⟨h.2.1.1,h.2.2.1.1,h.2.2.2.1⟩),Yh (λh=>e ⟨h.2.2.1.1,h.2.2.2.1.1,h.2.2.2.2.1⟩),Yh (λh=>e ⟨h.2.1.1,h.2.2.1.1,h.2.2.2.1⟩)]at g;rw[Yh (λh=>e ⟨h.2.1.1,h.2.2.1.1,h.2.2.2.1⟩)]at f;subst g f;exact⟨λ_=>rfl,λh=>absurd rfl h⟩
theorem nr(x:ByteArray)(p:Nat):(B2 x p=0->(Utf8.decode x p).1=65533/\¬((x.get! p).toNat=0xef/\(p+1<x.size/\(x.get! (p+1)).toNat=0xbf)/\(p+2<x.size/\(x.get! (p+2)).toNat=0xbd)))/\(B2 x p≠0->(Utf8.decode x p).2=B2 x p/\((Utf8.decode x p).1=65533->((x.get! p).toNat=0xef/\(p+1<x.size/\(x.get! (p+1)).toNat=0xbf)/\(p+2<x.size/\(x.get! (p+2)).toNat=0xbd)))):=
 ZT9 (x.get! p).toNat (x.get! (p+1)).toNat (x.get! (p+2)).toNat (x.get! (p+3)).toNat (p+1<x.size) (p+2<x.size) (p+3<x.size) (x.get! p).toNat_lt (x.get! (p+1)).toNat_lt (x.get! (p+2)).toNat_lt (x.get! (p+3)).toNat_lt _ (by
  unfold B2 CH;simp only[Yc,Yr,and_assoc]) _ (by
  unfold Utf8.decode;simp only[vld,Gg,Yc,Yr,beq_iff_eq,Utf8.runeError,and_assoc])
theorem jJ(x:ByteArray)(p:Nat):x.data.toList.getD p 0=x.get! p:=by
 cases x with
 |mk d=>
  show d.toList.getD p 0=d.getD p 0;rw[Yj,YL,YD]
theorem wJ(x:ByteArray)(i:Nat)(lo hi:Nat)(h:x.size<=1048576):NS x (i:Int) (lo:Int) (hi:Int)=some (CH x i lo hi):=by
 have w:x.size<4611686018427387904:=ae
 dsimp only[NS,vz,lr,A3,GY];simp only[w,Yq,YW,jJ];have a:∀b c:Bool,(b=true->decide ((i:Int)<x.size)=true)->(if(b=true->(0:Int)<=i/\(i:Int)<x.size)then(some c)else none)=some c:=λb c d=>by rw[Yi];intro h;have:=d h;simp only[Yr]at this;omega
 rw[a _ _ (λh=>by rw[Yc]at h;exact h.1),a _ _ (λh=>h)];unfold CH;congr 1;rw[Nl];simp only[Yc,Yr];omega
theorem nN(x:ByteArray)(i n:Nat)(h:x.size<=1048576)(hi:i<=2097152)(p:n<=9):L8 x (i:Int) (n:Int)=some ((List.range n).all λk=>CH x (i+k) 128 191):=by
 have o:=Ep (B:=Mx x (i:Int) (n:Int)) (N:=Ag) (List.range n) (λk=>!CH x (i+k) 128 191) (λ_=>false) () (λk y a=>by
  have b:=(Yb.1 a).1;rw[aJ]at b;have hy:y=k:=by rw[List.getElem?_range b]at a;cases a;rfl
  subst hy;have e:=wJ x (i+y) 128 191 h;rw[Int.natCast_add]at e;have d:(y:Int)<n:=ae
  have f:y+1<9223372036854775808:=ae
  have g: -9223372036854775808<=(i:Int)+y/\(i:Int)+y<9223372036854775808:=ae
  dsimp only[Mx,br,vs,Ar,ln,Af,cl,wa,wi,br];simp only[d,f,g,Yn,Yq,BZ];rw[show((128:Int))=((128:Nat):Int)from rfl,show((191:Int))=((191:Nat):Int)from rfl,e,Ya];cases CH x (i+y) 128 191<;>rfl) (by rw[aJ];dsimp only[Mx,br,vs,Ar,ln,Af,cl,wa,wi,br];simp) (by rw[aJ];exact AM ae)
 dsimp only[L8,lr,lc];rw[o];cases c:(List.range n).findIdx? λk=>!CH x (i+k) 128 191 with
 |none=>
  have:=Nb.1 c;have e:((List.range n).all λk=>CH x (i+k) 128 191)=true:=Yv.2 λk a=>by simpa using this k a
  rw[e];rfl
 |some j=>
  obtain⟨l,m,_⟩:=Nc.1 c;have e:((List.range n).all λk=>CH x (i+k) 128 191)=false:=by rw[List.all_eq_false];exact⟨_,G3 l,by simpa using m⟩
  rw[e];rfl
theorem Kl{c:Prop}[Decidable c]{b:Bool}(n:Nat)(h:b=true↔c){x:Option Int}{m:Nat}(k:x=some (m:Int)):(if b=true then some (n:Int)else x)=some ((if c then n else m:Nat):Int):=by
 by_cases a:c
 ·rw[Yi (h.2 a),Yi a]
 ·rw[Yh (λe=>a (h.1 e)),Yh a,k]
theorem ZMg(x:ByteArray)(p:Nat)(q:p<x.size)(h:x.size<=1048576):QK x (p:Int)=some (B2 x p:Int):=by
 have t1:∀n:Nat,n<=9->L8 x ((p:Int)+1) (n:Int)=_:=λn d=>nN x (p+1) n h ae d;have t2:∀n:Nat,n<=9->L8 x ((p:Int)+2) (n:Int)=_:=λn d=>nN x (p+2) n h ae d;have a:∀lo hi:Nat,NS x ((p:Int)+1) lo hi=_:=λlo hi=>wJ x (p+1) lo hi h;have a1:=t1 1 ae;have b:=t1 2 ae;have a3:=t1 3 ae;have a4:=t2 1 ae;have c:=t2 2 ae;have e:=a 160 191;have g:=a 128 159;have i:=a 144 191;have j:=a 128 143;have w0:(0:Int)<=p/\(p:Int)<x.size:=ae
 have o: -9223372036854775808<=(p:Int)+1/\(p:Int)+1<9223372036854775808:=ae
 have w2: -9223372036854775808<=(p:Int)+2/\(p:Int)+2<9223372036854775808:=ae
 have k:∀f:Nat->Bool,(List.range 1).all f=f 0:=λf=>by simp[aS]
 have l:∀f:Nat->Bool,(List.range 2).all f=(f 0&&f 1):=λf=>by simp[aS]
 have m:∀f:Nat->Bool,(List.range 3).all f=(f 0&&(f 1&&f 2)):=λf=>by simp[aS,Bool.and_assoc]
 rw[k]at a1 a4;rw[l]at b c;rw[m]at a3;simp only[Gg,YO,Nat.reduceAdd,Int.cast_ofNat_Int]at a1 b a3 a4 c e g i j;dsimp only[QK,br,vg,lr,Az,wi,br,S1];simp only[w0,o,w2,BZ,Yq,YW,jJ,a1,b,a3,a4,c,e,g,i,j,Y6,YK,CT];unfold B2;refine Kl 1 (by simp only[Yr];omega) ?_;refine Kl 2 (by simp only[Yc,Yr];grind) ?_;refine Kl 3 (by simp only[Yc,Yr];grind) ?_;refine Kl 3 (by simp only[Yc,Yr];grind) ?_;refine Kl 3 (by simp only[Yc,YM,Yr,YB];grind) ?_;refine Kl 4 (by simp only[Yc,Yr];grind) ?_;refine Kl 4 (by simp only[Yc,Yr];grind) ?_;refine Kl 4 (by simp only[Yc,Yr];grind) ?_;rfl
theorem ZMh(x:ByteArray)(p:Nat):B2 x p<=4:=by
 unfold B2;dsimp only
 repeat' (first|split|omega)
theorem ZD5(x:ByteArray):∀(k p n m:Nat),x.size-p=k->x.size-p<n->x.size-p<m->GK x n p=GK x m p:=by
 intro k
 induction k using Nat.strongRecOn with
 |_ k c=>
  intro p n m d e hm;obtain⟨n,rfl⟩:∃j,n=j+1:=⟨n-1,ae⟩;obtain⟨m,rfl⟩:∃j,m=j+1:=⟨m-1,ae⟩;unfold GK;by_cases a:p<x.size
  ·rw[Yi a,Yi a];by_cases b:B2 x p=0
   ·rw[Yi b,Yi b]
   ·rw[Yh b,Yh b];exact c (x.size-(p+B2 x p)) ae _ _ _ rfl ae ae
  ·rw[Yh a,Yh a]
def JJ(x:ByteArray)(p:Nat):Bool:=GK x (x.size+1-p) p
theorem xK{x:ByteArray}{p:Nat}(h:x.size<=p):JJ x p=true:=by
 unfold JJ;cases x.size+1-p with
 |zero=>rfl
 |succ n=>unfold GK;rw[Yh ae]
theorem wR{x:ByteArray}{p:Nat}(h:p<x.size):JJ x p=if B2 x p=0 then false else JJ x (p+B2 x p):=by
 unfold JJ;obtain⟨n,e⟩:∃n,x.size+1-p=n+1:=⟨x.size-p,ae⟩;rw[e]
 conv=>lhs;unfold GK
 rw[Yi h];by_cases a:B2 x p=0
 ·rw[Yi a,Yi a]
 ·rw[Yh a,Yh a];by_cases b:p+B2 x p<x.size
  ·exact ZD5 x _ _ _ _ rfl ae ae
  ·have c:GK x n (p+B2 x p)=true:=by
    cases n with
    |zero=>rfl
    |succ n=>unfold GK;rw[Yh b]
   have d:GK x (x.size+1-(p+B2 x p)) (p+B2 x p)=true:=by
    cases x.size+1-(p+B2 x p)with
    |zero=>rfl
    |succ n=>unfold GK;rw[Yh b]
   rw[c,d]
theorem lU(x:ByteArray):EQ x=JJ x 0:=rfl
theorem Zvi(x:ByteArray)(h:x.size<=1048576):NU x=some (EQ x):=by
 have q:Ok (Sum.elim (λ_=>EQ x=true) (λr:Int=>0<=r/\EQ x=false)) (Aj (OF x) Ag 0):=by
  refine BC (λv:Int=>0<=v/\EQ x=JJ x v.toNat) (λv:Int=>x.size-v.toNat) ⟨ae,lU x⟩ (AM ae) λv c=>?_;obtain⟨v,rfl⟩:∃n:Nat,v=n:=⟨v.toNat,ae⟩;obtain⟨_,c⟩:=c;rw[YW]at c;have w:x.size<4611686018427387904:=ae
  dsimp only[OF,br,vz,vs,Ar,ln,Af,cl,wi,A3,br];by_cases g:v<x.size
  ·have d:(v:Int)<x.size:=ae;have hs:=ZMh x v;have b:=wR g;simp only[w,Yq,d,Yn,ZMg x v g h,Ya];by_cases f:B2 x v=0
   ·rw[Yi f]at b;simp only[f,Int.ofNat_zero,Int.cast_ofNat_Int,Yn,Yq];exact⟨_,rfl,ae,by rw[c,b]⟩
   ·rw[Yh f]at b;have j:¬((B2 x v:Int)=0):=ae;have k: -9223372036854775808<=(v:Int)+B2 x v/\(v:Int)+B2 x v<9223372036854775808:=ae;simp only[j,YC,Yk,YE,k,BZ,Yq];refine⟨_,rfl,⟨ae,?_⟩,?_⟩
    ·rw[c,b,show((v:Int)+B2 x v).toNat=v+B2 x v by omega]
    ·show x.size-((v:Int)+B2 x v).toNat<x.size-(v:Int).toNat;omega
  ·have d:¬(v:Int)<x.size:=ae;simp only[w,Yq,d,YC,Yk,YE];exact⟨_,rfl,by rw[c,xK ae]⟩
 obtain⟨y,e,a⟩:=q;dsimp only[NU,lr,cl,Vq,lr,lc];rw[e];cases y with
 |inl y=>
  have a:EQ x=true:=a;rw[a];rfl
 |inr r=>
  obtain⟨a1,i⟩:=a;rw[i];simp only[Ya,Sum.elim_inr];rw[show decide (r<0)=false by simpa using a1]
theorem ZPD{α:Type}(m:List α)(a b c:α):m.take 3=[a,b,c]↔m[0]?=some a/\m[1]?=some b/\m[2]?=some c:=by
 match m with
 |[]=>simp
 |[x]=>simp
 |[x,y]=>simp
 |x::y::z::l=>simp
theorem ZIV{x y:ByteArray}:x=y↔x.data.toList=y.data.toList:=by
 constructor
 ·rintro rfl;rfl
 ·intro h;cases x;cases y;congr 1;exact Array.toList_inj.1 h
theorem wd(x:ByteArray)(a b:Nat):(x.extract a b).data.toList=(x.data.toList.take b).drop a:=by rw[ByteArray.data_extract,Array.toList_extract,List.extract_eq_take_drop,List.drop_take]
theorem bZ(x:ByteArray)(p:Nat)(c:UInt8):x.data.toList[p]?=some c↔p<x.size/\(x.get! p).toNat=c.toNat:=by
 rw[<-jJ,Yj];have hs:x.size=x.data.toList.length:=G8.symm;rw[hs];constructor
 ·intro h;rw[h];exact⟨(Yb.1 h).1,rfl⟩
 ·rintro⟨b,a⟩;rw[Ye b]at a⊢;rw[YK]at a;rw[UInt8.toNat_inj.1 a]
theorem ZP6(x:ByteArray)(p:Nat)(f:p<x.size)(h:x.size<=1048576):fh (x.extract p x.size) ⟨#[239,191,189]⟩=some (decide ((x.get! p).toNat=0xef/\(p+1<x.size/\(x.get! (p+1)).toNat=0xbf)/\(p+2<x.size/\(x.get! (p+2)).toNat=0xbd))):=by
 have g:(x.extract p x.size).size=x.size-p:=by rw[lw];omega
 have hl:(x.extract p x.size).data.toList=x.data.toList.drop p:=by have e:x.data.toList.take x.size=x.data.toList:=J2 (Nat.le_of_eq G8);rw[wd,e]
 have key:(x.extract p x.size).extract 0 3=⟨#[239,191,189]⟩↔((x.get! p).toNat=0xef/\(p+1<x.size/\(x.get! (p+1)).toNat=0xbf)/\(p+2<x.size/\(x.get! (p+2)).toNat=0xbd)):=by rw[ZIV,wd,hl,HQ];show(x.data.toList.drop p).take 3=[239,191,189]↔_;rw[ZPD,YZ,YZ,YZ,bZ,bZ,bZ];exact⟨λh=>⟨h.1.2,h.2⟩,λh=>⟨⟨f,h.1⟩,h.2⟩⟩
 have b:(⟨#[239,191,189]⟩:ByteArray).size=3:=rfl;generalize x.extract p x.size=y at g key;dsimp only[fh,lr,cl,u6,vz,vy,lr,A3];rw[b];have w:y.size<4611686018427387904:=ae
 by_cases c:3<=y.size
 ·have a:((3:Nat):Int)<=y.size:=ae
  simp only[w,Yq,a,Yn,J9,Bd.c,Bd.vl,Y9,Ya,show(3:Nat)<4611686018427387904 by decide,B8,C4,c,BZ,CT];congr 1;exact decide_eq_decide.2 key
 ·have a:¬((3:Nat):Int)<=y.size:=ae
  simp only[w,Yq,a,YC,Yk,IA,CJ,Ya,show(3:Nat)<4611686018427387904 by decide,CT];congr 1;symm;rw[YB];intro d;have:=d.2.2.1;omega
theorem ZGI(x:ByteArray)(p:Nat)(f:p<x.size)(h:x.size<=1048576):ga x (p:Int) (Lk x p)=some (decide (B2 x p=0)):=by
 obtain⟨d1,d2⟩:=nr x p;have i:=ZP6 x p f h;have c:Lk x p=((Utf8.decode x p).1:Nat):=rfl;dsimp only[ga,lr,Az];by_cases e:Lk x p=65533
 ·have g:(0:Int)<=p/\(p:Int)<=x.size:=ae
  have b:p<=x.size:=ae
  simp only[e,Yn,Y9,J9,Bd.c,Bd.vl,YW,i,Y6,YK,Yq,g,b,C4,BZ,Yf];congr 1;rw[<-decide_not];refine decide_eq_decide.2 ⟨λd=>?_,λa=>(d1 a).2⟩;rcases TL (B2 x p)with a|a
  ·exact a
  ·exact absurd ((d2 ae).2 (by rw[c]at e;omega)) d
 ·have a:¬B2 x p=0:=λa=>e (by rw[c,(d1 a).1];rfl);simp only[e,YC,CJ,Yk,IA,Yq,a]
theorem xw(x:ByteArray)(h:x.size<=1048576):gg x=some (EQ x):=by
 have q:Ok (Sum.elim (λ_=>EQ x=true) (λr:Int=>0<=r/\EQ x=false)) (Aj (WW x) Ag 0):=by
  refine BC (λv:Nat=>EQ x=JJ x v) (λv:Nat=>x.size-v) (lU x) (AM ae) λv f=>?_;dsimp only[WW,br,wg,Ar,ln,Af,cl,br];by_cases d:v<x.size
  ·have b:=wR d;simp only[d,Yn,Yq,ZGI x v d h,Ya];by_cases c:B2 x v=0
   ·rw[Yi c]at b;simp only[c,Yn,Yq];exact⟨_,rfl,ae,by rw[f,b]⟩
   ·rw[Yh c]at b;have i:Ft x v=B2 x v:=((nr x v).2 c).1;simp only[c,YC,Yk,YE];refine⟨_,rfl,?_,?_⟩
    ·show EQ x=JJ x (v+Ft x v);rw[f,b,i]
    ·show x.size-(v+Ft x v)<x.size-v;omega
  ·simp only[d,YC,Yk,YE];exact⟨_,rfl,by rw[f,xK ae]⟩
 obtain⟨y,e,a⟩:=q;dsimp only[gg,lr,cl,wF,lr,lc];rw[e];cases y with
 |inl y=>
  have a:EQ x=true:=a;rw[a];rfl
 |inr r=>
  obtain⟨a1,g⟩:=a;rw[g];simp only[Ya,Sum.elim_inr];rw[show decide (r<0)=false by simpa using a1]
end Go.Proofs.YthcplkfhnnlafaaGreat
namespace Go.Proofs.YthcplkfhnnlafaaGreat
set_option linter.all false
open Go Go.Eng
def aj(c:Nat)(x:Val):Prop:=∀a,c<=a->Ok (λb=>b=true) (L7 a x x)
theorem aj.mono{c d:Nat}{x:Val}(h:aj c x)(k:c<=d):aj d x:=λa b=>h a (EF k b)
theorem Oi{n:Nat}(h:n<18446744073709551616):IntKind.u64.wrap (n:Int)=n:=by unfold IntKind.wrap;have:(IntKind.u64.bits)=64:=rfl;simp only[this,show IntKind.u64.signed=false from rfl,CJ,Yk,YE];omega
theorem OG(n:Nat):BitVec.ofInt 64 (n:Int)=BitVec.ofNat 64 n:=BitVec.ofInt_natCast ..
theorem gX{n m:Nat}(a:n<18446744073709551616)(hm:m<18446744073709551616):DK .u64 (n:Int) (m:Int)=((n&&&m:Nat):Int):=by
 unfold DK;have h:(BitVec.ofInt 64 (n:Int)&&&BitVec.ofInt 64 (m:Int)).toNat=n&&&m:=by rw[OG,OG,BitVec.toNat_and,PW,PW,LC a,LC hm]
 show IntKind.u64.wrap (((BitVec.ofInt 64 (n:Int)&&&BitVec.ofInt 64 (m:Int)).toNat:Nat):Int)=_;rw[h];exact Oi (Nat.lt_of_le_of_lt Nat.and_le_left a)
theorem ZDV{n m:Nat}(a:n<18446744073709551616)(hm:m<18446744073709551616):HG .u64 (n:Int) (m:Int)=((n|||m:Nat):Int):=by
 unfold HG;have h:(BitVec.ofInt 64 (n:Int)|||BitVec.ofInt 64 (m:Int)).toNat=n|||m:=by rw[OG,OG,BitVec.toNat_or,PW,PW,LC a,LC hm]
 show IntKind.u64.wrap (((BitVec.ofInt 64 (n:Int)|||BitVec.ofInt 64 (m:Int)).toNat:Nat):Int)=_;rw[h];exact Oi (Nat.or_lt_two_pow (n:=64) a hm)
theorem Zzq{n:Nat}(a:n<18446744073709551616):Kt .u64 (n:Int)=((18446744073709551615-n:Nat):Int):=by
 unfold Kt NI;have e:(if IntKind.u64.signed=true then(-1:Int)else IntKind.u64.max)=((18446744073709551615:Nat):Int):=rfl;rw[e];have h:(BitVec.ofInt 64 ((18446744073709551615:Nat):Int)^^^BitVec.ofInt 64 (n:Int)).toNat=18446744073709551615-n:=by rw[OG,OG,show BitVec.ofNat 64 18446744073709551615=BitVec.allOnes 64 from rfl,BitVec.allOnes_xor,BitVec.toNat_not,PW,LC a]
 show IntKind.u64.wrap (((BitVec.ofInt 64 ((18446744073709551615:Nat):Int)^^^BitVec.ofInt 64 (n:Int)).toNat:Nat):Int)=_;rw[h];exact Oi ae
theorem ZDL(n:Nat):n&&&9218868437227405312=(n/4503599627370496%2048)*4503599627370496:=by
 have e:(9218868437227405312:Nat)=2047<<<52:=rfl;have a:n/4503599627370496%2048*4503599627370496=((n>>>52)%2^11)<<<52:=by rw[Nat.shiftLeft_eq,Nat.shiftRight_eq_div_pow]
 rw[e,a];apply Nat.eq_of_testBit_eq;intro i;have b:(2047:Nat)=2^11-1:=rfl;rw[Nat.testBit_and,lF,lF,Nat.testBit_mod_two_pow,Nat.testBit_shiftRight,b,Nat.testBit_two_pow_sub_one];by_cases h:52<=i
 ·rw[show 52+(i-52)=i by omega];simp only[h,Yn,Y9];rw[Bool.and_comm]
 ·simp[h]
theorem Zyr(n:Nat):n&&&4503599627370495=n%4503599627370496:=Nat.and_two_pow_sub_one_eq_mod n 52
theorem Zx6{n:Nat}(b:n<18446744073709551616):n&&&9223372036854775808=if 9223372036854775808<=n then 9223372036854775808 else 0:=by
 have e:(9223372036854775808:Nat)=2^63:=rfl;have k:n.testBit 63=decide (9223372036854775808<=n):=by rw[Nat.testBit_eq_decide_div_mod_eq,decide_eq_decide];omega
 apply Nat.eq_of_testBit_eq;intro i;rw[Nat.testBit_and];by_cases hi:63=i
 ·subst hi;rw[k];by_cases h:9223372036854775808<=n
  ·simp[h]
  ·simp[h]
 ·have a:Nat.testBit 9223372036854775808 i=false:=by rw[e,Nat.testBit_two_pow];exact Yu hi
  rw[a,Gf];split
  ·exact a.symm
  ·simp
def Ib(n:Nat):Bool:=decide (9218868437227405312<n%9223372036854775808)
theorem ua{n:Nat}(e:n<18446744073709551616):Ok (λy:Int=>decide (y=0)=Ib n) (fH (n:Int)):=by
 have a:=gX e (m:=9218868437227405312) ae;have b:=gX e (m:=4503599627370495) ae;rw[ZDL]at a;rw[Zyr]at b;have a:DK .u64 (n:Int) 9218868437227405312=_:=a;have b:DK .u64 (n:Int) 4503599627370495=_:=b;dsimp only[fH,br,vz,lr,br];rw[a,b];unfold Ib;have f:(((n/4503599627370496%2048*4503599627370496:Nat):Int)=9218868437227405312)↔n/4503599627370496%2048=2047:=ae
 have g:(((n%4503599627370496:Nat):Int)=0)↔n%4503599627370496=0:=ae
 have h:9218868437227405312<n%9223372036854775808↔n/4503599627370496%2048=2047/\n%4503599627370496≠0:=ae
 simp only[f,g,h];by_cases c:n/4503599627370496%2048=2047
 ·by_cases d:n%4503599627370496=0
  ·simp only[c,d];exact AG (by decide)
  ·simp only[c,d];exact AG (by simp[d])
 ·have i:decide (n/4503599627370496%2048=2047)=false:=Yu c;simp only[i,c,CJ,DA,YC,Yk,YE];refine AR (λ_=>AG (by decide)) λ_=>AR (λ_=>AG (by decide)) λ_=>AG (by decide)
theorem tD{n:Nat}(b:n<18446744073709551616):Ok (λy:Int=>decide (y=0)=Ib n) (QA (n:Int)):=by
 have e:Kc .u64 (n:Int) 9223372036854775808=((n%9223372036854775808:Nat):Int):=by unfold Kc;rw[Int.tmod_eq_emod_of_nonneg ae];omega
 dsimp only[QA,br,lr,br,rem];rw[e];unfold Ib;have g:(9218868437227405312:Int)<((n%9223372036854775808:Nat):Int)↔9218868437227405312<n%9223372036854775808:=ae
 simp only[g];by_cases h:9218868437227405312<n%9223372036854775808
 ·simp only[h];first|exact AG (by decide)|simp
 ·have a:decide (9218868437227405312<n%9223372036854775808)=false:=Yu h;simp only[a,Yk,YE]
  first
   |refine AR (λ_=>AG (by decide)) λ_=>AR (λ_=>AG (by decide)) λ_=>AR (λ_=>AG (by decide)) λ_=>AG (by decide)
   |simp
def C3(n:Nat):Nat:=if Ib n=true then 18446744073709551615 else if 9223372036854775808<=n then 18446744073709551615-n else n+9223372036854775808
theorem Vd{n:Nat}(a:n<18446744073709551616):fF (n:Int)=some (C3 n:Int):=by
 obtain⟨y,e,h⟩:=ua a;have c:=gX a (m:=9223372036854775808) ae;rw[Zx6 a]at c;have c:DK .u64 (n:Int) 9223372036854775808=_:=c;have d:=Zzq a;have f:HG .u64 (n:Int) 9223372036854775808=((n|||9223372036854775808:Nat):Int):=ZDV a (m:=9223372036854775808) ae;dsimp only[fF,br,vz,lr,cl,br];rw[e,Ya,h,c,d,f];unfold C3;cases Ib n with
 |true=>rfl
 |false=>
  by_cases hs:9223372036854775808<=n
  ·simp[hs]
  ·have g:n|||9223372036854775808=n+9223372036854775808:=by
    have j:=Nat.two_pow_add_eq_or_of_lt (i:=63) (b:=n) ae 1;rw[Nat.or_comm];have k:9223372036854775808+n=9223372036854775808|||n:=j
    exact k.symm.trans (PL _ _)
   simp[hs,g]
theorem Vc{v:Val}{n:Nat}(i:n<18446744073709551616)(g:v.bits=(n:Int)):ew v=some (if v.kind=2\/v.kind=3 then IntKind.u64.wrap ((n:Int)+9223372036854775808)else if v.kind=6 then(C3 n:Int)else(n:Int)):=by
 obtain⟨y,e,h⟩:=tD i;dsimp only[ew,gK,br,vz,wg,lr,cl,br,u7,lr];rw[g];by_cases a:v.kind=2\/v.kind=3
 ·have b:(decide (v.kind=2)||decide (v.kind=3))=true:=by simpa using a
  simp only[b,a,Yq];rfl
 ·have b:(decide (v.kind=2)||decide (v.kind=3))=false:=by simpa using a
  simp only[b,a,Yk,YE];by_cases f:v.kind=6
  ·have j:=Oi (n:=18446744073709551615-n) ae;simp only[f,Yn,YQ,Yk,YE,e,Ya,h];unfold C3;cases Ib n with
   |true=>rfl
   |false=>
    by_cases hs:9223372036854775808<=n
    ·have c:(9223372036854775808:Int)<=(n:Int):=ae;have d:(18446744073709551615:Int)-(n:Int)=((18446744073709551615-n:Nat):Int):=ae;simp[hs,c,d,j]
    ·have c:¬(9223372036854775808:Int)<=(n:Int):=ae;have d:(n:Int)+9223372036854775808=((n+9223372036854775808:Nat):Int):=ae;have w2:=Oi (n:=n+9223372036854775808) ae;simp only[hs,c,d,w2,YC,Yk,YE,Yq]
  ·simp[f]
def Bv(a b:Int):Int:=if a<b then -1 else if b<a then 1 else 0
theorem MA(a b:Int):decide (Bv a b=0)=decide (a=b):=by
 unfold Bv;by_cases h:a<b
 ·rw[Yi h,Yu (by omega:¬a=b)];rfl
 ·rw[Yh h];by_cases c:b<a
  ·rw[Yi c,Yu (by omega:¬a=b)];rfl
  ·rw[Yh c,Yp (by omega:a=b)];rfl
theorem Ky(a b:Int):e9 a b=some (Bv a b):=by
 dsimp only[e9,br,lr,cl,br,vA,lr];unfold Bv;by_cases h:a<b
 ·simp[h]
 ·by_cases c:b<a<;>simp[h,c]
theorem Vi(a b:Int):fg a b=some (Bv a b):=by
 dsimp only[fg,br,lr,cl,br,vm,lr];unfold Bv;by_cases h:a<b
 ·simp[h]
 ·by_cases c:b<a<;>simp[h,c]
theorem ZTT(a b:Int):eU a b=some (Bv a b):=by
 dsimp only[eU,br,lr,br];unfold Bv;by_cases h:a<b
 ·simp[h]
 ·by_cases c:b<a<;>simp[h,c]
def ZG(d x:Val):Bool:=decide (d.kind=x.kind)&&(if d.kind=7\/d.kind=8 then decide (d.text=x.text)else if d.kind=6 then decide (C3 d.bits.toNat=C3 x.bits.toNat)else decide (d.bits=x.bits))
def EB(a b:ByteArray):Int:=if BB a b=true then -1 else if a=b then 0 else 1
theorem Zi(a b:ByteArray):decide (EB a b=0)=decide (a=b):=by
 unfold EB;by_cases h:a=b
 ·subst h;have:BB a a=false:=by unfold BB;rw[Go.Proofs.bytesLess_eq];exact Yu (List.lt_irrefl _)
  simp[this]
 ·cases BB a b<;>simp[h]
theorem th(a b:ByteArray):ff a b=some (EB a b):=by
 dsimp only[ff,br,lr,cl,br,vk,lr];unfold EB;cases h:BB a b with
 |true=>simp
 |false=>by_cases c:a=b<;>simp[c]
theorem ZSZ{d x:Val}(z:1<=d.kind/\d.kind<=9)(o:AN d)(p:AN x)(he:d.kind=x.kind):Ok (λc:Int=>decide (c=0)=(if d.kind=7\/d.kind=8 then decide (d.text=x.text)else if d.kind=6 then decide (C3 d.bits.toNat=C3 x.bits.toNat)else decide (d.bits=x.bits))) (V5 d x)/\Ok (λc:Int=>decide (c=0)=(if d.kind=7\/d.kind=8 then decide (d.text=x.text)else if d.kind=6 then decide (C3 d.bits.toNat=C3 x.bits.toNat)else decide (d.bits=x.bits))) (QO d x):=by
 obtain⟨n,m⟩:=az (O6 o).1;obtain⟨k,l⟩:=az (O6 p).1;have r:n<18446744073709551616:=by have:=(O6 o).2;omega
 have q:k<18446744073709551616:=by have:=(O6 p).2;omega
 have y:(decide (1<=d.kind)&&decide (d.kind<=9))=true:=by simp[z]
 obtain⟨E,f⟩:∃E,E=(if d.kind=7\/d.kind=8 then decide (d.text=x.text)else if d.kind=6 then decide (C3 d.bits.toNat=C3 x.bits.toNat)else decide (d.bits=x.bits)):=⟨_,rfl⟩;rw[<-f];have C:=Vc r m;have w:=Vc q l;rw[<-he]at w;have t:(decide (1<=x.kind)&&decide (x.kind<=9))=true:=by rw[<-he];exact y
 have B:¬d.kind<x.kind:=ae
 have A:¬x.kind<d.kind:=ae
 dsimp only[V5,br,vz,wg,lr,cl,br,N6,lr,QW,lr,QO,br,wg,lr,cl,br,L9,lr,L6,lr];simp only[he,Yn,YQ,Yk,YE,t,Ya,YC,Yq,Int.lt_irrefl];rw[<-he];by_cases s:d.kind=7\/d.kind=8
 ·have i:(decide (d.kind=7)||decide (d.kind=8))=true:=by simpa using s
  rw[Yi s]at f;simp only[i,Yq,Y9,th,Ya];refine⟨AG (by rw[f];exact Zi _ _),?_⟩;have e:(if BB d.text x.text=true then some (-1:Int)else if(!(BB d.text x.text||decide (d.text=x.text)))=true then some 1 else some 0)=some (EB d.text x.text):=by
   unfold EB;cases h:BB d.text x.text with
   |true=>simp
   |false=>by_cases u:d.text=x.text<;>simp[u]
  rw[e];exact AG (by rw[f];exact Zi _ _)
 ·have i:(decide (d.kind=7)||decide (d.kind=8))=false:=by simpa using s
  rw[Yh s]at f;simp only[i,Yk,YE,CJ,C,w,Ya];have D:∀a b:Int,(if decide (a<b)=true then some (-1:Int)else if decide (b<a)=true then some 1 else some 0)=some (Bv a b):=λa b=>by
   unfold Bv;by_cases h:a<b
   ·simp[h]
   ·by_cases u:b<a<;>simp[h,u]
  rw[D];by_cases hs:d.kind=2\/d.kind=3
  ·have g:(decide (d.kind=2)||decide (d.kind=3))=true:=(by simpa using hs);have j:¬d.kind=6:=ae;rw[Yh j]at f;simp only[g,hs,Yq,Ky,Ya];refine⟨AG (by rw[f,MA,decide_eq_decide,m,l,IntKind.wrap_i64,IntKind.wrap_i64];omega),AG (by rw[f,MA,decide_eq_decide,m,l];unfold IntKind.wrap;simp only[show IntKind.u64.bits=64 from rfl,show IntKind.u64.signed=false from rfl,CJ,Yk,YE];omega)⟩
  ·have g:(decide (d.kind=2)||decide (d.kind=3))=false:=(by simpa using hs);simp only[g,hs,Yk,YE];by_cases j:d.kind=6
   ·rw[Yi j]at f;have v:(C3 d.bits.toNat=C3 x.bits.toNat)↔((C3 n:Int)=(C3 k:Int)):=(by rw[m,l];simp only[YW];omega);simp only[j,Yn,Yq,m,l,Vd r,Vd q,Ya,Vi];exact⟨AG (by rw[f,MA,decide_eq_decide,v]),AG (by rw[f,MA,decide_eq_decide,v])⟩
   ·rw[Yh j]at f;simp only[j,YC,Yk,YE,Vi,Ya];exact⟨AG (by rw[f,MA]),AG (by rw[f,MA,decide_eq_decide,m,l])⟩
theorem ZT7{d x:Val}(f:1<=d.kind/\d.kind<=9)(b:AN d)(e:AN x):Oa d x=some (ZG d x):=by
 have g:(decide (1<=d.kind)&&decide (d.kind<=9))=true:=by simp[f]
 unfold ZG;by_cases he:d.kind=x.kind
 ·obtain⟨⟨c,h,i⟩,_⟩:=ZSZ f b e he;have a:(decide (1<=x.kind)&&decide (x.kind<=9))=true:=by rw[<-he];exact g
  dsimp only[Oa,wg,lr,cl,N5,br,wg,lr,cl,br,fq,wg,lr,cl,bT,N6,lr];simp only[he,Yn,YQ,Yk,YE,a,Yq,Ya,h,Y9];rw[i,he]
 ·dsimp only[Oa,wg,lr,cl,N5,br,wg,lr,cl,br];simp only[he,YC,YS,Yq,Ky,Ya,CJ,MA]
theorem s3{α ρ:Type}{B:Int×Int×List α->Option (Lv (Int×Int×List α) (Int×List α) ρ)}(l:List α)(p:α->Bool)
  (s:∀(i j:Nat) (r:List α) x,i<=j->r.length=l.length->r[j]?=some x->l[j]?=some x->B ((i:Int),(j:Int),r)=some (.nx (if p x then((i:Int),((j+1:Nat):Int),r)else(((i+1:Nat):Int),((j+1:Nat):Int),r.set i x))))
  (t:∀(i:Nat) r,B ((i:Int),(l.length:Int),r)=some (.ex ((i:Int),r))):
  ∀(k N i j:Nat) (r:List α),j+k=l.length->k<N->i<=j->r.length=l.length->r.take i=(l.take j).filter (λx=>!p x)->i=((l.take j).filter λx=>!p x).length->r.drop j=l.drop j->
  ∃(n:Nat) (o:List α),Aj B N ((i:Int),(j:Int),r)=some (.inl ((n:Int),o))/\o.take n=l.filter (λx=>!p x)/\n=(l.filter λx=>!p x).length/\o.length=l.length:=by
 intro k
 induction k with
 |zero=>
  intro N i j r u hN b c d hi e;obtain⟨N,rfl⟩:∃m,N=m+1:=⟨N-1,ae⟩;have:j=l.length:=ae
  subst this;rw[Ni]at d hi;exact⟨i,r,by rw[Aj,t],d,hi,c⟩
 |succ k q=>
  intro N i j r u hN b c d hi e;obtain⟨N,rfl⟩:∃m,N=m+1:=⟨N-1,ae⟩;have a:j<l.length:=ae
  have hl:l[j]?=some l[j]:=Ye a;have h:r[j]?=some l[j]:=by have:=congrArg (λz=>z[0]?) e;simpa[YZ,a]using this
  have e0:l.take (j+1)=l.take j++[l[j]]:=HR a;rw[Aj,s i j r l[j] b c h hl];cases f:p l[j]with
  |true=>
   refine q N i (j+1) r ae ae ae c ?_ ?_ ?_
   ·rw[e0,EH,d];simp[f]
   ·rw[e0,EH];simpa[f]using hi
   ·have:=congrArg (List.drop 1) e;simpa[PS]using this
  |false=>
   have g:i<r.length:=ae;refine q N (i+1) (j+1) (r.set i l[j]) ae ae ae (by rw[PQ];exact c) ?_ ?_ ?_
   ·rw[e0,EH,<-d,HR (by rw[PQ];exact g),List.take_set_of_le (Yf _),lx];simp[f]
   ·rw[e0,EH,Yt,<-hi];simp[f]
   ·rw[List.drop_set_of_lt ae];have:=congrArg (List.drop 1) e;simpa[PS]using this
theorem qi(l:List Slt)(f:Slt->Option Bool)(p:Slt->Bool)(d:∀x∈l,f x=some (p x))(h:l.length<4611686018427387904):QG l f=some (Do l p):=by
 unfold QG;simp only[al,EC,EE,br,ix,CB,vz,vy,vw,vs,vg,v2,lr,Ar,ln,Af,lc,lf,EW,ap,aq,a0,a1,ad,cl,cs,cf,wa,wi,ir,ca,cp,dd,mv,st,ss,sL,Bd.c,Bd.vl,sR,AD];rw[Ep l p (λi=>(i:Int)) () (hN:=AM h) (he:=by simp[WQ,al,EC,EE,br,ix,CB,vz,vy,vw,vs,vg,v2,lr,Ar,ln,Af,lc,lf,EW,ap,aq,a0,a1,ad,cl,cs,cf,wa,wi,ir,ca,cp,dd,mv,st,ss,sL,Bd.c,Bd.vl,sR,AD]) (hs:=by
  intro i y hy;obtain⟨a,rfl⟩:=Yb.1 hy;have b:i+1<9223372036854775808:=ae
  have c:=d l[i] (Yg hy);simp[WQ,al,EC,EE,br,ix,CB,vz,vy,vw,vs,vg,v2,lr,Ar,ln,Af,lc,lf,EW,ap,aq,a0,a1,ad,cl,cs,cf,wa,wi,ir,ca,cp,dd,mv,st,ss,sL,Bd.c,Bd.vl,sR,AD,a,b,c];cases p l[i]<;>rfl)]
 unfold Do;cases l.findIdx? _<;>rfl
theorem n41(l:List Slt)(f:Slt->Option Bool)(p:Slt->Bool)(g:∀x∈l,f x=some (p x))(h:l.length<549755813888):QT l f=some (l.filter λx=>!p x):=by
 have e0:=qi l f p g ae;unfold QT;dsimp only[vw,vs,vg,vz,cs,br,lr,lf,lc,wi];rw[e0,Ya];cases hi:l.findIdx? p with
 |none=>
  rw[show Do l p= -1 from by unfold Do;rw[hi]];rw[show l.filter (λx=>!p x)=l from TH.2 λx hx=>by rw[Nb.1 hi x hx];rfl];rfl
 |some i=>
  obtain⟨s,t,u⟩:=Nc.1 hi;rw[show Do l p=(i:Int)from by unfold Do;rw[hi]];have a:((i:Int)= -1)=False:=eq_false ae;have k: -9223372036854775808<=(i:Int)+1/\(i:Int)+1<9223372036854775808:=ae
  have w:(l.take i).filter (λx=>!p x)=l.take i:=TH.2 λx hx=>by obtain⟨j,G,rfl⟩:=ay.1 hx;rw[aK.2 (u j ae)];rfl
  have e:(l.take (i+1)).filter (λx=>!p x)=l.take i:=by rw[HR s,EH,w];simp[t]
  obtain⟨b,D,y,z,A,C⟩:=s3 (B:=Se l f) l p (λi j r x v H hx hl=>by have F:=(Yb.1 hl).1;have o:(j:Int)<(l.length:Int):=ae;have q:=g x (Yg hl);have E: -9223372036854775808<=(i:Int)+1/\(i:Int)+1<9223372036854775808:=ae;have w2: -9223372036854775808<=(j:Int)+1/\(j:Int)+1<9223372036854775808:=ae;have c:(0:Int)<=(j:Int):=ae;have d:(0:Int)<=(i:Int):=ae;have m:(i:Int)<(l.length:Int):=ae;have n:i<r.length:=ae;dsimp only[Se,al,EC,EE,br,ix,CB,vz,vy,vw,vs,vg,v2,lr,Ar,ln,Af,lc,lf,EW,ap,aq,a0,a1,ad,cl,cs,cf,wa,wi,ir,ca,cp,dd,mv,st,ss,sL,Bd.c,Bd.vl,sR,AD,Pk,Pm,Pi,Pn,rb,cr,Ls,ch];simp only[B3,AD,o,q,E,w2,c,d,m,n,hx,BZ,II,C4,Yn,Yq,YW,Ya];cases p x<;>simp)
   (λi r=>by dsimp only[Se,al,EC,EE,br,ix,CB,vz,vy,vw,vs,vg,v2,lr,Ar,ln,Af,lc,lf,EW,ap,aq,a0,a1,ad,cl,cs,cf,wa,wi,ir,ca,cp,dd,mv,st,ss,sL,Bd.c,Bd.vl,sR,AD,Pk,Pm,Pi,Pn,rb,cr,Ls,ch];simp)
   (l.length-(i+1)) Ag i (i+1) l ae (AM ae) ae rfl e.symm (by rw[e,Yz];omega) rfl
  rw[show((i:Int)+1)=((i+1:Nat):Int)from rfl]at k⊢;simp only[a,k,y,YC,Yn,Yk,BZ,Yq,YE,Ya,Cr];have c:b<=l.length:=by rw[A];exact ID _ _
  have d:(b:Int)=((D.take b).length:Int):=by rw[Yz];omega
  simp[z,C,al,EC,EE,br,ix,CB,vz,vy,vw,vs,vg,v2,lr,Ar,ln,Af,lc,lf,EW,ap,aq,a0,a1,ad,cl,cs,cf,wa,wi,ir,ca,cp,dd,mv,st,ss,sL,Bd.c,Bd.vl,sR,AD,Pk,Pm,Pi,Pn,rb,cr,Ls,ch];omega
theorem zX(l:List Fld)(h:l.length<549755813888):VP l=some l:=by unfold VP;simp only[al,EC,EE,br,ix,CB,vz,vy,vw,vs,vg,v2,lr,Ar,ln,Af,lc,lf,EW,ap,aq,a0,a1,ad,cl,cs,cf,wa,wi,ir,ca,cp,dd,mv,st,ss,sL,Bd.c,Bd.vl,sR,AD,Yk,YE,h,Yq]
theorem ZQA(l:List Fld)(f:Fld->Option Bool)(p:Fld->Bool)(d:∀x∈l,f x=some (p x))(h:l.length<4611686018427387904):Vv l f=some (Do l p):=by
 unfold Vv;simp only[al,EC,EE,br,ix,CB,vz,vy,vw,vs,vg,v2,lr,Ar,ln,Af,lc,lf,EW,ap,aq,a0,a1,ad,cl,cs,cf,wa,wi,ir,ca,cp,dd,mv,st,ss,sL,Bd.c,Bd.vl,sR,AD];rw[Ep l p (λi=>(i:Int)) () (hN:=AM h) (he:=by simp[WS,al,EC,EE,br,ix,CB,vz,vy,vw,vs,vg,v2,lr,Ar,ln,Af,lc,lf,EW,ap,aq,a0,a1,ad,cl,cs,cf,wa,wi,ir,ca,cp,dd,mv,st,ss,sL,Bd.c,Bd.vl,sR,AD]) (hs:=by
  intro i y hy;obtain⟨a,rfl⟩:=Yb.1 hy;have b:i+1<9223372036854775808:=ae
  have c:=d l[i] (Yg hy);simp[WS,al,EC,EE,br,ix,CB,vz,vy,vw,vs,vg,v2,lr,Ar,ln,Af,lc,lf,EW,ap,aq,a0,a1,ad,cl,cs,cf,wa,wi,ir,ca,cp,dd,mv,st,ss,sL,Bd.c,Bd.vl,sR,AD,a,b,c];cases p l[i]<;>rfl)]
 unfold Do;cases l.findIdx? _<;>rfl
theorem zW(l:List Fld)(f:Fld->Option Bool)(p:Fld->Bool)(g:∀x∈l,f x=some (p x))(h:l.length<549755813888):Vt l f=some (l.filter λx=>!p x):=by
 have e0:=ZQA l f p g ae;unfold Vt;dsimp only[vw,vs,vg,vz,cs,br,lr,lf,lc,wi];rw[e0,Ya];cases hi:l.findIdx? p with
 |none=>
  rw[show Do l p= -1 from by unfold Do;rw[hi]];rw[show l.filter (λx=>!p x)=l from TH.2 λx hx=>by rw[Nb.1 hi x hx];rfl];rfl
 |some i=>
  obtain⟨s,t,u⟩:=Nc.1 hi;rw[show Do l p=(i:Int)from by unfold Do;rw[hi]];have a:((i:Int)= -1)=False:=eq_false ae;have k: -9223372036854775808<=(i:Int)+1/\(i:Int)+1<9223372036854775808:=ae
  have w:(l.take i).filter (λx=>!p x)=l.take i:=TH.2 λx hx=>by obtain⟨j,G,rfl⟩:=ay.1 hx;rw[aK.2 (u j ae)];rfl
  have e:(l.take (i+1)).filter (λx=>!p x)=l.take i:=by rw[HR s,EH,w];simp[t]
  obtain⟨b,D,y,z,A,C⟩:=s3 (B:=Sd l f) l p (λi j r x v H hx hl=>by have F:=(Yb.1 hl).1;have o:(j:Int)<(l.length:Int):=ae;have q:=g x (Yg hl);have E: -9223372036854775808<=(i:Int)+1/\(i:Int)+1<9223372036854775808:=ae;have w2: -9223372036854775808<=(j:Int)+1/\(j:Int)+1<9223372036854775808:=ae;have c:(0:Int)<=(j:Int):=ae;have d:(0:Int)<=(i:Int):=ae;have m:(i:Int)<(l.length:Int):=ae;have n:i<r.length:=ae;dsimp only[Sd,al,EC,EE,br,ix,CB,vz,vy,vw,vs,vg,v2,lr,Ar,ln,Af,lc,lf,EW,ap,aq,a0,a1,ad,cl,cs,cf,wa,wi,ir,ca,cp,dd,mv,st,ss,sL,Bd.c,Bd.vl,sR,AD,Pk,Pm,Pi,Pn,rb,cr,Ls,ch];simp only[B3,AD,o,q,E,w2,c,d,m,n,hx,BZ,II,C4,Yn,Yq,YW,Ya];cases p x<;>simp)
   (λi r=>by dsimp only[Sd,al,EC,EE,br,ix,CB,vz,vy,vw,vs,vg,v2,lr,Ar,ln,Af,lc,lf,EW,ap,aq,a0,a1,ad,cl,cs,cf,wa,wi,ir,ca,cp,dd,mv,st,ss,sL,Bd.c,Bd.vl,sR,AD,Pk,Pm,Pi,Pn,rb,cr,Ls,ch];simp)
   (l.length-(i+1)) Ag i (i+1) l ae (AM ae) ae rfl e.symm (by rw[e,Yz];omega) rfl
  rw[show((i:Int)+1)=((i+1:Nat):Int)from rfl]at k⊢;simp only[a,k,y,YC,Yn,Yk,BZ,Yq,YE,Ya,Cr];have c:b<=l.length:=by rw[A];exact ID _ _
  have d:(b:Int)=((D.take b).length:Int):=by rw[Yz];omega
  simp[z,C,al,EC,EE,br,ix,CB,vz,vy,vw,vs,vg,v2,lr,Ar,ln,Af,lc,lf,EW,ap,aq,a0,a1,ad,cl,cs,cf,wa,wi,ir,ca,cp,dd,mv,st,ss,sL,Bd.c,Bd.vl,sR,AD,Pk,Pm,Pi,Pn,rb,cr,Ls,ch];omega
theorem m29(m:Msg)(u:ByteArray)(h:m.fields.length<=1048576)(a:u≠⟨#[]⟩):N7 m u=some (m.fields.filter λf=>decide (f.union=u)):=by dsimp only[N7,br,vz,wg,lr,lc,fl,fr,br];rw[zX _ ae,Ya,zW _ (λz=>QX z u) (λf=>!decide (f.union=u)) (λx _=>rfl) ae];simp[a]
theorem ZTo(m:Msg):N7 m ⟨#[]⟩=some []:=rfl
theorem ii{v:Val}(h:SzV v):eA v=some (BF v):=by
 obtain⟨t1,t2,t3,t4,t5⟩:=h;have e:v.list.length<4611686018427387904:=ae
 have f:v.pairs.length<4611686018427387904:=ae
 have g:v.slots.length<4611686018427387904:=ae
 have i:v.raws.length<4611686018427387904:=ae
 have key:∀a b c:Bool,(if a=true then some true else if b=true then some true else some c)=some (a||b||c):=λa b c=>by cases a<;>cases b<;>rfl
 dsimp only[eA,br,vz,vy,wg,lr,Ah,br];rw[key];congr 1;unfold BF;rw[Nl];by_cases d:v.text=⟨#[]⟩<;>simp only[d,Yn,YC,YG,Yc,YM,Yr,YB,YQ,YS,CJ,Y9,ne_eq,IG,G2,DA,C4,Nd,Yk,or_false,Nm,IF]<;>omega
theorem jE{v:Val}(h:SzV v):fD v=some (BF v):=by
 obtain⟨t1,t2,t3,t4,t5⟩:=h;have b:v.list.length<4611686018427387904:=ae
 have c:v.pairs.length<4611686018427387904:=ae
 have d:v.slots.length<4611686018427387904:=ae
 have e:v.raws.length<4611686018427387904:=ae
 have f:v.slots.length+v.raws.length<9223372036854775808:=ae
 dsimp only[fD,vy,wg,vg,lr,wa,Ah];simp only[b,c,d,e,f,CT,Yq];congr 1;unfold BF;rw[Nl];by_cases a:v.text=⟨#[]⟩<;>simp only[a,Yn,YC,YG,Yc,YM,Yr,YB,YQ,YS,CJ,Y9,ne_eq,IG,G2,DA,C4,Nd,Yk,or_false,Nm,IF]<;>omega
theorem nT{v:Val}(h:SzV v):QH v=some (Fp v):=by
 obtain⟨t1,t2,t3,t4,t5⟩:=h;have a:v.list.length<4611686018427387904:=ae
 have b:v.pairs.length<4611686018427387904:=ae
 have c:v.slots.length<4611686018427387904:=ae
 have d:v.raws.length<4611686018427387904:=ae
 dsimp only[QH,vz,vy,wg,lr,Ah];congr 1;unfold Fp;rw[Nl];simp only[Yc,Yr];omega
theorem ZKo(n:Int):L6 n=some (DN n):=by dsimp only[L6,lr];unfold DN;rw[Bool.decide_or]
theorem ZMB(n:Int):QW n=some (DN n):=by dsimp only[QW,lr];unfold DN;rw[Bool.decide_or]
theorem mq{v:Val}(h:SzV v):ft v=some (Fp v&&(if DN v.kind=true then decide (v.bits=0)else decide (v.text=⟨#[]⟩))):=by
 obtain⟨t1,t2,t3,t4,t5⟩:=h;have a:v.list.length<4611686018427387904:=ae
 have b:v.pairs.length<4611686018427387904:=ae
 have c:v.slots.length<4611686018427387904:=ae
 have d:v.raws.length<4611686018427387904:=ae
 have e:v.list.length+v.pairs.length<9223372036854775808:=ae
 have f:v.list.length+v.pairs.length+v.slots.length<9223372036854775808:=ae
 have g:v.list.length+v.pairs.length+v.slots.length+v.raws.length<9223372036854775808:=ae
 have hl:decide ((0:Int)<((v.list.length+v.pairs.length+v.slots.length+v.raws.length:Nat):Int))=!Fp v:=by unfold Fp;rw[<-decide_not];refine decide_eq_decide.2 ?_;omega
 dsimp only[ft,br,vz,wg,vs,lr,cl,wa,Ah,br];simp only[a,b,c,d,e,f,g,Yq];rw[hl,ZMB,Ya];cases Fp v<;>cases DN v.kind<;>rfl
theorem Zxo(n b:Int):fk n b=some (Jr n b):=by
 unfold Jr;dsimp only[fk,br,vz,vy,lr,br];by_cases a:n=1
 ·subst a;rfl
 by_cases c:n=2
 ·subst c;simp only[Yn,YC,Yq,YE,CT,show¬(2:Int)=1 by decide,Yk];rw[PR]
 by_cases e:n=9
 ·subst e;rfl
 by_cases d:n=4
 ·subst d;rfl
 simp only[a,c,d,e,YC,Yk,YE]
theorem ZJL(n b:Int)(h:1<=n/\n<=9)(d:DN n=false):(if decide (n=1)=true then some (decide (b<=1))else if decide (n=2)=true then some (decide (-2147483648<=IntKind.i64.wrap b)&&decide (IntKind.i64.wrap b<=2147483647))else if decide (n=4)=true then some (decide (b<4294967296))else if decide (n=9)=true then some (decide (b<2147483648))else some true)=some (Jr n b):=by
 unfold Jr;have a:decide (b<4294967296)=decide (b<=4294967295):=decide_eq_decide.2 ae;have c:decide (b<2147483648)=decide (b<=2147483647):=decide_eq_decide.2 ae;rw[a,c];simp only[Yr,PR]
 repeat' (first|rfl|split)
theorem ZHI(n:Int){v:Val}(h:SzV v):KH n v=some (F2 n v):=by
 have f:=h.t;have j:v.text.size<4611686018427387904:=ae
 have g:L9 n=some (decide (1<=n)&&decide (n<=9)):=rfl;have k:∀x y z:Bool,(if((x&&y)&&!z)=true then True else True)=True:=λx y z=>by split<;>rfl
 dsimp only[KH,br,vz,vy,wg,lr,cl,Az,A3,br];rw[g,nT h,ZKo,Zvi _ f,Ya];unfold F2;by_cases c:1<=n/\n<=9/\v.kind=n
 ·obtain⟨a,b,d⟩:=c;simp only[a,b,d,BZ,Yn,Iz,YQ,LF,G4,YS,J9,Y6,YK,Yq,Ya,CT,j,Y9];cases hl:Fp v with
  |false=>rfl
  |true=>
   cases i:DN n with
   |true=>
    simp only[YQ,Yk,YE,Yq,Y9];rw[PR];congr 3;exact decide_eq_decide.2 ae
   |false=>
    simp only[YQ,Yk,YE,Y9];by_cases hx:v.text=⟨#[]⟩
    ·simp only[hx,Yn,YQ,Yk,YE,Y9];exact ZJL n v.bits ⟨a,b⟩ i
    ·simp only[hx,YC,YS,Yq,CJ]
 ·have e:((!(decide (1<=n)&&decide (n<=9)))||!decide (v.kind=n))=true:=by simp only[YG,YM,IC,YB];omega
  simp only[e,c,YC,CJ,YQ,Yk,IA,Yq,HN]
theorem ZKP(n:Int){v:Val}(h:SzV v):fE n v=some (F2 n v):=by
 have j:=h.t;have o:v.text.size<4611686018427387904:=ae
 have l:N6 n=some (decide (1<=n)&&decide (n<=9)):=rfl;dsimp only[fE,br,vy,wg,lr,cl,Az,A3,br];rw[l,mq h,Zxo,xw _ j,Ya];unfold F2;by_cases c:1<=n/\n<=9/\v.kind=n
 ·obtain⟨f,g,i⟩:=c;simp only[f,g,i,BZ,Yn,Iz,YQ,LF,G4,YS,J9,Y6,YK,Yq,Ya,CT,o,Y9];cases hl:Fp v with
  |false=>rfl
  |true=>
   cases b:DN n with
   |true=>
    have m:Jr n v.bits=true:=(by unfold DN at b;rw[Yr]at b;unfold Jr;rw[Yh ae,Yh ae,Yh ae,Yh ae]);rw[m];by_cases d:v.bits=0
    ·by_cases hs:v.text.size<=4096
     ·have a:¬(4096:Int)<v.text.size:=ae;unfold DN at b;rw[Yr]at b;simp only[d,hs,a,Yn,YC,BZ,YQ,LF,Yk,YE,Yq,Y9,Iz,YS];congr 2;rw[<-decide_not];exact decide_eq_decide.2 ae
     ·have a:(4096:Int)<v.text.size:=ae;simp only[hs,a,Yn,YC,Gj,PN,Yq,CJ,Gf]
    ·simp only[d,YC,Gf,YS,HN,PN,Yq,DA,CJ,Y9]
   |false=>
    have hs:v.text=⟨#[]⟩->¬(4096:Int)<v.text.size:=λe=>by rw[e];decide
    have k:¬n=7:=(by unfold DN at b;rw[YB]at b;omega);by_cases hx:v.text=⟨#[]⟩
    ·have hs:=hs hx;simp only[hx,hs,k,Yn,YC,YQ,YS,Yk,YE,Y9,J7,G4,HN,Nd];rw[hx]at hs;simp only[hs,YC,Nd];cases Jr n v.bits<;>rfl
    ·simp only[hx,YC,YS,HN,Yq,CJ,Gf,Yk,YE,YQ,PN,Y9]
 ·have e:((!(decide (1<=n)&&decide (n<=9)))||!decide (v.kind=n))=true:=by simp only[YG,YM,IC,YB];omega
  simp only[e,c,YC,CJ,YQ,Yk,IA,Yq,HN]
theorem o4(n:Int){v:Val}(h:SzV v):eP n v=some (CA n v):=by
 have f:=h.t;have d:v.text.size<4611686018427387904:=ae
 dsimp only[eP,br,vz,wg,lr,cl,Az,A3,br];rw[ii h,ZHI n h,Ya];unfold CA;by_cases c:v.kind=n
 ·cases g:BF v with
  |true=>simp[c]
  |false=>
   by_cases b:4096<v.text.size
   ·have a:(4096:Int)<v.text.size:=ae;simp[c,d,b,a]
   ·have a:¬(4096:Int)<v.text.size:=ae;cases F2 n v with
    |true=>simp[c,d,b,a]
    |false=>
     by_cases e:n=7
     ·simp[c,d,b,a,e]
     ·simp[c,d,b,a,e]
 ·simp[c]
theorem gT{n:Int}{v:Val}(d:1<=n)(e:n<=9)(f:v.kind=n)(b:BF v=false):Fp v=true/\(DN n=true->v.bits=0)/\(DN n=false->v.text=⟨#[]⟩):=by
 unfold BF at b;rw[YB]at b;simp only[not_or,Classical.not_and_iff_not_or_not,Classical.not_not,ne_eq]at b;obtain⟨a1,c,a3,a4,a⟩:=b;unfold Fp DN;rw[Yr,Yr,YB];refine⟨ae,λh=>?_,λh=>?_⟩
 ·rcases a with a|a
  ·exact a
  ·omega
 ·rcases a4 with a4|a4
  ·exact a4
  ·omega
def Nq(s:Scm)(t:Typ)(v:Val):Int:=if CA t.kind v≠0\/t.kind≠9 then CA t.kind v else if(Cg s t.name).1.opn=false/\GZ (Cg s t.name).1 v.bits=false then 16 else 0
theorem m9(s:Scm)(n:ByteArray)(h:s.enums.length<=1048576):gj s n=some (Cg s n):=by
 have c:=Ep (B:=RX s.enums λz=>QV z n) (N:=Ag) s.enums (λe=>decide (e.name=n)) (λi=>(s.enums.getD i default,true)) () (λi x hx=>by
  have a:=A5 hx;have d:=(Yb.1 hx).1;have b:i+1<9223372036854775808:=ae
  have e:QV x n=some (decide (x.name=n)):=rfl;dsimp only[RX,br,ix,wg,vs,Ar,ln,Af,cf,wa,br];simp only[a,b,hx,e,Yn,Yq,Ya,Yj,YK];cases decide (x.name=n)<;>simp) (by simp[RX,br,ix,wg,vs,Ar,ln,Af,cf,wa,br]) (AM ae)
 dsimp only[gj,wg,lr,cs,fm,vz,wg,lr,lc,Ah];unfold Cg;rw[c,Ou];cases s.enums.findIdx? λm=>decide (m.name=n)<;>rfl
theorem og(s:Scm)(n:ByteArray)(h:s.enums.length<=1048576):ey s n=some (Cg s n):=by
 have d:=Ep (B:=RT s n) (N:=Ag) s.enums (λe=>decide (e.name=n)) (λi=>(s.enums.getD i default,true)) () (λi x hx=>by
  have a:=A5 hx;have f:=(Yb.1 hx).1;have b:i+1<9223372036854775808:=ae
  have c:s.enums.length<4611686018427387904:=ae
  dsimp only[RT,br,ix,vz,wg,vs,Ar,ln,Af,wa,Ah,br];simp only[a,b,c,hx,Yn,Yq,Ya,Yj,YK];cases decide (x.name=n)<;>simp) (by simp[RT,br,ix,vz,wg,vs,Ar,ln,Af,wa,Ah,br]) (AM ae)
 dsimp only[ey,wg,lr,lc];unfold Cg;rw[d,Ou];cases s.enums.findIdx? λm=>decide (m.name=n)<;>rfl
theorem WM{s:Scm}(h:SzS s)(n:ByteArray):(Cg s n).1.items.length<=1048576:=by
 unfold Cg Dt;cases e:s.enums.find? λm=>decide (m.name=n)with
 |none=>decide
 |some m=>exact(h.e m (J5 e)).il
theorem x0{s:Scm}(hs:An (Al s)<=1048576)(n:ByteArray):∀x∈(Cg s n).1.items,-9223372036854775808<=x.num:=by
 unfold Cg Dt;cases e:s.enums.find? λm=>decide (m.name=n)with
 |none=>intro x hx;cases hx
 |some m=>
  intro x hx;have a:=Dr (e:=BN) (J5 e);have b:=Dr (e:=CW) (show x∈m.items from hx);simp only[Al,An,bk]at hs;simp only[BN,An,bk]at a;simp only[CW,An,bk]at b;have:=se (k:=.i64) (n:=x.num) ae;exact this.1
theorem nC(e:Enm)(b:Int)(h:e.items.length<=1048576)(k:∀x∈e.items,-9223372036854775808<=x.num)(p:b<9223372036854775808):QL e b=some (GZ e b):=by
 have j:e.items.length<4611686018427387904:=ae
 have m:=Ep (B:=RU e b) (N:=Ag) e.items (λx=>decide (IntKind.u64.wrap x.num=b)) (λ_=>true) () (λi x hx=>by
  have a:=A5 hx;have n:=(Yb.1 hx).1;have d:i+1<9223372036854775808:=ae
  have o:=k x (Yg hx);have f:e.items.getD (i:Int).toNat Rw.z=x:=by rw[YW,Yj,hx];rfl
  have g:(0:Int)<=i/\(i:Int)<e.items.length:=⟨ae,a⟩;have key:(decide ((0:Int)<=x.num)&&decide (IntKind.u64.wrap x.num=b))=decide (IntKind.u64.wrap x.num=b):=by
   by_cases c:(0:Int)<=x.num
   ·rw[Yp c,Y9]
   ·have l:IntKind.u64.wrap x.num=x.num%18446744073709551616:=rfl;rw[Yu c,CJ];symm;rw[YB,l];omega
  dsimp only[RU,br,ix,AZ,vz,vy,wg,vs,Ar,ln,Af,wa,Ah,br];simp only[j,a,d,f,g,hx,Yn,Yq,Ya,BZ,CT,key];cases decide (IntKind.u64.wrap x.num=b)<;>simp) (by simp[RU,br,ix,AZ,vz,vy,wg,vs,Ar,ln,Af,wa,Ah,br]) (AM ae)
 dsimp only[QL,lr,lc];unfold GZ;rw[m,<-LB];cases e.items.findIdx? λx=>decide (IntKind.u64.wrap x.num=b)<;>rfl
theorem ZwX(l:List Itm)(f:Itm->Option Bool)(p:Itm->Bool)(d:∀x∈l,f x=some (p x))(h:l.length<=1048576):Vu l f=some (l.any p):=by
 have e:=Ep (B:=RV l f) (N:=Ag) l p (λi=>(i:Int)) () (λi x hx=>by
  have a:=A5 hx;have g:=(Yb.1 hx).1;have b:i+1<9223372036854775808:=ae
  have c:=d x (Yg hx);dsimp only[RV,br,ix,vs,Ar,ln,Af,cf,wa,br];simp only[a,b,c,hx,Yn,Yq,Ya];cases p x<;>simp) (by simp[RV,br,ix,vs,Ar,ln,Af,cf,wa,br]) (AM ae)
 dsimp only[Vu,lr,cs,fs,vz,lr,lc,Ah];rw[e,<-LB];cases l.findIdx? p with
 |none=>rfl
 |some i=>simp
theorem wW(e:Enm)(b:Int)(h:e.items.length<=1048576):fj e b=some (e.opn||GZ e b):=by dsimp only[fj,wg,lr,C1];rw[ZwX e.items (λz=>VE z b) (λx=>decide (IntKind.u64.wrap x.num=b)) (λx _=>rfl) h];unfold GZ;cases e.opn<;>simp
theorem ZT2{v:Val}(c:v.kind=7)(d:BF v=false)(b:¬4096<v.text.size):F2 7 v=EQ v.text:=by
 obtain⟨a1,a,a3⟩:=gT (n:=7) (by decide) (by decide) c d;have a:=a (by decide);unfold F2;rw[a1,show DN 7=true by decide,c,a];have b:v.text.size<=4096:=ae
 simp[b]
theorem nc(s:Scm)(t:Typ){v:Val}(hs:SzS s)(h:SzV v):ge s t v=some (Nq s t v):=by
 have i:=h.t;have d:v.text.size<4611686018427387904:=ae
 dsimp only[ge,br,vz,wg,lr,cl,Az,A3,br];rw[jE h,xw _ i,ZKP t.kind h,m9 s _ hs.el,Ya,Ya,wW _ _ (WM hs _)];unfold Nq CA;by_cases c:v.kind=t.kind
 ·cases j:BF v with
  |true=>simp[c]
  |false=>
   by_cases a:4096<v.text.size
   ·have b:(4096:Int)<v.text.size:=ae;simp[c,d,a,b]
   ·have b:¬(4096:Int)<v.text.size:=ae;by_cases e:t.kind=7
    ·have g:=ZT2 (c.trans e) j a;rw[e]at c⊢;rw[g];cases EQ v.text with
     |false=>simp[c,d,a,b]
     |true=>simp[c,d,a,b]
    ·cases F2 t.kind v with
     |false=>simp[c,d,a,b,e]
     |true=>
      by_cases f:t.kind=9
      ·simp[c,d,a,b,e,f];cases(Cg s t.name).1.opn<;>cases GZ (Cg s t.name).1 v.bits<;>simp
      ·simp[c,d,a,b,e,f]
 ·simp[c]
end Go.Proofs.YthcplkfhnnlafaaGreat
