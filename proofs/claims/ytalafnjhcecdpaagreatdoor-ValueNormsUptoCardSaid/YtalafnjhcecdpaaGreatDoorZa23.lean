import Derived.Test.YtalafnjhcecdpaaGreatDoorZa22
import Derived.Sort.Walk0
import Derived.Test.YtalafnjhcecdpaaGreatDoorZa00
namespace Go.Proofs.YtalafnjhcecdpaaGreatDoor
set_option linter.all false
open Go Go.Eng
def BT{α:Type}(f:Nat->α->Int):List α->Nat->Int
 |[],_=>0
 |x::l,i=>if f i x=0 then BT f l (i+1)else f i x
theorem NK{α:Type}(f:Nat->α->Int):∀(l:List α) (i:Nat),BT f l i=0↔∀(j:Nat) (x:α),l[j]?=some x->f (i+j) x=0
 |[],i=>by simp[BT]
 |x::l,i=>by
  unfold BT;have a:=NK f l (i+1);by_cases h:f i x=0
  ·rw[Ym h,a];constructor
   ·intro k j y hy;cases j with
    |zero=>cases hy;exact h
    |succ j=>have:=k j y hy;rw[show i+(j+1)=i+1+j by omega];exact this
   ·intro k j y hy;have:=k (j+1) y hy;rw[show i+(j+1)=i+1+j by omega]at this;exact this
  ·rw[Yk h];exact⟨λe=>absurd e h,λk=>k 0 x rfl⟩
theorem Ho{α ξ ρ:Type}{B:Nat->Option (Lv Nat ξ ρ)}{N:Nat}(l:List α)(f:Nat->α->Int)(r:Int->ρ)(e:ξ)
  (hs:∀(i:Nat) (x:α),l[i]?=some x->(∀(j:Nat) (y:α),j<i->l[j]?=some y->f j y=0)->B i=some (if f i x=0 then .nx (i+1)else .rt (r (f i x))))
  (he:B l.length=some (.ex e)) (hN:l.length<N):Aj B N 0=some (if BT f l 0=0 then .inl e else .inr (r (BT f l 0))):=by
 suffices H:∀k i N,i+k=l.length->(∀(j:Nat) (y:α),j<i->l[j]?=some y->f j y=0)->k<N->Aj B N i=some (if BT f (l.drop i) i=0 then .inl e else .inr (r (BT f (l.drop i) i)))by have:=H l.length 0 N ae (λj y c=>absurd c ae) hN;rwa [Hh]at this
 intro k
 induction k with
 |zero=>
  intro i N hi _ hN;obtain⟨N,rfl⟩:∃m,N=m+1:=⟨N-1,ae⟩;have:i=l.length:=ae
  subst this;rw[Aj,he,R7];rfl
 |succ k d=>
  intro i N hi b hN;obtain⟨N,rfl⟩:∃m,N=m+1:=⟨N-1,ae⟩;have a:i<l.length:=ae
  rw[Aj,hs i l[i] (Yd a) b,H7 a,BT];by_cases h:f i l[i]=0
  ·rw[Ym h,Ym h];refine d (i+1) N ae (λj y c hy=>?_) ae;by_cases e:j=i
   ·subst e;rw[Yd a]at hy;cases hy;exact h
   ·exact b j y ae hy
  ·rw[Yk h,Yk h,Yk h]
def BO(v:Val):Bool:=decide ((v.kind≠11/\0<v.list.length)\/(v.kind≠12/\0<v.pairs.length)\/(v.kind≠10/\(0<v.slots.length\/0<v.raws.length))\/(v.text≠⟨#[]⟩/\¬(v.kind=7\/v.kind=8))\/(v.bits≠0/\(v.kind=7\/v.kind=8\/v.kind=10\/v.kind=11\/v.kind=12)))
def Ct(x:ByteArray)(p:Nat)(lo hi:Nat):Bool:=decide (p<x.size)&&decide (lo<=(x.get! p).toNat)&&decide ((x.get! p).toNat<=hi)
def BV(x:ByteArray)(p:Nat):Nat:=
 let b:=(x.get! p).toNat
 if b<0x80 then 1
 else if 0xc2<=b/\b<=0xdf/\Ct x (p+1) 0x80 0xbf=true then 2
 else if b=0xe0/\Ct x (p+1) 0xa0 0xbf=true/\Ct x (p+2) 0x80 0xbf=true then 3
 else if b=0xed/\Ct x (p+1) 0x80 0x9f=true/\Ct x (p+2) 0x80 0xbf=true then 3
 else if 0xe1<=b/\b<=0xef/\b≠0xed/\Ct x (p+1) 0x80 0xbf=true/\Ct x (p+2) 0x80 0xbf=true then 3
 else if b=0xf0/\Ct x (p+1) 0x90 0xbf=true/\Ct x (p+2) 0x80 0xbf=true/\Ct x (p+3) 0x80 0xbf=true then 4
 else if 0xf1<=b/\b<=0xf3/\Ct x (p+1) 0x80 0xbf=true/\Ct x (p+2) 0x80 0xbf=true/\Ct x (p+3) 0x80 0xbf=true then 4
 else if b=0xf4/\Ct x (p+1) 0x80 0x8f=true/\Ct x (p+2) 0x80 0xbf=true/\Ct x (p+3) 0x80 0xbf=true then 4
 else 0
def Gf(x:ByteArray):Nat->Nat->Bool
 |0,_=>true
 |n+1,p=>if p<x.size then(if BV x p=0 then false else Gf x n (p+BV x p))else true
def Er(x:ByteArray):Bool:=Gf x (x.size+1) 0
def IR(n b:Int):Bool:=if n=1 then decide (b<=1)else if n=2 then decide (-2147483648<=IntKind.i64.wrap b/\IntKind.i64.wrap b<=2147483647)else if n=4 then decide (b<=4294967295)else if n=9 then decide (b<=2147483647)else true
def EQ(v:Val):Bool:=decide (v.list.length=0/\v.pairs.length=0/\v.slots.length=0/\v.raws.length=0)
def Dw(n:Int):Bool:=decide (n=7\/n=8)
def Fr(n:Int)(v:Val):Bool:=decide (1<=n/\n<=9/\v.kind=n)&&EQ v&&(if Dw n then decide (v.bits=0/\v.text.size<=4096)&&(decide (n=8)||Er v.text)else decide (v.text=⟨#[]⟩)&&IR n v.bits)
def CD(n:Int)(v:Val):Int:=if v.kind≠n\/BO v=true then 12 else if 4096<v.text.size then 3 else if Fr n v=true then 0 else if n=7 then 7 else 12
def zE:Enm:=.mk ⟨#[]⟩ false [] [] []
def A4(s:Scm)(n:ByteArray):Msg×Bool:=Df s.messages zM λm=>decide (m.name=n)
def B8(s:Scm)(n:ByteArray):Enm×Bool:=Df s.enums zE λe=>decide (e.name=n)
def Gl(e:Enm)(b:Int):Bool:=e.items.any λx=>decide (IntKind.u64.wrap x.num=b)
def B3(R:Msg->Val->Int)(s:Scm)(t:Typ)(v:Val):Int:=
 if t.kind=10 then(if(A4 s t.name).2=true then R (A4 s t.name).1 v else 10)
 else if t.kind<1\/9<t.kind then 12
 else if CD t.kind v≠0\/t.kind≠9 then CD t.kind v
 else if(B8 s t.name).2=false then 10
 else if(B8 s t.name).1.opn=false/\Gl (B8 s t.name).1 v.bits=false then 16 else 0
def GU(a b:Val):Bool:=decide (a.bits=b.bits)&&decide (a.text=b.text)
def GY(E:Val->Int)(key:Int)(k:Bool)(l:List Pr)(i:Nat)(p:Pr):Int:=
 if CD key p.key≠0 then CD key p.key else if k=true/\((l.take i).any λq=>GU q.key p.key)=true then 9 else E p.val
def BN(R:Msg->Val->Int)(s:Scm)(k:Bool)(f:Fld)(v:Val):Int:=
 if f.card=4 then(if v.kind≠11\/BO v=true then 12 else BT (λ_ x=>B3 R s f.type x) v.list 0)
 else if f.card=5 then(if v.kind≠12\/BO v=true then 12 else BT (GY (B3 R s f.type) f.key k v.pairs) v.pairs 0)
 else B3 R s f.type v
def G0(F:List Fld)(l:List Slt)(u:ByteArray):Bool:=!decide (u=⟨#[]⟩)&&l.any λy=>decide ((AU F y.num).union=u)
def DR(R:Fld->Val->Int)(F:List Fld)(l:List Slt)(i:Nat)(x:Slt):Int:=
 if(BG F x.num).2=false then 8 else if CU (l.take i) x.num=true then 9 else if G0 F (l.take i) (AU F x.num).union=true then 15 else R (AU F x.num) x.val
def Gi(l:List Slt)(f:Fld):Int:=if f.card=1/\CU l f.num=false then 14 else 0
def Rj(s:Scm)(f:Fld)(x:Raw):Bool:=decide (f.type.kind=9)&&(B8 s f.type.name).2&&!(B8 s f.type.name).1.opn&&!decide (f.card=5)&&decide (x.wire=0)&&decide (x.bits<2147483648)&&!Gl (B8 s f.type.name).1 x.bits
def Ga(s:Scm)(F:List Fld)(x:Raw):Int:=
 if x.num<1\/65535<x.num\/x.wire<0\/6<x.wire\/(x.wire<=2/\x.data≠⟨#[]⟩)\/(2<x.wire/\x.bits≠0)then 1
 else if(BG F x.num).2=true/\Rj s (AU F x.num) x=false then 1
 else if(x.wire=3/\4096<x.data.size)\/65536<x.data.size then 3 else 0
def AP(s:Scm)(k:Bool):Nat->Msg->Val->Int
 |0,_,v=>if v.kind≠10\/BO v=true then 12 else 17
 |d+1,m,v=>
  if v.kind≠10\/BO v=true then 12
  else if BT (DR (BN (AP s k d) s k) m.fields v.slots) v.slots 0≠0 then BT (DR (BN (AP s k d) s k) m.fields v.slots) v.slots 0
  else if BT (λ_ f=>Gi v.slots f) m.fields 0≠0 then BT (λ_ f=>Gi v.slots f) m.fields 0
  else BT (λ_ x=>Ga s m.fields x) v.raws 0
mutual
def cnt:Val->Nat
 |.mk _ _ _ l p s r=>1+r.length+AY l+Bs p+BU s
def AY:List Val->Nat
 |[]=>0
 |v::l=>cnt v+AY l
def J6:Pr->Nat
 |.mk k v=>cnt k+cnt v
def Bs:List Pr->Nat
 |[]=>0
 |p::l=>J6 p+Bs l
def Kb:Slt->Nat
 |.mk _ v=>cnt v
def BU:List Slt->Nat
 |[]=>0
 |x::l=>Kb x+BU l
end
def Fp(s:Scm)(k:Bool)(n:ByteArray)(v:Val):Int:=
 if(A4 s n).2=false then 10 else if AP s k 16 (A4 s n).1 v≠0 then AP s k 16 (A4 s n).1 v else if 4096<cnt v then 3 else 0
end Go.Proofs.YtalafnjhcecdpaaGreatDoor
namespace Go.Proofs.YtalafnjhcecdpaaGreatDoor
set_option linter.all false
open Go Go.Eng
theorem vld(c:Nat):Utf8.valid (c:Int)=decide (c<0xD800\/0xE000<=c/\c<=0x10FFFF):=by unfold Utf8.valid;rw[KQ];simp only[YB,Yb,Yr];omega
theorem ZRi(a b c d:Nat)(i j l:Prop)[Decidable i][Decidable j][Decidable l](r:a<256)(s:b<256)(t:c<256)(u:d<256)(z:Nat)
 (g:z=if a<0x80 then 1
 else if 0xc2<=a/\a<=0xdf/\i/\0x80<=b/\b<=0xbf then 2
 else if a=0xe0/\(i/\0xa0<=b/\b<=0xbf)/\(j/\0x80<=c/\c<=0xbf)then 3
 else if a=0xed/\(i/\0x80<=b/\b<=0x9f)/\(j/\0x80<=c/\c<=0xbf)then 3
 else if 0xe1<=a/\a<=0xef/\a≠0xed/\(i/\0x80<=b/\b<=0xbf)/\(j/\0x80<=c/\c<=0xbf)then 3
 else if a=0xf0/\(i/\0x90<=b/\b<=0xbf)/\(j/\0x80<=c/\c<=0xbf)/\(l/\0x80<=d/\d<=0xbf)then 4
 else if 0xf1<=a/\a<=0xf3/\(i/\0x80<=b/\b<=0xbf)/\(j/\0x80<=c/\c<=0xbf)/\(l/\0x80<=d/\d<=0xbf)then 4
 else if a=0xf4/\(i/\0x80<=b/\b<=0x8f)/\(j/\0x80<=c/\c<=0xbf)/\(l/\0x80<=d/\d<=0xbf)then 4
 else 0) (D:Nat×Nat) (f:D=if a<0x80 then(a,1)
 else if a/32=6/\i/\b/64=2 then
  if(a%32)*64+b%64>=0x80 then((a%32)*64+b%64,2)else(65533,1)
 else if a/16=14/\(i/\b/64=2)/\(j/\c/64=2)then
  if(a%16)*4096+(b%64)*64+c%64>=0x800/\((a%16)*4096+(b%64)*64+c%64<0xD800\/0xE000<=(a%16)*4096+(b%64)*64+c%64/\(a%16)*4096+(b%64)*64+c%64<=0x10FFFF)then((a%16)*4096+(b%64)*64+c%64,3)else(65533,1)
 else if a/8=30/\(i/\b/64=2)/\(j/\c/64=2)/\(l/\d/64=2)then
  if(a%8)*262144+(b%64)*4096+(c%64)*64+d%64>=0x10000/\((a%8)*262144+(b%64)*4096+(c%64)*64+d%64<0xD800\/0xE000<=(a%8)*262144+(b%64)*4096+(c%64)*64+d%64/\(a%8)*262144+(b%64)*4096+(c%64)*64+d%64<=0x10FFFF)then((a%8)*262144+(b%64)*4096+(c%64)*64+d%64,4)else(65533,1)
 else(65533,1)):(z=0->D.1=65533/\¬(a=0xef/\(i/\b=0xbf)/\(j/\c=0xbd)))/\(z≠0->D.2=z/\(D.1=65533->a=0xef/\(i/\b=0xbf)/\(j/\c=0xbd))):=by
 by_cases a0:a<128
 ·rw[Ym a0]at g f;subst g f;exact⟨λh=>absurd h (by decide),λ_=>⟨rfl,λh=>by dsimp only at h;omega⟩⟩
 rw[Yk a0]at g f;by_cases a1:a/32=6
 ·simp only[show¬a=224 by omega,show¬a=237 by omega,show¬225<=a by omega,show¬a=240 by omega,show¬241<=a by omega,show¬a=244 by omega,show¬a/16=14 by omega,show¬a/8=30 by omega,show¬a=0xef by omega,Dl,YC,FG,a1,C1,Gu,Ie]at g f⊢;by_cases k:i
  ·simp only[k,C1]at g f;split at g<;>split at f<;>(try split at f)<;>subst g f<;>dsimp only<;>omega
  ·simp only[k,Dl,YC,FG]at g f;subst g f;exact⟨λ_=>rfl,λh=>absurd rfl h⟩
 by_cases p:a/16=14
 ·simp only[show¬a<=223 by omega,show¬a=240 by omega,show¬241<=a by omega,show¬a=244 by omega,show¬a/8=30 by omega,a1,p,Dl,YC,FG,C1]at g f⊢;by_cases k:i<;>by_cases o:j<;>simp only[k,o,C1,Dl,FG,YC]at g f⊢
  ·by_cases m:a=0xe0
   ·subst m;simp only[show¬(224=237)by decide,show¬225<=224 by decide,C1,Dl,YC]at g;split at g<;>split at f<;>(try split at f)<;>subst g f<;>dsimp only<;>omega
   ·by_cases n:a=0xed
    ·subst n;simp only[show¬(237=224)by decide,ne_eq,H4,C1,Dl,FG,YC]at g;split at g<;>split at f<;>(try split at f)<;>subst g f<;>dsimp only<;>omega
    ·simp only[m,n,Dl,YC]at g;split at g<;>split at f<;>(try split at f)<;>subst g f<;>dsimp only<;>omega
  all_goals(subst g f;exact⟨λ_=>⟨rfl,by simp⟩,λh=>absurd rfl h⟩)
 ·simp only[show¬(a=0xef)by omega,show¬a=224 by omega,show¬a=237 by omega,a1,p,Dl,YC,Gu,Ie]at g f⊢;rw[Yk (by omega:¬(0xc2<=a/\a<=0xdf/\i/\0x80<=b/\b<=0xbf)),Yk (by omega:¬(0xe1<=a/\a<=0xef/\a≠0xed/\(i/\0x80<=b/\b<=0xbf)/\(j/\0x80<=c/\c<=0xbf)))]at g;by_cases e:i/\j/\l
  ·obtain⟨k,o,q⟩:=e;simp only[k,o,q,C1]at g f;by_cases m:a=0xf0
   ·subst m;simp only[show¬(240=244)by decide,show¬241<=240 by decide,C1,Dl,YC]at g;split at g<;>split at f<;>(try split at f)<;>subst g f<;>dsimp only<;>omega
   ·by_cases n:a=0xf4
    ·subst n;simp only[show¬(244=240)by decide,show¬244<=243 by decide,C1,Dl,FG,YC]at g;split at g<;>split at f<;>(try split at f)<;>subst g f<;>dsimp only<;>omega
    ·simp only[m,n,Dl,YC]at g;split at g<;>split at f<;>(try split at f)<;>subst g f<;>dsimp only<;>omega
  ·rw[Yk (λh=>e ⟨h.2.1.1,h.2.2.1.1,h.2.2.2.1⟩),Yk (λh=>e ⟨h.2.2.1.1,h.2.2.2.1.1,h.2.2.2.2.1⟩),Yk (λh=>e ⟨h.2.1.1,h.2.2.1.1,h.2.2.2.1⟩)]at g;rw[Yk (λh=>e ⟨h.2.1.1,h.2.2.1.1,h.2.2.2.1⟩)]at f;subst g f;exact⟨λ_=>rfl,λh=>absurd rfl h⟩
theorem jk(x:ByteArray)(p:Nat):(BV x p=0->(Utf8.decode x p).1=65533/\¬((x.get! p).toNat=0xef/\(p+1<x.size/\(x.get! (p+1)).toNat=0xbf)/\(p+2<x.size/\(x.get! (p+2)).toNat=0xbd)))/\(BV x p≠0->(Utf8.decode x p).2=BV x p/\((Utf8.decode x p).1=65533->((x.get! p).toNat=0xef/\(p+1<x.size/\(x.get! (p+1)).toNat=0xbf)/\(p+2<x.size/\(x.get! (p+2)).toNat=0xbd)))):=
 ZRi (x.get! p).toNat (x.get! (p+1)).toNat (x.get! (p+2)).toNat (x.get! (p+3)).toNat (p+1<x.size) (p+2<x.size) (p+3<x.size) (x.get! p).toNat_lt (x.get! (p+1)).toNat_lt (x.get! (p+2)).toNat_lt (x.get! (p+3)).toNat_lt _ (by
  unfold BV Ct;simp only[Yb,Yr,and_assoc]) _ (by
  unfold Utf8.decode;simp only[vld,E2,Yb,Yr,beq_iff_eq,Utf8.runeError,and_assoc])
theorem fD(x:ByteArray)(p:Nat):x.data.toList.getD p 0=x.get! p:=by
 cases x with
 |mk d=>
  show d.toList.getD p 0=d.getD p 0;rw[Yg,YG,Yz]
theorem rl(x:ByteArray)(i:Nat)(lo hi:Nat)(h:x.size<=1048576):M3 x (i:Int) (lo:Int) (hi:Int)=some (Ct x i lo hi):=by
 have w:x.size<4611686018427387904:=ae
 dsimp only[M3,vz,lr,A1,Gk];simp only[w,Yp,YW,fD];have a:∀b c:Bool,(b=true->decide ((i:Int)<x.size)=true)->(if(b=true->(0:Int)<=i/\(i:Int)<x.size)then(some c)else none)=some c:=λb c d=>by rw[Ym];intro h;have:=d h;simp only[Yr]at this;omega
 rw[a _ _ (λh=>by rw[Yb]at h;exact h.1),a _ _ (λh=>h)];unfold Ct;congr 1;rw[KQ];simp only[Yb,Yr];omega
theorem jL(x:ByteArray)(i n:Nat)(h:x.size<=1048576)(hi:i<=2097152)(p:n<=9):Ll x (i:Int) (n:Int)=some ((List.range n).all λk=>Ct x (i+k) 128 191):=by
 have o:=Ez (B:=LI x (i:Int) (n:Int)) (N:=Ah) (List.range n) (λk=>!Ct x (i+k) 128 191) (λ_=>false) () (λk y a=>by
  have b:=(Yc.1 a).1;rw[Xv]at b;have hy:y=k:=by rw[List.getElem?_range b]at a;cases a;rfl
  subst hy;have e:=rl x (i+y) 128 191 h;rw[Int.natCast_add]at e;have d:(y:Int)<n:=ae
  have f:y+1<9223372036854775808:=ae
  have g: -9223372036854775808<=(i:Int)+y/\(i:Int)+y<9223372036854775808:=ae
  dsimp only[LI,br,vs,Aq,ln,Af,cl,wa,wi,br];simp only[d,f,g,Yo,Yp,B5];rw[show((128:Int))=((128:Nat):Int)from rfl,show((191:Int))=((191:Nat):Int)from rfl,e,Ya];cases Ct x (i+y) 128 191<;>rfl) (by rw[Xv];dsimp only[LI,br,vs,Aq,ln,Af,cl,wa,wi,br];simp) (by rw[Xv];exact AM ae)
 dsimp only[Ll,lr,lc];rw[o];cases c:(List.range n).findIdx? λk=>!Ct x (i+k) 128 191 with
 |none=>
  have:=XK.1 c;have e:((List.range n).all λk=>Ct x (i+k) 128 191)=true:=Yu.2 λk a=>by simpa using this k a
  rw[e];rfl
 |some j=>
  obtain⟨l,m,_⟩:=RZ.1 c;have e:((List.range n).all λk=>Ct x (i+k) 128 191)=false:=by rw[List.all_eq_false];exact⟨_,Hc l,by simpa using m⟩
  rw[e];rfl
theorem Km{c:Prop}[Decidable c]{b:Bool}(n:Nat)(h:b=true↔c){x:Option Int}{m:Nat}(k:x=some (m:Int)):(if b=true then some (n:Int)else x)=some ((if c then n else m:Nat):Int):=by
 by_cases a:c
 ·rw[Ym (h.2 a),Ym a]
 ·rw[Yk (λe=>a (h.1 e)),Yk a,k]
theorem zw(x:ByteArray)(p:Nat)(o:p<x.size)(h:x.size<=1048576):PN x (p:Int)=some (BV x p:Int):=by
 have t1:∀n:Nat,n<=9->Ll x ((p:Int)+1) (n:Int)=_:=λn c=>jL x (p+1) n h ae c;have t2:∀n:Nat,n<=9->Ll x ((p:Int)+2) (n:Int)=_:=λn c=>jL x (p+2) n h ae c;have a:∀lo hi:Nat,M3 x ((p:Int)+1) lo hi=_:=λlo hi=>rl x (p+1) lo hi h;have a1:=t1 1 ae;have b:=t1 2 ae;have a3:=t1 3 ae;have a4:=t2 1 ae;have a5:=t2 2 ae;have d:=a 160 191;have e:=a 128 159;have g:=a 144 191;have i:=a 128 143;have w0:(0:Int)<=p/\(p:Int)<x.size:=ae
 have m: -9223372036854775808<=(p:Int)+1/\(p:Int)+1<9223372036854775808:=ae
 have w2: -9223372036854775808<=(p:Int)+2/\(p:Int)+2<9223372036854775808:=ae
 have j:∀f:Nat->Bool,(List.range 1).all f=f 0:=λf=>by simp[XS]
 have k:∀f:Nat->Bool,(List.range 2).all f=(f 0&&f 1):=λf=>by simp[XS]
 have l:∀f:Nat->Bool,(List.range 3).all f=(f 0&&(f 1&&f 2)):=λf=>by simp[XS,Bool.and_assoc]
 rw[j]at a1 a4;rw[k]at b a5;rw[l]at a3;simp only[E2,YM,Nat.reduceAdd,Int.cast_ofNat_Int]at a1 b a3 a4 a5 d e g i;dsimp only[PN,br,vg,lr,Ax,wi,br,RE];simp only[w0,m,w2,B5,Yp,YW,fD,a1,b,a3,a4,a5,d,e,g,i,Y0,YI,CQ];unfold BV;refine Km 1 (by simp only[Yr];omega) ?_;refine Km 2 (by simp only[Yb,Yr];grind) ?_;refine Km 3 (by simp only[Yb,Yr];grind) ?_;refine Km 3 (by simp only[Yb,Yr];grind) ?_;refine Km 3 (by simp only[Yb,YO,Yr,YE];grind) ?_;refine Km 4 (by simp only[Yb,Yr];grind) ?_;refine Km 4 (by simp only[Yb,Yr];grind) ?_;refine Km 4 (by simp only[Yb,Yr];grind) ?_;rfl
theorem zL(x:ByteArray)(p:Nat):BV x p<=4:=by
 unfold BV;dsimp only
 repeat' (first|split|omega)
theorem y3(x:ByteArray):∀(k p n m:Nat),x.size-p=k->x.size-p<n->x.size-p<m->Gf x n p=Gf x m p:=by
 intro k
 induction k using Nat.strongRecOn with
 |_ k c=>
  intro p n m d e hm;obtain⟨n,rfl⟩:∃j,n=j+1:=⟨n-1,ae⟩;obtain⟨m,rfl⟩:∃j,m=j+1:=⟨m-1,ae⟩;unfold Gf;by_cases a:p<x.size
  ·rw[Ym a,Ym a];by_cases b:BV x p=0
   ·rw[Ym b,Ym b]
   ·rw[Yk b,Yk b];exact c (x.size-(p+BV x p)) ae _ _ _ rfl ae ae
  ·rw[Yk a,Yk a]
def I6(x:ByteArray)(p:Nat):Bool:=Gf x (x.size+1-p) p
theorem r3{x:ByteArray}{p:Nat}(h:x.size<=p):I6 x p=true:=by
 unfold I6;cases x.size+1-p with
 |zero=>rfl
 |succ n=>unfold Gf;rw[Yk ae]
theorem rP{x:ByteArray}{p:Nat}(h:p<x.size):I6 x p=if BV x p=0 then false else I6 x (p+BV x p):=by
 unfold I6;obtain⟨n,e⟩:∃n,x.size+1-p=n+1:=⟨x.size-p,ae⟩;rw[e]
 conv=>lhs;unfold Gf
 rw[Ym h];by_cases a:BV x p=0
 ·rw[Ym a,Ym a]
 ·rw[Yk a,Yk a];by_cases b:p+BV x p<x.size
  ·exact y3 x _ _ _ _ rfl ae ae
  ·have c:Gf x n (p+BV x p)=true:=by
    cases n with
    |zero=>rfl
    |succ n=>unfold Gf;rw[Yk b]
   have d:Gf x (x.size+1-(p+BV x p)) (p+BV x p)=true:=by
    cases x.size+1-(p+BV x p)with
    |zero=>rfl
    |succ n=>unfold Gf;rw[Yk b]
   rw[c,d]
theorem uR(x:ByteArray):Er x=I6 x 0:=rfl
theorem ZsS(x:ByteArray)(h:x.size<=1048576):M6 x=some (Er x):=by
 have q:Ok (Sum.elim (λ_=>Er x=true) (λr:Int=>0<=r/\Er x=false)) (Aj (NL x) Ah 0):=by
  refine Bu (λv:Int=>0<=v/\Er x=I6 x v.toNat) (λv:Int=>x.size-v.toNat) ⟨ae,uR x⟩ (AM ae) λv c=>?_;obtain⟨v,rfl⟩:∃n:Nat,v=n:=⟨v.toNat,ae⟩;obtain⟨_,c⟩:=c;rw[YW]at c;have w:x.size<4611686018427387904:=ae
  dsimp only[NL,br,vz,vs,Aq,ln,Af,cl,wi,A1,br];by_cases g:v<x.size
  ·have d:(v:Int)<x.size:=ae;have hs:=zL x v;have b:=rP g;simp only[w,Yp,d,Yo,zw x v g h,Ya];by_cases f:BV x v=0
   ·rw[Ym f]at b;simp only[f,Int.ofNat_zero,Int.cast_ofNat_Int,Yo,Yp];exact⟨_,rfl,ae,by rw[c,b]⟩
   ·rw[Yk f]at b;have j:¬((BV x v:Int)=0):=ae;have k: -9223372036854775808<=(v:Int)+BV x v/\(v:Int)+BV x v<9223372036854775808:=ae;simp only[j,Yx,Yi,YC,k,B5,Yp];refine⟨_,rfl,⟨ae,?_⟩,?_⟩
    ·rw[c,b,show((v:Int)+BV x v).toNat=v+BV x v by omega]
    ·show x.size-((v:Int)+BV x v).toNat<x.size-(v:Int).toNat;omega
  ·have d:¬(v:Int)<x.size:=ae;simp only[w,Yp,d,Yx,Yi,YC];exact⟨_,rfl,by rw[c,r3 ae]⟩
 obtain⟨y,e,a⟩:=q;dsimp only[M6,lr,cl,TL,lr,lc];rw[e];cases y with
 |inl y=>
  have a:Er x=true:=a;rw[a];rfl
 |inr r=>
  obtain⟨a1,i⟩:=a;rw[i];simp only[Ya,Sum.elim_inr];rw[show decide (r<0)=false by simpa using a1]
theorem ZMy{α:Type}(m:List α)(a b c:α):m.take 3=[a,b,c]↔m[0]?=some a/\m[1]?=some b/\m[2]?=some c:=by
 match m with
 |[]=>simp
 |[x]=>simp
 |[x,y]=>simp
 |x::y::z::l=>simp
theorem zS{x y:ByteArray}:x=y↔x.data.toList=y.data.toList:=by
 constructor
 ·rintro rfl;rfl
 ·intro h;cases x;cases y;congr 1;exact Array.toList_inj.1 h
theorem q9(x:ByteArray)(a b:Nat):(x.extract a b).data.toList=(x.data.toList.take b).drop a:=by rw[ByteArray.data_extract,Array.toList_extract,List.extract_eq_take_drop,List.drop_take]
theorem Zh(x:ByteArray)(p:Nat)(c:UInt8):x.data.toList[p]?=some c↔p<x.size/\(x.get! p).toNat=c.toNat:=by
 rw[<-fD,Yg];have hs:x.size=x.data.toList.length:=Gt.symm;rw[hs];constructor
 ·intro h;rw[h];exact⟨(Yc.1 h).1,rfl⟩
 ·rintro⟨b,a⟩;rw[Yd b]at a⊢;rw[YI]at a;rw[UInt8.toNat_inj.1 a]
theorem ZNs(x:ByteArray)(p:Nat)(f:p<x.size)(h:x.size<=1048576):cH (x.extract p x.size) ⟨#[239,191,189]⟩=some (decide ((x.get! p).toNat=0xef/\(p+1<x.size/\(x.get! (p+1)).toNat=0xbf)/\(p+2<x.size/\(x.get! (p+2)).toNat=0xbd))):=by
 have g:(x.extract p x.size).size=x.size-p:=by rw[iT];omega
 have hl:(x.extract p x.size).data.toList=x.data.toList.drop p:=by have e:x.data.toList.take x.size=x.data.toList:=Jr (Nat.le_of_eq Gt);rw[q9,e]
 have key:(x.extract p x.size).extract 0 3=⟨#[239,191,189]⟩↔((x.get! p).toNat=0xef/\(p+1<x.size/\(x.get! (p+1)).toNat=0xbf)/\(p+2<x.size/\(x.get! (p+2)).toNat=0xbd)):=by rw[zS,q9,hl,Hh];show(x.data.toList.drop p).take 3=[239,191,189]↔_;rw[ZMy,YY,YY,YY,Zh,Zh,Zh];exact⟨λh=>⟨h.1.2,h.2⟩,λh=>⟨⟨f,h.1⟩,h.2⟩⟩
 have b:(⟨#[239,191,189]⟩:ByteArray).size=3:=rfl;generalize x.extract p x.size=y at g key;dsimp only[cH,lr,cl,qi,vz,vy,lr,A1];rw[b];have w:y.size<4611686018427387904:=ae
 by_cases c:3<=y.size
 ·have a:((3:Nat):Int)<=y.size:=ae
  simp only[w,Yp,a,Yo,Jw,Bd.c,Bd.vl,Y4,Ya,show(3:Nat)<4611686018427387904 by decide,Cn,C1,c,B5,CQ];congr 1;exact decide_eq_decide.2 key
 ·have a:¬((3:Nat):Int)<=y.size:=ae
  simp only[w,Yp,a,Yx,Yi,H3,Y5,Ya,show(3:Nat)<4611686018427387904 by decide,CQ];congr 1;symm;rw[YE];intro d;have:=d.2.2.1;omega
theorem za(x:ByteArray)(p:Nat)(f:p<x.size)(h:x.size<=1048576):dm x (p:Int) (Kq x p)=some (decide (BV x p=0)):=by
 obtain⟨d1,d2⟩:=jk x p;have i:=ZNs x p f h;have c:Kq x p=((Utf8.decode x p).1:Nat):=rfl;dsimp only[dm,lr,Ax];by_cases e:Kq x p=65533
 ·have g:(0:Int)<=p/\(p:Int)<=x.size:=ae
  have b:p<=x.size:=ae
  simp only[e,Yo,Y4,Jw,Bd.c,Bd.vl,YW,i,Y0,YI,Yp,g,b,C1,B5,Yf];congr 1;rw[<-decide_not];refine decide_eq_decide.2 ⟨λd=>?_,λa=>(d1 a).2⟩;rcases Se (BV x p)with a|a
  ·exact a
  ·exact absurd ((d2 ae).2 (by rw[c]at e;omega)) d
 ·have a:¬BV x p=0:=λa=>e (by rw[c,(d1 a).1];rfl);simp only[e,Yx,Y5,Yi,H3,Yp,a]
theorem r4(x:ByteArray)(h:x.size<=1048576):dn x=some (Er x):=by
 have q:Ok (Sum.elim (λ_=>Er x=true) (λr:Int=>0<=r/\Er x=false)) (Aj (Vz x) Ah 0):=by
  refine Bu (λv:Nat=>Er x=I6 x v) (λv:Nat=>x.size-v) (uR x) (AM ae) λv f=>?_;dsimp only[Vz,br,wg,Aq,ln,Af,cl,br];by_cases d:v<x.size
  ·have b:=rP d;simp only[d,Yo,Yp,za x v d h,Ya];by_cases c:BV x v=0
   ·rw[Ym c]at b;simp only[c,Yo,Yp];exact⟨_,rfl,ae,by rw[f,b]⟩
   ·rw[Yk c]at b;have i:EV x v=BV x v:=((jk x v).2 c).1;simp only[c,Yx,Yi,YC];refine⟨_,rfl,?_,?_⟩
    ·show Er x=I6 x (v+EV x v);rw[f,b,i]
    ·show x.size-(v+EV x v)<x.size-v;omega
  ·simp only[d,Yx,Yi,YC];exact⟨_,rfl,by rw[f,r3 ae]⟩
 obtain⟨y,e,a⟩:=q;dsimp only[dn,lr,cl,rM,lr,lc];rw[e];cases y with
 |inl y=>
  have a:Er x=true:=a;rw[a];rfl
 |inr r=>
  obtain⟨a1,g⟩:=a;rw[g];simp only[Ya,Sum.elim_inr];rw[show decide (r<0)=false by simpa using a1]
def Xr(c:Nat)(x:Val):Prop:=∀a,c<=a->Ok (λb=>b=true) (Lk a x x)
theorem Xr.mono{c d:Nat}{x:Val}(h:Xr c x)(k:c<=d):Xr d x:=λa b=>h a (D2 k b)
theorem Nz{n:Nat}(h:n<18446744073709551616):IntKind.u64.wrap (n:Int)=n:=by unfold IntKind.wrap;have:(IntKind.u64.bits)=64:=rfl;simp only[this,show IntKind.u64.signed=false from rfl,Y5,Yi,YC];omega
theorem NI(n:Nat):BitVec.ofInt 64 (n:Int)=BitVec.ofNat 64 n:=BitVec.ofInt_natCast ..
theorem eo{n m:Nat}(a:n<18446744073709551616)(hm:m<18446744073709551616):Du .u64 (n:Int) (m:Int)=((n&&&m:Nat):Int):=by
 unfold Du;have h:(BitVec.ofInt 64 (n:Int)&&&BitVec.ofInt 64 (m:Int)).toNat=n&&&m:=by rw[NI,NI,BitVec.toNat_and,OR,OR,KJ a,KJ hm]
 show IntKind.u64.wrap (((BitVec.ofInt 64 (n:Int)&&&BitVec.ofInt 64 (m:Int)).toNat:Nat):Int)=_;rw[h];exact Nz (Nat.lt_of_le_of_lt Nat.and_le_left a)
theorem yU{n m:Nat}(a:n<18446744073709551616)(hm:m<18446744073709551616):G5 .u64 (n:Int) (m:Int)=((n|||m:Nat):Int):=by
 unfold G5;have h:(BitVec.ofInt 64 (n:Int)|||BitVec.ofInt 64 (m:Int)).toNat=n|||m:=by rw[NI,NI,BitVec.toNat_or,OR,OR,KJ a,KJ hm]
 show IntKind.u64.wrap (((BitVec.ofInt 64 (n:Int)|||BitVec.ofInt 64 (m:Int)).toNat:Nat):Int)=_;rw[h];exact Nz (Nat.or_lt_two_pow (n:=64) a hm)
theorem ZxB{n:Nat}(a:n<18446744073709551616):JJ .u64 (n:Int)=((18446744073709551615-n:Nat):Int):=by
 unfold JJ Mx;have e:(if IntKind.u64.signed=true then(-1:Int)else IntKind.u64.max)=((18446744073709551615:Nat):Int):=rfl;rw[e];have h:(BitVec.ofInt 64 ((18446744073709551615:Nat):Int)^^^BitVec.ofInt 64 (n:Int)).toNat=18446744073709551615-n:=by rw[NI,NI,show BitVec.ofNat 64 18446744073709551615=BitVec.allOnes 64 from rfl,BitVec.allOnes_xor,BitVec.toNat_not,OR,KJ a]
 show IntKind.u64.wrap (((BitVec.ofInt 64 ((18446744073709551615:Nat):Int)^^^BitVec.ofInt 64 (n:Int)).toNat:Nat):Int)=_;rw[h];exact Nz ae
theorem y9(n:Nat):n&&&9218868437227405312=(n/4503599627370496%2048)*4503599627370496:=by
 have e:(9218868437227405312:Nat)=2047<<<52:=rfl;have a:n/4503599627370496%2048*4503599627370496=((n>>>52)%2^11)<<<52:=by rw[Nat.shiftLeft_eq,Nat.shiftRight_eq_div_pow]
 rw[e,a];apply Nat.eq_of_testBit_eq;intro i;have b:(2047:Nat)=2^11-1:=rfl;rw[Nat.testBit_and,i0,i0,Nat.testBit_mod_two_pow,Nat.testBit_shiftRight,b,Nat.testBit_two_pow_sub_one];by_cases h:52<=i
 ·rw[show 52+(i-52)=i by omega];simp only[h,Yo,Y4];rw[Bool.and_comm]
 ·simp[h]
theorem ZwK(n:Nat):n&&&4503599627370495=n%4503599627370496:=Nat.and_two_pow_sub_one_eq_mod n 52
theorem Zvj{n:Nat}(b:n<18446744073709551616):n&&&9223372036854775808=if 9223372036854775808<=n then 9223372036854775808 else 0:=by
 have e:(9223372036854775808:Nat)=2^63:=rfl;have k:n.testBit 63=decide (9223372036854775808<=n):=by rw[Nat.testBit_eq_decide_div_mod_eq,decide_eq_decide];omega
 apply Nat.eq_of_testBit_eq;intro i;rw[Nat.testBit_and];by_cases hi:63=i
 ·subst hi;rw[k];by_cases h:9223372036854775808<=n
  ·simp[h]
  ·simp[h]
 ·have a:Nat.testBit 9223372036854775808 i=false:=by rw[e,Nat.testBit_two_pow];exact Ys hi
  rw[a,Gp];split
  ·exact a.symm
  ·simp
def HK(n:Nat):Bool:=decide (9218868437227405312<n%9223372036854775808)
theorem pH{n:Nat}(e:n<18446744073709551616):Ok (λy:Int=>decide (y=0)=HK n) (db (n:Int)):=by
 have a:=eo e (m:=9218868437227405312) ae;have b:=eo e (m:=4503599627370495) ae;rw[y9]at a;rw[ZwK]at b;have a:Du .u64 (n:Int) 9218868437227405312=_:=a;have b:Du .u64 (n:Int) 4503599627370495=_:=b;dsimp only[db,br,vz,lr,br];rw[a,b];unfold HK;have f:(((n/4503599627370496%2048*4503599627370496:Nat):Int)=9218868437227405312)↔n/4503599627370496%2048=2047:=ae
 have g:(((n%4503599627370496:Nat):Int)=0)↔n%4503599627370496=0:=ae
 have h:9218868437227405312<n%9223372036854775808↔n/4503599627370496%2048=2047/\n%4503599627370496≠0:=ae
 simp only[f,g,h];by_cases c:n/4503599627370496%2048=2047
 ·by_cases d:n%4503599627370496=0
  ·simp only[c,d];exact AC (by decide)
  ·simp only[c,d];exact AC (by simp[d])
 ·have i:decide (n/4503599627370496%2048=2047)=false:=Ys c;simp only[i,c,Y5,Dl,Yx,Yi,YC];refine AL (λ_=>AC (by decide)) λ_=>AL (λ_=>AC (by decide)) λ_=>AC (by decide)
theorem oz{n:Nat}(b:n<18446744073709551616):Ok (λy:Int=>decide (y=0)=HK n) (PE (n:Int)):=by
 have e:JC .u64 (n:Int) 9223372036854775808=((n%9223372036854775808:Nat):Int):=by unfold JC;rw[Int.tmod_eq_emod_of_nonneg ae];omega
 dsimp only[PE,br,lr,br,rem];rw[e];unfold HK;have g:(9218868437227405312:Int)<((n%9223372036854775808:Nat):Int)↔9218868437227405312<n%9223372036854775808:=ae
 simp only[g];by_cases h:9218868437227405312<n%9223372036854775808
 ·simp only[h];first|exact AC (by decide)|simp
 ·have a:decide (9218868437227405312<n%9223372036854775808)=false:=Ys h;simp only[a,Yi,YC]
  first
   |refine AL (λ_=>AC (by decide)) λ_=>AL (λ_=>AC (by decide)) λ_=>AL (λ_=>AC (by decide)) λ_=>AC (by decide)
   |simp
def CP(n:Nat):Nat:=if HK n=true then 18446744073709551615 else if 9223372036854775808<=n then 18446744073709551615-n else n+9223372036854775808
theorem Tg{n:Nat}(a:n<18446744073709551616):da (n:Int)=some (CP n:Int):=by
 obtain⟨y,e,h⟩:=pH a;have c:=eo a (m:=9223372036854775808) ae;rw[Zvj a]at c;have c:Du .u64 (n:Int) 9223372036854775808=_:=c;have d:=ZxB a;have f:G5 .u64 (n:Int) 9223372036854775808=((n|||9223372036854775808:Nat):Int):=yU a (m:=9223372036854775808) ae;dsimp only[da,br,vz,lr,cl,br];rw[e,Ya,h,c,d,f];unfold CP;cases HK n with
 |true=>rfl
 |false=>
  by_cases hs:9223372036854775808<=n
  ·simp[hs]
  ·have g:n|||9223372036854775808=n+9223372036854775808:=by
    have j:=Nat.two_pow_add_eq_or_of_lt (i:=63) (b:=n) ae 1;rw[Nat.or_comm];have k:9223372036854775808+n=9223372036854775808|||n:=j
    exact k.symm.trans (ON _ _)
   simp[hs,g]
theorem SC{v:Val}{n:Nat}(i:n<18446744073709551616)(g:v.bits=(n:Int)):bZ v=some (if v.kind=2\/v.kind=3 then IntKind.u64.wrap ((n:Int)+9223372036854775808)else if v.kind=6 then(CP n:Int)else(n:Int)):=by
 obtain⟨y,e,h⟩:=oz i;dsimp only[bZ,dX,br,vz,wg,lr,cl,br,qk,lr];rw[g];by_cases a:v.kind=2\/v.kind=3
 ·have b:(decide (v.kind=2)||decide (v.kind=3))=true:=by simpa using a
  simp only[b,a,Yp];rfl
 ·have b:(decide (v.kind=2)||decide (v.kind=3))=false:=by simpa using a
  simp only[b,a,Yi,YC];by_cases f:v.kind=6
  ·have j:=Nz (n:=18446744073709551615-n) ae;simp only[f,Yo,YN,Yi,YC,e,Ya,h];unfold CP;cases HK n with
   |true=>rfl
   |false=>
    by_cases hs:9223372036854775808<=n
    ·have c:(9223372036854775808:Int)<=(n:Int):=ae;have d:(18446744073709551615:Int)-(n:Int)=((18446744073709551615-n:Nat):Int):=ae;simp[hs,c,d,j]
    ·have c:¬(9223372036854775808:Int)<=(n:Int):=ae;have d:(n:Int)+9223372036854775808=((n+9223372036854775808:Nat):Int):=ae;have w2:=Nz (n:=n+9223372036854775808) ae;simp only[hs,c,d,w2,Yx,Yi,YC,Yp]
  ·simp[f]
def Bv(a b:Int):Int:=if a<b then -1 else if b<a then 1 else 0
theorem LV(a b:Int):decide (Bv a b=0)=decide (a=b):=by
 unfold Bv;by_cases h:a<b
 ·rw[Ym h,Ys (by omega:¬a=b)];rfl
 ·rw[Yk h];by_cases c:b<a
  ·rw[Ym c,Ys (by omega:¬a=b)];rfl
  ·rw[Yk c,Yq (by omega:a=b)];rfl
theorem M0(a b:Int):cC a b=some (Bv a b):=by
 dsimp only[cC,br,lr,cl,br,qr,lr];unfold Bv;by_cases h:a<b
 ·simp[h]
 ·by_cases c:b<a<;>simp[h,c]
theorem SH(a b:Int):cG a b=some (Bv a b):=by
 dsimp only[cG,br,lr,cl,br,qo,lr];unfold Bv;by_cases h:a<b
 ·simp[h]
 ·by_cases c:b<a<;>simp[h,c]
theorem ZQP(a b:Int):b8 a b=some (Bv a b):=by
 dsimp only[b8,br,lr,br];unfold Bv;by_cases h:a<b
 ·simp[h]
 ·by_cases c:b<a<;>simp[h,c]
def WV(d x:Val):Bool:=decide (d.kind=x.kind)&&(if d.kind=7\/d.kind=8 then decide (d.text=x.text)else if d.kind=6 then decide (CP d.bits.toNat=CP x.bits.toNat)else decide (d.bits=x.bits))
def Ec(a b:ByteArray):Int:=if Bt a b=true then -1 else if a=b then 0 else 1
theorem VO(a b:ByteArray):decide (Ec a b=0)=decide (a=b):=by
 unfold Ec;by_cases h:a=b
 ·subst h;have:Bt a a=false:=by unfold Bt;rw[Go.Proofs.bytesLess_eq];exact Ys (List.lt_irrefl _)
  simp[this]
 ·cases Bt a b<;>simp[h]
theorem p6(a b:ByteArray):cF a b=some (Ec a b):=by
 dsimp only[cF,br,lr,cl,br,qn,lr];unfold Ec;cases h:Bt a b with
 |true=>simp
 |false=>by_cases c:a=b<;>simp[c]
theorem ZQB{d x:Val}(z:1<=d.kind/\d.kind<=9)(o:AK d)(p:AK x)(he:d.kind=x.kind):Ok (λc:Int=>decide (c=0)=(if d.kind=7\/d.kind=8 then decide (d.text=x.text)else if d.kind=6 then decide (CP d.bits.toNat=CP x.bits.toNat)else decide (d.bits=x.bits))) (T3 d x)/\Ok (λc:Int=>decide (c=0)=(if d.kind=7\/d.kind=8 then decide (d.text=x.text)else if d.kind=6 then decide (CP d.bits.toNat=CP x.bits.toNat)else decide (d.bits=x.bits))) (PQ d x):=by
 obtain⟨n,m⟩:=XL (Oa o).1;obtain⟨k,l⟩:=XL (Oa p).1;have r:n<18446744073709551616:=by have:=(Oa o).2;omega
 have q:k<18446744073709551616:=by have:=(Oa p).2;omega
 have y:(decide (1<=d.kind)&&decide (d.kind<=9))=true:=by simp[z]
 obtain⟨E,f⟩:∃E,E=(if d.kind=7\/d.kind=8 then decide (d.text=x.text)else if d.kind=6 then decide (CP d.bits.toNat=CP x.bits.toNat)else decide (d.bits=x.bits)):=⟨_,rfl⟩;rw[<-f];have C:=SC r m;have w:=SC q l;rw[<-he]at w;have t:(decide (1<=x.kind)&&decide (x.kind<=9))=true:=by rw[<-he];exact y
 have B:¬d.kind<x.kind:=ae
 have A:¬x.kind<d.kind:=ae
 dsimp only[T3,br,vz,wg,lr,cl,br,Ni,lr,PY,lr,PQ,br,wg,lr,cl,br,Lm,lr,Lj,lr];simp only[he,Yo,YN,Yi,YC,t,Ya,Yx,Yp,Int.lt_irrefl];rw[<-he];by_cases s:d.kind=7\/d.kind=8
 ·have i:(decide (d.kind=7)||decide (d.kind=8))=true:=by simpa using s
  rw[Ym s]at f;simp only[i,Yp,Y4,p6,Ya];refine⟨AC (by rw[f];exact VO _ _),?_⟩;have e:(if Bt d.text x.text=true then some (-1:Int)else if(!(Bt d.text x.text||decide (d.text=x.text)))=true then some 1 else some 0)=some (Ec d.text x.text):=by
   unfold Ec;cases h:Bt d.text x.text with
   |true=>simp
   |false=>by_cases u:d.text=x.text<;>simp[u]
  rw[e];exact AC (by rw[f];exact VO _ _)
 ·have i:(decide (d.kind=7)||decide (d.kind=8))=false:=by simpa using s
  rw[Yk s]at f;simp only[i,Yi,YC,Y5,C,w,Ya];have D:∀a b:Int,(if decide (a<b)=true then some (-1:Int)else if decide (b<a)=true then some 1 else some 0)=some (Bv a b):=λa b=>by
   unfold Bv;by_cases h:a<b
   ·simp[h]
   ·by_cases u:b<a<;>simp[h,u]
  rw[D];by_cases hs:d.kind=2\/d.kind=3
  ·have g:(decide (d.kind=2)||decide (d.kind=3))=true:=(by simpa using hs);have j:¬d.kind=6:=ae;rw[Yk j]at f;simp only[g,hs,Yp,M0,Ya];refine⟨AC (by rw[f,LV,decide_eq_decide,m,l,IntKind.wrap_i64,IntKind.wrap_i64];omega),AC (by rw[f,LV,decide_eq_decide,m,l];unfold IntKind.wrap;simp only[show IntKind.u64.bits=64 from rfl,show IntKind.u64.signed=false from rfl,Y5,Yi,YC];omega)⟩
  ·have g:(decide (d.kind=2)||decide (d.kind=3))=false:=(by simpa using hs);simp only[g,hs,Yi,YC];by_cases j:d.kind=6
   ·rw[Ym j]at f;have v:(CP d.bits.toNat=CP x.bits.toNat)↔((CP n:Int)=(CP k:Int)):=(by rw[m,l];simp only[YW];omega);simp only[j,Yo,Yp,m,l,Tg r,Tg q,Ya,SH];exact⟨AC (by rw[f,LV,decide_eq_decide,v]),AC (by rw[f,LV,decide_eq_decide,v])⟩
   ·rw[Yk j]at f;simp only[j,Yx,Yi,YC,SH,Ya];exact⟨AC (by rw[f,LV]),AC (by rw[f,LV,decide_eq_decide,m,l])⟩
theorem ZQT{d x:Val}(f:1<=d.kind/\d.kind<=9)(b:AK d)(e:AK x):Nl d x=some (WV d x):=by
 have g:(decide (1<=d.kind)&&decide (d.kind<=9))=true:=by simp[f]
 unfold WV;by_cases he:d.kind=x.kind
 ·obtain⟨⟨c,h,i⟩,_⟩:=ZQB f b e he;have a:(decide (1<=x.kind)&&decide (x.kind<=9))=true:=by rw[<-he];exact g
  dsimp only[Nl,wg,lr,cl,Nh,br,wg,lr,cl,br,cL,wg,lr,cl,bT,Ni,lr];simp only[he,Yo,YN,Yi,YC,a,Yp,Ya,h,Y4];rw[i,he]
 ·dsimp only[Nl,wg,lr,cl,Nh,br,wg,lr,cl,br];simp only[he,Yx,YQ,Yp,M0,Ya,Y5,LV]
theorem ZQX{α ρ:Type}{B:Int×Int×List α->Option (Lv (Int×Int×List α) (Int×List α) ρ)}(l:List α)(p:α->Bool)
  (s:∀(i j:Nat) (r:List α) x,i<=j->r.length=l.length->r[j]?=some x->l[j]?=some x->B ((i:Int),(j:Int),r)=some (.nx (if p x then((i:Int),((j+1:Nat):Int),r)else(((i+1:Nat):Int),((j+1:Nat):Int),r.set i x))))
  (t:∀(i:Nat) r,B ((i:Int),(l.length:Int),r)=some (.ex ((i:Int),r))):
  ∀(k N i j:Nat) (r:List α),j+k=l.length->k<N->i<=j->r.length=l.length->r.take i=(l.take j).filter (λx=>!p x)->i=((l.take j).filter λx=>!p x).length->r.drop j=l.drop j->
  ∃(n:Nat) (o:List α),Aj B N ((i:Int),(j:Int),r)=some (.inl ((n:Int),o))/\o.take n=l.filter (λx=>!p x)/\n=(l.filter λx=>!p x).length/\o.length=l.length:=by
 intro k
 induction k with
 |zero=>
  intro N i j r u hN b c d hi e;obtain⟨N,rfl⟩:∃m,N=m+1:=⟨N-1,ae⟩;have:j=l.length:=ae
  subst this;rw[OU]at d hi;exact⟨i,r,by rw[Aj,t],d,hi,c⟩
 |succ k q=>
  intro N i j r u hN b c d hi e;obtain⟨N,rfl⟩:∃m,N=m+1:=⟨N-1,ae⟩;have a:j<l.length:=ae
  have hl:l[j]?=some l[j]:=Yd a;have h:r[j]?=some l[j]:=by have:=congrArg (λz=>z[0]?) e;simpa[YY,a]using this
  have e0:l.take (j+1)=l.take j++[l[j]]:=H6 a;rw[Aj,s i j r l[j] b c h hl];cases f:p l[j]with
  |true=>
   refine q N i (j+1) r ae ae ae c ?_ ?_ ?_
   ·rw[e0,KN,d];simp[f]
   ·rw[e0,KN];simpa[f]using hi
   ·have:=congrArg (List.drop 1) e;simpa[OY]using this
  |false=>
   have g:i<r.length:=ae;refine q N (i+1) (j+1) (r.set i l[j]) ae ae ae (by rw[R8];exact c) ?_ ?_ ?_
   ·rw[e0,KN,<-d,H6 (by rw[R8];exact g),List.take_set_of_le (Yf _),iU];simp[f]
   ·rw[e0,KN,Yt,<-hi];simp[f]
   ·rw[List.drop_set_of_lt ae];have:=congrArg (List.drop 1) e;simpa[OY]using this
theorem m58(l:List Fld)(h:l.length<549755813888):Ub l=some l:=by unfold Ub;simp only[al,HS,Mb,br,ix,Di,vz,vy,vw,vs,vg,v2,lr,Aq,ln,Af,lc,lf,Kv,ap,aq,a0,a1,ad,cl,cs,cf,wa,wi,ir,ca,cp,dd,mv,st,ss,sL,Bd.c,Bd.vl,sR,AG,Yi,YC,h,Yp]
theorem ZOn(l:List Fld)(f:Fld->Option Bool)(p:Fld->Bool)(d:∀x∈l,f x=some (p x))(h:l.length<4611686018427387904):TQ l f=some (HV l p):=by
 unfold TQ;simp only[al,HS,Mb,br,ix,Di,vz,vy,vw,vs,vg,v2,lr,Aq,ln,Af,lc,lf,Kv,ap,aq,a0,a1,ad,cl,cs,cf,wa,wi,ir,ca,cp,dd,mv,st,ss,sL,Bd.c,Bd.vl,sR,AG];rw[Ez l p (λi=>(i:Int)) () (hN:=AM h) (he:=by simp[UE,al,HS,Mb,br,ix,Di,vz,vy,vw,vs,vg,v2,lr,Aq,ln,Af,lc,lf,Kv,ap,aq,a0,a1,ad,cl,cs,cf,wa,wi,ir,ca,cp,dd,mv,st,ss,sL,Bd.c,Bd.vl,sR,AG]) (hs:=by
  intro i y hy;obtain⟨a,rfl⟩:=Yc.1 hy;have b:i+1<9223372036854775808:=ae
  have c:=d l[i] (Yh hy);simp[UE,al,HS,Mb,br,ix,Di,vz,vy,vw,vs,vg,v2,lr,Aq,ln,Af,lc,lf,Kv,ap,aq,a0,a1,ad,cl,cs,cf,wa,wi,ir,ca,cp,dd,mv,st,ss,sL,Bd.c,Bd.vl,sR,AG,a,b,c];cases p l[i]<;>rfl)]
 unfold HV;cases l.findIdx? _<;>rfl
theorem m57(l:List Fld)(f:Fld->Option Bool)(p:Fld->Bool)(g:∀x∈l,f x=some (p x))(h:l.length<549755813888):TO l f=some (l.filter λx=>!p x):=by
 have e0:=ZOn l f p g ae;unfold TO;dsimp only[vw,vs,vg,vz,cs,br,lr,lf,lc,wi];rw[e0,Ya];cases hi:l.findIdx? p with
 |none=>
  rw[show HV l p= -1 from by unfold HV;rw[hi]];rw[show l.filter (λx=>!p x)=l from List.filter_eq_self.2 λx hx=>by rw[XK.1 hi x hx];rfl];rfl
 |some i=>
  obtain⟨s,t,u⟩:=RZ.1 hi;rw[show HV l p=(i:Int)from by unfold HV;rw[hi]];have a:((i:Int)= -1)=False:=eq_false ae;have k: -9223372036854775808<=(i:Int)+1/\(i:Int)+1<9223372036854775808:=ae
  have w:(l.take i).filter (λx=>!p x)=l.take i:=List.filter_eq_self.2 λx hx=>by obtain⟨j,G,rfl⟩:=iP.1 hx;rw[Bool.eq_false_iff.2 (u j ae)];rfl
  have e:(l.take (i+1)).filter (λx=>!p x)=l.take i:=by rw[H6 s,KN,w];simp[t]
  obtain⟨b,D,y,z,A,C⟩:=ZQX (B:=QA l f) l p (λi j r x v H hx hl=>by have F:=(Yc.1 hl).1;have o:(j:Int)<(l.length:Int):=ae;have q:=g x (Yh hl);have E: -9223372036854775808<=(i:Int)+1/\(i:Int)+1<9223372036854775808:=ae;have w2: -9223372036854775808<=(j:Int)+1/\(j:Int)+1<9223372036854775808:=ae;have c:(0:Int)<=(j:Int):=ae;have d:(0:Int)<=(i:Int):=ae;have m:(i:Int)<(l.length:Int):=ae;have n:i<r.length:=ae;dsimp only[QA,al,HS,Mb,br,ix,Di,vz,vy,vw,vs,vg,v2,lr,Aq,ln,Af,lc,lf,Kv,ap,aq,a0,a1,ad,cl,cs,cf,wa,wi,ir,ca,cp,dd,mv,st,ss,sL,Bd.c,Bd.vl,sR,AG,gR,gT,gQ,gU,rb,cr,W5,ch];simp only[Ca,AG,o,q,E,w2,c,d,m,n,hx,B5,Ie,C1,Yo,Yp,YW,Ya];cases p x<;>simp)
   (λi r=>by dsimp only[QA,al,HS,Mb,br,ix,Di,vz,vy,vw,vs,vg,v2,lr,Aq,ln,Af,lc,lf,Kv,ap,aq,a0,a1,ad,cl,cs,cf,wa,wi,ir,ca,cp,dd,mv,st,ss,sL,Bd.c,Bd.vl,sR,AG,gR,gT,gQ,gU,rb,cr,W5,ch];simp)
   (l.length-(i+1)) Ah i (i+1) l ae (AM ae) ae rfl e.symm (by rw[e,YD];omega) rfl
  rw[show((i:Int)+1)=((i+1:Nat):Int)from rfl]at k⊢;simp only[a,k,y,Yx,Yo,Yi,B5,Yp,YC,Ya,C2];have c:b<=l.length:=by rw[A];exact Sb _ _
  have d:(b:Int)=((D.take b).length:Int):=by rw[YD];omega
  simp[z,C,al,HS,Mb,br,ix,Di,vz,vy,vw,vs,vg,v2,lr,Aq,ln,Af,lc,lf,Kv,ap,aq,a0,a1,ad,cl,cs,cf,wa,wi,ir,ca,cp,dd,mv,st,ss,sL,Bd.c,Bd.vl,sR,AG,gR,gT,gQ,gU,rb,cr,W5,ch];omega
theorem fh{v:Val}(h:SzV v):ct v=some (BO v):=by
 obtain⟨t1,t2,t3,t4,t5⟩:=h;have e:v.list.length<4611686018427387904:=ae
 have f:v.pairs.length<4611686018427387904:=ae
 have g:v.slots.length<4611686018427387904:=ae
 have i:v.raws.length<4611686018427387904:=ae
 have key:∀a b c:Bool,(if a=true then some true else if b=true then some true else some c)=some (a||b||c):=λa b c=>by cases a<;>cases b<;>rfl
 dsimp only[ct,br,vz,vy,wg,lr,Ai,br];rw[key];congr 1;unfold BO;rw[KQ];by_cases d:v.text=⟨#[]⟩<;>simp only[d,Yo,Yx,YB,Yb,YO,Yr,YE,YN,YQ,Y5,Y4,ne_eq,H4,Gu,Dl,C1,Mp,Yi,or_false,Mr,Ic]<;>omega
theorem fW{v:Val}(h:SzV v):dc v=some (BO v):=by
 obtain⟨t1,t2,t3,t4,t5⟩:=h;have b:v.list.length<4611686018427387904:=ae
 have c:v.pairs.length<4611686018427387904:=ae
 have d:v.slots.length<4611686018427387904:=ae
 have e:v.raws.length<4611686018427387904:=ae
 have f:v.slots.length+v.raws.length<9223372036854775808:=ae
 dsimp only[dc,vy,wg,vg,lr,wa,Ai];simp only[b,c,d,e,f,CQ,Yp];congr 1;unfold BO;rw[KQ];by_cases a:v.text=⟨#[]⟩<;>simp only[a,Yo,Yx,YB,Yb,YO,Yr,YE,YN,YQ,Y5,Y4,ne_eq,H4,Gu,Dl,C1,Mp,Yi,or_false,Mr,Ic]<;>omega
theorem jN{v:Val}(h:SzV v):PK v=some (EQ v):=by
 obtain⟨t1,t2,t3,t4,t5⟩:=h;have a:v.list.length<4611686018427387904:=ae
 have b:v.pairs.length<4611686018427387904:=ae
 have c:v.slots.length<4611686018427387904:=ae
 have d:v.raws.length<4611686018427387904:=ae
 dsimp only[PK,vz,vy,wg,lr,Ai];congr 1;unfold EQ;rw[KQ];simp only[Yb,Yr];omega
theorem ZJ9(n:Int):Lj n=some (Dw n):=by dsimp only[Lj,lr];unfold Dw;rw[Bool.decide_or]
theorem ZIu(n:Int):PY n=some (Dw n):=by dsimp only[PY,lr];unfold Dw;rw[Bool.decide_or]
theorem ul{v:Val}(h:SzV v):cU v=some (EQ v&&(if Dw v.kind=true then decide (v.bits=0)else decide (v.text=⟨#[]⟩))):=by
 obtain⟨t1,t2,t3,t4,t5⟩:=h;have a:v.list.length<4611686018427387904:=ae
 have b:v.pairs.length<4611686018427387904:=ae
 have c:v.slots.length<4611686018427387904:=ae
 have d:v.raws.length<4611686018427387904:=ae
 have e:v.list.length+v.pairs.length<9223372036854775808:=ae
 have f:v.list.length+v.pairs.length+v.slots.length<9223372036854775808:=ae
 have g:v.list.length+v.pairs.length+v.slots.length+v.raws.length<9223372036854775808:=ae
 have hl:decide ((0:Int)<((v.list.length+v.pairs.length+v.slots.length+v.raws.length:Nat):Int))=!EQ v:=by unfold EQ;rw[<-decide_not];refine decide_eq_decide.2 ?_;omega
 dsimp only[cU,br,vz,wg,vs,lr,cl,wa,Ai,br];simp only[a,b,c,d,e,f,g,Yp];rw[hl,ZIu,Ya];cases EQ v<;>cases Dw v.kind<;>rfl
theorem Zx0(n b:Int):cQ n b=some (IR n b):=by
 unfold IR;dsimp only[cQ,br,vz,vy,lr,br];by_cases a:n=1
 ·subst a;rfl
 by_cases c:n=2
 ·subst c;simp only[Yo,Yx,Yp,YC,CQ,show¬(2:Int)=1 by decide,Yi];rw[OX]
 by_cases e:n=9
 ·subst e;rfl
 by_cases d:n=4
 ·subst d;rfl
 simp only[a,c,d,e,Yx,Yi,YC]
theorem ZHN(n b:Int)(h:1<=n/\n<=9)(d:Dw n=false):(if decide (n=1)=true then some (decide (b<=1))else if decide (n=2)=true then some (decide (-2147483648<=IntKind.i64.wrap b)&&decide (IntKind.i64.wrap b<=2147483647))else if decide (n=4)=true then some (decide (b<4294967296))else if decide (n=9)=true then some (decide (b<2147483648))else some true)=some (IR n b):=by
 unfold IR;have a:decide (b<4294967296)=decide (b<=4294967295):=decide_eq_decide.2 ae;have c:decide (b<2147483648)=decide (b<=2147483647):=decide_eq_decide.2 ae;rw[a,c];simp only[Yr,OX]
 repeat' (first|rfl|split)
theorem ZJm(n:Int){v:Val}(h:SzV v):JM n v=some (Fr n v):=by
 have f:=h.t;have j:v.text.size<4611686018427387904:=ae
 have g:Lm n=some (decide (1<=n)&&decide (n<=9)):=rfl;have k:∀x y z:Bool,(if((x&&y)&&!z)=true then True else True)=True:=λx y z=>by split<;>rfl
 dsimp only[JM,br,vz,vy,wg,lr,cl,Ax,A1,br];rw[g,jN h,ZJ9,ZsS _ f,Ya];unfold Fr;by_cases c:1<=n/\n<=9/\v.kind=n
 ·obtain⟨a,b,d⟩:=c;simp only[a,b,d,B5,Yo,H1,YN,KS,Gq,YQ,Jw,Y0,YI,Yp,Ya,CQ,j,Y4];cases hl:EQ v with
  |false=>rfl
  |true=>
   cases i:Dw n with
   |true=>
    simp only[YN,Yi,YC,Yp,Y4];rw[OX];congr 3;exact decide_eq_decide.2 ae
   |false=>
    simp only[YN,Yi,YC,Y4];by_cases hx:v.text=⟨#[]⟩
    ·simp only[hx,Yo,YN,Yi,YC,Y4];exact ZHN n v.bits ⟨a,b⟩ i
    ·simp only[hx,Yx,YQ,Yp,Y5]
 ·have e:((!(decide (1<=n)&&decide (n<=9)))||!decide (v.kind=n))=true:=by simp only[YB,YO,Ia,YE];omega
  simp only[e,c,Yx,Y5,YN,Yi,H3,Yp,Ha]
theorem ZKd(n:Int){v:Val}(h:SzV v):di n v=some (Fr n v):=by
 have j:=h.t;have o:v.text.size<4611686018427387904:=ae
 have l:Ni n=some (decide (1<=n)&&decide (n<=9)):=rfl;dsimp only[di,br,vy,wg,lr,cl,Ax,A1,br];rw[l,ul h,Zx0,r4 _ j,Ya];unfold Fr;by_cases c:1<=n/\n<=9/\v.kind=n
 ·obtain⟨f,g,i⟩:=c;simp only[f,g,i,B5,Yo,H1,YN,KS,Gq,YQ,Jw,Y0,YI,Yp,Ya,CQ,o,Y4];cases hl:EQ v with
  |false=>rfl
  |true=>
   cases b:Dw n with
   |true=>
    have m:IR n v.bits=true:=(by unfold Dw at b;rw[Yr]at b;unfold IR;rw[Yk ae,Yk ae,Yk ae,Yk ae]);rw[m];by_cases d:v.bits=0
    ·by_cases hs:v.text.size<=4096
     ·have a:¬(4096:Int)<v.text.size:=ae;unfold Dw at b;rw[Yr]at b;simp only[d,hs,a,Yo,Yx,B5,YN,KS,Yi,YC,Yp,Y4,H1,YQ];congr 2;rw[<-decide_not];exact decide_eq_decide.2 ae
     ·have a:(4096:Int)<v.text.size:=ae;simp only[hs,a,Yo,Yx,FG,OP,Yp,Y5,Gp]
    ·simp only[d,Yx,Gp,YQ,Ha,OP,Yp,Dl,Y5,Y4]
   |false=>
    have hs:v.text=⟨#[]⟩->¬(4096:Int)<v.text.size:=λe=>by rw[e];decide
    have k:¬n=7:=(by unfold Dw at b;rw[YE]at b;omega);by_cases hx:v.text=⟨#[]⟩
    ·have hs:=hs hx;simp only[hx,hs,k,Yo,Yx,YN,YQ,Yi,YC,Y4,H2,Gq,Ha,Mp];rw[hx]at hs;simp only[hs,Yx,Mp];cases IR n v.bits<;>rfl
    ·simp only[hx,Yx,YQ,Ha,Yp,Y5,Gp,Yi,YC,YN,OP,Y4]
 ·have e:((!(decide (1<=n)&&decide (n<=9)))||!decide (v.kind=n))=true:=by simp only[YB,YO,Ia,YE];omega
  simp only[e,c,Yx,Y5,YN,Yi,H3,Yp,Ha]
theorem mg(n:Int){v:Val}(h:SzV v):cg n v=some (CD n v):=by
 have f:=h.t;have d:v.text.size<4611686018427387904:=ae
 dsimp only[cg,br,vz,wg,lr,cl,Ax,A1,br];rw[fh h,ZJm n h,Ya];unfold CD;by_cases c:v.kind=n
 ·cases g:BO v with
  |true=>simp[c]
  |false=>
   by_cases b:4096<v.text.size
   ·have a:(4096:Int)<v.text.size:=ae;simp[c,d,b,a]
   ·have a:¬(4096:Int)<v.text.size:=ae;cases Fr n v with
    |true=>simp[c,d,b,a]
    |false=>
     by_cases e:n=7
     ·simp[c,d,b,a,e]
     ·simp[c,d,b,a,e]
 ·simp[c]
theorem eF{n:Int}{v:Val}(c:1<=n)(d:n<=9)(e:v.kind=n)(a:BO v=false):EQ v=true/\(Dw n=true->v.bits=0)/\(Dw n=false->v.text=⟨#[]⟩):=by
 unfold BO at a;rw[YE]at a;simp only[not_or,Classical.not_and_iff_not_or_not,Classical.not_not,ne_eq]at a;obtain⟨a1,b,a3,a4,a5⟩:=a;unfold EQ Dw;rw[Yr,Yr,YE];refine⟨ae,λh=>?_,λh=>?_⟩
 ·rcases a5 with a5|a5
  ·exact a5
  ·omega
 ·rcases a4 with a4|a4
  ·exact a4
  ·omega
def MD(s:Scm)(t:Typ)(v:Val):Int:=if CD t.kind v≠0\/t.kind≠9 then CD t.kind v else if(B8 s t.name).1.opn=false/\Gl (B8 s t.name).1 v.bits=false then 16 else 0
theorem u1(s:Scm)(n:ByteArray)(h:s.enums.length<=1048576):dv s n=some (B8 s n):=by
 have c:=Ez (B:=QK s.enums λz=>PX z n) (N:=Ah) s.enums (λe=>decide (e.name=n)) (λi=>(s.enums.getD i default,true)) () (λi x hx=>by
  have a:=A5 hx;have d:=(Yc.1 hx).1;have b:i+1<9223372036854775808:=ae
  have e:PX x n=some (decide (x.name=n)):=rfl;dsimp only[QK,br,ix,wg,vs,Aq,ln,Af,cf,wa,br];simp only[a,b,hx,e,Yo,Yp,Ya,Yg,YI];cases decide (x.name=n)<;>simp) (by simp[QK,br,ix,wg,vs,Aq,ln,Af,cf,wa,br]) (AM ae)
 dsimp only[dv,wg,lr,cs,cE,vz,wg,lr,lc,Ai];unfold B8;rw[c,NA];cases s.enums.findIdx? λm=>decide (m.name=n)<;>rfl
theorem vW(s:Scm)(n:ByteArray)(h:s.enums.length<=1048576):bY s n=some (B8 s n):=by
 have d:=Ez (B:=QF s n) (N:=Ah) s.enums (λe=>decide (e.name=n)) (λi=>(s.enums.getD i default,true)) () (λi x hx=>by
  have a:=A5 hx;have f:=(Yc.1 hx).1;have b:i+1<9223372036854775808:=ae
  have c:s.enums.length<4611686018427387904:=ae
  dsimp only[QF,br,ix,vz,wg,vs,Aq,ln,Af,wa,Ai,br];simp only[a,b,c,hx,Yo,Yp,Ya,Yg,YI];cases decide (x.name=n)<;>simp) (by simp[QF,br,ix,vz,wg,vs,Aq,ln,Af,wa,Ai,br]) (AM ae)
 dsimp only[bY,wg,lr,lc];unfold B8;rw[d,NA];cases s.enums.findIdx? λm=>decide (m.name=n)<;>rfl
theorem UL{s:Scm}(h:SzS s)(n:ByteArray):(B8 s n).1.items.length<=1048576:=by
 unfold B8 Df;cases e:s.enums.find? λm=>decide (m.name=n)with
 |none=>decide
 |some m=>exact(h.e m (Mm e)).il
theorem tu{s:Scm}(hs:Ap (Al s)<=1048576)(n:ByteArray):∀x∈(B8 s n).1.items,-9223372036854775808<=x.num:=by
 unfold B8 Df;cases e:s.enums.find? λm=>decide (m.name=n)with
 |none=>intro x hx;cases hx
 |some m=>
  intro x hx;have a:=Da (e:=BC) (Mm e);have b:=Da (e:=CJ) (show x∈m.items from hx);simp only[Al,Ap,bk]at hs;simp only[BC,Ap,bk]at a;simp only[CJ,Ap,bk]at b;have:=lF (k:=.i64) (n:=x.num) ae;exact this.1
theorem uv(e:Enm)(b:Int)(h:e.items.length<=1048576)(k:∀x∈e.items,-9223372036854775808<=x.num)(p:b<9223372036854775808):PL e b=some (Gl e b):=by
 have j:e.items.length<4611686018427387904:=ae
 have m:=Ez (B:=QN e b) (N:=Ah) e.items (λx=>decide (IntKind.u64.wrap x.num=b)) (λ_=>true) () (λi x hx=>by
  have a:=A5 hx;have n:=(Yc.1 hx).1;have d:i+1<9223372036854775808:=ae
  have o:=k x (Yh hx);have f:e.items.getD (i:Int).toNat Rw.z=x:=by rw[YW,Yg,hx];rfl
  have g:(0:Int)<=i/\(i:Int)<e.items.length:=⟨ae,a⟩;have key:(decide ((0:Int)<=x.num)&&decide (IntKind.u64.wrap x.num=b))=decide (IntKind.u64.wrap x.num=b):=by
   by_cases c:(0:Int)<=x.num
   ·rw[Yq c,Y4]
   ·have l:IntKind.u64.wrap x.num=x.num%18446744073709551616:=rfl;rw[Ys c,Y5];symm;rw[YE,l];omega
  dsimp only[QN,br,ix,AW,vz,vy,wg,vs,Aq,ln,Af,wa,Ai,br];simp only[j,a,d,f,g,hx,Yo,Yp,Ya,B5,CQ,key];cases decide (IntKind.u64.wrap x.num=b)<;>simp) (by simp[QN,br,ix,AW,vz,vy,wg,vs,Aq,ln,Af,wa,Ai,br]) (AM ae)
 dsimp only[PL,lr,lc];unfold Gl;rw[m,<-Mk];cases e.items.findIdx? λx=>decide (IntKind.u64.wrap x.num=b)<;>rfl
theorem Zvw(l:List Itm)(f:Itm->Option Bool)(p:Itm->Bool)(d:∀x∈l,f x=some (p x))(h:l.length<=1048576):TP l f=some (l.any p):=by
 have e:=Ez (B:=Qy l f) (N:=Ah) l p (λi=>(i:Int)) () (λi x hx=>by
  have a:=A5 hx;have g:=(Yc.1 hx).1;have b:i+1<9223372036854775808:=ae
  have c:=d x (Yh hx);dsimp only[Qy,br,ix,vs,Aq,ln,Af,cf,wa,br];simp only[a,b,c,hx,Yo,Yp,Ya];cases p x<;>simp) (by simp[Qy,br,ix,vs,Aq,ln,Af,cf,wa,br]) (AM ae)
 dsimp only[TP,lr,cs,cK,vz,lr,lc,Ai];rw[e,<-Mk];cases l.findIdx? p with
 |none=>rfl
 |some i=>simp
theorem rE(e:Enm)(b:Int)(h:e.items.length<=1048576):cO e b=some (e.opn||Gl e b):=by dsimp only[cO,wg,lr,CF];rw[Zvw e.items (λz=>TX z b) (λx=>decide (IntKind.u64.wrap x.num=b)) (λx _=>rfl) h];unfold Gl;cases e.opn<;>simp
theorem ZQZ{v:Val}(c:v.kind=7)(d:BO v=false)(b:¬4096<v.text.size):Fr 7 v=Er v.text:=by
 obtain⟨a1,a,a3⟩:=eF (n:=7) (by decide) (by decide) c d;have a:=a (by decide);unfold Fr;rw[a1,show Dw 7=true by decide,c,a];have b:v.text.size<=4096:=ae
 simp[b]
theorem jc(s:Scm)(t:Typ){v:Val}(hs:SzS s)(h:SzV v):dx s t v=some (MD s t v):=by
 have i:=h.t;have d:v.text.size<4611686018427387904:=ae
 dsimp only[dx,br,vz,wg,lr,cl,Ax,A1,br];rw[fW h,r4 _ i,ZKd t.kind h,u1 s _ hs.el,Ya,Ya,rE _ _ (UL hs _)];unfold MD CD;by_cases c:v.kind=t.kind
 ·cases j:BO v with
  |true=>simp[c]
  |false=>
   by_cases a:4096<v.text.size
   ·have b:(4096:Int)<v.text.size:=ae;simp[c,d,a,b]
   ·have b:¬(4096:Int)<v.text.size:=ae;by_cases e:t.kind=7
    ·have g:=ZQZ (c.trans e) j a;rw[e]at c⊢;rw[g];cases Er v.text with
     |false=>simp[c,d,a,b]
     |true=>simp[c,d,a,b]
    ·cases Fr t.kind v with
     |false=>simp[c,d,a,b,e]
     |true=>
      by_cases f:t.kind=9
      ·simp[c,d,a,b,e,f];cases(B8 s t.name).1.opn<;>cases Gl (B8 s t.name).1 v.bits<;>simp
      ·simp[c,d,a,b,e,f]
 ·simp[c]
end Go.Proofs.YtalafnjhcecdpaaGreatDoor
