import Derived.Test.YtalafnjhcecdpaaGreatDoorZb21
import Derived.Sort.Walk0
import Derived.Test.YtalafnjhcecdpaaGreatDoorZb00
namespace Go.Proofs.YtalafnjhcecdpaaGreatDoor
set_option linter.all false
open Go Go.Eng
theorem vld(c:Nat):Utf8.valid (c:Int)=decide (c<0xD800∨0xE000≤c∧c≤0x10FFFF):=by
 unfold Utf8.valid
 rw[Wf]
 simp only[YG,Yc,YB]
 omega
theorem zf(a b c d:Nat)(i j l:Prop)[Decidable i][Decidable j][Decidable l](r:a<256)(s:b<256)(t:c<256)(u:d<256)(z:Nat)
 (g:z=if a<0x80 then 1
 else if 0xc2≤a∧a≤0xdf∧i∧0x80≤b∧b≤0xbf then 2
 else if a=0xe0∧(i∧0xa0≤b∧b≤0xbf)∧(j∧0x80≤c∧c≤0xbf)then 3
 else if a=0xed∧(i∧0x80≤b∧b≤0x9f)∧(j∧0x80≤c∧c≤0xbf)then 3
 else if 0xe1≤a∧a≤0xef∧a≠0xed∧(i∧0x80≤b∧b≤0xbf)∧(j∧0x80≤c∧c≤0xbf)then 3
 else if a=0xf0∧(i∧0x90≤b∧b≤0xbf)∧(j∧0x80≤c∧c≤0xbf)∧(l∧0x80≤d∧d≤0xbf)then 4
 else if 0xf1≤a∧a≤0xf3∧(i∧0x80≤b∧b≤0xbf)∧(j∧0x80≤c∧c≤0xbf)∧(l∧0x80≤d∧d≤0xbf)then 4
 else if a=0xf4∧(i∧0x80≤b∧b≤0x8f)∧(j∧0x80≤c∧c≤0xbf)∧(l∧0x80≤d∧d≤0xbf)then 4
 else 0) (D:Nat×Nat) (f:D=if a<0x80 then(a,1)
 else if a/32=6∧i∧b/64=2 then
  if(a%32)*64+b%64≥0x80 then((a%32)*64+b%64,2)else(65533,1)
 else if a/16=14∧(i∧b/64=2)∧(j∧c/64=2)then
  if(a%16)*4096+(b%64)*64+c%64≥0x800∧((a%16)*4096+(b%64)*64+c%64<0xD800∨0xE000≤(a%16)*4096+(b%64)*64+c%64∧(a%16)*4096+(b%64)*64+c%64≤0x10FFFF)then((a%16)*4096+(b%64)*64+c%64,3)else(65533,1)
 else if a/8=30∧(i∧b/64=2)∧(j∧c/64=2)∧(l∧d/64=2)then
  if(a%8)*262144+(b%64)*4096+(c%64)*64+d%64≥0x10000∧((a%8)*262144+(b%64)*4096+(c%64)*64+d%64<0xD800∨0xE000≤(a%8)*262144+(b%64)*4096+(c%64)*64+d%64∧(a%8)*262144+(b%64)*4096+(c%64)*64+d%64≤0x10FFFF)then((a%8)*262144+(b%64)*4096+(c%64)*64+d%64,4)else(65533,1)
 else(65533,1)):(z=0→D.1=65533∧¬(a=0xef∧(i∧b=0xbf)∧(j∧c=0xbd)))∧(z≠0→D.2=z∧(D.1=65533→a=0xef∧(i∧b=0xbf)∧(j∧c=0xbd))):=by
 by_cases a0:a<128
 ·rw[Yj a0]at g f
  subst g f
  exact⟨fun h=>absurd h (by decide),fun _=>⟨rfl,fun h=>by dsimp only at h;omega⟩⟩
 rw[Yh a0]at g f
 by_cases a1:a/32=6
 ·simp only[show¬a=224 by omega,show¬a=237 by omega,show¬225≤a by omega,show¬a=240 by omega,show¬241≤a by omega,show¬a=244 by omega,show¬a/16=14 by omega,show¬a/8=30 by omega,show¬a=0xef by omega,DM,YI,HA,a1,DN,Lz,JS]at g f⊢
  by_cases k:i
  ·simp only[k,DN]at g f
   split at g<;>split at f<;>(try split at f)<;>subst g f<;>dsimp only<;>omega
  ·simp only[k,DM,YI,HA]at g f
   subst g f
   exact⟨fun _=>rfl,fun h=>absurd rfl h⟩
 by_cases p:a/16=14
 ·simp only[show¬a≤223 by omega,show¬a=240 by omega,show¬241≤a by omega,show¬a=244 by omega,show¬a/8=30 by omega,a1,p,DM,YI,HA,DN]at g f⊢
  by_cases k:i<;>by_cases o:j<;>simp only[k,o,DN,DM,HA,YI]at g f⊢
  ·by_cases m:a=0xe0
   ·subst m
    simp only[show¬(224=237)by decide,show¬225≤224 by decide,DN,DM,YI]at g
    split at g<;>split at f<;>(try split at f)<;>subst g f<;>dsimp only<;>omega
   ·by_cases n:a=0xed
    ·subst n
     simp only[show¬(237=224)by decide,ne_eq,Ly,DN,DM,HA,YI]at g
     split at g<;>split at f<;>(try split at f)<;>subst g f<;>dsimp only<;>omega
    ·simp only[m,n,DM,YI]at g
     split at g<;>split at f<;>(try split at f)<;>subst g f<;>dsimp only<;>omega
  all_goals(subst g f;exact⟨fun _=>⟨rfl,by simp⟩,fun h=>absurd rfl h⟩)
 ·simp only[show¬(a=0xef)by omega,show¬a=224 by omega,show¬a=237 by omega,a1,p,DM,YI,Lz,JS]at g f⊢
  rw[Yh (by omega:¬(0xc2≤a∧a≤0xdf∧i∧0x80≤b∧b≤0xbf)),Yh (by omega:¬(0xe1≤a∧a≤0xef∧a≠0xed∧(i∧0x80≤b∧b≤0xbf)∧(j∧0x80≤c∧c≤0xbf)))]at g
  by_cases e:i∧j∧l
  ·obtain⟨k,o,q⟩:=e
   simp only[k,o,q,DN]at g f
   by_cases m:a=0xf0
   ·subst m
    simp only[show¬(240=244)by decide,show¬241≤240 by decide,DN,DM,YI]at g
    split at g<;>split at f<;>(try split at f)<;>subst g f<;>dsimp only<;>omega
   ·by_cases n:a=0xf4
    ·subst n
     simp only[show¬(244=240)by decide,show¬244≤243 by decide,DN,DM,HA,YI]at g
     split at g<;>split at f<;>(try split at f)<;>subst g f<;>dsimp only<;>omega
    ·simp only[m,n,DM,YI]at g
     split at g<;>split at f<;>(try split at f)<;>subst g f<;>dsimp only<;>omega
  ·rw[Yh (fun h=>e ⟨h.2.1.1,h.2.2.1.1,h.2.2.2.1⟩),Yh (fun h=>e ⟨h.2.2.1.1,h.2.2.2.1.1,h.2.2.2.2.1⟩),Yh (fun h=>e ⟨h.2.1.1,h.2.2.1.1,h.2.2.2.1⟩)]at g
   rw[Yh (fun h=>e ⟨h.2.1.1,h.2.2.1.1,h.2.2.2.1⟩)]at f
   subst g f
   exact⟨fun _=>rfl,fun h=>absurd rfl h⟩
theorem qi(x:ByteArray)(p:Nat):(CX x p=0→(Utf8.decode x p).1=65533∧¬((x.get! p).toNat=0xef∧(p+1<x.size∧(x.get! (p+1)).toNat=0xbf)∧(p+2<x.size∧(x.get! (p+2)).toNat=0xbd)))∧(CX x p≠0→(Utf8.decode x p).2=CX x p∧((Utf8.decode x p).1=65533→((x.get! p).toNat=0xef∧(p+1<x.size∧(x.get! (p+1)).toNat=0xbf)∧(p+2<x.size∧(x.get! (p+2)).toNat=0xbd)))):=
 zf (x.get! p).toNat (x.get! (p+1)).toNat (x.get! (p+2)).toNat (x.get! (p+3)).toNat (p+1<x.size) (p+2<x.size) (p+3<x.size) (x.get! p).toNat_lt (x.get! (p+1)).toNat_lt (x.get! (p+2)).toNat_lt (x.get! (p+3)).toNat_lt _ (by
  unfold CX DI
  simp only[Yc,YB,and_assoc]) _ (by
  unfold Utf8.decode
  simp only[vld,FY,Yc,YB,beq_iff_eq,Utf8.runeError,and_assoc])
theorem vK(x:ByteArray)(p:Nat):x.data.toList.getD p 0=x.get! p:=by
 cases x with
 |mk d=>
  show d.toList.getD p 0=d.getD p 0
  rw[Ym,YD,Yz]
theorem ZzH(x:ByteArray):∀(k p n m:Nat),x.size-p=k→x.size-p<n→x.size-p<m→FL x n p=FL x m p:=by
 intro k
 induction k using Nat.strongRecOn with
 |_ k c=>
  intro p n m d e hm
  obtain⟨n,rfl⟩:∃j,n=j+1:=⟨n-1,by omega⟩
  obtain⟨m,rfl⟩:∃j,m=j+1:=⟨m-1,by omega⟩
  unfold FL
  by_cases a:p<x.size
  ·rw[Yj a,Yj a]
   by_cases b:CX x p=0
   ·rw[Yj b,Yj b]
   ·rw[Yh b,Yh b]
    exact c (x.size-(p+CX x p)) (by omega) _ _ _ rfl (by omega) (by omega)
  ·rw[Yh a,Yh a]
def Jg(x:ByteArray)(p:Nat):Bool:=FL x (x.size+1-p) p
theorem ZuO{x:ByteArray}{p:Nat}(h:x.size≤p):Jg x p=true:=by
 unfold Jg
 cases x.size+1-p with
 |zero=>rfl
 |succ n=>unfold FL;rw[Yh (by omega)]
theorem Zst{x:ByteArray}{p:Nat}(h:p<x.size):Jg x p=if CX x p=0 then false else Jg x (p+CX x p):=by
 unfold Jg
 obtain⟨n,e⟩:∃n,x.size+1-p=n+1:=⟨x.size-p,by omega⟩
 rw[e]
 conv=>lhs;unfold FL
 rw[Yj h]
 by_cases a:CX x p=0
 ·rw[Yj a,Yj a]
 ·rw[Yh a,Yh a]
  by_cases b:p+CX x p<x.size
  ·exact ZzH x _ _ _ _ rfl (by omega) (by omega)
  ·have c:FL x n (p+CX x p)=true:=by
    cases n with
    |zero=>rfl
    |succ n=>unfold FL;rw[Yh b]
   have d:FL x (x.size+1-(p+CX x p)) (p+CX x p)=true:=by
    cases x.size+1-(p+CX x p)with
    |zero=>rfl
    |succ n=>unfold FL;rw[Yh b]
   rw[c,d]
theorem vU(x:ByteArray):Hd x=Jg x 0:=rfl
theorem wZ{α:Type}(m:List α)(a b c:α):m.take 3=[a,b,c]↔m[0]?=some a∧m[1]?=some b∧m[2]?=some c:=by
 match m with
 |[]=>simp
 |[x]=>simp
 |[x,y]=>simp
 |x::y::z::l=>simp
theorem wI{x y:ByteArray}:x=y↔x.data.toList=y.data.toList:=by
 constructor
 ·rintro rfl
  rfl
 ·intro h
  cases x
  cases y
  congr 1
  exact Array.toList_inj.1 h
theorem nf(x:ByteArray)(a b:Nat):(x.extract a b).data.toList=(x.data.toList.take b).drop a:=by
 rw[ByteArray.data_extract,Array.toList_extract,List.extract_eq_take_drop,List.drop_take]
theorem Wn(x:ByteArray)(p:Nat)(c:UInt8):x.data.toList[p]?=some c↔p<x.size∧(x.get! p).toNat=c.toNat:=by
 rw[←vK,Ym]
 have hs:x.size=x.data.toList.length:=F0.symm
 rw[hs]
 constructor
 ·intro h
  rw[h]
  exact⟨(Ye.1 h).1,rfl⟩
 ·rintro⟨b,a⟩
  rw[Ya b]at a⊢
  rw[YT]at a
  rw[UInt8.toNat_inj.1 a]
theorem wW(x:ByteArray)(p:Nat)(f:p<x.size)(h:x.size≤1048576):Zy (x.extract p x.size) ⟨#[239,191,189]⟩=some (decide ((x.get! p).toNat=0xef∧(p+1<x.size∧(x.get! (p+1)).toNat=0xbf)∧(p+2<x.size∧(x.get! (p+2)).toNat=0xbd))):=by
 have g:(x.extract p x.size).size=x.size-p:=by rw[fJ];omega
 have hl:(x.extract p x.size).data.toList=x.data.toList.drop p:=by
  have e:x.data.toList.take x.size=x.data.toList:=LF (JU F0)
  rw[nf,e]
 have key:(x.extract p x.size).extract 0 3=⟨#[239,191,189]⟩↔((x.get! p).toNat=0xef∧(p+1<x.size∧(x.get! (p+1)).toNat=0xbf)∧(p+2<x.size∧(x.get! (p+2)).toNat=0xbd)):=by
  rw[wI,nf,hl,IH]
  show(x.data.toList.drop p).take 3=[239,191,189]↔_
  rw[wZ,YW,YW,YW,Wn,Wn,Wn]
  exact⟨fun h=>⟨h.1.2,h.2⟩,fun h=>⟨⟨f,h.1⟩,h.2⟩⟩
 have b:(⟨#[239,191,189]⟩:ByteArray).size=3:=rfl
 generalize x.extract p x.size=y at g key
 dsimp only[Zy,lr,cl,mr,vz,vy,lr,A5]
 rw[b]
 have w:y.size<4611686018427387904:=by omega
 by_cases c:3≤y.size
 ·have a:((3:Nat):Int)≤y.size:=by omega
  simp only[w,Yy,a,Yt,NU,Bd.c,Bd.vl,DZ,Yd,show(3:Nat)<4611686018427387904 by decide,Cj,DN,c,DO,Fj]
  congr 1
  exact decide_eq_decide.2 key
 ·have a:¬((3:Nat):Int)≤y.size:=by omega
  simp only[w,Yy,a,YK,Yn,LM,DP,Yd,show(3:Nat)<4611686018427387904 by decide,Fj]
  congr 1
  symm
  rw[YS]
  intro d
  have:=d.2.2.1
  omega
theorem uA(x:ByteArray)(p:Nat)(f:p<x.size)(h:x.size≤1048576):ay x (p:Int) (Jz x p)=some (decide (CX x p=0)):=by
 obtain⟨d1,d2⟩:=qi x p
 have i:=wW x p f h
 have c:Jz x p=((Utf8.decode x p).1:Nat):=rfl
 dsimp only[ay,lr,AD]
 by_cases e:Jz x p=65533
 ·have g:(0:Int)≤p∧(p:Int)≤x.size:=by omega
  have b:p≤x.size:=by omega
  simp only[e,Yt,DZ,NU,Bd.c,Bd.vl,Fo,i,Fm,YT,Yy,g,b,DN,DO,Yf]
  congr 1
  rw[←decide_not]
  refine decide_eq_decide.2 ⟨fun d=>?_,fun a=>(d1 a).2⟩
  rcases QY (CX x p)with a|a
  ·exact a
  ·exact absurd ((d2 (by omega)).2 (by rw[c]at e;omega)) d
 ·have a:¬CX x p=0:=fun a=>e (by rw[c,(d1 a).1];rfl)
  simp only[e,YK,DP,Yn,LM,Yy,a]
theorem oH(x:ByteArray)(h:x.size≤1048576):au x=some (Hd x):=by
 have q:Ok (Sum.elim (fun _=>Hd x=true) (fun r:Int=>0≤r∧Hd x=false)) (Ah (Ur x) Ag 0):=by
  refine Bz (fun v:Nat=>Hd x=Jg x v) (fun v:Nat=>x.size-v) (vU x) (AZ (by omega)) fun v f=>?_
  dsimp only[Ur,br,wg,Ar,ln,Af,cl,br]
  by_cases d:v<x.size
  ·have b:=Zst d
   simp only[d,Yt,Yy,uA x v d h,Yd]
   by_cases c:CX x v=0
   ·rw[Yj c]at b
    simp only[c,Yt,Yy]
    exact⟨_,rfl,by omega,by rw[f,b]⟩
   ·rw[Yh c]at b
    have i:EE x v=CX x v:=((qi x v).2 c).1
    simp only[c,YK,Yn,YI]
    refine⟨_,rfl,?_,?_⟩
    ·show Hd x=Jg x (v+EE x v)
     rw[f,b,i]
    ·show x.size-(v+EE x v)<x.size-v
     omega
  ·simp only[d,YK,Yn,YI]
   exact⟨_,rfl,by rw[f,ZuO (by omega)]⟩
 obtain⟨y,e,a⟩:=q
 dsimp only[au,lr,cl,nW,lr,lc]
 rw[e]
 cases y with
 |inl y=>
  have a:Hd x=true:=a
  rw[a]
  rfl
 |inr r=>
  obtain⟨a1,g⟩:=a
  rw[g]
  simp only[Yd,Sum.elim_inr]
  rw[show decide (r<0)=false by simpa using a1]
end Go.Proofs.YtalafnjhcecdpaaGreatDoor
namespace Go.Proofs.YtalafnjhcecdpaaGreatDoor
set_option linter.all false
open Go Go.Eng
def VL(c:Nat)(x:Val):Prop:=∀a,c≤a→Ok (fun b=>b=true) (Kg a x x)
theorem VL.mono{c d:Nat}{x:Val}(h:VL c x)(k:c≤d):VL d x:=fun a b=>h a (CP k b)
theorem MG{n:Nat}(h:n<18446744073709551616):IntKind.u64.wrap (n:Int)=n:=by
 unfold IntKind.wrap
 have:(IntKind.u64.bits)=64:=rfl
 simp only[this,show IntKind.u64.signed=false from rfl,DP,Yn,YI]
 omega
theorem MW(n:Nat):BitVec.ofInt 64 (n:Int)=BitVec.ofNat 64 n:=BitVec.ofInt_natCast ..
theorem ba{n m:Nat}(a:n<18446744073709551616)(hm:m<18446744073709551616):Dh .u64 (n:Int) (m:Int)=((n&&&m:Nat):Int):=by
 unfold Dh
 have h:(BitVec.ofInt 64 (n:Int)&&&BitVec.ofInt 64 (m:Int)).toNat=n&&&m:=by
  rw[MW,MW,BitVec.toNat_and,NV,NV,JP a,JP hm]
 show IntKind.u64.wrap (((BitVec.ofInt 64 (n:Int)&&&BitVec.ofInt 64 (m:Int)).toNat:Nat):Int)=_
 rw[h]
 exact MG (Nat.lt_of_le_of_lt Nat.and_le_left a)
theorem s8{n m:Nat}(a:n<18446744073709551616)(hm:m<18446744073709551616):GI .u64 (n:Int) (m:Int)=((n|||m:Nat):Int):=by
 unfold GI
 have h:(BitVec.ofInt 64 (n:Int)|||BitVec.ofInt 64 (m:Int)).toNat=n|||m:=by
  rw[MW,MW,BitVec.toNat_or,NV,NV,JP a,JP hm]
 show IntKind.u64.wrap (((BitVec.ofInt 64 (n:Int)|||BitVec.ofInt 64 (m:Int)).toNat:Nat):Int)=_
 rw[h]
 exact MG (Nat.or_lt_two_pow (n:=64) a hm)
theorem Zws{n:Nat}(a:n<18446744073709551616):Jc .u64 (n:Int)=((18446744073709551615-n:Nat):Int):=by
 unfold Jc L2
 have e:(if IntKind.u64.signed=true then(-1:Int)else IntKind.u64.max)=((18446744073709551615:Nat):Int):=rfl
 rw[e]
 have h:(BitVec.ofInt 64 ((18446744073709551615:Nat):Int)^^^BitVec.ofInt 64 (n:Int)).toNat=18446744073709551615-n:=by
  rw[MW,MW,show BitVec.ofNat 64 18446744073709551615=BitVec.allOnes 64 from rfl,BitVec.allOnes_xor,BitVec.toNat_not,NV,JP a]
 show IntKind.u64.wrap (((BitVec.ofInt 64 ((18446744073709551615:Nat):Int)^^^BitVec.ofInt 64 (n:Int)).toNat:Nat):Int)=_
 rw[h]
 exact MG (by omega)
theorem Zzw(n:Nat):n&&&9218868437227405312=(n/4503599627370496%2048)*4503599627370496:=by
 have e:(9218868437227405312:Nat)=2047<<<52:=rfl
 have a:n/4503599627370496%2048*4503599627370496=((n>>>52)%2^11)<<<52:=by
  rw[Nat.shiftLeft_eq,Nat.shiftRight_eq_div_pow]
 rw[e,a]
 apply Nat.eq_of_testBit_eq
 intro i
 have b:(2047:Nat)=2^11-1:=rfl
 rw[Nat.testBit_and,fD,fD,Nat.testBit_mod_two_pow,Nat.testBit_shiftRight,b,Nat.testBit_two_pow_sub_one]
 by_cases h:52≤i
 ·rw[show 52+(i-52)=i by omega]
  simp only[h,Yt,DZ]
  rw[Bool.and_comm]
 ·simp[h]
theorem ZuY(n:Nat):n&&&4503599627370495=n%4503599627370496:=Nat.and_two_pow_sub_one_eq_mod n 52
theorem Zvb{n:Nat}(b:n<18446744073709551616):n&&&9223372036854775808=if 9223372036854775808≤n then 9223372036854775808 else 0:=by
 have e:(9223372036854775808:Nat)=2^63:=rfl
 have k:n.testBit 63=decide (9223372036854775808≤n):=by
  rw[Nat.testBit_eq_decide_div_mod_eq,decide_eq_decide]
  omega
 apply Nat.eq_of_testBit_eq
 intro i
 rw[Nat.testBit_and]
 by_cases hi:63=i
 ·subst hi
  rw[k]
  by_cases h:9223372036854775808≤n
  ·simp[h]
  ·simp[h]
 ·have a:Nat.testBit 9223372036854775808 i=false:=by
   rw[e,Nat.testBit_two_pow]
   exact Yp hi
  rw[a,Hu]
  split
  ·exact a.symm
  ·simp
def FP(n:Nat):Bool:=decide (9218868437227405312<n%9223372036854775808)
theorem ld{n:Nat}(e:n<18446744073709551616):Ok (fun y:Int=>decide (y=0)=FP n) (Z0 (n:Int)):=by
 have a:=ba e (m:=9218868437227405312) (by omega)
 have b:=ba e (m:=4503599627370495) (by omega)
 rw[Zzw]at a
 rw[ZuY]at b
 have a:Dh .u64 (n:Int) 9218868437227405312=_:=a
 have b:Dh .u64 (n:Int) 4503599627370495=_:=b
 dsimp only[Z0,br,vz,lr,br]
 rw[a,b]
 unfold FP
 have f:(((n/4503599627370496%2048*4503599627370496:Nat):Int)=9218868437227405312)↔n/4503599627370496%2048=2047:=by omega
 have g:(((n%4503599627370496:Nat):Int)=0)↔n%4503599627370496=0:=by omega
 have h:9218868437227405312<n%9223372036854775808↔n/4503599627370496%2048=2047∧n%4503599627370496≠0:=by omega
 simp only[f,g,h]
 by_cases c:n/4503599627370496%2048=2047
 ·by_cases d:n%4503599627370496=0
  ·simp only[c,d];exact AB (by decide)
  ·simp only[c,d];exact AB (by simp[d])
 ·have i:decide (n/4503599627370496%2048=2047)=false:=Yp c
  simp only[i,c,DP,DM,YK,Yn,YI]
  refine AH (fun _=>AB (by decide)) fun _=>AH (fun _=>AB (by decide)) fun _=>AB (by decide)
theorem zu{n:Nat}(b:n<18446744073709551616):Ok (fun y:Int=>decide (y=0)=FP n) (ON (n:Int)):=by
 have e:Je .u64 (n:Int) 9223372036854775808=((n%9223372036854775808:Nat):Int):=by
  unfold Je
  rw[Int.tmod_eq_emod_of_nonneg (by omega)]
  omega
 dsimp only[ON,br,lr,br,rem]
 rw[e]
 unfold FP
 have g:(9218868437227405312:Int)<((n%9223372036854775808:Nat):Int)↔9218868437227405312<n%9223372036854775808:=by omega
 simp only[g]
 by_cases h:9218868437227405312<n%9223372036854775808
 ·simp only[h];first|exact AB (by decide)|simp
 ·have a:decide (9218868437227405312<n%9223372036854775808)=false:=Yp h
  simp only[a,Yn,YI]
  first
   |refine AH (fun _=>AB (by decide)) fun _=>AH (fun _=>AB (by decide)) fun _=>AH (fun _=>AB (by decide)) fun _=>AB (by decide)
   |simp
def CW(n:Nat):Nat:=if FP n=true then 18446744073709551615 else if 9223372036854775808≤n then 18446744073709551615-n else n+9223372036854775808
theorem Rb{n:Nat}(a:n<18446744073709551616):Z1 (n:Int)=some (CW n:Int):=by
 obtain⟨y,e,h⟩:=ld a
 have c:=ba a (m:=9223372036854775808) (by omega)
 rw[Zvb a]at c
 have c:Dh .u64 (n:Int) 9223372036854775808=_:=c
 have d:=Zws a
 have f:GI .u64 (n:Int) 9223372036854775808=((n|||9223372036854775808:Nat):Int):=s8 a (m:=9223372036854775808) (by omega)
 dsimp only[Z1,br,vz,lr,cl,br]
 rw[e,Yd,h,c,d,f]
 unfold CW
 cases FP n with
 |true=>rfl
 |false=>
  by_cases hs:9223372036854775808≤n
  ·simp[hs]
  ·have g:n|||9223372036854775808=n+9223372036854775808:=by
    have j:=Nat.two_pow_add_eq_or_of_lt (i:=63) (b:=n) (by omega) 1
    rw[Nat.or_comm]
    have k:9223372036854775808+n=9223372036854775808|||n:=j
    exact k.symm.trans (NQ _ _)
   simp[hs,g]
theorem k7{v:Val}{n:Nat}(i:n<18446744073709551616)(g:v.bits=(n:Int)):ZF v=some (if v.kind=2∨v.kind=3 then IntKind.u64.wrap ((n:Int)+9223372036854775808)else if v.kind=6 then(CW n:Int)else(n:Int)):=by
 obtain⟨y,e,h⟩:=zu i
 dsimp only[ZF,aT,br,vz,wg,lr,cl,br,mh,lr]
 rw[g]
 by_cases a:v.kind=2∨v.kind=3
 ·have b:(decide (v.kind=2)||decide (v.kind=3))=true:=by simpa using a
  simp only[b,a,Yy]
  rfl
 ·have b:(decide (v.kind=2)||decide (v.kind=3))=false:=by simpa using a
  simp only[b,a,Yn,YI]
  by_cases f:v.kind=6
  ·have j:=MG (n:=18446744073709551615-n) (by omega)
   simp only[f,Yt,Y7,Yn,YI,e,Yd,h]
   unfold CW
   cases FP n with
   |true=>rfl
   |false=>
    by_cases hs:9223372036854775808≤n
    ·have c:(9223372036854775808:Int)≤(n:Int):=by omega
     have d:(18446744073709551615:Int)-(n:Int)=((18446744073709551615-n:Nat):Int):=by omega
     simp[hs,c,d,j]
    ·have c:¬(9223372036854775808:Int)≤(n:Int):=by omega
     have d:(n:Int)+9223372036854775808=((n+9223372036854775808:Nat):Int):=by omega
     have w2:=MG (n:=n+9223372036854775808) (by omega)
     simp only[hs,c,d,w2,YK,Yn,YI,Yy]
  ·simp[f]
def BQ(a b:Int):Int:=if a<b then -1 else if b<a then 1 else 0
theorem K4(a b:Int):decide (BQ a b=0)=decide (a=b):=by
 unfold BQ
 by_cases h:a<b
 ·rw[Yj h,Yp (by omega:¬a=b)];rfl
 ·rw[Yh h]
  by_cases c:b<a
  ·rw[Yj c,Yp (by omega:¬a=b)];rfl
  ·rw[Yh c,Yo (by omega:a=b)];rfl
theorem L8(a b:Int):ZT a b=some (BQ a b):=by
 dsimp only[ZT,br,lr,cl,br,mB,lr]
 unfold BQ
 by_cases h:a<b
 ·simp[h]
 ·by_cases c:b<a<;>simp[h,c]
theorem RS(a b:Int):Zx a b=some (BQ a b):=by
 dsimp only[Zx,br,lr,cl,br,my,lr]
 unfold BQ
 by_cases h:a<b
 ·simp[h]
 ·by_cases c:b<a<;>simp[h,c]
def Vf(d x:Val):Bool:=decide (d.kind=x.kind)&&(if d.kind=7∨d.kind=8 then decide (d.text=x.text)else if d.kind=6 then decide (CW d.bits.toNat=CW x.bits.toNat)else decide (d.bits=x.bits))
def ED(a b:ByteArray):Int:=if BC a b=true then -1 else if a=b then 0 else 1
theorem U7(a b:ByteArray):decide (ED a b=0)=decide (a=b):=by
 unfold ED
 by_cases h:a=b
 ·subst h
  have:BC a a=false:=by
   unfold BC
   rw[Go.Proofs.bytesLess_eq]
   exact Yp (List.lt_irrefl _)
  simp[this]
 ·cases BC a b<;>simp[h]
theorem mb(a b:ByteArray):Zw a b=some (ED a b):=by
 dsimp only[Zw,br,lr,cl,br,mz,lr]
 unfold ED
 cases h:BC a b with
 |true=>simp
 |false=>by_cases c:a=b<;>simp[c]
theorem y5{d x:Val}(z:1≤d.kind∧d.kind≤9)(o:AR d)(p:AR x)(he:d.kind=x.kind):Ok (fun c:Int=>decide (c=0)=(if d.kind=7∨d.kind=8 then decide (d.text=x.text)else if d.kind=6 then decide (CW d.bits.toNat=CW x.bits.toNat)else decide (d.bits=x.bits))) (SN d x)∧Ok (fun c:Int=>decide (c=0)=(if d.kind=7∨d.kind=8 then decide (d.text=x.text)else if d.kind=6 then decide (CW d.bits.toNat=CW x.bits.toNat)else decide (d.bits=x.bits))) (mm d x):=by
 obtain⟨n,m⟩:=V6 (M0 o).1
 obtain⟨k,l⟩:=V6 (M0 p).1
 have r:n<18446744073709551616:=by have:=(M0 o).2;omega
 have q:k<18446744073709551616:=by have:=(M0 p).2;omega
 have y:(decide (1≤d.kind)&&decide (d.kind≤9))=true:=by simp[z]
 obtain⟨E,f⟩:∃E,E=(if d.kind=7∨d.kind=8 then decide (d.text=x.text)else if d.kind=6 then decide (CW d.bits.toNat=CW x.bits.toNat)else decide (d.bits=x.bits)):=⟨_,rfl⟩
 rw[←f]
 have C:=k7 r m
 have w:=k7 q l
 rw[←he]at w
 have t:(decide (1≤x.kind)&&decide (x.kind≤9))=true:=by rw[←he];exact y
 have B:¬d.kind<x.kind:=by omega
 have A:¬x.kind<d.kind:=by omega
 dsimp only[SN,br,vz,wg,lr,cl,br,My,lr,OS,lr,mm,br,wg,lr,cl,br,Sk,lr,Sn,lr]
 simp only[he,Yt,Y7,Yn,YI,t,Yd,YK,Yy,Int.lt_irrefl]
 rw[←he]
 by_cases s:d.kind=7∨d.kind=8
 ·have i:(decide (d.kind=7)||decide (d.kind=8))=true:=by simpa using s
  rw[Yj s]at f
  simp only[i,Yy,DZ,mb,Yd]
  refine⟨AB (by rw[f];exact U7 _ _),?_⟩
  have e:(if BC d.text x.text=true then some (-1:Int)else if(!(BC d.text x.text||decide (d.text=x.text)))=true then some 1 else some 0)=some (ED d.text x.text):=by
   unfold ED
   cases h:BC d.text x.text with
   |true=>simp
   |false=>by_cases u:d.text=x.text<;>simp[u]
  rw[e]
  exact AB (by rw[f];exact U7 _ _)
 ·have i:(decide (d.kind=7)||decide (d.kind=8))=false:=by simpa using s
  rw[Yh s]at f
  simp only[i,Yn,YI,DP,C,w,Yd]
  have D:∀a b:Int,(if decide (a<b)=true then some (-1:Int)else if decide (b<a)=true then some 1 else some 0)=some (BQ a b):=fun a b=>by
   unfold BQ
   by_cases h:a<b
   ·simp[h]
   ·by_cases u:b<a<;>simp[h,u]
  rw[D]
  by_cases hs:d.kind=2∨d.kind=3
  ·have g:(decide (d.kind=2)||decide (d.kind=3))=true:=by simpa using hs
   have j:¬d.kind=6:=by omega
   rw[Yh j]at f
   simp only[g,hs,Yy,L8,Yd]
   refine⟨AB (by rw[f,K4,decide_eq_decide,m,l,IntKind.wrap_i64,IntKind.wrap_i64];omega),AB (by rw[f,K4,decide_eq_decide,m,l];unfold IntKind.wrap;simp only[show IntKind.u64.bits=64 from rfl,show IntKind.u64.signed=false from rfl,DP,Yn,YI];omega)⟩
  ·have g:(decide (d.kind=2)||decide (d.kind=3))=false:=by simpa using hs
   simp only[g,hs,Yn,YI]
   by_cases j:d.kind=6
   ·rw[Yj j]at f
    have v:(CW d.bits.toNat=CW x.bits.toNat)↔((CW n:Int)=(CW k:Int)):=by rw[m,l];simp only[Fo];omega
    simp only[j,Yt,Yy,m,l,Rb r,Rb q,Yd,RS]
    exact⟨AB (by rw[f,K4,decide_eq_decide,v]),AB (by rw[f,K4,decide_eq_decide,v])⟩
   ·rw[Yh j]at f
    simp only[j,YK,Yn,YI,RS,Yd]
    exact⟨AB (by rw[f,K4]),AB (by rw[f,K4,decide_eq_decide,m,l])⟩
theorem lY{d x:Val}(f:1≤d.kind∧d.kind≤9)(b:AR d)(e:AR x):Mr d x=some (Vf d x):=by
 have g:(decide (1≤d.kind)&&decide (d.kind≤9))=true:=by simp[f]
 unfold Vf
 by_cases he:d.kind=x.kind
 ·obtain⟨⟨c,h,i⟩,_⟩:=y5 f b e he
  have a:(decide (1≤x.kind)&&decide (x.kind≤9))=true:=by rw[←he];exact g
  dsimp only[Mr,wg,lr,cl,MC,br,wg,lr,cl,br,ZR,wg,lr,cl,bT,My,lr]
  simp only[he,Yt,Y7,Yn,YI,a,Yy,Yd,h,DZ]
  rw[i,he]
 ·dsimp only[Mr,wg,lr,cl,MC,br,wg,lr,cl,br]
  simp only[he,YK,Y4,Yy,L8,Yd,DP,K4]
theorem zG{α ρ:Type}{B:Int×Int×List α→Option (Lv (Int×Int×List α) (Int×List α) ρ)}(l:List α)(p:α→Bool)
  (s:∀(i j:Nat) (r:List α) x,i≤j→r.length=l.length→r[j]?=some x→l[j]?=some x→B ((i:Int),(j:Int),r)=some (.nx (if p x then((i:Int),((j+1:Nat):Int),r)else(((i+1:Nat):Int),((j+1:Nat):Int),r.set i x))))
  (t:∀(i:Nat) r,B ((i:Int),(l.length:Int),r)=some (.ex ((i:Int),r))):
  ∀(k N i j:Nat) (r:List α),j+k=l.length→k<N→i≤j→r.length=l.length→r.take i=(l.take j).filter (fun x=>!p x)→i=((l.take j).filter fun x=>!p x).length→r.drop j=l.drop j→
  ∃(n:Nat) (o:List α),Ah B N ((i:Int),(j:Int),r)=some (.inl ((n:Int),o))∧o.take n=l.filter (fun x=>!p x)∧n=(l.filter fun x=>!p x).length∧o.length=l.length:=by
 intro k
 induction k with
 |zero=>
  intro N i j r u hN b c d hi e
  obtain⟨N,rfl⟩:∃m,N=m+1:=⟨N-1,by omega⟩
  have:j=l.length:=by omega
  subst this
  rw[QN]at d hi
  exact⟨i,r,by rw[Ah,t],d,hi,c⟩
 |succ k q=>
  intro N i j r u hN b c d hi e
  obtain⟨N,rfl⟩:∃m,N=m+1:=⟨N-1,by omega⟩
  have a:j<l.length:=by omega
  have hl:l[j]?=some l[j]:=Ya a
  have h:r[j]?=some l[j]:=by
   have:=congrArg (fun z=>z[0]?) e
   simpa[YW,a]using this
  have e0:l.take (j+1)=l.take j++[l[j]]:=JQ a
  rw[Ah,s i j r l[j] b c h hl]
  cases f:p l[j]with
  |true=>
   refine q N i (j+1) r (by omega) (by omega) (by omega) c ?_ ?_ ?_
   ·rw[e0,F1,d];simp[f]
   ·rw[e0,F1];simpa[f]using hi
   ·have:=congrArg (List.drop 1) e
    simpa[N1]using this
  |false=>
   have g:i<r.length:=by omega
   refine q N (i+1) (j+1) (r.set i l[j]) (by omega) (by omega) (by omega) (by rw[QP];exact c) ?_ ?_ ?_
   ·rw[e0,F1,←d,JQ (by rw[QP];exact g),List.take_set_of_le (Yf _),fM]
    simp[f]
   ·rw[e0,F1,Yx,←hi]
    simp[f]
   ·rw[List.drop_set_of_lt (by omega)]
    have:=congrArg (List.drop 1) e
    simpa[N1]using this
theorem m58(l:List Fld)(h:l.length<549755813888):SC l=some l:=by
 unfold SC
 simp only[al,Hj,Lp,br,ix,CD,vz,vy,vw,vs,vg,v2,lr,Ar,ln,Af,lc,lf,JG,ap,aq,a0,a1,ad,cl,cs,cf,wa,wi,ir,ca,cp,dd,mv,st,ss,sL,Bd.c,Bd.vl,sR,AE,Yn,YI,h,Yy]
theorem x9(l:List Fld)(f:Fld→Option Bool)(p:Fld→Bool)(d:∀x∈l,f x=some (p x))(h:l.length<4611686018427387904):Sv l f=some (Hm l p):=by
 unfold Sv
 simp only[al,Hj,Lp,br,ix,CD,vz,vy,vw,vs,vg,v2,lr,Ar,ln,Af,lc,lf,JG,ap,aq,a0,a1,ad,cl,cs,cf,wa,wi,ir,ca,cp,dd,mv,st,ss,sL,Bd.c,Bd.vl,sR,AE]
 rw[HH l p (fun i=>(i:Int)) () (hN:=AZ h) (he:=by simp[Tm,al,Hj,Lp,br,ix,CD,vz,vy,vw,vs,vg,v2,lr,Ar,ln,Af,lc,lf,JG,ap,aq,a0,a1,ad,cl,cs,cf,wa,wi,ir,ca,cp,dd,mv,st,ss,sL,Bd.c,Bd.vl,sR,AE]) (hs:=by
  intro i y hy
  obtain⟨a,rfl⟩:=Ye.1 hy
  have b:i+1<9223372036854775808:=by omega
  have c:=d l[i] (Yk hy)
  simp[Tm,al,Hj,Lp,br,ix,CD,vz,vy,vw,vs,vg,v2,lr,Ar,ln,Af,lc,lf,JG,ap,aq,a0,a1,ad,cl,cs,cf,wa,wi,ir,ca,cp,dd,mv,st,ss,sL,Bd.c,Bd.vl,sR,AE,a,b,c]
  cases p l[i]<;>rfl)]
 unfold Hm
 cases l.findIdx? _<;>rfl
theorem m57(l:List Fld)(f:Fld→Option Bool)(p:Fld→Bool)(g:∀x∈l,f x=some (p x))(h:l.length<549755813888):Sw l f=some (l.filter fun x=>!p x):=by
 have e0:=x9 l f p g (by omega)
 unfold Sw
 dsimp only[vw,vs,vg,vz,cs,br,lr,lf,lc,wi]
 rw[e0,Yd]
 cases hi:l.findIdx? p with
 |none=>
  rw[show Hm l p= -1 from by unfold Hm;rw[hi]]
  rw[show l.filter (fun x=>!p x)=l from List.filter_eq_self.2 fun x hx=>by rw[ft.1 hi x hx];rfl]
  rfl
 |some i=>
  obtain⟨s,t,u⟩:=QH.1 hi
  rw[show Hm l p=(i:Int)from by unfold Hm;rw[hi]]
  have a:((i:Int)= -1)=False:=eq_false (by omega)
  have k: -9223372036854775808≤(i:Int)+1∧(i:Int)+1<9223372036854775808:=by omega
  have w:(l.take i).filter (fun x=>!p x)=l.take i:=List.filter_eq_self.2 fun x hx=>by
   obtain⟨j,G,rfl⟩:=QG.1 hx
   rw[Q0.2 (u j (by omega))];rfl
  have e:(l.take (i+1)).filter (fun x=>!p x)=l.take i:=by rw[JQ s,F1,w];simp[t]
  obtain⟨b,D,y,z,A,C⟩:=zG (B:=PG l f) l p (fun i j r x v H hx hl=>by
    have F:=(Ye.1 hl).1
    have o:(j:Int)<(l.length:Int):=by omega
    have q:=g x (Yk hl)
    have E: -9223372036854775808≤(i:Int)+1∧(i:Int)+1<9223372036854775808:=by omega
    have w2: -9223372036854775808≤(j:Int)+1∧(j:Int)+1<9223372036854775808:=by omega
    have c:(0:Int)≤(j:Int):=by omega
    have d:(0:Int)≤(i:Int):=by omega
    have m:(i:Int)<(l.length:Int):=by omega
    have n:i<r.length:=by omega
    dsimp only[PG,al,Hj,Lp,br,ix,CD,vz,vy,vw,vs,vg,v2,lr,Ar,ln,Af,lc,lf,JG,ap,aq,a0,a1,ad,cl,cs,cf,wa,wi,ir,ca,cp,dd,mv,st,ss,sL,Bd.c,Bd.vl,sR,AE,eq,eu,ep,ew,rb,cr,Vn,ch]
    simp only[B8,AE,o,q,E,w2,c,d,m,n,hx,DO,JS,DN,Yt,Yy,Fo,Yd]
    cases p x<;>simp)
   (fun i r=>by
    dsimp only[PG,al,Hj,Lp,br,ix,CD,vz,vy,vw,vs,vg,v2,lr,Ar,ln,Af,lc,lf,JG,ap,aq,a0,a1,ad,cl,cs,cf,wa,wi,ir,ca,cp,dd,mv,st,ss,sL,Bd.c,Bd.vl,sR,AE,eq,eu,ep,ew,rb,cr,Vn,ch]
    simp)
   (l.length-(i+1)) Ag i (i+1) l (by omega) (AZ (by omega)) (by omega) rfl e.symm (by rw[e,YP];omega) rfl
  rw[show((i:Int)+1)=((i+1:Nat):Int)from rfl]at k⊢
  simp only[a,k,y,YK,Yt,Yn,DO,Yy,YI,Yd,D0]
  have c:b≤l.length:=by rw[A];exact QU _ _
  have d:(b:Int)=((D.take b).length:Int):=by rw[YP];omega
  simp[z,C,al,Hj,Lp,br,ix,CD,vz,vy,vw,vs,vg,v2,lr,Ar,ln,Af,lc,lf,JG,ap,aq,a0,a1,ad,cl,cs,cf,wa,wi,ir,ca,cp,dd,mv,st,ss,sL,Bd.c,Bd.vl,sR,AE,eq,eu,ep,ew,rb,cr,Vn,ch]
  omega
theorem cF{v:Val}(h:SzV v):ZY v=some (BM v):=by
 obtain⟨t1,t2,t3,t4,t5⟩:=h
 have b:v.list.length<4611686018427387904:=by omega
 have c:v.pairs.length<4611686018427387904:=by omega
 have d:v.slots.length<4611686018427387904:=by omega
 have e:v.raws.length<4611686018427387904:=by omega
 have f:v.slots.length+v.raws.length<9223372036854775808:=by omega
 dsimp only[ZY,vy,wg,vg,lr,wa,Aj]
 simp only[b,c,d,e,f,Fj,Yy]
 congr 1
 unfold BM
 rw[Wf]
 by_cases a:v.text=⟨#[]⟩<;>simp only[a,Yt,YK,YG,Yc,YU,YB,YS,Y7,Y4,DP,DZ,ne_eq,Ly,Lz,DM,DN,QK,Yn,or_false,false_or,LH]<;>omega
theorem vT(n:Int):OS n=some (D7 n):=by
 dsimp only[OS,lr]
 unfold D7
 rw[Bool.decide_or]
theorem qx{v:Val}(h:SzV v):Z3 v=some (GC v&&(if D7 v.kind=true then decide (v.bits=0)else decide (v.text=⟨#[]⟩))):=by
 obtain⟨t1,t2,t3,t4,t5⟩:=h
 have a:v.list.length<4611686018427387904:=by omega
 have b:v.pairs.length<4611686018427387904:=by omega
 have c:v.slots.length<4611686018427387904:=by omega
 have d:v.raws.length<4611686018427387904:=by omega
 have e:v.list.length+v.pairs.length<9223372036854775808:=by omega
 have f:v.list.length+v.pairs.length+v.slots.length<9223372036854775808:=by omega
 have g:v.list.length+v.pairs.length+v.slots.length+v.raws.length<9223372036854775808:=by omega
 have hl:decide ((0:Int)<((v.list.length+v.pairs.length+v.slots.length+v.raws.length:Nat):Int))=!GC v:=by
  unfold GC
  rw[←decide_not]
  refine decide_eq_decide.2 ?_
  omega
 dsimp only[Z3,br,vz,wg,vs,lr,cl,wa,Aj,br]
 simp only[a,b,c,d,e,f,g,Yy]
 rw[hl,vT,Yd]
 cases GC v<;>cases D7 v.kind<;>rfl
theorem Zuc(n b:Int):ZM n b=some (LY n b):=by
 unfold LY
 dsimp only[ZM,br,vz,vy,lr,br]
 by_cases a:n=1
 ·subst a;rfl
 by_cases c:n=2
 ·subst c
  simp only[Yt,YK,Yy,YI,Fj,show¬(2:Int)=1 by decide,Yn]
  rw[Bool.decide_and]
 by_cases e:n=9
 ·subst e;rfl
 by_cases d:n=4
 ·subst d;rfl
 simp only[a,c,d,e,YK,Yn,YI]
theorem v8(n:Int){v:Val}(h:SzV v):ZX n v=some (Im n v):=by
 have j:=h.t
 have o:v.text.size<4611686018427387904:=by omega
 have l:My n=some (decide (1≤n)&&decide (n≤9)):=rfl
 dsimp only[ZX,br,vy,wg,lr,cl,AD,A5,br]
 rw[l,qx h,Zuc,oH _ j,Yd]
 unfold Im
 by_cases c:1≤n∧n≤9∧v.kind=n
 ·obtain⟨f,g,i⟩:=c
  simp only[f,g,i,DO,Yt,JT,Y7,Q5,Hv,Y4,NU,Fm,YT,Yy,Yd,Fj,o,DZ]
  cases hl:GC v with
  |false=>rfl
  |true=>
   cases b:D7 n with
   |true=>
    have m:LY n v.bits=true:=by
     unfold D7 at b
     rw[YB]at b
     unfold LY
     rw[Yh (by omega),Yh (by omega),Yh (by omega),Yh (by omega)]
    rw[m]
    by_cases d:v.bits=0
    ·by_cases hs:v.text.size≤4096
     ·have a:¬(4096:Int)<v.text.size:=by omega
      unfold D7 at b
      rw[YB]at b
      simp only[d,hs,a,Yt,YK,DO,Y7,Q5,Yn,YI,Yy,DZ,JT,Y4]
      congr 2
      rw[←decide_not]
      exact decide_eq_decide.2 (by omega)
     ·have a:(4096:Int)<v.text.size:=by omega
      simp only[hs,a,Yt,YK,HA,NT,Yy,DP,Hu]
    ·simp only[d,YK,Hu,Y4,IJ,NT,Yy,DM,DP,DZ]
   |false=>
    have hs:v.text=⟨#[]⟩→¬(4096:Int)<v.text.size:=fun e=>by rw[e];decide
    have k:¬n=7:=by
     unfold D7 at b
     rw[YS]at b
     omega
    by_cases hx:v.text=⟨#[]⟩
    ·have hs:=hs hx
     simp only[hx,hs,k,Yt,YK,Y7,Y4,Yn,YI,DZ,LK,Hv,IJ,QK]
     rw[hx]at hs
     simp only[hs,YK,QK]
     cases LY n v.bits<;>rfl
    ·simp only[hx,YK,Y4,IJ,Yy,DP,Hu,Yn,YI,Y7,NT,DZ]
 ·have e:((!(decide (1≤n)&&decide (n≤9)))||!decide (v.kind=n))=true:=by
   simp only[YG,YU,LG,YS]
   omega
  simp only[e,c,YK,DP,Y7,Yn,LM,Yy,IJ]
theorem bt{n:Int}{v:Val}(c:1≤n)(d:n≤9)(e:v.kind=n)(a:BM v=false):GC v=true∧(D7 n=true→v.bits=0)∧(D7 n=false→v.text=⟨#[]⟩):=by
 unfold BM at a
 rw[YS]at a
 simp only[not_or,Classical.not_and_iff_not_or_not,Classical.not_not,ne_eq]at a
 obtain⟨a1,b,a3,a4,a5⟩:=a
 unfold GC D7
 rw[YB,YB,YS]
 refine⟨by omega,fun h=>?_,fun h=>?_⟩
 ·rcases a5 with a5|a5
  ·exact a5
  ·omega
 ·rcases a4 with a4|a4
  ·exact a4
  ·omega
def L9(s:Scm)(t:Typ)(v:Val):Int:=if Cf t.kind v≠0∨t.kind≠9 then Cf t.kind v else if(Df s t.name).1.opn=false∧Lh (Df s t.name).1 v.bits=false then 16 else 0
theorem qQ(s:Scm)(n:ByteArray)(h:s.enums.length≤1048576):az s n=some (Df s n):=by
 have c:=HH (B:=Py s.enums fun z=>OZ z n) (N:=Ag) s.enums (fun e=>decide (e.name=n)) (fun i=>(s.enums.getD i default,true)) () (fun i x hx=>by
  have a:=BG hx
  have d:=(Ye.1 hx).1
  have b:i+1<9223372036854775808:=by omega
  have e:OZ x n=some (decide (x.name=n)):=rfl
  dsimp only[Py,br,ix,wg,vs,Ar,ln,Af,cf,wa,br]
  simp only[a,b,hx,e,Yt,Yy,Yd,Ym,YT]
  cases decide (x.name=n)<;>simp) (by simp[Py,br,ix,wg,vs,Ar,ln,Af,cf,wa,br]) (AZ (by omega))
 dsimp only[az,wg,lr,cs,ZS,vz,wg,lr,lc,Aj]
 unfold Df
 rw[c,bG]
 cases s.enums.findIdx? fun m=>decide (m.name=n)<;>rfl
theorem py{s:Scm}(h:SzS s)(n:ByteArray):(Df s n).1.items.length≤1048576:=by
 unfold Df Dq
 cases e:s.enums.find? fun m=>decide (m.name=n)with
 |none=>decide
 |some m=>exact(h.e m (LC e)).il
theorem Zw2(l:List Itm)(f:Itm→Option Bool)(p:Itm→Bool)(d:∀x∈l,f x=some (p x))(h:l.length≤1048576):Si l f=some (l.any p):=by
 have e:=HH (B:=Pw l f) (N:=Ag) l p (fun i=>(i:Int)) () (fun i x hx=>by
  have a:=BG hx
  have g:=(Ye.1 hx).1
  have b:i+1<9223372036854775808:=by omega
  have c:=d x (Yk hx)
  dsimp only[Pw,br,ix,vs,Ar,ln,Af,cf,wa,br]
  simp only[a,b,c,hx,Yt,Yy,Yd]
  cases p x<;>simp) (by simp[Pw,br,ix,vs,Ar,ln,Af,cf,wa,br]) (AZ (by omega))
 dsimp only[Si,lr,cs,ZQ,vz,lr,lc,Aj]
 rw[e,←QV]
 cases l.findIdx? p with
 |none=>rfl
 |some i=>simp
theorem nw(e:Enm)(b:Int)(h:e.items.length≤1048576):ZN e b=some (e.opn||Lh e b):=by
 dsimp only[ZN,wg,lr,Cy]
 rw[Zw2 e.items (fun z=>Ss z b) (fun x=>decide (IntKind.u64.wrap x.num=b)) (fun x _=>rfl) h]
 unfold Lh
 cases e.opn<;>simp
theorem yK{v:Val}(c:v.kind=7)(d:BM v=false)(b:¬4096<v.text.size):Im 7 v=Hd v.text:=by
 obtain⟨a1,a,a3⟩:=bt (n:=7) (by decide) (by decide) c d
 have a:=a (by decide)
 unfold Im
 rw[a1,show D7 7=true by decide,c,a]
 have b:v.text.size≤4096:=by omega
 simp[b]
theorem qI(s:Scm)(t:Typ){v:Val}(hs:SzS s)(h:SzV v):am s t v=some (L9 s t v):=by
 have i:=h.t
 have d:v.text.size<4611686018427387904:=by omega
 dsimp only[am,br,vz,wg,lr,cl,AD,A5,br]
 rw[cF h,oH _ i,v8 t.kind h,qQ s _ hs.el,Yd,Yd,nw _ _ (py hs _)]
 unfold L9 Cf
 by_cases c:v.kind=t.kind
 ·cases j:BM v with
  |true=>simp[c]
  |false=>
   by_cases a:4096<v.text.size
   ·have b:(4096:Int)<v.text.size:=by omega
    simp[c,d,a,b]
   ·have b:¬(4096:Int)<v.text.size:=by omega
    by_cases e:t.kind=7
    ·have g:=yK (c.trans e) j a
     rw[e]at c⊢
     rw[g]
     cases Hd v.text with
     |false=>simp[c,d,a,b]
     |true=>simp[c,d,a,b]
    ·cases Im t.kind v with
     |false=>simp[c,d,a,b,e]
     |true=>
      by_cases f:t.kind=9
      ·simp[c,d,a,b,e,f]
       cases(Df s t.name).1.opn<;>cases Lh (Df s t.name).1 v.bits<;>simp
      ·simp[c,d,a,b,e,f]
 ·simp[c]
theorem bA{α ξ ρ:Type}{B:Nat→Option (Lv Nat ξ ρ)}{N:Nat}(l:List α)(p:α→Bool)(r:ρ)(e:ξ)
  (hs:∀i x,l[i]?=some x→B i=some (if p x=true then .rt r else .nx (i+1))) (he:B l.length=some (.ex e)) (hN:l.length<N):Ah B N 0=some (if l.any p=true then .inr r else .inl e):=by
 rw[HH l p (fun _=>r) e hs he hN,←QV]
 cases l.findIdx? p<;>rfl
theorem xm:20<Ag:=AZ (by omega)
mutual
theorem Pz:∀v:Val,cnt v≤2*An (AJ v)+1
 |.mk k b t l p s r=>by
  have a:=pP l
  have c:=pX p
  have d:=pJ s
  have f:=CG (e:=Az) r
  simp only[cnt,AJ,An,bk]
  omega
theorem pP:∀l:List Val,Bc l≤2*AN (M7 l)
 |[]=>by simp[Bc]
 |v::l=>by
  have a:=Pz v
  have b:=pP l
  simp only[Bc,M7,AN]
  omega
theorem ZvU:∀p:Pr,HV p≤2*An (Ap p)+2
 |.mk k v=>by
  have a:=Pz k
  have b:=Pz v
  simp only[HV,Ap,MN]
  omega
theorem pX:∀l:List Pr,Cg l≤2*AN (LU l)
 |[]=>by simp[Cg]
 |v::l=>by
  have a:=ZvU v
  have b:=pX l
  simp only[Cg,LU,AN]
  omega
theorem ZwF:∀x:Slt,H4 x≤2*An (Ao x)+1
 |.mk n v=>by
  have a:=Pz v
  simp only[H4,Ao,An,bk]
  omega
theorem pJ:∀l:List Slt,BR l≤2*AN (M9 l)
 |[]=>by simp[BR]
 |v::l=>by
  have a:=ZwF v
  have b:=pJ l
  simp only[BR,M9,AN]
  omega
end
theorem KJ(v:Val):cnt v=1+v.raws.length+Bc v.list+Cg v.pairs+BR v.slots:=by cases v;simp only[cnt,Val.raws,Val.list,Val.pairs,Val.slots]
theorem bp(p:Pr):HV p=cnt p.key+cnt p.val:=by cases p;simp only[HV,Pr.key,Pr.val]
theorem bl(x:Slt):H4 x=cnt x.val:=by cases x;simp only[H4,Slt.val]
theorem Kq:∀a b:List Val,Bc (a++b)=Bc a+Bc b
 |[],b=>by simp[Bc]
 |x::a,b=>by rw[IK,Bc,Bc,Kq a b];omega
theorem qE{v:Val}(h:AR v):cnt v≤2097153:=by
 have:=Pz v
 rw[Ge]at this
 have h:An (Ai v)≤1048576:=h
 omega
theorem Ztj(l:List Val)(i:Nat):Bc (l.take i)≤Bc l:=by
 conv=>rhs;rw[←JN i l,Kq]
 omega
theorem Zw6{l:List Val}{i:Nat}{x:Val}(h:l[i]?=some x):Bc (l.take i)+cnt x≤Bc l:=by
 obtain⟨a,rfl⟩:=Ye.1 h
 have:=Ztj l (i+1)
 rw[JQ a,Kq,Bc,Bc]at this
 omega
def B6(v:Val):List Val:=v.list++v.pairs.flatMap (fun p=>[p.key,p.val])++v.slots.map fun x=>x.val
theorem T6(l:List Pr):(l.flatMap fun p=>[p.key,p.val]).length=2*l.length:=by
 induction l with
 |nil=>rfl
 |cons p l a=>rw[VT,Yx,a];simp;omega
theorem tM(l:List Pr):Bc (l.flatMap fun p=>[p.key,p.val])=Cg l:=by
 induction l with
 |nil=>rfl
 |cons p l a=>rw[VT,Kq,a,Cg,bp,Bc,Bc,Bc];omega
theorem tL(l:List Slt):Bc (l.map fun x=>x.val)=BR l:=by
 induction l with
 |nil=>rfl
 |cons p l a=>rw[YV,Bc,a,BR,bl]
theorem oq(v:Val):1+v.raws.length+Bc (B6 v)=cnt v:=by
 unfold B6
 rw[Kq,Kq,tM,tL,KJ]
 omega
theorem oR{v x:Val}(e:AR v)(hx:x∈B6 v):AR x∧An (Ai x)+1≤An (Ai v):=by
 unfold B6 at hx
 rcases IM.1 hx with d|d
 ·rcases IM.1 d with c|c
  ·exact⟨I9 e c,by have:=WA c;omega⟩
  ·obtain⟨p,a,b⟩:=List.mem_flatMap.1 c
   have g:=Qd a
   have f:=DR e a
   rcases Yu.1 b with rfl|b
   ·exact⟨f.1,by omega⟩
   ·rcases Yu.1 b with rfl|b
    ·exact⟨f.2,by omega⟩
    ·cases b
 ·obtain⟨y,a,rfl⟩:=YR.1 d
  exact⟨Gp e a,by have:=WJ a;omega⟩
theorem ZvS(l:List Val)(h:l.length<549755813888):SE l=some l:=by
 cases l with
 |nil=>rfl
 |cons x r=>
  dsimp only[SE,al,br,vw,lr,a0,mv,br]
  simp only[Eg]at h
  simp
  omega
theorem oZ{v:Val}(h:SzV v):ab v=some (B6 v):=by
 obtain⟨t1,t2,t3,t4,t5⟩:=h
 have e:=GU (B:=P9 v) (N:=Ag) (ρ:=List Val) v.pairs (fun p=>v.list++p.flatMap fun p=>[p.key,p.val]) (fun i b=>(b,i)) id (fun i y hy=>by
  have a:=BG hy
  have g:=(Ye.1 hy).1
  have c:i+1<9223372036854775808:=by omega
  have d:(v.list++(v.pairs.take i).flatMap fun p=>[p.key,p.val]).length<549755813800:=by
   rw[Yx,T6,YP]
   omega
  rw[List.flatMap_append,←Y8]
  generalize (v.list++(v.pairs.take i).flatMap fun p=>[p.key,p.val])=L at d⊢
  dsimp only[P9,br,ix,vz,vw,wg,vs,ln,Af,dX,wa,fl,br]
  simp[a,hy,c]<;>omega) (by
   have:(v.list++v.pairs.flatMap fun p=>[p.key,p.val]).length<549755813800:=by
    rw[Yx,T6]
    omega
   dsimp only[P9,br,ix,vz,vw,wg,vs,ln,Af,dX,wa,fl,br]
   simp) (AZ (by omega))
 have f:=GU (B:=P6 v) (N:=Ag) (ρ:=List Val) v.slots (fun p=>(v.list++v.pairs.flatMap fun p=>[p.key,p.val])++p.map fun x=>x.val) (fun i b=>(b,i)) id (fun i y hy=>by
  have a:=BG hy
  have g:=(Ye.1 hy).1
  have c:i+1<9223372036854775808:=by omega
  have d:((v.list++v.pairs.flatMap fun p=>[p.key,p.val])++(v.slots.take i).map fun x=>x.val).length<549755813800:=by
   rw[Yx,Yx,T6,YC,YP]
   omega
  rw[EJ,←Y8]
  generalize ((v.list++v.pairs.flatMap fun p=>[p.key,p.val])++(v.slots.take i).map fun x=>x.val)=L at d⊢
  dsimp only[P6,br,ix,vz,vw,wg,vs,ln,Af,ap,wa,fl,br]
  simp[a,hy,c]<;>omega) (by
   dsimp only[P6,br,ix,vz,vw,wg,vs,ln,Af,ap,wa,fl,br]
   simp) (AZ (by omega))
 rw[show(v.list++([]:List Pr).flatMap fun p=>[p.key,p.val])=v.list by simp]at e
 rw[show((v.list++v.pairs.flatMap fun p=>[p.key,p.val])++([]:List Slt).map fun x=>x.val)=(v.list++v.pairs.flatMap fun p=>[p.key,p.val])by simp]at f
 dsimp only[ab,vz,wg,lr,lc,fl,fr,Aj]
 rw[ZvS _ (by omega)]
 simp only[Yd,e,f,id,D0]
 rfl
theorem oS{v:Val}(h:SzV v):(B6 v).length≤4194304:=by
 obtain⟨t1,t2,t3,t4,t5⟩:=h
 unfold B6
 rw[Yx,Yx,T6,YC]
 omega
theorem T3:∀(d:Nat) (v:Val),An (Ai v)<d→AR v→Ms d v=some (cnt v:Int)
 |0,v,h,_=>by omega
 |d+1,v,h,k=>by
  have j:=CE k
  have u:=j.r
  have hl:=oS j
  have o:=qE k
  rw[←oq]at o
  have q:v.raws.length<4611686018427387904:=by omega
  have r:1+v.raws.length<9223372036854775808:=by omega
  have s:(B6 v).length<4611686018427387904:=by omega
  have l:=GU (B:=P2 (Ms d) (B6 v)) (N:=Ag) (ρ:=Int) (B6 v) (fun p=>((1+v.raws.length+Bc p:Nat):Int)) (fun i b=>(b,i)) id (fun i x hx=>by
   have m:=BG hx
   have n:i+1<9223372036854775808:=by have:=(Ye.1 hx).1;omega
   have hm:=oR k (Yk hx)
   have e:=T3 d x (by omega) hm.1
   have t:=Zw6 hx
   have f:((1+v.raws.length+Bc ((B6 v).take i):Nat):Int)+(cnt x:Int)=((1+v.raws.length+Bc ((B6 v).take i++[x]):Nat):Int):=by
    rw[Kq,Bc,Bc]
    omega
   have g: -9223372036854775808≤((1+v.raws.length+Bc ((B6 v).take i):Nat):Int)+(cnt x:Int)∧((1+v.raws.length+Bc ((B6 v).take i):Nat):Int)+(cnt x:Int)<9223372036854775808:=by omega
   generalize ((1+v.raws.length+Bc ((B6 v).take i):Nat):Int)=a at f g⊢
   generalize ((1+v.raws.length+Bc ((B6 v).take i++[x]):Nat):Int)=b at f⊢
   generalize (cnt x:Int)=c at e f g
   dsimp only[P2,br,ix,wg,vs,v2,ln,Af,cs,wa,wi,br]
   simp only[m,hx,Yt,Yy,Yd]
   rw[e,Yd,Yj g,Yj n,f]) (by dsimp only[P2,br,ix,wg,vs,v2,ln,Af,cs,wa,wi,br];simp) (AZ (by omega))
  simp only[Bc,FY,id]at l
  show Re (Ms d) v=_
  dsimp only[Re,vz,wg,vs,lr,lc,cl,wa,Aj]
  rw[oZ j]
  simp only[q,r,s,Yy,l,Yd,D0]
  rw[oq]
theorem T8{l:List Fld}(h:C4 l l.length):∀(d i:Nat) (a b:Fld),l[i]?=some a→l[i+1+d]?=some b→a.num<b.num
 |0,i,a,b,e,c=>h i a b (Ye.1 c).1 e c
 |d+1,i,a,b,e,c=>by
  have g:=(Ye.1 c).1
  have f:i+1+d<l.length:=by omega
  have j:=T8 h d i a l[i+1+d] e (Ya f)
  have k:=h (i+1+d) l[i+1+d] b (by omega) (Ya f) c
  omega
theorem wx{l:List Fld}(h:C4 l l.length){i:Nat}{f:Fld}(a:l[i]?=some f):∀g∈l.take i,g.num≠f.num:=fun g b=>by
 obtain⟨j,c,rfl⟩:=QG.1 b
 have:=T8 h (i-(j+1)) j _ f (Ya (by omega)) (by rw[show j+1+(i-(j+1))=i by omega];exact a)
 omega
def sW(F:List Fld):Prop:=∀f∈F,IB f∧AR f.dflt
theorem IZ(F:List Fld)(k:Int):((BW F k).2=false∧AL F k=zF)∨((BW F k).2=true∧AL F k∈F):=by
 unfold AL BW Dq
 cases e:F.find? fun f=>decide (f.num=k)with
 |none=>exact .inl ⟨rfl,rfl⟩
 |some f=>exact .inr ⟨rfl,LC e⟩
def zV:Val:=.mk 0 0 ⟨#[]⟩ [] [] [] []
def Iv(l:List Slt)(k:Int):Option Slt:=l.find? fun x=>decide (x.num=k)
theorem Zty{F:List Fld}(h:C4 F F.length){i:Nat}{f:Fld}(a:F[i]?=some f):F=F.take i++f::F.drop (i+1)∧(∀g∈F.take i,g.num≠f.num)∧∀g∈F.drop (i+1),g.num≠f.num:=by
 obtain⟨hi,e⟩:=Ye.1 a
 refine⟨?_,wx h a,fun g c=>?_⟩
 ·rw[←e,List.getElem_cons_drop,JN]
 ·obtain⟨d,b⟩:=YH.1 c
  rw[YW]at b
  have:=T8 h d i f g a b
  omega
theorem MR{F:List Fld}(h:C4 F F.length){i:Nat}{f:Fld}(c:F[i]?=some f):BW F f.num=(f,true):=by
 obtain⟨e,b,j⟩:=Zty h c
 have a:F.find? (fun g=>decide (g.num=f.num))=some f:=by
  rw[e,List.find?_append,VQ.2 fun g d=>by simpa using b g d]
  simp
 unfold BW Dq
 rw[a]
 rfl
theorem tU{s:Scm}(h:∀(i:Nat) (m:Msg),s.messages[i]?=some m→GdM s m)(hs:An (Au s)≤1048576)(n:ByteArray):C4 (AW s n) (AW s n).length∧sW (AW s n)∧(AW s n).length≤1048576:=by
 have hl:=bK (Hn hs) n
 unfold AW Dq at*
 cases e:s.messages.find? fun m=>decide (m.name=n)with
 |none=>exact⟨fun i a b hi=>by simp[zM]at hi,fun f c=>by simp[zM]at c,by simp[zM]⟩
 |some m=>
  rw[e]at hl
  have hm:=LC e
  obtain⟨i,hi⟩:=YH.1 hm
  have g:=h i m hi
  refine⟨g.asc,fun f c=>?_,hl⟩
  obtain⟨j,k⟩:=YH.1 c
  refine⟨(g.df j f k).1,?_⟩
  have d:=Dn (e:=AU) hm
  have l:=Dn (e:=Aw) (show f∈m.fields from c)
  simp only[Au,An,bk]at hs
  simp only[AU,An,bk]at d
  have e:An (Ai f.dflt)≤An (Aw f):=by
   simp only[Aw,Ai,An,bk]
   omega
  show An (Ai f.dflt)≤1048576
  omega
structure GdF (s:Scm) (f:Fld):Prop where
 en:f.type.kind=9→(Df s f.type.name).2=true
 ms:f.type.kind=10→(Bl s f.type.name).2=true
 ty:1≤f.type.kind∧f.type.kind≤10
 un:f.union≠⟨#[]⟩→f.card=2
 cd:f.card≠5→1≤f.card∧f.card≤4
 np:f.type.kind=10→f.card≠3
 ky:f.card=5→f.key=1∨f.key=2∨f.key=3∨f.key=4∨f.key=5∨f.key=7
structure GdS (s:Scm):Prop where
 fl:∀(n:ByteArray) (f:Fld),f∈AW s n→GdF s f
 asc:∀n:ByteArray,C4 (AW s n) (AW s n).length
theorem E1{n:Int}{v:Val}(h:Cf n v=0):v.kind=n∧BM v=false∧v.text.size≤4096∧Im n v=true:=by
 unfold Cf at h
 by_cases a1:v.kind≠n∨BM v=true
 ·rw[Yj a1]at h;cases h
 ·rw[Yh a1]at h
  by_cases a:4096<v.text.size
  ·rw[Yj a]at h;cases h
  ·rw[Yh a]at h
   cases a3:Im n v with
   |false=>
    rw[a3]at h
    rw[Yh (by decide)]at h
    split at h<;>cases h
   |true=>
    refine⟨Decidable.not_not.1 fun e=>a1 (.inl e),?_,by omega,rfl⟩
    cases b:BM v with
    |false=>rfl
    |true=>exact absurd (.inr b) a1
theorem uy{s:Scm}{t:Typ}{v:Val}{R:Msg→Val→Int}(a:1≤t.kind)(b:t.kind≤9)(he:t.kind=9→(Df s t.name).2=true):L9 s t v=Cq R s t v:=by
 unfold L9 Cq
 rw[Yh (by omega:¬t.kind=10),Yh (by omega:¬(t.kind<1∨9<t.kind))]
 by_cases c:Cf t.kind v≠0∨t.kind≠9
 ·rw[Yj c,Yj c]
 ·rw[Yh c,Yh c,he (by omega),Yh (by decide:¬true=false)]
theorem rY{n:Int}{a b:Val}(l:n=1∨n=2∨n=3∨n=4∨n=5∨n=7)(j:Cf n a=0)(k:Cf n b=0):Vf a b=Gy a b:=by
 obtain⟨a1,h,_,_⟩:=E1 j
 obtain⟨d,i,_,_⟩:=E1 k
 obtain⟨_,a3,a4⟩:=bt (n:=n) (by omega) (by omega) a1 h
 obtain⟨_,e,f⟩:=bt (n:=n) (by omega) (by omega) d i
 unfold Vf Gy
 rw[a1,d,Yo rfl,DZ]
 unfold D7 at a3 a4 e f
 by_cases c:n=7
 ·rw[a3 (Yo (.inl c)),e (Yo (.inl c)),Yj (.inl c)]
  simp
 ·have g:decide (n=7∨n=8)=false:=Yp (by omega)
  rw[a4 g,f g,Yh (by omega),Yh (by omega)]
  simp
theorem Zvv(l:List Pr)(f:Pr→Option Bool)(p:Pr→Bool)(d:∀x∈l,f x=some (p x))(h:l.length≤1048576):OQ l f=some (l.any p):=by
 have e:=HH (B:=PA l f) (N:=Ag) l p (fun i=>(i:Int)) () (fun i x hx=>by
  have a:=BG hx
  have g:=(Ye.1 hx).1
  have b:i+1<9223372036854775808:=by omega
  have c:=d x (Yk hx)
  dsimp only[PA,br,ix,vs,Ar,ln,Af,cf,wa,br]
  simp only[a,b,c,hx,Yt,Yy,Yd]
  cases p x<;>simp) (by simp[PA,br,ix,vs,Ar,ln,Af,cf,wa,br]) (AZ (by omega))
 dsimp only[OQ,lr,cs,ZP,vz,lr,lc,Aj]
 rw[e,←QV]
 cases l.findIdx? p with
 |none=>rfl
 |some i=>simp
theorem bd(l:List Slt)(f:Slt→Option Bool)(p:Slt→Bool)(a:∀x∈l,f x=some (p x))(h:l.length≤1048576):Mk l f=some (l.any p):=by
 dsimp only[Mk,lr,cs]
 rw[n70 l f p a (by omega)]
 simp only[Yd]
 rw[uo]
theorem vH(l:List Slt)(f:Fld)(h:l.length≤1048576):Sy l f=some (DE l f.num):=by
 dsimp only[Sy,lr,cs]
 rw[bd l (fun z=>SG z f) (fun x=>decide (x.num=f.num)) (fun x _=>rfl) h]
 rfl
theorem vA(l:List Slt)(f:Fld)(h:l.length≤1048576):SA l f=some (DE l f.num):=by
 dsimp only[SA,lr,cs]
 rw[bd l (fun z=>SH z f) (fun x=>decide (x.num=f.num)) (fun x _=>rfl) h]
 rfl
theorem vh(l:List Slt)(f:Fld)(h:l.length≤1048576):SD l f=some (DE l f.num):=by
 dsimp only[SD,lr,cs]
 rw[bd l (fun z=>SI z f) (fun x=>decide (x.num=f.num)) (fun x _=>rfl) h]
 rfl
def Ho(F:List Fld)(u:ByteArray):List Fld:=if u=⟨#[]⟩then[]else F.filter fun f=>decide (f.union=u)
theorem ta(m:Msg)(u:ByteArray)(h:m.fields.length≤1048576):Z6 m u=some (Ho m.fields u):=by
 unfold Ho
 by_cases c:u=⟨#[]⟩
 ·subst c
  rfl
 ·dsimp only[Z6,br,vz,wg,lr,lc,fl,fr,br]
  rw[m58 _ (by omega),Yd,m57 m.fields (fun z=>SL z u) (fun f=>!decide (f.union=u)) (fun f _=>rfl) (by omega),Yd]
  simp[c]
theorem o5(F:List Fld)(u:ByteArray):(Ho F u).length≤F.length:=by
 unfold Ho
 split
 ·exact Cj _
 ·exact QU _ _
theorem TQ{F:List Fld}(h:C4 F F.length){g:Fld}(a:g∈F):BW F g.num=(g,true):=by
 obtain⟨i,hi⟩:=YH.1 a
 exact MR h hi
theorem vY{F:List Fld}(h:C4 F F.length)(l:List Slt)(k:Int)(j:DE l k=false)(u:ByteArray):((Ho F u).any fun g=>(!decide (g.num=k))&&DE l g.num)=Jq F l u:=by
 unfold Ho Jq
 by_cases c:u=⟨#[]⟩
 ·simp[c]
 ·rw[Yh c,Yp c,Y4,DZ,Wf,YL,YL]
  constructor
  ·rintro⟨g,d,a⟩
   obtain⟨m,n⟩:=DY.1 d
   rw[Yc]at a
   obtain⟨y,o,i⟩:=YL.1 (show(l.any fun x=>decide (x.num=g.num))=true from a.2)
   rw[YB]at i
   refine⟨y,o,?_⟩
   unfold AL
   rw[i,TQ h m]
   exact n
  ·rintro⟨y,d,a⟩
   rw[YB]at a
   rcases IZ F y.num with⟨f,b⟩|⟨f,b⟩
   ·rw[b]at a
    exact absurd a.symm c
   ·have p:=Ku f
    refine⟨AL F y.num,DY.2 ⟨b,Yo a⟩,?_⟩
    rw[p,Yc]
    have hy:DE l y.num=true:=YL.2 ⟨y,d,Yo rfl⟩
    refine⟨?_,hy⟩
    rw[YU,YS]
    intro e
    rw[e]at hy
    rw[hy]at j
    cases j
abbrev Ng:=Scm→Fld→Val→Int→Option Int
theorem tn(R:Ng)(n:Fld→Val→Int)(s:Scm)(m:Msg)(l:List Slt)(i:Nat)(x:Slt)(d:Int)(E:C4 m.fields m.fields.length)(hm:m.fields.length≤1048576)(hl:l.length≤1048576)(hx:l[i]?=some x)(D:∀f:Fld,f∈m.fields→R s f x.val d=some (n f x.val)):SP R s m l i d=some (FV n m.fields l i x):=by
 have hi:=(Ye.1 hx).1
 have t:(l.take i).length≤1048576:=by rw[YP];omega
 have w0:(0:Int)≤i∧(i:Int)<l.length:=by omega
 have b:(0:Int)≤i∧(i:Int)≤l.length:=by omega
 have c:i≤l.length:=by omega
 have v:(BW m.fields x.num).1=AL m.fields x.num:=rfl
 have I:(l.getD i Rw.z)=x:=by rw[Ym,hx];rfl
 have H:∀y:Fld×Bool,DE (l.take i) y.1.num=false→Ah (M2 s l i d R y (Ho m.fields y.1.union)) Ag 0=some (if Jq m.fields (l.take i) y.1.union=true then .inr 15 else .inl ()):=fun y hy=>by
  have u:=o5 m.fields y.1.union
  have q:=bA (B:=M2 s l i d R y (Ho m.fields y.1.union)) (N:=Ag) (Ho m.fields y.1.union) (fun g=>(!decide (g.num=y.1.num))&&DE (l.take i) g.num) (15:Int) () (fun j g k=>by
   have A:=BG k
   have C:j+1<9223372036854775808:=by have:=(Ye.1 k).1;omega
   have e:=vA (l.take i) g t
   dsimp only[M2,br,ix,wg,vs,Ar,ln,Af,Cy,wa,br]
   simp only[A,C,k,b,c,e,Fo,Bd.c,Bd.vl,Q6,IH,Yt,Yy,Yd,DO,Fj,Fm,YT,Cj]
   cases(!decide (g.num=y.1.num))&&DE (l.take i) g.num<;>simp) (by dsimp only[M2,br,ix,wg,vs,Ar,ln,Af,Cy,wa,br];simp) (AZ (by omega))
  rw[q,vY E _ _ hy]
 have w:=vH (l.take i) (AL m.fields x.num) t
 have z:=ta m (AL m.fields x.num).union hm
 have u:(Ho m.fields (AL m.fields x.num).union).length<4611686018427387904:=by have:=o5 m.fields (AL m.fields x.num).union;omega
 unfold FV
 dsimp only[SP,WN,br,CD,vz,vw,wg,lr,lc,cl,cs,sL,du,Aj,br]
 simp only[Fo,hx,w0,b,c,I,DO,Yy,ey _ _ hm,Yd,v,Bd.c,Bd.vl,Q6,IH,w,z,u,Cj]
 cases p:(BW m.fields x.num).2 with
 |false=>simp
 |true=>
  have r:(AL m.fields x.num).num=x.num:=Ku p
  have a:AL m.fields x.num∈m.fields:=by
   rcases IZ m.fields x.num with⟨h,o⟩|⟨h,o⟩
   ·rw[p]at h;cases h
   ·exact o
  have G:=D _ a
  have q:=H (BW m.fields x.num)
  rw[v,r]at q
  rw[r]
  cases F:DE (l.take i) x.num with
  |true=>simp
  |false=>
   have q:=q F
   simp only[q,Y7,Yn,YI,Yd]
   cases Jq m.fields (l.take i) (AL m.fields x.num).union with
   |true=>simp
   |false=>simp[G]
theorem pG{α:Type}[Inhabited α]{l:List α}{z:α}{p:α→Bool}{x:α}(hx:x∈l)(a:p x=true):(Dq l z p).2=true:=by
 unfold Dq
 cases e:l.find? p with
 |none=>exact absurd a (VQ.1 e x hx)
 |some y=>rfl
theorem wD{s:Scm}(h:∀(i:Nat) (m:Msg),s.messages[i]?=some m→GdM s m)(hs:An (Au s)≤1048576):GdS s:=by
 refine⟨fun n f a=>?_,fun n=>(tU h hs n).1⟩
 unfold AW Dq at a
 cases e:s.messages.find? fun m=>decide (m.name=n)with
 |none=>rw[e]at a;cases a
 |some m=>
  rw[e]at a
  obtain⟨i,hi⟩:=YH.1 (LC e)
  obtain⟨j,g⟩:=YH.1 (show f∈m.fields from a)
  obtain⟨_,c,⟨t1,t2,t3⟩,u⟩:=(h i m hi).df j f g
  refine⟨fun k=>?_,fun k=>?_,t3,u,fun k=>⟨(c.1 k).1,(c.1 k).2.1⟩,fun k=>(t2 k).2,c.2⟩
  ·obtain⟨x,b,d⟩:=t1 k
   exact pG b (Yo d)
  ·obtain⟨⟨x,b,d⟩,_⟩:=t2 k
   exact pG b (Yo d)
end Go.Proofs.YtalafnjhcecdpaaGreatDoor
