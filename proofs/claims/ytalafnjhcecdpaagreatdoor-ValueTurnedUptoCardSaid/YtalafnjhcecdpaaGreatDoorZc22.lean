import Derived.Test.YtalafnjhcecdpaaGreatDoorZc21
import Derived.Sort.Walk0
import Derived.Test.YtalafnjhcecdpaaGreatDoorZc00
namespace Go.Proofs.YtalafnjhcecdpaaGreatDoor
set_option linter.all false
open Go Go.Eng
theorem vld(c:Nat):Utf8.valid (c:Int)=decide (c<0xD800∨0xE000≤c∧c≤0x10FFFF):=by
 unfold Utf8.valid
 rw[Vq]
 simp only[YF,Yc,YJ]
 omega
theorem xa(a b c d:Nat)(i j l:Prop)[Decidable i][Decidable j][Decidable l](r:a<256)(s:b<256)(t:c<256)(u:d<256)(z:Nat)
 (g:z=if a<0x80 then 1
 else if 0xc2≤a∧a≤0xdf∧i∧0x80≤b∧b≤0xbf then 2
 else if a=0xe0∧(i∧0xa0≤b∧b≤0xbf)∧(j∧0x80≤c∧c≤0xbf)then 3
 else if a=0xed∧(i∧0x80≤b∧b≤0x9f)∧(j∧0x80≤c∧c≤0xbf)then 3
 else if 0xe1≤a∧a≤0xef∧a≠0xed∧(i∧0x80≤b∧b≤0xbf)∧(j∧0x80≤c∧c≤0xbf)then 3
 else if a=0xf0∧(i∧0x90≤b∧b≤0xbf)∧(j∧0x80≤c∧c≤0xbf)∧(l∧0x80≤d∧d≤0xbf)then 4
 else if 0xf1≤a∧a≤0xf3∧(i∧0x80≤b∧b≤0xbf)∧(j∧0x80≤c∧c≤0xbf)∧(l∧0x80≤d∧d≤0xbf)then 4
 else if a=0xf4∧(i∧0x80≤b∧b≤0x8f)∧(j∧0x80≤c∧c≤0xbf)∧(l∧0x80≤d∧d≤0xbf)then 4
 else 0) (D:Nat×Nat) (f:D=if a<0x80 then(a,1)
 else if a/32=6∧i∧b/64=2 then
  if(a%32)*64+b%64≥0x80 then((a%32)*64+b%64,2)else(65533,1)
 else if a/16=14∧(i∧b/64=2)∧(j∧c/64=2)then
  if(a%16)*4096+(b%64)*64+c%64≥0x800∧((a%16)*4096+(b%64)*64+c%64<0xD800∨0xE000≤(a%16)*4096+(b%64)*64+c%64∧(a%16)*4096+(b%64)*64+c%64≤0x10FFFF)then((a%16)*4096+(b%64)*64+c%64,3)else(65533,1)
 else if a/8=30∧(i∧b/64=2)∧(j∧c/64=2)∧(l∧d/64=2)then
  if(a%8)*262144+(b%64)*4096+(c%64)*64+d%64≥0x10000∧((a%8)*262144+(b%64)*4096+(c%64)*64+d%64<0xD800∨0xE000≤(a%8)*262144+(b%64)*4096+(c%64)*64+d%64∧(a%8)*262144+(b%64)*4096+(c%64)*64+d%64≤0x10FFFF)then((a%8)*262144+(b%64)*4096+(c%64)*64+d%64,4)else(65533,1)
 else(65533,1)):(z=0→D.1=65533∧¬(a=0xef∧(i∧b=0xbf)∧(j∧c=0xbd)))∧(z≠0→D.2=z∧(D.1=65533→a=0xef∧(i∧b=0xbf)∧(j∧c=0xbd))):=by
 by_cases a0:a<128
 ·rw[Yk a0]at g f
  subst g f
  exact⟨fun h=>absurd h (by decide),fun _=>⟨rfl,fun h=>by dsimp only at h;omega⟩⟩
 rw[Yi a0]at g f
 by_cases a1:a/32=6
 ·simp only[show¬a=224 by omega,show¬a=237 by omega,show¬225≤a by omega,show¬a=240 by omega,show¬241≤a by omega,show¬a=244 by omega,show¬a/16=14 by omega,show¬a/8=30 by omega,show¬a=0xef by omega,DA,YH,Hr,a1,DB,K7,Lg]at g f⊢
  by_cases k:i
  ·simp only[k,DB]at g f
   split at g<;>split at f<;>(try split at f)<;>subst g f<;>dsimp only<;>omega
  ·simp only[k,DA,YH,Hr]at g f
   subst g f
   exact⟨fun _=>rfl,fun h=>absurd rfl h⟩
 by_cases p:a/16=14
 ·simp only[show¬a≤223 by omega,show¬a=240 by omega,show¬241≤a by omega,show¬a=244 by omega,show¬a/8=30 by omega,a1,p,DA,YH,Hr,DB]at g f⊢
  by_cases k:i<;>by_cases o:j<;>simp only[k,o,DB,DA,Hr,YH]at g f⊢
  ·by_cases m:a=0xe0
   ·subst m
    simp only[show¬(224=237)by decide,show¬225≤224 by decide,DB,DA,YH]at g
    split at g<;>split at f<;>(try split at f)<;>subst g f<;>dsimp only<;>omega
   ·by_cases n:a=0xed
    ·subst n
     simp only[show¬(237=224)by decide,ne_eq,K6,DB,DA,Hr,YH]at g
     split at g<;>split at f<;>(try split at f)<;>subst g f<;>dsimp only<;>omega
    ·simp only[m,n,DA,YH]at g
     split at g<;>split at f<;>(try split at f)<;>subst g f<;>dsimp only<;>omega
  all_goals(subst g f;exact⟨fun _=>⟨rfl,by simp⟩,fun h=>absurd rfl h⟩)
 ·simp only[show¬(a=0xef)by omega,show¬a=224 by omega,show¬a=237 by omega,a1,p,DA,YH,K7,Lg]at g f⊢
  rw[Yi (by omega:¬(0xc2≤a∧a≤0xdf∧i∧0x80≤b∧b≤0xbf)),Yi (by omega:¬(0xe1≤a∧a≤0xef∧a≠0xed∧(i∧0x80≤b∧b≤0xbf)∧(j∧0x80≤c∧c≤0xbf)))]at g
  by_cases e:i∧j∧l
  ·obtain⟨k,o,q⟩:=e
   simp only[k,o,q,DB]at g f
   by_cases m:a=0xf0
   ·subst m
    simp only[show¬(240=244)by decide,show¬241≤240 by decide,DB,DA,YH]at g
    split at g<;>split at f<;>(try split at f)<;>subst g f<;>dsimp only<;>omega
   ·by_cases n:a=0xf4
    ·subst n
     simp only[show¬(244=240)by decide,show¬244≤243 by decide,DB,DA,Hr,YH]at g
     split at g<;>split at f<;>(try split at f)<;>subst g f<;>dsimp only<;>omega
    ·simp only[m,n,DA,YH]at g
     split at g<;>split at f<;>(try split at f)<;>subst g f<;>dsimp only<;>omega
  ·rw[Yi (fun h=>e ⟨h.2.1.1,h.2.2.1.1,h.2.2.2.1⟩),Yi (fun h=>e ⟨h.2.2.1.1,h.2.2.2.1.1,h.2.2.2.2.1⟩),Yi (fun h=>e ⟨h.2.1.1,h.2.2.1.1,h.2.2.2.1⟩)]at g
   rw[Yi (fun h=>e ⟨h.2.1.1,h.2.2.1.1,h.2.2.2.1⟩)]at f
   subst g f
   exact⟨fun _=>rfl,fun h=>absurd rfl h⟩
theorem o4(x:ByteArray)(p:Nat):(CM x p=0→(Utf8.decode x p).1=65533∧¬((x.get! p).toNat=0xef∧(p+1<x.size∧(x.get! (p+1)).toNat=0xbf)∧(p+2<x.size∧(x.get! (p+2)).toNat=0xbd)))∧(CM x p≠0→(Utf8.decode x p).2=CM x p∧((Utf8.decode x p).1=65533→((x.get! p).toNat=0xef∧(p+1<x.size∧(x.get! (p+1)).toNat=0xbf)∧(p+2<x.size∧(x.get! (p+2)).toNat=0xbd)))):=
 xa (x.get! p).toNat (x.get! (p+1)).toNat (x.get! (p+2)).toNat (x.get! (p+3)).toNat (p+1<x.size) (p+2<x.size) (p+3<x.size) (x.get! p).toNat_lt (x.get! (p+1)).toNat_lt (x.get! (p+2)).toNat_lt (x.get! (p+3)).toNat_lt _ (by
  unfold CM Dy
  simp only[Yc,YJ,and_assoc]) _ (by
  unfold Utf8.decode
  simp only[vld,FN,Yc,YJ,beq_iff_eq,Utf8.runeError,and_assoc])
theorem tB(x:ByteArray)(p:Nat):x.data.toList.getD p 0=x.get! p:=by
 cases x with
 |mk d=>
  show d.toList.getD p 0=d.getD p 0
  rw[Yj,YB,Yw]
theorem rD(x:ByteArray):∀(k p n m:Nat),x.size-p=k→x.size-p<n→x.size-p<m→FF x n p=FF x m p:=by
 intro k
 induction k using Nat.strongRecOn with
 |_ k c=>
  intro p n m d e hm
  obtain⟨n,rfl⟩:∃j,n=j+1:=⟨n-1,by omega⟩
  obtain⟨m,rfl⟩:∃j,m=j+1:=⟨m-1,by omega⟩
  unfold FF
  by_cases a:p<x.size
  ·rw[Yk a,Yk a]
   by_cases b:CM x p=0
   ·rw[Yk b,Yk b]
   ·rw[Yi b,Yi b]
    exact c (x.size-(p+CM x p)) (by omega) _ _ _ rfl (by omega) (by omega)
  ·rw[Yi a,Yi a]
def I2(x:ByteArray)(p:Nat):Bool:=FF x (x.size+1-p) p
theorem Zuk{x:ByteArray}{p:Nat}(h:x.size≤p):I2 x p=true:=by
 unfold I2
 cases x.size+1-p with
 |zero=>rfl
 |succ n=>unfold FF;rw[Yi (by omega)]
theorem zH{x:ByteArray}{p:Nat}(h:p<x.size):I2 x p=if CM x p=0 then false else I2 x (p+CM x p):=by
 unfold I2
 obtain⟨n,e⟩:∃n,x.size+1-p=n+1:=⟨x.size-p,by omega⟩
 rw[e]
 conv=>lhs;unfold FF
 rw[Yk h]
 by_cases a:CM x p=0
 ·rw[Yk a,Yk a]
 ·rw[Yi a,Yi a]
  by_cases b:p+CM x p<x.size
  ·exact rD x _ _ _ _ rfl (by omega) (by omega)
  ·have c:FF x n (p+CM x p)=true:=by
    cases n with
    |zero=>rfl
    |succ n=>unfold FF;rw[Yi b]
   have d:FF x (x.size+1-(p+CM x p)) (p+CM x p)=true:=by
    cases x.size+1-(p+CM x p)with
    |zero=>rfl
    |succ n=>unfold FF;rw[Yi b]
   rw[c,d]
theorem sO(x:ByteArray):G5 x=I2 x 0:=rfl
theorem uh{α:Type}(m:List α)(a b c:α):m.take 3=[a,b,c]↔m[0]?=some a∧m[1]?=some b∧m[2]?=some c:=by
 match m with
 |[]=>simp
 |[x]=>simp
 |[x,y]=>simp
 |x::y::z::l=>simp
theorem tZ{x y:ByteArray}:x=y↔x.data.toList=y.data.toList:=by
 constructor
 ·rintro rfl
  rfl
 ·intro h
  cases x
  cases y
  congr 1
  exact Array.toList_inj.1 h
theorem lV(x:ByteArray)(a b:Nat):(x.extract a b).data.toList=(x.data.toList.take b).drop a:=by
 rw[ByteArray.data_extract,Array.toList_extract,List.extract_eq_take_drop,List.drop_take]
theorem VM(x:ByteArray)(p:Nat)(c:UInt8):x.data.toList[p]?=some c↔p<x.size∧(x.get! p).toNat=c.toNat:=by
 rw[←tB,Yj]
 have hs:x.size=x.data.toList.length:=FP.symm
 rw[hs]
 constructor
 ·intro h
  rw[h]
  exact⟨(Yf.1 h).1,rfl⟩
 ·rintro⟨b,a⟩
  rw[Ya b]at a⊢
  rw[YS]at a
  rw[UInt8.toNat_inj.1 a]
theorem u6(x:ByteArray)(p:Nat)(f:p<x.size)(h:x.size≤1048576):XF (x.extract p x.size) ⟨#[239,191,189]⟩=some (decide ((x.get! p).toNat=0xef∧(p+1<x.size∧(x.get! (p+1)).toNat=0xbf)∧(p+2<x.size∧(x.get! (p+2)).toNat=0xbd))):=by
 have g:(x.extract p x.size).size=x.size-p:=by rw[ei];omega
 have hl:(x.extract p x.size).data.toList=x.data.toList.drop p:=by
  have e:x.data.toList.take x.size=x.data.toList:=K9 (Vj FP)
  rw[lV,e]
 have key:(x.extract p x.size).extract 0 3=⟨#[239,191,189]⟩↔((x.get! p).toNat=0xef∧(p+1<x.size∧(x.get! (p+1)).toNat=0xbf)∧(p+2<x.size∧(x.get! (p+2)).toNat=0xbd)):=by
  rw[tZ,lV,hl,Hl]
  show(x.data.toList.drop p).take 3=[239,191,189]↔_
  rw[uh,YW,YW,YW,VM,VM,VM]
  exact⟨fun h=>⟨h.1.2,h.2⟩,fun h=>⟨⟨f,h.1⟩,h.2⟩⟩
 have b:(⟨#[239,191,189]⟩:ByteArray).size=3:=rfl
 generalize x.extract p x.size=y at g key
 dsimp only[XF,lr,cl,kX,vz,vy,lr,A1]
 rw[b]
 have w:y.size<4611686018427387904:=by omega
 by_cases c:3≤y.size
 ·have a:((3:Nat):Int)≤y.size:=by omega
  simp only[w,Yy,a,Yv,Nu,Bd.c,Bd.vl,DQ,Yd,show(3:Nat)<4611686018427387904 by decide,Cn,DB,c,DD,E6]
  congr 1
  exact decide_eq_decide.2 key
 ·have a:¬((3:Nat):Int)≤y.size:=by omega
  simp only[w,Yy,a,YK,Ym,Ld,DE,Yd,show(3:Nat)<4611686018427387904 by decide,E6]
  congr 1
  symm
  rw[YV]
  intro d
  have:=d.2.2.1
  omega
theorem ry(x:ByteArray)(p:Nat)(f:p<x.size)(h:x.size≤1048576):ZB x (p:Int) (Jm x p)=some (decide (CM x p=0)):=by
 obtain⟨d1,d2⟩:=o4 x p
 have i:=u6 x p f h
 have c:Jm x p=((Utf8.decode x p).1:Nat):=rfl
 dsimp only[ZB,lr,AF]
 by_cases e:Jm x p=65533
 ·have g:(0:Int)≤p∧(p:Int)≤x.size:=by omega
  have b:p≤x.size:=by omega
  simp only[e,Yv,DQ,Nu,Bd.c,Bd.vl,Fb,i,Fa,YS,Yy,g,b,DB,DD,Ye]
  congr 1
  rw[←decide_not]
  refine decide_eq_decide.2 ⟨fun d=>?_,fun a=>(d1 a).2⟩
  rcases Qd (CM x p)with a|a
  ·exact a
  ·exact absurd ((d2 (by omega)).2 (by rw[c]at e;omega)) d
 ·have a:¬CM x p=0:=fun a=>e (by rw[c,(d1 a).1];rfl)
  simp only[e,YK,DE,Ym,Ld,Yy,a]
theorem m8(x:ByteArray)(h:x.size≤1048576):ZC x=some (G5 x):=by
 have q:Ok (Sum.elim (fun _=>G5 x=true) (fun r:Int=>0≤r∧G5 x=false)) (Ag (SN x) Aj 0):=by
  refine Bt (fun v:Nat=>G5 x=I2 x v) (fun v:Nat=>x.size-v) (sO x) (A6 (by omega)) fun v f=>?_
  dsimp only[SN,br,wg,Aw,ln,Af,cl,br]
  by_cases d:v<x.size
  ·have b:=zH d
   simp only[d,Yv,Yy,ry x v d h,Yd]
   by_cases c:CM x v=0
   ·rw[Yk c]at b
    simp only[c,Yv,Yy]
    exact⟨_,rfl,by omega,by rw[f,b]⟩
   ·rw[Yi c]at b
    have i:Ex x v=CM x v:=((o4 x v).2 c).1
    simp only[c,YK,Ym,YH]
    refine⟨_,rfl,?_,?_⟩
    ·show G5 x=I2 x (v+Ex x v)
     rw[f,b,i]
    ·show x.size-(v+Ex x v)<x.size-v
     omega
  ·simp only[d,YK,Ym,YH]
   exact⟨_,rfl,by rw[f,Zuk (by omega)]⟩
 obtain⟨y,e,a⟩:=q
 dsimp only[ZC,lr,cl,ma,lr,lc]
 rw[e]
 cases y with
 |inl y=>
  have a:G5 x=true:=a
  rw[a]
  rfl
 |inr r=>
  obtain⟨a1,g⟩:=a
  rw[g]
  simp only[Yd,Sum.elim_inr]
  rw[show decide (r<0)=false by simpa using a1]
end Go.Proofs.YtalafnjhcecdpaaGreatDoor
namespace Go.Proofs.YtalafnjhcecdpaaGreatDoor
set_option linter.all false
open Go Go.Eng
def UU(c:Nat)(x:Val):Prop:=∀a,c≤a→Ok (fun b=>b=true) (JS a x x)
theorem UU.mono{c d:Nat}{x:Val}(h:UU c x)(k:c≤d):UU d x:=fun a b=>h a (D8 k b)
theorem Mg{n:Nat}(h:n<18446744073709551616):IntKind.u64.wrap (n:Int)=n:=by
 unfold IntKind.wrap
 have:(IntKind.u64.bits)=64:=rfl
 simp only[this,show IntKind.u64.signed=false from rfl,DE,Ym,YH]
 omega
theorem Mt(n:Nat):BitVec.ofInt 64 (n:Int)=BitVec.ofNat 64 n:=BitVec.ofInt_natCast ..
theorem ZY{n m:Nat}(a:n<18446744073709551616)(hm:m<18446744073709551616):C7 .u64 (n:Int) (m:Int)=((n&&&m:Nat):Int):=by
 unfold C7
 have h:(BitVec.ofInt 64 (n:Int)&&&BitVec.ofInt 64 (m:Int)).toNat=n&&&m:=by
  rw[Mt,Mt,BitVec.toNat_and,Nw,Nw,JB a,JB hm]
 show IntKind.u64.wrap (((BitVec.ofInt 64 (n:Int)&&&BitVec.ofInt 64 (m:Int)).toNat:Nat):Int)=_
 rw[h]
 exact Mg (Nat.lt_of_le_of_lt Nat.and_le_left a)
theorem Zy1{n m:Nat}(a:n<18446744073709551616)(hm:m<18446744073709551616):Gt .u64 (n:Int) (m:Int)=((n|||m:Nat):Int):=by
 unfold Gt
 have h:(BitVec.ofInt 64 (n:Int)|||BitVec.ofInt 64 (m:Int)).toNat=n|||m:=by
  rw[Mt,Mt,BitVec.toNat_or,Nw,Nw,JB a,JB hm]
 show IntKind.u64.wrap (((BitVec.ofInt 64 (n:Int)|||BitVec.ofInt 64 (m:Int)).toNat:Nat):Int)=_
 rw[h]
 exact Mg (Nat.or_lt_two_pow (n:=64) a hm)
theorem zX{n:Nat}(a:n<18446744073709551616):Jd .u64 (n:Int)=((18446744073709551615-n:Nat):Int):=by
 unfold Jd LA
 have e:(if IntKind.u64.signed=true then(-1:Int)else IntKind.u64.max)=((18446744073709551615:Nat):Int):=rfl
 rw[e]
 have h:(BitVec.ofInt 64 ((18446744073709551615:Nat):Int)^^^BitVec.ofInt 64 (n:Int)).toNat=18446744073709551615-n:=by
  rw[Mt,Mt,show BitVec.ofNat 64 18446744073709551615=BitVec.allOnes 64 from rfl,BitVec.allOnes_xor,BitVec.toNat_not,Nw,JB a]
 show IntKind.u64.wrap (((BitVec.ofInt 64 ((18446744073709551615:Nat):Int)^^^BitVec.ofInt 64 (n:Int)).toNat:Nat):Int)=_
 rw[h]
 exact Mg (by omega)
theorem rZ(n:Nat):n&&&9218868437227405312=(n/4503599627370496%2048)*4503599627370496:=by
 have e:(9218868437227405312:Nat)=2047<<<52:=rfl
 have a:n/4503599627370496%2048*4503599627370496=((n>>>52)%2^11)<<<52:=by
  rw[Nat.shiftLeft_eq,Nat.shiftRight_eq_div_pow]
 rw[e,a]
 apply Nat.eq_of_testBit_eq
 intro i
 have b:(2047:Nat)=2^11-1:=rfl
 rw[Nat.testBit_and,ew,ew,Nat.testBit_mod_two_pow,Nat.testBit_shiftRight,b,Nat.testBit_two_pow_sub_one]
 by_cases h:52≤i
 ·rw[show 52+(i-52)=i by omega]
  simp only[h,Yv,DQ]
  rw[Bool.and_comm]
 ·simp[h]
theorem Zt4(n:Nat):n&&&4503599627370495=n%4503599627370496:=Nat.and_two_pow_sub_one_eq_mod n 52
theorem Zvr{n:Nat}(b:n<18446744073709551616):n&&&9223372036854775808=if 9223372036854775808≤n then 9223372036854775808 else 0:=by
 have e:(9223372036854775808:Nat)=2^63:=rfl
 have k:n.testBit 63=decide (9223372036854775808≤n):=by
  rw[Nat.testBit_eq_decide_div_mod_eq,decide_eq_decide]
  omega
 apply Nat.eq_of_testBit_eq
 intro i
 rw[Nat.testBit_and]
 by_cases hi:63=i
 ·subst hi
  rw[k]
  by_cases h:9223372036854775808≤n
  ·simp[h]
  ·simp[h]
 ·have a:Nat.testBit 9223372036854775808 i=false:=by
   rw[e,Nat.testBit_two_pow]
   exact Yp hi
  rw[a,Hk]
  split
  ·exact a.symm
  ·simp
def If(n:Nat):Bool:=decide (9218868437227405312<n%9223372036854775808)
theorem kf{n:Nat}(e:n<18446744073709551616):Ok (fun y:Int=>decide (y=0)=If n) (Zg (n:Int)):=by
 have a:=ZY e (m:=9218868437227405312) (by omega)
 have b:=ZY e (m:=4503599627370495) (by omega)
 rw[rZ]at a
 rw[Zt4]at b
 have a:C7 .u64 (n:Int) 9218868437227405312=_:=a
 have b:C7 .u64 (n:Int) 4503599627370495=_:=b
 dsimp only[Zg,br,vz,lr,br]
 rw[a,b]
 unfold If
 have f:(((n/4503599627370496%2048*4503599627370496:Nat):Int)=9218868437227405312)↔n/4503599627370496%2048=2047:=by omega
 have g:(((n%4503599627370496:Nat):Int)=0)↔n%4503599627370496=0:=by omega
 have h:9218868437227405312<n%9223372036854775808↔n/4503599627370496%2048=2047∧n%4503599627370496≠0:=by omega
 simp only[f,g,h]
 by_cases c:n/4503599627370496%2048=2047
 ·by_cases d:n%4503599627370496=0
  ·simp only[c,d];exact Az (by decide)
  ·simp only[c,d];exact Az (by simp[d])
 ·have i:decide (n/4503599627370496%2048=2047)=false:=Yp c
  simp only[i,c,DE,DA,YK,Ym,YH]
  refine AG (fun _=>Az (by decide)) fun _=>AG (fun _=>Az (by decide)) fun _=>Az (by decide)
theorem wL{n:Nat}(b:n<18446744073709551616):Ok (fun y:Int=>decide (y=0)=If n) (Og (n:Int)):=by
 have e:Ji .u64 (n:Int) 9223372036854775808=((n%9223372036854775808:Nat):Int):=by
  unfold Ji
  rw[Int.tmod_eq_emod_of_nonneg (by omega)]
  omega
 dsimp only[Og,br,lr,br,rem]
 rw[e]
 unfold If
 have g:(9218868437227405312:Int)<((n%9223372036854775808:Nat):Int)↔9218868437227405312<n%9223372036854775808:=by omega
 simp only[g]
 by_cases h:9218868437227405312<n%9223372036854775808
 ·simp only[h];first|exact Az (by decide)|simp
 ·have a:decide (9218868437227405312<n%9223372036854775808)=false:=Yp h
  simp only[a,Ym,YH]
  first
   |refine AG (fun _=>Az (by decide)) fun _=>AG (fun _=>Az (by decide)) fun _=>AG (fun _=>Az (by decide)) fun _=>Az (by decide)
   |simp
def CL(n:Nat):Nat:=if If n=true then 18446744073709551615 else if 9223372036854775808≤n then 18446744073709551615-n else n+9223372036854775808
theorem Rg{n:Nat}(a:n<18446744073709551616):Zf (n:Int)=some (CL n:Int):=by
 obtain⟨y,e,h⟩:=kf a
 have c:=ZY a (m:=9223372036854775808) (by omega)
 rw[Zvr a]at c
 have c:C7 .u64 (n:Int) 9223372036854775808=_:=c
 have d:=zX a
 have f:Gt .u64 (n:Int) 9223372036854775808=((n|||9223372036854775808:Nat):Int):=Zy1 a (m:=9223372036854775808) (by omega)
 dsimp only[Zf,br,vz,lr,cl,br]
 rw[e,Yd,h,c,d,f]
 unfold CL
 cases If n with
 |true=>rfl
 |false=>
  by_cases hs:9223372036854775808≤n
  ·simp[hs]
  ·have g:n|||9223372036854775808=n+9223372036854775808:=by
    have j:=Nat.two_pow_add_eq_or_of_lt (i:=63) (b:=n) (by omega) 1
    rw[Nat.or_comm]
    have k:9223372036854775808+n=9223372036854775808|||n:=j
    exact k.symm.trans (Np _ _)
   simp[hs,g]
theorem jE{v:Val}{n:Nat}(i:n<18446744073709551616)(g:v.bits=(n:Int)):XI v=some (if v.kind=2∨v.kind=3 then IntKind.u64.wrap ((n:Int)+9223372036854775808)else if v.kind=6 then(CL n:Int)else(n:Int)):=by
 obtain⟨y,e,h⟩:=wL i
 dsimp only[XI,ZF,br,vz,wg,lr,cl,br,kZ,lr]
 rw[g]
 by_cases a:v.kind=2∨v.kind=3
 ·have b:(decide (v.kind=2)||decide (v.kind=3))=true:=by simpa using a
  simp only[b,a,Yy]
  rfl
 ·have b:(decide (v.kind=2)||decide (v.kind=3))=false:=by simpa using a
  simp only[b,a,Ym,YH]
  by_cases f:v.kind=6
  ·have j:=Mg (n:=18446744073709551615-n) (by omega)
   simp only[f,Yv,Y3,Ym,YH,e,Yd,h]
   unfold CL
   cases If n with
   |true=>rfl
   |false=>
    by_cases hs:9223372036854775808≤n
    ·have c:(9223372036854775808:Int)≤(n:Int):=by omega
     have d:(18446744073709551615:Int)-(n:Int)=((18446744073709551615-n:Nat):Int):=by omega
     simp[hs,c,d,j]
    ·have c:¬(9223372036854775808:Int)≤(n:Int):=by omega
     have d:(n:Int)+9223372036854775808=((n+9223372036854775808:Nat):Int):=by omega
     have w2:=Mg (n:=n+9223372036854775808) (by omega)
     simp only[hs,c,d,w2,YK,Ym,YH,Yy]
  ·simp[f]
def BP(a b:Int):Int:=if a<b then -1 else if b<a then 1 else 0
theorem Ke(a b:Int):decide (BP a b=0)=decide (a=b):=by
 unfold BP
 by_cases h:a<b
 ·rw[Yk h,Yp (by omega:¬a=b)];rfl
 ·rw[Yi h]
  by_cases c:b<a
  ·rw[Yk c,Yp (by omega:¬a=b)];rfl
  ·rw[Yi c,Yo (by omega:a=b)];rfl
theorem Ly(a b:Int):X0 a b=some (BP a b):=by
 dsimp only[X0,br,lr,cl,br,ly,lr]
 unfold BP
 by_cases h:a<b
 ·simp[h]
 ·by_cases c:b<a<;>simp[h,c]
theorem QB(a b:Int):XD a b=some (BP a b):=by
 dsimp only[XD,br,lr,cl,br,li,lr]
 unfold BP
 by_cases h:a<b
 ·simp[h]
 ·by_cases c:b<a<;>simp[h,c]
def Ut(d x:Val):Bool:=decide (d.kind=x.kind)&&(if d.kind=7∨d.kind=8 then decide (d.text=x.text)else if d.kind=6 then decide (CL d.bits.toNat=CL x.bits.toNat)else decide (d.bits=x.bits))
def Ew(a b:ByteArray):Int:=if Bw a b=true then -1 else if a=b then 0 else 1
theorem TU(a b:ByteArray):decide (Ew a b=0)=decide (a=b):=by
 unfold Ew
 by_cases h:a=b
 ·subst h
  have:Bw a a=false:=by
   unfold Bw
   rw[Go.Proofs.bytesLess_eq]
   exact Yp (List.lt_irrefl _)
  simp[this]
 ·cases Bw a b<;>simp[h]
theorem iU(a b:ByteArray):XE a b=some (Ew a b):=by
 dsimp only[XE,br,lr,cl,br,lh,lr]
 unfold Ew
 cases h:Bw a b with
 |true=>simp
 |false=>by_cases c:a=b<;>simp[c]
theorem wR{d x:Val}(z:1≤d.kind∧d.kind≤9)(o:AU d)(p:AU x)(he:d.kind=x.kind):Ok (fun c:Int=>decide (c=0)=(if d.kind=7∨d.kind=8 then decide (d.text=x.text)else if d.kind=6 then decide (CL d.bits.toNat=CL x.bits.toNat)else decide (d.bits=x.bits))) (RW d x)∧Ok (fun c:Int=>decide (c=0)=(if d.kind=7∨d.kind=8 then decide (d.text=x.text)else if d.kind=6 then decide (CL d.bits.toNat=CL x.bits.toNat)else decide (d.bits=x.bits))) (la d x):=by
 obtain⟨n,m⟩:=Ve (MC o).1
 obtain⟨k,l⟩:=Ve (MC p).1
 have r:n<18446744073709551616:=by have:=(MC o).2;omega
 have q:k<18446744073709551616:=by have:=(MC p).2;omega
 have y:(decide (1≤d.kind)&&decide (d.kind≤9))=true:=by simp[z]
 obtain⟨E,f⟩:∃E,E=(if d.kind=7∨d.kind=8 then decide (d.text=x.text)else if d.kind=6 then decide (CL d.bits.toNat=CL x.bits.toNat)else decide (d.bits=x.bits)):=⟨_,rfl⟩
 rw[←f]
 have C:=jE r m
 have w:=jE q l
 rw[←he]at w
 have t:(decide (1≤x.kind)&&decide (x.kind≤9))=true:=by rw[←he];exact y
 have B:¬d.kind<x.kind:=by omega
 have A:¬x.kind<d.kind:=by omega
 dsimp only[RW,br,vz,wg,lr,cl,br,L5,lr,Ol,lr,la,br,wg,lr,cl,br,Ru,lr,Rz,lr]
 simp only[he,Yv,Y3,Ym,YH,t,Yd,YK,Yy,Int.lt_irrefl]
 rw[←he]
 by_cases s:d.kind=7∨d.kind=8
 ·have i:(decide (d.kind=7)||decide (d.kind=8))=true:=by simpa using s
  rw[Yk s]at f
  simp only[i,Yy,DQ,iU,Yd]
  refine⟨Az (by rw[f];exact TU _ _),?_⟩
  have e:(if Bw d.text x.text=true then some (-1:Int)else if(!(Bw d.text x.text||decide (d.text=x.text)))=true then some 1 else some 0)=some (Ew d.text x.text):=by
   unfold Ew
   cases h:Bw d.text x.text with
   |true=>simp
   |false=>by_cases u:d.text=x.text<;>simp[u]
  rw[e]
  exact Az (by rw[f];exact TU _ _)
 ·have i:(decide (d.kind=7)||decide (d.kind=8))=false:=by simpa using s
  rw[Yi s]at f
  simp only[i,Ym,YH,DE,C,w,Yd]
  have D:∀a b:Int,(if decide (a<b)=true then some (-1:Int)else if decide (b<a)=true then some 1 else some 0)=some (BP a b):=fun a b=>by
   unfold BP
   by_cases h:a<b
   ·simp[h]
   ·by_cases u:b<a<;>simp[h,u]
  rw[D]
  by_cases hs:d.kind=2∨d.kind=3
  ·have g:(decide (d.kind=2)||decide (d.kind=3))=true:=by simpa using hs
   have j:¬d.kind=6:=by omega
   rw[Yi j]at f
   simp only[g,hs,Yy,Ly,Yd]
   refine⟨Az (by rw[f,Ke,decide_eq_decide,m,l,IntKind.wrap_i64,IntKind.wrap_i64];omega),Az (by rw[f,Ke,decide_eq_decide,m,l];unfold IntKind.wrap;simp only[show IntKind.u64.bits=64 from rfl,show IntKind.u64.signed=false from rfl,DE,Ym,YH];omega)⟩
  ·have g:(decide (d.kind=2)||decide (d.kind=3))=false:=by simpa using hs
   simp only[g,hs,Ym,YH]
   by_cases j:d.kind=6
   ·rw[Yk j]at f
    have v:(CL d.bits.toNat=CL x.bits.toNat)↔((CL n:Int)=(CL k:Int)):=by rw[m,l];simp only[Fb];omega
    simp only[j,Yv,Yy,m,l,Rg r,Rg q,Yd,QB]
    exact⟨Az (by rw[f,Ke,decide_eq_decide,v]),Az (by rw[f,Ke,decide_eq_decide,v])⟩
   ·rw[Yi j]at f
    simp only[j,YK,Ym,YH,QB,Yd]
    exact⟨Az (by rw[f,Ke]),Az (by rw[f,Ke,decide_eq_decide,m,l])⟩
theorem jG{d x:Val}(f:1≤d.kind∧d.kind≤9)(b:AU d)(e:AU x):L1 d x=some (Ut d x):=by
 have g:(decide (1≤d.kind)&&decide (d.kind≤9))=true:=by simp[f]
 unfold Ut
 by_cases he:d.kind=x.kind
 ·obtain⟨⟨c,h,i⟩,_⟩:=wR f b e he
  have a:(decide (1≤x.kind)&&decide (x.kind≤9))=true:=by rw[←he];exact g
  dsimp only[L1,wg,lr,cl,L6,br,wg,lr,cl,br,X3,wg,lr,cl,bT,L5,lr]
  simp only[he,Yv,Y3,Ym,YH,a,Yy,Yd,h,DQ]
  rw[i,he]
 ·dsimp only[L1,wg,lr,cl,L6,br,wg,lr,cl,br]
  simp only[he,YK,Y1,Yy,Ly,Yd,DE,Ke]
theorem wD{α ρ:Type}{B:Int×Int×List α→Option (Lv (Int×Int×List α) (Int×List α) ρ)}(l:List α)(p:α→Bool)
  (s:∀(i j:Nat) (r:List α) x,i≤j→r.length=l.length→r[j]?=some x→l[j]?=some x→B ((i:Int),(j:Int),r)=some (.nx (if p x then((i:Int),((j+1:Nat):Int),r)else(((i+1:Nat):Int),((j+1:Nat):Int),r.set i x))))
  (t:∀(i:Nat) r,B ((i:Int),(l.length:Int),r)=some (.ex ((i:Int),r))):
  ∀(k N i j:Nat) (r:List α),j+k=l.length→k<N→i≤j→r.length=l.length→r.take i=(l.take j).filter (fun x=>!p x)→i=((l.take j).filter fun x=>!p x).length→r.drop j=l.drop j→
  ∃(n:Nat) (o:List α),Ag B N ((i:Int),(j:Int),r)=some (.inl ((n:Int),o))∧o.take n=l.filter (fun x=>!p x)∧n=(l.filter fun x=>!p x).length∧o.length=l.length:=by
 intro k
 induction k with
 |zero=>
  intro N i j r u hN b c d hi e
  obtain⟨N,rfl⟩:∃m,N=m+1:=⟨N-1,by omega⟩
  have:j=l.length:=by omega
  subst this
  rw[P6]at d hi
  exact⟨i,r,by rw[Ag,t],d,hi,c⟩
 |succ k q=>
  intro N i j r u hN b c d hi e
  obtain⟨N,rfl⟩:∃m,N=m+1:=⟨N-1,by omega⟩
  have a:j<l.length:=by omega
  have hl:l[j]?=some l[j]:=Ya a
  have h:r[j]?=some l[j]:=by
   have:=congrArg (fun z=>z[0]?) e
   simpa[YW,a]using this
  have e0:l.take (j+1)=l.take j++[l[j]]:=JD a
  rw[Ag,s i j r l[j] b c h hl]
  cases f:p l[j]with
  |true=>
   refine q N i (j+1) r (by omega) (by omega) (by omega) c ?_ ?_ ?_
   ·rw[e0,K5,d];simp[f]
   ·rw[e0,K5];simpa[f]using hi
   ·have:=congrArg (List.drop 1) e
    simpa[ND]using this
  |false=>
   have g:i<r.length:=by omega
   refine q N (i+1) (j+1) (r.set i l[j]) (by omega) (by omega) (by omega) (by rw[P8];exact c) ?_ ?_ ?_
   ·rw[e0,K5,←d,JD (by rw[P8];exact g),List.take_set_of_le (Ye _),ek]
    simp[f]
   ·rw[e0,K5,Yt,←hi]
    simp[f]
   ·rw[List.drop_set_of_lt (by omega)]
    have:=congrArg (List.drop 1) e
    simpa[ND]using this
theorem m58(l:List Fld)(h:l.length<549755813888):RP l=some l:=by
 unfold RP
 simp only[al,Ha,KW,br,ix,Ct,vz,vy,vw,vs,vg,v2,lr,Aw,ln,Af,lc,lf,Js,ap,aq,a0,a1,ad,cl,cs,cf,wa,wi,ir,ca,cp,dd,mv,st,ss,sL,Bd.c,Bd.vl,sR,AC,Ym,YH,h,Yy]
theorem ur(l:List Fld)(f:Fld→Option Bool)(p:Fld→Bool)(d:∀x∈l,f x=some (p x))(h:l.length<4611686018427387904):Rx l f=some (Hd l p):=by
 unfold Rx
 simp only[al,Ha,KW,br,ix,Ct,vz,vy,vw,vs,vg,v2,lr,Aw,ln,Af,lc,lf,Js,ap,aq,a0,a1,ad,cl,cs,cf,wa,wi,ir,ca,cp,dd,mv,st,ss,sL,Bd.c,Bd.vl,sR,AC]
 rw[IF l p (fun i=>(i:Int)) () (hN:=A6 h) (he:=by simp[Sd,al,Ha,KW,br,ix,Ct,vz,vy,vw,vs,vg,v2,lr,Aw,ln,Af,lc,lf,Js,ap,aq,a0,a1,ad,cl,cs,cf,wa,wi,ir,ca,cp,dd,mv,st,ss,sL,Bd.c,Bd.vl,sR,AC]) (hs:=by
  intro i y hy
  obtain⟨a,rfl⟩:=Yf.1 hy
  have b:i+1<9223372036854775808:=by omega
  have c:=d l[i] (Yn hy)
  simp[Sd,al,Ha,KW,br,ix,Ct,vz,vy,vw,vs,vg,v2,lr,Aw,ln,Af,lc,lf,Js,ap,aq,a0,a1,ad,cl,cs,cf,wa,wi,ir,ca,cp,dd,mv,st,ss,sL,Bd.c,Bd.vl,sR,AC,a,b,c]
  cases p l[i]<;>rfl)]
 unfold Hd
 cases l.findIdx? _<;>rfl
theorem m57(l:List Fld)(f:Fld→Option Bool)(p:Fld→Bool)(g:∀x∈l,f x=some (p x))(h:l.length<549755813888):RK l f=some (l.filter fun x=>!p x):=by
 have e0:=ur l f p g (by omega)
 unfold RK
 dsimp only[vw,vs,vg,vz,cs,br,lr,lf,lc,wi]
 rw[e0,Yd]
 cases hi:l.findIdx? p with
 |none=>
  rw[show Hd l p= -1 from by unfold Hd;rw[hi]]
  rw[show l.filter (fun x=>!p x)=l from List.filter_eq_self.2 fun x hx=>by rw[dW.1 hi x hx];rfl]
  rfl
 |some i=>
  obtain⟨s,t,u⟩:=UV.1 hi
  rw[show Hd l p=(i:Int)from by unfold Hd;rw[hi]]
  have a:((i:Int)= -1)=False:=eq_false (by omega)
  have k: -9223372036854775808≤(i:Int)+1∧(i:Int)+1<9223372036854775808:=by omega
  have w:(l.take i).filter (fun x=>!p x)=l.take i:=List.filter_eq_self.2 fun x hx=>by
   obtain⟨j,G,rfl⟩:=PZ.1 hx
   rw[Bool.eq_false_iff.2 (u j (by omega))];rfl
  have e:(l.take (i+1)).filter (fun x=>!p x)=l.take i:=by rw[JD s,K5,w];simp[t]
  obtain⟨b,D,y,z,A,C⟩:=wD (B:=O1 l f) l p (fun i j r x v H hx hl=>by
    have F:=(Yf.1 hl).1
    have o:(j:Int)<(l.length:Int):=by omega
    have q:=g x (Yn hl)
    have E: -9223372036854775808≤(i:Int)+1∧(i:Int)+1<9223372036854775808:=by omega
    have w2: -9223372036854775808≤(j:Int)+1∧(j:Int)+1<9223372036854775808:=by omega
    have c:(0:Int)≤(j:Int):=by omega
    have d:(0:Int)≤(i:Int):=by omega
    have m:(i:Int)<(l.length:Int):=by omega
    have n:i<r.length:=by omega
    dsimp only[O1,al,Ha,KW,br,ix,Ct,vz,vy,vw,vs,vg,v2,lr,Aw,ln,Af,lc,lf,Js,ap,aq,a0,a1,ad,cl,cs,cf,wa,wi,ir,ca,cp,dd,mv,st,ss,sL,Bd.c,Bd.vl,sR,AC,cV,cX,cU,cY,rb,cr,UB,ch]
    simp only[B0,AC,o,q,E,w2,c,d,m,n,hx,DD,Lg,DB,Yv,Yy,Fb,Yd]
    cases p x<;>simp)
   (fun i r=>by
    dsimp only[O1,al,Ha,KW,br,ix,Ct,vz,vy,vw,vs,vg,v2,lr,Aw,ln,Af,lc,lf,Js,ap,aq,a0,a1,ad,cl,cs,cf,wa,wi,ir,ca,cp,dd,mv,st,ss,sL,Bd.c,Bd.vl,sR,AC,cV,cX,cU,cY,rb,cr,UB,ch]
    simp)
   (l.length-(i+1)) Aj i (i+1) l (by omega) (A6 (by omega)) (by omega) rfl e.symm (by rw[e,YQ];omega) rfl
  rw[show((i:Int)+1)=((i+1:Nat):Int)from rfl]at k⊢
  simp only[a,k,y,YK,Yv,Ym,DD,Yy,YH,Yd,D9]
  have c:b≤l.length:=by rw[A];exact U0 _ _
  have d:(b:Int)=((D.take b).length:Int):=by rw[YQ];omega
  simp[z,C,al,Ha,KW,br,ix,Ct,vz,vy,vw,vs,vg,v2,lr,Aw,ln,Af,lc,lf,Js,ap,aq,a0,a1,ad,cl,cs,cf,wa,wi,ir,ca,cp,dd,mv,st,ss,sL,Bd.c,Bd.vl,sR,AC,cV,cX,cU,cY,rb,cr,UB,ch]
  omega
theorem bb{v:Val}(h:SzV v):X7 v=some (BA v):=by
 obtain⟨t1,t2,t3,t4,t5⟩:=h
 have b:v.list.length<4611686018427387904:=by omega
 have c:v.pairs.length<4611686018427387904:=by omega
 have d:v.slots.length<4611686018427387904:=by omega
 have e:v.raws.length<4611686018427387904:=by omega
 have f:v.slots.length+v.raws.length<9223372036854775808:=by omega
 dsimp only[X7,vy,wg,vg,lr,wa,Am]
 simp only[b,c,d,e,f,E6,Yy]
 congr 1
 unfold BA
 rw[Vq]
 by_cases a:v.text=⟨#[]⟩<;>simp only[a,Yv,YK,YF,Yc,YU,YJ,YV,Y3,Y1,DE,DQ,ne_eq,K6,K7,DA,DB,P2,Ym,or_false,false_or,Lb]<;>omega
theorem tK(n:Int):Ol n=some (DW n):=by
 dsimp only[Ol,lr]
 unfold DW
 rw[Bool.decide_or]
theorem pe{v:Val}(h:SzV v):Zd v=some (G2 v&&(if DW v.kind=true then decide (v.bits=0)else decide (v.text=⟨#[]⟩))):=by
 obtain⟨t1,t2,t3,t4,t5⟩:=h
 have a:v.list.length<4611686018427387904:=by omega
 have b:v.pairs.length<4611686018427387904:=by omega
 have c:v.slots.length<4611686018427387904:=by omega
 have d:v.raws.length<4611686018427387904:=by omega
 have e:v.list.length+v.pairs.length<9223372036854775808:=by omega
 have f:v.list.length+v.pairs.length+v.slots.length<9223372036854775808:=by omega
 have g:v.list.length+v.pairs.length+v.slots.length+v.raws.length<9223372036854775808:=by omega
 have hl:decide ((0:Int)<((v.list.length+v.pairs.length+v.slots.length+v.raws.length:Nat):Int))=!G2 v:=by
  unfold G2
  rw[←decide_not]
  refine decide_eq_decide.2 ?_
  omega
 dsimp only[Zd,br,vz,wg,vs,lr,cl,wa,Am,br]
 simp only[a,b,c,d,e,f,g,Yy]
 rw[hl,tK,Yd]
 cases G2 v<;>cases DW v.kind<;>rfl
theorem Zuv(n b:Int):XV n b=some (Lk n b):=by
 unfold Lk
 dsimp only[XV,br,vz,vy,lr,br]
 by_cases a:n=1
 ·subst a;rfl
 by_cases c:n=2
 ·subst c
  simp only[Yv,YK,Yy,YH,E6,show¬(2:Int)=1 by decide,Ym]
  rw[Bool.decide_and]
 by_cases e:n=9
 ·subst e;rfl
 by_cases d:n=4
 ·subst d;rfl
 simp only[a,c,d,e,YK,Ym,YH]
theorem te(n:Int){v:Val}(h:SzV v):X4 n v=some (Ja n v):=by
 have j:=h.t
 have o:v.text.size<4611686018427387904:=by omega
 have l:L5 n=some (decide (1≤n)&&decide (n≤9)):=rfl
 dsimp only[X4,br,vy,wg,lr,cl,AF,A1,br]
 rw[l,pe h,Zuv,m8 _ j,Yd]
 unfold Ja
 by_cases c:1≤n∧n≤9∧v.kind=n
 ·obtain⟨f,g,i⟩:=c
  simp only[f,g,i,DD,Yv,Jz,Y3,Qi,Hm,Y1,Nu,Fa,YS,Yy,Yd,E6,o,DQ]
  cases hl:G2 v with
  |false=>rfl
  |true=>
   cases b:DW n with
   |true=>
    have m:Lk n v.bits=true:=by
     unfold DW at b
     rw[YJ]at b
     unfold Lk
     rw[Yi (by omega),Yi (by omega),Yi (by omega),Yi (by omega)]
    rw[m]
    by_cases d:v.bits=0
    ·by_cases hs:v.text.size≤4096
     ·have a:¬(4096:Int)<v.text.size:=by omega
      unfold DW at b
      rw[YJ]at b
      simp only[d,hs,a,Yv,YK,DD,Y3,Qi,Ym,YH,Yy,DQ,Jz,Y1]
      congr 2
      rw[←decide_not]
      exact decide_eq_decide.2 (by omega)
     ·have a:(4096:Int)<v.text.size:=by omega
      simp only[hs,a,Yv,YK,Hr,Ns,Yy,DE,Hk]
    ·simp only[d,YK,Hk,Y1,Iw,Ns,Yy,DA,DE,DQ]
   |false=>
    have hs:v.text=⟨#[]⟩→¬(4096:Int)<v.text.size:=fun e=>by rw[e];decide
    have k:¬n=7:=by
     unfold DW at b
     rw[YV]at b
     omega
    by_cases hx:v.text=⟨#[]⟩
    ·have hs:=hs hx
     simp only[hx,hs,k,Yv,YK,Y3,Y1,Ym,YH,DQ,NE,Hm,Iw,P2]
     rw[hx]at hs
     simp only[hs,YK,P2]
     cases Lk n v.bits<;>rfl
    ·simp only[hx,YK,Y1,Iw,Yy,DE,Hk,Ym,YH,Y3,Ns,DQ]
 ·have e:((!(decide (1≤n)&&decide (n≤9)))||!decide (v.kind=n))=true:=by
   simp only[YF,YU,La,YV]
   omega
  simp only[e,c,YK,DE,Y3,Ym,Ld,Yy,Iw]
theorem Z3{n:Int}{v:Val}(c:1≤n)(d:n≤9)(e:v.kind=n)(a:BA v=false):G2 v=true∧(DW n=true→v.bits=0)∧(DW n=false→v.text=⟨#[]⟩):=by
 unfold BA at a
 rw[YV]at a
 simp only[not_or,Classical.not_and_iff_not_or_not,Classical.not_not,ne_eq]at a
 obtain⟨a1,b,a3,a4,a5⟩:=a
 unfold G2 DW
 rw[YJ,YJ,YV]
 refine⟨by omega,fun h=>?_,fun h=>?_⟩
 ·rcases a5 with a5|a5
  ·exact a5
  ·omega
 ·rcases a4 with a4|a4
  ·exact a4
  ·omega
def Lw(s:Scm)(t:Typ)(v:Val):Int:=if Cr t.kind v≠0∨t.kind≠9 then Cr t.kind v else if(C9 s t.name).1.opn=false∧KP (C9 s t.name).1 v.bits=false then 16 else 0
theorem qr(s:Scm)(n:ByteArray)(h:s.enums.length≤1048576):Zz s n=some (C9 s n):=by
 have c:=IF (B:=O9 s.enums fun z=>Oj z n) (N:=Aj) s.enums (fun e=>decide (e.name=n)) (fun i=>(s.enums.getD i default,true)) () (fun i x hx=>by
  have a:=B9 hx
  have d:=(Yf.1 hx).1
  have b:i+1<9223372036854775808:=by omega
  have e:Oj x n=some (decide (x.name=n)):=rfl
  dsimp only[O9,br,ix,wg,vs,Aw,ln,Af,cf,wa,br]
  simp only[a,b,hx,e,Yv,Yy,Yd,Yj,YS]
  cases decide (x.name=n)<;>simp) (by simp[O9,br,ix,wg,vs,Aw,ln,Af,cf,wa,br]) (A6 (by omega))
 dsimp only[Zz,wg,lr,cs,XZ,vz,wg,lr,lc,Am]
 unfold C9
 rw[c,aX]
 cases s.enums.findIdx? fun m=>decide (m.name=n)<;>rfl
theorem nV{s:Scm}(h:SzS s)(n:ByteArray):(C9 s n).1.items.length≤1048576:=by
 unfold C9 Dj
 cases e:s.enums.find? fun m=>decide (m.name=n)with
 |none=>decide
 |some m=>exact(h.e m (Nn e)).il
theorem Zvb(l:List Itm)(f:Itm→Option Bool)(p:Itm→Bool)(d:∀x∈l,f x=some (p x))(h:l.length≤1048576):Rv l f=some (l.any p):=by
 have e:=IF (B:=Pd l f) (N:=Aj) l p (fun i=>(i:Int)) () (fun i x hx=>by
  have a:=B9 hx
  have g:=(Yf.1 hx).1
  have b:i+1<9223372036854775808:=by omega
  have c:=d x (Yn hx)
  dsimp only[Pd,br,ix,vs,Aw,ln,Af,cf,wa,br]
  simp only[a,b,c,hx,Yv,Yy,Yd]
  cases p x<;>simp) (by simp[Pd,br,ix,vs,Aw,ln,Af,cf,wa,br]) (A6 (by omega))
 dsimp only[Rv,lr,cs,X2,vz,lr,lc,Am]
 rw[e,←Qb]
 cases l.findIdx? p with
 |none=>rfl
 |some i=>simp
theorem my(e:Enm)(b:Int)(h:e.items.length≤1048576):XW e b=some (e.opn||KP e b):=by
 dsimp only[XW,wg,lr,CX]
 rw[Zvb e.items (fun z=>RL z b) (fun x=>decide (IntKind.u64.wrap x.num=b)) (fun x _=>rfl) h]
 unfold KP
 cases e.opn<;>simp
theorem xp{v:Val}(c:v.kind=7)(d:BA v=false)(b:¬4096<v.text.size):Ja 7 v=G5 v.text:=by
 obtain⟨a1,a,a3⟩:=Z3 (n:=7) (by decide) (by decide) c d
 have a:=a (by decide)
 unfold Ja
 rw[a1,show DW 7=true by decide,c,a]
 have b:v.text.size≤4096:=by omega
 simp[b]
theorem oY(s:Scm)(t:Typ){v:Val}(hs:SzS s)(h:SzV v):Zh s t v=some (Lw s t v):=by
 have i:=h.t
 have d:v.text.size<4611686018427387904:=by omega
 dsimp only[Zh,br,vz,wg,lr,cl,AF,A1,br]
 rw[bb h,m8 _ i,te t.kind h,qr s _ hs.el,Yd,Yd,my _ _ (nV hs _)]
 unfold Lw Cr
 by_cases c:v.kind=t.kind
 ·cases j:BA v with
  |true=>simp[c]
  |false=>
   by_cases a:4096<v.text.size
   ·have b:(4096:Int)<v.text.size:=by omega
    simp[c,d,a,b]
   ·have b:¬(4096:Int)<v.text.size:=by omega
    by_cases e:t.kind=7
    ·have g:=xp (c.trans e) j a
     rw[e]at c⊢
     rw[g]
     cases G5 v.text with
     |false=>simp[c,d,a,b]
     |true=>simp[c,d,a,b]
    ·cases Ja t.kind v with
     |false=>simp[c,d,a,b,e]
     |true=>
      by_cases f:t.kind=9
      ·simp[c,d,a,b,e,f]
       cases(C9 s t.name).1.opn<;>cases KP (C9 s t.name).1 v.bits<;>simp
      ·simp[c,d,a,b,e,f]
 ·simp[c]
theorem Zuj{α ξ ρ:Type}{B:Nat→Option (Lv Nat ξ ρ)}{N:Nat}(l:List α)(p:α→Bool)(r:ρ)(e:ξ)
  (hs:∀i x,l[i]?=some x→B i=some (if p x=true then .rt r else .nx (i+1))) (he:B l.length=some (.ex e)) (hN:l.length<N):Ag B N 0=some (if l.any p=true then .inr r else .inl e):=by
 rw[IF l p (fun _=>r) e hs he hN,←Qb]
 cases l.findIdx? p<;>rfl
theorem uJ:20<Aj:=A6 (by omega)
mutual
theorem Pc:∀v:Val,cnt v≤2*An (AJ v)+1
 |.mk k b t l p s r=>by
  have a:=n1 l
  have c:=nP p
  have d:=oc s
  have f:=Cv (e:=AA) r
  simp only[cnt,AJ,An,bk]
  omega
theorem n1:∀l:List Val,Bm l≤2*AH (MT l)
 |[]=>by simp[Bm]
 |v::l=>by
  have a:=Pc v
  have b:=n1 l
  simp only[Bm,MT,AH]
  omega
theorem Zwg:∀p:Pr,Kj p≤2*An (Ap p)+2
 |.mk k v=>by
  have a:=Pc k
  have b:=Pc v
  simp only[Kj,Ap,Mj]
  omega
theorem nP:∀l:List Pr,CT l≤2*AH (LG l)
 |[]=>by simp[CT]
 |v::l=>by
  have a:=Zwg v
  have b:=nP l
  simp only[CT,LG,AH]
  omega
theorem ZtV:∀x:Slt,HO x≤2*An (Ao x)+1
 |.mk n v=>by
  have a:=Pc v
  simp only[HO,Ao,An,bk]
  omega
theorem oc:∀l:List Slt,Ce l≤2*AH (MQ l)
 |[]=>by simp[Ce]
 |v::l=>by
  have a:=ZtV v
  have b:=oc l
  simp only[Ce,MQ,AH]
  omega
end
theorem Te(v:Val):cnt v=1+v.raws.length+Bm v.list+CT v.pairs+Ce v.slots:=by cases v;simp only[cnt,Val.raws,Val.list,Val.pairs,Val.slots]
theorem ZuB(p:Pr):Kj p=cnt p.key+cnt p.val:=by cases p;simp only[Kj,Pr.key,Pr.val]
theorem Z2(x:Slt):HO x=cnt x.val:=by cases x;simp only[HO,Slt.val]
theorem J0:∀a b:List Val,Bm (a++b)=Bm a+Bm b
 |[],b=>by simp[Bm]
 |x::a,b=>by rw[JC,Bm,Bm,J0 a b];omega
theorem ta{v:Val}(h:AU v):cnt v≤2097153:=by
 have:=Pc v
 rw[F2]at this
 have h:An (Ah v)≤1048576:=h
 omega
theorem zA(l:List Val)(i:Nat):Bm (l.take i)≤Bm l:=by
 conv=>rhs;rw[←JH i l,J0]
 omega
theorem Zuc{l:List Val}{i:Nat}{x:Val}(h:l[i]?=some x):Bm (l.take i)+cnt x≤Bm l:=by
 obtain⟨a,rfl⟩:=Yf.1 h
 have:=zA l (i+1)
 rw[JD a,J0,Bm,Bm]at this
 omega
def DH(v:Val):List Val:=v.list++v.pairs.flatMap (fun p=>[p.key,p.val])++v.slots.map fun x=>x.val
theorem S5(l:List Pr):(l.flatMap fun p=>[p.key,p.val]).length=2*l.length:=by
 induction l with
 |nil=>rfl
 |cons p l a=>rw[List.flatMap_cons,Yt,a];simp;omega
theorem rx(l:List Pr):Bm (l.flatMap fun p=>[p.key,p.val])=CT l:=by
 induction l with
 |nil=>rfl
 |cons p l a=>rw[List.flatMap_cons,J0,a,CT,ZuB,Bm,Bm,Bm];omega
theorem ZyL(l:List Slt):Bm (l.map fun x=>x.val)=Ce l:=by
 induction l with
 |nil=>rfl
 |cons p l a=>rw[YR,Bm,a,Ce,Z2]
theorem mV(v:Val):1+v.raws.length+Bm (DH v)=cnt v:=by
 unfold DH
 rw[J0,J0,rx,ZyL,Te]
 omega
theorem Zus{v x:Val}(e:AU v)(hx:x∈DH v):AU x∧An (Ah x)+1≤An (Ah v):=by
 unfold DH at hx
 rcases Iz.1 hx with d|d
 ·rcases Iz.1 d with c|c
  ·exact⟨PC e c,by have:=fI c;omega⟩
  ·obtain⟨p,a,b⟩:=List.mem_flatMap.1 c
   have g:=VG a
   have f:=GN e a
   rcases Yu.1 b with rfl|b
   ·exact⟨f.1,by omega⟩
   ·rcases Yu.1 b with rfl|b
    ·exact⟨f.2,by omega⟩
    ·cases b
 ·obtain⟨y,a,rfl⟩:=YT.1 d
  exact⟨Kb e a,by have:=iO a;omega⟩
theorem Zvl(l:List Val)(h:l.length<549755813888):RM l=some l:=by
 cases l with
 |nil=>rfl
 |cons x r=>
  dsimp only[RM,al,br,vw,lr,a0,mv,br]
  simp only[D7]at h
  simp
  omega
theorem r3{v:Val}(h:SzV v):X8 v=some (DH v):=by
 obtain⟨t1,t2,t3,t4,t5⟩:=h
 have e:=II (B:=Pp v) (N:=Aj) (ρ:=List Val) v.pairs (fun p=>v.list++p.flatMap fun p=>[p.key,p.val]) (fun i b=>(b,i)) id (fun i y hy=>by
  have a:=B9 hy
  have g:=(Yf.1 hy).1
  have c:i+1<9223372036854775808:=by omega
  have d:(v.list++(v.pairs.take i).flatMap fun p=>[p.key,p.val]).length<549755813800:=by
   rw[Yt,S5,YQ]
   omega
  rw[List.flatMap_append,←DO]
  generalize (v.list++(v.pairs.take i).flatMap fun p=>[p.key,p.val])=L at d⊢
  dsimp only[Pp,br,ix,vz,vw,wg,vs,ln,Af,cG,wa,fl,br]
  simp[a,hy,c]<;>omega) (by
   have:(v.list++v.pairs.flatMap fun p=>[p.key,p.val]).length<549755813800:=by
    rw[Yt,S5]
    omega
   dsimp only[Pp,br,ix,vz,vw,wg,vs,ln,Af,cG,wa,fl,br]
   simp) (A6 (by omega))
 have f:=II (B:=Pn v) (N:=Aj) (ρ:=List Val) v.slots (fun p=>(v.list++v.pairs.flatMap fun p=>[p.key,p.val])++p.map fun x=>x.val) (fun i b=>(b,i)) id (fun i y hy=>by
  have a:=B9 hy
  have g:=(Yf.1 hy).1
  have c:i+1<9223372036854775808:=by omega
  have d:((v.list++v.pairs.flatMap fun p=>[p.key,p.val])++(v.slots.take i).map fun x=>x.val).length<549755813800:=by
   rw[Yt,Yt,S5,YE,YQ]
   omega
  rw[DP,←DO]
  generalize ((v.list++v.pairs.flatMap fun p=>[p.key,p.val])++(v.slots.take i).map fun x=>x.val)=L at d⊢
  dsimp only[Pn,br,ix,vz,vw,wg,vs,ln,Af,ap,wa,fl,br]
  simp[a,hy,c]<;>omega) (by
   dsimp only[Pn,br,ix,vz,vw,wg,vs,ln,Af,ap,wa,fl,br]
   simp) (A6 (by omega))
 rw[show(v.list++([]:List Pr).flatMap fun p=>[p.key,p.val])=v.list by simp]at e
 rw[show((v.list++v.pairs.flatMap fun p=>[p.key,p.val])++([]:List Slt).map fun x=>x.val)=(v.list++v.pairs.flatMap fun p=>[p.key,p.val])by simp]at f
 dsimp only[X8,vz,wg,lr,lc,fl,fr,Am]
 rw[Zvl _ (by omega)]
 simp only[Yd,e,f,id,D9]
 rfl
theorem Zvj{v:Val}(h:SzV v):(DH v).length≤4194304:=by
 obtain⟨t1,t2,t3,t4,t5⟩:=h
 unfold DH
 rw[Yt,Yt,S5,YE]
 omega
theorem qC:∀(d:Nat) (v:Val),An (Ah v)<d→AU v→L4 d v=some (cnt v:Int)
 |0,v,h,_=>by omega
 |d+1,v,h,k=>by
  have j:=D5 k
  have u:=j.r
  have hl:=Zvj j
  have o:=ta k
  rw[←mV]at o
  have q:v.raws.length<4611686018427387904:=by omega
  have r:1+v.raws.length<9223372036854775808:=by omega
  have s:(DH v).length<4611686018427387904:=by omega
  have l:=II (B:=PE (L4 d) (DH v)) (N:=Aj) (ρ:=Int) (DH v) (fun p=>((1+v.raws.length+Bm p:Nat):Int)) (fun i b=>(b,i)) id (fun i x hx=>by
   have m:=B9 hx
   have n:i+1<9223372036854775808:=by have:=(Yf.1 hx).1;omega
   have hm:=Zus k (Yn hx)
   have e:=qC d x (by omega) hm.1
   have t:=Zuc hx
   have f:((1+v.raws.length+Bm ((DH v).take i):Nat):Int)+(cnt x:Int)=((1+v.raws.length+Bm ((DH v).take i++[x]):Nat):Int):=by
    rw[J0,Bm,Bm]
    omega
   have g: -9223372036854775808≤((1+v.raws.length+Bm ((DH v).take i):Nat):Int)+(cnt x:Int)∧((1+v.raws.length+Bm ((DH v).take i):Nat):Int)+(cnt x:Int)<9223372036854775808:=by omega
   generalize ((1+v.raws.length+Bm ((DH v).take i):Nat):Int)=a at f g⊢
   generalize ((1+v.raws.length+Bm ((DH v).take i++[x]):Nat):Int)=b at f⊢
   generalize (cnt x:Int)=c at e f g
   dsimp only[PE,br,ix,wg,vs,v2,ln,Af,cs,wa,wi,br]
   simp only[m,hx,Yv,Yy,Yd]
   rw[e,Yd,Yk g,Yk n,f]) (by dsimp only[PE,br,ix,wg,vs,v2,ln,Af,cs,wa,wi,br];simp) (A6 (by omega))
  simp only[Bm,FN,id]at l
  show Q0 (L4 d) v=_
  dsimp only[Q0,vz,wg,vs,lr,lc,cl,wa,Am]
  rw[r3 j]
  simp only[q,r,s,Yy,l,Yd,D9]
  rw[mV]
theorem Tz{l:List Fld}(h:C6 l l.length):∀(d i:Nat) (a b:Fld),l[i]?=some a→l[i+1+d]?=some b→a.num<b.num
 |0,i,a,b,e,c=>h i a b (Yf.1 c).1 e c
 |d+1,i,a,b,e,c=>by
  have g:=(Yf.1 c).1
  have f:i+1+d<l.length:=by omega
  have j:=Tz h d i a l[i+1+d] e (Ya f)
  have k:=h (i+1+d) l[i+1+d] b (by omega) (Ya f) c
  omega
theorem sT{l:List Fld}(h:C6 l l.length){i:Nat}{f:Fld}(a:l[i]?=some f):∀g∈l.take i,g.num≠f.num:=fun g b=>by
 obtain⟨j,c,rfl⟩:=PZ.1 b
 have:=Tz h (i-(j+1)) j _ f (Ya (by omega)) (by rw[show j+1+(i-(j+1))=i by omega];exact a)
 omega
def rj(F:List Fld):Prop:=∀f∈F,Ip f∧AU f.dflt
theorem Mi(F:List Fld)(k:Int):((BX F k).2=false∧AS F k=zF)∨((BX F k).2=true∧AS F k∈F):=by
 unfold AS BX Dj
 cases e:F.find? fun f=>decide (f.num=k)with
 |none=>exact .inl ⟨rfl,rfl⟩
 |some f=>exact .inr ⟨rfl,Nn e⟩
theorem z8{F:List Fld}(h:C6 F F.length){i:Nat}{f:Fld}(a:F[i]?=some f):F=F.take i++f::F.drop (i+1)∧(∀g∈F.take i,g.num≠f.num)∧∀g∈F.drop (i+1),g.num≠f.num:=by
 obtain⟨hi,e⟩:=Yf.1 a
 refine⟨?_,sT h a,fun g c=>?_⟩
 ·rw[←e,List.getElem_cons_drop,JH]
 ·obtain⟨d,b⟩:=YG.1 c
  rw[YW]at b
  have:=Tz h d i f g a b
  omega
theorem Mm{F:List Fld}(h:C6 F F.length){i:Nat}{f:Fld}(c:F[i]?=some f):BX F f.num=(f,true):=by
 obtain⟨e,b,j⟩:=z8 h c
 have a:F.find? (fun g=>decide (g.num=f.num))=some f:=by
  rw[e,List.find?_append,List.find?_eq_none.2 fun g d=>by simpa using b g d]
  simp
 unfold BX Dj
 rw[a]
 rfl
theorem Zzc{s:Scm}(h:∀(i:Nat) (m:Msg),s.messages[i]?=some m→GdM s m)(hs:An (At s)≤1048576)(n:ByteArray):C6 (Bf s n) (Bf s n).length∧rj (Bf s n)∧(Bf s n).length≤1048576:=by
 have hl:=aK (Hf hs) n
 unfold Bf Dj at*
 cases e:s.messages.find? fun m=>decide (m.name=n)with
 |none=>exact⟨fun i a b hi=>by simp[zM]at hi,fun f c=>by simp[zM]at c,by simp[zM]⟩
 |some m=>
  rw[e]at hl
  have hm:=Nn e
  obtain⟨i,hi⟩:=YG.1 hm
  have g:=h i m hi
  refine⟨g.asc,fun f c=>?_,hl⟩
  obtain⟨j,k⟩:=YG.1 c
  refine⟨(g.df j f k).1,?_⟩
  have d:=Dg (e:=AO) hm
  have l:=Dg (e:=Au) (show f∈m.fields from c)
  simp only[At,An,bk]at hs
  simp only[AO,An,bk]at d
  have e:An (Ah f.dflt)≤An (Au f):=by
   simp only[Au,Ah,An,bk]
   omega
  show An (Ah f.dflt)≤1048576
  omega
structure GdF (s:Scm) (f:Fld):Prop where
 en:f.type.kind=9→(C9 s f.type.name).2=true
 ms:f.type.kind=10→(Bk s f.type.name).2=true
 ty:1≤f.type.kind∧f.type.kind≤10
 un:f.union≠⟨#[]⟩→f.card=2
 cd:f.card≠5→1≤f.card∧f.card≤4
 np:f.type.kind=10→f.card≠3
 ky:f.card=5→f.key=1∨f.key=2∨f.key=3∨f.key=4∨f.key=5∨f.key=7
structure GdS (s:Scm):Prop where
 fl:∀(n:ByteArray) (f:Fld),f∈Bf s n→GdF s f
 asc:∀n:ByteArray,C6 (Bf s n) (Bf s n).length
theorem HT{n:Int}{v:Val}(h:Cr n v=0):v.kind=n∧BA v=false∧v.text.size≤4096∧Ja n v=true:=by
 unfold Cr at h
 by_cases a1:v.kind≠n∨BA v=true
 ·rw[Yk a1]at h;cases h
 ·rw[Yi a1]at h
  by_cases a:4096<v.text.size
  ·rw[Yk a]at h;cases h
  ·rw[Yi a]at h
   cases a3:Ja n v with
   |false=>
    rw[a3]at h
    rw[Yi (by decide)]at h
    split at h<;>cases h
   |true=>
    refine⟨Decidable.not_not.1 fun e=>a1 (.inl e),?_,by omega,rfl⟩
    cases b:BA v with
    |false=>rfl
    |true=>exact absurd (.inr b) a1
theorem r5{s:Scm}{t:Typ}{v:Val}{R:Msg→Val→Int}(a:1≤t.kind)(b:t.kind≤9)(he:t.kind=9→(C9 s t.name).2=true):Lw s t v=Cs R s t v:=by
 unfold Lw Cs
 rw[Yi (by omega:¬t.kind=10),Yi (by omega:¬(t.kind<1∨9<t.kind))]
 by_cases c:Cr t.kind v≠0∨t.kind≠9
 ·rw[Yk c,Yk c]
 ·rw[Yi c,Yi c,he (by omega),Yi (by decide:¬true=false)]
theorem qb{n:Int}{a b:Val}(l:n=1∨n=2∨n=3∨n=4∨n=5∨n=7)(j:Cr n a=0)(k:Cr n b=0):Ut a b=GW a b:=by
 obtain⟨a1,h,_,_⟩:=HT j
 obtain⟨d,i,_,_⟩:=HT k
 obtain⟨_,a3,a4⟩:=Z3 (n:=n) (by omega) (by omega) a1 h
 obtain⟨_,e,f⟩:=Z3 (n:=n) (by omega) (by omega) d i
 unfold Ut GW
 rw[a1,d,Yo rfl,DQ]
 unfold DW at a3 a4 e f
 by_cases c:n=7
 ·rw[a3 (Yo (.inl c)),e (Yo (.inl c)),Yk (.inl c)]
  simp
 ·have g:decide (n=7∨n=8)=false:=Yp (by omega)
  rw[a4 g,f g,Yi (by omega),Yi (by omega)]
  simp
theorem Zva(l:List Pr)(f:Pr→Option Bool)(p:Pr→Bool)(d:∀x∈l,f x=some (p x))(h:l.length≤1048576):Oi l f=some (l.any p):=by
 have e:=IF (B:=Pf l f) (N:=Aj) l p (fun i=>(i:Int)) () (fun i x hx=>by
  have a:=B9 hx
  have g:=(Yf.1 hx).1
  have b:i+1<9223372036854775808:=by omega
  have c:=d x (Yn hx)
  dsimp only[Pf,br,ix,vs,Aw,ln,Af,cf,wa,br]
  simp only[a,b,c,hx,Yv,Yy,Yd]
  cases p x<;>simp) (by simp[Pf,br,ix,vs,Aw,ln,Af,cf,wa,br]) (A6 (by omega))
 dsimp only[Oi,lr,cs,X1,vz,lr,lc,Am]
 rw[e,←Qb]
 cases l.findIdx? p with
 |none=>rfl
 |some i=>simp
theorem ZZ(l:List Slt)(f:Slt→Option Bool)(p:Slt→Bool)(a:∀x∈l,f x=some (p x))(h:l.length≤1048576):LS l f=some (l.any p):=by
 dsimp only[LS,lr,cs]
 rw[n70 l f p a (by omega)]
 simp only[Yd]
 rw[ZzW]
theorem th(l:List Slt)(f:Fld)(h:l.length≤1048576):RR l f=some (Du l f.num):=by
 dsimp only[RR,lr,cs]
 rw[ZZ l (fun z=>RC z f) (fun x=>decide (x.num=f.num)) (fun x _=>rfl) h]
 rfl
theorem sh(l:List Slt)(f:Fld)(h:l.length≤1048576):RQ l f=some (Du l f.num):=by
 dsimp only[RQ,lr,cs]
 rw[ZZ l (fun z=>RI z f) (fun x=>decide (x.num=f.num)) (fun x _=>rfl) h]
 rfl
theorem s7(l:List Slt)(f:Fld)(h:l.length≤1048576):RO l f=some (Du l f.num):=by
 dsimp only[RO,lr,cs]
 rw[ZZ l (fun z=>RB z f) (fun x=>decide (x.num=f.num)) (fun x _=>rfl) h]
 rfl
def Hg(F:List Fld)(u:ByteArray):List Fld:=if u=⟨#[]⟩then[]else F.filter fun f=>decide (f.union=u)
theorem ZzH(m:Msg)(u:ByteArray)(h:m.fields.length≤1048576):Zs m u=some (Hg m.fields u):=by
 unfold Hg
 by_cases c:u=⟨#[]⟩
 ·subst c
  rfl
 ·dsimp only[Zs,br,vz,wg,lr,lc,fl,fr,br]
  rw[m58 _ (by omega),Yd,m57 m.fields (fun z=>RS z u) (fun f=>!decide (f.union=u)) (fun f _=>rfl) (by omega),Yd]
  simp[c]
theorem og(F:List Fld)(u:ByteArray):(Hg F u).length≤F.length:=by
 unfold Hg
 split
 ·exact Cn _
 ·exact U0 _ _
theorem bu{F:List Fld}(h:C6 F F.length){g:Fld}(a:g∈F):BX F g.num=(g,true):=by
 obtain⟨i,hi⟩:=YG.1 a
 exact Mm h hi
theorem tD{F:List Fld}(h:C6 F F.length)(l:List Slt)(k:Int)(j:Du l k=false)(u:ByteArray):((Hg F u).any fun g=>(!decide (g.num=k))&&Du l g.num)=I1 F l u:=by
 unfold Hg I1
 by_cases c:u=⟨#[]⟩
 ·simp[c]
 ·rw[Yi c,Yp c,Y1,DQ,Vq,YL,YL]
  constructor
  ·rintro⟨g,d,a⟩
   obtain⟨m,n⟩:=GC.1 d
   rw[Yc]at a
   obtain⟨y,o,i⟩:=YL.1 (show(l.any fun x=>decide (x.num=g.num))=true from a.2)
   rw[YJ]at i
   refine⟨y,o,?_⟩
   unfold AS
   rw[i,bu h m]
   exact n
  ·rintro⟨y,d,a⟩
   rw[YJ]at a
   rcases Mi F y.num with⟨f,b⟩|⟨f,b⟩
   ·rw[b]at a
    exact absurd a.symm c
   ·have p:=Sn f
    refine⟨AS F y.num,GC.2 ⟨b,Yo a⟩,?_⟩
    rw[p,Yc]
    have hy:Du l y.num=true:=YL.2 ⟨y,d,Yo rfl⟩
    refine⟨?_,hy⟩
    rw[YU,YV]
    intro e
    rw[e]at hy
    rw[hy]at j
    cases j
abbrev MR:=Scm→Fld→Val→Int→Option Int
theorem Zz5(R:MR)(n:Fld→Val→Int)(s:Scm)(m:Msg)(l:List Slt)(i:Nat)(x:Slt)(d:Int)(E:C6 m.fields m.fields.length)(hm:m.fields.length≤1048576)(hl:l.length≤1048576)(hx:l[i]?=some x)(D:∀f:Fld,f∈m.fields→R s f x.val d=some (n f x.val)):RZ R s m l i d=some (FK n m.fields l i x):=by
 have hi:=(Yf.1 hx).1
 have t:(l.take i).length≤1048576:=by rw[YQ];omega
 have w0:(0:Int)≤i∧(i:Int)<l.length:=by omega
 have b:(0:Int)≤i∧(i:Int)≤l.length:=by omega
 have c:i≤l.length:=by omega
 have v:(BX m.fields x.num).1=AS m.fields x.num:=rfl
 have I:(l.getD i Rw.z)=x:=by rw[Yj,hx];rfl
 have H:∀y:Fld×Bool,Du (l.take i) y.1.num=false→Ag (MM s l i d R y (Hg m.fields y.1.union)) Aj 0=some (if I1 m.fields (l.take i) y.1.union=true then .inr 15 else .inl ()):=fun y hy=>by
  have u:=og m.fields y.1.union
  have q:=Zuj (B:=MM s l i d R y (Hg m.fields y.1.union)) (N:=Aj) (Hg m.fields y.1.union) (fun g=>(!decide (g.num=y.1.num))&&Du (l.take i) g.num) (15:Int) () (fun j g k=>by
   have A:=B9 k
   have C:j+1<9223372036854775808:=by have:=(Yf.1 k).1;omega
   have e:=sh (l.take i) g t
   dsimp only[MM,br,ix,wg,vs,Aw,ln,Af,CX,wa,br]
   simp only[A,C,k,b,c,e,Fb,Bd.c,Bd.vl,Qj,Hl,Yv,Yy,Yd,DD,E6,Fa,YS,Cn]
   cases(!decide (g.num=y.1.num))&&Du (l.take i) g.num<;>simp) (by dsimp only[MM,br,ix,wg,vs,Aw,ln,Af,CX,wa,br];simp) (A6 (by omega))
  rw[q,tD E _ _ hy]
 have w:=th (l.take i) (AS m.fields x.num) t
 have z:=ZzH m (AS m.fields x.num).union hm
 have u:(Hg m.fields (AS m.fields x.num).union).length<4611686018427387904:=by have:=og m.fields (AS m.fields x.num).union;omega
 unfold FK
 dsimp only[RZ,cw,br,Ct,vz,vw,wg,lr,lc,cl,cs,sL,du,Am,br]
 simp only[Fb,hx,w0,b,c,I,DD,Yy,cZ _ _ hm,Yd,v,Bd.c,Bd.vl,Qj,Hl,w,z,u,Cn]
 cases p:(BX m.fields x.num).2 with
 |false=>simp
 |true=>
  have r:(AS m.fields x.num).num=x.num:=Sn p
  have a:AS m.fields x.num∈m.fields:=by
   rcases Mi m.fields x.num with⟨h,o⟩|⟨h,o⟩
   ·rw[p]at h;cases h
   ·exact o
  have G:=D _ a
  have q:=H (BX m.fields x.num)
  rw[v,r]at q
  rw[r]
  cases F:Du (l.take i) x.num with
  |true=>simp
  |false=>
   have q:=q F
   simp only[q,Y3,Ym,YH,Yd]
   cases I1 m.fields (l.take i) (AS m.fields x.num).union with
   |true=>simp
   |false=>simp[G]
theorem oK{α:Type}[Inhabited α]{l:List α}{z:α}{p:α→Bool}{x:α}(hx:x∈l)(a:p x=true):(Dj l z p).2=true:=by
 unfold Dj
 cases e:l.find? p with
 |none=>exact absurd a (List.find?_eq_none.1 e x hx)
 |some y=>rfl
theorem sX{s:Scm}(h:∀(i:Nat) (m:Msg),s.messages[i]?=some m→GdM s m)(hs:An (At s)≤1048576):GdS s:=by
 refine⟨fun n f a=>?_,fun n=>(Zzc h hs n).1⟩
 unfold Bf Dj at a
 cases e:s.messages.find? fun m=>decide (m.name=n)with
 |none=>rw[e]at a;cases a
 |some m=>
  rw[e]at a
  obtain⟨i,hi⟩:=YG.1 (Nn e)
  obtain⟨j,g⟩:=YG.1 (show f∈m.fields from a)
  obtain⟨_,c,⟨t1,t2,t3⟩,u⟩:=(h i m hi).df j f g
  refine⟨fun k=>?_,fun k=>?_,t3,u,fun k=>⟨(c.1 k).1,(c.1 k).2.1⟩,fun k=>(t2 k).2,c.2⟩
  ·obtain⟨x,b,d⟩:=t1 k
   exact oK b (Yo d)
  ·obtain⟨⟨x,b,d⟩,_⟩:=t2 k
   exact oK b (Yo d)
end Go.Proofs.YtalafnjhcecdpaaGreatDoor
