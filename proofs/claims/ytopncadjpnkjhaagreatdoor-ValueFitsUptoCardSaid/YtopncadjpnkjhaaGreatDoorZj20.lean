import Derived.Test.YtopncadjpnkjhaaGreatDoorZj19
import Derived.Sort.Walk0
import Derived.Test.YtopncadjpnkjhaaGreatDoorZj00
namespace Go.Proofs.YtopncadjpnkjhaaGreatDoor
set_option linter.all false
open Go Go.Eng
theorem y4(c:Nat):Utf8.valid (c:Int)=decide (c<0xD800∨0xE000≤c∧c≤0x10FFFF):=by
 unfold Utf8.valid
 rw[Jr]
 simp only[Yt,Yb,Yr]
 omega
theorem pD(a b c d:Nat)(i j l:Prop)[Decidable i][Decidable j][Decidable l](r:a<256)(s:b<256)(t:c<256)(u:d<256)(z:Nat)
 (g:z=if a<0x80 then 1
 else if 0xc2≤a∧a≤0xdf∧i∧0x80≤b∧b≤0xbf then 2
 else if a=0xe0∧(i∧0xa0≤b∧b≤0xbf)∧(j∧0x80≤c∧c≤0xbf)then 3
 else if a=0xed∧(i∧0x80≤b∧b≤0x9f)∧(j∧0x80≤c∧c≤0xbf)then 3
 else if 0xe1≤a∧a≤0xef∧a≠0xed∧(i∧0x80≤b∧b≤0xbf)∧(j∧0x80≤c∧c≤0xbf)then 3
 else if a=0xf0∧(i∧0x90≤b∧b≤0xbf)∧(j∧0x80≤c∧c≤0xbf)∧(l∧0x80≤d∧d≤0xbf)then 4
 else if 0xf1≤a∧a≤0xf3∧(i∧0x80≤b∧b≤0xbf)∧(j∧0x80≤c∧c≤0xbf)∧(l∧0x80≤d∧d≤0xbf)then 4
 else if a=0xf4∧(i∧0x80≤b∧b≤0x8f)∧(j∧0x80≤c∧c≤0xbf)∧(l∧0x80≤d∧d≤0xbf)then 4
 else 0) (D:Nat×Nat) (f:D=if a<0x80 then(a,1)
 else if a/32=6∧i∧b/64=2 then
  if(a%32)*64+b%64≥0x80 then((a%32)*64+b%64,2)else(65533,1)
 else if a/16=14∧(i∧b/64=2)∧(j∧c/64=2)then
  if(a%16)*4096+(b%64)*64+c%64≥0x800∧((a%16)*4096+(b%64)*64+c%64<0xD800∨0xE000≤(a%16)*4096+(b%64)*64+c%64∧(a%16)*4096+(b%64)*64+c%64≤0x10FFFF)then((a%16)*4096+(b%64)*64+c%64,3)else(65533,1)
 else if a/8=30∧(i∧b/64=2)∧(j∧c/64=2)∧(l∧d/64=2)then
  if(a%8)*262144+(b%64)*4096+(c%64)*64+d%64≥0x10000∧((a%8)*262144+(b%64)*4096+(c%64)*64+d%64<0xD800∨0xE000≤(a%8)*262144+(b%64)*4096+(c%64)*64+d%64∧(a%8)*262144+(b%64)*4096+(c%64)*64+d%64≤0x10FFFF)then((a%8)*262144+(b%64)*4096+(c%64)*64+d%64,4)else(65533,1)
 else(65533,1)):(z=0→D.1=65533∧¬(a=0xef∧(i∧b=0xbf)∧(j∧c=0xbd)))∧(z≠0→D.2=z∧(D.1=65533→a=0xef∧(i∧b=0xbf)∧(j∧c=0xbd))):=by
 by_cases a0:a<128
 ·rw[Yi a0]at g f
  subst g f
  exact⟨fun h=>absurd h (by decide),fun _=>⟨rfl,fun h=>by dsimp only at h;omega⟩⟩
 rw[Yj a0]at g f
 by_cases a1:a/32=6
 ·simp only[show¬a=224 by omega,show¬a=237 by omega,show¬225≤a by omega,show¬a=240 by omega,show¬241≤a by omega,show¬a=244 by omega,show¬a/16=14 by omega,show¬a/8=30 by omega,show¬a=0xef by omega,CW,YL,Ej,a1,CV,F9,Hk]at g f⊢
  by_cases k:i
  ·simp only[k,CV]at g f
   split at g<;>split at f<;>(try split at f)<;>subst g f<;>dsimp only<;>omega
  ·simp only[k,CW,YL,Ej]at g f
   subst g f
   exact⟨fun _=>rfl,fun h=>absurd rfl h⟩
 by_cases p:a/16=14
 ·simp only[show¬a≤223 by omega,show¬a=240 by omega,show¬241≤a by omega,show¬a=244 by omega,show¬a/8=30 by omega,a1,p,CW,YL,Ej,CV]at g f⊢
  by_cases k:i<;>by_cases o:j<;>simp only[k,o,CV,CW,Ej,YL]at g f⊢
  ·by_cases m:a=0xe0
   ·subst m
    simp only[show¬(224=237)by decide,show¬225≤224 by decide,CV,CW,YL]at g
    split at g<;>split at f<;>(try split at f)<;>subst g f<;>dsimp only<;>omega
   ·by_cases n:a=0xed
    ·subst n
     simp only[show¬(237=224)by decide,ne_eq,Ii,CV,CW,Ej,YL]at g
     split at g<;>split at f<;>(try split at f)<;>subst g f<;>dsimp only<;>omega
    ·simp only[m,n,CW,YL]at g
     split at g<;>split at f<;>(try split at f)<;>subst g f<;>dsimp only<;>omega
  all_goals(subst g f;exact⟨fun _=>⟨rfl,by simp⟩,fun h=>absurd rfl h⟩)
 ·simp only[show¬(a=0xef)by omega,show¬a=224 by omega,show¬a=237 by omega,a1,p,CW,YL,F9,Hk]at g f⊢
  rw[Yj (by omega:¬(0xc2≤a∧a≤0xdf∧i∧0x80≤b∧b≤0xbf)),Yj (by omega:¬(0xe1≤a∧a≤0xef∧a≠0xed∧(i∧0x80≤b∧b≤0xbf)∧(j∧0x80≤c∧c≤0xbf)))]at g
  by_cases e:i∧j∧l
  ·obtain⟨k,o,q⟩:=e
   simp only[k,o,q,CV]at g f
   by_cases m:a=0xf0
   ·subst m
    simp only[show¬(240=244)by decide,show¬241≤240 by decide,CV,CW,YL]at g
    split at g<;>split at f<;>(try split at f)<;>subst g f<;>dsimp only<;>omega
   ·by_cases n:a=0xf4
    ·subst n
     simp only[show¬(244=240)by decide,show¬244≤243 by decide,CV,CW,Ej,YL]at g
     split at g<;>split at f<;>(try split at f)<;>subst g f<;>dsimp only<;>omega
    ·simp only[m,n,CW,YL]at g
     split at g<;>split at f<;>(try split at f)<;>subst g f<;>dsimp only<;>omega
  ·rw[Yj (fun h=>e ⟨h.2.1.1,h.2.2.1.1,h.2.2.2.1⟩),Yj (fun h=>e ⟨h.2.2.1.1,h.2.2.2.1.1,h.2.2.2.2.1⟩),Yj (fun h=>e ⟨h.2.1.1,h.2.2.1.1,h.2.2.2.1⟩)]at g
   rw[Yj (fun h=>e ⟨h.2.1.1,h.2.2.1.1,h.2.2.2.1⟩)]at f
   subst g f
   exact⟨fun _=>rfl,fun h=>absurd rfl h⟩
theorem jI(x:ByteArray)(p:Nat):(Bt x p=0→(Utf8.decode x p).1=65533∧¬((x.get! p).toNat=0xef∧(p+1<x.size∧(x.get! (p+1)).toNat=0xbf)∧(p+2<x.size∧(x.get! (p+2)).toNat=0xbd)))∧(Bt x p≠0→(Utf8.decode x p).2=Bt x p∧((Utf8.decode x p).1=65533→((x.get! p).toNat=0xef∧(p+1<x.size∧(x.get! (p+1)).toNat=0xbf)∧(p+2<x.size∧(x.get! (p+2)).toNat=0xbd)))):=
 pD (x.get! p).toNat (x.get! (p+1)).toNat (x.get! (p+2)).toNat (x.get! (p+3)).toNat (p+1<x.size) (p+2<x.size) (p+3<x.size) (x.get! p).toNat_lt (x.get! (p+1)).toNat_lt (x.get! (p+2)).toNat_lt (x.get! (p+3)).toNat_lt _ (by
  unfold Bt BX
  simp only[Yb,Yr,and_assoc]) _ (by
  unfold Utf8.decode
  simp only[y4,DZ,Yb,Yr,beq_iff_eq,Utf8.runeError,and_assoc])
theorem W0(x:ByteArray)(p:Nat):x.data.toList.getD p 0=x.get! p:=by
 cases x with
 |mk d=>
  show d.toList.getD p 0=d.getD p 0
  rw[Yu,Yx,Ys]
theorem gq(x:ByteArray)(i:Nat)(lo hi:Nat)(h:x.size≤1048576):JD x (i:Int) (lo:Int) (hi:Int)=some (BX x i lo hi):=by
 have w:x.size<4611686018427387904:=by omega
 dsimp only[JD,vz,lr,AR,EQ]
 simp only[w,Yv,Y7,W0]
 have a:∀b c:Bool,(b=true→decide ((i:Int)<x.size)=true)→(if(b=true→(0:Int)≤i∧(i:Int)<x.size)then(some c)else none)=some c:=fun b c d=>by
  rw[Yi]
  intro h
  have:=d h
  simp only[Yr]at this
  omega
 rw[a _ _ (fun h=>by rw[Yb]at h;exact h.1),a _ _ (fun h=>h)]
 unfold BX
 congr 1
 rw[Jr]
 simp only[Yb,Yr]
 omega
theorem kx(x:ByteArray)(i n:Nat)(h:x.size≤1048576)(hi:i≤2097152)(p:n≤9):It x (i:Int) (n:Int)=some ((List.range n).all fun k=>BX x (i+k) 128 191):=by
 have o:=DG (B:=IC x (i:Int) (n:Int)) (N:=Ah) (List.range n) (fun k=>!BX x (i+k) 128 191) (fun _=>false) () (fun k y a=>by
  have b:=(Yd.1 a).1
  rw[SC]at b
  have hy:y=k:=by rw[List.getElem?_range b]at a;cases a;rfl
  subst hy
  have e:=gq x (i+y) 128 191 h
  rw[Int.natCast_add]at e
  have d:(y:Int)<n:=by omega
  have f:y+1<9223372036854775808:=by omega
  have g: -9223372036854775808≤(i:Int)+y∧(i:Int)+y<9223372036854775808:=by omega
  dsimp only[IC,br,vs,Am,ln,Ai,cl,wa,wi,br]
  simp only[d,f,g,Yq,Yv,CP]
  rw[show((128:Int))=((128:Nat):Int)from rfl,show((191:Int))=((191:Nat):Int)from rfl,e,Yc]
  cases BX x (i+y) 128 191<;>rfl) (by rw[SC];dsimp only[IC,br,vs,Am,ln,Ai,cl,wa,wi,br];simp) (by rw[SC];exact A9 (by omega))
 dsimp only[It,lr,lc]
 rw[o]
 cases c:(List.range n).findIdx? fun k=>!BX x (i+k) 128 191 with
 |none=>
  have:=SJ.1 c
  have e:((List.range n).all fun k=>BX x (i+k) 128 191)=true:=Yk.2 fun k a=>by simpa using this k a
  rw[e]
  rfl
 |some j=>
  obtain⟨l,m,_⟩:=N2.1 c
  have e:((List.range n).all fun k=>BX x (i+k) 128 191)=false:=by
   rw[List.all_eq_false]
   exact⟨_,Ju l,by simpa using m⟩
  rw[e]
  rfl
theorem HS{c:Prop}[Decidable c]{b:Bool}(n:Nat)(h:b=true↔c){x:Option Int}{m:Nat}(k:x=some (m:Int)):(if b=true then some (n:Int)else x)=some ((if c then n else m:Nat):Int):=by
 by_cases a:c
 ·rw[Yi (h.2 a),Yi a]
 ·rw[Yj (fun e=>a (h.1 e)),Yj a,k]
theorem nj(x:ByteArray)(p:Nat)(o:p<x.size)(h:x.size≤1048576):L8 x (p:Int)=some (Bt x p:Int):=by
 have t1:∀n:Nat,n≤9→It x ((p:Int)+1) (n:Int)=_:=fun n c=>kx x (p+1) n h (by omega) c
 have t2:∀n:Nat,n≤9→It x ((p:Int)+2) (n:Int)=_:=fun n c=>kx x (p+2) n h (by omega) c
 have a:∀lo hi:Nat,JD x ((p:Int)+1) lo hi=_:=fun lo hi=>gq x (p+1) lo hi h
 have a1:=t1 1 (by omega)
 have b:=t1 2 (by omega)
 have a3:=t1 3 (by omega)
 have a4:=t2 1 (by omega)
 have a5:=t2 2 (by omega)
 have d:=a 160 191
 have e:=a 128 159
 have g:=a 144 191
 have i:=a 128 143
 have w0:(0:Int)≤p∧(p:Int)<x.size:=by omega
 have m: -9223372036854775808≤(p:Int)+1∧(p:Int)+1<9223372036854775808:=by omega
 have w2: -9223372036854775808≤(p:Int)+2∧(p:Int)+2<9223372036854775808:=by omega
 have j:∀f:Nat→Bool,(List.range 1).all f=f 0:=fun f=>by simp[SG]
 have k:∀f:Nat→Bool,(List.range 2).all f=(f 0&&f 1):=fun f=>by simp[SG]
 have l:∀f:Nat→Bool,(List.range 3).all f=(f 0&&(f 1&&f 2)):=fun f=>by simp[SG,Bool.and_assoc]
 rw[j]at a1 a4
 rw[k]at b a5
 rw[l]at a3
 simp only[DZ,YC,Nat.reduceAdd,Int.cast_ofNat_Int]at a1 b a3 a4 a5 d e g i
 dsimp only[L8,br,vg,lr,Aw,wi,br,NB]
 simp only[w0,m,w2,CP,Yv,Y7,W0,a1,b,a3,a4,a5,d,e,g,i,Ek,YE,Dm]
 unfold Bt
 refine HS 1 (by simp only[Yr];omega) ?_
 refine HS 2 (by simp only[Yb,Yr];grind) ?_
 refine HS 3 (by simp only[Yb,Yr];grind) ?_
 refine HS 3 (by simp only[Yb,Yr];grind) ?_
 refine HS 3 (by simp only[Yb,YF,Yr,YB];grind) ?_
 refine HS 4 (by simp only[Yb,Yr];grind) ?_
 refine HS 4 (by simp only[Yb,Yr];grind) ?_
 refine HS 4 (by simp only[Yb,Yr];grind) ?_
 rfl
theorem nm(x:ByteArray)(p:Nat):Bt x p≤4:=by
 unfold Bt
 dsimp only
 repeat' (first|split|omega)
theorem wL(x:ByteArray):∀(k p n m:Nat),x.size-p=k→x.size-p<n→x.size-p<m→EF x n p=EF x m p:=by
 intro k
 induction k using Nat.strongRecOn with
 |_ k c=>
  intro p n m d e hm
  obtain⟨n,rfl⟩:∃j,n=j+1:=⟨n-1,by omega⟩
  obtain⟨m,rfl⟩:∃j,m=j+1:=⟨m-1,by omega⟩
  unfold EF
  by_cases a:p<x.size
  ·rw[Yi a,Yi a]
   by_cases b:Bt x p=0
   ·rw[Yi b,Yi b]
   ·rw[Yj b,Yj b]
    exact c (x.size-(p+Bt x p)) (by omega) _ _ _ rfl (by omega) (by omega)
  ·rw[Yj a,Yj a]
def GV(x:ByteArray)(p:Nat):Bool:=EF x (x.size+1-p) p
theorem iz{x:ByteArray}{p:Nat}(h:x.size≤p):GV x p=true:=by
 unfold GV
 cases x.size+1-p with
 |zero=>rfl
 |succ n=>unfold EF;rw[Yj (by omega)]
theorem gp{x:ByteArray}{p:Nat}(h:p<x.size):GV x p=if Bt x p=0 then false else GV x (p+Bt x p):=by
 unfold GV
 obtain⟨n,e⟩:∃n,x.size+1-p=n+1:=⟨x.size-p,by omega⟩
 rw[e]
 conv=>lhs;unfold EF
 rw[Yi h]
 by_cases a:Bt x p=0
 ·rw[Yi a,Yi a]
 ·rw[Yj a,Yj a]
  by_cases b:p+Bt x p<x.size
  ·exact wL x _ _ _ _ rfl (by omega) (by omega)
  ·have c:EF x n (p+Bt x p)=true:=by
    cases n with
    |zero=>rfl
    |succ n=>unfold EF;rw[Yj b]
   have d:EF x (x.size+1-(p+Bt x p)) (p+Bt x p)=true:=by
    cases x.size+1-(p+Bt x p)with
    |zero=>rfl
    |succ n=>unfold EF;rw[Yj b]
   rw[c,d]
theorem kP(x:ByteArray):Ds x=GV x 0:=rfl
theorem tp(x:ByteArray)(h:x.size≤1048576):JB x=some (Ds x):=by
 have q:Ok (Sum.elim (fun _=>Ds x=true) (fun r:Int=>0≤r∧Ds x=false)) (Ak (JY x) Ah 0):=by
  refine Bh (fun v:Int=>0≤v∧Ds x=GV x v.toNat) (fun v:Int=>x.size-v.toNat) ⟨by omega,kP x⟩ (A9 (by omega)) fun v c=>?_
  obtain⟨v,rfl⟩:∃n:Nat,v=n:=⟨v.toNat,by omega⟩
  obtain⟨_,c⟩:=c
  rw[Y7]at c
  have w:x.size<4611686018427387904:=by omega
  dsimp only[JY,br,vz,vs,Am,ln,Ai,cl,wi,AR,br]
  by_cases g:v<x.size
  ·have d:(v:Int)<x.size:=by omega
   have hs:=nm x v
   have b:=gp g
   simp only[w,Yv,d,Yq,nj x v g h,Yc]
   by_cases f:Bt x v=0
   ·rw[Yi f]at b
    simp only[f,Int.ofNat_zero,Int.cast_ofNat_Int,Yq,Yv]
    exact⟨_,rfl,by omega,by rw[c,b]⟩
   ·rw[Yj f]at b
    have j:¬((Bt x v:Int)=0):=by omega
    have k: -9223372036854775808≤(v:Int)+Bt x v∧(v:Int)+Bt x v<9223372036854775808:=by omega
    simp only[j,YG,Yp,YL,k,CP,Yv]
    refine⟨_,rfl,⟨by omega,?_⟩,?_⟩
    ·rw[c,b,show((v:Int)+Bt x v).toNat=v+Bt x v by omega]
    ·show x.size-((v:Int)+Bt x v).toNat<x.size-(v:Int).toNat
     omega
  ·have d:¬(v:Int)<x.size:=by omega
   simp only[w,Yv,d,YG,Yp,YL]
   exact⟨_,rfl,by rw[c,iz (by omega)]⟩
 obtain⟨y,e,a⟩:=q
 dsimp only[JB,lr,cl,Pp,lr,lc]
 rw[e]
 cases y with
 |inl y=>
  have a:Ds x=true:=a
  rw[a]
  rfl
 |inr r=>
  obtain⟨a1,i⟩:=a
  rw[i]
  simp only[Yc,Sum.elim_inr]
  rw[show decide (r<0)=false by simpa using a1]
theorem nV{α:Type}(m:List α)(a b c:α):m.take 3=[a,b,c]↔m[0]?=some a∧m[1]?=some b∧m[2]?=some c:=by
 match m with
 |[]=>simp
 |[x]=>simp
 |[x,y]=>simp
 |x::y::z::l=>simp
theorem yn{x y:ByteArray}:x=y↔x.data.toList=y.data.toList:=by
 constructor
 ·rintro rfl
  rfl
 ·intro h
  cases x
  cases y
  congr 1
  exact Array.toList_inj.1 h
theorem fS(x:ByteArray)(a b:Nat):(x.extract a b).data.toList=(x.data.toList.take b).drop a:=by
 rw[ByteArray.data_extract,Array.toList_extract,List.extract_eq_take_drop,List.drop_take]
theorem XE(x:ByteArray)(p:Nat)(c:UInt8):x.data.toList[p]?=some c↔p<x.size∧(x.get! p).toNat=c.toNat:=by
 rw[←W0,Yu]
 have hs:x.size=x.data.toList.length:=EU.symm
 rw[hs]
 constructor
 ·intro h
  rw[h]
  exact⟨(Yd.1 h).1,rfl⟩
 ·rintro⟨b,a⟩
  rw[Ye b]at a⊢
  rw[YE]at a
  rw[UInt8.toNat_inj.1 a]
theorem o5(x:ByteArray)(p:Nat)(f:p<x.size)(h:x.size≤1048576):UZ (x.extract p x.size) ⟨#[239,191,189]⟩=some (decide ((x.get! p).toNat=0xef∧(p+1<x.size∧(x.get! (p+1)).toNat=0xbf)∧(p+2<x.size∧(x.get! (p+2)).toNat=0xbd))):=by
 have g:(x.extract p x.size).size=x.size-p:=by rw[ak];omega
 have hl:(x.extract p x.size).data.toList=x.data.toList.drop p:=by
  have e:x.data.toList.take x.size=x.data.toList:=N1 (Nat.le_of_eq EU)
  rw[fS,e]
 have key:(x.extract p x.size).extract 0 3=⟨#[239,191,189]⟩↔((x.get! p).toNat=0xef∧(p+1<x.size∧(x.get! (p+1)).toNat=0xbf)∧(p+2<x.size∧(x.get! (p+2)).toNat=0xbd)):=by
  rw[yn,fS,hl,He]
  show(x.data.toList.drop p).take 3=[239,191,189]↔_
  rw[nV,YP,YP,YP,XE,XE,XE]
  exact⟨fun h=>⟨h.1.2,h.2⟩,fun h=>⟨⟨f,h.1⟩,h.2⟩⟩
 have b:(⟨#[239,191,189]⟩:ByteArray).size=3:=rfl
 generalize x.extract p x.size=y at g key
 dsimp only[UZ,lr,cl,eW,vz,vy,lr,AR]
 rw[b]
 have w:y.size<4611686018427387904:=by omega
 by_cases c:3≤y.size
 ·have a:((3:Nat):Int)≤y.size:=by omega
  simp only[w,Yv,a,Yq,Hi,Bd.c,Bd.vl,Y1,Yc,show(3:Nat)<4611686018427387904 by decide,D0,CV,c,CP,Dm]
  congr 1
  exact decide_eq_decide.2 key
 ·have a:¬((3:Nat):Int)≤y.size:=by omega
  simp only[w,Yv,a,YG,Yp,LA,Y9,Yc,show(3:Nat)<4611686018427387904 by decide,Dm]
  congr 1
  symm
  rw[YB]
  intro d
  have:=d.2.2.1
  omega
theorem w8(x:ByteArray)(p:Nat)(f:p<x.size)(h:x.size≤1048576):Vv x (p:Int) (HZ x p)=some (decide (Bt x p=0)):=by
 obtain⟨d1,d2⟩:=jI x p
 have i:=o5 x p f h
 have c:HZ x p=((Utf8.decode x p).1:Nat):=rfl
 dsimp only[Vv,lr,Aw]
 by_cases e:HZ x p=65533
 ·have g:(0:Int)≤p∧(p:Int)≤x.size:=by omega
  have b:p≤x.size:=by omega
  simp only[e,Yq,Y1,Hi,Bd.c,Bd.vl,Y7,i,Ek,YE,Yv,g,b,CV,CP,Yh]
  congr 1
  rw[←decide_not]
  refine decide_eq_decide.2 ⟨fun d=>?_,fun a=>(d1 a).2⟩
  rcases Ob (Bt x p)with a|a
  ·exact a
  ·exact absurd ((d2 (by omega)).2 (by rw[c]at e;omega)) d
 ·have a:¬Bt x p=0:=fun a=>e (by rw[c,(d1 a).1];rfl)
  simp only[e,YG,Y9,Yp,LA,Yv,a]
theorem gS(x:ByteArray)(h:x.size≤1048576):VC x=some (Ds x):=by
 have q:Ok (Sum.elim (fun _=>Ds x=true) (fun r:Int=>0≤r∧Ds x=false)) (Ak (QI x) Ah 0):=by
  refine Bh (fun v:Nat=>Ds x=GV x v) (fun v:Nat=>x.size-v) (kP x) (A9 (by omega)) fun v f=>?_
  dsimp only[QI,br,wg,Am,ln,Ai,cl,br]
  by_cases d:v<x.size
  ·have b:=gp d
   simp only[d,Yq,Yv,w8 x v d h,Yc]
   by_cases c:Bt x v=0
   ·rw[Yi c]at b
    simp only[c,Yq,Yv]
    exact⟨_,rfl,by omega,by rw[f,b]⟩
   ·rw[Yj c]at b
    have i:DT x v=Bt x v:=((jI x v).2 c).1
    simp only[c,YG,Yp,YL]
    refine⟨_,rfl,?_,?_⟩
    ·show Ds x=GV x (v+DT x v)
     rw[f,b,i]
    ·show x.size-(v+DT x v)<x.size-v
     omega
  ·simp only[d,YG,Yp,YL]
   exact⟨_,rfl,by rw[f,iz (by omega)]⟩
 obtain⟨y,e,a⟩:=q
 dsimp only[VC,lr,cl,gG,lr,lc]
 rw[e]
 cases y with
 |inl y=>
  have a:Ds x=true:=a
  rw[a]
  rfl
 |inr r=>
  obtain⟨a1,g⟩:=a
  rw[g]
  simp only[Yc,Sum.elim_inr]
  rw[show decide (r<0)=false by simpa using a1]
end Go.Proofs.YtopncadjpnkjhaaGreatDoor
namespace Go.Proofs.YtopncadjpnkjhaaGreatDoor
set_option linter.all false
open Go Go.Eng
theorem P5{n:Nat}(h:n<18446744073709551616):IntKind.u64.wrap (n:Int)=n:=by
 unfold IntKind.wrap
 have:(IntKind.u64.bits)=64:=rfl
 simp only[this,show IntKind.u64.signed=false from rfl,Y9,Yp,YL]
 omega
theorem J1(n:Nat):BitVec.ofInt 64 (n:Int)=BitVec.ofNat 64 n:=BitVec.ofInt_natCast ..
theorem V4{n m:Nat}(a:n<18446744073709551616)(hm:m<18446744073709551616):CK .u64 (n:Int) (m:Int)=((n&&&m:Nat):Int):=by
 unfold CK
 have h:(BitVec.ofInt 64 (n:Int)&&&BitVec.ofInt 64 (m:Int)).toNat=n&&&m:=by
  rw[J1,J1,BitVec.toNat_and,Ls,Ls,Ik a,Ik hm]
 show IntKind.u64.wrap (((BitVec.ofInt 64 (n:Int)&&&BitVec.ofInt 64 (m:Int)).toNat:Nat):Int)=_
 rw[h]
 exact P5 (Nat.lt_of_le_of_lt Nat.and_le_left a)
theorem wt{n m:Nat}(a:n<18446744073709551616)(hm:m<18446744073709551616):Fq .u64 (n:Int) (m:Int)=((n|||m:Nat):Int):=by
 unfold Fq
 have h:(BitVec.ofInt 64 (n:Int)|||BitVec.ofInt 64 (m:Int)).toNat=n|||m:=by
  rw[J1,J1,BitVec.toNat_or,Ls,Ls,Ik a,Ik hm]
 show IntKind.u64.wrap (((BitVec.ofInt 64 (n:Int)|||BitVec.ofInt 64 (m:Int)).toNat:Nat):Int)=_
 rw[h]
 exact P5 (Nat.or_lt_two_pow (n:=64) a hm)
theorem tN{n:Nat}(a:n<18446744073709551616):HR .u64 (n:Int)=((18446744073709551615-n:Nat):Int):=by
 unfold HR Ks
 have e:(if IntKind.u64.signed=true then(-1:Int)else IntKind.u64.max)=((18446744073709551615:Nat):Int):=rfl
 rw[e]
 have h:(BitVec.ofInt 64 ((18446744073709551615:Nat):Int)^^^BitVec.ofInt 64 (n:Int)).toNat=18446744073709551615-n:=by
  rw[J1,J1,show BitVec.ofNat 64 18446744073709551615=BitVec.allOnes 64 from rfl,BitVec.allOnes_xor,BitVec.toNat_not,Ls,Ik a]
 show IntKind.u64.wrap (((BitVec.ofInt 64 ((18446744073709551615:Nat):Int)^^^BitVec.ofInt 64 (n:Int)).toNat:Nat):Int)=_
 rw[h]
 exact P5 (by omega)
theorem wB(n:Nat):n&&&9218868437227405312=(n/4503599627370496%2048)*4503599627370496:=by
 have e:(9218868437227405312:Nat)=2047<<<52:=rfl
 have a:n/4503599627370496%2048*4503599627370496=((n>>>52)%2^11)<<<52:=by
  rw[Nat.shiftLeft_eq,Nat.shiftRight_eq_div_pow]
 rw[e,a]
 apply Nat.eq_of_testBit_eq
 intro i
 have b:(2047:Nat)=2^11-1:=rfl
 rw[Nat.testBit_and,Z9,Z9,Nat.testBit_mod_two_pow,Nat.testBit_shiftRight,b,Nat.testBit_two_pow_sub_one]
 by_cases h:52≤i
 ·rw[show 52+(i-52)=i by omega]
  simp only[h,Yq,Y1]
  rw[Bool.and_comm]
 ·simp[h]
theorem tD(n:Nat):n&&&4503599627370495=n%4503599627370496:=Nat.and_two_pow_sub_one_eq_mod n 52
theorem tO{n:Nat}(b:n<18446744073709551616):n&&&9223372036854775808=if 9223372036854775808≤n then 9223372036854775808 else 0:=by
 have e:(9223372036854775808:Nat)=2^63:=rfl
 have k:n.testBit 63=decide (9223372036854775808≤n):=by
  rw[Nat.testBit_eq_decide_div_mod_eq,decide_eq_decide]
  omega
 apply Nat.eq_of_testBit_eq
 intro i
 rw[Nat.testBit_and]
 by_cases hi:63=i
 ·subst hi
  rw[k]
  by_cases h:9223372036854775808≤n
  ·simp[h]
  ·simp[h]
 ·have a:Nat.testBit 9223372036854775808 i=false:=by
   rw[e,Nat.testBit_two_pow]
   exact Ep hi
  rw[a,F5]
  split
  ·exact a.symm
  ·simp
def O6(n:Nat):Bool:=decide (9218868437227405312<n%9223372036854775808)
theorem qj{n:Nat}(e:n<18446744073709551616):Ok (fun y:Int=>decide (y=0)=O6 n) (U3 (n:Int)):=by
 have a:=V4 e (m:=9218868437227405312) (by omega)
 have b:=V4 e (m:=4503599627370495) (by omega)
 rw[wB]at a
 rw[tD]at b
 have a:CK .u64 (n:Int) 9218868437227405312=_:=a
 have b:CK .u64 (n:Int) 4503599627370495=_:=b
 dsimp only[U3,br,vz,lr,br]
 rw[a,b]
 unfold O6
 have f:(((n/4503599627370496%2048*4503599627370496:Nat):Int)=9218868437227405312)↔n/4503599627370496%2048=2047:=by omega
 have g:(((n%4503599627370496:Nat):Int)=0)↔n%4503599627370496=0:=by omega
 have h:9218868437227405312<n%9223372036854775808↔n/4503599627370496%2048=2047∧n%4503599627370496≠0:=by omega
 simp only[f,g,h]
 by_cases c:n/4503599627370496%2048=2047
 ·by_cases d:n%4503599627370496=0
  ·simp only[c,d];exact AB (by decide)
  ·simp only[c,d];exact AB (by simp[d])
 ·have i:decide (n/4503599627370496%2048=2047)=false:=Ep c
  simp only[i,c,Y9,CW,YG,Yp,YL]
  refine AC (fun _=>AB (by decide)) fun _=>AC (fun _=>AB (by decide)) fun _=>AB (by decide)
def H9(n:Nat):Nat:=if O6 n=true then 18446744073709551615 else if 9223372036854775808≤n then 18446744073709551615-n else n+9223372036854775808
theorem eo{n:Nat}(a:n<18446744073709551616):U2 (n:Int)=some (H9 n:Int):=by
 obtain⟨y,e,h⟩:=qj a
 have c:=V4 a (m:=9223372036854775808) (by omega)
 rw[tO a]at c
 have c:CK .u64 (n:Int) 9223372036854775808=_:=c
 have d:=tN a
 have f:Fq .u64 (n:Int) 9223372036854775808=((n|||9223372036854775808:Nat):Int):=wt a (m:=9223372036854775808) (by omega)
 dsimp only[U2,br,vz,lr,cl,br]
 rw[e,Yc,h,c,d,f]
 unfold H9
 cases O6 n with
 |true=>rfl
 |false=>
  by_cases hs:9223372036854775808≤n
  ·simp[hs]
  ·have g:n|||9223372036854775808=n+9223372036854775808:=by
    have j:=Nat.two_pow_add_eq_or_of_lt (i:=63) (b:=n) (by omega) 1
    rw[Nat.or_comm]
    have k:9223372036854775808+n=9223372036854775808|||n:=j
    exact k.symm.trans (LB _ _)
   simp[hs,g]
def K5(a b:Int):Int:=if a<b then -1 else if b<a then 1 else 0
theorem RH(a b:Int):decide (K5 a b=0)=decide (a=b):=by
 unfold K5
 by_cases h:a<b
 ·rw[Yi h,Ep (by omega:¬a=b)];rfl
 ·rw[Yj h]
  by_cases c:b<a
  ·rw[Yi c,Ep (by omega:¬a=b)];rfl
  ·rw[Yj c,Y6 (by omega:a=b)];rfl
theorem cZ(a b:Int):UQ a b=some (K5 a b):=by
 dsimp only[UQ,br,lr,cl,br,fh,lr]
 unfold K5
 by_cases h:a<b
 ·simp[h]
 ·by_cases c:b<a<;>simp[h,c]
theorem dv(a b:Int):UV a b=some (K5 a b):=by
 dsimp only[UV,br,lr,cl,br,fb,lr]
 unfold K5
 by_cases h:a<b
 ·simp[h]
 ·by_cases c:b<a<;>simp[h,c]
def RU(d x:Val):Bool:=decide (d.kind=x.kind)&&(if d.kind=7∨d.kind=8 then decide (d.text=x.text)else if d.kind=6 then decide (H9 d.bits.toNat=H9 x.bits.toNat)else decide (d.bits=x.bits))
def RR(a b:ByteArray):Int:=if BM a b=true then -1 else if a=b then 0 else 1
theorem ob(a b:ByteArray):decide (RR a b=0)=decide (a=b):=by
 unfold RR
 by_cases h:a=b
 ·subst h
  have:BM a a=false:=by
   unfold BM
   rw[Go.Proofs.bytesLess_eq]
   exact Ep (List.lt_irrefl _)
  simp[this]
 ·cases BM a b<;>simp[h]
theorem qa(a b:ByteArray):UW a b=some (RR a b):=by
 dsimp only[UW,br,lr,cl,br,fc,lr]
 unfold RR
 cases h:BM a b with
 |true=>simp
 |false=>by_cases c:a=b<;>simp[c]
theorem pM{d x:Val}(p:1≤d.kind∧d.kind≤9)(e:AZ d)(f:AZ x):PM d x=some (RU d x):=by
 obtain⟨n,l⟩:=ai (Ra e).1
 obtain⟨k,i⟩:=ai (Ra f).1
 have m:n<18446744073709551616:=by have:=(Ra e).2;omega
 have j:k<18446744073709551616:=by have:=(Ra f).2;omega
 have o:(decide (1≤d.kind)&&decide (d.kind≤9))=true:=by simp[p]
 unfold RU
 by_cases he:d.kind=x.kind
 ·have h:(decide (1≤x.kind)&&decide (x.kind≤9))=true:=by rw[←he];exact o
  dsimp only[PM,wg,lr,cl,Vy,br,wg,lr,cl,br,fm,wg,lr,cl,bT,PV,lr,fp,br,vz,wg,lr,cl,br,Pt,lr]
  simp only[he,Yq,YR,Yp,YL,h,Yv,Yc,Y1]
  rw[←he]
  by_cases g:d.kind=7∨d.kind=8
  ·have b:(decide (d.kind=7)||decide (d.kind=8))=true:=by simpa using g
   rw[Yi g]
   simp only[b,Yv,qa,Yc]
   rw[ob]
  ·have b:(decide (d.kind=7)||decide (d.kind=8))=false:=by simpa using g
   rw[Yj g]
   simp only[b,Yp,YL]
   by_cases hs:d.kind=2∨d.kind=3
   ·have a:(decide (d.kind=2)||decide (d.kind=3))=true:=by simpa using hs
    have c:¬d.kind=6:=by omega
    rw[Yj c]
    simp only[a,Yv,cZ,Yc]
    rw[RH,l,i,IntKind.wrap_i64,IntKind.wrap_i64]
    refine congrArg some (decide_eq_decide.2 ?_)
    omega
   ·have a:(decide (d.kind=2)||decide (d.kind=3))=false:=by simpa using hs
    by_cases c:d.kind=6
    ·have q:(H9 d.bits.toNat=H9 x.bits.toNat)↔((H9 n:Int)=(H9 k:Int)):=by rw[l,i];simp only[Y7];omega
     simp only[a,Yp,YL]
     rw[Yi c]
     simp only[c,Yv,Yq,l,i,eo m,eo j,dv,Yc,Y7]
     rw[RH]
     refine congrArg some (decide_eq_decide.2 ?_)
     omega
    ·simp only[a,c,Yp,YL,YG,dv,Yc]
     rw[RH]
 ·dsimp only[PM,wg,lr,cl,Vy,br,wg,lr,cl,br]
  simp only[he,YG,YW,Yv,cZ,Yc,Y9,RH]
theorem qE{α ρ:Type}{B:Int×Int×List α→Option (Lv (Int×Int×List α) (Int×List α) ρ)}(l:List α)(p:α→Bool)
  (s:∀(i j:Nat) (r:List α) x,i≤j→r.length=l.length→r[j]?=some x→l[j]?=some x→B ((i:Int),(j:Int),r)=some (.nx (if p x then((i:Int),((j+1:Nat):Int),r)else(((i+1:Nat):Int),((j+1:Nat):Int),r.set i x))))
  (t:∀(i:Nat) r,B ((i:Int),(l.length:Int),r)=some (.ex ((i:Int),r))):
  ∀(k N i j:Nat) (r:List α),j+k=l.length→k<N→i≤j→r.length=l.length→r.take i=(l.take j).filter (fun x=>!p x)→i=((l.take j).filter fun x=>!p x).length→r.drop j=l.drop j→
  ∃(n:Nat) (o:List α),Ak B N ((i:Int),(j:Int),r)=some (.inl ((n:Int),o))∧o.take n=l.filter (fun x=>!p x)∧n=(l.filter fun x=>!p x).length∧o.length=l.length:=by
 intro k
 induction k with
 |zero=>
  intro N i j r u hN b c d hi e
  obtain⟨N,rfl⟩:∃m,N=m+1:=⟨N-1,by omega⟩
  have:j=l.length:=by omega
  subst this
  rw[SE]at d hi
  exact⟨i,r,by rw[Ak,t],d,hi,c⟩
 |succ k q=>
  intro N i j r u hN b c d hi e
  obtain⟨N,rfl⟩:∃m,N=m+1:=⟨N-1,by omega⟩
  have a:j<l.length:=by omega
  have hl:l[j]?=some l[j]:=Ye a
  have h:r[j]?=some l[j]:=by
   have:=congrArg (fun z=>z[0]?) e
   simpa[YP,a]using this
  have e0:l.take (j+1)=l.take j++[l[j]]:=YZ a
  rw[Ak,s i j r l[j] b c h hl]
  cases f:p l[j]with
  |true=>
   refine q N i (j+1) r (by omega) (by omega) (by omega) c ?_ ?_ ?_
   ·rw[e0,Lt,d];simp[f]
   ·rw[e0,Lt];simpa[f]using hi
   ·have:=congrArg (List.drop 1) e
    simpa[Lz]using this
  |false=>
   have g:i<r.length:=by omega
   refine q N (i+1) (j+1) (r.set i l[j]) (by omega) (by omega) (by omega) (by rw[List.length_set];exact c) ?_ ?_ ?_
   ·rw[e0,Lt,←d,YZ (by rw[List.length_set];exact g),List.take_set_of_le (Yh _),am]
    simp[f]
   ·rw[e0,Lt,Yw,←hi]
    simp[f]
   ·rw[List.drop_set_of_lt (by omega)]
    have:=congrArg (List.drop 1) e
    simpa[Lz]using this
theorem yJ(l:List Fld)(h:l.length<549755813888):PK l=some l:=by
 unfold PK
 simp only[al,H2,Jc,br,ix,CB,vz,vy,vw,vs,vg,v2,lr,Am,ln,Ai,lc,lf,H6,ap,aq,a0,a1,ad,cl,cs,cf,wa,wi,ir,ca,cp,dd,mv,st,ss,sL,Bd.c,Bd.vl,sR,CM,Yp,YL,h,Yv]
theorem pf(l:List Fld)(f:Fld→Option Bool)(p:Fld→Bool)(d:∀x∈l,f x=some (p x))(h:l.length<4611686018427387904):Pn l f=some (F1 l p):=by
 unfold Pn
 simp only[al,H2,Jc,br,ix,CB,vz,vy,vw,vs,vg,v2,lr,Am,ln,Ai,lc,lf,H6,ap,aq,a0,a1,ad,cl,cs,cf,wa,wi,ir,ca,cp,dd,mv,st,ss,sL,Bd.c,Bd.vl,sR,CM]
 rw[DG l p (fun i=>(i:Int)) () (hN:=A9 h) (he:=by simp[Qe,al,H2,Jc,br,ix,CB,vz,vy,vw,vs,vg,v2,lr,Am,ln,Ai,lc,lf,H6,ap,aq,a0,a1,ad,cl,cs,cf,wa,wi,ir,ca,cp,dd,mv,st,ss,sL,Bd.c,Bd.vl,sR,CM]) (hs:=by
  intro i y hy
  obtain⟨a,rfl⟩:=Yd.1 hy
  have b:i+1<9223372036854775808:=by omega
  have c:=d l[i] (Yn hy)
  simp[Qe,al,H2,Jc,br,ix,CB,vz,vy,vw,vs,vg,v2,lr,Am,ln,Ai,lc,lf,H6,ap,aq,a0,a1,ad,cl,cs,cf,wa,wi,ir,ca,cp,dd,mv,st,ss,sL,Bd.c,Bd.vl,sR,CM,a,b,c]
  cases p l[i]<;>rfl)]
 unfold F1
 cases l.findIdx? _<;>rfl
theorem yI(l:List Fld)(f:Fld→Option Bool)(p:Fld→Bool)(k:∀x∈l,f x=some (p x))(h:l.length<549755813888):Pk l f=some (l.filter fun x=>!p x):=by
 have e0:=pf l f p k (by omega)
 unfold Pk
 dsimp only[vw,vs,vg,vz,cs,br,lr,lf,lc,wi]
 rw[e0,Yc]
 cases hi:l.findIdx? p with
 |none=>
  rw[show F1 l p= -1 from by unfold F1;rw[hi]]
  rw[show l.filter (fun x=>!p x)=l from List.filter_eq_self.2 fun x a=>by rw[SJ.1 hi x a];rfl]
  rfl
 |some i=>
  obtain⟨t,u,v⟩:=N2.1 hi
  rw[show F1 l p=(i:Int)from by unfold F1;rw[hi]]
  have b:((i:Int)= -1)=False:=eq_false (by omega)
  have m: -9223372036854775808≤(i:Int)+1∧(i:Int)+1<9223372036854775808:=by omega
  have y:(l.take i).filter (fun x=>!p x)=l.take i:=List.filter_eq_self.2 fun x a=>by
   obtain⟨j,H,rfl⟩:=ac.1 a
   rw[Bool.eq_false_iff.2 (v j (by omega))];rfl
  have g:(l.take (i+1)).filter (fun x=>!p x)=l.take i:=by rw[YZ t,Lt,y];simp[u]
  obtain⟨c,E,z,A,C,D⟩:=qE (B:=ML l f) l p (fun i j r x w I a hl=>by
    have G:=(Yd.1 hl).1
    have q:(j:Int)<(l.length:Int):=by omega
    have s:=k x (Yn hl)
    have F: -9223372036854775808≤(i:Int)+1∧(i:Int)+1<9223372036854775808:=by omega
    have w2: -9223372036854775808≤(j:Int)+1∧(j:Int)+1<9223372036854775808:=by omega
    have d:(0:Int)≤(j:Int):=by omega
    have e:(0:Int)≤(i:Int):=by omega
    have n:(i:Int)<(l.length:Int):=by omega
    have o:i<r.length:=by omega
    dsimp only[ML,al,H2,Jc,br,ix,CB,vz,vy,vw,vs,vg,v2,lr,Am,ln,Ai,lc,lf,H6,ap,aq,a0,a1,ad,cl,cs,cf,wa,wi,ir,ca,cp,dd,mv,st,ss,sL,Bd.c,Bd.vl,sR,CM,Zf,Zh,Ze,Zi,rb,cr,R2,ch]
    simp only[Jd,CM,q,s,F,w2,d,e,n,o,a,CP,Hk,CV,Yq,Yv,Y7,Yc]
    cases p x<;>simp)
   (fun i r=>by
    dsimp only[ML,al,H2,Jc,br,ix,CB,vz,vy,vw,vs,vg,v2,lr,Am,ln,Ai,lc,lf,H6,ap,aq,a0,a1,ad,cl,cs,cf,wa,wi,ir,ca,cp,dd,mv,st,ss,sL,Bd.c,Bd.vl,sR,CM,Zf,Zh,Ze,Zi,rb,cr,R2,ch]
    simp)
   (l.length-(i+1)) Ah i (i+1) l (by omega) (A9 (by omega)) (by omega) rfl g.symm (by rw[g,YO];omega) rfl
  rw[show((i:Int)+1)=((i+1:Nat):Int)from rfl]at m⊢
  simp only[b,m,z,YG,Yq,Yp,CP,Yv,YL,Yc,N8]
  have d:c≤l.length:=by rw[C];exact aa _ _
  have e:(c:Int)=((E.take c).length:Int):=by rw[YO];omega
  simp[A,D,al,H2,Jc,br,ix,CB,vz,vy,vw,vs,vg,v2,lr,Am,ln,Ai,lc,lf,H6,ap,aq,a0,a1,ad,cl,cs,cf,wa,wi,ir,ca,cp,dd,mv,st,ss,sL,Bd.c,Bd.vl,sR,CM,Zf,Zh,Ze,Zi,rb,cr,R2,ch]
  omega
theorem Ww{v:Val}(h:SzV v):Uw v=some (Bw v):=by
 obtain⟨t1,t2,t3,t4,t5⟩:=h
 have e:v.list.length<4611686018427387904:=by omega
 have f:v.pairs.length<4611686018427387904:=by omega
 have g:v.slots.length<4611686018427387904:=by omega
 have i:v.raws.length<4611686018427387904:=by omega
 have key:∀a b c:Bool,(if a=true then some true else if b=true then some true else some c)=some (a||b||c):=fun a b c=>by cases a<;>cases b<;>rfl
 dsimp only[Uw,br,vz,vy,wg,lr,Ag,br]
 rw[key]
 congr 1
 unfold Bw
 rw[Jr]
 by_cases d:v.text=⟨#[]⟩<;>simp only[d,Yq,YG,Yt,Yb,YF,Yr,YB,YR,YW,Y9,Y1,ne_eq,Ii,F9,CW,CV,Jy,Yp,or_false,Jx,F8]<;>omega
theorem Xb{v:Val}(h:SzV v):Vj v=some (Bw v):=by
 obtain⟨t1,t2,t3,t4,t5⟩:=h
 have b:v.list.length<4611686018427387904:=by omega
 have c:v.pairs.length<4611686018427387904:=by omega
 have d:v.slots.length<4611686018427387904:=by omega
 have e:v.raws.length<4611686018427387904:=by omega
 have f:v.slots.length+v.raws.length<9223372036854775808:=by omega
 dsimp only[Vj,vy,wg,vg,lr,wa,Ag]
 simp only[b,c,d,e,f,Dm,Yv]
 congr 1
 unfold Bw
 rw[Jr]
 by_cases a:v.text=⟨#[]⟩<;>simp only[a,Yq,YG,Yt,Yb,YF,Yr,YB,YR,YW,Y9,Y1,ne_eq,Ii,F9,CW,CV,Jy,Yp,or_false,Jx,F8]<;>omega
theorem yw{v:Val}(h:SzV v):L9 v=some (Fl v):=by
 obtain⟨t1,t2,t3,t4,t5⟩:=h
 have a:v.list.length<4611686018427387904:=by omega
 have b:v.pairs.length<4611686018427387904:=by omega
 have c:v.slots.length<4611686018427387904:=by omega
 have d:v.raws.length<4611686018427387904:=by omega
 dsimp only[L9,vz,vy,wg,lr,Ag]
 congr 1
 unfold Fl
 rw[Jr]
 simp only[Yb,Yr]
 omega
theorem yy(n:Int):L6 n=some (CT n):=by
 dsimp only[L6,lr]
 unfold CT
 rw[Bool.decide_or]
theorem yz(n:Int):Pt n=some (CT n):=by
 dsimp only[Pt,lr]
 unfold CT
 rw[Bool.decide_or]
theorem nS{v:Val}(h:SzV v):Vl v=some (Fl v&&(if CT v.kind=true then decide (v.bits=0)else decide (v.text=⟨#[]⟩))):=by
 obtain⟨t1,t2,t3,t4,t5⟩:=h
 have a:v.list.length<4611686018427387904:=by omega
 have b:v.pairs.length<4611686018427387904:=by omega
 have c:v.slots.length<4611686018427387904:=by omega
 have d:v.raws.length<4611686018427387904:=by omega
 have e:v.list.length+v.pairs.length<9223372036854775808:=by omega
 have f:v.list.length+v.pairs.length+v.slots.length<9223372036854775808:=by omega
 have g:v.list.length+v.pairs.length+v.slots.length+v.raws.length<9223372036854775808:=by omega
 have hl:decide ((0:Int)<((v.list.length+v.pairs.length+v.slots.length+v.raws.length:Nat):Int))=!Fl v:=by
  unfold Fl
  rw[←decide_not]
  refine decide_eq_decide.2 ?_
  omega
 dsimp only[Vl,br,vz,wg,vs,lr,cl,wa,Ag,br]
 simp only[a,b,c,d,e,f,g,Yv]
 rw[hl,yz,Yc]
 cases Fl v<;>cases CT v.kind<;>rfl
theorem vE(n b:Int):U0 n b=some (GF n b):=by
 unfold GF
 dsimp only[U0,br,vz,vy,lr,br]
 by_cases a:n=1
 ·subst a;rfl
 by_cases c:n=2
 ·subst c
  simp only[Yq,YG,Yv,YL,Dm,show¬(2:Int)=1 by decide,Yp]
  rw[SH]
 by_cases e:n=9
 ·subst e;rfl
 by_cases d:n=4
 ·subst d;rfl
 simp only[a,c,d,e,YG,Yp,YL]
theorem nJ(n b:Int)(h:1≤n∧n≤9)(d:CT n=false):(if decide (n=1)=true then some (decide (b≤1))else if decide (n=2)=true then some (decide (-2147483648≤IntKind.i64.wrap b)&&decide (IntKind.i64.wrap b≤2147483647))else if decide (n=4)=true then some (decide (b<4294967296))else if decide (n=9)=true then some (decide (b<2147483648))else some true)=some (GF n b):=by
 unfold GF
 have a:decide (b<4294967296)=decide (b≤4294967295):=decide_eq_decide.2 (by omega)
 have c:decide (b<2147483648)=decide (b≤2147483647):=decide_eq_decide.2 (by omega)
 rw[a,c]
 simp only[Yr,SH]
 repeat' (first|rfl|split)
theorem nM(n:Int){v:Val}(h:SzV v):Hm n v=some (Eb n v):=by
 have g:=h.t
 have k:v.text.size<4611686018427387904:=by omega
 have i:Ps n=some (decide (1≤n)&&decide (n≤9)):=rfl
 have l:∀x y z:Bool,(if((x&&y)&&!z)=true then True else True)=True:=fun x y z=>by split<;>rfl
 dsimp only[Hm,br,vz,vy,wg,lr,cl,Aw,AR,br]
 rw[i,yw h,yy,tp _ g,Yc]
 unfold Eb
 by_cases c:1≤n∧n≤9∧v.kind=n
 ·obtain⟨a,b,f⟩:=c
  simp only[a,b,f,CP,Yq,Im,YR,Jz,F6,YW,Hi,Ek,YE,Yv,Yc,Dm,k,Y1]
  cases hl:Fl v with
  |false=>rfl
  |true=>
   cases j:CT n with
   |true=>
    simp only[YR,Yp,YL,Yv,Y1]
    rw[SH]
    congr 3
    exact decide_eq_decide.2 (by omega)
   |false=>
    simp only[YR,Yp,YL,Y1]
    by_cases d:v.text=⟨#[]⟩
    ·simp only[d,Yq,YR,Yp,YL,Y1]
     exact nJ n v.bits ⟨a,b⟩ j
    ·simp only[d,YG,YW,Yv,Y9]
 ·have e:((!(decide (1≤n)&&decide (n≤9)))||!decide (v.kind=n))=true:=by
   simp only[Yt,YF,F7,YB]
   omega
  simp only[e,c,YG,Y9,YR,Yp,LA,Yv,Hh]
theorem m9(n:Int){v:Val}(h:SzV v):Vk n v=some (Eb n v):=by
 have k:=h.t
 have p:v.text.size<4611686018427387904:=by omega
 have m:PV n=some (decide (1≤n)&&decide (n≤9)):=rfl
 dsimp only[Vk,br,vy,wg,lr,cl,Aw,AR,br]
 rw[m,nS h,vE,gS _ k,Yc]
 unfold Eb
 by_cases c:1≤n∧n≤9∧v.kind=n
 ·obtain⟨g,i,j⟩:=c
  simp only[g,i,j,CP,Yq,Im,YR,Jz,F6,YW,Hi,Ek,YE,Yv,Yc,Dm,p,Y1]
  cases hl:Fl v with
  |false=>rfl
  |true=>
   cases b:CT n with
   |true=>
    have o:GF n v.bits=true:=by
     unfold CT at b
     rw[Yr]at b
     unfold GF
     rw[Yj (by omega),Yj (by omega),Yj (by omega),Yj (by omega)]
    rw[o]
    by_cases f:v.bits=0
    ·by_cases hs:v.text.size≤4096
     ·have a:¬(4096:Int)<v.text.size:=by omega
      unfold CT at b
      rw[Yr]at b
      simp only[f,hs,a,Yq,YG,CP,YR,Jz,Yp,YL,Yv,Y1,Im,YW]
      congr 2
      rw[←decide_not]
      exact decide_eq_decide.2 (by omega)
     ·have a:(4096:Int)<v.text.size:=by omega
      simp only[hs,a,Yq,YG,Ej,N7,Yv,Y9,F5]
    ·simp only[f,YG,F5,YW,Hh,N7,Yv,CW,Y9,Y1]
   |false=>
    have hs:v.text=⟨#[]⟩→¬(4096:Int)<v.text.size:=fun e=>by rw[e];decide
    have l:¬n=7:=by
     unfold CT at b
     rw[YB]at b
     omega
    by_cases d:v.text=⟨#[]⟩
    ·have hs:=hs d
     simp only[d,hs,l,Yq,YG,YR,YW,Yp,YL,Y1,Ih,F6,Hh,Jy]
     rw[d]at hs
     simp only[hs,YG,Jy]
     cases GF n v.bits<;>rfl
    ·simp only[d,YG,YW,Hh,Yv,Y9,F5,Yp,YL,YR,N7,Y1]
 ·have e:((!(decide (1≤n)&&decide (n≤9)))||!decide (v.kind=n))=true:=by
   simp only[Yt,YF,F7,YB]
   omega
  simp only[e,c,YG,Y9,YR,Yp,LA,Yv,Hh]
theorem bV(n:Int){v:Val}(h:SzV v):Un n v=some (Ce n v):=by
 have f:=h.t
 have d:v.text.size<4611686018427387904:=by omega
 dsimp only[Un,br,vz,wg,lr,cl,Aw,AR,br]
 rw[Ww h,nM n h,Yc]
 unfold Ce
 by_cases c:v.kind=n
 ·cases g:Bw v with
  |true=>simp[c]
  |false=>
   by_cases b:4096<v.text.size
   ·have a:(4096:Int)<v.text.size:=by omega
    simp[c,d,b,a]
   ·have a:¬(4096:Int)<v.text.size:=by omega
    cases Eb n v with
    |true=>simp[c,d,b,a]
    |false=>
     by_cases e:n=7
     ·simp[c,d,b,a,e]
     ·simp[c,d,b,a,e]
 ·simp[c]
theorem V8{n:Int}{v:Val}(c:1≤n)(d:n≤9)(e:v.kind=n)(a:Bw v=false):Fl v=true∧(CT n=true→v.bits=0)∧(CT n=false→v.text=⟨#[]⟩):=by
 unfold Bw at a
 rw[YB]at a
 simp only[not_or,Classical.not_and_iff_not_or_not,Classical.not_not,ne_eq]at a
 obtain⟨a1,b,a3,a4,a5⟩:=a
 unfold Fl CT
 rw[Yr,Yr,YB]
 refine⟨by omega,fun h=>?_,fun h=>?_⟩
 ·rcases a5 with a5|a5
  ·exact a5
  ·omega
 ·rcases a4 with a4|a4
  ·exact a4
  ·omega
def Kq(s:Scm)(t:Typ)(v:Val):Int:=if Ce t.kind v≠0∨t.kind≠9 then Ce t.kind v else if(Bz s t.name).1.opn=false∧ER (Bz s t.name).1 v.bits=false then 16 else 0
theorem Xi(s:Scm)(n:ByteArray)(h:s.enums.length≤1048576):Vt s n=some (Bz s n):=by
 have d:=DG (B:=Nb s.enums fun z=>Mg z n) (N:=Ah) s.enums (fun e=>decide (e.name=n)) (fun i=>(s.enums.getD i default,true)) () (fun i x a=>by
  have b:=BF a
  have f:=(Yd.1 a).1
  have c:i+1<9223372036854775808:=by omega
  have e:Mg x n=some (decide (x.name=n)):=rfl
  dsimp only[Nb,br,ix,wg,vs,Am,ln,Ai,cf,wa,br]
  simp only[b,c,a,e,Yq,Yv,Yc,Yu,YE]
  cases decide (x.name=n)<;>simp) (by simp[Nb,br,ix,wg,vs,Am,ln,Ai,cf,wa,br]) (A9 (by omega))
 dsimp only[Vt,wg,lr,cs,UP,vz,wg,lr,lc,Ag]
 unfold Bz
 rw[d,JU]
 cases s.enums.findIdx? fun m=>decide (m.name=n)<;>rfl
theorem ju(s:Scm)(n:ByteArray)(h:s.enums.length≤1048576):Ui s n=some (Bz s n):=by
 have f:=DG (B:=M6 s n) (N:=Ah) s.enums (fun e=>decide (e.name=n)) (fun i=>(s.enums.getD i default,true)) () (fun i x a=>by
  have b:=BF a
  have g:=(Yd.1 a).1
  have c:i+1<9223372036854775808:=by omega
  have d:s.enums.length<4611686018427387904:=by omega
  dsimp only[M6,br,ix,vz,wg,vs,Am,ln,Ai,wa,Ag,br]
  simp only[b,c,d,a,Yq,Yv,Yc,Yu,YE]
  cases decide (x.name=n)<;>simp) (by simp[M6,br,ix,vz,wg,vs,Am,ln,Ai,wa,Ag,br]) (A9 (by omega))
 dsimp only[Ui,wg,lr,lc]
 unfold Bz
 rw[f,JU]
 cases s.enums.findIdx? fun m=>decide (m.name=n)<;>rfl
theorem Qp{s:Scm}(h:SzS s)(n:ByteArray):(Bz s n).1.items.length≤1048576:=by
 unfold Bz CA
 cases e:s.enums.find? fun m=>decide (m.name=n)with
 |none=>decide
 |some m=>exact(h.e m (Jv e)).il
theorem iY{s:Scm}(hs:An (Al s)≤1048576)(n:ByteArray):∀x∈(Bz s n).1.items,-9223372036854775808≤x.num:=by
 unfold Bz CA
 cases e:s.enums.find? fun m=>decide (m.name=n)with
 |none=>intro x a;cases a
 |some m=>
  intro x a
  have b:=Cu (e:=Bj) (Jv e)
  have c:=Cu (e:=B7) (show x∈m.items from a)
  simp only[Al,An,bk]at hs
  simp only[Bj,An,bk]at b
  simp only[B7,An,bk]at c
  have:=l5 (k:=.i64) (n:=x.num) (by omega)
  exact this.1
theorem jU(e:Enm)(b:Int)(h:e.items.length≤1048576)(l:∀x∈e.items,-9223372036854775808≤x.num)(q:b<9223372036854775808):L7 e b=some (ER e b):=by
 have k:e.items.length<4611686018427387904:=by omega
 have n:=DG (B:=M4 e b) (N:=Ah) e.items (fun x=>decide (IntKind.u64.wrap x.num=b)) (fun _=>true) () (fun i x a=>by
  have d:=BF a
  have o:=(Yd.1 a).1
  have f:i+1<9223372036854775808:=by omega
  have p:=l x (Yn a)
  have g:e.items.getD (i:Int).toNat Rw.z=x:=by rw[Y7,Yu,a];rfl
  have j:(0:Int)≤i∧(i:Int)<e.items.length:=⟨by omega,d⟩
  have key:(decide ((0:Int)≤x.num)&&decide (IntKind.u64.wrap x.num=b))=decide (IntKind.u64.wrap x.num=b):=by
   by_cases c:(0:Int)≤x.num
   ·rw[Y6 c,Y1]
   ·have m:IntKind.u64.wrap x.num=x.num%18446744073709551616:=rfl
    rw[Ep c,Y9]
    symm
    rw[YB,m]
    omega
  dsimp only[M4,br,ix,A8,vz,vy,wg,vs,Am,ln,Ai,wa,Ag,br]
  simp only[k,d,f,g,j,a,Yq,Yv,Yc,CP,Dm,key]
  cases decide (IntKind.u64.wrap x.num=b)<;>simp) (by simp[M4,br,ix,A8,vz,vy,wg,vs,Am,ln,Ai,wa,Ag,br]) (A9 (by omega))
 dsimp only[L7,lr,lc]
 unfold ER
 rw[n,←Js]
 cases e.items.findIdx? fun x=>decide (IntKind.u64.wrap x.num=b)<;>rfl
theorem uh(l:List Itm)(f:Itm→Option Bool)(p:Itm→Bool)(e:∀x∈l,f x=some (p x))(h:l.length≤1048576):Pm l f=some (l.any p):=by
 have g:=DG (B:=MM l f) (N:=Ah) l p (fun i=>(i:Int)) () (fun i x a=>by
  have b:=BF a
  have j:=(Yd.1 a).1
  have c:i+1<9223372036854775808:=by omega
  have d:=e x (Yn a)
  dsimp only[MM,br,ix,vs,Am,ln,Ai,cf,wa,br]
  simp only[b,c,d,a,Yq,Yv,Yc]
  cases p x<;>simp) (by simp[MM,br,ix,vs,Am,ln,Ai,cf,wa,br]) (A9 (by omega))
 dsimp only[Pm,lr,cs,UO,vz,lr,lc,Ag]
 rw[g,←Js]
 cases l.findIdx? p with
 |none=>rfl
 |some i=>simp
theorem gP(e:Enm)(b:Int)(h:e.items.length≤1048576):U6 e b=some (e.opn||ER e b):=by
 dsimp only[U6,wg,lr,DS]
 rw[uh e.items (fun z=>PC z b) (fun x=>decide (IntKind.u64.wrap x.num=b)) (fun x _=>rfl) h]
 unfold ER
 cases e.opn<;>simp
theorem pZ{v:Val}(c:v.kind=7)(d:Bw v=false)(b:¬4096<v.text.size):Eb 7 v=Ds v.text:=by
 obtain⟨a1,a,a3⟩:=V8 (n:=7) (by decide) (by decide) c d
 have a:=a (by decide)
 unfold Eb
 rw[a1,show CT 7=true by decide,c,a]
 have b:v.text.size≤4096:=by omega
 simp[b]
theorem Xf(s:Scm)(t:Typ){v:Val}(hs:SzS s)(h:SzV v):Vu s t v=some (Kq s t v):=by
 have i:=h.t
 have d:v.text.size<4611686018427387904:=by omega
 dsimp only[Vu,br,vz,wg,lr,cl,Aw,AR,br]
 rw[Xb h,gS _ i,m9 t.kind h,Xi s _ hs.el,Yc,Yc,gP _ _ (Qp hs _)]
 unfold Kq Ce
 by_cases c:v.kind=t.kind
 ·cases j:Bw v with
  |true=>simp[c]
  |false=>
   by_cases a:4096<v.text.size
   ·have b:(4096:Int)<v.text.size:=by omega
    simp[c,d,a,b]
   ·have b:¬(4096:Int)<v.text.size:=by omega
    by_cases e:t.kind=7
    ·have g:=pZ (c.trans e) j a
     rw[e]at c⊢
     rw[g]
     cases Ds v.text with
     |false=>simp[c,d,a,b]
     |true=>simp[c,d,a,b]
    ·cases Eb t.kind v with
     |false=>simp[c,d,a,b,e]
     |true=>
      by_cases f:t.kind=9
      ·simp[c,d,a,b,e,f]
       cases(Bz s t.name).1.opn<;>cases ER (Bz s t.name).1 v.bits<;>simp
      ·simp[c,d,a,b,e,f]
 ·simp[c]
theorem P0{α ξ ρ:Type}{B:Nat→Option (Lv Nat ξ ρ)}{N:Nat}(l:List α)(p:α→Bool)(r:ρ)(e:ξ)
  (hs:∀i x,l[i]?=some x→B i=some (if p x=true then .rt r else .nx (i+1))) (he:B l.length=some (.ex e)) (hN:l.length<N):Ak B N 0=some (if l.any p=true then .inr r else .inl e):=by
 rw[DG l p (fun _=>r) e hs he hN,←Js]
 cases l.findIdx? p<;>rfl
theorem ws(v:Val)(k:Int)(h:v.slots.length≤1048576):UU v k=some (CI v.slots k):=by
 have d:v.slots.length<4611686018427387904:=by omega
 have e:=DG (B:=MK v k) (N:=Ah) v.slots (fun x=>decide (x.num=k)) (fun _=>true) () (fun i x a=>by
  have b:=BF a
  have f:=(Yd.1 a).1
  have c:i+1<9223372036854775808:=by omega
  dsimp only[MK,br,ix,vz,wg,vs,Am,ln,Ai,wa,Ag,br]
  simp only[d,b,c,a,Yq,Yv,Yc]
  cases decide (x.num=k)<;>simp) (by simp[MK,br,ix,vz,wg,vs,Am,ln,Ai,wa,Ag,br]) (A9 (by omega))
 dsimp only[UU,lr,lc]
 unfold CI
 rw[e,←Js]
 cases v.slots.findIdx? fun x=>decide (x.num=k)<;>rfl
theorem wK{s:Scm}(hs:An (Al s)≤1048576)(m:Msg)(x:Raw)(hm:m.fields.length≤1048576)(A:x.data.size≤1048576):UT s m x=some (EO s m.fields x):=by
 have h:=DV hs
 have B:x.data.size<4611686018427387904:=by omega
 have o:=ju s (A3 m.fields x.num).type.name h.el
 have d:x.bits<2147483648→L7 (Bz s (A3 m.fields x.num).type.name).1 x.bits=_:=fun y=>jU _ _ (Qp h _) (iY hs _) (by omega)
 have w:(BI m.fields x.num).1=A3 m.fields x.num:=rfl
 dsimp only[UT,VL,br,vy,wg,lr,cl,Aw,AR,br]
 rw[Zj _ _ hm,Yc,w]
 unfold EO M0
 have j:((((((decide (x.num<1)||decide (65535<x.num))||decide (x.wire<0))||decide (6<x.wire))||(((decide (x.wire=0)||decide (x.wire=1))||decide (x.wire=2))&&!decide (x.data=⟨#[]⟩)))||((!((decide (x.wire=0)||decide (x.wire=1))||decide (x.wire=2)))&&!decide (x.bits=0)))=true)=(x.num<1∨65535<x.num∨x.wire<0∨6<x.wire∨(x.wire≤2∧x.data≠⟨#[]⟩)∨(2<x.wire∧x.bits≠0)):=by
  by_cases p:x.data=⟨#[]⟩<;>simp only[p,Yq,YG,YR,YW,F5,Ih,Jy,Yt,Yb,YF,Yr,YB,F8,ne_eq,Ii,F9,Ej,Hk,Jx,eq_iff_iff]<;>omega
 have b:(if((decide (x.wire=3)&&decide ((4096:Int)<x.data.size))||decide ((65536:Int)<x.data.size))=true then some (3:Int)else some 0)=some (if(x.wire=3∧4096<x.data.size)∨65536<x.data.size then 3 else 0):=by
  by_cases c:(x.wire=3∧4096<x.data.size)∨65536<x.data.size
  ·rw[Yi c,Yi]
   simp only[Yt,Yb,Yr]
   omega
  ·rw[Yj c,Yj]
   simp only[Yt,Yb,Yr]
   omega
 by_cases c:x.num<1∨65535<x.num∨x.wire<0∨6<x.wire∨(x.wire≤2∧x.data≠⟨#[]⟩)∨(2<x.wire∧x.bits≠0)
 ·rw[Yi c,Yi (j▸c)]
 ·rw[Yj c,Yj (j▸c)]
  cases z:(BI m.fields x.num).2 with
  |false=>
   simp only[Yp,YL,CW]
   exact b
  |true=>
   simp only[Yv,CV]
   rw[o,Yc]
   generalize (Bz s (A3 m.fields x.num).type.name)=a at d⊢
   generalize A3 m.fields x.num=f at d⊢
   by_cases k:f.type.kind=9∧a.2=true∧a.1.opn=false∧¬f.card=5∧x.wire=0∧x.bits<2147483648
   ·obtain⟨q,r,t,u,l,n⟩:=k
    have i:¬(2147483648≤x.bits):=by omega
    simp only[q,r,t,u,l,n,i,d n,Yq,YG,YR,YW,Jz,F6,Hi,Ek,YE,Yv,Im,Y1]
    cases ER a.1 x.bits with
    |true=>simp only[Yv,YR]
    |false=>
     simp only[Yp,YL,YW,reduceCtorEq]
     rw[l]at b
     simpa using b
   ·have i:((((((!decide (f.type.kind=9))||(!a.2))||a.1.opn)||decide (f.card=5))||(!decide (x.wire=0)))||decide (2147483648≤x.bits))=true:=by
     simp only[Yt,YF,Yr,YB]
     cases e:a.2<;>cases g:a.1.opn<;>simp only[e,g,CV,Hk,CW,Ej,reduceCtorEq,F9,true_or,or_true,Jx,or_false]at k⊢<;>omega
    have v:(decide (f.type.kind=9)&&a.2&&!a.1.opn&&!decide (f.card=5)&&decide (x.wire=0)&&decide (x.bits<2147483648)&&!ER a.1 x.bits)=false:=by
     rw[F7]
     left
     cases e:a.2<;>cases g:a.1.opn<;>simp only[e,g,F5,Y9,YR,YW,Ih]at k⊢
     simp only[F7,Oc,YB,Yr]
     simp only[CV]at k
     omega
    simp only[i,v,YR,Yp,LA,Yv,Hh]
theorem uI(R:RE)(n:Fld→Val→Int)(s:Scm)(m:Msg)(v:Val)(i:Nat)(x:Slt)(a:Int)(k:Bool)(hm:m.fields.length≤1048576)(hl:v.slots.length≤1048576)(h:v.slots[i]?=some x)(G:1≤a∧a≤16)(u:∀f:Fld,(BI m.fields x.num)=(f,true)→R s f x.val (a+1) k=some (n f x.val)):Pg R s m v i a k=some (EG n m.fields v.slots i x):=by
 have hi:=(Yd.1 h).1
 have c:(v.slots.take i).length=i:=by rw[YO];omega
 have b:∀(j:Nat) (y:Slt),(v.slots.take i)[j]?=some y→j<i∧v.slots[j]?=some y:=fun j y hy=>by
  rw[YY]at hy
  split at hy
  ·exact⟨by assumption,hy⟩
  ·cases hy
 have C:∀y:Fld×Bool,Ak (J3 s m v i a k R y) Ah 0=some (if CI (v.slots.take i) y.1.num=true then .inr 9 else .inl ()):=fun y=>by
  have q:=P0 (B:=J3 s m v i a k R y) (N:=Ah) (v.slots.take i) (fun z=>decide (z.num=y.1.num)) (9:Int) () (fun j z l=>by
   obtain⟨r,d⟩:=b j z l
   have e:(j:Int)<i:=by omega
   have g:j+1<9223372036854775808:=by omega
   dsimp only[J3,br,ix,wg,vs,Am,ln,Ai,wa,br]
   simp only[d,e,g,Yq,Yv,Yc]
   cases decide (z.num=y.1.num)<;>simp) (by rw[c];dsimp only[J3,br,ix,wg,vs,Am,ln,Ai,wa,br];simp) (by rw[c];exact A9 (by omega))
  exact q
 have D:∀y:Fld×Bool,Ak (JZ s m v i a k R y) Ah 0=some (if HD m.fields (v.slots.take i) y.1.union=true then .inr 15 else .inl ()):=fun y=>by
  have q:=P0 (B:=JZ s m v i a k R y) (N:=Ah) (v.slots.take i) (fun z=>(!decide (y.1.union=⟨#[]⟩))&&decide ((A3 m.fields z.num).union=y.1.union)) (15:Int) () (fun j z l=>by
   obtain⟨r,d⟩:=b j z l
   have e:(j:Int)<i:=by omega
   have g:j+1<9223372036854775808:=by omega
   have t:(BI m.fields z.num).1=A3 m.fields z.num:=rfl
   dsimp only[JZ,QH,br,ix,wg,vs,Am,ln,Ai,lc,cl,wa,du,br]
   simp only[d,e,g,Zj _ _ hm,t,Yq,Yv,Yc]
   cases(!decide (y.1.union=⟨#[]⟩))&&decide ((A3 m.fields z.num).union=y.1.union)<;>simp) (by rw[c];dsimp only[JZ,QH,br,ix,wg,vs,Am,ln,Ai,lc,cl,wa,du,br];simp) (by rw[c];exact A9 (by omega))
  rw[q]
  congr 2
  unfold HD
  by_cases p:y.1.union=⟨#[]⟩
  ·simp only[p,Yq,YR,Y9,eq_iff_iff,Yp,iff_false,YT,not_exists,Ej,F9,Dm]
  ·simp only[p,YG,YW,Y1]
 have w0:(0:Int)≤i∧(i:Int)<v.slots.length:=by omega
 have E:(BI m.fields x.num).1=A3 m.fields x.num:=rfl
 have w2: -9223372036854775808≤a+1∧a+1<9223372036854775808:=by omega
 have F:(v.slots.getD i Rw.z)=x:=by rw[Yu,h];rfl
 unfold EG
 dsimp only[Pg,WG,br,CB,vw,wg,vs,lr,lc,cl,cs,wi,du,br]
 simp only[Y7,h,w0,F,CP,Yv,Zj _ _ hm,Yc,C,D,E,w2]
 cases o:(BI m.fields x.num).2 with
 |false=>simp
 |true=>
  have w:(A3 m.fields x.num).num=x.num:=Wn o
  have A:=u (A3 m.fields x.num) (Prod.ext rfl o)
  rw[w]
  cases CI (v.slots.take i) x.num with
  |true=>simp
  |false=>
   cases HD m.fields (v.slots.take i) (A3 m.fields x.num).union with
   |true=>simp
   |false=>simp[A]
theorem iW(R:RE){s:Scm}(hs:An (Al s)≤1048576)(m:Msg)(v:Val)(d:Nat)(L:d≤16)(k:Bool)(hm:m.fields.length≤1048576)(p:AZ v)(E:∀d':Nat,d=d'+1→∀(f:Fld) (x:Val),AZ x→R s f x (17-(d':Int)) k=some (Cr (AN s k d') s k f x)):L5 R s m v (17-(d:Int)) k=some (AN s k d m v):=by
 have h:=DV hs
 have G:=Dc p
 obtain⟨s1,s2,M,u,O⟩:=Dc p
 have w:m.fields.length<4611686018427387904:=by omega
 have y:v.slots.length<4611686018427387904:=by omega
 have z:v.raws.length<4611686018427387904:=by omega
 dsimp only[L5,br,wg,lr,lc,Aw,br]
 rw[Ww G]
 by_cases c:v.kind≠10∨Bw v=true
 ·have A:AN s k d m v=12:=by cases d<;>(unfold AN;rw[Yi c])
  rw[A]
  by_cases b:v.kind=10
  ·have o:Bw v=true:=c.resolve_left fun e=>e b
   simp[b,o]
  ·simp[b]
 ·have b:v.kind=10:=Decidable.not_not.1 fun e=>c (.inl e)
  have o:Bw v=false:=by
   cases h:Bw v with
   |false=>rfl
   |true=>exact absurd (.inr h) c
  cases d with
  |zero=>
   unfold AN
   rw[Yj c]
   simp[b,o]
  |succ d=>
   have H:(1:Int)≤17-((d+1:Nat):Int)∧17-((d+1:Nat):Int)≤16:=by omega
   have r:¬(16:Int)<17-((d+1:Nat):Int):=by omega
   have I:=Fx (B:=MR s m v (17-((d+1:Nat):Int)) k R) (N:=Ah) v.slots (EG (Cr (AN s k d) s k) m.fields v.slots) id () (fun i x a _=>by
    have e:=uI R (Cr (AN s k d) s k) s m v i x _ k hm u a H fun f l=>by
     have:=E d rfl f x.val (Rn p (Yn a))
     rw[show 17-((d+1:Nat):Int)+1=17-(d:Int)by omega]
     exact this
    have g:=BF a
    have j:i+1<9223372036854775808:=by have:=(Yd.1 a).1;omega
    dsimp only[MR,br,vz,wg,vs,v2,Am,ln,Ai,cs,wa,Ag,br]
    simp only[y,g,j,e,Yq,Yv,Yc]
    by_cases hy:EG (Cr (AN s k d) s k) m.fields v.slots i x=0<;>simp[hy]) (by dsimp only[MR,br,vz,wg,vs,v2,Am,ln,Ai,cs,wa,Ag,br];simp[y]) (A9 (by omega))
   have J:=Fx (B:=Na s m v R) (N:=Ah) m.fields (fun _ f=>HN v.slots f) id () (fun i f l _=>by
    have g:=BF l
    have j:i+1<9223372036854775808:=by have:=(Yd.1 l).1;omega
    have C:m.fields.getD i Rw.z=f:=by rw[Yu,l];rfl
    have D:(0:Int)≤i∧(i:Int)<m.fields.length:=⟨by omega,g⟩
    have e:=ws v f.num u
    unfold HN
    dsimp only[Na,br,ix,A8,vz,wg,vs,Am,ln,Ai,Aw,wa,Ag,br]
    simp only[w,g,j,C,D,l,e,Y7,Yq,Yv,Yc,CP,Dm,Ek,YE]
    by_cases F:f.card=1<;>cases CI v.slots f.num<;>simp[F]) (by dsimp only[Na,br,ix,A8,vz,wg,vs,Am,ln,Ai,Aw,wa,Ag,br];simp[w]) (A9 (by omega))
   have K:=Fx (B:=M2 s m v R) (N:=Ah) v.raws (fun _ x=>EO s m.fields x) id () (fun i x a _=>by
    have g:=BF a
    have j:i+1<9223372036854775808:=by have:=(Yd.1 a).1;omega
    have e:=wK hs m x hm (cm p (Yn a))
    dsimp only[M2,br,ix,vz,wg,vs,Am,ln,Ai,cl,wa,Ag,br]
    simp only[z,g,j,a,e,Yq,Yv,Yc]
    by_cases hy:EO s m.fields x=0<;>simp[hy]) (by dsimp only[M2,br,ix,vz,wg,vs,Am,ln,Ai,cl,wa,Ag,br];simp[z]) (A9 (by omega))
   unfold AN
   rw[Yj c]
   simp only[b,o,r,I,J,K,Yq,YG,YR,YW,Jz,Yp,Hi,Ek,YE,Yv,YL,Yc]
   by_cases n:B2 (EG (Cr (AN s k d) s k) m.fields v.slots) v.slots 0=0
   ·by_cases q:B2 (fun _ f=>HN v.slots f) m.fields 0=0
    ·by_cases t:B2 (fun _ x=>EO s m.fields x) v.raws 0=0
     ·simp[n,q,t]
     ·simp[n,q,t]
    ·simp[n,q]
   ·simp[n]
theorem iO(R:RE){s:Scm}(hs:An (Al s)≤1048576)(t:Typ)(v:Val)(d:Nat)(p:d≤16)(k:Bool)(l:AZ v)(o:∀d':Nat,d=d'+1→∀(f:Fld) (x:Val),AZ x→R s f x (17-(d':Int)) k=some (Cr (AN s k d') s k f x)):Ir R s t v (17-(d:Int)) k=some (BH (AN s k d) s t v):=by
 have h:=DV hs
 have hm:=iW R hs (BW s t.name).1 v d p k (Qq h _) l o
 have n:v.bits<9223372036854775808→L7 (Bz s t.name).1 v.bits=_:=fun i=>jU _ _ (Qp h _) (iY hs _) i
 have m:L4 s t.name=some (BW s t.name):=mG s _ h.ml
 dsimp only[Ir,br,wg,lr,cl,Aw,cs,br]
 rw[m,bV _ (Dc l),ju s _ h.el]
 simp only[Yc]
 unfold BH
 by_cases c:t.kind=10
 ·simp only[c,Yq,Yv,hm,Yc]
  cases(BW s t.name).2<;>simp
 ·by_cases e:t.kind<1∨9<t.kind
  ·have g:(decide (t.kind<1)||decide (9<t.kind))=true:=by simpa using e
   simp only[c,e,g,YG,Yp,YL,Yv]
  ·have g:(decide (t.kind<1)||decide (9<t.kind))=false:=by
    rw[F8,YB,YB]
    omega
   simp only[c,e,g,YG,Yp,YL]
   by_cases a:Ce t.kind v=0∧t.kind=9
   ·obtain⟨a,b⟩:=a
    have i:v.bits<9223372036854775808:=by
     rw[b]at a
     unfold Ce at a
     by_cases a1:v.kind≠9∨Bw v=true
     ·rw[Yi a1]at a;cases a
     ·rw[Yj a1]at a
      by_cases j:4096<v.text.size
      ·rw[Yi j]at a;cases a
      ·rw[Yj j]at a
       cases a3:Eb 9 v with
       |false=>rw[a3]at a;simp at a
       |true=>
        unfold Eb at a3
        simp only[Yb]at a3
        have a4:=a3.2
        rw[Yj (by decide)]at a4
        simp only[Yb]at a4
        have a5:=a4.2
        unfold GF at a5
        rw[Yj (by decide),Yj (by decide),Yj (by decide),Yi rfl,Yr]at a5
        omega
    rw[n i,a,b]
    cases(Bz s t.name).2<;>cases(Bz s t.name).1.opn<;>cases ER (Bz s t.name).1 v.bits<;>simp
   ·have b:((!decide (Ce t.kind v=0))||!decide (t.kind=9))=true:=by
     simp only[Yt,YF,YB]
     omega
    rw[Yi b,Yi (by omega)]
theorem wq(R:RE){s:Scm}(hs:An (Al s)≤1048576)(f:Fld)(v:Val)(d:Nat)(T:d≤16)(k:Bool)(u:AZ v)(S:∀d':Nat,d=d'+1→∀(f:Fld) (x:Val),AZ x→R s f x (17-(d':Int)) k=some (Cr (AN s k d') s k f x)):Rv R s f v (17-(d:Int)) k=some (Cr (AN s k d) s k f v):=by
 have h:=DV hs
 have m:=Dc u
 obtain⟨s1,s2,Z,s4,s5⟩:=Dc u
 have H:v.list.length<4611686018427387904:=by omega
 have w2:v.pairs.length<4611686018427387904:=by omega
 have A:=fun(x:Val) (l:AZ x)=>iO R hs f.type x d T k l S
 generalize 17-(d:Int)=C at A
 have V:=Fx (B:=MO s f v C k R) (N:=Ah) v.list (fun _ x=>BH (AN s k d) s f.type x) id () (fun i x l _=>by
  have y:=BF l
  have g:i+1<9223372036854775808:=by have:=(Yd.1 l).1;omega
  have e:=A x (Rx u (Yn l))
  dsimp only[MO,br,ix,vz,wg,vs,v2,Am,ln,Ai,cs,wa,Ag,br]
  simp only[H,y,g,l,e,Yq,Yv,Yc]
  by_cases hy:BH (AN s k d) s f.type x=0<;>simp[hy]) (by dsimp only[MO,br,ix,vz,wg,vs,v2,Am,ln,Ai,cs,wa,Ag,br];simp[H]) (A9 (by omega))
 have X:∀(i:Nat) (p:Pr),v.pairs[i]?=some p→Ak (IB s f v C k R i) Ah 0=some (if k=true∧((v.pairs.take i).any fun q=>GU q.key p.key)=true then .inr 9 else .inl ()):=fun i p c=>by
  have hi:=(Yd.1 c).1
  have G:(v.pairs.take i).length=i:=by rw[YO];omega
  cases k with
  |false=>
   obtain⟨Y,E⟩:∃b,Ah=b+1:=⟨Ah-1,by have:=A9 (n:=20) (by omega);omega⟩
   rw[E,Ak]
   dsimp only[IB,br,ix,A8,wg,vs,Am,ln,Ai,wa,br]
   simp
  |true=>
   have q:=P0 (B:=IB s f v C true R i) (N:=Ah) (v.pairs.take i) (fun q=>GU q.key p.key) (9:Int) () (fun j z m=>by
    have U:j<i∧v.pairs[j]?=some z:=by
     rw[YY]at m
     split at m
     ·exact⟨by assumption,m⟩
     ·cases m
    obtain⟨y,g⟩:=U
    have K:(j:Int)<i:=by omega
    have L:j+1<9223372036854775808:=by omega
    have M:v.pairs.getD j Rw.z=z:=by rw[Yu,g];rfl
    have O:v.pairs.getD i Rw.z=p:=by rw[Yu,c];rfl
    have P:(0:Int)≤j∧(j:Int)<v.pairs.length:=by omega
    have Q:(0:Int)≤i∧(i:Int)<v.pairs.length:=by omega
    unfold GU
    dsimp only[IB,br,ix,A8,wg,vs,Am,ln,Ai,wa,br]
    simp only[g,K,L,M,O,P,Q,c,Y7,Yq,Ih,Yv,Yc,CP,Dm]
    cases decide (z.key.bits=p.key.bits)&&decide (z.key.text=p.key.text)<;>simp) (by rw[G];dsimp only[IB,br,ix,A8,wg,vs,Am,ln,Ai,wa,br];simp) (by rw[G];exact A9 (by omega))
   rw[q]
   simp
 have W:=Fx (B:=ME s f v C k R) (N:=Ah) v.pairs (GJ (BH (AN s k d) s f.type) f.key k v.pairs) id () (fun i p c _=>by
  have y:=BF c
  have g:i+1<9223372036854775808:=by have:=(Yd.1 c).1;omega
  have F:=MW u (Yn c)
  have I:=bV f.key (Dc F.1)
  have J:=A p.val F.2
  unfold GJ
  dsimp only[ME,br,ix,vz,wg,vs,Am,ln,Ai,lc,cl,cs,wa,Ag,br]
  simp only[w2,y,g,c,I,J,X i p c,Yq,Yv,Yc]
  by_cases w:Ce f.key p.key=0
  ·by_cases o:k=true∧((v.pairs.take i).any fun q=>GU q.key p.key)=true
   ·simp[w,o]
   ·by_cases D:BH (AN s k d) s f.type p.val=0
    ·rw[Yj o]
     simp only[w,o,D]
     simp
    ·rw[Yj o]
     simp only[w,o,D]
     simp[D]
  ·simp[w]) (by dsimp only[ME,br,ix,vz,wg,vs,Am,ln,Ai,lc,cl,cs,wa,Ag,br];simp[w2]) (A9 (by omega))
 have e0:=A v u
 unfold Cr
 dsimp only[Rv,br,wg,lr,lc,Aw,cs,br]
 rw[Ww m,V,W,e0]
 by_cases r:f.card=4
 ·by_cases a:v.kind=11
  ·cases Bw v with
   |true=>simp[r,a]
   |false=>
    by_cases c6:B2 (fun _ x=>BH (AN s k d) s f.type x) v.list 0=0
    ·simp[r,a,c6]
    ·simp[r,a,c6]
  ·simp[r,a]
 ·by_cases t:f.card=5
  ·by_cases a:v.kind=12
   ·cases Bw v with
    |true=>simp[t,a]
    |false=>
     by_cases c6:B2 (GJ (BH (AN s k d) s f.type) f.key k v.pairs) v.pairs 0=0
     ·simp[t,a,c6]
     ·simp[t,a,c6]
   ·simp[t,a]
  ·simp[r,t]
theorem V0{s:Scm}(hs:An (Al s)≤1048576)(k:Bool):∀(a d:Nat),d<a→d≤16→∀(f:Fld) (v:Val),AZ v→EY a s f v (17-(d:Int)) k=some (Cr (AN s k d) s k f v)
 |0,d,b,_,_,_,_=>absurd b (Il _)
 |a+1,d,b,c,f,v,h=>wq (EY a) hs f v d c k h fun d' e g x i=>V0 hs k a d' (by omega) (by omega) g x i
theorem XR:20<Ah:=A9 (by omega)
theorem uM{s:Scm}(hs:An (Al s)≤1048576)(t:Typ)(v:Val)(k:Bool)(a:AZ v):Ir (EY Ah) s t v 1 k=some (BH (AN s k 16) s t v):=
 iO (EY Ah) hs t v 16 (Yh _) k a fun d' e f x b=>V0 hs k Ah d' (by have:=XR;omega) (by omega) f x b
theorem vF{s:Scm}(hs:An (Al s)≤1048576)(m:Msg)(v:Val)(k:Bool)(hm:m.fields.length≤1048576)(a:AZ v):L5 (EY Ah) s m v 1 k=some (AN s k 16 m v):=
 iW (EY Ah) hs m v 16 (Yh _) k hm a fun d' e f x b=>V0 hs k Ah d' (by have:=XR;omega) (by omega) f x b
end Go.Proofs.YtopncadjpnkjhaaGreatDoor
