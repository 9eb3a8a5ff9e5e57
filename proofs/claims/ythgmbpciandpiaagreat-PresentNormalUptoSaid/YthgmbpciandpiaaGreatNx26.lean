import Derived.Test.YthgmbpciandpiaaGreatNx25
import Derived.Test.YthgmbpciandpiaaGreatNx00
namespace Go.Proofs.YthgmbpciandpiaaGreat
set_option linter.all false
open Go Go.Eng
theorem vld(c:Nat):Utf8.valid (c:Int)=decide (c<0xD800∨0xE000≤c∧c≤0x10FFFF):=by
 unfold Utf8.valid
 rw[Hv]
 simp only[Yz,Yc,Yn]
 omega
theorem ZZx(a b c d:Nat)(i j l:Prop)[Decidable i][Decidable j][Decidable l](r:a<256)(s:b<256)(t:c<256)(u:d<256)(z:Nat)
 (g:z=if a<0x80 then 1
 else if 0xc2≤a∧a≤0xdf∧i∧0x80≤b∧b≤0xbf then 2
 else if a=0xe0∧(i∧0xa0≤b∧b≤0xbf)∧(j∧0x80≤c∧c≤0xbf)then 3
 else if a=0xed∧(i∧0x80≤b∧b≤0x9f)∧(j∧0x80≤c∧c≤0xbf)then 3
 else if 0xe1≤a∧a≤0xef∧a≠0xed∧(i∧0x80≤b∧b≤0xbf)∧(j∧0x80≤c∧c≤0xbf)then 3
 else if a=0xf0∧(i∧0x90≤b∧b≤0xbf)∧(j∧0x80≤c∧c≤0xbf)∧(l∧0x80≤d∧d≤0xbf)then 4
 else if 0xf1≤a∧a≤0xf3∧(i∧0x80≤b∧b≤0xbf)∧(j∧0x80≤c∧c≤0xbf)∧(l∧0x80≤d∧d≤0xbf)then 4
 else if a=0xf4∧(i∧0x80≤b∧b≤0x8f)∧(j∧0x80≤c∧c≤0xbf)∧(l∧0x80≤d∧d≤0xbf)then 4
 else 0) (D:Nat×Nat) (f:D=if a<0x80 then(a,1)
 else if a/32=6∧i∧b/64=2 then
  if(a%32)*64+b%64≥0x80 then((a%32)*64+b%64,2)else(65533,1)
 else if a/16=14∧(i∧b/64=2)∧(j∧c/64=2)then
  if(a%16)*4096+(b%64)*64+c%64≥0x800∧((a%16)*4096+(b%64)*64+c%64<0xD800∨0xE000≤(a%16)*4096+(b%64)*64+c%64∧(a%16)*4096+(b%64)*64+c%64≤0x10FFFF)then((a%16)*4096+(b%64)*64+c%64,3)else(65533,1)
 else if a/8=30∧(i∧b/64=2)∧(j∧c/64=2)∧(l∧d/64=2)then
  if(a%8)*262144+(b%64)*4096+(c%64)*64+d%64≥0x10000∧((a%8)*262144+(b%64)*4096+(c%64)*64+d%64<0xD800∨0xE000≤(a%8)*262144+(b%64)*4096+(c%64)*64+d%64∧(a%8)*262144+(b%64)*4096+(c%64)*64+d%64≤0x10FFFF)then((a%8)*262144+(b%64)*4096+(c%64)*64+d%64,4)else(65533,1)
 else(65533,1)):(z=0→D.1=65533∧¬(a=0xef∧(i∧b=0xbf)∧(j∧c=0xbd)))∧(z≠0→D.2=z∧(D.1=65533→a=0xef∧(i∧b=0xbf)∧(j∧c=0xbd))):=by
 by_cases a0:a<128
 ·rw[Yg a0]at g f
  subst g f
  exact⟨fun h=>absurd h (by decide),fun _=>⟨rfl,fun h=>by dsimp only at h;omega⟩⟩
 rw[Yf a0]at g f
 by_cases a1:a/32=6
 ·simp only[show¬a=224 by omega,show¬a=237 by omega,show¬225≤a by omega,show¬a=240 by omega,show¬241≤a by omega,show¬a=244 by omega,show¬a/16=14 by omega,show¬a/8=30 by omega,show¬a=0xef by omega,Ds,YD,E1,a1,CN,GN,Hx]at g f⊢
  by_cases k:i
  ·simp only[k,CN]at g f
   split at g<;>split at f<;>(try split at f)<;>subst g f<;>dsimp only<;>omega
  ·simp only[k,Ds,YD,E1]at g f
   subst g f
   exact⟨fun _=>rfl,fun h=>absurd rfl h⟩
 by_cases p:a/16=14
 ·simp only[show¬a≤223 by omega,show¬a=240 by omega,show¬241≤a by omega,show¬a=244 by omega,show¬a/8=30 by omega,a1,p,Ds,YD,E1,CN]at g f⊢
  by_cases k:i<;>by_cases o:j<;>simp only[k,o,CN,Ds,E1,YD]at g f⊢
  ·by_cases m:a=0xe0
   ·subst m
    simp only[show¬(224=237)by decide,show¬225≤224 by decide,CN,Ds,YD]at g
    split at g<;>split at f<;>(try split at f)<;>subst g f<;>dsimp only<;>omega
   ·by_cases n:a=0xed
    ·subst n
     simp only[show¬(237=224)by decide,ne_eq,IH,CN,Ds,E1,YD]at g
     split at g<;>split at f<;>(try split at f)<;>subst g f<;>dsimp only<;>omega
    ·simp only[m,n,Ds,YD]at g
     split at g<;>split at f<;>(try split at f)<;>subst g f<;>dsimp only<;>omega
  all_goals(subst g f;exact⟨fun _=>⟨rfl,by simp⟩,fun h=>absurd rfl h⟩)
 ·simp only[show¬(a=0xef)by omega,show¬a=224 by omega,show¬a=237 by omega,a1,p,Ds,YD,GN,Hx]at g f⊢
  rw[Yf (by omega:¬(0xc2≤a∧a≤0xdf∧i∧0x80≤b∧b≤0xbf)),Yf (by omega:¬(0xe1≤a∧a≤0xef∧a≠0xed∧(i∧0x80≤b∧b≤0xbf)∧(j∧0x80≤c∧c≤0xbf)))]at g
  by_cases e:i∧j∧l
  ·obtain⟨k,o,q⟩:=e
   simp only[k,o,q,CN]at g f
   by_cases m:a=0xf0
   ·subst m
    simp only[show¬(240=244)by decide,show¬241≤240 by decide,CN,Ds,YD]at g
    split at g<;>split at f<;>(try split at f)<;>subst g f<;>dsimp only<;>omega
   ·by_cases n:a=0xf4
    ·subst n
     simp only[show¬(244=240)by decide,show¬244≤243 by decide,CN,Ds,E1,YD]at g
     split at g<;>split at f<;>(try split at f)<;>subst g f<;>dsimp only<;>omega
    ·simp only[m,n,Ds,YD]at g
     split at g<;>split at f<;>(try split at f)<;>subst g f<;>dsimp only<;>omega
  ·rw[Yf (fun h=>e ⟨h.2.1.1,h.2.2.1.1,h.2.2.2.1⟩),Yf (fun h=>e ⟨h.2.2.1.1,h.2.2.2.1.1,h.2.2.2.2.1⟩),Yf (fun h=>e ⟨h.2.1.1,h.2.2.1.1,h.2.2.2.1⟩)]at g
   rw[Yf (fun h=>e ⟨h.2.1.1,h.2.2.1.1,h.2.2.2.1⟩)]at f
   subst g f
   exact⟨fun _=>rfl,fun h=>absurd rfl h⟩
theorem uj(x:ByteArray)(p:Nat):(BY x p=0→(Utf8.decode x p).1=65533∧¬((x.get! p).toNat=0xef∧(p+1<x.size∧(x.get! (p+1)).toNat=0xbf)∧(p+2<x.size∧(x.get! (p+2)).toNat=0xbd)))∧(BY x p≠0→(Utf8.decode x p).2=BY x p∧((Utf8.decode x p).1=65533→((x.get! p).toNat=0xef∧(p+1<x.size∧(x.get! (p+1)).toNat=0xbf)∧(p+2<x.size∧(x.get! (p+2)).toNat=0xbd)))):=
 ZZx (x.get! p).toNat (x.get! (p+1)).toNat (x.get! (p+2)).toNat (x.get! (p+3)).toNat (p+1<x.size) (p+2<x.size) (p+3<x.size) (x.get! p).toNat_lt (x.get! (p+1)).toNat_lt (x.get! (p+2)).toNat_lt (x.get! (p+3)).toNat_lt _ (by
  unfold BY Ct
  simp only[Yc,Yn,and_assoc]) _ (by
  unfold Utf8.decode
  simp only[vld,DV,Yc,Yn,beq_iff_eq,Utf8.runeError,and_assoc])
theorem qm(x:ByteArray)(p:Nat):x.data.toList.getD p 0=x.get! p:=by
 cases x with
 |mk d=>
  show d.toList.getD p 0=d.getD p 0
  rw[Yp,Yx,YC]
theorem Zl8(x:ByteArray)(i:Nat)(lo hi:Nat)(h:x.size≤1048576):Mf x (i:Int) (lo:Int) (hi:Int)=some (Ct x i lo hi):=by
 have w:x.size<4611686018427387904:=by omega
 dsimp only[Mf,Ws,vz,lr,A9,F9]
 simp only[w,Yr,YY,qm]
 have a:∀b c:Bool,(b=true→decide ((i:Int)<x.size)=true)→(if(b=true→(0:Int)≤i∧(i:Int)<x.size)then(some c)else none)=some c:=fun b c d=>by
  rw[Yg]
  intro h
  have:=d h
  simp only[Yn]at this
  omega
 rw[a _ _ (fun h=>by rw[Yc]at h;exact h.1),a _ _ (fun h=>h)]
 unfold Ct
 congr 1
 rw[Hv]
 simp only[Yc,Yn]
 omega
theorem v8(x:ByteArray)(i n:Nat)(h:x.size≤1048576)(hi:i≤2097152)(p:n≤9):Kw x (i:Int) (n:Int)=some ((List.range n).all fun k=>Ct x (i+k) 128 191):=by
 have o:=Ei (B:=KU x (i:Int) (n:Int)) (N:=Aj) (List.range n) (fun k=>!Ct x (i+k) 128 191) (fun _=>false) () (fun k y a=>by
  have b:=(Yb.1 a).1
  rw[ZG]at b
  have hy:y=k:=by rw[List.getElem?_range b]at a;cases a;rfl
  subst hy
  have e:=Zl8 x (i+y) 128 191 h
  rw[Int.natCast_add]at e
  have d:(y:Int)<n:=by omega
  have f:y+1<9223372036854775808:=by omega
  have g: -9223372036854775808≤(i:Int)+y∧(i:Int)+y<9223372036854775808:=by omega
  dsimp only[KU,P4,br,vs,Ar,ln,Ai,cl,wa,wi,br]
  simp only[d,f,g,Yo,Yr,B9]
  rw[show((128:Int))=((128:Nat):Int)from rfl,show((191:Int))=((191:Nat):Int)from rfl,e,Ya]
  cases Ct x (i+y) 128 191<;>rfl) (by rw[ZG];dsimp only[KU,P4,br,vs,Ar,ln,Ai,cl,wa,wi,br];simp) (by rw[ZG];exact A3 (by omega))
 dsimp only[Kw,Wu,WC,Xm,lr,lc]
 rw[o]
 cases c:(List.range n).findIdx? fun k=>!Ct x (i+k) 128 191 with
 |none=>
  have:=NV.1 c
  have e:((List.range n).all fun k=>Ct x (i+k) 128 191)=true:=Yw.2 fun k a=>by simpa using this k a
  rw[e]
  rfl
 |some j=>
  obtain⟨l,m,_⟩:=II.1 c
  have e:((List.range n).all fun k=>Ct x (i+k) 128 191)=false:=by
   rw[List.all_eq_false]
   exact⟨_,IC l,by simpa using m⟩
  rw[e]
  rfl
theorem Jd{c:Prop}[Decidable c]{b:Bool}(n:Nat)(h:b=true↔c){x:Option Int}{m:Nat}(k:x=some (m:Int)):(if b=true then some (n:Int)else x)=some ((if c then n else m:Nat):Int):=by
 by_cases a:c
 ·rw[Yg (h.2 a),Yg a]
 ·rw[Yf (fun e=>a (h.1 e)),Yf a,k]
theorem ZRV(x:ByteArray)(p:Nat)(o:p<x.size)(h:x.size≤1048576):OI x (p:Int)=some (BY x p:Int):=by
 have t1:∀n:Nat,n≤9→Kw x ((p:Int)+1) (n:Int)=_:=fun n c=>v8 x (p+1) n h (by omega) c
 have t2:∀n:Nat,n≤9→Kw x ((p:Int)+2) (n:Int)=_:=fun n c=>v8 x (p+2) n h (by omega) c
 have a:∀lo hi:Nat,Mf x ((p:Int)+1) lo hi=_:=fun lo hi=>Zl8 x (p+1) lo hi h
 have a1:=t1 1 (by omega)
 have b:=t1 2 (by omega)
 have a3:=t1 3 (by omega)
 have a4:=t2 1 (by omega)
 have a5:=t2 2 (by omega)
 have d:=a 160 191
 have e:=a 128 159
 have g:=a 144 191
 have i:=a 128 143
 have w0:(0:Int)≤p∧(p:Int)<x.size:=by omega
 have m: -9223372036854775808≤(p:Int)+1∧(p:Int)+1<9223372036854775808:=by omega
 have w2: -9223372036854775808≤(p:Int)+2∧(p:Int)+2<9223372036854775808:=by omega
 have j:∀f:Nat→Bool,(List.range 1).all f=f 0:=fun f=>by simp[ZN]
 have k:∀f:Nat→Bool,(List.range 2).all f=(f 0&&f 1):=fun f=>by simp[ZN]
 have l:∀f:Nat→Bool,(List.range 3).all f=(f 0&&(f 1&&f 2)):=fun f=>by simp[ZN,Bool.and_assoc]
 rw[j]at a1 a4
 rw[k]at b a5
 rw[l]at a3
 simp only[DV,YG,Nat.reduceAdd,Int.cast_ofNat_Int]at a1 b a3 a4 a5 d e g i
 dsimp only[OI,Ww,br,vg,lr,Az,wi,br,QV]
 simp only[w0,m,w2,B9,Yr,YY,qm,a1,b,a3,a4,a5,d,e,g,i,Y2,YH,Y5]
 unfold BY
 refine Jd 1 (by simp only[Yn];omega) ?_
 refine Jd 2 (by simp only[Yc,Yn];grind) ?_
 refine Jd 3 (by simp only[Yc,Yn];grind) ?_
 refine Jd 3 (by simp only[Yc,Yn];grind) ?_
 refine Jd 3 (by simp only[Yc,YL,Yn,Yt];grind) ?_
 refine Jd 4 (by simp only[Yc,Yn];grind) ?_
 refine Jd 4 (by simp only[Yc,Yn];grind) ?_
 refine Jd 4 (by simp only[Yc,Yn];grind) ?_
 rfl
theorem ZPT(x:ByteArray)(p:Nat):BY x p≤4:=by
 unfold BY
 dsimp only
 repeat' (first|split|omega)
theorem ZH8(x:ByteArray):∀(k p n m:Nat),x.size-p=k→x.size-p<n→x.size-p<m→F5 x n p=F5 x m p:=by
 intro k
 induction k using Nat.strongRecOn with
 |_ k c=>
  intro p n m d e hm
  obtain⟨n,rfl⟩:∃j,n=j+1:=⟨n-1,by omega⟩
  obtain⟨m,rfl⟩:∃j,m=j+1:=⟨m-1,by omega⟩
  unfold F5
  by_cases a:p<x.size
  ·rw[Yg a,Yg a]
   by_cases b:BY x p=0
   ·rw[Yg b,Yg b]
   ·rw[Yf b,Yf b]
    exact c (x.size-(p+BY x p)) (by omega) _ _ _ rfl (by omega) (by omega)
  ·rw[Yf a,Yf a]
def HA(x:ByteArray)(p:Nat):Bool:=F5 x (x.size+1-p) p
theorem Zou{x:ByteArray}{p:Nat}(h:x.size≤p):HA x p=true:=by
 unfold HA
 cases x.size+1-p with
 |zero=>rfl
 |succ n=>unfold F5;rw[Yf (by omega)]
theorem ZlO{x:ByteArray}{p:Nat}(h:p<x.size):HA x p=if BY x p=0 then false else HA x (p+BY x p):=by
 unfold HA
 obtain⟨n,e⟩:∃n,x.size+1-p=n+1:=⟨x.size-p,by omega⟩
 rw[e]
 conv=>lhs;unfold F5
 rw[Yg h]
 by_cases a:BY x p=0
 ·rw[Yg a,Yg a]
 ·rw[Yf a,Yf a]
  by_cases b:p+BY x p<x.size
  ·exact ZH8 x _ _ _ _ rfl (by omega) (by omega)
  ·have c:F5 x n (p+BY x p)=true:=by
    cases n with
    |zero=>rfl
    |succ n=>unfold F5;rw[Yf b]
   have d:F5 x (x.size+1-(p+BY x p)) (p+BY x p)=true:=by
    cases x.size+1-(p+BY x p)with
    |zero=>rfl
    |succ n=>unfold F5;rw[Yf b]
   rw[c,d]
theorem tK(x:ByteArray):Eu x=HA x 0:=rfl
theorem ZxB(x:ByteArray)(h:x.size≤1048576):Mi x=some (Eu x):=by
 have q:Ok (Sum.elim (fun _=>Eu x=true) (fun r:Int=>0≤r∧Eu x=false)) (An (MV x) Aj 0):=by
  refine Ba (fun v:Int=>0≤v∧Eu x=HA x v.toNat) (fun v:Int=>x.size-v.toNat) ⟨by omega,tK x⟩ (A3 (by omega)) fun v c=>?_
  obtain⟨v,rfl⟩:∃n:Nat,v=n:=⟨v.toNat,by omega⟩
  obtain⟨_,c⟩:=c
  rw[YY]at c
  have w:x.size<4611686018427387904:=by omega
  dsimp only[MV,W9,br,vz,vs,Ar,ln,Ai,cl,wi,A9,br]
  by_cases g:v<x.size
  ·have d:(v:Int)<x.size:=by omega
   have hs:=ZPT x v
   have b:=ZlO g
   simp only[w,Yr,d,Yo,ZRV x v g h,Ya]
   by_cases f:BY x v=0
   ·rw[Yg f]at b
    simp only[f,Int.ofNat_zero,Int.cast_ofNat_Int,Yo,Yr]
    exact⟨_,rfl,by omega,by rw[c,b]⟩
   ·rw[Yf f]at b
    have j:¬((BY x v:Int)=0):=by omega
    have k: -9223372036854775808≤(v:Int)+BY x v∧(v:Int)+BY x v<9223372036854775808:=by omega
    simp only[j,YF,Yk,YD,k,B9,Yr]
    refine⟨_,rfl,⟨by omega,?_⟩,?_⟩
    ·rw[c,b,show((v:Int)+BY x v).toNat=v+BY x v by omega]
    ·show x.size-((v:Int)+BY x v).toNat<x.size-(v:Int).toNat
     omega
  ·have d:¬(v:Int)<x.size:=by omega
   simp only[w,Yr,d,YF,Yk,YD]
   exact⟨_,rfl,by rw[c,Zou (by omega)]⟩
 obtain⟨y,e,a⟩:=q
 dsimp only[Mi,Xl,lr,cl,UG,XB,WR,Wo,lr,lc]
 rw[e]
 cases y with
 |inl y=>
  have a:Eu x=true:=a
  rw[a]
  rfl
 |inr r=>
  obtain⟨a1,i⟩:=a
  rw[i]
  simp only[Ya,Sum.elim_inr]
  rw[show decide (r<0)=false by simpa using a1]
theorem ZVc{α:Type}(m:List α)(a b c:α):m.take 3=[a,b,c]↔m[0]?=some a∧m[1]?=some b∧m[2]?=some c:=by
 match m with
 |[]=>simp
 |[x]=>simp
 |[x,y]=>simp
 |x::y::z::l=>simp
theorem ZOo{x y:ByteArray}:x=y↔x.data.toList=y.data.toList:=by
 constructor
 ·rintro rfl
  rfl
 ·intro h
  cases x
  cases y
  congr 1
  exact Array.toList_inj.1 h
theorem Zjf(x:ByteArray)(a b:Nat):(x.extract a b).data.toList=(x.data.toList.take b).drop a:=by
 rw[ByteArray.data_extract,Array.toList_extract,List.extract_eq_take_drop,List.drop_take]
theorem bn(x:ByteArray)(p:Nat)(c:UInt8):x.data.toList[p]?=some c↔p<x.size∧(x.get! p).toNat=c.toNat:=by
 rw[←qm,Yp]
 have hs:x.size=x.data.toList.length:=Y0.symm
 rw[hs]
 constructor
 ·intro h
  rw[h]
  exact⟨(Yb.1 h).1,rfl⟩
 ·rintro⟨b,a⟩
  rw[Ye b]at a⊢
  rw[YH]at a
  rw[UInt8.toNat_inj.1 a]
theorem ZWO(x:ByteArray)(p:Nat)(f:p<x.size)(h:x.size≤1048576):ip (x.extract p x.size) ⟨#[239,191,189]⟩=some (decide ((x.get! p).toNat=0xef∧(p+1<x.size∧(x.get! (p+1)).toNat=0xbf)∧(p+2<x.size∧(x.get! (p+2)).toNat=0xbd))):=by
 have g:(x.extract p x.size).size=x.size-p:=by rw[sE];omega
 have hl:(x.extract p x.size).data.toList=x.data.toList.drop p:=by
  have e:x.data.toList.take x.size=x.data.toList:=JL (Nat.le_of_eq Y0)
  rw[Zjf,e]
 have key:(x.extract p x.size).extract 0 3=⟨#[239,191,189]⟩↔((x.get! p).toNat=0xef∧(p+1<x.size∧(x.get! (p+1)).toNat=0xbf)∧(p+2<x.size∧(x.get! (p+2)).toNat=0xbd)):=by
  rw[ZOo,Zjf,hl,Gc]
  show(x.data.toList.drop p).take 3=[239,191,189]↔_
  rw[ZVc,YO,YO,YO,bn,bn,bn]
  exact⟨fun h=>⟨h.1.2,h.2⟩,fun h=>⟨⟨f,h.1⟩,h.2⟩⟩
 have b:(⟨#[239,191,189]⟩:ByteArray).size=3:=rfl
 generalize x.extract p x.size=y at g key
 dsimp only[ip,me,lr,cl,Zdq,kM,vz,vy,lr,A9]
 rw[b]
 have w:y.size<4611686018427387904:=by omega
 by_cases c:3≤y.size
 ·have a:((3:Nat):Int)≤y.size:=by omega
  simp only[w,Yr,a,Yo,Fw,Bd.c,Bd.vl,Y4,Ya,show(3:Nat)<4611686018427387904 by decide,DE,CN,c,B9,Y5]
  congr 1
  exact decide_eq_decide.2 key
 ·have a:¬((3:Nat):Int)≤y.size:=by omega
  simp only[w,Yr,a,YF,Yk,Lx,CX,Ya,show(3:Nat)<4611686018427387904 by decide,Y5]
  congr 1
  symm
  rw[Yt]
  intro d
  have:=d.2.2.1
  omega
theorem ZID(x:ByteArray)(p:Nat)(f:p<x.size)(h:x.size≤1048576):i2 x (p:Int) (Jy x p)=some (decide (BY x p=0)):=by
 obtain⟨d1,d2⟩:=uj x p
 have i:=ZWO x p f h
 have c:Jy x p=((Utf8.decode x p).1:Nat):=rfl
 dsimp only[i2,pf,lr,Az]
 by_cases e:Jy x p=65533
 ·have g:(0:Int)≤p∧(p:Int)≤x.size:=by omega
  have b:p≤x.size:=by omega
  simp only[e,Yo,Y4,Fw,Bd.c,Bd.vl,YY,i,Y2,YH,Yr,g,b,CN,B9,Yh]
  congr 1
  rw[←decide_not]
  refine decide_eq_decide.2 ⟨fun d=>?_,fun a=>(d1 a).2⟩
  rcases IG (BY x p)with a|a
  ·exact a
  ·exact absurd ((d2 (by omega)).2 (by rw[c]at e;omega)) d
 ·have a:¬BY x p=0:=fun a=>e (by rw[c,(d1 a).1];rfl)
  simp only[e,YF,CX,Yk,Lx,Yr,a]
theorem Zo6(x:ByteArray)(h:x.size≤1048576):i3 x=some (Eu x):=by
 have q:Ok (Sum.elim (fun _=>Eu x=true) (fun r:Int=>0≤r∧Eu x=false)) (An (Wx x) Aj 0):=by
  refine Ba (fun v:Nat=>Eu x=HA x v) (fun v:Nat=>x.size-v) (tK x) (A3 (by omega)) fun v f=>?_
  dsimp only[Wx,mH,br,wg,Ar,ln,Ai,cl,br]
  by_cases d:v<x.size
  ·have b:=ZlO d
   simp only[d,Yo,Yr,ZID x v d h,Ya]
   by_cases c:BY x v=0
   ·rw[Yg c]at b
    simp only[c,Yo,Yr]
    exact⟨_,rfl,by omega,by rw[f,b]⟩
   ·rw[Yf c]at b
    have i:EV x v=BY x v:=((uj x v).2 c).1
    simp only[c,YF,Yk,YD]
    refine⟨_,rfl,?_,?_⟩
    ·show Eu x=HA x (v+EV x v)
     rw[f,b,i]
    ·show x.size-(v+EV x v)<x.size-v
     omega
  ·simp only[d,YF,Yk,YD]
   exact⟨_,rfl,by rw[f,Zou (by omega)]⟩
 obtain⟨y,e,a⟩:=q
 dsimp only[i3,lX,lr,cl,Zmg,l3,mM,mf,lr,lc]
 rw[e]
 cases y with
 |inl y=>
  have a:Eu x=true:=a
  rw[a]
  rfl
 |inr r=>
  obtain⟨a1,g⟩:=a
  rw[g]
  simp only[Ya,Sum.elim_inr]
  rw[show decide (r<0)=false by simpa using a1]
end Go.Proofs.YthgmbpciandpiaaGreat
namespace Go.Proofs.YthgmbpciandpiaaGreat
set_option linter.all false
open Go Go.Eng
def Zs(c:Nat)(x:Val):Prop:=∀a,c≤a→Ok (fun b=>b=true) (Kx a x x)
theorem Zs.mono{c d:Nat}{x:Val}(h:Zs c x)(k:c≤d):Zs d x:=fun a b=>h a (CY k b)
theorem ME{n:Nat}(h:n<18446744073709551616):IntKind.u64.wrap (n:Int)=n:=by
 unfold IntKind.wrap
 have:(IntKind.u64.bits)=64:=rfl
 simp only[this,show IntKind.u64.signed=false from rfl,CX,Yk,YD]
 omega
theorem MW(n:Nat):BitVec.ofInt 64 (n:Int)=BitVec.ofNat 64 n:=BitVec.ofInt_natCast ..
theorem jN{n m:Nat}(a:n<18446744073709551616)(hm:m<18446744073709551616):Dk .u64 (n:Int) (m:Int)=((n&&&m:Nat):Int):=by
 unfold Dk
 have h:(BitVec.ofInt 64 (n:Int)&&&BitVec.ofInt 64 (m:Int)).toNat=n&&&m:=by
  rw[MW,MW,BitVec.toNat_and,N6,N6,JT a,JT hm]
 show IntKind.u64.wrap (((BitVec.ofInt 64 (n:Int)&&&BitVec.ofInt 64 (m:Int)).toNat:Nat):Int)=_
 rw[h]
 exact ME (Nat.lt_of_le_of_lt Nat.and_le_left a)
theorem ZIq{n m:Nat}(a:n<18446744073709551616)(hm:m<18446744073709551616):GF .u64 (n:Int) (m:Int)=((n|||m:Nat):Int):=by
 unfold GF
 have h:(BitVec.ofInt 64 (n:Int)|||BitVec.ofInt 64 (m:Int)).toNat=n|||m:=by
  rw[MW,MW,BitVec.toNat_or,N6,N6,JT a,JT hm]
 show IntKind.u64.wrap (((BitVec.ofInt 64 (n:Int)|||BitVec.ofInt 64 (m:Int)).toNat:Nat):Int)=_
 rw[h]
 exact ME (Nat.or_lt_two_pow (n:=64) a hm)
theorem ZAh{n:Nat}(a:n<18446744073709551616):I4 .u64 (n:Int)=((18446744073709551615-n:Nat):Int):=by
 unfold I4 LX
 have e:(if IntKind.u64.signed=true then(-1:Int)else IntKind.u64.max)=((18446744073709551615:Nat):Int):=rfl
 rw[e]
 have h:(BitVec.ofInt 64 ((18446744073709551615:Nat):Int)^^^BitVec.ofInt 64 (n:Int)).toNat=18446744073709551615-n:=by
  rw[MW,MW,show BitVec.ofNat 64 18446744073709551615=BitVec.allOnes 64 from rfl,BitVec.allOnes_xor,BitVec.toNat_not,N6,JT a]
 show IntKind.u64.wrap (((BitVec.ofInt 64 ((18446744073709551615:Nat):Int)^^^BitVec.ofInt 64 (n:Int)).toNat:Nat):Int)=_
 rw[h]
 exact ME (by omega)
theorem ZKV(n:Nat):n&&&9218868437227405312=(n/4503599627370496%2048)*4503599627370496:=by
 have e:(9218868437227405312:Nat)=2047<<<52:=rfl
 have a:n/4503599627370496%2048*4503599627370496=((n>>>52)%2^11)<<<52:=by
  rw[Nat.shiftLeft_eq,Nat.shiftRight_eq_div_pow]
 rw[e,a]
 apply Nat.eq_of_testBit_eq
 intro i
 have b:(2047:Nat)=2^11-1:=rfl
 rw[Nat.testBit_and,sJ,sJ,Nat.testBit_mod_two_pow,Nat.testBit_shiftRight,b,Nat.testBit_two_pow_sub_one]
 by_cases h:52≤i
 ·rw[show 52+(i-52)=i by omega]
  simp only[h,Yo,Y4]
  rw[Rn]
 ·simp[h]
theorem ZCg(n:Nat):n&&&4503599627370495=n%4503599627370496:=Nat.and_two_pow_sub_one_eq_mod n 52
theorem ZAg{n:Nat}(b:n<18446744073709551616):n&&&9223372036854775808=if 9223372036854775808≤n then 9223372036854775808 else 0:=by
 have e:(9223372036854775808:Nat)=2^63:=rfl
 have k:n.testBit 63=decide (9223372036854775808≤n):=by
  rw[Nat.testBit_eq_decide_div_mod_eq,decide_eq_decide]
  omega
 apply Nat.eq_of_testBit_eq
 intro i
 rw[Nat.testBit_and]
 by_cases hi:63=i
 ·subst hi
  rw[k]
  by_cases h:9223372036854775808≤n
  ·simp[h]
  ·simp[h]
 ·have a:Nat.testBit 9223372036854775808 i=false:=by
   rw[e,Nat.testBit_two_pow]
   exact Dh hi
  rw[a,Hr]
  split
  ·exact a.symm
  ·simp
def HF(n:Nat):Bool:=decide (9218868437227405312<n%9223372036854775808)
theorem ZZF{n:Nat}(e:n<18446744073709551616):Ok (fun y:Int=>decide (y=0)=HF n) (iw (n:Int)):=by
 have a:=jN e (m:=9218868437227405312) (by omega)
 have b:=jN e (m:=4503599627370495) (by omega)
 rw[ZKV]at a
 rw[ZCg]at b
 have a:Dk .u64 (n:Int) 9218868437227405312=_:=a
 have b:Dk .u64 (n:Int) 4503599627370495=_:=b
 dsimp only[iw,ol,br,vz,lr,br]
 rw[a,b]
 unfold HF
 have f:(((n/4503599627370496%2048*4503599627370496:Nat):Int)=9218868437227405312)↔n/4503599627370496%2048=2047:=by omega
 have g:(((n%4503599627370496:Nat):Int)=0)↔n%4503599627370496=0:=by omega
 have h:9218868437227405312<n%9223372036854775808↔n/4503599627370496%2048=2047∧n%4503599627370496≠0:=by omega
 simp only[f,g,h]
 by_cases c:n/4503599627370496%2048=2047
 ·by_cases d:n%4503599627370496=0
  ·simp only[c,d];exact AC (by decide)
  ·simp only[c,d];exact AC (by simp[d])
 ·have i:decide (n/4503599627370496%2048=2047)=false:=Dh c
  simp only[i,c,CX,Ds,YF,Yk,YD]
  refine AG (fun _=>AC (by decide)) fun _=>AG (fun _=>AC (by decide)) fun _=>AC (by decide)
theorem ZW2{n:Nat}(b:n<18446744073709551616):Ok (fun y:Int=>decide (y=0)=HF n) (OG (n:Int)):=by
 have e:IS .u64 (n:Int) 9223372036854775808=((n%9223372036854775808:Nat):Int):=by
  unfold IS
  rw[Int.tmod_eq_emod_of_nonneg (by omega)]
  omega
 dsimp only[OG,WN,br,lr,br,rem]
 rw[e]
 unfold HF
 have g:(9218868437227405312:Int)<((n%9223372036854775808:Nat):Int)↔9218868437227405312<n%9223372036854775808:=by omega
 simp only[g]
 by_cases h:9218868437227405312<n%9223372036854775808
 ·simp only[h];first|exact AC (by decide)|simp
 ·have a:decide (9218868437227405312<n%9223372036854775808)=false:=Dh h
  simp only[a,Yk,YD]
  first
   |refine AG (fun _=>AC (by decide)) fun _=>AG (fun _=>AC (by decide)) fun _=>AG (fun _=>AC (by decide)) fun _=>AC (by decide)
   |simp
def Dd(n:Nat):Nat:=if HF n=true then 18446744073709551615 else if 9223372036854775808≤n then 18446744073709551615-n else n+9223372036854775808
theorem ZWR{n:Nat}(a:n<18446744073709551616):iv (n:Int)=some (Dd n:Int):=by
 obtain⟨y,e,h⟩:=ZZF a
 have c:=jN a (m:=9223372036854775808) (by omega)
 rw[ZAg a]at c
 have c:Dk .u64 (n:Int) 9223372036854775808=_:=c
 have d:=ZAh a
 have f:GF .u64 (n:Int) 9223372036854775808=((n|||9223372036854775808:Nat):Int):=ZIq a (m:=9223372036854775808) (by omega)
 dsimp only[iv,py,br,vz,lr,cl,br]
 rw[e,Ya,h,c,d,f]
 unfold Dd
 cases HF n with
 |true=>rfl
 |false=>
  by_cases hs:9223372036854775808≤n
  ·simp[hs]
  ·have g:n|||9223372036854775808=n+9223372036854775808:=by
    have j:=Nat.two_pow_add_eq_or_of_lt (i:=63) (b:=n) (by omega) 1
    rw[Nat.or_comm]
    have k:9223372036854775808+n=9223372036854775808|||n:=j
    exact k.symm.trans (N3 _ _)
   simp[hs,g]
theorem TW{v:Val}{n:Nat}(i:n<18446744073709551616)(g:v.bits=(n:Int)):gO v=some (if v.kind=2∨v.kind=3 then IntKind.u64.wrap ((n:Int)+9223372036854775808)else if v.kind=6 then(Dd n:Int)else(n:Int)):=by
 obtain⟨y,e,h⟩:=ZW2 i
 dsimp only[gO,qD,jp,br,vz,wg,lr,cl,br,Zdi,m5,lr]
 rw[g]
 by_cases a:v.kind=2∨v.kind=3
 ·have b:(decide (v.kind=2)||decide (v.kind=3))=true:=by simpa using a
  simp only[b,a,Yr]
  rfl
 ·have b:(decide (v.kind=2)||decide (v.kind=3))=false:=by simpa using a
  simp only[b,a,Yk,YD]
  by_cases f:v.kind=6
  ·have j:=ME (n:=18446744073709551615-n) (by omega)
   simp only[f,Yo,YJ,Yk,YD,e,Ya,h]
   unfold Dd
   cases HF n with
   |true=>rfl
   |false=>
    by_cases hs:9223372036854775808≤n
    ·have c:(9223372036854775808:Int)≤(n:Int):=by omega
     have d:(18446744073709551615:Int)-(n:Int)=((18446744073709551615-n:Nat):Int):=by omega
     simp[hs,c,d,j]
    ·have c:¬(9223372036854775808:Int)≤(n:Int):=by omega
     have d:(n:Int)+9223372036854775808=((n+9223372036854775808:Nat):Int):=by omega
     have w2:=ME (n:=n+9223372036854775808) (by omega)
     simp only[hs,c,d,w2,YF,Yk,YD,Yr]
  ·simp[f]
def Do(a b:Int):Int:=if a<b then -1 else if b<a then 1 else 0
theorem K3(a b:Int):decide (Do a b=0)=decide (a=b):=by
 unfold Do
 by_cases h:a<b
 ·rw[Yg h,Dh (by omega:¬a=b)];rfl
 ·rw[Yf h]
  by_cases c:b<a
  ·rw[Yg c,Dh (by omega:¬a=b)];rfl
  ·rw[Yf c,YQ (by omega:a=b)];rfl
theorem ZYq(a b:Int):ie a b=some (Do a b):=by
 dsimp only[ie,oD,br,lr,cl,br,ZfL,pK,lr]
 unfold Do
 by_cases h:a<b
 ·simp[h]
 ·by_cases c:b<a<;>simp[h,c]
theorem ZX4(a b:Int):gI a b=some (Do a b):=by
 dsimp only[gI,pD,br,lr,cl,br,Zex,kW,lr]
 unfold Do
 by_cases h:a<b
 ·simp[h]
 ·by_cases c:b<a<;>simp[h,c]
theorem ZYY(a b:Int):gf a b=some (Do a b):=by
 dsimp only[gf,oS,br,lr,br]
 unfold Do
 by_cases h:a<b
 ·simp[h]
 ·by_cases c:b<a<;>simp[h,c]
def Hf(d x:Val):Bool:=decide (d.kind=x.kind)&&(if d.kind=7∨d.kind=8 then decide (d.text=x.text)else if d.kind=6 then decide (Dd d.bits.toNat=Dd x.bits.toNat)else decide (d.bits=x.bits))
def In(a b:ByteArray):Int:=if Bx a b=true then -1 else if a=b then 0 else 1
theorem yS(a b:ByteArray):decide (In a b=0)=decide (a=b):=by
 unfold In
 by_cases h:a=b
 ·subst h
  have:Bx a a=false:=by
   unfold Bx
   rw[Go.Proofs.bytesLess_eq]
   exact Dh (List.lt_irrefl _)
  simp[this]
 ·cases Bx a b<;>simp[h]
theorem ZZM(a b:ByteArray):gJ a b=some (In a b):=by
 dsimp only[gJ,pd,br,lr,cl,br,ZeC,nj,lr]
 unfold In
 cases h:Bx a b with
 |true=>simp
 |false=>by_cases c:a=b<;>simp[c]
theorem ZZP{d x:Val}(y:1≤d.kind∧d.kind≤9)(o:AY d)(p:AY x)(he:d.kind=x.kind):Ok (fun c:Int=>decide (c=0)=(if d.kind=7∨d.kind=8 then decide (d.text=x.text)else if d.kind=6 then decide (Dd d.bits.toNat=Dd x.bits.toNat)else decide (d.bits=x.bits))) (iJ d x)∧Ok (fun c:Int=>decide (c=0)=(if d.kind=7∨d.kind=8 then decide (d.text=x.text)else if d.kind=6 then decide (Dd d.bits.toNat=Dd x.bits.toNat)else decide (d.bits=x.bits))) (OS d x):=by
 obtain⟨n,m⟩:=RA (M4 o).1
 obtain⟨k,l⟩:=RA (M4 p).1
 have r:n<18446744073709551616:=by have:=(M4 o).2;omega
 have q:k<18446744073709551616:=by have:=(M4 p).2;omega
 have es:(decide (1≤d.kind)&&decide (d.kind≤9))=true:=by simp[y]
 obtain⟨E,f⟩:∃E,E=(if d.kind=7∨d.kind=8 then decide (d.text=x.text)else if d.kind=6 then decide (Dd d.bits.toNat=Dd x.bits.toNat)else decide (d.bits=x.bits)):=⟨_,rfl⟩
 rw[←f]
 have B:=TW r m
 have w:=TW q l
 rw[←he]at w
 have t:(decide (1≤x.kind)&&decide (x.kind≤9))=true:=by rw[←he];exact es
 have A:¬d.kind<x.kind:=by omega
 have z:¬x.kind<d.kind:=by omega
 dsimp only[iJ,pA,br,vz,wg,lr,cl,br,KI,QN,lr,UZ,Xy,lr,OS,Wa,br,wg,lr,cl,br,Ky,WF,lr,Kv,M2,lr]
 simp only[he,Yo,YJ,Yk,YD,t,Ya,YF,Yr,Int.lt_irrefl]
 rw[←he]
 by_cases s:d.kind=7∨d.kind=8
 ·have i:(decide (d.kind=7)||decide (d.kind=8))=true:=by simpa using s
  rw[Yg s]at f
  simp only[i,Yr,Y4,ZZM,Ya]
  refine⟨AC (by rw[f];exact yS _ _),?_⟩
  have e:(if Bx d.text x.text=true then some (-1:Int)else if(!(Bx d.text x.text||decide (d.text=x.text)))=true then some 1 else some 0)=some (In d.text x.text):=by
   unfold In
   cases h:Bx d.text x.text with
   |true=>simp
   |false=>by_cases u:d.text=x.text<;>simp[u]
  rw[e]
  exact AC (by rw[f];exact yS _ _)
 ·have i:(decide (d.kind=7)||decide (d.kind=8))=false:=by simpa using s
  rw[Yf s]at f
  simp only[i,Yk,YD,CX,B,w,Ya]
  have C:∀a b:Int,(if decide (a<b)=true then some (-1:Int)else if decide (b<a)=true then some 1 else some 0)=some (Do a b):=fun a b=>by
   unfold Do
   by_cases h:a<b
   ·simp[h]
   ·by_cases u:b<a<;>simp[h,u]
  rw[C]
  by_cases hs:d.kind=2∨d.kind=3
  ·have g:(decide (d.kind=2)||decide (d.kind=3))=true:=by simpa using hs
   have j:¬d.kind=6:=by omega
   rw[Yf j]at f
   simp only[g,hs,Yr,ZYq,Ya]
   refine⟨AC (by rw[f,K3,decide_eq_decide,m,l,IntKind.wrap_i64,IntKind.wrap_i64];omega),AC (by rw[f,K3,decide_eq_decide,m,l];unfold IntKind.wrap;simp only[show IntKind.u64.bits=64 from rfl,show IntKind.u64.signed=false from rfl,CX,Yk,YD];omega)⟩
  ·have g:(decide (d.kind=2)||decide (d.kind=3))=false:=by simpa using hs
   simp only[g,hs,Yk,YD]
   by_cases j:d.kind=6
   ·rw[Yg j]at f
    have v:(Dd d.bits.toNat=Dd x.bits.toNat)↔((Dd n:Int)=(Dd k:Int)):=by rw[m,l];simp only[YY];omega
    simp only[j,Yo,Yr,m,l,ZWR r,ZWR q,Ya,ZX4]
    exact⟨AC (by rw[f,K3,decide_eq_decide,v]),AC (by rw[f,K3,decide_eq_decide,v])⟩
   ·rw[Yf j]at f
    simp only[j,YF,Yk,YD,ZX4,Ya]
    exact⟨AC (by rw[f,K3]),AC (by rw[f,K3,decide_eq_decide,m,l])⟩
theorem ZWP{d x:Val}(f:1≤d.kind∧d.kind≤9)(b:AY d)(e:AY x):UV d x=some (Hf d x):=by
 have es:(decide (1≤d.kind)&&decide (d.kind≤9))=true:=by simp[f]
 unfold Hf
 by_cases he:d.kind=x.kind
 ·obtain⟨⟨c,g,h⟩,_⟩:=ZZP f b e he
  have a:(decide (1≤x.kind)&&decide (x.kind≤9))=true:=by rw[←he];exact es
  dsimp only[UV,SG,wg,lr,cl,i4,SL,br,wg,lr,cl,br,Zfv,ns,wg,lr,cl,bT,KI,QN,lr]
  simp only[he,Yo,YJ,Yk,YD,a,Yr,Ya,g,Y4]
  rw[h,he]
 ·dsimp only[UV,SG,wg,lr,cl,i4,SL,br,wg,lr,cl,br]
  simp only[he,YF,YW,Yr,ZYq,Ya,CX,K3]
theorem ZXk{α ρ:Type}{B:Int×Int×List α→Option (Lv (Int×Int×List α) (Int×List α) ρ)}(l:List α)(p:α→Bool)
  (s:∀(i j:Nat) (r:List α) x,i≤j→r.length=l.length→r[j]?=some x→l[j]?=some x→B ((i:Int),(j:Int),r)=some (.nx (if p x then((i:Int),((j+1:Nat):Int),r)else(((i+1:Nat):Int),((j+1:Nat):Int),r.set i x))))
  (t:∀(i:Nat) r,B ((i:Int),(l.length:Int),r)=some (.ex ((i:Int),r))):
  ∀(k N i j:Nat) (r:List α),j+k=l.length→k<N→i≤j→r.length=l.length→r.take i=(l.take j).filter (fun x=>!p x)→i=((l.take j).filter fun x=>!p x).length→r.drop j=l.drop j→
  ∃(n:Nat) (o:List α),An B N ((i:Int),(j:Int),r)=some (.inl ((n:Int),o))∧o.take n=l.filter (fun x=>!p x)∧n=(l.filter fun x=>!p x).length∧o.length=l.length:=by
 intro k
 induction k with
 |zero=>
  intro N i j r u hN b c d hi e
  obtain⟨N,rfl⟩:∃m,N=m+1:=⟨N-1,by omega⟩
  have:j=l.length:=by omega
  subst this
  rw[LB]at d hi
  exact⟨i,r,by rw[An,t],d,hi,c⟩
 |succ k q=>
  intro N i j r u hN b c d hi e
  obtain⟨N,rfl⟩:∃m,N=m+1:=⟨N-1,by omega⟩
  have a:j<l.length:=by omega
  have hl:l[j]?=some l[j]:=Ye a
  have h:r[j]?=some l[j]:=by
   have:=congrArg (fun z=>z[0]?) e
   simpa[YO,a]using this
  have e0:l.take (j+1)=l.take j++[l[j]]:=Y6 a
  rw[An,s i j r l[j] b c h hl]
  cases f:p l[j]with
  |true=>
   refine q N i (j+1) r (by omega) (by omega) (by omega) c ?_ ?_ ?_
   ·rw[e0,JJ,d];simp[f]
   ·rw[e0,JJ];simpa[f]using hi
   ·have:=congrArg (List.drop 1) e
    simpa[N1]using this
  |false=>
   have g:i<r.length:=by omega
   refine q N (i+1) (j+1) (r.set i l[j]) (by omega) (by omega) (by omega) (by rw[List.length_set];exact c) ?_ ?_ ?_
   ·rw[e0,JJ,←d,Y6 (by rw[List.length_set];exact g),List.take_set_of_le (Yh _),sF]
    simp[f]
   ·rw[e0,JJ,Yq,←hi]
    simp[f]
   ·rw[List.drop_set_of_lt (by omega)]
    have:=congrArg (List.drop 1) e
    simpa[N1]using this
theorem ZWj(l:List Slt)(f:Slt→Option Bool)(p:Slt→Bool)(d:∀x∈l,f x=some (p x))(h:l.length<4611686018427387904):UO l f=some (CW l p):=by
 unfold UO
 simp only[Pv,Pu,Pg,Pw,al,Fq,Fu,br,ix,B8,vz,vy,vw,vs,vg,v2,lr,Ar,ln,Ai,lc,lf,Ex,ap,aq,a0,a1,ad,cl,cs,cf,wa,wi,ir,ca,cp,dd,mv,st,ss,sL,Bd.c,Bd.vl,sR,CM]
 rw[Ei l p (fun i=>(i:Int)) () (hN:=A3 h) (he:=by simp[V2,Pv,Pu,Pg,Pw,al,Fq,Fu,br,ix,B8,vz,vy,vw,vs,vg,v2,lr,Ar,ln,Ai,lc,lf,Ex,ap,aq,a0,a1,ad,cl,cs,cf,wa,wi,ir,ca,cp,dd,mv,st,ss,sL,Bd.c,Bd.vl,sR,CM]) (hs:=by
  intro i y hy
  obtain⟨a,rfl⟩:=Yb.1 hy
  have b:i+1<9223372036854775808:=by omega
  have c:=d l[i] (Yj hy)
  simp[V2,Pv,Pu,Pg,Pw,al,Fq,Fu,br,ix,B8,vz,vy,vw,vs,vg,v2,lr,Ar,ln,Ai,lc,lf,Ex,ap,aq,a0,a1,ad,cl,cs,cf,wa,wi,ir,ca,cp,dd,mv,st,ss,sL,Bd.c,Bd.vl,sR,CM,a,b,c]
  cases p l[i]<;>rfl)]
 unfold CW
 cases l.findIdx? _<;>rfl
theorem n41(l:List Slt)(f:Slt→Option Bool)(p:Slt→Bool)(k:∀x∈l,f x=some (p x))(h:l.length<549755813888):OR l f=some (l.filter fun x=>!p x):=by
 have e0:=ZWj l f p k (by omega)
 unfold OR
 dsimp only[bU,aT,vw,vs,vg,vz,cs,br,lr,lf,lc,wi]
 rw[e0,Ya]
 cases hi:l.findIdx? p with
 |none=>
  rw[show CW l p= -1 from by unfold CW;rw[hi]]
  rw[show l.filter (fun x=>!p x)=l from LA.2 fun x a=>by rw[NV.1 hi x a];rfl]
  rfl
 |some i=>
  obtain⟨t,u,v⟩:=II.1 hi
  rw[show CW l p=(i:Int)from by unfold CW;rw[hi]]
  have b:((i:Int)= -1)=False:=eq_false (by omega)
  have m: -9223372036854775808≤(i:Int)+1∧(i:Int)+1<9223372036854775808:=by omega
  have y:(l.take i).filter (fun x=>!p x)=l.take i:=LA.2 fun x a=>by
   obtain⟨j,H,rfl⟩:=Rz.1 a
   rw[Bool.eq_false_iff.2 (v j (by omega))];rfl
  have g:(l.take (i+1)).filter (fun x=>!p x)=l.take i:=by rw[Y6 t,JJ,y];simp[u]
  obtain⟨c,E,z,A,C,D⟩:=ZXk (B:=Qj l f) l p (fun i j r x w I a hl=>by
    have G:=(Yb.1 hl).1
    have q:(j:Int)<(l.length:Int):=by omega
    have s:=k x (Yj hl)
    have F: -9223372036854775808≤(i:Int)+1∧(i:Int)+1<9223372036854775808:=by omega
    have w2: -9223372036854775808≤(j:Int)+1∧(j:Int)+1<9223372036854775808:=by omega
    have d:(0:Int)≤(j:Int):=by omega
    have e:(0:Int)≤(i:Int):=by omega
    have n:(i:Int)<(l.length:Int):=by omega
    have o:i<r.length:=by omega
    dsimp only[Qj,SS,al,Fq,Fu,br,ix,B8,vz,vy,vw,vs,vg,v2,lr,Ar,ln,Ai,lc,lf,Ex,ap,aq,a0,a1,ad,cl,cs,cf,wa,wi,ir,ca,cp,dd,mv,st,ss,sL,Bd.c,Bd.vl,sR,CM,GD,Ip,ND,NE,rb,cr,JE,ch]
    simp only[Hm,CM,q,s,F,w2,d,e,n,o,a,B9,Hx,CN,Yo,Yr,YY,Ya]
    cases p x<;>simp)
   (fun i r=>by
    dsimp only[Qj,SS,al,Fq,Fu,br,ix,B8,vz,vy,vw,vs,vg,v2,lr,Ar,ln,Ai,lc,lf,Ex,ap,aq,a0,a1,ad,cl,cs,cf,wa,wi,ir,ca,cp,dd,mv,st,ss,sL,Bd.c,Bd.vl,sR,CM,GD,Ip,ND,NE,rb,cr,JE,ch]
    simp)
   (l.length-(i+1)) Aj i (i+1) l (by omega) (A3 (by omega)) (by omega) rfl g.symm (by rw[g,Yu];omega) rfl
  rw[show((i:Int)+1)=((i+1:Nat):Int)from rfl]at m⊢
  simp only[b,m,z,YF,Yo,Yk,B9,Yr,YD,Ya,Fx]
  have d:c≤l.length:=by rw[C];exact JN _ _
  have e:(c:Int)=((E.take c).length:Int):=by rw[Yu];omega
  simp[cU,A,D,al,Fq,Fu,br,ix,B8,vz,vy,vw,vs,vg,v2,lr,Ar,ln,Ai,lc,lf,Ex,ap,aq,a0,a1,ad,cl,cs,cf,wa,wi,ir,ca,cp,dd,mv,st,ss,sL,Bd.c,Bd.vl,sR,CM,GD,Ip,ND,NE,rb,cr,JE,ch]
  omega
theorem m58(l:List Fld)(h:l.length<549755813888):Vd l=some l:=by
 unfold Vd
 simp only[Z5,al,Fq,Fu,br,ix,B8,vz,vy,vw,vs,vg,v2,lr,Ar,ln,Ai,lc,lf,Ex,ap,aq,a0,a1,ad,cl,cs,cf,wa,wi,ir,ca,cp,dd,mv,st,ss,sL,Bd.c,Bd.vl,sR,CM,Yk,YD,h,Yr]
theorem ZVB(l:List Fld)(f:Fld→Option Bool)(p:Fld→Bool)(d:∀x∈l,f x=some (p x))(h:l.length<4611686018427387904):UR l f=some (CW l p):=by
 unfold UR
 simp only[Pn,Py,Px,Pk,al,Fq,Fu,br,ix,B8,vz,vy,vw,vs,vg,v2,lr,Ar,ln,Ai,lc,lf,Ex,ap,aq,a0,a1,ad,cl,cs,cf,wa,wi,ir,ca,cp,dd,mv,st,ss,sL,Bd.c,Bd.vl,sR,CM]
 rw[Ei l p (fun i=>(i:Int)) () (hN:=A3 h) (he:=by simp[VT,Pn,Py,Px,Pk,al,Fq,Fu,br,ix,B8,vz,vy,vw,vs,vg,v2,lr,Ar,ln,Ai,lc,lf,Ex,ap,aq,a0,a1,ad,cl,cs,cf,wa,wi,ir,ca,cp,dd,mv,st,ss,sL,Bd.c,Bd.vl,sR,CM]) (hs:=by
  intro i y hy
  obtain⟨a,rfl⟩:=Yb.1 hy
  have b:i+1<9223372036854775808:=by omega
  have c:=d l[i] (Yj hy)
  simp[VT,Pn,Py,Px,Pk,al,Fq,Fu,br,ix,B8,vz,vy,vw,vs,vg,v2,lr,Ar,ln,Ai,lc,lf,Ex,ap,aq,a0,a1,ad,cl,cs,cf,wa,wi,ir,ca,cp,dd,mv,st,ss,sL,Bd.c,Bd.vl,sR,CM,a,b,c]
  cases p l[i]<;>rfl)]
 unfold CW
 cases l.findIdx? _<;>rfl
theorem m57(l:List Fld)(f:Fld→Option Bool)(p:Fld→Bool)(k:∀x∈l,f x=some (p x))(h:l.length<549755813888):UM l f=some (l.filter fun x=>!p x):=by
 have e0:=ZVB l f p k (by omega)
 unfold UM
 dsimp only[dk,am,vw,vs,vg,vz,cs,br,lr,lf,lc,wi]
 rw[e0,Ya]
 cases hi:l.findIdx? p with
 |none=>
  rw[show CW l p= -1 from by unfold CW;rw[hi]]
  rw[show l.filter (fun x=>!p x)=l from LA.2 fun x a=>by rw[NV.1 hi x a];rfl]
  rfl
 |some i=>
  obtain⟨t,u,v⟩:=II.1 hi
  rw[show CW l p=(i:Int)from by unfold CW;rw[hi]]
  have b:((i:Int)= -1)=False:=eq_false (by omega)
  have m: -9223372036854775808≤(i:Int)+1∧(i:Int)+1<9223372036854775808:=by omega
  have y:(l.take i).filter (fun x=>!p x)=l.take i:=LA.2 fun x a=>by
   obtain⟨j,H,rfl⟩:=Rz.1 a
   rw[Bool.eq_false_iff.2 (v j (by omega))];rfl
  have g:(l.take (i+1)).filter (fun x=>!p x)=l.take i:=by rw[Y6 t,JJ,y];simp[u]
  obtain⟨c,E,z,A,C,D⟩:=ZXk (B:=Qq l f) l p (fun i j r x w I a hl=>by
    have G:=(Yb.1 hl).1
    have q:(j:Int)<(l.length:Int):=by omega
    have s:=k x (Yj hl)
    have F: -9223372036854775808≤(i:Int)+1∧(i:Int)+1<9223372036854775808:=by omega
    have w2: -9223372036854775808≤(j:Int)+1∧(j:Int)+1<9223372036854775808:=by omega
    have d:(0:Int)≤(j:Int):=by omega
    have e:(0:Int)≤(i:Int):=by omega
    have n:(i:Int)<(l.length:Int):=by omega
    have o:i<r.length:=by omega
    dsimp only[Qq,Sm,al,Fq,Fu,br,ix,B8,vz,vy,vw,vs,vg,v2,lr,Ar,ln,Ai,lc,lf,Ex,ap,aq,a0,a1,ad,cl,cs,cf,wa,wi,ir,ca,cp,dd,mv,st,ss,sL,Bd.c,Bd.vl,sR,CM,GD,Ip,ND,NE,rb,cr,JE,ch]
    simp only[Hm,CM,q,s,F,w2,d,e,n,o,a,B9,Hx,CN,Yo,Yr,YY,Ya]
    cases p x<;>simp)
   (fun i r=>by
    dsimp only[Qq,Sm,al,Fq,Fu,br,ix,B8,vz,vy,vw,vs,vg,v2,lr,Ar,ln,Ai,lc,lf,Ex,ap,aq,a0,a1,ad,cl,cs,cf,wa,wi,ir,ca,cp,dd,mv,st,ss,sL,Bd.c,Bd.vl,sR,CM,GD,Ip,ND,NE,rb,cr,JE,ch]
    simp)
   (l.length-(i+1)) Aj i (i+1) l (by omega) (A3 (by omega)) (by omega) rfl g.symm (by rw[g,Yu];omega) rfl
  rw[show((i:Int)+1)=((i+1:Nat):Int)from rfl]at m⊢
  simp only[b,m,z,YF,Yo,Yk,B9,Yr,YD,Ya,Fx]
  have d:c≤l.length:=by rw[C];exact JN _ _
  have e:(c:Int)=((E.take c).length:Int):=by rw[Yu];omega
  simp[dC,A,D,al,Fq,Fu,br,ix,B8,vz,vy,vw,vs,vg,v2,lr,Ar,ln,Ai,lc,lf,Ex,ap,aq,a0,a1,ad,cl,cs,cf,wa,wi,ir,ca,cp,dd,mv,st,ss,sL,Bd.c,Bd.vl,sR,CM,GD,Ip,ND,NE,rb,cr,JE,ch]
  omega
theorem kx{v:Val}(h:SzV v):gY v=some (Bk v):=by
 obtain⟨t1,t2,t3,t4,t5⟩:=h
 have e:v.list.length<4611686018427387904:=by omega
 have f:v.pairs.length<4611686018427387904:=by omega
 have g:v.slots.length<4611686018427387904:=by omega
 have i:v.raws.length<4611686018427387904:=by omega
 have key:∀a b c:Bool,(if a=true then some true else if b=true then some true else some c)=some (a||b||c):=fun a b c=>by cases a<;>cases b<;>rfl
 dsimp only[gY,pX,br,vz,vy,wg,lr,Ah,br]
 rw[key]
 congr 1
 unfold Bk
 rw[Hv]
 by_cases d:v.text=⟨#[]⟩<;>simp only[d,Yo,YF,Yz,Yc,YL,Yn,Yt,YJ,YW,CX,Y4,ne_eq,IH,GN,Ds,CN,Lw,Yk,or_false,LC,Hs]<;>omega
theorem lH{v:Val}(h:SzV v):iq v=some (Bk v):=by
 obtain⟨t1,t2,t3,t4,t5⟩:=h
 have b:v.list.length<4611686018427387904:=by omega
 have c:v.pairs.length<4611686018427387904:=by omega
 have d:v.slots.length<4611686018427387904:=by omega
 have e:v.raws.length<4611686018427387904:=by omega
 have f:v.slots.length+v.raws.length<9223372036854775808:=by omega
 dsimp only[iq,p7,vy,wg,vg,lr,wa,Ah]
 simp only[b,c,d,e,f,Y5,Yr]
 congr 1
 unfold Bk
 rw[Hv]
 by_cases a:v.text=⟨#[]⟩<;>simp only[a,Yo,YF,Yz,Yc,YL,Yn,Yt,YJ,YW,CX,Y4,ne_eq,IH,GN,Ds,CN,Lw,Yk,or_false,LC,Hs]<;>omega
theorem uH{v:Val}(h:SzV v):OL v=some (Eb v):=by
 obtain⟨t1,t2,t3,t4,t5⟩:=h
 have a:v.list.length<4611686018427387904:=by omega
 have b:v.pairs.length<4611686018427387904:=by omega
 have c:v.slots.length<4611686018427387904:=by omega
 have d:v.raws.length<4611686018427387904:=by omega
 dsimp only[OL,Xs,vz,vy,wg,lr,Ah]
 congr 1
 unfold Eb
 rw[Hv]
 simp only[Yc,Yn]
 omega
theorem ZOO(n:Int):Kv n=some (C9 n):=by
 dsimp only[Kv,M2,lr]
 unfold C9
 rw[Bool.decide_or]
theorem ZPn(n:Int):UZ n=some (C9 n):=by
 dsimp only[UZ,Xy,lr]
 unfold C9
 rw[Bool.decide_or]
theorem vj{v:Val}(h:SzV v):iV v=some (Eb v&&(if C9 v.kind=true then decide (v.bits=0)else decide (v.text=⟨#[]⟩))):=by
 obtain⟨t1,t2,t3,t4,t5⟩:=h
 have a:v.list.length<4611686018427387904:=by omega
 have b:v.pairs.length<4611686018427387904:=by omega
 have c:v.slots.length<4611686018427387904:=by omega
 have d:v.raws.length<4611686018427387904:=by omega
 have e:v.list.length+v.pairs.length<9223372036854775808:=by omega
 have f:v.list.length+v.pairs.length+v.slots.length<9223372036854775808:=by omega
 have g:v.list.length+v.pairs.length+v.slots.length+v.raws.length<9223372036854775808:=by omega
 have hl:decide ((0:Int)<((v.list.length+v.pairs.length+v.slots.length+v.raws.length:Nat):Int))=!Eb v:=by
  unfold Eb
  rw[←decide_not]
  refine decide_eq_decide.2 ?_
  omega
 dsimp only[iV,ao,br,vz,wg,vs,lr,cl,wa,Ah,br]
 simp only[a,b,c,d,e,f,g,Yr]
 rw[hl,ZPn,Ya]
 cases Eb v<;>cases C9 v.kind<;>rfl
theorem ZBt(n b:Int):iB n b=some (Ik n b):=by
 unfold Ik
 dsimp only[iB,qb,br,vz,vy,lr,br]
 by_cases a:n=1
 ·subst a;rfl
 by_cases c:n=2
 ·subst c
  simp only[Yo,YF,Yr,YD,Y5,show¬(2:Int)=1 by decide,Yk]
  rw[NZ]
 by_cases e:n=9
 ·subst e;rfl
 by_cases d:n=4
 ·subst d;rfl
 simp only[a,c,d,e,YF,Yk,YD]
theorem ZRR(n b:Int)(h:1≤n∧n≤9)(d:C9 n=false):(if decide (n=1)=true then some (decide (b≤1))else if decide (n=2)=true then some (decide (-2147483648≤IntKind.i64.wrap b)&&decide (IntKind.i64.wrap b≤2147483647))else if decide (n=4)=true then some (decide (b<4294967296))else if decide (n=9)=true then some (decide (b<2147483648))else some true)=some (Ik n b):=by
 unfold Ik
 have a:decide (b<4294967296)=decide (b≤4294967295):=decide_eq_decide.2 (by omega)
 have c:decide (b<2147483648)=decide (b≤2147483647):=decide_eq_decide.2 (by omega)
 rw[a,c]
 simp only[Yn,NZ]
 repeat' (first|rfl|split)
theorem ZP0(n:Int){v:Val}(h:SzV v):Jh n v=some (Cs n v):=by
 have g:=h.t
 have k:v.text.size<4611686018427387904:=by omega
 have i:Ky n=some (decide (1≤n)&&decide (n≤9)):=rfl
 have l:∀x y z:Bool,(if((x&&y)&&!z)=true then True else True)=True:=fun x y z=>by split<;>rfl
 dsimp only[Jh,PV,br,vz,vy,wg,lr,cl,Az,A9,br]
 rw[i,uH h,ZOO,ZxB _ g,Ya]
 unfold Cs
 by_cases c:1≤n∧n≤9∧v.kind=n
 ·obtain⟨a,b,f⟩:=c
  simp only[a,b,f,B9,Yo,Ro,YJ,Ge,GL,YW,Fw,Y2,YH,Yr,Ya,Y5,k,Y4]
  cases hl:Eb v with
  |false=>rfl
  |true=>
   cases j:C9 n with
   |true=>
    simp only[YJ,Yk,YD,Yr,Y4]
    rw[NZ]
    congr 3
    exact decide_eq_decide.2 (by omega)
   |false=>
    simp only[YJ,Yk,YD,Y4]
    by_cases d:v.text=⟨#[]⟩
    ·simp only[d,Yo,YJ,Yk,YD,Y4]
     exact ZRR n v.bits ⟨a,b⟩ j
    ·simp only[d,YF,YW,Yr,CX]
 ·have e:((!(decide (1≤n)&&decide (n≤9)))||!decide (v.kind=n))=true:=by
   simp only[Yz,YL,GP,Yt]
   omega
  simp only[e,c,YF,CX,YJ,Yk,Lx,Yr,JV]
theorem nP(n:Int){v:Val}(h:SzV v):iO n v=some (Cs n v):=by
 have k:=h.t
 have p:v.text.size<4611686018427387904:=by omega
 have m:KI n=some (decide (1≤n)&&decide (n≤9)):=rfl
 dsimp only[iO,dN,br,vy,wg,lr,cl,Az,A9,br]
 rw[m,vj h,ZBt,Zo6 _ k,Ya]
 unfold Cs
 by_cases c:1≤n∧n≤9∧v.kind=n
 ·obtain⟨g,i,j⟩:=c
  simp only[g,i,j,B9,Yo,Ro,YJ,Ge,GL,YW,Fw,Y2,YH,Yr,Ya,Y5,p,Y4]
  cases hl:Eb v with
  |false=>rfl
  |true=>
   cases b:C9 n with
   |true=>
    have o:Ik n v.bits=true:=by
     unfold C9 at b
     rw[Yn]at b
     unfold Ik
     rw[Yf (by omega),Yf (by omega),Yf (by omega),Yf (by omega)]
    rw[o]
    by_cases f:v.bits=0
    ·by_cases hs:v.text.size≤4096
     ·have a:¬(4096:Int)<v.text.size:=by omega
      unfold C9 at b
      rw[Yn]at b
      simp only[f,hs,a,Yo,YF,B9,YJ,Ge,Yk,YD,Yr,Y4,Ro,YW]
      congr 2
      rw[←decide_not]
      exact decide_eq_decide.2 (by omega)
     ·have a:(4096:Int)<v.text.size:=by omega
      simp only[hs,a,Yo,YF,E1,ZO,Yr,CX,Hr]
    ·simp only[f,YF,Hr,YW,JV,ZO,Yr,Ds,CX,Y4]
   |false=>
    have hs:v.text=⟨#[]⟩→¬(4096:Int)<v.text.size:=fun e=>by rw[e];decide
    have l:¬n=7:=by
     unfold C9 at b
     rw[Yt]at b
     omega
    by_cases d:v.text=⟨#[]⟩
    ·have hs:=hs d
     simp only[d,hs,l,Yo,YF,YJ,YW,Yk,YD,Y4,IN,GL,JV,Lw]
     rw[d]at hs
     simp only[hs,YF,Lw]
     cases Ik n v.bits<;>rfl
    ·simp only[d,YF,YW,JV,Yr,CX,Hr,Yk,YD,YJ,ZO,Y4]
 ·have e:((!(decide (1≤n)&&decide (n≤9)))||!decide (v.kind=n))=true:=by
   simp only[Yz,YL,GP,Yt]
   omega
  simp only[e,c,YF,CX,YJ,Yk,Lx,Yr,JV]
theorem zx(n:Int){v:Val}(h:SzV v):gc n v=some (Ca n v):=by
 have f:=h.t
 have d:v.text.size<4611686018427387904:=by omega
 dsimp only[gc,mn,br,vz,wg,lr,cl,Az,A9,br]
 rw[kx h,ZP0 n h,Ya]
 unfold Ca
 by_cases c:v.kind=n
 ·cases g:Bk v with
  |true=>simp[c]
  |false=>
   by_cases b:4096<v.text.size
   ·have a:(4096:Int)<v.text.size:=by omega
    simp[c,d,b,a]
   ·have a:¬(4096:Int)<v.text.size:=by omega
    cases Cs n v with
    |true=>simp[c,d,b,a]
    |false=>
     by_cases e:n=7
     ·simp[c,d,b,a,e]
     ·simp[c,d,b,a,e]
 ·simp[c]
theorem jS{n:Int}{v:Val}(c:1≤n)(d:n≤9)(e:v.kind=n)(a:Bk v=false):Eb v=true∧(C9 n=true→v.bits=0)∧(C9 n=false→v.text=⟨#[]⟩):=by
 unfold Bk at a
 rw[Yt]at a
 simp only[not_or,Classical.not_and_iff_not_or_not,Classical.not_not,ne_eq]at a
 obtain⟨a1,b,a3,a4,a5⟩:=a
 unfold Eb C9
 rw[Yn,Yn,Yt]
 refine⟨by omega,fun h=>?_,fun h=>?_⟩
 ·rcases a5 with a5|a5
  ·exact a5
  ·omega
 ·rcases a4 with a4|a4
  ·exact a4
  ·omega
def LI(s:Scm)(t:Typ)(v:Val):Int:=if Ca t.kind v≠0∨t.kind≠9 then Ca t.kind v else if(BA s t.name).1.opn=false∧Ed (BA s t.name).1 v.bits=false then 16 else 0
theorem Xf(s:Scm)(n:ByteArray)(h:s.enums.length≤1048576):jc s n=some (BA s n):=by
 have d:=Ei (B:=PW s.enums fun z=>O2 z n) (N:=Aj) s.enums (fun e=>decide (e.name=n)) (fun i=>(s.enums.getD i default,true)) () (fun i x a=>by
  have b:=Bj a
  have f:=(Yb.1 a).1
  have c:i+1<9223372036854775808:=by omega
  have e:O2 x n=some (decide (x.name=n)):=rfl
  dsimp only[PW,Xw,br,ix,wg,vs,Ar,ln,Ai,cf,wa,br]
  simp only[b,c,a,e,Yo,Yr,Ya,Yp,YH]
  cases decide (x.name=n)<;>simp) (by simp[PW,Xw,br,ix,wg,vs,Ar,ln,Ai,cf,wa,br]) (A3 (by omega))
 dsimp only[jc,bm,wg,lr,cs,ic,oQ,nW,nT,vz,wg,lr,lc,Ah]
 unfold BA
 rw[d,ML]
 cases s.enums.findIdx? fun m=>decide (m.name=n)<;>rfl
theorem ws(s:Scm)(n:ByteArray)(h:s.enums.length≤1048576):gN s n=some (BA s n):=by
 have f:=Ei (B:=PX s n) (N:=Aj) s.enums (fun e=>decide (e.name=n)) (fun i=>(s.enums.getD i default,true)) () (fun i x a=>by
  have b:=Bj a
  have g:=(Yb.1 a).1
  have c:i+1<9223372036854775808:=by omega
  have d:s.enums.length<4611686018427387904:=by omega
  dsimp only[PX,Wr,br,ix,vz,wg,vs,Ar,ln,Ai,wa,Ah,br]
  simp only[b,c,d,a,Yo,Yr,Ya,Yp,YH]
  cases decide (x.name=n)<;>simp) (by simp[PX,Wr,br,ix,vz,wg,vs,Ar,ln,Ai,wa,Ah,br]) (A3 (by omega))
 dsimp only[gN,pY,ld,lD,wg,lr,lc]
 unfold BA
 rw[f,ML]
 cases s.enums.findIdx? fun m=>decide (m.name=n)<;>rfl
theorem Pj{s:Scm}(h:SzS s)(n:ByteArray):(BA s n).1.items.length≤1048576:=by
 unfold BA Ch
 cases e:s.enums.find? fun m=>decide (m.name=n)with
 |none=>decide
 |some m=>exact(h.e m (IL e)).il
theorem Zsn{s:Scm}(hs:As (Al s)≤1048576)(n:ByteArray):∀x∈(BA s n).1.items,-9223372036854775808≤x.num:=by
 unfold BA Ch
 cases e:s.enums.find? fun m=>decide (m.name=n)with
 |none=>intro x a;cases a
 |some m=>
  intro x a
  have b:=CQ (e:=Bw) (IL e)
  have c:=CQ (e:=Cr) (show x∈m.items from a)
  simp only[Al,As,bk]at hs
  simp only[Bw,As,bk]at b
  simp only[Cr,As,bk]at c
  have:=zw (k:=.i64) (n:=x.num) (by omega)
  exact this.1
theorem wV(e:Enm)(b:Int)(h:e.items.length≤1048576)(l:∀x∈e.items,-9223372036854775808≤x.num)(q:b<9223372036854775808):OK e b=some (Ed e b):=by
 have k:e.items.length<4611686018427387904:=by omega
 have n:=Ei (B:=PN e b) (N:=Aj) e.items (fun x=>decide (IntKind.u64.wrap x.num=b)) (fun _=>true) () (fun i x a=>by
  have d:=Bj a
  have o:=(Yb.1 a).1
  have f:i+1<9223372036854775808:=by omega
  have p:=l x (Yj a)
  have g:e.items.getD (i:Int).toNat Rw.z=x:=by rw[YY,Yp,a];rfl
  have j:(0:Int)≤i∧(i:Int)<e.items.length:=⟨by omega,d⟩
  have key:(decide ((0:Int)≤x.num)&&decide (IntKind.u64.wrap x.num=b))=decide (IntKind.u64.wrap x.num=b):=by
   by_cases c:(0:Int)≤x.num
   ·rw[YQ c,Y4]
   ·have m:IntKind.u64.wrap x.num=x.num%18446744073709551616:=rfl
    rw[Dh c,CX]
    symm
    rw[Yt,m]
    omega
  dsimp only[PN,WK,br,ix,AZ,vz,vy,wg,vs,Ar,ln,Ai,wa,Ah,br]
  simp only[k,d,f,g,j,a,Yo,Yr,Ya,B9,Y5,key]
  cases decide (IntKind.u64.wrap x.num=b)<;>simp) (by simp[PN,WK,br,ix,AZ,vz,vy,wg,vs,Ar,ln,Ai,wa,Ah,br]) (A3 (by omega))
 dsimp only[OK,kS,og,m9,lr,lc]
 unfold Ed
 rw[n,←Lz]
 cases e.items.findIdx? fun x=>decide (IntKind.u64.wrap x.num=b)<;>rfl
theorem Zoz(l:List Itm)(f:Itm→Option Bool)(p:Itm→Bool)(e:∀x∈l,f x=some (p x))(h:l.length≤1048576):OW l f=some (l.any p):=by
 have g:=Ei (B:=PA l f) (N:=Aj) l p (fun i=>(i:Int)) () (fun i x a=>by
  have b:=Bj a
  have j:=(Yb.1 a).1
  have c:i+1<9223372036854775808:=by omega
  have d:=e x (Yj a)
  dsimp only[PA,W4,br,ix,vs,Ar,ln,Ai,cf,wa,br]
  simp only[b,c,d,a,Yo,Yr,Ya]
  cases p x<;>simp) (by simp[PA,W4,br,ix,vs,Ar,ln,Ai,cf,wa,br]) (A3 (by omega))
 dsimp only[OW,dt,lr,cs,im,lB,lz,lS,vz,lr,lc,Ah]
 rw[g,←Lz]
 cases l.findIdx? p with
 |none=>rfl
 |some i=>simp
theorem ZlZ(e:Enm)(b:Int)(h:e.items.length≤1048576):iD e b=some (e.opn||Ed e b):=by
 dsimp only[iD,nk,wg,lr,Dy]
 rw[Zoz e.items (fun z=>UP z b) (fun x=>decide (IntKind.u64.wrap x.num=b)) (fun x _=>rfl) h]
 unfold Ed
 cases e.opn<;>simp
theorem ZZt{v:Val}(c:v.kind=7)(d:Bk v=false)(b:¬4096<v.text.size):Cs 7 v=Eu v.text:=by
 obtain⟨a1,a,a3⟩:=jS (n:=7) (by decide) (by decide) c d
 have a:=a (by decide)
 unfold Cs
 rw[a1,show C9 7=true by decide,c,a]
 have b:v.text.size≤4096:=by omega
 simp[b]
theorem od(s:Scm)(t:Typ){v:Val}(hs:SzS s)(h:SzV v):i9 s t v=some (LI s t v):=by
 have i:=h.t
 have d:v.text.size<4611686018427387904:=by omega
 dsimp only[i9,lP,br,vz,wg,lr,cl,Az,A9,br]
 rw[lH h,Zo6 _ i,nP t.kind h,Xf s _ hs.el,Ya,Ya,ZlZ _ _ (Pj hs _)]
 unfold LI Ca
 by_cases c:v.kind=t.kind
 ·cases j:Bk v with
  |true=>simp[c]
  |false=>
   by_cases a:4096<v.text.size
   ·have b:(4096:Int)<v.text.size:=by omega
    simp[c,d,a,b]
   ·have b:¬(4096:Int)<v.text.size:=by omega
    by_cases e:t.kind=7
    ·have g:=ZZt (c.trans e) j a
     rw[e]at c⊢
     rw[g]
     cases Eu v.text with
     |false=>simp[c,d,a,b]
     |true=>simp[c,d,a,b]
    ·cases Cs t.kind v with
     |false=>simp[c,d,a,b,e]
     |true=>
      by_cases f:t.kind=9
      ·simp[c,d,a,b,e,f]
       cases(BA s t.name).1.opn<;>cases Ed (BA s t.name).1 v.bits<;>simp
      ·simp[c,d,a,b,e,f]
 ·simp[c]
end Go.Proofs.YthgmbpciandpiaaGreat
