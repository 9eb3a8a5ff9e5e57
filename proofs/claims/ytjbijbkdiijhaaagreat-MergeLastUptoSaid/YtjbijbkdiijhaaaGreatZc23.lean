import Derived.Test.YtjbijbkdiijhaaaGreatZc22
import Derived.Sort.Walk0
import Derived.Test.YtjbijbkdiijhaaaGreatZc00
namespace Go.Proofs.YtjbijbkdiijhaaaGreat
set_option linter.all false
open Go Go.Eng
theorem MU{n:Nat}(h:n<18446744073709551616):IntKind.u64.wrap (n:Int)=n:=by
 unfold IntKind.wrap
 have:(IntKind.u64.bits)=64:=rfl
 simp only[this,show IntKind.u64.signed=false from rfl,Et,Yo,YN]
 omega
theorem M9(n:Nat):BitVec.ofInt 64 (n:Int)=BitVec.ofNat 64 n:=BitVec.ofInt_natCast ..
theorem kN{n m:Nat}(a:n<18446744073709551616)(hm:m<18446744073709551616):Dj .u64 (n:Int) (m:Int)=((n&&&m:Nat):Int):=by
 unfold Dj
 have h:(BitVec.ofInt 64 (n:Int)&&&BitVec.ofInt 64 (m:Int)).toNat=n&&&m:=by
  rw[M9,M9,BitVec.toNat_and,Oz,Oz,Kb a,Kb hm]
 show IntKind.u64.wrap (((BitVec.ofInt 64 (n:Int)&&&BitVec.ofInt 64 (m:Int)).toNat:Nat):Int)=_
 rw[h]
 exact MU (Nat.lt_of_le_of_lt Nat.and_le_left a)
theorem ZHP{n m:Nat}(a:n<18446744073709551616)(hm:m<18446744073709551616):GU .u64 (n:Int) (m:Int)=((n|||m:Nat):Int):=by
 unfold GU
 have h:(BitVec.ofInt 64 (n:Int)|||BitVec.ofInt 64 (m:Int)).toNat=n|||m:=by
  rw[M9,M9,BitVec.toNat_or,Oz,Oz,Kb a,Kb hm]
 show IntKind.u64.wrap (((BitVec.ofInt 64 (n:Int)|||BitVec.ofInt 64 (m:Int)).toNat:Nat):Int)=_
 rw[h]
 exact MU (Nat.or_lt_two_pow (n:=64) a hm)
theorem Zxo{n:Nat}(a:n<18446744073709551616):Jh .u64 (n:Int)=((18446744073709551615-n:Nat):Int):=by
 unfold Jh Ma
 have e:(if IntKind.u64.signed=true then(-1:Int)else IntKind.u64.max)=((18446744073709551615:Nat):Int):=rfl
 rw[e]
 have h:(BitVec.ofInt 64 ((18446744073709551615:Nat):Int)^^^BitVec.ofInt 64 (n:Int)).toNat=18446744073709551615-n:=by
  rw[M9,M9,show BitVec.ofNat 64 18446744073709551615=BitVec.allOnes 64 from rfl,BitVec.allOnes_xor,BitVec.toNat_not,Oz,Kb a]
 show IntKind.u64.wrap (((BitVec.ofInt 64 ((18446744073709551615:Nat):Int)^^^BitVec.ofInt 64 (n:Int)).toNat:Nat):Int)=_
 rw[h]
 exact MU (by omega)
theorem ZJC(n:Nat):n&&&9218868437227405312=(n/4503599627370496%2048)*4503599627370496:=by
 have e:(9218868437227405312:Nat)=2047<<<52:=rfl
 have a:n/4503599627370496%2048*4503599627370496=((n>>>52)%2^11)<<<52:=by
  rw[Nat.shiftLeft_eq,Nat.shiftRight_eq_div_pow]
 rw[e,a]
 apply Nat.eq_of_testBit_eq
 intro i
 have b:(2047:Nat)=2^11-1:=rfl
 rw[Nat.testBit_and,q8,q8,Nat.testBit_mod_two_pow,Nat.testBit_shiftRight,b,Nat.testBit_two_pow_sub_one]
 by_cases h:52≤i
 ·rw[show 52+(i-52)=i by omega]
  simp only[h,Yr,Fv]
  rw[Bool.and_comm]
 ·simp[h]
theorem ZAt(n:Nat):n&&&4503599627370495=n%4503599627370496:=Nat.and_two_pow_sub_one_eq_mod n 52
theorem ZAn{n:Nat}(b:n<18446744073709551616):n&&&9223372036854775808=if 9223372036854775808≤n then 9223372036854775808 else 0:=by
 have e:(9223372036854775808:Nat)=2^63:=rfl
 have k:n.testBit 63=decide (9223372036854775808≤n):=by
  rw[Nat.testBit_eq_decide_div_mod_eq,decide_eq_decide]
  omega
 apply Nat.eq_of_testBit_eq
 intro i
 rw[Nat.testBit_and]
 by_cases hi:63=i
 ·subst hi
  rw[k]
  by_cases h:9223372036854775808≤n
  ·simp[h]
  ·simp[h]
 ·have a:Nat.testBit 9223372036854775808 i=false:=by
   rw[e,Nat.testBit_two_pow]
   exact Yq hi
  rw[a,L6]
  split
  ·exact a.symm
  ·simp
def Iy(n:Nat):Bool:=decide (9218868437227405312<n%9223372036854775808)
theorem ZUT{n:Nat}(e:n<18446744073709551616):Ok (fun y:Int=>decide (y=0)=Iy n) (jV (n:Int)):=by
 have a:=kN e (m:=9218868437227405312) (by omega)
 have b:=kN e (m:=4503599627370495) (by omega)
 rw[ZJC]at a
 rw[ZAt]at b
 have a:Dj .u64 (n:Int) 9218868437227405312=_:=a
 have b:Dj .u64 (n:Int) 4503599627370495=_:=b
 dsimp only[jV,px,br,vz,lr,br]
 rw[a,b]
 unfold Iy
 have f:(((n/4503599627370496%2048*4503599627370496:Nat):Int)=9218868437227405312)↔n/4503599627370496%2048=2047:=by omega
 have g:(((n%4503599627370496:Nat):Int)=0)↔n%4503599627370496=0:=by omega
 have h:9218868437227405312<n%9223372036854775808↔n/4503599627370496%2048=2047∧n%4503599627370496≠0:=by omega
 simp only[f,g,h]
 by_cases c:n/4503599627370496%2048=2047
 ·by_cases d:n%4503599627370496=0
  ·simp only[c,d];exact AL (by decide)
  ·simp only[c,d];exact AL (by simp[d])
 ·have i:decide (n/4503599627370496%2048=2047)=false:=Yq c
  simp only[i,c,Et,OJ,YU,Yo,YN]
  refine AP (fun _=>AL (by decide)) fun _=>AP (fun _=>AL (by decide)) fun _=>AL (by decide)
theorem x2{n:Nat}(b:n<18446744073709551616):Ok (fun y:Int=>decide (y=0)=Iy n) (Pn (n:Int)):=by
 have e:Jd .u64 (n:Int) 9223372036854775808=((n%9223372036854775808:Nat):Int):=by
  unfold Jd
  rw[Int.tmod_eq_emod_of_nonneg (by omega)]
  omega
 dsimp only[Pn,WY,br,lr,br,rem]
 rw[e]
 unfold Iy
 have g:(9218868437227405312:Int)<((n%9223372036854775808:Nat):Int)↔9218868437227405312<n%9223372036854775808:=by omega
 simp only[g]
 by_cases h:9218868437227405312<n%9223372036854775808
 ·simp only[h];first|exact AL (by decide)|simp
 ·have a:decide (9218868437227405312<n%9223372036854775808)=false:=Yq h
  simp only[a,Yo,YN]
  first
   |refine AP (fun _=>AL (by decide)) fun _=>AP (fun _=>AL (by decide)) fun _=>AP (fun _=>AL (by decide)) fun _=>AL (by decide)
   |simp
end Go.Proofs.YtjbijbkdiijhaaaGreat
namespace Go.Proofs.YtjbijbkdiijhaaaGreat
set_option linter.all false
open Go Go.Eng
def GW(n:Nat):Nat:=if Iy n=true then 18446744073709551615 else if 9223372036854775808≤n then 18446744073709551615-n else n+9223372036854775808
theorem ym{n:Nat}(a:n<18446744073709551616):jT (n:Int)=some (GW n:Int):=by
 obtain⟨y,e,h⟩:=ZUT a
 have c:=kN a (m:=9223372036854775808) (by omega)
 rw[ZAn a]at c
 have c:Dj .u64 (n:Int) 9223372036854775808=_:=c
 have d:=Zxo a
 have f:GU .u64 (n:Int) 9223372036854775808=((n|||9223372036854775808:Nat):Int):=ZHP a (m:=9223372036854775808) (by omega)
 dsimp only[jT,oX,br,vz,lr,cl,br]
 rw[e,Ya,h,c,d,f]
 unfold GW
 cases Iy n with
 |true=>rfl
 |false=>
  by_cases hs:9223372036854775808≤n
  ·simp[hs]
  ·have g:n|||9223372036854775808=n+9223372036854775808:=by
    have j:=Nat.two_pow_add_eq_or_of_lt (i:=63) (b:=n) (by omega) 1
    rw[Nat.or_comm]
    have k:9223372036854775808+n=9223372036854775808|||n:=j
    exact k.symm.trans (Ow _ _)
   simp[hs,g]
theorem yE{v:Val}{n:Nat}(i:n<18446744073709551616)(g:v.bits=(n:Int)):jl v=some (if v.kind=2∨v.kind=3 then IntKind.u64.wrap ((n:Int)+9223372036854775808)else if v.kind=6 then(GW n:Int)else(n:Int)):=by
 obtain⟨y,e,h⟩:=x2 i
 dsimp only[jl,nK,kB,br,vz,wg,lr,cl,br,yP,mn,lr]
 rw[g]
 by_cases a:v.kind=2∨v.kind=3
 ·have b:(decide (v.kind=2)||decide (v.kind=3))=true:=by simpa using a
  simp only[b,a,Yv]
  rfl
 ·have b:(decide (v.kind=2)||decide (v.kind=3))=false:=by simpa using a
  simp only[b,a,Yo,YN]
  by_cases f:v.kind=6
  ·have j:=MU (n:=18446744073709551615-n) (by omega)
   simp only[f,Yr,YZ,Yo,YN,e,Ya,h]
   unfold GW
   cases Iy n with
   |true=>rfl
   |false=>
    by_cases hs:9223372036854775808≤n
    ·have c:(9223372036854775808:Int)≤(n:Int):=by omega
     have d:(18446744073709551615:Int)-(n:Int)=((18446744073709551615-n:Nat):Int):=by omega
     simp[hs,c,d,j]
    ·have c:¬(9223372036854775808:Int)≤(n:Int):=by omega
     have d:(n:Int)+9223372036854775808=((n+9223372036854775808:Nat):Int):=by omega
     have w2:=MU (n:=n+9223372036854775808) (by omega)
     simp only[hs,c,d,w2,YU,Yo,YN,Yv]
  ·simp[f]
def BS(a b:Int):Int:=if a<b then -1 else if b<a then 1 else 0
theorem UN(a b:Int):jJ a b=some (BS a b):=by
 dsimp only[jJ,eC,br,lr,cl,br,yV,cI,lr]
 unfold BS
 by_cases h:a<b
 ·simp[h]
 ·by_cases c:b<a<;>simp[h,c]
theorem xH(a b:Int):jf a b=some (BS a b):=by
 dsimp only[jf,mP,br,lr,cl,br,yY,o4,lr]
 unfold BS
 by_cases h:a<b
 ·simp[h]
 ·by_cases c:b<a<;>simp[h,c]
theorem ZVA(a b:Int):jw a b=some (BS a b):=by
 dsimp only[jw,nJ,br,lr,br]
 unfold BS
 by_cases h:a<b
 ·simp[h]
 ·by_cases c:b<a<;>simp[h,c]
def EO(a b:ByteArray):Int:=if BJ a b=true then -1 else if a=b then 0 else 1
theorem vM(a b:ByteArray):decide (EO a b=0)=decide (a=b):=by
 unfold EO
 by_cases h:a=b
 ·subst h
  have:BJ a a=false:=by
   unfold BJ
   rw[Go.Proofs.bytesLess_eq]
   exact Yq (List.lt_irrefl _)
  simp[this]
 ·cases BJ a b<;>simp[h]
theorem ZU4(a b:ByteArray):je a b=some (EO a b):=by
 dsimp only[je,nq,br,lr,cl,br,yX,mq,lr]
 unfold EO
 cases h:BJ a b with
 |true=>simp
 |false=>by_cases c:a=b<;>simp[c]
theorem xW{α ρ:Type}{B:Int×Int×List α→Option (Lv (Int×Int×List α) (Int×List α) ρ)}(l:List α)(p:α→Bool)
  (s:∀(i j:Nat) (r:List α) x,i≤j→r.length=l.length→r[j]?=some x→l[j]?=some x→B ((i:Int),(j:Int),r)=some (.nx (if p x then((i:Int),((j+1:Nat):Int),r)else(((i+1:Nat):Int),((j+1:Nat):Int),r.set i x))))
  (t:∀(i:Nat) r,B ((i:Int),(l.length:Int),r)=some (.ex ((i:Int),r))):
  ∀(k N i j:Nat) (r:List α),j+k=l.length→k<N→i≤j→r.length=l.length→r.take i=(l.take j).filter (fun x=>!p x)→i=((l.take j).filter fun x=>!p x).length→r.drop j=l.drop j→
  ∃(n:Nat) (o:List α),Al B N ((i:Int),(j:Int),r)=some (.inl ((n:Int),o))∧o.take n=l.filter (fun x=>!p x)∧n=(l.filter fun x=>!p x).length∧o.length=l.length:=by
 intro k
 induction k with
 |zero=>
  intro N i j r u hN b c d hi e
  obtain⟨N,rfl⟩:∃m,N=m+1:=⟨N-1,by omega⟩
  have:j=l.length:=by omega
  subst this
  rw[L2]at d hi
  exact⟨i,r,by rw[Al,t],d,hi,c⟩
 |succ k q=>
  intro N i j r u hN b c d hi e
  obtain⟨N,rfl⟩:∃m,N=m+1:=⟨N-1,by omega⟩
  have a:j<l.length:=by omega
  have hl:l[j]?=some l[j]:=Ye a
  have h:r[j]?=some l[j]:=by
   have:=congrArg (fun z=>z[0]?) e
   simpa[Y0,a]using this
  have e0:l.take (j+1)=l.take j++[l[j]]:=Y6 a
  rw[Al,s i j r l[j] b c h hl]
  cases f:p l[j]with
  |true=>
   refine q N i (j+1) r (by omega) (by omega) (by omega) c ?_ ?_ ?_
   ·rw[e0,HK,d];simp[f]
   ·rw[e0,HK];simpa[f]using hi
   ·have:=congrArg (List.drop 1) e
    simpa[OH]using this
  |false=>
   have g:i<r.length:=by omega
   refine q N (i+1) (j+1) (r.set i l[j]) (by omega) (by omega) (by omega) (by rw[OG];exact c) ?_ ?_ ?_
   ·rw[e0,HK,←d,Y6 (by rw[OG];exact g),List.take_set_of_le (Yf _),re]
    simp[f]
   ·rw[e0,HK,Yt,←hi]
    simp[f]
   ·rw[List.drop_set_of_lt (by omega)]
    have:=congrArg (List.drop 1) e
    simpa[OH]using this
theorem xm(l:List Slt)(f:Slt→Option Bool)(p:Slt→Bool)(d:∀x∈l,f x=some (p x))(h:l.length<4611686018427387904):Pm l f=some (CX l p):=by
 unfold Pm
 simp only[Qc,Qb,PS,P7,al,Fm,DY,br,ix,Cq,vz,vy,vw,vs,vg,v2,lr,Ay,ln,Ai,lc,lf,Ek,ap,aq,a0,a1,ad,cl,cs,cf,wa,wi,ir,ca,cp,dd,mv,st,ss,sL,Bd.c,Bd.vl,sR,AH]
 rw[Eu l p (fun i=>(i:Int)) () (hN:=A1 h) (he:=by simp[VS,Qc,Qb,PS,P7,al,Fm,DY,br,ix,Cq,vz,vy,vw,vs,vg,v2,lr,Ay,ln,Ai,lc,lf,Ek,ap,aq,a0,a1,ad,cl,cs,cf,wa,wi,ir,ca,cp,dd,mv,st,ss,sL,Bd.c,Bd.vl,sR,AH]) (hs:=by
  intro i y hy
  obtain⟨a,rfl⟩:=Yb.1 hy
  have b:i+1<9223372036854775808:=by omega
  have c:=d l[i] (Yi hy)
  simp[VS,Qc,Qb,PS,P7,al,Fm,DY,br,ix,Cq,vz,vy,vw,vs,vg,v2,lr,Ay,ln,Ai,lc,lf,Ek,ap,aq,a0,a1,ad,cl,cs,cf,wa,wi,ir,ca,cp,dd,mv,st,ss,sL,Bd.c,Bd.vl,sR,AH,a,b,c]
  cases p l[i]<;>rfl)]
 unfold CX
 cases l.findIdx? _<;>rfl
theorem n41(l:List Slt)(f:Slt→Option Bool)(p:Slt→Bool)(g:∀x∈l,f x=some (p x))(h:l.length<549755813888):Py l f=some (l.filter fun x=>!p x):=by
 have e0:=xm l f p g (by omega)
 unfold Py
 dsimp only[dQ,dK,vw,vs,vg,vz,cs,br,lr,lf,lc,wi]
 rw[e0,Ya]
 cases hi:l.findIdx? p with
 |none=>
  rw[show CX l p= -1 from by unfold CX;rw[hi]]
  rw[show l.filter (fun x=>!p x)=l from SQ.2 fun x hx=>by rw[L3.1 hi x hx];rfl]
  rfl
 |some i=>
  obtain⟨s,t,u⟩:=Kj.1 hi
  rw[show CX l p=(i:Int)from by unfold CX;rw[hi]]
  have a:((i:Int)= -1)=False:=eq_false (by omega)
  have k: -9223372036854775808≤(i:Int)+1∧(i:Int)+1<9223372036854775808:=by omega
  have w:(l.take i).filter (fun x=>!p x)=l.take i:=SQ.2 fun x hx=>by
   obtain⟨j,G,rfl⟩:=ac.1 hx
   rw[ZW.2 (u j (by omega))];rfl
  have e:(l.take (i+1)).filter (fun x=>!p x)=l.take i:=by rw[Y6 s,HK,w];simp[t]
  obtain⟨b,D,y,z,A,C⟩:=xW (B:=RH l f) l p (fun i j r x v H hx hl=>by
    have F:=(Yb.1 hl).1
    have o:(j:Int)<(l.length:Int):=by omega
    have q:=g x (Yi hl)
    have E: -9223372036854775808≤(i:Int)+1∧(i:Int)+1<9223372036854775808:=by omega
    have w2: -9223372036854775808≤(j:Int)+1∧(j:Int)+1<9223372036854775808:=by omega
    have c:(0:Int)≤(j:Int):=by omega
    have d:(0:Int)≤(i:Int):=by omega
    have m:(i:Int)<(l.length:Int):=by omega
    have n:i<r.length:=by omega
    dsimp only[RH,Tb,al,Fm,DY,br,ix,Cq,vz,vy,vw,vs,vg,v2,lr,Ay,ln,Ai,lc,lf,Ek,ap,aq,a0,a1,ad,cl,cs,cf,wa,wi,ir,ca,cp,dd,mv,st,ss,sL,Bd.c,Bd.vl,sR,AH,N4,N5,N2,N6,rb,cr,J6,ch]
    simp only[BY,AH,o,q,E,w2,c,d,m,n,hx,Ck,OI,HT,Yr,Yv,YV,Ya]
    cases p x<;>simp)
   (fun i r=>by
    dsimp only[RH,Tb,al,Fm,DY,br,ix,Cq,vz,vy,vw,vs,vg,v2,lr,Ay,ln,Ai,lc,lf,Ek,ap,aq,a0,a1,ad,cl,cs,cf,wa,wi,ir,ca,cp,dd,mv,st,ss,sL,Bd.c,Bd.vl,sR,AH,N4,N5,N2,N6,rb,cr,J6,ch]
    simp)
   (l.length-(i+1)) Am i (i+1) l (by omega) (A1 (by omega)) (by omega) rfl e.symm (by rw[e,YD];omega) rfl
  rw[show((i:Int)+1)=((i+1:Nat):Int)from rfl]at k⊢
  simp only[a,k,y,YU,Yr,Yo,Ck,Yv,YN,Ya,CJ]
  have c:b≤l.length:=by rw[A];exact Kg _ _
  have d:(b:Int)=((D.take b).length:Int):=by rw[YD];omega
  simp[eu,z,C,al,Fm,DY,br,ix,Cq,vz,vy,vw,vs,vg,v2,lr,Ay,ln,Ai,lc,lf,Ek,ap,aq,a0,a1,ad,cl,cs,cf,wa,wi,ir,ca,cp,dd,mv,st,ss,sL,Bd.c,Bd.vl,sR,AH,N4,N5,N2,N6,rb,cr,J6,ch]
  omega
theorem m58(l:List Fld)(h:l.length<549755813888):U5 l=some l:=by
 unfold U5
 simp only[fv,al,Fm,DY,br,ix,Cq,vz,vy,vw,vs,vg,v2,lr,Ay,ln,Ai,lc,lf,Ek,ap,aq,a0,a1,ad,cl,cs,cf,wa,wi,ir,ca,cp,dd,mv,st,ss,sL,Bd.c,Bd.vl,sR,AH,Yo,YN,h,Yv]
theorem ZRq(l:List Fld)(f:Fld→Option Bool)(p:Fld→Bool)(d:∀x∈l,f x=some (p x))(h:l.length<4611686018427387904):UX l f=some (CX l p):=by
 unfold UX
 simp only[PZ,P5,PW,P9,al,Fm,DY,br,ix,Cq,vz,vy,vw,vs,vg,v2,lr,Ay,ln,Ai,lc,lf,Ek,ap,aq,a0,a1,ad,cl,cs,cf,wa,wi,ir,ca,cp,dd,mv,st,ss,sL,Bd.c,Bd.vl,sR,AH]
 rw[Eu l p (fun i=>(i:Int)) () (hN:=A1 h) (he:=by simp[VZ,PZ,P5,PW,P9,al,Fm,DY,br,ix,Cq,vz,vy,vw,vs,vg,v2,lr,Ay,ln,Ai,lc,lf,Ek,ap,aq,a0,a1,ad,cl,cs,cf,wa,wi,ir,ca,cp,dd,mv,st,ss,sL,Bd.c,Bd.vl,sR,AH]) (hs:=by
  intro i y hy
  obtain⟨a,rfl⟩:=Yb.1 hy
  have b:i+1<9223372036854775808:=by omega
  have c:=d l[i] (Yi hy)
  simp[VZ,PZ,P5,PW,P9,al,Fm,DY,br,ix,Cq,vz,vy,vw,vs,vg,v2,lr,Ay,ln,Ai,lc,lf,Ek,ap,aq,a0,a1,ad,cl,cs,cf,wa,wi,ir,ca,cp,dd,mv,st,ss,sL,Bd.c,Bd.vl,sR,AH,a,b,c]
  cases p l[i]<;>rfl)]
 unfold CX
 cases l.findIdx? _<;>rfl
theorem m57(l:List Fld)(f:Fld→Option Bool)(p:Fld→Bool)(g:∀x∈l,f x=some (p x))(h:l.length<549755813888):UW l f=some (l.filter fun x=>!p x):=by
 have e0:=ZRq l f p g (by omega)
 unfold UW
 dsimp only[ew,aT,vw,vs,vg,vz,cs,br,lr,lf,lc,wi]
 rw[e0,Ya]
 cases hi:l.findIdx? p with
 |none=>
  rw[show CX l p= -1 from by unfold CX;rw[hi]]
  rw[show l.filter (fun x=>!p x)=l from SQ.2 fun x hx=>by rw[L3.1 hi x hx];rfl]
  rfl
 |some i=>
  obtain⟨s,t,u⟩:=Kj.1 hi
  rw[show CX l p=(i:Int)from by unfold CX;rw[hi]]
  have a:((i:Int)= -1)=False:=eq_false (by omega)
  have k: -9223372036854775808≤(i:Int)+1∧(i:Int)+1<9223372036854775808:=by omega
  have w:(l.take i).filter (fun x=>!p x)=l.take i:=SQ.2 fun x hx=>by
   obtain⟨j,G,rfl⟩:=ac.1 hx
   rw[ZW.2 (u j (by omega))];rfl
  have e:(l.take (i+1)).filter (fun x=>!p x)=l.take i:=by rw[Y6 s,HK,w];simp[t]
  obtain⟨b,D,y,z,A,C⟩:=xW (B:=Rs l f) l p (fun i j r x v H hx hl=>by
    have F:=(Yb.1 hl).1
    have o:(j:Int)<(l.length:Int):=by omega
    have q:=g x (Yi hl)
    have E: -9223372036854775808≤(i:Int)+1∧(i:Int)+1<9223372036854775808:=by omega
    have w2: -9223372036854775808≤(j:Int)+1∧(j:Int)+1<9223372036854775808:=by omega
    have c:(0:Int)≤(j:Int):=by omega
    have d:(0:Int)≤(i:Int):=by omega
    have m:(i:Int)<(l.length:Int):=by omega
    have n:i<r.length:=by omega
    dsimp only[Rs,Tt,al,Fm,DY,br,ix,Cq,vz,vy,vw,vs,vg,v2,lr,Ay,ln,Ai,lc,lf,Ek,ap,aq,a0,a1,ad,cl,cs,cf,wa,wi,ir,ca,cp,dd,mv,st,ss,sL,Bd.c,Bd.vl,sR,AH,N4,N5,N2,N6,rb,cr,J6,ch]
    simp only[BY,AH,o,q,E,w2,c,d,m,n,hx,Ck,OI,HT,Yr,Yv,YV,Ya]
    cases p x<;>simp)
   (fun i r=>by
    dsimp only[Rs,Tt,al,Fm,DY,br,ix,Cq,vz,vy,vw,vs,vg,v2,lr,Ay,ln,Ai,lc,lf,Ek,ap,aq,a0,a1,ad,cl,cs,cf,wa,wi,ir,ca,cp,dd,mv,st,ss,sL,Bd.c,Bd.vl,sR,AH,N4,N5,N2,N6,rb,cr,J6,ch]
    simp)
   (l.length-(i+1)) Am i (i+1) l (by omega) (A1 (by omega)) (by omega) rfl e.symm (by rw[e,YD];omega) rfl
  rw[show((i:Int)+1)=((i+1:Nat):Int)from rfl]at k⊢
  simp only[a,k,y,YU,Yr,Yo,Ck,Yv,YN,Ya,CJ]
  have c:b≤l.length:=by rw[A];exact Kg _ _
  have d:(b:Int)=((D.take b).length:Int):=by rw[YD];omega
  simp[eI,z,C,al,Fm,DY,br,ix,Cq,vz,vy,vw,vs,vg,v2,lr,Ay,ln,Ai,lc,lf,Ek,ap,aq,a0,a1,ad,cl,cs,cf,wa,wi,ir,ca,cp,dd,mv,st,ss,sL,Bd.c,Bd.vl,sR,AH,N4,N5,N2,N6,rb,cr,J6,ch]
  omega
theorem m29(m:Msg)(u:ByteArray)(h:m.fields.length≤1048576)(a:u≠⟨#[]⟩):Vf m u=some (m.fields.filter fun f=>decide (f.union=u)):=by
 dsimp only[Vf,aI,dS,dM,bp,fR,br,vz,wg,lr,lc,fl,fr,br]
 rw[m58 _ (by omega),Ya,m57 _ (fun z=>U4 z u) (fun f=>!decide (f.union=u)) (fun x _=>rfl) (by omega)]
 simp[a]
theorem ZUX(m:Msg):Vf m ⟨#[]⟩=some []:=rfl
theorem lG{v:Val}(h:SzV v):jD v=some (BW v):=by
 obtain⟨t1,t2,t3,t4,t5⟩:=h
 have e:v.list.length<4611686018427387904:=by omega
 have f:v.pairs.length<4611686018427387904:=by omega
 have g:v.slots.length<4611686018427387904:=by omega
 have i:v.raws.length<4611686018427387904:=by omega
 have key:∀a b c:Bool,(if a=true then some true else if b=true then some true else some c)=some (a||b||c):=fun a b c=>by cases a<;>cases b<;>rfl
 dsimp only[jD,pm,br,vz,vy,wg,lr,An,br]
 rw[key]
 congr 1
 unfold BW
 rw[ay]
 by_cases d:v.text=⟨#[]⟩<;>simp only[d,Yr,YU,YH,Yc,YJ,YB,YL,YZ,Y8,Et,Fv,ne_eq,OA,L1,OJ,HT,SP,Yo,or_false,false_or,Kh]<;>omega
theorem rO{v:Val}(h:SzV v):Pp v=some (Me v):=by
 obtain⟨t1,t2,t3,t4,t5⟩:=h
 have a:v.list.length<4611686018427387904:=by omega
 have b:v.pairs.length<4611686018427387904:=by omega
 have c:v.slots.length<4611686018427387904:=by omega
 have d:v.raws.length<4611686018427387904:=by omega
 dsimp only[Pp,We,vz,vy,wg,lr,An]
 congr 1
 unfold Me
 rw[ay]
 simp only[Yc,YB]
 omega
theorem ZK9(n:Int):MD n=some (Pi n):=by
 dsimp only[MD,QJ,lr]
 unfold Pi
 rw[Bool.decide_or]
theorem ZMo(n b:Int)(h:1≤n∧n≤9)(d:Pi n=false):(if decide (n=1)=true then some (decide (b≤1))else if decide (n=2)=true then some (decide (-2147483648≤IntKind.i64.wrap b)&&decide (IntKind.i64.wrap b≤2147483647))else if decide (n=4)=true then some (decide (b<4294967296))else if decide (n=9)=true then some (decide (b<2147483648))else some true)=some (T6 n b):=by
 unfold T6
 have a:decide (b<4294967296)=decide (b≤4294967295):=decide_eq_decide.2 (by omega)
 have c:decide (b<2147483648)=decide (b≤2147483647):=decide_eq_decide.2 (by omega)
 rw[a,c]
 simp only[YB,aA]
 repeat' (first|rfl|split)
theorem ZNX(n:Int){v:Val}(h:SzV v):Ju n v=some (Jp n v):=by
 have f:=h.t
 have j:v.text.size<4611686018427387904:=by omega
 have g:MH n=some (decide (1≤n)&&decide (n≤9)):=rfl
 have k:∀x y z:Bool,(if((x&&y)&&!z)=true then True else True)=True:=fun x y z=>by split<;>rfl
 dsimp only[Ju,QF,br,vz,vy,wg,lr,cl,AO,BF,br]
 rw[g,rO h,ZK9,Ztp _ f,Ya]
 unfold Jp
 by_cases c:1≤n∧n≤9∧v.kind=n
 ·obtain⟨a,b,d⟩:=c
  simp only[a,b,d,Ck,Yr,Ou,YZ,SZ,Kc,Y8,SY,Gn,YT,Yv,Ya,D5,j,Fv]
  cases hl:Me v with
  |false=>rfl
  |true=>
   cases i:Pi n with
   |true=>
    simp only[YZ,Yo,YN,Yv,Fv]
    rw[aA]
    congr 3
    exact decide_eq_decide.2 (by omega)
   |false=>
    simp only[YZ,Yo,YN,Fv]
    by_cases hx:v.text=⟨#[]⟩
    ·simp only[hx,Yr,YZ,Yo,YN,Fv]
     exact ZMo n v.bits ⟨a,b⟩ i
    ·simp only[hx,YU,Y8,Yv,Et]
 ·have e:((!(decide (1≤n)&&decide (n≤9)))||!decide (v.kind=n))=true:=by
   simp only[YH,YJ,Kf,YL]
   omega
  simp only[e,c,YU,Et,YZ,Yo,Ov,Yv,Oy]
theorem uy(n:Int){v:Val}(h:SzV v):ju n v=some (DW n v):=by
 have f:=h.t
 have d:v.text.size<4611686018427387904:=by omega
 dsimp only[ju,mN,br,vz,wg,lr,cl,AO,BF,br]
 rw[lG h,ZNX n h,Ya]
 unfold DW
 by_cases c:v.kind=n
 ·cases g:BW v with
  |true=>simp[c]
  |false=>
   by_cases b:4096<v.text.size
   ·have a:(4096:Int)<v.text.size:=by omega
    simp[c,d,b,a]
   ·have a:¬(4096:Int)<v.text.size:=by omega
    cases Jp n v with
    |true=>simp[c,d,b,a]
    |false=>
     by_cases e:n=7
     ·simp[c,d,b,a,e]
     ·simp[c,d,b,a,e]
 ·simp[c]
theorem sX(s:Scm)(n:ByteArray)(h:s.enums.length≤1048576):jh s n=some (Dh s n):=by
 have d:=Eu (B:=QG s n) (N:=Am) s.enums (fun e=>decide (e.name=n)) (fun i=>(s.enums.getD i default,true)) () (fun i x hx=>by
  have a:=BM hx
  have f:=(Yb.1 hx).1
  have b:i+1<9223372036854775808:=by omega
  have c:s.enums.length<4611686018427387904:=by omega
  dsimp only[QG,Wl,br,ix,vz,wg,vs,Ay,ln,Ai,wa,An,br]
  simp only[a,b,c,hx,Yr,Yv,Ya,Yg,YT]
  cases decide (x.name=n)<;>simp) (by simp[QG,Wl,br,ix,vz,wg,vs,Ay,ln,Ai,wa,An,br]) (A1 (by omega))
 dsimp only[jh,o8,nc,oY,wg,lr,lc]
 unfold Dh
 rw[d,P4]
 cases s.enums.findIdx? fun m=>decide (m.name=n)<;>rfl
theorem ZsK{s:Scm}(h:SzS s)(n:ByteArray):(Dh s n).1.items.length≤1048576:=by
 unfold Dh C8
 cases e:s.enums.find? fun m=>decide (m.name=n)with
 |none=>decide
 |some m=>exact(h.e m (I4 e)).il
theorem ZwY{s:Scm}(hs:As (Au s)≤1048576)(n:ByteArray):∀x∈(Dh s n).1.items,-9223372036854775808≤x.num:=by
 unfold Dh C8
 cases e:s.enums.find? fun m=>decide (m.name=n)with
 |none=>intro x hx;cases hx
 |some m=>
  intro x hx
  have a:=C2 (e:=Cz) (I4 e)
  have b:=C2 (e:=FX) (show x∈m.items from hx)
  simp only[Au,As,bk]at hs
  simp only[Cz,As,bk]at a
  simp only[FX,As,bk]at b
  have:=uU (k:=.i64) (n:=x.num) (by omega)
  exact this.1
theorem tf(e:Enm)(b:Int)(h:e.items.length≤1048576)(k:∀x∈e.items,-9223372036854775808≤x.num)(p:b<9223372036854775808):Pq e b=some (LJ e b):=by
 have j:e.items.length<4611686018427387904:=by omega
 have m:=Eu (B:=Q1 e b) (N:=Am) e.items (fun x=>decide (IntKind.u64.wrap x.num=b)) (fun _=>true) () (fun i x hx=>by
  have a:=BM hx
  have n:=(Yb.1 hx).1
  have d:i+1<9223372036854775808:=by omega
  have o:=k x (Yi hx)
  have f:e.items.getD (i:Int).toNat Rw.z=x:=by rw[YV,Yg,hx];rfl
  have g:(0:Int)≤i∧(i:Int)<e.items.length:=⟨by omega,a⟩
  have key:(decide ((0:Int)≤x.num)&&decide (IntKind.u64.wrap x.num=b))=decide (IntKind.u64.wrap x.num=b):=by
   by_cases c:(0:Int)≤x.num
   ·rw[Yn c,Fv]
   ·have l:IntKind.u64.wrap x.num=x.num%18446744073709551616:=rfl
    rw[Yq c,Et]
    symm
    rw[YL,l]
    omega
  dsimp only[Q1,V4,br,ix,A0,vz,vy,wg,vs,Ay,ln,Ai,wa,An,br]
  simp only[j,a,d,f,g,hx,Yr,Yv,Ya,Ck,D5,key]
  cases decide (IntKind.u64.wrap x.num=b)<;>simp) (by simp[Q1,V4,br,ix,A0,vz,vy,wg,vs,Ay,ln,Ai,wa,An,br]) (A1 (by omega))
 dsimp only[Pq,mb,ol,mW,lr,lc]
 unfold LJ
 rw[m,←Ol]
 cases e.items.findIdx? fun x=>decide (IntKind.u64.wrap x.num=b)<;>rfl
theorem PM{α ξ ρ:Type}{B:Nat→Option (Lv Nat ξ ρ)}{N:Nat}(l:List α)(p:α→Bool)(r:ρ)(e:ξ)
  (hs:∀i x,l[i]?=some x→B i=some (if p x=true then .rt r else .nx (i+1))) (he:B l.length=some (.ex e)) (hN:l.length<N):Al B N 0=some (if l.any p=true then .inr r else .inl e):=by
 rw[Eu l p (fun _=>r) e hs he hN,←Ol]
 cases l.findIdx? p<;>rfl
theorem ZE1(v:Val)(k:Int)(h:v.slots.length≤1048576):jo v k=some (Ca v.slots k):=by
 have c:v.slots.length<4611686018427387904:=by omega
 have d:=Eu (B:=Q7 v k) (N:=Am) v.slots (fun x=>decide (x.num=k)) (fun _=>true) () (fun i x hx=>by
  have a:=BM hx
  have e:=(Yb.1 hx).1
  have b:i+1<9223372036854775808:=by omega
  dsimp only[Q7,V8,br,ix,vz,wg,vs,Ay,ln,Ai,wa,An,br]
  simp only[c,a,b,hx,Yr,Yv,Ya]
  cases decide (x.num=k)<;>simp) (by simp[Q7,V8,br,ix,vz,wg,vs,Ay,ln,Ai,wa,An,br]) (A1 (by omega))
 dsimp only[jo,nk,oC,pM,lr,lc]
 unfold Ca
 rw[d,←Ol]
 cases v.slots.findIdx? fun x=>decide (x.num=k)<;>rfl
theorem ZIL{s:Scm}(hs:As (Au s)≤1048576)(m:Msg)(x:Raw)(hm:m.fields.length≤1048576)(hx:x.data.size≤1048576):jp s m x=some (Kl s m.fields x):=by
 have h:=Fr hs
 have A:x.data.size<4611686018427387904:=by omega
 have o:=sX s (A7 m.fields x.num).type.name h.el
 have d:x.bits<2147483648→Pq (Dh s (A7 m.fields x.num).type.name).1 x.bits=_:=fun y=>tf _ _ (ZsK h _) (ZwY hs _) (by omega)
 have w:(BR m.fields x.num).1=A7 m.fields x.num:=rfl
 dsimp only[jp,mV,kj,br,vy,wg,lr,cl,AO,BF,br]
 rw[p8 _ _ hm,Ya,w]
 unfold Kl uq
 have j:((((((decide (x.num<1)||decide (65535<x.num))||decide (x.wire<0))||decide (6<x.wire))||(((decide (x.wire=0)||decide (x.wire=1))||decide (x.wire=2))&&!decide (x.data=⟨#[]⟩)))||((!((decide (x.wire=0)||decide (x.wire=1))||decide (x.wire=2)))&&!decide (x.bits=0)))=true)=(x.num<1∨65535<x.num∨x.wire<0∨6<x.wire∨(x.wire≤2∧x.data≠⟨#[]⟩)∨(2<x.wire∧x.bits≠0)):=by
  by_cases p:x.data=⟨#[]⟩<;>simp only[p,Yr,YU,YZ,Y8,L6,Ot,SP,YH,Yc,YJ,YB,YL,Kh,ne_eq,OA,L1,and_false,OI,false_or,eq_iff_iff]<;>omega
 have b:(if((decide (x.wire=3)&&decide ((4096:Int)<x.data.size))||decide ((65536:Int)<x.data.size))=true then some (3:Int)else some 0)=some (if(x.wire=3∧4096<x.data.size)∨65536<x.data.size then 3 else 0):=by
  by_cases c:(x.wire=3∧4096<x.data.size)∨65536<x.data.size
  ·rw[Yk c,Yk]
   simp only[YH,Yc,YB]
   omega
  ·rw[Ym c,Ym]
   simp only[YH,Yc,YB]
   omega
 by_cases c:x.num<1∨65535<x.num∨x.wire<0∨6<x.wire∨(x.wire≤2∧x.data≠⟨#[]⟩)∨(2<x.wire∧x.bits≠0)
 ·rw[Yk c,Yk (j▸c)]
 ·rw[Ym c,Ym (j▸c)]
  cases z:(BR m.fields x.num).2 with
  |false=>
   simp only[Yo,YN,OJ]
   exact b
  |true=>
   simp only[Yv,HT]
   rw[o,Ya]
   generalize (Dh s (A7 m.fields x.num).type.name)=a at d⊢
   generalize A7 m.fields x.num=f at d⊢
   by_cases k:f.type.kind=9∧a.2=true∧a.1.opn=false∧¬f.card=5∧x.wire=0∧x.bits<2147483648
   ·obtain⟨q,r,t,u,l,n⟩:=k
    have i:¬(2147483648≤x.bits):=by omega
    simp only[q,r,t,u,l,n,i,d n,Yr,YU,YZ,Y8,SZ,Kc,SY,Gn,YT,Yv,Ou,Fv]
    cases LJ a.1 x.bits with
    |true=>simp only[Yv,YZ]
    |false=>
     simp only[Yo,YN,Y8,reduceCtorEq]
     rw[l]at b
     simpa using b
   ·have i:((((((!decide (f.type.kind=9))||(!a.2))||a.1.opn)||decide (f.card=5))||(!decide (x.wire=0)))||decide (2147483648≤x.bits))=true:=by
     simp only[YH,YJ,YB,YL]
     cases e:a.2<;>cases g:a.1.opn<;>simp only[e,g,HT,OI,OJ,and_false,reduceCtorEq,L1,true_or,or_true,false_or,or_false]at k⊢<;>omega
    have v:(decide (f.type.kind=9)&&a.2&&!a.1.opn&&!decide (f.card=5)&&decide (x.wire=0)&&decide (x.bits<2147483648)&&!LJ a.1 x.bits)=false:=by
     rw[Kf]
     left
     cases e:a.2<;>cases g:a.1.opn<;>simp only[e,g,L6,Et,YZ,Y8,Ot]at k⊢
     simp only[Kf,Z9,YL,YB]
     simp only[HT]at k
     omega
    simp only[i,v,YZ,Yo,Ov,Yv,Oy]
theorem ZBh(R:W4)(l:Fld→Val→Int)(s:Scm)(m:Msg)(v:Val)(i:Nat)(x:Slt)(a:Int)(k:Bool)(hm:m.fields.length≤1048576)(hl:v.slots.length≤1048576)(hx:v.slots[i]?=some x)(F:1≤a∧a≤16)(t:∀f:Fld,(BR m.fields x.num)=(f,true)→R s f x.val (a+1) k=some (l f x.val)):UQ R s m v i a k=some (F5 l m.fields v.slots i x):=by
 have hi:=(Yb.1 hx).1
 have c:(v.slots.take i).length=i:=by rw[YD];omega
 have b:∀(j:Nat) (y:Slt),(v.slots.take i)[j]?=some y→j<i∧v.slots[j]?=some y:=fun j y hy=>by
  rw[Y5]at hy
  split at hy
  ·exact⟨by assumption,hy⟩
  ·cases hy
 have A:∀y:Fld×Bool,Al (M3 s m v i a k R y) Am 0=some (if Ca (v.slots.take i) y.1.num=true then .inr 9 else .inl ()):=fun y=>by
  have q:=PM (B:=M3 s m v i a k R y) (N:=Am) (v.slots.take i) (fun z=>decide (z.num=y.1.num)) (9:Int) () (fun j z h=>by
   obtain⟨p,d⟩:=b j z h
   have e:(j:Int)<i:=by omega
   have g:j+1<9223372036854775808:=by omega
   dsimp only[M3,Wt,br,ix,wg,vs,Ay,ln,Ai,wa,br]
   simp only[d,e,g,Yr,Yv,Ya]
   cases decide (z.num=y.1.num)<;>simp) (by rw[c];dsimp only[M3,Wt,br,ix,wg,vs,Ay,ln,Ai,wa,br];simp) (by rw[c];exact A1 (by omega))
  exact q
 have C:∀y:Fld×Bool,Al (M7 s m v i a k R y) Am 0=some (if Kv m.fields (v.slots.take i) y.1.union=true then .inr 15 else .inl ()):=fun y=>by
  have q:=PM (B:=M7 s m v i a k R y) (N:=Am) (v.slots.take i) (fun z=>(!decide (y.1.union=⟨#[]⟩))&&decide ((A7 m.fields z.num).union=y.1.union)) (15:Int) () (fun j z h=>by
   obtain⟨p,d⟩:=b j z h
   have e:(j:Int)<i:=by omega
   have g:j+1<9223372036854775808:=by omega
   have r:(BR m.fields z.num).1=A7 m.fields z.num:=rfl
   dsimp only[M7,W0,WR,WI,Wi,br,ix,wg,vs,Ay,ln,Ai,lc,cl,wa,du,br]
   simp only[d,e,g,p8 _ _ hm,r,Yr,Yv,Ya]
   cases(!decide (y.1.union=⟨#[]⟩))&&decide ((A7 m.fields z.num).union=y.1.union)<;>simp) (by rw[c];dsimp only[M7,W0,WR,WI,Wi,br,ix,wg,vs,Ay,ln,Ai,lc,cl,wa,du,br];simp) (by rw[c];exact A1 (by omega))
  rw[q]
  congr 2
  unfold Kv
  by_cases o:y.1.union=⟨#[]⟩
  ·simp only[o,Yr,YZ,Et,eq_iff_iff,Yo,iff_false,YQ,not_exists,and_false,L1,D5]
  ·simp only[o,YU,Y8,Fv]
 have w0:(0:Int)≤i∧(i:Int)<v.slots.length:=by omega
 have D:(BR m.fields x.num).1=A7 m.fields x.num:=rfl
 have w2: -9223372036854775808≤a+1∧a+1<9223372036854775808:=by omega
 have E:(v.slots.getD i Rw.z)=x:=by rw[Yg,hx];rfl
 unfold F5
 dsimp only[UQ,la,lL,mL,mC,mX,mM,br,Cq,vw,wg,vs,lr,lc,cl,cs,wi,du,br]
 simp only[YV,hx,w0,E,Ck,Yv,p8 _ _ hm,Ya,A,C,D,w2]
 cases n:(BR m.fields x.num).2 with
 |false=>simp
 |true=>
  have u:(A7 m.fields x.num).num=x.num:=ZoI n
  have w:=t (A7 m.fields x.num) (Prod.ext rfl n)
  rw[u]
  cases Ca (v.slots.take i) x.num with
  |true=>simp
  |false=>
   cases Kv m.fields (v.slots.take i) (A7 m.fields x.num).union with
   |true=>simp
   |false=>simp[w]
theorem ZrV(R:W4){s:Scm}(hs:As (Au s)≤1048576)(m:Msg)(v:Val)(d:Nat)(K:d≤16)(k:Bool)(hm:m.fields.length≤1048576)(o:A2 v)(D:∀d':Nat,d=d'+1→∀(f:Fld) (x:Val),A2 x→R s f x (17-(d':Int)) k=some (B7 (Ba s k d') s k f x)):Pj R s m v (17-(d:Int)) k=some (Ba s k d m v):=by
 have h:=Fr hs
 have F:=Cr o
 obtain⟨s1,s2,L,t,M⟩:=Cr o
 have u:m.fields.length<4611686018427387904:=by omega
 have w:v.slots.length<4611686018427387904:=by omega
 have y:v.raws.length<4611686018427387904:=by omega
 dsimp only[Pj,bX,bV,dw,bl,be,br,wg,lr,lc,AO,br]
 rw[lG F]
 by_cases c:v.kind≠10∨BW v=true
 ·have z:Ba s k d m v=12:=by cases d<;>(unfold Ba;rw[Yk c])
  rw[z]
  by_cases a:v.kind=10
  ·have n:BW v=true:=c.resolve_left fun e=>e a
   simp[a,n]
  ·simp[a]
 ·have a:v.kind=10:=Decidable.not_not.1 fun e=>c (.inl e)
  have n:BW v=false:=by
   cases h:BW v with
   |false=>rfl
   |true=>exact absurd (.inr h) c
  cases d with
  |zero=>
   unfold Ba
   rw[Ym c]
   simp[a,n]
  |succ d=>
   have G:(1:Int)≤17-((d+1:Nat):Int)∧17-((d+1:Nat):Int)≤16:=by omega
   have q:¬(16:Int)<17-((d+1:Nat):Int):=by omega
   have H:=PL (B:=RO s m v (17-((d+1:Nat):Int)) k R) (N:=Am) v.slots (F5 (B7 (Ba s k d) s k) m.fields v.slots) id () (fun i x hx _=>by
    have e:=ZBh R (B7 (Ba s k d) s k) s m v i x _ k hm t hx G fun f j=>by
     have:=D d rfl f x.val (In o (Yi hx))
     rw[show 17-((d+1:Nat):Int)+1=17-(d:Int)by omega]
     exact this
    have b:=BM hx
    have g:i+1<9223372036854775808:=by have:=(Yb.1 hx).1;omega
    dsimp only[RO,Xa,br,vz,wg,vs,v2,Ay,ln,Ai,cs,wa,An,br]
    simp only[w,b,g,e,Yr,Yv,Ya]
    by_cases hy:F5 (B7 (Ba s k d) s k) m.fields v.slots i x=0<;>simp[hy]) (by dsimp only[RO,Xa,br,vz,wg,vs,v2,Ay,ln,Ai,cs,wa,An,br];simp[w]) (A1 (by omega))
   have I:=PL (B:=Rv s m v R) (N:=Am) m.fields (fun _ f=>IG v.slots f) id () (fun i f j _=>by
    have b:=BM j
    have g:i+1<9223372036854775808:=by have:=(Yb.1 j).1;omega
    have A:m.fields.getD i Rw.z=f:=by rw[Yg,j];rfl
    have C:(0:Int)≤i∧(i:Int)<m.fields.length:=⟨by omega,b⟩
    have e:=ZE1 v f.num t
    unfold IG
    dsimp only[Rv,XS,br,ix,A0,vz,wg,vs,Ay,ln,Ai,AO,wa,An,br]
    simp only[u,b,g,A,C,j,e,YV,Yr,Yv,Ya,Ck,D5,Gn,YT]
    by_cases E:f.card=1<;>cases Ca v.slots f.num<;>simp[E]) (by dsimp only[Rv,XS,br,ix,A0,vz,wg,vs,Ay,ln,Ai,AO,wa,An,br];simp[u]) (A1 (by omega))
   have J:=PL (B:=Rj s m v R) (N:=Am) v.raws (fun _ x=>Kl s m.fields x) id () (fun i x hx _=>by
    have b:=BM hx
    have g:i+1<9223372036854775808:=by have:=(Yb.1 hx).1;omega
    have e:=ZIL hs m x hm (ZSl o (Yi hx))
    dsimp only[Rj,W7,br,ix,vz,wg,vs,Ay,ln,Ai,cl,wa,An,br]
    simp only[y,b,g,hx,e,Yr,Yv,Ya]
    by_cases hy:Kl s m.fields x=0<;>simp[hy]) (by dsimp only[Rj,W7,br,ix,vz,wg,vs,Ay,ln,Ai,cl,wa,An,br];simp[y]) (A1 (by omega))
   unfold Ba
   rw[Ym c]
   simp only[a,n,q,H,I,J,Yr,YU,YZ,Y8,SZ,Yo,SY,Gn,YT,Yv,YN,Ya]
   by_cases l:Cc (F5 (B7 (Ba s k d) s k) m.fields v.slots) v.slots 0=0
   ·by_cases p:Cc (fun _ f=>IG v.slots f) m.fields 0=0
    ·by_cases r:Cc (fun _ x=>Kl s m.fields x) v.raws 0=0
     ·simp[l,p,r]
     ·simp[l,p,r]
    ·simp[l,p]
   ·simp[l]
theorem ZFj(R:W4){s:Scm}(hs:As (Au s)≤1048576)(t:Typ)(v:Val)(d:Nat)(q:d≤16)(k:Bool)(m:A2 v)(p:∀d':Nat,d=d'+1→∀(f:Fld) (x:Val),A2 x→R s f x (17-(d':Int)) k=some (B7 (Ba s k d') s k f x)):MA R s t v (17-(d:Int)) k=some (Dk (Ba s k d) s t v):=by
 have h:=Fr hs
 have hm:=ZrV R hs (Bf s t.name).1 v d q k (MY h _) m p
 have o:v.bits<9223372036854775808→Pq (Dh s t.name).1 v.bits=_:=fun i=>tf _ _ (ZsK h _) (ZwY hs _) i
 have n:KU s t.name=some (Bf s t.name):=Zq s _ h.ml
 dsimp only[MA,l0,br,wg,lr,cl,AO,cs,br]
 rw[n,uy _ (Cr m),sX s _ h.el]
 simp only[Ya]
 unfold Dk
 by_cases c:t.kind=10
 ·simp only[c,Yr,Yv,hm,Ya]
  cases(Bf s t.name).2<;>simp
 ·by_cases e:t.kind<1∨9<t.kind
  ·have g:(decide (t.kind<1)||decide (9<t.kind))=true:=by simpa using e
   simp only[c,e,g,YU,Yo,YN,Yv]
  ·have g:(decide (t.kind<1)||decide (9<t.kind))=false:=by
    rw[Kh,YL,YL]
    omega
   simp only[c,e,g,YU,Yo,YN]
   by_cases a:DW t.kind v=0∧t.kind=9
   ·obtain⟨a,b⟩:=a
    have i:v.bits<9223372036854775808:=by
     rw[b]at a
     unfold DW at a
     by_cases a1:v.kind≠9∨BW v=true
     ·rw[Yk a1]at a;cases a
     ·rw[Ym a1]at a
      by_cases j:4096<v.text.size
      ·rw[Yk j]at a;cases a
      ·rw[Ym j]at a
       cases a3:Jp 9 v with
       |false=>rw[a3]at a;simp at a
       |true=>
        unfold Jp at a3
        simp only[Yc]at a3
        have a4:=a3.2
        rw[Ym (by decide)]at a4
        simp only[Yc]at a4
        have l:=a4.2
        unfold T6 at l
        rw[Ym (by decide),Ym (by decide),Ym (by decide),Yk rfl,YB]at l
        omega
    rw[o i,a,b]
    cases(Dh s t.name).2<;>cases(Dh s t.name).1.opn<;>cases LJ (Dh s t.name).1 v.bits<;>simp
   ·have b:((!decide (DW t.kind v=0))||!decide (t.kind=9))=true:=by
     simp only[YH,YJ,YL]
     omega
    rw[Yk b,Yk (by omega)]
theorem ZF3(R:W4){s:Scm}(hs:As (Au s)≤1048576)(f:Fld)(v:Val)(d:Nat)(S:d≤16)(k:Bool)(t:A2 v)(Q:∀d':Nat,d=d'+1→∀(f:Fld) (x:Val),A2 x→R s f x (17-(d':Int)) k=some (B7 (Ba s k d') s k f x)):XK R s f v (17-(d:Int)) k=some (B7 (Ba s k d) s k f v):=by
 have h:=Fr hs
 have l:=Cr t
 obtain⟨s1,s2,Y,Z,s5⟩:=Cr t
 have G:v.list.length<4611686018427387904:=by omega
 have w2:v.pairs.length<4611686018427387904:=by omega
 have y:=fun(x:Val) (hx:A2 x)=>ZFj R hs f.type x d S k hx Q
 generalize 17-(d:Int)=A at y
 have U:=PL (B:=Qm s f v A k R) (N:=Am) v.list (fun _ x=>Dk (Ba s k d) s f.type x) id () (fun i x hx _=>by
  have w:=BM hx
  have g:i+1<9223372036854775808:=by have:=(Yb.1 hx).1;omega
  have e:=y x (NP t (Yi hx))
  dsimp only[Qm,Wo,br,ix,vz,wg,vs,v2,Ay,ln,Ai,cs,wa,An,br]
  simp only[G,w,g,hx,e,Yr,Yv,Ya]
  by_cases hy:Dk (Ba s k d) s f.type x=0<;>simp[hy]) (by dsimp only[Qm,Wo,br,ix,vz,wg,vs,v2,Ay,ln,Ai,cs,wa,An,br];simp[G]) (A1 (by omega))
 have W:∀(i:Nat) (p:Pr),v.pairs[i]?=some p→Al (Ls s f v A k R i) Am 0=some (if k=true∧((v.pairs.take i).any fun q=>KN q.key p.key)=true then .inr 9 else .inl ()):=fun i p c=>by
  have hi:=(Yb.1 c).1
  have F:(v.pairs.take i).length=i:=by rw[YD];omega
  cases k with
  |false=>
   obtain⟨X,D⟩:∃b,Am=b+1:=⟨Am-1,by have:=A1 (n:=20) (by omega);omega⟩
   rw[D,Al]
   dsimp only[Ls,Rf,br,ix,A0,wg,vs,Ay,ln,Ai,wa,br]
   simp
  |true=>
   have q:=PM (B:=Ls s f v A true R i) (N:=Am) (v.pairs.take i) (fun q=>KN q.key p.key) (9:Int) () (fun j z l=>by
    have T:j<i∧v.pairs[j]?=some z:=by
     rw[Y5]at l
     split at l
     ·exact⟨by assumption,l⟩
     ·cases l
    obtain⟨w,g⟩:=T
    have J:(j:Int)<i:=by omega
    have K:j+1<9223372036854775808:=by omega
    have L:v.pairs.getD j Rw.z=z:=by rw[Yg,g];rfl
    have M:v.pairs.getD i Rw.z=p:=by rw[Yg,c];rfl
    have O:(0:Int)≤j∧(j:Int)<v.pairs.length:=by omega
    have P:(0:Int)≤i∧(i:Int)<v.pairs.length:=by omega
    unfold KN
    dsimp only[Ls,Rf,br,ix,A0,wg,vs,Ay,ln,Ai,wa,br]
    simp only[g,J,K,L,M,O,P,c,YV,Yr,Ot,Yv,Ya,Ck,D5]
    cases decide (z.key.bits=p.key.bits)&&decide (z.key.text=p.key.text)<;>simp) (by rw[F];dsimp only[Ls,Rf,br,ix,A0,wg,vs,Ay,ln,Ai,wa,br];simp) (by rw[F];exact A1 (by omega))
   rw[q]
   simp
 have V:=PL (B:=Rc s f v A k R) (N:=Am) v.pairs (Kw (Dk (Ba s k d) s f.type) f.key k v.pairs) id () (fun i p c _=>by
  have w:=BM c
  have g:i+1<9223372036854775808:=by have:=(Yb.1 c).1;omega
  have E:=GE t (Yi c)
  have H:=uy f.key (Cr E.1)
  have I:=y p.val E.2
  unfold Kw
  dsimp only[Rc,VX,Wc,Wq,Wy,Wb,br,ix,vz,wg,vs,Ay,ln,Ai,lc,cl,cs,wa,An,br]
  simp only[w2,w,g,c,H,I,W i p c,Yr,Yv,Ya]
  by_cases u:DW f.key p.key=0
  ·by_cases m:k=true∧((v.pairs.take i).any fun q=>KN q.key p.key)=true
   ·simp[u,m]
   ·by_cases C:Dk (Ba s k d) s f.type p.val=0
    ·rw[Ym m]
     simp only[u,m,C]
     simp
    ·rw[Ym m]
     simp only[u,m,C]
     simp[C]
  ·simp[u]) (by dsimp only[Rc,VX,Wc,Wq,Wy,Wb,br,ix,vz,wg,vs,Ay,ln,Ai,lc,cl,cs,wa,An,br];simp[w2]) (A1 (by omega))
 have e0:=y v t
 unfold B7
 dsimp only[XK,lj,lT,lu,oi,lR,oH,kV,lJ,pi,lM,lD,lm,br,wg,lr,lc,AO,cs,br]
 rw[lG l,U,V,e0]
 by_cases o:f.card=4
 ·by_cases a:v.kind=11
  ·cases BW v with
   |true=>simp[o,a]
   |false=>
    by_cases c6:Cc (fun _ x=>Dk (Ba s k d) s f.type x) v.list 0=0
    ·simp[o,a,c6]
    ·simp[o,a,c6]
  ·simp[o,a]
 ·by_cases r:f.card=5
  ·by_cases a:v.kind=12
   ·cases BW v with
    |true=>simp[r,a]
    |false=>
     by_cases c6:Cc (Kw (Dk (Ba s k d) s f.type) f.key k v.pairs) v.pairs 0=0
     ·simp[r,a,c6]
     ·simp[r,a,c6]
   ·simp[r,a]
  ·simp[o,r]
theorem ZoT{s:Scm}(hs:As (Au s)≤1048576)(k:Bool):∀(a d:Nat),d<a→d≤16→∀(f:Fld) (v:Val),A2 v→Jt a s f v (17-(d:Int)) k=some (B7 (Ba s k d) s k f v)
 |0,d,b,_,_,_,_=>absurd b (Y4 _)
 |a+1,d,b,c,f,v,h=>ZF3 (Jt a) hs f v d c k h fun d' e g x hx=>ZoT hs k a d' (by omega) (by omega) g x hx
theorem uN:20<Am:=A1 (by omega)
theorem Zz4{s:Scm}(hs:As (Au s)≤1048576)(m:Msg)(v:Val)(k:Bool)(hm:m.fields.length≤1048576)(a:A2 v):Pj (Jt Am) s m v 1 k=some (Ba s k 16 m v):=
 ZrV (Jt Am) hs m v 16 (Yf _) k hm a fun d' e f x hx=>ZoT hs k Am d' (by have:=uN;omega) (by omega) f x hx
mutual
theorem QC:∀v:Val,cnt v≤2*As (A8 v)+1
 |.mk k b t l p s r=>by
  have a:=Zwg l
  have c:=Ztd p
  have d:=ZwB s
  have f:=CB (e:=Av) r
  simp only[cnt,A8,As,bk]
  omega
theorem Zwg:∀l:List Val,Br l≤2*AR (Nu l)
 |[]=>by simp[Br]
 |v::l=>by
  have a:=QC v
  have b:=Zwg l
  simp only[Br,Nu,AR]
  omega
theorem ZxQ:∀p:Pr,NL p≤2*As (Ap p)+2
 |.mk k v=>by
  have a:=QC k
  have b:=QC v
  simp only[NL,Ap,M0]
  omega
theorem Ztd:∀l:List Pr,BN l≤2*AR (Mh l)
 |[]=>by simp[BN]
 |v::l=>by
  have a:=ZxQ v
  have b:=Ztd l
  simp only[BN,Mh,AR]
  omega
theorem ZzS:∀x:Slt,NT x≤2*As (Aq x)+1
 |.mk n v=>by
  have a:=QC v
  simp only[NT,Aq,As,bk]
  omega
theorem ZwB:∀l:List Slt,Cb l≤2*AR (NE l)
 |[]=>by simp[Cb]
 |v::l=>by
  have a:=ZzS v
  have b:=ZwB l
  simp only[Cb,NE,AR]
  omega
end
theorem se(v:Val):cnt v=1+v.raws.length+Br v.list+BN v.pairs+Cb v.slots:=by cases v;simp only[cnt,Val.raws,Val.list,Val.pairs,Val.slots]
theorem Zpc(p:Pr):NL p=cnt p.key+cnt p.val:=by cases p;simp only[NL,Pr.key,Pr.val]
theorem ZpB(x:Slt):NT x=cnt x.val:=by cases x;simp only[NT,Slt.val]
theorem VM:∀a b:List Val,Br (a++b)=Br a+Br b
 |[],b=>by simp[Br]
 |x::a,b=>by rw[HM,Br,Br,VM a b];omega
theorem VC:∀a b:List Pr,BN (a++b)=BN a+BN b
 |[],b=>by simp[BN]
 |x::a,b=>by rw[HM,BN,BN,VC a b];omega
theorem VF:∀a b:List Slt,Cb (a++b)=Cb a+Cb b
 |[],b=>by simp[Cb]
 |x::a,b=>by rw[HM,Cb,Cb,VF a b];omega
theorem ZNC{v:Val}(h:A2 v):cnt v≤2097153:=by
 have:=QC v
 rw[Gv]at this
 have h:As (Ag v)≤1048576:=h
 omega
theorem ZuT(l:List Val)(i:Nat):Br (l.take i)≤Br l:=by
 conv=>rhs;rw[←HR i l,VM]
 omega
theorem Zuo(l:List Pr)(i:Nat):BN (l.take i)≤BN l:=by
 conv=>rhs;rw[←HR i l,VC]
 omega
theorem Zu4(l:List Slt)(i:Nat):Cb (l.take i)≤Cb l:=by
 conv=>rhs;rw[←HR i l,VF]
 omega
theorem Zyf{l:List Val}{i:Nat}{x:Val}(h:l[i]?=some x):Br (l.take i)+cnt x≤Br l:=by
 obtain⟨a,rfl⟩:=Yb.1 h
 have:=ZuT l (i+1)
 rw[Y6 a,VM,Br,Br]at this
 omega
theorem Zxm{l:List Pr}{i:Nat}{x:Pr}(h:l[i]?=some x):BN (l.take i)+NL x≤BN l:=by
 obtain⟨a,rfl⟩:=Yb.1 h
 have:=Zuo l (i+1)
 rw[Y6 a,VC,BN,BN]at this
 omega
theorem ZyS{l:List Slt}{i:Nat}{x:Slt}(h:l[i]?=some x):Cb (l.take i)+NT x≤Cb l:=by
 obtain⟨a,rfl⟩:=Yb.1 h
 have:=Zu4 l (i+1)
 rw[Y6 a,VF,Cb,Cb]at this
 omega
theorem PY:∀(g:Nat) (v:Val),As (Ag v)<g→A2 v→Jx g v=some (cnt v:Int)
 |0,v,h,_=>by omega
 |g+1,v,h,k=>by
  obtain⟨s1,s2,D,E,F⟩:=Cr k
  have y:=ZNC k
  rw[se]at y
  have q:v.list.length<4611686018427387904:=by omega
  have r:v.pairs.length<4611686018427387904:=by omega
  have s:v.slots.length<4611686018427387904:=by omega
  have z:v.raws.length<4611686018427387904:=by omega
  have A:1+v.raws.length<9223372036854775808:=by omega
  have t:=FG (B:=Ru v (Jx g)) (N:=Am) (ρ:=Int) v.list (fun p=>((1+v.raws.length+Br p:Nat):Int)) (fun i b=>(b,i)) id (fun i x hx=>by
   have j:=BM hx
   have l:i+1<9223372036854775808:=by have:=(Yb.1 hx).1;omega
   have hm:=Yi hx
   have e:=PY g x (by have:=vX hm;omega) (NP k hm)
   have m:=Zyf hx
   have d:((1+v.raws.length+Br (v.list.take i):Nat):Int)+(cnt x:Int)=((1+v.raws.length+Br (v.list.take i++[x]):Nat):Int):=by
    rw[VM,Br,Br]
    omega
   have f: -9223372036854775808≤((1+v.raws.length+Br (v.list.take i):Nat):Int)+(cnt x:Int)∧((1+v.raws.length+Br (v.list.take i):Nat):Int)+(cnt x:Int)<9223372036854775808:=by omega
   generalize ((1+v.raws.length+Br (v.list.take i):Nat):Int)=a at d f⊢
   generalize ((1+v.raws.length+Br (v.list.take i++[x]):Nat):Int)=b at d⊢
   generalize (cnt x:Int)=c at e d f
   dsimp only[Ru,Xi,br,ix,vz,wg,vs,v2,ln,Ai,cs,wa,wi,An,br]
   simp only[q,j,hx,Yr,Yv,Ya]
   rw[e,Ya,Yk f,Yk l,d]) (by dsimp only[Ru,Xi,br,ix,vz,wg,vs,v2,ln,Ai,cs,wa,wi,An,br];simp[q]) (A1 (by omega))
  have u:=FG (B:=RI v (Jx g)) (N:=Am) (ρ:=Int) v.pairs (fun p=>((1+v.raws.length+Br v.list+BN p:Nat):Int)) (fun i b=>(b,i)) id (fun i x hx=>by
   have j:=BM hx
   have l:i+1<9223372036854775808:=by have:=(Yb.1 hx).1;omega
   have hm:=Yi hx
   have e:=PY g x.key (by have:=(XQ hm).1;omega) (GE k hm).1
   have o:=PY g x.val (by have:=(XQ hm).2;omega) (GE k hm).2
   have m:=Zxm hx
   rw[Zpc]at m
   have d:((1+v.raws.length+Br v.list+BN (v.pairs.take i):Nat):Int)+((cnt x.key:Int)+(cnt x.val:Int))=((1+v.raws.length+Br v.list+BN (v.pairs.take i++[x]):Nat):Int):=by
    rw[VC,BN,BN,Zpc]
    omega
   have f: -9223372036854775808≤((1+v.raws.length+Br v.list+BN (v.pairs.take i):Nat):Int)+((cnt x.key:Int)+(cnt x.val:Int))∧((1+v.raws.length+Br v.list+BN (v.pairs.take i):Nat):Int)+((cnt x.key:Int)+(cnt x.val:Int))<9223372036854775808:=by omega
   have n: -9223372036854775808≤(cnt x.key:Int)+(cnt x.val:Int)∧(cnt x.key:Int)+(cnt x.val:Int)<9223372036854775808:=by omega
   generalize ((1+v.raws.length+Br v.list+BN (v.pairs.take i):Nat):Int)=a at d f⊢
   generalize ((1+v.raws.length+Br v.list+BN (v.pairs.take i++[x]):Nat):Int)=b at d⊢
   generalize (cnt x.key:Int)=c at e d f n
   generalize (cnt x.val:Int)=C at o d f n
   dsimp only[RI,Xr,br,ix,vz,wg,vs,ln,Ai,cs,wa,wi,An,br]
   simp only[r,j,hx,Yr,Yv,Ya]
   rw[e,Ya,o,Ya,Yk n,Yk f,Yk l,d]) (by dsimp only[RI,Xr,br,ix,vz,wg,vs,ln,Ai,cs,wa,wi,An,br];simp[r]) (A1 (by omega))
  have w:=FG (B:=RQ v (Jx g)) (N:=Am) (ρ:=Int) v.slots (fun p=>((1+v.raws.length+Br v.list+BN v.pairs+Cb p:Nat):Int)) (fun i b=>(b,i)) id (fun i x hx=>by
   have j:=BM hx
   have l:i+1<9223372036854775808:=by have:=(Yb.1 hx).1;omega
   have hm:=Yi hx
   have e:=PY g x.val (by have:=vP hm;omega) (In k hm)
   have m:=ZyS hx
   rw[ZpB]at m
   have d:((1+v.raws.length+Br v.list+BN v.pairs+Cb (v.slots.take i):Nat):Int)+(cnt x.val:Int)=((1+v.raws.length+Br v.list+BN v.pairs+Cb (v.slots.take i++[x]):Nat):Int):=by
    rw[VF,Cb,Cb,ZpB]
    omega
   have f: -9223372036854775808≤((1+v.raws.length+Br v.list+BN v.pairs+Cb (v.slots.take i):Nat):Int)+(cnt x.val:Int)∧((1+v.raws.length+Br v.list+BN v.pairs+Cb (v.slots.take i):Nat):Int)+(cnt x.val:Int)<9223372036854775808:=by omega
   generalize ((1+v.raws.length+Br v.list+BN v.pairs+Cb (v.slots.take i):Nat):Int)=a at d f⊢
   generalize ((1+v.raws.length+Br v.list+BN v.pairs+Cb (v.slots.take i++[x]):Nat):Int)=b at d⊢
   generalize (cnt x.val:Int)=c at e d f
   dsimp only[RQ,W5,br,ix,vz,wg,vs,ln,Ai,cs,wa,wi,An,br]
   simp only[s,j,hx,Yr,Yv,Ya]
   rw[e,Ya,Yk f,Yk l,d]) (by dsimp only[RQ,W5,br,ix,vz,wg,vs,ln,Ai,cs,wa,wi,An,br];simp[s]) (A1 (by omega))
  simp only[Br,BN,Cb,G3,id]at t u w
  show TV (Jx g) v=_
  dsimp only[TV,dV,de,dG,eM,fs,vz,wg,vs,lr,lc,wa,An]
  simp only[z,A,Yv,t,u,w,Ya,CJ]
  rw[se]
theorem ZJt{s:Scm}(hs:As (Au s)≤1048576)(k:Bool)(n:ByteArray)(v:Val)(b:A2 v):i4 s n v k=some (Km s k n v):=by
 have h:=Fr hs
 have e:KU s n=some (Bf s n):=Zq s _ h.ml
 have f:=Zz4 hs (Bf s n).1 v k (MY h _) b
 have g:=PY Am v (by have i:As (Ag v)≤1048576:=b;exact A1 (by omega)) b
 unfold Km
 dsimp only[i4,dC,br,wg,lr,cl,br]
 rw[e,Ya,f,g]
 cases(Bf s n).2 with
 |false=>simp
 |true=>
  by_cases c:Ba s k 16 (Bf s n).1 v=0
  ·by_cases d:4096<cnt v
   ·have a:(4096:Int)<cnt v:=by omega
    simp[c,d,a]
   ·have a:¬(4096:Int)<cnt v:=by omega
    simp[c,d,a]
  ·simp[c]
theorem ZGh{s:Scm}(hs:As (Au s)≤1048576)(n:ByteArray)(v:Val)(a:A2 v):jF s n v=some (Km s true n v):=by
 dsimp only[jF,bo,wg,lr,cl]
 rw[ZJt hs true n v a]
 rfl
theorem Wu{l:List Fld}(h:Ds l l.length):∀(d i:Nat) (a b:Fld),l[i]?=some a→l[i+1+d]?=some b→a.num<b.num
 |0,i,a,b,e,c=>h i a b (Yb.1 c).1 e c
 |d+1,i,a,b,e,c=>by
  have g:=(Yb.1 c).1
  have f:i+1+d<l.length:=by omega
  have j:=Wu h d i a l[i+1+d] e (Ye f)
  have k:=h (i+1+d) l[i+1+d] b (by omega) (Ye f) c
  omega
theorem ZNh{l:List Fld}(h:Ds l l.length){i:Nat}{f:Fld}(a:l[i]?=some f):∀g∈l.take i,g.num≠f.num:=fun g b=>by
 obtain⟨j,c,rfl⟩:=ac.1 b
 have:=Wu h (i-(j+1)) j _ f (Ye (by omega)) (by rw[show j+1+(i-(j+1))=i by omega];exact a)
 omega
def DfL(F:List Fld):Prop:=∀f∈F,IV f∧A2 f.dflt
theorem ZvT(F:List Fld)(k:Int):((BR F k).2=false∧A7 F k=zF)∨((BR F k).2=true∧A7 F k∈F):=by
 unfold A7 BR C8
 cases e:F.find? fun f=>decide (f.num=k)with
 |none=>exact .inl ⟨rfl,rfl⟩
 |some f=>exact .inr ⟨rfl,I4 e⟩
def zV:Val:=.mk 0 0 ⟨#[]⟩ [] [] [] []
def Bx(l:List Slt)(k:Int):Option Slt:=l.find? fun x=>decide (x.num=k)
theorem Zpg(l:List Slt)(k:Int):Ca l k=(Bx l k).isSome:=by
 unfold Ca Bx
 cases e:l.find? fun x=>decide (x.num=k)with
 |none=>exact SV.2 (SS.1 e)
 |some x=>refine YQ.2 ?_;exact⟨x,I4 e,ax (p:=fun x:Slt=>decide (x.num=k)) e⟩
theorem Zry{F:List Fld}(h:Ds F F.length){i:Nat}{f:Fld}(a:F[i]?=some f):F=F.take i++f::F.drop (i+1)∧(∀g∈F.take i,g.num≠f.num)∧∀g∈F.drop (i+1),g.num≠f.num:=by
 obtain⟨hi,e⟩:=Yb.1 a
 refine⟨?_,ZNh h a,fun g c=>?_⟩
 ·rw[←e,List.getElem_cons_drop,HR]
 ·obtain⟨d,b⟩:=YK.1 c
  rw[Y0]at b
  have:=Wu h d i f g a b
  omega
theorem Nd{F:List Fld}(h:Ds F F.length){i:Nat}{f:Fld}(c:F[i]?=some f):BR F f.num=(f,true):=by
 obtain⟨e,b,j⟩:=Zry h c
 have a:F.find? (fun g=>decide (g.num=f.num))=some f:=by
  rw[e,SW,SS.2 fun g d=>by simpa using b g d]
  simp
 unfold BR C8
 rw[a]
 rfl
theorem ZIR{s:Scm}(h:∀(i:Nat) (m:Msg),s.messages[i]?=some m→GdM s m)(hs:As (Au s)≤1048576)(n:ByteArray):Ds (AY s n) (AY s n).length∧DfL (AY s n)∧(AY s n).length≤1048576:=by
 have hl:=MY (Fr hs) n
 unfold AY C8 at*
 cases e:s.messages.find? fun m=>decide (m.name=n)with
 |none=>exact⟨fun i a b hi=>by simp[zM]at hi,fun f c=>by simp[zM]at c,by simp[zM]⟩
 |some m=>
  rw[e]at hl
  have hm:=I4 e
  obtain⟨i,hi⟩:=YK.1 hm
  have g:=h i m hi
  refine⟨g.asc,fun f c=>?_,hl⟩
  obtain⟨j,k⟩:=YK.1 c
  refine⟨(g.df j f k).1,?_⟩
  have d:=C2 (e:=AU) hm
  have l:=C2 (e:=Az) (show f∈m.fields from c)
  simp only[Au,As,bk]at hs
  simp only[AU,As,bk]at d
  have e:As (Ag f.dflt)≤As (Az f):=by
   simp only[Az,Ag,As,bk]
   omega
  show As (Ag f.dflt)≤1048576
  omega
structure GdF (s:Scm) (f:Fld):Prop where
 en:f.type.kind=9→(Dh s f.type.name).2=true
 ms:f.type.kind=10→(Bf s f.type.name).2=true
 ty:1≤f.type.kind∧f.type.kind≤10
 un:f.union≠⟨#[]⟩→f.card=2
 cd:f.card≠5→1≤f.card∧f.card≤4
 np:f.type.kind=10→f.card≠3
 ky:f.card=5→f.key=1∨f.key=2∨f.key=3∨f.key=4∨f.key=5∨f.key=7
structure GdS (s:Scm):Prop where
 fl:∀(n:ByteArray) (f:Fld),f∈AY s n→GdF s f
 asc:∀n:ByteArray,Ds (AY s n) (AY s n).length
theorem iH{n:Int}{v:Val}(h:DW n v=0):v.kind=n∧BW v=false∧v.text.size≤4096∧Jp n v=true:=by
 unfold DW at h
 by_cases a1:v.kind≠n∨BW v=true
 ·rw[Yk a1]at h;cases h
 ·rw[Ym a1]at h
  by_cases a:4096<v.text.size
  ·rw[Yk a]at h;cases h
  ·rw[Ym a]at h
   cases a3:Jp n v with
   |false=>
    rw[a3]at h
    rw[Ym (by decide)]at h
    split at h<;>cases h
   |true=>
    refine⟨Decidable.not_not.1 fun e=>a1 (.inl e),?_,by omega,rfl⟩
    cases b:BW v with
    |false=>rfl
    |true=>exact absurd (.inr b) a1
theorem K9{F:List Fld}(h:Ds F F.length){g:Fld}(a:g∈F):BR F g.num=(g,true):=by
 obtain⟨i,hi⟩:=YK.1 a
 exact Nd h hi
theorem ZsV{α:Type}[Inhabited α]{l:List α}{z:α}{p:α→Bool}{x:α}(hx:x∈l)(a:p x=true):(C8 l z p).2=true:=by
 unfold C8
 cases e:l.find? p with
 |none=>exact absurd a (SS.1 e x hx)
 |some y=>rfl
theorem ZNN{s:Scm}(h:∀(i:Nat) (m:Msg),s.messages[i]?=some m→GdM s m)(hs:As (Au s)≤1048576):GdS s:=by
 refine⟨fun n f a=>?_,fun n=>(ZIR h hs n).1⟩
 unfold AY C8 at a
 cases e:s.messages.find? fun m=>decide (m.name=n)with
 |none=>rw[e]at a;cases a
 |some m=>
  rw[e]at a
  obtain⟨i,hi⟩:=YK.1 (I4 e)
  obtain⟨j,g⟩:=YK.1 (show f∈m.fields from a)
  obtain⟨_,c,⟨t1,t2,t3⟩,u⟩:=(h i m hi).df j f g
  refine⟨fun k=>?_,fun k=>?_,t3,u,fun k=>⟨(c.1 k).1,(c.1 k).2.1⟩,fun k=>(t2 k).2,c.2⟩
  ·obtain⟨x,b,d⟩:=t1 k
   exact ZsV b (Yn d)
  ·obtain⟨⟨x,b,d⟩,_⟩:=t2 k
   exact ZsV b (Yn d)
theorem Vu{α ξ:Type}{B:Nat→Option (Lv Nat ξ Bool)}{N:Nat}(xs ys:List α)(e:ξ)(hl:xs.length=ys.length)
  (hs:∀(i:Nat) (x y:α),xs[i]?=some x→ys[i]?=some y→∃b:Bool,(b=true↔x=y)∧B i=some (if b=true then .nx (i+1)else .rt false)) (he:B xs.length=some (.ex e)) (hN:xs.length<N):
  Ok (Sum.elim (fun _=>xs=ys) (fun r:Bool=>r=false∧xs≠ys)) (Al B N 0):=by
 refine BC (fun i:Nat=>i≤xs.length∧∀j:Nat,j<i→xs[j]?=ys[j]?) (fun i:Nat=>xs.length-i) ⟨Cv _,fun j c=>absurd c (Y4 _)⟩ (by omega) fun i hi=>?_
 obtain⟨k,d⟩:=hi
 by_cases h:i<xs.length
 ·have hx:=Ye h
  have hy:=Ye (hl▸h:i<ys.length)
  obtain⟨b,f,g⟩:=hs i _ _ hx hy
  rw[g]
  cases b with
  |true=>
   refine⟨_,rfl,⟨⟨h,fun j c=>?_⟩,by show xs.length-(i+1)<xs.length-i;omega⟩⟩
   by_cases a:j=i
   ·subst a
    rw[hx,hy,f.1 rfl]
   ·exact d j (by omega)
  |false=>
   refine⟨_,rfl,rfl,fun a=>?_⟩
   subst a
   exact absurd (f.2 rfl) (by decide)
 ·have a:i=xs.length:=by omega
  subst a
  rw[he]
  refine⟨_,rfl,List.ext_getElem? fun j=>?_⟩
  by_cases c:j<xs.length
  ·exact d j c
  ·rw[YM (by omega),YM (by omega)]
abbrev DJ{α:Type}(x y:α)(o:Option Bool):Prop:=Ok (fun b:Bool=>b=true↔x=y) o
theorem DJ.no{α:Type}{x y:α}(h:x≠y):DJ x y (some false):=⟨false,rfl,Iff.intro (fun e=>absurd e (by decide)) fun e=>absurd e h⟩
theorem DJ.yes{α:Type}{x y:α}(h:x=y):DJ x y (some true):=⟨true,rfl,Iff.intro (fun _=>h) fun _=>rfl⟩
theorem mY{a b:Val}:a=b↔a.kind=b.kind∧a.bits=b.bits∧a.text=b.text∧a.list=b.list∧a.pairs=b.pairs∧a.slots=b.slots∧a.raws=b.raws:=by
 cases a
 cases b
 simp only[Val.kind,Val.bits,Val.text,Val.list,Val.pairs,Val.slots,Val.raws,Val.mk.injEq]
theorem ZRx{a b:Pr}:a=b↔a.key=b.key∧a.val=b.val:=by
 cases a
 cases b
 simp only[Pr.key,Pr.val,Pr.mk.injEq]
theorem ZLy{a b:Slt}:a=b↔a.num=b.num∧a.val=b.val:=by
 cases a
 cases b
 simp only[Slt.num,Slt.val,Slt.mk.injEq]
theorem ZNp{a b:Raw}:a=b↔a.num=b.num∧a.wire=b.wire∧a.bits=b.bits∧a.data=b.data:=by
 cases a
 cases b
 simp only[Raw.mk.injEq]
structure SzL (v:Val):Prop where
 l:v.list.length≤4194304
 p:v.pairs.length≤4194304
 s:v.slots.length≤4194304
 r:v.raws.length≤4194304
theorem SzV.l'{v:Val}(h:SzV v):SzL v:=⟨by have:=h.l;omega,by have:=h.p;omega,by have:=h.s;omega,by have:=h.r;omega⟩
theorem Zp4(R:Val→Val→Option Bool)(a b:Val)(L:SzL a)(z:SzL b)(hl:∀x∈a.list,∀y∈b.list,DJ x y (R x y))(M:∀x∈a.pairs,∀y∈b.pairs,DJ x.key y.key (R x.key y.key)∧DJ x.val y.val (R x.val y.val))(hs:∀x∈a.slots,∀y∈b.slots,DJ x.val y.val (R x.val y.val)):DJ a b (SC R a b):=by
 obtain⟨a1,X,a3,a4⟩:=L
 obtain⟨Y,Z,b3,b4⟩:=z
 have F:a.list.length<4611686018427387904:=by omega
 have G:a.pairs.length<4611686018427387904:=by omega
 have H:a.slots.length<4611686018427387904:=by omega
 have I:a.raws.length<4611686018427387904:=by omega
 have k1:b.list.length<4611686018427387904:=by omega
 have k2:b.pairs.length<4611686018427387904:=by omega
 have k3:b.slots.length<4611686018427387904:=by omega
 have k4:b.raws.length<4611686018427387904:=by omega
 have O:a.list.length=b.list.length→Ok (Sum.elim (fun _=>a.list=b.list) (fun r:Bool=>r=false∧a.list≠b.list)) (Al (OR a b R) Am 0):=fun e=>Vu a.list b.list () e (fun i x y hx hy=>by
  have d:=BM hx
  have g:i+1<9223372036854775808:=by have:=(Yb.1 hx).1;omega
  obtain⟨r,f,k⟩:=hl x (Yi hx) y (Yi hy)
  refine⟨r,k,?_⟩
  dsimp only[OR,TJ,br,ix,vz,wg,vs,Ay,ln,Ai,cs,wa,An,br]
  simp only[F,d,hx,hy,Yr,Yv,Ya]
  rw[f]
  cases r<;>simp[g]) (by dsimp only[OR,TJ,br,ix,vz,wg,vs,Ay,ln,Ai,cs,wa,An,br];simp[F]) (A1 (by omega))
 have P:a.pairs.length=b.pairs.length→Ok (Sum.elim (fun _=>a.pairs=b.pairs) (fun r:Bool=>r=false∧a.pairs≠b.pairs)) (Al (O6 a b R) Am 0):=fun e=>Vu a.pairs b.pairs () e (fun i x y hx hy=>by
  have d:=BM hx
  have g:i+1<9223372036854775808:=by have:=(Yb.1 hx).1;omega
  have q:=BM hy
  have s:a.pairs.getD i Rw.z=x:=by rw[Yg,hx];rfl
  have u:b.pairs.getD i Rw.z=y:=by rw[Yg,hy];rfl
  have v:(0:Int)≤i∧(i:Int)<a.pairs.length:=⟨by omega,d⟩
  have w:(0:Int)≤i∧(i:Int)<b.pairs.length:=⟨by omega,q⟩
  obtain⟨⟨r,f,k⟩,⟨t,p,N⟩⟩:=M x (Yi hx) y (Yi hy)
  refine⟨r&&t,by rw[Yc,k,N,ZRx],?_⟩
  dsimp only[O6,UL,br,ix,A0,vz,wg,vs,Ay,ln,Ai,cs,J0,wa,An,br]
  simp only[G,d,hx,hy,s,u,v,w,YV,Yr,Yv,Ya,Ck,D5]
  rw[f,p]
  cases r<;>cases t<;>simp[g]) (by dsimp only[O6,UL,br,ix,A0,vz,wg,vs,Ay,ln,Ai,cs,J0,wa,An,br];simp[G]) (A1 (by omega))
 have Q:a.slots.length=b.slots.length→Ok (Sum.elim (fun _=>a.slots=b.slots) (fun r:Bool=>r=false∧a.slots≠b.slots)) (Al (OM a b R) Am 0):=fun e=>Vu a.slots b.slots () e (fun i x y hx hy=>by
  have d:=BM hx
  have g:i+1<9223372036854775808:=by have:=(Yb.1 hx).1;omega
  have q:=BM hy
  have s:a.slots.getD i Rw.z=x:=by rw[Yg,hx];rfl
  have u:b.slots.getD i Rw.z=y:=by rw[Yg,hy];rfl
  have v:(0:Int)≤i∧(i:Int)<a.slots.length:=⟨by omega,d⟩
  have w:(0:Int)≤i∧(i:Int)<b.slots.length:=⟨by omega,q⟩
  obtain⟨r,f,k⟩:=hs x (Yi hx) y (Yi hy)
  refine⟨decide (x.num=y.num)&&r,by rw[Yc,YB,k,ZLy],?_⟩
  dsimp only[OM,UB,br,ix,A0,vz,wg,vs,Ay,ln,Ai,J0,wa,An,br]
  simp only[H,d,hx,hy,s,u,v,w,YV,Yr,Yv,Ya,Ck,D5]
  rw[f]
  cases r<;>cases decide (x.num=y.num)<;>simp[g]) (by dsimp only[OM,UB,br,ix,A0,vz,wg,vs,Ay,ln,Ai,J0,wa,An,br];simp[H]) (A1 (by omega))
 have S:a.raws.length=b.raws.length→Ok (Sum.elim (fun _=>a.raws=b.raws) (fun r:Bool=>r=false∧a.raws≠b.raws)) (Al (OW a b R) Am 0):=fun e=>Vu a.raws b.raws () e (fun i x y hx hy=>by
  have d:=BM hx
  have g:i+1<9223372036854775808:=by have:=(Yb.1 hx).1;omega
  refine⟨decide (x.num=y.num)&&(decide (x.wire=y.wire)&&(decide (x.bits=y.bits)&&decide (x.data=y.data))),by simp only[Yc,YB,ZNp],?_⟩
  dsimp only[OW,Uk,br,ix,vz,wg,vs,Ay,ln,Ai,wa,An,br]
  simp only[I,d,hx,hy,Yr,Yv,Ya,Ot]
  cases decide (x.num=y.num)&&(decide (x.wire=y.wire)&&(decide (x.bits=y.bits)&&decide (x.data=y.data)))<;>simp[g]) (by dsimp only[OW,Uk,br,ix,vz,wg,vs,Ay,ln,Ai,wa,An,br];simp[I]) (A1 (by omega))
 dsimp only[SC,aU,hM,hH,iE,iM,gX,br,vy,wg,lr,lc,An,br]
 by_cases c:a.kind=b.kind∧a.bits=b.bits∧a.text=b.text∧a.list.length=b.list.length∧a.pairs.length=b.pairs.length∧a.slots.length=b.slots.length∧a.raws.length=b.raws.length
 ·obtain⟨A,B,j,C,D,c6,E⟩:=c
  obtain⟨T,f,l⟩:=O C
  obtain⟨U,p,m⟩:=P D
  obtain⟨V,J,n⟩:=Q c6
  obtain⟨W,K,o⟩:=S E
  simp only[A,B,j,C,D,c6,E,Yr,YZ,SZ,Yo,YN,f,p,J,K,Ya]
  cases T with
  |inr y=>
   obtain⟨rfl,l⟩:=l
   exact DJ.no fun h=>l (by rw[h])
  |inl y=>
  cases U with
  |inr y=>
   obtain⟨rfl,m⟩:=m
   exact DJ.no fun h=>m (by rw[h])
  |inl y=>
  cases V with
  |inr y=>
   obtain⟨rfl,n⟩:=n
   exact DJ.no fun h=>n (by rw[h])
  |inl y=>
  cases W with
  |inr y=>
   obtain⟨rfl,o⟩:=o
   exact DJ.no fun h=>o (by rw[h])
  |inl y=>exact DJ.yes (mY.2 ⟨A,B,j,l,m,n,o⟩)
 ·have z:((((((!decide (a.kind=b.kind))||(!decide (a.bits=b.bits)))||(!decide (a.text=b.text)))||(!decide ((a.list.length:Int)=(b.list.length:Int))))||(!decide ((a.pairs.length:Int)=(b.pairs.length:Int))))||(!decide ((a.slots.length:Int)=(b.slots.length:Int)))||(!decide ((a.raws.length:Int)=(b.raws.length:Int))))=true:=by
   by_cases j:a.text=b.text
   ·simp only[YH,YJ,YL]
    simp only[j,HT]at c
    omega
   ·simp[j]
  rw[z]
  exact DJ.no fun h=>c (by rw[h];exact⟨rfl,rfl,rfl,rfl,rfl,rfl,rfl⟩)
theorem RZ:∀(c:Nat) (a b:Val),As (Ag a)<c→A2 a→A2 b→DJ a b (Jv c a b)
 |0,a,b,h,_,_=>by omega
 |c+1,a,b,h,d,e=>Zp4 (Jv c) a b (Cr d).l' (Cr e).l'
  (fun x hx y hy=>RZ c x y (by have:=vX hx;omega) (NP d hx) (NP e hy))
  (fun x hx y hy=>⟨RZ c x.key y.key (by have:=(XQ hx).1;omega) (GE d hx).1 (GE e hy).1,RZ c x.val y.val (by have:=(XQ hx).2;omega) (GE d hx).2 (GE e hy).2⟩)
  (fun x hx y hy=>RZ c x.val y.val (by have:=vP hx;omega) (In d hx) (In e hy))
theorem wd{a b:Val}(c:A2 a)(d:A2 b):DJ a b (Jv Am a b):=RZ Am a b (by have h:As (Ag a)≤1048576:=c;exact A1 (by omega)) c d
end Go.Proofs.YtjbijbkdiijhaaaGreat
