import Derived.Test.YtjbijbkdiijhaaaGreatZb21
import Derived.Sort.Walk0
import Derived.Test.YtjbijbkdiijhaaaGreatZb00
namespace Go.Proofs.YtjbijbkdiijhaaaGreat
set_option linter.all false
open Go Go.Eng
theorem M7{n:Nat}(h:n<18446744073709551616):IntKind.u64.wrap (n:Int)=n:=by
 unfold IntKind.wrap
 have:(IntKind.u64.bits)=64:=rfl
 simp only[this,show IntKind.u64.signed=false from rfl,EA,Yo,YR]
 omega
theorem Nj(n:Nat):BitVec.ofInt 64 (n:Int)=BitVec.ofNat 64 n:=BitVec.ofInt_natCast ..
theorem lh{n m:Nat}(a:n<18446744073709551616)(hm:m<18446744073709551616):Dq .u64 (n:Int) (m:Int)=((n&&&m:Nat):Int):=by
 unfold Dq
 have h:(BitVec.ofInt 64 (n:Int)&&&BitVec.ofInt 64 (m:Int)).toNat=n&&&m:=by
  rw[Nj,Nj,BitVec.toNat_and,OI,OI,Ke a,Ke hm]
 show IntKind.u64.wrap (((BitVec.ofInt 64 (n:Int)&&&BitVec.ofInt 64 (m:Int)).toNat:Nat):Int)=_
 rw[h]
 exact M7 (Nat.lt_of_le_of_lt Nat.and_le_left a)
theorem ZHE{n m:Nat}(a:n<18446744073709551616)(hm:m<18446744073709551616):GW .u64 (n:Int) (m:Int)=((n|||m:Nat):Int):=by
 unfold GW
 have h:(BitVec.ofInt 64 (n:Int)|||BitVec.ofInt 64 (m:Int)).toNat=n|||m:=by
  rw[Nj,Nj,BitVec.toNat_or,OI,OI,Ke a,Ke hm]
 show IntKind.u64.wrap (((BitVec.ofInt 64 (n:Int)|||BitVec.ofInt 64 (m:Int)).toNat:Nat):Int)=_
 rw[h]
 exact M7 (Nat.or_lt_two_pow (n:=64) a hm)
theorem ZBt{n:Nat}(a:n<18446744073709551616):Jr .u64 (n:Int)=((18446744073709551615-n:Nat):Int):=by
 unfold Jr Mh
 have e:(if IntKind.u64.signed=true then(-1:Int)else IntKind.u64.max)=((18446744073709551615:Nat):Int):=rfl
 rw[e]
 have h:(BitVec.ofInt 64 ((18446744073709551615:Nat):Int)^^^BitVec.ofInt 64 (n:Int)).toNat=18446744073709551615-n:=by
  rw[Nj,Nj,show BitVec.ofNat 64 18446744073709551615=BitVec.allOnes 64 from rfl,BitVec.allOnes_xor,BitVec.toNat_not,OI,Ke a]
 show IntKind.u64.wrap (((BitVec.ofInt 64 ((18446744073709551615:Nat):Int)^^^BitVec.ofInt 64 (n:Int)).toNat:Nat):Int)=_
 rw[h]
 exact M7 (by omega)
theorem ZKD(n:Nat):n&&&9218868437227405312=(n/4503599627370496%2048)*4503599627370496:=by
 have e:(9218868437227405312:Nat)=2047<<<52:=rfl
 have a:n/4503599627370496%2048*4503599627370496=((n>>>52)%2^11)<<<52:=by
  rw[Nat.shiftLeft_eq,Nat.shiftRight_eq_div_pow]
 rw[e,a]
 apply Nat.eq_of_testBit_eq
 intro i
 have b:(2047:Nat)=2^11-1:=rfl
 rw[Nat.testBit_and,ro,ro,Nat.testBit_mod_two_pow,Nat.testBit_shiftRight,b,Nat.testBit_two_pow_sub_one]
 by_cases h:52≤i
 ·rw[show 52+(i-52)=i by omega]
  simp only[h,Yr,FA]
  rw[Bool.and_comm]
 ·simp[h]
theorem Zx7(n:Nat):n&&&4503599627370495=n%4503599627370496:=Nat.and_two_pow_sub_one_eq_mod n 52
theorem ZBw{n:Nat}(b:n<18446744073709551616):n&&&9223372036854775808=if 9223372036854775808≤n then 9223372036854775808 else 0:=by
 have e:(9223372036854775808:Nat)=2^63:=rfl
 have k:n.testBit 63=decide (9223372036854775808≤n):=by
  rw[Nat.testBit_eq_decide_div_mod_eq,decide_eq_decide]
  omega
 apply Nat.eq_of_testBit_eq
 intro i
 rw[Nat.testBit_and]
 by_cases hi:63=i
 ·subst hi
  rw[k]
  by_cases h:9223372036854775808≤n
  ·simp[h]
  ·simp[h]
 ·have a:Nat.testBit 9223372036854775808 i=false:=by
   rw[e,Nat.testBit_two_pow]
   exact Yq hi
  rw[a,Mf]
  split
  ·exact a.symm
  ·simp
def H2(n:Nat):Bool:=decide (9218868437227405312<n%9223372036854775808)
theorem ZVE{n:Nat}(e:n<18446744073709551616):Ok (fun y:Int=>decide (y=0)=H2 n) (j9 (n:Int)):=by
 have a:=lh e (m:=9218868437227405312) (by omega)
 have b:=lh e (m:=4503599627370495) (by omega)
 rw[ZKD]at a
 rw[Zx7]at b
 have a:Dq .u64 (n:Int) 9218868437227405312=_:=a
 have b:Dq .u64 (n:Int) 4503599627370495=_:=b
 dsimp only[j9,po,br,vz,lr,br]
 rw[a,b]
 unfold H2
 have f:(((n/4503599627370496%2048*4503599627370496:Nat):Int)=9218868437227405312)↔n/4503599627370496%2048=2047:=by omega
 have g:(((n%4503599627370496:Nat):Int)=0)↔n%4503599627370496=0:=by omega
 have h:9218868437227405312<n%9223372036854775808↔n/4503599627370496%2048=2047∧n%4503599627370496≠0:=by omega
 simp only[f,g,h]
 by_cases c:n/4503599627370496%2048=2047
 ·by_cases d:n%4503599627370496=0
  ·simp only[c,d];exact AM (by decide)
  ·simp only[c,d];exact AM (by simp[d])
 ·have i:decide (n/4503599627370496%2048=2047)=false:=Yq c
  simp only[i,c,EA,OT,YV,Yo,YR]
  refine AS (fun _=>AM (by decide)) fun _=>AS (fun _=>AM (by decide)) fun _=>AM (by decide)
theorem x8{n:Nat}(b:n<18446744073709551616):Ok (fun y:Int=>decide (y=0)=H2 n) (Px (n:Int)):=by
 have e:Jk .u64 (n:Int) 9223372036854775808=((n%9223372036854775808:Nat):Int):=by
  unfold Jk
  rw[Int.tmod_eq_emod_of_nonneg (by omega)]
  omega
 dsimp only[Px,Wy,br,lr,br,rem]
 rw[e]
 unfold H2
 have g:(9218868437227405312:Int)<((n%9223372036854775808:Nat):Int)↔9218868437227405312<n%9223372036854775808:=by omega
 simp only[g]
 by_cases h:9218868437227405312<n%9223372036854775808
 ·simp only[h];first|exact AM (by decide)|simp
 ·have a:decide (9218868437227405312<n%9223372036854775808)=false:=Yq h
  simp only[a,Yo,YR]
  first
   |refine AS (fun _=>AM (by decide)) fun _=>AS (fun _=>AM (by decide)) fun _=>AS (fun _=>AM (by decide)) fun _=>AM (by decide)
   |simp
end Go.Proofs.YtjbijbkdiijhaaaGreat
namespace Go.Proofs.YtjbijbkdiijhaaaGreat
set_option linter.all false
open Go Go.Eng
def GY(n:Nat):Nat:=if H2 n=true then 18446744073709551615 else if 9223372036854775808≤n then 18446744073709551615-n else n+9223372036854775808
theorem yc{n:Nat}(a:n<18446744073709551616):kb (n:Int)=some (GY n:Int):=by
 obtain⟨y,e,h⟩:=ZVE a
 have c:=lh a (m:=9223372036854775808) (by omega)
 rw[ZBw a]at c
 have c:Dq .u64 (n:Int) 9223372036854775808=_:=c
 have d:=ZBt a
 have f:GW .u64 (n:Int) 9223372036854775808=((n|||9223372036854775808:Nat):Int):=ZHE a (m:=9223372036854775808) (by omega)
 dsimp only[kb,n0,br,vz,lr,cl,br]
 rw[e,Yc,h,c,d,f]
 unfold GY
 cases H2 n with
 |true=>rfl
 |false=>
  by_cases hs:9223372036854775808≤n
  ·simp[hs]
  ·have g:n|||9223372036854775808=n+9223372036854775808:=by
    have j:=Nat.two_pow_add_eq_or_of_lt (i:=63) (b:=n) (by omega) 1
    rw[Nat.or_comm]
    have k:9223372036854775808+n=9223372036854775808|||n:=j
    exact k.symm.trans (OF _ _)
   simp[hs,g]
theorem yD{v:Val}{n:Nat}(i:n<18446744073709551616)(g:v.bits=(n:Int)):jv v=some (if v.kind=2∨v.kind=3 then IntKind.u64.wrap ((n:Int)+9223372036854775808)else if v.kind=6 then(GY n:Int)else(n:Int)):=by
 obtain⟨y,e,h⟩:=x8 i
 dsimp only[jv,nF,kE,br,vz,wg,lr,cl,br,yW,n9,lr]
 rw[g]
 by_cases a:v.kind=2∨v.kind=3
 ·have b:(decide (v.kind=2)||decide (v.kind=3))=true:=by simpa using a
  simp only[b,a,Yv]
  rfl
 ·have b:(decide (v.kind=2)||decide (v.kind=3))=false:=by simpa using a
  simp only[b,a,Yo,YR]
  by_cases f:v.kind=6
  ·have j:=M7 (n:=18446744073709551615-n) (by omega)
   simp only[f,Yr,Y6,Yo,YR,e,Yc,h]
   unfold GY
   cases H2 n with
   |true=>rfl
   |false=>
    by_cases hs:9223372036854775808≤n
    ·have c:(9223372036854775808:Int)≤(n:Int):=by omega
     have d:(18446744073709551615:Int)-(n:Int)=((18446744073709551615-n:Nat):Int):=by omega
     simp[hs,c,d,j]
    ·have c:¬(9223372036854775808:Int)≤(n:Int):=by omega
     have d:(n:Int)+9223372036854775808=((n+9223372036854775808:Nat):Int):=by omega
     have w2:=M7 (n:=n+9223372036854775808) (by omega)
     simp only[hs,c,d,w2,YV,Yo,YR,Yv]
  ·simp[f]
def BL(a b:Int):Int:=if a<b then -1 else if b<a then 1 else 0
theorem Va(a b:Int):jY a b=some (BL a b):=by
 dsimp only[jY,bx,br,lr,cl,br,y8,gh,lr]
 unfold BL
 by_cases h:a<b
 ·simp[h]
 ·by_cases c:b<a<;>simp[h,c]
theorem yQ(a b:Int):ju a b=some (BL a b):=by
 dsimp only[ju,mM,br,lr,cl,br,y3,pJ,lr]
 unfold BL
 by_cases h:a<b
 ·simp[h]
 ·by_cases c:b<a<;>simp[h,c]
theorem ZVw(a b:Int):jH a b=some (BL a b):=by
 dsimp only[jH,mg,br,lr,br]
 unfold BL
 by_cases h:a<b
 ·simp[h]
 ·by_cases c:b<a<;>simp[h,c]
def ET(a b:ByteArray):Int:=if BM a b=true then -1 else if a=b then 0 else 1
theorem u6(a b:ByteArray):decide (ET a b=0)=decide (a=b):=by
 unfold ET
 by_cases h:a=b
 ·subst h
  have:BM a a=false:=by
   unfold BM
   rw[Go.Proofs.bytesLess_eq]
   exact Yq (List.lt_irrefl _)
  simp[this]
 ·cases BM a b<;>simp[h]
theorem ZUU(a b:ByteArray):jt a b=some (ET a b):=by
 dsimp only[jt,pM,br,lr,cl,br,yU,pX,lr]
 unfold ET
 cases h:BM a b with
 |true=>simp
 |false=>by_cases c:a=b<;>simp[c]
theorem yP{α ρ:Type}{B:Int×Int×List α→Option (Lv (Int×Int×List α) (Int×List α) ρ)}(l:List α)(p:α→Bool)
  (s:∀(i j:Nat) (r:List α) x,i≤j→r.length=l.length→r[j]?=some x→l[j]?=some x→B ((i:Int),(j:Int),r)=some (.nx (if p x then((i:Int),((j+1:Nat):Int),r)else(((i+1:Nat):Int),((j+1:Nat):Int),r.set i x))))
  (t:∀(i:Nat) r,B ((i:Int),(l.length:Int),r)=some (.ex ((i:Int),r))):
  ∀(k N i j:Nat) (r:List α),j+k=l.length→k<N→i≤j→r.length=l.length→r.take i=(l.take j).filter (fun x=>!p x)→i=((l.take j).filter fun x=>!p x).length→r.drop j=l.drop j→
  ∃(n:Nat) (o:List α),Am B N ((i:Int),(j:Int),r)=some (.inl ((n:Int),o))∧o.take n=l.filter (fun x=>!p x)∧n=(l.filter fun x=>!p x).length∧o.length=l.length:=by
 intro k
 induction k with
 |zero=>
  intro N i j r u hN b c d hi e
  obtain⟨N,rfl⟩:∃m,N=m+1:=⟨N-1,by omega⟩
  have:j=l.length:=by omega
  subst this
  rw[L7]at d hi
  exact⟨i,r,by rw[Am,t],d,hi,c⟩
 |succ k q=>
  intro N i j r u hN b c d hi e
  obtain⟨N,rfl⟩:∃m,N=m+1:=⟨N-1,by omega⟩
  have a:j<l.length:=by omega
  have hl:l[j]?=some l[j]:=Ye a
  have h:r[j]?=some l[j]:=by
   have:=congrArg (fun z=>z[0]?) e
   simpa[Y3,a]using this
  have e0:l.take (j+1)=l.take j++[l[j]]:=Y8 a
  rw[Am,s i j r l[j] b c h hl]
  cases f:p l[j]with
  |true=>
   refine q N i (j+1) r (by omega) (by omega) (by omega) c ?_ ?_ ?_
   ·rw[e0,Ec,d];simp[f]
   ·rw[e0,Ec];simpa[f]using hi
   ·have:=congrArg (List.drop 1) e
    simpa[OR]using this
  |false=>
   have g:i<r.length:=by omega
   refine q N (i+1) (j+1) (r.set i l[j]) (by omega) (by omega) (by omega) (by rw[OQ];exact c) ?_ ?_ ?_
   ·rw[e0,Ec,←d,Y8 (by rw[OQ];exact g),List.take_set_of_le (Yf _),rx]
    simp[f]
   ·rw[e0,Ec,Yt,←hi]
    simp[f]
   ·rw[List.drop_set_of_lt (by omega)]
    have:=congrArg (List.drop 1) e
    simpa[OR]using this
theorem wW(l:List Slt)(f:Slt→Option Bool)(p:Slt→Bool)(d:∀x∈l,f x=some (p x))(h:l.length<4611686018427387904):Pw l f=some (C5 l p):=by
 unfold Pw
 simp only[P7,Qb,P4,Qq,al,Fr,D5,br,ix,CI,vz,vy,vw,vs,vg,v2,lr,AA,ln,Ai,lc,lf,Et,ap,aq,a0,a1,ad,cl,cs,cf,wa,wi,ir,ca,cp,dd,mv,st,ss,sL,Bd.c,Bd.vl,sR,AI]
 rw[Fa l p (fun i=>(i:Int)) () (hN:=A2 h) (he:=by simp[Wo,P7,Qb,P4,Qq,al,Fr,D5,br,ix,CI,vz,vy,vw,vs,vg,v2,lr,AA,ln,Ai,lc,lf,Et,ap,aq,a0,a1,ad,cl,cs,cf,wa,wi,ir,ca,cp,dd,mv,st,ss,sL,Bd.c,Bd.vl,sR,AI]) (hs:=by
  intro i y hy
  obtain⟨a,rfl⟩:=Ya.1 hy
  have b:i+1<9223372036854775808:=by omega
  have c:=d l[i] (Yi hy)
  simp[Wo,P7,Qb,P4,Qq,al,Fr,D5,br,ix,CI,vz,vy,vw,vs,vg,v2,lr,AA,ln,Ai,lc,lf,Et,ap,aq,a0,a1,ad,cl,cs,cf,wa,wi,ir,ca,cp,dd,mv,st,ss,sL,Bd.c,Bd.vl,sR,AI,a,b,c]
  cases p l[i]<;>rfl)]
 unfold C5
 cases l.findIdx? _<;>rfl
theorem n41(l:List Slt)(f:Slt→Option Bool)(p:Slt→Bool)(g:∀x∈l,f x=some (p x))(h:l.length<549755813888):Pv l f=some (l.filter fun x=>!p x):=by
 have e0:=wW l f p g (by omega)
 unfold Pv
 dsimp only[dP,ci,vw,vs,vg,vz,cs,br,lr,lf,lc,wi]
 rw[e0,Yc]
 cases hi:l.findIdx? p with
 |none=>
  rw[show C5 l p= -1 from by unfold C5;rw[hi]]
  rw[show l.filter (fun x=>!p x)=l from Tc.2 fun x hx=>by rw[L8.1 hi x hx];rfl]
  rfl
 |some i=>
  obtain⟨s,t,u⟩:=Mc.1 hi
  rw[show C5 l p=(i:Int)from by unfold C5;rw[hi]]
  have a:((i:Int)= -1)=False:=eq_false (by omega)
  have k: -9223372036854775808≤(i:Int)+1∧(i:Int)+1<9223372036854775808:=by omega
  have w:(l.take i).filter (fun x=>!p x)=l.take i:=Tc.2 fun x hx=>by
   obtain⟨j,G,rfl⟩:=aK.1 hx
   rw[ao.2 (u j (by omega))];rfl
  have e:(l.take (i+1)).filter (fun x=>!p x)=l.take i:=by rw[Y8 s,Ec,w];simp[t]
  obtain⟨b,D,y,z,A,C⟩:=yP (B:=Se l f) l p (fun i j r x v H hx hl=>by
    have F:=(Ya.1 hl).1
    have o:(j:Int)<(l.length:Int):=by omega
    have q:=g x (Yi hl)
    have E: -9223372036854775808≤(i:Int)+1∧(i:Int)+1<9223372036854775808:=by omega
    have w2: -9223372036854775808≤(j:Int)+1∧(j:Int)+1<9223372036854775808:=by omega
    have c:(0:Int)≤(j:Int):=by omega
    have d:(0:Int)≤(i:Int):=by omega
    have m:(i:Int)<(l.length:Int):=by omega
    have n:i<r.length:=by omega
    dsimp only[Se,XN,al,Fr,D5,br,ix,CI,vz,vy,vw,vs,vg,v2,lr,AA,ln,Ai,lc,lf,Et,ap,aq,a0,a1,ad,cl,cs,cf,wa,wi,ir,ca,cp,dd,mv,st,ss,sL,Bd.c,Bd.vl,sR,AI,Oc,Od,Oa,Oe,rb,cr,J9,ch]
    simp only[BY,AI,o,q,E,w2,c,d,m,n,hx,Cw,OS,HT,Yr,Yv,Y0,Yc]
    cases p x<;>simp)
   (fun i r=>by
    dsimp only[Se,XN,al,Fr,D5,br,ix,CI,vz,vy,vw,vs,vg,v2,lr,AA,ln,Ai,lc,lf,Et,ap,aq,a0,a1,ad,cl,cs,cf,wa,wi,ir,ca,cp,dd,mv,st,ss,sL,Bd.c,Bd.vl,sR,AI,Oc,Od,Oa,Oe,rb,cr,J9,ch]
    simp)
   (l.length-(i+1)) Al i (i+1) l (by omega) (A2 (by omega)) (by omega) rfl e.symm (by rw[e,YD];omega) rfl
  rw[show((i:Int)+1)=((i+1:Nat):Int)from rfl]at k⊢
  simp only[a,k,y,YV,Yr,Yo,Cw,Yv,YR,Yc,CV]
  have c:b≤l.length:=by rw[A];exact Mb _ _
  have d:(b:Int)=((D.take b).length:Int):=by rw[YD];omega
  simp[ba,z,C,al,Fr,D5,br,ix,CI,vz,vy,vw,vs,vg,v2,lr,AA,ln,Ai,lc,lf,Et,ap,aq,a0,a1,ad,cl,cs,cf,wa,wi,ir,ca,cp,dd,mv,st,ss,sL,Bd.c,Bd.vl,sR,AI,Oc,Od,Oa,Oe,rb,cr,J9,ch]
  omega
theorem m58(l:List Fld)(h:l.length<549755813888):Vt l=some l:=by
 unfold Vt
 simp only[eE,al,Fr,D5,br,ix,CI,vz,vy,vw,vs,vg,v2,lr,AA,ln,Ai,lc,lf,Et,ap,aq,a0,a1,ad,cl,cs,cf,wa,wi,ir,ca,cp,dd,mv,st,ss,sL,Bd.c,Bd.vl,sR,AI,Yo,YR,h,Yv]
theorem ZTe(l:List Fld)(f:Fld→Option Bool)(p:Fld→Bool)(d:∀x∈l,f x=some (p x))(h:l.length<4611686018427387904):Vl l f=some (C5 l p):=by
 unfold Vl
 simp only[Qo,Qm,Qp,P6,al,Fr,D5,br,ix,CI,vz,vy,vw,vs,vg,v2,lr,AA,ln,Ai,lc,lf,Et,ap,aq,a0,a1,ad,cl,cs,cf,wa,wi,ir,ca,cp,dd,mv,st,ss,sL,Bd.c,Bd.vl,sR,AI]
 rw[Fa l p (fun i=>(i:Int)) () (hN:=A2 h) (he:=by simp[We,Qo,Qm,Qp,P6,al,Fr,D5,br,ix,CI,vz,vy,vw,vs,vg,v2,lr,AA,ln,Ai,lc,lf,Et,ap,aq,a0,a1,ad,cl,cs,cf,wa,wi,ir,ca,cp,dd,mv,st,ss,sL,Bd.c,Bd.vl,sR,AI]) (hs:=by
  intro i y hy
  obtain⟨a,rfl⟩:=Ya.1 hy
  have b:i+1<9223372036854775808:=by omega
  have c:=d l[i] (Yi hy)
  simp[We,Qo,Qm,Qp,P6,al,Fr,D5,br,ix,CI,vz,vy,vw,vs,vg,v2,lr,AA,ln,Ai,lc,lf,Et,ap,aq,a0,a1,ad,cl,cs,cf,wa,wi,ir,ca,cp,dd,mv,st,ss,sL,Bd.c,Bd.vl,sR,AI,a,b,c]
  cases p l[i]<;>rfl)]
 unfold C5
 cases l.findIdx? _<;>rfl
theorem m57(l:List Fld)(f:Fld→Option Bool)(p:Fld→Bool)(g:∀x∈l,f x=some (p x))(h:l.length<549755813888):Vk l f=some (l.filter fun x=>!p x):=by
 have e0:=ZTe l f p g (by omega)
 unfold Vk
 dsimp only[eF,eC,vw,vs,vg,vz,cs,br,lr,lf,lc,wi]
 rw[e0,Yc]
 cases hi:l.findIdx? p with
 |none=>
  rw[show C5 l p= -1 from by unfold C5;rw[hi]]
  rw[show l.filter (fun x=>!p x)=l from Tc.2 fun x hx=>by rw[L8.1 hi x hx];rfl]
  rfl
 |some i=>
  obtain⟨s,t,u⟩:=Mc.1 hi
  rw[show C5 l p=(i:Int)from by unfold C5;rw[hi]]
  have a:((i:Int)= -1)=False:=eq_false (by omega)
  have k: -9223372036854775808≤(i:Int)+1∧(i:Int)+1<9223372036854775808:=by omega
  have w:(l.take i).filter (fun x=>!p x)=l.take i:=Tc.2 fun x hx=>by
   obtain⟨j,G,rfl⟩:=aK.1 hx
   rw[ao.2 (u j (by omega))];rfl
  have e:(l.take (i+1)).filter (fun x=>!p x)=l.take i:=by rw[Y8 s,Ec,w];simp[t]
  obtain⟨b,D,y,z,A,C⟩:=yP (B:=R6 l f) l p (fun i j r x v H hx hl=>by
    have F:=(Ya.1 hl).1
    have o:(j:Int)<(l.length:Int):=by omega
    have q:=g x (Yi hl)
    have E: -9223372036854775808≤(i:Int)+1∧(i:Int)+1<9223372036854775808:=by omega
    have w2: -9223372036854775808≤(j:Int)+1∧(j:Int)+1<9223372036854775808:=by omega
    have c:(0:Int)≤(j:Int):=by omega
    have d:(0:Int)≤(i:Int):=by omega
    have m:(i:Int)<(l.length:Int):=by omega
    have n:i<r.length:=by omega
    dsimp only[R6,Zz,al,Fr,D5,br,ix,CI,vz,vy,vw,vs,vg,v2,lr,AA,ln,Ai,lc,lf,Et,ap,aq,a0,a1,ad,cl,cs,cf,wa,wi,ir,ca,cp,dd,mv,st,ss,sL,Bd.c,Bd.vl,sR,AI,Oc,Od,Oa,Oe,rb,cr,J9,ch]
    simp only[BY,AI,o,q,E,w2,c,d,m,n,hx,Cw,OS,HT,Yr,Yv,Y0,Yc]
    cases p x<;>simp)
   (fun i r=>by
    dsimp only[R6,Zz,al,Fr,D5,br,ix,CI,vz,vy,vw,vs,vg,v2,lr,AA,ln,Ai,lc,lf,Et,ap,aq,a0,a1,ad,cl,cs,cf,wa,wi,ir,ca,cp,dd,mv,st,ss,sL,Bd.c,Bd.vl,sR,AI,Oc,Od,Oa,Oe,rb,cr,J9,ch]
    simp)
   (l.length-(i+1)) Al i (i+1) l (by omega) (A2 (by omega)) (by omega) rfl e.symm (by rw[e,YD];omega) rfl
  rw[show((i:Int)+1)=((i+1:Nat):Int)from rfl]at k⊢
  simp only[a,k,y,YV,Yr,Yo,Cw,Yv,YR,Yc,CV]
  have c:b≤l.length:=by rw[A];exact Mb _ _
  have d:(b:Int)=((D.take b).length:Int):=by rw[YD];omega
  simp[gb,z,C,al,Fr,D5,br,ix,CI,vz,vy,vw,vs,vg,v2,lr,AA,ln,Ai,lc,lf,Et,ap,aq,a0,a1,ad,cl,cs,cf,wa,wi,ir,ca,cp,dd,mv,st,ss,sL,Bd.c,Bd.vl,sR,AI,Oc,Od,Oa,Oe,rb,cr,J9,ch]
  omega
theorem m29(m:Msg)(u:ByteArray)(h:m.fields.length≤1048576)(a:u≠⟨#[]⟩):Vm m u=some (m.fields.filter fun f=>decide (f.union=u)):=by
 dsimp only[Vm,fw,fc,dD,ej,cF,br,vz,wg,lr,lc,fl,fr,br]
 rw[m58 _ (by omega),Yc,m57 _ (fun z=>Vq z u) (fun f=>!decide (f.union=u)) (fun x _=>rfl) (by omega)]
 simp[a]
theorem ZU3(m:Msg):Vm m ⟨#[]⟩=some []:=rfl
theorem lH{v:Val}(h:SzV v):jV v=some (Cq v):=by
 obtain⟨t1,t2,t3,t4,t5⟩:=h
 have e:v.list.length<4611686018427387904:=by omega
 have f:v.pairs.length<4611686018427387904:=by omega
 have g:v.slots.length<4611686018427387904:=by omega
 have i:v.raws.length<4611686018427387904:=by omega
 have key:∀a b c:Bool,(if a=true then some true else if b=true then some true else some c)=some (a||b||c):=fun a b c=>by cases a<;>cases b<;>rfl
 dsimp only[jV,py,br,vz,vy,wg,lr,An,br]
 rw[key]
 congr 1
 unfold Cq
 rw[aT]
 by_cases d:v.text=⟨#[]⟩<;>simp only[d,Yr,YV,YI,Yb,YJ,Yy,YN,Y6,CU,EA,FA,ne_eq,OJ,L5,OT,HT,aL,Yo,or_false,false_or,Ki]<;>omega
theorem ti{v:Val}(h:SzV v):Py v=some (Mi v):=by
 obtain⟨t1,t2,t3,t4,t5⟩:=h
 have a:v.list.length<4611686018427387904:=by omega
 have b:v.pairs.length<4611686018427387904:=by omega
 have c:v.slots.length<4611686018427387904:=by omega
 have d:v.raws.length<4611686018427387904:=by omega
 dsimp only[Py,WT,vz,vy,wg,lr,An]
 congr 1
 unfold Mi
 rw[aT]
 simp only[Yb,Yy]
 omega
theorem ZOn(n:Int):MH n=some (Pa n):=by
 dsimp only[MH,Qy,lr]
 unfold Pa
 rw[Bool.decide_or]
theorem ZLC(n b:Int)(h:1≤n∧n≤9)(d:Pa n=false):(if decide (n=1)=true then some (decide (b≤1))else if decide (n=2)=true then some (decide (-2147483648≤IntKind.i64.wrap b)&&decide (IntKind.i64.wrap b≤2147483647))else if decide (n=4)=true then some (decide (b<4294967296))else if decide (n=9)=true then some (decide (b<2147483648))else some true)=some (U6 n b):=by
 unfold U6
 have a:decide (b<4294967296)=decide (b≤4294967295):=decide_eq_decide.2 (by omega)
 have c:decide (b<2147483648)=decide (b≤2147483647):=decide_eq_decide.2 (by omega)
 rw[a,c]
 simp only[Yy,aV]
 repeat' (first|rfl|split)
theorem ZNC(n:Int){v:Val}(h:SzV v):Jw n v=some (I8 n v):=by
 have f:=h.t
 have j:v.text.size<4611686018427387904:=by omega
 have g:MP n=some (decide (1≤n)&&decide (n≤9)):=rfl
 have k:∀x y z:Bool,(if((x&&y)&&!z)=true then True else True)=True:=fun x y z=>by split<;>rfl
 dsimp only[Jw,QZ,br,vz,vy,wg,lr,cl,AP,BH,br]
 rw[g,ti h,ZOn,Zww _ f,Yc]
 unfold I8
 by_cases c:1≤n∧n≤9∧v.kind=n
 ·obtain⟨a,b,d⟩:=c
  simp only[a,b,d,Cw,Yr,OD,Y6,Tj,Kk,CU,Ti,Gs,YU,Yv,Yc,EZ,j,FA]
  cases hl:Mi v with
  |false=>rfl
  |true=>
   cases i:Pa n with
   |true=>
    simp only[Y6,Yo,YR,Yv,FA]
    rw[aV]
    congr 3
    exact decide_eq_decide.2 (by omega)
   |false=>
    simp only[Y6,Yo,YR,FA]
    by_cases hx:v.text=⟨#[]⟩
    ·simp only[hx,Yr,Y6,Yo,YR,FA]
     exact ZLC n v.bits ⟨a,b⟩ i
    ·simp only[hx,YV,CU,Yv,EA]
 ·have e:((!(decide (1≤n)&&decide (n≤9)))||!decide (v.kind=n))=true:=by
   simp only[YI,YJ,Kh,YN]
   omega
  simp only[e,c,YV,EA,Y6,Yo,OE,Yv,OH]
theorem vR(n:Int){v:Val}(h:SzV v):jJ n v=some (DZ n v):=by
 have f:=h.t
 have d:v.text.size<4611686018427387904:=by omega
 dsimp only[jJ,mj,br,vz,wg,lr,cl,AP,BH,br]
 rw[lH h,ZNC n h,Yc]
 unfold DZ
 by_cases c:v.kind=n
 ·cases g:Cq v with
  |true=>simp[c]
  |false=>
   by_cases b:4096<v.text.size
   ·have a:(4096:Int)<v.text.size:=by omega
    simp[c,d,b,a]
   ·have a:¬(4096:Int)<v.text.size:=by omega
    cases I8 n v with
    |true=>simp[c,d,b,a]
    |false=>
     by_cases e:n=7
     ·simp[c,d,b,a,e]
     ·simp[c,d,b,a,e]
 ·simp[c]
theorem ta(s:Scm)(n:ByteArray)(h:s.enums.length≤1048576):jz s n=some (Ds s n):=by
 have d:=Fa (B:=Rj s n) (N:=Al) s.enums (fun e=>decide (e.name=n)) (fun i=>(s.enums.getD i default,true)) () (fun i x hx=>by
  have a:=BS hx
  have f:=(Ya.1 hx).1
  have b:i+1<9223372036854775808:=by omega
  have c:s.enums.length<4611686018427387904:=by omega
  dsimp only[Rj,WQ,br,ix,vz,wg,vs,AA,ln,Ai,wa,An,br]
  simp only[a,b,c,hx,Yr,Yv,Yc,Yg,YU]
  cases decide (x.name=n)<;>simp) (by simp[Rj,WQ,br,ix,vz,wg,vs,AA,ln,Ai,wa,An,br]) (A2 (by omega))
 dsimp only[jz,mJ,mf,oE,wg,lr,lc]
 unfold Ds
 rw[d,Qf]
 cases s.enums.findIdx? fun m=>decide (m.name=n)<;>rfl
theorem Zs0{s:Scm}(h:SzS s)(n:ByteArray):(Ds s n).1.items.length≤1048576:=by
 unfold Ds C2
 cases e:s.enums.find? fun m=>decide (m.name=n)with
 |none=>decide
 |some m=>exact(h.e m (HR e)).il
theorem ZuB{s:Scm}(hs:Ar (Au s)≤1048576)(n:ByteArray):∀x∈(Ds s n).1.items,-9223372036854775808≤x.num:=by
 unfold Ds C2
 cases e:s.enums.find? fun m=>decide (m.name=n)with
 |none=>intro x hx;cases hx
 |some m=>
  intro x hx
  have a:=C8 (e:=CA) (HR e)
  have b:=C8 (e:=Gc) (show x∈m.items from hx)
  simp only[Au,Ar,bk]at hs
  simp only[CA,Ar,bk]at a
  simp only[Gc,Ar,bk]at b
  have:=wG (k:=.i64) (n:=x.num) (by omega)
  exact this.1
theorem sv(e:Enm)(b:Int)(h:e.items.length≤1048576)(k:∀x∈e.items,-9223372036854775808≤x.num)(p:b<9223372036854775808):Pz e b=some (LP e b):=by
 have j:e.items.length<4611686018427387904:=by omega
 have m:=Fa (B:=Ra e b) (N:=Al) e.items (fun x=>decide (IntKind.u64.wrap x.num=b)) (fun _=>true) () (fun i x hx=>by
  have a:=BS hx
  have n:=(Ya.1 hx).1
  have d:i+1<9223372036854775808:=by omega
  have o:=k x (Yi hx)
  have f:e.items.getD (i:Int).toNat Rw.z=x:=by rw[Y0,Yg,hx];rfl
  have g:(0:Int)≤i∧(i:Int)<e.items.length:=⟨by omega,a⟩
  have key:(decide ((0:Int)≤x.num)&&decide (IntKind.u64.wrap x.num=b))=decide (IntKind.u64.wrap x.num=b):=by
   by_cases c:(0:Int)≤x.num
   ·rw[Yn c,FA]
   ·have l:IntKind.u64.wrap x.num=x.num%18446744073709551616:=rfl
    rw[Yq c,EA]
    symm
    rw[YN,l]
    omega
  dsimp only[Ra,W0,br,ix,A1,vz,vy,wg,vs,AA,ln,Ai,wa,An,br]
  simp only[j,a,d,f,g,hx,Yr,Yv,Yc,Cw,EZ,key]
  cases decide (IntKind.u64.wrap x.num=b)<;>simp) (by simp[Ra,W0,br,ix,A1,vz,vy,wg,vs,AA,ln,Ai,wa,An,br]) (A2 (by omega))
 dsimp only[Pz,mB,pH,nu,lr,lc]
 unfold LP
 rw[m,←Ox]
 cases e.items.findIdx? fun x=>decide (IntKind.u64.wrap x.num=b)<;>rfl
theorem PZ{α ξ ρ:Type}{B:Nat→Option (Lv Nat ξ ρ)}{N:Nat}(l:List α)(p:α→Bool)(r:ρ)(e:ξ)
  (hs:∀i x,l[i]?=some x→B i=some (if p x=true then .rt r else .nx (i+1))) (he:B l.length=some (.ex e)) (hN:l.length<N):Am B N 0=some (if l.any p=true then .inr r else .inl e):=by
 rw[Fa l p (fun _=>r) e hs he hN,←Ox]
 cases l.findIdx? p<;>rfl
theorem ZIA(v:Val)(k:Int)(h:v.slots.length≤1048576):jr v k=some (B7 v.slots k):=by
 have c:v.slots.length<4611686018427387904:=by omega
 have d:=Fa (B:=Rh v k) (N:=Al) v.slots (fun x=>decide (x.num=k)) (fun _=>true) () (fun i x hx=>by
  have a:=BS hx
  have e:=(Ya.1 hx).1
  have b:i+1<9223372036854775808:=by omega
  dsimp only[Rh,Xc,br,ix,vz,wg,vs,AA,ln,Ai,wa,An,br]
  simp only[c,a,b,hx,Yr,Yv,Yc]
  cases decide (x.num=k)<;>simp) (by simp[Rh,Xc,br,ix,vz,wg,vs,AA,ln,Ai,wa,An,br]) (A2 (by omega))
 dsimp only[jr,pu,mP,ol,lr,lc]
 unfold B7
 rw[d,←Ox]
 cases v.slots.findIdx? fun x=>decide (x.num=k)<;>rfl
theorem ZIi{s:Scm}(hs:Ar (Au s)≤1048576)(m:Msg)(x:Raw)(hm:m.fields.length≤1048576)(hx:x.data.size≤1048576):jD s m x=some (Ky s m.fields x):=by
 have h:=Gk hs
 have A:x.data.size<4611686018427387904:=by omega
 have o:=ta s (A4 m.fields x.num).type.name h.el
 have d:x.bits<2147483648→Pz (Ds s (A4 m.fields x.num).type.name).1 x.bits=_:=fun y=>sv _ _ (Zs0 h _) (ZuB hs _) (by omega)
 have w:(Bz m.fields x.num).1=A4 m.fields x.num:=rfl
 dsimp only[jD,n5,kD,br,vy,wg,lr,cl,AP,BH,br]
 rw[qj _ _ hm,Yc,w]
 unfold Ky uo
 have j:((((((decide (x.num<1)||decide (65535<x.num))||decide (x.wire<0))||decide (6<x.wire))||(((decide (x.wire=0)||decide (x.wire=1))||decide (x.wire=2))&&!decide (x.data=⟨#[]⟩)))||((!((decide (x.wire=0)||decide (x.wire=1))||decide (x.wire=2)))&&!decide (x.bits=0)))=true)=(x.num<1∨65535<x.num∨x.wire<0∨6<x.wire∨(x.wire≤2∧x.data≠⟨#[]⟩)∨(2<x.wire∧x.bits≠0)):=by
  by_cases p:x.data=⟨#[]⟩<;>simp only[p,Yr,YV,Y6,CU,Mf,OC,aL,YI,Yb,YJ,Yy,YN,Ki,ne_eq,OJ,L5,and_false,OS,false_or,eq_iff_iff]<;>omega
 have b:(if((decide (x.wire=3)&&decide ((4096:Int)<x.data.size))||decide ((65536:Int)<x.data.size))=true then some (3:Int)else some 0)=some (if(x.wire=3∧4096<x.data.size)∨65536<x.data.size then 3 else 0):=by
  by_cases c:(x.wire=3∧4096<x.data.size)∨65536<x.data.size
  ·rw[Ym c,Ym]
   simp only[YI,Yb,Yy]
   omega
  ·rw[Yk c,Yk]
   simp only[YI,Yb,Yy]
   omega
 by_cases c:x.num<1∨65535<x.num∨x.wire<0∨6<x.wire∨(x.wire≤2∧x.data≠⟨#[]⟩)∨(2<x.wire∧x.bits≠0)
 ·rw[Ym c,Ym (j▸c)]
 ·rw[Yk c,Yk (j▸c)]
  cases z:(Bz m.fields x.num).2 with
  |false=>
   simp only[Yo,YR,OT]
   exact b
  |true=>
   simp only[Yv,HT]
   rw[o,Yc]
   generalize (Ds s (A4 m.fields x.num).type.name)=a at d⊢
   generalize A4 m.fields x.num=f at d⊢
   by_cases k:f.type.kind=9∧a.2=true∧a.1.opn=false∧¬f.card=5∧x.wire=0∧x.bits<2147483648
   ·obtain⟨q,r,t,u,l,n⟩:=k
    have i:¬(2147483648≤x.bits):=by omega
    simp only[q,r,t,u,l,n,i,d n,Yr,YV,Y6,CU,Tj,Kk,Ti,Gs,YU,Yv,OD,FA]
    cases LP a.1 x.bits with
    |true=>simp only[Yv,Y6]
    |false=>
     simp only[Yo,YR,CU,reduceCtorEq]
     rw[l]at b
     simpa using b
   ·have i:((((((!decide (f.type.kind=9))||(!a.2))||a.1.opn)||decide (f.card=5))||(!decide (x.wire=0)))||decide (2147483648≤x.bits))=true:=by
     simp only[YI,YJ,Yy,YN]
     cases e:a.2<;>cases g:a.1.opn<;>simp only[e,g,HT,OS,OT,and_false,reduceCtorEq,L5,true_or,or_true,false_or,or_false]at k⊢<;>omega
    have v:(decide (f.type.kind=9)&&a.2&&!a.1.opn&&!decide (f.card=5)&&decide (x.wire=0)&&decide (x.bits<2147483648)&&!LP a.1 x.bits)=false:=by
     rw[Kh]
     left
     cases e:a.2<;>cases g:a.1.opn<;>simp only[e,g,Mf,EA,Y6,CU,OC]at k⊢
     simp only[Kh,aj,YN,Yy]
     simp only[HT]at k
     omega
    simp only[i,v,Y6,Yo,OE,Yv,OH]
theorem ZBj(R:TS)(l:Fld→Val→Int)(s:Scm)(m:Msg)(v:Val)(i:Nat)(x:Slt)(a:Int)(k:Bool)(hm:m.fields.length≤1048576)(hl:v.slots.length≤1048576)(hx:v.slots[i]?=some x)(F:1≤a∧a≤16)(t:∀f:Fld,(Bz m.fields x.num)=(f,true)→R s f x.val (a+1) k=some (l f x.val)):Vc R s m v i a k=some (F1 l m.fields v.slots i x):=by
 have hi:=(Ya.1 hx).1
 have c:(v.slots.take i).length=i:=by rw[YD];omega
 have b:∀(j:Nat) (y:Slt),(v.slots.take i)[j]?=some y→j<i∧v.slots[j]?=some y:=fun j y hy=>by
  rw[Y2]at hy
  split at hy
  ·exact⟨by assumption,hy⟩
  ·cases hy
 have A:∀y:Fld×Bool,Am (Np s m v i a k R y) Al 0=some (if B7 (v.slots.take i) y.1.num=true then .inr 9 else .inl ()):=fun y=>by
  have q:=PZ (B:=Np s m v i a k R y) (N:=Al) (v.slots.take i) (fun z=>decide (z.num=y.1.num)) (9:Int) () (fun j z h=>by
   obtain⟨p,d⟩:=b j z h
   have e:(j:Int)<i:=by omega
   have g:j+1<9223372036854775808:=by omega
   dsimp only[Np,Xr,br,ix,wg,vs,AA,ln,Ai,wa,br]
   simp only[d,e,g,Yr,Yv,Yc]
   cases decide (z.num=y.1.num)<;>simp) (by rw[c];dsimp only[Np,Xr,br,ix,wg,vs,AA,ln,Ai,wa,br];simp) (by rw[c];exact A2 (by omega))
  exact q
 have C:∀y:Fld×Bool,Am (Nf s m v i a k R y) Al 0=some (if KJ m.fields (v.slots.take i) y.1.union=true then .inr 15 else .inl ()):=fun y=>by
  have q:=PZ (B:=Nf s m v i a k R y) (N:=Al) (v.slots.take i) (fun z=>(!decide (y.1.union=⟨#[]⟩))&&decide ((A4 m.fields z.num).union=y.1.union)) (15:Int) () (fun j z h=>by
   obtain⟨p,d⟩:=b j z h
   have e:(j:Int)<i:=by omega
   have g:j+1<9223372036854775808:=by omega
   have r:(Bz m.fields z.num).1=A4 m.fields z.num:=rfl
   dsimp only[Nf,WM,WB,Xd,WN,br,ix,wg,vs,AA,ln,Ai,lc,cl,wa,du,br]
   simp only[d,e,g,qj _ _ hm,r,Yr,Yv,Yc]
   cases(!decide (y.1.union=⟨#[]⟩))&&decide ((A4 m.fields z.num).union=y.1.union)<;>simp) (by rw[c];dsimp only[Nf,WM,WB,Xd,WN,br,ix,wg,vs,AA,ln,Ai,lc,cl,wa,du,br];simp) (by rw[c];exact A2 (by omega))
  rw[q]
  congr 2
  unfold KJ
  by_cases o:y.1.union=⟨#[]⟩
  ·simp only[o,Yr,Y6,EA,eq_iff_iff,Yo,iff_false,YL,not_exists,and_false,L5,EZ]
  ·simp only[o,YV,CU,FA]
 have w0:(0:Int)≤i∧(i:Int)<v.slots.length:=by omega
 have D:(Bz m.fields x.num).1=A4 m.fields x.num:=rfl
 have w2: -9223372036854775808≤a+1∧a+1<9223372036854775808:=by omega
 have E:(v.slots.getD i Rw.z)=x:=by rw[Yg,hx];rfl
 unfold F1
 dsimp only[Vc,l7,lB,mK,pO,oA,ny,br,CI,vw,wg,vs,lr,lc,cl,cs,wi,du,br]
 simp only[Y0,hx,w0,E,Cw,Yv,qj _ _ hm,Yc,A,C,D,w2]
 cases n:(Bz m.fields x.num).2 with
 |false=>simp
 |true=>
  have u:(A4 m.fields x.num).num=x.num:=M4 n
  have w:=t (A4 m.fields x.num) (Prod.ext rfl n)
  rw[u]
  cases B7 (v.slots.take i) x.num with
  |true=>simp
  |false=>
   cases KJ m.fields (v.slots.take i) (A4 m.fields x.num).union with
   |true=>simp
   |false=>simp[w]
theorem ZwO(R:TS){s:Scm}(hs:Ar (Au s)≤1048576)(m:Msg)(v:Val)(d:Nat)(K:d≤16)(k:Bool)(hm:m.fields.length≤1048576)(o:A3 v)(D:∀d':Nat,d=d'+1→∀(f:Fld) (x:Val),A3 x→R s f x (17-(d':Int)) k=some (BV (Ba s k d') s k f x)):Pt R s m v (17-(d:Int)) k=some (Ba s k d m v):=by
 have h:=Gk hs
 have F:=DB o
 obtain⟨s1,s2,L,t,M⟩:=DB o
 have u:m.fields.length<4611686018427387904:=by omega
 have w:v.slots.length<4611686018427387904:=by omega
 have y:v.raws.length<4611686018427387904:=by omega
 dsimp only[Pt,dE,a2,eS,eY,bC,br,wg,lr,lc,AP,br]
 rw[lH F]
 by_cases c:v.kind≠10∨Cq v=true
 ·have z:Ba s k d m v=12:=by cases d<;>(unfold Ba;rw[Ym c])
  rw[z]
  by_cases a:v.kind=10
  ·have n:Cq v=true:=c.resolve_left fun e=>e a
   simp[a,n]
  ·simp[a]
 ·have a:v.kind=10:=Decidable.not_not.1 fun e=>c (.inl e)
  have n:Cq v=false:=by
   cases h:Cq v with
   |false=>rfl
   |true=>exact absurd (.inr h) c
  cases d with
  |zero=>
   unfold Ba
   rw[Yk c]
   simp[a,n]
  |succ d=>
   have G:(1:Int)≤17-((d+1:Nat):Int)∧17-((d+1:Nat):Int)≤16:=by omega
   have q:¬(16:Int)<17-((d+1:Nat):Int):=by omega
   have H:=PW (B:=RP s m v (17-((d+1:Nat):Int)) k R) (N:=Al) v.slots (F1 (BV (Ba s k d) s k) m.fields v.slots) id () (fun i x hx _=>by
    have e:=ZBj R (BV (Ba s k d) s k) s m v i x _ k hm t hx G fun f j=>by
     have:=D d rfl f x.val (J2 o (Yi hx))
     rw[show 17-((d+1:Nat):Int)+1=17-(d:Int)by omega]
     exact this
    have b:=BS hx
    have g:i+1<9223372036854775808:=by have:=(Ya.1 hx).1;omega
    dsimp only[RP,XQ,br,vz,wg,vs,v2,AA,ln,Ai,cs,wa,An,br]
    simp only[w,b,g,e,Yr,Yv,Yc]
    by_cases hy:F1 (BV (Ba s k d) s k) m.fields v.slots i x=0<;>simp[hy]) (by dsimp only[RP,XQ,br,vz,wg,vs,v2,AA,ln,Ai,cs,wa,An,br];simp[w]) (A2 (by omega))
   have I:=PW (B:=Sd s m v R) (N:=Al) m.fields (fun _ f=>HY v.slots f) id () (fun i f j _=>by
    have b:=BS j
    have g:i+1<9223372036854775808:=by have:=(Ya.1 j).1;omega
    have A:m.fields.getD i Rw.z=f:=by rw[Yg,j];rfl
    have C:(0:Int)≤i∧(i:Int)<m.fields.length:=⟨by omega,b⟩
    have e:=ZIA v f.num t
    unfold HY
    dsimp only[Sd,ZB,br,ix,A1,vz,wg,vs,AA,ln,Ai,AP,wa,An,br]
    simp only[u,b,g,A,C,j,e,Y0,Yr,Yv,Yc,Cw,EZ,Gs,YU]
    by_cases E:f.card=1<;>cases B7 v.slots f.num<;>simp[E]) (by dsimp only[Sd,ZB,br,ix,A1,vz,wg,vs,AA,ln,Ai,AP,wa,An,br];simp[u]) (A2 (by omega))
   have J:=PW (B:=Sc s m v R) (N:=Al) v.raws (fun _ x=>Ky s m.fields x) id () (fun i x hx _=>by
    have b:=BS hx
    have g:i+1<9223372036854775808:=by have:=(Ya.1 hx).1;omega
    have e:=ZIi hs m x hm (ZRH o (Yi hx))
    dsimp only[Sc,Zl,br,ix,vz,wg,vs,AA,ln,Ai,cl,wa,An,br]
    simp only[y,b,g,hx,e,Yr,Yv,Yc]
    by_cases hy:Ky s m.fields x=0<;>simp[hy]) (by dsimp only[Sc,Zl,br,ix,vz,wg,vs,AA,ln,Ai,cl,wa,An,br];simp[y]) (A2 (by omega))
   unfold Ba
   rw[Yk c]
   simp only[a,n,q,H,I,J,Yr,YV,Y6,CU,Tj,Yo,Ti,Gs,YU,Yv,YR,Yc]
   by_cases l:Cb (F1 (BV (Ba s k d) s k) m.fields v.slots) v.slots 0=0
   ·by_cases p:Cb (fun _ f=>HY v.slots f) m.fields 0=0
    ·by_cases r:Cb (fun _ x=>Ky s m.fields x) v.raws 0=0
     ·simp[l,p,r]
     ·simp[l,p,r]
    ·simp[l,p]
   ·simp[l]
theorem ZKt(R:TS){s:Scm}(hs:Ar (Au s)≤1048576)(t:Typ)(v:Val)(d:Nat)(q:d≤16)(k:Bool)(m:A3 v)(p:∀d':Nat,d=d'+1→∀(f:Fld) (x:Val),A3 x→R s f x (17-(d':Int)) k=some (BV (Ba s k d') s k f x)):MI R s t v (17-(d:Int)) k=some (CN (Ba s k d) s t v):=by
 have h:=Gk hs
 have hm:=ZwO R hs (AZ s t.name).1 v d q k (Qd h _) m p
 have o:v.bits<9223372036854775808→Pz (Ds s t.name).1 v.bits=_:=fun i=>sv _ _ (Zs0 h _) (ZuB hs _) i
 have n:MK s t.name=some (AZ s t.name):=qg s _ h.ml
 dsimp only[MI,nQ,br,wg,lr,cl,AP,cs,br]
 rw[n,vR _ (DB m),ta s _ h.el]
 simp only[Yc]
 unfold CN
 by_cases c:t.kind=10
 ·simp only[c,Yr,Yv,hm,Yc]
  cases(AZ s t.name).2<;>simp
 ·by_cases e:t.kind<1∨9<t.kind
  ·have g:(decide (t.kind<1)||decide (9<t.kind))=true:=by simpa using e
   simp only[c,e,g,YV,Yo,YR,Yv]
  ·have g:(decide (t.kind<1)||decide (9<t.kind))=false:=by
    rw[Ki,YN,YN]
    omega
   simp only[c,e,g,YV,Yo,YR]
   by_cases a:DZ t.kind v=0∧t.kind=9
   ·obtain⟨a,b⟩:=a
    have i:v.bits<9223372036854775808:=by
     rw[b]at a
     unfold DZ at a
     by_cases a1:v.kind≠9∨Cq v=true
     ·rw[Ym a1]at a;cases a
     ·rw[Yk a1]at a
      by_cases j:4096<v.text.size
      ·rw[Ym j]at a;cases a
      ·rw[Yk j]at a
       cases a3:I8 9 v with
       |false=>rw[a3]at a;simp at a
       |true=>
        unfold I8 at a3
        simp only[Yb]at a3
        have a4:=a3.2
        rw[Yk (by decide)]at a4
        simp only[Yb]at a4
        have l:=a4.2
        unfold U6 at l
        rw[Yk (by decide),Yk (by decide),Yk (by decide),Ym rfl,Yy]at l
        omega
    rw[o i,a,b]
    cases(Ds s t.name).2<;>cases(Ds s t.name).1.opn<;>cases LP (Ds s t.name).1 v.bits<;>simp
   ·have b:((!decide (DZ t.kind v=0))||!decide (t.kind=9))=true:=by
     simp only[YI,YJ,YN]
     omega
    rw[Ym b,Ym (by omega)]
theorem ZHQ(R:TS){s:Scm}(hs:Ar (Au s)≤1048576)(f:Fld)(v:Val)(d:Nat)(S:d≤16)(k:Bool)(t:A3 v)(Q:∀d':Nat,d=d'+1→∀(f:Fld) (x:Val),A3 x→R s f x (17-(d':Int)) k=some (BV (Ba s k d') s k f x)):XU R s f v (17-(d:Int)) k=some (BV (Ba s k d) s k f v):=by
 have h:=Gk hs
 have l:=DB t
 obtain⟨s1,s2,Y,Z,s5⟩:=DB t
 have G:v.list.length<4611686018427387904:=by omega
 have w2:v.pairs.length<4611686018427387904:=by omega
 have y:=fun(x:Val) (hx:A3 x)=>ZKt R hs f.type x d S k hx Q
 generalize 17-(d:Int)=A at y
 have U:=PW (B:=QS s f v A k R) (N:=Al) v.list (fun _ x=>CN (Ba s k d) s f.type x) id () (fun i x hx _=>by
  have w:=BS hx
  have g:i+1<9223372036854775808:=by have:=(Ya.1 hx).1;omega
  have e:=y x (Sa t (Yi hx))
  dsimp only[QS,W3,br,ix,vz,wg,vs,v2,AA,ln,Ai,cs,wa,An,br]
  simp only[G,w,g,hx,e,Yr,Yv,Yc]
  by_cases hy:CN (Ba s k d) s f.type x=0<;>simp[hy]) (by dsimp only[QS,W3,br,ix,vz,wg,vs,v2,AA,ln,Ai,cs,wa,An,br];simp[G]) (A2 (by omega))
 have W:∀(i:Nat) (p:Pr),v.pairs[i]?=some p→Am (Ln s f v A k R i) Al 0=some (if k=true∧((v.pairs.take i).any fun q=>IK q.key p.key)=true then .inr 9 else .inl ()):=fun i p c=>by
  have hi:=(Ya.1 c).1
  have F:(v.pairs.take i).length=i:=by rw[YD];omega
  cases k with
  |false=>
   obtain⟨X,D⟩:∃b,Al=b+1:=⟨Al-1,by have:=A2 (n:=20) (by omega);omega⟩
   rw[D,Am]
   dsimp only[Ln,Rr,br,ix,A1,wg,vs,AA,ln,Ai,wa,br]
   simp
  |true=>
   have q:=PZ (B:=Ln s f v A true R i) (N:=Al) (v.pairs.take i) (fun q=>IK q.key p.key) (9:Int) () (fun j z l=>by
    have T:j<i∧v.pairs[j]?=some z:=by
     rw[Y2]at l
     split at l
     ·exact⟨by assumption,l⟩
     ·cases l
    obtain⟨w,g⟩:=T
    have J:(j:Int)<i:=by omega
    have K:j+1<9223372036854775808:=by omega
    have L:v.pairs.getD j Rw.z=z:=by rw[Yg,g];rfl
    have M:v.pairs.getD i Rw.z=p:=by rw[Yg,c];rfl
    have O:(0:Int)≤j∧(j:Int)<v.pairs.length:=by omega
    have P:(0:Int)≤i∧(i:Int)<v.pairs.length:=by omega
    unfold IK
    dsimp only[Ln,Rr,br,ix,A1,wg,vs,AA,ln,Ai,wa,br]
    simp only[g,J,K,L,M,O,P,c,Y0,Yr,OC,Yv,Yc,Cw,EZ]
    cases decide (z.key.bits=p.key.bits)&&decide (z.key.text=p.key.text)<;>simp) (by rw[F];dsimp only[Ln,Rr,br,ix,A1,wg,vs,AA,ln,Ai,wa,br];simp) (by rw[F];exact A2 (by omega))
   rw[q]
   simp
 have V:=PW (B:=Rl s f v A k R) (N:=Al) v.pairs (Ko (CN (Ba s k d) s f.type) f.key k v.pairs) id () (fun i p c _=>by
  have w:=BS c
  have g:i+1<9223372036854775808:=by have:=(Ya.1 c).1;omega
  have E:=GE t (Yi c)
  have H:=vR f.key (DB E.1)
  have I:=y p.val E.2
  unfold Ko
  dsimp only[Rl,Wt,Xs,WH,WC,Xf,br,ix,vz,wg,vs,AA,ln,Ai,lc,cl,cs,wa,An,br]
  simp only[w2,w,g,c,H,I,W i p c,Yr,Yv,Yc]
  by_cases u:DZ f.key p.key=0
  ·by_cases m:k=true∧((v.pairs.take i).any fun q=>IK q.key p.key)=true
   ·simp[u,m]
   ·by_cases C:CN (Ba s k d) s f.type p.val=0
    ·rw[Yk m]
     simp only[u,m,C]
     simp
    ·rw[Yk m]
     simp only[u,m,C]
     simp[C]
  ·simp[u]) (by dsimp only[Rl,Wt,Xs,WH,WC,Xf,br,ix,vz,wg,vs,AA,ln,Ai,lc,cl,cs,wa,An,br];simp[w2]) (A2 (by omega))
 have e0:=y v t
 unfold BV
 dsimp only[XU,lJ,lL,lY,mR,lW,nb,lR,lK,oM,lI,ly,lF,br,wg,lr,lc,AP,cs,br]
 rw[lH l,U,V,e0]
 by_cases o:f.card=4
 ·by_cases a:v.kind=11
  ·cases Cq v with
   |true=>simp[o,a]
   |false=>
    by_cases c6:Cb (fun _ x=>CN (Ba s k d) s f.type x) v.list 0=0
    ·simp[o,a,c6]
    ·simp[o,a,c6]
  ·simp[o,a]
 ·by_cases r:f.card=5
  ·by_cases a:v.kind=12
   ·cases Cq v with
    |true=>simp[r,a]
    |false=>
     by_cases c6:Cb (Ko (CN (Ba s k d) s f.type) f.key k v.pairs) v.pairs 0=0
     ·simp[r,a,c6]
     ·simp[r,a,c6]
   ·simp[r,a]
  ·simp[o,r]
theorem ZoC{s:Scm}(hs:Ar (Au s)≤1048576)(k:Bool):∀(a d:Nat),d<a→d≤16→∀(f:Fld) (v:Val),A3 v→Jt a s f v (17-(d:Int)) k=some (BV (Ba s k d) s k f v)
 |0,d,b,_,_,_,_=>absurd b (Y5 _)
 |a+1,d,b,c,f,v,h=>ZHQ (Jt a) hs f v d c k h fun d' e g x hx=>ZoC hs k a d' (by omega) (by omega) g x hx
theorem u0:20<Al:=A2 (by omega)
theorem Zx2{s:Scm}(hs:Ar (Au s)≤1048576)(m:Msg)(v:Val)(k:Bool)(hm:m.fields.length≤1048576)(a:A3 v):Pt (Jt Al) s m v 1 k=some (Ba s k 16 m v):=
 ZwO (Jt Al) hs m v 16 (Yf _) k hm a fun d' e f x hx=>ZoC hs k Al d' (by have:=u0;omega) (by omega) f x hx
mutual
theorem Qt:∀v:Val,cnt v≤2*Ar (Bb v)+1
 |.mk k b t l p s r=>by
  have a:=ZvH l
  have c:=ZuP p
  have d:=Zuy s
  have f:=CD (e:=Av) r
  simp only[cnt,Bb,Ar,bk]
  omega
theorem ZvH:∀l:List Val,Br l≤2*AU (NH l)
 |[]=>by simp[Br]
 |v::l=>by
  have a:=Qt v
  have b:=ZvH l
  simp only[Br,NH,AU]
  omega
theorem ZzA:∀p:Pr,NU p≤2*Ar (Ap p)+2
 |.mk k v=>by
  have a:=Qt k
  have b:=Qt v
  simp only[NU,Ap,Na]
  omega
theorem ZuP:∀l:List Pr,BP l≤2*AU (Mq l)
 |[]=>by simp[BP]
 |v::l=>by
  have a:=ZzA v
  have b:=ZuP l
  simp only[BP,Mq,AU]
  omega
theorem Zx1:∀x:Slt,N4 x≤2*Ar (Aq x)+1
 |.mk n v=>by
  have a:=Qt v
  simp only[N4,Aq,Ar,bk]
  omega
theorem Zuy:∀l:List Slt,Cf l≤2*AU (NA l)
 |[]=>by simp[Cf]
 |v::l=>by
  have a:=Zx1 v
  have b:=Zuy l
  simp only[Cf,NA,AU]
  omega
end
theorem td(v:Val):cnt v=1+v.raws.length+Br v.list+BP v.pairs+Cf v.slots:=by cases v;simp only[cnt,Val.raws,Val.list,Val.pairs,Val.slots]
theorem ZpO(p:Pr):NU p=cnt p.key+cnt p.val:=by cases p;simp only[NU,Pr.key,Pr.val]
theorem ZpH(x:Slt):N4 x=cnt x.val:=by cases x;simp only[N4,Slt.val]
theorem VZ:∀a b:List Val,Br (a++b)=Br a+Br b
 |[],b=>by simp[Br]
 |x::a,b=>by rw[HO,Br,Br,VZ a b];omega
theorem V2:∀a b:List Pr,BP (a++b)=BP a+BP b
 |[],b=>by simp[BP]
 |x::a,b=>by rw[HO,BP,BP,V2 a b];omega
theorem VX:∀a b:List Slt,Cf (a++b)=Cf a+Cf b
 |[],b=>by simp[Cf]
 |x::a,b=>by rw[HO,Cf,Cf,VX a b];omega
theorem ZOQ{v:Val}(h:A3 v):cnt v≤2097153:=by
 have:=Qt v
 rw[Gx]at this
 have h:Ar (Ag v)≤1048576:=h
 omega
theorem Zwf(l:List Val)(i:Nat):Br (l.take i)≤Br l:=by
 conv=>rhs;rw[←HS i l,VZ]
 omega
theorem Ztx(l:List Pr)(i:Nat):BP (l.take i)≤BP l:=by
 conv=>rhs;rw[←HS i l,V2]
 omega
theorem ZwI(l:List Slt)(i:Nat):Cf (l.take i)≤Cf l:=by
 conv=>rhs;rw[←HS i l,VX]
 omega
theorem ZyJ{l:List Val}{i:Nat}{x:Val}(h:l[i]?=some x):Br (l.take i)+cnt x≤Br l:=by
 obtain⟨a,rfl⟩:=Ya.1 h
 have:=Zwf l (i+1)
 rw[Y8 a,VZ,Br,Br]at this
 omega
theorem ZBx{l:List Pr}{i:Nat}{x:Pr}(h:l[i]?=some x):BP (l.take i)+NU x≤BP l:=by
 obtain⟨a,rfl⟩:=Ya.1 h
 have:=Ztx l (i+1)
 rw[Y8 a,V2,BP,BP]at this
 omega
theorem ZzX{l:List Slt}{i:Nat}{x:Slt}(h:l[i]?=some x):Cf (l.take i)+N4 x≤Cf l:=by
 obtain⟨a,rfl⟩:=Ya.1 h
 have:=ZwI l (i+1)
 rw[Y8 a,VX,Cf,Cf]at this
 omega
theorem Qg:∀(g:Nat) (v:Val),Ar (Ag v)<g→A3 v→Jx g v=some (cnt v:Int)
 |0,v,h,_=>by omega
 |g+1,v,h,k=>by
  obtain⟨s1,s2,D,E,F⟩:=DB k
  have y:=ZOQ k
  rw[td]at y
  have q:v.list.length<4611686018427387904:=by omega
  have r:v.pairs.length<4611686018427387904:=by omega
  have s:v.slots.length<4611686018427387904:=by omega
  have z:v.raws.length<4611686018427387904:=by omega
  have A:1+v.raws.length<9223372036854775808:=by omega
  have t:=FL (B:=RT v (Jx g)) (N:=Al) (ρ:=Int) v.list (fun p=>((1+v.raws.length+Br p:Nat):Int)) (fun i b=>(b,i)) id (fun i x hx=>by
   have j:=BS hx
   have l:i+1<9223372036854775808:=by have:=(Ya.1 hx).1;omega
   have hm:=Yi hx
   have e:=Qg g x (by have:=u9 hm;omega) (Sa k hm)
   have m:=ZyJ hx
   have d:((1+v.raws.length+Br (v.list.take i):Nat):Int)+(cnt x:Int)=((1+v.raws.length+Br (v.list.take i++[x]):Nat):Int):=by
    rw[VZ,Br,Br]
    omega
   have f: -9223372036854775808≤((1+v.raws.length+Br (v.list.take i):Nat):Int)+(cnt x:Int)∧((1+v.raws.length+Br (v.list.take i):Nat):Int)+(cnt x:Int)<9223372036854775808:=by omega
   generalize ((1+v.raws.length+Br (v.list.take i):Nat):Int)=a at d f⊢
   generalize ((1+v.raws.length+Br (v.list.take i++[x]):Nat):Int)=b at d⊢
   generalize (cnt x:Int)=c at e d f
   dsimp only[RT,T4,br,ix,vz,wg,vs,v2,ln,Ai,cs,wa,wi,An,br]
   simp only[q,j,hx,Yr,Yv,Yc]
   rw[e,Yc,Ym f,Ym l,d]) (by dsimp only[RT,T4,br,ix,vz,wg,vs,v2,ln,Ai,cs,wa,wi,An,br];simp[q]) (A2 (by omega))
  have u:=FL (B:=RW v (Jx g)) (N:=Al) (ρ:=Int) v.pairs (fun p=>((1+v.raws.length+Br v.list+BP p:Nat):Int)) (fun i b=>(b,i)) id (fun i x hx=>by
   have j:=BS hx
   have l:i+1<9223372036854775808:=by have:=(Ya.1 hx).1;omega
   have hm:=Yi hx
   have e:=Qg g x.key (by have:=(TJ hm).1;omega) (GE k hm).1
   have o:=Qg g x.val (by have:=(TJ hm).2;omega) (GE k hm).2
   have m:=ZBx hx
   rw[ZpO]at m
   have d:((1+v.raws.length+Br v.list+BP (v.pairs.take i):Nat):Int)+((cnt x.key:Int)+(cnt x.val:Int))=((1+v.raws.length+Br v.list+BP (v.pairs.take i++[x]):Nat):Int):=by
    rw[V2,BP,BP,ZpO]
    omega
   have f: -9223372036854775808≤((1+v.raws.length+Br v.list+BP (v.pairs.take i):Nat):Int)+((cnt x.key:Int)+(cnt x.val:Int))∧((1+v.raws.length+Br v.list+BP (v.pairs.take i):Nat):Int)+((cnt x.key:Int)+(cnt x.val:Int))<9223372036854775808:=by omega
   have n: -9223372036854775808≤(cnt x.key:Int)+(cnt x.val:Int)∧(cnt x.key:Int)+(cnt x.val:Int)<9223372036854775808:=by omega
   generalize ((1+v.raws.length+Br v.list+BP (v.pairs.take i):Nat):Int)=a at d f⊢
   generalize ((1+v.raws.length+Br v.list+BP (v.pairs.take i++[x]):Nat):Int)=b at d⊢
   generalize (cnt x.key:Int)=c at e d f n
   generalize (cnt x.val:Int)=C at o d f n
   dsimp only[RW,Zw,br,ix,vz,wg,vs,ln,Ai,cs,wa,wi,An,br]
   simp only[r,j,hx,Yr,Yv,Yc]
   rw[e,Yc,o,Yc,Ym n,Ym f,Ym l,d]) (by dsimp only[RW,Zw,br,ix,vz,wg,vs,ln,Ai,cs,wa,wi,An,br];simp[r]) (A2 (by omega))
  have w:=FL (B:=R7 v (Jx g)) (N:=Al) (ρ:=Int) v.slots (fun p=>((1+v.raws.length+Br v.list+BP v.pairs+Cf p:Nat):Int)) (fun i b=>(b,i)) id (fun i x hx=>by
   have j:=BS hx
   have l:i+1<9223372036854775808:=by have:=(Ya.1 hx).1;omega
   have hm:=Yi hx
   have e:=Qg g x.val (by have:=wD hm;omega) (J2 k hm)
   have m:=ZzX hx
   rw[ZpH]at m
   have d:((1+v.raws.length+Br v.list+BP v.pairs+Cf (v.slots.take i):Nat):Int)+(cnt x.val:Int)=((1+v.raws.length+Br v.list+BP v.pairs+Cf (v.slots.take i++[x]):Nat):Int):=by
    rw[VX,Cf,Cf,ZpH]
    omega
   have f: -9223372036854775808≤((1+v.raws.length+Br v.list+BP v.pairs+Cf (v.slots.take i):Nat):Int)+(cnt x.val:Int)∧((1+v.raws.length+Br v.list+BP v.pairs+Cf (v.slots.take i):Nat):Int)+(cnt x.val:Int)<9223372036854775808:=by omega
   generalize ((1+v.raws.length+Br v.list+BP v.pairs+Cf (v.slots.take i):Nat):Int)=a at d f⊢
   generalize ((1+v.raws.length+Br v.list+BP v.pairs+Cf (v.slots.take i++[x]):Nat):Int)=b at d⊢
   generalize (cnt x.val:Int)=c at e d f
   dsimp only[R7,T6,br,ix,vz,wg,vs,ln,Ai,cs,wa,wi,An,br]
   simp only[s,j,hx,Yr,Yv,Yc]
   rw[e,Yc,Ym f,Ym l,d]) (by dsimp only[R7,T6,br,ix,vz,wg,vs,ln,Ai,cs,wa,wi,An,br];simp[s]) (A2 (by omega))
  simp only[Br,BP,Cf,G6,id]at t u w
  show Vb (Jx g) v=_
  dsimp only[Vb,gn,fj,cR,bj,cS,vz,wg,vs,lr,lc,wa,An]
  simp only[z,A,Yv,t,u,w,Yc,CV]
  rw[td]
theorem ZGx{s:Scm}(hs:Ar (Au s)≤1048576)(k:Bool)(n:ByteArray)(v:Val)(b:A3 v):jk s n v k=some (Ku s k n v):=by
 have h:=Gk hs
 have e:MK s n=some (AZ s n):=qg s _ h.ml
 have f:=Zx2 hs (AZ s n).1 v k (Qd h _) b
 have g:=Qg Al v (by have i:Ar (Ag v)≤1048576:=b;exact A2 (by omega)) b
 unfold Ku
 dsimp only[jk,b9,br,wg,lr,cl,br]
 rw[e,Yc,f,g]
 cases(AZ s n).2 with
 |false=>simp
 |true=>
  by_cases c:Ba s k 16 (AZ s n).1 v=0
  ·by_cases d:4096<cnt v
   ·have a:(4096:Int)<cnt v:=by omega
    simp[c,d,a]
   ·have a:¬(4096:Int)<cnt v:=by omega
    simp[c,d,a]
  ·simp[c]
theorem ZFY{s:Scm}(hs:Ar (Au s)≤1048576)(n:ByteArray)(v:Val)(a:A3 v):jR s n v=some (Ku s true n v):=by
 dsimp only[jR,bq,wg,lr,cl]
 rw[ZGx hs true n v a]
 rfl
theorem WU{l:List Fld}(h:Df l l.length):∀(d i:Nat) (a b:Fld),l[i]?=some a→l[i+1+d]?=some b→a.num<b.num
 |0,i,a,b,e,c=>h i a b (Ya.1 c).1 e c
 |d+1,i,a,b,e,c=>by
  have g:=(Ya.1 c).1
  have f:i+1+d<l.length:=by omega
  have j:=WU h d i a l[i+1+d] e (Ye f)
  have k:=h (i+1+d) l[i+1+d] b (by omega) (Ye f) c
  omega
theorem ZLK{l:List Fld}(h:Df l l.length){i:Nat}{f:Fld}(a:l[i]?=some f):∀g∈l.take i,g.num≠f.num:=fun g b=>by
 obtain⟨j,c,rfl⟩:=aK.1 b
 have:=WU h (i-(j+1)) j _ f (Ye (by omega)) (by rw[show j+1+(i-(j+1))=i by omega];exact a)
 omega
def DfL(F:List Fld):Prop:=∀f∈F,IX f∧A3 f.dflt
theorem Wh(F:List Fld)(k:Int):((Bz F k).2=false∧A4 F k=zF)∨((Bz F k).2=true∧A4 F k∈F):=by
 unfold A4 Bz C2
 cases e:F.find? fun f=>decide (f.num=k)with
 |none=>exact .inl ⟨rfl,rfl⟩
 |some f=>exact .inr ⟨rfl,HR e⟩
def BC(l:List Slt)(k:Int):Option Slt:=l.find? fun x=>decide (x.num=k)
theorem ZpL(l:List Slt)(k:Int):B7 l k=(BC l k).isSome:=by
 unfold B7 BC
 cases e:l.find? fun x=>decide (x.num=k)with
 |none=>exact L6.2 (Tf.1 e)
 |some x=>refine YL.2 ?_;exact⟨x,HR e,aS (p:=fun x:Slt=>decide (x.num=k)) e⟩
theorem ZtW{F:List Fld}(h:Df F F.length){i:Nat}{f:Fld}(a:F[i]?=some f):F=F.take i++f::F.drop (i+1)∧(∀g∈F.take i,g.num≠f.num)∧∀g∈F.drop (i+1),g.num≠f.num:=by
 obtain⟨hi,e⟩:=Ya.1 a
 refine⟨?_,ZLK h a,fun g c=>?_⟩
 ·rw[←e,List.getElem_cons_drop,HS]
 ·obtain⟨d,b⟩:=YG.1 c
  rw[Y3]at b
  have:=WU h d i f g a b
  omega
theorem Nl{F:List Fld}(h:Df F F.length){i:Nat}{f:Fld}(c:F[i]?=some f):Bz F f.num=(f,true):=by
 obtain⟨e,b,j⟩:=ZtW h c
 have a:F.find? (fun g=>decide (g.num=f.num))=some f:=by
  rw[e,S4,Tf.2 fun g d=>by simpa using b g d]
  simp
 unfold Bz C2
 rw[a]
 rfl
theorem ZIJ{s:Scm}(h:∀(i:Nat) (m:Msg),s.messages[i]?=some m→GdM s m)(hs:Ar (Au s)≤1048576)(n:ByteArray):Df (AD s n) (AD s n).length∧DfL (AD s n)∧(AD s n).length≤1048576:=by
 have hl:=Qd (Gk hs) n
 unfold AD C2 at*
 cases e:s.messages.find? fun m=>decide (m.name=n)with
 |none=>exact⟨fun i a b hi=>by simp[zM]at hi,fun f c=>by simp[zM]at c,by simp[zM]⟩
 |some m=>
  rw[e]at hl
  have hm:=HR e
  obtain⟨i,hi⟩:=YG.1 hm
  have g:=h i m hi
  refine⟨g.asc,fun f c=>?_,hl⟩
  obtain⟨j,k⟩:=YG.1 c
  refine⟨(g.df j f k).1,?_⟩
  have d:=C8 (e:=AR) hm
  have l:=C8 (e:=AB) (show f∈m.fields from c)
  simp only[Au,Ar,bk]at hs
  simp only[AR,Ar,bk]at d
  have e:Ar (Ag f.dflt)≤Ar (AB f):=by
   simp only[AB,Ag,Ar,bk]
   omega
  show Ar (Ag f.dflt)≤1048576
  omega
structure GdF (s:Scm) (f:Fld):Prop where
 en:f.type.kind=9→(Ds s f.type.name).2=true
 ms:f.type.kind=10→(AZ s f.type.name).2=true
 ty:1≤f.type.kind∧f.type.kind≤10
 un:f.union≠⟨#[]⟩→f.card=2
 cd:f.card≠5→1≤f.card∧f.card≤4
 np:f.type.kind=10→f.card≠3
 ky:f.card=5→f.key=1∨f.key=2∨f.key=3∨f.key=4∨f.key=5∨f.key=7
structure GdS (s:Scm):Prop where
 fl:∀(n:ByteArray) (f:Fld),f∈AD s n→GdF s f
 asc:∀n:ByteArray,Df (AD s n) (AD s n).length
theorem Un{n:Int}{v:Val}(h:DZ n v=0):v.kind=n∧Cq v=false∧v.text.size≤4096∧I8 n v=true:=by
 unfold DZ at h
 by_cases a1:v.kind≠n∨Cq v=true
 ·rw[Ym a1]at h;cases h
 ·rw[Yk a1]at h
  by_cases a:4096<v.text.size
  ·rw[Ym a]at h;cases h
  ·rw[Yk a]at h
   cases a3:I8 n v with
   |false=>
    rw[a3]at h
    rw[Yk (by decide)]at h
    split at h<;>cases h
   |true=>
    refine⟨Decidable.not_not.1 fun e=>a1 (.inl e),?_,by omega,rfl⟩
    cases b:Cq v with
    |false=>rfl
    |true=>exact absurd (.inr b) a1
theorem JH{F:List Fld}(h:Df F F.length){g:Fld}(a:g∈F):Bz F g.num=(g,true):=by
 obtain⟨i,hi⟩:=YG.1 a
 exact Nl h hi
theorem ZwC{α:Type}[Inhabited α]{l:List α}{z:α}{p:α→Bool}{x:α}(hx:x∈l)(a:p x=true):(C2 l z p).2=true:=by
 unfold C2
 cases e:l.find? p with
 |none=>exact absurd a (Tf.1 e x hx)
 |some y=>rfl
theorem ZLR{s:Scm}(h:∀(i:Nat) (m:Msg),s.messages[i]?=some m→GdM s m)(hs:Ar (Au s)≤1048576):GdS s:=by
 refine⟨fun n f a=>?_,fun n=>(ZIJ h hs n).1⟩
 unfold AD C2 at a
 cases e:s.messages.find? fun m=>decide (m.name=n)with
 |none=>rw[e]at a;cases a
 |some m=>
  rw[e]at a
  obtain⟨i,hi⟩:=YG.1 (HR e)
  obtain⟨j,g⟩:=YG.1 (show f∈m.fields from a)
  obtain⟨_,c,⟨t1,t2,t3⟩,u⟩:=(h i m hi).df j f g
  refine⟨fun k=>?_,fun k=>?_,t3,u,fun k=>⟨(c.1 k).1,(c.1 k).2.1⟩,fun k=>(t2 k).2,c.2⟩
  ·obtain⟨x,b,d⟩:=t1 k
   exact ZwC b (Yn d)
  ·obtain⟨⟨x,b,d⟩,_⟩:=t2 k
   exact ZwC b (Yn d)
theorem VM{α ξ:Type}{B:Nat→Option (Lv Nat ξ Bool)}{N:Nat}(xs ys:List α)(e:ξ)(hl:xs.length=ys.length)
  (hs:∀(i:Nat) (x y:α),xs[i]?=some x→ys[i]?=some y→∃b:Bool,(b=true↔x=y)∧B i=some (if b=true then .nx (i+1)else .rt false)) (he:B xs.length=some (.ex e)) (hN:xs.length<N):
  Ok (Sum.elim (fun _=>xs=ys) (fun r:Bool=>r=false∧xs≠ys)) (Am B N 0):=by
 refine BF (fun i:Nat=>i≤xs.length∧∀j:Nat,j<i→xs[j]?=ys[j]?) (fun i:Nat=>xs.length-i) ⟨CK _,fun j c=>absurd c (Y5 _)⟩ (by omega) fun i hi=>?_
 obtain⟨k,d⟩:=hi
 by_cases h:i<xs.length
 ·have hx:=Ye h
  have hy:=Ye (hl▸h:i<ys.length)
  obtain⟨b,f,g⟩:=hs i _ _ hx hy
  rw[g]
  cases b with
  |true=>
   refine⟨_,rfl,⟨⟨h,fun j c=>?_⟩,by show xs.length-(i+1)<xs.length-i;omega⟩⟩
   by_cases a:j=i
   ·subst a
    rw[hx,hy,f.1 rfl]
   ·exact d j (by omega)
  |false=>
   refine⟨_,rfl,rfl,fun a=>?_⟩
   subst a
   exact absurd (f.2 rfl) (by decide)
 ·have a:i=xs.length:=by omega
  subst a
  rw[he]
  refine⟨_,rfl,List.ext_getElem? fun j=>?_⟩
  by_cases c:j<xs.length
  ·exact d j c
  ·rw[YM (by omega),YM (by omega)]
abbrev DO{α:Type}(x y:α)(o:Option Bool):Prop:=Ok (fun b:Bool=>b=true↔x=y) o
theorem DO.no{α:Type}{x y:α}(h:x≠y):DO x y (some false):=⟨false,rfl,Iff.intro (fun e=>absurd e (by decide)) fun e=>absurd e h⟩
theorem DO.yes{α:Type}{x y:α}(h:x=y):DO x y (some true):=⟨true,rfl,Iff.intro (fun _=>h) fun _=>rfl⟩
theorem pK{a b:Val}:a=b↔a.kind=b.kind∧a.bits=b.bits∧a.text=b.text∧a.list=b.list∧a.pairs=b.pairs∧a.slots=b.slots∧a.raws=b.raws:=by
 cases a
 cases b
 simp only[Val.kind,Val.bits,Val.text,Val.list,Val.pairs,Val.slots,Val.raws,Val.mk.injEq]
theorem ZR1{a b:Pr}:a=b↔a.key=b.key∧a.val=b.val:=by
 cases a
 cases b
 simp only[Pr.key,Pr.val,Pr.mk.injEq]
theorem nD{a b:Slt}:a=b↔a.num=b.num∧a.val=b.val:=by
 cases a
 cases b
 simp only[Slt.num,Slt.val,Slt.mk.injEq]
theorem ZOv{a b:Raw}:a=b↔a.num=b.num∧a.wire=b.wire∧a.bits=b.bits∧a.data=b.data:=by
 cases a
 cases b
 simp only[Raw.mk.injEq]
structure SzL (v:Val):Prop where
 l:v.list.length≤4194304
 p:v.pairs.length≤4194304
 s:v.slots.length≤4194304
 r:v.raws.length≤4194304
theorem SzV.l'{v:Val}(h:SzV v):SzL v:=⟨by have:=h.l;omega,by have:=h.p;omega,by have:=h.s;omega,by have:=h.r;omega⟩
theorem ZqH(R:Val→Val→Option Bool)(a b:Val)(L:SzL a)(z:SzL b)(hl:∀x∈a.list,∀y∈b.list,DO x y (R x y))(M:∀x∈a.pairs,∀y∈b.pairs,DO x.key y.key (R x.key y.key)∧DO x.val y.val (R x.val y.val))(hs:∀x∈a.slots,∀y∈b.slots,DO x.val y.val (R x.val y.val)):DO a b (SU R a b):=by
 obtain⟨a1,X,a3,a4⟩:=L
 obtain⟨Y,Z,b3,b4⟩:=z
 have F:a.list.length<4611686018427387904:=by omega
 have G:a.pairs.length<4611686018427387904:=by omega
 have H:a.slots.length<4611686018427387904:=by omega
 have I:a.raws.length<4611686018427387904:=by omega
 have k1:b.list.length<4611686018427387904:=by omega
 have k2:b.pairs.length<4611686018427387904:=by omega
 have k3:b.slots.length<4611686018427387904:=by omega
 have k4:b.raws.length<4611686018427387904:=by omega
 have O:a.list.length=b.list.length→Ok (Sum.elim (fun _=>a.list=b.list) (fun r:Bool=>r=false∧a.list≠b.list)) (Am (O2 a b R) Al 0):=fun e=>VM a.list b.list () e (fun i x y hx hy=>by
  have d:=BS hx
  have g:i+1<9223372036854775808:=by have:=(Ya.1 hx).1;omega
  obtain⟨r,f,k⟩:=hl x (Yi hx) y (Yi hy)
  refine⟨r,k,?_⟩
  dsimp only[O2,Uo,br,ix,vz,wg,vs,AA,ln,Ai,cs,wa,An,br]
  simp only[F,d,hx,hy,Yr,Yv,Yc]
  rw[f]
  cases r<;>simp[g]) (by dsimp only[O2,Uo,br,ix,vz,wg,vs,AA,ln,Ai,cs,wa,An,br];simp[F]) (A2 (by omega))
 have P:a.pairs.length=b.pairs.length→Ok (Sum.elim (fun _=>a.pairs=b.pairs) (fun r:Bool=>r=false∧a.pairs≠b.pairs)) (Am (O7 a b R) Al 0):=fun e=>VM a.pairs b.pairs () e (fun i x y hx hy=>by
  have d:=BS hx
  have g:i+1<9223372036854775808:=by have:=(Ya.1 hx).1;omega
  have q:=BS hy
  have s:a.pairs.getD i Rw.z=x:=by rw[Yg,hx];rfl
  have u:b.pairs.getD i Rw.z=y:=by rw[Yg,hy];rfl
  have v:(0:Int)≤i∧(i:Int)<a.pairs.length:=⟨by omega,d⟩
  have w:(0:Int)≤i∧(i:Int)<b.pairs.length:=⟨by omega,q⟩
  obtain⟨⟨r,f,k⟩,⟨t,p,N⟩⟩:=M x (Yi hx) y (Yi hy)
  refine⟨r&&t,by rw[Yb,k,N,ZR1],?_⟩
  dsimp only[O7,UJ,br,ix,A1,vz,wg,vs,AA,ln,Ai,cs,J3,wa,An,br]
  simp only[G,d,hx,hy,s,u,v,w,Y0,Yr,Yv,Yc,Cw,EZ]
  rw[f,p]
  cases r<;>cases t<;>simp[g]) (by dsimp only[O7,UJ,br,ix,A1,vz,wg,vs,AA,ln,Ai,cs,J3,wa,An,br];simp[G]) (A2 (by omega))
 have Q:a.slots.length=b.slots.length→Ok (Sum.elim (fun _=>a.slots=b.slots) (fun r:Bool=>r=false∧a.slots≠b.slots)) (Am (O8 a b R) Al 0):=fun e=>VM a.slots b.slots () e (fun i x y hx hy=>by
  have d:=BS hx
  have g:i+1<9223372036854775808:=by have:=(Ya.1 hx).1;omega
  have q:=BS hy
  have s:a.slots.getD i Rw.z=x:=by rw[Yg,hx];rfl
  have u:b.slots.getD i Rw.z=y:=by rw[Yg,hy];rfl
  have v:(0:Int)≤i∧(i:Int)<a.slots.length:=⟨by omega,d⟩
  have w:(0:Int)≤i∧(i:Int)<b.slots.length:=⟨by omega,q⟩
  obtain⟨r,f,k⟩:=hs x (Yi hx) y (Yi hy)
  refine⟨decide (x.num=y.num)&&r,by rw[Yb,Yy,k,nD],?_⟩
  dsimp only[O8,UT,br,ix,A1,vz,wg,vs,AA,ln,Ai,J3,wa,An,br]
  simp only[H,d,hx,hy,s,u,v,w,Y0,Yr,Yv,Yc,Cw,EZ]
  rw[f]
  cases r<;>cases decide (x.num=y.num)<;>simp[g]) (by dsimp only[O8,UT,br,ix,A1,vz,wg,vs,AA,ln,Ai,J3,wa,An,br];simp[H]) (A2 (by omega))
 have S:a.raws.length=b.raws.length→Ok (Sum.elim (fun _=>a.raws=b.raws) (fun r:Bool=>r=false∧a.raws≠b.raws)) (Am (OU a b R) Al 0):=fun e=>VM a.raws b.raws () e (fun i x y hx hy=>by
  have d:=BS hx
  have g:i+1<9223372036854775808:=by have:=(Ya.1 hx).1;omega
  refine⟨decide (x.num=y.num)&&(decide (x.wire=y.wire)&&(decide (x.bits=y.bits)&&decide (x.data=y.data))),by simp only[Yb,Yy,ZOv],?_⟩
  dsimp only[OU,Ux,br,ix,vz,wg,vs,AA,ln,Ai,wa,An,br]
  simp only[I,d,hx,hy,Yr,Yv,Yc,OC]
  cases decide (x.num=y.num)&&(decide (x.wire=y.wire)&&(decide (x.bits=y.bits)&&decide (x.data=y.data)))<;>simp[g]) (by dsimp only[OU,Ux,br,ix,vz,wg,vs,AA,ln,Ai,wa,An,br];simp[I]) (A2 (by omega))
 dsimp only[SU,bD,iq,iD,iP,iX,ii,br,vy,wg,lr,lc,An,br]
 by_cases c:a.kind=b.kind∧a.bits=b.bits∧a.text=b.text∧a.list.length=b.list.length∧a.pairs.length=b.pairs.length∧a.slots.length=b.slots.length∧a.raws.length=b.raws.length
 ·obtain⟨A,B,j,C,D,c6,E⟩:=c
  obtain⟨T,f,l⟩:=O C
  obtain⟨U,p,m⟩:=P D
  obtain⟨V,J,n⟩:=Q c6
  obtain⟨W,K,o⟩:=S E
  simp only[A,B,j,C,D,c6,E,Yr,Y6,Tj,Yo,YR,f,p,J,K,Yc]
  cases T with
  |inr y=>
   obtain⟨rfl,l⟩:=l
   exact DO.no fun h=>l (by rw[h])
  |inl y=>
  cases U with
  |inr y=>
   obtain⟨rfl,m⟩:=m
   exact DO.no fun h=>m (by rw[h])
  |inl y=>
  cases V with
  |inr y=>
   obtain⟨rfl,n⟩:=n
   exact DO.no fun h=>n (by rw[h])
  |inl y=>
  cases W with
  |inr y=>
   obtain⟨rfl,o⟩:=o
   exact DO.no fun h=>o (by rw[h])
  |inl y=>exact DO.yes (pK.2 ⟨A,B,j,l,m,n,o⟩)
 ·have z:((((((!decide (a.kind=b.kind))||(!decide (a.bits=b.bits)))||(!decide (a.text=b.text)))||(!decide ((a.list.length:Int)=(b.list.length:Int))))||(!decide ((a.pairs.length:Int)=(b.pairs.length:Int))))||(!decide ((a.slots.length:Int)=(b.slots.length:Int)))||(!decide ((a.raws.length:Int)=(b.raws.length:Int))))=true:=by
   by_cases j:a.text=b.text
   ·simp only[YI,YJ,YN]
    simp only[j,HT]at c
    omega
   ·simp[j]
  rw[z]
  exact DO.no fun h=>c (by rw[h];exact⟨rfl,rfl,rfl,rfl,rfl,rfl,rfl⟩)
theorem RQ:∀(c:Nat) (a b:Val),Ar (Ag a)<c→A3 a→A3 b→DO a b (Jv c a b)
 |0,a,b,h,_,_=>by omega
 |c+1,a,b,h,d,e=>ZqH (Jv c) a b (DB d).l' (DB e).l'
  (fun x hx y hy=>RQ c x y (by have:=u9 hx;omega) (Sa d hx) (Sa e hy))
  (fun x hx y hy=>⟨RQ c x.key y.key (by have:=(TJ hx).1;omega) (GE d hx).1 (GE e hy).1,RQ c x.val y.val (by have:=(TJ hx).2;omega) (GE d hx).2 (GE e hy).2⟩)
  (fun x hx y hy=>RQ c x.val y.val (by have:=wD hx;omega) (J2 d hx) (J2 e hy))
theorem vZ{a b:Val}(c:A3 a)(d:A3 b):DO a b (Jv Al a b):=RQ Al a b (by have h:Ar (Ag a)≤1048576:=c;exact A2 (by omega)) c d
end Go.Proofs.YtjbijbkdiijhaaaGreat
