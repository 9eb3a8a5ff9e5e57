import Derived.Test.YtopncadjpnkjhaaGreatDoorZk19
import Derived.Sort.Walk0
import Derived.Test.YtopncadjpnkjhaaGreatDoorZk00
namespace Go.Proofs.YtopncadjpnkjhaaGreatDoor
set_option linter.all false
open Go Go.Eng
theorem O2{n:Nat}(h:n<18446744073709551616):IntKind.u64.wrap (n:Int)=n:=by
 unfold IntKind.wrap
 have:(IntKind.u64.bits)=64:=rfl
 simp only[this,show IntKind.u64.signed=false from rfl,E0,Yx,YY]
 omega
theorem Jf(n:Nat):BitVec.ofInt 64 (n:Int)=BitVec.ofNat 64 n:=BitVec.ofInt_natCast ..
theorem U0{n m:Nat}(a:n<18446744073709551616)(hm:m<18446744073709551616):Cu .u64 (n:Int) (m:Int)=((n&&&m:Nat):Int):=by
 unfold Cu
 have h:(BitVec.ofInt 64 (n:Int)&&&BitVec.ofInt 64 (m:Int)).toNat=n&&&m:=by
  rw[Jf,Jf,BitVec.toNat_and,KP,KP,HH a,HH hm]
 show IntKind.u64.wrap (((BitVec.ofInt 64 (n:Int)&&&BitVec.ofInt 64 (m:Int)).toNat:Nat):Int)=_
 rw[h]
 exact O2 (Nat.lt_of_le_of_lt Nat.and_le_left a)
theorem uK{n m:Nat}(a:n<18446744073709551616)(hm:m<18446744073709551616):ET .u64 (n:Int) (m:Int)=((n|||m:Nat):Int):=by
 unfold ET
 have h:(BitVec.ofInt 64 (n:Int)|||BitVec.ofInt 64 (m:Int)).toNat=n|||m:=by
  rw[Jf,Jf,BitVec.toNat_or,KP,KP,HH a,HH hm]
 show IntKind.u64.wrap (((BitVec.ofInt 64 (n:Int)|||BitVec.ofInt 64 (m:Int)).toNat:Nat):Int)=_
 rw[h]
 exact O2 (Nat.or_lt_two_pow (n:=64) a hm)
theorem rr{n:Nat}(a:n<18446744073709551616):Hk .u64 (n:Int)=((18446744073709551615-n:Nat):Int):=by
 unfold Hk JJ
 have e:(if IntKind.u64.signed=true then(-1:Int)else IntKind.u64.max)=((18446744073709551615:Nat):Int):=rfl
 rw[e]
 have h:(BitVec.ofInt 64 ((18446744073709551615:Nat):Int)^^^BitVec.ofInt 64 (n:Int)).toNat=18446744073709551615-n:=by
  rw[Jf,Jf,show BitVec.ofNat 64 18446744073709551615=BitVec.allOnes 64 from rfl,BitVec.allOnes_xor,BitVec.toNat_not,KP,HH a]
 show IntKind.u64.wrap (((BitVec.ofInt 64 ((18446744073709551615:Nat):Int)^^^BitVec.ofInt 64 (n:Int)).toNat:Nat):Int)=_
 rw[h]
 exact O2 (by omega)
theorem tN(n:Nat):n&&&9218868437227405312=(n/4503599627370496%2048)*4503599627370496:=by
 have e:(9218868437227405312:Nat)=2047<<<52:=rfl
 have a:n/4503599627370496%2048*4503599627370496=((n>>>52)%2^11)<<<52:=by
  rw[Nat.shiftLeft_eq,Nat.shiftRight_eq_div_pow]
 rw[e,a]
 apply Nat.eq_of_testBit_eq
 intro i
 have b:(2047:Nat)=2^11-1:=rfl
 rw[Nat.testBit_and,X2,X2,Nat.testBit_mod_two_pow,Nat.testBit_shiftRight,b,Nat.testBit_two_pow_sub_one]
 by_cases h:52≤i
 ·rw[show 52+(i-52)=i by omega]
  simp only[h,YB,Dn]
  rw[Bool.and_comm]
 ·simp[h]
theorem qM(n:Nat):n&&&4503599627370495=n%4503599627370496:=Nat.and_two_pow_sub_one_eq_mod n 52
theorem rm{n:Nat}(b:n<18446744073709551616):n&&&9223372036854775808=if 9223372036854775808≤n then 9223372036854775808 else 0:=by
 have e:(9223372036854775808:Nat)=2^63:=rfl
 have k:n.testBit 63=decide (9223372036854775808≤n):=by
  rw[Nat.testBit_eq_decide_div_mod_eq,decide_eq_decide]
  omega
 apply Nat.eq_of_testBit_eq
 intro i
 rw[Nat.testBit_and]
 by_cases hi:63=i
 ·subst hi
  rw[k]
  by_cases h:9223372036854775808≤n
  ·simp[h]
  ·simp[h]
 ·have a:Nat.testBit 9223372036854775808 i=false:=by
   rw[e,Nat.testBit_two_pow]
   exact Ex hi
  rw[a,HI]
  split
  ·exact a.symm
  ·simp
def N9(n:Nat):Bool:=decide (9218868437227405312<n%9223372036854775808)
theorem mS{n:Nat}(e:n<18446744073709551616):Ok (fun y:Int=>decide (y=0)=N9 n) (T8 (n:Int)):=by
 have a:=U0 e (m:=9218868437227405312) (by omega)
 have b:=U0 e (m:=4503599627370495) (by omega)
 rw[tN]at a
 rw[qM]at b
 have a:Cu .u64 (n:Int) 9218868437227405312=_:=a
 have b:Cu .u64 (n:Int) 4503599627370495=_:=b
 dsimp only[T8,br,vz,lr,br]
 rw[a,b]
 unfold N9
 have f:(((n/4503599627370496%2048*4503599627370496:Nat):Int)=9218868437227405312)↔n/4503599627370496%2048=2047:=by omega
 have g:(((n%4503599627370496:Nat):Int)=0)↔n%4503599627370496=0:=by omega
 have h:9218868437227405312<n%9223372036854775808↔n/4503599627370496%2048=2047∧n%4503599627370496≠0:=by omega
 simp only[f,g,h]
 by_cases c:n/4503599627370496%2048=2047
 ·by_cases d:n%4503599627370496=0
  ·simp only[c,d];exact Ay (by decide)
  ·simp only[c,d];exact Ay (by simp[d])
 ·have i:decide (n/4503599627370496%2048=2047)=false:=Ex c
  simp only[i,c,E0,Dp,YZ,Yx,YY]
  refine Az (fun _=>Ay (by decide)) fun _=>Az (fun _=>Ay (by decide)) fun _=>Ay (by decide)
end Go.Proofs.YtopncadjpnkjhaaGreatDoor
namespace Go.Proofs.YtopncadjpnkjhaaGreatDoor
set_option linter.all false
open Go Go.Eng
def Hy(n:Nat):Nat:=if N9 n=true then 18446744073709551615 else if 9223372036854775808≤n then 18446744073709551615-n else n+9223372036854775808
theorem aY{n:Nat}(a:n<18446744073709551616):T3 (n:Int)=some (Hy n:Int):=by
 obtain⟨y,e,h⟩:=mS a
 have c:=U0 a (m:=9223372036854775808) (by omega)
 rw[rm a]at c
 have c:Cu .u64 (n:Int) 9223372036854775808=_:=c
 have d:=rr a
 have f:ET .u64 (n:Int) 9223372036854775808=((n|||9223372036854775808:Nat):Int):=uK a (m:=9223372036854775808) (by omega)
 dsimp only[T3,br,vz,lr,cl,br]
 rw[e,Yh,h,c,d,f]
 unfold Hy
 cases N9 n with
 |true=>rfl
 |false=>
  by_cases hs:9223372036854775808≤n
  ·simp[hs]
  ·have g:n|||9223372036854775808=n+9223372036854775808:=by
    have j:=Nat.two_pow_add_eq_or_of_lt (i:=63) (b:=n) (by omega) 1
    rw[Nat.or_comm]
    have k:9223372036854775808+n=9223372036854775808|||n:=j
    exact k.symm.trans (KY _ _)
   simp[hs,g]
def Ki(a b:Int):Int:=if a<b then -1 else if b<a then 1 else 0
theorem QA(a b:Int):decide (Ki a b=0)=decide (a=b):=by
 unfold Ki
 by_cases h:a<b
 ·rw[Yj h,Ex (by omega:¬a=b)];rfl
 ·rw[Yi h]
  by_cases c:b<a
  ·rw[Yj c,Ex (by omega:¬a=b)];rfl
  ·rw[Yi c,Y3 (by omega:a=b)];rfl
theorem ZI(a b:Int):TN a b=some (Ki a b):=by
 dsimp only[TN,br,lr,cl,br,b8,lr]
 unfold Ki
 by_cases h:a<b
 ·simp[h]
 ·by_cases c:b<a<;>simp[h,c]
theorem ab(a b:Int):Tf a b=some (Ki a b):=by
 dsimp only[Tf,br,lr,cl,br,bS,lr]
 unfold Ki
 by_cases h:a<b
 ·simp[h]
 ·by_cases c:b<a<;>simp[h,c]
def QI(d x:Val):Bool:=decide (d.kind=x.kind)&&(if d.kind=7∨d.kind=8 then decide (d.text=x.text)else if d.kind=6 then decide (Hy d.bits.toNat=Hy x.bits.toNat)else decide (d.bits=x.bits))
def QF(a b:ByteArray):Int:=if BG a b=true then -1 else if a=b then 0 else 1
theorem mq(a b:ByteArray):decide (QF a b=0)=decide (a=b):=by
 unfold QF
 by_cases h:a=b
 ·subst h
  have:BG a a=false:=by
   unfold BG
   rw[Go.Proofs.bytesLess_eq]
   exact Ex (List.lt_irrefl _)
  simp[this]
 ·cases BG a b<;>simp[h]
theorem m6(a b:ByteArray):Td a b=some (QF a b):=by
 dsimp only[Td,br,lr,cl,br,bU,lr]
 unfold QF
 cases h:BG a b with
 |true=>simp
 |false=>by_cases c:a=b<;>simp[c]
theorem nf{d x:Val}(p:1≤d.kind∧d.kind≤9)(e:Bt d)(f:Bt x):On d x=some (QI d x):=by
 obtain⟨n,l⟩:=XS (Qd e).1
 obtain⟨k,i⟩:=XS (Qd f).1
 have m:n<18446744073709551616:=by have:=(Qd e).2;omega
 have j:k<18446744073709551616:=by have:=(Qd f).2;omega
 have o:(decide (1≤d.kind)&&decide (d.kind≤9))=true:=by simp[p]
 unfold QI
 by_cases he:d.kind=x.kind
 ·have h:(decide (1≤x.kind)&&decide (x.kind≤9))=true:=by rw[←he];exact o
  dsimp only[On,wg,lr,cl,T9,br,wg,lr,cl,br,b7,wg,lr,cl,bT,Ua,lr,cq,br,vz,wg,lr,cl,br,Oo,lr]
  simp only[he,YB,DO,Yx,YY,h,YK,Yh,Dn]
  rw[←he]
  by_cases g:d.kind=7∨d.kind=8
  ·have b:(decide (d.kind=7)||decide (d.kind=8))=true:=by simpa using g
   rw[Yj g]
   simp only[b,YK,m6,Yh]
   rw[mq]
  ·have b:(decide (d.kind=7)||decide (d.kind=8))=false:=by simpa using g
   rw[Yi g]
   simp only[b,Yx,YY]
   by_cases hs:d.kind=2∨d.kind=3
   ·have a:(decide (d.kind=2)||decide (d.kind=3))=true:=by simpa using hs
    have c:¬d.kind=6:=by omega
    rw[Yi c]
    simp only[a,YK,ZI,Yh]
    rw[QA,l,i,IntKind.wrap_i64,IntKind.wrap_i64]
    refine congrArg some (decide_eq_decide.2 ?_)
    omega
   ·have a:(decide (d.kind=2)||decide (d.kind=3))=false:=by simpa using hs
    by_cases c:d.kind=6
    ·have q:(Hy d.bits.toNat=Hy x.bits.toNat)↔((Hy n:Int)=(Hy k:Int)):=by rw[l,i];simp only[HG];omega
     simp only[a,Yx,YY]
     rw[Yj c]
     simp only[c,YK,YB,l,i,aY m,aY j,ab,Yh,HG]
     rw[QA]
     refine congrArg some (decide_eq_decide.2 ?_)
     omega
    ·simp only[a,c,Yx,YY,YZ,ab,Yh]
     rw[QA]
 ·dsimp only[On,wg,lr,cl,T9,br,wg,lr,cl,br]
  simp only[he,YZ,DN,YK,ZI,Yh,E0,QA]
theorem m9{α ρ:Type}{B:Int×Int×List α→Option (Lv (Int×Int×List α) (Int×List α) ρ)}(l:List α)(p:α→Bool)
  (s:∀(i j:Nat) (r:List α) x,i≤j→r.length=l.length→r[j]?=some x→l[j]?=some x→B ((i:Int),(j:Int),r)=some (.nx (if p x then((i:Int),((j+1:Nat):Int),r)else(((i+1:Nat):Int),((j+1:Nat):Int),r.set i x))))
  (t:∀(i:Nat) r,B ((i:Int),(l.length:Int),r)=some (.ex ((i:Int),r))):
  ∀(k N i j:Nat) (r:List α),j+k=l.length→k<N→i≤j→r.length=l.length→r.take i=(l.take j).filter (fun x=>!p x)→i=((l.take j).filter fun x=>!p x).length→r.drop j=l.drop j→
  ∃(n:Nat) (o:List α),Ak B N ((i:Int),(j:Int),r)=some (.inl ((n:Int),o))∧o.take n=l.filter (fun x=>!p x)∧n=(l.filter fun x=>!p x).length∧o.length=l.length:=by
 intro k
 induction k with
 |zero=>
  intro N i j r u hN b c d hi e
  obtain⟨N,rfl⟩:∃m,N=m+1:=⟨N-1,by omega⟩
  have:j=l.length:=by omega
  subst this
  rw[Rr]at d hi
  exact⟨i,r,by rw[Ak,t],d,hi,c⟩
 |succ k q=>
  intro N i j r u hN b c d hi e
  obtain⟨N,rfl⟩:∃m,N=m+1:=⟨N-1,by omega⟩
  have a:j<l.length:=by omega
  have hl:l[j]?=some l[j]:=Yc a
  have h:r[j]?=some l[j]:=by
   have:=congrArg (fun z=>z[0]?) e
   simpa[YM,a]using this
  have e0:l.take (j+1)=l.take j++[l[j]]:=YW a
  rw[Ak,s i j r l[j] b c h hl]
  cases f:p l[j]with
  |true=>
   refine q N i (j+1) r (by omega) (by omega) (by omega) c ?_ ?_ ?_
   ·rw[e0,KQ,d];simp[f]
   ·rw[e0,KQ];simpa[f]using hi
   ·have:=congrArg (List.drop 1) e
    simpa[KW]using this
  |false=>
   have g:i<r.length:=by omega
   refine q N (i+1) (j+1) (r.set i l[j]) (by omega) (by omega) (by omega) (by rw[List.length_set];exact c) ?_ ?_ ?_
   ·rw[e0,KQ,←d,YW (by rw[List.length_set];exact g),List.take_set_of_le (Yg _),XX]
    simp[f]
   ·rw[e0,KQ,Yq,←hi]
    simp[f]
   ·rw[List.drop_set_of_lt (by omega)]
    have:=congrArg (List.drop 1) e
    simpa[KW]using this
theorem wD(l:List Fld)(h:l.length<549755813888):Ox l=some l:=by
 unfold Ox
 simp only[al,Ho,IC,br,ix,CZ,vz,vy,vw,vs,vg,v2,lr,Ap,ln,Ah,lc,lf,Hu,ap,aq,a0,a1,ad,cl,cs,cf,wa,wi,ir,ca,cp,dd,mv,st,ss,sL,Bd.c,Bd.vl,sR,CC,Yx,YY,h,YK]
theorem l0(l:List Fld)(f:Fld→Option Bool)(p:Fld→Bool)(d:∀x∈l,f x=some (p x))(h:l.length<4611686018427387904):Ol l f=some (FF l p):=by
 unfold Ol
 simp only[al,Ho,IC,br,ix,CZ,vz,vy,vw,vs,vg,v2,lr,Ap,ln,Ah,lc,lf,Hu,ap,aq,a0,a1,ad,cl,cs,cf,wa,wi,ir,ca,cp,dd,mv,st,ss,sL,Bd.c,Bd.vl,sR,CC]
 rw[E2 l p (fun i=>(i:Int)) () (hN:=BO h) (he:=by simp[OR,al,Ho,IC,br,ix,CZ,vz,vy,vw,vs,vg,v2,lr,Ap,ln,Ah,lc,lf,Hu,ap,aq,a0,a1,ad,cl,cs,cf,wa,wi,ir,ca,cp,dd,mv,st,ss,sL,Bd.c,Bd.vl,sR,CC]) (hs:=by
  intro i y hy
  obtain⟨a,rfl⟩:=Ye.1 hy
  have b:i+1<9223372036854775808:=by omega
  have c:=d l[i] (Yo hy)
  simp[OR,al,Ho,IC,br,ix,CZ,vz,vy,vw,vs,vg,v2,lr,Ap,ln,Ah,lc,lf,Hu,ap,aq,a0,a1,ad,cl,cs,cf,wa,wi,ir,ca,cp,dd,mv,st,ss,sL,Bd.c,Bd.vl,sR,CC,a,b,c]
  cases p l[i]<;>rfl)]
 unfold FF
 cases l.findIdx? _<;>rfl
theorem wC(l:List Fld)(f:Fld→Option Bool)(p:Fld→Bool)(k:∀x∈l,f x=some (p x))(h:l.length<549755813888):Oi l f=some (l.filter fun x=>!p x):=by
 have e0:=l0 l f p k (by omega)
 unfold Oi
 dsimp only[vw,vs,vg,vz,cs,br,lr,lf,lc,wi]
 rw[e0,Yh]
 cases hi:l.findIdx? p with
 |none=>
  rw[show FF l p= -1 from by unfold FF;rw[hi]]
  rw[show l.filter (fun x=>!p x)=l from List.filter_eq_self.2 fun x a=>by rw[XO.1 hi x a];rfl]
  rfl
 |some i=>
  obtain⟨t,u,v⟩:=Ri.1 hi
  rw[show FF l p=(i:Int)from by unfold FF;rw[hi]]
  have b:((i:Int)= -1)=False:=eq_false (by omega)
  have m: -9223372036854775808≤(i:Int)+1∧(i:Int)+1<9223372036854775808:=by omega
  have y:(l.take i).filter (fun x=>!p x)=l.take i:=List.filter_eq_self.2 fun x a=>by
   obtain⟨j,H,rfl⟩:=XP.1 a
   rw[Bool.eq_false_iff.2 (v j (by omega))];rfl
  have g:(l.take (i+1)).filter (fun x=>!p x)=l.take i:=by rw[YW t,KQ,y];simp[u]
  obtain⟨c,E,z,A,C,D⟩:=m9 (B:=LQ l f) l p (fun i j r x w I a hl=>by
    have G:=(Ye.1 hl).1
    have q:(j:Int)<(l.length:Int):=by omega
    have s:=k x (Yo hl)
    have F: -9223372036854775808≤(i:Int)+1∧(i:Int)+1<9223372036854775808:=by omega
    have w2: -9223372036854775808≤(j:Int)+1∧(j:Int)+1<9223372036854775808:=by omega
    have d:(0:Int)≤(j:Int):=by omega
    have e:(0:Int)≤(i:Int):=by omega
    have n:(i:Int)<(l.length:Int):=by omega
    have o:i<r.length:=by omega
    dsimp only[LQ,al,Ho,IC,br,ix,CZ,vz,vy,vw,vs,vg,v2,lr,Ap,ln,Ah,lc,lf,Hu,ap,aq,a0,a1,ad,cl,cs,cf,wa,wi,ir,ca,cp,dd,mv,st,ss,sL,Bd.c,Bd.vl,sR,CC,WU,WW,WT,WX,rb,cr,QT,ch]
    simp only[ID,CC,q,s,F,w2,d,e,n,o,a,EY,IV,DM,YB,YK,HG,Yh]
    cases p x<;>simp)
   (fun i r=>by
    dsimp only[LQ,al,Ho,IC,br,ix,CZ,vz,vy,vw,vs,vg,v2,lr,Ap,ln,Ah,lc,lf,Hu,ap,aq,a0,a1,ad,cl,cs,cf,wa,wi,ir,ca,cp,dd,mv,st,ss,sL,Bd.c,Bd.vl,sR,CC,WU,WW,WT,WX,rb,cr,QT,ch]
    simp)
   (l.length-(i+1)) Aj i (i+1) l (by omega) (BO (by omega)) (by omega) rfl g.symm (by rw[g,YS];omega) rfl
  rw[show((i:Int)+1)=((i+1:Nat):Int)from rfl]at m⊢
  simp only[b,m,z,YZ,YB,Yx,EY,YK,YY,Yh,Rm]
  have d:c≤l.length:=by rw[C];exact XM _ _
  have e:(c:Int)=((E.take c).length:Int):=by rw[YS];omega
  simp[A,D,al,Ho,IC,br,ix,CZ,vz,vy,vw,vs,vg,v2,lr,Ap,ln,Ah,lc,lf,Hu,ap,aq,a0,a1,ad,cl,cs,cf,wa,wi,ir,ca,cp,dd,mv,st,ss,sL,Bd.c,Bd.vl,sR,CC,WU,WW,WT,WX,rb,cr,QT,ch]
  omega
theorem VB{v:Val}(h:SzV v):T5 v=some (Bp v):=by
 obtain⟨t1,t2,t3,t4,t5⟩:=h
 have b:v.list.length<4611686018427387904:=by omega
 have c:v.pairs.length<4611686018427387904:=by omega
 have d:v.slots.length<4611686018427387904:=by omega
 have e:v.raws.length<4611686018427387904:=by omega
 have f:v.slots.length+v.raws.length<9223372036854775808:=by omega
 dsimp only[T5,vy,wg,vg,lr,wa,Ag]
 simp only[b,c,d,e,f,FK,YK]
 congr 1
 unfold Bp
 rw[Rt]
 by_cases a:v.text=⟨#[]⟩<;>simp only[a,YB,YZ,Yu,Yb,YN,YO,YI,DO,DN,E0,Dn,ne_eq,KS,KE,Dp,DM,Ni,Yx,or_false,false_or,IN]<;>omega
theorem wc(n:Int):Oo n=some (DA n):=by
 dsimp only[Oo,lr]
 unfold DA
 rw[Bool.decide_or]
theorem kY{v:Val}(h:SzV v):TX v=some (Hh v&&(if DA v.kind=true then decide (v.bits=0)else decide (v.text=⟨#[]⟩))):=by
 obtain⟨t1,t2,t3,t4,t5⟩:=h
 have a:v.list.length<4611686018427387904:=by omega
 have b:v.pairs.length<4611686018427387904:=by omega
 have c:v.slots.length<4611686018427387904:=by omega
 have d:v.raws.length<4611686018427387904:=by omega
 have e:v.list.length+v.pairs.length<9223372036854775808:=by omega
 have f:v.list.length+v.pairs.length+v.slots.length<9223372036854775808:=by omega
 have g:v.list.length+v.pairs.length+v.slots.length+v.raws.length<9223372036854775808:=by omega
 have hl:decide ((0:Int)<((v.list.length+v.pairs.length+v.slots.length+v.raws.length:Nat):Int))=!Hh v:=by
  unfold Hh
  rw[←decide_not]
  refine decide_eq_decide.2 ?_
  omega
 dsimp only[TX,br,vz,wg,vs,lr,cl,wa,Ag,br]
 simp only[a,b,c,d,e,f,g,YK]
 rw[hl,wc,Yh]
 cases Hh v<;>cases DA v.kind<;>rfl
theorem rM(n b:Int):T7 n b=some (JW n b):=by
 unfold JW
 dsimp only[T7,br,vz,vy,lr,br]
 by_cases a:n=1
 ·subst a;rfl
 by_cases c:n=2
 ·subst c
  simp only[YB,YZ,YK,YY,FK,show¬(2:Int)=1 by decide,Yx]
  rw[Bool.decide_and]
 by_cases e:n=9
 ·subst e;rfl
 by_cases d:n=4
 ·subst d;rfl
 simp only[a,c,d,e,YZ,Yx,YY]
theorem v7(n:Int){v:Val}(h:SzV v):T0 n v=some (Hf n v):=by
 have k:=h.t
 have p:v.text.size<4611686018427387904:=by omega
 have m:Ua n=some (decide (1≤n)&&decide (n≤9)):=rfl
 dsimp only[T0,br,vy,wg,lr,cl,AA,A1,br]
 rw[m,kY h,rM,et _ k,Yh]
 unfold Hf
 by_cases c:1≤n∧n≤9∧v.kind=n
 ·obtain⟨g,i,j⟩:=c
  simp only[g,i,j,EY,YB,KX,DO,Rn,HJ,DN,K1,HP,YR,YK,Yh,FK,p,Dn]
  cases hl:Hh v with
  |false=>rfl
  |true=>
   cases b:DA n with
   |true=>
    have o:JW n v.bits=true:=by
     unfold DA at b
     rw[YO]at b
     unfold JW
     rw[Yi (by omega),Yi (by omega),Yi (by omega),Yi (by omega)]
    rw[o]
    by_cases f:v.bits=0
    ·by_cases hs:v.text.size≤4096
     ·have a:¬(4096:Int)<v.text.size:=by omega
      unfold DA at b
      rw[YO]at b
      simp only[f,hs,a,YB,YZ,EY,DO,Rn,Yx,YY,YK,Dn,KX,DN]
      congr 2
      rw[←decide_not]
      exact decide_eq_decide.2 (by omega)
     ·have a:(4096:Int)<v.text.size:=by omega
      simp only[hs,a,YB,YZ,FJ,M9,YK,E0,HI]
    ·simp only[f,YZ,HI,DN,IW,M9,YK,Dp,E0,Dn]
   |false=>
    have hs:v.text=⟨#[]⟩→¬(4096:Int)<v.text.size:=fun e=>by rw[e];decide
    have l:¬n=7:=by
     unfold DA at b
     rw[YI]at b
     omega
    by_cases d:v.text=⟨#[]⟩
    ·have hs:=hs d
     simp only[d,hs,l,YB,YZ,DO,DN,Yx,YY,Dn,M7,HJ,IW,Ni]
     rw[d]at hs
     simp only[hs,YZ,Ni]
     cases JW n v.bits<;>rfl
    ·simp only[d,YZ,DN,IW,YK,E0,HI,Yx,YY,DO,M9,Dn]
 ·have e:((!(decide (1≤n)&&decide (n≤9)))||!decide (v.kind=n))=true:=by
   simp only[Yu,YN,KM,YI]
   omega
  simp only[e,c,YZ,E0,DO,Yx,Rk,YK,IW]
theorem UQ{n:Int}{v:Val}(c:1≤n)(d:n≤9)(e:v.kind=n)(a:Bp v=false):Hh v=true∧(DA n=true→v.bits=0)∧(DA n=false→v.text=⟨#[]⟩):=by
 unfold Bp at a
 rw[YI]at a
 simp only[not_or,Classical.not_and_iff_not_or_not,Classical.not_not,ne_eq]at a
 obtain⟨a1,b,a3,a4,a5⟩:=a
 unfold Hh DA
 rw[YO,YO,YI]
 refine⟨by omega,fun h=>?_,fun h=>?_⟩
 ·rcases a5 with a5|a5
  ·exact a5
  ·omega
 ·rcases a4 with a4|a4
  ·exact a4
  ·omega
def J4(s:Scm)(t:Typ)(v:Val):Int:=if CI t.kind v≠0∨t.kind≠9 then CI t.kind v else if(Cy s t.name).1.opn=false∧Iw (Cy s t.name).1 v.bits=false then 16 else 0
theorem hZ(s:Scm)(n:ByteArray)(h:s.enums.length≤1048576):Ud s n=some (Cy s n):=by
 have d:=E2 (B:=LZ s.enums fun z=>Lj z n) (N:=Aj) s.enums (fun e=>decide (e.name=n)) (fun i=>(s.enums.getD i default,true)) () (fun i x a=>by
  have b:=Ci a
  have f:=(Ye.1 a).1
  have c:i+1<9223372036854775808:=by omega
  have e:Lj x n=some (decide (x.name=n)):=rfl
  dsimp only[LZ,br,ix,wg,vs,Ap,ln,Ah,cf,wa,br]
  simp only[b,c,a,e,YB,YK,Yh,Yw,YR]
  cases decide (x.name=n)<;>simp) (by simp[LZ,br,ix,wg,vs,Ap,ln,Ah,cf,wa,br]) (BO (by omega))
 dsimp only[Ud,wg,lr,cs,TO,vz,wg,lr,lc,Ag]
 unfold Cy
 rw[d,LA]
 cases s.enums.findIdx? fun m=>decide (m.name=n)<;>rfl
theorem eU{s:Scm}(h:SzS s)(n:ByteArray):(Cy s n).1.items.length≤1048576:=by
 unfold Cy Cv
 cases e:s.enums.find? fun m=>decide (m.name=n)with
 |none=>decide
 |some m=>exact(h.e m (KV e)).il
theorem qJ(l:List Itm)(f:Itm→Option Bool)(p:Itm→Bool)(e:∀x∈l,f x=some (p x))(h:l.length≤1048576):Om l f=some (l.any p):=by
 have g:=E2 (B:=LM l f) (N:=Aj) l p (fun i=>(i:Int)) () (fun i x a=>by
  have b:=Ci a
  have j:=(Ye.1 a).1
  have c:i+1<9223372036854775808:=by omega
  have d:=e x (Yo a)
  dsimp only[LM,br,ix,vs,Ap,ln,Ah,cf,wa,br]
  simp only[b,c,d,a,YB,YK,Yh]
  cases p x<;>simp) (by simp[LM,br,ix,vs,Ap,ln,Ah,cf,wa,br]) (BO (by omega))
 dsimp only[Om,lr,cs,TQ,vz,lr,lc,Ag]
 rw[g,←M2]
 cases l.findIdx? p with
 |none=>rfl
 |some i=>simp
theorem dq(e:Enm)(b:Int)(h:e.items.length≤1048576):TL e b=some (e.opn||Iw e b):=by
 dsimp only[TL,wg,lr,DH]
 rw[qJ e.items (fun z=>Oj z b) (fun x=>decide (IntKind.u64.wrap x.num=b)) (fun x _=>rfl) h]
 unfold Iw
 cases e.opn<;>simp
theorem nD{v:Val}(c:v.kind=7)(d:Bp v=false)(b:¬4096<v.text.size):Hf 7 v=Fl v.text:=by
 obtain⟨a1,a,a3⟩:=UQ (n:=7) (by decide) (by decide) c d
 have a:=a (by decide)
 unfold Hf
 rw[a1,show DA 7=true by decide,c,a]
 have b:v.text.size≤4096:=by omega
 simp[b]
theorem fS(s:Scm)(t:Typ){v:Val}(hs:SzS s)(h:SzV v):Ug s t v=some (J4 s t v):=by
 have i:=h.t
 have d:v.text.size<4611686018427387904:=by omega
 dsimp only[Ug,br,vz,wg,lr,cl,AA,A1,br]
 rw[VB h,et _ i,v7 t.kind h,hZ s _ hs.el,Yh,Yh,dq _ _ (eU hs _)]
 unfold J4 CI
 by_cases c:v.kind=t.kind
 ·cases j:Bp v with
  |true=>simp[c]
  |false=>
   by_cases a:4096<v.text.size
   ·have b:(4096:Int)<v.text.size:=by omega
    simp[c,d,a,b]
   ·have b:¬(4096:Int)<v.text.size:=by omega
    by_cases e:t.kind=7
    ·have g:=nD (c.trans e) j a
     rw[e]at c⊢
     rw[g]
     cases Fl v.text with
     |false=>simp[c,d,a,b]
     |true=>simp[c,d,a,b]
    ·cases Hf t.kind v with
     |false=>simp[c,d,a,b,e]
     |true=>
      by_cases f:t.kind=9
      ·simp[c,d,a,b,e,f]
       cases(Cy s t.name).1.opn<;>cases Iw (Cy s t.name).1 v.bits<;>simp
      ·simp[c,d,a,b,e,f]
 ·simp[c]
theorem dV{α ξ ρ:Type}{B:Nat→Option (Lv Nat ξ ρ)}{N:Nat}(l:List α)(p:α→Bool)(r:ρ)(e:ξ)
  (hs:∀i x,l[i]?=some x→B i=some (if p x=true then .rt r else .nx (i+1))) (he:B l.length=some (.ex e)) (hN:l.length<N):Ak B N 0=some (if l.any p=true then .inr r else .inl e):=by
 rw[E2 l p (fun _=>r) e hs he hN,←M2]
 cases l.findIdx? p<;>rfl
theorem lu:20<Aj:=BO (by omega)
mutual
theorem LN:∀v:Val,cnt v≤2*Ao (AC v)+1
 |.mk k b t l p s r=>by
  have a:=fd l
  have c:=fh p
  have d:=fg s
  have f:=B1 (e:=A3) r
  simp only[cnt,AC,Ao,bk]
  omega
theorem fd:∀l:List Val,Bg l≤2*Bk (JE l)
 |[]=>by simp[Bg]
 |v::l=>by
  have a:=LN v
  have b:=fd l
  simp only[Bg,JE,Bk]
  omega
theorem sn:∀p:Pr,Jw p≤2*Ao (Av p)+2
 |.mk k v=>by
  have a:=LN k
  have b:=LN v
  simp only[Jw,Av,Lw]
  omega
theorem fh:∀l:List Pr,Cn l≤2*Bk (JI l)
 |[]=>by simp[Cn]
 |v::l=>by
  have a:=sn v
  have b:=fh l
  simp only[Cn,JI,Bk]
  omega
theorem rR:∀x:Slt,JC x≤2*Ao (Aq x)+1
 |.mk n v=>by
  have a:=LN v
  simp only[JC,Aq,Ao,bk]
  omega
theorem fg:∀l:List Slt,Cm l≤2*Bk (Jr l)
 |[]=>by simp[Cm]
 |v::l=>by
  have a:=rR v
  have b:=fg l
  simp only[Cm,Jr,Bk]
  omega
end
theorem Pj(v:Val):cnt v=1+v.raws.length+Bg v.list+Cn v.pairs+Cm v.slots:=by cases v;simp only[cnt,Val.raws,Val.list,Val.pairs,Val.slots]
theorem ej(p:Pr):Jw p=cnt p.key+cnt p.val:=by cases p;simp only[Jw,Pr.key,Pr.val]
theorem eH(x:Slt):JC x=cnt x.val:=by cases x;simp only[JC,Slt.val]
theorem HU:∀a b:List Val,Bg (a++b)=Bg a+Bg b
 |[],b=>by simp[Bg]
 |x::a,b=>by rw[GJ,Bg,Bg,HU a b];omega
theorem UT:∀a b:List Pr,Cn (a++b)=Cn a+Cn b
 |[],b=>by simp[Cn]
 |x::a,b=>by rw[GJ,Cn,Cn,UT a b];omega
theorem UP:∀a b:List Slt,Cm (a++b)=Cm a+Cm b
 |[],b=>by simp[Cm]
 |x::a,b=>by rw[GJ,Cm,Cm,UP a b];omega
theorem vu{v:Val}(h:Bt v):cnt v≤2097153:=by
 have:=LN v
 rw[FW]at this
 have h:Ao (Ai v)≤1048576:=h
 omega
theorem qr(l:List Val)(i:Nat):Bg (l.take i)≤Bg l:=by
 conv=>rhs;rw[←GI i l,HU]
 omega
theorem qg(l:List Pr)(i:Nat):Cn (l.take i)≤Cn l:=by
 conv=>rhs;rw[←GI i l,UT]
 omega
theorem qD(l:List Slt)(i:Nat):Cm (l.take i)≤Cm l:=by
 conv=>rhs;rw[←GI i l,UP]
 omega
theorem ez{l:List Val}{i:Nat}{x:Val}(h:l[i]?=some x):Bg (l.take i)+cnt x≤Bg l:=by
 obtain⟨a,rfl⟩:=Ye.1 h
 have:=qr l (i+1)
 rw[YW a,HU,Bg,Bg]at this
 omega
theorem rY{l:List Pr}{i:Nat}{x:Pr}(h:l[i]?=some x):Cn (l.take i)+Jw x≤Cn l:=by
 obtain⟨a,rfl⟩:=Ye.1 h
 have:=qg l (i+1)
 rw[YW a,UT,Cn,Cn]at this
 omega
theorem sH{l:List Slt}{i:Nat}{x:Slt}(h:l[i]?=some x):Cm (l.take i)+JC x≤Cm l:=by
 obtain⟨a,rfl⟩:=Ye.1 h
 have:=qD l (i+1)
 rw[YW a,UP,Cm,Cm]at this
 omega
def C4(v:Val):List Val:=v.list++v.pairs.flatMap (fun p=>[p.key,p.val])++v.slots.map fun x=>x.val
theorem PB(l:List Pr):(l.flatMap fun p=>[p.key,p.val]).length=2*l.length:=by
 induction l with
 |nil=>rfl
 |cons p l a=>rw[List.flatMap_cons,Yq,a];simp;omega
theorem vd(l:List Pr):Bg (l.flatMap fun p=>[p.key,p.val])=Cn l:=by
 induction l with
 |nil=>rfl
 |cons p l a=>rw[List.flatMap_cons,HU,a,Cn,ej,Bg,Bg,Bg];omega
theorem tX(l:List Slt):Bg (l.map fun x=>x.val)=Cm l:=by
 induction l with
 |nil=>rfl
 |cons p l a=>rw[Y1,Bg,a,Cm,eH]
theorem ei(v:Val):1+v.raws.length+Bg (C4 v)=cnt v:=by
 unfold C4
 rw[HU,HU,vd,tX,Pj]
 omega
theorem sb{v x:Val}(e:Bt v)(g:x∈C4 v):Bt x∧Ao (Ai x)+1≤Ao (Ai v):=by
 unfold C4 at g
 rcases IS.1 g with d|d
 ·rcases IS.1 d with c|c
  ·exact⟨Wn e c,by have:=l2 c;omega⟩
  ·obtain⟨p,a,b⟩:=List.mem_flatMap.1 c
   have h:=lb a
   have f:=Ws e a
   rcases YF.1 b with rfl|b
   ·exact⟨f.1,by omega⟩
   ·rcases YF.1 b with rfl|b
    ·exact⟨f.2,by omega⟩
    ·cases b
 ·obtain⟨y,a,rfl⟩:=YQ.1 d
  exact⟨WI e a,by have:=li a;omega⟩
theorem qW(l:List Val)(h:l.length<549755813888):Ov l=some l:=by
 cases l with
 |nil=>rfl
 |cons x r=>
  dsimp only[Ov,al,br,vw,lr,a0,mv,br]
  simp only[Ew]at h
  simp
  omega
theorem uU{v:Val}(h:SzV v):TW v=some (C4 v):=by
 obtain⟨t1,t2,t3,t4,t5⟩:=h
 have e:=Lr (B:=L2 v) (N:=Aj) (ρ:=List Val) v.pairs (fun p=>v.list++p.flatMap fun p=>[p.key,p.val]) (fun i b=>(b,i)) id (fun i y hy=>by
  have a:=Ci hy
  have g:=(Ye.1 hy).1
  have c:i+1<9223372036854775808:=by omega
  have d:(v.list++(v.pairs.take i).flatMap fun p=>[p.key,p.val]).length<549755813800:=by
   rw[Yq,PB,YS]
   omega
  rw[List.flatMap_append,←Y8]
  generalize (v.list++(v.pairs.take i).flatMap fun p=>[p.key,p.val])=L at d⊢
  dsimp only[L2,br,ix,vz,vw,wg,vs,ln,Ah,WJ,wa,fl,br]
  simp[a,hy,c]<;>omega) (by
   have:(v.list++v.pairs.flatMap fun p=>[p.key,p.val]).length<549755813800:=by
    rw[Yq,PB]
    omega
   dsimp only[L2,br,ix,vz,vw,wg,vs,ln,Ah,WJ,wa,fl,br]
   simp) (BO (by omega))
 have f:=Lr (B:=L9 v) (N:=Aj) (ρ:=List Val) v.slots (fun p=>(v.list++v.pairs.flatMap fun p=>[p.key,p.val])++p.map fun x=>x.val) (fun i b=>(b,i)) id (fun i y hy=>by
  have a:=Ci hy
  have g:=(Ye.1 hy).1
  have c:i+1<9223372036854775808:=by omega
  have d:((v.list++v.pairs.flatMap fun p=>[p.key,p.val])++(v.slots.take i).map fun x=>x.val).length<549755813800:=by
   rw[Yq,Yq,PB,Yz,YS]
   omega
  rw[IT,←Y8]
  generalize ((v.list++v.pairs.flatMap fun p=>[p.key,p.val])++(v.slots.take i).map fun x=>x.val)=L at d⊢
  dsimp only[L9,br,ix,vz,vw,wg,vs,ln,Ah,ap,wa,fl,br]
  simp[a,hy,c]<;>omega) (by
   dsimp only[L9,br,ix,vz,vw,wg,vs,ln,Ah,ap,wa,fl,br]
   simp) (BO (by omega))
 rw[show(v.list++([]:List Pr).flatMap fun p=>[p.key,p.val])=v.list by simp]at e
 rw[show((v.list++v.pairs.flatMap fun p=>[p.key,p.val])++([]:List Slt).map fun x=>x.val)=(v.list++v.pairs.flatMap fun p=>[p.key,p.val])by simp]at f
 dsimp only[TW,vz,wg,lr,lc,fl,fr,Ag]
 rw[qW _ (by omega)]
 simp only[Yh,e,f,id,Rm]
 rfl
theorem qK{v:Val}(h:SzV v):(C4 v).length≤4194304:=by
 obtain⟨t1,t2,t3,t4,t5⟩:=h
 unfold C4
 rw[Yq,Yq,PB,Yz]
 omega
theorem gH:∀(d:Nat) (v:Val),Ao (Ai v)<d→Bt v→I2 d v=some (cnt v:Int)
 |0,v,h,_=>by omega
 |d+1,v,h,k=>by
  have l:=EV k
  have w:=l.r
  have hl:=qK l
  have q:=vu k
  rw[←ei]at q
  have r:v.raws.length<4611686018427387904:=by omega
  have s:1+v.raws.length<9223372036854775808:=by omega
  have t:(C4 v).length<4611686018427387904:=by omega
  have m:=Lr (B:=LX (I2 d) (C4 v)) (N:=Aj) (ρ:=Int) (C4 v) (fun p=>((1+v.raws.length+Bg p:Nat):Int)) (fun i b=>(b,i)) id (fun i x f=>by
   have n:=Ci f
   have o:i+1<9223372036854775808:=by have:=(Ye.1 f).1;omega
   have hm:=sb k (Yo f)
   have e:=gH d x (by omega) hm.1
   have u:=ez f
   have g:((1+v.raws.length+Bg ((C4 v).take i):Nat):Int)+(cnt x:Int)=((1+v.raws.length+Bg ((C4 v).take i++[x]):Nat):Int):=by
    rw[HU,Bg,Bg]
    omega
   have j: -9223372036854775808≤((1+v.raws.length+Bg ((C4 v).take i):Nat):Int)+(cnt x:Int)∧((1+v.raws.length+Bg ((C4 v).take i):Nat):Int)+(cnt x:Int)<9223372036854775808:=by omega
   generalize ((1+v.raws.length+Bg ((C4 v).take i):Nat):Int)=a at g j⊢
   generalize ((1+v.raws.length+Bg ((C4 v).take i++[x]):Nat):Int)=b at g⊢
   generalize (cnt x:Int)=c at e g j
   dsimp only[LX,br,ix,wg,vs,v2,ln,Ah,cs,wa,wi,br]
   simp only[n,f,YB,YK,Yh]
   rw[e,Yh,Yj j,Yj o,g]) (by dsimp only[LX,br,ix,wg,vs,v2,ln,Ah,cs,wa,wi,br];simp) (BO (by omega))
  simp only[Bg,Ey,id]at m
  show Oa (I2 d) v=_
  dsimp only[Oa,vz,wg,vs,lr,lc,cl,wa,Ag]
  rw[uU l]
  simp only[r,s,t,YK,m,Yh,Rm]
  rw[ei]
theorem VP{l:List Fld}(h:Dd l l.length):∀(d i:Nat) (a b:Fld),l[i]?=some a→l[i+1+d]?=some b→a.num<b.num
 |0,i,a,b,e,c=>h i a b (Ye.1 c).1 e c
 |d+1,i,a,b,e,c=>by
  have g:=(Ye.1 c).1
  have f:i+1+d<l.length:=by omega
  have j:=VP h d i a l[i+1+d] e (Yc f)
  have k:=h (i+1+d) l[i+1+d] b (by omega) (Yc f) c
  omega
theorem wj{l:List Fld}(h:Dd l l.length){i:Nat}{f:Fld}(a:l[i]?=some f):∀g∈l.take i,g.num≠f.num:=fun g b=>by
 obtain⟨j,c,rfl⟩:=XP.1 b
 have:=VP h (i-(j+1)) j _ f (Yc (by omega)) (by rw[show j+1+(i-(j+1))=i by omega];exact a)
 omega
def kP(F:List Fld):Prop:=∀f∈F,Gy f∧Bt f.dflt
theorem eT(F:List Fld)(k:Int):((BH F k).2=false∧Bh F k=zF)∨((BH F k).2=true∧Bh F k∈F):=by
 unfold Bh BH Cv
 cases e:F.find? fun f=>decide (f.num=k)with
 |none=>exact .inl ⟨rfl,rfl⟩
 |some f=>exact .inr ⟨rfl,KV e⟩
theorem qp{F:List Fld}(h:Dd F F.length){i:Nat}{f:Fld}(a:F[i]?=some f):F=F.take i++f::F.drop (i+1)∧(∀g∈F.take i,g.num≠f.num)∧∀g∈F.drop (i+1),g.num≠f.num:=by
 obtain⟨hi,e⟩:=Ye.1 a
 refine⟨?_,wj h a,fun g c=>?_⟩
 ·rw[←e,List.getElem_cons_drop,GI]
 ·obtain⟨d,b⟩:=Yy.1 c
  rw[YM]at b
  have:=VP h d i f g a b
  omega
theorem Jm{F:List Fld}(h:Dd F F.length){i:Nat}{f:Fld}(c:F[i]?=some f):BH F f.num=(f,true):=by
 obtain⟨e,b,j⟩:=qp h c
 have a:F.find? (fun g=>decide (g.num=f.num))=some f:=by
  rw[e,List.find?_append,List.find?_eq_none.2 fun g d=>by simpa using b g d]
  simp
 unfold BH Cv
 rw[a]
 rfl
theorem ur{s:Scm}(h:∀(i:Nat) (m:Msg),s.messages[i]?=some m→GdM s m)(hs:Ao (An s)≤1048576)(n:ByteArray):Dd (FA s n) (FA s n).length∧kP (FA s n)∧(FA s n).length≤1048576:=by
 have hl:=Vk (FG hs) n
 unfold FA Cv at*
 cases e:s.messages.find? fun m=>decide (m.name=n)with
 |none=>exact⟨fun i a b hi=>by simp[zM]at hi,fun f c=>by simp[zM]at c,by simp[zM]⟩
 |some m=>
  rw[e]at hl
  have hm:=KV e
  obtain⟨i,hi⟩:=Yy.1 hm
  have g:=h i m hi
  refine⟨g.asc,fun f c=>?_,hl⟩
  obtain⟨j,k⟩:=Yy.1 c
  refine⟨(g.df j f k).1,?_⟩
  have d:=CH (e:=AG) hm
  have l:=CH (e:=Am) (show f∈m.fields from c)
  simp only[An,Ao,bk]at hs
  simp only[AG,Ao,bk]at d
  have e:Ao (Ai f.dflt)≤Ao (Am f):=by
   simp only[Am,Ai,Ao,bk]
   omega
  show Ao (Ai f.dflt)≤1048576
  omega
structure GdF (s:Scm) (f:Fld):Prop where
 en:f.type.kind=9→(Cy s f.type.name).2=true
 ms:f.type.kind=10→(Bm s f.type.name).2=true
 ty:1≤f.type.kind∧f.type.kind≤10
 un:f.union≠⟨#[]⟩→f.card=2
 cd:f.card≠5→1≤f.card∧f.card≤4
 np:f.type.kind=10→f.card≠3
 ky:f.card=5→f.key=1∨f.key=2∨f.key=3∨f.key=4∨f.key=5∨f.key=7
structure GdS (s:Scm):Prop where
 fl:∀(n:ByteArray) (f:Fld),f∈FA s n→GdF s f
 asc:∀n:ByteArray,Dd (FA s n) (FA s n).length
theorem Sx{n:Int}{v:Val}(h:CI n v=0):v.kind=n∧Bp v=false∧v.text.size≤4096∧Hf n v=true:=by
 unfold CI at h
 by_cases a1:v.kind≠n∨Bp v=true
 ·rw[Yj a1]at h;cases h
 ·rw[Yi a1]at h
  by_cases a:4096<v.text.size
  ·rw[Yj a]at h;cases h
  ·rw[Yi a]at h
   cases a3:Hf n v with
   |false=>
    rw[a3]at h
    rw[Yi (by decide)]at h
    split at h<;>cases h
   |true=>
    refine⟨Decidable.not_not.1 fun e=>a1 (.inl e),?_,by omega,rfl⟩
    cases b:Bp v with
    |false=>rfl
    |true=>exact absurd (.inr b) a1
theorem uV{s:Scm}{t:Typ}{v:Val}{R:Msg→Val→Int}(a:1≤t.kind)(b:t.kind≤9)(he:t.kind=9→(Cy s t.name).2=true):J4 s t v=Cw R s t v:=by
 unfold J4 Cw
 rw[Yi (by omega:¬t.kind=10),Yi (by omega:¬(t.kind<1∨9<t.kind))]
 by_cases c:CI t.kind v≠0∨t.kind≠9
 ·rw[Yj c,Yj c]
 ·rw[Yi c,Yi c,he (by omega),Yi (by decide:¬true=false)]
theorem vG{n:Int}{a b:Val}(l:n=1∨n=2∨n=3∨n=4∨n=5∨n=7)(j:CI n a=0)(k:CI n b=0):QI a b=H7 a b:=by
 obtain⟨a1,h,_,_⟩:=Sx j
 obtain⟨d,i,_,_⟩:=Sx k
 obtain⟨_,a3,a4⟩:=UQ (n:=n) (by omega) (by omega) a1 h
 obtain⟨_,e,f⟩:=UQ (n:=n) (by omega) (by omega) d i
 unfold QI H7
 rw[a1,d,Y3 rfl,Dn]
 unfold DA at a3 a4 e f
 by_cases c:n=7
 ·rw[a3 (Y3 (.inl c)),e (Y3 (.inl c)),Yj (.inl c)]
  simp
 ·have g:decide (n=7∨n=8)=false:=Ex (by omega)
  rw[a4 g,f g,Yi (by omega),Yi (by omega)]
  simp
theorem sw(l:List Pr)(f:Pr→Option Bool)(p:Pr→Bool)(e:∀x∈l,f x=some (p x))(h:l.length≤1048576):K8 l f=some (l.any p):=by
 have g:=E2 (B:=LR l f) (N:=Aj) l p (fun i=>(i:Int)) () (fun i x a=>by
  have b:=Ci a
  have j:=(Ye.1 a).1
  have c:i+1<9223372036854775808:=by omega
  have d:=e x (Yo a)
  dsimp only[LR,br,ix,vs,Ap,ln,Ah,cf,wa,br]
  simp only[b,c,d,a,YB,YK,Yh]
  cases p x<;>simp) (by simp[LR,br,ix,vs,Ap,ln,Ah,cf,wa,br]) (BO (by omega))
 dsimp only[K8,lr,cs,TR,vz,lr,lc,Ag]
 rw[g,←M2]
 cases l.findIdx? p with
 |none=>rfl
 |some i=>simp
theorem UU(l:List Slt)(f:Slt→Option Bool)(p:Slt→Bool)(a:∀x∈l,f x=some (p x))(h:l.length≤1048576):I0 l f=some (l.any p):=by
 dsimp only[I0,lr,cs]
 rw[wG l f p a (by omega)]
 simp only[Yh]
 rw[s4]
theorem vU(l:List Slt)(f:Fld)(h:l.length≤1048576):Ow l f=some (CW l f.num):=by
 dsimp only[Ow,lr,cs]
 rw[UU l (fun z=>OA z f) (fun x=>decide (x.num=f.num)) (fun x _=>rfl) h]
 rfl
theorem wo(l:List Slt)(f:Fld)(h:l.length≤1048576):Oy l f=some (CW l f.num):=by
 dsimp only[Oy,lr,cs]
 rw[UU l (fun z=>OC z f) (fun x=>decide (x.num=f.num)) (fun x _=>rfl) h]
 rfl
theorem v6(l:List Slt)(f:Fld)(h:l.length≤1048576):Ou l f=some (CW l f.num):=by
 dsimp only[Ou,lr,cs]
 rw[UU l (fun z=>OD z f) (fun x=>decide (x.num=f.num)) (fun x _=>rfl) h]
 rfl
def FH(F:List Fld)(u:ByteArray):List Fld:=if u=⟨#[]⟩then[]else F.filter fun f=>decide (f.union=u)
theorem tM(m:Msg)(u:ByteArray)(h:m.fields.length≤1048576):Ui m u=some (FH m.fields u):=by
 unfold FH
 by_cases c:u=⟨#[]⟩
 ·subst c
  rfl
 ·dsimp only[Ui,br,vz,wg,lr,lc,fl,fr,br]
  rw[wD _ (by omega),Yh,wC m.fields (fun z=>Oq z u) (fun f=>!decide (f.union=u)) (fun f _=>rfl) (by omega),Yh]
  simp[c]
theorem fF(F:List Fld)(u:ByteArray):(FH F u).length≤F.length:=by
 unfold FH
 split
 ·exact DP _
 ·exact XM _ _
theorem vJ{F:List Fld}(h:Dd F F.length){g:Fld}(a:g∈F):BH F g.num=(g,true):=by
 obtain⟨i,hi⟩:=Yy.1 a
 exact Jm h hi
theorem kV{F:List Fld}(h:Dd F F.length)(l:List Slt)(k:Int)(j:CW l k=false)(u:ByteArray):((FH F u).any fun g=>(!decide (g.num=k))&&CW l g.num)=G9 F l u:=by
 unfold FH G9
 by_cases c:u=⟨#[]⟩
 ·simp[c]
 ·rw[Yi c,Ex c,DN,Dn,Rt,YG,YG]
  constructor
  ·rintro⟨g,d,a⟩
   obtain⟨m,n⟩:=IQ.1 d
   rw[Yb]at a
   obtain⟨y,o,i⟩:=YG.1 (show(l.any fun x=>decide (x.num=g.num))=true from a.2)
   rw[YO]at i
   refine⟨y,o,?_⟩
   unfold Bh
   rw[i,vJ h m]
   exact n
  ·rintro⟨y,d,a⟩
   rw[YO]at a
   rcases eT F y.num with⟨f,b⟩|⟨f,b⟩
   ·rw[b]at a
    exact absurd a.symm c
   ·have p:=eC f
    refine⟨Bh F y.num,IQ.2 ⟨b,Y3 a⟩,?_⟩
    rw[p,Yb]
    have hy:CW l y.num=true:=YG.2 ⟨y,d,Y3 rfl⟩
    refine⟨?_,hy⟩
    rw[YN,YI]
    intro e
    rw[e]at hy
    rw[hy]at j
    cases j
abbrev Ju:=Scm→Fld→Val→Int→Option Int
theorem ti(R:Ju)(o:Fld→Val→Int)(s:Scm)(m:Msg)(l:List Slt)(i:Nat)(x:Slt)(d:Int)(F:Dd m.fields m.fields.length)(hm:m.fields.length≤1048576)(hl:l.length≤1048576)(n:l[i]?=some x)(E:∀f:Fld,f∈m.fields→R s f x.val d=some (o f x.val)):OK R s m l i d=some (Es o m.fields l i x):=by
 have hi:=(Ye.1 n).1
 have u:(l.take i).length≤1048576:=by rw[YS];omega
 have w0:(0:Int)≤i∧(i:Int)<l.length:=by omega
 have b:(0:Int)≤i∧(i:Int)≤l.length:=by omega
 have c:i≤l.length:=by omega
 have w:(BH m.fields x.num).1=Bh m.fields x.num:=rfl
 have J:(l.getD i Rw.z)=x:=by rw[Yw,n];rfl
 have I:∀y:Fld×Bool,CW (l.take i) y.1.num=false→Ak (Jq s l i d R y (FH m.fields y.1.union)) Aj 0=some (if G9 m.fields (l.take i) y.1.union=true then .inr 15 else .inl ()):=fun y hy=>by
  have v:=fF m.fields y.1.union
  have q:=dV (B:=Jq s l i d R y (FH m.fields y.1.union)) (N:=Aj) (FH m.fields y.1.union) (fun g=>(!decide (g.num=y.1.num))&&CW (l.take i) g.num) (15:Int) () (fun j g k=>by
   have C:=Ci k
   have D:j+1<9223372036854775808:=by have:=(Ye.1 k).1;omega
   have e:=wo (l.take i) g u
   dsimp only[Jq,br,ix,wg,vs,Ap,ln,Ah,DH,wa,br]
   simp only[C,D,k,b,c,e,HG,Bd.c,Bd.vl,Ro,GF,YB,YK,Yh,EY,FK,HP,YR,DP]
   cases(!decide (g.num=y.1.num))&&CW (l.take i) g.num<;>simp) (by dsimp only[Jq,br,ix,wg,vs,Ap,ln,Ah,DH,wa,br];simp) (BO (by omega))
  rw[q,kV F _ _ hy]
 have z:=vU (l.take i) (Bh m.fields x.num) u
 have A:=tM m (Bh m.fields x.num).union hm
 have v:(FH m.fields (Bh m.fields x.num).union).length<4611686018427387904:=by have:=fF m.fields (Bh m.fields x.num).union;omega
 unfold Es
 dsimp only[OK,Ww,br,CZ,vz,vw,wg,lr,lc,cl,cs,sL,du,Ag,br]
 simp only[HG,n,w0,b,c,J,EY,YK,kw _ _ hm,Yh,w,Bd.c,Bd.vl,Ro,GF,z,A,v,DP]
 cases r:(BH m.fields x.num).2 with
 |false=>simp
 |true=>
  have t:(Bh m.fields x.num).num=x.num:=eC r
  have a:Bh m.fields x.num∈m.fields:=by
   rcases eT m.fields x.num with⟨h,p⟩|⟨h,p⟩
   ·rw[r]at h;cases h
   ·exact p
  have H:=E _ a
  have q:=I (BH m.fields x.num)
  rw[w,t]at q
  rw[t]
  cases G:CW (l.take i) x.num with
  |true=>simp
  |false=>
   have q:=q G
   simp only[q,DO,Yx,YY,Yh]
   cases G9 m.fields (l.take i) (Bh m.fields x.num).union with
   |true=>simp
   |false=>simp[H]
structure GdT (s:Scm) (t:Typ):Prop where
 en:t.kind=9→(Cy s t.name).2=true
 ms:t.kind=10→(Bm s t.name).2=true
 ty:1≤t.kind∧t.kind≤10
theorem GdF.t{s:Scm}{f:Fld}(h:GdF s f):GdT s f.type:=⟨h.en,h.ms,h.ty⟩
def NL(R:Ju)(s:Scm)(d:Nat):Prop:=∀d':Nat,d=d'+1→∀(f:Fld) (x:Val),GdF s f→Bt x→R s f x (16-(d':Int))=some (CJ (A0 s true d') s true f x)
theorem wn{s:Scm}(hs:Ao (An s)≤1048576)(m:Msg)(x:Raw)(hm:m.fields.length≤1048576)(q:x.data.size≤1048576):Uf s m x=some (Ir s m.fields x):=by
 have h:=FG hs
 have o:x.data.size<4611686018427387904:=by omega
 have k:=hZ s (Bh m.fields x.num).type.name h.el
 have l:=dq (Cy s (Bh m.fields x.num).type.name).1 x.bits (eU h _)
 have p:(BH m.fields x.num).1=Bh m.fields x.num:=rfl
 have n:Um s (Bh m.fields x.num) x=some (PR s (Bh m.fields x.num) x):=by
  unfold PR
  dsimp only[Um,wg,lr,cl,AA]
  rw[k,Yh,l]
  generalize Cy s (Bh m.fields x.num).type.name=g
  generalize Bh m.fields x.num=f
  simp only[HP,FK,YK,YR]
  congr 1
  cases g.2<;>cases g.1.opn<;>cases decide (f.type.kind=9)<;>cases decide (f.card=5)<;>cases decide (x.wire=0)<;>cases decide (x.bits<2147483648)<;>cases Iw g.1 x.bits<;>rfl
 dsimp only[Uf,br,vy,wg,lr,cl,AA,A1,br]
 rw[kw _ _ hm,Yh,p,n]
 unfold Ir
 generalize PR s (Bh m.fields x.num) x=kp
 have j:(if((decide (x.wire=3)&&decide ((4096:Int)<x.data.size))||decide ((65536:Int)<x.data.size))=true then some (3:Int)else some 0)=some (if(x.wire=3∧4096<x.data.size)∨65536<x.data.size then 3 else 0):=by
  by_cases c:(x.wire=3∧4096<x.data.size)∨65536<x.data.size
  ·rw[Yj c,Yj]
   simp only[Yu,Yb,YO]
   omega
  ·rw[Yi c,Yi]
   simp only[Yu,Yb,YO]
   omega
 simp only[o,FK,YK,HP,YR]
 by_cases a:x.num<1∨65535<x.num∨x.wire<0∨6<x.wire
 ·have a1:(((decide (x.num<1)||decide (65535<x.num))||decide (x.wire<0))||decide (6<x.wire))=true:=by
   simp only[Yu,YO]
   omega
  rw[Yj a1,Yj (by omega)]
 ·have a1:¬(((decide (x.num<1)||decide (65535<x.num))||decide (x.wire<0))||decide (6<x.wire))=true:=by
   simp only[Yu,YO]
   omega
  rw[Yi a1]
  by_cases b:(x.wire≤2∧x.data≠⟨#[]⟩)∨(2<x.wire∧x.bits≠0)
  ·have d:((decide (x.wire≤2)&&!decide (x.data=⟨#[]⟩))||((!decide (x.wire≤2))&&!decide (x.bits=0)))=true:=by
    by_cases i:x.data=⟨#[]⟩<;>simp only[i,YB,YZ,DO,DN,HI,M7,HJ,Yu,Yb,YN,YO,YI,ne_eq,KS,KE,FJ,IV,false_or]at b⊢<;>omega
   have e:x.num<1∨65535<x.num∨x.wire<0∨6<x.wire∨(x.wire≤2∧x.data≠⟨#[]⟩)∨(2<x.wire∧x.bits≠0):=.inr (.inr (.inr (.inr b)))
   rw[Yj e,d]
   rfl
  ·have d:((decide (x.wire≤2)&&!decide (x.data=⟨#[]⟩))||((!decide (x.wire≤2))&&!decide (x.bits=0)))=false:=by
    by_cases i:x.data=⟨#[]⟩<;>simp only[i,YB,YZ,DO,DN,HI,M7,HJ,IN,KM,RD,YO,YI,ne_eq,KS,KE,FJ,IV,false_or]at b⊢<;>omega
   have e:¬(x.num<1∨65535<x.num∨x.wire<0∨6<x.wire∨(x.wire≤2∧x.data≠⟨#[]⟩)∨(2<x.wire∧x.bits≠0)):=fun h=>by
    rcases h with h|h|h|h|h
    ·exact a (.inl h)
    ·exact a (.inr (.inl h))
    ·exact a (.inr (.inr (.inl h)))
    ·exact a (.inr (.inr (.inr h)))
    ·exact b h
   rw[Yi e,d,j]
   cases(BH m.fields x.num).2<;>cases kp<;>simp
theorem gf(R:Ju){s:Scm}(hs:Ao (An s)≤1048576)(g:GdS s)(n:ByteArray)(v:Val)(d:Nat)(L:d≤16)(q:Bt v)(C:NL R s d):OG R s (Bm s n).1 v (17-(d:Int))=some (A0 s true d (Bm s n).1 v):=by
 have h:=FG hs
 have hm:(Bm s n).1.fields.length≤1048576:=Vk h n
 have y:Dd (Bm s n).1.fields (Bm s n).1.fields.length:=g.asc n
 have j:∀f∈(Bm s n).1.fields,GdF s f:=g.fl n
 generalize (Bm s n).1=m at hm y j
 have E:=EV q
 obtain⟨s1,s2,M,z,O⟩:=EV q
 have I:m.fields.length<4611686018427387904:=by omega
 have J:v.slots.length<4611686018427387904:=by omega
 have K:v.raws.length<4611686018427387904:=by omega
 dsimp only[OG,br,vz,wg,lr,lc,AA,Ag,br]
 rw[VB E]
 by_cases c:v.kind≠10∨Bp v=true
 ·have A:A0 s true d m v=12:=by cases d<;>(unfold A0;rw[Yj c])
  rw[A]
  by_cases b:v.kind=10
  ·have p:Bp v=true:=c.resolve_left fun e=>e b
   simp[b,p]
  ·simp[b]
 ·have b:v.kind=10:=Decidable.not_not.1 fun e=>c (.inl e)
  have p:Bp v=false:=by
   cases h:Bp v with
   |false=>rfl
   |true=>exact absurd (.inr h) c
  cases d with
  |zero=>
   unfold A0
   rw[Yi c]
   simp[b,p]
  |succ d=>
   have u:¬(16:Int)<17-((d+1:Nat):Int):=by omega
   have F:=Lu (B:=L5 s m v (17-((d+1:Nat):Int)) R) (N:=Aj) v.slots (Es (CJ (A0 s true d) s true) m.fields v.slots) id () (fun i x a _=>by
    have e:=ti R (CJ (A0 s true d) s true) s m v.slots i x (17-((d+1:Nat):Int)) y hm z a fun f t=>by
     have:=C d rfl f x.val (j f t) (WI q (Yo a))
     rw[show 17-((d+1:Nat):Int)=16-(d:Int)by omega]
     exact this
    have k:=Ci a
    have l:i+1<9223372036854775808:=by have:=(Ye.1 a).1;omega
    dsimp only[L5,br,wg,vs,v2,Ap,ln,Ah,cs,wa,br]
    simp only[k,l,e,YB,YK,Yh]
    by_cases hy:Es (CJ (A0 s true d) s true) m.fields v.slots i x=0<;>simp[hy]) (by dsimp only[L5,br,wg,vs,v2,Ap,ln,Ah,cs,wa,br];simp) (BO (by omega))
   have G:=Lu (B:=LU s m v R) (N:=Aj) m.fields (fun _ f=>Gl v.slots f) id () (fun i f j _=>by
    have k:=Ci j
    have l:i+1<9223372036854775808:=by have:=(Ye.1 j).1;omega
    have e:=v6 v.slots f z
    unfold Gl
    dsimp only[LU,br,ix,wg,vs,Ap,ln,Ah,DH,wa,br]
    simp only[k,l,j,e,YB,YK,Yh,FK,HP,YR]
    by_cases D:f.card=1<;>cases CW v.slots f.num<;>simp[D]) (by dsimp only[LU,br,ix,wg,vs,Ap,ln,Ah,DH,wa,br];simp) (BO (by omega))
   have H:=Lu (B:=L7 s m v R) (N:=Aj) v.raws (fun _ x=>Ir s m.fields x) id () (fun i x a _=>by
    have k:=Ci a
    have l:i+1<9223372036854775808:=by have:=(Ye.1 a).1;omega
    have e:=wn hs m x hm (mw q (Yo a))
    dsimp only[L7,br,ix,wg,vs,Ap,ln,Ah,cl,wa,br]
    simp only[k,l,a,e,YB,YK,Yh]
    by_cases hy:Ir s m.fields x=0<;>simp[hy]) (by dsimp only[L7,br,ix,wg,vs,Ap,ln,Ah,cl,wa,br];simp) (BO (by omega))
   unfold A0
   rw[Yi c]
   simp only[b,p,u,I,J,K,F,G,H,YB,YZ,DO,DN,Rn,Yx,K1,HP,YR,YK,YY,Yh]
   by_cases o:BC (Es (CJ (A0 s true d) s true) m.fields v.slots) v.slots 0=0
   ·by_cases r:BC (fun _ f=>Gl v.slots f) m.fields 0=0
    ·by_cases w:BC (fun _ x=>Ir s m.fields x) v.raws 0=0
     ·simp[o,r,w]
     ·simp[o,r,w]
    ·simp[o,r]
   ·simp[o]
theorem gL(R:Ju){s:Scm}(hs:Ao (An s)≤1048576)(g:GdS s)(t:Typ)(a:GdT s t)(v:Val)(d:Nat)(j:d≤16)(b:Bt v)(i:NL R s d):I5 R s t v (16-(d:Int))=some (Cw (A0 s true d) s t v):=by
 have h:=FG hs
 have e:Li s t.name=some (Bm s t.name):=kx s _ h.ml
 have hm:=gf R hs g t.name v d j b i
 have w: -9223372036854775808≤17-(d:Int)∧17-(d:Int)<9223372036854775808:=by omega
 have wl:16-(d:Int)+1=17-(d:Int):=by omega
 dsimp only[I5,br,wg,vs,lr,cl,cs,wi,br]
 by_cases c:t.kind=10
 ·have f:=a.ms c
  unfold Cw
  rw[Yj c,Yj f,e]
  simp only[c,YB,YK,Yh,w,EY,wl,hm]
 ·rw[fS s t h (EV b),uV (R:=A0 s true d) a.ty.1 (by have:=a.ty.2;omega) a.en]
  simp only[c,YZ,Yx,YY,Yh]
theorem kU(R:Ju){s:Scm}(hs:Ao (An s)≤1048576)(g:GdS s)(f:Fld)(C:GdF s f)(H:f.card=5)(l:List Pr)(hl:l.length≤1048576)(A:∀p∈l,Bt p.key∧Bt p.val)(d:Nat)(J:d≤16)(I:NL R s d):OE R s f l (16-(d:Int))=some (BC (Hi (Cw (A0 s true d) s f.type) f.key true l) l 0):=by
 have h:=FG hs
 have y:=fun(x:Val) (L:Bt x)=>gL R hs g f.type C.t x d J L I
 have K:=C.ky H
 have w2:l.length<4611686018427387904:=by omega
 generalize 16-(d:Int)=O at y
 have P:=Lu (B:=Jk s f l O R) (N:=Aj) l (Hi (Cw (A0 s true d) s f.type) f.key true l) id () (fun i p a G=>by
  have v:=Ci a
  have hi:=(Ye.1 a).1
  have w:i+1<9223372036854775808:=by omega
  have F:i≤l.length:=by omega
  have Di:=A p (Yo a)
  have t:=fS s (.mk f.key ⟨#[]⟩) h (EV Di.1)
  have u:J4 s (.mk f.key ⟨#[]⟩) p.key=CI f.key p.key:=by
   unfold J4
   rw[Yj (.inr (show f.key≠9 by omega))]
  rw[u]at t
  have D:=y p.val Di.2
  have M:∀q∈l.take i,CI f.key q.key=0:=fun q m=>by
   obtain⟨j,k⟩:=Yy.1 m
   rw[YV]at k
   split at k
   ·have:=G j q (by assumption) k
    unfold Hi at this
    by_cases c:CI f.key q.key=0
    ·exact c
    ·rw[Yj c]at this
     exact absurd this c
   ·cases k
  unfold Hi
  by_cases n:CI f.key p.key=0
  ·have E:K8 (l.take i) (fun z=>La z p)=some ((l.take i).any fun q=>H7 q.key p.key):=sw _ _ _ (fun q m=>by
    have b:=M q m
    have kd:=(Sx b).1
    have e:=nf (d:=q.key) (x:=p.key) (by rw[kd];omega) (A q (Rv m)).1 Di.1
    rw[vG K b n]at e
    dsimp only[La,wg,lr,cl]
    rw[e]
    rfl) (by rw[YS];omega)
   dsimp only[Jk,br,ix,wg,vs,Ap,ln,Ah,cl,cs,wa,sL,br]
   simp only[v,w,F,a,t,D,E,n,Bd.c,Bd.vl,Ro,GF,YB,YK,Yh,EY,DP]
   by_cases o:((l.take i).any fun q=>H7 q.key p.key)=true
   ·simp[o]
   ·by_cases r:Cw (A0 s true d) s f.type p.val=0
    ·simp only[o,r]
     simp
    ·simp only[o,r]
     simp[r]
  ·dsimp only[Jk,br,ix,wg,vs,Ap,ln,Ah,cl,cs,wa,sL,br]
   simp only[v,w,a,t,YB,YK,Yh]
   simp[n]) (by dsimp only[Jk,br,ix,wg,vs,Ap,ln,Ah,cl,cs,wa,sL,br];simp) (BO (by omega))
 dsimp only[OE,vz,lr,lc,Ag]
 rw[P]
 by_cases c6:BC (Hi (Cw (A0 s true d) s f.type) f.key true l) l 0=0
 ·simp[c6,w2]
 ·simp[c6,w2]
theorem kZ(R:Ju){s:Scm}(hs:Ao (An s)≤1048576)(g:GdS s)(f:Fld)(o:GdF s f)(v:Val)(d:Nat)(n:d≤16)(k:Bt v)(m:NL R s d):Qz R s f v (16-(d:Int))=some (CJ (A0 s true d) s true f v):=by
 have h:=FG hs
 have y:=EV k
 obtain⟨s1,s2,C,D,E⟩:=EV k
 have q:v.list.length<4611686018427387904:=by omega
 have l:=fun(x:Val) (b:Bt x)=>gL R hs g f.type o.t x d n b m
 have hN:=fun u=>kU R hs g f o u v.pairs C (fun p w=>Ws k w) d n m
 generalize 16-(d:Int)=z at l hN
 have A:=Lu (B:=LP s f v z R) (N:=Aj) v.list (fun _ x=>Cw (A0 s true d) s f.type x) id () (fun i x b _=>by
  have r:=Ci b
  have t:i+1<9223372036854775808:=by have:=(Ye.1 b).1;omega
  have e:=l x (Wn k (Yo b))
  dsimp only[LP,br,ix,wg,vs,v2,Ap,ln,Ah,cs,wa,br]
  simp only[r,t,b,e,YB,YK,Yh]
  by_cases hy:Cw (A0 s true d) s f.type x=0<;>simp[hy]) (by dsimp only[LP,br,ix,wg,vs,v2,Ap,ln,Ah,cs,wa,br];simp) (BO (by omega))
 have e0:=l v k
 unfold CJ
 dsimp only[Qz,br,vz,wg,lr,lc,AA,cs,Ag,br]
 rw[VB y,A,e0]
 by_cases c:f.card=4
 ·by_cases a:v.kind=11
  ·cases Bp v with
   |true=>simp[c,a]
   |false=>
    by_cases c6:BC (fun _ x=>Cw (A0 s true d) s f.type x) v.list 0=0
    ·simp[c,a,c6,q]
    ·simp[c,a,c6,q]
  ·simp[c,a]
 ·by_cases j:f.card=5
  ·have hN:=hN j
   by_cases a:v.kind=12
   ·cases Bp v with
    |true=>simp[j,a]
    |false=>simp[j,a,hN]
   ·simp[j,a]
  ·simp[c,j]
theorem eP{s:Scm}(hs:Ao (An s)≤1048576)(g:GdS s):∀(a d:Nat),d<a→d≤16→∀(f:Fld) (v:Val),GdF s f→Bt v→HQ a s f v (16-(d:Int))=some (CJ (A0 s true d) s true f v)
 |0,d,b,_,_,_,_,_=>absurd b (IR _)
 |a+1,d,b,c,f,v,h,j=>kZ (HQ a) hs g f h v d c j fun d' e k x i l=>eP hs g a d' (by omega) (by omega) k x i l
theorem Pq{s:Scm}(hs:Ao (An s)≤1048576)(g:GdS s)(n:ByteArray)(v:Val)(b:Bt v):TY s n v=some (EO s true n v):=by
 have h:=FG hs
 have j:Li s n=some (Bm s n):=kx s _ h.ml
 have i:=gf (HQ Aj) hs g n v 16 (Yg _) b fun d' e f x l m=>eP hs g Aj d' (by have:=lu;omega) (by omega) f x l m
 rw[show(17:Int)-((16:Nat):Int)=1 by decide]at i
 have k:=gH Aj v (by have o:Ao (Ai v)≤1048576:=b;exact BO (by omega)) b
 unfold EO
 dsimp only[TY,br,wg,lr,cl,br]
 rw[j,Yh,i,k]
 cases(Bm s n).2 with
 |false=>simp
 |true=>
  by_cases c:A0 s true 16 (Bm s n).1 v=0
  ·by_cases d:4096<cnt v
   ·have a:(4096:Int)<cnt v:=by omega
    simp[c,d,a]
   ·have a:¬(4096:Int)<cnt v:=by omega
    simp[c,d,a]
  ·simp[c]
theorem fD{α:Type}[Inhabited α]{l:List α}{z:α}{p:α→Bool}{x:α}(b:x∈l)(a:p x=true):(Cv l z p).2=true:=by
 unfold Cv
 cases e:l.find? p with
 |none=>exact absurd a (List.find?_eq_none.1 e x b)
 |some y=>rfl
theorem vM{s:Scm}(h:∀(i:Nat) (m:Msg),s.messages[i]?=some m→GdM s m)(hs:Ao (An s)≤1048576):GdS s:=by
 refine⟨fun n f a=>?_,fun n=>(ur h hs n).1⟩
 unfold FA Cv at a
 cases e:s.messages.find? fun m=>decide (m.name=n)with
 |none=>rw[e]at a;cases a
 |some m=>
  rw[e]at a
  obtain⟨i,hi⟩:=Yy.1 (KV e)
  obtain⟨j,g⟩:=Yy.1 (show f∈m.fields from a)
  obtain⟨_,c,⟨t1,t2,t3⟩,u⟩:=(h i m hi).df j f g
  refine⟨fun k=>?_,fun k=>?_,t3,u,fun k=>⟨(c.1 k).1,(c.1 k).2.1⟩,fun k=>(t2 k).2,c.2⟩
  ·obtain⟨x,b,d⟩:=t1 k
   exact fD b (Y3 d)
  ·obtain⟨⟨x,b,d⟩,_⟩:=t2 k
   exact fD b (Y3 d)
abbrev a8{α:Type}(x y:α)(o:Option Bool):Prop:=Ok (fun b:Bool=>b=true↔x=y) o
theorem a8.no{α:Type}{x y:α}(h:x≠y):a8 x y (some false):=⟨false,rfl,Iff.intro (fun e=>absurd e (by decide)) fun e=>absurd e h⟩
structure SzL (v:Val):Prop where
 l:v.list.length≤4194304
 p:v.pairs.length≤4194304
 s:v.slots.length≤4194304
 r:v.raws.length≤4194304
theorem SzV.l'{v:Val}(h:SzV v):SzL v:=⟨by have:=h.l;omega,by have:=h.p;omega,by have:=h.s;omega,by have:=h.r;omega⟩
theorem HT{α:Type}(f:α→Int)(l:List α):BC (fun _ x=>f x) l 0=0↔∀x∈l,f x=0:=by
 rw[Jh]
 constructor
 ·intro h x b
  obtain⟨j,a⟩:=Yy.1 b
  exact h j x a
 ·intro h j x a
  exact h x (Yo a)
def HE(F:List Fld)(a b:Slt):Prop:=¬((Bh F a.num).union=(Bh F b.num).union∧(Bh F b.num).union≠⟨#[]⟩)
theorem HE.symm{F:List Fld}{a b:Slt}(h:HE F a b):HE F b a:=fun⟨e,k⟩=>h ⟨e.symm,by rw[←e]at*;exact k⟩
theorem VZ{R:Fld→Val→Int}{F:List Fld}{l:List Slt}{i:Nat}{x:Slt}:Es R F l i x=0↔(BH F x.num).2=true∧(∀y∈l.take i,y.num≠x.num∧HE F y x)∧R (Bh F x.num) x.val=0:=by
 unfold Es
 cases f:(BH F x.num).2 with
 |false=>simp
 |true=>
  rw[Yi (by decide)]
  by_cases b:CW (l.take i) x.num=true
  ·rw[Yj b]
   constructor
   ·intro h;cases h
   ·rintro⟨_,h,_⟩
    obtain⟨y,hy,e⟩:=YG.1 b
    exact absurd (Y4 e) (h y hy).1
  ·rw[Yi b]
   have c:∀y∈l.take i,y.num≠x.num:=fun y hy e=>b (YG.2 ⟨y,hy,Y3 e⟩)
   by_cases a:G9 F (l.take i) (Bh F x.num).union=true
   ·rw[Yj a]
    constructor
    ·intro h;cases h
    ·rintro⟨_,h,_⟩
     unfold G9 at a
     rw[Yb,YN,YI]at a
     obtain⟨y,hy,e⟩:=YG.1 a.2
     exact absurd ⟨Y4 e,a.1⟩ (h y hy).2
   ·rw[Yi a]
    have d:∀y∈l.take i,HE F y x:=fun y hy ⟨e,k⟩=>a (by
     unfold G9
     rw[Yb,YN,YI]
     exact⟨k,YG.2 ⟨y,hy,Y3 e⟩⟩)
    exact⟨fun h=>⟨rfl,fun y hy=>⟨c y hy,d y hy⟩,h⟩,fun h=>h.2.2⟩
theorem dI{R:Fld→Val→Int}{F:List Fld}{l:List Slt}:BC (Es R F l) l 0=0↔(l.Pairwise fun a b=>a.num≠b.num∧HE F a b)∧∀x∈l,(BH F x.num).2=true∧R (Bh F x.num) x.val=0:=by
 rw[Jh,List.pairwise_iff_getElem]
 constructor
 ·intro h
  refine⟨fun i j hi d c=>?_,fun x e=>?_⟩
  ·have:=h j _ (Yc d)
   rw[YH,VZ]at this
   exact this.2.1 l[i] (Yy.2 ⟨i,by rw[YV,Yj c];exact Yc hi⟩)
  ·obtain⟨j,d⟩:=Yy.1 e
   have:=h j x d
   rw[YH,VZ]at this
   exact⟨this.1,this.2.2⟩
 ·rintro⟨k,m⟩ j x d
  rw[YH,VZ]
  have e:=m x (Yo d)
  obtain⟨g,rfl⟩:=Ye.1 d
  refine⟨e.1,fun y hy=>?_,e.2⟩
  obtain⟨i,hi⟩:=Yy.1 hy
  rw[YV]at hi
  split at hi
  ·rename_i c
   obtain⟨f,rfl⟩:=Ye.1 hi
   exact k i j f g c
  ·cases hi
structure OkM (s:Scm) (k:Bool) (d:Nat) (m:Msg) (v:Val):Prop where
 kd:v.kind=10
 ot:Bp v=false
 pw:v.slots.Pairwise fun a b=>a.num≠b.num∧HE m.fields a b
 sl:∀x∈v.slots,(BH m.fields x.num).2=true∧CJ (A0 s k d) s k (Bh m.fields x.num) x.val=0
 rq:∀f∈m.fields,f.card=1→CW v.slots f.num=true
 rw:∀x∈v.raws,Ir s m.fields x=0
theorem fW{l:List Slt}{f:Fld}:Gl l f=0↔(f.card=1→CW l f.num=true):=by
 unfold Gl
 by_cases c:f.card=1
 ·cases h:CW l f.num<;>simp[c]
 ·simp[c]
theorem p5{s:Scm}{k:Bool}{d:Nat}{m:Msg}{v:Val}(h:A0 s k d m v=0):v.kind=10∧Bp v=false:=by
 have:¬(v.kind≠10∨Bp v=true):=fun c=>by
  cases d<;>(unfold A0 at h;rw[Yj c]at h;cases h)
 refine⟨Decidable.not_not.1 fun e=>this (.inl e),?_⟩
 cases a:Bp v with
 |false=>rfl
 |true=>exact absurd (.inr a) this
theorem VO{s:Scm}{k:Bool}{d:Nat}{m:Msg}{v:Val}:A0 s k (d+1) m v=0↔OkM s k d m v:=by
 constructor
 ·intro h
  have g:=p5 h
  unfold A0 at h
  rw[Yi (fun c=>c.elim (fun e=>e g.1) (fun e=>by rw[g.2]at e;cases e))]at h
  by_cases a:BC (Es (CJ (A0 s k d) s k) m.fields v.slots) v.slots 0=0
  ·rw[Yi (fun e=>e a)]at h
   by_cases b:BC (fun _ f=>Gl v.slots f) m.fields 0=0
   ·rw[Yi (fun e=>e b)]at h
    obtain⟨a1,j⟩:=dI.1 a
    exact⟨g.1,g.2,a1,j,fun f i=>fW.1 ((HT _ _).1 b f i),fun x t=>(HT _ _).1 h x t⟩
   ·rw[Yj b]at h;exact absurd h b
  ·rw[Yj a]at h;exact absurd h a
 ·rintro⟨l,n,o,p,q,r⟩
  unfold A0
  have a:BC (Es (CJ (A0 s k d) s k) m.fields v.slots) v.slots 0=0:=dI.2 ⟨o,p⟩
  have b:BC (fun _ f=>Gl v.slots f) m.fields 0=0:=(HT _ _).2 fun f i=>fW.2 (q f i)
  rw[Yi (fun c=>c.elim (fun e=>e l) (fun e=>by rw[n]at e;cases e)),Yi (fun e=>e a),Yi (fun e=>e b)]
  exact(HT _ _).2 r
theorem US{s:Scm}{R a:Msg→Val→Int}(h:∀m v,R m v=0→a m v=0){t:Typ}{v:Val}(e:Cw R s t v=0):Cw a s t v=0:=by
 unfold Cw at e⊢
 by_cases c:t.kind=10
 ·rw[Yj c]at e⊢
  split at e
  ·rw[Yj (by assumption)];exact h _ _ e
  ·cases e
 ·rw[Yi c]at e⊢
  exact e
theorem i4{E:Val→Int}{key:Int}{k:Bool}{l:List Pr}{i:Nat}{p:Pr}:Hi E key k l i p=0↔CI key p.key=0∧¬(k=true∧((l.take i).any fun q=>H7 q.key p.key)=true)∧E p.val=0:=by
 unfold Hi
 by_cases a:CI key p.key=0
 ·rw[Yi (fun e=>e a)]
  by_cases b:k=true∧((l.take i).any fun q=>H7 q.key p.key)=true
  ·rw[Yj b]
   exact Iff.intro (fun h=>by cases h) fun h=>absurd b h.2.1
  ·rw[Yi b]
   exact⟨fun h=>⟨a,b,h⟩,fun h=>h.2.2⟩
 ·rw[Yj a]
  exact⟨fun h=>absurd h a,fun h=>absurd h.1 a⟩
theorem r8{s:Scm}{k:Bool}{R a:Msg→Val→Int}(h:∀m v,R m v=0→a m v=0){f:Fld}{v:Val}(e:CJ R s k f v=0):CJ a s k f v=0:=by
 unfold CJ at e⊢
 by_cases b:f.card=4
 ·rw[Yj b]at e⊢
  split at e
  ·cases e
  ·rw[Yi (by assumption),HT]
   rw[HT]at e
   exact fun x g=>US h (e x g)
 ·rw[Yi b]at e⊢
  by_cases c:f.card=5
  ·rw[Yj c]at e⊢
   split at e
   ·cases e
   ·rw[Yi (by assumption),Jh]
    rw[Jh]at e
    intro j x d
    have:=e j x d
    rw[i4]at this⊢
    exact⟨this.1,this.2.1,US h this.2.2⟩
  ·rw[Yi c]at e⊢
   exact US h e
theorem dY{s:Scm}{k:Bool}:∀(d:Nat) (m:Msg) (v:Val),A0 s k d m v=0→A0 s k (d+1) m v=0
 |0,m,v,h=>by
  unfold A0 at h
  split at h<;>cases h
 |d+1,m,v,h=>by
  obtain⟨c,e,f,a,g,i⟩:=VO.1 h
  exact VO.2 ⟨c,e,f,fun x b=>⟨(a x b).1,r8 (fun m v=>dY d m v) (a x b).2⟩,g,i⟩
theorem gt{s:Scm}{k:Bool}{n:ByteArray}{v:Val}:EO s k n v=0↔(Bm s n).2=true∧OkM s k 15 (Bm s n).1 v∧cnt v≤4096:=by
 rw[←VO]
 unfold EO
 cases b:(Bm s n).2 with
 |false=>simp
 |true=>
  rw[Yi (by decide)]
  by_cases c:A0 s k 16 (Bm s n).1 v=0
  ·rw[Yi (fun e=>e c)]
   by_cases a:4096<cnt v
   ·rw[Yj a]
    exact Iff.intro (fun h=>by cases h) fun h=>by have:=h.2.2;omega
   ·rw[Yi a]
    exact⟨fun _=>⟨rfl,c,by omega⟩,fun _=>rfl⟩
  ·rw[Yj c]
   exact⟨fun h=>absurd h c,fun h=>absurd h.2.1 c⟩
theorem n1:bN=some true:=by kernel_rfl
end Go.Proofs.YtopncadjpnkjhaaGreatDoor
