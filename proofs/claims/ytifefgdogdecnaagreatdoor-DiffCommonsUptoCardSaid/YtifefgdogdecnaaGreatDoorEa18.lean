import Derived.Test.YtifefgdogdecnaaGreatDoorEa17
import Derived.Test.YtifefgdogdecnaaGreatDoorCards
import Derived.Test.YtifefgdogdecnaaGreatDoorTie
import Derived.Lib.LaidTab
import Derived.WalkKit
import Derived.ProofKit
import Derived.OpenShut
import Derived.JoinedCond
import Derived.Test.YtifefgdogdecnaaGreatDoorEa00
namespace Go.Proofs.YtifefgdogdecnaaGreatDoor
set_option linter.all false
open Go Go.Eng
def CS{α:Type}(E:α→α→Prop)(xs ys:List α):Prop:=xs.length=ys.length∧∀(i:Nat) (x y:α),xs[i]?=some x→ys[i]?=some y→E x y
theorem TE{a b:Raw}:a=b↔a.num=b.num∧a.wire=b.wire∧a.bits=b.bits∧a.data=b.data:=by
 cases a
 cases b
 simp only[Raw.mk.injEq]
abbrev Ay(P:Prop)(o:Option Int):Prop:=Ok (fun c:Int=>c=0↔P) o
theorem Ay.p{P:Prop}{c:Int}(h:c=0↔P):Ay P (some c):=⟨c,rfl,h⟩
theorem Fo{α ξ:Type}{B:Nat→Option (Lv Nat ξ Int)}{N:Nat}(xs ys:List α)(E:α→α→Prop)(e:ξ)(A:Prop)
  (hs:∀(i:Nat) (x y:α),xs[i]?=some x→ys[i]?=some y→∃c:Int,(c=0↔E x y)∧B i=some (if c=0 then .nx (i+1)else .rt c))
  (he:∀i,i≤xs.length→i≤ys.length→(i=xs.length∨i=ys.length)→(B i=some (.ex e)∧A)∨∃r:Int,r≠0∧xs.length≠ys.length∧B i=some (.rt r)) (u:xs.length<N):
  Ok (Sum.elim (fun _=>A∧∀(i:Nat) (x y:α),xs[i]?=some x→ys[i]?=some y→E x y) (fun r:Int=>r≠0∧¬CS E xs ys)) (Av B N 0):=by
 refine Da (fun i:Nat=>(i≤xs.length∧i≤ys.length)∧∀(j:Nat) (x y:α),j<i→xs[j]?=some x→ys[j]?=some y→E x y) (fun i:Nat=>xs.length-i) ⟨⟨YU _,YU _⟩,fun j x y n=>absurd n (Ek _)⟩ (by omega) fun i hi=>?_
 obtain⟨⟨p,g⟩,l⟩:=hi
 by_cases h:i<xs.length∧i<ys.length
 ·have hx:=Yb h.1
  have hy:=Yb h.2
  obtain⟨c,m,f⟩:=hs i _ _ hx hy
  rw[f]
  by_cases a:c=0
  ·rw[Yj a]
   refine⟨_,rfl,⟨⟨h.1,h.2⟩,fun j x y n b d=>?_⟩,by show xs.length-(i+1)<xs.length-i;omega⟩
   by_cases o:j=i
   ·subst o
    rw[hx]at b;rw[hy]at d
    cases b;cases d
    exact m.1 a
   ·exact l j x y (by omega) b d
  ·rw[Yt a]
   exact⟨_,rfl,a,fun k=>a (m.2 (k.2 i _ _ hx hy))⟩
 ·rcases he i p g (by omega)with⟨f,t⟩|⟨r,q,s,f⟩
  ·rw[f]
   refine⟨_,rfl,t,fun j x y hx hy=>?_⟩
   have:=(Yk.1 hx).1
   have:=(Yk.1 hy).1
   exact l j x y (by omega) hx hy
  ·rw[f]
   exact⟨_,rfl,q,fun k=>s k.1⟩
theorem lA{xs ys:List Val}{f:Val→Val→Option Int}{E:Val→Val→Prop}(hx:xs.length≤4194304)(hy:ys.length≤4194304)(o:∀x∈xs,∀y∈ys,Ay (E x y) (f x y)):Ay (CS E xs ys) (Iu xs ys f):=by
 have p:xs.length<4611686018427387904:=by omega
 have k:ys.length<4611686018427387904:=by omega
 have q:=Fo (B:=Jk xs ys f) (N:=Ar) xs ys E () (xs.length≤ys.length) (fun i x y a b=>by
  obtain⟨c,n,j⟩:=o x (Yi a) y (Yi b)
  refine⟨c,j,?_⟩
  have d:=BS a
  have s:=BS b
  have g:¬(ys.length:Int)≤(i:Int):=by omega
  have m:i+1<9223372036854775808:=by have:=(Yk.1 a).1;omega
  dsimp only[Jk,br,ix,vz,wg,vs,AI,ln,Aq,cf,wa,Ah,br]
  simp only[d,g,a,b,k,n,YC,YI,Yx,Ye,Yq,Yg]
  by_cases e:c=0
  ·simp[e,m]
  ·simp[e]) (fun i a b t=>by
  dsimp only[Jk,br,ix,vz,wg,vs,AI,ln,Aq,cf,wa,Ah,br]
  by_cases e:i<xs.length
  ·refine .inr ⟨1,by decide,by omega,?_⟩
   have d:(i:Int)<(xs.length:Int):=by omega
   have g:(ys.length:Int)≤(i:Int):=by omega
   simp only[d,g,Yb e,k,YC,Yx,Yg]
  ·refine .inl ⟨?_,by omega⟩
   have d:¬(i:Int)<(xs.length:Int):=by omega
   simp only[d,YI,Ye,Yq]) (Cw (by omega))
 obtain⟨z,j,l⟩:=q
 dsimp only[Iu,br,vz,lr,lc,Ah,br]
 simp only[p,k,Yx,j,Yg]
 cases z with
 |inl u=>
  obtain⟨a,b⟩:=l
  dsimp only[Sum.elim_inl]
  by_cases e:(xs.length:Int)<(ys.length:Int)
  ·simp only[e,YC,Yx]
   exact Ay.p ⟨fun h=>by omega,fun h=>by have:=h.1;omega⟩
  ·simp only[e,YI,Ye,Yq]
   exact Ay.p ⟨fun _=>⟨by omega,b⟩,fun _=>rfl⟩
 |inr r=>
  obtain⟨a,b⟩:=l
  exact Ay.p ⟨fun h=>absurd h a,fun h=>absurd h b⟩
theorem lw{xs ys:List Pr}{f:Pr→Pr→Option Int}{E:Pr→Pr→Prop}(hx:xs.length≤4194304)(hy:ys.length≤4194304)(o:∀x∈xs,∀y∈ys,Ay (E x y) (f x y)):Ay (CS E xs ys) (Iv xs ys f):=by
 have p:xs.length<4611686018427387904:=by omega
 have k:ys.length<4611686018427387904:=by omega
 have q:=Fo (B:=Jh xs ys f) (N:=Ar) xs ys E () (xs.length≤ys.length) (fun i x y a b=>by
  obtain⟨c,n,j⟩:=o x (Yi a) y (Yi b)
  refine⟨c,j,?_⟩
  have d:=BS a
  have s:=BS b
  have g:¬(ys.length:Int)≤(i:Int):=by omega
  have m:i+1<9223372036854775808:=by have:=(Yk.1 a).1;omega
  dsimp only[Jh,br,ix,vz,wg,vs,AI,ln,Aq,cf,wa,Ah,br]
  simp only[d,g,a,b,k,n,YC,YI,Yx,Ye,Yq,Yg]
  by_cases e:c=0
  ·simp[e,m]
  ·simp[e]) (fun i a b t=>by
  dsimp only[Jh,br,ix,vz,wg,vs,AI,ln,Aq,cf,wa,Ah,br]
  by_cases e:i<xs.length
  ·refine .inr ⟨1,by decide,by omega,?_⟩
   have d:(i:Int)<(xs.length:Int):=by omega
   have g:(ys.length:Int)≤(i:Int):=by omega
   simp only[d,g,Yb e,k,YC,Yx,Yg]
  ·refine .inl ⟨?_,by omega⟩
   have d:¬(i:Int)<(xs.length:Int):=by omega
   simp only[d,YI,Ye,Yq]) (Cw (by omega))
 obtain⟨z,j,l⟩:=q
 dsimp only[Iv,br,vz,lr,lc,Ah,br]
 simp only[p,k,Yx,j,Yg]
 cases z with
 |inl u=>
  obtain⟨a,b⟩:=l
  dsimp only[Sum.elim_inl]
  by_cases e:(xs.length:Int)<(ys.length:Int)
  ·simp only[e,YC,Yx]
   exact Ay.p ⟨fun h=>by omega,fun h=>by have:=h.1;omega⟩
  ·simp only[e,YI,Ye,Yq]
   exact Ay.p ⟨fun _=>⟨by omega,b⟩,fun _=>rfl⟩
 |inr r=>
  obtain⟨a,b⟩:=l
  exact Ay.p ⟨fun h=>absurd h a,fun h=>absurd h b⟩
theorem lj{xs ys:List Slt}{f:Slt→Slt→Option Int}{E:Slt→Slt→Prop}(hx:xs.length≤4194304)(hy:ys.length≤4194304)(o:∀x∈xs,∀y∈ys,Ay (E x y) (f x y)):Ay (CS E xs ys) (Iw xs ys f):=by
 have p:xs.length<4611686018427387904:=by omega
 have k:ys.length<4611686018427387904:=by omega
 have q:=Fo (B:=Jd xs ys f) (N:=Ar) xs ys E () (xs.length≤ys.length) (fun i x y a b=>by
  obtain⟨c,n,j⟩:=o x (Yi a) y (Yi b)
  refine⟨c,j,?_⟩
  have d:=BS a
  have s:=BS b
  have g:¬(ys.length:Int)≤(i:Int):=by omega
  have m:i+1<9223372036854775808:=by have:=(Yk.1 a).1;omega
  dsimp only[Jd,br,ix,vz,wg,vs,AI,ln,Aq,cf,wa,Ah,br]
  simp only[d,g,a,b,k,n,YC,YI,Yx,Ye,Yq,Yg]
  by_cases e:c=0
  ·simp[e,m]
  ·simp[e]) (fun i a b t=>by
  dsimp only[Jd,br,ix,vz,wg,vs,AI,ln,Aq,cf,wa,Ah,br]
  by_cases e:i<xs.length
  ·refine .inr ⟨1,by decide,by omega,?_⟩
   have d:(i:Int)<(xs.length:Int):=by omega
   have g:(ys.length:Int)≤(i:Int):=by omega
   simp only[d,g,Yb e,k,YC,Yx,Yg]
  ·refine .inl ⟨?_,by omega⟩
   have d:¬(i:Int)<(xs.length:Int):=by omega
   simp only[d,YI,Ye,Yq]) (Cw (by omega))
 obtain⟨z,j,l⟩:=q
 dsimp only[Iw,br,vz,lr,lc,Ah,br]
 simp only[p,k,Yx,j,Yg]
 cases z with
 |inl u=>
  obtain⟨a,b⟩:=l
  dsimp only[Sum.elim_inl]
  by_cases e:(xs.length:Int)<(ys.length:Int)
  ·simp only[e,YC,Yx]
   exact Ay.p ⟨fun h=>by omega,fun h=>by have:=h.1;omega⟩
  ·simp only[e,YI,Ye,Yq]
   exact Ay.p ⟨fun _=>⟨by omega,b⟩,fun _=>rfl⟩
 |inr r=>
  obtain⟨a,b⟩:=l
  exact Ay.p ⟨fun h=>absurd h a,fun h=>absurd h b⟩
theorem kh{xs ys:List Raw}{f:Raw→Raw→Option Int}{E:Raw→Raw→Prop}(hx:xs.length≤4194304)(hy:ys.length≤4194304)(o:∀x∈xs,∀y∈ys,Ay (E x y) (f x y)):Ay (CS E xs ys) (Ix xs ys f):=by
 have p:xs.length<4611686018427387904:=by omega
 have k:ys.length<4611686018427387904:=by omega
 have q:=Fo (B:=Jg xs ys f) (N:=Ar) xs ys E () (xs.length≤ys.length) (fun i x y a b=>by
  obtain⟨c,n,j⟩:=o x (Yi a) y (Yi b)
  refine⟨c,j,?_⟩
  have d:=BS a
  have s:=BS b
  have g:¬(ys.length:Int)≤(i:Int):=by omega
  have m:i+1<9223372036854775808:=by have:=(Yk.1 a).1;omega
  dsimp only[Jg,br,ix,vz,wg,vs,AI,ln,Aq,cf,wa,Ah,br]
  simp only[d,g,a,b,k,n,YC,YI,Yx,Ye,Yq,Yg]
  by_cases e:c=0
  ·simp[e,m]
  ·simp[e]) (fun i a b t=>by
  dsimp only[Jg,br,ix,vz,wg,vs,AI,ln,Aq,cf,wa,Ah,br]
  by_cases e:i<xs.length
  ·refine .inr ⟨1,by decide,by omega,?_⟩
   have d:(i:Int)<(xs.length:Int):=by omega
   have g:(ys.length:Int)≤(i:Int):=by omega
   simp only[d,g,Yb e,k,YC,Yx,Yg]
  ·refine .inl ⟨?_,by omega⟩
   have d:¬(i:Int)<(xs.length:Int):=by omega
   simp only[d,YI,Ye,Yq]) (Cw (by omega))
 obtain⟨z,j,l⟩:=q
 dsimp only[Ix,br,vz,lr,lc,Ah,br]
 simp only[p,k,Yx,j,Yg]
 cases z with
 |inl u=>
  obtain⟨a,b⟩:=l
  dsimp only[Sum.elim_inl]
  by_cases e:(xs.length:Int)<(ys.length:Int)
  ·simp only[e,YC,Yx]
   exact Ay.p ⟨fun h=>by omega,fun h=>by have:=h.1;omega⟩
  ·simp only[e,YI,Ye,Yq]
   exact Ay.p ⟨fun _=>⟨by omega,b⟩,fun _=>rfl⟩
 |inr r=>
  obtain⟨a,b⟩:=l
  exact Ay.p ⟨fun h=>absurd h a,fun h=>absurd h b⟩
theorem XP{l:List Int}(hl:l.length≤4194304):Ay (∀x∈l,x=0) (IF l):=by
 have n:l.length<4611686018427387904:=by omega
 have q:Ok (Sum.elim (fun _=>∀x∈l,x=0) (fun r:Int=>r≠0∧¬∀x∈l,x=0)) (Av (Jb l) Ar 0):=by
  refine Da (fun i:Nat=>i≤l.length∧∀(j:Nat) (x:Int),j<i→l[j]?=some x→x=0) (fun i:Nat=>l.length-i) ⟨YU _,fun j x b=>absurd b (Ek _)⟩ (Cw (by omega)) fun i hi=>?_
  obtain⟨o,g⟩:=hi
  by_cases h:i<l.length
  ·have hx:=Yb h
   have c:=BS hx
   have m:i+1<9223372036854775808:=by omega
   dsimp only[Jb,br,ix,vs,AI,ln,Aq,wa,br]
   simp only[c,hx,YC,Yx,Yg]
   by_cases e:l[i]=0
   ·simp only[e,YC,YR,Ye,Yq,m,Yx]
    refine⟨_,rfl,⟨h,fun j x b a=>?_⟩,by show l.length-(i+1)<l.length-i;omega⟩
    by_cases k:j=i
    ·subst k
     rw[hx]at a;cases a;exact e
    ·exact g j x (by omega) a
   ·simp only[e,YI,Y8,Yx]
    exact⟨_,rfl,e,fun f=>e (f _ (G1 h))⟩
  ·have c:¬(i:Int)<(l.length:Int):=by omega
   dsimp only[Jb,br,ix,vs,AI,ln,Aq,wa,br]
   simp only[c,YI,Ye,Yq]
   refine⟨_,rfl,fun x hx=>?_⟩
   obtain⟨j,b,e⟩:=List.getElem_of_mem hx
   exact g j x (by omega) (by rw[Yb b,e])
 obtain⟨z,f,d⟩:=q
 dsimp only[IF,vz,lr,lc,Ah]
 simp only[n,Yx,f,Yg]
 cases z with
 |inl u=>exact Ay.p ⟨fun _=>d,fun _=>rfl⟩
 |inr r=>exact Ay.p ⟨fun h=>absurd h d.1,fun h=>absurd h d.2⟩
theorem Df(a b:Int):Bv a b=0↔a=b:=by
 have:=Gy a b
 constructor
 ·intro h;rw[h]at this;simpa using this
 ·intro h;subst h;simpa using this
theorem jL(a b:ByteArray):ER a b=0↔a=b:=by
 have:=Lk a b
 constructor
 ·intro h;rw[h]at this;simpa using this
 ·intro h;subst h;simpa using this
theorem PY{a b:Int}{P Q:Prop}(d:a=0↔P)(e:b=0↔Q):Ay (P∧Q) (IF [a,b]):=
 (XP (l:=[a,b]) (by simp)).mono fun c h=>by rw[h];simp only[List.forall_mem_cons,M2,false_implies,Cs,and_true,d,e]
theorem cI{R:Val→Val→Option Int}{E:Val→Val→Prop}{x y:Pr}(i:Ay (E x.key y.key) (R x.key y.key))(j:Ay (E x.val y.val) (R x.val y.val)):Ay (E x.key y.key∧E x.val y.val) (Gg R x y):=by
 obtain⟨c,a,f⟩:=i
 obtain⟨d,b,g⟩:=j
 obtain⟨z,e,h⟩:=PY f g
 dsimp only[Gg,Pa,vw,lr,lc,cl,cs]
 simp only[a,b,e,Yg]
 exact Ay.p h
theorem cQ{R:Val→Val→Option Int}{E:Val→Val→Prop}{x y:Slt}(f:Ay (E x.val y.val) (R x.val y.val)):Ay (x.num=y.num∧E x.val y.val) (Gf R x y):=by
 obtain⟨d,a,c⟩:=f
 obtain⟨z,b,e⟩:=PY (Df x.num y.num) c
 dsimp only[Gf,Pg,vw,lr,lc,cl,cs]
 simp only[FM,a,b,Yg]
 exact Ay.p e
theorem dw(x y:Raw):Ay (x=y) (Gh x y):=by
 obtain⟨z,a,b⟩:=XP (l:=[Bv x.num y.num,Bv x.wire y.wire,Bv x.bits y.bits,ER x.data y.data]) (by simp)
 dsimp only[Gh,O9,vw,lr,lc,cl]
 simp only[FM,PH,WX,a,Yg]
 refine Ay.p (b.trans ?_)
 rw[TE]
 simp only[List.forall_mem_cons,M2,false_implies,Cs,and_true,Df,jL]
theorem gW(x y:Raw):Ay (x=y) (Nm x y):=by
 dsimp only[Nm,br,wg,lr,cl,br]
 simp only[FW,Yg]
 rw[TE]
 by_cases a:x.num=y.num
 ·by_cases b:x.wire=y.wire
  ·simp only[a,b,YC,YR,Ye,Yq,It]
   by_cases c:x.bits<y.bits
   ·simp only[c,YC,Yx];exact Ay.p ⟨fun h=>by omega,fun h=>by omega⟩
   ·by_cases e:y.bits<x.bits
    ·simp only[c,e,YC,YI,Ye,Yq,Yx];exact Ay.p ⟨fun h=>by omega,fun h=>by omega⟩
    ·have g:x.bits=y.bits:=by omega
     simp only[c,e,g,YC,YI,Ye,Yq,It]
     cases f:A8 x.data y.data with
     |true=>
      have d:¬x.data=y.data:=fun h=>by
       have:=Lk x.data y.data
       unfold ER at this
       simp[h]at this
       rw[h,this]at f
       cases f
      simp only[Yx,d,Int.lt_irrefl,YI,Ye,Yq];exact Ay.p ⟨fun h=>by omega,fun h=>by simp at h⟩
     |false=>by_cases d:x.data=y.data<;>simp[d]<;>exact Ay.p (by simp)
  ·simp only[a,b,YC,YI,YR,Y8,Ye,Yq,Yx,It,J3]
   exact Ay.p ⟨fun h=>b ((Df _ _).1 h),fun h=>by simp at h⟩
 ·simp only[a,YI,Y8,Yx,J3]
  exact Ay.p ⟨fun h=>a ((Df _ _).1 h),fun h=>by simp at h⟩
end Go.Proofs.YtifefgdogdecnaaGreatDoor
namespace Go.Proofs.YtifefgdogdecnaaGreatDoor
set_option linter.all false
open Go Go.Eng
theorem dE{xs ys:List Val}{R:Val→Val→Option Int}{E:Val→Val→Prop}(hx:xs.length≤4194304)(hy:ys.length≤4194304)(o:∀x∈xs,∀y∈ys,Ay (E x y) (R x y)):Ay (CS E xs ys) (J9 R xs ys):=by
 have f:xs.length<4611686018427387904:=by omega
 have g:ys.length<4611686018427387904:=by omega
 have q:=Fo (B:=I9 xs ys R) (N:=Ar) xs ys E () True (fun i x y b a=>by
  obtain⟨c,n,d⟩:=o x (Yi b) y (Yi a)
  have k:=BS b
  have l:=BS a
  have m:i+1<9223372036854775808:=by have:=(Yk.1 b).1;omega
  refine⟨c,d,?_⟩
  dsimp only[I9,br,ix,vz,vy,vs,AI,ln,Aq,cs,wa,Ah,br]
  simp only[k,l,b,a,f,g,YC,E2,Yx,Ye,Yq,Yg,YR,Y8,Cs,forall_const,n]
  by_cases e:c=0
  ·simp[e,m]
  ·simp[e]) (fun i b a p=>by
  dsimp only[I9,br,ix,vz,vy,vs,AI,ln,Aq,cs,wa,Ah,br]
  refine .inl ⟨?_,trivial⟩
  have e:(decide ((i:Int)<(xs.length:Int))&&decide ((i:Int)<(ys.length:Int)))=false:=by
   rw[←Y0,YG];omega
  simp only[f,g,e,Yx,Cs,Ye,Yq]) (Cw (by omega))
 obtain⟨z,d,j⟩:=q
 dsimp only[J9,vz,lr,lc,cl,Ah]
 simp only[f,g,Yx,d,Yg]
 cases z with
 |inl u=>
  obtain⟨_,a⟩:=j
  dsimp only[Sum.elim_inl]
  simp only[FW,Yg]
  exact Ay.p ((Df _ _).trans ⟨fun h=>⟨by omega,a⟩,fun h=>by have:=h.1;omega⟩)
 |inr r=>
  obtain⟨b,a⟩:=j
  exact Ay.p ⟨fun h=>absurd h b,fun h=>absurd h a⟩
theorem cH{xs ys:List Pr}{R:Val→Val→Option Int}{E:Val→Val→Prop}(hx:xs.length≤4194304)(hy:ys.length≤4194304)(t:∀x∈xs,∀y∈ys,Ay (E x.key y.key) (R x.key y.key)∧Ay (E x.val y.val) (R x.val y.val)):Ay (CS (fun x y:Pr=>E x.key y.key∧E x.val y.val) xs ys) (J8 R xs ys):=by
 have g:xs.length<4611686018427387904:=by omega
 have j:ys.length<4611686018427387904:=by omega
 have q:=Fo (B:=HF xs ys R) (N:=Ar) xs ys (fun x y:Pr=>E x.key y.key∧E x.val y.val) () True (fun i x y b a=>by
  obtain⟨⟨c,n,f⟩,⟨d,s,v⟩⟩:=t x (Yi b) y (Yi a)
  have l:=BS b
  have m:=BS a
  have p:i+1<9223372036854775808:=by have:=(Yk.1 b).1;omega
  by_cases e:c=0
  ·refine⟨d,by simp only[←f,←v,e,It],?_⟩
   dsimp only[HF,br,ix,vz,vy,vs,AI,ln,Aq,cs,wa,Ah,br]
   simp only[l,m,b,a,g,j,YC,E2,Yx,Ye,Yq,Yg,YR,Y8,Cs,forall_const,n,s,e]
   by_cases k:d=0
   ·simp[k,p]
   ·simp[k]
  ·refine⟨c,by simp only[←f,e,J3],?_⟩
   dsimp only[HF,br,ix,vz,vy,vs,AI,ln,Aq,cs,wa,Ah,br]
   simp only[l,m,b,a,g,j,YC,E2,Yx,Ye,Yq,Yg,YR,Y8,Cs,forall_const,n]
   simp[e]) (fun i b a w=>by
  dsimp only[HF,br,ix,vz,vy,vs,AI,ln,Aq,cs,wa,Ah,br]
  refine .inl ⟨?_,trivial⟩
  have e:(decide ((i:Int)<(xs.length:Int))&&decide ((i:Int)<(ys.length:Int)))=false:=by
   rw[←Y0,YG];omega
  simp only[g,j,e,Yx,Cs,Ye,Yq]) (Cw (by omega))
 obtain⟨z,f,o⟩:=q
 dsimp only[J8,vz,lr,lc,cl,Ah]
 simp only[g,j,Yx,f,Yg]
 cases z with
 |inl u=>
  obtain⟨_,a⟩:=o
  dsimp only[Sum.elim_inl]
  simp only[FW,Yg]
  exact Ay.p ((Df _ _).trans ⟨fun h=>⟨by omega,a⟩,fun h=>by have:=h.1;omega⟩)
 |inr r=>
  obtain⟨b,a⟩:=o
  exact Ay.p ⟨fun h=>absurd h b,fun h=>absurd h a⟩
theorem dy{xs ys:List Slt}{R:Val→Val→Option Int}{E:Val→Val→Prop}(hx:xs.length≤4194304)(hy:ys.length≤4194304)(o:∀x∈xs,∀y∈ys,Ay (E x.val y.val) (R x.val y.val)):Ay (CS (fun x y:Slt=>x.num=y.num∧E x.val y.val) xs ys) (Ka R xs ys):=by
 have c:xs.length<4611686018427387904:=by omega
 have f:ys.length<4611686018427387904:=by omega
 have q:=Fo (B:=HA xs ys R) (N:=Ar) xs ys (fun x y:Slt=>x.num=y.num∧E x.val y.val) () True (fun i x y b a=>by
  obtain⟨d,n,p⟩:=o x (Yi b) y (Yi a)
  have j:=BS b
  have k:=BS a
  have m:i+1<9223372036854775808:=by have:=(Yk.1 b).1;omega
  by_cases e:Bv x.num y.num=0
  ·refine⟨d,by simp only[←p,(Df _ _).1 e,It],?_⟩
   dsimp only[HA,br,ix,vz,vy,vs,AI,ln,Aq,cl,cs,wa,Ah,br]
   simp only[j,k,b,a,c,f,YC,E2,Yx,Ye,Yq,Yg,YR,Y8,Cs,forall_const,FW,n,e]
   by_cases g:d=0
   ·simp[g,m]
   ·simp[g]
  ·refine⟨Bv x.num y.num,by simp only[e,false_iff,not_and];exact fun h=>absurd ((Df _ _).2 h) e,?_⟩
   dsimp only[HA,br,ix,vz,vy,vs,AI,ln,Aq,cl,cs,wa,Ah,br]
   simp only[j,k,b,a,c,f,YC,E2,Yx,Ye,Yq,Yg,YR,Y8,Cs,forall_const,FW]
   simp[e]) (fun i b a t=>by
  dsimp only[HA,br,ix,vz,vy,vs,AI,ln,Aq,cl,cs,wa,Ah,br]
  refine .inl ⟨?_,trivial⟩
  have e:(decide ((i:Int)<(xs.length:Int))&&decide ((i:Int)<(ys.length:Int)))=false:=by
   rw[←Y0,YG];omega
  simp only[c,f,e,Yx,Cs,Ye,Yq]) (Cw (by omega))
 obtain⟨z,s,l⟩:=q
 dsimp only[Ka,vz,lr,lc,cl,Ah]
 simp only[c,f,Yx,s,Yg]
 cases z with
 |inl u=>
  obtain⟨_,a⟩:=l
  dsimp only[Sum.elim_inl]
  simp only[FW,Yg]
  exact Ay.p ((Df _ _).trans ⟨fun h=>⟨by omega,a⟩,fun h=>by have:=h.1;omega⟩)
 |inr r=>
  obtain⟨b,a⟩:=l
  exact Ay.p ⟨fun h=>absurd h b,fun h=>absurd h a⟩
theorem ee{xs ys:List Raw}(hx:xs.length≤4194304)(hy:ys.length≤4194304):Ay (CS (fun x y:Raw=>x=y) xs ys) (M8 xs ys):=by
 have f:xs.length<4611686018427387904:=by omega
 have g:ys.length<4611686018427387904:=by omega
 have q:=Fo (B:=I8 xs ys) (N:=Ar) xs ys (fun x y:Raw=>x=y) () True (fun i x y b a=>by
  obtain⟨c,n,d⟩:=gW x y
  have k:=BS b
  have l:=BS a
  have m:i+1<9223372036854775808:=by have:=(Yk.1 b).1;omega
  refine⟨c,d,?_⟩
  dsimp only[I8,br,ix,vz,vy,vs,AI,ln,Aq,cl,wa,Ah,br]
  simp only[k,l,b,a,f,g,YC,E2,Yx,Ye,Yq,Yg,YR,Y8,Cs,forall_const,n]
  by_cases e:c=0
  ·simp[e,m]
  ·simp[e]) (fun i b a o=>by
  dsimp only[I8,br,ix,vz,vy,vs,AI,ln,Aq,cl,wa,Ah,br]
  refine .inl ⟨?_,trivial⟩
  have e:(decide ((i:Int)<(xs.length:Int))&&decide ((i:Int)<(ys.length:Int)))=false:=by
   rw[←Y0,YG];omega
  simp only[f,g,e,Yx,Cs,Ye,Yq]) (Cw (by omega))
 obtain⟨z,d,j⟩:=q
 dsimp only[M8,vz,lr,lc,cl,Ah]
 simp only[f,g,Yx,d,Yg]
 cases z with
 |inl u=>
  obtain⟨_,a⟩:=j
  dsimp only[Sum.elim_inl]
  simp only[FW,Yg]
  exact Ay.p ((Df _ _).trans ⟨fun h=>⟨by omega,a⟩,fun h=>by have:=h.1;omega⟩)
 |inr r=>
  obtain⟨b,a⟩:=j
  exact Ay.p ⟨fun h=>absurd h b,fun h=>absurd h a⟩
structure Both (R Q:Val→Val→Option Int) (x y:Val):Prop where
 r:Ay (Q x y=some 0) (R x y)
 q:Ay (Q x y=some 0) (Q x y)
theorem Both.mk'{R Q:Val→Val→Option Int}{x y:Val}{P:Prop}(f:Ay P (R x y))(g:Ay P (Q x y)):Both R Q x y:=by
 obtain⟨c,e,g1⟩:=f
 obtain⟨d,a,g2⟩:=g
 have b:Q x y=some 0↔P:=by rw[a,←g2];simp
 exact⟨⟨c,e,g1.trans b.symm⟩,⟨d,a,g2.trans b.symm⟩⟩
theorem Ja{k:Int}:NG k=some (decide (1≤k)&&decide (k≤9)):=rfl
theorem ey(R Q:Val→Val→Option Int)(a b:Val)(D:Bf a)(F:Bf b)(hl:∀x∈a.list,∀y∈b.list,Both R Q x y)(w:∀x∈a.pairs,∀y∈b.pairs,Both R Q x.key y.key∧Both R Q x.val y.val)(hs:∀x∈a.slots,∀y∈b.slots,Both R Q x.val y.val):
  ∃P:Prop,Ay P (PL R a b)∧Ay P (L7 Q a b):=by
 have sa:=P0 D
 have A:=P0 F
 have K:a.list.length≤4194304:=by have:=sa.l;omega
 have L:a.pairs.length≤4194304:=by have:=sa.p;omega
 have M:a.slots.length≤4194304:=by have:=sa.s;omega
 have N:a.raws.length≤4194304:=by have:=sa.r;omega
 have G:b.list.length≤4194304:=by have:=A.l;omega
 have H:b.pairs.length≤4194304:=by have:=A.p;omega
 have I:b.slots.length≤4194304:=by have:=A.s;omega
 have J:b.raws.length≤4194304:=by have:=A.r;omega
 have f1:IC R a b=if a.kind=b.kind then(if 1≤a.kind∧a.kind≤9 then Ke a b else none)else some (Bv a.kind b.kind):=by
  dsimp only[IC,br,wg,lr,lc,cl,br,Rh,wg,lr,cl,bT]
  simp only[Ja,FM,Yg]
  by_cases e:a.kind=b.kind
  ·rw[←e]
   by_cases h:1≤a.kind∧a.kind≤9
   ·simp[h]
   ·have n:(decide (1≤a.kind)&&decide (a.kind≤9))=false:=by rw[←Y0,YG];exact h
    simp[h,n]
  ·simp[e]
 have f2:IG R a b=if a.kind=b.kind then(if a.kind=11 then Iu a.list b.list (fun z0 l=>R z0 l)else none)else some (Bv a.kind b.kind):=by
  dsimp only[IG,br,wg,lr,lc,cl,cs,br,Rj,wg,lr,cl,bT,bF]
  simp only[Ja,FM,Yg]
  by_cases e:a.kind=b.kind
  ·rw[←e]
   by_cases h:1≤a.kind∧a.kind≤9
   ·have o:(decide (1≤a.kind)&&decide (a.kind≤9))=true:=by rw[←Y0,Y7];exact h
    have g:¬a.kind=10:=by omega
    have i:¬a.kind=11:=by omega
    have j:¬a.kind=12:=by omega
    simp[o,g,i,j]
   ·have n:(decide (1≤a.kind)&&decide (a.kind≤9))=false:=by rw[←Y0,YG];exact h
    simp only[n,YC,YR,Ye,Yq,Yx,Yg]
    by_cases g:a.kind=10<;>by_cases i:a.kind=11<;>by_cases j:a.kind=12<;>first|(exfalso;omega)|simp[g,i,j,h]
  ·simp[e]
 have f3:ID R a b=if a.kind=b.kind then(if a.kind=12 then Iv a.pairs b.pairs (fun z0 l=>Gg R z0 l)else none)else some (Bv a.kind b.kind):=by
  dsimp only[ID,br,wg,lr,lc,cl,cs,br,Ri,wg,lr,cl,bT,bF]
  simp only[Ja,FM,Yg]
  by_cases e:a.kind=b.kind
  ·rw[←e]
   by_cases h:1≤a.kind∧a.kind≤9
   ·have o:(decide (1≤a.kind)&&decide (a.kind≤9))=true:=by rw[←Y0,Y7];exact h
    have g:¬a.kind=10:=by omega
    have i:¬a.kind=11:=by omega
    have j:¬a.kind=12:=by omega
    simp[o,g,i,j]
   ·have n:(decide (1≤a.kind)&&decide (a.kind≤9))=false:=by rw[←Y0,YG];exact h
    simp only[n,YC,YR,Ye,Yq,Yx,Yg]
    by_cases g:a.kind=10<;>by_cases i:a.kind=11<;>by_cases j:a.kind=12<;>first|(exfalso;omega)|simp[g,i,j,h]
  ·simp[e]
 have f4:IA R a b=if a.kind=b.kind then(if a.kind=10 then((Iw a.slots b.slots (fun z0 l=>Gf R z0 l)).bind fun V=>(Ix a.raws b.raws (fun z0 l=>Gh z0 l)).bind fun W=>IF [V,W])else none)else some (Bv a.kind b.kind):=by
  dsimp only[IA,OS,br,vw,wg,lr,lc,cl,cs,br,Rg,wg,lr,cl,bT,bF]
  simp only[Ja,FM,Yg]
  by_cases e:a.kind=b.kind
  ·rw[←e]
   by_cases h:1≤a.kind∧a.kind≤9
   ·have o:(decide (1≤a.kind)&&decide (a.kind≤9))=true:=by rw[←Y0,Y7];exact h
    have g:¬a.kind=10:=by omega
    have i:¬a.kind=11:=by omega
    have j:¬a.kind=12:=by omega
    simp[o,g,i,j]
   ·have n:(decide (1≤a.kind)&&decide (a.kind≤9))=false:=by rw[←Y0,YG];exact h
    simp only[n,YC,YR,Ye,Yq,Yx,Yg]
    by_cases g:a.kind=10<;>by_cases i:a.kind=11<;>by_cases j:a.kind=12<;>first|(exfalso;omega)|simp[g,i,j,h]
  ·simp[e]
 have f5:IB R a b=if a.kind=b.kind then(if¬(1≤a.kind∧a.kind≤9)∧¬a.kind=10∧¬a.kind=11∧¬a.kind=12 then some 0 else none)else some (Bv a.kind b.kind):=by
  dsimp only[IB,br,wg,lr,lc,cl,br,Rf,wg,lr,cl,bF]
  simp only[Ja,FM,Yg]
  by_cases e:a.kind=b.kind
  ·rw[←e]
   by_cases h:1≤a.kind∧a.kind≤9
   ·have o:(decide (1≤a.kind)&&decide (a.kind≤9))=true:=by rw[←Y0,Y7];exact h
    simp[o,h]
   ·have n:(decide (1≤a.kind)&&decide (a.kind≤9))=false:=by rw[←Y0,YG];exact h
    simp only[n,YC,YR,Ye,Yq,Yx,Yg]
    by_cases g:a.kind=10<;>by_cases i:a.kind=11<;>by_cases j:a.kind=12<;>first|(exfalso;omega)|simp[g,i,j,h]
  ·simp[e]
 have p:PL R a b=((((IC R a b <|> IG R a b) <|> ID R a b) <|> IA R a b) <|> IB R a b):=rfl
 rw[p,f1,f2,f3,f4,f5]
 dsimp only[L7,br,wg,lr,cl,cs,br]
 clear p f1 f2 f3 f4 f5
 by_cases e:a.kind=b.kind
 ·simp only[e,Yx,YC,YR,Ye,Yq]
  rw[←e]
  by_cases h:1≤a.kind∧a.kind≤9
  ·obtain⟨⟨c,m,k⟩,⟨d,r,s⟩⟩:=kY h D F e
   have g:¬a.kind=10:=by omega
   have i:¬a.kind=11:=by omega
   have j:¬a.kind=12:=by omega
   refine⟨d=0,⟨c,?_,?_⟩,⟨d,?_,Iff.rfl⟩⟩
   ·simp only[h,m,and_self,Yx];rfl
   ·rw[←s]at k
    exact decide_eq_decide.1 k
   ·simp only[g,i,j,YI,Ye,Yq,r,Yg]
  ·simp only[h,Yq]
   by_cases i:a.kind=11
   ·refine⟨CS (fun x y=>Q x y=some 0) a.list b.list,?_,?_⟩
    ·obtain⟨c,m,k⟩:=lA (f:=fun z0 l=>R z0 l) (E:=fun x y=>Q x y=some 0) K G fun x hx y hy=>(hl x hx y hy).r
     refine⟨c,?_,k⟩
     simp only[i,Yx,m];rfl
    ·obtain⟨c,m,k⟩:=dE (R:=Q) (E:=fun x y=>Q x y=some 0) K G fun x hx y hy=>(hl x hx y hy).q
     refine⟨c,?_,k⟩
     simp only[i,YC,Yx,m,Yg]
   ·by_cases j:a.kind=12
    ·refine⟨CS (fun x y:Pr=>Q x.key y.key=some 0∧Q x.val y.val=some 0) a.pairs b.pairs,?_,?_⟩
     ·obtain⟨c,m,k⟩:=lw (f:=fun z0 l=>Gg R z0 l) (E:=fun x y:Pr=>Q x.key y.key=some 0∧Q x.val y.val=some 0) L H fun x hx y hy=>cI (E:=fun x y=>Q x y=some 0) (w x hx y hy).1.r (w x hx y hy).2.r
      refine⟨c,?_,k⟩
      simp only[i,j,Yx,Yq,m];rfl
     ·obtain⟨c,m,k⟩:=cH (R:=Q) (E:=fun x y=>Q x y=some 0) L H fun x hx y hy=>⟨(w x hx y hy).1.q,(w x hx y hy).2.q⟩
      refine⟨c,?_,k⟩
      have O:¬(12:Int)=11:=by decide
      simp only[j,O,YC,YI,Ye,Yq,Yx,m,Yg]
    ·by_cases g:a.kind=10
     ·refine⟨CS (fun x y:Slt=>x.num=y.num∧Q x.val y.val=some 0) a.slots b.slots∧CS (fun x y:Raw=>x=y) a.raws b.raws,?_,?_⟩
      ·obtain⟨c,m,k⟩:=lj (f:=fun z0 l=>Gf R z0 l) (E:=fun x y:Slt=>x.num=y.num∧Q x.val y.val=some 0) M I fun x hx y hy=>cQ (E:=fun x y=>Q x y=some 0) (hs x hx y hy).r
       obtain⟨d,r,s⟩:=kh (f:=fun z0 l=>Gh z0 l) (E:=fun x y:Raw=>x=y) N J fun x _ y _=>dw x y
       obtain⟨z,T,U⟩:=PY k s
       refine⟨z,?_,U⟩
       have t:¬(10:Int)=11:=by decide
       have u:¬(10:Int)=12:=by decide
       simp only[g,t,u,Yx,Yq,m,r,T,Yg];rfl
      ·obtain⟨c,m,k⟩:=dy (R:=Q) (E:=fun x y=>Q x y=some 0) M I fun x hx y hy=>(hs x hx y hy).q
       obtain⟨d,r,s⟩:=ee N J
       have t:¬(10:Int)=11:=by decide
       have u:¬(10:Int)=12:=by decide
       by_cases v:c=0
       ·refine⟨d,?_,s.trans ⟨fun h=>⟨k.1 v,h⟩,fun h=>h.2⟩⟩
        simp only[g,t,u,YC,YI,Ye,Yq,Yx,m,r,v,YR,Yg]
       ·refine⟨c,?_,⟨fun h=>absurd h v,fun h=>k.2 h.1⟩⟩
        simp only[g,t,u,YC,YI,Ye,Yq,Yx,m,v,Y8,Yg]
     ·refine⟨True,⟨0,?_,by simp⟩,⟨0,?_,by simp⟩⟩
      ·simp only[g,i,j,Yq,not_false_eq_true,and_self,Yx];rfl
      ·have S:Np a.kind=some (decide (1≤a.kind)&&decide (a.kind≤9)):=rfl
       have n:(decide (1≤a.kind)&&decide (a.kind≤9))=false:=by rw[←Y0,YG];exact h
       have q:Iy a b=some 0:=by
        have C:¬a.kind<b.kind:=by omega
        have B:¬b.kind<a.kind:=by omega
        dsimp only[Iy,br,wg,lr,cl,br]
        simp only[C,B,S,n,YI,Y8,Ye,Yq,Yx,Yg]
       simp only[g,i,j,YI,Ye,Yq,q,Yg]
 ·refine⟨False,⟨Bv a.kind b.kind,?_,(Df _ _).trans (by simp[e])⟩,⟨Bv a.kind b.kind,?_,(Df _ _).trans (by simp[e])⟩⟩
  ·simp only[e,Yq];rfl
  ·simp only[e,YI,Y8,Yx,FW,Yg]
theorem IP:∀(c:Nat) (a b:Val),AE (Ac a)<c→Bf a→Bf b→Both (Er c) (Iz c) a b
 |0,a,b,h,_,_=>by omega
 |c+1,a,b,h,d,e=>by
  obtain⟨P,f,g⟩:=ey (Er c) (Iz c) a b d e
   (fun x hx y hy=>IP c x y (by have:=jC hx;omega) (Pe d hx) (Pe e hy))
   (fun x hx y hy=>⟨IP c x.key y.key (by have:=(UN hx).1;omega) (Hx d hx).1 (Hx e hy).1,IP c x.val y.val (by have:=(UN hx).2;omega) (Hx d hx).2 (Hx e hy).2⟩)
   (fun x hx y hy=>IP c x.val y.val (by have:=je hx;omega) (Pi d hx) (Pi e hy))
  exact Both.mk' f g
theorem bC{a b:Val}(e:Bf a)(k:Bf b):∃z:Bool,C8 a b=some z∧Fh a b=some z:=by
 obtain⟨⟨c,f,i⟩,⟨d,g,j⟩⟩:=IP Ar a b (by have h:AE (Ac a)≤1048576:=e;exact Cw (by omega)) e k
 refine⟨decide (c=0),?_,?_⟩
 ·dsimp only[C8,wg,lr,cl]
  simp only[f,Yg]
 ·dsimp only[Fh,wg,lr,cl]
  simp only[g,Yg]
  exact congrArg some (decide_eq_decide.2 (j.trans i.symm))
structure FT (na nb:Nat) (r:List Int) (f:Nat→Nat→Int):Prop where
 len:r.length=(na+1)*(nb+1)
 at_:∀j t,j≤na→t≤nb→r[j*(nb+1)+t]?=some (f j t)
theorem FT.congr{a b:Nat}{r:List Int}{f g:Nat→Nat→Int}(h:FT a b r f)(e:∀j t,j≤a→t≤b→f j t=g j t):FT a b r g:=⟨h.len,fun j t c d=>by rw[h.at_ j t c d,e j t c d]⟩
theorem hH{a j t p k:Nat}(d:t≤a)(c:k≤a)(h:j*(a+1)+t=p*(a+1)+k):j=p∧t=k:=by
 rcases Ik j p with b|b|b
 ·have:=YP (a+1) (show j+1≤p from b)
  rw[Ih]at this;omega
 ·subst b;exact⟨rfl,by omega⟩
 ·have:=YP (a+1) (show p+1≤j from b)
  rw[Ih]at this;omega
theorem Lr{b a j t:Nat}(c:j≤b)(d:t≤a):j*(a+1)+t<(b+1)*(a+1):=by
 have:=YP (a+1) c
 rw[Ih];omega
theorem FT.put{b a:Nat}{r:List Int}{f:Nat→Nat→Int}(h:FT b a r f){p k:Nat}(i:p≤b)(c:k≤a)(n:Int):FT b a (r.set (p*(a+1)+k) n) (fun j t=>if j=p∧t=k then n else f j t):=by
 refine⟨by rw[List.length_set];exact h.len,fun j t g d=>?_⟩
 rw[List.getElem?_set]
 by_cases e:p*(a+1)+k=j*(a+1)+t
 ·obtain⟨rfl,rfl⟩:=hH c d e
  rw[Yj rfl,Yj (by rw[h.len];exact Lr i c),Yj ⟨rfl,rfl⟩]
 ·rw[Yt e,Yt (fun h=>e (by rw[h.1,h.2])),h.at_ j t g d]
theorem FT.zero(a b:Nat):FT a b (List.replicate ((a+1)*(b+1)) (0:Int)) (fun _ _=>0):=⟨by simp,fun j t c d=>by rw[List.getElem?_replicate,Yj (Lr c d)]⟩
theorem EC{α β:Type}{Q:β→Prop}{xs:List α}{i j:Nat}{x:α}{k:α→Option β}(e:i=j)(h:xs[j]?=some x)(a:Ok Q (k x)):Ok Q (xs[i]?.bind k):=by rw[e,h];exact a
theorem Cz{α β:Type}{Q:β→Prop}{m:Option α}{x:α}{k:α→Option β}(h:m=some x)(a:Ok Q (k x)):Ok Q (m.bind k):=by rw[h];exact a
section
variable {a b:List Val} {q:Val→Val→Bool}
set_option maxRecDepth 100000 in
theorem ZV(hna:a.length≤4096)(hnb:b.length≤4096)(hE:∀x∈a,∀y∈b,Fh x y=some (q x y)){p i:Nat}(hp:p+i+1=a.length){r:List Int}(L:Nat→Nat→Nat)
  (hL:∀j k x y,a[j]?=some x→b[k]?=some y→L j k=if q x y then L (j+1) (k+1)+1 else max (L (j+1) k) (L j (k+1))) (hL2:∀j k,b.length≤k→L j k=0) (hLb:∀j k,L j k≤4096) (h:FT a.length b.length r (fT L a.length b.length i 0)):
  Ok (Sum.elim (fun r'=>FT a.length b.length r' (fT L a.length b.length (i+1) 0)) (fun _=>False)) (Av (Jj a b (p:Int)) Ar ((b.length:Int)-1,r)):=by
 refine Da (fun s=>∃c,c≤b.length∧s.1=(b.length:Int)-1-c∧FT a.length b.length s.2 (fT L a.length b.length i c)) (fun s=>(s.1+1).toNat) ⟨0,YU _,by simp,h⟩ (Cw (by omega)) ?_
 rintro⟨v,r⟩ ⟨c,hc,hv,hF⟩
 dsimp only at hv hF⊢
 subst hv
 by_cases hcb:c<b.length
 ·obtain⟨k,hk⟩:∃k,b.length=k+c+1:=⟨b.length-c-1,by omega⟩
  have ek:(b.length:Int)-1-(c:Int)=(k:Int):=by omega
  dsimp only[Jj,br,F0,vz,vw,vs,ln,Aq,cl,wi,CW,ca,st,rn,fl,br,CW]
  rw[ek]
  have hX:(p:Int)*((b.length+1:Nat):Int)=((p*(b.length+1):Nat):Int):=by rw[Int.natCast_mul]
  have hY:((p:Int)+1)*((b.length+1:Nat):Int)=(((p+1)*(b.length+1):Nat):Int):=by rw[Int.natCast_mul];rfl
  rw[hX,hY]
  have hYX:(p+1)*(b.length+1)=p*(b.length+1)+(b.length+1):=Ih _ _
  have hT:(p+1)*(b.length+1)+b.length<r.length:=by rw[hF.len];exact Lr (by omega) (Yf _)
  have hTb:r.length≤4097*4097:=by rw[hF.len];exact M4 (by omega) (by omega)
  have gY:r[(p+1)*(b.length+1)+k]?=some ((L (p+1) k:Nat):Int):=by
   rw[hF.at_ (p+1) k (by omega) (by omega)];unfold fT;rw[Yj (by omega)]
  have gY1:r[(p+1)*(b.length+1)+k+1]?=some ((L (p+1) (k+1):Nat):Int):=by
   rw[Ys,hF.at_ (p+1) (k+1) (by omega) (by omega)];unfold fT;rw[Yj (by omega)]
  have gX1:r[p*(b.length+1)+k+1]?=some ((L p (k+1):Nat):Int):=by
   rw[Ys,hF.at_ p (k+1) (by omega) (by omega)];unfold fT;rw[Yj (by omega)]
  have hput:=fun n=>hF.put (p:=p) (k:=k) (by omega) (by omega) n
  obtain⟨xa,ha⟩:∃x,a[p]?=some x:=⟨_,Yb (by omega)⟩
  obtain⟨xb,hb⟩:∃x,b[k]?=some x:=⟨_,Yb (by omega)⟩
  have he:=hE xa (Yi ha) xb (Yi hb)
  have hl:=hL p k _ _ ha hb
  have hend:∀n:Int,n=((L p k:Nat):Int)→FT a.length b.length (r.set (p*(b.length+1)+k) n) (fT L a.length b.length i (c+1)):=fun n hn=>(hput n).congr fun j t hj ht=>by
   unfold fT
   by_cases e:j=p∧t=k
   ·rw[Yj e,Yj (by omega),hn,e.1,e.2]
   ·rw[Yt e]
    by_cases h1:a.length≤j+i∨j+i+1=a.length∧b.length≤t+c
    ·rw[Yj h1,Yj (by omega)]
    ·rw[Yt h1,Yt (by omega)]
  have b1:=hLb (p+1) (k+1)
  clear hput hX hY hL hLb hE h hF hL2
  generalize (p+1)*(b.length+1)=Y at*
  generalize p*(b.length+1)=X at*
  have tY:((Y:Int)+(k:Int)).toNat=Y+k:=by omega
  have tY1:((Y:Int)+(k:Int)+1).toNat=Y+k+1:=by omega
  have tX:((X:Int)+(k:Int)).toNat=X+k:=by omega
  have tX1:((X:Int)+(k:Int)+1).toNat=X+k+1:=by omega
  have tp:((p:Nat):Int).toNat=p:=Il p
  have tk:((k:Nat):Int).toNat=k:=Il k
  have fin:∀n:Int,n=((L p k:Nat):Int)→(∃c_1,c_1≤b.length∧(k:Int)-1=(b.length:Int)-1-(c_1:Int)∧FT a.length b.length (r.set ((X:Int)+(k:Int)).toNat n) (fT L a.length b.length i c_1))∧((k:Int)-1+1).toNat<((k:Int)+1).toNat:=fun n hn=>⟨⟨c+1,by omega,by omega,by rw[tX];exact hend n hn⟩,by omega⟩
  have ls:∀n:Int,(r.set ((X:Int)+(k:Int)).toNat n).length=r.length:=fun n=>List.length_set
  clear hend
  with_reducible refine Bb (fun _=>?_) fun h=>absurd h (by simp)
  repeat(with_reducible refine AO ?h ?_;case h=>omega)
  with_reducible refine EC tY gY ?_
  repeat(with_reducible refine AO ?h ?_;case h=>omega)
  with_reducible refine EC tX1 gX1 ?_
  with_reducible refine Bb (fun h1=>?_) fun h1=>?_
  ·repeat(with_reducible refine AO ?h ?_;case h=>omega)
   with_reducible refine EC tX1 gX1 ?_
   repeat(with_reducible refine AO ?h ?_;case h=>omega)
   with_reducible refine EC tp ha ?_
   repeat(with_reducible refine AO ?h ?_;case h=>omega)
   with_reducible refine EC tk hb ?_
   with_reducible refine Cz he ?_
   with_reducible refine Bb (fun h2=>?_) fun h2=>?_
   ·repeat(with_reducible refine AO ?h ?_;case h=>omega)
    with_reducible refine EC tY1 gY1 ?_
    repeat(with_reducible refine AO ?h ?_;case h=>omega)
    with_reducible refine AO (ls _).symm ?_
    repeat(with_reducible refine AO ?h ?_;case h=>omega)
    refine⟨_,rfl,fin _ ?_⟩
    rw[h2]at hl
    simp only[Y7,YG,Ye,Yx,Yq]at h1 hl
    omega
   ·repeat(with_reducible refine AO ?h ?_;case h=>omega)
    with_reducible refine AO (ls _).symm ?_
    repeat(with_reducible refine AO ?h ?_;case h=>omega)
    refine⟨_,rfl,fin _ ?_⟩
    rw[h2]at hl
    simp only[Y7,YG,Ye,Yx,Yq]at h1 hl
    omega
  ·repeat(with_reducible refine AO ?h ?_;case h=>omega)
   with_reducible refine EC tp ha ?_
   repeat(with_reducible refine AO ?h ?_;case h=>omega)
   with_reducible refine EC tk hb ?_
   with_reducible refine Cz he ?_
   with_reducible refine Bb (fun h2=>?_) fun h2=>?_
   ·repeat(with_reducible refine AO ?h ?_;case h=>omega)
    with_reducible refine EC tY1 gY1 ?_
    repeat(with_reducible refine AO ?h ?_;case h=>omega)
    with_reducible refine AO (ls _).symm ?_
    repeat(with_reducible refine AO ?h ?_;case h=>omega)
    refine⟨_,rfl,fin _ ?_⟩
    rw[h2]at hl
    simp only[Y7,YG,Ye,Yx,Yq]at h1 hl
    omega
   ·repeat(with_reducible refine AO ?h ?_;case h=>omega)
    with_reducible refine AO (ls _).symm ?_
    repeat(with_reducible refine AO ?h ?_;case h=>omega)
    refine⟨_,rfl,fin _ ?_⟩
    rw[h2]at hl
    simp only[Y7,YG,Ye,Yx,Yq]at h1 hl
    omega
 ·obtain rfl:c=b.length:=by omega
  dsimp only[Jj,br,F0,vz,vw,vs,ln,Aq,cl,wi,CW,ca,st,rn,fl,br,CW]
  refine Bb (fun h=>absurd (G0 h) (by omega)) fun _=>⟨_,rfl,hF.congr fun j t hj ht=>?_⟩
  unfold fT
  by_cases h1:a.length≤j+(i+1)
  ·rw[Yj (by omega),Yj (.inl h1)]
  ·rw[Yt (by omega)]
   split
   ·rw[hL2 _ _ (by omega)];rfl
   ·rfl
theorem fH(m:a.length≤4096)(n:b.length≤4096)(B:∀x∈a,∀y∈b,Fh x y=some (q x y))(L:Nat→Nat→Nat)
  (C:∀j k x y,a[j]?=some x→b[k]?=some y→L j k=if q x y then L (j+1) (k+1)+1 else max (L (j+1) k) (L j (k+1))) (g:∀j k,a.length≤j→L j k=0) (e:∀j k,b.length≤k→L j k=0) (l:∀j k,L j k≤4096):
  Ok (fun r=>FT a.length b.length r (fun j k=>(L j k:Int))) (Na a b):=by
 have H:(a.length+1)*(b.length+1)≤4097*4097:=M4 (by omega) (by omega)
 have lr:(List.replicate ((a.length+1)*(b.length+1)) (0:Int)).length=(a.length+1)*(b.length+1):=MS
 have A:FT a.length b.length (List.replicate ((a.length+1)*(b.length+1)) (0:Int)) (fT L a.length b.length 0 0):=(FT.zero a.length b.length).congr fun j t E G=>by
  unfold fT
  split
  ·rename_i h
   rcases h with h|h
   ·rw[g _ _ (by omega)];rfl
   ·rw[e _ _ (by omega)];rfl
  ·rfl
 have key:Ok (Sum.elim (fun o=>FT a.length b.length o (fT L a.length b.length a.length 0)) (fun _=>False)) (Av (I7 a b) Ar ((a.length:Int)-1,List.replicate ((a.length+1)*(b.length+1)) (0:Int))):=by
  refine Da (fun s=>∃i,i≤a.length∧s.1=(a.length:Int)-1-i∧FT a.length b.length s.2 (fT L a.length b.length i 0)) (fun s=>(s.1+1).toNat) ⟨0,YU _,by simp,A⟩ (Cw (by omega)) ?_
  rintro⟨v,r⟩ ⟨i,hi,w,f⟩
  dsimp only at w f⊢
  subst w
  have u:=f.len
  by_cases D:i<a.length
  ·obtain⟨p,F⟩:∃p,p+i+1=a.length:=⟨a.length-i-1,by omega⟩
   have z:(a.length:Int)-1-(i:Int)=(p:Int):=by omega
   dsimp only[I7,br,vz,vs,ln,Aq,lc,wi,fl,Ah,br]
   rw[z]
   with_reducible refine Bb (fun _=>?_) fun h=>absurd h (by simp)
   repeat(with_reducible refine AO ?h ?_;case h=>omega)
   refine GB (ZV m n B F L C e l f) (fun o c=>?_) (fun _ h=>h.elim)
   have d:=c.len
   repeat(with_reducible refine AO ?h ?_;case h=>omega)
   exact⟨_,rfl,⟨i+1,by omega,by dsimp only;omega,c⟩,by dsimp only;omega⟩
  ·obtain rfl:i=a.length:=by omega
   dsimp only[I7,br,vz,vs,ln,Aq,lc,wi,fl,Ah,br]
   with_reducible refine Bb (fun h=>absurd (G0 h) (by omega)) fun _=>?_
   repeat(with_reducible refine AO ?h ?_;case h=>omega)
   exact⟨_,rfl,f⟩
 dsimp only[Na,vz,vs,lr,lc,wa,wi,ms,fl,fr,Ah]
 repeat(with_reducible refine AO ?h ?_;case h=>omega)
 refine GB key (fun o c=>?_) (fun _ h=>h.elim)
 have d:=c.len
 repeat(with_reducible refine AO ?h ?_;case h=>omega)
 refine⟨_,rfl,c.congr fun j t E G=>?_⟩
 unfold fT
 rw[Yj (by omega)]
def B8(l:List (Nat×Nat)):List P2:=l.map fun z=>⟨(z.1:Int),(z.2:Int)⟩
theorem gu(G:a.length≤4096)(H:b.length≤4096)(D:∀x∈a,∀y∈b,Fh x y=some (q x y)){t:List Int}(g:FT a.length b.length t (fun j k=>(A7 q (a.drop j) (b.drop k):Int))):
  Ok (Sum.elim (fun r=>r=B8 (Bh q 0 0 a b)) (fun _=>False)) (Av (LZ a b t) Ar (([]:List P2),0,0)):=by
 refine Da (fun s=>(s.2.1≤a.length∧s.2.2≤b.length)∧s.1.length≤s.2.1∧B8 (Bh q 0 0 a b)=s.1++B8 (Bh q s.2.1 s.2.2 (a.drop s.2.1) (b.drop s.2.2))) (fun s=>(a.length-s.2.1)+(b.length-s.2.2)) ⟨⟨YU _,YU _⟩,YU _,rfl⟩ (Cw (by dsimp only;omega)) ?_
 rintro⟨r,i,k⟩ ⟨⟨hi,w⟩,z,c⟩
 dsimp only at hi w z c⊢
 dsimp only[LZ,br,ix,vz,vy,vw,vs,ln,Aq,ap,cl,wa,fl,Ah,br]
 by_cases f:i<a.length∧k<b.length
 ·obtain⟨d,e⟩:=f
  obtain⟨A,l⟩:∃x,a[i]?=some x:=⟨_,Yb d⟩
  obtain⟨B,m⟩:∃x,b[k]?=some x:=⟨_,Yb e⟩
  have he:=D A (Yi l) B (Yi m)
  have u:a.drop i=A::a.drop (i+1):=by rw[YN d];congr 1;rw[Yb d]at l;exact Eo l
  have v:b.drop k=B::b.drop (k+1):=by rw[YN e];congr 1;rw[Yb e]at m;exact Eo m
  rw[u,v,O4,←u,←v]at c
  have C:t[(i+1)*(b.length+1)+k]?=some ((A7 q (a.drop (i+1)) (b.drop k):Nat):Int):=g.at_ (i+1) k (by omega) (by omega)
  have n:t[i*(b.length+1)+k+1]?=some ((A7 q (a.drop i) (b.drop (k+1)):Nat):Int):=by rw[Ys];exact g.at_ i (k+1) (by omega) (by omega)
  have F:(i+1)*(b.length+1)=i*(b.length+1)+(b.length+1):=Ih _ _
  have I:(i+1)*(b.length+1)+b.length<t.length:=by rw[g.len];exact Lr (by omega) (Yf _)
  have E:t.length≤4097*4097:=by rw[g.len];exact M4 (by omega) (by omega)
  with_reducible refine Bb (fun _=>?_) fun h=>absurd h (by simp;omega)
  with_reducible refine Cz l ?_
  with_reducible refine Cz m ?_
  with_reducible refine Cz he ?_
  with_reducible refine Bb (fun p=>?_) fun p=>?_
  ·repeat(with_reducible refine AO ?h ?_;case h=>omega)
   rw[Yj p]at c
   refine⟨_,rfl,⟨⟨d,e⟩,by simp;omega,?_⟩,by dsimp only;omega⟩
   rw[c]
   simp[B8]
  ·rw[p]at c
   simp only[Ye,Yq]at c
   repeat(with_reducible refine AO ?h ?_;case h=>omega)
   with_reducible refine Cz C ?_
   repeat(with_reducible refine AO ?h ?_;case h=>omega)
   with_reducible refine Cz n ?_
   with_reducible refine Bb (fun o=>?_) fun o=>?_
   ·repeat(with_reducible refine AO ?h ?_;case h=>omega)
    simp only[Y7]at o
    rw[Yj (by omega)]at c
    exact⟨_,rfl,⟨⟨d,w⟩,by dsimp only;omega,c⟩,by dsimp only;omega⟩
   ·repeat(with_reducible refine AO ?h ?_;case h=>omega)
    simp only[YG]at o
    rw[Yt (by omega)]at c
    exact⟨_,rfl,⟨⟨hi,e⟩,z,c⟩,by dsimp only;omega⟩
 ·with_reducible refine Bb (fun h=>?_) fun _=>?_
  ·exfalso
   apply f
   simpa using h
  ·refine⟨_,rfl,?_⟩
   have:Bh q i k (a.drop i) (b.drop k)=[]:=by
    by_cases h:i<a.length
    ·rw[Fa (show b.length≤k by omega),Pb]
    ·rw[Fa (show a.length≤i by omega),Pc]
   rw[c,this]
   simp[B8]
theorem gI(I:a.length≤4096)(J:b.length≤4096)(H:∀x∈a,∀y∈b,C8 x y=some (q x y)){t:List (List Int)}(B:∀j,j≤a.length→∃r,t[j]?=some r∧∀k,k≤b.length→r[k]?=some ((A7 q (a.drop j) (b.drop k):Nat):Int)):
  Ok (Sum.elim (fun r=>r=B8 (Bh q 0 0 a b)) (fun _=>False)) (Av (L5 a b t) Ar (([]:List P2),0,0)):=by
 refine Da (fun s=>(s.2.1≤a.length∧s.2.2≤b.length)∧s.1.length≤s.2.1∧B8 (Bh q 0 0 a b)=s.1++B8 (Bh q s.2.1 s.2.2 (a.drop s.2.1) (b.drop s.2.2))) (fun s=>(a.length-s.2.1)+(b.length-s.2.2)) ⟨⟨YU _,YU _⟩,YU _,rfl⟩ (Cw (by dsimp only;omega)) ?_
 rintro⟨r,i,k⟩ ⟨⟨hi,C⟩,D,c⟩
 dsimp only at hi C D c⊢
 dsimp only[L5,br,ix,vz,vy,vw,vs,ln,Aq,ap,cl,wa,fl,Ah,br]
 by_cases f:i<a.length∧k<b.length
 ·obtain⟨d,e⟩:=f
  obtain⟨E,m⟩:∃x,a[i]?=some x:=⟨_,Yb d⟩
  obtain⟨F,n⟩:∃x,b[k]?=some x:=⟨_,Yb e⟩
  have he:=H E (Yi m) F (Yi n)
  have z:a.drop i=E::a.drop (i+1):=by rw[YN d];congr 1;rw[Yb d]at m;exact Eo m
  have A:b.drop k=F::b.drop (k+1):=by rw[YN e];congr 1;rw[Yb e]at n;exact Eo n
  rw[z,A,O4,←z,←A]at c
  obtain⟨L,w,l⟩:=B (i+1) (by omega)
  obtain⟨K,v,g⟩:=B i (by omega)
  have G:=l k (by omega)
  have o:=g (k+1) (by omega)
  with_reducible refine Bb (fun _=>?_) fun h=>absurd h (by simp;omega)
  with_reducible refine Cz m ?_
  with_reducible refine Cz n ?_
  with_reducible refine Cz he ?_
  with_reducible refine Bb (fun u=>?_) fun u=>?_
  ·repeat(with_reducible refine AO ?h ?_;case h=>omega)
   rw[Yj u]at c
   refine⟨_,rfl,⟨⟨d,e⟩,by simp;omega,?_⟩,by dsimp only;omega⟩
   rw[c]
   simp[B8]
  ·rw[u]at c
   simp only[Ye,Yq]at c
   repeat(with_reducible refine AO ?h ?_;case h=>omega)
   with_reducible refine Cz w ?_
   with_reducible refine Cz G ?_
   with_reducible refine Cz v ?_
   repeat(with_reducible refine AO ?h ?_;case h=>omega)
   with_reducible refine Cz o ?_
   with_reducible refine Bb (fun p=>?_) fun p=>?_
   ·repeat(with_reducible refine AO ?h ?_;case h=>omega)
    simp only[Y7]at p
    rw[Yj (by omega)]at c
    exact⟨_,rfl,⟨⟨d,C⟩,by dsimp only;omega,c⟩,by dsimp only;omega⟩
   ·repeat(with_reducible refine AO ?h ?_;case h=>omega)
    simp only[YG]at p
    rw[Yt (by omega)]at c
    exact⟨_,rfl,⟨⟨hi,e⟩,D,c⟩,by dsimp only;omega⟩
 ·with_reducible refine Bb (fun h=>?_) fun _=>?_
  ·exfalso
   apply f
   simpa using h
  ·refine⟨_,rfl,?_⟩
   have:Bh q i k (a.drop i) (b.drop k)=[]:=by
    by_cases h:i<a.length
    ·rw[Fa (show b.length≤k by omega),Pb]
    ·rw[Fa (show a.length≤i by omega),Pc]
   rw[c,this]
   simp[B8]
end
theorem eI{a b:List Val}{q:Val→Val→Bool}(c:a.length≤4096)(d:b.length≤4096)(f:∀x∈a,∀y∈b,C8 x y=some (q x y)∧Fh x y=some (q x y)):
  Nu a b=some (B8 (Bh q 0 0 a b))∧Nc a b=some (B8 (Bh q 0 0 a b)):=by
 constructor
 ·have l:Rt a b=some (EI C8 a b):=by
   show LF C8 a b=_
   unfold LF
   exact Yj ⟨c,d,fun x hx y hy=>by rw[(f x hx y hy).1];rfl⟩
  have u:∀j k,A7 (fun x y=>C8 x y==some true) (a.drop j) (b.drop k)=A7 q (a.drop j) (b.drop k):=fun j k=>Kx _ fun x hx y hy=>by
   rw[(f x (JW hx) y (JW hy)).1]
   cases q x y<;>rfl
  have key:=gI (q:=q) c d (fun x hx y hy=>(f x hx y hy).1) (t:=EI C8 a b) (fun j g=>⟨_,by
   unfold EI
   rw[Yv,JX (by omega)];rfl,fun k i=>by
   rw[Yv,JX (by omega)]
   exact congrArg (fun n:Nat=>some (n:Int)) (u j k)⟩)
  obtain⟨z,m,e⟩:=key
  dsimp only[Nu,vz,vw,lr,lc,cl,fl,fr]
  rw[l]
  cases z with
  |inl r=>
   have e:r=_:=e
   rw[Yg,m]
   show some r=_
   rw[e]
  |inr r=>exact e.elim
 ·obtain⟨t,l,s⟩:=fH c d (fun x hx y hy=>(f x hx y hy).2) (fun j k=>A7 q (a.drop j) (b.drop k)) (fun j k x y hx hy=>by
   have g:=(Yk.1 hx).1
   have i:=(Yk.1 hy).1
   have o:a.drop j=x::a.drop (j+1):=by rw[YN g];congr 1;rw[Yb g]at hx;exact Eo hx
   have p:b.drop k=y::b.drop (k+1):=by rw[YN i];congr 1;rw[Yb i]at hy;exact Eo hy
   rw[o,p,HC]) (fun j k h=>by rw[Fa h,Ls]) (fun j k h=>by rw[Fa h,HB]) (fun j k=>CI (OQ q _ _) (by rw[El];omega))
  obtain⟨z,m,e⟩:=gu c d (fun x hx y hy=>(f x hx y hy).2) s
  dsimp only[Nc,vz,vw,vs,lr,lc,cl,wa,fl,fr,Ah]
  rw[l]
  cases z with
  |inl r=>
   have e:r=_:=e
   rw[Yg,Yj (by omega),m]
   show some r=_
   rw[e]
  |inr r=>exact e.elim
theorem jF(v:Val)(h:Bf v):Ok Tr (Nl v 50):=by
 dsimp only[Nl,wg,lr,cl]
 (repeat' (first|with_reducible (first|refine Bb (fun _=>?_) fun _=>?_|refine Bg ?_)|(with_reducible apply Hj;(exact Zf Ar _ _ _ h (by omega) (by unfold Ar;omega) (by omega) (by omega) (by omega));intro _ _)|with_reducible refine AO ?_ ?_))<;>exact F5
theorem TL{l:List Val}(hl:l.length≤1048576)(h:∀v∈l,Bf v):Ok (fun z:Bool=>z=true→l.length≤40) (Nk l):=by
 have a:Ok (Sum.elim Tr (fun y:Bool=>y=false)) (Av (L4 l) Ar 0):=by
  refine Da (fun i:Nat=>i≤l.length) (fun i:Nat=>l.length-i) (by omega) (Hm (by omega)) fun i hi=>?_
  dsimp only[L4,br,ix,vz,vs,AI,ln,Aq,cl,wa,Ah,br]
  (repeat' (first|with_reducible (first|refine Bb (fun _=>?_) fun _=>?_|refine Bg ?_|refine I0 ?_ fun _ _ _=>?_)|(with_reducible apply Hj;(exact jF _ (h _ (by assumption)));intro _ _)|with_reducible refine AO ?_ ?_))<;>exact F5
 dsimp only[Nk,br,vz,lr,lc,Ah,br]
 (repeat' (first|with_reducible (first|refine Bb (fun _=>?_) fun _=>?_|refine Bg ?_)|(with_reducible apply GB;(exact a);all_goals(intro _ _;try dsimp only))|with_reducible refine AO ?_ ?_))<;>exact F5
theorem WN{l:List Val}(h:Dl (l.map Ag)+1≤1048576):l.length≤1048576∧∀v∈l,Bf v:=by
 refine⟨by have:=Ht (e:=Ag) l;omega,fun v a=>?_⟩
 have:=Fr (e:=Ag) a
 rw[Cu]at this
 unfold Bf
 omega
def GQ(x y:Val):Bool:=(C8 x y).getD false
theorem eU{x y:Val}(hx:Bf x)(hy:Bf y):C8 x y=some (GQ x y)∧Fh x y=some (GQ x y):=by
 obtain⟨z,a,b⟩:=bC hx hy
 unfold GQ
 rw[a]
 exact⟨rfl,b⟩
theorem em(y:List P2)(hy:y.length≤1048576):Ok (Sum.elim Tr No) (Av (L9 y y) Ar 0):=by
 refine Da (fun i:Nat=>i≤y.length) (fun i:Nat=>y.length-i) (by omega) (Hm (by omega)) fun i hi=>?_
 dsimp only[L9,br,ix,Dp,vz,vs,AI,ln,Aq,wa,Ah,br]
 by_cases h:i<y.length
 ·obtain⟨e,he⟩:∃e,y[i]?=some e:=⟨_,Yb h⟩
  have a:=BS he
  have b:i+1<9223372036854775808:=by omega
  have c:((i:Nat):Int).toNat=i:=Il i
  have d:(0:Int)≤(i:Int):=by omega
  simp only[he,a,b,c,d,YC,Yx,Yg,YR,Y8,Ye,Yq,and_self,Cs,Iq,Fc,Bool.or_self]
  exact⟨_,rfl,by omega,by omega⟩
 ·have a:¬(i:Int)<(y.length:Int):=by omega
  simp only[a,YI,Ye,Yq]
  exact⟨_,rfl,trivial⟩
theorem eg{q:Val→Val→Bool}{a b:List Val}(c:a.length≤40):(B8 (Bh q 0 0 a b)).length≤40:=by
 unfold B8
 rw[YH,KS]
 exact CI (OQ q a b) c
theorem ZT{a b:List Val}(j:Dl (a.map Ag)+1≤1048576)(k:Dl (b.map Ag)+1≤1048576):M9 a b=some true:=by
 obtain⟨o,d⟩:=WN j
 obtain⟨p,e⟩:=WN k
 obtain⟨f1,f,h⟩:=TL o d
 obtain⟨f2,g,i⟩:=TL p e
 dsimp only[M9,br,vz,lr,lc,cl,CD,Ah,br]
 rw[f,g,ku]
 cases f1 with
 |false=>simp
 |true=>
 cases f2 with
 |false=>simp
 |true=>
 have n:=h rfl
 have v:=i rfl
 obtain⟨s,t⟩:=eI (q:=GQ) (a:=a) (b:=b) (by omega) (by omega) fun x hx y hy=>eU (d x hx) (e y hy)
 have w:=eg (q:=GQ) (a:=a) (b:=b) n
 rw[s,t]
 obtain⟨z,m,l⟩:=em (B8 (Bh GQ 0 0 a b)) (by omega)
 have c:(B8 (Bh GQ 0 0 a b)).length<4611686018427387904:=by omega
 simp only[Yg,Option.isSome_some,Cs,Yx,YR,Bool.or_self,Ye,Yq,YC,c,m]
 cases z with
 |inl u=>rfl
 |inr r=>exact l.elim
end Go.Proofs.YtifefgdogdecnaaGreatDoor
namespace Go.Proofs.YtifefgdogdecnaaGreatDoor
set_option linter.all false
open Go Go.Eng Go.ChangeShapes Go.WideShapes Go.ChangeAt Go.RowKit
theorem own:ownKnob Tryz.prog.godebug=none:=by kernel_rfl
def iM:Obj→Obj
 |.cells _ t frozen=>.cells #[.int .u64 1,.int .u64 10,.int .u64 100,.int .u64 1000,.int .u64 10000,.int .u64 100000,.int .u64 1000000,.int .u64 10000000,.int .u64 100000000,.int .u64 1000000000,.int .u64 10000000000,.int .u64 100000000000,.int .u64 1000000000000,.int .u64 10000000000000,.int .u64 100000000000000,.int .u64 1000000000000000,.int .u64 10000000000000000,.int .u64 100000000000000000,.int .u64 1000000000000000000,.int .u64 10000000000000000000] t frozen
 |o=>o
def i5:Obj→Obj
 |.cells _ t frozen=>.cells #[.int .u8 0,.int .u8 1,.int .u8 28,.int .u8 2,.int .u8 29,.int .u8 14,.int .u8 24,.int .u8 3,.int .u8 30,.int .u8 22,.int .u8 20,.int .u8 15,.int .u8 25,.int .u8 17,.int .u8 4,.int .u8 8,.int .u8 31,.int .u8 27,.int .u8 13,.int .u8 23,.int .u8 21,.int .u8 19,.int .u8 16,.int .u8 7,.int .u8 26,.int .u8 12,.int .u8 18,.int .u8 6,.int .u8 11,.int .u8 5,.int .u8 10,.int .u8 9] t frozen
 |o=>o
def jQ:Obj→Obj
 |.cells _ t frozen=>.cells #[.int .u8 0,.int .u8 1,.int .u8 56,.int .u8 2,.int .u8 57,.int .u8 49,.int .u8 28,.int .u8 3,.int .u8 61,.int .u8 58,.int .u8 42,.int .u8 50,.int .u8 38,.int .u8 29,.int .u8 17,.int .u8 4,.int .u8 62,.int .u8 47,.int .u8 59,.int .u8 36,.int .u8 45,.int .u8 43,.int .u8 51,.int .u8 22,.int .u8 53,.int .u8 39,.int .u8 33,.int .u8 30,.int .u8 24,.int .u8 18,.int .u8 12,.int .u8 5,.int .u8 63,.int .u8 55,.int .u8 48,.int .u8 27,.int .u8 60,.int .u8 41,.int .u8 37,.int .u8 16,.int .u8 46,.int .u8 35,.int .u8 44,.int .u8 21,.int .u8 52,.int .u8 32,.int .u8 23,.int .u8 11,.int .u8 54,.int .u8 26,.int .u8 40,.int .u8 15,.int .u8 34,.int .u8 20,.int .u8 31,.int .u8 10,.int .u8 25,.int .u8 14,.int .u8 19,.int .u8 9,.int .u8 13,.int .u8 8,.int .u8 7,.int .u8 6] t frozen
 |o=>o
noncomputable def N5(os:Os):World:=
 {World.holding Tryz.prog os ⟨#[],#[],[]⟩with heap:=(((World.holding Tryz.prog os ⟨#[],#[],[]⟩).heap.modify 1 iM).modify 2 i5).modify 3 jQ }
namespace DiffCommons
open Go.Proofs.YtifefgdogdecnaaGreatDoor
set_option maxRecDepth 100000 in
theorem dX(H:Type)(enc:TypeId×Value→H)(W:World)(base:Nat)(args:Array Value)(ds gs:List (DataW H))(before:List MemPlace)
  (hval:∀(j:Nat) t v,Tryz.f3.params[j]?=some t→args[j]?=some v→Value.okWide Tryz.prog W .any base t v)
  (hW:DataW.Whole enc Tryz.prog Tryz.f3.params.toList Rows.diffCommonsSpec.vars false W args.toList ds gs before) (hk:Rows.uptoSmall H (ds++gs)=true):
  Calls Tryz.prog 3 args W fun e W'=>∃v,e=.returned v∧Rows.diffCommonsSpec.post enc Tryz.prog Tryz.f3 false true false false W args v W':=by
 obtain⟨p,q,hA0,hV,rfl,hfz,hnd⟩:=id hW
 have hA:DataW.TrodAll enc Tryz.prog W 0 (fun _=>true) true Tryz.f3.params.toList args.toList ds p:=hA0
 rw[Tryz.params3]at hA hval
 obtain⟨v0,vs0,d0,ds0,p0,q0,hargs,rfl,rfl,h0,r0⟩:=trodAll_cons hA
 obtain⟨v1,vs1,d1,ds1,p1,q1,rfl,rfl,rfl,h1,r1⟩:=trodAll_cons r0
 obtain⟨rfl,rfl,rfl⟩:=trodAll_nil r1
 obtain rfl:args=#[v0,v1]:=by cases args;simp_all
 have hb:Rows.uptoBulkAll ([d0,d1]++gs)≤1048576:=G0 hk
 simp only[JZ,Em,Rows.uptoBulkAll]at hb
 obtain⟨a,re0,fe0⟩:=Sh (e:=Ag) (fun n=>Hc Tryz.underlying22 (by kernel_rfl:Tryz.prog.cellsOf 35=7) (by decide) (fun x=>by rw[Cu];rfl) (fun m _=>IY Cu (TS m))) Tryz.underlying22 (hval 0 22 v0 rfl rfl) h0
 simp only[bk]at fe0
 obtain⟨b,re1,fe1⟩:=Sh (e:=Ag) (fun n=>Hc Tryz.underlying22 (by kernel_rfl:Tryz.prog.cellsOf 35=7) (by decide) (fun x=>by rw[Cu];rfl) (fun m _=>IY Cu (TS m))) Tryz.underlying22 (hval 1 22 v1 rfl rfl) h1
 simp only[bk]at fe1
 obtain⟨rfl,rfl⟩:=trodVars_none hV
 have A:=(Zp a b).k 0 QE true (ZT (by omega) (by omega))
 refine(A.2 (fun _=>⟨0,0,0⟩) (· <W.heap.size) W #[v0,v1] (lJ _) (fF (xs:=[.d (.list (a.map Ag)),.d (.list (b.map Ag))]) (vs:=[v0,v1]) ⟨re0 _ _ _,re1 _ _ _,trivial⟩)).mono fun e W' ⟨r,v,H',m',S',he,hp,hO,hr,hx⟩=>?_
 obtain⟨hp,_⟩:=hp
 subst he
 subst hp
 cases hr
 rename_i hd
 cases hd
 exact⟨_,rfl,ct hW rfl (by kernel_rfl) (by rw[Tryz.params3];exact(by decide+kernel)) (by kernel_rfl) Tryz.underlying4 rfl ⟨hx.os,hx.tape,hx.output,hx.size,hx.blk⟩⟩
theorem eb(os:Os):laidMet Tryz.prog Rows.diffCommonsUptoRow.laid ((N5 os).forCall (fun _ _=>0) ⟨#[],#[.slice none 0 0,.slice none 0 0],[]⟩).memory:=
 laidMet_of_run' 8 (by kernel_rfl) (by kernel_rfl)
theorem jA(os:Os){H:Type}(enc:TypeId×Value→H):∃a,DataW.whole enc Tryz.prog ((N5 os).forCall (fun _ _=>0) ⟨#[],#[.slice none 0 0,.slice none 0 0],[]⟩).memory Tryz.f3.params.toList Rows.diffCommonsSpec.vars false (#[.slice none 0 0,.slice none 0 0]:Array Value).toList 8=some ([.nil,.nil],[],a):=
 ⟨[],by kernel_rfl⟩
set_option maxRecDepth 100000 in
theorem bn(os:Os)(started:os.Started)(H:Type)(enc:TypeId×Value→H)(F:Stop.Interp):
  ReturnsInHanded {} Tryz.checked os 3 .any ((Rows.OpenSpec.upto Rows.diffCommonsSpec).preRow enc Tryz.prog Tryz.f3 Rows.diffCommonsUptoRow.domain false Rows.diffCommonsUptoRow.laid) (((Rows.OpenSpec.upto Rows.diffCommonsSpec).at F).post enc Tryz.prog Tryz.f3 false true false false):=by
 obtain⟨places,hx⟩:=jA os enc
 refine returnsInHanded_of_row (C:=Tryz.checked) (s:=Rows.OpenSpec.upto Rows.diffCommonsSpec) own started (by kernel_rfl) Tryz.func3
  (witness_row_at (enc:=enc) (C:=Tryz.checked) false (N5 os) #[.slice none 0 0,.slice none 0 0] rfl (by kernel_rfl) (by kernel_rfl) (by kernel_rfl)
   (OpenSpec.preRow_of_cond 8 hx (by kernel_rfl) (fun k hk=>by cases hk;kernel_rfl) (by kernel_rfl) (eb os))) ?_
 intro W base args ds gs before hval hW _ hcond _ hL _ _
 exact dX H enc W base args ds gs before hval hW (hcond _ rfl)
end DiffCommons
end Go.Proofs.YtifefgdogdecnaaGreatDoor
namespace Go.Proofs.YtifefgdogdecnaaGreatDoor
set_option linter.all false
open Go Go.ChangeShapes Go.WideShapes Go.ChangeAt Go.RowKit
namespace DiffCommons
open Go.Proofs.YtifefgdogdecnaaGreatDoor
theorem A6{a b:Bool}(c:a=true)(d:b=true):(a&&b)=true:=by rw[c,d];rfl
set_option maxRecDepth 100000 in
set_option maxHeartbeats 4000000 in
theorem gQ:joinedFacts Tryz.pinned.checked.prog 3 Tryz.f3 (Rows.OpenSpec.upto Rows.diffCommonsSpec).bare Rows.diffCommonsUptoRow=true:=by
 unfold joinedFacts
 refine A6 (A6 (A6 (A6 (A6 (A6 (A6 (A6 (A6 (A6 (A6 (A6 (A6 (A6 (A6 (A6 (A6 (A6 (A6 (A6 (A6 (A6 (A6 (A6 (A6 (A6 (A6 (A6 (A6 (A6 (A6 ?_ ?_) ?_) ?_) ?_) ?_) ?_) ?_) ?_) ?_) ?_) ?_) ?_) ?_) ?_) ?_) ?_) ?_) ?_) ?_) ?_) ?_) ?_) ?_) ?_) ?_) ?_) ?_) ?_) ?_) ?_) ?_
 all_goals(as_aux_lemma=>kernel_rfl)
end DiffCommons
end Go.Proofs.YtifefgdogdecnaaGreatDoor
