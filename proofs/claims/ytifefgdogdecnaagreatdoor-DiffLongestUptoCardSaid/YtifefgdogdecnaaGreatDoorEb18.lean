import Derived.Test.YtifefgdogdecnaaGreatDoorEb17
import Derived.Test.YtifefgdogdecnaaGreatDoorEb00
namespace Go.Proofs.YtifefgdogdecnaaGreatDoor
set_option linter.all false
open Go Go.Eng
def CT{α:Type}(E:α→α→Prop)(xs ys:List α):Prop:=xs.length=ys.length∧∀(i:Nat) (x y:α),xs[i]?=some x→ys[i]?=some y→E x y
theorem TY{a b:Raw}:a=b↔a.num=b.num∧a.wire=b.wire∧a.bits=b.bits∧a.data=b.data:=by
 cases a
 cases b
 simp only[Raw.mk.injEq]
abbrev Az(P:Prop)(o:Option Int):Prop:=Ok (fun c:Int=>c=0↔P) o
theorem Az.p{P:Prop}{c:Int}(h:c=0↔P):Az P (some c):=⟨c,rfl,h⟩
theorem Fu{α ξ:Type}{B:Nat→Option (Lv Nat ξ Int)}{N:Nat}(xs ys:List α)(E:α→α→Prop)(e:ξ)(A:Prop)
  (hs:∀(i:Nat) (x y:α),xs[i]?=some x→ys[i]?=some y→∃c:Int,(c=0↔E x y)∧B i=some (if c=0 then .nx (i+1)else .rt c))
  (he:∀i,i≤xs.length→i≤ys.length→(i=xs.length∨i=ys.length)→(B i=some (.ex e)∧A)∨∃r:Int,r≠0∧xs.length≠ys.length∧B i=some (.rt r)) (u:xs.length<N):
  Ok (Sum.elim (fun _=>A∧∀(i:Nat) (x y:α),xs[i]?=some x→ys[i]?=some y→E x y) (fun r:Int=>r≠0∧¬CT E xs ys)) (At B N 0):=by
 refine Cy (fun i:Nat=>(i≤xs.length∧i≤ys.length)∧∀(j:Nat) (x y:α),j<i→xs[j]?=some x→ys[j]?=some y→E x y) (fun i:Nat=>xs.length-i) ⟨⟨YT _,YT _⟩,fun j x y n=>absurd n (Er _)⟩ (by omega) fun i hi=>?_
 obtain⟨⟨p,g⟩,l⟩:=hi
 by_cases h:i<xs.length∧i<ys.length
 ·have hx:=Yb h.1
  have hy:=Yb h.2
  obtain⟨c,m,f⟩:=hs i _ _ hx hy
  rw[f]
  by_cases a:c=0
  ·rw[Yj a]
   refine⟨_,rfl,⟨⟨h.1,h.2⟩,fun j x y n b d=>?_⟩,by show xs.length-(i+1)<xs.length-i;omega⟩
   by_cases o:j=i
   ·subst o
    rw[hx]at b;rw[hy]at d
    cases b;cases d
    exact m.1 a
   ·exact l j x y (by omega) b d
  ·rw[Yq a]
   exact⟨_,rfl,a,fun k=>a (m.2 (k.2 i _ _ hx hy))⟩
 ·rcases he i p g (by omega)with⟨f,t⟩|⟨r,q,s,f⟩
  ·rw[f]
   refine⟨_,rfl,t,fun j x y hx hy=>?_⟩
   have:=(Yk.1 hx).1
   have:=(Yk.1 hy).1
   exact l j x y (by omega) hx hy
  ·rw[f]
   exact⟨_,rfl,q,fun k=>s k.1⟩
theorem l8{xs ys:List Val}{f:Val→Val→Option Int}{E:Val→Val→Prop}(hx:xs.length≤4194304)(hy:ys.length≤4194304)(o:∀x∈xs,∀y∈ys,Az (E x y) (f x y)):Az (CT E xs ys) (IC xs ys f):=by
 have p:xs.length<4611686018427387904:=by omega
 have k:ys.length<4611686018427387904:=by omega
 have q:=Fu (B:=Jg xs ys f) (N:=Aq) xs ys E () (xs.length≤ys.length) (fun i x y a b=>by
  obtain⟨c,n,j⟩:=o x (Yi a) y (Yi b)
  refine⟨c,j,?_⟩
  have d:=BV a
  have s:=BV b
  have g:¬(ys.length:Int)≤(i:Int):=by omega
  have m:i+1<9223372036854775808:=by have:=(Yk.1 a).1;omega
  dsimp only[Jg,br,ix,vz,wg,vs,AH,ln,Ap,cf,wa,Ah,br]
  simp only[d,g,a,b,k,n,YB,YI,Yx,Yf,Yr,Yg]
  by_cases e:c=0
  ·simp[e,m]
  ·simp[e]) (fun i a b t=>by
  dsimp only[Jg,br,ix,vz,wg,vs,AH,ln,Ap,cf,wa,Ah,br]
  by_cases e:i<xs.length
  ·refine .inr ⟨1,by decide,by omega,?_⟩
   have d:(i:Int)<(xs.length:Int):=by omega
   have g:(ys.length:Int)≤(i:Int):=by omega
   simp only[d,g,Yb e,k,YB,Yx,Yg]
  ·refine .inl ⟨?_,by omega⟩
   have d:¬(i:Int)<(xs.length:Int):=by omega
   simp only[d,YI,Yf,Yr]) (Cc (by omega))
 obtain⟨z,j,l⟩:=q
 dsimp only[IC,br,vz,lr,lc,Ah,br]
 simp only[p,k,Yx,j,Yg]
 cases z with
 |inl u=>
  obtain⟨a,b⟩:=l
  dsimp only[Sum.elim_inl]
  by_cases e:(xs.length:Int)<(ys.length:Int)
  ·simp only[e,YB,Yx]
   exact Az.p ⟨fun h=>by omega,fun h=>by have:=h.1;omega⟩
  ·simp only[e,YI,Yf,Yr]
   exact Az.p ⟨fun _=>⟨by omega,b⟩,fun _=>rfl⟩
 |inr r=>
  obtain⟨a,b⟩:=l
  exact Az.p ⟨fun h=>absurd h a,fun h=>absurd h b⟩
theorem kQ{xs ys:List Pr}{f:Pr→Pr→Option Int}{E:Pr→Pr→Prop}(hx:xs.length≤4194304)(hy:ys.length≤4194304)(o:∀x∈xs,∀y∈ys,Az (E x y) (f x y)):Az (CT E xs ys) (IE xs ys f):=by
 have p:xs.length<4611686018427387904:=by omega
 have k:ys.length<4611686018427387904:=by omega
 have q:=Fu (B:=Jj xs ys f) (N:=Aq) xs ys E () (xs.length≤ys.length) (fun i x y a b=>by
  obtain⟨c,n,j⟩:=o x (Yi a) y (Yi b)
  refine⟨c,j,?_⟩
  have d:=BV a
  have s:=BV b
  have g:¬(ys.length:Int)≤(i:Int):=by omega
  have m:i+1<9223372036854775808:=by have:=(Yk.1 a).1;omega
  dsimp only[Jj,br,ix,vz,wg,vs,AH,ln,Ap,cf,wa,Ah,br]
  simp only[d,g,a,b,k,n,YB,YI,Yx,Yf,Yr,Yg]
  by_cases e:c=0
  ·simp[e,m]
  ·simp[e]) (fun i a b t=>by
  dsimp only[Jj,br,ix,vz,wg,vs,AH,ln,Ap,cf,wa,Ah,br]
  by_cases e:i<xs.length
  ·refine .inr ⟨1,by decide,by omega,?_⟩
   have d:(i:Int)<(xs.length:Int):=by omega
   have g:(ys.length:Int)≤(i:Int):=by omega
   simp only[d,g,Yb e,k,YB,Yx,Yg]
  ·refine .inl ⟨?_,by omega⟩
   have d:¬(i:Int)<(xs.length:Int):=by omega
   simp only[d,YI,Yf,Yr]) (Cc (by omega))
 obtain⟨z,j,l⟩:=q
 dsimp only[IE,br,vz,lr,lc,Ah,br]
 simp only[p,k,Yx,j,Yg]
 cases z with
 |inl u=>
  obtain⟨a,b⟩:=l
  dsimp only[Sum.elim_inl]
  by_cases e:(xs.length:Int)<(ys.length:Int)
  ·simp only[e,YB,Yx]
   exact Az.p ⟨fun h=>by omega,fun h=>by have:=h.1;omega⟩
  ·simp only[e,YI,Yf,Yr]
   exact Az.p ⟨fun _=>⟨by omega,b⟩,fun _=>rfl⟩
 |inr r=>
  obtain⟨a,b⟩:=l
  exact Az.p ⟨fun h=>absurd h a,fun h=>absurd h b⟩
theorem ma{xs ys:List Slt}{f:Slt→Slt→Option Int}{E:Slt→Slt→Prop}(hx:xs.length≤4194304)(hy:ys.length≤4194304)(o:∀x∈xs,∀y∈ys,Az (E x y) (f x y)):Az (CT E xs ys) (ID xs ys f):=by
 have p:xs.length<4611686018427387904:=by omega
 have k:ys.length<4611686018427387904:=by omega
 have q:=Fu (B:=Ji xs ys f) (N:=Aq) xs ys E () (xs.length≤ys.length) (fun i x y a b=>by
  obtain⟨c,n,j⟩:=o x (Yi a) y (Yi b)
  refine⟨c,j,?_⟩
  have d:=BV a
  have s:=BV b
  have g:¬(ys.length:Int)≤(i:Int):=by omega
  have m:i+1<9223372036854775808:=by have:=(Yk.1 a).1;omega
  dsimp only[Ji,br,ix,vz,wg,vs,AH,ln,Ap,cf,wa,Ah,br]
  simp only[d,g,a,b,k,n,YB,YI,Yx,Yf,Yr,Yg]
  by_cases e:c=0
  ·simp[e,m]
  ·simp[e]) (fun i a b t=>by
  dsimp only[Ji,br,ix,vz,wg,vs,AH,ln,Ap,cf,wa,Ah,br]
  by_cases e:i<xs.length
  ·refine .inr ⟨1,by decide,by omega,?_⟩
   have d:(i:Int)<(xs.length:Int):=by omega
   have g:(ys.length:Int)≤(i:Int):=by omega
   simp only[d,g,Yb e,k,YB,Yx,Yg]
  ·refine .inl ⟨?_,by omega⟩
   have d:¬(i:Int)<(xs.length:Int):=by omega
   simp only[d,YI,Yf,Yr]) (Cc (by omega))
 obtain⟨z,j,l⟩:=q
 dsimp only[ID,br,vz,lr,lc,Ah,br]
 simp only[p,k,Yx,j,Yg]
 cases z with
 |inl u=>
  obtain⟨a,b⟩:=l
  dsimp only[Sum.elim_inl]
  by_cases e:(xs.length:Int)<(ys.length:Int)
  ·simp only[e,YB,Yx]
   exact Az.p ⟨fun h=>by omega,fun h=>by have:=h.1;omega⟩
  ·simp only[e,YI,Yf,Yr]
   exact Az.p ⟨fun _=>⟨by omega,b⟩,fun _=>rfl⟩
 |inr r=>
  obtain⟨a,b⟩:=l
  exact Az.p ⟨fun h=>absurd h a,fun h=>absurd h b⟩
theorem lx{xs ys:List Raw}{f:Raw→Raw→Option Int}{E:Raw→Raw→Prop}(hx:xs.length≤4194304)(hy:ys.length≤4194304)(o:∀x∈xs,∀y∈ys,Az (E x y) (f x y)):Az (CT E xs ys) (IF xs ys f):=by
 have p:xs.length<4611686018427387904:=by omega
 have k:ys.length<4611686018427387904:=by omega
 have q:=Fu (B:=Jl xs ys f) (N:=Aq) xs ys E () (xs.length≤ys.length) (fun i x y a b=>by
  obtain⟨c,n,j⟩:=o x (Yi a) y (Yi b)
  refine⟨c,j,?_⟩
  have d:=BV a
  have s:=BV b
  have g:¬(ys.length:Int)≤(i:Int):=by omega
  have m:i+1<9223372036854775808:=by have:=(Yk.1 a).1;omega
  dsimp only[Jl,br,ix,vz,wg,vs,AH,ln,Ap,cf,wa,Ah,br]
  simp only[d,g,a,b,k,n,YB,YI,Yx,Yf,Yr,Yg]
  by_cases e:c=0
  ·simp[e,m]
  ·simp[e]) (fun i a b t=>by
  dsimp only[Jl,br,ix,vz,wg,vs,AH,ln,Ap,cf,wa,Ah,br]
  by_cases e:i<xs.length
  ·refine .inr ⟨1,by decide,by omega,?_⟩
   have d:(i:Int)<(xs.length:Int):=by omega
   have g:(ys.length:Int)≤(i:Int):=by omega
   simp only[d,g,Yb e,k,YB,Yx,Yg]
  ·refine .inl ⟨?_,by omega⟩
   have d:¬(i:Int)<(xs.length:Int):=by omega
   simp only[d,YI,Yf,Yr]) (Cc (by omega))
 obtain⟨z,j,l⟩:=q
 dsimp only[IF,br,vz,lr,lc,Ah,br]
 simp only[p,k,Yx,j,Yg]
 cases z with
 |inl u=>
  obtain⟨a,b⟩:=l
  dsimp only[Sum.elim_inl]
  by_cases e:(xs.length:Int)<(ys.length:Int)
  ·simp only[e,YB,Yx]
   exact Az.p ⟨fun h=>by omega,fun h=>by have:=h.1;omega⟩
  ·simp only[e,YI,Yf,Yr]
   exact Az.p ⟨fun _=>⟨by omega,b⟩,fun _=>rfl⟩
 |inr r=>
  obtain⟨a,b⟩:=l
  exact Az.p ⟨fun h=>absurd h a,fun h=>absurd h b⟩
theorem Zu{l:List Int}(hl:l.length≤4194304):Az (∀x∈l,x=0) (IM l):=by
 have n:l.length<4611686018427387904:=by omega
 have q:Ok (Sum.elim (fun _=>∀x∈l,x=0) (fun r:Int=>r≠0∧¬∀x∈l,x=0)) (At (Jq l) Aq 0):=by
  refine Cy (fun i:Nat=>i≤l.length∧∀(j:Nat) (x:Int),j<i→l[j]?=some x→x=0) (fun i:Nat=>l.length-i) ⟨YT _,fun j x b=>absurd b (Er _)⟩ (Cc (by omega)) fun i hi=>?_
  obtain⟨o,g⟩:=hi
  by_cases h:i<l.length
  ·have hx:=Yb h
   have c:=BV hx
   have m:i+1<9223372036854775808:=by omega
   dsimp only[Jq,br,ix,vs,AH,ln,Ap,wa,br]
   simp only[c,hx,YB,Yx,Yg]
   by_cases e:l[i]=0
   ·simp only[e,YB,YU,Yf,Yr,m,Yx]
    refine⟨_,rfl,⟨h,fun j x b a=>?_⟩,by show l.length-(i+1)<l.length-i;omega⟩
    by_cases k:j=i
    ·subst k
     rw[hx]at a;cases a;exact e
    ·exact g j x (by omega) a
   ·simp only[e,YI,Y5,Yx]
    exact⟨_,rfl,e,fun f=>e (f _ (G7 h))⟩
  ·have c:¬(i:Int)<(l.length:Int):=by omega
   dsimp only[Jq,br,ix,vs,AH,ln,Ap,wa,br]
   simp only[c,YI,Yf,Yr]
   refine⟨_,rfl,fun x hx=>?_⟩
   obtain⟨j,b,e⟩:=List.getElem_of_mem hx
   exact g j x (by omega) (by rw[Yb b,e])
 obtain⟨z,f,d⟩:=q
 dsimp only[IM,vz,lr,lc,Ah]
 simp only[n,Yx,f,Yg]
 cases z with
 |inl u=>exact Az.p ⟨fun _=>d,fun _=>rfl⟩
 |inr r=>exact Az.p ⟨fun h=>absurd h d.1,fun h=>absurd h d.2⟩
theorem Di(a b:Int):Bw a b=0↔a=b:=by
 have:=GH a b
 constructor
 ·intro h;rw[h]at this;simpa using this
 ·intro h;subst h;simpa using this
theorem jJ(a b:ByteArray):EY a b=0↔a=b:=by
 have:=Lq a b
 constructor
 ·intro h;rw[h]at this;simpa using this
 ·intro h;subst h;simpa using this
theorem Qj{a b:Int}{P Q:Prop}(d:a=0↔P)(e:b=0↔Q):Az (P∧Q) (IM [a,b]):=
 (Zu (l:=[a,b]) (by simp)).mono fun c h=>by rw[h];simp only[List.forall_mem_cons,Nu,Kh,B9,and_true,d,e]
theorem ea{R:Val→Val→Option Int}{E:Val→Val→Prop}{x y:Pr}(i:Az (E x.key y.key) (R x.key y.key))(j:Az (E x.val y.val) (R x.val y.val)):Az (E x.key y.key∧E x.val y.val) (Gm R x y):=by
 obtain⟨c,a,f⟩:=i
 obtain⟨d,b,g⟩:=j
 obtain⟨z,e,h⟩:=Qj f g
 dsimp only[Gm,PA,vw,lr,lc,cl,cs]
 simp only[a,b,e,Yg]
 exact Az.p h
theorem dL{R:Val→Val→Option Int}{E:Val→Val→Prop}{x y:Slt}(f:Az (E x.val y.val) (R x.val y.val)):Az (x.num=y.num∧E x.val y.val) (Gl R x y):=by
 obtain⟨d,a,c⟩:=f
 obtain⟨z,b,e⟩:=Qj (Di x.num y.num) c
 dsimp only[Gl,Pw,vw,lr,lc,cl,cs]
 simp only[FX,a,b,Yg]
 exact Az.p e
theorem dG(x y:Raw):Az (x=y) (Gn x y):=by
 obtain⟨z,a,b⟩:=Zu (l:=[Bw x.num y.num,Bw x.wire y.wire,Bw x.bits y.bits,EY x.data y.data]) (by simp)
 dsimp only[Gn,Pz,vw,lr,lc,cl]
 simp only[FX,P8,XL,a,Yg]
 refine Az.p (b.trans ?_)
 rw[TY]
 simp only[List.forall_mem_cons,Nu,Kh,B9,and_true,Di,jJ]
theorem is(x y:Raw):Az (x=y) (NI x y):=by
 dsimp only[NI,br,wg,lr,cl,br]
 simp only[FY,Yg]
 rw[TY]
 by_cases a:x.num=y.num
 ·by_cases b:x.wire=y.wire
  ·simp only[a,b,YB,YU,Yf,Yr,Iz]
   by_cases c:x.bits<y.bits
   ·simp only[c,YB,Yx];exact Az.p ⟨fun h=>by omega,fun h=>by omega⟩
   ·by_cases e:y.bits<x.bits
    ·simp only[c,e,YB,YI,Yf,Yr,Yx];exact Az.p ⟨fun h=>by omega,fun h=>by omega⟩
    ·have g:x.bits=y.bits:=by omega
     simp only[c,e,g,YB,YI,Yf,Yr,Iz]
     cases f:Ba x.data y.data with
     |true=>
      have d:¬x.data=y.data:=fun h=>by
       have:=Lq x.data y.data
       unfold EY at this
       simp[h]at this
       rw[h,this]at f
       cases f
      simp only[Yx,d,Ng,YI,Yf,Yr];exact Az.p ⟨fun h=>by omega,fun h=>by simp at h⟩
     |false=>by_cases d:x.data=y.data<;>simp[d]<;>exact Az.p (by simp)
  ·simp only[a,b,YB,YI,YU,Y5,Yf,Yr,Yx,Iz,Kc]
   exact Az.p ⟨fun h=>b ((Di _ _).1 h),fun h=>by simp at h⟩
 ·simp only[a,YI,Y5,Yx,Kc]
  exact Az.p ⟨fun h=>a ((Di _ _).1 h),fun h=>by simp at h⟩
end Go.Proofs.YtifefgdogdecnaaGreatDoor
namespace Go.Proofs.YtifefgdogdecnaaGreatDoor
set_option linter.all false
open Go Go.Eng
theorem dU{xs ys:List Val}{R:Val→Val→Option Int}{E:Val→Val→Prop}(hx:xs.length≤4194304)(hy:ys.length≤4194304)(o:∀x∈xs,∀y∈ys,Az (E x y) (R x y)):Az (CT E xs ys) (Km R xs ys):=by
 have f:xs.length<4611686018427387904:=by omega
 have g:ys.length<4611686018427387904:=by omega
 have q:=Fu (B:=Jm xs ys R) (N:=Aq) xs ys E () True (fun i x y b a=>by
  obtain⟨c,n,d⟩:=o x (Yi b) y (Yi a)
  have k:=BV b
  have l:=BV a
  have m:i+1<9223372036854775808:=by have:=(Yk.1 b).1;omega
  refine⟨c,d,?_⟩
  dsimp only[Jm,br,ix,vz,vy,vs,AH,ln,Ap,cs,wa,Ah,br]
  simp only[k,l,b,a,f,g,YB,Ew,Yx,Yf,Yr,Yg,YU,Y5,B9,forall_const,n]
  by_cases e:c=0
  ·simp[e,m]
  ·simp[e]) (fun i b a p=>by
  dsimp only[Jm,br,ix,vz,vy,vs,AH,ln,Ap,cs,wa,Ah,br]
  refine .inl ⟨?_,trivial⟩
  have e:(decide ((i:Int)<(xs.length:Int))&&decide ((i:Int)<(ys.length:Int)))=false:=by
   rw[←Y0,YE];omega
  simp only[f,g,e,Yx,B9,Yf,Yr]) (Cc (by omega))
 obtain⟨z,d,j⟩:=q
 dsimp only[Km,vz,lr,lc,cl,Ah]
 simp only[f,g,Yx,d,Yg]
 cases z with
 |inl u=>
  obtain⟨_,a⟩:=j
  dsimp only[Sum.elim_inl]
  simp only[FY,Yg]
  exact Az.p ((Di _ _).trans ⟨fun h=>⟨by omega,a⟩,fun h=>by have:=h.1;omega⟩)
 |inr r=>
  obtain⟨b,a⟩:=j
  exact Az.p ⟨fun h=>absurd h b,fun h=>absurd h a⟩
theorem dS{xs ys:List Pr}{R:Val→Val→Option Int}{E:Val→Val→Prop}(hx:xs.length≤4194304)(hy:ys.length≤4194304)(t:∀x∈xs,∀y∈ys,Az (E x.key y.key) (R x.key y.key)∧Az (E x.val y.val) (R x.val y.val)):Az (CT (fun x y:Pr=>E x.key y.key∧E x.val y.val) xs ys) (Kn R xs ys):=by
 have g:xs.length<4611686018427387904:=by omega
 have j:ys.length<4611686018427387904:=by omega
 have q:=Fu (B:=HG xs ys R) (N:=Aq) xs ys (fun x y:Pr=>E x.key y.key∧E x.val y.val) () True (fun i x y b a=>by
  obtain⟨⟨c,n,f⟩,⟨d,s,v⟩⟩:=t x (Yi b) y (Yi a)
  have l:=BV b
  have m:=BV a
  have p:i+1<9223372036854775808:=by have:=(Yk.1 b).1;omega
  by_cases e:c=0
  ·refine⟨d,by simp only[←f,←v,e,Iz],?_⟩
   dsimp only[HG,br,ix,vz,vy,vs,AH,ln,Ap,cs,wa,Ah,br]
   simp only[l,m,b,a,g,j,YB,Ew,Yx,Yf,Yr,Yg,YU,Y5,B9,forall_const,n,s,e]
   by_cases k:d=0
   ·simp[k,p]
   ·simp[k]
  ·refine⟨c,by simp only[←f,e,Kc],?_⟩
   dsimp only[HG,br,ix,vz,vy,vs,AH,ln,Ap,cs,wa,Ah,br]
   simp only[l,m,b,a,g,j,YB,Ew,Yx,Yf,Yr,Yg,YU,Y5,B9,forall_const,n]
   simp[e]) (fun i b a w=>by
  dsimp only[HG,br,ix,vz,vy,vs,AH,ln,Ap,cs,wa,Ah,br]
  refine .inl ⟨?_,trivial⟩
  have e:(decide ((i:Int)<(xs.length:Int))&&decide ((i:Int)<(ys.length:Int)))=false:=by
   rw[←Y0,YE];omega
  simp only[g,j,e,Yx,B9,Yf,Yr]) (Cc (by omega))
 obtain⟨z,f,o⟩:=q
 dsimp only[Kn,vz,lr,lc,cl,Ah]
 simp only[g,j,Yx,f,Yg]
 cases z with
 |inl u=>
  obtain⟨_,a⟩:=o
  dsimp only[Sum.elim_inl]
  simp only[FY,Yg]
  exact Az.p ((Di _ _).trans ⟨fun h=>⟨by omega,a⟩,fun h=>by have:=h.1;omega⟩)
 |inr r=>
  obtain⟨b,a⟩:=o
  exact Az.p ⟨fun h=>absurd h b,fun h=>absurd h a⟩
theorem dV{xs ys:List Slt}{R:Val→Val→Option Int}{E:Val→Val→Prop}(hx:xs.length≤4194304)(hy:ys.length≤4194304)(o:∀x∈xs,∀y∈ys,Az (E x.val y.val) (R x.val y.val)):Az (CT (fun x y:Slt=>x.num=y.num∧E x.val y.val) xs ys) (Kl R xs ys):=by
 have c:xs.length<4611686018427387904:=by omega
 have f:ys.length<4611686018427387904:=by omega
 have q:=Fu (B:=HI xs ys R) (N:=Aq) xs ys (fun x y:Slt=>x.num=y.num∧E x.val y.val) () True (fun i x y b a=>by
  obtain⟨d,n,p⟩:=o x (Yi b) y (Yi a)
  have j:=BV b
  have k:=BV a
  have m:i+1<9223372036854775808:=by have:=(Yk.1 b).1;omega
  by_cases e:Bw x.num y.num=0
  ·refine⟨d,by simp only[←p,(Di _ _).1 e,Iz],?_⟩
   dsimp only[HI,br,ix,vz,vy,vs,AH,ln,Ap,cl,cs,wa,Ah,br]
   simp only[j,k,b,a,c,f,YB,Ew,Yx,Yf,Yr,Yg,YU,Y5,B9,forall_const,FY,n,e]
   by_cases g:d=0
   ·simp[g,m]
   ·simp[g]
  ·refine⟨Bw x.num y.num,by simp only[e,false_iff,not_and];exact fun h=>absurd ((Di _ _).2 h) e,?_⟩
   dsimp only[HI,br,ix,vz,vy,vs,AH,ln,Ap,cl,cs,wa,Ah,br]
   simp only[j,k,b,a,c,f,YB,Ew,Yx,Yf,Yr,Yg,YU,Y5,B9,forall_const,FY]
   simp[e]) (fun i b a t=>by
  dsimp only[HI,br,ix,vz,vy,vs,AH,ln,Ap,cl,cs,wa,Ah,br]
  refine .inl ⟨?_,trivial⟩
  have e:(decide ((i:Int)<(xs.length:Int))&&decide ((i:Int)<(ys.length:Int)))=false:=by
   rw[←Y0,YE];omega
  simp only[c,f,e,Yx,B9,Yf,Yr]) (Cc (by omega))
 obtain⟨z,s,l⟩:=q
 dsimp only[Kl,vz,lr,lc,cl,Ah]
 simp only[c,f,Yx,s,Yg]
 cases z with
 |inl u=>
  obtain⟨_,a⟩:=l
  dsimp only[Sum.elim_inl]
  simp only[FY,Yg]
  exact Az.p ((Di _ _).trans ⟨fun h=>⟨by omega,a⟩,fun h=>by have:=h.1;omega⟩)
 |inr r=>
  obtain⟨b,a⟩:=l
  exact Az.p ⟨fun h=>absurd h b,fun h=>absurd h a⟩
theorem dP{xs ys:List Raw}(hx:xs.length≤4194304)(hy:ys.length≤4194304):Az (CT (fun x y:Raw=>x=y) xs ys) (Nx xs ys):=by
 have f:xs.length<4611686018427387904:=by omega
 have g:ys.length<4611686018427387904:=by omega
 have q:=Fu (B:=Jf xs ys) (N:=Aq) xs ys (fun x y:Raw=>x=y) () True (fun i x y b a=>by
  obtain⟨c,n,d⟩:=is x y
  have k:=BV b
  have l:=BV a
  have m:i+1<9223372036854775808:=by have:=(Yk.1 b).1;omega
  refine⟨c,d,?_⟩
  dsimp only[Jf,br,ix,vz,vy,vs,AH,ln,Ap,cl,wa,Ah,br]
  simp only[k,l,b,a,f,g,YB,Ew,Yx,Yf,Yr,Yg,YU,Y5,B9,forall_const,n]
  by_cases e:c=0
  ·simp[e,m]
  ·simp[e]) (fun i b a o=>by
  dsimp only[Jf,br,ix,vz,vy,vs,AH,ln,Ap,cl,wa,Ah,br]
  refine .inl ⟨?_,trivial⟩
  have e:(decide ((i:Int)<(xs.length:Int))&&decide ((i:Int)<(ys.length:Int)))=false:=by
   rw[←Y0,YE];omega
  simp only[f,g,e,Yx,B9,Yf,Yr]) (Cc (by omega))
 obtain⟨z,d,j⟩:=q
 dsimp only[Nx,vz,lr,lc,cl,Ah]
 simp only[f,g,Yx,d,Yg]
 cases z with
 |inl u=>
  obtain⟨_,a⟩:=j
  dsimp only[Sum.elim_inl]
  simp only[FY,Yg]
  exact Az.p ((Di _ _).trans ⟨fun h=>⟨by omega,a⟩,fun h=>by have:=h.1;omega⟩)
 |inr r=>
  obtain⟨b,a⟩:=j
  exact Az.p ⟨fun h=>absurd h b,fun h=>absurd h a⟩
structure Both (R Q:Val→Val→Option Int) (x y:Val):Prop where
 r:Az (Q x y=some 0) (R x y)
 q:Az (Q x y=some 0) (Q x y)
theorem Both.mk'{R Q:Val→Val→Option Int}{x y:Val}{P:Prop}(f:Az P (R x y))(g:Az P (Q x y)):Both R Q x y:=by
 obtain⟨c,e,g1⟩:=f
 obtain⟨d,a,g2⟩:=g
 have b:Q x y=some 0↔P:=by rw[a,←g2];simp
 exact⟨⟨c,e,g1.trans b.symm⟩,⟨d,a,g2.trans b.symm⟩⟩
theorem Jr{k:Int}:N7 k=some (decide (1≤k)&&decide (k≤9)):=rfl
theorem dF(R Q:Val→Val→Option Int)(a b:Val)(D:Bi a)(F:Bi b)(hl:∀x∈a.list,∀y∈b.list,Both R Q x y)(w:∀x∈a.pairs,∀y∈b.pairs,Both R Q x.key y.key∧Both R Q x.val y.val)(hs:∀x∈a.slots,∀y∈b.slots,Both R Q x.val y.val):
  ∃P:Prop,Az P (PG R a b)∧Az P (Mn Q a b):=by
 have sa:=Ql D
 have A:=Ql F
 have K:a.list.length≤4194304:=by have:=sa.l;omega
 have L:a.pairs.length≤4194304:=by have:=sa.p;omega
 have M:a.slots.length≤4194304:=by have:=sa.s;omega
 have N:a.raws.length≤4194304:=by have:=sa.r;omega
 have G:b.list.length≤4194304:=by have:=A.l;omega
 have H:b.pairs.length≤4194304:=by have:=A.p;omega
 have I:b.slots.length≤4194304:=by have:=A.s;omega
 have J:b.raws.length≤4194304:=by have:=A.r;omega
 have f1:IJ R a b=if a.kind=b.kind then(if 1≤a.kind∧a.kind≤9 then Kr a b else none)else some (Bw a.kind b.kind):=by
  dsimp only[IJ,br,wg,lr,lc,cl,br,Rz,wg,lr,cl,bT]
  simp only[Jr,FX,Yg]
  by_cases e:a.kind=b.kind
  ·rw[←e]
   by_cases h:1≤a.kind∧a.kind≤9
   ·simp[h]
   ·have n:(decide (1≤a.kind)&&decide (a.kind≤9))=false:=by rw[←Y0,YE];exact h
    simp[h,n]
  ·simp[e]
 have f2:IN R a b=if a.kind=b.kind then(if a.kind=11 then IC a.list b.list (fun z0 l=>R z0 l)else none)else some (Bw a.kind b.kind):=by
  dsimp only[IN,br,wg,lr,lc,cl,cs,br,RA,wg,lr,cl,bT,bF]
  simp only[Jr,FX,Yg]
  by_cases e:a.kind=b.kind
  ·rw[←e]
   by_cases h:1≤a.kind∧a.kind≤9
   ·have o:(decide (1≤a.kind)&&decide (a.kind≤9))=true:=by rw[←Y0,Y4];exact h
    have g:¬a.kind=10:=by omega
    have i:¬a.kind=11:=by omega
    have j:¬a.kind=12:=by omega
    simp[o,g,i,j]
   ·have n:(decide (1≤a.kind)&&decide (a.kind≤9))=false:=by rw[←Y0,YE];exact h
    simp only[n,YB,YU,Yf,Yr,Yx,Yg]
    by_cases g:a.kind=10<;>by_cases i:a.kind=11<;>by_cases j:a.kind=12<;>first|(exfalso;omega)|simp[g,i,j,h]
  ·simp[e]
 have f3:IK R a b=if a.kind=b.kind then(if a.kind=12 then IE a.pairs b.pairs (fun z0 l=>Gm R z0 l)else none)else some (Bw a.kind b.kind):=by
  dsimp only[IK,br,wg,lr,lc,cl,cs,br,RF,wg,lr,cl,bT,bF]
  simp only[Jr,FX,Yg]
  by_cases e:a.kind=b.kind
  ·rw[←e]
   by_cases h:1≤a.kind∧a.kind≤9
   ·have o:(decide (1≤a.kind)&&decide (a.kind≤9))=true:=by rw[←Y0,Y4];exact h
    have g:¬a.kind=10:=by omega
    have i:¬a.kind=11:=by omega
    have j:¬a.kind=12:=by omega
    simp[o,g,i,j]
   ·have n:(decide (1≤a.kind)&&decide (a.kind≤9))=false:=by rw[←Y0,YE];exact h
    simp only[n,YB,YU,Yf,Yr,Yx,Yg]
    by_cases g:a.kind=10<;>by_cases i:a.kind=11<;>by_cases j:a.kind=12<;>first|(exfalso;omega)|simp[g,i,j,h]
  ·simp[e]
 have f4:II R a b=if a.kind=b.kind then(if a.kind=10 then((ID a.slots b.slots (fun z0 l=>Gl R z0 l)).bind fun V=>(IF a.raws b.raws (fun z0 l=>Gn z0 l)).bind fun W=>IM [V,W])else none)else some (Bw a.kind b.kind):=by
  dsimp only[II,Pk,br,vw,wg,lr,lc,cl,cs,br,RH,wg,lr,cl,bT,bF]
  simp only[Jr,FX,Yg]
  by_cases e:a.kind=b.kind
  ·rw[←e]
   by_cases h:1≤a.kind∧a.kind≤9
   ·have o:(decide (1≤a.kind)&&decide (a.kind≤9))=true:=by rw[←Y0,Y4];exact h
    have g:¬a.kind=10:=by omega
    have i:¬a.kind=11:=by omega
    have j:¬a.kind=12:=by omega
    simp[o,g,i,j]
   ·have n:(decide (1≤a.kind)&&decide (a.kind≤9))=false:=by rw[←Y0,YE];exact h
    simp only[n,YB,YU,Yf,Yr,Yx,Yg]
    by_cases g:a.kind=10<;>by_cases i:a.kind=11<;>by_cases j:a.kind=12<;>first|(exfalso;omega)|simp[g,i,j,h]
  ·simp[e]
 have f5:IH R a b=if a.kind=b.kind then(if¬(1≤a.kind∧a.kind≤9)∧¬a.kind=10∧¬a.kind=11∧¬a.kind=12 then some 0 else none)else some (Bw a.kind b.kind):=by
  dsimp only[IH,br,wg,lr,lc,cl,br,RB,wg,lr,cl,bF]
  simp only[Jr,FX,Yg]
  by_cases e:a.kind=b.kind
  ·rw[←e]
   by_cases h:1≤a.kind∧a.kind≤9
   ·have o:(decide (1≤a.kind)&&decide (a.kind≤9))=true:=by rw[←Y0,Y4];exact h
    simp[o,h]
   ·have n:(decide (1≤a.kind)&&decide (a.kind≤9))=false:=by rw[←Y0,YE];exact h
    simp only[n,YB,YU,Yf,Yr,Yx,Yg]
    by_cases g:a.kind=10<;>by_cases i:a.kind=11<;>by_cases j:a.kind=12<;>first|(exfalso;omega)|simp[g,i,j,h]
  ·simp[e]
 have p:PG R a b=((((IJ R a b <|> IN R a b) <|> IK R a b) <|> II R a b) <|> IH R a b):=rfl
 rw[p,f1,f2,f3,f4,f5]
 dsimp only[Mn,br,wg,lr,cl,cs,br]
 clear p f1 f2 f3 f4 f5
 by_cases e:a.kind=b.kind
 ·simp only[e,Yx,YB,YU,Yf,Yr]
  rw[←e]
  by_cases h:1≤a.kind∧a.kind≤9
  ·obtain⟨⟨c,m,k⟩,⟨d,r,s⟩⟩:=lJ h D F e
   have g:¬a.kind=10:=by omega
   have i:¬a.kind=11:=by omega
   have j:¬a.kind=12:=by omega
   refine⟨d=0,⟨c,?_,?_⟩,⟨d,?_,Iff.rfl⟩⟩
   ·simp only[h,m,and_self,Yx];rfl
   ·rw[←s]at k
    exact decide_eq_decide.1 k
   ·simp only[g,i,j,YI,Yf,Yr,r,Yg]
  ·simp only[h,Yr]
   by_cases i:a.kind=11
   ·refine⟨CT (fun x y=>Q x y=some 0) a.list b.list,?_,?_⟩
    ·obtain⟨c,m,k⟩:=l8 (f:=fun z0 l=>R z0 l) (E:=fun x y=>Q x y=some 0) K G fun x hx y hy=>(hl x hx y hy).r
     refine⟨c,?_,k⟩
     simp only[i,Yx,m];rfl
    ·obtain⟨c,m,k⟩:=dU (R:=Q) (E:=fun x y=>Q x y=some 0) K G fun x hx y hy=>(hl x hx y hy).q
     refine⟨c,?_,k⟩
     simp only[i,YB,Yx,m,Yg]
   ·by_cases j:a.kind=12
    ·refine⟨CT (fun x y:Pr=>Q x.key y.key=some 0∧Q x.val y.val=some 0) a.pairs b.pairs,?_,?_⟩
     ·obtain⟨c,m,k⟩:=kQ (f:=fun z0 l=>Gm R z0 l) (E:=fun x y:Pr=>Q x.key y.key=some 0∧Q x.val y.val=some 0) L H fun x hx y hy=>ea (E:=fun x y=>Q x y=some 0) (w x hx y hy).1.r (w x hx y hy).2.r
      refine⟨c,?_,k⟩
      simp only[i,j,Yx,Yr,m];rfl
     ·obtain⟨c,m,k⟩:=dS (R:=Q) (E:=fun x y=>Q x y=some 0) L H fun x hx y hy=>⟨(w x hx y hy).1.q,(w x hx y hy).2.q⟩
      refine⟨c,?_,k⟩
      have O:¬(12:Int)=11:=by decide
      simp only[j,O,YB,YI,Yf,Yr,Yx,m,Yg]
    ·by_cases g:a.kind=10
     ·refine⟨CT (fun x y:Slt=>x.num=y.num∧Q x.val y.val=some 0) a.slots b.slots∧CT (fun x y:Raw=>x=y) a.raws b.raws,?_,?_⟩
      ·obtain⟨c,m,k⟩:=ma (f:=fun z0 l=>Gl R z0 l) (E:=fun x y:Slt=>x.num=y.num∧Q x.val y.val=some 0) M I fun x hx y hy=>dL (E:=fun x y=>Q x y=some 0) (hs x hx y hy).r
       obtain⟨d,r,s⟩:=lx (f:=fun z0 l=>Gn z0 l) (E:=fun x y:Raw=>x=y) N J fun x _ y _=>dG x y
       obtain⟨z,T,U⟩:=Qj k s
       refine⟨z,?_,U⟩
       have t:¬(10:Int)=11:=by decide
       have u:¬(10:Int)=12:=by decide
       simp only[g,t,u,Yx,Yr,m,r,T,Yg];rfl
      ·obtain⟨c,m,k⟩:=dV (R:=Q) (E:=fun x y=>Q x y=some 0) M I fun x hx y hy=>(hs x hx y hy).q
       obtain⟨d,r,s⟩:=dP N J
       have t:¬(10:Int)=11:=by decide
       have u:¬(10:Int)=12:=by decide
       by_cases v:c=0
       ·refine⟨d,?_,s.trans ⟨fun h=>⟨k.1 v,h⟩,fun h=>h.2⟩⟩
        simp only[g,t,u,YB,YI,Yf,Yr,Yx,m,r,v,YU,Yg]
       ·refine⟨c,?_,⟨fun h=>absurd h v,fun h=>k.2 h.1⟩⟩
        simp only[g,t,u,YB,YI,Yf,Yr,Yx,m,v,Y5,Yg]
     ·refine⟨True,⟨0,?_,by simp⟩,⟨0,?_,by simp⟩⟩
      ·simp only[g,i,j,Yr,not_false_eq_true,and_self,Yx];rfl
      ·have S:NM a.kind=some (decide (1≤a.kind)&&decide (a.kind≤9)):=rfl
       have n:(decide (1≤a.kind)&&decide (a.kind≤9))=false:=by rw[←Y0,YE];exact h
       have q:IB a b=some 0:=by
        have C:¬a.kind<b.kind:=by omega
        have B:¬b.kind<a.kind:=by omega
        dsimp only[IB,br,wg,lr,cl,br]
        simp only[C,B,S,n,YI,Y5,Yf,Yr,Yx,Yg]
       simp only[g,i,j,YI,Yf,Yr,q,Yg]
 ·refine⟨False,⟨Bw a.kind b.kind,?_,(Di _ _).trans (by simp[e])⟩,⟨Bw a.kind b.kind,?_,(Di _ _).trans (by simp[e])⟩⟩
  ·simp only[e,Yr];rfl
  ·simp only[e,YI,Y5,Yx,FY,Yg]
theorem IU:∀(c:Nat) (a b:Val),AF (Ac a)<c→Bi a→Bi b→Both (Ex c) (IG c) a b
 |0,a,b,h,_,_=>by omega
 |c+1,a,b,h,d,e=>by
  obtain⟨P,f,g⟩:=dF (Ex c) (IG c) a b d e
   (fun x hx y hy=>IU c x y (by have:=jL hx;omega) (Ps d hx) (Ps e hy))
   (fun x hx y hy=>⟨IU c x.key y.key (by have:=(VN hx).1;omega) (HH d hx).1 (HH e hy).1,IU c x.val y.val (by have:=(VN hx).2;omega) (HH d hx).2 (HH e hy).2⟩)
   (fun x hx y hy=>IU c x.val y.val (by have:=jq hx;omega) (Py d hx) (Py e hy))
  exact Both.mk' f g
theorem cI{a b:Val}(e:Bi a)(k:Bi b):∃z:Bool,CQ a b=some z∧Db a b=some z:=by
 obtain⟨⟨c,f,i⟩,⟨d,g,j⟩⟩:=IU Aq a b (by have h:AF (Ac a)≤1048576:=e;exact Cc (by omega)) e k
 refine⟨decide (c=0),?_,?_⟩
 ·dsimp only[CQ,wg,lr,cl]
  simp only[f,Yg]
 ·dsimp only[Db,wg,lr,cl]
  simp only[g,Yg]
  exact congrArg some (decide_eq_decide.2 (j.trans i.symm))
structure FT (na nb:Nat) (r:List Int) (f:Nat→Nat→Int):Prop where
 len:r.length=(na+1)*(nb+1)
 at_:∀j t,j≤na→t≤nb→r[j*(nb+1)+t]?=some (f j t)
theorem FT.congr{a b:Nat}{r:List Int}{f g:Nat→Nat→Int}(h:FT a b r f)(e:∀j t,j≤a→t≤b→f j t=g j t):FT a b r g:=⟨h.len,fun j t c d=>by rw[h.at_ j t c d,e j t c d]⟩
theorem hN{a j t p k:Nat}(d:t≤a)(c:k≤a)(h:j*(a+1)+t=p*(a+1)+k):j=p∧t=k:=by
 rcases It j p with b|b|b
 ·have:=YP (a+1) (show j+1≤p from b)
  rw[Ip]at this;omega
 ·subst b;exact⟨rfl,by omega⟩
 ·have:=YP (a+1) (show p+1≤j from b)
  rw[Ip]at this;omega
theorem Lz{b a j t:Nat}(c:j≤b)(d:t≤a):j*(a+1)+t<(b+1)*(a+1):=by
 have:=YP (a+1) c
 rw[Ip];omega
theorem FT.put{b a:Nat}{r:List Int}{f:Nat→Nat→Int}(h:FT b a r f){p k:Nat}(i:p≤b)(c:k≤a)(n:Int):FT b a (r.set (p*(a+1)+k) n) (fun j t=>if j=p∧t=k then n else f j t):=by
 refine⟨by rw[J3];exact h.len,fun j t g d=>?_⟩
 rw[Np]
 by_cases e:p*(a+1)+k=j*(a+1)+t
 ·obtain⟨rfl,rfl⟩:=hN c d e
  rw[Yj rfl,Yj (by rw[h.len];exact Lz i c),Yj ⟨rfl,rfl⟩]
 ·rw[Yq e,Yq (fun h=>e (by rw[h.1,h.2])),h.at_ j t g d]
theorem FT.zero(a b:Nat):FT a b (List.replicate ((a+1)*(b+1)) (0:Int)) (fun _ _=>0):=⟨by simp,fun j t c d=>by rw[Rl,Yj (Lz c d)]⟩
theorem EM{α β:Type}{Q:β→Prop}{xs:List α}{i j:Nat}{x:α}{k:α→Option β}(e:i=j)(h:xs[j]?=some x)(a:Ok Q (k x)):Ok Q (xs[i]?.bind k):=by rw[e,h];exact a
theorem BA{α β:Type}{Q:β→Prop}{m:Option α}{x:α}{k:α→Option β}(h:m=some x)(a:Ok Q (k x)):Ok Q (m.bind k):=by rw[h];exact a
section
variable {a b:List Val} {q:Val→Val→Bool}
set_option maxRecDepth 100000 in
theorem aJ(hna:a.length≤4096)(hnb:b.length≤4096)(hE:∀x∈a,∀y∈b,Db x y=some (q x y)){p i:Nat}(hp:p+i+1=a.length){r:List Int}(L:Nat→Nat→Nat)
  (hL:∀j k x y,a[j]?=some x→b[k]?=some y→L j k=if q x y then L (j+1) (k+1)+1 else max (L (j+1) k) (L j (k+1))) (hL2:∀j k,b.length≤k→L j k=0) (hLb:∀j k,L j k≤4096) (h:FT a.length b.length r (fT L a.length b.length i 0)):
  Ok (Sum.elim (fun r'=>FT a.length b.length r' (fT L a.length b.length (i+1) 0)) (fun _=>False)) (At (Jk a b (p:Int)) Aq ((b.length:Int)-1,r)):=by
 refine Cy (fun s=>∃c,c≤b.length∧s.1=(b.length:Int)-1-c∧FT a.length b.length s.2 (fT L a.length b.length i c)) (fun s=>(s.1+1).toNat) ⟨0,YT _,by simp,h⟩ (Cc (by omega)) ?_
 rintro⟨v,r⟩ ⟨c,hc,hv,hF⟩
 dsimp only at hv hF⊢
 subst hv
 by_cases hcb:c<b.length
 ·obtain⟨k,hk⟩:∃k,b.length=k+c+1:=⟨b.length-c-1,by omega⟩
  have ek:(b.length:Int)-1-(c:Int)=(k:Int):=by omega
  dsimp only[Jk,br,DP,vz,vw,vs,ln,Ap,cl,wi,CZ,ca,st,rn,fl,br,CZ]
  rw[ek]
  have hX:(p:Int)*((b.length+1:Nat):Int)=((p*(b.length+1):Nat):Int):=by rw[Int.natCast_mul]
  have hY:((p:Int)+1)*((b.length+1:Nat):Int)=(((p+1)*(b.length+1):Nat):Int):=by rw[Int.natCast_mul];rfl
  rw[hX,hY]
  have hYX:(p+1)*(b.length+1)=p*(b.length+1)+(b.length+1):=Ip _ _
  have hT:(p+1)*(b.length+1)+b.length<r.length:=by rw[hF.len];exact Lz (by omega) (Ye _)
  have hTb:r.length≤4097*4097:=by rw[hF.len];exact Nc (by omega) (by omega)
  have gY:r[(p+1)*(b.length+1)+k]?=some ((L (p+1) k:Nat):Int):=by
   rw[hF.at_ (p+1) k (by omega) (by omega)];unfold fT;rw[Yj (by omega)]
  have gY1:r[(p+1)*(b.length+1)+k+1]?=some ((L (p+1) (k+1):Nat):Int):=by
   rw[Yu,hF.at_ (p+1) (k+1) (by omega) (by omega)];unfold fT;rw[Yj (by omega)]
  have gX1:r[p*(b.length+1)+k+1]?=some ((L p (k+1):Nat):Int):=by
   rw[Yu,hF.at_ p (k+1) (by omega) (by omega)];unfold fT;rw[Yj (by omega)]
  have hput:=fun n=>hF.put (p:=p) (k:=k) (by omega) (by omega) n
  obtain⟨xa,ha⟩:∃x,a[p]?=some x:=⟨_,Yb (by omega)⟩
  obtain⟨xb,hb⟩:∃x,b[k]?=some x:=⟨_,Yb (by omega)⟩
  have he:=hE xa (Yi ha) xb (Yi hb)
  have hl:=hL p k _ _ ha hb
  have hend:∀n:Int,n=((L p k:Nat):Int)→FT a.length b.length (r.set (p*(b.length+1)+k) n) (fT L a.length b.length i (c+1)):=fun n hn=>(hput n).congr fun j t hj ht=>by
   unfold fT
   by_cases e:j=p∧t=k
   ·rw[Yj e,Yj (by omega),hn,e.1,e.2]
   ·rw[Yq e]
    by_cases h1:a.length≤j+i∨j+i+1=a.length∧b.length≤t+c
    ·rw[Yj h1,Yj (by omega)]
    ·rw[Yq h1,Yq (by omega)]
  have b1:=hLb (p+1) (k+1)
  clear hput hX hY hL hLb hE h hF hL2
  generalize (p+1)*(b.length+1)=Y at*
  generalize p*(b.length+1)=X at*
  have tY:((Y:Int)+(k:Int)).toNat=Y+k:=by omega
  have tY1:((Y:Int)+(k:Int)+1).toNat=Y+k+1:=by omega
  have tX:((X:Int)+(k:Int)).toNat=X+k:=by omega
  have tX1:((X:Int)+(k:Int)+1).toNat=X+k+1:=by omega
  have tp:((p:Nat):Int).toNat=p:=G6 p
  have tk:((k:Nat):Int).toNat=k:=G6 k
  have fin:∀n:Int,n=((L p k:Nat):Int)→(∃c_1,c_1≤b.length∧(k:Int)-1=(b.length:Int)-1-(c_1:Int)∧FT a.length b.length (r.set ((X:Int)+(k:Int)).toNat n) (fT L a.length b.length i c_1))∧((k:Int)-1+1).toNat<((k:Int)+1).toNat:=fun n hn=>⟨⟨c+1,by omega,by omega,by rw[tX];exact hend n hn⟩,by omega⟩
  have ls:∀n:Int,(r.set ((X:Int)+(k:Int)).toNat n).length=r.length:=fun n=>J3
  clear hend
  with_reducible refine A6 (fun _=>?_) fun h=>absurd h (by simp)
  repeat(with_reducible refine AA ?h ?_;case h=>omega)
  with_reducible refine EM tY gY ?_
  repeat(with_reducible refine AA ?h ?_;case h=>omega)
  with_reducible refine EM tX1 gX1 ?_
  with_reducible refine A6 (fun h1=>?_) fun h1=>?_
  ·repeat(with_reducible refine AA ?h ?_;case h=>omega)
   with_reducible refine EM tX1 gX1 ?_
   repeat(with_reducible refine AA ?h ?_;case h=>omega)
   with_reducible refine EM tp ha ?_
   repeat(with_reducible refine AA ?h ?_;case h=>omega)
   with_reducible refine EM tk hb ?_
   with_reducible refine BA he ?_
   with_reducible refine A6 (fun h2=>?_) fun h2=>?_
   ·repeat(with_reducible refine AA ?h ?_;case h=>omega)
    with_reducible refine EM tY1 gY1 ?_
    repeat(with_reducible refine AA ?h ?_;case h=>omega)
    with_reducible refine AA (ls _).symm ?_
    repeat(with_reducible refine AA ?h ?_;case h=>omega)
    refine⟨_,rfl,fin _ ?_⟩
    rw[h2]at hl
    simp only[Y4,YE,Yf,Yx,Yr]at h1 hl
    omega
   ·repeat(with_reducible refine AA ?h ?_;case h=>omega)
    with_reducible refine AA (ls _).symm ?_
    repeat(with_reducible refine AA ?h ?_;case h=>omega)
    refine⟨_,rfl,fin _ ?_⟩
    rw[h2]at hl
    simp only[Y4,YE,Yf,Yx,Yr]at h1 hl
    omega
  ·repeat(with_reducible refine AA ?h ?_;case h=>omega)
   with_reducible refine EM tp ha ?_
   repeat(with_reducible refine AA ?h ?_;case h=>omega)
   with_reducible refine EM tk hb ?_
   with_reducible refine BA he ?_
   with_reducible refine A6 (fun h2=>?_) fun h2=>?_
   ·repeat(with_reducible refine AA ?h ?_;case h=>omega)
    with_reducible refine EM tY1 gY1 ?_
    repeat(with_reducible refine AA ?h ?_;case h=>omega)
    with_reducible refine AA (ls _).symm ?_
    repeat(with_reducible refine AA ?h ?_;case h=>omega)
    refine⟨_,rfl,fin _ ?_⟩
    rw[h2]at hl
    simp only[Y4,YE,Yf,Yx,Yr]at h1 hl
    omega
   ·repeat(with_reducible refine AA ?h ?_;case h=>omega)
    with_reducible refine AA (ls _).symm ?_
    repeat(with_reducible refine AA ?h ?_;case h=>omega)
    refine⟨_,rfl,fin _ ?_⟩
    rw[h2]at hl
    simp only[Y4,YE,Yf,Yx,Yr]at h1 hl
    omega
 ·obtain rfl:c=b.length:=by omega
  dsimp only[Jk,br,DP,vz,vw,vs,ln,Ap,cl,wi,CZ,ca,st,rn,fl,br,CZ]
  refine A6 (fun h=>absurd (Fj h) (by omega)) fun _=>⟨_,rfl,hF.congr fun j t hj ht=>?_⟩
  unfold fT
  by_cases h1:a.length≤j+(i+1)
  ·rw[Yj (by omega),Yj (.inl h1)]
  ·rw[Yq (by omega)]
   split
   ·rw[hL2 _ _ (by omega)];rfl
   ·rfl
theorem ip(m:a.length≤4096)(n:b.length≤4096)(B:∀x∈a,∀y∈b,Db x y=some (q x y))(L:Nat→Nat→Nat)
  (C:∀j k x y,a[j]?=some x→b[k]?=some y→L j k=if q x y then L (j+1) (k+1)+1 else max (L (j+1) k) (L j (k+1))) (g:∀j k,a.length≤j→L j k=0) (e:∀j k,b.length≤k→L j k=0) (l:∀j k,L j k≤4096):
  Ok (fun r=>FT a.length b.length r (fun j k=>(L j k:Int))) (NA a b):=by
 have H:(a.length+1)*(b.length+1)≤4097*4097:=Nc (by omega) (by omega)
 have lr:(List.replicate ((a.length+1)*(b.length+1)) (0:Int)).length=(a.length+1)*(b.length+1):=J4
 have A:FT a.length b.length (List.replicate ((a.length+1)*(b.length+1)) (0:Int)) (fT L a.length b.length 0 0):=(FT.zero a.length b.length).congr fun j t E G=>by
  unfold fT
  split
  ·rename_i h
   rcases h with h|h
   ·rw[g _ _ (by omega)];rfl
   ·rw[e _ _ (by omega)];rfl
  ·rfl
 have key:Ok (Sum.elim (fun o=>FT a.length b.length o (fT L a.length b.length a.length 0)) (fun _=>False)) (At (Jh a b) Aq ((a.length:Int)-1,List.replicate ((a.length+1)*(b.length+1)) (0:Int))):=by
  refine Cy (fun s=>∃i,i≤a.length∧s.1=(a.length:Int)-1-i∧FT a.length b.length s.2 (fT L a.length b.length i 0)) (fun s=>(s.1+1).toNat) ⟨0,YT _,by simp,A⟩ (Cc (by omega)) ?_
  rintro⟨v,r⟩ ⟨i,hi,w,f⟩
  dsimp only at w f⊢
  subst w
  have u:=f.len
  by_cases D:i<a.length
  ·obtain⟨p,F⟩:∃p,p+i+1=a.length:=⟨a.length-i-1,by omega⟩
   have z:(a.length:Int)-1-(i:Int)=(p:Int):=by omega
   dsimp only[Jh,br,vz,vs,ln,Ap,lc,wi,fl,Ah,br]
   rw[z]
   with_reducible refine A6 (fun _=>?_) fun h=>absurd h (by simp)
   repeat(with_reducible refine AA ?h ?_;case h=>omega)
   refine EO (aJ m n B F L C e l f) (fun o c=>?_) (fun _ h=>h.elim)
   have d:=c.len
   repeat(with_reducible refine AA ?h ?_;case h=>omega)
   exact⟨_,rfl,⟨i+1,by omega,by dsimp only;omega,c⟩,by dsimp only;omega⟩
  ·obtain rfl:i=a.length:=by omega
   dsimp only[Jh,br,vz,vs,ln,Ap,lc,wi,fl,Ah,br]
   with_reducible refine A6 (fun h=>absurd (Fj h) (by omega)) fun _=>?_
   repeat(with_reducible refine AA ?h ?_;case h=>omega)
   exact⟨_,rfl,f⟩
 dsimp only[NA,vz,vs,lr,lc,wa,wi,ms,fl,fr,Ah]
 repeat(with_reducible refine AA ?h ?_;case h=>omega)
 refine EO key (fun o c=>?_) (fun _ h=>h.elim)
 have d:=c.len
 repeat(with_reducible refine AA ?h ?_;case h=>omega)
 refine⟨_,rfl,c.congr fun j t E G=>?_⟩
 unfold fT
 rw[Yj (by omega)]
def Bf(l:List (Nat×Nat)):List P2:=l.map fun z=>⟨(z.1:Int),(z.2:Int)⟩
theorem iv(G:a.length≤4096)(H:b.length≤4096)(D:∀x∈a,∀y∈b,Db x y=some (q x y)){t:List Int}(g:FT a.length b.length t (fun j k=>(AK q (a.drop j) (b.drop k):Int))):
  Ok (Sum.elim (fun r=>r=Bf (Be q 0 0 a b)) (fun _=>False)) (At (P1 a b t) Aq (([]:List P2),0,0)):=by
 refine Cy (fun s=>(s.2.1≤a.length∧s.2.2≤b.length)∧s.1.length≤s.2.1∧Bf (Be q 0 0 a b)=s.1++Bf (Be q s.2.1 s.2.2 (a.drop s.2.1) (b.drop s.2.2))) (fun s=>(a.length-s.2.1)+(b.length-s.2.2)) ⟨⟨YT _,YT _⟩,YT _,rfl⟩ (Cc (by dsimp only;omega)) ?_
 rintro⟨r,i,k⟩ ⟨⟨hi,w⟩,z,c⟩
 dsimp only at hi w z c⊢
 dsimp only[P1,br,ix,vz,vy,vw,vs,ln,Ap,ap,cl,wa,fl,Ah,br]
 by_cases f:i<a.length∧k<b.length
 ·obtain⟨d,e⟩:=f
  obtain⟨A,l⟩:∃x,a[i]?=some x:=⟨_,Yb d⟩
  obtain⟨B,m⟩:∃x,b[k]?=some x:=⟨_,Yb e⟩
  have he:=D A (Yi l) B (Yi m)
  have u:a.drop i=A::a.drop (i+1):=by rw[YN d];congr 1;rw[Yb d]at l;exact Eu l
  have v:b.drop k=B::b.drop (k+1):=by rw[YN e];congr 1;rw[Yb e]at m;exact Eu m
  rw[u,v,Lr,←u,←v]at c
  have C:t[(i+1)*(b.length+1)+k]?=some ((AK q (a.drop (i+1)) (b.drop k):Nat):Int):=g.at_ (i+1) k (by omega) (by omega)
  have n:t[i*(b.length+1)+k+1]?=some ((AK q (a.drop i) (b.drop (k+1)):Nat):Int):=by rw[Yu];exact g.at_ i (k+1) (by omega) (by omega)
  have F:(i+1)*(b.length+1)=i*(b.length+1)+(b.length+1):=Ip _ _
  have I:(i+1)*(b.length+1)+b.length<t.length:=by rw[g.len];exact Lz (by omega) (Ye _)
  have E:t.length≤4097*4097:=by rw[g.len];exact Nc (by omega) (by omega)
  with_reducible refine A6 (fun _=>?_) fun h=>absurd h (by simp;omega)
  with_reducible refine BA l ?_
  with_reducible refine BA m ?_
  with_reducible refine BA he ?_
  with_reducible refine A6 (fun p=>?_) fun p=>?_
  ·repeat(with_reducible refine AA ?h ?_;case h=>omega)
   rw[Yj p]at c
   refine⟨_,rfl,⟨⟨d,e⟩,by simp;omega,?_⟩,by dsimp only;omega⟩
   rw[c]
   simp[Bf]
  ·rw[p]at c
   simp only[Yf,Yr]at c
   repeat(with_reducible refine AA ?h ?_;case h=>omega)
   with_reducible refine BA C ?_
   repeat(with_reducible refine AA ?h ?_;case h=>omega)
   with_reducible refine BA n ?_
   with_reducible refine A6 (fun o=>?_) fun o=>?_
   ·repeat(with_reducible refine AA ?h ?_;case h=>omega)
    simp only[Y4]at o
    rw[Yj (by omega)]at c
    exact⟨_,rfl,⟨⟨d,w⟩,by dsimp only;omega,c⟩,by dsimp only;omega⟩
   ·repeat(with_reducible refine AA ?h ?_;case h=>omega)
    simp only[YE]at o
    rw[Yq (by omega)]at c
    exact⟨_,rfl,⟨⟨hi,e⟩,z,c⟩,by dsimp only;omega⟩
 ·with_reducible refine A6 (fun h=>?_) fun _=>?_
  ·exfalso
   apply f
   simpa using h
  ·refine⟨_,rfl,?_⟩
   have:Be q i k (a.drop i) (b.drop k)=[]:=by
    by_cases h:i<a.length
    ·rw[Fh (show b.length≤k by omega),LK]
    ·rw[Fh (show a.length≤i by omega),LD]
   rw[c,this]
   simp[Bf]
theorem jj(I:a.length≤4096)(J:b.length≤4096)(H:∀x∈a,∀y∈b,CQ x y=some (q x y)){t:List (List Int)}(B:∀j,j≤a.length→∃r,t[j]?=some r∧∀k,k≤b.length→r[k]?=some ((AK q (a.drop j) (b.drop k):Nat):Int)):
  Ok (Sum.elim (fun r=>r=Bf (Be q 0 0 a b)) (fun _=>False)) (At (Mm a b t) Aq (([]:List P2),0,0)):=by
 refine Cy (fun s=>(s.2.1≤a.length∧s.2.2≤b.length)∧s.1.length≤s.2.1∧Bf (Be q 0 0 a b)=s.1++Bf (Be q s.2.1 s.2.2 (a.drop s.2.1) (b.drop s.2.2))) (fun s=>(a.length-s.2.1)+(b.length-s.2.2)) ⟨⟨YT _,YT _⟩,YT _,rfl⟩ (Cc (by dsimp only;omega)) ?_
 rintro⟨r,i,k⟩ ⟨⟨hi,C⟩,D,c⟩
 dsimp only at hi C D c⊢
 dsimp only[Mm,br,ix,vz,vy,vw,vs,ln,Ap,ap,cl,wa,fl,Ah,br]
 by_cases f:i<a.length∧k<b.length
 ·obtain⟨d,e⟩:=f
  obtain⟨E,m⟩:∃x,a[i]?=some x:=⟨_,Yb d⟩
  obtain⟨F,n⟩:∃x,b[k]?=some x:=⟨_,Yb e⟩
  have he:=H E (Yi m) F (Yi n)
  have z:a.drop i=E::a.drop (i+1):=by rw[YN d];congr 1;rw[Yb d]at m;exact Eu m
  have A:b.drop k=F::b.drop (k+1):=by rw[YN e];congr 1;rw[Yb e]at n;exact Eu n
  rw[z,A,Lr,←z,←A]at c
  obtain⟨L,w,l⟩:=B (i+1) (by omega)
  obtain⟨K,v,g⟩:=B i (by omega)
  have G:=l k (by omega)
  have o:=g (k+1) (by omega)
  with_reducible refine A6 (fun _=>?_) fun h=>absurd h (by simp;omega)
  with_reducible refine BA m ?_
  with_reducible refine BA n ?_
  with_reducible refine BA he ?_
  with_reducible refine A6 (fun u=>?_) fun u=>?_
  ·repeat(with_reducible refine AA ?h ?_;case h=>omega)
   rw[Yj u]at c
   refine⟨_,rfl,⟨⟨d,e⟩,by simp;omega,?_⟩,by dsimp only;omega⟩
   rw[c]
   simp[Bf]
  ·rw[u]at c
   simp only[Yf,Yr]at c
   repeat(with_reducible refine AA ?h ?_;case h=>omega)
   with_reducible refine BA w ?_
   with_reducible refine BA G ?_
   with_reducible refine BA v ?_
   repeat(with_reducible refine AA ?h ?_;case h=>omega)
   with_reducible refine BA o ?_
   with_reducible refine A6 (fun p=>?_) fun p=>?_
   ·repeat(with_reducible refine AA ?h ?_;case h=>omega)
    simp only[Y4]at p
    rw[Yj (by omega)]at c
    exact⟨_,rfl,⟨⟨d,C⟩,by dsimp only;omega,c⟩,by dsimp only;omega⟩
   ·repeat(with_reducible refine AA ?h ?_;case h=>omega)
    simp only[YE]at p
    rw[Yq (by omega)]at c
    exact⟨_,rfl,⟨⟨hi,e⟩,D,c⟩,by dsimp only;omega⟩
 ·with_reducible refine A6 (fun h=>?_) fun _=>?_
  ·exfalso
   apply f
   simpa using h
  ·refine⟨_,rfl,?_⟩
   have:Be q i k (a.drop i) (b.drop k)=[]:=by
    by_cases h:i<a.length
    ·rw[Fh (show b.length≤k by omega),LK]
    ·rw[Fh (show a.length≤i by omega),LD]
   rw[c,this]
   simp[Bf]
end
theorem eM{a b:List Val}{q:Val→Val→Bool}(c:a.length≤4096)(d:b.length≤4096)(f:∀x∈a,∀y∈b,CQ x y=some (q x y)∧Db x y=some (q x y)):
  NO a b=some (Bf (Be q 0 0 a b))∧Rx a b=some (Bf (Be q 0 0 a b)):=by
 constructor
 ·have l:RY a b=some (ER CQ a b):=by
   show L5 CQ a b=_
   unfold L5
   exact Yj ⟨c,d,fun x hx y hy=>by rw[(f x hx y hy).1];rfl⟩
  have u:∀j k,AK (fun x y=>CQ x y==some true) (a.drop j) (b.drop k)=AK q (a.drop j) (b.drop k):=fun j k=>Ks _ fun x hx y hy=>by
   rw[(f x (J5 hx) y (J5 hy)).1]
   cases q x y<;>rfl
  have key:=jj (q:=q) c d (fun x hx y hy=>(f x hx y hy).1) (t:=ER CQ a b) (fun j g=>⟨_,by
   unfold ER
   rw[Yt,J6 (by omega)];rfl,fun k i=>by
   rw[Yt,J6 (by omega)]
   exact congrArg (fun n:Nat=>some (n:Int)) (u j k)⟩)
  obtain⟨z,m,e⟩:=key
  dsimp only[NO,vz,vw,lr,lc,cl,fl,fr]
  rw[l]
  cases z with
  |inl r=>
   have e:r=_:=e
   rw[Yg,m]
   show some r=_
   rw[e]
  |inr r=>exact e.elim
 ·obtain⟨t,l,s⟩:=ip c d (fun x hx y hy=>(f x hx y hy).2) (fun j k=>AK q (a.drop j) (b.drop k)) (fun j k x y hx hy=>by
   have g:=(Yk.1 hx).1
   have i:=(Yk.1 hy).1
   have o:a.drop j=x::a.drop (j+1):=by rw[YN g];congr 1;rw[Yb g]at hx;exact Eu hx
   have p:b.drop k=y::b.drop (k+1):=by rw[YN i];congr 1;rw[Yb i]at hy;exact Eu hy
   rw[o,p,D7]) (fun j k h=>by rw[Fh h,GJ]) (fun j k h=>by rw[Fh h,EI]) (fun j k=>Y2 (Lj q _ _) (by rw[Es];omega))
  obtain⟨z,m,e⟩:=iv c d (fun x hx y hy=>(f x hx y hy).2) s
  dsimp only[Rx,vz,vw,vs,lr,lc,cl,wa,fl,fr,Ah]
  rw[l]
  cases z with
  |inl r=>
   have e:r=_:=e
   rw[Yg,Yj (by omega),m]
   show some r=_
   rw[e]
  |inr r=>exact e.elim
theorem jC(v:Val)(h:Bi v):Ok Tr (NH v 50):=by
 dsimp only[NH,wg,lr,cl]
 (repeat' (first|with_reducible (first|refine A6 (fun _=>?_) fun _=>?_|refine Bj ?_)|(with_reducible apply Hv;(exact ZJ Aq _ _ _ h (by omega) (by unfold Aq;omega) (by omega) (by omega) (by omega));intro _ _)|with_reducible refine AA ?_ ?_))<;>exact Gb
theorem TO{l:List Val}(hl:l.length≤1048576)(h:∀v∈l,Bi v):Ok (fun z:Bool=>z=true→l.length≤40) (NJ l):=by
 have a:Ok (Sum.elim Tr (fun y:Bool=>y=false)) (At (Mz l) Aq 0):=by
  refine Cy (fun i:Nat=>i≤l.length) (fun i:Nat=>l.length-i) (by omega) (HE (by omega)) fun i hi=>?_
  dsimp only[Mz,br,ix,vz,vs,AH,ln,Ap,cl,wa,Ah,br]
  (repeat' (first|with_reducible (first|refine A6 (fun _=>?_) fun _=>?_|refine Bj ?_|refine Jc ?_ fun _ _ _=>?_)|(with_reducible apply Hv;(exact jC _ (h _ (by assumption)));intro _ _)|with_reducible refine AA ?_ ?_))<;>exact Gb
 dsimp only[NJ,br,vz,lr,lc,Ah,br]
 (repeat' (first|with_reducible (first|refine A6 (fun _=>?_) fun _=>?_|refine Bj ?_)|(with_reducible apply EO;(exact a);all_goals(intro _ _;try dsimp only))|with_reducible refine AA ?_ ?_))<;>exact Gb
theorem Zn{l:List Val}(h:Dp (l.map Af)+1≤1048576):l.length≤1048576∧∀v∈l,Bi v:=by
 refine⟨by have:=HA (e:=Af) l;omega,fun v a=>?_⟩
 have:=Fx (e:=Af) a
 rw[Cz]at this
 unfold Bi
 omega
def Cg(x y:Val):Bool:=(CQ x y).getD false
theorem eX{x y:Val}(hx:Bi x)(hy:Bi y):CQ x y=some (Cg x y)∧Db x y=some (Cg x y):=by
 obtain⟨z,a,b⟩:=cI hx hy
 unfold Cg
 rw[a]
 exact⟨rfl,b⟩
theorem TA{q:Val→Val→Bool}{a b:List Val}(c:a.length≤40):(Bf (Be q 0 0 a b)).length≤40:=by
 unfold Bf
 rw[YF,IY]
 exact Y2 (Lj q a b) c
section
variable {a b:List Val} {q:Val→Val→Bool}
def pL(q:Val→Val→Bool)(a b:List Val)(i k:Nat):Nat:=AK q (a.take i).reverse (b.take k).reverse
theorem PY(i:Nat):pL q a b i 0=0:=by unfold pL;simp[EI]
theorem lS(k:Nat):pL q a b 0 k=0:=by unfold pL;simp[GJ]
theorem Td{l:List Val}{i:Nat}{x:Val}(h:l[i]?=some x):(l.take (i+1)).reverse=x::(l.take i).reverse:=by
 rw[List.take_add_one,h]
 simp
theorem kN{i k:Nat}{x y:Val}(hx:a[i]?=some x)(hy:b[k]?=some y):pL q a b (i+1) (k+1)=if q x y then pL q a b i k+1 else max (pL q a b i (k+1)) (pL q a b (i+1) k):=by
 unfold pL
 rw[Td hx,Td hy,D7]
theorem lR(i k:Nat)(h:a.length≤4096):pL q a b i k≤4096:=Y2 (Lj q _ _) (by rw[List.length_reverse,Y8];omega)
theorem i4:pL q a b a.length b.length=AK q a b:=by
 unfold pL
 rw[Ns,Ns,gt]
structure RW (nb:Nat) (r:List Int) (f:Nat→Nat):Prop where
 len:r.length=nb+1
 at_:∀k,k≤nb→r[k]?=some ((f k:Nat):Int)
theorem RW.congr{a:Nat}{r:List Int}{f g:Nat→Nat}(h:RW a r f)(e:∀k,k≤a→f k=g k):RW a r g:=⟨h.len,fun k b=>by rw[h.at_ k b,e k b]⟩
theorem RW.put{a:Nat}{r:List Int}{f:Nat→Nat}(h:RW a r f){k:Nat}(c:k≤a)(n:Nat):RW a (r.set k (n:Int)) (fun j=>if j=k then n else f j):=by
 refine⟨by rw[J3];exact h.len,fun j b=>?_⟩
 rw[Np]
 by_cases e:k=j
 ·subst e
  rw[Yj rfl,Yj (by rw[h.len];omega),Yj rfl]
 ·rw[Yq e,Yq (fun h=>e h.symm),h.at_ j b]
theorem cw(p:a.length≤4096)(G:b.length≤4096)(E:∀x∈a,∀y∈b,Db x y=some (q x y)){i:Nat}(hi:i<a.length){r:List Int}(h:RW b.length r (pL q a b i)):
  Ok (Sum.elim (fun H=>RW b.length H (pL q a b (i+1))) (fun _=>False)) (At (LF a b i) Aq (0,0,r)):=by
 have u:RW b.length r (fun j=>if j≤0 then pL q a b (i+1) j else pL q a b i j):=h.congr fun k B=>by
  split
  ·rw[show k=0 by omega,PY,PY]
  ·rfl
 refine Cy (fun s=>s.2.1≤b.length∧s.1=((pL q a b i s.2.1:Nat):Int)∧RW b.length s.2.2 (fun j=>if j≤s.2.1 then pL q a b (i+1) j else pL q a b i j)) (fun s=>b.length-s.2.1) ⟨YT _,by dsimp only;rw[PY];rfl,u⟩ (Cc (by dsimp only;omega)) ?_
 rintro⟨v,k,r⟩ ⟨B,D,c⟩
 dsimp only at B D c⊢
 subst D
 have C:=c.len
 dsimp only[LF,br,ix,vz,vw,vs,ln,Ap,cl,wa,wi,ir,ca,st,rn,fl,Ah,br]
 by_cases o:k<b.length
 ·obtain⟨I,g⟩:∃x,a[i]?=some x:=⟨_,Yb hi⟩
  obtain⟨J,l⟩:∃x,b[k]?=some x:=⟨_,Yb o⟩
  have he:=E I (Yi g) J (Yi l)
  have f:=kN (q:=q) g l
  have z:r[k+1]?=some ((pL q a b i (k+1):Nat):Int):=by rw[c.at_ (k+1) (by omega),Yq (by omega)]
  have w:r[k]?=some ((pL q a b (i+1) k:Nat):Int):=by rw[c.at_ k (by omega),Yj (by omega)]
  have K:=lR (q:=q) (b:=b) i k p
  have ls:∀n:Int,(r.set (k+1) n).length=r.length:=fun n=>J3
  have fin:∀n:Nat,n=pL q a b (i+1) (k+1)→RW b.length (r.set (k+1) (n:Int)) (fun j=>if j≤k+1 then pL q a b (i+1) j else pL q a b i j):=fun n F=>(c.put (k:=k+1) (by omega) n).congr fun j A=>by
   by_cases e:j=k+1
   ·subst e;rw[Yj rfl,Yj (by omega),F]
   ·rw[Yq e]
    by_cases d:j≤k
    ·rw[Yj d,Yj (by omega)]
    ·rw[Yq d,Yq (by omega)]
  repeat(with_reducible refine AA ?h ?_;case h=>omega)
  with_reducible refine A6 (fun _=>?_) fun h=>absurd h (by simp;omega)
  repeat(with_reducible refine AA ?h ?_;case h=>omega)
  with_reducible refine BA z ?_
  with_reducible refine BA g ?_
  with_reducible refine BA l ?_
  with_reducible refine BA he ?_
  with_reducible refine A6 (fun t=>?_) fun t=>?_
  ·rw[Yj t]at f
   repeat(with_reducible refine AA ?h ?_;case h=>omega)
   with_reducible refine AA (ls _).symm ?_
   repeat(with_reducible refine AA ?h ?_;case h=>omega)
   refine⟨_,rfl,⟨by dsimp only;omega,rfl,?_⟩,by dsimp only;omega⟩
   exact fin _ f.symm
  ·rw[t]at f
   simp only[Yf,Yr]at f
   repeat(with_reducible refine AA ?h ?_;case h=>omega)
   with_reducible refine BA w ?_
   repeat(with_reducible refine AA ?h ?_;case h=>omega)
   with_reducible refine BA z ?_
   with_reducible refine A6 (fun m=>?_) fun m=>?_
   ·simp only[Y4]at m
    repeat(with_reducible refine AA ?h ?_;case h=>omega)
    with_reducible refine BA w ?_
    repeat(with_reducible refine AA ?h ?_;case h=>omega)
    with_reducible refine AA (ls _).symm ?_
    repeat(with_reducible refine AA ?h ?_;case h=>omega)
    exact⟨_,rfl,⟨by dsimp only;omega,rfl,fin _ (by omega)⟩,by dsimp only;omega⟩
   ·simp only[YE]at m
    repeat(with_reducible refine AA ?h ?_;case h=>omega)
    refine⟨_,rfl,⟨by dsimp only;omega,rfl,c.congr fun j A=>?_⟩,by dsimp only;omega⟩
    dsimp only
    by_cases e:j=k+1
    ·subst e;rw[Yq (by omega),Yj (by omega)];omega
    ·by_cases d:j≤k
     ·rw[Yj d,Yj (by omega)]
     ·rw[Yq d,Yq (by omega)]
 ·repeat(with_reducible refine AA ?h ?_;case h=>omega)
  with_reducible refine A6 (fun h=>absurd (Fj h) (by omega)) fun _=>?_
  repeat(with_reducible refine AA ?h ?_;case h=>omega)
  exact⟨_,rfl,c.congr fun j A=>by rw[Yj (by omega)]⟩
theorem jf(l:a.length≤4096)(m:b.length≤4096)(o:∀x∈a,∀y∈b,Db x y=some (q x y)):Ko a b=some ((AK q a b:Nat):Int):=by
 have n:RW b.length (List.replicate (b.length+1) (0:Int)) (pL q a b 0):=⟨J4,fun k t=>by rw[Rl,Yj (by omega),lS];rfl⟩
 have key:Ok (Sum.elim (fun r=>RW b.length r (pL q a b a.length)) (fun _=>False)) (At (LC a b) Aq (0,List.replicate (b.length+1) (0:Int))):=by
  refine Cy (fun s=>s.1≤a.length∧RW b.length s.2 (pL q a b s.1)) (fun s=>a.length-s.1) ⟨YT _,n⟩ (Cc (by dsimp only;omega)) ?_
  rintro⟨i,r⟩ ⟨hi,c⟩
  dsimp only at hi c⊢
  have g:=c.len
  dsimp only[LC,br,vz,vs,ln,Ap,lc,wa,fl,Ah,br]
  repeat(with_reducible refine AA ?h ?_;case h=>omega)
  with_reducible refine A6 (fun h=>?_) fun h=>?_
  ·have f:i<a.length:=by have:=Fj h;omega
   repeat(with_reducible refine AA ?h ?_;case h=>omega)
   refine EO (cw l m o f c) (fun u d=>?_) (fun _ h=>h.elim)
   have j:=d.len
   repeat(with_reducible refine AA ?h ?_;case h=>omega)
   exact⟨_,rfl,⟨f,d⟩,by dsimp only;omega⟩
  ·have e:i=a.length:=by have:=of_decide_eq_false h;omega
   subst e
   repeat(with_reducible refine AA ?h ?_;case h=>omega)
   exact⟨_,rfl,c⟩
 have fin:Ok (fun z=>z=((AK q a b:Nat):Int)) (Ko a b):=by
  dsimp only[Ko,vz,vs,lr,lc,wa,ir,ca,ms,fl,Ah]
  repeat(with_reducible refine AA ?h ?_;case h=>omega)
  refine EO key (fun r c=>?_) (fun _ h=>h.elim)
  have g:=c.len
  repeat(with_reducible refine AA ?h ?_;case h=>omega)
  with_reducible refine BA (c.at_ b.length (Ye _)) ?_
  exact⟨_,rfl,by rw[i4]⟩
 obtain⟨z,p,e⟩:=fin
 rw[p,e]
end
theorem i9{α β:Type}{q:α→β→Bool}{a:List α}{b:List β}{i k u w:Nat}:∀{l:List (Nat×Nat)},GE q a b i k l→l[0]?=some (u,w)→i≤u∧k≤w
 |[],_,h=>by cases h
 |(c,w')::l,h,e=>by cases e;exact⟨h.1,h.2.1⟩
theorem U8{α β:Type}{q:α→β→Bool}{a:List α}{b:List β}:∀{l:List (Nat×Nat)} {i k v u w:Nat},GE q a b i k l→l[v]?=some (u,w)→(∃x y,a[u]?=some x∧b[w]?=some y∧q x y=true)∧∀c d w',v=c+1→l[c]?=some (d,w')→d<u∧w'<w
 |[],_,_,_,_,_,_,h=>by simp at h
 |(n,w0)::l,i,k,0,u,w,h,e=>by
  cases e
  exact⟨h.2.2.1,fun c _ _ m=>by omega⟩
 |(n,w0)::l,i,k,v+1,u,w,h,e=>by
  obtain⟨g,j⟩:=U8 (l:=l) (v:=v) h.2.2.2 (by simpa using e)
  refine⟨g,fun c d w' m f=>?_⟩
  obtain rfl:c=v:=by omega
  cases c with
  |zero=>
   cases f
   exact i9 h.2.2.2 (by simpa using e)
  |succ c=>exact j c d w' rfl (by simpa using f)
theorem T7{l:List (Nat×Nat)}{v:Nat}{e:P2}(h:(Bf l)[v]?=some e):∃u w,l[v]?=some (u,w)∧e=⟨(u:Int),(w:Int)⟩:=by
 unfold Bf at h
 rw[Yt]at h
 obtain⟨⟨u,w⟩,a,rfl⟩:=YS.1 h
 exact⟨u,w,a,rfl⟩
set_option maxRecDepth 100000 in
theorem jX{a b:List Val}(la:a.length≤40)(lb:b.length≤40)(hE:∀x∈a,∀y∈b,Db x y=some (Cg x y)):Ok (Sum.elim Tr No) (At (LZ a b (Bf (Be Cg 0 0 a b))) Aq 0):=by
 have hC:=Le Cg a b 0 0 a b rfl rfl
 have ly:=TA (q:=Cg) (a:=a) (b:=b) la
 generalize Be Cg 0 0 a b=L at*
 refine Cy (fun i:Nat=>i≤(Bf L).length) (fun i:Nat=>(Bf L).length-i) (by omega) (HE (by omega)) fun i hi=>?_
 dsimp only[LZ,br,ix,DP,Dr,vz,vy,vs,vg,AH,ln,Ap,cl,wa,wi,Ah,br]
 by_cases h:i<(Bf L).length
 ·obtain⟨e,he⟩:∃e,(Bf L)[i]?=some e:=⟨_,Yb h⟩
  obtain⟨u,w,hl,rfl⟩:=T7 he
  obtain⟨⟨x,y,hx,hy,hq⟩,hprev⟩:=U8 hC hl
  have hE':=hE x (Yi hx) y (Yi hy)
  rw[hq]at hE'
  have hu:=(Yk.1 hx).1
  have hw:=(Yk.1 hy).1
  have g1:=BV he
  have g2:i+1<9223372036854775808:=by omega
  have g3:¬(u:Int)<0:=by omega
  have g4:¬(a.length:Int)≤(u:Int):=by omega
  have g5:¬(w:Int)<0:=by omega
  have g6:¬(b.length:Int)≤(w:Int):=by omega
  have g7:a.length<4611686018427387904:=by omega
  have g8:b.length<4611686018427387904:=by omega
  have g9:(0:Int)≤(u:Int):=by omega
  have g10:(0:Int)≤(w:Int):=by omega
  cases i with
  |zero=>
   simp only[he,g1,g2,g3,g4,g5,g6,g7,g8,g9,g10,hx,hy,hE',G6,YB,YI,Yx,Yg,YU,Y5,Ni,Nd,Iw,Nf,Hb,Ke,Ha,Yf,Yr,B9,forall_const,Kh,Ng,Int.natCast_zero]
   rw[Yj (G9 (by exact g1))]
   exact⟨_,rfl,by omega,by omega⟩
  |succ j=>
   obtain⟨z,hz⟩:∃z,(Bf L)[j]?=some z:=⟨_,Yb (by omega)⟩
   obtain⟨u',w',hl',rfl⟩:=T7 hz
   obtain⟨p1,p2⟩:=hprev j u' w' rfl hl'
   have gd:(Bf L).getD (((j+1:Nat):Int)-1).toNat Rw.z=⟨(u':Int),(w':Int)⟩:=by
    rw[show(((j+1:Nat):Int)-1).toNat=j by omega,Iy,hz];rfl
   have g11: -9223372036854775808≤((j+1:Nat):Int)-1∧((j+1:Nat):Int)-1<9223372036854775808:=by omega
   have g12:(0:Int)≤((j+1:Nat):Int)-1∧((j+1:Nat):Int)-1<((Bf L).length:Int):=by omega
   have g13:¬(u:Int)≤(u':Int):=by omega
   have g14:¬(w:Int)≤(w':Int):=by omega
   simp only[he,gd,g1,g2,g3,g4,g5,g6,g7,g8,g9,g10,g11,g12,g13,g14,hx,hy,hE',G6,YB,YI,Yx,Yg,YU,Y5,Ni,Nd,Iw,Nf,Hb,Ke,Ha,Yf,Yr,B9,forall_const,Kh,and_self]
   exact⟨_,rfl,by omega,by omega⟩
 ·have g1:¬(i:Int)<((Bf L).length:Int):=by omega
  simp only[g1,YI,Yf,Yr]
  exact⟨_,rfl,trivial⟩
theorem aI{a b:List Val}(l:Dp (a.map Af)+1≤1048576)(m:Dp (b.map Af)+1≤1048576):Nz a b=some true:=by
 obtain⟨t,f⟩:=Zn l
 obtain⟨v,g⟩:=Zn m
 obtain⟨f1,h,j⟩:=TO t f
 obtain⟨f2,i,k⟩:=TO v g
 dsimp only[Nz,br,vz,lr,lc,cl,Ct,Ah,br]
 rw[h,i,lD]
 cases f1 with
 |false=>simp
 |true=>
 cases f2 with
 |false=>simp
 |true=>
 have e:=j rfl
 have p:=k rfl
 have c:∀x∈a,∀y∈b,CQ x y=some (Cg x y)∧Db x y=some (Cg x y):=fun x hx y hy=>eX (f x hx) (g y hy)
 obtain⟨w,_⟩:=eM (q:=Cg) (a:=a) (b:=b) (by omega) (by omega) c
 have ml:=jf (q:=Cg) (a:=a) (b:=b) (by omega) (by omega) fun x hx y hy=>(c x hx y hy).2
 obtain⟨z,o,n⟩:=jX e p fun x hx y hy=>(c x hx y hy).2
 have A:=TA (q:=Cg) (a:=a) (b:=b) e
 have d:(Bf (Be Cg 0 0 a b)).length<4611686018427387904:=by omega
 have s:((Bf (Be Cg 0 0 a b)).length:Int)=((AK Cg a b:Nat):Int):=by
  unfold Bf
  rw[YF,IY]
 rw[w,ml]
 simp only[Yg,Option.isSome_some,B9,Yx,YU,Ni,Yf,Yr,o]
 cases z with
 |inl u=>
  simp only[Sum.elim_inl,s,d,Yx,YB,Yg,Fk,Ew,Option.isSome_some,B9]
  rfl
 |inr r=>exact n.elim
end Go.Proofs.YtifefgdogdecnaaGreatDoor
