import Derived.Test.YtbcmdieedjamgaaGreatZd23
import Derived.Test.YtbcmdieedjamgaaGreatZd00
namespace Go.Proofs.YtbcmdieedjamgaaGreat
set_option linter.all false
open Go Go.Eng
theorem gA{v:Val}(h:SzV v):dV v=some (B4 v):=by
 obtain⟨t1,t2,t3,t4,t5⟩:=h
 have e:v.list.length<4611686018427387904:=by omega
 have f:v.pairs.length<4611686018427387904:=by omega
 have g:v.slots.length<4611686018427387904:=by omega
 have i:v.raws.length<4611686018427387904:=by omega
 have key:∀a b c:Bool,(if a=true then some true else if b=true then some true else some c)=some (a||b||c):=fun a b c=>by cases a<;>cases b<;>rfl
 dsimp only[dV,nn,br,vz,vy,wg,lr,Ai,br]
 rw[key]
 congr 1
 unfold B4
 rw[X2]
 by_cases d:v.text=⟨#[]⟩<;>simp only[d,Yp,YU,YH,Yd,YL,YE,YJ,YY,Y6,Ds,Dt,ne_eq,On,LZ,OB,HV,XU,Yn,or_false,false_or,Kw]<;>omega
theorem Zz7{v:Val}(h:SzV v):Pf v=some (Mt v):=by
 obtain⟨t1,t2,t3,t4,t5⟩:=h
 have a:v.list.length<4611686018427387904:=by omega
 have b:v.pairs.length<4611686018427387904:=by omega
 have c:v.slots.length<4611686018427387904:=by omega
 have d:v.raws.length<4611686018427387904:=by omega
 dsimp only[Pf,is,vz,vy,wg,lr,Ai]
 congr 1
 unfold Mt
 rw[X2]
 simp only[Yd,YE]
 omega
theorem ZRH(n:Int):MH n=some (O0 n):=by
 dsimp only[MH,VA,lr]
 unfold O0
 rw[Bool.decide_or]
theorem ZK8(n b:Int)(h:1≤n∧n≤9)(d:O0 n=false):(if decide (n=1)=true then some (decide (b≤1))else if decide (n=2)=true then some (decide (-2147483648≤IntKind.i64.wrap b)&&decide (IntKind.i64.wrap b≤2147483647))else if decide (n=4)=true then some (decide (b<4294967296))else if decide (n=9)=true then some (decide (b<2147483648))else some true)=some (S8 n b):=by
 unfold S8
 have a:decide (b<4294967296)=decide (b≤4294967295):=decide_eq_decide.2 (by omega)
 have c:decide (b<2147483648)=decide (b≤2147483647):=decide_eq_decide.2 (by omega)
 rw[a,c]
 simp only[YE,X4]
 repeat' (first|rfl|split)
theorem ZNL(n:Int){v:Val}(h:SzV v):JD n v=some (Jl n v):=by
 have f:=h.t
 have j:v.text.size<4611686018427387904:=by omega
 have g:ML n=some (decide (1≤n)&&decide (n≤9)):=rfl
 have k:∀x y z:Bool,(if((x&&y)&&!z)=true then True else True)=True:=fun x y z=>by split<;>rfl
 dsimp only[JD,Vy,br,vz,vy,wg,lr,cl,AE,Br,br]
 rw[g,Zz7 h,ZRH,ZtF _ f,Ya]
 unfold Jl
 by_cases c:1≤n∧n≤9∧v.kind=n
 ·obtain⟨a,b,d⟩:=c
  simp only[a,b,d,Ck,Yp,Oh,YY,Sh,Kt,Y6,Sg,FI,YQ,Yq,Ya,D8,j,Dt]
  cases hl:Mt v with
  |false=>rfl
  |true=>
   cases i:O0 n with
   |true=>
    simp only[YY,Yn,YK,Yq,Dt]
    rw[X4]
    congr 3
    exact decide_eq_decide.2 (by omega)
   |false=>
    simp only[YY,Yn,YK,Dt]
    by_cases hx:v.text=⟨#[]⟩
    ·simp only[hx,Yp,YY,Yn,YK,Dt]
     exact ZK8 n v.bits ⟨a,b⟩ i
    ·simp only[hx,YU,Y6,Yq,Ds]
 ·have e:((!(decide (1≤n)&&decide (n≤9)))||!decide (v.kind=n))=true:=by
   simp only[YH,YL,Kv,YJ]
   omega
  simp only[e,c,YU,Ds,YY,Yn,L6,Yq,Ol]
theorem tM(n:Int){v:Val}(h:SzV v):eu n v=some (DW n v):=by
 have f:=h.t
 have d:v.text.size<4611686018427387904:=by omega
 dsimp only[eu,nj,br,vz,wg,lr,cl,AE,Br,br]
 rw[gA h,ZNL n h,Ya]
 unfold DW
 by_cases c:v.kind=n
 ·cases g:B4 v with
  |true=>simp[c]
  |false=>
   by_cases b:4096<v.text.size
   ·have a:(4096:Int)<v.text.size:=by omega
    simp[c,d,b,a]
   ·have a:¬(4096:Int)<v.text.size:=by omega
    cases Jl n v with
    |true=>simp[c,d,b,a]
    |false=>
     by_cases e:n=7
     ·simp[c,d,b,a,e]
     ·simp[c,d,b,a,e]
 ·simp[c]
theorem ZzF(s:Scm)(n:ByteArray)(h:s.enums.length≤1048576):dY s n=some (Db s n):=by
 have d:=Di (B:=P9 s n) (N:=Ag) s.enums (fun e=>decide (e.name=n)) (fun i=>(s.enums.getD i default,true)) () (fun i x hx=>by
  have a:=Ba hx
  have f:=(Yb.1 hx).1
  have b:i+1<9223372036854775808:=by omega
  have c:s.enums.length<4611686018427387904:=by omega
  dsimp only[P9,io,br,ix,vz,wg,vs,Ar,ln,Af,wa,Ai,br]
  simp only[a,b,c,hx,Yp,Yq,Ya,Yg,YQ]
  cases decide (x.name=n)<;>simp) (by simp[P9,io,br,ix,vz,wg,vs,Ar,ln,Af,wa,Ai,br]) (AK (by omega))
 dsimp only[dY,ZzQ,Zz0,oe,wg,lr,lc]
 unfold Db
 rw[d,PU]
 cases s.enums.findIdx? fun m=>decide (m.name=n)<;>rfl
theorem Zu4{s:Scm}(h:SzS s)(n:ByteArray):(Db s n).1.items.length≤1048576:=by
 unfold Db C2
 cases e:s.enums.find? fun m=>decide (m.name=n)with
 |none=>decide
 |some m=>exact(h.e m (Ha e)).il
theorem ZrL{s:Scm}(hs:An (Am s)≤1048576)(n:ByteArray):∀x∈(Db s n).1.items,-9223372036854775808≤x.num:=by
 unfold Db C2
 cases e:s.enums.find? fun m=>decide (m.name=n)with
 |none=>intro x hx;cases hx
 |some m=>
  intro x hx
  have a:=CF (e:=Ct) (Ha e)
  have b:=CF (e:=F8) (show x∈m.items from hx)
  simp only[Am,An,bk]at hs
  simp only[Ct,An,bk]at a
  simp only[F8,An,bk]at b
  have:=sZ (k:=.i64) (n:=x.num) (by omega)
  exact this.1
theorem oR(e:Enm)(b:Int)(h:e.items.length≤1048576)(k:∀x∈e.items,-9223372036854775808≤x.num)(p:b<9223372036854775808):Pg e b=some (LG e b):=by
 have j:e.items.length<4611686018427387904:=by omega
 have m:=Di (B:=Qn e b) (N:=Ag) e.items (fun x=>decide (IntKind.u64.wrap x.num=b)) (fun _=>true) () (fun i x hx=>by
  have a:=Ba hx
  have n:=(Yb.1 hx).1
  have d:i+1<9223372036854775808:=by omega
  have o:=k x (Yi hx)
  have f:e.items.getD (i:Int).toNat Rw.z=x:=by rw[YS,Yg,hx];rfl
  have g:(0:Int)≤i∧(i:Int)<e.items.length:=⟨by omega,a⟩
  have key:(decide ((0:Int)≤x.num)&&decide (IntKind.u64.wrap x.num=b))=decide (IntKind.u64.wrap x.num=b):=by
   by_cases c:(0:Int)≤x.num
   ·rw[Yo c,Dt]
   ·have l:IntKind.u64.wrap x.num=x.num%18446744073709551616:=rfl
    rw[Yt c,Ds]
    symm
    rw[YJ,l]
    omega
  dsimp only[Qn,hI,br,ix,AN,vz,vy,wg,vs,Ar,ln,Af,wa,Ai,br]
  simp only[j,a,d,f,g,hx,Yp,Yq,Ya,Ck,D8,key]
  cases decide (IntKind.u64.wrap x.num=b)<;>simp) (by simp[Qn,hI,br,ix,AN,vz,vy,wg,vs,Ar,ln,Af,wa,Ai,br]) (AK (by omega))
 dsimp only[Pg,pe,mj,nO,lr,lc]
 unfold LG
 rw[m,←Oc]
 cases e.items.findIdx? fun x=>decide (IntKind.u64.wrap x.num=b)<;>rfl
end Go.Proofs.YtbcmdieedjamgaaGreat
namespace Go.Proofs.YtbcmdieedjamgaaGreat
set_option linter.all false
open Go Go.Eng
theorem Up{α ξ ρ:Type}{B:Nat→Option (Lv Nat ξ ρ)}{N:Nat}(l:List α)(p:α→Bool)(r:ρ)(e:ξ)
  (hs:∀i x,l[i]?=some x→B i=some (if p x=true then .rt r else .nx (i+1))) (he:B l.length=some (.ex e)) (hN:l.length<N):Aj B N 0=some (if l.any p=true then .inr r else .inl e):=by
 rw[Di l p (fun _=>r) e hs he hN,←Oc]
 cases l.findIdx? p<;>rfl
theorem ZIk(v:Val)(k:Int)(h:v.slots.length≤1048576):dQ v k=some (BS v.slots k):=by
 have c:v.slots.length<4611686018427387904:=by omega
 have d:=Di (B:=P2 v k) (N:=Ag) v.slots (fun x=>decide (x.num=k)) (fun _=>true) () (fun i x hx=>by
  have a:=Ba hx
  have e:=(Yb.1 hx).1
  have b:i+1<9223372036854775808:=by omega
  dsimp only[P2,ii,br,ix,vz,wg,vs,Ar,ln,Af,wa,Ai,br]
  simp only[c,a,b,hx,Yp,Yq,Ya]
  cases decide (x.num=k)<;>simp) (by simp[P2,ii,br,ix,vz,wg,vs,Ar,ln,Af,wa,Ai,br]) (AK (by omega))
 dsimp only[dQ,ZzX,nf,nW,lr,lc]
 unfold BS
 rw[d,←Oc]
 cases v.slots.findIdx? fun x=>decide (x.num=k)<;>rfl
theorem ZFj{s:Scm}(hs:An (Am s)≤1048576)(m:Msg)(x:Raw)(hm:m.fields.length≤1048576)(hx:x.data.size≤1048576):dR s m x=some (KD s m.fields x):=by
 have h:=EW hs
 have A:x.data.size<4611686018427387904:=by omega
 have o:=ZzF s (AY m.fields x.num).type.name h.el
 have d:x.bits<2147483648→Pg (Db s (AY m.fields x.num).type.name).1 x.bits=_:=fun y=>oR _ _ (Zu4 h _) (ZrL hs _) (by omega)
 have w:(BH m.fields x.num).1=AY m.fields x.num:=rfl
 dsimp only[dR,nZ,fH,br,vy,wg,lr,cl,AE,Br,br]
 rw[jQ _ _ hm,Ya,w]
 unfold KD uL
 have j:((((((decide (x.num<1)||decide (65535<x.num))||decide (x.wire<0))||decide (6<x.wire))||(((decide (x.wire=0)||decide (x.wire=1))||decide (x.wire=2))&&!decide (x.data=⟨#[]⟩)))||((!((decide (x.wire=0)||decide (x.wire=1))||decide (x.wire=2)))&&!decide (x.bits=0)))=true)=(x.num<1∨65535<x.num∨x.wire<0∨6<x.wire∨(x.wire≤2∧x.data≠⟨#[]⟩)∨(2<x.wire∧x.bits≠0)):=by
  by_cases p:x.data=⟨#[]⟩<;>simp only[p,Yp,YU,YY,Y6,Ks,Og,XU,YH,Yd,YL,YE,YJ,Kw,ne_eq,On,LZ,and_false,OA,false_or,eq_iff_iff]<;>omega
 have b:(if((decide (x.wire=3)&&decide ((4096:Int)<x.data.size))||decide ((65536:Int)<x.data.size))=true then some (3:Int)else some 0)=some (if(x.wire=3∧4096<x.data.size)∨65536<x.data.size then 3 else 0):=by
  by_cases c:(x.wire=3∧4096<x.data.size)∨65536<x.data.size
  ·rw[Yj c,Yj]
   simp only[YH,Yd,YE]
   omega
  ·rw[Ym c,Ym]
   simp only[YH,Yd,YE]
   omega
 by_cases c:x.num<1∨65535<x.num∨x.wire<0∨6<x.wire∨(x.wire≤2∧x.data≠⟨#[]⟩)∨(2<x.wire∧x.bits≠0)
 ·rw[Yj c,Yj (j▸c)]
 ·rw[Ym c,Ym (j▸c)]
  cases z:(BH m.fields x.num).2 with
  |false=>
   simp only[Yn,YK,OB]
   exact b
  |true=>
   simp only[Yq,HV]
   rw[o,Ya]
   generalize (Db s (AY m.fields x.num).type.name)=a at d⊢
   generalize AY m.fields x.num=f at d⊢
   by_cases k:f.type.kind=9∧a.2=true∧a.1.opn=false∧¬f.card=5∧x.wire=0∧x.bits<2147483648
   ·obtain⟨q,r,t,u,l,n⟩:=k
    have i:¬(2147483648≤x.bits):=by omega
    simp only[q,r,t,u,l,n,i,d n,Yp,YU,YY,Y6,Sh,Kt,Sg,FI,YQ,Yq,Oh,Dt]
    cases LG a.1 x.bits with
    |true=>simp only[Yq,YY]
    |false=>
     simp only[Yn,YK,Y6,reduceCtorEq]
     rw[l]at b
     simpa using b
   ·have i:((((((!decide (f.type.kind=9))||(!a.2))||a.1.opn)||decide (f.card=5))||(!decide (x.wire=0)))||decide (2147483648≤x.bits))=true:=by
     simp only[YH,YL,YE,YJ]
     cases e:a.2<;>cases g:a.1.opn<;>simp only[e,g,HV,OA,OB,and_false,reduceCtorEq,LZ,true_or,or_true,false_or,or_false]at k⊢<;>omega
    have v:(decide (f.type.kind=9)&&a.2&&!a.1.opn&&!decide (f.card=5)&&decide (x.wire=0)&&decide (x.bits<2147483648)&&!LG a.1 x.bits)=false:=by
     rw[Kv]
     left
     cases e:a.2<;>cases g:a.1.opn<;>simp only[e,g,Ks,Ds,YY,Y6,Og]at k⊢
     simp only[Kv,XA,YJ,YE]
     simp only[HV]at k
     omega
    simp only[i,v,YY,Yn,L6,Yq,Ol]
theorem ZwK(R:WL)(l:Fld→Val→Int)(s:Scm)(m:Msg)(v:Val)(i:Nat)(x:Slt)(a:Int)(k:Bool)(hm:m.fields.length≤1048576)(hl:v.slots.length≤1048576)(hx:v.slots[i]?=some x)(F:1≤a∧a≤16)(t:∀f:Fld,(BH m.fields x.num)=(f,true)→R s f x.val (a+1) k=some (l f x.val)):Tw R s m v i a k=some (F6 l m.fields v.slots i x):=by
 have hi:=(Yb.1 hx).1
 have c:(v.slots.take i).length=i:=by rw[Yw];omega
 have b:∀(j:Nat) (y:Slt),(v.slots.take i)[j]?=some y→j<i∧v.slots[j]?=some y:=fun j y hy=>by
  rw[Y4]at hy
  split at hy
  ·exact⟨by assumption,hy⟩
  ·cases hy
 have A:∀y:Fld×Bool,Aj (Ni s m v i a k R y) Ag 0=some (if BS (v.slots.take i) y.1.num=true then .inr 9 else .inl ()):=fun y=>by
  have q:=Up (B:=Ni s m v i a k R y) (N:=Ag) (v.slots.take i) (fun z=>decide (z.num=y.1.num)) (9:Int) () (fun j z h=>by
   obtain⟨p,d⟩:=b j z h
   have e:(j:Int)<i:=by omega
   have g:j+1<9223372036854775808:=by omega
   dsimp only[Ni,iz,br,ix,wg,vs,Ar,ln,Af,wa,br]
   simp only[d,e,g,Yp,Yq,Ya]
   cases decide (z.num=y.1.num)<;>simp) (by rw[c];dsimp only[Ni,iz,br,ix,wg,vs,Ar,ln,Af,wa,br];simp) (by rw[c];exact AK (by omega))
  exact q
 have C:∀y:Fld×Bool,Aj (Nj s m v i a k R y) Ag 0=some (if K6 m.fields (v.slots.take i) y.1.union=true then .inr 15 else .inl ()):=fun y=>by
  have q:=Up (B:=Nj s m v i a k R y) (N:=Ag) (v.slots.take i) (fun z=>(!decide (y.1.union=⟨#[]⟩))&&decide ((AY m.fields z.num).union=y.1.union)) (15:Int) () (fun j z h=>by
   obtain⟨p,d⟩:=b j z h
   have e:(j:Int)<i:=by omega
   have g:j+1<9223372036854775808:=by omega
   have r:(BH m.fields z.num).1=AY m.fields z.num:=rfl
   dsimp only[Nj,gX,VI,iE,gT,br,ix,wg,vs,Ar,ln,Af,lc,cl,wa,du,br]
   simp only[d,e,g,jQ _ _ hm,r,Yp,Yq,Ya]
   cases(!decide (y.1.union=⟨#[]⟩))&&decide ((AY m.fields z.num).union=y.1.union)<;>simp) (by rw[c];dsimp only[Nj,gX,VI,iE,gT,br,ix,wg,vs,Ar,ln,Af,lc,cl,wa,du,br];simp) (by rw[c];exact AK (by omega))
  rw[q]
  congr 2
  unfold K6
  by_cases o:y.1.union=⟨#[]⟩
  ·simp only[o,Yp,YY,Ds,eq_iff_iff,Yn,iff_false,YW,not_exists,and_false,LZ,D8]
  ·simp only[o,YU,Y6,Dt]
 have w0:(0:Int)≤i∧(i:Int)<v.slots.length:=by omega
 have D:(BH m.fields x.num).1=AY m.fields x.num:=rfl
 have w2: -9223372036854775808≤a+1∧a+1<9223372036854775808:=by omega
 have E:(v.slots.getD i Rw.z)=x:=by rw[Yg,hx];rfl
 unfold F6
 dsimp only[Tw,Zvk,gg,lS,oN,m5,Zz2,br,CC,vw,wg,vs,lr,lc,cl,cs,wi,du,br]
 simp only[YS,hx,w0,E,Ck,Yq,jQ _ _ hm,Ya,A,C,D,w2]
 cases n:(BH m.fields x.num).2 with
 |false=>simp
 |true=>
  have u:(AY m.fields x.num).num=x.num:=Znw n
  have w:=t (AY m.fields x.num) (Prod.ext rfl n)
  rw[u]
  cases BS (v.slots.take i) x.num with
  |true=>simp
  |false=>
   cases K6 m.fields (v.slots.take i) (AY m.fields x.num).union with
   |true=>simp
   |false=>simp[w]
theorem ZqK(R:WL){s:Scm}(hs:An (Am s)≤1048576)(m:Msg)(v:Val)(d:Nat)(K:d≤16)(k:Bool)(hm:m.fields.length≤1048576)(o:AP v)(D:∀d':Nat,d=d'+1→∀(f:Fld) (x:Val),AP x→R s f x (17-(d':Int)) k=some (Cn (A6 s k d') s k f x)):Pb R s m v (17-(d:Int)) k=some (A6 s k d m v):=by
 have h:=EW hs
 have F:=Ci o
 obtain⟨s1,s2,L,t,M⟩:=Ci o
 have u:m.fields.length<4611686018427387904:=by omega
 have w:v.slots.length<4611686018427387904:=by omega
 have y:v.raws.length<4611686018427387904:=by omega
 dsimp only[Pb,yl,w8,sJ,ra,xM,br,wg,lr,lc,AE,br]
 rw[gA F]
 by_cases c:v.kind≠10∨B4 v=true
 ·have z:A6 s k d m v=12:=by cases d<;>(unfold A6;rw[Yj c])
  rw[z]
  by_cases a:v.kind=10
  ·have n:B4 v=true:=c.resolve_left fun e=>e a
   simp[a,n]
  ·simp[a]
 ·have a:v.kind=10:=Decidable.not_not.1 fun e=>c (.inl e)
  have n:B4 v=false:=by
   cases h:B4 v with
   |false=>rfl
   |true=>exact absurd (.inr h) c
  cases d with
  |zero=>
   unfold A6
   rw[Ym c]
   simp[a,n]
  |succ d=>
   have G:(1:Int)≤17-((d+1:Nat):Int)∧17-((d+1:Nat):Int)≤16:=by omega
   have q:¬(16:Int)<17-((d+1:Nat):Int):=by omega
   have H:=PC (B:=Q3 s m v (17-((d+1:Nat):Int)) k R) (N:=Ag) v.slots (F6 (Cn (A6 s k d) s k) m.fields v.slots) id () (fun i x hx _=>by
    have e:=ZwK R (Cn (A6 s k d) s k) s m v i x _ k hm t hx G fun f j=>by
     have:=D d rfl f x.val (Fm o (Yi hx))
     rw[show 17-((d+1:Nat):Int)+1=17-(d:Int)by omega]
     exact this
    have b:=Ba hx
    have g:i+1<9223372036854775808:=by have:=(Yb.1 hx).1;omega
    dsimp only[Q3,ZU,br,vz,wg,vs,v2,Ar,ln,Af,cs,wa,Ai,br]
    simp only[w,b,g,e,Yp,Yq,Ya]
    by_cases hy:F6 (Cn (A6 s k d) s k) m.fields v.slots i x=0<;>simp[hy]) (by dsimp only[Q3,ZU,br,vz,wg,vs,v2,Ar,ln,Af,cs,wa,Ai,br];simp[w]) (AK (by omega))
   have I:=PC (B:=QH s m v R) (N:=Ag) m.fields (fun _ f=>IS v.slots f) id () (fun i f j _=>by
    have b:=Ba j
    have g:i+1<9223372036854775808:=by have:=(Yb.1 j).1;omega
    have A:m.fields.getD i Rw.z=f:=by rw[Yg,j];rfl
    have C:(0:Int)≤i∧(i:Int)<m.fields.length:=⟨by omega,b⟩
    have e:=ZIk v f.num t
    unfold IS
    dsimp only[QH,aR,br,ix,AN,vz,wg,vs,Ar,ln,Af,AE,wa,Ai,br]
    simp only[u,b,g,A,C,j,e,YS,Yp,Yq,Ya,Ck,D8,FI,YQ]
    by_cases E:f.card=1<;>cases BS v.slots f.num<;>simp[E]) (by dsimp only[QH,aR,br,ix,AN,vz,wg,vs,Ar,ln,Af,AE,wa,Ai,br];simp[u]) (AK (by omega))
   have J:=PC (B:=QX s m v R) (N:=Ag) v.raws (fun _ x=>KD s m.fields x) id () (fun i x hx _=>by
    have b:=Ba hx
    have g:i+1<9223372036854775808:=by have:=(Yb.1 hx).1;omega
    have e:=ZFj hs m x hm (ZVj o (Yi hx))
    dsimp only[QX,ZA,br,ix,vz,wg,vs,Ar,ln,Af,cl,wa,Ai,br]
    simp only[y,b,g,hx,e,Yp,Yq,Ya]
    by_cases hy:KD s m.fields x=0<;>simp[hy]) (by dsimp only[QX,ZA,br,ix,vz,wg,vs,Ar,ln,Af,cl,wa,Ai,br];simp[y]) (AK (by omega))
   unfold A6
   rw[Ym c]
   simp only[a,n,q,H,I,J,Yp,YU,YY,Y6,Sh,Yn,Sg,FI,YQ,Yq,YK,Ya]
   by_cases l:Cb (F6 (Cn (A6 s k d) s k) m.fields v.slots) v.slots 0=0
   ·by_cases p:Cb (fun _ f=>IS v.slots f) m.fields 0=0
    ·by_cases r:Cb (fun _ x=>KD s m.fields x) v.raws 0=0
     ·simp[l,p,r]
     ·simp[l,p,r]
    ·simp[l,p]
   ·simp[l]
theorem ZGd(R:WL){s:Scm}(hs:An (Am s)≤1048576)(t:Typ)(v:Val)(d:Nat)(q:d≤16)(k:Bool)(m:AP v)(p:∀d':Nat,d=d'+1→∀(f:Fld) (x:Val),AP x→R s f x (17-(d':Int)) k=some (Cn (A6 s k d') s k f x)):MF R s t v (17-(d:Int)) k=some (DL (A6 s k d) s t v):=by
 have h:=EW hs
 have hm:=ZqK R hs (A0 s t.name).1 v d q k (M7 h _) m p
 have o:v.bits<9223372036854775808→Pg (Db s t.name).1 v.bits=_:=fun i=>oR _ _ (Zu4 h _) (ZrL hs _) i
 have n:K9 s t.name=some (A0 s t.name):=Xd s _ h.ml
 dsimp only[MF,mC,br,wg,lr,cl,AE,cs,br]
 rw[n,tM _ (Ci m),ZzF s _ h.el]
 simp only[Ya]
 unfold DL
 by_cases c:t.kind=10
 ·simp only[c,Yp,Yq,hm,Ya]
  cases(A0 s t.name).2<;>simp
 ·by_cases e:t.kind<1∨9<t.kind
  ·have g:(decide (t.kind<1)||decide (9<t.kind))=true:=by simpa using e
   simp only[c,e,g,YU,Yn,YK,Yq]
  ·have g:(decide (t.kind<1)||decide (9<t.kind))=false:=by
    rw[Kw,YJ,YJ]
    omega
   simp only[c,e,g,YU,Yn,YK]
   by_cases a:DW t.kind v=0∧t.kind=9
   ·obtain⟨a,b⟩:=a
    have i:v.bits<9223372036854775808:=by
     rw[b]at a
     unfold DW at a
     by_cases a1:v.kind≠9∨B4 v=true
     ·rw[Yj a1]at a;cases a
     ·rw[Ym a1]at a
      by_cases j:4096<v.text.size
      ·rw[Yj j]at a;cases a
      ·rw[Ym j]at a
       cases a3:Jl 9 v with
       |false=>rw[a3]at a;simp at a
       |true=>
        unfold Jl at a3
        simp only[Yd]at a3
        have a4:=a3.2
        rw[Ym (by decide)]at a4
        simp only[Yd]at a4
        have l:=a4.2
        unfold S8 at l
        rw[Ym (by decide),Ym (by decide),Ym (by decide),Yj rfl,YE]at l
        omega
    rw[o i,a,b]
    cases(Db s t.name).2<;>cases(Db s t.name).1.opn<;>cases LG (Db s t.name).1 v.bits<;>simp
   ·have b:((!decide (DW t.kind v=0))||!decide (t.kind=9))=true:=by
     simp only[YH,YL,YJ]
     omega
    rw[Yj b,Yj (by omega)]
theorem ZIx(R:WL){s:Scm}(hs:An (Am s)≤1048576)(f:Fld)(v:Val)(d:Nat)(S:d≤16)(k:Bool)(t:AP v)(Q:∀d':Nat,d=d'+1→∀(f:Fld) (x:Val),AP x→R s f x (17-(d':Int)) k=some (Cn (A6 s k d') s k f x)):VK R s f v (17-(d:Int)) k=some (Cn (A6 s k d) s k f v):=by
 have h:=EW hs
 have l:=Ci t
 obtain⟨s1,s2,Y,Z,s5⟩:=Ci t
 have G:v.list.length<4611686018427387904:=by omega
 have w2:v.pairs.length<4611686018427387904:=by omega
 have y:=fun(x:Val) (hx:AP x)=>ZGd R hs f.type x d S k hx Q
 generalize 17-(d:Int)=A at y
 have U:=PC (B:=Qu s f v A k R) (N:=Ag) v.list (fun _ x=>DL (A6 s k d) s f.type x) id () (fun i x hx _=>by
  have w:=Ba hx
  have g:i+1<9223372036854775808:=by have:=(Yb.1 hx).1;omega
  have e:=y x (Q4 t (Yi hx))
  dsimp only[Qu,h9,br,ix,vz,wg,vs,v2,Ar,ln,Af,cs,wa,Ai,br]
  simp only[G,w,g,hx,e,Yp,Yq,Ya]
  by_cases hy:DL (A6 s k d) s f.type x=0<;>simp[hy]) (by dsimp only[Qu,h9,br,ix,vz,wg,vs,v2,Ar,ln,Af,cs,wa,Ai,br];simp[G]) (AK (by omega))
 have W:∀(i:Nat) (p:Pr),v.pairs[i]?=some p→Aj (Lt s f v A k R i) Ag 0=some (if k=true∧((v.pairs.take i).any fun q=>K7 q.key p.key)=true then .inr 9 else .inl ()):=fun i p c=>by
  have hi:=(Yb.1 c).1
  have F:(v.pairs.take i).length=i:=by rw[Yw];omega
  cases k with
  |false=>
   obtain⟨X,D⟩:∃b,Ag=b+1:=⟨Ag-1,by have:=AK (n:=20) (by omega);omega⟩
   rw[D,Aj]
   dsimp only[Lt,Vz,br,ix,AN,wg,vs,Ar,ln,Af,wa,br]
   simp
  |true=>
   have q:=Up (B:=Lt s f v A true R i) (N:=Ag) (v.pairs.take i) (fun q=>K7 q.key p.key) (9:Int) () (fun j z l=>by
    have T:j<i∧v.pairs[j]?=some z:=by
     rw[Y4]at l
     split at l
     ·exact⟨by assumption,l⟩
     ·cases l
    obtain⟨w,g⟩:=T
    have J:(j:Int)<i:=by omega
    have K:j+1<9223372036854775808:=by omega
    have L:v.pairs.getD j Rw.z=z:=by rw[Yg,g];rfl
    have M:v.pairs.getD i Rw.z=p:=by rw[Yg,c];rfl
    have O:(0:Int)≤j∧(j:Int)<v.pairs.length:=by omega
    have P:(0:Int)≤i∧(i:Int)<v.pairs.length:=by omega
    unfold K7
    dsimp only[Lt,Vz,br,ix,AN,wg,vs,Ar,ln,Af,wa,br]
    simp only[g,J,K,L,M,O,P,c,YS,Yp,Og,Yq,Ya,Ck,D8]
    cases decide (z.key.bits=p.key.bits)&&decide (z.key.text=p.key.text)<;>simp) (by rw[F];dsimp only[Lt,Vz,br,ix,AN,wg,vs,Ar,ln,Af,wa,br];simp) (by rw[F];exact AK (by omega))
   rw[q]
   simp
 have V:=PC (B:=Qp s f v A k R) (N:=Ag) v.pairs (Mk (DL (A6 s k d) s f.type) f.key k v.pairs) id () (fun i p c _=>by
  have w:=Ba c
  have g:i+1<9223372036854775808:=by have:=(Yb.1 c).1;omega
  have E:=EL t (Yi c)
  have H:=tM f.key (Ci E.1)
  have I:=y p.val E.2
  unfold Mk
  dsimp only[Qp,gi,iF,jh,jr,jd,br,ix,vz,wg,vs,Ar,ln,Af,lc,cl,cs,wa,Ai,br]
  simp only[w2,w,g,c,H,I,W i p c,Yp,Yq,Ya]
  by_cases u:DW f.key p.key=0
  ·by_cases m:k=true∧((v.pairs.take i).any fun q=>K7 q.key p.key)=true
   ·simp[u,m]
   ·by_cases C:DL (A6 s k d) s f.type p.val=0
    ·rw[Ym m]
     simp only[u,m,C]
     simp
    ·rw[Ym m]
     simp only[u,m,C]
     simp[C]
  ·simp[u]) (by dsimp only[Qp,gi,iF,jh,jr,jd,br,ix,vz,wg,vs,Ar,ln,Af,lc,cl,cs,wa,Ai,br];simp[w2]) (AK (by omega))
 have e0:=y v t
 unfold Cn
 dsimp only[VK,ZuI,Zum,ZsK,Zz6,ZtP,oB,ZqX,Zvi,lQ,Zru,ZtR,Ztu,br,wg,lr,lc,AE,cs,br]
 rw[gA l,U,V,e0]
 by_cases o:f.card=4
 ·by_cases a:v.kind=11
  ·cases B4 v with
   |true=>simp[o,a]
   |false=>
    by_cases c6:Cb (fun _ x=>DL (A6 s k d) s f.type x) v.list 0=0
    ·simp[o,a,c6]
    ·simp[o,a,c6]
  ·simp[o,a]
 ·by_cases r:f.card=5
  ·by_cases a:v.kind=12
   ·cases B4 v with
    |true=>simp[r,a]
    |false=>
     by_cases c6:Cb (Mk (DL (A6 s k d) s f.type) f.key k v.pairs) v.pairs 0=0
     ·simp[r,a,c6]
     ·simp[r,a,c6]
   ·simp[r,a]
  ·simp[o,r]
theorem ZnE{s:Scm}(hs:An (Am s)≤1048576)(k:Bool):∀(a d:Nat),d<a→d≤16→∀(f:Fld) (v:Val),AP v→JI a s f v (17-(d:Int)) k=some (Cn (A6 s k d) s k f v)
 |0,d,b,_,_,_,_=>absurd b (Y2 _)
 |a+1,d,b,c,f,v,h=>ZIx (JI a) hs f v d c k h fun d' e g x hx=>ZnE hs k a d' (by omega) (by omega) g x hx
theorem rh:20<Ag:=AK (by omega)
theorem Zxm{s:Scm}(hs:An (Am s)≤1048576)(m:Msg)(v:Val)(k:Bool)(hm:m.fields.length≤1048576)(a:AP v):Pb (JI Ag) s m v 1 k=some (A6 s k 16 m v):=
 ZqK (JI Ag) hs m v 16 (Yf _) k hm a fun d' e f x hx=>ZnE hs k Ag d' (by have:=rh;omega) (by omega) f x hx
mutual
theorem Qg:∀v:Val,cnt v≤2*An (AW v)+1
 |.mk k b t l p s r=>by
  have a:=ZsD l
  have c:=Zq9 p
  have d:=ZrV s
  have f:=Cr (e:=Au) r
  simp only[cnt,AW,An,bk]
  omega
theorem ZsD:∀l:List Val,Bj l≤2*AB (Ny l)
 |[]=>by simp[Bj]
 |v::l=>by
  have a:=Qg v
  have b:=ZsD l
  simp only[Bj,Ny,AB]
  omega
theorem ZyN:∀p:Pr,NH p≤2*An (Aq p)+2
 |.mk k v=>by
  have a:=Qg k
  have b:=Qg v
  simp only[NH,Aq,M6]
  omega
theorem Zq9:∀l:List Pr,BG l≤2*AB (MA l)
 |[]=>by simp[BG]
 |v::l=>by
  have a:=ZyN v
  have b:=Zq9 l
  simp only[BG,MA,AB]
  omega
theorem Zza:∀x:Slt,Nz x≤2*An (Ap x)+1
 |.mk n v=>by
  have a:=Qg v
  simp only[Nz,Ap,An,bk]
  omega
theorem ZrV:∀l:List Slt,B5 l≤2*AB (NL l)
 |[]=>by simp[B5]
 |v::l=>by
  have a:=Zza v
  have b:=ZrV l
  simp only[B5,NL,AB]
  omega
end
theorem o7(v:Val):cnt v=1+v.raws.length+Bj v.list+BG v.pairs+B5 v.slots:=by cases v;simp only[cnt,Val.raws,Val.list,Val.pairs,Val.slots]
theorem Zot(p:Pr):NH p=cnt p.key+cnt p.val:=by cases p;simp only[NH,Pr.key,Pr.val]
theorem Znl(x:Slt):Nz x=cnt x.val:=by cases x;simp only[Nz,Slt.val]
theorem Um:∀a b:List Val,Bj (a++b)=Bj a+Bj b
 |[],b=>by simp[Bj]
 |x::a,b=>by rw[HR,Bj,Bj,Um a b];omega
theorem Ui:∀a b:List Pr,BG (a++b)=BG a+BG b
 |[],b=>by simp[BG]
 |x::a,b=>by rw[HR,BG,BG,Ui a b];omega
theorem Un:∀a b:List Slt,B5 (a++b)=B5 a+B5 b
 |[],b=>by simp[B5]
 |x::a,b=>by rw[HR,B5,B5,Un a b];omega
theorem ZK2{v:Val}(h:AP v):cnt v≤2097153:=by
 have:=Qg v
 rw[GG]at this
 have h:An (Ae v)≤1048576:=h
 omega
theorem ZtY(l:List Val)(i:Nat):Bj (l.take i)≤Bj l:=by
 conv=>rhs;rw[←HT i l,Um]
 omega
theorem Zq2(l:List Pr)(i:Nat):BG (l.take i)≤BG l:=by
 conv=>rhs;rw[←HT i l,Ui]
 omega
theorem Zu0(l:List Slt)(i:Nat):B5 (l.take i)≤B5 l:=by
 conv=>rhs;rw[←HT i l,Un]
 omega
theorem ZxO{l:List Val}{i:Nat}{x:Val}(h:l[i]?=some x):Bj (l.take i)+cnt x≤Bj l:=by
 obtain⟨a,rfl⟩:=Yb.1 h
 have:=ZtY l (i+1)
 rw[Y7 a,Um,Bj,Bj]at this
 omega
theorem Zyk{l:List Pr}{i:Nat}{x:Pr}(h:l[i]?=some x):BG (l.take i)+NH x≤BG l:=by
 obtain⟨a,rfl⟩:=Yb.1 h
 have:=Zq2 l (i+1)
 rw[Y7 a,Ui,BG,BG]at this
 omega
theorem Zy4{l:List Slt}{i:Nat}{x:Slt}(h:l[i]?=some x):B5 (l.take i)+Nz x≤B5 l:=by
 obtain⟨a,rfl⟩:=Yb.1 h
 have:=Zu0 l (i+1)
 rw[Y7 a,Un,B5,B5]at this
 omega
theorem PN:∀(g:Nat) (v:Val),An (Ae v)<g→AP v→JC g v=some (cnt v:Int)
 |0,v,h,_=>by omega
 |g+1,v,h,k=>by
  obtain⟨s1,s2,D,E,F⟩:=Ci k
  have y:=ZK2 k
  rw[o7]at y
  have q:v.list.length<4611686018427387904:=by omega
  have r:v.pairs.length<4611686018427387904:=by omega
  have s:v.slots.length<4611686018427387904:=by omega
  have z:v.raws.length<4611686018427387904:=by omega
  have A:1+v.raws.length<9223372036854775808:=by omega
  have t:=Dh (B:=QZ v (JC g)) (N:=Ag) (ρ:=Int) v.list (fun p=>((1+v.raws.length+Bj p:Nat):Int)) (fun i b=>(b,i)) id (fun i x hx=>by
   have j:=Ba hx
   have l:i+1<9223372036854775808:=by have:=(Yb.1 hx).1;omega
   have hm:=Yi hx
   have e:=PN g x (by have:=tx hm;omega) (Q4 k hm)
   have m:=ZxO hx
   have d:((1+v.raws.length+Bj (v.list.take i):Nat):Int)+(cnt x:Int)=((1+v.raws.length+Bj (v.list.take i++[x]):Nat):Int):=by
    rw[Um,Bj,Bj]
    omega
   have f: -9223372036854775808≤((1+v.raws.length+Bj (v.list.take i):Nat):Int)+(cnt x:Int)∧((1+v.raws.length+Bj (v.list.take i):Nat):Int)+(cnt x:Int)<9223372036854775808:=by omega
   generalize ((1+v.raws.length+Bj (v.list.take i):Nat):Int)=a at d f⊢
   generalize ((1+v.raws.length+Bj (v.list.take i++[x]):Nat):Int)=b at d⊢
   generalize (cnt x:Int)=c at e d f
   dsimp only[QZ,ZD,br,ix,vz,wg,vs,v2,ln,Af,cs,wa,wi,Ai,br]
   simp only[q,j,hx,Yp,Yq,Ya]
   rw[e,Ya,Yj f,Yj l,d]) (by dsimp only[QZ,ZD,br,ix,vz,wg,vs,v2,ln,Af,cs,wa,wi,Ai,br];simp[q]) (AK (by omega))
  have u:=Dh (B:=Q1 v (JC g)) (N:=Ag) (ρ:=Int) v.pairs (fun p=>((1+v.raws.length+Bj v.list+BG p:Nat):Int)) (fun i b=>(b,i)) id (fun i x hx=>by
   have j:=Ba hx
   have l:i+1<9223372036854775808:=by have:=(Yb.1 hx).1;omega
   have hm:=Yi hx
   have e:=PN g x.key (by have:=(V9 hm).1;omega) (EL k hm).1
   have o:=PN g x.val (by have:=(V9 hm).2;omega) (EL k hm).2
   have m:=Zyk hx
   rw[Zot]at m
   have d:((1+v.raws.length+Bj v.list+BG (v.pairs.take i):Nat):Int)+((cnt x.key:Int)+(cnt x.val:Int))=((1+v.raws.length+Bj v.list+BG (v.pairs.take i++[x]):Nat):Int):=by
    rw[Ui,BG,BG,Zot]
    omega
   have f: -9223372036854775808≤((1+v.raws.length+Bj v.list+BG (v.pairs.take i):Nat):Int)+((cnt x.key:Int)+(cnt x.val:Int))∧((1+v.raws.length+Bj v.list+BG (v.pairs.take i):Nat):Int)+((cnt x.key:Int)+(cnt x.val:Int))<9223372036854775808:=by omega
   have n: -9223372036854775808≤(cnt x.key:Int)+(cnt x.val:Int)∧(cnt x.key:Int)+(cnt x.val:Int)<9223372036854775808:=by omega
   generalize ((1+v.raws.length+Bj v.list+BG (v.pairs.take i):Nat):Int)=a at d f⊢
   generalize ((1+v.raws.length+Bj v.list+BG (v.pairs.take i++[x]):Nat):Int)=b at d⊢
   generalize (cnt x.key:Int)=c at e d f n
   generalize (cnt x.val:Int)=C at o d f n
   dsimp only[Q1,bc,br,ix,vz,wg,vs,ln,Af,cs,wa,wi,Ai,br]
   simp only[r,j,hx,Yp,Yq,Ya]
   rw[e,Ya,o,Ya,Yj n,Yj f,Yj l,d]) (by dsimp only[Q1,bc,br,ix,vz,wg,vs,ln,Af,cs,wa,wi,Ai,br];simp[r]) (AK (by omega))
  have w:=Dh (B:=Ra v (JC g)) (N:=Ag) (ρ:=Int) v.slots (fun p=>((1+v.raws.length+Bj v.list+BG v.pairs+B5 p:Nat):Int)) (fun i b=>(b,i)) id (fun i x hx=>by
   have j:=Ba hx
   have l:i+1<9223372036854775808:=by have:=(Yb.1 hx).1;omega
   have hm:=Yi hx
   have e:=PN g x.val (by have:=uA hm;omega) (Fm k hm)
   have m:=Zy4 hx
   rw[Znl]at m
   have d:((1+v.raws.length+Bj v.list+BG v.pairs+B5 (v.slots.take i):Nat):Int)+(cnt x.val:Int)=((1+v.raws.length+Bj v.list+BG v.pairs+B5 (v.slots.take i++[x]):Nat):Int):=by
    rw[Un,B5,B5,Znl]
    omega
   have f: -9223372036854775808≤((1+v.raws.length+Bj v.list+BG v.pairs+B5 (v.slots.take i):Nat):Int)+(cnt x.val:Int)∧((1+v.raws.length+Bj v.list+BG v.pairs+B5 (v.slots.take i):Nat):Int)+(cnt x.val:Int)<9223372036854775808:=by omega
   generalize ((1+v.raws.length+Bj v.list+BG v.pairs+B5 (v.slots.take i):Nat):Int)=a at d f⊢
   generalize ((1+v.raws.length+Bj v.list+BG v.pairs+B5 (v.slots.take i++[x]):Nat):Int)=b at d⊢
   generalize (cnt x.val:Int)=c at e d f
   dsimp only[Ra,ZB,br,ix,vz,wg,vs,ln,Af,cs,wa,wi,Ai,br]
   simp only[s,j,hx,Yp,Yq,Ya]
   rw[e,Ya,Yj f,Yj l,d]) (by dsimp only[Ra,ZB,br,ix,vz,wg,vs,ln,Af,cs,wa,wi,Ai,br];simp[s]) (AK (by omega))
  simp only[Bj,BG,B5,G8,id]at t u w
  show SI (JC g) v=_
  dsimp only[SI,qf,we,uF,vk,qK,vz,wg,vs,lr,lc,wa,Ai]
  simp only[z,A,Yq,t,u,w,Ya,Cp]
  rw[o7]
theorem ZEC{s:Scm}(hs:An (Am s)≤1048576)(k:Bool)(n:ByteArray)(v:Val)(b:AP v):dG s n v k=some (K3 s k n v):=by
 have h:=EW hs
 have e:K9 s n=some (A0 s n):=Xd s _ h.ml
 have f:=Zxm hs (A0 s n).1 v k (M7 h _) b
 have g:=PN Ag v (by have i:An (Ae v)≤1048576:=b;exact AK (by omega)) b
 unfold K3
 dsimp only[dG,xU,br,wg,lr,cl,br]
 rw[e,Ya,f,g]
 cases(A0 s n).2 with
 |false=>simp
 |true=>
  by_cases c:A6 s k 16 (A0 s n).1 v=0
  ·by_cases d:4096<cnt v
   ·have a:(4096:Int)<cnt v:=by omega
    simp[c,d,a]
   ·have a:¬(4096:Int)<cnt v:=by omega
    simp[c,d,a]
  ·simp[c]
theorem ZHi{s:Scm}(hs:An (Am s)≤1048576)(n:ByteArray)(v:Val)(a:AP v):ew s n v=some (K3 s true n v):=by
 dsimp only[ew,uX,wg,lr,cl]
 rw[ZEC hs true n v a]
 rfl
theorem UX{l:List Fld}(h:DM l l.length):∀(d i:Nat) (a b:Fld),l[i]?=some a→l[i+1+d]?=some b→a.num<b.num
 |0,i,a,b,e,c=>h i a b (Yb.1 c).1 e c
 |d+1,i,a,b,e,c=>by
  have g:=(Yb.1 c).1
  have f:i+1+d<l.length:=by omega
  have j:=UX h d i a l[i+1+d] e (Yc f)
  have k:=h (i+1+d) l[i+1+d] b (by omega) (Yc f) c
  omega
theorem ZPv{l:List Fld}(h:DM l l.length){i:Nat}{f:Fld}(a:l[i]?=some f):∀g∈l.take i,g.num≠f.num:=fun g b=>by
 obtain⟨j,c,rfl⟩:=XS.1 b
 have:=UX h (i-(j+1)) j _ f (Yc (by omega)) (by rw[show j+1+(i-(j+1))=i by omega];exact a)
 omega
def DfL(F:List Fld):Prop:=∀f∈F,I3 f∧AP f.dflt
theorem JS(F:List Fld)(k:Int):((BH F k).2=false∧AY F k=zF)∨((BH F k).2=true∧AY F k∈F):=by
 unfold AY BH C2
 cases e:F.find? fun f=>decide (f.num=k)with
 |none=>exact .inl ⟨rfl,rfl⟩
 |some f=>exact .inr ⟨rfl,Ha e⟩
def zV:Val:=.mk 0 0 ⟨#[]⟩ [] [] [] []
def Bo(l:List Slt)(k:Int):Option Slt:=l.find? fun x=>decide (x.num=k)
theorem Zn8(l:List Slt)(k:Int):BS l k=(Bo l k).isSome:=by
 unfold BS Bo
 cases e:l.find? fun x=>decide (x.num=k)with
 |none=>exact R1.2 (Sb.1 e)
 |some x=>refine YW.2 ?_;exact⟨x,Ha e,R4 (p:=fun x:Slt=>decide (x.num=k)) e⟩
theorem Zty{F:List Fld}(h:DM F F.length){i:Nat}{f:Fld}(a:F[i]?=some f):F=F.take i++f::F.drop (i+1)∧(∀g∈F.take i,g.num≠f.num)∧∀g∈F.drop (i+1),g.num≠f.num:=by
 obtain⟨hi,e⟩:=Yb.1 a
 refine⟨?_,ZPv h a,fun g c=>?_⟩
 ·rw[←e,List.getElem_cons_drop,HT]
 ·obtain⟨d,b⟩:=YN.1 c
  rw[Y0]at b
  have:=UX h d i f g a b
  omega
theorem Nh{F:List Fld}(h:DM F F.length){i:Nat}{f:Fld}(c:F[i]?=some f):BH F f.num=(f,true):=by
 obtain⟨e,b,j⟩:=Zty h c
 have a:F.find? (fun g=>decide (g.num=f.num))=some f:=by
  rw[e,XE,Sb.2 fun g d=>by simpa using b g d]
  simp
 unfold BH C2
 rw[a]
 rfl
theorem ZGw{s:Scm}(h:∀(i:Nat) (m:Msg),s.messages[i]?=some m→GdM s m)(hs:An (Am s)≤1048576)(n:ByteArray):DM (Ay s n) (Ay s n).length∧DfL (Ay s n)∧(Ay s n).length≤1048576:=by
 have hl:=M7 (EW hs) n
 unfold Ay C2 at*
 cases e:s.messages.find? fun m=>decide (m.name=n)with
 |none=>exact⟨fun i a b hi=>by simp[zM]at hi,fun f c=>by simp[zM]at c,by simp[zM]⟩
 |some m=>
  rw[e]at hl
  have hm:=Ha e
  obtain⟨i,hi⟩:=YN.1 hm
  have g:=h i m hi
  refine⟨g.asc,fun f c=>?_,hl⟩
  obtain⟨j,k⟩:=YN.1 c
  refine⟨(g.df j f k).1,?_⟩
  have d:=CF (e:=AH) hm
  have l:=CF (e:=Av) (show f∈m.fields from c)
  simp only[Am,An,bk]at hs
  simp only[AH,An,bk]at d
  have e:An (Ae f.dflt)≤An (Av f):=by
   simp only[Av,Ae,An,bk]
   omega
  show An (Ae f.dflt)≤1048576
  omega
structure GdF (s:Scm) (f:Fld):Prop where
 en:f.type.kind=9→(Db s f.type.name).2=true
 ms:f.type.kind=10→(A0 s f.type.name).2=true
 ty:1≤f.type.kind∧f.type.kind≤10
 un:f.union≠⟨#[]⟩→f.card=2
 cd:f.card≠5→1≤f.card∧f.card≤4
 np:f.type.kind=10→f.card≠3
 ky:f.card=5→f.key=1∨f.key=2∨f.key=3∨f.key=4∨f.key=5∨f.key=7
structure GdS (s:Scm):Prop where
 fl:∀(n:ByteArray) (f:Fld),f∈Ay s n→GdF s f
 asc:∀n:ByteArray,DM (Ay s n) (Ay s n).length
theorem dp{n:Int}{v:Val}(h:DW n v=0):v.kind=n∧B4 v=false∧v.text.size≤4096∧Jl n v=true:=by
 unfold DW at h
 by_cases a1:v.kind≠n∨B4 v=true
 ·rw[Yj a1]at h;cases h
 ·rw[Ym a1]at h
  by_cases a:4096<v.text.size
  ·rw[Yj a]at h;cases h
  ·rw[Ym a]at h
   cases a3:Jl n v with
   |false=>
    rw[a3]at h
    rw[Ym (by decide)]at h
    split at h<;>cases h
   |true=>
    refine⟨Decidable.not_not.1 fun e=>a1 (.inl e),?_,by omega,rfl⟩
    cases b:B4 v with
    |false=>rfl
    |true=>exact absurd (.inr b) a1
theorem P8{F:List Fld}(h:DM F F.length){g:Fld}(a:g∈F):BH F g.num=(g,true):=by
 obtain⟨i,hi⟩:=YN.1 a
 exact Nh h hi
theorem ZrW{α:Type}[Inhabited α]{l:List α}{z:α}{p:α→Bool}{x:α}(hx:x∈l)(a:p x=true):(C2 l z p).2=true:=by
 unfold C2
 cases e:l.find? p with
 |none=>exact absurd a (Sb.1 e x hx)
 |some y=>rfl
theorem ZNW{s:Scm}(h:∀(i:Nat) (m:Msg),s.messages[i]?=some m→GdM s m)(hs:An (Am s)≤1048576):GdS s:=by
 refine⟨fun n f a=>?_,fun n=>(ZGw h hs n).1⟩
 unfold Ay C2 at a
 cases e:s.messages.find? fun m=>decide (m.name=n)with
 |none=>rw[e]at a;cases a
 |some m=>
  rw[e]at a
  obtain⟨i,hi⟩:=YN.1 (Ha e)
  obtain⟨j,g⟩:=YN.1 (show f∈m.fields from a)
  obtain⟨_,c,⟨t1,t2,t3⟩,u⟩:=(h i m hi).df j f g
  refine⟨fun k=>?_,fun k=>?_,t3,u,fun k=>⟨(c.1 k).1,(c.1 k).2.1⟩,fun k=>(t2 k).2,c.2⟩
  ·obtain⟨x,b,d⟩:=t1 k
   exact ZrW b (Yo d)
  ·obtain⟨⟨x,b,d⟩,_⟩:=t2 k
   exact ZrW b (Yo d)
theorem T3{α ξ:Type}{B:Nat→Option (Lv Nat ξ Bool)}{N:Nat}(xs ys:List α)(e:ξ)(hl:xs.length=ys.length)
  (hs:∀(i:Nat) (x y:α),xs[i]?=some x→ys[i]?=some y→∃b:Bool,(b=true↔x=y)∧B i=some (if b=true then .nx (i+1)else .rt false)) (he:B xs.length=some (.ex e)) (hN:xs.length<N):
  Ok (Sum.elim (fun _=>xs=ys) (fun r:Bool=>r=false∧xs≠ys)) (Aj B N 0):=by
 refine Bt (fun i:Nat=>i≤xs.length∧∀j:Nat,j<i→xs[j]?=ys[j]?) (fun i:Nat=>xs.length-i) ⟨Cj _,fun j c=>absurd c (Y2 _)⟩ (by omega) fun i hi=>?_
 obtain⟨k,d⟩:=hi
 by_cases h:i<xs.length
 ·have hx:=Yc h
  have hy:=Yc (hl▸h:i<ys.length)
  obtain⟨b,f,g⟩:=hs i _ _ hx hy
  rw[g]
  cases b with
  |true=>
   refine⟨_,rfl,⟨⟨h,fun j c=>?_⟩,by show xs.length-(i+1)<xs.length-i;omega⟩⟩
   by_cases a:j=i
   ·subst a
    rw[hx,hy,f.1 rfl]
   ·exact d j (by omega)
  |false=>
   refine⟨_,rfl,rfl,fun a=>?_⟩
   subst a
   exact absurd (f.2 rfl) (by decide)
 ·have a:i=xs.length:=by omega
  subst a
  rw[he]
  refine⟨_,rfl,List.ext_getElem? fun j=>?_⟩
  by_cases c:j<xs.length
  ·exact d j c
  ·rw[YM (by omega),YM (by omega)]
abbrev DI{α:Type}(x y:α)(o:Option Bool):Prop:=Ok (fun b:Bool=>b=true↔x=y) o
theorem DI.no{α:Type}{x y:α}(h:x≠y):DI x y (some false):=⟨false,rfl,Iff.intro (fun e=>absurd e (by decide)) fun e=>absurd e h⟩
theorem DI.yes{α:Type}{x y:α}(h:x=y):DI x y (some true):=⟨true,rfl,Iff.intro (fun _=>h) fun _=>rfl⟩
theorem UQ{a b:Val}:a=b↔a.kind=b.kind∧a.bits=b.bits∧a.text=b.text∧a.list=b.list∧a.pairs=b.pairs∧a.slots=b.slots∧a.raws=b.raws:=by
 cases a
 cases b
 simp only[Val.kind,Val.bits,Val.text,Val.list,Val.pairs,Val.slots,Val.raws,Val.mk.injEq]
theorem ZUl{a b:Pr}:a=b↔a.key=b.key∧a.val=b.val:=by
 cases a
 cases b
 simp only[Pr.key,Pr.val,Pr.mk.injEq]
theorem ZKf{a b:Slt}:a=b↔a.num=b.num∧a.val=b.val:=by
 cases a
 cases b
 simp only[Slt.num,Slt.val,Slt.mk.injEq]
theorem ZNb{a b:Raw}:a=b↔a.num=b.num∧a.wire=b.wire∧a.bits=b.bits∧a.data=b.data:=by
 cases a
 cases b
 simp only[Raw.mk.injEq]
structure SzL (v:Val):Prop where
 l:v.list.length≤4194304
 p:v.pairs.length≤4194304
 s:v.slots.length≤4194304
 r:v.raws.length≤4194304
theorem SzV.l'{v:Val}(h:SzV v):SzL v:=⟨by have:=h.l;omega,by have:=h.p;omega,by have:=h.s;omega,by have:=h.r;omega⟩
theorem ZpV(R:Val→Val→Option Bool)(a b:Val)(L:SzL a)(z:SzL b)(hl:∀x∈a.list,∀y∈b.list,DI x y (R x y))(M:∀x∈a.pairs,∀y∈b.pairs,DI x.key y.key (R x.key y.key)∧DI x.val y.val (R x.val y.val))(hs:∀x∈a.slots,∀y∈b.slots,DI x.val y.val (R x.val y.val)):DI a b (RT R a b):=by
 obtain⟨a1,X,a3,a4⟩:=L
 obtain⟨Y,Z,b3,b4⟩:=z
 have F:a.list.length<4611686018427387904:=by omega
 have G:a.pairs.length<4611686018427387904:=by omega
 have H:a.slots.length<4611686018427387904:=by omega
 have I:a.raws.length<4611686018427387904:=by omega
 have k1:b.list.length<4611686018427387904:=by omega
 have k2:b.pairs.length<4611686018427387904:=by omega
 have k3:b.slots.length<4611686018427387904:=by omega
 have k4:b.raws.length<4611686018427387904:=by omega
 have O:a.list.length=b.list.length→Ok (Sum.elim (fun _=>a.list=b.list) (fun r:Bool=>r=false∧a.list≠b.list)) (Aj (OO a b R) Ag 0):=fun e=>T3 a.list b.list () e (fun i x y hx hy=>by
  have d:=Ba hx
  have g:i+1<9223372036854775808:=by have:=(Yb.1 hx).1;omega
  obtain⟨r,f,k⟩:=hl x (Yi hx) y (Yi hy)
  refine⟨r,k,?_⟩
  dsimp only[OO,cu,br,ix,vz,wg,vs,Ar,ln,Af,cs,wa,Ai,br]
  simp only[F,d,hx,hy,Yp,Yq,Ya]
  rw[f]
  cases r<;>simp[g]) (by dsimp only[OO,cu,br,ix,vz,wg,vs,Ar,ln,Af,cs,wa,Ai,br];simp[F]) (AK (by omega))
 have P:a.pairs.length=b.pairs.length→Ok (Sum.elim (fun _=>a.pairs=b.pairs) (fun r:Bool=>r=false∧a.pairs≠b.pairs)) (Aj (O4 a b R) Ag 0):=fun e=>T3 a.pairs b.pairs () e (fun i x y hx hy=>by
  have d:=Ba hx
  have g:i+1<9223372036854775808:=by have:=(Yb.1 hx).1;omega
  have q:=Ba hy
  have s:a.pairs.getD i Rw.z=x:=by rw[Yg,hx];rfl
  have u:b.pairs.getD i Rw.z=y:=by rw[Yg,hy];rfl
  have v:(0:Int)≤i∧(i:Int)<a.pairs.length:=⟨by omega,d⟩
  have w:(0:Int)≤i∧(i:Int)<b.pairs.length:=⟨by omega,q⟩
  obtain⟨⟨r,f,k⟩,⟨t,p,N⟩⟩:=M x (Yi hx) y (Yi hy)
  refine⟨r&&t,by rw[Yd,k,N,ZUl],?_⟩
  dsimp only[O4,cG,br,ix,AN,vz,wg,vs,Ar,ln,Af,cs,J9,wa,Ai,br]
  simp only[G,d,hx,hy,s,u,v,w,YS,Yp,Yq,Ya,Ck,D8]
  rw[f,p]
  cases r<;>cases t<;>simp[g]) (by dsimp only[O4,cG,br,ix,AN,vz,wg,vs,Ar,ln,Af,cs,J9,wa,Ai,br];simp[G]) (AK (by omega))
 have Q:a.slots.length=b.slots.length→Ok (Sum.elim (fun _=>a.slots=b.slots) (fun r:Bool=>r=false∧a.slots≠b.slots)) (Aj (OJ a b R) Ag 0):=fun e=>T3 a.slots b.slots () e (fun i x y hx hy=>by
  have d:=Ba hx
  have g:i+1<9223372036854775808:=by have:=(Yb.1 hx).1;omega
  have q:=Ba hy
  have s:a.slots.getD i Rw.z=x:=by rw[Yg,hx];rfl
  have u:b.slots.getD i Rw.z=y:=by rw[Yg,hy];rfl
  have v:(0:Int)≤i∧(i:Int)<a.slots.length:=⟨by omega,d⟩
  have w:(0:Int)≤i∧(i:Int)<b.slots.length:=⟨by omega,q⟩
  obtain⟨r,f,k⟩:=hs x (Yi hx) y (Yi hy)
  refine⟨decide (x.num=y.num)&&r,by rw[Yd,YE,k,ZKf],?_⟩
  dsimp only[OJ,da,br,ix,AN,vz,wg,vs,Ar,ln,Af,J9,wa,Ai,br]
  simp only[H,d,hx,hy,s,u,v,w,YS,Yp,Yq,Ya,Ck,D8]
  rw[f]
  cases r<;>cases decide (x.num=y.num)<;>simp[g]) (by dsimp only[OJ,da,br,ix,AN,vz,wg,vs,Ar,ln,Af,J9,wa,Ai,br];simp[H]) (AK (by omega))
 have S:a.raws.length=b.raws.length→Ok (Sum.elim (fun _=>a.raws=b.raws) (fun r:Bool=>r=false∧a.raws≠b.raws)) (Aj (ON a b R) Ag 0):=fun e=>T3 a.raws b.raws () e (fun i x y hx hy=>by
  have d:=Ba hx
  have g:i+1<9223372036854775808:=by have:=(Yb.1 hx).1;omega
  refine⟨decide (x.num=y.num)&&(decide (x.wire=y.wire)&&(decide (x.bits=y.bits)&&decide (x.data=y.data))),by simp only[Yd,YE,ZNb],?_⟩
  dsimp only[ON,dg,br,ix,vz,wg,vs,Ar,ln,Af,wa,Ai,br]
  simp only[I,d,hx,hy,Yp,Yq,Ya,Og]
  cases decide (x.num=y.num)&&(decide (x.wire=y.wire)&&(decide (x.bits=y.bits)&&decide (x.data=y.data)))<;>simp[g]) (by dsimp only[ON,dg,br,ix,vz,wg,vs,Ar,ln,Af,wa,Ai,br];simp[I]) (AK (by omega))
 dsimp only[RT,xY,yX,ZXv,y5,zj,zp,br,vy,wg,lr,lc,Ai,br]
 by_cases c:a.kind=b.kind∧a.bits=b.bits∧a.text=b.text∧a.list.length=b.list.length∧a.pairs.length=b.pairs.length∧a.slots.length=b.slots.length∧a.raws.length=b.raws.length
 ·obtain⟨A,B,j,C,D,c6,E⟩:=c
  obtain⟨T,f,l⟩:=O C
  obtain⟨U,p,m⟩:=P D
  obtain⟨V,J,n⟩:=Q c6
  obtain⟨W,K,o⟩:=S E
  simp only[A,B,j,C,D,c6,E,Yp,YY,Sh,Yn,YK,f,p,J,K,Ya]
  cases T with
  |inr y=>
   obtain⟨rfl,l⟩:=l
   exact DI.no fun h=>l (by rw[h])
  |inl y=>
  cases U with
  |inr y=>
   obtain⟨rfl,m⟩:=m
   exact DI.no fun h=>m (by rw[h])
  |inl y=>
  cases V with
  |inr y=>
   obtain⟨rfl,n⟩:=n
   exact DI.no fun h=>n (by rw[h])
  |inl y=>
  cases W with
  |inr y=>
   obtain⟨rfl,o⟩:=o
   exact DI.no fun h=>o (by rw[h])
  |inl y=>exact DI.yes (UQ.2 ⟨A,B,j,l,m,n,o⟩)
 ·have z:((((((!decide (a.kind=b.kind))||(!decide (a.bits=b.bits)))||(!decide (a.text=b.text)))||(!decide ((a.list.length:Int)=(b.list.length:Int))))||(!decide ((a.pairs.length:Int)=(b.pairs.length:Int))))||(!decide ((a.slots.length:Int)=(b.slots.length:Int)))||(!decide ((a.raws.length:Int)=(b.raws.length:Int))))=true:=by
   by_cases j:a.text=b.text
   ·simp only[YH,YL,YJ]
    simp only[j,HV]at c
    omega
   ·simp[j]
  rw[z]
  exact DI.no fun h=>c (by rw[h];exact⟨rfl,rfl,rfl,rfl,rfl,rfl,rfl⟩)
theorem QL:∀(c:Nat) (a b:Val),An (Ae a)<c→AP a→AP b→DI a b (JH c a b)
 |0,a,b,h,_,_=>by omega
 |c+1,a,b,h,d,e=>ZpV (JH c) a b (Ci d).l' (Ci e).l'
  (fun x hx y hy=>QL c x y (by have:=tx hx;omega) (Q4 d hx) (Q4 e hy))
  (fun x hx y hy=>⟨QL c x.key y.key (by have:=(V9 hx).1;omega) (EL d hx).1 (EL e hy).1,QL c x.val y.val (by have:=(V9 hx).2;omega) (EL d hx).2 (EL e hy).2⟩)
  (fun x hx y hy=>QL c x.val y.val (by have:=uA hx;omega) (Fm d hx) (Fm e hy))
theorem xC{a b:Val}(c:AP a)(d:AP b):DI a b (JH Ag a b):=QL Ag a b (by have h:An (Ae a)≤1048576:=c;exact AK (by omega)) c d
def Dn(v:Val):Val:=if v.kind=6∧ID v.bits.toNat=true then .mk v.kind 9221120237041090560 v.text v.list v.pairs v.slots v.raws else v
def B6(a b:Val):Int:=if a.kind≠b.kind then BJ a.kind b.kind else if a.kind=7∨a.kind=8 then ER a.text b.text else if a.kind=2∨a.kind=3 then BJ (IntKind.u64.wrap (a.bits+9223372036854775808)) (IntKind.u64.wrap (b.bits+9223372036854775808))else if a.kind=6 then BJ (G2 a.bits.toNat) (G2 b.bits.toNat)else BJ a.bits b.bits
def IU(out:List Pr)(p:Pr):Nat:=out.findIdx fun q=>!decide (B6 q.key p.key<0)
def Gf(out:List Pr)(p:Pr):List Pr:=out.take (IU out p)++([p]++out.drop (IU out p))
def CB(l:List Pr):Nat→List Pr
 |0=>[]
 |i+1=>match l[i]? with
  |some p=>if((l.drop (i+1)).any fun q=>decide (B6 p.key q.key=0))=true then CB l i else Gf (CB l i) p
  |none=>CB l i
def IC(l:List Pr):List Pr:=CB l l.length
def De(out:List Raw)(x:Raw):Nat→Nat
 |0=>0
 |k+1=>if x.num<(out.getD k Rw.z).num then De out x k else k+1
def insR(out:List Raw)(x:Raw):List Raw:=(out.take (De out x out.length)++[x])++out.drop (De out x out.length)
def Ch(l:List Raw):List Raw:=l.foldl insR []
def Do(R:ByteArray→Val→Val)(t:Typ)(v:Val):Val:=if t.kind=10 then R t.name v else Dn v
def Dd(R:ByteArray→Val→Val)(f:Fld)(v:Val):Val:=
 if f.card=4 then .mk 11 0 ⟨#[]⟩ (v.list.map (Do R f.type)) [] [] []
 else if f.card=5 then .mk 12 0 ⟨#[]⟩ [] (IC (v.pairs.map fun p=>.mk (Dn p.key) (Do R f.type p.val))) [] []
 else Do R f.type v
def dq(v:Val):Bool:=decide (1≤v.kind∧v.kind≤9)&&Mt v&&decide (v.bits=0)&&decide (v.text=⟨#[]⟩)
def C4(f:Fld)(v:Val):Bool:=if f.card=4 then decide (v.list.length=0)else if f.card=5 then decide (v.pairs.length=0)else decide (f.card=3)&&dq v
def DU(N:Fld→Val→Val)(F:List Fld)(l:List Slt):List Slt:=F.flatMap fun f=>(l.filter fun x=>decide (x.num=f.num)&&!C4 f x.val).map fun x=>.mk f.num (N f x.val)
def BW(s:Scm):Nat→ByteArray→Val→Val
 |0,_,v=>v
 |d+1,n,v=>.mk 10 0 ⟨#[]⟩ [] [] (DU (Dd (BW s d)) (Ay s n) v.slots) (Ch v.raws)
def ME(l:List Slt):Prop:=l.Pairwise fun a b=>a.num<b.num
theorem Vk{F:List Fld}(h:DM F F.length):F.Pairwise fun a b=>a.num<b.num:=by
 rw[Jc]
 intro i j hi d c
 exact UX h (j-(i+1)) i _ _ (Yc hi) (by rw[show i+1+(j-(i+1))=j by omega];exact Yc d)
theorem Zp2{l:List Slt}(h:l.Pairwise fun a b=>a.num≠b.num)(p:Slt→Bool){x:Slt}(hx:x∈l)(g:p x=true):(l.filter fun y=>decide (y.num=x.num)&&p y)=[x]:=by
 induction l with
 |nil=>cases hx
 |cons y l j=>
  obtain⟨c,f⟩:=Dr.1 h
  rcases Yx.1 hx with e|hx
  ·subst e
   have d:(l.filter fun z=>decide (z.num=x.num)&&p z)=[]:=by
    rw[XG]
    intro z i
    have:=c z i
    simp only[Yd,YE,not_and]
    exact fun e=>absurd e.symm this
   rw[XY,d]
   simp[g]
  ·have:=c x hx
   rw[XY,j f hx]
   simp[this]
theorem Zna{l:List Slt}(k:Int)(p:Slt→Bool)(h:∀x∈l,x.num=k→p x=false):(l.filter fun y=>decide (y.num=k)&&p y)=[]:=by
 rw[XG]
 intro z a
 simp only[Yd,YE,not_and]
 intro e
 rw[h z a e]
 decide
theorem ZsU:∀{a b:List Slt},ME a→ME b→(∀x,x∈a↔x∈b)→a=b
 |[],[],_,_,_=>rfl
 |[],y::b,_,_,h=>absurd ((h y).2 YB) XX
 |x::a,[],_,_,h=>absurd ((h x).1 YB) XX
 |x::a,y::b,j,k,h=>by
  obtain⟨a1,g⟩:=Dr.1 j
  obtain⟨f,i⟩:=Dr.1 k
  have e:x=y:=by
   rcases Yx.1 ((h x).1 YB)with e|e
   ·exact e
   ·rcases Yx.1 ((h y).2 YB)with d|d
    ·exact d.symm
    ·have l:=a1 y d
     have m:=f x e
     omega
  subst e
  rw[ZsU g i fun z=>?_]
  constructor
  ·intro c
   rcases Yx.1 ((h z).1 (Yy _ c))with e|e
   ·subst e
    have:=a1 z c
    omega
   ·exact e
  ·intro c
   rcases Yx.1 ((h z).2 (Yy _ c))with e|e
   ·subst e
    have:=f z c
    omega
   ·exact e
theorem PJ{α:Type}(f:α→Int)(l:List α):Cb (fun _ x=>f x) l 0=0↔∀x∈l,f x=0:=by
 rw[Qo]
 constructor
 ·intro h x hx
  obtain⟨j,a⟩:=YN.1 hx
  exact h j x a
 ·intro h j x a
  exact h x (Yi a)
def D7(F:List Fld)(a b:Slt):Prop:=¬((AY F a.num).union=(AY F b.num).union∧(AY F b.num).union≠⟨#[]⟩)
theorem D7.symm{F:List Fld}{a b:Slt}(h:D7 F a b):D7 F b a:=fun⟨e,k⟩=>h ⟨e.symm,by rw[←e]at*;exact k⟩
theorem hX{R:Fld→Val→Int}{F:List Fld}{l:List Slt}{i:Nat}{x:Slt}:F6 R F l i x=0↔(BH F x.num).2=true∧(∀y∈l.take i,y.num≠x.num∧D7 F y x)∧R (AY F x.num) x.val=0:=by
 unfold F6
 cases f:(BH F x.num).2 with
 |false=>simp
 |true=>
  rw[Ym (by decide)]
  by_cases b:BS (l.take i) x.num=true
  ·rw[Yj b]
   constructor
   ·intro h;cases h
   ·rintro⟨_,h,_⟩
    obtain⟨y,hy,e⟩:=YW.1 b
    exact absurd (Y1 e) (h y hy).1
  ·rw[Ym b]
   have c:∀y∈l.take i,y.num≠x.num:=fun y hy e=>b (YW.2 ⟨y,hy,Yo e⟩)
   by_cases a:K6 F (l.take i) (AY F x.num).union=true
   ·rw[Yj a]
    constructor
    ·intro h;cases h
    ·rintro⟨_,h,_⟩
     unfold K6 at a
     rw[Yd,YL,YJ]at a
     obtain⟨y,hy,e⟩:=YW.1 a.2
     exact absurd ⟨Y1 e,a.1⟩ (h y hy).2
   ·rw[Ym a]
    have d:∀y∈l.take i,D7 F y x:=fun y hy ⟨e,k⟩=>a (by
     unfold K6
     rw[Yd,YL,YJ]
     exact⟨k,YW.2 ⟨y,hy,Yo e⟩⟩)
    exact⟨fun h=>⟨rfl,fun y hy=>⟨c y hy,d y hy⟩,h⟩,fun h=>h.2.2⟩
theorem Znv{R:Fld→Val→Int}{F:List Fld}{l:List Slt}:Cb (F6 R F l) l 0=0↔(l.Pairwise fun a b=>a.num≠b.num∧D7 F a b)∧∀x∈l,(BH F x.num).2=true∧R (AY F x.num) x.val=0:=by
 rw[Qo,Jc]
 constructor
 ·intro h
  refine⟨fun i j hi d c=>?_,fun x hx=>?_⟩
  ·have:=h j _ (Yc d)
   rw[YP,hX]at this
   exact this.2.1 l[i] (YN.2 ⟨i,by rw[Y4,Yj c];exact Yc hi⟩)
  ·obtain⟨j,d⟩:=YN.1 hx
   have:=h j x d
   rw[YP,hX]at this
   exact⟨this.1,this.2.2⟩
 ·rintro⟨g,k⟩ j x d
  rw[YP,hX]
  have hx:=k x (Yi d)
  obtain⟨f,rfl⟩:=Yb.1 d
  refine⟨hx.1,fun y hy=>?_,hx.2⟩
  obtain⟨i,hi⟩:=YN.1 hy
  rw[Y4]at hi
  split at hi
  ·rename_i c
   obtain⟨e,rfl⟩:=Yb.1 hi
   exact g i j e f c
  ·cases hi
structure OkM (s:Scm) (k:Bool) (d:Nat) (m:Msg) (v:Val):Prop where
 kd:v.kind=10
 ot:B4 v=false
 pw:v.slots.Pairwise fun a b=>a.num≠b.num∧D7 m.fields a b
 sl:∀x∈v.slots,(BH m.fields x.num).2=true∧Cn (A6 s k d) s k (AY m.fields x.num) x.val=0
 rq:∀f∈m.fields,f.card=1→BS v.slots f.num=true
 rw:∀x∈v.raws,KD s m.fields x=0
theorem pA{l:List Slt}{f:Fld}:IS l f=0↔(f.card=1→BS l f.num=true):=by
 unfold IS
 by_cases c:f.card=1
 ·cases h:BS l f.num<;>simp[c]
 ·simp[c]
theorem Zqk{s:Scm}{k:Bool}{d:Nat}{m:Msg}{v:Val}(h:A6 s k d m v=0):v.kind=10∧B4 v=false:=by
 have:¬(v.kind≠10∨B4 v=true):=fun c=>by
  cases d<;>(unfold A6 at h;rw[Yj c]at h;cases h)
 refine⟨Decidable.not_not.1 fun e=>this (.inl e),?_⟩
 cases a:B4 v with
 |false=>rfl
 |true=>exact absurd (.inr a) this
theorem jn{s:Scm}{k:Bool}{d:Nat}{m:Msg}{v:Val}:A6 s k (d+1) m v=0↔OkM s k d m v:=by
 constructor
 ·intro h
  have g:=Zqk h
  unfold A6 at h
  rw[Ym (fun c=>c.elim (fun e=>e g.1) (fun e=>by rw[g.2]at e;cases e))]at h
  by_cases a:Cb (F6 (Cn (A6 s k d) s k) m.fields v.slots) v.slots 0=0
  ·rw[Ym (fun e=>e a)]at h
   by_cases b:Cb (fun _ f=>IS v.slots f) m.fields 0=0
   ·rw[Ym (fun e=>e b)]at h
    obtain⟨a1,j⟩:=Znv.1 a
    exact⟨g.1,g.2,a1,j,fun f i=>pA.1 ((PJ _ _).1 b f i),fun x hx=>(PJ _ _).1 h x hx⟩
   ·rw[Yj b]at h;exact absurd h b
  ·rw[Yj a]at h;exact absurd h a
 ·rintro⟨l,n,o,p,q,r⟩
  unfold A6
  have a:Cb (F6 (Cn (A6 s k d) s k) m.fields v.slots) v.slots 0=0:=Znv.2 ⟨o,p⟩
  have b:Cb (fun _ f=>IS v.slots f) m.fields 0=0:=(PJ _ _).2 fun f i=>pA.2 (q f i)
  rw[Ym (fun c=>c.elim (fun e=>e l) (fun e=>by rw[n]at e;cases e)),Ym (fun e=>e a),Ym (fun e=>e b)]
  exact(PJ _ _).2 r
theorem qA{E:Val→Int}{key:Int}{k:Bool}{l:List Pr}{i:Nat}{p:Pr}:Mk E key k l i p=0↔DW key p.key=0∧¬(k=true∧((l.take i).any fun q=>K7 q.key p.key)=true)∧E p.val=0:=by
 unfold Mk
 by_cases a:DW key p.key=0
 ·rw[Ym (fun e=>e a)]
  by_cases b:k=true∧((l.take i).any fun q=>K7 q.key p.key)=true
  ·rw[Yj b]
   exact Iff.intro (fun h=>by cases h) fun h=>absurd b h.2.1
  ·rw[Ym b]
   exact⟨fun h=>⟨a,b,h⟩,fun h=>h.2.2⟩
 ·rw[Yj a]
  exact⟨fun h=>absurd h a,fun h=>absurd h.1 a⟩
theorem gV{s:Scm}{k:Bool}{n:ByteArray}{v:Val}:K3 s k n v=0↔(A0 s n).2=true∧OkM s k 15 (A0 s n).1 v∧cnt v≤4096:=by
 rw[←jn]
 unfold K3
 cases b:(A0 s n).2 with
 |false=>simp
 |true=>
  rw[Ym (by decide)]
  by_cases c:A6 s k 16 (A0 s n).1 v=0
  ·rw[Ym (fun e=>e c)]
   by_cases a:4096<cnt v
   ·rw[Yj a]
    exact Iff.intro (fun h=>by cases h) fun h=>by have:=h.2.2;omega
   ·rw[Ym a]
    exact⟨fun _=>⟨rfl,c,by omega⟩,fun _=>rfl⟩
  ·rw[Yj c]
   exact⟨fun h=>absurd h c,fun h=>absurd h.2.1 c⟩
end Go.Proofs.YtbcmdieedjamgaaGreat
