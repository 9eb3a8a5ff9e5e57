import Derived.Test.YtopncadjpnkjhaaGreatDoorZg21
import Derived.Test.YtopncadjpnkjhaaGreatDoorZg20
import Derived.Test.YtopncadjpnkjhaaGreatDoorZg00
namespace Go.Proofs.YtopncadjpnkjhaaGreatDoor
set_option linter.all false
open Go Go.Eng
theorem PL{α ξ ρ:Type}{B:Nat→Option (Lv Nat ξ ρ)}{N:Nat}(l:List α)(p:α→Bool)(r:ρ)(e:ξ)
  (hs:∀i x,l[i]?=some x→B i=some (if p x=true then .rt r else .nx (i+1))) (he:B l.length=some (.ex e)) (hN:l.length<N):Al B N 0=some (if l.any p=true then .inr r else .inl e):=by
 rw[DE l p (fun _=>r) e hs he hN,←Jl]
 cases l.findIdx? p<;>rfl
theorem Zyy(v:Val)(k:Int)(h:v.slots.length≤1048576):Vh v k=some (CH v.slots k):=by
 have d:v.slots.length<4611686018427387904:=by omega
 have e:=DE (B:=MF v k) (N:=Ai) v.slots (fun x=>decide (x.num=k)) (fun _=>true) () (fun i x a=>by
  have b:=BF a
  have f:=(Yd.1 a).1
  have c:i+1<9223372036854775808:=by omega
  dsimp only[MF,Xg,br,ix,vz,wg,vs,An,ln,Ah,wa,Ag,br]
  simp only[d,b,c,a,Yq,Yv,Yc]
  cases decide (x.num=k)<;>simp) (by simp[MF,Xg,br,ix,vz,wg,vs,An,ln,Ah,wa,Ag,br]) (A9 (by omega))
 dsimp only[Vh,qu,o5,qI,lr,lc]
 unfold CH
 rw[e,←Jl]
 cases v.slots.findIdx? fun x=>decide (x.num=k)<;>rfl
theorem ZzV{s:Scm}(hs:Ap (Ak s)≤1048576)(m:Msg)(x:Raw)(hm:m.fields.length≤1048576)(A:x.data.size≤1048576):Vg s m x=some (EN s m.fields x):=by
 have h:=Ef hs
 have B:x.data.size<4611686018427387904:=by omega
 have o:=tz s (A0 m.fields x.num).type.name h.el
 have d:x.bits<2147483648→L8 (BC s (A0 m.fields x.num).type.name).1 x.bits=_:=fun y=>ql _ _ (P5 h _) (n8 hs _) (by omega)
 have w:(BG m.fields x.num).1=A0 m.fields x.num:=rfl
 dsimp only[Vg,sC,Wb,br,vy,wg,lr,cl,Aw,AR,br]
 rw[ZT _ _ hm,Yc,w]
 unfold EN M4
 have j:((((((decide (x.num<1)||decide (65535<x.num))||decide (x.wire<0))||decide (6<x.wire))||(((decide (x.wire=0)||decide (x.wire=1))||decide (x.wire=2))&&!decide (x.data=⟨#[]⟩)))||((!((decide (x.wire=0)||decide (x.wire=1))||decide (x.wire=2)))&&!decide (x.bits=0)))=true)=(x.num<1∨65535<x.num∨x.wire<0∨6<x.wire∨(x.wire≤2∧x.data≠⟨#[]⟩)∨(2<x.wire∧x.bits≠0)):=by
  by_cases p:x.data=⟨#[]⟩<;>simp only[p,Yq,YG,YR,YW,F0,Ic,Jr,Yt,Yb,YF,Yr,YC,F2,ne_eq,Ie,F3,Ei,Hf,Jq,eq_iff_iff]<;>omega
 have b:(if((decide (x.wire=3)&&decide ((4096:Int)<x.data.size))||decide ((65536:Int)<x.data.size))=true then some (3:Int)else some 0)=some (if(x.wire=3∧4096<x.data.size)∨65536<x.data.size then 3 else 0):=by
  by_cases c:(x.wire=3∧4096<x.data.size)∨65536<x.data.size
  ·rw[Yi c,Yi]
   simp only[Yt,Yb,Yr]
   omega
  ·rw[Yj c,Yj]
   simp only[Yt,Yb,Yr]
   omega
 by_cases c:x.num<1∨65535<x.num∨x.wire<0∨6<x.wire∨(x.wire≤2∧x.data≠⟨#[]⟩)∨(2<x.wire∧x.bits≠0)
 ·rw[Yi c,Yi (j▸c)]
 ·rw[Yj c,Yj (j▸c)]
  cases z:(BG m.fields x.num).2 with
  |false=>
   simp only[Yp,YL,CW]
   exact b
  |true=>
   simp only[Yv,CV]
   rw[o,Yc]
   generalize (BC s (A0 m.fields x.num).type.name)=a at d⊢
   generalize A0 m.fields x.num=f at d⊢
   by_cases k:f.type.kind=9∧a.2=true∧a.1.opn=false∧¬f.card=5∧x.wire=0∧x.bits<2147483648
   ·obtain⟨q,r,t,u,l,n⟩:=k
    have i:¬(2147483648≤x.bits):=by omega
    simp only[q,r,t,u,l,n,i,d n,Yq,YG,YR,YW,Js,F1,Hc,Ej,YE,Yv,Ii,Y1]
    cases EP a.1 x.bits with
    |true=>simp only[Yv,YR]
    |false=>
     simp only[Yp,YL,YW,reduceCtorEq]
     rw[l]at b
     simpa using b
   ·have i:((((((!decide (f.type.kind=9))||(!a.2))||a.1.opn)||decide (f.card=5))||(!decide (x.wire=0)))||decide (2147483648≤x.bits))=true:=by
     simp only[Yt,YF,Yr,YC]
     cases e:a.2<;>cases g:a.1.opn<;>simp only[e,g,CV,Hf,CW,Ei,reduceCtorEq,F3,true_or,or_true,Jq,or_false]at k⊢<;>omega
    have v:(decide (f.type.kind=9)&&a.2&&!a.1.opn&&!decide (f.card=5)&&decide (x.wire=0)&&decide (x.bits<2147483648)&&!EP a.1 x.bits)=false:=by
     rw[He]
     left
     cases e:a.2<;>cases g:a.1.opn<;>simp only[e,g,F0,Y9,YR,YW,Ic]at k⊢
     simp only[He,NZ,YC,Yr]
     simp only[CV]at k
     omega
    simp only[i,v,YR,Yp,Lp,Yv,Hb]
theorem ZsN(R:QV)(n:Fld→Val→Int)(s:Scm)(m:Msg)(v:Val)(i:Nat)(x:Slt)(a:Int)(k:Bool)(hm:m.fields.length≤1048576)(hl:v.slots.length≤1048576)(h:v.slots[i]?=some x)(G:1≤a∧a≤16)(u:∀f:Fld,(BG m.fields x.num)=(f,true)→R s f x.val (a+1) k=some (n f x.val)):O1 R s m v i a k=some (EG n m.fields v.slots i x):=by
 have hi:=(Yd.1 h).1
 have c:(v.slots.take i).length=i:=by rw[YO];omega
 have b:∀(j:Nat) (y:Slt),(v.slots.take i)[j]?=some y→j<i∧v.slots[j]?=some y:=fun j y hy=>by
  rw[YY]at hy
  split at hy
  ·exact⟨by assumption,hy⟩
  ·cases hy
 have C:∀y:Fld×Bool,Al (Kv s m v i a k R y) Ai 0=some (if CH (v.slots.take i) y.1.num=true then .inr 9 else .inl ()):=fun y=>by
  have q:=PL (B:=Kv s m v i a k R y) (N:=Ai) (v.slots.take i) (fun z=>decide (z.num=y.1.num)) (9:Int) () (fun j z l=>by
   obtain⟨r,d⟩:=b j z l
   have e:(j:Int)<i:=by omega
   have g:j+1<9223372036854775808:=by omega
   dsimp only[Kv,X9,br,ix,wg,vs,An,ln,Ah,wa,br]
   simp only[d,e,g,Yq,Yv,Yc]
   cases decide (z.num=y.1.num)<;>simp) (by rw[c];dsimp only[Kv,X9,br,ix,wg,vs,An,ln,Ah,wa,br];simp) (by rw[c];exact A9 (by omega))
  exact q
 have D:∀y:Fld×Bool,Al (Kt s m v i a k R y) Ai 0=some (if HF m.fields (v.slots.take i) y.1.union=true then .inr 15 else .inl ()):=fun y=>by
  have q:=PL (B:=Kt s m v i a k R y) (N:=Ai) (v.slots.take i) (fun z=>(!decide (y.1.union=⟨#[]⟩))&&decide ((A0 m.fields z.num).union=y.1.union)) (15:Int) () (fun j z l=>by
   obtain⟨r,d⟩:=b j z l
   have e:(j:Int)<i:=by omega
   have g:j+1<9223372036854775808:=by omega
   have t:(BG m.fields z.num).1=A0 m.fields z.num:=rfl
   dsimp only[Kt,Xe,Qk,XB,X0,br,ix,wg,vs,An,ln,Ah,lc,cl,wa,du,br]
   simp only[d,e,g,ZT _ _ hm,t,Yq,Yv,Yc]
   cases(!decide (y.1.union=⟨#[]⟩))&&decide ((A0 m.fields z.num).union=y.1.union)<;>simp) (by rw[c];dsimp only[Kt,Xe,Qk,XB,X0,br,ix,wg,vs,An,ln,Ah,lc,cl,wa,du,br];simp) (by rw[c];exact A9 (by omega))
  rw[q]
  congr 2
  unfold HF
  by_cases p:y.1.union=⟨#[]⟩
  ·simp only[p,Yq,YR,Y9,eq_iff_iff,Yp,iff_false,YT,not_exists,Ei,F3,Dl]
  ·simp only[p,YG,YW,Y1]
 have w0:(0:Int)≤i∧(i:Int)<v.slots.length:=by omega
 have E:(BG m.fields x.num).1=A0 m.fields x.num:=rfl
 have w2: -9223372036854775808≤a+1∧a+1<9223372036854775808:=by omega
 have F:(v.slots.getD i Rw.z)=x:=by rw[Yu,h];rfl
 unfold EG
 dsimp only[O1,n3,WO,qk,pK,tk,su,br,CA,vw,wg,vs,lr,lc,cl,cs,wi,du,br]
 simp only[Y7,h,w0,F,CP,Yv,ZT _ _ hm,Yc,C,D,E,w2]
 cases o:(BG m.fields x.num).2 with
 |false=>simp
 |true=>
  have w:(A0 m.fields x.num).num=x.num:=WG o
  have A:=u (A0 m.fields x.num) (Prod.ext rfl o)
  rw[w]
  cases CH (v.slots.take i) x.num with
  |true=>simp
  |false=>
   cases HF m.fields (v.slots.take i) (A0 m.fields x.num).union with
   |true=>simp
   |false=>simp[A]
theorem nV(R:QV){s:Scm}(hs:Ap (Ak s)≤1048576)(m:Msg)(v:Val)(d:Nat)(L:d≤16)(k:Bool)(hm:m.fields.length≤1048576)(p:A6 v)(E:∀d':Nat,d=d'+1→∀(f:Fld) (x:Val),A6 x→R s f x (17-(d':Int)) k=some (Cp (AP s k d') s k f x)):L6 R s m v (17-(d:Int)) k=some (AP s k d m v):=by
 have h:=Ef hs
 have G:=Dk p
 obtain⟨s1,s2,M,u,O⟩:=Dk p
 have w:m.fields.length<4611686018427387904:=by omega
 have y:v.slots.length<4611686018427387904:=by omega
 have z:v.raws.length<4611686018427387904:=by omega
 dsimp only[L6,cG,fI,bJ,gD,gn,br,wg,lr,lc,Aw,br]
 rw[WN G]
 by_cases c:v.kind≠10∨Bw v=true
 ·have A:AP s k d m v=12:=by cases d<;>(unfold AP;rw[Yi c])
  rw[A]
  by_cases b:v.kind=10
  ·have o:Bw v=true:=c.resolve_left fun e=>e b
   simp[b,o]
  ·simp[b]
 ·have b:v.kind=10:=Decidable.not_not.1 fun e=>c (.inl e)
  have o:Bw v=false:=by
   cases h:Bw v with
   |false=>rfl
   |true=>exact absurd (.inr h) c
  cases d with
  |zero=>
   unfold AP
   rw[Yj c]
   simp[b,o]
  |succ d=>
   have H:(1:Int)≤17-((d+1:Nat):Int)∧17-((d+1:Nat):Int)≤16:=by omega
   have r:¬(16:Int)<17-((d+1:Nat):Int):=by omega
   have I:=Fv (B:=Ni s m v (17-((d+1:Nat):Int)) k R) (N:=Ai) v.slots (EG (Cp (AP s k d) s k) m.fields v.slots) id () (fun i x a _=>by
    have e:=ZsN R (Cp (AP s k d) s k) s m v i x _ k hm u a H fun f l=>by
     have:=E d rfl f x.val (QN p (Yn a))
     rw[show 17-((d+1:Nat):Int)+1=17-(d:Int)by omega]
     exact this
    have g:=BF a
    have j:i+1<9223372036854775808:=by have:=(Yd.1 a).1;omega
    dsimp only[Ni,SV,br,vz,wg,vs,v2,An,ln,Ah,cs,wa,Ag,br]
    simp only[y,g,j,e,Yq,Yv,Yc]
    by_cases hy:EG (Cp (AP s k d) s k) m.fields v.slots i x=0<;>simp[hy]) (by dsimp only[Ni,SV,br,vz,wg,vs,v2,An,ln,Ah,cs,wa,Ag,br];simp[y]) (A9 (by omega))
   have J:=Fv (B:=Ng s m v R) (N:=Ai) m.fields (fun _ f=>HO v.slots f) id () (fun i f l _=>by
    have g:=BF l
    have j:i+1<9223372036854775808:=by have:=(Yd.1 l).1;omega
    have C:m.fields.getD i Rw.z=f:=by rw[Yu,l];rfl
    have D:(0:Int)≤i∧(i:Int)<m.fields.length:=⟨by omega,g⟩
    have e:=Zyy v f.num u
    unfold HO
    dsimp only[Ng,SM,br,ix,A8,vz,wg,vs,An,ln,Ah,Aw,wa,Ag,br]
    simp only[w,g,j,C,D,l,e,Y7,Yq,Yv,Yc,CP,Dl,Ej,YE]
    by_cases F:f.card=1<;>cases CH v.slots f.num<;>simp[F]) (by dsimp only[Ng,SM,br,ix,A8,vz,wg,vs,An,ln,Ah,Aw,wa,Ag,br];simp[w]) (A9 (by omega))
   have K:=Fv (B:=MV s m v R) (N:=Ai) v.raws (fun _ x=>EN s m.fields x) id () (fun i x a _=>by
    have g:=BF a
    have j:i+1<9223372036854775808:=by have:=(Yd.1 a).1;omega
    have e:=ZzV hs m x hm (b8 p (Yn a))
    dsimp only[MV,ZD,br,ix,vz,wg,vs,An,ln,Ah,cl,wa,Ag,br]
    simp only[z,g,j,a,e,Yq,Yv,Yc]
    by_cases hy:EN s m.fields x=0<;>simp[hy]) (by dsimp only[MV,ZD,br,ix,vz,wg,vs,An,ln,Ah,cl,wa,Ag,br];simp[z]) (A9 (by omega))
   unfold AP
   rw[Yj c]
   simp only[b,o,r,I,J,K,Yq,YG,YR,YW,Js,Yp,Hc,Ej,YE,Yv,YL,Yc]
   by_cases n:B1 (EG (Cp (AP s k d) s k) m.fields v.slots) v.slots 0=0
   ·by_cases q:B1 (fun _ f=>HO v.slots f) m.fields 0=0
    ·by_cases t:B1 (fun _ x=>EN s m.fields x) v.raws 0=0
     ·simp[n,q,t]
     ·simp[n,q,t]
    ·simp[n,q]
   ·simp[n]
theorem vd(R:QV){s:Scm}(hs:Ap (Ak s)≤1048576)(t:Typ)(v:Val)(d:Nat)(p:d≤16)(k:Bool)(l:A6 v)(o:∀d':Nat,d=d'+1→∀(f:Fld) (x:Val),A6 x→R s f x (17-(d':Int)) k=some (Cp (AP s k d') s k f x)):J0 R s t v (17-(d:Int)) k=some (Ce (AP s k d) s t v):=by
 have h:=Ef hs
 have hm:=nV R hs (BV s t.name).1 v d p k (P9 h _) l o
 have n:v.bits<9223372036854775808→L8 (BC s t.name).1 v.bits=_:=fun i=>ql _ _ (P5 h _) (n8 hs _) i
 have m:L5 s t.name=some (BV s t.name):=uv s _ h.ml
 dsimp only[J0,eS,br,wg,lr,cl,Aw,cs,br]
 rw[m,hH _ (Dk l),tz s _ h.el]
 simp only[Yc]
 unfold Ce
 by_cases c:t.kind=10
 ·simp only[c,Yq,Yv,hm,Yc]
  cases(BV s t.name).2<;>simp
 ·by_cases e:t.kind<1∨9<t.kind
  ·have g:(decide (t.kind<1)||decide (9<t.kind))=true:=by simpa using e
   simp only[c,e,g,YG,Yp,YL,Yv]
  ·have g:(decide (t.kind<1)||decide (9<t.kind))=false:=by
    rw[F2,YC,YC]
    omega
   simp only[c,e,g,YG,Yp,YL]
   by_cases a:Cb t.kind v=0∧t.kind=9
   ·obtain⟨a,b⟩:=a
    have i:v.bits<9223372036854775808:=by
     rw[b]at a
     unfold Cb at a
     by_cases a1:v.kind≠9∨Bw v=true
     ·rw[Yi a1]at a;cases a
     ·rw[Yj a1]at a
      by_cases j:4096<v.text.size
      ·rw[Yi j]at a;cases a
      ·rw[Yj j]at a
       cases a3:D7 9 v with
       |false=>rw[a3]at a;simp at a
       |true=>
        unfold D7 at a3
        simp only[Yb]at a3
        have a4:=a3.2
        rw[Yj (by decide)]at a4
        simp only[Yb]at a4
        have a5:=a4.2
        unfold Gs at a5
        rw[Yj (by decide),Yj (by decide),Yj (by decide),Yi rfl,Yr]at a5
        omega
    rw[n i,a,b]
    cases(BC s t.name).2<;>cases(BC s t.name).1.opn<;>cases EP (BC s t.name).1 v.bits<;>simp
   ·have b:((!decide (Cb t.kind v=0))||!decide (t.kind=9))=true:=by
     simp only[Yt,YF,YC]
     omega
    rw[Yi b,Yi (by omega)]
theorem ZyT(R:QV){s:Scm}(hs:Ap (Ak s)≤1048576)(f:Fld)(v:Val)(d:Nat)(T:d≤16)(k:Bool)(u:A6 v)(S:∀d':Nat,d=d'+1→∀(f:Fld) (x:Val),A6 x→R s f x (17-(d':Int)) k=some (Cp (AP s k d') s k f x)):QX R s f v (17-(d:Int)) k=some (Cp (AP s k d) s k f v):=by
 have h:=Ef hs
 have m:=Dk u
 obtain⟨s1,s2,Z,s4,s5⟩:=Dk u
 have H:v.list.length<4611686018427387904:=by omega
 have w2:v.pairs.length<4611686018427387904:=by omega
 have A:=fun(x:Val) (l:A6 x)=>vd R hs f.type x d T k l S
 generalize 17-(d:Int)=C at A
 have V:=Fv (B:=MM s f v C k R) (N:=Ai) v.list (fun _ x=>Ce (AP s k d) s f.type x) id () (fun i x l _=>by
  have y:=BF l
  have g:i+1<9223372036854775808:=by have:=(Yd.1 l).1;omega
  have e:=A x (Q3 u (Yn l))
  dsimp only[MM,Xz,br,ix,vz,wg,vs,v2,An,ln,Ah,cs,wa,Ag,br]
  simp only[H,y,g,l,e,Yq,Yv,Yc]
  by_cases hy:Ce (AP s k d) s f.type x=0<;>simp[hy]) (by dsimp only[MM,Xz,br,ix,vz,wg,vs,v2,An,ln,Ah,cs,wa,Ag,br];simp[H]) (A9 (by omega))
 have X:∀(i:Nat) (p:Pr),v.pairs[i]?=some p→Al (IE s f v C k R i) Ai 0=some (if k=true∧((v.pairs.take i).any fun q=>Gv q.key p.key)=true then .inr 9 else .inl ()):=fun i p c=>by
  have hi:=(Yd.1 c).1
  have G:(v.pairs.take i).length=i:=by rw[YO];omega
  cases k with
  |false=>
   obtain⟨Y,E⟩:∃b,Ai=b+1:=⟨Ai-1,by have:=A9 (n:=20) (by omega);omega⟩
   rw[E,Al]
   dsimp only[IE,Qq,br,ix,A8,wg,vs,An,ln,Ah,wa,br]
   simp
  |true=>
   have q:=PL (B:=IE s f v C true R i) (N:=Ai) (v.pairs.take i) (fun q=>Gv q.key p.key) (9:Int) () (fun j z m=>by
    have U:j<i∧v.pairs[j]?=some z:=by
     rw[YY]at m
     split at m
     ·exact⟨by assumption,m⟩
     ·cases m
    obtain⟨y,g⟩:=U
    have K:(j:Int)<i:=by omega
    have L:j+1<9223372036854775808:=by omega
    have M:v.pairs.getD j Rw.z=z:=by rw[Yu,g];rfl
    have O:v.pairs.getD i Rw.z=p:=by rw[Yu,c];rfl
    have P:(0:Int)≤j∧(j:Int)<v.pairs.length:=by omega
    have Q:(0:Int)≤i∧(i:Int)<v.pairs.length:=by omega
    unfold Gv
    dsimp only[IE,Qq,br,ix,A8,wg,vs,An,ln,Ah,wa,br]
    simp only[g,K,L,M,O,P,Q,c,Y7,Yq,Ic,Yv,Yc,CP,Dl]
    cases decide (z.key.bits=p.key.bits)&&decide (z.key.text=p.key.text)<;>simp) (by rw[G];dsimp only[IE,Qq,br,ix,A8,wg,vs,An,ln,Ah,wa,br];simp) (by rw[G];exact A9 (by omega))
   rw[q]
   simp
 have W:=Fv (B:=MQ s f v C k R) (N:=Ai) v.pairs (GP (Ce (AP s k d) s f.type) f.key k v.pairs) id () (fun i p c _=>by
  have y:=BF c
  have g:i+1<9223372036854775808:=by have:=(Yd.1 c).1;omega
  have F:=MS u (Yn c)
  have I:=hH f.key (Dk F.1)
  have J:=A p.val F.2
  unfold GP
  dsimp only[MQ,WQ,XR,XW,XO,X8,br,ix,vz,wg,vs,An,ln,Ah,lc,cl,cs,wa,Ag,br]
  simp only[w2,y,g,c,I,J,X i p c,Yq,Yv,Yc]
  by_cases w:Cb f.key p.key=0
  ·by_cases o:k=true∧((v.pairs.take i).any fun q=>Gv q.key p.key)=true
   ·simp[w,o]
   ·by_cases D:Ce (AP s k d) s f.type p.val=0
    ·rw[Yj o]
     simp only[w,o,D]
     simp
    ·rw[Yj o]
     simp only[w,o,D]
     simp[D]
  ·simp[w]) (by dsimp only[MQ,WQ,XR,XW,XO,X8,br,ix,vz,wg,vs,An,ln,Ah,lc,cl,cs,wa,Ag,br];simp[w2]) (A9 (by omega))
 have e0:=A v u
 unfold Cp
 dsimp only[QX,n1,oe,oJ,qG,oq,tU,oA,oc,tn,nS,o0,ox,br,wg,lr,lc,Aw,cs,br]
 rw[WN m,V,W,e0]
 by_cases r:f.card=4
 ·by_cases a:v.kind=11
  ·cases Bw v with
   |true=>simp[r,a]
   |false=>
    by_cases c6:B1 (fun _ x=>Ce (AP s k d) s f.type x) v.list 0=0
    ·simp[r,a,c6]
    ·simp[r,a,c6]
  ·simp[r,a]
 ·by_cases t:f.card=5
  ·by_cases a:v.kind=12
   ·cases Bw v with
    |true=>simp[t,a]
    |false=>
     by_cases c6:B1 (GP (Ce (AP s k d) s f.type) f.key k v.pairs) v.pairs 0=0
     ·simp[t,a,c6]
     ·simp[t,a,c6]
   ·simp[t,a]
  ·simp[r,t]
theorem nE{s:Scm}(hs:Ap (Ak s)≤1048576)(k:Bool):∀(a d:Nat),d<a→d≤16→∀(f:Fld) (v:Val),A6 v→Hh a s f v (17-(d:Int)) k=some (Cp (AP s k d) s k f v)
 |0,d,b,_,_,_,_=>absurd b (Ih _)
 |a+1,d,b,c,f,v,h=>ZyT (Hh a) hs f v d c k h fun d' e g x i=>nE hs k a d' (by omega) (by omega) g x i
theorem bl:20<Ai:=A9 (by omega)
theorem Zto{s:Scm}(hs:Ap (Ak s)≤1048576)(m:Msg)(v:Val)(k:Bool)(hm:m.fields.length≤1048576)(a:A6 v):L6 (Hh Ai) s m v 1 k=some (AP s k 16 m v):=
 nV (Hh Ai) hs m v 16 (Yh _) k hm a fun d' e f x b=>nE hs k Ai d' (by have:=bl;omega) (by omega) f x b
end Go.Proofs.YtopncadjpnkjhaaGreatDoor
namespace Go.Proofs.YtopncadjpnkjhaaGreatDoor
set_option linter.all false
open Go Go.Eng
mutual
theorem ME:∀v:Val,cnt v≤2*Ap (AF v)+1
 |.mk k b t l p s r=>by
  have a:=oK l
  have c:=ow p
  have d:=ob s
  have f:=B9 (e:=A4) r
  simp only[cnt,AF,Ap,bk]
  omega
theorem oK:∀l:List Val,AM l≤2*Bp (KE l)
 |[]=>by simp[AM]
 |v::l=>by
  have a:=ME v
  have b:=oK l
  simp only[AM,KE,Bp]
  omega
theorem Zrv:∀p:Pr,KQ p≤2*Ap (Ay p)+2
 |.mk k v=>by
  have a:=ME k
  have b:=ME v
  simp only[KQ,Ay,MC]
  omega
theorem ow:∀l:List Pr,Bf l≤2*Bp (JM l)
 |[]=>by simp[Bf]
 |v::l=>by
  have a:=Zrv v
  have b:=ow l
  simp only[Bf,JM,Bp]
  omega
theorem ZsD:∀x:Slt,KP x≤2*Ap (At x)+1
 |.mk n v=>by
  have a:=ME v
  simp only[KP,At,Ap,bk]
  omega
theorem ob:∀l:List Slt,Bz l≤2*Bp (KH l)
 |[]=>by simp[Bz]
 |v::l=>by
  have a:=ZsD v
  have b:=ob l
  simp only[Bz,KH,Bp]
  omega
end
theorem X1(v:Val):cnt v=1+v.raws.length+AM v.list+Bf v.pairs+Bz v.slots:=by cases v;simp only[cnt,Val.raws,Val.list,Val.pairs,Val.slots]
theorem WF(p:Pr):KQ p=cnt p.key+cnt p.val:=by cases p;simp only[KQ,Pr.key,Pr.val]
theorem WE(x:Slt):KP x=cnt x.val:=by cases x;simp only[KP,Slt.val]
theorem Hn:∀a b:List Val,AM (a++b)=AM a+AM b
 |[],b=>by simp[AM]
 |x::a,b=>by rw[G5,AM,AM,Hn a b];omega
theorem P0:∀a b:List Pr,Bf (a++b)=Bf a+Bf b
 |[],b=>by simp[Bf]
 |x::a,b=>by rw[G5,Bf,Bf,P0 a b];omega
theorem PQ:∀a b:List Slt,Bz (a++b)=Bz a+Bz b
 |[],b=>by simp[Bz]
 |x::a,b=>by rw[G5,Bz,Bz,PQ a b];omega
theorem qn{v:Val}(h:A6 v):cnt v≤2097153:=by
 have:=ME v
 rw[Gb]at this
 have h:Ap (Ae v)≤1048576:=h
 omega
theorem ZoE(l:List Val)(i:Nat):AM (l.take i)≤AM l:=by
 conv=>rhs;rw[←Hd i l,Hn]
 omega
theorem ZoH(l:List Pr)(i:Nat):Bf (l.take i)≤Bf l:=by
 conv=>rhs;rw[←Hd i l,P0]
 omega
theorem Zo3(l:List Slt)(i:Nat):Bz (l.take i)≤Bz l:=by
 conv=>rhs;rw[←Hd i l,PQ]
 omega
theorem nM{l:List Val}{i:Nat}{x:Val}(h:l[i]?=some x):AM (l.take i)+cnt x≤AM l:=by
 obtain⟨a,rfl⟩:=Yd.1 h
 have:=ZoE l (i+1)
 rw[YZ a,Hn,AM,AM]at this
 omega
theorem ZtF{l:List Pr}{i:Nat}{x:Pr}(h:l[i]?=some x):Bf (l.take i)+KQ x≤Bf l:=by
 obtain⟨a,rfl⟩:=Yd.1 h
 have:=ZoH l (i+1)
 rw[YZ a,P0,Bf,Bf]at this
 omega
theorem Zsz{l:List Slt}{i:Nat}{x:Slt}(h:l[i]?=some x):Bz (l.take i)+KP x≤Bz l:=by
 obtain⟨a,rfl⟩:=Yd.1 h
 have:=Zo3 l (i+1)
 rw[YZ a,PQ,Bz,Bz]at this
 omega
theorem My:∀(j:Nat) (v:Val),Ap (Ae v)<j→A6 v→Hg j v=some (cnt v:Int)
 |0,v,h,_=>by omega
 |j+1,v,h,k=>by
  obtain⟨s1,s2,E,F,G⟩:=Dk k
  have z:=qn k
  rw[X1]at z
  have r:v.list.length<4611686018427387904:=by omega
  have s:v.pairs.length<4611686018427387904:=by omega
  have t:v.slots.length<4611686018427387904:=by omega
  have A:v.raws.length<4611686018427387904:=by omega
  have C:1+v.raws.length<9223372036854775808:=by omega
  have u:=Ka (B:=M1 v (Hg j)) (N:=Ai) (ρ:=Int) v.list (fun p=>((1+v.raws.length+AM p:Nat):Int)) (fun i b=>(b,i)) id (fun i x d=>by
   have l:=BF d
   have m:i+1<9223372036854775808:=by have:=(Yd.1 d).1;omega
   have hm:=Yn d
   have e:=My j x (by have:=fE hm;omega) (Q3 k hm)
   have n:=nM d
   have f:((1+v.raws.length+AM (v.list.take i):Nat):Int)+(cnt x:Int)=((1+v.raws.length+AM (v.list.take i++[x]):Nat):Int):=by
    rw[Hn,AM,AM]
    omega
   have g: -9223372036854775808≤((1+v.raws.length+AM (v.list.take i):Nat):Int)+(cnt x:Int)∧((1+v.raws.length+AM (v.list.take i):Nat):Int)+(cnt x:Int)<9223372036854775808:=by omega
   generalize ((1+v.raws.length+AM (v.list.take i):Nat):Int)=a at f g⊢
   generalize ((1+v.raws.length+AM (v.list.take i++[x]):Nat):Int)=b at f⊢
   generalize (cnt x:Int)=c at e f g
   dsimp only[M1,S9,br,ix,vz,wg,vs,v2,ln,Ah,cs,wa,wi,Ag,br]
   simp only[r,l,d,Yq,Yv,Yc]
   rw[e,Yc,Yi g,Yi m,f]) (by dsimp only[M1,S9,br,ix,vz,wg,vs,v2,ln,Ah,cs,wa,wi,Ag,br];simp[r]) (A9 (by omega))
  have w:=Ka (B:=Nh v (Hg j)) (N:=Ai) (ρ:=Int) v.pairs (fun p=>((1+v.raws.length+AM v.list+Bf p:Nat):Int)) (fun i b=>(b,i)) id (fun i x d=>by
   have l:=BF d
   have m:i+1<9223372036854775808:=by have:=(Yd.1 d).1;omega
   have hm:=Yn d
   have e:=My j x.key (by have:=(SP hm).1;omega) (MS k hm).1
   have q:=My j x.val (by have:=(SP hm).2;omega) (MS k hm).2
   have n:=ZtF d
   rw[WF]at n
   have f:((1+v.raws.length+AM v.list+Bf (v.pairs.take i):Nat):Int)+((cnt x.key:Int)+(cnt x.val:Int))=((1+v.raws.length+AM v.list+Bf (v.pairs.take i++[x]):Nat):Int):=by
    rw[P0,Bf,Bf,WF]
    omega
   have g: -9223372036854775808≤((1+v.raws.length+AM v.list+Bf (v.pairs.take i):Nat):Int)+((cnt x.key:Int)+(cnt x.val:Int))∧((1+v.raws.length+AM v.list+Bf (v.pairs.take i):Nat):Int)+((cnt x.key:Int)+(cnt x.val:Int))<9223372036854775808:=by omega
   have o: -9223372036854775808≤(cnt x.key:Int)+(cnt x.val:Int)∧(cnt x.key:Int)+(cnt x.val:Int)<9223372036854775808:=by omega
   generalize ((1+v.raws.length+AM v.list+Bf (v.pairs.take i):Nat):Int)=a at f g⊢
   generalize ((1+v.raws.length+AM v.list+Bf (v.pairs.take i++[x]):Nat):Int)=b at f⊢
   generalize (cnt x.key:Int)=c at e f g o
   generalize (cnt x.val:Int)=D at q f g o
   dsimp only[Nh,S4,br,ix,vz,wg,vs,ln,Ah,cs,wa,wi,Ag,br]
   simp only[s,l,d,Yq,Yv,Yc]
   rw[e,Yc,q,Yc,Yi o,Yi g,Yi m,f]) (by dsimp only[Nh,S4,br,ix,vz,wg,vs,ln,Ah,cs,wa,wi,Ag,br];simp[s]) (A9 (by omega))
  have y:=Ka (B:=MX v (Hg j)) (N:=Ai) (ρ:=Int) v.slots (fun p=>((1+v.raws.length+AM v.list+Bf v.pairs+Bz p:Nat):Int)) (fun i b=>(b,i)) id (fun i x d=>by
   have l:=BF d
   have m:i+1<9223372036854775808:=by have:=(Yd.1 d).1;omega
   have hm:=Yn d
   have e:=My j x.val (by have:=bV hm;omega) (QN k hm)
   have n:=Zsz d
   rw[WE]at n
   have f:((1+v.raws.length+AM v.list+Bf v.pairs+Bz (v.slots.take i):Nat):Int)+(cnt x.val:Int)=((1+v.raws.length+AM v.list+Bf v.pairs+Bz (v.slots.take i++[x]):Nat):Int):=by
    rw[PQ,Bz,Bz,WE]
    omega
   have g: -9223372036854775808≤((1+v.raws.length+AM v.list+Bf v.pairs+Bz (v.slots.take i):Nat):Int)+(cnt x.val:Int)∧((1+v.raws.length+AM v.list+Bf v.pairs+Bz (v.slots.take i):Nat):Int)+(cnt x.val:Int)<9223372036854775808:=by omega
   generalize ((1+v.raws.length+AM v.list+Bf v.pairs+Bz (v.slots.take i):Nat):Int)=a at f g⊢
   generalize ((1+v.raws.length+AM v.list+Bf v.pairs+Bz (v.slots.take i++[x]):Nat):Int)=b at f⊢
   generalize (cnt x.val:Int)=c at e f g
   dsimp only[MX,SI,br,ix,vz,wg,vs,ln,Ah,cs,wa,wi,Ag,br]
   simp only[t,l,d,Yq,Yv,Yc]
   rw[e,Yc,Yi g,Yi m,f]) (by dsimp only[MX,SI,br,ix,vz,wg,vs,ln,Ah,cs,wa,wi,Ag,br];simp[t]) (A9 (by omega))
  simp only[AM,Bf,Bz,DX,id]at u w y
  show N6 (Hg j) v=_
  dsimp only[N6,hP,da,fK,fs,fb,vz,wg,vs,lr,lc,wa,Ag]
  simp only[A,C,Yv,u,w,y,Yc,NV]
  rw[X1]
theorem ZyB{s:Scm}(hs:Ap (Ak s)≤1048576)(k:Bool)(n:ByteArray)(v:Val)(b:A6 v):U2 s n v k=some (LZ s k n v):=by
 have h:=Ef hs
 have e:L5 s n=some (BV s n):=uv s _ h.ml
 have f:=Zto hs (BV s n).1 v k (P9 h _) b
 have g:=My Ai v (by have i:Ap (Ae v)≤1048576:=b;exact A9 (by omega)) b
 unfold LZ
 dsimp only[U2,bu,br,wg,lr,cl,br]
 rw[e,Yc,f,g]
 cases(BV s n).2 with
 |false=>simp
 |true=>
  by_cases c:AP s k 16 (BV s n).1 v=0
  ·by_cases d:4096<cnt v
   ·have a:(4096:Int)<cnt v:=by omega
    simp[c,d,a]
   ·have a:¬(4096:Int)<cnt v:=by omega
    simp[c,d,a]
  ·simp[c]
theorem u2{s:Scm}(hs:Ap (Ak s)≤1048576)(n:ByteArray)(v:Val)(a:A6 v):UO s n v=some (LZ s true n v):=by
 dsimp only[UO,kI,wg,lr,cl]
 rw[ZyB hs true n v a]
 rfl
def De(v:Val):List Val:=v.list++v.pairs.flatMap (fun p=>[p.key,p.val])++v.slots.map fun x=>x.val
theorem QB(l:List Pr):(l.flatMap fun p=>[p.key,p.val]).length=2*l.length:=by
 induction l with
 |nil=>rfl
 |cons p l a=>rw[List.flatMap_cons,Yw,a];simp;omega
theorem Zzr(l:List Pr):AM (l.flatMap fun p=>[p.key,p.val])=Bf l:=by
 induction l with
 |nil=>rfl
 |cons p l a=>rw[List.flatMap_cons,Hn,a,Bf,WF,AM,AM,AM];omega
theorem uT(l:List Slt):AM (l.map fun x=>x.val)=Bz l:=by
 induction l with
 |nil=>rfl
 |cons p l a=>rw[Y4,AM,a,Bz,WE]
theorem nC(v:Val):1+v.raws.length+AM (De v)=cnt v:=by
 unfold De
 rw[Hn,Hn,Zzr,uT,X1]
 omega
theorem Ztd{v x:Val}(e:A6 v)(g:x∈De v):A6 x∧Ap (Ae x)+1≤Ap (Ae v):=by
 unfold De at g
 rcases Ji.1 g with d|d
 ·rcases Ji.1 d with c|c
  ·exact⟨Q3 e c,by have:=fE c;omega⟩
  ·obtain⟨p,a,b⟩:=List.mem_flatMap.1 c
   have h:=SP a
   have f:=MS e a
   rcases YK.1 b with rfl|b
   ·exact⟨f.1,by omega⟩
   ·rcases YK.1 b with rfl|b
    ·exact⟨f.2,by omega⟩
    ·cases b
 ·obtain⟨y,a,rfl⟩:=YU.1 d
  exact⟨QN e a,by have:=bV a;omega⟩
theorem ZsQ(l:List Val)(h:l.length<549755813888):Pt l=some l:=by
 cases l with
 |nil=>rfl
 |cons x r=>
  dsimp only[Pt,pW,al,br,vw,lr,a0,mv,br]
  simp only[EU]at h
  simp
  omega
theorem Zz6{v:Val}(h:SzV v):VG v=some (De v):=by
 obtain⟨t1,t2,t3,t4,t5⟩:=h
 have e:=Ka (B:=Nj v) (N:=Ai) (ρ:=List Val) v.pairs (fun p=>v.list++p.flatMap fun p=>[p.key,p.val]) (fun i b=>(b,i)) id (fun i y hy=>by
  have a:=BF hy
  have g:=(Yd.1 hy).1
  have c:i+1<9223372036854775808:=by omega
  have d:(v.list++(v.pairs.take i).flatMap fun p=>[p.key,p.val]).length<549755813800:=by
   rw[Yw,QB,YO]
   omega
  rw[List.flatMap_append,←Ek]
  generalize (v.list++(v.pairs.take i).flatMap fun p=>[p.key,p.val])=L at d⊢
  dsimp only[Nj,Zo,br,ix,vz,vw,wg,vs,ln,Ah,ZE,wa,fl,br]
  simp[a,hy,c]<;>omega) (by
   have:(v.list++v.pairs.flatMap fun p=>[p.key,p.val]).length<549755813800:=by
    rw[Yw,QB]
    omega
   dsimp only[Nj,Zo,br,ix,vz,vw,wg,vs,ln,Ah,ZE,wa,fl,br]
   simp) (A9 (by omega))
 have f:=Ka (B:=Nf v) (N:=Ai) (ρ:=List Val) v.slots (fun p=>(v.list++v.pairs.flatMap fun p=>[p.key,p.val])++p.map fun x=>x.val) (fun i b=>(b,i)) id (fun i y hy=>by
  have a:=BF hy
  have g:=(Yd.1 hy).1
  have c:i+1<9223372036854775808:=by omega
  have d:((v.list++v.pairs.flatMap fun p=>[p.key,p.val])++(v.slots.take i).map fun x=>x.val).length<549755813800:=by
   rw[Yw,Yw,QB,YD,YO]
   omega
  rw[Jj,←Ek]
  generalize ((v.list++v.pairs.flatMap fun p=>[p.key,p.val])++(v.slots.take i).map fun x=>x.val)=L at d⊢
  dsimp only[Nf,S3,br,ix,vz,vw,wg,vs,ln,Ah,ap,wa,fl,br]
  simp[a,hy,c]<;>omega) (by
   dsimp only[Nf,S3,br,ix,vz,vw,wg,vs,ln,Ah,ap,wa,fl,br]
   simp) (A9 (by omega))
 rw[show(v.list++([]:List Pr).flatMap fun p=>[p.key,p.val])=v.list by simp]at e
 rw[show((v.list++v.pairs.flatMap fun p=>[p.key,p.val])++([]:List Slt).map fun x=>x.val)=(v.list++v.pairs.flatMap fun p=>[p.key,p.val])by simp]at f
 dsimp only[VG,fX,cU,bM,cP,ec,gU,vz,wg,lr,lc,fl,fr,Ag]
 rw[ZsQ _ (by omega)]
 simp only[Yc,e,f,id,NV]
 rfl
theorem Zsm{v:Val}(h:SzV v):(De v).length≤4194304:=by
 obtain⟨t1,t2,t3,t4,t5⟩:=h
 unfold De
 rw[Yw,Yw,QB,YD]
 omega
theorem tB:∀(d:Nat) (v:Val),Ap (Ae v)<d→A6 v→J6 d v=some (cnt v:Int)
 |0,v,h,_=>by omega
 |d+1,v,h,k=>by
  have l:=Dk k
  have w:=l.r
  have hl:=Zsm l
  have q:=qn k
  rw[←nC]at q
  have r:v.raws.length<4611686018427387904:=by omega
  have s:1+v.raws.length<9223372036854775808:=by omega
  have t:(De v).length<4611686018427387904:=by omega
  have m:=Ka (B:=Nc (J6 d) (De v)) (N:=Ai) (ρ:=Int) (De v) (fun p=>((1+v.raws.length+AM p:Nat):Int)) (fun i b=>(b,i)) id (fun i x f=>by
   have n:=BF f
   have o:i+1<9223372036854775808:=by have:=(Yd.1 f).1;omega
   have hm:=Ztd k (Yn f)
   have e:=tB d x (by omega) hm.1
   have u:=nM f
   have g:((1+v.raws.length+AM ((De v).take i):Nat):Int)+(cnt x:Int)=((1+v.raws.length+AM ((De v).take i++[x]):Nat):Int):=by
    rw[Hn,AM,AM]
    omega
   have j: -9223372036854775808≤((1+v.raws.length+AM ((De v).take i):Nat):Int)+(cnt x:Int)∧((1+v.raws.length+AM ((De v).take i):Nat):Int)+(cnt x:Int)<9223372036854775808:=by omega
   generalize ((1+v.raws.length+AM ((De v).take i):Nat):Int)=a at g j⊢
   generalize ((1+v.raws.length+AM ((De v).take i++[x]):Nat):Int)=b at g⊢
   generalize (cnt x:Int)=c at e g j
   dsimp only[Nc,SO,br,ix,wg,vs,v2,ln,Ah,cs,wa,wi,br]
   simp only[n,f,Yq,Yv,Yc]
   rw[e,Yc,Yi j,Yi o,g]) (by dsimp only[Nc,SO,br,ix,wg,vs,v2,ln,Ah,cs,wa,wi,br];simp) (A9 (by omega))
  simp only[AM,DX,id]at m
  show OM (J6 d) v=_
  dsimp only[OM,iQ,dv,ia,vz,wg,vs,lr,lc,cl,wa,Ag]
  rw[Zz6 l]
  simp only[r,s,t,Yv,m,Yc,NV]
  rw[nC]
theorem XV{l:List Fld}(h:Dp l l.length):∀(d i:Nat) (a b:Fld),l[i]?=some a→l[i+1+d]?=some b→a.num<b.num
 |0,i,a,b,e,c=>h i a b (Yd.1 c).1 e c
 |d+1,i,a,b,e,c=>by
  have g:=(Yd.1 c).1
  have f:i+1+d<l.length:=by omega
  have j:=XV h d i a l[i+1+d] e (Ye f)
  have k:=h (i+1+d) l[i+1+d] b (by omega) (Ye f) c
  omega
theorem yb{l:List Fld}(h:Dp l l.length){i:Nat}{f:Fld}(a:l[i]?=some f):∀g∈l.take i,g.num≠f.num:=fun g b=>by
 obtain⟨j,c,rfl⟩:=aY.1 b
 have:=XV h (i-(j+1)) j _ f (Ye (by omega)) (by rw[show j+1+(i-(j+1))=i by omega];exact a)
 omega
def uM(F:List Fld):Prop:=∀f∈F,GY f∧A6 f.dflt
theorem oS(F:List Fld)(k:Int):((BG F k).2=false∧A0 F k=zF)∨((BG F k).2=true∧A0 F k∈F):=by
 unfold A0 BG Cz
 cases e:F.find? fun f=>decide (f.num=k)with
 |none=>exact .inl ⟨rfl,rfl⟩
 |some f=>exact .inr ⟨rfl,Jo e⟩
theorem ZnY{F:List Fld}(h:Dp F F.length){i:Nat}{f:Fld}(a:F[i]?=some f):F=F.take i++f::F.drop (i+1)∧(∀g∈F.take i,g.num≠f.num)∧∀g∈F.drop (i+1),g.num≠f.num:=by
 obtain⟨hi,e⟩:=Yd.1 a
 refine⟨?_,yb h a,fun g c=>?_⟩
 ·rw[←e,List.getElem_cons_drop,Hd]
 ·obtain⟨d,b⟩:=Y2.1 c
  rw[YP]at b
  have:=XV h d i f g a b
  omega
theorem Ko{F:List Fld}(h:Dp F F.length){i:Nat}{f:Fld}(c:F[i]?=some f):BG F f.num=(f,true):=by
 obtain⟨e,b,j⟩:=ZnY h c
 have a:F.find? (fun g=>decide (g.num=f.num))=some f:=by
  rw[e,List.find?_append,List.find?_eq_none.2 fun g d=>by simpa using b g d]
  simp
 unfold BG Cz
 rw[a]
 rfl
theorem u7{s:Scm}(h:∀(i:Nat) (m:Msg),s.messages[i]?=some m→GdM s m)(hs:Ap (Ak s)≤1048576)(n:ByteArray):Dp (GT s n) (GT s n).length∧uM (GT s n)∧(GT s n).length≤1048576:=by
 have hl:=P9 (Ef hs) n
 unfold GT Cz at*
 cases e:s.messages.find? fun m=>decide (m.name=n)with
 |none=>exact⟨fun i a b hi=>by simp[zM]at hi,fun f c=>by simp[zM]at c,by simp[zM]⟩
 |some m=>
  rw[e]at hl
  have hm:=Jo e
  obtain⟨i,hi⟩:=Y2.1 hm
  have g:=h i m hi
  refine⟨g.asc,fun f c=>?_,hl⟩
  obtain⟨j,k⟩:=Y2.1 c
  refine⟨(g.df j f k).1,?_⟩
  have d:=Cs (e:=Au) hm
  have l:=Cs (e:=Am) (show f∈m.fields from c)
  simp only[Ak,Ap,bk]at hs
  simp only[Au,Ap,bk]at d
  have e:Ap (Ae f.dflt)≤Ap (Am f):=by
   simp only[Am,Ae,Ap,bk]
   omega
  show Ap (Ae f.dflt)≤1048576
  omega
structure GdF (s:Scm) (f:Fld):Prop where
 en:f.type.kind=9→(BC s f.type.name).2=true
 ms:f.type.kind=10→(BV s f.type.name).2=true
 ty:1≤f.type.kind∧f.type.kind≤10
 un:f.union≠⟨#[]⟩→f.card=2
 cd:f.card≠5→1≤f.card∧f.card≤4
 np:f.type.kind=10→f.card≠3
 ky:f.card=5→f.key=1∨f.key=2∨f.key=3∨f.key=4∨f.key=5∨f.key=7
structure GdS (s:Scm):Prop where
 fl:∀(n:ByteArray) (f:Fld),f∈GT s n→GdF s f
 asc:∀n:ByteArray,Dp (GT s n) (GT s n).length
theorem TQ{n:Int}{v:Val}(h:Cb n v=0):v.kind=n∧Bw v=false∧v.text.size≤4096∧D7 n v=true:=by
 unfold Cb at h
 by_cases a1:v.kind≠n∨Bw v=true
 ·rw[Yi a1]at h;cases h
 ·rw[Yj a1]at h
  by_cases a:4096<v.text.size
  ·rw[Yi a]at h;cases h
  ·rw[Yj a]at h
   cases a3:D7 n v with
   |false=>
    rw[a3]at h
    rw[Yj (by decide)]at h
    split at h<;>cases h
   |true=>
    refine⟨Decidable.not_not.1 fun e=>a1 (.inl e),?_,by omega,rfl⟩
    cases b:Bw v with
    |false=>rfl
    |true=>exact absurd (.inr b) a1
theorem v6{s:Scm}{t:Typ}{v:Val}{R:Msg→Val→Int}(a:1≤t.kind)(b:t.kind≤9)(he:t.kind=9→(BC s t.name).2=true):JL s t v=Ce R s t v:=by
 unfold JL Ce
 rw[Yj (by omega:¬t.kind=10),Yj (by omega:¬(t.kind<1∨9<t.kind))]
 by_cases c:Cb t.kind v≠0∨t.kind≠9
 ·rw[Yi c,Yi c]
 ·rw[Yj c,Yj c,he (by omega),Yj (by decide:¬true=false)]
theorem wF{n:Int}{a b:Val}(l:n=1∨n=2∨n=3∨n=4∨n=5∨n=7)(j:Cb n a=0)(k:Cb n b=0):RM a b=Gv a b:=by
 obtain⟨a1,h,_,_⟩:=TQ j
 obtain⟨d,i,_,_⟩:=TQ k
 obtain⟨_,a3,a4⟩:=Wx (n:=n) (by omega) (by omega) a1 h
 obtain⟨_,e,f⟩:=Wx (n:=n) (by omega) (by omega) d i
 unfold RM Gv
 rw[a1,d,Y6 rfl,Y1]
 unfold CT at a3 a4 e f
 by_cases c:n=7
 ·rw[a3 (Y6 (.inl c)),e (Y6 (.inl c)),Yi (.inl c)]
  simp
 ·have g:decide (n=7∨n=8)=false:=Eo (by omega)
  rw[a4 g,f g,Yj (by omega),Yj (by omega)]
  simp
theorem Zsl(l:List Pr)(f:Pr→Option Bool)(p:Pr→Bool)(e:∀x∈l,f x=some (p x))(h:l.length≤1048576):L3 l f=some (l.any p):=by
 have g:=DE (B:=MP l f) (N:=Ai) l p (fun i=>(i:Int)) () (fun i x a=>by
  have b:=BF a
  have j:=(Yd.1 a).1
  have c:i+1<9223372036854775808:=by omega
  have d:=e x (Yn a)
  dsimp only[MP,XG,br,ix,vs,An,ln,Ah,cf,wa,br]
  simp only[b,c,d,a,Yq,Yv,Yc]
  cases p x<;>simp) (by simp[MP,XG,br,ix,vs,An,ln,Ah,cf,wa,br]) (A9 (by omega))
 dsimp only[L3,q5,lr,cs,Vc,s9,qd,sb,vz,lr,lc,Ag]
 rw[g,←Jl]
 cases l.findIdx? p with
 |none=>rfl
 |some i=>simp
theorem Ww(l:List Slt)(f:Slt→Option Bool)(p:Slt→Bool)(a:∀x∈l,f x=some (p x))(h:l.length≤1048576):JZ l f=some (l.any p):=by
 dsimp only[JZ,tu,lr,cs]
 rw[n70 l f p a (by omega)]
 simp only[Yc]
 rw[vi]
theorem xh(l:List Slt)(f:Fld)(h:l.length≤1048576):Pw l f=some (CH l f.num):=by
 dsimp only[Pw,n5,lr,cs]
 rw[Ww l (fun z=>Po z f) (fun x=>decide (x.num=f.num)) (fun x _=>rfl) h]
 rfl
theorem xQ(l:List Slt)(f:Fld)(h:l.length≤1048576):Pv l f=some (CH l f.num):=by
 dsimp only[Pv,nX,lr,cs]
 rw[Ww l (fun z=>Pd z f) (fun x=>decide (x.num=f.num)) (fun x _=>rfl) h]
 rfl
theorem wT(l:List Slt)(f:Fld)(h:l.length≤1048576):Px l f=some (CH l f.num):=by
 dsimp only[Px,od,lr,cs]
 rw[Ww l (fun z=>Pg z f) (fun x=>decide (x.num=f.num)) (fun x _=>rfl) h]
 rfl
def FX(F:List Fld)(u:ByteArray):List Fld:=if u=⟨#[]⟩then[]else F.filter fun f=>decide (f.union=u)
theorem ve(m:Msg)(u:ByteArray)(h:m.fields.length≤1048576):VB m u=some (FX m.fields u):=by
 unfold FX
 by_cases c:u=⟨#[]⟩
 ·subst c
  rfl
 ·dsimp only[VB,p4,tL,r9,qU,r5,br,vz,wg,lr,lc,fl,fr,br]
  rw[m58 _ (by omega),Yc,m57 m.fields (fun z=>Ph z u) (fun f=>!decide (f.union=u)) (fun f _=>rfl) (by omega),Yc]
  simp[c]
theorem oh(F:List Fld)(u:ByteArray):(FX F u).length≤F.length:=by
 unfold FX
 split
 ·exact DY _
 ·exact aW _ _
theorem xy{F:List Fld}(h:Dp F F.length){g:Fld}(a:g∈F):BG F g.num=(g,true):=by
 obtain⟨i,hi⟩:=Y2.1 a
 exact Ko h hi
theorem xk{F:List Fld}(h:Dp F F.length)(l:List Slt)(k:Int)(j:CH l k=false)(u:ByteArray):((FX F u).any fun g=>(!decide (g.num=k))&&CH l g.num)=HF F l u:=by
 unfold FX HF
 by_cases c:u=⟨#[]⟩
 ·simp[c]
 ·rw[Yj c,Eo c,YW,Y1,Jk,YT,YT]
  constructor
  ·rintro⟨g,d,a⟩
   obtain⟨m,n⟩:=Jh.1 d
   rw[Yb]at a
   obtain⟨y,o,i⟩:=YT.1 (show(l.any fun x=>decide (x.num=g.num))=true from a.2)
   rw[Yr]at i
   refine⟨y,o,?_⟩
   unfold A0
   rw[i,xy h m]
   exact n
  ·rintro⟨y,d,a⟩
   rw[Yr]at a
   rcases oS F y.num with⟨f,b⟩|⟨f,b⟩
   ·rw[b]at a
    exact absurd a.symm c
   ·have p:=WG f
    refine⟨A0 F y.num,Jh.2 ⟨b,Y6 a⟩,?_⟩
    rw[p,Yb]
    have hy:CH l y.num=true:=YT.2 ⟨y,d,Y6 rfl⟩
    refine⟨?_,hy⟩
    rw[YF,YC]
    intro e
    rw[e]at hy
    rw[hy]at j
    cases j
abbrev KT:=Scm→Fld→Val→Int→Option Int
theorem Zz2(R:KT)(o:Fld→Val→Int)(s:Scm)(m:Msg)(l:List Slt)(i:Nat)(x:Slt)(d:Int)(F:Dp m.fields m.fields.length)(hm:m.fields.length≤1048576)(hl:l.length≤1048576)(n:l[i]?=some x)(E:∀f:Fld,f∈m.fields→R s f x.val d=some (o f x.val)):Pq R s m l i d=some (EG o m.fields l i x):=by
 have hi:=(Yd.1 n).1
 have u:(l.take i).length≤1048576:=by rw[YO];omega
 have w0:(0:Int)≤i∧(i:Int)<l.length:=by omega
 have b:(0:Int)≤i∧(i:Int)≤l.length:=by omega
 have c:i≤l.length:=by omega
 have w:(BG m.fields x.num).1=A0 m.fields x.num:=rfl
 have J:(l.getD i Rw.z)=x:=by rw[Yu,n];rfl
 have I:∀y:Fld×Bool,CH (l.take i) y.1.num=false→Al (Kz s l i d R y (FX m.fields y.1.union)) Ai 0=some (if HF m.fields (l.take i) y.1.union=true then .inr 15 else .inl ()):=fun y hy=>by
  have v:=oh m.fields y.1.union
  have q:=PL (B:=Kz s l i d R y (FX m.fields y.1.union)) (N:=Ai) (FX m.fields y.1.union) (fun g=>(!decide (g.num=y.1.num))&&CH (l.take i) g.num) (15:Int) () (fun j g k=>by
   have C:=BF k
   have D:j+1<9223372036854775808:=by have:=(Yd.1 k).1;omega
   have e:=xQ (l.take i) g u
   dsimp only[Kz,SK,br,ix,wg,vs,An,ln,Ah,DQ,wa,br]
   simp only[C,D,k,b,c,e,Y7,Bd.c,Bd.vl,Sj,G8,Yq,Yv,Yc,CP,Dl,Ej,YE,DY]
   cases(!decide (g.num=y.1.num))&&CH (l.take i) g.num<;>simp) (by dsimp only[Kz,SK,br,ix,wg,vs,An,ln,Ah,DQ,wa,br];simp) (A9 (by omega))
  rw[q,xk F _ _ hy]
 have z:=xh (l.take i) (A0 m.fields x.num) u
 have A:=ve m (A0 m.fields x.num).union hm
 have v:(FX m.fields (A0 m.fields x.num).union).length<4611686018427387904:=by have:=oh m.fields (A0 m.fields x.num).union;omega
 unfold EG
 dsimp only[Pq,iu,Td,eJ,dh,ci,br,CA,vz,vw,wg,lr,lc,cl,cs,sL,du,Ag,br]
 simp only[Y7,n,w0,b,c,J,CP,Yv,uw _ _ hm,Yc,w,Bd.c,Bd.vl,Sj,G8,z,A,v,DY]
 cases r:(BG m.fields x.num).2 with
 |false=>simp
 |true=>
  have t:(A0 m.fields x.num).num=x.num:=WG r
  have a:A0 m.fields x.num∈m.fields:=by
   rcases oS m.fields x.num with⟨h,p⟩|⟨h,p⟩
   ·rw[r]at h;cases h
   ·exact p
  have H:=E _ a
  have q:=I (BG m.fields x.num)
  rw[w,t]at q
  rw[t]
  cases G:CH (l.take i) x.num with
  |true=>simp
  |false=>
   have q:=q G
   simp only[q,YR,Yp,YL,Yc]
   cases HF m.fields (l.take i) (A0 m.fields x.num).union with
   |true=>simp
   |false=>simp[H]
structure GdT (s:Scm) (t:Typ):Prop where
 en:t.kind=9→(BC s t.name).2=true
 ms:t.kind=10→(BV s t.name).2=true
 ty:1≤t.kind∧t.kind≤10
theorem GdF.t{s:Scm}{f:Fld}(h:GdF s f):GdT s f.type:=⟨h.en,h.ms,h.ty⟩
def N7(R:KT)(s:Scm)(d:Nat):Prop:=∀d':Nat,d=d'+1→∀(f:Fld) (x:Val),GdF s f→A6 x→R s f x (16-(d':Int))=some (Cp (AP s true d') s true f x)
theorem wt{s:Scm}(hs:Ap (Ak s)≤1048576)(m:Msg)(x:Raw)(hm:m.fields.length≤1048576)(q:x.data.size≤1048576):VX s m x=some (EN s m.fields x):=by
 have h:=Ef hs
 have o:x.data.size<4611686018427387904:=by omega
 have k:=tK s (A0 m.fields x.num).type.name h.el
 have l:=mS (BC s (A0 m.fields x.num).type.name).1 x.bits (P5 h _)
 have p:(BG m.fields x.num).1=A0 m.fields x.num:=rfl
 have n:VC s (A0 m.fields x.num) x=some (M4 s (A0 m.fields x.num) x):=by
  unfold M4
  dsimp only[VC,o3,wg,lr,cl,Aw]
  rw[k,Yc,l]
  generalize BC s (A0 m.fields x.num).type.name=g
  generalize A0 m.fields x.num=f
  simp only[Ej,Dl,Yv,YE]
  congr 1
  cases g.2<;>cases g.1.opn<;>cases decide (f.type.kind=9)<;>cases decide (f.card=5)<;>cases decide (x.wire=0)<;>cases decide (x.bits<2147483648)<;>cases EP g.1 x.bits<;>rfl
 dsimp only[VX,gI,br,vy,wg,lr,cl,Aw,AR,br]
 rw[uw _ _ hm,Yc,p,n]
 unfold EN
 generalize M4 s (A0 m.fields x.num) x=kp
 have j:(if((decide (x.wire=3)&&decide ((4096:Int)<x.data.size))||decide ((65536:Int)<x.data.size))=true then some (3:Int)else some 0)=some (if(x.wire=3∧4096<x.data.size)∨65536<x.data.size then 3 else 0):=by
  by_cases c:(x.wire=3∧4096<x.data.size)∨65536<x.data.size
  ·rw[Yi c,Yi]
   simp only[Yt,Yb,Yr]
   omega
  ·rw[Yj c,Yj]
   simp only[Yt,Yb,Yr]
   omega
 simp only[o,Dl,Yv,Ej,YE]
 by_cases a:x.num<1∨65535<x.num∨x.wire<0∨6<x.wire
 ·have a1:(((decide (x.num<1)||decide (65535<x.num))||decide (x.wire<0))||decide (6<x.wire))=true:=by
   simp only[Yt,Yr]
   omega
  rw[Yi a1,Yi (by omega)]
 ·have a1:¬(((decide (x.num<1)||decide (65535<x.num))||decide (x.wire<0))||decide (6<x.wire))=true:=by
   simp only[Yt,Yr]
   omega
  rw[Yj a1]
  by_cases b:(x.wire≤2∧x.data≠⟨#[]⟩)∨(2<x.wire∧x.bits≠0)
  ·have d:((decide (x.wire≤2)&&!decide (x.data=⟨#[]⟩))||((!decide (x.wire≤2))&&!decide (x.bits=0)))=true:=by
    by_cases i:x.data=⟨#[]⟩<;>simp only[i,Yq,YG,YR,YW,F0,Ic,F1,Yt,Yb,YF,Yr,YC,ne_eq,Ie,F3,Ei,Hf,Jq]at b⊢<;>omega
   have e:x.num<1∨65535<x.num∨x.wire<0∨6<x.wire∨(x.wire≤2∧x.data≠⟨#[]⟩)∨(2<x.wire∧x.bits≠0):=.inr (.inr (.inr (.inr b)))
   rw[Yi e,d]
   rfl
  ·have d:((decide (x.wire≤2)&&!decide (x.data=⟨#[]⟩))||((!decide (x.wire≤2))&&!decide (x.bits=0)))=false:=by
    by_cases i:x.data=⟨#[]⟩<;>simp only[i,Yq,YG,YR,YW,F0,Ic,F1,F2,He,NZ,Yr,YC,ne_eq,Ie,F3,Ei,Hf,Jq]at b⊢<;>omega
   have e:¬(x.num<1∨65535<x.num∨x.wire<0∨6<x.wire∨(x.wire≤2∧x.data≠⟨#[]⟩)∨(2<x.wire∧x.bits≠0)):=fun h=>by
    rcases h with h|h|h|h|h
    ·exact a (.inl h)
    ·exact a (.inr (.inl h))
    ·exact a (.inr (.inr (.inl h)))
    ·exact a (.inr (.inr (.inr h)))
    ·exact b h
   rw[Yj e,d,j]
   cases(BG m.fields x.num).2<;>cases kp<;>simp
theorem rT(R:KT){s:Scm}(hs:Ap (Ak s)≤1048576)(g:GdS s)(n:ByteArray)(v:Val)(d:Nat)(L:d≤16)(q:A6 v)(C:N7 R s d):Pc R s (BV s n).1 v (17-(d:Int))=some (AP s true d (BV s n).1 v):=by
 have h:=Ef hs
 have hm:(BV s n).1.fields.length≤1048576:=P9 h n
 have y:Dp (BV s n).1.fields (BV s n).1.fields.length:=g.asc n
 have j:∀f∈(BV s n).1.fields,GdF s f:=g.fl n
 generalize (BV s n).1=m at hm y j
 have E:=Dk q
 obtain⟨s1,s2,M,z,O⟩:=Dk q
 have I:m.fields.length<4611686018427387904:=by omega
 have J:v.slots.length<4611686018427387904:=by omega
 have K:v.raws.length<4611686018427387904:=by omega
 dsimp only[Pc,bC,dE,gq,iT,iz,br,vz,wg,lr,lc,Aw,Ag,br]
 rw[XD E]
 by_cases c:v.kind≠10∨Bw v=true
 ·have A:AP s true d m v=12:=by cases d<;>(unfold AP;rw[Yi c])
  rw[A]
  by_cases b:v.kind=10
  ·have p:Bw v=true:=c.resolve_left fun e=>e b
   simp[b,p]
  ·simp[b]
 ·have b:v.kind=10:=Decidable.not_not.1 fun e=>c (.inl e)
  have p:Bw v=false:=by
   cases h:Bw v with
   |false=>rfl
   |true=>exact absurd (.inr h) c
  cases d with
  |zero=>
   unfold AP
   rw[Yj c]
   simp[b,p]
  |succ d=>
   have u:¬(16:Int)<17-((d+1:Nat):Int):=by omega
   have F:=Fv (B:=M6 s m v (17-((d+1:Nat):Int)) R) (N:=Ai) v.slots (EG (Cp (AP s true d) s true) m.fields v.slots) id () (fun i x a _=>by
    have e:=Zz2 R (Cp (AP s true d) s true) s m v.slots i x (17-((d+1:Nat):Int)) y hm z a fun f t=>by
     have:=C d rfl f x.val (j f t) (QN q (Yn a))
     rw[show 17-((d+1:Nat):Int)=16-(d:Int)by omega]
     exact this
    have k:=BF a
    have l:i+1<9223372036854775808:=by have:=(Yd.1 a).1;omega
    dsimp only[M6,SL,br,wg,vs,v2,An,ln,Ah,cs,wa,br]
    simp only[k,l,e,Yq,Yv,Yc]
    by_cases hy:EG (Cp (AP s true d) s true) m.fields v.slots i x=0<;>simp[hy]) (by dsimp only[M6,SL,br,wg,vs,v2,An,ln,Ah,cs,wa,br];simp) (A9 (by omega))
   have G:=Fv (B:=M5 s m v R) (N:=Ai) m.fields (fun _ f=>HO v.slots f) id () (fun i f j _=>by
    have k:=BF j
    have l:i+1<9223372036854775808:=by have:=(Yd.1 j).1;omega
    have e:=wT v.slots f z
    unfold HO
    dsimp only[M5,SG,br,ix,wg,vs,An,ln,Ah,DQ,wa,br]
    simp only[k,l,j,e,Yq,Yv,Yc,Dl,Ej,YE]
    by_cases D:f.card=1<;>cases CH v.slots f.num<;>simp[D]) (by dsimp only[M5,SG,br,ix,wg,vs,An,ln,Ah,DQ,wa,br];simp) (A9 (by omega))
   have H:=Fv (B:=MZ s m v R) (N:=Ai) v.raws (fun _ x=>EN s m.fields x) id () (fun i x a _=>by
    have k:=BF a
    have l:i+1<9223372036854775808:=by have:=(Yd.1 a).1;omega
    have e:=wt hs m x hm (b8 q (Yn a))
    dsimp only[MZ,Zs,br,ix,wg,vs,An,ln,Ah,cl,wa,br]
    simp only[k,l,a,e,Yq,Yv,Yc]
    by_cases hy:EN s m.fields x=0<;>simp[hy]) (by dsimp only[MZ,Zs,br,ix,wg,vs,An,ln,Ah,cl,wa,br];simp) (A9 (by omega))
   unfold AP
   rw[Yj c]
   simp only[b,p,u,I,J,K,F,G,H,Yq,YG,YR,YW,Js,Yp,Hc,Ej,YE,Yv,YL,Yc]
   by_cases o:B1 (EG (Cp (AP s true d) s true) m.fields v.slots) v.slots 0=0
   ·by_cases r:B1 (fun _ f=>HO v.slots f) m.fields 0=0
    ·by_cases w:B1 (fun _ x=>EN s m.fields x) v.raws 0=0
     ·simp[o,r,w]
     ·simp[o,r,w]
    ·simp[o,r]
   ·simp[o]
theorem ue(R:KT){s:Scm}(hs:Ap (Ak s)≤1048576)(g:GdS s)(t:Typ)(a:GdT s t)(v:Val)(d:Nat)(j:d≤16)(b:A6 v)(i:N7 R s d):J7 R s t v (16-(d:Int))=some (Ce (AP s true d) s t v):=by
 have h:=Ef hs
 have e:Mi s t.name=some (BV s t.name):=ux s _ h.ml
 have hm:=rT R hs g t.name v d j b i
 have w: -9223372036854775808≤17-(d:Int)∧17-(d:Int)<9223372036854775808:=by omega
 have wl:16-(d:Int)+1=17-(d:Int):=by omega
 dsimp only[J7,sQ,br,wg,vs,lr,cl,cs,wi,br]
 by_cases c:t.kind=10
 ·have f:=a.ms c
  unfold Ce
  rw[Yi c,Yi f,e]
  simp only[c,Yq,Yv,Yc,w,CP,wl,hm]
 ·rw[tv s t h (Dk b),v6 (R:=AP s true d) a.ty.1 (by have:=a.ty.2;omega) a.en]
  simp only[c,YG,Yp,YL,Yc]
theorem xO(R:KT){s:Scm}(hs:Ap (Ak s)≤1048576)(g:GdS s)(f:Fld)(C:GdF s f)(H:f.card=5)(l:List Pr)(hl:l.length≤1048576)(A:∀p∈l,A6 p.key∧A6 p.val)(d:Nat)(J:d≤16)(I:N7 R s d):Pn R s f l (16-(d:Int))=some (B1 (GP (Ce (AP s true d) s f.type) f.key true l) l 0):=by
 have h:=Ef hs
 have y:=fun(x:Val) (L:A6 x)=>ue R hs g f.type C.t x d J L I
 have K:=C.ky H
 have w2:l.length<4611686018427387904:=by omega
 generalize 16-(d:Int)=O at y
 have P:=Fv (B:=Km s f l O R) (N:=Ai) l (GP (Ce (AP s true d) s f.type) f.key true l) id () (fun i p a G=>by
  have v:=BF a
  have hi:=(Yd.1 a).1
  have w:i+1<9223372036854775808:=by omega
  have F:i≤l.length:=by omega
  have Dv:=A p (Yn a)
  have t:=tv s (.mk f.key ⟨#[]⟩) h (Dk Dv.1)
  have u:JL s (.mk f.key ⟨#[]⟩) p.key=Cb f.key p.key:=by
   unfold JL
   rw[Yi (.inr (show f.key≠9 by omega))]
  rw[u]at t
  have D:=y p.val Dv.2
  have M:∀q∈l.take i,Cb f.key q.key=0:=fun q m=>by
   obtain⟨j,k⟩:=Y2.1 m
   rw[YY]at k
   split at k
   ·have:=G j q (by assumption) k
    unfold GP at this
    by_cases c:Cb f.key q.key=0
    ·exact c
    ·rw[Yi c]at this
     exact absurd this c
   ·cases k
  unfold GP
  by_cases n:Cb f.key p.key=0
  ·have E:L3 (l.take i) (fun z=>Mc z p)=some ((l.take i).any fun q=>Gv q.key p.key):=Zsl _ _ _ (fun q m=>by
    have b:=M q m
    have kd:=(TQ b).1
    have e:=ZQR (d:=q.key) (x:=p.key) (by rw[kd];omega) (A q (SC m)).1 Dv.1
    rw[wF K b n]at e
    dsimp only[Mc,o6,wg,lr,cl]
    rw[e]
    rfl) (by rw[YO];omega)
   dsimp only[Km,QG,br,ix,wg,vs,An,ln,Ah,cl,cs,wa,sL,br]
   simp only[v,w,F,a,t,D,E,n,Bd.c,Bd.vl,Sj,G8,Yq,Yv,Yc,CP,DY]
   by_cases o:((l.take i).any fun q=>Gv q.key p.key)=true
   ·simp[o]
   ·by_cases r:Ce (AP s true d) s f.type p.val=0
    ·simp only[o,r]
     simp
    ·simp only[o,r]
     simp[r]
  ·dsimp only[Km,QG,br,ix,wg,vs,An,ln,Ah,cl,cs,wa,sL,br]
   simp only[v,w,a,t,Yq,Yv,Yc]
   simp[n]) (by dsimp only[Km,QG,br,ix,wg,vs,An,ln,Ah,cl,cs,wa,sL,br];simp) (A9 (by omega))
 dsimp only[Pn,sG,r3,qt,vz,lr,lc,Ag]
 rw[P]
 by_cases c6:B1 (GP (Ce (AP s true d) s f.type) f.key true l) l 0=0
 ·simp[c6,w2]
 ·simp[c6,w2]
theorem xi(R:KT){s:Scm}(hs:Ap (Ak s)≤1048576)(g:GdS s)(f:Fld)(o:GdF s f)(v:Val)(d:Nat)(n:d≤16)(k:A6 v)(m:N7 R s d):Rz R s f v (16-(d:Int))=some (Cp (AP s true d) s true f v):=by
 have h:=Ef hs
 have y:=Dk k
 obtain⟨s1,s2,C,D,E⟩:=Dk k
 have q:v.list.length<4611686018427387904:=by omega
 have l:=fun(x:Val) (b:A6 x)=>ue R hs g f.type o.t x d n b m
 have hN:=fun u=>xO R hs g f o u v.pairs C (fun p w=>MS k w) d n m
 generalize 16-(d:Int)=z at l hN
 have A:=Fv (B:=MG s f v z R) (N:=Ai) v.list (fun _ x=>Ce (AP s true d) s f.type x) id () (fun i x b _=>by
  have r:=BF b
  have t:i+1<9223372036854775808:=by have:=(Yd.1 b).1;omega
  have e:=l x (Q3 k (Yn b))
  dsimp only[MG,Xm,br,ix,wg,vs,v2,An,ln,Ah,cs,wa,br]
  simp only[r,t,b,e,Yq,Yv,Yc]
  by_cases hy:Ce (AP s true d) s f.type x=0<;>simp[hy]) (by dsimp only[MG,Xm,br,ix,wg,vs,v2,An,ln,Ah,cs,wa,br];simp) (A9 (by omega))
 have e0:=l v k
 unfold Cp
 dsimp only[Rz,rh,p6,qR,o9,sH,rV,sF,sU,br,vz,wg,lr,lc,Aw,cs,Ag,br]
 rw[XD y,A,e0]
 by_cases c:f.card=4
 ·by_cases a:v.kind=11
  ·cases Bw v with
   |true=>simp[c,a]
   |false=>
    by_cases c6:B1 (fun _ x=>Ce (AP s true d) s f.type x) v.list 0=0
    ·simp[c,a,c6,q]
    ·simp[c,a,c6,q]
  ·simp[c,a]
 ·by_cases j:f.card=5
  ·have hN:=hN j
   by_cases a:v.kind=12
   ·cases Bw v with
    |true=>simp[j,a]
    |false=>simp[j,a,hN]
   ·simp[j,a]
  ·simp[c,j]
theorem nR{s:Scm}(hs:Ap (Ak s)≤1048576)(g:GdS s):∀(a d:Nat),d<a→d≤16→∀(f:Fld) (v:Val),GdF s f→A6 v→Iw a s f v (16-(d:Int))=some (Cp (AP s true d) s true f v)
 |0,d,b,_,_,_,_,_=>absurd b (Ih _)
 |a+1,d,b,c,f,v,h,j=>xi (Iw a) hs g f h v d c j fun d' e k x i l=>nR hs g a d' (by omega) (by omega) k x i l
theorem wR{s:Scm}(hs:Ap (Ak s)≤1048576)(g:GdS s)(n:ByteArray)(v:Val)(b:A6 v):VK s n v=some (LZ s true n v):=by
 have h:=Ef hs
 have j:Mi s n=some (BV s n):=ux s _ h.ml
 have i:=rT (Iw Ai) hs g n v 16 (Yh _) b fun d' e f x l m=>nR hs g Ai d' (by have:=bl;omega) (by omega) f x l m
 rw[show(17:Int)-((16:Nat):Int)=1 by decide]at i
 have k:=tB Ai v (by have o:Ap (Ae v)≤1048576:=b;exact A9 (by omega)) b
 unfold LZ
 dsimp only[VK,j4,br,wg,lr,cl,br]
 rw[j,Yc,i,k]
 cases(BV s n).2 with
 |false=>simp
 |true=>
  by_cases c:AP s true 16 (BV s n).1 v=0
  ·by_cases d:4096<cnt v
   ·have a:(4096:Int)<cnt v:=by omega
    simp[c,d,a]
   ·have a:¬(4096:Int)<cnt v:=by omega
    simp[c,d,a]
  ·simp[c]
theorem oY{α:Type}[Inhabited α]{l:List α}{z:α}{p:α→Bool}{x:α}(b:x∈l)(a:p x=true):(Cz l z p).2=true:=by
 unfold Cz
 cases e:l.find? p with
 |none=>exact absurd a (List.find?_eq_none.1 e x b)
 |some y=>rfl
theorem wJ{s:Scm}(h:∀(i:Nat) (m:Msg),s.messages[i]?=some m→GdM s m)(hs:Ap (Ak s)≤1048576):GdS s:=by
 refine⟨fun n f a=>?_,fun n=>(u7 h hs n).1⟩
 unfold GT Cz at a
 cases e:s.messages.find? fun m=>decide (m.name=n)with
 |none=>rw[e]at a;cases a
 |some m=>
  rw[e]at a
  obtain⟨i,hi⟩:=Y2.1 (Jo e)
  obtain⟨j,g⟩:=Y2.1 (show f∈m.fields from a)
  obtain⟨_,c,⟨t1,t2,t3⟩,u⟩:=(h i m hi).df j f g
  refine⟨fun k=>?_,fun k=>?_,t3,u,fun k=>⟨(c.1 k).1,(c.1 k).2.1⟩,fun k=>(t2 k).2,c.2⟩
  ·obtain⟨x,b,d⟩:=t1 k
   exact oY b (Y6 d)
  ·obtain⟨⟨x,b,d⟩,_⟩:=t2 k
   exact oY b (Y6 d)
abbrev jF{α:Type}(x y:α)(o:Option Bool):Prop:=Ok (fun b:Bool=>b=true↔x=y) o
theorem jF.no{α:Type}{x y:α}(h:x≠y):jF x y (some false):=⟨false,rfl,Iff.intro (fun e=>absurd e (by decide)) fun e=>absurd e h⟩
structure SzL (v:Val):Prop where
 l:v.list.length≤4194304
 p:v.pairs.length≤4194304
 s:v.slots.length≤4194304
 r:v.raws.length≤4194304
theorem SzV.l'{v:Val}(h:SzV v):SzL v:=⟨by have:=h.l;omega,by have:=h.p;omega,by have:=h.s;omega,by have:=h.r;omega⟩
def NN(F:List Fld)(a b:Slt):Prop:=¬((A0 F a.num).union=(A0 F b.num).union∧(A0 F b.num).union≠⟨#[]⟩)
theorem NN.symm{F:List Fld}{a b:Slt}(h:NN F a b):NN F b a:=fun⟨e,k⟩=>h ⟨e.symm,by rw[←e]at*;exact k⟩
structure OkM (s:Scm) (k:Bool) (d:Nat) (m:Msg) (v:Val):Prop where
 kd:v.kind=10
 ot:Bw v=false
 pw:v.slots.Pairwise fun a b=>a.num≠b.num∧NN m.fields a b
 sl:∀x∈v.slots,(BG m.fields x.num).2=true∧Cp (AP s k d) s k (A0 m.fields x.num) x.val=0
 rq:∀f∈m.fields,f.card=1→CH v.slots f.num=true
 rw:∀x∈v.raws,EN s m.fields x=0
theorem ZQX:li=some true:=by kernel_rfl
theorem Zip{s:Scm}{n:ByteArray}{v:Val}(hs:Ap (Ak s)≤1048576)(_:(0:Nat)≤1)(a:Ap (Ae v)≤1048576):UE s n v=some true:=by
 obtain⟨b,c,d⟩:=o16 hs
 dsimp only[UE,jm,br,wg,lr,cl,Aw,br]
 rw[c,ZQX]
 cases b with
 |false=>simp
 |true=>
 have g:=wJ (d rfl) hs
 rw[wR hs g n v a,u2 hs n v a]
 simp
end Go.Proofs.YtopncadjpnkjhaaGreatDoor
