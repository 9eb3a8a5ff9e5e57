import Derived.Test.YthgmbpciandpiaaGreatNx26
import Derived.Test.YthgmbpciandpiaaGreatNx25
import Derived.Test.YthgmbpciandpiaaGreatNx00
namespace Go.Proofs.YthgmbpciandpiaaGreat
set_option linter.all false
open Go Go.Eng
theorem Vz{α ξ ρ:Type}{B:Nat→Option (Lv Nat ξ ρ)}{N:Nat}(l:List α)(p:α→Bool)(r:ρ)(e:ξ)
  (hs:∀i x,l[i]?=some x→B i=some (if p x=true then .rt r else .nx (i+1))) (he:B l.length=some (.ex e)) (hN:l.length<N):An B N 0=some (if l.any p=true then .inr r else .inl e):=by
 rw[Ei l p (fun _=>r) e hs he hN,←Lz]
 cases l.findIdx? p<;>rfl
theorem ZJ7(v:Val)(k:Int)(h:v.slots.length≤1048576):gR v k=some (Co v.slots k):=by
 have d:v.slots.length<4611686018427387904:=by omega
 have e:=Ei (B:=PM v k) (N:=Aj) v.slots (fun x=>decide (x.num=k)) (fun _=>true) () (fun i x a=>by
  have b:=Bj a
  have f:=(Yb.1 a).1
  have c:i+1<9223372036854775808:=by omega
  dsimp only[PM,WS,br,ix,vz,wg,vs,Ar,ln,Ai,wa,Ah,br]
  simp only[d,b,c,a,Yo,Yr,Ya]
  cases decide (x.num=k)<;>simp) (by simp[PM,WS,br,ix,vz,wg,vs,Ar,ln,Ai,wa,Ah,br]) (A3 (by omega))
 dsimp only[gR,qc,mG,kU,lr,lc]
 unfold Co
 rw[e,←Lz]
 cases v.slots.findIdx? fun x=>decide (x.num=k)<;>rfl
theorem ZLy{s:Scm}(hs:As (Al s)≤1048576)(m:Msg)(x:Raw)(hm:m.fields.length≤1048576)(A:x.data.size≤1048576):gS s m x=some (F2 s m.fields x):=by
 have h:=Df hs
 have B:x.data.size<4611686018427387904:=by omega
 have o:=ws s (AO m.fields x.num).type.name h.el
 have d:x.bits<2147483648→OK (BA s (AO m.fields x.num).type.name).1 x.bits=_:=fun y=>wV _ _ (Pj h _) (Zsn hs _) (by omega)
 have w:(BC m.fields x.num).1=AO m.fields x.num:=rfl
 dsimp only[gS,pe,jn,br,vy,wg,lr,cl,Az,A9,br]
 rw[qY _ _ hm,Ya,w]
 unfold F2 QI
 have j:((((((decide (x.num<1)||decide (65535<x.num))||decide (x.wire<0))||decide (6<x.wire))||(((decide (x.wire=0)||decide (x.wire=1))||decide (x.wire=2))&&!decide (x.data=⟨#[]⟩)))||((!((decide (x.wire=0)||decide (x.wire=1))||decide (x.wire=2)))&&!decide (x.bits=0)))=true)=(x.num<1∨65535<x.num∨x.wire<0∨6<x.wire∨(x.wire≤2∧x.data≠⟨#[]⟩)∨(2<x.wire∧x.bits≠0)):=by
  by_cases p:x.data=⟨#[]⟩<;>simp only[p,Yo,YF,YJ,YW,Hr,IN,Lw,Yz,Yc,YL,Yn,Yt,Hs,ne_eq,IH,GN,E1,Hx,LC,eq_iff_iff]<;>omega
 have b:(if((decide (x.wire=3)&&decide ((4096:Int)<x.data.size))||decide ((65536:Int)<x.data.size))=true then some (3:Int)else some 0)=some (if(x.wire=3∧4096<x.data.size)∨65536<x.data.size then 3 else 0):=by
  by_cases c:(x.wire=3∧4096<x.data.size)∨65536<x.data.size
  ·rw[Yg c,Yg]
   simp only[Yz,Yc,Yn]
   omega
  ·rw[Yf c,Yf]
   simp only[Yz,Yc,Yn]
   omega
 by_cases c:x.num<1∨65535<x.num∨x.wire<0∨6<x.wire∨(x.wire≤2∧x.data≠⟨#[]⟩)∨(2<x.wire∧x.bits≠0)
 ·rw[Yg c,Yg (j▸c)]
 ·rw[Yf c,Yf (j▸c)]
  cases z:(BC m.fields x.num).2 with
  |false=>
   simp only[Yk,YD,Ds]
   exact b
  |true=>
   simp only[Yr,CN]
   rw[o,Ya]
   generalize (BA s (AO m.fields x.num).type.name)=a at d⊢
   generalize AO m.fields x.num=f at d⊢
   by_cases k:f.type.kind=9∧a.2=true∧a.1.opn=false∧¬f.card=5∧x.wire=0∧x.bits<2147483648
   ·obtain⟨q,r,t,u,l,n⟩:=k
    have i:¬(2147483648≤x.bits):=by omega
    simp only[q,r,t,u,l,n,i,d n,Yo,YF,YJ,YW,Ge,GL,Fw,Y2,YH,Yr,Ro,Y4]
    cases Ed a.1 x.bits with
    |true=>simp only[Yr,YJ]
    |false=>
     simp only[Yk,YD,YW,reduceCtorEq]
     rw[l]at b
     simpa using b
   ·have i:((((((!decide (f.type.kind=9))||(!a.2))||a.1.opn)||decide (f.card=5))||(!decide (x.wire=0)))||decide (2147483648≤x.bits))=true:=by
     simp only[Yz,YL,Yn,Yt]
     cases e:a.2<;>cases g:a.1.opn<;>simp only[e,g,CN,Hx,Ds,E1,reduceCtorEq,GN,true_or,or_true,LC,or_false]at k⊢<;>omega
    have v:(decide (f.type.kind=9)&&a.2&&!a.1.opn&&!decide (f.card=5)&&decide (x.wire=0)&&decide (x.bits<2147483648)&&!Ed a.1 x.bits)=false:=by
     rw[GP]
     left
     cases e:a.2<;>cases g:a.1.opn<;>simp only[e,g,Hr,CX,YJ,YW,IN]at k⊢
     simp only[GP,Rq,Yt,Yn]
     simp only[CN]at k
     omega
    simp only[i,v,YJ,Yk,Lx,Yr,JV]
theorem ZC2(R:Sq)(n:Fld→Val→Int)(s:Scm)(m:Msg)(v:Val)(i:Nat)(x:Slt)(a:Int)(k:Bool)(hm:m.fields.length≤1048576)(hl:v.slots.length≤1048576)(h:v.slots[i]?=some x)(G:1≤a∧a≤16)(u:∀f:Fld,(BC m.fields x.num)=(f,true)→R s f x.val (a+1) k=some (n f x.val)):UL R s m v i a k=some (DI n m.fields v.slots i x):=by
 have hi:=(Yb.1 h).1
 have c:(v.slots.take i).length=i:=by rw[Yu];omega
 have b:∀(j:Nat) (y:Slt),(v.slots.take i)[j]?=some y→j<i∧v.slots[j]?=some y:=fun j y hy=>by
  rw[YS]at hy
  split at hy
  ·exact⟨by assumption,hy⟩
  ·cases hy
 have C:∀y:Fld×Bool,An (MT s m v i a k R y) Aj 0=some (if Co (v.slots.take i) y.1.num=true then .inr 9 else .inl ()):=fun y=>by
  have q:=Vz (B:=MT s m v i a k R y) (N:=Aj) (v.slots.take i) (fun z=>decide (z.num=y.1.num)) (9:Int) () (fun j z l=>by
   obtain⟨r,d⟩:=b j z l
   have e:(j:Int)<i:=by omega
   have g:j+1<9223372036854775808:=by omega
   dsimp only[MT,Xv,br,ix,wg,vs,Ar,ln,Ai,wa,br]
   simp only[d,e,g,Yo,Yr,Ya]
   cases decide (z.num=y.1.num)<;>simp) (by rw[c];dsimp only[MT,Xv,br,ix,wg,vs,Ar,ln,Ai,wa,br];simp) (by rw[c];exact A3 (by omega))
  exact q
 have D:∀y:Fld×Bool,An (MO s m v i a k R y) Aj 0=some (if Gw m.fields (v.slots.take i) y.1.union=true then .inr 15 else .inl ()):=fun y=>by
  have q:=Vz (B:=MO s m v i a k R y) (N:=Aj) (v.slots.take i) (fun z=>(!decide (y.1.union=⟨#[]⟩))&&decide ((AO m.fields z.num).union=y.1.union)) (15:Int) () (fun j z l=>by
   obtain⟨r,d⟩:=b j z l
   have e:(j:Int)<i:=by omega
   have g:j+1<9223372036854775808:=by omega
   have t:(BC m.fields z.num).1=AO m.fields z.num:=rfl
   dsimp only[MO,W2,Xh,Wg,WU,br,ix,wg,vs,Ar,ln,Ai,lc,cl,wa,du,br]
   simp only[d,e,g,qY _ _ hm,t,Yo,Yr,Ya]
   cases(!decide (y.1.union=⟨#[]⟩))&&decide ((AO m.fields z.num).union=y.1.union)<;>simp) (by rw[c];dsimp only[MO,W2,Xh,Wg,WU,br,ix,wg,vs,Ar,ln,Ai,lc,cl,wa,du,br];simp) (by rw[c];exact A3 (by omega))
  rw[q]
  congr 2
  unfold Gw
  by_cases p:y.1.union=⟨#[]⟩
  ·simp only[p,Yo,YJ,CX,eq_iff_iff,Yk,iff_false,YM,not_exists,E1,GN,Y5]
  ·simp only[p,YF,YW,Y4]
 have w0:(0:Int)≤i∧(i:Int)<v.slots.length:=by omega
 have E:(BC m.fields x.num).1=AO m.fields x.num:=rfl
 have w2: -9223372036854775808≤a+1∧a+1<9223372036854775808:=by omega
 have F:(v.slots.getD i Rw.z)=x:=by rw[Yp,h];rfl
 unfold DI
 dsimp only[UL,kb,kq,pH,pO,ql,nA,br,B8,vw,wg,vs,lr,lc,cl,cs,wi,du,br]
 simp only[YY,h,w0,F,B9,Yr,qY _ _ hm,Ya,C,D,E,w2]
 cases o:(BC m.fields x.num).2 with
 |false=>simp
 |true=>
  have w:(AO m.fields x.num).num=x.num:=KP o
  have A:=u (AO m.fields x.num) (Prod.ext rfl o)
  rw[w]
  cases Co (v.slots.take i) x.num with
  |true=>simp
  |false=>
   cases Gw m.fields (v.slots.take i) (AO m.fields x.num).union with
   |true=>simp
   |false=>simp[A]
theorem Zw2(R:Sq){s:Scm}(hs:As (Al s)≤1048576)(m:Msg)(v:Val)(d:Nat)(L:d≤16)(k:Bool)(hm:m.fields.length≤1048576)(p:AY v)(E:∀d':Nat,d=d'+1→∀(f:Fld) (x:Val),AY x→R s f x (17-(d':Int)) k=some (BL (AR s k d') s k f x)):OO R s m v (17-(d:Int)) k=some (AR s k d m v):=by
 have h:=Df hs
 have G:=B5 p
 obtain⟨s1,s2,M,u,O⟩:=B5 p
 have w:m.fields.length<4611686018427387904:=by omega
 have y:v.slots.length<4611686018427387904:=by omega
 have z:v.raws.length<4611686018427387904:=by omega
 dsimp only[OO,cX,bM,dK,cP,bA,br,wg,lr,lc,Az,br]
 rw[kx G]
 by_cases c:v.kind≠10∨Bk v=true
 ·have A:AR s k d m v=12:=by cases d<;>(unfold AR;rw[Yg c])
  rw[A]
  by_cases b:v.kind=10
  ·have o:Bk v=true:=c.resolve_left fun e=>e b
   simp[b,o]
  ·simp[b]
 ·have b:v.kind=10:=Decidable.not_not.1 fun e=>c (.inl e)
  have o:Bk v=false:=by
   cases h:Bk v with
   |false=>rfl
   |true=>exact absurd (.inr h) c
  cases d with
  |zero=>
   unfold AR
   rw[Yf c]
   simp[b,o]
  |succ d=>
   have H:(1:Int)≤17-((d+1:Nat):Int)∧17-((d+1:Nat):Int)≤16:=by omega
   have r:¬(16:Int)<17-((d+1:Nat):Int):=by omega
   have I:=FI (B:=Ql s m v (17-((d+1:Nat):Int)) k R) (N:=Aj) v.slots (DI (BL (AR s k d) s k) m.fields v.slots) id () (fun i x a _=>by
    have e:=ZC2 R (BL (AR s k d) s k) s m v i x _ k hm u a H fun f l=>by
     have:=E d rfl f x.val (GZ p (Yj a))
     rw[show 17-((d+1:Nat):Int)+1=17-(d:Int)by omega]
     exact this
    have g:=Bj a
    have j:i+1<9223372036854775808:=by have:=(Yb.1 a).1;omega
    dsimp only[Ql,RJ,br,vz,wg,vs,v2,Ar,ln,Ai,cs,wa,Ah,br]
    simp only[y,g,j,e,Yo,Yr,Ya]
    by_cases hy:DI (BL (AR s k d) s k) m.fields v.slots i x=0<;>simp[hy]) (by dsimp only[Ql,RJ,br,vz,wg,vs,v2,Ar,ln,Ai,cs,wa,Ah,br];simp[y]) (A3 (by omega))
   have J:=FI (B:=Qp s m v R) (N:=Aj) m.fields (fun _ f=>FY v.slots f) id () (fun i f l _=>by
    have g:=Bj l
    have j:i+1<9223372036854775808:=by have:=(Yb.1 l).1;omega
    have C:m.fields.getD i Rw.z=f:=by rw[Yp,l];rfl
    have D:(0:Int)≤i∧(i:Int)<m.fields.length:=⟨by omega,g⟩
    have e:=ZJ7 v f.num u
    unfold FY
    dsimp only[Qp,R5,br,ix,AZ,vz,wg,vs,Ar,ln,Ai,Az,wa,Ah,br]
    simp only[w,g,j,C,D,l,e,YY,Yo,Yr,Ya,B9,Y5,Y2,YH]
    by_cases F:f.card=1<;>cases Co v.slots f.num<;>simp[F]) (by dsimp only[Qp,R5,br,ix,AZ,vz,wg,vs,Ar,ln,Ai,Az,wa,Ah,br];simp[w]) (A3 (by omega))
   have K:=FI (B:=Qv s m v R) (N:=Aj) v.raws (fun _ x=>F2 s m.fields x) id () (fun i x a _=>by
    have g:=Bj a
    have j:i+1<9223372036854775808:=by have:=(Yb.1 a).1;omega
    have e:=ZLy hs m x hm (ym p (Yj a))
    dsimp only[Qv,SP,br,ix,vz,wg,vs,Ar,ln,Ai,cl,wa,Ah,br]
    simp only[z,g,j,a,e,Yo,Yr,Ya]
    by_cases hy:F2 s m.fields x=0<;>simp[hy]) (by dsimp only[Qv,SP,br,ix,vz,wg,vs,Ar,ln,Ai,cl,wa,Ah,br];simp[z]) (A3 (by omega))
   unfold AR
   rw[Yf c]
   simp only[b,o,r,I,J,K,Yo,YF,YJ,YW,Ge,Yk,Fw,Y2,YH,Yr,YD,Ya]
   by_cases n:BI (DI (BL (AR s k d) s k) m.fields v.slots) v.slots 0=0
   ·by_cases q:BI (fun _ f=>FY v.slots f) m.fields 0=0
    ·by_cases t:BI (fun _ x=>F2 s m.fields x) v.raws 0=0
     ·simp[n,q,t]
     ·simp[n,q,t]
    ·simp[n,q]
   ·simp[n]
theorem ZH3(R:Sq){s:Scm}(hs:As (Al s)≤1048576)(t:Typ)(v:Val)(d:Nat)(p:d≤16)(k:Bool)(l:AY v)(o:∀d':Nat,d=d'+1→∀(f:Fld) (x:Val),AY x→R s f x (17-(d':Int)) k=some (BL (AR s k d') s k f x)):Mh R s t v (17-(d:Int)) k=some (BB (AR s k d) s t v):=by
 have h:=Df hs
 have hm:=Zw2 R hs (A8 s t.name).1 v d p k (KS h _) l o
 have n:v.bits<9223372036854775808→OK (BA s t.name).1 v.bits=_:=fun i=>wV _ _ (Pj h _) (Zsn hs _) i
 have m:Mg s t.name=some (A8 s t.name):=qU s _ h.ml
 dsimp only[Mh,nn,br,wg,lr,cl,Az,cs,br]
 rw[m,zx _ (B5 l),ws s _ h.el]
 simp only[Ya]
 unfold BB
 by_cases c:t.kind=10
 ·simp only[c,Yo,Yr,hm,Ya]
  cases(A8 s t.name).2<;>simp
 ·by_cases e:t.kind<1∨9<t.kind
  ·have g:(decide (t.kind<1)||decide (9<t.kind))=true:=by simpa using e
   simp only[c,e,g,YF,Yk,YD,Yr]
  ·have g:(decide (t.kind<1)||decide (9<t.kind))=false:=by
    rw[Hs,Yt,Yt]
    omega
   simp only[c,e,g,YF,Yk,YD]
   by_cases a:Ca t.kind v=0∧t.kind=9
   ·obtain⟨a,b⟩:=a
    have i:v.bits<9223372036854775808:=by
     rw[b]at a
     unfold Ca at a
     by_cases a1:v.kind≠9∨Bk v=true
     ·rw[Yg a1]at a;cases a
     ·rw[Yf a1]at a
      by_cases j:4096<v.text.size
      ·rw[Yg j]at a;cases a
      ·rw[Yf j]at a
       cases a3:Cs 9 v with
       |false=>rw[a3]at a;simp at a
       |true=>
        unfold Cs at a3
        simp only[Yc]at a3
        have a4:=a3.2
        rw[Yf (by decide)]at a4
        simp only[Yc]at a4
        have a5:=a4.2
        unfold Ik at a5
        rw[Yf (by decide),Yf (by decide),Yf (by decide),Yg rfl,Yn]at a5
        omega
    rw[n i,a,b]
    cases(BA s t.name).2<;>cases(BA s t.name).1.opn<;>cases Ed (BA s t.name).1 v.bits<;>simp
   ·have b:((!decide (Ca t.kind v=0))||!decide (t.kind=9))=true:=by
     simp only[Yz,YL,Yt]
     omega
    rw[Yg b,Yg (by omega)]
theorem ZLf(R:Sq){s:Scm}(hs:As (Al s)≤1048576)(f:Fld)(v:Val)(d:Nat)(T:d≤16)(k:Bool)(u:AY v)(S:∀d':Nat,d=d'+1→∀(f:Fld) (x:Val),AY x→R s f x (17-(d':Int)) k=some (BL (AR s k d') s k f x)):Sb R s f v (17-(d:Int)) k=some (BL (AR s k d) s k f v):=by
 have h:=Df hs
 have m:=B5 u
 obtain⟨s1,s2,Z,s4,s5⟩:=B5 u
 have H:v.list.length<4611686018427387904:=by omega
 have w2:v.pairs.length<4611686018427387904:=by omega
 have A:=fun(x:Val) (l:AY x)=>ZH3 R hs f.type x d T k l S
 generalize 17-(d:Int)=C at A
 have V:=FI (B:=PK s f v C k R) (N:=Aj) v.list (fun _ x=>BB (AR s k d) s f.type x) id () (fun i x l _=>by
  have y:=Bj l
  have g:i+1<9223372036854775808:=by have:=(Yb.1 l).1;omega
  have e:=A x (Ie u (Yj l))
  dsimp only[PK,WP,br,ix,vz,wg,vs,v2,Ar,ln,Ai,cs,wa,Ah,br]
  simp only[H,y,g,l,e,Yo,Yr,Ya]
  by_cases hy:BB (AR s k d) s f.type x=0<;>simp[hy]) (by dsimp only[PK,WP,br,ix,vz,wg,vs,v2,Ar,ln,Ai,cs,wa,Ah,br];simp[H]) (A3 (by omega))
 have X:∀(i:Nat) (p:Pr),v.pairs[i]?=some p→An (KW s f v C k R i) Aj 0=some (if k=true∧((v.pairs.take i).any fun q=>Gt q.key p.key)=true then .inr 9 else .inl ()):=fun i p c=>by
  have hi:=(Yb.1 c).1
  have G:(v.pairs.take i).length=i:=by rw[Yu];omega
  cases k with
  |false=>
   obtain⟨Y,E⟩:∃b,Aj=b+1:=⟨Aj-1,by have:=A3 (n:=20) (by omega);omega⟩
   rw[E,An]
   dsimp only[KW,PH,br,ix,AZ,wg,vs,Ar,ln,Ai,wa,br]
   simp
  |true=>
   have q:=Vz (B:=KW s f v C true R i) (N:=Aj) (v.pairs.take i) (fun q=>Gt q.key p.key) (9:Int) () (fun j z m=>by
    have U:j<i∧v.pairs[j]?=some z:=by
     rw[YS]at m
     split at m
     ·exact⟨by assumption,m⟩
     ·cases m
    obtain⟨y,g⟩:=U
    have K:(j:Int)<i:=by omega
    have L:j+1<9223372036854775808:=by omega
    have M:v.pairs.getD j Rw.z=z:=by rw[Yp,g];rfl
    have O:v.pairs.getD i Rw.z=p:=by rw[Yp,c];rfl
    have P:(0:Int)≤j∧(j:Int)<v.pairs.length:=by omega
    have Q:(0:Int)≤i∧(i:Int)<v.pairs.length:=by omega
    unfold Gt
    dsimp only[KW,PH,br,ix,AZ,wg,vs,Ar,ln,Ai,wa,br]
    simp only[g,K,L,M,O,P,Q,c,YY,Yo,IN,Yr,Ya,B9,Y5]
    cases decide (z.key.bits=p.key.bits)&&decide (z.key.text=p.key.text)<;>simp) (by rw[G];dsimp only[KW,PH,br,ix,AZ,wg,vs,Ar,ln,Ai,wa,br];simp) (by rw[G];exact A3 (by omega))
   rw[q]
   simp
 have W:=FI (B:=PY s f v C k R) (N:=Aj) v.pairs (Gx (BB (AR s k d) s f.type) f.key k v.pairs) id () (fun i p c _=>by
  have y:=Bj c
  have g:i+1<9223372036854775808:=by have:=(Yb.1 c).1;omega
  have F:=D0 u (Yj c)
  have I:=zx f.key (B5 F.1)
  have J:=A p.val F.2
  unfold Gx
  dsimp only[PY,VX,WW,Xq,WV,WY,br,ix,vz,wg,vs,Ar,ln,Ai,lc,cl,cs,wa,Ah,br]
  simp only[w2,y,g,c,I,J,X i p c,Yo,Yr,Ya]
  by_cases w:Ca f.key p.key=0
  ·by_cases o:k=true∧((v.pairs.take i).any fun q=>Gt q.key p.key)=true
   ·simp[w,o]
   ·by_cases D:BB (AR s k d) s f.type p.val=0
    ·rw[Yf o]
     simp only[w,o,D]
     simp
    ·rw[Yf o]
     simp only[w,o,D]
     simp[D]
  ·simp[w]) (by dsimp only[PY,VX,WW,Xq,WV,WY,br,ix,vz,wg,vs,Ar,ln,Ai,lc,cl,cs,wa,Ah,br];simp[w2]) (A3 (by omega))
 have e0:=A v u
 unfold BL
 dsimp only[Sb,kz,kJ,kG,nv,ku,mX,kI,ka,lU,kH,kj,kF,br,wg,lr,lc,Az,cs,br]
 rw[kx m,V,W,e0]
 by_cases r:f.card=4
 ·by_cases a:v.kind=11
  ·cases Bk v with
   |true=>simp[r,a]
   |false=>
    by_cases c6:BI (fun _ x=>BB (AR s k d) s f.type x) v.list 0=0
    ·simp[r,a,c6]
    ·simp[r,a,c6]
  ·simp[r,a]
 ·by_cases t:f.card=5
  ·by_cases a:v.kind=12
   ·cases Bk v with
    |true=>simp[t,a]
    |false=>
     by_cases c6:BI (Gx (BB (AR s k d) s f.type) f.key k v.pairs) v.pairs 0=0
     ·simp[t,a,c6]
     ·simp[t,a,c6]
   ·simp[t,a]
  ·simp[r,t]
theorem ZpG{s:Scm}(hs:As (Al s)≤1048576)(k:Bool):∀(a d:Nat),d<a→d≤16→∀(f:Fld) (v:Val),AY v→Jg a s f v (17-(d:Int)) k=some (BL (AR s k d) s k f v)
 |0,d,b,_,_,_,_=>absurd b (GO _)
 |a+1,d,b,c,f,v,h=>ZLf (Jg a) hs f v d c k h fun d' e g x i=>ZpG hs k a d' (by omega) (by omega) g x i
theorem dV:20<Aj:=A3 (by omega)
theorem ZDu{s:Scm}(hs:As (Al s)≤1048576)(m:Msg)(v:Val)(k:Bool)(hm:m.fields.length≤1048576)(a:AY v):OO (Jg Aj) s m v 1 k=some (AR s k 16 m v):=
 Zw2 (Jg Aj) hs m v 16 (Yh _) k hm a fun d' e f x b=>ZpG hs k Aj d' (by have:=dV;omega) (by omega) f x b
end Go.Proofs.YthgmbpciandpiaaGreat
namespace Go.Proofs.YthgmbpciandpiaaGreat
set_option linter.all false
open Go Go.Eng
mutual
theorem PB:∀v:Val,cnt v≤2*As (AM v)+1
 |.mk k b t l p s r=>by
  have a:=ZxT l
  have c:=Zs7 p
  have d:=Zwz s
  have f:=Cz (e:=A0) r
  simp only[cnt,AM,As,bk]
  omega
theorem ZxT:∀l:List Val,A5 l≤2*AU (Nk l)
 |[]=>by simp[A5]
 |v::l=>by
  have a:=PB v
  have b:=ZxT l
  simp only[A5,Nk,AU]
  omega
theorem ZzD:∀p:Pr,M6 p≤2*As (Ay p)+2
 |.mk k v=>by
  have a:=PB k
  have b:=PB v
  simp only[M6,Ay,MK]
  omega
theorem Zs7:∀l:List Pr,BG l≤2*AU (LF l)
 |[]=>by simp[BG]
 |v::l=>by
  have a:=ZzD v
  have b:=Zs7 l
  simp only[BG,LF,AU]
  omega
theorem ZAL:∀x:Slt,M5 x≤2*As (Am x)+1
 |.mk n v=>by
  have a:=PB v
  simp only[M5,Am,As,bk]
  omega
theorem Zwz:∀l:List Slt,B3 l≤2*AU (Nu l)
 |[]=>by simp[B3]
 |v::l=>by
  have a:=ZAL v
  have b:=Zwz l
  simp only[B3,Nu,AU]
  omega
end
theorem MY(v:Val):cnt v=1+v.raws.length+A5 v.list+BG v.pairs+B3 v.slots:=by cases v;simp only[cnt,Val.raws,Val.list,Val.pairs,Val.slots]
theorem VF(p:Pr):M6 p=cnt p.key+cnt p.val:=by cases p;simp only[M6,Pr.key,Pr.val]
theorem Vv(x:Slt):M5 x=cnt x.val:=by cases x;simp only[M5,Slt.val]
theorem Jl:∀a b:List Val,A5 (a++b)=A5 a+A5 b
 |[],b=>by simp[A5]
 |x::a,b=>by rw[IB,A5,A5,Jl a b];omega
theorem VH:∀a b:List Pr,BG (a++b)=BG a+BG b
 |[],b=>by simp[BG]
 |x::a,b=>by rw[IB,BG,BG,VH a b];omega
theorem VO:∀a b:List Slt,B3 (a++b)=B3 a+B3 b
 |[],b=>by simp[B3]
 |x::a,b=>by rw[IB,B3,B3,VO a b];omega
theorem vE{v:Val}(h:AY v):cnt v≤2097153:=by
 have:=PB v
 rw[Gk]at this
 have h:As (Ag v)≤1048576:=h
 omega
theorem ZuV(l:List Val)(i:Nat):A5 (l.take i)≤A5 l:=by
 conv=>rhs;rw[←FC i l,Jl]
 omega
theorem Zy5(l:List Pr)(i:Nat):BG (l.take i)≤BG l:=by
 conv=>rhs;rw[←FC i l,VH]
 omega
theorem ZyD(l:List Slt)(i:Nat):B3 (l.take i)≤B3 l:=by
 conv=>rhs;rw[←FC i l,VO]
 omega
theorem jG{l:List Val}{i:Nat}{x:Val}(h:l[i]?=some x):A5 (l.take i)+cnt x≤A5 l:=by
 obtain⟨a,rfl⟩:=Yb.1 h
 have:=ZuV l (i+1)
 rw[Y6 a,Jl,A5,A5]at this
 omega
theorem ZpL{l:List Pr}{i:Nat}{x:Pr}(h:l[i]?=some x):BG (l.take i)+M6 x≤BG l:=by
 obtain⟨a,rfl⟩:=Yb.1 h
 have:=Zy5 l (i+1)
 rw[Y6 a,VH,BG,BG]at this
 omega
theorem Zo4{l:List Slt}{i:Nat}{x:Slt}(h:l[i]?=some x):B3 (l.take i)+M5 x≤B3 l:=by
 obtain⟨a,rfl⟩:=Yb.1 h
 have:=ZyD l (i+1)
 rw[Y6 a,VO,B3,B3]at this
 omega
theorem Pt:∀(j:Nat) (v:Val),As (Ag v)<j→AY v→Jf j v=some (cnt v:Int)
 |0,v,h,_=>by omega
 |j+1,v,h,k=>by
  obtain⟨s1,s2,E,F,G⟩:=B5 k
  have z:=vE k
  rw[MY]at z
  have r:v.list.length<4611686018427387904:=by omega
  have s:v.pairs.length<4611686018427387904:=by omega
  have t:v.slots.length<4611686018427387904:=by omega
  have A:v.raws.length<4611686018427387904:=by omega
  have C:1+v.raws.length<9223372036854775808:=by omega
  have u:=ED (B:=Qy v (Jf j)) (N:=Aj) (ρ:=Int) v.list (fun p=>((1+v.raws.length+A5 p:Nat):Int)) (fun i b=>(b,i)) id (fun i x d=>by
   have l:=Bj d
   have m:i+1<9223372036854775808:=by have:=(Yb.1 d).1;omega
   have hm:=Yj d
   have e:=Pt j x (by have:=bZ hm;omega) (Ie k hm)
   have n:=jG d
   have f:((1+v.raws.length+A5 (v.list.take i):Nat):Int)+(cnt x:Int)=((1+v.raws.length+A5 (v.list.take i++[x]):Nat):Int):=by
    rw[Jl,A5,A5]
    omega
   have g: -9223372036854775808≤((1+v.raws.length+A5 (v.list.take i):Nat):Int)+(cnt x:Int)∧((1+v.raws.length+A5 (v.list.take i):Nat):Int)+(cnt x:Int)<9223372036854775808:=by omega
   generalize ((1+v.raws.length+A5 (v.list.take i):Nat):Int)=a at f g⊢
   generalize ((1+v.raws.length+A5 (v.list.take i++[x]):Nat):Int)=b at f⊢
   generalize (cnt x:Int)=c at e f g
   dsimp only[Qy,Ss,br,ix,vz,wg,vs,v2,ln,Ai,cs,wa,wi,Ah,br]
   simp only[r,l,d,Yo,Yr,Ya]
   rw[e,Ya,Yg g,Yg m,f]) (by dsimp only[Qy,Ss,br,ix,vz,wg,vs,v2,ln,Ai,cs,wa,wi,Ah,br];simp[r]) (A3 (by omega))
  have w:=ED (B:=QF v (Jf j)) (N:=Aj) (ρ:=Int) v.pairs (fun p=>((1+v.raws.length+A5 v.list+BG p:Nat):Int)) (fun i b=>(b,i)) id (fun i x d=>by
   have l:=Bj d
   have m:i+1<9223372036854775808:=by have:=(Yb.1 d).1;omega
   have hm:=Yj d
   have e:=Pt j x.key (by have:=(QJ hm).1;omega) (D0 k hm).1
   have q:=Pt j x.val (by have:=(QJ hm).2;omega) (D0 k hm).2
   have n:=ZpL d
   rw[VF]at n
   have f:((1+v.raws.length+A5 v.list+BG (v.pairs.take i):Nat):Int)+((cnt x.key:Int)+(cnt x.val:Int))=((1+v.raws.length+A5 v.list+BG (v.pairs.take i++[x]):Nat):Int):=by
    rw[VH,BG,BG,VF]
    omega
   have g: -9223372036854775808≤((1+v.raws.length+A5 v.list+BG (v.pairs.take i):Nat):Int)+((cnt x.key:Int)+(cnt x.val:Int))∧((1+v.raws.length+A5 v.list+BG (v.pairs.take i):Nat):Int)+((cnt x.key:Int)+(cnt x.val:Int))<9223372036854775808:=by omega
   have o: -9223372036854775808≤(cnt x.key:Int)+(cnt x.val:Int)∧(cnt x.key:Int)+(cnt x.val:Int)<9223372036854775808:=by omega
   generalize ((1+v.raws.length+A5 v.list+BG (v.pairs.take i):Nat):Int)=a at f g⊢
   generalize ((1+v.raws.length+A5 v.list+BG (v.pairs.take i++[x]):Nat):Int)=b at f⊢
   generalize (cnt x.key:Int)=c at e f g o
   generalize (cnt x.val:Int)=D at q f g o
   dsimp only[QF,SZ,br,ix,vz,wg,vs,ln,Ai,cs,wa,wi,Ah,br]
   simp only[s,l,d,Yo,Yr,Ya]
   rw[e,Ya,q,Ya,Yg o,Yg g,Yg m,f]) (by dsimp only[QF,SZ,br,ix,vz,wg,vs,ln,Ai,cs,wa,wi,Ah,br];simp[s]) (A3 (by omega))
  have y:=ED (B:=Qk v (Jf j)) (N:=Aj) (ρ:=Int) v.slots (fun p=>((1+v.raws.length+A5 v.list+BG v.pairs+B3 p:Nat):Int)) (fun i b=>(b,i)) id (fun i x d=>by
   have l:=Bj d
   have m:i+1<9223372036854775808:=by have:=(Yb.1 d).1;omega
   have hm:=Yj d
   have e:=Pt j x.val (by have:=bg hm;omega) (GZ k hm)
   have n:=Zo4 d
   rw[Vv]at n
   have f:((1+v.raws.length+A5 v.list+BG v.pairs+B3 (v.slots.take i):Nat):Int)+(cnt x.val:Int)=((1+v.raws.length+A5 v.list+BG v.pairs+B3 (v.slots.take i++[x]):Nat):Int):=by
    rw[VO,B3,B3,Vv]
    omega
   have g: -9223372036854775808≤((1+v.raws.length+A5 v.list+BG v.pairs+B3 (v.slots.take i):Nat):Int)+(cnt x.val:Int)∧((1+v.raws.length+A5 v.list+BG v.pairs+B3 (v.slots.take i):Nat):Int)+(cnt x.val:Int)<9223372036854775808:=by omega
   generalize ((1+v.raws.length+A5 v.list+BG v.pairs+B3 (v.slots.take i):Nat):Int)=a at f g⊢
   generalize ((1+v.raws.length+A5 v.list+BG v.pairs+B3 (v.slots.take i++[x]):Nat):Int)=b at f⊢
   generalize (cnt x.val:Int)=c at e f g
   dsimp only[Qk,S9,br,ix,vz,wg,vs,ln,Ai,cs,wa,wi,Ah,br]
   simp only[t,l,d,Yo,Yr,Ya]
   rw[e,Ya,Yg g,Yg m,f]) (by dsimp only[Qk,S9,br,ix,vz,wg,vs,ln,Ai,cs,wa,wi,Ah,br];simp[t]) (A3 (by omega))
  simp only[A5,BG,B3,DV,id]at u w y
  show Tj (Jf j) v=_
  dsimp only[Tj,cQ,cK,bl,au,da,vz,wg,vs,lr,lc,wa,Ah]
  simp only[A,C,Yr,u,w,y,Ya,Fx]
  rw[MY]
theorem ZHj{s:Scm}(hs:As (Al s)≤1048576)(k:Bool)(n:ByteArray)(v:Val)(b:AY v):gm s n v k=some (Fh s k n v):=by
 have h:=Df hs
 have e:Mg s n=some (A8 s n):=qU s _ h.ml
 have f:=ZDu hs (A8 s n).1 v k (KS h _) b
 have g:=Pt Aj v (by have i:As (Ag v)≤1048576:=b;exact A3 (by omega)) b
 unfold Fh
 dsimp only[gm,aW,br,wg,lr,cl,br]
 rw[e,Ya,f,g]
 cases(A8 s n).2 with
 |false=>simp
 |true=>
  by_cases c:AR s k 16 (A8 s n).1 v=0
  ·by_cases d:4096<cnt v
   ·have a:(4096:Int)<cnt v:=by omega
    simp[c,d,a]
   ·have a:¬(4096:Int)<cnt v:=by omega
    simp[c,d,a]
  ·simp[c]
theorem ZxJ{s:Scm}(hs:As (Al s)≤1048576)(n:ByteArray)(v:Val)(a:AY v):g7 s n v=some (Fh s true n v):=by
 dsimp only[g7,ZR,wg,lr,cl]
 rw[ZHj hs true n v a]
 rfl
def D5(v:Val):List Val:=v.list++v.pairs.flatMap (fun p=>[p.key,p.val])++v.slots.map fun x=>x.val
theorem WQ(l:List Pr):(l.flatMap fun p=>[p.key,p.val]).length=2*l.length:=by
 induction l with
 |nil=>rfl
 |cons p l a=>rw[ZH,Yq,a];simp;omega
theorem ZIT(l:List Pr):A5 (l.flatMap fun p=>[p.key,p.val])=BG l:=by
 induction l with
 |nil=>rfl
 |cons p l a=>rw[ZH,Jl,a,BG,VF,A5,A5,A5];omega
theorem ZNf(l:List Slt):A5 (l.map fun x=>x.val)=B3 l:=by
 induction l with
 |nil=>rfl
 |cons p l a=>rw[YZ,A5,a,B3,Vv]
theorem ZpP(v:Val):1+v.raws.length+A5 (D5 v)=cnt v:=by
 unfold D5
 rw[Jl,Jl,ZIT,ZNf,MY]
 omega
theorem ZBI{v x:Val}(e:AY v)(g:x∈D5 v):AY x∧As (Ag x)+1≤As (Ag v):=by
 unfold D5 at g
 rcases Y8.1 g with d|d
 ·rcases Y8.1 d with c|c
  ·exact⟨Ie e c,by have:=bZ c;omega⟩
  ·obtain⟨p,a,b⟩:=List.mem_flatMap.1 c
   have h:=QJ a
   have f:=D0 e a
   rcases YI.1 b with rfl|b
   ·exact⟨f.1,by omega⟩
   ·rcases YI.1 b with rfl|b
    ·exact⟨f.2,by omega⟩
    ·cases b
 ·obtain⟨y,a,rfl⟩:=YX.1 d
  exact⟨GZ e a,by have:=bg a;omega⟩
theorem ZBb(l:List Val)(h:l.length<549755813888):UU l=some l:=by
 cases l with
 |nil=>rfl
 |cons x r=>
  dsimp only[UU,lA,al,br,vw,lr,a0,mv,br]
  simp only[DB]at h
  simp
  omega
theorem ZIy{v:Val}(h:SzV v):iT v=some (D5 v):=by
 obtain⟨t1,t2,t3,t4,t5⟩:=h
 have e:=ED (B:=PQ v) (N:=Aj) (ρ:=List Val) v.pairs (fun p=>v.list++p.flatMap fun p=>[p.key,p.val]) (fun i b=>(b,i)) id (fun i y hy=>by
  have a:=Bj hy
  have g:=(Yb.1 hy).1
  have c:i+1<9223372036854775808:=by omega
  have d:(v.list++(v.pairs.take i).flatMap fun p=>[p.key,p.val]).length<549755813800:=by
   rw[Yq,WQ,Yu]
   omega
  rw[List.flatMap_append,←EC]
  generalize (v.list++(v.pairs.take i).flatMap fun p=>[p.key,p.val])=L at d⊢
  dsimp only[PQ,WJ,br,ix,vz,vw,wg,vs,ln,Ai,qK,wa,fl,br]
  simp[a,hy,c]<;>omega) (by
   have:(v.list++v.pairs.flatMap fun p=>[p.key,p.val]).length<549755813800:=by
    rw[Yq,WQ]
    omega
   dsimp only[PQ,WJ,br,ix,vz,vw,wg,vs,ln,Ai,qK,wa,fl,br]
   simp) (A3 (by omega))
 have f:=ED (B:=PS v) (N:=Aj) (ρ:=List Val) v.slots (fun p=>(v.list++v.pairs.flatMap fun p=>[p.key,p.val])++p.map fun x=>x.val) (fun i b=>(b,i)) id (fun i y hy=>by
  have a:=Bj hy
  have g:=(Yb.1 hy).1
  have c:i+1<9223372036854775808:=by omega
  have d:((v.list++v.pairs.flatMap fun p=>[p.key,p.val])++(v.slots.take i).map fun x=>x.val).length<549755813800:=by
   rw[Yq,Yq,WQ,YE,Yu]
   omega
  rw[Eh,←EC]
  generalize ((v.list++v.pairs.flatMap fun p=>[p.key,p.val])++(v.slots.take i).map fun x=>x.val)=L at d⊢
  dsimp only[PS,Wi,br,ix,vz,vw,wg,vs,ln,Ai,ap,wa,fl,br]
  simp[a,hy,c]<;>omega) (by
   dsimp only[PS,Wi,br,ix,vz,vw,wg,vs,ln,Ai,ap,wa,fl,br]
   simp) (A3 (by omega))
 rw[show(v.list++([]:List Pr).flatMap fun p=>[p.key,p.val])=v.list by simp]at e
 rw[show((v.list++v.pairs.flatMap fun p=>[p.key,p.val])++([]:List Slt).map fun x=>x.val)=(v.list++v.pairs.flatMap fun p=>[p.key,p.val])by simp]at f
 dsimp only[iT,nf,ni,pZ,qs,l9,mm,vz,wg,lr,lc,fl,fr,Ah]
 rw[ZBb _ (by omega)]
 simp only[Ya,e,f,id,Fx]
 rfl
theorem ZC5{v:Val}(h:SzV v):(D5 v).length≤4194304:=by
 obtain⟨t1,t2,t3,t4,t5⟩:=h
 unfold D5
 rw[Yq,Yq,WQ,YE]
 omega
theorem sV:∀(d:Nat) (v:Val),As (Ag v)<d→AY v→Mm d v=some (cnt v:Int)
 |0,v,h,_=>by omega
 |d+1,v,h,k=>by
  have l:=B5 k
  have w:=l.r
  have hl:=ZC5 l
  have q:=vE k
  rw[←ZpP]at q
  have r:v.raws.length<4611686018427387904:=by omega
  have s:1+v.raws.length<9223372036854775808:=by omega
  have t:(D5 v).length<4611686018427387904:=by omega
  have m:=ED (B:=PZ (Mm d) (D5 v)) (N:=Aj) (ρ:=Int) (D5 v) (fun p=>((1+v.raws.length+A5 p:Nat):Int)) (fun i b=>(b,i)) id (fun i x f=>by
   have n:=Bj f
   have o:i+1<9223372036854775808:=by have:=(Yb.1 f).1;omega
   have hm:=ZBI k (Yj f)
   have e:=sV d x (by omega) hm.1
   have u:=jG f
   have g:((1+v.raws.length+A5 ((D5 v).take i):Nat):Int)+(cnt x:Int)=((1+v.raws.length+A5 ((D5 v).take i++[x]):Nat):Int):=by
    rw[Jl,A5,A5]
    omega
   have j: -9223372036854775808≤((1+v.raws.length+A5 ((D5 v).take i):Nat):Int)+(cnt x:Int)∧((1+v.raws.length+A5 ((D5 v).take i):Nat):Int)+(cnt x:Int)<9223372036854775808:=by omega
   generalize ((1+v.raws.length+A5 ((D5 v).take i):Nat):Int)=a at g j⊢
   generalize ((1+v.raws.length+A5 ((D5 v).take i++[x]):Nat):Int)=b at g⊢
   generalize (cnt x:Int)=c at e g j
   dsimp only[PZ,WT,br,ix,wg,vs,v2,ln,Ai,cs,wa,wi,br]
   simp only[n,f,Yo,Yr,Ya]
   rw[e,Ya,Yg j,Yg o,g]) (by dsimp only[PZ,WT,br,ix,wg,vs,v2,ln,Ai,cs,wa,wi,br];simp) (A3 (by omega))
  simp only[A5,DV,id]at m
  show SQ (Mm d) v=_
  dsimp only[SQ,n5,oV,mF,vz,wg,vs,lr,lc,cl,wa,Ah]
  rw[ZIy l]
  simp only[r,s,t,Yr,m,Ya,Fx]
  rw[ZpP]
theorem W7{l:List Fld}(h:CG l l.length):∀(d i:Nat) (a b:Fld),l[i]?=some a→l[i+1+d]?=some b→a.num<b.num
 |0,i,a,b,e,c=>h i a b (Yb.1 c).1 e c
 |d+1,i,a,b,e,c=>by
  have g:=(Yb.1 c).1
  have f:i+1+d<l.length:=by omega
  have j:=W7 h d i a l[i+1+d] e (Ye f)
  have k:=h (i+1+d) l[i+1+d] b (by omega) (Ye f) c
  omega
theorem ZPH{l:List Fld}(h:CG l l.length){i:Nat}{f:Fld}(a:l[i]?=some f):∀g∈l.take i,g.num≠f.num:=fun g b=>by
 obtain⟨j,c,rfl⟩:=Rz.1 b
 have:=W7 h (i-(j+1)) j _ f (Ye (by omega)) (by rw[show j+1+(i-(j+1))=i by omega];exact a)
 omega
def DfL(F:List Fld):Prop:=∀f∈F,JG f∧AY f.dflt
theorem MH(F:List Fld)(k:Int):((BC F k).2=false∧AO F k=zF)∨((BC F k).2=true∧AO F k∈F):=by
 unfold AO BC Ch
 cases e:F.find? fun f=>decide (f.num=k)with
 |none=>exact .inl ⟨rfl,rfl⟩
 |some f=>exact .inr ⟨rfl,IL e⟩
def zV:Val:=.mk 0 0 ⟨#[]⟩ [] [] [] []
def rh(f:Fld):Val:=if f.hasDefault=true then f.dflt else if f.card=4 then .mk 11 0 ⟨#[]⟩ [] [] [] []else if f.card=5 then .mk 12 0 ⟨#[]⟩ [] [] [] []else if f.type.kind=10 then .mk 10 0 ⟨#[]⟩ [] [] [] []else if 1≤f.type.kind∧f.type.kind≤9 then .mk f.type.kind 0 ⟨#[]⟩ [] [] [] []else zV
def NB(l:List Slt)(k:Int):Option Slt:=l.find? fun x=>decide (x.num=k)
theorem jM(l:List Slt)(k:Int):Co l k=(NB l k).isSome:=by
 unfold Co NB
 cases e:l.find? fun x=>decide (x.num=k)with
 |none=>exact List.any_eq_false.2 (Zw.1 e)
 |some x=>refine YM.2 ?_;exact⟨x,IL e,ZM (p:=fun x:Slt=>decide (x.num=k)) e⟩
theorem ZtC{F:List Fld}(h:CG F F.length){i:Nat}{f:Fld}(a:F[i]?=some f):F=F.take i++f::F.drop (i+1)∧(∀g∈F.take i,g.num≠f.num)∧∀g∈F.drop (i+1),g.num≠f.num:=by
 obtain⟨hi,e⟩:=Yb.1 a
 refine⟨?_,ZPH h a,fun g c=>?_⟩
 ·rw[←e,List.getElem_cons_drop,FC]
 ·obtain⟨d,b⟩:=YB.1 c
  rw[YO]at b
  have:=W7 h d i f g a b
  omega
theorem MQ{F:List Fld}(h:CG F F.length){i:Nat}{f:Fld}(c:F[i]?=some f):BC F f.num=(f,true):=by
 obtain⟨e,b,j⟩:=ZtC h c
 have a:F.find? (fun g=>decide (g.num=f.num))=some f:=by
  rw[e,List.find?_append,Zw.2 fun g d=>by simpa using b g d]
  simp
 unfold BC Ch
 rw[a]
 rfl
def QU(l:List Slt)(f:Fld):Val:=(NB l f.num).elim (rh f) fun x=>x.val
theorem g48(f:Fld):iA f=some (rh f):=by
 dsimp only[iA,bp,br,wg,lr,cl,br,ZgR,dh,br,wg,lr,cl,br,KI,QN,lr]
 unfold rh zV
 simp only[Ya,Yn,YL,GP,Yt]
 grind
theorem ZNh(l:List Slt)(k:Int):match NB l k with|some x=>∃i:Nat,CW l (fun x=>decide (x.num=k))=(i:Int)∧l[i]?=some x|none=>CW l (fun x=>decide (x.num=k))= -1:=by
 unfold NB CW
 rw[VE]
 cases e:l.findIdx? fun x=>decide (x.num=k)with
 |none=>rfl
 |some i=>
  have a:=(II.1 e).1
  simp[a]
  exact⟨i,rfl,Ye a⟩
theorem g18(s:Scm)(n:ByteArray)(v:Val)(f:Fld)(hs:s.messages.length≤1048576)(j:(AN s n).length≤1048576)(o:v.slots.length≤4194304)(hm:(Ch s.messages zM fun m=>decide (m.name=n)).2=true)(k:BC (AN s n) f.num=(f,true)):O3 s n v f.num=some (QU v.slots f,0):=by
 have b:Gg s n f.num=some (.mk (Ch s.messages zM fun m=>decide (m.name=n)).1 s,f,0):=by
  dsimp only[Gg,Lb,K8,K5,br,vw,wg,lr,lc,cl,br]
  rw[qX _ _ hs,Ya,hm]
  simp only[YJ,Yk,YD,Yr]
  rw[NF _ _ j,Ya]
  rw[show(Ch s.messages zM fun m=>decide (m.name=n)).1.fields=AN s n from rfl,k]
  rfl
 have c:U4 v.slots f.num=some (CW v.slots fun x=>decide (x.num=f.num)):=by
  dsimp only[U4,SI,lr,cs]
  rw[XZ v.slots (fun z=>OQ z f.num) (fun x=>decide (x.num=f.num)) (fun x _=>rfl) (by omega)]
  rfl
 have h:=ZNh v.slots f.num
 unfold QU
 dsimp only[O3,Tn,br,B8,wg,lr,cl,br]
 rw[b,Ya,c,Ya]
 cases e:NB v.slots f.num with
 |none=>
  rw[e]at h
  simp only at h
  rw[h,g48]
  rfl
 |some x=>
  rw[e]at h
  obtain⟨i,d,a⟩:=h
  rw[d]
  have l:=(Yb.1 a).1
  have g:=Bj a
  simp[a,g]
theorem ZJ4{s:Scm}(h:∀(i:Nat) (m:Msg),s.messages[i]?=some m→GdM s m)(hs:As (Al s)≤1048576)(n:ByteArray):CG (AN s n) (AN s n).length∧DfL (AN s n)∧(AN s n).length≤1048576:=by
 have hl:=KS (Df hs) n
 unfold AN Ch at*
 cases e:s.messages.find? fun m=>decide (m.name=n)with
 |none=>exact⟨fun i a b hi=>by simp[zM]at hi,fun f c=>by simp[zM]at c,by simp[zM]⟩
 |some m=>
  rw[e]at hl
  have hm:=IL e
  obtain⟨i,hi⟩:=YB.1 hm
  have g:=h i m hi
  refine⟨g.asc,fun f c=>?_,hl⟩
  obtain⟨j,k⟩:=YB.1 c
  refine⟨(g.df j f k).1,?_⟩
  have d:=CQ (e:=AE) hm
  have l:=CQ (e:=Ao) (show f∈m.fields from c)
  simp only[Al,As,bk]at hs
  simp only[AE,As,bk]at d
  have e:As (Ag f.dflt)≤As (Ao f):=by
   simp only[Ao,Ag,As,bk]
   omega
  show As (Ag f.dflt)≤1048576
  omega
theorem o6g(s:Scm)(n:ByteArray)(hs:As (Al s)≤1048576):Ok (fun b=>b=true→∀(i:Nat) (m:Msg),s.messages[i]?=some m→GdM s m) (gK s n):=by
 dsimp only[gK,fs,vz,wg,lr,Az,A9]
 have h:=Df hs
 have a:=o15 _ h
 have c:∀k:Few s,Ok (fun b=>b=true→∀(i:Nat) (m:Msg),s.messages[i]?=some m→GdM s m) (UK s):=fun _=>o16 hs
 (repeat' (first|with_reducible (first|refine AG (fun _=>?_) fun _=>?_|refine AC ?_)|(with_reducible apply AD;(exact a);intro _ _)|(with_reducible apply AD;(exact c (by simp_all));intro _ _)|(with_reducible apply Bs;(exact fun _=>a);intro _)|(with_reducible apply Bs;(exact fun _=>c (by simp_all));intro _)|with_reducible refine AK ?_ ?_))<;>(simp_all<;>(rename_i q;exact q))
structure GdF (s:Scm) (f:Fld):Prop where
 en:f.type.kind=9→(BA s f.type.name).2=true
 ms:f.type.kind=10→(A8 s f.type.name).2=true
 ty:1≤f.type.kind∧f.type.kind≤10
 un:f.union≠⟨#[]⟩→f.card=2
 cd:f.card≠5→1≤f.card∧f.card≤4
 np:f.type.kind=10→f.card≠3
 ky:f.card=5→f.key=1∨f.key=2∨f.key=3∨f.key=4∨f.key=5∨f.key=7
structure GdS (s:Scm):Prop where
 fl:∀(n:ByteArray) (f:Fld),f∈AN s n→GdF s f
 asc:∀n:ByteArray,CG (AN s n) (AN s n).length
theorem Ko{n:Int}{v:Val}(h:Ca n v=0):v.kind=n∧Bk v=false∧v.text.size≤4096∧Cs n v=true:=by
 unfold Ca at h
 by_cases a1:v.kind≠n∨Bk v=true
 ·rw[Yg a1]at h;cases h
 ·rw[Yf a1]at h
  by_cases a:4096<v.text.size
  ·rw[Yg a]at h;cases h
  ·rw[Yf a]at h
   cases a3:Cs n v with
   |false=>
    rw[a3]at h
    rw[Yf (by decide)]at h
    split at h<;>cases h
   |true=>
    refine⟨Decidable.not_not.1 fun e=>a1 (.inl e),?_,by omega,rfl⟩
    cases b:Bk v with
    |false=>rfl
    |true=>exact absurd (.inr b) a1
theorem kB{s:Scm}{t:Typ}{v:Val}{R:Msg→Val→Int}(a:1≤t.kind)(b:t.kind≤9)(he:t.kind=9→(BA s t.name).2=true):LI s t v=BB R s t v:=by
 unfold LI BB
 rw[Yf (by omega:¬t.kind=10),Yf (by omega:¬(t.kind<1∨9<t.kind))]
 by_cases c:Ca t.kind v≠0∨t.kind≠9
 ·rw[Yg c,Yg c]
 ·rw[Yf c,Yf c,he (by omega),Yf (by decide:¬true=false)]
theorem u0{n:Int}{a b:Val}(l:n=1∨n=2∨n=3∨n=4∨n=5∨n=7)(j:Ca n a=0)(k:Ca n b=0):Hf a b=Gt a b:=by
 obtain⟨a1,h,_,_⟩:=Ko j
 obtain⟨d,i,_,_⟩:=Ko k
 obtain⟨_,a3,a4⟩:=jS (n:=n) (by omega) (by omega) a1 h
 obtain⟨_,e,f⟩:=jS (n:=n) (by omega) (by omega) d i
 unfold Hf Gt
 rw[a1,d,YQ rfl,Y4]
 unfold C9 at a3 a4 e f
 by_cases c:n=7
 ·rw[a3 (YQ (.inl c)),e (YQ (.inl c)),Yg (.inl c)]
  simp
 ·have g:decide (n=7∨n=8)=false:=Dh (by omega)
  rw[a4 g,f g,Yf (by omega),Yf (by omega)]
  simp
theorem Zn9(l:List Pr)(f:Pr→Option Bool)(p:Pr→Bool)(e:∀x∈l,f x=some (p x))(h:l.length≤1048576):Kz l f=some (l.any p):=by
 have g:=Ei (B:=P1 l f) (N:=Aj) l p (fun i=>(i:Int)) () (fun i x a=>by
  have b:=Bj a
  have j:=(Yb.1 a).1
  have c:i+1<9223372036854775808:=by omega
  have d:=e x (Yj a)
  dsimp only[P1,Wf,br,ix,vs,Ar,ln,Ai,cf,wa,br]
  simp only[b,c,d,a,Yo,Yr,Ya]
  cases p x<;>simp) (by simp[P1,Wf,br,ix,vs,Ar,ln,Ai,cf,wa,br]) (A3 (by omega))
 dsimp only[Kz,cC,lr,cs,io,nE,pz,kX,vz,lr,lc,Ah]
 rw[g,←Lz]
 cases l.findIdx? p with
 |none=>rfl
 |some i=>simp
theorem j5(l:List Slt)(f:Slt→Option Bool)(p:Slt→Bool)(a:∀x∈l,f x=some (p x))(h:l.length≤1048576):Ml l f=some (l.any p):=by
 dsimp only[Ml,nR,lr,cs]
 rw[XZ l f p a (by omega)]
 simp only[Ya]
 rw[Zu5]
theorem ZRX(l:List Slt)(f:Fld)(h:l.length≤1048576):Vc l f=some (Co l f.num):=by
 dsimp only[Vc,j6,lr,cs]
 rw[j5 l (fun z=>U7 z f) (fun x=>decide (x.num=f.num)) (fun x _=>rfl) h]
 rfl
theorem ZPh(l:List Slt)(f:Fld)(h:l.length≤1048576):UT l f=some (Co l f.num):=by
 dsimp only[UT,jH,lr,cs]
 rw[j5 l (fun z=>U3 z f) (fun x=>decide (x.num=f.num)) (fun x _=>rfl) h]
 rfl
theorem ZPX(l:List Slt)(f:Fld)(h:l.length≤1048576):US l f=some (Co l f.num):=by
 dsimp only[US,jY,lr,cs]
 rw[j5 l (fun z=>U8 z f) (fun x=>decide (x.num=f.num)) (fun x _=>rfl) h]
 rfl
def DR(F:List Fld)(u:ByteArray):List Fld:=if u=⟨#[]⟩then[]else F.filter fun f=>decide (f.union=u)
theorem ZsX(m:Msg)(u:ByteArray)(h:m.fields.length≤1048576):iG m u=some (DR m.fields u):=by
 unfold DR
 by_cases c:u=⟨#[]⟩
 ·subst c
  rfl
 ·dsimp only[iG,ZT,aL,aE,bO,dQ,br,vz,wg,lr,lc,fl,fr,br]
  rw[m58 _ (by omega),Ya,m57 m.fields (fun z=>UW z u) (fun f=>!decide (f.union=u)) (fun f _=>rfl) (by omega),Ya]
  simp[c]
theorem km(F:List Fld)(u:ByteArray):(DR F u).length≤F.length:=by
 unfold DR
 split
 ·exact DE _
 ·exact JN _ _
theorem H9{F:List Fld}(h:CG F F.length){g:Fld}(a:g∈F):BC F g.num=(g,true):=by
 obtain⟨i,hi⟩:=YB.1 a
 exact MQ h hi
theorem ZO6{F:List Fld}(h:CG F F.length)(l:List Slt)(k:Int)(j:Co l k=false)(u:ByteArray):((DR F u).any fun g=>(!decide (g.num=k))&&Co l g.num)=Gw F l u:=by
 unfold DR Gw
 by_cases c:u=⟨#[]⟩
 ·simp[c]
 ·rw[Yf c,Dh c,YW,Y4,Hv,YM,YM]
  constructor
  ·rintro⟨g,d,a⟩
   obtain⟨m,n⟩:=DD.1 d
   rw[Yc]at a
   obtain⟨y,o,i⟩:=YM.1 (show(l.any fun x=>decide (x.num=g.num))=true from a.2)
   rw[Yn]at i
   refine⟨y,o,?_⟩
   unfold AO
   rw[i,H9 h m]
   exact n
  ·rintro⟨y,d,a⟩
   rw[Yn]at a
   rcases MH F y.num with⟨f,b⟩|⟨f,b⟩
   ·rw[b]at a
    exact absurd a.symm c
   ·have p:=KP f
    refine⟨AO F y.num,DD.2 ⟨b,YQ a⟩,?_⟩
    rw[p,Yc]
    have hy:Co l y.num=true:=YM.2 ⟨y,d,YQ rfl⟩
    refine⟨?_,hy⟩
    rw[YL,Yt]
    intro e
    rw[e]at hy
    rw[hy]at j
    cases j
abbrev Nc:=Scm→Fld→Val→Int→Option Int
theorem ZHt(R:Nc)(o:Fld→Val→Int)(s:Scm)(m:Msg)(l:List Slt)(i:Nat)(x:Slt)(d:Int)(F:CG m.fields m.fields.length)(hm:m.fields.length≤1048576)(hl:l.length≤1048576)(n:l[i]?=some x)(E:∀f:Fld,f∈m.fields→R s f x.val d=some (o f x.val)):Va R s m l i d=some (DI o m.fields l i x):=by
 have hi:=(Yb.1 n).1
 have u:(l.take i).length≤1048576:=by rw[Yu];omega
 have w0:(0:Int)≤i∧(i:Int)<l.length:=by omega
 have b:(0:Int)≤i∧(i:Int)≤l.length:=by omega
 have c:i≤l.length:=by omega
 have w:(BC m.fields x.num).1=AO m.fields x.num:=rfl
 have J:(l.getD i Rw.z)=x:=by rw[Yp,n];rfl
 have I:∀y:Fld×Bool,Co (l.take i) y.1.num=false→An (MS s l i d R y (DR m.fields y.1.union)) Aj 0=some (if Gw m.fields (l.take i) y.1.union=true then .inr 15 else .inl ()):=fun y hy=>by
  have v:=km m.fields y.1.union
  have q:=Vz (B:=MS s l i d R y (DR m.fields y.1.union)) (N:=Aj) (DR m.fields y.1.union) (fun g=>(!decide (g.num=y.1.num))&&Co (l.take i) g.num) (15:Int) () (fun j g k=>by
   have C:=Bj k
   have D:j+1<9223372036854775808:=by have:=(Yb.1 k).1;omega
   have e:=ZPh (l.take i) g u
   dsimp only[MS,XA,br,ix,wg,vs,Ar,ln,Ai,Dy,wa,br]
   simp only[C,D,k,b,c,e,YY,Bd.c,Bd.vl,JW,Gc,Yo,Yr,Ya,B9,Y5,Y2,YH,DE]
   cases(!decide (g.num=y.1.num))&&Co (l.take i) g.num<;>simp) (by dsimp only[MS,XA,br,ix,wg,vs,Ar,ln,Ai,Dy,wa,br];simp) (A3 (by omega))
  rw[q,ZO6 F _ _ hy]
 have z:=ZRX (l.take i) (AO m.fields x.num) u
 have A:=ZsX m (AO m.fields x.num).union hm
 have v:(DR m.fields (AO m.fields x.num).union).length<4611686018427387904:=by have:=km m.fields (AO m.fields x.num).union;omega
 unfold DI
 dsimp only[Va,lC,oX,oY,p5,mS,br,B8,vz,vw,wg,lr,lc,cl,cs,sL,du,Ah,br]
 simp only[YY,n,w0,b,c,J,B9,Yr,NF _ _ hm,Ya,w,Bd.c,Bd.vl,JW,Gc,z,A,v,DE]
 cases r:(BC m.fields x.num).2 with
 |false=>simp
 |true=>
  have t:(AO m.fields x.num).num=x.num:=KP r
  have a:AO m.fields x.num∈m.fields:=by
   rcases MH m.fields x.num with⟨h,p⟩|⟨h,p⟩
   ·rw[r]at h;cases h
   ·exact p
  have H:=E _ a
  have q:=I (BC m.fields x.num)
  rw[w,t]at q
  rw[t]
  cases G:Co (l.take i) x.num with
  |true=>simp
  |false=>
   have q:=q G
   simp only[q,YJ,Yk,YD,Ya]
   cases Gw m.fields (l.take i) (AO m.fields x.num).union with
   |true=>simp
   |false=>simp[H]
structure GdT (s:Scm) (t:Typ):Prop where
 en:t.kind=9→(BA s t.name).2=true
 ms:t.kind=10→(A8 s t.name).2=true
 ty:1≤t.kind∧t.kind≤10
theorem GdF.t{s:Scm}{f:Fld}(h:GdF s f):GdT s f.type:=⟨h.en,h.ms,h.ty⟩
def Tv(R:Nc)(s:Scm)(d:Nat):Prop:=∀d':Nat,d=d'+1→∀(f:Fld) (x:Val),GdF s f→AY x→R s f x (16-(d':Int))=some (BL (AR s true d') s true f x)
theorem ZRe{s:Scm}(hs:As (Al s)≤1048576)(m:Msg)(x:Raw)(hm:m.fields.length≤1048576)(q:x.data.size≤1048576):i7 s m x=some (F2 s m.fields x):=by
 have h:=Df hs
 have o:x.data.size<4611686018427387904:=by omega
 have k:=Xf s (AO m.fields x.num).type.name h.el
 have l:=ZlZ (BA s (AO m.fields x.num).type.name).1 x.bits (Pj h _)
 have p:(BC m.fields x.num).1=AO m.fields x.num:=rfl
 have n:iL s (AO m.fields x.num) x=some (QI s (AO m.fields x.num) x):=by
  unfold QI
  dsimp only[iL,nQ,wg,lr,cl,Az]
  rw[k,Ya,l]
  generalize BA s (AO m.fields x.num).type.name=g
  generalize AO m.fields x.num=f
  simp only[Y2,Y5,Yr,YH]
  congr 1
  cases g.2<;>cases g.1.opn<;>cases decide (f.type.kind=9)<;>cases decide (f.card=5)<;>cases decide (x.wire=0)<;>cases decide (x.bits<2147483648)<;>cases Ed g.1 x.bits<;>rfl
 dsimp only[i7,mR,br,vy,wg,lr,cl,Az,A9,br]
 rw[NF _ _ hm,Ya,p,n]
 unfold F2
 generalize QI s (AO m.fields x.num) x=kp
 have j:(if((decide (x.wire=3)&&decide ((4096:Int)<x.data.size))||decide ((65536:Int)<x.data.size))=true then some (3:Int)else some 0)=some (if(x.wire=3∧4096<x.data.size)∨65536<x.data.size then 3 else 0):=by
  by_cases c:(x.wire=3∧4096<x.data.size)∨65536<x.data.size
  ·rw[Yg c,Yg]
   simp only[Yz,Yc,Yn]
   omega
  ·rw[Yf c,Yf]
   simp only[Yz,Yc,Yn]
   omega
 simp only[o,Y5,Yr,Y2,YH]
 by_cases a:x.num<1∨65535<x.num∨x.wire<0∨6<x.wire
 ·have a1:(((decide (x.num<1)||decide (65535<x.num))||decide (x.wire<0))||decide (6<x.wire))=true:=by
   simp only[Yz,Yn]
   omega
  rw[Yg a1,Yg (by omega)]
 ·have a1:¬(((decide (x.num<1)||decide (65535<x.num))||decide (x.wire<0))||decide (6<x.wire))=true:=by
   simp only[Yz,Yn]
   omega
  rw[Yf a1]
  by_cases b:(x.wire≤2∧x.data≠⟨#[]⟩)∨(2<x.wire∧x.bits≠0)
  ·have d:((decide (x.wire≤2)&&!decide (x.data=⟨#[]⟩))||((!decide (x.wire≤2))&&!decide (x.bits=0)))=true:=by
    by_cases i:x.data=⟨#[]⟩<;>simp only[i,Yo,YF,YJ,YW,Hr,IN,GL,Yz,Yc,YL,Yn,Yt,ne_eq,IH,GN,E1,Hx,LC]at b⊢<;>omega
   have e:x.num<1∨65535<x.num∨x.wire<0∨6<x.wire∨(x.wire≤2∧x.data≠⟨#[]⟩)∨(2<x.wire∧x.bits≠0):=.inr (.inr (.inr (.inr b)))
   rw[Yg e,d]
   rfl
  ·have d:((decide (x.wire≤2)&&!decide (x.data=⟨#[]⟩))||((!decide (x.wire≤2))&&!decide (x.bits=0)))=false:=by
    by_cases i:x.data=⟨#[]⟩<;>simp only[i,Yo,YF,YJ,YW,Hr,IN,GL,Hs,GP,Rq,Yn,Yt,ne_eq,IH,GN,E1,Hx,LC]at b⊢<;>omega
   have e:¬(x.num<1∨65535<x.num∨x.wire<0∨6<x.wire∨(x.wire≤2∧x.data≠⟨#[]⟩)∨(2<x.wire∧x.bits≠0)):=fun h=>by
    rcases h with h|h|h|h|h
    ·exact a (.inl h)
    ·exact a (.inr (.inl h))
    ·exact a (.inr (.inr (.inl h)))
    ·exact a (.inr (.inr (.inr h)))
    ·exact b h
   rw[Yf e,d,j]
   cases(BC m.fields x.num).2<;>cases kp<;>simp
theorem wI(R:Nc){s:Scm}(hs:As (Al s)≤1048576)(g:GdS s)(n:ByteArray)(v:Val)(d:Nat)(L:d≤16)(q:AY v)(C:Tv R s d):U5 R s (A8 s n).1 v (17-(d:Int))=some (AR s true d (A8 s n).1 v):=by
 have h:=Df hs
 have hm:(A8 s n).1.fields.length≤1048576:=KS h n
 have y:CG (A8 s n).1.fields (A8 s n).1.fields.length:=g.asc n
 have j:∀f∈(A8 s n).1.fields,GdF s f:=g.fl n
 generalize (A8 s n).1=m at hm y j
 have E:=B5 q
 obtain⟨s1,s2,M,z,O⟩:=B5 q
 have I:m.fields.length<4611686018427387904:=by omega
 have J:v.slots.length<4611686018427387904:=by omega
 have K:v.raws.length<4611686018427387904:=by omega
 dsimp only[U5,oG,oi,qx,mA,ox,br,vz,wg,lr,lc,Az,Ah,br]
 rw[lH E]
 by_cases c:v.kind≠10∨Bk v=true
 ·have A:AR s true d m v=12:=by cases d<;>(unfold AR;rw[Yg c])
  rw[A]
  by_cases b:v.kind=10
  ·have p:Bk v=true:=c.resolve_left fun e=>e b
   simp[b,p]
  ·simp[b]
 ·have b:v.kind=10:=Decidable.not_not.1 fun e=>c (.inl e)
  have p:Bk v=false:=by
   cases h:Bk v with
   |false=>rfl
   |true=>exact absurd (.inr h) c
  cases d with
  |zero=>
   unfold AR
   rw[Yf c]
   simp[b,p]
  |succ d=>
   have u:¬(16:Int)<17-((d+1:Nat):Int):=by omega
   have F:=FI (B:=PU s m v (17-((d+1:Nat):Int)) R) (N:=Aj) v.slots (DI (BL (AR s true d) s true) m.fields v.slots) id () (fun i x a _=>by
    have e:=ZHt R (BL (AR s true d) s true) s m v.slots i x (17-((d+1:Nat):Int)) y hm z a fun f t=>by
     have:=C d rfl f x.val (j f t) (GZ q (Yj a))
     rw[show 17-((d+1:Nat):Int)=16-(d:Int)by omega]
     exact this
    have k:=Bj a
    have l:i+1<9223372036854775808:=by have:=(Yb.1 a).1;omega
    dsimp only[PU,W0,br,wg,vs,v2,Ar,ln,Ai,cs,wa,br]
    simp only[k,l,e,Yo,Yr,Ya]
    by_cases hy:DI (BL (AR s true d) s true) m.fields v.slots i x=0<;>simp[hy]) (by dsimp only[PU,W0,br,wg,vs,v2,Ar,ln,Ai,cs,wa,br];simp) (A3 (by omega))
   have G:=FI (B:=PJ s m v R) (N:=Aj) m.fields (fun _ f=>FY v.slots f) id () (fun i f j _=>by
    have k:=Bj j
    have l:i+1<9223372036854775808:=by have:=(Yb.1 j).1;omega
    have e:=ZPX v.slots f z
    unfold FY
    dsimp only[PJ,Xa,br,ix,wg,vs,Ar,ln,Ai,Dy,wa,br]
    simp only[k,l,j,e,Yo,Yr,Ya,Y5,Y2,YH]
    by_cases D:f.card=1<;>cases Co v.slots f.num<;>simp[D]) (by dsimp only[PJ,Xa,br,ix,wg,vs,Ar,ln,Ai,Dy,wa,br];simp) (A3 (by omega))
   have H:=FI (B:=PF s m v R) (N:=Aj) v.raws (fun _ x=>F2 s m.fields x) id () (fun i x a _=>by
    have k:=Bj a
    have l:i+1<9223372036854775808:=by have:=(Yb.1 a).1;omega
    have e:=ZRe hs m x hm (ym q (Yj a))
    dsimp only[PF,Wc,br,ix,wg,vs,Ar,ln,Ai,cl,wa,br]
    simp only[k,l,a,e,Yo,Yr,Ya]
    by_cases hy:F2 s m.fields x=0<;>simp[hy]) (by dsimp only[PF,Wc,br,ix,wg,vs,Ar,ln,Ai,cl,wa,br];simp) (A3 (by omega))
   unfold AR
   rw[Yf c]
   simp only[b,p,u,I,J,K,F,G,H,Yo,YF,YJ,YW,Ge,Yk,Fw,Y2,YH,Yr,YD,Ya]
   by_cases o:BI (DI (BL (AR s true d) s true) m.fields v.slots) v.slots 0=0
   ·by_cases r:BI (fun _ f=>FY v.slots f) m.fields 0=0
    ·by_cases w:BI (fun _ x=>F2 s m.fields x) v.raws 0=0
     ·simp[o,r,w]
     ·simp[o,r,w]
    ·simp[o,r]
   ·simp[o]
theorem vu(R:Nc){s:Scm}(hs:As (Al s)≤1048576)(g:GdS s)(t:Typ)(a:GdT s t)(v:Val)(d:Nat)(j:d≤16)(b:AY v)(i:Tv R s d):Mq R s t v (16-(d:Int))=some (BB (AR s true d) s t v):=by
 have h:=Df hs
 have e:OY s t.name=some (A8 s t.name):=qZ s _ h.ml
 have hm:=wI R hs g t.name v d j b i
 have w: -9223372036854775808≤17-(d:Int)∧17-(d:Int)<9223372036854775808:=by omega
 have wl:16-(d:Int)+1=17-(d:Int):=by omega
 dsimp only[Mq,oE,br,wg,vs,lr,cl,cs,wi,br]
 by_cases c:t.kind=10
 ·have f:=a.ms c
  unfold BB
  rw[Yg c,Yg f,e]
  simp only[c,Yo,Yr,Ya,w,B9,wl,hm]
 ·rw[od s t h (B5 b),kB (R:=AR s true d) a.ty.1 (by have:=a.ty.2;omega) a.en]
  simp only[c,YF,Yk,YD,Ya]
theorem ZOF(R:Nc){s:Scm}(hs:As (Al s)≤1048576)(g:GdS s)(f:Fld)(C:GdF s f)(H:f.card=5)(l:List Pr)(hl:l.length≤1048576)(A:∀p∈l,AY p.key∧AY p.val)(d:Nat)(J:d≤16)(I:Tv R s d):U1 R s f l (16-(d:Int))=some (BI (Gx (BB (AR s true d) s f.type) f.key true l) l 0):=by
 have h:=Df hs
 have y:=fun(x:Val) (L:AY x)=>vu R hs g f.type C.t x d J L I
 have K:=C.ky H
 have w2:l.length<4611686018427387904:=by omega
 generalize 16-(d:Int)=O at y
 have P:=FI (B:=MR s f l O R) (N:=Aj) l (Gx (BB (AR s true d) s f.type) f.key true l) id () (fun i p a G=>by
  have v:=Bj a
  have hi:=(Yb.1 a).1
  have w:i+1<9223372036854775808:=by omega
  have F:i≤l.length:=by omega
  have BX:=A p (Yj a)
  have t:=od s (.mk f.key ⟨#[]⟩) h (B5 BX.1)
  have u:LI s (.mk f.key ⟨#[]⟩) p.key=Ca f.key p.key:=by
   unfold LI
   rw[Yg (.inr (show f.key≠9 by omega))]
  rw[u]at t
  have D:=y p.val BX.2
  have M:∀q∈l.take i,Ca f.key q.key=0:=fun q m=>by
   obtain⟨j,k⟩:=YB.1 m
   rw[YS]at k
   split at k
   ·have:=G j q (by assumption) k
    unfold Gx at this
    by_cases c:Ca f.key q.key=0
    ·exact c
    ·rw[Yg c]at this
     exact absurd this c
   ·cases k
  unfold Gx
  by_cases n:Ca f.key p.key=0
  ·have E:Kz (l.take i) (fun z=>OP z p)=some ((l.take i).any fun q=>Gt q.key p.key):=Zn9 _ _ _ (fun q m=>by
    have b:=M q m
    have kd:=(Ko b).1
    have e:=ZWP (d:=q.key) (x:=p.key) (by rw[kd];omega) (A q (JP m)).1 BX.1
    rw[u0 K b n]at e
    dsimp only[OP,lJ,wg,lr,cl]
    rw[e]
    rfl) (by rw[Yu];omega)
   dsimp only[MR,PG,br,ix,wg,vs,Ar,ln,Ai,cl,cs,wa,sL,br]
   simp only[v,w,F,a,t,D,E,n,Bd.c,Bd.vl,JW,Gc,Yo,Yr,Ya,B9,DE]
   by_cases o:((l.take i).any fun q=>Gt q.key p.key)=true
   ·simp[o]
   ·by_cases r:BB (AR s true d) s f.type p.val=0
    ·simp only[o,r]
     simp
    ·simp only[o,r]
     simp[r]
  ·dsimp only[MR,PG,br,ix,wg,vs,Ar,ln,Ai,cl,cs,wa,sL,br]
   simp only[v,w,a,t,Yo,Yr,Ya]
   simp[n]) (by dsimp only[MR,PG,br,ix,wg,vs,Ar,ln,Ai,cl,cs,wa,sL,br];simp) (A3 (by omega))
 dsimp only[U1,oe,mL,mw,vz,lr,lc,Ah]
 rw[P]
 by_cases c6:BI (Gx (BB (AR s true d) s f.type) f.key true l) l 0=0
 ·simp[c6,w2]
 ·simp[c6,w2]
theorem ZRw(R:Nc){s:Scm}(hs:As (Al s)≤1048576)(g:GdS s)(f:Fld)(o:GdF s f)(v:Val)(d:Nat)(n:d≤16)(k:AY v)(m:Tv R s d):Sg R s f v (16-(d:Int))=some (BL (AR s true d) s true f v):=by
 have h:=Df hs
 have y:=B5 k
 obtain⟨s1,s2,C,D,E⟩:=B5 k
 have q:v.list.length<4611686018427387904:=by omega
 have l:=fun(x:Val) (b:AY x)=>vu R hs g f.type o.t x d n b m
 have hN:=fun u=>ZOF R hs g f o u v.pairs C (fun p w=>D0 k w) d n m
 generalize 16-(d:Int)=z at l hN
 have A:=FI (B:=PE s f v z R) (N:=Aj) v.list (fun _ x=>BB (AR s true d) s f.type x) id () (fun i x b _=>by
  have r:=Bj b
  have t:i+1<9223372036854775808:=by have:=(Yb.1 b).1;omega
  have e:=l x (Ie k (Yj b))
  dsimp only[PE,XC,br,ix,wg,vs,v2,Ar,ln,Ai,cs,wa,br]
  simp only[r,t,b,e,Yo,Yr,Ya]
  by_cases hy:BB (AR s true d) s f.type x=0<;>simp[hy]) (by dsimp only[PE,XC,br,ix,wg,vs,v2,Ar,ln,Ai,cs,wa,br];simp) (A3 (by omega))
 have e0:=l v k
 unfold BL
 dsimp only[Sg,l6,qq,oh,mc,qp,n0,lj,nO,br,vz,wg,lr,lc,Az,cs,Ah,br]
 rw[lH y,A,e0]
 by_cases c:f.card=4
 ·by_cases a:v.kind=11
  ·cases Bk v with
   |true=>simp[c,a]
   |false=>
    by_cases c6:BI (fun _ x=>BB (AR s true d) s f.type x) v.list 0=0
    ·simp[c,a,c6,q]
    ·simp[c,a,c6,q]
  ·simp[c,a]
 ·by_cases j:f.card=5
  ·have hN:=hN j
   by_cases a:v.kind=12
   ·cases Bk v with
    |true=>simp[j,a]
    |false=>simp[j,a,hN]
   ·simp[j,a]
  ·simp[c,j]
theorem Zsh{s:Scm}(hs:As (Al s)≤1048576)(g:GdS s):∀(a d:Nat),d<a→d≤16→∀(f:Fld) (v:Val),GdF s f→AY v→KH a s f v (16-(d:Int))=some (BL (AR s true d) s true f v)
 |0,d,b,_,_,_,_,_=>absurd b (GO _)
 |a+1,d,b,c,f,v,h,j=>ZRw (KH a) hs g f h v d c j fun d' e k x i l=>Zsh hs g a d' (by omega) (by omega) k x i l
theorem ZSd{s:Scm}(hs:As (Al s)≤1048576)(g:GdS s)(n:ByteArray)(v:Val)(b:AY v):iR s n v=some (Fh s true n v):=by
 have h:=Df hs
 have j:OY s n=some (A8 s n):=qZ s _ h.ml
 have i:=wI (KH Aj) hs g n v 16 (Yh _) b fun d' e f x l m=>Zsh hs g Aj d' (by have:=dV;omega) (by omega) f x l m
 rw[show(17:Int)-((16:Nat):Int)=1 by decide]at i
 have k:=sV Aj v (by have o:As (Ag v)≤1048576:=b;exact A3 (by omega)) b
 unfold Fh
 dsimp only[iR,lR,br,wg,lr,cl,br]
 rw[j,Ya,i,k]
 cases(A8 s n).2 with
 |false=>simp
 |true=>
  by_cases c:AR s true 16 (A8 s n).1 v=0
  ·by_cases d:4096<cnt v
   ·have a:(4096:Int)<cnt v:=by omega
    simp[c,d,a]
   ·have a:¬(4096:Int)<cnt v:=by omega
    simp[c,d,a]
  ·simp[c]
def HB(s:Scm)(t:Typ)(v:Val):Bool:=if t.kind=10 then decide (Fh s true t.name v=0)else decide (BB (AR s true 16) s t v=0)
theorem ZKr{s:Scm}(hs:As (Al s)≤1048576)(g:GdS s)(t:Typ)(v:Val)(d:AY v):iH s t v=some (HB s t v):=by
 have h:=Df hs
 have i:KI t.kind=some (decide (1≤t.kind)&&decide (t.kind≤9)):=rfl
 unfold HB
 dsimp only[iH,bV,br,wg,lr,cl,br]
 rw[ZSd hs g t.name v d,i,Xf s _ h.el,od s t h (B5 d)]
 by_cases c:t.kind=10
 ·simp[c]
 ·by_cases a:1≤t.kind∧t.kind≤9
  ·by_cases b:t.kind=9
   ·cases he:(BA s t.name).2 with
    |false=>
     have e:BB (AR s true 16) s t v≠0:=by
      unfold BB
      rw[Yf c,Yf (by omega)]
      split
      ·rename_i h
       rcases h with h|h
       ·exact h
       ·exact absurd b h
      ·decide
     simp[b,he]
     exact fun h=>e h
    |true=>
     rw[kB (R:=AR s true 16) a.1 a.2 fun _=>he]
     simp[b,he]
   ·rw[kB (R:=AR s true 16) a.1 a.2 fun e=>absurd e b]
    simp[c,a.1,a.2,b]
  ·have e:BB (AR s true 16) s t v=12:=by
    unfold BB
    rw[Yf c,Yg (by omega)]
   have f:(decide (1≤t.kind)&&decide (t.kind≤9))=false:=by
    rw[GP,Yt,Yt]
    omega
   rw[e]
   simp[c,f]
theorem Zv0{α:Type}[Inhabited α]{l:List α}{z:α}{p:α→Bool}{x:α}(b:x∈l)(a:p x=true):(Ch l z p).2=true:=by
 unfold Ch
 cases e:l.find? p with
 |none=>exact absurd a (Zw.1 e x b)
 |some y=>rfl
theorem ZP4{s:Scm}(h:∀(i:Nat) (m:Msg),s.messages[i]?=some m→GdM s m)(hs:As (Al s)≤1048576):GdS s:=by
 refine⟨fun n f a=>?_,fun n=>(ZJ4 h hs n).1⟩
 unfold AN Ch at a
 cases e:s.messages.find? fun m=>decide (m.name=n)with
 |none=>rw[e]at a;cases a
 |some m=>
  rw[e]at a
  obtain⟨i,hi⟩:=YB.1 (IL e)
  obtain⟨j,g⟩:=YB.1 (show f∈m.fields from a)
  obtain⟨_,c,⟨t1,t2,t3⟩,u⟩:=(h i m hi).df j f g
  refine⟨fun k=>?_,fun k=>?_,t3,u,fun k=>⟨(c.1 k).1,(c.1 k).2.1⟩,fun k=>(t2 k).2,c.2⟩
  ·obtain⟨x,b,d⟩:=t1 k
   exact Zv0 b (YQ d)
  ·obtain⟨⟨x,b,d⟩,_⟩:=t2 k
   exact Zv0 b (YQ d)
end Go.Proofs.YthgmbpciandpiaaGreat
