import Derived.Test.YtleccgigifnfgaaGreatCx26
import Derived.Test.YtleccgigifnfgaaGreatCx00
namespace Go.Proofs.YtleccgigifnfgaaGreat
set_option linter.all false
open Go Go.Eng
structure GdT (s:Scm) (t:Typ):Prop where
 en:t.kind=9→(Bo s t.name).2=true
 ms:t.kind=10→(A9 s t.name).2=true
 ty:1≤t.kind∧t.kind≤10
theorem GdF.t{s:Scm}{f:Fld}(h:GdF s f):GdT s f.type:=⟨h.en,h.ms,h.ty⟩
def SZ(R:Mp)(s:Scm)(d:Nat):Prop:=∀d':Nat,d=d'+1→∀(f:Fld) (x:Val),GdF s f→AS x→R s f x (16-(d':Int))=some (CM (AX s true d') s true f x)
theorem ZNl{s:Scm}(hs:Ay (Av s)≤1048576)(m:Msg)(x:Raw)(hm:m.fields.length≤1048576)(q:x.data.size≤1048576):fw s m x=some (F0 s m.fields x):=by
 have h:=Dt hs
 have o:x.data.size<4611686018427387904:=by omega
 have k:=Vi s (AR m.fields x.num).type.name h.el
 have l:=ZlC (Bo s (AR m.fields x.num).type.name).1 x.bits (OK h _)
 have p:(BP m.fields x.num).1=AR m.fields x.num:=rfl
 have n:fL s (AR m.fields x.num) x=some (PM s (AR m.fields x.num) x):=by
  unfold PM
  dsimp only[fL,l0,vw,lr,cl,clg]
  rw[k,Yc,l]
  generalize Bo s (AR m.fields x.num).type.name=g
  generalize AR m.fields x.num=f
  simp only[Dh,Ce,Yy,YN]
  congr 1
  cases g.2<;>cases g.1.opn<;>cases decide (f.type.kind=9)<;>cases decide (f.card=5)<;>cases decide (x.wire=0)<;>cases decide (x.bits<2147483648)<;>cases DR g.1 x.bits<;>rfl
 dsimp only[fw,lx,br,vy,vw,lr,cl,clg,A2,br]
 rw[Wz _ _ hm,Yc,p,n]
 unfold F0
 generalize PM s (AR m.fields x.num) x=kp
 have j:(if((decide (x.wire=3)&&decide ((4096:Int)<x.data.size))||decide ((65536:Int)<x.data.size))=true then some (3:Int)else some 0)=some (if(x.wire=3∧4096<x.data.size)∨65536<x.data.size then 3 else 0):=by
  by_cases c:(x.wire=3∧4096<x.data.size)∨65536<x.data.size
  ·rw[Yq c,Yq]
   simp only[Yh,Ya,Yd]
   omega
  ·rw[Ys c,Ys]
   simp only[Yh,Ya,Yd]
   omega
 simp only[o,Ce,Yy,Dh,YN]
 by_cases a:x.num<1∨65535<x.num∨x.wire<0∨6<x.wire
 ·have a1:(((decide (x.num<1)||decide (65535<x.num))||decide (x.wire<0))||decide (6<x.wire))=true:=by
   simp only[Yh,Yd]
   omega
  rw[Yq a1,Yq (by omega)]
 ·have a1:¬(((decide (x.num<1)||decide (65535<x.num))||decide (x.wire<0))||decide (6<x.wire))=true:=by
   simp only[Yh,Yd]
   omega
  rw[Ys a1]
  by_cases b:(x.wire≤2∧x.data≠⟨#[]⟩)∨(2<x.wire∧x.bits≠0)
  ·have d:((decide (x.wire≤2)&&!decide (x.data=⟨#[]⟩))||((!decide (x.wire≤2))&&!decide (x.bits=0)))=true:=by
    by_cases i:x.data=⟨#[]⟩<;>simp only[i,Yv,YH,YI,YT,GW,Jc,Gj,Yh,Ya,Yj,Yd,Yb,ne_eq,GV,FO,EN,GZ,HZ]at b⊢<;>omega
   have e:x.num<1∨65535<x.num∨x.wire<0∨6<x.wire∨(x.wire≤2∧x.data≠⟨#[]⟩)∨(2<x.wire∧x.bits≠0):=.inr (.inr (.inr (.inr b)))
   rw[Yq e,d]
   rfl
  ·have d:((decide (x.wire≤2)&&!decide (x.data=⟨#[]⟩))||((!decide (x.wire≤2))&&!decide (x.bits=0)))=false:=by
    by_cases i:x.data=⟨#[]⟩<;>simp only[i,Yv,YH,YI,YT,GW,Jc,Gj,Ym,Yg,WZ,Yd,Yb,ne_eq,GV,FO,EN,GZ,HZ]at b⊢<;>omega
   have e:¬(x.num<1∨65535<x.num∨x.wire<0∨6<x.wire∨(x.wire≤2∧x.data≠⟨#[]⟩)∨(2<x.wire∧x.bits≠0)):=fun h=>by
    rcases h with h|h|h|h|h
    ·exact a (.inl h)
    ·exact a (.inr (.inl h))
    ·exact a (.inr (.inr (.inl h)))
    ·exact a (.inr (.inr (.inr h)))
    ·exact b h
   rw[Ys e,d,j]
   cases(BP m.fields x.num).2<;>cases kp<;>simp
theorem td(R:Mp){s:Scm}(hs:Ay (Av s)≤1048576)(g:GdS s)(n:ByteArray)(v:Val)(d:Nat)(L:d≤16)(q:AS v)(C:SZ R s d):TC R s (A9 s n).1 v (17-(d:Int))=some (AX s true d (A9 s n).1 v):=by
 have h:=Dt hs
 have hm:(A9 s n).1.fields.length≤1048576:=LU h n
 have y:DE (A9 s n).1.fields (A9 s n).1.fields.length:=g.asc n
 have j:∀f∈(A9 s n).1.fields,GdF s f:=g.fl n
 generalize (A9 s n).1=m at hm y j
 have E:=BI q
 obtain⟨s1,s2,M,z,O⟩:=BI q
 have I:m.fields.length<4611686018427387904:=by omega
 have J:v.slots.length<4611686018427387904:=by omega
 have K:v.raws.length<4611686018427387904:=by omega
 dsimp only[TC,lU,lh,kJ,jE,kx,br,vz,vw,lr,lc,clg,Ag,br]
 rw[lY E]
 by_cases c:v.kind≠10∨BB v=true
 ·have A:AX s true d m v=12:=by cases d<;>(unfold AX;rw[Yq c])
  rw[A]
  by_cases b:v.kind=10
  ·have p:BB v=true:=c.resolve_left fun e=>e b
   simp[b,p]
  ·simp[b]
 ·have b:v.kind=10:=Decidable.not_not.1 fun e=>c (.inl e)
  have p:BB v=false:=by
   cases h:BB v with
   |false=>rfl
   |true=>exact absurd (.inr h) c
  cases d with
  |zero=>
   unfold AX
   rw[Ys c]
   simp[b,p]
  |succ d=>
   have u:¬(16:Int)<17-((d+1:Nat):Int):=by omega
   have F:=El (B:=OQ s m v (17-((d+1:Nat):Int)) R) (N:=Aj) v.slots (Fx (CM (AX s true d) s true) m.fields v.slots) id () (fun i x a _=>by
    have e:=ZH1 R (CM (AX s true d) s true) s m v.slots i x (17-((d+1:Nat):Int)) y hm z a fun f t=>by
     have:=C d rfl f x.val (j f t) (Hu q (Yu a))
     rw[show 17-((d+1:Nat):Int)=16-(d:Int)by omega]
     exact this
    have k:=Bz a
    have l:i+1<9223372036854775808:=by have:=(Yi.1 a).1;omega
    dsimp only[OQ,Vr,br,vw,vs,v2,Ap,ln,Ak,cs,wa,br]
    simp only[k,l,e,Yv,Yy,Yc]
    by_cases hy:Fx (CM (AX s true d) s true) m.fields v.slots i x=0<;>simp[hy]) (by dsimp only[OQ,Vr,br,vw,vs,v2,Ap,ln,Ak,cs,wa,br];simp) (AY (by omega))
   have G:=El (B:=Pb s m v R) (N:=Aj) m.fields (fun _ f=>Im v.slots f) id () (fun i f j _=>by
    have k:=Bz j
    have l:i+1<9223372036854775808:=by have:=(Yi.1 j).1;omega
    have e:=ZMu v.slots f z
    unfold Im
    dsimp only[Pb,U2,br,ix,vw,vs,Ap,ln,Ak,De,wa,br]
    simp only[k,l,j,e,Yv,Yy,Yc,Ce,Dh,YN]
    by_cases D:f.card=1<;>cases Dc v.slots f.num<;>simp[D]) (by dsimp only[Pb,U2,br,ix,vw,vs,Ap,ln,Ak,De,wa,br];simp) (AY (by omega))
   have H:=El (B:=OZ s m v R) (N:=Aj) v.raws (fun _ x=>F0 s m.fields x) id () (fun i x a _=>by
    have k:=Bz a
    have l:i+1<9223372036854775808:=by have:=(Yi.1 a).1;omega
    have e:=ZNl hs m x hm (ye q (Yu a))
    dsimp only[OZ,U3,br,ix,vw,vs,Ap,ln,Ak,cl,wa,br]
    simp only[k,l,a,e,Yv,Yy,Yc]
    by_cases hy:F0 s m.fields x=0<;>simp[hy]) (by dsimp only[OZ,U3,br,ix,vw,vs,Ap,ln,Ak,cl,wa,br];simp) (AY (by omega))
   unfold AX
   rw[Ys c]
   simp only[b,p,u,I,J,K,F,G,H,Yv,YH,YI,YT,Ge,Yt,Fc,Dh,YN,Yy,YJ,Yc]
   by_cases o:BT (Fx (CM (AX s true d) s true) m.fields v.slots) v.slots 0=0
   ·by_cases r:BT (fun _ f=>Im v.slots f) m.fields 0=0
    ·by_cases w:BT (fun _ x=>F0 s m.fields x) v.raws 0=0
     ·simp[o,r,w]
     ·simp[o,r,w]
    ·simp[o,r]
   ·simp[o]
theorem sJ(R:Mp){s:Scm}(hs:Ay (Av s)≤1048576)(g:GdS s)(t:Typ)(a:GdT s t)(v:Val)(d:Nat)(j:d≤16)(b:AS v)(i:SZ R s d):Lt R s t v (16-(d:Int))=some (BR (AX s true d) s t v):=by
 have h:=Dt hs
 have e:Oa s t.name=some (A9 s t.name):=oL s _ h.ml
 have hm:=td R hs g t.name v d j b i
 have w: -9223372036854775808≤17-(d:Int)∧17-(d:Int)<9223372036854775808:=by omega
 have wl:16-(d:Int)+1=17-(d:Int):=by omega
 dsimp only[Lt,ow,br,vw,vs,lr,cl,cs,wi,br]
 by_cases c:t.kind=10
 ·have f:=a.ms c
  unfold BR
  rw[Yq c,Yq f,e]
  simp only[c,Yv,Yy,Yc,w,Cm,wl,hm]
 ·rw[i5 s t h (BI b),ie (R:=AX s true d) a.ty.1 (by have:=a.ty.2;omega) a.en]
  simp only[c,YH,Yt,YJ,Yc]
theorem ZP8(R:Mp){s:Scm}(hs:Ay (Av s)≤1048576)(g:GdS s)(f:Fld)(C:GdF s f)(H:f.card=5)(l:List Pr)(hl:l.length≤1048576)(A:∀p∈l,AS p.key∧AS p.val)(d:Nat)(J:d≤16)(I:SZ R s d):Ty R s f l (16-(d:Int))=some (BT (HA (BR (AX s true d) s f.type) f.key true l) l 0):=by
 have h:=Dt hs
 have y:=fun(x:Val) (L:AS x)=>sJ R hs g f.type C.t x d J L I
 have K:=C.ky H
 have w2:l.length<4611686018427387904:=by omega
 generalize 16-(d:Int)=P at y
 have Q:=El (B:=L6 s f l P R) (N:=Aj) l (HA (BR (AX s true d) s f.type) f.key true l) id () (fun i p a G=>by
  have v:=Bz a
  have hi:=(Yi.1 a).1
  have w:i+1<9223372036854775808:=by omega
  have F:i≤l.length:=by omega
  have BK:=A p (Yu a)
  have t:=i5 s (.mk f.key ⟨#[]⟩) h (BI BK.1)
  have u:K5 s (.mk f.key ⟨#[]⟩) p.key=B8 f.key p.key:=by
   unfold K5
   rw[Yq (.inr (show f.key≠9 by omega))]
  rw[u]at t
  have D:=y p.val BK.2
  have M:∀q∈l.take i,B8 f.key q.key=0:=fun q m=>by
   obtain⟨j,k⟩:=YR.1 m
   rw[YX]at k
   split at k
   ·have:=G j q (by assumption) k
    unfold HA at this
    by_cases c:B8 f.key q.key=0
    ·exact c
    ·rw[Yq c]at this
     exact absurd this c
   ·cases k
  unfold HA
  by_cases n:B8 f.key p.key=0
  ·have E:JU (l.take i) (fun z=>N7 z p)=some ((l.take i).any fun q=>Hz q.key p.key):=Zpa _ _ _ (fun q m=>by
    have b:=M q m
    have O:=(SJ b).1
    have e:=(oK (d:=q.key) (x:=p.key) (by rw[O];omega) (A q (Ku m)).1 BK.1).1
    rw[ZOx K b n]at e
    dsimp only[N7,kI,vw,lr,cl]
    rw[e]
    rfl) (by rw[YC];omega)
   dsimp only[L6,OY,br,ix,vw,vs,Ap,ln,Ak,cl,cs,wa,sL,br]
   simp only[v,w,F,a,t,D,E,n,Bd.c,Bd.vl,KD,Gh,Yv,Yy,Yc,Cm,DU]
   by_cases o:((l.take i).any fun q=>Hz q.key p.key)=true
   ·simp[o]
   ·by_cases r:BR (AX s true d) s f.type p.val=0
    ·simp only[o,r]
     simp
    ·simp only[o,r]
     simp[r]
  ·dsimp only[L6,OY,br,ix,vw,vs,Ap,ln,Ak,cl,cs,wa,sL,br]
   simp only[v,w,a,t,Yv,Yy,Yc]
   simp[n]) (by dsimp only[L6,OY,br,ix,vw,vs,Ap,ln,Ak,cl,cs,wa,sL,br];simp) (AY (by omega))
 dsimp only[Ty,jg,jW,mS,vz,lr,lc,Ag]
 rw[Q]
 by_cases c6:BT (HA (BR (AX s true d) s f.type) f.key true l) l 0=0
 ·simp[c6,w2]
 ·simp[c6,w2]
theorem ZOW(R:Mp){s:Scm}(hs:Ay (Av s)≤1048576)(g:GdS s)(f:Fld)(o:GdF s f)(v:Val)(d:Nat)(n:d≤16)(k:AS v)(m:SZ R s d):VO R s f v (16-(d:Int))=some (CM (AX s true d) s true f v):=by
 have h:=Dt hs
 have y:=BI k
 obtain⟨s1,s2,C,D,E⟩:=BI k
 have q:v.list.length<4611686018427387904:=by omega
 have l:=fun(x:Val) (b:AS x)=>sJ R hs g f.type o.t x d n b m
 have hN:=fun u=>ZP8 R hs g f o u v.pairs C (fun p w=>DY k w) d n m
 generalize 16-(d:Int)=z at l hN
 have A:=El (B:=Ph s f v z R) (N:=Aj) v.list (fun _ x=>BR (AX s true d) s f.type x) id () (fun i x b _=>by
  have r:=Bz b
  have t:i+1<9223372036854775808:=by have:=(Yi.1 b).1;omega
  have e:=l x (Hs k (Yu b))
  dsimp only[Ph,VA,br,ix,vw,vs,v2,Ap,ln,Ak,cs,wa,br]
  simp only[r,t,b,e,Yv,Yy,Yc]
  by_cases hy:BR (AX s true d) s f.type x=0<;>simp[hy]) (by dsimp only[Ph,VA,br,ix,vw,vs,v2,Ap,ln,Ak,cs,wa,br];simp) (AY (by omega))
 have e0:=l v k
 unfold CM
 dsimp only[VO,nj,lC,lz,jS,l8,jC,l3,lG,br,vz,vw,lr,lc,clg,cs,Ag,br]
 rw[lY y,A,e0]
 by_cases c:f.card=4
 ·by_cases a:v.kind=11
  ·cases BB v with
   |true=>simp[c,a]
   |false=>
    by_cases c6:BT (fun _ x=>BR (AX s true d) s f.type x) v.list 0=0
    ·simp[c,a,c6,q]
    ·simp[c,a,c6,q]
  ·simp[c,a]
 ·by_cases j:f.card=5
  ·have hN:=hN j
   by_cases a:v.kind=12
   ·cases BB v with
    |true=>simp[j,a]
    |false=>simp[j,a,hN]
   ·simp[j,a]
  ·simp[c,j]
theorem Zwf{s:Scm}(hs:Ay (Av s)≤1048576)(g:GdS s):∀(a d:Nat),d<a→d≤16→∀(f:Fld) (v:Val),GdF s f→AS v→JW a s f v (16-(d:Int))=some (CM (AX s true d) s true f v)
 |0,d,b,_,_,_,_,_=>absurd b (HX _)
 |a+1,d,b,c,f,v,h,j=>ZOW (JW a) hs g f h v d c j fun d' e k x i l=>Zwf hs g a d' (by omega) (by omega) k x i l
theorem ZPi{s:Scm}(hs:Ay (Av s)≤1048576)(g:GdS s)(n:ByteArray)(v:Val)(b:AS v):fI s n v=some (Ik s true n v):=by
 have h:=Dt hs
 have j:Oa s n=some (A9 s n):=oL s _ h.ml
 have i:=td (JW Aj) hs g n v 16 (Yp _) b fun d' e f x l m=>Zwf hs g Aj d' (by have:=bc;omega) (by omega) f x l m
 rw[show(17:Int)-((16:Nat):Int)=1 by decide]at i
 have k:=ra Aj v (by have o:Ay (Ai v)≤1048576:=b;exact AY (by omega)) b
 unfold Ik
 dsimp only[fI,nG,br,vw,lr,cl,br]
 rw[j,Yc,i,k]
 cases(A9 s n).2 with
 |false=>simp
 |true=>
  by_cases c:AX s true 16 (A9 s n).1 v=0
  ·by_cases d:4096<cnt v
   ·have a:(4096:Int)<cnt v:=by omega
    simp[c,d,a]
   ·have a:¬(4096:Int)<cnt v:=by omega
    simp[c,d,a]
  ·simp[c]
def EF(s:Scm)(t:Typ)(v:Val):Bool:=if t.kind=10 then decide (Ik s true t.name v=0)else decide (BR (AX s true 16) s t v=0)
theorem ZLg{s:Scm}(hs:Ay (Av s)≤1048576)(t:Typ)(v:Val)(a:AS v):eQ s t v=some (EF s t v):=by
 unfold EF
 dsimp only[eQ,jm,br,vw,lr,cl,br]
 rw[ZIS hs t.name v a,ZBH hs t v true a]
 by_cases c:t.kind=10<;>simp[c]
theorem ZKI{s:Scm}(hs:Ay (Av s)≤1048576)(g:GdS s)(t:Typ)(v:Val)(d:AS v):fE s t v=some (EF s t v):=by
 have h:=Dt hs
 have i:LA t.kind=some (decide (1≤t.kind)&&decide (t.kind≤9)):=rfl
 unfold EF
 dsimp only[fE,ZP,br,vw,lr,cl,br]
 rw[ZPi hs g t.name v d,i,Vi s _ h.el,i5 s t h (BI d)]
 by_cases c:t.kind=10
 ·simp[c]
 ·by_cases a:1≤t.kind∧t.kind≤9
  ·by_cases b:t.kind=9
   ·cases he:(Bo s t.name).2 with
    |false=>
     have e:BR (AX s true 16) s t v≠0:=by
      unfold BR
      rw[Ys c,Ys (by omega)]
      split
      ·rename_i h
       rcases h with h|h
       ·exact h
       ·exact absurd b h
      ·decide
     simp[b,he]
     exact fun h=>e h
    |true=>
     rw[ie (R:=AX s true 16) a.1 a.2 fun _=>he]
     simp[b,he]
   ·rw[ie (R:=AX s true 16) a.1 a.2 fun e=>absurd e b]
    simp[c,a.1,a.2,b]
  ·have e:BR (AX s true 16) s t v=12:=by
    unfold BR
    rw[Ys c,Yq (by omega)]
   have f:(decide (1≤t.kind)&&decide (t.kind≤9))=false:=by
    rw[Yg,Yb,Yb]
    omega
   rw[e]
   simp[c,f]
end Go.Proofs.YtleccgigifnfgaaGreat
namespace Go.Proofs.YtleccgigifnfgaaGreat
set_option linter.all false
open Go Go.Eng
theorem ZtE{α:Type}[Inhabited α]{l:List α}{z:α}{p:α→Bool}{x:α}(b:x∈l)(a:p x=true):(Ct l z p).2=true:=by
 unfold Ct
 cases e:l.find? p with
 |none=>exact absurd a (List.find?_eq_none.1 e x b)
 |some y=>rfl
theorem ZNe{s:Scm}(h:∀(i:Nat) (m:Msg),s.messages[i]?=some m→GdM s m)(hs:Ay (Av s)≤1048576):GdS s:=by
 refine⟨fun n f a=>?_,fun n=>(ZJV h hs n).1⟩
 unfold A8 Ct at a
 cases e:s.messages.find? fun m=>decide (m.name=n)with
 |none=>rw[e]at a;cases a
 |some m=>
  rw[e]at a
  obtain⟨i,hi⟩:=YR.1 (Kt e)
  obtain⟨j,g⟩:=YR.1 (show f∈m.fields from a)
  obtain⟨_,c,t1,t2,t3⟩:=(h i m hi).df j f g
  refine⟨fun k=>?_,fun k=>?_,t3,c.2⟩
  ·obtain⟨x,b,d⟩:=t1 k
   exact ZtE b (Y2 d)
  ·obtain⟨⟨x,b,d⟩,_⟩:=t2 k
   exact ZtE b (Y2 d)
def CC(s:Scm)(t:Typ)(v:Val):Int:=if EF s t v=true then 0 else if t.kind=9∧BW t.kind v=true then 16 else 12
def G7(E:Val→Int)(key:Int)(l:List Pr)(i:Nat)(p:Pr):Int:=if BW key p.key=false then 12 else if((l.take i).any fun q=>Eb q.key p.key)=true then 9 else E p.val
def EE(s:Scm)(f:Fld)(v:Val):Int:=
 if f.card=4 then(if v.kind≠11∨v.bits≠0∨v.text≠⟨#[]⟩∨0<v.pairs.length∨0<v.slots.length∨0<v.raws.length then 12 else BT (fun _ x=>CC s f.type x) v.list 0)
 else if f.card=5 then(if v.kind≠12∨v.bits≠0∨v.text≠⟨#[]⟩∨0<v.list.length∨0<v.slots.length∨0<v.raws.length then 12 else BT (G7 (CC s f.type) f.key v.pairs) v.pairs 0)
 else CC s f.type v
theorem Om{n:Int}{v:Val}(h:BW n v=true):1≤n∧n≤9∧v.kind=n:=by
 unfold BW at h
 simp only[Ya,Yd]at h
 exact h.1.1
theorem ZXM{v:Val}(h:BW 9 v=true):B8 9 v=0:=by
 have b:=(Om h).2.2
 unfold B8
 have d:BB v=false∧v.text.size=0:=by
  unfold BW at h
  rw[show CD 9=false by decide,Ys (by decide)]at h
  simp only[Ya,Yd]at h
  obtain⟨⟨_,a⟩,c,_⟩:=h
  unfold DQ at a
  rw[Yd]at a
  unfold BB
  rw[Yb,b,c]
  refine⟨fun h=>?_,rfl⟩
  rcases h with h|h|h|h|h
  ·omega
  ·omega
  ·omega
  ·exact h.1 rfl
  ·omega
 rw[Ys (fun e=>e.elim (fun e=>e b) (fun e=>by rw[d.1]at e;cases e)),Ys (by omega),Yq h]
theorem ZMN{s:Scm}(hs:Ay (Av s)≤1048576)(t:Typ)(v:Val)(a:AS v):dL s t v=some (CC s t v):=by
 dsimp only[dL,ak,br,vw,lr,cl,clg,br]
 rw[ZLg hs t v a,jR _ (BI a)]
 unfold CC
 cases EF s t v with
 |true=>simp
 |false=>
  by_cases c:t.kind=9
  ·cases BW t.kind v<;>simp[c]
  ·simp[c]
theorem ZPm{s:Scm}(hs:Ay (Av s)≤1048576)(g:GdS s)(a:Acs)(l:a.s=s)(t:Typ)(n:GdT s t)(v:Val)(i:AS v):eG a t v=some (CC s t v):=by
 have h:=Dt hs
 have f:=ZnK (Bo s t.name).1.items (fun z=>S4 z v) (fun x=>decide (IntKind.u64.wrap x.num=v.bits)) (fun x _=>rfl) (OK h _)
 have j:((Bo s t.name).1.items.any fun x=>decide (IntKind.u64.wrap x.num=v.bits))=DR (Bo s t.name).1 v.bits:=rfl
 rw[j]at f
 dsimp only[eG,bH,br,vw,lr,cl,clg,De,br]
 rw[l,ZKI hs g t v i,lV _ (BI i),Vi s _ h.el]
 simp only[Yc,f]
 unfold CC
 by_cases c:t.kind=9∧BW t.kind v=true
 ·obtain⟨b,d⟩:=c
  have he:=n.en b
  have m:EF s t v=decide (¬((Bo s t.name).1.opn=false∧DR (Bo s t.name).1 v.bits=false)):=by
   rw[b]at d
   unfold EF BR
   rw[Ys (by omega),Ys (by omega),Ys (by omega),b,ZXM d,Ys (by omega),he,Ys (by decide:¬true=false)]
   refine decide_eq_decide.2 ?_
   by_cases k:(Bo s t.name).1.opn=false∧DR (Bo s t.name).1 v.bits=false
   ·rw[Yq k]
    exact⟨fun e=>absurd e (by decide),fun e=>absurd k e⟩
   ·rw[Ys k]
    exact⟨fun _=>k,fun _=>rfl⟩
  rw[m,he,b]
  rw[b]at d
  rw[d]
  cases(Bo s t.name).1.opn<;>cases DR (Bo s t.name).1 v.bits<;>simp
 ·rw[Ys c]
  by_cases b:t.kind=9
  ·have d:BW t.kind v=false:=by
    cases h:BW t.kind v with
    |false=>rfl
    |true=>exact absurd ⟨b,h⟩ c
   rw[d]
   cases EF s t v<;>simp
  ·cases EF s t v<;>simp[b]
theorem ZBE{a b:Val}(h:a.kind=b.kind):Eb a b=Eb b a:=by
 unfold Eb
 rw[h]
 congr 1
 split
 ·exact decide_eq_decide.2 eq_comm
 ·split
  ·exact decide_eq_decide.2 eq_comm
  ·exact decide_eq_decide.2 eq_comm
theorem Zjc{v:Val}(h:SzV v):fk v=some (decide (v.bits=0∧v.text=⟨#[]⟩∧v.slots.length=0∧v.raws.length=0)):=by
 obtain⟨t1,t2,t3,t4,t5⟩:=h
 have b:v.slots.length<4611686018427387904:=by omega
 have c:v.raws.length<4611686018427387904:=by omega
 have d:v.slots.length+v.raws.length<9223372036854775808:=by omega
 dsimp only[fk,X1,vy,vw,vg,lr,wa,Ag]
 simp only[b,c,d,Ce,Yy]
 congr 1
 rw[Gg]
 simp only[Ya,Yd,and_assoc]
 by_cases a:v.text=⟨#[]⟩
 ·simp only[a,CU];omega
 ·simp only[a,C8,EN]
theorem Zt8{E:Val→Int}{key:Int}{l:List Pr}{i:Nat}(b:∀(j:Nat) (y:Pr),j<i→l[j]?=some y→G7 E key l j y=0):∀q∈l.take i,BW key q.key=true:=fun q d=>by
 obtain⟨j,a⟩:=YR.1 d
 rw[YX]at a
 split at a
 ·have:=b j q (by assumption) a
  unfold G7 at this
  cases c:BW key q.key with
  |true=>rfl
  |false=>
   rw[c,Yq rfl]at this
   cases this
 ·cases a
theorem ZNq{s:Scm}(hs:Ay (Av s)≤1048576)(g:GdS s)(a:Acs)(M:a.s=s)(f:Fld)(O:GdF s f)(v:Val)(k:AS v):dJ a f v=some (EE s f v):=by
 have I:=BI k
 obtain⟨s1,s2,V,W,X⟩:=BI k
 have o:v.list.length<4611686018427387904:=by omega
 have w2:v.pairs.length<4611686018427387904:=by omega
 have D:=fun(x:Val) (l:AS x)=>ZPm hs g a M f.type O.t x l
 have T:=El (B:=PU a f v) (N:=Aj) v.list (fun _ x=>CC s f.type x) id () (fun i x l _=>by
  have t:=Bz l
  have u:i+1<9223372036854775808:=by have:=(Yi.1 l).1;omega
  have e:=D x (Hs k (Yu l))
  dsimp only[PU,Q7,br,ix,vw,vs,v2,Ap,ln,Ak,cl,wa,br]
  simp only[t,u,l,e,Yv,Yy,Yc]
  by_cases hy:CC s f.type x=0<;>simp[hy]) (by dsimp only[PU,Q7,br,ix,vw,vs,v2,Ap,ln,Ak,cl,wa,br];simp) (AY (by omega))
 have U:=El (B:=MC a f v) (N:=Aj) v.pairs (G7 (CC s f.type) f.key v.pairs) id () (fun i p h L=>by
  have t:=Bz h
  have hi:=(Yi.1 h).1
  have u:i+1<9223372036854775808:=by omega
  have K:i≤v.pairs.length:=by omega
  have E:=DY k (Yu h)
  have r:=lV f.key (BI E.1)
  have C:=D p.val E.2
  have P:=Zt8 L
  unfold G7
  cases w:BW f.key p.key with
  |true=>
   have kp:=Om w
   have J:JU (v.pairs.take i) (fun z=>N3 z p)=some ((v.pairs.take i).any fun q=>Eb q.key p.key):=Zpa _ _ _ (fun q H=>by
    have S:=Om (P q H)
    have e:=(oK (d:=p.key) (x:=q.key) (by rw[kp.2.2];omega) E.1 (DY k (Ku H)).1).1
    rw[ZBE (kp.2.2.trans S.2.2.symm)]at e
    dsimp only[N3,Z5,vw,lr,cl]
    rw[e]
    rfl) (by rw[YC];omega)
   dsimp only[MC,PC,br,ix,vw,vs,v2,Ap,ln,Ak,cl,cs,wa,sL,br]
   simp only[t,u,K,h,r,C,J,w,Bd.c,Bd.vl,KD,Gh,Yv,Yy,Yc,Cm,DU]
   by_cases y:((v.pairs.take i).any fun q=>Eb q.key p.key)=true
   ·simp[y]
   ·by_cases A:CC s f.type p.val=0
    ·simp only[y,A]
     simp
    ·simp only[y,A]
     simp[A]
  |false=>
   dsimp only[MC,PC,br,ix,vw,vs,v2,Ap,ln,Ak,cl,cs,wa,sL,br]
   simp only[t,u,h,r,w,Yv,Yy,Yc]
   simp) (by dsimp only[MC,PC,br,ix,vw,vs,v2,Ap,ln,Ak,cl,cs,wa,sL,br];simp) (AY (by omega))
 have e0:=D v k
 have r:f.card=4→eD a f v=some (EE s f v):=fun m=>by
  unfold EE
  rw[Yq m]
  dsimp only[eD,bz,Xy,bg,br,vz,vy,vw,lr,lc,clg,Ag,br]
  rw[Zjc I,T]
  by_cases c:v.kind≠11∨v.bits≠0∨v.text≠⟨#[]⟩∨0<v.pairs.length∨0<v.slots.length∨0<v.raws.length
  ·rw[Yq c]
   by_cases b:v.kind=11
   ·by_cases cl:v.bits=0∧v.text=⟨#[]⟩∧v.slots.length=0∧v.raws.length=0
    ·have h:0<v.pairs.length:=by
      obtain⟨F,G,Q,R⟩:=cl
      rcases c with c|c|c|c|c|c
      ·exact absurd b c
      ·exact absurd F c
      ·exact absurd G c
      ·exact c
      ·omega
      ·omega
     have j:(0:Int)<v.pairs.length:=by omega
     rw[Y2 cl]
     simp[b,w2,h,j]
    ·rw[CW cl]
     simp[b]
   ·simp[b]
  ·rw[Ys c]
   have b:v.kind=11:=Decidable.not_not.1 fun e=>c (.inl e)
   have cl:v.bits=0∧v.text=⟨#[]⟩∧v.slots.length=0∧v.raws.length=0:=⟨Decidable.not_not.1 fun e=>c (.inr (.inl e)),Decidable.not_not.1 fun e=>c (.inr (.inr (.inl e))),by
    rcases HU v.slots.length with e|e
    ·exact e
    ·exact absurd (.inr (.inr (.inr (.inr (.inl e))))) c,by
    rcases HU v.raws.length with e|e
    ·exact e
    ·exact absurd (.inr (.inr (.inr (.inr (.inr e))))) c⟩
   have h:¬(0:Int)<v.pairs.length:=fun e=>c (.inr (.inr (.inr (.inl (by omega)))))
   rw[Y2 cl]
   by_cases c6:BT (fun _ x=>CC s f.type x) v.list 0=0
   ·simp only[b,h,c6,o,w2,Yv,YH,YI,YT,Ge,Yt,Fc,Ce,Dh,YN,Yy,YJ,Yc]
    rfl
   ·simp only[b,h,c6,o,w2,Yv,YH,YI,YT,Ge,Yt,Fc,Ce,Dh,YN,Yy,YJ,Yc]
    rfl
 have C:f.card=5→dN a f v=some (EE s f v):=fun n=>by
  unfold EE
  rw[Ys (by omega),Yq n]
  dsimp only[dN,Zk,aQ,bj,br,vz,vy,vw,lr,lc,clg,Ag,br]
  rw[Zjc I,U]
  by_cases c:v.kind≠12∨v.bits≠0∨v.text≠⟨#[]⟩∨0<v.list.length∨0<v.slots.length∨0<v.raws.length
  ·rw[Yq c]
   by_cases b:v.kind=12
   ·by_cases cl:v.bits=0∧v.text=⟨#[]⟩∧v.slots.length=0∧v.raws.length=0
    ·have h:0<v.list.length:=by
      obtain⟨F,G,Q,R⟩:=cl
      rcases c with c|c|c|c|c|c
      ·exact absurd b c
      ·exact absurd F c
      ·exact absurd G c
      ·exact c
      ·omega
      ·omega
     have j:(0:Int)<v.list.length:=by omega
     rw[Y2 cl]
     simp[b,o,h,j]
    ·rw[CW cl]
     simp[b]
   ·simp[b]
  ·rw[Ys c]
   have b:v.kind=12:=Decidable.not_not.1 fun e=>c (.inl e)
   have cl:v.bits=0∧v.text=⟨#[]⟩∧v.slots.length=0∧v.raws.length=0:=⟨Decidable.not_not.1 fun e=>c (.inr (.inl e)),Decidable.not_not.1 fun e=>c (.inr (.inr (.inl e))),by
    rcases HU v.slots.length with e|e
    ·exact e
    ·exact absurd (.inr (.inr (.inr (.inr (.inl e))))) c,by
    rcases HU v.raws.length with e|e
    ·exact e
    ·exact absurd (.inr (.inr (.inr (.inr (.inr e))))) c⟩
   have h:¬(0:Int)<v.list.length:=fun e=>c (.inr (.inr (.inr (.inl (by omega)))))
   rw[Y2 cl]
   by_cases c6:BT (G7 (CC s f.type) f.key v.pairs) v.pairs 0=0
   ·simp only[b,h,c6,o,w2,Yv,YH,YI,YT,Ge,Yt,Fc,Ce,Dh,YN,Yy,YJ,Yc]
    rfl
   ·simp only[b,h,c6,o,w2,Yv,YH,YI,YT,Ge,Yt,Fc,Ce,Dh,YN,Yy,YJ,Yc]
    rfl
 dsimp only[dJ,bR,br,vw,lr,cl,br]
 by_cases m:f.card=4
 ·rw[r m]
  simp[m]
 ·by_cases n:f.card=5
  ·rw[C n]
   simp[n]
  ·rw[e0]
   unfold EE
   simp[m,n]
theorem ZPD{s:Scm}(hs:Ay (Av s)≤1048576)(f:Fld)(v:Val)(b:AS v):eL s f v=some (EE s f v):=by
 have k:=BI b
 obtain⟨s1,s2,W,X,Y⟩:=BI b
 have y:v.list.length<4611686018427387904:=by omega
 have w2:v.pairs.length<4611686018427387904:=by omega
 have E:v.slots.length<4611686018427387904:=by omega
 have F:v.raws.length<4611686018427387904:=by omega
 have S:v.pairs.length+v.slots.length<9223372036854775808:=by omega
 have T:v.pairs.length+v.slots.length+v.raws.length<9223372036854775808:=by omega
 have U:v.list.length+v.slots.length<9223372036854775808:=by omega
 have V:v.list.length+v.slots.length+v.raws.length<9223372036854775808:=by omega
 have u:=fun(x:Val) (h:AS x)=>ZMN hs f.type x h
 have P:=El (B:=PJ s f v) (N:=Aj) v.list (fun _ x=>CC s f.type x) id () (fun i x h _=>by
  have n:=Bz h
  have l:i+1<9223372036854775808:=by have:=(Yi.1 h).1;omega
  have e:=u x (Hs b (Yu h))
  dsimp only[PJ,V6,br,ix,vz,vw,vs,Ap,ln,Ak,cl,wa,Ag,br]
  simp only[y,n,l,h,e,Yv,Yy,Yc]
  by_cases hy:CC s f.type x=0<;>simp[hy]) (by dsimp only[PJ,V6,br,ix,vz,vw,vs,Ap,ln,Ak,cl,wa,Ag,br];simp[y]) (AY (by omega))
 have R:∀(i:Nat) (p:Pr),v.pairs[i]?=some p→BW f.key p.key=true→(∀q∈v.pairs.take i,BW f.key q.key=true)→An (Ms s f v i) Aj 0=some (if((v.pairs.take i).any fun q=>Eb q.key p.key)=true then .inr 9 else .inl ()):=fun i p a o M=>by
  have hi:=(Yi.1 a).1
  have g:(v.pairs.take i).length=i:=by rw[YC];omega
  have kp:=Om o
  exact Oq (B:=Ms s f v i) (N:=Aj) (v.pairs.take i) (fun q=>Eb q.key p.key) (9:Int) () (fun j z k=>by
   have m:=Yu k
   have O:=Om (M z m)
   have L:j<i∧v.pairs[j]?=some z:=by
    rw[YX]at k
    split at k
    ·exact⟨by assumption,k⟩
    ·cases k
   obtain⟨n,l⟩:=L
   have I:(j:Int)<i:=by omega
   have J:j+1<9223372036854775808:=by omega
   have e:=(oK (d:=z.key) (x:=p.key) (by rw[O.2.2];omega) (DY b (Ku m)).1 (DY b (Yu a)).1).2
   dsimp only[Ms,VX,br,ix,vw,vs,Ap,ln,Ak,cl,wa,br]
   simp only[l,I,J,a,e,Yv,Yy,Yc]
   cases Eb z.key p.key<;>simp) (by rw[g];dsimp only[Ms,VX,br,ix,vw,vs,Ap,ln,Ak,cl,wa,br];simp) (by rw[g];exact AY (by omega))
 have Q:=El (B:=PI s f v) (N:=Aj) v.pairs (G7 (CC s f.type) f.key v.pairs) id () (fun i p a K=>by
  have n:=Bz a
  have l:i+1<9223372036854775808:=by have:=(Yi.1 a).1;omega
  have D:=DY b (Yu a)
  have G:=jR f.key (BI D.1)
  have H:=u p.val D.2
  unfold G7
  dsimp only[PI,UK,Rq,Rr,Rm,We,br,ix,vz,vw,vs,Ap,ln,Ak,lc,cl,wa,Ag,br]
  simp only[w2,n,l,a,G,H,Yv,Yy,Yc]
  cases o:BW f.key p.key with
  |true=>
   rw[R i p a o (Zt8 K)]
   by_cases r:((v.pairs.take i).any fun q=>Eb q.key p.key)=true
   ·simp[r]
   ·by_cases t:CC s f.type p.val=0
    ·simp only[r,t]
     simp
    ·simp only[r,t]
     simp[t]
  |false=>simp) (by dsimp only[PI,UK,Rq,Rr,Rm,We,br,ix,vz,vw,vs,Ap,ln,Ak,lc,cl,wa,Ag,br];simp[w2]) (AY (by omega))
 have e0:=u v b
 unfold EE
 dsimp only[eL,jt,jQ,mI,bN,ni,bI,lL,bJ,jd,br,vy,vw,vg,lr,lc,cl,wa,Ag,br]
 rw[P,Q,e0]
 by_cases A:f.card=4
 ·have w:((((!decide (v.kind=11))||(!decide (v.bits=0)))||(!decide (v.text=⟨#[]⟩)))||decide ((0:Int)<((v.pairs.length+v.slots.length+v.raws.length:Nat):Int)))=decide (v.kind≠11∨v.bits≠0∨v.text≠⟨#[]⟩∨0<v.pairs.length∨0<v.slots.length∨0<v.raws.length):=by
   rw[Gg]
   by_cases g:v.text=⟨#[]⟩<;>simp only[g,Yv,YH,YI,YT,H3,M8,GY,Yh,Yj,Yd,Yb,ne_eq,GV,FO,HZ,true_or,or_true]<;>omega
  simp only[A,Yv,Yy,w2,E,F,S,T,Ce]
  rw[w]
  by_cases c:v.kind≠11∨v.bits≠0∨v.text≠⟨#[]⟩∨0<v.pairs.length∨0<v.slots.length∨0<v.raws.length
  ·rw[Y2 c,Yq c,Yq rfl]
  ·rw[CW c,Ys c,Ys (by decide),Yc]
   by_cases c6:BT (fun _ x=>CC s f.type x) v.list 0=0
   ·rw[Yq c6,c6];rfl
   ·rw[Ys c6];rfl
 ·by_cases C:f.card=5
  ·have w:((((!decide (v.kind=12))||(!decide (v.bits=0)))||(!decide (v.text=⟨#[]⟩)))||decide ((0:Int)<((v.list.length+v.slots.length+v.raws.length:Nat):Int)))=decide (v.kind≠12∨v.bits≠0∨v.text≠⟨#[]⟩∨0<v.list.length∨0<v.slots.length∨0<v.raws.length):=by
    rw[Gg]
    by_cases g:v.text=⟨#[]⟩<;>simp only[g,Yv,YH,YI,YT,H3,M8,GY,Yh,Yj,Yd,Yb,ne_eq,GV,FO,HZ,true_or,or_true]<;>omega
   simp only[C,Yv,YH,YI,Yt,Yy,YJ,y,E,F,U,V,Ce,show¬(5:Int)=4 by decide]
   rw[w]
   by_cases c:v.kind≠12∨v.bits≠0∨v.text≠⟨#[]⟩∨0<v.list.length∨0<v.slots.length∨0<v.raws.length
   ·rw[Y2 c,Yq c,Yq rfl]
   ·rw[CW c,Ys c,Ys (by decide),Yc]
    by_cases c6:BT (G7 (CC s f.type) f.key v.pairs) v.pairs 0=0
    ·rw[Yq c6,c6];rfl
    ·rw[Ys c6];rfl
  ·simp[A,C]
def Nm(v:Val):Bool:=decide (1≤v.kind∧v.kind≤9)&&DQ v&&decide (v.bits=0)&&decide (v.text=⟨#[]⟩)
theorem ZPA{v:Val}(h:SzV v):dQ v=some (Nm v):=by
 have a:Lq v.kind=some (decide (1≤v.kind)&&decide (v.kind≤9)):=rfl
 dsimp only[dQ,aI,vw,lr,cl,clg]
 rw[a,qM h,Yc]
 unfold Nm
 rw[Ni]
 cases(decide (1≤v.kind)&&decide (v.kind≤9))<;>cases DQ v<;>cases decide (v.bits=0)<;>cases decide (v.text=⟨#[]⟩)<;>rfl
theorem ZNM{v:Val}(h:SzV v):fs v=some (Nm v):=by
 have a:LA v.kind=some (decide (1≤v.kind)&&decide (v.kind≤9)):=rfl
 dsimp only[fs,Zz,vw,lr,cl,clg]
 rw[a,sl h,Yc]
 unfold Nm
 rw[Ni]
 cases(decide (1≤v.kind)&&decide (v.kind≤9))<;>cases DQ v<;>cases decide (v.bits=0)<;>cases decide (v.text=⟨#[]⟩)<;>cases CD v.kind<;>rfl
def Le(f:Fld)(v:Val):Bool:=(decide (f.card=3)&&Nm v||decide (v.kind=11)&&decide (v.list.length=0))||decide (v.kind=12)&&decide (v.pairs.length=0)
theorem ZOB(f:Fld){v:Val}(h:SzV v):eV f v=some (Le f v):=by
 have c:=h
 obtain⟨t1,t2,t3,t4,t5⟩:=h
 have d:v.list.length<4611686018427387904:=by omega
 have e:v.pairs.length<4611686018427387904:=by omega
 have a:decide ((v.list.length:Int)=0)=decide (v.list.length=0):=decide_eq_decide.2 (by omega)
 have b:decide ((v.pairs.length:Int)=0)=decide (v.pairs.length=0):=decide_eq_decide.2 (by omega)
 dsimp only[eV,aL,vy,vw,lr,clg,Ag]
 rw[ZNM c]
 simp only[d,e,Ce,Yy,Dh,YN,a,b]
 rfl
def pR(n:Int)(v:Val):Prop:=1≤n∧n≤9∧v.kind=n∧WX v
def pS(t:Typ)(v:Val):Prop:=(t.kind=10→v.kind=10)∧(t.kind≠10→pR t.kind v)
def px(f:Fld)(v:Val):Prop:=(f.card=4→v=.mk 11 0 ⟨#[]⟩ v.list [] [] [])∧(f.card=5→v=.mk 12 0 ⟨#[]⟩ [] v.pairs [] [])∧(f.card≠4→f.card≠5→pS f.type v)
theorem ZMk{n:Int}{v:Val}(e:1≤n)(f:n≤9)(h:B8 n v=0):pR n v:=by
 obtain⟨a1,g,_,_⟩:=SJ h
 obtain⟨a,b,d⟩:=TY e f a1 g
 unfold DQ at a
 unfold CD at b d
 rw[Yd]at a
 refine⟨e,f,a1,YM a.1,YM a.2.1,YM a.2.2.1,YM a.2.2.2,fun c=>b (Y2 (a1▸c)),fun c=>d (CW (a1▸c))⟩
theorem Zrc{s:Scm}{k:Bool}{d:Nat}{m:Msg}{v:Val}(h:AX s k d m v=0):v.kind=10∧BB v=false:=by
 have:¬(v.kind≠10∨BB v=true):=fun c=>by
  cases d<;>(unfold AX at h;rw[Yq c]at h;cases h)
 refine⟨Decidable.not_not.1 fun e=>this (.inl e),?_⟩
 cases a:BB v with
 |false=>rfl
 |true=>exact absurd (.inr a) this
theorem ZzN{s:Scm}{k:Bool}{n:ByteArray}{v:Val}(h:Ik s k n v=0):(A9 s n).2=true∧AX s k 16 (A9 s n).1 v=0∧cnt v≤4096:=by
 unfold Ik at h
 cases a:(A9 s n).2 with
 |false=>rw[a,Yq rfl]at h;cases h
 |true=>
  rw[a,Ys (by decide)]at h
  by_cases c:AX s k 16 (A9 s n).1 v=0
  ·rw[Ys (fun e=>e c)]at h
   by_cases b:4096<cnt v
   ·rw[Yq b]at h;cases h
   ·exact⟨rfl,c,by omega⟩
  ·rw[Yq c]at h
   exact absurd h c
theorem ZKT{s:Scm}{t:Typ}{v:Val}(h:EF s t v=true):pS t v:=by
 unfold EF at h
 by_cases c:t.kind=10
 ·rw[Yq c,Yd]at h
  exact⟨fun _=>(Zrc (ZzN h).2.1).1,fun e=>absurd c e⟩
 ·rw[Ys c,Yd]at h
  refine⟨fun e=>absurd e c,fun _=>?_⟩
  unfold BR at h
  rw[Ys c]at h
  by_cases a:t.kind<1∨9<t.kind
  ·rw[Yq a]at h;cases h
  ·rw[Ys a]at h
   refine ZMk (by omega) (by omega) ?_
   by_cases b:B8 t.kind v≠0∨t.kind≠9
   ·rw[Yq b]at h;exact h
   ·exact Decidable.not_not.1 fun e=>b (.inl e)
theorem ZXv{s:Scm}{t:Typ}{v:Val}(h:CC s t v=0):EF s t v=true:=by
 unfold CC at h
 cases c:EF s t v with
 |true=>rfl
 |false=>
  rw[c,Ys (by decide)]at h
  split at h<;>cases h
theorem ZWH{s:Scm}{f:Fld}{v:Val}(h:EE s f v=0):px f v:=by
 unfold EE at h
 by_cases d:f.card=4
 ·rw[Yq d]at h
  by_cases c:v.kind≠11∨v.bits≠0∨v.text≠⟨#[]⟩∨0<v.pairs.length∨0<v.slots.length∨0<v.raws.length
  ·rw[Yq c]at h;cases h
  ·simp only[not_or,Decidable.not_not,ne_eq,Nat.not_lt,Nat.le_zero]at c
   obtain⟨g,i,j,a,b,c6⟩:=c
   refine⟨fun _=>?_,fun e=>by omega,fun e=>absurd d e⟩
   cases v
   simp only[Val.kind,Val.bits,Val.text,Val.list,Val.pairs,Val.slots,Val.raws]at*
   rw[g,i,j,YM a,YM b,YM c6]
 ·rw[Ys d]at h
  by_cases b:f.card=5
  ·rw[Yq b]at h
   by_cases c:v.kind≠12∨v.bits≠0∨v.text≠⟨#[]⟩∨0<v.list.length∨0<v.slots.length∨0<v.raws.length
   ·rw[Yq c]at h;cases h
   ·simp only[not_or,Decidable.not_not,ne_eq,Nat.not_lt,Nat.le_zero]at c
    obtain⟨g,i,j,a,k,c6⟩:=c
    refine⟨fun e=>absurd e d,fun _=>?_,fun _ e=>absurd b e⟩
    cases v
    simp only[Val.kind,Val.bits,Val.text,Val.list,Val.pairs,Val.slots,Val.raws]at*
    rw[g,i,j,YM a,YM k,YM c6]
  ·rw[Ys b]at h
   exact⟨fun e=>absurd e d,fun e=>absurd e b,fun _ _=>ZKT (ZXv h)⟩
theorem ZQV(f:Fld){v:Val}(h:SzV v)(x:1≤f.type.kind∧f.type.kind≤10)(l:px f v):eF f v=some (Le f v):=by
 have m:=h
 obtain⟨t1,t2,t3,t4,t5⟩:=h
 have n:v.list.length<4611686018427387904:=by omega
 have o:v.pairs.length<4611686018427387904:=by omega
 have u:decide ((v.list.length:Int)=0)=decide (v.list.length=0):=decide_eq_decide.2 (by omega)
 have w:decide ((v.pairs.length:Int)=0)=decide (v.pairs.length=0):=decide_eq_decide.2 (by omega)
 obtain⟨p,q,r⟩:=l
 have i:f.card≠4→f.card≠5→v.kind≤10:=fun j k=>by
  obtain⟨s,t⟩:=r j k
  by_cases c:f.type.kind=10
  ·rw[s c];decide
  ·obtain⟨_,_,y,_⟩:=t c;omega
 unfold Le
 dsimp only[eF,XC,br,vz,vw,lr,cl,Ag,br]
 rw[ZPA m]
 by_cases g:f.card=3
 ·have:=i (by omega) (by omega)
  have a:¬v.kind=11:=by omega
  have e:¬v.kind=12:=by omega
  simp[g,a,e]
 ·by_cases b:f.card=4
  ·have a:v.kind=11:=by rw[p b];rfl
   simp[b,a,n]
  ·by_cases d:f.card=5
   ·have a:v.kind=12:=by rw[q d];rfl
    simp[d,a,o]
   ·have:=i b d
    have a:¬v.kind=11:=by omega
    have e:¬v.kind=12:=by omega
    simp[g,b,d,a,e]
def Bu(l:List Slt)(k:Int):List Slt:=l.filter fun x=>!decide (x.num=k)
theorem nb(v:Val)(k:Int)(h:v.slots.length≤1048576):fu v k=some (.mk v.kind v.bits v.text v.list v.pairs (Bu v.slots k) v.raws):=by
 have a:=n57 v.slots (by omega)
 have b:=n41 v.slots (fun z=>Tg z k) (fun x=>decide (x.num=k)) (fun x _=>rfl) (by omega)
 have c:(Bu v.slots k).length<549755813888:=Nd (Ff _ _) (by omega)
 have d:v.slots.length<549755813888:=by omega
 dsimp only[fu,aD,XJ,aG,Zg,ZG,vz,vw,lr,lc,fl,fr]
 rw[a,Yc,b]
 rw[show v.slots.filter (fun x=>!decide (x.num=k))=Bu v.slots k from rfl,Yc]
theorem Ziv{α:Type}(p:α→Bool)(l:List α)(x:α):(l++[x]).filter p=if p x=true then l.filter p++[x]else l.filter p:=by
 rw[I9]
 cases h:p x<;>simp[h]
theorem ZMP(v:Val)(k:Int)(h:v.slots.length≤1048576):dZ v k=some (.mk v.kind v.bits v.text v.list v.pairs (Bu v.slots k) v.raws):=by
 have w:v.slots.length<4611686018427387904:=by omega
 have q:=Hc (B:=Po v k) (N:=Aj) (ρ:=Val) v.slots (fun p=>Bu p k) (fun i b=>(b,i)) id (fun i x d=>by
  have e:=Bz d
  have l:=(Yi.1 d).1
  have f:i+1<9223372036854775808:=by omega
  have a:(Bu (v.slots.take i) k).length≤1048576:=CX (Ff _ _) (by rw[YC];omega)
  rw[show Bu (v.slots.take i++[x]) k=if(!decide (x.num=k))=true then Bu (v.slots.take i) k++[x]else Bu (v.slots.take i) k from Ziv _ _ _]
  generalize Bu (v.slots.take i) k=L at a⊢
  have g:L.length<549755813888:=by omega
  have j:L.length<549755813887:=by omega
  dsimp only[Po,Rx,br,ix,vz,vw,vs,v2,ln,Ak,ap,wa,fl,Ag,br]
  by_cases c:x.num=k
  ·simp[w,e,d,f,c,g]
  ·simp[w,e,d,f,c,g,j]) (by
   have a:(Bu v.slots k).length<549755813888:=Nd (Ff _ _) (by omega)
   generalize Bu v.slots k=L at a⊢
   dsimp only[Po,Rx,br,ix,vz,vw,vs,v2,ln,Ak,ap,wa,fl,Ag,br]
   simp[w,a]) (AY (by omega))
 have a:(Bu v.slots k).length<549755813888:=Nd (Ff _ _) (by omega)
 rw[show Bu [] k=[]from rfl]at q
 dsimp only[dZ,Xh,Xn,ZM,aW,vz,vw,lr,lc,cl,fl,fz]
 rw[q]
 generalize Bu v.slots k=L at a⊢
 simp only[id,Yc,H5]
 simp[a]
 rfl
def D8(l:List Slt)(U:List Fld):List Slt:=U.foldl (fun l g=>Bu l g.num) l
theorem ig:∀(U:List Fld) (l:List Slt),(D8 l U).length≤l.length
 |[],l=>Yp _
 |g::U,l=>CX (ig U (Bu l g.num)) (Ff _ _)
theorem ZyT(l:List Slt)(U:List Fld)(g:Fld):D8 l (U++[g])=Bu (D8 l U) g.num:=by
 unfold D8
 rw[List.foldl_append]
 rfl
theorem fN:∀(U:List Fld) (l:List Slt),D8 l U=l.filter fun x=>!U.any fun g=>decide (x.num=g.num)
 |[],l=>(Ks.2 fun _ _=>rfl).symm
 |g::U,l=>by
  show D8 (Bu l g.num) U=_
  rw[fN U (Bu l g.num)]
  unfold Bu
  rw[List.filter_filter]
  congr 1
  funext x
  rw[List.any_cons,Bool.not_or,Xg]
def JO(l:List Slt)(F:List Fld)(f:Fld)(k:Int)(b:Bool)(x:Val):List Slt:=
 if b=true then D8 (Bu l k) (C7 F f.union)else FE (D8 (Bu l k) (C7 F f.union)) (.mk k x)
def JM(s:Scm)(n:ByteArray)(v:Val)(k:Int)(x:Val):Val×Int:=
 if(A9 s n).2=false then(zV,10)else if(BP (A8 s n) k).2=false then(zV,8)
 else if EE s (AR (A8 s n) k) x≠0 then(zV,EE s (AR (A8 s n) k) x)
 else(.mk v.kind v.bits v.text v.list v.pairs (JO v.slots (A8 s n) (AR (A8 s n) k) k (Le (AR (A8 s n) k) x) x) v.raws,0)
theorem ZQl{s:Scm}(hs:Ay (Av s)≤1048576)(g:GdS s)(n:ByteArray)(v:Val)(k:Int)(x:Val)(H:AS v)(u:AS x):fH s n v k x=some (JM s n v k x):=by
 have h:=Dt hs
 have I:=BI H
 have t:=I.s
 have d:(A8 s n).length≤1048576:=LU h n
 have j:Td s n=some (.mk (A9 s n).1 s,(A9 s n).2):=n31 s n h.ml
 unfold JM
 dsimp only[fH,dq,dh,cM,br,vz,vw,lr,lc,cl,Ag,br]
 cases hm:(A9 s n).2 with
 |false=>
  have a:Ok (fun y:Acs×Fld×Int=>y.2.2=10) (JX s n k):=by
   dsimp only[JX,PB,PA,Px,br,vw,lr,lc,cl,br]
   rw[j,Yc,hm]
   exact⟨_,rfl,rfl⟩
  obtain⟨y,a,a1⟩:=a
  rw[a,Yc,a1]
  rfl
 |true=>
  cases l:(BP (A8 s n) k).2 with
  |false=>
   have a:Ok (fun y:Acs×Fld×Int=>y.2.2=8) (JX s n k):=by
    dsimp only[JX,PB,PA,Px,br,vw,lr,lc,cl,br]
    rw[j,Yc,hm]
    simp only[YI,Yt,YJ,Yy]
    rw[Wz (A9 s n).1 k d,Yc]
    rw[show(A9 s n).1.fields=A8 s n from rfl,l]
    exact⟨_,rfl,rfl⟩
   obtain⟨y,a,a1⟩:=a
   rw[a,Yc,a1]
   rfl
  |true=>
   have a:JX s n k=some (.mk (A9 s n).1 s,AR (A8 s n) k,0):=by
    dsimp only[JX,PB,PA,Px,br,vw,lr,lc,cl,br]
    rw[j,Yc,hm]
    simp only[YI,Yt,YJ,Yy]
    rw[Wz (A9 s n).1 k d,Yc]
    rw[show(A9 s n).1.fields=A8 s n from rfl,l]
    rfl
   have c:AR (A8 s n) k∈A8 s n:=by
    rcases Oy (A8 s n) k with⟨e,o⟩|⟨e,o⟩
    ·rw[l]at e;cases e
    ·exact o
   have A:=ZNq hs g (.mk (A9 s n).1 s) rfl (AR (A8 s n) k) (g.fl n _ c) x u
   rw[a,Yc]
   simp only[A,Yc]
   by_cases hy:EE s (AR (A8 s n) k) x=0
   ·have C:=nb v k t
    have J:(Bu v.slots k).length≤1048576:=CX (Ff _ _) t
    have f:=Zsj (A9 s n).1 (AR (A8 s n) k).union d
    rw[show(A9 s n).1.fields=A8 s n from rfl]at f
    have K:(C7 (A8 s n) (AR (A8 s n) k).union).length≤1048576:=CX (hP _ _) d
    have D:=ZOB (AR (A8 s n) k) (BI u)
    unfold JO
    generalize C7 (A8 s n) (AR (A8 s n) k).union=U at f K
    have z:∀p:List Fld,(D8 (Bu v.slots k) p).length≤1048576:=fun p=>CX (ig _ _) J
    have q:=fun M:Acs×Fld×Int=>Hc (B:=NS k x M U) (N:=Aj) (ρ:=Val×Int) U (fun p=>(v.kind,v.bits,v.text,v.list,v.pairs,D8 (Bu v.slots k) p,v.raws)) (fun i b=>(i,b)) id (fun i g m=>by
     have E:=Bz m
     have O:=(Yi.1 m).1
     have F:i+1<9223372036854775808:=by omega
     have G:=nb (.mk v.kind v.bits v.text v.list v.pairs (D8 (Bu v.slots k) (U.take i)) v.raws) g.num (z _)
     rw[ZyT]
     dsimp only[NS,Sr,br,ix,vw,vs,ln,Ak,cl,wa,br]
     simp only[E,m,F,Yv,Yy,Yc]
     rw[G]
     rfl) (by dsimp only[NS,Sr,br,ix,vw,vs,ln,Ak,cl,wa,br];simp) (AY (by omega))
    have w:U.length<4611686018427387904:=by omega
    have L:D8 (Bu v.slots k) []=Bu v.slots k:=rfl
    simp only[L]at q
    have r:=n34 (D8 (Bu v.slots k) U) (.mk k x) (CX (z U) (by decide))
    simp only[hy,Yv,YI,Yt,YJ,C,Yc,f,w,Yy]
    cases v
    simp only[Val.kind,Val.bits,Val.text,Val.list,Val.pairs,Val.slots,Val.raws]at q r⊢
    rw[q]
    simp only[id,Yc,H5,D]
    cases Le (AR (A8 s n) k) x with
    |true=>simp
    |false=>simp[r]
   ·simp[hy]
    rfl
theorem ZXu{F:List Fld}(h:DE F F.length)(u:ByteArray)(j:Int):((C7 F u).any fun g=>decide (j=g.num))=(!decide (u=⟨#[]⟩)&&decide ((AR F j).union=u)):=by
 unfold C7
 by_cases c:u=⟨#[]⟩
 ·simp[c]
 ·rw[Ys c,CW c,YT,Y9,Gg,Y1,Yd]
  constructor
  ·rintro⟨g,e,a⟩
   obtain⟨f,i⟩:=Dv.1 e
   rw[Yd]at a
   unfold AR
   rw[a,tN h f]
   exact Fg i
  ·intro a
   rcases Oy F j with⟨d,b⟩|⟨d,b⟩
   ·rw[b]at a
    exact absurd a.symm c
   ·exact⟨AR F j,Dv.2 ⟨b,Y2 a⟩,Y2 (T4 d).symm⟩
def Ec(F:List Fld)(u:ByteArray)(k:Int)(l:List Slt):List Slt:=l.filter fun y=>(!decide (y.num=k))&&(decide (u=⟨#[]⟩)||!decide ((AR F y.num).union=u))
theorem ZTn{F:List Fld}(h:DE F F.length)(u:ByteArray)(k:Int)(l:List Slt):Ec F u k l=D8 (Bu l k) (C7 F u):=by
 rw[fN]
 unfold Ec Bu
 rw[List.filter_filter]
 congr 1
 funext y
 rw[ZXu h,Bool.not_and,Bool.not_not,Xg]
theorem lj(F:List Fld)(u:ByteArray)(k:Int)(l:List Slt):(Ec F u k l).length≤l.length:=Ff _ _
theorem ZMg{s:Scm}(hs:Ay (Av s)≤1048576)(g:GdS s)(n:ByteArray)(v:Val)(k:Int)(x:Val)(Q:AS v)(C:AS x):S7 s n v k x=some (JM s n v k x):=by
 have h:=Dt hs
 have R:=BI Q
 have O:=R.s
 have D:v.slots.length<4611686018427387904:=by omega
 have u:(A8 s n).length≤1048576:=LU h n
 have r:Ll s n=some (A9 s n):=oI s n h.ml
 have ef:=P2 (A9 s n).1 k u
 rw[show(A9 s n).1.fields=A8 s n from rfl]at ef
 unfold JM
 dsimp only[S7,Re,L0,SN,RO,RA,br,vz,vw,lr,lc,cl,fl,fz,br]
 cases hm:(A9 s n).2 with
 |false=>
  have a:Ok (fun y:Msg×Fld×Int=>y.2.2=10) (JR s n k):=by
   dsimp only[JR,Pt,PK,Py,br,vw,lr,lc,cl,br]
   rw[r,Yc,hm]
   exact⟨_,rfl,rfl⟩
  obtain⟨y,a,a1⟩:=a
  rw[a,Yc,a1]
  rfl
 |true=>
  cases w:(BP (A8 s n) k).2 with
  |false=>
   have a:Ok (fun y:Msg×Fld×Int=>y.2.2=8) (JR s n k):=by
    dsimp only[JR,Pt,PK,Py,br,vw,lr,lc,cl,br]
    rw[r,Yc,hm]
    simp only[YI,Yt,YJ,Yy]
    rw[ef,Yc,w]
    exact⟨_,rfl,rfl⟩
   obtain⟨y,a,a1⟩:=a
   rw[a,Yc,a1]
   rfl
  |true=>
   have a:JR s n k=some ((A9 s n).1,AR (A8 s n) k,0):=by
    dsimp only[JR,Pt,PK,Py,br,vw,lr,lc,cl,br]
    rw[r,Yc,hm]
    simp only[YI,Yt,YJ,Yy]
    rw[ef,Yc,w]
    rfl
   have e:AR (A8 s n) k∈A8 s n:=by
    rcases Oy (A8 s n) k with⟨j,z⟩|⟨j,z⟩
    ·rw[w]at j;cases j
    ·exact z
   have E:=ZPD hs (AR (A8 s n) k) x C
   have M:=(g.fl n _ e).ty
   have P:=g.asc n
   rw[a,Yc]
   simp only[E,Yc]
   by_cases hy:EE s (AR (A8 s n) k) x=0
   ·have o:=ZQV (AR (A8 s n) k) (BI C) M (ZWH hy)
    unfold JO
    rw[←ZTn P]
    rw[show(A9 s n).1.fields=A8 s n from rfl]
    generalize A8 s n=F at u o hy
    generalize AR F k=f at o hy
    generalize (A9 s n).1=m
    obtain⟨f1,f2,f3,f4,⟨f5,f6⟩,f7,f8,⟨f9,f10,f11,f12,f13,f14,f15⟩,f16⟩:=f
    have q:=Hc (B:=NU v k x m.name F m.reserved m.gone m.notes f1 f2 f3 f4 f5 f6 f7 f8 f9 f10 f11 f12 f13 f14 f15 f16) (N:=Aj) (ρ:=Val×Int) v.slots (fun p=>Ec F f7 k p) (fun i b=>(b,i)) id (fun i y hy=>by
     have H:=Bz hy
     have S:=(Yi.1 hy).1
     have t:i+1<9223372036854775808:=by omega
     have c:(Ec F f7 k (v.slots.take i)).length≤1048576:=CX (lj _ _ _ _) (by rw[YC];omega)
     have J:=P2 (⟨m.name,F,m.reserved,m.gone,m.notes⟩:Msg) y.num u
     have K:(BP F y.num).1=AR F y.num:=rfl
     rw[show Ec F f7 k (v.slots.take i++[y])=if((!decide (y.num=k))&&(decide (f7=⟨#[]⟩)||!decide ((AR F y.num).union=f7)))=true then Ec F f7 k (v.slots.take i)++[y]else Ec F f7 k (v.slots.take i)from Ziv _ _ _]
     generalize Ec F f7 k (v.slots.take i)=L at c⊢
     have d:L.length<549755813888:=by omega
     have I:L.length<549755813887:=by omega
     dsimp only[NU,S0,Sd,RM,Ma,Sj,br,ix,vz,vw,vs,ln,Ak,lc,ap,cl,wa,du,fl,Ag,br,Ma]
     simp only[J,K,D,H,hy,t,d,Yv,Yy,Yc]
     cases(!decide (y.num=k))&&(decide (f7=⟨#[]⟩)||!decide ((AR F y.num).union=f7))with
     |true=>simp[t,d,I]
     |false=>simp[t,d]) (by
     have c:(Ec F f7 k v.slots).length<549755813888:=Nd (lj _ _ _ _) (by omega)
     generalize Ec F f7 k v.slots=L at c⊢
     dsimp only[NU,S0,Sd,RM,Ma,Sj,br,ix,vz,vw,vs,ln,Ak,lc,ap,cl,wa,du,fl,Ag,br]
     simp[D,c]) (AY (by omega))
    have c:(Ec F f7 k v.slots).length≤1048576:=CX (lj _ _ _ _) O
    rw[show Ec F f7 k []=[]from rfl]at q
    have A:=n38 (Ec F f7 k v.slots) (.mk k x) (CX c (by decide))
    generalize Ec F f7 k v.slots=L at q A c⊢
    have d:L.length<549755813888:=by omega
    have G:∀l:List Slt,Zdt v l=some (.mk v.kind v.bits v.text v.list v.pairs l v.raws):=fun l=>rfl
    dsimp only[L0,S7,Re,L0,SN,RO,RA,br,vz,vw,lr,lc,cl,fl,fz,br,Val.kind,Val.bits,Val.text,Val.list,Val.pairs,Val.slots,Val.raws]
    simp only[hy,Yv,Yy,q,id,Yc,H5,o,G]
    cases Le (⟨f1,f2,f3,f4,⟨f5,f6⟩,f7,f8,.mk f9 f10 f11 f12 f13 f14 f15,f16⟩:Fld) x with
    |true=>simp[d];cases v;simp[Val.kind,Val.bits,Val.text,Val.list,Val.pairs,Val.raws]
    |false=>simp[d,A];cases v;simp[Val.kind,Val.bits,Val.text,Val.list,Val.pairs,Val.raws]
   ·simp[hy]
    rfl
theorem ZHO{s:Scm}{n:ByteArray}{k:Int}{b:Bool}{x:Val}(l:List Slt)(h:l.length≤1048576):(JO l (A8 s n) (AR (A8 s n) k) k b x).length≤4194304:=by
 have a:=ig (C7 (A8 s n) (AR (A8 s n) k).union) (Bu l k)
 have c:(Bu l k).length≤l.length:=Ff _ _
 unfold JO
 split
 ·omega
 ·rw[Zy6];omega
theorem ZKn{l:List Slt}{x y:Slt}(h:y∈FE l x):y=x∨y∈l:=by
 unfold FE at h
 cases e:l.findIdx? fun y=>decide (x.num<y.num)with
 |none=>
  rw[e]at h
  rcases Gf.1 h with h|h
  ·exact .inr h
  ·rcases YP.1 h with h|h
   ·exact .inl h
   ·cases h
 |some i=>
  rw[e]at h
  rcases Gf.1 h with h|h
  ·rcases Gf.1 h with h|h
   ·exact .inr (Ku h)
   ·exact .inl (Kw.1 h)
  ·exact .inr (Na h)
theorem ZF1{l:List Slt}{F:List Fld}{f:Fld}{k:Int}{b:Bool}{x:Val}{y:Slt}(h:y∈JO l F f k b x):y.val=x∨y∈l:=by
 have a:∀z∈D8 (Bu l k) (C7 F f.union),z∈l:=fun z c=>by
  rw[fN]at c
  exact(Dv.1 (Dv.1 c).1).1
 unfold JO at h
 split at h
 ·exact .inr (a y h)
 ·rcases ZKn h with rfl|h
  ·exact .inl rfl
  ·exact .inr (a y h)
theorem Zhc{s:Scm}{n:ByteArray}{v:Val}{k:Int}{x:Val}(hs:Ay (Av s)≤1048576)(_:(0:Nat)≤1)(a:Ay (Ai v)≤1048576)(d:Ay (Ai x)≤1048576):dD s n v k x=some true:=by
 have h:=Dt hs
 have f:=BI a
 obtain⟨b,r,w⟩:=o6g s n h
 obtain⟨m,t,_⟩:=o6 v a
 obtain⟨o,u,_⟩:=o6 x d
 have p:=nb v k f.s
 have q:=ZMP v k f.s
 have D:2097152<Aj:=AY (by omega)
 have B:Ok (fun b=>b=true) (BN Aj (.mk v.kind v.bits v.text v.list v.pairs (Bu v.slots k) v.raws) (.mk v.kind v.bits v.text v.list v.pairs (Bu v.slots k) v.raws)):=ZwM (c:=1048577) a (by omega) (CX (Ff _ _) (by have:=f.s;omega)) (fun y hy=>(kl (Hu a (Dv.1 hy).1)).mono (by have:=Hu a (Dv.1 hy).1;have j:Ay (Ai y.val)≤1048576:=this;omega)) Aj (by omega)
 obtain⟨z,s1,rfl⟩:=B
 dsimp only[dD,db,br,vw,lr,cl,clg,br]
 rw[r,Yc,t,u,aw]
 cases b with
 |false=>simp
 |true=>
 have A:=w rfl
 cases m with
 |false=>simp
 |true=>
 cases o with
 |false=>simp
 |true=>
 have i:=ZNe A hs
 have a1:=ZQl hs i n v k x a d
 have l:=ZMg hs i n v k x a d
 have g:Ay (Ai zV)≤1048576:=by decide
 have C:Ok (fun b=>b=true) (BN Aj (JM s n v k x).1 (JM s n v k x).1):=by
  have z0:Ok (fun b=>b=true) (BN Aj zV zV):=HK Aj zV (by omega) g
  unfold JM
  split
  ·exact z0
  ·split
   ·exact z0
   ·split
    ·exact z0
    ·refine ZwM (c:=1048577) a (by omega) (ZHO _ f.s) (fun y hy=>?_) Aj (by omega)
     rcases ZF1 hy with e|hy
     ·rw[e]
      exact(kl d).mono (by omega)
     ·have j:Ay (Ai y.val)≤1048576:=Hu a hy
      exact(kl j).mono (by omega)
 obtain⟨z,s2,rfl⟩:=C
 rw[a1,l,p,q]
 simp[s1,s2]
end Go.Proofs.YtleccgigifnfgaaGreat
