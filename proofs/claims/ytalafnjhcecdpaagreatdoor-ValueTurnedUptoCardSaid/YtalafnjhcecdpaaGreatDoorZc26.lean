import Derived.Test.YtalafnjhcecdpaaGreatDoorZc22
import Derived.Test.YtalafnjhcecdpaaGreatDoorZc25
import Derived.Test.YtalafnjhcecdpaaGreatDoorZc23
import Derived.Test.YtalafnjhcecdpaaGreatDoorZc20
import Derived.Test.YtalafnjhcecdpaaGreatDoorCards
import Derived.Test.YtalafnjhcecdpaaGreatDoorTie
import Derived.Lib.LaidTab
import Derived.WalkKit
import Derived.ProofKit
import Derived.OpenShut
import Derived.JoinedCond
import Derived.Test.YtalafnjhcecdpaaGreatDoorZc00
namespace Go.Proofs.YtalafnjhcecdpaaGreatDoor
set_option linter.all false
open Go Go.Eng
structure GdT (s:Scm) (t:Typ):Prop where
 en:t.kind=9→(C9 s t.name).2=true
 ms:t.kind=10→(Bk s t.name).2=true
 ty:1≤t.kind∧t.kind≤10
theorem GdF.t{s:Scm}{f:Fld}(h:GdF s f):GdT s f.type:=⟨h.en,h.ms,h.ty⟩
def Rf(R:MR)(s:Scm)(d:Nat):Prop:=∀d':Nat,d=d'+1→∀(f:Fld) (x:Val),GdF s f→AU x→R s f x (16-(d':Int))=some (Ca (A0 s true d') s true f x)
theorem sZ{s:Scm}(hs:An (At s)≤1048576)(m:Msg)(x:Raw)(hm:m.fields.length≤1048576)(hx:x.data.size≤1048576):Zj s m x=some (KE s m.fields x):=by
 have h:=Hf hs
 have o:x.data.size<4611686018427387904:=by omega
 have k:=qr s (AS m.fields x.num).type.name h.el
 have l:=my (C9 s (AS m.fields x.num).type.name).1 x.bits (nV h _)
 have p:(BX m.fields x.num).1=AS m.fields x.num:=rfl
 have n:Zq s (AS m.fields x.num) x=some (T6 s (AS m.fields x.num) x):=by
  unfold T6
  dsimp only[Zq,wg,lr,cl,AF]
  rw[k,Yd,l]
  generalize C9 s (AS m.fields x.num).type.name=g
  generalize AS m.fields x.num=f
  simp only[Fa,E6,Yy,YS]
  congr 1
  cases g.2<;>cases g.1.opn<;>cases decide (f.type.kind=9)<;>cases decide (f.card=5)<;>cases decide (x.wire=0)<;>cases decide (x.bits<2147483648)<;>cases KP g.1 x.bits<;>rfl
 dsimp only[Zj,br,vy,wg,lr,cl,AF,A1,br]
 rw[cZ _ _ hm,Yd,p,n]
 unfold KE
 generalize T6 s (AS m.fields x.num) x=kp
 have j:(if((decide (x.wire=3)&&decide ((4096:Int)<x.data.size))||decide ((65536:Int)<x.data.size))=true then some (3:Int)else some 0)=some (if(x.wire=3∧4096<x.data.size)∨65536<x.data.size then 3 else 0):=by
  by_cases c:(x.wire=3∧4096<x.data.size)∨65536<x.data.size
  ·rw[Yk c,Yk]
   simp only[YF,Yc,YJ]
   omega
  ·rw[Yi c,Yi]
   simp only[YF,Yc,YJ]
   omega
 simp only[o,E6,Yy,Fa,YS]
 by_cases a:x.num<1∨65535<x.num∨x.wire<0∨6<x.wire
 ·have a1:(((decide (x.num<1)||decide (65535<x.num))||decide (x.wire<0))||decide (6<x.wire))=true:=by
   simp only[YF,YJ]
   omega
  rw[Yk a1,Yk (by omega)]
 ·have a1:¬(((decide (x.num<1)||decide (65535<x.num))||decide (x.wire<0))||decide (6<x.wire))=true:=by
   simp only[YF,YJ]
   omega
  rw[Yi a1]
  by_cases b:(x.wire≤2∧x.data≠⟨#[]⟩)∨(2<x.wire∧x.bits≠0)
  ·have d:((decide (x.wire≤2)&&!decide (x.data=⟨#[]⟩))||((!decide (x.wire≤2))&&!decide (x.bits=0)))=true:=by
    by_cases i:x.data=⟨#[]⟩<;>simp only[i,Yv,YK,Y3,Y1,Hk,NE,Hm,YF,Yc,YU,YJ,YV,ne_eq,K6,K7,Hr,Lg,false_or]at b⊢<;>omega
   have e:x.num<1∨65535<x.num∨x.wire<0∨6<x.wire∨(x.wire≤2∧x.data≠⟨#[]⟩)∨(2<x.wire∧x.bits≠0):=.inr (.inr (.inr (.inr b)))
   rw[Yk e,d]
   rfl
  ·have d:((decide (x.wire≤2)&&!decide (x.data=⟨#[]⟩))||((!decide (x.wire≤2))&&!decide (x.bits=0)))=false:=by
    by_cases i:x.data=⟨#[]⟩<;>simp only[i,Yv,YK,Y3,Y1,Hk,NE,Hm,Lb,La,Vb,YJ,YV,ne_eq,K6,K7,Hr,Lg,false_or]at b⊢<;>omega
   have e:¬(x.num<1∨65535<x.num∨x.wire<0∨6<x.wire∨(x.wire≤2∧x.data≠⟨#[]⟩)∨(2<x.wire∧x.bits≠0)):=fun h=>by
    rcases h with h|h|h|h|h
    ·exact a (.inl h)
    ·exact a (.inr (.inl h))
    ·exact a (.inr (.inr (.inl h)))
    ·exact a (.inr (.inr (.inr h)))
    ·exact b h
   rw[Yi e,d,j]
   cases(BX m.fields x.num).2<;>cases kp<;>simp
theorem pk(R:MR){s:Scm}(hs:An (At s)≤1048576)(g:GdS s)(n:ByteArray)(v:Val)(d:Nat)(K:d≤16)(p:AU v)(A:Rf R s d):RE R s (Bk s n).1 v (17-(d:Int))=some (A0 s true d (Bk s n).1 v):=by
 have h:=Hf hs
 have hm:(Bk s n).1.fields.length≤1048576:=aK h n
 have w:C6 (Bk s n).1.fields (Bk s n).1.fields.length:=g.asc n
 have b:∀f∈(Bk s n).1.fields,GdF s f:=g.fl n
 generalize (Bk s n).1=m at hm w b
 have D:=D5 p
 obtain⟨s1,s2,L,y,M⟩:=D5 p
 have H:m.fields.length<4611686018427387904:=by omega
 have I:v.slots.length<4611686018427387904:=by omega
 have J:v.raws.length<4611686018427387904:=by omega
 dsimp only[RE,br,vz,wg,lr,lc,AF,Am,br]
 rw[bb D]
 by_cases c:v.kind≠10∨BA v=true
 ·have z:A0 s true d m v=12:=by cases d<;>(unfold A0;rw[Yk c])
  rw[z]
  by_cases a:v.kind=10
  ·have o:BA v=true:=c.resolve_left fun e=>e a
   simp[a,o]
  ·simp[a]
 ·have a:v.kind=10:=Decidable.not_not.1 fun e=>c (.inl e)
  have o:BA v=false:=by
   cases h:BA v with
   |false=>rfl
   |true=>exact absurd (.inr h) c
  cases d with
  |zero=>
   unfold A0
   rw[Yi c]
   simp[a,o]
  |succ d=>
   have t:¬(16:Int)<17-((d+1:Nat):Int):=by omega
   have E:=OG (B:=Pz s m v (17-((d+1:Nat):Int)) R) (N:=Aj) v.slots (FK (Ca (A0 s true d) s true) m.fields v.slots) id () (fun i x hx _=>by
    have e:=Zz5 R (Ca (A0 s true d) s true) s m v.slots i x (17-((d+1:Nat):Int)) w hm y hx fun f r=>by
     have:=A d rfl f x.val (b f r) (Kb p (Yn hx))
     rw[show 17-((d+1:Nat):Int)=16-(d:Int)by omega]
     exact this
    have j:=B9 hx
    have k:i+1<9223372036854775808:=by have:=(Yf.1 hx).1;omega
    dsimp only[Pz,br,wg,vs,v2,Aw,ln,Af,cs,wa,br]
    simp only[j,k,e,Yv,Yy,Yd]
    by_cases hy:FK (Ca (A0 s true d) s true) m.fields v.slots i x=0<;>simp[hy]) (by dsimp only[Pz,br,wg,vs,v2,Aw,ln,Af,cs,wa,br];simp) (A6 (by omega))
   have F:=OG (B:=Pk s m v R) (N:=Aj) m.fields (fun _ f=>HW v.slots f) id () (fun i f b _=>by
    have j:=B9 b
    have k:i+1<9223372036854775808:=by have:=(Yf.1 b).1;omega
    have e:=s7 v.slots f y
    unfold HW
    dsimp only[Pk,br,ix,wg,vs,Aw,ln,Af,CX,wa,br]
    simp only[j,k,b,e,Yv,Yy,Yd,E6,Fa,YS]
    by_cases C:f.card=1<;>cases Du v.slots f.num<;>simp[C]) (by dsimp only[Pk,br,ix,wg,vs,Aw,ln,Af,CX,wa,br];simp) (A6 (by omega))
   have G:=OG (B:=PB s m v R) (N:=Aj) v.raws (fun _ x=>KE s m.fields x) id () (fun i x hx _=>by
    have j:=B9 hx
    have k:i+1<9223372036854775808:=by have:=(Yf.1 hx).1;omega
    have e:=sZ hs m x hm (u7 p (Yn hx))
    dsimp only[PB,br,ix,wg,vs,Aw,ln,Af,cl,wa,br]
    simp only[j,k,hx,e,Yv,Yy,Yd]
    by_cases hy:KE s m.fields x=0<;>simp[hy]) (by dsimp only[PB,br,ix,wg,vs,Aw,ln,Af,cl,wa,br];simp) (A6 (by omega))
   unfold A0
   rw[Yi c]
   simp only[a,o,t,H,I,J,E,F,G,Yv,YK,Y3,Y1,Qi,Ym,Nu,Fa,YS,Yy,YH,Yd]
   by_cases l:BW (FK (Ca (A0 s true d) s true) m.fields v.slots) v.slots 0=0
   ·by_cases q:BW (fun _ f=>HW v.slots f) m.fields 0=0
    ·by_cases u:BW (fun _ x=>KE s m.fields x) v.raws 0=0
     ·simp[l,q,u]
     ·simp[l,q,u]
    ·simp[l,q]
   ·simp[l]
theorem qq(R:MR){s:Scm}(hs:An (At s)≤1048576)(g:GdS s)(t:Typ)(a:GdT s t)(v:Val)(d:Nat)(j:d≤16)(b:AU v)(i:Rf R s d):L2 R s t v (16-(d:Int))=some (Cs (A0 s true d) s t v):=by
 have h:=Hf hs
 have e:L3 s t.name=some (Bk s t.name):=da s _ h.ml
 have hm:=pk R hs g t.name v d j b i
 have w: -9223372036854775808≤17-(d:Int)∧17-(d:Int)<9223372036854775808:=by omega
 have wl:16-(d:Int)+1=17-(d:Int):=by omega
 dsimp only[L2,br,wg,vs,lr,cl,cs,wi,br]
 by_cases c:t.kind=10
 ·have f:=a.ms c
  unfold Cs
  rw[Yk c,Yk f,e]
  simp only[c,Yv,Yy,Yd,w,DD,wl,hm]
 ·rw[oY s t h (D5 b),r5 (R:=A0 s true d) a.ty.1 (by have:=a.ty.2;omega) a.en]
  simp only[c,YK,Ym,YH,Yd]
theorem s8(R:MR){s:Scm}(hs:An (At s)≤1048576)(g:GdS s)(f:Fld)(C:GdF s f)(H:f.card=5)(l:List Pr)(hl:l.length≤1048576)(A:∀p∈l,AU p.key∧AU p.val)(d:Nat)(J:d≤16)(I:Rf R s d):RD R s f l (16-(d:Int))=some (BW (Ia (Cs (A0 s true d) s f.type) f.key true l) l 0):=by
 have h:=Hf hs
 have y:=fun(x:Val) (hx:AU x)=>qq R hs g f.type C.t x d J hx I
 have K:=C.ky H
 have w2:l.length<4611686018427387904:=by omega
 generalize 16-(d:Int)=M at y
 have O:=OG (B:=Mr s f l M R) (N:=Aj) l (Ia (Cs (A0 s true d) s f.type) f.key true l) id () (fun i p a G=>by
  have v:=B9 a
  have hi:=(Yf.1 a).1
  have w:i+1<9223372036854775808:=by omega
  have F:i≤l.length:=by omega
  have D2:=A p (Yn a)
  have t:=oY s (.mk f.key ⟨#[]⟩) h (D5 D2.1)
  have u:Lw s (.mk f.key ⟨#[]⟩) p.key=Cr f.key p.key:=by
   unfold Lw
   rw[Yk (.inr (show f.key≠9 by omega))]
  rw[u]at t
  have D:=y p.val D2.2
  have L:∀q∈l.take i,Cr f.key q.key=0:=fun q m=>by
   obtain⟨j,k⟩:=YG.1 m
   rw[Y5]at k
   split at k
   ·have:=G j q (by assumption) k
    unfold Ia at this
    by_cases c:Cr f.key q.key=0
    ·exact c
    ·rw[Yk c]at this
     exact absurd this c
   ·cases k
  unfold Ia
  by_cases n:Cr f.key p.key=0
  ·have E:Oi (l.take i) (fun z=>Oh z p)=some ((l.take i).any fun q=>GW q.key p.key):=Zva _ _ _ (fun q m=>by
    have b:=L q m
    have kd:=(HT b).1
    have e:=jG (d:=q.key) (x:=p.key) (by rw[kd];omega) (A q (U2 m)).1 D2.1
    rw[qb K b n]at e
    dsimp only[Oh,wg,lr,cl]
    rw[e]
    rfl) (by rw[YQ];omega)
   dsimp only[Mr,br,ix,wg,vs,Aw,ln,Af,cl,cs,wa,sL,br]
   simp only[v,w,F,a,t,D,E,n,Bd.c,Bd.vl,Qj,Hl,Yv,Yy,Yd,DD,Cn]
   by_cases o:((l.take i).any fun q=>GW q.key p.key)=true
   ·simp[o]
   ·by_cases r:Cs (A0 s true d) s f.type p.val=0
    ·simp only[o,r]
     simp
    ·simp only[o,r]
     simp[r]
  ·dsimp only[Mr,br,ix,wg,vs,Aw,ln,Af,cl,cs,wa,sL,br]
   simp only[v,w,a,t,Yv,Yy,Yd]
   simp[n]) (by dsimp only[Mr,br,ix,wg,vs,Aw,ln,Af,cl,cs,wa,sL,br];simp) (A6 (by omega))
 dsimp only[RD,vz,lr,lc,Am]
 rw[O]
 by_cases c6:BW (Ia (Cs (A0 s true d) s f.type) f.key true l) l 0=0
 ·simp[c6,w2]
 ·simp[c6,w2]
theorem to(R:MR){s:Scm}(hs:An (At s)≤1048576)(g:GdS s)(f:Fld)(n:GdF s f)(v:Val)(d:Nat)(m:d≤16)(j:AU v)(l:Rf R s d):T9 R s f v (16-(d:Int))=some (Ca (A0 s true d) s true f v):=by
 have h:=Hf hs
 have w:=D5 j
 obtain⟨s1,s2,A,C,D⟩:=D5 j
 have o:v.list.length<4611686018427387904:=by omega
 have k:=fun(x:Val) (hx:AU x)=>qq R hs g f.type n.t x d m hx l
 have hN:=fun t=>s8 R hs g f n t v.pairs A (fun p u=>GN j u) d m l
 generalize 16-(d:Int)=y at k hN
 have z:=OG (B:=Pe s f v y R) (N:=Aj) v.list (fun _ x=>Cs (A0 s true d) s f.type x) id () (fun i x hx _=>by
  have q:=B9 hx
  have r:i+1<9223372036854775808:=by have:=(Yf.1 hx).1;omega
  have e:=k x (PC j (Yn hx))
  dsimp only[Pe,br,ix,wg,vs,v2,Aw,ln,Af,cs,wa,br]
  simp only[q,r,hx,e,Yv,Yy,Yd]
  by_cases hy:Cs (A0 s true d) s f.type x=0<;>simp[hy]) (by dsimp only[Pe,br,ix,wg,vs,v2,Aw,ln,Af,cs,wa,br];simp) (A6 (by omega))
 have e0:=k v j
 unfold Ca
 dsimp only[T9,br,vz,wg,lr,lc,AF,cs,Am,br]
 rw[bb w,z,e0]
 by_cases b:f.card=4
 ·by_cases a:v.kind=11
  ·cases BA v with
   |true=>simp[b,a]
   |false=>
    by_cases c6:BW (fun _ x=>Cs (A0 s true d) s f.type x) v.list 0=0
    ·simp[b,a,c6,o]
    ·simp[b,a,c6,o]
  ·simp[b,a]
 ·by_cases c:f.card=5
  ·have hN:=hN c
   by_cases a:v.kind=12
   ·cases BA v with
    |true=>simp[c,a]
    |false=>simp[c,a,hN]
   ·simp[c,a]
  ·simp[b,c]
theorem nN{s:Scm}(hs:An (At s)≤1048576)(g:GdS s):∀(a d:Nat),d<a→d≤16→∀(f:Fld) (v:Val),GdF s f→AU v→JT a s f v (16-(d:Int))=some (Ca (A0 s true d) s true f v)
 |0,d,b,_,_,_,_,_=>absurd b (Y0 _)
 |a+1,d,b,c,f,v,h,j=>to (JT a) hs g f h v d c j fun d' e k x i hx=>nN hs g a d' (by omega) (by omega) k x i hx
theorem oQ{s:Scm}(hs:An (At s)≤1048576)(g:GdS s)(n:ByteArray)(v:Val)(b:AU v):Zc s n v=some (Lj s true n v):=by
 have h:=Hf hs
 have j:L3 s n=some (Bk s n):=da s _ h.ml
 have i:=pk (JT Aj) hs g n v 16 (Ye _) b fun d' e f x l hx=>nN hs g Aj d' (by have:=uJ;omega) (by omega) f x l hx
 rw[show(17:Int)-((16:Nat):Int)=1 by decide]at i
 have k:=qC Aj v (by have m:An (Ah v)≤1048576:=b;exact A6 (by omega)) b
 unfold Lj
 dsimp only[Zc,br,wg,lr,cl,br]
 rw[j,Yd,i,k]
 cases(Bk s n).2 with
 |false=>simp
 |true=>
  by_cases c:A0 s true 16 (Bk s n).1 v=0
  ·by_cases d:4096<cnt v
   ·have a:(4096:Int)<cnt v:=by omega
    simp[c,d,a]
   ·have a:¬(4096:Int)<cnt v:=by omega
    simp[c,d,a]
  ·simp[c]
end Go.Proofs.YtalafnjhcecdpaaGreatDoor
namespace Go.Proofs.YtalafnjhcecdpaaGreatDoor
set_option linter.all false
open Go Go.Eng
theorem qn{v:Val}(h:AU v):RN v=some (D0 v):=by
 obtain⟨n,d,f,g⟩:=aE h
 obtain⟨y,e,a⟩:=kf f
 rw[←d]at e
 unfold D0
 dsimp only[RN,br,wg,lr,AF,br]
 rw[e,g]
 by_cases c:v.kind=6
 ·cases b:If n with
  |true=>
   rw[b,YJ]at a
   simp[c,a]
  |false=>
   rw[b,YV]at a
   simp[c,a]
 ·simp[c]
theorem tG{v:Val}(h:SzV v):XX v=some (QU v):=by
 have a:L5 v.kind=some (decide (1≤v.kind)&&decide (v.kind≤9)):=rfl
 dsimp only[XX,wg,lr,cl,AF]
 rw[a,pe h,Yd]
 unfold QU
 rw[Bool.decide_and]
 cases(decide (1≤v.kind)&&decide (v.kind≤9))<;>cases G2 v<;>cases decide (v.bits=0)<;>cases decide (v.text=⟨#[]⟩)<;>cases DW v.kind<;>rfl
theorem Zve(l:List Slt)(h:l.length<549755813888):R1 l=some l:=by
 cases l with
 |nil=>rfl
 |cons x r=>
  dsimp only[R1,al,br,vw,lr,a0,mv,br]
  simp only[D7]at h
  simp
  omega
theorem ZuX(l:List Raw)(h:l.length<549755813888):RV l=some l:=by
 cases l with
 |nil=>rfl
 |cons x r=>
  dsimp only[RV,al,br,vw,lr,a0,mv,br]
  simp only[D7]at h
  simp
  omega
theorem sb{N:Fld→Val→Val}{F:List Fld}(h:C6 F F.length){l:List Slt}(i:l.Pairwise fun a b=>a.num≠b.num)(n:∀x∈l,(BX F x.num).2=true):((B1 Eu l).filter fun x=>!BJ (AS F x.num) x.val).map (fun x=>Slt.mk x.num (N (AS F x.num) x.val))=Dp N F l:=by
 have j:∀x∈l,AS F x.num∈F∧(AS F x.num).num=x.num:=fun x hx=>by
  rcases Mi F x.num with⟨c,_⟩|⟨k,m⟩
  ·rw[n x hx]at c;cases c
  ·exact⟨m,Sn k⟩
 refine aw (Nx.2 ((mi i).sublist List.filter_sublist)) (SA (SR h) i) fun z=>?_
 rw[SF]
 simp only[YT,GC,(FV l).mem_iff,YU]
 constructor
 ·rintro⟨x,⟨hx,d⟩,rfl⟩
  obtain⟨c,e⟩:=j x hx
  exact⟨AS F x.num,c,x,hx,e.symm,d,by rw[e]⟩
 ·rintro⟨f,hm,x,hx,e,d,rfl⟩
  obtain⟨c,o⟩:=j x hx
  have g:AS F x.num=f:=aA h c hm (by omega)
  exact⟨x,⟨hx,by rw[g];exact d⟩,by rw[g,e]⟩
theorem Zvd{l:List Slt}(A:l.Pairwise fun a b=>a.num≠b.num)(hl:l.length≤4194304):X9 l=some (B1 Eu l):=by
 have s:=Zve l (by omega)
 have q:=mi A
 have el:(B1 Eu l).length=l.length:=(FV l).length_eq
 have m:Fj l (fun z0 k=>LX z0 k)=some (B1 Eu l):=by
  have h:=cT (pf:=fun z0 k=>LX z0 k) (cmp:=Eu) bx l (fun x _ y _=>by
   dsimp only[LX,wg,lr,cl]
   rw[Ly]
   rfl) hl
  rw[Zn (show CmpLaw Eu from Mh Slt.num) l]at h
  exact h
 generalize B1 Eu l=r at q el m⊢
 have C:r.length≤4194304:=by omega
 have e:=II (B:=MK r) (N:=Aj) (ρ:=List Slt) r (fun p=>p) (fun i b=>(b,i)) id (fun i p d=>by
  have n:=B9 d
  have hi:=(Yf.1 d).1
  have j:i+1<9223372036854775808:=by omega
  have o:((i+1:Nat):Int)=r.length↔i+1=r.length:=by omega
  have f:(r.take i).length<549755813887:=by rw[YQ];omega
  generalize r.take i=out at f⊢
  dsimp only[MK,br,vz,vw,wg,vs,vg,ln,Af,ap,wa,ir,ca,fl,A1,br]
  by_cases c:i+1=r.length
  ·simp only[n,j,o,c,d,f,hi,Yv,Y3,Iw,Ym,Yd,Ld,Yy,YH,DA]
   have z:r.length<9223372036854775808:=by omega
   simp[z]
  ·have g:i+1<r.length:=by omega
   have t:r.getD (i+1) Rw.z=r[i+1]:=by rw[Yj,Ya g];rfl
   have u:r[i]=p:=(Yf.1 d).2
   have v:=JE.1 q i (i+1) hi g (by omega)
   rw[u]at v
   have w:¬p.num=(r.getD (i+1) Rw.z).num:=by rw[t];omega
   simp only[n,j,o,c,g,d,w,hi,Yv,YK,Y1,Hm,Ns,Yd,Fa,YS,forall_const,Yy,DB]
   simp[j,f]) (by dsimp only[MK,br,vz,vw,wg,vs,vg,ln,Af,ap,wa,ir,ca,fl,A1,br];simp) (A6 (by omega))
 have e:Ag (MK r) Aj ([],0)=some (.inl r):=e
 dsimp only[X9,vz,vw,lr,lc,rn,fl,fr,A1]
 rw[s,Yd,m,Yd]
 first|rw[Yk rfl,e];rfl|(rw[Yk el,e];rfl)|simp[e,el]
theorem az{g:Pr→Pr}(d:∀x,(g x).key=x.key)(l:List Pr):CB (l.map g)=(CB l).map g:=by
 have c:∀x y,AW (g x) (g y)=AW x y:=fun x y=>by unfold AW;rw[d,d]
 refine Su (Mc _) ?_ fun z=>?_
 ·exact Nx.2 ((Mc l).imp fun {x y} h=>by show AW (g x) (g y)<0;rw[c];exact h)
 ·rw[J2,YT]
  constructor
  ·rintro⟨j,a,h⟩
   rw[YM,Hn]at a
   obtain⟨x,hx,rfl⟩:=a
   refine⟨x,J2.2 ⟨j,hx,fun k y b e=>h k (g y) ?_ ?_⟩,rfl⟩
   ·rw[YM,b];rfl
   ·rw[c];exact e
  ·rintro⟨x,hx,rfl⟩
   obtain⟨j,a,h⟩:=J2.1 hx
   refine⟨j,by rw[YM,a];rfl,fun k y b e=>?_⟩
   rw[YM,Hn]at b
   obtain⟨w,f,rfl⟩:=b
   rw[c]at e
   exact h k w f e
theorem rS(l:List Pr):(CB l).length=0↔l.length=0:=by
 have a:=Z6 l l.length
 have a:(CB l).length≤l.length:=a
 refine⟨fun h=>?_,fun h=>by omega⟩
 by_cases c:l.length=0
 ·exact c
 ·have hi:l.length-1<l.length:=by omega
  have hm:l[l.length-1]∈CB l:=J2.2 ⟨l.length-1,Ya hi,fun k y b _=>by have:=(Yf.1 b).1;omega⟩
  have:=List.length_pos_of_mem hm
  omega
theorem sP{l:List Pr}{p:Pr}(h:p∈CB l):p∈l:=by
 obtain⟨j,a,_⟩:=J2.1 h
 exact Yn a
def PY(k:Bool)(s:Scm)(R:Scm→Fld→Val→Option (Val×Bool))(d:Nat):Prop:=∀(f:Fld) (v:Val),GdF s f→AU v→Ca (A0 s k d) s k f v=0→R s f v=some (Cy (Ba s d) f v,!BJ f v)
theorem nX{s:Scm}{k:Bool}(hs:An (At s)≤1048576)(g:GdS s)(R:Scm→Fld→Val→Option (Val×Bool))(d:Nat)(I:PY k s R d)(n:ByteArray)(v:Val)(z:AU v)(h:OkM s k d (Bk s n).1 v):Ou R s n v=some (Ba s (d+1) n v):=by
 have A:=D5 z
 have O:=A.s
 have M:=A.r
 have C:L3 s n=some (Bk s n):=da s _ (Hf hs).ml
 have pw:v.slots.Pairwise fun a b=>a.num≠b.num:=h.pw.imp fun h=>h.1
 have D:=ZuX v.raws (by omega)
 have u:=Zvd pw (by omega)
 have E:Fj v.raws (fun z0 q=>LU z0 q)=some (I7 v.raws):=by
  have h:=cT (pf:=fun z0 q=>LU z0 q) (cmp:=Ij) bx v.raws (fun x _ y _=>by
   dsimp only[LU,wg,lr,cl]
   rw[Ly]
   rfl) (by omega)
  rw[Zn (show CmpLaw Ij from Mh Raw.num) v.raws,←mS]at h
  exact h
 have el:(B1 Eu v.slots).length=v.slots.length:=(FV v.slots).length_eq
 have hm:∀x∈B1 Eu v.slots,x∈v.slots:=fun x hx=>(FV v.slots).mem_iff.1 hx
 have f:=sb (N:=Cy (Ba s d)) (g.asc n) pw fun x hx=>(h.sl x hx).1
 generalize B1 Eu v.slots=r at u el hm f
 have w2:r.length<4611686018427387904:=by omega
 have o:(Bk s n).1.fields.length≤1048576:=aK (Hf hs) n
 have j:=II (B:=MD s R (Bk s n) v.raws r) (N:=Aj) (ρ:=Val) r (fun p=>(p.filter fun x=>!BJ (AS (Bf s n) x.num) x.val).map (fun x=>Slt.mk x.num (Cy (Ba s d) (AS (Bf s n) x.num) x.val))) (fun i b=>(i,b)) id (fun i x hx=>by
  have G:=B9 hx
  have hi:=(Yf.1 hx).1
  have m:i+1<9223372036854775808:=by omega
  have e:=hm x (Yn hx)
  have t:(((r.take i).filter fun x=>!BJ (AS (Bf s n) x.num) x.val).map (fun x=>Slt.mk x.num (Cy (Ba s d) (AS (Bf s n) x.num) x.val))).length<549755813887:=by
   rw[YE]
   have H:=U0 (fun x:Slt=>!BJ (AS (Bf s n) x.num) x.val) (r.take i)
   rw[YQ]at H
   omega
  have f:=cZ (Bk s n).1 x.num o
  obtain⟨K,L⟩:=h.sl x e
  have J:GdF s (AS (Bk s n).1.fields x.num):=by
   rcases Mi (Bk s n).1.fields x.num with⟨c,_⟩|⟨_,c⟩
   ·rw[K]at c;cases c
   ·exact g.fl n _ c
  have F:R s (BX (Bk s n).1.fields x.num).1 x.val=some (Cy (Ba s d) (AS (Bf s n) x.num) x.val,!BJ (AS (Bf s n) x.num) x.val):=I _ _ J (Kb z e) L
  rw[K5,DP]
  generalize ((r.take i).filter fun x=>!BJ (AS (Bf s n) x.num) x.val).map (fun x=>Slt.mk x.num (Cy (Ba s d) (AS (Bf s n) x.num) x.val))=out at t⊢
  dsimp only[MD,br,ix,vz,vw,wg,vs,ln,Af,ap,cl,cs,wa,fl,br]
  simp only[w2,G,m,hx,f,F,Yv,Yy,Yd]
  cases w:BJ (AS (Bf s n) x.num) x.val with
  |true=>simp[w,m]
  |false=>simp[w,m,t]) (by dsimp only[MD,br,ix,vz,vw,wg,vs,ln,Af,ap,cl,cs,wa,fl,br];simp[w2]) (A6 (by omega))
 rw[f]at j
 have j:Ag (MD s R (Bk s n) v.raws r) Aj (0,[])=some (.inl (Dp (Cy (Ba s d)) (Bf s n) v.slots)):=j
 dsimp only[Ou,Ha,vz,vw,wg,vs,lr,lc,cl,fl,fr,Ha,Am]
 rw[C,Yd,D,Yd,u]
 have l:v.raws.length=(I7 v.raws).length:=by rw[mS];exact(FV v.raws).length_eq.symm
 simp only[w2,Yy,Yd,j,D9,E]
 first|rfl|(rw[Yk l];rfl)
theorem bG{s:Scm}{k:Bool}(hs:An (At s)≤1048576)(g:GdS s)(R:Scm→Fld→Val→Option (Val×Bool))(d:Nat)(f:∀d':Nat,d=d'+1→PY k s R d')(t:Typ)(v:Val)(b:AU v)(h:Cs (A0 s k d) s t v=0):FU R s t v=some (BM (Ba s d) t v):=by
 unfold BM
 dsimp only[FU,br,wg,lr,cl,cs,br]
 by_cases c:t.kind=10
 ·unfold Cs at h
  rw[Yk c]at h
  cases a:(Bk s t.name).2 with
  |false=>rw[a]at h;cases h
  |true=>
   rw[a,Yk rfl]at h
   cases d with
   |zero=>
    unfold A0 at h
    split at h<;>cases h
   |succ d=>
    have e:=nX hs g R d (f d rfl) t.name v b (bj.1 h)
    rw[Yk (Yo c),e,Yk c]
    rfl
 ·rw[Yi (by simp[c]),qn b,Yi c]
  rfl
theorem oA(n:Nat):decide ((0:Int)<(n:Int))=!decide (n=0):=by
 cases n with
 |zero=>rfl
 |succ n=>simp
theorem s4{s:Scm}{k:Bool}(hs:An (At s)≤1048576)(g:GdS s)(R:Scm→Fld→Val→Option (Val×Bool))(d:Nat)(z:∀d':Nat,d=d'+1→PY k s R d')(f:Fld)(v:Val)(G:GdF s f)(m:AU v)(h:Ca (A0 s k d) s k f v=0):Rk R s f v=some (Cy (Ba s d) f v,!BJ f v):=by
 have C:=D5 m
 have J:=C.l
 have K:=C.p
 have D:v.list.length<4611686018427387904:=by omega
 unfold Ca at h
 dsimp only[Rk,bI,bw,cE,SL,ZD,bf,TR,aa,vz,vw,wg,lr,lc,cl,AF,cs,tw,du,fl,fr,Am,A1]
 by_cases c:f.card=4
 ·rw[Yk c]at h
  rw[wU c]
  have t:(!BJ f v)=decide ((0:Int)<((v.list.map (BM (Ba s d) f.type)).length:Int)):=by unfold BJ;rw[Yk c,oA,YE]
  split at h
  ·cases h
  ·rw[OD]at h
   have q:=II (B:=ME s f v R) (N:=Aj) (ρ:=Val×Bool) v.list (fun p=>p.map (BM (Ba s d) f.type)) (fun i b=>(i,b)) id (fun i x hx=>by
    have w:=B9 hx
    have hi:=(Yf.1 hx).1
    have y:i+1<9223372036854775808:=by omega
    have hm:=Yn hx
    have e:=bG hs g R d z f.type x (PC m hm) (h x hm)
    have a1:((v.list.take i).map (BM (Ba s d) f.type)).length<549755813887:=by rw[YE,YQ];omega
    rw[DP]
    generalize (v.list.take i).map (BM (Ba s d) f.type)=out at a1⊢
    dsimp only[ME,Uh,T2,br,ix,vz,vw,wg,vs,ln,Af,lc,ap,cs,wa,tw,fl,br]
    simp only[D,w,y,hx,e,a1,Yv,Yy,Yd,YR,Gz]) (by dsimp only[ME,Uh,T2,br,ix,vz,vw,wg,vs,ln,Af,lc,ap,cs,wa,tw,fl,br];simp[D]) (A6 (by omega))
   have q:Ag (ME s f v R) Aj (0,[])=some (.inl (v.list.map (BM (Ba s d) f.type))):=q
   rw[t]
   simp only[c,D,Yv,Yy,q,Yd,D9]
 ·rw[Yi c]at h
  by_cases l:f.card=5
  ·rw[Yk l]at h
   rw[Xf l]
   split at h
   ·cases h
   ·rw[Ml]at h
    have A:∀p∈v.pairs,p.key.kind=f.key∧Cs (A0 s k d) s f.type p.val=0:=fun p a=>by
     obtain⟨j,H⟩:=YG.1 a
     have:=h j p H
     rw[MI]at this
     exact⟨(HT this.1).1,this.2.2⟩
    have I:=G.ky l
    have E:∀p∈v.pairs,D0 p.key=p.key:=fun p a=>by
     unfold D0
     rw[Yi]
     have:=(A p a).1
     omega
    have o:=Zvc v.pairs (by omega) fun p a=>by
     have:=(A p a).1
     exact⟨by omega,(GN m a).1⟩
    have F:(v.pairs.map fun p=>Pr.mk (D0 p.key) (BM (Ba s d) f.type p.val))=v.pairs.map fun p=>Pr.mk p.key (BM (Ba s d) f.type p.val):=Y8 fun p a=>by rw[E p a]
    rw[F,az (g:=fun p=>Pr.mk p.key (BM (Ba s d) f.type p.val)) fun _=>rfl]
    have t:(!BJ f v)=decide ((0:Int)<(((CB v.pairs).map fun p=>Pr.mk p.key (BM (Ba s d) f.type p.val)).length:Int)):=by
     unfold BJ
     rw[Yi c,Yk l,oA,YE]
     exact congrArg _ (decide_eq_decide.2 (rS v.pairs).symm)
    have hl:=Z6 v.pairs v.pairs.length
    have hl:(CB v.pairs).length≤v.pairs.length:=hl
    have n:∀p∈CB v.pairs,p∈v.pairs:=fun p a=>sP a
    generalize CB v.pairs=r at o t hl n⊢
    have w2:r.length<4611686018427387904:=by omega
    have q:=II (B:=ML s f R r) (N:=Aj) (ρ:=Val×Bool) r (fun p=>p.map fun p=>Pr.mk p.key (BM (Ba s d) f.type p.val)) (fun i b=>(i,b)) id (fun i p a=>by
     have w:=B9 a
     have hi:=(Yf.1 a).1
     have y:i+1<9223372036854775808:=by omega
     have hm:=n p (Yn a)
     have e:=bG hs g R d z f.type p.val (GN m hm).2 (A p hm).2
     have u:RN p.key=some p.key:=by rw[qn (GN m hm).1,E p hm]
     have a1:((r.take i).map fun p=>Pr.mk p.key (BM (Ba s d) f.type p.val)).length<549755813887:=by rw[YE,YQ];omega
     rw[DP]
     generalize (r.take i).map (fun p=>Pr.mk p.key (BM (Ba s d) f.type p.val))=out at a1⊢
     dsimp only[ML,Tg,IN,OZ,br,ix,vz,vw,wg,vs,ln,Af,lc,ap,cl,cs,wa,tw,fl,br]
     simp only[w2,w,y,a,e,u,a1,Yv,Yy,Yd,YR,Gz]) (by dsimp only[ML,Tg,IN,OZ,br,ix,vz,vw,wg,vs,ln,Af,lc,ap,cl,cs,wa,tw,fl,br];simp[w2]) (A6 (by omega))
    have q:Ag (ML s f R r) Aj (0,[])=some (.inl (r.map fun p=>Pr.mk p.key (BM (Ba s d) f.type p.val))):=q
    rw[t]
    simp only[c,l,w2,Yv,YK,Ym,YH,Yy,o,q,Yd,D9]
    first|done|simp[w2,q]
  ·rw[Yi l]at h
   rw[wK c l]
   have e:=bG hs g R d z f.type v m h
   have u:=tG C
   have o:(!BJ f v)=((!decide (f.card=3))||(!QU v)):=by
    unfold BJ
    rw[Yi c,Yi l,Bool.not_and]
   rw[o]
   simp only[c,l,YK,Ym,YH,e,u,Yd,Fa,YS,E6,Yy]
theorem qU{s:Scm}{k:Bool}(hs:An (At s)≤1048576)(g:GdS s):∀a d:Nat,d<a→PY k s (GE a) d
 |0,d,h=>by omega
 |a+1,d,h=>fun f v c i b=>s4 hs g (GE a) d (fun d' e=>qU hs g a d' (by omega)) f v c i b
mutual
def dp:Val→Nat
 |.mk k _ _ l p s _=>max (max (Uq l) (Ur p)) (Us s)+if k=10 then 1 else 0
def Uq:List Val→Nat
 |[]=>0
 |v::l=>max (dp v) (Uq l)
def WV:Pr→Nat
 |.mk k v=>max (dp k) (dp v)
def Ur:List Pr→Nat
 |[]=>0
 |p::l=>max (WV p) (Ur l)
def Wd:Slt→Nat
 |.mk _ v=>dp v
def Us:List Slt→Nat
 |[]=>0
 |x::l=>max (Wd x) (Us l)
end
mutual
theorem TE:∀v:Val,dp v≤cnt v
 |.mk k b t l p s r=>by
  have a:=pj l
  have c:=qE p
  have d:=ph s
  rw[dp,cnt]
  split<;>omega
theorem pj:∀l:List Val,Uq l≤Bm l
 |[]=>Cn _
 |v::l=>by
  have a:=TE v
  have b:=pj l
  rw[Uq,Bm]
  omega
theorem ZzB:∀p:Pr,WV p≤Kj p
 |.mk k v=>by
  have a:=TE k
  have b:=TE v
  rw[WV,Kj]
  omega
theorem qE:∀l:List Pr,Ur l≤CT l
 |[]=>Cn _
 |v::l=>by
  have a:=ZzB v
  have b:=qE l
  rw[Ur,CT]
  omega
theorem ZyF:∀x:Slt,Wd x≤HO x
 |.mk n v=>by
  have a:=TE v
  rw[Wd,HO]
  omega
theorem ph:∀l:List Slt,Us l≤Ce l
 |[]=>Cn _
 |v::l=>by
  have a:=ZyF v
  have b:=ph l
  rw[Us,Ce]
  omega
end
theorem w6:k7=some true:=by kernel_rfl
theorem fg{s:Scm}{k:Bool}(hs:An (At s)≤1048576)(g:GdS s)(n:ByteArray)(v:Val)(a:AU v)(h:OkM s k 15 (Bk s n).1 v):Ou (GE Aj) s n v=some (Ba s 16 n v):=nX hs g _ 15 (qU hs g Aj 15 (A6 (by omega))) n v a h
theorem o9(k b:Int)(t:ByteArray)(l:List Val)(p:List Pr)(s:List Slt)(r:List Raw):cnt (.mk k b t l p s r)=1+r.length+Bm l+CT p+Ce s:=Te _
theorem nd{g:Slt→Slt}:∀{l:List Slt},(∀x∈l,HO (g x)≤HO x)→Ce (l.map g)≤Ce l
 |[],_=>Ye _
 |x::l,h=>by
  have a:=h x (Yz ..)
  have b:=nd (g:=g) (l:=l) fun y hy=>h y (Yx _ hy)
  rw[YR,Ce,Ce]
  omega
theorem zl{a b:List Slt}(h:a.Perm b):Ce a=Ce b:=by
 induction h with
 |nil=>rfl
 |cons x _ e=>rw[Ce,Ce,e]
 |swap x y l=>rw[Ce,Ce,Ce,Ce];omega
 |trans _ _ c d=>exact c.trans d
theorem zt{a b:List Pr}(h:a.Perm b):CT a=CT b:=by
 induction h with
 |nil=>rfl
 |cons x _ e=>rw[CT,CT,e]
 |swap x y l=>rw[CT,CT,CT,CT];omega
 |trans _ _ c d=>exact c.trans d
theorem z1{l:List Pr}(h:l.Pairwise fun a b=>¬AW a b=0):CB l=B1 AW l:=by
 have i:=lC (cf:=AW) F1 l
 have m:(B1 AW l).Pairwise fun a b=>¬AW a b=0:=(ej (fun {a b} h e=>h (oV e)) (FV l)).2 h
 have o:GY (B1 AW l):=(ed.2 ⟨i,m⟩).imp fun {a b} d=>by
  have n:=(not_congr (GS a b)).1 d.2
  exact Decidable.byContradiction fun c=>n ⟨c,d.1⟩
 refine Su (Mc l) o fun x=>?_
 rw[J2,(FV l).mem_iff]
 refine⟨fun⟨j,f,_⟩=>Yn f,fun hx=>?_⟩
 obtain⟨j,f⟩:=YG.1 hx
 refine⟨j,f,fun k y p e=>Nat.le_of_not_lt fun g=>?_⟩
 obtain⟨q,r⟩:=Yf.1 f
 obtain⟨s,t⟩:=Yf.1 p
 have:=JE.1 h j k q s g
 rw[r,t]at this
 exact this e
theorem mQ{l:List Pr}(h:l.Pairwise fun a b=>¬AW a b=0):(CB l).Perm l:=by rw[z1 h];exact FV l
structure OkP (s:Scm) (d:Nat) (f:Fld) (l:List Pr):Prop where
 ky:∀p∈l,Cr f.key p.key=0
 vl:∀p∈l,Cs (A0 s true d) s f.type p.val=0
 df:l.Pairwise fun a b=>GW a.key b.key=false
theorem nR{s:Scm}{d:Nat}{f:Fld}{l:List Pr}:BW (Ia (Cs (A0 s true d) s f.type) f.key true l) l 0=0↔OkP s d f l:=by
 rw[Ml]
 constructor
 ·intro h
  refine⟨fun p g=>?_,fun p g=>?_,JE.2 fun i j hi a o=>?_⟩
  ·obtain⟨j,a⟩:=YG.1 g
   exact(MI.1 (h j p a)).1
  ·obtain⟨j,a⟩:=YG.1 g
   exact(MI.1 (h j p a)).2.2
  ·have b:=(MI.1 (h j _ (Ya a))).2.1
   rw[YP]at b
   refine Bool.eq_false_iff.2 fun e=>b ⟨rfl,YL.2 ⟨l[i],?_,e⟩⟩
   exact PZ.2 ⟨i,by omega,rfl⟩
 ·rintro⟨m,b,n⟩ j p a
  have hm:=Yn a
  refine MI.2 ⟨m p hm,fun c=>?_,b p hm⟩
  obtain⟨q,k,e⟩:=YL.1 c.2
  rw[YP]at k
  obtain⟨i,hi,rfl⟩:=PZ.1 k
  obtain⟨r,t⟩:=Yf.1 a
  have:=JE.1 n i j (by omega) r (by omega)
  rw[t,e]at this
  cases this
theorem sG{n:Int}{a b:Pr}(o:n=1∨n=2∨n=3∨n=4∨n=5∨n=7)(i:AU a.key)(j:AU b.key)(g:Cr n a.key=0)(m:Cr n b.key=0)(h:GW a.key b.key=false):¬AW a b=0:=by
 intro c
 have e:=qb o g m
 have l:=jG (d:=a.key) (x:=b.key) (by have:=(HT g).1;omega) i j
 have k:=fi (a:=a.key) (b:=b.key) (by have:=(HT g).1;omega) i j
 rw[l]at k
 have f:=Vr k
 rw[e,h]at f
 have c:CW a.key b.key=0:=c
 rw[c]at f
 cases f
theorem tO{s:Scm}{d:Nat}{f:Fld}(j:f.key=1∨f.key=2∨f.key=3∨f.key=4∨f.key=5∨f.key=7){l:List Pr}(c:∀p∈l,AU p.key)(h:OkP s d f l):l.Pairwise fun a b=>¬AW a b=0:=
 List.Pairwise.imp_of_mem (fun {a b} g i e=>sG j (c a g) (c b i) (h.ky a g) (h.ky b i) e) h.df
theorem bh{s:Scm}(g:GdS s){d:Nat}{n:ByteArray}{v:Val}(h:OkM s true d (Bk s n).1 v){x:Slt}(hx:x∈v.slots):AS (Bf s n) x.num∈Bf s n∧(AS (Bf s n) x.num).num=x.num∧GdF s (AS (Bf s n) x.num):=by
 have e:=(h.sl x hx).1
 rcases Mi (Bf s n) x.num with⟨c,_⟩|⟨b,a⟩
 ·rw[show(BX (Bf s n) x.num).2=true from e]at c;cases c
 ·exact⟨a,Sn b,g.fl n _ a⟩
theorem oq{α β σ ξ ρ:Type}{B:σ→Option (Lv σ ξ ρ)}{N:Nat}(l:List α)(S:List α→β)(mk:Int→β→σ)(e:β→ξ)
  (hs:∀(i:Nat) (x:α),l[i]?=some x→B (mk (i:Int) (S (l.drop (i+1)).reverse))=some (.nx (mk ((i:Int)-1) (S ((l.drop (i+1)).reverse++[x])))))
  (he:B (mk (-1) (S l.reverse))=some (.ex (e (S l.reverse)))) (hN:l.length<N):Ag B N (mk ((l.length:Int)-1) (S []))=some (.inl (e (S l.reverse))):=by
 suffices H:∀(k N:Nat),k≤l.length→k<N→Ag B N (mk ((k:Int)-1) (S (l.drop k).reverse))=some (.inl (e (S l.reverse)))by
  have:=H l.length N (Ye _) hN
  rw[NA]at this
  exact this
 intro k
 induction k with
 |zero=>
  intro N _ h
  obtain⟨N,rfl⟩:∃m,N=m+1:=⟨N-1,by omega⟩
  rw[Ag,Hl]
  rw[show((0:Nat):Int)-1= -1 from rfl,he]
 |succ k f=>
  intro N g j
  obtain⟨N,rfl⟩:∃m,N=m+1:=⟨N-1,by omega⟩
  have a:k<l.length:=by omega
  have b:=hs k l[k] (Ya a)
  have c:(((k+1:Nat):Int)-1)=(k:Int):=by omega
  rw[Ag,c,b]
  have d:(l.drop (k+1)).reverse++[l[k]]=(l.drop k).reverse:=by rw[GA a,UX]
  dsimp only
  rw[d]
  exact f N (by omega) (by omega)
def tn(x:Val):Val:=.mk x.kind x.bits x.text x.list x.pairs.reverse x.slots x.raws
def DN(x:Slt):Slt:=.mk x.num (tn x.val)
def tV(v:Val):Val:=.mk v.kind 0 ⟨#[]⟩ [] [] (v.slots.reverse.map DN) v.raws
theorem Zuh{v:Val}(f:AU v):Xn v=some (tV v):=by
 have l:=D5 f
 have r:=l.s
 have k:v.slots.length<4611686018427387904:=by omega
 have q:=oq (B:=MU v) (N:=Aj) (ξ:=List Slt) (ρ:=Val) v.slots (fun p=>p.map DN) (fun i b=>(i,b)) id (fun i x hx=>by
  have hi:=(Yf.1 hx).1
  have m:=D5 (Kb f (Yn hx))
  have s:=m.p
  have w2:x.val.pairs.length<4611686018427387904:=by omega
  have a0:(0:Int)≤(i:Int):=by omega
  have a1: -9223372036854775808≤(i:Int)-1∧(i:Int)-1<9223372036854775808:=by omega
  have c:(((v.slots.drop (i+1)).reverse).map DN).length<549755813887:=by rw[YE,Nk,EC];omega
  rw[DP]
  generalize ((v.slots.drop (i+1)).reverse).map DN=out at c⊢
  have a:=oq (B:=MJ v (i:Int) out x) (N:=Aj) (ξ:=List Pr) (ρ:=Val) x.val.pairs (fun p=>p) (fun i b=>(b,i)) id (fun j p e=>by
   have n:=(Yf.1 e).1
   have g:(0:Int)≤(j:Int):=by omega
   have h: -9223372036854775808≤(j:Int)-1∧(j:Int)-1<9223372036854775808:=by omega
   have d:((x.val.pairs.drop (j+1)).reverse).length<549755813887:=by rw[Nk,EC];omega
   generalize (x.val.pairs.drop (j+1)).reverse=o at d⊢
   dsimp only[MJ,br,Ct,vz,vw,wg,vs,ln,Af,ap,wi,fl,br]
   simp[g,h,d,e]) (by dsimp only[MJ,br,Ct,vz,vw,wg,vs,ln,Af,ap,wi,fl,br];simp) (A6 (by omega))
  have a:Ag (MJ v (i:Int) out x) Aj ([],(x.val.pairs.length:Int)-1)=some (.inl x.val.pairs.reverse):=a
  have a3: -9223372036854775808≤(x.val.pairs.length:Int)-1∧(x.val.pairs.length:Int)-1<9223372036854775808:=by omega
  have a4:x.val.pairs.reverse.length<549755813888:=by rw[Nk];omega
  dsimp only[MU,br,Ct,vz,vw,wg,vs,ln,Af,lc,ap,wi,fl,fz,Am,br]
  simp[a0,a1,c,a3,hx,w2,a,DN,tn]) (by dsimp only[MU,br,Ct,vz,vw,wg,vs,ln,Af,lc,ap,wi,fl,fz,Am,br];simp) (A6 (by omega))
 have q:Ag (MU v) Aj ((v.slots.length:Int)-1,[])=some (.inl (v.slots.reverse.map DN)):=q
 have a3: -9223372036854775808≤(v.slots.length:Int)-1∧(v.slots.length:Int)-1<9223372036854775808:=by omega
 dsimp only[Xn,vz,vw,wg,vs,lr,lc,wi,fl,fr,Am]
 simp[k,a3,q,tV]
theorem ab{α:Type}(e:α→List D):∀l:List α,AH (l.reverse.map e)=AH (l.map e)
 |[]=>rfl
 |x::l=>by
  rw[UX,DP,IL,ab e l,YR,YR,Gz]
  simp only[AH]
  omega
theorem uw(x:Val):An (Ah (tn x))=An (Ah x):=by
 unfold tn
 rw[My,JP x,ab]
theorem vF{v:Val}(h:AU v):AU (tV v):=by
 have b:An (Ah v)≤1048576:=h
 show An (Ah (tV v))≤1048576
 rw[JP]at b
 unfold tV
 rw[My]
 have a:AH ((v.slots.reverse.map DN).map Ao)=AH (v.slots.map Ao):=by
  rw[←ab Ao v.slots,Hj]
  generalize v.slots.reverse=l
  induction l with
  |nil=>rfl
  |cons x l c=>
   rw[YR,YR]
   simp only[AH]
   rw[c]
   have:An ((Ao∘DN) x)=An (Ao x):=by
    show An (Ao (DN x))=_
    rw[QL,QL]
    show _+An (Ah (tn x.val))=_
    rw[uw]
    rfl
   omega
 rw[a]
 have d:rk .u64 0=0:=by first|rfl|decide|kernel_rfl
 simp only[Gz,AH,ByteArray.size_empty]at*
 have e:(⟨#[]⟩:ByteArray).size=0:=rfl
 omega
theorem ud{x:Val}(h:x.pairs=[]):tn x=x:=by
 obtain⟨k,b,t,l,p,s,r⟩:=x
 have h:p=[]:=h
 subst h
 rfl
theorem sY(x:Val):BA (tn x)=BA x:=by
 obtain⟨k,b,t,l,p,s,r⟩:=x
 show BA (.mk k b t l p.reverse s r)=_
 unfold BA
 refine decide_eq_decide.2 ?_
 show((k≠11∧0<l.length)∨(k≠12∧0<p.reverse.length)∨_)↔_
 rw[Nk]
 exact Iff.rfl
theorem ZyS{l:List Pr}(h:l.Pairwise fun a b=>¬AW a b=0):CB l.reverse=CB l:=by
 have c:l.reverse.Pairwise fun a b=>¬AW a b=0:=U1.2 (h.imp fun h e=>h (oV e))
 refine Su (Mc _) (Mc _) fun x=>?_
 rw[(mQ c).mem_iff,(mQ h).mem_iff,NB]
theorem bP{v:Val}(h:BA v=false)(k:v.kind≠12):v.pairs.length=0:=by
 unfold BA at h
 rw[YV]at h
 exact Nat.eq_zero_of_not_pos fun c=>h (.inr (.inl ⟨k,c⟩))
theorem zj{s:Scm}{d:Nat}{t:Typ}{x:Val}(h:Cs (A0 s true d) s t x=0):x.pairs=[]:=by
 refine Vg.1 ?_
 by_cases c:t.kind=10
 ·obtain⟨d',rfl,ok⟩:=nY c h
  have a:=ok.kd
  exact(bP ok.ot) (by omega)
 ·unfold Cs at h
  rw[Yi c]at h
  split at h
  ·cases h
  ·have s0:Cr t.kind x=0:=by
    by_cases z:Cr t.kind x≠0∨t.kind≠9
    ·rw[Yk z]at h;exact h
    ·exact Decidable.byContradiction fun y=>z (.inl y)
   obtain⟨a,b,_⟩:=HT s0
   exact(bP b) (by omega)
theorem tL{s:Scm}{d:Nat}{f:Fld}{x:Val}(o:AU x)(q:GdF s f)(h:Ca (A0 s true d) s true f x=0):Ca (A0 s true d) s true f (tn x)=0∧BJ f (tn x)=BJ f x∧Cy (Ba s d) f (tn x)=Cy (Ba s d) f x:=by
 by_cases i:f.card=5
 ·have j:¬f.card=4:=by omega
  rw[Xf i,Xf i]
  unfold Ca at h⊢
  rw[Yi j,Yk i]at h⊢
  split at h
  ·cases h
  ·rename_i k
   rw[show(tn x).kind=x.kind from rfl,sY,Yi k]
   have P:=nR.1 h
   have m:=q.ky i
   refine⟨nR.2 ⟨fun p c=>P.ky p (NB.1 c),fun p c=>P.vl p (NB.1 c),U1.2 (P.df.imp fun {a b} e=>?_)⟩,?_,?_⟩
   ·unfold GW at e⊢
    rw[←e,decide_eq_decide.2 (show b.key.bits=a.key.bits↔a.key.bits=b.key.bits from⟨Eq.symm,Eq.symm⟩),decide_eq_decide.2 (show b.key.text=a.key.text↔a.key.text=b.key.text from⟨Eq.symm,Eq.symm⟩)]
   ·unfold BJ
    rw[Yi j,Yk i,Yi j,Yk i]
    exact decide_eq_decide.2 (by show x.pairs.reverse.length=0↔_;rw[Nk])
   ·have n:∀l:List Pr,(∀p∈l,p∈x.pairs)→(l.map fun p=>Pr.mk (D0 p.key) (BM (Ba s d) f.type p.val))=l.map fun p=>Pr.mk p.key (BM (Ba s d) f.type p.val):=fun l hl=>Y8 fun p c=>by rw[Zzd (v:=p.key) (by have:=(HT (P.ky p (hl p c))).1;omega)]
    show Val.mk 12 0 ⟨#[]⟩ [] (CB (x.pairs.reverse.map _)) [] []=_
    rw[n _ (fun p c=>NB.1 c),n _ (fun p c=>c),az (g:=fun p=>Pr.mk p.key (BM (Ba s d) f.type p.val)) fun _=>rfl,az (g:=fun p=>Pr.mk p.key (BM (Ba s d) f.type p.val)) fun _=>rfl,ZyS (tO m (fun p c=>(GN o c).1) P)]
 ·have e:x.pairs=[]:=by
   by_cases j:f.card=4
   ·unfold Ca at h
    rw[Yk j]at h
    split at h
    ·cases h
    ·rename_i k
     have t:x.kind=11:=Decidable.byContradiction fun e=>k (.inl e)
     have r:BA x=false:=by cases e:BA x with|true=>exact absurd (.inr e) k|false=>rfl
     exact Vg.1 (bP r (by omega))
   ·unfold Ca at h
    rw[Yi j,Yi i]at h
    exact zj h
  rw[ud e]
  exact⟨h,rfl,rfl⟩
theorem uI{s:Scm}(g:GdS s){d:Nat}{n:ByteArray}{v:Val}(p:AU v)(h:OkM s true d (Bk s n).1 v):OkM s true d (Bk s n).1 (tV v)∧Ba s (d+1) n (tV v)=Ba s (d+1) n v∧cnt (tV v)≤cnt v:=by
 have hm:∀z,z∈(tV v).slots↔∃x∈v.slots,DN x=z:=fun z=>by
  show z∈v.slots.reverse.map DN↔_
  rw[YT]
  simp only[NB]
 have l:=fun x hx=>tL (Kb p hx) (bh g h hx).2.2 (h.sl x hx).2
 have m:(tV v).slots.Pairwise fun a b=>a.num≠b.num∧Gx (Bk s n).1.fields a b:=by
  show(v.slots.reverse.map DN).Pairwise _
  rw[Nx]
  exact U1.2 (h.pw.imp fun {a b} h=>⟨h.1.symm,h.2.symm⟩)
 have pw:v.slots.Pairwise fun a b=>a.num≠b.num:=h.pw.imp fun h=>h.1
 have r:(tV v).slots.Pairwise fun a b=>a.num≠b.num:=m.imp fun h=>h.1
 refine⟨⟨h.kd,?_,m,fun z q=>?_,fun f i c=>?_,h.rw⟩,?_,?_⟩
 ·show BA (.mk v.kind 0 ⟨#[]⟩ [] [] (v.slots.reverse.map DN) v.raws)=false
  exact sW (.inr rfl) (.inr rfl) (.inl h.kd)
 ·obtain⟨x,hx,rfl⟩:=(hm z).1 q
  exact⟨(h.sl x hx).1,(l x hx).1⟩
 ·obtain⟨x,hx,e⟩:=YL.1 (h.rq f i c)
  exact YL.2 ⟨DN x,(hm _).2 ⟨x,hx,rfl⟩,e⟩
 ·show Val.mk 10 0 ⟨#[]⟩ [] [] (Dp (Cy (Ba s d)) (Bf s n) (tV v).slots) (I7 v.raws)=Val.mk 10 0 ⟨#[]⟩ [] [] (Dp (Cy (Ba s d)) (Bf s n) v.slots) (I7 v.raws)
  have e:Dp (Cy (Ba s d)) (Bf s n) (tV v).slots=Dp (Cy (Ba s d)) (Bf s n) v.slots:=by
   refine aw (SA (SR (g.asc n)) r) (SA (SR (g.asc n)) pw) fun z=>?_
   rw[SF,SF]
   constructor
   ·rintro⟨f,i,y,hy,e,j,rfl⟩
    obtain⟨x,hx,rfl⟩:=(hm y).1 hy
    have e:x.num=f.num:=e
    obtain⟨a1,o,_⟩:=bh g h hx
    have k:AS (Bf s n) x.num=f:=aA (g.asc n) a1 i (by omega)
    have t:=l x hx
    rw[k]at t
    have j:BJ f (tn x.val)=false:=j
    exact⟨f,i,x,hx,e,by rw[←t.2.1];exact j,by show Slt.mk f.num (Cy (Ba s d) f (tn x.val))=_;rw[t.2.2]⟩
   ·rintro⟨f,i,x,hx,e,j,rfl⟩
    obtain⟨a1,o,_⟩:=bh g h hx
    have k:AS (Bf s n) x.num=f:=aA (g.asc n) a1 i (by omega)
    have t:=l x hx
    rw[k]at t
    refine⟨f,i,DN x,(hm _).2 ⟨x,hx,rfl⟩,e,?_,?_⟩
    ·show BJ f (tn x.val)=false
     rw[t.2.1];exact j
    ·show _=Slt.mk f.num (Cy (Ba s d) f (tn x.val))
     rw[t.2.2]
  rw[e]
 ·unfold tV
  rw[o9,Te v]
  have e:Ce (v.slots.reverse.map DN)≤Ce v.slots:=by
   refine D8 (nd fun x hx=>?_) (Vj (zl (List.reverse_perm v.slots)))
   rw[Z2,Z2 x]
   show cnt (tn x.val)≤cnt x.val
   unfold tn
   rw[o9,Te x.val,zt (List.reverse_perm x.val.pairs)]
   exact Ye _
  simp only[Bm,CT]
  omega
theorem xS{s:Scm}{n:ByteArray}{v:Val}(hs:An (At s)≤1048576)(_:(0:Nat)≤1)(x:An (Ah v)≤1048576):Xg s n v=some true:=by
 obtain⟨k,o,w⟩:=o16 hs
 dsimp only[Xg,br,wg,lr,cl,AF,br]
 rw[o,w6]
 cases k with
 |false=>simp
 |true=>
 have g:=sX (w rfl) hs
 have a:AU v:=x
 have p:=oQ hs g n v a
 rw[p]
 by_cases c:Lj s true n v=0
 ·obtain⟨l,ok,A⟩:=pm.1 c
  obtain⟨f,b,y⟩:=uI g a ok
  have b:Ba s 16 n (tV v)=Ba s 16 n v:=b
  have e:=vF a
  have h:=Zuh a
  generalize tV v=t at h f b y e
  have m:Lj s true n t=0:=pm.2 ⟨l,f,by omega⟩
  have q:=oQ hs g n t e
  have r:=fg hs g n v a ok
  have i:=fg hs g n t e f
  rw[b]at i
  have j:AU (Ba s 16 n v):=D8 (pi g.asc 16 n v) a
  obtain⟨z,u,d⟩:=vM j j
  have d:=d.2 rfl
  subst d
  simp[c,h,q,m,r,i,u]
 ·simp[c]
end Go.Proofs.YtalafnjhcecdpaaGreatDoor
namespace Go.Proofs.YtalafnjhcecdpaaGreatDoor
set_option linter.all false
open Go Go.Eng Go.ChangeShapes Go.WideShapes Go.ChangeAt Go.RowKit
theorem own:ownKnob Tryz.prog.godebug=none:=by kernel_rfl
def tA:Obj→Obj
 |.cells _ t frozen=>.cells #[.int .u64 1,.int .u64 10,.int .u64 100,.int .u64 1000,.int .u64 10000,.int .u64 100000,.int .u64 1000000,.int .u64 10000000,.int .u64 100000000,.int .u64 1000000000,.int .u64 10000000000,.int .u64 100000000000,.int .u64 1000000000000,.int .u64 10000000000000,.int .u64 100000000000000,.int .u64 1000000000000000,.int .u64 10000000000000000,.int .u64 100000000000000000,.int .u64 1000000000000000000,.int .u64 10000000000000000000] t frozen
 |o=>o
def vU:Obj→Obj
 |.cells _ t frozen=>.cells #[.int .u8 0,.int .u8 1,.int .u8 28,.int .u8 2,.int .u8 29,.int .u8 14,.int .u8 24,.int .u8 3,.int .u8 30,.int .u8 22,.int .u8 20,.int .u8 15,.int .u8 25,.int .u8 17,.int .u8 4,.int .u8 8,.int .u8 31,.int .u8 27,.int .u8 13,.int .u8 23,.int .u8 21,.int .u8 19,.int .u8 16,.int .u8 7,.int .u8 26,.int .u8 12,.int .u8 18,.int .u8 6,.int .u8 11,.int .u8 5,.int .u8 10,.int .u8 9] t frozen
 |o=>o
def vn:Obj→Obj
 |.cells _ t frozen=>.cells #[.int .u8 0,.int .u8 1,.int .u8 56,.int .u8 2,.int .u8 57,.int .u8 49,.int .u8 28,.int .u8 3,.int .u8 61,.int .u8 58,.int .u8 42,.int .u8 50,.int .u8 38,.int .u8 29,.int .u8 17,.int .u8 4,.int .u8 62,.int .u8 47,.int .u8 59,.int .u8 36,.int .u8 45,.int .u8 43,.int .u8 51,.int .u8 22,.int .u8 53,.int .u8 39,.int .u8 33,.int .u8 30,.int .u8 24,.int .u8 18,.int .u8 12,.int .u8 5,.int .u8 63,.int .u8 55,.int .u8 48,.int .u8 27,.int .u8 60,.int .u8 41,.int .u8 37,.int .u8 16,.int .u8 46,.int .u8 35,.int .u8 44,.int .u8 21,.int .u8 52,.int .u8 32,.int .u8 23,.int .u8 11,.int .u8 54,.int .u8 26,.int .u8 40,.int .u8 15,.int .u8 34,.int .u8 20,.int .u8 31,.int .u8 10,.int .u8 25,.int .u8 14,.int .u8 19,.int .u8 9,.int .u8 13,.int .u8 8,.int .u8 7,.int .u8 6] t frozen
 |o=>o
noncomputable def ZT(os:Os):World:=
 {World.holding Tryz.prog os ⟨#[],#[],[]⟩with heap:=(((World.holding Tryz.prog os ⟨#[],#[],[]⟩).heap.modify 0 tA).modify 2 vU).modify 3 vn }
namespace ValueTurned
open Go.Proofs.YtalafnjhcecdpaaGreatDoor
set_option maxRecDepth 100000 in
theorem Zut(H:Type)(enc:TypeId×Value→H)(W:World)(base:Nat)(args:Array Value)(ds gs:List (DataW H))(before:List MemPlace)
  (hval:∀(j:Nat) t v,Tryz.f5.params[j]?=some t→args[j]?=some v→Value.okWide Tryz.prog W .any base t v)
  (hW:DataW.Whole enc Tryz.prog Tryz.f5.params.toList Rows.valueTurnedSpec.vars false W args.toList ds gs before) (hk:Rows.uptoSmall H (ds++gs)=true):
  Calls Tryz.prog 5 args W fun e W'=>∃v,e=.returned v∧Rows.valueTurnedSpec.post enc Tryz.prog Tryz.f5 false true false false W args v W':=by
 obtain⟨p,q,hA0,hV,rfl,hfz,hnd⟩:=id hW
 have hA:DataW.TrodAll enc Tryz.prog W 0 (fun _=>true) true Tryz.f5.params.toList args.toList ds p:=hA0
 rw[Tryz.params5]at hA hval
 obtain⟨v0,vs0,d0,ds0,p0,q0,hargs,rfl,rfl,h0,r0⟩:=trodAll_cons hA
 obtain⟨v1,vs1,d1,ds1,p1,q1,rfl,rfl,rfl,h1,r1⟩:=trodAll_cons r0
 obtain⟨v2,vs2,d2,ds2,p2,q2,rfl,rfl,rfl,h2,r2⟩:=trodAll_cons r1
 obtain⟨rfl,rfl,rfl⟩:=trodAll_nil r2
 obtain rfl:args=#[v0,v1,v2]:=by cases args;simp_all
 have hb:Rows.uptoBulkAll ([d0,d1,d2]++gs)≤1048576:=Y4 hk
 simp only[JC,GB,Rows.uptoBulkAll]at hb
 obtain⟨s,re0,fe0⟩:=od sk Tryz.underlying26 (hval 0 26 v0 rfl rfl) h0
 obtain⟨n,re1,fe1⟩:=rM Tryz.underlying9 (hval 1 9 v1 rfl rfl) h1
 obtain⟨v,re2,fe2⟩:=od bc Tryz.underlying33 (hval 2 33 v2 rfl rfl) h2
 obtain⟨rfl,rfl⟩:=trodVars_none hV
 have A:=(rm s n v).k 0 dO true (xS (by omega) (by omega) (by omega))
 refine(A.2 (fun _=>⟨0,0,0⟩) (· <W.heap.size) W #[v0,v1,v2] (ok0 _) (ZyH (xs:=[.agg ((At s).map .d),.d (.str n),.agg ((Ah v).map .d)]) (vs:=[v0,v1,v2]) ⟨re0 _ _,re1 _ _ _ _,re2 _ _,trivial⟩)).mono fun e W' ⟨r,v,H',m',S',he,hp,hO,hr,hx⟩=>?_
 obtain⟨hp,_⟩:=hp
 subst he
 subst hp
 cases hr
 rename_i hd
 cases hd
 exact⟨_,rfl,yU hW rfl (by kernel_rfl) (by rw[Tryz.params5];exact(by decide+kernel)) (by kernel_rfl) Tryz.underlying4 rfl ⟨hx.os,hx.tape,hx.output,hx.size,hx.blk⟩⟩
theorem Zux(os:Os):laidMet Tryz.prog Rows.valueTurnedUptoRow.laid ((ZT os).forCall (fun _ _=>0) ⟨#[],#[.agg #[.slice none 0 0,.slice none 0 0,.slice none 0 0],.string ⟨#[]⟩,.agg #[.int .i64 0,.int .u64 0,.string ⟨#[]⟩,.slice none 0 0,.slice none 0 0,.slice none 0 0,.slice none 0 0]],[]⟩).memory:=
 laidMet_of_run' 8 (by kernel_rfl) (by kernel_rfl)
theorem vD(os:Os){H:Type}(enc:TypeId×Value→H):∃a,DataW.whole enc Tryz.prog ((ZT os).forCall (fun _ _=>0) ⟨#[],#[.agg #[.slice none 0 0,.slice none 0 0,.slice none 0 0],.string ⟨#[]⟩,.agg #[.int .i64 0,.int .u64 0,.string ⟨#[]⟩,.slice none 0 0,.slice none 0 0,.slice none 0 0,.slice none 0 0]],[]⟩).memory Tryz.f5.params.toList Rows.valueTurnedSpec.vars false (#[.agg #[.slice none 0 0,.slice none 0 0,.slice none 0 0],.string ⟨#[]⟩,.agg #[.int .i64 0,.int .u64 0,.string ⟨#[]⟩,.slice none 0 0,.slice none 0 0,.slice none 0 0,.slice none 0 0]]:Array Value).toList 8=some ([.agg [.nil,.nil,.nil],.lit (.string []),.agg [.lit (.int .i64 0),.lit (.int .u64 0),.lit (.string []),.nil,.nil,.nil,.nil]],[],a):=
 ⟨[],by kernel_rfl⟩
set_option maxRecDepth 100000 in
theorem zf(os:Os)(started:os.Started)(H:Type)(enc:TypeId×Value→H)(F:Stop.Interp):
  ReturnsInHanded {} Tryz.checked os 5 .any ((Rows.OpenSpec.upto Rows.valueTurnedSpec).preRow enc Tryz.prog Tryz.f5 Rows.valueTurnedUptoRow.domain false Rows.valueTurnedUptoRow.laid) (((Rows.OpenSpec.upto Rows.valueTurnedSpec).at F).post enc Tryz.prog Tryz.f5 false true false false):=by
 obtain⟨places,hx⟩:=vD os enc
 refine returnsInHanded_of_row (C:=Tryz.checked) (s:=Rows.OpenSpec.upto Rows.valueTurnedSpec) own started (by kernel_rfl) Tryz.func5
  (witness_row_at (enc:=enc) (C:=Tryz.checked) false (ZT os) #[.agg #[.slice none 0 0,.slice none 0 0,.slice none 0 0],.string ⟨#[]⟩,.agg #[.int .i64 0,.int .u64 0,.string ⟨#[]⟩,.slice none 0 0,.slice none 0 0,.slice none 0 0,.slice none 0 0]] rfl (by kernel_rfl) (by kernel_rfl) (by kernel_rfl)
   (OpenSpec.preRow_of_cond 8 hx (by kernel_rfl) (fun k hk=>by cases hk;kernel_rfl) (by kernel_rfl) (Zux os))) ?_
 intro W base args ds gs before hval hW _ hcond _ hL _ _
 exact Zut H enc W base args ds gs before hval hW (hcond _ rfl)
end ValueTurned
end Go.Proofs.YtalafnjhcecdpaaGreatDoor
namespace Go.Proofs.YtalafnjhcecdpaaGreatDoor
set_option linter.all false
open Go Go.ChangeShapes Go.WideShapes Go.ChangeAt Go.RowKit
namespace ValueTurned
open Go.Proofs.YtalafnjhcecdpaaGreatDoor
theorem BN{a b:Bool}(c:a=true)(d:b=true):(a&&b)=true:=by rw[c,d];rfl
set_option maxRecDepth 100000 in
set_option maxHeartbeats 4000000 in
theorem Zzk:joinedFacts Tryz.pinned.checked.prog 5 Tryz.f5 (Rows.OpenSpec.upto Rows.valueTurnedSpec).bare Rows.valueTurnedUptoRow=true:=by
 unfold joinedFacts
 refine BN (BN (BN (BN (BN (BN (BN (BN (BN (BN (BN (BN (BN (BN (BN (BN (BN (BN (BN (BN (BN (BN (BN (BN (BN (BN (BN (BN (BN (BN (BN ?_ ?_) ?_) ?_) ?_) ?_) ?_) ?_) ?_) ?_) ?_) ?_) ?_) ?_) ?_) ?_) ?_) ?_) ?_) ?_) ?_) ?_) ?_) ?_) ?_) ?_) ?_) ?_) ?_) ?_) ?_) ?_
 all_goals(as_aux_lemma=>kernel_rfl)
end ValueTurned
end Go.Proofs.YtalafnjhcecdpaaGreatDoor
