import Derived.Test.YtalafnjhcecdpaaGreatDoorZb22
import Derived.Test.YtalafnjhcecdpaaGreatDoorZb25
import Derived.Test.YtalafnjhcecdpaaGreatDoorZb23
import Derived.Test.YtalafnjhcecdpaaGreatDoorZb00
namespace Go.Proofs.YtalafnjhcecdpaaGreatDoor
set_option linter.all false
open Go Go.Eng
structure GdT (s:Scm) (t:Typ):Prop where
 en:t.kind=9→(Df s t.name).2=true
 ms:t.kind=10→(Bl s t.name).2=true
 ty:1≤t.kind∧t.kind≤10
theorem GdF.t{s:Scm}{f:Fld}(h:GdF s f):GdT s f.type:=⟨h.en,h.ms,h.ty⟩
def Sc(R:Ng)(s:Scm)(d:Nat):Prop:=∀d':Nat,d=d'+1→∀(f:Fld) (x:Val),GdF s f→AR x→R s f x (16-(d':Int))=some (B9 (A3 s true d') s true f x)
theorem vm{s:Scm}(hs:An (Au s)≤1048576)(m:Msg)(x:Raw)(hm:m.fields.length≤1048576)(hx:x.data.size≤1048576):ao s m x=some (La s m.fields x):=by
 have h:=Hn hs
 have o:x.data.size<4611686018427387904:=by omega
 have k:=qQ s (AL m.fields x.num).type.name h.el
 have l:=nw (Df s (AL m.fields x.num).type.name).1 x.bits (py h _)
 have p:(BW m.fields x.num).1=AL m.fields x.num:=rfl
 have n:Z9 s (AL m.fields x.num) x=some (UP s (AL m.fields x.num) x):=by
  unfold UP
  dsimp only[Z9,wg,lr,cl,AD]
  rw[k,Yd,l]
  generalize Df s (AL m.fields x.num).type.name=g
  generalize AL m.fields x.num=f
  simp only[Fm,Fj,Yy,YT]
  congr 1
  cases g.2<;>cases g.1.opn<;>cases decide (f.type.kind=9)<;>cases decide (f.card=5)<;>cases decide (x.wire=0)<;>cases decide (x.bits<2147483648)<;>cases Lh g.1 x.bits<;>rfl
 dsimp only[ao,br,vy,wg,lr,cl,AD,A5,br]
 rw[ey _ _ hm,Yd,p,n]
 unfold La
 generalize UP s (AL m.fields x.num) x=kp
 have j:(if((decide (x.wire=3)&&decide ((4096:Int)<x.data.size))||decide ((65536:Int)<x.data.size))=true then some (3:Int)else some 0)=some (if(x.wire=3∧4096<x.data.size)∨65536<x.data.size then 3 else 0):=by
  by_cases c:(x.wire=3∧4096<x.data.size)∨65536<x.data.size
  ·rw[Yj c,Yj]
   simp only[YG,Yc,YB]
   omega
  ·rw[Yh c,Yh]
   simp only[YG,Yc,YB]
   omega
 simp only[o,Fj,Yy,Fm,YT]
 by_cases a:x.num<1∨65535<x.num∨x.wire<0∨6<x.wire
 ·have a1:(((decide (x.num<1)||decide (65535<x.num))||decide (x.wire<0))||decide (6<x.wire))=true:=by
   simp only[YG,YB]
   omega
  rw[Yj a1,Yj (by omega)]
 ·have a1:¬(((decide (x.num<1)||decide (65535<x.num))||decide (x.wire<0))||decide (6<x.wire))=true:=by
   simp only[YG,YB]
   omega
  rw[Yh a1]
  by_cases b:(x.wire≤2∧x.data≠⟨#[]⟩)∨(2<x.wire∧x.bits≠0)
  ·have d:((decide (x.wire≤2)&&!decide (x.data=⟨#[]⟩))||((!decide (x.wire≤2))&&!decide (x.bits=0)))=true:=by
    by_cases i:x.data=⟨#[]⟩<;>simp only[i,Yt,YK,Y7,Y4,Hu,LK,Hv,YG,Yc,YU,YB,YS,ne_eq,Ly,Lz,HA,JS,false_or]at b⊢<;>omega
   have e:x.num<1∨65535<x.num∨x.wire<0∨6<x.wire∨(x.wire≤2∧x.data≠⟨#[]⟩)∨(2<x.wire∧x.bits≠0):=.inr (.inr (.inr (.inr b)))
   rw[Yj e,d]
   rfl
  ·have d:((decide (x.wire≤2)&&!decide (x.data=⟨#[]⟩))||((!decide (x.wire≤2))&&!decide (x.bits=0)))=false:=by
    by_cases i:x.data=⟨#[]⟩<;>simp only[i,Yt,YK,Y7,Y4,Hu,LK,Hv,LH,LG,VP,YB,YS,ne_eq,Ly,Lz,HA,JS,false_or]at b⊢<;>omega
   have e:¬(x.num<1∨65535<x.num∨x.wire<0∨6<x.wire∨(x.wire≤2∧x.data≠⟨#[]⟩)∨(2<x.wire∧x.bits≠0)):=fun h=>by
    rcases h with h|h|h|h|h
    ·exact a (.inl h)
    ·exact a (.inr (.inl h))
    ·exact a (.inr (.inr (.inl h)))
    ·exact a (.inr (.inr (.inr h)))
    ·exact b h
   rw[Yh e,d,j]
   cases(BW m.fields x.num).2<;>cases kp<;>simp
theorem rT(R:Ng){s:Scm}(hs:An (Au s)≤1048576)(g:GdS s)(n:ByteArray)(v:Val)(d:Nat)(K:d≤16)(p:AR v)(A:Sc R s d):Sr R s (Bl s n).1 v (17-(d:Int))=some (A3 s true d (Bl s n).1 v):=by
 have h:=Hn hs
 have hm:(Bl s n).1.fields.length≤1048576:=bK h n
 have w:C4 (Bl s n).1.fields (Bl s n).1.fields.length:=g.asc n
 have b:∀f∈(Bl s n).1.fields,GdF s f:=g.fl n
 generalize (Bl s n).1=m at hm w b
 have D:=CE p
 obtain⟨s1,s2,L,y,M⟩:=CE p
 have H:m.fields.length<4611686018427387904:=by omega
 have I:v.slots.length<4611686018427387904:=by omega
 have J:v.raws.length<4611686018427387904:=by omega
 dsimp only[Sr,br,vz,wg,lr,lc,AD,Aj,br]
 rw[cF D]
 by_cases c:v.kind≠10∨BM v=true
 ·have z:A3 s true d m v=12:=by cases d<;>(unfold A3;rw[Yj c])
  rw[z]
  by_cases a:v.kind=10
  ·have o:BM v=true:=c.resolve_left fun e=>e a
   simp[a,o]
  ·simp[a]
 ·have a:v.kind=10:=Decidable.not_not.1 fun e=>c (.inl e)
  have o:BM v=false:=by
   cases h:BM v with
   |false=>rfl
   |true=>exact absurd (.inr h) c
  cases d with
  |zero=>
   unfold A3
   rw[Yh c]
   simp[a,o]
  |succ d=>
   have t:¬(16:Int)<17-((d+1:Nat):Int):=by omega
   have E:=O7 (B:=PX s m v (17-((d+1:Nat):Int)) R) (N:=Ag) v.slots (FV (B9 (A3 s true d) s true) m.fields v.slots) id () (fun i x hx _=>by
    have e:=tn R (B9 (A3 s true d) s true) s m v.slots i x (17-((d+1:Nat):Int)) w hm y hx fun f r=>by
     have:=A d rfl f x.val (b f r) (Gp p (Yk hx))
     rw[show 17-((d+1:Nat):Int)=16-(d:Int)by omega]
     exact this
    have j:=BG hx
    have k:i+1<9223372036854775808:=by have:=(Ye.1 hx).1;omega
    dsimp only[PX,br,wg,vs,v2,Ar,ln,Af,cs,wa,br]
    simp only[j,k,e,Yt,Yy,Yd]
    by_cases hy:FV (B9 (A3 s true d) s true) m.fields v.slots i x=0<;>simp[hy]) (by dsimp only[PX,br,wg,vs,v2,Ar,ln,Af,cs,wa,br];simp) (AZ (by omega))
   have F:=O7 (B:=Qf s m v R) (N:=Ag) m.fields (fun _ f=>Ic v.slots f) id () (fun i f b _=>by
    have j:=BG b
    have k:i+1<9223372036854775808:=by have:=(Ye.1 b).1;omega
    have e:=vh v.slots f y
    unfold Ic
    dsimp only[Qf,br,ix,wg,vs,Ar,ln,Af,Cy,wa,br]
    simp only[j,k,b,e,Yt,Yy,Yd,Fj,Fm,YT]
    by_cases C:f.card=1<;>cases DE v.slots f.num<;>simp[C]) (by dsimp only[Qf,br,ix,wg,vs,Ar,ln,Af,Cy,wa,br];simp) (AZ (by omega))
   have G:=O7 (B:=Qj s m v R) (N:=Ag) v.raws (fun _ x=>La s m.fields x) id () (fun i x hx _=>by
    have j:=BG hx
    have k:i+1<9223372036854775808:=by have:=(Ye.1 hx).1;omega
    have e:=vm hs m x hm (xM p (Yk hx))
    dsimp only[Qj,br,ix,wg,vs,Ar,ln,Af,cl,wa,br]
    simp only[j,k,hx,e,Yt,Yy,Yd]
    by_cases hy:La s m.fields x=0<;>simp[hy]) (by dsimp only[Qj,br,ix,wg,vs,Ar,ln,Af,cl,wa,br];simp) (AZ (by omega))
   unfold A3
   rw[Yh c]
   simp only[a,o,t,H,I,J,E,F,G,Yt,YK,Y7,Y4,Q5,Yn,NU,Fm,YT,Yy,YI,Yd]
   by_cases l:B4 (FV (B9 (A3 s true d) s true) m.fields v.slots) v.slots 0=0
   ·by_cases q:B4 (fun _ f=>Ic v.slots f) m.fields 0=0
    ·by_cases u:B4 (fun _ x=>La s m.fields x) v.raws 0=0
     ·simp[l,q,u]
     ·simp[l,q,u]
    ·simp[l,q]
   ·simp[l]
theorem q8(R:Ng){s:Scm}(hs:An (Au s)≤1048576)(g:GdS s)(t:Typ)(a:GdT s t)(v:Val)(d:Nat)(j:d≤16)(b:AR v)(i:Sc R s d):Mq R s t v (16-(d:Int))=some (Cq (A3 s true d) s t v):=by
 have h:=Hn hs
 have e:Mw s t.name=some (Bl s t.name):=ez s _ h.ml
 have hm:=rT R hs g t.name v d j b i
 have w: -9223372036854775808≤17-(d:Int)∧17-(d:Int)<9223372036854775808:=by omega
 have wl:16-(d:Int)+1=17-(d:Int):=by omega
 dsimp only[Mq,br,wg,vs,lr,cl,cs,wi,br]
 by_cases c:t.kind=10
 ·have f:=a.ms c
  unfold Cq
  rw[Yj c,Yj f,e]
  simp only[c,Yt,Yy,Yd,w,DO,wl,hm]
 ·rw[qI s t h (CE b),uy (R:=A3 s true d) a.ty.1 (by have:=a.ty.2;omega) a.en]
  simp only[c,YK,Yn,YI,Yd]
theorem vQ(R:Ng){s:Scm}(hs:An (Au s)≤1048576)(g:GdS s)(f:Fld)(C:GdF s f)(H:f.card=5)(l:List Pr)(hl:l.length≤1048576)(A:∀p∈l,AR p.key∧AR p.val)(d:Nat)(J:d≤16)(I:Sc R s d):SJ R s f l (16-(d:Int))=some (B4 (Ia (Cq (A3 s true d) s f.type) f.key true l) l 0):=by
 have h:=Hn hs
 have y:=fun(x:Val) (hx:AR x)=>q8 R hs g f.type C.t x d J hx I
 have K:=C.ky H
 have w2:l.length<4611686018427387904:=by omega
 generalize 16-(d:Int)=M at y
 have O:=O7 (B:=MZ s f l M R) (N:=Ag) l (Ia (Cq (A3 s true d) s f.type) f.key true l) id () (fun i p a G=>by
  have v:=BG a
  have hi:=(Ye.1 a).1
  have w:i+1<9223372036854775808:=by omega
  have F:i≤l.length:=by omega
  have Ec:=A p (Yk a)
  have t:=qI s (.mk f.key ⟨#[]⟩) h (CE Ec.1)
  have u:L9 s (.mk f.key ⟨#[]⟩) p.key=Cf f.key p.key:=by
   unfold L9
   rw[Yj (.inr (show f.key≠9 by omega))]
  rw[u]at t
  have D:=y p.val Ec.2
  have L:∀q∈l.take i,Cf f.key q.key=0:=fun q m=>by
   obtain⟨j,k⟩:=YH.1 m
   rw[Y9]at k
   split at k
   ·have:=G j q (by assumption) k
    unfold Ia at this
    by_cases c:Cf f.key q.key=0
    ·exact c
    ·rw[Yj c]at this
     exact absurd this c
   ·cases k
  unfold Ia
  by_cases n:Cf f.key p.key=0
  ·have E:OQ (l.take i) (fun z=>OO z p)=some ((l.take i).any fun q=>Gy q.key p.key):=Zvv _ _ _ (fun q m=>by
    have b:=L q m
    have kd:=(E1 b).1
    have e:=lY (d:=q.key) (x:=p.key) (by rw[kd];omega) (A q (VW m)).1 Ec.1
    rw[rY K b n]at e
    dsimp only[OO,wg,lr,cl]
    rw[e]
    rfl) (by rw[YP];omega)
   dsimp only[MZ,br,ix,wg,vs,Ar,ln,Af,cl,cs,wa,sL,br]
   simp only[v,w,F,a,t,D,E,n,Bd.c,Bd.vl,Q6,IH,Yt,Yy,Yd,DO,Cj]
   by_cases o:((l.take i).any fun q=>Gy q.key p.key)=true
   ·simp[o]
   ·by_cases r:Cq (A3 s true d) s f.type p.val=0
    ·simp only[o,r]
     simp
    ·simp only[o,r]
     simp[r]
  ·dsimp only[MZ,br,ix,wg,vs,Ar,ln,Af,cl,cs,wa,sL,br]
   simp only[v,w,a,t,Yt,Yy,Yd]
   simp[n]) (by dsimp only[MZ,br,ix,wg,vs,Ar,ln,Af,cl,cs,wa,sL,br];simp) (AZ (by omega))
 dsimp only[SJ,vz,lr,lc,Aj]
 rw[O]
 by_cases c6:B4 (Ia (Cq (A3 s true d) s f.type) f.key true l) l 0=0
 ·simp[c6,w2]
 ·simp[c6,w2]
theorem wc(R:Ng){s:Scm}(hs:An (Au s)≤1048576)(g:GdS s)(f:Fld)(n:GdF s f)(v:Val)(d:Nat)(m:d≤16)(j:AR v)(l:Sc R s d):UV R s f v (16-(d:Int))=some (B9 (A3 s true d) s true f v):=by
 have h:=Hn hs
 have w:=CE j
 obtain⟨s1,s2,A,C,D⟩:=CE j
 have o:v.list.length<4611686018427387904:=by omega
 have k:=fun(x:Val) (hx:AR x)=>q8 R hs g f.type n.t x d m hx l
 have hN:=fun t=>vQ R hs g f n t v.pairs A (fun p u=>DR j u) d m l
 generalize 16-(d:Int)=y at k hN
 have z:=O7 (B:=PF s f v y R) (N:=Ag) v.list (fun _ x=>Cq (A3 s true d) s f.type x) id () (fun i x hx _=>by
  have q:=BG hx
  have r:i+1<9223372036854775808:=by have:=(Ye.1 hx).1;omega
  have e:=k x (I9 j (Yk hx))
  dsimp only[PF,br,ix,wg,vs,v2,Ar,ln,Af,cs,wa,br]
  simp only[q,r,hx,e,Yt,Yy,Yd]
  by_cases hy:Cq (A3 s true d) s f.type x=0<;>simp[hy]) (by dsimp only[PF,br,ix,wg,vs,v2,Ar,ln,Af,cs,wa,br];simp) (AZ (by omega))
 have e0:=k v j
 unfold B9
 dsimp only[UV,br,vz,wg,lr,lc,AD,cs,Aj,br]
 rw[cF w,z,e0]
 by_cases b:f.card=4
 ·by_cases a:v.kind=11
  ·cases BM v with
   |true=>simp[b,a]
   |false=>
    by_cases c6:B4 (fun _ x=>Cq (A3 s true d) s f.type x) v.list 0=0
    ·simp[b,a,c6,o]
    ·simp[b,a,c6,o]
  ·simp[b,a]
 ·by_cases c:f.card=5
  ·have hN:=hN c
   by_cases a:v.kind=12
   ·cases BM v with
    |true=>simp[c,a]
    |false=>simp[c,a,hN]
   ·simp[c,a]
  ·simp[b,c]
theorem pF{s:Scm}(hs:An (Au s)≤1048576)(g:GdS s):∀(a d:Nat),d<a→d≤16→∀(f:Fld) (v:Val),GdF s f→AR v→Kh a s f v (16-(d:Int))=some (B9 (A3 s true d) s true f v)
 |0,d,b,_,_,_,_,_=>absurd b (Y3 _)
 |a+1,d,b,c,f,v,h,j=>wc (Kh a) hs g f h v d c j fun d' e k x i hx=>pF hs g a d' (by omega) (by omega) k x i hx
theorem dI{s:Scm}(hs:An (Au s)≤1048576)(g:GdS s)(n:ByteArray)(v:Val)(b:AR v):ZU s n v=some (Jf s true n v):=by
 have h:=Hn hs
 have j:Mw s n=some (Bl s n):=ez s _ h.ml
 have i:=rT (Kh Ag) hs g n v 16 (Yf _) b fun d' e f x l hx=>pF hs g Ag d' (by have:=xm;omega) (by omega) f x l hx
 rw[show(17:Int)-((16:Nat):Int)=1 by decide]at i
 have k:=T3 Ag v (by have m:An (Ai v)≤1048576:=b;exact AZ (by omega)) b
 unfold Jf
 dsimp only[ZU,br,wg,lr,cl,br]
 rw[j,Yd,i,k]
 cases(Bl s n).2 with
 |false=>simp
 |true=>
  by_cases c:A3 s true 16 (Bl s n).1 v=0
  ·by_cases d:4096<cnt v
   ·have a:(4096:Int)<cnt v:=by omega
    simp[c,d,a]
   ·have a:¬(4096:Int)<cnt v:=by omega
    simp[c,d,a]
  ·simp[c]
end Go.Proofs.YtalafnjhcecdpaaGreatDoor
namespace Go.Proofs.YtalafnjhcecdpaaGreatDoor
set_option linter.all false
open Go Go.Eng
theorem qo{v:Val}(h:AR v):SB v=some (BH v):=by
 obtain⟨n,d,f,g⟩:=bX h
 obtain⟨y,e,a⟩:=ld f
 rw[←d]at e
 unfold BH
 dsimp only[SB,br,wg,lr,AD,br]
 rw[e,g]
 by_cases c:v.kind=6
 ·cases b:FP n with
  |true=>
   rw[b,YB]at a
   simp[c,a]
  |false=>
   rw[b,YS]at a
   simp[c,a]
 ·simp[c]
theorem vi{v:Val}(h:SzV v):ZO v=some (Ld v):=by
 have a:My v.kind=some (decide (1≤v.kind)&&decide (v.kind≤9)):=rfl
 dsimp only[ZO,wg,lr,cl,AD]
 rw[a,qx h,Yd]
 unfold Ld
 rw[Bool.decide_and]
 cases(decide (1≤v.kind)&&decide (v.kind≤9))<;>cases GC v<;>cases decide (v.bits=0)<;>cases decide (v.text=⟨#[]⟩)<;>cases D7 v.kind<;>rfl
theorem ZuP(l:List Slt)(h:l.length<549755813888):SS l=some l:=by
 cases l with
 |nil=>rfl
 |cons x r=>
  dsimp only[SS,al,br,vw,lr,a0,mv,br]
  simp only[Eg]at h
  simp
  omega
theorem ZuG(l:List Raw)(h:l.length<549755813888):SM l=some l:=by
 cases l with
 |nil=>rfl
 |cons x r=>
  dsimp only[SM,al,br,vw,lr,a0,mv,br]
  simp only[Eg]at h
  simp
  omega
theorem bN{N:Fld→Val→Val}{F:List Fld}(h:C4 F F.length){l:List Slt}(i:l.Pairwise fun a b=>a.num≠b.num)(n:∀x∈l,(BW F x.num).2=true):((B1 EC l).filter fun x=>!Bj (AL F x.num) x.val).map (fun x=>Slt.mk x.num (N (AL F x.num) x.val))=Cm N F l:=by
 have j:∀x∈l,AL F x.num∈F∧(AL F x.num).num=x.num:=fun x hx=>by
  rcases IZ F x.num with⟨c,_⟩|⟨k,m⟩
  ·rw[n x hx]at c;cases c
  ·exact⟨m,Ku k⟩
 refine cj (Q1.2 ((nu i).sublist List.filter_sublist)) (Pi (Px h) i) fun z=>?_
 rw[MM]
 simp only[YR,DY,(Dv l).mem_iff,YU]
 constructor
 ·rintro⟨x,⟨hx,d⟩,rfl⟩
  obtain⟨c,e⟩:=j x hx
  exact⟨AL F x.num,c,x,hx,e.symm,d,by rw[e]⟩
 ·rintro⟨f,hm,x,hx,e,d,rfl⟩
  obtain⟨c,o⟩:=j x hx
  have g:AL F x.num=f:=ce h c hm (by omega)
  exact⟨x,⟨hx,by rw[g];exact d⟩,by rw[g,e]⟩
theorem ZuJ{l:List Slt}(A:l.Pairwise fun a b=>a.num≠b.num)(hl:l.length≤4194304):ZW l=some (B1 EC l):=by
 have s:=ZuP l (by omega)
 have q:=nu A
 have el:(B1 EC l).length=l.length:=(Dv l).length_eq
 have m:Ft l (fun z0 k=>Mo z0 k)=some (B1 EC l):=by
  have h:=eo (pf:=fun z0 k=>Mo z0 k) (cmp:=EC) cZ l (fun x _ y _=>by
   dsimp only[Mo,wg,lr,cl]
   rw[L8]
   rfl) hl
  rw[Z5 (show CmpLaw EC from KD Slt.num) l]at h
  exact h
 generalize B1 EC l=r at q el m⊢
 have C:r.length≤4194304:=by omega
 have e:=GU (B:=M1 r) (N:=Ag) (ρ:=List Slt) r (fun p=>p) (fun i b=>(b,i)) id (fun i p d=>by
  have n:=BG d
  have hi:=(Ye.1 d).1
  have j:i+1<9223372036854775808:=by omega
  have o:((i+1:Nat):Int)=r.length↔i+1=r.length:=by omega
  have f:(r.take i).length<549755813887:=by rw[YP];omega
  generalize r.take i=out at f⊢
  dsimp only[M1,br,vz,vw,wg,vs,vg,ln,Af,ap,wa,ir,ca,fl,A5,br]
  by_cases c:i+1=r.length
  ·simp only[n,j,o,c,d,f,hi,Yt,Y7,IJ,Yn,Yd,LM,Yy,YI,DM]
   have z:r.length<9223372036854775808:=by omega
   simp[z]
  ·have g:i+1<r.length:=by omega
   have t:r.getD (i+1) Rw.z=r[i+1]:=by rw[Ym,Ya g];rfl
   have u:r[i]=p:=(Ye.1 d).2
   have v:=Y6.1 q i (i+1) hi g (by omega)
   rw[u]at v
   have w:¬p.num=(r.getD (i+1) Rw.z).num:=by rw[t];omega
   simp only[n,j,o,c,g,d,w,hi,Yt,YK,Y4,Hv,NT,Yd,Fm,YT,forall_const,Yy,DN]
   simp[j,f]) (by dsimp only[M1,br,vz,vw,wg,vs,vg,ln,Af,ap,wa,ir,ca,fl,A5,br];simp) (AZ (by omega))
 have e:Ah (M1 r) Ag ([],0)=some (.inl r):=e
 dsimp only[ZW,vz,vw,lr,lc,rn,fl,fr,A5]
 rw[s,Yd,m,Yd]
 first|rw[Yj rfl,e];rfl|(rw[Yj el,e];rfl)|simp[e,el]
theorem Tz{g:Pr→Pr}(d:∀x,(g x).key=x.key)(l:List Pr):Ca (l.map g)=(Ca l).map g:=by
 have c:∀x y,A0 (g x) (g y)=A0 x y:=fun x y=>by unfold A0;rw[d,d]
 refine Tb (MF _) ?_ fun z=>?_
 ·exact Q1.2 ((MF l).imp fun {x y} h=>by show A0 (g x) (g y)<0;rw[c];exact h)
 ·rw[IX,YR]
  constructor
  ·rintro⟨j,a,h⟩
   rw[YM,Hx]at a
   obtain⟨x,hx,rfl⟩:=a
   refine⟨x,IX.2 ⟨j,hx,fun k y b e=>h k (g y) ?_ ?_⟩,rfl⟩
   ·rw[YM,b];rfl
   ·rw[c];exact e
  ·rintro⟨x,hx,rfl⟩
   obtain⟨j,a,h⟩:=IX.1 hx
   refine⟨j,by rw[YM,a];rfl,fun k y b e=>?_⟩
   rw[YM,Hx]at b
   obtain⟨w,f,rfl⟩:=b
   rw[c]at e
   exact h k w f e
theorem pm(l:List Pr):(Ca l).length=0↔l.length=0:=by
 have a:=a8 l l.length
 have a:(Ca l).length≤l.length:=a
 refine⟨fun h=>?_,fun h=>by omega⟩
 by_cases c:l.length=0
 ·exact c
 ·have hi:l.length-1<l.length:=by omega
  have hm:l[l.length-1]∈Ca l:=IX.2 ⟨l.length-1,Ya hi,fun k y b _=>by have:=(Ye.1 b).1;omega⟩
  have:=List.length_pos_of_mem hm
  omega
theorem cN{l:List Pr}{p:Pr}(h:p∈Ca l):p∈l:=by
 obtain⟨j,a,_⟩:=IX.1 h
 exact Yk a
def QF(k:Bool)(s:Scm)(R:Scm→Fld→Val→Option (Val×Bool))(d:Nat):Prop:=∀(f:Fld) (v:Val),GdF s f→AR v→B9 (A3 s k d) s k f v=0→R s f v=some (Bo (Av s d) f v,!Bj f v)
theorem pq{s:Scm}{k:Bool}(hs:An (Au s)≤1048576)(g:GdS s)(R:Scm→Fld→Val→Option (Val×Bool))(d:Nat)(I:QF k s R d)(n:ByteArray)(v:Val)(z:AR v)(h:OkM s k d (Bl s n).1 v):OX R s n v=some (Av s (d+1) n v):=by
 have A:=CE z
 have O:=A.s
 have M:=A.r
 have C:Mw s n=some (Bl s n):=ez s _ (Hn hs).ml
 have pw:v.slots.Pairwise fun a b=>a.num≠b.num:=h.pw.imp fun h=>h.1
 have D:=ZuG v.raws (by omega)
 have u:=ZuJ pw (by omega)
 have E:Ft v.raws (fun z0 q=>Mx z0 q)=some (Dy v.raws):=by
  have h:=eo (pf:=fun z0 q=>Mx z0 q) (cmp:=Ds) cZ v.raws (fun x _ y _=>by
   dsimp only[Mx,wg,lr,cl]
   rw[L8]
   rfl) (by omega)
  rw[Z5 (show CmpLaw Ds from KD Raw.num) v.raws,←Kt]at h
  exact h
 have el:(B1 EC v.slots).length=v.slots.length:=(Dv v.slots).length_eq
 have hm:∀x∈B1 EC v.slots,x∈v.slots:=fun x hx=>(Dv v.slots).mem_iff.1 hx
 have f:=bN (N:=Bo (Av s d)) (g.asc n) pw fun x hx=>(h.sl x hx).1
 generalize B1 EC v.slots=r at u el hm f
 have w2:r.length<4611686018427387904:=by omega
 have o:(Bl s n).1.fields.length≤1048576:=bK (Hn hs) n
 have j:=GU (B:=Nf s R (Bl s n) v.raws r) (N:=Ag) (ρ:=Val) r (fun p=>(p.filter fun x=>!Bj (AL (AW s n) x.num) x.val).map (fun x=>Slt.mk x.num (Bo (Av s d) (AL (AW s n) x.num) x.val))) (fun i b=>(i,b)) id (fun i x hx=>by
  have G:=BG hx
  have hi:=(Ye.1 hx).1
  have m:i+1<9223372036854775808:=by omega
  have e:=hm x (Yk hx)
  have t:(((r.take i).filter fun x=>!Bj (AL (AW s n) x.num) x.val).map (fun x=>Slt.mk x.num (Bo (Av s d) (AL (AW s n) x.num) x.val))).length<549755813887:=by
   rw[YC]
   have H:=QU (fun x:Slt=>!Bj (AL (AW s n) x.num) x.val) (r.take i)
   rw[YP]at H
   omega
  have f:=ey (Bl s n).1 x.num o
  obtain⟨K,L⟩:=h.sl x e
  have J:GdF s (AL (Bl s n).1.fields x.num):=by
   rcases IZ (Bl s n).1.fields x.num with⟨c,_⟩|⟨_,c⟩
   ·rw[K]at c;cases c
   ·exact g.fl n _ c
  have F:R s (BW (Bl s n).1.fields x.num).1 x.val=some (Bo (Av s d) (AL (AW s n) x.num) x.val,!Bj (AL (AW s n) x.num) x.val):=I _ _ J (Gp z e) L
  rw[F1,EJ]
  generalize ((r.take i).filter fun x=>!Bj (AL (AW s n) x.num) x.val).map (fun x=>Slt.mk x.num (Bo (Av s d) (AL (AW s n) x.num) x.val))=out at t⊢
  dsimp only[Nf,br,ix,vz,vw,wg,vs,ln,Af,ap,cl,cs,wa,fl,br]
  simp only[w2,G,m,hx,f,F,Yt,Yy,Yd]
  cases w:Bj (AL (AW s n) x.num) x.val with
  |true=>simp[w,m]
  |false=>simp[w,m,t]) (by dsimp only[Nf,br,ix,vz,vw,wg,vs,ln,Af,ap,cl,cs,wa,fl,br];simp[w2]) (AZ (by omega))
 rw[f]at j
 have j:Ah (Nf s R (Bl s n) v.raws r) Ag (0,[])=some (.inl (Cm (Bo (Av s d)) (AW s n) v.slots)):=j
 dsimp only[OX,Hj,vz,vw,wg,vs,lr,lc,cl,fl,fr,Hj,Aj]
 rw[C,Yd,D,Yd,u]
 have l:v.raws.length=(Dy v.raws).length:=by rw[Kt];exact(Dv v.raws).length_eq.symm
 simp only[w2,Yy,Yd,j,D0,E]
 first|rfl|(rw[Yj l];rfl)
theorem cV{s:Scm}{k:Bool}(hs:An (Au s)≤1048576)(g:GdS s)(R:Scm→Fld→Val→Option (Val×Bool))(d:Nat)(f:∀d':Nat,d=d'+1→QF k s R d')(t:Typ)(v:Val)(b:AR v)(h:Cq (A3 s k d) s t v=0):F7 R s t v=some (AS (Av s d) t v):=by
 unfold AS
 dsimp only[F7,br,wg,lr,cl,cs,br]
 by_cases c:t.kind=10
 ·unfold Cq at h
  rw[Yj c]at h
  cases a:(Bl s t.name).2 with
  |false=>rw[a]at h;cases h
  |true=>
   rw[a,Yj rfl]at h
   cases d with
   |zero=>
    unfold A3 at h
    split at h<;>cases h
   |succ d=>
    have e:=pq hs g R d (f d rfl) t.name v b (Ue.1 h)
    rw[Yj (Yo c),e,Yj c]
    rfl
 ·rw[Yh (by simp[c]),qo b,Yh c]
  rfl
theorem pB(n:Nat):decide ((0:Int)<(n:Int))=!decide (n=0):=by
 cases n with
 |zero=>rfl
 |succ n=>simp
theorem ww{s:Scm}{k:Bool}(hs:An (Au s)≤1048576)(g:GdS s)(R:Scm→Fld→Val→Option (Val×Bool))(d:Nat)(z:∀d':Nat,d=d'+1→QF k s R d')(f:Fld)(v:Val)(G:GdF s f)(m:AR v)(h:B9 (A3 s k d) s k f v=0):Sb R s f v=some (Bo (Av s d) f v,!Bj f v):=by
 have C:=CE m
 have J:=C.l
 have K:=C.p
 have D:v.list.length<4611686018427387904:=by omega
 unfold B9 at h
 dsimp only[Sb,cQ,cO,WK,Ul,aU,de,U6,bn,vz,vw,wg,lr,lc,cl,AD,cs,tw,du,fl,fr,Aj,A5]
 by_cases c:f.card=4
 ·rw[Yj c]at h
  rw[Rt c]
  have t:(!Bj f v)=decide ((0:Int)<((v.list.map (AS (Av s d) f.type)).length:Int)):=by unfold Bj;rw[Yj c,pB,YC]
  split at h
  ·cases h
  ·rw[Kv]at h
   have q:=GU (B:=Nh s f v R) (N:=Ag) (ρ:=Val×Bool) v.list (fun p=>p.map (AS (Av s d) f.type)) (fun i b=>(i,b)) id (fun i x hx=>by
    have w:=BG hx
    have hi:=(Ye.1 hx).1
    have y:i+1<9223372036854775808:=by omega
    have hm:=Yk hx
    have e:=cV hs g R d z f.type x (I9 m hm) (h x hm)
    have a1:((v.list.take i).map (AS (Av s d) f.type)).length<549755813887:=by rw[YC,YP];omega
    rw[EJ]
    generalize (v.list.take i).map (AS (Av s d) f.type)=out at a1⊢
    dsimp only[Nh,UF,Uw,br,ix,vz,vw,wg,vs,ln,Af,lc,ap,cs,wa,tw,fl,br]
    simp only[D,w,y,hx,e,a1,Yt,Yy,Yd,YV,Ht]) (by dsimp only[Nh,UF,Uw,br,ix,vz,vw,wg,vs,ln,Af,lc,ap,cs,wa,tw,fl,br];simp[D]) (AZ (by omega))
   have q:Ah (Nh s f v R) Ag (0,[])=some (.inl (v.list.map (AS (Av s d) f.type))):=q
   rw[t]
   simp only[c,D,Yt,Yy,q,Yd,D0]
 ·rw[Yh c]at h
  by_cases l:f.card=5
  ·rw[Yj l]at h
   rw[Ra l]
   split at h
   ·cases h
   ·rw[MS]at h
    have A:∀p∈v.pairs,p.key.kind=f.key∧Cq (A3 s k d) s f.type p.val=0:=fun p a=>by
     obtain⟨j,H⟩:=YH.1 a
     have:=h j p H
     rw[Nc]at this
     exact⟨(E1 this.1).1,this.2.2⟩
    have I:=G.ky l
    have E:∀p∈v.pairs,BH p.key=p.key:=fun p a=>by
     unfold BH
     rw[Yh]
     have:=(A p a).1
     omega
    have o:=ZuM v.pairs (by omega) fun p a=>by
     have:=(A p a).1
     exact⟨by omega,(DR m a).1⟩
    have F:(v.pairs.map fun p=>Pr.mk (BH p.key) (AS (Av s d) f.type p.val))=v.pairs.map fun p=>Pr.mk p.key (AS (Av s d) f.type p.val):=Y1 fun p a=>by rw[E p a]
    rw[F,Tz (g:=fun p=>Pr.mk p.key (AS (Av s d) f.type p.val)) fun _=>rfl]
    have t:(!Bj f v)=decide ((0:Int)<(((Ca v.pairs).map fun p=>Pr.mk p.key (AS (Av s d) f.type p.val)).length:Int)):=by
     unfold Bj
     rw[Yh c,Yj l,pB,YC]
     exact congrArg _ (decide_eq_decide.2 (pm v.pairs).symm)
    have hl:=a8 v.pairs v.pairs.length
    have hl:(Ca v.pairs).length≤v.pairs.length:=hl
    have n:∀p∈Ca v.pairs,p∈v.pairs:=fun p a=>cN a
    generalize Ca v.pairs=r at o t hl n⊢
    have w2:r.length<4611686018427387904:=by omega
    have q:=GU (B:=Nj s f R r) (N:=Ag) (ρ:=Val×Bool) r (fun p=>p.map fun p=>Pr.mk p.key (AS (Av s d) f.type p.val)) (fun i b=>(i,b)) id (fun i p a=>by
     have w:=BG a
     have hi:=(Ye.1 a).1
     have y:i+1<9223372036854775808:=by omega
     have hm:=n p (Yk a)
     have e:=cV hs g R d z f.type p.val (DR m hm).2 (A p hm).2
     have u:SB p.key=some p.key:=by rw[qo (DR m hm).1,E p hm]
     have a1:((r.take i).map fun p=>Pr.mk p.key (AS (Av s d) f.type p.val)).length<549755813887:=by rw[YC,YP];omega
     rw[EJ]
     generalize (r.take i).map (fun p=>Pr.mk p.key (AS (Av s d) f.type p.val))=out at a1⊢
     dsimp only[Nj,TN,I0,PC,br,ix,vz,vw,wg,vs,ln,Af,lc,ap,cl,cs,wa,tw,fl,br]
     simp only[w2,w,y,a,e,u,a1,Yt,Yy,Yd,YV,Ht]) (by dsimp only[Nj,TN,I0,PC,br,ix,vz,vw,wg,vs,ln,Af,lc,ap,cl,cs,wa,tw,fl,br];simp[w2]) (AZ (by omega))
    have q:Ah (Nj s f R r) Ag (0,[])=some (.inl (r.map fun p=>Pr.mk p.key (AS (Av s d) f.type p.val))):=q
    rw[t]
    simp only[c,l,w2,Yt,YK,Yn,YI,Yy,o,q,Yd,D0]
    first|done|simp[w2,q]
  ·rw[Yh l]at h
   rw[Rq c l]
   have e:=cV hs g R d z f.type v m h
   have u:=vi C
   have o:(!Bj f v)=((!decide (f.card=3))||(!Ld v)):=by
    unfold Bj
    rw[Yh c,Yh l,Bool.not_and]
   rw[o]
   simp only[c,l,YK,Yn,YI,e,u,Yd,Fm,YT,Fj,Yy]
theorem sF{s:Scm}{k:Bool}(hs:An (Au s)≤1048576)(g:GdS s):∀a d:Nat,d<a→QF k s (GQ a) d
 |0,d,h=>by omega
 |a+1,d,h=>fun f v c i b=>ww hs g (GQ a) d (fun d' e=>sF hs g a d' (by omega)) f v c i b
mutual
def dp:Val→Nat
 |.mk k _ _ l p s _=>max (max (Br l) (DJ p)) (DK s)+if k=10 then 1 else 0
def Br:List Val→Nat
 |[]=>0
 |v::l=>max (dp v) (Br l)
def J5:Pr→Nat
 |.mk k v=>max (dp k) (dp v)
def DJ:List Pr→Nat
 |[]=>0
 |p::l=>max (J5 p) (DJ l)
def OC:Slt→Nat
 |.mk _ v=>dp v
def DK:List Slt→Nat
 |[]=>0
 |x::l=>max (OC x) (DK l)
end
mutual
theorem Qb:∀v:Val,dp v≤cnt v
 |.mk k b t l p s r=>by
  have a:=r3 l
  have c:=rp p
  have d:=qN s
  rw[dp,cnt]
  split<;>omega
theorem r3:∀l:List Val,Br l≤Bc l
 |[]=>Cj _
 |v::l=>by
  have a:=Qb v
  have b:=r3 l
  rw[Br,Bc]
  omega
theorem uz:∀p:Pr,J5 p≤HV p
 |.mk k v=>by
  have a:=Qb k
  have b:=Qb v
  rw[J5,HV]
  omega
theorem rp:∀l:List Pr,DJ l≤Cg l
 |[]=>Cj _
 |v::l=>by
  have a:=uz v
  have b:=rp l
  rw[DJ,Cg]
  omega
theorem ur:∀x:Slt,OC x≤H4 x
 |.mk n v=>by
  have a:=Qb v
  rw[OC,H4]
  omega
theorem qN:∀l:List Slt,DK l≤BR l
 |[]=>Cj _
 |v::l=>by
  have a:=ur v
  have b:=qN l
  rw[DK,BR]
  omega
end
theorem bW(x:Slt):OC x=dp x.val:=by cases x;rw[OC];rfl
theorem pu(p:Pr):J5 p=max (dp p.key) (dp p.val):=by cases p;rw[J5];rfl
theorem KV(v:Val):dp v=max (max (Br v.list) (DJ v.pairs)) (DK v.slots)+if v.kind=10 then 1 else 0:=by cases v;rw[dp];rfl
theorem Pg:∀a b:List Val,Br (a++b)=max (Br a) (Br b)
 |[],b=>by rw[Br,F3];omega
 |v::a,b=>by rw[IK,Br,Br,Pg a b];omega
theorem rD:∀l:List Pr,Br (l.flatMap fun p=>[p.key,p.val])=DJ l
 |[]=>by rw[List.flatMap_nil,Br,DJ]
 |p::l=>by rw[VT,Pg,rD l,DJ,pu,Br,Br,Br];omega
theorem re:∀l:List Slt,Br (l.map fun x=>x.val)=DK l
 |[]=>by rw[Ht,Br,DK]
 |p::l=>by rw[YV,Br,re l,DK,bW]
theorem vr(v:Val):dp v=Br (B6 v)+if v.kind=10 then 1 else 0:=by
 unfold B6
 rw[Pg,Pg,rD,re,KV]
theorem p5:∀{l:List Val} {x:Val},x∈l→dp x≤Br l
 |y::l,x,h=>by
  rw[Br]
  rcases Yu.1 h with rfl|h
  ·omega
  ·have:=p5 h
   omega
theorem cJ:∀(d:Nat) (v:Val),An (Ai v)<d→AR v→Ki d v=some (dp v:Int)
 |0,v,h,_=>by omega
 |d+1,v,h,k=>by
  have l:=CE k
  have hl:=oS l
  have r:=qE k
  have s:=Qb v
  have q:(B6 v).length<4611686018427387904:=by omega
  have j:=GU (B:=M3 v (Ki d) (B6 v)) (N:=Ag) (ρ:=Int) (B6 v) (fun p=>(Br p:Int)) (fun i b=>(b,i)) id (fun i x hx=>by
   have n:=BG hx
   have o:i+1<9223372036854775808:=by have:=(Ye.1 hx).1;omega
   have hm:=oR k (Yk hx)
   have e:=cJ d x (by omega) hm.1
   have f:Fe true (Br ((B6 v).take i):Int) (dp x:Int)=(Br ((B6 v).take i++[x]):Int):=by
    rw[Pg,Br,Br]
    unfold Fe
    rw[Yj rfl]
    split<;>omega
   generalize (Br ((B6 v).take i):Int)=a at f⊢
   generalize (Br ((B6 v).take i++[x]):Int)=b at f⊢
   generalize (dp x:Int)=c at e f
   dsimp only[M3,br,ix,wg,vs,v2,ln,Af,cs,wa,br]
   simp only[n,hx,Yt,Yy,Yd]
   rw[e,Yd,Yj o,f]) (by dsimp only[M3,br,ix,wg,vs,v2,ln,Af,cs,wa,br];simp) (AZ (by omega))
  have j:Ah (M3 v (Ki d) (B6 v)) Ag (0,0)=some (.inl (Br (B6 v):Int)):=j
  have e0:=vr v
  show R8 (Ki d) v=_
  dsimp only[R8,br,vz,wg,vs,lr,lc,cl,wi,Aj,br]
  rw[oZ l]
  simp only[q,Yy,j,Yd,D0]
  by_cases c:v.kind=10
  ·rw[Yj c]at e0
   have g:(Br (B6 v):Int)+1=(dp v:Int):=by omega
   have m: -9223372036854775808≤(dp v:Int)∧(dp v:Int)<9223372036854775808:=by omega
   rw[Yj (Yo c),g,Yj m]
  ·rw[Yh c]at e0
   have g:(Br (B6 v):Int)=(dp v:Int):=by omega
   rw[Yh (by simp[c]),g]
theorem wU(xs ys:List Raw)(h:xs.length≤4194304)(j:ys.length≤4194304):Bq xs ys (Mz xs ys):=by
 have w:xs.length<4611686018427387904:=by omega
 have w2:ys.length<4611686018427387904:=by omega
 by_cases e:xs.length=ys.length
 ·obtain⟨r,q,a⟩:=IV (B:=P0 xs ys) (N:=Ag) xs ys () e (fun i x y hx hy=>by
   have f:=BG hx
   have g:i+1<9223372036854775808:=by have:=(Ye.1 hx).1;omega
   refine⟨decide (x.num=y.num)&&(decide (x.wire=y.wire)&&(decide (x.bits=y.bits)&&decide (x.data=y.data))),by simp only[Yc,YB,rA],?_⟩
   dsimp only[P0,br,ix,vs,Ar,ln,Af,wa,br]
   simp only[w,w2,f,hx,hy,Yt,Yy,Yd,LK]
   cases decide (x.num=y.num)&&(decide (x.wire=y.wire)&&(decide (x.bits=y.bits)&&decide (x.data=y.data)))<;>simp[g]) (by dsimp only[P0,br,ix,vs,Ar,ln,Af,wa,br];simp) (AZ (by omega))
  have c:Mz xs ys=some (match r with|.inl _=>true|.inr b=>b):=by
   dsimp only[Mz,br,vz,lr,lc,Aj,br]
   cases r<;>simp[e,w,w2,q]
  rw[c]
  cases r with
  |inl u=>exact Bq.yes a
  |inr b=>obtain⟨rfl,a⟩:=a;exact Bq.no a
 ·have c:Mz xs ys=some false:=by
   dsimp only[Mz,br,vz,lr,lc,Aj,br]
   have d:¬(xs.length:Int)=ys.length:=by omega
   simp[d,e,w,w2]
  rw[c]
  exact Bq.no fun h=>e (by rw[h])
theorem xD(xs ys:List Val)(h:xs.length≤4194304)(m:ys.length≤4194304)(f:Val→Val→Option Bool)(l:∀x∈xs,∀y∈ys,Bq x y (f x y)):Bq xs ys (Kf xs ys f):=by
 have w:xs.length<4611686018427387904:=by omega
 have w2:ys.length<4611686018427387904:=by omega
 by_cases e:xs.length=ys.length
 ·obtain⟨r,q,a⟩:=IV (B:=P7 xs ys f) (N:=Ag) xs ys () e (fun i x y hx hy=>by
   have j:=BG hx
   have k:i+1<9223372036854775808:=by have:=(Ye.1 hx).1;omega
   obtain⟨r,d,a⟩:=l x (Yk hx) y (Yk hy)
   refine⟨r,a,?_⟩
   dsimp only[P7,br,ix,wg,vs,Ar,ln,Af,cf,wa,br]
   simp only[j,hx,hy,d,Yt,Yy,Yd]
   cases r<;>simp[k]) (by dsimp only[P7,br,ix,wg,vs,Ar,ln,Af,cf,wa,br];simp) (AZ (by omega))
  have c:Kf xs ys f=some (match r with|.inl _=>true|.inr b=>b):=by
   dsimp only[Kf,br,vz,lr,lc,Aj,br]
   cases r<;>simp[e,w,w2,q]
  rw[c]
  cases r with
  |inl u=>exact Bq.yes a
  |inr b=>obtain⟨rfl,a⟩:=a;exact Bq.no a
 ·have c:Kf xs ys f=some false:=by
   dsimp only[Kf,br,vz,lr,lc,Aj,br]
   have g:¬(xs.length:Int)=ys.length:=by omega
   simp[g,e,w,w2]
  rw[c]
  exact Bq.no fun h=>e (by rw[h])
theorem yb(xs ys:List Pr)(h:xs.length≤4194304)(m:ys.length≤4194304)(f:Pr→Pr→Option Bool)(l:∀x∈xs,∀y∈ys,Bq x y (f x y)):Bq xs ys (Kk xs ys f):=by
 have w:xs.length<4611686018427387904:=by omega
 have w2:ys.length<4611686018427387904:=by omega
 by_cases e:xs.length=ys.length
 ·obtain⟨r,q,a⟩:=IV (B:=Qk xs ys f) (N:=Ag) xs ys () e (fun i x y hx hy=>by
   have j:=BG hx
   have k:i+1<9223372036854775808:=by have:=(Ye.1 hx).1;omega
   obtain⟨r,d,a⟩:=l x (Yk hx) y (Yk hy)
   refine⟨r,a,?_⟩
   dsimp only[Qk,br,ix,wg,vs,Ar,ln,Af,cf,wa,br]
   simp only[j,hx,hy,d,Yt,Yy,Yd]
   cases r<;>simp[k]) (by dsimp only[Qk,br,ix,wg,vs,Ar,ln,Af,cf,wa,br];simp) (AZ (by omega))
  have c:Kk xs ys f=some (match r with|.inl _=>true|.inr b=>b):=by
   dsimp only[Kk,br,vz,lr,lc,Aj,br]
   cases r<;>simp[e,w,w2,q]
  rw[c]
  cases r with
  |inl u=>exact Bq.yes a
  |inr b=>obtain⟨rfl,a⟩:=a;exact Bq.no a
 ·have c:Kk xs ys f=some false:=by
   dsimp only[Kk,br,vz,lr,lc,Aj,br]
   have g:¬(xs.length:Int)=ys.length:=by omega
   simp[g,e,w,w2]
  rw[c]
  exact Bq.no fun h=>e (by rw[h])
theorem xR(xs ys:List Slt)(h:xs.length≤4194304)(m:ys.length≤4194304)(f:Slt→Slt→Option Bool)(l:∀x∈xs,∀y∈ys,Bq x y (f x y)):Bq xs ys (Kj xs ys f):=by
 have w:xs.length<4611686018427387904:=by omega
 have w2:ys.length<4611686018427387904:=by omega
 by_cases e:xs.length=ys.length
 ·obtain⟨r,q,a⟩:=IV (B:=PU xs ys f) (N:=Ag) xs ys () e (fun i x y hx hy=>by
   have j:=BG hx
   have k:i+1<9223372036854775808:=by have:=(Ye.1 hx).1;omega
   obtain⟨r,d,a⟩:=l x (Yk hx) y (Yk hy)
   refine⟨r,a,?_⟩
   dsimp only[PU,br,ix,wg,vs,Ar,ln,Af,cf,wa,br]
   simp only[j,hx,hy,d,Yt,Yy,Yd]
   cases r<;>simp[k]) (by dsimp only[PU,br,ix,wg,vs,Ar,ln,Af,cf,wa,br];simp) (AZ (by omega))
  have c:Kj xs ys f=some (match r with|.inl _=>true|.inr b=>b):=by
   dsimp only[Kj,br,vz,lr,lc,Aj,br]
   cases r<;>simp[e,w,w2,q]
  rw[c]
  cases r with
  |inl u=>exact Bq.yes a
  |inr b=>obtain⟨rfl,a⟩:=a;exact Bq.no a
 ·have c:Kj xs ys f=some false:=by
   dsimp only[Kj,br,vz,lr,lc,Aj,br]
   have g:¬(xs.length:Int)=ys.length:=by omega
   simp[g,e,w,w2]
  rw[c]
  exact Bq.no fun h=>e (by rw[h])
theorem P8:∀(d:Nat) (a b:Val),An (Ai a)<d→AR a→AR b→Bq a b (GP d a b)
 |0,a,b,h,_,_=>by omega
 |d+1,a,b,h,e,f=>by
  obtain⟨t1,t2,t3,t4,t5⟩:=CE e
  obtain⟨s1,s2,T,U,V⟩:=CE f
  have e0:∀v:Val,AR v→ax v=some (.mk v.kind v.bits v.text (v.list.length:Int) (v.pairs.length:Int) (v.slots.length:Int) (v.raws.length:Int)):=fun v k=>by
   obtain⟨t1,t2,t3,t4,t5⟩:=CE k
   have N:v.list.length<4611686018427387904:=by omega
   have O:v.pairs.length<4611686018427387904:=by omega
   have P:v.slots.length<4611686018427387904:=by omega
   have Q:v.raws.length<4611686018427387904:=by omega
   dsimp only[ax,vz,wg,lr,Aj]
   first|done|simp[N,O,P,Q]
  obtain⟨p,F,J⟩:=wU a.raws b.raws (by omega) (by omega)
  obtain⟨s,G,K⟩:=xD a.list b.list (by omega) (by omega) (fun z0 l=>GP d z0 l) fun x hx y hy=>P8 d x y (by have:=WA hx;omega) (I9 e hx) (I9 f hy)
  obtain⟨u,H,L⟩:=yb a.pairs b.pairs (by omega) (by omega) (fun z0 l=>OP (GP d) z0 l) fun x hx y hy=>by
   obtain⟨r,R,S⟩:=P8 d x.key y.key (by have:=(Qd hx).1;omega) (DR e hx).1 (DR f hy).1
   obtain⟨t,n,o⟩:=P8 d x.val y.val (by have:=(Qd hx).2;omega) (DR e hx).2 (DR f hy).2
   refine⟨r&&t,?_,by show(r&&t)=true↔x=y;rw[Yc,S,o,iH]⟩
   dsimp only[OP,wg,lr,cs,Cy]
   cases r<;>cases t<;>simp[R,n]
  obtain⟨B,I,M⟩:=xR a.slots b.slots (by omega) (by omega) (fun z0 l=>OR (GP d) z0 l) fun x hx y hy=>by
   obtain⟨t,n,o⟩:=P8 d x.val y.val (by have:=WJ hx;omega) (Gp e hx) (Gp f hy)
   refine⟨decide (x.num=y.num)&&t,?_,by show(decide (x.num=y.num)&&t)=true↔x=y;rw[Yc,o,qB,YB]⟩
   dsimp only[OR,wg,lr,Cy]
   by_cases c:x.num=y.num<;>cases t<;>simp[c,n]
  show Bq a b (J1 (GP d) a b)
  by_cases c:a.kind=b.kind∧a.bits=b.bits∧a.text=b.text∧a.list.length=b.list.length∧a.pairs.length=b.pairs.length∧a.slots.length=b.slots.length∧a.raws.length=b.raws.length
  ·obtain⟨w,z,A,C,D,c6,E⟩:=c
   have q:J1 (GP d) a b=some (p&&(s&&(u&&B))):=by
    dsimp only[J1,br,wg,lr,cl,AD,cs,Cy,br]
    rw[e0 a e,e0 b f]
    cases p<;>cases s<;>cases u<;>simp[w,z,A,C,D,c6,E,F,G,H,I]
   rw[q]
   refine⟨_,rfl,?_⟩
   simp only[Yc,J,K,L,M,qJ (a:=a) (b:=b)]
   exact⟨fun⟨g,i,j,m⟩=>⟨w,z,A,i,j,m,g⟩,fun⟨_,_,_,i,j,m,g⟩=>⟨g,i,j,m⟩⟩
  ·have q:J1 (GP d) a b=some false:=by
    have Aq:(decide (a.kind=b.kind)&&(decide (a.bits=b.bits)&&(decide (a.text=b.text)&&(decide ((a.list.length:Int)=(b.list.length:Int))&&(decide ((a.pairs.length:Int)=(b.pairs.length:Int))&&(decide ((a.slots.length:Int)=(b.slots.length:Int))&&(decide ((a.raws.length:Int)=(b.raws.length:Int))&&true)))))))=false:=by
     rw[Q0]
     intro h
     simp only[Yc,YB,JS]at h
     obtain⟨g,i,j,m,W,X,Y⟩:=h
     exact c ⟨g,i,j,by omega,by omega,by omega,by omega⟩
    dsimp only[J1,br,wg,lr,cl,AD,cs,Cy,br]
    rw[e0 a e,e0 b f]
    simp only[Yd]
    rw[Aq]
    simp
   rw[q]
   exact Bq.no fun h=>c (by rw[h];exact⟨rfl,rfl,rfl,rfl,rfl,rfl,rfl⟩)
theorem yH:mi=some true:=by kernel_rfl
theorem Oe{v:Val}(h:AR v):An (Ai v)<Ag:=AZ (by have a:An (Ai v)≤1048576:=h;omega)
theorem WL{s:Scm}{k:Bool}(hs:An (Au s)≤1048576)(g:GdS s)(n:ByteArray)(v:Val)(a:AR v)(h:OkM s k 15 (Bl s n).1 v):OX (GQ Ag) s n v=some (Av s 16 n v):=pq hs g _ 15 (sF hs g Ag 15 (AZ (by omega))) n v a h
theorem v6{s:Scm}(hs:An (Au s)≤1048576)(g:GdS s)(n:ByteArray)(v:Val)(a:AR v):Ok (fun b:Bool=>b=true↔Jf s true n v=0∧v=Av s 16 n v) (ZZ s n v):=by
 have d:=dI hs g n v a
 dsimp only[ZZ,wg,lr,cl,AD]
 rw[d]
 by_cases c:Jf s true n v=0
 ·have i:AR (Av s 16 n v):=CP (cY g.asc 16 n v) a
  have e:=WL hs g n v a (cX.1 c).2.1
  obtain⟨b,f,h⟩:=P8 Ag v (Av s 16 n v) (Oe a) a i
  refine⟨b,?_,by simp[c,h]⟩
  simp[c,e,f]
 ·exact⟨false,by simp[c],by simp[c]⟩
theorem o7:∀{l:List Pr} {p:Pr},p∈l→J5 p≤DJ l
 |y::l,x,h=>by
  rw[DJ]
  rcases Yu.1 h with rfl|h
  ·omega
  ·have:=o7 h
   omega
theorem pW:∀{l:List Slt} {x:Slt},x∈l→dp x.val≤DK l
 |y::l,x,h=>by
  rw[DK,bW]
  rcases Yu.1 h with rfl|h
  ·omega
  ·have:=pW h
   omega
theorem ZqA(v:Val):BH (BH v)=BH v:=by
 by_cases h:v.kind=6∧FP v.bits.toNat=true
 ·have e:BH v=.mk v.kind 9221120237041090560 v.text v.list v.pairs v.slots v.raws:=Yj h
  have a:FP ((9221120237041090560:Int).toNat)=true:=by decide
  rw[e]
  exact Yj ⟨h.1,a⟩
 ·have e:BH v=v:=Yh h
  rw[e,e]
theorem MP(v:Val):BH v=v∨(v.kind=6∧v.bits≠0∧BH v=.mk v.kind 9221120237041090560 v.text v.list v.pairs v.slots v.raws):=by
 by_cases h:v.kind=6∧FP v.bits.toNat=true
 ·exact .inr ⟨h.1,fun e=>by rw[e]at h;exact absurd h.2 (by decide),Yj h⟩
 ·exact .inl (Yh h)
theorem Zv2(v:Val):Ld (BH v)=Ld v:=by
 rcases MP v with e|⟨_,h,e⟩
 ·rw[e]
 ·rw[e]
  obtain⟨k,b,t,l,p,s,r⟩:=v
  have h:b≠0:=h
  show(decide (1≤k∧k≤9)&&decide (l.length=0∧p.length=0∧s.length=0∧r.length=0)&&decide ((9221120237041090560:Int)=0)&&decide (t=⟨#[]⟩))=(decide (1≤k∧k≤9)&&decide (l.length=0∧p.length=0∧s.length=0∧r.length=0)&&decide (b=0)&&decide (t=⟨#[]⟩))
  rw[Yp h,Yp (by decide:¬(9221120237041090560:Int)=0)]
theorem Zwh{n:Int}{v:Val}(h:Cf n v=0):Cf n (BH v)=0:=by
 rcases MP v with e|⟨d,g,e⟩
 ·rw[e];exact h
 ·obtain⟨a1,a,a3,a4⟩:=E1 h
  have i:n=6:=by omega
  subst i
  rw[e]
  obtain⟨k,b,t,l,p,s,r⟩:=v
  have d:k=6:=d
  subst d
  have o:BM (.mk 6 9221120237041090560 t l p s r)=false:=by
   unfold BM at a⊢
   rw[YS]at a⊢
   intro c
   refine a ?_
   rcases c with c|c|c|c|⟨_,c⟩
   ·exact .inl c
   ·exact .inr (.inl c)
   ·exact .inr (.inr (.inl c))
   ·exact .inr (.inr (.inr (.inl c)))
   ·exact .inr (.inr (.inr (.inr ⟨g,c⟩)))
  have f:Im 6 (.mk 6 9221120237041090560 t l p s r)=true:=a4
  show Cf 6 (.mk 6 9221120237041090560 t l p s r)=0
  have a3:¬4096<(Val.mk 6 9221120237041090560 t l p s r).text.size:=by have a3:t.size≤4096:=a3;show¬4096<t.size;omega
  unfold Cf
  rw[Yh (fun c=>c.elim (fun c=>c rfl) (fun c=>by rw[o]at c;cases c)),Yh a3,Yj f]
theorem Zvf(v:Val):cnt (BH v)=cnt v:=by
 rcases MP v with e|⟨_,_,e⟩
 ·rw[e]
 ·rw[e,KJ,KJ v]
  rfl
theorem tx(v:Val):dp (BH v)=dp v:=by
 rcases MP v with e|⟨_,_,e⟩
 ·rw[e]
 ·rw[e,KV,KV v]
  rfl
theorem dC(k b:Int)(t:ByteArray)(l:List Val)(p:List Pr)(s:List Slt)(r:List Raw):cnt (.mk k b t l p s r)=1+r.length+Bc l+Cg p+BR s:=KJ _
theorem WI(k b:Int)(t:ByteArray)(l:List Val)(p:List Pr)(s:List Slt)(r:List Raw):dp (.mk k b t l p s r)=max (max (Br l) (DJ p)) (DK s)+if k=10 then 1 else 0:=KV _
theorem og{g:Val→Val}:∀{l:List Val},(∀x∈l,cnt (g x)≤cnt x)→Bc (l.map g)≤Bc l
 |[],_=>Yf _
 |x::l,h=>by
  have a:=h x (Yv ..)
  have b:=og (g:=g) (l:=l) fun y hy=>h y (Yw _ hy)
  rw[YV,Bc,Bc]
  omega
theorem oP{g:Pr→Pr}:∀{l:List Pr},(∀x∈l,HV (g x)≤HV x)→Cg (l.map g)≤Cg l
 |[],_=>Yf _
 |x::l,h=>by
  have a:=h x (Yv ..)
  have b:=oP (g:=g) (l:=l) fun y hy=>h y (Yw _ hy)
  rw[YV,Cg,Cg]
  omega
theorem ol{g:Slt→Slt}:∀{l:List Slt},(∀x∈l,H4 (g x)≤H4 x)→BR (l.map g)≤BR l
 |[],_=>Yf _
 |x::l,h=>by
  have a:=h x (Yv ..)
  have b:=ol (g:=g) (l:=l) fun y hy=>h y (Yw _ hy)
  rw[YV,BR,BR]
  omega
theorem oE(p:Slt→Bool):∀l:List Slt,BR (l.filter p)≤BR l
 |[]=>Yf _
 |x::l=>by
  have h:=oE p l
  rw[LA]
  split
  ·rw[BR,BR];omega
  ·rw[BR];omega
theorem Zrd{a b:List Slt}(h:a.Perm b):BR a=BR b:=by
 induction h with
 |nil=>rfl
 |cons x _ e=>rw[BR,BR,e]
 |swap x y l=>rw[BR,BR,BR,BR];omega
 |trans _ _ c d=>exact c.trans d
theorem ZqW{a b:List Pr}(h:a.Perm b):Cg a=Cg b:=by
 induction h with
 |nil=>rfl
 |cons x _ e=>rw[Cg,Cg,e]
 |swap x y l=>rw[Cg,Cg,Cg,Cg];omega
 |trans _ _ c d=>exact c.trans d
theorem pN{N:Nat}:∀{l:List Val},(∀x∈l,dp x≤N)→Br l≤N
 |[],_=>Cj _
 |x::l,h=>by
  have a:=h x (Yv ..)
  have b:=pN (l:=l) fun y hy=>h y (Yw _ hy)
  rw[Br]
  omega
theorem pr{N:Nat}:∀{l:List Pr},(∀x∈l,J5 x≤N)→DJ l≤N
 |[],_=>Cj _
 |x::l,h=>by
  have a:=h x (Yv ..)
  have b:=pr (l:=l) fun y hy=>h y (Yw _ hy)
  rw[DJ]
  omega
theorem pA{N:Nat}:∀{l:List Slt},(∀x∈l,dp x.val≤N)→DK l≤N
 |[],_=>Cj _
 |x::l,h=>by
  have a:=h x (Yv ..)
  have b:=pA (l:=l) fun y hy=>h y (Yw _ hy)
  rw[DK,bW]
  omega
theorem ZwS{l:List Pr}(h:l.Pairwise fun a b=>¬A0 a b=0):Ca l=B1 A0 l:=by
 have i:=ag (cf:=A0) Gf l
 have m:(B1 A0 l).Pairwise fun a b=>¬A0 a b=0:=(fK (fun {a b} h e=>h (vx e)) (Dv l)).2 h
 have o:Fa (B1 A0 l):=(fE.2 ⟨i,m⟩).imp fun {a b} d=>by
  have n:=(not_congr (Gv a b)).1 d.2
  exact Decidable.byContradiction fun c=>n ⟨c,d.1⟩
 refine Tb (MF l) o fun x=>?_
 rw[IX,(Dv l).mem_iff]
 refine⟨fun⟨j,f,_⟩=>Yk f,fun hx=>?_⟩
 obtain⟨j,f⟩:=YH.1 hx
 refine⟨j,f,fun k y p e=>We fun g=>?_⟩
 obtain⟨q,r⟩:=Ye.1 f
 obtain⟨s,t⟩:=Ye.1 p
 have:=Y6.1 h j k q s g
 rw[r,t]at this
 exact this e
theorem nY{l:List Pr}(h:l.Pairwise fun a b=>¬A0 a b=0):(Ca l).Perm l:=by rw[ZwS h];exact Dv l
structure OkP (s:Scm) (d:Nat) (f:Fld) (l:List Pr):Prop where
 ky:∀p∈l,Cf f.key p.key=0
 vl:∀p∈l,Cq (A3 s true d) s f.type p.val=0
 df:l.Pairwise fun a b=>Gy a.key b.key=false
theorem bD{s:Scm}{d:Nat}{f:Fld}{l:List Pr}:B4 (Ia (Cq (A3 s true d) s f.type) f.key true l) l 0=0↔OkP s d f l:=by
 rw[MS]
 constructor
 ·intro h
  refine⟨fun p g=>?_,fun p g=>?_,Y6.2 fun i j hi a o=>?_⟩
  ·obtain⟨j,a⟩:=YH.1 g
   exact(Nc.1 (h j p a)).1
  ·obtain⟨j,a⟩:=YH.1 g
   exact(Nc.1 (h j p a)).2.2
  ·have b:=(Nc.1 (h j _ (Ya a))).2.1
   rw[YQ]at b
   refine Q0.2 fun e=>b ⟨rfl,YL.2 ⟨l[i],?_,e⟩⟩
   exact QG.2 ⟨i,by omega,rfl⟩
 ·rintro⟨m,b,n⟩ j p a
  have hm:=Yk a
  refine Nc.2 ⟨m p hm,fun c=>?_,b p hm⟩
  obtain⟨q,k,e⟩:=YL.1 c.2
  rw[YQ]at k
  obtain⟨i,hi,rfl⟩:=QG.1 k
  obtain⟨r,t⟩:=Ye.1 a
  have:=Y6.1 n i j (by omega) r (by omega)
  rw[t,e]at this
  cases this
theorem vJ{n:Int}{a b:Pr}(o:n=1∨n=2∨n=3∨n=4∨n=5∨n=7)(i:AR a.key)(j:AR b.key)(g:Cf n a.key=0)(m:Cf n b.key=0)(h:Gy a.key b.key=false):¬A0 a b=0:=by
 intro c
 have e:=rY o g m
 have l:=lY (d:=a.key) (x:=b.key) (by have:=(E1 g).1;omega) i j
 have k:=iA (a:=a.key) (b:=b.key) (by have:=(E1 g).1;omega) i j
 rw[l]at k
 have f:=Wg k
 rw[e,h]at f
 have c:CL a.key b.key=0:=c
 rw[c]at f
 cases f
theorem qL{s:Scm}{d:Nat}{f:Fld}(j:f.key=1∨f.key=2∨f.key=3∨f.key=4∨f.key=5∨f.key=7){l:List Pr}(c:∀p∈l,AR p.key)(h:OkP s d f l):l.Pairwise fun a b=>¬A0 a b=0:=
 V5 (fun {a b} g i e=>vJ j (c a g) (c b i) (h.ky a g) (h.ky b i) e) h.df
def QE(s:Scm)(d:Nat):Prop:=∀(n:ByteArray) (v:Val),AR v→OkM s true d (Bl s n).1 v→OkM s true d (Bl s n).1 (Av s (d+1) n v)∧Av s (d+1) n (Av s (d+1) n v)=Av s (d+1) n v∧cnt (Av s (d+1) n v)≤cnt v∧dp (Av s (d+1) n v)≤dp v
theorem bJ{s:Scm}{d:Nat}(a:∀d':Nat,d=d'+1→QE s d'){t:Typ}{v:Val}(g:AR v)(h:Cq (A3 s true d) s t v=0):Cq (A3 s true d) s t (AS (Av s d) t v)=0∧AS (Av s d) t (AS (Av s d) t v)=AS (Av s d) t v∧cnt (AS (Av s d) t v)≤cnt v∧dp (AS (Av s d) t v)≤dp v:=by
 by_cases c:t.kind=10
 ·obtain⟨d',rfl,ok⟩:=bZ c h
  have e:∀w,AS (Av s (d'+1)) t w=Av s (d'+1) t.name w:=fun w=>Yj c
  rw[e,e]
  obtain⟨a1,b,a3,a4⟩:=a d' rfl t.name v g ok
  refine⟨?_,b,a3,a4⟩
  unfold Cq at h⊢
  rw[Yj c]at h⊢
  split at h
  ·rename_i k
   rw[Yj k]
   exact Ue.2 a1
  ·cases h
 ·have e:∀w,AS (Av s d) t w=BH w:=fun w=>Yh c
  rw[e,e]
  refine⟨?_,ZqA v,JU (Zvf v),JU (tx v)⟩
  rcases MP v with k|⟨i,_,_⟩
  ·rw[k];exact h
  ·unfold Cq at h⊢
   rw[Yh c]at h⊢
   split at h
   ·cases h
   ·rename_i f
    rw[Yh f]
    have s0:Cf t.kind v=0:=by
     by_cases z:Cf t.kind v≠0∨t.kind≠9
     ·rw[Yj z]at h;exact h
     ·exact Decidable.byContradiction fun y=>z (.inl y)
    have t6:=(E1 s0).1
    rw[Yj (.inr (by omega))]
    exact Zwh s0
theorem s5{s:Scm}{d:Nat}(C:∀d':Nat,d=d'+1→QE s d'){f:Fld}{x:Val}(A:AR x)(G:GdF s f)(h:B9 (A3 s true d) s true f x=0):B9 (A3 s true d) s true f (Bo (Av s d) f x)=0∧Bo (Av s d) f (Bo (Av s d) f x)=Bo (Av s d) f x∧Bj f (Bo (Av s d) f x)=Bj f x∧cnt (Bo (Av s d) f x)≤cnt x∧dp (Bo (Av s d) f x)≤dp x:=by
 by_cases j:f.card=4
 ·rw[Rt j,Rt j]
  unfold B9 at h⊢
  rw[Yj j]at h⊢
  split at h
  ·cases h
  ·rw[Kv]at h
   have u:=fun y hy=>bJ C (t:=f.type) (I9 A hy) (h y hy)
   have o:=cB (k:=11) (l:=x.list.map (AS (Av s d) f.type)) (p:=[]) (sl:=[]) (r:=[]) (.inl rfl) (.inr rfl) (.inr ⟨rfl,rfl⟩)
   refine⟨?_,?_,?_,?_,?_⟩
   ·rw[Yh (fun c=>c.elim (fun c=>c rfl) (fun c=>by rw[o]at c;cases c)),Kv]
    intro y hy
    obtain⟨z,B,rfl⟩:=YR.1 hy
    exact(u z B).1
   ·show Val.mk 11 0 ⟨#[]⟩ ((x.list.map (AS (Av s d) f.type)).map (AS (Av s d) f.type)) [] [] []=_
    rw[Hs]
    exact congrArg (fun l=>Val.mk 11 0 ⟨#[]⟩ l [] [] []) (Y1 fun y hy=>(u y hy).2.1)
   ·unfold Bj
    rw[Yj j,Yj j]
    show decide ((x.list.map (AS (Av s d) f.type)).length=0)=_
    rw[YC]
   ·have F:=og (g:=AS (Av s d) f.type) (l:=x.list) fun y hy=>(u y hy).2.2.1
    rw[dC,KJ x]
    simp only[GN,Cg,BR]
    omega
   ·have F:Br (x.list.map (AS (Av s d) f.type))≤Br x.list:=pN fun y hy=>by
     obtain⟨z,B,rfl⟩:=YR.1 hy
     exact CP (u z B).2.2.2 (p5 B)
    rw[WI,KV x]
    simp only[DJ,DK]
    rw[Yh (by decide)]
    omega
 ·by_cases m:f.card=5
  ·rw[Ra m,Ra m]
   unfold B9 at h⊢
   rw[Yh j,Yj m]at h⊢
   split at h
   ·cases h
   ·have P:=bD.1 h
    have E:=G.ky m
    have w:∀p∈x.pairs,BH p.key=p.key:=fun p i=>pi (by have:=(E1 (P.ky p i)).1;omega)
    have K:(x.pairs.map fun p=>Pr.mk (BH p.key) (AS (Av s d) f.type p.val))=x.pairs.map fun p=>Pr.mk p.key (AS (Av s d) f.type p.val):=Y1 fun p i=>by rw[w p i]
    rw[K,Tz (g:=fun p=>Pr.mk p.key (AS (Av s d) f.type p.val)) fun _=>rfl]
    have u:=fun p i=>bJ C (t:=f.type) (DR A i).2 (P.vl p i)
    have v:∀q∈(Ca x.pairs).map (fun p=>Pr.mk p.key (AS (Av s d) f.type p.val)),∃p∈x.pairs,q=Pr.mk p.key (AS (Av s d) f.type p.val):=fun q n=>by
     obtain⟨p,i,rfl⟩:=YR.1 n
     exact⟨p,cN i,rfl⟩
    have D:Fa ((Ca x.pairs).map fun p=>Pr.mk p.key (AS (Av s d) f.type p.val)):=by
     rw[←Tz (g:=fun p=>Pr.mk p.key (AS (Av s d) f.type p.val)) fun _=>rfl]
     exact MF _
    have hl:((Ca x.pairs).map fun p=>Pr.mk p.key (AS (Av s d) f.type p.val)).length=0↔x.pairs.length=0:=by rw[YC];exact pm _
    have N:Cg ((Ca x.pairs).map fun p=>Pr.mk p.key (AS (Av s d) f.type p.val))≤Cg x.pairs:=by
     refine CP (oP fun p i=>?_) (JU (ZqW (nY (qL E (fun p i=>(DR A i).1) P))))
     have:=(u p (cN i)).2.2.1
     rw[bp,bp p]
     show cnt p.key+cnt (AS (Av s d) f.type p.val)≤_
     omega
    have O:DJ ((Ca x.pairs).map fun p=>Pr.mk p.key (AS (Av s d) f.type p.val))≤DJ x.pairs:=pr fun q n=>by
     obtain⟨p,i,rfl⟩:=v q n
     have F:=(u p i).2.2.2
     have L:=o7 i
     rw[pu]at L⊢
     show max (dp p.key) (dp (AS (Av s d) f.type p.val))≤_
     omega
    generalize (Ca x.pairs).map (fun p=>Pr.mk p.key (AS (Av s d) f.type p.val))=M at v D hl N O⊢
    have o:=cB (k:=12) (l:=[]) (p:=M) (sl:=[]) (r:=[]) (.inr rfl) (.inl rfl) (.inr ⟨rfl,rfl⟩)
    refine⟨?_,?_,?_,?_,?_⟩
    ·rw[Yh (fun c=>c.elim (fun c=>c rfl) (fun c=>by rw[o]at c;cases c))]
     refine bD.2 ⟨fun q n=>?_,fun q n=>?_,V5 (fun {a b} Q R e=>?_) D⟩
     ·obtain⟨p,i,rfl⟩:=v q n
      exact P.ky p i
     ·obtain⟨p,i,rfl⟩:=v q n
      exact(u p i).1
     ·obtain⟨p,i,rfl⟩:=v a Q
      obtain⟨q,n,rfl⟩:=v b R
      refine Q0.2 fun k=>ud (E1 (P.ky p i)).1 (E1 (P.ky q n)).1 k e
    ·have I:(M.map fun p=>Pr.mk (BH p.key) (AS (Av s d) f.type p.val))=M:=by
      have J:∀q∈M,Pr.mk (BH q.key) (AS (Av s d) f.type q.val)=q:=fun q n=>by
       obtain⟨p,i,rfl⟩:=v q n
       show Pr.mk (BH p.key) (AS (Av s d) f.type (AS (Av s d) f.type p.val))=_
       rw[w p i,(u p i).2.1]
      rw[Y1 (g:=id) J,List.map_id]
     show Val.mk 12 0 ⟨#[]⟩ [] (Ca (M.map fun p=>Pr.mk (BH p.key) (AS (Av s d) f.type p.val))) [] []=_
     rw[I,ZuF D]
    ·unfold Bj
     rw[Yh j,Yj m,Yh j,Yj m]
     exact decide_eq_decide.2 hl
    ·rw[dC,KJ x]
     simp only[GN,Bc,BR]
     omega
    ·rw[WI,KV x]
     simp only[Br,DK]
     rw[Yh (by decide)]
     omega
  ·rw[Rq j m,Rq j m]
   unfold B9 at h⊢
   rw[Yh j,Yh m]at h⊢
   obtain⟨a1,H,a3,a4⟩:=bJ C A h
   refine⟨a1,H,?_,a3,a4⟩
   unfold Bj
   rw[Yh j,Yh m,Yh j,Yh m]
   by_cases c:f.type.kind=10
   ·have:=G.np c
    simp[this]
   ·rw[show AS (Av s d) f.type x=BH x from Yh c,Zv2]
theorem oL{s:Scm}(g:GdS s){d:Nat}{n:ByteArray}{v:Val}(h:OkM s true d (Bl s n).1 v){z:Slt}(m:z∈Cm (Bo (Av s d)) (AW s n) v.slots):∃x∈v.slots,z=.mk x.num (Bo (Av s d) (AL (AW s n) x.num) x.val)∧Bj (AL (AW s n) x.num) x.val=false:=by
 obtain⟨f,j,x,hx,e,k,rfl⟩:=MM.1 m
 have l:=(h.sl x hx).1
 rcases IZ (AW s n) x.num with⟨c,_⟩|⟨b,i⟩
 ·rw[show(BW (AW s n) x.num).2=true from l]at c;cases c
 ·have a:AL (AW s n) x.num=f:=ce (g.asc n) i j (by rw[Ku b];exact e)
  exact⟨x,hx,by rw[a,e],by rw[a];exact k⟩
theorem PD{s:Scm}(g:GdS s){d:Nat}{n:ByteArray}{v:Val}(h:OkM s true d (Bl s n).1 v){x:Slt}(hx:x∈v.slots):AL (AW s n) x.num∈AW s n∧(AL (AW s n) x.num).num=x.num∧GdF s (AL (AW s n) x.num):=by
 have e:=(h.sl x hx).1
 rcases IZ (AW s n) x.num with⟨c,_⟩|⟨b,a⟩
 ·rw[show(BW (AW s n) x.num).2=true from e]at c;cases c
 ·exact⟨a,Ku b,g.fl n _ a⟩
theorem qc{s:Scm}(g:GdS s):∀d:Nat,QE s d:=fun d n v D h=>by
 have u:∀d':Nat,d=d'+1→QE s d':=fun d' e=>qc g d'
 have pw:v.slots.Pairwise fun a b=>a.num≠b.num:=h.pw.imp fun h=>h.1
 have l:=fun x hx=>s5 u (Gp D hx) (PD g h hx).2.2 (h.sl x hx).2
 have j:=fun z i=>oL g h (z:=z) i
 have m:Gw (Cm (Bo (Av s d)) (AW s n) v.slots):=Pi (Px (g.asc n)) pw
 have e0:Av s (d+1) n v=.mk 10 0 ⟨#[]⟩ [] [] (Cm (Bo (Av s d)) (AW s n) v.slots) (Dy v.raws):=rfl
 have E:BR (Cm (Bo (Av s d)) (AW s n) v.slots)≤BR v.slots:=by
  rw[←bN (N:=Bo (Av s d)) (g.asc n) pw fun x hx=>(h.sl x hx).1]
  refine CP (ol fun x hx=>?_) (CP (oE _ _) (JU (Zrd (Dv v.slots))))
  have o:=(Dv v.slots).mem_iff.1 (DY.1 hx).1
  have:=(l x o).2.2.2.1
  rw[bl,bl x]
  exact this
 have F:DK (Cm (Bo (Av s d)) (AW s n) v.slots)≤DK v.slots:=pA fun z i=>by
  obtain⟨x,hx,rfl,_⟩:=j z i
  exact CP (l x hx).2.2.2.2 (pW hx)
 have hm:∀x∈v.slots,Bj (AL (AW s n) x.num) x.val=false→Slt.mk x.num (Bo (Av s d) (AL (AW s n) x.num) x.val)∈Cm (Bo (Av s d)) (AW s n) v.slots:=fun x hx k=>by
  obtain⟨a1,a2,_⟩:=PD g h hx
  exact MM.2 ⟨_,a1,x,hx,a2.symm,k,by rw[a2]⟩
 have q:Cm (Bo (Av s d)) (AW s n) (Cm (Bo (Av s d)) (AW s n) v.slots)=Cm (Bo (Av s d)) (AW s n) v.slots:=Zu4 (g.asc n) m fun z i=>by
  obtain⟨x,hx,rfl,k⟩:=j z i
  obtain⟨_,w,A,_⟩:=l x hx
  exact⟨(h.sl x hx).1,A.trans k,w⟩
 rw[e0]
 generalize Cm (Bo (Av s d)) (AW s n) v.slots=S at j m E F hm q⊢
 refine⟨⟨rfl,cB (.inr rfl) (.inr rfl) (.inl rfl),?_,fun z i=>?_,fun f r p=>?_,fun x hx=>?_⟩,?_,?_,?_⟩
 ·refine V5 (fun {a b} G H e=>?_) m
  obtain⟨x,hx,rfl,_⟩:=j a G
  obtain⟨y,hy,rfl,_⟩:=j b H
  have e:x.num<y.num:=e
  have t:=dn (R:=fun a b=>a.num≠b.num∧GM (Bl s n).1.fields a b) (fun h=>⟨h.1.symm,h.2.symm⟩) h.pw hx hy (fun c=>by rw[c]at e;omega)
  exact⟨t.1,t.2⟩
 ·obtain⟨x,hx,rfl,_⟩:=j z i
  exact⟨(h.sl x hx).1,(l x hx).1⟩
 ·have C:=h.rq f r p
  obtain⟨x,hx,e⟩:=YL.1 C
  have e:=YX e
  obtain⟨a1,a2,_⟩:=PD g h hx
  have B:AL (AW s n) x.num=f:=ce (g.asc n) a1 r (by omega)
  have k:Bj (AL (AW s n) x.num) x.val=false:=by
   rw[B]
   unfold Bj
   rw[Yh (by omega),Yh (by omega),p]
   rfl
  exact YL.2 ⟨_,hm x hx k,Yo e⟩
 ·have hx:x∈Dy v.raws:=hx
  rw[Kt,(Dv v.raws).mem_iff]at hx
  exact h.rw x hx
 ·show Val.mk 10 0 ⟨#[]⟩ [] [] (Cm (Bo (Av s d)) (AW s n) S) (Dy (Dy v.raws))=_
  rw[q,vn]
 ·rw[dC,KJ v]
  simp only[Bc,Cg]
  have:(Dy v.raws).length=v.raws.length:=by rw[Kt];exact(Dv v.raws).length_eq
  omega
 ·rw[WI,KV v]
  simp only[Br,DJ]
  rw[Yj trivial,Yj h.kd]
  omega
termination_by d=>d
theorem bP{ξ ρ:Type}{B:Nat→Option (Lv Nat ξ ρ)}(n:Nat)(e:ξ)(hs:∀i:Nat,1≤i→i<n→B i=some (.nx (i+1)))(he:∀i:Nat,1≤i→n≤i→B i=some (.ex e)):∀(N i:Nat),1≤i→n<i+N→0<N→Ah B N i=some (.inl e)
 |0,i,_,_,h=>absurd h (NP 0)
 |N+1,i,a,b,_=>by
  by_cases c:i<n
  ·rw[Ah,hs i a c]
   exact bP n e hs he N (i+1) (by omega) (by omega) (by omega)
  ·rw[Ah,he i a (by omega)]
theorem WF{v:Val}(h:BM v=false):(v.kind≠11→v.list.length=0)∧(v.kind≠12→v.pairs.length=0)∧(¬(v.kind=7∨v.kind=8)→v.text=⟨#[]⟩)∧(v.kind=10∨v.kind=11∨v.kind=12→v.bits=0):=by
 unfold BM at h
 rw[YS]at h
 refine⟨fun k=>fL fun c=>h (.inl ⟨k,c⟩),fun k=>fL fun c=>h (.inr (.inl ⟨k,c⟩)),fun k=>Decidable.byContradiction fun c=>h (.inr (.inr (.inr (.inl ⟨c,k⟩)))),fun k=>Decidable.byContradiction fun c=>h (.inr (.inr (.inr (.inr ⟨c,?_⟩))))⟩
 omega
def gq(x y:Val):Prop:=x.kind=y.kind∧x.text=y.text∧x.list.length=y.list.length∧x.pairs.length=y.pairs.length∧(x.bits=y.bits∨x.kind=6)
theorem ZwB{s:Scm}{d:Nat}{f:Fld}{x:Val}(z:GdF s f)(y:AR x)(h:B9 (A3 s true d) s true f x=0):(Bj f x=true→x.kind≠10∧x.bits=0∧x.text=⟨#[]⟩∧x.list.length=0∧x.pairs.length=0)∧gq x (Bo (Av s d) f x):=by
 unfold B9 at h
 unfold Bj
 by_cases i:f.card=4
 ·rw[Rt i]
  rw[Yj i]at h⊢
  split at h
  ·cases h
  ·rename_i k
   have n:x.kind=11:=Decidable.byContradiction fun e=>k (.inl e)
   have q:BM x=false:=by cases e:BM x with|true=>exact absurd (.inr e) k|false=>rfl
   obtain⟨_,l,a,b⟩:=WF q
   have l:=l (by omega)
   have a:=a (by omega)
   have b:=b (by omega)
   refine⟨fun c=>⟨by omega,b,a,YX c,l⟩,n,a,?_,l,.inl b⟩
   exact(YC ..).symm
 ·rw[Yh i]at h⊢
  by_cases m:f.card=5
  ·rw[Ra m]
   rw[Yj m]at h⊢
   split at h
   ·cases h
   ·rename_i k
    have n:x.kind=12:=Decidable.byContradiction fun e=>k (.inl e)
    have q:BM x=false:=by cases e:BM x with|true=>exact absurd (.inr e) k|false=>rfl
    obtain⟨j,_,a,b⟩:=WF q
    have j:=j (by omega)
    have a:=a (by omega)
    have b:=b (by omega)
    have P:=bD.1 h
    have o:=z.ky m
    have w:(x.pairs.map fun p=>Pr.mk (BH p.key) (AS (Av s d) f.type p.val))=x.pairs.map fun p=>Pr.mk p.key (AS (Av s d) f.type p.val):=Y1 fun p r=>by rw[pi (v:=p.key) (by have:=(E1 (P.ky p r)).1;omega)]
    refine⟨fun c=>⟨by omega,b,a,j,YX c⟩,n,a,j,?_,.inl b⟩
    rw[w,Tz (g:=fun p=>Pr.mk p.key (AS (Av s d) f.type p.val)) fun _=>rfl]
    show x.pairs.length=((Ca x.pairs).map _).length
    rw[YC]
    exact(nY (qL o (fun p r=>(DR y r).1) P)).length_eq.symm
  ·rw[Yh m]at h⊢
   rw[Rq i m]
   refine⟨fun c=>?_,?_⟩
   ·rw[Yc]at c
    have c:=c.2
    unfold Ld GC at c
    simp only[Yc,YB]at c
    obtain⟨⟨⟨B,t⟩,u⟩,i⟩:=c
    exact⟨by omega,u,i,t.1,t.2.1⟩
   ·by_cases c:f.type.kind=10
    ·obtain⟨d',rfl,ok⟩:=bZ c h
     rw[show AS (Av s (d'+1)) f.type x=Av s (d'+1) f.type.name x from Yj c]
     have n:=ok.kd
     obtain⟨j,l,a,b⟩:=WF ok.ot
     exact⟨n,a (by omega),j (by omega),l (by omega),.inl (b (by omega))⟩
    ·rw[show AS (Av s d) f.type x=BH x from Yh c]
     rcases MP x with e|⟨A,_,e⟩
     ·rw[e];exact⟨rfl,rfl,rfl,rfl,.inl rfl⟩
     ·rw[e];exact⟨rfl,rfl,rfl,rfl,.inr A⟩
theorem Zt5(v:Val)(k:Int)(h:v.slots.length≤4194304):ZB v k=some ((Iv v.slots k).elim (zV,false) fun x=>(x.val,true)):=by
 have w:v.slots.length<4611686018427387904:=by omega
 have f:=HH (B:=PV v k) (N:=Ag) v.slots (fun x=>decide (x.num=k)) (fun i=>((v.slots.getD i Rw.z).val,true)) () (fun i x hx=>by
  have b:=BG hx
  have c:i+1<9223372036854775808:=by have:=(Ye.1 hx).1;omega
  have d:v.slots.getD i Rw.z=x:=by rw[Ym,hx];rfl
  dsimp only[PV,br,ix,wg,vs,Ar,ln,Af,wa,br]
  simp only[w,b,c,d,hx,Yt,Yy,Yd]
  cases decide (x.num=k)<;>rfl) (by dsimp only[PV,br,ix,wg,vs,Ar,ln,Af,wa,br];simp[w]) (AZ (by omega))
 dsimp only[ZB,vz,wg,lr,lc,Aj]
 unfold Iv
 try simp only[w,Yy]
 rw[f,Tf]
 cases e:v.slots.findIdx? fun x=>decide (x.num=k)with
 |none=>rfl
 |some i=>
  have a:=(QH.1 e).1
  simp[Ya a]
def Ln(x y:Raw):Bool:=decide (x.num=y.num)&&(decide (x.wire=y.wire)&&(decide (x.bits=y.bits)&&(decide (x.data=y.data)&&true)))
theorem nN(l:List Raw)(x:Raw)(h:l.length≤4194304):Zz l x=some ((l.countP (Ln x):Nat):Int):=by
 have w:l.length<4611686018427387904:=by omega
 have q:=GU (B:=M6 l x) (N:=Ag) (ρ:=Int) l (fun p=>p.countP (Ln x)) (fun i b=>(b,i)) id (fun i y hy=>by
  have d:=BG hy
  have hi:=(Ye.1 hy).1
  have e:i+1<9223372036854775808:=by omega
  have a:(l.take i).countP (Ln x)≤i:=CP List.countP_le_length (by rw[YP];omega)
  rw[List.countP_append]
  generalize (l.take i).countP (Ln x)=c at a⊢
  have f:c+1<9223372036854775808:=by omega
  dsimp only[M6,br,ix,wg,vs,v2,ln,Af,wa,br]
  rw[List.countP_singleton]
  simp only[d,e,f,hy,Yt,Yy,Yd,show(decide (x.num=y.num)&&(decide (x.wire=y.wire)&&(decide (x.bits=y.bits)&&(decide (x.data=y.data)&&true))))=Ln x y from rfl]
  cases Ln x y<;>simp) (by dsimp only[M6,br,ix,wg,vs,v2,ln,Af,wa,br];simp) (AZ (by omega))
 have q:Ah (M6 l x) Ag (0,0)=some (.inl (l.countP (Ln x))):=q
 dsimp only[Zz,vz,lr,lc,Aj]
 simp[w,q]
theorem ZtN(v n:Val)(o:AR v)(k:AR n)(C:∀x∈v.slots,(Iv n.slots x.num=none∧x.val.kind≠10∧x.val.bits=0∧x.val.text=⟨#[]⟩∧x.val.list.length=0∧x.val.pairs.length=0)∨∃y∈n.slots,Iv n.slots x.num=some y∧gq x.val y.val)(m:n.raws.Perm v.raws):Sq v n=some true:=by
 have u:=CE o
 have t:=CE k
 have I:=u.s
 have J:=t.s
 have z3:=u.r
 have z4:=t.r
 have G:v.slots.length<4611686018427387904:=by omega
 have w2:v.raws.length<4611686018427387904:=by omega
 have H:n.raws.length<4611686018427387904:=by omega
 have r:=bA (B:=PQ v n) (N:=Ag) v.slots (fun _=>false) false () (fun i x hx=>by
  have c:=BG hx
  have d:i+1<9223372036854775808:=by have:=(Ye.1 hx).1;omega
  have hm:=Yk hx
  have e:=Zt5 n x.num (by omega)
  have w:=CE (Gp o hm)
  have p:x.val.list.length<4611686018427387904:=by have:=w.l;omega
  have q:x.val.pairs.length<4611686018427387904:=by have:=w.p;omega
  dsimp only[PQ,br,ix,vy,wg,vs,vg,Ar,ln,Af,cl,wa,Aj,br]
  rcases C x hm with⟨a,f,g,h,j,b⟩|⟨y,hy,a,f,g,h,j,b⟩
  ·rw[a]at e
   simp[c,d,hx,e,p,q,f,g,h,j,b]
  ·rw[a]at e
   have z:=CE (Gp k hy)
   have D:y.val.list.length<4611686018427387904:=by have:=z.l;omega
   have E:y.val.pairs.length<4611686018427387904:=by have:=z.p;omega
   rcases b with b|b<;>simp[c,d,hx,e,p,q,D,E,f,g,h,j,b]<;>simp_all) (by dsimp only[PQ,br,ix,vy,wg,vs,vg,Ar,ln,Af,cl,wa,Aj,br];simp) (AZ (by omega))
 have s:=bA (B:=Qe v n) (N:=Ag) v.raws (fun _=>false) false () (fun i x hx=>by
  have c:=BG hx
  have d:i+1<9223372036854775808:=by have:=(Ye.1 hx).1;omega
  have A:=nN v.raws x (by omega)
  have a:=nN n.raws x (by omega)
  rw[m.countP_eq]at a
  dsimp only[Qe,br,ix,wg,vs,Ar,ln,Af,cl,wa,br]
  simp[c,d,hx,A,a]) (by dsimp only[Qe,br,ix,wg,vs,Ar,ln,Af,cl,wa,br];simp) (AZ (by omega))
 have F:∀{α:Type} (l:List α),(l.any fun _=>false)=false:=fun l=>by induction l<;>simp_all
 rw[F]at r s
 dsimp only[Sq,br,vz,wg,lr,lc,Aj,br]
 have e:=m.length_eq
 simp[G,w2,H,r,s,e]
end Go.Proofs.YtalafnjhcecdpaaGreatDoor
