import Derived.Test.YtjbijbkdiijhaaaGreatZa23
import Derived.Test.YtjbijbkdiijhaaaGreatZa00
namespace Go.Proofs.YtjbijbkdiijhaaaGreat
set_option linter.all false
open Go Go.Eng
mutual
theorem Qr:∀v:Val,cnt v≤2*At (A7 v)+1
 |.mk k b t l p s r=>by
  have a:=Zr8 l
  have c:=ZvF p
  have d:=Zte s
  have f:=Cz (e:=Av) r
  simp only[cnt,A7,At,bk]
  omega
theorem Zr8:∀l:List Val,Bq l≤2*AS (N3 l)
 |[]=>by simp[Bq]
 |v::l=>by
  have a:=Qr v
  have b:=Zr8 l
  simp only[Bq,N3,AS]
  omega
theorem Zy6:∀p:Pr,NJ p≤2*At (Ao p)+2
 |.mk k v=>by
  have a:=Qr k
  have b:=Qr v
  simp only[NJ,Ao,M6]
  omega
theorem ZvF:∀l:List Pr,BO l≤2*AS (Mr l)
 |[]=>by simp[BO]
 |v::l=>by
  have a:=Zy6 v
  have b:=ZvF l
  simp only[BO,Mr,AS]
  omega
theorem ZAs:∀x:Slt,NZ x≤2*At (Aq x)+1
 |.mk n v=>by
  have a:=Qr v
  simp only[NZ,Aq,At,bk]
  omega
theorem Zte:∀l:List Slt,B9 l≤2*AS (Nu l)
 |[]=>by simp[B9]
 |v::l=>by
  have a:=ZAs v
  have b:=Zte l
  simp only[B9,Nu,AS]
  omega
end
theorem tO(v:Val):cnt v=1+v.raws.length+Bq v.list+BO v.pairs+B9 v.slots:=by cases v;simp only[cnt,Val.raws,Val.list,Val.pairs,Val.slots]
theorem Zod(p:Pr):NJ p=cnt p.key+cnt p.val:=by cases p;simp only[NJ,Pr.key,Pr.val]
theorem ZoY(x:Slt):NZ x=cnt x.val:=by cases x;simp only[NZ,Slt.val]
theorem VY:∀a b:List Val,Bq (a++b)=Bq a+Bq b
 |[],b=>by simp[Bq]
 |x::a,b=>by rw[HG,Bq,Bq,VY a b];omega
theorem VX:∀a b:List Pr,BO (a++b)=BO a+BO b
 |[],b=>by simp[BO]
 |x::a,b=>by rw[HG,BO,BO,VX a b];omega
theorem V1:∀a b:List Slt,B9 (a++b)=B9 a+B9 b
 |[],b=>by simp[B9]
 |x::a,b=>by rw[HG,B9,B9,V1 a b];omega
theorem ZMf{v:Val}(h:A2 v):cnt v≤2097153:=by
 have:=Qr v
 rw[Gt]at this
 have h:At (Ag v)≤1048576:=h
 omega
theorem Zso(l:List Val)(i:Nat):Bq (l.take i)≤Bq l:=by
 conv=>rhs;rw[←HJ i l,VY]
 omega
theorem Zua(l:List Pr)(i:Nat):BO (l.take i)≤BO l:=by
 conv=>rhs;rw[←HJ i l,VX]
 omega
theorem Zug(l:List Slt)(i:Nat):B9 (l.take i)≤B9 l:=by
 conv=>rhs;rw[←HJ i l,V1]
 omega
theorem ZAn{l:List Val}{i:Nat}{x:Val}(h:l[i]?=some x):Bq (l.take i)+cnt x≤Bq l:=by
 obtain⟨a,rfl⟩:=Yd.1 h
 have:=Zso l (i+1)
 rw[Y5 a,VY,Bq,Bq]at this
 omega
theorem ZxR{l:List Pr}{i:Nat}{x:Pr}(h:l[i]?=some x):BO (l.take i)+NJ x≤BO l:=by
 obtain⟨a,rfl⟩:=Yd.1 h
 have:=Zua l (i+1)
 rw[Y5 a,VX,BO,BO]at this
 omega
theorem ZBR{l:List Slt}{i:Nat}{x:Slt}(h:l[i]?=some x):B9 (l.take i)+NZ x≤B9 l:=by
 obtain⟨a,rfl⟩:=Yd.1 h
 have:=Zug l (i+1)
 rw[Y5 a,V1,B9,B9]at this
 omega
theorem P2:∀(g:Nat) (v:Val),At (Ag v)<g→A2 v→Jt g v=some (cnt v:Int)
 |0,v,h,_=>by omega
 |g+1,v,h,k=>by
  obtain⟨s1,s2,D,E,F⟩:=CP k
  have y:=ZMf k
  rw[tO]at y
  have q:v.list.length<4611686018427387904:=by omega
  have r:v.pairs.length<4611686018427387904:=by omega
  have s:v.slots.length<4611686018427387904:=by omega
  have z:v.raws.length<4611686018427387904:=by omega
  have A:1+v.raws.length<9223372036854775808:=by omega
  have t:=Ex (B:=R2 v (Jt g)) (N:=Am) (ρ:=Int) v.list (fun p=>((1+v.raws.length+Bq p:Nat):Int)) (fun i b=>(b,i)) id (fun i x hx=>by
   have j:=BI hx
   have l:i+1<9223372036854775808:=by have:=(Yd.1 hx).1;omega
   have hm:=Yk hx
   have e:=P2 g x (by have:=xy hm;omega) (Rn k hm)
   have m:=ZAn hx
   have d:((1+v.raws.length+Bq (v.list.take i):Nat):Int)+(cnt x:Int)=((1+v.raws.length+Bq (v.list.take i++[x]):Nat):Int):=by
    rw[VY,Bq,Bq]
    omega
   have f: -9223372036854775808≤((1+v.raws.length+Bq (v.list.take i):Nat):Int)+(cnt x:Int)∧((1+v.raws.length+Bq (v.list.take i):Nat):Int)+(cnt x:Int)<9223372036854775808:=by omega
   generalize ((1+v.raws.length+Bq (v.list.take i):Nat):Int)=a at d f⊢
   generalize ((1+v.raws.length+Bq (v.list.take i++[x]):Nat):Int)=b at d⊢
   generalize (cnt x:Int)=c at e d f
   dsimp only[R2,TF,br,ix,vz,wg,vs,v2,ln,Ah,cs,wa,wi,An,br]
   simp only[q,j,hx,Yq,Yt,Ya]
   rw[e,Ya,Yj f,Yj l,d]) (by dsimp only[R2,TF,br,ix,vz,wg,vs,v2,ln,Ah,cs,wa,wi,An,br];simp[q]) (A1 (by omega))
  have u:=Ex (B:=RI v (Jt g)) (N:=Am) (ρ:=Int) v.pairs (fun p=>((1+v.raws.length+Bq v.list+BO p:Nat):Int)) (fun i b=>(b,i)) id (fun i x hx=>by
   have j:=BI hx
   have l:i+1<9223372036854775808:=by have:=(Yd.1 hx).1;omega
   have hm:=Yk hx
   have e:=P2 g x.key (by have:=(XC hm).1;omega) (GC k hm).1
   have o:=P2 g x.val (by have:=(XC hm).2;omega) (GC k hm).2
   have m:=ZxR hx
   rw[Zod]at m
   have d:((1+v.raws.length+Bq v.list+BO (v.pairs.take i):Nat):Int)+((cnt x.key:Int)+(cnt x.val:Int))=((1+v.raws.length+Bq v.list+BO (v.pairs.take i++[x]):Nat):Int):=by
    rw[VX,BO,BO,Zod]
    omega
   have f: -9223372036854775808≤((1+v.raws.length+Bq v.list+BO (v.pairs.take i):Nat):Int)+((cnt x.key:Int)+(cnt x.val:Int))∧((1+v.raws.length+Bq v.list+BO (v.pairs.take i):Nat):Int)+((cnt x.key:Int)+(cnt x.val:Int))<9223372036854775808:=by omega
   have n: -9223372036854775808≤(cnt x.key:Int)+(cnt x.val:Int)∧(cnt x.key:Int)+(cnt x.val:Int)<9223372036854775808:=by omega
   generalize ((1+v.raws.length+Bq v.list+BO (v.pairs.take i):Nat):Int)=a at d f⊢
   generalize ((1+v.raws.length+Bq v.list+BO (v.pairs.take i++[x]):Nat):Int)=b at d⊢
   generalize (cnt x.key:Int)=c at e d f n
   generalize (cnt x.val:Int)=C at o d f n
   dsimp only[RI,Tk,br,ix,vz,wg,vs,ln,Ah,cs,wa,wi,An,br]
   simp only[r,j,hx,Yq,Yt,Ya]
   rw[e,Ya,o,Ya,Yj n,Yj f,Yj l,d]) (by dsimp only[RI,Tk,br,ix,vz,wg,vs,ln,Ah,cs,wa,wi,An,br];simp[r]) (A1 (by omega))
  have w:=Ex (B:=Rl v (Jt g)) (N:=Am) (ρ:=Int) v.slots (fun p=>((1+v.raws.length+Bq v.list+BO v.pairs+B9 p:Nat):Int)) (fun i b=>(b,i)) id (fun i x hx=>by
   have j:=BI hx
   have l:i+1<9223372036854775808:=by have:=(Yd.1 hx).1;omega
   have hm:=Yk hx
   have e:=P2 g x.val (by have:=vC hm;omega) (H6 k hm)
   have m:=ZBR hx
   rw[ZoY]at m
   have d:((1+v.raws.length+Bq v.list+BO v.pairs+B9 (v.slots.take i):Nat):Int)+(cnt x.val:Int)=((1+v.raws.length+Bq v.list+BO v.pairs+B9 (v.slots.take i++[x]):Nat):Int):=by
    rw[V1,B9,B9,ZoY]
    omega
   have f: -9223372036854775808≤((1+v.raws.length+Bq v.list+BO v.pairs+B9 (v.slots.take i):Nat):Int)+(cnt x.val:Int)∧((1+v.raws.length+Bq v.list+BO v.pairs+B9 (v.slots.take i):Nat):Int)+(cnt x.val:Int)<9223372036854775808:=by omega
   generalize ((1+v.raws.length+Bq v.list+BO v.pairs+B9 (v.slots.take i):Nat):Int)=a at d f⊢
   generalize ((1+v.raws.length+Bq v.list+BO v.pairs+B9 (v.slots.take i++[x]):Nat):Int)=b at d⊢
   generalize (cnt x.val:Int)=c at e d f
   dsimp only[Rl,Tw,br,ix,vz,wg,vs,ln,Ah,cs,wa,wi,An,br]
   simp only[s,j,hx,Yq,Yt,Ya]
   rw[e,Ya,Yj f,Yj l,d]) (by dsimp only[Rl,Tw,br,ix,vz,wg,vs,ln,Ah,cs,wa,wi,An,br];simp[s]) (A1 (by omega))
  simp only[Bq,BO,B9,G3,id]at t u w
  show UP (Jt g) v=_
  dsimp only[UP,aY,cw,ff,aP,dR,vz,wg,vs,lr,lc,wa,An]
  simp only[z,A,Yt,t,u,w,Ya,CG]
  rw[tO]
theorem ZHr{s:Scm}(hs:At (Ar s)≤1048576)(k:Bool)(n:ByteArray)(v:Val)(b:A2 v):jr s n v k=some (KW s k n v):=by
 have h:=Fr hs
 have e:KX s n=some (A8 s n):=ZE s _ h.ml
 have f:=ZAD hs (A8 s n).1 v k (M4 h _) b
 have g:=P2 Am v (by have i:At (Ag v)≤1048576:=b;exact A1 (by omega)) b
 unfold KW
 dsimp only[jr,gS,br,wg,lr,cl,br]
 rw[e,Ya,f,g]
 cases(A8 s n).2 with
 |false=>simp
 |true=>
  by_cases c:Bf s k 16 (A8 s n).1 v=0
  ·by_cases d:4096<cnt v
   ·have a:(4096:Int)<cnt v:=by omega
    simp[c,d,a]
   ·have a:¬(4096:Int)<cnt v:=by omega
    simp[c,d,a]
  ·simp[c]
theorem ZFV{s:Scm}(hs:At (Ar s)≤1048576)(n:ByteArray)(v:Val)(a:A2 v):j8 s n v=some (KW s true n v):=by
 dsimp only[j8,dV,wg,lr,cl]
 rw[ZHr hs true n v a]
 rfl
end Go.Proofs.YtjbijbkdiijhaaaGreat
namespace Go.Proofs.YtjbijbkdiijhaaaGreat
set_option linter.all false
open Go Go.Eng
theorem Xe{l:List Fld}(h:Dv l l.length):∀(d i:Nat) (a b:Fld),l[i]?=some a→l[i+1+d]?=some b→a.num<b.num
 |0,i,a,b,e,c=>h i a b (Yd.1 c).1 e c
 |d+1,i,a,b,e,c=>by
  have g:=(Yd.1 c).1
  have f:i+1+d<l.length:=by omega
  have j:=Xe h d i a l[i+1+d] e (Ye f)
  have k:=h (i+1+d) l[i+1+d] b (by omega) (Ye f) c
  omega
theorem ZMq{l:List Fld}(h:Dv l l.length){i:Nat}{f:Fld}(a:l[i]?=some f):∀g∈l.take i,g.num≠f.num:=fun g b=>by
 obtain⟨j,c,rfl⟩:=aA.1 b
 have:=Xe h (i-(j+1)) j _ f (Ye (by omega)) (by rw[show j+1+(i-(j+1))=i by omega];exact a)
 omega
def DfL(F:List Fld):Prop:=∀f∈F,IT f∧A2 f.dflt
theorem Zv6(F:List Fld)(k:Int):((BV F k).2=false∧Ba F k=zF)∨((BV F k).2=true∧Ba F k∈F):=by
 unfold Ba BV C4
 cases e:F.find? fun f=>decide (f.num=k)with
 |none=>exact .inl ⟨rfl,rfl⟩
 |some f=>exact .inr ⟨rfl,HI e⟩
def zV:Val:=.mk 0 0 ⟨#[]⟩ [] [] [] []
def Bu(l:List Slt)(k:Int):Option Slt:=l.find? fun x=>decide (x.num=k)
theorem Zn1(l:List Slt)(k:Int):BZ l k=(Bu l k).isSome:=by
 unfold BZ Bu
 cases e:l.find? fun x=>decide (x.num=k)with
 |none=>exact S8.2 (S6.1 e)
 |some x=>refine YU.2 ?_;exact⟨x,HI e,SZ (p:=fun x:Slt=>decide (x.num=k)) e⟩
theorem ZrM{F:List Fld}(h:Dv F F.length){i:Nat}{f:Fld}(a:F[i]?=some f):F=F.take i++f::F.drop (i+1)∧(∀g∈F.take i,g.num≠f.num)∧∀g∈F.drop (i+1),g.num≠f.num:=by
 obtain⟨hi,e⟩:=Yd.1 a
 refine⟨?_,ZMq h a,fun g c=>?_⟩
 ·rw[←e,List.getElem_cons_drop,HJ]
 ·obtain⟨d,b⟩:=YL.1 c
  rw[YZ]at b
  have:=Xe h d i f g a b
  omega
theorem Nh{F:List Fld}(h:Dv F F.length){i:Nat}{f:Fld}(c:F[i]?=some f):BV F f.num=(f,true):=by
 obtain⟨e,b,j⟩:=ZrM h c
 have a:F.find? (fun g=>decide (g.num=f.num))=some f:=by
  rw[e,Z6,S6.2 fun g d=>by simpa using b g d]
  simp
 unfold BV C4
 rw[a]
 rfl
theorem ZGN{s:Scm}(h:∀(i:Nat) (m:Msg),s.messages[i]?=some m→GdM s m)(hs:At (Ar s)≤1048576)(n:ByteArray):Dv (AP s n) (AP s n).length∧DfL (AP s n)∧(AP s n).length≤1048576:=by
 have hl:=M4 (Fr hs) n
 unfold AP C4 at*
 cases e:s.messages.find? fun m=>decide (m.name=n)with
 |none=>exact⟨fun i a b hi=>by simp[zM]at hi,fun f c=>by simp[zM]at c,by simp[zM]⟩
 |some m=>
  rw[e]at hl
  have hm:=HI e
  obtain⟨i,hi⟩:=YL.1 hm
  have g:=h i m hi
  refine⟨g.asc,fun f c=>?_,hl⟩
  obtain⟨j,k⟩:=YL.1 c
  refine⟨(g.df j f k).1,?_⟩
  have d:=C1 (e:=AU) hm
  have l:=C1 (e:=Ay) (show f∈m.fields from c)
  simp only[Ar,At,bk]at hs
  simp only[AU,At,bk]at d
  have e:At (Ag f.dflt)≤At (Ay f):=by
   simp only[Ay,Ag,At,bk]
   omega
  show At (Ag f.dflt)≤1048576
  omega
structure GdF (s:Scm) (f:Fld):Prop where
 en:f.type.kind=9→(Dg s f.type.name).2=true
 ms:f.type.kind=10→(A8 s f.type.name).2=true
 ty:1≤f.type.kind∧f.type.kind≤10
 un:f.union≠⟨#[]⟩→f.card=2
 cd:f.card≠5→1≤f.card∧f.card≤4
 np:f.type.kind=10→f.card≠3
 ky:f.card=5→f.key=1∨f.key=2∨f.key=3∨f.key=4∨f.key=5∨f.key=7
structure GdS (s:Scm):Prop where
 fl:∀(n:ByteArray) (f:Fld),f∈AP s n→GdF s f
 asc:∀n:ByteArray,Dv (AP s n) (AP s n).length
theorem y1{n:Int}{v:Val}(h:EM n v=0):v.kind=n∧CK v=false∧v.text.size≤4096∧Jf n v=true:=by
 unfold EM at h
 by_cases a1:v.kind≠n∨CK v=true
 ·rw[Yj a1]at h;cases h
 ·rw[Ym a1]at h
  by_cases a:4096<v.text.size
  ·rw[Yj a]at h;cases h
  ·rw[Ym a]at h
   cases a3:Jf n v with
   |false=>
    rw[a3]at h
    rw[Ym (by decide)]at h
    split at h<;>cases h
   |true=>
    refine⟨Decidable.not_not.1 fun e=>a1 (.inl e),?_,by omega,rfl⟩
    cases b:CK v with
    |false=>rfl
    |true=>exact absurd (.inr b) a1
theorem Qq{F:List Fld}(h:Dv F F.length){g:Fld}(a:g∈F):BV F g.num=(g,true):=by
 obtain⟨i,hi⟩:=YL.1 a
 exact Nh h hi
theorem ZvN{α:Type}[Inhabited α]{l:List α}{z:α}{p:α→Bool}{x:α}(hx:x∈l)(a:p x=true):(C4 l z p).2=true:=by
 unfold C4
 cases e:l.find? p with
 |none=>exact absurd a (S6.1 e x hx)
 |some y=>rfl
theorem ZNF{s:Scm}(h:∀(i:Nat) (m:Msg),s.messages[i]?=some m→GdM s m)(hs:At (Ar s)≤1048576):GdS s:=by
 refine⟨fun n f a=>?_,fun n=>(ZGN h hs n).1⟩
 unfold AP C4 at a
 cases e:s.messages.find? fun m=>decide (m.name=n)with
 |none=>rw[e]at a;cases a
 |some m=>
  rw[e]at a
  obtain⟨i,hi⟩:=YL.1 (HI e)
  obtain⟨j,g⟩:=YL.1 (show f∈m.fields from a)
  obtain⟨_,c,⟨t1,t2,t3⟩,u⟩:=(h i m hi).df j f g
  refine⟨fun k=>?_,fun k=>?_,t3,u,fun k=>⟨(c.1 k).1,(c.1 k).2.1⟩,fun k=>(t2 k).2,c.2⟩
  ·obtain⟨x,b,d⟩:=t1 k
   exact ZvN b (Yn d)
  ·obtain⟨⟨x,b,d⟩,_⟩:=t2 k
   exact ZvN b (Yn d)
theorem VK{α ξ:Type}{B:Nat→Option (Lv Nat ξ Bool)}{N:Nat}(xs ys:List α)(e:ξ)(hl:xs.length=ys.length)
  (hs:∀(i:Nat) (x y:α),xs[i]?=some x→ys[i]?=some y→∃b:Bool,(b=true↔x=y)∧B i=some (if b=true then .nx (i+1)else .rt false)) (he:B xs.length=some (.ex e)) (hN:xs.length<N):
  Ok (Sum.elim (fun _=>xs=ys) (fun r:Bool=>r=false∧xs≠ys)) (Ak B N 0):=by
 refine BD (fun i:Nat=>i≤xs.length∧∀j:Nat,j<i→xs[j]?=ys[j]?) (fun i:Nat=>xs.length-i) ⟨Cs _,fun j c=>absurd c (Y1 _)⟩ (by omega) fun i hi=>?_
 obtain⟨k,d⟩:=hi
 by_cases h:i<xs.length
 ·have hx:=Ye h
  have hy:=Ye (hl▸h:i<ys.length)
  obtain⟨b,f,g⟩:=hs i _ _ hx hy
  rw[g]
  cases b with
  |true=>
   refine⟨_,rfl,⟨⟨h,fun j c=>?_⟩,by show xs.length-(i+1)<xs.length-i;omega⟩⟩
   by_cases a:j=i
   ·subst a
    rw[hx,hy,f.1 rfl]
   ·exact d j (by omega)
  |false=>
   refine⟨_,rfl,rfl,fun a=>?_⟩
   subst a
   exact absurd (f.2 rfl) (by decide)
 ·have a:i=xs.length:=by omega
  subst a
  rw[he]
  refine⟨_,rfl,List.ext_getElem? fun j=>?_⟩
  by_cases c:j<xs.length
  ·exact d j c
  ·rw[YK (by omega),YK (by omega)]
abbrev Dy{α:Type}(x y:α)(o:Option Bool):Prop:=Ok (fun b:Bool=>b=true↔x=y) o
theorem Dy.no{α:Type}{x y:α}(h:x≠y):Dy x y (some false):=⟨false,rfl,Iff.intro (fun e=>absurd e (by decide)) fun e=>absurd e h⟩
theorem Dy.yes{α:Type}{x y:α}(h:x=y):Dy x y (some true):=⟨true,rfl,Iff.intro (fun _=>h) fun _=>rfl⟩
theorem ZON{a b:Val}:a=b↔a.kind=b.kind∧a.bits=b.bits∧a.text=b.text∧a.list=b.list∧a.pairs=b.pairs∧a.slots=b.slots∧a.raws=b.raws:=by
 cases a
 cases b
 simp only[Val.kind,Val.bits,Val.text,Val.list,Val.pairs,Val.slots,Val.raws,Val.mk.injEq]
theorem ZTu{a b:Pr}:a=b↔a.key=b.key∧a.val=b.val:=by
 cases a
 cases b
 simp only[Pr.key,Pr.val,Pr.mk.injEq]
theorem ZOL{a b:Slt}:a=b↔a.num=b.num∧a.val=b.val:=by
 cases a
 cases b
 simp only[Slt.num,Slt.val,Slt.mk.injEq]
theorem ZPo{a b:Raw}:a=b↔a.num=b.num∧a.wire=b.wire∧a.bits=b.bits∧a.data=b.data:=by
 cases a
 cases b
 simp only[Raw.mk.injEq]
structure SzL (v:Val):Prop where
 l:v.list.length≤4194304
 p:v.pairs.length≤4194304
 s:v.slots.length≤4194304
 r:v.raws.length≤4194304
theorem SzV.l'{v:Val}(h:SzV v):SzL v:=⟨by have:=h.l;omega,by have:=h.p;omega,by have:=h.s;omega,by have:=h.r;omega⟩
theorem Zp3(R:Val→Val→Option Bool)(a b:Val)(L:SzL a)(z:SzL b)(hl:∀x∈a.list,∀y∈b.list,Dy x y (R x y))(M:∀x∈a.pairs,∀y∈b.pairs,Dy x.key y.key (R x.key y.key)∧Dy x.val y.val (R x.val y.val))(hs:∀x∈a.slots,∀y∈b.slots,Dy x.val y.val (R x.val y.val)):Dy a b (SL R a b):=by
 obtain⟨a1,X,a3,a4⟩:=L
 obtain⟨Y,Z,b3,b4⟩:=z
 have F:a.list.length<4611686018427387904:=by omega
 have G:a.pairs.length<4611686018427387904:=by omega
 have H:a.slots.length<4611686018427387904:=by omega
 have I:a.raws.length<4611686018427387904:=by omega
 have k1:b.list.length<4611686018427387904:=by omega
 have k2:b.pairs.length<4611686018427387904:=by omega
 have k3:b.slots.length<4611686018427387904:=by omega
 have k4:b.raws.length<4611686018427387904:=by omega
 have O:a.list.length=b.list.length→Ok (Sum.elim (fun _=>a.list=b.list) (fun r:Bool=>r=false∧a.list≠b.list)) (Ak (Pb a b R) Am 0):=fun e=>VK a.list b.list () e (fun i x y hx hy=>by
  have d:=BI hx
  have g:i+1<9223372036854775808:=by have:=(Yd.1 hx).1;omega
  obtain⟨r,f,k⟩:=hl x (Yk hx) y (Yk hy)
  refine⟨r,k,?_⟩
  dsimp only[Pb,T8,br,ix,vz,wg,vs,AA,ln,Ah,cs,wa,An,br]
  simp only[F,d,hx,hy,Yq,Yt,Ya]
  rw[f]
  cases r<;>simp[g]) (by dsimp only[Pb,T8,br,ix,vz,wg,vs,AA,ln,Ah,cs,wa,An,br];simp[F]) (A1 (by omega))
 have P:a.pairs.length=b.pairs.length→Ok (Sum.elim (fun _=>a.pairs=b.pairs) (fun r:Bool=>r=false∧a.pairs≠b.pairs)) (Ak (OR a b R) Am 0):=fun e=>VK a.pairs b.pairs () e (fun i x y hx hy=>by
  have d:=BI hx
  have g:i+1<9223372036854775808:=by have:=(Yd.1 hx).1;omega
  have q:=BI hy
  have s:a.pairs.getD i Rw.z=x:=by rw[Yg,hx];rfl
  have u:b.pairs.getD i Rw.z=y:=by rw[Yg,hy];rfl
  have v:(0:Int)≤i∧(i:Int)<a.pairs.length:=⟨by omega,d⟩
  have w:(0:Int)≤i∧(i:Int)<b.pairs.length:=⟨by omega,q⟩
  obtain⟨⟨r,f,k⟩,⟨t,p,N⟩⟩:=M x (Yk hx) y (Yk hy)
  refine⟨r&&t,by rw[Yb,k,N,ZTu],?_⟩
  dsimp only[OR,UR,br,ix,AZ,vz,wg,vs,AA,ln,Ah,cs,J2,wa,An,br]
  simp only[G,d,hx,hy,s,u,v,w,YS,Yq,Yt,Ya,Co,D2]
  rw[f,p]
  cases r<;>cases t<;>simp[g]) (by dsimp only[OR,UR,br,ix,AZ,vz,wg,vs,AA,ln,Ah,cs,J2,wa,An,br];simp[G]) (A1 (by omega))
 have Q:a.slots.length=b.slots.length→Ok (Sum.elim (fun _=>a.slots=b.slots) (fun r:Bool=>r=false∧a.slots≠b.slots)) (Ak (O5 a b R) Am 0):=fun e=>VK a.slots b.slots () e (fun i x y hx hy=>by
  have d:=BI hx
  have g:i+1<9223372036854775808:=by have:=(Yd.1 hx).1;omega
  have q:=BI hy
  have s:a.slots.getD i Rw.z=x:=by rw[Yg,hx];rfl
  have u:b.slots.getD i Rw.z=y:=by rw[Yg,hy];rfl
  have v:(0:Int)≤i∧(i:Int)<a.slots.length:=⟨by omega,d⟩
  have w:(0:Int)≤i∧(i:Int)<b.slots.length:=⟨by omega,q⟩
  obtain⟨r,f,k⟩:=hs x (Yk hx) y (Yk hy)
  refine⟨decide (x.num=y.num)&&r,by rw[Yb,YE,k,ZOL],?_⟩
  dsimp only[O5,Uh,br,ix,AZ,vz,wg,vs,AA,ln,Ah,J2,wa,An,br]
  simp only[H,d,hx,hy,s,u,v,w,YS,Yq,Yt,Ya,Co,D2]
  rw[f]
  cases r<;>cases decide (x.num=y.num)<;>simp[g]) (by dsimp only[O5,Uh,br,ix,AZ,vz,wg,vs,AA,ln,Ah,J2,wa,An,br];simp[H]) (A1 (by omega))
 have S:a.raws.length=b.raws.length→Ok (Sum.elim (fun _=>a.raws=b.raws) (fun r:Bool=>r=false∧a.raws≠b.raws)) (Ak (Pf a b R) Am 0):=fun e=>VK a.raws b.raws () e (fun i x y hx hy=>by
  have d:=BI hx
  have g:i+1<9223372036854775808:=by have:=(Yd.1 hx).1;omega
  refine⟨decide (x.num=y.num)&&(decide (x.wire=y.wire)&&(decide (x.bits=y.bits)&&decide (x.data=y.data))),by simp only[Yb,YE,ZPo],?_⟩
  dsimp only[Pf,Up,br,ix,vz,wg,vs,AA,ln,Ah,wa,An,br]
  simp only[I,d,hx,hy,Yq,Yt,Ya,ON]
  cases decide (x.num=y.num)&&(decide (x.wire=y.wire)&&(decide (x.bits=y.bits)&&decide (x.data=y.data)))<;>simp[g]) (by dsimp only[Pf,Up,br,ix,vz,wg,vs,AA,ln,Ah,wa,An,br];simp[I]) (A1 (by omega))
 dsimp only[SL,fy,iE,i7,h9,iB,g8,br,vy,wg,lr,lc,An,br]
 by_cases c:a.kind=b.kind∧a.bits=b.bits∧a.text=b.text∧a.list.length=b.list.length∧a.pairs.length=b.pairs.length∧a.slots.length=b.slots.length∧a.raws.length=b.raws.length
 ·obtain⟨A,B,j,C,D,c6,E⟩:=c
  obtain⟨T,f,l⟩:=O C
  obtain⟨U,p,m⟩:=P D
  obtain⟨V,J,n⟩:=Q c6
  obtain⟨W,K,o⟩:=S E
  simp only[A,B,j,C,D,c6,E,Yq,Y2,SW,Yo,YP,f,p,J,K,Ya]
  cases T with
  |inr y=>
   obtain⟨rfl,l⟩:=l
   exact Dy.no fun h=>l (by rw[h])
  |inl y=>
  cases U with
  |inr y=>
   obtain⟨rfl,m⟩:=m
   exact Dy.no fun h=>m (by rw[h])
  |inl y=>
  cases V with
  |inr y=>
   obtain⟨rfl,n⟩:=n
   exact Dy.no fun h=>n (by rw[h])
  |inl y=>
  cases W with
  |inr y=>
   obtain⟨rfl,o⟩:=o
   exact Dy.no fun h=>o (by rw[h])
  |inl y=>exact Dy.yes (ZON.2 ⟨A,B,j,l,m,n,o⟩)
 ·have z:((((((!decide (a.kind=b.kind))||(!decide (a.bits=b.bits)))||(!decide (a.text=b.text)))||(!decide ((a.list.length:Int)=(b.list.length:Int))))||(!decide ((a.pairs.length:Int)=(b.pairs.length:Int))))||(!decide ((a.slots.length:Int)=(b.slots.length:Int)))||(!decide ((a.raws.length:Int)=(b.raws.length:Int))))=true:=by
   by_cases j:a.text=b.text
   ·simp only[YH,YJ,YQ]
    simp only[j,HN]at c
    omega
   ·simp[j]
  rw[z]
  exact Dy.no fun h=>c (by rw[h];exact⟨rfl,rfl,rfl,rfl,rfl,rfl,rfl⟩)
theorem RS:∀(c:Nat) (a b:Val),At (Ag a)<c→A2 a→A2 b→Dy a b (KZ c a b)
 |0,a,b,h,_,_=>by omega
 |c+1,a,b,h,d,e=>Zp3 (KZ c) a b (CP d).l' (CP e).l'
  (fun x hx y hy=>RS c x y (by have:=xy hx;omega) (Rn d hx) (Rn e hy))
  (fun x hx y hy=>⟨RS c x.key y.key (by have:=(XC hx).1;omega) (GC d hx).1 (GC e hy).1,RS c x.val y.val (by have:=(XC hx).2;omega) (GC d hx).2 (GC e hy).2⟩)
  (fun x hx y hy=>RS c x.val y.val (by have:=vC hx;omega) (H6 d hx) (H6 e hy))
theorem xu{a b:Val}(c:A2 a)(d:A2 b):Dy a b (KZ Am a b):=RS Am a b (by have h:At (Ag a)≤1048576:=c;exact A1 (by omega)) c d
def Dq(v:Val):Val:=if v.kind=6∧HP v.bits.toNat=true then .mk v.kind 9221120237041090560 v.text v.list v.pairs v.slots v.raws else v
def Ca(a b:Val):Int:=if a.kind≠b.kind then BS a.kind b.kind else if a.kind=7∨a.kind=8 then EQ a.text b.text else if a.kind=2∨a.kind=3 then BS (IntKind.u64.wrap (a.bits+9223372036854775808)) (IntKind.u64.wrap (b.bits+9223372036854775808))else if a.kind=6 then BS (GU a.bits.toNat) (GU b.bits.toNat)else BS a.bits b.bits
def IJ(out:List Pr)(p:Pr):Nat:=out.findIdx fun q=>!decide (Ca q.key p.key<0)
def F5(out:List Pr)(p:Pr):List Pr:=out.take (IJ out p)++([p]++out.drop (IJ out p))
def CC(l:List Pr):Nat→List Pr
 |0=>[]
 |i+1=>match l[i]? with
  |some p=>if((l.drop (i+1)).any fun q=>decide (Ca p.key q.key=0))=true then CC l i else F5 (CC l i) p
  |none=>CC l i
def IG(l:List Pr):List Pr:=CC l l.length
def Dl(out:List Raw)(x:Raw):Nat→Nat
 |0=>0
 |k+1=>if x.num<(out.getD k Rw.z).num then Dl out x k else k+1
def insR(out:List Raw)(x:Raw):List Raw:=(out.take (Dl out x out.length)++[x])++out.drop (Dl out x out.length)
def Ck(l:List Raw):List Raw:=l.foldl insR []
def Dp(R:ByteArray→Val→Val)(t:Typ)(v:Val):Val:=if t.kind=10 then R t.name v else Dq v
def Dj(R:ByteArray→Val→Val)(f:Fld)(v:Val):Val:=
 if f.card=4 then .mk 11 0 ⟨#[]⟩ (v.list.map (Dp R f.type)) [] [] []
 else if f.card=5 then .mk 12 0 ⟨#[]⟩ [] (IG (v.pairs.map fun p=>.mk (Dq p.key) (Dp R f.type p.val))) [] []
 else Dp R f.type v
def iX(v:Val):Bool:=decide (1≤v.kind∧v.kind≤9)&&Mm v&&decide (v.bits=0)&&decide (v.text=⟨#[]⟩)
def Da(f:Fld)(v:Val):Bool:=if f.card=4 then decide (v.list.length=0)else if f.card=5 then decide (v.pairs.length=0)else decide (f.card=3)&&iX v
def DV(N:Fld→Val→Val)(F:List Fld)(l:List Slt):List Slt:=F.flatMap fun f=>(l.filter fun x=>decide (x.num=f.num)&&!Da f x.val).map fun x=>.mk f.num (N f x.val)
def B4(s:Scm):Nat→ByteArray→Val→Val
 |0,_,v=>v
 |d+1,n,v=>.mk 10 0 ⟨#[]⟩ [] [] (DV (Dj (B4 s d)) (AP s n) v.slots) (Ck v.raws)
def Mo(l:List Slt):Prop:=l.Pairwise fun a b=>a.num<b.num
theorem WD{F:List Fld}(h:Dv F F.length):F.Pairwise fun a b=>a.num<b.num:=by
 rw[I1]
 intro i j hi d c
 exact Xe h (j-(i+1)) i _ _ (Ye hi) (by rw[show i+1+(j-(i+1))=j by omega];exact Ye d)
theorem Zq7{l:List Slt}(h:l.Pairwise fun a b=>a.num≠b.num)(p:Slt→Bool){x:Slt}(hx:x∈l)(g:p x=true):(l.filter fun y=>decide (y.num=x.num)&&p y)=[x]:=by
 induction l with
 |nil=>cases hx
 |cons y l j=>
  obtain⟨c,f⟩:=Y8.1 h
  rcases Yw.1 hx with e|hx
  ·subst e
   have d:(l.filter fun z=>decide (z.num=x.num)&&p z)=[]:=by
    rw[aB]
    intro z i
    have:=c z i
    simp only[Yb,YE,not_and]
    exact fun e=>absurd e.symm this
   rw[aE,d]
   simp[g]
  ·have:=c x hx
   rw[aE,j f hx]
   simp[this]
theorem ZnX{l:List Slt}(k:Int)(p:Slt→Bool)(h:∀x∈l,x.num=k→p x=false):(l.filter fun y=>decide (y.num=k)&&p y)=[]:=by
 rw[aB]
 intro z a
 simp only[Yb,YE,not_and]
 intro e
 rw[h z a e]
 decide
theorem Zsv:∀{a b:List Slt},Mo a→Mo b→(∀x,x∈a↔x∈b)→a=b
 |[],[],_,_,_=>rfl
 |[],y::b,_,_,h=>absurd ((h y).2 YD) Z9
 |x::a,[],_,_,h=>absurd ((h x).1 YD) Z9
 |x::a,y::b,j,k,h=>by
  obtain⟨a1,g⟩:=Y8.1 j
  obtain⟨f,i⟩:=Y8.1 k
  have e:x=y:=by
   rcases Yw.1 ((h x).1 YD)with e|e
   ·exact e
   ·rcases Yw.1 ((h y).2 YD)with d|d
    ·exact d.symm
    ·have l:=a1 y d
     have m:=f x e
     omega
  subst e
  rw[Zsv g i fun z=>?_]
  constructor
  ·intro c
   rcases Yw.1 ((h z).1 (Yz _ c))with e|e
   ·subst e
    have:=a1 z c
    omega
   ·exact e
  ·intro c
   rcases Yw.1 ((h z).2 (Yz _ c))with e|e
   ·subst e
    have:=f z c
    omega
   ·exact e
theorem PU{α:Type}(f:α→Int)(l:List α):Ce (fun _ x=>f x) l 0=0↔∀x∈l,f x=0:=by
 rw[QT]
 constructor
 ·intro h x hx
  obtain⟨j,a⟩:=YL.1 hx
  exact h j x a
 ·intro h j x a
  exact h x (Yk a)
def Fv(F:List Fld)(a b:Slt):Prop:=¬((Ba F a.num).union=(Ba F b.num).union∧(Ba F b.num).union≠⟨#[]⟩)
theorem Fv.symm{F:List Fld}{a b:Slt}(h:Fv F a b):Fv F b a:=fun⟨e,k⟩=>h ⟨e.symm,by rw[←e]at*;exact k⟩
theorem ow{R:Fld→Val→Int}{F:List Fld}{l:List Slt}{i:Nat}{x:Slt}:FW R F l i x=0↔(BV F x.num).2=true∧(∀y∈l.take i,y.num≠x.num∧Fv F y x)∧R (Ba F x.num) x.val=0:=by
 unfold FW
 cases f:(BV F x.num).2 with
 |false=>simp
 |true=>
  rw[Ym (by decide)]
  by_cases b:BZ (l.take i) x.num=true
  ·rw[Yj b]
   constructor
   ·intro h;cases h
   ·rintro⟨_,h,_⟩
    obtain⟨y,hy,e⟩:=YU.1 b
    exact absurd (Y0 e) (h y hy).1
  ·rw[Ym b]
   have c:∀y∈l.take i,y.num≠x.num:=fun y hy e=>b (YU.2 ⟨y,hy,Yn e⟩)
   by_cases a:KU F (l.take i) (Ba F x.num).union=true
   ·rw[Yj a]
    constructor
    ·intro h;cases h
    ·rintro⟨_,h,_⟩
     unfold KU at a
     rw[Yb,YJ,YQ]at a
     obtain⟨y,hy,e⟩:=YU.1 a.2
     exact absurd ⟨Y0 e,a.1⟩ (h y hy).2
   ·rw[Ym a]
    have d:∀y∈l.take i,Fv F y x:=fun y hy ⟨e,k⟩=>a (by
     unfold KU
     rw[Yb,YJ,YQ]
     exact⟨k,YU.2 ⟨y,hy,Yn e⟩⟩)
    exact⟨fun h=>⟨rfl,fun y hy=>⟨c y hy,d y hy⟩,h⟩,fun h=>h.2.2⟩
theorem Zpa{R:Fld→Val→Int}{F:List Fld}{l:List Slt}:Ce (FW R F l) l 0=0↔(l.Pairwise fun a b=>a.num≠b.num∧Fv F a b)∧∀x∈l,(BV F x.num).2=true∧R (Ba F x.num) x.val=0:=by
 rw[QT,I1]
 constructor
 ·intro h
  refine⟨fun i j hi d c=>?_,fun x hx=>?_⟩
  ·have:=h j _ (Ye d)
   rw[YN,ow]at this
   exact this.2.1 l[i] (YL.2 ⟨i,by rw[Y3,Yj c];exact Ye hi⟩)
  ·obtain⟨j,d⟩:=YL.1 hx
   have:=h j x d
   rw[YN,ow]at this
   exact⟨this.1,this.2.2⟩
 ·rintro⟨g,k⟩ j x d
  rw[YN,ow]
  have hx:=k x (Yk d)
  obtain⟨f,rfl⟩:=Yd.1 d
  refine⟨hx.1,fun y hy=>?_,hx.2⟩
  obtain⟨i,hi⟩:=YL.1 hy
  rw[Y3]at hi
  split at hi
  ·rename_i c
   obtain⟨e,rfl⟩:=Yd.1 hi
   exact g i j e f c
  ·cases hi
structure OkM (s:Scm) (k:Bool) (d:Nat) (m:Msg) (v:Val):Prop where
 kd:v.kind=10
 ot:CK v=false
 pw:v.slots.Pairwise fun a b=>a.num≠b.num∧Fv m.fields a b
 sl:∀x∈v.slots,(BV m.fields x.num).2=true∧Cf (Bf s k d) s k (Ba m.fields x.num) x.val=0
 rq:∀f∈m.fields,f.card=1→BZ v.slots f.num=true
 rw:∀x∈v.raws,Kq s m.fields x=0
theorem td{l:List Slt}{f:Fld}:Iy l f=0↔(f.card=1→BZ l f.num=true):=by
 unfold Iy
 by_cases c:f.card=1
 ·cases h:BZ l f.num<;>simp[c]
 ·simp[c]
theorem ZqA{s:Scm}{k:Bool}{d:Nat}{m:Msg}{v:Val}(h:Bf s k d m v=0):v.kind=10∧CK v=false:=by
 have:¬(v.kind≠10∨CK v=true):=fun c=>by
  cases d<;>(unfold Bf at h;rw[Yj c]at h;cases h)
 refine⟨Decidable.not_not.1 fun e=>this (.inl e),?_⟩
 cases a:CK v with
 |false=>rfl
 |true=>exact absurd (.inr a) this
theorem nf{s:Scm}{k:Bool}{d:Nat}{m:Msg}{v:Val}:Bf s k (d+1) m v=0↔OkM s k d m v:=by
 constructor
 ·intro h
  have g:=ZqA h
  unfold Bf at h
  rw[Ym (fun c=>c.elim (fun e=>e g.1) (fun e=>by rw[g.2]at e;cases e))]at h
  by_cases a:Ce (FW (Cf (Bf s k d) s k) m.fields v.slots) v.slots 0=0
  ·rw[Ym (fun e=>e a)]at h
   by_cases b:Ce (fun _ f=>Iy v.slots f) m.fields 0=0
   ·rw[Ym (fun e=>e b)]at h
    obtain⟨a1,j⟩:=Zpa.1 a
    exact⟨g.1,g.2,a1,j,fun f i=>td.1 ((PU _ _).1 b f i),fun x hx=>(PU _ _).1 h x hx⟩
   ·rw[Yj b]at h;exact absurd h b
  ·rw[Yj a]at h;exact absurd h a
 ·rintro⟨l,n,o,p,q,r⟩
  unfold Bf
  have a:Ce (FW (Cf (Bf s k d) s k) m.fields v.slots) v.slots 0=0:=Zpa.2 ⟨o,p⟩
  have b:Ce (fun _ f=>Iy v.slots f) m.fields 0=0:=(PU _ _).2 fun f i=>td.2 (q f i)
  rw[Ym (fun c=>c.elim (fun e=>e l) (fun e=>by rw[n]at e;cases e)),Ym (fun e=>e a),Ym (fun e=>e b)]
  exact(PU _ _).2 r
theorem w9{E:Val→Int}{key:Int}{k:Bool}{l:List Pr}{i:Nat}{p:Pr}:Mq E key k l i p=0↔EM key p.key=0∧¬(k=true∧((l.take i).any fun q=>KD q.key p.key)=true)∧E p.val=0:=by
 unfold Mq
 by_cases a:EM key p.key=0
 ·rw[Ym (fun e=>e a)]
  by_cases b:k=true∧((l.take i).any fun q=>KD q.key p.key)=true
  ·rw[Yj b]
   exact Iff.intro (fun h=>by cases h) fun h=>absurd b h.2.1
  ·rw[Ym b]
   exact⟨fun h=>⟨a,b,h⟩,fun h=>h.2.2⟩
 ·rw[Yj a]
  exact⟨fun h=>absurd h a,fun h=>absurd h.1 a⟩
theorem nc{s:Scm}{k:Bool}{n:ByteArray}{v:Val}:KW s k n v=0↔(A8 s n).2=true∧OkM s k 15 (A8 s n).1 v∧cnt v≤4096:=by
 rw[←nf]
 unfold KW
 cases b:(A8 s n).2 with
 |false=>simp
 |true=>
  rw[Ym (by decide)]
  by_cases c:Bf s k 16 (A8 s n).1 v=0
  ·rw[Ym (fun e=>e c)]
   by_cases a:4096<cnt v
   ·rw[Yj a]
    exact Iff.intro (fun h=>by cases h) fun h=>by have:=h.2.2;omega
   ·rw[Ym a]
    exact⟨fun _=>⟨rfl,c,by omega⟩,fun _=>rfl⟩
  ·rw[Yj c]
   exact⟨fun h=>absurd h c,fun h=>absurd h.2.1 c⟩
theorem Qd{v:Val}(b:A2 v):∃n:Nat,v.bits=n∧n<18446744073709551616∧v.bits.toNat=n:=by
 obtain⟨n,a⟩:=Int.eq_ofNat_of_zero_le (wP b).1
 exact⟨n,a,by have:=(wP b).2;omega,by rw[a];rfl⟩
theorem sj{v:Val}(h:A2 v):Pu v=some (Dq v):=by
 obtain⟨n,d,f,g⟩:=Qd h
 obtain⟨y,e,a⟩:=yd f
 rw[←d]at e
 unfold Dq
 dsimp only[Pu,XQ,br,wg,lr,AO,br]
 rw[e,g]
 by_cases c:v.kind=6
 ·cases b:HP n with
  |true=>
   rw[b,YE]at a
   simp[c,a]
  |false=>
   rw[b,YQ]at a
   simp[c,a]
 ·simp[c]
theorem ZIn{v:Val}(h:SzV v):jT v=some (iX v):=by
 have a:MN v.kind=some (decide (1≤v.kind)&&decide (v.kind≤9)):=rfl
 dsimp only[jT,bQ,wg,lr,cl,AO]
 rw[a,si h,Ya]
 unfold iX
 rw[aK]
 cases(decide (1≤v.kind)&&decide (v.kind≤9))<;>cases Mm v<;>cases decide (v.bits=0)<;>cases decide (v.text=⟨#[]⟩)<;>rfl
theorem ZU7(f:Fld){v:Val}(h:SzV v):jk f v=some (Da f v):=by
 have d:v.list.length<4611686018427387904:=by have:=h.l;omega
 have e:v.pairs.length<4611686018427387904:=by have:=h.p;omega
 have g:decide ((v.list.length:Int)=0)=decide (v.list.length=0):=decide_eq_decide.2 (by omega)
 have i:decide ((v.pairs.length:Int)=0)=decide (v.pairs.length=0):=decide_eq_decide.2 (by omega)
 unfold Da
 dsimp only[jk,fV,br,vz,wg,lr,AO,An,br]
 rw[ZIn h]
 by_cases b:f.card=4
 ·simp[b,d]
 ·by_cases c:f.card=5
  ·simp[c,e]
  ·by_cases a:f.card=3
   ·simp[a]
   ·simp[a,b,c]
theorem Zxd{a b:Val}(v:1≤a.kind∧a.kind≤9)(g:A2 a)(i:A2 b):PA Am a b=some (Ca a b):=by
 obtain⟨n,s,m,o⟩:=Qd g
 obtain⟨k,r,j,l⟩:=Qd i
 have w:(Am:Nat)=(Am-1)+1:=by have:=ve;omega
 rw[w]
 show Uy (PA (Am-1)) a b=_
 unfold Ca
 dsimp only[Uy,eh,br,wg,lr,cl,cs,br]
 by_cases he:a.kind=b.kind
 ·have a1:¬a.kind=11:=by omega
  have u:¬a.kind=12:=by omega
  have a3:¬a.kind=10:=by omega
  have z:=yX m s
  have t:=yX j r
  rw[←he]at t
  have e:(decide (1≤b.kind)&&decide (b.kind≤9))=true:=by rw[←he];simp[v]
  have q:jC a b=some (if a.kind=7∨a.kind=8 then EQ a.text b.text else if a.kind=2∨a.kind=3 then BS (IntKind.u64.wrap (a.bits+9223372036854775808)) (IntKind.u64.wrap (b.bits+9223372036854775808))else if a.kind=6 then BS (GU a.bits.toNat) (GU b.bits.toNat)else BS a.bits b.bits):=by
   have y:¬a.kind<b.kind:=by omega
   have x:¬b.kind<a.kind:=by omega
   dsimp only[jC,nR,br,wg,lr,cl,br,MN,pz,lr,MJ,Rb,lr]
   simp only[he,e,Ya,YT,Yt,Int.lt_irrefl,Y2,Yo,YP]
   rw[←he]
   by_cases d:a.kind=7∨a.kind=8
   ·have c:(decide (a.kind=7)||decide (a.kind=8))=true:=by simpa using d
    rw[Yj d]
    simp only[c,Yt,Eu]
    unfold EQ
    cases h:BL a.text b.text with
    |true=>simp
    |false=>by_cases f:a.text=b.text<;>simp[f]
   ·have c:(decide (a.kind=7)||decide (a.kind=8))=false:=by simpa using d
    rw[Ym d]
    simp only[c,Yo,YP,Et,z,t,Ya]
    have A:∀a b:Int,(if decide (a<b)=true then some (-1:Int)else if decide (b<a)=true then some 1 else some 0)=some (BS a b):=fun a b=>by
     unfold BS
     by_cases h:a<b
     ·simp[h]
     ·by_cases f:b<a<;>simp[h,f]
    rw[A,o,l,s,r]
    by_cases hs:a.kind=2∨a.kind=3
    ·simp only[hs,Yt]
    ·simp only[hs,YP]
     by_cases p:a.kind=6
     ·simp only[p,Yt]
     ·simp only[p,YP]
  rw[←he]
  simp only[a1,u,a3,Yq,YT,Y2,Yo,YP,q,Ya,ne_eq,OF]
 ·simp only[he,YT,CQ,Yt,ZU2,Ya,ne_eq,L5]
theorem fH{α:Type}{p:α→Bool}:∀{l:List α} {v:Nat},v≤l.length→(∀(j:Nat) (x:α),j<v→l[j]?=some x→p x=false)→(∀x,l[v]?=some x→p x=true)→l.findIdx p=v
 |[],v,h,_,_=>by simp at h;subst h;rfl
 |x::l,0,_,_,a=>by rw[Z7,a x rfl];rfl
 |x::l,v+1,h,b,a=>by
  rw[Z7,b 0 x (by omega) rfl]
  show l.findIdx p+1=v+1
  rw[fH (v:=v) (by simpa using h) (fun j y c hy=>b (j+1) y (by omega) hy) fun y hy=>a y hy]
theorem PN{l:List Pr}:∀{i:Nat} {p:Pr},p∈CC l i→p∈l
 |0,p,h=>by cases h
 |i+1,p,h=>by
  unfold CC at h
  cases e:l[i]? with
  |none=>rw[e]at h;exact PN h
  |some q=>
   rw[e]at h
   dsimp only at h
   split at h
   ·exact PN h
   ·unfold F5 at h
    rcases Fw.1 h with h|h
    ·exact PN (ab h)
    ·rcases Fw.1 h with h|h
     ·rw[Y4.1 h]
      exact Yk e
     ·exact PN (aa h)
theorem Zxy(l:List Pr)(p:Pr):(F5 l p).length=l.length+1:=by
 unfold F5
 rw[Yp,Yp,Yx,Y6]
 simp
 omega
theorem ZpE(l:List Pr):∀i:Nat,(CC l i).length≤i
 |0=>Yf _
 |i+1=>by
  have a:=ZpE l i
  unfold CC
  cases l[i]? with
  |none=>exact S7 a
  |some q=>
   dsimp only
   split
   ·omega
   ·rw[Zxy];omega
theorem Ztn(l:List Pr)(hl:l.length≤4194304)(s:∀p∈l,(1≤p.key.kind∧p.key.kind≤9)∧A2 p.key):jU l=some (IG l):=by
 have u:l.length<4611686018427387904:=by omega
 have T:∀(out:List Pr) (i:Nat) (p:Pr),l[i]?=some p→Ak (NO l out i) Am (true,i+1)=some (.inl (!(l.drop (i+1)).any fun q=>decide (Ca p.key q.key=0))):=by
  intro out i p f
  have hi:=(Yd.1 f).1
  have q:=Ex (B:=NO l out i) (N:=Am) (ρ:=List Pr) (l.drop (i+1)) (fun x=>!x.any fun q=>decide (Ca p.key q.key=0)) (fun j b=>(b,i+1+j)) id (fun j x hx=>by
   rw[YZ]at hx
   have h:((i+1+j:Nat):Int)<l.length:=BI hx
   have m:i+1+j+1<9223372036854775808:=by have:=(Yd.1 hx).1;omega
   have A:l.getD i Rw.z=p:=by rw[Yg,f];rfl
   have C:l.getD (i+1+j) Rw.z=x:=by rw[Yg,hx];rfl
   have D:(0:Int)≤i∧(i:Int)<l.length:=by omega
   have E:(0:Int)≤((i+1+j:Nat):Int)∧((i+1+j:Nat):Int)<l.length:=⟨by omega,h⟩
   have o:=s p (Yk f)
   have e:=Zxd o.1 o.2 (s x (Yk hx)).2
   rw[List.any_append]
   generalize ((l.drop (i+1)).take j).any (fun q=>decide (Ca p.key q.key=0))=t
   dsimp only[NO,T1,br,AZ,vz,vs,v2,ln,Ah,AO,wa,An,br]
   simp only[u,h,A,C,D,E,e,YS,Yq,Yt,Co,D2,Fx,YO]
   rw[Yj m]
   cases t<;>simp[List.any_cons,YI]) (by
   dsimp only[NO,T1,br,AZ,vz,vs,v2,ln,Ah,AO,wa,An,br]
   have g:¬((i+1+(l.drop (i+1)).length:Nat):Int)<l.length:=by rw[Y6];omega
   simp only[u,g,YT,Yo,Yt,YP]
   rfl) (by rw[Y6];exact A1 (by omega))
  exact q
 have U:∀(out:List Pr) (i:Nat) (p:Pr),l[i]?=some p→(∀q∈out,q∈l)→out.length≤4194304→Ak (NG l out i) Am 0=some (.inl (IJ out p)):=by
  intro out i p f Q R
  have hi:=(Yd.1 f).1
  have w2:out.length<4611686018427387904:=by omega
  have A:l.getD i Rw.z=p:=by rw[Yg,f];rfl
  have D:(0:Int)≤i∧(i:Int)<l.length:=by omega
  have q:Ok (Sum.elim (fun y:Nat=>y=IJ out p) No) (Ak (NG l out i) Am 0):=by
   refine BD (fun v:Nat=>v≤out.length∧∀(j:Nat) (x:Pr),j<v→out[j]?=some x→(!decide (Ca x.key p.key<0))=false) (fun v:Nat=>out.length-v) ⟨Cs _,fun j x K=>absurd K (Y1 _)⟩ (A1 (by omega)) fun v S=>?_
   obtain⟨J,w⟩:=S
   by_cases c:v<out.length
   ·have hx:=Ye c
    have hm:=Gh c
    generalize out[v]=x at hx hm
    have h:(v:Int)<out.length:=by omega
    have m:v+1<9223372036854775808:=by omega
    have C:out.getD v Rw.z=x:=by rw[Yg,hx];rfl
    have E:(0:Int)≤v∧(v:Int)<out.length:=by omega
    have r:=s x (Q x hm)
    have e:=Zxd r.1 r.2 (s p (Yk f)).2
    dsimp only[NG,X0,br,AZ,vz,vs,v2,ln,Ah,AO,wa,An,br]
    simp only[w2,h,A,C,D,E,e,YS,Yq,Yt,Co,D2,Fx,YO,Eu]
    by_cases d:Ca x.key p.key<0
    ·rw[Yn d,Yj rfl,Yj m]
     refine⟨_,rfl,⟨⟨by omega,fun j y K hy=>?_⟩,by omega⟩⟩
     by_cases P:j=v
     ·subst P
      rw[hx]at hy
      cases hy
      rw[Yn d];rfl
     ·exact w j y (by omega) hy
    ·rw[Ys d,Ym (by decide)]
     refine⟨_,rfl,?_⟩
     exact(fH J w fun y hy=>by rw[hx]at hy;cases hy;rw[Ys d];rfl).symm
   ·have h:¬(v:Int)<out.length:=by omega
    dsimp only[NG,X0,br,AZ,vz,vs,v2,ln,Ah,AO,wa,An,br]
    simp only[w2,h,YT,Yo,OB,Et,Yt,YP]
    refine⟨_,rfl,?_⟩
    exact(fH J w fun y hy=>by have:=(Yd.1 hy).1;omega).symm
  obtain⟨y,e,a⟩:=q
  cases y with
  |inr y=>exact a.elim
  |inl y=>
   have a:y=IJ out p:=a
   rw[e,a]
 have M:=Ex (B:=R3 l) (N:=Am) (ρ:=List Pr) l (fun p=>CC l p.length) (fun i b=>(b,i)) id (fun i p f=>by
  have h:=BI f
  have hi:=(Yd.1 f).1
  have m:i+1<9223372036854775808:=by omega
  have L:(l.take i).length=i:=by rw[Yx];omega
  have z:(l.take i++[p]).length=i+1:=by rw[Yp,L];rfl
  have hm:=fun q=>@PN l i q
  have n:=ZpE l i
  have hs:CC l (i+1)=if((l.drop (i+1)).any fun q=>decide (Ca p.key q.key=0))=true then CC l i else F5 (CC l i) p:=by
   rw[CC,f]
  rw[L,z,hs]
  unfold F5
  generalize CC l i=out at hm n⊢
  have O:=T out i p f
  have I:=U out i p f hm (by omega)
  have a1:IJ out p≤out.length:=List.findIdx_le_length
  generalize IJ out p=k at I a1⊢
  have F:(out.take k).length+(([p]:List Pr)++out.drop k).length<549755813888:=by rw[Yp,Yx,Y6,HK];omega
  have G:([p]:List Pr).length+(out.drop k).length<549755813888:=by rw[Y6,HK];omega
  have H:(out.take k).length<549755813888:=by rw[Yx];omega
  dsimp only[R3,W0,W1,Wt,Xy,Xv,Zd,Zq,TK,XU,Ty,br,ix,vz,vw,wg,vs,v2,ln,Ah,lc,qc,ar,a0,wa,sL,fl,fz,An,br]
  simp only[u,h,m,O,f,Yq,Yt,Ya,CG,id]
  cases(l.drop (i+1)).any fun q=>decide (Ca p.key q.key=0)with
  |true=>simp
  |false=>
   simp only[CQ,Yt,I,Ya,CG,Bd.c,Bd.vl,a1,Yf,Co,HN,Cs,F,G,H,Nat.sub_zero,Ma,Yo,YP]
   simp[F,G,H,IZ]
   omega) (by dsimp only[R3,W0,W1,Wt,Xy,Xv,Zd,Zq,TK,XU,Ty,br,ix,vz,vw,wg,vs,v2,ln,Ah,lc,qc,ar,a0,wa,sL,fl,fz,An,br];simp[u]) (A1 (by omega))
 rw[show CC l ([]:List Pr).length=[]from rfl]at M
 dsimp only[jU,n9,og,na,m0,vz,vw,lr,lc,fz]
 rw[M]
 rfl
theorem Wn{α β:Type}{e:α→List D}{e':β→List D}{g:β→α}:∀{l:List β},(∀x∈l,At (e (g x))≤At (e' x))→AS ((l.map g).map e)≤AS (l.map e')
 |[],_=>Yf _
 |x::l,h=>by
  have a:=h x YD
  have b:=Wn (l:=l) fun y hy=>h y (Yz _ hy)
  simp only[YV,AS]
  omega
theorem k7{α:Type}(e:α→List D)(p:α→Bool):∀l:List α,AS (l.map e)=AS ((l.filter p).map e)+AS ((l.filter fun x=>!p x).map e)
 |[]=>rfl
 |x::l=>by
  have h:=k7 e p l
  cases c:p x<;>simp only[aE,c,YV,AS,Y2,CQ,Yo,Yt,YP]<;>omega
theorem F0(v:Val):At (Ag v)=rk .i64 v.kind+(rk .u64 v.bits+(v.text.size+(AS (v.list.map A7)+(AS (v.pairs.map Ao)+(AS (v.slots.map Aq)+AS (v.raws.map Av)))))):=by
 simp only[Ag,At,bk]
 omega
theorem LG(k b:Int)(t:ByteArray)(l:List Val)(p:List Pr)(s:List Slt)(r:List Raw):At (Ag (.mk k b t l p s r))=rk .i64 k+(rk .u64 b+(t.size+(AS (l.map A7)+(AS (p.map Ao)+(AS (s.map Aq)+AS (r.map Av)))))):=F0 _
theorem x1(p:Pr):At (Ao p)=At (Ag p.key)+At (Ag p.val):=by
 have e:Ao p=Ag p.key++Ag p.val:=by rw[Ly];rfl
 rw[e,M6]
theorem UZ(x:Slt):At (Aq x)=rk .i64 x.num+At (Ag x.val):=by
 have e:Aq x=D.int .i64 x.num::Ag x.val:=by rw[La];rfl
 rw[e,At,bk]
theorem ZwI(v:Val):At (Ag (Dq v))≤At (Ag v):=by
 unfold Dq
 split
 ·rw[LG,F0 v]
  have h:rk .u64 9221120237041090560=0:=by decide
  rw[h]
  omega
 ·exact Yf _
theorem wb{α:Type}(e:α→List D)(l:List α)(i:Nat):AS ((l.take i).map e)+AS ((l.drop i).map e)=AS (l.map e):=by
 conv=>rhs;rw[←HJ i l,DJ,Gu]
theorem px:∀(l out:List Raw),AS ((l.foldl insR out).map Av)=AS (out.map Av)+AS (l.map Av)
 |[],out=>rfl
 |x::l,out=>by
  rw[OK,px l]
  have h:=wb Av out (Dl out x out.length)
  unfold insR
  simp only[DJ,Gu,YV,D1,AS]
  omega
theorem ph(l:List Pr):∀i:Nat,AS ((CC l i).map Ao)≤AS ((l.take i).map Ao)
 |0=>Yf _
 |i+1=>by
  have a:=ph l i
  unfold CC
  cases e:l[i]? with
  |none=>
   have h:=List.getElem?_eq_none_iff.1 e
   rw[IZ (by omega)]at a⊢
   exact a
  |some q=>
   rw[VI Ao e]
   dsimp only
   split
   ·omega
   ·have h:=wb Ao (CC l i) (IJ (CC l i) q)
    unfold F5
    simp only[DJ,Gu,YV,D1,AS]
    omega
theorem s8{N:Fld→Val→Val}(hN:∀f x,At (Ag (N f x))≤At (Ag x)):∀{F:List Fld} (l:List Slt),(F.Pairwise fun a b=>a.num<b.num)→AS ((DV N F l).map Aq)≤AS (l.map Aq)
 |[],l,_=>by show 0≤_;omega
 |f::F,l,h=>by
  obtain⟨g,i⟩:=Y8.1 h
  have k:=s8 hN (l.filter fun x=>!decide (x.num=f.num)) i
  have e:DV N F (l.filter fun x=>!decide (x.num=f.num))=DV N F l:=by
   unfold DV
   rw[List.flatMap_def,List.flatMap_def]
   congr 1
   refine Er fun o j=>?_
   rw[List.filter_filter]
   congr 1
   refine List.filter_congr fun x _=>?_
   have:=g o j
   by_cases c:x.num=o.num
   ·have d:¬x.num=f.num:=by omega
    simp[d]
   ·simp[c]
  rw[e]at k
  have b:=k7 Aq (fun x=>decide (x.num=f.num)) l
  have a:=k7 Aq (fun x=>!Da f x.val) (l.filter fun x=>decide (x.num=f.num))
  have m:AS (((l.filter fun x=>decide (x.num=f.num)&&!Da f x.val).map fun x=>Slt.mk f.num (N f x.val)).map Aq)≤AS (((l.filter fun x=>decide (x.num=f.num)).filter fun x=>!Da f x.val).map Aq):=by
   rw[List.filter_filter]
   rw[show(l.filter fun x=>decide (x.num=f.num)&&!Da f x.val)=l.filter fun x=>!Da f x.val&&decide (x.num=f.num)from List.filter_congr fun x _=>Bool.and_comm _ _]
   refine Wn fun x hx=>?_
   have hx:=(Es.1 hx).2
   rw[Yb,YE]at hx
   have:=hN f x.val
   rw[UZ,UZ,hx.2]
   exact Nat.add_le_add_left this _
  show AS ((((l.filter fun x=>decide (x.num=f.num)&&!Da f x.val).map fun x=>Slt.mk f.num (N f x.val))++DV N F l).map Aq)≤_
  rw[DJ,Gu]
  omega
theorem l5{R:ByteArray→Val→Val}(a:∀n v,At (Ag (R n v))≤At (Ag v))(t:Typ)(v:Val):At (Ag (Dp R t v))≤At (Ag v):=by
 unfold Dp
 split
 ·exact a _ _
 ·exact ZwI v
theorem ZOB{R:ByteArray→Val→Val}(c:∀n v,At (Ag (R n v))≤At (Ag v))(f:Fld)(v:Val):At (Ag (Dj R f v))≤At (Ag v):=by
 unfold Dj
 split
 ·have a:rk .i64 11=0:=by decide
  have b:rk .u64 0=0:=by decide
  have d:AS ((v.list.map (Dp R f.type)).map A7)≤AS (v.list.map A7):=Wn fun x _=>by rw[Gt,Gt];exact l5 c f.type x
  rw[LG,F0 v]
  simp only[a,b,D1,AS]
  have:(⟨#[]⟩:ByteArray).size=0:=rfl
  omega
 ·split
  ·have a:rk .i64 12=0:=by decide
   have b:rk .u64 0=0:=by decide
   have d:AS ((v.pairs.map fun p=>Pr.mk (Dq p.key) (Dp R f.type p.val)).map Ao)≤AS (v.pairs.map Ao):=Wn fun p _=>by
    rw[x1,x1]
    exact Nat.add_le_add (ZwI p.key) (l5 c f.type p.val)
   have e:=ph (v.pairs.map fun p=>Pr.mk (Dq p.key) (Dp R f.type p.val)) (v.pairs.map fun p=>Pr.mk (Dq p.key) (Dp R f.type p.val)).length
   rw[L6]at e
   rw[LG,F0 v]
   simp only[a,b,D1,AS,IG]
   have:(⟨#[]⟩:ByteArray).size=0:=rfl
   omega
  ·exact l5 c f.type v
theorem tc{s:Scm}(h:∀n:ByteArray,Dv (AP s n) (AP s n).length):∀(d:Nat) (n:ByteArray) (v:Val),At (Ag (B4 s d n v))≤At (Ag v)
 |0,n,v=>Yf _
 |d+1,n,v=>by
  have a:rk .i64 10=0:=by decide
  have b:rk .u64 0=0:=by decide
  have e:=s8 (fun f x=>ZOB (fun n v=>tc h d n v) f x) v.slots (WD (h n))
  have c:=px v.raws []
  rw[B4,LG,F0 v,Ck]
  simp only[a,b,c,D1,AS]
  have:(⟨#[]⟩:ByteArray).size=0:=rfl
  omega
def SN(s:Scm)(R:Scm→Fld→Val→Option Val)(d:Nat):Prop:=∀(f:Fld) (v:Val),GdF s f→A2 v→Cf (Bf s true d) s true f v=0→R s f v=some (Dj (B4 s d) f v)
theorem Ztt{N:Fld→Val→Val}{l:List Slt}(hl:l.Pairwise fun a b=>a.num≠b.num):∀F:List Fld,(DV N F l).length≤F.length
 |[]=>Yf _
 |f::F=>by
  have g:=Ztt (N:=N) hl F
  show(((l.filter fun x=>decide (x.num=f.num)&&!Da f x.val).map fun x=>Slt.mk f.num (N f x.val))++DV N F l).length≤_
  rw[Yp,YG,EX]
  by_cases c:∃x∈l,x.num=f.num∧Da f x.val=false
  ·obtain⟨x,hx,e,d⟩:=c
   have:=Zq7 hl (fun y=>!Da f y.val) hx (by rw[d];rfl)
   rw[←e,this,HK]
   omega
  ·rw[ZnX f.num (fun y=>!Da f y.val) fun x hx e=>by
    cases d:Da f x.val with
    |true=>rfl
    |false=>exact absurd ⟨x,hx,e,d⟩ c,G0]
   omega
theorem Zym(l:List Raw)(x:Raw):(insR l x).length=l.length+1:=by
 unfold insR
 simp only[Yp,Yx,Y6,HK]
 omega
theorem ma:∀(l out:List Raw),(l.foldl insR out).length=out.length+l.length
 |[],out=>rfl
 |x::l,out=>by rw[OK,ma l,Zym,EX];omega
theorem Xh(out:List Raw)(x:Raw):∀k:Nat,Dl out x k≤k
 |0=>Yf _
 |k+1=>by
  have:=Xh out x k
  unfold Dl
  split<;>omega
theorem ZrJ{s:Scm}(hs:At (Ar s)≤1048576)(g:GdS s)(R:Scm→Fld→Val→Option Val)(d:Nat)(Z:SN s R d)(n:ByteArray)(v:Val)(z:A2 v)(h:OkM s true d (A8 s n).1 v):Px R s n v=some (B4 s (d+1) n v):=by
 have G:=CP z
 have V:KX s n=some (A8 s n):=ZE s n (Fr hs).ml
 have ha:=g.asc n
 have hl:(AP s n).length≤1048576:=M4 (Fr hs) n
 have zs:=G.s
 have zr:=G.r
 have L:(AP s n).length<4611686018427387904:=by omega
 have w2:v.slots.length<4611686018427387904:=by omega
 have M:v.raws.length<4611686018427387904:=by omega
 have pw:v.slots.Pairwise fun a b=>a.num≠b.num:=h.pw.imp fun h=>h.1
 have I:=Ex (B:=RP s v R (A8 s n)) (N:=Am) (ρ:=Val) (AP s n) (fun p=>DV (Dj (B4 s d)) p v.slots) (fun i b=>(i,b)) id (fun i f u=>by
  have r:=BI u
  have hi:=(Yd.1 u).1
  have y:i+1<9223372036854775808:=by omega
  have hm:=Yk u
  have J:=Ex (B:=Rv s v R (A8 s n) i f) (N:=Am) (ρ:=Val) v.slots (fun p=>DV (Dj (B4 s d)) ((AP s n).take i) v.slots++(p.filter fun x=>decide (x.num=f.num)&&!Da f x.val).map fun x=>Slt.mk f.num (Dj (B4 s d) f x.val)) (fun i b=>(i,b)) id (fun j x hx=>by
   have H:=BI hx
   have hj:=(Yd.1 hx).1
   have C:j+1<9223372036854775808:=by omega
   have D:v.slots.getD j Rw.z=x:=by rw[Yg,hx];rfl
   have E:(0:Int)≤j∧(j:Int)<v.slots.length:=⟨by omega,H⟩
   have l:=Yk hx
   have W:=ZU7 f (CP (H6 z l))
   have a1:=Ztt (N:=Dj (B4 s d)) pw ((AP s n).take i)
   have w:(((v.slots.take j).filter fun x=>decide (x.num=f.num)&&!Da f x.val).map fun x=>Slt.mk f.num (Dj (B4 s d) f x.val)).length≤4194304:=by
    rw[YG]
    refine D4 (L9 _ _) ?_
    rw[Yx]
    omega
   rw[Yx]at a1
   rw[HF,DJ]
   have a3:(DV (Dj (B4 s d)) ((AP s n).take i) v.slots++((v.slots.take j).filter fun x=>decide (x.num=f.num)&&!Da f x.val).map fun x=>Slt.mk f.num (Dj (B4 s d) f x.val)).length<549755813887:=by rw[Yp];omega
   rw[←D3]
   generalize DV (Dj (B4 s d)) ((AP s n).take i) v.slots++((v.slots.take j).filter fun x=>decide (x.num=f.num)&&!Da f x.val).map (fun x=>Slt.mk f.num (Dj (B4 s d) f x.val))=out at a3⊢
   dsimp only[Rv,WS,WH,W9,Xr,Wo,XN,JJ,Te,TN,Zt,br,ix,AZ,vz,vw,wg,vs,v2,ln,Ah,lc,ap,AO,cs,wa,tw,fl,An,br]
   simp only[w2,H,D,E,hx,W,YS,Yq,Yt,Ya,Co,D2,Fx,YO]
   by_cases c:x.num=f.num
   ·cases F:Da f x.val with
    |true=>simp[c,F,C]
    |false=>
     have ef:Ba (AP s n) x.num=f:=by
      unfold Ba
      rw[c,Qq ha hm]
     have o:=(h.sl x l).2
     rw[show(A8 s n).1.fields=AP s n from rfl,ef]at o
     have X:=Z f x.val (g.fl n f hm) (H6 z l) o
     simp[c,F,C,X,a3]
   ·simp[c,C]) (by dsimp only[Rv,WS,WH,W9,Xr,Wo,XN,JJ,Te,TN,Zt,br,ix,AZ,vz,vw,wg,vs,v2,ln,Ah,lc,ap,AO,cs,wa,tw,fl,An,br];simp[w2]) (A1 (by omega))
  dsimp only[RP,Xm,W6,WM,br,ix,vz,wg,vs,v2,ln,Ah,lc,wa,fl,An,br]
  rw[show(A8 s n).1.fields=AP s n from rfl]
  simp only[L,r,u,Yq,Yt,Ya]
  simp only[List.filter_nil,D1,G1]at J
  rw[J]
  have Y:DV (Dj (B4 s d)) ((AP s n).take i++[f]) v.slots=DV (Dj (B4 s d)) ((AP s n).take i) v.slots++(v.slots.filter fun x=>decide (x.num=f.num)&&!Da f x.val).map fun x=>Slt.mk f.num (Dj (B4 s d) f x.val):=by
   unfold DV
   rw[List.flatMap_append,List.flatMap_cons,List.flatMap_nil,G1]
  simp only[Ya,CG,id,y,Yt,Y]) (by dsimp only[RP,Xm,W6,WM,br,ix,vz,wg,vs,v2,ln,Ah,lc,wa,fl,An,br];rw[show(A8 s n).1.fields=AP s n from rfl];simp[L]) (A1 (by omega))
 have q3:∀out:List Slt,Ak (N4 v R out) Am (0,[])=some (.inl (Ck v.raws)):=fun out=>by
  have q:=Ex (B:=N4 v R out) (N:=Am) (ρ:=Val) v.raws Ck (fun i b=>(i,b)) id (fun i x hx=>by
   have r:=BI hx
   have hi:=(Yd.1 hx).1
   have y:i+1<9223372036854775808:=by omega
   have e:Ck (v.raws.take i++[x])=insR (Ck (v.raws.take i)) x:=by
    unfold Ck
    rw[List.foldl_append]
    rfl
   have a1:(Ck (v.raws.take i)).length≤4194304:=by
    unfold Ck
    rw[ma,Yx]
    simp only[G0]
    omega
   rw[e]
   generalize Ck (v.raws.take i)=c at a1⊢
   have w4:c.length<4611686018427387904:=by omega
   have D:v.raws.getD i Rw.z=x:=by rw[Yg,hx];rfl
   have E:(0:Int)≤i∧(i:Int)<v.raws.length:=⟨by omega,r⟩
   have q4:∀(k N:Nat),k≤c.length→k<N→Ak (RY v R out i c) N (k:Int)=some (.inl ((Dl c x k:Nat):Int)):=by
    intro k
    induction k with
    |zero=>
     intro N _ hN
     obtain⟨N,rfl⟩:∃m,N=m+1:=⟨N-1,by omega⟩
     rw[Ak]
     dsimp only[RY,Wr,br,AZ,vz,wg,vs,vg,ln,Ah,wi,fl,br]
     simp[Dl]
    |succ k A=>
     intro N hk hN
     obtain⟨N,rfl⟩:∃m,N=m+1:=⟨N-1,by omega⟩
     have O:((k+1:Nat):Int)-1=(k:Int):=by omega
     have P:(0:Int)<((k+1:Nat):Int):=by omega
     have Q:(0:Int)≤k∧(k:Int)<c.length:=⟨by omega,by omega⟩
     have S: -9223372036854775808≤(k:Int)∧(k:Int)<9223372036854775808:=by omega
     have A:=A N (by omega) (by omega)
     rw[Ak,Dl]
     dsimp only[RY,Wr,br,AZ,vz,wg,vs,vg,ln,Ah,wi,fl,br]
     simp only[O,P,Q,S,D,E,YS,Yq,Yt,Ya,Eu,Co,D2]
     by_cases t:x.num<(c.getD k Rw.z).num
     ·rw[Yn t,Yj rfl,Yj t]
      exact A
     ·rw[Ys t,Ym (by decide),Ym t]
   have K:=q4 c.length Am (Yf _) (A1 (by omega))
   have w:=Xh c x c.length
   unfold insR
   generalize Dl c x c.length=k at K w⊢
   have T:(c.take k).length<549755813887:=by rw[Yx];omega
   have U:(c.take k++[x]).length+(c.drop k).length<549755813888:=by rw[Yp,Yx,Y6,HK];omega
   dsimp only[N4,Xc,Xl,WV,WB,br,ix,vz,vw,wg,vs,ln,Ah,lc,ap,aq,a0,wa,sL,fl,fz,An,br]
   simp only[M,w4,r,y,K,hx,Yq,Yt,Ya,CG,id,Bd.c,Bd.vl,YS]
   simp[T,U,w]
   exact⟨by omega,by omega,by omega,IZ (by rw[Y6];exact Yf _)⟩) (by dsimp only[N4,Xc,Xl,WV,WB,br,ix,vz,vw,wg,vs,ln,Ah,lc,ap,aq,a0,wa,sL,fl,fz,An,br];simp[M]) (A1 (by omega))
  exact q
 dsimp only[Px,nM,pW,nB,oX,oK,nY,vz,vw,wg,lr,lc,cl,fl,fz,fr]
 rw[V,Ya]
 rw[show DV (Dj (B4 s d)) ([]:List Fld) v.slots=[]from rfl]at I
 rw[I,Ya]
 simp only[CG,id]
 rw[q3,Ya]
 rfl
theorem nL{s:Scm}(hs:At (Ar s)≤1048576)(g:GdS s)(R:Scm→Fld→Val→Option Val)(d:Nat)(f:∀d':Nat,d=d'+1→SN s R d')(t:Typ)(v:Val)(b:A2 v)(h:DR (Bf s true d) s t v=0):KY R s t v=some (Dp (B4 s d) t v):=by
 unfold Dp
 dsimp only[KY,fA,br,wg,lr,cl,cs,br]
 by_cases c:t.kind=10
 ·unfold DR at h
  rw[Yj c]at h
  cases a:(A8 s t.name).2 with
  |false=>rw[a]at h;cases h
  |true=>
   rw[a,Yj rfl]at h
   cases d with
   |zero=>
    unfold Bf at h
    split at h<;>cases h
   |succ d=>
    have e:=ZrJ hs g R d (f d rfl) t.name v b (nf.1 h)
    rw[Yj (Yn c),e,Yj c]
    rfl
 ·rw[Ym (by simp[c]),sj b,Ym c]
  rfl
theorem ZS8{s:Scm}(hs:At (Ar s)≤1048576)(g:GdS s)(R:Scm→Fld→Val→Option Val)(d:Nat)(r:∀d':Nat,d=d'+1→SN s R d')(f:Fld)(v:Val)(D:GdF s f)(c:A2 v)(h:Cf (Bf s true d) s true f v=0):UT R s f v=some (Dj (B4 s d) f v):=by
 have w:=CP c
 have H:=w.l
 have I:=w.p
 have y:v.list.length<4611686018427387904:=by omega
 have w2:v.pairs.length<4611686018427387904:=by omega
 unfold Dj
 unfold Cf at h
 dsimp only[UT,mu,mz,mU,eJ,mo,fS,oR,pt,et,mQ,o7,dx,nS,ox,vz,vw,wg,lr,lc,cl,cs,fl,fz,fr]
 by_cases m:f.card=4
 ·rw[Yj m]at h⊢
  split at h
  ·cases h
  ·rw[PU]at h
   have q:=Ex (B:=RL s f v R) (N:=Am) (ρ:=Val) v.list (fun p=>p.map (Dp (B4 s d) f.type)) (fun i b=>(i,b)) id (fun i x hx=>by
    have n:=BI hx
    have hi:=(Yd.1 hx).1
    have o:i+1<9223372036854775808:=by omega
    have hm:=Yk hx
    have e:=nL hs g R d r f.type x (Rn c hm) (h x hm)
    have a1:((v.list.take i).map (Dp (B4 s d) f.type)).length<549755813887:=by rw[YG,Yx];omega
    rw[DJ]
    generalize (v.list.take i).map (Dp (B4 s d) f.type)=out at a1⊢
    dsimp only[RL,Zm,Ze,N0,br,ix,vz,vw,wg,vs,ln,Ah,lc,ap,cs,wa,tw,fl,An,br]
    simp only[y,n,o,hx,e,a1,Yq,Yt,Ya,YV,D1]) (by dsimp only[RL,Zm,Ze,N0,br,ix,vz,vw,wg,vs,ln,Ah,lc,ap,cs,wa,tw,fl,An,br];simp[y]) (A1 (by omega))
   rw[D1]at q
   rw[Yj (Yn m),q]
   rfl
 ·rw[Ym m]at h⊢
  rw[Ym (by simp[m])]
  by_cases k:f.card=5
  ·rw[Yj k]at h⊢
   split at h
   ·cases h
   ·rw[QT]at h
    have t:∀p∈v.pairs,p.key.kind=f.key∧DR (Bf s true d) s f.type p.val=0:=fun p a=>by
     obtain⟨j,E⟩:=YL.1 a
     have:=h j p E
     rw[w9]at this
     exact⟨(y1 this.1).1,this.2.2⟩
    have F:=D.ky k
    have u:∀p∈v.pairs,Dq p.key=p.key:=fun p a=>by
     unfold Dq
     rw[Ym]
     have:=(t p a).1
     omega
    have q:=Ex (B:=Rq s f v R) (N:=Am) (ρ:=Val) v.pairs (fun l=>l.map fun p=>Pr.mk (Dq p.key) (Dp (B4 s d) f.type p.val)) (fun i b=>(b,i)) id (fun i p a=>by
     have n:=BI a
     have hi:=(Yd.1 a).1
     have o:i+1<9223372036854775808:=by omega
     have hm:=Yk a
     have e:=nL hs g R d r f.type p.val (GC c hm).2 (t p hm).2
     have z:=sj (GC c hm).1
     have a1:((v.pairs.take i).map fun p=>Pr.mk (Dq p.key) (Dp (B4 s d) f.type p.val)).length<549755813887:=by rw[YG,Yx];omega
     rw[DJ]
     generalize (v.pairs.take i).map (fun p=>Pr.mk (Dq p.key) (Dp (B4 s d) f.type p.val))=out at a1⊢
     dsimp only[Rq,WU,XO,X7,br,ix,vz,vw,vs,ln,Ah,lc,ap,cl,cs,wa,du,fl,An,br]
     simp only[w2,n,o,a,e,z,a1,Yq,Yt,Ya,YV,D1]) (by dsimp only[Rq,WU,XO,X7,br,ix,vz,vw,vs,ln,Ah,lc,ap,cl,cs,wa,du,fl,An,br];simp[w2]) (A1 (by omega))
    rw[D1]at q
    have A:=Ztn (v.pairs.map fun p=>Pr.mk (Dq p.key) (Dp (B4 s d) f.type p.val)) (by rw[YG];have:=Cz (e:=Ao) v.pairs;have C:At (Ag v)≤1048576:=c;rw[F0]at C;omega) fun q G=>by
     obtain⟨p,a,rfl⟩:=YW.1 G
     have:=(t p a).1
     refine⟨?_,?_⟩
     ·show 1≤(Dq p.key).kind∧(Dq p.key).kind≤9
      rw[u p a]
      omega
     ·show A2 (Dq p.key)
      rw[u p a]
      exact(GC c a).1
    rw[Yj (Yn k),q,Ya]
    simp only[CG,id]
    rw[A]
    rfl
  ·rw[Ym k]at h⊢
   rw[Ym (by simp[k]),nL hs g R d r f.type v c h]
   rfl
theorem nfH{s:Scm}(hs:At (Ar s)≤1048576)(g:GdS s):∀a d:Nat,d<a→SN s (K2 a) d
 |0,d,h=>by omega
 |a+1,d,h=>fun f v c i b=>ZS8 hs g (K2 a) d (fun d' e=>nfH hs g a d' (by omega)) f v c i b
theorem ZzF{s:Scm}(hs:At (Ar s)≤1048576)(g:GdS s)(n:ByteArray)(v:Val)(a:A2 v)(h:OkM s true 15 (A8 s n).1 v):Px (K2 Am) s n v=some (B4 s 16 n v):=ZrJ hs g _ 15 (nfH hs g Am 15 (A1 (by omega))) n v a h
theorem ZoZ{s:Scm}(hs:At (Ar s)≤1048576)(g:GdS s)(n:ByteArray)(v:Val)(d:A2 v):Ok (fun b:Bool=>b=true↔KW s true n v=0∧v=B4 s 16 n v) (jR s n v):=by
 dsimp only[jR,iW,wg,lr,cl,AO]
 rw[ZFV hs n v d,Ya]
 by_cases c:KW s true n v=0
 ·have i:A2 (B4 s 16 n v):=D4 (tc g.asc 16 n v) d
  obtain⟨b,e,a⟩:=xu d i
  have f:=ZzF hs g n v d (nc.1 c).2.1
  simp[c,e,f,a]
  exact⟨_,rfl,a⟩
 ·exact⟨false,by simp[c],Iff.intro (fun h=>absurd h (by decide)) fun h=>absurd h.1 c⟩
end Go.Proofs.YtjbijbkdiijhaaaGreat
