import Derived.Test.YtbcmdieedjamgaaGreatZe22
import Derived.Test.YtbcmdieedjamgaaGreatZe21
import Derived.Test.YtbcmdieedjamgaaGreatZe00
namespace Go.Proofs.YtbcmdieedjamgaaGreat
set_option linter.all false
open Go Go.Eng
mutual
theorem PR:∀v:Val,cnt v≤2*An (Az v)+1
 |.mk k b t l p s r=>by
  have a:=Zt0 l
  have c:=ZuQ p
  have d:=Zqk s
  have f:=Ce (e:=Av) r
  simp only[cnt,Az,An,bk]
  omega
theorem Zt0:∀l:List Val,Bi l≤2*AE (Nq l)
 |[]=>by simp[Bi]
 |v::l=>by
  have a:=PR v
  have b:=Zt0 l
  simp only[Bi,Nq,AE]
  omega
theorem ZyT:∀p:Pr,Nr p≤2*An (Ap p)+2
 |.mk k v=>by
  have a:=PR k
  have b:=PR v
  simp only[Nr,Ap,MQ]
  omega
theorem ZuQ:∀l:List Pr,BG l≤2*AE (Mm l)
 |[]=>by simp[BG]
 |v::l=>by
  have a:=ZyT v
  have b:=ZuQ l
  simp only[BG,Mm,AE]
  omega
theorem Zws:∀x:Slt,Nm x≤2*An (Aq x)+1
 |.mk n v=>by
  have a:=PR v
  simp only[Nm,Aq,An,bk]
  omega
theorem Zqk:∀l:List Slt,B5 l≤2*AE (M4 l)
 |[]=>by simp[B5]
 |v::l=>by
  have a:=Zws v
  have b:=Zqk l
  simp only[B5,M4,AE]
  omega
end
theorem lu(v:Val):cnt v=1+v.raws.length+Bi v.list+BG v.pairs+B5 v.slots:=by cases v;simp only[cnt,Val.raws,Val.list,Val.pairs,Val.slots]
theorem ZnY(p:Pr):Nr p=cnt p.key+cnt p.val:=by cases p;simp only[Nr,Pr.key,Pr.val]
theorem Znt(x:Slt):Nm x=cnt x.val:=by cases x;simp only[Nm,Slt.val]
theorem TR:∀a b:List Val,Bi (a++b)=Bi a+Bi b
 |[],b=>by simp[Bi]
 |x::a,b=>by rw[HG,Bi,Bi,TR a b];omega
theorem TO:∀a b:List Pr,BG (a++b)=BG a+BG b
 |[],b=>by simp[BG]
 |x::a,b=>by rw[HG,BG,BG,TO a b];omega
theorem TQ:∀a b:List Slt,B5 (a++b)=B5 a+B5 b
 |[],b=>by simp[B5]
 |x::a,b=>by rw[HG,B5,B5,TQ a b];omega
theorem ZQc{v:Val}(h:AO v):cnt v≤2097153:=by
 have:=PR v
 rw[Dc]at this
 have h:An (Ae v)≤1048576:=h
 omega
theorem Ztr(l:List Val)(i:Nat):Bi (l.take i)≤Bi l:=by
 conv=>rhs;rw[←G0 i l,TR]
 omega
theorem Zqz(l:List Pr)(i:Nat):BG (l.take i)≤BG l:=by
 conv=>rhs;rw[←G0 i l,TO]
 omega
theorem Ztg(l:List Slt)(i:Nat):B5 (l.take i)≤B5 l:=by
 conv=>rhs;rw[←G0 i l,TQ]
 omega
theorem Zxk{l:List Val}{i:Nat}{x:Val}(h:l[i]?=some x):Bi (l.take i)+cnt x≤Bi l:=by
 obtain⟨a,rfl⟩:=Yb.1 h
 have:=Ztr l (i+1)
 rw[Y8 a,TR,Bi,Bi]at this
 omega
theorem ZxZ{l:List Pr}{i:Nat}{x:Pr}(h:l[i]?=some x):BG (l.take i)+Nr x≤BG l:=by
 obtain⟨a,rfl⟩:=Yb.1 h
 have:=Zqz l (i+1)
 rw[Y8 a,TO,BG,BG]at this
 omega
theorem Zyq{l:List Slt}{i:Nat}{x:Slt}(h:l[i]?=some x):B5 (l.take i)+Nm x≤B5 l:=by
 obtain⟨a,rfl⟩:=Yb.1 h
 have:=Ztg l (i+1)
 rw[Y8 a,TQ,B5,B5]at this
 omega
theorem PE:∀(g:Nat) (v:Val),An (Ae v)<g→AO v→Jq g v=some (cnt v:Int)
 |0,v,h,_=>by omega
 |g+1,v,h,k=>by
  obtain⟨s1,s2,D,E,F⟩:=CN k
  have y:=ZQc k
  rw[lu]at y
  have q:v.list.length<4611686018427387904:=by omega
  have r:v.pairs.length<4611686018427387904:=by omega
  have s:v.slots.length<4611686018427387904:=by omega
  have z:v.raws.length<4611686018427387904:=by omega
  have A:1+v.raws.length<9223372036854775808:=by omega
  have t:=Dv (B:=Qf v (Jq g)) (N:=Ah) (ρ:=Int) v.list (fun p=>((1+v.raws.length+Bi p:Nat):Int)) (fun i b=>(b,i)) id (fun i x hx=>by
   have j:=Bs hx
   have l:i+1<9223372036854775808:=by have:=(Yb.1 hx).1;omega
   have hm:=Yj hx
   have e:=PE g x (by have:=wj hm;omega) (Qy k hm)
   have m:=Zxk hx
   have d:((1+v.raws.length+Bi (v.list.take i):Nat):Int)+(cnt x:Int)=((1+v.raws.length+Bi (v.list.take i++[x]):Nat):Int):=by
    rw[TR,Bi,Bi]
    omega
   have f: -9223372036854775808≤((1+v.raws.length+Bi (v.list.take i):Nat):Int)+(cnt x:Int)∧((1+v.raws.length+Bi (v.list.take i):Nat):Int)+(cnt x:Int)<9223372036854775808:=by omega
   generalize ((1+v.raws.length+Bi (v.list.take i):Nat):Int)=a at d f⊢
   generalize ((1+v.raws.length+Bi (v.list.take i++[x]):Nat):Int)=b at d⊢
   generalize (cnt x:Int)=c at e d f
   dsimp only[Qf,Zr,br,ix,vz,wg,vs,v2,ln,Af,cs,wa,wi,Aj,br]
   simp only[q,j,hx,Yp,Yt,Ya]
   rw[e,Ya,Yi f,Yi l,d]) (by dsimp only[Qf,Zr,br,ix,vz,wg,vs,v2,ln,Af,cs,wa,wi,Aj,br];simp[q]) (AP (by omega))
  have u:=Dv (B:=Qj v (Jq g)) (N:=Ah) (ρ:=Int) v.pairs (fun p=>((1+v.raws.length+Bi v.list+BG p:Nat):Int)) (fun i b=>(b,i)) id (fun i x hx=>by
   have j:=Bs hx
   have l:i+1<9223372036854775808:=by have:=(Yb.1 hx).1;omega
   have hm:=Yj hx
   have e:=PE g x.key (by have:=(VW hm).1;omega) (EH k hm).1
   have o:=PE g x.val (by have:=(VW hm).2;omega) (EH k hm).2
   have m:=ZxZ hx
   rw[ZnY]at m
   have d:((1+v.raws.length+Bi v.list+BG (v.pairs.take i):Nat):Int)+((cnt x.key:Int)+(cnt x.val:Int))=((1+v.raws.length+Bi v.list+BG (v.pairs.take i++[x]):Nat):Int):=by
    rw[TO,BG,BG,ZnY]
    omega
   have f: -9223372036854775808≤((1+v.raws.length+Bi v.list+BG (v.pairs.take i):Nat):Int)+((cnt x.key:Int)+(cnt x.val:Int))∧((1+v.raws.length+Bi v.list+BG (v.pairs.take i):Nat):Int)+((cnt x.key:Int)+(cnt x.val:Int))<9223372036854775808:=by omega
   have n: -9223372036854775808≤(cnt x.key:Int)+(cnt x.val:Int)∧(cnt x.key:Int)+(cnt x.val:Int)<9223372036854775808:=by omega
   generalize ((1+v.raws.length+Bi v.list+BG (v.pairs.take i):Nat):Int)=a at d f⊢
   generalize ((1+v.raws.length+Bi v.list+BG (v.pairs.take i++[x]):Nat):Int)=b at d⊢
   generalize (cnt x.key:Int)=c at e d f n
   generalize (cnt x.val:Int)=C at o d f n
   dsimp only[Qj,ZI,br,ix,vz,wg,vs,ln,Af,cs,wa,wi,Aj,br]
   simp only[r,j,hx,Yp,Yt,Ya]
   rw[e,Ya,o,Ya,Yi n,Yi f,Yi l,d]) (by dsimp only[Qj,ZI,br,ix,vz,wg,vs,ln,Af,cs,wa,wi,Aj,br];simp[r]) (AP (by omega))
  have w:=Dv (B:=Qe v (Jq g)) (N:=Ah) (ρ:=Int) v.slots (fun p=>((1+v.raws.length+Bi v.list+BG v.pairs+B5 p:Nat):Int)) (fun i b=>(b,i)) id (fun i x hx=>by
   have j:=Bs hx
   have l:i+1<9223372036854775808:=by have:=(Yb.1 hx).1;omega
   have hm:=Yj hx
   have e:=PE g x.val (by have:=rj hm;omega) (If k hm)
   have m:=Zyq hx
   rw[Znt]at m
   have d:((1+v.raws.length+Bi v.list+BG v.pairs+B5 (v.slots.take i):Nat):Int)+(cnt x.val:Int)=((1+v.raws.length+Bi v.list+BG v.pairs+B5 (v.slots.take i++[x]):Nat):Int):=by
    rw[TQ,B5,B5,Znt]
    omega
   have f: -9223372036854775808≤((1+v.raws.length+Bi v.list+BG v.pairs+B5 (v.slots.take i):Nat):Int)+(cnt x.val:Int)∧((1+v.raws.length+Bi v.list+BG v.pairs+B5 (v.slots.take i):Nat):Int)+(cnt x.val:Int)<9223372036854775808:=by omega
   generalize ((1+v.raws.length+Bi v.list+BG v.pairs+B5 (v.slots.take i):Nat):Int)=a at d f⊢
   generalize ((1+v.raws.length+Bi v.list+BG v.pairs+B5 (v.slots.take i++[x]):Nat):Int)=b at d⊢
   generalize (cnt x.val:Int)=c at e d f
   dsimp only[Qe,ZE,br,ix,vz,wg,vs,ln,Af,cs,wa,wi,Aj,br]
   simp only[s,j,hx,Yp,Yt,Ya]
   rw[e,Ya,Yi f,Yi l,d]) (by dsimp only[Qe,ZE,br,ix,vz,wg,vs,ln,Af,cs,wa,wi,Aj,br];simp[s]) (AP (by omega))
  simp only[Bi,BG,B5,GX,id]at t u w
  show R7 (Jq g) v=_
  dsimp only[R7,tW,uj,ry,u2,rD,vz,wg,vs,lr,lc,wa,Aj]
  simp only[z,A,Yt,t,u,w,Ya,CE]
  rw[lu]
theorem ZHE{s:Scm}(hs:An (Al s)≤1048576)(k:Bool)(n:ByteArray)(v:Val)(b:AO v):b5 s n v k=some (KJ s k n v):=by
 have h:=Ft hs
 have e:KX s n=some (AJ s n):=WG s _ h.ml
 have f:=Zys hs (AJ s n).1 v k (MP h _) b
 have g:=PE Ah v (by have i:An (Ae v)≤1048576:=b;exact AP (by omega)) b
 unfold KJ
 dsimp only[b5,q5,br,wg,lr,cl,br]
 rw[e,Ya,f,g]
 cases(AJ s n).2 with
 |false=>simp
 |true=>
  by_cases c:A0 s k 16 (AJ s n).1 v=0
  ·by_cases d:4096<cnt v
   ·have a:(4096:Int)<cnt v:=by omega
    simp[c,d,a]
   ·have a:¬(4096:Int)<cnt v:=by omega
    simp[c,d,a]
  ·simp[c]
theorem ZFV{s:Scm}(hs:An (Al s)≤1048576)(n:ByteArray)(v:Val)(a:AO v):dc s n v=some (KJ s true n v):=by
 dsimp only[dc,ta,wg,lr,cl]
 rw[ZHE hs true n v a]
 rfl
end Go.Proofs.YtbcmdieedjamgaaGreat
namespace Go.Proofs.YtbcmdieedjamgaaGreat
set_option linter.all false
open Go Go.Eng
theorem Vb{l:List Fld}(h:Df l l.length):∀(d i:Nat) (a b:Fld),l[i]?=some a→l[i+1+d]?=some b→a.num<b.num
 |0,i,a,b,e,c=>h i a b (Yb.1 c).1 e c
 |d+1,i,a,b,e,c=>by
  have g:=(Yb.1 c).1
  have f:i+1+d<l.length:=by omega
  have j:=Vb h d i a l[i+1+d] e (Ye f)
  have k:=h (i+1+d) l[i+1+d] b (by omega) (Ye f) c
  omega
theorem ZKW{l:List Fld}(h:Df l l.length){i:Nat}{f:Fld}(a:l[i]?=some f):∀g∈l.take i,g.num≠f.num:=fun g b=>by
 obtain⟨j,c,rfl⟩:=Xk.1 b
 have:=Vb h (i-(j+1)) j _ f (Ye (by omega)) (by rw[show j+1+(i-(j+1))=i by omega];exact a)
 omega
def DfL(F:List Fld):Prop:=∀f∈F,IU f∧AO f.dflt
theorem Ug(F:List Fld)(k:Int):((Bo F k).2=false∧AW F k=zF)∨((Bo F k).2=true∧AW F k∈F):=by
 unfold AW Bo C3
 cases e:F.find? fun f=>decide (f.num=k)with
 |none=>exact .inl ⟨rfl,rfl⟩
 |some f=>exact .inr ⟨rfl,HI e⟩
def zV:Val:=.mk 0 0 ⟨#[]⟩ [] [] [] []
def Ba(l:List Slt)(k:Int):Option Slt:=l.find? fun x=>decide (x.num=k)
theorem ek(l:List Slt)(k:Int):BM l k=(Ba l k).isSome:=by
 unfold BM Ba
 cases e:l.find? fun x=>decide (x.num=k)with
 |none=>exact N6.2 (RE.1 e)
 |some x=>refine YR.2 ?_;exact⟨x,HI e,Ry (p:=fun x:Slt=>decide (x.num=k)) e⟩
theorem Zuu{F:List Fld}(h:Df F F.length){i:Nat}{f:Fld}(a:F[i]?=some f):F=F.take i++f::F.drop (i+1)∧(∀g∈F.take i,g.num≠f.num)∧∀g∈F.drop (i+1),g.num≠f.num:=by
 obtain⟨hi,e⟩:=Yb.1 a
 refine⟨?_,ZKW h a,fun g c=>?_⟩
 ·rw[←e,List.getElem_cons_drop,G0]
 ·obtain⟨d,b⟩:=YJ.1 c
  rw[Y1]at b
  have:=Vb h d i f g a b
  omega
theorem MY{F:List Fld}(h:Df F F.length){i:Nat}{f:Fld}(c:F[i]?=some f):Bo F f.num=(f,true):=by
 obtain⟨e,b,j⟩:=Zuu h c
 have a:F.find? (fun g=>decide (g.num=f.num))=some f:=by
  rw[e,RH,RE.2 fun g d=>by simpa using b g d]
  simp
 unfold Bo C3
 rw[a]
 rfl
theorem ZD1{s:Scm}(h:∀(i:Nat) (m:Msg),s.messages[i]?=some m→GdM s m)(hs:An (Al s)≤1048576)(n:ByteArray):Df (Ax s n) (Ax s n).length∧DfL (Ax s n)∧(Ax s n).length≤1048576:=by
 have hl:=MP (Ft hs) n
 unfold Ax C3 at*
 cases e:s.messages.find? fun m=>decide (m.name=n)with
 |none=>exact⟨fun i a b hi=>by simp[zM]at hi,fun f c=>by simp[zM]at c,by simp[zM]⟩
 |some m=>
  rw[e]at hl
  have hm:=HI e
  obtain⟨i,hi⟩:=YJ.1 hm
  have g:=h i m hi
  refine⟨g.asc,fun f c=>?_,hl⟩
  obtain⟨j,k⟩:=YJ.1 c
  refine⟨(g.df j f k).1,?_⟩
  have d:=Cu (e:=AK) hm
  have l:=Cu (e:=Aw) (show f∈m.fields from c)
  simp only[Al,An,bk]at hs
  simp only[AK,An,bk]at d
  have e:An (Ae f.dflt)≤An (Aw f):=by
   simp only[Aw,Ae,An,bk]
   omega
  show An (Ae f.dflt)≤1048576
  omega
structure GdF (s:Scm) (f:Fld):Prop where
 en:f.type.kind=9→(De s f.type.name).2=true
 ms:f.type.kind=10→(AJ s f.type.name).2=true
 ty:1≤f.type.kind∧f.type.kind≤10
 un:f.union≠⟨#[]⟩→f.card=2
 cd:f.card≠5→1≤f.card∧f.card≤4
 np:f.type.kind=10→f.card≠3
 ky:f.card=5→f.key=1∨f.key=2∨f.key=3∨f.key=4∨f.key=5∨f.key=7
structure GdS (s:Scm):Prop where
 fl:∀(n:ByteArray) (f:Fld),f∈Ax s n→GdF s f
 asc:∀n:ByteArray,Df (Ax s n) (Ax s n).length
theorem SA{n:Int}{v:Val}(h:DX n v=0):v.kind=n∧Cg v=false∧v.text.size≤4096∧I9 n v=true:=by
 unfold DX at h
 by_cases a1:v.kind≠n∨Cg v=true
 ·rw[Yi a1]at h;cases h
 ·rw[Ym a1]at h
  by_cases a:4096<v.text.size
  ·rw[Yi a]at h;cases h
  ·rw[Ym a]at h
   cases a3:I9 n v with
   |false=>
    rw[a3]at h
    rw[Ym (by decide)]at h
    split at h<;>cases h
   |true=>
    refine⟨Decidable.not_not.1 fun e=>a1 (.inl e),?_,by omega,rfl⟩
    cases b:Cg v with
    |false=>rfl
    |true=>exact absurd (.inr b) a1
theorem JC{F:List Fld}(h:Df F F.length){g:Fld}(a:g∈F):Bo F g.num=(g,true):=by
 obtain⟨i,hi⟩:=YJ.1 a
 exact MY h hi
theorem Zs0{α:Type}[Inhabited α]{l:List α}{z:α}{p:α→Bool}{x:α}(hx:x∈l)(a:p x=true):(C3 l z p).2=true:=by
 unfold C3
 cases e:l.find? p with
 |none=>exact absurd a (RE.1 e x hx)
 |some y=>rfl
theorem ZNP{s:Scm}(h:∀(i:Nat) (m:Msg),s.messages[i]?=some m→GdM s m)(hs:An (Al s)≤1048576):GdS s:=by
 refine⟨fun n f a=>?_,fun n=>(ZD1 h hs n).1⟩
 unfold Ax C3 at a
 cases e:s.messages.find? fun m=>decide (m.name=n)with
 |none=>rw[e]at a;cases a
 |some m=>
  rw[e]at a
  obtain⟨i,hi⟩:=YJ.1 (HI e)
  obtain⟨j,g⟩:=YJ.1 (show f∈m.fields from a)
  obtain⟨_,c,⟨t1,t2,t3⟩,u⟩:=(h i m hi).df j f g
  refine⟨fun k=>?_,fun k=>?_,t3,u,fun k=>⟨(c.1 k).1,(c.1 k).2.1⟩,fun k=>(t2 k).2,c.2⟩
  ·obtain⟨x,b,d⟩:=t1 k
   exact Zs0 b (Yn d)
  ·obtain⟨⟨x,b,d⟩,_⟩:=t2 k
   exact Zs0 b (Yn d)
theorem Tz{α ξ:Type}{B:Nat→Option (Lv Nat ξ Bool)}{N:Nat}(xs ys:List α)(e:ξ)(hl:xs.length=ys.length)
  (hs:∀(i:Nat) (x y:α),xs[i]?=some x→ys[i]?=some y→∃b:Bool,(b=true↔x=y)∧B i=some (if b=true then .nx (i+1)else .rt false)) (he:B xs.length=some (.ex e)) (hN:xs.length<N):
  Ok (Sum.elim (fun _=>xs=ys) (fun r:Bool=>r=false∧xs≠ys)) (Ai B N 0):=by
 refine Bt (fun i:Nat=>i≤xs.length∧∀j:Nat,j<i→xs[j]?=ys[j]?) (fun i:Nat=>xs.length-i) ⟨Ck _,fun j c=>absurd c (Y6 _)⟩ (by omega) fun i hi=>?_
 obtain⟨k,d⟩:=hi
 by_cases h:i<xs.length
 ·have hx:=Ye h
  have hy:=Ye (hl▸h:i<ys.length)
  obtain⟨b,f,g⟩:=hs i _ _ hx hy
  rw[g]
  cases b with
  |true=>
   refine⟨_,rfl,⟨⟨h,fun j c=>?_⟩,by show xs.length-(i+1)<xs.length-i;omega⟩⟩
   by_cases a:j=i
   ·subst a
    rw[hx,hy,f.1 rfl]
   ·exact d j (by omega)
  |false=>
   refine⟨_,rfl,rfl,fun a=>?_⟩
   subst a
   exact absurd (f.2 rfl) (by decide)
 ·have a:i=xs.length:=by omega
  subst a
  rw[he]
  refine⟨_,rfl,List.ext_getElem? fun j=>?_⟩
  by_cases c:j<xs.length
  ·exact d j c
  ·rw[YL (by omega),YL (by omega)]
abbrev DJ{α:Type}(x y:α)(o:Option Bool):Prop:=Ok (fun b:Bool=>b=true↔x=y) o
theorem DJ.no{α:Type}{x y:α}(h:x≠y):DJ x y (some false):=⟨false,rfl,Iff.intro (fun e=>absurd e (by decide)) fun e=>absurd e h⟩
theorem DJ.yes{α:Type}{x y:α}(h:x=y):DJ x y (some true):=⟨true,rfl,Iff.intro (fun _=>h) fun _=>rfl⟩
theorem ip{a b:Val}:a=b↔a.kind=b.kind∧a.bits=b.bits∧a.text=b.text∧a.list=b.list∧a.pairs=b.pairs∧a.slots=b.slots∧a.raws=b.raws:=by
 cases a
 cases b
 simp only[Val.kind,Val.bits,Val.text,Val.list,Val.pairs,Val.slots,Val.raws,Val.mk.injEq]
theorem ZUj{a b:Pr}:a=b↔a.key=b.key∧a.val=b.val:=by
 cases a
 cases b
 simp only[Pr.key,Pr.val,Pr.mk.injEq]
theorem Zzv{a b:Slt}:a=b↔a.num=b.num∧a.val=b.val:=by
 cases a
 cases b
 simp only[Slt.num,Slt.val,Slt.mk.injEq]
theorem ZMl{a b:Raw}:a=b↔a.num=b.num∧a.wire=b.wire∧a.bits=b.bits∧a.data=b.data:=by
 cases a
 cases b
 simp only[Raw.mk.injEq]
structure SzL (v:Val):Prop where
 l:v.list.length≤4194304
 p:v.pairs.length≤4194304
 s:v.slots.length≤4194304
 r:v.raws.length≤4194304
theorem SzV.l'{v:Val}(h:SzV v):SzL v:=⟨by have:=h.l;omega,by have:=h.p;omega,by have:=h.s;omega,by have:=h.r;omega⟩
theorem Zph(R:Val→Val→Option Bool)(a b:Val)(L:SzL a)(z:SzL b)(hl:∀x∈a.list,∀y∈b.list,DJ x y (R x y))(M:∀x∈a.pairs,∀y∈b.pairs,DJ x.key y.key (R x.key y.key)∧DJ x.val y.val (R x.val y.val))(hs:∀x∈a.slots,∀y∈b.slots,DJ x.val y.val (R x.val y.val)):DJ a b (Rm R a b):=by
 obtain⟨a1,X,a3,a4⟩:=L
 obtain⟨Y,Z,b3,b4⟩:=z
 have F:a.list.length<4611686018427387904:=by omega
 have G:a.pairs.length<4611686018427387904:=by omega
 have H:a.slots.length<4611686018427387904:=by omega
 have I:a.raws.length<4611686018427387904:=by omega
 have k1:b.list.length<4611686018427387904:=by omega
 have k2:b.pairs.length<4611686018427387904:=by omega
 have k3:b.slots.length<4611686018427387904:=by omega
 have k4:b.raws.length<4611686018427387904:=by omega
 have O:a.list.length=b.list.length→Ok (Sum.elim (fun _=>a.list=b.list) (fun r:Bool=>r=false∧a.list≠b.list)) (Ai (Oy a b R) Ah 0):=fun e=>Tz a.list b.list () e (fun i x y hx hy=>by
  have d:=Bs hx
  have g:i+1<9223372036854775808:=by have:=(Yb.1 hx).1;omega
  obtain⟨r,f,k⟩:=hl x (Yj hx) y (Yj hy)
  refine⟨r,k,?_⟩
  dsimp only[Oy,bj,br,ix,vz,wg,vs,At,ln,Af,cs,wa,Aj,br]
  simp only[F,d,hx,hy,Yp,Yt,Ya]
  rw[f]
  cases r<;>simp[g]) (by dsimp only[Oy,bj,br,ix,vz,wg,vs,At,ln,Af,cs,wa,Aj,br];simp[F]) (AP (by omega))
 have P:a.pairs.length=b.pairs.length→Ok (Sum.elim (fun _=>a.pairs=b.pairs) (fun r:Bool=>r=false∧a.pairs≠b.pairs)) (Ai (ON a b R) Ah 0):=fun e=>Tz a.pairs b.pairs () e (fun i x y hx hy=>by
  have d:=Bs hx
  have g:i+1<9223372036854775808:=by have:=(Yb.1 hx).1;omega
  have q:=Bs hy
  have s:a.pairs.getD i Rw.z=x:=by rw[Yg,hx];rfl
  have u:b.pairs.getD i Rw.z=y:=by rw[Yg,hy];rfl
  have v:(0:Int)≤i∧(i:Int)<a.pairs.length:=⟨by omega,d⟩
  have w:(0:Int)≤i∧(i:Int)<b.pairs.length:=⟨by omega,q⟩
  obtain⟨⟨r,f,k⟩,⟨t,p,N⟩⟩:=M x (Yj hx) y (Yj hy)
  refine⟨r&&t,by rw[Yc,k,N,ZUj],?_⟩
  dsimp only[ON,bl,br,ix,AR,vz,wg,vs,At,ln,Af,cs,JV,wa,Aj,br]
  simp only[G,d,hx,hy,s,u,v,w,YP,Yp,Yt,Ya,Cm,D4]
  rw[f,p]
  cases r<;>cases t<;>simp[g]) (by dsimp only[ON,bl,br,ix,AR,vz,wg,vs,At,ln,Af,cs,JV,wa,Aj,br];simp[G]) (AP (by omega))
 have Q:a.slots.length=b.slots.length→Ok (Sum.elim (fun _=>a.slots=b.slots) (fun r:Bool=>r=false∧a.slots≠b.slots)) (Ai (Ot a b R) Ah 0):=fun e=>Tz a.slots b.slots () e (fun i x y hx hy=>by
  have d:=Bs hx
  have g:i+1<9223372036854775808:=by have:=(Yb.1 hx).1;omega
  have q:=Bs hy
  have s:a.slots.getD i Rw.z=x:=by rw[Yg,hx];rfl
  have u:b.slots.getD i Rw.z=y:=by rw[Yg,hy];rfl
  have v:(0:Int)≤i∧(i:Int)<a.slots.length:=⟨by omega,d⟩
  have w:(0:Int)≤i∧(i:Int)<b.slots.length:=⟨by omega,q⟩
  obtain⟨r,f,k⟩:=hs x (Yj hx) y (Yj hy)
  refine⟨decide (x.num=y.num)&&r,by rw[Yc,YB,k,Zzv],?_⟩
  dsimp only[Ot,aW,br,ix,AR,vz,wg,vs,At,ln,Af,JV,wa,Aj,br]
  simp only[H,d,hx,hy,s,u,v,w,YP,Yp,Yt,Ya,Cm,D4]
  rw[f]
  cases r<;>cases decide (x.num=y.num)<;>simp[g]) (by dsimp only[Ot,aW,br,ix,AR,vz,wg,vs,At,ln,Af,JV,wa,Aj,br];simp[H]) (AP (by omega))
 have S:a.raws.length=b.raws.length→Ok (Sum.elim (fun _=>a.raws=b.raws) (fun r:Bool=>r=false∧a.raws≠b.raws)) (Ai (Oe a b R) Ah 0):=fun e=>Tz a.raws b.raws () e (fun i x y hx hy=>by
  have d:=Bs hx
  have g:i+1<9223372036854775808:=by have:=(Yb.1 hx).1;omega
  refine⟨decide (x.num=y.num)&&(decide (x.wire=y.wire)&&(decide (x.bits=y.bits)&&decide (x.data=y.data))),by simp only[Yc,YB,ZMl],?_⟩
  dsimp only[Oe,aN,br,ix,vz,wg,vs,At,ln,Af,wa,Aj,br]
  simp only[I,d,hx,hy,Yp,Yt,Ya,NW]
  cases decide (x.num=y.num)&&(decide (x.wire=y.wire)&&(decide (x.bits=y.bits)&&decide (x.data=y.data)))<;>simp[g]) (by dsimp only[Oe,aN,br,ix,vz,wg,vs,At,ln,Af,wa,Aj,br];simp[I]) (AP (by omega))
 dsimp only[Rm,rS,wC,wE,yp,wL,xN,br,vy,wg,lr,lc,Aj,br]
 by_cases c:a.kind=b.kind∧a.bits=b.bits∧a.text=b.text∧a.list.length=b.list.length∧a.pairs.length=b.pairs.length∧a.slots.length=b.slots.length∧a.raws.length=b.raws.length
 ·obtain⟨A,B,j,C,D,c6,E⟩:=c
  obtain⟨T,f,l⟩:=O C
  obtain⟨U,p,m⟩:=P D
  obtain⟨V,J,n⟩:=Q c6
  obtain⟨W,K,o⟩:=S E
  simp only[A,B,j,C,D,c6,E,Yp,Y7,RK,Yo,YQ,f,p,J,K,Ya]
  cases T with
  |inr y=>
   obtain⟨rfl,l⟩:=l
   exact DJ.no fun h=>l (by rw[h])
  |inl y=>
  cases U with
  |inr y=>
   obtain⟨rfl,m⟩:=m
   exact DJ.no fun h=>m (by rw[h])
  |inl y=>
  cases V with
  |inr y=>
   obtain⟨rfl,n⟩:=n
   exact DJ.no fun h=>n (by rw[h])
  |inl y=>
  cases W with
  |inr y=>
   obtain⟨rfl,o⟩:=o
   exact DJ.no fun h=>o (by rw[h])
  |inl y=>exact DJ.yes (ip.2 ⟨A,B,j,l,m,n,o⟩)
 ·have z:((((((!decide (a.kind=b.kind))||(!decide (a.bits=b.bits)))||(!decide (a.text=b.text)))||(!decide ((a.list.length:Int)=(b.list.length:Int))))||(!decide ((a.pairs.length:Int)=(b.pairs.length:Int))))||(!decide ((a.slots.length:Int)=(b.slots.length:Int)))||(!decide ((a.raws.length:Int)=(b.raws.length:Int))))=true:=by
   by_cases j:a.text=b.text
   ·simp only[YH,YK,YT]
    simp only[j,HM]at c
    omega
   ·simp[j]
  rw[z]
  exact DJ.no fun h=>c (by rw[h];exact⟨rfl,rfl,rfl,rfl,rfl,rfl,rfl⟩)
theorem Qx:∀(c:Nat) (a b:Val),An (Ae a)<c→AO a→AO b→DJ a b (Jm c a b)
 |0,a,b,h,_,_=>by omega
 |c+1,a,b,h,d,e=>Zph (Jm c) a b (CN d).l' (CN e).l'
  (fun x hx y hy=>Qx c x y (by have:=wj hx;omega) (Qy d hx) (Qy e hy))
  (fun x hx y hy=>⟨Qx c x.key y.key (by have:=(VW hx).1;omega) (EH d hx).1 (EH e hy).1,Qx c x.val y.val (by have:=(VW hx).2;omega) (EH d hx).2 (EH e hy).2⟩)
  (fun x hx y hy=>Qx c x.val y.val (by have:=rj hx;omega) (If d hx) (If e hy))
theorem vG{a b:Val}(c:AO a)(d:AO b):DJ a b (Jm Ah a b):=Qx Ah a b (by have h:An (Ae a)≤1048576:=c;exact AP (by omega)) c d
def Do(v:Val):Val:=if v.kind=6∧Ir v.bits.toNat=true then .mk v.kind 9221120237041090560 v.text v.list v.pairs v.slots v.raws else v
def BX(a b:Val):Int:=if a.kind≠b.kind then BJ a.kind b.kind else if a.kind=7∨a.kind=8 then EO a.text b.text else if a.kind=2∨a.kind=3 then BJ (IntKind.u64.wrap (a.bits+9223372036854775808)) (IntKind.u64.wrap (b.bits+9223372036854775808))else if a.kind=6 then BJ (GQ a.bits.toNat) (GQ b.bits.toNat)else BJ a.bits b.bits
def IK(out:List Pr)(p:Pr):Nat:=out.findIdx fun q=>!decide (BX q.key p.key<0)
def Gb(out:List Pr)(p:Pr):List Pr:=out.take (IK out p)++([p]++out.drop (IK out p))
def CB(l:List Pr):Nat→List Pr
 |0=>[]
 |i+1=>match l[i]? with
  |some p=>if((l.drop (i+1)).any fun q=>decide (BX p.key q.key=0))=true then CB l i else Gb (CB l i) p
  |none=>CB l i
def Io(l:List Pr):List Pr:=CB l l.length
def Dj(out:List Raw)(x:Raw):Nat→Nat
 |0=>0
 |k+1=>if x.num<(out.getD k Rw.z).num then Dj out x k else k+1
def insR(out:List Raw)(x:Raw):List Raw:=(out.take (Dj out x out.length)++[x])++out.drop (Dj out x out.length)
def BV(l:List Raw):List Raw:=l.foldl insR []
def Dq(R:ByteArray→Val→Val)(t:Typ)(v:Val):Val:=if t.kind=10 then R t.name v else Do v
def C7(R:ByteArray→Val→Val)(f:Fld)(v:Val):Val:=
 if f.card=4 then .mk 11 0 ⟨#[]⟩ (v.list.map (Dq R f.type)) [] [] []
 else if f.card=5 then .mk 12 0 ⟨#[]⟩ [] (Io (v.pairs.map fun p=>.mk (Do p.key) (Dq R f.type p.val))) [] []
 else Dq R f.type v
def aD(v:Val):Bool:=decide (1≤v.kind∧v.kind≤9)&&Mc v&&decide (v.bits=0)&&decide (v.text=⟨#[]⟩)
def Cb(f:Fld)(v:Val):Bool:=if f.card=4 then decide (v.list.length=0)else if f.card=5 then decide (v.pairs.length=0)else decide (f.card=3)&&aD v
def CK(N:Fld→Val→Val)(F:List Fld)(l:List Slt):List Slt:=F.flatMap fun f=>(l.filter fun x=>decide (x.num=f.num)&&!Cb f x.val).map fun x=>.mk f.num (N f x.val)
def BF(s:Scm):Nat→ByteArray→Val→Val
 |0,_,v=>v
 |d+1,n,v=>.mk 10 0 ⟨#[]⟩ [] [] (CK (C7 (BF s d)) (Ax s n) v.slots) (BV v.raws)
def F4(l:List Slt):Prop:=l.Pairwise fun a b=>a.num<b.num
def ju(N:Fld→Val→Val)(F:List Fld)(x:Slt):Prop:=(Bo F x.num).2=true∧Cb (AW F x.num) x.val=false∧N (AW F x.num) x.val=x.val
theorem JD{F:List Fld}(h:Df F F.length):F.Pairwise fun a b=>a.num<b.num:=by
 rw[HJ]
 intro i j hi d c
 exact Vb h (j-(i+1)) i _ _ (Ye hi) (by rw[show i+1+(j-(i+1))=j by omega];exact Ye d)
theorem dM{l:List Slt}(h:l.Pairwise fun a b=>a.num≠b.num)(p:Slt→Bool){x:Slt}(hx:x∈l)(g:p x=true):(l.filter fun y=>decide (y.num=x.num)&&p y)=[x]:=by
 induction l with
 |nil=>cases hx
 |cons y l j=>
  obtain⟨c,f⟩:=Y4.1 h
  rcases Yx.1 hx with e|hx
  ·subst e
   have d:(l.filter fun z=>decide (z.num=x.num)&&p z)=[]:=by
    rw[W8]
    intro z i
    have:=c z i
    simp only[Yc,YB,not_and]
    exact fun e=>absurd e.symm this
   rw[Xo,d]
   simp[g]
  ·have:=c x hx
   rw[Xo,j f hx]
   simp[this]
theorem yO{l:List Slt}(k:Int)(p:Slt→Bool)(h:∀x∈l,x.num=k→p x=false):(l.filter fun y=>decide (y.num=k)&&p y)=[]:=by
 rw[W8]
 intro z a
 simp only[Yc,YB,not_and]
 intro e
 rw[h z a e]
 decide
theorem ZtX{N:Fld→Val→Val}{F:List Fld}{l:List Slt}{z:Slt}:z∈CK N F l↔∃f∈F,∃x∈l,x.num=f.num∧Cb f x.val=false∧z=.mk f.num (N f x.val):=by
 unfold CK
 rw[N9]
 constructor
 ·rintro⟨f,c,h⟩
  obtain⟨x,hx,rfl⟩:=YV.1 h
  obtain⟨b,a⟩:=Du.1 hx
  simp only[Yc,YB,YK]at a
  exact⟨f,c,x,b,a.1,a.2,rfl⟩
 ·rintro⟨f,c,x,hx,b,a,rfl⟩
  exact⟨f,c,YV.2 ⟨x,Du.2 ⟨hx,by simp[b,a]⟩,rfl⟩⟩
theorem Zsg{N:Fld→Val→Val}:∀{F:List Fld} {l:List Slt},(F.Pairwise fun a b=>a.num<b.num)→(l.Pairwise fun a b=>a.num≠b.num)→F4 (CK N F l)
 |[],l,_,_=>by unfold CK F4;simp
 |f::F,l,h,hl=>by
  obtain⟨i,j⟩:=Y4.1 h
  have o:=Zsg (N:=N) (l:=l) j hl
  show F4 ((l.filter fun x=>decide (x.num=f.num)&&!Cb f x.val).map (fun x=>Slt.mk f.num (N f x.val))++CK N F l)
  unfold F4
  rw[NT]
  refine⟨?_,o,fun a k b m=>?_⟩
  ·rw[W5]
   by_cases c:∃x∈l,x.num=f.num∧Cb f x.val=false
   ·obtain⟨x,hx,e,d⟩:=c
    have:=dM hl (fun y=>!Cb f y.val) hx (by rw[d];rfl)
    rw[←e,this]
    exact LR _ _
   ·rw[yO f.num (fun y=>!Cb f y.val) fun x hx e=>by
     cases d:Cb f x.val with
     |true=>rfl
     |false=>exact absurd ⟨x,hx,e,d⟩ c]
    exact List.Pairwise.nil
  ·obtain⟨x,_,rfl⟩:=YV.1 k
   obtain⟨g,n,y,_,_,_,rfl⟩:=ZtX.1 m
   exact i g n
theorem e9:∀{a b:List Slt},F4 a→F4 b→(∀x,x∈a↔x∈b)→a=b
 |[],[],_,_,_=>rfl
 |[],y::b,_,_,h=>absurd ((h y).2 Yz) Xn
 |x::a,[],_,_,h=>absurd ((h x).1 Yz) Xn
 |x::a,y::b,j,k,h=>by
  obtain⟨a1,g⟩:=Y4.1 j
  obtain⟨f,i⟩:=Y4.1 k
  have e:x=y:=by
   rcases Yx.1 ((h x).1 Yz)with e|e
   ·exact e
   ·rcases Yx.1 ((h y).2 Yz)with d|d
    ·exact d.symm
    ·have l:=a1 y d
     have m:=f x e
     omega
  subst e
  rw[e9 g i fun z=>?_]
  constructor
  ·intro c
   rcases Yx.1 ((h z).1 (Yw _ c))with e|e
   ·subst e
    have:=a1 z c
    omega
   ·exact e
  ·intro c
   rcases Yx.1 ((h z).2 (Yw _ c))with e|e
   ·subst e
    have:=f z c
    omega
   ·exact e
theorem ZMW{N:Fld→Val→Val}{F:List Fld}(h:Df F F.length){l:List Slt}(k:l.Pairwise fun a b=>a.num≠b.num)(e:l=CK N F l):F4 l∧∀x∈l,ju N F x:=by
 refine⟨e▸Zsg (JD h) k,fun z g=>?_⟩
 have i:=g
 rw[e]at g
 obtain⟨f,m,x,hx,c,n,j⟩:=ZtX.1 g
 have p:z.num=x.num:=by rw[j,c];rfl
 have d:x=z:=by
  have o:=dM k (fun _=>true) hx rfl
  have hm:z∈l.filter fun y=>decide (y.num=x.num)&&true:=Du.2 ⟨i,by simp[p]⟩
  rw[o]at hm
  exact(Y3.1 hm).symm
 subst d
 have ef:AW F x.num=f:=by
  unfold AW
  rw[c,JC h m]
 refine⟨by rw[c,JC h m],by rw[ef];exact n,?_⟩
 rw[ef]
 have:=congrArg Slt.val j
 exact this.symm
theorem K6{α:Type}(f:α→Int)(l:List α):B1 (fun _ x=>f x) l 0=0↔∀x∈l,f x=0:=by
 rw[Li]
 constructor
 ·intro h x hx
  obtain⟨j,a⟩:=YJ.1 hx
  exact h j x a
 ·intro h j x a
  exact h x (Yj a)
def Ds(F:List Fld)(a b:Slt):Prop:=¬((AW F a.num).union=(AW F b.num).union∧(AW F b.num).union≠⟨#[]⟩)
theorem Ds.symm{F:List Fld}{a b:Slt}(h:Ds F a b):Ds F b a:=fun⟨e,k⟩=>h ⟨e.symm,by rw[←e]at*;exact k⟩
theorem gU{R:Fld→Val→Int}{F:List Fld}{l:List Slt}{i:Nat}{x:Slt}:F2 R F l i x=0↔(Bo F x.num).2=true∧(∀y∈l.take i,y.num≠x.num∧Ds F y x)∧R (AW F x.num) x.val=0:=by
 unfold F2
 cases f:(Bo F x.num).2 with
 |false=>simp
 |true=>
  rw[Ym (by decide)]
  by_cases b:BM (l.take i) x.num=true
  ·rw[Yi b]
   constructor
   ·intro h;cases h
   ·rintro⟨_,h,_⟩
    obtain⟨y,hy,e⟩:=YR.1 b
    exact absurd (YZ e) (h y hy).1
  ·rw[Ym b]
   have c:∀y∈l.take i,y.num≠x.num:=fun y hy e=>b (YR.2 ⟨y,hy,Yn e⟩)
   by_cases a:Kw F (l.take i) (AW F x.num).union=true
   ·rw[Yi a]
    constructor
    ·intro h;cases h
    ·rintro⟨_,h,_⟩
     unfold Kw at a
     rw[Yc,YK,YT]at a
     obtain⟨y,hy,e⟩:=YR.1 a.2
     exact absurd ⟨YZ e,a.1⟩ (h y hy).2
   ·rw[Ym a]
    have d:∀y∈l.take i,Ds F y x:=fun y hy ⟨e,k⟩=>a (by
     unfold Kw
     rw[Yc,YK,YT]
     exact⟨k,YR.2 ⟨y,hy,Yn e⟩⟩)
    exact⟨fun h=>⟨rfl,fun y hy=>⟨c y hy,d y hy⟩,h⟩,fun h=>h.2.2⟩
theorem Znl{R:Fld→Val→Int}{F:List Fld}{l:List Slt}:B1 (F2 R F l) l 0=0↔(l.Pairwise fun a b=>a.num≠b.num∧Ds F a b)∧∀x∈l,(Bo F x.num).2=true∧R (AW F x.num) x.val=0:=by
 rw[Li,HJ]
 constructor
 ·intro h
  refine⟨fun i j hi d c=>?_,fun x hx=>?_⟩
  ·have:=h j _ (Ye d)
   rw[YN,gU]at this
   exact this.2.1 l[i] (YJ.2 ⟨i,by rw[Y2,Yi c];exact Ye hi⟩)
  ·obtain⟨j,d⟩:=YJ.1 hx
   have:=h j x d
   rw[YN,gU]at this
   exact⟨this.1,this.2.2⟩
 ·rintro⟨g,k⟩ j x d
  rw[YN,gU]
  have hx:=k x (Yj d)
  obtain⟨f,rfl⟩:=Yb.1 d
  refine⟨hx.1,fun y hy=>?_,hx.2⟩
  obtain⟨i,hi⟩:=YJ.1 hy
  rw[Y2]at hi
  split at hi
  ·rename_i c
   obtain⟨e,rfl⟩:=Yb.1 hi
   exact g i j e f c
  ·cases hi
structure OkM (s:Scm) (k:Bool) (d:Nat) (m:Msg) (v:Val):Prop where
 kd:v.kind=10
 ot:Cg v=false
 pw:v.slots.Pairwise fun a b=>a.num≠b.num∧Ds m.fields a b
 sl:∀x∈v.slots,(Bo m.fields x.num).2=true∧BR (A0 s k d) s k (AW m.fields x.num) x.val=0
 rq:∀f∈m.fields,f.card=1→BM v.slots f.num=true
 rw:∀x∈v.raws,KM s m.fields x=0
theorem lz{l:List Slt}{f:Fld}:II l f=0↔(f.card=1→BM l f.num=true):=by
 unfold II
 by_cases c:f.card=1
 ·cases h:BM l f.num<;>simp[c]
 ·simp[c]
theorem ZpO{s:Scm}{k:Bool}{d:Nat}{m:Msg}{v:Val}(h:A0 s k d m v=0):v.kind=10∧Cg v=false:=by
 have:¬(v.kind≠10∨Cg v=true):=fun c=>by
  cases d<;>(unfold A0 at h;rw[Yi c]at h;cases h)
 refine⟨Decidable.not_not.1 fun e=>this (.inl e),?_⟩
 cases a:Cg v with
 |false=>rfl
 |true=>exact absurd (.inr a) this
theorem Va{s:Scm}{k:Bool}{d:Nat}{m:Msg}{v:Val}:A0 s k (d+1) m v=0↔OkM s k d m v:=by
 constructor
 ·intro h
  have g:=ZpO h
  unfold A0 at h
  rw[Ym (fun c=>c.elim (fun e=>e g.1) (fun e=>by rw[g.2]at e;cases e))]at h
  by_cases a:B1 (F2 (BR (A0 s k d) s k) m.fields v.slots) v.slots 0=0
  ·rw[Ym (fun e=>e a)]at h
   by_cases b:B1 (fun _ f=>II v.slots f) m.fields 0=0
   ·rw[Ym (fun e=>e b)]at h
    obtain⟨a1,j⟩:=Znl.1 a
    exact⟨g.1,g.2,a1,j,fun f i=>lz.1 ((K6 _ _).1 b f i),fun x hx=>(K6 _ _).1 h x hx⟩
   ·rw[Yi b]at h;exact absurd h b
  ·rw[Yi a]at h;exact absurd h a
 ·rintro⟨l,n,o,p,q,r⟩
  unfold A0
  have a:B1 (F2 (BR (A0 s k d) s k) m.fields v.slots) v.slots 0=0:=Znl.2 ⟨o,p⟩
  have b:B1 (fun _ f=>II v.slots f) m.fields 0=0:=(K6 _ _).2 fun f i=>lz.2 (q f i)
  rw[Ym (fun c=>c.elim (fun e=>e l) (fun e=>by rw[n]at e;cases e)),Ym (fun e=>e a),Ym (fun e=>e b)]
  exact(K6 _ _).2 r
theorem Wx{E:Val→Int}{key:Int}{k:Bool}{l:List Pr}{i:Nat}{p:Pr}:Kl E key k l i p=0↔DX key p.key=0∧¬(k=true∧((l.take i).any fun q=>Iq q.key p.key)=true)∧E p.val=0:=by
 unfold Kl
 by_cases a:DX key p.key=0
 ·rw[Ym (fun e=>e a)]
  by_cases b:k=true∧((l.take i).any fun q=>Iq q.key p.key)=true
  ·rw[Yi b]
   exact Iff.intro (fun h=>by cases h) fun h=>absurd b h.2.1
  ·rw[Ym b]
   exact⟨fun h=>⟨a,b,h⟩,fun h=>h.2.2⟩
 ·rw[Yi a]
  exact⟨fun h=>absurd h a,fun h=>absurd h.1 a⟩
theorem j5{s:Scm}{k:Bool}{n:ByteArray}{v:Val}:KJ s k n v=0↔(AJ s n).2=true∧OkM s k 15 (AJ s n).1 v∧cnt v≤4096:=by
 rw[←Va]
 unfold KJ
 cases b:(AJ s n).2 with
 |false=>simp
 |true=>
  rw[Ym (by decide)]
  by_cases c:A0 s k 16 (AJ s n).1 v=0
  ·rw[Ym (fun e=>e c)]
   by_cases a:4096<cnt v
   ·rw[Yi a]
    exact Iff.intro (fun h=>by cases h) fun h=>by have:=h.2.2;omega
   ·rw[Ym a]
    exact⟨fun _=>⟨rfl,c,by omega⟩,fun _=>rfl⟩
  ·rw[Yi c]
   exact⟨fun h=>absurd h c,fun h=>absurd h.2.1 c⟩
theorem Px{v:Val}(b:AO v):∃n:Nat,v.bits=n∧n<18446744073709551616∧v.bits.toNat=n:=by
 obtain⟨n,a⟩:=Int.eq_ofNat_of_zero_le (se b).1
 exact⟨n,a,by have:=(se b).2;omega,by rw[a];rfl⟩
theorem mj{v:Val}(h:AO v):O1 v=some (Do v):=by
 obtain⟨n,d,f,g⟩:=Px h
 obtain⟨y,e,a⟩:=xx f
 rw[←d]at e
 unfold Do
 dsimp only[O1,Z0,br,wg,lr,AH,br]
 rw[e,g]
 by_cases c:v.kind=6
 ·cases b:Ir n with
  |true=>
   rw[b,YB]at a
   simp[c,a]
  |false=>
   rw[b,YT]at a
   simp[c,a]
 ·simp[c]
theorem ZEL{v:Val}(h:SzV v):bY v=some (aD v):=by
 have a:Mx v.kind=some (decide (1≤v.kind)&&decide (v.kind≤9)):=rfl
 dsimp only[bY,q8,wg,lr,cl,AH]
 rw[a,nF h,Ya]
 unfold aD
 rw[Xu]
 cases(decide (1≤v.kind)&&decide (v.kind≤9))<;>cases Mc v<;>cases decide (v.bits=0)<;>cases decide (v.text=⟨#[]⟩)<;>rfl
theorem ZWC(f:Fld){v:Val}(h:SzV v):cg f v=some (Cb f v):=by
 have d:v.list.length<4611686018427387904:=by have:=h.l;omega
 have e:v.pairs.length<4611686018427387904:=by have:=h.p;omega
 have g:decide ((v.list.length:Int)=0)=decide (v.list.length=0):=decide_eq_decide.2 (by omega)
 have i:decide ((v.pairs.length:Int)=0)=decide (v.pairs.length=0):=decide_eq_decide.2 (by omega)
 unfold Cb
 dsimp only[cg,tY,br,vz,wg,lr,AH,Aj,br]
 rw[ZEL h]
 by_cases b:f.card=4
 ·simp[b,d]
 ·by_cases c:f.card=5
  ·simp[c,e]
  ·by_cases a:f.card=3
   ·simp[a]
   ·simp[a,b,c]
theorem Zqr{a b:Val}(v:1≤a.kind∧a.kind≤9)(g:AO a)(i:AO b):O4 Ah a b=some (BX a b):=by
 obtain⟨n,s,m,o⟩:=Px g
 obtain⟨k,r,j,l⟩:=Px i
 have w:(Ah:Nat)=(Ah-1)+1:=by have:=sf;omega
 rw[w]
 show VI (O4 (Ah-1)) a b=_
 unfold BX
 dsimp only[VI,nj,br,wg,lr,cl,cs,br]
 by_cases he:a.kind=b.kind
 ·have a1:¬a.kind=11:=by omega
  have u:¬a.kind=12:=by omega
  have a3:¬a.kind=10:=by omega
  have z:=xj m s
  have t:=xj j r
  rw[←he]at t
  have e:(decide (1≤b.kind)&&decide (b.kind≤9))=true:=by rw[←he];simp[v]
  have q:cN a b=some (if a.kind=7∨a.kind=8 then EO a.text b.text else if a.kind=2∨a.kind=3 then BJ (IntKind.u64.wrap (a.bits+9223372036854775808)) (IntKind.u64.wrap (b.bits+9223372036854775808))else if a.kind=6 then BJ (GQ a.bits.toNat) (GQ b.bits.toNat)else BJ a.bits b.bits):=by
   have y:¬a.kind<b.kind:=by omega
   have x:¬b.kind<a.kind:=by omega
   dsimp only[cN,nW,br,wg,lr,cl,br,Mx,mV,lr,Mr,Ur,lr]
   simp only[he,e,Ya,YW,Yt,Int.lt_irrefl,Y7,Yo,YQ]
   rw[←he]
   by_cases d:a.kind=7∨a.kind=8
   ·have c:(decide (a.kind=7)||decide (a.kind=8))=true:=by simpa using d
    rw[Yi d]
    simp only[c,Yt,Es]
    unfold EO
    cases h:BB a.text b.text with
    |true=>simp
    |false=>by_cases f:a.text=b.text<;>simp[f]
   ·have c:(decide (a.kind=7)||decide (a.kind=8))=false:=by simpa using d
    rw[Ym d]
    simp only[c,Yo,YQ,Er,z,t,Ya]
    have A:∀a b:Int,(if decide (a<b)=true then some (-1:Int)else if decide (b<a)=true then some 1 else some 0)=some (BJ a b):=fun a b=>by
     unfold BJ
     by_cases h:a<b
     ·simp[h]
     ·by_cases f:b<a<;>simp[h,f]
    rw[A,o,l,s,r]
    by_cases hs:a.kind=2∨a.kind=3
    ·simp only[hs,Yt]
    ·simp only[hs,YQ]
     by_cases p:a.kind=6
     ·simp only[p,Yt]
     ·simp only[p,YQ]
  rw[←he]
  simp only[a1,u,a3,Yp,YW,Y7,Yo,YQ,q,Ya,ne_eq,N4]
 ·simp only[he,YW,CP,Yt,ZWR,Ya,ne_eq,LK]
theorem X3{α:Type}{p:α→Bool}:∀{l:List α} {v:Nat},v≤l.length→(∀(j:Nat) (x:α),j<v→l[j]?=some x→p x=false)→(∀x,l[v]?=some x→p x=true)→l.findIdx p=v
 |[],v,h,_,_=>by simp at h;subst h;rfl
 |x::l,0,_,_,a=>by rw[W6,a x rfl];rfl
 |x::l,v+1,h,b,a=>by
  rw[W6,b 0 x (by omega) rfl]
  show l.findIdx p+1=v+1
  rw[X3 (v:=v) (by simpa using h) (fun j y c hy=>b (j+1) y (by omega) hy) fun y hy=>a y hy]
theorem K5{l:List Pr}:∀{i:Nat} {p:Pr},p∈CB l i→p∈l
 |0,p,h=>by cases h
 |i+1,p,h=>by
  unfold CB at h
  cases e:l[i]? with
  |none=>rw[e]at h;exact K5 h
  |some q=>
   rw[e]at h
   dsimp only at h
   split at h
   ·exact K5 h
   ·unfold Gb at h
    rcases D6.1 h with h|h
    ·exact K5 (Kd h)
    ·rcases D6.1 h with h|h
     ·rw[Y3.1 h]
      exact Yj e
     ·exact K5 (RB h)
theorem Zwj(l:List Pr)(p:Pr):(Gb l p).length=l.length+1:=by
 unfold Gb
 rw[Yq,Yq,Yy,YX]
 simp
 omega
theorem zQ(l:List Pr):∀i:Nat,(CB l i).length≤i
 |0=>Yf _
 |i+1=>by
  have a:=zQ l i
  unfold CB
  cases l[i]? with
  |none=>exact RF a
  |some q=>
   dsimp only
   split
   ·omega
   ·rw[Zwj];omega
theorem Zrn(l:List Pr)(hl:l.length≤4194304)(s:∀p∈l,(1≤p.key.kind∧p.key.kind≤9)∧AO p.key):cX l=some (Io l):=by
 have u:l.length<4611686018427387904:=by omega
 have T:∀(out:List Pr) (i:Nat) (p:Pr),l[i]?=some p→Ai (M6 l out i) Ah (true,i+1)=some (.inl (!(l.drop (i+1)).any fun q=>decide (BX p.key q.key=0))):=by
  intro out i p f
  have hi:=(Yb.1 f).1
  have q:=Dv (B:=M6 l out i) (N:=Ah) (ρ:=List Pr) (l.drop (i+1)) (fun x=>!x.any fun q=>decide (BX p.key q.key=0)) (fun j b=>(b,i+1+j)) id (fun j x hx=>by
   rw[Y1]at hx
   have h:((i+1+j:Nat):Int)<l.length:=Bs hx
   have m:i+1+j+1<9223372036854775808:=by have:=(Yb.1 hx).1;omega
   have A:l.getD i Rw.z=p:=by rw[Yg,f];rfl
   have C:l.getD (i+1+j) Rw.z=x:=by rw[Yg,hx];rfl
   have D:(0:Int)≤i∧(i:Int)<l.length:=by omega
   have E:(0:Int)≤((i+1+j:Nat):Int)∧((i+1+j:Nat):Int)<l.length:=⟨by omega,h⟩
   have o:=s p (Yj f)
   have e:=Zqr o.1 o.2 (s x (Yj hx)).2
   rw[List.any_append]
   generalize ((l.drop (i+1)).take j).any (fun q=>decide (BX p.key q.key=0))=t
   dsimp only[M6,ZM,br,AR,vz,vs,v2,ln,Af,AH,wa,Aj,br]
   simp only[u,h,A,C,D,E,e,YP,Yp,Yt,Cm,D4,FA,YM]
   rw[Yi m]
   cases t<;>simp[List.any_cons,YI]) (by
   dsimp only[M6,ZM,br,AR,vz,vs,v2,ln,Af,AH,wa,Aj,br]
   have g:¬((i+1+(l.drop (i+1)).length:Nat):Int)<l.length:=by rw[YX];omega
   simp only[u,g,YW,Yo,Yt,YQ]
   rfl) (by rw[YX];exact AP (by omega))
  exact q
 have U:∀(out:List Pr) (i:Nat) (p:Pr),l[i]?=some p→(∀q∈out,q∈l)→out.length≤4194304→Ai (Nf l out i) Ah 0=some (.inl (IK out p)):=by
  intro out i p f Q R
  have hi:=(Yb.1 f).1
  have w2:out.length<4611686018427387904:=by omega
  have A:l.getD i Rw.z=p:=by rw[Yg,f];rfl
  have D:(0:Int)≤i∧(i:Int)<l.length:=by omega
  have q:Ok (Sum.elim (fun y:Nat=>y=IK out p) No) (Ai (Nf l out i) Ah 0):=by
   refine Bt (fun v:Nat=>v≤out.length∧∀(j:Nat) (x:Pr),j<v→out[j]?=some x→(!decide (BX x.key p.key<0))=false) (fun v:Nat=>out.length-v) ⟨Ck _,fun j x K=>absurd K (Y6 _)⟩ (AP (by omega)) fun v S=>?_
   obtain⟨J,w⟩:=S
   by_cases c:v<out.length
   ·have hx:=Ye c
    have hm:=Gk c
    generalize out[v]=x at hx hm
    have h:(v:Int)<out.length:=by omega
    have m:v+1<9223372036854775808:=by omega
    have C:out.getD v Rw.z=x:=by rw[Yg,hx];rfl
    have E:(0:Int)≤v∧(v:Int)<out.length:=by omega
    have r:=s x (Q x hm)
    have e:=Zqr r.1 r.2 (s p (Yj f)).2
    dsimp only[Nf,X5,br,AR,vz,vs,v2,ln,Af,AH,wa,Aj,br]
    simp only[w2,h,A,C,D,E,e,YP,Yp,Yt,Cm,D4,FA,YM,Es]
    by_cases d:BX x.key p.key<0
    ·rw[Yn d,Yi rfl,Yi m]
     refine⟨_,rfl,⟨⟨by omega,fun j y K hy=>?_⟩,by omega⟩⟩
     by_cases P:j=v
     ·subst P
      rw[hx]at hy
      cases hy
      rw[Yn d];rfl
     ·exact w j y (by omega) hy
    ·rw[Yr d,Ym (by decide)]
     refine⟨_,rfl,?_⟩
     exact(X3 J w fun y hy=>by rw[hx]at hy;cases hy;rw[Yr d];rfl).symm
   ·have h:¬(v:Int)<out.length:=by omega
    dsimp only[Nf,X5,br,AR,vz,vs,v2,ln,Af,AH,wa,Aj,br]
    simp only[w2,h,YW,Yo,NY,Er,Yt,YQ]
    refine⟨_,rfl,?_⟩
    exact(X3 J w fun y hy=>by have:=(Yb.1 hy).1;omega).symm
  obtain⟨y,e,a⟩:=q
  cases y with
  |inr y=>exact a.elim
  |inl y=>
   have a:y=IK out p:=a
   rw[e,a]
 have M:=Dv (B:=QJ l) (N:=Ah) (ρ:=List Pr) l (fun p=>CB l p.length) (fun i b=>(b,i)) id (fun i p f=>by
  have h:=Bs f
  have hi:=(Yb.1 f).1
  have m:i+1<9223372036854775808:=by omega
  have L:(l.take i).length=i:=by rw[Yy];omega
  have z:(l.take i++[p]).length=i+1:=by rw[Yq,L];rfl
  have hm:=fun q=>@K5 l i q
  have n:=zQ l i
  have hs:CB l (i+1)=if((l.drop (i+1)).any fun q=>decide (BX p.key q.key=0))=true then CB l i else Gb (CB l i) p:=by
   rw[CB,f]
  rw[L,z,hs]
  unfold Gb
  generalize CB l i=out at hm n⊢
  have O:=T out i p f
  have I:=U out i p f hm (by omega)
  have a1:IK out p≤out.length:=List.findIdx_le_length
  generalize IK out p=k at I a1⊢
  have F:(out.take k).length+(([p]:List Pr)++out.drop k).length<549755813888:=by rw[Yq,Yy,YX,HK];omega
  have G:([p]:List Pr).length+(out.drop k).length<549755813888:=by rw[YX,HK];omega
  have H:(out.take k).length<549755813888:=by rw[Yy];omega
  dsimp only[QJ,gE,hP,fK,XH,Z4,ZP,Wi,X7,X8,XW,br,ix,vz,vw,wg,vs,v2,ln,Af,lc,iw,ar,a0,wa,sL,fl,fz,Aj,br]
  simp only[u,h,m,O,f,Yp,Yt,Ya,CE,id]
  cases(l.drop (i+1)).any fun q=>decide (BX p.key q.key=0)with
  |true=>simp
  |false=>
   simp only[CP,Yt,I,Ya,CE,Bd.c,Bd.vl,a1,Yf,Cm,HM,Ck,F,G,H,Nat.sub_zero,LV,Yo,YQ]
   simp[F,G,H,I0]
   omega) (by dsimp only[QJ,gE,hP,fK,XH,Z4,ZP,Wi,X7,X8,XW,br,ix,vz,vw,wg,vs,v2,ln,Af,lc,iw,ar,a0,wa,sL,fl,fz,Aj,br];simp[u]) (AP (by omega))
 rw[show CB l ([]:List Pr).length=[]from rfl]at M
 dsimp only[cX,ZzA,Zz2,nE,mW,vz,vw,lr,lc,fz]
 rw[M]
 rfl
theorem Ui{α β:Type}{e:α→List D}{e':β→List D}{g:β→α}:∀{l:List β},(∀x∈l,An (e (g x))≤An (e' x))→AE ((l.map g).map e)≤AE (l.map e')
 |[],_=>Yf _
 |x::l,h=>by
  have a:=h x Yz
  have b:=Ui (l:=l) fun y hy=>h y (Yw _ hy)
  simp only[YS,AE]
  omega
theorem eC{α:Type}(e:α→List D)(p:α→Bool):∀l:List α,AE (l.map e)=AE ((l.filter p).map e)+AE ((l.filter fun x=>!p x).map e)
 |[]=>rfl
 |x::l=>by
  have h:=eC e p l
  cases c:p x<;>simp only[Xo,c,YS,AE,Y7,CP,Yo,Yt,YQ]<;>omega
theorem F7(v:Val):An (Ae v)=rk .i64 v.kind+(rk .u64 v.bits+(v.text.size+(AE (v.list.map Az)+(AE (v.pairs.map Ap)+(AE (v.slots.map Aq)+AE (v.raws.map Av)))))):=by
 simp only[Ae,An,bk]
 omega
theorem Lp(k b:Int)(t:ByteArray)(l:List Val)(p:List Pr)(s:List Slt)(r:List Raw):An (Ae (.mk k b t l p s r))=rk .i64 k+(rk .u64 b+(t.size+(AE (l.map Az)+(AE (p.map Ap)+(AE (s.map Aq)+AE (r.map Av)))))):=F7 _
theorem x9(p:Pr):An (Ap p)=An (Ae p.key)+An (Ae p.val):=by
 have e:Ap p=Ae p.key++Ae p.val:=by rw[Lj];rfl
 rw[e,MQ]
theorem SP(x:Slt):An (Aq x)=rk .i64 x.num+An (Ae x.val):=by
 have e:Aq x=D.int .i64 x.num::Ae x.val:=by rw[La];rfl
 rw[e,An,bk]
theorem Zsu(v:Val):An (Ae (Do v))≤An (Ae v):=by
 unfold Do
 split
 ·rw[Lp,F7 v]
  have h:rk .u64 9221120237041090560=0:=by decide
  rw[h]
  omega
 ·exact Yf _
theorem Ws{α:Type}(e:α→List D)(l:List α)(i:Nat):AE ((l.take i).map e)+AE ((l.drop i).map e)=AE (l.map e):=by
 conv=>rhs;rw[←G0 i l,DO,Gw]
theorem is:∀(l out:List Raw),AE ((l.foldl insR out).map Av)=AE (out.map Av)+AE (l.map Av)
 |[],out=>rfl
 |x::l,out=>by
  rw[LU,is l]
  have h:=Ws Av out (Dj out x out.length)
  unfold insR
  simp only[DO,Gw,YS,D3,AE]
  omega
theorem fA(l:List Pr):∀i:Nat,AE ((CB l i).map Ap)≤AE ((l.take i).map Ap)
 |0=>Yf _
 |i+1=>by
  have a:=fA l i
  unfold CB
  cases e:l[i]? with
  |none=>
   have h:=List.getElem?_eq_none_iff.1 e
   rw[I0 (by omega)]at a⊢
   exact a
  |some q=>
   rw[Tu Ap e]
   dsimp only
   split
   ·omega
   ·have h:=Ws Ap (CB l i) (IK (CB l i) q)
    unfold Gb
    simp only[DO,Gw,YS,D3,AE]
    omega
theorem ZzB{N:Fld→Val→Val}(hN:∀f x,An (Ae (N f x))≤An (Ae x)):∀{F:List Fld} (l:List Slt),(F.Pairwise fun a b=>a.num<b.num)→AE ((CK N F l).map Aq)≤AE (l.map Aq)
 |[],l,_=>by show 0≤_;omega
 |f::F,l,h=>by
  obtain⟨g,i⟩:=Y4.1 h
  have k:=ZzB hN (l.filter fun x=>!decide (x.num=f.num)) i
  have e:CK N F (l.filter fun x=>!decide (x.num=f.num))=CK N F l:=by
   unfold CK
   rw[List.flatMap_def,List.flatMap_def]
   congr 1
   refine Ep fun o j=>?_
   rw[List.filter_filter]
   congr 1
   refine List.filter_congr fun x _=>?_
   have:=g o j
   by_cases c:x.num=o.num
   ·have d:¬x.num=f.num:=by omega
    simp[d]
   ·simp[c]
  rw[e]at k
  have b:=eC Aq (fun x=>decide (x.num=f.num)) l
  have a:=eC Aq (fun x=>!Cb f x.val) (l.filter fun x=>decide (x.num=f.num))
  have m:AE (((l.filter fun x=>decide (x.num=f.num)&&!Cb f x.val).map fun x=>Slt.mk f.num (N f x.val)).map Aq)≤AE (((l.filter fun x=>decide (x.num=f.num)).filter fun x=>!Cb f x.val).map Aq):=by
   rw[List.filter_filter]
   rw[show(l.filter fun x=>decide (x.num=f.num)&&!Cb f x.val)=l.filter fun x=>!Cb f x.val&&decide (x.num=f.num)from List.filter_congr fun x _=>Bool.and_comm _ _]
   refine Ui fun x hx=>?_
   have hx:=(Du.1 hx).2
   rw[Yc,YB]at hx
   have:=hN f x.val
   rw[SP,SP,hx.2]
   exact Nat.add_le_add_left this _
  show AE ((((l.filter fun x=>decide (x.num=f.num)&&!Cb f x.val).map fun x=>Slt.mk f.num (N f x.val))++CK N F l).map Aq)≤_
  rw[DO,Gw]
  omega
theorem fc{R:ByteArray→Val→Val}(a:∀n v,An (Ae (R n v))≤An (Ae v))(t:Typ)(v:Val):An (Ae (Dq R t v))≤An (Ae v):=by
 unfold Dq
 split
 ·exact a _ _
 ·exact Zsu v
theorem ZOu{R:ByteArray→Val→Val}(c:∀n v,An (Ae (R n v))≤An (Ae v))(f:Fld)(v:Val):An (Ae (C7 R f v))≤An (Ae v):=by
 unfold C7
 split
 ·have a:rk .i64 11=0:=by decide
  have b:rk .u64 0=0:=by decide
  have d:AE ((v.list.map (Dq R f.type)).map Az)≤AE (v.list.map Az):=Ui fun x _=>by rw[Dc,Dc];exact fc c f.type x
  rw[Lp,F7 v]
  simp only[a,b,D3,AE]
  have:(⟨#[]⟩:ByteArray).size=0:=rfl
  omega
 ·split
  ·have a:rk .i64 12=0:=by decide
   have b:rk .u64 0=0:=by decide
   have d:AE ((v.pairs.map fun p=>Pr.mk (Do p.key) (Dq R f.type p.val)).map Ap)≤AE (v.pairs.map Ap):=Ui fun p _=>by
    rw[x9,x9]
    exact Nat.add_le_add (Zsu p.key) (fc c f.type p.val)
   have e:=fA (v.pairs.map fun p=>Pr.mk (Do p.key) (Dq R f.type p.val)) (v.pairs.map fun p=>Pr.mk (Do p.key) (Dq R f.type p.val)).length
   rw[LN]at e
   rw[Lp,F7 v]
   simp only[a,b,D3,AE,Io]
   have:(⟨#[]⟩:ByteArray).size=0:=rfl
   omega
  ·exact fc c f.type v
theorem kg{s:Scm}(h:∀n:ByteArray,Df (Ax s n) (Ax s n).length):∀(d:Nat) (n:ByteArray) (v:Val),An (Ae (BF s d n v))≤An (Ae v)
 |0,n,v=>Yf _
 |d+1,n,v=>by
  have a:rk .i64 10=0:=by decide
  have b:rk .u64 0=0:=by decide
  have e:=ZzB (fun f x=>ZOu (fun n v=>kg h d n v) f x) v.slots (JD (h n))
  have c:=is v.raws []
  rw[BF,Lp,F7 v,BV]
  simp only[a,b,c,D3,AE]
  have:(⟨#[]⟩:ByteArray).size=0:=rfl
  omega
def Ro(s:Scm)(R:Scm→Fld→Val→Option Val)(d:Nat):Prop:=∀(f:Fld) (v:Val),GdF s f→AO v→BR (A0 s true d) s true f v=0→R s f v=some (C7 (BF s d) f v)
theorem ZuZ{N:Fld→Val→Val}{l:List Slt}(hl:l.Pairwise fun a b=>a.num≠b.num):∀F:List Fld,(CK N F l).length≤F.length
 |[]=>Yf _
 |f::F=>by
  have g:=ZuZ (N:=N) hl F
  show(((l.filter fun x=>decide (x.num=f.num)&&!Cb f x.val).map fun x=>Slt.mk f.num (N f x.val))++CK N F l).length≤_
  rw[Yq,YG,Dt]
  by_cases c:∃x∈l,x.num=f.num∧Cb f x.val=false
  ·obtain⟨x,hx,e,d⟩:=c
   have:=dM hl (fun y=>!Cb f y.val) hx (by rw[d];rfl)
   rw[←e,this,HK]
   omega
  ·rw[yO f.num (fun y=>!Cb f y.val) fun x hx e=>by
    cases d:Cb f x.val with
    |true=>rfl
    |false=>exact absurd ⟨x,hx,e,d⟩ c,GU]
   omega
theorem Zvx(l:List Raw)(x:Raw):(insR l x).length=l.length+1:=by
 unfold insR
 simp only[Yq,Yy,YX,HK]
 omega
theorem eY:∀(l out:List Raw),(l.foldl insR out).length=out.length+l.length
 |[],out=>rfl
 |x::l,out=>by rw[LU,eY l,Zvx,Dt];omega
theorem Um(out:List Raw)(x:Raw):∀k:Nat,Dj out x k≤k
 |0=>Yf _
 |k+1=>by
  have:=Um out x k
  unfold Dj
  split<;>omega
theorem ZsH{s:Scm}(hs:An (Al s)≤1048576)(g:GdS s)(R:Scm→Fld→Val→Option Val)(d:Nat)(Z:Ro s R d)(n:ByteArray)(v:Val)(z:AO v)(h:OkM s true d (AJ s n).1 v):OZ R s n v=some (BF s (d+1) n v):=by
 have G:=CN z
 have V:KX s n=some (AJ s n):=WG s n (Ft hs).ml
 have ha:=g.asc n
 have hl:(Ax s n).length≤1048576:=MP (Ft hs) n
 have zs:=G.s
 have zr:=G.r
 have L:(Ax s n).length<4611686018427387904:=by omega
 have w2:v.slots.length<4611686018427387904:=by omega
 have M:v.raws.length<4611686018427387904:=by omega
 have pw:v.slots.Pairwise fun a b=>a.num≠b.num:=h.pw.imp fun h=>h.1
 have I:=Dv (B:=Qk s v R (AJ s n)) (N:=Ah) (ρ:=Val) (Ax s n) (fun p=>CK (C7 (BF s d)) p v.slots) (fun i b=>(i,b)) id (fun i f u=>by
  have r:=Bs u
  have hi:=(Yb.1 u).1
  have y:i+1<9223372036854775808:=by omega
  have hm:=Yj u
  have J:=Dv (B:=QI s v R (AJ s n) i f) (N:=Ah) (ρ:=Val) v.slots (fun p=>CK (C7 (BF s d)) ((Ax s n).take i) v.slots++(p.filter fun x=>decide (x.num=f.num)&&!Cb f x.val).map fun x=>Slt.mk f.num (C7 (BF s d) f x.val)) (fun i b=>(i,b)) id (fun j x hx=>by
   have H:=Bs hx
   have hj:=(Yb.1 hx).1
   have C:j+1<9223372036854775808:=by omega
   have D:v.slots.getD j Rw.z=x:=by rw[Yg,hx];rfl
   have E:(0:Int)≤j∧(j:Int)<v.slots.length:=⟨by omega,H⟩
   have l:=Yj hx
   have W:=ZWC f (CN (If z l))
   have a1:=ZuZ (N:=C7 (BF s d)) pw ((Ax s n).take i)
   have w:(((v.slots.take j).filter fun x=>decide (x.num=f.num)&&!Cb f x.val).map fun x=>Slt.mk f.num (C7 (BF s d) f x.val)).length≤4194304:=by
    rw[YG]
    refine D7 (LS _ _) ?_
    rw[Yy]
    omega
   rw[Yy]at a1
   rw[HF,DO]
   have a3:(CK (C7 (BF s d)) ((Ax s n).take i) v.slots++((v.slots.take j).filter fun x=>decide (x.num=f.num)&&!Cb f x.val).map fun x=>Slt.mk f.num (C7 (BF s d) f x.val)).length<549755813887:=by rw[Yq];omega
   rw[←D5]
   generalize CK (C7 (BF s d)) ((Ax s n).take i) v.slots++((v.slots.take j).filter fun x=>decide (x.num=f.num)&&!Cb f x.val).map (fun x=>Slt.mk f.num (C7 (BF s d) f x.val))=out at a3⊢
   dsimp only[QI,fN,ia,ge,Vv,gV,VT,JK,Vu,Wz,XQ,br,ix,AR,vz,vw,wg,vs,v2,ln,Af,lc,ap,AH,cs,wa,tw,fl,Aj,br]
   simp only[w2,H,D,E,hx,W,YP,Yp,Yt,Ya,Cm,D4,FA,YM]
   by_cases c:x.num=f.num
   ·cases F:Cb f x.val with
    |true=>simp[c,F,C]
    |false=>
     have ef:AW (Ax s n) x.num=f:=by
      unfold AW
      rw[c,JC ha hm]
     have o:=(h.sl x l).2
     rw[show(AJ s n).1.fields=Ax s n from rfl,ef]at o
     have X:=Z f x.val (g.fl n f hm) (If z l) o
     simp[c,F,C,X,a3]
   ·simp[c,C]) (by dsimp only[QI,fN,ia,ge,Vv,gV,VT,JK,Vu,Wz,XQ,br,ix,AR,vz,vw,wg,vs,v2,ln,Af,lc,ap,AH,cs,wa,tw,fl,Aj,br];simp[w2]) (AP (by omega))
  dsimp only[Qk,hI,g7,gn,br,ix,vz,wg,vs,v2,ln,Af,lc,wa,fl,Aj,br]
  rw[show(AJ s n).1.fields=Ax s n from rfl]
  simp only[L,r,u,Yp,Yt,Ya]
  simp only[List.filter_nil,D3,GV]at J
  rw[J]
  have Y:CK (C7 (BF s d)) ((Ax s n).take i++[f]) v.slots=CK (C7 (BF s d)) ((Ax s n).take i) v.slots++(v.slots.filter fun x=>decide (x.num=f.num)&&!Cb f x.val).map fun x=>Slt.mk f.num (C7 (BF s d) f x.val):=by
   unfold CK
   rw[List.flatMap_append,List.flatMap_cons,List.flatMap_nil,GV]
  simp only[Ya,CE,id,y,Yt,Y]) (by dsimp only[Qk,hI,g7,gn,br,ix,vz,wg,vs,v2,ln,Af,lc,wa,fl,Aj,br];rw[show(AJ s n).1.fields=Ax s n from rfl];simp[L]) (AP (by omega))
 have q3:∀out:List Slt,Ai (Nb v R out) Ah (0,[])=some (.inl (BV v.raws)):=fun out=>by
  have q:=Dv (B:=Nb v R out) (N:=Ah) (ρ:=Val) v.raws BV (fun i b=>(i,b)) id (fun i x hx=>by
   have r:=Bs hx
   have hi:=(Yb.1 hx).1
   have y:i+1<9223372036854775808:=by omega
   have e:BV (v.raws.take i++[x])=insR (BV (v.raws.take i)) x:=by
    unfold BV
    rw[RI]
    rfl
   have a1:(BV (v.raws.take i)).length≤4194304:=by
    unfold BV
    rw[eY,Yy]
    simp only[GU]
    omega
   rw[e]
   generalize BV (v.raws.take i)=c at a1⊢
   have w4:c.length<4611686018427387904:=by omega
   have D:v.raws.getD i Rw.z=x:=by rw[Yg,hx];rfl
   have E:(0:Int)≤i∧(i:Int)<v.raws.length:=⟨by omega,r⟩
   have q4:∀(k N:Nat),k≤c.length→k<N→Ai (Qg v R out i c) N (k:Int)=some (.inl ((Dj c x k:Nat):Int)):=by
    intro k
    induction k with
    |zero=>
     intro N _ hN
     obtain⟨N,rfl⟩:∃m,N=m+1:=⟨N-1,by omega⟩
     rw[Ai]
     dsimp only[Qg,fI,br,AR,vz,wg,vs,vg,ln,Af,wi,fl,br]
     simp[Dj]
    |succ k A=>
     intro N hk hN
     obtain⟨N,rfl⟩:∃m,N=m+1:=⟨N-1,by omega⟩
     have O:((k+1:Nat):Int)-1=(k:Int):=by omega
     have P:(0:Int)<((k+1:Nat):Int):=by omega
     have Q:(0:Int)≤k∧(k:Int)<c.length:=⟨by omega,by omega⟩
     have S: -9223372036854775808≤(k:Int)∧(k:Int)<9223372036854775808:=by omega
     have A:=A N (by omega) (by omega)
     rw[Ai,Dj]
     dsimp only[Qg,fI,br,AR,vz,wg,vs,vg,ln,Af,wi,fl,br]
     simp only[O,P,Q,S,D,E,YP,Yp,Yt,Ya,Es,Cm,D4]
     by_cases t:x.num<(c.getD k Rw.z).num
     ·rw[Yn t,Yi rfl,Yi t]
      exact A
     ·rw[Yr t,Ym (by decide),Ym t]
   have K:=q4 c.length Ah (Yf _) (AP (by omega))
   have w:=Um c x c.length
   unfold insR
   generalize Dj c x c.length=k at K w⊢
   have T:(c.take k).length<549755813887:=by rw[Yy];omega
   have U:(c.take k++[x]).length+(c.drop k).length<549755813888:=by rw[Yq,Yy,YX,HK];omega
   dsimp only[Nb,gL,ie,gJ,gM,br,ix,vz,vw,wg,vs,ln,Af,lc,ap,aq,a0,wa,sL,fl,fz,Aj,br]
   simp only[M,w4,r,y,K,hx,Yp,Yt,Ya,CE,id,Bd.c,Bd.vl,YP]
   simp[T,U,w]
   exact⟨by omega,by omega,by omega,I0 (by rw[YX];exact Yf _)⟩) (by dsimp only[Nb,gL,ie,gJ,gM,br,ix,vz,vw,wg,vs,ln,Af,lc,ap,aq,a0,wa,sL,fl,fz,Aj,br];simp[M]) (AP (by omega))
  exact q
 dsimp only[OZ,jQ,lK,lL,lZ,kG,nN,vz,vw,wg,lr,lc,cl,fl,fz,fr]
 rw[V,Ya]
 rw[show CK (C7 (BF s d)) ([]:List Fld) v.slots=[]from rfl]at I
 rw[I,Ya]
 simp only[CE,id]
 rw[q3,Ya]
 rfl
theorem gC{s:Scm}(hs:An (Al s)≤1048576)(g:GdS s)(R:Scm→Fld→Val→Option Val)(d:Nat)(f:∀d':Nat,d=d'+1→Ro s R d')(t:Typ)(v:Val)(b:AO v)(h:CL (A0 s true d) s t v=0):KT R s t v=some (Dq (BF s d) t v):=by
 unfold Dq
 dsimp only[KT,vK,br,wg,lr,cl,cs,br]
 by_cases c:t.kind=10
 ·unfold CL at h
  rw[Yi c]at h
  cases a:(AJ s t.name).2 with
  |false=>rw[a]at h;cases h
  |true=>
   rw[a,Yi rfl]at h
   cases d with
   |zero=>
    unfold A0 at h
    split at h<;>cases h
   |succ d=>
    have e:=ZsH hs g R d (f d rfl) t.name v b (Va.1 h)
    rw[Yi (Yn c),e,Yi c]
    rfl
 ·rw[Ym (by simp[c]),mj b,Ym c]
  rfl
theorem ZTH{s:Scm}(hs:An (Al s)≤1048576)(g:GdS s)(R:Scm→Fld→Val→Option Val)(d:Nat)(r:∀d':Nat,d=d'+1→Ro s R d')(f:Fld)(v:Val)(D:GdF s f)(c:AO v)(h:BR (A0 s true d) s true f v=0):Sx R s f v=some (C7 (BF s d) f v):=by
 have w:=CN c
 have H:=w.l
 have I:=w.p
 have y:v.list.length<4611686018427387904:=by omega
 have w2:v.pairs.length<4611686018427387904:=by omega
 unfold C7
 unfold BR at h
 dsimp only[Sx,mq,kN,Zzr,tn,mQ,sZ,mR,mP,oE,Zze,kx,wo,ZzV,mZ,vz,vw,wg,lr,lc,cl,cs,fl,fz,fr]
 by_cases m:f.card=4
 ·rw[Yi m]at h⊢
  split at h
  ·cases h
  ·rw[K6]at h
   have q:=Dv (B:=Qs s f v R) (N:=Ah) (ρ:=Val) v.list (fun p=>p.map (Dq (BF s d) f.type)) (fun i b=>(i,b)) id (fun i x hx=>by
    have n:=Bs hx
    have hi:=(Yb.1 hx).1
    have o:i+1<9223372036854775808:=by omega
    have hm:=Yj hx
    have e:=gC hs g R d r f.type x (Qy c hm) (h x hm)
    have a1:((v.list.take i).map (Dq (BF s d) f.type)).length<549755813887:=by rw[YG,Yy];omega
    rw[DO]
    generalize (v.list.take i).map (Dq (BF s d) f.type)=out at a1⊢
    dsimp only[Qs,Zz,VP,Wf,br,ix,vz,vw,wg,vs,ln,Af,lc,ap,cs,wa,tw,fl,Aj,br]
    simp only[y,n,o,hx,e,a1,Yp,Yt,Ya,YS,D3]) (by dsimp only[Qs,Zz,VP,Wf,br,ix,vz,vw,wg,vs,ln,Af,lc,ap,cs,wa,tw,fl,Aj,br];simp[y]) (AP (by omega))
   rw[D3]at q
   rw[Yi (Yn m),q]
   rfl
 ·rw[Ym m]at h⊢
  rw[Ym (by simp[m])]
  by_cases k:f.card=5
  ·rw[Yi k]at h⊢
   split at h
   ·cases h
   ·rw[Li]at h
    have t:∀p∈v.pairs,p.key.kind=f.key∧CL (A0 s true d) s f.type p.val=0:=fun p a=>by
     obtain⟨j,E⟩:=YJ.1 a
     have:=h j p E
     rw[Wx]at this
     exact⟨(SA this.1).1,this.2.2⟩
    have F:=D.ky k
    have u:∀p∈v.pairs,Do p.key=p.key:=fun p a=>by
     unfold Do
     rw[Ym]
     have:=(t p a).1
     omega
    have q:=Dv (B:=QB s f v R) (N:=Ah) (ρ:=Val) v.pairs (fun l=>l.map fun p=>Pr.mk (Do p.key) (Dq (BF s d) f.type p.val)) (fun i b=>(b,i)) id (fun i p a=>by
     have n:=Bs a
     have hi:=(Yb.1 a).1
     have o:i+1<9223372036854775808:=by omega
     have hm:=Yj a
     have e:=gC hs g R d r f.type p.val (EH c hm).2 (t p hm).2
     have z:=mj (EH c hm).1
     have a1:((v.pairs.take i).map fun p=>Pr.mk (Do p.key) (Dq (BF s d) f.type p.val)).length<549755813887:=by rw[YG,Yy];omega
     rw[DO]
     generalize (v.pairs.take i).map (fun p=>Pr.mk (Do p.key) (Dq (BF s d) f.type p.val))=out at a1⊢
     dsimp only[QB,fD,Vj,ZN,br,ix,vz,vw,vs,ln,Af,lc,ap,cl,cs,wa,du,fl,Aj,br]
     simp only[w2,n,o,a,e,z,a1,Yp,Yt,Ya,YS,D3]) (by dsimp only[QB,fD,Vj,ZN,br,ix,vz,vw,vs,ln,Af,lc,ap,cl,cs,wa,du,fl,Aj,br];simp[w2]) (AP (by omega))
    rw[D3]at q
    have A:=Zrn (v.pairs.map fun p=>Pr.mk (Do p.key) (Dq (BF s d) f.type p.val)) (by rw[YG];have:=Ce (e:=Ap) v.pairs;have C:An (Ae v)≤1048576:=c;rw[F7]at C;omega) fun q G=>by
     obtain⟨p,a,rfl⟩:=YV.1 G
     have:=(t p a).1
     refine⟨?_,?_⟩
     ·show 1≤(Do p.key).kind∧(Do p.key).kind≤9
      rw[u p a]
      omega
     ·show AO (Do p.key)
      rw[u p a]
      exact(EH c a).1
    rw[Yi (Yn k),q,Ya]
    simp only[CE,id]
    rw[A]
    rfl
  ·rw[Ym k]at h⊢
   rw[Ym (by simp[k]),gC hs g R d r f.type v c h]
   rfl
theorem nfH{s:Scm}(hs:An (Al s)≤1048576)(g:GdS s):∀a d:Nat,d<a→Ro s (KW a) d
 |0,d,h=>by omega
 |a+1,d,h=>fun f v c i b=>ZTH hs g (KW a) d (fun d' e=>nfH hs g a d' (by omega)) f v c i b
theorem Zvz{s:Scm}(hs:An (Al s)≤1048576)(g:GdS s)(n:ByteArray)(v:Val)(a:AO v)(h:OkM s true 15 (AJ s n).1 v):OZ (KW Ah) s n v=some (BF s 16 n v):=ZsH hs g _ 15 (nfH hs g Ah 15 (AP (by omega))) n v a h
theorem z5{s:Scm}(hs:An (Al s)≤1048576)(g:GdS s)(n:ByteArray)(v:Val)(d:AO v):Ok (fun b:Bool=>b=true↔KJ s true n v=0∧v=BF s 16 n v) (OS s n v):=by
 dsimp only[OS,wW,wg,lr,cl,AH]
 rw[ZFV hs n v d,Ya]
 by_cases c:KJ s true n v=0
 ·have i:AO (BF s 16 n v):=D7 (kg g.asc 16 n v) d
  obtain⟨b,e,a⟩:=vG d i
  have f:=Zvz hs g n v d (j5.1 c).2.1
  simp[c,e,f,a]
  exact⟨_,rfl,a⟩
 ·exact⟨false,by simp[c],Iff.intro (fun h=>absurd h (by decide)) fun h=>absurd h.1 c⟩
end Go.Proofs.YtbcmdieedjamgaaGreat
