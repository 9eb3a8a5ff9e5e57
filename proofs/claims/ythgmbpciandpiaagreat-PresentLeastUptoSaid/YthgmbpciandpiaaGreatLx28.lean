import Derived.Test.YthgmbpciandpiaaGreatLx27
import Derived.Test.YthgmbpciandpiaaGreatLx00
namespace Go.Proofs.YthgmbpciandpiaaGreat
set_option linter.all false
open Go Go.Eng
mutual
theorem Pd:∀v:Val,cnt v≤2*Ar (AM v)+1
 |.mk k b t l p s r=>by
  have a:=Zvi l
  have c:=ZvB p
  have d:=Zvq s
  have f:=CH (e:=AZ) r
  simp only[cnt,AM,Ar,bk]
  omega
theorem Zvi:∀l:List Val,Br l≤2*AR (MP l)
 |[]=>by simp[Br]
 |v::l=>by
  have a:=Pd v
  have b:=Zvi l
  simp only[Br,MP,AR]
  omega
theorem Zzo:∀p:Pr,M9 p≤2*Ar (Ay p)+2
 |.mk k v=>by
  have a:=Pd k
  have b:=Pd v
  simp only[M9,Ay,Mm]
  omega
theorem ZvB:∀l:List Pr,BM l≤2*AR (Ls l)
 |[]=>by simp[BM]
 |v::l=>by
  have a:=Zzo v
  have b:=ZvB l
  simp only[BM,Ls,AR]
  omega
theorem ZzT:∀x:Slt,KI x≤2*Ar (Ap x)+1
 |.mk n v=>by
  have a:=Pd v
  simp only[KI,Ap,Ar,bk]
  omega
theorem Zvq:∀l:List Slt,B7 l≤2*AR (M3 l)
 |[]=>by simp[B7]
 |v::l=>by
  have a:=ZzT v
  have b:=Zvq l
  simp only[B7,M3,AR]
  omega
end
theorem pH(v:Val):cnt v=1+v.raws.length+Br v.list+BM v.pairs+B7 v.slots:=by cases v;simp only[cnt,Val.raws,Val.list,Val.pairs,Val.slots]
theorem ZnC(p:Pr):M9 p=cnt p.key+cnt p.val:=by cases p;simp only[M9,Pr.key,Pr.val]
theorem ZnN(x:Slt):KI x=cnt x.val:=by cases x;simp only[KI,Slt.val]
theorem TV:∀a b:List Val,Br (a++b)=Br a+Br b
 |[],b=>by simp[Br]
 |x::a,b=>by rw[In,Br,Br,TV a b];omega
theorem T1:∀a b:List Pr,BM (a++b)=BM a+BM b
 |[],b=>by simp[BM]
 |x::a,b=>by rw[In,BM,BM,T1 a b];omega
theorem T6:∀a b:List Slt,B7 (a++b)=B7 a+B7 b
 |[],b=>by simp[B7]
 |x::a,b=>by rw[In,B7,B7,T6 a b];omega
theorem ZO4{v:Val}(h:Bk v):cnt v≤2097153:=by
 have:=Pd v
 rw[F9]at this
 have h:Ar (Ag v)≤1048576:=h
 omega
theorem ZuD(l:List Val)(i:Nat):Br (l.take i)≤Br l:=by
 conv=>rhs;rw[←Hi i l,TV]
 omega
theorem Zt6(l:List Pr)(i:Nat):BM (l.take i)≤BM l:=by
 conv=>rhs;rw[←Hi i l,T1]
 omega
theorem Zwu(l:List Slt)(i:Nat):B7 (l.take i)≤B7 l:=by
 conv=>rhs;rw[←Hi i l,T6]
 omega
theorem ZA4{l:List Val}{i:Nat}{x:Val}(h:l[i]?=some x):Br (l.take i)+cnt x≤Br l:=by
 obtain⟨a,rfl⟩:=Yd.1 h
 have:=ZuD l (i+1)
 rw[Y4 a,TV,Br,Br]at this
 omega
theorem Zz8{l:List Pr}{i:Nat}{x:Pr}(h:l[i]?=some x):BM (l.take i)+M9 x≤BM l:=by
 obtain⟨a,rfl⟩:=Yd.1 h
 have:=Zt6 l (i+1)
 rw[Y4 a,T1,BM,BM]at this
 omega
theorem ZAI{l:List Slt}{i:Nat}{x:Slt}(h:l[i]?=some x):B7 (l.take i)+KI x≤B7 l:=by
 obtain⟨a,rfl⟩:=Yd.1 h
 have:=Zwu l (i+1)
 rw[Y4 a,T6,B7,B7]at this
 omega
theorem OY:∀(j:Nat) (v:Val),Ar (Ag v)<j→Bk v→IU j v=some (cnt v:Int)
 |0,v,h,_=>by omega
 |j+1,v,h,k=>by
  obtain⟨s1,s2,E,F,G⟩:=Ex k
  have z:=ZO4 k
  rw[pH]at z
  have r:v.list.length<4611686018427387904:=by omega
  have s:v.pairs.length<4611686018427387904:=by omega
  have t:v.slots.length<4611686018427387904:=by omega
  have A:v.raws.length<4611686018427387904:=by omega
  have C:1+v.raws.length<9223372036854775808:=by omega
  have u:=Eh (B:=PW v (IU j)) (N:=Ai) (ρ:=Int) v.list (fun p=>((1+v.raws.length+Br p:Nat):Int)) (fun i b=>(b,i)) id (fun i x d=>by
   have l:=BP d
   have m:i+1<9223372036854775808:=by have:=(Yd.1 d).1;omega
   have hm:=Yk d
   have e:=OY j x (by have:=Zp hm;omega) (MR k hm)
   have n:=ZA4 d
   have f:((1+v.raws.length+Br (v.list.take i):Nat):Int)+(cnt x:Int)=((1+v.raws.length+Br (v.list.take i++[x]):Nat):Int):=by
    rw[TV,Br,Br]
    omega
   have g: -9223372036854775808≤((1+v.raws.length+Br (v.list.take i):Nat):Int)+(cnt x:Int)∧((1+v.raws.length+Br (v.list.take i):Nat):Int)+(cnt x:Int)<9223372036854775808:=by omega
   generalize ((1+v.raws.length+Br (v.list.take i):Nat):Int)=a at f g⊢
   generalize ((1+v.raws.length+Br (v.list.take i++[x]):Nat):Int)=b at f⊢
   generalize (cnt x:Int)=c at e f g
   dsimp only[PW,WJ,br,ix,vz,wg,vs,v2,ln,Aj,cs,wa,wi,Ah,br]
   simp only[r,l,d,Yv,Yx,Ye]
   rw[e,Ye,Yg g,Yg m,f]) (by dsimp only[PW,WJ,br,ix,vz,wg,vs,v2,ln,Aj,cs,wa,wi,Ah,br];simp[r]) (A6 (by omega))
  have w:=Eh (B:=PZ v (IU j)) (N:=Ai) (ρ:=Int) v.pairs (fun p=>((1+v.raws.length+Br v.list+BM p:Nat):Int)) (fun i b=>(b,i)) id (fun i x d=>by
   have l:=BP d
   have m:i+1<9223372036854775808:=by have:=(Yd.1 d).1;omega
   have hm:=Yk d
   have e:=OY j x.key (by have:=(MU hm).1;omega) (FG k hm).1
   have q:=OY j x.val (by have:=(MU hm).2;omega) (FG k hm).2
   have n:=Zz8 d
   rw[ZnC]at n
   have f:((1+v.raws.length+Br v.list+BM (v.pairs.take i):Nat):Int)+((cnt x.key:Int)+(cnt x.val:Int))=((1+v.raws.length+Br v.list+BM (v.pairs.take i++[x]):Nat):Int):=by
    rw[T1,BM,BM,ZnC]
    omega
   have g: -9223372036854775808≤((1+v.raws.length+Br v.list+BM (v.pairs.take i):Nat):Int)+((cnt x.key:Int)+(cnt x.val:Int))∧((1+v.raws.length+Br v.list+BM (v.pairs.take i):Nat):Int)+((cnt x.key:Int)+(cnt x.val:Int))<9223372036854775808:=by omega
   have o: -9223372036854775808≤(cnt x.key:Int)+(cnt x.val:Int)∧(cnt x.key:Int)+(cnt x.val:Int)<9223372036854775808:=by omega
   generalize ((1+v.raws.length+Br v.list+BM (v.pairs.take i):Nat):Int)=a at f g⊢
   generalize ((1+v.raws.length+Br v.list+BM (v.pairs.take i++[x]):Nat):Int)=b at f⊢
   generalize (cnt x.key:Int)=c at e f g o
   generalize (cnt x.val:Int)=D at q f g o
   dsimp only[PZ,WH,br,ix,vz,wg,vs,ln,Aj,cs,wa,wi,Ah,br]
   simp only[s,l,d,Yv,Yx,Ye]
   rw[e,Ye,q,Ye,Yg o,Yg g,Yg m,f]) (by dsimp only[PZ,WH,br,ix,vz,wg,vs,ln,Aj,cs,wa,wi,Ah,br];simp[s]) (A6 (by omega))
  have y:=Eh (B:=PM v (IU j)) (N:=Ai) (ρ:=Int) v.slots (fun p=>((1+v.raws.length+Br v.list+BM v.pairs+B7 p:Nat):Int)) (fun i b=>(b,i)) id (fun i x d=>by
   have l:=BP d
   have m:i+1<9223372036854775808:=by have:=(Yd.1 d).1;omega
   have hm:=Yk d
   have e:=OY j x.val (by have:=bM hm;omega) (KD k hm)
   have n:=ZAI d
   rw[ZnN]at n
   have f:((1+v.raws.length+Br v.list+BM v.pairs+B7 (v.slots.take i):Nat):Int)+(cnt x.val:Int)=((1+v.raws.length+Br v.list+BM v.pairs+B7 (v.slots.take i++[x]):Nat):Int):=by
    rw[T6,B7,B7,ZnN]
    omega
   have g: -9223372036854775808≤((1+v.raws.length+Br v.list+BM v.pairs+B7 (v.slots.take i):Nat):Int)+(cnt x.val:Int)∧((1+v.raws.length+Br v.list+BM v.pairs+B7 (v.slots.take i):Nat):Int)+(cnt x.val:Int)<9223372036854775808:=by omega
   generalize ((1+v.raws.length+Br v.list+BM v.pairs+B7 (v.slots.take i):Nat):Int)=a at f g⊢
   generalize ((1+v.raws.length+Br v.list+BM v.pairs+B7 (v.slots.take i++[x]):Nat):Int)=b at f⊢
   generalize (cnt x.val:Int)=c at e f g
   dsimp only[PM,Wg,br,ix,vz,wg,vs,ln,Aj,cs,wa,wi,Ah,br]
   simp only[t,l,d,Yv,Yx,Ye]
   rw[e,Ye,Yg g,Yg m,f]) (by dsimp only[PM,Wg,br,ix,vz,wg,vs,ln,Aj,cs,wa,wi,Ah,br];simp[t]) (A6 (by omega))
  simp only[Br,BM,B7,EA,id]at u w y
  show R3 (IU j) v=_
  dsimp only[R3,aA,bB,ZT,X3,au,vz,wg,vs,lr,lc,wa,Ah]
  simp only[A,C,Yx,u,w,y,Ye,EZ]
  rw[pH]
theorem ZHq{s:Scm}(hs:Ar (Al s)≤1048576)(k:Bool)(n:ByteArray)(v:Val)(b:Bk v):eJ s n v k=some (JS s k n v):=by
 have h:=Gx hs
 have e:L3 s n=some (B1 s n):=nB s _ h.ml
 have f:=Zzb hs (B1 s n).1 v k (Up h _) b
 have g:=OY Ai v (by have i:Ar (Ag v)≤1048576:=b;exact A6 (by omega)) b
 unfold JS
 dsimp only[eJ,bz,br,wg,lr,cl,br]
 rw[e,Ye,f,g]
 cases(B1 s n).2 with
 |false=>simp
 |true=>
  by_cases c:Bc s k 16 (B1 s n).1 v=0
  ·by_cases d:4096<cnt v
   ·have a:(4096:Int)<cnt v:=by omega
    simp[c,d,a]
   ·have a:¬(4096:Int)<cnt v:=by omega
    simp[c,d,a]
  ·simp[c]
theorem ZJO{s:Scm}(hs:Ar (Al s)≤1048576)(n:ByteArray)(v:Val)(a:Bk v):ed s n v=some (JS s true n v):=by
 dsimp only[ed,bQ,wg,lr,cl]
 rw[ZHq hs true n v a]
 rfl
end Go.Proofs.YthgmbpciandpiaaGreat
namespace Go.Proofs.YthgmbpciandpiaaGreat
set_option linter.all false
open Go Go.Eng
theorem VB{l:List Fld}(h:C3 l l.length):∀(d i:Nat) (a b:Fld),l[i]?=some a→l[i+1+d]?=some b→a.num<b.num
 |0,i,a,b,e,c=>h i a b (Yd.1 c).1 e c
 |d+1,i,a,b,e,c=>by
  have g:=(Yd.1 c).1
  have f:i+1+d<l.length:=by omega
  have j:=VB h d i a l[i+1+d] e (Ya f)
  have k:=h (i+1+d) l[i+1+d] b (by omega) (Ya f) c
  omega
theorem ZQN{l:List Fld}(h:C3 l l.length){i:Nat}{f:Fld}(a:l[i]?=some f):∀g∈l.take i,g.num≠f.num:=fun g hg=>by
 obtain⟨j,b,rfl⟩:=oT.1 hg
 have:=VB h (i-(j+1)) j _ f (Ya (by omega)) (by rw[show j+1+(i-(j+1))=i by omega];exact a)
 omega
def DfL(F:List Fld):Prop:=∀f∈F,If f∧Bk f.dflt
theorem ZMI(F:List Fld)(k:Int):((CB F k).2=false∧BG F k=zF)∨((CB F k).2=true∧BG F k∈F):=by
 unfold BG CB Cp
 cases e:F.find? fun f=>decide (f.num=k)with
 |none=>exact .inl ⟨rfl,rfl⟩
 |some f=>exact .inr ⟨rfl,Y8 e⟩
theorem ZsO{F:List Fld}(h:C3 F F.length){i:Nat}{f:Fld}(a:F[i]?=some f):F=F.take i++f::F.drop (i+1)∧(∀g∈F.take i,g.num≠f.num)∧∀g∈F.drop (i+1),g.num≠f.num:=by
 obtain⟨hi,e⟩:=Yd.1 a
 refine⟨?_,ZQN h a,fun g hg=>?_⟩
 ·rw[←e,List.getElem_cons_drop,Hi]
 ·obtain⟨d,b⟩:=YD.1 hg
  rw[YO]at b
  have:=VB h d i f g a b
  omega
theorem MD{F:List Fld}(h:C3 F F.length){i:Nat}{f:Fld}(c:F[i]?=some f):CB F f.num=(f,true):=by
 obtain⟨e,b,d⟩:=ZsO h c
 have a:F.find? (fun g=>decide (g.num=f.num))=some f:=by
  rw[e,XF,List.find?_eq_none.2 fun g hg=>by simpa using b g hg]
  simp
 unfold CB Cp
 rw[a]
 rfl
theorem ZIK{s:Scm}(h:∀(i:Nat) (m:Msg),s.messages[i]?=some m→GdM s m)(hs:Ar (Al s)≤1048576)(n:ByteArray):C3 (BV s n) (BV s n).length∧DfL (BV s n)∧(BV s n).length≤1048576:=by
 have hl:=Up (Gx hs) n
 unfold BV Cp at*
 cases e:s.messages.find? fun m=>decide (m.name=n)with
 |none=>exact⟨fun i a b hi=>by simp[zM]at hi,fun f c=>by simp[zM]at c,by simp[zM]⟩
 |some m=>
  rw[e]at hl
  have hm:=Y8 e
  obtain⟨i,hi⟩:=YD.1 hm
  have g:=h i m hi
  refine⟨g.asc,fun f c=>?_,hl⟩
  obtain⟨j,k⟩:=YD.1 c
  refine⟨(g.df j f k).1,?_⟩
  have d:=CQ (e:=AB) hm
  have l:=CQ (e:=An) (show f∈m.fields from c)
  simp only[Al,Ar,bk]at hs
  simp only[AB,Ar,bk]at d
  have e:Ar (Ag f.dflt)≤Ar (An f):=by
   simp only[An,Ag,Ar,bk]
   omega
  show Ar (Ag f.dflt)≤1048576
  omega
structure GdF (s:Scm) (f:Fld):Prop where
 en:f.type.kind=9→(C2 s f.type.name).2=true
 ms:f.type.kind=10→(B1 s f.type.name).2=true
 ty:1≤f.type.kind∧f.type.kind≤10
 un:f.union≠⟨#[]⟩→f.card=2
 cd:f.card≠5→1≤f.card∧f.card≤4
 np:f.type.kind=10→f.card≠3
 ky:f.card=5→f.key=1∨f.key=2∨f.key=3∨f.key=4∨f.key=5∨f.key=7
structure GdS (s:Scm):Prop where
 fl:∀(n:ByteArray) (f:Fld),f∈BV s n→GdF s f
 asc:∀n:ByteArray,C3 (BV s n) (BV s n).length
theorem ZZa{n:Int}{v:Val}(h:Ej n v=0):v.kind=n∧CA v=false∧v.text.size≤4096∧IQ n v=true:=by
 unfold Ej at h
 by_cases a1:v.kind≠n∨CA v=true
 ·rw[Yg a1]at h;cases h
 ·rw[Yj a1]at h
  by_cases a:4096<v.text.size
  ·rw[Yg a]at h;cases h
  ·rw[Yj a]at h
   cases a3:IQ n v with
   |false=>
    rw[a3]at h
    rw[Yj (by decide)]at h
    split at h<;>cases h
   |true=>
    refine⟨Decidable.not_not.1 fun e=>a1 (.inl e),?_,by omega,rfl⟩
    cases b:CA v with
    |false=>rfl
    |true=>exact absurd (.inr b) a1
theorem Kr{F:List Fld}(h:C3 F F.length){g:Fld}(hg:g∈F):CB F g.num=(g,true):=by
 obtain⟨i,hi⟩:=YD.1 hg
 exact MD h hi
structure GdT (s:Scm) (t:Typ):Prop where
 en:t.kind=9→(C2 s t.name).2=true
 ms:t.kind=10→(B1 s t.name).2=true
 ty:1≤t.kind∧t.kind≤10
theorem GdF.t{s:Scm}{f:Fld}(h:GdF s f):GdT s f.type:=⟨h.en,h.ms,h.ty⟩
theorem ZvQ{α:Type}[Inhabited α]{l:List α}{z:α}{p:α→Bool}{x:α}(b:x∈l)(a:p x=true):(Cp l z p).2=true:=by
 unfold Cp
 cases e:l.find? p with
 |none=>exact absurd a (List.find?_eq_none.1 e x b)
 |some y=>rfl
theorem ZOd{s:Scm}(h:∀(i:Nat) (m:Msg),s.messages[i]?=some m→GdM s m)(hs:Ar (Al s)≤1048576):GdS s:=by
 refine⟨fun n f a=>?_,fun n=>(ZIK h hs n).1⟩
 unfold BV Cp at a
 cases e:s.messages.find? fun m=>decide (m.name=n)with
 |none=>rw[e]at a;cases a
 |some m=>
  rw[e]at a
  obtain⟨i,hi⟩:=YD.1 (Y8 e)
  obtain⟨j,g⟩:=YD.1 (show f∈m.fields from a)
  obtain⟨_,c,⟨t1,t2,t3⟩,u⟩:=(h i m hi).df j f g
  refine⟨fun k=>?_,fun k=>?_,t3,u,fun k=>⟨(c.1 k).1,(c.1 k).2.1⟩,fun k=>(t2 k).2,c.2⟩
  ·obtain⟨x,b,d⟩:=t1 k
   exact ZvQ b (YV d)
  ·obtain⟨⟨x,b,d⟩,_⟩:=t2 k
   exact ZvQ b (YV d)
theorem TM{α ξ:Type}{B:Nat→Option (Lv Nat ξ Bool)}{N:Nat}(xs ys:List α)(e:ξ)(hl:xs.length=ys.length)
  (hs:∀(i:Nat) (x y:α),xs[i]?=some x→ys[i]?=some y→∃b:Bool,(b=true↔x=y)∧B i=some (if b=true then .nx (i+1)else .rt false)) (he:B xs.length=some (.ex e)) (hN:xs.length<N):
  Ok (Sum.elim (fun _=>xs=ys) (fun r:Bool=>r=false∧xs≠ys)) (Am B N 0):=by
 refine A8 (fun i:Nat=>i≤xs.length∧∀j:Nat,j<i→xs[j]?=ys[j]?) (fun i:Nat=>xs.length-i) ⟨Ft _,fun j c=>absurd c (GC _)⟩ (by omega) fun i hi=>?_
 obtain⟨l,d⟩:=hi
 by_cases h:i<xs.length
 ·have g:=Ya h
  have hy:=Ya (hl▸h:i<ys.length)
  obtain⟨b,f,k⟩:=hs i _ _ g hy
  rw[k]
  cases b with
  |true=>
   refine⟨_,rfl,⟨⟨h,fun j c=>?_⟩,by show xs.length-(i+1)<xs.length-i;omega⟩⟩
   by_cases a:j=i
   ·subst a
    rw[g,hy,f.1 rfl]
   ·exact d j (by omega)
  |false=>
   refine⟨_,rfl,rfl,fun a=>?_⟩
   subst a
   exact absurd (f.2 rfl) (by decide)
 ·have a:i=xs.length:=by omega
  subst a
  rw[he]
  refine⟨_,rfl,List.ext_getElem? fun j=>?_⟩
  by_cases c:j<xs.length
  ·exact d j c
  ·rw[YK (by omega),YK (by omega)]
abbrev DN{α:Type}(x y:α)(o:Option Bool):Prop:=Ok (fun b:Bool=>b=true↔x=y) o
theorem DN.no{α:Type}{x y:α}(h:x≠y):DN x y (some false):=⟨false,rfl,Iff.intro (fun e=>absurd e (by decide)) fun e=>absurd e h⟩
theorem DN.yes{α:Type}{x y:α}(h:x=y):DN x y (some true):=⟨true,rfl,Iff.intro (fun _=>h) fun _=>rfl⟩
theorem ZQ5{a b:Val}:a=b↔a.kind=b.kind∧a.bits=b.bits∧a.text=b.text∧a.list=b.list∧a.pairs=b.pairs∧a.slots=b.slots∧a.raws=b.raws:=by
 cases a
 cases b
 simp only[Val.kind,Val.bits,Val.text,Val.list,Val.pairs,Val.slots,Val.raws,Val.mk.injEq]
theorem ZVB{a b:Pr}:a=b↔a.key=b.key∧a.val=b.val:=by
 cases a
 cases b
 simp only[Pr.key,Pr.val,Pr.mk.injEq]
theorem ZRY{a b:Slt}:a=b↔a.num=b.num∧a.val=b.val:=by
 cases a
 cases b
 simp only[Slt.num,Slt.val,Slt.mk.injEq]
theorem ZRL{a b:Raw}:a=b↔a.num=b.num∧a.wire=b.wire∧a.bits=b.bits∧a.data=b.data:=by
 cases a
 cases b
 simp only[Raw.mk.injEq]
structure SzL (v:Val):Prop where
 l:v.list.length≤4194304
 p:v.pairs.length≤4194304
 s:v.slots.length≤4194304
 r:v.raws.length≤4194304
theorem SzV.l'{v:Val}(h:SzV v):SzL v:=⟨by have:=h.l;omega,by have:=h.p;omega,by have:=h.s;omega,by have:=h.r;omega⟩
theorem Zqx(R:Val→Val→Option Bool)(a b:Val)(M:SzL a)(A:SzL b)(hl:∀x∈a.list,∀y∈b.list,DN x y (R x y))(N:∀x∈a.pairs,∀y∈b.pairs,DN x.key y.key (R x.key y.key)∧DN x.val y.val (R x.val y.val))(hs:∀x∈a.slots,∀y∈b.slots,DN x.val y.val (R x.val y.val)):DN a b (Lu R a b):=by
 obtain⟨a1,Y,a3,a4⟩:=M
 obtain⟨Z,b2,b3,b4⟩:=A
 have G:a.list.length<4611686018427387904:=by omega
 have H:a.pairs.length<4611686018427387904:=by omega
 have I:a.slots.length<4611686018427387904:=by omega
 have J:a.raws.length<4611686018427387904:=by omega
 have k1:b.list.length<4611686018427387904:=by omega
 have k2:b.pairs.length<4611686018427387904:=by omega
 have k3:b.slots.length<4611686018427387904:=by omega
 have k4:b.raws.length<4611686018427387904:=by omega
 have P:a.list.length=b.list.length→Ok (Sum.elim (fun _=>a.list=b.list) (fun r:Bool=>r=false∧a.list≠b.list)) (Am (KQ a b R) Ai 0):=fun e=>TM a.list b.list () e (fun i x y d hy=>by
  have f:=BP d
  have j:i+1<9223372036854775808:=by have:=(Yd.1 d).1;omega
  obtain⟨r,g,l⟩:=hl x (Yk d) y (Yk hy)
  refine⟨r,l,?_⟩
  dsimp only[KQ,P4,br,ix,vz,wg,vs,Au,ln,Aj,cs,wa,Ah,br]
  simp only[G,f,d,hy,Yv,Yx,Ye]
  rw[g]
  cases r<;>simp[j]) (by dsimp only[KQ,P4,br,ix,vz,wg,vs,Au,ln,Aj,cs,wa,Ah,br];simp[G]) (A6 (by omega))
 have Q:a.pairs.length=b.pairs.length→Ok (Sum.elim (fun _=>a.pairs=b.pairs) (fun r:Bool=>r=false∧a.pairs≠b.pairs)) (Am (Ky a b R) Ai 0):=fun e=>TM a.pairs b.pairs () e (fun i x y d hy=>by
  have f:=BP d
  have j:i+1<9223372036854775808:=by have:=(Yd.1 d).1;omega
  have s:=BP hy
  have u:a.pairs.getD i Rw.z=x:=by rw[Ym,d];rfl
  have v:b.pairs.getD i Rw.z=y:=by rw[Ym,hy];rfl
  have w:(0:Int)≤i∧(i:Int)<a.pairs.length:=⟨by omega,f⟩
  have z:(0:Int)≤i∧(i:Int)<b.pairs.length:=⟨by omega,s⟩
  obtain⟨⟨r,g,l⟩,⟨t,q,O⟩⟩:=N x (Yk d) y (Yk hy)
  refine⟨r&&t,by rw[Yc,l,O,ZVB],?_⟩
  dsimp only[Ky,PH,br,ix,AS,vz,wg,vs,Au,ln,Aj,cs,ER,wa,Ah,br]
  simp only[H,f,d,hy,u,v,w,z,YX,Yv,Yx,Ye,Dx,EY]
  rw[g,q]
  cases r<;>cases t<;>simp[j]) (by dsimp only[Ky,PH,br,ix,AS,vz,wg,vs,Au,ln,Aj,cs,ER,wa,Ah,br];simp[H]) (A6 (by omega))
 have S:a.slots.length=b.slots.length→Ok (Sum.elim (fun _=>a.slots=b.slots) (fun r:Bool=>r=false∧a.slots≠b.slots)) (Am (KH a b R) Ai 0):=fun e=>TM a.slots b.slots () e (fun i x y d hy=>by
  have f:=BP d
  have j:i+1<9223372036854775808:=by have:=(Yd.1 d).1;omega
  have s:=BP hy
  have u:a.slots.getD i Rw.z=x:=by rw[Ym,d];rfl
  have v:b.slots.getD i Rw.z=y:=by rw[Ym,hy];rfl
  have w:(0:Int)≤i∧(i:Int)<a.slots.length:=⟨by omega,f⟩
  have z:(0:Int)≤i∧(i:Int)<b.slots.length:=⟨by omega,s⟩
  obtain⟨r,g,l⟩:=hs x (Yk d) y (Yk hy)
  refine⟨decide (x.num=y.num)&&r,by rw[Yc,Yw,l,ZRY],?_⟩
  dsimp only[KH,PE,br,ix,AS,vz,wg,vs,Au,ln,Aj,ER,wa,Ah,br]
  simp only[I,f,d,hy,u,v,w,z,YX,Yv,Yx,Ye,Dx,EY]
  rw[g]
  cases r<;>cases decide (x.num=y.num)<;>simp[j]) (by dsimp only[KH,PE,br,ix,AS,vz,wg,vs,Au,ln,Aj,ER,wa,Ah,br];simp[I]) (A6 (by omega))
 have T:a.raws.length=b.raws.length→Ok (Sum.elim (fun _=>a.raws=b.raws) (fun r:Bool=>r=false∧a.raws≠b.raws)) (Am (Ku a b R) Ai 0):=fun e=>TM a.raws b.raws () e (fun i x y d hy=>by
  have f:=BP d
  have j:i+1<9223372036854775808:=by have:=(Yd.1 d).1;omega
  refine⟨decide (x.num=y.num)&&(decide (x.wire=y.wire)&&(decide (x.bits=y.bits)&&decide (x.data=y.data))),by simp only[Yc,Yw,ZRL],?_⟩
  dsimp only[Ku,P0,br,ix,vz,wg,vs,Au,ln,Aj,wa,Ah,br]
  simp only[J,f,d,hy,Yv,Yx,Ye,NQ]
  cases decide (x.num=y.num)&&(decide (x.wire=y.wire)&&(decide (x.bits=y.bits)&&decide (x.data=y.data)))<;>simp[j]) (by dsimp only[Ku,P0,br,ix,vz,wg,vs,Au,ln,Aj,wa,Ah,br];simp[J]) (A6 (by omega))
 dsimp only[Lu,Vs,RI,Rc,WM,Wh,VQ,br,vy,wg,lr,lc,Ah,br]
 by_cases c:a.kind=b.kind∧a.bits=b.bits∧a.text=b.text∧a.list.length=b.list.length∧a.pairs.length=b.pairs.length∧a.slots.length=b.slots.length∧a.raws.length=b.raws.length
 ·obtain⟨B,C,k,D,E,c6,F⟩:=c
  obtain⟨U,g,m⟩:=P D
  obtain⟨V,q,n⟩:=Q E
  obtain⟨W,K,o⟩:=S c6
  obtain⟨X,L,p⟩:=T F
  simp only[B,C,k,D,E,c6,F,Yv,Y5,QI,Yu,Y1,g,q,K,L,Ye]
  cases U with
  |inr y=>
   obtain⟨rfl,m⟩:=m
   exact DN.no fun h=>m (by rw[h])
  |inl y=>
  cases V with
  |inr y=>
   obtain⟨rfl,n⟩:=n
   exact DN.no fun h=>n (by rw[h])
  |inl y=>
  cases W with
  |inr y=>
   obtain⟨rfl,o⟩:=o
   exact DN.no fun h=>o (by rw[h])
  |inl y=>
  cases X with
  |inr y=>
   obtain⟨rfl,p⟩:=p
   exact DN.no fun h=>p (by rw[h])
  |inl y=>exact DN.yes (ZQ5.2 ⟨B,C,k,m,n,o,p⟩)
 ·have A:((((((!decide (a.kind=b.kind))||(!decide (a.bits=b.bits)))||(!decide (a.text=b.text)))||(!decide ((a.list.length:Int)=(b.list.length:Int))))||(!decide ((a.pairs.length:Int)=(b.pairs.length:Int))))||(!decide ((a.slots.length:Int)=(b.slots.length:Int)))||(!decide ((a.raws.length:Int)=(b.raws.length:Int))))=true:=by
   by_cases k:a.text=b.text
   ·simp only[YF,YN,YM]
    simp only[k,Li]at c
    omega
   ·simp[k]
  rw[A]
  exact DN.no fun h=>c (by rw[h];exact⟨rfl,rfl,rfl,rfl,rfl,rfl,rfl⟩)
theorem Py:∀(d:Nat) (a b:Val),Ar (Ag a)<d→Bk a→Bk b→DN a b (Dz d a b)
 |0,a,b,h,_,_=>by omega
 |d+1,a,b,h,e,f=>Zqx (Dz d) a b (Ex e).l' (Ex f).l'
  (fun x c y hy=>Py d x y (by have:=Zp c;omega) (MR e c) (MR f hy))
  (fun x c y hy=>⟨Py d x.key y.key (by have:=(MU c).1;omega) (FG e c).1 (FG f hy).1,Py d x.val y.val (by have:=(MU c).2;omega) (FG e c).2 (FG f hy).2⟩)
  (fun x c y hy=>Py d x.val y.val (by have:=bM c;omega) (KD e c) (KD f hy))
theorem ZWu{a b:Val}(c:Bk a)(d:Bk b):DN a b (Dz Ai a b):=Py Ai a b (by have h:Ar (Ag a)≤1048576:=c;exact A6 (by omega)) c d
def Dg(v:Val):Val:=if v.kind=6∧Lr v.bits.toNat=true then .mk v.kind 9221120237041090560 v.text v.list v.pairs v.slots v.raws else v
def Gt(a b:Val):Int:=if a.kind≠b.kind then Gs a.kind b.kind else if a.kind=7∨a.kind=8 then nm a.text b.text else if a.kind=2∨a.kind=3 then Gs (IntKind.u64.wrap (a.bits+9223372036854775808)) (IntKind.u64.wrap (b.bits+9223372036854775808))else if a.kind=6 then Gs (Nk a.bits.toNat) (Nk b.bits.toNat)else Gs a.bits b.bits
def Jb(out:List Pr)(p:Pr):Nat:=out.findIdx fun q=>!decide (Gt q.key p.key<0)
def Jz(out:List Pr)(p:Pr):List Pr:=out.take (Jb out p)++([p]++out.drop (Jb out p))
def Dp(l:List Pr):Nat→List Pr
 |0=>[]
 |i+1=>match l[i]? with
  |some p=>if((l.drop (i+1)).any fun q=>decide (Gt p.key q.key=0))=true then Dp l i else Jz (Dp l i) p
  |none=>Dp l i
def dv(l:List Pr):List Pr:=Dp l l.length
def G3(out:List Raw)(x:Raw):Nat→Nat
 |0=>0
 |k+1=>if x.num<(out.getD k Rw.z).num then G3 out x k else k+1
def IJ(out:List Raw)(x:Raw):List Raw:=(out.take (G3 out x out.length)++[x])++out.drop (G3 out x out.length)
def FX(l:List Raw):List Raw:=l.foldl IJ []
def Dq(R:ByteArray→Val→Val)(t:Typ)(v:Val):Val:=if t.kind=10 then R t.name v else Dg v
def CD(R:ByteArray→Val→Val)(f:Fld)(v:Val):Val:=
 if f.card=4 then .mk 11 0 ⟨#[]⟩ (v.list.map (Dq R f.type)) [] [] []
 else if f.card=5 then .mk 12 0 ⟨#[]⟩ [] (dv (v.pairs.map fun p=>.mk (Dg p.key) (Dq R f.type p.val))) [] []
 else Dq R f.type v
def dA(v:Val):Bool:=decide (1≤v.kind∧v.kind≤9)&&LA v&&decide (v.bits=0)&&decide (v.text=⟨#[]⟩)
def Ce(f:Fld)(v:Val):Bool:=if f.card=4 then decide (v.list.length=0)else if f.card=5 then decide (v.pairs.length=0)else decide (f.card=3)&&dA v
def Cq(N:Fld→Val→Val)(F:List Fld)(l:List Slt):List Slt:=F.flatMap fun f=>(l.filter fun x=>decide (x.num=f.num)&&!Ce f x.val).map fun x=>.mk f.num (N f x.val)
def BQ(s:Scm):Nat→ByteArray→Val→Val
 |0,_,v=>v
 |d+1,n,v=>.mk 10 0 ⟨#[]⟩ [] [] (Cq (CD (BQ s d)) (BV s n) v.slots) (FX v.raws)
def GS(l:List Slt):Prop:=l.Pairwise fun a b=>a.num<b.num
def oM(N:Fld→Val→Val)(F:List Fld)(x:Slt):Prop:=(CB F x.num).2=true∧Ce (BG F x.num) x.val=false∧N (BG F x.num) x.val=x.val
theorem jD{F:List Fld}(h:C3 F F.length):F.Pairwise fun a b=>a.num<b.num:=by
 rw[XI]
 intro i j hi d c
 exact VB h (j-(i+1)) i _ _ (Ya hi) (by rw[show i+1+(j-(i+1))=j by omega];exact Ya d)
theorem ZjB{l:List Slt}(h:l.Pairwise fun a b=>a.num≠b.num)(p:Slt→Bool){x:Slt}(c:x∈l)(i:p x=true):(l.filter fun y=>decide (y.num=x.num)&&p y)=[x]:=by
 induction l with
 |nil=>cases c
 |cons y l k=>
  obtain⟨d,g⟩:=Hk.1 h
  rcases YG.1 c with e|c
  ·subst e
   have f:(l.filter fun z=>decide (z.num=x.num)&&p z)=[]:=by
    rw[QG]
    intro z j
    have:=d z j
    simp only[Yc,Yw,not_and]
    exact fun e=>absurd e.symm this
   rw[Ld,f]
   simp[i]
  ·have:=d x c
   rw[Ld,k g c]
   simp[this]
theorem ZhL{l:List Slt}(k:Int)(p:Slt→Bool)(h:∀x∈l,x.num=k→p x=false):(l.filter fun y=>decide (y.num=k)&&p y)=[]:=by
 rw[QG]
 intro z a
 simp only[Yc,Yw,not_and]
 intro e
 rw[h z a e]
 decide
theorem Zul{N:Fld→Val→Val}{F:List Fld}{l:List Slt}{z:Slt}:z∈Cq N F l↔∃f∈F,∃x∈l,x.num=f.num∧Ce f x.val=false∧z=.mk f.num (N f x.val):=by
 unfold Cq
 rw[List.mem_flatMap]
 constructor
 ·rintro⟨f,c,h⟩
  obtain⟨x,d,rfl⟩:=YI.1 h
  obtain⟨b,a⟩:=Y6.1 d
  simp only[Yc,Yw,YN]at a
  exact⟨f,c,x,b,a.1,a.2,rfl⟩
 ·rintro⟨f,c,x,d,b,a,rfl⟩
  exact⟨f,c,YI.2 ⟨x,Y6.2 ⟨d,by simp[b,a]⟩,rfl⟩⟩
theorem Zv3{N:Fld→Val→Val}:∀{F:List Fld} {l:List Slt},(F.Pairwise fun a b=>a.num<b.num)→(l.Pairwise fun a b=>a.num≠b.num)→GS (Cq N F l)
 |[],l,_,_=>by unfold Cq GS;simp
 |f::F,l,h,hl=>by
  obtain⟨j,k⟩:=Hk.1 h
  have o:=Zv3 (N:=N) (l:=l) k hl
  show GS ((l.filter fun x=>decide (x.num=f.num)&&!Ce f x.val).map (fun x=>Slt.mk f.num (N f x.val))++Cq N F l)
  unfold GS
  rw[List.pairwise_append]
  refine⟨?_,o,fun a m b n=>?_⟩
  ·rw[List.pairwise_map]
   by_cases c:∃x∈l,x.num=f.num∧Ce f x.val=false
   ·obtain⟨x,i,e,d⟩:=c
    have:=ZjB hl (fun y=>!Ce f y.val) i (by rw[d];rfl)
    rw[←e,this]
    exact List.pairwise_singleton _ _
   ·rw[ZhL f.num (fun y=>!Ce f y.val) fun x i e=>by
     cases d:Ce f x.val with
     |true=>rfl
     |false=>exact absurd ⟨x,i,e,d⟩ c]
    exact List.Pairwise.nil
  ·obtain⟨x,_,rfl⟩:=YI.1 m
   obtain⟨g,hg,y,_,_,_,rfl⟩:=Zul.1 n
   exact j g hg
theorem ZKh{l:List Slt}(h:GS l):l.Pairwise fun a b=>a.num≠b.num:=h.imp fun h=>by omega
theorem Zsj:∀{a b:List Slt},GS a→GS b→(∀x,x∈a↔x∈b)→a=b
 |[],[],_,_,_=>rfl
 |[],y::b,_,_,h=>absurd ((h y).2 YB) XH
 |x::a,[],_,_,h=>absurd ((h x).1 YB) XH
 |x::a,y::b,j,k,h=>by
  obtain⟨a1,g⟩:=Hk.1 j
  obtain⟨f,i⟩:=Hk.1 k
  have e:x=y:=by
   rcases YG.1 ((h x).1 YB)with e|e
   ·exact e
   ·rcases YG.1 ((h y).2 YB)with d|d
    ·exact d.symm
    ·have l:=a1 y d
     have m:=f x e
     omega
  subst e
  rw[Zsj g i fun z=>?_]
  constructor
  ·intro c
   rcases YG.1 ((h z).1 (Ys _ c))with e|e
   ·subst e
    have:=a1 z c
    omega
   ·exact e
  ·intro c
   rcases YG.1 ((h z).2 (Ys _ c))with e|e
   ·subst e
    have:=f z c
    omega
   ·exact e
theorem ZB0{N:Fld→Val→Val}{F:List Fld}(h:C3 F F.length){l:List Slt}(i:GS l)(j:∀x∈l,oM N F x):Cq N F l=l:=by
 refine Zsj (Zv3 (jD h) (ZKh i)) i fun z=>?_
 rw[Zul]
 constructor
 ·rintro⟨f,o,x,k,g,p,rfl⟩
  obtain⟨a,n,b⟩:=j x k
  have e:BG F x.num=f:=by
   unfold BG
   rw[g,Kr h o]
  rw[e]at b
  rw[b,←g]
  cases x
  exact k
 ·intro m
  obtain⟨a,n,b⟩:=j z m
  rcases ZMI F z.num with⟨c,d⟩|⟨c,d⟩
  ·rw[a]at c;cases c
  ·refine⟨_,d,z,m,(gL a).symm,n,?_⟩
   rw[b,gL a]
   cases z
   rfl
theorem Ki{α:Type}(f:α→Int)(l:List α):Ci (fun _ x=>f x) l 0=0↔∀x∈l,f x=0:=by
 rw[Mr]
 constructor
 ·intro h x b
  obtain⟨j,a⟩:=YD.1 b
  exact h j x a
 ·intro h j x a
  exact h x (Yk a)
def Jm(F:List Fld)(a b:Slt):Prop:=¬((BG F a.num).union=(BG F b.num).union∧(BG F b.num).union≠⟨#[]⟩)
theorem Jm.symm{F:List Fld}{a b:Slt}(h:Jm F a b):Jm F b a:=fun⟨e,k⟩=>h ⟨e.symm,by rw[←e]at*;exact k⟩
theorem jy{R:Fld→Val→Int}{F:List Fld}{l:List Slt}{i:Nat}{x:Slt}:FN R F l i x=0↔(CB F x.num).2=true∧(∀y∈l.take i,y.num≠x.num∧Jm F y x)∧R (BG F x.num) x.val=0:=by
 unfold FN
 cases f:(CB F x.num).2 with
 |false=>simp
 |true=>
  rw[Yj (by decide)]
  by_cases b:Gl (l.take i) x.num=true
  ·rw[Yg b]
   constructor
   ·intro h;cases h
   ·rintro⟨_,h,_⟩
    obtain⟨y,hy,e⟩:=YQ.1 b
    exact absurd (Y3 e) (h y hy).1
  ·rw[Yj b]
   have c:∀y∈l.take i,y.num≠x.num:=fun y hy e=>b (YQ.2 ⟨y,hy,YV e⟩)
   by_cases a:J5 F (l.take i) (BG F x.num).union=true
   ·rw[Yg a]
    constructor
    ·intro h;cases h
    ·rintro⟨_,h,_⟩
     unfold J5 at a
     rw[Yc,YN,YM]at a
     obtain⟨y,hy,e⟩:=YQ.1 a.2
     exact absurd ⟨Y3 e,a.1⟩ (h y hy).2
   ·rw[Yj a]
    have d:∀y∈l.take i,Jm F y x:=fun y hy ⟨e,k⟩=>a (by
     unfold J5
     rw[Yc,YN,YM]
     exact⟨k,YQ.2 ⟨y,hy,YV e⟩⟩)
    exact⟨fun h=>⟨rfl,fun y hy=>⟨c y hy,d y hy⟩,h⟩,fun h=>h.2.2⟩
theorem Zo2{R:Fld→Val→Int}{F:List Fld}{l:List Slt}:Ci (FN R F l) l 0=0↔(l.Pairwise fun a b=>a.num≠b.num∧Jm F a b)∧∀x∈l,(CB F x.num).2=true∧R (BG F x.num) x.val=0:=by
 rw[Mr,XI]
 constructor
 ·intro h
  refine⟨fun i j hi d c=>?_,fun x e=>?_⟩
  ·have:=h j _ (Ya d)
   rw[YJ,jy]at this
   exact this.2.1 l[i] (YD.2 ⟨i,by rw[YR,Yg c];exact Ya hi⟩)
  ·obtain⟨j,d⟩:=YD.1 e
   have:=h j x d
   rw[YJ,jy]at this
   exact⟨this.1,this.2.2⟩
 ·rintro⟨k,m⟩ j x d
  rw[YJ,jy]
  have e:=m x (Yk d)
  obtain⟨g,rfl⟩:=Yd.1 d
  refine⟨e.1,fun y hy=>?_,e.2⟩
  obtain⟨i,hi⟩:=YD.1 hy
  rw[YR]at hi
  split at hi
  ·rename_i c
   obtain⟨f,rfl⟩:=Yd.1 hi
   exact k i j f g c
  ·cases hi
structure OkM (s:Scm) (k:Bool) (d:Nat) (m:Msg) (v:Val):Prop where
 kd:v.kind=10
 ot:CA v=false
 pw:v.slots.Pairwise fun a b=>a.num≠b.num∧Jm m.fields a b
 sl:∀x∈v.slots,(CB m.fields x.num).2=true∧CK (Bc s k d) s k (BG m.fields x.num) x.val=0
 rq:∀f∈m.fields,f.card=1→Gl v.slots f.num=true
 rw:∀x∈v.raws,JX s m.fields x=0
theorem qB{l:List Slt}{f:Fld}:HW l f=0↔(f.card=1→Gl l f.num=true):=by
 unfold HW
 by_cases c:f.card=1
 ·cases h:Gl l f.num<;>simp[c]
 ·simp[c]
theorem Zqt{s:Scm}{k:Bool}{d:Nat}{m:Msg}{v:Val}(h:Bc s k d m v=0):v.kind=10∧CA v=false:=by
 have:¬(v.kind≠10∨CA v=true):=fun c=>by
  cases d<;>(unfold Bc at h;rw[Yg c]at h;cases h)
 refine⟨Decidable.not_not.1 fun e=>this (.inl e),?_⟩
 cases a:CA v with
 |false=>rfl
 |true=>exact absurd (.inr a) this
theorem MJ{s:Scm}{k:Bool}{d:Nat}{m:Msg}{v:Val}:Bc s k (d+1) m v=0↔OkM s k d m v:=by
 constructor
 ·intro h
  have g:=Zqt h
  unfold Bc at h
  rw[Yj (fun c=>c.elim (fun e=>e g.1) (fun e=>by rw[g.2]at e;cases e))]at h
  by_cases a:Ci (FN (CK (Bc s k d) s k) m.fields v.slots) v.slots 0=0
  ·rw[Yj (fun e=>e a)]at h
   by_cases b:Ci (fun _ f=>HW v.slots f) m.fields 0=0
   ·rw[Yj (fun e=>e b)]at h
    obtain⟨a1,j⟩:=Zo2.1 a
    exact⟨g.1,g.2,a1,j,fun f i=>qB.1 ((Ki _ _).1 b f i),fun x t=>(Ki _ _).1 h x t⟩
   ·rw[Yg b]at h;exact absurd h b
  ·rw[Yg a]at h;exact absurd h a
 ·rintro⟨l,n,o,p,q,r⟩
  unfold Bc
  have a:Ci (FN (CK (Bc s k d) s k) m.fields v.slots) v.slots 0=0:=Zo2.2 ⟨o,p⟩
  have b:Ci (fun _ f=>HW v.slots f) m.fields 0=0:=(Ki _ _).2 fun f i=>qB.2 (q f i)
  rw[Yj (fun c=>c.elim (fun e=>e l) (fun e=>by rw[n]at e;cases e)),Yj (fun e=>e a),Yj (fun e=>e b)]
  exact(Ki _ _).2 r
theorem gI{s:Scm}{R a:Msg→Val→Int}(h:∀m v,R m v=0→a m v=0){t:Typ}{v:Val}(e:Dk R s t v=0):Dk a s t v=0:=by
 unfold Dk at e⊢
 by_cases c:t.kind=10
 ·rw[Yg c]at e⊢
  split at e
  ·rw[Yg (by assumption)];exact h _ _ e
  ·cases e
 ·rw[Yj c]at e⊢
  exact e
theorem wr{E:Val→Int}{key:Int}{k:Bool}{l:List Pr}{i:Nat}{p:Pr}:Ly E key k l i p=0↔Ej key p.key=0∧¬(k=true∧((l.take i).any fun q=>JI q.key p.key)=true)∧E p.val=0:=by
 unfold Ly
 by_cases a:Ej key p.key=0
 ·rw[Yj (fun e=>e a)]
  by_cases b:k=true∧((l.take i).any fun q=>JI q.key p.key)=true
  ·rw[Yg b]
   exact Iff.intro (fun h=>by cases h) fun h=>absurd b h.2.1
  ·rw[Yj b]
   exact⟨fun h=>⟨a,b,h⟩,fun h=>h.2.2⟩
 ·rw[Yg a]
  exact⟨fun h=>absurd h a,fun h=>absurd h.1 a⟩
theorem ZAd{s:Scm}{k:Bool}{R a:Msg→Val→Int}(h:∀m v,R m v=0→a m v=0){f:Fld}{v:Val}(e:CK R s k f v=0):CK a s k f v=0:=by
 unfold CK at e⊢
 by_cases b:f.card=4
 ·rw[Yg b]at e⊢
  split at e
  ·cases e
  ·rw[Yj (by assumption),Ki]
   rw[Ki]at e
   exact fun x g=>gI h (e x g)
 ·rw[Yj b]at e⊢
  by_cases c:f.card=5
  ·rw[Yg c]at e⊢
   split at e
   ·cases e
   ·rw[Yj (by assumption),Mr]
    rw[Mr]at e
    intro j x d
    have:=e j x d
    rw[wr]at this⊢
    exact⟨this.1,this.2.1,gI h this.2.2⟩
  ·rw[Yj c]at e⊢
   exact gI h e
theorem Zpc{s:Scm}{k:Bool}:∀(d:Nat) (m:Msg) (v:Val),Bc s k d m v=0→Bc s k (d+1) m v=0
 |0,m,v,h=>by
  unfold Bc at h
  split at h<;>cases h
 |d+1,m,v,h=>by
  obtain⟨c,e,f,a,g,i⟩:=MJ.1 h
  exact MJ.2 ⟨c,e,f,fun x b=>⟨(a x b).1,ZAd (fun m v=>Zpc d m v) (a x b).2⟩,g,i⟩
theorem qu{s:Scm}{k:Bool}{n:ByteArray}{v:Val}:JS s k n v=0↔(B1 s n).2=true∧OkM s k 15 (B1 s n).1 v∧cnt v≤4096:=by
 rw[←MJ]
 unfold JS
 cases b:(B1 s n).2 with
 |false=>simp
 |true=>
  rw[Yj (by decide)]
  by_cases c:Bc s k 16 (B1 s n).1 v=0
  ·rw[Yj (fun e=>e c)]
   by_cases a:4096<cnt v
   ·rw[Yg a]
    exact Iff.intro (fun h=>by cases h) fun h=>by have:=h.2.2;omega
   ·rw[Yj a]
    exact⟨fun _=>⟨rfl,c,by omega⟩,fun _=>rfl⟩
  ·rw[Yg c]
   exact⟨fun h=>absurd h c,fun h=>absurd h.2.1 c⟩
theorem ic{v:Val}(b:Bk v):∃n:Nat,v.bits=n∧n<18446744073709551616∧v.bits.toNat=n:=by
 obtain⟨n,a⟩:=oQ (yt b).1
 exact⟨n,a,by have:=(yt b).2;omega,by rw[a];rfl⟩
theorem ri{v:Val}(h:Bk v):Ov v=some (Dg v):=by
 obtain⟨n,d,f,g⟩:=ic h
 obtain⟨y,e,a⟩:=ZXD f
 rw[←d]at e
 unfold Dg
 dsimp only[Ov,We,br,wg,lr,AC,br]
 rw[e,g]
 by_cases c:v.kind=6
 ·cases b:Lr n with
  |true=>
   rw[b,Yw]at a
   simp[c,a]
  |false=>
   rw[b,YM]at a
   simp[c,a]
 ·simp[c]
theorem ZIA{v:Val}(h:SzV v):ew v=some (dA v):=by
 have a:L2 v.kind=some (decide (1≤v.kind)&&decide (v.kind≤9)):=rfl
 dsimp only[ew,Zi,wg,lr,cl,AC]
 rw[a,pA h,Ye]
 unfold dA
 rw[Xu]
 cases(decide (1≤v.kind)&&decide (v.kind≤9))<;>cases LA v<;>cases decide (v.bits=0)<;>cases decide (v.text=⟨#[]⟩)<;>rfl
theorem ZY7(f:Fld){v:Val}(h:SzV v):em f v=some (Ce f v):=by
 have d:v.list.length<4611686018427387904:=by have:=h.l;omega
 have e:v.pairs.length<4611686018427387904:=by have:=h.p;omega
 have g:decide ((v.list.length:Int)=0)=decide (v.list.length=0):=decide_eq_decide.2 (by omega)
 have i:decide ((v.pairs.length:Int)=0)=decide (v.pairs.length=0):=decide_eq_decide.2 (by omega)
 unfold Ce
 dsimp only[em,bn,br,vz,wg,lr,AC,Ah,br]
 rw[ZIA h]
 by_cases b:f.card=4
 ·simp[b,d]
 ·by_cases c:f.card=5
  ·simp[c,e]
  ·by_cases a:f.card=3
   ·simp[a]
   ·simp[a,b,c]
theorem Ztz{a b:Val}(v:1≤a.kind∧a.kind≤9)(g:Bk a)(i:Bk b):OB Ai a b=some (Gt a b):=by
 obtain⟨n,s,m,o⟩:=ic g
 obtain⟨k,r,j,l⟩:=ic i
 have w:(Ai:Nat)=(Ai-1)+1:=by have:=yp;omega
 rw[w]
 show V2 (OB (Ai-1)) a b=_
 unfold Gt
 dsimp only[V2,i7,br,wg,lr,cl,cs,br]
 by_cases he:a.kind=b.kind
 ·have a1:¬a.kind=11:=by omega
  have u:¬a.kind=12:=by omega
  have a3:¬a.kind=10:=by omega
  have z:=ZYB m s
  have t:=ZYB j r
  rw[←he]at t
  have e:(decide (1≤b.kind)&&decide (b.kind≤9))=true:=by rw[←he];simp[v]
  have q:eP a b=some (if a.kind=7∨a.kind=8 then nm a.text b.text else if a.kind=2∨a.kind=3 then Gs (IntKind.u64.wrap (a.bits+9223372036854775808)) (IntKind.u64.wrap (b.bits+9223372036854775808))else if a.kind=6 then Gs (Nk a.bits.toNat) (Nk b.bits.toNat)else Gs a.bits b.bits):=by
   have y:¬a.kind<b.kind:=by omega
   have x:¬b.kind<a.kind:=by omega
   dsimp only[eP,j6,br,wg,lr,cl,br,L2,kX,lr,L6,Pc,lr]
   simp only[he,e,Ye,Y2,Yx,Int.lt_irrefl,Y5,Yu,Y1]
   rw[←he]
   by_cases d:a.kind=7∨a.kind=8
   ·have c:(decide (a.kind=7)||decide (a.kind=8))=true:=by simpa using d
    rw[Yg d]
    simp only[c,Yx,F4]
    unfold nm
    cases h:BZ a.text b.text with
    |true=>simp
    |false=>by_cases f:a.text=b.text<;>simp[f]
   ·have c:(decide (a.kind=7)||decide (a.kind=8))=false:=by simpa using d
    rw[Yj d]
    simp only[c,Yu,Y1,Hg,z,t,Ye]
    have A:∀a b:Int,(if decide (a<b)=true then some (-1:Int)else if decide (b<a)=true then some 1 else some 0)=some (Gs a b):=fun a b=>by
     unfold Gs
     by_cases h:a<b
     ·simp[h]
     ·by_cases f:b<a<;>simp[h,f]
    rw[A,o,l,s,r]
    by_cases hs:a.kind=2∨a.kind=3
    ·simp only[hs,Yx]
    ·simp only[hs,Y1]
     by_cases p:a.kind=6
     ·simp only[p,Yx]
     ·simp only[p,Y1]
  rw[←he]
  simp only[a1,u,a3,Yv,Y2,Y5,Yu,Y1,q,Ye,ne_eq,QV]
 ·simp only[he,Y2,DY,Yx,Z0c,Ye,ne_eq,NL]
theorem ZX{α:Type}{p:α→Bool}:∀{l:List α} {v:Nat},v≤l.length→(∀(j:Nat) (x:α),j<v→l[j]?=some x→p x=false)→(∀x,l[v]?=some x→p x=true)→l.findIdx p=v
 |[],v,h,_,_=>by simp at h;subst h;rfl
 |x::l,0,_,_,a=>by rw[List.findIdx_cons,a x rfl];rfl
 |x::l,v+1,h,b,a=>by
  rw[List.findIdx_cons,b 0 x (by omega) rfl]
  show l.findIdx p+1=v+1
  rw[ZX (v:=v) (by simpa using h) (fun j y c hy=>b (j+1) y (by omega) hy) fun y hy=>a y hy]
theorem ON{l:List Pr}:∀{i:Nat} {p:Pr},p∈Dp l i→p∈l
 |0,p,h=>by cases h
 |i+1,p,h=>by
  unfold Dp at h
  cases e:l[i]? with
  |none=>rw[e]at h;exact ON h
  |some q=>
   rw[e]at h
   dsimp only at h
   split at h
   ·exact ON h
   ·unfold Jz at h
    rcases Hf.1 h with h|h
    ·exact ON (XN h)
    ·rcases Hf.1 h with h|h
     ·rw[Hj.1 h]
      exact Yk e
     ·exact ON (Nz h)
theorem ZzC(l:List Pr)(p:Pr):(Jz l p).length=l.length+1:=by
 unfold Jz
 rw[Yo,Yo,Yy,YP]
 simp
 omega
theorem ZoJ(l:List Pr):∀i:Nat,(Dp l i).length≤i
 |0=>Yf _
 |i+1=>by
  have a:=ZoJ l i
  unfold Dp
  cases l[i]? with
  |none=>exact QX a
  |some q=>
   dsimp only
   split
   ·omega
   ·rw[ZzC];omega
theorem ZMk(l:List Pr)(hl:l.length≤1048576)(u:∀p∈l,(1≤p.key.kind∧p.key.kind≤9)∧Bk p.key):dX l=some (dv l):=by
 have w:l.length<4611686018427387904:=by omega
 have U:∀(out:List Pr) (i:Nat) (p:Pr),l[i]?=some p→Am (MO l out i) Ai (true,i+1)=some (.inl (!(l.drop (i+1)).any fun q=>decide (Gt p.key q.key=0))):=by
  intro out i p f
  have hi:=(Yd.1 f).1
  have q:=Eh (B:=MO l out i) (N:=Ai) (ρ:=List Pr) (l.drop (i+1)) (fun x=>!x.any fun q=>decide (Gt p.key q.key=0)) (fun j b=>(b,i+1+j)) id (fun j x h=>by
   rw[YO]at h
   have m:((i+1+j:Nat):Int)<l.length:=BP h
   have n:i+1+j+1<9223372036854775808:=by have:=(Yd.1 h).1;omega
   have C:l.getD i Rw.z=p:=by rw[Ym,f];rfl
   have D:l.getD (i+1+j) Rw.z=x:=by rw[Ym,h];rfl
   have E:(0:Int)≤i∧(i:Int)<l.length:=by omega
   have F:(0:Int)≤((i+1+j:Nat):Int)∧((i+1+j:Nat):Int)<l.length:=⟨by omega,m⟩
   have r:=u p (Yk f)
   have e:=Ztz r.1 r.2 (u x (Yk h)).2
   rw[List.any_append]
   generalize ((l.drop (i+1)).take j).any (fun q=>decide (Gt p.key q.key=0))=t
   dsimp only[MO,Ry,br,AS,vz,vs,v2,ln,Aj,AC,wa,Ah,br]
   simp only[w,m,C,D,E,F,e,YX,Yv,Yx,Dx,EY,Hl,YU]
   rw[Yg n]
   cases t<;>simp[List.any_cons,YE]) (by
   dsimp only[MO,Ry,br,AS,vz,vs,v2,ln,Aj,AC,wa,Ah,br]
   have g:¬((i+1+(l.drop (i+1)).length:Nat):Int)<l.length:=by rw[YP];omega
   simp only[w,g,Y2,Yu,Yx,Y1]
   rfl) (by rw[YP];exact A6 (by omega))
  exact q
 have V:∀(out:List Pr) (i:Nat) (p:Pr),l[i]?=some p→(∀q∈out,q∈l)→out.length≤1048576→Am (MY l out i) Ai 0=some (.inl (Jb out p)):=by
  intro out i p f R S
  have hi:=(Yd.1 f).1
  have w2:out.length<4611686018427387904:=by omega
  have C:l.getD i Rw.z=p:=by rw[Ym,f];rfl
  have E:(0:Int)≤i∧(i:Int)<l.length:=by omega
  have q:Ok (Sum.elim (fun y:Nat=>y=Jb out p) No) (Am (MY l out i) Ai 0):=by
   refine A8 (fun v:Nat=>v≤out.length∧∀(j:Nat) (x:Pr),j<v→out[j]?=some x→(!decide (Gt x.key p.key<0))=false) (fun v:Nat=>out.length-v) ⟨Ft _,fun j x L=>absurd L (GC _)⟩ (A6 (by omega)) fun v T=>?_
   obtain⟨K,z⟩:=T
   by_cases c:v<out.length
   ·have h:=Ya c
    have hm:=Io c
    generalize out[v]=x at h hm
    have m:(v:Int)<out.length:=by omega
    have n:v+1<9223372036854775808:=by omega
    have D:out.getD v Rw.z=x:=by rw[Ym,h];rfl
    have F:(0:Int)≤v∧(v:Int)<out.length:=by omega
    have s:=u x (R x hm)
    have e:=Ztz s.1 s.2 (u p (Yk f)).2
    dsimp only[MY,RB,br,AS,vz,vs,v2,ln,Aj,AC,wa,Ah,br]
    simp only[w2,m,C,D,E,F,e,YX,Yv,Yx,Dx,EY,Hl,YU,F4]
    by_cases d:Gt x.key p.key<0
    ·rw[YV d,Yg rfl,Yg n]
     refine⟨_,rfl,⟨⟨by omega,fun j y L hy=>?_⟩,by omega⟩⟩
     by_cases Q:j=v
     ·subst Q
      rw[h]at hy
      cases hy
      rw[YV d];rfl
     ·exact z j y (by omega) hy
    ·rw[Fv d,Yj (by decide)]
     refine⟨_,rfl,?_⟩
     exact(ZX K z fun y hy=>by rw[h]at hy;cases hy;rw[Fv d];rfl).symm
   ·have m:¬(v:Int)<out.length:=by omega
    dsimp only[MY,RB,br,AS,vz,vs,v2,ln,Aj,AC,wa,Ah,br]
    simp only[w2,m,Y2,Yu,XS,Hg,Yx,Y1]
    refine⟨_,rfl,?_⟩
    exact(ZX K z fun y hy=>by have:=(Yd.1 hy).1;omega).symm
  obtain⟨y,e,a⟩:=q
  cases y with
  |inr y=>exact a.elim
  |inl y=>
   have a:y=Jb out p:=a
   rw[e,a]
 have O:=Eh (B:=PG l) (N:=Ai) (ρ:=List Pr) l (fun p=>Dp l p.length) (fun i b=>(b,i)) id (fun i p f=>by
  have m:=BP f
  have hi:=(Yd.1 f).1
  have n:i+1<9223372036854775808:=by omega
  have M:(l.take i).length=i:=by rw[Yy];omega
  have A:(l.take i++[p]).length=i+1:=by rw[Yo,M];rfl
  have hm:=fun q=>@ON l i q
  have o:=ZoJ l i
  have hs:Dp l (i+1)=if((l.drop (i+1)).any fun q=>decide (Gt p.key q.key=0))=true then Dp l i else Jz (Dp l i) p:=by
   rw[Dp,f]
  rw[M,A,hs]
  unfold Jz
  generalize Dp l i=out at hm o⊢
  have P:=U out i p f
  have J:=V out i p f hm (by omega)
  have a1:Jb out p≤out.length:=List.findIdx_le_length
  generalize Jb out p=k at J a1⊢
  have G:(out.take k).length+(([p]:List Pr)++out.drop k).length<549755813888:=by rw[Yo,Yy,YP,Jo];omega
  have H:([p]:List Pr).length+(out.drop k).length<549755813888:=by rw[YP,Jo];omega
  have I:(out.take k).length<549755813888:=by rw[Yy];omega
  dsimp only[PG,UU,Va,U8,RN,Q4,VX,Wp,V4,V9,Rx,br,ix,vz,vw,wg,vs,v2,ln,Aj,lc,ar,a0,wa,sL,fl,fz,Ah,br]
  simp only[w,m,n,P,f,Yv,Yx,Ye,EZ,id]
  cases(l.drop (i+1)).any fun q=>decide (Gt p.key q.key=0)with
  |true=>simp
  |false=>
   simp only[DY,Yx,J,Ye,EZ,Bd.c,Bd.vl,a1,Yf,Dx,Li,Ft,G,H,I,XT,Lk,Yu,Y1]
   simp[G,H,I,Jv]
   omega) (by dsimp only[PG,UU,Va,U8,RN,Q4,VX,Wp,V4,V9,Rx,br,ix,vz,vw,wg,vs,v2,ln,Aj,lc,ar,a0,wa,sL,fl,fz,Ah,br];simp[w]) (A6 (by omega))
 rw[show Dp l ([]:List Pr).length=[]from rfl]at O
 dsimp only[dX,iZ,je,m7,m0,vz,vw,lr,lc,fz]
 rw[O]
 rfl
theorem Uc{α β:Type}{e:α→List D}{e':β→List D}{g:β→α}:∀{l:List β},(∀x∈l,Ar (e (g x))≤Ar (e' x))→AR ((l.map g).map e)≤AR (l.map e')
 |[],_=>Yf _
 |x::l,h=>by
  have a:=h x YB
  have b:=Uc (l:=l) fun y hy=>h y (Ys _ hy)
  simp only[YS,AR]
  omega
theorem g6{α:Type}(e:α→List D)(p:α→Bool):∀l:List α,AR (l.map e)=AR ((l.filter p).map e)+AR ((l.filter fun x=>!p x).map e)
 |[]=>rfl
 |x::l=>by
  have h:=g6 e p l
  cases c:p x<;>simp only[Ld,c,YS,AR,Y5,DY,Yu,Yx,Y1]<;>omega
theorem LF(v:Val):Ar (Ag v)=rk .i64 v.kind+(rk .u64 v.bits+(v.text.size+(AR (v.list.map AM)+(AR (v.pairs.map Ay)+(AR (v.slots.map Ap)+AR (v.raws.map AZ)))))):=by
 simp only[Ag,Ar,bk]
 omega
theorem Ra(k b:Int)(t:ByteArray)(l:List Val)(p:List Pr)(s:List Slt)(r:List Raw):Ar (Ag (.mk k b t l p s r))=rk .i64 k+(rk .u64 b+(t.size+(AR (l.map AM)+(AR (p.map Ay)+(AR (s.map Ap)+AR (r.map AZ)))))):=LF _
theorem ZXe(p:Pr):Ar (Ay p)=Ar (Ag p.key)+Ar (Ag p.val):=by
 have e:Ay p=Ag p.key++Ag p.val:=by rw[Kq];rfl
 rw[e,Mm]
theorem ZXJ(x:Slt):Ar (Ap x)=rk .i64 x.num+Ar (Ag x.val):=by
 have e:Ap x=D.int .i64 x.num::Ag x.val:=by rw[GI];rfl
 rw[e,Ar,bk]
theorem Zv2(v:Val):Ar (Ag (Dg v))≤Ar (Ag v):=by
 unfold Dg
 split
 ·rw[Ra,LF v]
  have h:rk .u64 9221120237041090560=0:=by decide
  rw[h]
  omega
 ·exact Yf _
theorem xb{α:Type}(e:α→List D)(l:List α)(i:Nat):AR ((l.take i).map e)+AR ((l.drop i).map e)=AR (l.map e):=by
 conv=>rhs;rw[←Hi i l,EX,Kk]
theorem o8:∀(l out:List Raw),AR ((l.foldl IJ out).map AZ)=AR (out.map AZ)+AR (l.map AZ)
 |[],out=>rfl
 |x::l,out=>by
  rw[Ez,o8 l]
  have h:=xb AZ out (G3 out x out.length)
  unfold IJ
  simp only[EX,Kk,YS,F5,AR]
  omega
theorem qM(l:List Pr):∀i:Nat,AR ((Dp l i).map Ay)≤AR ((l.take i).map Ay)
 |0=>Yf _
 |i+1=>by
  have a:=qM l i
  unfold Dp
  cases e:l[i]? with
  |none=>
   have h:=NE.1 e
   rw[Jv (by omega)]at a⊢
   exact a
  |some q=>
   rw[TN Ay e]
   dsimp only
   split
   ·omega
   ·have h:=xb Ay (Dp l i) (Jb (Dp l i) q)
    unfold Jz
    simp only[EX,Kk,YS,F5,AR]
    omega
theorem rA{N:Fld→Val→Val}(hN:∀f x,Ar (Ag (N f x))≤Ar (Ag x)):∀{F:List Fld} (l:List Slt),(F.Pairwise fun a b=>a.num<b.num)→AR ((Cq N F l).map Ap)≤AR (l.map Ap)
 |[],l,_=>by show 0≤_;omega
 |f::F,l,h=>by
  obtain⟨i,j⟩:=Hk.1 h
  have m:=rA hN (l.filter fun x=>!decide (x.num=f.num)) j
  have e:Cq N F (l.filter fun x=>!decide (x.num=f.num))=Cq N F l:=by
   unfold Cq
   rw[List.flatMap_def,List.flatMap_def]
   congr 1
   refine Y9 fun o k=>?_
   rw[List.filter_filter]
   congr 1
   refine XD fun x _=>?_
   have:=i o k
   by_cases c:x.num=o.num
   ·have g:¬x.num=f.num:=by omega
    simp[g]
   ·simp[c]
  rw[e]at m
  have b:=g6 Ap (fun x=>decide (x.num=f.num)) l
  have a:=g6 Ap (fun x=>!Ce f x.val) (l.filter fun x=>decide (x.num=f.num))
  have n:AR (((l.filter fun x=>decide (x.num=f.num)&&!Ce f x.val).map fun x=>Slt.mk f.num (N f x.val)).map Ap)≤AR (((l.filter fun x=>decide (x.num=f.num)).filter fun x=>!Ce f x.val).map Ap):=by
   rw[List.filter_filter]
   rw[show(l.filter fun x=>decide (x.num=f.num)&&!Ce f x.val)=l.filter fun x=>!Ce f x.val&&decide (x.num=f.num)from XD fun x _=>Bool.and_comm _ _]
   refine Uc fun x d=>?_
   have d:=(Y6.1 d).2
   rw[Yc,Yw]at d
   have:=hN f x.val
   rw[ZXJ,ZXJ,d.2]
   exact Nat.add_le_add_left this _
  show AR ((((l.filter fun x=>decide (x.num=f.num)&&!Ce f x.val).map fun x=>Slt.mk f.num (N f x.val))++Cq N F l).map Ap)≤_
  rw[EX,Kk]
  omega
theorem iq{R:ByteArray→Val→Val}(a:∀n v,Ar (Ag (R n v))≤Ar (Ag v))(t:Typ)(v:Val):Ar (Ag (Dq R t v))≤Ar (Ag v):=by
 unfold Dq
 split
 ·exact a _ _
 ·exact Zv2 v
theorem ZOs{R:ByteArray→Val→Val}(c:∀n v,Ar (Ag (R n v))≤Ar (Ag v))(f:Fld)(v:Val):Ar (Ag (CD R f v))≤Ar (Ag v):=by
 unfold CD
 split
 ·have a:rk .i64 11=0:=by decide
  have b:rk .u64 0=0:=by decide
  have d:AR ((v.list.map (Dq R f.type)).map AM)≤AR (v.list.map AM):=Uc fun x _=>by rw[F9,F9];exact iq c f.type x
  rw[Ra,LF v]
  simp only[a,b,F5,AR]
  have:(⟨#[]⟩:ByteArray).size=0:=rfl
  omega
 ·split
  ·have a:rk .i64 12=0:=by decide
   have b:rk .u64 0=0:=by decide
   have d:AR ((v.pairs.map fun p=>Pr.mk (Dg p.key) (Dq R f.type p.val)).map Ay)≤AR (v.pairs.map Ay):=Uc fun p _=>by
    rw[ZXe,ZXe]
    exact Nat.add_le_add (Zv2 p.key) (iq c f.type p.val)
   have e:=qM (v.pairs.map fun p=>Pr.mk (Dg p.key) (Dq R f.type p.val)) (v.pairs.map fun p=>Pr.mk (Dg p.key) (Dq R f.type p.val)).length
   rw[Lc]at e
   rw[Ra,LF v]
   simp only[a,b,F5,AR,dv]
   have:(⟨#[]⟩:ByteArray).size=0:=rfl
   omega
  ·exact iq c f.type v
theorem qL{s:Scm}(h:∀n:ByteArray,C3 (BV s n) (BV s n).length):∀(d:Nat) (n:ByteArray) (v:Val),Ar (Ag (BQ s d n v))≤Ar (Ag v)
 |0,n,v=>Yf _
 |d+1,n,v=>by
  have a:rk .i64 10=0:=by decide
  have b:rk .u64 0=0:=by decide
  have e:=rA (fun f x=>ZOs (fun n v=>qL h d n v) f x) v.slots (jD (h n))
  have c:=o8 v.raws []
  rw[BQ,Ra,LF v,FX]
  simp only[a,b,c,F5,AR]
  have:(⟨#[]⟩:ByteArray).size=0:=rfl
  omega
def QF(s:Scm)(R:Scm→Fld→Val→Option Val)(d:Nat):Prop:=∀(f:Fld) (v:Val),GdF s f→Bk v→CK (Bc s true d) s true f v=0→R s f v=some (CD (BQ s d) f v)
theorem Zu5{N:Fld→Val→Val}{l:List Slt}(hl:l.Pairwise fun a b=>a.num≠b.num):∀F:List Fld,(Cq N F l).length≤F.length
 |[]=>Yf _
 |f::F=>by
  have h:=Zu5 (N:=N) hl F
  show(((l.filter fun x=>decide (x.num=f.num)&&!Ce f x.val).map fun x=>Slt.mk f.num (N f x.val))++Cq N F l).length≤_
  rw[Yo,YC,DW]
  by_cases c:∃x∈l,x.num=f.num∧Ce f x.val=false
  ·obtain⟨x,g,e,d⟩:=c
   have:=ZjB hl (fun y=>!Ce f y.val) g (by rw[d];rfl)
   rw[←e,this,Jo]
   omega
  ·rw[ZhL f.num (fun y=>!Ce f y.val) fun x g e=>by
    cases d:Ce f x.val with
    |true=>rfl
    |false=>exact absurd ⟨x,g,e,d⟩ c,EW]
   omega
theorem ZAL(l:List Raw)(x:Raw):(IJ l x).length=l.length+1:=by
 unfold IJ
 simp only[Yo,Yy,YP,Jo]
 omega
theorem Zwr:∀(l out:List Raw),(l.foldl IJ out).length=out.length+l.length
 |[],out=>rfl
 |x::l,out=>by rw[Ez,Zwr l,ZAL,DW];omega
theorem si(out:List Raw)(x:Raw):∀k:Nat,G3 out x k≤k
 |0=>Yf _
 |k+1=>by
  have:=si out x k
  unfold G3
  split<;>omega
theorem ZrC{s:Scm}(hs:Ar (Al s)≤1048576)(g:GdS s)(R:Scm→Fld→Val→Option Val)(d:Nat)(hR:QF s R d)(n:ByteArray)(v:Val)(A:Bk v)(h:OkM s true d (B1 s n).1 v):Ow R s n v=some (BQ s (d+1) n v):=by
 have H:=Ex A
 have W:L3 s n=some (B1 s n):=nB s n (Gx hs).ml
 have ha:=g.asc n
 have hl:(BV s n).length≤1048576:=Up (Gx hs) n
 have zs:=H.s
 have zr:=H.r
 have M:(BV s n).length<4611686018427387904:=by omega
 have w2:v.slots.length<4611686018427387904:=by omega
 have O:v.raws.length<4611686018427387904:=by omega
 have pw:v.slots.Pairwise fun a b=>a.num≠b.num:=h.pw.imp fun h=>h.1
 have J:=Eh (B:=Pu s v R (B1 s n)) (N:=Ai) (ρ:=Val) (BV s n) (fun p=>Cq (CD (BQ s d)) p v.slots) (fun i b=>(i,b)) id (fun i f w=>by
  have u:=BP w
  have hi:=(Yd.1 w).1
  have z:i+1<9223372036854775808:=by omega
  have hm:=Yk w
  have K:=Eh (B:=PK s v R (B1 s n) i f) (N:=Ai) (ρ:=Val) v.slots (fun p=>Cq (CD (BQ s d)) ((BV s n).take i) v.slots++(p.filter fun x=>decide (x.num=f.num)&&!Ce f x.val).map fun x=>Slt.mk f.num (CD (BQ s d) f x.val)) (fun i b=>(i,b)) id (fun j x l=>by
   have I:=BP l
   have hj:=(Yd.1 l).1
   have D:j+1<9223372036854775808:=by omega
   have E:v.slots.getD j Rw.z=x:=by rw[Ym,l];rfl
   have F:(0:Int)≤j∧(j:Int)<v.slots.length:=⟨by omega,I⟩
   have o:=Yk l
   have X:=ZY7 f (Ex (KD A o))
   have a1:=Zu5 (N:=CD (BQ s d)) pw ((BV s n).take i)
   have y:(((v.slots.take j).filter fun x=>decide (x.num=f.num)&&!Ce f x.val).map fun x=>Slt.mk f.num (CD (BQ s d) f x.val)).length≤4194304:=by
    rw[YC]
    refine DI (XM _ _) ?_
    rw[Yy]
    omega
   rw[Yy]at a1
   rw[QU,EX]
   have a3:(Cq (CD (BQ s d)) ((BV s n).take i) v.slots++((v.slots.take j).filter fun x=>decide (x.num=f.num)&&!Ce f x.val).map fun x=>Slt.mk f.num (CD (BQ s d) f x.val)).length<549755813887:=by rw[Yo];omega
   rw[←Fu]
   generalize Cq (CD (BQ s d)) ((BV s n).take i) v.slots++((v.slots.take j).filter fun x=>decide (x.num=f.num)&&!Ce f x.val).map (fun x=>Slt.mk f.num (CD (BQ s d) f x.val))=out at a3⊢
   dsimp only[PK,U1,UX,VD,WI,Uy,RD,I2,Wi,Q7,V8,br,ix,AS,vz,vw,wg,vs,v2,ln,Aj,lc,ap,AC,cs,wa,tw,fl,Ah,br]
   simp only[w2,I,E,F,l,X,YX,Yv,Yx,Ye,Dx,EY,Hl,YU]
   by_cases c:x.num=f.num
   ·cases G:Ce f x.val with
    |true=>simp[c,G,D]
    |false=>
     have ef:BG (BV s n) x.num=f:=by
      unfold BG
      rw[c,Kr ha hm]
     have r:=(h.sl x o).2
     rw[show(B1 s n).1.fields=BV s n from rfl,ef]at r
     have Y:=hR f x.val (g.fl n f hm) (KD A o) r
     simp[c,G,D,Y,a3]
   ·simp[c,D]) (by dsimp only[PK,U1,UX,VD,WI,Uy,RD,I2,Wi,Q7,V8,br,ix,AS,vz,vw,wg,vs,v2,ln,Aj,lc,ap,AC,cs,wa,tw,fl,Ah,br];simp[w2]) (A6 (by omega))
  dsimp only[Pu,UZ,Uz,Vh,br,ix,vz,wg,vs,v2,ln,Aj,lc,wa,fl,Ah,br]
  rw[show(B1 s n).1.fields=BV s n from rfl]
  simp only[M,u,w,Yv,Yx,Ye]
  simp only[List.filter_nil,F5,Iq]at K
  rw[K]
  have Z:Cq (CD (BQ s d)) ((BV s n).take i++[f]) v.slots=Cq (CD (BQ s d)) ((BV s n).take i) v.slots++(v.slots.filter fun x=>decide (x.num=f.num)&&!Ce f x.val).map fun x=>Slt.mk f.num (CD (BQ s d) f x.val):=by
   unfold Cq
   rw[List.flatMap_append,List.flatMap_cons,List.flatMap_nil,Iq]
  simp only[Ye,EZ,id,z,Yx,Z]) (by dsimp only[Pu,UZ,Uz,Vh,br,ix,vz,wg,vs,v2,ln,Aj,lc,wa,fl,Ah,br];rw[show(B1 s n).1.fields=BV s n from rfl];simp[M]) (A6 (by omega))
 have q3:∀out:List Slt,Am (M2 v R out) Ai (0,[])=some (.inl (FX v.raws)):=fun out=>by
  have q:=Eh (B:=M2 v R out) (N:=Ai) (ρ:=Val) v.raws FX (fun i b=>(i,b)) id (fun i x l=>by
   have u:=BP l
   have hi:=(Yd.1 l).1
   have z:i+1<9223372036854775808:=by omega
   have e:FX (v.raws.take i++[x])=IJ (FX (v.raws.take i)) x:=by
    unfold FX
    rw[NM]
    rfl
   have a1:(FX (v.raws.take i)).length≤4194304:=by
    unfold FX
    rw[Zwr,Yy]
    simp only[EW]
    omega
   rw[e]
   generalize FX (v.raws.take i)=c at a1⊢
   have w4:c.length<4611686018427387904:=by omega
   have E:v.raws.getD i Rw.z=x:=by rw[Ym,l];rfl
   have F:(0:Int)≤i∧(i:Int)<v.raws.length:=⟨by omega,u⟩
   have q4:∀(k N:Nat),k≤c.length→k<N→Am (Pz v R out i c) N (k:Int)=some (.inl ((G3 c x k:Nat):Int)):=by
    intro k
    induction k with
    |zero=>
     intro N _ hN
     obtain⟨N,rfl⟩:∃m,N=m+1:=⟨N-1,by omega⟩
     rw[Am]
     dsimp only[Pz,Ve,br,AS,vz,wg,vs,vg,ln,Aj,wi,fl,br]
     simp[G3]
    |succ k C=>
     intro N hk hN
     obtain⟨N,rfl⟩:∃m,N=m+1:=⟨N-1,by omega⟩
     have P:((k+1:Nat):Int)-1=(k:Int):=by omega
     have Q:(0:Int)<((k+1:Nat):Int):=by omega
     have S:(0:Int)≤k∧(k:Int)<c.length:=⟨by omega,by omega⟩
     have T: -9223372036854775808≤(k:Int)∧(k:Int)<9223372036854775808:=by omega
     have C:=C N (by omega) (by omega)
     rw[Am,G3]
     dsimp only[Pz,Ve,br,AS,vz,wg,vs,vg,ln,Aj,wi,fl,br]
     simp only[P,Q,S,T,E,F,YX,Yv,Yx,Ye,F4,Dx,EY]
     by_cases t:x.num<(c.getD k Rw.z).num
     ·rw[YV t,Yg rfl,Yg t]
      exact C
     ·rw[Fv t,Yj (by decide),Yj t]
   have L:=q4 c.length Ai (Yf _) (A6 (by omega))
   have y:=si c x c.length
   unfold IJ
   generalize G3 c x c.length=k at L y⊢
   have U:(c.take k).length<549755813887:=by rw[Yy];omega
   have V:(c.take k++[x]).length+(c.drop k).length<549755813888:=by rw[Yo,Yy,YP,Jo];omega
   dsimp only[M2,Vk,UN,UW,Vq,br,ix,vz,vw,wg,vs,ln,Aj,lc,ap,aq,a0,wa,sL,fl,fz,Ah,br]
   simp only[O,w4,u,z,L,l,Yv,Yx,Ye,EZ,id,Bd.c,Bd.vl,YX]
   simp[U,V,y]
   exact⟨by omega,by omega,by omega,Jv (by rw[YP];exact Yf _)⟩) (by dsimp only[M2,Vk,UN,UW,Vq,br,ix,vz,vw,wg,vs,ln,Aj,lc,ap,aq,a0,wa,sL,fl,fz,Ah,br];simp[O]) (A6 (by omega))
  exact q
 dsimp only[Ow,jh,kP,iX,jq,ld,j8,vz,vw,wg,lr,lc,cl,fl,fz,fr]
 rw[W,Ye]
 rw[show Cq (CD (BQ s d)) ([]:List Fld) v.slots=[]from rfl]at J
 rw[J,Ye]
 simp only[EZ,id]
 rw[q3,Ye]
 rfl
theorem jn{s:Scm}(hs:Ar (Al s)≤1048576)(g:GdS s)(R:Scm→Fld→Val→Option Val)(d:Nat)(f:∀d':Nat,d=d'+1→QF s R d')(t:Typ)(v:Val)(b:Bk v)(h:Dk (Bc s true d) s t v=0):Ka R s t v=some (Dq (BQ s d) t v):=by
 unfold Dq
 dsimp only[Ka,ZE,br,wg,lr,cl,cs,br]
 by_cases c:t.kind=10
 ·unfold Dk at h
  rw[Yg c]at h
  cases a:(B1 s t.name).2 with
  |false=>rw[a]at h;cases h
  |true=>
   rw[a,Yg rfl]at h
   cases d with
   |zero=>
    unfold Bc at h
    split at h<;>cases h
   |succ d=>
    have e:=ZrC hs g R d (f d rfl) t.name v b (MJ.1 h)
    rw[Yg (YV c),e,Yg c]
    rfl
 ·rw[Yj (by simp[c]),ri b,Yj c]
  rfl
theorem ZWP{s:Scm}(hs:Ar (Al s)≤1048576)(g:GdS s)(R:Scm→Fld→Val→Option Val)(d:Nat)(t:∀d':Nat,d=d'+1→QF s R d')(f:Fld)(v:Val)(E:GdF s f)(c:Bk v)(h:CK (Bc s true d) s true f v=0):SV R s f v=some (CD (BQ s d) f v):=by
 have y:=Ex c
 have I:=y.l
 have J:=y.p
 have z:v.list.length<4611686018427387904:=by omega
 have w2:v.pairs.length<4611686018427387904:=by omega
 unfold CD
 unfold CK at h
 dsimp only[SV,iP,lC,ju,ab,mA,X6,l4,jo,be,kC,iY,bd,i5,kG,vz,vw,wg,lr,lc,cl,cs,fl,fz,fr]
 by_cases m:f.card=4
 ·rw[Yg m]at h⊢
  split at h
  ·cases h
  ·rw[Ki]at h
   have q:=Eh (B:=PN s f v R) (N:=Ai) (ρ:=Val) v.list (fun p=>p.map (Dq (BQ s d) f.type)) (fun i b=>(i,b)) id (fun i x n=>by
    have o:=BP n
    have hi:=(Yd.1 n).1
    have r:i+1<9223372036854775808:=by omega
    have hm:=Yk n
    have e:=jn hs g R d t f.type x (MR c hm) (h x hm)
    have a1:((v.list.take i).map (Dq (BQ s d) f.type)).length<549755813887:=by rw[YC,Yy];omega
    rw[EX]
    generalize (v.list.take i).map (Dq (BQ s d) f.type)=out at a1⊢
    dsimp only[PN,RJ,Ru,ML,br,ix,vz,vw,wg,vs,ln,Aj,lc,ap,cs,wa,tw,fl,Ah,br]
    simp only[z,o,r,n,e,a1,Yv,Yx,Ye,YS,F5]) (by dsimp only[PN,RJ,Ru,ML,br,ix,vz,vw,wg,vs,ln,Aj,lc,ap,cs,wa,tw,fl,Ah,br];simp[z]) (A6 (by omega))
   rw[F5]at q
   rw[Yg (YV m),q]
   rfl
 ·rw[Yj m]at h⊢
  rw[Yj (by simp[m])]
  by_cases k:f.card=5
  ·rw[Yg k]at h⊢
   split at h
   ·cases h
   ·rw[Mr]at h
    have u:∀p∈v.pairs,p.key.kind=f.key∧Dk (Bc s true d) s f.type p.val=0:=fun p a=>by
     obtain⟨j,F⟩:=YD.1 a
     have:=h j p F
     rw[wr]at this
     exact⟨(ZZa this.1).1,this.2.2⟩
    have G:=E.ky k
    have w:∀p∈v.pairs,Dg p.key=p.key:=fun p a=>by
     unfold Dg
     rw[Yj]
     have:=(u p a).1
     omega
    have q:=Eh (B:=PD s f v R) (N:=Ai) (ρ:=Val) v.pairs (fun l=>l.map fun p=>Pr.mk (Dg p.key) (Dq (BQ s d) f.type p.val)) (fun i b=>(b,i)) id (fun i p a=>by
     have o:=BP a
     have hi:=(Yd.1 a).1
     have r:i+1<9223372036854775808:=by omega
     have hm:=Yk a
     have e:=jn hs g R d t f.type p.val (FG c hm).2 (u p hm).2
     have A:=ri (FG c hm).1
     have a1:((v.pairs.take i).map fun p=>Pr.mk (Dg p.key) (Dq (BQ s d) f.type p.val)).length<549755813887:=by rw[YC,Yy];omega
     rw[EX]
     generalize (v.pairs.take i).map (fun p=>Pr.mk (Dg p.key) (Dq (BQ s d) f.type p.val))=out at a1⊢
     dsimp only[PD,UO,Rr,Rb,br,ix,vz,vw,vs,ln,Aj,lc,ap,cl,cs,wa,du,fl,Ah,br]
     simp only[w2,o,r,a,e,A,a1,Yv,Yx,Ye,YS,F5]) (by dsimp only[PD,UO,Rr,Rb,br,ix,vz,vw,vs,ln,Aj,lc,ap,cl,cs,wa,du,fl,Ah,br];simp[w2]) (A6 (by omega))
    rw[F5]at q
    have C:=ZMk (v.pairs.map fun p=>Pr.mk (Dg p.key) (Dq (BQ s d) f.type p.val)) (by rw[YC];have:=CH (e:=Ay) v.pairs;have D:Ar (Ag v)≤1048576:=c;rw[LF]at D;omega) fun q H=>by
     obtain⟨p,a,rfl⟩:=YI.1 H
     have:=(u p a).1
     refine⟨?_,?_⟩
     ·show 1≤(Dg p.key).kind∧(Dg p.key).kind≤9
      rw[w p a]
      omega
     ·show Bk (Dg p.key)
      rw[w p a]
      exact(FG c a).1
    rw[Yg (YV k),q,Ye]
    simp only[EZ,id]
    rw[C]
    rfl
  ·rw[Yj k]at h⊢
   rw[Yj (by simp[k]),jn hs g R d t f.type v c h]
   rfl
theorem nfH{s:Scm}(hs:Ar (Al s)≤1048576)(g:GdS s):∀a d:Nat,d<a→QF s (Kc a) d
 |0,d,h=>by omega
 |a+1,d,h=>fun f v c i b=>ZWP hs g (Kc a) d (fun d' e=>nfH hs g a d' (by omega)) f v c i b
theorem ZAq{s:Scm}(hs:Ar (Al s)≤1048576)(g:GdS s)(n:ByteArray)(v:Val)(a:Bk v)(h:OkM s true 15 (B1 s n).1 v):Ow (Kc Ai) s n v=some (BQ s 16 n v):=ZrC hs g _ 15 (nfH hs g Ai 15 (A6 (by omega))) n v a h
theorem ZBY{s:Scm}(hs:Ar (Al s)≤1048576)(g:GdS s)(n:ByteArray)(v:Val)(d:Bk v):Ok (fun b:Bool=>b=true↔JS s true n v=0∧v=BQ s 16 n v) (dW s n v):=by
 dsimp only[dW,cW,wg,lr,cl,AC]
 rw[ZJO hs n v d,Ye]
 by_cases c:JS s true n v=0
 ·have i:Bk (BQ s 16 n v):=DI (qL g.asc 16 n v) d
  obtain⟨b,e,a⟩:=ZWu d i
  have f:=ZAq hs g n v d (qu.1 c).2.1
  simp[c,e,f,a]
  exact⟨_,rfl,a⟩
 ·exact⟨false,by simp[c],Iff.intro (fun h=>absurd h (by decide)) fun h=>absurd h.1 c⟩
end Go.Proofs.YthgmbpciandpiaaGreat
