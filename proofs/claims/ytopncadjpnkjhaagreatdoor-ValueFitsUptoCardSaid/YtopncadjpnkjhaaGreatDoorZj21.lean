import Derived.Test.YtopncadjpnkjhaaGreatDoorZj20
import Derived.Test.YtopncadjpnkjhaaGreatDoorZj19
import Derived.Test.YtopncadjpnkjhaaGreatDoorZj00
namespace Go.Proofs.YtopncadjpnkjhaaGreatDoor
set_option linter.all false
open Go Go.Eng
mutual
theorem MD:∀v:Val,cnt v≤2*An (AF v)+1
 |.mk k b t l p s r=>by
  have a:=iU l
  have c:=i1 p
  have d:=iH s
  have f:=Cc (e:=A5) r
  simp only[cnt,AF,An,bk]
  omega
theorem iU:∀l:List Val,AM l≤2*Bp (J9 l)
 |[]=>by simp[AM]
 |v::l=>by
  have a:=MD v
  have b:=iU l
  simp only[AM,J9,Bp]
  omega
theorem ua:∀p:Pr,Km p≤2*An (Ay p)+2
 |.mk k v=>by
  have a:=MD k
  have b:=MD v
  simp only[Km,Ay,Ms]
  omega
theorem i1:∀l:List Pr,Bf l≤2*Bp (Kz l)
 |[]=>by simp[Bf]
 |v::l=>by
  have a:=ua v
  have b:=i1 l
  simp only[Bf,Kz,Bp]
  omega
theorem u9:∀x:Slt,Kd x≤2*An (At x)+1
 |.mk n v=>by
  have a:=MD v
  simp only[Kd,At,An,bk]
  omega
theorem iH:∀l:List Slt,BA l≤2*Bp (Kc l)
 |[]=>by simp[BA]
 |v::l=>by
  have a:=u9 v
  have b:=iH l
  simp only[BA,Kc,Bp]
  omega
end
theorem Xc(v:Val):cnt v=1+v.raws.length+AM v.list+Bf v.pairs+BA v.slots:=by cases v;simp only[cnt,Val.raws,Val.list,Val.pairs,Val.slots]
theorem Wc(p:Pr):Km p=cnt p.key+cnt p.val:=by cases p;simp only[Km,Pr.key,Pr.val]
theorem V1(x:Slt):Kd x=cnt x.val:=by cases x;simp only[Kd,Slt.val]
theorem Hs:∀a b:List Val,AM (a++b)=AM a+AM b
 |[],b=>by simp[AM]
 |x::a,b=>by rw[Hb,AM,AM,Hs a b];omega
theorem P3:∀a b:List Pr,Bf (a++b)=Bf a+Bf b
 |[],b=>by simp[Bf]
 |x::a,b=>by rw[Hb,Bf,Bf,P3 a b];omega
theorem Qc:∀a b:List Slt,BA (a++b)=BA a+BA b
 |[],b=>by simp[BA]
 |x::a,b=>by rw[Hb,BA,BA,Qc a b];omega
theorem km{v:Val}(h:AZ v):cnt v≤2097153:=by
 have:=MD v
 rw[Gi]at this
 have h:An (Af v)≤1048576:=h
 omega
theorem to(l:List Val)(i:Nat):AM (l.take i)≤AM l:=by
 conv=>rhs;rw[←Hj i l,Hs]
 omega
theorem tb(l:List Pr)(i:Nat):Bf (l.take i)≤Bf l:=by
 conv=>rhs;rw[←Hj i l,P3]
 omega
theorem tr(l:List Slt)(i:Nat):BA (l.take i)≤BA l:=by
 conv=>rhs;rw[←Hj i l,Qc]
 omega
theorem gV{l:List Val}{i:Nat}{x:Val}(h:l[i]?=some x):AM (l.take i)+cnt x≤AM l:=by
 obtain⟨a,rfl⟩:=Yd.1 h
 have:=to l (i+1)
 rw[YZ a,Hs,AM,AM]at this
 omega
theorem tR{l:List Pr}{i:Nat}{x:Pr}(h:l[i]?=some x):Bf (l.take i)+Km x≤Bf l:=by
 obtain⟨a,rfl⟩:=Yd.1 h
 have:=tb l (i+1)
 rw[YZ a,P3,Bf,Bf]at this
 omega
theorem tX{l:List Slt}{i:Nat}{x:Slt}(h:l[i]?=some x):BA (l.take i)+Kd x≤BA l:=by
 obtain⟨a,rfl⟩:=Yd.1 h
 have:=tr l (i+1)
 rw[YZ a,Qc,BA,BA]at this
 omega
theorem Mz:∀(j:Nat) (v:Val),An (Af v)<j→AZ v→Hl j v=some (cnt v:Int)
 |0,v,h,_=>by omega
 |j+1,v,h,k=>by
  obtain⟨s1,s2,E,F,G⟩:=Dc k
  have z:=km k
  rw[Xc]at z
  have r:v.list.length<4611686018427387904:=by omega
  have s:v.pairs.length<4611686018427387904:=by omega
  have t:v.slots.length<4611686018427387904:=by omega
  have A:v.raws.length<4611686018427387904:=by omega
  have C:1+v.raws.length<9223372036854775808:=by omega
  have u:=JM (B:=M7 v (Hl j)) (N:=Ah) (ρ:=Int) v.list (fun p=>((1+v.raws.length+AM p:Nat):Int)) (fun i b=>(b,i)) id (fun i x d=>by
   have l:=BF d
   have m:i+1<9223372036854775808:=by have:=(Yd.1 d).1;omega
   have hm:=Yn d
   have e:=Mz j x (by have:=bn hm;omega) (Rx k hm)
   have n:=gV d
   have f:((1+v.raws.length+AM (v.list.take i):Nat):Int)+(cnt x:Int)=((1+v.raws.length+AM (v.list.take i++[x]):Nat):Int):=by
    rw[Hs,AM,AM]
    omega
   have g: -9223372036854775808≤((1+v.raws.length+AM (v.list.take i):Nat):Int)+(cnt x:Int)∧((1+v.raws.length+AM (v.list.take i):Nat):Int)+(cnt x:Int)<9223372036854775808:=by omega
   generalize ((1+v.raws.length+AM (v.list.take i):Nat):Int)=a at f g⊢
   generalize ((1+v.raws.length+AM (v.list.take i++[x]):Nat):Int)=b at f⊢
   generalize (cnt x:Int)=c at e f g
   dsimp only[M7,br,ix,vz,wg,vs,v2,ln,Ai,cs,wa,wi,Ag,br]
   simp only[r,l,d,Yq,Yv,Yc]
   rw[e,Yc,Yi g,Yi m,f]) (by dsimp only[M7,br,ix,vz,wg,vs,v2,ln,Ai,cs,wa,wi,Ag,br];simp[r]) (A9 (by omega))
  have w:=JM (B:=MY v (Hl j)) (N:=Ah) (ρ:=Int) v.pairs (fun p=>((1+v.raws.length+AM v.list+Bf p:Nat):Int)) (fun i b=>(b,i)) id (fun i x d=>by
   have l:=BF d
   have m:i+1<9223372036854775808:=by have:=(Yd.1 d).1;omega
   have hm:=Yn d
   have e:=Mz j x.key (by have:=(Xx hm).1;omega) (MW k hm).1
   have q:=Mz j x.val (by have:=(Xx hm).2;omega) (MW k hm).2
   have n:=tR d
   rw[Wc]at n
   have f:((1+v.raws.length+AM v.list+Bf (v.pairs.take i):Nat):Int)+((cnt x.key:Int)+(cnt x.val:Int))=((1+v.raws.length+AM v.list+Bf (v.pairs.take i++[x]):Nat):Int):=by
    rw[P3,Bf,Bf,Wc]
    omega
   have g: -9223372036854775808≤((1+v.raws.length+AM v.list+Bf (v.pairs.take i):Nat):Int)+((cnt x.key:Int)+(cnt x.val:Int))∧((1+v.raws.length+AM v.list+Bf (v.pairs.take i):Nat):Int)+((cnt x.key:Int)+(cnt x.val:Int))<9223372036854775808:=by omega
   have o: -9223372036854775808≤(cnt x.key:Int)+(cnt x.val:Int)∧(cnt x.key:Int)+(cnt x.val:Int)<9223372036854775808:=by omega
   generalize ((1+v.raws.length+AM v.list+Bf (v.pairs.take i):Nat):Int)=a at f g⊢
   generalize ((1+v.raws.length+AM v.list+Bf (v.pairs.take i++[x]):Nat):Int)=b at f⊢
   generalize (cnt x.key:Int)=c at e f g o
   generalize (cnt x.val:Int)=D at q f g o
   dsimp only[MY,br,ix,vz,wg,vs,ln,Ai,cs,wa,wi,Ag,br]
   simp only[s,l,d,Yq,Yv,Yc]
   rw[e,Yc,q,Yc,Yi o,Yi g,Yi m,f]) (by dsimp only[MY,br,ix,vz,wg,vs,ln,Ai,cs,wa,wi,Ag,br];simp[s]) (A9 (by omega))
  have y:=JM (B:=MS v (Hl j)) (N:=Ah) (ρ:=Int) v.slots (fun p=>((1+v.raws.length+AM v.list+Bf v.pairs+BA p:Nat):Int)) (fun i b=>(b,i)) id (fun i x d=>by
   have l:=BF d
   have m:i+1<9223372036854775808:=by have:=(Yd.1 d).1;omega
   have hm:=Yn d
   have e:=Mz j x.val (by have:=cB hm;omega) (Rn k hm)
   have n:=tX d
   rw[V1]at n
   have f:((1+v.raws.length+AM v.list+Bf v.pairs+BA (v.slots.take i):Nat):Int)+(cnt x.val:Int)=((1+v.raws.length+AM v.list+Bf v.pairs+BA (v.slots.take i++[x]):Nat):Int):=by
    rw[Qc,BA,BA,V1]
    omega
   have g: -9223372036854775808≤((1+v.raws.length+AM v.list+Bf v.pairs+BA (v.slots.take i):Nat):Int)+(cnt x.val:Int)∧((1+v.raws.length+AM v.list+Bf v.pairs+BA (v.slots.take i):Nat):Int)+(cnt x.val:Int)<9223372036854775808:=by omega
   generalize ((1+v.raws.length+AM v.list+Bf v.pairs+BA (v.slots.take i):Nat):Int)=a at f g⊢
   generalize ((1+v.raws.length+AM v.list+Bf v.pairs+BA (v.slots.take i++[x]):Nat):Int)=b at f⊢
   generalize (cnt x.val:Int)=c at e f g
   dsimp only[MS,br,ix,vz,wg,vs,ln,Ai,cs,wa,wi,Ag,br]
   simp only[t,l,d,Yq,Yv,Yc]
   rw[e,Yc,Yi g,Yi m,f]) (by dsimp only[MS,br,ix,vz,wg,vs,ln,Ai,cs,wa,wi,Ag,br];simp[t]) (A9 (by omega))
  simp only[AM,Bf,BA,DZ,id]at u w y
  show OG (Hl j) v=_
  dsimp only[OG,vz,wg,vs,lr,lc,wa,Ag]
  simp only[A,C,Yv,u,w,y,Yc,N8]
  rw[Xc]
theorem vZ{s:Scm}(hs:An (Al s)≤1048576)(k:Bool)(n:ByteArray)(v:Val)(b:AZ v):UE s n v k=some (Ky s k n v):=by
 have h:=DV hs
 have e:L4 s n=some (BW s n):=mG s _ h.ml
 have f:=vF hs (BW s n).1 v k (Qq h _) b
 have g:=Mz Ah v (by have i:An (Af v)≤1048576:=b;exact A9 (by omega)) b
 unfold Ky
 dsimp only[UE,br,wg,lr,cl,br]
 rw[e,Yc,f,g]
 cases(BW s n).2 with
 |false=>simp
 |true=>
  by_cases c:AN s k 16 (BW s n).1 v=0
  ·by_cases d:4096<cnt v
   ·have a:(4096:Int)<cnt v:=by omega
    simp[c,d,a]
   ·have a:¬(4096:Int)<cnt v:=by omega
    simp[c,d,a]
  ·simp[c]
theorem xC{s:Scm}(hs:An (Al s)≤1048576)(n:ByteArray)(v:Val)(a:AZ v):Uq s n v=some (Ky s true n v):=by
 dsimp only[Uq,wg,lr,cl]
 rw[vZ hs true n v a]
 rfl
def Dj(v:Val):List Val:=v.list++v.pairs.flatMap (fun p=>[p.key,p.val])++v.slots.map fun x=>x.val
theorem QF(l:List Pr):(l.flatMap fun p=>[p.key,p.val]).length=2*l.length:=by
 induction l with
 |nil=>rfl
 |cons p l a=>rw[List.flatMap_cons,Yw,a];simp;omega
theorem x6(l:List Pr):AM (l.flatMap fun p=>[p.key,p.val])=Bf l:=by
 induction l with
 |nil=>rfl
 |cons p l a=>rw[List.flatMap_cons,Hs,a,Bf,Wc,AM,AM,AM];omega
theorem xS(l:List Slt):AM (l.map fun x=>x.val)=BA l:=by
 induction l with
 |nil=>rfl
 |cons p l a=>rw[Y4,AM,a,BA,V1]
theorem hP(v:Val):1+v.raws.length+AM (Dj v)=cnt v:=by
 unfold Dj
 rw[Hs,Hs,x6,xS,Xc]
 omega
theorem tz{v x:Val}(e:AZ v)(g:x∈Dj v):AZ x∧An (Af x)+1≤An (Af v):=by
 unfold Dj at g
 rcases Jp.1 g with d|d
 ·rcases Jp.1 d with c|c
  ·exact⟨Rx e c,by have:=bn c;omega⟩
  ·obtain⟨p,a,b⟩:=List.mem_flatMap.1 c
   have h:=Xx a
   have f:=MW e a
   rcases YK.1 b with rfl|b
   ·exact⟨f.1,by omega⟩
   ·rcases YK.1 b with rfl|b
    ·exact⟨f.2,by omega⟩
    ·cases b
 ·obtain⟨y,a,rfl⟩:=YU.1 d
  exact⟨Rn e a,by have:=cB a;omega⟩
theorem uP(l:List Val)(h:l.length<549755813888):PL l=some l:=by
 cases l with
 |nil=>rfl
 |cons x r=>
  dsimp only[PL,al,br,vw,lr,a0,mv,br]
  simp only[EW]at h
  simp
  omega
theorem xX{v:Val}(h:SzV v):Vm v=some (Dj v):=by
 obtain⟨t1,t2,t3,t4,t5⟩:=h
 have e:=JM (B:=Ni v) (N:=Ah) (ρ:=List Val) v.pairs (fun p=>v.list++p.flatMap fun p=>[p.key,p.val]) (fun i b=>(b,i)) id (fun i y hy=>by
  have a:=BF hy
  have g:=(Yd.1 hy).1
  have c:i+1<9223372036854775808:=by omega
  have d:(v.list++(v.pairs.take i).flatMap fun p=>[p.key,p.val]).length<549755813800:=by
   rw[Yw,QF,YO]
   omega
  rw[List.flatMap_append,←El]
  generalize (v.list++(v.pairs.take i).flatMap fun p=>[p.key,p.val])=L at d⊢
  dsimp only[Ni,br,ix,vz,vw,wg,vs,ln,Ai,X4,wa,fl,br]
  simp[a,hy,c]<;>omega) (by
   have:(v.list++v.pairs.flatMap fun p=>[p.key,p.val]).length<549755813800:=by
    rw[Yw,QF]
    omega
   dsimp only[Ni,br,ix,vz,vw,wg,vs,ln,Ai,X4,wa,fl,br]
   simp) (A9 (by omega))
 have f:=JM (B:=MT v) (N:=Ah) (ρ:=List Val) v.slots (fun p=>(v.list++v.pairs.flatMap fun p=>[p.key,p.val])++p.map fun x=>x.val) (fun i b=>(b,i)) id (fun i y hy=>by
  have a:=BF hy
  have g:=(Yd.1 hy).1
  have c:i+1<9223372036854775808:=by omega
  have d:((v.list++v.pairs.flatMap fun p=>[p.key,p.val])++(v.slots.take i).map fun x=>x.val).length<549755813800:=by
   rw[Yw,Yw,QF,YD,YO]
   omega
  rw[Jq,←El]
  generalize ((v.list++v.pairs.flatMap fun p=>[p.key,p.val])++(v.slots.take i).map fun x=>x.val)=L at d⊢
  dsimp only[MT,br,ix,vz,vw,wg,vs,ln,Ai,ap,wa,fl,br]
  simp[a,hy,c]<;>omega) (by
   dsimp only[MT,br,ix,vz,vw,wg,vs,ln,Ai,ap,wa,fl,br]
   simp) (A9 (by omega))
 rw[show(v.list++([]:List Pr).flatMap fun p=>[p.key,p.val])=v.list by simp]at e
 rw[show((v.list++v.pairs.flatMap fun p=>[p.key,p.val])++([]:List Slt).map fun x=>x.val)=(v.list++v.pairs.flatMap fun p=>[p.key,p.val])by simp]at f
 dsimp only[Vm,vz,wg,lr,lc,fl,fr,Ag]
 rw[uP _ (by omega)]
 simp only[Yc,e,f,id,N8]
 rfl
theorem uG{v:Val}(h:SzV v):(Dj v).length≤4194304:=by
 obtain⟨t1,t2,t3,t4,t5⟩:=h
 unfold Dj
 rw[Yw,Yw,QF,YD]
 omega
theorem kl:∀(d:Nat) (v:Val),An (Af v)<d→AZ v→JJ d v=some (cnt v:Int)
 |0,v,h,_=>by omega
 |d+1,v,h,k=>by
  have l:=Dc k
  have w:=l.r
  have hl:=uG l
  have q:=km k
  rw[←hP]at q
  have r:v.raws.length<4611686018427387904:=by omega
  have s:1+v.raws.length<9223372036854775808:=by omega
  have t:(Dj v).length<4611686018427387904:=by omega
  have m:=JM (B:=MX (JJ d) (Dj v)) (N:=Ah) (ρ:=Int) (Dj v) (fun p=>((1+v.raws.length+AM p:Nat):Int)) (fun i b=>(b,i)) id (fun i x f=>by
   have n:=BF f
   have o:i+1<9223372036854775808:=by have:=(Yd.1 f).1;omega
   have hm:=tz k (Yn f)
   have e:=kl d x (by omega) hm.1
   have u:=gV f
   have g:((1+v.raws.length+AM ((Dj v).take i):Nat):Int)+(cnt x:Int)=((1+v.raws.length+AM ((Dj v).take i++[x]):Nat):Int):=by
    rw[Hs,AM,AM]
    omega
   have j: -9223372036854775808≤((1+v.raws.length+AM ((Dj v).take i):Nat):Int)+(cnt x:Int)∧((1+v.raws.length+AM ((Dj v).take i):Nat):Int)+(cnt x:Int)<9223372036854775808:=by omega
   generalize ((1+v.raws.length+AM ((Dj v).take i):Nat):Int)=a at g j⊢
   generalize ((1+v.raws.length+AM ((Dj v).take i++[x]):Nat):Int)=b at g⊢
   generalize (cnt x:Int)=c at e g j
   dsimp only[MX,br,ix,wg,vs,v2,ln,Ai,cs,wa,wi,br]
   simp only[n,f,Yq,Yv,Yc]
   rw[e,Yc,Yi j,Yi o,g]) (by dsimp only[MX,br,ix,wg,vs,v2,ln,Ai,cs,wa,wi,br];simp) (A9 (by omega))
  simp only[AM,DZ,id]at m
  show Ot (JJ d) v=_
  dsimp only[Ot,vz,wg,vs,lr,lc,cl,wa,Ag]
  rw[xX l]
  simp only[r,s,t,Yv,m,Yc,N8]
  rw[hP]
end Go.Proofs.YtopncadjpnkjhaaGreatDoor
namespace Go.Proofs.YtopncadjpnkjhaaGreatDoor
set_option linter.all false
open Go Go.Eng
theorem W7{l:List Fld}(h:Du l l.length):∀(d i:Nat) (a b:Fld),l[i]?=some a→l[i+1+d]?=some b→a.num<b.num
 |0,i,a,b,e,c=>h i a b (Yd.1 c).1 e c
 |d+1,i,a,b,e,c=>by
  have g:=(Yd.1 c).1
  have f:i+1+d<l.length:=by omega
  have j:=W7 h d i a l[i+1+d] e (Ye f)
  have k:=h (i+1+d) l[i+1+d] b (by omega) (Ye f) c
  omega
theorem ni{l:List Fld}(h:Du l l.length){i:Nat}{f:Fld}(a:l[i]?=some f):∀g∈l.take i,g.num≠f.num:=fun g b=>by
 obtain⟨j,c,rfl⟩:=ac.1 b
 have:=W7 h (i-(j+1)) j _ f (Ye (by omega)) (by rw[show j+1+(i-(j+1))=i by omega];exact a)
 omega
def m0(F:List Fld):Prop:=∀f∈F,G4 f∧AZ f.dflt
theorem i3(F:List Fld)(k:Int):((BI F k).2=false∧A3 F k=zF)∨((BI F k).2=true∧A3 F k∈F):=by
 unfold A3 BI CA
 cases e:F.find? fun f=>decide (f.num=k)with
 |none=>exact .inl ⟨rfl,rfl⟩
 |some f=>exact .inr ⟨rfl,Jv e⟩
theorem ta{F:List Fld}(h:Du F F.length){i:Nat}{f:Fld}(a:F[i]?=some f):F=F.take i++f::F.drop (i+1)∧(∀g∈F.take i,g.num≠f.num)∧∀g∈F.drop (i+1),g.num≠f.num:=by
 obtain⟨hi,e⟩:=Yd.1 a
 refine⟨?_,ni h a,fun g c=>?_⟩
 ·rw[←e,List.getElem_cons_drop,Hj]
 ·obtain⟨d,b⟩:=Y2.1 c
  rw[YP]at b
  have:=W7 h d i f g a b
  omega
theorem J4{F:List Fld}(h:Du F F.length){i:Nat}{f:Fld}(c:F[i]?=some f):BI F f.num=(f,true):=by
 obtain⟨e,b,j⟩:=ta h c
 have a:F.find? (fun g=>decide (g.num=f.num))=some f:=by
  rw[e,List.find?_append,List.find?_eq_none.2 fun g d=>by simpa using b g d]
  simp
 unfold BI CA
 rw[a]
 rfl
theorem wA{s:Scm}(h:∀(i:Nat) (m:Msg),s.messages[i]?=some m→GdM s m)(hs:An (Al s)≤1048576)(n:ByteArray):Du (GZ s n) (GZ s n).length∧m0 (GZ s n)∧(GZ s n).length≤1048576:=by
 have hl:=Qq (DV hs) n
 unfold GZ CA at*
 cases e:s.messages.find? fun m=>decide (m.name=n)with
 |none=>exact⟨fun i a b hi=>by simp[zM]at hi,fun f c=>by simp[zM]at c,by simp[zM]⟩
 |some m=>
  rw[e]at hl
  have hm:=Jv e
  obtain⟨i,hi⟩:=Y2.1 hm
  have g:=h i m hi
  refine⟨g.asc,fun f c=>?_,hl⟩
  obtain⟨j,k⟩:=Y2.1 c
  refine⟨(g.df j f k).1,?_⟩
  have d:=Cu (e:=Au) hm
  have l:=Cu (e:=Ap) (show f∈m.fields from c)
  simp only[Al,An,bk]at hs
  simp only[Au,An,bk]at d
  have e:An (Af f.dflt)≤An (Ap f):=by
   simp only[Ap,Af,An,bk]
   omega
  show An (Af f.dflt)≤1048576
  omega
structure GdF (s:Scm) (f:Fld):Prop where
 en:f.type.kind=9→(Bz s f.type.name).2=true
 ms:f.type.kind=10→(BW s f.type.name).2=true
 ty:1≤f.type.kind∧f.type.kind≤10
 un:f.union≠⟨#[]⟩→f.card=2
 cd:f.card≠5→1≤f.card∧f.card≤4
 np:f.type.kind=10→f.card≠3
 ky:f.card=5→f.key=1∨f.key=2∨f.key=3∨f.key=4∨f.key=5∨f.key=7
structure GdS (s:Scm):Prop where
 fl:∀(n:ByteArray) (f:Fld),f∈GZ s n→GdF s f
 asc:∀n:ByteArray,Du (GZ s n) (GZ s n).length
theorem SQ{n:Int}{v:Val}(h:Ce n v=0):v.kind=n∧Bw v=false∧v.text.size≤4096∧Eb n v=true:=by
 unfold Ce at h
 by_cases a1:v.kind≠n∨Bw v=true
 ·rw[Yi a1]at h;cases h
 ·rw[Yj a1]at h
  by_cases a:4096<v.text.size
  ·rw[Yi a]at h;cases h
  ·rw[Yj a]at h
   cases a3:Eb n v with
   |false=>
    rw[a3]at h
    rw[Yj (by decide)]at h
    split at h<;>cases h
   |true=>
    refine⟨Decidable.not_not.1 fun e=>a1 (.inl e),?_,by omega,rfl⟩
    cases b:Bw v with
    |false=>rfl
    |true=>exact absurd (.inr b) a1
theorem Wz{s:Scm}{t:Typ}{v:Val}{R:Msg→Val→Int}(a:1≤t.kind)(b:t.kind≤9)(he:t.kind=9→(Bz s t.name).2=true):Kq s t v=BH R s t v:=by
 unfold Kq BH
 rw[Yj (by omega:¬t.kind=10),Yj (by omega:¬(t.kind<1∨9<t.kind))]
 by_cases c:Ce t.kind v≠0∨t.kind≠9
 ·rw[Yi c,Yi c]
 ·rw[Yj c,Yj c,he (by omega),Yj (by decide:¬true=false)]
theorem yj{n:Int}{a b:Val}(l:n=1∨n=2∨n=3∨n=4∨n=5∨n=7)(j:Ce n a=0)(k:Ce n b=0):RU a b=GU a b:=by
 obtain⟨a1,h,_,_⟩:=SQ j
 obtain⟨d,i,_,_⟩:=SQ k
 obtain⟨_,a3,a4⟩:=V8 (n:=n) (by omega) (by omega) a1 h
 obtain⟨_,e,f⟩:=V8 (n:=n) (by omega) (by omega) d i
 unfold RU GU
 rw[a1,d,Y6 rfl,Y1]
 unfold CT at a3 a4 e f
 by_cases c:n=7
 ·rw[a3 (Y6 (.inl c)),e (Y6 (.inl c)),Yi (.inl c)]
  simp
 ·have g:decide (n=7∨n=8)=false:=Ep (by omega)
  rw[a4 g,f g,Yj (by omega),Yj (by omega)]
  simp
theorem uo(l:List Pr)(f:Pr→Option Bool)(p:Pr→Bool)(e:∀x∈l,f x=some (p x))(h:l.length≤1048576):L2 l f=some (l.any p):=by
 have g:=DG (B:=MF l f) (N:=Ah) l p (fun i=>(i:Int)) () (fun i x a=>by
  have b:=BF a
  have j:=(Yd.1 a).1
  have c:i+1<9223372036854775808:=by omega
  have d:=e x (Yn a)
  dsimp only[MF,br,ix,vs,Am,ln,Ai,cf,wa,br]
  simp only[b,c,d,a,Yq,Yv,Yc]
  cases p x<;>simp) (by simp[MF,br,ix,vs,Am,ln,Ai,cf,wa,br]) (A9 (by omega))
 dsimp only[L2,lr,cs,UN,vz,lr,lc,Ag]
 rw[g,←Js]
 cases l.findIdx? p with
 |none=>rfl
 |some i=>simp
theorem Wj(l:List Slt)(f:Slt→Option Bool)(p:Slt→Bool)(a:∀x∈l,f x=some (p x))(h:l.length≤1048576):JC l f=some (l.any p):=by
 dsimp only[JC,lr,cs]
 rw[yL l f p a (by omega)]
 simp only[Yc]
 rw[xA]
theorem ng(l:List Slt)(f:Fld)(h:l.length≤1048576):PI l f=some (CI l f.num):=by
 dsimp only[PI,lr,cs]
 rw[Wj l (fun z=>Pw z f) (fun x=>decide (x.num=f.num)) (fun x _=>rfl) h]
 rfl
theorem ye(l:List Slt)(f:Fld)(h:l.length≤1048576):PJ l f=some (CI l f.num):=by
 dsimp only[PJ,lr,cs]
 rw[Wj l (fun z=>Py z f) (fun x=>decide (x.num=f.num)) (fun x _=>rfl) h]
 rfl
theorem yu(l:List Slt)(f:Fld)(h:l.length≤1048576):PN l f=some (CI l f.num):=by
 dsimp only[PN,lr,cs]
 rw[Wj l (fun z=>Pu z f) (fun x=>decide (x.num=f.num)) (fun x _=>rfl) h]
 rfl
def F2(F:List Fld)(u:ByteArray):List Fld:=if u=⟨#[]⟩then[]else F.filter fun f=>decide (f.union=u)
theorem x8(m:Msg)(u:ByteArray)(h:m.fields.length≤1048576):Ve m u=some (F2 m.fields u):=by
 unfold F2
 by_cases c:u=⟨#[]⟩
 ·subst c
  rfl
 ·dsimp only[Ve,br,vz,wg,lr,lc,fl,fr,br]
  rw[yJ _ (by omega),Yc,yI m.fields (fun z=>PB z u) (fun f=>!decide (f.union=u)) (fun f _=>rfl) (by omega),Yc]
  simp[c]
theorem i4(F:List Fld)(u:ByteArray):(F2 F u).length≤F.length:=by
 unfold F2
 split
 ·exact D0 _
 ·exact aa _ _
theorem yx{F:List Fld}(h:Du F F.length){g:Fld}(a:g∈F):BI F g.num=(g,true):=by
 obtain⟨i,hi⟩:=Y2.1 a
 exact J4 h hi
theorem nc{F:List Fld}(h:Du F F.length)(l:List Slt)(k:Int)(j:CI l k=false)(u:ByteArray):((F2 F u).any fun g=>(!decide (g.num=k))&&CI l g.num)=HD F l u:=by
 unfold F2 HD
 by_cases c:u=⟨#[]⟩
 ·simp[c]
 ·rw[Yj c,Ep c,YW,Y1,Jr,YT,YT]
  constructor
  ·rintro⟨g,d,a⟩
   obtain⟨m,n⟩:=Jo.1 d
   rw[Yb]at a
   obtain⟨y,o,i⟩:=YT.1 (show(l.any fun x=>decide (x.num=g.num))=true from a.2)
   rw[Yr]at i
   refine⟨y,o,?_⟩
   unfold A3
   rw[i,yx h m]
   exact n
  ·rintro⟨y,d,a⟩
   rw[Yr]at a
   rcases i3 F y.num with⟨f,b⟩|⟨f,b⟩
   ·rw[b]at a
    exact absurd a.symm c
   ·have p:=Wn f
    refine⟨A3 F y.num,Jo.2 ⟨b,Y6 a⟩,?_⟩
    rw[p,Yb]
    have hy:CI l y.num=true:=YT.2 ⟨y,d,Y6 rfl⟩
    refine⟨?_,hy⟩
    rw[YF,YB]
    intro e
    rw[e]at hy
    rw[hy]at j
    cases j
abbrev Kj:=Scm→Fld→Val→Int→Option Int
theorem xl(R:Kj)(o:Fld→Val→Int)(s:Scm)(m:Msg)(l:List Slt)(i:Nat)(x:Slt)(d:Int)(F:Du m.fields m.fields.length)(hm:m.fields.length≤1048576)(hl:l.length≤1048576)(n:l[i]?=some x)(E:∀f:Fld,f∈m.fields→R s f x.val d=some (o f x.val)):PF R s m l i d=some (EG o m.fields l i x):=by
 have hi:=(Yd.1 n).1
 have u:(l.take i).length≤1048576:=by rw[YO];omega
 have w0:(0:Int)≤i∧(i:Int)<l.length:=by omega
 have b:(0:Int)≤i∧(i:Int)≤l.length:=by omega
 have c:i≤l.length:=by omega
 have w:(BI m.fields x.num).1=A3 m.fields x.num:=rfl
 have J:(l.getD i Rw.z)=x:=by rw[Yu,n];rfl
 have I:∀y:Fld×Bool,CI (l.take i) y.1.num=false→Ak (Ki s l i d R y (F2 m.fields y.1.union)) Ah 0=some (if HD m.fields (l.take i) y.1.union=true then .inr 15 else .inl ()):=fun y hy=>by
  have v:=i4 m.fields y.1.union
  have q:=P0 (B:=Ki s l i d R y (F2 m.fields y.1.union)) (N:=Ah) (F2 m.fields y.1.union) (fun g=>(!decide (g.num=y.1.num))&&CI (l.take i) g.num) (15:Int) () (fun j g k=>by
   have C:=BF k
   have D:j+1<9223372036854775808:=by have:=(Yd.1 k).1;omega
   have e:=ye (l.take i) g u
   dsimp only[Ki,br,ix,wg,vs,Am,ln,Ai,DS,wa,br]
   simp only[C,D,k,b,c,e,Y7,Bd.c,Bd.vl,Sv,He,Yq,Yv,Yc,CP,Dm,Ek,YE,D0]
   cases(!decide (g.num=y.1.num))&&CI (l.take i) g.num<;>simp) (by dsimp only[Ki,br,ix,wg,vs,Am,ln,Ai,DS,wa,br];simp) (A9 (by omega))
  rw[q,nc F _ _ hy]
 have z:=ng (l.take i) (A3 m.fields x.num) u
 have A:=x8 m (A3 m.fields x.num).union hm
 have v:(F2 m.fields (A3 m.fields x.num).union).length<4611686018427387904:=by have:=i4 m.fields (A3 m.fields x.num).union;omega
 unfold EG
 dsimp only[PF,XC,br,CB,vz,vw,wg,lr,lc,cl,cs,sL,du,Ag,br]
 simp only[Y7,n,w0,b,c,J,CP,Yv,mH _ _ hm,Yc,w,Bd.c,Bd.vl,Sv,He,z,A,v,D0]
 cases r:(BI m.fields x.num).2 with
 |false=>simp
 |true=>
  have t:(A3 m.fields x.num).num=x.num:=Wn r
  have a:A3 m.fields x.num∈m.fields:=by
   rcases i3 m.fields x.num with⟨h,p⟩|⟨h,p⟩
   ·rw[r]at h;cases h
   ·exact p
  have H:=E _ a
  have q:=I (BI m.fields x.num)
  rw[w,t]at q
  rw[t]
  cases G:CI (l.take i) x.num with
  |true=>simp
  |false=>
   have q:=q G
   simp only[q,YR,Yp,YL,Yc]
   cases HD m.fields (l.take i) (A3 m.fields x.num).union with
   |true=>simp
   |false=>simp[H]
structure GdT (s:Scm) (t:Typ):Prop where
 en:t.kind=9→(Bz s t.name).2=true
 ms:t.kind=10→(BW s t.name).2=true
 ty:1≤t.kind∧t.kind≤10
theorem GdF.t{s:Scm}{f:Fld}(h:GdF s f):GdT s f.type:=⟨h.en,h.ms,h.ty⟩
def O4(R:Kj)(s:Scm)(d:Nat):Prop:=∀d':Nat,d=d'+1→∀(f:Fld) (x:Val),GdF s f→AZ x→R s f x (16-(d':Int))=some (Cr (AN s true d') s true f x)
theorem yp{s:Scm}(hs:An (Al s)≤1048576)(m:Msg)(x:Raw)(hm:m.fields.length≤1048576)(q:x.data.size≤1048576):VD s m x=some (EO s m.fields x):=by
 have h:=DV hs
 have o:x.data.size<4611686018427387904:=by omega
 have k:=Xi s (A3 m.fields x.num).type.name h.el
 have l:=gP (Bz s (A3 m.fields x.num).type.name).1 x.bits (Qp h _)
 have p:(BI m.fields x.num).1=A3 m.fields x.num:=rfl
 have n:Va s (A3 m.fields x.num) x=some (M0 s (A3 m.fields x.num) x):=by
  unfold M0
  dsimp only[Va,wg,lr,cl,Aw]
  rw[k,Yc,l]
  generalize Bz s (A3 m.fields x.num).type.name=g
  generalize A3 m.fields x.num=f
  simp only[Ek,Dm,Yv,YE]
  congr 1
  cases g.2<;>cases g.1.opn<;>cases decide (f.type.kind=9)<;>cases decide (f.card=5)<;>cases decide (x.wire=0)<;>cases decide (x.bits<2147483648)<;>cases ER g.1 x.bits<;>rfl
 dsimp only[VD,br,vy,wg,lr,cl,Aw,AR,br]
 rw[mH _ _ hm,Yc,p,n]
 unfold EO
 generalize M0 s (A3 m.fields x.num) x=kp
 have j:(if((decide (x.wire=3)&&decide ((4096:Int)<x.data.size))||decide ((65536:Int)<x.data.size))=true then some (3:Int)else some 0)=some (if(x.wire=3∧4096<x.data.size)∨65536<x.data.size then 3 else 0):=by
  by_cases c:(x.wire=3∧4096<x.data.size)∨65536<x.data.size
  ·rw[Yi c,Yi]
   simp only[Yt,Yb,Yr]
   omega
  ·rw[Yj c,Yj]
   simp only[Yt,Yb,Yr]
   omega
 simp only[o,Dm,Yv,Ek,YE]
 by_cases a:x.num<1∨65535<x.num∨x.wire<0∨6<x.wire
 ·have a1:(((decide (x.num<1)||decide (65535<x.num))||decide (x.wire<0))||decide (6<x.wire))=true:=by
   simp only[Yt,Yr]
   omega
  rw[Yi a1,Yi (by omega)]
 ·have a1:¬(((decide (x.num<1)||decide (65535<x.num))||decide (x.wire<0))||decide (6<x.wire))=true:=by
   simp only[Yt,Yr]
   omega
  rw[Yj a1]
  by_cases b:(x.wire≤2∧x.data≠⟨#[]⟩)∨(2<x.wire∧x.bits≠0)
  ·have d:((decide (x.wire≤2)&&!decide (x.data=⟨#[]⟩))||((!decide (x.wire≤2))&&!decide (x.bits=0)))=true:=by
    by_cases i:x.data=⟨#[]⟩<;>simp only[i,Yq,YG,YR,YW,F5,Ih,F6,Yt,Yb,YF,Yr,YB,ne_eq,Ii,F9,Ej,Hk,Jx]at b⊢<;>omega
   have e:x.num<1∨65535<x.num∨x.wire<0∨6<x.wire∨(x.wire≤2∧x.data≠⟨#[]⟩)∨(2<x.wire∧x.bits≠0):=.inr (.inr (.inr (.inr b)))
   rw[Yi e,d]
   rfl
  ·have d:((decide (x.wire≤2)&&!decide (x.data=⟨#[]⟩))||((!decide (x.wire≤2))&&!decide (x.bits=0)))=false:=by
    by_cases i:x.data=⟨#[]⟩<;>simp only[i,Yq,YG,YR,YW,F5,Ih,F6,F8,F7,Oc,Yr,YB,ne_eq,Ii,F9,Ej,Hk,Jx]at b⊢<;>omega
   have e:¬(x.num<1∨65535<x.num∨x.wire<0∨6<x.wire∨(x.wire≤2∧x.data≠⟨#[]⟩)∨(2<x.wire∧x.bits≠0)):=fun h=>by
    rcases h with h|h|h|h|h
    ·exact a (.inl h)
    ·exact a (.inr (.inl h))
    ·exact a (.inr (.inr (.inl h)))
    ·exact a (.inr (.inr (.inr h)))
    ·exact b h
   rw[Yj e,d,j]
   cases(BI m.fields x.num).2<;>cases kp<;>simp
theorem kU(R:Kj){s:Scm}(hs:An (Al s)≤1048576)(g:GdS s)(n:ByteArray)(v:Val)(d:Nat)(L:d≤16)(q:AZ v)(C:O4 R s d):Pz R s (BW s n).1 v (17-(d:Int))=some (AN s true d (BW s n).1 v):=by
 have h:=DV hs
 have hm:(BW s n).1.fields.length≤1048576:=Qq h n
 have y:Du (BW s n).1.fields (BW s n).1.fields.length:=g.asc n
 have j:∀f∈(BW s n).1.fields,GdF s f:=g.fl n
 generalize (BW s n).1=m at hm y j
 have E:=Dc q
 obtain⟨s1,s2,M,z,O⟩:=Dc q
 have I:m.fields.length<4611686018427387904:=by omega
 have J:v.slots.length<4611686018427387904:=by omega
 have K:v.raws.length<4611686018427387904:=by omega
 dsimp only[Pz,br,vz,wg,lr,lc,Aw,Ag,br]
 rw[Xb E]
 by_cases c:v.kind≠10∨Bw v=true
 ·have A:AN s true d m v=12:=by cases d<;>(unfold AN;rw[Yi c])
  rw[A]
  by_cases b:v.kind=10
  ·have p:Bw v=true:=c.resolve_left fun e=>e b
   simp[b,p]
  ·simp[b]
 ·have b:v.kind=10:=Decidable.not_not.1 fun e=>c (.inl e)
  have p:Bw v=false:=by
   cases h:Bw v with
   |false=>rfl
   |true=>exact absurd (.inr h) c
  cases d with
  |zero=>
   unfold AN
   rw[Yj c]
   simp[b,p]
  |succ d=>
   have u:¬(16:Int)<17-((d+1:Nat):Int):=by omega
   have F:=Fx (B:=M3 s m v (17-((d+1:Nat):Int)) R) (N:=Ah) v.slots (EG (Cr (AN s true d) s true) m.fields v.slots) id () (fun i x a _=>by
    have e:=xl R (Cr (AN s true d) s true) s m v.slots i x (17-((d+1:Nat):Int)) y hm z a fun f t=>by
     have:=C d rfl f x.val (j f t) (Rn q (Yn a))
     rw[show 17-((d+1:Nat):Int)=16-(d:Int)by omega]
     exact this
    have k:=BF a
    have l:i+1<9223372036854775808:=by have:=(Yd.1 a).1;omega
    dsimp only[M3,br,wg,vs,v2,Am,ln,Ai,cs,wa,br]
    simp only[k,l,e,Yq,Yv,Yc]
    by_cases hy:EG (Cr (AN s true d) s true) m.fields v.slots i x=0<;>simp[hy]) (by dsimp only[M3,br,wg,vs,v2,Am,ln,Ai,cs,wa,br];simp) (A9 (by omega))
   have G:=Fx (B:=MV s m v R) (N:=Ah) m.fields (fun _ f=>HN v.slots f) id () (fun i f j _=>by
    have k:=BF j
    have l:i+1<9223372036854775808:=by have:=(Yd.1 j).1;omega
    have e:=yu v.slots f z
    unfold HN
    dsimp only[MV,br,ix,wg,vs,Am,ln,Ai,DS,wa,br]
    simp only[k,l,j,e,Yq,Yv,Yc,Dm,Ek,YE]
    by_cases D:f.card=1<;>cases CI v.slots f.num<;>simp[D]) (by dsimp only[MV,br,ix,wg,vs,Am,ln,Ai,DS,wa,br];simp) (A9 (by omega))
   have H:=Fx (B:=Ng s m v R) (N:=Ah) v.raws (fun _ x=>EO s m.fields x) id () (fun i x a _=>by
    have k:=BF a
    have l:i+1<9223372036854775808:=by have:=(Yd.1 a).1;omega
    have e:=yp hs m x hm (cm q (Yn a))
    dsimp only[Ng,br,ix,wg,vs,Am,ln,Ai,cl,wa,br]
    simp only[k,l,a,e,Yq,Yv,Yc]
    by_cases hy:EO s m.fields x=0<;>simp[hy]) (by dsimp only[Ng,br,ix,wg,vs,Am,ln,Ai,cl,wa,br];simp) (A9 (by omega))
   unfold AN
   rw[Yj c]
   simp only[b,p,u,I,J,K,F,G,H,Yq,YG,YR,YW,Jz,Yp,Hi,Ek,YE,Yv,YL,Yc]
   by_cases o:B2 (EG (Cr (AN s true d) s true) m.fields v.slots) v.slots 0=0
   ·by_cases r:B2 (fun _ f=>HN v.slots f) m.fields 0=0
    ·by_cases w:B2 (fun _ x=>EO s m.fields x) v.raws 0=0
     ·simp[o,r,w]
     ·simp[o,r,w]
    ·simp[o,r]
   ·simp[o]
theorem jQ(R:Kj){s:Scm}(hs:An (Al s)≤1048576)(g:GdS s)(t:Typ)(a:GdT s t)(v:Val)(d:Nat)(j:d≤16)(b:AZ v)(i:O4 R s d):JK R s t v (16-(d:Int))=some (BH (AN s true d) s t v):=by
 have h:=DV hs
 have e:Mh s t.name=some (BW s t.name):=mL s _ h.ml
 have hm:=kU R hs g t.name v d j b i
 have w: -9223372036854775808≤17-(d:Int)∧17-(d:Int)<9223372036854775808:=by omega
 have wl:16-(d:Int)+1=17-(d:Int):=by omega
 dsimp only[JK,br,wg,vs,lr,cl,cs,wi,br]
 by_cases c:t.kind=10
 ·have f:=a.ms c
  unfold BH
  rw[Yi c,Yi f,e]
  simp only[c,Yq,Yv,Yc,w,CP,wl,hm]
 ·rw[Xf s t h (Dc b),Wz (R:=AN s true d) a.ty.1 (by have:=a.ty.2;omega) a.en]
  simp only[c,YG,Yp,YL,Yc]
theorem nC(R:Kj){s:Scm}(hs:An (Al s)≤1048576)(g:GdS s)(f:Fld)(C:GdF s f)(H:f.card=5)(l:List Pr)(hl:l.length≤1048576)(A:∀p∈l,AZ p.key∧AZ p.val)(d:Nat)(J:d≤16)(I:O4 R s d):Pv R s f l (16-(d:Int))=some (B2 (GJ (BH (AN s true d) s f.type) f.key true l) l 0):=by
 have h:=DV hs
 have y:=fun(x:Val) (L:AZ x)=>jQ R hs g f.type C.t x d J L I
 have K:=C.ky H
 have w2:l.length<4611686018427387904:=by omega
 generalize 16-(d:Int)=O at y
 have P:=Fx (B:=JX s f l O R) (N:=Ah) l (GJ (BH (AN s true d) s f.type) f.key true l) id () (fun i p a G=>by
  have v:=BF a
  have hi:=(Yd.1 a).1
  have w:i+1<9223372036854775808:=by omega
  have F:i≤l.length:=by omega
  have Dx:=A p (Yn a)
  have t:=Xf s (.mk f.key ⟨#[]⟩) h (Dc Dx.1)
  have u:Kq s (.mk f.key ⟨#[]⟩) p.key=Ce f.key p.key:=by
   unfold Kq
   rw[Yi (.inr (show f.key≠9 by omega))]
  rw[u]at t
  have D:=y p.val Dx.2
  have M:∀q∈l.take i,Ce f.key q.key=0:=fun q m=>by
   obtain⟨j,k⟩:=Y2.1 m
   rw[YY]at k
   split at k
   ·have:=G j q (by assumption) k
    unfold GJ at this
    by_cases c:Ce f.key q.key=0
    ·exact c
    ·rw[Yi c]at this
     exact absurd this c
   ·cases k
  unfold GJ
  by_cases n:Ce f.key p.key=0
  ·have E:L2 (l.take i) (fun z=>Mb z p)=some ((l.take i).any fun q=>GU q.key p.key):=uo _ _ _ (fun q m=>by
    have b:=M q m
    have kd:=(SQ b).1
    have e:=pM (d:=q.key) (x:=p.key) (by rw[kd];omega) (A q (SL m)).1 Dx.1
    rw[yj K b n]at e
    dsimp only[Mb,wg,lr,cl]
    rw[e]
    rfl) (by rw[YO];omega)
   dsimp only[JX,br,ix,wg,vs,Am,ln,Ai,cl,cs,wa,sL,br]
   simp only[v,w,F,a,t,D,E,n,Bd.c,Bd.vl,Sv,He,Yq,Yv,Yc,CP,D0]
   by_cases o:((l.take i).any fun q=>GU q.key p.key)=true
   ·simp[o]
   ·by_cases r:BH (AN s true d) s f.type p.val=0
    ·simp only[o,r]
     simp
    ·simp only[o,r]
     simp[r]
  ·dsimp only[JX,br,ix,wg,vs,Am,ln,Ai,cl,cs,wa,sL,br]
   simp only[v,w,a,t,Yq,Yv,Yc]
   simp[n]) (by dsimp only[JX,br,ix,wg,vs,Am,ln,Ai,cl,cs,wa,sL,br];simp) (A9 (by omega))
 dsimp only[Pv,vz,lr,lc,Ag]
 rw[P]
 by_cases c6:B2 (GJ (BH (AN s true d) s f.type) f.key true l) l 0=0
 ·simp[c6,w2]
 ·simp[c6,w2]
theorem yr(R:Kj){s:Scm}(hs:An (Al s)≤1048576)(g:GdS s)(f:Fld)(o:GdF s f)(v:Val)(d:Nat)(n:d≤16)(k:AZ v)(m:O4 R s d):Rh R s f v (16-(d:Int))=some (Cr (AN s true d) s true f v):=by
 have h:=DV hs
 have y:=Dc k
 obtain⟨s1,s2,C,D,E⟩:=Dc k
 have q:v.list.length<4611686018427387904:=by omega
 have l:=fun(x:Val) (b:AZ x)=>jQ R hs g f.type o.t x d n b m
 have hN:=fun u=>nC R hs g f o u v.pairs C (fun p w=>MW k w) d n m
 generalize 16-(d:Int)=z at l hN
 have A:=Fx (B:=MP s f v z R) (N:=Ah) v.list (fun _ x=>BH (AN s true d) s f.type x) id () (fun i x b _=>by
  have r:=BF b
  have t:i+1<9223372036854775808:=by have:=(Yd.1 b).1;omega
  have e:=l x (Rx k (Yn b))
  dsimp only[MP,br,ix,wg,vs,v2,Am,ln,Ai,cs,wa,br]
  simp only[r,t,b,e,Yq,Yv,Yc]
  by_cases hy:BH (AN s true d) s f.type x=0<;>simp[hy]) (by dsimp only[MP,br,ix,wg,vs,v2,Am,ln,Ai,cs,wa,br];simp) (A9 (by omega))
 have e0:=l v k
 unfold Cr
 dsimp only[Rh,br,vz,wg,lr,lc,Aw,cs,Ag,br]
 rw[Xb y,A,e0]
 by_cases c:f.card=4
 ·by_cases a:v.kind=11
  ·cases Bw v with
   |true=>simp[c,a]
   |false=>
    by_cases c6:B2 (fun _ x=>BH (AN s true d) s f.type x) v.list 0=0
    ·simp[c,a,c6,q]
    ·simp[c,a,c6,q]
  ·simp[c,a]
 ·by_cases j:f.card=5
  ·have hN:=hN j
   by_cases a:v.kind=12
   ·cases Bw v with
    |true=>simp[j,a]
    |false=>simp[j,a,hN]
   ·simp[j,a]
  ·simp[c,j]
theorem iD{s:Scm}(hs:An (Al s)≤1048576)(g:GdS s):∀(a d:Nat),d<a→d≤16→∀(f:Fld) (v:Val),GdF s f→AZ v→Iu a s f v (16-(d:Int))=some (Cr (AN s true d) s true f v)
 |0,d,b,_,_,_,_,_=>absurd b (Il _)
 |a+1,d,b,c,f,v,h,j=>yr (Iu a) hs g f h v d c j fun d' e k x i l=>iD hs g a d' (by omega) (by omega) k x i l
theorem nQ{s:Scm}(hs:An (Al s)≤1048576)(g:GdS s)(n:ByteArray)(v:Val)(b:AZ v):Vg s n v=some (Ky s true n v):=by
 have h:=DV hs
 have j:Mh s n=some (BW s n):=mL s _ h.ml
 have i:=kU (Iu Ah) hs g n v 16 (Yh _) b fun d' e f x l m=>iD hs g Ah d' (by have:=XR;omega) (by omega) f x l m
 rw[show(17:Int)-((16:Nat):Int)=1 by decide]at i
 have k:=kl Ah v (by have o:An (Af v)≤1048576:=b;exact A9 (by omega)) b
 unfold Ky
 dsimp only[Vg,br,wg,lr,cl,br]
 rw[j,Yc,i,k]
 cases(BW s n).2 with
 |false=>simp
 |true=>
  by_cases c:AN s true 16 (BW s n).1 v=0
  ·by_cases d:4096<cnt v
   ·have a:(4096:Int)<cnt v:=by omega
    simp[c,d,a]
   ·have a:¬(4096:Int)<cnt v:=by omega
    simp[c,d,a]
  ·simp[c]
def O7(s:Scm)(t:Typ)(v:Val):Bool:=if t.kind=10 then decide (Ky s true t.name v=0)else decide (BH (AN s true 16) s t v=0)
theorem w6{s:Scm}(hs:An (Al s)≤1048576)(t:Typ)(v:Val)(a:AZ v):Uz s t v=some (O7 s t v):=by
 unfold O7
 dsimp only[Uz,br,wg,lr,cl,br]
 rw[xC hs t.name v a,uM hs t v true a]
 by_cases c:t.kind=10<;>simp[c]
theorem w9{s:Scm}(hs:An (Al s)≤1048576)(g:GdS s)(t:Typ)(v:Val)(d:AZ v):Vc s t v=some (O7 s t v):=by
 have h:=DV hs
 have i:PV t.kind=some (decide (1≤t.kind)&&decide (t.kind≤9)):=rfl
 unfold O7
 dsimp only[Vc,br,wg,lr,cl,br]
 rw[nQ hs g t.name v d,i,Xi s _ h.el,Xf s t h (Dc d)]
 by_cases c:t.kind=10
 ·simp[c]
 ·by_cases a:1≤t.kind∧t.kind≤9
  ·by_cases b:t.kind=9
   ·cases he:(Bz s t.name).2 with
    |false=>
     have e:BH (AN s true 16) s t v≠0:=by
      unfold BH
      rw[Yj c,Yj (by omega)]
      split
      ·rename_i h
       rcases h with h|h
       ·exact h
       ·exact absurd b h
      ·decide
     simp[b,he]
     exact fun h=>e h
    |true=>
     rw[Wz (R:=AN s true 16) a.1 a.2 fun _=>he]
     simp[b,he]
   ·rw[Wz (R:=AN s true 16) a.1 a.2 fun e=>absurd e b]
    simp[c,a.1,a.2,b]
  ·have e:BH (AN s true 16) s t v=12:=by
    unfold BH
    rw[Yj c,Yi (by omega)]
   have f:(decide (1≤t.kind)&&decide (t.kind≤9))=false:=by
    rw[F7,YB,YB]
    omega
   rw[e]
   simp[c,f]
theorem iI{α:Type}[Inhabited α]{l:List α}{z:α}{p:α→Bool}{x:α}(b:x∈l)(a:p x=true):(CA l z p).2=true:=by
 unfold CA
 cases e:l.find? p with
 |none=>exact absurd a (List.find?_eq_none.1 e x b)
 |some y=>rfl
theorem nP{s:Scm}(h:∀(i:Nat) (m:Msg),s.messages[i]?=some m→GdM s m)(hs:An (Al s)≤1048576):GdS s:=by
 refine⟨fun n f a=>?_,fun n=>(wA h hs n).1⟩
 unfold GZ CA at a
 cases e:s.messages.find? fun m=>decide (m.name=n)with
 |none=>rw[e]at a;cases a
 |some m=>
  rw[e]at a
  obtain⟨i,hi⟩:=Y2.1 (Jv e)
  obtain⟨j,g⟩:=Y2.1 (show f∈m.fields from a)
  obtain⟨_,c,⟨t1,t2,t3⟩,u⟩:=(h i m hi).df j f g
  refine⟨fun k=>?_,fun k=>?_,t3,u,fun k=>⟨(c.1 k).1,(c.1 k).2.1⟩,fun k=>(t2 k).2,c.2⟩
  ·obtain⟨x,b,d⟩:=t1 k
   exact iI b (Y6 d)
  ·obtain⟨⟨x,b,d⟩,_⟩:=t2 k
   exact iI b (Y6 d)
abbrev dM{α:Type}(x y:α)(o:Option Bool):Prop:=Ok (fun b:Bool=>b=true↔x=y) o
theorem dM.no{α:Type}{x y:α}(h:x≠y):dM x y (some false):=⟨false,rfl,Iff.intro (fun e=>absurd e (by decide)) fun e=>absurd e h⟩
structure SzL (v:Val):Prop where
 l:v.list.length≤4194304
 p:v.pairs.length≤4194304
 s:v.slots.length≤4194304
 r:v.raws.length≤4194304
theorem SzV.l'{v:Val}(h:SzV v):SzL v:=⟨by have:=h.l;omega,by have:=h.p;omega,by have:=h.s;omega,by have:=h.r;omega⟩
def N0(F:List Fld)(a b:Slt):Prop:=¬((A3 F a.num).union=(A3 F b.num).union∧(A3 F b.num).union≠⟨#[]⟩)
theorem N0.symm{F:List Fld}{a b:Slt}(h:N0 F a b):N0 F b a:=fun⟨e,k⟩=>h ⟨e.symm,by rw[←e]at*;exact k⟩
structure OkM (s:Scm) (k:Bool) (d:Nat) (m:Msg) (v:Val):Prop where
 kd:v.kind=10
 ot:Bw v=false
 pw:v.slots.Pairwise fun a b=>a.num≠b.num∧N0 m.fields a b
 sl:∀x∈v.slots,(BI m.fields x.num).2=true∧Cr (AN s k d) s k (A3 m.fields x.num) x.val=0
 rq:∀f∈m.fields,f.card=1→CI v.slots f.num=true
 rw:∀x∈v.raws,EO s m.fields x=0
theorem pz:eX=some true:=by kernel_rfl
theorem rK{s:Scm}{t:Typ}{v:Val}(hs:An (Al s)≤1048576)(_:(0:Nat)≤1)(a:An (Af v)≤1048576):Ud s t v=some true:=by
 obtain⟨b,c,d⟩:=yN hs
 dsimp only[Ud,br,wg,lr,cl,Aw,br]
 rw[c,pz]
 cases b with
 |false=>simp
 |true=>
 have g:=nP (d rfl) hs
 rw[w9 hs g t v a,w6 hs t v a]
 simp
end Go.Proofs.YtopncadjpnkjhaaGreatDoor
