import Derived.Test.YtbcmdieedjamgaaGreatZe26
import Derived.Test.YtbcmdieedjamgaaGreatZe23
import Derived.Test.YtbcmdieedjamgaaGreatZe20
import Derived.Test.YtbcmdieedjamgaaGreatZe00
namespace Go.Proofs.YtbcmdieedjamgaaGreat
set_option linter.all false
open Go Go.Eng
theorem Hl{l:List Slt}{k:Int}{x:Slt}(h:Ba l k=some x):x∈l∧x.num=k:=⟨HI h,YZ (p:=x.num=k) (Ry (p:=fun x:Slt=>decide (x.num=k)) h)⟩
theorem P1{l:List Slt}{k:Int}:Ba l k=none↔∀x∈l,x.num≠k:=by
 unfold Ba
 rw[RE]
 simp
theorem j9{α:Type}{R:α→α→Prop}(sy:∀{a b},R a b→R b a){l:List α}(h:l.Pairwise R){x y:α}(hx:x∈l)(hy:y∈l)(n:x≠y):R x y:=by
 obtain⟨i,hi,rfl⟩:=List.mem_iff_getElem.1 hx
 obtain⟨j,d,rfl⟩:=List.mem_iff_getElem.1 hy
 rcases N5 i j with c|c|c
 ·exact HJ.1 h i j hi d c
 ·subst c
  exact absurd rfl n
 ·exact sy (HJ.1 h j i d hi c)
theorem eF{l:List Slt}(h:l.Pairwise fun a b=>a.num≠b.num){x:Slt}(hx:x∈l):Ba l x.num=some x:=by
 cases e:Ba l x.num with
 |none=>exact absurd rfl (P1.1 e x hx)
 |some y=>
  obtain⟨d,f⟩:=Hl e
  by_cases c:y=x
  ·rw[c]
  ·exact absurd f (j9 (R:=fun a b:Slt=>a.num≠b.num) (fun h e=>h e.symm) h d hx c)
def Fu(R:ByteArray→Val→Val→Val)(F:List Fld)(p:List Slt)(x:Slt):Slt:=.mk x.num ((Ba p x.num).elim x.val fun y=>Fg R (AW F x.num) x.val y.val)
def B3(R:ByteArray→Val→Val→Val)(F:List Fld)(A p:List Slt):List Slt:=A.map (Fu R F p)++p.filter fun y=>!BM A y.num
theorem Zvy(p:List Slt)(y:Slt)(k:Int)(h:y.num≠k):Ba (p++[y]) k=Ba p k:=by
 unfold Ba
 rw[RH]
 simp[h]
theorem z6{R:ByteArray→Val→Val→Val}{F:List Fld}{p:List Slt}{y x:Slt}(h:y.num≠x.num):Fu R F (p++[y]) x=Fu R F p x:=by
 unfold Fu
 rw[Zvy p y x.num h]
theorem ZEq(R:ByteArray→Val→Val→Val)(F:List Fld)(A:List Slt):B3 R F A []=A:=by
 have:Fu R F []=id:=funext fun x=>by cases x;rfl
 unfold B3
 rw[this]
 simp
theorem ZJJ{R:ByteArray→Val→Val→Val}{F:List Fld}{A p:List Slt}{y:Slt}{i:Nat}(hi:A.findIdx? (fun x=>decide (x.num=y.num))=some i):(B3 R F A p).findIdx? (fun x=>decide (x.num=y.num))=some i:=by
 unfold B3
 rw[List.findIdx?_append,List.findIdx?_map]
 have:((fun x:Slt=>decide (x.num=y.num))∘Fu R F p)=fun x=>decide (x.num=y.num):=rfl
 rw[this,hi]
 rfl
theorem ZED{R:ByteArray→Val→Val→Val}{F:List Fld}{A p:List Slt}{y:Slt}{i:Nat}(m:A.Pairwise fun a b=>a.num≠b.num)(r:∀x∈p,x.num≠y.num)(hi:A.findIdx? (fun x=>decide (x.num=y.num))=some i):
  ∃x,A[i]?=some x∧(B3 R F A p)[i]?=some x∧x.num=y.num∧B3 R F A (p++[y])=(B3 R F A p).set i (.mk x.num (Fg R (AW F y.num) x.val y.val)):=by
 obtain⟨d,o,_⟩:=Kg.1 hi
 have hx:A[i]?=some A[i]:=Ye d
 have f:(A[i]).num=y.num:=YZ o
 have n:Ba p (A[i]).num=none:=by rw[P1,f];exact r
 have t:Fu R F p A[i]=A[i]:=by
  unfold Fu
  rw[n]
  cases A[i]
  rfl
 refine⟨A[i],hx,?_,f,?_⟩
 ·unfold B3
  rw[Ys (by rw[YG];exact d),YU,hx,YY,t]
 ·have s:BM A y.num=true:=YR.2 ⟨A[i],Gk d,Yn f⟩
  unfold B3
  rw[HF,show([y].filter fun y=>!BM A y.num)=[]by simp[s],GV,List.set_append_left (h:=by rw[YG];exact d)]
  congr 1
  apply List.ext_getElem?
  intro j
  rw[YU,List.getElem?_set,YG,YU]
  by_cases c:i=j
  ·subst c
   rw[Yi rfl,Yi d,hx,YY]
   congr 1
   unfold Fu
   rw[show Ba (p++[y]) (A[i]).num=some y by unfold Ba at*;rw[RH,n];simp[f],f]
   rfl
  ·rw[Ym c]
   cases e:A[j]? with
   |none=>rfl
   |some z=>
    have q:=(Yb.1 e)
    obtain⟨g,k⟩:=q
    have l:y.num≠z.num:=by
     rw[←f,←k]
     rcases Nat.lt_or_gt_of_ne c with h|h
     ·exact(HJ.1 m) i j d g h
     ·exact fun e=>(HJ.1 m) j i g d h e.symm
    rw[YY,YY,z6 l]
theorem ZF1{R:ByteArray→Val→Val→Val}{F:List Fld}{A p:List Slt}{y:Slt}(b:∀x∈p,x.num≠y.num)(hi:A.findIdx? (fun x=>decide (x.num=y.num))=none):
  (B3 R F A p).findIdx? (fun x=>decide (x.num=y.num))=none∧B3 R F A (p++[y])=B3 R F A p++[y]:=by
 have a:∀x∈A,x.num≠y.num:=fun x hx=>of_decide_eq_false (LP.1 hi x hx)
 constructor
 ·rw[LP]
  intro x hx
  refine Yr ?_
  rcases D6.1 hx with hx|hx
  ·obtain⟨z,d,rfl⟩:=YV.1 hx
   exact a z d
  ·exact b x ((Du.1 hx).1)
 ·have c:BM A y.num=false:=by
   unfold BM
   rw[N6]
   intro x hx
   simp[a x hx]
  unfold B3
  rw[HF,show([y].filter fun y=>!BM A y.num)=[y]by simp[c],D5]
  congr 1
  exact Ep fun x hx=>z6 fun e=>a x hx e.symm
theorem Ztz(R:ByteArray→Val→Val→Val)(F:List Fld)(A p:List Slt):(B3 R F A p).length≤A.length+p.length:=by
 unfold B3
 rw[Yq,YG]
 have:=LS (fun y=>!BM A y.num) p
 omega
theorem ZE7{R:ByteArray→Val→Val→Val}{F:List Fld}{A p:List Slt}{z:Slt}:z∈B3 R F A p↔(∃x∈A,z=Fu R F p x)∨(z∈p∧∀x∈A,x.num≠z.num):=by
 unfold B3
 rw[D6,YV,Du]
 have:(!BM A z.num)=true↔∀x∈A,x.num≠z.num:=by
  unfold BM
  simp
 rw[this]
 constructor
 ·rintro(⟨x,hx,rfl⟩|h)
  ·exact .inl ⟨x,hx,rfl⟩
  ·exact .inr h
 ·rintro(⟨x,hx,rfl⟩|h)
  ·exact .inl ⟨x,hx,rfl⟩
  ·exact .inr h
theorem ZLK{R:ByteArray→Val→Val→Val}{F:List Fld}{A p:List Slt}(c:A.Pairwise fun a b=>a.num≠b.num)(d:p.Pairwise fun a b=>a.num≠b.num):(B3 R F A p).Pairwise fun a b=>a.num≠b.num:=by
 unfold B3
 rw[NT]
 refine⟨by rw[W5];exact c,d.filter _,fun x hx y hy=>?_⟩
 obtain⟨z,e,rfl⟩:=YV.1 hx
 have h:=(Du.1 hy).2
 unfold BM at h
 rw[YK,N6]at h
 have:=h z e
 simp at this
 exact this
theorem ZuN{l:List Slt}(h:l.Pairwise fun a b=>a.num≠b.num):F4 (C1 IN l):=by
 have d:=ZkO (cf:=IN) (MO Slt.num) l
 have f:(C1 IN l).Pairwise fun a b=>a.num≠b.num:=(List.Perm.pairwise_iff (fun {a b} h e=>h e.symm) (Pe l)).2 h
 refine(List.pairwise_and_iff.2 ⟨d,f⟩).imp fun {a b} c=>?_
 have:=c.1
 unfold IN BJ at this
 have g:=c.2
 grind
theorem Pp{R:ByteArray→Val→Val→Val}{F:List Fld}{a b:List Slt}{f:Fld}{z:Slt}(h:z∈CA R F a b f):z.num=f.num:=by
 unfold CA at h
 split at h
 ·rw[Y3.1 h];rfl
 ·rw[Y3.1 h];rfl
 ·split at h
  ·cases h
  ·rw[Y3.1 h];rfl
 ·cases h
theorem ZvY(R:ByteArray→Val→Val→Val)(F:List Fld)(a b:List Slt)(f:Fld):F4 (CA R F a b f):=by
 unfold CA F4
 split
 ·exact LR _ _
 ·exact LR _ _
 ·split
  ·exact .nil
  ·exact LR _ _
 ·exact .nil
theorem T6{R:ByteArray→Val→Val→Val}{F:List Fld}{a b:List Slt}:∀{l:List Fld},(l.Pairwise fun a b=>a.num<b.num)→F4 (Ca R F a b l)
 |[],_=>.nil
 |f::l,h=>by
  obtain⟨c,d⟩:=Y4.1 h
  have i:=T6 (R:=R) (F:=F) (a:=a) (b:=b) d
  show(CA R F a b f++Ca R F a b l).Pairwise _
  rw[NT]
  refine⟨ZvY R F a b f,i,fun x hx y hy=>?_⟩
  obtain⟨g,e,hy⟩:=N9.1 hy
  rw[Pp hx,Pp hy]
  exact c g e
theorem fy{F:List Fld}(h:Df F F.length){b:List Slt}(p:b.Pairwise fun x y=>x.num≠y.num∧Ds F x y){f:Fld}(q:f∈F){y:Slt}(hy:Ba b f.num=some y):Cs F f b=false:=by
 unfold Cs
 rw[N6]
 intro g r c
 simp only[Yc,YK,YB,YT,ek,Y5]at c
 obtain⟨⟨⟨k,l⟩,m⟩,z,s⟩:=c
 obtain⟨t,i⟩:=Hl hy
 obtain⟨m2,j⟩:=Hl s
 have n:AW F y.num=f:=by rw[i];exact congrArg Prod.fst (JC h q)
 have o:AW F z.num=g:=by rw[j];exact congrArg Prod.fst (JC h r)
 have d:Ds F z y:=(j9 (R:=fun a b:Slt=>a.num≠b.num∧Ds F a b) (fun h=>⟨fun e=>h.1 e.symm,h.2.symm⟩) p m2 t (fun e=>m (by rw[←j,e,i]))).2
 unfold Ds at d
 rw[n,o]at d
 exact d ⟨l,k⟩
theorem ZGe{R:ByteArray→Val→Val→Val}{F:List Fld}(h:Df F F.length){a b:List Slt}(p:a.Pairwise fun x y=>x.num≠y.num)(o:b.Pairwise fun x y=>x.num≠y.num∧Ds F x y)
  (u:∀x∈a,(Bo F x.num).2=true) (v:∀x∈b,(Bo F x.num).2=true):C1 IN (B3 R F (a.filter fun x=>!Cs F (AW F x.num) b) b)=Ca R F a b F:=by
 have Dr:b.Pairwise fun x y=>x.num≠y.num:=o.imp fun s=>s.1
 have fl:∀k,(Bo F k).2=true→AW F k∈F∧(AW F k).num=k:=fun k q=>by
  rcases Ug F k with⟨c,_⟩|⟨_,c⟩
  ·rw[q]at c;cases c
  ·exact⟨c,TT q⟩
 have n:∀f∈F,AW F f.num=f:=fun f m=>congrArg Prod.fst (JC h m)
 refine e9 (ZuN (ZLK (p.filter _) Dr)) (T6 (JD h)) fun z=>?_
 rw[(Pe _).mem_iff,ZE7]
 unfold Ca
 rw[N9]
 constructor
 ·rintro(⟨x,hx,rfl⟩|⟨d,t⟩)
  ·obtain⟨hx,r⟩:=Du.1 hx
   rw[YK]at r
   obtain⟨f1,f2⟩:=fl _ (u x hx)
   refine⟨AW F x.num,f1,?_⟩
   unfold CA Fu
   rw[f2,eF p hx]
   cases e:Ba b x.num with
   |none=>rw[r];exact Y3.2 rfl
   |some y=>exact Y3.2 rfl
  ·obtain⟨f1,f2⟩:=fl _ (v z d)
   refine⟨AW F z.num,f1,?_⟩
   have e:=eF Dr d
   unfold CA
   rw[f2,e]
   cases i:Ba a z.num with
   |none=>cases z;exact Y3.2 rfl
   |some x=>
    exfalso
    obtain⟨j,g⟩:=Hl i
    refine t x (Du.2 ⟨j,?_⟩) g
    rw[g,fy h o f1 (by rw[f2];exact e)]
    rfl
 ·rintro⟨f,m,d⟩
  unfold CA at d
  split at d
  ·rename_i x y i l
   obtain⟨j,g⟩:=Hl i
   refine .inl ⟨x,Du.2 ⟨j,?_⟩,?_⟩
   ·rw[g,n f m,fy h o m l]
    rfl
   ·rw[Y3.1 d]
    unfold Fu
    rw[g,l,n f m]
    rfl
  ·rename_i y i l
   obtain⟨j,g⟩:=Hl l
   have e:z=y:=by
    rw[Y3.1 d,←g]
    cases y
    rfl
   subst e
   exact .inr ⟨j,fun x hx=>by rw[g];exact P1.1 i x ((Du.1 hx).1)⟩
  ·rename_i x i l
   obtain⟨j,g⟩:=Hl i
   split at d
   ·cases d
   ·rename_i c
    refine .inl ⟨x,Du.2 ⟨j,?_⟩,?_⟩
    ·rw[g,n f m,YK,W4]
     exact c
    ·rw[Y3.1 d]
     unfold Fu
     rw[g,l]
     rfl
  ·cases d
theorem ZuO(l:List Raw)(y x:Raw):∀k:Nat,k≤l.length→Dj (l++[y]) x k=Dj l x k
 |0,_=>rfl
 |k+1,h=>by
  rw[Dj,Dj,ZuO l y x k (by omega),Yg,Yg,Ys (by omega)]
theorem ZoP(x:Raw):∀(n:Nat) (out:List Raw),out.length=n→insR out x=Go.Eng.insR GM out x
 |0,out,h=>by
  rw[List.length_eq_zero_iff.1 h]
  rfl
 |n+1,out,h=>by
  have d:out≠[]:=fun e=>by rw[e]at h;cases h
  obtain⟨l,y,rfl⟩:∃l y,out=l++[y]:=⟨_,_,(jB d).symm⟩
  have hl:l.length=n:=by rw[Yq]at h;simpa using h
  have j:=ZoP x n l hl
  unfold insR Go.Eng.insR at*
  have e0:(l++[y]).length=l.length+1:=by simp
  have g:(l++[y]).getD l.length Rw.z=y:=by simp
  rw[e0,Dj,g,ZuO l y x l.length (Yf _),Xd]
  show _=(List.dropWhile _ (y::l.reverse)).reverse++x::(List.takeWhile _ (y::l.reverse)).reverse
  have f:GM x y<0↔x.num<y.num:=by unfold GM BJ;grind
  rw[List.dropWhile_cons,List.takeWhile_cons]
  by_cases c:x.num<y.num
  ·have a:=Um l x l.length
   have b:decide (GM x y<0)=true:=Yn (f.2 c)
   rw[Yi c,b,Yi rfl,Yi rfl,Rs a,Xi a,List.reverse_cons,←D5,j]
   simp
  ·have b:¬decide (GM x y<0)=true:=by rw[YB,f];exact c
   have i:(l++[y]).take (l.length+1)=l++[y]:=I0 (by simp)
   rw[Ym c,Ym b,Ym b,i]
   simp
theorem ZoD(l:List Raw):BV l=C1 GM l:=by
 have:insR=Go.Eng.insR GM:=funext fun out=>funext fun x=>ZoP x _ out rfl
 unfold BV C1
 rw[this]
end Go.Proofs.YtbcmdieedjamgaaGreat
namespace Go.Proofs.YtbcmdieedjamgaaGreat
set_option linter.all false
open Go Go.Eng
theorem ZwX(l:List Pr)(h:l.length<549755813888):S4 l=some l:=by
 cases l with
 |nil=>rfl
 |cons x r=>
  dsimp only[S4,mM,al,br,vw,lr,a0,mv,br]
  simp only[Dt]at h
  simp
  omega
theorem Zz8{a b:Val}(s:1≤a.kind∧a.kind≤9)(j:AO a)(l:AO b):Tf a b=some (BX a b):=by
 obtain⟨n,q,f,u⟩:=Px j
 obtain⟨k,p,e,t⟩:=Px l
 have r:(decide (1≤a.kind)&&decide (a.kind≤9))=true:=by simp[s]
 unfold BX
 by_cases he:a.kind=b.kind
 ·have i:(decide (1≤b.kind)&&decide (b.kind≤9))=true:=by rw[←he];exact r
  dsimp only[Tf,fF,br,wg,lr,cl,br,yz,mu,wg,lr,cl,bT,yP,nb,lr,yS,nK,br,vz,wg,lr,cl,br,yD,ZzE,lr]
  simp only[he,Yp,Y7,Yo,YQ,i,Yt,Ya,ne_eq,N4]
  rw[←he]
  by_cases h:a.kind=7∨a.kind=8
  ·have d:(decide (a.kind=7)||decide (a.kind=8))=true:=by simpa using h
   rw[Yi h]
   simp only[d,Yt,ZXS,Ya]
  ·have d:(decide (a.kind=7)||decide (a.kind=8))=false:=by simpa using h
   rw[Ym h]
   simp only[d,Yo,YQ]
   by_cases hs:a.kind=2∨a.kind=3
   ·have c:(decide (a.kind=2)||decide (a.kind=3))=true:=by simpa using hs
    have g:∀m:Nat,m<18446744073709551616→IntKind.i64.wrap (m:Int)=IntKind.u64.wrap ((m:Int)+9223372036854775808)-9223372036854775808:=fun m hm=>by
     rw[IntKind.wrap_i64]
     unfold IntKind.wrap
     simp only[show IntKind.u64.bits=64 from rfl,show IntKind.u64.signed=false from rfl,Er,Yo,YQ]
     omega
    simp only[c,hs,Yt,SI,Ya]
    rw[q,p,g n f,g k e]
    unfold BJ
    simp only[Int.sub_lt_sub_right_iff]
   ·have c:(decide (a.kind=2)||decide (a.kind=3))=false:=by simpa using hs
    by_cases o:a.kind=6
    ·simp only[c,hs,Yo,YQ]
     simp only[o,Yt,Yp,q,p,xf f,xf e,wI,Ya,YP]
    ·simp only[c,hs,o,Yo,YQ,YW,wI,Ya]
 ·dsimp only[Tf,fF,br,wg,lr,cl,br]
  simp only[he,YW,CP,Yt,SI,Ya,ne_eq,LK]
theorem ZTV{a b:Val}(e:1≤a.kind∧a.kind≤9)(c:AO a)(d:AO b):dj a b=some (decide (BX a b=0)):=by
 dsimp only[dj,l5,wg,lr,cl]
 rw[Zz8 e c d]
 rfl
def GN(l:List Pr):Nat→List Pr
 |0=>[]
 |i+1=>if i+1<l.length∧Bj (l.getD i Rw.z) (l.getD (i+1) Rw.z)=0 then GN l i else GN l i++[l.getD i Rw.z]
theorem ZqW(l:List Pr):∀i:Nat,(GN l i).length≤i
 |0=>Yf _
 |i+1=>by
  have:=ZqW l i
  rw[GN]
  split
  ·omega
  ·rw[Yq,HK]
   omega
theorem zq(l:List Pr):∀i:Nat,i≤l.length→EG l=GN l i++EG (l.drop i)
 |0,_=>rfl
 |i+1,h=>by
  have hi:i<l.length:=h
  have e0:l.getD i Rw.z=l[i]:=by rw[Yg,Ye hi];rfl
  rw[zq l i (by omega),HH hi,GN,e0]
  by_cases c:i+1<l.length
  ·have b:l.getD (i+1) Rw.z=l[i+1]:=by rw[Yg,Ye c];rfl
   rw[HH c,EG,b]
   by_cases a:Bj l[i] l[i+1]=0
   ·rw[Yi a,Yi ⟨c,a⟩]
   ·rw[Ym a,Ym fun h=>a h.2,D5]
    rfl
  ·rw[Ym fun h=>c h.1,List.drop_eq_nil_of_le (by omega)]
   simp[EG]
theorem ZxB(l:List Pr)(hl:l.length≤4194304)(j:∀p∈l,(1≤p.key.kind∧p.key.kind≤9)∧AO p.key):dk l=some (Io l):=by
 have C:=ZwX l (by omega)
 have t:FF l (fun z0 s=>MA z0 s)=some (C1 Bj l):=by
  have h:=iJ (pf:=fun z0 s=>MA z0 s) (cmp:=Bj) gv l (fun x hx y hy=>by
   dsimp only[MA,j7,wg,lr,cl]
   rw[Zz8 (j x hx).1 (j x hx).2 (j y hy).2]
   rfl) hl
  rw[dC G5 l]at h
  exact h
 have u:=dD (cf:=Bj) l
 have a:∀p∈C1 Bj l,(1≤p.key.kind∧p.key.kind≤9)∧AO p.key:=fun p d=>j p ((Pe l).mem_iff.1 d)
 have v:=zq (C1 Bj l) (C1 Bj l).length (Yf _)
 rw[Rx,Zpq,show EG []=[]from rfl,GV]at v
 rw[v]
 generalize C1 Bj l=m at t u a
 have r:=Dv (B:=Ng m) (N:=Ah) (ρ:=List Pr) m (fun p=>GN m p.length) (fun i b=>(b,i)) id (fun i p d=>by
  have w:=Bs d
  have hi:=(Yb.1 d).1
  have g:i+1<9223372036854775808:=by omega
  have A:(m.take i).length=i:=by rw[Yy];omega
  have o:(m.take i++[p]).length=i+1:=by rw[Yq,A];rfl
  have F:m.getD i Rw.z=p:=by rw[Yg,d];rfl
  have a1:=ZqW m i
  have z:((i+1:Nat):Int)=m.length↔i+1=m.length:=by omega
  rw[A,o,GN,F]
  have k:(GN m i).length<549755813887:=by omega
  generalize GN m i=out at k⊢
  dsimp only[Ng,Zt,br,vz,vw,wg,vs,vg,ln,Af,ap,AH,wa,ir,ca,fl,Bp,br]
  by_cases c:i+1=m.length
  ·have e:¬i+1<m.length:=by omega
   simp only[w,g,z,c,e,d,k,hi,Yp,Y7,N1,Yo,Ya,NY,Yt,YQ,Oc]
   have E:m.length<9223372036854775808:=by omega
   simp[E]
  ·have e:i+1<m.length:=by omega
   have hm:m.getD (i+1) Rw.z∈m:=by rw[Yg,Ye e];exact Gk e
   have D:=ZTV (a p (Yj d)).1 (a p (Yj d)).2 (a _ hm).2
   simp only[w,g,z,c,e,d,D,hi,Yp,YW,CP,Kh,Ya,FA,YM,forall_const,Yt,HM]
   generalize m.getD (i+1) Rw.z=q
   by_cases f:Bj p q=0
   ·have n:BX p.key q.key=0:=f
    simp[f,n,g]
   ·have n:¬BX p.key q.key=0:=f
    simp[f,n,g,k]) (by dsimp only[Ng,Zt,br,vz,vw,wg,vs,vg,ln,Af,ap,AH,wa,ir,ca,fl,Bp,br];simp) (AP (by omega))
 have r:Ai (Ng m) Ah ([],0)=some (.inl (GN m m.length)):=r
 dsimp only[dk,jN,u9,qo,vA,qj,qu,o5,uz,qG,vz,vw,lr,lc,rn,fl,fr,Bp]
 rw[C,Ya,t,Ya,Yi u.symm,r]
 rfl
theorem ZDW(a b:List Raw)(f:a.length≤1048576)(g:b.length≤1048576):dB a b=some (BV (a++b)):=by
 have c:=ZQN a b f g
 have d:=ZH5 (a++b) (by rw[Yq];omega)
 rw[ZoD]
 have e:=dD (cf:=GM) (a++b)
 dsimp only[dB,u1,sr,vF,sK,s8,vM,vz,vw,lr,lc,rn,fl,fr]
 rw[c,Ya,d,Ya,Yi e.symm]
theorem ZGa{s:Scm}(R:Scm→ByteArray→Val→Val→Option Val)(d:Nat)(l:LG s R d)(f:Fld)(x y:Val)(hx:AO x)(hy:AO y)(j:LI (Wk s d) f x)(k:LI (Wk s d) f y):Tk R s f x y=some (Fg (AZ s d) f x y):=by
 have h:=CN hx
 have i:=CN hy
 unfold Fg
 dsimp only[Tk,mc,lC,tv,rv,rJ,uM,vC,vT,sJ,oZ,u6,br,vz,vw,wg,lr,lc,cl,cs,fl,fz,fr,br]
 by_cases g:f.card=4
 ·rw[Yi (Yn g),ZJc _ _ h.l i.l,Yi g]
  rfl
 ·rw[Ym (by simp[g]),Ym g]
  by_cases a:f.card=5
  ·have n:=h.p
   have m:=i.p
   have e:=ZxB (x.pairs++y.pairs) (by rw[Yq];omega) fun p b=>by
    rcases D6.1 b with b|b
    ·exact⟨j.1 a p b,(EH hx b).1⟩
    ·exact⟨k.1 a p b,(EH hy b).1⟩
   rw[Yi (Yn a),ZQh _ _ h.p i.p,Ya,e,Yi a]
   rfl
  ·rw[Ym (by simp[a]),Ym a]
   by_cases c:f.type.kind=10
   ·rw[Yi (Yn c),Yi c,l f.type.name x y hx hy (j.2 g a c) (k.2 g a c)]
    rfl
   ·rw[Ym (by simp[c]),Ym c]
theorem ZIa(l:List Slt)(k:Int)(h:l.length<4611686018427387904):Tb l k=some (CU l fun x=>decide (x.num=k)):=by
 dsimp only[Tb,Zuf,lr,cs]
 rw[oo l (fun z0=>Tc z0 k) (fun x=>decide (x.num=k)) (fun x _=>rfl) h]
 rfl
theorem ZQW{s:Scm}(hs:An (Al s)≤1048576)(g:GdS s)(R:Scm→ByteArray→Val→Val→Option Val)(d:Nat)(Y:LG s R d)(n:ByteArray)(a b:Val)(D:AO a)(E:AO b)(v:Wk s (d+1) n a)(f:Wk s (d+1) n b):Sk R s n a b=some (AZ s (d+1) n a b):=by
 have K:=CN D
 have L:=CN E
 have M:S7 s n=some (AJ s n):=n61 s n (Ft hs).ml
 have t:=g.asc n
 have hl:(Ax s n).length≤1048576:=MP (Ft hs) n
 have s1:=K.s
 have s2:=L.s
 have o:=ZTJ (AJ s n).1 a.slots b hl s1 (by omega)
 have O:=ZDW a.raws b.raws K.r L.r
 rw[show(AJ s n).1.fields=Ax s n from rfl]at o
 have pa:a.slots.Pairwise fun x y=>x.num≠y.num:=v.1.imp fun h=>h.1
 have pb:b.slots.Pairwise fun x y=>x.num≠y.num:=f.1.imp fun h=>h.1
 have P:=ZGe (R:=AZ s d) t pa f.1 (fun x hx=>(v.2 x hx).1) (fun x hx=>(f.2 x hx).1)
 have C:∀x∈a.slots.filter (fun x=>!Cs (Ax s n) (AW (Ax s n) x.num) b.slots),x∈a.slots:=fun x hx=>(Du.1 hx).1
 have lA:=LS (fun x=>!Cs (Ax s n) (AW (Ax s n) x.num) b.slots) a.slots
 have J:(a.slots.filter fun x=>!Cs (Ax s n) (AW (Ax s n) x.num) b.slots).Pairwise fun x y=>x.num≠y.num:=pa.filter _
 rw[AZ,←P]
 generalize (a.slots.filter fun x=>!Cs (Ax s n) (AW (Ax s n) x.num) b.slots)=A at o C lA J⊢
 have fl:∀k,(Bo (Ax s n) k).2=true→AW (Ax s n) k∈Ax s n:=fun k G=>by
  rcases Ug (Ax s n) k with⟨c,_⟩|⟨_,c⟩
  ·rw[G]at c;cases c
  ·exact c
 have w:=Dv (B:=Nd s a b R (AJ s n)) (N:=Ah) (ρ:=Val) b.slots (fun p=>B3 (AZ s d) (Ax s n) A p) (fun i b=>(b,i)) id (fun i y hy=>by
  have V:=Bs hy
  have hi:=(Yb.1 hy).1
  have z:i+1<9223372036854775808:=by omega
  have hm:=Yj hy
  have Q:=n43 (AJ s n).1 y.num hl
  have H:∀x∈b.slots.take i,x.num≠y.num:=fun x hx=>by
   obtain⟨j,u⟩:=YJ.1 hx
   have e:j<i:=by have:=(Yb.1 u).1;rw[Yy]at this;omega
   rw[Y2,Yi e]at u
   obtain⟨j1,j2⟩:=Yb.1 u
   obtain⟨Z,i2⟩:=Yb.1 hy
   rw[←j2,←i2]
   exact(HJ.1 pb) j i j1 Z e
  have l1:=Ztz (AZ s d) (Ax s n) A (b.slots.take i)
  rw[Yy]at l1
  have l2:(B3 (AZ s d) (Ax s n) A (b.slots.take i)).length<549755813887:=by omega
  have S:=ZIa (B3 (AZ s d) (Ax s n) A (b.slots.take i)) y.num (by omega)
  dsimp only[Nd,ZH,D0,br,ix,vz,vw,wg,vs,ln,Af,ap,cl,cs,wa,AA,cp,rn,fl,br,AA]
  simp only[V,hy,Yp,Yt,Ya,Q,S]
  cases r:A.findIdx? fun x=>decide (x.num=y.num)with
  |none=>
   obtain⟨t1,t2⟩:=ZF1 (R:=AZ s d) (F:=Ax s n) H r
   have q:CU (B3 (AZ s d) (Ax s n) A (b.slots.take i)) (fun x=>decide (x.num=y.num))= -1:=by unfold CU;rw[t1]
   rw[q,t2]
   simp[l2,z]
  |some k=>
   obtain⟨x,t1,t2,t3,t4⟩:=ZED (R:=AZ s d) (F:=Ax s n) J H r
   have t0:=ZJJ (R:=AZ s d) (F:=Ax s n) (p:=b.slots.take i) r
   have q:CU (B3 (AZ s d) (Ax s n) A (b.slots.take i)) (fun x=>decide (x.num=y.num))=(k:Int):=by unfold CU;rw[t0]
   have hx:x∈a.slots:=C x (Yj t1)
   have I:=v.2 x hx
   have o2:=f.2 y hm
   rw[t3]at I
   have T:=ZGa R d Y (AW (Ax s n) y.num) x.val y.val (If D hx) (If E hm) I.2 o2.2
   have G:=(Yb.1 t2).1
   have U:(Bo (AJ s n).1.fields y.num).1=AW (Ax s n) y.num:=rfl
   have W:(0:Int)≤(k:Int):=by omega
   have X:(k:Int)<((B3 (AZ s d) (Ax s n) A (b.slots.take i)).length:Int):=by omega
   rw[q,t4,U]
   simp only[W,X,t2,T,Yp,Yt,Ya,YP,Cm,Oa,D4]
   simp[z]) (by dsimp only[Nd,ZH,D0,br,ix,vz,vw,wg,vs,ln,Af,ap,cl,cs,wa,AA,cp,rn,fl,br,AA];simp) (AP (by omega))
 have w:Ai (Nd s a b R (AJ s n)) Ah (A,0)=some (.inl (B3 (AZ s d) (Ax s n) A b.slots)):=by
  have:=w
  rw[ZEq]at this
  exact this
 have l3:=Ztz (AZ s d) (Ax s n) A b.slots
 have l:=ZH0 (B3 (AZ s d) (Ax s n) A b.slots) (by omega)
 have m:=dD (cf:=IN) (B3 (AZ s d) (Ax s n) A b.slots)
 have w1:a.slots.length≤549755813888:=by omega
 dsimp only[Sk,tL,vE,tu,qx,sB,qR,vm,vz,wg,lr,lc,cl,rn,msr,cpr,fl,fr,Aj]
 rw[M,Ya,Yi w1,Yi ⟨Yf _,rfl⟩,o,Ya,w]
 simp only[Ya,CE,l,m,O,Yt]
theorem w6{s:Scm}(hs:An (Al s)≤1048576)(g:GdS s):∀c d:Nat,d≤c→LG s (KZ c) d
 |_,0,_=>fun _ _ _ _ _ h=>h.elim
 |0,d+1,h=>by omega
 |c+1,d+1,h=>fun n a b e f i j=>ZQW hs g (KZ c) d (w6 hs g c d (by omega)) n a b e f i j
theorem Zyy{s:Scm}(hs:An (Al s)≤1048576)(g:GdS s)(n:ByteArray)(a b:Val)(c:AO a)(d:AO b)(e:Wk s 16 n a)(f:Wk s 16 n b):KZ Ah s n a b=some (AZ s 16 n a b):=w6 hs g Ah 16 (Nat.le_of_lt (AP (by omega))) n a b c d e f
theorem Zyr{s:Scm}(hs:An (Al s)≤1048576)(g:GdS s)(n:ByteArray)(a b:Val)(c:AO a)(d:AO b)(e:OkW s true 15 (AJ s n).1 a)(f:OkW s true 15 (AJ s n).1 b):KZ Ah s n a b=some (AZ s 16 n a b):=Zyy hs g n a b c d (e.wk g) (f.wk g)
def wO(o:Option Slt):Nat:=o.elim 0 fun x=>An (Aq x)+1
theorem eE(x:Slt)(l:List Slt)(k:Int):Ba (x::l) k=if x.num=k then some x else Ba l k:=by
 unfold Ba
 rw[List.find?_cons]
 by_cases h:x.num=k<;>simp[h]
theorem ZrM(x:Slt)(l:List Slt):∀{F:List Fld},(F.Pairwise fun a b=>a.num<b.num)→(F.map fun f=>wO (Ba (x::l) f.num)).sum≤An (Aq x)+1+(F.map fun f=>wO (Ba l f.num)).sum
 |[],_=>Ck _
 |f::F,h=>by
  obtain⟨d,i⟩:=Y4.1 h
  have k:=ZrM x l i
  simp only[YS,List.sum_cons]
  rw[eE]
  by_cases c:x.num=f.num
  ·have e:(F.map fun f=>wO (Ba (x::l) f.num))=F.map fun f=>wO (Ba l f.num):=Ep fun g j=>by
    have:=d g j
    rw[eE,Ym (by omega)]
   rw[Yi c,e]
   show An (Aq x)+1+_≤_
   omega
  ·rw[Ym c]
   omega
theorem ff{F:List Fld}(h:F.Pairwise fun a b=>a.num<b.num):∀l:List Slt,(F.map fun f=>wO (Ba l f.num)).sum≤AE (l.map Aq)
 |[]=>by
  have e:(F.map fun f=>wO (Ba [] f.num))=F.map fun _=>0:=rfl
  rw[e]
  clear h e
  induction F with
  |nil=>exact Yf _
  |cons f F c=>simpa using c
 |x::l=>by
  have d:=ZrM x l h
  have g:=ff h l
  rw[YS,AE]
  omega
theorem ZE3{R:ByteArray→Val→Val→Val}(d:∀n x y,An (Ae (R n x y))≤An (Ae x)+An (Ae y))(f:Fld)(x y:Val):An (Ae (Fg R f x y))≤An (Ae x)+An (Ae y):=by
 have b:rk .u64 0=0:=by decide
 have e:(⟨#[]⟩:ByteArray).size=0:=rfl
 unfold Fg
 split
 ·have a:rk .i64 11=0:=by decide
  rw[Lp,F7 x,F7 y,DO,Gw]
  simp only[a,b,D3,AE]
  omega
 ·split
  ·have a:rk .i64 12=0:=by decide
   have c:=fA (x.pairs++y.pairs) (x.pairs++y.pairs).length
   rw[LN,DO,Gw]at c
   rw[Lp,F7 x,F7 y]
   simp only[a,b,D3,AE,Io]
   omega
  ·split
   ·exact d _ _ _
   ·omega
theorem ZFw{R:ByteArray→Val→Val→Val}(e:∀n x y,An (Ae (R n x y))≤An (Ae x)+An (Ae y))(F:List Fld)(a b:List Slt)(f:Fld):AE ((CA R F a b f).map Aq)≤wO (Ba a f.num)+wO (Ba b f.num):=by
 have s:∀(k:Int) (v:Val),AE (([Slt.mk k v]:List Slt).map Aq)=rk .i64 k+An (Ae v)+1:=fun k v=>by
  rw[YS,D3,AE,SP]
  rfl
 have w:∀(l:List Slt) (x:Slt),Ba l f.num=some x→wO (Ba l f.num)=rk .i64 f.num+An (Ae x.val)+1:=fun l x h=>by
  rw[h,←(Hl h).2,←SP]
  rfl
 unfold CA
 split
 ·rename_i x y c d
  have:=ZE3 e f x.val y.val
  rw[s,w a x c,w b y d]
  omega
 ·rename_i y c d
  rw[s,w b y d]
  omega
 ·rename_i x c d
  split
  ·exact Ck _
  ·rw[s,w a x c]
   omega
 ·exact Ck _
theorem ZzU{R:ByteArray→Val→Val→Val}(c:∀n x y,An (Ae (R n x y))≤An (Ae x)+An (Ae y))(F:List Fld)(a b:List Slt):∀l:List Fld,AE ((Ca R F a b l).map Aq)≤(l.map fun f=>wO (Ba a f.num)).sum+(l.map fun f=>wO (Ba b f.num)).sum
 |[]=>Ck _
 |f::l=>by
  have d:=ZzU c F a b l
  have h:=ZFw c F a b f
  show AE ((CA R F a b f++Ca R F a b l).map Aq)≤_
  rw[DO,Gw]
  simp only[YS,List.sum_cons]
  omega
theorem jO{s:Scm}(h:∀n:ByteArray,Df (Ax s n) (Ax s n).length):∀(d:Nat) (n:ByteArray) (a b:Val),An (Ae (AZ s d n a b))≤An (Ae a)+An (Ae b)
 |0,n,a,b=>LM _ _
 |d+1,n,a,b=>by
  have e:rk .i64 10=0:=by decide
  have f:rk .u64 0=0:=by decide
  have g:=ZzU (fun n x y=>jO h d n x y) (Ax s n) a.slots b.slots (Ax s n)
  have i:=ff (JD (h n)) a.slots
  have j:=ff (JD (h n)) b.slots
  have c:=is (a.raws++b.raws) []
  rw[DO,Gw]at c
  rw[AZ,Lp,F7 a,F7 b,BV]
  simp only[e,f,c,D3,AE]
  have:(⟨#[]⟩:ByteArray).size=0:=rfl
  omega
def vO(l:List Slt)(k:Int):Option Val:=(Ba l k).map Slt.val
theorem fm(l:List Slt)(k:Int):BM l k=(vO l k).isSome:=by
 rw[ek,vO,Option.isSome_map]
def mo(R:ByteArray→Val→Val→Val)(f:Fld)(A B:Option Val)(r:Bool):Option Val:=
 match A,B with
 |some x,some y=>some (Fg R f x y)
 |none,some y=>some y
 |some x,none=>if r=true then none else some x
 |none,none=>none
theorem fp(R:ByteArray→Val→Val→Val)(F:List Fld)(a b:List Slt)(f:Fld):CA R F a b f=((mo R f (vO a f.num) (vO b f.num) (Cs F f b)).map (Slt.mk f.num)).toList:=by
 unfold CA vO mo
 cases Ba a f.num with
 |none=>cases Ba b f.num<;>rfl
 |some x=>
  cases Ba b f.num with
  |some y=>rfl
  |none=>
   show(if Cs F f b=true then[]else[Slt.mk f.num x.val])=((if Cs F f b=true then none else some x.val).map (Slt.mk f.num)).toList
   split<;>rfl
theorem me{R:ByteArray→Val→Val→Val}{F:List Fld}{a b:List Slt}:∀{l:List Fld},(l.Pairwise fun a b=>a.num<b.num)→∀f∈l,vO (Ca R F a b l) f.num=mo R f (vO a f.num) (vO b f.num) (Cs F f b)
 |g::l,h,f,c=>by
  obtain⟨d,j⟩:=Y4.1 h
  have e0:vO (Ca R F a b (g::l)) f.num=(vO (CA R F a b g) f.num).or (vO (Ca R F a b l) f.num):=by
   show vO (CA R F a b g++Ca R F a b l) f.num=_
   unfold vO Ba
   rw[RH]
   cases List.find? (fun x:Slt=>decide (x.num=f.num)) (CA R F a b g)<;>rfl
  rw[e0]
  rcases Yx.1 c with rfl|c
  ·have i:vO (Ca R F a b l) f.num=none:=by
    unfold vO
    rw[P1.2 fun x hx=>by
     obtain⟨k,m,hx⟩:=N9.1 hx
     rw[Pp hx]
     have:=d k m
     omega]
    rfl
   rw[i,fp]
   cases mo R f (vO a f.num) (vO b f.num) (Cs F f b)with
   |none=>rfl
   |some v=>
    show(vO [Slt.mk f.num v] f.num).or none=some v
    unfold vO
    rw[eE,Yi (show(Slt.mk f.num v).num=f.num from rfl)]
    rfl
  ·have e:vO (CA R F a b g) f.num=none:=by
    unfold vO
    rw[P1.2 fun x hx=>by
     rw[Pp hx]
     have:=d f c
     omega]
    rfl
   rw[e,me j f c]
   rfl
theorem T8{R:ByteArray→Val→Val→Val}{F:List Fld}{a b:List Slt}{l:List Fld}{z:Slt}:z∈Ca R F a b l↔∃f∈l,z.num=f.num∧mo R f (vO a f.num) (vO b f.num) (Cs F f b)=some z.val:=by
 unfold Ca
 rw[N9]
 constructor
 ·rintro⟨f,d,e⟩
  refine⟨f,d,Pp e,?_⟩
  rw[fp,Option.mem_toList,GZ]at e
  obtain⟨v,c,rfl⟩:=e
  exact c
 ·rintro⟨f,d,c,g⟩
  refine⟨f,d,?_⟩
  rw[fp,g,Option.mem_toList,YY,←c]
  cases z
  rfl
theorem gH{l:List Slt}{k:Int}{v:Val}(h:vO l k=some v):∃x∈l,x.num=k∧x.val=v:=by
 unfold vO at h
 obtain⟨x,a,b⟩:=GZ.1 h
 exact⟨x,(Hl a).1,(Hl a).2,b⟩
theorem gj{F:List Fld}{f g:Fld}{b:List Slt}(e:g∈F)(a:g.union=f.union)(c:f.union≠⟨#[]⟩)(d:g.num≠f.num)(h:(vO b g.num).isSome=true):Cs F f b=true:=by
 unfold Cs
 rw[YR]
 refine⟨g,e,?_⟩
 simp[a,c,d,fm,h]
theorem ZEG{F:List Fld}(h:Df F F.length){b:List Slt}(c:b.Pairwise fun x y=>x.num≠y.num∧Ds F x y){f:Fld}(d:f∈F){v:Val}(hy:vO b f.num=some v):Cs F f b=false:=by
 unfold vO at hy
 obtain⟨x,a,_⟩:=GZ.1 hy
 exact fy h c d a
theorem ZEF{k:Int}{q p:Pr}(a:q.key.kind=k)(b:p.key.kind=k)(h:Iq q.key p.key=true):¬Bj q p<0:=by
 intro c
 unfold Iq at h
 rw[Yc,YB,YB]at h
 have c:BX q.key p.key<0:=c
 unfold BX at c
 rw[h.1,h.2,a.trans b.symm]at c
 exact T7.ir p.key c
theorem fY{k:Int}{l:List Val}{p:List Pr}{sl:List Slt}{r:List Raw}(hl:k=11∨l=[])(f:k=12∨p=[])(hs:k=10∨(sl=[]∧r=[])):Cg (.mk k 0 ⟨#[]⟩ l p sl r)=false:=by
 unfold Cg
 refine Yr ?_
 rintro(⟨a,b⟩|⟨a,b⟩|⟨a,b⟩|⟨a,_⟩|⟨a,_⟩)
 ·rcases hl with e|e
  ·exact a e
  ·subst e;exact absurd b (NV 0)
 ·rcases f with e|e
  ·exact a e
  ·subst e;exact absurd b (NV 0)
 ·rcases hs with e|⟨c,d⟩
  ·exact a e
  ·subst c;subst d;exact b.elim (NV 0) (NV 0)
 ·exact a rfl
 ·exact a rfl
theorem ZyL{s:Scm}{d:Nat}{R:ByteArray→Val→Val→Val}(u:∀d':Nat,d=d'+1→∀(n:ByteArray) (x y:Val),OkM s true d' (AJ s n).1 x→OkM s true d' (AJ s n).1 y→OkM s true d' (AJ s n).1 (R n x y)){f:Fld}(w:GdF s f){x y:Val}(m:BR (A0 s true d) s true f x=0)(b:BR (A0 s true d) s true f y=0):BR (A0 s true d) s true f (Fg R f x y)=0:=by
 unfold Fg
 by_cases a:f.card=4
 ·unfold BR at*
  rw[Yi a]at m b
  rw[Yi a,Yi a]
  have k:∀v:Val,(if v.kind≠11∨Cg v=true then(12:Int)else B1 (fun _ x=>CL (A0 s true d) s f.type x) v.list 0)=0→∀z∈v.list,CL (A0 s true d) s f.type z=0:=fun v h=>by
   split at h
   ·cases h
   ·exact(K6 _ _).1 h
  rw[Ym (by
   rintro(h|h)
   ·exact h rfl
   ·rw[fY (.inl rfl) (.inr rfl) (.inr ⟨rfl,rfl⟩)]at h
    cases h)]
  exact(K6 _ _).2 fun z C=>(D6.1 C).elim (k x m z) (k y b z)
 ·by_cases l:f.card=5
  ·unfold BR at*
   rw[Ym a,Yi l]at m b
   rw[Ym a,Ym a,Yi l,Yi l]
   have k:∀v:Val,(if v.kind≠12∨Cg v=true then(12:Int)else B1 (Kl (CL (A0 s true d) s f.type) f.key true v.pairs) v.pairs 0)=0→∀p∈v.pairs,DX f.key p.key=0∧CL (A0 s true d) s f.type p.val=0:=fun v h p g=>by
    split at h
    ·cases h
    ·rw[Li]at h
     obtain⟨j,A⟩:=YJ.1 g
     have:=h j p A
     rw[Wx]at this
     exact⟨this.1,this.2.2⟩
   have r:∀p∈x.pairs++y.pairs,DX f.key p.key=0∧CL (A0 s true d) s f.type p.val=0:=fun p g=>(D6.1 g).elim (k x m p) (k y b p)
   rw[Ym (by
    rintro(h|h)
    ·exact h rfl
    ·rw[fY (.inr rfl) (.inl rfl) (.inr ⟨rfl,rfl⟩)]at h
     cases h),Li]
   intro j p g
   have hm:=K5 (Yj g)
   rw[YN,Wx]
   refine⟨(r p hm).1,?_,(r p hm).2⟩
   rintro⟨_,c⟩
   obtain⟨q,B,e⟩:=YR.1 c
   obtain⟨i,hi⟩:=YJ.1 B
   have o:i<j:=by have:=(Yb.1 hi).1;rw[Yy]at this;omega
   rw[Y2,Yi o]at hi
   have t:=K5 (Yj hi)
   refine ZEF (SA (r q t).1).1 (SA (r p hm).1).1 e ?_
   obtain⟨D,E⟩:=Yb.1 hi
   obtain⟨F,G⟩:=Yb.1 g
   rw[←E,←G]
   exact HJ.1 (zY (x.pairs++y.pairs)) i j D F o
  ·rw[Ym a,Ym l]
   by_cases c:f.type.kind=10
   ·rw[Yi c]
    unfold BR at*
    rw[Ym a,Ym l]at*
    obtain⟨d',e,H⟩:=fe c m
    obtain⟨d2,J,I⟩:=fe c b
    have:d2=d':=by omega
    subst this
    subst e
    unfold CL
    rw[Yi c,Yi (w.ms c)]
    exact Va.2 (u d2 rfl f.type.name x y H I)
   ·rw[Ym c]
    exact b
theorem TL{R:ByteArray→Val→Val→Val}{f:Fld}{A B:Option Val}{r:Bool}{v:Val}(h:mo R f A B r=some v):(∃x y,A=some x∧B=some y∧v=Fg R f x y)∨(A=none∧B=some v)∨(A=some v∧B=none∧r=false):=by
 unfold mo at h
 cases A with
 |none=>
  cases B with
  |none=>cases h
  |some y=>cases h;exact .inr (.inl ⟨rfl,rfl⟩)
 |some x=>
  cases B with
  |none=>
   cases r with
   |true=>cases h
   |false=>cases h;exact .inr (.inr ⟨rfl,rfl,rfl⟩)
  |some y=>cases h;exact .inl ⟨x,y,rfl,rfl,rfl⟩
theorem Zsv{s:Scm}(g:GdS s){d:Nat}{R:ByteArray→Val→Val→Val}(K:∀d':Nat,d=d'+1→∀(n:ByteArray) (x y:Val),OkM s true d' (AJ s n).1 x→OkM s true d' (AJ s n).1 y→OkM s true d' (AJ s n).1 (R n x y)){n:ByteArray}{a b v:Val}(E:OkW s true d (AJ s n).1 a)(F:OkW s true d (AJ s n).1 b)(C:v.slots=Ca R (Ax s n) a.slots b.slots (Ax s n)):OkW s true d (AJ s n).1 v:=by
 have j:=g.asc n
 have o:∀f∈Ax s n,Bo (Ax s n) f.num=(f,true):=fun f q=>JC j q
 have pa:=E.pw
 have pb:=F.pw
 rw[show(AJ s n).1.fields=Ax s n from rfl]at pa pb
 have G:∀f∈Ax s n,∀x,vO a.slots f.num=some x→BR (A0 s true d) s true f x=0:=fun f q x hx=>by
  obtain⟨z,c,i,p⟩:=gH hx
  have:=(E.sl z c).2
  rw[i,show AW (AJ s n).1.fields f.num=f from congrArg Prod.fst (o f q),p]at this
  exact this
 have H:∀f∈Ax s n,∀x,vO b.slots f.num=some x→BR (A0 s true d) s true f x=0:=fun f q x hx=>by
  obtain⟨z,c,i,p⟩:=gH hx
  have:=(F.sl z c).2
  rw[i,show AW (AJ s n).1.fields f.num=f from congrArg Prod.fst (o f q),p]at this
  exact this
 constructor
 ·rw[C,show(AJ s n).1.fields=Ax s n from rfl]
  refine List.Pairwise.imp_of_mem ?_ (T6 (JD j))
  intro V W M m2 L
  obtain⟨f1,w,N,I⟩:=T8.1 M
  obtain⟨f2,A,O,J⟩:=T8.1 m2
  refine⟨by omega,?_⟩
  have P:AW (Ax s n) V.num=f1:=by rw[N];exact congrArg Prod.fst (o f1 w)
  have Q:AW (Ax s n) W.num=f2:=by rw[O];exact congrArg Prod.fst (o f2 A)
  unfold Ds
  rw[P,Q]
  rintro⟨t,B⟩
  have m:f1.num≠f2.num:=by omega
  have two:∀l:List Slt,(l.Pairwise fun x y=>x.num≠y.num∧Ds (Ax s n) x y)→∀x y,vO l f1.num=some x→vO l f2.num=some y→False:=fun l hl x y hx hy=>by
   have h:=ZEG j hl A hy
   rw[gj w t B m (by rw[hx];rfl)]at h
   cases h
  have u:=TL I
  have r:=TL J
  cases Dr:vO b.slots f1.num with
  |some X=>
   cases Au:vO b.slots f2.num with
   |some U=>exact two _ pb _ _ Dr Au
   |none=>
    rw[Au]at r
    have T:=gj (b:=b.slots) w t B m (by rw[Dr];rfl)
    rcases r with⟨_,_,_,h,_⟩|⟨_,h⟩|⟨_,_,h⟩
    ·cases h
    ·cases h
    ·rw[T]at h;cases h
  |none=>
   rw[Dr]at u
   cases Au:vO b.slots f2.num with
   |some U=>
    have S:=gj (b:=b.slots) A t.symm (by rw[t];exact B) (fun e=>m e.symm) (by rw[Au];rfl)
    rcases u with⟨_,_,_,h,_⟩|⟨_,h⟩|⟨_,_,h⟩
    ·cases h
    ·cases h
    ·rw[S]at h;cases h
   |none=>
    rw[Au]at r
    rcases u with⟨_,_,_,h,_⟩|⟨_,h⟩|⟨c,_,_⟩
    ·cases h
    ·cases h
    ·rcases r with⟨_,_,_,h,_⟩|⟨_,h⟩|⟨i,_,_⟩
     ·cases h
     ·cases h
     ·exact two _ pa _ _ c i
 ·intro z D
  rw[C]at D
  obtain⟨f,k,e,h⟩:=T8.1 D
  rw[e,show Bo (AJ s n).1.fields f.num=(f,true)from o f k,show AW (AJ s n).1.fields f.num=f from congrArg Prod.fst (o f k)]
  refine⟨rfl,?_⟩
  rcases TL h with⟨x,y,c,i,p⟩|⟨_,i⟩|⟨c,_,_⟩
  ·rw[p]
   exact ZyL K (g.fl n f k) (G f k x c) (H f k y i)
  ·exact H f k _ i
  ·exact G f k _ c
theorem ZzJ{s:Scm}(g:GdS s):∀(d:Nat) (n:ByteArray) (a b:Val),OkM s true d (AJ s n).1 a→OkM s true d (AJ s n).1 b→OkM s true d (AJ s n).1 (AZ s (d+1) n a b)
 |d,n,a,b,k,l=>by
  have hw:OkW s true d (AJ s n).1 (AZ s (d+1) n a b):=Zsv g (R:=AZ s d) (fun d' e n x y m o=>by
   subst e
   exact ZzJ g d' n x y m o) k.w l.w rfl
  refine⟨rfl,?_,hw.pw,hw.sl,fun f h c=>?_,fun x hx=>?_⟩
  ·exact fY (.inr rfl) (.inr rfl) (.inl rfl)
  ·have h:f∈Ax s n:=h
   show BM (Ca (AZ s d) (Ax s n) a.slots b.slots (Ax s n)) f.num=true
   rw[fm,me (JD (g.asc n)) f h]
   have i:=k.rq f h c
   have j:=l.rq f h c
   rw[fm,Y5]at i j
   obtain⟨x,i⟩:=i
   obtain⟨y,j⟩:=j
   rw[i,j]
   rfl
  ·have hx:x∈BV (a.raws++b.raws):=hx
   rw[ZoD,(Pe _).mem_iff]at hx
   exact(D6.1 hx).elim (k.rw x) (l.rw x)
theorem ZyG{s:Scm}(g:GdS s)(d:Nat)(n:ByteArray)(a b:Val)(c:OkW s true d (AJ s n).1 a)(f:OkW s true d (AJ s n).1 b):OkW s true d (AJ s n).1 (AZ s (d+1) n a b):=Zsv g (R:=AZ s d) (fun d' e n x y h i=>by
 subst e
 exact ZzJ g d' n x y h i) c f rfl
theorem Zsx{s:Scm}(g:GdS s){d:Nat}{n:ByteArray}{a:Val}(pa:a.slots.Pairwise fun x y=>x.num≠y.num)(e:a=BF s (d+1) n a):F4 a.slots∧(∀x∈a.slots,ju (C7 (BF s d)) (Ax s n) x)∧BV a.raws=a.raws∧a=.mk 10 0 ⟨#[]⟩ [] [] a.slots a.raws:=by
 obtain⟨c,f,h,i,j,k,b⟩:=ip.1 e
 obtain⟨l,m⟩:=ZMW (g.asc n) pa k
 have b:a.raws=BV a.raws:=b
 exact⟨l,m,b.symm,ip.2 ⟨c,f,h,i,j,rfl,rfl⟩⟩
theorem ZKm{s:Scm}(g:GdS s){d:Nat}{n:ByteArray}{a:Val}(j:OkW s true d (AJ s n).1 a)(e:a=BF s (d+1) n a):AZ s (d+1) n (.mk 10 0 ⟨#[]⟩ [] [] [] []) a=a:=by
 have i:=g.asc n
 obtain⟨o,_,p,q⟩:=Zsx g (j.pw.imp fun h=>h.1) e
 have m:Ca (AZ s d) (Ax s n) [] a.slots (Ax s n)=a.slots:=e9 (T6 (JD i)) o fun z=>by
  rw[T8]
  constructor
  ·rintro⟨f,u,k,h⟩
   rcases TL h with⟨_,_,h,_,_⟩|⟨_,h⟩|⟨h,_,_⟩
   ·cases h
   ·obtain⟨x,hx,r,t⟩:=gH h
    rw[Zzv.2 ⟨k.trans r.symm,t.symm⟩]
    exact hx
   ·cases h
  ·intro l
   have b:=(j.sl z l).1
   rcases Ug (Ax s n) z.num with⟨c,_⟩|⟨_,c⟩
   ·rw[show(Bo (AJ s n).1.fields z.num).2=(Bo (Ax s n) z.num).2 from rfl,c]at b
    cases b
   ·refine⟨_,c,(TT b).symm,?_⟩
    rw[show(AW (Ax s n) z.num).num=z.num from TT b,show vO a.slots z.num=some z.val by unfold vO;rw[eF (j.pw.imp fun h=>h.1) l];rfl]
    rfl
 show Val.mk 10 0 ⟨#[]⟩ [] [] (Ca (AZ s d) (Ax s n) [] a.slots (Ax s n)) (BV ([]++a.raws))=a
 rw[m,Fy,p]
 exact q.symm
def B2(s:Scm)(n:ByteArray):List Val→Val
 |[]=>.mk 10 0 ⟨#[]⟩ [] [] [] []
 |v::r=>r.foldl (AZ s 16 n) v
theorem Zrf(s:Scm)(n:ByteArray):∀(p:List Val) (x:Val),B2 s n (p++[x])=if p.length=0 then x else AZ s 16 n (B2 s n p) x
 |[],x=>rfl
 |v::p,x=>by
  rw[Ym (by simp)]
  show(p++[x]).foldl (AZ s 16 n) v=_
  rw[RI]
  rfl
theorem pr{s:Scm}(g:GdS s){n:ByteArray}:∀(r:List Val) (v:Val),OkW s true 15 (AJ s n).1 v→(∀x∈r,OkW s true 15 (AJ s n).1 x)→OkW s true 15 (AJ s n).1 (r.foldl (AZ s 16 n) v)
 |[],v,o,_=>o
 |x::r,v,o,h=>pr g r _ (ZyG g 15 n v x o (h x Yz)) fun y hy=>h y (Yw _ hy)
theorem rc{s:Scm}(g:GdS s){n:ByteArray}:∀(r:List Val) (v:Val),An (Ae (r.foldl (AZ s 16 n) v))≤An (Ae v)+AE (r.map Az)
 |[],v=>LM _ _
 |x::r,v=>by
  have h:=rc g (n:=n) r (AZ s 16 n v x)
  have a:=jO g.asc 16 n v x
  rw[LU,YS,AE,Dc]
  omega
theorem XU{s:Scm}(g:GdS s){n:ByteArray}:∀l:List Val,(∀x∈l,OkW s true 15 (AJ s n).1 x)→OkW s true 15 (AJ s n).1 (B2 s n l)
 |[],_=>⟨.nil,fun x hx=>by cases hx⟩
 |v::r,h=>pr g r v (h v Yz) fun y hy=>h y (Yw _ hy)
theorem VY{s:Scm}(g:GdS s){n:ByteArray}:∀l:List Val,An (Ae (B2 s n l))≤AE (l.map Az)
 |[]=>by
  have:An (Ae (B2 s n []))=0:=by show An (Ae (.mk 10 0 ⟨#[]⟩ [] [] [] []))=0;decide
  rw[this]
  exact Ck _
 |v::r=>by
  have:=rc g (n:=n) r v
  rw[YS,AE,Dc]
  show An (Ae (r.foldl (AZ s 16 n) v))≤_
  omega
theorem ZK4{s:Scm}(g:GdS s){n:ByteArray}{l:List Val}(h:∀x∈l,OkW s true 15 (AJ s n).1 x∧x=BF s 16 n x)(k:Nat):B2 s n (B2 s n (l.take k)::l.drop k)=B2 s n l:=by
 cases l with
 |nil=>simp[B2]
 |cons v r=>
  cases k with
  |zero=>
   show r.foldl (AZ s 16 n) (AZ s 16 n (.mk 10 0 ⟨#[]⟩ [] [] [] []) v)=r.foldl (AZ s 16 n) v
   have a:=h v Yz
   rw[ZKm g a.1 a.2]
  |succ k=>
   show(r.drop k).foldl (AZ s 16 n) ((r.take k).foldl (AZ s 16 n) v)=r.foldl (AZ s 16 n) v
   rw[←RI,G0]
end Go.Proofs.YtbcmdieedjamgaaGreat
namespace Go.Proofs.YtbcmdieedjamgaaGreat
set_option linter.all false
open Go Go.Eng Go.ChangeShapes Go.WideShapes Go.ChangeAt Go.RowKit
theorem Zw5{P:Program}{t:TypeId}{H:Type}{enc:TypeId×Value→H}{W:World}{k:IntKind}{r:Reach}{a:Nat}{v:Value}{d:DataW H}{p:List MemPlace}(e:P.underlying t=some (.int k))(g:Value.okWide P W r a t v)(h:DataW.Trod enc P W 0 (fun _=>true) true t v d p):
  ∃x:Int,(∀S Hp m l,RepA W S Hp m l (.d (.int k x)) v)∧k.min≤x∧x≤k.max:=by
 obtain⟨x,rfl⟩:=okWide_int e g
 obtain⟨n,f⟩:=h
 obtain⟨m,c,_,b⟩:=DataW.trod_int e f
 have c:x=m:=by simpa[Value.cells]using c
 subst c
 refine⟨x,fun _ _ _ _=>.d _ _ (.int _ _),?_⟩
 unfold Lit.wf at b
 rw[Yc]at b
 exact⟨YZ b.1,YZ b.2⟩
theorem UV(v:Val):Val.mk v.kind v.bits v.text v.list v.pairs v.slots v.raws=v:=by cases v;rfl
theorem fb{l:List Val}(i:Nat):AE ((l.take i).map Az)≤AE (l.map Az):=by
 have:=Ws Az l i
 omega
theorem gu{s:Scm}(hs:An (Al s)≤1048576)(g:GdS s)(n:ByteArray)(l:List Val)(hl:AE (l.map Az)≤1048576)(h:∀x∈l,OkW s true 15 (AJ s n).1 x):dP s n l=some (B2 s n l):=by
 have r:=Ce (e:=Az) l
 have m:∀i:Nat,An (Ae (B2 s n (l.take i)))≤1048576:=fun i=>by
  have p:=VY g (n:=n) (l.take i)
  have q:=fb (l:=l) i
  omega
 have b:=Dv (B:=Mg s n l) (N:=Ah) (ρ:=Val) l (B2 s n) (fun i v=>(i,v.kind,v.bits,v.text,v.list,v.pairs,v.slots,v.raws)) (fun v=>(v.kind,v.bits,v.text,v.list,v.pairs,v.slots,v.raws)) (fun i x hx=>by
  have j:=Bs hx
  have hi:=(Yb.1 hx).1
  have k:i+1<9223372036854775808:=by omega
  have hm:=Yj hx
  have a:AO x:=by
   have:=Cu (e:=Az) hm
   rw[Dc]at this
   show An (Ae x)≤_
   omega
  have e0:=Zrf s n (l.take i) x
  rw[show(l.take i).length=i by rw[Yy];omega]at e0
  have o:=XU g (l.take i) fun y hy=>h y (Kd hy)
  have d:=Zyr hs g n (B2 s n (l.take i)) x (m i) a o (h x hm)
  rw[e0]
  generalize B2 s n (l.take i)=w at d⊢
  dsimp only[Mg,bb,br,ix,wg,vs,ln,Af,cl,wa,br]
  simp only[j,hx,Yp,Yt,Ya,UV]
  by_cases c:i=0
  ·subst c
   simp
  ·have f:¬(i:Int)=0:=by omega
   simp[c,f,d,k]) (by dsimp only[Mg,bb,br,ix,wg,vs,ln,Af,cl,wa,br];simp) (AP (by omega))
 dsimp only[dP,wX,yc,x0,xW,vz,vw,wg,lr,lc,fz,Aj]
 have b:Ai (Mg s n l) Ah (0,10,0,⟨#[]⟩,[],[],[],[])=_:=b
 rw[b]
 exact congrArg some (UV _)
theorem ZNR{s:Scm}(hs:An (Al s)≤1048576)(g:GdS s)(n:ByteArray)(l:List Val)(hl:AE (l.map Az)≤1048576)(h:∀x∈l,OkW s true 15 (AJ s n).1 x):cL s n l=some (B2 s n l):=by
 have t:=Ce (e:=Az) l
 dsimp only[cL,qZ,tk,pY,br,ix,vz,wg,lr,lc,Aj,br]
 cases l with
 |nil=>rfl
 |cons v r=>
  rw[Dt]at t
  have d:=Dv (B:=Nl s n (v::r)) (N:=Ah) (ρ:=Val) r (fun p=>B2 s n (v::p)) (fun i w=>(i+1,w.kind,w.bits,w.text,w.list,w.pairs,w.slots,w.raws)) (fun v=>(v.kind,v.bits,v.text,v.list,v.pairs,v.slots,v.raws)) (fun i x hx=>by
   have hi:=(Yb.1 hx).1
   have j:((i+1:Nat):Int)<((v::r).length:Int):=by rw[Dt];omega
   have k:i+1+1<9223372036854775808:=by omega
   have hm:=Yj hx
   have a:(v::r)[i+1]?=some x:=hx
   have b:AO x:=by
    have:=Cu (e:=Az) (Yw v hm)
    rw[Dc]at this
    show An (Ae x)≤_
    omega
   have e0:B2 s n (v::(r.take i++[x]))=AZ s 16 n (B2 s n (v::r.take i)) x:=(Zrf s n (v::r.take i) x).trans (Ym (by simp))
   have o:=XU g (v::r.take i) fun y hy=>h y (by
    rcases Yx.1 hy with e|hy
    ·rw[e];exact Yz
    ·exact Yw _ (Kd hy))
   have q:AO (B2 s n (v::r.take i)):=by
    have u:=VY g (n:=n) (v::r.take i)
    have m:=fb (l:=v::r) (i+1)
    rw[List.take_succ_cons]at m
    show An _≤_
    omega
   have f:=ZqC hs g n (B2 s n (v::r.take i)) x q b o (h x (Yw _ hm))
   rw[e0]
   generalize B2 s n (v::r.take i)=w at f⊢
   dsimp only[Nl,Z8,br,ix,vz,wg,vs,v2,ln,Af,cl,wa,Aj,br]
   simp only[j,a,Yp,Yt,Ya,UV,f,k]) (by dsimp only[Nl,Z8,br,ix,vz,wg,vs,v2,ln,Af,cl,wa,Aj,br];simp) (AP (by omega))
  have d:Ai (Nl s n (v::r)) Ah (1,v.kind,v.bits,v.text,v.list,v.pairs,v.slots,v.raws)=_:=d
  have c:¬(((v::r).length:Nat):Int)=0:=by rw[Dt];omega
  rw[Ym (by rw[YB];exact c)]
  show(some v).bind _=_
  rw[Ya,d]
  exact congrArg some (UV _)
end Go.Proofs.YtbcmdieedjamgaaGreat
namespace Go.Proofs.YtbcmdieedjamgaaGreat
set_option linter.all false
open Go Go.Eng
theorem ZoZ{s:Scm}{n:ByteArray}{l:List Val}{k:Int}(hs:An (Al s)≤1048576)(_:(0:Nat)≤1)(hl:AE (l.map Az)+1≤1048576)(M:IntKind.u8.min≤k∧k≤IntKind.u8.max):b6 s n l k=some true:=by
 have O:0≤k∧k≤255:=M
 have V:=Ce (e:=Az) l
 obtain⟨D,E,d⟩:=o16 hs
 dsimp only[b6,xZ,xw,wS,aw,x8,wK,br,vz,vy,vw,wg,vs,lr,lc,a1,cl,AH,wa,sL,rn,fl,fz,Aj,br,rem]
 rw[E,xn]
 cases D with
 |false=>simp
 |true=>
 have g:=ZNP (d rfl) hs
 by_cases U:8<l.length
 ·have f:(8:Int)<(l.length:Int):=by omega
  simp[f]
 have f:¬(8:Int)<(l.length:Int):=by omega
 have C:∀x∈l,AO x:=fun x hx=>by
  have:=Cu (e:=Az) hx
  rw[Dc]at this
  show An (Ae x)≤_
  omega
 have t:=Pn (B:=OD s n l k) (N:=Ah) l (fun x=>!((OS s n x).getD false)) true () (fun i x hx=>by
  have d:=Bs hx
  have u:i+1<9223372036854775808:=by have:=(Yb.1 hx).1;omega
  obtain⟨b,e,_⟩:=z5 hs g n x (C x (Yj hx))
  dsimp only[OD,a5,br,ix,wg,vs,At,ln,Af,cl,wa,br]
  simp only[d,hx,e,xn,Yp,Yt,Ya,YM]
  cases b<;>simp[u]) (by dsimp only[OD,a5,br,ix,wg,vs,At,ln,Af,cl,wa,br];simp) (AP (by omega))
 cases o:l.any fun x=>!((OS s n x).getD false)with
 |true=>
  rw[o]at t
  simp[f,t]
 |false=>
 rw[o]at t
 have c:∀x∈l,OkW s true 15 (AJ s n).1 x∧x=BF s 16 n x:=fun x hx=>by
  rw[N6]at o
  have h:=o x hx
  obtain⟨b,e,a⟩:=z5 hs g n x (C x hx)
  rw[e]at h
  cases b with
  |false=>exact absurd rfl h
  |true=>exact⟨(j5.1 (a.1 rfl).1).2.1.w,(a.1 rfl).2⟩
 have F:=gu hs g n l (by omega) fun x hx=>(c x hx).1
 have G:=ZNR hs g n l (by omega) fun x hx=>(c x hx).1
 have Q:∀v:Val,An (Ae v)≤1048576→Jm Ah v v=some true:=fun v A=>by
  obtain⟨S,j,a9⟩:=vG (a:=v) (b:=v) A A
  rw[j,a9.2 rfl]
 have H:=Q (B2 s n l) (by have:=VY g (n:=n) l;omega)
 obtain⟨q,rfl⟩:∃m:Nat,k=m:=⟨k.toNat,by omega⟩
 have I:EJ .i64 (IntKind.i64.wrap (q:Int)) ((l.length+1:Nat):Int)=((q%(l.length+1):Nat):Int):=by
  rw[vf (by omega)]
  rfl
 have z:q%(l.length+1)≤l.length:=Nat.le_of_lt_succ (RO _ (Nat.succ_pos _))
 rw[I]
 generalize q%(l.length+1)=r at z
 have J:=gu hs g n (l.take r) (by have:=fb (l:=l) r;omega) fun x hx=>(c x (Kd hx)).1
 have T:=VY g (n:=n) (l.take r)
 have W:=Ws Az l r
 have j:=gu hs g n (B2 s n (l.take r)::l.drop r) (by rw[YS,AE,Dc];omega) fun x hx=>by
  rcases Yx.1 hx with e|hx
  ·rw[e]
   exact XU g _ fun y hy=>(c y (Kd hy)).1
  ·exact(c x (RB hx)).1
 rw[ZK4 g c r]at j
 have w:=Dv (B:=L7 s n l (B2 s n l)) (N:=Ah) (ρ:=Bool) (l.drop r) (fun p=>B2 s n (l.take r)::p) (fun i b=>(b,(((r+i:Nat):Int)))) id (fun i x hx=>by
  have hi:=(Yb.1 hx).1
  rw[YX]at hi
  rw[Y1]at hx
  have d:((r+i:Nat):Int)<(l.length:Int):=by omega
  have K:(0:Int)≤((r+i:Nat):Int):=by omega
  have u: -9223372036854775808≤((r+i:Nat):Int)+1∧((r+i:Nat):Int)+1<9223372036854775808:=by omega
  have L:((r+i:Nat):Int)+1=((r+(i+1):Nat):Int):=by omega
  have P:(B2 s n (l.take r)::(l.drop r).take i).length<549755813887:=by rw[Dt,Yy,YX];omega
  dsimp only[L7,az,br,Cj,vz,vw,vs,ln,Af,ap,wi,fl,Aj,br]
  rw[Yi (Yn d)]
  rw[Yi K,YP,hx,Ya,Yi P,Yi u,L]
  rfl) (by
   have e0:r+(l.drop r).length=l.length:=by rw[YX];omega
   dsimp only[L7,az,br,Cj,vz,vw,vs,ln,Af,ap,wi,fl,Aj,br]
   rw[e0]
   simp) (AP (by rw[YX];omega))
 have w:Ai (L7 s n l (B2 s n l)) Ah ([B2 s n (l.take r)],(r:Int))=some (.inl (B2 s n (l.take r)::l.drop r)):=w
 have R:l.length+1<9223372036854775808:=by omega
 have w2:¬((l.length+1:Nat):Int)=0:=by omega
 have X:(l.drop 0).take (r-0)=l.take r:=rfl
 simp[f,t,F,G,H,R,w2,J,Bd.c,Bd.vl,z,w,j]
 omega
end Go.Proofs.YtbcmdieedjamgaaGreat
