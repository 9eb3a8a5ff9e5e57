import Derived.Test.YtbcmdieedjamgaaGreatZd27
import Derived.Test.YtbcmdieedjamgaaGreatZd24
import Derived.Test.YtbcmdieedjamgaaGreatZd00
namespace Go.Proofs.YtbcmdieedjamgaaGreat
set_option linter.all false
open Go Go.Eng
theorem Jd{l:List Slt}{k:Int}{x:Slt}(h:Bo l k=some x):x∈l∧x.num=k:=⟨Ha h,Y1 (p:=x.num=k) (R4 (p:=fun x:Slt=>decide (x.num=k)) h)⟩
theorem gU{l:List Slt}{k:Int}:Bo l k=none↔∀x∈l,x.num≠k:=by
 unfold Bo
 rw[Sb]
 simp
theorem nS{α:Type}{R:α→α→Prop}(sy:∀{a b},R a b→R b a){l:List α}(h:l.Pairwise R){x y:α}(hx:x∈l)(hy:y∈l)(n:x≠y):R x y:=by
 obtain⟨i,hi,rfl⟩:=List.mem_iff_getElem.1 hx
 obtain⟨j,d,rfl⟩:=List.mem_iff_getElem.1 hy
 rcases Oo i j with c|c|c
 ·exact Jc.1 h i j hi d c
 ·subst c
  exact absurd rfl n
 ·exact sy (Jc.1 h j i d hi c)
theorem Zoz{l:List Slt}(h:l.Pairwise fun a b=>a.num≠b.num){x:Slt}(hx:x∈l):Bo l x.num=some x:=by
 cases e:Bo l x.num with
 |none=>exact absurd rfl (gU.1 e x hx)
 |some y=>
  obtain⟨d,f⟩:=Jd e
  by_cases c:y=x
  ·rw[c]
  ·exact absurd f (nS (R:=fun a b:Slt=>a.num≠b.num) (fun h e=>h e.symm) h d hx c)
def FC(R:ByteArray→Val→Val→Val)(F:List Fld)(p:List Slt)(x:Slt):Slt:=.mk x.num ((Bo p x.num).elim x.val fun y=>Io R (AY F x.num) x.val y.val)
def B1(R:ByteArray→Val→Val→Val)(F:List Fld)(A p:List Slt):List Slt:=A.map (FC R F p)++p.filter fun y=>!BS A y.num
theorem Zzt(p:List Slt)(y:Slt)(k:Int)(h:y.num≠k):Bo (p++[y]) k=Bo p k:=by
 unfold Bo
 rw[XE]
 simp[h]
theorem Zns{R:ByteArray→Val→Val→Val}{F:List Fld}{p:List Slt}{y x:Slt}(h:y.num≠x.num):FC R F (p++[y]) x=FC R F p x:=by
 unfold FC
 rw[Zzt p y x.num h]
theorem ZGf(R:ByteArray→Val→Val→Val)(F:List Fld)(A:List Slt):B1 R F A []=A:=by
 have:FC R F []=id:=funext fun x=>by cases x;rfl
 unfold B1
 rw[this]
 simp
theorem ZKb{R:ByteArray→Val→Val→Val}{F:List Fld}{A p:List Slt}{y:Slt}{i:Nat}(hi:A.findIdx? (fun x=>decide (x.num=y.num))=some i):(B1 R F A p).findIdx? (fun x=>decide (x.num=y.num))=some i:=by
 unfold B1
 rw[List.findIdx?_append,List.findIdx?_map]
 have:((fun x:Slt=>decide (x.num=y.num))∘FC R F p)=fun x=>decide (x.num=y.num):=rfl
 rw[this,hi]
 rfl
theorem ZFC{R:ByteArray→Val→Val→Val}{F:List Fld}{A p:List Slt}{y:Slt}{i:Nat}(m:A.Pairwise fun a b=>a.num≠b.num)(r:∀x∈p,x.num≠y.num)(hi:A.findIdx? (fun x=>decide (x.num=y.num))=some i):
  ∃x,A[i]?=some x∧(B1 R F A p)[i]?=some x∧x.num=y.num∧B1 R F A (p++[y])=(B1 R F A p).set i (.mk x.num (Io R (AY F y.num) x.val y.val)):=by
 obtain⟨d,o,_⟩:=Y3.1 hi
 have hx:A[i]?=some A[i]:=Yc d
 have f:(A[i]).num=y.num:=Y1 o
 have n:Bo p (A[i]).num=none:=by rw[gU,f];exact r
 have t:FC R F p A[i]=A[i]:=by
  unfold FC
  rw[n]
  cases A[i]
  rfl
 refine⟨A[i],hx,?_,f,?_⟩
 ·unfold B1
  rw[Ys (by rw[YG];exact d),YR,hx,YV,t]
 ·have s:BS A y.num=true:=YW.2 ⟨A[i],FJ d,Yo f⟩
  unfold B1
  rw[HQ,show([y].filter fun y=>!BS A y.num)=[]by simp[s],FG,List.set_append_left (h:=by rw[YG];exact d)]
  congr 1
  apply List.ext_getElem?
  intro j
  rw[YR,List.getElem?_set,YG,YR]
  by_cases c:i=j
  ·subst c
   rw[Yj rfl,Yj d,hx,YV]
   congr 1
   unfold FC
   rw[show Bo (p++[y]) (A[i]).num=some y by unfold Bo at*;rw[XE,n];simp[f],f]
   rfl
  ·rw[Ym c]
   cases e:A[j]? with
   |none=>rfl
   |some z=>
    have q:=(Yb.1 e)
    obtain⟨g,k⟩:=q
    have l:y.num≠z.num:=by
     rw[←f,←k]
     rcases Nat.lt_or_gt_of_ne c with h|h
     ·exact(Jc.1 m) i j d g h
     ·exact fun e=>(Jc.1 m) j i g d h e.symm
    rw[YV,YV,Zns l]
theorem ZIf{R:ByteArray→Val→Val→Val}{F:List Fld}{A p:List Slt}{y:Slt}(b:∀x∈p,x.num≠y.num)(hi:A.findIdx? (fun x=>decide (x.num=y.num))=none):
  (B1 R F A p).findIdx? (fun x=>decide (x.num=y.num))=none∧B1 R F A (p++[y])=B1 R F A p++[y]:=by
 have a:∀x∈A,x.num≠y.num:=fun x hx=>of_decide_eq_false (L1.1 hi x hx)
 constructor
 ·rw[L1]
  intro x hx
  refine Yt ?_
  rcases FH.1 hx with hx|hx
  ·obtain⟨z,d,rfl⟩:=YX.1 hx
   exact a z d
  ·exact b x ((EA.1 hx).1)
 ·have c:BS A y.num=false:=by
   unfold BS
   rw[R1]
   intro x hx
   simp[a x hx]
  unfold B1
  rw[HQ,show([y].filter fun y=>!BS A y.num)=[y]by simp[c],Ea]
  congr 1
  exact Ez fun x hx=>Zns fun e=>a x hx e.symm
theorem Ztk(R:ByteArray→Val→Val→Val)(F:List Fld)(A p:List Slt):(B1 R F A p).length≤A.length+p.length:=by
 unfold B1
 rw[Yr,YG]
 have:=L3 (fun y=>!BS A y.num) p
 omega
theorem ZIW{R:ByteArray→Val→Val→Val}{F:List Fld}{A p:List Slt}{z:Slt}:z∈B1 R F A p↔(∃x∈A,z=FC R F p x)∨(z∈p∧∀x∈A,x.num≠z.num):=by
 unfold B1
 rw[FH,YX,EA]
 have:(!BS A z.num)=true↔∀x∈A,x.num≠z.num:=by
  unfold BS
  simp
 rw[this]
 constructor
 ·rintro(⟨x,hx,rfl⟩|h)
  ·exact .inl ⟨x,hx,rfl⟩
  ·exact .inr h
 ·rintro(⟨x,hx,rfl⟩|h)
  ·exact .inl ⟨x,hx,rfl⟩
  ·exact .inr h
theorem ZQN{R:ByteArray→Val→Val→Val}{F:List Fld}{A p:List Slt}(c:A.Pairwise fun a b=>a.num≠b.num)(d:p.Pairwise fun a b=>a.num≠b.num):(B1 R F A p).Pairwise fun a b=>a.num≠b.num:=by
 unfold B1
 rw[R8]
 refine⟨by rw[List.pairwise_map];exact c,d.filter _,fun x hx y hy=>?_⟩
 obtain⟨z,e,rfl⟩:=YX.1 hx
 have h:=(EA.1 hy).2
 unfold BS at h
 rw[YL,R1]at h
 have:=h z e
 simp at this
 exact this
theorem ZuJ{l:List Slt}(h:l.Pairwise fun a b=>a.num≠b.num):ME (CW IX l):=by
 have d:=Zl5 (cf:=IX) (M8 Slt.num) l
 have f:(CW IX l).Pairwise fun a b=>a.num≠b.num:=(List.Perm.pairwise_iff (fun {a b} h e=>h e.symm) (TX l)).2 h
 refine(List.pairwise_and_iff.2 ⟨d,f⟩).imp fun {a b} c=>?_
 have:=c.1
 unfold IX BJ at this
 have g:=c.2
 grind
theorem Zni{R:ByteArray→Val→Val→Val}{F:List Fld}{a b:List Slt}{f:Fld}{z:Slt}(h:z∈DF R F a b f):z.num=f.num:=by
 unfold DF at h
 split at h
 ·rw[Y5.1 h];rfl
 ·rw[Y5.1 h];rfl
 ·split at h
  ·cases h
  ·rw[Y5.1 h];rfl
 ·cases h
theorem ZwW(R:ByteArray→Val→Val→Val)(F:List Fld)(a b:List Slt)(f:Fld):ME (DF R F a b f):=by
 unfold DF ME
 split
 ·exact Of _ _
 ·exact Of _ _
 ·split
  ·exact .nil
  ·exact Of _ _
 ·exact .nil
theorem Zvg{R:ByteArray→Val→Val→Val}{F:List Fld}{a b:List Slt}:∀{l:List Fld},(l.Pairwise fun a b=>a.num<b.num)→ME (DV R F a b l)
 |[],_=>.nil
 |f::l,h=>by
  obtain⟨c,d⟩:=Dr.1 h
  have i:=Zvg (R:=R) (F:=F) (a:=a) (b:=b) d
  show(DF R F a b f++DV R F a b l).Pairwise _
  rw[R8]
  refine⟨ZwW R F a b f,i,fun x hx y hy=>?_⟩
  obtain⟨g,e,hy⟩:=List.mem_flatMap.1 hy
  rw[Zni hx,Zni hy]
  exact c g e
theorem o3{F:List Fld}(h:DM F F.length){b:List Slt}(p:b.Pairwise fun x y=>x.num≠y.num∧D7 F x y){f:Fld}(q:f∈F){y:Slt}(hy:Bo b f.num=some y):Eo F f b=false:=by
 unfold Eo
 rw[R1]
 intro g r c
 simp only[Yd,YL,YE,YJ,Zn8,Y9]at c
 obtain⟨⟨⟨k,l⟩,m⟩,z,s⟩:=c
 obtain⟨t,i⟩:=Jd hy
 obtain⟨m2,j⟩:=Jd s
 have n:AY F y.num=f:=by rw[i];exact congrArg Prod.fst (P8 h q)
 have o:AY F z.num=g:=by rw[j];exact congrArg Prod.fst (P8 h r)
 have d:D7 F z y:=(nS (R:=fun a b:Slt=>a.num≠b.num∧D7 F a b) (fun h=>⟨fun e=>h.1 e.symm,h.2.symm⟩) p m2 t (fun e=>m (by rw[←j,e,i]))).2
 unfold D7 at d
 rw[n,o]at d
 exact d ⟨l,k⟩
theorem ZE4{R:ByteArray→Val→Val→Val}{F:List Fld}(h:DM F F.length){a b:List Slt}(p:a.Pairwise fun x y=>x.num≠y.num)(o:b.Pairwise fun x y=>x.num≠y.num∧D7 F x y)
  (u:∀x∈a,(BH F x.num).2=true) (v:∀x∈b,(BH F x.num).2=true):CW IX (B1 R F (a.filter fun x=>!Eo F (AY F x.num) b) b)=DV R F a b F:=by
 have ET:b.Pairwise fun x y=>x.num≠y.num:=o.imp fun s=>s.1
 have fl:∀k,(BH F k).2=true→AY F k∈F∧(AY F k).num=k:=fun k q=>by
  rcases JS F k with⟨c,_⟩|⟨_,c⟩
  ·rw[q]at c;cases c
  ·exact⟨c,Znw q⟩
 have n:∀f∈F,AY F f.num=f:=fun f m=>congrArg Prod.fst (P8 h m)
 refine ZsU (ZuJ (ZQN (p.filter _) ET)) (Zvg (Vk h)) fun z=>?_
 rw[(TX _).mem_iff,ZIW]
 unfold DV
 rw[List.mem_flatMap]
 constructor
 ·rintro(⟨x,hx,rfl⟩|⟨d,t⟩)
  ·obtain⟨hx,r⟩:=EA.1 hx
   rw[YL]at r
   obtain⟨f1,f2⟩:=fl _ (u x hx)
   refine⟨AY F x.num,f1,?_⟩
   unfold DF FC
   rw[f2,Zoz p hx]
   cases e:Bo b x.num with
   |none=>rw[r];exact Y5.2 rfl
   |some y=>exact Y5.2 rfl
  ·obtain⟨f1,f2⟩:=fl _ (v z d)
   refine⟨AY F z.num,f1,?_⟩
   have e:=Zoz ET d
   unfold DF
   rw[f2,e]
   cases i:Bo a z.num with
   |none=>cases z;exact Y5.2 rfl
   |some x=>
    exfalso
    obtain⟨j,g⟩:=Jd i
    refine t x (EA.2 ⟨j,?_⟩) g
    rw[g,o3 h o f1 (by rw[f2];exact e)]
    rfl
 ·rintro⟨f,m,d⟩
  unfold DF at d
  split at d
  ·rename_i x y i l
   obtain⟨j,g⟩:=Jd i
   refine .inl ⟨x,EA.2 ⟨j,?_⟩,?_⟩
   ·rw[g,n f m,o3 h o m l]
    rfl
   ·rw[Y5.1 d]
    unfold FC
    rw[g,l,n f m]
    rfl
  ·rename_i y i l
   obtain⟨j,g⟩:=Jd l
   have e:z=y:=by
    rw[Y5.1 d,←g]
    cases y
    rfl
   subst e
   exact .inr ⟨j,fun x hx=>by rw[g];exact gU.1 i x ((EA.1 hx).1)⟩
  ·rename_i x i l
   obtain⟨j,g⟩:=Jd i
   split at d
   ·cases d
   ·rename_i c
    refine .inl ⟨x,EA.2 ⟨j,?_⟩,?_⟩
    ·rw[g,n f m,YL,XD]
     exact c
    ·rw[Y5.1 d]
     unfold FC
     rw[g,l]
     rfl
  ·cases d
theorem Zsd(l:List Raw)(y x:Raw):∀k:Nat,k≤l.length→De (l++[y]) x k=De l x k
 |0,_=>rfl
 |k+1,h=>by
  rw[De,De,Zsd l y x k (by omega),Yg,Yg,Ys (by omega)]
theorem Zn3(x:Raw):∀(n:Nat) (out:List Raw),out.length=n→insR out x=Go.Eng.insR GX out x
 |0,out,h=>by
  rw[XT.1 h]
  rfl
 |n+1,out,h=>by
  have d:out≠[]:=fun e=>by rw[e]at h;cases h
  obtain⟨l,y,rfl⟩:∃l y,out=l++[y]:=⟨_,_,(kS d).symm⟩
  have hl:l.length=n:=by rw[Yr]at h;simpa using h
  have j:=Zn3 x n l hl
  unfold insR Go.Eng.insR at*
  have e0:(l++[y]).length=l.length+1:=by simp
  have g:(l++[y]).getD l.length Rw.z=y:=by simp
  rw[e0,De,g,Zsd l y x l.length (Yf _),XO]
  show _=(List.dropWhile _ (y::l.reverse)).reverse++x::(List.takeWhile _ (y::l.reverse)).reverse
  have f:GX x y<0↔x.num<y.num:=by unfold GX BJ;grind
  rw[List.dropWhile_cons,List.takeWhile_cons]
  by_cases c:x.num<y.num
  ·have a:=Vd l x l.length
   have b:decide (GX x y<0)=true:=Yo (f.2 c)
   rw[Yj c,b,Yj rfl,Yj rfl,RZ a,XQ a,List.reverse_cons,←Ea,j]
   simp
  ·have b:¬decide (GX x y<0)=true:=by rw[YE,f];exact c
   have i:(l++[y]).take (l.length+1)=l++[y]:=Ja (by simp)
   rw[Ym c,Ym b,Ym b,i]
   simp
theorem Zw7(l:List Raw):Ch l=CW GX l:=by
 have:insR=Go.Eng.insR GX:=funext fun out=>funext fun x=>Zn3 x _ out rfl
 unfold Ch CW
 rw[this]
end Go.Proofs.YtbcmdieedjamgaaGreat
namespace Go.Proofs.YtbcmdieedjamgaaGreat
set_option linter.all false
open Go Go.Eng
theorem ZvR(l:List Pr)(h:l.length<549755813888):TT l=some l:=by
 cases l with
 |nil=>rfl
 |cons x r=>
  dsimp only[TT,mO,al,br,vw,lr,a0,mv,br]
  simp only[E1]at h
  simp
  omega
theorem pK{a b:Val}(s:1≤a.kind∧a.kind≤9)(j:AP a)(l:AP b):TP a b=some (B6 a b):=by
 obtain⟨n,q,f,u⟩:=PL j
 obtain⟨k,p,e,t⟩:=PL l
 have r:(decide (1≤a.kind)&&decide (a.kind≤9))=true:=by simp[s]
 unfold B6
 by_cases he:a.kind=b.kind
 ·have i:(decide (1≤b.kind)&&decide (b.kind≤9))=true:=by rw[←he];exact r
  dsimp only[TP,i7,br,wg,lr,cl,br,Zff,oC,wg,lr,cl,bT,ZhX,oL,lr,Zhj,py,br,vz,wg,lr,cl,br,Zf6,nE,lr]
  simp only[he,Yp,YY,Yn,YK,i,Yq,Ya,ne_eq,On]
  rw[←he]
  by_cases h:a.kind=7∨a.kind=8
  ·have d:(decide (a.kind=7)||decide (a.kind=8))=true:=by simpa using h
   rw[Yj h]
   simp only[d,Yq,ZYb,Ya]
  ·have d:(decide (a.kind=7)||decide (a.kind=8))=false:=by simpa using h
   rw[Ym h]
   simp only[d,Yn,YK]
   by_cases hs:a.kind=2∨a.kind=3
   ·have c:(decide (a.kind=2)||decide (a.kind=3))=true:=by simpa using hs
    have g:∀m:Nat,m<18446744073709551616→IntKind.i64.wrap (m:Int)=IntKind.u64.wrap ((m:Int)+9223372036854775808)-9223372036854775808:=fun m hm=>by
     rw[IntKind.wrap_i64]
     unfold IntKind.wrap
     simp only[show IntKind.u64.bits=64 from rfl,show IntKind.u64.signed=false from rfl,Ds,Yn,YK]
     omega
    simp only[c,hs,Yq,Tc,Ya]
    rw[q,p,g n f,g k e]
    unfold BJ
    simp only[Int.sub_lt_sub_right_iff]
   ·have c:(decide (a.kind=2)||decide (a.kind=3))=false:=by simpa using hs
    by_cases o:a.kind=6
    ·simp only[c,hs,Yn,YK]
     simp only[o,Yq,Yp,q,p,ZXf f,ZXf e,zc,Ya,YS]
    ·simp only[c,hs,o,Yn,YK,YU,zc,Ya]
 ·dsimp only[TP,i7,br,wg,lr,cl,br]
  simp only[he,YU,Y6,Yq,Tc,Ya,ne_eq,LZ]
theorem ZVM{a b:Val}(e:1≤a.kind∧a.kind≤9)(c:AP a)(d:AP b):eM a b=some (decide (B6 a b=0)):=by
 dsimp only[eM,pE,wg,lr,cl]
 rw[pK e c d]
 rfl
def GZ(l:List Pr):Nat→List Pr
 |0=>[]
 |i+1=>if i+1<l.length∧Bn (l.getD i Rw.z) (l.getD (i+1) Rw.z)=0 then GZ l i else GZ l i++[l.getD i Rw.z]
theorem ZuH(l:List Pr):∀i:Nat,(GZ l i).length≤i
 |0=>Yf _
 |i+1=>by
  have:=ZuH l i
  rw[GZ]
  split
  ·omega
  ·rw[Yr,HU]
   omega
theorem Zlh(l:List Pr):∀i:Nat,i≤l.length→EI l=GZ l i++EI (l.drop i)
 |0,_=>rfl
 |i+1,h=>by
  have hi:i<l.length:=h
  have e0:l.getD i Rw.z=l[i]:=by rw[Yg,Yc hi];rfl
  rw[Zlh l i (by omega),HS hi,GZ,e0]
  by_cases c:i+1<l.length
  ·have b:l.getD (i+1) Rw.z=l[i+1]:=by rw[Yg,Yc c];rfl
   rw[HS c,EI,b]
   by_cases a:Bn l[i] l[i+1]=0
   ·rw[Yj a,Yj ⟨c,a⟩]
   ·rw[Ym a,Ym fun h=>a h.2,Ea]
    rfl
  ·rw[Ym fun h=>c h.1,List.drop_eq_nil_of_le (by omega)]
   simp[EI]
theorem Zv2(l:List Pr)(hl:l.length≤4194304)(j:∀p∈l,(1≤p.key.kind∧p.key.kind≤9)∧AP p.key):eZ l=some (IC l):=by
 have C:=ZvR l (by omega)
 have t:FN l (fun z0 s=>MQ z0 s)=some (CW Bn l):=by
  have h:=jO (pf:=fun z0 s=>MQ z0 s) (cmp:=Bn) g0 l (fun x hx y hy=>by
   dsimp only[MQ,mm,wg,lr,cl]
   rw[pK (j x hx).1 (j x hx).2 (j y hy).2]
   rfl) hl
  rw[fc Hg l]at h
  exact h
 have u:=fa (cf:=Bn) l
 have a:∀p∈CW Bn l,(1≤p.key.kind∧p.key.kind≤9)∧AP p.key:=fun p d=>j p ((TX l).mem_iff.1 d)
 have v:=Zlh (CW Bn l) (CW Bn l).length (Yf _)
 rw[R3,Zp0,show EI []=[]from rfl,FG]at v
 rw[v]
 generalize CW Bn l=m at t u a
 have r:=Dh (B:=NJ m) (N:=Ag) (ρ:=List Pr) m (fun p=>GZ m p.length) (fun i b=>(b,i)) id (fun i p d=>by
  have w:=Ba d
  have hi:=(Yb.1 d).1
  have g:i+1<9223372036854775808:=by omega
  have A:(m.take i).length=i:=by rw[Yw];omega
  have o:(m.take i++[p]).length=i+1:=by rw[Yr,A];rfl
  have F:m.getD i Rw.z=p:=by rw[Yg,d];rfl
  have a1:=ZuH m i
  have z:((i+1:Nat):Int)=m.length↔i+1=m.length:=by omega
  rw[A,o,GZ,F]
  have k:(GZ m i).length<549755813887:=by omega
  generalize GZ m i=out at k⊢
  dsimp only[NJ,Zw,br,vz,vw,wg,vs,vg,ln,Af,ap,AE,wa,ir,ca,fl,Br,br]
  by_cases c:i+1=m.length
  ·have e:¬i+1<m.length:=by omega
   simp only[w,g,z,c,e,d,k,hi,Yp,YY,Ol,Yn,Ya,L6,Yq,YK,OB]
   have E:m.length<9223372036854775808:=by omega
   simp[E]
  ·have e:i+1<m.length:=by omega
   have hm:m.getD (i+1) Rw.z∈m:=by rw[Yg,Yc e];exact FJ e
   have D:=ZVM (a p (Yi d)).1 (a p (Yi d)).2 (a _ hm).2
   simp only[w,g,z,c,e,d,D,hi,Yp,YU,Y6,Kt,Ya,FI,YQ,forall_const,Yq,HV]
   generalize m.getD (i+1) Rw.z=q
   by_cases f:Bn p q=0
   ·have n:B6 p.key q.key=0:=f
    simp[f,n,g]
   ·have n:¬B6 p.key q.key=0:=f
    simp[f,n,g,k]) (by dsimp only[NJ,Zw,br,vz,vw,wg,vs,vg,ln,Af,ap,AE,wa,ir,ca,fl,Br,br];simp) (AK (by omega))
 have r:Aj (NJ m) Ag ([],0)=some (.inl (GZ m m.length)):=r
 dsimp only[eZ,po,yU,xA,sk,tC,xb,qP,qn,vC,vz,vw,lr,lc,rn,fl,fr,Br]
 rw[C,Ya,t,Ya,Yj u.symm,r]
 rfl
theorem ZHH(a b:List Raw)(f:a.length≤1048576)(g:b.length≤1048576):eX a b=some (Ch (a++b)):=by
 have c:=ZQp a b f g
 have d:=ZHl (a++b) (by rw[Yr];omega)
 rw[Zw7]
 have e:=fa (cf:=GX) (a++b)
 dsimp only[eX,yF,ua,sw,pW,tj,qh,vz,vw,lr,lc,rn,fl,fr]
 rw[c,Ya,d,Ya,Yj e.symm]
theorem ZIL{s:Scm}(R:Scm→ByteArray→Val→Val→Option Val)(d:Nat)(l:LU s R d)(f:Fld)(x y:Val)(hx:AP x)(hy:AP y)(j:LX (Wk s d) f x)(k:LX (Wk s d) f y):TS R s f x y=some (Io (Bq s d) f x y):=by
 have h:=Ci hx
 have i:=Ci hy
 unfold Io
 dsimp only[TS,oy,oF,uE,x4,vU,ug,v8,qt,xq,pT,wn,br,vz,vw,wg,lr,lc,cl,cs,fl,fz,fr,br]
 by_cases g:f.card=4
 ·rw[Yj (Yo g),ZPt _ _ h.l i.l,Yj g]
  rfl
 ·rw[Ym (by simp[g]),Ym g]
  by_cases a:f.card=5
  ·have n:=h.p
   have m:=i.p
   have e:=Zv2 (x.pairs++y.pairs) (by rw[Yr];omega) fun p b=>by
    rcases FH.1 b with b|b
    ·exact⟨j.1 a p b,(EL hx b).1⟩
    ·exact⟨k.1 a p b,(EL hy b).1⟩
   rw[Yj (Yo a),ZPS _ _ h.p i.p,Ya,e,Yj a]
   rfl
  ·rw[Ym (by simp[a]),Ym a]
   by_cases c:f.type.kind=10
   ·rw[Yj (Yo c),Yj c,l f.type.name x y hx hy (j.2 g a c) (k.2 g a c)]
    rfl
   ·rw[Ym (by simp[c]),Ym c]
theorem ZHL(l:List Slt)(k:Int)(h:l.length<4611686018427387904):TM l k=some (CR l fun x=>decide (x.num=k)):=by
 dsimp only[TM,ZqR,lr,cs]
 rw[sf l (fun z0=>TO z0 k) (fun x=>decide (x.num=k)) (fun x _=>rfl) h]
 rfl
theorem ZKT{s:Scm}(hs:An (Am s)≤1048576)(g:GdS s)(R:Scm→ByteArray→Val→Val→Option Val)(d:Nat)(Y:LU s R d)(n:ByteArray)(a b:Val)(D:AP a)(E:AP b)(v:Wk s (d+1) n a)(f:Wk s (d+1) n b):SQ R s n a b=some (Bq s (d+1) n a b):=by
 have K:=Ci D
 have L:=Ci E
 have M:TK s n=some (A0 s n):=n61 s n (EW hs).ml
 have t:=g.asc n
 have hl:(Ay s n).length≤1048576:=M7 (EW hs) n
 have s1:=K.s
 have s2:=L.s
 have o:=ZWj (A0 s n).1 a.slots b hl s1 (by omega)
 have O:=ZHH a.raws b.raws K.r L.r
 rw[show(A0 s n).1.fields=Ay s n from rfl]at o
 have pa:a.slots.Pairwise fun x y=>x.num≠y.num:=v.1.imp fun h=>h.1
 have pb:b.slots.Pairwise fun x y=>x.num≠y.num:=f.1.imp fun h=>h.1
 have P:=ZE4 (R:=Bq s d) t pa f.1 (fun x hx=>(v.2 x hx).1) (fun x hx=>(f.2 x hx).1)
 have C:∀x∈a.slots.filter (fun x=>!Eo (Ay s n) (AY (Ay s n) x.num) b.slots),x∈a.slots:=fun x hx=>(EA.1 hx).1
 have lA:=L3 (fun x=>!Eo (Ay s n) (AY (Ay s n) x.num) b.slots) a.slots
 have J:(a.slots.filter fun x=>!Eo (Ay s n) (AY (Ay s n) x.num) b.slots).Pairwise fun x y=>x.num≠y.num:=pa.filter _
 rw[Bq,←P]
 generalize (a.slots.filter fun x=>!Eo (Ay s n) (AY (Ay s n) x.num) b.slots)=A at o C lA J⊢
 have fl:∀k,(BH (Ay s n) k).2=true→AY (Ay s n) k∈Ay s n:=fun k G=>by
  rcases JS (Ay s n) k with⟨c,_⟩|⟨_,c⟩
  ·rw[G]at c;cases c
  ·exact c
 have w:=Dh (B:=NN s a b R (A0 s n)) (N:=Ag) (ρ:=Val) b.slots (fun p=>B1 (Bq s d) (Ay s n) A p) (fun i b=>(b,i)) id (fun i y hy=>by
  have V:=Ba hy
  have hi:=(Yb.1 hy).1
  have z:i+1<9223372036854775808:=by omega
  have hm:=Yi hy
  have Q:=n43 (A0 s n).1 y.num hl
  have H:∀x∈b.slots.take i,x.num≠y.num:=fun x hx=>by
   obtain⟨j,u⟩:=YN.1 hx
   have e:j<i:=by have:=(Yb.1 u).1;rw[Yw]at this;omega
   rw[Y4,Yj e]at u
   obtain⟨j1,j2⟩:=Yb.1 u
   obtain⟨Z,i2⟩:=Yb.1 hy
   rw[←j2,←i2]
   exact(Jc.1 pb) j i j1 Z e
  have l1:=Ztk (Bq s d) (Ay s n) A (b.slots.take i)
  rw[Yw]at l1
  have l2:(B1 (Bq s d) (Ay s n) A (b.slots.take i)).length<549755813887:=by omega
  have S:=ZHL (B1 (Bq s d) (Ay s n) A (b.slots.take i)) y.num (by omega)
  dsimp only[NN,Zv,D3,br,ix,vz,vw,wg,vs,ln,Af,ap,cl,cs,wa,Az,cp,rn,fl,br,Az]
  simp only[V,hy,Yp,Yq,Ya,Q,S]
  cases r:A.findIdx? fun x=>decide (x.num=y.num)with
  |none=>
   obtain⟨t1,t2⟩:=ZIf (R:=Bq s d) (F:=Ay s n) H r
   have q:CR (B1 (Bq s d) (Ay s n) A (b.slots.take i)) (fun x=>decide (x.num=y.num))= -1:=by unfold CR;rw[t1]
   rw[q,t2]
   simp[l2,z]
  |some k=>
   obtain⟨x,t1,t2,t3,t4⟩:=ZFC (R:=Bq s d) (F:=Ay s n) J H r
   have t0:=ZKb (R:=Bq s d) (F:=Ay s n) (p:=b.slots.take i) r
   have q:CR (B1 (Bq s d) (Ay s n) A (b.slots.take i)) (fun x=>decide (x.num=y.num))=(k:Int):=by unfold CR;rw[t0]
   have hx:x∈a.slots:=C x (Yi t1)
   have I:=v.2 x hx
   have o2:=f.2 y hm
   rw[t3]at I
   have T:=ZIL R d Y (AY (Ay s n) y.num) x.val y.val (Fm D hx) (Fm E hm) I.2 o2.2
   have G:=(Yb.1 t2).1
   have U:(BH (A0 s n).1.fields y.num).1=AY (Ay s n) y.num:=rfl
   have W:(0:Int)≤(k:Int):=by omega
   have X:(k:Int)<((B1 (Bq s d) (Ay s n) A (b.slots.take i)).length:Int):=by omega
   rw[q,t4,U]
   simp only[W,X,t2,T,Yp,Yq,Ya,YS,Ck,Oy,D8]
   simp[z]) (by dsimp only[NN,Zv,D3,br,ix,vz,vw,wg,vs,ln,Af,ap,cl,cs,wa,Az,cp,rn,fl,br,Az];simp) (AK (by omega))
 have w:Aj (NN s a b R (A0 s n)) Ag (A,0)=some (.inl (B1 (Bq s d) (Ay s n) A b.slots)):=by
  have:=w
  rw[ZGf]at this
  exact this
 have l3:=Ztk (Bq s d) (Ay s n) A b.slots
 have l:=ZHD (B1 (Bq s d) (Ay s n) A b.slots) (by omega)
 have m:=fa (cf:=IX) (B1 (Bq s d) (Ay s n) A b.slots)
 have w1:a.slots.length≤549755813888:=by omega
 dsimp only[SQ,vx,yj,vn,xe,tN,xi,vE,vz,wg,lr,lc,cl,rn,msr,cpr,fl,fr,Ai]
 rw[M,Ya,Yj w1,Yj ⟨Yf _,rfl⟩,o,Ya,w]
 simp only[Ya,Cp,l,m,O,Yq]
theorem zS{s:Scm}(hs:An (Am s)≤1048576)(g:GdS s):∀c d:Nat,d≤c→LU s (MT c) d
 |_,0,_=>fun _ _ _ _ _ h=>h.elim
 |0,d+1,h=>by omega
 |c+1,d+1,h=>fun n a b e f i j=>ZKT hs g (MT c) d (zS hs g c d (by omega)) n a b e f i j
theorem Znx{s:Scm}(hs:An (Am s)≤1048576)(g:GdS s)(n:ByteArray)(a b:Val)(c:AP a)(d:AP b)(e:Wk s 16 n a)(f:Wk s 16 n b):MT Ag s n a b=some (Bq s 16 n a b):=zS hs g Ag 16 (Nat.le_of_lt (AK (by omega))) n a b c d e f
def wO(o:Option Slt):Nat:=o.elim 0 fun x=>An (Ap x)+1
theorem ZnG(x:Slt)(l:List Slt)(k:Int):Bo (x::l) k=if x.num=k then some x else Bo l k:=by
 unfold Bo
 rw[List.find?_cons]
 by_cases h:x.num=k<;>simp[h]
theorem ZrP(x:Slt)(l:List Slt):∀{F:List Fld},(F.Pairwise fun a b=>a.num<b.num)→(F.map fun f=>wO (Bo (x::l) f.num)).sum≤An (Ap x)+1+(F.map fun f=>wO (Bo l f.num)).sum
 |[],_=>Cj _
 |f::F,h=>by
  obtain⟨d,i⟩:=Dr.1 h
  have k:=ZrP x l i
  simp only[YT,List.sum_cons]
  rw[ZnG]
  by_cases c:x.num=f.num
  ·have e:(F.map fun f=>wO (Bo (x::l) f.num))=F.map fun f=>wO (Bo l f.num):=Ez fun g j=>by
    have:=d g j
    rw[ZnG,Ym (by omega)]
   rw[Yj c,e]
   show An (Ap x)+1+_≤_
   omega
  ·rw[Ym c]
   omega
theorem gk{F:List Fld}(h:F.Pairwise fun a b=>a.num<b.num):∀l:List Slt,(F.map fun f=>wO (Bo l f.num)).sum≤AB (l.map Ap)
 |[]=>by
  have e:(F.map fun f=>wO (Bo [] f.num))=F.map fun _=>0:=rfl
  rw[e]
  clear h e
  induction F with
  |nil=>exact Yf _
  |cons f F c=>simpa using c
 |x::l=>by
  have d:=ZrP x l h
  have g:=gk h l
  rw[YT,AB]
  omega
theorem ZHb{R:ByteArray→Val→Val→Val}(d:∀n x y,An (Ae (R n x y))≤An (Ae x)+An (Ae y))(f:Fld)(x y:Val):An (Ae (Io R f x y))≤An (Ae x)+An (Ae y):=by
 have b:rk .u64 0=0:=by decide
 have e:(⟨#[]⟩:ByteArray).size=0:=rfl
 unfold Io
 split
 ·have a:rk .i64 11=0:=by decide
  rw[H9,EO x,EO y,DQ,GF]
  simp only[a,b,Du,AB]
  omega
 ·split
  ·have a:rk .i64 12=0:=by decide
   have c:=gW (x.pairs++y.pairs) (x.pairs++y.pairs).length
   rw[L0,DQ,GF]at c
   rw[H9,EO x,EO y]
   simp only[a,b,Du,AB,IC]
   omega
  ·split
   ·exact d _ _ _
   ·omega
theorem ZFT{R:ByteArray→Val→Val→Val}(e:∀n x y,An (Ae (R n x y))≤An (Ae x)+An (Ae y))(F:List Fld)(a b:List Slt)(f:Fld):AB ((DF R F a b f).map Ap)≤wO (Bo a f.num)+wO (Bo b f.num):=by
 have s:∀(k:Int) (v:Val),AB (([Slt.mk k v]:List Slt).map Ap)=rk .i64 k+An (Ae v)+1:=fun k v=>by
  rw[YT,Du,AB,JB]
  rfl
 have w:∀(l:List Slt) (x:Slt),Bo l f.num=some x→wO (Bo l f.num)=rk .i64 f.num+An (Ae x.val)+1:=fun l x h=>by
  rw[h,←(Jd h).2,←JB]
  rfl
 unfold DF
 split
 ·rename_i x y c d
  have:=ZHb e f x.val y.val
  rw[s,w a x c,w b y d]
  omega
 ·rename_i y c d
  rw[s,w b y d]
  omega
 ·rename_i x c d
  split
  ·exact Cj _
  ·rw[s,w a x c]
   omega
 ·exact Cj _
theorem n3{R:ByteArray→Val→Val→Val}(c:∀n x y,An (Ae (R n x y))≤An (Ae x)+An (Ae y))(F:List Fld)(a b:List Slt):∀l:List Fld,AB ((DV R F a b l).map Ap)≤(l.map fun f=>wO (Bo a f.num)).sum+(l.map fun f=>wO (Bo b f.num)).sum
 |[]=>Cj _
 |f::l=>by
  have d:=n3 c F a b l
  have h:=ZFT c F a b f
  show AB ((DF R F a b f++DV R F a b l).map Ap)≤_
  rw[DQ,GF]
  simp only[YT,List.sum_cons]
  omega
theorem ip{s:Scm}(h:∀n:ByteArray,DM (Ay s n) (Ay s n).length):∀(d:Nat) (n:ByteArray) (a b:Val),An (Ae (Bq s d n a b))≤An (Ae a)+An (Ae b)
 |0,n,a,b=>Oq _ _
 |d+1,n,a,b=>by
  have e:rk .i64 10=0:=by decide
  have f:rk .u64 0=0:=by decide
  have g:=n3 (fun n x y=>ip h d n x y) (Ay s n) a.slots b.slots (Ay s n)
  have i:=gk (Vk (h n)) a.slots
  have j:=gk (Vk (h n)) b.slots
  have c:=iI (a.raws++b.raws) []
  rw[DQ,GF]at c
  rw[Bq,H9,EO a,EO b,Ch]
  simp only[e,f,c,Du,AB]
  have:(⟨#[]⟩:ByteArray).size=0:=rfl
  omega
def GY(m:List Msk)(k:Int):Option Msk:=m.find? fun x=>decide (x.num=k)
def Dq(R:Val→List Msk→Val)(m:List Msk)(x:Slt):Option Slt:=(GY m x.num).map fun e=>if e.subs.length=0 then x else .mk x.num (R x.val e.subs)
def BT:Nat→Val→List Msk→Val
 |0,v,_=>v
 |d+1,v,m=>if v.kind=10 then .mk 10 0 ⟨#[]⟩ [] [] (v.slots.filterMap (Dq (BT d) m)) []else v
def Dp(R:Val→List Msk→Val)(m:List Msk)(x:Slt):Option Slt:=(GY m x.num).elim (some x) fun e=>if e.subs.length≠0∧x.val.kind=10 then some (.mk x.num (R x.val e.subs))else none
def BO:Nat→Val→List Msk→Val
 |0,v,_=>v
 |d+1,v,m=>if v.kind=10 then .mk 10 0 ⟨#[]⟩ [] [] (v.slots.filterMap (Dp (BO d) m)) v.raws else v
theorem Zd{v:Val}(h:v.kind≠10):∀(d:Nat) (m:List Msk),BT d v m=v
 |0,_=>rfl
 |d+1,_=>Ym h
theorem u0{v:Val}(h:v.kind≠10):∀(d:Nat) (m:List Msk),BO d v m=v
 |0,_=>rfl
 |d+1,_=>Ym h
theorem Qt{s:Scm}{d:Nat}{f:Fld}{v:Val}(i:GdF s f)(h:Cn (A6 s true d) s true f v=0)(j:v.kind=10):¬f.card=4∧¬f.card=5∧f.type.kind=10∧∃d',d=d'+1∧OkM s true d' (A0 s f.type.name).1 v:=by
 unfold Cn at h
 by_cases a:f.card=4
 ·rw[Yj a,Yj (.inl (by omega))]at h
  cases h
 ·by_cases b:f.card=5
  ·rw[Ym a,Yj b,Yj (.inl (by omega))]at h
   cases h
  ·rw[Ym a,Ym b]at h
   by_cases c:f.type.kind=10
   ·exact⟨a,b,c,Ztq c h⟩
   ·exfalso
    have k:=i.ty
    unfold DL at h
    rw[Ym c,Ym (by omega)]at h
    have g:DW f.type.kind v=0:=by
     by_cases e:DW f.type.kind v=0
     ·exact e
     ·rw[Yj (.inl e)]at h
      exact h
    have:=(dp g).1
    omega
theorem sm{s:Scm}(g:GdS s){d:Nat}{n:ByteArray}{v w:Val}{S:Slt→Option Slt}{R:Val→List Msk→Val}(q:∀d':Nat,d=d'+1→∀(n:ByteArray) (y:Val) (m:List Msk),OkM s true d' (A0 s n).1 y→Wk s (d'+1) n (R y m))(ov:OkW s true d (A0 s n).1 v)(h:∀x z,S x=some z→z.num=x.num∧(z.val=x.val∨(x.val.kind=10∧∃m,z.val=R x.val m)))(k:w.slots=v.slots.filterMap S):Wk s (d+1) n w:=by
 have f:=ov.wk g
 constructor
 ·rw[k,List.pairwise_filterMap]
  refine f.1.imp fun {x y} i z b u j=>?_
  unfold D7 at*
  rw[(h x z b).1,(h y u j).1]
  exact i
 ·intro z b
  rw[k]at b
  obtain⟨x,hx,hs⟩:=Xx.1 b
  obtain⟨e,a⟩:=h x z hs
  rw[e]
  refine⟨(f.2 x hx).1,?_⟩
  rcases a with a|⟨t,m,a⟩
  ·rw[a]
   exact(f.2 x hx).2
  ·have r:AY (Ay s n) x.num∈Ay s n:=by
    rcases JS (Ay s n) x.num with⟨c,_⟩|⟨_,c⟩
    ·rw[(f.2 x hx).1]at c;cases c
    ·exact c
   obtain⟨A,l,c,d',p,o⟩:=Qt (g.fl n _ r) (ov.sl x hx).2 t
   subst p
   rw[a]
   exact⟨fun c=>absurd c l,fun _ _ _=>q d' rfl _ _ m o⟩
theorem nu{d:Nat}{m:List Msk}{x z:Slt}(h:Dq (BT d) m x=some z):z.num=x.num∧(z.val=x.val∨(x.val.kind=10∧∃m,z.val=BT d x.val m)):=by
 unfold Dq at h
 obtain⟨e,_,a⟩:=I9.1 h
 subst a
 split
 ·exact⟨rfl,.inl rfl⟩
 ·refine⟨rfl,?_⟩
  by_cases c:x.val.kind=10
  ·exact .inr ⟨c,_,rfl⟩
  ·exact .inl (Zd c d _)
theorem pq{d:Nat}{m:List Msk}{x z:Slt}(h:Dp (BO d) m x=some z):z.num=x.num∧(z.val=x.val∨(x.val.kind=10∧∃m,z.val=BO d x.val m)):=by
 unfold Dp at h
 cases e:GY m x.num with
 |none=>
  rw[e]at h
  cases h
  exact⟨rfl,.inl rfl⟩
 |some e0=>
  rw[e]at h
  have h:(if e0.subs.length≠0∧x.val.kind=10 then some (Slt.mk x.num (BO d x.val e0.subs))else none)=some z:=h
  split at h
  ·rename_i c
   cases h
   exact⟨rfl,.inr ⟨c.2,_,rfl⟩⟩
  ·cases h
theorem vZ{s:Scm}(g:GdS s):∀(d:Nat) (n:ByteArray) (v:Val) (m:List Msk),OkM s true d (A0 s n).1 v→Wk s (d+1) n (BT (d+1) v m)
 |d,n,v,m,o=>by
  rw[BT,Yj o.kd]
  exact sm g (R:=BT d) (fun d' e n y m a=>by subst e;exact vZ g d' n y m a) o.w (fun x z h=>nu h) rfl
theorem xp{s:Scm}(g:GdS s):∀(d:Nat) (n:ByteArray) (v:Val) (m:List Msk),OkM s true d (A0 s n).1 v→Wk s (d+1) n (BO (d+1) v m)
 |d,n,v,m,o=>by
  rw[BO,Yj o.kd]
  exact sm g (R:=BO d) (fun d' e n y m a=>by subst e;exact xp g d' n y m a) o.w (fun x z h=>pq h) rfl
theorem aI{S:Slt→Option Slt}:∀l:List Slt,(∀x∈l,∀z,S x=some z→An (Ap z)≤An (Ap x))→AB ((l.filterMap S).map Ap)≤AB (l.map Ap)
 |[],_=>Yf _
 |x::l,h=>by
  have a:=aI l fun y hy=>h y (Yy _ hy)
  rw[List.filterMap_cons,YT,AB]
  cases e:S x with
  |none=>
   dsimp only
   omega
  |some z=>
   have:=h x YB z e
   dsimp only
   rw[YT,AB]
   omega
theorem u1:∀(d:Nat) (v:Val) (m:List Msk),An (Ae (BT d v m))≤An (Ae v)
 |0,v,m=>Yf _
 |d+1,v,m=>by
  have b:rk .i64 10=0:=by decide
  have c:rk .u64 0=0:=by decide
  have h:=aI (S:=Dq (BT d) m) v.slots fun x _ z f=>by
   obtain⟨e,a⟩:=nu f
   rw[JB,JB,e]
   rcases a with a|⟨_,g,a⟩
   ·rw[a];exact Yf _
   ·rw[a];exact XN (u1 d x.val g) _
  rw[BT]
  split
  ·rw[H9,EO v]
   simp only[b,c,Du,AB]
   have:(⟨#[]⟩:ByteArray).size=0:=rfl
   omega
  ·exact Yf _
theorem vV:∀(d:Nat) (v:Val) (m:List Msk),An (Ae (BO d v m))≤An (Ae v)
 |0,v,m=>Yf _
 |d+1,v,m=>by
  have b:rk .i64 10=0:=by decide
  have c:rk .u64 0=0:=by decide
  have h:=aI (S:=Dp (BO d) m) v.slots fun x _ z f=>by
   obtain⟨e,a⟩:=pq f
   rw[JB,JB,e]
   rcases a with a|⟨_,g,a⟩
   ·rw[a];exact Yf _
   ·rw[a];exact XN (vV d x.val g) _
  rw[BO]
  split
  ·rw[H9,EO v]
   simp only[b,c,Du,AB]
   have:(⟨#[]⟩:ByteArray).size=0:=rfl
   omega
  ·exact Yf _
def D5(m:List Msk):Prop:=AB (m.map AJ)≤1048576
theorem ZUk{m:List Msk}{e:Msk}(h:D5 m)(he:e∈m):D5 e.subs:=by
 have a:=CF (e:=AJ) he
 have b:An (AJ e)=rk .i64 e.num+AB (e.subs.map AJ):=by
  rw[JP]
  simp only[HA,An,bk]
  omega
 unfold D5 at*
 omega
theorem Qy{m:List Msk}(h:D5 m):m.length≤1048576:=by
 have:=Cr (e:=AJ) m
 unfold D5 at h
 omega
def ES(m:List Msk)(k:Int):Msk×Bool:=(GY m k).elim (.mk 0 [],false) fun e=>(e,true)
theorem ZqN(l:List Msk)(k:Int)(h:l.length≤1048576):eI l k=some (ES l k):=by
 have f:=Di (B:=QE l k) (N:=Ag) l (fun x=>decide (x.num=k)) (fun i=>(l.getD i Rw.z,true)) () (fun i x hx=>by
  have b:=Ba hx
  have c:i+1<9223372036854775808:=by have:=(Yb.1 hx).1;omega
  have d:l.getD i Rw.z=x:=by rw[Yg,hx];rfl
  have e:Zjo x=some x.num:=rfl
  dsimp only[QE,aH,br,ix,wg,vs,Ar,ln,Af,cl,wa,br]
  simp only[b,c,d,hx,e,Yp,Yq,Ya]
  cases decide (x.num=k)<;>rfl) (by dsimp only[QE,aH,br,ix,wg,vs,Ar,ln,Af,cl,wa,br];simp) (AK (by omega))
 dsimp only[eI,yp,wD,wu,vz,wg,lr,lc,Ai]
 unfold ES GY
 rw[f,MX]
 cases e:l.findIdx? fun x=>decide (x.num=k)with
 |none=>rfl
 |some i=>
  have a:=(Y3.1 e).1
  simp[Yc a]
theorem Znk(l:List Msk)(k:Int)(h:l.length≤1048576):ec l k=some (ES l k):=by
 have g:=Di (B:=Rf l k) (N:=Ag) l (fun x=>decide (x.num=k)) (fun i=>(l.getD i Rw.z,true)) () (fun i x hx=>by
  have c:=Ba hx
  have b:=(Yb.1 hx).1
  have d:i+1<9223372036854775808:=by omega
  have f:l.getD i Rw.z=x:=by rw[Yg,hx];rfl
  dsimp only[Rf,am,br,ix,vz,wg,vs,Ar,ln,Af,wa,Ai,br]
  simp only[c,d,f,b,hx,Yp,Yq,Ya]
  cases decide (x.num=k)<;>rfl) (by dsimp only[Rf,am,br,ix,vz,wg,vs,Ar,ln,Af,wa,Ai,br];simp) (AK (by omega))
 dsimp only[ec,tq,sX,sQ,wg,lr,lc]
 unfold ES GY
 rw[g,MX]
 cases e:l.findIdx? fun x=>decide (x.num=k)with
 |none=>rfl
 |some i=>
  have a:=(Y3.1 e).1
  simp[Yc a]
theorem Vm{m:List Msk}{k:Int}(h:D5 m):D5 (ES m k).1.subs:=by
 unfold ES
 cases e:GY m k with
 |none=>show AB (([]:List Msk).map AJ)≤_;simp[AB]
 |some x=>exact ZUk h (Ha e)
theorem ZWb{v:Val}(h:B4 v=false)(k:v.kind≠11):v.list=[]:=by
 unfold B4 at h
 rw[YJ]at h
 exact XT.1 (kZ fun c=>h (.inl ⟨k,c⟩))
theorem ZVr{v:Val}(h:B4 v=false)(k:v.kind≠12):v.pairs=[]:=by
 unfold B4 at h
 rw[YJ]at h
 exact XT.1 (kZ fun c=>h (.inr (.inl ⟨k,c⟩)))
theorem Zk8{v:Val}(g:v.kind=10)(a:B4 v=false):v=.mk 10 0 ⟨#[]⟩ [] [] v.slots v.raws:=by
 have b:=ZWb a (by omega)
 have d:=ZVr a (by omega)
 unfold B4 at a
 rw[YJ]at a
 have e:v.text=⟨#[]⟩:=Decidable.byContradiction fun c=>a (.inr (.inr (.inr (.inl ⟨c,by omega⟩))))
 have f:v.bits=0:=Decidable.byContradiction fun c=>a (.inr (.inr (.inr (.inr ⟨c,by omega⟩))))
 exact UQ.2 ⟨g,f,e,b,d,rfl,rfl⟩
theorem ZwZ{v:Val}(h:v.kind≠10)(f:Nat)(m:List Msk):Gy (f+1) v m=some v:=by
 show Mz (Gy f) v m=_
 dsimp only[Mz,bf,aa,aE,X8,br,vz,vw,wg,lr,lc,fl,fr,Ai,br]
 simp[h]
theorem Znm{s:Scm}(g:GdS s):∀(a d:Nat) (n:ByteArray) (v:Val) (m:List Msk),d+1<a→AP v→D5 m→OkM s true d (A0 s n).1 v→Gy a v m=some (BT (d+1) v m)
 |0,d,n,v,m,h,_,_,_=>by omega
 |a+1,d,n,v,m,E,z,hm,o=>by
  have J:=(Ci z).s
  have hl:=Qy hm
  have j:∀x∈v.slots,∀e:List Msk,D5 e→Gy a x.val e=some (BT d x.val e):=fun x hx e he=>by
   by_cases c:x.val.kind=10
   ·have G:=(o.w.wk g).2 x hx
    have D:AY (Ay s n) x.num∈Ay s n:=by
     rcases JS (Ay s n) x.num with⟨c,_⟩|⟨_,c⟩
     ·rw[G.1]at c;cases c
     ·exact c
    obtain⟨_,_,_,d',f,I⟩:=Qt (g.fl n _ D) (o.sl x hx).2 c
    subst f
    exact Znm g a d' _ x.val e (by omega) (Fm z hx) he I
   ·obtain⟨a,rfl⟩:∃k,a=k+1:=⟨a-1,by omega⟩
    rw[ZwZ c,Zd c]
  have t:=Dh (B:=Nu v m (Gy a)) (N:=Ag) (ρ:=Val) v.slots (fun p=>p.filterMap (Dq (BT d) m)) (fun i b=>(i,b)) id (fun i x hx=>by
   have u:=Ba hx
   have hi:=(Yb.1 hx).1
   have w:i+1<9223372036854775808:=by omega
   have l:=ZqN m x.num hl
   have f:=j x (Yi hx) (ES m x.num).1.subs (Vm hm)
   have H:((v.slots.take i).filterMap (Dq (BT d) m)).length≤i:=by
    have:=RX (Dq (BT d) m) (v.slots.take i)
    rw[Yw]at this
    omega
   rw[R7]
   generalize (v.slots.take i).filterMap (Dq (BT d) m)=out at H⊢
   have A:out.length<549755813887:=by omega
   show _=some (Lv.nx (i+1,out++(Dq (BT d) m x).toList))
   unfold ES at l f
   unfold Dq
   dsimp only[Nu,Zq,br,ix,vz,vw,wg,vs,ln,Af,ap,cl,cs,wa,fl,br,e9,ag,vz,wg,lr,Ai]
   cases e:GY m x.num with
   |none=>
    rw[e]at l
    simp only[u,hx,Yp,Yq,Ya,l,Ow,Y6,w,Option.map_none,Option.toList_none,FG]
   |some y=>
    rw[e]at l f
    have f:Gy a x.val y.subs=some (BT d x.val y.subs):=f
    simp only[u,hx,Yp,Yq,Ya,l,Ov,YY,Yn,YK,w,YV,Sc]
    by_cases c:y.subs.length=0
    ·simp[c,A]
    ·simp[c,A,f]) (by dsimp only[Nu,Zq,br,ix,vz,vw,wg,vs,ln,Af,ap,cl,cs,wa,fl,br];simp) (AK (by omega))
  show Mz (Gy a) v m=_
  have t:Aj (Nu v m (Gy a)) Ag (0,[])=some (.inl (v.slots.filterMap (Dq (BT d) m))):=t
  have F:=o.ot
  have r:=o.kd
  have C:v=.mk 10 0 ⟨#[]⟩ [] [] v.slots v.raws:=Zk8 r F
  dsimp only[Mz,bf,aa,aE,X8,br,vz,vw,wg,lr,lc,fl,fr,Ai,br]
  rw[r,t,BT,Yj r]
  have q:=(UQ.1 C)
  simp only[Yp,YY,Yn,YK,Ya,Cp]
  rw[q.2.1,q.2.2.1,q.2.2.2.1,q.2.2.2.2.1]
  rfl
theorem Zxd{v:Val}(h:v.kind≠10)(f:Nat)(m:List Msk):Gx (f+1) v m=some v:=by
 show Mj (Gx f) v m=_
 dsimp only[Mj,Zz,ak,bb,a2,br,vz,vw,wg,lr,lc,fl,fr,br]
 simp[h]
theorem ZnA{s:Scm}(g:GdS s):∀(a d:Nat) (n:ByteArray) (v:Val) (m:List Msk),d+1<a→AP v→D5 m→OkM s true d (A0 s n).1 v→Gx a v m=some (BT (d+1) v m)
 |0,d,n,v,m,h,_,_,_=>by omega
 |a+1,d,n,v,m,D,w,hm,o=>by
  have I:=(Ci w).s
  have hl:=Qy hm
  have j:∀x∈v.slots,∀e:List Msk,D5 e→Gx a x.val e=some (BT d x.val e):=fun x hx e he=>by
   by_cases c:x.val.kind=10
   ·have E:=(o.w.wk g).2 x hx
    have C:AY (Ay s n) x.num∈Ay s n:=by
     rcases JS (Ay s n) x.num with⟨c,_⟩|⟨_,c⟩
     ·rw[E.1]at c;cases c
     ·exact c
    obtain⟨_,_,_,d',f,G⟩:=Qt (g.fl n _ C) (o.sl x hx).2 c
    subst f
    exact ZnA g a d' _ x.val e (by omega) (Fm w hx) he G
   ·obtain⟨a,rfl⟩:∃k,a=k+1:=⟨a-1,by omega⟩
    rw[Zxd c,Zd c]
  have q:=Dh (B:=Nk v m (Gx a)) (N:=Ag) (ρ:=Val) v.slots (fun p=>p.filterMap (Dq (BT d) m)) (fun i b=>(i,b)) id (fun i x hx=>by
   have r:=Ba hx
   have hi:=(Yb.1 hx).1
   have t:i+1<9223372036854775808:=by omega
   have l:=Znk m x.num hl
   have f:=j x (Yi hx) (ES m x.num).1.subs (Vm hm)
   have F:((v.slots.take i).filterMap (Dq (BT d) m)).length≤i:=by
    have:=RX (Dq (BT d) m) (v.slots.take i)
    rw[Yw]at this
    omega
   rw[R7]
   generalize (v.slots.take i).filterMap (Dq (BT d) m)=out at F⊢
   have z:out.length<549755813887:=by omega
   show _=some (Lv.nx (i+1,out++(Dq (BT d) m x).toList))
   unfold ES at l f
   unfold Dq
   dsimp only[Nk,Z2,br,ix,vz,vy,vw,wg,vs,ln,Af,ap,cl,cs,wa,fl,Ai,br]
   cases e:GY m x.num with
   |none=>
    rw[e]at l
    simp only[r,hx,Yp,Yq,Ya,l,Ow,Ds,Yn,YK,t,Option.map_none,Option.toList_none,FG]
   |some y=>
    rw[e]at l f
    have f:Gx a x.val y.subs=some (BT d x.val y.subs):=f
    simp only[r,hx,Yp,Yq,Ya,l,Ov,Dt,t,YV,Sc]
    by_cases c:y.subs.length=0
    ·simp[c,z]
    ·have A:0<y.subs.length:=by omega
     simp[c,A,z,f]) (by dsimp only[Nk,Z2,br,ix,vz,vy,vw,wg,vs,ln,Af,ap,cl,cs,wa,fl,Ai,br];simp) (AK (by omega))
  show Mj (Gx a) v m=_
  have q:Aj (Nk v m (Gx a)) Ag (0,[])=some (.inl (v.slots.filterMap (Dq (BT d) m))):=q
  have H:=o.ot
  have u:=o.kd
  dsimp only[Mj,Zz,ak,bb,a2,br,vz,vw,wg,lr,lc,fl,fr,br]
  rw[u,q,BT,Yj u]
  rfl
theorem ZyQ{v:Val}(h:v.kind≠10)(f:Nat)(m:List Msk):Gz (f+1) v m=some v:=by
 show L9 (Gz f) v m=_
 dsimp only[L9,aP,ZE,Zx,ah,br,vz,vw,wg,lr,lc,fl,fr,Ai,br]
 simp[h]
theorem Zng{s:Scm}(g:GdS s):∀(a d:Nat) (n:ByteArray) (v:Val) (m:List Msk),d+1<a→AP v→D5 m→OkM s true d (A0 s n).1 v→Gz a v m=some (BO (d+1) v m)
 |0,d,n,v,m,h,_,_,_=>by omega
 |a+1,d,n,v,m,F,C,hm,o=>by
  have K:=(Ci C).s
  have hl:=Qy hm
  have j:∀x∈v.slots,∀e:List Msk,D5 e→Gz a x.val e=some (BO d x.val e):=fun x hx e he=>by
   by_cases c:x.val.kind=10
   ·have H:=(o.w.wk g).2 x hx
    have E:AY (Ay s n) x.num∈Ay s n:=by
     rcases JS (Ay s n) x.num with⟨c,_⟩|⟨_,c⟩
     ·rw[H.1]at c;cases c
     ·exact c
    obtain⟨_,_,_,d',f,J⟩:=Qt (g.fl n _ E) (o.sl x hx).2 c
    subst f
    exact Zng g a d' _ x.val e (by omega) (Fm C hx) he J
   ·obtain⟨a,rfl⟩:∃k,a=k+1:=⟨a-1,by omega⟩
    rw[ZyQ c,u0 c]
  have u:=Dh (B:=Ns v m (Gz a)) (N:=Ag) (ρ:=Val) v.slots (fun p=>p.filterMap (Dp (BO d) m)) (fun i b=>(i,b)) id (fun i x hx=>by
   have z:=Ba hx
   have hi:=(Yb.1 hx).1
   have A:i+1<9223372036854775808:=by omega
   have l:=ZqN m x.num hl
   have f:=j x (Yi hx) (ES m x.num).1.subs (Vm hm)
   have I:((v.slots.take i).filterMap (Dp (BO d) m)).length≤i:=by
    have:=RX (Dp (BO d) m) (v.slots.take i)
    rw[Yw]at this
    omega
   rw[R7]
   generalize (v.slots.take i).filterMap (Dp (BO d) m)=out at I⊢
   have t:out.length<549755813887:=by omega
   show _=some (Lv.nx (i+1,out++(Dp (BO d) m x).toList))
   unfold ES at l f
   unfold Dp
   dsimp only[Ns,ZH,br,ix,vz,vw,wg,vs,ln,Af,ap,cl,AE,cs,wa,fl,br,e9,ag,vz,wg,lr,Ai]
   cases e:GY m x.num with
   |none=>
    rw[e]at l
    simp only[z,hx,Yp,Yq,Ya,l,Ow,Ds,Yn,YK,A,t,Sc,L6]
   |some y=>
    rw[e]at l f
    have f:Gz a x.val y.subs=some (BO d x.val y.subs):=f
    simp only[z,hx,Yp,Yq,Ya,l,Ov,Dt,A]
    by_cases c:y.subs.length=0
    ·simp[c,t]
    ·by_cases w:x.val.kind=10
     ·simp[c,w,t,f]
     ·simp[c,w]) (by dsimp only[Ns,ZH,br,ix,vz,vw,wg,vs,ln,Af,ap,cl,AE,cs,wa,fl,br];simp) (AK (by omega))
  show L9 (Gz a) v m=_
  have u:Aj (Ns v m (Gz a)) Ag (0,[])=some (.inl (v.slots.filterMap (Dp (BO d) m))):=u
  have G:=o.ot
  have r:=o.kd
  have D:v=.mk 10 0 ⟨#[]⟩ [] [] v.slots v.raws:=Zk8 r G
  dsimp only[L9,aP,ZE,Zx,ah,br,vz,vw,wg,lr,lc,fl,fr,Ai,br]
  rw[r,u,BO,Yj r]
  have q:=(UQ.1 D)
  simp only[Yp,YY,Yn,YK,Ya,Cp]
  rw[q.2.1,q.2.2.1,q.2.2.2.1,q.2.2.2.2.1]
  rfl
theorem Zzw{v:Val}(h:v.kind≠10)(f:Nat)(m:List Msk):Gw (f+1) v m=some v:=by
 show Ma (Gw f) v m=_
 dsimp only[Ma,Zg,Z3,aO,ZV,br,vz,vw,wg,lr,lc,fl,fr,br]
 simp[h]
theorem ZoZ{s:Scm}(g:GdS s):∀(a d:Nat) (n:ByteArray) (v:Val) (m:List Msk),d+1<a→AP v→D5 m→OkM s true d (A0 s n).1 v→Gw a v m=some (BO (d+1) v m)
 |0,d,n,v,m,h,_,_,_=>by omega
 |a+1,d,n,v,m,E,A,hm,o=>by
  have J:=(Ci A).s
  have hl:=Qy hm
  have j:∀x∈v.slots,∀e:List Msk,D5 e→Gw a x.val e=some (BO d x.val e):=fun x hx e he=>by
   by_cases c:x.val.kind=10
   ·have F:=(o.w.wk g).2 x hx
    have D:AY (Ay s n) x.num∈Ay s n:=by
     rcases JS (Ay s n) x.num with⟨c,_⟩|⟨_,c⟩
     ·rw[F.1]at c;cases c
     ·exact c
    obtain⟨_,_,_,d',f,H⟩:=Qt (g.fl n _ D) (o.sl x hx).2 c
    subst f
    exact ZoZ g a d' _ x.val e (by omega) (Fm A hx) he H
   ·obtain⟨a,rfl⟩:∃k,a=k+1:=⟨a-1,by omega⟩
    rw[Zzw c,u0 c]
  have q:=Dh (B:=NM v m (Gw a)) (N:=Ag) (ρ:=Val) v.slots (fun p=>p.filterMap (Dp (BO d) m)) (fun i b=>(i,b)) id (fun i x hx=>by
   have u:=Ba hx
   have hi:=(Yb.1 hx).1
   have w:i+1<9223372036854775808:=by omega
   have l:=Znk m x.num hl
   have f:=j x (Yi hx) (ES m x.num).1.subs (Vm hm)
   have G:((v.slots.take i).filterMap (Dp (BO d) m)).length≤i:=by
    have:=RX (Dp (BO d) m) (v.slots.take i)
    rw[Yw]at this
    omega
   rw[R7]
   generalize (v.slots.take i).filterMap (Dp (BO d) m)=out at G⊢
   have C:out.length<549755813887:=by omega
   show _=some (Lv.nx (i+1,out++(Dp (BO d) m x).toList))
   unfold ES at l f
   unfold Dp
   dsimp only[NM,Z9,br,ix,vz,vy,vw,wg,vs,ln,Af,ap,cl,cs,wa,fl,Ai,br]
   cases e:GY m x.num with
   |none=>
    rw[e]at l
    simp only[u,hx,Yp,Yq,Ya,l,Ow,Ds,Yn,YK,w,C,Sc,Y6,Bool.or_true]
   |some y=>
    rw[e]at l f
    have f:Gw a x.val y.subs=some (BO d x.val y.subs):=f
    simp only[u,hx,Yp,Yq,Ya,l,Ov,Dt,w]
    by_cases c:y.subs.length=0
    ·simp[c]
    ·have r:0<y.subs.length:=by omega
     by_cases t:x.val.kind=10
     ·simp[c,r,t,C,f]
     ·simp[c,r,t]) (by dsimp only[NM,Z9,br,ix,vz,vy,vw,wg,vs,ln,Af,ap,cl,cs,wa,fl,Ai,br];simp) (AK (by omega))
  show Ma (Gw a) v m=_
  have q:Aj (NM v m (Gw a)) Ag (0,[])=some (.inl (v.slots.filterMap (Dp (BO d) m))):=q
  have I:=o.ot
  have z:=o.kd
  dsimp only[Ma,Zg,Z3,aO,ZV,br,vz,vw,wg,lr,lc,fl,fr,br]
  rw[z,q,BO,Yj z]
  rfl
theorem ZZx(s:Scm)(n:ByteArray)(h:SzS s):Ok (fun y:Msg×Int=>y.1.fields.length≤1048576) (dy s n):=by
 have k:=h.ml
 have j:=Di (B:=QP s n) (N:=Ag) s.messages (fun x=>decide (x.name=n)) (fun i=>(s.messages.getD i Rw.z,(i:Int))) () (fun i x hx=>by
  have d:=Ba hx
  have c:=(Yb.1 hx).1
  have f:i+1<9223372036854775808:=by omega
  have g:s.messages.getD i Rw.z=x:=by rw[Yg,hx];rfl
  dsimp only[QP,ZG,br,ix,vz,wg,vs,Ar,ln,Af,wa,Ai,br]
  simp only[d,f,g,c,hx,Yp,Yq,Ya]
  cases decide (x.name=n)<;>rfl) (by dsimp only[QP,ZG,br,ix,vz,wg,vs,Ar,ln,Af,wa,Ai,br];simp) (AK (by omega))
 dsimp only[dy,xg,qD,vT,wg,lr,lc]
 rw[j]
 cases e:s.messages.findIdx? fun x=>decide (x.name=n)with
 |none=>exact⟨_,rfl,Cj _⟩
 |some i=>
  have a:=(Y3.1 e).1
  have b:s.messages.getD i Rw.z=s.messages[i]:=by rw[Yg,Yc a];rfl
  refine⟨_,rfl,?_⟩
  show(s.messages.getD i Rw.z).fields.length≤_
  rw[b]
  exact(h.m _ (FJ a)).fl
theorem ZXl(m:Msg)(k:Int)(h:m.fields.length≤1048576):Ok Tr (eE m k):=by
 have e:=Di (B:=QO m k) (N:=Ag) m.fields (fun x=>decide (x.num=k)) (fun i=>(m.fields.getD i Rw.z,true)) () (fun i x hx=>by
  have b:=Ba hx
  have a:=(Yb.1 hx).1
  have c:i+1<9223372036854775808:=by omega
  have d:m.fields.getD i Rw.z=x:=by rw[Yg,hx];rfl
  dsimp only[QO,ZO,br,ix,vz,wg,vs,Ar,ln,Af,wa,Ai,br]
  simp only[b,c,d,a,hx,Yp,Yq,Ya]
  cases decide (x.num=k)<;>rfl) (by dsimp only[QO,ZO,br,ix,vz,wg,vs,Ar,ln,Af,wa,Ai,br];simp) (AK (by omega))
 dsimp only[eE,rv,yR,rO,wg,lr,lc]
 rw[e]
 cases m.fields.findIdx? fun x=>decide (x.num=k)with
 |none=>exact⟨_,rfl,trivial⟩
 |some i=>exact⟨_,rfl,trivial⟩
theorem ZXz(f:Fld):Ok Tr (Zdr f):=⟨_,rfl,trivial⟩
theorem zW(s:Scm)(h:SzS s):∀(a:Nat) (n:ByteArray) (m:List Msk),AB (m.map AJ)≤1048576→AB (m.map AJ)<a→Ok Tr (Lb a s n m)
 |0,n,m,_,c=>by omega
 |a+1,n,m,hm,c=>by
  have hl:m.length≤1048576:=Qy hm
  have b:∀(n:ByteArray) (e:Msk),e∈m→Ok Tr (Lb a s n e.subs):=fun n e he=>by
   have d:=CF (e:=AJ) he
   have f:An (AJ e)=rk .i64 e.num+AB (e.subs.map AJ):=by
    rw[JP]
    simp only[HA,An,bk]
    omega
   exact zW s h a n e.subs (by omega) (by omega)
  show Ok Tr (Ti (Lb a) s n m)
  have q:∀y:Msg×Int,y.1.fields.length≤1048576→Ok Ts (Aj (Wv s m (Lb a) y) Ag 0):=fun y hy=>by
   refine Bt (fun v:Nat=>v≤m.length) (fun v:Nat=>m.length-v) (by omega) (BR (by omega)) fun v g=>?_
   dsimp only[Wv,yc,ZX,aw,P1,yx,br,ix,AN,vz,wg,vs,vg,v2,Ar,ln,Af,lc,cl,AE,cs,wa,wi,du,Ai,br,P1]
   (repeat' (first|with_reducible (first|refine AI (fun _=>?_) fun _=>?_|refine AG ?_|refine BN ?_ fun _ _ _=>?_)|(with_reducible apply AF;(exact ZXz _);intro _ _)|(with_reducible apply AF;(exact ZXl _ _ hy);intro _ _)|(with_reducible apply AF;(exact b _ _ (by assumption));intro _ _)|(with_reducible apply Bi;(exact fun _=>ZXz _);intro _)|(with_reducible apply Bi;(exact fun _=>ZXl _ _ hy);intro _)|(with_reducible apply Bi;(exact fun _=>b _ _ (by assumption));intro _)|with_reducible (first|refine FU ?_ fun _=>?_|refine AM ?_ ?_)))<;>exact AU
  dsimp only[Ti,r6,x9,xQ,qg,br,vw,wg,lr,lc,cl,br]
  (repeat' (first|with_reducible (first|refine AI (fun _=>?_) fun _=>?_|refine AG ?_)|(with_reducible apply BF;(exact q _ (by assumption));all_goals(intro _ _;try dsimp only))|(with_reducible apply AF;(exact ZZx s n h);intro _ _)|with_reducible refine AM ?_ ?_))<;>exact AU
theorem Zlb{s:Scm}{n:ByteArray}{a b:Val}{m:List Msk}(hs:An (Am s)≤1048576)(_:(0:Nat)≤1)(c:An (Ae a)≤1048576)(L:An (Ae a)+An (Ae b)≤1048576)(hm:AB (m.map AJ)≤1048576):dD s n a b m=some true:=by
 have h:An (Ae b)≤1048576:=by omega
 obtain⟨w,C,K⟩:=o16 hs
 obtain⟨B,F,_⟩:=zW s (EW hs) Ag n m hm (AK (by omega))
 dsimp only[dD,zK,br,wg,lr,cl,AE,br]
 rw[C,ZYR,F]
 cases w with
 |false=>simp
 |true=>
 have g:=ZNW (K rfl) hs
 obtain⟨z,D,u⟩:=ZnW hs g n a c
 obtain⟨A,E,a3⟩:=ZnW hs g n b h
 rw[D,E]
 cases z with
 |false=>simp
 |true=>
 cases A with
 |false=>simp
 |true=>
 by_cases o:B=0
 ·have d:=(gV.1 (u.1 rfl).1).2.1
  have k:=(gV.1 (a3.1 rfl).1).2.1
  have Ca:15+1<Ag:=AK (by omega)
  have i:=Znm g Ag 15 n b m Ca h hm k
  have j:=ZnA g Ag 15 n b m Ca h hm k
  have q:=Zng g Ag 15 n a m Ca c hm d
  have r:=ZoZ g Ag 15 n a m Ca c hm d
  have wk:=vZ g 15 n b m k
  have l:=xp g 15 n a m d
  have R:=u1 16 b m
  have Q:=vV 16 a m
  generalize BT (15+1) b m=x at i j wk R
  generalize BO (15+1) a m=y at q r l Q
  have hx:AP x:=by show An (Ae x)≤1048576;omega
  have hy:AP y:=by show An (Ae y)≤1048576;omega
  have G:=Znx hs g n a x c hx (d.w.wk g) wk
  have H:=Zjc hs g n a x c hx (d.w.wk g) wk
  have I:=Znx hs g n y x hy hx l wk
  have J:=Zjc hs g n y x hy hx l wk
  have t:∀v:Val,An (Ae v)≤1048576→JH Ag v v=some true:=fun v p=>by
   obtain⟨S,f,a9⟩:=xC (a:=v) (b:=v) p p
   rw[f,a9.2 rfl]
  have f:=t (Bq s 16 n a x) (by have:=ip g.asc 16 n a x;omega)
  have e:=t (Bq s 16 n y x) (by have:=ip g.asc 16 n y x;omega)
  have M:eQ s n a b m=some (Bq s 16 n a x):=by dsimp only[eQ,tR,wg,lr,cl];rw[i,Ya,G];rfl
  have N:dU s n a b m=some (Bq s 16 n a x):=by dsimp only[dU,yr,wg,lr,cl];rw[j,Ya,H];rfl
  have O:eS s n a b m=some (Bq s 16 n y x):=by dsimp only[eS,ye,wg,lr,cl];rw[q,Ya,i,Ya,I];rfl
  have P:em s n a b m=some (Bq s 16 n y x):=by dsimp only[em,uK,wg,lr,cl];rw[r,Ya,j,Ya,J];rfl
  simp[o,M,N,O,P,f,e]
 ·simp[o]
end Go.Proofs.YtbcmdieedjamgaaGreat
