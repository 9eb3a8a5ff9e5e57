import Derived.Test.YtjbijbkdiijhaaaGreatZb25
import Derived.Test.YtjbijbkdiijhaaaGreatZb22
import Derived.Test.YtjbijbkdiijhaaaGreatZb00
namespace Go.Proofs.YtjbijbkdiijhaaaGreat
set_option linter.all false
open Go Go.Eng
theorem Hy{l:List Slt}{k:Int}{x:Slt}(h:BC l k=some x):x∈l∧x.num=k:=⟨HR h,Y4 (p:=x.num=k) (aS (p:=fun x:Slt=>decide (x.num=k)) h)⟩
theorem Q1{l:List Slt}{k:Int}:BC l k=none↔∀x∈l,x.num≠k:=by
 unfold BC
 rw[Tf]
 simp
theorem sU{α:Type}{R:α→α→Prop}(sy:∀{a b},R a b→R b a){l:List α}(h:l.Pairwise R){x y:α}(hx:x∈l)(hy:y∈l)(n:x≠y):R x y:=by
 obtain⟨i,hi,rfl⟩:=List.mem_iff_getElem.1 hx
 obtain⟨j,d,rfl⟩:=List.mem_iff_getElem.1 hy
 rcases OK i j with c|c|c
 ·exact G8.1 h i j hi d c
 ·subst c
  exact absurd rfl n
 ·exact sy (G8.1 h j i d hi c)
theorem VW{l:List Slt}(h:l.Pairwise fun a b=>a.num≠b.num){x:Slt}(hx:x∈l):BC l x.num=some x:=by
 cases e:BC l x.num with
 |none=>exact absurd rfl (Q1.1 e x hx)
 |some y=>
  obtain⟨d,f⟩:=Hy e
  by_cases c:y=x
  ·rw[c]
  ·exact absurd f (sU (R:=fun a b:Slt=>a.num≠b.num) (fun h e=>h e.symm) h d hx c)
def Fv(R:ByteArray→Val→Val→Val)(F:List Fld)(p:List Slt)(x:Slt):Slt:=.mk x.num ((BC p x.num).elim x.val fun y=>Cu R (A4 F x.num) x.val y.val)
def Cd(R:ByteArray→Val→Val→Val)(F:List Fld)(A p:List Slt):List Slt:=A.map (Fv R F p)++p.filter fun y=>!B7 A y.num
theorem ZA5(p:List Slt)(y:Slt)(k:Int)(h:y.num≠k):BC (p++[y]) k=BC p k:=by
 unfold BC
 rw[S4]
 simp[h]
theorem Zoy{R:ByteArray→Val→Val→Val}{F:List Fld}{p:List Slt}{y x:Slt}(h:y.num≠x.num):Fv R F (p++[y]) x=Fv R F p x:=by
 unfold Fv
 rw[ZA5 p y x.num h]
theorem ZHP(R:ByteArray→Val→Val→Val)(F:List Fld)(A:List Slt):Cd R F A []=A:=by
 have:Fv R F []=id:=funext fun x=>by cases x;rfl
 unfold Cd
 rw[this]
 simp
theorem ZMk{R:ByteArray→Val→Val→Val}{F:List Fld}{A p:List Slt}{y:Slt}{i:Nat}(hi:A.findIdx? (fun x=>decide (x.num=y.num))=some i):(Cd R F A p).findIdx? (fun x=>decide (x.num=y.num))=some i:=by
 unfold Cd
 rw[List.findIdx?_append,List.findIdx?_map]
 have:((fun x:Slt=>decide (x.num=y.num))∘Fv R F p)=fun x=>decide (x.num=y.num):=rfl
 rw[this,hi]
 rfl
theorem ZJg{R:ByteArray→Val→Val→Val}{F:List Fld}{A p:List Slt}{y:Slt}{i:Nat}(m:A.Pairwise fun a b=>a.num≠b.num)(r:∀x∈p,x.num≠y.num)(hi:A.findIdx? (fun x=>decide (x.num=y.num))=some i):
  ∃x,A[i]?=some x∧(Cd R F A p)[i]?=some x∧x.num=y.num∧Cd R F A (p++[y])=(Cd R F A p).set i (.mk x.num (Cu R (A4 F y.num) x.val y.val)):=by
 obtain⟨d,o,_⟩:=Mc.1 hi
 have hx:A[i]?=some A[i]:=Ye d
 have f:(A[i]).num=y.num:=Y4 o
 have n:BC p (A[i]).num=none:=by rw[Q1,f];exact r
 have t:Fv R F p A[i]=A[i]:=by
  unfold Fv
  rw[n]
  cases A[i]
  rfl
 refine⟨A[i],hx,?_,f,?_⟩
 ·unfold Cd
  rw[Yp (by rw[YH];exact d),YS,hx,YZ,t]
 ·have s:B7 A y.num=true:=YL.2 ⟨A[i],Gn d,Yn f⟩
  unfold Cd
  rw[Ec,show([y].filter fun y=>!B7 A y.num)=[]by simp[s],G4,List.set_append_left (h:=by rw[YH];exact d)]
  congr 1
  apply List.ext_getElem?
  intro j
  rw[YS,List.getElem?_set,YH,YS]
  by_cases c:i=j
  ·subst c
   rw[Ym rfl,Ym d,hx,YZ]
   congr 1
   unfold Fv
   rw[show BC (p++[y]) (A[i]).num=some y by unfold BC at*;rw[S4,n];simp[f],f]
   rfl
  ·rw[Yk c]
   cases e:A[j]? with
   |none=>rfl
   |some z=>
    have q:=(Ya.1 e)
    obtain⟨g,k⟩:=q
    have l:y.num≠z.num:=by
     rw[←f,←k]
     rcases Nat.lt_or_gt_of_ne c with h|h
     ·exact(G8.1 m) i j d g h
     ·exact fun e=>(G8.1 m) j i g d h e.symm
    rw[YZ,YZ,Zoy l]
theorem ZGI{R:ByteArray→Val→Val→Val}{F:List Fld}{A p:List Slt}{y:Slt}(b:∀x∈p,x.num≠y.num)(hi:A.findIdx? (fun x=>decide (x.num=y.num))=none):
  (Cd R F A p).findIdx? (fun x=>decide (x.num=y.num))=none∧Cd R F A (p++[y])=Cd R F A p++[y]:=by
 have a:∀x∈A,x.num≠y.num:=fun x hx=>of_decide_eq_false (L8.1 hi x hx)
 constructor
 ·rw[L8]
  intro x hx
  refine Yq ?_
  rcases DS.1 hx with hx|hx
  ·obtain⟨z,d,rfl⟩:=YT.1 hx
   exact a z d
  ·exact b x ((Y9.1 hx).1)
 ·have c:B7 A y.num=false:=by
   unfold B7
   rw[L6]
   intro x hx
   simp[a x hx]
  unfold Cd
  rw[Ec,show([y].filter fun y=>!B7 A y.num)=[y]by simp[c],Y7]
  congr 1
  exact Eb fun x hx=>Zoy fun e=>a x hx e.symm
theorem Zwq(R:ByteArray→Val→Val→Val)(F:List Fld)(A p:List Slt):(Cd R F A p).length≤A.length+p.length:=by
 unfold Cd
 rw[Yt,YH]
 have:=Mb (fun y=>!B7 A y.num) p
 omega
theorem ZHB{R:ByteArray→Val→Val→Val}{F:List Fld}{A p:List Slt}{z:Slt}:z∈Cd R F A p↔(∃x∈A,z=Fv R F p x)∨(z∈p∧∀x∈A,x.num≠z.num):=by
 unfold Cd
 rw[DS,YT,Y9]
 have:(!B7 A z.num)=true↔∀x∈A,x.num≠z.num:=by
  unfold B7
  simp
 rw[this]
 constructor
 ·rintro(⟨x,hx,rfl⟩|h)
  ·exact .inl ⟨x,hx,rfl⟩
  ·exact .inr h
 ·rintro(⟨x,hx,rfl⟩|h)
  ·exact .inl ⟨x,hx,rfl⟩
  ·exact .inr h
theorem ZPB{R:ByteArray→Val→Val→Val}{F:List Fld}{A p:List Slt}(c:A.Pairwise fun a b=>a.num≠b.num)(d:p.Pairwise fun a b=>a.num≠b.num):(Cd R F A p).Pairwise fun a b=>a.num≠b.num:=by
 unfold Cd
 rw[Oy]
 refine⟨by rw[au];exact c,d.filter _,fun x hx y hy=>?_⟩
 obtain⟨z,e,rfl⟩:=YT.1 hx
 have h:=(Y9.1 hy).2
 unfold B7 at h
 rw[YJ,L6]at h
 have:=h z e
 simp at this
 exact this
theorem Zwe{l:List Slt}(h:l.Pairwise fun a b=>a.num≠b.num):Gh (CY IR l):=by
 have d:=zg (cf:=IR) (K9 Slt.num) l
 have f:(CY IR l).Pairwise fun a b=>a.num≠b.num:=(List.Perm.pairwise_iff (fun {a b} h e=>h e.symm) (PO l)).2 h
 refine(List.pairwise_and_iff.2 ⟨d,f⟩).imp fun {a b} c=>?_
 have:=c.1
 unfold IR BL at this
 have g:=c.2
 grind
theorem PV{R:ByteArray→Val→Val→Val}{F:List Fld}{a b:List Slt}{f:Fld}{z:Slt}(h:z∈C3 R F a b f):z.num=f.num:=by
 unfold C3 at h
 split at h
 ·rw[YW.1 h];rfl
 ·rw[YW.1 h];rfl
 ·split at h
  ·cases h
  ·rw[YW.1 h];rfl
 ·cases h
theorem ZBR(R:ByteArray→Val→Val→Val)(F:List Fld)(a b:List Slt)(f:Fld):Gh (C3 R F a b f):=by
 unfold C3 Gh
 split
 ·exact Ma _ _
 ·exact Ma _ _
 ·split
  ·exact .nil
  ·exact Ma _ _
 ·exact .nil
theorem Qj{R:ByteArray→Val→Val→Val}{F:List Fld}{a b:List Slt}:∀{l:List Fld},(l.Pairwise fun a b=>a.num<b.num)→Gh (B5 R F a b l)
 |[],_=>.nil
 |f::l,h=>by
  obtain⟨c,d⟩:=YX.1 h
  have i:=Qj (R:=R) (F:=F) (a:=a) (b:=b) d
  show(C3 R F a b f++B5 R F a b l).Pairwise _
  rw[Oy]
  refine⟨ZBR R F a b f,i,fun x hx y hy=>?_⟩
  obtain⟨g,e,hy⟩:=OP.1 hy
  rw[PV hx,PV hy]
  exact c g e
theorem oP{F:List Fld}(h:Df F F.length){b:List Slt}(p:b.Pairwise fun x y=>x.num≠y.num∧DD F x y){f:Fld}(q:f∈F){y:Slt}(hy:BC b f.num=some y):B6 F f b=false:=by
 unfold B6
 rw[L6]
 intro g r c
 simp only[Yb,YJ,Yy,YN,ZpL,YP]at c
 obtain⟨⟨⟨k,l⟩,m⟩,z,s⟩:=c
 obtain⟨t,i⟩:=Hy hy
 obtain⟨m2,j⟩:=Hy s
 have n:A4 F y.num=f:=by rw[i];exact congrArg Prod.fst (JH h q)
 have o:A4 F z.num=g:=by rw[j];exact congrArg Prod.fst (JH h r)
 have d:DD F z y:=(sU (R:=fun a b:Slt=>a.num≠b.num∧DD F a b) (fun h=>⟨fun e=>h.1 e.symm,h.2.symm⟩) p m2 t (fun e=>m (by rw[←j,e,i]))).2
 unfold DD at d
 rw[n,o]at d
 exact d ⟨l,k⟩
theorem ZEO{R:ByteArray→Val→Val→Val}{F:List Fld}(h:Df F F.length){a b:List Slt}(p:a.Pairwise fun x y=>x.num≠y.num)(o:b.Pairwise fun x y=>x.num≠y.num∧DD F x y)
  (u:∀x∈a,(Bz F x.num).2=true) (v:∀x∈b,(Bz F x.num).2=true):CY IR (Cd R F (a.filter fun x=>!B6 F (A4 F x.num) b) b)=B5 R F a b F:=by
 have DA:b.Pairwise fun x y=>x.num≠y.num:=o.imp fun s=>s.1
 have fl:∀k,(Bz F k).2=true→A4 F k∈F∧(A4 F k).num=k:=fun k q=>by
  rcases Wh F k with⟨c,_⟩|⟨_,c⟩
  ·rw[q]at c;cases c
  ·exact⟨c,M4 q⟩
 have n:∀f∈F,A4 F f.num=f:=fun f m=>congrArg Prod.fst (JH h m)
 refine Wq (Zwe (ZPB (p.filter _) DA)) (Qj (EF h)) fun z=>?_
 rw[(PO _).mem_iff,ZHB]
 unfold B5
 rw[OP]
 constructor
 ·rintro(⟨x,hx,rfl⟩|⟨d,t⟩)
  ·obtain⟨hx,r⟩:=Y9.1 hx
   rw[YJ]at r
   obtain⟨f1,f2⟩:=fl _ (u x hx)
   refine⟨A4 F x.num,f1,?_⟩
   unfold C3 Fv
   rw[f2,VW p hx]
   cases e:BC b x.num with
   |none=>rw[r];exact YW.2 rfl
   |some y=>exact YW.2 rfl
  ·obtain⟨f1,f2⟩:=fl _ (v z d)
   refine⟨A4 F z.num,f1,?_⟩
   have e:=VW DA d
   unfold C3
   rw[f2,e]
   cases i:BC a z.num with
   |none=>cases z;exact YW.2 rfl
   |some x=>
    exfalso
    obtain⟨j,g⟩:=Hy i
    refine t x (Y9.2 ⟨j,?_⟩) g
    rw[g,oP h o f1 (by rw[f2];exact e)]
    rfl
 ·rintro⟨f,m,d⟩
  unfold C3 at d
  split at d
  ·rename_i x y i l
   obtain⟨j,g⟩:=Hy i
   refine .inl ⟨x,Y9.2 ⟨j,?_⟩,?_⟩
   ·rw[g,n f m,oP h o m l]
    rfl
   ·rw[YW.1 d]
    unfold Fv
    rw[g,l,n f m]
    rfl
  ·rename_i y i l
   obtain⟨j,g⟩:=Hy l
   have e:z=y:=by
    rw[YW.1 d,←g]
    cases y
    rfl
   subst e
   exact .inr ⟨j,fun x hx=>by rw[g];exact Q1.1 i x ((Y9.1 hx).1)⟩
  ·rename_i x i l
   obtain⟨j,g⟩:=Hy i
   split at d
   ·cases d
   ·rename_i c
    refine .inl ⟨x,Y9.2 ⟨j,?_⟩,?_⟩
    ·rw[g,n f m,YJ,ao]
     exact c
    ·rw[YW.1 d]
     unfold Fv
     rw[g,l]
     rfl
  ·cases d
theorem ZwQ(l:List Raw)(y x:Raw):∀k:Nat,k≤l.length→Er (l++[y]) x k=Er l x k
 |0,_=>rfl
 |k+1,h=>by
  rw[Er,Er,ZwQ l y x k (by omega),Yg,Yg,Yp (by omega)]
theorem Zoq(x:Raw):∀(n:Nat) (out:List Raw),out.length=n→insR out x=Go.Eng.insR Di out x
 |0,out,h=>by
  rw[ru.1 h]
  rfl
 |n+1,out,h=>by
  have d:out≠[]:=fun e=>by rw[e]at h;cases h
  obtain⟨l,y,rfl⟩:∃l y,out=l++[y]:=⟨_,_,(aI d).symm⟩
  have hl:l.length=n:=by rw[Yt]at h;simpa using h
  have j:=Zoq x n l hl
  unfold insR Go.Eng.insR at*
  have e0:(l++[y]).length=l.length+1:=by simp
  have g:(l++[y]).getD l.length Rw.z=y:=by simp
  rw[e0,Er,g,ZwQ l y x l.length (Yf _),Td]
  show _=(List.dropWhile _ (y::l.reverse)).reverse++x::(List.takeWhile _ (y::l.reverse)).reverse
  have f:Di x y<0↔x.num<y.num:=by unfold Di BL;grind
  rw[List.dropWhile_cons,List.takeWhile_cons]
  by_cases c:x.num<y.num
  ·have a:=n6 l x l.length
   have b:decide (Di x y<0)=true:=Yn (f.2 c)
   rw[Ym c,b,Ym rfl,Ym rfl,SZ a,aH a,List.reverse_cons,←Y7,j]
   simp
  ·have b:¬decide (Di x y<0)=true:=by rw[Yy,f];exact c
   have i:(l++[y]).take (l.length+1)=l++[y]:=Kg (by simp)
   rw[Yk c,Yk b,Yk b,i]
   simp
theorem V8(l:List Raw):B8 l=CY Di l:=by
 have:insR=Go.Eng.insR Di:=funext fun out=>funext fun x=>Zoq x _ out rfl
 unfold B8 CY
 rw[this]
end Go.Proofs.YtjbijbkdiijhaaaGreat
namespace Go.Proofs.YtjbijbkdiijhaaaGreat
set_option linter.all false
open Go Go.Eng
theorem ZzC(l:List Pr)(h:l.length<549755813888):Vn l=some l:=by
 cases l with
 |nil=>rfl
 |cons x r=>
  dsimp only[Vn,eO,al,br,vw,lr,a0,mv,br]
  simp only[FC]at h
  simp
  omega
theorem se{a b:Val}(s:1≤a.kind∧a.kind≤9)(j:A3 a)(l:A3 b):VC a b=some (B9 a b):=by
 obtain⟨n,q,f,u⟩:=Qa j
 obtain⟨k,p,e,t⟩:=Qa l
 have r:(decide (1≤a.kind)&&decide (a.kind≤9))=true:=by simp[s]
 unfold B9
 by_cases he:a.kind=b.kind
 ·have i:(decide (1≤b.kind)&&decide (b.kind≤9))=true:=by rw[←he];exact r
  dsimp only[VC,Zv,br,wg,lr,cl,br,y2,pr,wg,lr,cl,bT,zu,me,lr,za,nW,br,vz,wg,lr,cl,br,y4,o9,lr]
  simp only[he,Yr,Y6,Yo,YR,i,Yv,Yc,ne_eq,OJ]
  rw[←he]
  by_cases h:a.kind=7∨a.kind=8
  ·have d:(decide (a.kind=7)||decide (a.kind=8))=true:=by simpa using h
   rw[Ym h]
   simp only[d,Yv,ZUU,Yc]
  ·have d:(decide (a.kind=7)||decide (a.kind=8))=false:=by simpa using h
   rw[Yk h]
   simp only[d,Yo,YR]
   by_cases hs:a.kind=2∨a.kind=3
   ·have c:(decide (a.kind=2)||decide (a.kind=3))=true:=by simpa using hs
    have g:∀m:Nat,m<18446744073709551616→IntKind.i64.wrap (m:Int)=IntKind.u64.wrap ((m:Int)+9223372036854775808)-9223372036854775808:=fun m hm=>by
     rw[IntKind.wrap_i64]
     unfold IntKind.wrap
     simp only[show IntKind.u64.bits=64 from rfl,show IntKind.u64.signed=false from rfl,EA,Yo,YR]
     omega
    simp only[c,hs,Yv,Va,Yc]
    rw[q,p,g n f,g k e]
    unfold BL
    simp only[Int.sub_lt_sub_right_iff]
   ·have c:(decide (a.kind=2)||decide (a.kind=3))=false:=by simpa using hs
    by_cases o:a.kind=6
    ·simp only[c,hs,Yo,YR]
     simp only[o,Yv,Yr,q,p,yc f,yc e,yQ,Yc,Y0]
    ·simp only[c,hs,o,Yo,YR,YV,yQ,Yc]
 ·dsimp only[VC,Zv,br,wg,lr,cl,br]
  simp only[he,YV,CU,Yv,Va,Yc,ne_eq,L5]
theorem ZSD{a b:Val}(e:1≤a.kind∧a.kind≤9)(c:A3 a)(d:A3 b):jZ a b=some (decide (B9 a b=0)):=by
 dsimp only[jZ,bz,wg,lr,cl]
 rw[se e c d]
 rfl
def GV(l:List Pr):Nat→List Pr
 |0=>[]
 |i+1=>if i+1<l.length∧Bi (l.getD i Rw.z) (l.getD (i+1) Rw.z)=0 then GV l i else GV l i++[l.getD i Rw.z]
theorem ZuL(l:List Pr):∀i:Nat,(GV l i).length≤i
 |0=>Yf _
 |i+1=>by
  have:=ZuL l i
  rw[GV]
  split
  ·omega
  ·rw[Yt,I3]
   omega
theorem Zmv(l:List Pr):∀i:Nat,i≤l.length→EO l=GV l i++EO (l.drop i)
 |0,_=>rfl
 |i+1,h=>by
  have hi:i<l.length:=h
  have e0:l.getD i Rw.z=l[i]:=by rw[Yg,Ye hi];rfl
  rw[Zmv l i (by omega),HQ hi,GV,e0]
  by_cases c:i+1<l.length
  ·have b:l.getD (i+1) Rw.z=l[i+1]:=by rw[Yg,Ye c];rfl
   rw[HQ c,EO,b]
   by_cases a:Bi l[i] l[i+1]=0
   ·rw[Ym a,Ym ⟨c,a⟩]
   ·rw[Yk a,Yk fun h=>a h.2,Y7]
    rfl
  ·rw[Yk fun h=>c h.1,List.drop_eq_nil_of_le (by omega)]
   simp[EO]
theorem ZzF(l:List Pr)(hl:l.length≤4194304)(j:∀p∈l,(1≤p.key.kind∧p.key.kind≤9)∧A3 p.key):j5 l=some (C4 l):=by
 have C:=ZzC l (by omega)
 have t:FH l (fun z0 s=>MN z0 s)=some (CY Bi l):=by
  have h:=qh (pf:=fun z0 s=>MN z0 s) (cmp:=Bi) n8 l (fun x hx y hy=>by
   dsimp only[MN,ft,wg,lr,cl]
   rw[se (j x hx).1 (j x hx).2 (j y hy).2]
   rfl) hl
  rw[kl FN l]at h
  exact h
 have u:=kj (cf:=Bi) l
 have a:∀p∈CY Bi l,(1≤p.key.kind∧p.key.kind≤9)∧A3 p.key:=fun p d=>j p ((PO l).mem_iff.1 d)
 have v:=Zmv (CY Bi l) (CY Bi l).length (Yf _)
 rw[S6,Zqr,show EO []=[]from rfl,G4]at v
 rw[v]
 generalize CY Bi l=m at t u a
 have r:=FL (B:=Nw m) (N:=Al) (ρ:=List Pr) m (fun p=>GV m p.length) (fun i b=>(b,i)) id (fun i p d=>by
  have w:=BS d
  have hi:=(Ya.1 d).1
  have g:i+1<9223372036854775808:=by omega
  have A:(m.take i).length=i:=by rw[YD];omega
  have o:(m.take i++[p]).length=i+1:=by rw[Yt,A];rfl
  have F:m.getD i Rw.z=p:=by rw[Yg,d];rfl
  have a1:=ZuL m i
  have z:((i+1:Nat):Int)=m.length↔i+1=m.length:=by omega
  rw[A,o,GV,F]
  have k:(GV m i).length<549755813887:=by omega
  generalize GV m i=out at k⊢
  dsimp only[Nw,Ty,br,vz,vw,wg,vs,vg,ln,Ai,ap,AP,wa,ir,ca,fl,BH,br]
  by_cases c:i+1=m.length
  ·have e:¬i+1<m.length:=by omega
   simp only[w,g,z,c,e,d,k,hi,Yr,Y6,OH,Yo,Yc,OE,Yv,YR,OT]
   have E:m.length<9223372036854775808:=by omega
   simp[E]
  ·have e:i+1<m.length:=by omega
   have hm:m.getD (i+1) Rw.z∈m:=by rw[Yg,Ye e];exact Gn e
   have D:=ZSD (a p (Yi d)).1 (a p (Yi d)).2 (a _ hm).2
   simp only[w,g,z,c,e,d,D,hi,Yr,YV,CU,Kk,Yc,Gs,YU,forall_const,Yv,HT]
   generalize m.getD (i+1) Rw.z=q
   by_cases f:Bi p q=0
   ·have n:B9 p.key q.key=0:=f
    simp[f,n,g]
   ·have n:¬B9 p.key q.key=0:=f
    simp[f,n,g,k]) (by dsimp only[Nw,Ty,br,vz,vw,wg,vs,vg,ln,Ai,ap,AP,wa,ir,ca,fl,BH,br];simp) (A2 (by omega))
 have r:Am (Nw m) Al ([],0)=some (.inl (GV m m.length)):=r
 dsimp only[j5,nS,bH,gc,cg,dA,fS,eM,ct,fP,vz,vw,lr,lc,rn,fl,fr,BH]
 rw[C,Yc,t,Yc,Ym u.symm,r]
 rfl
theorem ZGO(a b:List Raw)(f:a.length≤1048576)(g:b.length≤1048576):ko a b=some (B8 (a++b)):=by
 have c:=ZL1 a b f g
 have d:=ZHr (a++b) (by rw[Yt];omega)
 rw[V8]
 have e:=kj (cf:=Di) (a++b)
 dsimp only[ko,eT,fW,dK,bW,bn,eK,vz,vw,lr,lc,rn,fl,fr]
 rw[c,Yc,d,Yc,Ym e.symm]
theorem ZH2{s:Scm}(R:Scm→ByteArray→Val→Val→Option Val)(d:Nat)(m:∀d':Nat,d=d'+1→aa s R d')(f:Fld)(x y:Val)(l:GdF s f)(hx:A3 x)(hy:A3 y)(h:BV (Ba s true d) s true f x=0)(i:BV (Ba s true d) s true f y=0):VG R s f x y=some (Cu (A7 s d) f x y):=by
 have j:=DB hx
 have k:=DB hy
 unfold Cu
 dsimp only[VG,oS,pW,cE,ga,bL,cL,gE,gu,ek,cq,dv,br,vz,vw,wg,lr,lc,cl,cs,fl,fz,fr,br]
 by_cases b:f.card=4
 ·rw[Ym (Yn b),ZMo _ _ j.l k.l,Ym b]
  rfl
 ·rw[Yk (by simp[b]),Yk b]
  by_cases a:f.card=5
  ·have t:=j.p
   have r:=k.p
   have e:=ZzF (x.pairs++y.pairs) (by rw[Yt];omega) fun p g=>by
    rcases DS.1 g with g|g
    ·exact ZoR l hx a h p g
    ·exact ZoR l hy a i p g
   rw[Ym (Yn a),ZOu _ _ j.p k.p,Yc,e,Ym a]
   rfl
  ·rw[Yk (by simp[a]),Yk a]
   by_cases c:f.type.kind=10
   ·unfold BV at h i
    rw[Yk b,Yk a]at h i
    obtain⟨d',e,n⟩:=K6 c h
    obtain⟨d2,q,o⟩:=K6 c i
    have:d2=d':=by omega
    subst this
    subst e
    rw[Ym (Yn c),Ym c,m d2 rfl f.type.name x y hx hy n.w o.w]
    rfl
   ·rw[Yk (by simp[c]),Yk c]
theorem ZJJ(l:List Slt)(k:Int)(h:l.length<4611686018427387904):Vy l k=some (C5 l fun x=>decide (x.num=k)):=by
 dsimp only[Vy,l8,lr,cs]
 rw[wW l (fun z0=>Vv z0 k) (fun x=>decide (x.num=k)) (fun x _=>rfl) h]
 rfl
theorem ZLM{s:Scm}(hs:Ar (Au s)≤1048576)(g:GdS s)(R:Scm→ByteArray→Val→Val→Option Val)(d:Nat)(hR:∀d':Nat,d=d'+1→aa s R d')(n:ByteArray)(a b:Val)(E:A3 a)(G:A3 b)(w:OkW s true d (AZ s n).1 a)(f:OkW s true d (AZ s n).1 b):UX R s n a b=some (A7 s (d+1) n a b):=by
 have M:=DB E
 have O:=DB G
 have P:Vo s n=some (AZ s n):=n61 s n (Gk hs).ml
 have t:=g.asc n
 have hl:(AD s n).length≤1048576:=Qd (Gk hs) n
 have s1:=M.s
 have s2:=O.s
 have o:=ZTc (AZ s n).1 a.slots b hl s1 (by omega)
 have Q:=ZGO a.raws b.raws M.r O.r
 rw[show(AZ s n).1.fields=AD s n from rfl]at o
 have pa:a.slots.Pairwise fun x y=>x.num≠y.num:=w.pw.imp fun h=>h.1
 have pb:b.slots.Pairwise fun x y=>x.num≠y.num:=f.pw.imp fun h=>h.1
 have S:=ZEO (R:=A7 s d) t pa f.pw (fun x hx=>(w.sl x hx).1) (fun x hx=>(f.sl x hx).1)
 have D:∀x∈a.slots.filter (fun x=>!B6 (AD s n) (A4 (AD s n) x.num) b.slots),x∈a.slots:=fun x hx=>(Y9.1 hx).1
 have lA:=Mb (fun x=>!B6 (AD s n) (A4 (AD s n) x.num) b.slots) a.slots
 have L:(a.slots.filter fun x=>!B6 (AD s n) (A4 (AD s n) x.num) b.slots).Pairwise fun x y=>x.num≠y.num:=pa.filter _
 rw[A7,←S]
 generalize (a.slots.filter fun x=>!B6 (AD s n) (A4 (AD s n) x.num) b.slots)=A at o D lA L⊢
 have fl:∀k,(Bz (AD s n) k).2=true→A4 (AD s n) k∈AD s n:=fun k H=>by
  rcases Wh (AD s n) k with⟨c,_⟩|⟨_,c⟩
  ·rw[H]at c;cases c
  ·exact c
 have z:=FL (B:=Ns s a b R (AZ s n)) (N:=Al) (ρ:=Val) b.slots (fun p=>Cd (A7 s d) (AD s n) A p) (fun i b=>(b,i)) id (fun i y hy=>by
  have X:=BS hy
  have hi:=(Ya.1 hy).1
  have C:i+1<9223372036854775808:=by omega
  have hm:=Yi hy
  have T:=n43 (AZ s n).1 y.num hl
  have I:∀x∈b.slots.take i,x.num≠y.num:=fun x hx=>by
   obtain⟨j,v⟩:=YG.1 hx
   have e:j<i:=by have:=(Ya.1 v).1;rw[YD]at this;omega
   rw[Y2,Ym e]at v
   obtain⟨j1,j2⟩:=Ya.1 v
   obtain⟨i1,i2⟩:=Ya.1 hy
   rw[←j2,←i2]
   exact(G8.1 pb) j i j1 i1 e
  have l1:=Zwq (A7 s d) (AD s n) A (b.slots.take i)
  rw[YD]at l1
  have l2:(Cd (A7 s d) (AD s n) A (b.slots.take i)).length<549755813887:=by omega
  have U:=ZJJ (Cd (A7 s d) (AD s n) A (b.slots.take i)) y.num (by omega)
  dsimp only[Ns,Ua,D5,br,ix,vz,vw,wg,vs,ln,Ai,ap,cl,cs,wa,AI,cp,rn,fl,br,AI]
  simp only[X,hy,Yr,Yv,Yc,T,U]
  cases r:A.findIdx? fun x=>decide (x.num=y.num)with
  |none=>
   obtain⟨t1,t2⟩:=ZGI (R:=A7 s d) (F:=AD s n) I r
   have q:C5 (Cd (A7 s d) (AD s n) A (b.slots.take i)) (fun x=>decide (x.num=y.num))= -1:=by unfold C5;rw[t1]
   rw[q,t2]
   simp[l2,C]
  |some k=>
   obtain⟨x,t1,t2,t3,t4⟩:=ZJg (R:=A7 s d) (F:=AD s n) L I r
   have t0:=ZMk (R:=A7 s d) (F:=AD s n) (p:=b.slots.take i) r
   have q:C5 (Cd (A7 s d) (AD s n) A (b.slots.take i)) (fun x=>decide (x.num=y.num))=(k:Int):=by unfold C5;rw[t0]
   have hx:x∈a.slots:=D x (Yi t1)
   have J:=w.sl x hx
   have K:=f.sl y hm
   rw[t3]at J
   have u:=fl _ K.1
   have V:=ZH2 R d hR (A4 (AD s n) y.num) x.val y.val (g.fl n _ u) (J2 E hx) (J2 G hm) J.2 K.2
   have H:=(Ya.1 t2).1
   have W:(Bz (AZ s n).1.fields y.num).1=A4 (AD s n) y.num:=rfl
   have Y:(0:Int)≤(k:Int):=by omega
   have Z:(k:Int)<((Cd (A7 s d) (AD s n) A (b.slots.take i)).length:Int):=by omega
   rw[q,t4,W]
   simp only[Y,Z,t2,V,Yr,Yv,Yc,Y0,Cw,OQ,EZ]
   simp[C]) (by dsimp only[Ns,Ua,D5,br,ix,vz,vw,wg,vs,ln,Ai,ap,cl,cs,wa,AI,cp,rn,fl,br,AI];simp) (A2 (by omega))
 have z:Am (Ns s a b R (AZ s n)) Al (A,0)=some (.inl (Cd (A7 s d) (AD s n) A b.slots)):=by
  have:=z
  rw[ZHP]at this
  exact this
 have l3:=Zwq (A7 s d) (AD s n) A b.slots
 have l:=ZKV (Cd (A7 s d) (AD s n) A b.slots) (by omega)
 have m:=kj (cf:=IR) (Cd (A7 s d) (AD s n) A b.slots)
 have w1:a.slots.length≤549755813888:=by omega
 dsimp only[UX,dy,bv,dT,bg,fp,bp,cP,vz,wg,lr,lc,cl,rn,msr,cpr,fl,fr,An]
 rw[P,Yc,Ym w1,Ym ⟨Yf _,rfl⟩,o,Yc,z]
 simp only[Yc,CV,l,m,Q,Yv]
theorem yy{s:Scm}(hs:Ar (Au s)≤1048576)(g:GdS s):∀c d:Nat,d<c→aa s (MQ c) d
 |0,d,h=>by omega
 |c+1,d,h=>fun n a b f i j k=>ZLM hs g (MQ c) d (fun d' e=>yy hs g c d' (by omega)) n a b f i j k
theorem M5{s:Scm}(hs:Ar (Au s)≤1048576)(g:GdS s)(n:ByteArray)(a b:Val)(c:A3 a)(d:A3 b)(e:OkW s true 15 (AZ s n).1 a)(f:OkW s true 15 (AZ s n).1 b):MQ Al s n a b=some (A7 s 16 n a b):=yy hs g Al 15 (A2 (by omega)) n a b c d e f
def wO(o:Option Slt):Nat:=o.elim 0 fun x=>Ar (Aq x)+1
theorem kX(x:Slt)(l:List Slt)(k:Int):BC (x::l) k=if x.num=k then some x else BC l k:=by
 unfold BC
 rw[List.find?_cons]
 by_cases h:x.num=k<;>simp[h]
theorem Zwm(x:Slt)(l:List Slt):∀{F:List Fld},(F.Pairwise fun a b=>a.num<b.num)→(F.map fun f=>wO (BC (x::l) f.num)).sum≤Ar (Aq x)+1+(F.map fun f=>wO (BC l f.num)).sum
 |[],_=>CK _
 |f::F,h=>by
  obtain⟨d,i⟩:=YX.1 h
  have k:=Zwm x l i
  simp only[YY,List.sum_cons]
  rw[kX]
  by_cases c:x.num=f.num
  ·have e:(F.map fun f=>wO (BC (x::l) f.num))=F.map fun f=>wO (BC l f.num):=Eb fun g j=>by
    have:=d g j
    rw[kX,Yk (by omega)]
   rw[Ym c,e]
   show Ar (Aq x)+1+_≤_
   omega
  ·rw[Yk c]
   omega
theorem lC{F:List Fld}(h:F.Pairwise fun a b=>a.num<b.num):∀l:List Slt,(F.map fun f=>wO (BC l f.num)).sum≤AU (l.map Aq)
 |[]=>by
  have e:(F.map fun f=>wO (BC [] f.num))=F.map fun _=>0:=rfl
  rw[e]
  clear h e
  induction F with
  |nil=>exact Yf _
  |cons f F c=>simpa using c
 |x::l=>by
  have d:=Zwm x l h
  have g:=lC h l
  rw[YY,AU]
  omega
theorem ZKr{R:ByteArray→Val→Val→Val}(d:∀n x y,Ar (Ag (R n x y))≤Ar (Ag x)+Ar (Ag y))(f:Fld)(x y:Val):Ar (Ag (Cu R f x y))≤Ar (Ag x)+Ar (Ag y):=by
 have b:rk .u64 0=0:=by decide
 have e:(⟨#[]⟩:ByteArray).size=0:=rfl
 unfold Cu
 split
 ·have a:rk .i64 11=0:=by decide
  rw[LF,F3 x,F3 y,DT,GA]
  simp only[a,b,D9,AU]
  omega
 ·split
  ·have a:rk .i64 12=0:=by decide
   have c:=mw (x.pairs++y.pairs) (x.pairs++y.pairs).length
   rw[L7,DT,GA]at c
   rw[LF,F3 x,F3 y]
   simp only[a,b,D9,AU,C4]
   omega
  ·split
   ·exact d _ _ _
   ·omega
theorem ZLa{R:ByteArray→Val→Val→Val}(e:∀n x y,Ar (Ag (R n x y))≤Ar (Ag x)+Ar (Ag y))(F:List Fld)(a b:List Slt)(f:Fld):AU ((C3 R F a b f).map Aq)≤wO (BC a f.num)+wO (BC b f.num):=by
 have s:∀(k:Int) (v:Val),AU (([Slt.mk k v]:List Slt).map Aq)=rk .i64 k+Ar (Ag v)+1:=fun k v=>by
  rw[YY,D9,AU,U7]
  rfl
 have w:∀(l:List Slt) (x:Slt),BC l f.num=some x→wO (BC l f.num)=rk .i64 f.num+Ar (Ag x.val)+1:=fun l x h=>by
  rw[h,←(Hy h).2,←U7]
  rfl
 unfold C3
 split
 ·rename_i x y c d
  have:=ZKr e f x.val y.val
  rw[s,w a x c,w b y d]
  omega
 ·rename_i y c d
  rw[s,w b y d]
  omega
 ·rename_i x c d
  split
  ·exact CK _
  ·rw[s,w a x c]
   omega
 ·exact CK _
theorem tK{R:ByteArray→Val→Val→Val}(c:∀n x y,Ar (Ag (R n x y))≤Ar (Ag x)+Ar (Ag y))(F:List Fld)(a b:List Slt):∀l:List Fld,AU ((B5 R F a b l).map Aq)≤(l.map fun f=>wO (BC a f.num)).sum+(l.map fun f=>wO (BC b f.num)).sum
 |[]=>CK _
 |f::l=>by
  have d:=tK c F a b l
  have h:=ZLa c F a b f
  show AU ((C3 R F a b f++B5 R F a b l).map Aq)≤_
  rw[DT,GA]
  simp only[YY,List.sum_cons]
  omega
theorem Xa{s:Scm}(h:∀n:ByteArray,Df (AD s n) (AD s n).length):∀(d:Nat) (n:ByteArray) (a b:Val),Ar (Ag (A7 s d n a b))≤Ar (Ag a)+Ar (Ag b)
 |0,n,a,b=>OL _ _
 |d+1,n,a,b=>by
  have e:rk .i64 10=0:=by decide
  have f:rk .u64 0=0:=by decide
  have g:=tK (fun n x y=>Xa h d n x y) (AD s n) a.slots b.slots (AD s n)
  have i:=lC (EF (h n)) a.slots
  have j:=lC (EF (h n)) b.slots
  have c:=pB (a.raws++b.raws) []
  rw[DT,GA]at c
  rw[A7,LF,F3 a,F3 b,B8]
  simp only[e,f,c,D9,AU]
  have:(⟨#[]⟩:ByteArray).size=0:=rfl
  omega
def vO(l:List Slt)(k:Int):Option Val:=(BC l k).map Slt.val
theorem Wc(l:List Slt)(k:Int):B7 l k=(vO l k).isSome:=by
 rw[ZpL,vO,Option.isSome_map]
def mo(R:ByteArray→Val→Val→Val)(f:Fld)(A B:Option Val)(r:Bool):Option Val:=
 match A,B with
 |some x,some y=>some (Cu R f x y)
 |none,some y=>some y
 |some x,none=>if r=true then none else some x
 |none,none=>none
theorem Qr(R:ByteArray→Val→Val→Val)(F:List Fld)(a b:List Slt)(f:Fld):C3 R F a b f=((mo R f (vO a f.num) (vO b f.num) (B6 F f b)).map (Slt.mk f.num)).toList:=by
 unfold C3 vO mo
 cases BC a f.num with
 |none=>cases BC b f.num<;>rfl
 |some x=>
  cases BC b f.num with
  |some y=>rfl
  |none=>
   show(if B6 F f b=true then[]else[Slt.mk f.num x.val])=((if B6 F f b=true then none else some x.val).map (Slt.mk f.num)).toList
   split<;>rfl
theorem LB{R:ByteArray→Val→Val→Val}{F:List Fld}{a b:List Slt}:∀{l:List Fld},(l.Pairwise fun a b=>a.num<b.num)→∀f∈l,vO (B5 R F a b l) f.num=mo R f (vO a f.num) (vO b f.num) (B6 F f b)
 |g::l,h,f,c=>by
  obtain⟨d,j⟩:=YX.1 h
  have e0:vO (B5 R F a b (g::l)) f.num=(vO (C3 R F a b g) f.num).or (vO (B5 R F a b l) f.num):=by
   show vO (C3 R F a b g++B5 R F a b l) f.num=_
   unfold vO BC
   rw[S4]
   cases List.find? (fun x:Slt=>decide (x.num=f.num)) (C3 R F a b g)<;>rfl
  rw[e0]
  rcases Yx.1 c with rfl|c
  ·have i:vO (B5 R F a b l) f.num=none:=by
    unfold vO
    rw[Q1.2 fun x hx=>by
     obtain⟨k,m,hx⟩:=OP.1 hx
     rw[PV hx]
     have:=d k m
     omega]
    rfl
   rw[i,Qr]
   cases mo R f (vO a f.num) (vO b f.num) (B6 F f b)with
   |none=>rfl
   |some v=>
    show(vO [Slt.mk f.num v] f.num).or none=some v
    unfold vO
    rw[kX,Ym (show(Slt.mk f.num v).num=f.num from rfl)]
    rfl
  ·have e:vO (C3 R F a b g) f.num=none:=by
    unfold vO
    rw[Q1.2 fun x hx=>by
     rw[PV hx]
     have:=d f c
     omega]
    rfl
   rw[e,LB j f c]
   rfl
theorem Ql{R:ByteArray→Val→Val→Val}{F:List Fld}{a b:List Slt}{l:List Fld}{z:Slt}:z∈B5 R F a b l↔∃f∈l,z.num=f.num∧mo R f (vO a f.num) (vO b f.num) (B6 F f b)=some z.val:=by
 unfold B5
 rw[OP]
 constructor
 ·rintro⟨f,d,e⟩
  refine⟨f,d,PV e,?_⟩
  rw[Qr,Option.mem_toList,G9]at e
  obtain⟨v,c,rfl⟩:=e
  exact c
 ·rintro⟨f,d,c,g⟩
  refine⟨f,d,?_⟩
  rw[Qr,g,Option.mem_toList,YZ,←c]
  cases z
  rfl
theorem Qu{l:List Slt}{k:Int}{v:Val}(h:vO l k=some v):∃x∈l,x.num=k∧x.val=v:=by
 unfold vO at h
 obtain⟨x,a,b⟩:=G9.1 h
 exact⟨x,(Hy a).1,(Hy a).2,b⟩
theorem Ia{F:List Fld}{f g:Fld}{b:List Slt}(e:g∈F)(a:g.union=f.union)(c:f.union≠⟨#[]⟩)(d:g.num≠f.num)(h:(vO b g.num).isSome=true):B6 F f b=true:=by
 unfold B6
 rw[YL]
 refine⟨g,e,?_⟩
 simp[a,c,d,Wc,h]
theorem Q7{F:List Fld}{f:Fld}{b:List Slt}(h:B6 F f b=true):∃g∈F,g.union=f.union∧f.union≠⟨#[]⟩∧g.num≠f.num∧(vO b g.num).isSome=true:=by
 unfold B6 at h
 obtain⟨g,a,c⟩:=YL.1 h
 simp only[Yb,YJ,Yy,YN,Wc]at c
 exact⟨g,a,c.1.1.2,c.1.1.1,c.1.2,c.2⟩
theorem Zw6{F:List Fld}(h:Df F F.length){b:List Slt}(c:b.Pairwise fun x y=>x.num≠y.num∧DD F x y){f:Fld}(d:f∈F){v:Val}(hy:vO b f.num=some v):B6 F f b=false:=by
 unfold vO at hy
 obtain⟨x,a,_⟩:=G9.1 hy
 exact oP h c d a
theorem ZIO{k:Int}{q p:Pr}(a:q.key.kind=k)(b:p.key.kind=k)(h:IK q.key p.key=true):¬Bi q p<0:=by
 intro c
 unfold IK at h
 rw[Yb,Yy,Yy]at h
 have c:B9 q.key p.key<0:=c
 unfold B9 at c
 rw[h.1,h.2,a.trans b.symm]at c
 exact Wp.ir p.key c
theorem oe{k:Int}{l:List Val}{p:List Pr}{sl:List Slt}{r:List Raw}(hl:k=11∨l=[])(f:k=12∨p=[])(hs:k=10∨(sl=[]∧r=[])):Cq (.mk k 0 ⟨#[]⟩ l p sl r)=false:=by
 unfold Cq
 refine Yq ?_
 rintro(⟨a,b⟩|⟨a,b⟩|⟨a,b⟩|⟨a,_⟩|⟨a,_⟩)
 ·rcases hl with e|e
  ·exact a e
  ·subst e;exact absurd b (OB 0)
 ·rcases f with e|e
  ·exact a e
  ·subst e;exact absurd b (OB 0)
 ·rcases hs with e|⟨c,d⟩
  ·exact a e
  ·subst c;subst d;exact b.elim (OB 0) (OB 0)
 ·exact a rfl
 ·exact a rfl
theorem ZAP{s:Scm}{d:Nat}{R:ByteArray→Val→Val→Val}(u:∀d':Nat,d=d'+1→∀(n:ByteArray) (x y:Val),OkM s true d' (AZ s n).1 x→OkM s true d' (AZ s n).1 y→OkM s true d' (AZ s n).1 (R n x y)){f:Fld}(w:GdF s f){x y:Val}(m:BV (Ba s true d) s true f x=0)(b:BV (Ba s true d) s true f y=0):BV (Ba s true d) s true f (Cu R f x y)=0:=by
 unfold Cu
 by_cases a:f.card=4
 ·unfold BV at*
  rw[Ym a]at m b
  rw[Ym a,Ym a]
  have k:∀v:Val,(if v.kind≠11∨Cq v=true then(12:Int)else Cb (fun _ x=>CN (Ba s true d) s f.type x) v.list 0)=0→∀z∈v.list,CN (Ba s true d) s f.type z=0:=fun v h=>by
   split at h
   ·cases h
   ·exact(K3 _ _).1 h
  rw[Yk (by
   rintro(h|h)
   ·exact h rfl
   ·rw[oe (.inl rfl) (.inr rfl) (.inr ⟨rfl,rfl⟩)]at h
    cases h)]
  exact(K3 _ _).2 fun z C=>(DS.1 C).elim (k x m z) (k y b z)
 ·by_cases l:f.card=5
  ·unfold BV at*
   rw[Yk a,Ym l]at m b
   rw[Yk a,Yk a,Ym l,Ym l]
   have k:∀v:Val,(if v.kind≠12∨Cq v=true then(12:Int)else Cb (Ko (CN (Ba s true d) s f.type) f.key true v.pairs) v.pairs 0)=0→∀p∈v.pairs,DZ f.key p.key=0∧CN (Ba s true d) s f.type p.val=0:=fun v h p g=>by
    split at h
    ·cases h
    ·rw[Lw]at h
     obtain⟨j,A⟩:=YG.1 g
     have:=h j p A
     rw[TX]at this
     exact⟨this.1,this.2.2⟩
   have r:∀p∈x.pairs++y.pairs,DZ f.key p.key=0∧CN (Ba s true d) s f.type p.val=0:=fun p g=>(DS.1 g).elim (k x m p) (k y b p)
   rw[Yk (by
    rintro(h|h)
    ·exact h rfl
    ·rw[oe (.inr rfl) (.inl rfl) (.inr ⟨rfl,rfl⟩)]at h
     cases h),Lw]
   intro j p g
   have hm:=JA (Yi g)
   rw[YO,TX]
   refine⟨(r p hm).1,?_,(r p hm).2⟩
   rintro⟨_,c⟩
   obtain⟨q,B,e⟩:=YL.1 c
   obtain⟨i,hi⟩:=YG.1 B
   have o:i<j:=by have:=(Ya.1 hi).1;rw[YD]at this;omega
   rw[Y2,Ym o]at hi
   have t:=JA (Yi hi)
   refine ZIO (Un (r q t).1).1 (Un (r p hm).1).1 e ?_
   obtain⟨D,E⟩:=Ya.1 hi
   obtain⟨F,G⟩:=Ya.1 g
   rw[←E,←G]
   exact G8.1 (PX (x.pairs++y.pairs)) i j D F o
  ·rw[Yk a,Yk l]
   by_cases c:f.type.kind=10
   ·rw[Ym c]
    unfold BV at*
    rw[Yk a,Yk l]at*
    obtain⟨d',e,H⟩:=K6 c m
    obtain⟨d2,J,I⟩:=K6 c b
    have:d2=d':=by omega
    subst this
    subst e
    unfold CN
    rw[Ym c,Ym (w.ms c)]
    exact W8.2 (u d2 rfl f.type.name x y H I)
   ·rw[Yk c]
    exact b
theorem M6{R:ByteArray→Val→Val→Val}{f:Fld}{A B:Option Val}{r:Bool}{v:Val}(h:mo R f A B r=some v):(∃x y,A=some x∧B=some y∧v=Cu R f x y)∨(A=none∧B=some v)∨(A=some v∧B=none∧r=false):=by
 unfold mo at h
 cases A with
 |none=>
  cases B with
  |none=>cases h
  |some y=>cases h;exact .inr (.inl ⟨rfl,rfl⟩)
 |some x=>
  cases B with
  |none=>
   cases r with
   |true=>cases h
   |false=>cases h;exact .inr (.inr ⟨rfl,rfl,rfl⟩)
  |some y=>cases h;exact .inl ⟨x,y,rfl,rfl,rfl⟩
theorem Zuo{s:Scm}(g:GdS s){d:Nat}{R:ByteArray→Val→Val→Val}(K:∀d':Nat,d=d'+1→∀(n:ByteArray) (x y:Val),OkM s true d' (AZ s n).1 x→OkM s true d' (AZ s n).1 y→OkM s true d' (AZ s n).1 (R n x y)){n:ByteArray}{a b v:Val}(E:OkW s true d (AZ s n).1 a)(F:OkW s true d (AZ s n).1 b)(C:v.slots=B5 R (AD s n) a.slots b.slots (AD s n)):OkW s true d (AZ s n).1 v:=by
 have j:=g.asc n
 have o:∀f∈AD s n,Bz (AD s n) f.num=(f,true):=fun f q=>JH j q
 have pa:=E.pw
 have pb:=F.pw
 rw[show(AZ s n).1.fields=AD s n from rfl]at pa pb
 have G:∀f∈AD s n,∀x,vO a.slots f.num=some x→BV (Ba s true d) s true f x=0:=fun f q x hx=>by
  obtain⟨z,c,i,p⟩:=Qu hx
  have:=(E.sl z c).2
  rw[i,show A4 (AZ s n).1.fields f.num=f from congrArg Prod.fst (o f q),p]at this
  exact this
 have H:∀f∈AD s n,∀x,vO b.slots f.num=some x→BV (Ba s true d) s true f x=0:=fun f q x hx=>by
  obtain⟨z,c,i,p⟩:=Qu hx
  have:=(F.sl z c).2
  rw[i,show A4 (AZ s n).1.fields f.num=f from congrArg Prod.fst (o f q),p]at this
  exact this
 constructor
 ·rw[C,show(AZ s n).1.fields=AD s n from rfl]
  refine List.Pairwise.imp_of_mem ?_ (Qj (EF j))
  intro V W M m2 L
  obtain⟨f1,w,N,I⟩:=Ql.1 M
  obtain⟨f2,A,O,J⟩:=Ql.1 m2
  refine⟨by omega,?_⟩
  have P:A4 (AD s n) V.num=f1:=by rw[N];exact congrArg Prod.fst (o f1 w)
  have Q:A4 (AD s n) W.num=f2:=by rw[O];exact congrArg Prod.fst (o f2 A)
  unfold DD
  rw[P,Q]
  rintro⟨t,B⟩
  have m:f1.num≠f2.num:=by omega
  have two:∀l:List Slt,(l.Pairwise fun x y=>x.num≠y.num∧DD (AD s n) x y)→∀x y,vO l f1.num=some x→vO l f2.num=some y→False:=fun l hl x y hx hy=>by
   have h:=Zw6 j hl A hy
   rw[Ia w t B m (by rw[hx];rfl)]at h
   cases h
  have u:=M6 I
  have r:=M6 J
  cases DA:vO b.slots f1.num with
  |some X=>
   cases Ay:vO b.slots f2.num with
   |some U=>exact two _ pb _ _ DA Ay
   |none=>
    rw[Ay]at r
    have T:=Ia (b:=b.slots) w t B m (by rw[DA];rfl)
    rcases r with⟨_,_,_,h,_⟩|⟨_,h⟩|⟨_,_,h⟩
    ·cases h
    ·cases h
    ·rw[T]at h;cases h
  |none=>
   rw[DA]at u
   cases Ay:vO b.slots f2.num with
   |some U=>
    have S:=Ia (b:=b.slots) A t.symm (by rw[t];exact B) (fun e=>m e.symm) (by rw[Ay];rfl)
    rcases u with⟨_,_,_,h,_⟩|⟨_,h⟩|⟨_,_,h⟩
    ·cases h
    ·cases h
    ·rw[S]at h;cases h
   |none=>
    rw[Ay]at r
    rcases u with⟨_,_,_,h,_⟩|⟨_,h⟩|⟨c,_,_⟩
    ·cases h
    ·cases h
    ·rcases r with⟨_,_,_,h,_⟩|⟨_,h⟩|⟨i,_,_⟩
     ·cases h
     ·cases h
     ·exact two _ pa _ _ c i
 ·intro z D
  rw[C]at D
  obtain⟨f,k,e,h⟩:=Ql.1 D
  rw[e,show Bz (AZ s n).1.fields f.num=(f,true)from o f k,show A4 (AZ s n).1.fields f.num=f from congrArg Prod.fst (o f k)]
  refine⟨rfl,?_⟩
  rcases M6 h with⟨x,y,c,i,p⟩|⟨_,i⟩|⟨c,_,_⟩
  ·rw[p]
   exact ZAP K (g.fl n f k) (G f k x c) (H f k y i)
  ·exact H f k _ i
  ·exact G f k _ c
theorem tb{s:Scm}(g:GdS s):∀(d:Nat) (n:ByteArray) (a b:Val),OkM s true d (AZ s n).1 a→OkM s true d (AZ s n).1 b→OkM s true d (AZ s n).1 (A7 s (d+1) n a b)
 |d,n,a,b,k,l=>by
  have hw:OkW s true d (AZ s n).1 (A7 s (d+1) n a b):=Zuo g (R:=A7 s d) (fun d' e n x y m o=>by
   subst e
   exact tb g d' n x y m o) k.w l.w rfl
  refine⟨rfl,?_,hw.pw,hw.sl,fun f h c=>?_,fun x hx=>?_⟩
  ·exact oe (.inr rfl) (.inr rfl) (.inl rfl)
  ·have h:f∈AD s n:=h
   show B7 (B5 (A7 s d) (AD s n) a.slots b.slots (AD s n)) f.num=true
   rw[Wc,LB (EF (g.asc n)) f h]
   have i:=k.rq f h c
   have j:=l.rq f h c
   rw[Wc,YP]at i j
   obtain⟨x,i⟩:=i
   obtain⟨y,j⟩:=j
   rw[i,j]
   rfl
  ·have hx:x∈B8 (a.raws++b.raws):=hx
   rw[V8,(PO _).mem_iff]at hx
   exact(DS.1 hx).elim (k.rw x) (l.rw x)
theorem Zo7{s:Scm}(g:GdS s)(d:Nat)(n:ByteArray)(a b:Val)(c:OkW s true d (AZ s n).1 a)(f:OkW s true d (AZ s n).1 b):OkW s true d (AZ s n).1 (A7 s (d+1) n a b):=Zuo g (R:=A7 s d) (fun d' e n x y h i=>by
 subst e
 exact tb g d' n x y h i) c f rfl
theorem ZAZ(out:List Raw)(x:Raw):∃A B:List Raw,out=A++B∧Go.Eng.insR Di out x=A++x::B∧∀b∈B,x.num<b.num:=by
 refine⟨(out.reverse.dropWhile fun y=>decide (Di x y<0)).reverse,(out.reverse.takeWhile fun y=>decide (Di x y<0)).reverse,?_,rfl,fun b c=>?_⟩
 ·rw[←Td,ah,aB]
 ·have a:=List.all_takeWhile (p:=fun y=>decide (Di x y<0)) (l:=out.reverse)
  rw[Ys]at a
  have h:=Y4 (a b (List.mem_reverse.1 c))
  unfold Di BL at h
  grind
theorem ZIP(k:Int)(out:List Raw)(x:Raw):(Go.Eng.insR Di out x).filter (fun y=>decide (y.num=k))=(out++[x]).filter (fun y=>decide (y.num=k)):=by
 obtain⟨A,B,e,h,hB⟩:=ZAZ out x
 rw[h,e,Ec,Ec,Ec,Y7]
 congr 1
 by_cases c:x.num=k
 ·have:B.filter (fun y=>decide (y.num=k))=[]:=by
   rw[Tb]
   intro b a
   have:=hB b a
   rw[Yy]
   omega
  simp[c,this]
 ·simp[c]
theorem ZoM(k:Int):∀l out:List Raw,(l.foldl (Go.Eng.insR Di) out).filter (fun y=>decide (y.num=k))=(out++l).filter (fun y=>decide (y.num=k))
 |[],out=>by simp
 |x::l,out=>by
  rw[Me,ZoM k l,Ec,ZIP,←Ec,Y7]
  rfl
theorem ZwP:∀{a b:List Raw},a.Pairwise (fun x y=>x.num≤y.num)→b.Pairwise (fun x y=>x.num≤y.num)→(∀k:Int,a.filter (fun y=>decide (y.num=k))=b.filter (fun y=>decide (y.num=k)))→a=b
 |[],[],_,_,_=>rfl
 |[],y::b,_,_,h=>by have:=h y.num;simp at this
 |x::a,[],_,_,h=>by have:=h x.num;simp at this
 |x::a,y::b,j,l,h=>by
  obtain⟨a1,d⟩:=YX.1 j
  obtain⟨f,g⟩:=YX.1 l
  have hx:=h x.num
  have e:x.num=y.num:=by
   have m:x∈(y::b).filter (fun z=>decide (z.num=x.num)):=by rw[←hx];exact Y9.2 ⟨YB,by simp⟩
   have m2:y∈(x::a).filter (fun z=>decide (z.num=y.num)):=by rw[h y.num];exact Y9.2 ⟨YB,by simp⟩
   have n:y.num≤x.num:=by
    rcases Yx.1 (Y9.1 m).1 with e|e
    ·rw[e];exact Tm _
    ·exact f x e
   have o:x.num≤y.num:=by
    rcases Yx.1 (Y9.1 m2).1 with e|e
    ·rw[e];exact Tm _
    ·exact a1 y e
   omega
  rw[rv (by simp),rv (by simp[e])]at hx
  obtain⟨i,_⟩:=List.cons.inj hx
  subst i
  rw[ZwP d g fun k=>?_]
  have:=h k
  rw[OO,OO]at this
  by_cases c:x.num=k
  ·simpa[c]using this
  ·simpa[c]using this
theorem ZFw(k:Int)(l:List Raw):(B8 l).filter (fun y=>decide (y.num=k))=l.filter (fun y=>decide (y.num=k)):=by
 rw[V8,CY,ZoM]
 rfl
theorem rO(l:List Raw):(B8 l).Pairwise (fun x y=>x.num≤y.num):=by
 rw[V8]
 refine(zg (cf:=Di) (K9 Raw.num) l).imp fun h=>?_
 unfold Di BL at h
 grind
theorem ZwR(x y z:List Raw):B8 (B8 (x++y)++z)=B8 (x++B8 (y++z)):=ZwP (rO _) (rO _) fun k=>by simp only[ZFw,Ec,Y7]
theorem ZOX(p:Pr):Bi p p=0:=(JW p p).2 ⟨FN.ir p,FN.ir p⟩
theorem M9{l m:List Pr}{p:Pr}:II (l++m) p↔II m p∨(II l p∧∀q∈m,¬Bi p q=0):=by
 constructor
 ·rintro⟨j,b,d⟩
  by_cases c:j<l.length
  ·rw[Yp c]at b
   refine .inr ⟨⟨j,b,fun k y a e=>?_⟩,fun q n e=>?_⟩
   ·have f:=(Ya.1 a).1
    exact d k y (by rw[Yp f];exact a) e
   ·obtain⟨i,hi⟩:=YG.1 n
    have:=d (l.length+i) q (by rw[Yu (by omega),Ta];exact hi) e
    omega
  ·rw[Yu (by omega)]at b
   refine .inl ⟨j-l.length,b,fun k y a e=>?_⟩
   have:=d (l.length+k) y (by rw[Yu (by omega),Ta];exact a) e
   omega
 ·rintro(⟨j,b,d⟩|⟨⟨j,b,d⟩,g⟩)
  ·refine⟨l.length+j,by rw[Yu (by omega),Ta];exact b,fun k y a e=>?_⟩
   by_cases c:k<l.length
   ·omega
   ·rw[Yu (by omega)]at a
    have:=d (k-l.length) y a e
    omega
  ·have h:=(Ya.1 b).1
   refine⟨j,by rw[Yp h];exact b,fun k y a e=>?_⟩
   by_cases c:k<l.length
   ·rw[Yp c]at a
    exact d k y a e
   ·rw[Yu (by omega)]at a
    exact absurd e (g y (Yi a))
theorem sH:∀(n:Nat) (l:List Pr),l.length=n→∀q∈l,∃b,II l b∧Bi q b=0
 |0,l,h,q,a=>by
  rw[ru.1 h]at a
  cases a
 |n+1,l,h,q,a=>by
  have d:l≠[]:=fun e=>by rw[e]at h;cases h
  obtain⟨m,p,rfl⟩:∃m p,l=m++[p]:=⟨_,_,(aI d).symm⟩
  have j:II (m++[p]) p:=M9.2 (.inl ⟨0,rfl,fun k y i _=>by have:=(Ya.1 i).1;simp at this;omega⟩)
  by_cases c:Bi q p=0
  ·exact⟨p,j,c⟩
  ·have a:q∈m:=by
    rcases DS.1 a with h|h
    ·exact h
    ·rw[YW.1 h]at c
     exact absurd (ZOX p) c
   obtain⟨b,g,f⟩:=sH n m (by rw[Yt]at h;simpa using h) q a
   exact⟨b,M9.2 (.inr ⟨g,fun r o e=>by rw[YW.1 o]at e;exact c (lu f e)⟩),f⟩
theorem ZyC{l:List Pr}{p:Pr}(h:p∈C4 l):p∈l:=JA h
theorem ZPm{l:List Pr}{p:Pr}:(∀q∈C4 l,¬Bi p q=0)↔∀q∈l,¬Bi p q=0:=by
 constructor
 ·intro h q a e
  obtain⟨d,b,c⟩:=sH _ l rfl q a
  exact h d (P0.2 b) (lu e c)
 ·exact fun h q a=>h q (ZyC a)
theorem ZJy{l:List Pr}(h:HC l){p:Pr}:II l p↔p∈l:=by
 constructor
 ·rintro⟨j,c,_⟩
  exact Yi c
 ·intro f
  obtain⟨j,b⟩:=YG.1 f
  refine⟨j,b,fun k y d e=>Nat.le_of_not_lt fun a=>?_⟩
  obtain⟨g,i⟩:=Ya.1 b
  obtain⟨m,n⟩:=Ya.1 d
  have:=G8.1 h j k g m a
  rw[i,n]at this
  exact((JW p y).1 e).1 this
theorem Ztd{l:List Pr}{p:Pr}:II (C4 l) p↔II l p:=(ZJy (PX l)).trans P0
theorem ZtZ(x y z:List Pr):C4 (C4 (x++y)++z)=C4 (x++C4 (y++z)):=ZoW (PX _) (PX _) fun p=>by
 rw[P0,P0,M9,M9,Ztd,Ztd,M9,M9,ZPm]
 simp only[DS]
 grind
theorem Zg{R:ByteArray→Val→Val→Val}{f:Fld}(c:f.card=4)(x y:Val):Cu R f x y=.mk 11 0 ⟨#[]⟩ (x.list++y.list) [] [] []:=Ym c
theorem Zb{R:ByteArray→Val→Val→Val}{f:Fld}(c:f.card=5)(x y:Val):Cu R f x y=.mk 12 0 ⟨#[]⟩ [] (C4 (x.pairs++y.pairs)) [] []:=(Yk (by omega)).trans (Ym c)
theorem XF{R:ByteArray→Val→Val→Val}{f:Fld}(a:¬f.card=4)(b:¬f.card=5)(c:f.type.kind=10)(x y:Val):Cu R f x y=R f.type.name x y:=(Yk a).trans ((Yk b).trans (Ym c))
theorem fZ{R:ByteArray→Val→Val→Val}{f:Fld}(a:¬f.card=4)(b:¬f.card=5)(c:¬f.type.kind=10)(x y:Val):Cu R f x y=y:=(Yk a).trans ((Yk b).trans (Yk c))
theorem ZqF{R:ByteArray→Val→Val→Val}{f:Fld}{x y z:Val}(d:¬f.card=4→¬f.card=5→f.type.kind=10→R f.type.name (R f.type.name x y) z=R f.type.name x (R f.type.name y z)):Cu R f (Cu R f x y) z=Cu R f x (Cu R f y z):=by
 by_cases a:f.card=4
 ·rw[Zg a,Zg a,Zg a,Zg a]
  show Val.mk 11 0 ⟨#[]⟩ ((x.list++y.list)++z.list) [] [] []=Val.mk 11 0 ⟨#[]⟩ (x.list++(y.list++z.list)) [] [] []
  rw[Y7]
 ·by_cases b:f.card=5
  ·rw[Zb b,Zb b,Zb b,Zb b]
   show Val.mk 12 0 ⟨#[]⟩ [] (C4 (C4 (x.pairs++y.pairs)++z.pairs)) [] []=Val.mk 12 0 ⟨#[]⟩ [] (C4 (x.pairs++C4 (y.pairs++z.pairs))) [] []
   rw[ZtZ]
  ·by_cases c:f.type.kind=10
   ·rw[XF a b c,XF a b c,XF a b c,XF a b c]
    exact d a b c
   ·rw[fZ a b c,fZ a b c,fZ a b c]
theorem Zzb{R:ByteArray→Val→Val→Val}{f:Fld}{A B C:Option Val}{rb b a:Bool}(g:B.isSome=true→rb=false)(h:C.isSome=true→b=false)(e:b=true→a=true)(c:B=none→C=none→a=true→rb=true∨b=true)(d:B=none→C=none→rb=true→a=true)(i:rb=true→∀x z,Cu R f x z=z)(j:∀x y z,A=some x→B=some y→C=some z→Cu R f (Cu R f x y) z=Cu R f x (Cu R f y z)):mo R f (mo R f A B rb) C b=mo R f A (mo R f B C b) a:=by
 cases C with
 |some z=>
  have:=h rfl
  subst this
  cases B with
  |some y=>
   cases A with
   |some x=>exact congrArg some (j x y z rfl rfl rfl)
   |none=>rfl
  |none=>
   cases A with
   |some x=>
    cases rb with
    |true=>exact congrArg some (i rfl x z).symm
    |false=>rfl
   |none=>rfl
 |none=>
  cases B with
  |some y=>
   have:=g rfl
   subst this
   cases b with
   |true=>
    have:=e rfl
    subst this
    cases A<;>rfl
   |false=>cases A<;>rfl
  |none=>
   cases A with
   |none=>rfl
   |some x=>
    have c:=c rfl rfl
    have d:=d rfl rfl
    cases rb with
    |true=>
     have:=d rfl
     subst this
     rfl
    |false=>
     cases b with
     |true=>
      have:=e rfl
      subst this
      rfl
     |false=>
      cases a with
      |true=>exact absurd (c rfl) (by decide)
      |false=>rfl
def ra(s:Scm):Prop:=∀(n:ByteArray) (f:Fld),f∈AD s n→f.union≠⟨#[]⟩→f.type.kind≠10
theorem Zlp{F:List Fld}(h:Df F F.length){b:List Slt}(a:b.Pairwise fun x y=>x.num≠y.num∧DD F x y){f:Fld}(c:f∈F)(hy:(vO b f.num).isSome=true):B6 F f b=false:=by
 obtain⟨v,d⟩:=YP.1 hy
 exact Zw6 h a c d
theorem zY{s:Scm}(g:GdS s)(H:ra s):∀(d:Nat) (n:ByteArray) (a b c:Val),OkW s true d (AZ s n).1 a→OkW s true d (AZ s n).1 b→OkW s true d (AZ s n).1 c→A7 s (d+1) n (A7 s (d+1) n a b) c=A7 s (d+1) n a (A7 s (d+1) n b c)
 |d,n,a,b,c,W,J,K=>by
  have i:=g.asc n
  have pb:=J.pw
  have L:=K.pw
  rw[show(AZ s n).1.fields=AD s n from rfl]at pb L
  have F:∀v:Val,OkW s true d (AZ s n).1 v→∀f∈AD s n,∀x,vO v.slots f.num=some x→BV (Ba s true d) s true f x=0:=fun v ov f l x hx=>by
   obtain⟨z,r,p,A⟩:=Qu hx
   have:=(ov.sl z r).2
   rw[p,show A4 (AZ s n).1.fields f.num=f from congrArg Prod.fst (JH i l),A]at this
   exact this
  show Val.mk 10 0 ⟨#[]⟩ [] [] (B5 (A7 s d) (AD s n) (B5 (A7 s d) (AD s n) a.slots b.slots (AD s n)) c.slots (AD s n)) (B8 (B8 (a.raws++b.raws)++c.raws))=Val.mk 10 0 ⟨#[]⟩ [] [] (B5 (A7 s d) (AD s n) a.slots (B5 (A7 s d) (AD s n) b.slots c.slots (AD s n)) (AD s n)) (B8 (a.raws++B8 (b.raws++c.raws)))
  rw[ZwR]
  have key:∀f∈AD s n,C3 (A7 s d) (AD s n) (B5 (A7 s d) (AD s n) a.slots b.slots (AD s n)) c.slots f=C3 (A7 s d) (AD s n) a.slots (B5 (A7 s d) (AD s n) b.slots c.slots (AD s n)) f:=fun f l=>by
   rw[Qr,Qr,LB (EF i) f l,LB (EF i) f l]
   have I:B6 (AD s n) f c.slots=true→B6 (AD s n) f (B5 (A7 s d) (AD s n) b.slots c.slots (AD s n))=true:=fun h=>by
    obtain⟨k,m,q,o,t,w⟩:=Q7 h
    refine Ia m q o t ?_
    rw[LB (EF i) k m]
    obtain⟨z,B⟩:=YP.1 w
    rw[B]
    cases vO b.slots k.num<;>rfl
   rw[Zzb (Zlp i pb l) (Zlp i L l) I ?_ ?_ ?_ ?_]
   ·intro _ _ h
    obtain⟨k,m,q,o,t,w⟩:=Q7 h
    rw[LB (EF i) k m,YP]at w
    obtain⟨z,B⟩:=w
    rcases M6 B with⟨x,y,r,p,A⟩|⟨_,p⟩|⟨r,_,_⟩
    ·exact .inr (Ia m q o t (by rw[p];rfl))
    ·exact .inr (Ia m q o t (by rw[p];rfl))
    ·exact .inl (Ia m q o t (by rw[r];rfl))
   ·intro _ P h
    obtain⟨k,m,q,o,t,w⟩:=Q7 h
    cases C:B6 (AD s n) f c.slots with
    |true=>exact I C
    |false=>
    refine Ia m q o t ?_
    rw[LB (EF i) k m]
    obtain⟨y,hy⟩:=YP.1 w
    rw[hy]
    cases e:vO c.slots k.num with
    |some z=>rfl
    |none=>
     cases D:B6 (AD s n) k c.slots with
     |false=>rfl
     |true=>
      exfalso
      obtain⟨j,R,S,Z,j4,E⟩:=Q7 D
      by_cases G:j.num=f.num
      ·rw[G,P]at E
       cases E
      ·rw[Ia R (S.trans q) o G E]at C
       cases C
   ·intro h x z
    obtain⟨k,m,q,o,t,w⟩:=Q7 h
    have Q:=(g.fl n f l).un o
    unfold Cu
    rw[Yk (by omega),Yk (by omega),Yk (H n f l o)]
   ·intro x y z hx hy B
    refine ZqF fun M N u=>?_
    have r:=F a W f l x hx
    have p:=F b J f l y hy
    have A:=F c K f l z B
    unfold BV at r p A
    rw[Yk M,Yk N]at r p A
    obtain⟨d1,O,T⟩:=K6 u r
    obtain⟨d2,X,U⟩:=K6 u p
    obtain⟨d3,Y,V⟩:=K6 u A
    have:d2=d1:=by omega
    subst this
    have:d3=d2:=by omega
    subst this
    subst O
    exact zY g H d3 f.type.name x y z T.w U.w V.w
  have e:∀x y:List Slt,B5 (A7 s d) (AD s n) x y (AD s n)=(AD s n).flatMap (C3 (A7 s d) (AD s n) x y):=fun _ _=>rfl
  rw[e (B5 (A7 s d) (AD s n) a.slots b.slots (AD s n)) c.slots,e a.slots (B5 (A7 s d) (AD s n) b.slots c.slots (AD s n)),S7,S7,Eb key]
theorem ZD6(F:List Fld)(f:Fld):B6 F f []=false:=by
 unfold B6
 rw[L6]
 intro g _
 simp[B7]
theorem Zmq{s:Scm}(g:GdS s){d:Nat}{n:ByteArray}{a:Val}(pa:a.slots.Pairwise fun x y=>x.num≠y.num)(e:a=BU s (d+1) n a):Gh a.slots∧(∀x∈a.slots,q9 (Dh (BU s d)) (AD s n) x)∧B8 a.raws=a.raws∧a=.mk 10 0 ⟨#[]⟩ [] [] a.slots a.raws:=by
 obtain⟨c,f,h,i,j,k,b⟩:=pK.1 e
 obtain⟨l,m⟩:=ZP8 (g.asc n) pa k
 have b:a.raws=B8 a.raws:=b
 exact⟨l,m,b.symm,pK.2 ⟨c,f,h,i,j,rfl,rfl⟩⟩
theorem ZOP{s:Scm}(g:GdS s){d:Nat}{n:ByteArray}{a:Val}(j:OkW s true d (AZ s n).1 a)(e:a=BU s (d+1) n a):A7 s (d+1) n a (.mk 10 0 ⟨#[]⟩ [] [] [] [])=a:=by
 have i:=g.asc n
 obtain⟨o,_,p,q⟩:=Zmq g (j.pw.imp fun h=>h.1) e
 have m:B5 (A7 s d) (AD s n) a.slots [] (AD s n)=a.slots:=Wq (Qj (EF i)) o fun z=>by
  rw[Ql]
  constructor
  ·rintro⟨f,u,k,h⟩
   rcases M6 h with⟨_,_,_,h,_⟩|⟨_,h⟩|⟨h,_,_⟩
   ·cases h
   ·cases h
   ·obtain⟨x,hx,r,t⟩:=Qu h
    rw[nD.2 ⟨k.trans r.symm,t.symm⟩]
    exact hx
  ·intro l
   have b:=(j.sl z l).1
   rcases Wh (AD s n) z.num with⟨c,_⟩|⟨_,c⟩
   ·rw[show(Bz (AZ s n).1.fields z.num).2=(Bz (AD s n) z.num).2 from rfl,c]at b
    cases b
   ·refine⟨_,c,(M4 b).symm,?_⟩
    rw[show(A4 (AD s n) z.num).num=z.num from M4 b,ZD6,show vO a.slots z.num=some z.val by unfold vO;rw[VW (j.pw.imp fun h=>h.1) l];rfl]
    rfl
 show Val.mk 10 0 ⟨#[]⟩ [] [] (B5 (A7 s d) (AD s n) a.slots [] (AD s n)) (B8 (a.raws++[]))=a
 rw[m,G4,p]
 exact q.symm
theorem ZPg{s:Scm}(g:GdS s){d:Nat}{n:ByteArray}{a:Val}(j:OkW s true d (AZ s n).1 a)(e:a=BU s (d+1) n a):A7 s (d+1) n (.mk 10 0 ⟨#[]⟩ [] [] [] []) a=a:=by
 have i:=g.asc n
 obtain⟨o,_,p,q⟩:=Zmq g (j.pw.imp fun h=>h.1) e
 have m:B5 (A7 s d) (AD s n) [] a.slots (AD s n)=a.slots:=Wq (Qj (EF i)) o fun z=>by
  rw[Ql]
  constructor
  ·rintro⟨f,u,k,h⟩
   rcases M6 h with⟨_,_,h,_,_⟩|⟨_,h⟩|⟨h,_,_⟩
   ·cases h
   ·obtain⟨x,hx,r,t⟩:=Qu h
    rw[nD.2 ⟨k.trans r.symm,t.symm⟩]
    exact hx
   ·cases h
  ·intro l
   have b:=(j.sl z l).1
   rcases Wh (AD s n) z.num with⟨c,_⟩|⟨_,c⟩
   ·rw[show(Bz (AZ s n).1.fields z.num).2=(Bz (AD s n) z.num).2 from rfl,c]at b
    cases b
   ·refine⟨_,c,(M4 b).symm,?_⟩
    rw[show(A4 (AD s n) z.num).num=z.num from M4 b,show vO a.slots z.num=some z.val by unfold vO;rw[VW (j.pw.imp fun h=>h.1) l];rfl]
    rfl
 show Val.mk 10 0 ⟨#[]⟩ [] [] (B5 (A7 s d) (AD s n) [] a.slots (AD s n)) (B8 ([]++a.raws))=a
 rw[m,Fy,p]
 exact q.symm
theorem ZK7{s:Scm}{n:ByteArray}{f:Fld}(a:f∈AD s n):∃m∈s.messages,f∈m.fields:=by
 unfold AD C2 at a
 revert a
 cases e:s.messages.find? fun m=>decide (m.name=n)with
 |none=>intro a;cases a
 |some m=>intro a;exact⟨m,HR e,a⟩
theorem ZHN{s:Scm}(h:SzS s):jO s=some (!s.messages.any fun m=>m.fields.any fun f=>(!decide (f.union=⟨#[]⟩))&&decide (f.type.kind=10)):=by
 have n:=h.ml
 have b:s.messages.length<4611686018427387904:=by omega
 have k:=PZ (B:=RZ s) (N:=Al) s.messages (fun m=>m.fields.any fun f=>(!decide (f.union=⟨#[]⟩))&&decide (f.type.kind=10)) false () (fun i m hm=>by
  have c:=BS hm
  have d:i+1<9223372036854775808:=by have:=(Ya.1 hm).1;omega
  have o:=(h.m m (Yi hm)).fl
  have w2:m.fields.length<4611686018427387904:=by omega
  have l:=PZ (B:=RI s i m) (N:=Al) m.fields (fun f=>(!decide (f.union=⟨#[]⟩))&&decide (f.type.kind=10)) false () (fun j f a=>by
   have e:=BS a
   have g:j+1<9223372036854775808:=by have:=(Ya.1 a).1;omega
   dsimp only[RI,Xx,br,ix,wg,vs,AA,ln,Ai,wa,br]
   simp only[w2,e,g,a,Yr,Yv,Yc]
   cases(!decide (f.union=⟨#[]⟩))&&decide (f.type.kind=10)<;>rfl) (by dsimp only[RI,Xx,br,ix,wg,vs,AA,ln,Ai,wa,br];simp[w2]) (A2 (by omega))
  dsimp only[RZ,TC,Zr,XZ,br,ix,vz,wg,vs,ln,Ai,lc,wa,An,br]
  simp only[b,w2,c,d,hm,l,Yr,Yv,Yc]
  cases m.fields.any fun f=>(!decide (f.union=⟨#[]⟩))&&decide (f.type.kind=10)<;>rfl) (by dsimp only[RZ,TC,Zr,XZ,br,ix,vz,wg,vs,ln,Ai,lc,wa,An,br];simp[b]) (A2 (by omega))
 dsimp only[jO,gt,fg,gH,vz,wg,lr,lc,An]
 rw[k]
 cases s.messages.any fun m=>m.fields.any fun f=>(!decide (f.union=⟨#[]⟩))&&decide (f.type.kind=10)<;>rfl
theorem ZPz{s:Scm}(h:(!s.messages.any fun m=>m.fields.any fun f=>(!decide (f.union=⟨#[]⟩))&&decide (f.type.kind=10))=true):ra s:=fun n f a c b=>by
 obtain⟨m,hm,a⟩:=ZK7 a
 rw[YJ,L6]at h
 refine h m hm (YL.2 ⟨f,a,?_⟩)
 simp[c,b]
theorem ZgE{s:Scm}{n:ByteArray}{a b c:Val}(hs:Ar (Au s)≤1048576)(_:(0:Nat)≤1)(e:Ar (Ag a)≤1048576)(R:Ar (Ag a)+Ar (Ag b)≤1048576)(S:Ar (Ag a)+Ar (Ag b)+Ar (Ag c)≤1048576):jc s n a b c=some true:=by
 have t:Ar (Ag b)≤1048576:=by omega
 have u:Ar (Ag c)≤1048576:=by omega
 obtain⟨E,I,N⟩:=o16 hs
 dsimp only[jc,is,gQ,Pj,KI,br,vw,wg,lr,lc,cl,AP,tw,du,br]
 rw[I,ZUV]
 cases E with
 |false=>simp
 |true=>
 have g:=ZLR (N rfl) hs
 obtain⟨F,J,k⟩:=k9 hs g n a e
 obtain⟨G,K,a3⟩:=k9 hs g n b t
 obtain⟨H,L,a4⟩:=k9 hs g n c u
 rw[J,K,L]
 cases F with
 |false=>simp
 |true=>
 cases G with
 |false=>simp
 |true=>
 cases H with
 |false=>simp
 |true=>
 have d:=(WR.1 (k.1 rfl).1).2.1.w
 have i:=(WR.1 (a3.1 rfl).1).2.1.w
 have j:=(WR.1 (a4.1 rfl).1).2.1.w
 have C:OkW s true 15 (AZ s n).1 (.mk 10 0 ⟨#[]⟩ [] [] [] []):=⟨.nil,fun x hx=>by cases hx⟩
 have B:A3 (.mk 10 0 ⟨#[]⟩ [] [] [] []):=by show Ar (Ag (.mk 10 0 ⟨#[]⟩ [] [] [] []))≤1048576;decide
 have w:=M5 hs g n a _ e B d C
 have y:=M5 hs g n _ a B e C d
 rw[ZOP g d (k.1 rfl).2]at w
 rw[ZPg g d (k.1 rfl).2]at y
 have D:∀v:Val,A3 v→Jv Al v v=some true:=fun v A=>by
  obtain⟨V,r,a9⟩:=vZ A A
  rw[r,a9.2 rfl]
 have z:=D a e
 have M:=ZHN (Gk hs)
 rw[w,y,M]
 cases T:(!s.messages.any fun m=>m.fields.any fun f=>(!decide (f.union=⟨#[]⟩))&&decide (f.type.kind=10))with
 |false=>simp[z]
 |true=>
 have U:=ZPz T
 have W:=Xa g.asc 16 n a b
 have X:=Xa g.asc 16 n b c
 have Y:=Xa g.asc 16 n (A7 s 16 n a b) c
 have O:A3 (A7 s 16 n a b):=by show Ar (Ag (A7 s 16 n a b))≤1048576;omega
 have P:A3 (A7 s 16 n b c):=by show Ar (Ag (A7 s 16 n b c))≤1048576;omega
 have Q:A3 (A7 s 16 n (A7 s 16 n a b) c):=by show Ar (Ag (A7 s 16 n (A7 s 16 n a b) c))≤1048576;omega
 have r:=M5 hs g n a b e t d i
 have l:=M5 hs g n b c t u i j
 have o:=M5 hs g n _ c O u (Zo7 g 15 n a b d i) j
 have h:=M5 hs g n a _ e P d (Zo7 g 15 n b c i j)
 have p:=zY g U 15 n a b c d i j
 rw[←p]at h
 have q:=D _ Q
 simp[z,r,l,o,h,q]
end Go.Proofs.YtjbijbkdiijhaaaGreat
