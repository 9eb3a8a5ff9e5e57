import Derived.Test.YtjbijbkdiijhaaaGreatZc26
import Derived.Test.YtjbijbkdiijhaaaGreatZc23
import Derived.Test.YtjbijbkdiijhaaaGreatZc00
namespace Go.Proofs.YtjbijbkdiijhaaaGreat
set_option linter.all false
open Go Go.Eng
theorem Hv{l:List Slt}{k:Int}{x:Slt}(h:Bx l k=some x):x∈l∧x.num=k:=⟨I4 h,Y3 (p:=x.num=k) (ax (p:=fun x:Slt=>decide (x.num=k)) h)⟩
theorem QN{l:List Slt}{k:Int}:Bx l k=none↔∀x∈l,x.num≠k:=by
 unfold Bx
 rw[SS]
 simp
theorem rM{α:Type}{R:α→α→Prop}(sy:∀{a b},R a b→R b a){l:List α}(h:l.Pairwise R){x y:α}(hx:x∈l)(hy:y∈l)(n:x≠y):R x y:=by
 obtain⟨i,hi,rfl⟩:=List.mem_iff_getElem.1 hx
 obtain⟨j,d,rfl⟩:=List.mem_iff_getElem.1 hy
 rcases OB i j with c|c|c
 ·exact HQ.1 h i j hi d c
 ·subst c
  exact absurd rfl n
 ·exact sy (HQ.1 h j i d hi c)
theorem ZoL{l:List Slt}(h:l.Pairwise fun a b=>a.num≠b.num){x:Slt}(hx:x∈l):Bx l x.num=some x:=by
 cases e:Bx l x.num with
 |none=>exact absurd rfl (QN.1 e x hx)
 |some y=>
  obtain⟨d,f⟩:=Hv e
  by_cases c:y=x
  ·rw[c]
  ·exact absurd f (rM (R:=fun a b:Slt=>a.num≠b.num) (fun h e=>h e.symm) h d hx c)
def Fs(R:ByteArray→Val→Val→Val)(F:List Fld)(p:List Slt)(x:Slt):Slt:=.mk x.num ((Bx p x.num).elim x.val fun y=>Eb R (A7 F x.num) x.val y.val)
def B8(R:ByteArray→Val→Val→Val)(F:List Fld)(A p:List Slt):List Slt:=A.map (Fs R F p)++p.filter fun y=>!Ca A y.num
theorem Zzu(p:List Slt)(y:Slt)(k:Int)(h:y.num≠k):Bx (p++[y]) k=Bx p k:=by
 unfold Bx
 rw[SW]
 simp[h]
theorem Zoa{R:ByteArray→Val→Val→Val}{F:List Fld}{p:List Slt}{y x:Slt}(h:y.num≠x.num):Fs R F (p++[y]) x=Fs R F p x:=by
 unfold Fs
 rw[Zzu p y x.num h]
theorem ZD9(R:ByteArray→Val→Val→Val)(F:List Fld)(A:List Slt):B8 R F A []=A:=by
 have:Fs R F []=id:=funext fun x=>by cases x;rfl
 unfold B8
 rw[this]
 simp
theorem ZL2{R:ByteArray→Val→Val→Val}{F:List Fld}{A p:List Slt}{y:Slt}{i:Nat}(hi:A.findIdx? (fun x=>decide (x.num=y.num))=some i):(B8 R F A p).findIdx? (fun x=>decide (x.num=y.num))=some i:=by
 unfold B8
 rw[List.findIdx?_append,List.findIdx?_map]
 have:((fun x:Slt=>decide (x.num=y.num))∘Fs R F p)=fun x=>decide (x.num=y.num):=rfl
 rw[this,hi]
 rfl
theorem ZKJ{R:ByteArray→Val→Val→Val}{F:List Fld}{A p:List Slt}{y:Slt}{i:Nat}(m:A.Pairwise fun a b=>a.num≠b.num)(r:∀x∈p,x.num≠y.num)(hi:A.findIdx? (fun x=>decide (x.num=y.num))=some i):
  ∃x,A[i]?=some x∧(B8 R F A p)[i]?=some x∧x.num=y.num∧B8 R F A (p++[y])=(B8 R F A p).set i (.mk x.num (Eb R (A7 F y.num) x.val y.val)):=by
 obtain⟨d,o,_⟩:=Kj.1 hi
 have hx:A[i]?=some A[i]:=Ye d
 have f:(A[i]).num=y.num:=Y3 o
 have n:Bx p (A[i]).num=none:=by rw[QN,f];exact r
 have t:Fs R F p A[i]=A[i]:=by
  unfold Fs
  rw[n]
  cases A[i]
  rfl
 refine⟨A[i],hx,?_,f,?_⟩
 ·unfold B8
  rw[Yp (by rw[YG];exact d),YR,hx,YY,t]
 ·have s:Ca A y.num=true:=YQ.2 ⟨A[i],Gi d,Yn f⟩
  unfold B8
  rw[HK,show([y].filter fun y=>!Ca A y.num)=[]by simp[s],HO,List.set_append_left (h:=by rw[YG];exact d)]
  congr 1
  apply List.ext_getElem?
  intro j
  rw[YR,List.getElem?_set,YG,YR]
  by_cases c:i=j
  ·subst c
   rw[Yk rfl,Yk d,hx,YY]
   congr 1
   unfold Fs
   rw[show Bx (p++[y]) (A[i]).num=some y by unfold Bx at*;rw[SW,n];simp[f],f]
   rfl
  ·rw[Ym c]
   cases e:A[j]? with
   |none=>rfl
   |some z=>
    have q:=(Yb.1 e)
    obtain⟨g,k⟩:=q
    have l:y.num≠z.num:=by
     rw[←f,←k]
     rcases Nat.lt_or_gt_of_ne c with h|h
     ·exact(HQ.1 m) i j d g h
     ·exact fun e=>(HQ.1 m) j i g d h e.symm
    rw[YY,YY,Zoa l]
theorem ZEt{R:ByteArray→Val→Val→Val}{F:List Fld}{A p:List Slt}{y:Slt}(b:∀x∈p,x.num≠y.num)(hi:A.findIdx? (fun x=>decide (x.num=y.num))=none):
  (B8 R F A p).findIdx? (fun x=>decide (x.num=y.num))=none∧B8 R F A (p++[y])=B8 R F A p++[y]:=by
 have a:∀x∈A,x.num≠y.num:=fun x hx=>of_decide_eq_false (L3.1 hi x hx)
 constructor
 ·rw[L3]
  intro x hx
  refine Yq ?_
  rcases Gk.1 hx with hx|hx
  ·obtain⟨z,d,rfl⟩:=YS.1 hx
   exact a z d
  ·exact b x ((Dp.1 hx).1)
 ·have c:Ca A y.num=false:=by
   unfold Ca
   rw[SV]
   intro x hx
   simp[a x hx]
  unfold B8
  rw[HK,show([y].filter fun y=>!Ca A y.num)=[y]by simp[c],D2]
  congr 1
  exact Es fun x hx=>Zoa fun e=>a x hx e.symm
theorem Zsf(R:ByteArray→Val→Val→Val)(F:List Fld)(A p:List Slt):(B8 R F A p).length≤A.length+p.length:=by
 unfold B8
 rw[Yt,YG]
 have:=Kg (fun y=>!Ca A y.num) p
 omega
theorem ZHV{R:ByteArray→Val→Val→Val}{F:List Fld}{A p:List Slt}{z:Slt}:z∈B8 R F A p↔(∃x∈A,z=Fs R F p x)∨(z∈p∧∀x∈A,x.num≠z.num):=by
 unfold B8
 rw[Gk,YS,Dp]
 have:(!Ca A z.num)=true↔∀x∈A,x.num≠z.num:=by
  unfold Ca
  simp
 rw[this]
 constructor
 ·rintro(⟨x,hx,rfl⟩|h)
  ·exact .inl ⟨x,hx,rfl⟩
  ·exact .inr h
 ·rintro(⟨x,hx,rfl⟩|h)
  ·exact .inl ⟨x,hx,rfl⟩
  ·exact .inr h
theorem ZPy{R:ByteArray→Val→Val→Val}{F:List Fld}{A p:List Slt}(c:A.Pairwise fun a b=>a.num≠b.num)(d:p.Pairwise fun a b=>a.num≠b.num):(B8 R F A p).Pairwise fun a b=>a.num≠b.num:=by
 unfold B8
 rw[Om]
 refine⟨by rw[ZX];exact c,d.filter _,fun x hx y hy=>?_⟩
 obtain⟨z,e,rfl⟩:=YS.1 hx
 have h:=(Dp.1 hy).2
 unfold Ca at h
 rw[YJ,SV]at h
 have:=h z e
 simp at this
 exact this
theorem Zt8{l:List Slt}(h:l.Pairwise fun a b=>a.num≠b.num):FY (C4 IP l):=by
 have d:=ZlT (cf:=IP) (MX Slt.num) l
 have f:(C4 IP l).Pairwise fun a b=>a.num≠b.num:=(List.Perm.pairwise_iff (fun {a b} h e=>h e.symm) (Vl l)).2 h
 refine(List.pairwise_and_iff.2 ⟨d,f⟩).imp fun {a b} c=>?_
 have:=c.1
 unfold IP BS at this
 have g:=c.2
 grind
theorem VI{R:ByteArray→Val→Val→Val}{F:List Fld}{a b:List Slt}{f:Fld}{z:Slt}(h:z∈Du R F a b f):z.num=f.num:=by
 unfold Du at h
 split at h
 ·rw[Y1.1 h];rfl
 ·rw[Y1.1 h];rfl
 ·split at h
  ·cases h
  ·rw[Y1.1 h];rfl
 ·cases h
theorem Zzh(R:ByteArray→Val→Val→Val)(F:List Fld)(a b:List Slt)(f:Fld):FY (Du R F a b f):=by
 unfold Du FY
 split
 ·exact L5 _ _
 ·exact L5 _ _
 ·split
  ·exact .nil
  ·exact L5 _ _
 ·exact .nil
theorem ZuM{R:ByteArray→Val→Val→Val}{F:List Fld}{a b:List Slt}:∀{l:List Fld},(l.Pairwise fun a b=>a.num<b.num)→FY (F3 R F a b l)
 |[],_=>.nil
 |f::l,h=>by
  obtain⟨c,d⟩:=Y2.1 h
  have i:=ZuM (R:=R) (F:=F) (a:=a) (b:=b) d
  show(Du R F a b f++F3 R F a b l).Pairwise _
  rw[Om]
  refine⟨Zzh R F a b f,i,fun x hx y hy=>?_⟩
  obtain⟨g,e,hy⟩:=SM.1 hy
  rw[VI hx,VI hy]
  exact c g e
theorem td{F:List Fld}(h:Ds F F.length){b:List Slt}(p:b.Pairwise fun x y=>x.num≠y.num∧EV F x y){f:Fld}(q:f∈F){y:Slt}(hy:Bx b f.num=some y):CW F f b=false:=by
 unfold CW
 rw[SV]
 intro g r c
 simp only[Yc,YJ,YB,YL,Zpg,Y7]at c
 obtain⟨⟨⟨k,l⟩,m⟩,z,s⟩:=c
 obtain⟨t,i⟩:=Hv hy
 obtain⟨m2,j⟩:=Hv s
 have n:A7 F y.num=f:=by rw[i];exact congrArg Prod.fst (K9 h q)
 have o:A7 F z.num=g:=by rw[j];exact congrArg Prod.fst (K9 h r)
 have d:EV F z y:=(rM (R:=fun a b:Slt=>a.num≠b.num∧EV F a b) (fun h=>⟨fun e=>h.1 e.symm,h.2.symm⟩) p m2 t (fun e=>m (by rw[←j,e,i]))).2
 unfold EV at d
 rw[n,o]at d
 exact d ⟨l,k⟩
theorem ZH3{R:ByteArray→Val→Val→Val}{F:List Fld}(h:Ds F F.length){a b:List Slt}(p:a.Pairwise fun x y=>x.num≠y.num)(o:b.Pairwise fun x y=>x.num≠y.num∧EV F x y)
  (u:∀x∈a,(BR F x.num).2=true) (v:∀x∈b,(BR F x.num).2=true):C4 IP (B8 R F (a.filter fun x=>!CW F (A7 F x.num) b) b)=F3 R F a b F:=by
 have EP:b.Pairwise fun x y=>x.num≠y.num:=o.imp fun s=>s.1
 have fl:∀k,(BR F k).2=true→A7 F k∈F∧(A7 F k).num=k:=fun k q=>by
  rcases ZvT F k with⟨c,_⟩|⟨_,c⟩
  ·rw[q]at c;cases c
  ·exact⟨c,ZoI q⟩
 have n:∀f∈F,A7 F f.num=f:=fun f m=>congrArg Prod.fst (K9 h m)
 refine Zrx (Zt8 (ZPy (p.filter _) EP)) (ZuM (Nc h)) fun z=>?_
 rw[(Vl _).mem_iff,ZHV]
 unfold F3
 rw[SM]
 constructor
 ·rintro(⟨x,hx,rfl⟩|⟨d,t⟩)
  ·obtain⟨hx,r⟩:=Dp.1 hx
   rw[YJ]at r
   obtain⟨f1,f2⟩:=fl _ (u x hx)
   refine⟨A7 F x.num,f1,?_⟩
   unfold Du Fs
   rw[f2,ZoL p hx]
   cases e:Bx b x.num with
   |none=>rw[r];exact Y1.2 rfl
   |some y=>exact Y1.2 rfl
  ·obtain⟨f1,f2⟩:=fl _ (v z d)
   refine⟨A7 F z.num,f1,?_⟩
   have e:=ZoL EP d
   unfold Du
   rw[f2,e]
   cases i:Bx a z.num with
   |none=>cases z;exact Y1.2 rfl
   |some x=>
    exfalso
    obtain⟨j,g⟩:=Hv i
    refine t x (Dp.2 ⟨j,?_⟩) g
    rw[g,td h o f1 (by rw[f2];exact e)]
    rfl
 ·rintro⟨f,m,d⟩
  unfold Du at d
  split at d
  ·rename_i x y i l
   obtain⟨j,g⟩:=Hv i
   refine .inl ⟨x,Dp.2 ⟨j,?_⟩,?_⟩
   ·rw[g,n f m,td h o m l]
    rfl
   ·rw[Y1.1 d]
    unfold Fs
    rw[g,l,n f m]
    rfl
  ·rename_i y i l
   obtain⟨j,g⟩:=Hv l
   have e:z=y:=by
    rw[Y1.1 d,←g]
    cases y
    rfl
   subst e
   exact .inr ⟨j,fun x hx=>by rw[g];exact QN.1 i x ((Dp.1 hx).1)⟩
  ·rename_i x i l
   obtain⟨j,g⟩:=Hv i
   split at d
   ·cases d
   ·rename_i c
    refine .inl ⟨x,Dp.2 ⟨j,?_⟩,?_⟩
    ·rw[g,n f m,YJ,ZW]
     exact c
    ·rw[Y1.1 d]
     unfold Fs
     rw[g,l]
     rfl
  ·cases d
theorem Zs4(l:List Raw)(y x:Raw):∀k:Nat,k≤l.length→Ei (l++[y]) x k=Ei l x k
 |0,_=>rfl
 |k+1,h=>by
  rw[Ei,Ei,Zs4 l y x k (by omega),Yg,Yg,Yp (by omega)]
theorem ZoD(x:Raw):∀(n:Nat) (out:List Raw),out.length=n→insR out x=Go.Eng.insR GR out x
 |0,out,h=>by
  rw[ag.1 h]
  rfl
 |n+1,out,h=>by
  have d:out≠[]:=fun e=>by rw[e]at h;cases h
  obtain⟨l,y,rfl⟩:∃l y,out=l++[y]:=⟨_,_,(q7 d).symm⟩
  have hl:l.length=n:=by rw[Yt]at h;simpa using h
  have j:=ZoD x n l hl
  unfold insR Go.Eng.insR at*
  have e0:(l++[y]).length=l.length+1:=by simp
  have g:(l++[y]).getD l.length Rw.z=y:=by simp
  rw[e0,Ei,g,Zs4 l y x l.length (Yf _),Z5]
  show _=(List.dropWhile _ (y::l.reverse)).reverse++x::(List.takeWhile _ (y::l.reverse)).reverse
  have f:GR x y<0↔x.num<y.num:=by unfold GR BS;grind
  rw[List.dropWhile_cons,List.takeWhile_cons]
  by_cases c:x.num<y.num
  ·have a:=oM l x l.length
   have b:decide (GR x y<0)=true:=Yn (f.2 c)
   rw[Yk c,b,Yk rfl,Yk rfl,SI a,aa a,List.reverse_cons,←D2,j]
   simp
  ·have b:¬decide (GR x y<0)=true:=by rw[YB,f];exact c
   have i:(l++[y]).take (l.length+1)=l++[y]:=Ke (by simp)
   rw[Ym c,Ym b,Ym b,i]
   simp
theorem ZBd(l:List Raw):DF l=C4 GR l:=by
 have:insR=Go.Eng.insR GR:=funext fun out=>funext fun x=>ZoD x _ out rfl
 unfold DF C4
 rw[this]
end Go.Proofs.YtjbijbkdiijhaaaGreat
namespace Go.Proofs.YtjbijbkdiijhaaaGreat
set_option linter.all false
open Go Go.Eng
theorem ZAD(l:List Pr)(h:l.length<549755813888):Ve l=some l:=by
 cases l with
 |nil=>rfl
 |cons x r=>
  dsimp only[Ve,bO,al,br,vw,lr,a0,mv,br]
  simp only[Fw]at h
  simp
  omega
theorem sf{a b:Val}(s:1≤a.kind∧a.kind≤9)(j:A2 a)(l:A2 b):Vb a b=some (Cd a b):=by
 obtain⟨n,q,f,u⟩:=PU j
 obtain⟨k,p,e,t⟩:=PU l
 have r:(decide (1≤a.kind)&&decide (a.kind≤9))=true:=by simp[s]
 unfold Cd
 by_cases he:a.kind=b.kind
 ·have i:(decide (1≤b.kind)&&decide (b.kind≤9))=true:=by rw[←he];exact r
  dsimp only[Vb,S8,br,wg,lr,cl,br,yW,lZ,wg,lr,cl,bT,zm,nf,lr,y6,ob,br,vz,wg,lr,cl,br,y1,nd,lr]
  simp only[he,Yr,YZ,Yo,YN,i,Yv,Ya,ne_eq,OA]
  rw[←he]
  by_cases h:a.kind=7∨a.kind=8
  ·have d:(decide (a.kind=7)||decide (a.kind=8))=true:=by simpa using h
   rw[Yk h]
   simp only[d,Yv,ZU4,Ya]
  ·have d:(decide (a.kind=7)||decide (a.kind=8))=false:=by simpa using h
   rw[Ym h]
   simp only[d,Yo,YN]
   by_cases hs:a.kind=2∨a.kind=3
   ·have c:(decide (a.kind=2)||decide (a.kind=3))=true:=by simpa using hs
    have g:∀m:Nat,m<18446744073709551616→IntKind.i64.wrap (m:Int)=IntKind.u64.wrap ((m:Int)+9223372036854775808)-9223372036854775808:=fun m hm=>by
     rw[IntKind.wrap_i64]
     unfold IntKind.wrap
     simp only[show IntKind.u64.bits=64 from rfl,show IntKind.u64.signed=false from rfl,Et,Yo,YN]
     omega
    simp only[c,hs,Yv,UN,Ya]
    rw[q,p,g n f,g k e]
    unfold BS
    simp only[Int.sub_lt_sub_right_iff]
   ·have c:(decide (a.kind=2)||decide (a.kind=3))=false:=by simpa using hs
    by_cases o:a.kind=6
    ·simp only[c,hs,Yo,YN]
     simp only[o,Yv,Yr,q,p,ym f,ym e,xH,Ya,YV]
    ·simp only[c,hs,o,Yo,YN,YU,xH,Ya]
 ·dsimp only[Vb,S8,br,wg,lr,cl,br]
  simp only[he,YU,Y8,Yv,UN,Ya,ne_eq,L1]
theorem ZRz{a b:Val}(e:1≤a.kind∧a.kind≤9)(c:A2 a)(d:A2 b):jO a b=some (decide (Cd a b=0)):=by
 dsimp only[jO,bC,wg,lr,cl]
 rw[sf e c d]
 rfl
def GT(l:List Pr):Nat→List Pr
 |0=>[]
 |i+1=>if i+1<l.length∧Bk (l.getD i Rw.z) (l.getD (i+1) Rw.z)=0 then GT l i else GT l i++[l.getD i Rw.z]
theorem Zvz(l:List Pr):∀i:Nat,(GT l i).length≤i
 |0=>Yf _
 |i+1=>by
  have:=Zvz l i
  rw[GT]
  split
  ·omega
  ·rw[Yt,I2]
   omega
theorem Zlv(l:List Pr):∀i:Nat,i≤l.length→EF l=GT l i++EF (l.drop i)
 |0,_=>rfl
 |i+1,h=>by
  have hi:i<l.length:=h
  have e0:l.getD i Rw.z=l[i]:=by rw[Yg,Ye hi];rfl
  rw[Zlv l i (by omega),HP hi,GT,e0]
  by_cases c:i+1<l.length
  ·have b:l.getD (i+1) Rw.z=l[i+1]:=by rw[Yg,Ye c];rfl
   rw[HP c,EF,b]
   by_cases a:Bk l[i] l[i+1]=0
   ·rw[Yk a,Yk ⟨c,a⟩]
   ·rw[Ym a,Ym fun h=>a h.2,D2]
    rfl
  ·rw[Ym fun h=>c h.1,List.drop_eq_nil_of_le (by omega)]
   simp[EF]
theorem Zxr(l:List Pr)(hl:l.length≤4194304)(j:∀p∈l,(1≤p.key.kind∧p.key.kind≤9)∧A2 p.key):jQ l=some (F9 l):=by
 have C:=ZAD l (by omega)
 have t:FD l (fun z0 s=>ML z0 s)=some (C4 Bk l):=by
  have h:=p6 (pf:=fun z0 s=>ML z0 s) (cmp:=Bk) nB l (fun x hx y hy=>by
   dsimp only[ML,b0,wg,lr,cl]
   rw[sf (j x hx).1 (j x hx).2 (j y hy).2]
   rfl) hl
  rw[jL Fa l]at h
  exact h
 have u:=j6 (cf:=Bk) l
 have a:∀p∈C4 Bk l,(1≤p.key.kind∧p.key.kind≤9)∧A2 p.key:=fun p d=>j p ((Vl l).mem_iff.1 d)
 have v:=Zlv (C4 Bk l) (C4 Bk l).length (Yf _)
 rw[SL,Zqf,show EF []=[]from rfl,HO]at v
 rw[v]
 generalize C4 Bk l=m at t u a
 have r:=FG (B:=NG m) (N:=Am) (ρ:=List Pr) m (fun p=>GT m p.length) (fun i b=>(b,i)) id (fun i p d=>by
  have w:=BM d
  have hi:=(Yb.1 d).1
  have g:i+1<9223372036854775808:=by omega
  have A:(m.take i).length=i:=by rw[YD];omega
  have o:(m.take i++[p]).length=i+1:=by rw[Yt,A];rfl
  have F:m.getD i Rw.z=p:=by rw[Yg,d];rfl
  have a1:=Zvz m i
  have z:((i+1:Nat):Int)=m.length↔i+1=m.length:=by omega
  rw[A,o,GT,F]
  have k:(GT m i).length<549755813887:=by omega
  generalize GT m i=out at k⊢
  dsimp only[NG,TA,br,vz,vw,wg,vs,vg,ln,Ai,ap,AO,wa,ir,ca,fl,BF,br]
  by_cases c:i+1=m.length
  ·have e:¬i+1<m.length:=by omega
   simp only[w,g,z,c,e,d,k,hi,Yr,YZ,Oy,Yo,Ya,Ov,Yv,YN,OJ]
   have E:m.length<9223372036854775808:=by omega
   simp[E]
  ·have e:i+1<m.length:=by omega
   have hm:m.getD (i+1) Rw.z∈m:=by rw[Yg,Ye e];exact Gi e
   have D:=ZRz (a p (Yi d)).1 (a p (Yi d)).2 (a _ hm).2
   simp only[w,g,z,c,e,d,D,hi,Yr,YU,Y8,Kc,Ya,Gn,YT,forall_const,Yv,HT]
   generalize m.getD (i+1) Rw.z=q
   by_cases f:Bk p q=0
   ·have n:Cd p.key q.key=0:=f
    simp[f,n,g]
   ·have n:¬Cd p.key q.key=0:=f
    simp[f,n,g,k]) (by dsimp only[NG,TA,br,vz,vw,wg,vs,vg,ln,Ai,ap,AO,wa,ir,ca,fl,BF,br];simp) (A1 (by omega))
 have r:Al (NG m) Am ([],0)=some (.inl (GT m m.length)):=r
 dsimp only[jQ,pc,fG,ct,aN,fW,a8,eX,aW,fV,vz,vw,lr,lc,rn,fl,fr,BF]
 rw[C,Ya,t,Ya,Yk u.symm,r]
 rfl
theorem ZGj(a b:List Raw)(f:a.length≤1048576)(g:b.length≤1048576):j5 a b=some (DF (a++b)):=by
 have c:=ZOC a b f g
 have d:=ZIl (a++b) (by rw[Yt];omega)
 rw[ZBd]
 have e:=j6 (cf:=GR) (a++b)
 dsimp only[j5,fB,gb,dZ,cM,aB,dn,vz,vw,lr,lc,rn,fl,fr]
 rw[c,Ya,d,Ya,Yk e.symm]
theorem ZHi{s:Scm}(R:Scm→ByteArray→Val→Val→Option Val)(d:Nat)(m:∀d':Nat,d=d'+1→ZP s R d')(f:Fld)(x y:Val)(l:GdF s f)(hx:A2 x)(hy:A2 y)(h:B7 (Ba s true d) s true f x=0)(i:B7 (Ba s true d) s true f y=0):Vd R s f x y=some (Eb (BX s d) f x y):=by
 have j:=Cr hx
 have k:=Cr hy
 unfold Eb
 dsimp only[Vd,nj,mR,bR,cV,bW,cW,eS,aO,et,dR,dy,br,vz,vw,wg,lr,lc,cl,cs,fl,fz,fr,br]
 by_cases b:f.card=4
 ·rw[Yk (Yn b),ZPw _ _ j.l k.l,Yk b]
  rfl
 ·rw[Ym (by simp[b]),Ym b]
  by_cases a:f.card=5
  ·have t:=j.p
   have r:=k.p
   have e:=Zxr (x.pairs++y.pairs) (by rw[Yt];omega) fun p g=>by
    rcases Gk.1 g with g|g
    ·exact Zpw l hx a h p g
    ·exact Zpw l hy a i p g
   rw[Yk (Yn a),ZPJ _ _ j.p k.p,Ya,e,Yk a]
   rfl
  ·rw[Ym (by simp[a]),Ym a]
   by_cases c:f.type.kind=10
   ·unfold B7 at h i
    rw[Ym b,Ym a]at h i
    obtain⟨d',e,n⟩:=V0 c h
    obtain⟨d2,q,o⟩:=V0 c i
    have:d2=d':=by omega
    subst this
    subst e
    rw[Yk (Yn c),Yk c,m d2 rfl f.type.name x y hx hy n.w o.w]
    rfl
   ·rw[Ym (by simp[c]),Ym c]
theorem ZJw(l:List Slt)(k:Int)(h:l.length<4611686018427387904):U9 l k=some (CX l fun x=>decide (x.num=k)):=by
 dsimp only[U9,li,lr,cs]
 rw[xm l (fun z0=>U7 z0 k) (fun x=>decide (x.num=k)) (fun x _=>rfl) h]
 rfl
theorem ZPH{s:Scm}(hs:As (Au s)≤1048576)(g:GdS s)(R:Scm→ByteArray→Val→Val→Option Val)(d:Nat)(hR:∀d':Nat,d=d'+1→ZP s R d')(n:ByteArray)(a b:Val)(E:A2 a)(G:A2 b)(w:OkW s true d (Bf s n).1 a)(f:OkW s true d (Bf s n).1 b):TY R s n a b=some (BX s (d+1) n a b):=by
 have M:=Cr E
 have O:=Cr G
 have P:U1 s n=some (Bf s n):=n61 s n (Fr hs).ml
 have t:=g.asc n
 have hl:(AY s n).length≤1048576:=MY (Fr hs) n
 have s1:=M.s
 have s2:=O.s
 have o:=ZSB (Bf s n).1 a.slots b hl s1 (by omega)
 have Q:=ZGj a.raws b.raws M.r O.r
 rw[show(Bf s n).1.fields=AY s n from rfl]at o
 have pa:a.slots.Pairwise fun x y=>x.num≠y.num:=w.pw.imp fun h=>h.1
 have pb:b.slots.Pairwise fun x y=>x.num≠y.num:=f.pw.imp fun h=>h.1
 have S:=ZH3 (R:=BX s d) t pa f.pw (fun x hx=>(w.sl x hx).1) (fun x hx=>(f.sl x hx).1)
 have D:∀x∈a.slots.filter (fun x=>!CW (AY s n) (A7 (AY s n) x.num) b.slots),x∈a.slots:=fun x hx=>(Dp.1 hx).1
 have lA:=Kg (fun x=>!CW (AY s n) (A7 (AY s n) x.num) b.slots) a.slots
 have L:(a.slots.filter fun x=>!CW (AY s n) (A7 (AY s n) x.num) b.slots).Pairwise fun x y=>x.num≠y.num:=pa.filter _
 rw[BX,←S]
 generalize (a.slots.filter fun x=>!CW (AY s n) (A7 (AY s n) x.num) b.slots)=A at o D lA L⊢
 have fl:∀k,(BR (AY s n) k).2=true→A7 (AY s n) k∈AY s n:=fun k H=>by
  rcases ZvT (AY s n) k with⟨c,_⟩|⟨_,c⟩
  ·rw[H]at c;cases c
  ·exact c
 have z:=FG (B:=NJ s a b R (Bf s n)) (N:=Am) (ρ:=Val) b.slots (fun p=>B8 (BX s d) (AY s n) A p) (fun i b=>(b,i)) id (fun i y hy=>by
  have X:=BM hy
  have hi:=(Yb.1 hy).1
  have C:i+1<9223372036854775808:=by omega
  have hm:=Yi hy
  have T:=n43 (Bf s n).1 y.num hl
  have I:∀x∈b.slots.take i,x.num≠y.num:=fun x hx=>by
   obtain⟨j,v⟩:=YK.1 hx
   have e:j<i:=by have:=(Yb.1 v).1;rw[YD]at this;omega
   rw[Y5,Yk e]at v
   obtain⟨j1,j2⟩:=Yb.1 v
   obtain⟨i1,i2⟩:=Yb.1 hy
   rw[←j2,←i2]
   exact(HQ.1 pb) j i j1 i1 e
  have l1:=Zsf (BX s d) (AY s n) A (b.slots.take i)
  rw[YD]at l1
  have l2:(B8 (BX s d) (AY s n) A (b.slots.take i)).length<549755813887:=by omega
  have U:=ZJw (B8 (BX s d) (AY s n) A (b.slots.take i)) y.num (by omega)
  dsimp only[NJ,S5,DY,br,ix,vz,vw,wg,vs,ln,Ai,ap,cl,cs,wa,AH,cp,rn,fl,br,AH]
  simp only[X,hy,Yr,Yv,Ya,T,U]
  cases r:A.findIdx? fun x=>decide (x.num=y.num)with
  |none=>
   obtain⟨t1,t2⟩:=ZEt (R:=BX s d) (F:=AY s n) I r
   have q:CX (B8 (BX s d) (AY s n) A (b.slots.take i)) (fun x=>decide (x.num=y.num))= -1:=by unfold CX;rw[t1]
   rw[q,t2]
   simp[l2,C]
  |some k=>
   obtain⟨x,t1,t2,t3,t4⟩:=ZKJ (R:=BX s d) (F:=AY s n) L I r
   have t0:=ZL2 (R:=BX s d) (F:=AY s n) (p:=b.slots.take i) r
   have q:CX (B8 (BX s d) (AY s n) A (b.slots.take i)) (fun x=>decide (x.num=y.num))=(k:Int):=by unfold CX;rw[t0]
   have hx:x∈a.slots:=D x (Yi t1)
   have J:=w.sl x hx
   have K:=f.sl y hm
   rw[t3]at J
   have u:=fl _ K.1
   have V:=ZHi R d hR (A7 (AY s n) y.num) x.val y.val (g.fl n _ u) (In E hx) (In G hm) J.2 K.2
   have H:=(Yb.1 t2).1
   have W:(BR (Bf s n).1.fields y.num).1=A7 (AY s n) y.num:=rfl
   have Y:(0:Int)≤(k:Int):=by omega
   have Z:(k:Int)<((B8 (BX s d) (AY s n) A (b.slots.take i)).length:Int):=by omega
   rw[q,t4,W]
   simp only[Y,Z,t2,V,Yr,Yv,Ya,YV,Ck,OG,D5]
   simp[C]) (by dsimp only[NJ,S5,DY,br,ix,vz,vw,wg,vs,ln,Ai,ap,cl,cs,wa,AH,cp,rn,fl,br,AH];simp) (A1 (by omega))
 have z:Al (NJ s a b R (Bf s n)) Am (A,0)=some (.inl (B8 (BX s d) (AY s n) A b.slots)):=by
  have:=z
  rw[ZD9]at this
  exact this
 have l3:=Zsf (BX s d) (AY s n) A b.slots
 have l:=ZDK (B8 (BX s d) (AY s n) A b.slots) (by omega)
 have m:=j6 (cf:=IP) (B8 (BX s d) (AY s n) A b.slots)
 have w1:a.slots.length≤549755813888:=by omega
 dsimp only[TY,bQ,gh,dT,fe,fj,aP,bH,vz,wg,lr,lc,cl,rn,msr,cpr,fl,fr,An]
 rw[P,Ya,Yk w1,Yk ⟨Yf _,rfl⟩,o,Ya,z]
 simp only[Ya,CJ,l,m,Q,Yv]
theorem xG{s:Scm}(hs:As (Au s)≤1048576)(g:GdS s):∀c d:Nat,d<c→ZP s (MI c) d
 |0,d,h=>by omega
 |c+1,d,h=>fun n a b f i j k=>ZPH hs g (MI c) d (fun d' e=>xG hs g c d' (by omega)) n a b f i j k
theorem ZBp{s:Scm}(hs:As (Au s)≤1048576)(g:GdS s)(n:ByteArray)(a b:Val)(c:A2 a)(d:A2 b)(e:OkW s true 15 (Bf s n).1 a)(f:OkW s true 15 (Bf s n).1 b):MI Am s n a b=some (BX s 16 n a b):=xG hs g Am 15 (A1 (by omega)) n a b c d e f
def wO(o:Option Slt):Nat:=o.elim 0 fun x=>As (Aq x)+1
theorem kG(x:Slt)(l:List Slt)(k:Int):Bx (x::l) k=if x.num=k then some x else Bx l k:=by
 unfold Bx
 rw[List.find?_cons]
 by_cases h:x.num=k<;>simp[h]
theorem ZrL(x:Slt)(l:List Slt):∀{F:List Fld},(F.Pairwise fun a b=>a.num<b.num)→(F.map fun f=>wO (Bx (x::l) f.num)).sum≤As (Aq x)+1+(F.map fun f=>wO (Bx l f.num)).sum
 |[],_=>Cv _
 |f::F,h=>by
  obtain⟨d,i⟩:=Y2.1 h
  have k:=ZrL x l i
  simp only[YW,List.sum_cons]
  rw[kG]
  by_cases c:x.num=f.num
  ·have e:(F.map fun f=>wO (Bx (x::l) f.num))=F.map fun f=>wO (Bx l f.num):=Es fun g j=>by
    have:=d g j
    rw[kG,Ym (by omega)]
   rw[Yk c,e]
   show As (Aq x)+1+_≤_
   omega
  ·rw[Ym c]
   omega
theorem lE{F:List Fld}(h:F.Pairwise fun a b=>a.num<b.num):∀l:List Slt,(F.map fun f=>wO (Bx l f.num)).sum≤AR (l.map Aq)
 |[]=>by
  have e:(F.map fun f=>wO (Bx [] f.num))=F.map fun _=>0:=rfl
  rw[e]
  clear h e
  induction F with
  |nil=>exact Yf _
  |cons f F c=>simpa using c
 |x::l=>by
  have d:=ZrL x l h
  have g:=lE h l
  rw[YW,AR]
  omega
theorem ZEV{R:ByteArray→Val→Val→Val}(d:∀n x y,As (Ag (R n x y))≤As (Ag x)+As (Ag y))(f:Fld)(x y:Val):As (Ag (Eb R f x y))≤As (Ag x)+As (Ag y):=by
 have b:rk .u64 0=0:=by decide
 have e:(⟨#[]⟩:ByteArray).size=0:=rfl
 unfold Eb
 split
 ·have a:rk .i64 11=0:=by decide
  rw[LD,F0 x,F0 y,DM,Gx]
  simp only[a,b,D4,AR]
  omega
 ·split
  ·have a:rk .i64 12=0:=by decide
   have c:=mj (x.pairs++y.pairs) (x.pairs++y.pairs).length
   rw[L2,DM,Gx]at c
   rw[LD,F0 x,F0 y]
   simp only[a,b,D4,AR,F9]
   omega
  ·split
   ·exact d _ _ _
   ·omega
theorem ZKo{R:ByteArray→Val→Val→Val}(e:∀n x y,As (Ag (R n x y))≤As (Ag x)+As (Ag y))(F:List Fld)(a b:List Slt)(f:Fld):AR ((Du R F a b f).map Aq)≤wO (Bx a f.num)+wO (Bx b f.num):=by
 have s:∀(k:Int) (v:Val),AR (([Slt.mk k v]:List Slt).map Aq)=rk .i64 k+As (Ag v)+1:=fun k v=>by
  rw[YW,D4,AR,TX]
  rfl
 have w:∀(l:List Slt) (x:Slt),Bx l f.num=some x→wO (Bx l f.num)=rk .i64 f.num+As (Ag x.val)+1:=fun l x h=>by
  rw[h,←(Hv h).2,←TX]
  rfl
 unfold Du
 split
 ·rename_i x y c d
  have:=ZEV e f x.val y.val
  rw[s,w a x c,w b y d]
  omega
 ·rename_i y c d
  rw[s,w b y d]
  omega
 ·rename_i x c d
  split
  ·exact Cv _
  ·rw[s,w a x c]
   omega
 ·exact Cv _
theorem sm{R:ByteArray→Val→Val→Val}(c:∀n x y,As (Ag (R n x y))≤As (Ag x)+As (Ag y))(F:List Fld)(a b:List Slt):∀l:List Fld,AR ((F3 R F a b l).map Aq)≤(l.map fun f=>wO (Bx a f.num)).sum+(l.map fun f=>wO (Bx b f.num)).sum
 |[]=>Cv _
 |f::l=>by
  have d:=sm c F a b l
  have h:=ZKo c F a b f
  show AR ((Du R F a b f++F3 R F a b l).map Aq)≤_
  rw[DM,Gx]
  simp only[YW,List.sum_cons]
  omega
theorem rX{s:Scm}(h:∀n:ByteArray,Ds (AY s n) (AY s n).length):∀(d:Nat) (n:ByteArray) (a b:Val),As (Ag (BX s d n a b))≤As (Ag a)+As (Ag b)
 |0,n,a,b=>OC _ _
 |d+1,n,a,b=>by
  have e:rk .i64 10=0:=by decide
  have f:rk .u64 0=0:=by decide
  have g:=sm (fun n x y=>rX h d n x y) (AY s n) a.slots b.slots (AY s n)
  have i:=lE (Nc (h n)) a.slots
  have j:=lE (Nc (h n)) b.slots
  have c:=mU (a.raws++b.raws) []
  rw[DM,Gx]at c
  rw[BX,LD,F0 a,F0 b,DF]
  simp only[e,f,c,D4,AR]
  have:(⟨#[]⟩:ByteArray).size=0:=rfl
  omega
def vO(l:List Slt)(k:Int):Option Val:=(Bx l k).map Slt.val
theorem ZKF(l:List Slt)(k:Int):Ca l k=(vO l k).isSome:=by
 rw[Zpg,vO,Option.isSome_map]
def mo(R:ByteArray→Val→Val→Val)(f:Fld)(A B:Option Val)(r:Bool):Option Val:=
 match A,B with
 |some x,some y=>some (Eb R f x y)
 |none,some y=>some y
 |some x,none=>if r=true then none else some x
 |none,none=>none
theorem ZHK(R:ByteArray→Val→Val→Val)(F:List Fld)(a b:List Slt)(f:Fld):Du R F a b f=((mo R f (vO a f.num) (vO b f.num) (CW F f b)).map (Slt.mk f.num)).toList:=by
 unfold Du vO mo
 cases Bx a f.num with
 |none=>cases Bx b f.num<;>rfl
 |some x=>
  cases Bx b f.num with
  |some y=>rfl
  |none=>
   show(if CW F f b=true then[]else[Slt.mk f.num x.val])=((if CW F f b=true then none else some x.val).map (Slt.mk f.num)).toList
   split<;>rfl
theorem rv{R:ByteArray→Val→Val→Val}{F:List Fld}{a b:List Slt}:∀{l:List Fld},(l.Pairwise fun a b=>a.num<b.num)→∀f∈l,vO (F3 R F a b l) f.num=mo R f (vO a f.num) (vO b f.num) (CW F f b)
 |g::l,h,f,c=>by
  obtain⟨d,j⟩:=Y2.1 h
  have e0:vO (F3 R F a b (g::l)) f.num=(vO (Du R F a b g) f.num).or (vO (F3 R F a b l) f.num):=by
   show vO (Du R F a b g++F3 R F a b l) f.num=_
   unfold vO Bx
   rw[SW]
   cases List.find? (fun x:Slt=>decide (x.num=f.num)) (Du R F a b g)<;>rfl
  rw[e0]
  rcases Yx.1 c with rfl|c
  ·have i:vO (F3 R F a b l) f.num=none:=by
    unfold vO
    rw[QN.2 fun x hx=>by
     obtain⟨k,m,hx⟩:=SM.1 hx
     rw[VI hx]
     have:=d k m
     omega]
    rfl
   rw[i,ZHK]
   cases mo R f (vO a f.num) (vO b f.num) (CW F f b)with
   |none=>rfl
   |some v=>
    show(vO [Slt.mk f.num v] f.num).or none=some v
    unfold vO
    rw[kG,Yk (show(Slt.mk f.num v).num=f.num from rfl)]
    rfl
  ·have e:vO (Du R F a b g) f.num=none:=by
    unfold vO
    rw[QN.2 fun x hx=>by
     rw[VI hx]
     have:=d f c
     omega]
    rfl
   rw[e,rv j f c]
   rfl
theorem nQ{l:List Slt}{k:Int}{v:Val}(h:vO l k=some v):∃x∈l,x.num=k∧x.val=v:=by
 unfold vO at h
 obtain⟨x,a,b⟩:=I1.1 h
 exact⟨x,(Hv a).1,(Hv a).2,b⟩
theorem ZLs{F:List Fld}{f:Fld}{b:List Slt}(h:CW F f b=true):∃g∈F,g.union=f.union∧f.union≠⟨#[]⟩∧g.num≠f.num∧(vO b g.num).isSome=true:=by
 unfold CW at h
 obtain⟨g,a,c⟩:=YQ.1 h
 simp only[Yc,YJ,YB,YL,ZKF]at c
 exact⟨g,a,c.1.1.2,c.1.1.1,c.1.2,c.2⟩
theorem ZMQ(p:Pr):Bk p p=0:=(JM p p).2 ⟨Fa.ir p,Fa.ir p⟩
theorem ZFw{l m:List Pr}{p:Pr}:Pd (l++m) p↔Pd m p∨(Pd l p∧∀q∈m,¬Bk p q=0):=by
 constructor
 ·rintro⟨j,b,d⟩
  by_cases c:j<l.length
  ·rw[Yp c]at b
   refine .inr ⟨⟨j,b,fun k y a e=>?_⟩,fun q n e=>?_⟩
   ·have f:=(Yb.1 a).1
    exact d k y (by rw[Yp f];exact a) e
   ·obtain⟨i,hi⟩:=YK.1 n
    have:=d (l.length+i) q (by rw[Ys (by omega),Oq];exact hi) e
    omega
  ·rw[Ys (by omega)]at b
   refine .inl ⟨j-l.length,b,fun k y a e=>?_⟩
   have:=d (l.length+k) y (by rw[Ys (by omega),Oq];exact a) e
   omega
 ·rintro(⟨j,b,d⟩|⟨⟨j,b,d⟩,g⟩)
  ·refine⟨l.length+j,by rw[Ys (by omega),Oq];exact b,fun k y a e=>?_⟩
   by_cases c:k<l.length
   ·omega
   ·rw[Ys (by omega)]at a
    have:=d (k-l.length) y a e
    omega
  ·have h:=(Yb.1 b).1
   refine⟨j,by rw[Yp h];exact b,fun k y a e=>?_⟩
   by_cases c:k<l.length
   ·rw[Yp c]at a
    exact d k y a e
   ·rw[Ys (by omega)]at a
    exact absurd e (g y (Yi a))
theorem ZKn{l:List Pr}(h:Fj l){p:Pr}:Pd l p↔p∈l:=by
 constructor
 ·rintro⟨j,c,_⟩
  exact Yi c
 ·intro f
  obtain⟨j,b⟩:=YK.1 f
  refine⟨j,b,fun k y d e=>Nat.le_of_not_lt fun a=>?_⟩
  obtain⟨g,i⟩:=Yb.1 b
  obtain⟨m,n⟩:=Yb.1 d
  have:=HQ.1 h j k g m a
  rw[i,n]at this
  exact((JM p y).1 e).1 this
theorem ZSU{R:ByteArray→Val→Val→Val}{f:Fld}(c:f.card=4)(x y:Val):Eb R f x y=.mk 11 0 ⟨#[]⟩ (x.list++y.list) [] [] []:=Yk c
theorem ZRO{R:ByteArray→Val→Val→Val}{f:Fld}(c:f.card=5)(x y:Val):Eb R f x y=.mk 12 0 ⟨#[]⟩ [] (F9 (x.pairs++y.pairs)) [] []:=(Ym (by omega)).trans (Yk c)
theorem ZRj{R:ByteArray→Val→Val→Val}{f:Fld}(a:¬f.card=4)(b:¬f.card=5)(c:f.type.kind=10)(x y:Val):Eb R f x y=R f.type.name x y:=(Ym a).trans ((Ym b).trans (Yk c))
theorem ZRy{R:ByteArray→Val→Val→Val}{f:Fld}(a:¬f.card=4)(b:¬f.card=5)(c:¬f.type.kind=10)(x y:Val):Eb R f x y=y:=(Ym a).trans ((Ym b).trans (Ym c))
theorem Zwv{s:Scm}(g:GdS s){d:Nat}{n:ByteArray}{a:Val}(pa:a.slots.Pairwise fun x y=>x.num≠y.num)(e:a=BU s (d+1) n a):FY a.slots∧(∀x∈a.slots,ZR (CG (BU s d)) (AY s n) x)∧DF a.raws=a.raws∧a=.mk 10 0 ⟨#[]⟩ [] [] a.slots a.raws:=by
 obtain⟨c,f,h,i,j,k,b⟩:=mY.1 e
 obtain⟨l,m⟩:=ZMh (g.asc n) pa k
 have b:a.raws=DF a.raws:=b
 exact⟨l,m,b.symm,mY.2 ⟨c,f,h,i,j,rfl,rfl⟩⟩
theorem cY{v:Val}(h:BW v=false)(k:v.kind≠11):v.list=[]:=by
 unfold BW at h
 rw[YL]at h
 exact ag.1 (rc fun c=>h (.inl ⟨k,c⟩))
theorem fC{v:Val}(h:BW v=false)(k:v.kind≠12):v.pairs=[]:=by
 unfold BW at h
 rw[YL]at h
 exact ag.1 (rc fun c=>h (.inr (.inl ⟨k,c⟩)))
theorem zP{s:Scm}{d:Nat}{t:Typ}{v:Val}(b:1≤t.kind∧t.kind≤10)(h:Dk (Ba s true d) s t v=0):v.list=[]∧v.pairs=[]:=by
 by_cases c:t.kind=10
 ·obtain⟨d',_,o⟩:=V0 c h
  have:=o.kd
  exact⟨cY o.ot (by omega),fC o.ot (by omega)⟩
 ·unfold Dk at h
  rw[Ym c,Ym (by omega)]at h
  have a:DW t.kind v=0:=by
   by_cases e:DW t.kind v=0
   ·exact e
   ·rw[Yk (.inl e)]at h
    exact h
  obtain⟨k,o,_⟩:=iH a
  exact⟨cY o (by omega),fC o (by omega)⟩
theorem ZzE{x y:List Pr}(h:Fj y):y.length≤(F9 (x++y)).length:=by
 have b:∀{l:List Pr},Fj l→l.Nodup:=fun hl=>hl.imp fun {x y} h e=>by subst e;exact Fa.ir _ h
 have a:y.Perm ((F9 (x++y)).filter fun p=>y.any fun q=>decide (Bk p q=0)):=(qX (b h) ((b (kR _)).filter _)).2 fun p=>by
  rw[Dp,Zpm,ZFw,ZKn h,YQ]
  constructor
  ·intro a
   exact⟨.inl a,p,a,Yn (ZMQ p)⟩
  ·rintro⟨a|⟨_,c⟩,q,d,e⟩
   ·exact a
   ·exact absurd (Y3 e) (c q d)
 rw[a.length_eq]
 exact Kg _ _
theorem Zv1{s:Scm}{d:Nat}{N:ByteArray→Val→Val}{f:Fld}{x y:Val}(m:GdF s f)(i:B7 (Ba s true d) s true f x=0)(a:B7 (Ba s true d) s true f y=0)(j:CG N f y=y):(Eb (BX s d) f x y).list=x.list++y.list∧y.pairs.length≤(Eb (BX s d) f x y).pairs.length∧(¬f.card=4→¬f.card=5→¬f.type.kind=10→Eb (BX s d) f x y=y):=by
 by_cases b:f.card=4
 ·unfold B7 at a
  rw[Yk b]at a
  have h:¬(y.kind≠11∨BW y=true):=fun c=>by rw[Yk c]at a;cases a
  have o:y.kind=11:=Decidable.byContradiction fun c=>h (.inl c)
  have p:BW y=false:=by cases e:BW y with|true=>exact absurd (.inr e) h|false=>rfl
  rw[ZSU b,fC p (by omega)]
  exact⟨rfl,Cv _,fun c=>absurd b c⟩
 ·by_cases g:f.card=5
  ·unfold B7 at i a
   rw[Ym b,Yk g]at i a
   have k:∀v:Val,(if v.kind≠12∨BW v=true then(12:Int)else Cc (Kw (Dk (Ba s true d) s f.type) f.key true v.pairs) v.pairs 0)=0→v.list=[]:=fun v h=>by
    have l:¬(v.kind≠12∨BW v=true):=fun c=>by rw[Yk c]at h;cases h
    have o:v.kind=12:=Decidable.byContradiction fun c=>l (.inl c)
    exact cY (by cases e:BW v with|true=>exact absurd (.inr e) l|false=>rfl) (by omega)
   have q:Fj y.pairs:=by
    unfold CG at j
    rw[Ym b,Yk g]at j
    rw[←j]
    exact kR _
   rw[ZRO g,k x i,k y a]
   exact⟨rfl,ZzE q,fun _ c=>absurd g c⟩
  ·unfold B7 at i a
   rw[Ym b,Ym g]at i a
   obtain⟨n,u⟩:=zP m.ty i
   obtain⟨r,t⟩:=zP m.ty a
   by_cases c:f.type.kind=10
   ·obtain⟨d',e,_⟩:=V0 c i
    subst e
    rw[ZRj b g c,n,r,t]
    exact⟨rfl,Cv _,fun _ _ h=>absurd c h⟩
   ·rw[ZRy b g c,n]
    exact⟨rfl,Yf _,fun _ _ _=>rfl⟩
def GS(l:List Slt)(k:Int):Val×Bool:=(vO l k).elim (zV,false) fun x=>(x,true)
theorem kI(v:Val)(k:Int)(h:v.slots.length≤4194304):jm v k=some (GS v.slots k):=by
 have w:v.slots.length<4611686018427387904:=by omega
 have f:=Eu (B:=RX v k) (N:=Am) v.slots (fun x=>decide (x.num=k)) (fun i=>((v.slots.getD i Rw.z).val,true)) () (fun i x hx=>by
  have b:=BM hx
  have c:i+1<9223372036854775808:=by have:=(Yb.1 hx).1;omega
  have d:v.slots.getD i Rw.z=x:=by rw[Yg,hx];rfl
  dsimp only[RX,TB,br,ix,wg,vs,Ay,ln,Ai,wa,br]
  simp only[w,b,c,d,hx,Yr,Yv,Ya]
  cases decide (x.num=k)<;>rfl) (by dsimp only[RX,TB,br,ix,wg,vs,Ay,ln,Ai,wa,br];simp[w]) (A1 (by omega))
 dsimp only[jm,aL,ff,eP,vz,wg,lr,lc,An]
 unfold GS vO Bx
 rw[f,VK]
 cases e:v.slots.findIdx? fun x=>decide (x.num=k)with
 |none=>rfl
 |some i=>
  have a:=(Kj.1 e).1
  simp[Ye a]
theorem mz{v:Val}(h:A2 v)(k:Int):A2 (GS v.slots k).1:=by
 unfold GS
 cases e:vO v.slots k with
 |none=>show As (Ag zV)≤1048576;decide
 |some x=>
  obtain⟨z,a,_,b⟩:=nQ e
  rw[←b]
  exact In h a
theorem ZqP{s:Scm}(g:GdS s){d:Nat}{n:ByteArray}{a b:Val}(D:OkW s true d (Bf s n).1 a)(E:OkW s true d (Bf s n).1 b)(B:∀x∈b.slots,ZR (CG (BU s d)) (AY s n) x){f:Fld}(p:f∈AY s n){X Y Z:Val×Bool}(e:GS a.slots f.num=X)(i:GS b.slots f.num=Y)(c:GS (BX s (d+1) n a b).slots f.num=Z):
  (((Y.2&&!Z.2)||((X.2&&decide (f.union=⟨#[]⟩))&&!Z.2))||((Z.2&&!X.2)&&!Y.2))=false∧(Y.2=false→Z.2=true→X.1=Z.1)∧(Y.2=true→Z.1.list=X.1.list++Y.1.list∧Y.1.pairs.length≤Z.1.pairs.length∧(¬f.card=4→¬f.card=5→¬f.type.kind=10→Z.1=Y.1)):=by
 have k:=g.asc n
 have o:A7 (Bf s n).1.fields f.num=f:=congrArg Prod.fst (K9 k p)
 have e0:vO (BX s (d+1) n a b).slots f.num=mo (BX s d) f (vO a.slots f.num) (vO b.slots f.num) (CW (AY s n) f b.slots):=rv (Nc k) f p
 unfold GS at e i c
 rw[e0]at c
 cases m:vO b.slots f.num with
 |none=>
  rw[m]at i c
  cases j:vO a.slots f.num with
  |none=>
   rw[j]at e c
   subst e i c
   exact⟨rfl,fun _ h=>Bool.noConfusion h,fun h=>Bool.noConfusion h⟩
  |some x=>
   rw[j]at e c
   cases q:CW (AY s n) f b.slots with
   |true=>
    rw[q]at c
    subst e i c
    obtain⟨_,_,_,C,_⟩:=ZLs q
    refine⟨?_,fun _ h=>Bool.noConfusion h,fun h=>Bool.noConfusion h⟩
    simp[mo,C]
   |false=>
    rw[q]at c
    subst e i c
    refine⟨?_,fun _ _=>rfl,fun h=>Bool.noConfusion h⟩
    simp[mo]
 |some y=>
  rw[m]at i c
  obtain⟨z,r,t,u⟩:=nQ m
  have w:=(E.sl z r).2
  rw[t,o,u]at w
  have l:=(B z r).2.2
  rw[t,show A7 (AY s n) f.num=f from o,u]at l
  cases j:vO a.slots f.num with
  |none=>
   rw[j]at e c
   subst e i c
   exact⟨rfl,fun h=>Bool.noConfusion h,fun _=>⟨rfl,Yf _,fun _ _ _=>rfl⟩⟩
  |some x=>
   rw[j]at e c
   subst e i c
   obtain⟨F,a1,A,a3⟩:=nQ j
   have v:=(D.sl F a1).2
   rw[A,o,a3]at v
   exact⟨by simp[mo],fun h=>Bool.noConfusion h,fun _=>Zv1 (g.fl n f p) v w l⟩
theorem Znl{s:Scm}{n:ByteArray}{a b:Val}(hs:As (Au s)≤1048576)(_:(0:Nat)≤1)(y:As (Ag a)≤1048576)(U:As (Ag a)+As (Ag b)≤1048576):iZ s n a b=some true:=by
 have q:A2 b:=by show As (Ag b)≤1048576;omega
 have e:A2 a:=y
 obtain⟨K,O,u⟩:=o16 hs
 dsimp only[iZ,fy,iy,gR,br,vz,wg,lr,lc,cl,AO,An,br]
 rw[O,ZUD]
 cases K with
 |false=>simp
 |true=>
 have g:=ZNN (u rfl) hs
 obtain⟨L,P,J⟩:=Zod hs g n a y
 obtain⟨M,Q,a3⟩:=Zod hs g n b q
 rw[P,Q]
 cases L with
 |false=>simp
 |true=>
 cases M with
 |false=>simp
 |true=>
 have G:=(ni.1 (J.1 rfl).1).2.1.w
 have C:=(ni.1 (a3.1 rfl).1).2.1.w
 have V:=(Zwv g (C.pw.imp fun h=>h.1) (a3.1 rfl).2).2.1
 have R:=ZBp hs g n a b y q G C
 have hm:A2 (BX s 16 n a b):=by
  have:=rX g.asc 16 n a b
  show As (Ag (BX s 16 n a b))≤1048576
  omega
 have S:KU s n=some (Bf s n):=Zq s n (Fr hs).ml
 have hl:(AY s n).length≤1048576:=MY (Fr hs) n
 have key:=fun f d=>@ZqP s g 15 n a b G C V f d _ _ _ rfl rfl rfl
 rw[R,S]
 generalize BX s 16 n a b=v at hm key
 have I:(AY s n).length<4611686018427387904:=by omega
 have D:∀v:Val,A2 v→Jv Am v v=some true:=fun v F=>by
  obtain⟨b9,c,a9⟩:=wd F F
  rw[c,a9.2 rfl]
 have q1:=PM (B:=OU a b v (Bf s n)) (N:=Am) (AY s n) (fun _=>false) false () (fun i f d=>by
  have u:=BM d
  have w:i+1<9223372036854775808:=by have:=(Yb.1 d).1;omega
  have f1:=kI a f.num (by have:=(Cr e).s;omega)
  have f2:=kI b f.num (by have:=(Cr q).s;omega)
  have f3:=kI v f.num (by have:=(Cr hm).s;omega)
  have z:=mz e f.num
  have l:=mz q f.num
  have A:=mz hm f.num
  obtain⟨m,o,p⟩:=key f (Yi d)
  generalize GS a.slots f.num=X at f1 z m o p
  generalize GS b.slots f.num=Y at f2 l m o p
  generalize GS v.slots f.num=Z at f3 A m o p
  dsimp only[OU,UD,UJ,Ug,T2,Ut,UF,br,ix,vz,vy,wg,vs,vg,Ay,ln,Ai,lc,p5,cl,AO,wa,wi,An,br]
  rw[show(Bf s n).1.fields=AY s n from rfl]
  simp only[I,u,d,f1,f2,f3,m,Yr,Yv,Ya,Yo,YN]
  have zx:=(Cr z).l
  have zy:=(Cr l).l
  have zz:=(Cr A).l
  have py:=(Cr l).p
  have pz:=(Cr A).p
  cases E:Y.2 with
  |false=>
   cases T:Z.2 with
   |false=>simp[w]
   |true=>
    have c:=D X.1 z
    rw[←o E T,c]
    simp[w]
  |true=>
   obtain⟨d1,d2,d3⟩:=p E
   have d4:Z.1.list.length=X.1.list.length+Y.1.list.length:=by rw[d1,Yt]
   have d5:(Z.1.list.length:Int)-(Y.1.list.length:Int)=(X.1.list.length:Int):=by omega
   have H:=PM (B:=O9 a b v (Bf s n) i f Y Z) (N:=Am) Y.1.list (fun _=>false) false () (fun j x hx=>by
    have W:=BM hx
    have k2:j+1<9223372036854775808:=by have:=(Yb.1 hx).1;omega
    have k3:=(Yb.1 hx).1
    have r:(X.1.list.length:Int)+(j:Int)=((X.1.list.length+j:Nat):Int):=by omega
    have t:Z.1.list[X.1.list.length+j]?=some x:=by rw[d1,Ys (by omega),Oq];exact hx
    have k6: -9223372036854775808≤((X.1.list.length+j:Nat):Int)∧((X.1.list.length+j:Nat):Int)<9223372036854775808:=by omega
    have k7:(0:Int)≤((X.1.list.length+j:Nat):Int)∧((X.1.list.length+j:Nat):Int)<(Z.1.list.length:Int):=by omega
    have c:=D x (NP l (Yi hx))
    dsimp only[O9,TK,br,ix,Cq,wg,vs,Ay,ln,Ai,cl,wa,wi,br]
    rw[d5,r]
    simp only[W,k2,t,k6,k7,hx,c,Yr,Yv,Ya,YV,Ck,YZ,Yo,YN,D5]) (by dsimp only[O9,TK,br,ix,Cq,wg,vs,Ay,ln,Ai,cl,wa,wi,br];simp) (A1 (by omega))
   have q3:(Y.1.list.any fun _=>false)=false:=by simp
   rw[q3]at H
   have w2: -9223372036854775808≤(X.1.list.length:Int)∧(X.1.list.length:Int)<9223372036854775808:=by omega
   have w3:X.1.list.length+Y.1.list.length<9223372036854775808:=by omega
   have w4:decide ((X.1.list.length:Int)<0)=false:=Yq (by omega)
   have w5:decide ((Z.1.pairs.length:Int)<(Y.1.pairs.length:Int))=false:=Yq (by omega)
   have w6:decide ((Z.1.list.length:Int)=((X.1.list.length+Y.1.list.length:Nat):Int))=true:=Yn (by omega)
   rw[d5]
   simp only[w2,w3,w4,w5,w6,H,Ck,SP,Y8,YZ,Yo,forall_const,D5,Yv,YN,Ya,CJ,w]
   by_cases r:f.card=4
   ·simp[r]
   ·by_cases t:f.card=5
    ·simp[t]
    ·by_cases k:f.type.kind=10
     ·simp[k]
     ·have c:=D Y.1 l
      rw[d3 r t k,c]
      simp) (by dsimp only[OU,UD,UJ,Ug,T2,Ut,UF,br,ix,vz,vy,wg,vs,vg,Ay,ln,Ai,lc,p5,cl,AO,wa,wi,An,br];rw[show(Bf s n).1.fields=AY s n from rfl];simp[I]) (A1 (by omega))
 simp[q1]
end Go.Proofs.YtjbijbkdiijhaaaGreat
