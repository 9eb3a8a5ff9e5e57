import Derived.Test.YtjbijbkdiijhaaaGreatZa27
import Derived.Test.YtjbijbkdiijhaaaGreatZa24
import Derived.Test.YtjbijbkdiijhaaaGreatZa00
namespace Go.Proofs.YtjbijbkdiijhaaaGreat
set_option linter.all false
open Go Go.Eng
theorem Jo{l:List Slt}{k:Int}{x:Slt}(h:Bu l k=some x):x∈l∧x.num=k:=⟨HI h,Y0 (p:=x.num=k) (SZ (p:=fun x:Slt=>decide (x.num=k)) h)⟩
theorem o9{l:List Slt}{k:Int}:Bu l k=none↔∀x∈l,x.num≠k:=by
 unfold Bu
 rw[S6]
 simp
theorem rP{α:Type}{R:α→α→Prop}(sy:∀{a b},R a b→R b a){l:List α}(h:l.Pairwise R){x y:α}(hx:x∈l)(hy:y∈l)(n:x≠y):R x y:=by
 obtain⟨i,hi,rfl⟩:=List.mem_iff_getElem.1 hx
 obtain⟨j,d,rfl⟩:=List.mem_iff_getElem.1 hy
 rcases OG i j with c|c|c
 ·exact I1.1 h i j hi d c
 ·subst c
  exact absurd rfl n
 ·exact sy (I1.1 h j i d hi c)
theorem Zpp{l:List Slt}(h:l.Pairwise fun a b=>a.num≠b.num){x:Slt}(hx:x∈l):Bu l x.num=some x:=by
 cases e:Bu l x.num with
 |none=>exact absurd rfl (o9.1 e x hx)
 |some y=>
  obtain⟨d,f⟩:=Jo e
  by_cases c:y=x
  ·rw[c]
  ·exact absurd f (rP (R:=fun a b:Slt=>a.num≠b.num) (fun h e=>h e.symm) h d hx c)
def Fs(R:ByteArray→Val→Val→Val)(F:List Fld)(p:List Slt)(x:Slt):Slt:=.mk x.num ((Bu p x.num).elim x.val fun y=>H7 R (Ba F x.num) x.val y.val)
def B7(R:ByteArray→Val→Val→Val)(F:List Fld)(A p:List Slt):List Slt:=A.map (Fs R F p)++p.filter fun y=>!BZ A y.num
theorem ZyF(p:List Slt)(y:Slt)(k:Int)(h:y.num≠k):Bu (p++[y]) k=Bu p k:=by
 unfold Bu
 rw[Z6]
 simp[h]
theorem Zpe{R:ByteArray→Val→Val→Val}{F:List Fld}{p:List Slt}{y x:Slt}(h:y.num≠x.num):Fs R F (p++[y]) x=Fs R F p x:=by
 unfold Fs
 rw[ZyF p y x.num h]
theorem ZKg(R:ByteArray→Val→Val→Val)(F:List Fld)(A:List Slt):B7 R F A []=A:=by
 have:Fs R F []=id:=funext fun x=>by cases x;rfl
 unfold B7
 rw[this]
 simp
theorem ZP5{R:ByteArray→Val→Val→Val}{F:List Fld}{A p:List Slt}{y:Slt}{i:Nat}(hi:A.findIdx? (fun x=>decide (x.num=y.num))=some i):(B7 R F A p).findIdx? (fun x=>decide (x.num=y.num))=some i:=by
 unfold B7
 rw[List.findIdx?_append,List.findIdx?_map]
 have:((fun x:Slt=>decide (x.num=y.num))∘Fs R F p)=fun x=>decide (x.num=y.num):=rfl
 rw[this,hi]
 rfl
theorem ZJk{R:ByteArray→Val→Val→Val}{F:List Fld}{A p:List Slt}{y:Slt}{i:Nat}(m:A.Pairwise fun a b=>a.num≠b.num)(r:∀x∈p,x.num≠y.num)(hi:A.findIdx? (fun x=>decide (x.num=y.num))=some i):
  ∃x,A[i]?=some x∧(B7 R F A p)[i]?=some x∧x.num=y.num∧B7 R F A (p++[y])=(B7 R F A p).set i (.mk x.num (H7 R (Ba F y.num) x.val y.val)):=by
 obtain⟨d,o,_⟩:=Kn.1 hi
 have hx:A[i]?=some A[i]:=Ye d
 have f:(A[i]).num=y.num:=Y0 o
 have n:Bu p (A[i]).num=none:=by rw[o9,f];exact r
 have t:Fs R F p A[i]=A[i]:=by
  unfold Fs
  rw[n]
  cases A[i]
  rfl
 refine⟨A[i],hx,?_,f,?_⟩
 ·unfold B7
  rw[Yr (by rw[YG];exact d),YR,hx,YY,t]
 ·have s:BZ A y.num=true:=YU.2 ⟨A[i],Gh d,Yn f⟩
  unfold B7
  rw[HF,show([y].filter fun y=>!BZ A y.num)=[]by simp[s],G1,List.set_append_left (h:=by rw[YG];exact d)]
  congr 1
  apply List.ext_getElem?
  intro j
  rw[YR,List.getElem?_set,YG,YR]
  by_cases c:i=j
  ·subst c
   rw[Yj rfl,Yj d,hx,YY]
   congr 1
   unfold Fs
   rw[show Bu (p++[y]) (A[i]).num=some y by unfold Bu at*;rw[Z6,n];simp[f],f]
   rfl
  ·rw[Ym c]
   cases e:A[j]? with
   |none=>rfl
   |some z=>
    have q:=(Yd.1 e)
    obtain⟨g,k⟩:=q
    have l:y.num≠z.num:=by
     rw[←f,←k]
     rcases Nat.lt_or_gt_of_ne c with h|h
     ·exact(I1.1 m) i j d g h
     ·exact fun e=>(I1.1 m) j i g d h e.symm
    rw[YY,YY,Zpe l]
theorem ZGX{R:ByteArray→Val→Val→Val}{F:List Fld}{A p:List Slt}{y:Slt}(b:∀x∈p,x.num≠y.num)(hi:A.findIdx? (fun x=>decide (x.num=y.num))=none):
  (B7 R F A p).findIdx? (fun x=>decide (x.num=y.num))=none∧B7 R F A (p++[y])=B7 R F A p++[y]:=by
 have a:∀x∈A,x.num≠y.num:=fun x hx=>of_decide_eq_false (L7.1 hi x hx)
 constructor
 ·rw[L7]
  intro x hx
  refine Ys ?_
  rcases Fw.1 hx with hx|hx
  ·obtain⟨z,d,rfl⟩:=YW.1 hx
   exact a z d
  ·exact b x ((Es.1 hx).1)
 ·have c:BZ A y.num=false:=by
   unfold BZ
   rw[S8]
   intro x hx
   simp[a x hx]
  unfold B7
  rw[HF,show([y].filter fun y=>!BZ A y.num)=[y]by simp[c],D3]
  congr 1
  exact Er fun x hx=>Zpe fun e=>a x hx e.symm
theorem Zwy(R:ByteArray→Val→Val→Val)(F:List Fld)(A p:List Slt):(B7 R F A p).length≤A.length+p.length:=by
 unfold B7
 rw[Yp,YG]
 have:=L9 (fun y=>!BZ A y.num) p
 omega
theorem ZIJ{R:ByteArray→Val→Val→Val}{F:List Fld}{A p:List Slt}{z:Slt}:z∈B7 R F A p↔(∃x∈A,z=Fs R F p x)∨(z∈p∧∀x∈A,x.num≠z.num):=by
 unfold B7
 rw[Fw,YW,Es]
 have:(!BZ A z.num)=true↔∀x∈A,x.num≠z.num:=by
  unfold BZ
  simp
 rw[this]
 constructor
 ·rintro(⟨x,hx,rfl⟩|h)
  ·exact .inl ⟨x,hx,rfl⟩
  ·exact .inr h
 ·rintro(⟨x,hx,rfl⟩|h)
  ·exact .inl ⟨x,hx,rfl⟩
  ·exact .inr h
theorem ZLV{R:ByteArray→Val→Val→Val}{F:List Fld}{A p:List Slt}(c:A.Pairwise fun a b=>a.num≠b.num)(d:p.Pairwise fun a b=>a.num≠b.num):(B7 R F A p).Pairwise fun a b=>a.num≠b.num:=by
 unfold B7
 rw[S3]
 refine⟨by rw[List.pairwise_map];exact c,d.filter _,fun x hx y hy=>?_⟩
 obtain⟨z,e,rfl⟩:=YW.1 hx
 have h:=(Es.1 hy).2
 unfold BZ at h
 rw[YJ,S8]at h
 have:=h z e
 simp at this
 exact this
theorem Zvt{l:List Slt}(h:l.Pairwise fun a b=>a.num≠b.num):Mo (C2 IM l):=by
 have d:=ZkY (cf:=IM) (M7 Slt.num) l
 have f:(C2 IM l).Pairwise fun a b=>a.num≠b.num:=(List.Perm.pairwise_iff (fun {a b} h e=>h e.symm) (VC l)).2 h
 refine(List.pairwise_and_iff.2 ⟨d,f⟩).imp fun {a b} c=>?_
 have:=c.1
 unfold IM BS at this
 have g:=c.2
 grind
theorem Zpb{R:ByteArray→Val→Val→Val}{F:List Fld}{a b:List Slt}{f:Fld}{z:Slt}(h:z∈Dw R F a b f):z.num=f.num:=by
 unfold Dw at h
 split at h
 ·rw[Y4.1 h];rfl
 ·rw[Y4.1 h];rfl
 ·split at h
  ·cases h
  ·rw[Y4.1 h];rfl
 ·cases h
theorem ZBj(R:ByteArray→Val→Val→Val)(F:List Fld)(a b:List Slt)(f:Fld):Mo (Dw R F a b f):=by
 unfold Dw Mo
 split
 ·exact OA _ _
 ·exact OA _ _
 ·split
  ·exact .nil
  ·exact OA _ _
 ·exact .nil
theorem Zxc{R:ByteArray→Val→Val→Val}{F:List Fld}{a b:List Slt}:∀{l:List Fld},(l.Pairwise fun a b=>a.num<b.num)→Mo (DU R F a b l)
 |[],_=>.nil
 |f::l,h=>by
  obtain⟨c,d⟩:=Y8.1 h
  have i:=Zxc (R:=R) (F:=F) (a:=a) (b:=b) d
  show(Dw R F a b f++DU R F a b l).Pairwise _
  rw[S3]
  refine⟨ZBj R F a b f,i,fun x hx y hy=>?_⟩
  obtain⟨g,e,hy⟩:=List.mem_flatMap.1 hy
  rw[Zpb hx,Zpb hy]
  exact c g e
theorem tq{F:List Fld}(h:Dv F F.length){b:List Slt}(p:b.Pairwise fun x y=>x.num≠y.num∧Fv F x y){f:Fld}(q:f∈F){y:Slt}(hy:Bu b f.num=some y):Ee F f b=false:=by
 unfold Ee
 rw[S8]
 intro g r c
 simp only[Yb,YJ,YE,YQ,Zn1,Y7]at c
 obtain⟨⟨⟨k,l⟩,m⟩,z,s⟩:=c
 obtain⟨t,i⟩:=Jo hy
 obtain⟨m2,j⟩:=Jo s
 have n:Ba F y.num=f:=by rw[i];exact congrArg Prod.fst (Qq h q)
 have o:Ba F z.num=g:=by rw[j];exact congrArg Prod.fst (Qq h r)
 have d:Fv F z y:=(rP (R:=fun a b:Slt=>a.num≠b.num∧Fv F a b) (fun h=>⟨fun e=>h.1 e.symm,h.2.symm⟩) p m2 t (fun e=>m (by rw[←j,e,i]))).2
 unfold Fv at d
 rw[n,o]at d
 exact d ⟨l,k⟩
theorem ZFY{R:ByteArray→Val→Val→Val}{F:List Fld}(h:Dv F F.length){a b:List Slt}(p:a.Pairwise fun x y=>x.num≠y.num)(o:b.Pairwise fun x y=>x.num≠y.num∧Fv F x y)
  (u:∀x∈a,(BV F x.num).2=true) (v:∀x∈b,(BV F x.num).2=true):C2 IM (B7 R F (a.filter fun x=>!Ee F (Ba F x.num) b) b)=DU R F a b F:=by
 have ER:b.Pairwise fun x y=>x.num≠y.num:=o.imp fun s=>s.1
 have fl:∀k,(BV F k).2=true→Ba F k∈F∧(Ba F k).num=k:=fun k q=>by
  rcases Zv6 F k with⟨c,_⟩|⟨_,c⟩
  ·rw[q]at c;cases c
  ·exact⟨c,ZpP q⟩
 have n:∀f∈F,Ba F f.num=f:=fun f m=>congrArg Prod.fst (Qq h m)
 refine Zsv (Zvt (ZLV (p.filter _) ER)) (Zxc (WD h)) fun z=>?_
 rw[(VC _).mem_iff,ZIJ]
 unfold DU
 rw[List.mem_flatMap]
 constructor
 ·rintro(⟨x,hx,rfl⟩|⟨d,t⟩)
  ·obtain⟨hx,r⟩:=Es.1 hx
   rw[YJ]at r
   obtain⟨f1,f2⟩:=fl _ (u x hx)
   refine⟨Ba F x.num,f1,?_⟩
   unfold Dw Fs
   rw[f2,Zpp p hx]
   cases e:Bu b x.num with
   |none=>rw[r];exact Y4.2 rfl
   |some y=>exact Y4.2 rfl
  ·obtain⟨f1,f2⟩:=fl _ (v z d)
   refine⟨Ba F z.num,f1,?_⟩
   have e:=Zpp ER d
   unfold Dw
   rw[f2,e]
   cases i:Bu a z.num with
   |none=>cases z;exact Y4.2 rfl
   |some x=>
    exfalso
    obtain⟨j,g⟩:=Jo i
    refine t x (Es.2 ⟨j,?_⟩) g
    rw[g,tq h o f1 (by rw[f2];exact e)]
    rfl
 ·rintro⟨f,m,d⟩
  unfold Dw at d
  split at d
  ·rename_i x y i l
   obtain⟨j,g⟩:=Jo i
   refine .inl ⟨x,Es.2 ⟨j,?_⟩,?_⟩
   ·rw[g,n f m,tq h o m l]
    rfl
   ·rw[Y4.1 d]
    unfold Fs
    rw[g,l,n f m]
    rfl
  ·rename_i y i l
   obtain⟨j,g⟩:=Jo l
   have e:z=y:=by
    rw[Y4.1 d,←g]
    cases y
    rfl
   subst e
   exact .inr ⟨j,fun x hx=>by rw[g];exact o9.1 i x ((Es.1 hx).1)⟩
  ·rename_i x i l
   obtain⟨j,g⟩:=Jo i
   split at d
   ·cases d
   ·rename_i c
    refine .inl ⟨x,Es.2 ⟨j,?_⟩,?_⟩
    ·rw[g,n f m,YJ,ax]
     exact c
    ·rw[Y4.1 d]
     unfold Fs
     rw[g,l]
     rfl
  ·cases d
theorem Zss(l:List Raw)(y x:Raw):∀k:Nat,k≤l.length→Dl (l++[y]) x k=Dl l x k
 |0,_=>rfl
 |k+1,h=>by
  rw[Dl,Dl,Zss l y x k (by omega),Yg,Yg,Yr (by omega)]
theorem Zo3(x:Raw):∀(n:Nat) (out:List Raw),out.length=n→insR out x=Go.Eng.insR GQ out x
 |0,out,h=>by
  rw[List.length_eq_zero_iff.1 h]
  rfl
 |n+1,out,h=>by
  have d:out≠[]:=fun e=>by rw[e]at h;cases h
  obtain⟨l,y,rfl⟩:∃l y,out=l++[y]:=⟨_,_,(rx d).symm⟩
  have hl:l.length=n:=by rw[Yp]at h;simpa using h
  have j:=Zo3 x n l hl
  unfold insR Go.Eng.insR at*
  have e0:(l++[y]).length=l.length+1:=by simp
  have g:(l++[y]).getD l.length Rw.z=y:=by simp
  rw[e0,Dl,g,Zss l y x l.length (Yf _),ai]
  show _=(List.dropWhile _ (y::l.reverse)).reverse++x::(List.takeWhile _ (y::l.reverse)).reverse
  have f:GQ x y<0↔x.num<y.num:=by unfold GQ BS;grind
  rw[List.dropWhile_cons,List.takeWhile_cons]
  by_cases c:x.num<y.num
  ·have a:=Xh l x l.length
   have b:decide (GQ x y<0)=true:=Yn (f.2 c)
   rw[Yj c,b,Yj rfl,Yj rfl,SQ a,ay a,List.reverse_cons,←D3,j]
   simp
  ·have b:¬decide (GQ x y<0)=true:=by rw[YE,f];exact c
   have i:(l++[y]).take (l.length+1)=l++[y]:=IZ (by simp)
   rw[Ym c,Ym b,Ym b,i]
   simp
theorem ZA8(l:List Raw):Ck l=C2 GQ l:=by
 have:insR=Go.Eng.insR GQ:=funext fun out=>funext fun x=>Zo3 x _ out rfl
 unfold Ck C2
 rw[this]
end Go.Proofs.YtjbijbkdiijhaaaGreat
namespace Go.Proofs.YtjbijbkdiijhaaaGreat
set_option linter.all false
open Go Go.Eng
theorem ZAv(l:List Pr)(h:l.length<549755813888):Vf l=some l:=by
 cases l with
 |nil=>rfl
 |cons x r=>
  dsimp only[Vf,bD,al,br,vw,lr,a0,mv,br]
  simp only[EX]at h
  simp
  omega
theorem ti{a b:Val}(s:1≤a.kind∧a.kind≤9)(j:A2 a)(l:A2 b):Vr a b=some (Ca a b):=by
 obtain⟨n,q,f,u⟩:=Qd j
 obtain⟨k,p,e,t⟩:=Qd l
 have r:(decide (1≤a.kind)&&decide (a.kind≤9))=true:=by simp[s]
 unfold Ca
 by_cases he:a.kind=b.kind
 ·have i:(decide (1≤b.kind)&&decide (b.kind≤9))=true:=by rw[←he];exact r
  dsimp only[Vr,TJ,br,wg,lr,cl,br,zi,oB,wg,lr,cl,bT,zU,oZ,lr,zw,oC,br,vz,wg,lr,cl,br,zn,nP,lr]
  simp only[he,Yq,Y2,Yo,YP,i,Yt,Ya,ne_eq,OF]
  rw[←he]
  by_cases h:a.kind=7∨a.kind=8
  ·have d:(decide (a.kind=7)||decide (a.kind=8))=true:=by simpa using h
   rw[Yj h]
   simp only[d,Yt,ZVG,Ya]
  ·have d:(decide (a.kind=7)||decide (a.kind=8))=false:=by simpa using h
   rw[Ym h]
   simp only[d,Yo,YP]
   by_cases hs:a.kind=2∨a.kind=3
   ·have c:(decide (a.kind=2)||decide (a.kind=3))=true:=by simpa using hs
    have g:∀m:Nat,m<18446744073709551616→IntKind.i64.wrap (m:Int)=IntKind.u64.wrap ((m:Int)+9223372036854775808)-9223372036854775808:=fun m hm=>by
     rw[IntKind.wrap_i64]
     unfold IntKind.wrap
     simp only[show IntKind.u64.bits=64 from rfl,show IntKind.u64.signed=false from rfl,Et,Yo,YP]
     omega
    simp only[c,hs,Yt,Uo,Ya]
    rw[q,p,g n f,g k e]
    unfold BS
    simp only[Int.sub_lt_sub_right_iff]
   ·have c:(decide (a.kind=2)||decide (a.kind=3))=false:=by simpa using hs
    by_cases o:a.kind=6
    ·simp only[c,hs,Yo,YP]
     simp only[o,Yt,Yq,q,p,x4 f,x4 e,ye,Ya,YS]
    ·simp only[c,hs,o,Yo,YP,YT,ye,Ya]
 ·dsimp only[Vr,TJ,br,wg,lr,cl,br]
  simp only[he,YT,CQ,Yt,Uo,Ya,ne_eq,L5]
theorem ZSU{a b:Val}(e:1≤a.kind∧a.kind≤9)(c:A2 a)(d:A2 b):kf a b=some (decide (Ca a b=0)):=by
 dsimp only[kf,dk,wg,lr,cl]
 rw[ti e c d]
 rfl
def GR(l:List Pr):Nat→List Pr
 |0=>[]
 |i+1=>if i+1<l.length∧Bt (l.getD i Rw.z) (l.getD (i+1) Rw.z)=0 then GR l i else GR l i++[l.getD i Rw.z]
theorem Zuh(l:List Pr):∀i:Nat,(GR l i).length≤i
 |0=>Yf _
 |i+1=>by
  have:=Zuh l i
  rw[GR]
  split
  ·omega
  ·rw[Yp,HK]
   omega
theorem Zlb(l:List Pr):∀i:Nat,i≤l.length→EH l=GR l i++EH (l.drop i)
 |0,_=>rfl
 |i+1,h=>by
  have hi:i<l.length:=h
  have e0:l.getD i Rw.z=l[i]:=by rw[Yg,Ye hi];rfl
  rw[Zlb l i (by omega),HH hi,GR,e0]
  by_cases c:i+1<l.length
  ·have b:l.getD (i+1) Rw.z=l[i+1]:=by rw[Yg,Ye c];rfl
   rw[HH c,EH,b]
   by_cases a:Bt l[i] l[i+1]=0
   ·rw[Yj a,Yj ⟨c,a⟩]
   ·rw[Ym a,Ym fun h=>a h.2,D3]
    rfl
  ·rw[Ym fun h=>c h.1,List.drop_eq_nil_of_le (by omega)]
   simp[EH]
theorem Zyd(l:List Pr)(hl:l.length≤4194304)(j:∀p∈l,(1≤p.key.kind∧p.key.kind≤9)∧A2 p.key):kg l=some (IG l):=by
 have C:=ZAv l (by omega)
 have t:FE l (fun z0 s=>ML z0 s)=some (C2 Bt l):=by
  have h:=qo (pf:=fun z0 s=>ML z0 s) (cmp:=Bt) nq l (fun x hx y hy=>by
   dsimp only[ML,cu,wg,lr,cl]
   rw[ti (j x hx).1 (j x hx).2 (j y hy).2]
   rfl) hl
  rw[kx Ha l]at h
  exact h
 have u:=kv (cf:=Bt) l
 have a:∀p∈C2 Bt l,(1≤p.key.kind∧p.key.kind≤9)∧A2 p.key:=fun p d=>j p ((VC l).mem_iff.1 d)
 have v:=Zlb (C2 Bt l) (C2 Bt l).length (Yf _)
 rw[SY,Zqw,show EH []=[]from rfl,G1]at v
 rw[v]
 generalize C2 Bt l=m at t u a
 have r:=Ex (B:=NP m) (N:=Am) (ρ:=List Pr) m (fun p=>GR m p.length) (fun i b=>(b,i)) id (fun i p d=>by
  have w:=BI d
  have hi:=(Yd.1 d).1
  have g:i+1<9223372036854775808:=by omega
  have A:(m.take i).length=i:=by rw[Yx];omega
  have o:(m.take i++[p]).length=i+1:=by rw[Yp,A];rfl
  have F:m.getD i Rw.z=p:=by rw[Yg,d];rfl
  have a1:=Zuh m i
  have z:((i+1:Nat):Int)=m.length↔i+1=m.length:=by omega
  rw[A,o,GR,F]
  have k:(GR m i).length<549755813887:=by omega
  generalize GR m i=out at k⊢
  dsimp only[NP,X4,br,vz,vw,wg,vs,vg,ln,Ah,ap,AO,wa,ir,ca,fl,Bz,br]
  by_cases c:i+1=m.length
  ·have e:¬i+1<m.length:=by omega
   simp only[w,g,z,c,e,d,k,hi,Yq,Y2,OE,Yo,Ya,OB,Yt,YP,OP]
   have E:m.length<9223372036854775808:=by omega
   simp[E]
  ·have e:i+1<m.length:=by omega
   have hm:m.getD (i+1) Rw.z∈m:=by rw[Yg,Ye e];exact Gh e
   have D:=ZSU (a p (Yk d)).1 (a p (Yk d)).2 (a _ hm).2
   simp only[w,g,z,c,e,d,D,hi,Yq,YT,CQ,Kh,Ya,Fx,YO,forall_const,Yt,HN]
   generalize m.getD (i+1) Rw.z=q
   by_cases f:Bt p q=0
   ·have n:Ca p.key q.key=0:=f
    simp[f,n,g]
   ·have n:¬Ca p.key q.key=0:=f
    simp[f,n,g,k]) (by dsimp only[NP,X4,br,vz,vw,wg,vs,vg,ln,Ah,ap,AO,wa,ir,ca,fl,Bz,br];simp) (A1 (by omega))
 have r:Ak (NP m) Am ([],0)=some (.inl (GR m m.length)):=r
 dsimp only[kg,qb,bz,cQ,eS,bu,cb,cF,cN,cW,vz,vw,lr,lc,rn,fl,fr,Bz]
 rw[C,Ya,t,Ya,Yj u.symm,r]
 rfl
theorem ZH0(a b:List Raw)(f:a.length≤1048576)(g:b.length≤1048576):kA a b=some (Ck (a++b)):=by
 have c:=ZNP a b f g
 have d:=ZF6 (a++b) (by rw[Yp];omega)
 rw[ZA8]
 have e:=kv (cf:=GQ) (a++b)
 dsimp only[kA,fG,fT,eI,gt,ft,bh,vz,vw,lr,lc,rn,fl,fr]
 rw[c,Ya,d,Ya,Yj e.symm]
theorem ZGV{s:Scm}(R:Scm→ByteArray→Val→Val→Option Val)(d:Nat)(m:∀d':Nat,d=d'+1→L2 s R d')(f:Fld)(x y:Val)(l:GdF s f)(hx:A2 x)(hy:A2 y)(h:Cf (Bf s true d) s true f x=0)(i:Cf (Bf s true d) s true f y=0):Vu R s f x y=some (H7 (BJ s d) f x y):=by
 have j:=CP hx
 have k:=CP hy
 unfold H7
 dsimp only[Vu,ny,oT,fC,bw,dS,eQ,dE,bj,bH,dY,cE,br,vz,vw,wg,lr,lc,cl,cs,fl,fz,fr,br]
 by_cases b:f.card=4
 ·rw[Yj (Yn b),ZO8 _ _ j.l k.l,Yj b]
  rfl
 ·rw[Ym (by simp[b]),Ym b]
  by_cases a:f.card=5
  ·have t:=j.p
   have r:=k.p
   have e:=Zyd (x.pairs++y.pairs) (by rw[Yp];omega) fun p g=>by
    rcases Fw.1 g with g|g
    ·exact VG l hx a h p g
    ·exact VG l hy a i p g
   rw[Yj (Yn a),ZN6 _ _ j.p k.p,Ya,e,Yj a]
   rfl
  ·rw[Ym (by simp[a]),Ym a]
   by_cases c:f.type.kind=10
   ·unfold Cf at h i
    rw[Ym b,Ym a]at h i
    obtain⟨d',e,n⟩:=V8 c h
    obtain⟨d2,q,o⟩:=V8 c i
    have:d2=d':=by omega
    subst this
    subst e
    rw[Yj (Yn c),Yj c,m d2 rfl f.type.name x y hx hy n o]
    rfl
   ·rw[Ym (by simp[c]),Ym c]
theorem ZHz(l:List Slt)(k:Int)(h:l.length<4611686018427387904):Vm l k=some (CW l fun x=>decide (x.num=k)):=by
 dsimp only[Vm,lW,lr,cs]
 rw[wU l (fun z0=>Vo z0 k) (fun x=>decide (x.num=k)) (fun x _=>rfl) h]
 rfl
theorem ZMd{s:Scm}(hs:At (Ar s)≤1048576)(g:GdS s)(R:Scm→ByteArray→Val→Val→Option Val)(d:Nat)(hR:∀d':Nat,d=d'+1→L2 s R d')(n:ByteArray)(a b:Val)(E:A2 a)(G:A2 b)(w:OkM s true d (A8 s n).1 a)(f:OkM s true d (A8 s n).1 b):UA R s n a b=some (BJ s (d+1) n a b):=by
 have M:=CP E
 have O:=CP G
 have P:Vi s n=some (A8 s n):=n61 s n (Fr hs).ml
 have t:=g.asc n
 have hl:(AP s n).length≤1048576:=M4 (Fr hs) n
 have s1:=M.s
 have s2:=O.s
 have o:=ZSJ (A8 s n).1 a.slots b hl s1 (by omega)
 have Q:=ZH0 a.raws b.raws M.r O.r
 rw[show(A8 s n).1.fields=AP s n from rfl]at o
 have pa:a.slots.Pairwise fun x y=>x.num≠y.num:=w.pw.imp fun h=>h.1
 have pb:b.slots.Pairwise fun x y=>x.num≠y.num:=f.pw.imp fun h=>h.1
 have S:=ZFY (R:=BJ s d) t pa f.pw (fun x hx=>(w.sl x hx).1) (fun x hx=>(f.sl x hx).1)
 have D:∀x∈a.slots.filter (fun x=>!Ee (AP s n) (Ba (AP s n) x.num) b.slots),x∈a.slots:=fun x hx=>(Es.1 hx).1
 have lA:=L9 (fun x=>!Ee (AP s n) (Ba (AP s n) x.num) b.slots) a.slots
 have L:(a.slots.filter fun x=>!Ee (AP s n) (Ba (AP s n) x.num) b.slots).Pairwise fun x y=>x.num≠y.num:=pa.filter _
 rw[BJ,←S]
 generalize (a.slots.filter fun x=>!Ee (AP s n) (Ba (AP s n) x.num) b.slots)=A at o D lA L⊢
 have fl:∀k,(BV (AP s n) k).2=true→Ba (AP s n) k∈AP s n:=fun k H=>by
  rcases Zv6 (AP s n) k with⟨c,_⟩|⟨_,c⟩
  ·rw[H]at c;cases c
  ·exact c
 have z:=Ex (B:=NW s a b R (A8 s n)) (N:=Am) (ρ:=Val) b.slots (fun p=>B7 (BJ s d) (AP s n) A p) (fun i b=>(b,i)) id (fun i y hy=>by
  have X:=BI hy
  have hi:=(Yd.1 hy).1
  have C:i+1<9223372036854775808:=by omega
  have hm:=Yk hy
  have T:=n43 (A8 s n).1 y.num hl
  have I:∀x∈b.slots.take i,x.num≠y.num:=fun x hx=>by
   obtain⟨j,v⟩:=YL.1 hx
   have e:j<i:=by have:=(Yd.1 v).1;rw[Yx]at this;omega
   rw[Y3,Yj e]at v
   obtain⟨j1,j2⟩:=Yd.1 v
   obtain⟨i1,i2⟩:=Yd.1 hy
   rw[←j2,←i2]
   exact(I1.1 pb) j i j1 i1 e
  have l1:=Zwy (BJ s d) (AP s n) A (b.slots.take i)
  rw[Yx]at l1
  have l2:(B7 (BJ s d) (AP s n) A (b.slots.take i)).length<549755813887:=by omega
  have U:=ZHz (B7 (BJ s d) (AP s n) A (b.slots.take i)) y.num (by omega)
  dsimp only[NW,Zw,DX,br,ix,vz,vw,wg,vs,ln,Ah,ap,cl,cs,wa,AH,cp,rn,fl,br,AH]
  simp only[X,hy,Yq,Yt,Ya,T,U]
  cases r:A.findIdx? fun x=>decide (x.num=y.num)with
  |none=>
   obtain⟨t1,t2⟩:=ZGX (R:=BJ s d) (F:=AP s n) I r
   have q:CW (B7 (BJ s d) (AP s n) A (b.slots.take i)) (fun x=>decide (x.num=y.num))= -1:=by unfold CW;rw[t1]
   rw[q,t2]
   simp[l2,C]
  |some k=>
   obtain⟨x,t1,t2,t3,t4⟩:=ZJk (R:=BJ s d) (F:=AP s n) L I r
   have t0:=ZP5 (R:=BJ s d) (F:=AP s n) (p:=b.slots.take i) r
   have q:CW (B7 (BJ s d) (AP s n) A (b.slots.take i)) (fun x=>decide (x.num=y.num))=(k:Int):=by unfold CW;rw[t0]
   have hx:x∈a.slots:=D x (Yk t1)
   have J:=w.sl x hx
   have K:=f.sl y hm
   rw[t3]at J
   have u:=fl _ K.1
   have V:=ZGV R d hR (Ba (AP s n) y.num) x.val y.val (g.fl n _ u) (H6 E hx) (H6 G hm) J.2 K.2
   have H:=(Yd.1 t2).1
   have W:(BV (A8 s n).1.fields y.num).1=Ba (AP s n) y.num:=rfl
   have Y:(0:Int)≤(k:Int):=by omega
   have Z:(k:Int)<((B7 (BJ s d) (AP s n) A (b.slots.take i)).length:Int):=by omega
   rw[q,t4,W]
   simp only[Y,Z,t2,V,Yq,Yt,Ya,YS,Co,OL,D2]
   simp[C]) (by dsimp only[NW,Zw,DX,br,ix,vz,vw,wg,vs,ln,Ah,ap,cl,cs,wa,AH,cp,rn,fl,br,AH];simp) (A1 (by omega))
 have z:Ak (NW s a b R (A8 s n)) Am (A,0)=some (.inl (B7 (BJ s d) (AP s n) A b.slots)):=by
  have:=z
  rw[ZKg]at this
  exact this
 have l3:=Zwy (BJ s d) (AP s n) A b.slots
 have l:=ZEa (B7 (BJ s d) (AP s n) A b.slots) (by omega)
 have m:=kv (cf:=IM) (B7 (BJ s d) (AP s n) A b.slots)
 have w1:a.slots.length≤549755813888:=by omega
 dsimp only[UA,eE,aU,cm,aQ,fU,dD,fs,vz,wg,lr,lc,cl,rn,msr,cpr,fl,fr,An]
 rw[P,Ya,Yj w1,Yj ⟨Yf _,rfl⟩,o,Ya,z]
 simp only[Ya,CG,l,m,Q,Yt]
theorem yy{s:Scm}(hs:At (Ar s)≤1048576)(g:GdS s):∀c d:Nat,d<c→L2 s (MO c) d
 |0,d,h=>by omega
 |c+1,d,h=>fun n a b f i j k=>ZMd hs g (MO c) d (fun d' e=>yy hs g c d' (by omega)) n a b f i j k
theorem Zz9{s:Scm}(hs:At (Ar s)≤1048576)(g:GdS s)(n:ByteArray)(a b:Val)(c:A2 a)(d:A2 b)(e:OkM s true 15 (A8 s n).1 a)(f:OkM s true 15 (A8 s n).1 b):MO Am s n a b=some (BJ s 16 n a b):=yy hs g Am 15 (A1 (by omega)) n a b c d e f
def wO(o:Option Slt):Nat:=o.elim 0 fun x=>At (Aq x)+1
theorem Zow(x:Slt)(l:List Slt)(k:Int):Bu (x::l) k=if x.num=k then some x else Bu l k:=by
 unfold Bu
 rw[List.find?_cons]
 by_cases h:x.num=k<;>simp[h]
theorem ZsL(x:Slt)(l:List Slt):∀{F:List Fld},(F.Pairwise fun a b=>a.num<b.num)→(F.map fun f=>wO (Bu (x::l) f.num)).sum≤At (Aq x)+1+(F.map fun f=>wO (Bu l f.num)).sum
 |[],_=>Cs _
 |f::F,h=>by
  obtain⟨d,i⟩:=Y8.1 h
  have k:=ZsL x l i
  simp only[YV,List.sum_cons]
  rw[Zow]
  by_cases c:x.num=f.num
  ·have e:(F.map fun f=>wO (Bu (x::l) f.num))=F.map fun f=>wO (Bu l f.num):=Er fun g j=>by
    have:=d g j
    rw[Zow,Ym (by omega)]
   rw[Yj c,e]
   show At (Aq x)+1+_≤_
   omega
  ·rw[Ym c]
   omega
theorem me{F:List Fld}(h:F.Pairwise fun a b=>a.num<b.num):∀l:List Slt,(F.map fun f=>wO (Bu l f.num)).sum≤AS (l.map Aq)
 |[]=>by
  have e:(F.map fun f=>wO (Bu [] f.num))=F.map fun _=>0:=rfl
  rw[e]
  clear h e
  induction F with
  |nil=>exact Yf _
  |cons f F c=>simpa using c
 |x::l=>by
  have d:=ZsL x l h
  have g:=me h l
  rw[YV,AS]
  omega
theorem ZH7{R:ByteArray→Val→Val→Val}(d:∀n x y,At (Ag (R n x y))≤At (Ag x)+At (Ag y))(f:Fld)(x y:Val):At (Ag (H7 R f x y))≤At (Ag x)+At (Ag y):=by
 have b:rk .u64 0=0:=by decide
 have e:(⟨#[]⟩:ByteArray).size=0:=rfl
 unfold H7
 split
 ·have a:rk .i64 11=0:=by decide
  rw[LG,F0 x,F0 y,DJ,Gu]
  simp only[a,b,D1,AS]
  omega
 ·split
  ·have a:rk .i64 12=0:=by decide
   have c:=ph (x.pairs++y.pairs) (x.pairs++y.pairs).length
   rw[L6,DJ,Gu]at c
   rw[LG,F0 x,F0 y]
   simp only[a,b,D1,AS,IG]
   omega
  ·split
   ·exact d _ _ _
   ·omega
theorem ZES{R:ByteArray→Val→Val→Val}(e:∀n x y,At (Ag (R n x y))≤At (Ag x)+At (Ag y))(F:List Fld)(a b:List Slt)(f:Fld):AS ((Dw R F a b f).map Aq)≤wO (Bu a f.num)+wO (Bu b f.num):=by
 have s:∀(k:Int) (v:Val),AS (([Slt.mk k v]:List Slt).map Aq)=rk .i64 k+At (Ag v)+1:=fun k v=>by
  rw[YV,D1,AS,UZ]
  rfl
 have w:∀(l:List Slt) (x:Slt),Bu l f.num=some x→wO (Bu l f.num)=rk .i64 f.num+At (Ag x.val)+1:=fun l x h=>by
  rw[h,←(Jo h).2,←UZ]
  rfl
 unfold Dw
 split
 ·rename_i x y c d
  have:=ZH7 e f x.val y.val
  rw[s,w a x c,w b y d]
  omega
 ·rename_i y c d
  rw[s,w b y d]
  omega
 ·rename_i x c d
  split
  ·exact Cs _
  ·rw[s,w a x c]
   omega
 ·exact Cs _
theorem rZ{R:ByteArray→Val→Val→Val}(c:∀n x y,At (Ag (R n x y))≤At (Ag x)+At (Ag y))(F:List Fld)(a b:List Slt):∀l:List Fld,AS ((DU R F a b l).map Aq)≤(l.map fun f=>wO (Bu a f.num)).sum+(l.map fun f=>wO (Bu b f.num)).sum
 |[]=>Cs _
 |f::l=>by
  have d:=rZ c F a b l
  have h:=ZES c F a b f
  show AS ((Dw R F a b f++DU R F a b l).map Aq)≤_
  rw[DJ,Gu]
  simp only[YV,List.sum_cons]
  omega
theorem sW{s:Scm}(h:∀n:ByteArray,Dv (AP s n) (AP s n).length):∀(d:Nat) (n:ByteArray) (a b:Val),At (Ag (BJ s d n a b))≤At (Ag a)+At (Ag b)
 |0,n,a,b=>OH _ _
 |d+1,n,a,b=>by
  have e:rk .i64 10=0:=by decide
  have f:rk .u64 0=0:=by decide
  have g:=rZ (fun n x y=>sW h d n x y) (AP s n) a.slots b.slots (AP s n)
  have i:=me (WD (h n)) a.slots
  have j:=me (WD (h n)) b.slots
  have c:=px (a.raws++b.raws) []
  rw[DJ,Gu]at c
  rw[BJ,LG,F0 a,F0 b,Ck]
  simp only[e,f,c,D1,AS]
  have:(⟨#[]⟩:ByteArray).size=0:=rfl
  omega
theorem ZnO{s:Scm}{n:ByteArray}{a b:Val}(hs:At (Ar s)≤1048576)(_:(0:Nat)≤1)(c:At (Ag a)≤1048576)(w:At (Ag a)+At (Ag b)≤1048576):jp s n a b=some true:=by
 have d:At (Ag b)≤1048576:=by omega
 obtain⟨j,o,v⟩:=o16 hs
 dsimp only[jp,gX,br,wg,lr,cl,AO,br]
 rw[o,ZU5]
 cases j with
 |false=>simp
 |true=>
 have g:=ZNF (v rfl) hs
 obtain⟨k,p,h⟩:=ZoZ hs g n a c
 obtain⟨l,q,a3⟩:=ZoZ hs g n b d
 rw[p,q]
 cases k with
 |false=>simp
 |true=>
 cases l with
 |false=>simp
 |true=>
 have e:=(nc.1 (h.1 rfl).1).2.1
 have f:=(nc.1 (a3.1 rfl).1).2.1
 have r:=Zz9 hs g n a b c d e f
 have t:=ZvO hs g n a b c d e f
 have hm:A2 (BJ s 16 n a b):=by
  have:=sW g.asc 16 n a b
  show At (Ag (BJ s 16 n a b))≤1048576
  omega
 obtain⟨m,u,i⟩:=xu hm hm
 have:m=true:=i.2 rfl
 subst this
 simp[r,t,u]
end Go.Proofs.YtjbijbkdiijhaaaGreat
