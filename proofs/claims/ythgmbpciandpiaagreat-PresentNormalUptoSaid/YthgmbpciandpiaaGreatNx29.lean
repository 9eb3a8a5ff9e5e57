import Derived.Test.YthgmbpciandpiaaGreatNx28
import Derived.Test.YthgmbpciandpiaaGreatNx27
import Derived.Test.YthgmbpciandpiaaGreatNx00
namespace Go.Proofs.YthgmbpciandpiaaGreat
set_option linter.all false
open Go Go.Eng
theorem V5{α β:Type}{e:α→List D}{e':β→List D}{g:β→α}:∀{l:List β},(∀x∈l,As (e (g x))≤As (e' x))→AU ((l.map g).map e)≤AU (l.map e')
 |[],_=>Yh _
 |x::l,h=>by
  have a:=h x YT
  have b:=V5 (l:=l) fun y hy=>h y (YP _ hy)
  simp only[YZ,AU]
  omega
theorem VC{α:Type}(e:α→List D)(p:α→Bool):∀l:List α,AU (l.map e)=AU ((l.filter p).map e)+AU ((l.filter fun x=>!p x).map e)
 |[]=>rfl
 |x::l=>by
  have h:=VC e p l
  cases c:p x<;>simp only[ZK,c,YZ,AU,YJ,YW,Yk,Yr,YD]<;>omega
theorem I1(v:Val):As (Ag v)=rk .i64 v.kind+(rk .u64 v.bits+(v.text.size+(AU (v.list.map AM)+(AU (v.pairs.map Ay)+(AU (v.slots.map Am)+AU (v.raws.map A0)))))):=by
 simp only[Ag,As,bk]
 omega
theorem P5(k b:Int)(t:ByteArray)(l:List Val)(p:List Pr)(s:List Slt)(r:List Raw):As (Ag (.mk k b t l p s r))=rk .i64 k+(rk .u64 b+(t.size+(AU (l.map AM)+(AU (p.map Ay)+(AU (s.map Am)+AU (r.map A0)))))):=I1 _
theorem ZX7(p:Pr):As (Ay p)=As (Ag p.key)+As (Ag p.val):=by
 have e:Ay p=Ag p.key++Ag p.val:=by rw[KT];rfl
 rw[e,MK]
theorem ZYl(x:Slt):As (Am x)=rk .i64 x.num+As (Ag x.val):=by
 have e:Am x=D.int .i64 x.num::Ag x.val:=by rw[H2];rfl
 rw[e,As,bk]
theorem ZsD(v:Val):As (Ag (Du v))≤As (Ag v):=by
 unfold Du
 split
 ·rw[P5,I1 v]
  have h:rk .u64 9221120237041090560=0:=by decide
  rw[h]
  omega
 ·exact Yh _
theorem Z0{α:Type}(e:α→List D)(l:List α)(i:Nat):AU ((l.take i).map e)+AU ((l.drop i).map e)=AU (l.map e):=by
 conv=>rhs;rw[←FC i l,Eh,HX]
theorem wn:∀(l out:List Raw),AU ((l.foldl IU out).map A0)=AU (out.map A0)+AU (l.map A0)
 |[],out=>rfl
 |x::l,out=>by
  rw[ZL,wn l]
  have h:=Z0 A0 out (He out x out.length)
  unfold IU
  simp only[Eh,HX,YZ,E0,AU]
  omega
theorem tg(l:List Pr):∀i:Nat,AU ((Dl l i).map Ay)≤AU ((l.take i).map Ay)
 |0=>Yh _
 |i+1=>by
  have a:=tg l i
  unfold Dl
  cases e:l[i]? with
  |none=>
   have h:=List.getElem?_eq_none_iff.1 e
   rw[JL (by omega)]at a⊢
   exact a
  |some q=>
   rw[Vn Ay e]
   dsimp only
   split
   ·omega
   ·have h:=Z0 Ay (Dl l i) (Jx (Dl l i) q)
    unfold J2
    simp only[Eh,HX,YZ,E0,AU]
    omega
theorem vX{N:Fld→Val→Val}(hN:∀f x,As (Ag (N f x))≤As (Ag x)):∀{F:List Fld} (l:List Slt),(F.Pairwise fun a b=>a.num<b.num)→AU ((Cw N F l).map Am)≤AU (l.map Am)
 |[],l,_=>by show 0≤_;omega
 |f::F,l,h=>by
  obtain⟨i,j⟩:=GM.1 h
  have m:=vX hN (l.filter fun x=>!decide (x.num=f.num)) j
  have e:Cw N F (l.filter fun x=>!decide (x.num=f.num))=Cw N F l:=by
   unfold Cw
   rw[List.flatMap_def,List.flatMap_def]
   congr 1
   refine FD fun o k=>?_
   rw[Rr]
   congr 1
   refine Zy fun x _=>?_
   have:=i o k
   by_cases c:x.num=o.num
   ·have g:¬x.num=f.num:=by omega
    simp[g]
   ·simp[c]
  rw[e]at m
  have b:=VC Am (fun x=>decide (x.num=f.num)) l
  have a:=VC Am (fun x=>!B1 f x.val) (l.filter fun x=>decide (x.num=f.num))
  have n:AU (((l.filter fun x=>decide (x.num=f.num)&&!B1 f x.val).map fun x=>Slt.mk f.num (N f x.val)).map Am)≤AU (((l.filter fun x=>decide (x.num=f.num)).filter fun x=>!B1 f x.val).map Am):=by
   rw[Rr]
   rw[show(l.filter fun x=>decide (x.num=f.num)&&!B1 f x.val)=l.filter fun x=>!B1 f x.val&&decide (x.num=f.num)from Zy fun x _=>Rn _ _]
   refine V5 fun x d=>?_
   have d:=(DD.1 d).2
   rw[Yc,Yn]at d
   have:=hN f x.val
   rw[ZYl,ZYl,d.2]
   exact Nat.add_le_add_left this _
  show AU ((((l.filter fun x=>decide (x.num=f.num)&&!B1 f x.val).map fun x=>Slt.mk f.num (N f x.val))++Cw N F l).map Am)≤_
  rw[Eh,HX]
  omega
theorem kK{R:ByteArray→Val→Val}(a:∀n v,As (Ag (R n v))≤As (Ag v))(t:Typ)(v:Val):As (Ag (Dv R t v))≤As (Ag v):=by
 unfold Dv
 split
 ·exact a _ _
 ·exact ZsD v
theorem ZRc{R:ByteArray→Val→Val}(c:∀n v,As (Ag (R n v))≤As (Ag v))(f:Fld)(v:Val):As (Ag (CC R f v))≤As (Ag v):=by
 unfold CC
 split
 ·have a:rk .i64 11=0:=by decide
  have b:rk .u64 0=0:=by decide
  have d:AU ((v.list.map (Dv R f.type)).map AM)≤AU (v.list.map AM):=V5 fun x _=>by rw[Gk,Gk];exact kK c f.type x
  rw[P5,I1 v]
  simp only[a,b,E0,AU]
  have:(⟨#[]⟩:ByteArray).size=0:=rfl
  omega
 ·split
  ·have a:rk .i64 12=0:=by decide
   have b:rk .u64 0=0:=by decide
   have d:AU ((v.pairs.map fun p=>Pr.mk (Du p.key) (Dv R f.type p.val)).map Ay)≤AU (v.pairs.map Ay):=V5 fun p _=>by
    rw[ZX7,ZX7]
    exact Nat.add_le_add (ZsD p.key) (kK c f.type p.val)
   have e:=tg (v.pairs.map fun p=>Pr.mk (Du p.key) (Dv R f.type p.val)) (v.pairs.map fun p=>Pr.mk (Du p.key) (Dv R f.type p.val)).length
   rw[LB]at e
   rw[P5,I1 v]
   simp only[a,b,E0,AU,eN]
   have:(⟨#[]⟩:ByteArray).size=0:=rfl
   omega
  ·exact kK c f.type v
theorem ub{s:Scm}(h:∀n:ByteArray,CG (AN s n) (AN s n).length):∀(d:Nat) (n:ByteArray) (v:Val),As (Ag (BH s d n v))≤As (Ag v)
 |0,n,v=>Yh _
 |d+1,n,v=>by
  have a:rk .i64 10=0:=by decide
  have b:rk .u64 0=0:=by decide
  have e:=vX (fun f x=>ZRc (fun n v=>ub h d n v) f x) v.slots (nm (h n))
  have c:=wn v.raws []
  rw[BH,P5,I1 v,Ha]
  simp only[a,b,c,E0,AU]
  have:(⟨#[]⟩:ByteArray).size=0:=rfl
  omega
end Go.Proofs.YthgmbpciandpiaaGreat
namespace Go.Proofs.YthgmbpciandpiaaGreat
set_option linter.all false
open Go Go.Eng
def Rj(s:Scm)(R:Scm→Fld→Val→Option Val)(d:Nat):Prop:=∀(f:Fld) (v:Val),GdF s f→AY v→BL (AR s true d) s true f v=0→R s f v=some (CC (BH s d) f v)
theorem ZuS{N:Fld→Val→Val}{l:List Slt}(hl:l.Pairwise fun a b=>a.num≠b.num):∀F:List Fld,(Cw N F l).length≤F.length
 |[]=>Yh _
 |f::F=>by
  have h:=ZuS (N:=N) hl F
  show(((l.filter fun x=>decide (x.num=f.num)&&!B1 f x.val).map fun x=>Slt.mk f.num (N f x.val))++Cw N F l).length≤_
  rw[Yq,YE,DB]
  by_cases c:∃x∈l,x.num=f.num∧B1 f x.val=false
  ·obtain⟨x,g,e,d⟩:=c
   have:=iX hl (fun y=>!B1 f y.val) g (by rw[d];rfl)
   rw[←e,this,JM]
   omega
  ·rw[ZiW f.num (fun y=>!B1 f y.val) fun x g e=>by
    cases d:B1 f x.val with
    |true=>rfl
    |false=>exact absurd ⟨x,g,e,d⟩ c,FE]
   omega
theorem ZBE(l:List Raw)(x:Raw):(IU l x).length=l.length+1:=by
 unfold IU
 simp only[Yq,Yu,YU,JM]
 omega
theorem Ztf:∀(l out:List Raw),(l.foldl IU out).length=out.length+l.length
 |[],out=>rfl
 |x::l,out=>by rw[ZL,Ztf l,ZBE,DB];omega
theorem wc(out:List Raw)(x:Raw):∀k:Nat,He out x k≤k
 |0=>Yh _
 |k+1=>by
  have:=wc out x k
  unfold He
  split<;>omega
theorem Zuk{s:Scm}(hs:As (Al s)≤1048576)(g:GdS s)(R:Scm→Fld→Val→Option Val)(d:Nat)(hR:Rj s R d)(n:ByteArray)(v:Val)(A:AY v)(h:OkM s true d (A8 s n).1 v):OH R s n v=some (BH s (d+1) n v):=by
 have H:=B5 A
 have W:Mg s n=some (A8 s n):=qU s n (Df hs).ml
 have ha:=g.asc n
 have hl:(AN s n).length≤1048576:=KS (Df hs) n
 have zs:=H.s
 have zr:=H.r
 have M:(AN s n).length<4611686018427387904:=by omega
 have w2:v.slots.length<4611686018427387904:=by omega
 have O:v.raws.length<4611686018427387904:=by omega
 have pw:v.slots.Pairwise fun a b=>a.num≠b.num:=h.pw.imp fun h=>h.1
 have J:=ED (B:=Qg s v R (A8 s n)) (N:=Aj) (ρ:=Val) (AN s n) (fun p=>Cw (CC (BH s d)) p v.slots) (fun i b=>(i,b)) id (fun i f w=>by
  have u:=Bj w
  have hi:=(Yb.1 w).1
  have z:i+1<9223372036854775808:=by omega
  have hm:=Yj w
  have K:=ED (B:=Qh s v R (A8 s n) i f) (N:=Aj) (ρ:=Val) v.slots (fun p=>Cw (CC (BH s d)) ((AN s n).take i) v.slots++(p.filter fun x=>decide (x.num=f.num)&&!B1 f x.val).map fun x=>Slt.mk f.num (CC (BH s d) f x.val)) (fun i b=>(i,b)) id (fun j x l=>by
   have I:=Bj l
   have hj:=(Yb.1 l).1
   have D:j+1<9223372036854775808:=by omega
   have E:v.slots.getD j Rw.z=x:=by rw[Yp,l];rfl
   have F:(0:Int)≤j∧(j:Int)<v.slots.length:=⟨by omega,I⟩
   have o:=Yj l
   have X:=ZZR f (B5 (GZ A o))
   have a1:=ZuS (N:=CC (BH s d)) pw ((AN s n).take i)
   have y:(((v.slots.take j).filter fun x=>decide (x.num=f.num)&&!B1 f x.val).map fun x=>Slt.mk f.num (CC (BH s d) f x.val)).length≤4194304:=by
    rw[YE]
    refine CY (JN _ _) ?_
    rw[Yu]
    omega
   rw[Yu]at a1
   rw[JJ,Eh]
   have a3:(Cw (CC (BH s d)) ((AN s n).take i) v.slots++((v.slots.take j).filter fun x=>decide (x.num=f.num)&&!B1 f x.val).map fun x=>Slt.mk f.num (CC (BH s d) f x.val)).length<549755813887:=by rw[Yq];omega
   rw[←EC]
   generalize Cw (CC (BH s d)) ((AN s n).take i) v.slots++((v.slots.take j).filter fun x=>decide (x.num=f.num)&&!B1 f x.val).map (fun x=>Slt.mk f.num (CC (BH s d) f x.val))=out at a3⊢
   dsimp only[Qh,Xu,WE,V8,XR,Xi,XN,Jq,XM,S1,R6,br,ix,AZ,vz,vw,wg,vs,v2,ln,Ai,lc,ap,Az,cs,wa,tw,fl,Ah,br]
   simp only[w2,I,E,F,l,X,YY,Yo,Yr,Ya,B9,Y5,Y2,YH]
   by_cases c:x.num=f.num
   ·cases G:B1 f x.val with
    |true=>simp[c,G,D]
    |false=>
     have ef:AO (AN s n) x.num=f:=by
      unfold AO
      rw[c,H9 ha hm]
     have r:=(h.sl x o).2
     rw[show(A8 s n).1.fields=AN s n from rfl,ef]at r
     have Y:=hR f x.val (g.fl n f hm) (GZ A o) r
     simp[c,G,D,Y,a3]
   ·simp[c,D]) (by dsimp only[Qh,Xu,WE,V8,XR,Xi,XN,Jq,XM,S1,R6,br,ix,AZ,vz,vw,wg,vs,v2,ln,Ai,lc,ap,Az,cs,wa,tw,fl,Ah,br];simp[w2]) (A3 (by omega))
  dsimp only[Qg,Xo,Wb,WO,br,ix,vz,wg,vs,v2,ln,Ai,lc,wa,fl,Ah,br]
  rw[show(A8 s n).1.fields=AN s n from rfl]
  simp only[M,u,w,Yo,Yr,Ya]
  simp only[List.filter_nil,E0,JU]at K
  rw[K]
  have Z:Cw (CC (BH s d)) ((AN s n).take i++[f]) v.slots=Cw (CC (BH s d)) ((AN s n).take i) v.slots++(v.slots.filter fun x=>decide (x.num=f.num)&&!B1 f x.val).map fun x=>Slt.mk f.num (CC (BH s d) f x.val):=by
   unfold Cw
   rw[List.flatMap_append,ZH,List.flatMap_nil,JU]
  simp only[Ya,Fx,id,z,Yr,Z]) (by dsimp only[Qg,Xo,Wb,WO,br,ix,vz,wg,vs,v2,ln,Ai,lc,wa,fl,Ah,br];rw[show(A8 s n).1.fields=AN s n from rfl];simp[M]) (A3 (by omega))
 have q3:∀out:List Slt,An (Nj v R out) Aj (0,[])=some (.inl (Ha v.raws)):=fun out=>by
  have q:=ED (B:=Nj v R out) (N:=Aj) (ρ:=Val) v.raws Ha (fun i b=>(i,b)) id (fun i x l=>by
   have u:=Bj l
   have hi:=(Yb.1 l).1
   have z:i+1<9223372036854775808:=by omega
   have e:Ha (v.raws.take i++[x])=IU (Ha (v.raws.take i)) x:=by
    unfold Ha
    rw[List.foldl_append]
    rfl
   have a1:(Ha (v.raws.take i)).length≤4194304:=by
    unfold Ha
    rw[Ztf,Yu]
    simp only[FE]
    omega
   rw[e]
   generalize Ha (v.raws.take i)=c at a1⊢
   have w4:c.length<4611686018427387904:=by omega
   have E:v.raws.getD i Rw.z=x:=by rw[Yp,l];rfl
   have F:(0:Int)≤i∧(i:Int)<v.raws.length:=⟨by omega,u⟩
   have q4:∀(k N:Nat),k≤c.length→k<N→An (QG v R out i c) N (k:Int)=some (.inl ((He c x k:Nat):Int)):=by
    intro k
    induction k with
    |zero=>
     intro N _ hN
     obtain⟨N,rfl⟩:∃m,N=m+1:=⟨N-1,by omega⟩
     rw[An]
     dsimp only[QG,Wm,br,AZ,vz,wg,vs,vg,ln,Ai,wi,fl,br]
     simp[He]
    |succ k C=>
     intro N hk hN
     obtain⟨N,rfl⟩:∃m,N=m+1:=⟨N-1,by omega⟩
     have P:((k+1:Nat):Int)-1=(k:Int):=by omega
     have Q:(0:Int)<((k+1:Nat):Int):=by omega
     have S:(0:Int)≤k∧(k:Int)<c.length:=⟨by omega,by omega⟩
     have T: -9223372036854775808≤(k:Int)∧(k:Int)<9223372036854775808:=by omega
     have C:=C N (by omega) (by omega)
     rw[An,He]
     dsimp only[QG,Wm,br,AZ,vz,wg,vs,vg,ln,Ai,wi,fl,br]
     simp only[P,Q,S,T,E,F,YY,Yo,Yr,Ya,Y4,B9,Y5]
     by_cases t:x.num<(c.getD k Rw.z).num
     ·rw[YQ t,Yg rfl,Yg t]
      exact C
     ·rw[Dh t,Yf (by decide),Yf t]
   have L:=q4 c.length Aj (Yh _) (A3 (by omega))
   have y:=wc c x c.length
   unfold IU
   generalize He c x c.length=k at L y⊢
   have U:(c.take k).length<549755813887:=by rw[Yu];omega
   have V:(c.take k++[x]).length+(c.drop k).length<549755813888:=by rw[Yq,Yu,YU,JM];omega
   dsimp only[Nj,WL,Wp,WD,Xj,br,ix,vz,vw,wg,vs,ln,Ai,lc,ap,aq,a0,wa,sL,fl,fz,Ah,br]
   simp only[O,w4,u,z,L,l,Yo,Yr,Ya,Fx,id,Bd.c,Bd.vl,YY]
   simp[U,V,y]
   exact⟨by omega,by omega,by omega,JL (by rw[YU];exact Yh _)⟩) (by dsimp only[Nj,WL,Wp,WD,Xj,br,ix,vz,vw,wg,vs,ln,Ai,lc,ap,aq,a0,wa,sL,fl,fz,Ah,br];simp[O]) (A3 (by omega))
  exact q
 dsimp only[OH,ou,mh,o4,pl,m8,nz,vz,vw,wg,lr,lc,cl,fl,fz,fr]
 rw[W,Ya]
 rw[show Cw (CC (BH s d)) ([]:List Fld) v.slots=[]from rfl]at J
 rw[J,Ya]
 simp only[Fx,id]
 rw[q3,Ya]
 rfl
theorem nb{s:Scm}(hs:As (Al s)≤1048576)(g:GdS s)(R:Scm→Fld→Val→Option Val)(d:Nat)(f:∀d':Nat,d=d'+1→Rj s R d')(t:Typ)(v:Val)(b:AY v)(h:BB (AR s true d) s t v=0):Ku R s t v=some (Dv (BH s d) t v):=by
 unfold Dv
 dsimp only[Ku,ew,br,wg,lr,cl,cs,br]
 by_cases c:t.kind=10
 ·unfold BB at h
  rw[Yg c]at h
  cases a:(A8 s t.name).2 with
  |false=>rw[a]at h;cases h
  |true=>
   rw[a,Yg rfl]at h
   cases d with
   |zero=>
    unfold AR at h
    split at h<;>cases h
   |succ d=>
    have e:=Zuk hs g R d (f d rfl) t.name v b (PC.1 h)
    rw[Yg (YQ c),e,Yg c]
    rfl
 ·rw[Yf (by simp[c]),wQ b,Yf c]
  rfl
theorem ZU5{s:Scm}(hs:As (Al s)≤1048576)(g:GdS s)(R:Scm→Fld→Val→Option Val)(d:Nat)(t:∀d':Nat,d=d'+1→Rj s R d')(f:Fld)(v:Val)(E:GdF s f)(c:AY v)(h:BL (AR s true d) s true f v=0):Tg R s f v=some (CC (BH s d) f v):=by
 have y:=B5 c
 have I:=y.l
 have J:=y.p
 have z:v.list.length<4611686018427387904:=by omega
 have w2:v.pairs.length<4611686018427387904:=by omega
 unfold CC
 unfold BL at h
 dsimp only[Tg,nu,qv,oq,bJ,mE,aI,l1,qE,be,lm,m6,aH,qr,pG,vz,vw,wg,lr,lc,cl,cs,fl,fz,fr]
 by_cases m:f.card=4
 ·rw[Yg m]at h⊢
  split at h
  ·cases h
  ·rw[HY]at h
   have q:=ED (B:=P9 s f v R) (N:=Aj) (ρ:=Val) v.list (fun p=>p.map (Dv (BH s d) f.type)) (fun i b=>(i,b)) id (fun i x n=>by
    have o:=Bj n
    have hi:=(Yb.1 n).1
    have r:i+1<9223372036854775808:=by omega
    have hm:=Yj n
    have e:=nb hs g R d t f.type x (Ie c hm) (h x hm)
    have a1:((v.list.take i).map (Dv (BH s d) f.type)).length<549755813887:=by rw[YE,Yu];omega
    rw[Eh]
    generalize (v.list.take i).map (Dv (BH s d) f.type)=out at a1⊢
    dsimp only[P9,RN,RM,M7,br,ix,vz,vw,wg,vs,ln,Ai,lc,ap,cs,wa,tw,fl,Ah,br]
    simp only[z,o,r,n,e,a1,Yo,Yr,Ya,YZ,E0]) (by dsimp only[P9,RN,RM,M7,br,ix,vz,vw,wg,vs,ln,Ai,lc,ap,cs,wa,tw,fl,Ah,br];simp[z]) (A3 (by omega))
   rw[E0]at q
   rw[Yg (YQ m),q]
   rfl
 ·rw[Yf m]at h⊢
  rw[Yf (by simp[m])]
  by_cases k:f.card=5
  ·rw[Yg k]at h⊢
   split at h
   ·cases h
   ·rw[Jm]at h
    have u:∀p∈v.pairs,p.key.kind=f.key∧BB (AR s true d) s f.type p.val=0:=fun p a=>by
     obtain⟨j,F⟩:=YB.1 a
     have:=h j p F
     rw[XF]at this
     exact⟨(Ko this.1).1,this.2.2⟩
    have G:=E.ky k
    have w:∀p∈v.pairs,Du p.key=p.key:=fun p a=>by
     unfold Du
     rw[Yf]
     have:=(u p a).1
     omega
    have q:=ED (B:=QS s f v R) (N:=Aj) (ρ:=Val) v.pairs (fun l=>l.map fun p=>Pr.mk (Du p.key) (Dv (BH s d) f.type p.val)) (fun i b=>(b,i)) id (fun i p a=>by
     have o:=Bj a
     have hi:=(Yb.1 a).1
     have r:i+1<9223372036854775808:=by omega
     have hm:=Yj a
     have e:=nb hs g R d t f.type p.val (D0 c hm).2 (u p hm).2
     have A:=wQ (D0 c hm).1
     have a1:((v.pairs.take i).map fun p=>Pr.mk (Du p.key) (Dv (BH s d) f.type p.val)).length<549755813887:=by rw[YE,Yu];omega
     rw[Eh]
     generalize (v.pairs.take i).map (fun p=>Pr.mk (Du p.key) (Dv (BH s d) f.type p.val))=out at a1⊢
     dsimp only[QS,WA,R7,Sw,br,ix,vz,vw,vs,ln,Ai,lc,ap,cl,cs,wa,du,fl,Ah,br]
     simp only[w2,o,r,a,e,A,a1,Yo,Yr,Ya,YZ,E0]) (by dsimp only[QS,WA,R7,Sw,br,ix,vz,vw,vs,ln,Ai,lc,ap,cl,cs,wa,du,fl,Ah,br];simp[w2]) (A3 (by omega))
    rw[E0]at q
    have C:=ZH4 (v.pairs.map fun p=>Pr.mk (Du p.key) (Dv (BH s d) f.type p.val)) (by rw[YE];have:=Cz (e:=Ay) v.pairs;have D:As (Ag v)≤1048576:=c;rw[I1]at D;omega) fun q H=>by
     obtain⟨p,a,rfl⟩:=YX.1 H
     have:=(u p a).1
     refine⟨?_,?_⟩
     ·show 1≤(Du p.key).kind∧(Du p.key).kind≤9
      rw[w p a]
      omega
     ·show AY (Du p.key)
      rw[w p a]
      exact(D0 c a).1
    rw[Yg (YQ k),q,Ya]
    simp only[Fx,id]
    rw[C]
    rfl
  ·rw[Yf k]at h⊢
   rw[Yf (by simp[k]),nb hs g R d t f.type v c h]
   rfl
theorem nfH{s:Scm}(hs:As (Al s)≤1048576)(g:GdS s):∀a d:Nat,d<a→Rj s (KD a) d
 |0,d,h=>by omega
 |a+1,d,h=>fun f v c i b=>ZU5 hs g (KD a) d (fun d' e=>nfH hs g a d' (by omega)) f v c i b
theorem Zz3{s:Scm}(hs:As (Al s)≤1048576)(g:GdS s)(n:ByteArray)(v:Val)(a:AY v)(h:OkM s true 15 (A8 s n).1 v):OH (KD Aj) s n v=some (BH s 16 n v):=Zuk hs g _ 15 (nfH hs g Aj 15 (A3 (by omega))) n v a h
theorem jJ{s:Scm}(hs:As (Al s)≤1048576)(g:GdS s)(n:ByteArray)(v:Val)(d:AY v):Ok (fun b:Bool=>b=true↔Fh s true n v=0∧v=BH s 16 n v) (gy s n v):=by
 dsimp only[gy,eY,wg,lr,cl,Az]
 rw[ZxJ hs n v d,Ya]
 by_cases c:Fh s true n v=0
 ·have i:AY (BH s 16 n v):=CY (ub g.asc 16 n v) d
  obtain⟨b,e,a⟩:=ZVp d i
  have f:=Zz3 hs g n v d (lT.1 c).2.1
  simp[c,e,f,a]
  exact⟨_,rfl,a⟩
 ·exact⟨false,by simp[c],Iff.intro (fun h=>absurd h (by decide)) fun h=>absurd h.1 c⟩
theorem tZ(v:Val)(h:AY v):Ok Tr (gT v 1000):=by
 dsimp only[gT,eL,wg,lr,cl]
 (repeat' (first|with_reducible (first|refine AG (fun _=>?_) fun _=>?_|refine AC ?_)|(with_reducible apply AD;(exact o17 Aj _ _ _ h (by omega) (by unfold Aj;omega) (by omega) (by omega) (by omega));intro _ _)|with_reducible refine AK ?_ ?_))<;>exact AS
theorem ZRG(s:Scm)(n:ByteArray)(v:Val)(k:Int)(hs:s.messages.length≤1048576)(b:(AN s n).length≤1048576)(hm:(A8 s n).2=true)(c:(BC (AN s n) k).2=false):O3 s n v k=some (zV,8):=by
 have a:Gg s n k=some (.mk (A8 s n).1 s,zF,8):=by
  dsimp only[Gg,Lb,K8,K5,br,vw,wg,lr,lc,cl,br]
  have hm:(Ch s.messages zM fun m=>decide (m.name=n)).2=true:=hm
  rw[qX _ _ hs,Ya,hm]
  simp only[YJ,Yk,YD,Yr]
  rw[NF _ _ b,Ya]
  rw[show(Ch s.messages zM fun m=>decide (m.name=n)).1.fields=AN s n from rfl,c]
  rfl
 dsimp only[O3,Tn,br,B8,wg,lr,cl,br]
 rw[a]
 rfl
theorem ZQe(l:List Slt)(x:Slt):AU ((Ea l x).map Am)=AU (l.map Am)+(As (Am x)+1):=by
 unfold Ea
 cases l.findIdx? fun y=>decide (x.num<y.num)with
 |none=>
  show AU ((l++[x]).map Am)=_
  simp only[Eh,HX,YZ,E0,AU]
 |some i=>
  show AU ((l.take i++[x]++l.drop i).map Am)=_
  have h:=Z0 Am l i
  simp only[Eh,HX,YZ,E0,AU]
  omega
theorem ZQj{F:List Fld}(h:CG F F.length){v:Val}{f:Fld}{x:Val}:As (Ag (.mk v.kind v.bits v.text v.list v.pairs (Hd v.slots F f f.num false x) v.raws))≤As (Ag v)+(As (Am (.mk f.num x))+1):=by
 rw[p8 h,P5,I1 v,ZQe]
 have a:=VC Am (fun y=>!decide (y.num=f.num)&&(decide (f.union=⟨#[]⟩)||!decide ((AO F y.num).union=f.union))) v.slots
 have b:AU ((Hk F f.union f.num v.slots).map Am)≤AU (v.slots.map Am):=by
  rw[a]
  exact N7 _ _
 omega
theorem Zh6{s:Scm}{n:ByteArray}{v w:Val}{k:Int}(hs:As (Al s)≤1048576)(_:(0:Nat)≤1)(L:As (Ag v)≤1048576)(hvw:As (Ag v)+As (Ag w)≤1048576):gA s n v w k=some true:=by
 have h:=Df hs
 have F:As (Ag w)≤1048576:=by omega
 obtain⟨b,e1,g1⟩:=o6g s n hs
 obtain⟨V,e2,_⟩:=tZ v L
 obtain⟨W,e3,_⟩:=tZ w F
 dsimp only[gA,fQ,br,wg,lr,cl,Az,br]
 rw[e1,Ya,e2,e3,aw]
 cases b with
 |false=>simp
 |true=>
 have hg:=g1 rfl
 have g:=ZP4 hg hs
 have N:=g.asc n
 have hl:(AN s n).length≤1048576:=KS h n
 obtain⟨X,e4,a4⟩:=jJ hs g n v L
 obtain⟨Y,e5,a5⟩:=jJ hs g n w F
 rw[e4,e5]
 cases V with
 |false=>simp
 |true=>
 cases W with
 |false=>simp
 |true=>
 cases X with
 |false=>simp
 |true=>
 cases Y with
 |false=>simp
 |true=>
 obtain⟨z,C⟩:=a4.1 rfl
 obtain⟨d1,d2⟩:=a5.1 rfl
 obtain⟨hm,ov,cv⟩:=lT.1 z
 obtain⟨_,R,cw⟩:=lT.1 d1
 have T:=B5 F
 have E:=n19 w k (by have:=T.s;omega)
 cases A:(BC (AN s n) k).2 with
 |false=>
  have u:=ZRG s n w k h.ml hl hm A
  simp[u,E]
 |true=>
 have O:=KP A
 have i:AO (AN s n) k∈AN s n:=by
  rcases MH (AN s n) k with⟨z,C⟩|⟨z,C⟩
  ·rw[A]at z;cases z
  ·exact C
 have P:BC (AN s n) k=(AO (AN s n) k,true):=by rw[←A];rfl
 have hfq:AO (AN s n) k=AO (AN s n) k:=rfl
 generalize ef:AO (AN s n) k=f at O i P
 subst O
 have u:=g18 s n w f h.ml hl (by have:=T.s;omega) hm P
 cases q:Co w.slots f.num with
 |false=>simp[u,E,q]
 |true=>
 rw[jM]at q
 obtain⟨H,m⟩:=Fy.1 q
 have o:H∈w.slots:=IL m
 have t:H.num=f.num:=by
  have:=ZM m
  exact DT this
 have J:QU w.slots f=H.val:=by
  unfold QU
  rw[m]
  rfl
 obtain⟨k1,x⟩:=H
 have t:k1=f.num:=t
 subst t
 have J:QU w.slots f=x:=J
 have hx:AY x:=GZ F o
 have j:=(R.sl _ o).2
 rw[show(A8 s n).1.fields=AN s n from rfl,show(Slt.mk f.num x).num=f.num from rfl,ef]at j
 have j:BL (AR s true 15) s true f x=0:=j
 have pw:w.slots.Pairwise fun a b=>a.num≠b.num:=R.pw.imp fun h=>h.1
 have pv:v.slots.Pairwise fun a b=>a.num≠b.num:=ov.pw.imp fun h=>h.1
 obtain⟨_,_,_,_,_,w6,_⟩:=P0.1 d2
 have r:=(ta N pw w6).2 _ o
 unfold Rk at r
 rw[show(Slt.mk f.num x).num=f.num from rfl,ef]at r
 obtain⟨_,G,M⟩:=r
 have G:B1 f x=false:=G
 have M:CC (BH s 15) f x=x:=M
 have cx:cnt x≤4096:=CY (ZVb o) cw
 have B:=g.fl n f i
 have ft:F3 s f x=0:=ZR2 B j (by omega) cx
 have em:L7 f x=false:=ZRu B j G
 have D:=ZPS hs g n v f.num x L hx
 have e9:T6 s n v f.num x=(.mk v.kind v.bits v.text v.list v.pairs (Hd v.slots (AN s n) f f.num false x) v.raws,0):=by
  unfold T6
  rw[hm,A,ef,ft,em]
  rfl
 rw[e9]at D
 have S:=ZJS g ov i j
 have Q:=ZIL (d:=15) g pv C i G M
 have K:=ZQj N (v:=v) (f:=f) (x:=x)
 have hbx:=CQ (e:=Am) o
 have hbw:=I1 w
 generalize Val.mk v.kind v.bits v.text v.list v.pairs (Hd v.slots (AN s n) f f.num false x) v.raws=y at D S Q K
 have hy:AY y:=by show As (Ag y)≤1048576;omega
 have l:=ZxJ hs n y hy
 have p:Fh s true n y=if 4096<cnt y then 3 else 0:=by
  unfold Fh
  rw[hm,PC.2 S]
  rfl
 rw[p]at l
 rw[J]at u
 by_cases c:4096<cnt y
 ·rw[Yg c]at l
  simp[u,E,jM,m,D,l]
 ·rw[Yf c]at l p
  obtain⟨Z,I,U⟩:=jJ hs g n y hy
  have:Z=true:=U.2 ⟨p,Q⟩
  subst this
  simp[u,E,jM,m,D,l,I]
end Go.Proofs.YthgmbpciandpiaaGreat
