import Derived.Test.YtifefgdogdecnaaGreatDoorEa05
import Derived.Test.YtifefgdogdecnaaGreatDoorEa04
import Derived.Test.YtifefgdogdecnaaGreatDoorEa00
namespace Go.Eng
set_option linter.all false
open Go Go.RowKit
def KA(r:Ren)(l n outs:Nat)(B:Base)(env:AQ)(K:St→AT→Prop)(σ:St):Prop:=∃b,GA r l outs env K b∧∀a w,R l n B σ a w→R l n B b a w
section
variable {P:Program} {T:Nat→Option TI} {r:Ren} {l n outs:Nat} {B:Base} {env:AQ} {τ σ:St} {a:AT} {o:Oper} {K:St→AT→Prop}
theorem KA.of(h:GA r l outs env K σ):KA r l n outs B env K σ:=⟨σ,h,fun _ _ h=>h⟩
theorem IV{d:Nat}{e:TypeId}{sz:Nat}{cells:List AV}{x:Nat→AV}(h:Ck l n d e sz cells x (GA r l outs env K) σ):Ck l n d e sz cells x (KA r l n outs B env K) σ:=⟨h.1,.of h.2⟩
theorem Tt(i:AJ P T)(h:RG r l outs env τ σ){d:Nat}(k:o.dst=some d)(j:Bk env [] o.op=true)(m:fresh d env=true)(p:tV T τ.H o.op (ev τ.s) none a (CV n d K τ))
  (c:AW P l n o (KA r l n outs B ((d,[])::env) K) σ=AG P σ.H o.op (ev σ.s) (Bu n o.dst (KA r l n outs B ((d,[])::env) K) σ)):AW P l n o (KA r l n outs B ((d,[])::env) K) σ:=by
 rw[c,k]
 refine Kz (fun y hy=>?_) (UG i h AH (fun b e=>by cases e) j p)
 obtain⟨f,g⟩:=Ku h m hy
 exact⟨f,.of g⟩
theorem Sd{x:AV}{d:D}(h:DG x=some d):ren r x=x:=by
 cases x<;>simp only[DG]at h<;>first|(simp[ren];done)|cases h
theorem Sn:∀{xs:List AV} {ds:List D},BX xs=some ds→Ae r xs=xs
 |[],_,_=>by simp[Ae]
 |x::xs,ds,h=>by
  simp only[BX]at h
  split at h
  ·rename_i d a b c
   rw[Ae,Sd b,Sn c]
  ·cases h
theorem fW{x:AV}{e:List D}(h:H2 x=some e):ren r x=x:=by
 cases x with
 |agg xs=>simp only[H2]at h;rw[ren,Sn h]
 |_=>
  simp only[H2]at h
  split at h
  ·rename_i d a;exact Sd a
  ·cases h
theorem Ko{sz:Nat}:∀{ps:List (Nat×AV)} {i:Nat} {a:List (List D)},Dj sz i ps=some a→(ps.map fun p=>(p.1,ren r p.2))=ps
 |[],_,_,_=>rfl
 |(j,v)::ps,i,a,h=>by
  simp only[Dj]at h
  split at h
  ·rename_i e b c d
   simp only[Y3,fW c,Ko d]
  ·cases h
theorem OG(h:RG r l outs env τ σ){sz c:Nat}{y:AV}{news:List AV}(i:Lt τ.H sz y=true)(hs:Ea sz (cellsOf τ.H y) y c news):FR σ.H sz (ren r y)=some (c,Ae r news)∧(Ae r news).all AV.one=true:=by
 obtain⟨p,a⟩:=hs
 have b:(Ae r news).all AV.one=true:=by
  rw[C9,List.all_map]
  refine Yo.2 fun x hx=>?_
  have:=Yo.1 p x hx
  cases x<;>first|(simp[Function.comp,ren,AV.one];done)|cases this
 refine⟨?_,b⟩
 split at a
 ·obtain⟨rfl,rfl⟩:=a;simp[ren,FR,Ae]
 ·rename_i s
  obtain⟨d,rfl,rfl⟩:=a
  simp only[ren,FR]
  rw[Yj (Yo.2 fun e he=>by simpa using d e he),Fp]
 ·rename_i k g off m
  obtain⟨rfl,d,rfl⟩:=a
  simp only[Lt,Yc]at i
  obtain⟨hl,q⟩:=i
  obtain⟨j,n,t,o,f⟩:=h.h.at hl
  have e:cellsOf τ.H (.ref k g off c)=(τ.H k).cells:=by simp[cellsOf,hl]
  rw[e]at d⊢
  simp only[ren,FR]
  rw[Yj ⟨j,n,by rw[o];exact Ya q,by rw[f,Bw];exact d⟩,f,CM,C7]
 ·exact a.elim
theorem cT(E:RenOk r l outs)(F:AJ P T)(h:RG r l outs env τ σ){d:Nat}{t:TypeId}{x y:AV}(X:fresh d env=true)(b:PJ T r n d t x y a K τ):
  HW P l n d t (ren r x) (ren r y) (KA r l n outs B ((d,[])::env) K) σ:=by
 unfold PJ at b
 split at b
 case h_2=>exact b.elim
 rename_i i hi
 split at b
 case h_2=>exact b.elim
 rename_i e sz he
 split at b
 case h_2=>exact b.elim
 rename_i j L J m
 have J:=Yd J
 unfold HW
 rw[(F _ _ hi).elm _ he]
 split at b
 ·rename_i byt z c news q W Z
  obtain⟨f,U,o⟩:=b
  obtain⟨O,Q⟩:=OG h m f
  obtain⟨M,N⟩:=(F _ _ L).byt _ W
  have G:c*P.bytesOf e≤140737488355328:=CI (Nat.mul_le_mul_left _ M) U
  refine⟨by omega,N,by rw[(F _ _ L).zer _ Z];rfl,?_⟩
  simp only[O,ren]
  refine⟨Q,G,fun hc=>?_,fun hc=>?_⟩
  ·subst hc
   have C:d<n:=by
    unfold FE at o
    split at o
    ·rename_i C;have:=Yd C;omega
    ·exact o.elim
   have hn:=G9 (x':=fun g=>.ref (l+1,d) g 0 0) E h X (fun g=>by simp[ren,E.own]) o
   have I:Ae r news=[]:=by
    have hl:news=[]:=by
     obtain⟨_,f⟩:=f
     split at f
     ·exact f.2
     ·obtain⟨_,A,p⟩:=f
      have:‹List (List D)›=[]:=YZ A.symm
      rw[this]at p;simpa using p
     ·obtain⟨A,_,p⟩:=f;rw[←A]at p;simpa using p
     ·exact f.elim
    rw[hl];simp[Ae]
   rw[I]at hn
   refine⟨C,_,hn.2,fun act w hR=>?_⟩
   have:=R.adopt (e:=e) (sz:=sz) hR (l+1,d) rfl ((σ.H (l+1,d)).g+1) (Y5 _) (d:=d) (by simp[upd])
   have S:upd (upd σ.s d .e0) d (.ref (l+1,d) ((σ.H (l+1,d)).g+1) 0 0)=upd σ.s d (.ref (l+1,d) ((σ.H (l+1,d)).g+1) 0 0):=by funext j;unfold upd;split<;>rfl
   simp only[S]at this
   exact this
  ·exact IV (G9 (x':=fun g=>.ref (l+1,d) g 0 c) E h X (fun g=>by simp[ren,E.own]) o)
 ·rename_i byt z k q off c' c news C' n' q' W Z
  split at b
  case h_2=>exact b.elim
  rename_i hl u s C
  obtain⟨f,⟨U,o,A,p⟩,V⟩:=b
  obtain⟨V,Y,H⟩:=KX E h (Ct hl).2 V
  obtain⟨O,Q⟩:=OG h m f
  obtain⟨M,N⟩:=(F _ _ L).byt _ W
  obtain⟨g1,g2,g3,g4,g5⟩:=h.h.at hl
  have C:=Yd C
  have u:=Ya u
  have s:=fX s
  refine⟨by omega,N,by rw[(F _ _ L).zer _ Z];rfl,?_⟩
  simp only[O,ren]
  refine⟨Q,g1,g2,by rw[g4,u],by rw[g3,s],by rw[g5,Bw];exact U,by rw[A];exact CI (Nat.mul_le_mul_left _ M) p,H,by omega,.of ⟨_,_,V,?_⟩⟩
  have h7:=h.put0 (v:=.ref k (q+1) 0 n') (y:=.ref (r.κ k) (r.γ k+q+1) 0 (c'+c)) X (by simp[ren,A,Ys])
  have h8:=RG.updH E h7 k ⟨q+1,true,e,sz,C'⟩ rfl Y
  have S:Ao r k ⟨q+1,true,e,sz,C'⟩=⟨r.γ k+q+1,true,e,sz,(σ.H (r.κ k)).cells.drop (off*sz)++Ae r news⟩:=by
   simp only[Ao,g5,CM,←DW,o,Ys]
  rw[S]at h8
  exact h8
 ·exact b.elim
theorem R2(y:RenOk r l outs)(h:RG r l outs env τ σ){t:TypeId}{i:TI}(hi:TIok P t i){x:AV}{vs:List AV}(c:IX r n i x (some vs) a K τ):
  ∃k g off,ren r x=.ptr k g off∧g=(σ.H k).g∧(σ.H k).live=true∧(Ae r vs).length=P.cellsOf t∧Ae r vs≠[]∧off+(Ae r vs).length≤(σ.H k).cells.length∧(k.1=l+1∨(Ae r vs).all (AV.low k.1)=true)∧
   GA r l outs env K ⟨σ.s,updH σ.H k {σ.H k with cells:=(σ.H k).cells.take off++Ae r vs++(σ.H k).cells.drop (off+(Ae r vs).length) }⟩:=by
 unfold IX at c
 split at c
 case h_2=>exact c.elim
 rename_i k q off E heq
 cases heq
 split at c
 case h_2=>exact c.elim
 rename_i hl d m
 have d:=Ya d
 have m:=Yd m
 obtain⟨s,u,B,C,v⟩:=h.h.at hl
 obtain⟨F,G⟩:=Ct hl
 have fin:∀f z,GY (τ.H k).cells off vs f→F6 r k vs (K ⟨τ.s,updH τ.H k ⟨q,true,(τ.H k).e,(τ.H k).sz,f⟩⟩ z)→_:=fun f z hs o=>by
  obtain⟨s1,s2⟩:=hs
  obtain⟨o,p,j⟩:=KX y h (Ct hl).2 o
  refine(⟨r.κ k,r.γ k+q,off,by simp[ren],s,u,by rw[Bw,hi.siz,d],by intro e;have:=congrArg List.length e;rw[Bw,Fe]at this;omega,by rw[v,Bw,Bw];exact s1,?_,_,_,o,?_⟩:
   ∃k' g b,ren r (.ptr k q off)=.ptr k' g b∧g=(σ.H k').g∧(σ.H k').live=true∧(Ae r vs).length=P.cellsOf t∧Ae r vs≠[]∧b+(Ae r vs).length≤(σ.H k').cells.length∧(k'.1=l+1∨(Ae r vs).all (AV.low k'.1)=true)∧
   GA r l outs env K ⟨σ.s,updH σ.H k' {σ.H k' with cells:=(σ.H k').cells.take b++Ae r vs++(σ.H k').cells.drop (b+(Ae r vs).length) }⟩)
  ·exact j
  ·have w:=RG.updH y h k ⟨q,true,(τ.H k).e,(τ.H k).sz,f⟩ rfl p
   have A:Ao r k ⟨q,true,(τ.H k).e,(τ.H k).sz,f⟩={σ.H (r.κ k)with cells:=(σ.H (r.κ k)).cells.take off++Ae r vs++(σ.H (r.κ k)).cells.drop (off+(Ae r vs).length) }:=by
    simp only[Ao,v,Bw,C7,CM,←DW,s2,s,B,C,←u]
   rw[A]at w
   exact w
 split at c
 ·split at c
  ·rename_i D;exact fin _ _ ⟨Yd D,rfl⟩ c
  ·exact c.elim
 ·exact fin _ _ c.1 c.2
 ·exact c.elim
theorem SO(L:RenOk r l outs)(D:AJ P T)(h:RG r l outs env τ σ)(v:Bk env [] o.op=true)(H:Ey env o.dst=true)(s:GG P T l n r o a K τ):AW P l n o (KA r l n outs B (CR env o.dst) K) σ:=by
 obtain⟨dst,op,ty,ps,af,gd⟩:=o
 have ops:∀{op:Op},Bk env [] op=true→(∀c x y,op≠.pick c x y)→∀x∈op.operands,ev σ.s x=ren r (ev τ.s x):=fun {op} v hne=>by
  unfold Bk at v
  split at v
  ·exact absurd rfl (hne _ _ _)
  ·exact Dy h AH v
 unfold GG at s
 simp only at v H s⊢
 split at s
 ·rename_i t
  split at s
  case h_2=>exact s.elim
  rename_i d i hi
  split at s
  case h_2=>exact s.elim
  rename_i z zs A
  have M:=Gj (r:=r) ((D _ _ hi).flt _ A)
  have N:=G9 (x':=fun g=>.ptr (l+1,d) g 0) L h H (fun g=>by simp[ren,L.own]) s
  rw[M]at N
  simp only[AW,(D _ _ hi).zer _ A]
  exact⟨by simp,IV N⟩
 ·rename_i t x
  split at s
  case h_2=>exact s.elim
  rename_i d z zs A O
  have hx:=ops v (fun _ _ _ e=>by cases e) x (by simp[Op.operands])
  have N:=G9 (x':=fun g=>.ptr (l+1,d) g 0) L h H (fun g=>by simp[ren,L.own]) s
  have E:=IL (r:=r) A (IU O)
  simp only[AW,hx,E]
  refine⟨dn (by simp),?_⟩
  rw[Bw]
  exact IV N
 ·rename_i t p x
  split at s
  case h_2=>exact s.elim
  rename_i i hi O
  have hx:=ops v (fun _ _ _ e=>by cases e) x (by simp[Op.operands])
  have hpp:=ops v (fun _ _ _ e=>by cases e) p (by simp[Op.operands])
  cases A:BJ (ev τ.s x)with
  |none=>rw[A]at s;unfold IX at s;split at s<;>first|exact s.elim|(rename_i e;cases e)
  |some vs=>
   rw[A]at s
   have E:=IL (r:=r) A (IU O)
   obtain⟨k,g,off,R,Y,Z,e4,e5,e6,e7,e8⟩:=R2 L h (D _ _ hi) s
   simp only[AW,hpp,hx,E,R]
   exact⟨Y,Z,e4,e5,e6,e7,.of e8⟩
 ·rename_i t len parts
  split at s
  case h_2=>exact s.elim
  rename_i d i hi
  split at s
  case h_2=>exact s.elim
  rename_i e sz he
  simp only[AW,(D _ _ hi).elm _ he]
  split at s
  ·rename_i u
   have u:=Yd u
   refine⟨by omega,?_⟩
   split at s
   ·rename_i hps
    obtain⟨I,G⟩:=Ku h H (y:=.e0) ⟨.e0,a,by simp[ren],s⟩
    exact⟨by rw[←Fb,hps];rfl,I,.of G⟩
   ·exact s.elim
  ·rename_i len' u
   have u:=Yd u
   refine⟨by omega,?_⟩
   split at s
   case h_2=>exact s.elim
   rename_i j V W
   split at s
   case h_2=>exact s.elim
   rename_i z A
   split at s
   case h_2=>exact s.elim
   rename_i es F J
   split at s
   case h_2=>exact s.elim
   rename_i hes
   have R:(parts.toList.map fun p=>(p.1,ev σ.s p.2))=parts.toList.map fun p=>(p.1,ev τ.s p.2):=by
    have:(parts.toList.map fun p=>(p.1,ev σ.s p.2))=(parts.toList.map fun p=>(p.1,ev τ.s p.2)).map fun p=>(p.1,ren r p.2):=by
     rw[Ep]
     refine Y1 fun p s=>?_
     simp only[Function.comp]
     rw[ops v (fun _ _ _ e=>by cases e) p.2 (by simp only[Op.operands,In,YO];exact⟨p,s,rfl⟩)]
    rw[this,Ko J]
   rw[R]
   simp only[(D _ _ V).zer _ A,J]
   obtain⟨I,G⟩:=Ku h H (y:=.d (.list es)) ⟨.d (.list es),a,by simp[ren],s⟩
   exact⟨Yd W,Ya F,Ya hes,I,.of G⟩
  ·exact s.elim
 ·rename_i t x y
  split at s
  case h_2=>exact s.elim
  rename_i d i k1 c k2 c' m C b hi hx0 hy0
  have hx:=ops v (fun _ _ _ e=>by cases e) x (by simp[Op.operands])
  have hy:=ops v (fun _ _ _ e=>by cases e) y (by simp[Op.operands])
  rw[hx0]at hx
  rw[hy0]at hy
  split at s
  case h_2=>exact s.elim
  rename_i e sz he
  split at s
  case h_2=>exact s.elim
  rename_i j V u
  split at s
  case h_2=>exact s.elim
  rename_i z byt A S
  split at s
  case h_2=>exact s.elim
  rename_i F
  obtain⟨⟨m1,m2,m3,m4⟩,s⟩:=s
  have F:=Ya F
  have u:=Yd u
  have hb:=(D _ _ V).byt _ S
  have hfz:=(D _ _ V).flt _ A
  have U:C.all AV.flat=true:=by
   subst m4
   refine Yo.2 fun q hq=>?_
   obtain⟨z',E,X⟩:=J0.1 hq
   rw[(MY.1 E).2]at X
   exact Yo.1 hfz q X
  have M:=Gj (r:=r) U
  have N:=G9 (x':=fun g=>.ref (l+1,d) g 0 m) L h H (fun g=>by simp[ren,L.own]) s
  rw[M]at N
  simp only[AW,(D _ _ hi).elm _ he,hx,hy,ren,(D _ _ V).zer _ A]
  subst m1
  have hbb:(P.bytesOf e:Int)*c'≤(byt:Int)*c':=QM (by omega) (by omega)
  refine⟨by omega,m2,by omega,hb.2,by omega,F,?_⟩
  simp only[Il,m4]
  exact IV N
 ·rename_i c
  split at s
  ·rename_i w
   split at s
   case h_2=>exact s.elim
   rename_i d x y t t' ha ht
   split at s
   case h_2=>exact s.elim
   rename_i Q
   have Q:=Ya Q
   subst Q
   have G:c.argTypes=#[t,t]:=Y6 (by simpa using ht)
   have hx:=ops v (fun _ _ _ e=>by cases e) x (by simp only[Op.operands,Call.operands,Im];exact .inr (by rw[←MU,ha];simp))
   have hy:=ops v (fun _ _ _ e=>by cases e) y (by simp only[Op.operands,Call.operands,Im];exact .inr (by rw[←MU,ha];simp))
   simp only[AW,w,ha,ht]
   refine⟨by rw[G];rfl,?_⟩
   rw[hx,hy]
   exact cT L D h H s
  ·rename_i hna
   split at s
   case h_2=>exact s.elim
   rename_i d
   unfold pV at s
   simp only at s
   split at s
   ·rename_i f w
    obtain⟨i,first,caps,x,a',R,Y,Z⟩:=N8 h AH (fun b e=>by cases e) w v s
    simp only[AW,w,R]
    refine Y.mono fun y H' ⟨I,G⟩=>?_
    subst I;subst G
    obtain⟨I,G⟩:=Ku h H (y:=ren r x) ⟨x,a',rfl,Z⟩
    exact⟨I,.of G⟩
   ·rename_i hnv
    refine Tt (o:=⟨some d,.call c,ty,ps,af,gd⟩) D h rfl v H s ?_
    simp only[AW]
 ·rename_i I G h3 h4 h5 h6
  split at s
  case h_2=>exact s.elim
  rename_i d
  have hp':tV T τ.H op (ev τ.s) none a (CV n d K τ):=by
   unfold pV at s
   split at s
   ·exact absurd rfl (h6 _)
   ·exact absurd rfl (h4 _ _ _)
   ·exact s
  refine Tt (o:=⟨some d,op,ty,ps,af,gd⟩) D h rfl v H hp' ?_
  simp only[AW]
theorem Tp{d:Option Nat}{v y:AV}{c:Hp}(f:Ey env d=true){τ':St}(h:RG r l outs env ⟨τ.s,τ'.H⟩ ⟨σ.s,c⟩)(hy:y=ren r v)(b:L2 n K τ.s τ'.H v a d):
  Bu n d (KA r l n outs B (CR env d) K) ⟨σ.s,c⟩ y:=by
 cases d with
 |none=>exact .of ⟨_,_,b,h⟩
 |some d=>
  simp only[L2]at b
  split at b
  ·rename_i e;exact⟨Yd e,.of ⟨_,_,b,h.put0 f hy⟩⟩
  ·exact b.elim
theorem Oq(Q:RenOk r l outs)(A:AJ P T)(h:RG r l outs env τ σ)(s:Bk env [] o.op=true)(hf:Ey env o.dst=true)(d:FU P T l n r o a K τ):Br P l n B o (KA r l n outs B (CR env o.dst) K) σ:=by
 have ops:∀{op:Op},Bk env [] op=true→(∀c x y,op≠.pick c x y)→∀x∈op.operands,ev σ.s x=ren r (ev τ.s x):=fun {op} s hne=>by
  unfold Bk at s
  split at s
  ·exact absurd rfl (hne _ _ _)
  ·exact Dy h AH s
 unfold FU at d
 split at d
 case h_2=>exact Gk (SO Q A h s hf d)
 rename_i c ho
 split at d
 ·rename_i f
  split at d
  case h_2=>exact d.elim
  rename_i x y t t' ha ht
  have u:o.op=.call ⟨.builtin .copy,#[x,y],#[t,t']⟩:=by
   rw[ho]
   have C:c.args=#[x,y]:=Y6 (by simpa using ha)
   have O:c.argTypes=#[t,t']:=Y6 (by simpa using ht)
   cases c;simp only at f C O;subst f;subst C;subst O;rfl
  rw[u]at s
  have hx:=ops s (fun _ _ _ e=>by cases e) x (by simp[Op.operands,Call.operands])
  have hy:=ops s (fun _ _ _ e=>by cases e) y (by simp[Op.operands,Call.operands])
  unfold Wi at d
  split at d
  case h_2=>exact d.elim
  rename_i i i' hi hi'
  split at d
  case h_2=>exact d.elim
  rename_i e sz e' sz' he he'
  split at d
  case h_2=>exact d.elim
  rename_i j q1 q2 V w Y
  split at d
  case h_2=>exact d.elim
  rename_i z k q off cn cnt news N b Z J
  split at d
  case h_2=>exact d.elim
  rename_i hl m
  obtain⟨h1,h2,h3,H⟩:=d
  obtain⟨H,I,p⟩:=KX Q h (Ct hl).2 H
  have q1:=Ya q1
  have q2:=Ya q2
  subst q1;subst q2
  have m:=Ya m
  have w:=Yd w
  obtain⟨D,E,S,F,G⟩:=h.h.at hl
  obtain⟨C,O⟩:=OG h Y h1
  rw[J]at hx
  obtain⟨s1,s2⟩:=h3
  obtain⟨ss,M⟩:=σ
  refine dc (k:=r.κ k) (g:=r.γ k+q) (off:=off) (cn:=cn) (cnt:=cnt) (news:=Ae r news) u (by rw[hx];simp[ren]) ((A _ _ hi).elm _ he) ((A _ _ hi').elm _ he') (by rw[(A _ _ V).zer _ Z];rfl) (by omega) D E (by rw[F,m]) (by rw[hy];exact C) h2
   (by rw[G,Bw,Bw];exact s1) p ?_
  have U:=RG.updH Q h k ⟨q,true,(τ.H k).e,(τ.H k).sz,N⟩ rfl I
  have R:Ao r k ⟨q,true,(τ.H k).e,(τ.H k).sz,N⟩={M (r.κ k)with cells:=(M (r.κ k)).cells.take (off*sz)++Ae r news++(M (r.κ k)).cells.drop (off*sz+(Ae r news).length) }:=by
   simp only at D E S F G
   simp only[Ao,G,Bw,C7,CM,←DW,s2,D,S,F,←E]
  simp only at R
  rw[R]at U
  refine Tp (v:=.d (.int .i64 cnt)) (a:=b) (τ':=⟨τ.s,updH τ.H k ⟨q,true,(τ.H k).e,(τ.H k).sz,N⟩⟩) hf U (by simp[ren]) H
 ·rename_i f
  split at d
  case h_2=>exact d.elim
  rename_i x t ha ht hd
  have u:o.op=.call ⟨.builtin .clear,#[x],#[t]⟩:=by
   rw[ho]
   have C:c.args=#[x]:=Y6 (by simpa using ha)
   have O:c.argTypes=#[t]:=Y6 (by simpa using ht)
   cases c;simp only at f C O;subst f;subst C;subst O;rfl
  rw[u]at s
  have hx:=ops s (fun _ _ _ e=>by cases e) x (by simp[Op.operands,Call.operands])
  unfold T2 at d
  split at d
  case h_2=>exact d.elim
  rename_i i hi
  split at d
  case h_2=>exact d.elim
  rename_i e sz he
  split at d
  case h_2=>exact d.elim
  rename_i j V w
  split at d
  case h_2=>exact d.elim
  rename_i z k q off cn N b Z J
  split at d
  case h_2=>exact d.elim
  rename_i hl m L
  obtain⟨⟨h1,h2⟩,H⟩:=d
  obtain⟨H,I,p⟩:=KX Q h (Ct hl).2 H
  have m:=Ya m
  have w:=Yd w
  have L:=Ya L
  obtain⟨D,E,S,F,G⟩:=h.h.at hl
  have hfz:=Gj (r:=r) ((A _ _ V).flt _ Z)
  rw[hfz]at p
  rw[J]at hx
  obtain⟨ss,M⟩:=σ
  refine cO (k:=r.κ k) (g:=r.γ k+q) (off:=off) (cn:=cn) u hd (by rw[hx];simp[ren]) ((A _ _ hi).elm _ he) ((A _ _ V).zer _ Z) L (by omega) D E (by rw[F,m]) (by rw[G,Bw];exact h1) p ?_
  have U:=RG.updH Q h k ⟨q,true,(τ.H k).e,(τ.H k).sz,N⟩ rfl I
  have X:Ae r (List.replicate cn z).flatten=(List.replicate cn z).flatten:=Gj (by
   refine Yo.2 fun q hq=>?_
   obtain⟨z',hz',W⟩:=J0.1 hq
   rw[(MY.1 hz').2]at W
   exact Yo.1 ((A _ _ V).flt _ Z) q W)
  have R:Ao r k ⟨q,true,(τ.H k).e,(τ.H k).sz,N⟩={M (r.κ k)with cells:=(M (r.κ k)).cells.take (off*sz)++(List.replicate cn z).flatten++(M (r.κ k)).cells.drop ((off+cn)*sz) }:=by
   simp only at D E S F G
   rw[←h2]
   simp only[Ao,G,DW,C7,CM,X,D,S,F,←E]
  simp only at R
  rw[R]at U
  exact .of ⟨_,_,H,by rw[hd];exact U⟩
 ·exact Gk (SO Q A h s hf d)
theorem U0{a:Nat→Option (Nat×Nat)}:∀(ps:List (Nat×AV)) (z cs:List AV),(∀p∈ps,FO p.2=true)→Bt a z ps=some cs→Bt a (Ae r z) (ps.map fun p=>(p.1,ren r p.2))=some (Ae r cs)
 |[],z,cs,_,h=>by
  simp only[Bt,Yh]at h
  subst h
  simp[Bt]
 |(f,v)::ps,z,cs,d,h=>by
  simp only[Bt]at h
  split at h
  ·rename_i off size vs b g
   split at h
   ·cases h
   ·rename_i e
    have c:=IL (r:=r) g (IU (d (f,v) (YF ..)))
    simp only[Y3,Bt,b,c,Bw]
    rw[Yt e]
    have:=U0 ps _ cs (fun p b=>d p (Yy _ b)) h
    rw[←this]
    simp only[DW,C7,CM]
  ·cases h
theorem iu(d:Bj o=true)(b:GK P T l n r o a K τ):FU P T l n r o a K τ:=by
 unfold GK at b
 split at b
 ·rename_i c;simp[Bj,c]at d
 ·exact b
theorem dT(w:RenOk r l outs)(m:AJ P T)(h:RG r l outs env τ σ)(k:Bk env [] o.op=true)(u:Ey env o.dst=true)(c:GK P T l n r o a K τ):Br P l n B o (KA r l n outs B (CR env o.dst) K) σ:=by
 unfold GK at c
 split at c
 case h_2=>exact Oq w m h k u c
 rename_i t len parts D
 split at c
 case h_2=>exact Oq w m h k u c
 case h_3=>exact Oq w m h k u c
 rename_i b
 have ops:∀x∈o.op.operands,ev σ.s x=ren r (ev τ.s x):=by
  unfold Bk at k
  split at k
  ·rename_i e;rw[D]at e;cases e
  ·exact Dy h AH k
 unfold Ul at c
 split at c
 case h_2=>exact c.elim
 rename_i d i I hi
 split at c
 case h_2=>exact c.elim
 rename_i e sz he
 split at c
 case h_2=>exact c.elim
 rename_i j J E v
 split at c
 case h_2=>exact c.elim
 rename_i z M
 split at c
 case h_2=>exact c.elim
 rename_i cs F f C
 split at c
 case h_2=>exact c.elim
 rename_i A
 have G:(parts.toList.map fun p=>(p.1,ev σ.s p.2))=(parts.toList.map fun p=>(p.1,ev τ.s p.2)).map fun p=>(p.1,ren r p.2):=by
  rw[Ep]
  refine Y1 fun p c=>?_
  rw[ops p.2 (by rw[D];simp only[Op.operands,In,YO];exact⟨p,c,rfl⟩)]
  rfl
 have q:o.dst=some d:=I
 rw[q]at u⊢
 have L:=G9 (x':=fun g=>.ref (l+1,d) g 0 (len+1)) w h u (fun g=>by simp[ren,w.own]) c
 obtain⟨s,H⟩:=σ
 exact Rv D q ((m _ _ hi).elm _ he) (by have:=Yd E;omega) (Yd v) ((m _ _ J).zer _ M) (Ya F) (by
  rw[G]
  have:=U0 (r:=r) _ _ _ (fun p c=>Yo.1 C p c) f
  rw[Gj (r:=r) (z:=(List.replicate (len+1) z).flatten) (Yo.2 fun x hx=>by
   obtain⟨y,hy,hx⟩:=J0.1 hx
   rw[List.eq_of_mem_replicate hy]at hx
   exact Yo.1 A x hx)]at this
  exact this) (IV L)
theorem gH(d:Bj o=true)(c:EN P T l n r o a K τ):GK P T l n r o a K τ:=by
 unfold EN at c
 split at c
 ·rename_i b;simp[Bj,b]at d
 ·rename_i b;simp[Bj,b]at d
 ·exact c
theorem bI(f:RenOk r l outs)(h:RG r l outs env τ σ){K:St→AT→Prop}{d:Nat}(m:fresh d env=true){e:EK}{x x':Nat→AV}(hx:∀g,x' (r.γ (1,d)+g)=ren r (x g))(b:Ph n d e x K τ a):
  Xv l n d e x' (KA r l n outs B ((d,[])::env) K) σ:=by
 unfold Ph at b
 split at b
 ·rename_i k
  refine⟨Yd k,.of ⟨_,_,b,?_⟩⟩
  have j:=RG.updH f h (1,d) ⟨(τ.H (1,d)).g+1,true,e,0,[]⟩ rfl (.inl rfl)
  have c:=j.put0 m (v:=x ((τ.H (1,d)).g+1)) (y:=x' ((σ.H (l+1,d)).g+1)) (by rw[h.g,Ys];exact hx _)
  have i:Ao r (1,d) ⟨(τ.H (1,d)).g+1,true,e,0,[]⟩=⟨(σ.H (l+1,d)).g+1,true,e,0,[]⟩:=by simp only[Ao,Ae,h.g,Ys]
  rw[i,f.own]at c
  exact c
 ·exact b.elim
theorem S0(w:RenOk r l outs)(O:AJ P T)(h:RG r l outs env τ σ)(v:Bk env [] o.op=true)(q:Ey env o.dst=true)(b:EN P T l n r o a K τ):Br P l n B o (KA r l n outs B (CR env o.dst) K) σ:=by
 have ops:(∀c x y,o.op≠.pick c x y)→∀x∈o.op.operands,ev σ.s x=ren r (ev τ.s x):=fun F=>by
  unfold Bk at v
  split at v
  ·rename_i e;exact absurd e (F _ _ _)
  ·exact Dy h AH v
 unfold EN at b
 split at b
 ·rename_i t x j
  split at b
  case h_2=>exact b.elim
  rename_i d i z s hi m
  split at b
  case h_2=>exact b.elim
  rename_i u
  rw[s]at q⊢
  have U:=bI (B:=B) (x':=fun g=>.ptr (l+1,d) g 0) w h q (fun g=>by simp[ren,w.own]) b
  obtain⟨ss,Q⟩:=σ
  have V:=Ew ((O _ _ hi).kin.trans (Ya u))
  have f:=ops (by rw[j];intro _ _ _ e;cases e) x (by rw[j];simp[Op.operands])
  exact bJ j s V (by rw[f,m];simp[ren]) U
 ·rename_i x j
  split at b
  case h_2=>exact b.elim
  rename_i d k g s m
  split at b
  case h_2=>exact b.elim
  rename_i z p E hl he
  have f:=ops (by rw[j];intro _ _ _ e;cases e) x (by rw[j];simp[Op.operands])
  rw[m]at f
  obtain⟨A,C,J,L,M⟩:=h.h.at hl
  rw[s]at q⊢
  unfold Zh at b
  split at b
  case h_2=>exact b.elim
  rename_i a1 a0 D
  obtain⟨H,G⟩:=b
  obtain⟨ss,Q⟩:=σ
  refine dg (k:=r.κ k) (g:=r.γ k+g) (z:=z) (p:=p) j s (by rw[f];simp[ren]) A C (by rw[J];exact he) (Yd D) (fun R=>.of ⟨_,_,G (DT R),h.put0 q (by simp[ren,Ae])⟩) (fun S=>?_)
  have N:=RG.updH w h k ⟨g,true,.s z (p+Ec z p),(τ.H k).sz,(τ.H k).cells⟩ rfl (.inl (Ya E))
  have I:Ao r k ⟨g,true,.s z (p+Ec z p),(τ.H k).sz,(τ.H k).cells⟩={Q (r.κ k)with e:=.s z (p+Ec z p) }:=by
   simp only at A C J L M
   simp only[Ao,A,L,←M,←C]
  simp only at I
  rw[I]at N
  exact .of ⟨_,_,H (Io S),N.put0 q (by simp only[ren,Ae])⟩
 ·exact dT w O h v q b
end
end Go.Eng
namespace Go.Eng
set_option linter.all false
open Go Go.RowKit
section
variable {P:Program} {T:Nat→Option TI} {r:Ren} {l n outs:Nat} {B:Base} {env:AQ} {τ σ:St} {a:AT} {o:Oper}
theorem Vq{H:Hp}{op:Op}{ρ:Operand→AV}{g:Option Bool}{K:AV→AT→Prop}(h:tV T H op ρ g a K):∃v b,K v b:=by
 have fin:∀{v b},K v b→∃v b,K v b:=fun h=>⟨_,_,h⟩
 cases op<;>simp only[tV]at h<;>try exact h.elim
 case move x=>exact fin h
 case assign x=>exact fin h
 case pick c x y=>split at h<;>first|exact fin h|exact h.elim
 case load t x=>
  split at h
  ·unfold HE at h
   repeat' split at h
   all_goals first|exact h.elim|exact fin h|exact fin h.2
  ·grind
 case fieldAddr t x f=>
  split at h
  ·unfold Ki at h
   grind
  ·grind
 case field t x f=>
  split at h
  ·unfold KW at h
   grind
  ·grind
 case indexAddr t x j=>
  split at h
  ·unfold Kk at h
   repeat' split at h
   all_goals first|exact h.elim|exact⟨_,_,h⟩|exact⟨_,_,h.2⟩
  ·grind
 case index t x j=>
  split at h
  ·unfold K2 at h
   grind
  ·grind
 case extract x j=>
  repeat' split at h
  all_goals first|exact h.elim|exact fin h
 case makeInterface t x=>
  repeat' split at h
  all_goals first|exact h.elim|exact fin h
 case typeAssert x u t ok=>
  repeat' split at h
  all_goals first|exact h.elim|exact fin h
 case binOp o t x y u=>
  split at h
  ·unfold LG at h
   split at h
   ·split at h
    ·unfold LH at h
     grind
    grind
   ·unfold L6 at h
    grind
   ·grind
   ·grind
   ·split at h
    ·have nl:∀{neg:Bool} {x:AV},HV H neg x a K→∃v b,K v b:=fun {neg x} h=>by
      unfold HV at h
      repeat' split at h
      all_goals first|exact h.elim|exact fin (h true)|exact fin (h neg (fun _=>rfl))
     grind
    grind
   grind
  ·grind
 case unOp o t x=>
  unfold Mp at h
  repeat' split at h
  all_goals first|exact h.elim|exact fin h|exact fin h.2
 case nilCheck x=>
  split at h
  ·grind
  ·grind
  ·grind
 case convert s d x=>
  split at h
  ·unfold Lc at h
   grind
  ·grind
 case makeFunc fn first e=>split at h<;>first|exact h.elim|exact fin h
 case slice t x lo hi k=>
  split at h
  ·unfold K5 at h
   grind
  ·grind
 case build t parts=>
  split at h
  ·unfold K3 at h
   grind
  ·grind
 case lookup t x y i=>
  split at h
  ·unfold Li at h
   grind
  ·grind
 case call c=>
  split at h
  ·split at h
   ·unfold LB at h
    grind
   grind
  ·unfold Cr at h
   grind
  ·unfold Cr at h
   grind
  ·unfold D8 at h
   grind
  ·grind
theorem K9{op:Op}{g:Option Bool}{K:AV→AT→Prop}(h:pV P T l r τ op g a K):∃v b,K v b:=by
 unfold pV at h
 split at h
 ·split at h
  ·unfold Ll at h
   grind
  ·exact Vq h
 ·unfold Me at h
  repeat' split at h
  all_goals first|exact h.elim|exact⟨_,_,h⟩
 ·exact Vq h
def Yl(r:Ren)(e:Nat)(K:AV→AT→Prop)(σ b:St):Prop:=∃v a,b=⟨upd σ.s e (ren r v),σ.H⟩∧K v a
theorem OR(E:AJ P T)(h:RG r l outs env τ σ){c:BF}(hs:BI τ.s c){g:Option Bool}(M:∀b,g=some b→b=true){e:Nat}{op:Op}{ty:TypeId}{ps:String}{af:Array Edge}{gd:Option (Nat×Bool)}
  (hx:Bk env c op=true) (q:e<n) {K:AV→AT→Prop} (d:pV P T l r τ op g a K):AW P l n ⟨some e,op,ty,ps,af,gd⟩ (Yl r e K σ) σ:=by
 have val:tV T τ.H op (ev τ.s) g a K→AW P l n ⟨some e,op,ty,ps,af,gd⟩ (Yl r e K σ) σ=AG P σ.H op (ev σ.s) (Bu n (some e) (Yl r e K σ) σ)→AW P l n ⟨some e,op,ty,ps,af,gd⟩ (Yl r e K σ) σ:=fun C D=>by
  rw[D]
  exact Kz (fun y ⟨v,A,u,B⟩=>⟨q,v,A,by rw[u],B⟩) (UG E h hs M hx C)
 unfold pV at d
 split at d
 ·rename_i c
  split at d
  ·rename_i f k
   obtain⟨i,first,L,x,A,u,B,O⟩:=N8 h hs M k hx d
   simp only[AW,k,u]
   exact B.mono fun y V ⟨C,D⟩=>by subst C;subst D;exact⟨q,x,A,rfl,O⟩
  ·rename_i G
   refine val d ?_
   cases k:c.callee with
   |value f=>exact absurd k (G f)
   |invoke x m=>simp only[tV,k]at d
   |builtin b=>
    cases b<;>simp only[tV,k]at d<;>simp only[AW,k]
 ·rename_i t len parts
  have I:(Op.buildSlice t len parts).operands.toList.all (EQ env c)=true:=hx
  have u:(parts.toList.map fun p=>(p.1,ev σ.s p.2))=(parts.toList.map fun p=>(p.1,ev τ.s p.2)).map fun p=>(p.1,ren r p.2):=by
   rw[Ep]
   refine Y1 fun p d=>?_
   simp only[Function.comp]
   rw[Dy h hs I p.2 (by simp only[Op.operands,In,YO];exact⟨p,d,rfl⟩)]
  unfold Me at d
  split at d
  case h_2=>exact d.elim
  rename_i i hi
  split at d
  case h_2=>exact d.elim
  rename_i e' sz he
  simp only[AW,(E _ _ hi).elm _ he]
  split at d
  ·rename_i o
   have o:=Yd o
   refine⟨by omega,?_⟩
   split at d
   ·rename_i H
    exact⟨by rw[←Fb,H];rfl,q,.e0,a,by simp[ren],d⟩
   grind
  ·rename_i N o
   have o:=Yd o
   refine⟨by omega,?_⟩
   split at d
   case h_2=>exact d.elim
   rename_i j S w
   split at d
   case h_2=>exact d.elim
   rename_i z U
   split at d
   case h_2=>exact d.elim
   rename_i Q J s
   split at d
   case h_2=>exact d.elim
   rename_i F
   rw[Ko s]at u
   rw[u]
   simp only[(E _ _ S).zer _ U,s]
   exact⟨Yd w,Ya J,Ya F,q,.d (.list Q),a,by simp[ren],d⟩
  grind
 ·rename_i R W
  refine val d ?_
  cases op<;>simp only[tV]at d<;>try exact d.elim
  case call c=>exact absurd rfl (R c)
  all_goals simp only[AW]
theorem Uq(y:AJ P T)(h:RG r l outs env τ σ){c:BF}(hs:BI τ.s c){g:Option Bool}(G:∀b,g=some b→b=true){e:Nat}{op:Op}{ty:TypeId}{ps:String}{af:Array Edge}{gd:Option (Nat×Bool)}
  (hx:Bk env c op=true) (o:e<n) {K:AV→AT→Prop} (d:pV P T l r τ op g a K):Dm P l n ⟨some e,op,ty,ps,af,gd⟩ (Yl r e K σ) σ:=by
 have C:=OR (ty:=ty) (ps:=ps) (af:=af) (gd:=gd) y h hs G hx o d
 unfold pV at d
 split at d
 ·rename_i c
  split at d
  ·rename_i f k
   obtain⟨i,first,F,x,I,v,J,L⟩:=N8 h hs G k hx d
   simp only[Dm,k,v]
   exact⟨ren r x,J,o,x,I,rfl,L⟩
  ·rename_i B
   cases k:c.callee with
   |value f=>exact absurd k (B f)
   |_=>simp only[Dm,k];exact C
 ·rename_i t len parts
  cases len with
  |zero=>exact C
  |succ len=>
   have D:(Op.buildSlice t (len+1) parts).operands.toList.all (EQ env c)=true:=hx
   have v:(parts.toList.map fun p=>(p.1,ev σ.s p.2))=(parts.toList.map fun p=>(p.1,ev τ.s p.2)).map fun p=>(p.1,ren r p.2):=by
    rw[Ep]
    refine Y1 fun p d=>?_
    simp only[Function.comp]
    rw[Dy h hs D p.2 (by simp only[Op.operands,In,YO];exact⟨p,d,rfl⟩)]
   unfold Me at d
   split at d
   case h_2=>exact d.elim
   rename_i i hi
   split at d
   case h_2=>exact d.elim
   rename_i e' sz he
   split at d
   ·rename_i q;cases q
   ·rename_i H u q
    cases q
    have u:=Yd u
    split at d
    case h_2=>exact d.elim
    rename_i j O s
    split at d
    case h_2=>exact d.elim
    rename_i z Q
    split at d
    case h_2=>exact d.elim
    rename_i w E m
    split at d
    case h_2=>exact d.elim
    rename_i A
    rw[Ko m]at v
    exact⟨.d (.list w),⟨e',sz,z,w,(y _ _ hi).elm _ he,by omega,Yd s,(y _ _ O).zer _ Q,Ya E,by rw[v];exact m,Ya A,rfl⟩,o,.d (.list w),a,by simp[ren],d⟩
   ·exact d.elim
 ·rename_i M N
  cases op<;>first|exact absurd rfl (M _)|exact absurd rfl (N _ _ _)|exact C
theorem IN{d:Nat}{e:TypeId}{sz:Nat}{cells:List AV}{x:Nat→AV}{K a:St→Prop}(b:∀σ,K σ→a σ)(h:Ck l n d e sz cells x K σ):Ck l n d e sz cells x a σ:=⟨h.1,b _ h.2⟩
theorem TO{o:Oper}{K b:St→Prop}(a:∀σ,K σ→b σ)(h:AW P l n o K σ):AW P l n o b σ:=by
 have i:∀x,Bu n o.dst K σ x→Bu n o.dst b σ x:=fun x h=>by
  unfold Bu at h⊢
  grind
 unfold AW at h⊢
 split at h
 ·split at h
  ·exact⟨h.1,IN a h.2⟩
  grind
 ·split at h
  ·exact⟨h.1,IN a h.2⟩
  grind
 ·grind
 ·split at h
  ·refine⟨h.1,?_⟩
   replace h:=h.2
   split at h
   ·grind
   ·refine⟨h.1,?_⟩
    replace h:=h.2
    split at h
    ·refine⟨h.1,?_⟩
     replace h:=h.2
     split at h
     ·grind
     ·split at h
      ·exact IN a h
      grind
    grind
  grind
 ·split at h
  ·obtain⟨c,d,f,j,k,h⟩:=h
   refine⟨c,d,f,j,k,?_⟩
   split at h
   ·exact⟨h.1,IN a h.2⟩
   grind
  grind
 ·split at h
  ·split at h
   ·exact h.mono fun r m g=>by
     unfold Jn at g⊢
     unfold Bu at g⊢
     grind
   grind
  ·split at h
   ·refine⟨h.1,?_⟩
    replace h:=h.2
    unfold HW at h⊢
    split at h
    ·obtain⟨c,d,f,h⟩:=h
     refine⟨c,d,f,?_⟩
     split at h
     ·refine⟨h.1,?_⟩
      replace h:=h.2
      split at h
      ·exact⟨h.1,fun e=>⟨(h.2.1 e).1,a _ (h.2.1 e).2⟩,fun e=>IN a (h.2.2 e)⟩
      ·grind
      grind
     grind
    grind
   grind
  ·exact Kz i h
 ·exact Kz i h
theorem Kn{o:Oper}{K a:St→Prop}(b:∀σ,K σ→a σ)(h:Dm P l n o K σ):Dm P l n o a σ:=by
 have e:∀{x},Bu n o.dst K σ x→Bu n o.dst a σ x:=fun {x} h=>by
  unfold Bu at h⊢
  grind
 unfold Dm at h⊢
 split at h
 ·obtain⟨v,c,d⟩:=h;exact⟨v,c,e d⟩
 ·split at h
  ·grind
  ·exact TO b h
 ·exact TO b h
theorem N7(h:RG r l outs env τ σ){ds:List (Option Nat)}{i d:Nat}{b g:Bool}(j:AR ds i=some (some d))(a:DD τ.s ((d,b)::lk env d)=some g):ET σ.s ds i b=some g:=by
 rw[Bi]at j
 have f:=Fj a
 unfold ET
 simp only[j]
 by_cases hs:BI τ.s (lk env d)
 ·have k:=(h.s d).1 hs
  have m:∃t,τ.s d=.d (.bool t):=by
   cases hl:lk env d with
   |nil=>
    rw[hl]at a
    simp only[DD]at a
    grind
   |cons q o=>
    rw[hl]at a
    simp only[DD]at a
    grind
  obtain⟨t,n⟩:=m
  rw[k,n]
  simp only[ren,Yh]
  cases g with
  |true=>
   have:=f.1 rfl (d,b) (YF ..)
   grind
  |false=>
   cases e:t==b with
   |false=>rfl
   |true=>
    exfalso
    have e:t=b:=by simpa using e
    have:BI τ.s ((d,b)::lk env d):=fun q c=>by
     rcases YJ.1 c with rfl|c
     ·grind
     ·exact hs q c
    grind
 ·rw[(h.s d).2 hs]
  simp only[Yh]
  cases g with
  |false=>rfl
  |true=>exact absurd (fun q c=>f.1 rfl q (Yy _ c)) hs
theorem Hb(F:RenOk r l outs)(A:AJ P T){ops:Array Oper}{K:St→AQ→AT→Prop}{QQ:Exit→Act→World→Prop}(more:List Oper)
  (D:∀τ' k u G f w',K τ' k u→RG r l outs k τ' G→R l n B G f w'→wpList P ops QQ more f w'):
  ∀(c:List Oper) (env:AQ) (a:AT) (τ σ:St) (act:Act) (w:World),Di P T l n r (ops.toList.map (·.dst)) c env a K τ→RG r l outs env τ σ→R l n B σ act w→wpList P ops QQ (c++more) act w
 |[],env,a,τ,σ,act,w,h,p,x=>D _ _ _ _ _ _ h p x
 |o::c,env,a,τ,σ,act,w,h,p,x=>by
  unfold Di at h
  split at h
  ·rename_i E
   split at h
   ·rename_i V Z
    refine Nx (by simp[Region.wanted,E]) (S0 (B:=B) F A p V Z h) x fun G f w' I q=>?_
    obtain⟨σ'',⟨τ',u,z,N⟩,O⟩:=I
    exact Hb F A more D c _ _ _ _ _ _ z N (O _ _ q)
   grind
  ·rename_i i b E
   split at h
   case h_2=>exact h.elim
   rename_i d e W he
   split at h
   case h_2=>exact h.elim
   rename_i g t hx j C
   simp only[Yc]at j
   have C:=Yd C
   have J:=N7 p W t
   have hy:(yielded ops act.tmps i==some b)=g:=by
    obtain⟨s,H⟩:=σ
    obtain⟨m,S,hO,L,X,Q,Y⟩:=x.un
    exact N0 Q J
   cases g with
   |true=>
    have hs:=(Fj t).1 rfl
    refine Nx (by simp only[Region.wanted,E];exact hy) (σ:=σ) (B:=B) (l:=l) (n:=n) (KK:=Yl r e (fun v u=>Di P T l n r (ops.toList.map (·.dst)) c ((e,(d,b)::lk env d)::env) u K ⟨upd τ.s e v,τ.H⟩) σ) (Gk ?_) x fun G f w' U q=>?_
    ·obtain⟨M,op,ty,ps,af,gd⟩:=o
     simp only at he
     subst he
     exact OR A p hs (fun b' e'=>by cases e';rfl) hx (by omega) h
    ·obtain⟨v,u,rfl,z⟩:=U
     exact Hb F A more D c _ _ _ _ _ _ z (p.put j.1 j.2 (fun _=>rfl) (fun L=>absurd hs L)) q
   |false=>
    have hs:¬BI τ.s ((d,b)::lk env d):=fun hs=>by have:=(Fj t).2 hs;cases this
    obtain⟨v,u,z⟩:=K9 h
    show wpList P ops QQ (o::(c++more)) act w
    unfold wpList
    rw[Yt (by simp only[Region.wanted,E,hy];decide),he]
    exact Hb F A more D c _ _ _ _ _ _ z (p.put j.1 j.2 (y:=.tup []) (fun h=>absurd h hs) (fun _=>rfl)) (R.undef x (by omega))
theorem Hd(L:RenOk r l outs)(B:AJ P T){ds:List (Option Nat)}{K:St→AQ→AT→Prop}:
  ∀(rest:List Oper) (env:AQ) (a:AT) (τ σ:St),rest.all (fun o=>BK o||A9 o)=true→D3 P T l n r ds rest env a K τ→RG r l outs env τ σ→Ca P l n ds rest (fun Y=>∃τ' z f,K τ' z f∧RG r l outs z τ' Y) σ
 |[],env,a,τ,σ,_,h,u=>⟨_,_,_,h,u⟩
 |o::rest,env,a,τ,σ,w,h,u=>by
  simp only[E1,Yc]at w
  unfold D3 at h
  unfold Ca
  split at h
  ·rename_i G
   simp only[G]
   split at h
   case h_2=>exact h.elim
   rename_i I Z
   by_cases H:A9 o=true
   ·obtain⟨j,op,ty,ps,af,gd⟩:=o
    cases op<;>simp only[A9]at H<;>first|(cases H;done)|skip
    rename_i t p x
    cases j with
    |some d=>cases H
    |none=>
     unfold Pp at h
     simp only at h
     unfold EN GK FU GG at h
     simp only at h I
     split at h
     case h_2=>exact h.elim
     rename_i i hi U
     have A:∀y∈(Op.store t p x).operands,ev σ.s y=ren r (ev τ.s y):=by
      unfold Bk at I
      exact Dy u AH I
     have hx:=A x (by simp[Op.operands])
     have V:=A p (by simp[Op.operands])
     cases W:BJ (ev τ.s x)with
     |none=>rw[W]at h;unfold IX at h;split at h<;>first|exact h.elim|(rename_i e;cases e)
     |some vs=>
      rw[W]at h
      have X:=IL (r:=r) W (IU U)
      obtain⟨k,g,off,M,e2,e3,e4,e5,e6,e7,e8⟩:=R2 L u (B _ _ hi) h
      obtain⟨τ',f,m,h2⟩:=e8
      simp only[Dm,AW,V,hx,X,M]
      exact⟨e2,e3,e4,e5,e6,e7,Hd L B rest _ _ _ _ w.2 m h2⟩
   have J:BK o=true:=by
    grind
   replace w:BK o=true∧_:=⟨J,w.2⟩
   obtain⟨j,op,ty,ps,af,gd⟩:=o
   have E:∃d,j=some d:=by
    have:=w.1
    unfold BK Bj at this
    rw[YD,Yc,Yc]at this
    rcases this with h|h
    ·exact YM.1 h.1
    ·exact YM.1 h.1
   obtain⟨d,rfl⟩:=E
   simp only at I Z G
   have hp:pV P T l r τ op none a (CV n d (fun τ' f=>D3 P T l n r ds rest (CR env (some d)) f K τ') τ):=by
    by_cases C:∃t len p,op=.buildSlice t (len+1) p
    ·obtain⟨t,len,p,rfl⟩:=C
     exact h
    ·have c:Bj ⟨some d,op,ty,ps,af,gd⟩=true:=Oj w.1 fun t len p e=>C ⟨t,len,p,e⟩
     have h:EN P T l n r ⟨some d,op,ty,ps,af,gd⟩ a (fun τ' f=>D3 P T l n r ds rest (CR env (some d)) f K τ') τ:=by
      unfold Pp at h
      split at h
      ·rename_i M _;exact absurd ⟨_,_,_,M⟩ C
      ·exact h
     have h:=iu c (gH c h)
     unfold FU at h
     simp only at h
     have h:GG P T l n r ⟨some d,op,ty,ps,af,none⟩ a (fun τ' f=>D3 P T l n r ds rest (CR env (some d)) f K τ') τ:=by
      subst G
      split at h
      ·split at h
       ·rename_i q;simp[Bj,q]at c
       ·grind
       ·exact h
      ·exact h
     unfold GG at h
     simp only at h
     split at h
     ·simp[Bj]at c
     ·simp[Bj]at c
     ·grind
     ·simp[Bj]at c
     ·simp[Bj]at c
     ·split at h
      ·rename_i q;simp[Bj,q]at c
      ·exact h
     ·exact h
   have Q:∃v f,CV n d (fun τ' f=>D3 P T l n r ds rest (CR env (some d)) f K τ') τ v f:=K9 hp
   have O:d<n:=by
    obtain⟨v,f,m⟩:=Q
    unfold CV at m
    split at m
    ·rename_i E;have E:=Yd E;exact E
    grind
   have:=Uq (ty:=ty) (ps:=ps) (af:=af) (gd:=gd) B u AH (fun b e=>by cases e) I O hp
   refine Kn (fun Y N=>?_) this
   obtain⟨v,f,rfl,m⟩:=N
   unfold CV at m
   split at m
   ·exact Hd L B rest _ _ _ _ w.2 m (u.put0 Z rfl)
   grind
  ·rename_i i b G
   have J:BK o=true:=by
    have:=w.1
    rw[YD]at this
    rcases this with h|h
    ·exact h
    ·exfalso
     obtain⟨j,op,ty,ps,af,gd⟩:=o
     simp only at G
     subst G
     cases op<;>cases j<;>simp[A9]at h
   simp only[G]
   split at h
   case h_2=>exact h.elim
   rename_i d e E he
   split at h
   case h_2=>exact h.elim
   rename_i g D hx s F
   simp only[Yc]at s
   have F:=Yd F
   rw[N7 u E D]
   refine⟨fun S=>?_,fun R=>?_⟩
   ·subst S
    have hs:=(Fj D).1 rfl
    obtain⟨j,op,ty,ps,af,gd⟩:=o
    simp only at he
    subst he
    refine Kn (fun Y N=>?_) (Uq (ty:=ty) (ps:=ps) (af:=af) (gd:=gd) B u hs (fun b' e'=>by cases e';rfl) hx (by omega) h)
    obtain⟨v,f,rfl,m⟩:=N
    exact Hd L B rest _ _ _ _ w.2 m (u.put s.1 s.2 (fun _=>rfl) (fun hn=>absurd hs hn))
   ·subst R
    have hs:¬BI τ.s ((d,b)::lk env d):=fun hs=>by have:=(Fj D).2 hs;cases this
    obtain⟨v,f,m⟩:=K9 h
    rw[he]
    exact⟨F,Hd L B rest _ _ _ _ w.2 m (u.put s.1 s.2 (y:=.tup []) (fun h=>absurd h hs) (fun _=>rfl))⟩
end
def As:List (Nat×AV)→Nat→AV
 |[],_=>.top
 |(i,x)::r,j=>match Nat.beq i j with|true=>x|false=>As r j
def CT:Blk:=⟨0,false,0,0,[]⟩
def Ak:List (Aa×Blk)→Aa→Blk
 |[],_=>CT
 |(k,b)::r,q=>match AX k q with|true=>b|false=>Ak r q
def Ab(ss:List (Nat×AV))(hs:List (Aa×Blk)):St:=⟨As ss,Ak hs⟩
mutual
def Cq(H:Hp):AV→Option AV
 |.ref k g off n=>match A5 H k g with|true=>some (.ref k 0 off n)|false=>none
 |.ptr k g off=>match A5 H k g with|true=>some (.ptr k 0 off)|false=>none
 |.mp k g=>match A5 H k g with|true=>some (.mp k 0)|false=>none
 |.fn f xs ys=>match EM H xs,EM H ys with|some xs,some ys=>some (.fn f xs ys)|_,_=>none
 |.agg xs=>match EM H xs with|some xs=>some (.agg xs)|none=>none
 |.tup xs=>match EM H xs with|some xs=>some (.tup xs)|none=>none
 |.top=>some .top
 |.d x=>some (.d x)
 |.e0=>some .e0
 |.p x=>some (.p x)
 |.iptr cs off=>some (.iptr cs off)
 |.ifc t ds a=>some (.ifc t ds a)
def EM(H:Hp):List AV→Option (List AV)
 |[]=>some []
 |x::xs=>match Cq H x,EM H xs with|some x,some xs=>some (x::xs)|_,_=>none
end
def PX(H:Hp)(x:AV):AV:=match Cq H x with|some v=>v|none=>.top
def Hl(H:Hp)(s:Nat→AV):List Nat→List (Nat×AV)
 |[]=>[]
 |j::r=>(j,PX H (s j))::Hl H s r
def ED(cs:List AV):Prop:=∀x∈cs,x.flat=true
def Hq(H:Hp):List (Aa×Bool)→(List (Aa×Blk)→Prop)→Prop
 |[],K=>K []
 |(k,fl)::r,K=>match (H k).live with
  |false=>Hq H r K
  |true=>match fl with
   |true=>ED (H k).cells∧Hq H r (fun a=>K ((k,⟨0,true,(H k).e,(H k).sz,(H k).cells⟩)::a))
   |false=>match EM H (H k).cells with
    |some cs=>Hq H r (fun a=>K ((k,⟨0,true,(H k).e,(H k).sz,cs⟩)::a))
    |none=>False
def L0:AV→Bool
 |.e0=>true
 |_=>false
def I1:List (Nat×Nat×TypeId×Nat)→St→(St→Prop)→Prop
 |[],τ,K=>K τ
 |(j,d,e,sz)::r,τ,K=>match L0 (τ.s j),(τ.H (1,d)).live with
  |true,false=>I1 r ⟨upd τ.s j (.ref (1,d) ((τ.H (1,d)).g+1) 0 0),updH τ.H (1,d) ⟨(τ.H (1,d)).g+1,true,e,sz,[]⟩⟩ K
  |true,true=>False
  |false,_=>I1 r τ K
structure Lf where
 ls:List Nat
 ks:List (Aa×Bool):=[]
 ad:List (Nat×Nat×TypeId×Nat):=[]
 ze:List Nat:=[]
def H9:List Nat→St→St
 |[],τ=>τ
 |j::r,τ=>match L0 (τ.s j)with|true=>H9 r ⟨upd τ.s j (.d (.list [])),τ.H⟩|false=>H9 r τ
def gz(H:Hp):List Nat→Bool
 |[]=>true
 |i::r=>Nat.beq (H (0,i)).g 0&&gz H r
def Ci(fx:List Nat)(f:Lf)(τ:St)(Φ:St→Prop):Prop:=I1 f.ad (H9 f.ze τ) (fun τ=>match gz τ.H fx with|true=>Hq τ.H f.ks (fun hs=>Φ (Ab (Hl τ.H τ.s f.ls) hs))|false=>False)
structure Cx where
 l:Nat
 B:Base
 κ:Aa→Aa
 θ:Nat→AV
 H0:Hp
 outs:Nat
 no:Aa→Prop
 fx:List Nat
 G:(Aa→Nat)→Prop
def Cx.r(C:Cx)(γ:Aa→Nat):Ren:=⟨C.κ,γ,C.θ,C.H0,C.no⟩
structure CxOk (C:Cx):Prop where
 own:∀d,C.κ (1,d)=(C.l+1,d)
 out:∀i,i<C.outs→(C.κ (0,i)).1≤C.l
 inj:∀i j,i<C.outs→j<C.outs→C.κ (0,i)=C.κ (0,j)→i=j
 no:∀k,C.no k→∃i,i<C.outs∧C.κ (0,i)=k
 G:∀γ γ':Aa→Nat,(∀i∈C.fx,γ' (0,i)=γ (0,i))→C.G γ→C.G γ'
theorem CxOk.ren{C:Cx}(h:CxOk C)(γ:Aa→Nat):RenOk (C.r γ) C.l C.outs:=⟨h.own,h.out,h.inj,h.no⟩
def Wk(n:Nat)(C:Cx)(σ b:St):Prop:=∀a w,R C.l n C.B σ a w→R C.l n C.B b a w
def Is(n:Nat)(C:Cx)(Φ:St→Prop)(σ:St):Prop:=∃γ τ a,C.G γ∧Φ τ∧RG (C.r γ) C.l C.outs [] τ a∧Wk n C σ a
def LW(P:Program)(n:Nat)(C:Cx)(c:Code)(τ:St)(Q:Exit→St→Prop):Prop:=
 ∀γ σ,C.G γ→RG (C.r γ) C.l C.outs [] τ σ→A0 P C.l n C.B c (fun e a=>Is n C (Q e) a) σ
def K8(P:Program)(l n:Nat)(B:Base)(c:Code)(Q:Exit→St→Prop)(σ:St):Prop:=
 ∀a w,R l n B σ a w→∀(b:Frame) (k:List Item) (cs:List Frame),∃e d w',(∃f,Q e f∧R l n B f d w')∧Arrives P (lone (b.at a (.code c::.inLoop c::k)) cs w) b k cs e d w'
def LL(P:Program)(n:Nat)(C:Cx)(c:Code)(τ:St)(Q:Exit→St→Prop):Prop:=
 ∀γ σ,C.G γ→RG (C.r γ) C.l C.outs [] τ σ→K8 P C.l n C.B c (fun e a=>Is n C (Q e) a) σ
def BZ(env:AQ)(τ:St):St:=⟨fun j=>match lk env j with|[]=>τ.s j|_=>.top,τ.H⟩
def GX(C:List AV)(off n sz:Nat)(es:List (List D)):Prop:=es.length=n∧sz≠0∧(∀e∈es,e.length=sz)∧(off+n)*sz≤C.length∧(C.drop (off*sz)).take (n*sz)=es.flatten.map .d
def Mj(H:Hp)(d:Nat)(s:Nat→AV)(A:Prop):List (Nat×List (List D))→Prop
 |[]=>A
 |(j,a)::r=>match s j with
  |.ref k q off m=>(match AX k (1,d),A5 H k q with|true,true=>GX (H (1,d)).cells off m (H (1,d)).sz a∧Mj H d s A r|_,_=>False)
  |_=>False
def Mg(H:Hp)(d:Nat)(A:Prop):List (Aa×Nat×List (List D))→Prop
 |[]=>A
 |(k,i,a)::r=>match Nat.beq k.1 1,AX k (1,d),(H k).live,AR (H k).cells i with
  |true,false,true,some (.ref k' q off m)=>(match AX k' (1,d),A5 H k' q with|true,true=>GX (H (1,d)).cells off m (H (1,d)).sz a∧Mg H d A r|_,_=>False)
  |_,_,_,_=>False
def Zi(r:Ren)(k:Aa)(A:Prop):Prop:=
 match Nat.beq k.1 1 with
 |true=>A
 |false=>GZ r k∧A
def Mn(H:Hp)(d:Nat)(s:Nat→AV):List Nat→Bool
 |[]=>true
 |j::r=>match s j with
  |.mp k g=>AX k (1,d)&&A5 H k g&&Mn H d s r
  |_=>false
def Mo(H:Hp)(d:Nat)(s:Nat→AV):List Nat→Bool
 |[]=>true
 |j::r=>match s j with
  |.ptr k g 0=>AX k (1,d)&&A5 H k g&&Mo H d s r
  |_=>false
def AF(r:Ren)(os:Nat):AT→St→(St→AT→Prop)→Prop
 |.frz d f cs b,τ,K=>match (τ.H (1,d)).live,Nat.ble 1 (τ.H (1,d)).sz with
  |true,true=>Mj τ.H d τ.s (Mg τ.H d (AF r os b ⟨FS f τ.s,EO cs (updH τ.H (1,d) ⟨(τ.H (1,d)).g,false,(τ.H (1,d)).e,(τ.H (1,d)).sz,(τ.H (1,d)).cells⟩)⟩ K) cs) f
  |_,_=>False
 |.adc k i d e sz b,τ,K=>match Nat.beq k.1 1,AX k (1,d),(τ.H k).live,AR (τ.H k).cells i with
  |true,false,true,some .e0=>AF r os b ⟨τ.s,updH (updH τ.H (1,d) ⟨(τ.H (1,d)).g+1,true,e,sz,[]⟩) k ⟨(τ.H k).g,true,(τ.H k).e,(τ.H k).sz,(τ.H k).cells.set i (.ref (1,d) ((τ.H (1,d)).g+1) 0 0)⟩⟩ K
  |_,_,_,_=>False
 |.sep b,τ,K=>K τ b
 |.ads j d e sz b,τ,K=>match L0 (τ.s j)with
  |true=>AF r os b ⟨upd τ.s j (.ref (1,d) ((τ.H (1,d)).g+1) 0 0),updH τ.H (1,d) ⟨(τ.H (1,d)).g+1,true,e,sz,[]⟩⟩ K
  |false=>False
 |.trim k c b,τ,K=>match (τ.H k).live with
  |true=>(∃m,(τ.H k).cells.take m=c)∧Zi r k (AF r os b ⟨τ.s,updH τ.H k ⟨(τ.H k).g,true,(τ.H k).e,(τ.H k).sz,c⟩⟩ K)
  |false=>False
 |.reb j d m c b,τ,K=>match τ.s j with
  |.ref k q off n=>(match AX k (1,d),A5 τ.H k q with
   |true,true=>(n=m∧off*(τ.H k).sz≤(τ.H k).cells.length∧(τ.H k).cells.drop (off*(τ.H k).sz)=c)∧AF r os b ⟨upd τ.s j (.ref k (q+1) 0 m),updH τ.H k ⟨q+1,true,.t (τ.H k).e.ty,(τ.H k).sz,c⟩⟩ K
   |_,_=>False)
  |_=>False
 |.mv d j b,τ,K=>match (τ.H (1,d)).live with
  |true=>DF (τ.H (1,d)).cells∧(j<os∧r.no (r.κ (0,j)))∧AF r os b ⟨fun i=>CX (1,d) (0,j) (τ.H (1,d)).g ((τ.H (0,j)).g+1) (τ.s i),
    updH (updH τ.H (1,d) ⟨(τ.H (1,d)).g,false,(τ.H (1,d)).e,(τ.H (1,d)).sz,(τ.H (1,d)).cells⟩) (0,j) ⟨(τ.H (0,j)).g+1,true,(τ.H (1,d)).e,(τ.H (1,d)).sz,(τ.H (1,d)).cells⟩⟩ K
  |false=>False
 |.fzm d f b,τ,K=>match (τ.H (1,d)).live,(τ.H (1,d)).e,Mn τ.H d τ.s f with
  |true,.m q h,true=>AF r os b ⟨CB (.d (.map q h)) f τ.s,updH τ.H (1,d) ⟨(τ.H (1,d)).g,false,(τ.H (1,d)).e,(τ.H (1,d)).sz,(τ.H (1,d)).cells⟩⟩ K
  |_,_,_=>False
 |.fzb d f b,τ,K=>match (τ.H (1,d)).live,HS (τ.H (1,d)).cells,Mo τ.H d τ.s f with
  |true,some (x::ds),true=>AF r os b ⟨CB (.iptr (x::ds) 0) f τ.s,updH τ.H (1,d) ⟨(τ.H (1,d)).g,false,(τ.H (1,d)).e,(τ.H (1,d)).sz,(τ.H (1,d)).cells⟩⟩ K
  |_,_,_=>False
 |.rnm d d' e i b,τ,K=>match (τ.H (1,d)).live,Nat.beq d d',Nat.beq e d,Nat.beq e d',(τ.H (1,e)).live,AR (τ.H (1,e)).cells i with
  |true,false,false,false,true,some (.ref k g off c)=>(match AX k (1,d),Nat.beq g (τ.H (1,d)).g with
   |true,true=>DF (τ.H (1,d)).cells∧AF r os b ⟨fun j=>CX (1,d) (1,d') (τ.H (1,d)).g ((τ.H (1,d')).g+1) (τ.s j),
     updH (updH (updH τ.H (1,d) ⟨(τ.H (1,d)).g,false,(τ.H (1,d)).e,(τ.H (1,d)).sz,(τ.H (1,d)).cells⟩) (1,d') ⟨(τ.H (1,d')).g+1,true,(τ.H (1,d)).e,(τ.H (1,d)).sz,(τ.H (1,d)).cells⟩)
      (1,e) ⟨(τ.H (1,e)).g,true,(τ.H (1,e)).e,(τ.H (1,e)).sz,(τ.H (1,e)).cells.set i (.ref (1,d') ((τ.H (1,d')).g+1) off c)⟩⟩ K
   |_,_=>False)
  |_,_,_,_,_,_=>False
 |.mvc d q e i b,τ,K=>match (τ.H (1,d)).live,Nat.beq e d,(τ.H (1,e)).live,AR (τ.H (1,e)).cells i with
  |true,false,true,some (.ref k g off c)=>(match AX k (1,d),Nat.beq g (τ.H (1,d)).g with
   |true,true=>DF (τ.H (1,d)).cells∧(q<os∧r.no (r.κ (0,q)))∧AF r os b ⟨fun j=>CX (1,d) (0,q) (τ.H (1,d)).g ((τ.H (0,q)).g+1) (τ.s j),
     updH (updH (updH τ.H (1,d) ⟨(τ.H (1,d)).g,false,(τ.H (1,d)).e,(τ.H (1,d)).sz,(τ.H (1,d)).cells⟩) (0,q) ⟨(τ.H (0,q)).g+1,true,(τ.H (1,d)).e,(τ.H (1,d)).sz,(τ.H (1,d)).cells⟩)
      (1,e) ⟨(τ.H (1,e)).g,true,(τ.H (1,e)).e,(τ.H (1,e)).sz,(τ.H (1,e)).cells.set i (.ref (0,q) ((τ.H (0,q)).g+1) off c)⟩⟩ K
   |_,_=>False)
  |_,_,_,_=>False
 |a,τ,K=>K τ a
def Bx(P:Program)(T:Nat→Option TI)(l n os:Nat)(r:Ren):Code→AT→St→(Exit→St→AT→Prop)→Prop
 |.skip,a,τ,K=>K .normal τ a
 |.ret,a,τ,K=>AF r os a τ (fun τ a=>K .ret τ a)
 |.exit id,a,τ,K=>K (.exit id) τ a
 |.seq x y,a,τ,K=>Bx P T l n os r x a τ (fun e τ' d=>match e with|.normal=>Bx P T l n os r y d τ' K|e=>K e τ' d)
 |.block id c,a,τ,K=>Bx P T l n os r c a τ (fun e τ' d=>match e with|.exit i=>(match Nat.beq i id with|true=>K .normal τ' d|false=>K (.exit i) τ' d)|e=>K e τ' d)
 |.cond c x y,a,τ,K=>match ev τ.s c,a with
  |.d (.bool b),.br a1 f=>(b=true→Bx P T l n os r x a1 τ K)∧(b=false→Bx P T l n os r y f τ K)
  |.d (.bool b),.go a=>(match b with|true=>Bx P T l n os r x a τ K|false=>Bx P T l n os r y a τ K)
  |.d (.bool b),.one v a=>(match v with|true=>(b=true→Bx P T l n os r x a τ K)∧(b=false→False)|false=>(b=true→False)∧(b=false→Bx P T l n os r y a τ K))
  |_,_=>False
 |.region _ ops draw,a,τ,K=>match draw with
  |false=>AF r os a τ (fun τ a=>Di P T l n r (ops.toList.map (·.dst)) ops.toList [] a (fun τ' env d=>K .normal (BZ env τ') d) τ)
  |true=>match Lq ops.toList&&ops.toList.all (fun o=>BK o||A9 o)&&GS ops.toList 0 ops.toList with
   |true=>AF r os a τ (fun τ a=>D3 P T l n r (ops.toList.map (·.dst)) ops.toList [] a (fun τ' env d=>K .normal (BZ env τ') d) τ)
   |false=>False
 |_,_,_,_=>False
mutual
def frz(H:Hp):AV→AT→(AV→AT→Prop)→Prop
 |.d x,a,K=>K (.d x) a
 |.e0,a,K=>K (.d (.list [])) a
 |.ifc t ds q,a,K=>K (.ifc t ds q) a
 |.p v,a,K=>K (.p v) a
 |.agg xs,a,K=>FK H xs a (fun ys c=>K (.agg ys) c)
 |.ref k g off n,a,K=>match Nat.beq k.1 0,Nat.beq k.1 1,A5 H k g with
  |true,_,true=>K (.ref k g off n) a
  |false,true,true=>(match a with|.av (.d (.list b)) c=>GX (H k).cells off n (H k).sz b∧K (.d (.list b)) c|_=>False)
  |_,_,_=>False
 |.mp k g,a,K=>match Nat.beq k.1 0,Nat.beq k.1 1,A5 H k g,(H k).e with
  |true,_,true,_=>K (.mp k g) a
  |false,true,true,.m q b=>K (.d (.map q b)) a
  |_,_,_,_=>False
 |_,_,_=>False
def FK(H:Hp):List AV→AT→(List AV→AT→Prop)→Prop
 |[],a,K=>K [] a
 |x::xs,a,K=>frz H x a (fun y c=>FK H xs c (fun ys b=>K (y::ys) b))
end
def PU(T:Nat→Option TI)(τ:St):ResultVar→(AV→Prop)→Prop
 |.tmp t,K=>K (τ.s t)
 |.cell p t,K=>match τ.s p,T t with
  |.ptr k g off,some i=>(match A5 τ.H k g,i.agg with
   |true,true=>(match Nat.ble 1 i.siz,Fx i.siz ((τ.H k).cells.drop off)with|true,some c=>K (.agg c)|_,_=>False)
   |true,false=>(match AR (τ.H k).cells off with|some c=>K c|none=>False)
   |false,_=>False)
  |_,_=>False
def Pq(T:Nat→Option TI)(τ:St):List ResultVar→(List AV→Prop)→Prop
 |[],K=>K []
 |v::vs,K=>PU T τ v (fun x=>Pq T τ vs (fun xs=>K (x::xs)))
def Ft(H:Hp):Nat→Nat→List Blk
 |0,_=>[]
 |n+1,i=>H (0,i)::Ft H n (i+1)
def Jl(T:Nat→Option TI)(c:List ResultVar)(os:Nat)(τ:St)(a:AT)(b:AV→List Blk→Prop):Prop:=
 Pq T τ c (fun xs=>FK τ.H xs a (fun ys _=>b (B4 ys) (Ft τ.H os 0)))
def FQ(T:Nat→Option TI)(c:List ResultVar)(os:Nat)(b:AV→List Blk→Prop)(e:Exit)(τ:St):Prop:=(e=.normal∨e=.ret)∧∃a,Jl T c os τ a b
end Go.Eng
