import Derived.Test.YtopncadjpnkjhaaGreatDoorZk05
import Derived.Test.YtopncadjpnkjhaaGreatDoorZk04
import Derived.Test.YtopncadjpnkjhaaGreatDoorZk00
namespace Go.Eng
set_option linter.all false
open Go Go.RowKit
def KA(r:Ren)(l n outs:Nat)(B:Base)(env:Bc)(K:St→AT→Prop)(σ:St):Prop:=∃b,H4 r l outs env K b∧∀a w,R l n B σ a w→R l n B b a w
section
variable {P:Program} {T:Nat→Option TI} {r:Ren} {l n outs:Nat} {B:Base} {env:Bc} {τ σ:St} {a:AT} {o:Oper} {K:St→AT→Prop}
theorem KA.of(h:H4 r l outs env K σ):KA r l n outs B env K σ:=⟨σ,h,fun _ _ h=>h⟩
theorem LB{d:Nat}{e:TypeId}{sz:Nat}{cells:List AV}{x:Nat→AV}(h:Df l n d e sz cells x (H4 r l outs env K) σ):Df l n d e sz cells x (KA r l n outs B env K) σ:=⟨h.1,.of h.2⟩
theorem fv(i:AS P T)(h:RG r l outs env τ σ){d:Nat}(k:o.dst=some d)(j:BP env [] o.op=true)(m:fresh d env=true)(p:tV T τ.H o.op (ev τ.s) none a (DY n d K τ))
  (c:A9 P l n o (KA r l n outs B ((d,[])::env) K) σ=AP P σ.H o.op (ev σ.s) (BZ n o.dst (KA r l n outs B ((d,[])::env) K) σ)):A9 P l n o (KA r l n outs B ((d,[])::env) K) σ:=by
 rw[c,k]
 refine Pa (fun y hy=>?_) (fX i h AQ (fun b e=>by cases e) j p)
 obtain⟨f,g⟩:=OU h m hy
 exact⟨f,.of g⟩
theorem dl{x:AV}{d:D}(h:EI x=some d):ren r x=x:=by
 cases x<;>simp only[EI]at h<;>first|(simp[ren];done)|cases h
theorem dw:∀{xs:List AV} {ds:List D},CM xs=some ds→Af r xs=xs
 |[],_,_=>by simp[Af]
 |x::xs,ds,h=>by
  simp only[CM]at h
  split at h
  ·rename_i d a b c
   rw[Af,dl b,dw c]
  ·cases h
theorem ux{x:AV}{e:List D}(h:Kj x=some e):ren r x=x:=by
 cases x with
 |agg xs=>simp only[Kj]at h;rw[ren,dw h]
 |_=>
  simp only[Kj]at h
  split at h
  ·rename_i d a;exact dl a
  ·cases h
theorem OS{sz:Nat}:∀{ps:List (Nat×AV)} {i:Nat} {a:List (List D)},Em sz i ps=some a→(ps.map fun p=>(p.1,ren r p.2))=ps
 |[],_,_,_=>rfl
 |(j,v)::ps,i,a,h=>by
  simp only[Em]at h
  split at h
  ·rename_i e b c d
   simp only[Y1,ux c,OS d]
  ·cases h
theorem Vr(h:RG r l outs env τ σ){sz c:Nat}{y:AV}{news:List AV}(i:P1 τ.H sz y=true)(hs:El sz (cellsOf τ.H y) y c news):G2 σ.H sz (ren r y)=some (c,Af r news)∧(Af r news).all AV.one=true:=by
 obtain⟨p,a⟩:=hs
 have b:(Af r news).all AV.one=true:=by
  rw[D8,List.all_map]
  refine Ym.2 fun x q=>?_
  have:=Ym.1 p x q
  cases x<;>first|(simp[Function.comp,ren,AV.one];done)|cases this
 refine⟨?_,b⟩
 split at a
 ·obtain⟨rfl,rfl⟩:=a;simp[ren,G2,Af]
 ·rename_i t
  obtain⟨d,rfl,rfl⟩:=a
  simp only[ren,G2]
  rw[Yj (Ym.2 fun e he=>by simpa using d e he),FY]
 ·rename_i k g off m
  obtain⟨rfl,d,rfl⟩:=a
  simp only[P1,Yb]at i
  obtain⟨hl,s⟩:=i
  obtain⟨j,n,u,o,f⟩:=h.h.at hl
  have e:cellsOf τ.H (.ref k g off c)=(τ.H k).cells:=by simp[cellsOf,hl]
  rw[e]at d⊢
  simp only[ren,G2]
  rw[Yj ⟨j,n,by rw[o];exact Ya s,by rw[f,B0];exact d⟩,f,DU,D7]
 ·exact a.elim
theorem qc(E:RenOk r l outs)(F:AS P T)(h:RG r l outs env τ σ){d:Nat}{t:TypeId}{x y:AV}(X:fresh d env=true)(b:S0 T r n d t x y a K τ):
  J8 P l n d t (ren r x) (ren r y) (KA r l n outs B ((d,[])::env) K) σ:=by
 unfold S0 at b
 split at b
 case h_2=>exact b.elim
 rename_i i hi
 split at b
 case h_2=>exact b.elim
 rename_i e sz he
 split at b
 case h_2=>exact b.elim
 rename_i j L J m
 have J:=Yd J
 unfold J8
 rw[(F _ _ hi).elm _ he]
 split at b
 ·rename_i byt z c news q W Z
  obtain⟨f,U,o⟩:=b
  obtain⟨O,Q⟩:=Vr h m f
  obtain⟨M,N⟩:=(F _ _ L).byt _ W
  have G:c*P.bytesOf e≤140737488355328:=Do (Nat.mul_le_mul_left _ M) U
  refine⟨by omega,N,by rw[(F _ _ L).zer _ Z];rfl,?_⟩
  simp only[O,ren]
  refine⟨Q,G,fun hc=>?_,fun hc=>?_⟩
  ·subst hc
   have C:d<n:=by
    unfold Hj at o
    split at o
    ·rename_i C;have:=Yd C;omega
    ·exact o.elim
   have hn:=I7 (x':=fun g=>.ref (l+1,d) g 0 0) E h X (fun g=>by simp[ren,E.own]) o
   have I:Af r news=[]:=by
    have hl:news=[]:=by
     obtain⟨_,f⟩:=f
     split at f
     ·exact f.2
     ·obtain⟨_,A,p⟩:=f
      have:‹List (List D)›=[]:=Y5 A.symm
      rw[this]at p;simpa using p
     ·obtain⟨A,_,p⟩:=f;rw[←A]at p;simpa using p
     ·exact f.elim
    rw[hl];simp[Af]
   rw[I]at hn
   refine⟨C,_,hn.2,fun act w hR=>?_⟩
   have:=R.adopt (e:=e) (sz:=sz) hR (l+1,d) rfl ((σ.H (l+1,d)).g+1) (Y9 _) (d:=d) (by simp[upd])
   have S:upd (upd σ.s d .e0) d (.ref (l+1,d) ((σ.H (l+1,d)).g+1) 0 0)=upd σ.s d (.ref (l+1,d) ((σ.H (l+1,d)).g+1) 0 0):=by funext j;unfold upd;split<;>rfl
   simp only[S]at this
   exact this
  ·exact LB (I7 (x':=fun g=>.ref (l+1,d) g 0 c) E h X (fun g=>by simp[ren,E.own]) o)
 ·rename_i byt z k q off c' c news C' n' q' W Z
  split at b
  case h_2=>exact b.elim
  rename_i hl u s C
  obtain⟨f,⟨U,o,A,p⟩,V⟩:=b
  obtain⟨V,Y,H⟩:=PE E h (Ds hl).2 V
  obtain⟨O,Q⟩:=Vr h m f
  obtain⟨M,N⟩:=(F _ _ L).byt _ W
  obtain⟨g1,g2,g3,g4,g5⟩:=h.h.at hl
  have C:=Yd C
  have u:=Ya u
  have s:=s9 s
  refine⟨by omega,N,by rw[(F _ _ L).zer _ Z];rfl,?_⟩
  simp only[O,ren]
  refine⟨Q,g1,g2,by rw[g4,u],by rw[g3,s],by rw[g5,B0];exact U,by rw[A];exact Do (Nat.mul_le_mul_left _ M) p,H,by omega,.of ⟨_,_,V,?_⟩⟩
  have h7:=h.put0 (v:=.ref k (q+1) 0 n') (y:=.ref (r.κ k) (r.γ k+q+1) 0 (c'+c)) X (by simp[ren,A,Yv])
  have h8:=RG.updH E h7 k ⟨q+1,true,e,sz,C'⟩ rfl Y
  have S:Ax r k ⟨q+1,true,e,sz,C'⟩=⟨r.γ k+q+1,true,e,sz,(σ.H (r.κ k)).cells.drop (off*sz)++Af r news⟩:=by
   simp only[Ax,g5,DU,←Fa,o,Yv]
  rw[S]at h8
  exact h8
 ·exact b.elim
theorem cJ(y:RenOk r l outs)(h:RG r l outs env τ σ){t:TypeId}{i:TI}(hi:TIok P t i){x:AV}{vs:List AV}(c:LH r n i x (some vs) a K τ):
  ∃k g off,ren r x=.ptr k g off∧g=(σ.H k).g∧(σ.H k).live=true∧(Af r vs).length=P.cellsOf t∧Af r vs≠[]∧off+(Af r vs).length≤(σ.H k).cells.length∧(k.1=l+1∨(Af r vs).all (AV.low k.1)=true)∧
   H4 r l outs env K ⟨σ.s,updH σ.H k {σ.H k with cells:=(σ.H k).cells.take off++Af r vs++(σ.H k).cells.drop (off+(Af r vs).length) }⟩:=by
 unfold LH at c
 split at c
 case h_2=>exact c.elim
 rename_i k q off E heq
 cases heq
 split at c
 case h_2=>exact c.elim
 rename_i hl d m
 have d:=Ya d
 have m:=Yd m
 obtain⟨s,u,B,C,v⟩:=h.h.at hl
 obtain⟨F,G⟩:=Ds hl
 have fin:∀f z,GD (τ.H k).cells off vs f→Hz r k vs (K ⟨τ.s,updH τ.H k ⟨q,true,(τ.H k).e,(τ.H k).sz,f⟩⟩ z)→_:=fun f z hs o=>by
  obtain⟨s1,s2⟩:=hs
  obtain⟨o,p,j⟩:=PE y h (Ds hl).2 o
  refine(⟨r.κ k,r.γ k+q,off,by simp[ren],s,u,by rw[B0,hi.siz,d],by intro e;have:=congrArg List.length e;rw[B0,GK]at this;omega,by rw[v,B0,B0];exact s1,?_,_,_,o,?_⟩:
   ∃k' g b,ren r (.ptr k q off)=.ptr k' g b∧g=(σ.H k').g∧(σ.H k').live=true∧(Af r vs).length=P.cellsOf t∧Af r vs≠[]∧b+(Af r vs).length≤(σ.H k').cells.length∧(k'.1=l+1∨(Af r vs).all (AV.low k'.1)=true)∧
   H4 r l outs env K ⟨σ.s,updH σ.H k' {σ.H k' with cells:=(σ.H k').cells.take b++Af r vs++(σ.H k').cells.drop (b+(Af r vs).length) }⟩)
  ·exact j
  ·have w:=RG.updH y h k ⟨q,true,(τ.H k).e,(τ.H k).sz,f⟩ rfl p
   have A:Ax r k ⟨q,true,(τ.H k).e,(τ.H k).sz,f⟩={σ.H (r.κ k)with cells:=(σ.H (r.κ k)).cells.take off++Af r vs++(σ.H (r.κ k)).cells.drop (off+(Af r vs).length) }:=by
    simp only[Ax,v,B0,D7,DU,←Fa,s2,s,B,C,←u]
   rw[A]at w
   exact w
 split at c
 ·split at c
  ·rename_i D;exact fin _ _ ⟨Yd D,rfl⟩ c
  ·exact c.elim
 ·exact fin _ _ c.1 c.2
 ·exact c.elim
theorem ea(L:RenOk r l outs)(D:AS P T)(h:RG r l outs env τ σ)(v:BP env [] o.op=true)(H:FX env o.dst=true)(s:Ie P T l n r o a K τ):A9 P l n o (KA r l n outs B (DX env o.dst) K) σ:=by
 obtain⟨dst,op,ty,ps,af,gd⟩:=o
 have ops:∀{op:Op},BP env [] op=true→(∀c x y,op≠.pick c x y)→∀x∈op.operands,ev σ.s x=ren r (ev τ.s x):=fun {op} v hne=>by
  unfold BP at v
  split at v
  ·exact absurd rfl (hne _ _ _)
  ·exact ED h AQ v
 unfold Ie at s
 simp only at v H s⊢
 split at s
 ·rename_i t
  split at s
  case h_2=>exact s.elim
  rename_i d i hi
  split at s
  case h_2=>exact s.elim
  rename_i z zs A
  have N:=HV (r:=r) ((D _ _ hi).flt _ A)
  have O:=I7 (x':=fun g=>.ptr (l+1,d) g 0) L h H (fun g=>by simp[ren,L.own]) s
  rw[N]at O
  simp only[A9,(D _ _ hi).zer _ A]
  exact⟨by simp,LB O⟩
 ·rename_i t x
  split at s
  case h_2=>exact s.elim
  rename_i d z zs A Q
  have M:=ops v (fun _ _ _ e=>by cases e) x (by simp[Op.operands])
  have O:=I7 (x':=fun g=>.ptr (l+1,d) g 0) L h H (fun g=>by simp[ren,L.own]) s
  have E:=Ld (r:=r) A (LD Q)
  simp only[A9,M,E]
  refine⟨sK (by simp),?_⟩
  rw[B0]
  exact LB O
 ·rename_i t p x
  split at s
  case h_2=>exact s.elim
  rename_i i hi Q
  have M:=ops v (fun _ _ _ e=>by cases e) x (by simp[Op.operands])
  have hpp:=ops v (fun _ _ _ e=>by cases e) p (by simp[Op.operands])
  cases A:Cf (ev τ.s x)with
  |none=>rw[A]at s;unfold LH at s;split at s<;>first|exact s.elim|(rename_i e;cases e)
  |some vs=>
   rw[A]at s
   have E:=Ld (r:=r) A (LD Q)
   obtain⟨k,g,off,S,Z,e3,e4,e5,e6,e7,e8⟩:=cJ L h (D _ _ hi) s
   simp only[A9,hpp,M,E,S]
   exact⟨Z,e3,e4,e5,e6,e7,.of e8⟩
 ·rename_i t len parts
  split at s
  case h_2=>exact s.elim
  rename_i d i hi
  split at s
  case h_2=>exact s.elim
  rename_i e sz he
  simp only[A9,(D _ _ hi).elm _ he]
  split at s
  ·rename_i u
   have u:=Yd u
   refine⟨by omega,?_⟩
   split at s
   ·rename_i hps
    obtain⟨I,G⟩:=OU h H (y:=.e0) ⟨.e0,a,by simp[ren],s⟩
    exact⟨by rw[←Y6,hps];rfl,I,.of G⟩
   ·exact s.elim
  ·rename_i len' u
   have u:=Yd u
   refine⟨by omega,?_⟩
   split at s
   case h_2=>exact s.elim
   rename_i j W X
   split at s
   case h_2=>exact s.elim
   rename_i z A
   split at s
   case h_2=>exact s.elim
   rename_i es F J
   split at s
   case h_2=>exact s.elim
   rename_i hes
   have S:(parts.toList.map fun p=>(p.1,ev σ.s p.2))=parts.toList.map fun p=>(p.1,ev τ.s p.2):=by
    have:(parts.toList.map fun p=>(p.1,ev σ.s p.2))=(parts.toList.map fun p=>(p.1,ev τ.s p.2)).map fun p=>(p.1,ren r p.2):=by
     rw[GH]
     refine Y7 fun p s=>?_
     simp only[Function.comp]
     rw[ops v (fun _ _ _ e=>by cases e) p.2 (by simp only[Op.operands,KI,YQ];exact⟨p,s,rfl⟩)]
    rw[this,OS J]
   rw[S]
   simp only[(D _ _ W).zer _ A,J]
   obtain⟨I,G⟩:=OU h H (y:=.d (.list es)) ⟨.d (.list es),a,by simp[ren],s⟩
   exact⟨Yd X,Ya F,Ya hes,I,.of G⟩
  ·exact s.elim
 ·rename_i t x y
  split at s
  case h_2=>exact s.elim
  rename_i d i k1 c k2 c' m C b hi hx0 hy0
  have M:=ops v (fun _ _ _ e=>by cases e) x (by simp[Op.operands])
  have hy:=ops v (fun _ _ _ e=>by cases e) y (by simp[Op.operands])
  rw[hx0]at M
  rw[hy0]at hy
  split at s
  case h_2=>exact s.elim
  rename_i e sz he
  split at s
  case h_2=>exact s.elim
  rename_i j W u
  split at s
  case h_2=>exact s.elim
  rename_i z byt A U
  split at s
  case h_2=>exact s.elim
  rename_i F
  obtain⟨⟨m1,m2,m3,m4⟩,s⟩:=s
  have F:=Ya F
  have u:=Yd u
  have hb:=(D _ _ W).byt _ U
  have hfz:=(D _ _ W).flt _ A
  have V:C.all AV.flat=true:=by
   subst m4
   refine Ym.2 fun q hq=>?_
   obtain⟨z',E,Y⟩:=Nd.1 hq
   rw[(RC.1 E).2]at Y
   exact Ym.1 hfz q Y
  have N:=HV (r:=r) V
  have O:=I7 (x':=fun g=>.ref (l+1,d) g 0 m) L h H (fun g=>by simp[ren,L.own]) s
  rw[N]at O
  simp only[A9,(D _ _ hi).elm _ he,M,hy,ren,(D _ _ W).zer _ A]
  subst m1
  have hbb:(P.bytesOf e:Int)*c'≤(byt:Int)*c':=X4 (by omega) (by omega)
  refine⟨by omega,m2,by omega,hb.2,by omega,F,?_⟩
  simp only[HG,m4]
  exact LB O
 ·rename_i c
  split at s
  ·rename_i w
   split at s
   case h_2=>exact s.elim
   rename_i d x y t t' ha ht
   split at s
   case h_2=>exact s.elim
   rename_i R
   have R:=Ya R
   subst R
   have G:c.argTypes=#[t,t]:=Cq (by simpa using ht)
   have M:=ops v (fun _ _ _ e=>by cases e) x (by simp only[Op.operands,Call.operands,KH];exact .inr (by rw[←Rx,ha];simp))
   have hy:=ops v (fun _ _ _ e=>by cases e) y (by simp only[Op.operands,Call.operands,KH];exact .inr (by rw[←Rx,ha];simp))
   simp only[A9,w,ha,ht]
   refine⟨by rw[G];rfl,?_⟩
   rw[M,hy]
   exact qc L D h H s
  ·rename_i hna
   split at s
   case h_2=>exact s.elim
   rename_i d
   unfold pV at s
   simp only at s
   split at s
   ·rename_i f w
    obtain⟨i,first,caps,x,a',S,Z,e3⟩:=Uz h AQ (fun b e=>by cases e) w v s
    simp only[A9,w,S]
    refine Z.mono fun y H' ⟨I,G⟩=>?_
    subst I;subst G
    obtain⟨I,G⟩:=OU h H (y:=ren r x) ⟨x,a',rfl,e3⟩
    exact⟨I,.of G⟩
   ·rename_i hnv
    refine fv (o:=⟨some d,.call c,ty,ps,af,gd⟩) D h rfl v H s ?_
    simp only[A9]
 ·rename_i I G h3 h4 h5 h6
  split at s
  case h_2=>exact s.elim
  rename_i d
  have hp':tV T τ.H op (ev τ.s) none a (DY n d K τ):=by
   unfold pV at s
   split at s
   ·exact absurd rfl (h6 _)
   ·exact absurd rfl (h4 _ _ _)
   ·exact s
  refine fv (o:=⟨some d,op,ty,ps,af,gd⟩) D h rfl v H hp' ?_
  simp only[A9]
theorem e9{d:Option Nat}{v y:AV}{c:Hp}(f:FX env d=true){τ':St}(h:RG r l outs env ⟨τ.s,τ'.H⟩ ⟨σ.s,c⟩)(hy:y=ren r v)(b:NF n K τ.s τ'.H v a d):
  BZ n d (KA r l n outs B (DX env d) K) ⟨σ.s,c⟩ y:=by
 cases d with
 |none=>exact .of ⟨_,_,b,h⟩
 |some d=>
  simp only[NF]at b
  split at b
  ·rename_i e;exact⟨Yd e,.of ⟨_,_,b,h.put0 f hy⟩⟩
  ·exact b.elim
theorem U5(Q:RenOk r l outs)(A:AS P T)(h:RG r l outs env τ σ)(s:BP env [] o.op=true)(hf:FX env o.dst=true)(d:G0 P T l n r o a K τ):BV P l n B o (KA r l n outs B (DX env o.dst) K) σ:=by
 have ops:∀{op:Op},BP env [] op=true→(∀c x y,op≠.pick c x y)→∀x∈op.operands,ev σ.s x=ren r (ev τ.s x):=fun {op} s hne=>by
  unfold BP at s
  split at s
  ·exact absurd rfl (hne _ _ _)
  ·exact ED h AQ s
 unfold G0 at d
 split at d
 case h_2=>exact HW (ea Q A h s hf d)
 rename_i c ho
 split at d
 ·rename_i f
  split at d
  case h_2=>exact d.elim
  rename_i x y t t' ha ht
  have u:o.op=.call ⟨.builtin .copy,#[x,y],#[t,t']⟩:=by
   rw[ho]
   have C:c.args=#[x,y]:=Cq (by simpa using ha)
   have O:c.argTypes=#[t,t']:=Cq (by simpa using ht)
   cases c;simp only at f C O;subst f;subst C;subst O;rfl
  rw[u]at s
  have Z:=ops s (fun _ _ _ e=>by cases e) x (by simp[Op.operands,Call.operands])
  have hy:=ops s (fun _ _ _ e=>by cases e) y (by simp[Op.operands,Call.operands])
  unfold jx at d
  split at d
  case h_2=>exact d.elim
  rename_i i i' hi hi'
  split at d
  case h_2=>exact d.elim
  rename_i e sz e' sz' he he'
  split at d
  case h_2=>exact d.elim
  rename_i j q1 q2 V w Y
  split at d
  case h_2=>exact d.elim
  rename_i z k q off cn cnt news N b hz J
  split at d
  case h_2=>exact d.elim
  rename_i hl m
  obtain⟨h1,h2,h3,H⟩:=d
  obtain⟨H,I,p⟩:=PE Q h (Ds hl).2 H
  have q1:=Ya q1
  have q2:=Ya q2
  subst q1;subst q2
  have m:=Ya m
  have w:=Yd w
  obtain⟨D,E,S,F,G⟩:=h.h.at hl
  obtain⟨C,O⟩:=Vr h Y h1
  rw[J]at Z
  obtain⟨s1,s2⟩:=h3
  obtain⟨ss,M⟩:=σ
  refine sd (k:=r.κ k) (g:=r.γ k+q) (off:=off) (cn:=cn) (cnt:=cnt) (news:=Af r news) u (by rw[Z];simp[ren]) ((A _ _ hi).elm _ he) ((A _ _ hi').elm _ he') (by rw[(A _ _ V).zer _ hz];rfl) (by omega) D E (by rw[F,m]) (by rw[hy];exact C) h2
   (by rw[G,B0,B0];exact s1) p ?_
  have U:=RG.updH Q h k ⟨q,true,(τ.H k).e,(τ.H k).sz,N⟩ rfl I
  have R:Ax r k ⟨q,true,(τ.H k).e,(τ.H k).sz,N⟩={M (r.κ k)with cells:=(M (r.κ k)).cells.take (off*sz)++Af r news++(M (r.κ k)).cells.drop (off*sz+(Af r news).length) }:=by
   simp only at D E S F G
   simp only[Ax,G,B0,D7,DU,←Fa,s2,D,S,F,←E]
  simp only at R
  rw[R]at U
  refine e9 (v:=.d (.int .i64 cnt)) (a:=b) (τ':=⟨τ.s,updH τ.H k ⟨q,true,(τ.H k).e,(τ.H k).sz,N⟩⟩) hf U (by simp[ren]) H
 ·rename_i f
  split at d
  case h_2=>exact d.elim
  rename_i x t ha ht hd
  have u:o.op=.call ⟨.builtin .clear,#[x],#[t]⟩:=by
   rw[ho]
   have C:c.args=#[x]:=Cq (by simpa using ha)
   have O:c.argTypes=#[t]:=Cq (by simpa using ht)
   cases c;simp only at f C O;subst f;subst C;subst O;rfl
  rw[u]at s
  have Z:=ops s (fun _ _ _ e=>by cases e) x (by simp[Op.operands,Call.operands])
  unfold gW at d
  split at d
  case h_2=>exact d.elim
  rename_i i hi
  split at d
  case h_2=>exact d.elim
  rename_i e sz he
  split at d
  case h_2=>exact d.elim
  rename_i j V w
  split at d
  case h_2=>exact d.elim
  rename_i z k q off cn N b hz J
  split at d
  case h_2=>exact d.elim
  rename_i hl m L
  obtain⟨⟨h1,h2⟩,H⟩:=d
  obtain⟨H,I,p⟩:=PE Q h (Ds hl).2 H
  have m:=Ya m
  have w:=Yd w
  have L:=Ya L
  obtain⟨D,E,S,F,G⟩:=h.h.at hl
  have hfz:=HV (r:=r) ((A _ _ V).flt _ hz)
  rw[hfz]at p
  rw[J]at Z
  obtain⟨ss,M⟩:=σ
  refine qo (k:=r.κ k) (g:=r.γ k+q) (off:=off) (cn:=cn) u hd (by rw[Z];simp[ren]) ((A _ _ hi).elm _ he) ((A _ _ V).zer _ hz) L (by omega) D E (by rw[F,m]) (by rw[G,B0];exact h1) p ?_
  have U:=RG.updH Q h k ⟨q,true,(τ.H k).e,(τ.H k).sz,N⟩ rfl I
  have X:Af r (List.replicate cn z).flatten=(List.replicate cn z).flatten:=HV (by
   refine Ym.2 fun q hq=>?_
   obtain⟨z',hz',W⟩:=Nd.1 hq
   rw[(RC.1 hz').2]at W
   exact Ym.1 ((A _ _ V).flt _ hz) q W)
  have R:Ax r k ⟨q,true,(τ.H k).e,(τ.H k).sz,N⟩={M (r.κ k)with cells:=(M (r.κ k)).cells.take (off*sz)++(List.replicate cn z).flatten++(M (r.κ k)).cells.drop ((off+cn)*sz) }:=by
   simp only at D E S F G
   rw[←h2]
   simp only[Ax,G,Fa,D7,DU,X,D,S,F,←E]
  simp only at R
  rw[R]at U
  exact .of ⟨_,_,H,by rw[hd];exact U⟩
 ·exact HW (ea Q A h s hf d)
theorem jV{a:Nat→Option (Nat×Nat)}:∀(ps:List (Nat×AV)) (z cs:List AV),(∀p∈ps,Hd p.2=true)→BX a z ps=some cs→BX a (Af r z) (ps.map fun p=>(p.1,ren r p.2))=some (Af r cs)
 |[],z,cs,_,h=>by
  simp only[BX,Yf]at h
  subst h
  simp[BX]
 |(f,v)::ps,z,cs,d,h=>by
  simp only[BX]at h
  split at h
  ·rename_i off size vs b g
   split at h
   ·cases h
   ·rename_i e
    have c:=Ld (r:=r) g (LD (d (f,v) (YJ ..)))
    simp only[Y1,BX,b,c,B0]
    rw[Yi e]
    have:=jV ps _ cs (fun p b=>d p (YC _ b)) h
    rw[←this]
    simp only[Fa,D7,DU]
  ·cases h
theorem vX(d:BN o=true)(b:Ij P T l n r o a K τ):G0 P T l n r o a K τ:=by
 unfold Ij at b
 split at b
 ·rename_i c;simp[BN,c]at d
 ·exact b
theorem rE(w:RenOk r l outs)(m:AS P T)(h:RG r l outs env τ σ)(k:BP env [] o.op=true)(u:FX env o.dst=true)(c:Ij P T l n r o a K τ):BV P l n B o (KA r l n outs B (DX env o.dst) K) σ:=by
 unfold Ij at c
 split at c
 case h_2=>exact U5 w m h k u c
 rename_i t len parts E
 split at c
 case h_2=>exact U5 w m h k u c
 case h_3=>exact U5 w m h k u c
 rename_i b
 have ops:∀x∈o.op.operands,ev σ.s x=ren r (ev τ.s x):=by
  unfold BP at k
  split at k
  ·rename_i e;rw[E]at e;cases e
  ·exact ED h AQ k
 unfold gO at c
 split at c
 case h_2=>exact c.elim
 rename_i d i J hi
 split at c
 case h_2=>exact c.elim
 rename_i e sz he
 split at c
 case h_2=>exact c.elim
 rename_i j L F v
 split at c
 case h_2=>exact c.elim
 rename_i z N
 split at c
 case h_2=>exact c.elim
 rename_i cs G f D
 split at c
 case h_2=>exact c.elim
 rename_i C
 have I:(parts.toList.map fun p=>(p.1,ev σ.s p.2))=(parts.toList.map fun p=>(p.1,ev τ.s p.2)).map fun p=>(p.1,ren r p.2):=by
  rw[GH]
  refine Y7 fun p c=>?_
  rw[ops p.2 (by rw[E];simp only[Op.operands,KI,YQ];exact⟨p,c,rfl⟩)]
  rfl
 have q:o.dst=some d:=J
 rw[q]at u⊢
 have M:=I7 (x':=fun g=>.ref (l+1,d) g 0 (len+1)) w h u (fun g=>by simp[ren,w.own]) c
 obtain⟨s,H⟩:=σ
 exact bX E q ((m _ _ hi).elm _ he) (by have:=Yd F;omega) (Yd v) ((m _ _ L).zer _ N) (Ya G) (by
  rw[I]
  have:=jV (r:=r) _ _ _ (fun p c=>Ym.1 D p c) f
  rw[HV (r:=r) (z:=(List.replicate (len+1) z).flatten) (Ym.2 fun x A=>by
   obtain⟨y,hy,A⟩:=Nd.1 A
   rw[List.eq_of_mem_replicate hy]at A
   exact Ym.1 C x A)]at this
  exact this) (LB M)
theorem uY(d:BN o=true)(c:Gc P T l n r o a K τ):Ij P T l n r o a K τ:=by
 unfold Gc at c
 split at c
 ·rename_i b;simp[BN,b]at d
 ·rename_i b;simp[BN,b]at d
 ·exact c
theorem pF(f:RenOk r l outs)(h:RG r l outs env τ σ){K:St→AT→Prop}{d:Nat}(m:fresh d env=true){e:EK}{x x':Nat→AV}(o:∀g,x' (r.γ (1,d)+g)=ren r (x g))(b:V7 n d e x K τ a):
  a7 l n d e x' (KA r l n outs B ((d,[])::env) K) σ:=by
 unfold V7 at b
 split at b
 ·rename_i k
  refine⟨Yd k,.of ⟨_,_,b,?_⟩⟩
  have j:=RG.updH f h (1,d) ⟨(τ.H (1,d)).g+1,true,e,0,[]⟩ rfl (.inl rfl)
  have c:=j.put0 m (v:=x ((τ.H (1,d)).g+1)) (y:=x' ((σ.H (l+1,d)).g+1)) (by rw[h.g,Yv];exact o _)
  have i:Ax r (1,d) ⟨(τ.H (1,d)).g+1,true,e,0,[]⟩=⟨(σ.H (l+1,d)).g+1,true,e,0,[]⟩:=by simp only[Ax,Af,h.g,Yv]
  rw[i,f.own]at c
  exact c
 ·exact b.elim
theorem eF(w:RenOk r l outs)(O:AS P T)(h:RG r l outs env τ σ)(v:BP env [] o.op=true)(q:FX env o.dst=true)(b:Gc P T l n r o a K τ):BV P l n B o (KA r l n outs B (DX env o.dst) K) σ:=by
 have ops:(∀c x y,o.op≠.pick c x y)→∀x∈o.op.operands,ev σ.s x=ren r (ev τ.s x):=fun F=>by
  unfold BP at v
  split at v
  ·rename_i e;exact absurd e (F _ _ _)
  ·exact ED h AQ v
 unfold Gc at b
 split at b
 ·rename_i t x j
  split at b
  case h_2=>exact b.elim
  rename_i d i z s hi m
  split at b
  case h_2=>exact b.elim
  rename_i u
  rw[s]at q⊢
  have U:=pF (B:=B) (x':=fun g=>.ptr (l+1,d) g 0) w h q (fun g=>by simp[ren,w.own]) b
  obtain⟨ss,Q⟩:=σ
  have V:=FV ((O _ _ hi).kin.trans (Ya u))
  have f:=ops (by rw[j];intro _ _ _ e;cases e) x (by rw[j];simp[Op.operands])
  exact p7 j s V (by rw[f,m];simp[ren]) U
 ·rename_i x j
  split at b
  case h_2=>exact b.elim
  rename_i d k g s m
  split at b
  case h_2=>exact b.elim
  rename_i z p E hl he
  have f:=ops (by rw[j];intro _ _ _ e;cases e) x (by rw[j];simp[Op.operands])
  rw[m]at f
  obtain⟨A,C,J,L,M⟩:=h.h.at hl
  rw[s]at q⊢
  unfold kJ at b
  split at b
  case h_2=>exact b.elim
  rename_i a1 a0 D
  obtain⟨H,G⟩:=b
  obtain⟨ss,Q⟩:=σ
  refine qq (k:=r.κ k) (g:=r.γ k+g) (z:=z) (p:=p) j s (by rw[f];simp[ren]) A C (by rw[J];exact he) (Yd D) (fun R=>.of ⟨_,_,G (Ex R),h.put0 q (by simp[ren,Af])⟩) (fun S=>?_)
  have N:=RG.updH w h k ⟨g,true,.s z (p+DI z p),(τ.H k).sz,(τ.H k).cells⟩ rfl (.inl (Ya E))
  have I:Ax r k ⟨g,true,.s z (p+DI z p),(τ.H k).sz,(τ.H k).cells⟩={Q (r.κ k)with e:=.s z (p+DI z p) }:=by
   simp only at A C J L M
   simp only[Ax,A,L,←M,←C]
  simp only at I
  rw[I]at N
  exact .of ⟨_,_,H (Y3 S),N.put0 q (by simp only[ren,Af])⟩
 ·exact rE w O h v q b
end
end Go.Eng
namespace Go.Eng
set_option linter.all false
open Go Go.RowKit
section
variable {P:Program} {T:Nat→Option TI} {r:Ren} {l n outs:Nat} {B:Base} {env:Bc} {τ σ:St} {a:AT} {o:Oper}
theorem iO{H:Hp}{op:Op}{ρ:Operand→AV}{g:Option Bool}{K:AV→AT→Prop}(h:tV T H op ρ g a K):∃v b,K v b:=by
 have fin:∀{v b},K v b→∃v b,K v b:=fun h=>⟨_,_,h⟩
 cases op<;>simp only[tV]at h<;>try exact h.elim
 case move x=>exact fin h
 case assign x=>exact fin h
 case pick c x y=>split at h<;>first|exact fin h|exact h.elim
 case load t x=>
  split at h
  ·unfold JA at h
   repeat' split at h
   all_goals first|exact h.elim|exact fin h|exact fin h.2
  ·grind
 case fieldAddr t x f=>
  split at h
  ·unfold OO at h
   grind
  ·grind
 case field t x f=>
  split at h
  ·unfold Pn at h
   grind
  ·grind
 case indexAddr t x j=>
  split at h
  ·unfold OP at h
   grind
  ·grind
 case index t x j=>
  split at h
  ·unfold Pi at h
   grind
  ·grind
 case extract x j=>
  repeat' split at h
  all_goals first|exact h.elim|exact fin h
 case makeInterface t x=>
  repeat' split at h
  all_goals first|exact h.elim|exact fin h
 case typeAssert x u t ok=>
  repeat' split at h
  all_goals first|exact h.elim|exact fin h
 case binOp o t x y u=>
  split at h
  ·unfold Ny at h
   split at h
   ·split at h
    ·unfold N2 at h
     grind
    grind
   ·unfold NY at h
    grind
   ·grind
   ·grind
   ·split at h
    ·have nl:∀{neg:Bool} {x:AV},JO H neg x a K→∃v b,K v b:=fun {neg x} h=>by
      unfold JO at h
      repeat' split at h
      all_goals first|exact h.elim|exact fin (h true)|exact fin (h neg (fun _=>rfl))
     grind
    grind
   grind
  ·grind
 case unOp o t x=>
  unfold QS at h
  repeat' split at h
  all_goals first|exact h.elim|exact fin h|exact fin h.2
 case nilCheck x=>
  split at h
  ·grind
  ·grind
  ·grind
 case convert s d x=>
  split at h
  ·unfold Qi at h
   grind
  ·grind
 case makeFunc fn first e=>split at h<;>first|exact h.elim|exact fin h
 case slice t x lo hi k=>
  split at h
  ·unfold Ps at h
   grind
  ·grind
 case build t parts=>
  split at h
  ·unfold PP at h
   grind
  ·grind
 case lookup t x y i=>
  split at h
  ·unfold Qb at h
   grind
  ·grind
 case call c=>
  split at h
  ·split at h
   ·unfold Ns at h
    grind
   grind
  ·unfold Dl at h
   grind
  ·unfold Dl at h
   grind
  ·unfold Fq at h
   grind
  ·grind
theorem Qv{op:Op}{g:Option Bool}{K:AV→AT→Prop}(h:pV P T l r τ op g a K):∃v b,K v b:=by
 unfold pV at h
 split at h
 ·split at h
  ·unfold Qo at h
   grind
  ·exact iO h
 ·unfold QC at h
  repeat' split at h
  all_goals first|exact h.elim|exact⟨_,_,h⟩
 ·exact iO h
def Yl(r:Ren)(e:Nat)(K:AV→AT→Prop)(σ b:St):Prop:=∃v a,b=⟨upd σ.s e (ren r v),σ.H⟩∧K v a
theorem VD(E:AS P T)(h:RG r l outs env τ σ){c:B9}(hs:Cd τ.s c){g:Option Bool}(N:∀b,g=some b→b=true){e:Nat}{op:Op}{ty:TypeId}{ps:String}{af:Array Edge}{gd:Option (Nat×Bool)}
  (I:BP env c op=true) (q:e<n) {K:AV→AT→Prop} (d:pV P T l r τ op g a K):A9 P l n ⟨some e,op,ty,ps,af,gd⟩ (Yl r e K σ) σ:=by
 have val:tV T τ.H op (ev τ.s) g a K→A9 P l n ⟨some e,op,ty,ps,af,gd⟩ (Yl r e K σ) σ=AP P σ.H op (ev σ.s) (BZ n (some e) (Yl r e K σ) σ)→A9 P l n ⟨some e,op,ty,ps,af,gd⟩ (Yl r e K σ) σ:=fun C D=>by
  rw[D]
  exact Pa (fun y ⟨v,A,u,B⟩=>⟨q,v,A,by rw[u],B⟩) (fX E h hs N I C)
 unfold pV at d
 split at d
 ·rename_i c
  split at d
  ·rename_i f k
   obtain⟨i,first,M,x,A,u,B,Q⟩:=Uz h hs N k I d
   simp only[A9,k,u]
   exact B.mono fun y W ⟨C,D⟩=>by subst C;subst D;exact⟨q,x,A,rfl,Q⟩
  ·rename_i G
   refine val d ?_
   cases k:c.callee with
   |value f=>exact absurd k (G f)
   |invoke x m=>simp only[tV,k]at d
   |builtin b=>
    cases b<;>simp only[tV,k]at d<;>simp only[A9,k]
 ·rename_i t len parts
  have J:(Op.buildSlice t len parts).operands.toList.all (Gt env c)=true:=I
  have u:(parts.toList.map fun p=>(p.1,ev σ.s p.2))=(parts.toList.map fun p=>(p.1,ev τ.s p.2)).map fun p=>(p.1,ren r p.2):=by
   rw[GH]
   refine Y7 fun p d=>?_
   simp only[Function.comp]
   rw[ED h hs J p.2 (by simp only[Op.operands,KI,YQ];exact⟨p,d,rfl⟩)]
  unfold QC at d
  split at d
  case h_2=>exact d.elim
  rename_i i hi
  split at d
  case h_2=>exact d.elim
  rename_i e' sz he
  simp only[A9,(E _ _ hi).elm _ he]
  split at d
  ·rename_i o
   have o:=Yd o
   refine⟨by omega,?_⟩
   split at d
   ·rename_i H
    exact⟨by rw[←Y6,H];rfl,q,.e0,a,by simp[ren],d⟩
   grind
  ·rename_i O o
   have o:=Yd o
   refine⟨by omega,?_⟩
   split at d
   case h_2=>exact d.elim
   rename_i j U w
   split at d
   case h_2=>exact d.elim
   rename_i z V
   split at d
   case h_2=>exact d.elim
   rename_i R L s
   split at d
   case h_2=>exact d.elim
   rename_i F
   rw[OS s]at u
   rw[u]
   simp only[(E _ _ U).zer _ V,s]
   exact⟨Yd w,Ya L,Ya F,q,.d (.list R),a,by simp[ren],d⟩
  grind
 ·rename_i S X
  refine val d ?_
  cases op<;>simp only[tV]at d<;>try exact d.elim
  case call c=>exact absurd rfl (S c)
  all_goals simp only[A9]
theorem gk(y:AS P T)(h:RG r l outs env τ σ){c:B9}(hs:Cd τ.s c){g:Option Bool}(H:∀b,g=some b→b=true){e:Nat}{op:Op}{ty:TypeId}{ps:String}{af:Array Edge}{gd:Option (Nat×Bool)}
  (D:BP env c op=true) (o:e<n) {K:AV→AT→Prop} (d:pV P T l r τ op g a K):Ej P l n ⟨some e,op,ty,ps,af,gd⟩ (Yl r e K σ) σ:=by
 have C:=VD (ty:=ty) (ps:=ps) (af:=af) (gd:=gd) y h hs H D o d
 unfold pV at d
 split at d
 ·rename_i c
  split at d
  ·rename_i f k
   obtain⟨i,first,G,x,J,v,L,M⟩:=Uz h hs H k D d
   simp only[Ej,k,v]
   exact⟨ren r x,L,o,x,J,rfl,M⟩
  ·rename_i B
   cases k:c.callee with
   |value f=>exact absurd k (B f)
   |_=>simp only[Ej,k];exact C
 ·rename_i t len parts
  cases len with
  |zero=>exact C
  |succ len=>
   have E:(Op.buildSlice t (len+1) parts).operands.toList.all (Gt env c)=true:=D
   have v:(parts.toList.map fun p=>(p.1,ev σ.s p.2))=(parts.toList.map fun p=>(p.1,ev τ.s p.2)).map fun p=>(p.1,ren r p.2):=by
    rw[GH]
    refine Y7 fun p d=>?_
    simp only[Function.comp]
    rw[ED h hs E p.2 (by simp only[Op.operands,KI,YQ];exact⟨p,d,rfl⟩)]
   unfold QC at d
   split at d
   case h_2=>exact d.elim
   rename_i i hi
   split at d
   case h_2=>exact d.elim
   rename_i e' sz he
   split at d
   ·rename_i q;cases q
   ·rename_i I u q
    cases q
    have u:=Yd u
    split at d
    case h_2=>exact d.elim
    rename_i j Q s
    split at d
    case h_2=>exact d.elim
    rename_i z R
    split at d
    case h_2=>exact d.elim
    rename_i w F m
    split at d
    case h_2=>exact d.elim
    rename_i A
    rw[OS m]at v
    exact⟨.d (.list w),⟨e',sz,z,w,(y _ _ hi).elm _ he,by omega,Yd s,(y _ _ Q).zer _ R,Ya F,by rw[v];exact m,Ya A,rfl⟩,o,.d (.list w),a,by simp[ren],d⟩
   ·exact d.elim
 ·rename_i N O
  cases op<;>first|exact absurd rfl (N _)|exact absurd rfl (O _ _ _)|exact C
theorem Lt{d:Nat}{e:TypeId}{sz:Nat}{cells:List AV}{x:Nat→AV}{K a:St→Prop}(b:∀σ,K σ→a σ)(h:Df l n d e sz cells x K σ):Df l n d e sz cells x a σ:=⟨h.1,b _ h.2⟩
theorem ft{o:Oper}{K b:St→Prop}(a:∀σ,K σ→b σ)(h:A9 P l n o K σ):A9 P l n o b σ:=by
 have i:∀x,BZ n o.dst K σ x→BZ n o.dst b σ x:=fun x h=>by
  unfold BZ at h⊢
  grind
 unfold A9 at h⊢
 split at h
 ·split at h
  ·exact⟨h.1,Lt a h.2⟩
  grind
 ·split at h
  ·exact⟨h.1,Lt a h.2⟩
  grind
 ·grind
 ·split at h
  ·refine⟨h.1,?_⟩
   replace h:=h.2
   split at h
   ·grind
   ·refine⟨h.1,?_⟩
    replace h:=h.2
    split at h
    ·refine⟨h.1,?_⟩
     replace h:=h.2
     split at h
     ·grind
     ·split at h
      ·exact Lt a h
      grind
    grind
  grind
 ·split at h
  ·obtain⟨c,d,f,j,k,h⟩:=h
   refine⟨c,d,f,j,k,?_⟩
   split at h
   ·exact⟨h.1,Lt a h.2⟩
   grind
  grind
 ·split at h
  ·split at h
   ·exact h.mono fun r m g=>by
     unfold Mn at g⊢
     unfold BZ at g⊢
     grind
   grind
  ·split at h
   ·refine⟨h.1,?_⟩
    replace h:=h.2
    unfold J8 at h⊢
    split at h
    ·obtain⟨c,d,f,h⟩:=h
     refine⟨c,d,f,?_⟩
     split at h
     ·refine⟨h.1,?_⟩
      replace h:=h.2
      split at h
      ·exact⟨h.1,fun e=>⟨(h.2.1 e).1,a _ (h.2.1 e).2⟩,fun e=>Lt a (h.2.2 e)⟩
      ·grind
      grind
     grind
    grind
   grind
  ·exact Pa i h
 ·exact Pa i h
theorem O5{o:Oper}{K a:St→Prop}(b:∀σ,K σ→a σ)(h:Ej P l n o K σ):Ej P l n o a σ:=by
 have e:∀{x},BZ n o.dst K σ x→BZ n o.dst a σ x:=fun {x} h=>by
  unfold BZ at h⊢
  grind
 unfold Ej at h⊢
 split at h
 ·obtain⟨v,c,d⟩:=h;exact⟨v,c,e d⟩
 ·split at h
  ·grind
  ·exact ft b h
 ·exact ft b h
theorem Ux(h:RG r l outs env τ σ){ds:List (Option Nat)}{i d:Nat}{b g:Bool}(j:A2 ds i=some (some d))(a:EF τ.s ((d,b)::lk env d)=some g):Gu σ.s ds i b=some g:=by
 rw[BM]at j
 have f:=GO a
 unfold Gu
 simp only[j]
 by_cases hs:Cd τ.s (lk env d)
 ·have k:=(h.s d).1 hs
  have m:∃t,τ.s d=.d (.bool t):=by
   cases hl:lk env d with
   |nil=>
    rw[hl]at a
    simp only[EF]at a
    grind
   |cons q o=>
    rw[hl]at a
    simp only[EF]at a
    grind
  obtain⟨t,n⟩:=m
  rw[k,n]
  simp only[ren,Yf]
  cases g with
  |true=>
   have:=f.1 rfl (d,b) (YJ ..)
   grind
  |false=>
   cases e:t==b with
   |false=>rfl
   |true=>
    exfalso
    have e:t=b:=by simpa using e
    have:Cd τ.s ((d,b)::lk env d):=fun q c=>by
     rcases YF.1 c with rfl|c
     ·grind
     ·exact hs q c
    grind
 ·rw[(h.s d).2 hs]
  simp only[Yf]
  cases g with
  |false=>rfl
  |true=>exact absurd (fun q c=>f.1 rfl q (YC _ c)) hs
theorem I6(F:RenOk r l outs)(A:AS P T){ops:Array Oper}{K:St→Bc→AT→Prop}{QQ:Exit→Act→World→Prop}(more:List Oper)
  (D:∀τ' k u G f w',K τ' k u→RG r l outs k τ' G→R l n B G f w'→wpList P ops QQ more f w'):
  ∀(c:List Oper) (env:Bc) (a:AT) (τ σ:St) (act:Act) (w:World),Et P T l n r (ops.toList.map (·.dst)) c env a K τ→RG r l outs env τ σ→R l n B σ act w→wpList P ops QQ (c++more) act w
 |[],env,a,τ,σ,act,w,h,p,x=>D _ _ _ _ _ _ h p x
 |o::c,env,a,τ,σ,act,w,h,p,x=>by
  unfold Et at h
  split at h
  ·rename_i E
   split at h
   ·rename_i V Z
    refine TV (by simp[Region.wanted,E]) (eF (B:=B) F A p V Z h) x fun G f w' I q=>?_
    obtain⟨σ'',⟨τ',u,z,N⟩,O⟩:=I
    exact I6 F A more D c _ _ _ _ _ _ z N (O _ _ q)
   grind
  ·rename_i i b E
   split at h
   case h_2=>exact h.elim
   rename_i d e W he
   split at h
   case h_2=>exact h.elim
   rename_i g t hx j C
   simp only[Yb]at j
   have C:=Yd C
   have J:=Ux p W t
   have hy:(yielded ops act.tmps i==some b)=g:=by
    obtain⟨s,H⟩:=σ
    obtain⟨m,S,hO,L,X,Q,Y⟩:=x.un
    exact UI Q J
   cases g with
   |true=>
    have hs:=(GO t).1 rfl
    refine TV (by simp only[Region.wanted,E];exact hy) (σ:=σ) (B:=B) (l:=l) (n:=n) (KK:=Yl r e (fun v u=>Et P T l n r (ops.toList.map (·.dst)) c ((e,(d,b)::lk env d)::env) u K ⟨upd τ.s e v,τ.H⟩) σ) (HW ?_) x fun G f w' U q=>?_
    ·obtain⟨M,op,ty,ps,af,gd⟩:=o
     simp only at he
     subst he
     exact VD A p hs (fun b' e'=>by cases e';rfl) hx (by omega) h
    ·obtain⟨v,u,rfl,z⟩:=U
     exact I6 F A more D c _ _ _ _ _ _ z (p.put j.1 j.2 (fun _=>rfl) (fun L=>absurd hs L)) q
   |false=>
    have hs:¬Cd τ.s ((d,b)::lk env d):=fun hs=>by have:=(GO t).2 hs;cases this
    obtain⟨v,u,z⟩:=Qv h
    show wpList P ops QQ (o::(c++more)) act w
    unfold wpList
    rw[Yi (by simp only[Region.wanted,E,hy];decide),he]
    exact I6 F A more D c _ _ _ _ _ _ z (p.put j.1 j.2 (y:=.tup []) (fun h=>absurd h hs) (fun _=>rfl)) (R.undef x (by omega))
theorem Jc(L:RenOk r l outs)(B:AS P T){ds:List (Option Nat)}{K:St→Bc→AT→Prop}:
  ∀(rest:List Oper) (env:Bc) (a:AT) (τ σ:St),rest.all (fun o=>Cg o||Bw o)=true→Fi P T l n r ds rest env a K τ→RG r l outs env τ σ→C3 P l n ds rest (fun Z=>∃τ' z f,K τ' z f∧RG r l outs z τ' Z) σ
 |[],env,a,τ,σ,_,h,u=>⟨_,_,_,h,u⟩
 |o::rest,env,a,τ,σ,w,h,u=>by
  simp only[GG,Yb]at w
  unfold Fi at h
  unfold C3
  split at h
  ·rename_i G
   simp only[G]
   split at h
   case h_2=>exact h.elim
   rename_i I hf
   by_cases H:Bw o=true
   ·obtain⟨j,op,ty,ps,af,gd⟩:=o
    cases op<;>simp only[Bw]at H<;>first|(cases H;done)|skip
    rename_i t p x
    cases j with
    |some d=>cases H
    |none=>
     unfold SM at h
     simp only at h
     unfold Gc Ij G0 Ie at h
     simp only at h I
     split at h
     case h_2=>exact h.elim
     rename_i i hi U
     have A:∀y∈(Op.store t p x).operands,ev σ.s y=ren r (ev τ.s y):=by
      unfold BP at I
      exact ED u AQ I
     have W:=A x (by simp[Op.operands])
     have V:=A p (by simp[Op.operands])
     cases X:Cf (ev τ.s x)with
     |none=>rw[X]at h;unfold LH at h;split at h<;>first|exact h.elim|(rename_i e;cases e)
     |some vs=>
      rw[X]at h
      have Y:=Ld (r:=r) X (LD U)
      obtain⟨k,g,off,M,e2,e3,e4,e5,e6,e7,e8⟩:=cJ L u (B _ _ hi) h
      obtain⟨τ',f,m,h2⟩:=e8
      simp only[Ej,A9,V,W,Y,M]
      exact⟨e2,e3,e4,e5,e6,e7,Jc L B rest _ _ _ _ w.2 m h2⟩
   have J:Cg o=true:=by
    grind
   replace w:Cg o=true∧_:=⟨J,w.2⟩
   obtain⟨j,op,ty,ps,af,gd⟩:=o
   have E:∃d,j=some d:=by
    have:=w.1
    unfold Cg BN at this
    rw[Yu,Yb,Yb]at this
    rcases this with h|h
    ·exact YX.1 h.1
    ·exact YX.1 h.1
   obtain⟨d,rfl⟩:=E
   simp only at I hf G
   have hp:pV P T l r τ op none a (DY n d (fun τ' f=>Fi P T l n r ds rest (DX env (some d)) f K τ') τ):=by
    by_cases C:∃t len p,op=.buildSlice t (len+1) p
    ·obtain⟨t,len,p,rfl⟩:=C
     exact h
    ·have c:BN ⟨some d,op,ty,ps,af,gd⟩=true:=UW w.1 fun t len p e=>C ⟨t,len,p,e⟩
     have h:Gc P T l n r ⟨some d,op,ty,ps,af,gd⟩ a (fun τ' f=>Fi P T l n r ds rest (DX env (some d)) f K τ') τ:=by
      unfold SM at h
      split at h
      ·rename_i M _;exact absurd ⟨_,_,_,M⟩ C
      ·exact h
     have h:=vX c (uY c h)
     unfold G0 at h
     simp only at h
     have h:Ie P T l n r ⟨some d,op,ty,ps,af,none⟩ a (fun τ' f=>Fi P T l n r ds rest (DX env (some d)) f K τ') τ:=by
      subst G
      split at h
      ·split at h
       ·rename_i q;simp[BN,q]at c
       ·grind
       ·exact h
      ·exact h
     unfold Ie at h
     simp only at h
     split at h
     ·simp[BN]at c
     ·simp[BN]at c
     ·grind
     ·simp[BN]at c
     ·simp[BN]at c
     ·split at h
      ·rename_i q;simp[BN,q]at c
      ·exact h
     ·exact h
   have Q:∃v f,DY n d (fun τ' f=>Fi P T l n r ds rest (DX env (some d)) f K τ') τ v f:=Qv hp
   have O:d<n:=by
    obtain⟨v,f,m⟩:=Q
    unfold DY at m
    split at m
    ·rename_i E;have E:=Yd E;exact E
    grind
   have:=gk (ty:=ty) (ps:=ps) (af:=af) (gd:=gd) B u AQ (fun b e=>by cases e) I O hp
   refine O5 (fun Z N=>?_) this
   obtain⟨v,f,rfl,m⟩:=N
   unfold DY at m
   split at m
   ·exact Jc L B rest _ _ _ _ w.2 m (u.put0 hf rfl)
   grind
  ·rename_i i b G
   have J:Cg o=true:=by
    have:=w.1
    rw[Yu]at this
    rcases this with h|h
    ·exact h
    ·exfalso
     obtain⟨j,op,ty,ps,af,gd⟩:=o
     simp only at G
     subst G
     cases op<;>cases j<;>simp[Bw]at h
   simp only[G]
   split at h
   case h_2=>exact h.elim
   rename_i d e E he
   split at h
   case h_2=>exact h.elim
   rename_i g D W s F
   simp only[Yb]at s
   have F:=Yd F
   rw[Ux u E D]
   refine⟨fun S=>?_,fun R=>?_⟩
   ·subst S
    have hs:=(GO D).1 rfl
    obtain⟨j,op,ty,ps,af,gd⟩:=o
    simp only at he
    subst he
    refine O5 (fun Z N=>?_) (gk (ty:=ty) (ps:=ps) (af:=af) (gd:=gd) B u hs (fun b' e'=>by cases e';rfl) W (by omega) h)
    obtain⟨v,f,rfl,m⟩:=N
    exact Jc L B rest _ _ _ _ w.2 m (u.put s.1 s.2 (fun _=>rfl) (fun hn=>absurd hs hn))
   ·subst R
    have hs:¬Cd τ.s ((d,b)::lk env d):=fun hs=>by have:=(GO D).2 hs;cases this
    obtain⟨v,f,m⟩:=Qv h
    rw[he]
    exact⟨F,Jc L B rest _ _ _ _ w.2 m (u.put s.1 s.2 (y:=.tup []) (fun h=>absurd h hs) (fun _=>rfl))⟩
end
def AH:List (Nat×AV)→Nat→AV
 |[],_=>.top
 |(i,x)::r,j=>match Nat.beq i j with|true=>x|false=>AH r j
def D0:Blk:=⟨0,false,0,0,[]⟩
def At:List (Aa×Blk)→Aa→Blk
 |[],_=>D0
 |(k,b)::r,q=>match Ba k q with|true=>b|false=>At r q
def Ab(ss:List (Nat×AV))(hs:List (Aa×Blk)):St:=⟨AH ss,At hs⟩
mutual
def Dj(H:Hp):AV→Option AV
 |.ref k g off n=>match Br H k g with|true=>some (.ref k 0 off n)|false=>none
 |.ptr k g off=>match Br H k g with|true=>some (.ptr k 0 off)|false=>none
 |.mp k g=>match Br H k g with|true=>some (.mp k 0)|false=>none
 |.fn f xs ys=>match Gp H xs,Gp H ys with|some xs,some ys=>some (.fn f xs ys)|_,_=>none
 |.agg xs=>match Gp H xs with|some xs=>some (.agg xs)|none=>none
 |.tup xs=>match Gp H xs with|some xs=>some (.tup xs)|none=>none
 |.top=>some .top
 |.d x=>some (.d x)
 |.e0=>some .e0
 |.p x=>some (.p x)
 |.iptr cs off=>some (.iptr cs off)
 |.ifc t ds a=>some (.ifc t ds a)
def Gp(H:Hp):List AV→Option (List AV)
 |[]=>some []
 |x::xs=>match Dj H x,Gp H xs with|some x,some xs=>some (x::xs)|_,_=>none
end
def WZ(H:Hp)(x:AV):AV:=match Dj H x with|some v=>v|none=>.top
def Jd(H:Hp)(s:Nat→AV):List Nat→List (Nat×AV)
 |[]=>[]
 |j::r=>(j,WZ H (s j))::Jd H s r
def F1(cs:List AV):Prop:=∀x∈cs,x.flat=true
def Ji(H:Hp):List (Aa×Bool)→(List (Aa×Blk)→Prop)→Prop
 |[],K=>K []
 |(k,fl)::r,K=>match (H k).live with
  |false=>Ji H r K
  |true=>match fl with
   |true=>F1 (H k).cells∧Ji H r (fun a=>K ((k,⟨0,true,(H k).e,(H k).sz,(H k).cells⟩)::a))
   |false=>match Gp H (H k).cells with
    |some cs=>Ji H r (fun a=>K ((k,⟨0,true,(H k).e,(H k).sz,cs⟩)::a))
    |none=>False
def NX:AV→Bool
 |.e0=>true
 |_=>false
def LJ:List (Nat×Nat×TypeId×Nat)→St→(St→Prop)→Prop
 |[],τ,K=>K τ
 |(j,d,e,sz)::r,τ,K=>match NX (τ.s j),(τ.H (1,d)).live with
  |true,false=>LJ r ⟨upd τ.s j (.ref (1,d) ((τ.H (1,d)).g+1) 0 0),updH τ.H (1,d) ⟨(τ.H (1,d)).g+1,true,e,sz,[]⟩⟩ K
  |true,true=>False
  |false,_=>LJ r τ K
structure Lf where
 ls:List Nat
 ks:List (Aa×Bool):=[]
 ad:List (Nat×Nat×TypeId×Nat):=[]
 ze:List Nat:=[]
def Kp:List Nat→St→St
 |[],τ=>τ
 |j::r,τ=>match NX (τ.s j)with|true=>Kp r ⟨upd τ.s j (.d (.list [])),τ.H⟩|false=>Kp r τ
def gz(H:Hp):List Nat→Bool
 |[]=>true
 |i::r=>Nat.beq (H (0,i)).g 0&&gz H r
def Dc(fx:List Nat)(f:Lf)(τ:St)(Φ:St→Prop):Prop:=LJ f.ad (Kp f.ze τ) (fun τ=>match gz τ.H fx with|true=>Ji τ.H f.ks (fun hs=>Φ (Ab (Jd τ.H τ.s f.ls) hs))|false=>False)
structure Cx where
 l:Nat
 B:Base
 κ:Aa→Aa
 θ:Nat→AV
 H0:Hp
 outs:Nat
 no:Aa→Prop
 fx:List Nat
 G:(Aa→Nat)→Prop
def Cx.r(C:Cx)(γ:Aa→Nat):Ren:=⟨C.κ,γ,C.θ,C.H0,C.no⟩
structure CxOk (C:Cx):Prop where
 own:∀d,C.κ (1,d)=(C.l+1,d)
 out:∀i,i<C.outs→(C.κ (0,i)).1≤C.l
 inj:∀i j,i<C.outs→j<C.outs→C.κ (0,i)=C.κ (0,j)→i=j
 no:∀k,C.no k→∃i,i<C.outs∧C.κ (0,i)=k
 G:∀γ γ':Aa→Nat,(∀i∈C.fx,γ' (0,i)=γ (0,i))→C.G γ→C.G γ'
theorem CxOk.ren{C:Cx}(h:CxOk C)(γ:Aa→Nat):RenOk (C.r γ) C.l C.outs:=⟨h.own,h.out,h.inj,h.no⟩
def Wk(n:Nat)(C:Cx)(σ b:St):Prop:=∀a w,R C.l n C.B σ a w→R C.l n C.B b a w
def Is(n:Nat)(C:Cx)(Φ:St→Prop)(σ:St):Prop:=∃γ τ a,C.G γ∧Φ τ∧RG (C.r γ) C.l C.outs [] τ a∧Wk n C σ a
def LW(P:Program)(n:Nat)(C:Cx)(c:Code)(τ:St)(Q:Exit→St→Prop):Prop:=
 ∀γ σ,C.G γ→RG (C.r γ) C.l C.outs [] τ σ→Bi P C.l n C.B c (fun e a=>Is n C (Q e) a) σ
def Qh(P:Program)(l n:Nat)(B:Base)(c:Code)(Q:Exit→St→Prop)(σ:St):Prop:=
 ∀a w,R l n B σ a w→∀(b:Frame) (k:List Item) (cs:List Frame),∃e d w',(∃f,Q e f∧R l n B f d w')∧Arrives P (lone (b.at a (.code c::.inLoop c::k)) cs w) b k cs e d w'
def LL(P:Program)(n:Nat)(C:Cx)(c:Code)(τ:St)(Q:Exit→St→Prop):Prop:=
 ∀γ σ,C.G γ→RG (C.r γ) C.l C.outs [] τ σ→Qh P C.l n C.B c (fun e a=>Is n C (Q e) a) σ
def CT(env:Bc)(τ:St):St:=⟨fun j=>match lk env j with|[]=>τ.s j|_=>.top,τ.H⟩
def FI(C:List AV)(off n sz:Nat)(es:List (List D)):Prop:=es.length=n∧sz≠0∧(∀e∈es,e.length=sz)∧(off+n)*sz≤C.length∧(C.drop (off*sz)).take (n*sz)=es.flatten.map .d
def QL(H:Hp)(d:Nat)(s:Nat→AV)(A:Prop):List (Nat×List (List D))→Prop
 |[]=>A
 |(j,a)::r=>match s j with
  |.ref k q off m=>(match Ba k (1,d),Br H k q with|true,true=>FI (H (1,d)).cells off m (H (1,d)).sz a∧QL H d s A r|_,_=>False)
  |_=>False
def QG(H:Hp)(d:Nat)(A:Prop):List (Aa×Nat×List (List D))→Prop
 |[]=>A
 |(k,i,a)::r=>match Nat.beq k.1 1,Ba k (1,d),(H k).live,A2 (H k).cells i with
  |true,false,true,some (.ref k' q off m)=>(match Ba k' (1,d),Br H k' q with|true,true=>FI (H (1,d)).cells off m (H (1,d)).sz a∧QG H d A r|_,_=>False)
  |_,_,_,_=>False
def kM(r:Ren)(k:Aa)(A:Prop):Prop:=
 match Nat.beq k.1 1 with
 |true=>A
 |false=>IM r k∧A
def QO(H:Hp)(d:Nat)(s:Nat→AV):List Nat→Bool
 |[]=>true
 |j::r=>match s j with
  |.mp k g=>Ba k (1,d)&&Br H k g&&QO H d s r
  |_=>false
def QP(H:Hp)(d:Nat)(s:Nat→AV):List Nat→Bool
 |[]=>true
 |j::r=>match s j with
  |.ptr k g 0=>Ba k (1,d)&&Br H k g&&QP H d s r
  |_=>false
def AR(r:Ren)(os:Nat):AT→St→(St→AT→Prop)→Prop
 |.frz d f cs b,τ,K=>match (τ.H (1,d)).live,Nat.ble 1 (τ.H (1,d)).sz with
  |true,true=>QL τ.H d τ.s (QG τ.H d (AR r os b ⟨G6 f τ.s,F7 cs (updH τ.H (1,d) ⟨(τ.H (1,d)).g,false,(τ.H (1,d)).e,(τ.H (1,d)).sz,(τ.H (1,d)).cells⟩)⟩ K) cs) f
  |_,_=>False
 |.adc k i d e sz b,τ,K=>match Nat.beq k.1 1,Ba k (1,d),(τ.H k).live,A2 (τ.H k).cells i with
  |true,false,true,some .e0=>AR r os b ⟨τ.s,updH (updH τ.H (1,d) ⟨(τ.H (1,d)).g+1,true,e,sz,[]⟩) k ⟨(τ.H k).g,true,(τ.H k).e,(τ.H k).sz,(τ.H k).cells.set i (.ref (1,d) ((τ.H (1,d)).g+1) 0 0)⟩⟩ K
  |_,_,_,_=>False
 |.sep b,τ,K=>K τ b
 |.ads j d e sz b,τ,K=>match NX (τ.s j)with
  |true=>AR r os b ⟨upd τ.s j (.ref (1,d) ((τ.H (1,d)).g+1) 0 0),updH τ.H (1,d) ⟨(τ.H (1,d)).g+1,true,e,sz,[]⟩⟩ K
  |false=>False
 |.trim k c b,τ,K=>match (τ.H k).live with
  |true=>(∃m,(τ.H k).cells.take m=c)∧kM r k (AR r os b ⟨τ.s,updH τ.H k ⟨(τ.H k).g,true,(τ.H k).e,(τ.H k).sz,c⟩⟩ K)
  |false=>False
 |.reb j d m c b,τ,K=>match τ.s j with
  |.ref k q off n=>(match Ba k (1,d),Br τ.H k q with
   |true,true=>(n=m∧off*(τ.H k).sz≤(τ.H k).cells.length∧(τ.H k).cells.drop (off*(τ.H k).sz)=c)∧AR r os b ⟨upd τ.s j (.ref k (q+1) 0 m),updH τ.H k ⟨q+1,true,.t (τ.H k).e.ty,(τ.H k).sz,c⟩⟩ K
   |_,_=>False)
  |_=>False
 |.mv d j b,τ,K=>match (τ.H (1,d)).live with
  |true=>Ea (τ.H (1,d)).cells∧(j<os∧r.no (r.κ (0,j)))∧AR r os b ⟨fun i=>D3 (1,d) (0,j) (τ.H (1,d)).g ((τ.H (0,j)).g+1) (τ.s i),
    updH (updH τ.H (1,d) ⟨(τ.H (1,d)).g,false,(τ.H (1,d)).e,(τ.H (1,d)).sz,(τ.H (1,d)).cells⟩) (0,j) ⟨(τ.H (0,j)).g+1,true,(τ.H (1,d)).e,(τ.H (1,d)).sz,(τ.H (1,d)).cells⟩⟩ K
  |false=>False
 |.fzm d f b,τ,K=>match (τ.H (1,d)).live,(τ.H (1,d)).e,QO τ.H d τ.s f with
  |true,.m q h,true=>AR r os b ⟨DE (.d (.map q h)) f τ.s,updH τ.H (1,d) ⟨(τ.H (1,d)).g,false,(τ.H (1,d)).e,(τ.H (1,d)).sz,(τ.H (1,d)).cells⟩⟩ K
  |_,_,_=>False
 |.fzb d f b,τ,K=>match (τ.H (1,d)).live,J1 (τ.H (1,d)).cells,QP τ.H d τ.s f with
  |true,some (x::ds),true=>AR r os b ⟨DE (.iptr (x::ds) 0) f τ.s,updH τ.H (1,d) ⟨(τ.H (1,d)).g,false,(τ.H (1,d)).e,(τ.H (1,d)).sz,(τ.H (1,d)).cells⟩⟩ K
  |_,_,_=>False
 |.rnm d d' e i b,τ,K=>match (τ.H (1,d)).live,Nat.beq d d',Nat.beq e d,Nat.beq e d',(τ.H (1,e)).live,A2 (τ.H (1,e)).cells i with
  |true,false,false,false,true,some (.ref k g off c)=>(match Ba k (1,d),Nat.beq g (τ.H (1,d)).g with
   |true,true=>Ea (τ.H (1,d)).cells∧AR r os b ⟨fun j=>D3 (1,d) (1,d') (τ.H (1,d)).g ((τ.H (1,d')).g+1) (τ.s j),
     updH (updH (updH τ.H (1,d) ⟨(τ.H (1,d)).g,false,(τ.H (1,d)).e,(τ.H (1,d)).sz,(τ.H (1,d)).cells⟩) (1,d') ⟨(τ.H (1,d')).g+1,true,(τ.H (1,d)).e,(τ.H (1,d)).sz,(τ.H (1,d)).cells⟩)
      (1,e) ⟨(τ.H (1,e)).g,true,(τ.H (1,e)).e,(τ.H (1,e)).sz,(τ.H (1,e)).cells.set i (.ref (1,d') ((τ.H (1,d')).g+1) off c)⟩⟩ K
   |_,_=>False)
  |_,_,_,_,_,_=>False
 |.mvc d q e i b,τ,K=>match (τ.H (1,d)).live,Nat.beq e d,(τ.H (1,e)).live,A2 (τ.H (1,e)).cells i with
  |true,false,true,some (.ref k g off c)=>(match Ba k (1,d),Nat.beq g (τ.H (1,d)).g with
   |true,true=>Ea (τ.H (1,d)).cells∧(q<os∧r.no (r.κ (0,q)))∧AR r os b ⟨fun j=>D3 (1,d) (0,q) (τ.H (1,d)).g ((τ.H (0,q)).g+1) (τ.s j),
     updH (updH (updH τ.H (1,d) ⟨(τ.H (1,d)).g,false,(τ.H (1,d)).e,(τ.H (1,d)).sz,(τ.H (1,d)).cells⟩) (0,q) ⟨(τ.H (0,q)).g+1,true,(τ.H (1,d)).e,(τ.H (1,d)).sz,(τ.H (1,d)).cells⟩)
      (1,e) ⟨(τ.H (1,e)).g,true,(τ.H (1,e)).e,(τ.H (1,e)).sz,(τ.H (1,e)).cells.set i (.ref (0,q) ((τ.H (0,q)).g+1) off c)⟩⟩ K
   |_,_=>False)
  |_,_,_,_=>False
 |a,τ,K=>K τ a
def B2(P:Program)(T:Nat→Option TI)(l n os:Nat)(r:Ren):Code→AT→St→(Exit→St→AT→Prop)→Prop
 |.skip,a,τ,K=>K .normal τ a
 |.ret,a,τ,K=>AR r os a τ (fun τ a=>K .ret τ a)
 |.exit id,a,τ,K=>K (.exit id) τ a
 |.seq x y,a,τ,K=>B2 P T l n os r x a τ (fun e τ' d=>match e with|.normal=>B2 P T l n os r y d τ' K|e=>K e τ' d)
 |.block id c,a,τ,K=>B2 P T l n os r c a τ (fun e τ' d=>match e with|.exit i=>(match Nat.beq i id with|true=>K .normal τ' d|false=>K (.exit i) τ' d)|e=>K e τ' d)
 |.cond c x y,a,τ,K=>match ev τ.s c,a with
  |.d (.bool b),.br a1 g=>(b=true→B2 P T l n os r x a1 τ K)∧(b=false→B2 P T l n os r y g τ K)
  |.d (.bool b),.go a=>(match b with|true=>B2 P T l n os r x a τ K|false=>B2 P T l n os r y a τ K)
  |.d (.bool b),.one v a=>(match v with|true=>(b=true→B2 P T l n os r x a τ K)∧(b=false→False)|false=>(b=true→False)∧(b=false→B2 P T l n os r y a τ K))
  |_,_=>False
 |.region _ ops f,a,τ,K=>match f with
  |false=>AR r os a τ (fun τ a=>Et P T l n r (ops.toList.map (·.dst)) ops.toList [] a (fun τ' env d=>K .normal (CT env τ') d) τ)
  |true=>match Qa ops.toList&&ops.toList.all (fun o=>Cg o||Bw o)&&IB ops.toList 0 ops.toList with
   |true=>AR r os a τ (fun τ a=>Fi P T l n r (ops.toList.map (·.dst)) ops.toList [] a (fun τ' env d=>K .normal (CT env τ') d) τ)
   |false=>False
 |_,_,_,_=>False
mutual
def frz(H:Hp):AV→AT→(AV→AT→Prop)→Prop
 |.d x,a,K=>K (.d x) a
 |.e0,a,K=>K (.d (.list [])) a
 |.ifc t ds q,a,K=>K (.ifc t ds q) a
 |.agg xs,a,K=>Hg H xs a (fun ys c=>K (.agg ys) c)
 |.ref k g off n,a,K=>match Nat.beq k.1 0,Nat.beq k.1 1,Br H k g with
  |true,_,true=>K (.ref k g off n) a
  |false,true,true=>(match a with|.av (.d (.list b)) c=>FI (H k).cells off n (H k).sz b∧K (.d (.list b)) c|_=>False)
  |_,_,_=>False
 |.mp k g,a,K=>match Nat.beq k.1 0,Nat.beq k.1 1,Br H k g,(H k).e with
  |true,_,true,_=>K (.mp k g) a
  |false,true,true,.m q b=>K (.d (.map q b)) a
  |_,_,_,_=>False
 |_,_,_=>False
def Hg(H:Hp):List AV→AT→(List AV→AT→Prop)→Prop
 |[],a,K=>K [] a
 |x::xs,a,K=>frz H x a (fun y c=>Hg H xs c (fun ys b=>K (y::ys) b))
end
def WS(T:Nat→Option TI)(τ:St):ResultVar→(AV→Prop)→Prop
 |.tmp t,K=>K (τ.s t)
 |.cell p t,K=>match τ.s p,T t with
  |.ptr k g off,some i=>(match Br τ.H k g,i.agg with
   |true,true=>(match Nat.ble 1 i.siz,GU i.siz ((τ.H k).cells.drop off)with|true,some c=>K (.agg c)|_,_=>False)
   |true,false=>(match A2 (τ.H k).cells off with|some c=>K c|none=>False)
   |false,_=>False)
  |_,_=>False
def R7(T:Nat→Option TI)(τ:St):List ResultVar→(List AV→Prop)→Prop
 |[],K=>K []
 |v::vs,K=>WS T τ v (fun x=>R7 T τ vs (fun xs=>K (x::xs)))
def GT(H:Hp):Nat→Nat→List Blk
 |0,_=>[]
 |n+1,i=>H (0,i)::GT H n (i+1)
def K6(T:Nat→Option TI)(c:List ResultVar)(os:Nat)(τ:St)(a:AT)(b:AV→List Blk→Prop):Prop:=
 R7 T τ c (fun xs=>Hg τ.H xs a (fun ys _=>b (CS ys) (GT τ.H os 0)))
def FQ(T:Nat→Option TI)(c:List ResultVar)(os:Nat)(b:AV→List Blk→Prop)(e:Exit)(τ:St):Prop:=(e=.normal∨e=.ret)∧∃a,K6 T c os τ a b
end Go.Eng
