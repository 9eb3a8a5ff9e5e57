import Derived.Test.YtjbijbkdiijhaaaGreatZb05
import Derived.Test.YtjbijbkdiijhaaaGreatZb04
import Derived.Test.YtjbijbkdiijhaaaGreatZb00
namespace Go.Eng
set_option linter.all false
open Go Go.RowKit
def KA(r:Ren)(l n outs:Nat)(B:Base)(env:BZ)(K:St→AT→Prop)(σ:St):Prop:=∃b,LH r l outs env K b∧∀a w,R l n B σ a w→R l n B b a w
section
variable {P:Program} {T:Nat→Option TI} {r:Ren} {l n outs:Nat} {B:Base} {env:BZ} {τ σ:St} {a:AT} {o:Oper} {K:St→AT→Prop}
theorem KA.of(h:LH r l outs env K σ):KA r l n outs B env K σ:=⟨σ,h,fun _ _ h=>h⟩
theorem Qh{d:Nat}{e:TypeId}{sz:Nat}{cells:List AV}{x:Nat→AV}(h:El l n d e sz cells x (LH r l outs env K) σ):El l n d e sz cells x (KA r l n outs B env K) σ:=⟨h.1,.of h.2⟩
theorem Zwh(i:Bl P T)(h:RG r l outs env τ σ){d:Nat}(k:o.dst=some d)(j:Co env [] o.op=true)(m:fresh d env=true)(p:tV T τ.H o.op (ev τ.s) none a (Fo n d K τ))
  (c:BI P l n o (KA r l n outs B ((d,[])::env) K) σ=Be P σ.H o.op (ev σ.s) (CF n o.dst (KA r l n outs B ((d,[])::env) K) σ)):BI P l n o (KA r l n outs B ((d,[])::env) K) σ:=by
 rw[c,k]
 refine Wv (fun y hy=>?_) (sV i h Bh (fun b e=>by cases e) j p)
 obtain⟨f,g⟩:=Wa h m hy
 exact⟨f,.of g⟩
theorem ZlN{x:AV}{d:D}(h:GH x=some d):ren r x=x:=by
 cases x<;>simp only[GH]at h<;>first|(simp[ren];done)|cases h
theorem Zld:∀{xs:List AV} {ds:List D},DF xs=some ds→As r xs=xs
 |[],_,_=>by simp[As]
 |x::xs,ds,h=>by
  simp only[DF]at h
  split at h
  ·rename_i d a b c
   rw[As,ZlN b,Zld c]
  ·cases h
theorem ZKO{x:AV}{e:List D}(h:N7 x=some e):ren r x=x:=by
 cases x with
 |agg xs=>simp only[N7]at h;rw[ren,Zld h]
 |_=>
  simp only[N7]at h
  split at h
  ·rename_i d a;exact ZlN a
  ·cases h
theorem V4{sz:Nat}:∀{ps:List (Nat×AV)} {i:Nat} {a:List (List D)},Gf sz i ps=some a→(ps.map fun p=>(p.1,ren r p.2))=ps
 |[],_,_,_=>rfl
 |(j,v)::ps,i,a,h=>by
  simp only[Gf]at h
  split at h
  ·rename_i e b c d
   simp only[YY,ZKO c,V4 d]
  ·cases h
theorem l4(h:RG r l outs env τ σ){sz c:Nat}{y:AV}{news:List AV}(i:Zo τ.H sz y=true)(hs:Ej sz (cellsOf τ.H y) y c news):I9 σ.H sz (ren r y)=some (c,As r news)∧(As r news).all AV.one=true:=by
 obtain⟨p,a⟩:=hs
 have b:(As r news).all AV.one=true:=by
  rw[FO,List.all_map]
  refine Ys.2 fun x hx=>?_
  have:=Ys.1 p x hx
  cases x<;>first|(simp[Function.comp,ren,AV.one];done)|cases this
 refine⟨?_,b⟩
 split at a
 ·obtain⟨rfl,rfl⟩:=a;simp[ren,I9,As]
 ·rename_i s
  obtain⟨d,rfl,rfl⟩:=a
  simp only[ren,I9]
  rw[Ym (Ys.2 fun e he=>by simpa using d e he),Ic]
 ·rename_i k g off m
  obtain⟨rfl,d,rfl⟩:=a
  simp only[Zo,Yb]at i
  obtain⟨hl,q⟩:=i
  obtain⟨j,n,t,o,f⟩:=h.h.at hl
  have e:cellsOf τ.H (.ref k g off c)=(τ.H k).cells:=by simp[cellsOf,hl]
  rw[e]at d⊢
  simp only[ren,I9]
  rw[Ym ⟨j,n,by rw[o];exact Yd q,by rw[f,CL];exact d⟩,f,Ff,FK]
 ·exact a.elim
theorem Zu0(E:RenOk r l outs)(F:Bl P T)(h:RG r l outs env τ σ){d:Nat}{t:TypeId}{x y:AV}(X:fresh d env=true)(b:iQ T r n d t x y a K τ):
  MG P l n d t (ren r x) (ren r y) (KA r l n outs B ((d,[])::env) K) σ:=by
 unfold iQ at b
 split at b
 case h_2=>exact b.elim
 rename_i i hi
 split at b
 case h_2=>exact b.elim
 rename_i e sz he
 split at b
 case h_2=>exact b.elim
 rename_i j L J m
 have J:=Yh J
 unfold MG
 rw[(F _ _ hi).elm _ he]
 split at b
 ·rename_i byt z c news q W Z
  obtain⟨f,U,o⟩:=b
  obtain⟨O,Q⟩:=l4 h m f
  obtain⟨M,N⟩:=(F _ _ L).byt _ W
  have G:c*P.bytesOf e≤140737488355328:=Ed (Nat.mul_le_mul_left _ M) U
  refine⟨by omega,N,by rw[(F _ _ L).zer _ Z];rfl,?_⟩
  simp only[O,ren]
  refine⟨Q,G,fun hc=>?_,fun hc=>?_⟩
  ·subst hc
   have C:d<n:=by
    unfold Jc at o
    split at o
    ·rename_i C;have:=Yh C;omega
    ·exact o.elim
   have hn:=MY (x':=fun g=>.ref (l+1,d) g 0 0) E h X (fun g=>by simp[ren,E.own]) o
   have I:As r news=[]:=by
    have hl:news=[]:=by
     obtain⟨_,f⟩:=f
     split at f
     ·exact f.2
     ·obtain⟨_,A,p⟩:=f
      have:‹List (List D)›=[]:=I4 A.symm
      rw[this]at p;simpa using p
     ·obtain⟨A,_,p⟩:=f;rw[←A]at p;simpa using p
     ·exact f.elim
    rw[hl];simp[As]
   rw[I]at hn
   refine⟨C,_,hn.2,fun act w hR=>?_⟩
   have:=R.adopt (e:=e) (sz:=sz) hR (l+1,d) rfl ((σ.H (l+1,d)).g+1) (YQ _) (d:=d) (by simp[upd])
   have S:upd (upd σ.s d .e0) d (.ref (l+1,d) ((σ.H (l+1,d)).g+1) 0 0)=upd σ.s d (.ref (l+1,d) ((σ.H (l+1,d)).g+1) 0 0):=by funext j;unfold upd;split<;>rfl
   simp only[S]at this
   exact this
  ·exact Qh (MY (x':=fun g=>.ref (l+1,d) g 0 c) E h X (fun g=>by simp[ren,E.own]) o)
 ·rename_i byt z k q off c' c news C' n' q' W Z
  split at b
  case h_2=>exact b.elim
  rename_i hl u s C
  obtain⟨f,⟨U,o,A,p⟩,V⟩:=b
  obtain⟨V,Y,H⟩:=W1 E h (EE hl).2 V
  obtain⟨O,Q⟩:=l4 h m f
  obtain⟨M,N⟩:=(F _ _ L).byt _ W
  obtain⟨g1,g2,g3,g4,g5⟩:=h.h.at hl
  have C:=Yh C
  have u:=Yd u
  have s:=ZEm s
  refine⟨by omega,N,by rw[(F _ _ L).zer _ Z];rfl,?_⟩
  simp only[O,ren]
  refine⟨Q,g1,g2,by rw[g4,u],by rw[g3,s],by rw[g5,CL];exact U,by rw[A];exact Ed (Nat.mul_le_mul_left _ M) p,H,by omega,.of ⟨_,_,V,?_⟩⟩
  have h7:=h.put0 (v:=.ref k (q+1) 0 n') (y:=.ref (r.κ k) (r.γ k+q+1) 0 (c'+c)) X (by simp[ren,A,YK])
  have h8:=RG.updH E h7 k ⟨q+1,true,e,sz,C'⟩ rfl Y
  have S:AW r k ⟨q+1,true,e,sz,C'⟩=⟨r.γ k+q+1,true,e,sz,(σ.H (r.κ k)).cells.drop (off*sz)++As r news⟩:=by
   simp only[AW,g5,Ff,←Hd,o,YK]
  rw[S]at h8
  exact h8
 ·exact b.elim
theorem zq(y:RenOk r l outs)(h:RG r l outs env τ σ){t:TypeId}{i:TI}(hi:TIok P t i){x:AV}{vs:List AV}(c:Q3 r n i x (some vs) a K τ):
  ∃k g off,ren r x=.ptr k g off∧g=(σ.H k).g∧(σ.H k).live=true∧(As r vs).length=P.cellsOf t∧As r vs≠[]∧off+(As r vs).length≤(σ.H k).cells.length∧(k.1=l+1∨(As r vs).all (AV.low k.1)=true)∧
   LH r l outs env K ⟨σ.s,updH σ.H k {σ.H k with cells:=(σ.H k).cells.take off++As r vs++(σ.H k).cells.drop (off+(As r vs).length) }⟩:=by
 unfold Q3 at c
 split at c
 case h_2=>exact c.elim
 rename_i k q off E heq
 cases heq
 split at c
 case h_2=>exact c.elim
 rename_i hl d m
 have d:=Yd d
 have m:=Yh m
 obtain⟨s,u,B,C,v⟩:=h.h.at hl
 obtain⟨F,G⟩:=EE hl
 have fin:∀f z,HK (τ.H k).cells off vs f→Ka r k vs (K ⟨τ.s,updH τ.H k ⟨q,true,(τ.H k).e,(τ.H k).sz,f⟩⟩ z)→_:=fun f z hs o=>by
  obtain⟨s1,s2⟩:=hs
  obtain⟨o,p,j⟩:=W1 y h (EE hl).2 o
  refine(⟨r.κ k,r.γ k+q,off,by simp[ren],s,u,by rw[CL,hi.siz,d],by intro e;have:=congrArg List.length e;rw[CL,HP]at this;omega,by rw[v,CL,CL];exact s1,?_,_,_,o,?_⟩:
   ∃k' g b,ren r (.ptr k q off)=.ptr k' g b∧g=(σ.H k').g∧(σ.H k').live=true∧(As r vs).length=P.cellsOf t∧As r vs≠[]∧b+(As r vs).length≤(σ.H k').cells.length∧(k'.1=l+1∨(As r vs).all (AV.low k'.1)=true)∧
   LH r l outs env K ⟨σ.s,updH σ.H k' {σ.H k' with cells:=(σ.H k').cells.take b++As r vs++(σ.H k').cells.drop (b+(As r vs).length) }⟩)
  ·exact j
  ·have w:=RG.updH y h k ⟨q,true,(τ.H k).e,(τ.H k).sz,f⟩ rfl p
   have A:AW r k ⟨q,true,(τ.H k).e,(τ.H k).sz,f⟩={σ.H (r.κ k)with cells:=(σ.H (r.κ k)).cells.take off++As r vs++(σ.H (r.κ k)).cells.drop (off+(As r vs).length) }:=by
    simp only[AW,v,CL,FK,Ff,←Hd,s2,s,B,C,←u]
   rw[A]at w
   exact w
 split at c
 ·split at c
  ·rename_i D;exact fin _ _ ⟨Yh D,rfl⟩ c
  ·exact c.elim
 ·exact fin _ _ c.1 c.2
 ·exact c.elim
theorem Zpu(L:RenOk r l outs)(D:Bl P T)(h:RG r l outs env τ σ)(v:Co env [] o.op=true)(H:FT env o.dst=true)(s:KM P T l n r o a K τ):BI P l n o (KA r l n outs B (DG env o.dst) K) σ:=by
 obtain⟨dst,op,ty,ps,af,gd⟩:=o
 have ops:∀{op:Op},Co env [] op=true→(∀c x y,op≠.pick c x y)→∀x∈op.operands,ev σ.s x=ren r (ev τ.s x):=fun {op} v hne=>by
  unfold Co at v
  split at v
  ·exact absurd rfl (hne _ _ _)
  ·exact Hf h Bh v
 unfold KM at s
 simp only at v H s⊢
 split at s
 ·rename_i t
  split at s
  case h_2=>exact s.elim
  rename_i d i hi
  split at s
  case h_2=>exact s.elim
  rename_i z zs A
  have M:=KZ (r:=r) ((D _ _ hi).flt _ A)
  have N:=MY (x':=fun g=>.ptr (l+1,d) g 0) L h H (fun g=>by simp[ren,L.own]) s
  rw[M]at N
  simp only[BI,(D _ _ hi).zer _ A]
  exact⟨by simp,Qh N⟩
 ·rename_i t x
  split at s
  case h_2=>exact s.elim
  rename_i d z zs A O
  have hx:=ops v (fun _ _ _ e=>by cases e) x (by simp[Op.operands])
  have N:=MY (x':=fun g=>.ptr (l+1,d) g 0) L h H (fun g=>by simp[ren,L.own]) s
  have E:=PH (r:=r) A (P3 O)
  simp only[BI,hx,E]
  refine⟨ZAx (by simp),?_⟩
  rw[CL]
  exact Qh N
 ·rename_i t p x
  split at s
  case h_2=>exact s.elim
  rename_i i hi O
  have hx:=ops v (fun _ _ _ e=>by cases e) x (by simp[Op.operands])
  have hpp:=ops v (fun _ _ _ e=>by cases e) p (by simp[Op.operands])
  cases A:C7 (ev τ.s x)with
  |none=>rw[A]at s;unfold Q3 at s;split at s<;>first|exact s.elim|(rename_i e;cases e)
  |some vs=>
   rw[A]at s
   have E:=PH (r:=r) A (P3 O)
   obtain⟨k,g,off,R,Y,Z,e4,e5,e6,e7,e8⟩:=zq L h (D _ _ hi) s
   simp only[BI,hpp,hx,E,R]
   exact⟨Y,Z,e4,e5,e6,e7,.of e8⟩
 ·rename_i t len parts
  split at s
  case h_2=>exact s.elim
  rename_i d i hi
  split at s
  case h_2=>exact s.elim
  rename_i e sz he
  simp only[BI,(D _ _ hi).elm _ he]
  split at s
  ·rename_i u
   have u:=Yh u
   refine⟨by omega,?_⟩
   split at s
   ·rename_i hps
    obtain⟨I,G⟩:=Wa h H (y:=.e0) ⟨.e0,a,by simp[ren],s⟩
    exact⟨by rw[←HN,hps];rfl,I,.of G⟩
   ·exact s.elim
  ·rename_i len' u
   have u:=Yh u
   refine⟨by omega,?_⟩
   split at s
   case h_2=>exact s.elim
   rename_i j V W
   split at s
   case h_2=>exact s.elim
   rename_i z A
   split at s
   case h_2=>exact s.elim
   rename_i es F J
   split at s
   case h_2=>exact s.elim
   rename_i hes
   have R:(parts.toList.map fun p=>(p.1,ev σ.s p.2))=parts.toList.map fun p=>(p.1,ev τ.s p.2):=by
    have:(parts.toList.map fun p=>(p.1,ev σ.s p.2))=(parts.toList.map fun p=>(p.1,ev τ.s p.2)).map fun p=>(p.1,ren r p.2):=by
     rw[I2]
     refine Eb fun p s=>?_
     simp only[Function.comp]
     rw[ops v (fun _ _ _ e=>by cases e) p.2 (by simp only[Op.operands,ON,YT];exact⟨p,s,rfl⟩)]
    rw[this,V4 J]
   rw[R]
   simp only[(D _ _ V).zer _ A,J]
   obtain⟨I,G⟩:=Wa h H (y:=.d (.list es)) ⟨.d (.list es),a,by simp[ren],s⟩
   exact⟨Yh W,Yd F,Yd hes,I,.of G⟩
  ·exact s.elim
 ·rename_i t x y
  split at s
  case h_2=>exact s.elim
  rename_i d i k1 c k2 c' m C b hi hx0 hy0
  have hx:=ops v (fun _ _ _ e=>by cases e) x (by simp[Op.operands])
  have hy:=ops v (fun _ _ _ e=>by cases e) y (by simp[Op.operands])
  rw[hx0]at hx
  rw[hy0]at hy
  split at s
  case h_2=>exact s.elim
  rename_i e sz he
  split at s
  case h_2=>exact s.elim
  rename_i j V u
  split at s
  case h_2=>exact s.elim
  rename_i z byt A S
  split at s
  case h_2=>exact s.elim
  rename_i F
  obtain⟨⟨m1,m2,m3,m4⟩,s⟩:=s
  have F:=Yd F
  have u:=Yh u
  have hb:=(D _ _ V).byt _ S
  have hfz:=(D _ _ V).flt _ A
  have U:C.all AV.flat=true:=by
   subst m4
   refine Ys.2 fun q hq=>?_
   obtain⟨z',E,X⟩:=S5.1 hq
   rw[(ai.1 E).2]at X
   exact Ys.1 hfz q X
  have M:=KZ (r:=r) U
  have N:=MY (x':=fun g=>.ref (l+1,d) g 0 m) L h H (fun g=>by simp[ren,L.own]) s
  rw[M]at N
  simp only[BI,(D _ _ hi).elm _ he,hx,hy,ren,(D _ _ V).zer _ A]
  subst m1
  have hbb:(P.bytesOf e:Int)*c'≤(byt:Int)*c':=rj (by omega) (by omega)
  refine⟨by omega,m2,by omega,hb.2,by omega,F,?_⟩
  simp only[Y0,m4]
  exact Qh N
 ·rename_i c
  split at s
  ·rename_i w
   split at s
   case h_2=>exact s.elim
   rename_i d x y t t' ha ht
   split at s
   case h_2=>exact s.elim
   rename_i Q
   have Q:=Yd Q
   subst Q
   have G:c.argTypes=#[t,t]:=Dk (by simpa using ht)
   have hx:=ops v (fun _ _ _ e=>by cases e) x (by simp only[Op.operands,Call.operands,OM];exact .inr (by rw[←aA,ha];simp))
   have hy:=ops v (fun _ _ _ e=>by cases e) y (by simp only[Op.operands,Call.operands,OM];exact .inr (by rw[←aA,ha];simp))
   simp only[BI,w,ha,ht]
   refine⟨by rw[G];rfl,?_⟩
   rw[hx,hy]
   exact Zu0 L D h H s
  ·rename_i hna
   split at s
   case h_2=>exact s.elim
   rename_i d
   unfold pV at s
   simp only at s
   split at s
   ·rename_i f w
    obtain⟨i,first,caps,x,a',R,Y,Z⟩:=kF h Bh (fun b e=>by cases e) w v s
    simp only[BI,w,R]
    refine Y.mono fun y H' ⟨I,G⟩=>?_
    subst I;subst G
    obtain⟨I,G⟩:=Wa h H (y:=ren r x) ⟨x,a',rfl,Z⟩
    exact⟨I,.of G⟩
   ·rename_i hnv
    refine Zwh (o:=⟨some d,.call c,ty,ps,af,gd⟩) D h rfl v H s ?_
    simp only[BI]
 ·rename_i I G h3 h4 h5 h6
  split at s
  case h_2=>exact s.elim
  rename_i d
  have hp':tV T τ.H op (ev τ.s) none a (Fo n d K τ):=by
   unfold pV at s
   split at s
   ·exact absurd rfl (h6 _)
   ·exact absurd rfl (h4 _ _ _)
   ·exact s
  refine Zwh (o:=⟨some d,op,ty,ps,af,gd⟩) D h rfl v H hp' ?_
  simp only[BI]
theorem Zug{d:Option Nat}{v y:AV}{c:Hp}(f:FT env d=true){τ':St}(h:RG r l outs env ⟨τ.s,τ'.H⟩ ⟨σ.s,c⟩)(hy:y=ren r v)(b:Ug n K τ.s τ'.H v a d):
  CF n d (KA r l n outs B (DG env d) K) ⟨σ.s,c⟩ y:=by
 cases d with
 |none=>exact .of ⟨_,_,b,h⟩
 |some d=>
  simp only[Ug]at b
  split at b
  ·rename_i e;exact⟨Yh e,.of ⟨_,_,b,h.put0 f hy⟩⟩
  ·exact b.elim
theorem kT(Q:RenOk r l outs)(A:Bl P T)(h:RG r l outs env τ σ)(s:Co env [] o.op=true)(hf:FT env o.dst=true)(d:Ji P T l n r o a K τ):C6 P l n B o (KA r l n outs B (DG env o.dst) K) σ:=by
 have ops:∀{op:Op},Co env [] op=true→(∀c x y,op≠.pick c x y)→∀x∈op.operands,ev σ.s x=ren r (ev τ.s x):=fun {op} s hne=>by
  unfold Co at s
  split at s
  ·exact absurd rfl (hne _ _ _)
  ·exact Hf h Bh s
 unfold Ji at d
 split at d
 case h_2=>exact MW (Zpu Q A h s hf d)
 rename_i c ho
 split at d
 ·rename_i f
  split at d
  case h_2=>exact d.elim
  rename_i x y t t' ha ht
  have u:o.op=.call ⟨.builtin .copy,#[x,y],#[t,t']⟩:=by
   rw[ho]
   have C:c.args=#[x,y]:=Dk (by simpa using ha)
   have O:c.argTypes=#[t,t']:=Dk (by simpa using ht)
   cases c;simp only at f C O;subst f;subst C;subst O;rfl
  rw[u]at s
  have hx:=ops s (fun _ _ _ e=>by cases e) x (by simp[Op.operands,Call.operands])
  have hy:=ops s (fun _ _ _ e=>by cases e) y (by simp[Op.operands,Call.operands])
  unfold vC at d
  split at d
  case h_2=>exact d.elim
  rename_i i i' hi hi'
  split at d
  case h_2=>exact d.elim
  rename_i e sz e' sz' he he'
  split at d
  case h_2=>exact d.elim
  rename_i j q1 q2 V w Y
  split at d
  case h_2=>exact d.elim
  rename_i z k q off cn cnt news N b Z J
  split at d
  case h_2=>exact d.elim
  rename_i hl m
  obtain⟨h1,h2,h3,H⟩:=d
  obtain⟨H,I,p⟩:=W1 Q h (EE hl).2 H
  have q1:=Yd q1
  have q2:=Yd q2
  subst q1;subst q2
  have m:=Yd m
  have w:=Yh w
  obtain⟨D,E,S,F,G⟩:=h.h.at hl
  obtain⟨C,O⟩:=l4 h Y h1
  rw[J]at hx
  obtain⟨s1,s2⟩:=h3
  obtain⟨ss,M⟩:=σ
  refine ZBr (k:=r.κ k) (g:=r.γ k+q) (off:=off) (cn:=cn) (cnt:=cnt) (news:=As r news) u (by rw[hx];simp[ren]) ((A _ _ hi).elm _ he) ((A _ _ hi').elm _ he') (by rw[(A _ _ V).zer _ Z];rfl) (by omega) D E (by rw[F,m]) (by rw[hy];exact C) h2
   (by rw[G,CL,CL];exact s1) p ?_
  have U:=RG.updH Q h k ⟨q,true,(τ.H k).e,(τ.H k).sz,N⟩ rfl I
  have R:AW r k ⟨q,true,(τ.H k).e,(τ.H k).sz,N⟩={M (r.κ k)with cells:=(M (r.κ k)).cells.take (off*sz)++As r news++(M (r.κ k)).cells.drop (off*sz+(As r news).length) }:=by
   simp only at D E S F G
   simp only[AW,G,CL,FK,Ff,←Hd,s2,D,S,F,←E]
  simp only at R
  rw[R]at U
  refine Zug (v:=.d (.int .i64 cnt)) (a:=b) (τ':=⟨τ.s,updH τ.H k ⟨q,true,(τ.H k).e,(τ.H k).sz,N⟩⟩) hf U (by simp[ren]) H
 ·rename_i f
  split at d
  case h_2=>exact d.elim
  rename_i x t ha ht hd
  have u:o.op=.call ⟨.builtin .clear,#[x],#[t]⟩:=by
   rw[ho]
   have C:c.args=#[x]:=Dk (by simpa using ha)
   have O:c.argTypes=#[t]:=Dk (by simpa using ht)
   cases c;simp only at f C O;subst f;subst C;subst O;rfl
  rw[u]at s
  have hx:=ops s (fun _ _ _ e=>by cases e) x (by simp[Op.operands,Call.operands])
  unfold tz at d
  split at d
  case h_2=>exact d.elim
  rename_i i hi
  split at d
  case h_2=>exact d.elim
  rename_i e sz he
  split at d
  case h_2=>exact d.elim
  rename_i j V w
  split at d
  case h_2=>exact d.elim
  rename_i z k q off cn N b Z J
  split at d
  case h_2=>exact d.elim
  rename_i hl m L
  obtain⟨⟨h1,h2⟩,H⟩:=d
  obtain⟨H,I,p⟩:=W1 Q h (EE hl).2 H
  have m:=Yd m
  have w:=Yh w
  have L:=Yd L
  obtain⟨D,E,S,F,G⟩:=h.h.at hl
  have hfz:=KZ (r:=r) ((A _ _ V).flt _ Z)
  rw[hfz]at p
  rw[J]at hx
  obtain⟨ss,M⟩:=σ
  refine ZtR (k:=r.κ k) (g:=r.γ k+q) (off:=off) (cn:=cn) u hd (by rw[hx];simp[ren]) ((A _ _ hi).elm _ he) ((A _ _ V).zer _ Z) L (by omega) D E (by rw[F,m]) (by rw[G,CL];exact h1) p ?_
  have U:=RG.updH Q h k ⟨q,true,(τ.H k).e,(τ.H k).sz,N⟩ rfl I
  have X:As r (List.replicate cn z).flatten=(List.replicate cn z).flatten:=KZ (by
   refine Ys.2 fun q hq=>?_
   obtain⟨z',hz',W⟩:=S5.1 hq
   rw[(ai.1 hz').2]at W
   exact Ys.1 ((A _ _ V).flt _ Z) q W)
  have R:AW r k ⟨q,true,(τ.H k).e,(τ.H k).sz,N⟩={M (r.κ k)with cells:=(M (r.κ k)).cells.take (off*sz)++(List.replicate cn z).flatten++(M (r.κ k)).cells.drop ((off+cn)*sz) }:=by
   simp only at D E S F G
   rw[←h2]
   simp only[AW,G,Hd,FK,Ff,X,D,S,F,←E]
  simp only at R
  rw[R]at U
  exact .of ⟨_,_,H,by rw[hd];exact U⟩
 ·exact MW (Zpu Q A h s hf d)
theorem vV{a:Nat→Option (Nat×Nat)}:∀(ps:List (Nat×AV)) (z cs:List AV),(∀p∈ps,Jq p.2=true)→CE a z ps=some cs→CE a (As r z) (ps.map fun p=>(p.1,ren r p.2))=some (As r cs)
 |[],z,cs,_,h=>by
  simp only[CE,Yj]at h
  subst h
  simp[CE]
 |(f,v)::ps,z,cs,d,h=>by
  simp only[CE]at h
  split at h
  ·rename_i off size vs b g
   split at h
   ·cases h
   ·rename_i e
    have c:=PH (r:=r) g (P3 (d (f,v) (YB ..)))
    simp only[YY,CE,b,c,CL]
    rw[Yk e]
    have:=vV ps _ cs (fun p b=>d p (YC _ b)) h
    rw[←this]
    simp only[Hd,FK,Ff]
  ·cases h
theorem ZNL(d:CC o=true)(b:Kv P T l n r o a K τ):Ji P T l n r o a K τ:=by
 unfold Kv at b
 split at b
 ·rename_i c;simp[CC,c]at d
 ·exact b
theorem Zy5(w:RenOk r l outs)(m:Bl P T)(h:RG r l outs env τ σ)(k:Co env [] o.op=true)(u:FT env o.dst=true)(c:Kv P T l n r o a K τ):C6 P l n B o (KA r l n outs B (DG env o.dst) K) σ:=by
 unfold Kv at c
 split at c
 case h_2=>exact kT w m h k u c
 rename_i t len parts D
 split at c
 case h_2=>exact kT w m h k u c
 case h_3=>exact kT w m h k u c
 rename_i b
 have ops:∀x∈o.op.operands,ev σ.s x=ren r (ev τ.s x):=by
  unfold Co at k
  split at k
  ·rename_i e;rw[D]at e;cases e
  ·exact Hf h Bh k
 unfold rJ at c
 split at c
 case h_2=>exact c.elim
 rename_i d i I hi
 split at c
 case h_2=>exact c.elim
 rename_i e sz he
 split at c
 case h_2=>exact c.elim
 rename_i j J E v
 split at c
 case h_2=>exact c.elim
 rename_i z M
 split at c
 case h_2=>exact c.elim
 rename_i cs F f C
 split at c
 case h_2=>exact c.elim
 rename_i A
 have G:(parts.toList.map fun p=>(p.1,ev σ.s p.2))=(parts.toList.map fun p=>(p.1,ev τ.s p.2)).map fun p=>(p.1,ren r p.2):=by
  rw[I2]
  refine Eb fun p c=>?_
  rw[ops p.2 (by rw[D];simp only[Op.operands,ON,YT];exact⟨p,c,rfl⟩)]
  rfl
 have q:o.dst=some d:=I
 rw[q]at u⊢
 have L:=MY (x':=fun g=>.ref (l+1,d) g 0 (len+1)) w h u (fun g=>by simp[ren,w.own]) c
 obtain⟨s,H⟩:=σ
 exact y5 D q ((m _ _ hi).elm _ he) (by have:=Yh E;omega) (Yh v) ((m _ _ J).zer _ M) (Yd F) (by
  rw[G]
  have:=vV (r:=r) _ _ _ (fun p c=>Ys.1 C p c) f
  rw[KZ (r:=r) (z:=(List.replicate (len+1) z).flatten) (Ys.2 fun x hx=>by
   obtain⟨y,hy,hx⟩:=S5.1 hx
   rw[List.eq_of_mem_replicate hy]at hx
   exact Ys.1 A x hx)]at this
  exact this) (Qh L)
theorem ZO9(c:CC o=true)(b:KH P T l n r o a K τ):Kv P T l n r o a K τ:=by
 exact b
theorem ZoF(f:RenOk r l outs)(b:Bl P T)(h:RG r l outs env τ σ)(c:Co env [] o.op=true)(d:FT env o.dst=true)(e:KH P T l n r o a K τ):C6 P l n B o (KA r l n outs B (DG env o.dst) K) σ:=by
 exact Zy5 f b h c d e
end
end Go.Eng
namespace Go.Eng
set_option linter.all false
open Go Go.RowKit
section
variable {P:Program} {T:Nat→Option TI} {r:Ren} {l n outs:Nat} {B:Base} {env:BZ} {τ σ:St} {a:AT} {o:Oper}
theorem ue{H:Hp}{op:Op}{ρ:Operand→AV}{g:Option Bool}{K:AV→AT→Prop}(h:tV T H op ρ g a K):∃v b,K v b:=by
 have fin:∀{v b},K v b→∃v b,K v b:=fun h=>⟨_,_,h⟩
 cases op<;>simp only[tV]at h<;>try exact h.elim
 case move x=>exact fin h
 case assign x=>exact fin h
 case pick c x y=>split at h<;>first|exact fin h|exact h.elim
 case load t x=>
  split at h
  ·unfold NN at h
   repeat' split at h
   all_goals first|exact h.elim|exact fin h|exact fin h.2
  ·grind
 case fieldAddr t x f=>
  split at h
  ·unfold VL at h
   grind
  ·grind
 case field t x f=>
  split at h
  ·unfold W9 at h
   grind
  ·grind
 case indexAddr t x j=>
  split at h
  ·unfold VJ at h
   grind
  ·grind
 case index t x j=>
  split at h
  ·unfold Xl at h
   grind
  ·grind
 case extract x j=>
  repeat' split at h
  all_goals first|exact h.elim|exact fin h
 case makeInterface t x=>
  repeat' split at h
  all_goals first|exact h.elim|exact fin h
 case typeAssert x u t ok=>
  repeat' split at h
  all_goals first|exact h.elim|exact fin h
 case binOp o t x y u=>
  split at h
  ·unfold Uy at h
   split at h
   ·split at h
    ·unfold U9 at h
     grind
    grind
   ·unfold UL at h
    grind
   ·grind
   ·grind
   ·split at h
    ·have nl:∀{neg:Bool} {x:AV},MA H neg x a K→∃v b,K v b:=fun {neg x} h=>by
      unfold MA at h
      repeat' split at h
      all_goals first|exact h.elim|exact fin (h true)|exact fin (h neg (fun _=>rfl))
     grind
    grind
   grind
  ·grind
 case unOp o t x=>
  unfold ZO at h
  repeat' split at h
  all_goals first|exact h.elim|exact fin h|exact fin h.2
 case nilCheck x=>
  split at h
  ·grind
  ·grind
  ·grind
 case convert s d x=>
  split at h
  ·unfold T8 at h
   grind
  ·grind
 case makeFunc fn first e=>split at h<;>first|exact h.elim|exact fin h
 case slice t x lo hi k=>
  split at h
  ·unfold Xt at h
   grind
  ·grind
 case build t parts=>
  split at h
  ·unfold WW at h
   grind
  ·grind
 case lookup t x y i=>
  split at h
  ·unfold XB at h
   grind
  ·grind
 case call c=>
  split at h
  ·split at h
   ·unfold Uj at h
    grind
   grind
  ·unfold Ey at h
   grind
  ·unfold Ey at h
   grind
  ·unfold Hq at h
   grind
  ·grind
theorem ce{op:Op}{g:Option Bool}{K:AV→AT→Prop}(h:pV P T l r τ op g a K):∃v b,K v b:=by
 unfold pV at h
 split at h
 ·split at h
  ·unfold X2 at h
   grind
  ·exact ue h
 ·unfold ZE at h
  repeat' split at h
  all_goals first|exact h.elim|exact⟨_,_,h⟩
 ·exact ue h
def Yl(r:Ren)(e:Nat)(K:AV→AT→Prop)(σ b:St):Prop:=∃v a,b=⟨upd σ.s e (ren r v),σ.H⟩∧K v a
theorem rY(E:Bl P T)(h:RG r l outs env τ σ){c:CZ}(hs:Dg τ.s c){g:Option Bool}(M:∀b,g=some b→b=true){e:Nat}{op:Op}{ty:TypeId}{ps:String}{af:Array Edge}{gd:Option (Nat×Bool)}
  (hx:Co env c op=true) (q:e<n) {K:AV→AT→Prop} (d:pV P T l r τ op g a K):BI P l n ⟨some e,op,ty,ps,af,gd⟩ (Yl r e K σ) σ:=by
 have val:tV T τ.H op (ev τ.s) g a K→BI P l n ⟨some e,op,ty,ps,af,gd⟩ (Yl r e K σ) σ=Be P σ.H op (ev σ.s) (CF n (some e) (Yl r e K σ) σ)→BI P l n ⟨some e,op,ty,ps,af,gd⟩ (Yl r e K σ) σ:=fun C D=>by
  rw[D]
  exact Wv (fun y ⟨v,A,u,B⟩=>⟨q,v,A,by rw[u],B⟩) (sV E h hs M hx C)
 unfold pV at d
 split at d
 ·rename_i c
  split at d
  ·rename_i f k
   obtain⟨i,first,L,x,A,u,B,O⟩:=kF h hs M k hx d
   simp only[BI,k,u]
   exact B.mono fun y V ⟨C,D⟩=>by subst C;subst D;exact⟨q,x,A,rfl,O⟩
  ·rename_i G
   refine val d ?_
   cases k:c.callee with
   |value f=>exact absurd k (G f)
   |invoke x m=>simp only[tV,k]at d
   |builtin b=>
    cases b<;>simp only[tV,k]at d<;>simp only[BI,k]
 ·rename_i t len parts
  have I:(Op.buildSlice t len parts).operands.toList.all (IQ env c)=true:=hx
  have u:(parts.toList.map fun p=>(p.1,ev σ.s p.2))=(parts.toList.map fun p=>(p.1,ev τ.s p.2)).map fun p=>(p.1,ren r p.2):=by
   rw[I2]
   refine Eb fun p d=>?_
   simp only[Function.comp]
   rw[Hf h hs I p.2 (by simp only[Op.operands,ON,YT];exact⟨p,d,rfl⟩)]
  unfold ZE at d
  split at d
  case h_2=>exact d.elim
  rename_i i hi
  split at d
  case h_2=>exact d.elim
  rename_i e' sz he
  simp only[BI,(E _ _ hi).elm _ he]
  split at d
  ·rename_i o
   have o:=Yh o
   refine⟨by omega,?_⟩
   split at d
   ·rename_i H
    exact⟨by rw[←HN,H];rfl,q,.e0,a,by simp[ren],d⟩
   grind
  ·rename_i N o
   have o:=Yh o
   refine⟨by omega,?_⟩
   split at d
   case h_2=>exact d.elim
   rename_i j S w
   split at d
   case h_2=>exact d.elim
   rename_i z U
   split at d
   case h_2=>exact d.elim
   rename_i Q J s
   split at d
   case h_2=>exact d.elim
   rename_i F
   rw[V4 s]at u
   rw[u]
   simp only[(E _ _ S).zer _ U,s]
   exact⟨Yh w,Yd J,Yd F,q,.d (.list Q),a,by simp[ren],d⟩
  grind
 ·rename_i R W
  refine val d ?_
  cases op<;>simp only[tV]at d<;>try exact d.elim
  case call c=>exact absurd rfl (R c)
  all_goals simp only[BI]
theorem s9(y:Bl P T)(h:RG r l outs env τ σ){c:CZ}(hs:Dg τ.s c){g:Option Bool}(G:∀b,g=some b→b=true){e:Nat}{op:Op}{ty:TypeId}{ps:String}{af:Array Edge}{gd:Option (Nat×Bool)}
  (hx:Co env c op=true) (o:e<n) {K:AV→AT→Prop} (d:pV P T l r τ op g a K):Gb P l n ⟨some e,op,ty,ps,af,gd⟩ (Yl r e K σ) σ:=by
 have C:=rY (ty:=ty) (ps:=ps) (af:=af) (gd:=gd) y h hs G hx o d
 unfold pV at d
 split at d
 ·rename_i c
  split at d
  ·rename_i f k
   obtain⟨i,first,F,x,I,v,J,L⟩:=kF h hs G k hx d
   simp only[Gb,k,v]
   exact⟨ren r x,J,o,x,I,rfl,L⟩
  ·rename_i B
   cases k:c.callee with
   |value f=>exact absurd k (B f)
   |_=>simp only[Gb,k];exact C
 ·rename_i t len parts
  cases len with
  |zero=>exact C
  |succ len=>
   have D:(Op.buildSlice t (len+1) parts).operands.toList.all (IQ env c)=true:=hx
   have v:(parts.toList.map fun p=>(p.1,ev σ.s p.2))=(parts.toList.map fun p=>(p.1,ev τ.s p.2)).map fun p=>(p.1,ren r p.2):=by
    rw[I2]
    refine Eb fun p d=>?_
    simp only[Function.comp]
    rw[Hf h hs D p.2 (by simp only[Op.operands,ON,YT];exact⟨p,d,rfl⟩)]
   unfold ZE at d
   split at d
   case h_2=>exact d.elim
   rename_i i hi
   split at d
   case h_2=>exact d.elim
   rename_i e' sz he
   split at d
   ·rename_i q;cases q
   ·rename_i H u q
    cases q
    have u:=Yh u
    split at d
    case h_2=>exact d.elim
    rename_i j O s
    split at d
    case h_2=>exact d.elim
    rename_i z Q
    split at d
    case h_2=>exact d.elim
    rename_i w E m
    split at d
    case h_2=>exact d.elim
    rename_i A
    rw[V4 m]at v
    exact⟨.d (.list w),⟨e',sz,z,w,(y _ _ hi).elm _ he,by omega,Yh s,(y _ _ O).zer _ Q,Yd E,by rw[v];exact m,Yd A,rfl⟩,o,.d (.list w),a,by simp[ren],d⟩
   ·exact d.elim
 ·rename_i M N
  cases op<;>first|exact absurd rfl (M _)|exact absurd rfl (N _ _ _)|exact C
theorem P2{d:Nat}{e:TypeId}{sz:Nat}{cells:List AV}{x:Nat→AV}{K a:St→Prop}(b:∀σ,K σ→a σ)(h:El l n d e sz cells x K σ):El l n d e sz cells x a σ:=⟨h.1,b _ h.2⟩
theorem Zxc{o:Oper}{K b:St→Prop}(a:∀σ,K σ→b σ)(h:BI P l n o K σ):BI P l n o b σ:=by
 have i:∀x,CF n o.dst K σ x→CF n o.dst b σ x:=fun x h=>by
  unfold CF at h⊢
  grind
 unfold BI at h⊢
 split at h
 ·split at h
  ·exact⟨h.1,P2 a h.2⟩
  grind
 ·split at h
  ·exact⟨h.1,P2 a h.2⟩
  grind
 ·grind
 ·split at h
  ·refine⟨h.1,?_⟩
   replace h:=h.2
   split at h
   ·grind
   ·refine⟨h.1,?_⟩
    replace h:=h.2
    split at h
    ·refine⟨h.1,?_⟩
     replace h:=h.2
     split at h
     ·grind
     ·split at h
      ·exact P2 a h
      grind
    grind
  grind
 ·split at h
  ·obtain⟨c,d,f,j,k,h⟩:=h
   refine⟨c,d,f,j,k,?_⟩
   split at h
   ·exact⟨h.1,P2 a h.2⟩
   grind
  grind
 ·split at h
  ·split at h
   ·exact h.mono fun r m g=>by
     unfold O4 at g⊢
     unfold CF at g⊢
     grind
   grind
  ·split at h
   ·refine⟨h.1,?_⟩
    replace h:=h.2
    unfold MG at h⊢
    split at h
    ·obtain⟨c,d,f,h⟩:=h
     refine⟨c,d,f,?_⟩
     split at h
     ·refine⟨h.1,?_⟩
      replace h:=h.2
      split at h
      ·exact⟨h.1,fun e=>⟨(h.2.1 e).1,a _ (h.2.1 e).2⟩,fun e=>P2 a (h.2.2 e)⟩
      ·grind
      grind
     grind
    grind
   grind
  ·exact Wv i h
 ·exact Wv i h
theorem V3{o:Oper}{K a:St→Prop}(b:∀σ,K σ→a σ)(h:Gb P l n o K σ):Gb P l n o a σ:=by
 have e:∀{x},CF n o.dst K σ x→CF n o.dst a σ x:=fun {x} h=>by
  unfold CF at h⊢
  grind
 unfold Gb at h⊢
 split at h
 ·obtain⟨v,c,d⟩:=h;exact⟨v,c,e d⟩
 ·split at h
  ·grind
  ·exact Zxc b h
 ·exact Zxc b h
theorem z1(h:RG r l outs env τ σ){ds:List (Option Nat)}{i d:Nat}{b g:Bool}(j:Bt ds i=some (some d))(a:Hk τ.s ((d,b)::lk env d)=some g):IT σ.s ds i b=some g:=by
 rw[Cs]at j
 have f:=MV a
 unfold IT
 simp only[j]
 by_cases hs:Dg τ.s (lk env d)
 ·have k:=(h.s d).1 hs
  have m:∃t,τ.s d=.d (.bool t):=by
   cases hl:lk env d with
   |nil=>
    rw[hl]at a
    simp only[Hk]at a
    grind
   |cons q o=>
    rw[hl]at a
    simp only[Hk]at a
    grind
  obtain⟨t,n⟩:=m
  rw[k,n]
  simp only[ren,Yj]
  cases g with
  |true=>
   have:=f.1 rfl (d,b) (YB ..)
   grind
  |false=>
   cases e:t==b with
   |false=>rfl
   |true=>
    exfalso
    have e:t=b:=by simpa using e
    have:Dg τ.s ((d,b)::lk env d):=fun q c=>by
     rcases Yx.1 c with rfl|c
     ·grind
     ·exact hs q c
    grind
 ·rw[(h.s d).2 hs]
  simp only[Yj]
  cases g with
  |false=>rfl
  |true=>exact absurd (fun q c=>f.1 rfl q (YC _ c)) hs
theorem MX(F:RenOk r l outs)(A:Bl P T){ops:Array Oper}{K:St→BZ→AT→Prop}{QQ:Exit→Act→World→Prop}(more:List Oper)
  (D:∀τ' k u G f w',K τ' k u→RG r l outs k τ' G→R l n B G f w'→wpList P ops QQ more f w'):
  ∀(c:List Oper) (env:BZ) (a:AT) (τ σ:St) (act:Act) (w:World),Hr P T l n r (ops.toList.map (·.dst)) c env a K τ→RG r l outs env τ σ→R l n B σ act w→wpList P ops QQ (c++more) act w
 |[],env,a,τ,σ,act,w,h,p,x=>D _ _ _ _ _ _ h p x
 |o::c,env,a,τ,σ,act,w,h,p,x=>by
  unfold Hr at h
  split at h
  ·rename_i E
   split at h
   ·rename_i V Z
    refine j7 (by simp[Region.wanted,E]) (ZoF (B:=B) F A p V Z h) x fun G f w' I q=>?_
    obtain⟨σ'',⟨τ',u,z,N⟩,O⟩:=I
    exact MX F A more D c _ _ _ _ _ _ z N (O _ _ q)
   grind
  ·rename_i i b E
   split at h
   case h_2=>exact h.elim
   rename_i d e W he
   split at h
   case h_2=>exact h.elim
   rename_i g t hx j C
   simp only[Yb]at j
   have C:=Yh C
   have J:=z1 p W t
   have hy:(yielded ops act.tmps i==some b)=g:=by
    obtain⟨s,H⟩:=σ
    obtain⟨m,S,hO,L,X,Q,Y⟩:=x.un
    exact z2 Q J
   cases g with
   |true=>
    have hs:=(MV t).1 rfl
    refine j7 (by simp only[Region.wanted,E];exact hy) (σ:=σ) (B:=B) (l:=l) (n:=n) (KK:=Yl r e (fun v u=>Hr P T l n r (ops.toList.map (·.dst)) c ((e,(d,b)::lk env d)::env) u K ⟨upd τ.s e v,τ.H⟩) σ) (MW ?_) x fun G f w' U q=>?_
    ·obtain⟨M,op,ty,ps,af,gd⟩:=o
     simp only at he
     subst he
     exact rY A p hs (fun b' e'=>by cases e';rfl) hx (by omega) h
    ·obtain⟨v,u,rfl,z⟩:=U
     exact MX F A more D c _ _ _ _ _ _ z (p.put j.1 j.2 (fun _=>rfl) (fun L=>absurd hs L)) q
   |false=>
    have hs:¬Dg τ.s ((d,b)::lk env d):=fun hs=>by have:=(MV t).2 hs;cases this
    obtain⟨v,u,z⟩:=ce h
    show wpList P ops QQ (o::(c++more)) act w
    unfold wpList
    rw[Yk (by simp only[Region.wanted,E,hy];decide),he]
    exact MX F A more D c _ _ _ _ _ _ z (p.put j.1 j.2 (y:=.tup []) (fun h=>absurd h hs) (fun _=>rfl)) (R.undef x (by omega))
theorem M1(L:RenOk r l outs)(B:Bl P T){ds:List (Option Nat)}{K:St→BZ→AT→Prop}:
  ∀(rest:List Oper) (env:BZ) (a:AT) (τ σ:St),rest.all (fun o=>C9 o||Ca o)=true→Hm P T l n r ds rest env a K τ→RG r l outs env τ σ→D3 P l n ds rest (fun Y=>∃τ' z f,K τ' z f∧RG r l outs z τ' Y) σ
 |[],env,a,τ,σ,_,h,u=>⟨_,_,_,h,u⟩
 |o::rest,env,a,τ,σ,w,h,u=>by
  simp only[I1,Yb]at w
  unfold Hm at h
  unfold D3
  split at h
  ·rename_i G
   simp only[G]
   split at h
   case h_2=>exact h.elim
   rename_i I Z
   by_cases H:Ca o=true
   ·obtain⟨j,op,ty,ps,af,gd⟩:=o
    cases op<;>simp only[Ca]at H<;>first|(cases H;done)|skip
    rename_i t p x
    cases j with
    |some d=>cases H
    |none=>
     unfold g9 at h
     simp only at h
     unfold KH Kv Ji KM at h
     simp only at h I
     split at h
     case h_2=>exact h.elim
     rename_i i hi U
     have A:∀y∈(Op.store t p x).operands,ev σ.s y=ren r (ev τ.s y):=by
      unfold Co at I
      exact Hf u Bh I
     have hx:=A x (by simp[Op.operands])
     have V:=A p (by simp[Op.operands])
     cases W:C7 (ev τ.s x)with
     |none=>rw[W]at h;unfold Q3 at h;split at h<;>first|exact h.elim|(rename_i e;cases e)
     |some vs=>
      rw[W]at h
      have X:=PH (r:=r) W (P3 U)
      obtain⟨k,g,off,M,e2,e3,e4,e5,e6,e7,e8⟩:=zq L u (B _ _ hi) h
      obtain⟨τ',f,m,h2⟩:=e8
      simp only[Gb,BI,V,hx,X,M]
      exact⟨e2,e3,e4,e5,e6,e7,M1 L B rest _ _ _ _ w.2 m h2⟩
   have J:C9 o=true:=by
    grind
   replace w:C9 o=true∧_:=⟨J,w.2⟩
   obtain⟨j,op,ty,ps,af,gd⟩:=o
   have E:∃d,j=some d:=by
    have:=w.1
    unfold C9 CC at this
    rw[YI,Yb,Yb]at this
    rcases this with h|h
    ·exact YP.1 h.1
    ·exact YP.1 h.1
   obtain⟨d,rfl⟩:=E
   simp only at I Z G
   have hp:pV P T l r τ op none a (Fo n d (fun τ' f=>Hm P T l n r ds rest (DG env (some d)) f K τ') τ):=by
    by_cases C:∃t len p,op=.buildSlice t (len+1) p
    ·obtain⟨t,len,p,rfl⟩:=C
     exact h
    ·have c:CC ⟨some d,op,ty,ps,af,gd⟩=true:=kY w.1 fun t len p e=>C ⟨t,len,p,e⟩
     have h:KH P T l n r ⟨some d,op,ty,ps,af,gd⟩ a (fun τ' f=>Hm P T l n r ds rest (DG env (some d)) f K τ') τ:=by
      unfold g9 at h
      split at h
      ·rename_i M _;exact absurd ⟨_,_,_,M⟩ C
      ·exact h
     have h:=ZNL c (ZO9 c h)
     unfold Ji at h
     simp only at h
     have h:KM P T l n r ⟨some d,op,ty,ps,af,none⟩ a (fun τ' f=>Hm P T l n r ds rest (DG env (some d)) f K τ') τ:=by
      subst G
      split at h
      ·split at h
       ·rename_i q;simp[CC,q]at c
       ·grind
       ·exact h
      ·exact h
     unfold KM at h
     simp only at h
     split at h
     ·simp[CC]at c
     ·simp[CC]at c
     ·grind
     ·simp[CC]at c
     ·simp[CC]at c
     ·split at h
      ·rename_i q;simp[CC,q]at c
      ·exact h
     ·exact h
   have Q:∃v f,Fo n d (fun τ' f=>Hm P T l n r ds rest (DG env (some d)) f K τ') τ v f:=ce hp
   have O:d<n:=by
    obtain⟨v,f,m⟩:=Q
    unfold Fo at m
    split at m
    ·rename_i E;have E:=Yh E;exact E
    grind
   have:=s9 (ty:=ty) (ps:=ps) (af:=af) (gd:=gd) B u Bh (fun b e=>by cases e) I O hp
   refine V3 (fun Y N=>?_) this
   obtain⟨v,f,rfl,m⟩:=N
   unfold Fo at m
   split at m
   ·exact M1 L B rest _ _ _ _ w.2 m (u.put0 Z rfl)
   grind
  ·rename_i i b G
   have J:C9 o=true:=by
    have:=w.1
    rw[YI]at this
    rcases this with h|h
    ·exact h
    ·exfalso
     obtain⟨j,op,ty,ps,af,gd⟩:=o
     simp only at G
     subst G
     cases op<;>cases j<;>simp[Ca]at h
   simp only[G]
   split at h
   case h_2=>exact h.elim
   rename_i d e E he
   split at h
   case h_2=>exact h.elim
   rename_i g D hx s F
   simp only[Yb]at s
   have F:=Yh F
   rw[z1 u E D]
   refine⟨fun S=>?_,fun R=>?_⟩
   ·subst S
    have hs:=(MV D).1 rfl
    obtain⟨j,op,ty,ps,af,gd⟩:=o
    simp only at he
    subst he
    refine V3 (fun Y N=>?_) (s9 (ty:=ty) (ps:=ps) (af:=af) (gd:=gd) B u hs (fun b' e'=>by cases e';rfl) hx (by omega) h)
    obtain⟨v,f,rfl,m⟩:=N
    exact M1 L B rest _ _ _ _ w.2 m (u.put s.1 s.2 (fun _=>rfl) (fun hn=>absurd hs hn))
   ·subst R
    have hs:¬Dg τ.s ((d,b)::lk env d):=fun hs=>by have:=(MV D).2 hs;cases this
    obtain⟨v,f,m⟩:=ce h
    rw[he]
    exact⟨F,M1 L B rest _ _ _ _ w.2 m (u.put s.1 s.2 (y:=.tup []) (fun h=>absurd h hs) (fun _=>rfl))⟩
end
def AG:List (Nat×AV)→Nat→AV
 |[],_=>.top
 |(i,x)::r,j=>match Nat.beq i j with|true=>x|false=>AG r j
def Fj:Blk:=⟨0,false,0,0,[]⟩
def AL:List (Af×Blk)→Af→Blk
 |[],_=>Fj
 |(k,b)::r,q=>match BK k q with|true=>b|false=>AL r q
def Ad(ss:List (Nat×AV))(hs:List (Af×Blk)):St:=⟨AG ss,AL hs⟩
mutual
def Ew(H:Hp):AV→Option AV
 |.ref k g off n=>match B2 H k g with|true=>some (.ref k 0 off n)|false=>none
 |.ptr k g off=>match B2 H k g with|true=>some (.ptr k 0 off)|false=>none
 |.mp k g=>match B2 H k g with|true=>some (.mp k 0)|false=>none
 |.fn f xs ys=>match IA H xs,IA H ys with|some xs,some ys=>some (.fn f xs ys)|_,_=>none
 |.agg xs=>match IA H xs with|some xs=>some (.agg xs)|none=>none
 |.tup xs=>match IA H xs with|some xs=>some (.tup xs)|none=>none
 |.top=>some .top
 |.d x=>some (.d x)
 |.e0=>some .e0
 |.p x=>some (.p x)
 |.iptr cs off=>some (.iptr cs off)
 |.ifc t ds a=>some (.ifc t ds a)
def IA(H:Hp):List AV→Option (List AV)
 |[]=>some []
 |x::xs=>match Ew H x,IA H xs with|some x,some xs=>some (x::xs)|_,_=>none
end
def qk(H:Hp)(x:AV):AV:=match Ew H x with|some v=>v|none=>.top
def M8(H:Hp)(s:Nat→AV):List Nat→List (Nat×AV)
 |[]=>[]
 |j::r=>(j,qk H (s j))::M8 H s r
def Il(cs:List AV):Prop:=∀x∈cs,x.flat=true
def Nk(H:Hp):List (Af×Bool)→(List (Af×Blk)→Prop)→Prop
 |[],K=>K []
 |(k,fl)::r,K=>match (H k).live with
  |false=>Nk H r K
  |true=>match fl with
   |true=>Il (H k).cells∧Nk H r (fun a=>K ((k,⟨0,true,(H k).e,(H k).sz,(H k).cells⟩)::a))
   |false=>match IA H (H k).cells with
    |some cs=>Nk H r (fun a=>K ((k,⟨0,true,(H k).e,(H k).sz,cs⟩)::a))
    |none=>False
def UV:AV→Bool
 |.e0=>true
 |_=>false
def Qw:List (Nat×Nat×TypeId×Nat)→St→(St→Prop)→Prop
 |[],τ,K=>K τ
 |(j,d,e,sz)::r,τ,K=>match UV (τ.s j),(τ.H (1,d)).live with
  |true,false=>Qw r ⟨upd τ.s j (.ref (1,d) ((τ.H (1,d)).g+1) 0 0),updH τ.H (1,d) ⟨(τ.H (1,d)).g+1,true,e,sz,[]⟩⟩ K
  |true,true=>False
  |false,_=>Qw r τ K
structure Lf where
 ls:List Nat
 ks:List (Af×Bool):=[]
 ad:List (Nat×Nat×TypeId×Nat):=[]
 ze:List Nat:=[]
def Og:List Nat→St→St
 |[],τ=>τ
 |j::r,τ=>match UV (τ.s j)with|true=>Og r ⟨upd τ.s j (.d (.list [])),τ.H⟩|false=>Og r τ
def gz(H:Hp):List Nat→Bool
 |[]=>true
 |i::r=>Nat.beq (H (0,i)).g 0&&gz H r
def FX(fx:List Nat)(f:Lf)(τ:St)(Φ:St→Prop):Prop:=Qw f.ad (Og f.ze τ) (fun τ=>match gz τ.H fx with|true=>Nk τ.H f.ks (fun hs=>Φ (Ad (M8 τ.H τ.s f.ls) hs))|false=>False)
structure Cx where
 l:Nat
 B:Base
 κ:Af→Af
 θ:Nat→AV
 H0:Hp
 outs:Nat
 no:Af→Prop
 fx:List Nat
 G:(Af→Nat)→Prop
def Cx.r(C:Cx)(γ:Af→Nat):Ren:=⟨C.κ,γ,C.θ,C.H0,C.no⟩
structure CxOk (C:Cx):Prop where
 own:∀d,C.κ (1,d)=(C.l+1,d)
 out:∀i,i<C.outs→(C.κ (0,i)).1≤C.l
 inj:∀i j,i<C.outs→j<C.outs→C.κ (0,i)=C.κ (0,j)→i=j
 no:∀k,C.no k→∃i,i<C.outs∧C.κ (0,i)=k
 G:∀γ γ':Af→Nat,(∀i∈C.fx,γ' (0,i)=γ (0,i))→C.G γ→C.G γ'
theorem CxOk.ren{C:Cx}(h:CxOk C)(γ:Af→Nat):RenOk (C.r γ) C.l C.outs:=⟨h.own,h.out,h.inj,h.no⟩
def Wk(n:Nat)(C:Cx)(σ b:St):Prop:=∀a w,R C.l n C.B σ a w→R C.l n C.B b a w
def Is(n:Nat)(C:Cx)(Φ:St→Prop)(σ:St):Prop:=∃γ τ a,C.G γ∧Φ τ∧RG (C.r γ) C.l C.outs [] τ a∧Wk n C σ a
def LW(P:Program)(n:Nat)(C:Cx)(c:Code)(τ:St)(Q:Exit→St→Prop):Prop:=
 ∀γ σ,C.G γ→RG (C.r γ) C.l C.outs [] τ σ→BR P C.l n C.B c (fun e a=>Is n C (Q e) a) σ
def T5(P:Program)(l n:Nat)(B:Base)(c:Code)(Q:Exit→St→Prop)(σ:St):Prop:=
 ∀a w,R l n B σ a w→∀(b:Frame) (k:List Item) (cs:List Frame),∃e d w',(∃f,Q e f∧R l n B f d w')∧Arrives P (lone (b.at a (.code c::.inLoop c::k)) cs w) b k cs e d w'
def LL(P:Program)(n:Nat)(C:Cx)(c:Code)(τ:St)(Q:Exit→St→Prop):Prop:=
 ∀γ σ,C.G γ→RG (C.r γ) C.l C.outs [] τ σ→T5 P C.l n C.B c (fun e a=>Is n C (Q e) a) σ
def Eo(env:BZ)(τ:St):St:=⟨fun j=>match lk env j with|[]=>τ.s j|_=>.top,τ.H⟩
def HI(C:List AV)(off n sz:Nat)(es:List (List D)):Prop:=es.length=n∧sz≠0∧(∀e∈es,e.length=sz)∧(off+n)*sz≤C.length∧(C.drop (off*sz)).take (n*sz)=es.flatten.map .d
def ZI(H:Hp)(d:Nat)(s:Nat→AV)(A:Prop):List (Nat×List (List D))→Prop
 |[]=>A
 |(j,a)::r=>match s j with
  |.ref k q off m=>(match BK k (1,d),B2 H k q with|true,true=>HI (H (1,d)).cells off m (H (1,d)).sz a∧ZI H d s A r|_,_=>False)
  |_=>False
def ZF(H:Hp)(d:Nat)(A:Prop):List (Af×Nat×List (List D))→Prop
 |[]=>A
 |(k,i,a)::r=>match Nat.beq k.1 1,BK k (1,d),(H k).live,Bt (H k).cells i with
  |true,false,true,some (.ref k' q off m)=>(match BK k' (1,d),B2 H k' q with|true,true=>HI (H (1,d)).cells off m (H (1,d)).sz a∧ZF H d A r|_,_=>False)
  |_,_,_,_=>False
def trK(r:Ren)(k:Af)(A:Prop):Prop:=
 match Nat.beq k.1 1 with
 |true=>A
 |false=>L4 r k∧A
def ZK(H:Hp)(d:Nat)(s:Nat→AV):List Nat→Bool
 |[]=>true
 |j::r=>match s j with
  |.mp k g=>BK k (1,d)&&B2 H k g&&ZK H d s r
  |_=>false
def ZM(H:Hp)(d:Nat)(s:Nat→AV):List Nat→Bool
 |[]=>true
 |j::r=>match s j with
  |.ptr k g 0=>BK k (1,d)&&B2 H k g&&ZM H d s r
  |_=>false
def Bs(r:Ren)(os:Nat):AT→St→(St→AT→Prop)→Prop
 |.frz d f cs b,τ,K=>match (τ.H (1,d)).live,Nat.ble 1 (τ.H (1,d)).sz with
  |true,true=>ZI τ.H d τ.s (ZF τ.H d (Bs r os b ⟨Jj f τ.s,IH cs (updH τ.H (1,d) ⟨(τ.H (1,d)).g,false,(τ.H (1,d)).e,(τ.H (1,d)).sz,(τ.H (1,d)).cells⟩)⟩ K) cs) f
  |_,_=>False
 |.adc k i d e sz b,τ,K=>match Nat.beq k.1 1,BK k (1,d),(τ.H k).live,Bt (τ.H k).cells i with
  |true,false,true,some .e0=>Bs r os b ⟨τ.s,updH (updH τ.H (1,d) ⟨(τ.H (1,d)).g+1,true,e,sz,[]⟩) k ⟨(τ.H k).g,true,(τ.H k).e,(τ.H k).sz,(τ.H k).cells.set i (.ref (1,d) ((τ.H (1,d)).g+1) 0 0)⟩⟩ K
  |_,_,_,_=>False
 |.sep b,τ,K=>K τ b
 |.ads j d e sz b,τ,K=>match UV (τ.s j)with
  |true=>Bs r os b ⟨upd τ.s j (.ref (1,d) ((τ.H (1,d)).g+1) 0 0),updH τ.H (1,d) ⟨(τ.H (1,d)).g+1,true,e,sz,[]⟩⟩ K
  |false=>False
 |.trim k c b,τ,K=>match (τ.H k).live with
  |true=>(∃m,(τ.H k).cells.take m=c)∧trK r k (Bs r os b ⟨τ.s,updH τ.H k ⟨(τ.H k).g,true,(τ.H k).e,(τ.H k).sz,c⟩⟩ K)
  |false=>False
 |.reb j d m c b,τ,K=>match τ.s j with
  |.ref k q off n=>(match BK k (1,d),B2 τ.H k q with
   |true,true=>(n=m∧off*(τ.H k).sz≤(τ.H k).cells.length∧(τ.H k).cells.drop (off*(τ.H k).sz)=c)∧Bs r os b ⟨upd τ.s j (.ref k (q+1) 0 m),updH τ.H k ⟨q+1,true,.t (τ.H k).e.ty,(τ.H k).sz,c⟩⟩ K
   |_,_=>False)
  |_=>False
 |.mv d j b,τ,K=>match (τ.H (1,d)).live with
  |true=>FV (τ.H (1,d)).cells∧(j<os∧r.no (r.κ (0,j)))∧Bs r os b ⟨fun i=>Ft (1,d) (0,j) (τ.H (1,d)).g ((τ.H (0,j)).g+1) (τ.s i),
    updH (updH τ.H (1,d) ⟨(τ.H (1,d)).g,false,(τ.H (1,d)).e,(τ.H (1,d)).sz,(τ.H (1,d)).cells⟩) (0,j) ⟨(τ.H (0,j)).g+1,true,(τ.H (1,d)).e,(τ.H (1,d)).sz,(τ.H (1,d)).cells⟩⟩ K
  |false=>False
 |.fzm d f b,τ,K=>match (τ.H (1,d)).live,(τ.H (1,d)).e,ZK τ.H d τ.s f with
  |true,.m q h,true=>Bs r os b ⟨ES (.d (.map q h)) f τ.s,updH τ.H (1,d) ⟨(τ.H (1,d)).g,false,(τ.H (1,d)).e,(τ.H (1,d)).sz,(τ.H (1,d)).cells⟩⟩ K
  |_,_,_=>False
 |.fzb d f b,τ,K=>match (τ.H (1,d)).live,Mr (τ.H (1,d)).cells,ZM τ.H d τ.s f with
  |true,some (x::ds),true=>Bs r os b ⟨ES (.iptr (x::ds) 0) f τ.s,updH τ.H (1,d) ⟨(τ.H (1,d)).g,false,(τ.H (1,d)).e,(τ.H (1,d)).sz,(τ.H (1,d)).cells⟩⟩ K
  |_,_,_=>False
 |.rnm d d' e i b,τ,K=>match (τ.H (1,d)).live,Nat.beq d d',Nat.beq e d,Nat.beq e d',(τ.H (1,e)).live,Bt (τ.H (1,e)).cells i with
  |true,false,false,false,true,some (.ref k g off c)=>(match BK k (1,d),Nat.beq g (τ.H (1,d)).g with
   |true,true=>FV (τ.H (1,d)).cells∧Bs r os b ⟨fun j=>Ft (1,d) (1,d') (τ.H (1,d)).g ((τ.H (1,d')).g+1) (τ.s j),
     updH (updH (updH τ.H (1,d) ⟨(τ.H (1,d)).g,false,(τ.H (1,d)).e,(τ.H (1,d)).sz,(τ.H (1,d)).cells⟩) (1,d') ⟨(τ.H (1,d')).g+1,true,(τ.H (1,d)).e,(τ.H (1,d)).sz,(τ.H (1,d)).cells⟩)
      (1,e) ⟨(τ.H (1,e)).g,true,(τ.H (1,e)).e,(τ.H (1,e)).sz,(τ.H (1,e)).cells.set i (.ref (1,d') ((τ.H (1,d')).g+1) off c)⟩⟩ K
   |_,_=>False)
  |_,_,_,_,_,_=>False
 |.mvc d q e i b,τ,K=>match (τ.H (1,d)).live,Nat.beq e d,(τ.H (1,e)).live,Bt (τ.H (1,e)).cells i with
  |true,false,true,some (.ref k g off c)=>(match BK k (1,d),Nat.beq g (τ.H (1,d)).g with
   |true,true=>FV (τ.H (1,d)).cells∧(q<os∧r.no (r.κ (0,q)))∧Bs r os b ⟨fun j=>Ft (1,d) (0,q) (τ.H (1,d)).g ((τ.H (0,q)).g+1) (τ.s j),
     updH (updH (updH τ.H (1,d) ⟨(τ.H (1,d)).g,false,(τ.H (1,d)).e,(τ.H (1,d)).sz,(τ.H (1,d)).cells⟩) (0,q) ⟨(τ.H (0,q)).g+1,true,(τ.H (1,d)).e,(τ.H (1,d)).sz,(τ.H (1,d)).cells⟩)
      (1,e) ⟨(τ.H (1,e)).g,true,(τ.H (1,e)).e,(τ.H (1,e)).sz,(τ.H (1,e)).cells.set i (.ref (0,q) ((τ.H (0,q)).g+1) off c)⟩⟩ K
   |_,_=>False)
  |_,_,_,_=>False
 |a,τ,K=>K τ a
def Da(P:Program)(T:Nat→Option TI)(l n os:Nat)(r:Ren):Code→AT→St→(Exit→St→AT→Prop)→Prop
 |.skip,a,τ,K=>K .normal τ a
 |.ret,a,τ,K=>Bs r os a τ (fun τ a=>K .ret τ a)
 |.exit id,a,τ,K=>K (.exit id) τ a
 |.seq x y,a,τ,K=>Da P T l n os r x a τ (fun e τ' d=>match e with|.normal=>Da P T l n os r y d τ' K|e=>K e τ' d)
 |.block id c,a,τ,K=>Da P T l n os r c a τ (fun e τ' d=>match e with|.exit i=>(match Nat.beq i id with|true=>K .normal τ' d|false=>K (.exit i) τ' d)|e=>K e τ' d)
 |.cond c x y,a,τ,K=>match ev τ.s c,a with
  |.d (.bool b),.br a1 g=>(b=true→Da P T l n os r x a1 τ K)∧(b=false→Da P T l n os r y g τ K)
  |.d (.bool b),.go a=>(match b with|true=>Da P T l n os r x a τ K|false=>Da P T l n os r y a τ K)
  |.d (.bool b),.one v a=>(match v with|true=>(b=true→Da P T l n os r x a τ K)∧(b=false→False)|false=>(b=true→False)∧(b=false→Da P T l n os r y a τ K))
  |_,_=>False
 |.region _ ops f,a,τ,K=>match f with
  |false=>Bs r os a τ (fun τ a=>Hr P T l n r (ops.toList.map (·.dst)) ops.toList [] a (fun τ' env d=>K .normal (Eo env τ') d) τ)
  |true=>match XX ops.toList&&ops.toList.all (fun o=>C9 o||Ca o)&&LX ops.toList 0 ops.toList with
   |true=>Bs r os a τ (fun τ a=>Hm P T l n r (ops.toList.map (·.dst)) ops.toList [] a (fun τ' env d=>K .normal (Eo env τ') d) τ)
   |false=>False
 |_,_,_,_=>False
mutual
def frz(H:Hp):AV→AT→(AV→AT→Prop)→Prop
 |.d x,a,K=>K (.d x) a
 |.e0,a,K=>K (.d (.list [])) a
 |.ifc t ds q,a,K=>K (.ifc t ds q) a
 |.agg xs,a,K=>Js H xs a (fun ys c=>K (.agg ys) c)
 |.ref k g off n,a,K=>match Nat.beq k.1 0,Nat.beq k.1 1,B2 H k g with
  |true,_,true=>K (.ref k g off n) a
  |false,true,true=>(match a with|.av (.d (.list b)) c=>HI (H k).cells off n (H k).sz b∧K (.d (.list b)) c|_=>False)
  |_,_,_=>False
 |.mp k g,a,K=>match Nat.beq k.1 0,Nat.beq k.1 1,B2 H k g,(H k).e with
  |true,_,true,_=>K (.mp k g) a
  |false,true,true,.m q b=>K (.d (.map q b)) a
  |_,_,_,_=>False
 |_,_,_=>False
def Js(H:Hp):List AV→AT→(List AV→AT→Prop)→Prop
 |[],a,K=>K [] a
 |x::xs,a,K=>frz H x a (fun y c=>Js H xs c (fun ys b=>K (y::ys) b))
end
def qf(T:Nat→Option TI)(τ:St):ResultVar→(AV→Prop)→Prop
 |.tmp t,K=>K (τ.s t)
 |.cell p t,K=>match τ.s p,T t with
  |.ptr k g off,some i=>(match B2 τ.H k g,i.agg with
   |true,true=>(match Nat.ble 1 i.siz,J0 i.siz ((τ.H k).cells.drop off)with|true,some c=>K (.agg c)|_,_=>False)
   |true,false=>(match Bt (τ.H k).cells off with|some c=>K c|none=>False)
   |false,_=>False)
  |_,_=>False
def ie(T:Nat→Option TI)(τ:St):List ResultVar→(List AV→Prop)→Prop
 |[],K=>K []
 |v::vs,K=>qf T τ v (fun x=>ie T τ vs (fun xs=>K (x::xs)))
def JM(H:Hp):Nat→Nat→List Blk
 |0,_=>[]
 |n+1,i=>H (0,i)::JM H n (i+1)
def Pe(T:Nat→Option TI)(c:List ResultVar)(os:Nat)(τ:St)(a:AT)(b:AV→List Blk→Prop):Prop:=
 ie T τ c (fun xs=>Js τ.H xs a (fun ys _=>b (DM ys) (JM τ.H os 0)))
def FQ(T:Nat→Option TI)(c:List ResultVar)(os:Nat)(b:AV→List Blk→Prop)(e:Exit)(τ:St):Prop:=(e=.normal∨e=.ret)∧∃a,Pe T c os τ a b
section
variable {P:Program} {T:Nat→Option TI} {n:Nat} {C:Cx} {τ σ:St} {Q:Exit→St→Prop}
theorem Wk.refl(σ:St):Wk n C σ σ:=fun _ _ h=>h
theorem Wk.trans{σ c b:St}(h:Wk n C σ c)(k:Wk n C c b):Wk n C σ b:=fun a w d=>k a w (h a w d)
theorem R.weaken{l:Nat}{B:Base}{s s':Nat→AV}{H:Hp}{a:Act}{w:World}(h:R l n B ⟨s,H⟩ a w)(hs:∀j,s' j=s j∨s' j=.top):R l n B ⟨s',H⟩ a w:=by
 obtain⟨m,S,d,g,b,f,c⟩:=h.un
 refine⟨m,S,d,g,b,fun i=>?_,c⟩
 show RepA w S H m (l+1) (s' i) _
 rcases hs i with e|e
 ·rw[e];exact f i
 ·rw[e];exact .top _
theorem Is.mono{Φ Ψ:St→Prop}(h:Is n C Φ σ)(e:∀τ,Φ τ→Ψ τ):Is n C Ψ σ:=by
 obtain⟨γ,τ,f,a,b,c,d⟩:=h;exact⟨γ,τ,f,a,e _ b,c,d⟩
theorem BR.weak{c:Code}{QQ:Exit→St→Prop}{b:St}(h:BR P C.l n C.B c QQ b)(e:Wk n C σ b):BR P C.l n C.B c QQ σ:=fun a w d=>h a w (e a w d)
theorem T5.weak{c:Code}{QQ:Exit→St→Prop}{b:St}(h:T5 P C.l n C.B c QQ b)(e:Wk n C σ b):T5 P C.l n C.B c QQ σ:=fun a w d=>h a w (e a w d)
theorem LW.mono{c:Code}{a:Exit→St→Prop}(h:LW P n C c τ Q)(f:∀e τ,Q e τ→a e τ):LW P n C c τ a:=fun γ σ d b=>H6 (h γ σ d b) fun e g hi=>hi.mono (f e)
theorem ZM0{x y:Code}(h:LW P n C x τ (fun e τ'=>match e with|.normal=>LW P n C y τ' Q|e=>Q e τ')):LW P n C (.seq x y) τ Q:=by
 intro γ σ i g
 refine kV (H6 (h γ σ i g) fun e k hi=>?_)
 cases e with
 |normal=>
  obtain⟨j,τ',a,b,c,d,f⟩:=hi
  exact BR.weak (c j a b d) f
 |_=>exact hi
theorem ZAK{id:Nat}{c:Code}(h:LW P n C c τ (fun e τ'=>match e with|.exit i=>if i=id then Q .normal τ' else Q (.exit i) τ'|e=>Q e τ')):LW P n C (.block id c) τ Q:=by
 intro γ σ b a
 refine Zmh (H6 (h γ σ b a) fun e d hi=>?_)
 cases e with
 |exit i=>
  unfold Wx
  simp only at hi⊢
  split
  ·rename_i he;exact hi.mono fun τ' h=>by rw[Ym he]at h;exact h
  ·rename_i he;exact hi.mono fun τ' h=>by rw[Yk he]at h;exact h
 |_=>exact hi
theorem ZGR{c:Operand}{x y:Code}{b:Bool}(h:ev τ.s c=.d (.bool b))(f:b=true→LW P n C x τ Q)(g:b=false→LW P n C y τ Q):LW P n C (.cond c x y) τ Q:=by
 intro γ σ d a
 have he:ev σ.s c=.d (.bool b):=by
  rw[Lk (c:=[]) a Bh (by cases c<;>rfl),h];simp[ren]
 exact P1 he (fun e=>f e γ σ d a) (fun e=>g e γ σ d a)
theorem ZHx{c:Code}(h:LL P n C c τ Q):LW P n C (.loop c) τ Q:=by
 intro γ σ l i a w j b k cs
 obtain⟨e,d,w',f,g⟩:=h γ σ l i a w j b k cs
 exact⟨e,d,w',f,.of_steps (.one step_loop) g⟩
theorem ZAT{c:Code}(h:LW P n C c τ (fun e τ'=>match e with|.normal=>LL P n C c τ' Q|e=>Q e τ')):LL P n C c τ Q:=by
 intro γ σ A y a w z b k cs
 obtain⟨e,i,l,⟨m,j,f⟩,d⟩:=h γ σ A y a w z b (.inLoop c::k) cs
 cases e with
 |normal=>
  obtain⟨D,τ',p,s,t,u,v⟩:=j
  obtain⟨r,q,B,o,g⟩:=t D p s u i l (v _ _ f) b k cs
  exact⟨r,q,B,o,.of_steps (Steps.trans d (.one step_inLoop)) g⟩
 |exit id=>exact⟨_,i,l,⟨m,j,f⟩,.pass (x:=.inLoop c) rfl (fun _ _=>.inl (by simp)) d⟩
 |goto id=>exact⟨_,i,l,⟨m,j,f⟩,.pass (x:=.inLoop c) rfl (fun _ _=>.inl (by simp)) d⟩
 |ret=>exact⟨_,i,l,⟨m,j,f⟩,.pass (x:=.inLoop c) rfl (fun _ _=>.inl (by simp)) d⟩
 |panic ch=>exact⟨_,i,l,⟨m,j,f⟩,.pass (x:=.inLoop c) rfl (fun _ _=>.inl (by simp)) d⟩
 |outgrown=>exact⟨_,i,l,⟨m,j,f⟩,.pass (x:=.inLoop c) rfl (fun _ _=>.inl (by simp)) d⟩
theorem Is.of{γ:Af→Nat}{Φ:St→Prop}(b:C.G γ)(a:RG (C.r γ) C.l C.outs [] τ σ)(h:Φ τ):Is n C Φ σ:=⟨γ,τ,σ,b,h,a,Wk.refl σ⟩
theorem Cy{a b:Af}:BK a b=true↔a=b:=by
 obtain⟨a1,c⟩:=a
 obtain⟨d,e⟩:=b
 simp[BK]
theorem z5{H:Hp}{s:Nat→AV}:∀(ls:List Nat) (j:Nat),AG (M8 H s ls) j=qk H (s j)∨AG (M8 H s ls) j=.top
 |[],j=>.inr rfl
 |i::r,j=>by
  simp only[M8,AG]
  split
  ·rename_i h;rw[Yd h];exact .inl rfl
  ·exact z5 r j
def rebase(γ:Af→Nat)(H:Hp):Af→Nat:=fun k=>γ k+(H k).g
mutual
theorem Zt0{γ:Af→Nat}{H:Hp}:∀{x y:AV},Ew H x=some y→ren (C.r (rebase γ H)) y=ren (C.r γ) x
 |.ref k g off m,y,h=>by
  simp only[Ew]at h
  split at h
  ·rename_i hl;cases h;obtain⟨b,_⟩:=EE hl;subst b;simp[ren,Cx.r,rebase]
  ·cases h
 |.ptr k g off,y,h=>by
  simp only[Ew]at h
  split at h
  ·rename_i hl;cases h;obtain⟨b,_⟩:=EE hl;subst b;simp[ren,Cx.r,rebase]
  ·cases h
 |.mp k g,y,h=>by
  simp only[Ew]at h
  split at h
  ·rename_i hl;cases h;obtain⟨b,_⟩:=EE hl;subst b;simp[ren,Cx.r,rebase]
  ·cases h
 |.fn f xs ys,y,h=>by
  simp only[Ew]at h
  split at h
  ·rename_i xs' i b e
   cases h
   have c:=M3 (γ:=γ) b
   have d:=M3 (γ:=γ) e
   cases f<;>simp only[ren,c,d]<;>rfl
  ·cases h
 |.agg xs,y,h=>by
  simp only[Ew]at h
  split at h
  ·rename_i xs' b;cases h;simp only[ren,M3 (γ:=γ) b]
  ·cases h
 |.tup xs,y,h=>by
  simp only[Ew]at h
  split at h
  ·rename_i xs' b;cases h;simp only[ren,M3 (γ:=γ) b]
  ·cases h
 |.top,y,h=>by simp only[Ew]at h;cases h;simp[ren]
 |.d x,y,h=>by simp only[Ew]at h;cases h;simp[ren]
 |.e0,y,h=>by simp only[Ew]at h;cases h;simp[ren]
 |.p x,y,h=>by simp only[Ew]at h;cases h;simp[ren]
 |.iptr cs off,y,h=>by simp only[Ew]at h;cases h;simp[ren]
 |.ifc t ds a,y,h=>by simp only[Ew]at h;cases h;simp[ren]
theorem M3{γ:Af→Nat}{H:Hp}:∀{xs ys:List AV},IA H xs=some ys→As (C.r (rebase γ H)) ys=As (C.r γ) xs
 |[],ys,h=>by simp only[IA]at h;cases h;simp[As]
 |x::xs,ys,h=>by
  simp only[IA]at h
  split at h
  ·rename_i x' xs' a b;cases h;simp only[As,Zt0 (γ:=γ) a,M3 (γ:=γ) b]
  ·cases h
end
def Sr(C:Cx)(γ:Af→Nat)(H:Hp)(hs:List (Af×Blk)):Prop:=
 (∀k,(AL hs k).g=0)∧∀k,(AL hs k).live=true→(H k).live=true∧(AL hs k).e=(H k).e∧(AL hs k).sz=(H k).sz∧As (C.r (rebase γ H)) (AL hs k).cells=As (C.r γ) (H k).cells
theorem JC{r:Ren}{cs:List AV}(h:Il cs):As r cs=cs:=KZ (Ys.2 h)
theorem Sr.cons{γ:Af→Nat}{H:Hp}{hs:List (Af×Blk)}(h:Sr C γ H hs){k:Af}{cs:List AV}(hl:(H k).live=true)(b:As (C.r (rebase γ H)) cs=As (C.r γ) (H k).cells):Sr C γ H ((k,⟨0,true,(H k).e,(H k).sz,cs⟩)::hs):=by
 refine⟨fun q=>?_,fun q a=>?_⟩
 ·simp only[AL]
  split
  ·rfl
  ·exact h.1 q
 ·simp only[AL]at a⊢
  split at a
  ·rename_i he
   have he:=Cy.1 he
   grind
  ·exact h.2 q a
theorem VI{γ:Af→Nat}{H:Hp}:∀(ks:List (Af×Bool)) {K:List (Af×Blk)→Prop},Nk H ks K→∃hs,K hs∧Sr C γ H hs
 |[],K,h=>⟨[],h,fun k=>rfl,fun k d=>by simp[AL,Fj]at d⟩
 |(k,fl)::r,K,h=>by
  simp only[Nk]at h
  split at h
  ·exact VI r h
  ·rename_i hl
   split at h
   ·obtain⟨hs,a,b⟩:=VI (γ:=γ) r h.2
    exact⟨_,a,b.cons hl (by rw[JC h.1,JC h.1])⟩
   ·split at h
    ·rename_i cs c
     obtain⟨hs,a,b⟩:=VI (γ:=γ) r h
     exact⟨_,a,b.cons hl (M3 c)⟩
    grind
theorem v8{H:Hp}:∀{fx:List Nat},gz H fx=true→∀i∈fx,(H (0,i)).g=0
 |i::r,h,j,a=>by
  simp only[gz,Yb]at h
  rcases Yx.1 a with rfl|a
  ·exact Yd h.1
  ·exact v8 h.2 j a
theorem ll{x:AV}(h:UV x=true):x=.e0:=by cases x<;>first|rfl|cases h
theorem ke(c:CxOk C){Φ:St→Prop}{γ:Af→Nat}:∀(ad:List (Nat×Nat×TypeId×Nat)) (τ σ:St),Qw ad τ Φ→RG (C.r γ) C.l C.outs [] τ σ→∃τ' f,Φ τ'∧RG (C.r γ) C.l C.outs [] τ' f∧Wk n C σ f
 |[],τ,σ,h,b=>⟨τ,σ,h,b,Wk.refl σ⟩
 |(j,d,e,sz)::r,τ,σ,h,b=>by
  simp only[Qw]at h
  split at h
  ·rename_i he hl
   have k:σ.s j=.e0:=by rw[(b.s j).1 Bh,ll he];simp[ren]
   have o:=b.put (e:=j) (ch:=[]) rfl rfl (v:=.ref (1,d) ((τ.H (1,d)).g+1) 0 0) (y:=.ref (C.l+1,d) ((σ.H (C.l+1,d)).g+1) 0 0) (fun _=>by rw[b.g];simp only[ren];rw[show(C.r γ).κ (1,d)=(C.l+1,d)from c.own d,YK]) (fun g=>absurd Bh g)
   have a:=RG.updH (c.ren γ) o (1,d) ⟨(τ.H (1,d)).g+1,true,e,sz,[]⟩ rfl (.inl rfl)
   have m:AW (C.r γ) (1,d) ⟨(τ.H (1,d)).g+1,true,e,sz,[]⟩=⟨(σ.H (C.l+1,d)).g+1,true,e,sz,[]⟩:=by
    simp only[AW,b.g,As,YK]
   rw[m,show(C.r γ).κ (1,d)=(C.l+1,d)from c.own d]at a
   have p:RG (C.r γ) C.l C.outs [] ⟨upd τ.s j (.ref (1,d) ((τ.H (1,d)).g+1) 0 0),updH τ.H (1,d) ⟨(τ.H (1,d)).g+1,true,e,sz,[]⟩⟩ ⟨upd σ.s j (.ref (C.l+1,d) ((σ.H (C.l+1,d)).g+1) 0 0),updH σ.H (C.l+1,d) ⟨(σ.H (C.l+1,d)).g+1,true,e,sz,[]⟩⟩:=
    ⟨fun i=>⟨fun _=>(a.s i).1 (by rw[lm];split<;>exact Bh),fun g=>absurd Bh g⟩,a.h,a.g,a.go,a.k,a.o⟩
   obtain⟨τ',f,t,u,x⟩:=ke c r _ _ h p
   refine⟨τ',f,t,u,Wk.trans (fun l w q=>?_) x⟩
   obtain⟨s,H⟩:=σ
   exact R.adopt (e:=e) (sz:=sz) q (C.l+1,d) rfl _ (YQ _) k
  ·grind
  ·exact ke c r τ σ h b
theorem kR{γ:Af→Nat}:∀(ze:List Nat) (τ σ:St),RG (C.r γ) C.l C.outs [] τ σ→∃f,RG (C.r γ) C.l C.outs [] (Og ze τ) f∧Wk n C σ f
 |[],τ,σ,b=>⟨σ,b,Wk.refl σ⟩
 |j::r,τ,σ,b=>by
  simp only[Og]
  split
  ·rename_i he
   have d:σ.s j=.e0:=by rw[(b.s j).1 Bh,ll he];simp[ren]
   have a:=b.put (e:=j) (ch:=[]) rfl rfl (v:=.d (.list [])) (y:=.d (.list [])) (fun _=>by simp[ren]) (fun c=>absurd Bh c)
   have o:RG (C.r γ) C.l C.outs [] ⟨upd τ.s j (.d (.list [])),τ.H⟩ ⟨upd σ.s j (.d (.list [])),σ.H⟩:=
    ⟨fun i=>⟨fun _=>(a.s i).1 (by rw[lm];split<;>exact Bh),fun c=>absurd Bh c⟩,a.h,a.g,a.go,a.k,a.o⟩
   obtain⟨f,t,u⟩:=kR r _ _ o
   refine⟨f,t,Wk.trans (fun l w q=>?_) u⟩
   obtain⟨s,H⟩:=σ
   obtain⟨m,S,p,c,g,k,h⟩:=q.un
   refine⟨m,S,p,c,g,fun i=>?_,h⟩
   show RepA w S H m (C.l+1) (upd s j (.d (.list [])) i) _
   unfold upd
   by_cases hi:i=j
   ·subst hi
    rw[Ym rfl]
    have:=k i
    simp only at d
    rw[d]at this
    exact this.e0_d
   ·rw[Yk hi];exact k i
  ·exact kR r τ σ b
theorem H5(t:CxOk C){Φ:St→Prop}{γ:Af→Nat}{f:Lf}(h:FX C.fx f τ Φ)(F:C.G γ)(D:RG (C.r γ) C.l C.outs [] τ σ):Is n C Φ σ:=by
 obtain⟨K,o,r⟩:=kR (n:=n) f.ze τ σ D
 obtain⟨a,g,l,b,m⟩:=ke (n:=n) t f.ad (Og f.ze τ) K h o
 replace m:=Wk.trans r m
 split at l
 case h_2=>exact l.elim
 rename_i p
 obtain⟨hs,J,c⟩:=VI (C:=C) (γ:=γ) f.ks l
 refine⟨rebase γ a.H,_,⟨fun j=>ren (C.r (rebase γ a.H)) (AG (M8 a.H a.s f.ls) j),g.H⟩,t.G γ _ (fun i hi=>by unfold rebase;rw[v8 p i hi];rfl) F,J,⟨fun j=>⟨fun _=>rfl,fun G=>absurd Bh G⟩,fun k q=>?_,fun d=>?_,fun i hi=>?_,fun k q=>?_,b.o⟩,m.trans fun u w E=>?_⟩
 ·obtain⟨x,z,A,B⟩:=c.2 k q
  have y:=c.1 k
  show g.H (C.κ k)=_
  have:=b.h k x
  rw[show(C.r γ).κ k=C.κ k from rfl]at this
  rw[this]
  simp only[AW]
  show _=Blk.mk (rebase γ a.H k+(AL hs k).g) true (AL hs k).e (AL hs k).sz (As (C.r (rebase γ a.H)) (AL hs k).cells)
  rw[y,z,A,B]
  rfl
 ·show(g.H (C.l+1,d)).g=rebase γ a.H (1,d)+(AL hs (1,d)).g
  have e0:(AL hs (1,d)).g=0:=c.1 _
  rw[e0,b.g]
  rfl
 ·show(g.H (C.κ (0,i))).g=rebase γ a.H (0,i)+(AL hs (0,i)).g
  have e0:(AL hs (0,i)).g=0:=c.1 _
  rw[e0]
  exact b.go i hi
 ·exact b.k k (c.2 k q).1
 ·obtain⟨s,H⟩:=g
  refine R.weaken E fun j=>?_
  rcases z5 (H:=a.H) (s:=a.s) f.ls j with e|e
  ·simp only[e]
   unfold qk
   split
   ·rename_i v I
    left
    rw[Zt0 (γ:=γ) I]
    exact((b.s j).1 Bh).symm
   ·right;simp[ren]
  ·right;simp only[e];simp[ren]
end
end Go.Eng
