import Derived.Test.YtifefgdogdecnaaGreatDoorEb05
import Derived.Test.YtifefgdogdecnaaGreatDoorEb04
import Derived.Test.YtifefgdogdecnaaGreatDoorEb00
namespace Go.Eng
set_option linter.all false
open Go Go.RowKit
def KA(r:Ren)(l n outs:Nat)(B:Base)(env:AR)(K:St→AT→Prop)(σ:St):Prop:=∃b,GC r l outs env K b∧∀a w,R l n B σ a w→R l n B b a w
section
variable {P:Program} {T:Nat→Option TI} {r:Ren} {l n outs:Nat} {B:Base} {env:AR} {τ σ:St} {a:AT} {o:Oper} {K:St→AT→Prop}
theorem KA.of(h:GC r l outs env K σ):KA r l n outs B env K σ:=⟨σ,h,fun _ _ h=>h⟩
theorem I1{d:Nat}{e:TypeId}{sz:Nat}{cells:List AV}{x:Nat→AV}(h:Cp l n d e sz cells x (GC r l outs env K) σ):Cp l n d e sz cells x (KA r l n outs B env K) σ:=⟨h.1,.of h.2⟩
theorem TM(i:AL P T)(h:RG r l outs env τ σ){d:Nat}(k:o.dst=some d)(j:Bm env [] o.op=true)(m:fresh d env=true)(p:tV T τ.H o.op (ev τ.s) none a (CY n d K τ))
  (c:AX P l n o (KA r l n outs B ((d,[])::env) K) σ=AI P σ.H o.op (ev σ.s) (Bv n o.dst (KA r l n outs B ((d,[])::env) K) σ)):AX P l n o (KA r l n outs B ((d,[])::env) K) σ:=by
 rw[c,k]
 refine K4 (fun y hy=>?_) (U2 i h AJ (fun b e=>by cases e) j p)
 obtain⟨f,g⟩:=KP h m hy
 exact⟨f,.of g⟩
theorem SR{x:AV}{d:D}(h:DI x=some d):ren r x=x:=by
 cases x<;>simp only[DI]at h<;>first|(simp[ren];done)|cases h
theorem SZ:∀{xs:List AV} {ds:List D},B0 xs=some ds→Ae r xs=xs
 |[],_,_=>by simp[Ae]
 |x::xs,ds,h=>by
  simp only[B0]at h
  split at h
  ·rename_i d a b c
   rw[Ae,SR b,SZ c]
  ·cases h
theorem fJ{x:AV}{e:List D}(h:H9 x=some e):ren r x=x:=by
 cases x with
 |agg xs=>simp only[H9]at h;rw[ren,SZ h]
 |_=>
  simp only[H9]at h
  split at h
  ·rename_i d a;exact SR a
  ·cases h
theorem KT{sz:Nat}:∀{ps:List (Nat×AV)} {i:Nat} {a:List (List D)},Dm sz i ps=some a→(ps.map fun p=>(p.1,ren r p.2))=ps
 |[],_,_,_=>rfl
 |(j,v)::ps,i,a,h=>by
  simp only[Dm]at h
  split at h
  ·rename_i e b c d
   simp only[Y6,fJ c,KT d]
  ·cases h
theorem OU(h:RG r l outs env τ σ){sz c:Nat}{y:AV}{news:List AV}(i:LV τ.H sz y=true)(hs:Ea sz (cellsOf τ.H y) y c news):FU σ.H sz (ren r y)=some (c,Ae r news)∧(Ae r news).all AV.one=true:=by
 obtain⟨p,a⟩:=hs
 have b:(Ae r news).all AV.one=true:=by
  rw[Dc,List.all_map]
  refine Yo.2 fun x hx=>?_
  have:=Yo.1 p x hx
  cases x<;>first|(simp[Function.comp,ren,AV.one];done)|cases this
 refine⟨?_,b⟩
 split at a
 ·obtain⟨rfl,rfl⟩:=a;simp[ren,FU,Ae]
 ·rename_i s
  obtain⟨d,rfl,rfl⟩:=a
  simp only[ren,FU]
  rw[Yj (Yo.2 fun e he=>by simpa using d e he),Fv]
 ·rename_i k g off m
  obtain⟨rfl,d,rfl⟩:=a
  simp only[LV,Yc]at i
  obtain⟨hl,q⟩:=i
  obtain⟨j,n,t,o,f⟩:=h.h.at hl
  have e:cellsOf τ.H (.ref k g off c)=(τ.H k).cells:=by simp[cellsOf,hl]
  rw[e]at d⊢
  simp only[ren,FU]
  rw[Yj ⟨j,n,by rw[o];exact Ya q,by rw[f,Bx];exact d⟩,f,CL,Da]
 ·exact a.elim
theorem de(E:RenOk r l outs)(F:AL P T)(h:RG r l outs env τ σ){d:Nat}{t:TypeId}{x y:AV}(X:fresh d env=true)(b:PK T r n d t x y a K τ):
  H4 P l n d t (ren r x) (ren r y) (KA r l n outs B ((d,[])::env) K) σ:=by
 unfold PK at b
 split at b
 case h_2=>exact b.elim
 rename_i i hi
 split at b
 case h_2=>exact b.elim
 rename_i e sz he
 split at b
 case h_2=>exact b.elim
 rename_i j L J m
 have J:=Yd J
 unfold H4
 rw[(F _ _ hi).elm _ he]
 split at b
 ·rename_i byt z c news q W Z
  obtain⟨f,U,o⟩:=b
  obtain⟨O,Q⟩:=OU h m f
  obtain⟨M,N⟩:=(F _ _ L).byt _ W
  have G:c*P.bytesOf e≤140737488355328:=Y2 (Nat.mul_le_mul_left _ M) U
  refine⟨by omega,N,by rw[(F _ _ L).zer _ Z];rfl,?_⟩
  simp only[O,ren]
  refine⟨Q,G,fun hc=>?_,fun hc=>?_⟩
  ·subst hc
   have C:d<n:=by
    unfold FO at o
    split at o
    ·rename_i C;have:=Yd C;omega
    ·exact o.elim
   have hn:=Hi (x':=fun g=>.ref (l+1,d) g 0 0) E h X (fun g=>by simp[ren,E.own]) o
   have I:Ae r news=[]:=by
    have hl:news=[]:=by
     obtain⟨_,f⟩:=f
     split at f
     ·exact f.2
     ·obtain⟨_,A,p⟩:=f
      have:‹List (List D)›=[]:=YZ A.symm
      rw[this]at p;simpa using p
     ·obtain⟨A,_,p⟩:=f;rw[←A]at p;simpa using p
     ·exact f.elim
    rw[hl];simp[Ae]
   rw[I]at hn
   refine⟨C,_,hn.2,fun act w hR=>?_⟩
   have:=R.adopt (e:=e) (sz:=sz) hR (l+1,d) rfl ((σ.H (l+1,d)).g+1) (Y9 _) (d:=d) (by simp[upd])
   have S:upd (upd σ.s d .e0) d (.ref (l+1,d) ((σ.H (l+1,d)).g+1) 0 0)=upd σ.s d (.ref (l+1,d) ((σ.H (l+1,d)).g+1) 0 0):=by funext j;unfold upd;split<;>rfl
   simp only[S]at this
   exact this
  ·exact I1 (Hi (x':=fun g=>.ref (l+1,d) g 0 c) E h X (fun g=>by simp[ren,E.own]) o)
 ·rename_i byt z k q off c' c news C' n' q' W Z
  split at b
  case h_2=>exact b.elim
  rename_i hl u s C
  obtain⟨f,⟨U,o,A,p⟩,V⟩:=b
  obtain⟨V,Y,H⟩:=Lm E h (CA hl).2 V
  obtain⟨O,Q⟩:=OU h m f
  obtain⟨M,N⟩:=(F _ _ L).byt _ W
  obtain⟨g1,g2,g3,g4,g5⟩:=h.h.at hl
  have C:=Yd C
  have u:=Ya u
  have s:=gf s
  refine⟨by omega,N,by rw[(F _ _ L).zer _ Z];rfl,?_⟩
  simp only[O,ren]
  refine⟨Q,g1,g2,by rw[g4,u],by rw[g3,s],by rw[g5,Bx];exact U,by rw[A];exact Y2 (Nat.mul_le_mul_left _ M) p,H,by omega,.of ⟨_,_,V,?_⟩⟩
  have h7:=h.put0 (v:=.ref k (q+1) 0 n') (y:=.ref (r.κ k) (r.γ k+q+1) 0 (c'+c)) X (by simp[ren,A,Yu])
  have h8:=RG.updH E h7 k ⟨q+1,true,e,sz,C'⟩ rfl Y
  have S:An r k ⟨q+1,true,e,sz,C'⟩=⟨r.γ k+q+1,true,e,sz,(σ.H (r.κ k)).cells.drop (off*sz)++Ae r news⟩:=by
   simp only[An,g5,CL,←DZ,o,Yu]
  rw[S]at h8
  exact h8
 ·exact b.elim
theorem Sm(y:RenOk r l outs)(h:RG r l outs env τ σ){t:TypeId}{i:TI}(hi:TIok P t i){x:AV}{vs:List AV}(c:I7 r n i x (some vs) a K τ):
  ∃k g off,ren r x=.ptr k g off∧g=(σ.H k).g∧(σ.H k).live=true∧(Ae r vs).length=P.cellsOf t∧Ae r vs≠[]∧off+(Ae r vs).length≤(σ.H k).cells.length∧(k.1=l+1∨(Ae r vs).all (AV.low k.1)=true)∧
   GC r l outs env K ⟨σ.s,updH σ.H k {σ.H k with cells:=(σ.H k).cells.take off++Ae r vs++(σ.H k).cells.drop (off+(Ae r vs).length) }⟩:=by
 unfold I7 at c
 split at c
 case h_2=>exact c.elim
 rename_i k q off E heq
 cases heq
 split at c
 case h_2=>exact c.elim
 rename_i hl d m
 have d:=Ya d
 have m:=Yd m
 obtain⟨s,u,B,C,v⟩:=h.h.at hl
 obtain⟨F,G⟩:=CA hl
 have fin:∀f z,G4 (τ.H k).cells off vs f→Gc r k vs (K ⟨τ.s,updH τ.H k ⟨q,true,(τ.H k).e,(τ.H k).sz,f⟩⟩ z)→_:=fun f z hs o=>by
  obtain⟨s1,s2⟩:=hs
  obtain⟨o,p,j⟩:=Lm y h (CA hl).2 o
  refine(⟨r.κ k,r.γ k+q,off,by simp[ren],s,u,by rw[Bx,hi.siz,d],by intro e;have:=congrArg List.length e;rw[Bx,Fl]at this;omega,by rw[v,Bx,Bx];exact s1,?_,_,_,o,?_⟩:
   ∃k' g b,ren r (.ptr k q off)=.ptr k' g b∧g=(σ.H k').g∧(σ.H k').live=true∧(Ae r vs).length=P.cellsOf t∧Ae r vs≠[]∧b+(Ae r vs).length≤(σ.H k').cells.length∧(k'.1=l+1∨(Ae r vs).all (AV.low k'.1)=true)∧
   GC r l outs env K ⟨σ.s,updH σ.H k' {σ.H k' with cells:=(σ.H k').cells.take b++Ae r vs++(σ.H k').cells.drop (b+(Ae r vs).length) }⟩)
  ·exact j
  ·have w:=RG.updH y h k ⟨q,true,(τ.H k).e,(τ.H k).sz,f⟩ rfl p
   have A:An r k ⟨q,true,(τ.H k).e,(τ.H k).sz,f⟩={σ.H (r.κ k)with cells:=(σ.H (r.κ k)).cells.take off++Ae r vs++(σ.H (r.κ k)).cells.drop (off+(Ae r vs).length) }:=by
    simp only[An,v,Bx,Da,CL,←DZ,s2,s,B,C,←u]
   rw[A]at w
   exact w
 split at c
 ·split at c
  ·rename_i D;exact fin _ _ ⟨Yd D,rfl⟩ c
  ·exact c.elim
 ·exact fin _ _ c.1 c.2
 ·exact c.elim
theorem Tx(L:RenOk r l outs)(D:AL P T)(h:RG r l outs env τ σ)(v:Bm env [] o.op=true)(H:EE env o.dst=true)(s:GR P T l n r o a K τ):AX P l n o (KA r l n outs B (CU env o.dst) K) σ:=by
 obtain⟨dst,op,ty,ps,af,gd⟩:=o
 have ops:∀{op:Op},Bm env [] op=true→(∀c x y,op≠.pick c x y)→∀x∈op.operands,ev σ.s x=ren r (ev τ.s x):=fun {op} v hne=>by
  unfold Bm at v
  split at v
  ·exact absurd rfl (hne _ _ _)
  ·exact DA h AJ v
 unfold GR at s
 simp only at v H s⊢
 split at s
 ·rename_i t
  split at s
  case h_2=>exact s.elim
  rename_i d i hi
  split at s
  case h_2=>exact s.elim
  rename_i z zs A
  have M:=Gq (r:=r) ((D _ _ hi).flt _ A)
  have N:=Hi (x':=fun g=>.ptr (l+1,d) g 0) L h H (fun g=>by simp[ren,L.own]) s
  rw[M]at N
  simp only[AX,(D _ _ hi).zer _ A]
  exact⟨by simp,I1 N⟩
 ·rename_i t x
  split at s
  case h_2=>exact s.elim
  rename_i d z zs A O
  have hx:=ops v (fun _ _ _ e=>by cases e) x (by simp[Op.operands])
  have N:=Hi (x':=fun g=>.ptr (l+1,d) g 0) L h H (fun g=>by simp[ren,L.own]) s
  have E:=IT (r:=r) A (I4 O)
  simp only[AX,hx,E]
  refine⟨eA (by simp),?_⟩
  rw[Bx]
  exact I1 N
 ·rename_i t p x
  split at s
  case h_2=>exact s.elim
  rename_i i hi O
  have hx:=ops v (fun _ _ _ e=>by cases e) x (by simp[Op.operands])
  have hpp:=ops v (fun _ _ _ e=>by cases e) p (by simp[Op.operands])
  cases A:BL (ev τ.s x)with
  |none=>rw[A]at s;unfold I7 at s;split at s<;>first|exact s.elim|(rename_i e;cases e)
  |some vs=>
   rw[A]at s
   have E:=IT (r:=r) A (I4 O)
   obtain⟨k,g,off,R,Y,Z,e4,e5,e6,e7,e8⟩:=Sm L h (D _ _ hi) s
   simp only[AX,hpp,hx,E,R]
   exact⟨Y,Z,e4,e5,e6,e7,.of e8⟩
 ·rename_i t len parts
  split at s
  case h_2=>exact s.elim
  rename_i d i hi
  split at s
  case h_2=>exact s.elim
  rename_i e sz he
  simp only[AX,(D _ _ hi).elm _ he]
  split at s
  ·rename_i u
   have u:=Yd u
   refine⟨by omega,?_⟩
   split at s
   ·rename_i hps
    obtain⟨I,G⟩:=KP h H (y:=.e0) ⟨.e0,a,by simp[ren],s⟩
    exact⟨by rw[←Fi,hps];rfl,I,.of G⟩
   ·exact s.elim
  ·rename_i len' u
   have u:=Yd u
   refine⟨by omega,?_⟩
   split at s
   case h_2=>exact s.elim
   rename_i j V W
   split at s
   case h_2=>exact s.elim
   rename_i z A
   split at s
   case h_2=>exact s.elim
   rename_i es F J
   split at s
   case h_2=>exact s.elim
   rename_i hes
   have R:(parts.toList.map fun p=>(p.1,ev σ.s p.2))=parts.toList.map fun p=>(p.1,ev τ.s p.2):=by
    have:(parts.toList.map fun p=>(p.1,ev σ.s p.2))=(parts.toList.map fun p=>(p.1,ev τ.s p.2)).map fun p=>(p.1,ren r p.2):=by
     rw[Eo]
     refine Y1 fun p s=>?_
     simp only[Function.comp]
     rw[ops v (fun _ _ _ e=>by cases e) p.2 (by simp only[Op.operands,Iv,YO];exact⟨p,s,rfl⟩)]
    rw[this,KT J]
   rw[R]
   simp only[(D _ _ V).zer _ A,J]
   obtain⟨I,G⟩:=KP h H (y:=.d (.list es)) ⟨.d (.list es),a,by simp[ren],s⟩
   exact⟨Yd W,Ya F,Ya hes,I,.of G⟩
  ·exact s.elim
 ·rename_i t x y
  split at s
  case h_2=>exact s.elim
  rename_i d i k1 c k2 c' m C b hi hx0 hy0
  have hx:=ops v (fun _ _ _ e=>by cases e) x (by simp[Op.operands])
  have hy:=ops v (fun _ _ _ e=>by cases e) y (by simp[Op.operands])
  rw[hx0]at hx
  rw[hy0]at hy
  split at s
  case h_2=>exact s.elim
  rename_i e sz he
  split at s
  case h_2=>exact s.elim
  rename_i j V u
  split at s
  case h_2=>exact s.elim
  rename_i z byt A S
  split at s
  case h_2=>exact s.elim
  rename_i F
  obtain⟨⟨m1,m2,m3,m4⟩,s⟩:=s
  have F:=Ya F
  have u:=Yd u
  have hb:=(D _ _ V).byt _ S
  have hfz:=(D _ _ V).flt _ A
  have U:C.all AV.flat=true:=by
   subst m4
   refine Yo.2 fun q hq=>?_
   obtain⟨z',E,X⟩:=Ka.1 hq
   rw[(Nn.1 E).2]at X
   exact Yo.1 hfz q X
  have M:=Gq (r:=r) U
  have N:=Hi (x':=fun g=>.ref (l+1,d) g 0 m) L h H (fun g=>by simp[ren,L.own]) s
  rw[M]at N
  simp only[AX,(D _ _ hi).elm _ he,hx,hy,ren,(D _ _ V).zer _ A]
  subst m1
  have hbb:(P.bytesOf e:Int)*c'≤(byt:Int)*c':=Q8 (by omega) (by omega)
  refine⟨by omega,m2,by omega,hb.2,by omega,F,?_⟩
  simp only[G6,m4]
  exact I1 N
 ·rename_i c
  split at s
  ·rename_i w
   split at s
   case h_2=>exact s.elim
   rename_i d x y t t' ha ht
   split at s
   case h_2=>exact s.elim
   rename_i Q
   have Q:=Ya Q
   subst Q
   have G:c.argTypes=#[t,t]:=BO (by simpa using ht)
   have hx:=ops v (fun _ _ _ e=>by cases e) x (by simp only[Op.operands,Call.operands,Iu];exact .inr (by rw[←M5,ha];simp))
   have hy:=ops v (fun _ _ _ e=>by cases e) y (by simp only[Op.operands,Call.operands,Iu];exact .inr (by rw[←M5,ha];simp))
   simp only[AX,w,ha,ht]
   refine⟨by rw[G];rfl,?_⟩
   rw[hx,hy]
   exact de L D h H s
  ·rename_i hna
   split at s
   case h_2=>exact s.elim
   rename_i d
   unfold pV at s
   simp only at s
   split at s
   ·rename_i f w
    obtain⟨i,first,caps,x,a',R,Y,Z⟩:=Ox h AJ (fun b e=>by cases e) w v s
    simp only[AX,w,R]
    refine Y.mono fun y H' ⟨I,G⟩=>?_
    subst I;subst G
    obtain⟨I,G⟩:=KP h H (y:=ren r x) ⟨x,a',rfl,Z⟩
    exact⟨I,.of G⟩
   ·rename_i hnv
    refine TM (o:=⟨some d,.call c,ty,ps,af,gd⟩) D h rfl v H s ?_
    simp only[AX]
 ·rename_i I G h3 h4 h5 h6
  split at s
  case h_2=>exact s.elim
  rename_i d
  have hp':tV T τ.H op (ev τ.s) none a (CY n d K τ):=by
   unfold pV at s
   split at s
   ·exact absurd rfl (h6 _)
   ·exact absurd rfl (h4 _ _ _)
   ·exact s
  refine TM (o:=⟨some d,op,ty,ps,af,gd⟩) D h rfl v H hp' ?_
  simp only[AX]
theorem TU{d:Option Nat}{v y:AV}{c:Hp}(f:EE env d=true){τ':St}(h:RG r l outs env ⟨τ.s,τ'.H⟩ ⟨σ.s,c⟩)(hy:y=ren r v)(b:L9 n K τ.s τ'.H v a d):
  Bv n d (KA r l n outs B (CU env d) K) ⟨σ.s,c⟩ y:=by
 cases d with
 |none=>exact .of ⟨_,_,b,h⟩
 |some d=>
  simp only[L9]at b
  split at b
  ·rename_i e;exact⟨Yd e,.of ⟨_,_,b,h.put0 f hy⟩⟩
  ·exact b.elim
theorem OD(Q:RenOk r l outs)(A:AL P T)(h:RG r l outs env τ σ)(s:Bm env [] o.op=true)(hf:EE env o.dst=true)(d:F4 P T l n r o a K τ):Bs P l n B o (KA r l n outs B (CU env o.dst) K) σ:=by
 have ops:∀{op:Op},Bm env [] op=true→(∀c x y,op≠.pick c x y)→∀x∈op.operands,ev σ.s x=ren r (ev τ.s x):=fun {op} s hne=>by
  unfold Bm at s
  split at s
  ·exact absurd rfl (hne _ _ _)
  ·exact DA h AJ s
 unfold F4 at d
 split at d
 case h_2=>exact Gs (Tx Q A h s hf d)
 rename_i c ho
 split at d
 ·rename_i f
  split at d
  case h_2=>exact d.elim
  rename_i x y t t' ha ht
  have u:o.op=.call ⟨.builtin .copy,#[x,y],#[t,t']⟩:=by
   rw[ho]
   have C:c.args=#[x,y]:=BO (by simpa using ha)
   have O:c.argTypes=#[t,t']:=BO (by simpa using ht)
   cases c;simp only at f C O;subst f;subst C;subst O;rfl
  rw[u]at s
  have hx:=ops s (fun _ _ _ e=>by cases e) x (by simp[Op.operands,Call.operands])
  have hy:=ops s (fun _ _ _ e=>by cases e) y (by simp[Op.operands,Call.operands])
  unfold WY at d
  split at d
  case h_2=>exact d.elim
  rename_i i i' hi hi'
  split at d
  case h_2=>exact d.elim
  rename_i e sz e' sz' he he'
  split at d
  case h_2=>exact d.elim
  rename_i j q1 q2 V w Y
  split at d
  case h_2=>exact d.elim
  rename_i z k q off cn cnt news N b Z J
  split at d
  case h_2=>exact d.elim
  rename_i hl m
  obtain⟨h1,h2,h3,H⟩:=d
  obtain⟨H,I,p⟩:=Lm Q h (CA hl).2 H
  have q1:=Ya q1
  have q2:=Ya q2
  subst q1;subst q2
  have m:=Ya m
  have w:=Yd w
  obtain⟨D,E,S,F,G⟩:=h.h.at hl
  obtain⟨C,O⟩:=OU h Y h1
  rw[J]at hx
  obtain⟨s1,s2⟩:=h3
  obtain⟨ss,M⟩:=σ
  refine dR (k:=r.κ k) (g:=r.γ k+q) (off:=off) (cn:=cn) (cnt:=cnt) (news:=Ae r news) u (by rw[hx];simp[ren]) ((A _ _ hi).elm _ he) ((A _ _ hi').elm _ he') (by rw[(A _ _ V).zer _ Z];rfl) (by omega) D E (by rw[F,m]) (by rw[hy];exact C) h2
   (by rw[G,Bx,Bx];exact s1) p ?_
  have U:=RG.updH Q h k ⟨q,true,(τ.H k).e,(τ.H k).sz,N⟩ rfl I
  have R:An r k ⟨q,true,(τ.H k).e,(τ.H k).sz,N⟩={M (r.κ k)with cells:=(M (r.κ k)).cells.take (off*sz)++Ae r news++(M (r.κ k)).cells.drop (off*sz+(Ae r news).length) }:=by
   simp only at D E S F G
   simp only[An,G,Bx,Da,CL,←DZ,s2,D,S,F,←E]
  simp only at R
  rw[R]at U
  refine TU (v:=.d (.int .i64 cnt)) (a:=b) (τ':=⟨τ.s,updH τ.H k ⟨q,true,(τ.H k).e,(τ.H k).sz,N⟩⟩) hf U (by simp[ren]) H
 ·rename_i f
  split at d
  case h_2=>exact d.elim
  rename_i x t ha ht hd
  have u:o.op=.call ⟨.builtin .clear,#[x],#[t]⟩:=by
   rw[ho]
   have C:c.args=#[x]:=BO (by simpa using ha)
   have O:c.argTypes=#[t]:=BO (by simpa using ht)
   cases c;simp only at f C O;subst f;subst C;subst O;rfl
  rw[u]at s
  have hx:=ops s (fun _ _ _ e=>by cases e) x (by simp[Op.operands,Call.operands])
  unfold Us at d
  split at d
  case h_2=>exact d.elim
  rename_i i hi
  split at d
  case h_2=>exact d.elim
  rename_i e sz he
  split at d
  case h_2=>exact d.elim
  rename_i j V w
  split at d
  case h_2=>exact d.elim
  rename_i z k q off cn N b Z J
  split at d
  case h_2=>exact d.elim
  rename_i hl m L
  obtain⟨⟨h1,h2⟩,H⟩:=d
  obtain⟨H,I,p⟩:=Lm Q h (CA hl).2 H
  have m:=Ya m
  have w:=Yd w
  have L:=Ya L
  obtain⟨D,E,S,F,G⟩:=h.h.at hl
  have hfz:=Gq (r:=r) ((A _ _ V).flt _ Z)
  rw[hfz]at p
  rw[J]at hx
  obtain⟨ss,M⟩:=σ
  refine dl (k:=r.κ k) (g:=r.γ k+q) (off:=off) (cn:=cn) u hd (by rw[hx];simp[ren]) ((A _ _ hi).elm _ he) ((A _ _ V).zer _ Z) L (by omega) D E (by rw[F,m]) (by rw[G,Bx];exact h1) p ?_
  have U:=RG.updH Q h k ⟨q,true,(τ.H k).e,(τ.H k).sz,N⟩ rfl I
  have X:Ae r (List.replicate cn z).flatten=(List.replicate cn z).flatten:=Gq (by
   refine Yo.2 fun q hq=>?_
   obtain⟨z',hz',W⟩:=Ka.1 hq
   rw[(Nn.1 hz').2]at W
   exact Yo.1 ((A _ _ V).flt _ Z) q W)
  have R:An r k ⟨q,true,(τ.H k).e,(τ.H k).sz,N⟩={M (r.κ k)with cells:=(M (r.κ k)).cells.take (off*sz)++(List.replicate cn z).flatten++(M (r.κ k)).cells.drop ((off+cn)*sz) }:=by
   simp only at D E S F G
   rw[←h2]
   simp only[An,G,DZ,Da,CL,X,D,S,F,←E]
  simp only at R
  rw[R]at U
  exact .of ⟨_,_,H,by rw[hd];exact U⟩
 ·exact Gs (Tx Q A h s hf d)
theorem VC{a:Nat→Option (Nat×Nat)}:∀(ps:List (Nat×AV)) (z cs:List AV),(∀p∈ps,FP p.2=true)→Bu a z ps=some cs→Bu a (Ae r z) (ps.map fun p=>(p.1,ren r p.2))=some (Ae r cs)
 |[],z,cs,_,h=>by
  simp only[Bu,Yh]at h
  subst h
  simp[Bu]
 |(f,v)::ps,z,cs,d,h=>by
  simp only[Bu]at h
  split at h
  ·rename_i off size vs b g
   split at h
   ·cases h
   ·rename_i e
    have c:=IT (r:=r) g (I4 (d (f,v) (YH ..)))
    simp only[Y6,Bu,b,c,Bx]
    rw[Yq e]
    have:=VC ps _ cs (fun p b=>d p (Yy _ b)) h
    rw[←this]
    simp only[DZ,Da,CL]
  ·cases h
theorem iI(d:Bl o=true)(b:GT P T l n r o a K τ):F4 P T l n r o a K τ:=by
 unfold GT at b
 split at b
 ·rename_i c;simp[Bl,c]at d
 ·exact b
theorem eQ(w:RenOk r l outs)(m:AL P T)(h:RG r l outs env τ σ)(k:Bm env [] o.op=true)(u:EE env o.dst=true)(c:GT P T l n r o a K τ):Bs P l n B o (KA r l n outs B (CU env o.dst) K) σ:=by
 unfold GT at c
 split at c
 case h_2=>exact OD w m h k u c
 rename_i t len parts D
 split at c
 case h_2=>exact OD w m h k u c
 case h_3=>exact OD w m h k u c
 rename_i b
 have ops:∀x∈o.op.operands,ev σ.s x=ren r (ev τ.s x):=by
  unfold Bm at k
  split at k
  ·rename_i e;rw[D]at e;cases e
  ·exact DA h AJ k
 unfold Ui at c
 split at c
 case h_2=>exact c.elim
 rename_i d i I hi
 split at c
 case h_2=>exact c.elim
 rename_i e sz he
 split at c
 case h_2=>exact c.elim
 rename_i j J E v
 split at c
 case h_2=>exact c.elim
 rename_i z M
 split at c
 case h_2=>exact c.elim
 rename_i cs F f C
 split at c
 case h_2=>exact c.elim
 rename_i A
 have G:(parts.toList.map fun p=>(p.1,ev σ.s p.2))=(parts.toList.map fun p=>(p.1,ev τ.s p.2)).map fun p=>(p.1,ren r p.2):=by
  rw[Eo]
  refine Y1 fun p c=>?_
  rw[ops p.2 (by rw[D];simp only[Op.operands,Iv,YO];exact⟨p,c,rfl⟩)]
  rfl
 have q:o.dst=some d:=I
 rw[q]at u⊢
 have L:=Hi (x':=fun g=>.ref (l+1,d) g 0 (len+1)) w h u (fun g=>by simp[ren,w.own]) c
 obtain⟨s,H⟩:=σ
 exact RS D q ((m _ _ hi).elm _ he) (by have:=Yd E;omega) (Yd v) ((m _ _ J).zer _ M) (Ya F) (by
  rw[G]
  have:=VC (r:=r) _ _ _ (fun p c=>Yo.1 C p c) f
  rw[Gq (r:=r) (z:=(List.replicate (len+1) z).flatten) (Yo.2 fun x hx=>by
   obtain⟨y,hy,hx⟩:=Ka.1 hx
   rw[List.eq_of_mem_replicate hy]at hx
   exact Yo.1 A x hx)]at this
  exact this) (I1 L)
theorem iW(d:Bl o=true)(c:ET P T l n r o a K τ):GT P T l n r o a K τ:=by
 unfold ET at c
 split at c
 ·rename_i b;simp[Bl,b]at d
 ·rename_i b;simp[Bl,b]at d
 ·exact c
theorem bR(f:RenOk r l outs)(h:RG r l outs env τ σ){K:St→AT→Prop}{d:Nat}(m:fresh d env=true){e:EK}{x x':Nat→AV}(hx:∀g,x' (r.γ (1,d)+g)=ren r (x g))(b:Po n d e x K τ a):
  Zq l n d e x' (KA r l n outs B ((d,[])::env) K) σ:=by
 unfold Po at b
 split at b
 ·rename_i k
  refine⟨Yd k,.of ⟨_,_,b,?_⟩⟩
  have j:=RG.updH f h (1,d) ⟨(τ.H (1,d)).g+1,true,e,0,[]⟩ rfl (.inl rfl)
  have c:=j.put0 m (v:=x ((τ.H (1,d)).g+1)) (y:=x' ((σ.H (l+1,d)).g+1)) (by rw[h.g,Yu];exact hx _)
  have i:An r (1,d) ⟨(τ.H (1,d)).g+1,true,e,0,[]⟩=⟨(σ.H (l+1,d)).g+1,true,e,0,[]⟩:=by simp only[An,Ae,h.g,Yu]
  rw[i,f.own]at c
  exact c
 ·exact b.elim
theorem Tj(w:RenOk r l outs)(O:AL P T)(h:RG r l outs env τ σ)(v:Bm env [] o.op=true)(q:EE env o.dst=true)(b:ET P T l n r o a K τ):Bs P l n B o (KA r l n outs B (CU env o.dst) K) σ:=by
 have ops:(∀c x y,o.op≠.pick c x y)→∀x∈o.op.operands,ev σ.s x=ren r (ev τ.s x):=fun F=>by
  unfold Bm at v
  split at v
  ·rename_i e;exact absurd e (F _ _ _)
  ·exact DA h AJ v
 unfold ET at b
 split at b
 ·rename_i t x j
  split at b
  case h_2=>exact b.elim
  rename_i d i z s hi m
  split at b
  case h_2=>exact b.elim
  rename_i u
  rw[s]at q⊢
  have U:=bR (B:=B) (x':=fun g=>.ptr (l+1,d) g 0) w h q (fun g=>by simp[ren,w.own]) b
  obtain⟨ss,Q⟩:=σ
  have V:=EB ((O _ _ hi).kin.trans (Ya u))
  have f:=ops (by rw[j];intro _ _ _ e;cases e) x (by rw[j];simp[Op.operands])
  exact cG j s V (by rw[f,m];simp[ren]) U
 ·rename_i x j
  split at b
  case h_2=>exact b.elim
  rename_i d k g s m
  split at b
  case h_2=>exact b.elim
  rename_i z p E hl he
  have f:=ops (by rw[j];intro _ _ _ e;cases e) x (by rw[j];simp[Op.operands])
  rw[m]at f
  obtain⟨A,C,J,L,M⟩:=h.h.at hl
  rw[s]at q⊢
  unfold ZL at b
  split at b
  case h_2=>exact b.elim
  rename_i a1 a0 D
  obtain⟨H,G⟩:=b
  obtain⟨ss,Q⟩:=σ
  refine dI (k:=r.κ k) (g:=r.γ k+g) (z:=z) (p:=p) j s (by rw[f];simp[ren]) A C (by rw[J];exact he) (Yd D) (fun R=>.of ⟨_,_,G (DW R),h.put0 q (by simp[ren,Ae])⟩) (fun S=>?_)
  have N:=RG.updH w h k ⟨g,true,.s z (p+Eg z p),(τ.H k).sz,(τ.H k).cells⟩ rfl (.inl (Ya E))
  have I:An r k ⟨g,true,.s z (p+Eg z p),(τ.H k).sz,(τ.H k).cells⟩={Q (r.κ k)with e:=.s z (p+Eg z p) }:=by
   simp only at A C J L M
   simp only[An,A,L,←M,←C]
  simp only at I
  rw[I]at N
  exact .of ⟨_,_,H (G9 S),N.put0 q (by simp only[ren,Ae])⟩
 ·exact eQ w O h v q b
end
end Go.Eng
namespace Go.Eng
set_option linter.all false
open Go Go.RowKit
section
variable {P:Program} {T:Nat→Option TI} {r:Ren} {l n outs:Nat} {B:Base} {env:AR} {τ σ:St} {a:AT} {o:Oper}
theorem VB{H:Hp}{op:Op}{ρ:Operand→AV}{g:Option Bool}{K:AV→AT→Prop}(h:tV T H op ρ g a K):∃v b,K v b:=by
 have fin:∀{v b},K v b→∃v b,K v b:=fun h=>⟨_,_,h⟩
 cases op<;>simp only[tV]at h<;>try exact h.elim
 case move x=>exact fin h
 case assign x=>exact fin h
 case pick c x y=>split at h<;>first|exact fin h|exact h.elim
 case load t x=>
  split at h
  ·unfold HO at h
   repeat' split at h
   all_goals first|exact h.elim|exact fin h|exact fin h.2
  ·grind
 case fieldAddr t x f=>
  split at h
  ·unfold Ku at h
   grind
  ·grind
 case field t x f=>
  split at h
  ·unfold Lg at h
   grind
  ·grind
 case indexAddr t x j=>
  split at h
  ·unfold Kx at h
   repeat' split at h
   all_goals first|exact h.elim|exact⟨_,_,h⟩|exact⟨_,_,h.2⟩
  ·grind
 case index t x j=>
  split at h
  ·unfold Lk at h
   grind
  ·grind
 case extract x j=>
  repeat' split at h
  all_goals first|exact h.elim|exact fin h
 case makeInterface t x=>
  repeat' split at h
  all_goals first|exact h.elim|exact fin h
 case typeAssert x u t ok=>
  repeat' split at h
  all_goals first|exact h.elim|exact fin h
 case binOp o t x y u=>
  split at h
  ·unfold Me at h
   split at h
   ·split at h
    ·unfold L1 at h
     grind
    grind
   ·unfold Mk at h
    grind
   ·grind
   ·grind
   ·split at h
    ·have nl:∀{neg:Bool} {x:AV},H2 H neg x a K→∃v b,K v b:=fun {neg x} h=>by
      unfold H2 at h
      repeat' split at h
      all_goals first|exact h.elim|exact fin (h true)|exact fin (h neg (fun _=>rfl))
     grind
    grind
   grind
  ·grind
 case unOp o t x=>
  unfold MN at h
  repeat' split at h
  all_goals first|exact h.elim|exact fin h|exact fin h.2
 case nilCheck x=>
  split at h
  ·grind
  ·grind
  ·grind
 case convert s d x=>
  split at h
  ·unfold LU at h
   grind
  ·grind
 case makeFunc fn first e=>split at h<;>first|exact h.elim|exact fin h
 case slice t x lo hi k=>
  split at h
  ·unfold K8 at h
   grind
  ·grind
 case build t parts=>
  split at h
  ·unfold Lh at h
   grind
  ·grind
 case lookup t x y i=>
  split at h
  ·unfold Lw at h
   grind
  ·grind
 case call c=>
  split at h
  ·split at h
   ·unfold L2 at h
    grind
   grind
  ·unfold Cw at h
   grind
  ·unfold Cw at h
   grind
  ·unfold Ed at h
   grind
  ·grind
theorem Ly{op:Op}{g:Option Bool}{K:AV→AT→Prop}(h:pV P T l r τ op g a K):∃v b,K v b:=by
 unfold pV at h
 split at h
 ·split at h
  ·unfold LB at h
   grind
  ·exact VB h
 ·unfold MC at h
  repeat' split at h
  all_goals first|exact h.elim|exact⟨_,_,h⟩
 ·exact VB h
def Yl(r:Ren)(e:Nat)(K:AV→AT→Prop)(σ b:St):Prop:=∃v a,b=⟨upd σ.s e (ren r v),σ.H⟩∧K v a
theorem Pj(E:AL P T)(h:RG r l outs env τ σ){c:BI}(hs:BK τ.s c){g:Option Bool}(M:∀b,g=some b→b=true){e:Nat}{op:Op}{ty:TypeId}{ps:String}{af:Array Edge}{gd:Option (Nat×Bool)}
  (hx:Bm env c op=true) (q:e<n) {K:AV→AT→Prop} (d:pV P T l r τ op g a K):AX P l n ⟨some e,op,ty,ps,af,gd⟩ (Yl r e K σ) σ:=by
 have val:tV T τ.H op (ev τ.s) g a K→AX P l n ⟨some e,op,ty,ps,af,gd⟩ (Yl r e K σ) σ=AI P σ.H op (ev σ.s) (Bv n (some e) (Yl r e K σ) σ)→AX P l n ⟨some e,op,ty,ps,af,gd⟩ (Yl r e K σ) σ:=fun C D=>by
  rw[D]
  exact K4 (fun y ⟨v,A,u,B⟩=>⟨q,v,A,by rw[u],B⟩) (U2 E h hs M hx C)
 unfold pV at d
 split at d
 ·rename_i c
  split at d
  ·rename_i f k
   obtain⟨i,first,L,x,A,u,B,O⟩:=Ox h hs M k hx d
   simp only[AX,k,u]
   exact B.mono fun y V ⟨C,D⟩=>by subst C;subst D;exact⟨q,x,A,rfl,O⟩
  ·rename_i G
   refine val d ?_
   cases k:c.callee with
   |value f=>exact absurd k (G f)
   |invoke x m=>simp only[tV,k]at d
   |builtin b=>
    cases b<;>simp only[tV,k]at d<;>simp only[AX,k]
 ·rename_i t len parts
  have I:(Op.buildSlice t len parts).operands.toList.all (EX env c)=true:=hx
  have u:(parts.toList.map fun p=>(p.1,ev σ.s p.2))=(parts.toList.map fun p=>(p.1,ev τ.s p.2)).map fun p=>(p.1,ren r p.2):=by
   rw[Eo]
   refine Y1 fun p d=>?_
   simp only[Function.comp]
   rw[DA h hs I p.2 (by simp only[Op.operands,Iv,YO];exact⟨p,d,rfl⟩)]
  unfold MC at d
  split at d
  case h_2=>exact d.elim
  rename_i i hi
  split at d
  case h_2=>exact d.elim
  rename_i e' sz he
  simp only[AX,(E _ _ hi).elm _ he]
  split at d
  ·rename_i o
   have o:=Yd o
   refine⟨by omega,?_⟩
   split at d
   ·rename_i H
    exact⟨by rw[←Fi,H];rfl,q,.e0,a,by simp[ren],d⟩
   grind
  ·rename_i N o
   have o:=Yd o
   refine⟨by omega,?_⟩
   split at d
   case h_2=>exact d.elim
   rename_i j S w
   split at d
   case h_2=>exact d.elim
   rename_i z U
   split at d
   case h_2=>exact d.elim
   rename_i Q J s
   split at d
   case h_2=>exact d.elim
   rename_i F
   rw[KT s]at u
   rw[u]
   simp only[(E _ _ S).zer _ U,s]
   exact⟨Yd w,Ya J,Ya F,q,.d (.list Q),a,by simp[ren],d⟩
  grind
 ·rename_i R W
  refine val d ?_
  cases op<;>simp only[tV]at d<;>try exact d.elim
  case call c=>exact absurd rfl (R c)
  all_goals simp only[AX]
theorem Uv(y:AL P T)(h:RG r l outs env τ σ){c:BI}(hs:BK τ.s c){g:Option Bool}(G:∀b,g=some b→b=true){e:Nat}{op:Op}{ty:TypeId}{ps:String}{af:Array Edge}{gd:Option (Nat×Bool)}
  (hx:Bm env c op=true) (o:e<n) {K:AV→AT→Prop} (d:pV P T l r τ op g a K):Dl P l n ⟨some e,op,ty,ps,af,gd⟩ (Yl r e K σ) σ:=by
 have C:=Pj (ty:=ty) (ps:=ps) (af:=af) (gd:=gd) y h hs G hx o d
 unfold pV at d
 split at d
 ·rename_i c
  split at d
  ·rename_i f k
   obtain⟨i,first,F,x,I,v,J,L⟩:=Ox h hs G k hx d
   simp only[Dl,k,v]
   exact⟨ren r x,J,o,x,I,rfl,L⟩
  ·rename_i B
   cases k:c.callee with
   |value f=>exact absurd k (B f)
   |_=>simp only[Dl,k];exact C
 ·rename_i t len parts
  cases len with
  |zero=>exact C
  |succ len=>
   have D:(Op.buildSlice t (len+1) parts).operands.toList.all (EX env c)=true:=hx
   have v:(parts.toList.map fun p=>(p.1,ev σ.s p.2))=(parts.toList.map fun p=>(p.1,ev τ.s p.2)).map fun p=>(p.1,ren r p.2):=by
    rw[Eo]
    refine Y1 fun p d=>?_
    simp only[Function.comp]
    rw[DA h hs D p.2 (by simp only[Op.operands,Iv,YO];exact⟨p,d,rfl⟩)]
   unfold MC at d
   split at d
   case h_2=>exact d.elim
   rename_i i hi
   split at d
   case h_2=>exact d.elim
   rename_i e' sz he
   split at d
   ·rename_i q;cases q
   ·rename_i H u q
    cases q
    have u:=Yd u
    split at d
    case h_2=>exact d.elim
    rename_i j O s
    split at d
    case h_2=>exact d.elim
    rename_i z Q
    split at d
    case h_2=>exact d.elim
    rename_i w E m
    split at d
    case h_2=>exact d.elim
    rename_i A
    rw[KT m]at v
    exact⟨.d (.list w),⟨e',sz,z,w,(y _ _ hi).elm _ he,by omega,Yd s,(y _ _ O).zer _ Q,Ya E,by rw[v];exact m,Ya A,rfl⟩,o,.d (.list w),a,by simp[ren],d⟩
   ·exact d.elim
 ·rename_i M N
  cases op<;>first|exact absurd rfl (M _)|exact absurd rfl (N _ _ _)|exact C
theorem IV{d:Nat}{e:TypeId}{sz:Nat}{cells:List AV}{x:Nat→AV}{K a:St→Prop}(b:∀σ,K σ→a σ)(h:Cp l n d e sz cells x K σ):Cp l n d e sz cells x a σ:=⟨h.1,b _ h.2⟩
theorem T0{o:Oper}{K b:St→Prop}(a:∀σ,K σ→b σ)(h:AX P l n o K σ):AX P l n o b σ:=by
 have i:∀x,Bv n o.dst K σ x→Bv n o.dst b σ x:=fun x h=>by
  unfold Bv at h⊢
  grind
 unfold AX at h⊢
 split at h
 ·split at h
  ·exact⟨h.1,IV a h.2⟩
  grind
 ·split at h
  ·exact⟨h.1,IV a h.2⟩
  grind
 ·grind
 ·split at h
  ·refine⟨h.1,?_⟩
   replace h:=h.2
   split at h
   ·grind
   ·refine⟨h.1,?_⟩
    replace h:=h.2
    split at h
    ·refine⟨h.1,?_⟩
     replace h:=h.2
     split at h
     ·grind
     ·split at h
      ·exact IV a h
      grind
    grind
  grind
 ·split at h
  ·obtain⟨c,d,f,j,k,h⟩:=h
   refine⟨c,d,f,j,k,?_⟩
   split at h
   ·exact⟨h.1,IV a h.2⟩
   grind
  grind
 ·split at h
  ·split at h
   ·exact h.mono fun r m g=>by
     unfold Jw at g⊢
     unfold Bv at g⊢
     grind
   grind
  ·split at h
   ·refine⟨h.1,?_⟩
    replace h:=h.2
    unfold H4 at h⊢
    split at h
    ·obtain⟨c,d,f,h⟩:=h
     refine⟨c,d,f,?_⟩
     split at h
     ·refine⟨h.1,?_⟩
      replace h:=h.2
      split at h
      ·exact⟨h.1,fun e=>⟨(h.2.1 e).1,a _ (h.2.1 e).2⟩,fun e=>IV a (h.2.2 e)⟩
      ·grind
      grind
     grind
    grind
   grind
  ·exact K4 i h
 ·exact K4 i h
theorem KH{o:Oper}{K a:St→Prop}(b:∀σ,K σ→a σ)(h:Dl P l n o K σ):Dl P l n o a σ:=by
 have e:∀{x},Bv n o.dst K σ x→Bv n o.dst a σ x:=fun {x} h=>by
  unfold Bv at h⊢
  grind
 unfold Dl at h⊢
 split at h
 ·obtain⟨v,c,d⟩:=h;exact⟨v,c,e d⟩
 ·split at h
  ·grind
  ·exact T0 b h
 ·exact T0 b h
theorem Od(h:RG r l outs env τ σ){ds:List (Option Nat)}{i d:Nat}{b g:Bool}(j:AS ds i=some (some d))(a:DG τ.s ((d,b)::lk env d)=some g):E0 σ.s ds i b=some g:=by
 rw[Bk]at j
 have f:=Fr a
 unfold E0
 simp only[j]
 by_cases hs:BK τ.s (lk env d)
 ·have k:=(h.s d).1 hs
  have m:∃t,τ.s d=.d (.bool t):=by
   cases hl:lk env d with
   |nil=>
    rw[hl]at a
    simp only[DG]at a
    grind
   |cons q o=>
    rw[hl]at a
    simp only[DG]at a
    grind
  obtain⟨t,n⟩:=m
  rw[k,n]
  simp only[ren,Yh]
  cases g with
  |true=>
   have:=f.1 rfl (d,b) (YH ..)
   grind
  |false=>
   cases e:t==b with
   |false=>rfl
   |true=>
    exfalso
    have e:t=b:=by simpa using e
    have:BK τ.s ((d,b)::lk env d):=fun q c=>by
     rcases YJ.1 c with rfl|c
     ·grind
     ·exact hs q c
    grind
 ·rw[(h.s d).2 hs]
  simp only[Yh]
  cases g with
  |false=>rfl
  |true=>exact absurd (fun q c=>f.1 rfl q (Yy _ c)) hs
theorem Hj(F:RenOk r l outs)(A:AL P T){ops:Array Oper}{K:St→AR→AT→Prop}{QQ:Exit→Act→World→Prop}(more:List Oper)
  (D:∀τ' k u G f w',K τ' k u→RG r l outs k τ' G→R l n B G f w'→wpList P ops QQ more f w'):
  ∀(c:List Oper) (env:AR) (a:AT) (τ σ:St) (act:Act) (w:World),Do P T l n r (ops.toList.map (·.dst)) c env a K τ→RG r l outs env τ σ→R l n B σ act w→wpList P ops QQ (c++more) act w
 |[],env,a,τ,σ,act,w,h,p,x=>D _ _ _ _ _ _ h p x
 |o::c,env,a,τ,σ,act,w,h,p,x=>by
  unfold Do at h
  split at h
  ·rename_i E
   split at h
   ·rename_i V Z
    refine N9 (by simp[Region.wanted,E]) (Tj (B:=B) F A p V Z h) x fun G f w' I q=>?_
    obtain⟨σ'',⟨τ',u,z,N⟩,O⟩:=I
    exact Hj F A more D c _ _ _ _ _ _ z N (O _ _ q)
   grind
  ·rename_i i b E
   split at h
   case h_2=>exact h.elim
   rename_i d e W he
   split at h
   case h_2=>exact h.elim
   rename_i g t hx j C
   simp only[Yc]at j
   have C:=Yd C
   have J:=Od p W t
   have hy:(yielded ops act.tmps i==some b)=g:=by
    obtain⟨s,H⟩:=σ
    obtain⟨m,S,hO,L,X,Q,Y⟩:=x.un
    exact Oq Q J
   cases g with
   |true=>
    have hs:=(Fr t).1 rfl
    refine N9 (by simp only[Region.wanted,E];exact hy) (σ:=σ) (B:=B) (l:=l) (n:=n) (KK:=Yl r e (fun v u=>Do P T l n r (ops.toList.map (·.dst)) c ((e,(d,b)::lk env d)::env) u K ⟨upd τ.s e v,τ.H⟩) σ) (Gs ?_) x fun G f w' U q=>?_
    ·obtain⟨M,op,ty,ps,af,gd⟩:=o
     simp only at he
     subst he
     exact Pj A p hs (fun b' e'=>by cases e';rfl) hx (by omega) h
    ·obtain⟨v,u,rfl,z⟩:=U
     exact Hj F A more D c _ _ _ _ _ _ z (p.put j.1 j.2 (fun _=>rfl) (fun L=>absurd hs L)) q
   |false=>
    have hs:¬BK τ.s ((d,b)::lk env d):=fun hs=>by have:=(Fr t).2 hs;cases this
    obtain⟨v,u,z⟩:=Ly h
    show wpList P ops QQ (o::(c++more)) act w
    unfold wpList
    rw[Yq (by simp only[Region.wanted,E,hy];decide),he]
    exact Hj F A more D c _ _ _ _ _ _ z (p.put j.1 j.2 (y:=.tup []) (fun h=>absurd h hs) (fun _=>rfl)) (R.undef x (by omega))
theorem Hr(L:RenOk r l outs)(B:AL P T){ds:List (Option Nat)}{K:St→AR→AT→Prop}:
  ∀(rest:List Oper) (env:AR) (a:AT) (τ σ:St),rest.all (fun o=>BM o||Bb o)=true→D8 P T l n r ds rest env a K τ→RG r l outs env τ σ→Cf P l n ds rest (fun Y=>∃τ' z f,K τ' z f∧RG r l outs z τ' Y) σ
 |[],env,a,τ,σ,_,h,u=>⟨_,_,_,h,u⟩
 |o::rest,env,a,τ,σ,w,h,u=>by
  simp only[Fg,Yc]at w
  unfold D8 at h
  unfold Cf
  split at h
  ·rename_i G
   simp only[G]
   split at h
   case h_2=>exact h.elim
   rename_i I Z
   by_cases H:Bb o=true
   ·obtain⟨j,op,ty,ps,af,gd⟩:=o
    cases op<;>simp only[Bb]at H<;>first|(cases H;done)|skip
    rename_i t p x
    cases j with
    |some d=>cases H
    |none=>
     unfold PW at h
     simp only at h
     unfold ET GT F4 GR at h
     simp only at h I
     split at h
     case h_2=>exact h.elim
     rename_i i hi U
     have A:∀y∈(Op.store t p x).operands,ev σ.s y=ren r (ev τ.s y):=by
      unfold Bm at I
      exact DA u AJ I
     have hx:=A x (by simp[Op.operands])
     have V:=A p (by simp[Op.operands])
     cases W:BL (ev τ.s x)with
     |none=>rw[W]at h;unfold I7 at h;split at h<;>first|exact h.elim|(rename_i e;cases e)
     |some vs=>
      rw[W]at h
      have X:=IT (r:=r) W (I4 U)
      obtain⟨k,g,off,M,e2,e3,e4,e5,e6,e7,e8⟩:=Sm L u (B _ _ hi) h
      obtain⟨τ',f,m,h2⟩:=e8
      simp only[Dl,AX,V,hx,X,M]
      exact⟨e2,e3,e4,e5,e6,e7,Hr L B rest _ _ _ _ w.2 m h2⟩
   have J:BM o=true:=by
    grind
   replace w:BM o=true∧_:=⟨J,w.2⟩
   obtain⟨j,op,ty,ps,af,gd⟩:=o
   have E:∃d,j=some d:=by
    have:=w.1
    unfold BM Bl at this
    rw[YD,Yc,Yc]at this
    rcases this with h|h
    ·exact YM.1 h.1
    ·exact YM.1 h.1
   obtain⟨d,rfl⟩:=E
   simp only at I Z G
   have hp:pV P T l r τ op none a (CY n d (fun τ' f=>D8 P T l n r ds rest (CU env (some d)) f K τ') τ):=by
    by_cases C:∃t len p,op=.buildSlice t (len+1) p
    ·obtain⟨t,len,p,rfl⟩:=C
     exact h
    ·have c:Bl ⟨some d,op,ty,ps,af,gd⟩=true:=OJ w.1 fun t len p e=>C ⟨t,len,p,e⟩
     have h:ET P T l n r ⟨some d,op,ty,ps,af,gd⟩ a (fun τ' f=>D8 P T l n r ds rest (CU env (some d)) f K τ') τ:=by
      unfold PW at h
      split at h
      ·rename_i M _;exact absurd ⟨_,_,_,M⟩ C
      ·exact h
     have h:=iI c (iW c h)
     unfold F4 at h
     simp only at h
     have h:GR P T l n r ⟨some d,op,ty,ps,af,none⟩ a (fun τ' f=>D8 P T l n r ds rest (CU env (some d)) f K τ') τ:=by
      subst G
      split at h
      ·split at h
       ·rename_i q;simp[Bl,q]at c
       ·grind
       ·exact h
      ·exact h
     unfold GR at h
     simp only at h
     split at h
     ·simp[Bl]at c
     ·simp[Bl]at c
     ·grind
     ·simp[Bl]at c
     ·simp[Bl]at c
     ·split at h
      ·rename_i q;simp[Bl,q]at c
      ·exact h
     ·exact h
   have Q:∃v f,CY n d (fun τ' f=>D8 P T l n r ds rest (CU env (some d)) f K τ') τ v f:=Ly hp
   have O:d<n:=by
    obtain⟨v,f,m⟩:=Q
    unfold CY at m
    split at m
    ·rename_i E;have E:=Yd E;exact E
    grind
   have:=Uv (ty:=ty) (ps:=ps) (af:=af) (gd:=gd) B u AJ (fun b e=>by cases e) I O hp
   refine KH (fun Y N=>?_) this
   obtain⟨v,f,rfl,m⟩:=N
   unfold CY at m
   split at m
   ·exact Hr L B rest _ _ _ _ w.2 m (u.put0 Z rfl)
   grind
  ·rename_i i b G
   have J:BM o=true:=by
    have:=w.1
    rw[YD]at this
    rcases this with h|h
    ·exact h
    ·exfalso
     obtain⟨j,op,ty,ps,af,gd⟩:=o
     simp only at G
     subst G
     cases op<;>cases j<;>simp[Bb]at h
   simp only[G]
   split at h
   case h_2=>exact h.elim
   rename_i d e E he
   split at h
   case h_2=>exact h.elim
   rename_i g D hx s F
   simp only[Yc]at s
   have F:=Yd F
   rw[Od u E D]
   refine⟨fun S=>?_,fun R=>?_⟩
   ·subst S
    have hs:=(Fr D).1 rfl
    obtain⟨j,op,ty,ps,af,gd⟩:=o
    simp only at he
    subst he
    refine KH (fun Y N=>?_) (Uv (ty:=ty) (ps:=ps) (af:=af) (gd:=gd) B u hs (fun b' e'=>by cases e';rfl) hx (by omega) h)
    obtain⟨v,f,rfl,m⟩:=N
    exact Hr L B rest _ _ _ _ w.2 m (u.put s.1 s.2 (fun _=>rfl) (fun hn=>absurd hs hn))
   ·subst R
    have hs:¬BK τ.s ((d,b)::lk env d):=fun hs=>by have:=(Fr D).2 hs;cases this
    obtain⟨v,f,m⟩:=Ly h
    rw[he]
    exact⟨F,Hr L B rest _ _ _ _ w.2 m (u.put s.1 s.2 (y:=.tup []) (fun h=>absurd h hs) (fun _=>rfl))⟩
end
def As:List (Nat×AV)→Nat→AV
 |[],_=>.top
 |(i,x)::r,j=>match Nat.beq i j with|true=>x|false=>As r j
def CW:Blk:=⟨0,false,0,0,[]⟩
def Ak:List (Aa×Blk)→Aa→Blk
 |[],_=>CW
 |(k,b)::r,q=>match AY k q with|true=>b|false=>Ak r q
def Ab(ss:List (Nat×AV))(hs:List (Aa×Blk)):St:=⟨As ss,Ak hs⟩
mutual
def Cv(H:Hp):AV→Option AV
 |.ref k g off n=>match A7 H k g with|true=>some (.ref k 0 off n)|false=>none
 |.ptr k g off=>match A7 H k g with|true=>some (.ptr k 0 off)|false=>none
 |.mp k g=>match A7 H k g with|true=>some (.mp k 0)|false=>none
 |.fn f xs ys=>match EQ H xs,EQ H ys with|some xs,some ys=>some (.fn f xs ys)|_,_=>none
 |.agg xs=>match EQ H xs with|some xs=>some (.agg xs)|none=>none
 |.tup xs=>match EQ H xs with|some xs=>some (.tup xs)|none=>none
 |.top=>some .top
 |.d x=>some (.d x)
 |.e0=>some .e0
 |.p x=>some (.p x)
 |.iptr cs off=>some (.iptr cs off)
 |.ifc t ds a=>some (.ifc t ds a)
def EQ(H:Hp):List AV→Option (List AV)
 |[]=>some []
 |x::xs=>match Cv H x,EQ H xs with|some x,some xs=>some (x::xs)|_,_=>none
end
def Qi(H:Hp)(x:AV):AV:=match Cv H x with|some v=>v|none=>.top
def Hu(H:Hp)(s:Nat→AV):List Nat→List (Nat×AV)
 |[]=>[]
 |j::r=>(j,Qi H (s j))::Hu H s r
def EN(cs:List AV):Prop:=∀x∈cs,x.flat=true
def Hz(H:Hp):List (Aa×Bool)→(List (Aa×Blk)→Prop)→Prop
 |[],K=>K []
 |(k,fl)::r,K=>match (H k).live with
  |false=>Hz H r K
  |true=>match fl with
   |true=>EN (H k).cells∧Hz H r (fun a=>K ((k,⟨0,true,(H k).e,(H k).sz,(H k).cells⟩)::a))
   |false=>match EQ H (H k).cells with
    |some cs=>Hz H r (fun a=>K ((k,⟨0,true,(H k).e,(H k).sz,cs⟩)::a))
    |none=>False
def Mp:AV→Bool
 |.e0=>true
 |_=>false
def I6:List (Nat×Nat×TypeId×Nat)→St→(St→Prop)→Prop
 |[],τ,K=>K τ
 |(j,d,e,sz)::r,τ,K=>match Mp (τ.s j),(τ.H (1,d)).live with
  |true,false=>I6 r ⟨upd τ.s j (.ref (1,d) ((τ.H (1,d)).g+1) 0 0),updH τ.H (1,d) ⟨(τ.H (1,d)).g+1,true,e,sz,[]⟩⟩ K
  |true,true=>False
  |false,_=>I6 r τ K
structure Lf where
 ls:List Nat
 ks:List (Aa×Bool):=[]
 ad:List (Nat×Nat×TypeId×Nat):=[]
 ze:List Nat:=[]
def Ih:List Nat→St→St
 |[],τ=>τ
 |j::r,τ=>match Mp (τ.s j)with|true=>Ih r ⟨upd τ.s j (.d (.list [])),τ.H⟩|false=>Ih r τ
def gz(H:Hp):List Nat→Bool
 |[]=>true
 |i::r=>Nat.beq (H (0,i)).g 0&&gz H r
def Co(fx:List Nat)(f:Lf)(τ:St)(Φ:St→Prop):Prop:=I6 f.ad (Ih f.ze τ) (fun τ=>match gz τ.H fx with|true=>Hz τ.H f.ks (fun hs=>Φ (Ab (Hu τ.H τ.s f.ls) hs))|false=>False)
structure Cx where
 l:Nat
 B:Base
 κ:Aa→Aa
 θ:Nat→AV
 H0:Hp
 outs:Nat
 no:Aa→Prop
 fx:List Nat
 G:(Aa→Nat)→Prop
def Cx.r(C:Cx)(γ:Aa→Nat):Ren:=⟨C.κ,γ,C.θ,C.H0,C.no⟩
structure CxOk (C:Cx):Prop where
 own:∀d,C.κ (1,d)=(C.l+1,d)
 out:∀i,i<C.outs→(C.κ (0,i)).1≤C.l
 inj:∀i j,i<C.outs→j<C.outs→C.κ (0,i)=C.κ (0,j)→i=j
 no:∀k,C.no k→∃i,i<C.outs∧C.κ (0,i)=k
 G:∀γ γ':Aa→Nat,(∀i∈C.fx,γ' (0,i)=γ (0,i))→C.G γ→C.G γ'
theorem CxOk.ren{C:Cx}(h:CxOk C)(γ:Aa→Nat):RenOk (C.r γ) C.l C.outs:=⟨h.own,h.out,h.inj,h.no⟩
def Wk(n:Nat)(C:Cx)(σ b:St):Prop:=∀a w,R C.l n C.B σ a w→R C.l n C.B b a w
def Is(n:Nat)(C:Cx)(Φ:St→Prop)(σ:St):Prop:=∃γ τ a,C.G γ∧Φ τ∧RG (C.r γ) C.l C.outs [] τ a∧Wk n C σ a
def LW(P:Program)(n:Nat)(C:Cx)(c:Code)(τ:St)(Q:Exit→St→Prop):Prop:=
 ∀γ σ,C.G γ→RG (C.r γ) C.l C.outs [] τ σ→A5 P C.l n C.B c (fun e a=>Is n C (Q e) a) σ
def Lu(P:Program)(l n:Nat)(B:Base)(c:Code)(Q:Exit→St→Prop)(σ:St):Prop:=
 ∀a w,R l n B σ a w→∀(b:Frame) (k:List Item) (cs:List Frame),∃e d w',(∃f,Q e f∧R l n B f d w')∧Arrives P (lone (b.at a (.code c::.inLoop c::k)) cs w) b k cs e d w'
def LL(P:Program)(n:Nat)(C:Cx)(c:Code)(τ:St)(Q:Exit→St→Prop):Prop:=
 ∀γ σ,C.G γ→RG (C.r γ) C.l C.outs [] τ σ→Lu P C.l n C.B c (fun e a=>Is n C (Q e) a) σ
def B3(env:AR)(τ:St):St:=⟨fun j=>match lk env j with|[]=>τ.s j|_=>.top,τ.H⟩
def G3(C:List AV)(off n sz:Nat)(es:List (List D)):Prop:=es.length=n∧sz≠0∧(∀e∈es,e.length=sz)∧(off+n)*sz≤C.length∧(C.drop (off*sz)).take (n*sz)=es.flatten.map .d
def MH(H:Hp)(d:Nat)(s:Nat→AV)(A:Prop):List (Nat×List (List D))→Prop
 |[]=>A
 |(j,a)::r=>match s j with
  |.ref k q off m=>(match AY k (1,d),A7 H k q with|true,true=>G3 (H (1,d)).cells off m (H (1,d)).sz a∧MH H d s A r|_,_=>False)
  |_=>False
def ME(H:Hp)(d:Nat)(A:Prop):List (Aa×Nat×List (List D))→Prop
 |[]=>A
 |(k,i,a)::r=>match Nat.beq k.1 1,AY k (1,d),(H k).live,AS (H k).cells i with
  |true,false,true,some (.ref k' q off m)=>(match AY k' (1,d),A7 H k' q with|true,true=>G3 (H (1,d)).cells off m (H (1,d)).sz a∧ME H d A r|_,_=>False)
  |_,_,_,_=>False
def ZM(r:Ren)(k:Aa)(A:Prop):Prop:=
 match Nat.beq k.1 1 with
 |true=>A
 |false=>G5 r k∧A
def ML(H:Hp)(d:Nat)(s:Nat→AV):List Nat→Bool
 |[]=>true
 |j::r=>match s j with
  |.mp k g=>AY k (1,d)&&A7 H k g&&ML H d s r
  |_=>false
def MM(H:Hp)(d:Nat)(s:Nat→AV):List Nat→Bool
 |[]=>true
 |j::r=>match s j with
  |.ptr k g 0=>AY k (1,d)&&A7 H k g&&MM H d s r
  |_=>false
def AG(r:Ren)(os:Nat):AT→St→(St→AT→Prop)→Prop
 |.frz d f cs b,τ,K=>match (τ.H (1,d)).live,Nat.ble 1 (τ.H (1,d)).sz with
  |true,true=>MH τ.H d τ.s (ME τ.H d (AG r os b ⟨FI f τ.s,ES cs (updH τ.H (1,d) ⟨(τ.H (1,d)).g,false,(τ.H (1,d)).e,(τ.H (1,d)).sz,(τ.H (1,d)).cells⟩)⟩ K) cs) f
  |_,_=>False
 |.adc k i d e sz b,τ,K=>match Nat.beq k.1 1,AY k (1,d),(τ.H k).live,AS (τ.H k).cells i with
  |true,false,true,some .e0=>AG r os b ⟨τ.s,updH (updH τ.H (1,d) ⟨(τ.H (1,d)).g+1,true,e,sz,[]⟩) k ⟨(τ.H k).g,true,(τ.H k).e,(τ.H k).sz,(τ.H k).cells.set i (.ref (1,d) ((τ.H (1,d)).g+1) 0 0)⟩⟩ K
  |_,_,_,_=>False
 |.sep b,τ,K=>K τ b
 |.ads j d e sz b,τ,K=>match Mp (τ.s j)with
  |true=>AG r os b ⟨upd τ.s j (.ref (1,d) ((τ.H (1,d)).g+1) 0 0),updH τ.H (1,d) ⟨(τ.H (1,d)).g+1,true,e,sz,[]⟩⟩ K
  |false=>False
 |.trim k c b,τ,K=>match (τ.H k).live with
  |true=>(∃m,(τ.H k).cells.take m=c)∧ZM r k (AG r os b ⟨τ.s,updH τ.H k ⟨(τ.H k).g,true,(τ.H k).e,(τ.H k).sz,c⟩⟩ K)
  |false=>False
 |.reb j d m c b,τ,K=>match τ.s j with
  |.ref k q off n=>(match AY k (1,d),A7 τ.H k q with
   |true,true=>(n=m∧off*(τ.H k).sz≤(τ.H k).cells.length∧(τ.H k).cells.drop (off*(τ.H k).sz)=c)∧AG r os b ⟨upd τ.s j (.ref k (q+1) 0 m),updH τ.H k ⟨q+1,true,.t (τ.H k).e.ty,(τ.H k).sz,c⟩⟩ K
   |_,_=>False)
  |_=>False
 |.mv d j b,τ,K=>match (τ.H (1,d)).live with
  |true=>DF (τ.H (1,d)).cells∧(j<os∧r.no (r.κ (0,j)))∧AG r os b ⟨fun i=>C5 (1,d) (0,j) (τ.H (1,d)).g ((τ.H (0,j)).g+1) (τ.s i),
    updH (updH τ.H (1,d) ⟨(τ.H (1,d)).g,false,(τ.H (1,d)).e,(τ.H (1,d)).sz,(τ.H (1,d)).cells⟩) (0,j) ⟨(τ.H (0,j)).g+1,true,(τ.H (1,d)).e,(τ.H (1,d)).sz,(τ.H (1,d)).cells⟩⟩ K
  |false=>False
 |.fzm d f b,τ,K=>match (τ.H (1,d)).live,(τ.H (1,d)).e,ML τ.H d τ.s f with
  |true,.m q h,true=>AG r os b ⟨CF (.d (.map q h)) f τ.s,updH τ.H (1,d) ⟨(τ.H (1,d)).g,false,(τ.H (1,d)).e,(τ.H (1,d)).sz,(τ.H (1,d)).cells⟩⟩ K
  |_,_,_=>False
 |.fzb d f b,τ,K=>match (τ.H (1,d)).live,H5 (τ.H (1,d)).cells,MM τ.H d τ.s f with
  |true,some (x::ds),true=>AG r os b ⟨CF (.iptr (x::ds) 0) f τ.s,updH τ.H (1,d) ⟨(τ.H (1,d)).g,false,(τ.H (1,d)).e,(τ.H (1,d)).sz,(τ.H (1,d)).cells⟩⟩ K
  |_,_,_=>False
 |.rnm d d' e i b,τ,K=>match (τ.H (1,d)).live,Nat.beq d d',Nat.beq e d,Nat.beq e d',(τ.H (1,e)).live,AS (τ.H (1,e)).cells i with
  |true,false,false,false,true,some (.ref k g off c)=>(match AY k (1,d),Nat.beq g (τ.H (1,d)).g with
   |true,true=>DF (τ.H (1,d)).cells∧AG r os b ⟨fun j=>C5 (1,d) (1,d') (τ.H (1,d)).g ((τ.H (1,d')).g+1) (τ.s j),
     updH (updH (updH τ.H (1,d) ⟨(τ.H (1,d)).g,false,(τ.H (1,d)).e,(τ.H (1,d)).sz,(τ.H (1,d)).cells⟩) (1,d') ⟨(τ.H (1,d')).g+1,true,(τ.H (1,d)).e,(τ.H (1,d)).sz,(τ.H (1,d)).cells⟩)
      (1,e) ⟨(τ.H (1,e)).g,true,(τ.H (1,e)).e,(τ.H (1,e)).sz,(τ.H (1,e)).cells.set i (.ref (1,d') ((τ.H (1,d')).g+1) off c)⟩⟩ K
   |_,_=>False)
  |_,_,_,_,_,_=>False
 |.mvc d q e i b,τ,K=>match (τ.H (1,d)).live,Nat.beq e d,(τ.H (1,e)).live,AS (τ.H (1,e)).cells i with
  |true,false,true,some (.ref k g off c)=>(match AY k (1,d),Nat.beq g (τ.H (1,d)).g with
   |true,true=>DF (τ.H (1,d)).cells∧(q<os∧r.no (r.κ (0,q)))∧AG r os b ⟨fun j=>C5 (1,d) (0,q) (τ.H (1,d)).g ((τ.H (0,q)).g+1) (τ.s j),
     updH (updH (updH τ.H (1,d) ⟨(τ.H (1,d)).g,false,(τ.H (1,d)).e,(τ.H (1,d)).sz,(τ.H (1,d)).cells⟩) (0,q) ⟨(τ.H (0,q)).g+1,true,(τ.H (1,d)).e,(τ.H (1,d)).sz,(τ.H (1,d)).cells⟩)
      (1,e) ⟨(τ.H (1,e)).g,true,(τ.H (1,e)).e,(τ.H (1,e)).sz,(τ.H (1,e)).cells.set i (.ref (0,q) ((τ.H (0,q)).g+1) off c)⟩⟩ K
   |_,_=>False)
  |_,_,_,_=>False
 |a,τ,K=>K τ a
def Bz(P:Program)(T:Nat→Option TI)(l n os:Nat)(r:Ren):Code→AT→St→(Exit→St→AT→Prop)→Prop
 |.skip,a,τ,K=>K .normal τ a
 |.ret,a,τ,K=>AG r os a τ (fun τ a=>K .ret τ a)
 |.exit id,a,τ,K=>K (.exit id) τ a
 |.seq x y,a,τ,K=>Bz P T l n os r x a τ (fun e τ' d=>match e with|.normal=>Bz P T l n os r y d τ' K|e=>K e τ' d)
 |.block id c,a,τ,K=>Bz P T l n os r c a τ (fun e τ' d=>match e with|.exit i=>(match Nat.beq i id with|true=>K .normal τ' d|false=>K (.exit i) τ' d)|e=>K e τ' d)
 |.cond c x y,a,τ,K=>match ev τ.s c,a with
  |.d (.bool b),.br a1 f=>(b=true→Bz P T l n os r x a1 τ K)∧(b=false→Bz P T l n os r y f τ K)
  |.d (.bool b),.go a=>(match b with|true=>Bz P T l n os r x a τ K|false=>Bz P T l n os r y a τ K)
  |.d (.bool b),.one v a=>(match v with|true=>(b=true→Bz P T l n os r x a τ K)∧(b=false→False)|false=>(b=true→False)∧(b=false→Bz P T l n os r y a τ K))
  |_,_=>False
 |.region _ ops draw,a,τ,K=>match draw with
  |false=>AG r os a τ (fun τ a=>Do P T l n r (ops.toList.map (·.dst)) ops.toList [] a (fun τ' env d=>K .normal (B3 env τ') d) τ)
  |true=>match LS ops.toList&&ops.toList.all (fun o=>BM o||Bb o)&&GY ops.toList 0 ops.toList with
   |true=>AG r os a τ (fun τ a=>D8 P T l n r (ops.toList.map (·.dst)) ops.toList [] a (fun τ' env d=>K .normal (B3 env τ') d) τ)
   |false=>False
 |_,_,_,_=>False
mutual
def frz(H:Hp):AV→AT→(AV→AT→Prop)→Prop
 |.d x,a,K=>K (.d x) a
 |.e0,a,K=>K (.d (.list [])) a
 |.ifc t ds q,a,K=>K (.ifc t ds q) a
 |.p v,a,K=>K (.p v) a
 |.agg xs,a,K=>FM H xs a (fun ys c=>K (.agg ys) c)
 |.ref k g off n,a,K=>match Nat.beq k.1 0,Nat.beq k.1 1,A7 H k g with
  |true,_,true=>K (.ref k g off n) a
  |false,true,true=>(match a with|.av (.d (.list b)) c=>G3 (H k).cells off n (H k).sz b∧K (.d (.list b)) c|_=>False)
  |_,_,_=>False
 |.mp k g,a,K=>match Nat.beq k.1 0,Nat.beq k.1 1,A7 H k g,(H k).e with
  |true,_,true,_=>K (.mp k g) a
  |false,true,true,.m q b=>K (.d (.map q b)) a
  |_,_,_,_=>False
 |_,_,_=>False
def FM(H:Hp):List AV→AT→(List AV→AT→Prop)→Prop
 |[],a,K=>K [] a
 |x::xs,a,K=>frz H x a (fun y c=>FM H xs c (fun ys b=>K (y::ys) b))
end
def Qf(T:Nat→Option TI)(τ:St):ResultVar→(AV→Prop)→Prop
 |.tmp t,K=>K (τ.s t)
 |.cell p t,K=>match τ.s p,T t with
  |.ptr k g off,some i=>(match A7 τ.H k g,i.agg with
   |true,true=>(match Nat.ble 1 i.siz,FH i.siz ((τ.H k).cells.drop off)with|true,some c=>K (.agg c)|_,_=>False)
   |true,false=>(match AS (τ.H k).cells off with|some c=>K c|none=>False)
   |false,_=>False)
  |_,_=>False
def PP(T:Nat→Option TI)(τ:St):List ResultVar→(List AV→Prop)→Prop
 |[],K=>K []
 |v::vs,K=>Qf T τ v (fun x=>PP T τ vs (fun xs=>K (x::xs)))
def FE(H:Hp):Nat→Nat→List Blk
 |0,_=>[]
 |n+1,i=>H (0,i)::FE H n (i+1)
def JB(T:Nat→Option TI)(c:List ResultVar)(os:Nat)(τ:St)(a:AT)(b:AV→List Blk→Prop):Prop:=
 PP T τ c (fun xs=>FM τ.H xs a (fun ys _=>b (B6 ys) (FE τ.H os 0)))
def FQ(T:Nat→Option TI)(c:List ResultVar)(os:Nat)(b:AV→List Blk→Prop)(e:Exit)(τ:St):Prop:=(e=.normal∨e=.ret)∧∃a,JB T c os τ a b
end Go.Eng
