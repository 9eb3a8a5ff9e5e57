import Derived.Test.YtbcmdieedjamgaaGreatZe05
import Derived.Test.YtbcmdieedjamgaaGreatZe04
import Derived.Test.YtbcmdieedjamgaaGreatZe00
namespace Go.Eng
set_option linter.all false
open Go Go.RowKit
def KA(r:Ren)(l n outs:Nat)(B:Base)(env:BP)(K:St→AT→Prop)(σ:St):Prop:=∃b,Lk r l outs env K b∧∀a w,R l n B σ a w→R l n B b a w
section
variable {P:Program} {T:Nat→Option TI} {r:Ren} {l n outs:Nat} {B:Base} {env:BP} {τ σ:St} {a:AT} {o:Oper} {K:St→AT→Prop}
theorem KA.of(h:Lk r l outs env K σ):KA r l n outs B env K σ:=⟨σ,h,fun _ _ h=>h⟩
theorem PD{d:Nat}{e:TypeId}{sz:Nat}{cells:List AV}{x:Nat→AV}(h:Ed l n d e sz cells x (Lk r l outs env K) σ):Ed l n d e sz cells x (KA r l n outs B env K) σ:=⟨h.1,.of h.2⟩
theorem ZsC(i:A8 P T)(h:RG r l outs env τ σ){d:Nat}(k:o.dst=some d)(j:Cf env [] o.op=true)(m:fresh d env=true)(p:tV T τ.H o.op (ev τ.s) none a (Fh n d K τ))
  (c:Bw P l n o (KA r l n outs B ((d,[])::env) K) σ=A2 P σ.H o.op (ev σ.s) (CC n o.dst (KA r l n outs B ((d,[])::env) K) σ)):Bw P l n o (KA r l n outs B ((d,[])::env) K) σ:=by
 rw[c,k]
 refine Ue (fun y hy=>?_) (mL i h A5 (fun b e=>by cases e) j p)
 obtain⟨f,g⟩:=TN h m hy
 exact⟨f,.of g⟩
theorem zk{x:AV}{d:D}(h:GF x=some d):ren r x=x:=by
 cases x<;>simp only[GF]at h<;>first|(simp[ren];done)|cases h
theorem zK:∀{xs:List AV} {ds:List D},Dy xs=some ds→Ao r xs=xs
 |[],_,_=>by simp[Ao]
 |x::xs,ds,h=>by
  simp only[Dy]at h
  split at h
  ·rename_i d a b c
   rw[Ao,zk b,zK c]
  ·cases h
theorem ZFz{x:AV}{e:List D}(h:Nw x=some e):ren r x=x:=by
 cases x with
 |agg xs=>simp only[Nw]at h;rw[ren,zK h]
 |_=>
  simp only[Nw]at h
  split at h
  ·rename_i d a;exact zk a
  ·cases h
theorem TW{sz:Nat}:∀{ps:List (Nat×AV)} {i:Nat} {a:List (List D)},F8 sz i ps=some a→(ps.map fun p=>(p.1,ren r p.2))=ps
 |[],_,_,_=>rfl
 |(j,v)::ps,i,a,h=>by
  simp only[F8]at h
  split at h
  ·rename_i e b c d
   simp only[YS,ZFz c,TW d]
  ·cases h
theorem fk(h:RG r l outs env τ σ){sz c:Nat}{y:AV}{news:List AV}(i:Wb τ.H sz y=true)(hs:Ec sz (cellsOf τ.H y) y c news):JS σ.H sz (ren r y)=some (c,Ao r news)∧(Ao r news).all AV.one=true:=by
 obtain⟨p,a⟩:=hs
 have b:(Ao r news).all AV.one=true:=by
  rw[FK,List.all_map]
  refine Yu.2 fun x hx=>?_
  have:=Yu.1 p x hx
  cases x<;>first|(simp[Function.comp,ren,AV.one];done)|cases this
 refine⟨?_,b⟩
 split at a
 ·obtain⟨rfl,rfl⟩:=a;simp[ren,JS,Ao]
 ·rename_i s
  obtain⟨d,rfl,rfl⟩:=a
  simp only[ren,JS]
  rw[Yi (Yu.2 fun e he=>by simpa using d e he),HX]
 ·rename_i k g off m
  obtain⟨rfl,d,rfl⟩:=a
  simp only[Wb,Yc]at i
  obtain⟨hl,q⟩:=i
  obtain⟨j,n,t,o,f⟩:=h.h.at hl
  have e:cellsOf τ.H (.ref k g off c)=(τ.H k).cells:=by simp[cellsOf,hl]
  rw[e]at d⊢
  simp only[ren,JS]
  rw[Yi ⟨j,n,by rw[o];exact Yd q,by rw[f,CF];exact d⟩,f,EY,FI]
 ·exact a.elim
theorem Zrr(E:RenOk r l outs)(F:A8 P T)(h:RG r l outs env τ σ){d:Nat}{t:TypeId}{x y:AV}(X:fresh d env=true)(b:bM T r n d t x y a K τ):
  Mk P l n d t (ren r x) (ren r y) (KA r l n outs B ((d,[])::env) K) σ:=by
 unfold bM at b
 split at b
 case h_2=>exact b.elim
 rename_i i hi
 split at b
 case h_2=>exact b.elim
 rename_i e sz he
 split at b
 case h_2=>exact b.elim
 rename_i j L J m
 have J:=Yh J
 unfold Mk
 rw[(F _ _ hi).elm _ he]
 split at b
 ·rename_i byt z c news q W Z
  obtain⟨f,U,o⟩:=b
  obtain⟨O,Q⟩:=fk h m f
  obtain⟨M,N⟩:=(F _ _ L).byt _ W
  have G:c*P.bytesOf e≤140737488355328:=D7 (Nat.mul_le_mul_left _ M) U
  refine⟨by omega,N,by rw[(F _ _ L).zer _ Z];rfl,?_⟩
  simp only[O,ren]
  refine⟨Q,G,fun hc=>?_,fun hc=>?_⟩
  ·subst hc
   have C:d<n:=by
    unfold I4 at o
    split at o
    ·rename_i C;have:=Yh C;omega
    ·exact o.elim
   have hn:=MG (x':=fun g=>.ref (l+1,d) g 0 0) E h X (fun g=>by simp[ren,E.own]) o
   have I:Ao r news=[]:=by
    have hl:news=[]:=by
     obtain⟨_,f⟩:=f
     split at f
     ·exact f.2
     ·obtain⟨_,A,p⟩:=f
      have:‹List (List D)›=[]:=I1 A.symm
      rw[this]at p;simpa using p
     ·obtain⟨A,_,p⟩:=f;rw[←A]at p;simpa using p
     ·exact f.elim
    rw[hl];simp[Ao]
   rw[I]at hn
   refine⟨C,_,hn.2,fun act w hR=>?_⟩
   have:=R.adopt (e:=e) (sz:=sz) hR (l+1,d) rfl ((σ.H (l+1,d)).g+1) (YO _) (d:=d) (by simp[upd])
   have S:upd (upd σ.s d .e0) d (.ref (l+1,d) ((σ.H (l+1,d)).g+1) 0 0)=upd σ.s d (.ref (l+1,d) ((σ.H (l+1,d)).g+1) 0 0):=by funext j;unfold upd;split<;>rfl
   simp only[S]at this
   exact this
  ·exact PD (MG (x':=fun g=>.ref (l+1,d) g 0 c) E h X (fun g=>by simp[ren,E.own]) o)
 ·rename_i byt z k q off c' c news C' n' q' W Z
  split at b
  case h_2=>exact b.elim
  rename_i hl u s C
  obtain⟨f,⟨U,o,A,p⟩,V⟩:=b
  obtain⟨V,Y,H⟩:=Uz E h (Ey hl).2 V
  obtain⟨O,Q⟩:=fk h m f
  obtain⟨M,N⟩:=(F _ _ L).byt _ W
  obtain⟨g1,g2,g3,g4,g5⟩:=h.h.at hl
  have C:=Yh C
  have u:=Yd u
  have s:=ZFt s
  refine⟨by omega,N,by rw[(F _ _ L).zer _ Z];rfl,?_⟩
  simp only[O,ren]
  refine⟨Q,g1,g2,by rw[g4,u],by rw[g3,s],by rw[g5,CF];exact U,by rw[A];exact D7 (Nat.mul_le_mul_left _ M) p,H,by omega,.of ⟨_,_,V,?_⟩⟩
  have h7:=h.put0 (v:=.ref k (q+1) 0 n') (y:=.ref (r.κ k) (r.γ k+q+1) 0 (c'+c)) X (by simp[ren,A,YI])
  have h8:=RG.updH E h7 k ⟨q+1,true,e,sz,C'⟩ rfl Y
  have S:AL r k ⟨q+1,true,e,sz,C'⟩=⟨r.γ k+q+1,true,e,sz,(σ.H (r.κ k)).cells.drop (off*sz)++Ao r news⟩:=by
   simp only[AL,g5,EY,←G4,o,YI]
  rw[S]at h8
  exact h8
 ·exact b.elim
theorem yQ(y:RenOk r l outs)(h:RG r l outs env τ σ){t:TypeId}{i:TI}(hi:TIok P t i){x:AV}{vs:List AV}(c:P8 r n i x (some vs) a K τ):
  ∃k g off,ren r x=.ptr k g off∧g=(σ.H k).g∧(σ.H k).live=true∧(Ao r vs).length=P.cellsOf t∧Ao r vs≠[]∧off+(Ao r vs).length≤(σ.H k).cells.length∧(k.1=l+1∨(Ao r vs).all (AV.low k.1)=true)∧
   Lk r l outs env K ⟨σ.s,updH σ.H k {σ.H k with cells:=(σ.H k).cells.take off++Ao r vs++(σ.H k).cells.drop (off+(Ao r vs).length) }⟩:=by
 unfold P8 at c
 split at c
 case h_2=>exact c.elim
 rename_i k q off E heq
 cases heq
 split at c
 case h_2=>exact c.elim
 rename_i hl d m
 have d:=Yd d
 have m:=Yh m
 obtain⟨s,u,B,C,v⟩:=h.h.at hl
 obtain⟨F,G⟩:=Ey hl
 have fin:∀f z,HC (τ.H k).cells off vs f→J4 r k vs (K ⟨τ.s,updH τ.H k ⟨q,true,(τ.H k).e,(τ.H k).sz,f⟩⟩ z)→_:=fun f z hs o=>by
  obtain⟨s1,s2⟩:=hs
  obtain⟨o,p,j⟩:=Uz y h (Ey hl).2 o
  refine(⟨r.κ k,r.γ k+q,off,by simp[ren],s,u,by rw[CF,hi.siz,d],by intro e;have:=congrArg List.length e;rw[CF,GU]at this;omega,by rw[v,CF,CF];exact s1,?_,_,_,o,?_⟩:
   ∃k' g b,ren r (.ptr k q off)=.ptr k' g b∧g=(σ.H k').g∧(σ.H k').live=true∧(Ao r vs).length=P.cellsOf t∧Ao r vs≠[]∧b+(Ao r vs).length≤(σ.H k').cells.length∧(k'.1=l+1∨(Ao r vs).all (AV.low k'.1)=true)∧
   Lk r l outs env K ⟨σ.s,updH σ.H k' {σ.H k' with cells:=(σ.H k').cells.take b++Ao r vs++(σ.H k').cells.drop (b+(Ao r vs).length) }⟩)
  ·exact j
  ·have w:=RG.updH y h k ⟨q,true,(τ.H k).e,(τ.H k).sz,f⟩ rfl p
   have A:AL r k ⟨q,true,(τ.H k).e,(τ.H k).sz,f⟩={σ.H (r.κ k)with cells:=(σ.H (r.κ k)).cells.take off++Ao r vs++(σ.H (r.κ k)).cells.drop (off+(Ao r vs).length) }:=by
    simp only[AL,v,CF,FI,EY,←G4,s2,s,B,C,←u]
   rw[A]at w
   exact w
 split at c
 ·split at c
  ·rename_i D;exact fin _ _ ⟨Yh D,rfl⟩ c
  ·exact c.elim
 ·exact fin _ _ c.1 c.2
 ·exact c.elim
theorem ZoC(L:RenOk r l outs)(D:A8 P T)(h:RG r l outs env τ σ)(v:Cf env [] o.op=true)(H:FO env o.dst=true)(s:Km P T l n r o a K τ):Bw P l n o (KA r l n outs B (Dx env o.dst) K) σ:=by
 obtain⟨dst,op,ty,ps,af,gd⟩:=o
 have ops:∀{op:Op},Cf env [] op=true→(∀c x y,op≠.pick c x y)→∀x∈op.operands,ev σ.s x=ren r (ev τ.s x):=fun {op} v hne=>by
  unfold Cf at v
  split at v
  ·exact absurd rfl (hne _ _ _)
  ·exact G6 h A5 v
 unfold Km at s
 simp only at v H s⊢
 split at s
 ·rename_i t
  split at s
  case h_2=>exact s.elim
  rename_i d i hi
  split at s
  case h_2=>exact s.elim
  rename_i z zs A
  have M:=K1 (r:=r) ((D _ _ hi).flt _ A)
  have N:=MG (x':=fun g=>.ptr (l+1,d) g 0) L h H (fun g=>by simp[ren,L.own]) s
  rw[M]at N
  simp only[Bw,(D _ _ hi).zer _ A]
  exact⟨by simp,PD N⟩
 ·rename_i t x
  split at s
  case h_2=>exact s.elim
  rename_i d z zs A O
  have hx:=ops v (fun _ _ _ e=>by cases e) x (by simp[Op.operands])
  have N:=MG (x':=fun g=>.ptr (l+1,d) g 0) L h H (fun g=>by simp[ren,L.own]) s
  have E:=O8 (r:=r) A (PI O)
  simp only[Bw,hx,E]
  refine⟨ZvP (by simp),?_⟩
  rw[CF]
  exact PD N
 ·rename_i t p x
  split at s
  case h_2=>exact s.elim
  rename_i i hi O
  have hx:=ops v (fun _ _ _ e=>by cases e) x (by simp[Op.operands])
  have hpp:=ops v (fun _ _ _ e=>by cases e) p (by simp[Op.operands])
  cases A:CW (ev τ.s x)with
  |none=>rw[A]at s;unfold P8 at s;split at s<;>first|exact s.elim|(rename_i e;cases e)
  |some vs=>
   rw[A]at s
   have E:=O8 (r:=r) A (PI O)
   obtain⟨k,g,off,R,Y,Z,e4,e5,e6,e7,e8⟩:=yQ L h (D _ _ hi) s
   simp only[Bw,hpp,hx,E,R]
   exact⟨Y,Z,e4,e5,e6,e7,.of e8⟩
 ·rename_i t len parts
  split at s
  case h_2=>exact s.elim
  rename_i d i hi
  split at s
  case h_2=>exact s.elim
  rename_i e sz he
  simp only[Bw,(D _ _ hi).elm _ he]
  split at s
  ·rename_i u
   have u:=Yh u
   refine⟨by omega,?_⟩
   split at s
   ·rename_i hps
    obtain⟨I,G⟩:=TN h H (y:=.e0) ⟨.e0,a,by simp[ren],s⟩
    exact⟨by rw[←HE,hps];rfl,I,.of G⟩
   ·exact s.elim
  ·rename_i len' u
   have u:=Yh u
   refine⟨by omega,?_⟩
   split at s
   case h_2=>exact s.elim
   rename_i j V W
   split at s
   case h_2=>exact s.elim
   rename_i z A
   split at s
   case h_2=>exact s.elim
   rename_i es F J
   split at s
   case h_2=>exact s.elim
   rename_i hes
   have R:(parts.toList.map fun p=>(p.1,ev σ.s p.2))=parts.toList.map fun p=>(p.1,ev τ.s p.2):=by
    have:(parts.toList.map fun p=>(p.1,ev σ.s p.2))=(parts.toList.map fun p=>(p.1,ev τ.s p.2)).map fun p=>(p.1,ren r p.2):=by
     rw[IZ]
     refine Ep fun p s=>?_
     simp only[Function.comp]
     rw[ops v (fun _ _ _ e=>by cases e) p.2 (by simp only[Op.operands,N8,YV];exact⟨p,s,rfl⟩)]
    rw[this,TW J]
   rw[R]
   simp only[(D _ _ V).zer _ A,J]
   obtain⟨I,G⟩:=TN h H (y:=.d (.list es)) ⟨.d (.list es),a,by simp[ren],s⟩
   exact⟨Yh W,Yd F,Yd hes,I,.of G⟩
  ·exact s.elim
 ·rename_i t x y
  split at s
  case h_2=>exact s.elim
  rename_i d i k1 c k2 c' m C b hi hx0 hy0
  have hx:=ops v (fun _ _ _ e=>by cases e) x (by simp[Op.operands])
  have hy:=ops v (fun _ _ _ e=>by cases e) y (by simp[Op.operands])
  rw[hx0]at hx
  rw[hy0]at hy
  split at s
  case h_2=>exact s.elim
  rename_i e sz he
  split at s
  case h_2=>exact s.elim
  rename_i j V u
  split at s
  case h_2=>exact s.elim
  rename_i z byt A S
  split at s
  case h_2=>exact s.elim
  rename_i F
  obtain⟨⟨m1,m2,m3,m4⟩,s⟩:=s
  have F:=Yd F
  have u:=Yh u
  have hb:=(D _ _ V).byt _ S
  have hfz:=(D _ _ V).flt _ A
  have U:C.all AV.flat=true:=by
   subst m4
   refine Yu.2 fun q hq=>?_
   obtain⟨z',E,X⟩:=Rv.1 hq
   rw[(Xg.1 E).2]at X
   exact Yu.1 hfz q X
  have M:=K1 (r:=r) U
  have N:=MG (x':=fun g=>.ref (l+1,d) g 0 m) L h H (fun g=>by simp[ren,L.own]) s
  rw[M]at N
  simp only[Bw,(D _ _ hi).elm _ he,hx,hy,ren,(D _ _ V).zer _ A]
  subst m1
  have hbb:(P.bytesOf e:Int)*c'≤(byt:Int)*c':=jA (by omega) (by omega)
  refine⟨by omega,m2,by omega,hb.2,by omega,F,?_⟩
  simp only[YP,m4]
  exact PD N
 ·rename_i c
  split at s
  ·rename_i w
   split at s
   case h_2=>exact s.elim
   rename_i d x y t t' ha ht
   split at s
   case h_2=>exact s.elim
   rename_i Q
   have Q:=Yd Q
   subst Q
   have G:c.argTypes=#[t,t]:=C9 (by simpa using ht)
   have hx:=ops v (fun _ _ _ e=>by cases e) x (by simp only[Op.operands,Call.operands,N7];exact .inr (by rw[←Xa,ha];simp))
   have hy:=ops v (fun _ _ _ e=>by cases e) y (by simp only[Op.operands,Call.operands,N7];exact .inr (by rw[←Xa,ha];simp))
   simp only[Bw,w,ha,ht]
   refine⟨by rw[G];rfl,?_⟩
   rw[hx,hy]
   exact Zrr L D h H s
  ·rename_i hna
   split at s
   case h_2=>exact s.elim
   rename_i d
   unfold pV at s
   simp only at s
   split at s
   ·rename_i f w
    obtain⟨i,first,caps,x,a',R,Y,Z⟩:=dZ h A5 (fun b e=>by cases e) w v s
    simp only[Bw,w,R]
    refine Y.mono fun y H' ⟨I,G⟩=>?_
    subst I;subst G
    obtain⟨I,G⟩:=TN h H (y:=ren r x) ⟨x,a',rfl,Z⟩
    exact⟨I,.of G⟩
   ·rename_i hnv
    refine ZsC (o:=⟨some d,.call c,ty,ps,af,gd⟩) D h rfl v H s ?_
    simp only[Bw]
 ·rename_i I G h3 h4 h5 h6
  split at s
  case h_2=>exact s.elim
  rename_i d
  have hp':tV T τ.H op (ev τ.s) none a (Fh n d K τ):=by
   unfold pV at s
   split at s
   ·exact absurd rfl (h6 _)
   ·exact absurd rfl (h4 _ _ _)
   ·exact s
  refine ZsC (o:=⟨some d,op,ty,ps,af,gd⟩) D h rfl v H hp' ?_
  simp only[Bw]
theorem ZqO{d:Option Nat}{v y:AV}{c:Hp}(f:FO env d=true){τ':St}(h:RG r l outs env ⟨τ.s,τ'.H⟩ ⟨σ.s,c⟩)(hy:y=ren r v)(b:RV n K τ.s τ'.H v a d):
  CC n d (KA r l n outs B (Dx env d) K) ⟨σ.s,c⟩ y:=by
 cases d with
 |none=>exact .of ⟨_,_,b,h⟩
 |some d=>
  simp only[RV]at b
  split at b
  ·rename_i e;exact⟨Yh e,.of ⟨_,_,b,h.put0 f hy⟩⟩
  ·exact b.elim
theorem eq(Q:RenOk r l outs)(A:A8 P T)(h:RG r l outs env τ σ)(s:Cf env [] o.op=true)(hf:FO env o.dst=true)(d:Jb P T l n r o a K τ):CV P l n B o (KA r l n outs B (Dx env o.dst) K) σ:=by
 have ops:∀{op:Op},Cf env [] op=true→(∀c x y,op≠.pick c x y)→∀x∈op.operands,ev σ.s x=ren r (ev τ.s x):=fun {op} s hne=>by
  unfold Cf at s
  split at s
  ·exact absurd rfl (hne _ _ _)
  ·exact G6 h A5 s
 unfold Jb at d
 split at d
 case h_2=>exact ME (ZoC Q A h s hf d)
 rename_i c ho
 split at d
 ·rename_i f
  split at d
  case h_2=>exact d.elim
  rename_i x y t t' ha ht
  have u:o.op=.call ⟨.builtin .copy,#[x,y],#[t,t']⟩:=by
   rw[ho]
   have C:c.args=#[x,y]:=C9 (by simpa using ha)
   have O:c.argTypes=#[t,t']:=C9 (by simpa using ht)
   cases c;simp only at f C O;subst f;subst C;subst O;rfl
  rw[u]at s
  have hx:=ops s (fun _ _ _ e=>by cases e) x (by simp[Op.operands,Call.operands])
  have hy:=ops s (fun _ _ _ e=>by cases e) y (by simp[Op.operands,Call.operands])
  unfold vY at d
  split at d
  case h_2=>exact d.elim
  rename_i i i' hi hi'
  split at d
  case h_2=>exact d.elim
  rename_i e sz e' sz' he he'
  split at d
  case h_2=>exact d.elim
  rename_i j q1 q2 V w Y
  split at d
  case h_2=>exact d.elim
  rename_i z k q off cn cnt news N b Z J
  split at d
  case h_2=>exact d.elim
  rename_i hl m
  obtain⟨h1,h2,h3,H⟩:=d
  obtain⟨H,I,p⟩:=Uz Q h (Ey hl).2 H
  have q1:=Yd q1
  have q2:=Yd q2
  subst q1;subst q2
  have m:=Yd m
  have w:=Yh w
  obtain⟨D,E,S,F,G⟩:=h.h.at hl
  obtain⟨C,O⟩:=fk h Y h1
  rw[J]at hx
  obtain⟨s1,s2⟩:=h3
  obtain⟨ss,M⟩:=σ
  refine Zyl (k:=r.κ k) (g:=r.γ k+q) (off:=off) (cn:=cn) (cnt:=cnt) (news:=Ao r news) u (by rw[hx];simp[ren]) ((A _ _ hi).elm _ he) ((A _ _ hi').elm _ he') (by rw[(A _ _ V).zer _ Z];rfl) (by omega) D E (by rw[F,m]) (by rw[hy];exact C) h2
   (by rw[G,CF,CF];exact s1) p ?_
  have U:=RG.updH Q h k ⟨q,true,(τ.H k).e,(τ.H k).sz,N⟩ rfl I
  have R:AL r k ⟨q,true,(τ.H k).e,(τ.H k).sz,N⟩={M (r.κ k)with cells:=(M (r.κ k)).cells.take (off*sz)++Ao r news++(M (r.κ k)).cells.drop (off*sz+(Ao r news).length) }:=by
   simp only at D E S F G
   simp only[AL,G,CF,FI,EY,←G4,s2,D,S,F,←E]
  simp only at R
  rw[R]at U
  refine ZqO (v:=.d (.int .i64 cnt)) (a:=b) (τ':=⟨τ.s,updH τ.H k ⟨q,true,(τ.H k).e,(τ.H k).sz,N⟩⟩) hf U (by simp[ren]) H
 ·rename_i f
  split at d
  case h_2=>exact d.elim
  rename_i x t ha ht hd
  have u:o.op=.call ⟨.builtin .clear,#[x],#[t]⟩:=by
   rw[ho]
   have C:c.args=#[x]:=C9 (by simpa using ha)
   have O:c.argTypes=#[t]:=C9 (by simpa using ht)
   cases c;simp only at f C O;subst f;subst C;subst O;rfl
  rw[u]at s
  have hx:=ops s (fun _ _ _ e=>by cases e) x (by simp[Op.operands,Call.operands])
  unfold kA at d
  split at d
  case h_2=>exact d.elim
  rename_i i hi
  split at d
  case h_2=>exact d.elim
  rename_i e sz he
  split at d
  case h_2=>exact d.elim
  rename_i j V w
  split at d
  case h_2=>exact d.elim
  rename_i z k q off cn N b Z J
  split at d
  case h_2=>exact d.elim
  rename_i hl m L
  obtain⟨⟨h1,h2⟩,H⟩:=d
  obtain⟨H,I,p⟩:=Uz Q h (Ey hl).2 H
  have m:=Yd m
  have w:=Yh w
  have L:=Yd L
  obtain⟨D,E,S,F,G⟩:=h.h.at hl
  have hfz:=K1 (r:=r) ((A _ _ V).flt _ Z)
  rw[hfz]at p
  rw[J]at hx
  obtain⟨ss,M⟩:=σ
  refine Zs7 (k:=r.κ k) (g:=r.γ k+q) (off:=off) (cn:=cn) u hd (by rw[hx];simp[ren]) ((A _ _ hi).elm _ he) ((A _ _ V).zer _ Z) L (by omega) D E (by rw[F,m]) (by rw[G,CF];exact h1) p ?_
  have U:=RG.updH Q h k ⟨q,true,(τ.H k).e,(τ.H k).sz,N⟩ rfl I
  have X:Ao r (List.replicate cn z).flatten=(List.replicate cn z).flatten:=K1 (by
   refine Yu.2 fun q hq=>?_
   obtain⟨z',hz',W⟩:=Rv.1 hq
   rw[(Xg.1 hz').2]at W
   exact Yu.1 ((A _ _ V).flt _ Z) q W)
  have R:AL r k ⟨q,true,(τ.H k).e,(τ.H k).sz,N⟩={M (r.κ k)with cells:=(M (r.κ k)).cells.take (off*sz)++(List.replicate cn z).flatten++(M (r.κ k)).cells.drop ((off+cn)*sz) }:=by
   simp only at D E S F G
   rw[←h2]
   simp only[AL,G,G4,FI,EY,X,D,S,F,←E]
  simp only at R
  rw[R]at U
  exact .of ⟨_,_,H,by rw[hd];exact U⟩
 ·exact ME (ZoC Q A h s hf d)
theorem rm{a:Nat→Option (Nat×Nat)}:∀(ps:List (Nat×AV)) (z cs:List AV),(∀p∈ps,Jl p.2=true)→Cy a z ps=some cs→Cy a (Ao r z) (ps.map fun p=>(p.1,ren r p.2))=some (Ao r cs)
 |[],z,cs,_,h=>by
  simp only[Cy,Yk]at h
  subst h
  simp[Cy]
 |(f,v)::ps,z,cs,d,h=>by
  simp only[Cy]at h
  split at h
  ·rename_i off size vs b g
   split at h
   ·cases h
   ·rename_i e
    have c:=O8 (r:=r) g (PI (d (f,v) (Yz ..)))
    simp only[YS,Cy,b,c,CF]
    rw[Ym e]
    have:=rm ps _ cs (fun p b=>d p (Yw _ b)) h
    rw[←this]
    simp only[G4,FI,EY]
  ·cases h
theorem ZMI(d:Cv o=true)(b:Kj P T l n r o a K τ):Jb P T l n r o a K τ:=by
 unfold Kj at b
 split at b
 ·rename_i c;simp[Cv,c]at d
 ·exact b
theorem ZwQ(w:RenOk r l outs)(m:A8 P T)(h:RG r l outs env τ σ)(k:Cf env [] o.op=true)(u:FO env o.dst=true)(c:Kj P T l n r o a K τ):CV P l n B o (KA r l n outs B (Dx env o.dst) K) σ:=by
 unfold Kj at c
 split at c
 case h_2=>exact eq w m h k u c
 rename_i t len parts D
 split at c
 case h_2=>exact eq w m h k u c
 case h_3=>exact eq w m h k u c
 rename_i b
 have ops:∀x∈o.op.operands,ev σ.s x=ren r (ev τ.s x):=by
  unfold Cf at k
  split at k
  ·rename_i e;rw[D]at e;cases e
  ·exact G6 h A5 k
 unfold lD at c
 split at c
 case h_2=>exact c.elim
 rename_i d i I hi
 split at c
 case h_2=>exact c.elim
 rename_i e sz he
 split at c
 case h_2=>exact c.elim
 rename_i j J E v
 split at c
 case h_2=>exact c.elim
 rename_i z M
 split at c
 case h_2=>exact c.elim
 rename_i cs F f C
 split at c
 case h_2=>exact c.elim
 rename_i A
 have G:(parts.toList.map fun p=>(p.1,ev σ.s p.2))=(parts.toList.map fun p=>(p.1,ev τ.s p.2)).map fun p=>(p.1,ren r p.2):=by
  rw[IZ]
  refine Ep fun p c=>?_
  rw[ops p.2 (by rw[D];simp only[Op.operands,N8,YV];exact⟨p,c,rfl⟩)]
  rfl
 have q:o.dst=some d:=I
 rw[q]at u⊢
 have L:=MG (x':=fun g=>.ref (l+1,d) g 0 (len+1)) w h u (fun g=>by simp[ren,w.own]) c
 obtain⟨s,H⟩:=σ
 exact yE D q ((m _ _ hi).elm _ he) (by have:=Yh E;omega) (Yh v) ((m _ _ J).zer _ M) (Yd F) (by
  rw[G]
  have:=rm (r:=r) _ _ _ (fun p c=>Yu.1 C p c) f
  rw[K1 (r:=r) (z:=(List.replicate (len+1) z).flatten) (Yu.2 fun x hx=>by
   obtain⟨y,hy,hx⟩:=Rv.1 hx
   rw[List.eq_of_mem_replicate hy]at hx
   exact Yu.1 A x hx)]at this
  exact this) (PD L)
theorem ZMv(c:Cv o=true)(b:KQ P T l n r o a K τ):Kj P T l n r o a K τ:=by
 exact b
theorem zW(f:RenOk r l outs)(b:A8 P T)(h:RG r l outs env τ σ)(c:Cf env [] o.op=true)(d:FO env o.dst=true)(e:KQ P T l n r o a K τ):CV P l n B o (KA r l n outs B (Dx env o.dst) K) σ:=by
 exact ZwQ f b h c d e
end
end Go.Eng
namespace Go.Eng
set_option linter.all false
open Go Go.RowKit
section
variable {P:Program} {T:Nat→Option TI} {r:Ren} {l n outs:Nat} {B:Base} {env:BP} {τ σ:St} {a:AT} {o:Oper}
theorem rG{H:Hp}{op:Op}{ρ:Operand→AV}{g:Option Bool}{K:AV→AT→Prop}(h:tV T H op ρ g a K):∃v b,K v b:=by
 have fin:∀{v b},K v b→∃v b,K v b:=fun h=>⟨_,_,h⟩
 cases op<;>simp only[tV]at h<;>try exact h.elim
 case move x=>exact fin h
 case assign x=>exact fin h
 case pick c x y=>split at h<;>first|exact fin h|exact h.elim
 case load t x=>
  split at h
  ·unfold M7 at h
   repeat' split at h
   all_goals first|exact h.elim|exact fin h|exact fin h.2
  ·grind
 case fieldAddr t x f=>
  split at h
  ·unfold Tn at h
   grind
  ·grind
 case field t x f=>
  split at h
  ·unfold UW at h
   grind
  ·grind
 case indexAddr t x j=>
  split at h
  ·unfold To at h
   grind
  ·grind
 case index t x j=>
  split at h
  ·unfold UJ at h
   grind
  ·grind
 case extract x j=>
  repeat' split at h
  all_goals first|exact h.elim|exact fin h
 case makeInterface t x=>
  repeat' split at h
  all_goals first|exact h.elim|exact fin h
 case typeAssert x u t ok=>
  repeat' split at h
  all_goals first|exact h.elim|exact fin h
 case binOp o t x y u=>
  split at h
  ·unfold Ss at h
   split at h
   ·split at h
    ·unfold SL at h
     grind
    grind
   ·unfold SH at h
    grind
   ·grind
   ·grind
   ·split at h
    ·have nl:∀{neg:Bool} {x:AV},Mh H neg x a K→∃v b,K v b:=fun {neg x} h=>by
      unfold Mh at h
      repeat' split at h
      all_goals first|exact h.elim|exact fin (h true)|exact fin (h neg (fun _=>rfl))
     grind
    grind
   grind
  ·grind
 case unOp o t x=>
  unfold WK at h
  repeat' split at h
  all_goals first|exact h.elim|exact fin h|exact fin h.2
 case nilCheck x=>
  split at h
  ·grind
  ·grind
  ·grind
 case convert s d x=>
  split at h
  ·unfold VQ at h
   grind
  ·grind
 case makeFunc fn first e=>split at h<;>first|exact h.elim|exact fin h
 case slice t x lo hi k=>
  split at h
  ·unfold UD at h
   grind
  ·grind
 case build t parts=>
  split at h
  ·unfold Uw at h
   grind
  ·grind
 case lookup t x y i=>
  split at h
  ·unfold VU at h
   grind
  ·grind
 case call c=>
  split at h
  ·split at h
   ·unfold SM at h
    grind
   grind
  ·unfold Em at h
   grind
  ·unfold Em at h
   grind
  ·unfold Ho at h
   grind
  ·grind
theorem Zb{op:Op}{g:Option Bool}{K:AV→AT→Prop}(h:pV P T l r τ op g a K):∃v b,K v b:=by
 unfold pV at h
 split at h
 ·split at h
  ·unfold Vi at h
   grind
  ·exact rG h
 ·unfold WB at h
  repeat' split at h
  all_goals first|exact h.elim|exact⟨_,_,h⟩
 ·exact rG h
def Yl(r:Ren)(e:Nat)(K:AV→AT→Prop)(σ b:St):Prop:=∃v a,b=⟨upd σ.s e (ren r v),σ.H⟩∧K v a
theorem kn(E:A8 P T)(h:RG r l outs env τ σ){c:CS}(hs:C6 τ.s c){g:Option Bool}(M:∀b,g=some b→b=true){e:Nat}{op:Op}{ty:TypeId}{ps:String}{af:Array Edge}{gd:Option (Nat×Bool)}
  (hx:Cf env c op=true) (q:e<n) {K:AV→AT→Prop} (d:pV P T l r τ op g a K):Bw P l n ⟨some e,op,ty,ps,af,gd⟩ (Yl r e K σ) σ:=by
 have val:tV T τ.H op (ev τ.s) g a K→Bw P l n ⟨some e,op,ty,ps,af,gd⟩ (Yl r e K σ) σ=A2 P σ.H op (ev σ.s) (CC n (some e) (Yl r e K σ) σ)→Bw P l n ⟨some e,op,ty,ps,af,gd⟩ (Yl r e K σ) σ:=fun C D=>by
  rw[D]
  exact Ue (fun y ⟨v,A,u,B⟩=>⟨q,v,A,by rw[u],B⟩) (mL E h hs M hx C)
 unfold pV at d
 split at d
 ·rename_i c
  split at d
  ·rename_i f k
   obtain⟨i,first,L,x,A,u,B,O⟩:=dZ h hs M k hx d
   simp only[Bw,k,u]
   exact B.mono fun y V ⟨C,D⟩=>by subst C;subst D;exact⟨q,x,A,rfl,O⟩
  ·rename_i G
   refine val d ?_
   cases k:c.callee with
   |value f=>exact absurd k (G f)
   |invoke x m=>simp only[tV,k]at d
   |builtin b=>
    cases b<;>simp only[tV,k]at d<;>simp only[Bw,k]
 ·rename_i t len parts
  have I:(Op.buildSlice t len parts).operands.toList.all (IM env c)=true:=hx
  have u:(parts.toList.map fun p=>(p.1,ev σ.s p.2))=(parts.toList.map fun p=>(p.1,ev τ.s p.2)).map fun p=>(p.1,ren r p.2):=by
   rw[IZ]
   refine Ep fun p d=>?_
   simp only[Function.comp]
   rw[G6 h hs I p.2 (by simp only[Op.operands,N8,YV];exact⟨p,d,rfl⟩)]
  unfold WB at d
  split at d
  case h_2=>exact d.elim
  rename_i i hi
  split at d
  case h_2=>exact d.elim
  rename_i e' sz he
  simp only[Bw,(E _ _ hi).elm _ he]
  split at d
  ·rename_i o
   have o:=Yh o
   refine⟨by omega,?_⟩
   split at d
   ·rename_i H
    exact⟨by rw[←HE,H];rfl,q,.e0,a,by simp[ren],d⟩
   grind
  ·rename_i N o
   have o:=Yh o
   refine⟨by omega,?_⟩
   split at d
   case h_2=>exact d.elim
   rename_i j S w
   split at d
   case h_2=>exact d.elim
   rename_i z U
   split at d
   case h_2=>exact d.elim
   rename_i Q J s
   split at d
   case h_2=>exact d.elim
   rename_i F
   rw[TW s]at u
   rw[u]
   simp only[(E _ _ S).zer _ U,s]
   exact⟨Yh w,Yd J,Yd F,q,.d (.list Q),a,by simp[ren],d⟩
  grind
 ·rename_i R W
  refine val d ?_
  cases op<;>simp only[tV]at d<;>try exact d.elim
  case call c=>exact absurd rfl (R c)
  all_goals simp only[Bw]
theorem lH(y:A8 P T)(h:RG r l outs env τ σ){c:CS}(hs:C6 τ.s c){g:Option Bool}(G:∀b,g=some b→b=true){e:Nat}{op:Op}{ty:TypeId}{ps:String}{af:Array Edge}{gd:Option (Nat×Bool)}
  (hx:Cf env c op=true) (o:e<n) {K:AV→AT→Prop} (d:pV P T l r τ op g a K):FX P l n ⟨some e,op,ty,ps,af,gd⟩ (Yl r e K σ) σ:=by
 have C:=kn (ty:=ty) (ps:=ps) (af:=af) (gd:=gd) y h hs G hx o d
 unfold pV at d
 split at d
 ·rename_i c
  split at d
  ·rename_i f k
   obtain⟨i,first,F,x,I,v,J,L⟩:=dZ h hs G k hx d
   simp only[FX,k,v]
   exact⟨ren r x,J,o,x,I,rfl,L⟩
  ·rename_i B
   cases k:c.callee with
   |value f=>exact absurd k (B f)
   |_=>simp only[FX,k];exact C
 ·rename_i t len parts
  cases len with
  |zero=>exact C
  |succ len=>
   have D:(Op.buildSlice t (len+1) parts).operands.toList.all (IM env c)=true:=hx
   have v:(parts.toList.map fun p=>(p.1,ev σ.s p.2))=(parts.toList.map fun p=>(p.1,ev τ.s p.2)).map fun p=>(p.1,ren r p.2):=by
    rw[IZ]
    refine Ep fun p d=>?_
    simp only[Function.comp]
    rw[G6 h hs D p.2 (by simp only[Op.operands,N8,YV];exact⟨p,d,rfl⟩)]
   unfold WB at d
   split at d
   case h_2=>exact d.elim
   rename_i i hi
   split at d
   case h_2=>exact d.elim
   rename_i e' sz he
   split at d
   ·rename_i q;cases q
   ·rename_i H u q
    cases q
    have u:=Yh u
    split at d
    case h_2=>exact d.elim
    rename_i j O s
    split at d
    case h_2=>exact d.elim
    rename_i z Q
    split at d
    case h_2=>exact d.elim
    rename_i w E m
    split at d
    case h_2=>exact d.elim
    rename_i A
    rw[TW m]at v
    exact⟨.d (.list w),⟨e',sz,z,w,(y _ _ hi).elm _ he,by omega,Yh s,(y _ _ O).zer _ Q,Yd E,by rw[v];exact m,Yd A,rfl⟩,o,.d (.list w),a,by simp[ren],d⟩
   ·exact d.elim
 ·rename_i M N
  cases op<;>first|exact absurd rfl (M _)|exact absurd rfl (N _ _ _)|exact C
theorem Po{d:Nat}{e:TypeId}{sz:Nat}{cells:List AV}{x:Nat→AV}{K a:St→Prop}(b:∀σ,K σ→a σ)(h:Ed l n d e sz cells x K σ):Ed l n d e sz cells x a σ:=⟨h.1,b _ h.2⟩
theorem Zty{o:Oper}{K b:St→Prop}(a:∀σ,K σ→b σ)(h:Bw P l n o K σ):Bw P l n o b σ:=by
 have i:∀x,CC n o.dst K σ x→CC n o.dst b σ x:=fun x h=>by
  unfold CC at h⊢
  grind
 unfold Bw at h⊢
 split at h
 ·split at h
  ·exact⟨h.1,Po a h.2⟩
  grind
 ·split at h
  ·exact⟨h.1,Po a h.2⟩
  grind
 ·grind
 ·split at h
  ·refine⟨h.1,?_⟩
   replace h:=h.2
   split at h
   ·grind
   ·refine⟨h.1,?_⟩
    replace h:=h.2
    split at h
    ·refine⟨h.1,?_⟩
     replace h:=h.2
     split at h
     ·grind
     ·split at h
      ·exact Po a h
      grind
    grind
  grind
 ·split at h
  ·obtain⟨c,d,f,j,k,h⟩:=h
   refine⟨c,d,f,j,k,?_⟩
   split at h
   ·exact⟨h.1,Po a h.2⟩
   grind
  grind
 ·split at h
  ·split at h
   ·exact h.mono fun r m g=>by
     unfold OG at g⊢
     unfold CC at g⊢
     grind
   grind
  ·split at h
   ·refine⟨h.1,?_⟩
    replace h:=h.2
    unfold Mk at h⊢
    split at h
    ·obtain⟨c,d,f,h⟩:=h
     refine⟨c,d,f,?_⟩
     split at h
     ·refine⟨h.1,?_⟩
      replace h:=h.2
      split at h
      ·exact⟨h.1,fun e=>⟨(h.2.1 e).1,a _ (h.2.1 e).2⟩,fun e=>Po a (h.2.2 e)⟩
      ·grind
      grind
     grind
    grind
   grind
  ·exact Ue i h
 ·exact Ue i h
theorem TK{o:Oper}{K a:St→Prop}(b:∀σ,K σ→a σ)(h:FX P l n o K σ):FX P l n o a σ:=by
 have e:∀{x},CC n o.dst K σ x→CC n o.dst a σ x:=fun {x} h=>by
  unfold CC at h⊢
  grind
 unfold FX at h⊢
 split at h
 ·obtain⟨v,c,d⟩:=h;exact⟨v,c,e d⟩
 ·split at h
  ·grind
  ·exact Zty b h
 ·exact Zty b h
theorem zG(h:RG r l outs env τ σ){ds:List (Option Nat)}{i d:Nat}{b g:Bool}(j:Bk ds i=some (some d))(a:Hb τ.s ((d,b)::lk env d)=some g):IQ σ.s ds i b=some g:=by
 rw[Cn]at j
 have f:=MC a
 unfold IQ
 simp only[j]
 by_cases hs:C6 τ.s (lk env d)
 ·have k:=(h.s d).1 hs
  have m:∃t,τ.s d=.d (.bool t):=by
   cases hl:lk env d with
   |nil=>
    rw[hl]at a
    simp only[Hb]at a
    grind
   |cons q o=>
    rw[hl]at a
    simp only[Hb]at a
    grind
  obtain⟨t,n⟩:=m
  rw[k,n]
  simp only[ren,Yk]
  cases g with
  |true=>
   have:=f.1 rfl (d,b) (Yz ..)
   grind
  |false=>
   cases e:t==b with
   |false=>rfl
   |true=>
    exfalso
    have e:t=b:=by simpa using e
    have:C6 τ.s ((d,b)::lk env d):=fun q c=>by
     rcases Yx.1 c with rfl|c
     ·grind
     ·exact hs q c
    grind
 ·rw[(h.s d).2 hs]
  simp only[Yk]
  cases g with
  |false=>rfl
  |true=>exact absurd (fun q c=>f.1 rfl q (Yw _ c)) hs
theorem MF(F:RenOk r l outs)(A:A8 P T){ops:Array Oper}{K:St→BP→AT→Prop}{QQ:Exit→Act→World→Prop}(more:List Oper)
  (D:∀τ' k u G f w',K τ' k u→RG r l outs k τ' G→R l n B G f w'→wpList P ops QQ more f w'):
  ∀(c:List Oper) (env:BP) (a:AT) (τ σ:St) (act:Act) (w:World),FZ P T l n r (ops.toList.map (·.dst)) c env a K τ→RG r l outs env τ σ→R l n B σ act w→wpList P ops QQ (c++more) act w
 |[],env,a,τ,σ,act,w,h,p,x=>D _ _ _ _ _ _ h p x
 |o::c,env,a,τ,σ,act,w,h,p,x=>by
  unfold FZ at h
  split at h
  ·rename_i E
   split at h
   ·rename_i V Z
    refine dm (by simp[Region.wanted,E]) (zW (B:=B) F A p V Z h) x fun G f w' I q=>?_
    obtain⟨σ'',⟨τ',u,z,N⟩,O⟩:=I
    exact MF F A more D c _ _ _ _ _ _ z N (O _ _ q)
   grind
  ·rename_i i b E
   split at h
   case h_2=>exact h.elim
   rename_i d e W he
   split at h
   case h_2=>exact h.elim
   rename_i g t hx j C
   simp only[Yc]at j
   have C:=Yh C
   have J:=zG p W t
   have hy:(yielded ops act.tmps i==some b)=g:=by
    obtain⟨s,H⟩:=σ
    obtain⟨m,S,hO,L,X,Q,Y⟩:=x.un
    exact zO Q J
   cases g with
   |true=>
    have hs:=(MC t).1 rfl
    refine dm (by simp only[Region.wanted,E];exact hy) (σ:=σ) (B:=B) (l:=l) (n:=n) (KK:=Yl r e (fun v u=>FZ P T l n r (ops.toList.map (·.dst)) c ((e,(d,b)::lk env d)::env) u K ⟨upd τ.s e v,τ.H⟩) σ) (ME ?_) x fun G f w' U q=>?_
    ·obtain⟨M,op,ty,ps,af,gd⟩:=o
     simp only at he
     subst he
     exact kn A p hs (fun b' e'=>by cases e';rfl) hx (by omega) h
    ·obtain⟨v,u,rfl,z⟩:=U
     exact MF F A more D c _ _ _ _ _ _ z (p.put j.1 j.2 (fun _=>rfl) (fun L=>absurd hs L)) q
   |false=>
    have hs:¬C6 τ.s ((d,b)::lk env d):=fun hs=>by have:=(MC t).2 hs;cases this
    obtain⟨v,u,z⟩:=Zb h
    show wpList P ops QQ (o::(c++more)) act w
    unfold wpList
    rw[Ym (by simp only[Region.wanted,E,hy];decide),he]
    exact MF F A more D c _ _ _ _ _ _ z (p.put j.1 j.2 (y:=.tup []) (fun h=>absurd h hs) (fun _=>rfl)) (R.undef x (by omega))
theorem MK(L:RenOk r l outs)(B:A8 P T){ds:List (Option Nat)}{K:St→BP→AT→Prop}:
  ∀(rest:List Oper) (env:BP) (a:AT) (τ σ:St),rest.all (fun o=>CY o||BY o)=true→Hc P T l n r ds rest env a K τ→RG r l outs env τ σ→DT P l n ds rest (fun Y=>∃τ' z f,K τ' z f∧RG r l outs z τ' Y) σ
 |[],env,a,τ,σ,_,h,u=>⟨_,_,_,h,u⟩
 |o::rest,env,a,τ,σ,w,h,u=>by
  simp only[IY,Yc]at w
  unfold Hc at h
  unfold DT
  split at h
  ·rename_i G
   simp only[G]
   split at h
   case h_2=>exact h.elim
   rename_i I Z
   by_cases H:BY o=true
   ·obtain⟨j,op,ty,ps,af,gd⟩:=o
    cases op<;>simp only[BY]at H<;>first|(cases H;done)|skip
    rename_i t p x
    cases j with
    |some d=>cases H
    |none=>
     unfold aM at h
     simp only at h
     unfold KQ Kj Jb Km at h
     simp only at h I
     split at h
     case h_2=>exact h.elim
     rename_i i hi U
     have A:∀y∈(Op.store t p x).operands,ev σ.s y=ren r (ev τ.s y):=by
      unfold Cf at I
      exact G6 u A5 I
     have hx:=A x (by simp[Op.operands])
     have V:=A p (by simp[Op.operands])
     cases W:CW (ev τ.s x)with
     |none=>rw[W]at h;unfold P8 at h;split at h<;>first|exact h.elim|(rename_i e;cases e)
     |some vs=>
      rw[W]at h
      have X:=O8 (r:=r) W (PI U)
      obtain⟨k,g,off,M,e2,e3,e4,e5,e6,e7,e8⟩:=yQ L u (B _ _ hi) h
      obtain⟨τ',f,m,h2⟩:=e8
      simp only[FX,Bw,V,hx,X,M]
      exact⟨e2,e3,e4,e5,e6,e7,MK L B rest _ _ _ _ w.2 m h2⟩
   have J:CY o=true:=by
    grind
   replace w:CY o=true∧_:=⟨J,w.2⟩
   obtain⟨j,op,ty,ps,af,gd⟩:=o
   have E:∃d,j=some d:=by
    have:=w.1
    unfold CY Cv at this
    rw[YH,Yc,Yc]at this
    rcases this with h|h
    ·exact Y5.1 h.1
    ·exact Y5.1 h.1
   obtain⟨d,rfl⟩:=E
   simp only at I Z G
   have hp:pV P T l r τ op none a (Fh n d (fun τ' f=>Hc P T l n r ds rest (Dx env (some d)) f K τ') τ):=by
    by_cases C:∃t len p,op=.buildSlice t (len+1) p
    ·obtain⟨t,len,p,rfl⟩:=C
     exact h
    ·have c:Cv ⟨some d,op,ty,ps,af,gd⟩=true:=em w.1 fun t len p e=>C ⟨t,len,p,e⟩
     have h:KQ P T l n r ⟨some d,op,ty,ps,af,gd⟩ a (fun τ' f=>Hc P T l n r ds rest (Dx env (some d)) f K τ') τ:=by
      unfold aM at h
      split at h
      ·rename_i M _;exact absurd ⟨_,_,_,M⟩ C
      ·exact h
     have h:=ZMI c (ZMv c h)
     unfold Jb at h
     simp only at h
     have h:Km P T l n r ⟨some d,op,ty,ps,af,none⟩ a (fun τ' f=>Hc P T l n r ds rest (Dx env (some d)) f K τ') τ:=by
      subst G
      split at h
      ·split at h
       ·rename_i q;simp[Cv,q]at c
       ·grind
       ·exact h
      ·exact h
     unfold Km at h
     simp only at h
     split at h
     ·simp[Cv]at c
     ·simp[Cv]at c
     ·grind
     ·simp[Cv]at c
     ·simp[Cv]at c
     ·split at h
      ·rename_i q;simp[Cv,q]at c
      ·exact h
     ·exact h
   have Q:∃v f,Fh n d (fun τ' f=>Hc P T l n r ds rest (Dx env (some d)) f K τ') τ v f:=Zb hp
   have O:d<n:=by
    obtain⟨v,f,m⟩:=Q
    unfold Fh at m
    split at m
    ·rename_i E;have E:=Yh E;exact E
    grind
   have:=lH (ty:=ty) (ps:=ps) (af:=af) (gd:=gd) B u A5 (fun b e=>by cases e) I O hp
   refine TK (fun Y N=>?_) this
   obtain⟨v,f,rfl,m⟩:=N
   unfold Fh at m
   split at m
   ·exact MK L B rest _ _ _ _ w.2 m (u.put0 Z rfl)
   grind
  ·rename_i i b G
   have J:CY o=true:=by
    have:=w.1
    rw[YH]at this
    rcases this with h|h
    ·exact h
    ·exfalso
     obtain⟨j,op,ty,ps,af,gd⟩:=o
     simp only at G
     subst G
     cases op<;>cases j<;>simp[BY]at h
   simp only[G]
   split at h
   case h_2=>exact h.elim
   rename_i d e E he
   split at h
   case h_2=>exact h.elim
   rename_i g D hx s F
   simp only[Yc]at s
   have F:=Yh F
   rw[zG u E D]
   refine⟨fun S=>?_,fun R=>?_⟩
   ·subst S
    have hs:=(MC D).1 rfl
    obtain⟨j,op,ty,ps,af,gd⟩:=o
    simp only at he
    subst he
    refine TK (fun Y N=>?_) (lH (ty:=ty) (ps:=ps) (af:=af) (gd:=gd) B u hs (fun b' e'=>by cases e';rfl) hx (by omega) h)
    obtain⟨v,f,rfl,m⟩:=N
    exact MK L B rest _ _ _ _ w.2 m (u.put s.1 s.2 (fun _=>rfl) (fun hn=>absurd hs hn))
   ·subst R
    have hs:¬C6 τ.s ((d,b)::lk env d):=fun hs=>by have:=(MC D).2 hs;cases this
    obtain⟨v,f,m⟩:=Zb h
    rw[he]
    exact⟨F,MK L B rest _ _ _ _ w.2 m (u.put s.1 s.2 (y:=.tup []) (fun h=>absurd h hs) (fun _=>rfl))⟩
end
def AB:List (Nat×AV)→Nat→AV
 |[],_=>.top
 |(i,x)::r,j=>match Nat.beq i j with|true=>x|false=>AB r j
def Fk:Blk:=⟨0,false,0,0,[]⟩
def AC:List (Ad×Blk)→Ad→Blk
 |[],_=>Fk
 |(k,b)::r,q=>match Bz k q with|true=>b|false=>AC r q
def Ac(ss:List (Nat×AV))(hs:List (Ad×Blk)):St:=⟨AB ss,AC hs⟩
mutual
def Ek(H:Hp):AV→Option AV
 |.ref k g off n=>match BU H k g with|true=>some (.ref k 0 off n)|false=>none
 |.ptr k g off=>match BU H k g with|true=>some (.ptr k 0 off)|false=>none
 |.mp k g=>match BU H k g with|true=>some (.mp k 0)|false=>none
 |.fn f xs ys=>match IG H xs,IG H ys with|some xs,some ys=>some (.fn f xs ys)|_,_=>none
 |.agg xs=>match IG H xs with|some xs=>some (.agg xs)|none=>none
 |.tup xs=>match IG H xs with|some xs=>some (.tup xs)|none=>none
 |.top=>some .top
 |.d x=>some (.d x)
 |.e0=>some .e0
 |.p x=>some (.p x)
 |.iptr cs off=>some (.iptr cs off)
 |.ifc t ds a=>some (.ifc t ds a)
def IG(H:Hp):List AV→Option (List AV)
 |[]=>some []
 |x::xs=>match Ek H x,IG H xs with|some x,some xs=>some (x::xs)|_,_=>none
end
def iM(H:Hp)(x:AV):AV:=match Ek H x with|some v=>v|none=>.top
def MR(H:Hp)(s:Nat→AV):List Nat→List (Nat×AV)
 |[]=>[]
 |j::r=>(j,iM H (s j))::MR H s r
def Ih(cs:List AV):Prop:=∀x∈cs,x.flat=true
def MS(H:Hp):List (Ad×Bool)→(List (Ad×Blk)→Prop)→Prop
 |[],K=>K []
 |(k,fl)::r,K=>match (H k).live with
  |false=>MS H r K
  |true=>match fl with
   |true=>Ih (H k).cells∧MS H r (fun a=>K ((k,⟨0,true,(H k).e,(H k).sz,(H k).cells⟩)::a))
   |false=>match IG H (H k).cells with
    |some cs=>MS H r (fun a=>K ((k,⟨0,true,(H k).e,(H k).sz,cs⟩)::a))
    |none=>False
def RP:AV→Bool
 |.e0=>true
 |_=>false
def P4:List (Nat×Nat×TypeId×Nat)→St→(St→Prop)→Prop
 |[],τ,K=>K τ
 |(j,d,e,sz)::r,τ,K=>match RP (τ.s j),(τ.H (1,d)).live with
  |true,false=>P4 r ⟨upd τ.s j (.ref (1,d) ((τ.H (1,d)).g+1) 0 0),updH τ.H (1,d) ⟨(τ.H (1,d)).g+1,true,e,sz,[]⟩⟩ K
  |true,true=>False
  |false,_=>P4 r τ K
structure Lf where
 ls:List Nat
 ks:List (Ad×Bool):=[]
 ad:List (Nat×Nat×TypeId×Nat):=[]
 ze:List Nat:=[]
def NF:List Nat→St→St
 |[],τ=>τ
 |j::r,τ=>match RP (τ.s j)with|true=>NF r ⟨upd τ.s j (.d (.list [])),τ.H⟩|false=>NF r τ
def gz(H:Hp):List Nat→Bool
 |[]=>true
 |i::r=>Nat.beq (H (0,i)).g 0&&gz H r
def Eb(fx:List Nat)(f:Lf)(τ:St)(Φ:St→Prop):Prop:=P4 f.ad (NF f.ze τ) (fun τ=>match gz τ.H fx with|true=>MS τ.H f.ks (fun hs=>Φ (Ac (MR τ.H τ.s f.ls) hs))|false=>False)
structure Cx where
 l:Nat
 B:Base
 κ:Ad→Ad
 θ:Nat→AV
 H0:Hp
 outs:Nat
 no:Ad→Prop
 fx:List Nat
 G:(Ad→Nat)→Prop
def Cx.r(C:Cx)(γ:Ad→Nat):Ren:=⟨C.κ,γ,C.θ,C.H0,C.no⟩
structure CxOk (C:Cx):Prop where
 own:∀d,C.κ (1,d)=(C.l+1,d)
 out:∀i,i<C.outs→(C.κ (0,i)).1≤C.l
 inj:∀i j,i<C.outs→j<C.outs→C.κ (0,i)=C.κ (0,j)→i=j
 no:∀k,C.no k→∃i,i<C.outs∧C.κ (0,i)=k
 G:∀γ γ':Ad→Nat,(∀i∈C.fx,γ' (0,i)=γ (0,i))→C.G γ→C.G γ'
theorem CxOk.ren{C:Cx}(h:CxOk C)(γ:Ad→Nat):RenOk (C.r γ) C.l C.outs:=⟨h.own,h.out,h.inj,h.no⟩
def Wk(n:Nat)(C:Cx)(σ b:St):Prop:=∀a w,R C.l n C.B σ a w→R C.l n C.B b a w
def Is(n:Nat)(C:Cx)(Φ:St→Prop)(σ:St):Prop:=∃γ τ a,C.G γ∧Φ τ∧RG (C.r γ) C.l C.outs [] τ a∧Wk n C σ a
def LW(P:Program)(n:Nat)(C:Cx)(c:Code)(τ:St)(Q:Exit→St→Prop):Prop:=
 ∀γ σ,C.G γ→RG (C.r γ) C.l C.outs [] τ σ→BH P C.l n C.B c (fun e a=>Is n C (Q e) a) σ
def Vq(P:Program)(l n:Nat)(B:Base)(c:Code)(Q:Exit→St→Prop)(σ:St):Prop:=
 ∀a w,R l n B σ a w→∀(b:Frame) (k:List Item) (cs:List Frame),∃e d w',(∃f,Q e f∧R l n B f d w')∧Arrives P (lone (b.at a (.code c::.inLoop c::k)) cs w) b k cs e d w'
def LL(P:Program)(n:Nat)(C:Cx)(c:Code)(τ:St)(Q:Exit→St→Prop):Prop:=
 ∀γ σ,C.G γ→RG (C.r γ) C.l C.outs [] τ σ→Vq P C.l n C.B c (fun e a=>Is n C (Q e) a) σ
def DG(env:BP)(τ:St):St:=⟨fun j=>match lk env j with|[]=>τ.s j|_=>.top,τ.H⟩
def HB(C:List AV)(off n sz:Nat)(es:List (List D)):Prop:=es.length=n∧sz≠0∧(∀e∈es,e.length=sz)∧(off+n)*sz≤C.length∧(C.drop (off*sz)).take (n*sz)=es.flatten.map .d
def WF(H:Hp)(d:Nat)(s:Nat→AV)(A:Prop):List (Nat×List (List D))→Prop
 |[]=>A
 |(j,a)::r=>match s j with
  |.ref k q off m=>(match Bz k (1,d),BU H k q with|true,true=>HB (H (1,d)).cells off m (H (1,d)).sz a∧WF H d s A r|_,_=>False)
  |_=>False
def WC(H:Hp)(d:Nat)(A:Prop):List (Ad×Nat×List (List D))→Prop
 |[]=>A
 |(k,i,a)::r=>match Nat.beq k.1 1,Bz k (1,d),(H k).live,Bk (H k).cells i with
  |true,false,true,some (.ref k' q off m)=>(match Bz k' (1,d),BU H k' q with|true,true=>HB (H (1,d)).cells off m (H (1,d)).sz a∧WC H d A r|_,_=>False)
  |_,_,_,_=>False
def trK(r:Ren)(k:Ad)(A:Prop):Prop:=
 match Nat.beq k.1 1 with
 |true=>A
 |false=>LJ r k∧A
def WH(H:Hp)(d:Nat)(s:Nat→AV):List Nat→Bool
 |[]=>true
 |j::r=>match s j with
  |.mp k g=>Bz k (1,d)&&BU H k g&&WH H d s r
  |_=>false
def WJ(H:Hp)(d:Nat)(s:Nat→AV):List Nat→Bool
 |[]=>true
 |j::r=>match s j with
  |.ptr k g 0=>Bz k (1,d)&&BU H k g&&WJ H d s r
  |_=>false
def A7(r:Ren)(os:Nat):AT→St→(St→AT→Prop)→Prop
 |.frz d f cs b,τ,K=>match (τ.H (1,d)).live,Nat.ble 1 (τ.H (1,d)).sz with
  |true,true=>WF τ.H d τ.s (WC τ.H d (A7 r os b ⟨JT f τ.s,IC cs (updH τ.H (1,d) ⟨(τ.H (1,d)).g,false,(τ.H (1,d)).e,(τ.H (1,d)).sz,(τ.H (1,d)).cells⟩)⟩ K) cs) f
  |_,_=>False
 |.adc k i d e sz b,τ,K=>match Nat.beq k.1 1,Bz k (1,d),(τ.H k).live,Bk (τ.H k).cells i with
  |true,false,true,some .e0=>A7 r os b ⟨τ.s,updH (updH τ.H (1,d) ⟨(τ.H (1,d)).g+1,true,e,sz,[]⟩) k ⟨(τ.H k).g,true,(τ.H k).e,(τ.H k).sz,(τ.H k).cells.set i (.ref (1,d) ((τ.H (1,d)).g+1) 0 0)⟩⟩ K
  |_,_,_,_=>False
 |.sep b,τ,K=>K τ b
 |.ads j d e sz b,τ,K=>match RP (τ.s j)with
  |true=>A7 r os b ⟨upd τ.s j (.ref (1,d) ((τ.H (1,d)).g+1) 0 0),updH τ.H (1,d) ⟨(τ.H (1,d)).g+1,true,e,sz,[]⟩⟩ K
  |false=>False
 |.trim k c b,τ,K=>match (τ.H k).live with
  |true=>(∃m,(τ.H k).cells.take m=c)∧trK r k (A7 r os b ⟨τ.s,updH τ.H k ⟨(τ.H k).g,true,(τ.H k).e,(τ.H k).sz,c⟩⟩ K)
  |false=>False
 |.reb j d m c b,τ,K=>match τ.s j with
  |.ref k q off n=>(match Bz k (1,d),BU τ.H k q with
   |true,true=>(n=m∧off*(τ.H k).sz≤(τ.H k).cells.length∧(τ.H k).cells.drop (off*(τ.H k).sz)=c)∧A7 r os b ⟨upd τ.s j (.ref k (q+1) 0 m),updH τ.H k ⟨q+1,true,.t (τ.H k).e.ty,(τ.H k).sz,c⟩⟩ K
   |_,_=>False)
  |_=>False
 |.mv d j b,τ,K=>match (τ.H (1,d)).live with
  |true=>FN (τ.H (1,d)).cells∧(j<os∧r.no (r.κ (0,j)))∧A7 r os b ⟨fun i=>Fr (1,d) (0,j) (τ.H (1,d)).g ((τ.H (0,j)).g+1) (τ.s i),
    updH (updH τ.H (1,d) ⟨(τ.H (1,d)).g,false,(τ.H (1,d)).e,(τ.H (1,d)).sz,(τ.H (1,d)).cells⟩) (0,j) ⟨(τ.H (0,j)).g+1,true,(τ.H (1,d)).e,(τ.H (1,d)).sz,(τ.H (1,d)).cells⟩⟩ K
  |false=>False
 |.fzm d f b,τ,K=>match (τ.H (1,d)).live,(τ.H (1,d)).e,WH τ.H d τ.s f with
  |true,.m q h,true=>A7 r os b ⟨EL (.d (.map q h)) f τ.s,updH τ.H (1,d) ⟨(τ.H (1,d)).g,false,(τ.H (1,d)).e,(τ.H (1,d)).sz,(τ.H (1,d)).cells⟩⟩ K
  |_,_,_=>False
 |.fzb d f b,τ,K=>match (τ.H (1,d)).live,L5 (τ.H (1,d)).cells,WJ τ.H d τ.s f with
  |true,some (x::ds),true=>A7 r os b ⟨EL (.iptr (x::ds) 0) f τ.s,updH τ.H (1,d) ⟨(τ.H (1,d)).g,false,(τ.H (1,d)).e,(τ.H (1,d)).sz,(τ.H (1,d)).cells⟩⟩ K
  |_,_,_=>False
 |.rnm d d' e i b,τ,K=>match (τ.H (1,d)).live,Nat.beq d d',Nat.beq e d,Nat.beq e d',(τ.H (1,e)).live,Bk (τ.H (1,e)).cells i with
  |true,false,false,false,true,some (.ref k g off c)=>(match Bz k (1,d),Nat.beq g (τ.H (1,d)).g with
   |true,true=>FN (τ.H (1,d)).cells∧A7 r os b ⟨fun j=>Fr (1,d) (1,d') (τ.H (1,d)).g ((τ.H (1,d')).g+1) (τ.s j),
     updH (updH (updH τ.H (1,d) ⟨(τ.H (1,d)).g,false,(τ.H (1,d)).e,(τ.H (1,d)).sz,(τ.H (1,d)).cells⟩) (1,d') ⟨(τ.H (1,d')).g+1,true,(τ.H (1,d)).e,(τ.H (1,d)).sz,(τ.H (1,d)).cells⟩)
      (1,e) ⟨(τ.H (1,e)).g,true,(τ.H (1,e)).e,(τ.H (1,e)).sz,(τ.H (1,e)).cells.set i (.ref (1,d') ((τ.H (1,d')).g+1) off c)⟩⟩ K
   |_,_=>False)
  |_,_,_,_,_,_=>False
 |.mvc d q e i b,τ,K=>match (τ.H (1,d)).live,Nat.beq e d,(τ.H (1,e)).live,Bk (τ.H (1,e)).cells i with
  |true,false,true,some (.ref k g off c)=>(match Bz k (1,d),Nat.beq g (τ.H (1,d)).g with
   |true,true=>FN (τ.H (1,d)).cells∧(q<os∧r.no (r.κ (0,q)))∧A7 r os b ⟨fun j=>Fr (1,d) (0,q) (τ.H (1,d)).g ((τ.H (0,q)).g+1) (τ.s j),
     updH (updH (updH τ.H (1,d) ⟨(τ.H (1,d)).g,false,(τ.H (1,d)).e,(τ.H (1,d)).sz,(τ.H (1,d)).cells⟩) (0,q) ⟨(τ.H (0,q)).g+1,true,(τ.H (1,d)).e,(τ.H (1,d)).sz,(τ.H (1,d)).cells⟩)
      (1,e) ⟨(τ.H (1,e)).g,true,(τ.H (1,e)).e,(τ.H (1,e)).sz,(τ.H (1,e)).cells.set i (.ref (0,q) ((τ.H (0,q)).g+1) off c)⟩⟩ K
   |_,_=>False)
  |_,_,_,_=>False
 |a,τ,K=>K τ a
def Cw(P:Program)(T:Nat→Option TI)(l n os:Nat)(r:Ren):Code→AT→St→(Exit→St→AT→Prop)→Prop
 |.skip,a,τ,K=>K .normal τ a
 |.ret,a,τ,K=>A7 r os a τ (fun τ a=>K .ret τ a)
 |.exit id,a,τ,K=>K (.exit id) τ a
 |.seq x y,a,τ,K=>Cw P T l n os r x a τ (fun e τ' d=>match e with|.normal=>Cw P T l n os r y d τ' K|e=>K e τ' d)
 |.block id c,a,τ,K=>Cw P T l n os r c a τ (fun e τ' d=>match e with|.exit i=>(match Nat.beq i id with|true=>K .normal τ' d|false=>K (.exit i) τ' d)|e=>K e τ' d)
 |.cond c x y,a,τ,K=>match ev τ.s c,a with
  |.d (.bool b),.br a1 g=>(b=true→Cw P T l n os r x a1 τ K)∧(b=false→Cw P T l n os r y g τ K)
  |.d (.bool b),.go a=>(match b with|true=>Cw P T l n os r x a τ K|false=>Cw P T l n os r y a τ K)
  |.d (.bool b),.one v a=>(match v with|true=>(b=true→Cw P T l n os r x a τ K)∧(b=false→False)|false=>(b=true→False)∧(b=false→Cw P T l n os r y a τ K))
  |_,_=>False
 |.region _ ops f,a,τ,K=>match f with
  |false=>A7 r os a τ (fun τ a=>FZ P T l n r (ops.toList.map (·.dst)) ops.toList [] a (fun τ' env d=>K .normal (DG env τ') d) τ)
  |true=>match Wy ops.toList&&ops.toList.all (fun o=>CY o||BY o)&&Lz ops.toList 0 ops.toList with
   |true=>A7 r os a τ (fun τ a=>Hc P T l n r (ops.toList.map (·.dst)) ops.toList [] a (fun τ' env d=>K .normal (DG env τ') d) τ)
   |false=>False
 |_,_,_,_=>False
mutual
def frz(H:Hp):AV→AT→(AV→AT→Prop)→Prop
 |.d x,a,K=>K (.d x) a
 |.e0,a,K=>K (.d (.list [])) a
 |.ifc t ds q,a,K=>K (.ifc t ds q) a
 |.agg xs,a,K=>JR H xs a (fun ys c=>K (.agg ys) c)
 |.ref k g off n,a,K=>match Nat.beq k.1 0,Nat.beq k.1 1,BU H k g with
  |true,_,true=>K (.ref k g off n) a
  |false,true,true=>(match a with|.av (.d (.list b)) c=>HB (H k).cells off n (H k).sz b∧K (.d (.list b)) c|_=>False)
  |_,_,_=>False
 |.mp k g,a,K=>match Nat.beq k.1 0,Nat.beq k.1 1,BU H k g,(H k).e with
  |true,_,true,_=>K (.mp k g) a
  |false,true,true,.m q b=>K (.d (.map q b)) a
  |_,_,_,_=>False
 |_,_,_=>False
def JR(H:Hp):List AV→AT→(List AV→AT→Prop)→Prop
 |[],a,K=>K [] a
 |x::xs,a,K=>frz H x a (fun y c=>JR H xs c (fun ys b=>K (y::ys) b))
end
def iI(T:Nat→Option TI)(τ:St):ResultVar→(AV→Prop)→Prop
 |.tmp t,K=>K (τ.s t)
 |.cell p t,K=>match τ.s p,T t with
  |.ptr k g off,some i=>(match BU τ.H k g,i.agg with
   |true,true=>(match Nat.ble 1 i.siz,JE i.siz ((τ.H k).cells.drop off)with|true,some c=>K (.agg c)|_,_=>False)
   |true,false=>(match Bk (τ.H k).cells off with|some c=>K c|none=>False)
   |false,_=>False)
  |_,_=>False
def aE(T:Nat→Option TI)(τ:St):List ResultVar→(List AV→Prop)→Prop
 |[],K=>K []
 |v::vs,K=>iI T τ v (fun x=>aE T τ vs (fun xs=>K (x::xs)))
def JJ(H:Hp):Nat→Nat→List Blk
 |0,_=>[]
 |n+1,i=>H (0,i)::JJ H n (i+1)
def OR(T:Nat→Option TI)(c:List ResultVar)(os:Nat)(τ:St)(a:AT)(b:AV→List Blk→Prop):Prop:=
 aE T τ c (fun xs=>JR τ.H xs a (fun ys _=>b (DH ys) (JJ τ.H os 0)))
def FQ(T:Nat→Option TI)(c:List ResultVar)(os:Nat)(b:AV→List Blk→Prop)(e:Exit)(τ:St):Prop:=(e=.normal∨e=.ret)∧∃a,OR T c os τ a b
section
variable {P:Program} {T:Nat→Option TI} {n:Nat} {C:Cx} {τ σ:St} {Q:Exit→St→Prop}
theorem Wk.refl(σ:St):Wk n C σ σ:=fun _ _ h=>h
theorem Wk.trans{σ c b:St}(h:Wk n C σ c)(k:Wk n C c b):Wk n C σ b:=fun a w d=>k a w (h a w d)
theorem R.weaken{l:Nat}{B:Base}{s s':Nat→AV}{H:Hp}{a:Act}{w:World}(h:R l n B ⟨s,H⟩ a w)(hs:∀j,s' j=s j∨s' j=.top):R l n B ⟨s',H⟩ a w:=by
 obtain⟨m,S,d,g,b,f,c⟩:=h.un
 refine⟨m,S,d,g,b,fun i=>?_,c⟩
 show RepA w S H m (l+1) (s' i) _
 rcases hs i with e|e
 ·rw[e];exact f i
 ·rw[e];exact .top _
theorem Is.mono{Φ Ψ:St→Prop}(h:Is n C Φ σ)(e:∀τ,Φ τ→Ψ τ):Is n C Ψ σ:=by
 obtain⟨γ,τ,f,a,b,c,d⟩:=h;exact⟨γ,τ,f,a,e _ b,c,d⟩
theorem BH.weak{c:Code}{QQ:Exit→St→Prop}{b:St}(h:BH P C.l n C.B c QQ b)(e:Wk n C σ b):BH P C.l n C.B c QQ σ:=fun a w d=>h a w (e a w d)
theorem Vq.weak{c:Code}{QQ:Exit→St→Prop}{b:St}(h:Vq P C.l n C.B c QQ b)(e:Wk n C σ b):Vq P C.l n C.B c QQ σ:=fun a w d=>h a w (e a w d)
theorem LW.mono{c:Code}{a:Exit→St→Prop}(h:LW P n C c τ Q)(f:∀e τ,Q e τ→a e τ):LW P n C c τ a:=fun γ σ d b=>HQ (h γ σ d b) fun e g hi=>hi.mono (f e)
theorem ZNs{x y:Code}(h:LW P n C x τ (fun e τ'=>match e with|.normal=>LW P n C y τ' Q|e=>Q e τ')):LW P n C (.seq x y) τ Q:=by
 intro γ σ i g
 refine eH (HQ (h γ σ i g) fun e k hi=>?_)
 cases e with
 |normal=>
  obtain⟨j,τ',a,b,c,d,f⟩:=hi
  exact BH.weak (c j a b d) f
 |_=>exact hi
theorem Zy6{id:Nat}{c:Code}(h:LW P n C c τ (fun e τ'=>match e with|.exit i=>if i=id then Q .normal τ' else Q (.exit i) τ'|e=>Q e τ')):LW P n C (.block id c) τ Q:=by
 intro γ σ b a
 refine zI (HQ (h γ σ b a) fun e d hi=>?_)
 cases e with
 |exit i=>
  unfold Uq
  simp only at hi⊢
  split
  ·rename_i he;exact hi.mono fun τ' h=>by rw[Yi he]at h;exact h
  ·rename_i he;exact hi.mono fun τ' h=>by rw[Ym he]at h;exact h
 |_=>exact hi
theorem ZEw{c:Operand}{x y:Code}{b:Bool}(h:ev τ.s c=.d (.bool b))(f:b=true→LW P n C x τ Q)(g:b=false→LW P n C y τ Q):LW P n C (.cond c x y) τ Q:=by
 intro γ σ d a
 have he:ev σ.s c=.d (.bool b):=by
  rw[Lh (c:=[]) a A5 (by cases c<;>rfl),h];simp[ren]
 exact Pq he (fun e=>f e γ σ d a) (fun e=>g e γ σ d a)
theorem ZGH{c:Code}(h:LL P n C c τ Q):LW P n C (.loop c) τ Q:=by
 intro γ σ l i a w j b k cs
 obtain⟨e,d,w',f,g⟩:=h γ σ l i a w j b k cs
 exact⟨e,d,w',f,.of_steps (.one step_loop) g⟩
theorem ZwK{c:Code}(h:LW P n C c τ (fun e τ'=>match e with|.normal=>LL P n C c τ' Q|e=>Q e τ')):LL P n C c τ Q:=by
 intro γ σ A y a w z b k cs
 obtain⟨e,i,l,⟨m,j,f⟩,d⟩:=h γ σ A y a w z b (.inLoop c::k) cs
 cases e with
 |normal=>
  obtain⟨D,τ',p,s,t,u,v⟩:=j
  obtain⟨r,q,B,o,g⟩:=t D p s u i l (v _ _ f) b k cs
  exact⟨r,q,B,o,.of_steps (Steps.trans d (.one step_inLoop)) g⟩
 |exit id=>exact⟨_,i,l,⟨m,j,f⟩,.pass (x:=.inLoop c) rfl (fun _ _=>.inl (by simp)) d⟩
 |goto id=>exact⟨_,i,l,⟨m,j,f⟩,.pass (x:=.inLoop c) rfl (fun _ _=>.inl (by simp)) d⟩
 |ret=>exact⟨_,i,l,⟨m,j,f⟩,.pass (x:=.inLoop c) rfl (fun _ _=>.inl (by simp)) d⟩
 |panic ch=>exact⟨_,i,l,⟨m,j,f⟩,.pass (x:=.inLoop c) rfl (fun _ _=>.inl (by simp)) d⟩
 |outgrown=>exact⟨_,i,l,⟨m,j,f⟩,.pass (x:=.inLoop c) rfl (fun _ _=>.inl (by simp)) d⟩
theorem Is.of{γ:Ad→Nat}{Φ:St→Prop}(b:C.G γ)(a:RG (C.r γ) C.l C.outs [] τ σ)(h:Φ τ):Is n C Φ σ:=⟨γ,τ,σ,b,h,a,Wk.refl σ⟩
theorem Cp{a b:Ad}:Bz a b=true↔a=b:=by
 obtain⟨a1,c⟩:=a
 obtain⟨d,e⟩:=b
 simp[Bz]
theorem zH{H:Hp}{s:Nat→AV}:∀(ls:List Nat) (j:Nat),AB (MR H s ls) j=iM H (s j)∨AB (MR H s ls) j=.top
 |[],j=>.inr rfl
 |i::r,j=>by
  simp only[MR,AB]
  split
  ·rename_i h;rw[Yd h];exact .inl rfl
  ·exact zH r j
def rebase(γ:Ad→Nat)(H:Hp):Ad→Nat:=fun k=>γ k+(H k).g
mutual
theorem ZtF{γ:Ad→Nat}{H:Hp}:∀{x y:AV},Ek H x=some y→ren (C.r (rebase γ H)) y=ren (C.r γ) x
 |.ref k g off m,y,h=>by
  simp only[Ek]at h
  split at h
  ·rename_i hl;cases h;obtain⟨b,_⟩:=Ey hl;subst b;simp[ren,Cx.r,rebase]
  ·cases h
 |.ptr k g off,y,h=>by
  simp only[Ek]at h
  split at h
  ·rename_i hl;cases h;obtain⟨b,_⟩:=Ey hl;subst b;simp[ren,Cx.r,rebase]
  ·cases h
 |.mp k g,y,h=>by
  simp only[Ek]at h
  split at h
  ·rename_i hl;cases h;obtain⟨b,_⟩:=Ey hl;subst b;simp[ren,Cx.r,rebase]
  ·cases h
 |.fn f xs ys,y,h=>by
  simp only[Ek]at h
  split at h
  ·rename_i xs' i b e
   cases h
   have c:=MI (γ:=γ) b
   have d:=MI (γ:=γ) e
   cases f<;>simp only[ren,c,d]<;>rfl
  ·cases h
 |.agg xs,y,h=>by
  simp only[Ek]at h
  split at h
  ·rename_i xs' b;cases h;simp only[ren,MI (γ:=γ) b]
  ·cases h
 |.tup xs,y,h=>by
  simp only[Ek]at h
  split at h
  ·rename_i xs' b;cases h;simp only[ren,MI (γ:=γ) b]
  ·cases h
 |.top,y,h=>by simp only[Ek]at h;cases h;simp[ren]
 |.d x,y,h=>by simp only[Ek]at h;cases h;simp[ren]
 |.e0,y,h=>by simp only[Ek]at h;cases h;simp[ren]
 |.p x,y,h=>by simp only[Ek]at h;cases h;simp[ren]
 |.iptr cs off,y,h=>by simp only[Ek]at h;cases h;simp[ren]
 |.ifc t ds a,y,h=>by simp only[Ek]at h;cases h;simp[ren]
theorem MI{γ:Ad→Nat}{H:Hp}:∀{xs ys:List AV},IG H xs=some ys→Ao (C.r (rebase γ H)) ys=Ao (C.r γ) xs
 |[],ys,h=>by simp only[IG]at h;cases h;simp[Ao]
 |x::xs,ys,h=>by
  simp only[IG]at h
  split at h
  ·rename_i x' xs' a b;cases h;simp only[Ao,ZtF (γ:=γ) a,MI (γ:=γ) b]
  ·cases h
end
def QP(C:Cx)(γ:Ad→Nat)(H:Hp)(hs:List (Ad×Blk)):Prop:=
 (∀k,(AC hs k).g=0)∧∀k,(AC hs k).live=true→(H k).live=true∧(AC hs k).e=(H k).e∧(AC hs k).sz=(H k).sz∧Ao (C.r (rebase γ H)) (AC hs k).cells=Ao (C.r γ) (H k).cells
theorem Jv{r:Ren}{cs:List AV}(h:Ih cs):Ao r cs=cs:=K1 (Yu.2 h)
theorem QP.cons{γ:Ad→Nat}{H:Hp}{hs:List (Ad×Blk)}(h:QP C γ H hs){k:Ad}{cs:List AV}(hl:(H k).live=true)(b:Ao (C.r (rebase γ H)) cs=Ao (C.r γ) (H k).cells):QP C γ H ((k,⟨0,true,(H k).e,(H k).sz,cs⟩)::hs):=by
 refine⟨fun q=>?_,fun q a=>?_⟩
 ·simp only[AC]
  split
  ·rfl
  ·exact h.1 q
 ·simp only[AC]at a⊢
  split at a
  ·rename_i he
   have he:=Cp.1 he
   grind
  ·exact h.2 q a
theorem Tp{γ:Ad→Nat}{H:Hp}:∀(ks:List (Ad×Bool)) {K:List (Ad×Blk)→Prop},MS H ks K→∃hs,K hs∧QP C γ H hs
 |[],K,h=>⟨[],h,fun k=>rfl,fun k d=>by simp[AC,Fk]at d⟩
 |(k,fl)::r,K,h=>by
  simp only[MS]at h
  split at h
  ·exact Tp r h
  ·rename_i hl
   split at h
   ·obtain⟨hs,a,b⟩:=Tp (γ:=γ) r h.2
    exact⟨_,a,b.cons hl (by rw[Jv h.1,Jv h.1])⟩
   ·split at h
    ·rename_i cs c
     obtain⟨hs,a,b⟩:=Tp (γ:=γ) r h
     exact⟨_,a,b.cons hl (MI c)⟩
    grind
theorem qt{H:Hp}:∀{fx:List Nat},gz H fx=true→∀i∈fx,(H (0,i)).g=0
 |i::r,h,j,a=>by
  simp only[gz,Yc]at h
  rcases Yx.1 a with rfl|a
  ·exact Yd h.1
  ·exact qt h.2 j a
theorem eP{x:AV}(h:RP x=true):x=.e0:=by cases x<;>first|rfl|cases h
theorem dx(c:CxOk C){Φ:St→Prop}{γ:Ad→Nat}:∀(ad:List (Nat×Nat×TypeId×Nat)) (τ σ:St),P4 ad τ Φ→RG (C.r γ) C.l C.outs [] τ σ→∃τ' f,Φ τ'∧RG (C.r γ) C.l C.outs [] τ' f∧Wk n C σ f
 |[],τ,σ,h,b=>⟨τ,σ,h,b,Wk.refl σ⟩
 |(j,d,e,sz)::r,τ,σ,h,b=>by
  simp only[P4]at h
  split at h
  ·rename_i he hl
   have k:σ.s j=.e0:=by rw[(b.s j).1 A5,eP he];simp[ren]
   have o:=b.put (e:=j) (ch:=[]) rfl rfl (v:=.ref (1,d) ((τ.H (1,d)).g+1) 0 0) (y:=.ref (C.l+1,d) ((σ.H (C.l+1,d)).g+1) 0 0) (fun _=>by rw[b.g];simp only[ren];rw[show(C.r γ).κ (1,d)=(C.l+1,d)from c.own d,YI]) (fun g=>absurd A5 g)
   have a:=RG.updH (c.ren γ) o (1,d) ⟨(τ.H (1,d)).g+1,true,e,sz,[]⟩ rfl (.inl rfl)
   have m:AL (C.r γ) (1,d) ⟨(τ.H (1,d)).g+1,true,e,sz,[]⟩=⟨(σ.H (C.l+1,d)).g+1,true,e,sz,[]⟩:=by
    simp only[AL,b.g,Ao,YI]
   rw[m,show(C.r γ).κ (1,d)=(C.l+1,d)from c.own d]at a
   have p:RG (C.r γ) C.l C.outs [] ⟨upd τ.s j (.ref (1,d) ((τ.H (1,d)).g+1) 0 0),updH τ.H (1,d) ⟨(τ.H (1,d)).g+1,true,e,sz,[]⟩⟩ ⟨upd σ.s j (.ref (C.l+1,d) ((σ.H (C.l+1,d)).g+1) 0 0),updH σ.H (C.l+1,d) ⟨(σ.H (C.l+1,d)).g+1,true,e,sz,[]⟩⟩:=
    ⟨fun i=>⟨fun _=>(a.s i).1 (by rw[fh];split<;>exact A5),fun g=>absurd A5 g⟩,a.h,a.g,a.go,a.k,a.o⟩
   obtain⟨τ',f,t,u,x⟩:=dx c r _ _ h p
   refine⟨τ',f,t,u,Wk.trans (fun l w q=>?_) x⟩
   obtain⟨s,H⟩:=σ
   exact R.adopt (e:=e) (sz:=sz) q (C.l+1,d) rfl _ (YO _) k
  ·grind
  ·exact dx c r τ σ h b
theorem et{γ:Ad→Nat}:∀(ze:List Nat) (τ σ:St),RG (C.r γ) C.l C.outs [] τ σ→∃f,RG (C.r γ) C.l C.outs [] (NF ze τ) f∧Wk n C σ f
 |[],τ,σ,b=>⟨σ,b,Wk.refl σ⟩
 |j::r,τ,σ,b=>by
  simp only[NF]
  split
  ·rename_i he
   have d:σ.s j=.e0:=by rw[(b.s j).1 A5,eP he];simp[ren]
   have a:=b.put (e:=j) (ch:=[]) rfl rfl (v:=.d (.list [])) (y:=.d (.list [])) (fun _=>by simp[ren]) (fun c=>absurd A5 c)
   have o:RG (C.r γ) C.l C.outs [] ⟨upd τ.s j (.d (.list [])),τ.H⟩ ⟨upd σ.s j (.d (.list [])),σ.H⟩:=
    ⟨fun i=>⟨fun _=>(a.s i).1 (by rw[fh];split<;>exact A5),fun c=>absurd A5 c⟩,a.h,a.g,a.go,a.k,a.o⟩
   obtain⟨f,t,u⟩:=et r _ _ o
   refine⟨f,t,Wk.trans (fun l w q=>?_) u⟩
   obtain⟨s,H⟩:=σ
   obtain⟨m,S,p,c,g,k,h⟩:=q.un
   refine⟨m,S,p,c,g,fun i=>?_,h⟩
   show RepA w S H m (C.l+1) (upd s j (.d (.list [])) i) _
   unfold upd
   by_cases hi:i=j
   ·subst hi
    rw[Yi rfl]
    have:=k i
    simp only at d
    rw[d]at this
    exact this.e0_d
   ·rw[Ym hi];exact k i
  ·exact et r τ σ b
theorem HP(t:CxOk C){Φ:St→Prop}{γ:Ad→Nat}{f:Lf}(h:Eb C.fx f τ Φ)(F:C.G γ)(D:RG (C.r γ) C.l C.outs [] τ σ):Is n C Φ σ:=by
 obtain⟨K,o,r⟩:=et (n:=n) f.ze τ σ D
 obtain⟨a,g,l,b,m⟩:=dx (n:=n) t f.ad (NF f.ze τ) K h o
 replace m:=Wk.trans r m
 split at l
 case h_2=>exact l.elim
 rename_i p
 obtain⟨hs,J,c⟩:=Tp (C:=C) (γ:=γ) f.ks l
 refine⟨rebase γ a.H,_,⟨fun j=>ren (C.r (rebase γ a.H)) (AB (MR a.H a.s f.ls) j),g.H⟩,t.G γ _ (fun i hi=>by unfold rebase;rw[qt p i hi];rfl) F,J,⟨fun j=>⟨fun _=>rfl,fun G=>absurd A5 G⟩,fun k q=>?_,fun d=>?_,fun i hi=>?_,fun k q=>?_,b.o⟩,m.trans fun u w E=>?_⟩
 ·obtain⟨x,z,A,B⟩:=c.2 k q
  have y:=c.1 k
  show g.H (C.κ k)=_
  have:=b.h k x
  rw[show(C.r γ).κ k=C.κ k from rfl]at this
  rw[this]
  simp only[AL]
  show _=Blk.mk (rebase γ a.H k+(AC hs k).g) true (AC hs k).e (AC hs k).sz (Ao (C.r (rebase γ a.H)) (AC hs k).cells)
  rw[y,z,A,B]
  rfl
 ·show(g.H (C.l+1,d)).g=rebase γ a.H (1,d)+(AC hs (1,d)).g
  have e0:(AC hs (1,d)).g=0:=c.1 _
  rw[e0,b.g]
  rfl
 ·show(g.H (C.κ (0,i))).g=rebase γ a.H (0,i)+(AC hs (0,i)).g
  have e0:(AC hs (0,i)).g=0:=c.1 _
  rw[e0]
  exact b.go i hi
 ·exact b.k k (c.2 k q).1
 ·obtain⟨s,H⟩:=g
  refine R.weaken E fun j=>?_
  rcases zH (H:=a.H) (s:=a.s) f.ls j with e|e
  ·simp only[e]
   unfold iM
   split
   ·rename_i v I
    left
    rw[ZtF (γ:=γ) I]
    exact((b.s j).1 A5).symm
   ·right;simp[ren]
  ·right;simp only[e];simp[ren]
end
end Go.Eng
