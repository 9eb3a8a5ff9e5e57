import Derived.Test.YthgmbpciandpiaaGreatLx07
import Derived.Test.YthgmbpciandpiaaGreatLx04
import Derived.Test.YthgmbpciandpiaaGreatLx00
namespace Go.Eng
set_option linter.all false
open Go Go.RowKit
def KA(r:Ren)(l n outs:Nat)(B:Base)(env:B4)(K:St→AT→Prop)(σ:St):Prop:=∃b,KS r l outs env K b∧∀a w,R l n B σ a w→R l n B b a w
section
variable {P:Program} {T:Nat→Option TI} {r:Ren} {l n outs:Nat} {B:Base} {env:B4} {τ σ:St} {a:AT} {o:Oper} {K:St→AT→Prop}
theorem KA.of(h:KS r l outs env K σ):KA r l n outs B env K σ:=⟨σ,h,fun _ _ h=>h⟩
theorem O4{d:Nat}{e:TypeId}{sz:Nat}{cells:List AV}{x:Nat→AV}(h:Eo l n d e sz cells x (KS r l outs env K) σ):Eo l n d e sz cells x (KA r l n outs B env K) σ:=⟨h.1,.of h.2⟩
theorem Zty(i:Bg P T)(h:RG r l outs env τ σ){d:Nat}(k:o.dst=some d)(j:Ch env [] o.op=true)(m:fresh d env=true)(p:tV T τ.H o.op (ev τ.s) none a (Fl n d K τ))
  (c:BI P l n o (KA r l n outs B ((d,[])::env) K) σ=A9 P σ.H o.op (ev σ.s) (CL n o.dst (KA r l n outs B ((d,[])::env) K) σ)):BI P l n o (KA r l n outs B ((d,[])::env) K) σ:=by
 rw[c,k]
 refine Ut (fun y hy=>?_) (p6 i h Ba (fun b e=>by cases e) j p)
 obtain⟨f,g⟩:=T5 h m hy
 exact⟨f,.of g⟩
theorem gu{x:AV}{d:D}(h:D2 x=some d):ren r x=x:=by
 cases x<;>simp only[D2]at h<;>first|(simp[ren];done)|cases h
theorem gj:∀{xs:List AV} {ds:List D},CX xs=some ds→Aq r xs=xs
 |[],_,_=>by simp[Aq]
 |x::xs,ds,h=>by
  simp only[CX]at h
  split at h
  ·rename_i d a b c
   rw[Aq,gu b,gj c]
  ·cases h
theorem ZK6{x:AV}{e:List D}(h:Nf x=some e):ren r x=x:=by
 cases x with
 |agg xs=>simp only[Nf]at h;rw[ren,gj h]
 |_=>
  simp only[Nf]at h
  split at h
  ·rename_i d a;exact gu a
  ·cases h
theorem TR{sz:Nat}:∀{ps:List (Nat×AV)} {i:Nat} {es:List (List D)},FZ sz i ps=some es→(ps.map fun p=>(p.1,ren r p.2))=ps
 |[],_,_,_=>rfl
 |(j,v)::ps,i,es,h=>by
  simp only[FZ]at h
  split at h
  ·rename_i e a b c
   simp only[YS,ZK6 b,TR c]
  ·cases h
theorem hU(h:RG r l outs env τ σ){sz c:Nat}{y:AV}{news:List AV}(i:WD τ.H sz y=true)(hs:Em sz (cellsOf τ.H y) y c news):IK σ.H sz (ren r y)=some (c,Aq r news)∧(Aq r news).all AV.one=true:=by
 obtain⟨p,a⟩:=hs
 have b:(Aq r news).all AV.one=true:=by
  rw[FA,List.all_map]
  refine Yq.2 fun x q=>?_
  have:=Yq.1 p x q
  cases x<;>first|(simp[Function.comp,ren,AV.one];done)|cases this
 refine⟨?_,b⟩
 split at a
 ·obtain⟨rfl,rfl⟩:=a;simp[ren,IK,Aq]
 ·rename_i es
  obtain⟨d,rfl,rfl⟩:=a
  simp only[ren,IK]
  rw[Yg (Yq.2 fun e he=>by simpa using d e he),HF]
 ·rename_i k g off m
  obtain⟨rfl,d,rfl⟩:=a
  simp only[WD,Yc]at i
  obtain⟨hl,s⟩:=i
  obtain⟨j,n,t,o,f⟩:=h.h.at hl
  have e:cellsOf τ.H (.ref k g off c)=(τ.H k).cells:=by simp[cellsOf,hl]
  rw[e]at d⊢
  simp only[ren,IK]
  rw[Yg ⟨j,n,by rw[o];exact Yb s,by rw[f,CN];exact d⟩,f,E0,Fy]
 ·exact a.elim
theorem ZrW(E:RenOk r l outs)(F:Bg P T)(h:RG r l outs env τ σ){d:Nat}{t:TypeId}{x y:AV}(X:fresh d env=true)(b:dO T r n d t x y a K τ):
  Lt P l n d t (ren r x) (ren r y) (KA r l n outs B ((d,[])::env) K) σ:=by
 unfold dO at b
 split at b
 case h_2=>exact b.elim
 rename_i i hi
 split at b
 case h_2=>exact b.elim
 rename_i e sz he
 split at b
 case h_2=>exact b.elim
 rename_i j L J m
 have J:=Yh J
 unfold Lt
 rw[(F _ _ hi).elm _ he]
 split at b
 ·rename_i byt z c news q W Z
  obtain⟨f,U,o⟩:=b
  obtain⟨O,Q⟩:=hU h m f
  obtain⟨M,N⟩:=(F _ _ L).byt _ W
  have G:c*P.bytesOf e≤140737488355328:=DI (Nat.mul_le_mul_left _ M) U
  refine⟨by omega,N,by rw[(F _ _ L).zer _ Z];rfl,?_⟩
  simp only[O,ren]
  refine⟨Q,G,fun hc=>?_,fun hc=>?_⟩
  ·subst hc
   have C:d<n:=by
    unfold IF at o
    split at o
    ·rename_i C;have:=Yh C;omega
    ·exact o.elim
   have hn:=Me (x':=fun g=>.ref (l+1,d) g 0 0) E h X (fun g=>by simp[ren,E.own]) o
   have I:Aq r news=[]:=by
    have hl:news=[]:=by
     obtain⟨_,f⟩:=f
     split at f
     ·exact f.2
     ·obtain⟨_,A,p⟩:=f
      have:‹List (List D)›=[]:=Ir A.symm
      rw[this]at p;simpa using p
     ·obtain⟨A,_,p⟩:=f;rw[←A]at p;simpa using p
     ·exact f.elim
    rw[hl];simp[Aq]
   rw[I]at hn
   refine⟨C,_,hn.2,fun act w hR=>?_⟩
   have:=R.adopt (e:=e) (sz:=sz) hR (l+1,d) rfl ((σ.H (l+1,d)).g+1) (DX _) (d:=d) (by simp[upd])
   have S:upd (upd σ.s d .e0) d (.ref (l+1,d) ((σ.H (l+1,d)).g+1) 0 0)=upd σ.s d (.ref (l+1,d) ((σ.H (l+1,d)).g+1) 0 0):=by funext j;unfold upd;split<;>rfl
   simp only[S]at this
   exact this
  ·exact O4 (Me (x':=fun g=>.ref (l+1,d) g 0 c) E h X (fun g=>by simp[ren,E.own]) o)
 ·rename_i byt z k q off c' c news C' n' q' W Z
  split at b
  case h_2=>exact b.elim
  rename_i hl u s C
  obtain⟨f,⟨U,o,A,p⟩,V⟩:=b
  obtain⟨V,Y,H⟩:=MF E h (DZ hl).2 V
  obtain⟨O,Q⟩:=hU h m f
  obtain⟨M,N⟩:=(F _ _ L).byt _ W
  obtain⟨g1,g2,g3,g4,g5⟩:=h.h.at hl
  have C:=Yh C
  have u:=Yb u
  have s:=ZLz s
  refine⟨by omega,N,by rw[(F _ _ L).zer _ Z];rfl,?_⟩
  simp only[O,ren]
  refine⟨Q,g1,g2,by rw[g4,u],by rw[g3,s],by rw[g5,CN];exact U,by rw[A];exact DI (Nat.mul_le_mul_left _ M) p,H,by omega,.of ⟨_,_,V,?_⟩⟩
  have h7:=h.put0 (v:=.ref k (q+1) 0 n') (y:=.ref (r.κ k) (r.γ k+q+1) 0 (c'+c)) X (by simp[ren,A,YE])
  have h8:=RG.updH E h7 k ⟨q+1,true,e,sz,C'⟩ rfl Y
  have S:AL r k ⟨q+1,true,e,sz,C'⟩=⟨r.γ k+q+1,true,e,sz,(σ.H (r.κ k)).cells.drop (off*sz)++Aq r news⟩:=by
   simp only[AL,g5,E0,←GH,o,YE]
  rw[S]at h8
  exact h8
 ·exact b.elim
theorem Zh4(y:RenOk r l outs)(h:RG r l outs env τ σ){t:TypeId}{i:TI}(hi:TIok P t i){x:AV}{vs:List AV}(c:Pi r n i x (some vs) a K τ):
  ∃k g off,ren r x=.ptr k g off∧g=(σ.H k).g∧(σ.H k).live=true∧(Aq r vs).length=P.cellsOf t∧Aq r vs≠[]∧off+(Aq r vs).length≤(σ.H k).cells.length∧(k.1=l+1∨(Aq r vs).all (AV.low k.1)=true)∧
   KS r l outs env K ⟨σ.s,updH σ.H k {σ.H k with cells:=(σ.H k).cells.take off++Aq r vs++(σ.H k).cells.drop (off+(Aq r vs).length) }⟩:=by
 unfold Pi at c
 split at c
 case h_2=>exact c.elim
 rename_i k q off E heq
 cases heq
 split at c
 case h_2=>exact c.elim
 rename_i hl d m
 have d:=Yb d
 have m:=Yh m
 obtain⟨s,u,B,C,v⟩:=h.h.at hl
 obtain⟨F,G⟩:=DZ hl
 have fin:∀f z,K9 (τ.H k).cells off vs f→Hb r k vs (K ⟨τ.s,updH τ.H k ⟨q,true,(τ.H k).e,(τ.H k).sz,f⟩⟩ z)→_:=fun f z hs o=>by
  obtain⟨s1,s2⟩:=hs
  obtain⟨o,p,j⟩:=MF y h (DZ hl).2 o
  refine(⟨r.κ k,r.γ k+q,off,by simp[ren],s,u,by rw[CN,hi.siz,d],by intro e;have:=congrArg List.length e;rw[CN,EW]at this;omega,by rw[v,CN,CN];exact s1,?_,_,_,o,?_⟩:
   ∃k' g b,ren r (.ptr k q off)=.ptr k' g b∧g=(σ.H k').g∧(σ.H k').live=true∧(Aq r vs).length=P.cellsOf t∧Aq r vs≠[]∧b+(Aq r vs).length≤(σ.H k').cells.length∧(k'.1=l+1∨(Aq r vs).all (AV.low k'.1)=true)∧
   KS r l outs env K ⟨σ.s,updH σ.H k' {σ.H k' with cells:=(σ.H k').cells.take b++Aq r vs++(σ.H k').cells.drop (b+(Aq r vs).length) }⟩)
  ·exact j
  ·have w:=RG.updH y h k ⟨q,true,(τ.H k).e,(τ.H k).sz,f⟩ rfl p
   have A:AL r k ⟨q,true,(τ.H k).e,(τ.H k).sz,f⟩={σ.H (r.κ k)with cells:=(σ.H (r.κ k)).cells.take off++Aq r vs++(σ.H (r.κ k)).cells.drop (off+(Aq r vs).length) }:=by
    simp only[AL,v,CN,Fy,E0,←GH,s2,s,B,C,←u]
   rw[A]at w
   exact w
 split at c
 ·split at c
  ·rename_i D;exact fin _ _ ⟨Yh D,rfl⟩ c
  ·exact c.elim
 ·exact fin _ _ c.1 c.2
 ·exact c.elim
theorem Zor(L:RenOk r l outs)(D:Bg P T)(h:RG r l outs env τ σ)(v:Ch env [] o.op=true)(H:FE env o.dst=true)(s:Jx P T l n r o a K τ):BI P l n o (KA r l n outs B (DA env o.dst) K) σ:=by
 obtain⟨dst,op,ty,ps,af,gd⟩:=o
 have ops:∀{op:Op},Ch env [] op=true→(∀c x y,op≠.pick c x y)→∀x∈op.operands,ev σ.s x=ren r (ev τ.s x):=fun {op} v hne=>by
  unfold Ch at v
  split at v
  ·exact absurd rfl (hne _ _ _)
  ·exact Ga h Ba v
 unfold Jx at s
 simp only at v H s⊢
 split at s
 ·rename_i t
  split at s
  case h_2=>exact s.elim
  rename_i d i hi
  split at s
  case h_2=>exact s.elim
  rename_i z zs A
  have N:=Ke (r:=r) ((D _ _ hi).flt _ A)
  have O:=Me (x':=fun g=>.ptr (l+1,d) g 0) L h H (fun g=>by simp[ren,L.own]) s
  rw[N]at O
  simp only[BI,(D _ _ hi).zer _ A]
  exact⟨by simp,O4 O⟩
 ·rename_i t x
  split at s
  case h_2=>exact s.elim
  rename_i d z zs A Q
  have M:=ops v (fun _ _ _ e=>by cases e) x (by simp[Op.operands])
  have O:=Me (x':=fun g=>.ptr (l+1,d) g 0) L h H (fun g=>by simp[ren,L.own]) s
  have E:=OE (r:=r) A (O5 Q)
  simp only[BI,M,E]
  refine⟨ZBE (by simp),?_⟩
  rw[CN]
  exact O4 O
 ·rename_i t p x
  split at s
  case h_2=>exact s.elim
  rename_i i hi Q
  have M:=ops v (fun _ _ _ e=>by cases e) x (by simp[Op.operands])
  have hpp:=ops v (fun _ _ _ e=>by cases e) p (by simp[Op.operands])
  cases A:C8 (ev τ.s x)with
  |none=>rw[A]at s;unfold Pi at s;split at s<;>first|exact s.elim|(rename_i e;cases e)
  |some vs=>
   rw[A]at s
   have E:=OE (r:=r) A (O5 Q)
   obtain⟨k,g,off,S,Z,e3,e4,e5,e6,e7,e8⟩:=Zh4 L h (D _ _ hi) s
   simp only[BI,hpp,M,E,S]
   exact⟨Z,e3,e4,e5,e6,e7,.of e8⟩
 ·rename_i t len parts
  split at s
  case h_2=>exact s.elim
  rename_i d i hi
  split at s
  case h_2=>exact s.elim
  rename_i e sz he
  simp only[BI,(D _ _ hi).elm _ he]
  split at s
  ·rename_i u
   have u:=Yh u
   refine⟨by omega,?_⟩
   split at s
   ·rename_i hps
    obtain⟨I,G⟩:=T5 h H (y:=.e0) ⟨.e0,a,by simp[ren],s⟩
    exact⟨by rw[←YW,hps];rfl,I,.of G⟩
   ·exact s.elim
  ·rename_i len' u
   have u:=Yh u
   refine⟨by omega,?_⟩
   split at s
   case h_2=>exact s.elim
   rename_i j W X
   split at s
   case h_2=>exact s.elim
   rename_i z A
   split at s
   case h_2=>exact s.elim
   rename_i es F J
   split at s
   case h_2=>exact s.elim
   rename_i hes
   have S:(parts.toList.map fun p=>(p.1,ev σ.s p.2))=parts.toList.map fun p=>(p.1,ev τ.s p.2):=by
    have:(parts.toList.map fun p=>(p.1,ev σ.s p.2))=(parts.toList.map fun p=>(p.1,ev τ.s p.2)).map fun p=>(p.1,ren r p.2):=by
     rw[Il]
     refine Y9 fun p s=>?_
     simp only[Function.comp]
     rw[ops v (fun _ _ _ e=>by cases e) p.2 (by simp only[Op.operands,NO,YI];exact⟨p,s,rfl⟩)]
    rw[this,TR J]
   rw[S]
   simp only[(D _ _ W).zer _ A,J]
   obtain⟨I,G⟩:=T5 h H (y:=.d (.list es)) ⟨.d (.list es),a,by simp[ren],s⟩
   exact⟨Yh X,Yb F,Yb hes,I,.of G⟩
  ·exact s.elim
 ·rename_i t x y
  split at s
  case h_2=>exact s.elim
  rename_i d i k1 c k2 c' m C b hi hx0 hy0
  have M:=ops v (fun _ _ _ e=>by cases e) x (by simp[Op.operands])
  have hy:=ops v (fun _ _ _ e=>by cases e) y (by simp[Op.operands])
  rw[hx0]at M
  rw[hy0]at hy
  split at s
  case h_2=>exact s.elim
  rename_i e sz he
  split at s
  case h_2=>exact s.elim
  rename_i j W u
  split at s
  case h_2=>exact s.elim
  rename_i z byt A U
  split at s
  case h_2=>exact s.elim
  rename_i F
  obtain⟨⟨m1,m2,m3,m4⟩,s⟩:=s
  have F:=Yb F
  have u:=Yh u
  have hb:=(D _ _ W).byt _ U
  have hfz:=(D _ _ W).flt _ A
  have V:C.all AV.flat=true:=by
   subst m4
   refine Yq.2 fun q hq=>?_
   obtain⟨z',E,Y⟩:=Q0.1 hq
   rw[(QT.1 E).2]at Y
   exact Yq.1 hfz q Y
  have N:=Ke (r:=r) V
  have O:=Me (x':=fun g=>.ref (l+1,d) g 0 m) L h H (fun g=>by simp[ren,L.own]) s
  rw[N]at O
  simp only[BI,(D _ _ hi).elm _ he,M,hy,ren,(D _ _ W).zer _ A]
  subst m1
  have hbb:(P.bytesOf e:Int)*c'≤(byt:Int)*c':=oR (by omega) (by omega)
  refine⟨by omega,m2,by omega,hb.2,by omega,F,?_⟩
  simp only[YX,m4]
  exact O4 O
 ·rename_i c
  split at s
  ·rename_i w
   split at s
   case h_2=>exact s.elim
   rename_i d x y t t' ha ht
   split at s
   case h_2=>exact s.elim
   rename_i R
   have R:=Yb R
   subst R
   have G:c.argTypes=#[t,t]:=C7 (by simpa using ht)
   have M:=ops v (fun _ _ _ e=>by cases e) x (by simp only[Op.operands,Call.operands,NN];exact .inr (by rw[←XO,ha];simp))
   have hy:=ops v (fun _ _ _ e=>by cases e) y (by simp only[Op.operands,Call.operands,NN];exact .inr (by rw[←XO,ha];simp))
   simp only[BI,w,ha,ht]
   refine⟨by rw[G];rfl,?_⟩
   rw[M,hy]
   exact ZrW L D h H s
  ·rename_i hna
   split at s
   case h_2=>exact s.elim
   rename_i d
   unfold pV at s
   simp only at s
   split at s
   ·rename_i f w
    obtain⟨i,first,caps,x,a',S,Z,e3⟩:=gc h Ba (fun b e=>by cases e) w v s
    simp only[BI,w,S]
    refine Z.mono fun y H' ⟨I,G⟩=>?_
    subst I;subst G
    obtain⟨I,G⟩:=T5 h H (y:=ren r x) ⟨x,a',rfl,e3⟩
    exact⟨I,.of G⟩
   ·rename_i hnv
    refine Zty (o:=⟨some d,.call c,ty,ps,af,gd⟩) D h rfl v H s ?_
    simp only[BI]
 ·rename_i I G h3 h4 h5 h6
  split at s
  case h_2=>exact s.elim
  rename_i d
  have hp':tV T τ.H op (ev τ.s) none a (Fl n d K τ):=by
   unfold pV at s
   split at s
   ·exact absurd rfl (h6 _)
   ·exact absurd rfl (h4 _ _ _)
   ·exact s
  refine Zty (o:=⟨some d,op,ty,ps,af,gd⟩) D h rfl v H hp' ?_
  simp only[BI]
theorem Zud{d:Option Nat}{v y:AV}{c:Hp}(f:FE env d=true){τ':St}(h:RG r l outs env ⟨τ.s,τ'.H⟩ ⟨σ.s,c⟩)(hy:y=ren r v)(b:R7 n K τ.s τ'.H v a d):
  CL n d (KA r l n outs B (DA env d) K) ⟨σ.s,c⟩ y:=by
 cases d with
 |none=>exact .of ⟨_,_,b,h⟩
 |some d=>
  simp only[R7]at b
  split at b
  ·rename_i e;exact⟨Yh e,.of ⟨_,_,b,h.put0 f hy⟩⟩
  ·exact b.elim
theorem gZ(Q:RenOk r l outs)(A:Bg P T)(h:RG r l outs env τ σ)(s:Ch env [] o.op=true)(hf:FE env o.dst=true)(d:IN P T l n r o a K τ):Ca P l n B o (KA r l n outs B (DA env o.dst) K) σ:=by
 have ops:∀{op:Op},Ch env [] op=true→(∀c x y,op≠.pick c x y)→∀x∈op.operands,ev σ.s x=ren r (ev τ.s x):=fun {op} s hne=>by
  unfold Ch at s
  split at s
  ·exact absurd rfl (hne _ _ _)
  ·exact Ga h Ba s
 unfold IN at d
 split at d
 case h_2=>exact Mg (Zor Q A h s hf d)
 rename_i c ho
 split at d
 ·rename_i f
  split at d
  case h_2=>exact d.elim
  rename_i x y t t' ha ht
  have u:o.op=.call ⟨.builtin .copy,#[x,y],#[t,t']⟩:=by
   rw[ho]
   have C:c.args=#[x,y]:=C7 (by simpa using ha)
   have O:c.argTypes=#[t,t']:=C7 (by simpa using ht)
   cases c;simp only at f C O;subst f;subst C;subst O;rfl
  rw[u]at s
  have Z:=ops s (fun _ _ _ e=>by cases e) x (by simp[Op.operands,Call.operands])
  have hy:=ops s (fun _ _ _ e=>by cases e) y (by simp[Op.operands,Call.operands])
  unfold xz at d
  split at d
  case h_2=>exact d.elim
  rename_i i i' hi hi'
  split at d
  case h_2=>exact d.elim
  rename_i e sz e' sz' he he'
  split at d
  case h_2=>exact d.elim
  rename_i j q1 q2 V w Y
  split at d
  case h_2=>exact d.elim
  rename_i z k q off cn cnt news N b hz J
  split at d
  case h_2=>exact d.elim
  rename_i hl m
  obtain⟨h1,h2,h3,H⟩:=d
  obtain⟨H,I,p⟩:=MF Q h (DZ hl).2 H
  have q1:=Yb q1
  have q2:=Yb q2
  subst q1;subst q2
  have m:=Yb m
  have w:=Yh w
  obtain⟨D,E,S,F,G⟩:=h.h.at hl
  obtain⟨C,O⟩:=hU h Y h1
  rw[J]at Z
  obtain⟨s1,s2⟩:=h3
  obtain⟨ss,M⟩:=σ
  refine ZBq (k:=r.κ k) (g:=r.γ k+q) (off:=off) (cn:=cn) (cnt:=cnt) (news:=Aq r news) u (by rw[Z];simp[ren]) ((A _ _ hi).elm _ he) ((A _ _ hi').elm _ he') (by rw[(A _ _ V).zer _ hz];rfl) (by omega) D E (by rw[F,m]) (by rw[hy];exact C) h2
   (by rw[G,CN,CN];exact s1) p ?_
  have U:=RG.updH Q h k ⟨q,true,(τ.H k).e,(τ.H k).sz,N⟩ rfl I
  have R:AL r k ⟨q,true,(τ.H k).e,(τ.H k).sz,N⟩={M (r.κ k)with cells:=(M (r.κ k)).cells.take (off*sz)++Aq r news++(M (r.κ k)).cells.drop (off*sz+(Aq r news).length) }:=by
   simp only at D E S F G
   simp only[AL,G,CN,Fy,E0,←GH,s2,D,S,F,←E]
  simp only at R
  rw[R]at U
  refine Zud (v:=.d (.int .i64 cnt)) (a:=b) (τ':=⟨τ.s,updH τ.H k ⟨q,true,(τ.H k).e,(τ.H k).sz,N⟩⟩) hf U (by simp[ren]) H
 ·rename_i f
  split at d
  case h_2=>exact d.elim
  rename_i x t ha ht hd
  have u:o.op=.call ⟨.builtin .clear,#[x],#[t]⟩:=by
   rw[ho]
   have C:c.args=#[x]:=C7 (by simpa using ha)
   have O:c.argTypes=#[t]:=C7 (by simpa using ht)
   cases c;simp only at f C O;subst f;subst C;subst O;rfl
  rw[u]at s
  have Z:=ops s (fun _ _ _ e=>by cases e) x (by simp[Op.operands,Call.operands])
  unfold te at d
  split at d
  case h_2=>exact d.elim
  rename_i i hi
  split at d
  case h_2=>exact d.elim
  rename_i e sz he
  split at d
  case h_2=>exact d.elim
  rename_i j V w
  split at d
  case h_2=>exact d.elim
  rename_i z k q off cn N b hz J
  split at d
  case h_2=>exact d.elim
  rename_i hl m L
  obtain⟨⟨h1,h2⟩,H⟩:=d
  obtain⟨H,I,p⟩:=MF Q h (DZ hl).2 H
  have m:=Yb m
  have w:=Yh w
  have L:=Yb L
  obtain⟨D,E,S,F,G⟩:=h.h.at hl
  have hfz:=Ke (r:=r) ((A _ _ V).flt _ hz)
  rw[hfz]at p
  rw[J]at Z
  obtain⟨ss,M⟩:=σ
  refine Zsa (k:=r.κ k) (g:=r.γ k+q) (off:=off) (cn:=cn) u hd (by rw[Z];simp[ren]) ((A _ _ hi).elm _ he) ((A _ _ V).zer _ hz) L (by omega) D E (by rw[F,m]) (by rw[G,CN];exact h1) p ?_
  have U:=RG.updH Q h k ⟨q,true,(τ.H k).e,(τ.H k).sz,N⟩ rfl I
  have X:Aq r (List.replicate cn z).flatten=(List.replicate cn z).flatten:=Ke (by
   refine Yq.2 fun q hq=>?_
   obtain⟨z',hz',W⟩:=Q0.1 hq
   rw[(QT.1 hz').2]at W
   exact Yq.1 ((A _ _ V).flt _ hz) q W)
  have R:AL r k ⟨q,true,(τ.H k).e,(τ.H k).sz,N⟩={M (r.κ k)with cells:=(M (r.κ k)).cells.take (off*sz)++(List.replicate cn z).flatten++(M (r.κ k)).cells.drop ((off+cn)*sz) }:=by
   simp only at D E S F G
   rw[←h2]
   simp only[AL,G,GH,Fy,E0,X,D,S,F,←E]
  simp only at R
  rw[R]at U
  exact .of ⟨_,_,H,by rw[hd];exact U⟩
 ·exact Mg (Zor Q A h s hf d)
theorem xC{a:Nat→Option (Nat×Nat)}:∀(ps:List (Nat×AV)) (z cs:List AV),(∀p∈ps,IR p.2=true)→CI a z ps=some cs→CI a (Aq r z) (ps.map fun p=>(p.1,ren r p.2))=some (Aq r cs)
 |[],z,cs,_,h=>by
  simp only[CI,Yi]at h
  subst h
  simp[CI]
 |(f,v)::ps,z,cs,d,h=>by
  simp only[CI]at h
  split at h
  ·rename_i off size vs b g
   split at h
   ·cases h
   ·rename_i e
    have c:=OE (r:=r) g (O5 (d (f,v) (YB ..)))
    simp only[YS,CI,b,c,CN]
    rw[Yj e]
    have:=xC ps _ cs (fun p b=>d p (Ys _ b)) h
    rw[←this]
    simp only[GH,Fy,E0]
  ·cases h
theorem ZNA(d:B5 o=true)(b:IA P T l n r o a K τ):IN P T l n r o a K τ:=by
 unfold IA at b
 split at b
 ·rename_i c;simp[B5,c]at d
 ·exact b
theorem Zof(w:RenOk r l outs)(m:Bg P T)(h:RG r l outs env τ σ)(k:Ch env [] o.op=true)(u:FE env o.dst=true)(c:IA P T l n r o a K τ):Ca P l n B o (KA r l n outs B (DA env o.dst) K) σ:=by
 unfold IA at c
 split at c
 case h_2=>exact gZ w m h k u c
 rename_i t len parts E
 split at c
 case h_2=>exact gZ w m h k u c
 case h_3=>exact gZ w m h k u c
 rename_i b
 have ops:∀x∈o.op.operands,ev σ.s x=ren r (ev τ.s x):=by
  unfold Ch at k
  split at k
  ·rename_i e;rw[E]at e;cases e
  ·exact Ga h Ba k
 unfold pm at c
 split at c
 case h_2=>exact c.elim
 rename_i d i J hi
 split at c
 case h_2=>exact c.elim
 rename_i e sz he
 split at c
 case h_2=>exact c.elim
 rename_i j L F v
 split at c
 case h_2=>exact c.elim
 rename_i z N
 split at c
 case h_2=>exact c.elim
 rename_i cs G f D
 split at c
 case h_2=>exact c.elim
 rename_i C
 have I:(parts.toList.map fun p=>(p.1,ev σ.s p.2))=(parts.toList.map fun p=>(p.1,ev τ.s p.2)).map fun p=>(p.1,ren r p.2):=by
  rw[Il]
  refine Y9 fun p c=>?_
  rw[ops p.2 (by rw[E];simp only[Op.operands,NO,YI];exact⟨p,c,rfl⟩)]
  rfl
 have q:o.dst=some d:=J
 rw[q]at u⊢
 have M:=Me (x':=fun g=>.ref (l+1,d) g 0 (len+1)) w h u (fun g=>by simp[ren,w.own]) c
 obtain⟨s,H⟩:=σ
 exact ZfF E q ((m _ _ hi).elm _ he) (by have:=Yh F;omega) (Yh v) ((m _ _ L).zer _ N) (Yb G) (by
  rw[I]
  have:=xC (r:=r) _ _ _ (fun p c=>Yq.1 D p c) f
  rw[Ke (r:=r) (z:=(List.replicate (len+1) z).flatten) (Yq.2 fun x A=>by
   obtain⟨y,hy,A⟩:=Q0.1 A
   rw[List.eq_of_mem_replicate hy]at A
   exact Yq.1 C x A)]at this
  exact this) (O4 M)
theorem ZPL(d:B5 o=true)(b:Hv P T l n r o a K τ):IA P T l n r o a K τ:=by
 unfold Hv at b
 split at b
 case h_8 c e=>
  split at b
  ·rename_i g;simp[B5,e,g]at d
  ·exact b
 case h_9=>exact b
 all_goals rename_i e
 ·simp[B5,e]at d
 ·unfold Nj at b
  split at b
  ·rename_i f _ _ _;simp[B5,f]at d
  ·exact b.elim
 ·unfold Nj at b
  split at b
  ·rename_i f _ _ _;simp[B5,f]at d
  ·exact b.elim
 ·simp[B5,e]at d
 ·simp[B5,e]at d
 ·simp[B5,e]at d
 ·simp[B5,e]at d
theorem ZAQ{q:Bool}{x:AV}{ds:List D}(h:JQ q x=some ds):ren r x=x:=by
 cases q with
 |true=>
  cases x<;>simp only[JQ]at h<;>try (cases h;done)
  case agg xs=>simp only[ren,gj h]
 |false=>
  have h:(D2 x).map (fun d=>[d])=some ds:=by cases x<;>exact h
  obtain⟨d,a,_⟩:=Hh.1 h
  exact gu a
theorem fV(f:RenOk r l outs)(h:RG r l outs env τ σ){K:St→AT→Prop}{d:Nat}(m:fresh d env=true){e:EK}{x x':Nat→AV}(o:∀g,x' (r.γ (1,d)+g)=ren r (x g))(b:P2 n d e x K τ a):
  Sk l n d e x' (KA r l n outs B ((d,[])::env) K) σ:=by
 unfold P2 at b
 split at b
 ·rename_i k
  refine⟨Yh k,.of ⟨_,_,b,?_⟩⟩
  have j:=RG.updH f h (1,d) ⟨(τ.H (1,d)).g+1,true,e,0,[]⟩ rfl (.inl rfl)
  have c:=j.put0 m (v:=x ((τ.H (1,d)).g+1)) (y:=x' ((σ.H (l+1,d)).g+1)) (by rw[h.g,YE];exact o _)
  have i:AL r (1,d) ⟨(τ.H (1,d)).g+1,true,e,0,[]⟩=⟨(σ.H (l+1,d)).g+1,true,e,0,[]⟩:=by simp only[AL,Aq,h.g,YE]
  rw[i,f.own]at c
  exact c
 ·exact b.elim
theorem ZoH(G:RenOk r l outs)(W:Bg P T)(h:RG r l outs env τ σ)(hc:Ch env [] o.op=true)(D:FE env o.dst=true)(j:Hv P T l n r o a K τ):Ca P l n B o (KA r l n outs B (DA env o.dst) K) σ:=by
 have ops:(∀c x y,o.op≠.pick c x y)→∀x∈o.op.operands,ev σ.s x=ren r (ev τ.s x):=fun hne=>by
  unfold Ch at hc
  split at hc
  ·rename_i e;exact absurd e (hne _ _ _)
  ·exact Ga h Ba hc
 have st:∀{t x y z} (m:o.op=.mapUpdate t x y z∨o.op=.insert t x y z) (U:ev σ.s x=ren r (ev τ.s x)) (hy:ev σ.s y=ren r (ev τ.s y)) (hz:ev σ.s z=ren r (ev τ.s z)) (j:Nj T r o.dst t (ev τ.s x) (ev τ.s y) (ev τ.s z) a K τ),Ca P l n B o (KA r l n outs B (DA env o.dst) K) σ:=by
  intro t x y z m U hy hz j
  unfold Nj at j
  split at j
  case h_2=>exact j.elim
  rename_i i k g s w hi v hyv
  split at j
  case h_2=>exact j.elim
  rename_i q z0 q' es F hl he
  split at j
  case h_2=>exact j.elim
  rename_i ds E b _ _ _
  obtain⟨h1,V⟩:=j
  have hv:JQ q (ev τ.s z)=some ds:=by assumption
  have hq:Nc q q'=true:=by assumption
  have hq:=kr hq
  subst hq
  obtain⟨V,X,_⟩:=MF G h (DZ hl).2 V
  obtain⟨A,C,I,J,L⟩:=h.h.at hl
  rw[v]at U
  rw[hyv]at hy
  rw[ZAQ hv]at hz
  obtain⟨ss,N⟩:=σ
  refine ZlI (sk:=s) (k:=r.κ k) (g:=r.γ k+g) (es:=es) m w ((W _ _ hi).mp _ F) (by rw[U];simp[ren]) A C (by rw[I];exact he) (by rw[hy];simp[ren]) (by rw[hz];exact hv) ?_
  have M:=RG.updH G h k ⟨g,true,.m q E,(τ.H k).sz,(τ.H k).cells⟩ rfl X
  have H:AL r k ⟨g,true,.m q E,(τ.H k).sz,(τ.H k).cells⟩={N (r.κ k)with e:=.m q (DB s ds es) }:=by
   simp only at A C I J L
   rw[show DB s ds es=E from h1]
   simp only[AL,A,J,←L,←C]
  simp only at H
  rw[H]at M
  rw[w]
  exact .of ⟨_,_,V,M⟩
 unfold Hv at j
 split at j
 case h_9=>exact Zof G W h hc D j
 case h_8 c m=>
  split at j
  case h_2=>exact Zof G W h hc D j
  rename_i S
  split at j
  case h_2=>exact j.elim
  rename_i x y t t' ha ht
  have Y:o.op=.call ⟨.builtin .delete,#[x,y],#[t,t']⟩:=by
   rw[m]
   have e1:c.args=#[x,y]:=C7 (by simpa using ha)
   have e2:c.argTypes=#[t,t']:=C7 (by simpa using ht)
   cases c;simp only at S e1 e2;subst S;subst e1;subst e2;rfl
  have ops:=ops (by rw[Y];intro _ _ _ e;cases e)
  rw[Y]at ops
  have U:=ops x (by simp[Op.operands,Call.operands])
  have hy:=ops y (by simp[Op.operands,Call.operands])
  unfold pMd at j
  split at j
  case h_2=>exact j.elim
  rename_i i k g s w hi v hyv
  split at j
  case h_2=>exact j.elim
  rename_i q z0 q' es F hl he
  split at j
  case h_2=>exact j.elim
  rename_i E b _
  obtain⟨h1,V⟩:=j
  have hq:Nc q q'=true:=by assumption
  have hq:=kr hq
  subst hq
  obtain⟨V,X,_⟩:=MF G h (DZ hl).2 V
  obtain⟨A,C,I,J,L⟩:=h.h.at hl
  rw[v]at U
  rw[hyv]at hy
  obtain⟨ss,N⟩:=σ
  refine ZqN (sk:=s) (k:=r.κ k) (g:=r.γ k+g) (es:=es) Y w ((W _ _ hi).mp _ F) (by rw[U];simp[ren]) A C (by rw[I];exact he) (by rw[hy];simp[ren]) ?_
  have M:=RG.updH G h k ⟨g,true,.m q E,(τ.H k).sz,(τ.H k).cells⟩ rfl X
  have H:AL r k ⟨g,true,.m q E,(τ.H k).sz,(τ.H k).cells⟩={N (r.κ k)with e:=.m q (Eb s es) }:=by
   simp only at A C I J L
   rw[show Eb s es=E from h1]
   simp only[AL,A,J,←L,←C]
  simp only at H
  rw[H]at M
  rw[w]
  exact .of ⟨_,_,V,M⟩
 ·rename_i t rs m
  split at j
  case h_2=>exact j.elim
  rename_i d i w hi R
  split at j
  case h_2=>exact j.elim
  rename_i q z F
  rw[w]at D⊢
  have hn:=fV (B:=B) (x':=fun g=>.mp (l+1,d) g) G h D (fun g=>by simp[ren,G.own]) j
  obtain⟨ss,N⟩:=σ
  obtain⟨kt,et,hu,_,_,_⟩:=OX ((W _ _ hi).mp _ F)
  refine Zmm m w ⟨kt,et,hu⟩ (fun x U=>?_) hn
  subst U
  have u:=ops (by rw[m];intro _ _ _ e;cases e) x (by rw[m];simp[Op.operands])
  simp only[ZXc]at R
  split at R
  ·rename_i k n' he;exact⟨k,n',by rw[u,he];simp[ren]⟩
  ·cases R
 ·rename_i t x y z m
  have ops:=ops (by rw[m];intro _ _ _ e;cases e)
  rw[m]at ops
  exact st (.inl m) (ops x (by simp[Op.operands])) (ops y (by simp[Op.operands])) (ops z (by simp[Op.operands])) j
 ·rename_i t x y z m
  have ops:=ops (by rw[m];intro _ _ _ e;cases e)
  rw[m]at ops
  exact st (.inr m) (ops x (by simp[Op.operands])) (ops y (by simp[Op.operands])) (ops z (by simp[Op.operands])) j
 ·rename_i t x m
  split at j
  ·rename_i d i q es w hi v
   split at j
   case h_2=>exact j.elim
   rename_i z F
   rw[w]at D⊢
   have hn:=fV (B:=B) (x':=fun g=>.ptr (l+1,d) g 0) G h D (fun g=>by simp[ren,G.own]) j
   obtain⟨ss,N⟩:=σ
   obtain⟨kt,et,hu,_,_,_⟩:=OX ((W _ _ hi).mp _ F)
   have u:=ops (by rw[m];intro _ _ _ e;cases e) x (by rw[m];simp[Op.operands])
   exact Zxa m w ⟨kt,et,hu⟩ (by rw[u,v];simp[ren]) hn
  ·rename_i d i z w hi v
   split at j
   case h_2=>exact j.elim
   rename_i hkin
   rw[w]at D⊢
   have hn:=fV (B:=B) (x':=fun g=>.ptr (l+1,d) g 0) G h D (fun g=>by simp[ren,G.own]) j
   obtain⟨ss,N⟩:=σ
   have hu:=HC ((W _ _ hi).kin.trans (Yb hkin))
   have u:=ops (by rw[m];intro _ _ _ e;cases e) x (by rw[m];simp[Op.operands])
   exact ZqM m w hu (by rw[u,v];simp[ren]) hn
  ·exact j.elim
 ·rename_i x m
  split at j
  case h_2=>exact j.elim
  rename_i d k g w v
  split at j
  case h_2=>exact j.elim
  rename_i q rest cur Q hl he
  have u:=ops (by rw[m];intro _ _ _ e;cases e) x (by rw[m];simp[Op.operands])
  rw[v]at u
  obtain⟨A,C,I,J,L⟩:=h.h.at hl
  rw[w]at D⊢
  unfold pNx at j
  split at j
  case h_2=>exact j.elim
  rename_i a0 f O
  obtain⟨Z,hp1⟩:=j
  obtain⟨ss,N⟩:=σ
  refine ZAH (k:=r.κ k) (g:=r.γ k+g) (rest:=rest) (cur:=cur) m w (by rw[u];simp[ren]) A C (by rw[I];exact he) (Yh O) (fun h0=>.of ⟨_,_,Z h0,h.put0 D (by simp[ren,Aq])⟩) (fun i e hi=>?_)
  have hlt:=(Yd.1 hi).1
  have hpi:=hp1 i hlt
  split at hpi
  case h_2=>exact hpi.elim
  rename_i s ds es b hfi
  obtain⟨⟨k1,k2⟩,k3⟩:=hpi
  rw[hi]at k1
  cases k1
  have M:=RG.updH G h k ⟨g,true,.i q es (some (.str s::ds)),(τ.H k).sz,(τ.H k).cells⟩ rfl (.inl (Yb Q))
  have H:AL r k ⟨g,true,.i q es (some (.str s::ds)),(τ.H k).sz,(τ.H k).cells⟩={N (r.κ k)with e:=.i q (rest.eraseIdx i) (some (.str s::ds)) }:=by
   simp only at A C I J L
   rw[k2]
   simp only[AL,A,J,←L,←C]
  simp only at H
  rw[H]at M
  exact .of ⟨_,_,k3,M.put0 D (by simp only[nF,ren,Aq,Ui])⟩
 ·rename_i x m
  split at j
  case h_2=>exact j.elim
  rename_i d k g w v
  split at j
  case h_2=>exact j.elim
  rename_i z p Q hl he
  have u:=ops (by rw[m];intro _ _ _ e;cases e) x (by rw[m];simp[Op.operands])
  rw[v]at u
  obtain⟨A,C,I,J,L⟩:=h.h.at hl
  rw[w]at D⊢
  unfold pNs at j
  split at j
  case h_2=>exact j.elim
  rename_i a1 a0 O
  obtain⟨hp1,Z⟩:=j
  obtain⟨ss,N⟩:=σ
  refine Zr4 (k:=r.κ k) (g:=r.γ k+g) (z:=z) (p:=p) m w (by rw[u];simp[ren]) A C (by rw[I];exact he) (Yh O) (fun h0=>.of ⟨_,_,Z (Fv h0),h.put0 D (by simp[ren,Aq])⟩) (fun h1=>?_)
  have M:=RG.updH G h k ⟨g,true,.s z (p+Gu z p),(τ.H k).sz,(τ.H k).cells⟩ rfl (.inl (Yb Q))
  have H:AL r k ⟨g,true,.s z (p+Gu z p),(τ.H k).sz,(τ.H k).cells⟩={N (r.κ k)with e:=.s z (p+Gu z p) }:=by
   simp only at A C I J L
   simp only[AL,A,J,←L,←C]
  simp only at H
  rw[H]at M
  exact .of ⟨_,_,hp1 (YV h1),M.put0 D (by simp only[ren,Aq])⟩
 ·rename_i x m
  split at j
  case h_2=>exact j.elim
  rename_i d k g w v
  split at j
  case h_2=>exact j.elim
  rename_i q rest s ds Q hl he O
  have u:=ops (by rw[m];intro _ _ _ e;cases e) x (by rw[m];simp[Op.operands])
  rw[v]at u
  obtain⟨A,C,I,J,L⟩:=h.h.at hl
  rw[w]at D⊢
  obtain⟨ss,N⟩:=σ
  refine ZsU (k:=r.κ k) (g:=r.γ k+g) (rest:=rest) m w (by rw[u];simp[ren]) A C (by rw[I];exact he) (Yh O) ?_
  have M:=RG.updH G h k ⟨g,true,.i q rest none,(τ.H k).sz,(τ.H k).cells⟩ rfl (.inl (Yb Q))
  have H:AL r k ⟨g,true,.i q rest none,(τ.H k).sz,(τ.H k).cells⟩={N (r.κ k)with e:=.i q rest none }:=by
   simp only at A C I J L
   simp only[AL,A,J,←L,←C]
  simp only at H
  rw[H]at M
  exact .of ⟨_,_,j,M.put0 D (by simp only[ren,Aq,Ui])⟩
end
end Go.Eng
namespace Go.Eng
set_option linter.all false
open Go Go.RowKit
section
variable {P:Program} {T:Nat→Option TI} {r:Ren} {l n outs:Nat} {B:Base} {env:B4} {τ σ:St} {a:AT} {o:Oper}
theorem x8{H:Hp}{op:Op}{ρ:Operand→AV}{g:Option Bool}{K:AV→AT→Prop}(h:tV T H op ρ g a K):∃v b,K v b:=by
 have fin:∀{v b},K v b→∃v b,K v b:=fun h=>⟨_,_,h⟩
 cases op<;>simp only[tV]at h<;>try exact h.elim
 case move x=>exact fin h
 case assign x=>exact fin h
 case pick c x y=>split at h<;>first|exact fin h|exact h.elim
 case load t x=>
  split at h
  ·unfold MM at h
   repeat' split at h
   all_goals first|exact h.elim|exact fin h|exact fin h.2
  ·grind
 case fieldAddr t x f=>
  split at h
  ·unfold TG at h
   grind
  ·grind
 case field t x f=>
  split at h
  ·unfold Vd at h
   grind
  ·grind
 case indexAddr t x j=>
  split at h
  ·unfold TL at h
   grind
  ·grind
 case index t x j=>
  split at h
  ·unfold VH at h
   grind
  ·grind
 case extract x j=>
  repeat' split at h
  all_goals first|exact h.elim|exact fin h
 case makeInterface t x=>
  repeat' split at h
  all_goals first|exact h.elim|exact fin h
 case typeAssert x u t ok=>
  repeat' split at h
  all_goals first|exact h.elim|exact fin h
 case binOp o t x y u=>
  split at h
  ·unfold R9 at h
   split at h
   ·split at h
    ·unfold Sy at h
     grind
    grind
   ·unfold R0 at h
    grind
   ·grind
   ·grind
   ·split at h
    ·have nl:∀{neg:Bool} {x:AV},LM H neg x a K→∃v b,K v b:=fun {neg x} h=>by
      unfold LM at h
      repeat' split at h
      all_goals first|exact h.elim|exact fin (h true)|exact fin (h neg (fun _=>rfl))
     grind
    grind
   grind
  ·grind
 case unOp o t x=>
  unfold W3 at h
  repeat' split at h
  all_goals first|exact h.elim|exact fin h|exact fin h.2
 case nilCheck x=>
  split at h
  ·grind
  ·grind
  ·grind
 case convert s d x=>
  split at h
  ·unfold RE at h
   grind
  ·grind
 case makeFunc fn first e=>split at h<;>first|exact h.elim|exact fin h
 case slice t x lo hi k=>
  split at h
  ·unfold Vl at h
   grind
  ·grind
 case build t parts=>
  split at h
  ·unfold UA at h
   grind
  ·grind
 case lookup t x y i=>
  split at h
  ·unfold Rz at h
   grind
  ·grind
 case call c=>
  split at h
  ·split at h
   ·unfold SQ at h
    grind
   grind
  ·unfold Ey at h
   grind
  ·unfold Ey at h
   grind
  ·unfold GY at h
   grind
  ·grind
theorem bK{op:Op}{g:Option Bool}{K:AV→AT→Prop}(h:pV P T l r τ op g a K):∃v b,K v b:=by
 unfold pV at h
 split at h
 ·split at h
  ·unfold Wv at h
   grind
  ·exact x8 h
 ·unfold WQ at h
  repeat' split at h
  all_goals first|exact h.elim|exact⟨_,_,h⟩
 ·exact x8 h
def Yl(r:Ren)(e:Nat)(K:AV→AT→Prop)(σ b:St):Prop:=∃v a,b=⟨upd σ.s e (ren r v),σ.H⟩∧K v a
theorem ro(E:Bg P T)(h:RG r l outs env τ σ){c:CZ}(hs:Di τ.s c){g:Option Bool}(hg:∀b,g=some b→b=true){e:Nat}{op:Op}{ty:TypeId}{ps:String}{af:Array Edge}{gd:Option (Nat×Bool)}
  (I:Ch env c op=true) (q:e<n) {K:AV→AT→Prop} (d:pV P T l r τ op g a K):BI P l n ⟨some e,op,ty,ps,af,gd⟩ (Yl r e K σ) σ:=by
 have val:tV T τ.H op (ev τ.s) g a K→BI P l n ⟨some e,op,ty,ps,af,gd⟩ (Yl r e K σ) σ=A9 P σ.H op (ev σ.s) (CL n (some e) (Yl r e K σ) σ)→BI P l n ⟨some e,op,ty,ps,af,gd⟩ (Yl r e K σ) σ:=fun C D=>by
  rw[D]
  exact Ut (fun y ⟨v,A,u,B⟩=>⟨q,v,A,by rw[u],B⟩) (p6 E h hs hg I C)
 unfold pV at d
 split at d
 ·rename_i c
  split at d
  ·rename_i f k
   obtain⟨i,first,M,x,A,u,B,O⟩:=gc h hs hg k I d
   simp only[BI,k,u]
   exact B.mono fun y U ⟨C,D⟩=>by subst C;subst D;exact⟨q,x,A,rfl,O⟩
  ·rename_i G
   refine val d ?_
   cases k:c.callee with
   |value f=>exact absurd k (G f)
   |invoke x m=>simp only[tV,k]at d
   |builtin b=>
    cases b<;>simp only[tV,k]at d<;>simp only[BI,k]
 ·rename_i t len parts
  have J:(Op.buildSlice t len parts).operands.toList.all (H7 env c)=true:=I
  have u:(parts.toList.map fun p=>(p.1,ev σ.s p.2))=(parts.toList.map fun p=>(p.1,ev τ.s p.2)).map fun p=>(p.1,ren r p.2):=by
   rw[Il]
   refine Y9 fun p d=>?_
   simp only[Function.comp]
   rw[Ga h hs J p.2 (by simp only[Op.operands,NO,YI];exact⟨p,d,rfl⟩)]
  unfold WQ at d
  split at d
  case h_2=>exact d.elim
  rename_i i hi
  split at d
  case h_2=>exact d.elim
  rename_i e' sz he
  simp only[BI,(E _ _ hi).elm _ he]
  split at d
  ·rename_i o
   have o:=Yh o
   refine⟨by omega,?_⟩
   split at d
   ·rename_i H
    exact⟨by rw[←YW,H];rfl,q,.e0,a,by simp[ren],d⟩
   grind
  ·rename_i N o
   have o:=Yh o
   refine⟨by omega,?_⟩
   split at d
   case h_2=>exact d.elim
   rename_i j R w
   split at d
   case h_2=>exact d.elim
   rename_i z S
   split at d
   case h_2=>exact d.elim
   rename_i es L s
   split at d
   case h_2=>exact d.elim
   rename_i F
   rw[TR s]at u
   rw[u]
   simp only[(E _ _ R).zer _ S,s]
   exact⟨Yh w,Yb L,Yb F,q,.d (.list es),a,by simp[ren],d⟩
  grind
 ·rename_i Q V
  refine val d ?_
  cases op<;>simp only[tV]at d<;>try exact d.elim
  case call c=>exact absurd rfl (Q c)
  all_goals simp only[BI]
theorem pl(w:Bg P T)(h:RG r l outs env τ σ){c:CZ}(hs:Di τ.s c){g:Option Bool}(hg:∀b,g=some b→b=true){e:Nat}{op:Op}{ty:TypeId}{ps:String}{af:Array Edge}{gd:Option (Nat×Bool)}
  (C:Ch env c op=true) (o:e<n) {K:AV→AT→Prop} (d:pV P T l r τ op g a K):FR P l n ⟨some e,op,ty,ps,af,gd⟩ (Yl r e K σ) σ:=by
 have B:=ro (ty:=ty) (ps:=ps) (af:=af) (gd:=gd) w h hs hg C o d
 unfold pV at d
 split at d
 ·rename_i c
  split at d
  ·rename_i f k
   obtain⟨i,first,F,x,H,v,I,J⟩:=gc h hs hg k C d
   simp only[FR,k,v]
   exact⟨ren r x,I,o,x,H,rfl,J⟩
  ·rename_i A
   cases k:c.callee with
   |value f=>exact absurd k (A f)
   |_=>simp only[FR,k];exact B
 ·rename_i t len parts
  cases len with
  |zero=>exact B
  |succ len=>
   have D:(Op.buildSlice t (len+1) parts).operands.toList.all (H7 env c)=true:=C
   have v:(parts.toList.map fun p=>(p.1,ev σ.s p.2))=(parts.toList.map fun p=>(p.1,ev τ.s p.2)).map fun p=>(p.1,ren r p.2):=by
    rw[Il]
    refine Y9 fun p d=>?_
    simp only[Function.comp]
    rw[Ga h hs D p.2 (by simp only[Op.operands,NO,YI];exact⟨p,d,rfl⟩)]
   unfold WQ at d
   split at d
   case h_2=>exact d.elim
   rename_i i hi
   split at d
   case h_2=>exact d.elim
   rename_i e' sz he
   split at d
   ·rename_i q;cases q
   ·rename_i G u q
    cases q
    have u:=Yh u
    split at d
    case h_2=>exact d.elim
    rename_i j N s
    split at d
    case h_2=>exact d.elim
    rename_i z O
    split at d
    case h_2=>exact d.elim
    rename_i es E m
    split at d
    case h_2=>exact d.elim
    rename_i y
    rw[TR m]at v
    exact⟨.d (.list es),⟨e',sz,z,es,(w _ _ hi).elm _ he,by omega,Yh s,(w _ _ N).zer _ O,Yb E,by rw[v];exact m,Yb y,rfl⟩,o,.d (.list es),a,by simp[ren],d⟩
   ·exact d.elim
 ·rename_i L M
  cases op<;>first|exact absurd rfl (L _)|exact absurd rfl (M _ _ _)|exact B
theorem OU{d:Nat}{e:TypeId}{sz:Nat}{cells:List AV}{x:Nat→AV}{K a:St→Prop}(b:∀σ,K σ→a σ)(h:Eo l n d e sz cells x K σ):Eo l n d e sz cells x a σ:=⟨h.1,b _ h.2⟩
theorem Ztu{o:Oper}{K b:St→Prop}(a:∀σ,K σ→b σ)(h:BI P l n o K σ):BI P l n o b σ:=by
 have i:∀x,CL n o.dst K σ x→CL n o.dst b σ x:=fun x h=>by
  unfold CL at h⊢
  grind
 unfold BI at h⊢
 split at h
 ·split at h
  ·exact⟨h.1,OU a h.2⟩
  grind
 ·split at h
  ·exact⟨h.1,OU a h.2⟩
  grind
 ·grind
 ·split at h
  ·refine⟨h.1,?_⟩
   replace h:=h.2
   split at h
   ·grind
   ·refine⟨h.1,?_⟩
    replace h:=h.2
    split at h
    ·refine⟨h.1,?_⟩
     replace h:=h.2
     split at h
     ·grind
     ·split at h
      ·exact OU a h
      grind
    grind
  grind
 ·split at h
  ·obtain⟨c,d,f,j,k,h⟩:=h
   refine⟨c,d,f,j,k,?_⟩
   split at h
   ·exact⟨h.1,OU a h.2⟩
   grind
  grind
 ·split at h
  ·split at h
   ·exact h.mono fun r m g=>by
     unfold NX at g⊢
     unfold CL at g⊢
     grind
   grind
  ·split at h
   ·refine⟨h.1,?_⟩
    replace h:=h.2
    unfold Lt at h⊢
    split at h
    ·obtain⟨c,d,f,h⟩:=h
     refine⟨c,d,f,?_⟩
     split at h
     ·refine⟨h.1,?_⟩
      replace h:=h.2
      split at h
      ·exact⟨h.1,fun e=>⟨(h.2.1 e).1,a _ (h.2.1 e).2⟩,fun e=>OU a (h.2.2 e)⟩
      ·grind
      grind
     grind
    grind
   grind
  ·exact Ut i h
 ·exact Ut i h
theorem T0{o:Oper}{K a:St→Prop}(b:∀σ,K σ→a σ)(h:FR P l n o K σ):FR P l n o a σ:=by
 have e:∀{x},CL n o.dst K σ x→CL n o.dst a σ x:=fun {x} h=>by
  unfold CL at h⊢
  grind
 unfold FR at h⊢
 split at h
 ·obtain⟨v,c,d⟩:=h;exact⟨v,c,e d⟩
 ·split at h
  ·grind
  ·exact Ztu b h
 ·exact Ztu b h
theorem ZlX(h:RG r l outs env τ σ){ds:List (Option Nat)}{i d:Nat}{b g:Bool}(f:Bw ds i=some (some d))(hg:GK τ.s ((d,b)::lk env d)=some g):H8 σ.s ds i b=some g:=by
 rw[Ct]at f
 have e:=Mb hg
 unfold H8
 simp only[f]
 by_cases hs:Di τ.s (lk env d)
 ·have j:=(h.s d).1 hs
  have k:∃t,τ.s d=.d (.bool t):=by
   cases hl:lk env d with
   |nil=>
    rw[hl]at hg
    simp only[GK]at hg
    grind
   |cons q n=>
    rw[hl]at hg
    simp only[GK]at hg
    grind
  obtain⟨t,m⟩:=k
  rw[j,m]
  simp only[ren,Yi]
  cases g with
  |true=>
   have:=e.1 rfl (d,b) (YB ..)
   grind
  |false=>
   cases c:t==b with
   |false=>rfl
   |true=>
    exfalso
    have c:t=b:=by simpa using c
    have:Di τ.s ((d,b)::lk env d):=fun q a=>by
     rcases YG.1 a with rfl|a
     ·grind
     ·exact hs q a
    grind
 ·rw[(h.s d).2 hs]
  simp only[Yi]
  cases g with
  |false=>rfl
  |true=>exact absurd (fun q a=>e.1 rfl q (Ys _ a)) hs
theorem Md(D:RenOk r l outs)(z:Bg P T){ops:Array Oper}{K:St→B4→AT→Prop}{QQ:Exit→Act→World→Prop}(more:List Oper)
  (C:∀τ' j t E c w',K τ' j t→RG r l outs j τ' E→R l n B E c w'→wpList P ops QQ more c w'):
  ∀(rest:List Oper) (env:B4) (a:AT) (τ σ:St) (act:Act) (w:World),GX P T l n r (ops.toList.map (·.dst)) rest env a K τ→RG r l outs env τ σ→R l n B σ act w→wpList P ops QQ (rest++more) act w
 |[],env,a,τ,σ,act,w,h,k,u=>C _ _ _ _ _ _ h k u
 |o::rest,env,a,τ,σ,act,w,h,k,u=>by
  unfold GX at h
  split at h
  ·rename_i hg
   split at h
   ·rename_i Q X
    refine fB (by simp[Region.wanted,hg]) (ZoH (B:=B) D z k Q X h) u fun E c w' F p=>?_
    obtain⟨Z,⟨τ',t,x,L⟩,M⟩:=F
    exact Md D z more C rest _ _ _ _ _ _ x L (M _ _ p)
   grind
  ·rename_i i b hg
   split at h
   case h_2=>exact h.elim
   rename_i d e U he
   split at h
   case h_2=>exact h.elim
   rename_i g q Y f A
   simp only[Yc]at f
   have A:=Yh A
   have G:=ZlX k U q
   have hy:(yielded ops act.tmps i==some b)=g:=by
    obtain⟨s,H⟩:=σ
    obtain⟨m,S,hO,I,V,N,W⟩:=u.un
    exact ZlQ N G
   cases g with
   |true=>
    have hs:=(Mb q).1 rfl
    refine fB (by simp only[Region.wanted,hg];exact hy) (σ:=σ) (B:=B) (l:=l) (n:=n) (KK:=Yl r e (fun v t=>GX P T l n r (ops.toList.map (·.dst)) rest ((e,(d,b)::lk env d)::env) t K ⟨upd τ.s e v,τ.H⟩) σ) (Mg ?_) u fun E c w' O p=>?_
    ·obtain⟨J,op,ty,ps,af,gd⟩:=o
     simp only at he
     subst he
     exact ro z k hs (fun b' e'=>by cases e';rfl) Y (by omega) h
    ·obtain⟨v,t,rfl,x⟩:=O
     exact Md D z more C rest _ _ _ _ _ _ x (k.put f.1 f.2 (fun _=>rfl) (fun I=>absurd hs I)) p
   |false=>
    have hs:¬Di τ.s ((d,b)::lk env d):=fun hs=>by have:=(Mb q).2 hs;cases this
    obtain⟨v,t,x⟩:=bK h
    show wpList P ops QQ (o::(rest++more)) act w
    unfold wpList
    rw[Yj (by simp only[Region.wanted,hg,hy];decide),he]
    exact Md D z more C rest _ _ _ _ _ _ x (k.put f.1 f.2 (y:=.tup []) (fun h=>absurd h hs) (fun _=>rfl)) (R.undef u (by omega))
theorem Mj(J:RenOk r l outs)(B:Bg P T){ds:List (Option Nat)}{K:St→B4→AT→Prop}:
  ∀(rest:List Oper) (env:B4) (a:AT) (τ σ:St),rest.all (fun o=>C9 o||B9 o)=true→GO P T l n r ds rest env a K τ→RG r l outs env τ σ→D7 P l n ds rest (fun X=>∃τ' z f,K τ' z f∧RG r l outs z τ' X) σ
 |[],env,a,τ,σ,_,h,u=>⟨_,_,_,h,u⟩
 |o::rest,env,a,τ,σ,w,h,u=>by
  simp only[Ik,Yc]at w
  unfold GO at h
  unfold D7
  split at h
  ·rename_i hg
   simp only[hg]
   split at h
   case h_2=>exact h.elim
   rename_i H Y
   by_cases G:B9 o=true
   ·obtain⟨j,op,ty,ps,af,gd⟩:=o
    cases op<;>simp only[B9]at G<;>first|(cases G;done)|skip
    rename_i t p x
    cases j with
    |some d=>cases G
    |none=>
     unfold de at h
     simp only at h
     unfold Hv IA IN Jx at h
     simp only at h H
     split at h
     case h_2=>exact h.elim
     rename_i i hi R
     have A:∀y∈(Op.store t p x).operands,ev σ.s y=ren r (ev τ.s y):=by
      unfold Ch at H
      exact Ga u Ba H
     have U:=A x (by simp[Op.operands])
     have S:=A p (by simp[Op.operands])
     cases V:C8 (ev τ.s x)with
     |none=>rw[V]at h;unfold Pi at h;split at h<;>first|exact h.elim|(rename_i e;cases e)
     |some vs=>
      rw[V]at h
      have W:=OE (r:=r) V (O5 R)
      obtain⟨k,g,off,L,e2,e3,e4,e5,e6,e7,e8⟩:=Zh4 J u (B _ _ hi) h
      obtain⟨τ',f,m,h2⟩:=e8
      simp only[FR,BI,S,U,W,L]
      exact⟨e2,e3,e4,e5,e6,e7,Mj J B rest _ _ _ _ w.2 m h2⟩
   have I:C9 o=true:=by
    grind
   replace w:C9 o=true∧_:=⟨I,w.2⟩
   obtain⟨j,op,ty,ps,af,gd⟩:=o
   have E:∃d,j=some d:=by
    have:=w.1
    unfold C9 B5 at this
    rw[YF,Yc,Yc]at this
    rcases this with h|h
    ·exact F6.1 h.1
    ·exact F6.1 h.1
   obtain⟨d,rfl⟩:=E
   simp only at H Y hg
   have Z:pV P T l r τ op none a (Fl n d (fun τ' f=>GO P T l n r ds rest (DA env (some d)) f K τ') τ):=by
    by_cases C:∃t len p,op=.buildSlice t (len+1) p
    ·obtain⟨t,len,p,rfl⟩:=C
     exact h
    ·have c:B5 ⟨some d,op,ty,ps,af,gd⟩=true:=gO w.1 fun t len p e=>C ⟨t,len,p,e⟩
     have h:Hv P T l n r ⟨some d,op,ty,ps,af,gd⟩ a (fun τ' f=>GO P T l n r ds rest (DA env (some d)) f K τ') τ:=by
      unfold de at h
      split at h
      ·rename_i L _;exact absurd ⟨_,_,_,L⟩ C
      ·exact h
     have h:=ZNA c (ZPL c h)
     unfold IN at h
     simp only at h
     have h:Jx P T l n r ⟨some d,op,ty,ps,af,none⟩ a (fun τ' f=>GO P T l n r ds rest (DA env (some d)) f K τ') τ:=by
      subst hg
      split at h
      ·split at h
       ·rename_i q;simp[B5,q]at c
       ·grind
       ·exact h
      ·exact h
     unfold Jx at h
     simp only at h
     split at h
     ·simp[B5]at c
     ·simp[B5]at c
     ·grind
     ·simp[B5]at c
     ·simp[B5]at c
     ·split at h
      ·rename_i q;simp[B5,q]at c
      ·exact h
     ·exact h
   have O:∃v f,Fl n d (fun τ' f=>GO P T l n r ds rest (DA env (some d)) f K τ') τ v f:=bK Z
   have N:d<n:=by
    obtain⟨v,f,m⟩:=O
    unfold Fl at m
    split at m
    ·rename_i E;have E:=Yh E;exact E
    grind
   have:=pl (ty:=ty) (ps:=ps) (af:=af) (gd:=gd) B u Ba (fun b e=>by cases e) H N Z
   refine T0 (fun X M=>?_) this
   obtain⟨v,f,rfl,m⟩:=M
   unfold Fl at m
   split at m
   ·exact Mj J B rest _ _ _ _ w.2 m (u.put0 Y rfl)
   grind
  ·rename_i i b hg
   have I:C9 o=true:=by
    have:=w.1
    rw[YF]at this
    rcases this with h|h
    ·exact h
    ·exfalso
     obtain⟨j,op,ty,ps,af,gd⟩:=o
     simp only at hg
     subst hg
     cases op<;>cases j<;>simp[B9]at h
   simp only[hg]
   split at h
   case h_2=>exact h.elim
   rename_i d e E he
   split at h
   case h_2=>exact h.elim
   rename_i g D U s F
   simp only[Yc]at s
   have F:=Yh F
   rw[ZlX u E D]
   refine⟨fun AP=>?_,fun Q=>?_⟩
   ·subst AP
    have hs:=(Mb D).1 rfl
    obtain⟨j,op,ty,ps,af,gd⟩:=o
    simp only at he
    subst he
    refine T0 (fun X M=>?_) (pl (ty:=ty) (ps:=ps) (af:=af) (gd:=gd) B u hs (fun b' e'=>by cases e';rfl) U (by omega) h)
    obtain⟨v,f,rfl,m⟩:=M
    exact Mj J B rest _ _ _ _ w.2 m (u.put s.1 s.2 (fun _=>rfl) (fun hn=>absurd hs hn))
   ·subst Q
    have hs:¬Di τ.s ((d,b)::lk env d):=fun hs=>by have:=(Mb D).2 hs;cases this
    obtain⟨v,f,m⟩:=bK h
    rw[he]
    exact⟨F,Mj J B rest _ _ _ _ w.2 m (u.put s.1 s.2 (y:=.tup []) (fun h=>absurd h hs) (fun _=>rfl))⟩
end
def AN:List (Nat×AV)→Nat→AV
 |[],_=>.top
 |(i,x)::r,j=>match Nat.beq i j with|true=>x|false=>AN r j
def Fi:Blk:=⟨0,false,0,0,[]⟩
def AI:List (Ad×Blk)→Ad→Blk
 |[],_=>Fi
 |(k,b)::r,q=>match BL k q with|true=>b|false=>AI r q
def Ab(ss:List (Nat×AV))(hs:List (Ad×Blk)):St:=⟨AN ss,AI hs⟩
mutual
def Eu(H:Hp):AV→Option AV
 |.ref k g off n=>match BO H k g with|true=>some (.ref k 0 off n)|false=>none
 |.ptr k g off=>match BO H k g with|true=>some (.ptr k 0 off)|false=>none
 |.mp k g=>match BO H k g with|true=>some (.mp k 0)|false=>none
 |.fn f xs ys=>match HV H xs,HV H ys with|some xs,some ys=>some (.fn f xs ys)|_,_=>none
 |.agg xs=>match HV H xs with|some xs=>some (.agg xs)|none=>none
 |.tup xs=>match HV H xs with|some xs=>some (.tup xs)|none=>none
 |.top=>some .top
 |.d x=>some (.d x)
 |.e0=>some .e0
 |.p x=>some (.p x)
 |.iptr cs off=>some (.iptr cs off)
 |.ifc t ds a=>some (.ifc t ds a)
def HV(H:Hp):List AV→Option (List AV)
 |[]=>some []
 |x::xs=>match Eu H x,HV H xs with|some x,some xs=>some (x::xs)|_,_=>none
end
def nJ(H:Hp)(x:AV):AV:=match Eu H x with|some v=>v|none=>.top
def Mn(H:Hp)(s:Nat→AV):List Nat→List (Nat×AV)
 |[]=>[]
 |j::r=>(j,nJ H (s j))::Mn H s r
def Gh(cs:List AV):Prop:=∀x∈cs,x.flat=true
def MH(H:Hp):List (Ad×Bool)→(List (Ad×Blk)→Prop)→Prop
 |[],K=>K []
 |(k,fl)::r,K=>match (H k).live with
  |false=>MH H r K
  |true=>match fl with
   |true=>Gh (H k).cells∧MH H r (fun a=>K ((k,⟨0,true,(H k).e,(H k).sz,(H k).cells⟩)::a))
   |false=>match HV H (H k).cells with
    |some cs=>MH H r (fun a=>K ((k,⟨0,true,(H k).e,(H k).sz,cs⟩)::a))
    |none=>False
def R5:AV→Bool
 |.e0=>true
 |_=>false
def Pm:List (Nat×Nat×TypeId×Nat)→St→(St→Prop)→Prop
 |[],τ,K=>K τ
 |(j,d,e,sz)::r,τ,K=>match R5 (τ.s j),(τ.H (1,d)).live with
  |true,false=>Pm r ⟨upd τ.s j (.ref (1,d) ((τ.H (1,d)).g+1) 0 0),updH τ.H (1,d) ⟨(τ.H (1,d)).g+1,true,e,sz,[]⟩⟩ K
  |true,true=>False
  |false,_=>Pm r τ K
structure Lf where
 ls:List Nat
 ks:List (Ad×Bool):=[]
 ad:List (Nat×Nat×TypeId×Nat):=[]
 ze:List Nat:=[]
def Nm:List Nat→St→St
 |[],τ=>τ
 |j::r,τ=>match R5 (τ.s j)with|true=>Nm r ⟨upd τ.s j (.d (.list [])),τ.H⟩|false=>Nm r τ
def gz(H:Hp):List Nat→Bool
 |[]=>true
 |i::r=>Nat.beq (H (0,i)).g 0&&gz H r
def FL(fx:List Nat)(f:Lf)(τ:St)(Φ:St→Prop):Prop:=Pm f.ad (Nm f.ze τ) (fun τ=>match gz τ.H fx with|true=>MH τ.H f.ks (fun hs=>Φ (Ab (Mn τ.H τ.s f.ls) hs))|false=>False)
structure Cx where
 l:Nat
 B:Base
 κ:Ad→Ad
 θ:Nat→AV
 H0:Hp
 outs:Nat
 no:Ad→Prop
 fx:List Nat
 G:(Ad→Nat)→Prop
def Cx.r(C:Cx)(γ:Ad→Nat):Ren:=⟨C.κ,γ,C.θ,C.H0,C.no⟩
structure CxOk (C:Cx):Prop where
 own:∀d,C.κ (1,d)=(C.l+1,d)
 out:∀i,i<C.outs→(C.κ (0,i)).1≤C.l
 inj:∀i j,i<C.outs→j<C.outs→C.κ (0,i)=C.κ (0,j)→i=j
 no:∀k,C.no k→∃i,i<C.outs∧C.κ (0,i)=k
 G:∀γ γ':Ad→Nat,(∀i∈C.fx,γ' (0,i)=γ (0,i))→C.G γ→C.G γ'
theorem CxOk.ren{C:Cx}(h:CxOk C)(γ:Ad→Nat):RenOk (C.r γ) C.l C.outs:=⟨h.own,h.out,h.inj,h.no⟩
def Wk(n:Nat)(C:Cx)(σ b:St):Prop:=∀a w,R C.l n C.B σ a w→R C.l n C.B b a w
def Is(n:Nat)(C:Cx)(Φ:St→Prop)(σ:St):Prop:=∃γ τ a,C.G γ∧Φ τ∧RG (C.r γ) C.l C.outs [] τ a∧Wk n C σ a
def LW(P:Program)(n:Nat)(C:Cx)(c:Code)(τ:St)(Q:Exit→St→Prop):Prop:=
 ∀γ σ,C.G γ→RG (C.r γ) C.l C.outs [] τ σ→BT P C.l n C.B c (fun e a=>Is n C (Q e) a) σ
def RO(P:Program)(l n:Nat)(B:Base)(c:Code)(Q:Exit→St→Prop)(σ:St):Prop:=
 ∀a w,R l n B σ a w→∀(b:Frame) (k:List Item) (cs:List Frame),∃e d w',(∃f,Q e f∧R l n B f d w')∧Arrives P (lone (b.at a (.code c::.inLoop c::k)) cs w) b k cs e d w'
def LL(P:Program)(n:Nat)(C:Cx)(c:Code)(τ:St)(Q:Exit→St→Prop):Prop:=
 ∀γ σ,C.G γ→RG (C.r γ) C.l C.outs [] τ σ→RO P C.l n C.B c (fun e a=>Is n C (Q e) a) σ
def El(env:B4)(τ:St):St:=⟨fun j=>match lk env j with|[]=>τ.s j|_=>.top,τ.H⟩
def K8(C:List AV)(off n sz:Nat)(es:List (List D)):Prop:=es.length=n∧sz≠0∧(∀e∈es,e.length=sz)∧(off+n)*sz≤C.length∧(C.drop (off*sz)).take (n*sz)=es.flatten.map .d
def WU(H:Hp)(d:Nat)(s:Nat→AV)(A:Prop):List (Nat×List (List D))→Prop
 |[]=>A
 |(j,es)::r=>match s j with
  |.ref k q off m=>(match BL k (1,d),BO H k q with|true,true=>K8 (H (1,d)).cells off m (H (1,d)).sz es∧WU H d s A r|_,_=>False)
  |_=>False
def WR(H:Hp)(d:Nat)(A:Prop):List (Ad×Nat×List (List D))→Prop
 |[]=>A
 |(k,i,es)::r=>match Nat.beq k.1 1,BL k (1,d),(H k).live,Bw (H k).cells i with
  |true,false,true,some (.ref k' q off m)=>(match BL k' (1,d),BO H k' q with|true,true=>K8 (H (1,d)).cells off m (H (1,d)).sz es∧WR H d A r|_,_=>False)
  |_,_,_,_=>False
def trK(r:Ren)(k:Ad)(A:Prop):Prop:=
 match Nat.beq k.1 1 with
 |true=>A
 |false=>Lb r k∧A
def WW(H:Hp)(d:Nat)(s:Nat→AV):List Nat→Bool
 |[]=>true
 |j::r=>match s j with
  |.mp k g=>BL k (1,d)&&BO H k g&&WW H d s r
  |_=>false
def WZ(H:Hp)(d:Nat)(s:Nat→AV):List Nat→Bool
 |[]=>true
 |j::r=>match s j with
  |.ptr k g 0=>BL k (1,d)&&BO H k g&&WZ H d s r
  |_=>false
def Bu(r:Ren)(os:Nat):AT→St→(St→AT→Prop)→Prop
 |.frz d f cs b,τ,K=>match (τ.H (1,d)).live,Nat.ble 1 (τ.H (1,d)).sz with
  |true,true=>WU τ.H d τ.s (WR τ.H d (Bu r os b ⟨IE f τ.s,Hn cs (updH τ.H (1,d) ⟨(τ.H (1,d)).g,false,(τ.H (1,d)).e,(τ.H (1,d)).sz,(τ.H (1,d)).cells⟩)⟩ K) cs) f
  |_,_=>False
 |.adc k i d e sz b,τ,K=>match Nat.beq k.1 1,BL k (1,d),(τ.H k).live,Bw (τ.H k).cells i with
  |true,false,true,some .e0=>Bu r os b ⟨τ.s,updH (updH τ.H (1,d) ⟨(τ.H (1,d)).g+1,true,e,sz,[]⟩) k ⟨(τ.H k).g,true,(τ.H k).e,(τ.H k).sz,(τ.H k).cells.set i (.ref (1,d) ((τ.H (1,d)).g+1) 0 0)⟩⟩ K
  |_,_,_,_=>False
 |.sep b,τ,K=>K τ b
 |.ads j d e sz b,τ,K=>match R5 (τ.s j)with
  |true=>Bu r os b ⟨upd τ.s j (.ref (1,d) ((τ.H (1,d)).g+1) 0 0),updH τ.H (1,d) ⟨(τ.H (1,d)).g+1,true,e,sz,[]⟩⟩ K
  |false=>False
 |.trim k c b,τ,K=>match (τ.H k).live with
  |true=>(∃m,(τ.H k).cells.take m=c)∧trK r k (Bu r os b ⟨τ.s,updH τ.H k ⟨(τ.H k).g,true,(τ.H k).e,(τ.H k).sz,c⟩⟩ K)
  |false=>False
 |.reb j d m c b,τ,K=>match τ.s j with
  |.ref k q off n=>(match BL k (1,d),BO τ.H k q with
   |true,true=>(n=m∧off*(τ.H k).sz≤(τ.H k).cells.length∧(τ.H k).cells.drop (off*(τ.H k).sz)=c)∧Bu r os b ⟨upd τ.s j (.ref k (q+1) 0 m),updH τ.H k ⟨q+1,true,.t (τ.H k).e.ty,(τ.H k).sz,c⟩⟩ K
   |_,_=>False)
  |_=>False
 |.mv d j b,τ,K=>match (τ.H (1,d)).live with
  |true=>Ge (τ.H (1,d)).cells∧(j<os∧r.no (r.κ (0,j)))∧Bu r os b ⟨fun i=>Fq (1,d) (0,j) (τ.H (1,d)).g ((τ.H (0,j)).g+1) (τ.s i),
    updH (updH τ.H (1,d) ⟨(τ.H (1,d)).g,false,(τ.H (1,d)).e,(τ.H (1,d)).sz,(τ.H (1,d)).cells⟩) (0,j) ⟨(τ.H (0,j)).g+1,true,(τ.H (1,d)).e,(τ.H (1,d)).sz,(τ.H (1,d)).cells⟩⟩ K
  |false=>False
 |.fzm d f b,τ,K=>match (τ.H (1,d)).live,(τ.H (1,d)).e,WW τ.H d τ.s f with
  |true,.m q es,true=>Bu r os b ⟨EP (.d (.map q es)) f τ.s,updH τ.H (1,d) ⟨(τ.H (1,d)).g,false,(τ.H (1,d)).e,(τ.H (1,d)).sz,(τ.H (1,d)).cells⟩⟩ K
  |_,_,_=>False
 |.fzb d f b,τ,K=>match (τ.H (1,d)).live,LG (τ.H (1,d)).cells,WZ τ.H d τ.s f with
  |true,some (x::ds),true=>Bu r os b ⟨EP (.iptr (x::ds) 0) f τ.s,updH τ.H (1,d) ⟨(τ.H (1,d)).g,false,(τ.H (1,d)).e,(τ.H (1,d)).sz,(τ.H (1,d)).cells⟩⟩ K
  |_,_,_=>False
 |.rnm d d' e i b,τ,K=>match (τ.H (1,d)).live,Nat.beq d d',Nat.beq e d,Nat.beq e d',(τ.H (1,e)).live,Bw (τ.H (1,e)).cells i with
  |true,false,false,false,true,some (.ref k g off c)=>(match BL k (1,d),Nat.beq g (τ.H (1,d)).g with
   |true,true=>Ge (τ.H (1,d)).cells∧Bu r os b ⟨fun j=>Fq (1,d) (1,d') (τ.H (1,d)).g ((τ.H (1,d')).g+1) (τ.s j),
     updH (updH (updH τ.H (1,d) ⟨(τ.H (1,d)).g,false,(τ.H (1,d)).e,(τ.H (1,d)).sz,(τ.H (1,d)).cells⟩) (1,d') ⟨(τ.H (1,d')).g+1,true,(τ.H (1,d)).e,(τ.H (1,d)).sz,(τ.H (1,d)).cells⟩)
      (1,e) ⟨(τ.H (1,e)).g,true,(τ.H (1,e)).e,(τ.H (1,e)).sz,(τ.H (1,e)).cells.set i (.ref (1,d') ((τ.H (1,d')).g+1) off c)⟩⟩ K
   |_,_=>False)
  |_,_,_,_,_,_=>False
 |.mvc d q e i b,τ,K=>match (τ.H (1,d)).live,Nat.beq e d,(τ.H (1,e)).live,Bw (τ.H (1,e)).cells i with
  |true,false,true,some (.ref k g off c)=>(match BL k (1,d),Nat.beq g (τ.H (1,d)).g with
   |true,true=>Ge (τ.H (1,d)).cells∧(q<os∧r.no (r.κ (0,q)))∧Bu r os b ⟨fun j=>Fq (1,d) (0,q) (τ.H (1,d)).g ((τ.H (0,q)).g+1) (τ.s j),
     updH (updH (updH τ.H (1,d) ⟨(τ.H (1,d)).g,false,(τ.H (1,d)).e,(τ.H (1,d)).sz,(τ.H (1,d)).cells⟩) (0,q) ⟨(τ.H (0,q)).g+1,true,(τ.H (1,d)).e,(τ.H (1,d)).sz,(τ.H (1,d)).cells⟩)
      (1,e) ⟨(τ.H (1,e)).g,true,(τ.H (1,e)).e,(τ.H (1,e)).sz,(τ.H (1,e)).cells.set i (.ref (0,q) ((τ.H (0,q)).g+1) off c)⟩⟩ K
   |_,_=>False)
  |_,_,_,_=>False
 |a,τ,K=>K τ a
def Db(P:Program)(T:Nat→Option TI)(l n os:Nat)(r:Ren):Code→AT→St→(Exit→St→AT→Prop)→Prop
 |.skip,a,τ,K=>K .normal τ a
 |.ret,a,τ,K=>Bu r os a τ (fun τ a=>K .ret τ a)
 |.exit id,a,τ,K=>K (.exit id) τ a
 |.seq x y,a,τ,K=>Db P T l n os r x a τ (fun e τ' d=>match e with|.normal=>Db P T l n os r y d τ' K|e=>K e τ' d)
 |.block id c,a,τ,K=>Db P T l n os r c a τ (fun e τ' d=>match e with|.exit i=>(match Nat.beq i id with|true=>K .normal τ' d|false=>K (.exit i) τ' d)|e=>K e τ' d)
 |.cond c x y,a,τ,K=>match ev τ.s c,a with
  |.d (.bool b),.br a1 g=>(b=true→Db P T l n os r x a1 τ K)∧(b=false→Db P T l n os r y g τ K)
  |.d (.bool b),.go a=>(match b with|true=>Db P T l n os r x a τ K|false=>Db P T l n os r y a τ K)
  |.d (.bool b),.one v a=>(match v with|true=>(b=true→Db P T l n os r x a τ K)∧(b=false→False)|false=>(b=true→False)∧(b=false→Db P T l n os r y a τ K))
  |_,_=>False
 |.region _ ops f,a,τ,K=>match f with
  |false=>Bu r os a τ (fun τ a=>GX P T l n r (ops.toList.map (·.dst)) ops.toList [] a (fun τ' env d=>K .normal (El env τ') d) τ)
  |true=>match WN ops.toList&&ops.toList.all (fun o=>C9 o||B9 o)&&KY ops.toList 0 ops.toList with
   |true=>Bu r os a τ (fun τ a=>GO P T l n r (ops.toList.map (·.dst)) ops.toList [] a (fun τ' env d=>K .normal (El env τ') d) τ)
   |false=>False
 |_,_,_,_=>False
mutual
def frz(H:Hp):AV→AT→(AV→AT→Prop)→Prop
 |.d x,a,K=>K (.d x) a
 |.e0,a,K=>K (.d (.list [])) a
 |.ifc t ds q,a,K=>K (.ifc t ds q) a
 |.agg xs,a,K=>Iv H xs a (fun ys b=>K (.agg ys) b)
 |.ref k g off n,a,K=>match Nat.beq k.1 0,Nat.beq k.1 1,BO H k g with
  |true,_,true=>K (.ref k g off n) a
  |false,true,true=>(match a with|.av (.d (.list es)) b=>K8 (H k).cells off n (H k).sz es∧K (.d (.list es)) b|_=>False)
  |_,_,_=>False
 |.mp k g,a,K=>match Nat.beq k.1 0,Nat.beq k.1 1,BO H k g,(H k).e with
  |true,_,true,_=>K (.mp k g) a
  |false,true,true,.m q es=>K (.d (.map q es)) a
  |_,_,_,_=>False
 |_,_,_=>False
def Iv(H:Hp):List AV→AT→(List AV→AT→Prop)→Prop
 |[],a,K=>K [] a
 |x::xs,a,K=>frz H x a (fun y c=>Iv H xs c (fun ys b=>K (y::ys) b))
end
def nA(T:Nat→Option TI)(τ:St):ResultVar→(AV→Prop)→Prop
 |.tmp t,K=>K (τ.s t)
 |.cell p t,K=>match τ.s p,T t with
  |.ptr k g off,some i=>(match BO τ.H k g,i.agg with
   |true,true=>(match Nat.ble 1 i.siz,I5 i.siz ((τ.H k).cells.drop off)with|true,some c=>K (.agg c)|_,_=>False)
   |true,false=>(match Bw (τ.H k).cells off with|some c=>K c|none=>False)
   |false,_=>False)
  |_,_=>False
def dG(T:Nat→Option TI)(τ:St):List ResultVar→(List AV→Prop)→Prop
 |[],K=>K []
 |v::vs,K=>nA T τ v (fun x=>dG T τ vs (fun xs=>K (x::xs)))
def I7(H:Hp):Nat→Nat→List Blk
 |0,_=>[]
 |n+1,i=>H (0,i)::I7 H n (i+1)
def Ol(T:Nat→Option TI)(c:List ResultVar)(os:Nat)(τ:St)(a:AT)(b:AV→List Blk→Prop):Prop:=
 dG T τ c (fun xs=>Iv τ.H xs a (fun ys _=>b (DL ys) (I7 τ.H os 0)))
def FQ(T:Nat→Option TI)(c:List ResultVar)(os:Nat)(b:AV→List Blk→Prop)(e:Exit)(τ:St):Prop:=(e=.normal∨e=.ret)∧∃a,Ol T c os τ a b
end Go.Eng
