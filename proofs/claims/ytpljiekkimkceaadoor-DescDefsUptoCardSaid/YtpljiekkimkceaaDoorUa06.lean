import Derived.Test.YtpljiekkimkceaaDoorUa05
import Derived.Test.YtpljiekkimkceaaDoorUa04
import Derived.Test.YtpljiekkimkceaaDoorUa00
namespace Go.Eng
set_option linter.all false
open Go Go.RowKit
def KA(r:Ren)(l n outs:Nat)(B:Base)(env:AW)(K:St→AT→Prop)(σ:St):Prop:=∃b,EC r l outs env K b∧∀a w,R l n B σ a w→R l n B b a w
section
variable {P:Program} {T:Nat→Option TI} {r:Ren} {l n outs:Nat} {B:Base} {env:AW} {τ σ:St} {a:AT} {o:Oper} {K:St→AT→Prop}
theorem KA.of(h:EC r l outs env K σ):KA r l n outs B env K σ:=⟨σ,h,fun _ _ h=>h⟩
theorem Gy{d:Nat}{e:TypeId}{sz:Nat}{cells:List AV}{x:Nat→AV}(h:BP l n d e sz cells x (EC r l outs env K) σ):BP l n d e sz cells x (KA r l n outs B env K) σ:=⟨h.1,.of h.2⟩
theorem N1(i:AG P T)(h:RG r l outs env τ σ){d:Nat}(k:o.dst=some d)(j:Be env [] o.op=true)(m:fresh d env=true)(p:tV T τ.H o.op (ev τ.s) none a (Cj n d K τ))
  (c:AF P l n o (KA r l n outs B ((d,[])::env) K) σ=Aq P σ.H o.op (ev σ.s) (A3 n o.dst (KA r l n outs B ((d,[])::env) K) σ)):AF P l n o (KA r l n outs B ((d,[])::env) K) σ:=by
 rw[c,k]
 refine H3 (fun y hy=>?_) (OT i h Au (fun b e=>by cases e) j p)
 obtain⟨f,g⟩:=HV h m hy
 exact⟨f,.of g⟩
theorem Na{x:AV}{d:D}(h:CG x=some d):ren r x=x:=by
 cases x<;>simp only[CG]at h<;>first|(simp[ren];done)|cases h
theorem M8:∀{xs:List AV} {ds:List D},BB xs=some ds→Ab r xs=xs
 |[],_,_=>by simp[Ab]
 |x::xs,ds,h=>by
  simp only[BB]at h
  split at h
  ·rename_i d a b c
   rw[Ab,Na b,M8 c]
  ·cases h
theorem UF{x:AV}{e:List D}(h:FT x=some e):ren r x=x:=by
 cases x with
 |agg xs=>simp only[FT]at h;rw[ren,M8 h]
 |_=>
  simp only[FT]at h
  split at h
  ·rename_i d a;exact Na a
  ·cases h
theorem HU{sz:Nat}:∀{ps:List (Nat×AV)} {i:Nat} {es:List (List D)},Cu sz i ps=some es→(ps.map fun p=>(p.1,ren r p.2))=ps
 |[],_,_,_=>rfl
 |(j,v)::ps,i,es,h=>by
  simp only[Cu]at h
  split at h
  ·rename_i e a b c
   simp only[YK,UF b,HU c]
  ·cases h
theorem KE(h:RG r l outs env τ σ){sz c:Nat}{y:AV}{news:List AV}(i:Iu τ.H sz y=true)(hs:CI sz (cellsOf τ.H y) y c news):D9 σ.H sz (ren r y)=some (c,Ab r news)∧(Ab r news).all AV.one=true:=by
 obtain⟨n,a⟩:=hs
 have b:(Ab r news).all AV.one=true:=by
  rw[CD,List.all_map]
  refine Yo.2 fun x o=>?_
  have:=Yo.1 n x o
  cases x<;>first|(simp[Function.comp,ren,AV.one];done)|cases this
 refine⟨?_,b⟩
 split at a
 ·obtain⟨rfl,rfl⟩:=a;simp[ren,D9,Ab]
 ·rename_i es
  obtain⟨d,rfl,rfl⟩:=a
  simp only[ren,D9]
  rw[Yt (Yo.2 fun e he=>by simpa using d e he),DN]
 ·rename_i k g off m
  obtain⟨rfl,d,rfl⟩:=a
  simp only[Iu,Ye]at i
  obtain⟨hl,p⟩:=i
  obtain⟨g1,j,g3,g4,f⟩:=h.h.at hl
  have e:cellsOf τ.H (.ref k g off c)=(τ.H k).cells:=by simp[cellsOf,hl]
  rw[e]at d⊢
  simp only[ren,D9]
  rw[Yt ⟨g1,j,by rw[g4];exact Ya p,by rw[f,Bc];exact d⟩,f,Ce,Co]
 ·exact a.elim
theorem Se(E:RenOk r l outs)(F:AG P T)(h:RG r l outs env τ σ){d:Nat}{t:TypeId}{x y:AV}(X:fresh d env=true)(b:Lq T r n d t x y a K τ):
  FO P l n d t (ren r x) (ren r y) (KA r l n outs B ((d,[])::env) K) σ:=by
 unfold Lq at b
 split at b
 case h_2=>exact b.elim
 rename_i i hi
 split at b
 case h_2=>exact b.elim
 rename_i e sz he
 split at b
 case h_2=>exact b.elim
 rename_i j L J m
 have J:=Yf J
 unfold FO
 rw[(F _ _ hi).elm _ he]
 split at b
 ·rename_i byt z c news q W Z
  obtain⟨f,U,o⟩:=b
  obtain⟨O,Q⟩:=KE h m f
  obtain⟨M,N⟩:=(F _ _ L).byt _ W
  have G:c*P.bytesOf e≤140737488355328:=CQ (Nat.mul_le_mul_left _ M) U
  refine⟨by omega,N,by rw[(F _ _ L).zer _ Z];rfl,?_⟩
  simp only[O,ren]
  refine⟨Q,G,fun hc=>?_,fun hc=>?_⟩
  ·subst hc
   have C:d<n:=by
    unfold DV at o
    split at o
    ·rename_i C;have:=Yf C;omega
    ·exact o.elim
   have hn:=E0 (x':=fun g=>.ref (l+1,d) g 0 0) E h X (fun g=>by simp[ren,E.own]) o
   have I:Ab r news=[]:=by
    have hl:news=[]:=by
     obtain⟨_,f⟩:=f
     split at f
     ·exact f.2
     ·obtain⟨_,A,p⟩:=f
      have:‹List (List D)›=[]:=YL A.symm
      rw[this]at p;simpa using p
     ·obtain⟨A,_,p⟩:=f;rw[←A]at p;simpa using p
     ·exact f.elim
    rw[hl];simp[Ab]
   rw[I]at hn
   refine⟨C,_,hn.2,fun act w hR=>?_⟩
   have:=R.adopt (e:=e) (sz:=sz) hR (l+1,d) rfl ((σ.H (l+1,d)).g+1) (YV _) (d:=d) (by simp[upd])
   have S:upd (upd σ.s d .e0) d (.ref (l+1,d) ((σ.H (l+1,d)).g+1) 0 0)=upd σ.s d (.ref (l+1,d) ((σ.H (l+1,d)).g+1) 0 0):=by funext j;unfold upd;split<;>rfl
   simp only[S]at this
   exact this
  ·exact Gy (E0 (x':=fun g=>.ref (l+1,d) g 0 c) E h X (fun g=>by simp[ren,E.own]) o)
 ·rename_i byt z k q off c' c news C' n' q' W Z
  split at b
  case h_2=>exact b.elim
  rename_i hl u s C
  obtain⟨f,⟨U,o,A,p⟩,V⟩:=b
  obtain⟨V,Y,H⟩:=Ig E h (BV hl).2 V
  obtain⟨O,Q⟩:=KE h m f
  obtain⟨M,N⟩:=(F _ _ L).byt _ W
  obtain⟨g1,g2,g3,g4,g5⟩:=h.h.at hl
  have C:=Yf C
  have u:=Ya u
  have s:=TC s
  refine⟨by omega,N,by rw[(F _ _ L).zer _ Z];rfl,?_⟩
  simp only[O,ren]
  refine⟨Q,g1,g2,by rw[g4,u],by rw[g3,s],by rw[g5,Bc];exact U,by rw[A];exact CQ (Nat.mul_le_mul_left _ M) p,H,by omega,.of ⟨_,_,V,?_⟩⟩
  have h7:=h.put0 (v:=.ref k (q+1) 0 n') (y:=.ref (r.κ k) (r.γ k+q+1) 0 (c'+c)) X (by simp[ren,A,Yr])
  have h8:=RG.updH E h7 k ⟨q+1,true,e,sz,C'⟩ rfl Y
  have S:Ah r k ⟨q+1,true,e,sz,C'⟩=⟨r.γ k+q+1,true,e,sz,(σ.H (r.κ k)).cells.drop (off*sz)++Ab r news⟩:=by
   simp only[Ah,g5,Ce,←CX,o,Yr]
  rw[S]at h8
  exact h8
 ·exact b.elim
theorem MU(w:RenOk r l outs)(h:RG r l outs env τ σ){t:TypeId}{i:TI}(hi:TIok P t i){x:AV}{vs:List AV}(c:GC r n i x (some vs) a K τ):
  ∃k g off,ren r x=.ptr k g off∧g=(σ.H k).g∧(σ.H k).live=true∧(Ab r vs).length=P.cellsOf t∧Ab r vs≠[]∧off+(Ab r vs).length≤(σ.H k).cells.length∧(k.1=l+1∨(Ab r vs).all (AV.low k.1)=true)∧
   EC r l outs env K ⟨σ.s,updH σ.H k {σ.H k with cells:=(σ.H k).cells.take off++Ab r vs++(σ.H k).cells.drop (off+(Ab r vs).length) }⟩:=by
 unfold GC at c
 split at c
 case h_2=>exact c.elim
 rename_i k q off B heq
 cases heq
 split at c
 case h_2=>exact c.elim
 rename_i hl d m
 have d:=Ya d
 have m:=Yf m
 obtain⟨g1,s,g3,g4,u⟩:=h.h.at hl
 obtain⟨C,D⟩:=BV hl
 have fin:∀f y,I9 (τ.H k).cells off vs f→Eg r k vs (K ⟨τ.s,updH τ.H k ⟨q,true,(τ.H k).e,(τ.H k).sz,f⟩⟩ y)→_:=fun f y hs o=>by
  obtain⟨s1,s2⟩:=hs
  obtain⟨o,p,j⟩:=Ig w h (BV hl).2 o
  refine(⟨r.κ k,r.γ k+q,off,by simp[ren],g1,s,by rw[Bc,hi.siz,d],by intro e;have:=congrArg List.length e;rw[Bc,YX]at this;omega,by rw[u,Bc,Bc];exact s1,?_,_,_,o,?_⟩:
   ∃k' g b,ren r (.ptr k q off)=.ptr k' g b∧g=(σ.H k').g∧(σ.H k').live=true∧(Ab r vs).length=P.cellsOf t∧Ab r vs≠[]∧b+(Ab r vs).length≤(σ.H k').cells.length∧(k'.1=l+1∨(Ab r vs).all (AV.low k'.1)=true)∧
   EC r l outs env K ⟨σ.s,updH σ.H k' {σ.H k' with cells:=(σ.H k').cells.take b++Ab r vs++(σ.H k').cells.drop (b+(Ab r vs).length) }⟩)
  ·exact j
  ·have v:=RG.updH w h k ⟨q,true,(τ.H k).e,(τ.H k).sz,f⟩ rfl p
   have z:Ah r k ⟨q,true,(τ.H k).e,(τ.H k).sz,f⟩={σ.H (r.κ k)with cells:=(σ.H (r.κ k)).cells.take off++Ab r vs++(σ.H (r.κ k)).cells.drop (off+(Ab r vs).length) }:=by
    simp only[Ah,u,Bc,Co,Ce,←CX,s2,g1,g3,g4,←s]
   rw[z]at v
   exact v
 split at c
 ·split at c
  ·rename_i A;exact fin _ _ ⟨Yf A,rfl⟩ c
  ·exact c.elim
 ·exact fin _ _ c.1 c.2
 ·exact c.elim
theorem NF(L:RenOk r l outs)(D:AG P T)(h:RG r l outs env τ σ)(v:Be env [] o.op=true)(H:Ex env o.dst=true)(s:EG P T l n r o a K τ):AF P l n o (KA r l n outs B (CE env o.dst) K) σ:=by
 obtain⟨dst,op,ty,ps,af,gd⟩:=o
 have ops:∀{op:Op},Be env [] op=true→(∀c x y,op≠.pick c x y)→∀x∈op.operands,ev σ.s x=ren r (ev τ.s x):=fun {op} v hne=>by
  unfold Be at v
  split at v
  ·exact absurd rfl (hne _ _ _)
  ·exact CV h Au v
 unfold EG at s
 simp only at v H s⊢
 split at s
 ·rename_i t
  split at s
  case h_2=>exact s.elim
  rename_i d i hi
  split at s
  case h_2=>exact s.elim
  rename_i z zs A
  have N:=Er (r:=r) ((D _ _ hi).flt _ A)
  have O:=E0 (x':=fun g=>.ptr (l+1,d) g 0) L h H (fun g=>by simp[ren,L.own]) s
  rw[N]at O
  simp only[AF,(D _ _ hi).zer _ A]
  exact⟨by simp,Gy O⟩
 ·rename_i t x
  split at s
  case h_2=>exact s.elim
  rename_i d z zs A Q
  have M:=ops v (fun _ _ _ e=>by cases e) x (by simp[Op.operands])
  have O:=E0 (x':=fun g=>.ptr (l+1,d) g 0) L h H (fun g=>by simp[ren,L.own]) s
  have E:=Gp (r:=r) A (Gz Q)
  simp only[AF,M,E]
  refine⟨SF (by simp),?_⟩
  rw[Bc]
  exact Gy O
 ·rename_i t p x
  split at s
  case h_2=>exact s.elim
  rename_i i hi Q
  have M:=ops v (fun _ _ _ e=>by cases e) x (by simp[Op.operands])
  have hpp:=ops v (fun _ _ _ e=>by cases e) p (by simp[Op.operands])
  cases A:Bk (ev τ.s x)with
  |none=>rw[A]at s;unfold GC at s;split at s<;>first|exact s.elim|(rename_i e;cases e)
  |some vs=>
   rw[A]at s
   have E:=Gp (r:=r) A (Gz Q)
   obtain⟨k,g,off,S,Z,e3,e4,e5,e6,e7,e8⟩:=MU L h (D _ _ hi) s
   simp only[AF,hpp,M,E,S]
   exact⟨Z,e3,e4,e5,e6,e7,.of e8⟩
 ·rename_i t len parts
  split at s
  case h_2=>exact s.elim
  rename_i d i hi
  split at s
  case h_2=>exact s.elim
  rename_i e sz he
  simp only[AF,(D _ _ hi).elm _ he]
  split at s
  ·rename_i u
   have u:=Yf u
   refine⟨by omega,?_⟩
   split at s
   ·rename_i hps
    obtain⟨I,G⟩:=HV h H (y:=.e0) ⟨.e0,a,by simp[ren],s⟩
    exact⟨by rw[←Y5,hps];rfl,I,.of G⟩
   ·exact s.elim
  ·rename_i len' u
   have u:=Yf u
   refine⟨by omega,?_⟩
   split at s
   case h_2=>exact s.elim
   rename_i j W X
   split at s
   case h_2=>exact s.elim
   rename_i z A
   split at s
   case h_2=>exact s.elim
   rename_i es F J
   split at s
   case h_2=>exact s.elim
   rename_i hes
   have S:(parts.toList.map fun p=>(p.1,ev σ.s p.2))=parts.toList.map fun p=>(p.1,ev τ.s p.2):=by
    have:(parts.toList.map fun p=>(p.1,ev σ.s p.2))=(parts.toList.map fun p=>(p.1,ev τ.s p.2)).map fun p=>(p.1,ren r p.2):=by
     rw[CS]
     refine YW fun p s=>?_
     simp only[Function.comp]
     rw[ops v (fun _ _ _ e=>by cases e) p.2 (by simp only[Op.operands,Gc,YD];exact⟨p,s,rfl⟩)]
    rw[this,HU J]
   rw[S]
   simp only[(D _ _ W).zer _ A,J]
   obtain⟨I,G⟩:=HV h H (y:=.d (.list es)) ⟨.d (.list es),a,by simp[ren],s⟩
   exact⟨Yf X,Ya F,Ya hes,I,.of G⟩
  ·exact s.elim
 ·rename_i t x y
  split at s
  case h_2=>exact s.elim
  rename_i d i k1 c k2 c' m C b hi hx0 hy0
  have M:=ops v (fun _ _ _ e=>by cases e) x (by simp[Op.operands])
  have hy:=ops v (fun _ _ _ e=>by cases e) y (by simp[Op.operands])
  rw[hx0]at M
  rw[hy0]at hy
  split at s
  case h_2=>exact s.elim
  rename_i e sz he
  split at s
  case h_2=>exact s.elim
  rename_i j W u
  split at s
  case h_2=>exact s.elim
  rename_i z byt A U
  split at s
  case h_2=>exact s.elim
  rename_i F
  obtain⟨⟨m1,m2,m3,m4⟩,s⟩:=s
  have F:=Ya F
  have u:=Yf u
  have hb:=(D _ _ W).byt _ U
  have hfz:=(D _ _ W).flt _ A
  have V:C.all AV.flat=true:=by
   subst m4
   refine Yo.2 fun q hq=>?_
   obtain⟨z',E,Y⟩:=Ht.1 hq
   rw[(Js.1 E).2]at Y
   exact Yo.1 hfz q Y
  have N:=Er (r:=r) V
  have O:=E0 (x':=fun g=>.ref (l+1,d) g 0 m) L h H (fun g=>by simp[ren,L.own]) s
  rw[N]at O
  simp only[AF,(D _ _ hi).elm _ he,M,hy,ren,(D _ _ W).zer _ A]
  subst m1
  have hbb:(P.bytesOf e:Int)*c'≤(byt:Int)*c':=Mm (by omega) (by omega)
  refine⟨by omega,m2,by omega,hb.2,by omega,F,?_⟩
  simp only[Int.toNat_natCast,m4]
  exact Gy O
 ·rename_i c
  split at s
  ·rename_i w
   split at s
   case h_2=>exact s.elim
   rename_i d x y t t' ha ht
   split at s
   case h_2=>exact s.elim
   rename_i R
   have R:=Ya R
   subst R
   have G:c.argTypes=#[t,t]:=YS (by simpa using ht)
   have M:=ops v (fun _ _ _ e=>by cases e) x (by simp only[Op.operands,Call.operands,Gb];exact .inr (by rw[←Jj,ha];simp))
   have hy:=ops v (fun _ _ _ e=>by cases e) y (by simp only[Op.operands,Call.operands,Gb];exact .inr (by rw[←Jj,ha];simp))
   simp only[AF,w,ha,ht]
   refine⟨by rw[G];rfl,?_⟩
   rw[M,hy]
   exact Se L D h H s
  ·rename_i hna
   split at s
   case h_2=>exact s.elim
   rename_i d
   unfold pV at s
   simp only at s
   split at s
   ·rename_i f w
    obtain⟨i,first,caps,x,a',S,Z,e3⟩:=Ki h Au (fun b e=>by cases e) w v s
    simp only[AF,w,S]
    refine Z.mono fun y H' ⟨I,G⟩=>?_
    subst I;subst G
    obtain⟨I,G⟩:=HV h H (y:=ren r x) ⟨x,a',rfl,e3⟩
    exact⟨I,.of G⟩
   ·rename_i hnv
    refine N1 (o:=⟨some d,.call c,ty,ps,af,gd⟩) D h rfl v H s ?_
    simp only[AF]
 ·rename_i I G h3 h4 h5 h6
  split at s
  case h_2=>exact s.elim
  rename_i d
  have hp':tV T τ.H op (ev τ.s) none a (Cj n d K τ):=by
   unfold pV at s
   split at s
   ·exact absurd rfl (h6 _)
   ·exact absurd rfl (h4 _ _ _)
   ·exact s
  refine N1 (o:=⟨some d,op,ty,ps,af,gd⟩) D h rfl v H hp' ?_
  simp only[AF]
theorem TQ{d:Option Nat}{v y:AV}{c:Hp}(f:Ex env d=true){τ':St}(h:RG r l outs env ⟨τ.s,τ'.H⟩ ⟨σ.s,c⟩)(hy:y=ren r v)(b:Lr n K τ.s τ'.H v a d):
  A3 n d (KA r l n outs B (CE env d) K) ⟨σ.s,c⟩ y:=by
 cases d with
 |none=>exact .of ⟨_,_,b,h⟩
 |some d=>
  simp only[Lr]at b
  split at b
  ·rename_i e;exact⟨Yf e,.of ⟨_,_,b,h.put0 f hy⟩⟩
  ·exact b.elim
theorem Kr(N:RenOk r l outs)(A:AG P T)(h:RG r l outs env τ σ)(s:Be env [] o.op=true)(hf:Ex env o.dst=true)(d:Ec P T l n r o a K τ):Ba P l n B o (KA r l n outs B (CE env o.dst) K) σ:=by
 have ops:∀{op:Op},Be env [] op=true→(∀c x y,op≠.pick c x y)→∀x∈op.operands,ev σ.s x=ren r (ev τ.s x):=fun {op} s hne=>by
  unfold Be at s
  split at s
  ·exact absurd rfl (hne _ _ _)
  ·exact CV h Au s
 unfold Ec at d
 split at d
 case h_2=>exact Gl (NF N A h s hf d)
 rename_i c ho
 split at d
 ·rename_i f
  split at d
  case h_2=>exact d.elim
  rename_i x y t t' ha ht
  have u:o.op=.call ⟨.builtin .copy,#[x,y],#[t,t']⟩:=by
   rw[ho]
   have C:c.args=#[x,y]:=YS (by simpa using ha)
   have M:c.argTypes=#[t,t']:=YS (by simpa using ht)
   cases c;simp only at f C M;subst f;subst C;subst M;rfl
  rw[u]at s
  have W:=ops s (fun _ _ _ e=>by cases e) x (by simp[Op.operands,Call.operands])
  have hy:=ops s (fun _ _ _ e=>by cases e) y (by simp[Op.operands,Call.operands])
  unfold Ph at d
  split at d
  case h_2=>exact d.elim
  rename_i i i' hi hi'
  split at d
  case h_2=>exact d.elim
  rename_i e sz e' sz' he he'
  split at d
  case h_2=>exact d.elim
  rename_i j q1 q2 R w V
  split at d
  case h_2=>exact d.elim
  rename_i z k q off cn cnt news L b X H
  split at d
  case h_2=>exact d.elim
  rename_i hl m
  obtain⟨Y,Z,h3,F⟩:=d
  obtain⟨F,G,p⟩:=Ig N h (BV hl).2 F
  have q1:=Ya q1
  have q2:=Ya q2
  subst q1;subst q2
  have m:=Ya m
  have w:=Yf w
  obtain⟨g1,D,g3,g4,E⟩:=h.h.at hl
  obtain⟨C,M⟩:=KE h V Y
  rw[H]at W
  obtain⟨s1,s2⟩:=h3
  obtain⟨ss,J⟩:=σ
  refine SG (k:=r.κ k) (g:=r.γ k+q) (off:=off) (cn:=cn) (cnt:=cnt) (news:=Ab r news) u (by rw[W];simp[ren]) ((A _ _ hi).elm _ he) ((A _ _ hi').elm _ he') (by rw[(A _ _ R).zer _ X];rfl) (by omega) g1 D (by rw[g4,m]) (by rw[hy];exact C) Z
   (by rw[E,Bc,Bc];exact s1) p ?_
  have Q:=RG.updH N h k ⟨q,true,(τ.H k).e,(τ.H k).sz,L⟩ rfl G
  have O:Ah r k ⟨q,true,(τ.H k).e,(τ.H k).sz,L⟩={J (r.κ k)with cells:=(J (r.κ k)).cells.take (off*sz)++Ab r news++(J (r.κ k)).cells.drop (off*sz+(Ab r news).length) }:=by
   simp only at g1 D g3 g4 E
   simp only[Ah,E,Bc,Co,Ce,←CX,s2,g1,g3,g4,←D]
  simp only at O
  rw[O]at Q
  refine TQ (v:=.d (.int .i64 cnt)) (a:=b) (τ':=⟨τ.s,updH τ.H k ⟨q,true,(τ.H k).e,(τ.H k).sz,L⟩⟩) hf Q (by simp[ren]) F
 ·rename_i f
  split at d
  case h_2=>exact d.elim
  rename_i x t ha ht hd
  have u:o.op=.call ⟨.builtin .clear,#[x],#[t]⟩:=by
   rw[ho]
   have C:c.args=#[x]:=YS (by simpa using ha)
   have M:c.argTypes=#[t]:=YS (by simpa using ht)
   cases c;simp only at f C M;subst f;subst C;subst M;rfl
  rw[u]at s
  have W:=ops s (fun _ _ _ e=>by cases e) x (by simp[Op.operands,Call.operands])
  unfold OD at d
  split at d
  case h_2=>exact d.elim
  rename_i i hi
  split at d
  case h_2=>exact d.elim
  rename_i e sz he
  split at d
  case h_2=>exact d.elim
  rename_i j R w
  split at d
  case h_2=>exact d.elim
  rename_i z k q off cn L b X H
  split at d
  case h_2=>exact d.elim
  rename_i hl m I
  obtain⟨⟨Y,Z⟩,F⟩:=d
  obtain⟨F,G,p⟩:=Ig N h (BV hl).2 F
  have m:=Ya m
  have w:=Yf w
  have I:=Ya I
  obtain⟨g1,D,g3,g4,E⟩:=h.h.at hl
  have hfz:=Er (r:=r) ((A _ _ R).flt _ X)
  rw[hfz]at p
  rw[H]at W
  obtain⟨ss,J⟩:=σ
  refine Sg (k:=r.κ k) (g:=r.γ k+q) (off:=off) (cn:=cn) u hd (by rw[W];simp[ren]) ((A _ _ hi).elm _ he) ((A _ _ R).zer _ X) I (by omega) g1 D (by rw[g4,m]) (by rw[E,Bc];exact Y) p ?_
  have Q:=RG.updH N h k ⟨q,true,(τ.H k).e,(τ.H k).sz,L⟩ rfl G
  have U:Ab r (List.replicate cn z).flatten=(List.replicate cn z).flatten:=Er (by
   refine Yo.2 fun q hq=>?_
   obtain⟨z',hz',S⟩:=Ht.1 hq
   rw[(Js.1 hz').2]at S
   exact Yo.1 ((A _ _ R).flt _ X) q S)
  have O:Ah r k ⟨q,true,(τ.H k).e,(τ.H k).sz,L⟩={J (r.κ k)with cells:=(J (r.κ k)).cells.take (off*sz)++(List.replicate cn z).flatten++(J (r.κ k)).cells.drop ((off+cn)*sz) }:=by
   simp only at g1 D g3 g4 E
   rw[←Z]
   simp only[Ah,E,CX,Co,Ce,U,g1,g3,g4,←D]
  simp only at O
  rw[O]at Q
  exact .of ⟨_,_,F,by rw[hd];exact Q⟩
 ·exact Gl (NF N A h s hf d)
theorem PO{a:Nat→Option (Nat×Nat)}:∀(ps:List (Nat×AV)) (z cs:List AV),(∀p∈ps,DZ p.2=true)→A2 a z ps=some cs→A2 a (Ab r z) (ps.map fun p=>(p.1,ren r p.2))=some (Ab r cs)
 |[],z,cs,_,h=>by
  simp only[A2,Yd]at h
  subst h
  simp[A2]
 |(f,v)::ps,z,cs,d,h=>by
  simp only[A2]at h
  split at h
  ·rename_i off size vs b g
   split at h
   ·cases h
   ·rename_i e
    have c:=Gp (r:=r) g (Gz (d (f,v) (YC ..)))
    simp only[YK,A2,b,c,Bc]
    rw[Yy e]
    have:=PO ps _ cs (fun p b=>d p (Yw _ b)) h
    rw[←this]
    simp only[CX,Co,Ce]
  ·cases h
theorem UT(d:AZ o=true)(b:EF P T l n r o a K τ):Ec P T l n r o a K τ:=by
 unfold EF at b
 split at b
 ·rename_i c;simp[AZ,c]at d
 ·exact b
theorem Tb(w:RenOk r l outs)(m:AG P T)(h:RG r l outs env τ σ)(k:Be env [] o.op=true)(u:Ex env o.dst=true)(c:EF P T l n r o a K τ):Ba P l n B o (KA r l n outs B (CE env o.dst) K) σ:=by
 unfold EF at c
 split at c
 case h_2=>exact Kr w m h k u c
 rename_i t len parts E
 split at c
 case h_2=>exact Kr w m h k u c
 case h_3=>exact Kr w m h k u c
 rename_i b
 have ops:∀x∈o.op.operands,ev σ.s x=ren r (ev τ.s x):=by
  unfold Be at k
  split at k
  ·rename_i e;rw[E]at e;cases e
  ·exact CV h Au k
 unfold ON at c
 split at c
 case h_2=>exact c.elim
 rename_i d i J hi
 split at c
 case h_2=>exact c.elim
 rename_i e sz he
 split at c
 case h_2=>exact c.elim
 rename_i j L F v
 split at c
 case h_2=>exact c.elim
 rename_i z N
 split at c
 case h_2=>exact c.elim
 rename_i cs G f D
 split at c
 case h_2=>exact c.elim
 rename_i C
 have I:(parts.toList.map fun p=>(p.1,ev σ.s p.2))=(parts.toList.map fun p=>(p.1,ev τ.s p.2)).map fun p=>(p.1,ren r p.2):=by
  rw[CS]
  refine YW fun p c=>?_
  rw[ops p.2 (by rw[E];simp only[Op.operands,Gc,YD];exact⟨p,c,rfl⟩)]
  rfl
 have q:o.dst=some d:=J
 rw[q]at u⊢
 have M:=E0 (x':=fun g=>.ref (l+1,d) g 0 (len+1)) w h u (fun g=>by simp[ren,w.own]) c
 obtain⟨s,H⟩:=σ
 exact MD E q ((m _ _ hi).elm _ he) (by have:=Yf F;omega) (Yf v) ((m _ _ L).zer _ N) (Ya G) (by
  rw[I]
  have:=PO (r:=r) _ _ _ (fun p c=>Yo.1 D p c) f
  rw[Er (r:=r) (z:=(List.replicate (len+1) z).flatten) (Yo.2 fun x A=>by
   obtain⟨y,hy,A⟩:=Ht.1 A
   rw[List.eq_of_mem_replicate hy]at A
   exact Yo.1 C x A)]at this
  exact this) (Gy M)
theorem Ve(d:AZ o=true)(c:Ed P T l n r o a K τ):EF P T l n r o a K τ:=by
 unfold Ed at c
 split at c
 ·rename_i b;simp[AZ,b]at d
 ·rename_i b;simp[AZ,b]at d
 ·exact c
theorem RA(f:RenOk r l outs)(h:RG r l outs env τ σ){K:St→AT→Prop}{d:Nat}(m:fresh d env=true){e:EK}{x x':Nat→AV}(o:∀g,x' (r.γ (1,d)+g)=ren r (x g))(b:Lg n d e x K τ a):
  PZ l n d e x' (KA r l n outs B ((d,[])::env) K) σ:=by
 unfold Lg at b
 split at b
 ·rename_i k
  refine⟨Yf k,.of ⟨_,_,b,?_⟩⟩
  have j:=RG.updH f h (1,d) ⟨(τ.H (1,d)).g+1,true,e,0,[]⟩ rfl (.inl rfl)
  have c:=j.put0 m (v:=x ((τ.H (1,d)).g+1)) (y:=x' ((σ.H (l+1,d)).g+1)) (by rw[h.g,Yr];exact o _)
  have i:Ah r (1,d) ⟨(τ.H (1,d)).g+1,true,e,0,[]⟩=⟨(σ.H (l+1,d)).g+1,true,e,0,[]⟩:=by simp only[Ah,Ab,h.g,Yr]
  rw[i,f.own]at c
  exact c
 ·exact b.elim
theorem SC(w:RenOk r l outs)(L:AG P T)(h:RG r l outs env τ σ)(v:Be env [] o.op=true)(q:Ex env o.dst=true)(b:Ed P T l n r o a K τ):Ba P l n B o (KA r l n outs B (CE env o.dst) K) σ:=by
 have ops:(∀c x y,o.op≠.pick c x y)→∀x∈o.op.operands,ev σ.s x=ren r (ev τ.s x):=fun E=>by
  unfold Be at v
  split at v
  ·rename_i e;exact absurd e (E _ _ _)
  ·exact CV h Au v
 unfold Ed at b
 split at b
 ·rename_i t x j
  split at b
  case h_2=>exact b.elim
  rename_i d i z s hi m
  split at b
  case h_2=>exact b.elim
  rename_i u
  rw[s]at q⊢
  have Q:=RA (B:=B) (x':=fun g=>.ptr (l+1,d) g 0) w h q (fun g=>by simp[ren,w.own]) b
  obtain⟨ss,M⟩:=σ
  have R:=Dm ((L _ _ hi).kin.trans (Ya u))
  have f:=ops (by rw[j];intro _ _ _ e;cases e) x (by rw[j];simp[Op.operands])
  exact Sa j s R (by rw[f,m];simp[ren]) Q
 ·rename_i x j
  split at b
  case h_2=>exact b.elim
  rename_i d k g s m
  split at b
  case h_2=>exact b.elim
  rename_i z p D hl he
  have f:=ops (by rw[j];intro _ _ _ e;cases e) x (by rw[j];simp[Op.operands])
  rw[m]at f
  obtain⟨g1,A,g3,g4,I⟩:=h.h.at hl
  rw[s]at q⊢
  unfold Qo at b
  split at b
  case h_2=>exact b.elim
  rename_i a1 a0 C
  obtain⟨G,F⟩:=b
  obtain⟨ss,M⟩:=σ
  refine Sl (k:=r.κ k) (g:=r.γ k+g) (z:=z) (p:=p) j s (by rw[f];simp[ren]) g1 A (by rw[g3];exact he) (Yf C) (fun N=>.of ⟨_,_,F (Hu N),h.put0 q (by simp[ren,Ab])⟩) (fun O=>?_)
  have J:=RG.updH w h k ⟨g,true,.s z (p+Da z p),(τ.H k).sz,(τ.H k).cells⟩ rfl (.inl (Ya D))
  have H:Ah r k ⟨g,true,.s z (p+Da z p),(τ.H k).sz,(τ.H k).cells⟩={M (r.κ k)with e:=.s z (p+Da z p) }:=by
   simp only at g1 A g3 g4 I
   simp only[Ah,g1,g4,←I,←A]
  simp only at H
  rw[H]at J
  exact .of ⟨_,_,G (Hw O),J.put0 q (by simp only[ren,Ab])⟩
 ·exact Tb w L h v q b
end
end Go.Eng
namespace Go.Eng
set_option linter.all false
open Go Go.RowKit
section
variable {P:Program} {T:Nat→Option TI} {r:Ren} {l n outs:Nat} {B:Base} {env:AW} {τ σ:St} {a:AT} {o:Oper}
theorem PF{H:Hp}{op:Op}{ρ:Operand→AV}{g:Option Bool}{K:AV→AT→Prop}(h:tV T H op ρ g a K):∃v b,K v b:=by
 have fin:∀{v b},K v b→∃v b,K v b:=fun h=>⟨_,_,h⟩
 cases op<;>simp only[tV]at h<;>try exact h.elim
 case move x=>exact fin h
 case assign x=>exact fin h
 case pick c x y=>split at h<;>first|exact fin h|exact h.elim
 case load t x=>
  split at h
  ·unfold Fs at h
   repeat' split at h
   all_goals first|exact h.elim|exact fin h|exact fin h.2
  ·grind
 case fieldAddr t x f=>
  split at h
  ·unfold HO at h
   grind
  ·grind
 case field t x f=>
  split at h
  ·unfold If at h
   grind
  ·grind
 case indexAddr t x j=>
  split at h
  ·unfold HQ at h
   grind
  ·grind
 case index t x j=>
  split at h
  ·unfold Ij at h
   grind
  ·grind
 case extract x j=>
  repeat' split at h
  all_goals first|exact h.elim|exact fin h
 case makeInterface t x=>
  repeat' split at h
  all_goals first|exact h.elim|exact fin h
 case typeAssert x u t ok=>
  repeat' split at h
  all_goals first|exact h.elim|exact fin h
 case binOp o t x y u=>
  split at h
  ·unfold Ix at h
   split at h
   ·split at h
    ·unfold IH at h
     grind
    grind
   ·unfold II at h
    grind
   ·grind
   ·grind
   ·split at h
    ·have nl:∀{neg:Bool} {x:AV},FJ H neg x a K→∃v b,K v b:=fun {neg x} h=>by
      unfold FJ at h
      repeat' split at h
      all_goals first|exact h.elim|exact fin (h true)|exact fin (h neg (fun _=>rfl))
     grind
    grind
   grind
  ·grind
 case unOp o t x=>
  unfold I4 at h
  repeat' split at h
  all_goals first|exact h.elim|exact fin h|exact fin h.2
 case nilCheck x=>
  split at h
  ·grind
  ·grind
  ·grind
 case convert s d x=>
  split at h
  ·unfold Ip at h
   grind
  ·grind
 case makeFunc fn first e=>split at h<;>first|exact h.elim|exact fin h
 case slice t x lo hi k=>
  split at h
  ·unfold Ie at h
   grind
  ·grind
 case build t parts=>
  split at h
  ·unfold Ia at h
   grind
  ·grind
 case lookup t x y i=>
  split at h
  ·unfold Iv at h
   grind
  ·grind
 case call c=>
  split at h
  ·split at h
   ·unfold IC at h
    grind
   grind
  ·unfold BT at h
   grind
  ·unfold BT at h
   grind
  ·unfold C4 at h
   grind
  ·grind
theorem La{op:Op}{g:Option Bool}{K:AV→AT→Prop}(h:pV P T l r τ op g a K):∃v b,K v b:=by
 unfold pV at h
 split at h
 ·split at h
  ·unfold Iw at h
   grind
  ·exact PF h
 ·unfold IM at h
  repeat' split at h
  all_goals first|exact h.elim|exact⟨_,_,h⟩
 ·exact PF h
def Yl(r:Ren)(e:Nat)(K:AV→AT→Prop)(σ b:St):Prop:=∃v a,b=⟨upd σ.s e (ren r v),σ.H⟩∧K v a
theorem OR(E:AG P T)(h:RG r l outs env τ σ){c:Bg}(hs:Bn τ.s c){g:Option Bool}(N:∀b,g=some b→b=true){e:Nat}{op:Op}{ty:TypeId}{ps:String}{af:Array Edge}{gd:Option (Nat×Bool)}
  (I:Be env c op=true) (q:e<n) {K:AV→AT→Prop} (d:pV P T l r τ op g a K):AF P l n ⟨some e,op,ty,ps,af,gd⟩ (Yl r e K σ) σ:=by
 have val:tV T τ.H op (ev τ.s) g a K→AF P l n ⟨some e,op,ty,ps,af,gd⟩ (Yl r e K σ) σ=Aq P σ.H op (ev σ.s) (A3 n (some e) (Yl r e K σ) σ)→AF P l n ⟨some e,op,ty,ps,af,gd⟩ (Yl r e K σ) σ:=fun C D=>by
  rw[D]
  exact H3 (fun y ⟨v,A,u,B⟩=>⟨q,v,A,by rw[u],B⟩) (OT E h hs N I C)
 unfold pV at d
 split at d
 ·rename_i c
  split at d
  ·rename_i f k
   obtain⟨i,first,M,x,A,u,B,Q⟩:=Ki h hs N k I d
   simp only[AF,k,u]
   exact B.mono fun y V ⟨C,D⟩=>by subst C;subst D;exact⟨q,x,A,rfl,Q⟩
  ·rename_i G
   refine val d ?_
   cases k:c.callee with
   |value f=>exact absurd k (G f)
   |invoke x m=>simp only[tV,k]at d
   |builtin b=>
    cases b<;>simp only[tV,k]at d<;>simp only[AF,k]
 ·rename_i t len parts
  have J:(Op.buildSlice t len parts).operands.toList.all (DB env c)=true:=I
  have u:(parts.toList.map fun p=>(p.1,ev σ.s p.2))=(parts.toList.map fun p=>(p.1,ev τ.s p.2)).map fun p=>(p.1,ren r p.2):=by
   rw[CS]
   refine YW fun p d=>?_
   simp only[Function.comp]
   rw[CV h hs J p.2 (by simp only[Op.operands,Gc,YD];exact⟨p,d,rfl⟩)]
  unfold IM at d
  split at d
  case h_2=>exact d.elim
  rename_i i hi
  split at d
  case h_2=>exact d.elim
  rename_i e' sz he
  simp only[AF,(E _ _ hi).elm _ he]
  split at d
  ·rename_i o
   have o:=Yf o
   refine⟨by omega,?_⟩
   split at d
   ·rename_i H
    exact⟨by rw[←Y5,H];rfl,q,.e0,a,by simp[ren],d⟩
   grind
  ·rename_i O o
   have o:=Yf o
   refine⟨by omega,?_⟩
   split at d
   case h_2=>exact d.elim
   rename_i j S w
   split at d
   case h_2=>exact d.elim
   rename_i z U
   split at d
   case h_2=>exact d.elim
   rename_i es L s
   split at d
   case h_2=>exact d.elim
   rename_i F
   rw[HU s]at u
   rw[u]
   simp only[(E _ _ S).zer _ U,s]
   exact⟨Yf w,Ya L,Ya F,q,.d (.list es),a,by simp[ren],d⟩
  grind
 ·rename_i R W
  refine val d ?_
  cases op<;>simp only[tV]at d<;>try exact d.elim
  case call c=>exact absurd rfl (R c)
  all_goals simp only[AF]
theorem OG(w:AG P T)(h:RG r l outs env τ σ){c:Bg}(hs:Bn τ.s c){g:Option Bool}(G:∀b,g=some b→b=true){e:Nat}{op:Op}{ty:TypeId}{ps:String}{af:Array Edge}{gd:Option (Nat×Bool)}
  (C:Be env c op=true) (o:e<n) {K:AV→AT→Prop} (d:pV P T l r τ op g a K):Ct P l n ⟨some e,op,ty,ps,af,gd⟩ (Yl r e K σ) σ:=by
 have B:=OR (ty:=ty) (ps:=ps) (af:=af) (gd:=gd) w h hs G C o d
 unfold pV at d
 split at d
 ·rename_i c
  split at d
  ·rename_i f k
   obtain⟨i,first,F,x,I,v,J,L⟩:=Ki h hs G k C d
   simp only[Ct,k,v]
   exact⟨ren r x,J,o,x,I,rfl,L⟩
  ·rename_i A
   cases k:c.callee with
   |value f=>exact absurd k (A f)
   |_=>simp only[Ct,k];exact B
 ·rename_i t len parts
  cases len with
  |zero=>exact B
  |succ len=>
   have D:(Op.buildSlice t (len+1) parts).operands.toList.all (DB env c)=true:=C
   have v:(parts.toList.map fun p=>(p.1,ev σ.s p.2))=(parts.toList.map fun p=>(p.1,ev τ.s p.2)).map fun p=>(p.1,ren r p.2):=by
    rw[CS]
    refine YW fun p d=>?_
    simp only[Function.comp]
    rw[CV h hs D p.2 (by simp only[Op.operands,Gc,YD];exact⟨p,d,rfl⟩)]
   unfold IM at d
   split at d
   case h_2=>exact d.elim
   rename_i i hi
   split at d
   case h_2=>exact d.elim
   rename_i e' sz he
   split at d
   ·rename_i q;cases q
   ·rename_i H u q
    cases q
    have u:=Yf u
    split at d
    case h_2=>exact d.elim
    rename_i j O s
    split at d
    case h_2=>exact d.elim
    rename_i z Q
    split at d
    case h_2=>exact d.elim
    rename_i es E m
    split at d
    case h_2=>exact d.elim
    rename_i y
    rw[HU m]at v
    exact⟨.d (.list es),⟨e',sz,z,es,(w _ _ hi).elm _ he,by omega,Yf s,(w _ _ O).zer _ Q,Ya E,by rw[v];exact m,Ya y,rfl⟩,o,.d (.list es),a,by simp[ren],d⟩
   ·exact d.elim
 ·rename_i M N
  cases op<;>first|exact absurd rfl (M _)|exact absurd rfl (N _ _ _)|exact B
theorem Gu{d:Nat}{e:TypeId}{sz:Nat}{cells:List AV}{x:Nat→AV}{K a:St→Prop}(b:∀σ,K σ→a σ)(h:BP l n d e sz cells x K σ):BP l n d e sz cells x a σ:=⟨h.1,b _ h.2⟩
theorem Of{o:Oper}{K b:St→Prop}(a:∀σ,K σ→b σ)(h:AF P l n o K σ):AF P l n o b σ:=by
 have i:∀x,A3 n o.dst K σ x→A3 n o.dst b σ x:=fun x h=>by
  unfold A3 at h⊢
  grind
 unfold AF at h⊢
 split at h
 ·split at h
  ·exact⟨h.1,Gu a h.2⟩
  grind
 ·split at h
  ·exact⟨h.1,Gu a h.2⟩
  grind
 ·grind
 ·split at h
  ·refine⟨h.1,?_⟩
   replace h:=h.2
   split at h
   ·grind
   ·refine⟨h.1,?_⟩
    replace h:=h.2
    split at h
    ·refine⟨h.1,?_⟩
     replace h:=h.2
     split at h
     ·grind
     ·split at h
      ·exact Gu a h
      grind
    grind
  grind
 ·split at h
  ·obtain⟨c,d,f,j,k,h⟩:=h
   refine⟨c,d,f,j,k,?_⟩
   split at h
   ·exact⟨h.1,Gu a h.2⟩
   grind
  grind
 ·split at h
  ·split at h
   ·exact h.mono fun r m g=>by
     unfold GX at g⊢
     unfold A3 at g⊢
     grind
   grind
  ·split at h
   ·refine⟨h.1,?_⟩
    replace h:=h.2
    unfold FO at h⊢
    split at h
    ·obtain⟨c,d,f,h⟩:=h
     refine⟨c,d,f,?_⟩
     split at h
     ·refine⟨h.1,?_⟩
      replace h:=h.2
      split at h
      ·exact⟨h.1,fun e=>⟨(h.2.1 e).1,a _ (h.2.1 e).2⟩,fun e=>Gu a (h.2.2 e)⟩
      ·grind
      grind
     grind
    grind
   grind
  ·exact H3 i h
 ·exact H3 i h
theorem HT{o:Oper}{K a:St→Prop}(b:∀σ,K σ→a σ)(h:Ct P l n o K σ):Ct P l n o a σ:=by
 have e:∀{x},A3 n o.dst K σ x→A3 n o.dst a σ x:=fun {x} h=>by
  unfold A3 at h⊢
  grind
 unfold Ct at h⊢
 split at h
 ·obtain⟨v,c,d⟩:=h;exact⟨v,c,e d⟩
 ·split at h
  ·grind
  ·exact Of b h
 ·exact Of b h
theorem M6(h:RG r l outs env τ σ){ds:List (Option Nat)}{i d:Nat}{b g:Bool}(j:AY ds i=some (some d))(a:CY τ.s ((d,b)::lk env d)=some g):DE σ.s ds i b=some g:=by
 rw[B1]at j
 have f:=E1 a
 unfold DE
 simp only[j]
 by_cases hs:Bn τ.s (lk env d)
 ·have k:=(h.s d).1 hs
  have m:∃t,τ.s d=.d (.bool t):=by
   cases hl:lk env d with
   |nil=>
    rw[hl]at a
    simp only[CY]at a
    grind
   |cons q o=>
    rw[hl]at a
    simp only[CY]at a
    grind
  obtain⟨t,n⟩:=m
  rw[k,n]
  simp only[ren,Yd]
  cases g with
  |true=>
   have:=f.1 rfl (d,b) (YC ..)
   grind
  |false=>
   cases e:t==b with
   |false=>rfl
   |true=>
    exfalso
    have e:t=b:=by simpa using e
    have:Bn τ.s ((d,b)::lk env d):=fun q c=>by
     rcases YG.1 c with rfl|c
     ·grind
     ·exact hs q c
    grind
 ·rw[(h.s d).2 hs]
  simp only[Yd]
  cases g with
  |false=>rfl
  |true=>exact absurd (fun q c=>f.1 rfl q (Yw _ c)) hs
theorem HM(F:RenOk r l outs)(A:AG P T){ops:Array Oper}{K:St→AW→AT→Prop}{QQ:Exit→Act→World→Prop}(more:List Oper)
  (D:∀τ' k u G f w',K τ' k u→RG r l outs k τ' G→R l n B G f w'→wpList P ops QQ more f w'):
  ∀(c:List Oper) (env:AW) (a:AT) (τ σ:St) (act:Act) (w:World),FL P T l n r (ops.toList.map (·.dst)) c env a K τ→RG r l outs env τ σ→R l n B σ act w→wpList P ops QQ (c++more) act w
 |[],env,a,τ,σ,act,w,h,p,x=>D _ _ _ _ _ _ h p x
 |o::c,env,a,τ,σ,act,w,h,p,x=>by
  unfold FL at h
  split at h
  ·rename_i E
   split at h
   ·rename_i V Z
    refine JZ (by simp[Region.wanted,E]) (SC (B:=B) F A p V Z h) x fun G f w' I q=>?_
    obtain⟨σ'',⟨τ',u,z,N⟩,O⟩:=I
    exact HM F A more D c _ _ _ _ _ _ z N (O _ _ q)
   grind
  ·rename_i i b E
   split at h
   case h_2=>exact h.elim
   rename_i d e W he
   split at h
   case h_2=>exact h.elim
   rename_i g t hx j C
   simp only[Ye]at j
   have C:=Yf C
   have J:=M6 p W t
   have hy:(yielded ops act.tmps i==some b)=g:=by
    obtain⟨s,H⟩:=σ
    obtain⟨m,S,hO,L,X,Q,Y⟩:=x.un
    exact Nb Q J
   cases g with
   |true=>
    have hs:=(E1 t).1 rfl
    refine JZ (by simp only[Region.wanted,E];exact hy) (σ:=σ) (B:=B) (l:=l) (n:=n) (KK:=Yl r e (fun v u=>FL P T l n r (ops.toList.map (·.dst)) c ((e,(d,b)::lk env d)::env) u K ⟨upd τ.s e v,τ.H⟩) σ) (Gl ?_) x fun G f w' U q=>?_
    ·obtain⟨M,op,ty,ps,af,gd⟩:=o
     simp only at he
     subst he
     exact OR A p hs (fun b' e'=>by cases e';rfl) hx (by omega) h
    ·obtain⟨v,u,rfl,z⟩:=U
     exact HM F A more D c _ _ _ _ _ _ z (p.put j.1 j.2 (fun _=>rfl) (fun L=>absurd hs L)) q
   |false=>
    have hs:¬Bn τ.s ((d,b)::lk env d):=fun hs=>by have:=(E1 t).2 hs;cases this
    obtain⟨v,u,z⟩:=La h
    show wpList P ops QQ (o::(c++more)) act w
    unfold wpList
    rw[Yy (by simp only[Region.wanted,E,hy];decide),he]
    exact HM F A more D c _ _ _ _ _ _ z (p.put j.1 j.2 (y:=.tup []) (fun h=>absurd h hs) (fun _=>rfl)) (R.undef x (by omega))
theorem Gv(L:RenOk r l outs)(B:AG P T){ds:List (Option Nat)}{K:St→AW→AT→Prop}:
  ∀(rest:List Oper) (env:AW) (a:AT) (τ σ:St),rest.all (fun o=>Bv o||AS o)=true→Du P T l n r ds rest env a K τ→RG r l outs env τ σ→BQ P l n ds rest (fun Z=>∃τ' z f,K τ' z f∧RG r l outs z τ' Z) σ
 |[],env,a,τ,σ,_,h,u=>⟨_,_,_,h,u⟩
 |o::rest,env,a,τ,σ,w,h,u=>by
  simp only[Eo,Ye]at w
  unfold Du at h
  unfold BQ
  split at h
  ·rename_i G
   simp only[G]
   split at h
   case h_2=>exact h.elim
   rename_i I hf
   by_cases H:AS o=true
   ·obtain⟨j,op,ty,ps,af,gd⟩:=o
    cases op<;>simp only[AS]at H<;>first|(cases H;done)|skip
    rename_i t p x
    cases j with
    |some d=>cases H
    |none=>
     unfold Lj at h
     simp only at h
     unfold Ed EF Ec EG at h
     simp only at h I
     split at h
     case h_2=>exact h.elim
     rename_i i hi U
     have A:∀y∈(Op.store t p x).operands,ev σ.s y=ren r (ev τ.s y):=by
      unfold Be at I
      exact CV u Au I
     have W:=A x (by simp[Op.operands])
     have V:=A p (by simp[Op.operands])
     cases X:Bk (ev τ.s x)with
     |none=>rw[X]at h;unfold GC at h;split at h<;>first|exact h.elim|(rename_i e;cases e)
     |some vs=>
      rw[X]at h
      have Y:=Gp (r:=r) X (Gz U)
      obtain⟨k,g,off,M,e2,e3,e4,e5,e6,e7,e8⟩:=MU L u (B _ _ hi) h
      obtain⟨τ',f,m,h2⟩:=e8
      simp only[Ct,AF,V,W,Y,M]
      exact⟨e2,e3,e4,e5,e6,e7,Gv L B rest _ _ _ _ w.2 m h2⟩
   have J:Bv o=true:=by
    grind
   replace w:Bv o=true∧_:=⟨J,w.2⟩
   obtain⟨j,op,ty,ps,af,gd⟩:=o
   have E:∃d,j=some d:=by
    have:=w.1
    unfold Bv AZ at this
    rw[YE,Ye,Ye]at this
    rcases this with h|h
    ·exact YP.1 h.1
    ·exact YP.1 h.1
   obtain⟨d,rfl⟩:=E
   simp only at I hf G
   have hp:pV P T l r τ op none a (Cj n d (fun τ' f=>Du P T l n r ds rest (CE env (some d)) f K τ') τ):=by
    by_cases C:∃t len p,op=.buildSlice t (len+1) p
    ·obtain⟨t,len,p,rfl⟩:=C
     exact h
    ·have c:AZ ⟨some d,op,ty,ps,af,gd⟩=true:=Kt w.1 fun t len p e=>C ⟨t,len,p,e⟩
     have h:Ed P T l n r ⟨some d,op,ty,ps,af,gd⟩ a (fun τ' f=>Du P T l n r ds rest (CE env (some d)) f K τ') τ:=by
      unfold Lj at h
      split at h
      ·rename_i M _;exact absurd ⟨_,_,_,M⟩ C
      ·exact h
     have h:=UT c (Ve c h)
     unfold Ec at h
     simp only at h
     have h:EG P T l n r ⟨some d,op,ty,ps,af,none⟩ a (fun τ' f=>Du P T l n r ds rest (CE env (some d)) f K τ') τ:=by
      subst G
      split at h
      ·split at h
       ·rename_i q;simp[AZ,q]at c
       ·grind
       ·exact h
      ·exact h
     unfold EG at h
     simp only at h
     split at h
     ·simp[AZ]at c
     ·simp[AZ]at c
     ·grind
     ·simp[AZ]at c
     ·simp[AZ]at c
     ·split at h
      ·rename_i q;simp[AZ,q]at c
      ·exact h
     ·exact h
   have Q:∃v f,Cj n d (fun τ' f=>Du P T l n r ds rest (CE env (some d)) f K τ') τ v f:=La hp
   have O:d<n:=by
    obtain⟨v,f,m⟩:=Q
    unfold Cj at m
    split at m
    ·rename_i E;have E:=Yf E;exact E
    grind
   have:=OG (ty:=ty) (ps:=ps) (af:=af) (gd:=gd) B u Au (fun b e=>by cases e) I O hp
   refine HT (fun Z N=>?_) this
   obtain⟨v,f,rfl,m⟩:=N
   unfold Cj at m
   split at m
   ·exact Gv L B rest _ _ _ _ w.2 m (u.put0 hf rfl)
   grind
  ·rename_i i b G
   have J:Bv o=true:=by
    have:=w.1
    rw[YE]at this
    rcases this with h|h
    ·exact h
    ·exfalso
     obtain⟨j,op,ty,ps,af,gd⟩:=o
     simp only at G
     subst G
     cases op<;>cases j<;>simp[AS]at h
   simp only[G]
   split at h
   case h_2=>exact h.elim
   rename_i d e E he
   split at h
   case h_2=>exact h.elim
   rename_i g D W s F
   simp only[Ye]at s
   have F:=Yf F
   rw[M6 u E D]
   refine⟨fun S=>?_,fun R=>?_⟩
   ·subst S
    have hs:=(E1 D).1 rfl
    obtain⟨j,op,ty,ps,af,gd⟩:=o
    simp only at he
    subst he
    refine HT (fun Z N=>?_) (OG (ty:=ty) (ps:=ps) (af:=af) (gd:=gd) B u hs (fun b' e'=>by cases e';rfl) W (by omega) h)
    obtain⟨v,f,rfl,m⟩:=N
    exact Gv L B rest _ _ _ _ w.2 m (u.put s.1 s.2 (fun _=>rfl) (fun hn=>absurd hs hn))
   ·subst R
    have hs:¬Bn τ.s ((d,b)::lk env d):=fun hs=>by have:=(E1 D).2 hs;cases this
    obtain⟨v,f,m⟩:=La h
    rw[he]
    exact⟨F,Gv L B rest _ _ _ _ w.2 m (u.put s.1 s.2 (y:=.tup []) (fun h=>absurd h hs) (fun _=>rfl))⟩
end
def AB:List (Nat×AV)→Nat→AV
 |[],_=>.top
 |(i,x)::r,j=>match Nat.beq i j with|true=>x|false=>AB r j
def Ck:Blk:=⟨0,false,0,0,[]⟩
def Ae:List (Aa×Blk)→Aa→Blk
 |[],_=>Ck
 |(k,b)::r,q=>match AJ k q with|true=>b|false=>Ae r q
def Ac(ss:List (Nat×AV))(hs:List (Aa×Blk)):St:=⟨AB ss,Ae hs⟩
mutual
def BS(H:Hp):AV→Option AV
 |.ref k g off n=>match AL H k g with|true=>some (.ref k 0 off n)|false=>none
 |.ptr k g off=>match AL H k g with|true=>some (.ptr k 0 off)|false=>none
 |.mp k g=>match AL H k g with|true=>some (.mp k 0)|false=>none
 |.fn f xs ys=>match Dy H xs,Dy H ys with|some xs,some ys=>some (.fn f xs ys)|_,_=>none
 |.agg xs=>match Dy H xs with|some xs=>some (.agg xs)|none=>none
 |.tup xs=>match Dy H xs with|some xs=>some (.tup xs)|none=>none
 |.top=>some .top
 |.d x=>some (.d x)
 |.e0=>some .e0
 |.p x=>some (.p x)
 |.iptr cs off=>some (.iptr cs off)
 |.ifc t ds a=>some (.ifc t ds a)
def Dy(H:Hp):List AV→Option (List AV)
 |[]=>some []
 |x::xs=>match BS H x,Dy H xs with|some x,some xs=>some (x::xs)|_,_=>none
end
def LD(H:Hp)(x:AV):AV:=match BS H x with|some v=>v|none=>.top
def E2(H:Hp)(s:Nat→AV):List Nat→List (Nat×AV)
 |[]=>[]
 |j::r=>(j,LD H (s j))::E2 H s r
def Dr(cs:List AV):Prop:=∀x∈cs,x.flat=true
def Fg(H:Hp):List (Aa×Bool)→(List (Aa×Blk)→Prop)→Prop
 |[],K=>K []
 |(k,fl)::r,K=>match (H k).live with
  |false=>Fg H r K
  |true=>match fl with
   |true=>Dr (H k).cells∧Fg H r (fun a=>K ((k,⟨0,true,(H k).e,(H k).sz,(H k).cells⟩)::a))
   |false=>match Dy H (H k).cells with
    |some cs=>Fg H r (fun a=>K ((k,⟨0,true,(H k).e,(H k).sz,cs⟩)::a))
    |none=>False
def IK:AV→Bool
 |.e0=>true
 |_=>false
def GE:List (Nat×Nat×TypeId×Nat)→St→(St→Prop)→Prop
 |[],τ,K=>K τ
 |(j,d,e,sz)::r,τ,K=>match IK (τ.s j),(τ.H (1,d)).live with
  |true,false=>GE r ⟨upd τ.s j (.ref (1,d) ((τ.H (1,d)).g+1) 0 0),updH τ.H (1,d) ⟨(τ.H (1,d)).g+1,true,e,sz,[]⟩⟩ K
  |true,true=>False
  |false,_=>GE r τ K
structure Lf where
 ls:List Nat
 ks:List (Aa×Bool):=[]
 ad:List (Nat×Nat×TypeId×Nat):=[]
 ze:List Nat:=[]
def F3:List Nat→St→St
 |[],τ=>τ
 |j::r,τ=>match IK (τ.s j)with|true=>F3 r ⟨upd τ.s j (.d (.list [])),τ.H⟩|false=>F3 r τ
def gz(H:Hp):List Nat→Bool
 |[]=>true
 |i::r=>Nat.beq (H (0,i)).g 0&&gz H r
def Fw(fx:List Nat)(f:Lf)(τ:St)(Φ:St→Prop):Prop:=GE f.ad (F3 f.ze τ) (fun τ=>match gz τ.H fx with|true=>Fg τ.H f.ks (fun hs=>Φ (Ac (E2 τ.H τ.s f.ls) hs))|false=>False)
structure Cx where
 l:Nat
 B:Base
 κ:Aa→Aa
 θ:Nat→AV
 H0:Hp
 outs:Nat
 no:Aa→Prop
 fx:List Nat
 G:(Aa→Nat)→Prop
def Cx.r(C:Cx)(γ:Aa→Nat):Ren:=⟨C.κ,γ,C.θ,C.H0,C.no⟩
structure CxOk (C:Cx):Prop where
 own:∀d,C.κ (1,d)=(C.l+1,d)
 out:∀i,i<C.outs→(C.κ (0,i)).1≤C.l
 inj:∀i j,i<C.outs→j<C.outs→C.κ (0,i)=C.κ (0,j)→i=j
 no:∀k,C.no k→∃i,i<C.outs∧C.κ (0,i)=k
 G:∀γ γ':Aa→Nat,(∀i∈C.fx,γ' (0,i)=γ (0,i))→C.G γ→C.G γ'
theorem CxOk.ren{C:Cx}(h:CxOk C)(γ:Aa→Nat):RenOk (C.r γ) C.l C.outs:=⟨h.own,h.out,h.inj,h.no⟩
def Wk(n:Nat)(C:Cx)(σ b:St):Prop:=∀a w,R C.l n C.B σ a w→R C.l n C.B b a w
def Is(n:Nat)(C:Cx)(Φ:St→Prop)(σ:St):Prop:=∃γ τ a,C.G γ∧Φ τ∧RG (C.r γ) C.l C.outs [] τ a∧Wk n C σ a
def LW(P:Program)(n:Nat)(C:Cx)(c:Code)(τ:St)(Q:Exit→St→Prop):Prop:=
 ∀γ σ,C.G γ→RG (C.r γ) C.l C.outs [] τ σ→AI P C.l n C.B c (fun e a=>Is n C (Q e) a) σ
def Ir(P:Program)(l n:Nat)(B:Base)(c:Code)(Q:Exit→St→Prop)(σ:St):Prop:=
 ∀a w,R l n B σ a w→∀(b:Frame) (k:List Item) (cs:List Frame),∃e d w',(∃f,Q e f∧R l n B f d w')∧Arrives P (lone (b.at a (.code c::.inLoop c::k)) cs w) b k cs e d w'
def LL(P:Program)(n:Nat)(C:Cx)(c:Code)(τ:St)(Q:Exit→St→Prop):Prop:=
 ∀γ σ,C.G γ→RG (C.r γ) C.l C.outs [] τ σ→Ir P C.l n C.B c (fun e a=>Is n C (Q e) a) σ
def D4(a:AW)(τ:St):St:=⟨fun j=>match lk a j with|[]=>τ.s j|_=>.top,τ.H⟩
def EN(C:List AV)(off n sz:Nat)(es:List (List D)):Prop:=es.length=n∧sz≠0∧(∀e∈es,e.length=sz)∧(off+n)*sz≤C.length∧(C.drop (off*sz)).take (n*sz)=es.flatten.map .d
def IW(H:Hp)(d:Nat)(s:Nat→AV)(A:Prop):List (Nat×List (List D))→Prop
 |[]=>A
 |(j,es)::r=>match s j with
  |.ref k q off m=>(match AJ k (1,d),AL H k q with|true,true=>EN (H (1,d)).cells off m (H (1,d)).sz es∧IW H d s A r|_,_=>False)
  |_=>False
def IN(H:Hp)(d:Nat)(A:Prop):List (Aa×Nat×List (List D))→Prop
 |[]=>A
 |(k,i,es)::r=>match Nat.beq k.1 1,AJ k (1,d),(H k).live,AY (H k).cells i with
  |true,false,true,some (.ref k' q off m)=>(match AJ k' (1,d),AL H k' q with|true,true=>EN (H (1,d)).cells off m (H (1,d)).sz es∧IN H d A r|_,_=>False)
  |_,_,_,_=>False
def Qq(r:Ren)(k:Aa)(A:Prop):Prop:=
 match Nat.beq k.1 1 with
 |true=>A
 |false=>Ja r k∧A
def I0(H:Hp)(d:Nat)(s:Nat→AV):List Nat→Bool
 |[]=>true
 |j::r=>match s j with
  |.mp k g=>AJ k (1,d)&&AL H k g&&I0 H d s r
  |_=>false
def I3(H:Hp)(d:Nat)(s:Nat→AV):List Nat→Bool
 |[]=>true
 |j::r=>match s j with
  |.ptr k g 0=>AJ k (1,d)&&AL H k g&&I3 H d s r
  |_=>false
def AN(r:Ren)(os:Nat):AT→St→(St→AT→Prop)→Prop
 |.frz d f cs b,τ,K=>match (τ.H (1,d)).live,Nat.ble 1 (τ.H (1,d)).sz with
  |true,true=>IW τ.H d τ.s (IN τ.H d (AN r os b ⟨D7 f τ.s,Dv cs (updH τ.H (1,d) ⟨(τ.H (1,d)).g,false,(τ.H (1,d)).e,(τ.H (1,d)).sz,(τ.H (1,d)).cells⟩)⟩ K) cs) f
  |_,_=>False
 |.adc k i d e sz b,τ,K=>match Nat.beq k.1 1,AJ k (1,d),(τ.H k).live,AY (τ.H k).cells i with
  |true,false,true,some .e0=>AN r os b ⟨τ.s,updH (updH τ.H (1,d) ⟨(τ.H (1,d)).g+1,true,e,sz,[]⟩) k ⟨(τ.H k).g,true,(τ.H k).e,(τ.H k).sz,(τ.H k).cells.set i (.ref (1,d) ((τ.H (1,d)).g+1) 0 0)⟩⟩ K
  |_,_,_,_=>False
 |.sep b,τ,K=>K τ b
 |.ads j d e sz b,τ,K=>match IK (τ.s j)with
  |true=>AN r os b ⟨upd τ.s j (.ref (1,d) ((τ.H (1,d)).g+1) 0 0),updH τ.H (1,d) ⟨(τ.H (1,d)).g+1,true,e,sz,[]⟩⟩ K
  |false=>False
 |.trim k c b,τ,K=>match (τ.H k).live with
  |true=>(∃m,(τ.H k).cells.take m=c)∧Qq r k (AN r os b ⟨τ.s,updH τ.H k ⟨(τ.H k).g,true,(τ.H k).e,(τ.H k).sz,c⟩⟩ K)
  |false=>False
 |.reb j d m c b,τ,K=>match τ.s j with
  |.ref k q off n=>(match AJ k (1,d),AL τ.H k q with
   |true,true=>(n=m∧off*(τ.H k).sz≤(τ.H k).cells.length∧(τ.H k).cells.drop (off*(τ.H k).sz)=c)∧AN r os b ⟨upd τ.s j (.ref k (q+1) 0 m),updH τ.H k ⟨q+1,true,.t (τ.H k).e.ty,(τ.H k).sz,c⟩⟩ K
   |_,_=>False)
  |_=>False
 |.mv d j b,τ,K=>match (τ.H (1,d)).live with
  |true=>CC (τ.H (1,d)).cells∧(j<os∧r.no (r.κ (0,j)))∧AN r os b ⟨fun i=>Cn (1,d) (0,j) (τ.H (1,d)).g ((τ.H (0,j)).g+1) (τ.s i),
    updH (updH τ.H (1,d) ⟨(τ.H (1,d)).g,false,(τ.H (1,d)).e,(τ.H (1,d)).sz,(τ.H (1,d)).cells⟩) (0,j) ⟨(τ.H (0,j)).g+1,true,(τ.H (1,d)).e,(τ.H (1,d)).sz,(τ.H (1,d)).cells⟩⟩ K
  |false=>False
 |.fzm d f b,τ,K=>match (τ.H (1,d)).live,(τ.H (1,d)).e,I0 τ.H d τ.s f with
  |true,.m q es,true=>AN r os b ⟨Cb (.d (.map q es)) f τ.s,updH τ.H (1,d) ⟨(τ.H (1,d)).g,false,(τ.H (1,d)).e,(τ.H (1,d)).sz,(τ.H (1,d)).cells⟩⟩ K
  |_,_,_=>False
 |.fzb d f b,τ,K=>match (τ.H (1,d)).live,Fy (τ.H (1,d)).cells,I3 τ.H d τ.s f with
  |true,some (x::ds),true=>AN r os b ⟨Cb (.iptr (x::ds) 0) f τ.s,updH τ.H (1,d) ⟨(τ.H (1,d)).g,false,(τ.H (1,d)).e,(τ.H (1,d)).sz,(τ.H (1,d)).cells⟩⟩ K
  |_,_,_=>False
 |.rnm d d' e i b,τ,K=>match (τ.H (1,d)).live,Nat.beq d d',Nat.beq e d,Nat.beq e d',(τ.H (1,e)).live,AY (τ.H (1,e)).cells i with
  |true,false,false,false,true,some (.ref k g off c)=>(match AJ k (1,d),Nat.beq g (τ.H (1,d)).g with
   |true,true=>CC (τ.H (1,d)).cells∧AN r os b ⟨fun j=>Cn (1,d) (1,d') (τ.H (1,d)).g ((τ.H (1,d')).g+1) (τ.s j),
     updH (updH (updH τ.H (1,d) ⟨(τ.H (1,d)).g,false,(τ.H (1,d)).e,(τ.H (1,d)).sz,(τ.H (1,d)).cells⟩) (1,d') ⟨(τ.H (1,d')).g+1,true,(τ.H (1,d)).e,(τ.H (1,d)).sz,(τ.H (1,d)).cells⟩)
      (1,e) ⟨(τ.H (1,e)).g,true,(τ.H (1,e)).e,(τ.H (1,e)).sz,(τ.H (1,e)).cells.set i (.ref (1,d') ((τ.H (1,d')).g+1) off c)⟩⟩ K
   |_,_=>False)
  |_,_,_,_,_,_=>False
 |.mvc d q e i b,τ,K=>match (τ.H (1,d)).live,Nat.beq e d,(τ.H (1,e)).live,AY (τ.H (1,e)).cells i with
  |true,false,true,some (.ref k g off c)=>(match AJ k (1,d),Nat.beq g (τ.H (1,d)).g with
   |true,true=>CC (τ.H (1,d)).cells∧(q<os∧r.no (r.κ (0,q)))∧AN r os b ⟨fun j=>Cn (1,d) (0,q) (τ.H (1,d)).g ((τ.H (0,q)).g+1) (τ.s j),
     updH (updH (updH τ.H (1,d) ⟨(τ.H (1,d)).g,false,(τ.H (1,d)).e,(τ.H (1,d)).sz,(τ.H (1,d)).cells⟩) (0,q) ⟨(τ.H (0,q)).g+1,true,(τ.H (1,d)).e,(τ.H (1,d)).sz,(τ.H (1,d)).cells⟩)
      (1,e) ⟨(τ.H (1,e)).g,true,(τ.H (1,e)).e,(τ.H (1,e)).sz,(τ.H (1,e)).cells.set i (.ref (0,q) ((τ.H (0,q)).g+1) off c)⟩⟩ K
   |_,_=>False)
  |_,_,_,_=>False
 |a,τ,K=>K τ a
def A8(P:Program)(T:Nat→Option TI)(l n os:Nat)(r:Ren):Code→AT→St→(Exit→St→AT→Prop)→Prop
 |.skip,a,τ,K=>K .normal τ a
 |.ret,a,τ,K=>AN r os a τ (fun τ a=>K .ret τ a)
 |.exit id,a,τ,K=>K (.exit id) τ a
 |.seq x y,a,τ,K=>A8 P T l n os r x a τ (fun e τ' d=>match e with|.normal=>A8 P T l n os r y d τ' K|e=>K e τ' d)
 |.block id c,a,τ,K=>A8 P T l n os r c a τ (fun e τ' d=>match e with|.exit i=>(match Nat.beq i id with|true=>K .normal τ' d|false=>K (.exit i) τ' d)|e=>K e τ' d)
 |.cond c x y,a,τ,K=>match ev τ.s c,a with
  |.d (.bool b),.br a1 h=>(b=true→A8 P T l n os r x a1 τ K)∧(b=false→A8 P T l n os r y h τ K)
  |.d (.bool b),.go a=>(match b with|true=>A8 P T l n os r x a τ K|false=>A8 P T l n os r y a τ K)
  |.d (.bool b),.one v a=>(match v with|true=>(b=true→A8 P T l n os r x a τ K)∧(b=false→False)|false=>(b=true→False)∧(b=false→A8 P T l n os r y a τ K))
  |_,_=>False
 |.region _ ops g,a,τ,K=>match g with
  |false=>AN r os a τ (fun τ a=>FL P T l n r (ops.toList.map (·.dst)) ops.toList [] a (fun τ' f d=>K .normal (D4 f τ') d) τ)
  |true=>match Lh ops.toList&&ops.toList.all (fun o=>Bv o||AS o)&&He ops.toList 0 ops.toList with
   |true=>AN r os a τ (fun τ a=>Du P T l n r (ops.toList.map (·.dst)) ops.toList [] a (fun τ' f d=>K .normal (D4 f τ') d) τ)
   |false=>False
 |_,_,_,_=>False
mutual
def frz(H:Hp):AV→AT→(AV→AT→Prop)→Prop
 |.d x,a,K=>K (.d x) a
 |.e0,a,K=>K (.d (.list [])) a
 |.ifc t ds q,a,K=>K (.ifc t ds q) a
 |.agg xs,a,K=>D1 H xs a (fun ys b=>K (.agg ys) b)
 |.ref k g off n,a,K=>match Nat.beq k.1 0,Nat.beq k.1 1,AL H k g with
  |true,_,true=>K (.ref k g off n) a
  |false,true,true=>(match a with|.av (.d (.list es)) b=>EN (H k).cells off n (H k).sz es∧K (.d (.list es)) b|_=>False)
  |_,_,_=>False
 |.mp k g,a,K=>match Nat.beq k.1 0,Nat.beq k.1 1,AL H k g,(H k).e with
  |true,_,true,_=>K (.mp k g) a
  |false,true,true,.m q es=>K (.d (.map q es)) a
  |_,_,_,_=>False
 |_,_,_=>False
def D1(H:Hp):List AV→AT→(List AV→AT→Prop)→Prop
 |[],a,K=>K [] a
 |x::xs,a,K=>frz H x a (fun y c=>D1 H xs c (fun ys b=>K (y::ys) b))
end
def LB(T:Nat→Option TI)(τ:St):ResultVar→(AV→Prop)→Prop
 |.tmp t,K=>K (τ.s t)
 |.cell p t,K=>match τ.s p,T t with
  |.ptr k g off,some i=>(match AL τ.H k g,i.agg with
   |true,true=>(match Nat.ble 1 i.siz,DR i.siz ((τ.H k).cells.drop off)with|true,some c=>K (.agg c)|_,_=>False)
   |true,false=>(match AY (τ.H k).cells off with|some c=>K c|none=>False)
   |false,_=>False)
  |_,_=>False
def Lw(T:Nat→Option TI)(τ:St):List ResultVar→(List AV→Prop)→Prop
 |[],K=>K []
 |v::vs,K=>LB T τ v (fun x=>Lw T τ vs (fun xs=>K (x::xs)))
def DS(H:Hp):Nat→Nat→List Blk
 |0,_=>[]
 |n+1,i=>H (0,i)::DS H n (i+1)
def Iz(T:Nat→Option TI)(c:List ResultVar)(os:Nat)(τ:St)(a:AT)(b:AV→List Blk→Prop):Prop:=
 Lw T τ c (fun xs=>D1 τ.H xs a (fun ys _=>b (BG ys) (DS τ.H os 0)))
def FQ(T:Nat→Option TI)(c:List ResultVar)(os:Nat)(b:AV→List Blk→Prop)(e:Exit)(τ:St):Prop:=(e=.normal∨e=.ret)∧∃a,Iz T c os τ a b
end Go.Eng
