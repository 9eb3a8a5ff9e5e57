import Derived.Test.YtopncadjpnkjhaaGreatDoorZj05
import Derived.Test.YtopncadjpnkjhaaGreatDoorZj04
import Derived.Test.YtopncadjpnkjhaaGreatDoorZj00
namespace Go.Eng
set_option linter.all false
open Go Go.RowKit
def KA(r:Ren)(l n outs:Nat)(B:Base)(env:Bl)(K:St→AT→Prop)(σ:St):Prop:=∃b,IG r l outs env K b∧∀a w,R l n B σ a w→R l n B b a w
section
variable {P:Program} {T:Nat→Option TI} {r:Ren} {l n outs:Nat} {B:Base} {env:Bl} {τ σ:St} {a:AT} {o:Oper} {K:St→AT→Prop}
theorem KA.of(h:IG r l outs env K σ):KA r l n outs B env K σ:=⟨σ,h,fun _ _ h=>h⟩
theorem Mt{d:Nat}{e:TypeId}{sz:Nat}{cells:List AV}{x:Nat→AV}(h:Dv l n d e sz cells x (IG r l outs env K) σ):Dv l n d e sz cells x (KA r l n outs B env K) σ:=⟨h.1,.of h.2⟩
theorem jh(i:AX P T)(h:RG r l outs env τ σ){d:Nat}(k:o.dst=some d)(j:BV env [] o.op=true)(m:fresh d env=true)(p:tV T τ.H o.op (ev τ.s) none a (D9 n d K τ))
  (c:Bg P l n o (KA r l n outs B ((d,[])::env) K) σ=AS P σ.H o.op (ev σ.s) (B9 n o.dst (KA r l n outs B ((d,[])::env) K) σ)):Bg P l n o (KA r l n outs B ((d,[])::env) K) σ:=by
 rw[c,k]
 refine Qj (fun y hy=>?_) (j8 i h AU (fun b e=>by cases e) j p)
 obtain⟨f,g⟩:=P1 h m hy
 exact⟨f,.of g⟩
theorem gO{x:AV}{d:D}(h:Fg x=some d):ren r x=x:=by
 cases x<;>simp only[Fg]at h<;>first|(simp[ren];done)|cases h
theorem gM:∀{xs:List AV} {ds:List D},CZ xs=some ds→Aj r xs=xs
 |[],_,_=>by simp[Aj]
 |x::xs,ds,h=>by
  simp only[CZ]at h
  split at h
  ·rename_i d a b c
   rw[Aj,gO b,gM c]
  ·cases h
theorem wH{x:AV}{e:List D}(h:K6 x=some e):ren r x=x:=by
 cases x with
 |agg xs=>simp only[K6]at h;rw[ren,gM h]
 |_=>
  simp only[K6]at h
  split at h
  ·rename_i d a;exact gO a
  ·cases h
theorem P8{sz:Nat}:∀{ps:List (Nat×AV)} {i:Nat} {a:List (List D)},EP sz i ps=some a→(ps.map fun p=>(p.1,ren r p.2))=ps
 |[],_,_,_=>rfl
 |(j,v)::ps,i,a,h=>by
  simp only[EP]at h
  split at h
  ·rename_i e b c d
   simp only[Y4,wH c,P8 d]
  ·cases h
theorem Wv(h:RG r l outs env τ σ){sz c:Nat}{y:AV}{news:List AV}(i:RO τ.H sz y=true)(hs:EL sz (cellsOf τ.H y) y c news):HT σ.H sz (ren r y)=some (c,Aj r news)∧(Aj r news).all AV.one=true:=by
 obtain⟨p,a⟩:=hs
 have b:(Aj r news).all AV.one=true:=by
  rw[Es,List.all_map]
  refine Yk.2 fun x q=>?_
  have:=Yk.1 p x q
  cases x<;>first|(simp[Function.comp,ren,AV.one];done)|cases this
 refine⟨?_,b⟩
 split at a
 ·obtain⟨rfl,rfl⟩:=a;simp[ren,HT,Aj]
 ·rename_i t
  obtain⟨d,rfl,rfl⟩:=a
  simp only[ren,HT]
  rw[Yi (Yk.2 fun e he=>by simpa using d e he),Gn]
 ·rename_i k g off m
  obtain⟨rfl,d,rfl⟩:=a
  simp only[RO,Yb]at i
  obtain⟨hl,s⟩:=i
  obtain⟨j,n,u,o,f⟩:=h.h.at hl
  have e:cellsOf τ.H (.ref k g off c)=(τ.H k).cells:=by simp[cellsOf,hl]
  rw[e]at d⊢
  simp only[ren,HT]
  rw[Yi ⟨j,n,by rw[o];exact Ya s,by rw[f,Cb];exact d⟩,f,D4,Er]
 ·exact a.elim
theorem sG(E:RenOk r l outs)(F:AX P T)(h:RG r l outs env τ σ){d:Nat}{t:TypeId}{x y:AV}(X:fresh d env=true)(b:TB T r n d t x y a K τ):
  KU P l n d t (ren r x) (ren r y) (KA r l n outs B ((d,[])::env) K) σ:=by
 unfold TB at b
 split at b
 case h_2=>exact b.elim
 rename_i i hi
 split at b
 case h_2=>exact b.elim
 rename_i e sz he
 split at b
 case h_2=>exact b.elim
 rename_i j L J m
 have J:=Yf J
 unfold KU
 rw[(F _ _ hi).elm _ he]
 split at b
 ·rename_i byt z c news q W Z
  obtain⟨f,U,o⟩:=b
  obtain⟨O,Q⟩:=Wv h m f
  obtain⟨M,N⟩:=(F _ _ L).byt _ W
  have G:c*P.bytesOf e≤140737488355328:=ET (Nat.mul_le_mul_left _ M) U
  refine⟨by omega,N,by rw[(F _ _ L).zer _ Z];rfl,?_⟩
  simp only[O,ren]
  refine⟨Q,G,fun hc=>?_,fun hc=>?_⟩
  ·subst hc
   have C:d<n:=by
    unfold HP at o
    split at o
    ·rename_i C;have:=Yf C;omega
    ·exact o.elim
   have hn:=JL (x':=fun g=>.ref (l+1,d) g 0 0) E h X (fun g=>by simp[ren,E.own]) o
   have I:Aj r news=[]:=by
    have hl:news=[]:=by
     obtain⟨_,f⟩:=f
     split at f
     ·exact f.2
     ·obtain⟨_,A,p⟩:=f
      have:‹List (List D)›=[]:=Y8 A.symm
      rw[this]at p;simpa using p
     ·obtain⟨A,_,p⟩:=f;rw[←A]at p;simpa using p
     ·exact f.elim
    rw[hl];simp[Aj]
   rw[I]at hn
   refine⟨C,_,hn.2,fun act w hR=>?_⟩
   have:=R.adopt (e:=e) (sz:=sz) hR (l+1,d) rfl ((σ.H (l+1,d)).g+1) (Eo _) (d:=d) (by simp[upd])
   have S:upd (upd σ.s d .e0) d (.ref (l+1,d) ((σ.H (l+1,d)).g+1) 0 0)=upd σ.s d (.ref (l+1,d) ((σ.H (l+1,d)).g+1) 0 0):=by funext j;unfold upd;split<;>rfl
   simp only[S]at this
   exact this
  ·exact Mt (JL (x':=fun g=>.ref (l+1,d) g 0 c) E h X (fun g=>by simp[ren,E.own]) o)
 ·rename_i byt z k q off c' c news C' n' q' W Z
  split at b
  case h_2=>exact b.elim
  rename_i hl u s C
  obtain⟨f,⟨U,o,A,p⟩,V⟩:=b
  obtain⟨V,Y,H⟩:=QU E h (DE hl).2 V
  obtain⟨O,Q⟩:=Wv h m f
  obtain⟨M,N⟩:=(F _ _ L).byt _ W
  obtain⟨g1,g2,g3,g4,g5⟩:=h.h.at hl
  have C:=Yf C
  have u:=Ya u
  have s:=wY s
  refine⟨by omega,N,by rw[(F _ _ L).zer _ Z];rfl,?_⟩
  simp only[O,ren]
  refine⟨Q,g1,g2,by rw[g4,u],by rw[g3,s],by rw[g5,Cb];exact U,by rw[A];exact ET (Nat.mul_le_mul_left _ M) p,H,by omega,.of ⟨_,_,V,?_⟩⟩
  have h7:=h.put0 (v:=.ref k (q+1) 0 n') (y:=.ref (r.κ k) (r.γ k+q+1) 0 (c'+c)) X (by simp[ren,A,YC])
  have h8:=RG.updH E h7 k ⟨q+1,true,e,sz,C'⟩ rfl Y
  have S:AA r k ⟨q+1,true,e,sz,C'⟩=⟨r.γ k+q+1,true,e,sz,(σ.H (r.κ k)).cells.drop (off*sz)++Aj r news⟩:=by
   simp only[AA,g5,D4,←Fy,o,YC]
  rw[S]at h8
  exact h8
 ·exact b.elim
theorem fZ(y:RenOk r l outs)(h:RG r l outs env τ σ){t:TypeId}{i:TI}(hi:TIok P t i){x:AV}{vs:List AV}(c:MG r n i x (some vs) a K τ):
  ∃k g off,ren r x=.ptr k g off∧g=(σ.H k).g∧(σ.H k).live=true∧(Aj r vs).length=P.cellsOf t∧Aj r vs≠[]∧off+(Aj r vs).length≤(σ.H k).cells.length∧(k.1=l+1∨(Aj r vs).all (AV.low k.1)=true)∧
   IG r l outs env K ⟨σ.s,updH σ.H k {σ.H k with cells:=(σ.H k).cells.take off++Aj r vs++(σ.H k).cells.drop (off+(Aj r vs).length) }⟩:=by
 unfold MG at c
 split at c
 case h_2=>exact c.elim
 rename_i k q off E heq
 cases heq
 split at c
 case h_2=>exact c.elim
 rename_i hl d m
 have d:=Ya d
 have m:=Yf m
 obtain⟨s,u,B,C,v⟩:=h.h.at hl
 obtain⟨F,G⟩:=DE hl
 have fin:∀f z,Ha (τ.H k).cells off vs f→Ia r k vs (K ⟨τ.s,updH τ.H k ⟨q,true,(τ.H k).e,(τ.H k).sz,f⟩⟩ z)→_:=fun f z hs o=>by
  obtain⟨s1,s2⟩:=hs
  obtain⟨o,p,j⟩:=QU y h (DE hl).2 o
  refine(⟨r.κ k,r.γ k+q,off,by simp[ren],s,u,by rw[Cb,hi.siz,d],by intro e;have:=congrArg List.length e;rw[Cb,Hc]at this;omega,by rw[v,Cb,Cb];exact s1,?_,_,_,o,?_⟩:
   ∃k' g b,ren r (.ptr k q off)=.ptr k' g b∧g=(σ.H k').g∧(σ.H k').live=true∧(Aj r vs).length=P.cellsOf t∧Aj r vs≠[]∧b+(Aj r vs).length≤(σ.H k').cells.length∧(k'.1=l+1∨(Aj r vs).all (AV.low k'.1)=true)∧
   IG r l outs env K ⟨σ.s,updH σ.H k' {σ.H k' with cells:=(σ.H k').cells.take b++Aj r vs++(σ.H k').cells.drop (b+(Aj r vs).length) }⟩)
  ·exact j
  ·have w:=RG.updH y h k ⟨q,true,(τ.H k).e,(τ.H k).sz,f⟩ rfl p
   have A:AA r k ⟨q,true,(τ.H k).e,(τ.H k).sz,f⟩={σ.H (r.κ k)with cells:=(σ.H (r.κ k)).cells.take off++Aj r vs++(σ.H (r.κ k)).cells.drop (off+(Aj r vs).length) }:=by
    simp only[AA,v,Cb,Er,D4,←Fy,s2,s,B,C,←u]
   rw[A]at w
   exact w
 split at c
 ·split at c
  ·rename_i D;exact fin _ _ ⟨Yf D,rfl⟩ c
  ·exact c.elim
 ·exact fin _ _ c.1 c.2
 ·exact c.elim
theorem g8(L:RenOk r l outs)(D:AX P T)(h:RG r l outs env τ σ)(v:BV env [] o.op=true)(H:Gm env o.dst=true)(s:IW P T l n r o a K τ):Bg P l n o (KA r l n outs B (D7 env o.dst) K) σ:=by
 obtain⟨dst,op,ty,ps,af,gd⟩:=o
 have ops:∀{op:Op},BV env [] op=true→(∀c x y,op≠.pick c x y)→∀x∈op.operands,ev σ.s x=ren r (ev τ.s x):=fun {op} v hne=>by
  unfold BV at v
  split at v
  ·exact absurd rfl (hne _ _ _)
  ·exact E0 h AU v
 unfold IW at s
 simp only at v H s⊢
 split at s
 ·rename_i t
  split at s
  case h_2=>exact s.elim
  rename_i d i hi
  split at s
  case h_2=>exact s.elim
  rename_i z zs A
  have N:=Iy (r:=r) ((D _ _ hi).flt _ A)
  have O:=JL (x':=fun g=>.ptr (l+1,d) g 0) L h H (fun g=>by simp[ren,L.own]) s
  rw[N]at O
  simp only[Bg,(D _ _ hi).zer _ A]
  exact⟨by simp,Mt O⟩
 ·rename_i t x
  split at s
  case h_2=>exact s.elim
  rename_i d z zs A Q
  have M:=ops v (fun _ _ _ e=>by cases e) x (by simp[Op.operands])
  have O:=JL (x':=fun g=>.ptr (l+1,d) g 0) L h H (fun g=>by simp[ren,L.own]) s
  have E:=Mk (r:=r) A (Mx Q)
  simp only[Bg,M,E]
  refine⟨vu (by simp),?_⟩
  rw[Cb]
  exact Mt O
 ·rename_i t p x
  split at s
  case h_2=>exact s.elim
  rename_i i hi Q
  have M:=ops v (fun _ _ _ e=>by cases e) x (by simp[Op.operands])
  have hpp:=ops v (fun _ _ _ e=>by cases e) p (by simp[Op.operands])
  cases A:Cs (ev τ.s x)with
  |none=>rw[A]at s;unfold MG at s;split at s<;>first|exact s.elim|(rename_i e;cases e)
  |some vs=>
   rw[A]at s
   have E:=Mk (r:=r) A (Mx Q)
   obtain⟨k,g,off,S,Z,e3,e4,e5,e6,e7,e8⟩:=fZ L h (D _ _ hi) s
   simp only[Bg,hpp,M,E,S]
   exact⟨Z,e3,e4,e5,e6,e7,.of e8⟩
 ·rename_i t len parts
  split at s
  case h_2=>exact s.elim
  rename_i d i hi
  split at s
  case h_2=>exact s.elim
  rename_i e sz he
  simp only[Bg,(D _ _ hi).elm _ he]
  split at s
  ·rename_i u
   have u:=Yf u
   refine⟨by omega,?_⟩
   split at s
   ·rename_i hps
    obtain⟨I,G⟩:=P1 h H (y:=.e0) ⟨.e0,a,by simp[ren],s⟩
    exact⟨by rw[←EU,hps];rfl,I,.of G⟩
   ·exact s.elim
  ·rename_i len' u
   have u:=Yf u
   refine⟨by omega,?_⟩
   split at s
   case h_2=>exact s.elim
   rename_i j W X
   split at s
   case h_2=>exact s.elim
   rename_i z A
   split at s
   case h_2=>exact s.elim
   rename_i es F J
   split at s
   case h_2=>exact s.elim
   rename_i hes
   have S:(parts.toList.map fun p=>(p.1,ev σ.s p.2))=parts.toList.map fun p=>(p.1,ev τ.s p.2):=by
    have:(parts.toList.map fun p=>(p.1,ev σ.s p.2))=(parts.toList.map fun p=>(p.1,ev τ.s p.2)).map fun p=>(p.1,ren r p.2):=by
     rw[Hg]
     refine EV fun p s=>?_
     simp only[Function.comp]
     rw[ops v (fun _ _ _ e=>by cases e) p.2 (by simp only[Op.operands,Ly,YU];exact⟨p,s,rfl⟩)]
    rw[this,P8 J]
   rw[S]
   simp only[(D _ _ W).zer _ A,J]
   obtain⟨I,G⟩:=P1 h H (y:=.d (.list es)) ⟨.d (.list es),a,by simp[ren],s⟩
   exact⟨Yf X,Ya F,Ya hes,I,.of G⟩
  ·exact s.elim
 ·rename_i t x y
  split at s
  case h_2=>exact s.elim
  rename_i d i k1 c k2 c' m C b hi hx0 hy0
  have M:=ops v (fun _ _ _ e=>by cases e) x (by simp[Op.operands])
  have hy:=ops v (fun _ _ _ e=>by cases e) y (by simp[Op.operands])
  rw[hx0]at M
  rw[hy0]at hy
  split at s
  case h_2=>exact s.elim
  rename_i e sz he
  split at s
  case h_2=>exact s.elim
  rename_i j W u
  split at s
  case h_2=>exact s.elim
  rename_i z byt A U
  split at s
  case h_2=>exact s.elim
  rename_i F
  obtain⟨⟨m1,m2,m3,m4⟩,s⟩:=s
  have F:=Ya F
  have u:=Yf u
  have hb:=(D _ _ W).byt _ U
  have hfz:=(D _ _ W).flt _ A
  have V:C.all AV.flat=true:=by
   subst m4
   refine Yk.2 fun q hq=>?_
   obtain⟨z',E,Y⟩:=Of.1 hq
   rw[(SA.1 E).2]at Y
   exact Yk.1 hfz q Y
  have N:=Iy (r:=r) V
  have O:=JL (x':=fun g=>.ref (l+1,d) g 0 m) L h H (fun g=>by simp[ren,L.own]) s
  rw[N]at O
  simp only[Bg,(D _ _ hi).elm _ he,M,hy,ren,(D _ _ W).zer _ A]
  subst m1
  have hbb:(P.bytesOf e:Int)*c'≤(byt:Int)*c':=au (by omega) (by omega)
  refine⟨by omega,m2,by omega,hb.2,by omega,F,?_⟩
  simp only[Y7,m4]
  exact Mt O
 ·rename_i c
  split at s
  ·rename_i w
   split at s
   case h_2=>exact s.elim
   rename_i d x y t t' ha ht
   split at s
   case h_2=>exact s.elim
   rename_i R
   have R:=Ya R
   subst R
   have G:c.argTypes=#[t,t]:=CD (by simpa using ht)
   have M:=ops v (fun _ _ _ e=>by cases e) x (by simp only[Op.operands,Call.operands,Lx];exact .inr (by rw[←SM,ha];simp))
   have hy:=ops v (fun _ _ _ e=>by cases e) y (by simp only[Op.operands,Call.operands,Lx];exact .inr (by rw[←SM,ha];simp))
   simp only[Bg,w,ha,ht]
   refine⟨by rw[G];rfl,?_⟩
   rw[M,hy]
   exact sG L D h H s
  ·rename_i hna
   split at s
   case h_2=>exact s.elim
   rename_i d
   unfold pV at s
   simp only at s
   split at s
   ·rename_i f w
    obtain⟨i,first,caps,x,a',S,Z,e3⟩:=VH h AU (fun b e=>by cases e) w v s
    simp only[Bg,w,S]
    refine Z.mono fun y H' ⟨I,G⟩=>?_
    subst I;subst G
    obtain⟨I,G⟩:=P1 h H (y:=ren r x) ⟨x,a',rfl,e3⟩
    exact⟨I,.of G⟩
   ·rename_i hnv
    refine jh (o:=⟨some d,.call c,ty,ps,af,gd⟩) D h rfl v H s ?_
    simp only[Bg]
 ·rename_i I G h3 h4 h5 h6
  split at s
  case h_2=>exact s.elim
  rename_i d
  have hp':tV T τ.H op (ev τ.s) none a (D9 n d K τ):=by
   unfold pV at s
   split at s
   ·exact absurd rfl (h6 _)
   ·exact absurd rfl (h4 _ _ _)
   ·exact s
  refine jh (o:=⟨some d,op,ty,ps,af,gd⟩) D h rfl v H hp' ?_
  simp only[Bg]
theorem iP{d:Option Nat}{v y:AV}{c:Hp}(f:Gm env d=true){τ':St}(h:RG r l outs env ⟨τ.s,τ'.H⟩ ⟨σ.s,c⟩)(hy:y=ren r v)(b:Pc n K τ.s τ'.H v a d):
  B9 n d (KA r l n outs B (D7 env d) K) ⟨σ.s,c⟩ y:=by
 cases d with
 |none=>exact .of ⟨_,_,b,h⟩
 |some d=>
  simp only[Pc]at b
  split at b
  ·rename_i e;exact⟨Yf e,.of ⟨_,_,b,h.put0 f hy⟩⟩
  ·exact b.elim
theorem V6(Q:RenOk r l outs)(A:AX P T)(h:RG r l outs env τ σ)(s:BV env [] o.op=true)(hf:Gm env o.dst=true)(d:HH P T l n r o a K τ):B4 P l n B o (KA r l n outs B (D7 env o.dst) K) σ:=by
 have ops:∀{op:Op},BV env [] op=true→(∀c x y,op≠.pick c x y)→∀x∈op.operands,ev σ.s x=ren r (ev τ.s x):=fun {op} s hne=>by
  unfold BV at s
  split at s
  ·exact absurd rfl (hne _ _ _)
  ·exact E0 h AU s
 unfold HH at d
 split at d
 case h_2=>exact Iw (g8 Q A h s hf d)
 rename_i c ho
 split at d
 ·rename_i f
  split at d
  case h_2=>exact d.elim
  rename_i x y t t' ha ht
  have u:o.op=.call ⟨.builtin .copy,#[x,y],#[t,t']⟩:=by
   rw[ho]
   have C:c.args=#[x,y]:=CD (by simpa using ha)
   have O:c.argTypes=#[t,t']:=CD (by simpa using ht)
   cases c;simp only at f C O;subst f;subst C;subst O;rfl
  rw[u]at s
  have Z:=ops s (fun _ _ _ e=>by cases e) x (by simp[Op.operands,Call.operands])
  have hy:=ops s (fun _ _ _ e=>by cases e) y (by simp[Op.operands,Call.operands])
  unfold mq at d
  split at d
  case h_2=>exact d.elim
  rename_i i i' hi hi'
  split at d
  case h_2=>exact d.elim
  rename_i e sz e' sz' he he'
  split at d
  case h_2=>exact d.elim
  rename_i j q1 q2 V w Y
  split at d
  case h_2=>exact d.elim
  rename_i z k q off cn cnt news N b hz J
  split at d
  case h_2=>exact d.elim
  rename_i hl m
  obtain⟨h1,h2,h3,H⟩:=d
  obtain⟨H,I,p⟩:=QU Q h (DE hl).2 H
  have q1:=Ya q1
  have q2:=Ya q2
  subst q1;subst q2
  have m:=Ya m
  have w:=Yf w
  obtain⟨D,E,S,F,G⟩:=h.h.at hl
  obtain⟨C,O⟩:=Wv h Y h1
  rw[J]at Z
  obtain⟨s1,s2⟩:=h3
  obtain⟨ss,M⟩:=σ
  refine tH (k:=r.κ k) (g:=r.γ k+q) (off:=off) (cn:=cn) (cnt:=cnt) (news:=Aj r news) u (by rw[Z];simp[ren]) ((A _ _ hi).elm _ he) ((A _ _ hi').elm _ he') (by rw[(A _ _ V).zer _ hz];rfl) (by omega) D E (by rw[F,m]) (by rw[hy];exact C) h2
   (by rw[G,Cb,Cb];exact s1) p ?_
  have U:=RG.updH Q h k ⟨q,true,(τ.H k).e,(τ.H k).sz,N⟩ rfl I
  have R:AA r k ⟨q,true,(τ.H k).e,(τ.H k).sz,N⟩={M (r.κ k)with cells:=(M (r.κ k)).cells.take (off*sz)++Aj r news++(M (r.κ k)).cells.drop (off*sz+(Aj r news).length) }:=by
   simp only at D E S F G
   simp only[AA,G,Cb,Er,D4,←Fy,s2,D,S,F,←E]
  simp only at R
  rw[R]at U
  refine iP (v:=.d (.int .i64 cnt)) (a:=b) (τ':=⟨τ.s,updH τ.H k ⟨q,true,(τ.H k).e,(τ.H k).sz,N⟩⟩) hf U (by simp[ren]) H
 ·rename_i f
  split at d
  case h_2=>exact d.elim
  rename_i x t ha ht hd
  have u:o.op=.call ⟨.builtin .clear,#[x],#[t]⟩:=by
   rw[ho]
   have C:c.args=#[x]:=CD (by simpa using ha)
   have O:c.argTypes=#[t]:=CD (by simpa using ht)
   cases c;simp only at f C O;subst f;subst C;subst O;rfl
  rw[u]at s
  have Z:=ops s (fun _ _ _ e=>by cases e) x (by simp[Op.operands,Call.operands])
  unfold kQ at d
  split at d
  case h_2=>exact d.elim
  rename_i i hi
  split at d
  case h_2=>exact d.elim
  rename_i e sz he
  split at d
  case h_2=>exact d.elim
  rename_i j V w
  split at d
  case h_2=>exact d.elim
  rename_i z k q off cn N b hz J
  split at d
  case h_2=>exact d.elim
  rename_i hl m L
  obtain⟨⟨h1,h2⟩,H⟩:=d
  obtain⟨H,I,p⟩:=QU Q h (DE hl).2 H
  have m:=Ya m
  have w:=Yf w
  have L:=Ya L
  obtain⟨D,E,S,F,G⟩:=h.h.at hl
  have hfz:=Iy (r:=r) ((A _ _ V).flt _ hz)
  rw[hfz]at p
  rw[J]at Z
  obtain⟨ss,M⟩:=σ
  refine s8 (k:=r.κ k) (g:=r.γ k+q) (off:=off) (cn:=cn) u hd (by rw[Z];simp[ren]) ((A _ _ hi).elm _ he) ((A _ _ V).zer _ hz) L (by omega) D E (by rw[F,m]) (by rw[G,Cb];exact h1) p ?_
  have U:=RG.updH Q h k ⟨q,true,(τ.H k).e,(τ.H k).sz,N⟩ rfl I
  have X:Aj r (List.replicate cn z).flatten=(List.replicate cn z).flatten:=Iy (by
   refine Yk.2 fun q hq=>?_
   obtain⟨z',hz',W⟩:=Of.1 hq
   rw[(SA.1 hz').2]at W
   exact Yk.1 ((A _ _ V).flt _ hz) q W)
  have R:AA r k ⟨q,true,(τ.H k).e,(τ.H k).sz,N⟩={M (r.κ k)with cells:=(M (r.κ k)).cells.take (off*sz)++(List.replicate cn z).flatten++(M (r.κ k)).cells.drop ((off+cn)*sz) }:=by
   simp only at D E S F G
   rw[←h2]
   simp only[AA,G,Fy,Er,D4,X,D,S,F,←E]
  simp only at R
  rw[R]at U
  exact .of ⟨_,_,H,by rw[hd];exact U⟩
 ·exact Iw (g8 Q A h s hf d)
theorem cg{a:Nat→Option (Nat×Nat)}:∀(ps:List (Nat×AV)) (z cs:List AV),(∀p∈ps,HJ p.2=true)→B5 a z ps=some cs→B5 a (Aj r z) (ps.map fun p=>(p.1,ren r p.2))=some (Aj r cs)
 |[],z,cs,_,h=>by
  simp only[B5,Yg]at h
  subst h
  simp[B5]
 |(f,v)::ps,z,cs,d,h=>by
  simp only[B5]at h
  split at h
  ·rename_i off size vs b g
   split at h
   ·cases h
   ·rename_i e
    have c:=Mk (r:=r) g (Mx (d (f,v) (YM ..)))
    simp only[Y4,B5,b,c,Cb]
    rw[Yj e]
    have:=cg ps _ cs (fun p b=>d p (YH _ b)) h
    rw[←this]
    simp only[Fy,Er,D4]
  ·cases h
theorem nv(d:BU o=true)(b:IL P T l n r o a K τ):HH P T l n r o a K τ:=by
 unfold IL at b
 split at b
 ·rename_i c;simp[BU,c]at d
 ·exact b
theorem uZ(w:RenOk r l outs)(m:AX P T)(h:RG r l outs env τ σ)(k:BV env [] o.op=true)(u:Gm env o.dst=true)(c:IL P T l n r o a K τ):B4 P l n B o (KA r l n outs B (D7 env o.dst) K) σ:=by
 unfold IL at c
 split at c
 case h_2=>exact V6 w m h k u c
 rename_i t len parts E
 split at c
 case h_2=>exact V6 w m h k u c
 case h_3=>exact V6 w m h k u c
 rename_i b
 have ops:∀x∈o.op.operands,ev σ.s x=ren r (ev τ.s x):=by
  unfold BV at k
  split at k
  ·rename_i e;rw[E]at e;cases e
  ·exact E0 h AU k
 unfold jR at c
 split at c
 case h_2=>exact c.elim
 rename_i d i J hi
 split at c
 case h_2=>exact c.elim
 rename_i e sz he
 split at c
 case h_2=>exact c.elim
 rename_i j L F v
 split at c
 case h_2=>exact c.elim
 rename_i z N
 split at c
 case h_2=>exact c.elim
 rename_i cs G f D
 split at c
 case h_2=>exact c.elim
 rename_i C
 have I:(parts.toList.map fun p=>(p.1,ev σ.s p.2))=(parts.toList.map fun p=>(p.1,ev τ.s p.2)).map fun p=>(p.1,ren r p.2):=by
  rw[Hg]
  refine EV fun p c=>?_
  rw[ops p.2 (by rw[E];simp only[Op.operands,Ly,YU];exact⟨p,c,rfl⟩)]
  rfl
 have q:o.dst=some d:=J
 rw[q]at u⊢
 have M:=JL (x':=fun g=>.ref (l+1,d) g 0 (len+1)) w h u (fun g=>by simp[ren,w.own]) c
 obtain⟨s,H⟩:=σ
 exact fA E q ((m _ _ hi).elm _ he) (by have:=Yf F;omega) (Yf v) ((m _ _ L).zer _ N) (Ya G) (by
  rw[I]
  have:=cg (r:=r) _ _ _ (fun p c=>Yk.1 D p c) f
  rw[Iy (r:=r) (z:=(List.replicate (len+1) z).flatten) (Yk.2 fun x A=>by
   obtain⟨y,hy,A⟩:=Of.1 A
   rw[List.eq_of_mem_replicate hy]at A
   exact Yk.1 C x A)]at this
  exact this) (Mt M)
theorem yf(d:BU o=true)(c:GA P T l n r o a K τ):IL P T l n r o a K τ:=by
 unfold GA at c
 split at c
 ·rename_i b;simp[BU,b]at d
 ·rename_i b;simp[BU,b]at d
 ·exact c
theorem sk(f:RenOk r l outs)(h:RG r l outs env τ σ){K:St→AT→Prop}{d:Nat}(m:fresh d env=true){e:EK}{x x':Nat→AV}(o:∀g,x' (r.γ (1,d)+g)=ren r (x g))(b:Xy n d e x K τ a):
  da l n d e x' (KA r l n outs B ((d,[])::env) K) σ:=by
 unfold Xy at b
 split at b
 ·rename_i k
  refine⟨Yf k,.of ⟨_,_,b,?_⟩⟩
  have j:=RG.updH f h (1,d) ⟨(τ.H (1,d)).g+1,true,e,0,[]⟩ rfl (.inl rfl)
  have c:=j.put0 m (v:=x ((τ.H (1,d)).g+1)) (y:=x' ((σ.H (l+1,d)).g+1)) (by rw[h.g,YC];exact o _)
  have i:AA r (1,d) ⟨(τ.H (1,d)).g+1,true,e,0,[]⟩=⟨(σ.H (l+1,d)).g+1,true,e,0,[]⟩:=by simp only[AA,Aj,h.g,YC]
  rw[i,f.own]at c
  exact c
 ·exact b.elim
theorem ii(w:RenOk r l outs)(O:AX P T)(h:RG r l outs env τ σ)(v:BV env [] o.op=true)(q:Gm env o.dst=true)(b:GA P T l n r o a K τ):B4 P l n B o (KA r l n outs B (D7 env o.dst) K) σ:=by
 have ops:(∀c x y,o.op≠.pick c x y)→∀x∈o.op.operands,ev σ.s x=ren r (ev τ.s x):=fun F=>by
  unfold BV at v
  split at v
  ·rename_i e;exact absurd e (F _ _ _)
  ·exact E0 h AU v
 unfold GA at b
 split at b
 ·rename_i t x j
  split at b
  case h_2=>exact b.elim
  rename_i d i z s hi m
  split at b
  case h_2=>exact b.elim
  rename_i u
  rw[s]at q⊢
  have U:=sk (B:=B) (x':=fun g=>.ptr (l+1,d) g 0) w h q (fun g=>by simp[ren,w.own]) b
  obtain⟨ss,Q⟩:=σ
  have V:=Gk ((O _ _ hi).kin.trans (Ya u))
  have f:=ops (by rw[j];intro _ _ _ e;cases e) x (by rw[j];simp[Op.operands])
  exact sf j s V (by rw[f,m];simp[ren]) U
 ·rename_i x j
  split at b
  case h_2=>exact b.elim
  rename_i d k g s m
  split at b
  case h_2=>exact b.elim
  rename_i z p E hl he
  have f:=ops (by rw[j];intro _ _ _ e;cases e) x (by rw[j];simp[Op.operands])
  rw[m]at f
  obtain⟨A,C,J,L,M⟩:=h.h.at hl
  rw[s]at q⊢
  unfold mV at b
  split at b
  case h_2=>exact b.elim
  rename_i a1 a0 D
  obtain⟨H,G⟩:=b
  obtain⟨ss,Q⟩:=σ
  refine sH (k:=r.κ k) (g:=r.γ k+g) (z:=z) (p:=p) j s (by rw[f];simp[ren]) A C (by rw[J];exact he) (Yf D) (fun R=>.of ⟨_,_,G (Ep R),h.put0 q (by simp[ren,Aj])⟩) (fun S=>?_)
  have N:=RG.updH w h k ⟨g,true,.s z (p+DT z p),(τ.H k).sz,(τ.H k).cells⟩ rfl (.inl (Ya E))
  have I:AA r k ⟨g,true,.s z (p+DT z p),(τ.H k).sz,(τ.H k).cells⟩={Q (r.κ k)with e:=.s z (p+DT z p) }:=by
   simp only at A C J L M
   simp only[AA,A,L,←M,←C]
  simp only at I
  rw[I]at N
  exact .of ⟨_,_,H (Y6 S),N.put0 q (by simp only[ren,Aj])⟩
 ·exact uZ w O h v q b
end
end Go.Eng
namespace Go.Eng
set_option linter.all false
open Go Go.RowKit
section
variable {P:Program} {T:Nat→Option TI} {r:Ren} {l n outs:Nat} {B:Base} {env:Bl} {τ σ:St} {a:AT} {o:Oper}
theorem bv{H:Hp}{op:Op}{ρ:Operand→AV}{g:Option Bool}{K:AV→AT→Prop}(h:tV T H op ρ g a K):∃v b,K v b:=by
 have fin:∀{v b},K v b→∃v b,K v b:=fun h=>⟨_,_,h⟩
 cases op<;>simp only[tV]at h<;>try exact h.elim
 case move x=>exact fin h
 case assign x=>exact fin h
 case pick c x y=>split at h<;>first|exact fin h|exact h.elim
 case load t x=>
  split at h
  ·unfold Kg at h
   repeat' split at h
   all_goals first|exact h.elim|exact fin h|exact fin h.2
  ·grind
 case fieldAddr t x f=>
  split at h
  ·unfold PR at h
   grind
  ·grind
 case field t x f=>
  split at h
  ·unfold QK at h
   grind
  ·grind
 case indexAddr t x j=>
  split at h
  ·unfold PP at h
   grind
  ·grind
 case index t x j=>
  split at h
  ·unfold QM at h
   grind
  ·grind
 case extract x j=>
  repeat' split at h
  all_goals first|exact h.elim|exact fin h
 case makeInterface t x=>
  repeat' split at h
  all_goals first|exact h.elim|exact fin h
 case typeAssert x u t ok=>
  repeat' split at h
  all_goals first|exact h.elim|exact fin h
 case binOp o t x y u=>
  split at h
  ·unfold OL at h
   split at h
   ·split at h
    ·unfold OQ at h
     grind
    grind
   ·unfold OZ at h
    grind
   ·grind
   ·grind
   ·split at h
    ·have nl:∀{neg:Bool} {x:AV},K2 H neg x a K→∃v b,K v b:=fun {neg x} h=>by
      unfold K2 at h
      repeat' split at h
      all_goals first|exact h.elim|exact fin (h true)|exact fin (h neg (fun _=>rfl))
     grind
    grind
   grind
  ·grind
 case unOp o t x=>
  unfold R1 at h
  repeat' split at h
  all_goals first|exact h.elim|exact fin h|exact fin h.2
 case nilCheck x=>
  split at h
  ·grind
  ·grind
  ·grind
 case convert s d x=>
  split at h
  ·unfold Rb at h
   grind
  ·grind
 case makeFunc fn first e=>split at h<;>first|exact h.elim|exact fin h
 case slice t x lo hi k=>
  split at h
  ·unfold Qy at h
   grind
  ·grind
 case build t parts=>
  split at h
  ·unfold QA at h
   grind
  ·grind
 case lookup t x y i=>
  split at h
  ·unfold RB at h
   grind
  ·grind
 case call c=>
  split at h
  ·split at h
   ·unfold Pd at h
    grind
   grind
  ·unfold DA at h
   grind
  ·unfold DA at h
   grind
  ·unfold FN at h
   grind
  ·grind
theorem Rt{op:Op}{g:Option Bool}{K:AV→AT→Prop}(h:pV P T l r τ op g a K):∃v b,K v b:=by
 unfold pV at h
 split at h
 ·split at h
  ·unfold Q0 at h
   grind
  ·exact bv h
 ·unfold RP at h
  repeat' split at h
  all_goals first|exact h.elim|exact⟨_,_,h⟩
 ·exact bv h
def Yl(r:Ren)(e:Nat)(K:AV→AT→Prop)(σ b:St):Prop:=∃v a,b=⟨upd σ.s e (ren r v),σ.H⟩∧K v a
theorem W9(E:AX P T)(h:RG r l outs env τ σ){c:Cp}(hs:Cq τ.s c){g:Option Bool}(N:∀b,g=some b→b=true){e:Nat}{op:Op}{ty:TypeId}{ps:String}{af:Array Edge}{gd:Option (Nat×Bool)}
  (I:BV env c op=true) (q:e<n) {K:AV→AT→Prop} (d:pV P T l r τ op g a K):Bg P l n ⟨some e,op,ty,ps,af,gd⟩ (Yl r e K σ) σ:=by
 have val:tV T τ.H op (ev τ.s) g a K→Bg P l n ⟨some e,op,ty,ps,af,gd⟩ (Yl r e K σ) σ=AS P σ.H op (ev σ.s) (B9 n (some e) (Yl r e K σ) σ)→Bg P l n ⟨some e,op,ty,ps,af,gd⟩ (Yl r e K σ) σ:=fun C D=>by
  rw[D]
  exact Qj (fun y ⟨v,A,u,B⟩=>⟨q,v,A,by rw[u],B⟩) (j8 E h hs N I C)
 unfold pV at d
 split at d
 ·rename_i c
  split at d
  ·rename_i f k
   obtain⟨i,first,M,x,A,u,B,Q⟩:=VH h hs N k I d
   simp only[Bg,k,u]
   exact B.mono fun y W ⟨C,D⟩=>by subst C;subst D;exact⟨q,x,A,rfl,Q⟩
  ·rename_i G
   refine val d ?_
   cases k:c.callee with
   |value f=>exact absurd k (G f)
   |invoke x m=>simp only[tV,k]at d
   |builtin b=>
    cases b<;>simp only[tV,k]at d<;>simp only[Bg,k]
 ·rename_i t len parts
  have J:(Op.buildSlice t len parts).operands.toList.all (GY env c)=true:=I
  have u:(parts.toList.map fun p=>(p.1,ev σ.s p.2))=(parts.toList.map fun p=>(p.1,ev τ.s p.2)).map fun p=>(p.1,ren r p.2):=by
   rw[Hg]
   refine EV fun p d=>?_
   simp only[Function.comp]
   rw[E0 h hs J p.2 (by simp only[Op.operands,Ly,YU];exact⟨p,d,rfl⟩)]
  unfold RP at d
  split at d
  case h_2=>exact d.elim
  rename_i i hi
  split at d
  case h_2=>exact d.elim
  rename_i e' sz he
  simp only[Bg,(E _ _ hi).elm _ he]
  split at d
  ·rename_i o
   have o:=Yf o
   refine⟨by omega,?_⟩
   split at d
   ·rename_i H
    exact⟨by rw[←EU,H];rfl,q,.e0,a,by simp[ren],d⟩
   grind
  ·rename_i O o
   have o:=Yf o
   refine⟨by omega,?_⟩
   split at d
   case h_2=>exact d.elim
   rename_i j U w
   split at d
   case h_2=>exact d.elim
   rename_i z V
   split at d
   case h_2=>exact d.elim
   rename_i R L s
   split at d
   case h_2=>exact d.elim
   rename_i F
   rw[P8 s]at u
   rw[u]
   simp only[(E _ _ U).zer _ V,s]
   exact⟨Yf w,Ya L,Ya F,q,.d (.list R),a,by simp[ren],d⟩
  grind
 ·rename_i S X
  refine val d ?_
  cases op<;>simp only[tV]at d<;>try exact d.elim
  case call c=>exact absurd rfl (S c)
  all_goals simp only[Bg]
theorem kJ(y:AX P T)(h:RG r l outs env τ σ){c:Cp}(hs:Cq τ.s c){g:Option Bool}(H:∀b,g=some b→b=true){e:Nat}{op:Op}{ty:TypeId}{ps:String}{af:Array Edge}{gd:Option (Nat×Bool)}
  (D:BV env c op=true) (o:e<n) {K:AV→AT→Prop} (d:pV P T l r τ op g a K):EE P l n ⟨some e,op,ty,ps,af,gd⟩ (Yl r e K σ) σ:=by
 have C:=W9 (ty:=ty) (ps:=ps) (af:=af) (gd:=gd) y h hs H D o d
 unfold pV at d
 split at d
 ·rename_i c
  split at d
  ·rename_i f k
   obtain⟨i,first,G,x,J,v,L,M⟩:=VH h hs H k D d
   simp only[EE,k,v]
   exact⟨ren r x,L,o,x,J,rfl,M⟩
  ·rename_i B
   cases k:c.callee with
   |value f=>exact absurd k (B f)
   |_=>simp only[EE,k];exact C
 ·rename_i t len parts
  cases len with
  |zero=>exact C
  |succ len=>
   have E:(Op.buildSlice t (len+1) parts).operands.toList.all (GY env c)=true:=D
   have v:(parts.toList.map fun p=>(p.1,ev σ.s p.2))=(parts.toList.map fun p=>(p.1,ev τ.s p.2)).map fun p=>(p.1,ren r p.2):=by
    rw[Hg]
    refine EV fun p d=>?_
    simp only[Function.comp]
    rw[E0 h hs E p.2 (by simp only[Op.operands,Ly,YU];exact⟨p,d,rfl⟩)]
   unfold RP at d
   split at d
   case h_2=>exact d.elim
   rename_i i hi
   split at d
   case h_2=>exact d.elim
   rename_i e' sz he
   split at d
   ·rename_i q;cases q
   ·rename_i I u q
    cases q
    have u:=Yf u
    split at d
    case h_2=>exact d.elim
    rename_i j Q s
    split at d
    case h_2=>exact d.elim
    rename_i z R
    split at d
    case h_2=>exact d.elim
    rename_i w F m
    split at d
    case h_2=>exact d.elim
    rename_i A
    rw[P8 m]at v
    exact⟨.d (.list w),⟨e',sz,z,w,(y _ _ hi).elm _ he,by omega,Yf s,(y _ _ Q).zer _ R,Ya F,by rw[v];exact m,Ya A,rfl⟩,o,.d (.list w),a,by simp[ren],d⟩
   ·exact d.elim
 ·rename_i N O
  cases op<;>first|exact absurd rfl (N _)|exact absurd rfl (O _ _ _)|exact C
theorem Mq{d:Nat}{e:TypeId}{sz:Nat}{cells:List AV}{x:Nat→AV}{K a:St→Prop}(b:∀σ,K σ→a σ)(h:Dv l n d e sz cells x K σ):Dv l n d e sz cells x a σ:=⟨h.1,b _ h.2⟩
theorem ja{o:Oper}{K b:St→Prop}(a:∀σ,K σ→b σ)(h:Bg P l n o K σ):Bg P l n o b σ:=by
 have i:∀x,B9 n o.dst K σ x→B9 n o.dst b σ x:=fun x h=>by
  unfold B9 at h⊢
  grind
 unfold Bg at h⊢
 split at h
 ·split at h
  ·exact⟨h.1,Mq a h.2⟩
  grind
 ·split at h
  ·exact⟨h.1,Mq a h.2⟩
  grind
 ·grind
 ·split at h
  ·refine⟨h.1,?_⟩
   replace h:=h.2
   split at h
   ·grind
   ·refine⟨h.1,?_⟩
    replace h:=h.2
    split at h
    ·refine⟨h.1,?_⟩
     replace h:=h.2
     split at h
     ·grind
     ·split at h
      ·exact Mq a h
      grind
    grind
  grind
 ·split at h
  ·obtain⟨c,d,f,j,k,h⟩:=h
   refine⟨c,d,f,j,k,?_⟩
   split at h
   ·exact⟨h.1,Mq a h.2⟩
   grind
  grind
 ·split at h
  ·split at h
   ·exact h.mono fun r m g=>by
     unfold LM at g⊢
     unfold B9 at g⊢
     grind
   grind
  ·split at h
   ·refine⟨h.1,?_⟩
    replace h:=h.2
    unfold KU at h⊢
    split at h
    ·obtain⟨c,d,f,h⟩:=h
     refine⟨c,d,f,?_⟩
     split at h
     ·refine⟨h.1,?_⟩
      replace h:=h.2
      split at h
      ·exact⟨h.1,fun e=>⟨(h.2.1 e).1,a _ (h.2.1 e).2⟩,fun e=>Mq a (h.2.2 e)⟩
      ·grind
      grind
     grind
    grind
   grind
  ·exact Qj i h
 ·exact Qj i h
theorem P7{o:Oper}{K a:St→Prop}(b:∀σ,K σ→a σ)(h:EE P l n o K σ):EE P l n o a σ:=by
 have e:∀{x},B9 n o.dst K σ x→B9 n o.dst a σ x:=fun {x} h=>by
  unfold B9 at h⊢
  grind
 unfold EE at h⊢
 split at h
 ·obtain⟨v,c,d⟩:=h;exact⟨v,c,e d⟩
 ·split at h
  ·grind
  ·exact ja b h
 ·exact ja b h
theorem VN(h:RG r l outs env τ σ){ds:List (Option Nat)}{i d:Nat}{b g:Bool}(j:A6 ds i=some (some d))(a:Fb τ.s ((d,b)::lk env d)=some g):G0 σ.s ds i b=some g:=by
 rw[BT]at j
 have f:=Hq a
 unfold G0
 simp only[j]
 by_cases hs:Cq τ.s (lk env d)
 ·have k:=(h.s d).1 hs
  have m:∃t,τ.s d=.d (.bool t):=by
   cases hl:lk env d with
   |nil=>
    rw[hl]at a
    simp only[Fb]at a
    grind
   |cons q o=>
    rw[hl]at a
    simp only[Fb]at a
    grind
  obtain⟨t,n⟩:=m
  rw[k,n]
  simp only[ren,Yg]
  cases g with
  |true=>
   have:=f.1 rfl (d,b) (YM ..)
   grind
  |false=>
   cases e:t==b with
   |false=>rfl
   |true=>
    exfalso
    have e:t=b:=by simpa using e
    have:Cq τ.s ((d,b)::lk env d):=fun q c=>by
     rcases YK.1 c with rfl|c
     ·grind
     ·exact hs q c
    grind
 ·rw[(h.s d).2 hs]
  simp only[Yg]
  cases g with
  |false=>rfl
  |true=>exact absurd (fun q c=>f.1 rfl q (YH _ c)) hs
theorem JN(F:RenOk r l outs)(A:AX P T){ops:Array Oper}{K:St→Bl→AT→Prop}{QQ:Exit→Act→World→Prop}(more:List Oper)
  (D:∀τ' k u G f w',K τ' k u→RG r l outs k τ' G→R l n B G f w'→wpList P ops QQ more f w'):
  ∀(c:List Oper) (env:Bl) (a:AT) (τ σ:St) (act:Act) (w:World),EI P T l n r (ops.toList.map (·.dst)) c env a K τ→RG r l outs env τ σ→R l n B σ act w→wpList P ops QQ (c++more) act w
 |[],env,a,τ,σ,act,w,h,p,x=>D _ _ _ _ _ _ h p x
 |o::c,env,a,τ,σ,act,w,h,p,x=>by
  unfold EI at h
  split at h
  ·rename_i E
   split at h
   ·rename_i V Z
    refine Vi (by simp[Region.wanted,E]) (ii (B:=B) F A p V Z h) x fun G f w' I q=>?_
    obtain⟨σ'',⟨τ',u,z,N⟩,O⟩:=I
    exact JN F A more D c _ _ _ _ _ _ z N (O _ _ q)
   grind
  ·rename_i i b E
   split at h
   case h_2=>exact h.elim
   rename_i d e W he
   split at h
   case h_2=>exact h.elim
   rename_i g t hx j C
   simp only[Yb]at j
   have C:=Yf C
   have J:=VN p W t
   have hy:(yielded ops act.tmps i==some b)=g:=by
    obtain⟨s,H⟩:=σ
    obtain⟨m,S,hO,L,X,Q,Y⟩:=x.un
    exact VM Q J
   cases g with
   |true=>
    have hs:=(Hq t).1 rfl
    refine Vi (by simp only[Region.wanted,E];exact hy) (σ:=σ) (B:=B) (l:=l) (n:=n) (KK:=Yl r e (fun v u=>EI P T l n r (ops.toList.map (·.dst)) c ((e,(d,b)::lk env d)::env) u K ⟨upd τ.s e v,τ.H⟩) σ) (Iw ?_) x fun G f w' U q=>?_
    ·obtain⟨M,op,ty,ps,af,gd⟩:=o
     simp only at he
     subst he
     exact W9 A p hs (fun b' e'=>by cases e';rfl) hx (by omega) h
    ·obtain⟨v,u,rfl,z⟩:=U
     exact JN F A more D c _ _ _ _ _ _ z (p.put j.1 j.2 (fun _=>rfl) (fun L=>absurd hs L)) q
   |false=>
    have hs:¬Cq τ.s ((d,b)::lk env d):=fun hs=>by have:=(Hq t).2 hs;cases this
    obtain⟨v,u,z⟩:=Rt h
    show wpList P ops QQ (o::(c++more)) act w
    unfold wpList
    rw[Yj (by simp only[Region.wanted,E,hy];decide),he]
    exact JN F A more D c _ _ _ _ _ _ z (p.put j.1 j.2 (y:=.tup []) (fun h=>absurd h hs) (fun _=>rfl)) (R.undef x (by omega))
theorem JQ(L:RenOk r l outs)(B:AX P T){ds:List (Option Nat)}{K:St→Bl→AT→Prop}:
  ∀(rest:List Oper) (env:Bl) (a:AT) (τ σ:St),rest.all (fun o=>Ct o||BB o)=true→FI P T l n r ds rest env a K τ→RG r l outs env τ σ→Df P l n ds rest (fun Z=>∃τ' z f,K τ' z f∧RG r l outs z τ' Z) σ
 |[],env,a,τ,σ,_,h,u=>⟨_,_,_,h,u⟩
 |o::rest,env,a,τ,σ,w,h,u=>by
  simp only[Hf,Yb]at w
  unfold FI at h
  unfold Df
  split at h
  ·rename_i G
   simp only[G]
   split at h
   case h_2=>exact h.elim
   rename_i I hf
   by_cases H:BB o=true
   ·obtain⟨j,op,ty,ps,af,gd⟩:=o
    cases op<;>simp only[BB]at H<;>first|(cases H;done)|skip
    rename_i t p x
    cases j with
    |some d=>cases H
    |none=>
     unfold To at h
     simp only at h
     unfold GA IL HH IW at h
     simp only at h I
     split at h
     case h_2=>exact h.elim
     rename_i i hi U
     have A:∀y∈(Op.store t p x).operands,ev σ.s y=ren r (ev τ.s y):=by
      unfold BV at I
      exact E0 u AU I
     have W:=A x (by simp[Op.operands])
     have V:=A p (by simp[Op.operands])
     cases X:Cs (ev τ.s x)with
     |none=>rw[X]at h;unfold MG at h;split at h<;>first|exact h.elim|(rename_i e;cases e)
     |some vs=>
      rw[X]at h
      have Y:=Mk (r:=r) X (Mx U)
      obtain⟨k,g,off,M,e2,e3,e4,e5,e6,e7,e8⟩:=fZ L u (B _ _ hi) h
      obtain⟨τ',f,m,h2⟩:=e8
      simp only[EE,Bg,V,W,Y,M]
      exact⟨e2,e3,e4,e5,e6,e7,JQ L B rest _ _ _ _ w.2 m h2⟩
   have J:Ct o=true:=by
    grind
   replace w:Ct o=true∧_:=⟨J,w.2⟩
   obtain⟨j,op,ty,ps,af,gd⟩:=o
   have E:∃d,j=some d:=by
    have:=w.1
    unfold Ct BU at this
    rw[Yt,Yb,Yb]at this
    rcases this with h|h
    ·exact Y0.1 h.1
    ·exact Y0.1 h.1
   obtain⟨d,rfl⟩:=E
   simp only at I hf G
   have hp:pV P T l r τ op none a (D9 n d (fun τ' f=>FI P T l n r ds rest (D7 env (some d)) f K τ') τ):=by
    by_cases C:∃t len p,op=.buildSlice t (len+1) p
    ·obtain⟨t,len,p,rfl⟩:=C
     exact h
    ·have c:BU ⟨some d,op,ty,ps,af,gd⟩=true:=Wh w.1 fun t len p e=>C ⟨t,len,p,e⟩
     have h:GA P T l n r ⟨some d,op,ty,ps,af,gd⟩ a (fun τ' f=>FI P T l n r ds rest (D7 env (some d)) f K τ') τ:=by
      unfold To at h
      split at h
      ·rename_i M _;exact absurd ⟨_,_,_,M⟩ C
      ·exact h
     have h:=nv c (yf c h)
     unfold HH at h
     simp only at h
     have h:IW P T l n r ⟨some d,op,ty,ps,af,none⟩ a (fun τ' f=>FI P T l n r ds rest (D7 env (some d)) f K τ') τ:=by
      subst G
      split at h
      ·split at h
       ·rename_i q;simp[BU,q]at c
       ·grind
       ·exact h
      ·exact h
     unfold IW at h
     simp only at h
     split at h
     ·simp[BU]at c
     ·simp[BU]at c
     ·grind
     ·simp[BU]at c
     ·simp[BU]at c
     ·split at h
      ·rename_i q;simp[BU,q]at c
      ·exact h
     ·exact h
   have Q:∃v f,D9 n d (fun τ' f=>FI P T l n r ds rest (D7 env (some d)) f K τ') τ v f:=Rt hp
   have O:d<n:=by
    obtain⟨v,f,m⟩:=Q
    unfold D9 at m
    split at m
    ·rename_i E;have E:=Yf E;exact E
    grind
   have:=kJ (ty:=ty) (ps:=ps) (af:=af) (gd:=gd) B u AU (fun b e=>by cases e) I O hp
   refine P7 (fun Z N=>?_) this
   obtain⟨v,f,rfl,m⟩:=N
   unfold D9 at m
   split at m
   ·exact JQ L B rest _ _ _ _ w.2 m (u.put0 hf rfl)
   grind
  ·rename_i i b G
   have J:Ct o=true:=by
    have:=w.1
    rw[Yt]at this
    rcases this with h|h
    ·exact h
    ·exfalso
     obtain⟨j,op,ty,ps,af,gd⟩:=o
     simp only at G
     subst G
     cases op<;>cases j<;>simp[BB]at h
   simp only[G]
   split at h
   case h_2=>exact h.elim
   rename_i d e E he
   split at h
   case h_2=>exact h.elim
   rename_i g D W s F
   simp only[Yb]at s
   have F:=Yf F
   rw[VN u E D]
   refine⟨fun S=>?_,fun R=>?_⟩
   ·subst S
    have hs:=(Hq D).1 rfl
    obtain⟨j,op,ty,ps,af,gd⟩:=o
    simp only at he
    subst he
    refine P7 (fun Z N=>?_) (kJ (ty:=ty) (ps:=ps) (af:=af) (gd:=gd) B u hs (fun b' e'=>by cases e';rfl) W (by omega) h)
    obtain⟨v,f,rfl,m⟩:=N
    exact JQ L B rest _ _ _ _ w.2 m (u.put s.1 s.2 (fun _=>rfl) (fun hn=>absurd hs hn))
   ·subst R
    have hs:¬Cq τ.s ((d,b)::lk env d):=fun hs=>by have:=(Hq D).2 hs;cases this
    obtain⟨v,f,m⟩:=Rt h
    rw[he]
    exact⟨F,JQ L B rest _ _ _ _ w.2 m (u.put s.1 s.2 (y:=.tup []) (fun h=>absurd h hs) (fun _=>rfl))⟩
end
def AJ:List (Nat×AV)→Nat→AV
 |[],_=>.top
 |(i,x)::r,j=>match Nat.beq i j with|true=>x|false=>AJ r j
def Ea:Blk:=⟨0,false,0,0,[]⟩
def As:List (Ab×Blk)→Ab→Blk
 |[],_=>Ea
 |(k,b)::r,q=>match Bi k q with|true=>b|false=>As r q
def Aa(ss:List (Nat×AV))(hs:List (Ab×Blk)):St:=⟨AJ ss,As hs⟩
mutual
def Dy(H:Hp):AV→Option AV
 |.ref k g off n=>match Bv H k g with|true=>some (.ref k 0 off n)|false=>none
 |.ptr k g off=>match Bv H k g with|true=>some (.ptr k 0 off)|false=>none
 |.mp k g=>match Bv H k g with|true=>some (.mp k 0)|false=>none
 |.fn f xs ys=>match GC H xs,GC H ys with|some xs,some ys=>some (.fn f xs ys)|_,_=>none
 |.agg xs=>match GC H xs with|some xs=>some (.agg xs)|none=>none
 |.tup xs=>match GC H xs with|some xs=>some (.tup xs)|none=>none
 |.top=>some .top
 |.d x=>some (.d x)
 |.e0=>some .e0
 |.p x=>some (.p x)
 |.iptr cs off=>some (.iptr cs off)
 |.ifc t ds a=>some (.ifc t ds a)
def GC(H:Hp):List AV→Option (List AV)
 |[]=>some []
 |x::xs=>match Dy H x,GC H xs with|some x,some xs=>some (x::xs)|_,_=>none
end
def Zl(H:Hp)(x:AV):AV:=match Dy H x with|some v=>v|none=>.top
def JV(H:Hp)(s:Nat→AV):List Nat→List (Nat×AV)
 |[]=>[]
 |j::r=>(j,Zl H (s j))::JV H s r
def Gv(cs:List AV):Prop:=∀x∈cs,x.flat=true
def J7(H:Hp):List (Ab×Bool)→(List (Ab×Blk)→Prop)→Prop
 |[],K=>K []
 |(k,fl)::r,K=>match (H k).live with
  |false=>J7 H r K
  |true=>match fl with
   |true=>Gv (H k).cells∧J7 H r (fun a=>K ((k,⟨0,true,(H k).e,(H k).sz,(H k).cells⟩)::a))
   |false=>match GC H (H k).cells with
    |some cs=>J7 H r (fun a=>K ((k,⟨0,true,(H k).e,(H k).sz,cs⟩)::a))
    |none=>False
def O0:AV→Bool
 |.e0=>true
 |_=>false
def MJ:List (Nat×Nat×TypeId×Nat)→St→(St→Prop)→Prop
 |[],τ,K=>K τ
 |(j,d,e,sz)::r,τ,K=>match O0 (τ.s j),(τ.H (1,d)).live with
  |true,false=>MJ r ⟨upd τ.s j (.ref (1,d) ((τ.H (1,d)).g+1) 0 0),updH τ.H (1,d) ⟨(τ.H (1,d)).g+1,true,e,sz,[]⟩⟩ K
  |true,true=>False
  |false,_=>MJ r τ K
structure Lf where
 ls:List Nat
 ks:List (Ab×Bool):=[]
 ad:List (Nat×Nat×TypeId×Nat):=[]
 ze:List Nat:=[]
def Lc:List Nat→St→St
 |[],τ=>τ
 |j::r,τ=>match O0 (τ.s j)with|true=>Lc r ⟨upd τ.s j (.d (.list [])),τ.H⟩|false=>Lc r τ
def gz(H:Hp):List Nat→Bool
 |[]=>true
 |i::r=>Nat.beq (H (0,i)).g 0&&gz H r
def Dp(fx:List Nat)(f:Lf)(τ:St)(Φ:St→Prop):Prop:=MJ f.ad (Lc f.ze τ) (fun τ=>match gz τ.H fx with|true=>J7 τ.H f.ks (fun hs=>Φ (Aa (JV τ.H τ.s f.ls) hs))|false=>False)
structure Cx where
 l:Nat
 B:Base
 κ:Ab→Ab
 θ:Nat→AV
 H0:Hp
 outs:Nat
 no:Ab→Prop
 fx:List Nat
 G:(Ab→Nat)→Prop
def Cx.r(C:Cx)(γ:Ab→Nat):Ren:=⟨C.κ,γ,C.θ,C.H0,C.no⟩
structure CxOk (C:Cx):Prop where
 own:∀d,C.κ (1,d)=(C.l+1,d)
 out:∀i,i<C.outs→(C.κ (0,i)).1≤C.l
 inj:∀i j,i<C.outs→j<C.outs→C.κ (0,i)=C.κ (0,j)→i=j
 no:∀k,C.no k→∃i,i<C.outs∧C.κ (0,i)=k
 G:∀γ γ':Ab→Nat,(∀i∈C.fx,γ' (0,i)=γ (0,i))→C.G γ→C.G γ'
theorem CxOk.ren{C:Cx}(h:CxOk C)(γ:Ab→Nat):RenOk (C.r γ) C.l C.outs:=⟨h.own,h.out,h.inj,h.no⟩
def Wk(n:Nat)(C:Cx)(σ b:St):Prop:=∀a w,R C.l n C.B σ a w→R C.l n C.B b a w
def Is(n:Nat)(C:Cx)(Φ:St→Prop)(σ:St):Prop:=∃γ τ a,C.G γ∧Φ τ∧RG (C.r γ) C.l C.outs [] τ a∧Wk n C σ a
def LW(P:Program)(n:Nat)(C:Cx)(c:Code)(τ:St)(Q:Exit→St→Prop):Prop:=
 ∀γ σ,C.G γ→RG (C.r γ) C.l C.outs [] τ σ→Bn P C.l n C.B c (fun e a=>Is n C (Q e) a) σ
def RA(P:Program)(l n:Nat)(B:Base)(c:Code)(Q:Exit→St→Prop)(σ:St):Prop:=
 ∀a w,R l n B σ a w→∀(b:Frame) (k:List Item) (cs:List Frame),∃e d w',(∃f,Q e f∧R l n B f d w')∧Arrives P (lone (b.at a (.code c::.inLoop c::k)) cs w) b k cs e d w'
def LL(P:Program)(n:Nat)(C:Cx)(c:Code)(τ:St)(Q:Exit→St→Prop):Prop:=
 ∀γ σ,C.G γ→RG (C.r γ) C.l C.outs [] τ σ→RA P C.l n C.B c (fun e a=>Is n C (Q e) a) σ
def C5(env:Bl)(τ:St):St:=⟨fun j=>match lk env j with|[]=>τ.s j|_=>.top,τ.H⟩
def F3(C:List AV)(off n sz:Nat)(es:List (List D)):Prop:=es.length=n∧sz≠0∧(∀e∈es,e.length=sz)∧(off+n)*sz≤C.length∧(C.drop (off*sz)).take (n*sz)=es.flatten.map .d
def RW(H:Hp)(d:Nat)(s:Nat→AV)(A:Prop):List (Nat×List (List D))→Prop
 |[]=>A
 |(j,a)::r=>match s j with
  |.ref k q off m=>(match Bi k (1,d),Bv H k q with|true,true=>F3 (H (1,d)).cells off m (H (1,d)).sz a∧RW H d s A r|_,_=>False)
  |_=>False
def RS(H:Hp)(d:Nat)(A:Prop):List (Ab×Nat×List (List D))→Prop
 |[]=>A
 |(k,i,a)::r=>match Nat.beq k.1 1,Bi k (1,d),(H k).live,A6 (H k).cells i with
  |true,false,true,some (.ref k' q off m)=>(match Bi k' (1,d),Bv H k' q with|true,true=>F3 (H (1,d)).cells off m (H (1,d)).sz a∧RS H d A r|_,_=>False)
  |_,_,_,_=>False
def mY(r:Ren)(k:Ab)(A:Prop):Prop:=
 match Nat.beq k.1 1 with
 |true=>A
 |false=>Jn r k∧A
def RY(H:Hp)(d:Nat)(s:Nat→AV):List Nat→Bool
 |[]=>true
 |j::r=>match s j with
  |.mp k g=>Bi k (1,d)&&Bv H k g&&RY H d s r
  |_=>false
def RZ(H:Hp)(d:Nat)(s:Nat→AV):List Nat→Bool
 |[]=>true
 |j::r=>match s j with
  |.ptr k g 0=>Bi k (1,d)&&Bv H k g&&RZ H d s r
  |_=>false
def AW(r:Ren)(os:Nat):AT→St→(St→AT→Prop)→Prop
 |.frz d f cs b,τ,K=>match (τ.H (1,d)).live,Nat.ble 1 (τ.H (1,d)).sz with
  |true,true=>RW τ.H d τ.s (RS τ.H d (AW r os b ⟨HW f τ.s,GH cs (updH τ.H (1,d) ⟨(τ.H (1,d)).g,false,(τ.H (1,d)).e,(τ.H (1,d)).sz,(τ.H (1,d)).cells⟩)⟩ K) cs) f
  |_,_=>False
 |.adc k i d e sz b,τ,K=>match Nat.beq k.1 1,Bi k (1,d),(τ.H k).live,A6 (τ.H k).cells i with
  |true,false,true,some .e0=>AW r os b ⟨τ.s,updH (updH τ.H (1,d) ⟨(τ.H (1,d)).g+1,true,e,sz,[]⟩) k ⟨(τ.H k).g,true,(τ.H k).e,(τ.H k).sz,(τ.H k).cells.set i (.ref (1,d) ((τ.H (1,d)).g+1) 0 0)⟩⟩ K
  |_,_,_,_=>False
 |.sep b,τ,K=>K τ b
 |.ads j d e sz b,τ,K=>match O0 (τ.s j)with
  |true=>AW r os b ⟨upd τ.s j (.ref (1,d) ((τ.H (1,d)).g+1) 0 0),updH τ.H (1,d) ⟨(τ.H (1,d)).g+1,true,e,sz,[]⟩⟩ K
  |false=>False
 |.trim k c b,τ,K=>match (τ.H k).live with
  |true=>(∃m,(τ.H k).cells.take m=c)∧mY r k (AW r os b ⟨τ.s,updH τ.H k ⟨(τ.H k).g,true,(τ.H k).e,(τ.H k).sz,c⟩⟩ K)
  |false=>False
 |.reb j d m c b,τ,K=>match τ.s j with
  |.ref k q off n=>(match Bi k (1,d),Bv τ.H k q with
   |true,true=>(n=m∧off*(τ.H k).sz≤(τ.H k).cells.length∧(τ.H k).cells.drop (off*(τ.H k).sz)=c)∧AW r os b ⟨upd τ.s j (.ref k (q+1) 0 m),updH τ.H k ⟨q+1,true,.t (τ.H k).e.ty,(τ.H k).sz,c⟩⟩ K
   |_,_=>False)
  |_=>False
 |.mv d j b,τ,K=>match (τ.H (1,d)).live with
  |true=>Ew (τ.H (1,d)).cells∧(j<os∧r.no (r.κ (0,j)))∧AW r os b ⟨fun i=>Ef (1,d) (0,j) (τ.H (1,d)).g ((τ.H (0,j)).g+1) (τ.s i),
    updH (updH τ.H (1,d) ⟨(τ.H (1,d)).g,false,(τ.H (1,d)).e,(τ.H (1,d)).sz,(τ.H (1,d)).cells⟩) (0,j) ⟨(τ.H (0,j)).g+1,true,(τ.H (1,d)).e,(τ.H (1,d)).sz,(τ.H (1,d)).cells⟩⟩ K
  |false=>False
 |.fzm d f b,τ,K=>match (τ.H (1,d)).live,(τ.H (1,d)).e,RY τ.H d τ.s f with
  |true,.m q h,true=>AW r os b ⟨DP (.d (.map q h)) f τ.s,updH τ.H (1,d) ⟨(τ.H (1,d)).g,false,(τ.H (1,d)).e,(τ.H (1,d)).sz,(τ.H (1,d)).cells⟩⟩ K
  |_,_,_=>False
 |.fzb d f b,τ,K=>match (τ.H (1,d)).live,KD (τ.H (1,d)).cells,RZ τ.H d τ.s f with
  |true,some (x::ds),true=>AW r os b ⟨DP (.iptr (x::ds) 0) f τ.s,updH τ.H (1,d) ⟨(τ.H (1,d)).g,false,(τ.H (1,d)).e,(τ.H (1,d)).sz,(τ.H (1,d)).cells⟩⟩ K
  |_,_,_=>False
 |.rnm d d' e i b,τ,K=>match (τ.H (1,d)).live,Nat.beq d d',Nat.beq e d,Nat.beq e d',(τ.H (1,e)).live,A6 (τ.H (1,e)).cells i with
  |true,false,false,false,true,some (.ref k g off c)=>(match Bi k (1,d),Nat.beq g (τ.H (1,d)).g with
   |true,true=>Ew (τ.H (1,d)).cells∧AW r os b ⟨fun j=>Ef (1,d) (1,d') (τ.H (1,d)).g ((τ.H (1,d')).g+1) (τ.s j),
     updH (updH (updH τ.H (1,d) ⟨(τ.H (1,d)).g,false,(τ.H (1,d)).e,(τ.H (1,d)).sz,(τ.H (1,d)).cells⟩) (1,d') ⟨(τ.H (1,d')).g+1,true,(τ.H (1,d)).e,(τ.H (1,d)).sz,(τ.H (1,d)).cells⟩)
      (1,e) ⟨(τ.H (1,e)).g,true,(τ.H (1,e)).e,(τ.H (1,e)).sz,(τ.H (1,e)).cells.set i (.ref (1,d') ((τ.H (1,d')).g+1) off c)⟩⟩ K
   |_,_=>False)
  |_,_,_,_,_,_=>False
 |.mvc d q e i b,τ,K=>match (τ.H (1,d)).live,Nat.beq e d,(τ.H (1,e)).live,A6 (τ.H (1,e)).cells i with
  |true,false,true,some (.ref k g off c)=>(match Bi k (1,d),Nat.beq g (τ.H (1,d)).g with
   |true,true=>Ew (τ.H (1,d)).cells∧(q<os∧r.no (r.κ (0,q)))∧AW r os b ⟨fun j=>Ef (1,d) (0,q) (τ.H (1,d)).g ((τ.H (0,q)).g+1) (τ.s j),
     updH (updH (updH τ.H (1,d) ⟨(τ.H (1,d)).g,false,(τ.H (1,d)).e,(τ.H (1,d)).sz,(τ.H (1,d)).cells⟩) (0,q) ⟨(τ.H (0,q)).g+1,true,(τ.H (1,d)).e,(τ.H (1,d)).sz,(τ.H (1,d)).cells⟩)
      (1,e) ⟨(τ.H (1,e)).g,true,(τ.H (1,e)).e,(τ.H (1,e)).sz,(τ.H (1,e)).cells.set i (.ref (0,q) ((τ.H (0,q)).g+1) off c)⟩⟩ K
   |_,_=>False)
  |_,_,_,_=>False
 |a,τ,K=>K τ a
def Cd(P:Program)(T:Nat→Option TI)(l n os:Nat)(r:Ren):Code→AT→St→(Exit→St→AT→Prop)→Prop
 |.skip,a,τ,K=>K .normal τ a
 |.ret,a,τ,K=>AW r os a τ (fun τ a=>K .ret τ a)
 |.exit id,a,τ,K=>K (.exit id) τ a
 |.seq x y,a,τ,K=>Cd P T l n os r x a τ (fun e τ' d=>match e with|.normal=>Cd P T l n os r y d τ' K|e=>K e τ' d)
 |.block id c,a,τ,K=>Cd P T l n os r c a τ (fun e τ' d=>match e with|.exit i=>(match Nat.beq i id with|true=>K .normal τ' d|false=>K (.exit i) τ' d)|e=>K e τ' d)
 |.cond c x y,a,τ,K=>match ev τ.s c,a with
  |.d (.bool b),.br a1 g=>(b=true→Cd P T l n os r x a1 τ K)∧(b=false→Cd P T l n os r y g τ K)
  |.d (.bool b),.go a=>(match b with|true=>Cd P T l n os r x a τ K|false=>Cd P T l n os r y a τ K)
  |.d (.bool b),.one v a=>(match v with|true=>(b=true→Cd P T l n os r x a τ K)∧(b=false→False)|false=>(b=true→False)∧(b=false→Cd P T l n os r y a τ K))
  |_,_=>False
 |.region _ ops f,a,τ,K=>match f with
  |false=>AW r os a τ (fun τ a=>EI P T l n r (ops.toList.map (·.dst)) ops.toList [] a (fun τ' env d=>K .normal (C5 env τ') d) τ)
  |true=>match Rq ops.toList&&ops.toList.all (fun o=>Ct o||BB o)&&Jb ops.toList 0 ops.toList with
   |true=>AW r os a τ (fun τ a=>FI P T l n r (ops.toList.map (·.dst)) ops.toList [] a (fun τ' env d=>K .normal (C5 env τ') d) τ)
   |false=>False
 |_,_,_,_=>False
mutual
def frz(H:Hp):AV→AT→(AV→AT→Prop)→Prop
 |.d x,a,K=>K (.d x) a
 |.e0,a,K=>K (.d (.list [])) a
 |.ifc t ds q,a,K=>K (.ifc t ds q) a
 |.agg xs,a,K=>HG H xs a (fun ys c=>K (.agg ys) c)
 |.ref k g off n,a,K=>match Nat.beq k.1 0,Nat.beq k.1 1,Bv H k g with
  |true,_,true=>K (.ref k g off n) a
  |false,true,true=>(match a with|.av (.d (.list b)) c=>F3 (H k).cells off n (H k).sz b∧K (.d (.list b)) c|_=>False)
  |_,_,_=>False
 |.mp k g,a,K=>match Nat.beq k.1 0,Nat.beq k.1 1,Bv H k g,(H k).e with
  |true,_,true,_=>K (.mp k g) a
  |false,true,true,.m q b=>K (.d (.map q b)) a
  |_,_,_,_=>False
 |_,_,_=>False
def HG(H:Hp):List AV→AT→(List AV→AT→Prop)→Prop
 |[],a,K=>K [] a
 |x::xs,a,K=>frz H x a (fun y c=>HG H xs c (fun ys b=>K (y::ys) b))
end
def Zd(T:Nat→Option TI)(τ:St):ResultVar→(AV→Prop)→Prop
 |.tmp t,K=>K (τ.s t)
 |.cell p t,K=>match τ.s p,T t with
  |.ptr k g off,some i=>(match Bv τ.H k g,i.agg with
   |true,true=>(match Nat.ble 1 i.siz,Hx i.siz ((τ.H k).cells.drop off)with|true,some c=>K (.agg c)|_,_=>False)
   |true,false=>(match A6 (τ.H k).cells off with|some c=>K c|none=>False)
   |false,_=>False)
  |_,_=>False
def TY(T:Nat→Option TI)(τ:St):List ResultVar→(List AV→Prop)→Prop
 |[],K=>K []
 |v::vs,K=>Zd T τ v (fun x=>TY T τ vs (fun xs=>K (x::xs)))
def HB(H:Hp):Nat→Nat→List Blk
 |0,_=>[]
 |n+1,i=>H (0,i)::HB H n (i+1)
def Nl(T:Nat→Option TI)(c:List ResultVar)(os:Nat)(τ:St)(a:AT)(b:AV→List Blk→Prop):Prop:=
 TY T τ c (fun xs=>HG τ.H xs a (fun ys _=>b (C9 ys) (HB τ.H os 0)))
def FQ(T:Nat→Option TI)(c:List ResultVar)(os:Nat)(b:AV→List Blk→Prop)(e:Exit)(τ:St):Prop:=(e=.normal∨e=.ret)∧∃a,Nl T c os τ a b
end Go.Eng
