import Derived.Test.YthgmbpciandpiaaGreatLx04
import Derived.Test.YthgmbpciandpiaaGreatLx01
import Derived.Maps.RangeRun
import Derived.Test.YthgmbpciandpiaaGreatLx00
namespace Go.Eng
set_option linter.all false
open Go Go.RowKit
section
variable {P:Program} {T:Nat→Option TI} {r:Ren} {H H':Hp} {g:Option Bool} {a:AT} {K:AV→AT→Prop}
def KR(r:Ren)(K:AV→AT→Prop)(y:AV):Prop:=∃v a,y=ren r v∧K v a
theorem KR.mk{v:AV}{a:AT}(h:K v a):KR r K (ren r v):=⟨v,a,rfl,h⟩
theorem KR.mk'{v y:AV}{a:AT}(h:K v a)(e:y=ren r v):KR r K y:=⟨v,a,e,h⟩
theorem pI{t:TypeId}{i:TI}(hi:TIok P t i)(h:(i.str||i.elm.isSome)=true):Jf P t=true:=by
 rw[YF]at h
 unfold Jf
 rcases h with h|h
 ·have:=hi.str h
  unfold Lm at this
  split at this
  ·rename_i a _;rw[a]
  ·cases this
 ·obtain⟨e,he⟩:=F6.1 h
  obtain⟨b,c⟩:=e
  have:=(Fc (hi.elm _ he)).1
  rw[this]
theorem fN{t:TypeId}{i:TI}(hi:TIok P t i)(w:DM r H H')(hg:∀b,g=some b→b=true){x:AV}(h:MM i H x g a K):EI P H' t (ren r x) (KR r K):=by
 unfold MM at h
 cases x<;>simp only at h<;>try exact h.elim
 case iptr cs off=>
  simp only[ren,EI,hi.agg,hi.siz]
  split at h
  ·rename_i he
   rw[he]
   split at h
   ·rename_i c d f
    obtain⟨m,n⟩:=gY _ _ _ f
    have d:=Yh d
    rw[YP]at n
    exact⟨by omega,by omega,.mk' h (by rw[m,ren,HF])⟩
   grind
  ·rename_i he
   rw[he]
   rw[Ct]at h
   simp only
   split at h
   ·rename_i c o;simp only[o];exact .mk' h rfl
   grind
 case ptr k q off=>
  simp only[ren,EI,hi.agg,hi.siz]
  split at h
  ·rename_i hl
   obtain⟨p,s,y,z,u⟩:=w.at hl
   refine⟨p,s,?_⟩
   rw[u]
   split at h
   ·split at h
    ·rename_i he
     rw[he]
     split at h
     ·rename_i c d f
      obtain⟨m,n⟩:=gY _ _ _ f
      have d:=Yh d
      rw[YP]at n
      exact⟨by omega,by rw[CN];omega,.mk' h (by rw[ren,E0,Fy,m])⟩
     grind
    ·rename_i he
     rw[he]
     rw[Ct]at h
     split at h
     ·rename_i c o;simp only[HA,o,YZ];exact .mk' h rfl
     grind
   ·split at h
    ·rename_i he
     rw[he]
     split at h
     ·rename_i c A d f
      have d:=Yh d
      have f:=Yb f
      have j:Gc _ _ _:=BD hg h.1
      unfold Gc at j
      rw[f]at j
      have v:=congrArg List.length j
      rw[Yy,YP]at v
      exact⟨by omega,by rw[CN];omega,.mk' h.2 (by rw[ren,E0,Fy,j])⟩
     grind
    ·rename_i he
     rw[he]
     split at h
     ·rename_i x
      have j:Gc _ _ _:=BD hg h.1
      unfold Gc at j
      have e:(H k).cells[off]?=some x:=by
       have:=congrArg (fun l=>l[0]?) j
       grind
      simp only[HA,e,YZ]
      exact .mk' h.2 rfl
     grind
   grind
  ·grind
theorem MD{t:TypeId}{i:TI}(hi:TIok P t i){f:Nat}{x:Nat×Nat×Bool}(h:Bw i.fld f=some x):fld P t f=some (x.1,x.2.1)∧LV P t f=some x:=by
 rw[Ct]at h;exact hi.fld f x h
theorem Zg5{t:TypeId}{i:TI}(hi:TIok P t i)(j:DM r H H'){f:Nat}{x:AV}(h:TG i H f x a K):E2 P H' t f (ren r x) (KR r K):=by
 unfold TG at h
 split at h
 ·rename_i o n b k
  have e:=(MD hi k).1
  split at h
  ·rename_i c
   have c:=Yh c
   unfold E2
   rw[e]
   split at h
   ·simp only[ren];exact⟨by omega,.mk' h rfl⟩
   ·split at h
    ·rename_i hl
     obtain⟨d,g,_⟩:=j.at hl
     simp only[ren];exact⟨by omega,d,g,.mk' h rfl⟩
    grind
   grind
  grind
 grind
theorem Zlu{t:TypeId}{i:TI}(hi:TIok P t i){f:Nat}{x:AV}(h:Vd i f x a K):Fe P t f (ren r x) (KR r K):=by
 unfold Vd at h
 rw[ZtN]
 split at h
 ·rename_i o n cs b
  rw[(MD hi b).2]
  split at h
  ·rename_i d
   have d:=Yh d
   simp only[ren,N2]
   exact⟨by omega,.mk' h (by rw[ren,E0,Fy])⟩
  grind
 ·rename_i o n cs b
  rw[(MD hi b).2]
  rw[Ct]at h
  split at h
  ·rename_i c e
   simp only[ren,N2,HA,e,YZ]
   exact .mk' h rfl
  grind
 grind
theorem Zg2{t:TypeId}{i:TI}(hi:TIok P t i)(v:DM r H H')(hg:∀b,g=some b→b=true){x j:AV}(h:TL i H x j g a K):EB P H' t (ren r x) (ren r j) (KR r K):=by
 unfold TL at h
 split at h
 ·rename_i e sz k n he
  have he:=hi.elm _ he
  split at h
  ·rename_i es e' q
   split at h
   ·rename_i c d
    have c:=Yb c
    have d:=Yh d
    obtain⟨f,l⟩:Iw _ _ _:=BD hg h.1
    simp only[ren,EB,he]
    refine⟨f,?_⟩
    rw[l]
    exact⟨c,by omega,.mk' h.2 rfl⟩
   grind
  ·rename_i k q off len o z
   split at h
   ·rename_i hl c d
    have c:=Yb c
    have d:=Yh d
    obtain⟨m,p,w,s,y⟩:=v.at hl
    obtain⟨f,l,u⟩:LC _ _ _ _ _:=BD hg h.1
    simp only[ren,EB,he]
    exact⟨f,l,m,p,by rw[s,c],by omega,.mk' h.2 (by rw[ren,u])⟩
   grind
  grind
 grind
theorem Zlq{t:TypeId}{i:TI}(hi:TIok P t i)(hg:∀b,g=some b→b=true){x j:AV}(h:VH i x j g a K):FC P t (ren r x) (ren r j) (KR r K):=by
 unfold VH at h
 split at h
 ·rename_i s k n b q
  split at h
  ·rename_i d
   have d:=Yb d
   obtain⟨e,c,f,l⟩:II _ _ _:=BD hg h.1
   simp only[ren,FC]
   refine⟨by rw[hi.kin];exact d,e,?_⟩
   rw[f]
   exact .mk' h.2 (by rw[ren,l])
  grind
 grind
theorem Zqf{op:BinOp}{k:IntKind}{x y:Int}(hg:∀b,g=some b→b=true)(h:Sy op k x y g a K):Gn op k x y (KR r K):=by
 unfold Sy at h
 cases op<;>simp only at h<;>try exact h.elim
 all_goals simp only[Gn]
 case eql=>exact .mk' h rfl
 case neq=>exact .mk' h rfl
 case lss=>exact .mk' h rfl
 case leq=>exact .mk' h rfl
 case gtr=>exact .mk' h rfl
 case geq=>exact .mk' h rfl
 case add|sub|mul=>
  split at h
  ·have e:CJ _ _ _:=BD hg h.1
   unfold CJ at e
   rw[e];exact .mk' h.2 rfl
  ·grind
 case and|or|xor=>
  split at h
  ·have e:BN _ _:=BD hg h.1
   unfold BN at e
   rw[e];exact .mk' h.2 rfl
  ·grind
 case quo=>
  split at h
  ·have e:CJ _ _ _:=BD hg h.2.1
   unfold CJ at e
   rw[e];exact⟨BD hg h.1,.mk' h.2.2 rfl⟩
  ·grind
 case rem=>
  split at h
  ·have e:BN _ _:=BD hg h.2.1
   unfold BN at e
   rw[e];exact⟨BD hg h.1,.mk' h.2.2 rfl⟩
  ·grind
 case shr=>
  split at h
  ·have e:BN _ _:=BD hg h.2.1
   unfold BN at e
   rw[e];exact⟨BD hg h.1,.mk' h.2.2 rfl⟩
  ·grind
 case shl=>
  split at h
  ·have e:CJ _ _ _:=BD hg h.2.1
   unfold CJ at e
   rw[e];exact⟨BD hg h.1,.mk' h.2.2 rfl⟩
  ·grind
theorem Zqs{op:BinOp}{x y:ByteArray}(hg:∀b,g=some b→b=true)(h:R0 op x y g a K):Gp op x y (KR r K):=by
 unfold R0 at h
 cases op<;>simp only at h<;>try exact h.elim
 all_goals simp only[Gp]
 case add=>exact⟨BD hg h.1,.mk' h.2 rfl⟩
 all_goals exact .mk' h rfl
theorem Zi0{neg:Bool}{x:AV}(g:DM r H H')(h:LM H neg x a K):D4 H' neg (ren r x) (KR r K):=by
 unfold LM at h
 split at h
 ·simp only[ren,D4];exact fun b=>.mk' (h b) rfl
 ·rename_i es
  cases es with
  |nil=>simp only[ren,D4];exact fun b=>.mk' (h b (fun e=>absurd rfl e)) rfl
  |cons e es=>simp only[ren,D4];exact .mk' (h neg (fun _=>rfl)) rfl
 ·rename_i k q off n
  split at h
  ·rename_i hl
   obtain⟨d,f,_⟩:=g.at hl
   simp only[ren,D4]
   exact⟨⟨d,f⟩,fun c=>.mk' (h neg (fun _=>rfl)) rfl,fun c b=>.mk' (h b (fun e=>absurd c e)) rfl⟩
  grind
 grind
theorem ZlB:∀(ks:List Nat) (xs ys:List AV) (b:Bool),EJ ks xs ys=some b→EJ ks (Aq r xs) (Aq r ys)=some b
 |[],[],[],b,h=>by simpa[Aq]using h
 |k::ks,x::xs,y::ys,b,h=>by
  cases x<;>cases y<;>simp only[EJ]at h<;>try (cases h;done)
  rename_i x y
  simp only[Aq,ren,EJ]
  split at h
  ·rename_i d e a c
   simp only[a,ZlB ks xs ys _ c]
   exact h
  ·cases h
 |[],[],_::_,b,h=>by simp[EJ]at h
 |[],_::_,_,b,h=>by simp[EJ]at h
 |_::_,[],_,b,h=>by simp[EJ]at h
 |_::_,x::_,[],b,h=>by cases x<;>simp[EJ]at h
theorem ZLw{H:Hp}{op:BinOp}{t:TypeId}{a:Bool}{x:AV}{K:AV→Prop}:CR P H op t a x .e0 K=(a=true∧kin P t=4∧match op with|.eql=>D4 H false x K|.neq=>D4 H true x K|_=>False):=by
 unfold CR
 grind
theorem Zqy{t:TypeId}{i:TI}(hi:TIok P t i)(e:DM r H H')(hg:∀b,g=some b→b=true){op:BinOp}{f:Bool}{x y:AV}(h:R9 i H op f x y g a K):CR P H' op t f (ren r x) (ren r y) (KR r K):=by
 unfold R9 at h
 split at h
 ·split at h
  ·rename_i c
   simp only[ren,CR]
   exact⟨ZQa c,Zqf hg h⟩
  grind
 ·simp only[ren,CR];exact Zqs hg h
 ·split at h
  ·rename_i c
   simp only[ren,CR]
   refine⟨by rw[hi.kin];exact Yb c,?_⟩
   split at h
   ·exact .mk' h rfl
   ·exact .mk' h rfl
   grind
  grind
 ·rename_i xs ys
  split at h
  ·rename_i ks d
   split at h
   ·rename_i b k
    simp only[ren,CR,GW,hi.eqt _ d,ZlB _ _ _ _ k]
    split at h
    ·exact .mk' h rfl
    ·exact .mk' h rfl
    grind
   grind
  grind
 ·rw[show ren r .e0=.e0 from by simp[ren],ZLw]
  split at h
  ·rename_i l j
   refine⟨rfl,by rw[hi.kin];exact Yb j,?_⟩
   split at h
   ·exact Zi0 e h
   ·exact Zi0 e h
   grind
  grind
 grind
theorem Zta{op:UnOp}{x:AV}(hg:∀b,g=some b→b=true)(h:W3 op x g a K):ET op (ren r x) (KR r K):=by
 unfold W3 at h
 split at h
 ·simp only[ren,ET];exact .mk' h rfl
 ·split at h
  ·have e:CJ _ _ _:=BD hg h.1
   unfold CJ at e
   simp only[ren,ET]
   rw[e];exact .mk' h.2 rfl
  grind
 ·split at h
  ·have e:BN _ _:=BD hg h.1
   unfold BN at e
   simp only[ren,ET]
   rw[e];exact .mk' h.2 rfl
  grind
 grind
theorem Zmv{s d:TypeId}{i j:TI}(hi:TIok P s i)(k:TIok P d j){x:AV}(hg:∀b,g=some b→b=true)(h:RE i j x g a K):Ff P s d (ren r x) (KR r K):=by
 unfold RE at h
 split at h
 ·split at h
  ·rename_i p n o k' l m q c f
   have e:CJ _ _ _:=BD hg h.1
   unfold CJ at e
   simp only[ren,Ff,hi.ik _ c,k.ik _ f]
   rw[e];exact .mk' h.2 rfl
  grind
 ·split at h
  ·rename_i c f
   simp only[ren,Ff,HC (by rw[hi.kin];exact Yb c),HC (by rw[k.kin];exact Yb f)]
   exact .mk' h rfl
  grind
 grind
theorem Mz{d l:Nat}{o a:Option AV}(h:Dm d o l)(b:a=o.map (ren r)):Es d a=some l:=by
 subst b
 unfold Dm at h
 split at h
 ·simp[Es,h]
 ·subst h
  simp[Es,ren]
 grind
theorem ZlN{t:TypeId}{i:TI}(hi:TIok P t i)(A:DM r H H')(hg:∀b,g=some b→b=true){x:AV}{lo p:Option AV}{u:Bool}(h:Vl i H x lo p u g a K):
  ED P H' t (ren r x) (lo.map (ren r)) (p.map (ren r)) u (KR r K):=by
 unfold Vl at h
 split at h
 ·split at h
  ·split at h
   ·rename_i B
    obtain⟨l,m,n,o⟩:=h
    have d:=Mz (r:=r) (BD hg l) rfl
    have f:=Mz (r:=r) (BD hg m) rfl
    have c:EV _ _ _:=BD hg n
    simp only[ren,ED,d,f]
    exact⟨by rw[hi.kin];exact Yb B,trivial,c.1,c.2,.mk' o rfl⟩
   grind
  ·split at h
   ·rename_i e sz v C he
    split at h
    ·rename_i k
     have k:=Yh k
     obtain⟨l,m,n,o,s⟩:=h
     have d:=Mz (r:=r) (BD hg l) rfl
     have f:=Mz (r:=r) (BD hg m) rfl
     have c:EV _ _ _:=BD hg n
     have j:Nw _ _ _ _ _:=BD hg o
     simp only[ren,ED,d,f,hi.elm _ he]
     exact⟨trivial,by omega,j.1,c.1,c.2,.mk' s (by rw[ren,j.2])⟩
    grind
   grind
  ·split at h
   ·rename_i e sz G F C he hl
    split at h
    ·rename_i k q
     have k:=Yh k
     obtain⟨w,y,D,z,E⟩:=A.at hl
     obtain⟨l,m,n,o,s⟩:=h
     have d:=Mz (r:=r) (BD hg l) rfl
     have f:=Mz (r:=r) (BD hg m) rfl
     have c:EV _ _ _:=BD hg n
     have j:Xq _ _ _ _ _:=BD hg o
     simp only[ren,ED,d,f,hi.elm _ he]
     exact⟨trivial,w,y,by omega,by rw[z];exact Yb q,c.1,c.2,.mk' s (by rw[ren,j.1,j.2])⟩
    grind
   grind
  grind
 grind
theorem ZpT{t:TypeId}{i:TI}(hi:TIok P t i)(j:DM r H H')(hg:∀b,g=some b→b=true){x:AV}(h:SQ i H x g a K):D6 P H' t (ren r x) (KR r K):=by
 unfold SQ at h
 split at h
 ·split at h
  ·rename_i c
   have e:BN _ _:=BD hg h.1
   unfold BN at e
   simp only[ren,D6,hi.kin]
   exact⟨Yb c,.mk' h.2 (by rw[ren,e])⟩
  grind
 ·split at h
  ·rename_i c
   have e:BN _ _:=BD hg h.1
   unfold BN at e
   simp only[ren,D6,hi.kin]
   exact⟨Yb c,.mk' h.2 (by rw[ren,e])⟩
  grind
 ·split at h
  ·rename_i c
   have e:BN _ _:=BD hg h.1
   unfold BN at e
   simp only[ren,D6,hi.kin]
   exact⟨Yb c,.mk' h.2 (by rw[ren,e])⟩
  grind
 ·split at h
  ·rename_i c hl
   have e:BN _ _:=BD hg h.1
   unfold BN at e
   obtain⟨d,f,_⟩:=j.at hl
   simp only[ren,D6,hi.kin]
   exact⟨Yb c,d,f,.mk' h.2 (by rw[ren,e])⟩
  grind
 grind
theorem Zp5(a:DM r H H'){x:AV}{y:Bool×List (List D)}(h:lV H x=some y):M8 H' (ren r x)=some y:=by
 unfold lV at h
 split at h
 ·simp only[ren,M8];exact h
 ·split at h
  ·rename_i k g _ _ q es hl he
   obtain⟨b,c,d,_,_⟩:=a.at hl
   simp only[ren,M8]
   grind
  ·cases h
 ·cases h
theorem Ui(q:Bool)(ds:List D):ren r (G8 q ds)=G8 q ds:=by
 unfold G8
 split<;>simp[ren,HF]
theorem ZLg(a q:Bool)(ds:List D)(ok:Bool):ren r (Nh a q ds ok)=Nh a q ds ok:=by
 unfold Nh
 cases a
 ·exact Ui q ds
 ·simp only[ren,Aq,Ui]
theorem Znw{t:TypeId}{i:TI}(hi:TIok P t i)(k:DM r H H')(hg:∀b,g=some b→b=true){x y:AV}{c:Bool}(h:Rz i H x y c g a K):Gj P H' t (ren r x) (ren r y) c (KR r K):=by
 unfold Rz at h
 split at h
 ·rename_i q z n es s ok vs m f j
  split at h
  ·rename_i l
   obtain⟨d,e⟩:P3 _ _ _ _ _:=BD hg h.1
   simp only[Gj,hi.mp _ f,Zp5 k j,ren]
   exact⟨kr l,.mk' h.2 (by rw[d,e,ZLg])⟩
  grind
 grind
theorem OE{x:AV}{vs:List AV}(h:C8 x=some vs)(a:∀f xs ys,x≠.fn (.yield f) xs ys):C8 (ren r x)=some (Aq r vs):=by
 cases x<;>simp only[C8,Yi]at h<;>try (cases h;done)
 case fn f xs ys=>
  subst h
  cases f with
  |yield i=>exact absurd rfl (a i xs ys)
  |_=>simp[ren,Aq,C8]
 all_goals(subst h;simp[ren,Aq,C8])
theorem O5{x:AV}(h:IR x=true):∀f xs ys,x≠.fn (.yield f) xs ys:=by
 rintro f xs ys rfl;cases h
theorem ZPS{t:TypeId}{i:TI}(hi:TIok P t i){f o n:Nat}(h:nO i f=some (o,n)):fld P t f=some (o,n):=by
 unfold nO at h
 split at h
 ·rename_i d c b a
  simp only[Yi,GD]at h
  obtain⟨rfl,rfl⟩:=h
  exact(MD hi a).1
 ·cases h
theorem Zir{t:TypeId}{i:TI}(hi:TIok P t i):∀(ps:List (Nat×AV)) (z cs:List AV),(∀p∈ps,IR p.2=true)→Qb i z ps=some cs→CI (fld P t) (Aq r z) (ps.map fun p=>(p.1,ren r p.2))=some (Aq r cs)
 |[],z,cs,_,h=>by
  simp only[Qb,Yi]at h
  subst h
  simp[CI]
 |(f,v)::ps,z,cs,e,h=>by
  simp only[Qb]at h
  split at h
  ·rename_i off size vs a g
   split at h
   ·rename_i c d
    have c:=Yb c
    have d:=Yh d
    have b:=OE (r:=r) g (O5 (e (f,v) (YB ..)))
    simp only[YS,CI,ZPS hi a,b,CN]
    rw[Yj (by omega)]
    have:=Zir hi ps _ cs (fun p a=>e p (Ys _ a)) h
    rw[←this]
    simp only[GH,Fy,E0]
   ·cases h
  ·cases h
theorem Zlb{t:TypeId}{i:TI}(hi:TIok P t i){parts:List (Nat×AV)}(e:∀p∈parts,IR p.2=true)(f:∀z,i.zer=some z→Aq r z=z)(h:UA i parts a K):
  FD P t (parts.map fun p=>(p.1,ren r p.2)) (KR r K):=by
 unfold UA at h
 split at h
 ·rename_i z c b
  split at h
  ·rename_i cs d
   have:=Zir (r:=r) hi _ _ _ e d
   unfold FD
   rw[hi.zer _ b]
   rw[f z b]at this
   simp only[this]
   exact⟨hi.str c,.mk' h rfl⟩
  grind
 grind
theorem ZzG{x:AV}(h:x.flat=true):ren r x=x:=by cases x<;>first|(simp[ren];done)|cases h
theorem Ke{z:List AV}(h:z.all AV.flat=true):Aq r z=z:=by
 induction z with
 |nil=>simp[Aq]
 |cons x z a=>
  simp only[Ik,Yc]at h
  rw[Aq,ZzG h.1,a h.2]
theorem ZhZ{c x y:Operand}{ρ d:Operand→AV}{t:Bool}(e:ρ c=.d (.bool t))(b:d c=ren r (ρ c))(f:t=true→d x=ren r (ρ x))(hy:t=false→d y=ren r (ρ y))(h:tV T H (.pick c x y) ρ g a K):
  A9 P H' (.pick c x y) d (KR r K):=by
 simp only[tV,e]at h
 rw[e]at b
 simp only[ren]at b
 simp only[A9,b]
 rw[ZBH]at h
 cases t
 ·exact .mk' h (by simp[hy rfl])
 ·exact .mk' h (by simp[f rfl])
theorem hP{ρ a:Operand→AV}{xs:List Operand}(h:∀x∈xs,a x=ren r (ρ x)):xs.map a=Aq r (xs.map ρ):=by
 rw[FA,Il]
 exact Y9 h
theorem ZpO{ρ a:Operand→AV}{o:Option Operand}(h:∀x,o=some x→a x=ren r (ρ x)):o.map a=(o.map ρ).map (ren r):=by
 cases o with
 |none=>rfl
 |some x=>simp[h x rfl]
theorem Zlc{r:Ren}{b:Bool}{x y:AV}{a:AT}{K:AV→AT→Prop}(h:Ey b x y (fun v=>K v a)):Ey b (ren r x) (ren r y) (KR r K):=by
 unfold Ey at h
 split at h
 ·simp only[ren,Ey];exact .mk' h rfl
 grind
theorem ZA1(w:Bg P T)(C:DM r H H')(hg:∀b,g=some b→b=true){op:Op}{ρ A:Operand→AV}(Y:∀x∈op.operands,A x=ren r (ρ x))(h:tV T H op ρ g a K):A9 P H' op A (KR r K):=by
 have get:∀{x:Operand},x∈op.operands→A x=ren r (ρ x):=fun l=>Y _ l
 cases op<;>simp only[tV]at h<;>try exact h.elim
 case move x=>exact .mk' h (get (by simp[Op.operands]))
 case assign x=>exact .mk' h (get (by simp[Op.operands]))
 case pick c x y=>
  split at h
  ·rename_i t m
   exact ZhZ (a:=a) (g:=g) (T:=T) (H:=H) m (get (by simp[Op.operands])) (fun _=>get (by simp[Op.operands])) (fun _=>get (by simp[Op.operands])) (by simp only[tV,m];exact h)
  ·grind
 case load t x=>
  split at h
  ·rename_i i hi;simp only[A9];rw[get (x:=x) (by simp[Op.operands])];exact fN (w _ _ hi) C hg h
  ·grind
 case fieldAddr t x f=>
  split at h
  ·rename_i i hi;simp only[A9];rw[get (x:=x) (by simp[Op.operands])];exact Zg5 (w _ _ hi) C h
  ·grind
 case field t x f=>
  split at h
  ·rename_i i hi;simp only[A9];rw[get (x:=x) (by simp[Op.operands])];exact Zlu (w _ _ hi) h
  ·grind
 case indexAddr t x j=>
  split at h
  ·rename_i i hi;simp only[A9];rw[get (x:=x) (by simp[Op.operands]),get (x:=j) (by simp[Op.operands])];exact Zg2 (w _ _ hi) C hg h
  ·grind
 case index t x j=>
  split at h
  ·rename_i i hi;simp only[A9];rw[get (x:=x) (by simp[Op.operands]),get (x:=j) (by simp[Op.operands])];exact Zlq (w _ _ hi) hg h
  ·grind
 case makeInterface t x=>
  split at h
  case h_2=>exact h.elim
  rename_i i hi
  have E:(i.str||i.elm.isSome)=true→Jf P t=true:=pI (w _ _ hi)
  simp only[A9]
  rw[get (x:=x) (by simp[Op.operands])]
  split at h
  ·rename_i xs D l
   rw[l]
   simp only[ren]
   split at h
   case h_2=>exact h.elim
   rename_i ds N
   have e:=Um N
   subst e
   rw[HF,N]
   exact⟨E D,.mk' h rfl⟩
  ·rename_i y D l
   rw[l]
   simp only[ren]
   exact⟨E D,.mk' h rfl⟩
  ·exact h.elim
 case typeAssert x u t ok=>
  split at h
  case h_2=>exact h.elim
  rename_i i hi
  have E:(i.str||i.elm.isSome)=true→Jf P t=true:=pI (w _ _ hi)
  simp only[A9]
  rw[get (x:=x) (by simp[Op.operands])]
  split at h
  case h_2=>exact h.elim
  rename_i u ds q D l
  rw[l]
  simp only[ren]
  split at h
  case h_2=>exact h.elim
  rename_i v W F
  rw[F]
  have G:ren r v=v:=by
   cases q with
   |true=>cases F;simp only[ren,HF]
   |false=>
    match ds,F with
    |[d],F=>cases F;simp only[ren]
  refine⟨E D,Yb W,.mk' h ?_⟩
  cases ok with
  |true=>simp only[cond,ren,Aq,G]
  |false=>exact G.symm
 case extract x j=>
  simp only[A9]
  rw[get (x:=x) (by simp[Op.operands])]
  split at h
  ·rename_i vs l
   rw[l]
   simp only[ren,HA]
   rw[Ct]at h
   split at h
   ·rename_i y hy;rw[hy];exact .mk' h rfl
   grind
  ·grind
 case binOp o t x y u=>
  split at h
  ·rename_i i hi;simp only[A9];rw[get (x:=x) (by simp[Op.operands]),get (x:=y) (by simp[Op.operands])];exact Zqy (w _ _ hi) C hg h
  ·grind
 case unOp o t x=>simp only[A9];rw[get (x:=x) (by simp[Op.operands])];exact Zta hg h
 case nilCheck x=>
  split at h
  ·rename_i k q off l
   split at h
   ·rename_i hl
    simp only[A9]
    rw[get (x:=x) (by simp[Op.operands]),l]
    obtain⟨g1,O,_,_,_⟩:=C.at hl
    simp only[ren,Iy]
    exact⟨g1.symm▸rfl,O,.mk' h (by simp[ren])⟩
   grind
  ·rename_i cs off l
   simp only[A9]
   rw[get (x:=x) (by simp[Op.operands]),l]
   simp only[ren,Iy]
   exact .mk' h (by simp[ren])
  ·grind
 case convert s d x=>
  split at h
  ·rename_i i j hi U;simp only[A9];rw[get (x:=x) (by simp[Op.operands])];exact Zmv (w _ _ hi) (w _ _ U) hg h
  ·grind
 case makeFunc fn first B=>
  have n:first.toList.map A=Aq r (first.toList.map ρ):=hP fun x l=>get (by simp only[Op.operands,NN];exact .inl (by simpa using l))
  have I:B.toList.map A=Aq r (B.toList.map ρ):=hP fun x l=>get (by simp only[Op.operands,NN];exact .inr (by simpa using l))
  simp only[A9]
  rw[n,I]
  split at h
  ·grind
  ·rename_i L
   refine .mk' h ?_
   cases fn<;>first|exact absurd rfl (L _)|simp[ren]
 case slice t x lo hi mx=>
  split at h
  ·rename_i i J
   simp only[A9]
   rw[get (x:=x) (by simp[Op.operands]),ZpO (o:=lo) (fun y hy=>get (by subst hy;simp[Op.operands])),ZpO (o:=hi) (fun y hy=>get (by subst hy;simp[Op.operands]))]
   exact ZlN (w _ _ J) C hg h
  ·grind
 case build t parts=>
  split at h
  ·rename_i i hi E
   simp only[A9]
   have e:(parts.toList.map fun p=>(p.1,A p.2))=(parts.toList.map fun p=>(p.1,ρ p.2)).map fun p=>(p.1,ren r p.2):=by
    rw[Il]
    refine Y9 fun p M=>?_
    simp only[Function.comp]
    rw[get (x:=p.2) (by simp only[Op.operands,NO,YI];exact⟨p,M,rfl⟩)]
   rw[e]
   refine Zlb (w _ _ hi) (fun p M=>?_) (fun z X=>Ke ((w _ _ hi).flt z X)) h
   obtain⟨q,hq,rfl⟩:=YI.1 M
   grind
  ·grind
 case lookup t x y Z=>
  split at h
  ·rename_i i hi;simp only[A9];rw[get (x:=x) (by simp[Op.operands]),get (x:=y) (by simp[Op.operands])];exact Znw (w _ _ hi) C hg h
  ·grind
 case call c=>
  split at h
  ·rename_i x t m l V
   split at h
   ·rename_i i hi
    have n:c.args=#[x]:=C7 (by simpa using l)
    have I:c.argTypes=#[t]:=C7 (by simpa using V)
    simp only[A9,m,n,I]
    show 1=1∧D6 P H' t (A x) (KR r K)
    rw[get (x:=x) (by simp[Op.operands,Call.operands,m,n])]
    exact⟨rfl,ZpT (w _ _ hi) C hg h⟩
   grind
  ·rename_i x y m l
   have n:c.args=#[x,y]:=C7 (by simpa using l)
   simp only[A9,m,n]
   show Ey false (A x) (A y) (KR r K)
   rw[get (x:=x) (by simp[Op.operands,Call.operands,m,n]),get (x:=y) (by simp[Op.operands,Call.operands,m,n])]
   exact Zlc h
  ·rename_i x y m l
   have n:c.args=#[x,y]:=C7 (by simpa using l)
   simp only[A9,m,n]
   show Ey true (A x) (A y) (KR r K)
   rw[get (x:=x) (by simp[Op.operands,Call.operands,m,n]),get (x:=y) (by simp[Op.operands,Call.operands,m,n])]
   exact Zlc h
  ·rename_i x y z m l
   have n:c.args=#[x,y,z]:=C7 (by simpa using l)
   simp only[A9,m,n]
   show GY true (A x) (A y) (A z) (KR r K)
   rw[get (x:=x) (by simp[Op.operands,Call.operands,m,n]),get (x:=y) (by simp[Op.operands,Call.operands,m,n]),get (x:=z) (by simp[Op.operands,Call.operands,m,n])]
   unfold GY at h
   split at h
   ·rename_i Q R S
    rw[Q,R,S]
    simp only[ren,GY];exact .mk' h rfl
   grind
  ·grind
end
end Go.Eng
namespace Go.Eng
set_option linter.all false
open Go Go.RowKit
abbrev CZ:=List (Nat×Bool)
abbrev B4:=List (Nat×CZ)
def lk:B4→Nat→CZ
 |[],_=>[]
 |(i,c)::r,j=>match Nat.beq i j with|true=>c|false=>lk r j
def Oh(t:Bool):Bool→Bool
 |true=>t
 |false=>!t
theorem ge{t b:Bool}:Oh t b=true↔t=b:=by cases t<;>cases b<;>simp[Oh]
def J4:CZ→CZ→Bool
 |[],[]=>true
 |(i,a)::r,(j,b)::q=>Nat.beq i j&&Oh a b&&J4 r q
 |_,_=>false
theorem ig:∀{a b:CZ},J4 a b=true→a=b
 |[],[],_=>rfl
 |(i,a)::r,(j,b)::q,h=>by
  simp only[J4,Yc]at h
  rw[Yb h.1.1,ge.1 h.1.2,ig h.2]
 |[],_::_,h=>by simp[J4]at h
 |_::_,[],h=>by simp[J4]at h
def Sm(a:CZ):CZ→Bool
 |[]=>J4 a []
 |q::b=>J4 a (q::b)||Sm a b
theorem ZpA{a:CZ}:∀{b:CZ},Sm a b=true→∀q∈a,q∈b
 |[],h,q,c=>by rw[ig h]at c;exact c
 |p::b,h,q,c=>by
  simp only[Sm,YF]at h
  rcases h with h|h
  ·rw[ig h]at c;exact c
  ·exact Ys _ (ZpA h q c)
def Di(s:Nat→AV)(c:CZ):Prop:=∀q∈c,s q.1=.d (.bool q.2)
def GK(s:Nat→AV):CZ→Option Bool
 |[]=>some true
 |[(d,b)]=>match s d with|.d (.bool t)=>some (Oh t b)|_=>none
 |(d,b)::r=>match s d,GK s r with|.d (.bool t),some c=>some (c&&Oh t b)|_,_=>none
theorem Mb{s:Nat→AV}:∀{c:CZ} {g:Bool},GK s c=some g→(g=true↔Di s c)
 |[],g,h=>by simp only[GK,Yi]at h;subst h;simp[Di]
 |[(d,b)],g,h=>by
  simp only[GK]at h
  split at h
  ·rename_i t f
   simp only[Yi]at h
   subst h
   rw[ge]
   simp[Di,f]
  ·cases h
 |(d,b)::q::r,g,h=>by
  simp only[GK]at h
  split at h
  ·rename_i t c f i
   simp only[Yi]at h
   subst h
   have j:=Mb i
   rw[Yc,j,ge]
   constructor
   ·rintro⟨e,rfl⟩ p a
    rcases YG.1 a with rfl|a
    ·exact f
    ·exact e p a
   ·intro e
    refine⟨fun p a=>e p (Ys _ a),?_⟩
    have:=e (d,b) (YB ..)
    grind
  ·cases h
def M7(e:Nat)(c:CZ):Bool:=c.all fun q=>!Nat.beq q.1 e
def fresh(e:Nat)(env:B4):Bool:=env.all fun p=>M7 e p.2
theorem Zpo{s:Nat→AV}{e:Nat}{v:AV}{c:CZ}(h:M7 e c=true):Di (upd s e v) c↔Di s c:=by
 have key:∀q∈c,upd s e v q.1=s q.1:=fun q a=>by
  have:=Yq.1 h q a
  unfold upd
  rw[Yj]
  intro he
  subst he
  simp at this
 constructor
 ·exact fun h q a=>(key q a)▸h q a
 ·exact fun h q a=>(key q a).trans (h q a)
theorem ZnE{e:Nat}:∀{env:B4},fresh e env=true→∀j,M7 e (lk env j)=true
 |[],_,j=>rfl
 |(i,c)::r,h,j=>by
  simp only[fresh,Ik,Yc]at h
  simp only[lk]
  split
  ·exact h.1
  ·exact ZnE h.2 j
theorem ip{env:B4}{e:Nat}{c:CZ}(j:Nat):lk ((e,c)::env) j=if j=e then c else lk env j:=by
 simp only[lk]
 by_cases h:j=e
 ·subst h;simp
 ·rw[Yj h]
  split
  ·rename_i a;exact absurd (Yb a).symm h
  ·rfl
def H7(env:B4)(c:CZ):Operand→Bool
 |.tmp t=>Sm (lk env t) c
 |_=>true
def Ch(env:B4)(c:CZ):Op→Bool
 |.pick (.tmp d) x y=>H7 env c (.tmp d)&&H7 env ((d,true)::c) x&&H7 env ((d,false)::c) y
 |op=>op.operands.toList.all (H7 env c)
structure RenOk (r:Ren) (l outs:Nat):Prop where
 own:∀d,r.κ (1,d)=(l+1,d)
 out:∀i,i<outs→(r.κ (0,i)).1≤l
 inj:∀i j,i<outs→j<outs→r.κ (0,i)=r.κ (0,j)→i=j
 no:∀k,r.no k→∃i,i<outs∧r.κ (0,i)=k
structure RG (r:Ren) (l outs:Nat) (env:B4) (τ σ:St):Prop where
 s:∀j,(Di τ.s (lk env j)→σ.s j=ren r (τ.s j))∧(¬Di τ.s (lk env j)→σ.s j=.tup [])
 h:DM r τ.H σ.H
 g:∀d,(σ.H (l+1,d)).g=r.γ (1,d)+(τ.H (1,d)).g
 go:∀i,i<outs→(σ.H (r.κ (0,i))).g=r.γ (0,i)+(τ.H (0,i)).g
 k:∀k,(τ.H k).live=true→k.1=1∨(k.1=0∧k.2<outs)
 o:∀k:Ad,k.1≤l→¬r.no k→σ.H k=r.H0 k
def HQ(P:Program)(l:Nat)(r:Ren)(f:FuncId)(xs:List AV)(c:List (Ad×Blk))(x:AV):Prop:=
 ∀a,(∀p∈c,p.2.live=true→a (r.κ p.1)=AL r p.1 p.2)→(∀k:Ad,k.1≤l→¬r.no k→a k=r.H0 k)→ZcF P f (l+1) (Aq r xs) a (fun y b=>y=ren r x∧b=a)
def Px(P:Program)(l:Nat)(r:Ren)(i:Nat)(xs:List AV)(d:List (Ad×Blk))(x:AV):Prop:=
 ∃f first a,r.θ i=.fn (.func f) first a∧∀b,(∀p∈d,p.2.live=true→b (r.κ p.1)=AL r p.1 p.2)→(∀k:Ad,k.1≤l→¬r.no k→b k=r.H0 k)→ZcF P f (l+1) (first++Aq r xs++a) b (fun y c=>y=ren r x∧c=b)
def Wv(P:Program)(l:Nat)(r:Ren)(H:Hp)(f:AV)(xs:List AV)(g:Option Bool)(a:AT)(K:AV→AT→Prop):Prop:=
 match f,a with
 |.fn (.func i) first b,.call x ks a=>Bt g (HQ P l r i (first++xs++b) (ks.map fun k=>(k,H k)) x)∧K x a
 |.fn (.yield i) _ _,.call x ks a=>Bt g (Px P l r i xs (ks.map fun k=>(k,H k)) x)∧K x a
 |_,_=>False
def WQ(T:Nat→Option TI)(τ:St)(t:TypeId)(len:Nat)(parts:List (Nat×Operand))(a:AT)(K:AV→AT→Prop):Prop:=
 match T t with
 |some i=>(match i.elm with
  |some (e,sz)=>(match Nat.ble 1 sz,len with
   |true,0=>(match parts with|[]=>K .e0 a|_=>False)
   |true,len+1=>(match T e,Nat.ble ((len+1)*sz) 16777216 with
    |some j,true=>(match j.zer with
     |some z=>(match Nat.beq z.length sz,FZ sz 0 (parts.map fun p=>(p.1,ev τ.s p.2))with
      |true,some es=>(match Nat.beq es.length (len+1)with|true=>K (.d (.list es)) a|false=>False)
      |_,_=>False)
     |none=>False)
    |_,_=>False)
   |_,_=>False)
  |none=>False)
 |none=>False
def pV(P:Program)(T:Nat→Option TI)(l:Nat)(r:Ren)(τ:St)(op:Op)(g:Option Bool)(a:AT)(K:AV→AT→Prop):Prop:=
 match op with
 |.call c=>match c.callee with
  |.value f=>Wv P l r τ.H (ev τ.s f) (c.args.toList.map (ev τ.s)) g a K
  |_=>tV T τ.H op (ev τ.s) g a K
 |.buildSlice t len parts=>WQ T τ t len parts.toList a K
 |op=>tV T τ.H op (ev τ.s) g a K
def Fl(n d:Nat)(K:St→AT→Prop)(τ:St)(v:AV)(a:AT):Prop:=
 match Nat.ble (d+1) n with
 |true=>K ⟨upd τ.s d v,τ.H⟩ a
 |false=>False
section
variable {P:Program} {T:Nat→Option TI} {r:Ren} {l n outs:Nat} {env:B4} {τ σ:St} {g:Option Bool} {a:AT} {c:CZ}
theorem ZP4(v:Value):ren r (cv v)=cv v:=by unfold cv;split<;>simp[ren]
theorem Ko(h:RG r l outs env τ σ)(hs:Di τ.s c){x:Operand}(b:H7 env c x=true):ev σ.s x=ren r (ev τ.s x):=by
 cases x with
 |tmp t=>exact(h.s t).1 fun q a=>hs q (ZpA b q a)
 |const v=>exact(ZP4 v).symm
 |global g=>simp[ev,ren]
 |func f=>simp[ev,ren,Aq]
theorem Ga(h:RG r l outs env τ σ)(hs:Di τ.s c){op:Op}(a:op.operands.toList.all (H7 env c)=true):∀x∈op.operands,ev σ.s x=ren r (ev τ.s x):=
 fun x hm=>Ko h hs (Yq.1 a x (by simpa using hm))
theorem p6(u:Bg P T)(h:RG r l outs env τ σ)(hs:Di τ.s c)(hg:∀b,g=some b→b=true){op:Op}(i:Ch env c op=true){K:AV→AT→Prop}(j:tV T τ.H op (ev τ.s) g a K):
  A9 P σ.H op (ev σ.s) (KR r K):=by
 unfold Ch at i
 split at i
 ·rename_i d x y
  simp only[Yc]at i
  obtain⟨⟨o,p⟩,s⟩:=i
  have f:=j
  simp only[tV]at f
  split at f
  ·rename_i t m
   have n:=Ko h hs o
   refine ZhZ (T:=T) (H:=τ.H) (g:=g) (a:=a) m n (fun e=>Ko h (c:=(d,true)::c) ?_ p) (fun e=>Ko h (c:=(d,false)::c) ?_ s) j
   all_goals
    subst e
    intro q k
    rcases YG.1 k with rfl|k
    ·exact m
    ·exact hs q k
  grind
 ·exact ZA1 u h.h hg (Ga h hs i) j
theorem gc(h:RG r l outs env τ σ)(hs:Di τ.s c)(hg:∀b,g=some b→b=true){cl:Call}{f:Operand}(q:cl.callee=.value f)(m:Ch env c (.call cl)=true){K:AV→AT→Prop}
  (e:Wv P l r τ.H (ev τ.s f) (cl.args.toList.map (ev τ.s)) g a K):
  ∃i first d x j,ev σ.s f=.fn (.func i) first d∧ZcF P i (l+1) (first++cl.args.toList.map (ev σ.s)++d) σ.H (fun y t=>y=ren r x∧t=σ.H)∧K x j:=by
 have m:(Op.call cl).operands.toList.all (H7 env c)=true:=m
 have s:=Ga h hs m f (by simp[Op.operands,Call.operands,q])
 have n:cl.args.toList.map (ev σ.s)=Aq r (cl.args.toList.map (ev τ.s)):=hP fun x hm=>Ga h hs m x (by simp only[Op.operands,Call.operands,q,NN];exact .inr (by simpa using hm))
 have o:∀ks:List Ad,∀p∈ks.map fun k=>(k,τ.H k),p.2.live=true→σ.H (r.κ p.1)=AL r p.1 p.2:=fun ks p e hl=>by
  obtain⟨k,A,rfl⟩:=YI.1 e
  exact h.h k hl
 unfold Wv at e
 split at e
 ·rename_i i first d x ks j he
  have v:HQ _ _ _ _ _ _ _:=BD hg e.1
  refine⟨i,Aq r first,Aq r d,x,j,by rw[s,he];simp[ren],?_,e.2⟩
  rw[n,←GH,←GH]
  exact v σ.H (o ks) h.o
 ·rename_i i xs ys x ks j he
  obtain⟨u,first,d,w,z⟩:Px _ _ _ _ _ _ _:=BD hg e.1
  refine⟨u,first,d,x,j,by rw[s,he];simp[ren,w],?_,e.2⟩
  rw[n]
  exact z σ.H (o ks) h.o
 grind
theorem RG.put(h:RG r l outs env τ σ){e:Nat}{ch:CZ}(b:fresh e env=true)(c:M7 e ch=true){v:AV}{y:AV}(hy:Di τ.s ch→y=ren r v)(d:¬Di τ.s ch→y=.tup []):
  RG r l outs ((e,ch)::env) ⟨upd τ.s e v,τ.H⟩ ⟨upd σ.s e y,σ.H⟩:=by
 refine⟨fun j=>?_,h.h,h.g,h.go,h.k,h.o⟩
 simp only
 rw[ip]
 by_cases a:j=e
 ·subst a
  rw[Yg rfl,Zpo c]
  simp only[upd,Yx]
  grind
 ·rw[Yj a,Zpo (ZnE b j)]
  simp only[upd,Yj a]
  exact h.s j
end
section
variable {P:Program} {l n:Nat} {H:Hp} {m:Mu} {S:Nat→Prop} {w w':World} {s:Nat→AV} {a:Act}
theorem Ok.allocO(h:Ok l H m S w)(k:Ad)(O:k.1≤l)(b:Blk)(K:b.e.isO=true)(u:b.cells=[])(hg:(H k).g<b.g)(o:Obj)(D:w'.heap=w.heap.push o)
  (J:IB w' S w.heap.size b.e) (F:w'.os=w.os) (G:w'.tape=w.tape) (I:w'.output=w.output):
  Ok l (updH H k b) (Bb m k ⟨w.heap.size,0,0⟩) S w'∧Ext l H m S w (updH H k b) (Bb m k ⟨w.heap.size,0,0⟩) S w':=by
 have d:∀i,i<w.heap.size→w'.heap[i]?=w.heap[i]?:=fun i hi=>by rw[D,Im,Yj (by omega)]
 have j:Ext l H m S w (updH H k b) (Bb m k ⟨w.heap.size,0,0⟩) S w':=by
  refine⟨fun _ h=>h,fun i hi=>d i (h.sub i hi),fun q a=>?_,fun q a y hl=>?_,F,G,I,by rw[D];simp⟩
  ·by_cases e:q=k
   ·subst e;rw[AO];omega
   ·rw[AJ _ _ e];exact Yf _
  ·by_cases e:q=k
   ·subst e;rw[AO]at y;omega
   ·rw[AJ _ _ e]at hl⊢;rw[A1 _ _ e];exact⟨hl,rfl,rfl⟩
 have B:∀q:Ad,q.1≤l→(H q).live=true→(m q).cap≠0→(m q).b<w.heap.size:=fun q a hl n=>by
  obtain⟨C,t,_⟩:=h.blk q a hl n
  grind
 have A:∀q:Ad,q.1≤l→(H q).live=true→(H q).e.isO=true→(m q).b<w.heap.size:=fun q a hl n=>by
  obtain⟨C,t,_⟩:=(h.mp.o q a hl).at n
  grind
 refine⟨⟨fun i hi=>?_,fun q a hl c=>?_,fun q a hl c=>?_,fun q s a r hl f c g heq=>?_,fun q a hl c=>?_,
  ⟨fun q a hl=>?_,fun q a hl he=>?_,fun q s a r hl f he p heq=>?_⟩⟩,j⟩
 ·have:=h.sub i hi;rw[D];simp;omega
 ·by_cases e:q=k
  ·subst e;rw[AO];exact u
  ·rw[AJ _ _ e]at hl⊢;rw[A1 _ _ e]at c;exact h.empty q a hl c
 ·by_cases e:q=k
  ·subst e;rw[A3]at c;exact absurd rfl c
  ·rw[AJ _ _ e]at hl;rw[A1 _ _ e]at c⊢;exact h.fresh q a hl c
 ·by_cases e:q=k
  ·subst e;rw[A3]at c;exact absurd rfl c
  ·by_cases e':s=k
   ·subst e';rw[A3]at g;exact absurd rfl g
   ·rw[A1 _ _ e,A1 _ _ e']at heq
    rw[AJ _ _ e]at hl;rw[AJ _ _ e']at f
    rw[A1 _ _ e]at c;rw[A1 _ _ e']at g
    exact h.inj q s a r hl f c g heq
 ·by_cases e:q=k
  ·subst e;rw[A3]at c;exact absurd rfl c
  ·rw[AJ _ _ e]at hl⊢
   rw[A1 _ _ e]at c⊢
   obtain⟨C,t,hs,z,N⟩:=h.blk q a hl c
   refine⟨C,by rw[d _ (B q a hl c)];exact t,hs,z,fun i x v hi M=>?_⟩
   obtain⟨E,g2⟩:=N i x v hi M
   exact⟨E,g2.ext j a⟩
 ·by_cases e:q=k
  ·subst e;rw[AO,A3];exact J
  ·rw[AJ _ _ e]at hl⊢;rw[A1 _ _ e]
   exact(h.mp.o q a hl).mono (fun _ h=>h) (fun i hi=>d i (h.sub i hi)) (fun L=>d _ (A q a hl L))
 ·by_cases e:q=k
  ·subst e;rw[A3];exact⟨⟨rfl,rfl⟩,fun hs=>by have:=h.sub _ hs;simp at this⟩
  ·rw[AJ _ _ e]at hl he;rw[A1 _ _ e];exact h.mp.c q a hl he
 ·by_cases e:q=k<;>by_cases e':s=k
  ·grind
  ·subst e
   rw[A3,A1 _ _ e']at heq
   rw[AJ _ _ e']at f p
   grind
  ·subst e'
   rw[A3,A1 _ _ e]at heq
   rw[AJ _ _ e]at hl he
   grind
  ·rw[A1 _ _ e,A1 _ _ e']at heq
   rw[AJ _ _ e]at hl he;rw[AJ _ _ e']at f p
   exact h.mp.i q s a r hl f he p heq
theorem Ok.writeO(h:Ok l H m S w)(k:Ad)(y:k.1≤l)(hl:(H k).live=true)(t:(H k).e.isO=true)(e':EK)(n:e'.isO=true)(o:Obj)
  (F:∀b,w'.heap[b]?=if b=(m k).b then some o else w.heap[b]?) (B:w'.heap.size=w.heap.size) (L:IB w' S (m k).b e') (I:w'.os=w.os) (J:w'.tape=w.tape) (K:w'.output=w.output):
  Ok l (updH H k {H k with e:=e' }) m S w'∧Ext l H m S w (updH H k {H k with e:=e' }) m S w':=by
 obtain⟨R,T⟩:=h.mp.c k y hl t
 have j:Ext l H m S w (updH H k {H k with e:=e' }) m S w':=by
  refine⟨fun _ h=>h,fun b s=>?_,fun q d=>?_,fun q d hg a=>?_,I,J,K,by omega⟩
  ·grind
  ·by_cases e:q=k
   ·subst e;rw[AO];exact Yf _
   ·rw[AJ _ _ e];exact Yf _
  ·by_cases e:q=k
   ·subst e;rw[AO]at a⊢;exact⟨a,rfl,rfl⟩
   ·rw[AJ _ _ e]at a⊢;exact⟨a,rfl,rfl⟩
 have f:∀q:Ad,(updH H k {H k with e:=e' } q).live=(H q).live:=fun q=>by
  by_cases e:q=k
  ·subst e;rw[AO]
  ·rw[AJ _ _ e]
 have g:∀q:Ad,(H q).e.isO=(updH H k {H k with e:=e' } q).e.isO:=fun q=>by
  by_cases e:q=k
  ·subst e;rw[AO];exact t.trans n.symm
  ·rw[AJ _ _ e]
 refine⟨⟨fun b s=>?_,fun q d a r=>?_,fun q d a r=>?_,fun q E d p a c r D heq=>?_,fun q d a r=>?_,
  ⟨fun q d a=>?_,fun q d a he=>?_,fun q E d p a c he n heq=>?_⟩⟩,j⟩
 ·rw[B];exact h.sub b s
 ·rw[f]at a
  have:=h.empty q d a r
  by_cases e:q=k
  ·subst e;rw[AO];exact this
  ·rw[AJ _ _ e];exact this
 ·rw[f]at a;exact h.fresh q d a r
 ·rw[f]at a c;exact h.inj q E d p a c r D heq
 ·rw[f]at a
  by_cases e:q=k
  ·grind
  ·rw[AJ _ _ e]
   obtain⟨C,s,hs,z,O⟩:=h.blk q d a r
   have A:(m q).b≠(m k).b:=fun u=>by
    obtain⟨U,P,Q⟩:=(h.mp.o k y hl).at t
    rw[u,P]at s;cases s;cases Q
   refine⟨C,by rw[F,Yj A];exact s,hs,z,fun i x v hi N=>?_⟩
   obtain⟨G,g2⟩:=O i x v hi N
   exact⟨G,g2.ext j d⟩
 ·rw[f]at a
  by_cases e:q=k
  ·subst e;rw[AO];exact L
  ·rw[AJ _ _ e]
   refine(h.mp.o q d a).mono (fun _ h=>h) j.blk (fun M=>?_)
   rw[F,Yj (fun u=>e (h.mp.i q k d y a hl M t u))]
 ·rw[f]at a;rw[←g]at he;exact h.mp.c q d a he
 ·rw[f]at a c;rw[←g]at he n;exact h.mp.i q E d p a c he n heq
theorem MEnt.mod{q:Bool}{es:List (List D)}{ents:Array MapEntry}{a j:Nat}{s:ByteArray}{ds:List D}{x:MapEntry}{v:Value}(h:MEnt w S q es ents a)(o:ents[j]?=some x)(m:VR w S q ds v):
  MEnt w S q (es.set j (.str s::ds)) (ents.modify j fun e=>{e with key:=.string s,val:=v }) a:=by
 have b:∀(i:Nat) (y:MapEntry),(ents.modify j fun e=>{e with key:=.string s,val:=v })[i]?=some y→∃z,ents[i]?=some z∧y=if j=i then {z with key:=.string s,val:=v }else z:=fun i y hy=>by
  grind
 have c:∀(i:Nat) (z:MapEntry),(if j=i then({z with key:=.string s,val:=v }:MapEntry)else z).born=z.born:=fun i z=>by split<;>rfl
 refine⟨by simp[h.n],fun i k y z hy n e=>?_,fun i y hy=>?_,fun i e y hi hy=>?_⟩
 ·obtain⟨g,a1,rfl⟩:=b i y hy
  obtain⟨p,l,rfl⟩:=b k z n
  rw[c,c]at e
  exact h.born i k _ _ a1 l e
 ·obtain⟨g,a1,rfl⟩:=b i y hy
  rw[c];exact h.clk i _ a1
 ·obtain⟨g,a1,rfl⟩:=b i y hy
  by_cases d:j=i
  ·subst d
   rw[Yg rfl]
   have f:j<es.length:=by rw[←h.n];exact GF a1
   rw[XC,Yg rfl,Yg f]at hi
   cases hi
   exact⟨s,ds,rfl,rfl,m⟩
  ·rw[Yj d]
   rw[XC,Yj d]at hi
   exact h.e i e _ hi a1
theorem MEnt.push{q:Bool}{es:List (List D)}{ents:Array MapEntry}{a:Nat}{s:ByteArray}{ds:List D}{v:Value}(h:MEnt w S q es ents a)(g:VR w S q ds v):
  MEnt w S q (es++[.str s::ds]) (ents.push {key:=.string s,val:=v,born:=a }) (a+1):=by
 have b:∀(i:Nat) (y:MapEntry),(ents.push {key:=.string s,val:=v,born:=a })[i]?=some y→(i=ents.size∧y={key:=.string s,val:=v,born:=a })∨(i≠ents.size∧ents[i]?=some y):=fun i y hy=>by
  grind
 refine⟨by simp[h.n],fun i k y z hy j e=>?_,fun i y hy=>?_,fun i e y hi hy=>?_⟩
 ·rcases b i y hy with⟨rfl,rfl⟩|⟨a1,c⟩<;>rcases b k z j with⟨rfl,rfl⟩|⟨l,f⟩
  ·rfl
  ·have:=h.clk k z f;simp only at e;omega
  ·have:=h.clk i y c;simp only at e;omega
  ·exact h.born i k y z c f e
 ·rcases b i y hy with⟨rfl,rfl⟩|⟨a1,c⟩
  ·grind
  ·exact Nat.lt_succ_of_lt (h.clk i y c)
 ·rcases b i y hy with⟨rfl,rfl⟩|⟨a1,c⟩
  ·rw[h.n,Yt (Yf _),Nat.sub_self]at hi
   cases hi
   exact⟨s,ds,rfl,rfl,g⟩
  ·have d:i<es.length:=by rw[←h.n];exact GF c
   rw[Yn d]at hi
   exact h.e i e y hi c
theorem MEnt.del{q:Bool}{es:List (List D)}{ents:Array MapEntry}{a j:Nat}(h:MEnt w S q es ents a)(d:j<ents.size):MEnt w S q (es.eraseIdx j) (ents.eraseIdxIfInBounds j) a:=by
 have f:(ents.eraseIdxIfInBounds j).toList=ents.toList.eraseIdx j:=by
  unfold Array.eraseIdxIfInBounds
  rw[dif_pos d,Array.toList_eraseIdx]
 have b:∀(i:Nat) (y:MapEntry),(ents.eraseIdxIfInBounds j)[i]?=some y→ents[if i<j then i else i+1]?=some y:=fun i y hy=>by
  grind
 have c:∀i k:Nat,(if i<j then i else i+1)=(if k<j then k else k+1)→i=k:=fun i k=>by split<;>split<;>omega
 refine⟨?_,fun i k y z hy g e=>c i k (h.born _ _ _ _ (b i y hy) (b k z g) e),fun i y hy=>h.clk _ _ (b i y hy),fun i e y hi hy=>?_⟩
 ·have:=congrArg List.length f
  rw[YW,List.length_eraseIdx,YW,Yg d]at this
  rw[this,List.length_eraseIdx,Yg (by rw[←h.n];exact d),h.n]
 ·refine h.e _ e y ?_ (b i y hy)
  grind
theorem fS{α:Type}(f:α→Nat)(g:α→Bool):∀(L:List α),(∀(i j:Nat) (x y:α),L[i]?=some x→L[j]?=some y→f x=f y→i=j)→∀(i:Nat) (x:α),(L.filter g)[i]?=some x→L.filter (fun y=>g y&&!(f y==f x))=(L.filter g).eraseIdx i
 |[],_,i,x,h=>by simp at h
 |y::L,c,i,x,h=>by
  have a:∀(i j:Nat) (x y:α),L[i]?=some x→L[j]?=some y→f x=f y→i=j:=fun i j x z hi b e=>NR (c (i+1) (j+1) x z (by simpa using hi) (by simpa using b) e)
  have hy:∀z∈L,f y≠f z:=fun z k e=>by
   obtain⟨j,b⟩:=YD.1 k
   have:=c 0 (j+1) y z rfl (by simpa using b) e
   omega
  by_cases hg:g y=true
  ·rw[NF hg]at h⊢
   cases i with
   |zero=>
    simp only[Y7,Yi]at h
    subst h
    rw[Lg (by simp),List.eraseIdx_cons_zero]
    apply XD
    grind
   |succ i=>
    rw[Ju]at h
    have d:x∈L:=(Y6.1 (Yk h)).1
    rw[NF (by simp[hg,hy x d]),XK,fS f g L a i x h]
  ·rw[Lg hg]at h⊢
   rw[Lg (by simp[hg])]
   exact fS f g L a i x h
end
end Go.Eng
