import Derived.Test.YtchkcemlglpobaaGreatCs04
import Derived.Test.YtchkcemlglpobaaGreatCs01
import Derived.Maps.RangeRun
import Derived.Test.YtchkcemlglpobaaGreatCs00
namespace Go.Eng
set_option linter.all false
open Go Go.RowKit
section
variable {P:Program} {T:Nat→Option TI} {r:Ren} {H H':Hp} {g:Option Bool} {a:AT} {K:AV→AT→Prop}
def KR(r:Ren)(K:AV→AT→Prop)(y:AV):Prop:=∃v a,y=ren r v∧K v a
theorem KR.mk{v:AV}{a:AT}(h:K v a):KR r K (ren r v):=⟨v,a,rfl,h⟩
theorem KR.mk'{v y:AV}{a:AT}(h:K v a)(e:y=ren r v):KR r K y:=⟨v,a,e,h⟩
theorem xL{t:TypeId}{i:TI}(hi:TIok P t i)(h:(i.str||i.elm.isSome)=true):HB P t=true:=by
 rw[Bool.or_eq_true]at h
 unfold HB
 rcases h with h|h
 ·have:=hi.str h
  unfold LC at this
  split at this
  ·rename_i a _;rw[a]
  ·cases this
 ·obtain⟨e,he⟩:=YP.1 h
  obtain⟨b,c⟩:=e
  have:=(DY (hi.elm _ he)).1
  rw[this]
theorem Z9{t:TypeId}{i:TI}(hi:TIok P t i)(y:CV r H H')(p:∀b,g=some b→b=true){x:AV}(h:Kv i H x g a K):DJ P H' t (ren r x) (KR r K):=by
 unfold Kv at h
 cases x<;>simp only at h<;>try exact h.elim
 case iptr cs off=>
  simp only[ren,DJ,hi.agg,hi.siz]
  split at h
  ·rename_i he
   rw[he]
   split at h
   ·rename_i c d f
    obtain⟨m,n⟩:=aX _ _ _ f
    have d:=Yc d
    rw[YK]at n
    exact⟨by omega,by omega,.mk' h (by rw[m,ren,F5])⟩
   grind
  ·rename_i he
   rw[he]
   rw[BZ]at h
   simp only
   split at h
   ·rename_i c o;simp only[o];exact .mk' h rfl
   grind
 case ptr k q off=>
  simp only[ren,DJ,hi.agg,hi.siz]
  split at h
  ·rename_i hl
   obtain⟨s,u,z,A,v⟩:=y.at hl
   refine⟨s,u,?_⟩
   rw[v]
   split at h
   ·split at h
    ·rename_i he
     rw[he]
     split at h
     ·rename_i c d f
      obtain⟨m,n⟩:=aX _ _ _ f
      have d:=Yc d
      rw[YK]at n
      exact⟨by omega,by rw[Ca];omega,.mk' h (by rw[ren,DW,Ef,m])⟩
     grind
    ·rename_i he
     rw[he]
     rw[BZ]at h
     split at h
     ·rename_i c o;simp only[FY,o,YM];exact .mk' h rfl
     grind
   ·split at h
    ·rename_i he
     rw[he]
     split at h
     ·rename_i c B d f
      have d:=Yc d
      have f:=Ya f
      have j:Dk _ _ _:=Bn p h.1
      unfold Dk at j
      rw[f]at j
      have w:=congrArg List.length j
      rw[Yr,YK]at w
      exact⟨by omega,by rw[Ca];omega,.mk' h.2 (by rw[ren,DW,Ef,j])⟩
     grind
    ·rename_i he
     rw[he]
     split at h
     ·rename_i x
      have j:Dk _ _ _:=Bn p h.1
      unfold Dk at j
      have e:(H k).cells[off]?=some x:=by
       have:=congrArg (fun l=>l[0]?) j
       grind
      simp only[FY,e,YM]
      exact .mk' h.2 rfl
     grind
   grind
  ·grind
theorem Fl{t:TypeId}{i:TI}(hi:TIok P t i){f:Nat}{x:Nat×Nat×Bool}(h:Bj i.fld f=some x):fld P t f=some (x.1,x.2.1)∧LM P t f=some x:=by
 rw[BZ]at h;exact hi.fld f x h
theorem Zgg{t:TypeId}{i:TI}(hi:TIok P t i)(j:CV r H H'){f:Nat}{x:AV}(h:PE i H f x a K):DX P H' t f (ren r x) (KR r K):=by
 unfold PE at h
 split at h
 ·rename_i o n b k
  have e:=(Fl hi k).1
  split at h
  ·rename_i c
   have c:=Yc c
   unfold DX
   rw[e]
   split at h
   ·simp only[ren];exact⟨by omega,.mk' h rfl⟩
   ·split at h
    ·rename_i hl
     obtain⟨d,g,_⟩:=j.at hl
     simp only[ren];exact⟨by omega,d,g,.mk' h rfl⟩
    grind
   grind
  grind
 grind
theorem Zj9{t:TypeId}{i:TI}(hi:TIok P t i){f:Nat}{x:AV}(h:Rj i f x a K):DZ P t f (ren r x) (KR r K):=by
 unfold Rj at h
 rw[Zqa]
 split at h
 ·rename_i o n cs b
  rw[(Fl hi b).2]
  split at h
  ·rename_i d
   have d:=Yc d
   simp only[ren,Lh]
   exact⟨by omega,.mk' h (by rw[ren,DW,Ef])⟩
  grind
 ·rename_i o n cs b
  rw[(Fl hi b).2]
  rw[BZ]at h
  split at h
  ·rename_i c e
   simp only[ren,Lh,FY,e,YM]
   exact .mk' h rfl
  grind
 grind
theorem Zgl{t:TypeId}{i:TI}(hi:TIok P t i)(w:CV r H H')(m:∀b,g=some b→b=true){x j:AV}(h:PC i H x j g a K):Dy P H' t (ren r x) (ren r j) (KR r K):=by
 unfold PC at h
 split at h
 ·rename_i e sz k n he
  have he:=hi.elm _ he
  split at h
  ·rename_i es e' q
   split at h
   ·rename_i c d
    have c:=Ya c
    have d:=Yc d
    obtain⟨f,l⟩:He _ _ _:=Bn m h.1
    simp only[ren,Dy,he]
    refine⟨f,?_⟩
    rw[l]
    exact⟨c,by omega,.mk' h.2 rfl⟩
   grind
  ·rename_i k q off len o A
   split at h
   ·rename_i hl c d
    have c:=Ya c
    have d:=Yc d
    obtain⟨p,s,y,u,z⟩:=w.at hl
    obtain⟨f,l,v⟩:Ji _ _ _ _ _:=Bn m h.1
    simp only[ren,Dy,he]
    exact⟨f,l,p,s,by rw[u,c],by omega,.mk' h.2 (by rw[ren,v])⟩
   grind
  grind
 grind
theorem Zkp{t:TypeId}{i:TI}(hi:TIok P t i)(m:∀b,g=some b→b=true){x j:AV}(h:Qy i x j g a K):Ei P t (ren r x) (ren r j) (KR r K):=by
 unfold Qy at h
 split at h
 ·rename_i s k n b q
  split at h
  ·rename_i d
   have d:=Ya d
   obtain⟨e,c,f,l⟩:Hg _ _ _:=Bn m h.1
   simp only[ren,Ei]
   refine⟨by rw[hi.kin];exact d,e,?_⟩
   rw[f]
   exact .mk' h.2 (by rw[ren,l])
  grind
 grind
theorem ZnE{op:BinOp}{k:IntKind}{x y:Int}(c:∀b,g=some b→b=true)(h:Oe op k x y g a K):EU op k x y (KR r K):=by
 unfold Oe at h
 cases op<;>simp only at h<;>try exact h.elim
 all_goals simp only[EU]
 case eql=>exact .mk' h rfl
 case neq=>exact .mk' h rfl
 case lss=>exact .mk' h rfl
 case leq=>exact .mk' h rfl
 case gtr=>exact .mk' h rfl
 case geq=>exact .mk' h rfl
 case add|sub|mul=>
  split at h
  ·have e:B6 _ _ _:=Bn c h.1
   unfold B6 at e
   rw[e];exact .mk' h.2 rfl
  ·grind
 case and|or|xor=>
  split at h
  ·have e:Bt _ _:=Bn c h.1
   unfold Bt at e
   rw[e];exact .mk' h.2 rfl
  ·grind
 case quo=>
  split at h
  ·have e:B6 _ _ _:=Bn c h.2.1
   unfold B6 at e
   rw[e];exact⟨Bn c h.1,.mk' h.2.2 rfl⟩
  ·grind
 case rem=>
  split at h
  ·have e:Bt _ _:=Bn c h.2.1
   unfold Bt at e
   rw[e];exact⟨Bn c h.1,.mk' h.2.2 rfl⟩
  ·grind
 case shr=>
  split at h
  ·have e:Bt _ _:=Bn c h.2.1
   unfold Bt at e
   rw[e];exact⟨Bn c h.1,.mk' h.2.2 rfl⟩
  ·grind
 case shl=>
  split at h
  ·have e:B6 _ _ _:=Bn c h.2.1
   unfold B6 at e
   rw[e];exact⟨Bn c h.1,.mk' h.2.2 rfl⟩
  ·grind
theorem Zns{op:BinOp}{x y:ByteArray}(c:∀b,g=some b→b=true)(h:NY op x y g a K):EY op x y (KR r K):=by
 unfold NY at h
 cases op<;>simp only at h<;>try exact h.elim
 all_goals simp only[EY]
 case add=>exact⟨Bn c h.1,.mk' h.2 rfl⟩
 all_goals exact .mk' h rfl
theorem sS{neg:Bool}{x:AV}(g:CV r H H')(h:Jm H neg x a K):C6 H' neg (ren r x) (KR r K):=by
 unfold Jm at h
 split at h
 ·simp only[ren,C6];exact fun b=>.mk' (h b) rfl
 ·rename_i es
  cases es with
  |nil=>simp only[ren,C6];exact fun b=>.mk' (h b (fun e=>absurd rfl e)) rfl
  |cons e es=>simp only[ren,C6];exact .mk' (h neg (fun _=>rfl)) rfl
 ·rename_i k q off n
  split at h
  ·rename_i hl
   obtain⟨d,f,_⟩:=g.at hl
   simp only[ren,C6]
   exact⟨⟨d,f⟩,fun c=>.mk' (h neg (fun _=>rfl)) rfl,fun c b=>.mk' (h b (fun e=>absurd c e)) rfl⟩
  grind
 grind
theorem tf:∀(ks:List Nat) (xs ys:List AV) (b:Bool),DI ks xs ys=some b→DI ks (An r xs) (An r ys)=some b
 |[],[],[],b,h=>by simpa[An]using h
 |k::ks,x::xs,y::ys,b,h=>by
  cases x<;>cases y<;>simp only[DI]at h<;>try (cases h;done)
  rename_i x y
  simp only[An,ren,DI]
  split at h
  ·rename_i d e a c
   simp only[a,tf ks xs ys _ c]
   exact h
  ·cases h
 |[],[],_::_,b,h=>by simp[DI]at h
 |[],_::_,_,b,h=>by simp[DI]at h
 |_::_,[],_,b,h=>by simp[DI]at h
 |_::_,x::_,[],b,h=>by cases x<;>simp[DI]at h
theorem zH{H:Hp}{op:BinOp}{t:TypeId}{a:Bool}{x:AV}{K:AV→Prop}:Cd P H op t a x .e0 K=(a=true∧kin P t=4∧match op with|.eql=>C6 H false x K|.neq=>C6 H true x K|_=>False):=by
 unfold Cd
 grind
theorem ZnA{t:TypeId}{i:TI}(hi:TIok P t i)(e:CV r H H')(f:∀b,g=some b→b=true){op:BinOp}{j:Bool}{x y:AV}(h:Ob i H op j x y g a K):Cd P H' op t j (ren r x) (ren r y) (KR r K):=by
 unfold Ob at h
 split at h
 ·split at h
  ·rename_i c
   simp only[ren,Cd]
   exact⟨ZKx c,ZnE f h⟩
  grind
 ·simp only[ren,Cd];exact Zns f h
 ·split at h
  ·rename_i c
   simp only[ren,Cd]
   refine⟨by rw[hi.kin];exact Ya c,?_⟩
   split at h
   ·exact .mk' h rfl
   ·exact .mk' h rfl
   grind
  grind
 ·rename_i xs ys
  split at h
  ·rename_i ks d
   split at h
   ·rename_i b l
    simp only[ren,Cd,Fv,hi.eqt _ d,tf _ _ _ _ l]
    split at h
    ·exact .mk' h rfl
    ·exact .mk' h rfl
    grind
   grind
  grind
 ·rw[show ren r .e0=.e0 from by simp[ren],zH]
  split at h
  ·rename_i m k
   refine⟨rfl,by rw[hi.kin];exact Ya k,?_⟩
   split at h
   ·exact sS e h
   ·exact sS e h
   grind
  grind
 grind
theorem Zrq{op:UnOp}{x:AV}(c:∀b,g=some b→b=true)(h:S4 op x g a K):DT op (ren r x) (KR r K):=by
 unfold S4 at h
 split at h
 ·simp only[ren,DT];exact .mk' h rfl
 ·split at h
  ·have e:B6 _ _ _:=Bn c h.1
   unfold B6 at e
   simp only[ren,DT]
   rw[e];exact .mk' h.2 rfl
  grind
 ·split at h
  ·have e:Bt _ _:=Bn c h.1
   unfold Bt at e
   simp only[ren,DT]
   rw[e];exact .mk' h.2 rfl
  grind
 grind
theorem Zlj{s d:TypeId}{i j:TI}(hi:TIok P s i)(k:TIok P d j){x:AV}(l:∀b,g=some b→b=true)(h:Su i j x g a K):D1 P s d (ren r x) (KR r K):=by
 unfold Su at h
 split at h
 ·split at h
  ·rename_i q n p k' o m t c f
   have e:B6 _ _ _:=Bn l h.1
   unfold B6 at e
   simp only[ren,D1,hi.ik _ c,k.ik _ f]
   rw[e];exact .mk' h.2 rfl
  grind
 ·split at h
  ·rename_i c f
   simp only[ren,D1,F3 (by rw[hi.kin];exact Ya c),F3 (by rw[k.kin];exact Ya f)]
   exact .mk' h rfl
  grind
 grind
theorem J4{d l:Nat}{o a:Option AV}(h:CP d o l)(b:a=o.map (ren r)):Dr d a=some l:=by
 subst b
 unfold CP at h
 split at h
 ·simp[Dr,h]
 ·subst h
  simp[Dr,ren]
 grind
theorem ZjL{t:TypeId}{i:TI}(hi:TIok P t i)(B:CV r H H')(c:∀b,g=some b→b=true){x:AV}{lo q:Option AV}{v:Bool}(h:Ri i H x lo q v g a K):
  DD P H' t (ren r x) (lo.map (ren r)) (q.map (ren r)) v (KR r K):=by
 unfold Ri at h
 split at h
 ·split at h
  ·split at h
   ·rename_i C
    obtain⟨m,n,o,p⟩:=h
    have f:=J4 (r:=r) (Bn c m) rfl
    have j:=J4 (r:=r) (Bn c n) rfl
    have d:Ec _ _ _:=Bn c o
    simp only[ren,DD,f,j]
    exact⟨by rw[hi.kin];exact Ya C,trivial,d.1,d.2,.mk' p rfl⟩
   grind
  ·split at h
   ·rename_i e sz w D he
    split at h
    ·rename_i l
     have l:=Yc l
     obtain⟨m,n,o,p,u⟩:=h
     have f:=J4 (r:=r) (Bn c m) rfl
     have j:=J4 (r:=r) (Bn c n) rfl
     have d:Ec _ _ _:=Bn c o
     have k:NA _ _ _ _ _:=Bn c p
     simp only[ren,DD,f,j,hi.elm _ he]
     exact⟨trivial,by omega,k.1,d.1,d.2,.mk' u (by rw[ren,k.2])⟩
    grind
   grind
  ·split at h
   ·rename_i e sz I G D he hl
    split at h
    ·rename_i l s
     have l:=Yc l
     obtain⟨y,z,E,A,F⟩:=B.at hl
     obtain⟨m,n,o,p,u⟩:=h
     have f:=J4 (r:=r) (Bn c m) rfl
     have j:=J4 (r:=r) (Bn c n) rfl
     have d:Ec _ _ _:=Bn c o
     have k:To _ _ _ _ _:=Bn c p
     simp only[ren,DD,f,j,hi.elm _ he]
     exact⟨trivial,y,z,by omega,by rw[A];exact Ya s,d.1,d.2,.mk' u (by rw[ren,k.1,k.2])⟩
    grind
   grind
  grind
 grind
theorem ZnL{t:TypeId}{i:TI}(hi:TIok P t i)(k:CV r H H')(d:∀b,g=some b→b=true){x:AV}(h:Oa i H x g a K):C8 P H' t (ren r x) (KR r K):=by
 unfold Oa at h
 split at h
 ·split at h
  ·rename_i c
   have e:Bt _ _:=Bn d h.1
   unfold Bt at e
   simp only[ren,C8,hi.kin]
   exact⟨Ya c,.mk' h.2 (by rw[ren,e])⟩
  grind
 ·split at h
  ·rename_i c
   have e:Bt _ _:=Bn d h.1
   unfold Bt at e
   simp only[ren,C8,hi.kin]
   exact⟨Ya c,.mk' h.2 (by rw[ren,e])⟩
  grind
 ·split at h
  ·rename_i c
   have e:Bt _ _:=Bn d h.1
   unfold Bt at e
   simp only[ren,C8,hi.kin]
   exact⟨Ya c,.mk' h.2 (by rw[ren,e])⟩
  grind
 ·split at h
  ·rename_i c hl
   have e:Bt _ _:=Bn d h.1
   unfold Bt at e
   obtain⟨f,j,_⟩:=k.at hl
   simp only[ren,C8,hi.kin]
   exact⟨Ya c,f,j,.mk' h.2 (by rw[ren,e])⟩
  grind
 grind
theorem Zol(a:CV r H H'){x:AV}{y:Bool×List (List D)}(h:cQ H x=some y):Kh H' (ren r x)=some y:=by
 unfold cQ at h
 split at h
 ·simp only[ren,Kh];exact h
 ·split at h
  ·rename_i k g _ _ q es hl he
   obtain⟨b,c,d,_,_⟩:=a.at hl
   simp only[ren,Kh]
   grind
  ·cases h
 ·cases h
theorem P8(q:Bool)(ds:List D):ren r (FJ q ds)=FJ q ds:=by
 unfold FJ
 split<;>simp[ren,F5]
theorem ZE6(a q:Bool)(ds:List D)(ok:Bool):ren r (KI a q ds ok)=KI a q ds ok:=by
 unfold KI
 cases a
 ·exact P8 q ds
 ·simp only[ren,An,P8]
theorem Zlt{t:TypeId}{i:TI}(hi:TIok P t i)(k:CV r H H')(l:∀b,g=some b→b=true){x y:AV}{c:Bool}(h:Rr i H x y c g a K):EQ P H' t (ren r x) (ren r y) c (KR r K):=by
 unfold Rr at h
 split at h
 ·rename_i q z o es s ok vs n f j
  split at h
  ·rename_i m
   obtain⟨d,e⟩:MK _ _ _ _ _:=Bn l h.1
   simp only[EQ,hi.mp _ f,Zol k j,ren]
   exact⟨gb m,.mk' h.2 (by rw[d,e,ZE6])⟩
  grind
 grind
theorem L7{x:AV}{vs:List AV}(h:Cm x=some vs)(a:∀f xs ys,x≠.fn (.yield f) xs ys):Cm (ren r x)=some (An r vs):=by
 cases x<;>simp only[Cm,Yf]at h<;>try (cases h;done)
 case fn f xs ys=>
  subst h
  cases f with
  |yield i=>exact absurd rfl (a i xs ys)
  |_=>simp[ren,An,Cm]
 all_goals(subst h;simp[ren,An,Cm])
theorem Ml{x:AV}(h:G8 x=true):∀f xs ys,x≠.fn (.yield f) xs ys:=by
 rintro f xs ys rfl;cases h
theorem ZIB{t:TypeId}{i:TI}(hi:TIok P t i){f o n:Nat}(h:iI i f=some (o,n)):fld P t f=some (o,n):=by
 unfold iI at h
 split at h
 ·rename_i d c b a
  simp only[Yf,Ff]at h
  obtain⟨rfl,rfl⟩:=h
  exact(Fl hi a).1
 ·cases h
theorem sj{t:TypeId}{i:TI}(hi:TIok P t i):∀(ps:List (Nat×AV)) (z cs:List AV),(∀p∈ps,G8 p.2=true)→MZ i z ps=some cs→B7 (fld P t) (An r z) (ps.map fun p=>(p.1,ren r p.2))=some (An r cs)
 |[],z,cs,_,h=>by
  simp only[MZ,Yf]at h
  subst h
  simp[B7]
 |(f,v)::ps,z,cs,e,h=>by
  simp only[MZ]at h
  split at h
  ·rename_i off size vs a g
   split at h
   ·rename_i c d
    have c:=Ya c
    have d:=Yc d
    have b:=L7 (r:=r) g (Ml (e (f,v) (YC ..)))
    simp only[YS,B7,ZIB hi a,b,Ca]
    rw[if_neg (by omega)]
    have:=sj hi ps _ cs (fun p a=>e p (Yu _ a)) h
    rw[←this]
    simp only[Fj,Ef,DW]
   ·cases h
  ·cases h
theorem Zkn{t:TypeId}{i:TI}(hi:TIok P t i){parts:List (Nat×AV)}(e:∀p∈parts,G8 p.2=true)(f:∀z,i.zer=some z→An r z=z)(h:QR i parts a K):
  Ek P t (parts.map fun p=>(p.1,ren r p.2)) (KR r K):=by
 unfold QR at h
 split at h
 ·rename_i z c b
  split at h
  ·rename_i cs d
   have:=sj (r:=r) hi _ _ _ e d
   unfold Ek
   rw[hi.zer _ b]
   rw[f z b]at this
   simp only[this]
   exact⟨hi.str c,.mk' h rfl⟩
  grind
 grind
theorem ZvF{x:AV}(h:x.flat=true):ren r x=x:=by cases x<;>first|(simp[ren];done)|cases h
theorem It{z:List AV}(h:z.all AV.flat=true):An r z=z:=by
 induction z with
 |nil=>simp[An]
 |cons x z a=>
  simp only[GJ,Bool.and_eq_true]at h
  rw[An,ZvF h.1,a h.2]
theorem sH{c x y:Operand}{ρ d:Operand→AV}{t:Bool}(e:ρ c=.d (.bool t))(b:d c=ren r (ρ c))(f:t=true→d x=ren r (ρ x))(hy:t=false→d y=ren r (ρ y))(h:tV T H (.pick c x y) ρ g a K):
  A4 P H' (.pick c x y) d (KR r K):=by
 simp only[tV,e]at h
 rw[e]at b
 simp only[ren]at b
 simp only[A4,b]
 rw[ZuX]at h
 cases t
 ·exact .mk' h (by simp[hy rfl])
 ·exact .mk' h (by simp[f rfl])
theorem bf{ρ a:Operand→AV}{xs:List Operand}(h:∀x∈xs,a x=ren r (ρ x)):xs.map a=An r (xs.map ρ):=by
 rw[Eg,EF]
 exact YR h
theorem tI{ρ a:Operand→AV}{o:Option Operand}(h:∀x,o=some x→a x=ren r (ρ x)):o.map a=(o.map ρ).map (ren r):=by
 cases o with
 |none=>rfl
 |some x=>simp[h x rfl]
theorem sY{r:Ren}{b:Bool}{x y:AV}{a:AT}{K:AV→AT→Prop}(h:Dw b x y (fun v=>K v a)):Dw b (ren r x) (ren r y) (KR r K):=by
 unfold Dw at h
 split at h
 ·simp only[ren,Dw];exact .mk' h rfl
 grind
theorem ZxQ(w:A9 P T)(D:CV r H H')(B:∀b,g=some b→b=true){op:Op}{ρ A:Operand→AV}(Z:∀x∈op.operands,A x=ren r (ρ x))(h:tV T H op ρ g a K):A4 P H' op A (KR r K):=by
 have get:∀{x:Operand},x∈op.operands→A x=ren r (ρ x):=fun l=>Z _ l
 cases op<;>simp only[tV]at h<;>try exact h.elim
 case move x=>exact .mk' h (get (by simp[Op.operands]))
 case assign x=>exact .mk' h (get (by simp[Op.operands]))
 case pick c x y=>
  split at h
  ·rename_i t m
   exact sH (a:=a) (g:=g) (T:=T) (H:=H) m (get (by simp[Op.operands])) (fun _=>get (by simp[Op.operands])) (fun _=>get (by simp[Op.operands])) (by simp only[tV,m];exact h)
  ·grind
 case load t x=>
  split at h
  ·rename_i i hi;simp only[A4];rw[get (x:=x) (by simp[Op.operands])];exact Z9 (w _ _ hi) D B h
  ·grind
 case fieldAddr t x f=>
  split at h
  ·rename_i i hi;simp only[A4];rw[get (x:=x) (by simp[Op.operands])];exact Zgg (w _ _ hi) D h
  ·grind
 case field t x f=>
  split at h
  ·rename_i i hi;simp only[A4];rw[get (x:=x) (by simp[Op.operands])];exact Zj9 (w _ _ hi) h
  ·grind
 case indexAddr t x j=>
  split at h
  ·rename_i i hi;simp only[A4];rw[get (x:=x) (by simp[Op.operands]),get (x:=j) (by simp[Op.operands])];exact Zgl (w _ _ hi) D B h
  ·grind
 case index t x j=>
  split at h
  ·rename_i i hi;simp only[A4];rw[get (x:=x) (by simp[Op.operands]),get (x:=j) (by simp[Op.operands])];exact Zkp (w _ _ hi) B h
  ·grind
 case makeInterface t x=>
  split at h
  case h_2=>exact h.elim
  rename_i i hi
  have F:(i.str||i.elm.isSome)=true→HB P t=true:=xL (w _ _ hi)
  simp only[A4]
  rw[get (x:=x) (by simp[Op.operands])]
  split at h
  ·rename_i xs E l
   rw[l]
   simp only[ren]
   split at h
   case h_2=>exact h.elim
   rename_i ds O
   have e:=P9 O
   subst e
   rw[F5,O]
   exact⟨F E,.mk' h rfl⟩
  ·rename_i y E l
   rw[l]
   simp only[ren]
   exact⟨F E,.mk' h rfl⟩
  ·exact h.elim
 case typeAssert x u t ok=>
  split at h
  case h_2=>exact h.elim
  rename_i i hi
  have F:(i.str||i.elm.isSome)=true→HB P t=true:=xL (w _ _ hi)
  simp only[A4]
  rw[get (x:=x) (by simp[Op.operands])]
  split at h
  case h_2=>exact h.elim
  rename_i u ds q E l
  rw[l]
  simp only[ren]
  split at h
  case h_2=>exact h.elim
  rename_i v X G
  rw[G]
  have I:ren r v=v:=by
   cases q with
   |true=>cases G;simp only[ren,F5]
   |false=>
    match ds,G with
    |[d],G=>cases G;simp only[ren]
  refine⟨F E,Ya X,.mk' h ?_⟩
  cases ok with
  |true=>simp only[cond,ren,An,I]
  |false=>exact I.symm
 case extract x j=>
  simp only[A4]
  rw[get (x:=x) (by simp[Op.operands])]
  split at h
  ·rename_i vs l
   rw[l]
   simp only[ren,FY]
   rw[BZ]at h
   split at h
   ·rename_i y hy;rw[hy];exact .mk' h rfl
   grind
  ·grind
 case binOp o t x y u=>
  split at h
  ·rename_i i hi;simp only[A4];rw[get (x:=x) (by simp[Op.operands]),get (x:=y) (by simp[Op.operands])];exact ZnA (w _ _ hi) D B h
  ·grind
 case unOp o t x=>simp only[A4];rw[get (x:=x) (by simp[Op.operands])];exact Zrq B h
 case nilCheck x=>
  split at h
  ·rename_i k q off l
   split at h
   ·rename_i hl
    simp only[A4]
    rw[get (x:=x) (by simp[Op.operands]),l]
    obtain⟨g1,Q,_,_,_⟩:=D.at hl
    simp only[ren,Hs]
    exact⟨g1.symm▸rfl,Q,.mk' h (by simp[ren])⟩
   grind
  ·rename_i cs off l
   simp only[A4]
   rw[get (x:=x) (by simp[Op.operands]),l]
   simp only[ren,Hs]
   exact .mk' h (by simp[ren])
  ·grind
 case convert s d x=>
  split at h
  ·rename_i i j hi V;simp only[A4];rw[get (x:=x) (by simp[Op.operands])];exact Zlj (w _ _ hi) (w _ _ V) B h
  ·grind
 case makeFunc fn first C=>
  have n:first.toList.map A=An r (first.toList.map ρ):=bf fun x l=>get (by simp only[Op.operands,K3];exact .inl (by simpa using l))
  have J:C.toList.map A=An r (C.toList.map ρ):=bf fun x l=>get (by simp only[Op.operands,K3];exact .inr (by simpa using l))
  simp only[A4]
  rw[n,J]
  split at h
  ·grind
  ·rename_i M
   refine .mk' h ?_
   cases fn<;>first|exact absurd rfl (M _)|simp[ren]
 case slice t x lo hi mx=>
  split at h
  ·rename_i i L
   simp only[A4]
   rw[get (x:=x) (by simp[Op.operands]),tI (o:=lo) (fun y hy=>get (by subst hy;simp[Op.operands])),tI (o:=hi) (fun y hy=>get (by subst hy;simp[Op.operands]))]
   exact ZjL (w _ _ L) D B h
  ·grind
 case build t parts=>
  split at h
  ·rename_i i hi F
   simp only[A4]
   have e:(parts.toList.map fun p=>(p.1,A p.2))=(parts.toList.map fun p=>(p.1,ρ p.2)).map fun p=>(p.1,ren r p.2):=by
    rw[EF]
    refine YR fun p N=>?_
    simp only[Function.comp]
    rw[get (x:=p.2) (by simp only[Op.operands,K4,Yy];exact⟨p,N,rfl⟩)]
   rw[e]
   refine Zkn (w _ _ hi) (fun p N=>?_) (fun z Y=>It ((w _ _ hi).flt z Y)) h
   obtain⟨q,hq,rfl⟩:=Yy.1 N
   grind
  ·grind
 case lookup t x y ck=>
  split at h
  ·rename_i i hi;simp only[A4];rw[get (x:=x) (by simp[Op.operands]),get (x:=y) (by simp[Op.operands])];exact Zlt (w _ _ hi) D B h
  ·grind
 case call c=>
  split at h
  ·rename_i x t m l W
   split at h
   ·rename_i i hi
    have n:c.args=#[x]:=YX (by simpa using l)
    have J:c.argTypes=#[t]:=YX (by simpa using W)
    simp only[A4,m,n,J]
    show 1=1∧C8 P H' t (A x) (KR r K)
    rw[get (x:=x) (by simp[Op.operands,Call.operands,m,n])]
    exact⟨rfl,ZnL (w _ _ hi) D B h⟩
   grind
  ·rename_i x y m l
   have n:c.args=#[x,y]:=YX (by simpa using l)
   simp only[A4,m,n]
   show Dw false (A x) (A y) (KR r K)
   rw[get (x:=x) (by simp[Op.operands,Call.operands,m,n]),get (x:=y) (by simp[Op.operands,Call.operands,m,n])]
   exact sY h
  ·rename_i x y m l
   have n:c.args=#[x,y]:=YX (by simpa using l)
   simp only[A4,m,n]
   show Dw true (A x) (A y) (KR r K)
   rw[get (x:=x) (by simp[Op.operands,Call.operands,m,n]),get (x:=y) (by simp[Op.operands,Call.operands,m,n])]
   exact sY h
  ·rename_i x y z m l
   have n:c.args=#[x,y,z]:=YX (by simpa using l)
   simp only[A4,m,n]
   show Fy true (A x) (A y) (A z) (KR r K)
   rw[get (x:=x) (by simp[Op.operands,Call.operands,m,n]),get (x:=y) (by simp[Op.operands,Call.operands,m,n]),get (x:=z) (by simp[Op.operands,Call.operands,m,n])]
   unfold Fy at h
   split at h
   ·rename_i R S U
    rw[R,S,U]
    simp only[ren,Fy];exact .mk' h rfl
   grind
  ·grind
end
end Go.Eng
namespace Go.Eng
set_option linter.all false
open Go Go.RowKit
abbrev Cj:=List (Nat×Bool)
abbrev BD:=List (Nat×Cj)
def lk:BD→Nat→Cj
 |[],_=>[]
 |(i,c)::r,j=>match Nat.beq i j with|true=>c|false=>lk r j
def LI(t:Bool):Bool→Bool
 |true=>t
 |false=>!t
theorem aj{t b:Bool}:LI t b=true↔t=b:=by cases t<;>cases b<;>simp[LI]
def Ih:Cj→Cj→Bool
 |[],[]=>true
 |(i,a)::r,(j,b)::q=>Nat.beq i j&&LI a b&&Ih r q
 |_,_=>false
theorem bt:∀{a b:Cj},Ih a b=true→a=b
 |[],[],_=>rfl
 |(i,a)::r,(j,b)::q,h=>by
  simp only[Ih,Bool.and_eq_true]at h
  rw[Ya h.1.1,aj.1 h.1.2,bt h.2]
 |[],_::_,h=>by simp[Ih]at h
 |_::_,[],h=>by simp[Ih]at h
def OB(a:Cj):Cj→Bool
 |[]=>Ih a []
 |q::b=>Ih a (q::b)||OB a b
theorem tt{a:Cj}:∀{b:Cj},OB a b=true→∀q∈a,q∈b
 |[],h,q,c=>by rw[bt h]at c;exact c
 |p::b,h,q,c=>by
  simp only[OB,Bool.or_eq_true]at h
  rcases h with h|h
  ·rw[bt h]at c;exact c
  ·exact Yu _ (tt h q c)
def Cu(s:Nat→AV)(c:Cj):Prop:=∀q∈c,s q.1=.d (.bool q.2)
def Fm(s:Nat→AV):Cj→Option Bool
 |[]=>some true
 |[(d,b)]=>match s d with|.d (.bool t)=>some (LI t b)|_=>none
 |(d,b)::r=>match s d,Fm s r with|.d (.bool t),some c=>some (c&&LI t b)|_,_=>none
theorem JH{s:Nat→AV}:∀{c:Cj} {g:Bool},Fm s c=some g→(g=true↔Cu s c)
 |[],g,h=>by simp only[Fm,Yf]at h;subst h;simp[Cu]
 |[(d,b)],g,h=>by
  simp only[Fm]at h
  split at h
  ·rename_i t f
   simp only[Yf]at h
   subst h
   rw[aj]
   simp[Cu,f]
  ·cases h
 |(d,b)::q::r,g,h=>by
  simp only[Fm]at h
  split at h
  ·rename_i t c f i
   simp only[Yf]at h
   subst h
   have j:=JH i
   rw[Bool.and_eq_true,j,aj]
   constructor
   ·rintro⟨e,rfl⟩ p a
    rcases Yw.1 a with rfl|a
    ·exact f
    ·exact e p a
   ·intro e
    refine⟨fun p a=>e p (Yu _ a),?_⟩
    have:=e (d,b) (YC ..)
    grind
  ·cases h
def Kl(e:Nat)(c:Cj):Bool:=c.all fun q=>!Nat.beq q.1 e
def fresh(e:Nat)(env:BD):Bool:=env.all fun p=>Kl e p.2
theorem tQ{s:Nat→AV}{e:Nat}{v:AV}{c:Cj}(h:Kl e c=true):Cu (upd s e v) c↔Cu s c:=by
 have key:∀q∈c,upd s e v q.1=s q.1:=fun q a=>by
  have:=Yk.1 h q a
  unfold upd
  rw[if_neg]
  intro he
  subst he
  simp at this
 constructor
 ·exact fun h q a=>(key q a)▸h q a
 ·exact fun h q a=>(key q a).trans (h q a)
theorem ug{e:Nat}:∀{env:BD},fresh e env=true→∀j,Kl e (lk env j)=true
 |[],_,j=>rfl
 |(i,c)::r,h,j=>by
  simp only[fresh,GJ,Bool.and_eq_true]at h
  simp only[lk]
  split
  ·exact h.1
  ·exact ug h.2 j
theorem bv{env:BD}{e:Nat}{c:Cj}(j:Nat):lk ((e,c)::env) j=if j=e then c else lk env j:=by
 simp only[lk]
 by_cases h:j=e
 ·subst h;simp
 ·rw[if_neg h]
  split
  ·rename_i a;exact absurd (Ya a).symm h
  ·rfl
def Gs(env:BD)(c:Cj):Operand→Bool
 |.tmp t=>OB (lk env t) c
 |_=>true
def BR(env:BD)(c:Cj):Op→Bool
 |.pick (.tmp d) x y=>Gs env c (.tmp d)&&Gs env ((d,true)::c) x&&Gs env ((d,false)::c) y
 |op=>op.operands.toList.all (Gs env c)
structure RenOk (r:Ren) (l outs:Nat):Prop where
 own:∀d,r.κ (1,d)=(l+1,d)
 out:∀i,i<outs→(r.κ (0,i)).1≤l
 inj:∀i j,i<outs→j<outs→r.κ (0,i)=r.κ (0,j)→i=j
 no:∀k,r.no k→∃i,i<outs∧r.κ (0,i)=k
structure RG (r:Ren) (l outs:Nat) (env:BD) (τ σ:St):Prop where
 s:∀j,(Cu τ.s (lk env j)→σ.s j=ren r (τ.s j))∧(¬Cu τ.s (lk env j)→σ.s j=.tup [])
 h:CV r τ.H σ.H
 g:∀d,(σ.H (l+1,d)).g=r.γ (1,d)+(τ.H (1,d)).g
 go:∀i,i<outs→(σ.H (r.κ (0,i))).g=r.γ (0,i)+(τ.H (0,i)).g
 k:∀k,(τ.H k).live=true→k.1=1∨(k.1=0∧k.2<outs)
 o:∀k:Ac,k.1≤l→¬r.no k→σ.H k=r.H0 k
def Gb(P:Program)(l:Nat)(r:Ren)(f:FuncId)(xs:List AV)(c:List (Ac×Blk))(x:AV):Prop:=
 ∀a,(∀p∈c,p.2.live=true→a (r.κ p.1)=AK r p.1 p.2)→(∀k:Ac,k.1≤l→¬r.no k→a k=r.H0 k)→Zct P f (l+1) (An r xs) a (fun y b=>y=ren r x∧b=a)
def MQ(P:Program)(l:Nat)(r:Ren)(i:Nat)(xs:List AV)(d:List (Ac×Blk))(x:AV):Prop:=
 ∃f first a,r.θ i=.fn (.func f) first a∧∀b,(∀p∈d,p.2.live=true→b (r.κ p.1)=AK r p.1 p.2)→(∀k:Ac,k.1≤l→¬r.no k→b k=r.H0 k)→Zct P f (l+1) (first++An r xs++a) b (fun y c=>y=ren r x∧c=b)
def RP(P:Program)(l:Nat)(r:Ren)(H:Hp)(f:AV)(xs:List AV)(g:Option Bool)(a:AT)(K:AV→AT→Prop):Prop:=
 match f,a with
 |.fn (.func i) first b,.call x ks a=>Bf g (Gb P l r i (first++xs++b) (ks.map fun k=>(k,H k)) x)∧K x a
 |.fn (.yield i) _ _,.call x ks a=>Bf g (MQ P l r i xs (ks.map fun k=>(k,H k)) x)∧K x a
 |_,_=>False
def SP(T:Nat→Option TI)(τ:St)(t:TypeId)(len:Nat)(parts:List (Nat×Operand))(a:AT)(K:AV→AT→Prop):Prop:=
 match T t with
 |some i=>(match i.elm with
  |some (e,sz)=>(match Nat.ble 1 sz,len with
   |true,0=>(match parts with|[]=>K .e0 a|_=>False)
   |true,len+1=>(match T e,Nat.ble ((len+1)*sz) 16777216 with
    |some j,true=>(match j.zer with
     |some z=>(match Nat.beq z.length sz,Eu sz 0 (parts.map fun p=>(p.1,ev τ.s p.2))with
      |true,some es=>(match Nat.beq es.length (len+1)with|true=>K (.d (.list es)) a|false=>False)
      |_,_=>False)
     |none=>False)
    |_,_=>False)
   |_,_=>False)
  |none=>False)
 |none=>False
def pV(P:Program)(T:Nat→Option TI)(l:Nat)(r:Ren)(τ:St)(op:Op)(g:Option Bool)(a:AT)(K:AV→AT→Prop):Prop:=
 match op with
 |.call c=>match c.callee with
  |.value f=>RP P l r τ.H (ev τ.s f) (c.args.toList.map (ev τ.s)) g a K
  |_=>tV T τ.H op (ev τ.s) g a K
 |.buildSlice t len parts=>SP T τ t len parts.toList a K
 |op=>tV T τ.H op (ev τ.s) g a K
def D2(n d:Nat)(K:St→AT→Prop)(τ:St)(v:AV)(a:AT):Prop:=
 match Nat.ble (d+1) n with
 |true=>K ⟨upd τ.s d v,τ.H⟩ a
 |false=>False
section
variable {P:Program} {T:Nat→Option TI} {r:Ren} {l n outs:Nat} {env:BD} {τ σ:St} {g:Option Bool} {a:AT} {c:Cj}
theorem ZG9(v:Value):ren r (cv v)=cv v:=by unfold cv;split<;>simp[ren]
theorem Iy(h:RG r l outs env τ σ)(hs:Cu τ.s c){x:Operand}(b:Gs env c x=true):ev σ.s x=ren r (ev τ.s x):=by
 cases x with
 |tmp t=>exact(h.s t).1 fun q a=>hs q (tt b q a)
 |const v=>exact(ZG9 v).symm
 |global g=>simp[ev,ren]
 |func f=>simp[ev,ren,An]
theorem EM(h:RG r l outs env τ σ)(hs:Cu τ.s c){op:Op}(a:op.operands.toList.all (Gs env c)=true):∀x∈op.operands,ev σ.s x=ren r (ev τ.s x):=
 fun x hm=>Iy h hs (Yk.1 a x (by simpa using hm))
theorem w3(u:A9 P T)(h:RG r l outs env τ σ)(hs:Cu τ.s c)(v:∀b,g=some b→b=true){op:Op}(i:BR env c op=true){K:AV→AT→Prop}(j:tV T τ.H op (ev τ.s) g a K):
  A4 P σ.H op (ev σ.s) (KR r K):=by
 unfold BR at i
 split at i
 ·rename_i d x y
  simp only[Bool.and_eq_true]at i
  obtain⟨⟨o,p⟩,s⟩:=i
  have f:=j
  simp only[tV]at f
  split at f
  ·rename_i t m
   have n:=Iy h hs o
   refine sH (T:=T) (H:=τ.H) (g:=g) (a:=a) m n (fun e=>Iy h (c:=(d,true)::c) ?_ p) (fun e=>Iy h (c:=(d,false)::c) ?_ s) j
   all_goals
    subst e
    intro q k
    rcases Yw.1 k with rfl|k
    ·exact m
    ·exact hs q k
  grind
 ·exact ZxQ u h.h v (EM h hs i) j
theorem ab(h:RG r l outs env τ σ)(hs:Cu τ.s c)(t:∀b,g=some b→b=true){cl:Call}{f:Operand}(q:cl.callee=.value f)(m:BR env c (.call cl)=true){K:AV→AT→Prop}
  (e:RP P l r τ.H (ev τ.s f) (cl.args.toList.map (ev τ.s)) g a K):
  ∃i first d x j,ev σ.s f=.fn (.func i) first d∧Zct P i (l+1) (first++cl.args.toList.map (ev σ.s)++d) σ.H (fun y u=>y=ren r x∧u=σ.H)∧K x j:=by
 have m:(Op.call cl).operands.toList.all (Gs env c)=true:=m
 have s:=EM h hs m f (by simp[Op.operands,Call.operands,q])
 have n:cl.args.toList.map (ev σ.s)=An r (cl.args.toList.map (ev τ.s)):=bf fun x hm=>EM h hs m x (by simp only[Op.operands,Call.operands,q,K3];exact .inr (by simpa using hm))
 have o:∀ks:List Ac,∀p∈ks.map fun k=>(k,τ.H k),p.2.live=true→σ.H (r.κ p.1)=AK r p.1 p.2:=fun ks p e hl=>by
  obtain⟨k,B,rfl⟩:=Yy.1 e
  exact h.h k hl
 unfold RP at e
 split at e
 ·rename_i i first d x ks j he
  have w:Gb _ _ _ _ _ _ _:=Bn t e.1
  refine⟨i,An r first,An r d,x,j,by rw[s,he];simp[ren],?_,e.2⟩
  rw[n,←Fj,←Fj]
  exact w σ.H (o ks) h.o
 ·rename_i i xs ys x ks j he
  obtain⟨v,first,d,z,A⟩:MQ _ _ _ _ _ _ _:=Bn t e.1
  refine⟨v,first,d,x,j,by rw[s,he];simp[ren,z],?_,e.2⟩
  rw[n]
  exact A σ.H (o ks) h.o
 grind
theorem RG.put(h:RG r l outs env τ σ){e:Nat}{ch:Cj}(b:fresh e env=true)(c:Kl e ch=true){v:AV}{y:AV}(hy:Cu τ.s ch→y=ren r v)(d:¬Cu τ.s ch→y=.tup []):
  RG r l outs ((e,ch)::env) ⟨upd τ.s e v,τ.H⟩ ⟨upd σ.s e y,σ.H⟩:=by
 refine⟨fun j=>?_,h.h,h.g,h.go,h.k,h.o⟩
 simp only
 rw[bv]
 by_cases a:j=e
 ·subst a
  rw[if_pos rfl,tQ c]
  simp only[upd,if_true]
  grind
 ·rw[if_neg a,tQ (ug b j)]
  simp only[upd,if_neg a]
  exact h.s j
end
section
variable {P:Program} {l n:Nat} {H:Hp} {m:Mu} {S:Nat→Prop} {w w':World} {s:Nat→AV} {a:Act}
theorem Ok.allocO(h:Ok l H m S w)(k:Ac)(P:k.1≤l)(b:Blk)(K:b.e.isO=true)(u:b.cells=[])(O:(H k).g<b.g)(o:Obj)(D:w'.heap=w.heap.push o)
  (J:Hb w' S w.heap.size b.e) (F:w'.os=w.os) (G:w'.tape=w.tape) (I:w'.output=w.output):
  Ok l (updH H k b) (A6 m k ⟨w.heap.size,0,0⟩) S w'∧Ext l H m S w (updH H k b) (A6 m k ⟨w.heap.size,0,0⟩) S w':=by
 have d:∀i,i<w.heap.size→w'.heap[i]?=w.heap[i]?:=fun i hi=>by rw[D,Y7,if_neg (by omega)]
 have j:Ext l H m S w (updH H k b) (A6 m k ⟨w.heap.size,0,0⟩) S w':=by
  refine⟨fun _ h=>h,fun i hi=>d i (h.sub i hi),fun q a=>?_,fun q a y hl=>?_,F,G,I,by rw[D];simp⟩
  ·by_cases e:q=k
   ·subst e;rw[AM];omega
   ·rw[AI _ _ e];exact Ye _
  ·by_cases e:q=k
   ·subst e;rw[AM]at y;omega
   ·rw[AI _ _ e]at hl⊢;rw[AX _ _ e];exact⟨hl,rfl,rfl⟩
 have B:∀q:Ac,q.1≤l→(H q).live=true→(m q).cap≠0→(m q).b<w.heap.size:=fun q a hl n=>by
  obtain⟨C,t,_⟩:=h.blk q a hl n
  grind
 have A:∀q:Ac,q.1≤l→(H q).live=true→(H q).e.isO=true→(m q).b<w.heap.size:=fun q a hl n=>by
  obtain⟨C,t,_⟩:=(h.mp.o q a hl).at n
  grind
 refine⟨⟨fun i hi=>?_,fun q a hl c=>?_,fun q a hl c=>?_,fun q s a r hl f c g heq=>?_,fun q a hl c=>?_,
  ⟨fun q a hl=>?_,fun q a hl he=>?_,fun q s a r hl f he p heq=>?_⟩⟩,j⟩
 ·have:=h.sub i hi;rw[D];simp;omega
 ·by_cases e:q=k
  ·subst e;rw[AM];exact u
  ·rw[AI _ _ e]at hl⊢;rw[AX _ _ e]at c;exact h.empty q a hl c
 ·by_cases e:q=k
  ·subst e;rw[A0]at c;exact absurd rfl c
  ·rw[AI _ _ e]at hl;rw[AX _ _ e]at c⊢;exact h.fresh q a hl c
 ·by_cases e:q=k
  ·subst e;rw[A0]at c;exact absurd rfl c
  ·by_cases e':s=k
   ·subst e';rw[A0]at g;exact absurd rfl g
   ·rw[AX _ _ e,AX _ _ e']at heq
    rw[AI _ _ e]at hl;rw[AI _ _ e']at f
    rw[AX _ _ e]at c;rw[AX _ _ e']at g
    exact h.inj q s a r hl f c g heq
 ·by_cases e:q=k
  ·subst e;rw[A0]at c;exact absurd rfl c
  ·rw[AI _ _ e]at hl⊢
   rw[AX _ _ e]at c⊢
   obtain⟨C,t,hs,z,N⟩:=h.blk q a hl c
   refine⟨C,by rw[d _ (B q a hl c)];exact t,hs,z,fun i x v hi M=>?_⟩
   obtain⟨E,g2⟩:=N i x v hi M
   exact⟨E,g2.ext j a⟩
 ·by_cases e:q=k
  ·subst e;rw[AM,A0];exact J
  ·rw[AI _ _ e]at hl⊢;rw[AX _ _ e]
   exact(h.mp.o q a hl).mono (fun _ h=>h) (fun i hi=>d i (h.sub i hi)) (fun L=>d _ (A q a hl L))
 ·by_cases e:q=k
  ·subst e;rw[A0];exact⟨⟨rfl,rfl⟩,fun hs=>by have:=h.sub _ hs;simp at this⟩
  ·rw[AI _ _ e]at hl he;rw[AX _ _ e];exact h.mp.c q a hl he
 ·by_cases e:q=k<;>by_cases e':s=k
  ·grind
  ·subst e
   rw[A0,AX _ _ e']at heq
   rw[AI _ _ e']at f p
   grind
  ·subst e'
   rw[A0,AX _ _ e]at heq
   rw[AI _ _ e]at hl he
   grind
  ·rw[AX _ _ e,AX _ _ e']at heq
   rw[AI _ _ e]at hl he;rw[AI _ _ e']at f p
   exact h.mp.i q s a r hl f he p heq
theorem Ok.writeO(h:Ok l H m S w)(k:Ac)(y:k.1≤l)(hl:(H k).live=true)(t:(H k).e.isO=true)(e':EK)(n:e'.isO=true)(o:Obj)
  (F:∀b,w'.heap[b]?=if b=(m k).b then some o else w.heap[b]?) (B:w'.heap.size=w.heap.size) (L:Hb w' S (m k).b e') (I:w'.os=w.os) (J:w'.tape=w.tape) (K:w'.output=w.output):
  Ok l (updH H k {H k with e:=e' }) m S w'∧Ext l H m S w (updH H k {H k with e:=e' }) m S w':=by
 obtain⟨R,T⟩:=h.mp.c k y hl t
 have j:Ext l H m S w (updH H k {H k with e:=e' }) m S w':=by
  refine⟨fun _ h=>h,fun b s=>?_,fun q d=>?_,fun q d U a=>?_,I,J,K,by omega⟩
  ·grind
  ·by_cases e:q=k
   ·subst e;rw[AM];exact Ye _
   ·rw[AI _ _ e];exact Ye _
  ·by_cases e:q=k
   ·subst e;rw[AM]at a⊢;exact⟨a,rfl,rfl⟩
   ·rw[AI _ _ e]at a⊢;exact⟨a,rfl,rfl⟩
 have f:∀q:Ac,(updH H k {H k with e:=e' } q).live=(H q).live:=fun q=>by
  by_cases e:q=k
  ·subst e;rw[AM]
  ·rw[AI _ _ e]
 have g:∀q:Ac,(H q).e.isO=(updH H k {H k with e:=e' } q).e.isO:=fun q=>by
  by_cases e:q=k
  ·subst e;rw[AM];exact t.trans n.symm
  ·rw[AI _ _ e]
 refine⟨⟨fun b s=>?_,fun q d a r=>?_,fun q d a r=>?_,fun q E d p a c r D heq=>?_,fun q d a r=>?_,
  ⟨fun q d a=>?_,fun q d a he=>?_,fun q E d p a c he n heq=>?_⟩⟩,j⟩
 ·rw[B];exact h.sub b s
 ·rw[f]at a
  have:=h.empty q d a r
  by_cases e:q=k
  ·subst e;rw[AM];exact this
  ·rw[AI _ _ e];exact this
 ·rw[f]at a;exact h.fresh q d a r
 ·rw[f]at a c;exact h.inj q E d p a c r D heq
 ·rw[f]at a
  by_cases e:q=k
  ·grind
  ·rw[AI _ _ e]
   obtain⟨C,s,hs,z,O⟩:=h.blk q d a r
   have A:(m q).b≠(m k).b:=fun u=>by
    obtain⟨V,P,Q⟩:=(h.mp.o k y hl).at t
    rw[u,P]at s;cases s;cases Q
   refine⟨C,by rw[F,if_neg A];exact s,hs,z,fun i x v hi N=>?_⟩
   obtain⟨G,g2⟩:=O i x v hi N
   exact⟨G,g2.ext j d⟩
 ·rw[f]at a
  by_cases e:q=k
  ·subst e;rw[AM];exact L
  ·rw[AI _ _ e]
   refine(h.mp.o q d a).mono (fun _ h=>h) j.blk (fun M=>?_)
   rw[F,if_neg (fun u=>e (h.mp.i q k d y a hl M t u))]
 ·rw[f]at a;rw[←g]at he;exact h.mp.c q d a he
 ·rw[f]at a c;rw[←g]at he n;exact h.mp.i q E d p a c he n heq
theorem MEnt.mod{q:Bool}{es:List (List D)}{ents:Array MapEntry}{a j:Nat}{s:ByteArray}{ds:List D}{x:MapEntry}{v:Value}(h:MEnt w S q es ents a)(o:ents[j]?=some x)(m:VR w S q ds v):
  MEnt w S q (es.set j (.str s::ds)) (ents.modify j fun e=>{e with key:=.string s,val:=v }) a:=by
 have b:∀(i:Nat) (y:MapEntry),(ents.modify j fun e=>{e with key:=.string s,val:=v })[i]?=some y→∃z,ents[i]?=some z∧y=if j=i then {z with key:=.string s,val:=v }else z:=fun i y hy=>by
  grind
 have c:∀(i:Nat) (z:MapEntry),(if j=i then({z with key:=.string s,val:=v }:MapEntry)else z).born=z.born:=fun i z=>by split<;>rfl
 refine⟨by simp[h.n],fun i k y z hy n e=>?_,fun i y hy=>?_,fun i e y hi hy=>?_⟩
 ·obtain⟨g,a1,rfl⟩:=b i y hy
  obtain⟨p,l,rfl⟩:=b k z n
  rw[c,c]at e
  exact h.born i k _ _ a1 l e
 ·obtain⟨g,a1,rfl⟩:=b i y hy
  rw[c];exact h.clk i _ a1
 ·obtain⟨g,a1,rfl⟩:=b i y hy
  by_cases d:j=i
  ·subst d
   rw[if_pos rfl]
   have f:j<es.length:=by rw[←h.n];exact Fh a1
   rw[TJ,if_pos rfl,if_pos f]at hi
   cases hi
   exact⟨s,ds,rfl,rfl,m⟩
  ·rw[if_neg d]
   rw[TJ,if_neg d]at hi
   exact h.e i e _ hi a1
theorem MEnt.push{q:Bool}{es:List (List D)}{ents:Array MapEntry}{a:Nat}{s:ByteArray}{ds:List D}{v:Value}(h:MEnt w S q es ents a)(g:VR w S q ds v):
  MEnt w S q (es++[.str s::ds]) (ents.push {key:=.string s,val:=v,born:=a }) (a+1):=by
 have b:∀(i:Nat) (y:MapEntry),(ents.push {key:=.string s,val:=v,born:=a })[i]?=some y→(i=ents.size∧y={key:=.string s,val:=v,born:=a })∨(i≠ents.size∧ents[i]?=some y):=fun i y hy=>by
  grind
 refine⟨by simp[h.n],fun i k y z hy j e=>?_,fun i y hy=>?_,fun i e y hi hy=>?_⟩
 ·rcases b i y hy with⟨rfl,rfl⟩|⟨a1,c⟩<;>rcases b k z j with⟨rfl,rfl⟩|⟨l,f⟩
  ·rfl
  ·have:=h.clk k z f;simp only at e;omega
  ·have:=h.clk i y c;simp only at e;omega
  ·exact h.born i k y z c f e
 ·rcases b i y hy with⟨rfl,rfl⟩|⟨a1,c⟩
  ·grind
  ·exact Nat.lt_succ_of_lt (h.clk i y c)
 ·rcases b i y hy with⟨rfl,rfl⟩|⟨a1,c⟩
  ·rw[h.n,Yn (Ye _),Nat.sub_self]at hi
   cases hi
   exact⟨s,ds,rfl,rfl,g⟩
  ·have d:i<es.length:=by rw[←h.n];exact Fh c
   rw[Yh d]at hi
   exact h.e i e y hi c
theorem MEnt.del{q:Bool}{es:List (List D)}{ents:Array MapEntry}{a j:Nat}(h:MEnt w S q es ents a)(d:j<ents.size):MEnt w S q (es.eraseIdx j) (ents.eraseIdxIfInBounds j) a:=by
 have f:(ents.eraseIdxIfInBounds j).toList=ents.toList.eraseIdx j:=by
  unfold Array.eraseIdxIfInBounds
  rw[dif_pos d,Array.toList_eraseIdx]
 have b:∀(i:Nat) (y:MapEntry),(ents.eraseIdxIfInBounds j)[i]?=some y→ents[if i<j then i else i+1]?=some y:=fun i y hy=>by
  grind
 have c:∀i k:Nat,(if i<j then i else i+1)=(if k<j then k else k+1)→i=k:=fun i k=>by split<;>split<;>omega
 refine⟨?_,fun i k y z hy g e=>c i k (h.born _ _ _ _ (b i y hy) (b k z g) e),fun i y hy=>h.clk _ _ (b i y hy),fun i e y hi hy=>?_⟩
 ·have:=congrArg List.length f
  rw[YJ,List.length_eraseIdx,YJ,if_pos d]at this
  rw[this,List.length_eraseIdx,if_pos (by rw[←h.n];exact d),h.n]
 ·refine h.e _ e y ?_ (b i y hy)
  grind
theorem ZO{α:Type}(f:α→Nat)(g:α→Bool):∀(L:List α),(∀(i j:Nat) (x y:α),L[i]?=some x→L[j]?=some y→f x=f y→i=j)→∀(i:Nat) (x:α),(L.filter g)[i]?=some x→L.filter (fun y=>g y&&!(f y==f x))=(L.filter g).eraseIdx i
 |[],_,i,x,h=>by simp at h
 |y::L,d,i,x,h=>by
  have a:∀(i j:Nat) (x y:α),L[i]?=some x→L[j]?=some y→f x=f y→i=j:=fun i j x z hi c e=>KX (d (i+1) (j+1) x z (by simpa using hi) (by simpa using c) e)
  have hy:∀z∈L,f y≠f z:=fun z l e=>by
   obtain⟨j,c⟩:=Yv.1 l
   have:=d 0 (j+1) y z rfl (by simpa using c) e
   omega
  by_cases b:g y=true
  ·rw[jN b]at h⊢
   cases i with
   |zero=>
    simp only[YQ,Yf]at h
    subst h
    rw[NK (by simp),List.eraseIdx_cons_zero]
    apply List.filter_congr
    grind
   |succ i=>
    rw[Y6]at h
    have k:x∈L:=(YW.1 (Yi h)).1
    rw[jN (by simp[b,hy x k]),Tx,ZO f g L a i x h]
  ·rw[NK b]at h⊢
   rw[NK (by simp[b])]
   exact ZO f g L a i x h
end
end Go.Eng
