import Derived.Test.YtjbijbkdiijhaaaGreatZc04
import Derived.Test.YtjbijbkdiijhaaaGreatZc01
import Derived.Maps.RangeRun
import Derived.Test.YtjbijbkdiijhaaaGreatZc03
import Derived.Test.YtjbijbkdiijhaaaGreatZc00
namespace Go.Eng
set_option linter.all false
open Go Go.RowKit
section
variable {P:Program} {T:Nat→Option TI} {r:Ren} {H H':Hp} {g:Option Bool} {a:AT} {K:AV→AT→Prop}
def KR(r:Ren)(K:AV→AT→Prop)(y:AV):Prop:=∃v a,y=ren r v∧K v a
theorem KR.mk{v:AV}{a:AT}(h:K v a):KR r K (ren r v):=⟨v,a,rfl,h⟩
theorem KR.mk'{v y:AV}{a:AT}(h:K v a)(e:y=ren r v):KR r K y:=⟨v,a,e,h⟩
theorem r6{t:TypeId}{i:TI}(hi:TIok P t i)(h:(i.str||i.elm.isSome)=true):J4 P t=true:=by
 rw[YH]at h
 unfold J4
 rcases h with h|h
 ·have:=hi.str h
  unfold Mn at this
  split at this
  ·rename_i a _;rw[a]
  ·cases this
 ·obtain⟨e,he⟩:=Y7.1 h
  obtain⟨b,c⟩:=e
  have:=(E1 (hi.elm _ he)).1
  rw[this]
theorem jZ{t:TypeId}{i:TI}(hi:TIok P t i)(y:DD r H H')(p:∀b,g=some b→b=true){x:AV}(h:Nj i H x g a K):EH P H' t (ren r x) (KR r K):=by
 unfold Nj at h
 cases x<;>simp only at h<;>try exact h.elim
 case iptr cs off=>
  simp only[ren,EH,hi.agg,hi.siz]
  split at h
  ·rename_i he
   rw[he]
   split at h
   ·rename_i c d f
    obtain⟨m,n⟩:=kK _ _ _ f
    have d:=Yh d
    rw[Do]at n
    exact⟨by omega,by omega,.mk' h (by rw[m,ren,H9])⟩
   grind
  ·rename_i he
   rw[he]
   rw[Cs]at h
   simp only
   split at h
   ·rename_i c o;simp only[o];exact .mk' h rfl
   grind
 case ptr k q off=>
  simp only[ren,EH,hi.agg,hi.siz]
  split at h
  ·rename_i hl
   obtain⟨s,u,z,A,v⟩:=y.at hl
   refine⟨s,u,?_⟩
   rw[v]
   split at h
   ·split at h
    ·rename_i he
     rw[he]
     split at h
     ·rename_i c d f
      obtain⟨m,n⟩:=kK _ _ _ f
      have d:=Yh d
      rw[Do]at n
      exact⟨by omega,by rw[CK];omega,.mk' h (by rw[ren,E2,FH,m])⟩
     grind
    ·rename_i he
     rw[he]
     rw[Cs]at h
     split at h
     ·rename_i c o;simp only[H7,o,YY];exact .mk' h rfl
     grind
   ·split at h
    ·rename_i he
     rw[he]
     split at h
     ·rename_i c B d f
      have d:=Yh d
      have f:=Yd f
      have j:DN _ _ _:=BB p h.1
      unfold DN at j
      rw[f]at j
      have w:=congrArg List.length j
      rw[YD,Do]at w
      exact⟨by omega,by rw[CK];omega,.mk' h.2 (by rw[ren,E2,FH,j])⟩
     grind
    ·rename_i he
     rw[he]
     split at h
     ·rename_i x
      have j:DN _ _ _:=BB p h.1
      unfold DN at j
      have e:(H k).cells[off]?=some x:=by
       have:=congrArg (fun l=>l[0]?) j
       grind
      simp only[H7,e,YY]
      exact .mk' h.2 rfl
     grind
   grind
  ·grind
theorem Nd{t:TypeId}{i:TI}(hi:TIok P t i){f:Nat}{x:Nat×Nat×Bool}(h:Bs i.fld f=some x):fld P t f=some (x.1,x.2.1)∧Mc P t f=some x:=by
 rw[Cs]at h;exact hi.fld f x h
theorem ZgZ{t:TypeId}{i:TI}(hi:TIok P t i)(j:DD r H H'){f:Nat}{x:AV}(h:Vj i H f x a K):E0 P H' t f (ren r x) (KR r K):=by
 unfold Vj at h
 split at h
 ·rename_i o n b k
  have e:=(Nd hi k).1
  split at h
  ·rename_i c
   have c:=Yh c
   unfold E0
   rw[e]
   split at h
   ·simp only[ren];exact⟨by omega,.mk' h rfl⟩
   ·split at h
    ·rename_i hl
     obtain⟨d,g,_⟩:=j.at hl
     simp only[ren];exact⟨by omega,d,g,.mk' h rfl⟩
    grind
   grind
  grind
 grind
theorem Zmj{t:TypeId}{i:TI}(hi:TIok P t i){f:Nat}{x:AV}(h:WQ i f x a K):Fb P t f (ren r x) (KR r K):=by
 unfold WQ at h
 rw[ZsN]
 split at h
 ·rename_i o n cs b
  rw[(Nd hi b).2]
  split at h
  ·rename_i d
   have d:=Yh d
   simp only[ren,O4]
   exact⟨by omega,.mk' h (by rw[ren,E2,FH])⟩
  grind
 ·rename_i o n cs b
  rw[(Nd hi b).2]
  rw[Cs]at h
  split at h
  ·rename_i c e
   simp only[ren,O4,H7,e,YY]
   exact .mk' h rfl
  grind
 grind
theorem ZgX{t:TypeId}{i:TI}(hi:TIok P t i)(w:DD r H H')(m:∀b,g=some b→b=true){x j:AV}(h:Vo i H x j g a K):Ew P H' t (ren r x) (ren r j) (KR r K):=by
 unfold Vo at h
 split at h
 ·rename_i e sz k n he
  have he:=hi.elm _ he
  split at h
  ·rename_i y e' q
   split at h
   ·rename_i c d
    have c:=Yd c
    have d:=Yh d
    obtain⟨f,l⟩:Jo _ _ _:=BB m h.1
    simp only[ren,Ew,he]
    refine⟨f,?_⟩
    rw[l]
    exact⟨c,by omega,.mk' h.2 rfl⟩
   grind
  ·rename_i k q off len o B
   split at h
   ·rename_i hl c d
    have c:=Yd c
    have d:=Yh d
    obtain⟨p,s,z,u,A⟩:=w.at hl
    obtain⟨f,l,v⟩:Mp _ _ _ _ _:=BB m h.1
    simp only[ren,Ew,he]
    exact⟨f,l,p,s,by rw[u,c],by omega,.mk' h.2 (by rw[ren,v])⟩
   grind
  grind
 grind
theorem Zl7{t:TypeId}{i:TI}(hi:TIok P t i)(m:∀b,g=some b→b=true){x j:AV}(h:WG i x j g a K):FL P t (ren r x) (ren r j) (KR r K):=by
 unfold WG at h
 split at h
 ·rename_i s k n b q
  split at h
  ·rename_i d
   have d:=Yd d
   obtain⟨e,c,f,l⟩:Jk _ _ _:=BB m h.1
   simp only[ren,FL]
   refine⟨by rw[hi.kin];exact d,e,?_⟩
   rw[f]
   exact .mk' h.2 (by rw[ren,l])
  grind
 grind
theorem ZqX{op:BinOp}{k:IntKind}{x y:Int}(c:∀b,g=some b→b=true)(h:Uc op k x y g a K):GL op k x y (KR r K):=by
 unfold Uc at h
 cases op<;>simp only at h<;>try exact h.elim
 all_goals simp only[GL]
 case eql=>exact .mk' h rfl
 case neq=>exact .mk' h rfl
 case lss=>exact .mk' h rfl
 case leq=>exact .mk' h rfl
 case gtr=>exact .mk' h rfl
 case geq=>exact .mk' h rfl
 case add|sub|mul=>
  split at h
  ·have e:Cy _ _ _:=BB c h.1
   unfold Cy at e
   rw[e];exact .mk' h.2 rfl
  ·grind
 case and|or|xor=>
  split at h
  ·have e:BK _ _:=BB c h.1
   unfold BK at e
   rw[e];exact .mk' h.2 rfl
  ·grind
 case quo=>
  split at h
  ·have e:Cy _ _ _:=BB c h.2.1
   unfold Cy at e
   rw[e];exact⟨BB c h.1,.mk' h.2.2 rfl⟩
  ·grind
 case rem=>
  split at h
  ·have e:BK _ _:=BB c h.2.1
   unfold BK at e
   rw[e];exact⟨BB c h.1,.mk' h.2.2 rfl⟩
  ·grind
 case shr=>
  split at h
  ·have e:BK _ _:=BB c h.2.1
   unfold BK at e
   rw[e];exact⟨BB c h.1,.mk' h.2.2 rfl⟩
  ·grind
 case shl=>
  split at h
  ·have e:Cy _ _ _:=BB c h.2.1
   unfold Cy at e
   rw[e];exact⟨BB c h.1,.mk' h.2.2 rfl⟩
  ·grind
theorem Zqo{op:BinOp}{x y:ByteArray}(c:∀b,g=some b→b=true)(h:TP op x y g a K):GP op x y (KR r K):=by
 unfold TP at h
 cases op<;>simp only at h<;>try exact h.elim
 all_goals simp only[GP]
 case add=>exact⟨BB c h.1,.mk' h.2 rfl⟩
 all_goals exact .mk' h rfl
theorem zH{neg:Bool}{x:AV}(i:DD r H H')(h:Mx H neg x a K):DV H' neg (ren r x) (KR r K):=by
 unfold Mx at h
 split at h
 ·simp only[ren,DV];exact fun b=>.mk' (h b) rfl
 ·rename_i c
  cases c with
  |nil=>simp only[ren,DV];exact fun b=>.mk' (h b (fun e=>absurd rfl e)) rfl
  |cons e c=>simp only[ren,DV];exact .mk' (h neg (fun _=>rfl)) rfl
 ·rename_i k q off n
  split at h
  ·rename_i hl
   obtain⟨f,g,_⟩:=i.at hl
   simp only[ren,DV]
   exact⟨⟨f,g⟩,fun d=>.mk' (h neg (fun _=>rfl)) rfl,fun d b=>.mk' (h b (fun e=>absurd d e)) rfl⟩
  grind
 grind
theorem z6:∀(ks:List Nat) (xs ys:List AV) (b:Bool),EG ks xs ys=some b→EG ks (Ar r xs) (Ar r ys)=some b
 |[],[],[],b,h=>by simpa[Ar]using h
 |k::ks,x::xs,y::ys,b,h=>by
  cases x<;>cases y<;>simp only[EG]at h<;>try (cases h;done)
  rename_i x y
  simp only[Ar,ren,EG]
  split at h
  ·rename_i d e a c
   simp only[a,z6 ks xs ys _ c]
   exact h
  ·cases h
 |[],[],_::_,b,h=>by simp[EG]at h
 |[],_::_,_,b,h=>by simp[EG]at h
 |_::_,[],_,b,h=>by simp[EG]at h
 |_::_,x::_,[],b,h=>by cases x<;>simp[EG]at h
theorem ZJZ{H:Hp}{op:BinOp}{t:TypeId}{a:Bool}{x:AV}{K:AV→Prop}:CL P H op t a x .e0 K=(a=true∧kin P t=4∧match op with|.eql=>DV H false x K|.neq=>DV H true x K|_=>False):=by
 unfold CL
 grind
theorem ZqF{t:TypeId}{i:TI}(hi:TIok P t i)(e:DD r H H')(f:∀b,g=some b→b=true){op:BinOp}{j:Bool}{x y:AV}(h:TT i H op j x y g a K):CL P H' op t j (ren r x) (ren r y) (KR r K):=by
 unfold TT at h
 split at h
 ·split at h
  ·rename_i c
   simp only[ren,CL]
   exact⟨ZPB c,ZqX f h⟩
  grind
 ·simp only[ren,CL];exact Zqo f h
 ·split at h
  ·rename_i c
   simp only[ren,CL]
   refine⟨by rw[hi.kin];exact Yd c,?_⟩
   split at h
   ·exact .mk' h rfl
   ·exact .mk' h rfl
   grind
  grind
 ·rename_i xs ys
  split at h
  ·rename_i ks d
   split at h
   ·rename_i b l
    simp only[ren,CL,Hw,hi.eqt _ d,z6 _ _ _ _ l]
    split at h
    ·exact .mk' h rfl
    ·exact .mk' h rfl
    grind
   grind
  grind
 ·rw[show ren r .e0=.e0 from by simp[ren],ZJZ]
  split at h
  ·rename_i m k
   refine⟨rfl,by rw[hi.kin];exact Yd k,?_⟩
   split at h
   ·exact zH e h
   ·exact zH e h
   grind
  grind
 grind
theorem ZrR{op:UnOp}{x:AV}(c:∀b,g=some b→b=true)(h:Zv op x g a K):ER op (ren r x) (KR r K):=by
 unfold Zv at h
 split at h
 ·simp only[ren,ER];exact .mk' h rfl
 ·split at h
  ·have e:Cy _ _ _:=BB c h.1
   unfold Cy at e
   simp only[ren,ER]
   rw[e];exact .mk' h.2 rfl
  grind
 ·split at h
  ·have e:BK _ _:=BB c h.1
   unfold BK at e
   simp only[ren,ER]
   rw[e];exact .mk' h.2 rfl
  grind
 grind
theorem Zna{s d:TypeId}{i j:TI}(hi:TIok P s i)(k:TIok P d j){x:AV}(l:∀b,g=some b→b=true)(h:Xl i j x g a K):Fe P s d (ren r x) (KR r K):=by
 unfold Xl at h
 split at h
 ·split at h
  ·rename_i q n p k' o m t c f
   have e:Cy _ _ _:=BB l h.1
   unfold Cy at e
   simp only[ren,Fe,hi.ik _ c,k.ik _ f]
   rw[e];exact .mk' h.2 rfl
  grind
 ·split at h
  ·rename_i c f
   simp only[ren,Fe,JE (by rw[hi.kin];exact Yd c),JE (by rw[k.kin];exact Yd f)]
   exact .mk' h rfl
  grind
 grind
theorem M1{d l:Nat}{o a:Option AV}(h:D1 d o l)(b:a=o.map (ren r)):Ej d a=some l:=by
 subst b
 unfold D1 at h
 split at h
 ·simp[Ej,h]
 ·subst h
  simp[Ej,ren]
 grind
theorem ZlG{t:TypeId}{i:TI}(hi:TIok P t i)(B:DD r H H')(c:∀b,g=some b→b=true){x:AV}{lo q:Option AV}{v:Bool}(h:WZ i H x lo q v g a K):
  EA P H' t (ren r x) (lo.map (ren r)) (q.map (ren r)) v (KR r K):=by
 unfold WZ at h
 split at h
 ·split at h
  ·split at h
   ·rename_i C
    obtain⟨m,n,o,p⟩:=h
    have f:=M1 (r:=r) (BB c m) rfl
    have j:=M1 (r:=r) (BB c n) rfl
    have d:Gg _ _ _:=BB c o
    simp only[ren,EA,f,j]
    exact⟨by rw[hi.kin];exact Yd C,trivial,d.1,d.2,.mk' p rfl⟩
   grind
  ·split at h
   ·rename_i e sz w D he
    split at h
    ·rename_i l
     have l:=Yh l
     obtain⟨m,n,o,p,u⟩:=h
     have f:=M1 (r:=r) (BB c m) rfl
     have j:=M1 (r:=r) (BB c n) rfl
     have d:Gg _ _ _:=BB c o
     have k:SF _ _ _ _ _:=BB c p
     simp only[ren,EA,f,j,hi.elm _ he]
     exact⟨trivial,by omega,k.1,d.1,d.2,.mk' u (by rw[ren,k.2])⟩
    grind
   grind
  ·split at h
   ·rename_i e sz I G D he hl
    split at h
    ·rename_i l s
     have l:=Yh l
     obtain⟨y,z,E,A,F⟩:=B.at hl
     obtain⟨m,n,o,p,u⟩:=h
     have f:=M1 (r:=r) (BB c m) rfl
     have j:=M1 (r:=r) (BB c n) rfl
     have d:Gg _ _ _:=BB c o
     have k:ZS _ _ _ _ _:=BB c p
     simp only[ren,EA,f,j,hi.elm _ he]
     exact⟨trivial,y,z,by omega,by rw[A];exact Yd s,d.1,d.2,.mk' u (by rw[ren,k.1,k.2])⟩
    grind
   grind
  grind
 grind
theorem Zqg{t:TypeId}{i:TI}(hi:TIok P t i)(k:DD r H H')(d:∀b,g=some b→b=true){x:AV}(h:Uf i H x g a K):DR P H' t (ren r x) (KR r K):=by
 unfold Uf at h
 split at h
 ·split at h
  ·rename_i c
   have e:BK _ _:=BB d h.1
   unfold BK at e
   simp only[ren,DR,hi.kin]
   exact⟨Yd c,.mk' h.2 (by rw[ren,e])⟩
  grind
 ·split at h
  ·rename_i c
   have e:BK _ _:=BB d h.1
   unfold BK at e
   simp only[ren,DR,hi.kin]
   exact⟨Yd c,.mk' h.2 (by rw[ren,e])⟩
  grind
 ·split at h
  ·rename_i c
   have e:BK _ _:=BB d h.1
   unfold BK at e
   simp only[ren,DR,hi.kin]
   exact⟨Yd c,.mk' h.2 (by rw[ren,e])⟩
  grind
 ·split at h
  ·rename_i c hl
   have e:BK _ _:=BB d h.1
   unfold BK at e
   obtain⟨f,j,_⟩:=k.at hl
   simp only[ren,DR,hi.kin]
   exact⟨Yd c,f,j,.mk' h.2 (by rw[ren,e])⟩
  grind
 grind
theorem Zqh(a:DD r H H'){x:AV}{y:Bool×List (List D)}(h:n7 H x=some y):Nr H' (ren r x)=some y:=by
 unfold n7 at h
 split at h
 ·simp only[ren,Nr];exact h
 ·split at h
  ·rename_i k g _ _ q b hl he
   obtain⟨c,d,e,_,_⟩:=a.at hl
   simp only[ren,Nr]
   grind
  ·cases h
 ·cases h
theorem ZrI(q:Bool)(ds:List D):ren r (N3 q ds)=N3 q ds:=by
 unfold N3
 split<;>simp[ren,H9]
theorem ZKr(a q:Bool)(ds:List D)(ok:Bool):ren r (N1 a q ds ok)=N1 a q ds ok:=by
 unfold N1
 cases a
 ·exact ZrI q ds
 ·simp only[ren,Ar,ZrI]
theorem Znf{t:TypeId}{i:TI}(hi:TIok P t i)(k:DD r H H')(l:∀b,g=some b→b=true){x y:AV}{c:Bool}(h:Ze i H x y c g a K):GD P H' t (ren r x) (ren r y) c (KR r K):=by
 unfold Ze at h
 split at h
 ·rename_i q z p o s ok vs n f j
  split at h
  ·rename_i m
   obtain⟨d,e⟩:Rh _ _ _ _ _:=BB l h.1
   simp only[GD,hi.mp _ f,Zqh k j,ren]
   exact⟨ZMV m,.mk' h.2 (by rw[d,e,ZKr])⟩
  grind
 grind
theorem Pz{x:AV}{vs:List AV}(h:CZ x=some vs)(hx:∀f xs ys,x≠.fn (.yield f) xs ys):CZ (ren r x)=some (Ar r vs):=by
 cases x<;>simp only[CZ,Yj]at h<;>try (cases h;done)
 case fn f xs ys=>
  subst h
  cases f with
  |yield i=>exact absurd rfl (hx i xs ys)
  |_=>simp[ren,Ar,CZ]
 all_goals(subst h;simp[ren,Ar,CZ])
theorem Qd{x:AV}(h:Js x=true):∀f xs ys,x≠.fn (.yield f) xs ys:=by
 rintro f xs ys rfl;cases h
theorem ZPc{t:TypeId}{i:TI}(hi:TIok P t i){f o n:Nat}(h:qe i f=some (o,n)):fld P t f=some (o,n):=by
 unfold qe at h
 split at h
 ·rename_i d c b a
  simp only[Yj,G2]at h
  obtain⟨rfl,rfl⟩:=h
  exact(Nd hi a).1
 ·cases h
theorem zi{t:TypeId}{i:TI}(hi:TIok P t i):∀(ps:List (Nat×AV)) (z cs:List AV),(∀p∈ps,Js p.2=true)→RK i z ps=some cs→CD (fld P t) (Ar r z) (ps.map fun p=>(p.1,ren r p.2))=some (Ar r cs)
 |[],z,cs,_,h=>by
  simp only[RK,Yj]at h
  subst h
  simp[CD]
 |(f,v)::ps,z,cs,e,h=>by
  simp only[RK]at h
  split at h
  ·rename_i off size vs a g
   split at h
   ·rename_i c d
    have c:=Yd c
    have d:=Yh d
    have b:=Pz (r:=r) g (Qd (e (f,v) (YE ..)))
    simp only[YW,CD,ZPc hi a,b,CK]
    rw[Ym (by omega)]
    have:=zi hi ps _ cs (fun p a=>e p (Yz _ a)) h
    rw[←this]
    simp only[G8,FH,E2]
   ·cases h
  ·cases h
theorem ZlA{t:TypeId}{i:TI}(hi:TIok P t i){parts:List (Nat×AV)}(e:∀p∈parts,Js p.2=true)(f:∀z,i.zer=some z→Ar r z=z)(h:WA i parts a K):
  FM P t (parts.map fun p=>(p.1,ren r p.2)) (KR r K):=by
 unfold WA at h
 split at h
 ·rename_i z c b
  split at h
  ·rename_i cs d
   have:=zi (r:=r) hi _ _ _ e d
   unfold FM
   rw[hi.zer _ b]
   rw[f z b]at this
   simp only[this]
   exact⟨hi.str c,.mk' h rfl⟩
  grind
 grind
theorem ZAo{x:AV}(h:x.flat=true):ren r x=x:=by cases x<;>first|(simp[ren];done)|cases h
theorem KZ{z:List AV}(h:z.all AV.flat=true):Ar r z=z:=by
 induction z with
 |nil=>simp[Ar]
 |cons x z a=>
  simp only[IZ,Yc]at h
  rw[Ar,ZAo h.1,a h.2]
theorem zh{c x y:Operand}{ρ d:Operand→AV}{t:Bool}(e:ρ c=.d (.bool t))(b:d c=ren r (ρ c))(hx:t=true→d x=ren r (ρ x))(hy:t=false→d y=ren r (ρ y))(h:tV T H (.pick c x y) ρ g a K):
  Bb P H' (.pick c x y) d (KR r K):=by
 simp only[tV,e]at h
 rw[e]at b
 simp only[ren]at b
 simp only[Bb,b]
 rw[ZAu]at h
 cases t
 ·exact .mk' h (by simp[hy rfl])
 ·exact .mk' h (by simp[hx rfl])
theorem lH{ρ a:Operand→AV}{xs:List Operand}(h:∀x∈xs,a x=ren r (ρ x)):xs.map a=Ar r (xs.map ρ):=by
 rw[FJ,I0]
 exact Es h
theorem Zpf{ρ a:Operand→AV}{o:Option Operand}(h:∀x,o=some x→a x=ren r (ρ x)):o.map a=(o.map ρ).map (ren r):=by
 cases o with
 |none=>rfl
 |some x=>simp[h x rfl]
theorem zZ{r:Ren}{b:Bool}{x y:AV}{a:AT}{K:AV→AT→Prop}(h:Ep b x y (fun v=>K v a)):Ep b (ren r x) (ren r y) (KR r K):=by
 unfold Ep at h
 split at h
 ·simp only[ren,Ep];exact .mk' h rfl
 grind
theorem ZAm(n:Bj P T)(C:DD r H H')(A:∀b,g=some b→b=true){op:Op}{ρ w:Operand→AV}(Z:∀x∈op.operands,w x=ren r (ρ x))(h:tV T H op ρ g a K):Bb P H' op w (KR r K):=by
 have get:∀{x:Operand},x∈op.operands→w x=ren r (ρ x):=fun hx=>Z _ hx
 cases op<;>simp only[tV]at h<;>try exact h.elim
 case move x=>exact .mk' h (get (by simp[Op.operands]))
 case assign x=>exact .mk' h (get (by simp[Op.operands]))
 case pick c x y=>
  split at h
  ·rename_i t l
   exact zh (a:=a) (g:=g) (T:=T) (H:=H) l (get (by simp[Op.operands])) (fun _=>get (by simp[Op.operands])) (fun _=>get (by simp[Op.operands])) (by simp only[tV,l];exact h)
  ·grind
 case load t x=>
  split at h
  ·rename_i i hi;simp only[Bb];rw[get (x:=x) (by simp[Op.operands])];exact jZ (n _ _ hi) C A h
  ·grind
 case fieldAddr t x f=>
  split at h
  ·rename_i i hi;simp only[Bb];rw[get (x:=x) (by simp[Op.operands])];exact ZgZ (n _ _ hi) C h
  ·grind
 case field t x f=>
  split at h
  ·rename_i i hi;simp only[Bb];rw[get (x:=x) (by simp[Op.operands])];exact Zmj (n _ _ hi) h
  ·grind
 case indexAddr t x j=>
  split at h
  ·rename_i i hi;simp only[Bb];rw[get (x:=x) (by simp[Op.operands]),get (x:=j) (by simp[Op.operands])];exact ZgX (n _ _ hi) C A h
  ·grind
 case index t x j=>
  split at h
  ·rename_i i hi;simp only[Bb];rw[get (x:=x) (by simp[Op.operands]),get (x:=j) (by simp[Op.operands])];exact Zl7 (n _ _ hi) A h
  ·grind
 case makeInterface t x=>
  split at h
  case h_2=>exact h.elim
  rename_i i hi
  have E:(i.str||i.elm.isSome)=true→J4 P t=true:=r6 (n _ _ hi)
  simp only[Bb]
  rw[get (x:=x) (by simp[Op.operands])]
  split at h
  ·rename_i xs D hx
   rw[hx]
   simp only[ren]
   split at h
   case h_2=>exact h.elim
   rename_i ds N
   have e:=VQ N
   subst e
   rw[H9,N]
   exact⟨E D,.mk' h rfl⟩
  ·rename_i y D hx
   rw[hx]
   simp only[ren]
   exact⟨E D,.mk' h rfl⟩
  ·exact h.elim
 case typeAssert x u t ok=>
  split at h
  case h_2=>exact h.elim
  rename_i i hi
  have E:(i.str||i.elm.isSome)=true→J4 P t=true:=r6 (n _ _ hi)
  simp only[Bb]
  rw[get (x:=x) (by simp[Op.operands])]
  split at h
  case h_2=>exact h.elim
  rename_i u ds q D hx
  rw[hx]
  simp only[ren]
  split at h
  case h_2=>exact h.elim
  rename_i v X F
  rw[F]
  have G:ren r v=v:=by
   cases q with
   |true=>cases F;simp only[ren,H9]
   |false=>
    match ds,F with
    |[d],F=>cases F;simp only[ren]
  refine⟨E D,Yd X,.mk' h ?_⟩
  cases ok with
  |true=>simp only[cond,ren,Ar,G]
  |false=>exact G.symm
 case extract x j=>
  simp only[Bb]
  rw[get (x:=x) (by simp[Op.operands])]
  split at h
  ·rename_i vs hx
   rw[hx]
   simp only[ren,H7]
   rw[Cs]at h
   split at h
   ·rename_i y hy;rw[hy];exact .mk' h rfl
   grind
  ·grind
 case binOp o t x y u=>
  split at h
  ·rename_i i hi;simp only[Bb];rw[get (x:=x) (by simp[Op.operands]),get (x:=y) (by simp[Op.operands])];exact ZqF (n _ _ hi) C A h
  ·grind
 case unOp o t x=>simp only[Bb];rw[get (x:=x) (by simp[Op.operands])];exact ZrR A h
 case nilCheck x=>
  split at h
  ·rename_i k q off hx
   split at h
   ·rename_i hl
    simp only[Bb]
    rw[get (x:=x) (by simp[Op.operands]),hx]
    obtain⟨O,Q,_,_,_⟩:=C.at hl
    simp only[ren,Jg]
    exact⟨O.symm▸rfl,Q,.mk' h (by simp[ren])⟩
   grind
  ·rename_i cs off hx
   simp only[Bb]
   rw[get (x:=x) (by simp[Op.operands]),hx]
   simp only[ren,Jg]
   exact .mk' h (by simp[ren])
  ·grind
 case convert s d x=>
  split at h
  ·rename_i i j hi V;simp only[Bb];rw[get (x:=x) (by simp[Op.operands])];exact Zna (n _ _ hi) (n _ _ V) A h
  ·grind
 case makeFunc fn first B=>
  have m:first.toList.map w=Ar r (first.toList.map ρ):=lH fun x hx=>get (by simp only[Op.operands,OD];exact .inl (by simpa using hx))
  have I:B.toList.map w=Ar r (B.toList.map ρ):=lH fun x hx=>get (by simp only[Op.operands,OD];exact .inr (by simpa using hx))
  simp only[Bb]
  rw[m,I]
  split at h
  ·grind
  ·rename_i L
   refine .mk' h ?_
   cases fn<;>first|exact absurd rfl (L _)|simp[ren]
 case slice t x lo hi mx=>
  split at h
  ·rename_i i J
   simp only[Bb]
   rw[get (x:=x) (by simp[Op.operands]),Zpf (o:=lo) (fun y hy=>get (by subst hy;simp[Op.operands])),Zpf (o:=hi) (fun y hy=>get (by subst hy;simp[Op.operands]))]
   exact ZlG (n _ _ J) C A h
  ·grind
 case build t parts=>
  split at h
  ·rename_i i hi E
   simp only[Bb]
   have e:(parts.toList.map fun p=>(p.1,w p.2))=(parts.toList.map fun p=>(p.1,ρ p.2)).map fun p=>(p.1,ren r p.2):=by
    rw[I0]
    refine Es fun p M=>?_
    simp only[Function.comp]
    rw[get (x:=p.2) (by simp only[Op.operands,OE,YS];exact⟨p,M,rfl⟩)]
   rw[e]
   refine ZlA (n _ _ hi) (fun p M=>?_) (fun z Y=>KZ ((n _ _ hi).flt z Y)) h
   obtain⟨q,hq,rfl⟩:=YS.1 M
   grind
  ·grind
 case lookup t x y ck=>
  split at h
  ·rename_i i hi;simp only[Bb];rw[get (x:=x) (by simp[Op.operands]),get (x:=y) (by simp[Op.operands])];exact Znf (n _ _ hi) C A h
  ·grind
 case call c=>
  split at h
  ·rename_i x t l hx W
   split at h
   ·rename_i i hi
    have m:c.args=#[x]:=Dc (by simpa using hx)
    have I:c.argTypes=#[t]:=Dc (by simpa using W)
    simp only[Bb,l,m,I]
    show 1=1∧DR P H' t (w x) (KR r K)
    rw[get (x:=x) (by simp[Op.operands,Call.operands,l,m])]
    exact⟨rfl,Zqg (n _ _ hi) C A h⟩
   grind
  ·rename_i x y l hx
   have m:c.args=#[x,y]:=Dc (by simpa using hx)
   simp only[Bb,l,m]
   show Ep false (w x) (w y) (KR r K)
   rw[get (x:=x) (by simp[Op.operands,Call.operands,l,m]),get (x:=y) (by simp[Op.operands,Call.operands,l,m])]
   exact zZ h
  ·rename_i x y l hx
   have m:c.args=#[x,y]:=Dc (by simpa using hx)
   simp only[Bb,l,m]
   show Ep true (w x) (w y) (KR r K)
   rw[get (x:=x) (by simp[Op.operands,Call.operands,l,m]),get (x:=y) (by simp[Op.operands,Call.operands,l,m])]
   exact zZ h
  ·rename_i x y z l hx
   have m:c.args=#[x,y,z]:=Dc (by simpa using hx)
   simp only[Bb,l,m]
   show Hx true (w x) (w y) (w z) (KR r K)
   rw[get (x:=x) (by simp[Op.operands,Call.operands,l,m]),get (x:=y) (by simp[Op.operands,Call.operands,l,m]),get (x:=z) (by simp[Op.operands,Call.operands,l,m])]
   unfold Hx at h
   split at h
   ·rename_i R S U
    rw[R,S,U]
    simp only[ren,Hx];exact .mk' h rfl
   grind
  ·grind
end
end Go.Eng
namespace Go.Eng
set_option linter.all false
open Go Go.RowKit
abbrev CU:=List (Nat×Bool)
abbrev BZ:=List (Nat×CU)
def lk:BZ→Nat→CU
 |[],_=>[]
 |(i,c)::r,j=>match Nat.beq i j with|true=>c|false=>lk r j
def O5(t:Bool):Bool→Bool
 |true=>t
 |false=>!t
theorem kw{t b:Bool}:O5 t b=true↔t=b:=by cases t<;>cases b<;>simp[O5]
def Ks:CU→CU→Bool
 |[],[]=>true
 |(i,a)::r,(j,b)::q=>Nat.beq i j&&O5 a b&&Ks r q
 |_,_=>false
theorem lz:∀{a b:CU},Ks a b=true→a=b
 |[],[],_=>rfl
 |(i,a)::r,(j,b)::q,h=>by
  simp only[Ks,Yc]at h
  rw[Yd h.1.1,kw.1 h.1.2,lz h.2]
 |[],_::_,h=>by simp[Ks]at h
 |_::_,[],h=>by simp[Ks]at h
def T9(a:CU):CU→Bool
 |[]=>Ks a []
 |q::b=>Ks a (q::b)||T9 a b
theorem Zoh{a:CU}:∀{b:CU},T9 a b=true→∀q∈a,q∈b
 |[],h,q,c=>by rw[lz h]at c;exact c
 |p::b,h,q,c=>by
  simp only[T9,YH]at h
  rcases h with h|h
  ·rw[lz h]at c;exact c
  ·exact Yz _ (Zoh h q c)
def Da(s:Nat→AV)(c:CU):Prop:=∀q∈c,s q.1=.d (.bool q.2)
def Hd(s:Nat→AV):CU→Option Bool
 |[]=>some true
 |[(d,b)]=>match s d with|.d (.bool t)=>some (O5 t b)|_=>none
 |(d,b)::r=>match s d,Hd s r with|.d (.bool t),some c=>some (c&&O5 t b)|_,_=>none
theorem MM{s:Nat→AV}:∀{c:CU} {g:Bool},Hd s c=some g→(g=true↔Da s c)
 |[],g,h=>by simp only[Hd,Yj]at h;subst h;simp[Da]
 |[(d,b)],g,h=>by
  simp only[Hd]at h
  split at h
  ·rename_i t f
   simp only[Yj]at h
   subst h
   rw[kw]
   simp[Da,f]
  ·cases h
 |(d,b)::q::r,g,h=>by
  simp only[Hd]at h
  split at h
  ·rename_i t c f i
   simp only[Yj]at h
   subst h
   have j:=MM i
   rw[Yc,j,kw]
   constructor
   ·rintro⟨e,rfl⟩ p a
    rcases Yx.1 a with rfl|a
    ·exact f
    ·exact e p a
   ·intro e
    refine⟨fun p a=>e p (Yz _ a),?_⟩
    have:=e (d,b) (YE ..)
    grind
  ·cases h
def NV(e:Nat)(c:CU):Bool:=c.all fun q=>!Nat.beq q.1 e
def fresh(e:Nat)(env:BZ):Bool:=env.all fun p=>NV e p.2
theorem Zpt{s:Nat→AV}{e:Nat}{v:AV}{c:CU}(h:NV e c=true):Da (upd s e v) c↔Da s c:=by
 have key:∀q∈c,upd s e v q.1=s q.1:=fun q a=>by
  have:=Yu.1 h q a
  unfold upd
  rw[Ym]
  intro he
  subst he
  simp at this
 constructor
 ·exact fun h q a=>(key q a)▸h q a
 ·exact fun h q a=>(key q a).trans (h q a)
theorem Zo1{e:Nat}:∀{env:BZ},fresh e env=true→∀j,NV e (lk env j)=true
 |[],_,j=>rfl
 |(i,c)::r,h,j=>by
  simp only[fresh,IZ,Yc]at h
  simp only[lk]
  split
  ·exact h.1
  ·exact Zo1 h.2 j
theorem lg{env:BZ}{e:Nat}{c:CU}(j:Nat):lk ((e,c)::env) j=if j=e then c else lk env j:=by
 simp only[lk]
 by_cases h:j=e
 ·subst h;simp
 ·rw[Ym h]
  split
  ·rename_i a;exact absurd (Yd a).symm h
  ·rfl
def IN(env:BZ)(c:CU):Operand→Bool
 |.tmp t=>T9 (lk env t) c
 |_=>true
def Cn(env:BZ)(c:CU):Op→Bool
 |.pick (.tmp d) x y=>IN env c (.tmp d)&&IN env ((d,true)::c) x&&IN env ((d,false)::c) y
 |op=>op.operands.toList.all (IN env c)
structure RenOk (r:Ren) (l outs:Nat):Prop where
 own:∀d,r.κ (1,d)=(l+1,d)
 out:∀i,i<outs→(r.κ (0,i)).1≤l
 inj:∀i j,i<outs→j<outs→r.κ (0,i)=r.κ (0,j)→i=j
 no:∀k,r.no k→∃i,i<outs∧r.κ (0,i)=k
structure RG (r:Ren) (l outs:Nat) (env:BZ) (τ σ:St):Prop where
 s:∀j,(Da τ.s (lk env j)→σ.s j=ren r (τ.s j))∧(¬Da τ.s (lk env j)→σ.s j=.tup [])
 h:DD r τ.H σ.H
 g:∀d,(σ.H (l+1,d)).g=r.γ (1,d)+(τ.H (1,d)).g
 go:∀i,i<outs→(σ.H (r.κ (0,i))).g=r.γ (0,i)+(τ.H (0,i)).g
 k:∀k,(τ.H k).live=true→k.1=1∨(k.1=0∧k.2<outs)
 o:∀k:Af,k.1≤l→¬r.no k→σ.H k=r.H0 k
def Ii(P:Program)(l:Nat)(r:Ren)(f:FuncId)(xs:List AV)(c:List (Af×Blk))(x:AV):Prop:=
 ∀a,(∀p∈c,p.2.live=true→a (r.κ p.1)=AS r p.1 p.2)→(∀k:Af,k.1≤l→¬r.no k→a k=r.H0 k)→Zc1 P f (l+1) (Ar r xs) a (fun y b=>y=ren r x∧b=a)
def NA(P:Program)(l:Nat)(r:Ren)(i:Nat)(xs:List AV)(d:List (Af×Blk))(x:AV):Prop:=
 ∃f first a,r.θ i=.fn (.func f) first a∧∀b,(∀p∈d,p.2.live=true→b (r.κ p.1)=AS r p.1 p.2)→(∀k:Af,k.1≤l→¬r.no k→b k=r.H0 k)→Zc1 P f (l+1) (first++Ar r xs++a) b (fun y c=>y=ren r x∧c=b)
def Ti(P:Program)(l:Nat)(r:Ren)(H:Hp)(f:AV)(xs:List AV)(g:Option Bool)(a:AT)(K:AV→AT→Prop):Prop:=
 match f,a with
 |.fn (.func i) first b,.call x ks a=>Bp g (Ii P l r i (first++xs++b) (ks.map fun k=>(k,H k)) x)∧K x a
 |.fn (.yield i) _ _,.call x ks a=>Bp g (NA P l r i xs (ks.map fun k=>(k,H k)) x)∧K x a
 |_,_=>False
def Zk(T:Nat→Option TI)(τ:St)(t:TypeId)(len:Nat)(parts:List (Nat×Operand))(a:AT)(K:AV→AT→Prop):Prop:=
 match T t with
 |some i=>(match i.elm with
  |some (e,sz)=>(match Nat.ble 1 sz,len with
   |true,0=>(match parts with|[]=>K .e0 a|_=>False)
   |true,len+1=>(match T e,Nat.ble ((len+1)*sz) 16777216 with
    |some j,true=>(match j.zer with
     |some z=>(match Nat.beq z.length sz,Gb sz 0 (parts.map fun p=>(p.1,ev τ.s p.2))with
      |true,some es=>(match Nat.beq es.length (len+1)with|true=>K (.d (.list es)) a|false=>False)
      |_,_=>False)
     |none=>False)
    |_,_=>False)
   |_,_=>False)
  |none=>False)
 |none=>False
def pV(P:Program)(T:Nat→Option TI)(l:Nat)(r:Ren)(τ:St)(op:Op)(g:Option Bool)(a:AT)(K:AV→AT→Prop):Prop:=
 match op with
 |.call c=>match c.callee with
  |.value f=>Ti P l r τ.H (ev τ.s f) (c.args.toList.map (ev τ.s)) g a K
  |_=>tV T τ.H op (ev τ.s) g a K
 |.buildSlice t len parts=>Zk T τ t len parts.toList a K
 |op=>tV T τ.H op (ev τ.s) g a K
def Fg(n d:Nat)(K:St→AT→Prop)(τ:St)(v:AV)(a:AT):Prop:=
 match Nat.ble (d+1) n with
 |true=>K ⟨upd τ.s d v,τ.H⟩ a
 |false=>False
section
variable {P:Program} {T:Nat→Option TI} {r:Ren} {l n outs:Nat} {env:BZ} {τ σ:St} {g:Option Bool} {a:AT} {c:CU}
theorem ZPx(v:Value):ren r (cv v)=cv v:=by unfold cv;split<;>simp[ren]
theorem Lg(h:RG r l outs env τ σ)(hs:Da τ.s c){x:Operand}(hx:IN env c x=true):ev σ.s x=ren r (ev τ.s x):=by
 cases x with
 |tmp t=>exact(h.s t).1 fun q a=>hs q (Zoh hx q a)
 |const v=>exact(ZPx v).symm
 |global g=>simp[ev,ren]
 |func f=>simp[ev,ren,Ar]
theorem Ha(h:RG r l outs env τ σ)(hs:Da τ.s c){op:Op}(hx:op.operands.toList.all (IN env c)=true):∀x∈op.operands,ev σ.s x=ren r (ev τ.s x):=
 fun x hm=>Lg h hs (Yu.1 hx x (by simpa using hm))
theorem sH(s:Bj P T)(h:RG r l outs env τ σ)(hs:Da τ.s c)(u:∀b,g=some b→b=true){op:Op}(hx:Cn env c op=true){K:AV→AT→Prop}(i:tV T τ.H op (ev τ.s) g a K):
  Bb P σ.H op (ev σ.s) (KR r K):=by
 unfold Cn at hx
 split at hx
 ·rename_i d x y
  simp only[Yc]at hx
  obtain⟨⟨n,o⟩,p⟩:=hx
  have f:=i
  simp only[tV]at f
  split at f
  ·rename_i t k
   have m:=Lg h hs n
   refine zh (T:=T) (H:=τ.H) (g:=g) (a:=a) k m (fun e=>Lg h (c:=(d,true)::c) ?_ o) (fun e=>Lg h (c:=(d,false)::c) ?_ p) i
   all_goals
    subst e
    intro q j
    rcases Yx.1 j with rfl|j
    ·exact k
    ·exact hs q j
  grind
 ·exact ZAm s h.h u (Ha h hs hx) i
theorem kr(h:RG r l outs env τ σ)(hs:Da τ.s c)(s:∀b,g=some b→b=true){cl:Call}{f:Operand}(o:cl.callee=.value f)(hx:Cn env c (.call cl)=true){K:AV→AT→Prop}
  (e:Ti P l r τ.H (ev τ.s f) (cl.args.toList.map (ev τ.s)) g a K):
  ∃i first d x j,ev σ.s f=.fn (.func i) first d∧Zc1 P i (l+1) (first++cl.args.toList.map (ev σ.s)++d) σ.H (fun y t=>y=ren r x∧t=σ.H)∧K x j:=by
 have hx:(Op.call cl).operands.toList.all (IN env c)=true:=hx
 have q:=Ha h hs hx f (by simp[Op.operands,Call.operands,o])
 have m:cl.args.toList.map (ev σ.s)=Ar r (cl.args.toList.map (ev τ.s)):=lH fun x hm=>Ha h hs hx x (by simp only[Op.operands,Call.operands,o,OD];exact .inr (by simpa using hm))
 have n:∀ks:List Af,∀p∈ks.map fun k=>(k,τ.H k),p.2.live=true→σ.H (r.κ p.1)=AS r p.1 p.2:=fun ks p e hl=>by
  obtain⟨k,A,rfl⟩:=YS.1 e
  exact h.h k hl
 unfold Ti at e
 split at e
 ·rename_i i first d x ks j he
  have v:Ii _ _ _ _ _ _ _:=BB s e.1
  refine⟨i,Ar r first,Ar r d,x,j,by rw[q,he];simp[ren],?_,e.2⟩
  rw[m,←G8,←G8]
  exact v σ.H (n ks) h.o
 ·rename_i i xs ys x ks j he
  obtain⟨u,first,d,w,z⟩:NA _ _ _ _ _ _ _:=BB s e.1
  refine⟨u,first,d,x,j,by rw[q,he];simp[ren,w],?_,e.2⟩
  rw[m]
  exact z σ.H (n ks) h.o
 grind
theorem RG.put(h:RG r l outs env τ σ){e:Nat}{ch:CU}(b:fresh e env=true)(c:NV e ch=true){v:AV}{y:AV}(hy:Da τ.s ch→y=ren r v)(d:¬Da τ.s ch→y=.tup []):
  RG r l outs ((e,ch)::env) ⟨upd τ.s e v,τ.H⟩ ⟨upd σ.s e y,σ.H⟩:=by
 refine⟨fun j=>?_,h.h,h.g,h.go,h.k,h.o⟩
 simp only
 rw[lg]
 by_cases a:j=e
 ·subst a
  rw[Yk rfl,Zpt c]
  simp only[upd,Yv]
  grind
 ·rw[Ym a,Zpt (Zo1 b j)]
  simp only[upd,Ym a]
  exact h.s j
end
section
variable {P:Program} {l n:Nat} {H:Hp} {m:Mu} {S:Nat→Prop} {w w':World} {s:Nat→AV} {a:Act}
theorem MEnt.push{q:Bool}{es:List (List D)}{ents:Array MapEntry}{a:Nat}{s:ByteArray}{ds:List D}{v:Value}(h:MEnt w S q es ents a)(g:VR w S q ds v):
  MEnt w S q (es++[.str s::ds]) (ents.push {key:=.string s,val:=v,born:=a }) (a+1):=by
 have b:∀(i:Nat) (y:MapEntry),(ents.push {key:=.string s,val:=v,born:=a })[i]?=some y→(i=ents.size∧y={key:=.string s,val:=v,born:=a })∨(i≠ents.size∧ents[i]?=some y):=fun i y hy=>by
  grind
 refine⟨by simp[h.n],fun i k y z hy j e=>?_,fun i y hy=>?_,fun i e y hi hy=>?_⟩
 ·rcases b i y hy with⟨rfl,rfl⟩|⟨a1,c⟩<;>rcases b k z j with⟨rfl,rfl⟩|⟨l,f⟩
  ·rfl
  ·have:=h.clk k z f;simp only at e;omega
  ·have:=h.clk i y c;simp only at e;omega
  ·exact h.born i k y z c f e
 ·rcases b i y hy with⟨rfl,rfl⟩|⟨a1,c⟩
  ·grind
  ·exact ZU (h.clk i y c)
 ·rcases b i y hy with⟨rfl,rfl⟩|⟨a1,c⟩
  ·rw[h.n,Ys (Yf _),Nat.sub_self]at hi
   cases hi
   exact⟨s,ds,rfl,rfl,g⟩
  ·have d:i<es.length:=by rw[←h.n];exact PF c
   rw[Yp d]at hi
   exact h.e i e y hi c
end
section
variable {P:Program} {l n:Nat} {B:Base} {H H':Hp} {m m':Mu} {S S':Nat→Prop} {w w':World} {s:Nat→AV} {a:Act} {K:St→Prop} {o:Oper}
theorem lK{k:Af}{g:Nat}{v:Value}(h:RepA w S H m l (.mp k g) v)(b:g=(H k).g)(hl:(H k).live=true):k.1≤l∧v=.map (some (m k).b):=by
 cases h with
 |mpL _ c _=>exact⟨c,rfl⟩
 |mpD _ _ _ _ _ a _=>rw[a b]at hl;cases hl
end
def yh(x:EK)(e:Nat):Bool:=
 match x with
 |.t e'=>Nat.beq e' e
 |_=>false
theorem ZDF{x:EK}{e:Nat}(h:yh x e=true):x=.t e:=by
 cases x with
 |t e'=>rw[Yd (show Nat.beq e' e=true from h)]
 |_=>cases h
def BI(a b:Af):Bool:=Nat.beq a.1 b.1&&Nat.beq a.2 b.2
def AV.onef:AV→Bool
 |.top|.agg _|.tup _|.fn _ _ _=>false
 |_=>true
def Eh(sz:Nat)(C:List AV)(y:AV)(c:Nat)(news:List AV):Prop:=
 news.all AV.onef=true∧match y with
 |.e0=>c=0∧news=[]
 |.d (.list es)=>(∀e∈es,e.length=sz)∧c=es.length∧news=es.flatten.map .d
 |.ref _ _ off n=>c=n∧(off+n)*sz≤C.length∧news=(C.drop (off*sz)).take (n*sz)
 |_=>False
def Kr(C:List AV)(off a c sz byt:Nat)(news d:List AV)(b:Nat):Prop:=(off+a)*sz=C.length∧C.drop (off*sz)++news=d∧a+c=b∧b*byt≤140737488355328
def OX(c byt:Nat):Prop:=c*byt≤140737488355328
def L0(r:Ren)(k:Af):Prop:=k.1=0∧r.no (r.κ k)
def FZ(r:Ren)(k:Af)(vs:List AV):Prop:=(Ar r vs).all (AV.low (r.κ k).1)=true
def J7(r:Ren)(k:Af)(vs:List AV)(A:Prop):Prop:=
 match Nat.beq k.1 1 with
 |true=>A
 |false=>L0 r k∧FZ r k vs∧A
def HI(C:List AV)(off:Nat)(vs a:List AV):Prop:=off+vs.length≤C.length∧C.take off++vs++C.drop (off+vs.length)=a
def Jc(n d:Nat)(e:TypeId)(sz:Nat)(cells:List AV)(x:Nat→AV)(K:St→AT→Prop)(τ:St)(a:AT):Prop:=
 match Nat.ble (d+1) n with
 |true=>K ⟨upd τ.s d (x ((τ.H (1,d)).g+1)),updH τ.H (1,d) ⟨(τ.H (1,d)).g+1,true,e,sz,cells⟩⟩ a
 |false=>False
def cellsOf(H:Hp):AV→List AV
 |.ref k g _ _=>match B3 H k g with|true=>(H k).cells|false=>[]
 |_=>[]
def XV(H:Hp)(sz:Nat):AV→Bool
 |.ref k g _ _=>B3 H k g&&Nat.beq (H k).sz sz
 |_=>true
def hJ(T:Nat→Option TI)(r:Ren)(n d:Nat)(t:TypeId)(x y:AV)(a:AT)(K:St→AT→Prop)(τ:St):Prop:=
 match T t with
 |some i=>match i.elm with
  |some (e,sz)=>match T e,Nat.ble 1 sz,XV τ.H sz y with
   |some j,true,true=>(match j.byt,j.zer,x,a with
    |some byt,some _,.e0,.nat c (.cs news b)=>Eh sz (cellsOf τ.H y) y c news∧OX c byt∧Jc n d e sz news (fun g=>.ref (1,d) g 0 c) K τ b
    |some byt,some _,.ref k q off l,.nat c (.cs news (.cs f (.nat h b)))=>(match B3 τ.H k q,Nat.beq (τ.H k).sz sz,yh (τ.H k).e e,Nat.ble (d+1) n with
     |true,true,true,true=>Eh sz (cellsOf τ.H y) y c news∧Kr (τ.H k).cells off l c sz byt news f h∧J7 r k news (K ⟨upd τ.s d (.ref k (q+1) 0 h),updH τ.H k ⟨q+1,true,e,sz,f⟩⟩ b)
     |_,_,_,_=>False)
    |_,_,_,_=>False)
   |_,_,_=>False
  |none=>False
 |none=>False
def QP(r:Ren)(n:Nat)(i:TI)(x:AV)(vs:Option (List AV))(a:AT)(K:St→AT→Prop)(τ:St):Prop:=
 match x,vs with
 |.ptr k q off,some vs=>match B3 τ.H k q,Nat.beq vs.length i.siz,Nat.ble 1 vs.length with
  |true,true,true=>(match a with
   |.go b=>(match Nat.ble (off+vs.length) (τ.H k).cells.length with
    |true=>J7 r k vs (K ⟨τ.s,updH τ.H k ⟨q,true,(τ.H k).e,(τ.H k).sz,(τ.H k).cells.take off++vs++(τ.H k).cells.drop (off+vs.length)⟩⟩ b)
    |false=>False)
   |.cs c b=>HI (τ.H k).cells off vs c∧J7 r k vs (K ⟨τ.s,updH τ.H k ⟨q,true,(τ.H k).e,(τ.H k).sz,c⟩⟩ b)
   |_=>False)
  |_,_,_=>False
 |_,_=>False
def ZQ(c a:Int)(byt m:Nat)(z C:List AV):Prop:=c=(m:Int)∧c≤a∧(byt:Int)*a≤140737488355328∧(List.replicate m z).flatten=C
def KT(P:Program)(T:Nat→Option TI)(l n:Nat)(r:Ren)(o:Oper)(a:AT)(K:St→AT→Prop)(τ:St):Prop:=
 match o.op with
 |.alloc t=>match o.dst,T t with
  |some d,some i=>(match i.zer with|some (z::f)=>Jc n d t (f.length+1) (z::f) (fun g=>.ptr (1,d) g 0) K τ a|_=>False)
  |_,_=>False
 |.box t x=>match o.dst,CZ (ev τ.s x),Js (ev τ.s x)with
  |some d,some (z::f),true=>Jc n d t (f.length+1) (z::f) (fun g=>.ptr (1,d) g 0) K τ a
  |_,_,_=>False
 |.store t p x=>match o.dst,T t,Js (ev τ.s x)with
  |none,some i,true=>QP r n i (ev τ.s p) (CZ (ev τ.s x)) a K τ
  |_,_,_=>False
 |.buildSlice t len parts=>match o.dst,T t with
  |some d,some i=>(match i.elm with
   |some (e,sz)=>(match Nat.ble 1 sz,len with
    |true,0=>(match parts.toList with|[]=>Fg n d K τ .e0 a|_=>False)
    |true,len+1=>(match T e,Nat.ble ((len+1)*sz) 16777216 with
     |some j,true=>(match j.zer with
      |some z=>(match Nat.beq z.length sz,Gb sz 0 (parts.toList.map fun p=>(p.1,ev τ.s p.2))with
       |true,some es=>(match Nat.beq es.length (len+1)with|true=>Fg n d K τ (.d (.list es)) a|false=>False)
       |_,_=>False)
      |none=>False)
     |_,_=>False)
    |_,_=>False)
   |none=>False)
  |_,_=>False
 |.makeSlice t x y=>match o.dst,T t,ev τ.s x,ev τ.s y,a with
  |some d,some i,.d (.int _ c),.d (.int _ h),.nat m (.cs C b)=>(match i.elm with
   |some (e,sz)=>(match T e,Nat.ble 1 sz with
    |some j,true=>(match j.zer,j.byt with
     |some z,some byt=>(match Nat.beq z.length sz with
      |true=>ZQ c h byt m z C∧Jc n d e sz C (fun g=>.ref (1,d) g 0 m) K τ b
      |false=>False)
     |_,_=>False)
    |_,_=>False)
   |none=>False)
  |_,_,_,_,_=>False
 |.call c=>match c.callee with
  |.builtin .append=>(match o.dst,c.args.toList,c.argTypes.toList with
   |some d,[x,y],[t,k]=>(match Nat.beq t k with|true=>hJ T r n d t (ev τ.s x) (ev τ.s y) a K τ|false=>False)
   |_,_,_=>False)
  |_=>(match o.dst with|some d=>pV P T l r τ o.op none a (Fg n d K τ)|none=>False)
 |_=>match o.dst with|some d=>pV P T l r τ o.op none a (Fg n d K τ)|none=>False
def Ul(n:Nat)(K:St→AT→Prop)(s:Nat→AV)(H:Hp)(v:AV)(b:AT):Option Nat→Prop
 |some d=>match Nat.ble (d+1) n with|true=>K ⟨upd s d v,H⟩ b|false=>False
 |none=>K ⟨s,H⟩ b
def wv(T:Nat→Option TI)(r:Ren)(n:Nat)(d:Option Nat)(t l:Nat)(x y:AV)(a:AT)(K:St→AT→Prop)(τ:St):Prop:=
 match T t,T l with
 |some i,some h=>match i.elm,h.elm with
  |some (e,sz),some (e',f)=>match Nat.beq e e',Nat.beq sz f,T e,Nat.ble 1 sz,XV τ.H sz y with
   |true,true,some j,true,true=>(match j.zer,x,a with
    |some _,.ref k q off cn,.nat c (.cs news (.cs g b))=>(match B3 τ.H k q,Nat.beq (τ.H k).sz sz with
     |true,true=>Eh sz (cellsOf τ.H y) y c news∧c≤cn∧HI (τ.H k).cells (off*sz) news g∧J7 r k news (Ul n K τ.s (updH τ.H k ⟨q,true,(τ.H k).e,(τ.H k).sz,g⟩) (.d (.int .i64 c)) b d)
     |_,_=>False)
    |_,_,_=>False)
   |_,_,_,_,_=>False
  |_,_=>False
 |_,_=>False
def gD(C:List AV)(off cn sz:Nat)(z a:List AV):Prop:=(off+cn)*sz≤C.length∧C.take (off*sz)++(List.replicate cn z).flatten++C.drop ((off+cn)*sz)=a
def tq(T:Nat→Option TI)(r:Ren)(t:Nat)(x:AV)(a:AT)(K:St→AT→Prop)(τ:St):Prop:=
 match T t with
 |some i=>match i.elm with
  |some (e,sz)=>match T e,Nat.ble 1 sz with
   |some j,true=>(match j.zer,x,a with
    |some z,.ref k q off cn,.cs c b=>(match B3 τ.H k q,Nat.beq (τ.H k).sz sz,Nat.beq z.length sz with
     |true,true,true=>gD (τ.H k).cells off cn sz z c∧J7 r k z (K ⟨τ.s,updH τ.H k ⟨q,true,(τ.H k).e,(τ.H k).sz,c⟩⟩ b)
     |_,_,_=>False)
    |_,_,_=>False)
   |_,_=>False
  |none=>False
 |none=>False
def Jn(P:Program)(T:Nat→Option TI)(l n:Nat)(r:Ren)(o:Oper)(a:AT)(K:St→AT→Prop)(τ:St):Prop:=
 match o.op with
 |.call c=>(match c.callee with
  |.builtin .copy=>(match c.args.toList,c.argTypes.toList with|[x,y],[t,b]=>wv T r n o.dst t b (ev τ.s x) (ev τ.s y) a K τ|_,_=>False)
  |.builtin .clear=>(match c.args.toList,c.argTypes.toList,o.dst with|[x],[t],none=>tq T r t (ev τ.s x) a K τ|_,_,_=>False)
  |_=>KT P T l n r o a K τ)
 |_=>KT P T l n r o a K τ
def sY(T:Nat→Option TI)(n:Nat)(b:Option Nat)(t len:Nat)(vs:List (Nat×AV))(a:AT)(K:St→AT→Prop)(τ:St):Prop:=
 match b,T t with
 |some d,some i=>(match i.elm with
  |some (e,sz)=>(match T e,Nat.ble 1 sz,Nat.ble ((len+1)*sz) 16777216 with
   |some j,true,true=>(match j.zer with
    |some z=>(match Nat.beq z.length sz,CD (fun i=>some (i*sz,sz)) (List.replicate (len+1) z).flatten vs,vs.all (fun p=>Js p.2)with
     |true,some cs,true=>(match z.all AV.flat with|true=>Jc n d e sz cs (fun g=>.ref (1,d) g 0 (len+1)) K τ a|false=>False)
     |_,_,_=>False)
    |none=>False)
   |_,_,_=>False)
  |none=>False)
 |_,_=>False
def KM(P:Program)(T:Nat→Option TI)(l n:Nat)(r:Ren)(o:Oper)(a:AT)(K:St→AT→Prop)(τ:St):Prop:=
 match o.op with
 |.buildSlice t (len+1) parts=>(match a with
  |.go b=>sY T n o.dst t len (parts.toList.map fun p=>(p.1,ev τ.s p.2)) b K τ
  |.sep b=>Jn P T l n r o b K τ
  |a=>Jn P T l n r o a K τ)
 |_=>Jn P T l n r o a K τ
def ZU2(s:ByteArray)(ds:List D)(b a:List (List D)):Prop:=II s ds b=a
def ZUF(s:ByteArray)(b a:List (List D)):Prop:=IF s b=a
def KE(P:Program)(T:Nat→Option TI)(l n:Nat)(r:Ren)(o:Oper)(a:AT)(K:St→AT→Prop)(τ:St):Prop:=KM P T l n r o a K τ
def Dx(env:BZ):Option Nat→BZ
 |some d=>(d,[])::env
 |none=>env
def FN(env:BZ):Option Nat→Bool
 |some d=>fresh d env
 |none=>true
def Hy(P:Program)(T:Nat→Option TI)(l n:Nat)(r:Ren)(ds:List (Option Nat)):List Oper→BZ→AT→(St→BZ→AT→Prop)→St→Prop
 |[],env,a,K,τ=>K τ env a
 |o::c,env,a,K,τ=>match o.guard with
  |none=>(match Cn env [] o.op,FN env o.dst with
   |true,true=>KE P T l n r o a (fun τ' f=>Hy P T l n r ds c (Dx env o.dst) f K τ') τ
   |_,_=>False)
  |some (i,b)=>(match Bs ds i,o.dst with
   |some (some d),some e=>(match Hd τ.s ((d,b)::lk env d),Cn env ((d,b)::lk env d) o.op,fresh e env&&NV e ((d,b)::lk env d),Nat.ble (e+1) n with
    |some g,true,true,true=>pV P T l r τ o.op (some g) a (fun v f=>Hy P T l n r ds c ((e,(d,b)::lk env d)::env) f K ⟨upd τ.s e v,τ.H⟩)
    |_,_,_,_=>False)
   |_,_=>False)
def gy(P:Program)(T:Nat→Option TI)(l n:Nat)(r:Ren)(o:Oper)(a:AT)(K:St→AT→Prop)(τ:St):Prop:=
 match o.op,o.dst with
 |.buildSlice t (len+1) ps,some d=>pV P T l r τ (.buildSlice t (len+1) ps) none a (Fg n d K τ)
 |_,_=>KE P T l n r o a K τ
def Hk(P:Program)(T:Nat→Option TI)(l n:Nat)(r:Ren)(ds:List (Option Nat)):List Oper→BZ→AT→(St→BZ→AT→Prop)→St→Prop
 |[],env,a,K,τ=>K τ env a
 |o::c,env,a,K,τ=>match o.guard with
  |none=>(match Cn env [] o.op,FN env o.dst with
   |true,true=>gy P T l n r o a (fun τ' f=>Hk P T l n r ds c (Dx env o.dst) f K τ') τ
   |_,_=>False)
  |some (i,b)=>(match Bs ds i,o.dst with
   |some (some d),some e=>(match Hd τ.s ((d,b)::lk env d),Cn env ((d,b)::lk env d) o.op,fresh e env&&NV e ((d,b)::lk env d),Nat.ble (e+1) n with
    |some g,true,true,true=>pV P T l r τ o.op (some g) a (fun v f=>Hk P T l n r ds c ((e,(d,b)::lk env d)::env) f K ⟨upd τ.s e v,τ.H⟩)
    |_,_,_,_=>False)
   |_,_=>False)
section
variable {P:Program} {T:Nat→Option TI} {r:Ren} {l n outs:Nat} {B:Base} {env:BZ} {τ σ:St} {a:AT} {o:Oper}
theorem R.adopt{act:Act}{w:World}{d:Nat}{e:TypeId}{sz:Nat}{s:Nat→AV}{H:Hp}(h:R l n B ⟨s,H⟩ act w)(k:Af)(P:k.1=l+1)(g:Nat)(M:(H k).g<g)(L:s d=.e0):R l n B ⟨upd s d (.ref k g 0 0),updH H k ⟨g,true,e,sz,[]⟩⟩ act w:=by
 obtain⟨m,S,o,N,u,D,hex⟩:=h.un
 have c:Ext (l+1) H m S w (updH H k ⟨g,true,e,sz,[]⟩) (Bl m k ⟨0,0,0⟩) S w:=by
  refine⟨fun _ h=>h,fun _ _=>rfl,fun q f=>?_,fun q f E hl=>?_,rfl,rfl,rfl,Yf _⟩
  ·by_cases a:q=k
   ·subst a;rw[A4];simp only;omega
   ·rw[AZ _ _ a];exact Yf _
  ·by_cases a:q=k
   ·subst a;rw[A4]at E;simp only at E;omega
   ·rw[AZ _ _ a]at hl⊢;rw[Bi _ _ a];exact⟨hl,rfl,rfl⟩
 have t:Ok (l+1) (updH H k ⟨g,true,e,sz,[]⟩) (Bl m k ⟨0,0,0⟩) S w:=by
  refine⟨o.sub,fun q f hl b=>?_,fun q f hl b=>?_,fun q G f y hl r b j he=>?_,fun q f hl b=>?_,o.mp.upd (Yf _) k _ rfl (fun q e=>Bi _ _ e) (fun _ h=>h) (fun _ h=>.inl h) (fun _ _=>rfl) (fun _ _ h _=>h)⟩
  ·by_cases a:q=k
   ·subst a;rw[A4]
   ·rw[AZ _ _ a]at hl⊢;rw[Bi _ _ a]at b;exact o.empty q f hl b
  ·by_cases a:q=k
   ·subst a;rw[Bh]at b;exact absurd rfl b
   ·rw[AZ _ _ a]at hl;rw[Bi _ _ a]at b⊢;exact o.fresh q f hl b
  ·have p:q≠k:=by rintro rfl;rw[Bh]at b;exact b rfl
   have A:G≠k:=by rintro rfl;rw[Bh]at j;exact j rfl
   rw[AZ _ _ p]at hl;rw[AZ _ _ A]at r
   rw[Bi _ _ p]at b he;rw[Bi _ _ A]at j he
   exact o.inj q G f y hl r b j he
  ·have p:q≠k:=by rintro rfl;rw[Bh]at b;exact b rfl
   rw[AZ _ _ p]at hl⊢;rw[Bi _ _ p]at b⊢
   obtain⟨C,I,J,K,z⟩:=o.blk q f hl b
   exact⟨C,I,J,K,fun i x v hi F=>⟨(z i x v hi F).1,(z i x v hi F).2.ext c f⟩⟩
 refine⟨_,_,t,N,u,fun i=>?_,hex.trans (c.mono (by omega))⟩
 simp only[upd]
 by_cases hi:i=d
 ·subst hi
  rw[Yk rfl]
  have:=D i
  rw[L]at this
  generalize act.tmps.getD i Go.undef=v at this⊢
  cases this with
  |e0 O=>
   have:=RepA.refL (w:=w) (S:=S) (H:=updH H k ⟨g,true,e,sz,[]⟩) (m:=Bl m k ⟨0,0,0⟩) (l:=l+1) k 0 0 O (by omega) (by rw[A4]) (by rw[Bh];simp) (fun h=>by rw[Bh]at h;simp at h)
   rw[A4,Bh]at this
   exact this
 ·rw[Ym hi]
  exact(D i).ext c (Yf _)
def KP(r:Ren)(outs:Nat)(k:Af):Prop:=k.1=1∨(k.1=0∧k.2<outs∧r.no (r.κ k))
theorem RenOk.ne(a:RenOk r l outs){q k:Af}(f:q.1=1∨(q.1=0∧q.2<outs))(e:k.1=1∨(k.1=0∧k.2<outs))(b:q≠k):r.κ q≠r.κ k:=fun he=>by
 obtain⟨i,j⟩:=q
 obtain⟨g,h⟩:=k
 simp only at f e
 rcases f with rfl|⟨rfl,c⟩<;>rcases e with rfl|⟨rfl,d⟩
 ·rw[a.own,a.own]at he;simp at he;exact b (by rw[he])
 ·rw[a.own]at he;have:=a.out _ d;rw[←he]at this;simp at this;omega
 ·rw[a.own]at he;have:=a.out _ c;rw[he]at this;simp at this;omega
 ·exact b (by rw[a.inj _ _ c d he])
theorem KP.lk{k:Af}(h:KP r outs k):k.1=1∨(k.1=0∧k.2<outs):=by
 rcases h with h|⟨a,b,_⟩
 ·grind
 grind
theorem RG.updK(j:RenOk r l outs)(h:RG r l outs env τ σ)(k:Af)(b m:Blk)(p:b.live=true→m=AS r k b)(o:m.g=r.γ k+b.g)(g:KP r outs k):
  RG r l outs env ⟨τ.s,Go.Eng.updH τ.H k b⟩ ⟨σ.s,Go.Eng.updH σ.H (r.κ k) m⟩:=by
 have f:=g.lk
 refine⟨h.s,fun q c=>?_,fun d=>?_,fun i hi=>?_,fun q c=>?_,fun q c s=>?_⟩
 ·simp only at c⊢
  by_cases e:q=k
  ·subst e;rw[A4]at c⊢;rw[A4];exact p c
  ·rw[AZ _ _ e]at c⊢;rw[AZ _ _ (j.ne (h.k _ c) f e)];exact h.h q c
 ·simp only
  by_cases a:((1,d):Af)=k
  ·subst a;rw[A4,j.own,A4];exact o
  ·have n:((l+1,d):Af)≠r.κ k:=by rw[←j.own d];exact j.ne (.inl rfl) f a
   rw[AZ _ _ a,AZ _ _ n]
   exact h.g d
 ·simp only
  by_cases a:((0,i):Af)=k
  ·subst a;rw[A4,A4];exact o
  ·rw[AZ _ _ a,AZ _ _ (j.ne (.inr ⟨rfl,hi⟩) f a)]
   exact h.go i hi
 ·simp only at c
  by_cases e:q=k
  ·grind
  ·rw[AZ _ _ e]at c;exact h.k q c
 ·simp only
  have n:q≠r.κ k:=by
   rintro rfl
   rcases g with g|⟨_,_,g⟩
   ·obtain⟨t,u⟩:=k
    simp only at g
    subst g
    rw[j.own]at c
    grind
   grind
  rw[AZ _ _ n]
  exact h.o q c s
theorem RG.updH(c:RenOk r l outs)(h:RG r l outs env τ σ)(k:Af)(b:Blk)(d:b.live=true)(a:KP r outs k):
  RG r l outs env ⟨τ.s,Go.Eng.updH τ.H k b⟩ ⟨σ.s,Go.Eng.updH σ.H (r.κ k) (AS r k b)⟩:=RG.updK c h k b _ (fun _=>rfl) rfl a
theorem Wg(i:RenOk r l outs)(h:RG r l outs env τ σ){k:Af}(hl:(τ.H k).live=true){vs:List AV}{A:Prop}(b:J7 r k vs A):A∧KP r outs k∧((r.κ k).1=l+1∨(Ar r vs).all (AV.low (r.κ k).1)=true):=by
 unfold J7 at b
 split at b
 ·rename_i a
  have a:=Yd a
  obtain⟨j,m⟩:=k
  simp only at a
  subst a
  exact⟨b,.inl rfl,.inl (by rw[i.own])⟩
 ·obtain⟨⟨d,e⟩,f,g⟩:=b
  rcases h.k k hl with c|⟨_,c⟩
  ·omega
  ·exact⟨g,.inr ⟨d,c,e⟩,.inr f⟩
theorem Bg{s:Nat→AV}:Da s []:=fun q a=>by cases a
theorem RG.put0(h:RG r l outs env τ σ){d:Nat}(a:fresh d env=true){v y:AV}(hy:y=ren r v):RG r l outs ((d,[])::env) ⟨upd τ.s d v,τ.H⟩ ⟨upd σ.s d y,σ.H⟩:=
 h.put a rfl (fun _=>hy) (fun b=>absurd Bg b)
def LG(r:Ren)(l outs:Nat)(env:BZ)(K:St→AT→Prop)(σ:St):Prop:=∃τ a,K τ a∧RG r l outs env τ σ
theorem MP(i:RenOk r l outs)(h:RG r l outs env τ σ){K:St→AT→Prop}{d:Nat}(m:fresh d env=true){e:TypeId}{sz:Nat}{cells:List AV}{x x':Nat→AV}(hx:∀g,x' (r.γ (1,d)+g)=ren r (x g))(b:Jc n d e sz cells x K τ a):
  Ef l n d e sz (Ar r cells) x' (LG r l outs ((d,[])::env) K) σ:=by
 unfold Jc at b
 split at b
 ·rename_i f
  have f:=Yh f
  refine⟨by omega,_,_,b,?_⟩
  have k:=h.put0 (v:=x ((τ.H (1,d)).g+1)) (y:=x' ((σ.H (l+1,d)).g+1)) m (by rw[h.g,YI];exact hx _)
  have c:=RG.updH i k (1,d) ⟨(τ.H (1,d)).g+1,true,e,sz,cells⟩ rfl (.inl rfl)
  have j:AS r (1,d) ⟨(τ.H (1,d)).g+1,true,e,sz,cells⟩=⟨(σ.H (l+1,d)).g+1,true,e,sz,Ar r cells⟩:=by
   simp only[AS,h.g,YI]
  rw[j,i.own]at c
  exact c
 grind
theorem VB{K:St→AT→Prop}(h:RG r l outs env τ σ){d:Nat}(c:fresh d env=true){y:AV}(hy:KR r (Fg n d K τ) y):d<n∧LG r l outs ((d,[])::env) K ⟨upd σ.s d y,σ.H⟩:=by
 obtain⟨v,e,rfl,a⟩:=hy
 unfold Fg at a
 split at a
 ·rename_i b
  have b:=Yh b
  exact⟨by omega,_,_,a,h.put0 c rfl⟩
 grind
section
variable {H:Hp} {K K':AV→Prop} {t:TypeId} {x y:AV}
theorem kz(a:∀y,K y→K' y)(h:EH P H t x K):EH P H t x K':=by
 unfold EH at h⊢
 split at h
 ·grind
 ·grind
 grind
theorem ZiS{i:Nat}(a:∀y,K y→K' y)(h:E0 P H t i x K):E0 P H t i x K':=by
 unfold E0 at h⊢
 grind
theorem ZpN{i:Nat}(a:∀y,K y→K' y)(h:Fb P t i x K):Fb P t i x K':=by
 unfold Fb at h⊢
 split at h
 ·split at h
  ·grind
  grind
 grind
theorem ZiX(a:∀y,K y→K' y)(h:Ew P H t x y K):Ew P H t x y K':=by
 unfold Ew at h⊢
 grind
theorem Zp7(a:∀y,K y→K' y)(h:FL P t x y K):FL P t x y K':=by
 unfold FL at h⊢
 grind
theorem ZoX{neg:Bool}(a:∀y,K y→K' y)(h:DV H neg x K):DV H neg x K':=by
 unfold DV at h⊢
 grind
theorem ZA5{op:BinOp}{b:Bool}(a:∀y,K y→K' y)(h:CL P H op t b x y K):CL P H op t b x y K':=by
 unfold CL at h⊢
 split at h
 ·exact⟨h.1,z1 a h.2⟩
 ·exact z7 a h
 ·grind
 ·unfold Hw at h⊢
  split at h
  ·split at h
   ·grind
   grind
  grind
 ·refine⟨h.1,h.2.1,?_⟩
  replace h:=h.2.2
  split at h
  ·exact ZoX a h
  ·exact ZoX a h
  grind
 grind
theorem ZDY{op:UnOp}(a:∀y,K y→K' y)(h:ER op x K):ER op x K':=by
 unfold ER at h⊢
 grind
theorem ZwX{u:TypeId}(a:∀y,K y→K' y)(h:Fe P t u x K):Fe P t u x K':=by
 unfold Fe at h⊢
 grind
theorem Zq1{lo hi:Option AV}{a:Bool}(b:∀y,K y→K' y)(h:EA P H t x lo hi a K):EA P H t x lo hi a K':=by
 unfold EA at h⊢
 grind
theorem Zzw(a:∀y,K y→K' y)(h:DR P H t x K):DR P H t x K':=by
 unfold DR at h⊢
 grind
theorem Zqc{ps:List (Nat×AV)}(a:∀y,K y→K' y)(h:FM P t ps K):FM P t ps K':=by
 unfold FM at h⊢
 grind
theorem VO{op:Op}{ρ:Operand→AV}(d:∀y,K y→K' y)(h:Bb P H op ρ K):Bb P H op ρ K':=by
 cases op<;>simp only[Bb]at h⊢<;>try exact h.elim
 case move x=>exact d _ h
 case assign x=>exact d _ h
 case pick c a b=>
  split at h
  ·grind
  ·grind
 case load=>exact kz d h
 case fieldAddr=>exact ZiS d h
 case field=>exact ZpN d h
 case indexAddr=>exact ZiX d h
 case index=>exact Zp7 d h
 case extract=>
  split at h
  ·grind
  ·grind
 case makeInterface=>
  refine⟨h.1,?_⟩
  replace h:=h.2
  repeat' split at h
  all_goals first|exact h.elim|exact d _ h
 case typeAssert=>
  refine⟨h.1,?_⟩
  replace h:=h.2
  repeat' split at h
  all_goals first|exact h.elim|exact⟨h.1,d _ h.2⟩
 case binOp=>exact ZA5 d h
 case unOp=>exact ZDY d h
 case convert=>exact ZwX d h
 case nilCheck=>
  unfold Jg at h⊢
  split at h
  ·grind
  ·grind
  ·grind
 case makeFunc=>exact d _ h
 case slice=>exact Zq1 d h
 case build=>exact Zqc d h
 case lookup=>exact ZmA d h
 case call c=>
  split at h
  ·exact⟨h.1,Zzw d h.2⟩
  ·split at h
   ·unfold Ep at h⊢
    grind
   ·unfold Hx at h⊢
    grind
   grind
  ·grind
end
end
end Go.Eng
