import Derived.Test.YtjbijbkdiijhaaaGreatZa04
import Derived.Test.YtjbijbkdiijhaaaGreatZa01
import Derived.Maps.RangeRun
import Derived.Test.YtjbijbkdiijhaaaGreatZa03
import Derived.Test.YtjbijbkdiijhaaaGreatZa00
namespace Go.Eng
set_option linter.all false
open Go Go.RowKit
section
variable {P:Program} {T:Nat→Option TI} {r:Ren} {H H':Hp} {g:Option Bool} {a:AT} {K:AV→AT→Prop}
def KR(r:Ren)(K:AV→AT→Prop)(y:AV):Prop:=∃v a,y=ren r v∧K v a
theorem KR.mk{v:AV}{a:AT}(h:K v a):KR r K (ren r v):=⟨v,a,rfl,h⟩
theorem KR.mk'{v y:AV}{a:AT}(h:K v a)(e:y=ren r v):KR r K y:=⟨v,a,e,h⟩
theorem rU{t:TypeId}{i:TI}(hi:TIok P t i)(h:(i.str||i.elm.isSome)=true):J6 P t=true:=by
 rw[YH]at h
 unfold J6
 rcases h with h|h
 ·have:=hi.str h
  unfold Mh at this
  split at this
  ·rename_i a _;rw[a]
  ·cases this
 ·obtain⟨e,he⟩:=Y7.1 h
  obtain⟨b,c⟩:=e
  have:=(E2 (hi.elm _ he)).1
  rw[this]
theorem ku{t:TypeId}{i:TI}(hi:TIok P t i)(y:DB r H H')(p:∀b,g=some b→b=true){x:AV}(h:NQ i H x g a K):EJ P H' t (ren r x) (KR r K):=by
 unfold NQ at h
 cases x<;>simp only at h<;>try exact h.elim
 case iptr cs off=>
  simp only[ren,EJ,hi.agg,hi.siz]
  split at h
  ·rename_i he
   rw[he]
   split at h
   ·rename_i c d f
    obtain⟨m,n⟩:=ld _ _ _ f
    have d:=Yh d
    rw[Y6]at n
    exact⟨by omega,by omega,.mk' h (by rw[m,ren,H3])⟩
   grind
  ·rename_i he
   rw[he]
   rw[Cp]at h
   simp only
   split at h
   ·rename_i c o;simp only[o];exact .mk' h rfl
   grind
 case ptr k q off=>
  simp only[ren,EJ,hi.agg,hi.siz]
  split at h
  ·rename_i hl
   obtain⟨s,u,z,A,v⟩:=y.at hl
   refine⟨s,u,?_⟩
   rw[v]
   split at h
   ·split at h
    ·rename_i he
     rw[he]
     split at h
     ·rename_i c d f
      obtain⟨m,n⟩:=ld _ _ _ f
      have d:=Yh d
      rw[Y6]at n
      exact⟨by omega,by rw[CH];omega,.mk' h (by rw[ren,Fb,FI,m])⟩
     grind
    ·rename_i he
     rw[he]
     rw[Cp]at h
     split at h
     ·rename_i c o;simp only[HZ,o,YY];exact .mk' h rfl
     grind
   ·split at h
    ·rename_i he
     rw[he]
     split at h
     ·rename_i c B d f
      have d:=Yh d
      have f:=Yc f
      have j:DM _ _ _:=BC p h.1
      unfold DM at j
      rw[f]at j
      have w:=congrArg List.length j
      rw[Yx,Y6]at w
      exact⟨by omega,by rw[CH];omega,.mk' h.2 (by rw[ren,Fb,FI,j])⟩
     grind
    ·rename_i he
     rw[he]
     split at h
     ·rename_i x
      have j:DM _ _ _:=BC p h.1
      unfold DM at j
      have e:(H k).cells[off]?=some x:=by
       have:=congrArg (fun l=>l[0]?) j
       grind
      simp only[HZ,e,YY]
      exact .mk' h.2 rfl
     grind
   grind
  ·grind
theorem Nh{t:TypeId}{i:TI}(hi:TIok P t i){f:Nat}{x:Nat×Nat×Bool}(h:Br i.fld f=some x):fld P t f=some (x.1,x.2.1)∧Mg P t f=some x:=by
 rw[Cp]at h;exact hi.fld f x h
theorem Zg5{t:TypeId}{i:TI}(hi:TIok P t i)(j:DB r H H'){f:Nat}{x:AV}(h:VF i H f x a K):E1 P H' t f (ren r x) (KR r K):=by
 unfold VF at h
 split at h
 ·rename_i o n b k
  have e:=(Nh hi k).1
  split at h
  ·rename_i c
   have c:=Yh c
   unfold E1
   rw[e]
   split at h
   ·simp only[ren];exact⟨by omega,.mk' h rfl⟩
   ·split at h
    ·rename_i hl
     obtain⟨d,g,_⟩:=j.at hl
     simp only[ren];exact⟨by omega,d,g,.mk' h rfl⟩
    grind
   grind
  grind
 grind
theorem Zmn{t:TypeId}{i:TI}(hi:TIok P t i){f:Nat}{x:AV}(h:W2 i f x a K):Fc P t f (ren r x) (KR r K):=by
 unfold W2 at h
 rw[ZwH]
 split at h
 ·rename_i o n cs b
  rw[(Nh hi b).2]
  split at h
  ·rename_i d
   have d:=Yh d
   simp only[ren,O2]
   exact⟨by omega,.mk' h (by rw[ren,Fb,FI])⟩
  grind
 ·rename_i o n cs b
  rw[(Nh hi b).2]
  rw[Cp]at h
  split at h
  ·rename_i c e
   simp only[ren,O2,HZ,e,YY]
   exact .mk' h rfl
  grind
 grind
theorem Zg2{t:TypeId}{i:TI}(hi:TIok P t i)(w:DB r H H')(m:∀b,g=some b→b=true){x j:AV}(h:VB i H x j g a K):Ey P H' t (ren r x) (ren r j) (KR r K):=by
 unfold VB at h
 split at h
 ·rename_i e sz k n he
  have he:=hi.elm _ he
  split at h
  ·rename_i y e' q
   split at h
   ·rename_i c d
    have c:=Yc c
    have d:=Yh d
    obtain⟨f,l⟩:Jp _ _ _:=BC m h.1
    simp only[ren,Ey,he]
    refine⟨f,?_⟩
    rw[l]
    exact⟨c,by omega,.mk' h.2 rfl⟩
   grind
  ·rename_i k q off len o B
   split at h
   ·rename_i hl c d
    have c:=Yc c
    have d:=Yh d
    obtain⟨p,s,z,u,A⟩:=w.at hl
    obtain⟨f,l,v⟩:Mf _ _ _ _ _:=BC m h.1
    simp only[ren,Ey,he]
    exact⟨f,l,p,s,by rw[u,c],by omega,.mk' h.2 (by rw[ren,v])⟩
   grind
  grind
 grind
theorem Zmu{t:TypeId}{i:TI}(hi:TIok P t i)(m:∀b,g=some b→b=true){x j:AV}(h:WK i x j g a K):FP P t (ren r x) (ren r j) (KR r K):=by
 unfold WK at h
 split at h
 ·rename_i s k n b q
  split at h
  ·rename_i d
   have d:=Yc d
   obtain⟨e,c,f,l⟩:Jb _ _ _:=BC m h.1
   simp only[ren,FP]
   refine⟨by rw[hi.kin];exact d,e,?_⟩
   rw[f]
   exact .mk' h.2 (by rw[ren,l])
  grind
 grind
theorem Zq3{op:BinOp}{k:IntKind}{x y:Int}(c:∀b,g=some b→b=true)(h:UM op k x y g a K):GP op k x y (KR r K):=by
 unfold UM at h
 cases op<;>simp only at h<;>try exact h.elim
 all_goals simp only[GP]
 case eql=>exact .mk' h rfl
 case neq=>exact .mk' h rfl
 case lss=>exact .mk' h rfl
 case leq=>exact .mk' h rfl
 case gtr=>exact .mk' h rfl
 case geq=>exact .mk' h rfl
 case add|sub|mul=>
  split at h
  ·have e:Cu _ _ _:=BC c h.1
   unfold Cu at e
   rw[e];exact .mk' h.2 rfl
  ·grind
 case and|or|xor=>
  split at h
  ·have e:BM _ _:=BC c h.1
   unfold BM at e
   rw[e];exact .mk' h.2 rfl
  ·grind
 case quo=>
  split at h
  ·have e:Cu _ _ _:=BC c h.2.1
   unfold Cu at e
   rw[e];exact⟨BC c h.1,.mk' h.2.2 rfl⟩
  ·grind
 case rem=>
  split at h
  ·have e:BM _ _:=BC c h.2.1
   unfold BM at e
   rw[e];exact⟨BC c h.1,.mk' h.2.2 rfl⟩
  ·grind
 case shr=>
  split at h
  ·have e:BM _ _:=BC c h.2.1
   unfold BM at e
   rw[e];exact⟨BC c h.1,.mk' h.2.2 rfl⟩
  ·grind
 case shl=>
  split at h
  ·have e:Cu _ _ _:=BC c h.2.1
   unfold Cu at e
   rw[e];exact⟨BC c h.1,.mk' h.2.2 rfl⟩
  ·grind
theorem ZpX{op:BinOp}{x y:ByteArray}(c:∀b,g=some b→b=true)(h:UE op x y g a K):GL op x y (KR r K):=by
 unfold UE at h
 cases op<;>simp only at h<;>try exact h.elim
 all_goals simp only[GL]
 case add=>exact⟨BC c h.1,.mk' h.2 rfl⟩
 all_goals exact .mk' h rfl
theorem z5{neg:Bool}{x:AV}(i:DB r H H')(h:Me H neg x a K):DT H' neg (ren r x) (KR r K):=by
 unfold Me at h
 split at h
 ·simp only[ren,DT];exact fun b=>.mk' (h b) rfl
 ·rename_i c
  cases c with
  |nil=>simp only[ren,DT];exact fun b=>.mk' (h b (fun e=>absurd rfl e)) rfl
  |cons e c=>simp only[ren,DT];exact .mk' (h neg (fun _=>rfl)) rfl
 ·rename_i k q off n
  split at h
  ·rename_i hl
   obtain⟨f,g,_⟩:=i.at hl
   simp only[ren,DT]
   exact⟨⟨f,g⟩,fun d=>.mk' (h neg (fun _=>rfl)) rfl,fun d b=>.mk' (h b (fun e=>absurd d e)) rfl⟩
  grind
 grind
theorem ZkH:∀(ks:List Nat) (xs ys:List AV) (b:Bool),EI ks xs ys=some b→EI ks (Au r xs) (Au r ys)=some b
 |[],[],[],b,h=>by simpa[Au]using h
 |k::ks,x::xs,y::ys,b,h=>by
  cases x<;>cases y<;>simp only[EI]at h<;>try (cases h;done)
  rename_i x y
  simp only[Au,ren,EI]
  split at h
  ·rename_i d e a c
   simp only[a,ZkH ks xs ys _ c]
   exact h
  ·cases h
 |[],[],_::_,b,h=>by simp[EI]at h
 |[],_::_,_,b,h=>by simp[EI]at h
 |_::_,[],_,b,h=>by simp[EI]at h
 |_::_,x::_,[],b,h=>by cases x<;>simp[EI]at h
theorem ZHX{H:Hp}{op:BinOp}{t:TypeId}{a:Bool}{x:AV}{K:AV→Prop}:CI P H op t a x .e0 K=(a=true∧kin P t=4∧match op with|.eql=>DT H false x K|.neq=>DT H true x K|_=>False):=by
 unfold CI
 grind
theorem ZqX{t:TypeId}{i:TI}(hi:TIok P t i)(e:DB r H H')(f:∀b,g=some b→b=true){op:BinOp}{j:Bool}{x y:AV}(h:Uw i H op j x y g a K):CI P H' op t j (ren r x) (ren r y) (KR r K):=by
 unfold Uw at h
 split at h
 ·split at h
  ·rename_i c
   simp only[ren,CI]
   exact⟨ZMh c,Zq3 f h⟩
  grind
 ·simp only[ren,CI];exact ZpX f h
 ·split at h
  ·rename_i c
   simp only[ren,CI]
   refine⟨by rw[hi.kin];exact Yc c,?_⟩
   split at h
   ·exact .mk' h rfl
   ·exact .mk' h rfl
   grind
  grind
 ·rename_i xs ys
  split at h
  ·rename_i ks d
   split at h
   ·rename_i b l
    simp only[ren,CI,Hm,hi.eqt _ d,ZkH _ _ _ _ l]
    split at h
    ·exact .mk' h rfl
    ·exact .mk' h rfl
    grind
   grind
  grind
 ·rw[show ren r .e0=.e0 from by simp[ren],ZHX]
  split at h
  ·rename_i m k
   refine⟨rfl,by rw[hi.kin];exact Yc k,?_⟩
   split at h
   ·exact z5 e h
   ·exact z5 e h
   grind
  grind
 grind
theorem Zsr{op:UnOp}{x:AV}(c:∀b,g=some b→b=true)(h:ZI op x g a K):ET op (ren r x) (KR r K):=by
 unfold ZI at h
 split at h
 ·simp only[ren,ET];exact .mk' h rfl
 ·split at h
  ·have e:Cu _ _ _:=BC c h.1
   unfold Cu at e
   simp only[ren,ET]
   rw[e];exact .mk' h.2 rfl
  grind
 ·split at h
  ·have e:BM _ _:=BC c h.1
   unfold BM at e
   simp only[ren,ET]
   rw[e];exact .mk' h.2 rfl
  grind
 grind
theorem ZnA{s d:TypeId}{i j:TI}(hi:TIok P s i)(k:TIok P d j){x:AV}(l:∀b,g=some b→b=true)(h:X1 i j x g a K):Fe P s d (ren r x) (KR r K):=by
 unfold X1 at h
 split at h
 ·split at h
  ·rename_i q n p k' o m t c f
   have e:Cu _ _ _:=BC l h.1
   unfold Cu at e
   simp only[ren,Fe,hi.ik _ c,k.ik _ f]
   rw[e];exact .mk' h.2 rfl
  grind
 ·split at h
  ·rename_i c f
   simp only[ren,Fe,JD (by rw[hi.kin];exact Yc c),JD (by rw[k.kin];exact Yc f)]
   exact .mk' h rfl
  grind
 grind
theorem Nf{d l:Nat}{o a:Option AV}(h:D0 d o l)(b:a=o.map (ren r)):Ei d a=some l:=by
 subst b
 unfold D0 at h
 split at h
 ·simp[Ei,h]
 ·subst h
  simp[Ei,ren]
 grind
theorem ZkF{t:TypeId}{i:TI}(hi:TIok P t i)(B:DB r H H')(c:∀b,g=some b→b=true){x:AV}{lo q:Option AV}{v:Bool}(h:W3 i H x lo q v g a K):
  EG P H' t (ren r x) (lo.map (ren r)) (q.map (ren r)) v (KR r K):=by
 unfold W3 at h
 split at h
 ·split at h
  ·split at h
   ·rename_i C
    obtain⟨m,n,o,p⟩:=h
    have f:=Nf (r:=r) (BC c m) rfl
    have j:=Nf (r:=r) (BC c n) rfl
    have d:Gf _ _ _:=BC c o
    simp only[ren,EG,f,j]
    exact⟨by rw[hi.kin];exact Yc C,trivial,d.1,d.2,.mk' p rfl⟩
   grind
  ·split at h
   ·rename_i e sz w D he
    split at h
    ·rename_i l
     have l:=Yh l
     obtain⟨m,n,o,p,u⟩:=h
     have f:=Nf (r:=r) (BC c m) rfl
     have j:=Nf (r:=r) (BC c n) rfl
     have d:Gf _ _ _:=BC c o
     have k:SO _ _ _ _ _:=BC c p
     simp only[ren,EG,f,j,hi.elm _ he]
     exact⟨trivial,by omega,k.1,d.1,d.2,.mk' u (by rw[ren,k.2])⟩
    grind
   grind
  ·split at h
   ·rename_i e sz I G D he hl
    split at h
    ·rename_i l s
     have l:=Yh l
     obtain⟨y,z,E,A,F⟩:=B.at hl
     obtain⟨m,n,o,p,u⟩:=h
     have f:=Nf (r:=r) (BC c m) rfl
     have j:=Nf (r:=r) (BC c n) rfl
     have d:Gf _ _ _:=BC c o
     have k:Z4 _ _ _ _ _:=BC c p
     simp only[ren,EG,f,j,hi.elm _ he]
     exact⟨trivial,y,z,by omega,by rw[A];exact Yc s,d.1,d.2,.mk' u (by rw[ren,k.1,k.2])⟩
    grind
   grind
  grind
 grind
theorem Zqx{t:TypeId}{i:TI}(hi:TIok P t i)(k:DB r H H')(d:∀b,g=some b→b=true){x:AV}(h:Ua i H x g a K):DN P H' t (ren r x) (KR r K):=by
 unfold Ua at h
 split at h
 ·split at h
  ·rename_i c
   have e:BM _ _:=BC d h.1
   unfold BM at e
   simp only[ren,DN,hi.kin]
   exact⟨Yc c,.mk' h.2 (by rw[ren,e])⟩
  grind
 ·split at h
  ·rename_i c
   have e:BM _ _:=BC d h.1
   unfold BM at e
   simp only[ren,DN,hi.kin]
   exact⟨Yc c,.mk' h.2 (by rw[ren,e])⟩
  grind
 ·split at h
  ·rename_i c
   have e:BM _ _:=BC d h.1
   unfold BM at e
   simp only[ren,DN,hi.kin]
   exact⟨Yc c,.mk' h.2 (by rw[ren,e])⟩
  grind
 ·split at h
  ·rename_i c hl
   have e:BM _ _:=BC d h.1
   unfold BM at e
   obtain⟨f,j,_⟩:=k.at hl
   simp only[ren,DN,hi.kin]
   exact⟨Yc c,f,j,.mk' h.2 (by rw[ren,e])⟩
  grind
 grind
theorem Zqr(a:DB r H H'){x:AV}{y:Bool×List (List D)}(h:mH H x=some y):Nz H' (ren r x)=some y:=by
 unfold mH at h
 split at h
 ·simp only[ren,Nz];exact h
 ·split at h
  ·rename_i k g _ _ q b hl he
   obtain⟨c,d,e,_,_⟩:=a.at hl
   simp only[ren,Nz]
   grind
  ·cases h
 ·cases h
theorem Zst(q:Bool)(ds:List D):ren r (Ob q ds)=Ob q ds:=by
 unfold Ob
 split<;>simp[ren,H3]
theorem ZJH(a q:Bool)(ds:List D)(ok:Bool):ren r (N9 a q ds ok)=N9 a q ds ok:=by
 unfold N9
 cases a
 ·exact Zst q ds
 ·simp only[ren,Au,Zst]
theorem Znm{t:TypeId}{i:TI}(hi:TIok P t i)(k:DB r H H')(l:∀b,g=some b→b=true){x y:AV}{c:Bool}(h:XK i H x y c g a K):GE P H' t (ren r x) (ren r y) c (KR r K):=by
 unfold XK at h
 split at h
 ·rename_i q z p o s ok vs n f j
  split at h
  ·rename_i m
   obtain⟨d,e⟩:R6 _ _ _ _ _:=BC l h.1
   simp only[GE,hi.mp _ f,Zqr k j,ren]
   exact⟨ZP7 m,.mk' h.2 (by rw[d,e,ZJH])⟩
  grind
 grind
theorem PD{x:AV}{vs:List AV}(h:CY x=some vs)(hx:∀f xs ys,x≠.fn (.yield f) xs ys):CY (ren r x)=some (Au r vs):=by
 cases x<;>simp only[CY,Yi]at h<;>try (cases h;done)
 case fn f xs ys=>
  subst h
  cases f with
  |yield i=>exact absurd rfl (hx i xs ys)
  |_=>simp[ren,Au,CY]
 all_goals(subst h;simp[ren,Au,CY])
theorem PY{x:AV}(h:I8 x=true):∀f xs ys,x≠.fn (.yield f) xs ys:=by
 rintro f xs ys rfl;cases h
theorem ZLM{t:TypeId}{i:TI}(hi:TIok P t i){f o n:Nat}(h:qw i f=some (o,n)):fld P t f=some (o,n):=by
 unfold qw at h
 split at h
 ·rename_i d c b a
  simp only[Yi,G2]at h
  obtain⟨rfl,rfl⟩:=h
  exact(Nh hi a).1
 ·cases h
theorem zL{t:TypeId}{i:TI}(hi:TIok P t i):∀(ps:List (Nat×AV)) (z cs:List AV),(∀p∈ps,I8 p.2=true)→RJ i z ps=some cs→CA (fld P t) (Au r z) (ps.map fun p=>(p.1,ren r p.2))=some (Au r cs)
 |[],z,cs,_,h=>by
  simp only[RJ,Yi]at h
  subst h
  simp[CA]
 |(f,v)::ps,z,cs,e,h=>by
  simp only[RJ]at h
  split at h
  ·rename_i off size vs a g
   split at h
   ·rename_i c d
    have c:=Yc c
    have d:=Yh d
    have b:=PD (r:=r) g (PY (e (f,v) (YD ..)))
    simp only[YV,CA,ZLM hi a,b,CH]
    rw[Ym (by omega)]
    have:=zL hi ps _ cs (fun p a=>e p (Yz _ a)) h
    rw[←this]
    simp only[G9,FI,Fb]
   ·cases h
  ·cases h
theorem Zlg{t:TypeId}{i:TI}(hi:TIok P t i){parts:List (Nat×AV)}(e:∀p∈parts,I8 p.2=true)(f:∀z,i.zer=some z→Au r z=z)(h:WJ i parts a K):
  FO P t (parts.map fun p=>(p.1,ren r p.2)) (KR r K):=by
 unfold WJ at h
 split at h
 ·rename_i z c b
  split at h
  ·rename_i cs d
   have:=zL (r:=r) hi _ _ _ e d
   unfold FO
   rw[hi.zer _ b]
   rw[f z b]at this
   simp only[this]
   exact⟨hi.str c,.mk' h rfl⟩
  grind
 grind
theorem Zx9{x:AV}(h:x.flat=true):ren r x=x:=by cases x<;>first|(simp[ren];done)|cases h
theorem K5{z:List AV}(h:z.all AV.flat=true):Au r z=z:=by
 induction z with
 |nil=>simp[Au]
 |cons x z a=>
  simp only[IX,Yb]at h
  rw[Au,Zx9 h.1,a h.2]
theorem zK{c x y:Operand}{ρ d:Operand→AV}{t:Bool}(e:ρ c=.d (.bool t))(b:d c=ren r (ρ c))(hx:t=true→d x=ren r (ρ x))(hy:t=false→d y=ren r (ρ y))(h:tV T H (.pick c x y) ρ g a K):
  Bb P H' (.pick c x y) d (KR r K):=by
 simp only[tV,e]at h
 rw[e]at b
 simp only[ren]at b
 simp only[Bb,b]
 rw[ZBE]at h
 cases t
 ·exact .mk' h (by simp[hy rfl])
 ·exact .mk' h (by simp[hx rfl])
theorem lJ{ρ a:Operand→AV}{xs:List Operand}(h:∀x∈xs,a x=ren r (ρ x)):xs.map a=Au r (xs.map ρ):=by
 rw[FJ,IY]
 exact Er h
theorem ZoR{ρ a:Operand→AV}{o:Option Operand}(h:∀x,o=some x→a x=ren r (ρ x)):o.map a=(o.map ρ).map (ren r):=by
 cases o with
 |none=>rfl
 |some x=>simp[h x rfl]
theorem ZlL{r:Ren}{b:Bool}{x y:AV}{a:AT}{K:AV→AT→Prop}(h:Eo b x y (fun v=>K v a)):Eo b (ren r x) (ren r y) (KR r K):=by
 unfold Eo at h
 split at h
 ·simp only[ren,Eo];exact .mk' h rfl
 grind
theorem ZyO(n:Bi P T)(C:DB r H H')(A:∀b,g=some b→b=true){op:Op}{ρ w:Operand→AV}(Z:∀x∈op.operands,w x=ren r (ρ x))(h:tV T H op ρ g a K):Bb P H' op w (KR r K):=by
 have get:∀{x:Operand},x∈op.operands→w x=ren r (ρ x):=fun hx=>Z _ hx
 cases op<;>simp only[tV]at h<;>try exact h.elim
 case move x=>exact .mk' h (get (by simp[Op.operands]))
 case assign x=>exact .mk' h (get (by simp[Op.operands]))
 case pick c x y=>
  split at h
  ·rename_i t l
   exact zK (a:=a) (g:=g) (T:=T) (H:=H) l (get (by simp[Op.operands])) (fun _=>get (by simp[Op.operands])) (fun _=>get (by simp[Op.operands])) (by simp only[tV,l];exact h)
  ·grind
 case load t x=>
  split at h
  ·rename_i i hi;simp only[Bb];rw[get (x:=x) (by simp[Op.operands])];exact ku (n _ _ hi) C A h
  ·grind
 case fieldAddr t x f=>
  split at h
  ·rename_i i hi;simp only[Bb];rw[get (x:=x) (by simp[Op.operands])];exact Zg5 (n _ _ hi) C h
  ·grind
 case field t x f=>
  split at h
  ·rename_i i hi;simp only[Bb];rw[get (x:=x) (by simp[Op.operands])];exact Zmn (n _ _ hi) h
  ·grind
 case indexAddr t x j=>
  split at h
  ·rename_i i hi;simp only[Bb];rw[get (x:=x) (by simp[Op.operands]),get (x:=j) (by simp[Op.operands])];exact Zg2 (n _ _ hi) C A h
  ·grind
 case index t x j=>
  split at h
  ·rename_i i hi;simp only[Bb];rw[get (x:=x) (by simp[Op.operands]),get (x:=j) (by simp[Op.operands])];exact Zmu (n _ _ hi) A h
  ·grind
 case makeInterface t x=>
  split at h
  case h_2=>exact h.elim
  rename_i i hi
  have E:(i.str||i.elm.isSome)=true→J6 P t=true:=rU (n _ _ hi)
  simp only[Bb]
  rw[get (x:=x) (by simp[Op.operands])]
  split at h
  ·rename_i xs D hx
   rw[hx]
   simp only[ren]
   split at h
   case h_2=>exact h.elim
   rename_i ds N
   have e:=V7 N
   subst e
   rw[H3,N]
   exact⟨E D,.mk' h rfl⟩
  ·rename_i y D hx
   rw[hx]
   simp only[ren]
   exact⟨E D,.mk' h rfl⟩
  ·exact h.elim
 case typeAssert x u t ok=>
  split at h
  case h_2=>exact h.elim
  rename_i i hi
  have E:(i.str||i.elm.isSome)=true→J6 P t=true:=rU (n _ _ hi)
  simp only[Bb]
  rw[get (x:=x) (by simp[Op.operands])]
  split at h
  case h_2=>exact h.elim
  rename_i u ds q D hx
  rw[hx]
  simp only[ren]
  split at h
  case h_2=>exact h.elim
  rename_i v X F
  rw[F]
  have G:ren r v=v:=by
   cases q with
   |true=>cases F;simp only[ren,H3]
   |false=>
    match ds,F with
    |[d],F=>cases F;simp only[ren]
  refine⟨E D,Yc X,.mk' h ?_⟩
  cases ok with
  |true=>simp only[cond,ren,Au,G]
  |false=>exact G.symm
 case extract x j=>
  simp only[Bb]
  rw[get (x:=x) (by simp[Op.operands])]
  split at h
  ·rename_i vs hx
   rw[hx]
   simp only[ren,HZ]
   rw[Cp]at h
   split at h
   ·rename_i y hy;rw[hy];exact .mk' h rfl
   grind
  ·grind
 case binOp o t x y u=>
  split at h
  ·rename_i i hi;simp only[Bb];rw[get (x:=x) (by simp[Op.operands]),get (x:=y) (by simp[Op.operands])];exact ZqX (n _ _ hi) C A h
  ·grind
 case unOp o t x=>simp only[Bb];rw[get (x:=x) (by simp[Op.operands])];exact Zsr A h
 case nilCheck x=>
  split at h
  ·rename_i k q off hx
   split at h
   ·rename_i hl
    simp only[Bb]
    rw[get (x:=x) (by simp[Op.operands]),hx]
    obtain⟨O,Q,_,_,_⟩:=C.at hl
    simp only[ren,Ji]
    exact⟨O.symm▸rfl,Q,.mk' h (by simp[ren])⟩
   grind
  ·rename_i cs off hx
   simp only[Bb]
   rw[get (x:=x) (by simp[Op.operands]),hx]
   simp only[ren,Ji]
   exact .mk' h (by simp[ren])
  ·grind
 case convert s d x=>
  split at h
  ·rename_i i j hi V;simp only[Bb];rw[get (x:=x) (by simp[Op.operands])];exact ZnA (n _ _ hi) (n _ _ V) A h
  ·grind
 case makeFunc fn first B=>
  have m:first.toList.map w=Au r (first.toList.map ρ):=lJ fun x hx=>get (by simp only[Op.operands,OI];exact .inl (by simpa using hx))
  have I:B.toList.map w=Au r (B.toList.map ρ):=lJ fun x hx=>get (by simp only[Op.operands,OI];exact .inr (by simpa using hx))
  simp only[Bb]
  rw[m,I]
  split at h
  ·grind
  ·rename_i L
   refine .mk' h ?_
   cases fn<;>first|exact absurd rfl (L _)|simp[ren]
 case slice t x lo hi mx=>
  split at h
  ·rename_i i J
   simp only[Bb]
   rw[get (x:=x) (by simp[Op.operands]),ZoR (o:=lo) (fun y hy=>get (by subst hy;simp[Op.operands])),ZoR (o:=hi) (fun y hy=>get (by subst hy;simp[Op.operands]))]
   exact ZkF (n _ _ J) C A h
  ·grind
 case build t parts=>
  split at h
  ·rename_i i hi E
   simp only[Bb]
   have e:(parts.toList.map fun p=>(p.1,w p.2))=(parts.toList.map fun p=>(p.1,ρ p.2)).map fun p=>(p.1,ren r p.2):=by
    rw[IY]
    refine Er fun p M=>?_
    simp only[Function.comp]
    rw[get (x:=p.2) (by simp only[Op.operands,OJ,YW];exact⟨p,M,rfl⟩)]
   rw[e]
   refine Zlg (n _ _ hi) (fun p M=>?_) (fun z Y=>K5 ((n _ _ hi).flt z Y)) h
   obtain⟨q,hq,rfl⟩:=YW.1 M
   grind
  ·grind
 case lookup t x y ck=>
  split at h
  ·rename_i i hi;simp only[Bb];rw[get (x:=x) (by simp[Op.operands]),get (x:=y) (by simp[Op.operands])];exact Znm (n _ _ hi) C A h
  ·grind
 case call c=>
  split at h
  ·rename_i x t l hx W
   split at h
   ·rename_i i hi
    have m:c.args=#[x]:=Db (by simpa using hx)
    have I:c.argTypes=#[t]:=Db (by simpa using W)
    simp only[Bb,l,m,I]
    show 1=1∧DN P H' t (w x) (KR r K)
    rw[get (x:=x) (by simp[Op.operands,Call.operands,l,m])]
    exact⟨rfl,Zqx (n _ _ hi) C A h⟩
   grind
  ·rename_i x y l hx
   have m:c.args=#[x,y]:=Db (by simpa using hx)
   simp only[Bb,l,m]
   show Eo false (w x) (w y) (KR r K)
   rw[get (x:=x) (by simp[Op.operands,Call.operands,l,m]),get (x:=y) (by simp[Op.operands,Call.operands,l,m])]
   exact ZlL h
  ·rename_i x y l hx
   have m:c.args=#[x,y]:=Db (by simpa using hx)
   simp only[Bb,l,m]
   show Eo true (w x) (w y) (KR r K)
   rw[get (x:=x) (by simp[Op.operands,Call.operands,l,m]),get (x:=y) (by simp[Op.operands,Call.operands,l,m])]
   exact ZlL h
  ·rename_i x y z l hx
   have m:c.args=#[x,y,z]:=Db (by simpa using hx)
   simp only[Bb,l,m]
   show Ht true (w x) (w y) (w z) (KR r K)
   rw[get (x:=x) (by simp[Op.operands,Call.operands,l,m]),get (x:=y) (by simp[Op.operands,Call.operands,l,m]),get (x:=z) (by simp[Op.operands,Call.operands,l,m])]
   unfold Ht at h
   split at h
   ·rename_i R S U
    rw[R,S,U]
    simp only[ren,Ht];exact .mk' h rfl
   grind
  ·grind
end
end Go.Eng
namespace Go.Eng
set_option linter.all false
open Go Go.RowKit
abbrev CU:=List (Nat×Bool)
abbrev BX:=List (Nat×CU)
def lk:BX→Nat→CU
 |[],_=>[]
 |(i,c)::r,j=>match Nat.beq i j with|true=>c|false=>lk r j
def Pa(t:Bool):Bool→Bool
 |true=>t
 |false=>!t
theorem kV{t b:Bool}:Pa t b=true↔t=b:=by cases t<;>cases b<;>simp[Pa]
def Ky:CU→CU→Bool
 |[],[]=>true
 |(i,a)::r,(j,b)::q=>Nat.beq i j&&Pa a b&&Ky r q
 |_,_=>false
theorem lT:∀{a b:CU},Ky a b=true→a=b
 |[],[],_=>rfl
 |(i,a)::r,(j,b)::q,h=>by
  simp only[Ky,Yb]at h
  rw[Yc h.1.1,kV.1 h.1.2,lT h.2]
 |[],_::_,h=>by simp[Ky]at h
 |_::_,[],h=>by simp[Ky]at h
def T6(a:CU):CU→Bool
 |[]=>Ky a []
 |q::b=>Ky a (q::b)||T6 a b
theorem Zn3{a:CU}:∀{b:CU},T6 a b=true→∀q∈a,q∈b
 |[],h,q,c=>by rw[lT h]at c;exact c
 |p::b,h,q,c=>by
  simp only[T6,YH]at h
  rcases h with h|h
  ·rw[lT h]at c;exact c
  ·exact Yz _ (Zn3 h q c)
def C5(s:Nat→AV)(c:CU):Prop:=∀q∈c,s q.1=.d (.bool q.2)
def Hg(s:Nat→AV):CU→Option Bool
 |[]=>some true
 |[(d,b)]=>match s d with|.d (.bool t)=>some (Pa t b)|_=>none
 |(d,b)::r=>match s d,Hg s r with|.d (.bool t),some c=>some (c&&Pa t b)|_,_=>none
theorem MS{s:Nat→AV}:∀{c:CU} {g:Bool},Hg s c=some g→(g=true↔C5 s c)
 |[],g,h=>by simp only[Hg,Yi]at h;subst h;simp[C5]
 |[(d,b)],g,h=>by
  simp only[Hg]at h
  split at h
  ·rename_i t f
   simp only[Yi]at h
   subst h
   rw[kV]
   simp[C5,f]
  ·cases h
 |(d,b)::q::r,g,h=>by
  simp only[Hg]at h
  split at h
  ·rename_i t c f i
   simp only[Yi]at h
   subst h
   have j:=MS i
   rw[Yb,j,kV]
   constructor
   ·rintro⟨e,rfl⟩ p a
    rcases Yw.1 a with rfl|a
    ·exact f
    ·exact e p a
   ·intro e
    refine⟨fun p a=>e p (Yz _ a),?_⟩
    have:=e (d,b) (YD ..)
    grind
  ·cases h
def NN(e:Nat)(c:CU):Bool:=c.all fun q=>!Nat.beq q.1 e
def fresh(e:Nat)(env:BX):Bool:=env.all fun p=>NN e p.2
theorem ZoA{s:Nat→AV}{e:Nat}{v:AV}{c:CU}(h:NN e c=true):C5 (upd s e v) c↔C5 s c:=by
 have key:∀q∈c,upd s e v q.1=s q.1:=fun q a=>by
  have:=Yu.1 h q a
  unfold upd
  rw[Ym]
  intro he
  subst he
  simp at this
 constructor
 ·exact fun h q a=>(key q a)▸h q a
 ·exact fun h q a=>(key q a).trans (h q a)
theorem Zom{e:Nat}:∀{env:BX},fresh e env=true→∀j,NN e (lk env j)=true
 |[],_,j=>rfl
 |(i,c)::r,h,j=>by
  simp only[fresh,IX,Yb]at h
  simp only[lk]
  split
  ·exact h.1
  ·exact Zom h.2 j
theorem lS{env:BX}{e:Nat}{c:CU}(j:Nat):lk ((e,c)::env) j=if j=e then c else lk env j:=by
 simp only[lk]
 by_cases h:j=e
 ·subst h;simp
 ·rw[Ym h]
  split
  ·rename_i a;exact absurd (Yc a).symm h
  ·rfl
def IL(env:BX)(c:CU):Operand→Bool
 |.tmp t=>T6 (lk env t) c
 |_=>true
def Cj(env:BX)(c:CU):Op→Bool
 |.pick (.tmp d) x y=>IL env c (.tmp d)&&IL env ((d,true)::c) x&&IL env ((d,false)::c) y
 |op=>op.operands.toList.all (IL env c)
structure RenOk (r:Ren) (l outs:Nat):Prop where
 own:∀d,r.κ (1,d)=(l+1,d)
 out:∀i,i<outs→(r.κ (0,i)).1≤l
 inj:∀i j,i<outs→j<outs→r.κ (0,i)=r.κ (0,j)→i=j
 no:∀k,r.no k→∃i,i<outs∧r.κ (0,i)=k
structure RG (r:Ren) (l outs:Nat) (env:BX) (τ σ:St):Prop where
 s:∀j,(C5 τ.s (lk env j)→σ.s j=ren r (τ.s j))∧(¬C5 τ.s (lk env j)→σ.s j=.tup [])
 h:DB r τ.H σ.H
 g:∀d,(σ.H (l+1,d)).g=r.γ (1,d)+(τ.H (1,d)).g
 go:∀i,i<outs→(σ.H (r.κ (0,i))).g=r.γ (0,i)+(τ.H (0,i)).g
 k:∀k,(τ.H k).live=true→k.1=1∨(k.1=0∧k.2<outs)
 o:∀k:Af,k.1≤l→¬r.no k→σ.H k=r.H0 k
def Ib(P:Program)(l:Nat)(r:Ren)(f:FuncId)(xs:List AV)(c:List (Af×Blk))(x:AV):Prop:=
 ∀a,(∀p∈c,p.2.live=true→a (r.κ p.1)=AW r p.1 p.2)→(∀k:Af,k.1≤l→¬r.no k→a k=r.H0 k)→Zc8 P f (l+1) (Au r xs) a (fun y b=>y=ren r x∧b=a)
def ND(P:Program)(l:Nat)(r:Ren)(i:Nat)(xs:List AV)(d:List (Af×Blk))(x:AV):Prop:=
 ∃f first a,r.θ i=.fn (.func f) first a∧∀b,(∀p∈d,p.2.live=true→b (r.κ p.1)=AW r p.1 p.2)→(∀k:Af,k.1≤l→¬r.no k→b k=r.H0 k)→Zc8 P f (l+1) (first++Au r xs++a) b (fun y c=>y=ren r x∧c=b)
def TO(P:Program)(l:Nat)(r:Ren)(H:Hp)(f:AV)(xs:List AV)(g:Option Bool)(a:AT)(K:AV→AT→Prop):Prop:=
 match f,a with
 |.fn (.func i) first b,.call x ks a=>Bo g (Ib P l r i (first++xs++b) (ks.map fun k=>(k,H k)) x)∧K x a
 |.fn (.yield i) _ _,.call x ks a=>Bo g (ND P l r i xs (ks.map fun k=>(k,H k)) x)∧K x a
 |_,_=>False
def Zy(T:Nat→Option TI)(τ:St)(t:TypeId)(len:Nat)(parts:List (Nat×Operand))(a:AT)(K:AV→AT→Prop):Prop:=
 match T t with
 |some i=>(match i.elm with
  |some (e,sz)=>(match Nat.ble 1 sz,len with
   |true,0=>(match parts with|[]=>K .e0 a|_=>False)
   |true,len+1=>(match T e,Nat.ble ((len+1)*sz) 16777216 with
    |some j,true=>(match j.zer with
     |some z=>(match Nat.beq z.length sz,F3 sz 0 (parts.map fun p=>(p.1,ev τ.s p.2))with
      |true,some es=>(match Nat.beq es.length (len+1)with|true=>K (.d (.list es)) a|false=>False)
      |_,_=>False)
     |none=>False)
    |_,_=>False)
   |_,_=>False)
  |none=>False)
 |none=>False
def pV(P:Program)(T:Nat→Option TI)(l:Nat)(r:Ren)(τ:St)(op:Op)(g:Option Bool)(a:AT)(K:AV→AT→Prop):Prop:=
 match op with
 |.call c=>match c.callee with
  |.value f=>TO P l r τ.H (ev τ.s f) (c.args.toList.map (ev τ.s)) g a K
  |_=>tV T τ.H op (ev τ.s) g a K
 |.buildSlice t len parts=>Zy T τ t len parts.toList a K
 |op=>tV T τ.H op (ev τ.s) g a K
def Fg(n d:Nat)(K:St→AT→Prop)(τ:St)(v:AV)(a:AT):Prop:=
 match Nat.ble (d+1) n with
 |true=>K ⟨upd τ.s d v,τ.H⟩ a
 |false=>False
section
variable {P:Program} {T:Nat→Option TI} {r:Ren} {l n outs:Nat} {env:BX} {τ σ:St} {g:Option Bool} {a:AT} {c:CU}
theorem ZPG(v:Value):ren r (cv v)=cv v:=by unfold cv;split<;>simp[ren]
theorem Lr(h:RG r l outs env τ σ)(hs:C5 τ.s c){x:Operand}(hx:IL env c x=true):ev σ.s x=ren r (ev τ.s x):=by
 cases x with
 |tmp t=>exact(h.s t).1 fun q a=>hs q (Zn3 hx q a)
 |const v=>exact(ZPG v).symm
 |global g=>simp[ev,ren]
 |func f=>simp[ev,ren,Au]
theorem Hb(h:RG r l outs env τ σ)(hs:C5 τ.s c){op:Op}(hx:op.operands.toList.all (IL env c)=true):∀x∈op.operands,ev σ.s x=ren r (ev τ.s x):=
 fun x hm=>Lr h hs (Yu.1 hx x (by simpa using hm))
theorem to(s:Bi P T)(h:RG r l outs env τ σ)(hs:C5 τ.s c)(u:∀b,g=some b→b=true){op:Op}(hx:Cj env c op=true){K:AV→AT→Prop}(i:tV T τ.H op (ev τ.s) g a K):
  Bb P σ.H op (ev σ.s) (KR r K):=by
 unfold Cj at hx
 split at hx
 ·rename_i d x y
  simp only[Yb]at hx
  obtain⟨⟨n,o⟩,p⟩:=hx
  have f:=i
  simp only[tV]at f
  split at f
  ·rename_i t k
   have m:=Lr h hs n
   refine zK (T:=T) (H:=τ.H) (g:=g) (a:=a) k m (fun e=>Lr h (c:=(d,true)::c) ?_ o) (fun e=>Lr h (c:=(d,false)::c) ?_ p) i
   all_goals
    subst e
    intro q j
    rcases Yw.1 j with rfl|j
    ·exact k
    ·exact hs q j
  grind
 ·exact ZyO s h.h u (Hb h hs hx) i
theorem kW(h:RG r l outs env τ σ)(hs:C5 τ.s c)(s:∀b,g=some b→b=true){cl:Call}{f:Operand}(o:cl.callee=.value f)(hx:Cj env c (.call cl)=true){K:AV→AT→Prop}
  (e:TO P l r τ.H (ev τ.s f) (cl.args.toList.map (ev τ.s)) g a K):
  ∃i first d x j,ev σ.s f=.fn (.func i) first d∧Zc8 P i (l+1) (first++cl.args.toList.map (ev σ.s)++d) σ.H (fun y t=>y=ren r x∧t=σ.H)∧K x j:=by
 have hx:(Op.call cl).operands.toList.all (IL env c)=true:=hx
 have q:=Hb h hs hx f (by simp[Op.operands,Call.operands,o])
 have m:cl.args.toList.map (ev σ.s)=Au r (cl.args.toList.map (ev τ.s)):=lJ fun x hm=>Hb h hs hx x (by simp only[Op.operands,Call.operands,o,OI];exact .inr (by simpa using hm))
 have n:∀ks:List Af,∀p∈ks.map fun k=>(k,τ.H k),p.2.live=true→σ.H (r.κ p.1)=AW r p.1 p.2:=fun ks p e hl=>by
  obtain⟨k,A,rfl⟩:=YW.1 e
  exact h.h k hl
 unfold TO at e
 split at e
 ·rename_i i first d x ks j he
  have v:Ib _ _ _ _ _ _ _:=BC s e.1
  refine⟨i,Au r first,Au r d,x,j,by rw[q,he];simp[ren],?_,e.2⟩
  rw[m,←G9,←G9]
  exact v σ.H (n ks) h.o
 ·rename_i i xs ys x ks j he
  obtain⟨u,first,d,w,z⟩:ND _ _ _ _ _ _ _:=BC s e.1
  refine⟨u,first,d,x,j,by rw[q,he];simp[ren,w],?_,e.2⟩
  rw[m]
  exact z σ.H (n ks) h.o
 grind
theorem RG.put(h:RG r l outs env τ σ){e:Nat}{ch:CU}(b:fresh e env=true)(c:NN e ch=true){v:AV}{y:AV}(hy:C5 τ.s ch→y=ren r v)(d:¬C5 τ.s ch→y=.tup []):
  RG r l outs ((e,ch)::env) ⟨upd τ.s e v,τ.H⟩ ⟨upd σ.s e y,σ.H⟩:=by
 refine⟨fun j=>?_,h.h,h.g,h.go,h.k,h.o⟩
 simp only
 rw[lS]
 by_cases a:j=e
 ·subst a
  rw[Yj rfl,ZoA c]
  simp only[upd,Yt]
  grind
 ·rw[Ym a,ZoA (Zom b j)]
  simp only[upd,Ym a]
  exact h.s j
end
section
variable {P:Program} {l n:Nat} {H:Hp} {m:Mu} {S:Nat→Prop} {w w':World} {s:Nat→AV} {a:Act}
theorem MEnt.push{q:Bool}{es:List (List D)}{ents:Array MapEntry}{a:Nat}{s:ByteArray}{ds:List D}{v:Value}(h:MEnt w S q es ents a)(g:VR w S q ds v):
  MEnt w S q (es++[.str s::ds]) (ents.push {key:=.string s,val:=v,born:=a }) (a+1):=by
 have b:∀(i:Nat) (y:MapEntry),(ents.push {key:=.string s,val:=v,born:=a })[i]?=some y→(i=ents.size∧y={key:=.string s,val:=v,born:=a })∨(i≠ents.size∧ents[i]?=some y):=fun i y hy=>by
  grind
 refine⟨by simp[h.n],fun i k y z hy j e=>?_,fun i y hy=>?_,fun i e y hi hy=>?_⟩
 ·rcases b i y hy with⟨rfl,rfl⟩|⟨a1,c⟩<;>rcases b k z j with⟨rfl,rfl⟩|⟨l,f⟩
  ·rfl
  ·have:=h.clk k z f;simp only at e;omega
  ·have:=h.clk i y c;simp only at e;omega
  ·exact h.born i k y z c f e
 ·rcases b i y hy with⟨rfl,rfl⟩|⟨a1,c⟩
  ·grind
  ·exact au (h.clk i y c)
 ·rcases b i y hy with⟨rfl,rfl⟩|⟨a1,c⟩
  ·rw[h.n,YB (Yf _),Nat.sub_self]at hi
   cases hi
   exact⟨s,ds,rfl,rfl,g⟩
  ·have d:i<es.length:=by rw[←h.n];exact PH c
   rw[Yr d]at hi
   exact h.e i e y hi c
end
section
variable {P:Program} {l n:Nat} {B:Base} {H H':Hp} {m m':Mu} {S S':Nat→Prop} {w w':World} {s:Nat→AV} {a:Act} {K:St→Prop} {o:Oper}
theorem lH{k:Af}{g:Nat}{v:Value}(h:RepA w S H m l (.mp k g) v)(b:g=(H k).g)(hl:(H k).live=true):k.1≤l∧v=.map (some (m k).b):=by
 cases h with
 |mpL _ c _=>exact⟨c,rfl⟩
 |mpD _ _ _ _ _ a _=>rw[a b]at hl;cases hl
end
def yV(x:EK)(e:Nat):Bool:=
 match x with
 |.t e'=>Nat.beq e' e
 |_=>false
theorem ZKr{x:EK}{e:Nat}(h:yV x e=true):x=.t e:=by
 cases x with
 |t e'=>rw[Yc (show Nat.beq e' e=true from h)]
 |_=>cases h
def BK(a b:Af):Bool:=Nat.beq a.1 b.1&&Nat.beq a.2 b.2
def AV.onef:AV→Bool
 |.top|.agg _|.tup _|.fn _ _ _=>false
 |_=>true
def Eb(sz:Nat)(C:List AV)(y:AV)(c:Nat)(news:List AV):Prop:=
 news.all AV.onef=true∧match y with
 |.e0=>c=0∧news=[]
 |.d (.list es)=>(∀e∈es,e.length=sz)∧c=es.length∧news=es.flatten.map .d
 |.ref _ _ off n=>c=n∧(off+n)*sz≤C.length∧news=(C.drop (off*sz)).take (n*sz)
 |_=>False
def KT(C:List AV)(off a c sz byt:Nat)(news d:List AV)(b:Nat):Prop:=(off+a)*sz=C.length∧C.drop (off*sz)++news=d∧a+c=b∧b*byt≤140737488355328
def OZ(c byt:Nat):Prop:=c*byt≤140737488355328
def L4(r:Ren)(k:Af):Prop:=k.1=0∧r.no (r.κ k)
def FY(r:Ren)(k:Af)(vs:List AV):Prop:=(Au r vs).all (AV.low (r.κ k).1)=true
def Ka(r:Ren)(k:Af)(vs:List AV)(A:Prop):Prop:=
 match Nat.beq k.1 1 with
 |true=>A
 |false=>L4 r k∧FY r k vs∧A
def HD(C:List AV)(off:Nat)(vs a:List AV):Prop:=off+vs.length≤C.length∧C.take off++vs++C.drop (off+vs.length)=a
def I5(n d:Nat)(e:TypeId)(sz:Nat)(cells:List AV)(x:Nat→AV)(K:St→AT→Prop)(τ:St)(a:AT):Prop:=
 match Nat.ble (d+1) n with
 |true=>K ⟨upd τ.s d (x ((τ.H (1,d)).g+1)),updH τ.H (1,d) ⟨(τ.H (1,d)).g+1,true,e,sz,cells⟩⟩ a
 |false=>False
def cellsOf(H:Hp):AV→List AV
 |.ref k g _ _=>match B2 H k g with|true=>(H k).cells|false=>[]
 |_=>[]
def X8(H:Hp)(sz:Nat):AV→Bool
 |.ref k g _ _=>B2 H k g&&Nat.beq (H k).sz sz
 |_=>true
def iJ(T:Nat→Option TI)(r:Ren)(n d:Nat)(t:TypeId)(x y:AV)(a:AT)(K:St→AT→Prop)(τ:St):Prop:=
 match T t with
 |some i=>match i.elm with
  |some (e,sz)=>match T e,Nat.ble 1 sz,X8 τ.H sz y with
   |some j,true,true=>(match j.byt,j.zer,x,a with
    |some byt,some _,.e0,.nat c (.cs news b)=>Eb sz (cellsOf τ.H y) y c news∧OZ c byt∧I5 n d e sz news (fun g=>.ref (1,d) g 0 c) K τ b
    |some byt,some _,.ref k q off l,.nat c (.cs news (.cs f (.nat h b)))=>(match B2 τ.H k q,Nat.beq (τ.H k).sz sz,yV (τ.H k).e e,Nat.ble (d+1) n with
     |true,true,true,true=>Eb sz (cellsOf τ.H y) y c news∧KT (τ.H k).cells off l c sz byt news f h∧Ka r k news (K ⟨upd τ.s d (.ref k (q+1) 0 h),updH τ.H k ⟨q+1,true,e,sz,f⟩⟩ b)
     |_,_,_,_=>False)
    |_,_,_,_=>False)
   |_,_,_=>False
  |none=>False
 |none=>False
def QS(r:Ren)(n:Nat)(i:TI)(x:AV)(vs:Option (List AV))(a:AT)(K:St→AT→Prop)(τ:St):Prop:=
 match x,vs with
 |.ptr k q off,some vs=>match B2 τ.H k q,Nat.beq vs.length i.siz,Nat.ble 1 vs.length with
  |true,true,true=>(match a with
   |.go b=>(match Nat.ble (off+vs.length) (τ.H k).cells.length with
    |true=>Ka r k vs (K ⟨τ.s,updH τ.H k ⟨q,true,(τ.H k).e,(τ.H k).sz,(τ.H k).cells.take off++vs++(τ.H k).cells.drop (off+vs.length)⟩⟩ b)
    |false=>False)
   |.cs c b=>HD (τ.H k).cells off vs c∧Ka r k vs (K ⟨τ.s,updH τ.H k ⟨q,true,(τ.H k).e,(τ.H k).sz,c⟩⟩ b)
   |_=>False)
  |_,_,_=>False
 |_,_=>False
def Z3(c a:Int)(byt m:Nat)(z C:List AV):Prop:=c=(m:Int)∧c≤a∧(byt:Int)*a≤140737488355328∧(List.replicate m z).flatten=C
def KJ(P:Program)(T:Nat→Option TI)(l n:Nat)(r:Ren)(o:Oper)(a:AT)(K:St→AT→Prop)(τ:St):Prop:=
 match o.op with
 |.alloc t=>match o.dst,T t with
  |some d,some i=>(match i.zer with|some (z::f)=>I5 n d t (f.length+1) (z::f) (fun g=>.ptr (1,d) g 0) K τ a|_=>False)
  |_,_=>False
 |.box t x=>match o.dst,CY (ev τ.s x),I8 (ev τ.s x)with
  |some d,some (z::f),true=>I5 n d t (f.length+1) (z::f) (fun g=>.ptr (1,d) g 0) K τ a
  |_,_,_=>False
 |.store t p x=>match o.dst,T t,I8 (ev τ.s x)with
  |none,some i,true=>QS r n i (ev τ.s p) (CY (ev τ.s x)) a K τ
  |_,_,_=>False
 |.buildSlice t len parts=>match o.dst,T t with
  |some d,some i=>(match i.elm with
   |some (e,sz)=>(match Nat.ble 1 sz,len with
    |true,0=>(match parts.toList with|[]=>Fg n d K τ .e0 a|_=>False)
    |true,len+1=>(match T e,Nat.ble ((len+1)*sz) 16777216 with
     |some j,true=>(match j.zer with
      |some z=>(match Nat.beq z.length sz,F3 sz 0 (parts.toList.map fun p=>(p.1,ev τ.s p.2))with
       |true,some es=>(match Nat.beq es.length (len+1)with|true=>Fg n d K τ (.d (.list es)) a|false=>False)
       |_,_=>False)
      |none=>False)
     |_,_=>False)
    |_,_=>False)
   |none=>False)
  |_,_=>False
 |.makeSlice t x y=>match o.dst,T t,ev τ.s x,ev τ.s y,a with
  |some d,some i,.d (.int _ c),.d (.int _ h),.nat m (.cs C b)=>(match i.elm with
   |some (e,sz)=>(match T e,Nat.ble 1 sz with
    |some j,true=>(match j.zer,j.byt with
     |some z,some byt=>(match Nat.beq z.length sz with
      |true=>Z3 c h byt m z C∧I5 n d e sz C (fun g=>.ref (1,d) g 0 m) K τ b
      |false=>False)
     |_,_=>False)
    |_,_=>False)
   |none=>False)
  |_,_,_,_,_=>False
 |.call c=>match c.callee with
  |.builtin .append=>(match o.dst,c.args.toList,c.argTypes.toList with
   |some d,[x,y],[t,k]=>(match Nat.beq t k with|true=>iJ T r n d t (ev τ.s x) (ev τ.s y) a K τ|false=>False)
   |_,_,_=>False)
  |_=>(match o.dst with|some d=>pV P T l r τ o.op none a (Fg n d K τ)|none=>False)
 |_=>match o.dst with|some d=>pV P T l r τ o.op none a (Fg n d K τ)|none=>False
def U3(n:Nat)(K:St→AT→Prop)(s:Nat→AV)(H:Hp)(v:AV)(b:AT):Option Nat→Prop
 |some d=>match Nat.ble (d+1) n with|true=>K ⟨upd s d v,H⟩ b|false=>False
 |none=>K ⟨s,H⟩ b
def wT(T:Nat→Option TI)(r:Ren)(n:Nat)(d:Option Nat)(t l:Nat)(x y:AV)(a:AT)(K:St→AT→Prop)(τ:St):Prop:=
 match T t,T l with
 |some i,some h=>match i.elm,h.elm with
  |some (e,sz),some (e',f)=>match Nat.beq e e',Nat.beq sz f,T e,Nat.ble 1 sz,X8 τ.H sz y with
   |true,true,some j,true,true=>(match j.zer,x,a with
    |some _,.ref k q off cn,.nat c (.cs news (.cs g b))=>(match B2 τ.H k q,Nat.beq (τ.H k).sz sz with
     |true,true=>Eb sz (cellsOf τ.H y) y c news∧c≤cn∧HD (τ.H k).cells (off*sz) news g∧Ka r k news (U3 n K τ.s (updH τ.H k ⟨q,true,(τ.H k).e,(τ.H k).sz,g⟩) (.d (.int .i64 c)) b d)
     |_,_=>False)
    |_,_,_=>False)
   |_,_,_,_,_=>False
  |_,_=>False
 |_,_=>False
def iR(C:List AV)(off cn sz:Nat)(z a:List AV):Prop:=(off+cn)*sz≤C.length∧C.take (off*sz)++(List.replicate cn z).flatten++C.drop ((off+cn)*sz)=a
def sA(T:Nat→Option TI)(r:Ren)(t:Nat)(x:AV)(a:AT)(K:St→AT→Prop)(τ:St):Prop:=
 match T t with
 |some i=>match i.elm with
  |some (e,sz)=>match T e,Nat.ble 1 sz with
   |some j,true=>(match j.zer,x,a with
    |some z,.ref k q off cn,.cs c b=>(match B2 τ.H k q,Nat.beq (τ.H k).sz sz,Nat.beq z.length sz with
     |true,true,true=>iR (τ.H k).cells off cn sz z c∧Ka r k z (K ⟨τ.s,updH τ.H k ⟨q,true,(τ.H k).e,(τ.H k).sz,c⟩⟩ b)
     |_,_,_=>False)
    |_,_,_=>False)
   |_,_=>False
  |none=>False
 |none=>False
def I3(P:Program)(T:Nat→Option TI)(l n:Nat)(r:Ren)(o:Oper)(a:AT)(K:St→AT→Prop)(τ:St):Prop:=
 match o.op with
 |.call c=>(match c.callee with
  |.builtin .copy=>(match c.args.toList,c.argTypes.toList with|[x,y],[t,b]=>wT T r n o.dst t b (ev τ.s x) (ev τ.s y) a K τ|_,_=>False)
  |.builtin .clear=>(match c.args.toList,c.argTypes.toList,o.dst with|[x],[t],none=>sA T r t (ev τ.s x) a K τ|_,_,_=>False)
  |_=>KJ P T l n r o a K τ)
 |_=>KJ P T l n r o a K τ
def sv(T:Nat→Option TI)(n:Nat)(b:Option Nat)(t len:Nat)(vs:List (Nat×AV))(a:AT)(K:St→AT→Prop)(τ:St):Prop:=
 match b,T t with
 |some d,some i=>(match i.elm with
  |some (e,sz)=>(match T e,Nat.ble 1 sz,Nat.ble ((len+1)*sz) 16777216 with
   |some j,true,true=>(match j.zer with
    |some z=>(match Nat.beq z.length sz,CA (fun i=>some (i*sz,sz)) (List.replicate (len+1) z).flatten vs,vs.all (fun p=>I8 p.2)with
     |true,some cs,true=>(match z.all AV.flat with|true=>I5 n d e sz cs (fun g=>.ref (1,d) g 0 (len+1)) K τ a|false=>False)
     |_,_,_=>False)
    |none=>False)
   |_,_,_=>False)
  |none=>False)
 |_,_=>False
def Kp(P:Program)(T:Nat→Option TI)(l n:Nat)(r:Ren)(o:Oper)(a:AT)(K:St→AT→Prop)(τ:St):Prop:=
 match o.op with
 |.buildSlice t (len+1) parts=>(match a with
  |.go b=>sv T n o.dst t len (parts.toList.map fun p=>(p.1,ev τ.s p.2)) b K τ
  |.sep b=>I3 P T l n r o b K τ
  |a=>I3 P T l n r o a K τ)
 |_=>I3 P T l n r o a K τ
def ZVO(s:ByteArray)(ds:List D)(b a:List (List D)):Prop:=IB s ds b=a
def ZWe(s:ByteArray)(b a:List (List D)):Prop:=HS s b=a
def KM(P:Program)(T:Nat→Option TI)(l n:Nat)(r:Ren)(o:Oper)(a:AT)(K:St→AT→Prop)(τ:St):Prop:=Kp P T l n r o a K τ
def Dt(env:BX):Option Nat→BX
 |some d=>(d,[])::env
 |none=>env
def FL(env:BX):Option Nat→Bool
 |some d=>fresh d env
 |none=>true
def Hr(P:Program)(T:Nat→Option TI)(l n:Nat)(r:Ren)(ds:List (Option Nat)):List Oper→BX→AT→(St→BX→AT→Prop)→St→Prop
 |[],env,a,K,τ=>K τ env a
 |o::c,env,a,K,τ=>match o.guard with
  |none=>(match Cj env [] o.op,FL env o.dst with
   |true,true=>KM P T l n r o a (fun τ' f=>Hr P T l n r ds c (Dt env o.dst) f K τ') τ
   |_,_=>False)
  |some (i,b)=>(match Br ds i,o.dst with
   |some (some d),some e=>(match Hg τ.s ((d,b)::lk env d),Cj env ((d,b)::lk env d) o.op,fresh e env&&NN e ((d,b)::lk env d),Nat.ble (e+1) n with
    |some g,true,true,true=>pV P T l r τ o.op (some g) a (fun v f=>Hr P T l n r ds c ((e,(d,b)::lk env d)::env) f K ⟨upd τ.s e v,τ.H⟩)
    |_,_,_,_=>False)
   |_,_=>False)
def jf(P:Program)(T:Nat→Option TI)(l n:Nat)(r:Ren)(o:Oper)(a:AT)(K:St→AT→Prop)(τ:St):Prop:=
 match o.op,o.dst with
 |.buildSlice t (len+1) ps,some d=>pV P T l r τ (.buildSlice t (len+1) ps) none a (Fg n d K τ)
 |_,_=>KM P T l n r o a K τ
def Hh(P:Program)(T:Nat→Option TI)(l n:Nat)(r:Ren)(ds:List (Option Nat)):List Oper→BX→AT→(St→BX→AT→Prop)→St→Prop
 |[],env,a,K,τ=>K τ env a
 |o::c,env,a,K,τ=>match o.guard with
  |none=>(match Cj env [] o.op,FL env o.dst with
   |true,true=>jf P T l n r o a (fun τ' f=>Hh P T l n r ds c (Dt env o.dst) f K τ') τ
   |_,_=>False)
  |some (i,b)=>(match Br ds i,o.dst with
   |some (some d),some e=>(match Hg τ.s ((d,b)::lk env d),Cj env ((d,b)::lk env d) o.op,fresh e env&&NN e ((d,b)::lk env d),Nat.ble (e+1) n with
    |some g,true,true,true=>pV P T l r τ o.op (some g) a (fun v f=>Hh P T l n r ds c ((e,(d,b)::lk env d)::env) f K ⟨upd τ.s e v,τ.H⟩)
    |_,_,_,_=>False)
   |_,_=>False)
section
variable {P:Program} {T:Nat→Option TI} {r:Ren} {l n outs:Nat} {B:Base} {env:BX} {τ σ:St} {a:AT} {o:Oper}
theorem R.adopt{act:Act}{w:World}{d:Nat}{e:TypeId}{sz:Nat}{s:Nat→AV}{H:Hp}(h:R l n B ⟨s,H⟩ act w)(k:Af)(P:k.1=l+1)(g:Nat)(M:(H k).g<g)(L:s d=.e0):R l n B ⟨upd s d (.ref k g 0 0),updH H k ⟨g,true,e,sz,[]⟩⟩ act w:=by
 obtain⟨m,S,o,N,u,D,hex⟩:=h.un
 have c:Ext (l+1) H m S w (updH H k ⟨g,true,e,sz,[]⟩) (Bm m k ⟨0,0,0⟩) S w:=by
  refine⟨fun _ h=>h,fun _ _=>rfl,fun q f=>?_,fun q f E hl=>?_,rfl,rfl,rfl,Yf _⟩
  ·by_cases a:q=k
   ·subst a;rw[A4];simp only;omega
   ·rw[A0 _ _ a];exact Yf _
  ·by_cases a:q=k
   ·subst a;rw[A4]at E;simp only at E;omega
   ·rw[A0 _ _ a]at hl⊢;rw[Bj _ _ a];exact⟨hl,rfl,rfl⟩
 have t:Ok (l+1) (updH H k ⟨g,true,e,sz,[]⟩) (Bm m k ⟨0,0,0⟩) S w:=by
  refine⟨o.sub,fun q f hl b=>?_,fun q f hl b=>?_,fun q G f y hl r b j he=>?_,fun q f hl b=>?_,o.mp.upd (Yf _) k _ rfl (fun q e=>Bj _ _ e) (fun _ h=>h) (fun _ h=>.inl h) (fun _ _=>rfl) (fun _ _ h _=>h)⟩
  ·by_cases a:q=k
   ·subst a;rw[A4]
   ·rw[A0 _ _ a]at hl⊢;rw[Bj _ _ a]at b;exact o.empty q f hl b
  ·by_cases a:q=k
   ·subst a;rw[Bh]at b;exact absurd rfl b
   ·rw[A0 _ _ a]at hl;rw[Bj _ _ a]at b⊢;exact o.fresh q f hl b
  ·have p:q≠k:=by rintro rfl;rw[Bh]at b;exact b rfl
   have A:G≠k:=by rintro rfl;rw[Bh]at j;exact j rfl
   rw[A0 _ _ p]at hl;rw[A0 _ _ A]at r
   rw[Bj _ _ p]at b he;rw[Bj _ _ A]at j he
   exact o.inj q G f y hl r b j he
  ·have p:q≠k:=by rintro rfl;rw[Bh]at b;exact b rfl
   rw[A0 _ _ p]at hl⊢;rw[Bj _ _ p]at b⊢
   obtain⟨C,I,J,K,z⟩:=o.blk q f hl b
   exact⟨C,I,J,K,fun i x v hi F=>⟨(z i x v hi F).1,(z i x v hi F).2.ext c f⟩⟩
 refine⟨_,_,t,N,u,fun i=>?_,hex.trans (c.mono (by omega))⟩
 simp only[upd]
 by_cases hi:i=d
 ·subst hi
  rw[Yj rfl]
  have:=D i
  rw[L]at this
  generalize act.tmps.getD i Go.undef=v at this⊢
  cases this with
  |e0 O=>
   have:=RepA.refL (w:=w) (S:=S) (H:=updH H k ⟨g,true,e,sz,[]⟩) (m:=Bm m k ⟨0,0,0⟩) (l:=l+1) k 0 0 O (by omega) (by rw[A4]) (by rw[Bh];simp) (fun h=>by rw[Bh]at h;simp at h)
   rw[A4,Bh]at this
   exact this
 ·rw[Ym hi]
  exact(D i).ext c (Yf _)
def Ks(r:Ren)(outs:Nat)(k:Af):Prop:=k.1=1∨(k.1=0∧k.2<outs∧r.no (r.κ k))
theorem RenOk.ne(a:RenOk r l outs){q k:Af}(f:q.1=1∨(q.1=0∧q.2<outs))(e:k.1=1∨(k.1=0∧k.2<outs))(b:q≠k):r.κ q≠r.κ k:=fun he=>by
 obtain⟨i,j⟩:=q
 obtain⟨g,h⟩:=k
 simp only at f e
 rcases f with rfl|⟨rfl,c⟩<;>rcases e with rfl|⟨rfl,d⟩
 ·rw[a.own,a.own]at he;simp at he;exact b (by rw[he])
 ·rw[a.own]at he;have:=a.out _ d;rw[←he]at this;simp at this;omega
 ·rw[a.own]at he;have:=a.out _ c;rw[he]at this;simp at this;omega
 ·exact b (by rw[a.inj _ _ c d he])
theorem Ks.lk{k:Af}(h:Ks r outs k):k.1=1∨(k.1=0∧k.2<outs):=by
 rcases h with h|⟨a,b,_⟩
 ·grind
 grind
theorem RG.updK(j:RenOk r l outs)(h:RG r l outs env τ σ)(k:Af)(b m:Blk)(p:b.live=true→m=AW r k b)(o:m.g=r.γ k+b.g)(g:Ks r outs k):
  RG r l outs env ⟨τ.s,Go.Eng.updH τ.H k b⟩ ⟨σ.s,Go.Eng.updH σ.H (r.κ k) m⟩:=by
 have f:=g.lk
 refine⟨h.s,fun q c=>?_,fun d=>?_,fun i hi=>?_,fun q c=>?_,fun q c s=>?_⟩
 ·simp only at c⊢
  by_cases e:q=k
  ·subst e;rw[A4]at c⊢;rw[A4];exact p c
  ·rw[A0 _ _ e]at c⊢;rw[A0 _ _ (j.ne (h.k _ c) f e)];exact h.h q c
 ·simp only
  by_cases a:((1,d):Af)=k
  ·subst a;rw[A4,j.own,A4];exact o
  ·have n:((l+1,d):Af)≠r.κ k:=by rw[←j.own d];exact j.ne (.inl rfl) f a
   rw[A0 _ _ a,A0 _ _ n]
   exact h.g d
 ·simp only
  by_cases a:((0,i):Af)=k
  ·subst a;rw[A4,A4];exact o
  ·rw[A0 _ _ a,A0 _ _ (j.ne (.inr ⟨rfl,hi⟩) f a)]
   exact h.go i hi
 ·simp only at c
  by_cases e:q=k
  ·grind
  ·rw[A0 _ _ e]at c;exact h.k q c
 ·simp only
  have n:q≠r.κ k:=by
   rintro rfl
   rcases g with g|⟨_,_,g⟩
   ·obtain⟨t,u⟩:=k
    simp only at g
    subst g
    rw[j.own]at c
    grind
   grind
  rw[A0 _ _ n]
  exact h.o q c s
theorem RG.updH(c:RenOk r l outs)(h:RG r l outs env τ σ)(k:Af)(b:Blk)(d:b.live=true)(a:Ks r outs k):
  RG r l outs env ⟨τ.s,Go.Eng.updH τ.H k b⟩ ⟨σ.s,Go.Eng.updH σ.H (r.κ k) (AW r k b)⟩:=RG.updK c h k b _ (fun _=>rfl) rfl a
theorem WN(i:RenOk r l outs)(h:RG r l outs env τ σ){k:Af}(hl:(τ.H k).live=true){vs:List AV}{A:Prop}(b:Ka r k vs A):A∧Ks r outs k∧((r.κ k).1=l+1∨(Au r vs).all (AV.low (r.κ k).1)=true):=by
 unfold Ka at b
 split at b
 ·rename_i a
  have a:=Yc a
  obtain⟨j,m⟩:=k
  simp only at a
  subst a
  exact⟨b,.inl rfl,.inl (by rw[i.own])⟩
 ·obtain⟨⟨d,e⟩,f,g⟩:=b
  rcases h.k k hl with c|⟨_,c⟩
  ·omega
  ·exact⟨g,.inr ⟨d,c,e⟩,.inr f⟩
theorem Bg{s:Nat→AV}:C5 s []:=fun q a=>by cases a
theorem RG.put0(h:RG r l outs env τ σ){d:Nat}(a:fresh d env=true){v y:AV}(hy:y=ren r v):RG r l outs ((d,[])::env) ⟨upd τ.s d v,τ.H⟩ ⟨upd σ.s d y,σ.H⟩:=
 h.put a rfl (fun _=>hy) (fun b=>absurd Bg b)
def LD(r:Ren)(l outs:Nat)(env:BX)(K:St→AT→Prop)(σ:St):Prop:=∃τ a,K τ a∧RG r l outs env τ σ
theorem MV(i:RenOk r l outs)(h:RG r l outs env τ σ){K:St→AT→Prop}{d:Nat}(m:fresh d env=true){e:TypeId}{sz:Nat}{cells:List AV}{x x':Nat→AV}(hx:∀g,x' (r.γ (1,d)+g)=ren r (x g))(b:I5 n d e sz cells x K τ a):
  Ef l n d e sz (Au r cells) x' (LD r l outs ((d,[])::env) K) σ:=by
 unfold I5 at b
 split at b
 ·rename_i f
  have f:=Yh f
  refine⟨by omega,_,_,b,?_⟩
  have k:=h.put0 (v:=x ((τ.H (1,d)).g+1)) (y:=x' ((σ.H (l+1,d)).g+1)) m (by rw[h.g,YI];exact hx _)
  have c:=RG.updH i k (1,d) ⟨(τ.H (1,d)).g+1,true,e,sz,cells⟩ rfl (.inl rfl)
  have j:AW r (1,d) ⟨(τ.H (1,d)).g+1,true,e,sz,cells⟩=⟨(σ.H (l+1,d)).g+1,true,e,sz,Au r cells⟩:=by
   simp only[AW,h.g,YI]
  rw[j,i.own]at c
  exact c
 grind
theorem VS{K:St→AT→Prop}(h:RG r l outs env τ σ){d:Nat}(c:fresh d env=true){y:AV}(hy:KR r (Fg n d K τ) y):d<n∧LD r l outs ((d,[])::env) K ⟨upd σ.s d y,σ.H⟩:=by
 obtain⟨v,e,rfl,a⟩:=hy
 unfold Fg at a
 split at a
 ·rename_i b
  have b:=Yh b
  exact⟨by omega,_,_,a,h.put0 c rfl⟩
 grind
section
variable {H:Hp} {K K':AV→Prop} {t:TypeId} {x y:AV}
theorem kO(a:∀y,K y→K' y)(h:EJ P H t x K):EJ P H t x K':=by
 unfold EJ at h⊢
 split at h
 ·grind
 ·grind
 grind
theorem ZiX{i:Nat}(a:∀y,K y→K' y)(h:E1 P H t i x K):E1 P H t i x K':=by
 unfold E1 at h⊢
 grind
theorem Zq0{i:Nat}(a:∀y,K y→K' y)(h:Fc P t i x K):Fc P t i x K':=by
 unfold Fc at h⊢
 split at h
 ·split at h
  ·grind
  grind
 grind
theorem ZiQ(a:∀y,K y→K' y)(h:Ey P H t x y K):Ey P H t x y K':=by
 unfold Ey at h⊢
 grind
theorem Zp2(a:∀y,K y→K' y)(h:FP P t x y K):FP P t x y K':=by
 unfold FP at h⊢
 grind
theorem Zpd{neg:Bool}(a:∀y,K y→K' y)(h:DT H neg x K):DT H neg x K':=by
 unfold DT at h⊢
 grind
theorem ZyG{op:BinOp}{b:Bool}(a:∀y,K y→K' y)(h:CI P H op t b x y K):CI P H op t b x y K':=by
 unfold CI at h⊢
 split at h
 ·exact⟨h.1,Zl0 a h.2⟩
 ·exact Zlh a h
 ·grind
 ·unfold Hm at h⊢
  split at h
  ·split at h
   ·grind
   grind
  grind
 ·refine⟨h.1,h.2.1,?_⟩
  replace h:=h.2.2
  split at h
  ·exact Zpd a h
  ·exact Zpd a h
  grind
 grind
theorem ZEJ{op:UnOp}(a:∀y,K y→K' y)(h:ET op x K):ET op x K':=by
 unfold ET at h⊢
 grind
theorem ZrR{u:TypeId}(a:∀y,K y→K' y)(h:Fe P t u x K):Fe P t u x K':=by
 unfold Fe at h⊢
 grind
theorem ZqY{lo hi:Option AV}{a:Bool}(b:∀y,K y→K' y)(h:EG P H t x lo hi a K):EG P H t x lo hi a K':=by
 unfold EG at h⊢
 grind
theorem ZzU(a:∀y,K y→K' y)(h:DN P H t x K):DN P H t x K':=by
 unfold DN at h⊢
 grind
theorem Zqe{ps:List (Nat×AV)}(a:∀y,K y→K' y)(h:FO P t ps K):FO P t ps K':=by
 unfold FO at h⊢
 grind
theorem Wl{op:Op}{ρ:Operand→AV}(d:∀y,K y→K' y)(h:Bb P H op ρ K):Bb P H op ρ K':=by
 cases op<;>simp only[Bb]at h⊢<;>try exact h.elim
 case move x=>exact d _ h
 case assign x=>exact d _ h
 case pick c a b=>
  split at h
  ·grind
  ·grind
 case load=>exact kO d h
 case fieldAddr=>exact ZiX d h
 case field=>exact Zq0 d h
 case indexAddr=>exact ZiQ d h
 case index=>exact Zp2 d h
 case extract=>
  split at h
  ·grind
  ·grind
 case makeInterface=>
  refine⟨h.1,?_⟩
  replace h:=h.2
  repeat' split at h
  all_goals first|exact h.elim|exact d _ h
 case typeAssert=>
  refine⟨h.1,?_⟩
  replace h:=h.2
  repeat' split at h
  all_goals first|exact h.elim|exact⟨h.1,d _ h.2⟩
 case binOp=>exact ZyG d h
 case unOp=>exact ZEJ d h
 case convert=>exact ZrR d h
 case nilCheck=>
  unfold Ji at h⊢
  split at h
  ·grind
  ·grind
  ·grind
 case makeFunc=>exact d _ h
 case slice=>exact ZqY d h
 case build=>exact Zqe d h
 case lookup=>exact Zl6 d h
 case call c=>
  split at h
  ·exact⟨h.1,ZzU d h.2⟩
  ·split at h
   ·unfold Eo at h⊢
    grind
   ·unfold Ht at h⊢
    grind
   grind
  ·grind
end
end
end Go.Eng
