import Derived.Test.YtchkcemlglpobaaGreatCf04
import Derived.Test.YtchkcemlglpobaaGreatCf01
import Derived.Maps.RangeRun
import Derived.Test.YtchkcemlglpobaaGreatCf00
namespace Go.Eng
set_option linter.all false
open Go Go.RowKit
section
variable {P:Program} {T:Nat→Option TI} {r:Ren} {H H':Hp} {g:Option Bool} {a:AT} {K:AV→AT→Prop}
def KR(r:Ren)(K:AV→AT→Prop)(y:AV):Prop:=∃v a,y=ren r v∧K v a
theorem KR.mk{v:AV}{a:AT}(h:K v a):KR r K (ren r v):=⟨v,a,rfl,h⟩
theorem KR.mk'{v y:AV}{a:AT}(h:K v a)(e:y=ren r v):KR r K y:=⟨v,a,e,h⟩
theorem lx{t:TypeId}{i:TI}(hi:TIok P t i)(h:(i.str||i.elm.isSome)=true):HF P t=true:=by
 rw[Bool.or_eq_true]at h
 unfold HF
 rcases h with h|h
 ·have:=hi.str h
  unfold LN at this
  split at this
  ·rename_i a _;rw[a]
  ·cases this
 ·obtain⟨e,he⟩:=YR.1 h
  obtain⟨b,c⟩:=e
  have:=(DZ (hi.elm _ he)).1
  rw[this]
theorem aT{t:TypeId}{i:TI}(hi:TIok P t i)(y:CR r H H')(p:∀b,g=some b→b=true){x:AV}(h:Kc i H x g a K):DL P H' t (ren r x) (KR r K):=by
 unfold Kc at h
 cases x<;>simp only at h<;>try exact h.elim
 case iptr cs off=>
  simp only[ren,DL,hi.agg,hi.siz]
  split at h
  ·rename_i he
   rw[he]
   split at h
   ·rename_i c d f
    obtain⟨m,n⟩:=bL _ _ _ f
    have d:=Yd d
    rw[YH]at n
    exact⟨by omega,by omega,.mk' h (by rw[m,ren,F9])⟩
   grind
  ·rename_i he
   rw[he]
   rw[BT]at h
   simp only
   split at h
   ·rename_i c o;simp only[o];exact .mk' h rfl
   grind
 case ptr k q off=>
  simp only[ren,DL,hi.agg,hi.siz]
  split at h
  ·rename_i hl
   obtain⟨s,u,z,A,v⟩:=y.at hl
   refine⟨s,u,?_⟩
   rw[v]
   split at h
   ·split at h
    ·rename_i he
     rw[he]
     split at h
     ·rename_i c d f
      obtain⟨m,n⟩:=bL _ _ _ f
      have d:=Yd d
      rw[YH]at n
      exact⟨by omega,by rw[B6];omega,.mk' h (by rw[ren,DW,Ei,m])⟩
     grind
    ·rename_i he
     rw[he]
     rw[BT]at h
     split at h
     ·rename_i c o;simp only[F6,o,YJ];exact .mk' h rfl
     grind
   ·split at h
    ·rename_i he
     rw[he]
     split at h
     ·rename_i c B d f
      have d:=Yd d
      have f:=Ya f
      have j:Dn _ _ _:=Bm p h.1
      unfold Dn at j
      rw[f]at j
      have w:=congrArg List.length j
      rw[Yo,YH]at w
      exact⟨by omega,by rw[B6];omega,.mk' h.2 (by rw[ren,DW,Ei,j])⟩
     grind
    ·rename_i he
     rw[he]
     split at h
     ·rename_i x
      have j:Dn _ _ _:=Bm p h.1
      unfold Dn at j
      have e:(H k).cells[off]?=some x:=by
       have:=congrArg (fun l=>l[0]?) j
       grind
      simp only[F6,e,YJ]
      exact .mk' h.2 rfl
     grind
   grind
  ·grind
theorem Q7{t:TypeId}{i:TI}(hi:TIok P t i){f:Nat}{x:Nat×Nat×Bool}(h:Bh i.fld f=some x):fld P t f=some (x.1,x.2.1)∧Lw P t f=some x:=by
 rw[BT]at h;exact hi.fld f x h
theorem Zgd{t:TypeId}{i:TI}(hi:TIok P t i)(j:CR r H H'){f:Nat}{x:AV}(h:P9 i H f x a K):DY P H' t f (ren r x) (KR r K):=by
 unfold P9 at h
 split at h
 ·rename_i o n b k
  have e:=(Q7 hi k).1
  split at h
  ·rename_i c
   have c:=Yd c
   unfold DY
   rw[e]
   split at h
   ·simp only[ren];exact⟨by omega,.mk' h rfl⟩
   ·split at h
    ·rename_i hl
     obtain⟨d,g,_⟩:=j.at hl
     simp only[ren];exact⟨by omega,d,g,.mk' h rfl⟩
    grind
   grind
  grind
 grind
theorem ZkG{t:TypeId}{i:TI}(hi:TIok P t i){f:Nat}{x:AV}(h:QN i f x a K):D0 P t f (ren r x) (KR r K):=by
 unfold QN at h
 rw[Zrm]
 split at h
 ·rename_i o n cs b
  rw[(Q7 hi b).2]
  split at h
  ·rename_i d
   have d:=Yd d
   simp only[ren,LM]
   exact⟨by omega,.mk' h (by rw[ren,DW,Ei])⟩
  grind
 ·rename_i o n cs b
  rw[(Q7 hi b).2]
  rw[BT]at h
  split at h
  ·rename_i c e
   simp only[ren,LM,F6,e,YJ]
   exact .mk' h rfl
  grind
 grind
theorem Zgh{t:TypeId}{i:TI}(hi:TIok P t i)(w:CR r H H')(m:∀b,g=some b→b=true){x j:AV}(h:P0 i H x j g a K):DA P H' t (ren r x) (ren r j) (KR r K):=by
 unfold P0 at h
 split at h
 ·rename_i e sz k n he
  have he:=hi.elm _ he
  split at h
  ·rename_i es e' q
   split at h
   ·rename_i c d
    have c:=Ya c
    have d:=Yd d
    obtain⟨f,l⟩:Hs _ _ _:=Bm m h.1
    simp only[ren,DA,he]
    refine⟨f,?_⟩
    rw[l]
    exact⟨c,by omega,.mk' h.2 rfl⟩
   grind
  ·rename_i k q off len o A
   split at h
   ·rename_i hl c d
    have c:=Ya c
    have d:=Yd d
    obtain⟨p,s,y,u,z⟩:=w.at hl
    obtain⟨f,l,v⟩:Jp _ _ _ _ _:=Bm m h.1
    simp only[ren,DA,he]
    exact⟨f,l,p,s,by rw[u,c],by omega,.mk' h.2 (by rw[ren,v])⟩
   grind
  grind
 grind
theorem Zky{t:TypeId}{i:TI}(hi:TIok P t i)(m:∀b,g=some b→b=true){x j:AV}(h:Ra i x j g a K):Eo P t (ren r x) (ren r j) (KR r K):=by
 unfold Ra at h
 split at h
 ·rename_i s k n b q
  split at h
  ·rename_i d
   have d:=Ya d
   obtain⟨e,c,f,l⟩:GZ _ _ _:=Bm m h.1
   simp only[ren,Eo]
   refine⟨by rw[hi.kin];exact d,e,?_⟩
   rw[f]
   exact .mk' h.2 (by rw[ren,l])
  grind
 grind
theorem ZnO{op:BinOp}{k:IntKind}{x y:Int}(c:∀b,g=some b→b=true)(h:Oj op k x y g a K):E0 op k x y (KR r K):=by
 unfold Oj at h
 cases op<;>simp only at h<;>try exact h.elim
 all_goals simp only[E0]
 case eql=>exact .mk' h rfl
 case neq=>exact .mk' h rfl
 case lss=>exact .mk' h rfl
 case leq=>exact .mk' h rfl
 case gtr=>exact .mk' h rfl
 case geq=>exact .mk' h rfl
 case add|sub|mul=>
  split at h
  ·have e:BZ _ _ _:=Bm c h.1
   unfold BZ at e
   rw[e];exact .mk' h.2 rfl
  ·grind
 case and|or|xor=>
  split at h
  ·have e:Bq _ _:=Bm c h.1
   unfold Bq at e
   rw[e];exact .mk' h.2 rfl
  ·grind
 case quo=>
  split at h
  ·have e:BZ _ _ _:=Bm c h.2.1
   unfold BZ at e
   rw[e];exact⟨Bm c h.1,.mk' h.2.2 rfl⟩
  ·grind
 case rem=>
  split at h
  ·have e:Bq _ _:=Bm c h.2.1
   unfold Bq at e
   rw[e];exact⟨Bm c h.1,.mk' h.2.2 rfl⟩
  ·grind
 case shr=>
  split at h
  ·have e:Bq _ _:=Bm c h.2.1
   unfold Bq at e
   rw[e];exact⟨Bm c h.1,.mk' h.2.2 rfl⟩
  ·grind
 case shl=>
  split at h
  ·have e:BZ _ _ _:=Bm c h.2.1
   unfold BZ at e
   rw[e];exact⟨Bm c h.1,.mk' h.2.2 rfl⟩
  ·grind
theorem ZnX{op:BinOp}{x y:ByteArray}(c:∀b,g=some b→b=true)(h:OF op x y g a K):E1 op x y (KR r K):=by
 unfold OF at h
 cases op<;>simp only at h<;>try exact h.elim
 all_goals simp only[E1]
 case add=>exact⟨Bm c h.1,.mk' h.2 rfl⟩
 all_goals exact .mk' h rfl
theorem uJ{neg:Bool}{x:AV}(g:CR r H H')(h:I9 H neg x a K):Di H' neg (ren r x) (KR r K):=by
 unfold I9 at h
 split at h
 ·simp only[ren,Di];exact fun b=>.mk' (h b) rfl
 ·rename_i es
  cases es with
  |nil=>simp only[ren,Di];exact fun b=>.mk' (h b (fun e=>absurd rfl e)) rfl
  |cons e es=>simp only[ren,Di];exact .mk' (h neg (fun _=>rfl)) rfl
 ·rename_i k q off n
  split at h
  ·rename_i hl
   obtain⟨d,f,_⟩:=g.at hl
   simp only[ren,Di]
   exact⟨⟨d,f⟩,fun c=>.mk' (h neg (fun _=>rfl)) rfl,fun c b=>.mk' (h b (fun e=>absurd c e)) rfl⟩
  grind
 grind
theorem vA:∀(ks:List Nat) (xs ys:List AV) (b:Bool),DK ks xs ys=some b→DK ks (An r xs) (An r ys)=some b
 |[],[],[],b,h=>by simpa[An]using h
 |k::ks,x::xs,y::ys,b,h=>by
  cases x<;>cases y<;>simp only[DK]at h<;>try (cases h;done)
  rename_i x y
  simp only[An,ren,DK]
  split at h
  ·rename_i d e a c
   simp only[a,vA ks xs ys _ c]
   exact h
  ·cases h
 |[],[],_::_,b,h=>by simp[DK]at h
 |[],_::_,_,b,h=>by simp[DK]at h
 |_::_,[],_,b,h=>by simp[DK]at h
 |_::_,x::_,[],b,h=>by cases x<;>simp[DK]at h
theorem ZCB{H:Hp}{op:BinOp}{t:TypeId}{a:Bool}{x:AV}{K:AV→Prop}:B8 P H op t a x .e0 K=(a=true∧kin P t=4∧match op with|.eql=>Di H false x K|.neq=>Di H true x K|_=>False):=by
 unfold B8
 grind
theorem ZnQ{t:TypeId}{i:TI}(hi:TIok P t i)(e:CR r H H')(f:∀b,g=some b→b=true){op:BinOp}{j:Bool}{x y:AV}(h:Pq i H op j x y g a K):B8 P H' op t j (ren r x) (ren r y) (KR r K):=by
 unfold Pq at h
 split at h
 ·split at h
  ·rename_i c
   simp only[ren,B8]
   exact⟨ZLb c,ZnO f h⟩
  grind
 ·simp only[ren,B8];exact ZnX f h
 ·split at h
  ·rename_i c
   simp only[ren,B8]
   refine⟨by rw[hi.kin];exact Ya c,?_⟩
   split at h
   ·exact .mk' h rfl
   ·exact .mk' h rfl
   grind
  grind
 ·rename_i xs ys
  split at h
  ·rename_i ks d
   split at h
   ·rename_i b l
    simp only[ren,B8,FI,hi.eqt _ d,vA _ _ _ _ l]
    split at h
    ·exact .mk' h rfl
    ·exact .mk' h rfl
    grind
   grind
  grind
 ·rw[show ren r .e0=.e0 from by simp[ren],ZCB]
  split at h
  ·rename_i m k
   refine⟨rfl,by rw[hi.kin];exact Ya k,?_⟩
   split at h
   ·exact uJ e h
   ·exact uJ e h
   grind
  grind
 grind
theorem Zrj{op:UnOp}{x:AV}(c:∀b,g=some b→b=true)(h:Tt op x g a K):DT op (ren r x) (KR r K):=by
 unfold Tt at h
 split at h
 ·simp only[ren,DT];exact .mk' h rfl
 ·split at h
  ·have e:BZ _ _ _:=Bm c h.1
   unfold BZ at e
   simp only[ren,DT]
   rw[e];exact .mk' h.2 rfl
  grind
 ·split at h
  ·have e:Bq _ _:=Bm c h.1
   unfold Bq at e
   simp only[ren,DT]
   rw[e];exact .mk' h.2 rfl
  grind
 grind
theorem Zk3{s d:TypeId}{i j:TI}(hi:TIok P s i)(k:TIok P d j){x:AV}(l:∀b,g=some b→b=true)(h:S9 i j x g a K):D1 P s d (ren r x) (KR r K):=by
 unfold S9 at h
 split at h
 ·split at h
  ·rename_i q n p k' o m t c f
   have e:BZ _ _ _:=Bm l h.1
   unfold BZ at e
   simp only[ren,D1,hi.ik _ c,k.ik _ f]
   rw[e];exact .mk' h.2 rfl
  grind
 ·split at h
  ·rename_i c f
   simp only[ren,D1,F7 (by rw[hi.kin];exact Ya c),F7 (by rw[k.kin];exact Ya f)]
   exact .mk' h rfl
  grind
 grind
theorem JV{d l:Nat}{o a:Option AV}(h:CM d o l)(b:a=o.map (ren r)):Dt d a=some l:=by
 subst b
 unfold CM at h
 split at h
 ·simp[Dt,h]
 ·subst h
  simp[Dt,ren]
 grind
theorem ZjD{t:TypeId}{i:TI}(hi:TIok P t i)(B:CR r H H')(c:∀b,g=some b→b=true){x:AV}{lo q:Option AV}{v:Bool}(h:Q1 i H x lo q v g a K):
  DH P H' t (ren r x) (lo.map (ren r)) (q.map (ren r)) v (KR r K):=by
 unfold Q1 at h
 split at h
 ·split at h
  ·split at h
   ·rename_i C
    obtain⟨m,n,o,p⟩:=h
    have f:=JV (r:=r) (Bm c m) rfl
    have j:=JV (r:=r) (Bm c n) rfl
    have d:Ee _ _ _:=Bm c o
    simp only[ren,DH,f,j]
    exact⟨by rw[hi.kin];exact Ya C,trivial,d.1,d.2,.mk' p rfl⟩
   grind
  ·split at h
   ·rename_i e sz w D he
    split at h
    ·rename_i l
     have l:=Yd l
     obtain⟨m,n,o,p,u⟩:=h
     have f:=JV (r:=r) (Bm c m) rfl
     have j:=JV (r:=r) (Bm c n) rfl
     have d:Ee _ _ _:=Bm c o
     have k:NT _ _ _ _ _:=Bm c p
     simp only[ren,DH,f,j,hi.elm _ he]
     exact⟨trivial,by omega,k.1,d.1,d.2,.mk' u (by rw[ren,k.2])⟩
    grind
   grind
  ·split at h
   ·rename_i e sz I G D he hl
    split at h
    ·rename_i l s
     have l:=Yd l
     obtain⟨y,z,E,A,F⟩:=B.at hl
     obtain⟨m,n,o,p,u⟩:=h
     have f:=JV (r:=r) (Bm c m) rfl
     have j:=JV (r:=r) (Bm c n) rfl
     have d:Ee _ _ _:=Bm c o
     have k:TN _ _ _ _ _:=Bm c p
     simp only[ren,DH,f,j,hi.elm _ he]
     exact⟨trivial,y,z,by omega,by rw[A];exact Ya s,d.1,d.2,.mk' u (by rw[ren,k.1,k.2])⟩
    grind
   grind
  grind
 grind
theorem ZnT{t:TypeId}{i:TI}(hi:TIok P t i)(k:CR r H H')(d:∀b,g=some b→b=true){x:AV}(h:OL i H x g a K):C8 P H' t (ren r x) (KR r K):=by
 unfold OL at h
 split at h
 ·split at h
  ·rename_i c
   have e:Bq _ _:=Bm d h.1
   unfold Bq at e
   simp only[ren,C8,hi.kin]
   exact⟨Ya c,.mk' h.2 (by rw[ren,e])⟩
  grind
 ·split at h
  ·rename_i c
   have e:Bq _ _:=Bm d h.1
   unfold Bq at e
   simp only[ren,C8,hi.kin]
   exact⟨Ya c,.mk' h.2 (by rw[ren,e])⟩
  grind
 ·split at h
  ·rename_i c
   have e:Bq _ _:=Bm d h.1
   unfold Bq at e
   simp only[ren,C8,hi.kin]
   exact⟨Ya c,.mk' h.2 (by rw[ren,e])⟩
  grind
 ·split at h
  ·rename_i c hl
   have e:Bq _ _:=Bm d h.1
   unfold Bq at e
   obtain⟨f,j,_⟩:=k.at hl
   simp only[ren,C8,hi.kin]
   exact⟨Ya c,f,j,.mk' h.2 (by rw[ren,e])⟩
  grind
 grind
theorem ZnY(a:CR r H H'){x:AV}{y:Bool×List (List D)}(h:ey H x=some y):Ke H' (ren r x)=some y:=by
 unfold ey at h
 split at h
 ·simp only[ren,Ke];exact h
 ·split at h
  ·rename_i k g _ _ q es hl he
   obtain⟨b,c,d,_,_⟩:=a.at hl
   simp only[ren,Ke]
   grind
  ·cases h
 ·cases h
theorem Qo(q:Bool)(ds:List D):ren r (FO q ds)=FO q ds:=by
 unfold FO
 split<;>simp[ren,F9]
theorem ZF1(a q:Bool)(ds:List D)(ok:Bool):ren r (KJ a q ds ok)=KJ a q ds ok:=by
 unfold KJ
 cases a
 ·exact Qo q ds
 ·simp only[ren,An,Qo]
theorem Zlg{t:TypeId}{i:TI}(hi:TIok P t i)(k:CR r H H')(l:∀b,g=some b→b=true){x y:AV}{c:Bool}(h:Sx i H x y c g a K):ES P H' t (ren r x) (ren r y) c (KR r K):=by
 unfold Sx at h
 split at h
 ·rename_i q z o es s ok vs n f j
  split at h
  ·rename_i m
   obtain⟨d,e⟩:MW _ _ _ _ _:=Bm l h.1
   simp only[ES,hi.mp _ f,ZnY k j,ren]
   exact⟨eO m,.mk' h.2 (by rw[d,e,ZF1])⟩
  grind
 grind
theorem L7{x:AV}{vs:List AV}(h:Ch x=some vs)(a:∀f xs ys,x≠.fn (.yield f) xs ys):Ch (ren r x)=some (An r vs):=by
 cases x<;>simp only[Ch,Yf]at h<;>try (cases h;done)
 case fn f xs ys=>
  subst h
  cases f with
  |yield i=>exact absurd rfl (a i xs ys)
  |_=>simp[ren,An,Ch]
 all_goals(subst h;simp[ren,An,Ch])
theorem Mj{x:AV}(h:Hq x=true):∀f xs ys,x≠.fn (.yield f) xs ys:=by
 rintro f xs ys rfl;cases h
theorem ZKG{t:TypeId}{i:TI}(hi:TIok P t i){f o n:Nat}(h:jx i f=some (o,n)):fld P t f=some (o,n):=by
 unfold jx at h
 split at h
 ·rename_i d c b a
  simp only[Yf,Fi]at h
  obtain⟨rfl,rfl⟩:=h
  exact(Q7 hi a).1
 ·cases h
theorem uS{t:TypeId}{i:TI}(hi:TIok P t i):∀(ps:List (Nat×AV)) (z cs:List AV),(∀p∈ps,Hq p.2=true)→MV i z ps=some cs→B0 (fld P t) (An r z) (ps.map fun p=>(p.1,ren r p.2))=some (An r cs)
 |[],z,cs,_,h=>by
  simp only[MV,Yf]at h
  subst h
  simp[B0]
 |(f,v)::ps,z,cs,e,h=>by
  simp only[MV]at h
  split at h
  ·rename_i off size vs a g
   split at h
   ·rename_i c d
    have c:=Ya c
    have d:=Yd d
    have b:=L7 (r:=r) g (Mj (e (f,v) (YE ..)))
    simp only[YS,B0,ZKG hi a,b,B6]
    rw[if_neg (by omega)]
    have:=uS hi ps _ cs (fun p a=>e p (Yw _ a)) h
    rw[←this]
    simp only[Fm,Ei,DW]
   ·cases h
  ·cases h
theorem Zj0{t:TypeId}{i:TI}(hi:TIok P t i){parts:List (Nat×AV)}(e:∀p∈parts,Hq p.2=true)(f:∀z,i.zer=some z→An r z=z)(h:Rh i parts a K):
  Ek P t (parts.map fun p=>(p.1,ren r p.2)) (KR r K):=by
 unfold Rh at h
 split at h
 ·rename_i z c b
  split at h
  ·rename_i cs d
   have:=uS (r:=r) hi _ _ _ e d
   unfold Ek
   rw[hi.zer _ b]
   rw[f z b]at this
   simp only[this]
   exact⟨hi.str c,.mk' h rfl⟩
  grind
 grind
theorem Zw4{x:AV}(h:x.flat=true):ren r x=x:=by cases x<;>first|(simp[ren];done)|cases h
theorem Iw{z:List AV}(h:z.all AV.flat=true):An r z=z:=by
 induction z with
 |nil=>simp[An]
 |cons x z a=>
  simp only[GQ,Bool.and_eq_true]at h
  rw[An,Zw4 h.1,a h.2]
theorem uC{c x y:Operand}{ρ d:Operand→AV}{t:Bool}(e:ρ c=.d (.bool t))(b:d c=ren r (ρ c))(f:t=true→d x=ren r (ρ x))(hy:t=false→d y=ren r (ρ y))(h:tV T H (.pick c x y) ρ g a K):
  A4 P H' (.pick c x y) d (KR r K):=by
 simp only[tV,e]at h
 rw[e]at b
 simp only[ren]at b
 simp only[A4,b]
 rw[Zys]at h
 cases t
 ·exact .mk' h (by simp[hy rfl])
 ·exact .mk' h (by simp[f rfl])
theorem cm{ρ a:Operand→AV}{xs:List Operand}(h:∀x∈xs,a x=ren r (ρ x)):xs.map a=An r (xs.map ρ):=by
 rw[Ej,GR]
 exact YP h
theorem wy{ρ a:Operand→AV}{o:Option Operand}(h:∀x,o=some x→a x=ren r (ρ x)):o.map a=(o.map ρ).map (ren r):=by
 cases o with
 |none=>rfl
 |some x=>simp[h x rfl]
theorem vh{r:Ren}{b:Bool}{x y:AV}{a:AT}{K:AV→AT→Prop}(h:Dx b x y (fun v=>K v a)):Dx b (ren r x) (ren r y) (KR r K):=by
 unfold Dx at h
 split at h
 ·simp only[ren,Dx];exact .mk' h rfl
 grind
theorem ZxV(w:A8 P T)(D:CR r H H')(B:∀b,g=some b→b=true){op:Op}{ρ A:Operand→AV}(Z:∀x∈op.operands,A x=ren r (ρ x))(h:tV T H op ρ g a K):A4 P H' op A (KR r K):=by
 have get:∀{x:Operand},x∈op.operands→A x=ren r (ρ x):=fun l=>Z _ l
 cases op<;>simp only[tV]at h<;>try exact h.elim
 case move x=>exact .mk' h (get (by simp[Op.operands]))
 case assign x=>exact .mk' h (get (by simp[Op.operands]))
 case pick c x y=>
  split at h
  ·rename_i t m
   exact uC (a:=a) (g:=g) (T:=T) (H:=H) m (get (by simp[Op.operands])) (fun _=>get (by simp[Op.operands])) (fun _=>get (by simp[Op.operands])) (by simp only[tV,m];exact h)
  ·grind
 case load t x=>
  split at h
  ·rename_i i hi;simp only[A4];rw[get (x:=x) (by simp[Op.operands])];exact aT (w _ _ hi) D B h
  ·grind
 case fieldAddr t x f=>
  split at h
  ·rename_i i hi;simp only[A4];rw[get (x:=x) (by simp[Op.operands])];exact Zgd (w _ _ hi) D h
  ·grind
 case field t x f=>
  split at h
  ·rename_i i hi;simp only[A4];rw[get (x:=x) (by simp[Op.operands])];exact ZkG (w _ _ hi) h
  ·grind
 case indexAddr t x j=>
  split at h
  ·rename_i i hi;simp only[A4];rw[get (x:=x) (by simp[Op.operands]),get (x:=j) (by simp[Op.operands])];exact Zgh (w _ _ hi) D B h
  ·grind
 case index t x j=>
  split at h
  ·rename_i i hi;simp only[A4];rw[get (x:=x) (by simp[Op.operands]),get (x:=j) (by simp[Op.operands])];exact Zky (w _ _ hi) B h
  ·grind
 case makeInterface t x=>
  split at h
  case h_2=>exact h.elim
  rename_i i hi
  have F:(i.str||i.elm.isSome)=true→HF P t=true:=lx (w _ _ hi)
  simp only[A4]
  rw[get (x:=x) (by simp[Op.operands])]
  split at h
  ·rename_i xs E l
   rw[l]
   simp only[ren]
   split at h
   case h_2=>exact h.elim
   rename_i ds O
   have e:=Qz O
   subst e
   rw[F9,O]
   exact⟨F E,.mk' h rfl⟩
  ·rename_i y E l
   rw[l]
   simp only[ren]
   exact⟨F E,.mk' h rfl⟩
  ·exact h.elim
 case typeAssert x u t ok=>
  split at h
  case h_2=>exact h.elim
  rename_i i hi
  have F:(i.str||i.elm.isSome)=true→HF P t=true:=lx (w _ _ hi)
  simp only[A4]
  rw[get (x:=x) (by simp[Op.operands])]
  split at h
  case h_2=>exact h.elim
  rename_i u ds q E l
  rw[l]
  simp only[ren]
  split at h
  case h_2=>exact h.elim
  rename_i v X G
  rw[G]
  have I:ren r v=v:=by
   cases q with
   |true=>cases G;simp only[ren,F9]
   |false=>
    match ds,G with
    |[d],G=>cases G;simp only[ren]
  refine⟨F E,Ya X,.mk' h ?_⟩
  cases ok with
  |true=>simp only[cond,ren,An,I]
  |false=>exact I.symm
 case extract x j=>
  simp only[A4]
  rw[get (x:=x) (by simp[Op.operands])]
  split at h
  ·rename_i vs l
   rw[l]
   simp only[ren,F6]
   rw[BT]at h
   split at h
   ·rename_i y hy;rw[hy];exact .mk' h rfl
   grind
  ·grind
 case binOp o t x y u=>
  split at h
  ·rename_i i hi;simp only[A4];rw[get (x:=x) (by simp[Op.operands]),get (x:=y) (by simp[Op.operands])];exact ZnQ (w _ _ hi) D B h
  ·grind
 case unOp o t x=>simp only[A4];rw[get (x:=x) (by simp[Op.operands])];exact Zrj B h
 case nilCheck x=>
  split at h
  ·rename_i k q off l
   split at h
   ·rename_i hl
    simp only[A4]
    rw[get (x:=x) (by simp[Op.operands]),l]
    obtain⟨g1,Q,_,_,_⟩:=D.at hl
    simp only[ren,G4]
    exact⟨g1.symm▸rfl,Q,.mk' h (by simp[ren])⟩
   grind
  ·rename_i cs off l
   simp only[A4]
   rw[get (x:=x) (by simp[Op.operands]),l]
   simp only[ren,G4]
   exact .mk' h (by simp[ren])
  ·grind
 case convert s d x=>
  split at h
  ·rename_i i j hi V;simp only[A4];rw[get (x:=x) (by simp[Op.operands])];exact Zk3 (w _ _ hi) (w _ _ V) B h
  ·grind
 case makeFunc fn first C=>
  have n:first.toList.map A=An r (first.toList.map ρ):=cm fun x l=>get (by simp only[Op.operands,K6];exact .inl (by simpa using l))
  have J:C.toList.map A=An r (C.toList.map ρ):=cm fun x l=>get (by simp only[Op.operands,K6];exact .inr (by simpa using l))
  simp only[A4]
  rw[n,J]
  split at h
  ·grind
  ·rename_i M
   refine .mk' h ?_
   cases fn<;>first|exact absurd rfl (M _)|simp[ren]
 case slice t x lo hi mx=>
  split at h
  ·rename_i i L
   simp only[A4]
   rw[get (x:=x) (by simp[Op.operands]),wy (o:=lo) (fun y hy=>get (by subst hy;simp[Op.operands])),wy (o:=hi) (fun y hy=>get (by subst hy;simp[Op.operands]))]
   exact ZjD (w _ _ L) D B h
  ·grind
 case build t parts=>
  split at h
  ·rename_i i hi F
   simp only[A4]
   have e:(parts.toList.map fun p=>(p.1,A p.2))=(parts.toList.map fun p=>(p.1,ρ p.2)).map fun p=>(p.1,ren r p.2):=by
    rw[GR]
    refine YP fun p N=>?_
    simp only[Function.comp]
    rw[get (x:=p.2) (by simp only[Op.operands,K7,YC];exact⟨p,N,rfl⟩)]
   rw[e]
   refine Zj0 (w _ _ hi) (fun p N=>?_) (fun z Y=>Iw ((w _ _ hi).flt z Y)) h
   obtain⟨q,hq,rfl⟩:=YC.1 N
   grind
  ·grind
 case lookup t x y ck=>
  split at h
  ·rename_i i hi;simp only[A4];rw[get (x:=x) (by simp[Op.operands]),get (x:=y) (by simp[Op.operands])];exact Zlg (w _ _ hi) D B h
  ·grind
 case call c=>
  split at h
  ·rename_i x t m l W
   split at h
   ·rename_i i hi
    have n:c.args=#[x]:=YZ (by simpa using l)
    have J:c.argTypes=#[t]:=YZ (by simpa using W)
    simp only[A4,m,n,J]
    show 1=1∧C8 P H' t (A x) (KR r K)
    rw[get (x:=x) (by simp[Op.operands,Call.operands,m,n])]
    exact⟨rfl,ZnT (w _ _ hi) D B h⟩
   grind
  ·rename_i x y m l
   have n:c.args=#[x,y]:=YZ (by simpa using l)
   simp only[A4,m,n]
   show Dx false (A x) (A y) (KR r K)
   rw[get (x:=x) (by simp[Op.operands,Call.operands,m,n]),get (x:=y) (by simp[Op.operands,Call.operands,m,n])]
   exact vh h
  ·rename_i x y m l
   have n:c.args=#[x,y]:=YZ (by simpa using l)
   simp only[A4,m,n]
   show Dx true (A x) (A y) (KR r K)
   rw[get (x:=x) (by simp[Op.operands,Call.operands,m,n]),get (x:=y) (by simp[Op.operands,Call.operands,m,n])]
   exact vh h
  ·rename_i x y z m l
   have n:c.args=#[x,y,z]:=YZ (by simpa using l)
   simp only[A4,m,n]
   show Fy true (A x) (A y) (A z) (KR r K)
   rw[get (x:=x) (by simp[Op.operands,Call.operands,m,n]),get (x:=y) (by simp[Op.operands,Call.operands,m,n]),get (x:=z) (by simp[Op.operands,Call.operands,m,n])]
   unfold Fy at h
   split at h
   ·rename_i R S U
    rw[R,S,U]
    simp only[ren,Fy];exact .mk' h rfl
   grind
  ·grind
end
end Go.Eng
namespace Go.Eng
set_option linter.all false
open Go Go.RowKit
abbrev Ce:=List (Nat×Bool)
abbrev Bz:=List (Nat×Ce)
def lk:Bz→Nat→Ce
 |[],_=>[]
 |(i,c)::r,j=>match Nat.beq i j with|true=>c|false=>lk r j
def Lt(t:Bool):Bool→Bool
 |true=>t
 |false=>!t
theorem bf{t b:Bool}:Lt t b=true↔t=b:=by cases t<;>cases b<;>simp[Lt]
def H8:Ce→Ce→Bool
 |[],[]=>true
 |(i,a)::r,(j,b)::q=>Nat.beq i j&&Lt a b&&H8 r q
 |_,_=>false
theorem cH:∀{a b:Ce},H8 a b=true→a=b
 |[],[],_=>rfl
 |(i,a)::r,(j,b)::q,h=>by
  simp only[H8,Bool.and_eq_true]at h
  rw[Ya h.1.1,bf.1 h.1.2,cH h.2]
 |[],_::_,h=>by simp[H8]at h
 |_::_,[],h=>by simp[H8]at h
def Pm(a:Ce):Ce→Bool
 |[]=>H8 a []
 |q::b=>H8 a (q::b)||Pm a b
theorem wn{a:Ce}:∀{b:Ce},Pm a b=true→∀q∈a,q∈b
 |[],h,q,c=>by rw[cH h]at c;exact c
 |p::b,h,q,c=>by
  simp only[Pm,Bool.or_eq_true]at h
  rcases h with h|h
  ·rw[cH h]at c;exact c
  ·exact Yw _ (wn h q c)
def Ct(s:Nat→AV)(c:Ce):Prop:=∀q∈c,s q.1=.d (.bool q.2)
def Fs(s:Nat→AV):Ce→Option Bool
 |[]=>some true
 |[(d,b)]=>match s d with|.d (.bool t)=>some (Lt t b)|_=>none
 |(d,b)::r=>match s d,Fs s r with|.d (.bool t),some c=>some (c&&Lt t b)|_,_=>none
theorem JD{s:Nat→AV}:∀{c:Ce} {g:Bool},Fs s c=some g→(g=true↔Ct s c)
 |[],g,h=>by simp only[Fs,Yf]at h;subst h;simp[Ct]
 |[(d,b)],g,h=>by
  simp only[Fs]at h
  split at h
  ·rename_i t f
   simp only[Yf]at h
   subst h
   rw[bf]
   simp[Ct,f]
  ·cases h
 |(d,b)::q::r,g,h=>by
  simp only[Fs]at h
  split at h
  ·rename_i t c f i
   simp only[Yf]at h
   subst h
   have j:=JD i
   rw[Bool.and_eq_true,j,bf]
   constructor
   ·rintro⟨e,rfl⟩ p a
    rcases Yy.1 a with rfl|a
    ·exact f
    ·exact e p a
   ·intro e
    refine⟨fun p a=>e p (Yw _ a),?_⟩
    have:=e (d,b) (YE ..)
    grind
  ·cases h
def Kx(e:Nat)(c:Ce):Bool:=c.all fun q=>!Nat.beq q.1 e
def fresh(e:Nat)(env:Bz):Bool:=env.all fun p=>Kx e p.2
theorem v8{s:Nat→AV}{e:Nat}{v:AV}{c:Ce}(h:Kx e c=true):Ct (upd s e v) c↔Ct s c:=by
 have key:∀q∈c,upd s e v q.1=s q.1:=fun q a=>by
  have:=Ym.1 h q a
  unfold upd
  rw[if_neg]
  intro he
  subst he
  simp at this
 constructor
 ·exact fun h q a=>(key q a)▸h q a
 ·exact fun h q a=>(key q a).trans (h q a)
theorem wr{e:Nat}:∀{env:Bz},fresh e env=true→∀j,Kx e (lk env j)=true
 |[],_,j=>rfl
 |(i,c)::r,h,j=>by
  simp only[fresh,GQ,Bool.and_eq_true]at h
  simp only[lk]
  split
  ·exact h.1
  ·exact wr h.2 j
theorem cC{env:Bz}{e:Nat}{c:Ce}(j:Nat):lk ((e,c)::env) j=if j=e then c else lk env j:=by
 simp only[lk]
 by_cases h:j=e
 ·subst h;simp
 ·rw[if_neg h]
  split
  ·rename_i a;exact absurd (Ya a).symm h
  ·rfl
def GB(env:Bz)(c:Ce):Operand→Bool
 |.tmp t=>Pm (lk env t) c
 |_=>true
def BN(env:Bz)(c:Ce):Op→Bool
 |.pick (.tmp d) x y=>GB env c (.tmp d)&&GB env ((d,true)::c) x&&GB env ((d,false)::c) y
 |op=>op.operands.toList.all (GB env c)
structure RenOk (r:Ren) (l outs:Nat):Prop where
 own:∀d,r.κ (1,d)=(l+1,d)
 out:∀i,i<outs→(r.κ (0,i)).1≤l
 inj:∀i j,i<outs→j<outs→r.κ (0,i)=r.κ (0,j)→i=j
 no:∀k,r.no k→∃i,i<outs∧r.κ (0,i)=k
structure RG (r:Ren) (l outs:Nat) (env:Bz) (τ σ:St):Prop where
 s:∀j,(Ct τ.s (lk env j)→σ.s j=ren r (τ.s j))∧(¬Ct τ.s (lk env j)→σ.s j=.tup [])
 h:CR r τ.H σ.H
 g:∀d,(σ.H (l+1,d)).g=r.γ (1,d)+(τ.H (1,d)).g
 go:∀i,i<outs→(σ.H (r.κ (0,i))).g=r.γ (0,i)+(τ.H (0,i)).g
 k:∀k,(τ.H k).live=true→k.1=1∨(k.1=0∧k.2<outs)
 o:∀k:Ad,k.1≤l→¬r.no k→σ.H k=r.H0 k
def Ga(P:Program)(l:Nat)(r:Ren)(f:FuncId)(xs:List AV)(c:List (Ad×Blk))(x:AV):Prop:=
 ∀a,(∀p∈c,p.2.live=true→a (r.κ p.1)=AK r p.1 p.2)→(∀k:Ad,k.1≤l→¬r.no k→a k=r.H0 k)→Zcr P f (l+1) (An r xs) a (fun y b=>y=ren r x∧b=a)
def M4(P:Program)(l:Nat)(r:Ren)(i:Nat)(xs:List AV)(d:List (Ad×Blk))(x:AV):Prop:=
 ∃f first a,r.θ i=.fn (.func f) first a∧∀b,(∀p∈d,p.2.live=true→b (r.κ p.1)=AK r p.1 p.2)→(∀k:Ad,k.1≤l→¬r.no k→b k=r.H0 k)→Zcr P f (l+1) (first++An r xs++a) b (fun y c=>y=ren r x∧c=b)
def SM(P:Program)(l:Nat)(r:Ren)(H:Hp)(f:AV)(xs:List AV)(g:Option Bool)(a:AT)(K:AV→AT→Prop):Prop:=
 match f,a with
 |.fn (.func i) first b,.call x ks a=>Be g (Ga P l r i (first++xs++b) (ks.map fun k=>(k,H k)) x)∧K x a
 |.fn (.yield i) _ _,.call x ks a=>Be g (M4 P l r i xs (ks.map fun k=>(k,H k)) x)∧K x a
 |_,_=>False
def Te(T:Nat→Option TI)(τ:St)(t:TypeId)(len:Nat)(parts:List (Nat×Operand))(a:AT)(K:AV→AT→Prop):Prop:=
 match T t with
 |some i=>(match i.elm with
  |some (e,sz)=>(match Nat.ble 1 sz,len with
   |true,0=>(match parts with|[]=>K .e0 a|_=>False)
   |true,len+1=>(match T e,Nat.ble ((len+1)*sz) 16777216 with
    |some j,true=>(match j.zer with
     |some z=>(match Nat.beq z.length sz,EB sz 0 (parts.map fun p=>(p.1,ev τ.s p.2))with
      |true,some es=>(match Nat.beq es.length (len+1)with|true=>K (.d (.list es)) a|false=>False)
      |_,_=>False)
     |none=>False)
    |_,_=>False)
   |_,_=>False)
  |none=>False)
 |none=>False
def pV(P:Program)(T:Nat→Option TI)(l:Nat)(r:Ren)(τ:St)(op:Op)(g:Option Bool)(a:AT)(K:AV→AT→Prop):Prop:=
 match op with
 |.call c=>match c.callee with
  |.value f=>SM P l r τ.H (ev τ.s f) (c.args.toList.map (ev τ.s)) g a K
  |_=>tV T τ.H op (ev τ.s) g a K
 |.buildSlice t len parts=>Te T τ t len parts.toList a K
 |op=>tV T τ.H op (ev τ.s) g a K
def D6(n d:Nat)(K:St→AT→Prop)(τ:St)(v:AV)(a:AT):Prop:=
 match Nat.ble (d+1) n with
 |true=>K ⟨upd τ.s d v,τ.H⟩ a
 |false=>False
section
variable {P:Program} {T:Nat→Option TI} {r:Ren} {l n outs:Nat} {env:Bz} {τ σ:St} {g:Option Bool} {a:AT} {c:Ce}
theorem ZHU(v:Value):ren r (cv v)=cv v:=by unfold cv;split<;>simp[ren]
theorem IA(h:RG r l outs env τ σ)(hs:Ct τ.s c){x:Operand}(b:GB env c x=true):ev σ.s x=ren r (ev τ.s x):=by
 cases x with
 |tmp t=>exact(h.s t).1 fun q a=>hs q (wn b q a)
 |const v=>exact(ZHU v).symm
 |global g=>simp[ev,ren]
 |func f=>simp[ev,ren,An]
theorem EM(h:RG r l outs env τ σ)(hs:Ct τ.s c){op:Op}(a:op.operands.toList.all (GB env c)=true):∀x∈op.operands,ev σ.s x=ren r (ev τ.s x):=
 fun x hm=>IA h hs (Ym.1 a x (by simpa using hm))
theorem ld(u:A8 P T)(h:RG r l outs env τ σ)(hs:Ct τ.s c)(v:∀b,g=some b→b=true){op:Op}(i:BN env c op=true){K:AV→AT→Prop}(j:tV T τ.H op (ev τ.s) g a K):
  A4 P σ.H op (ev σ.s) (KR r K):=by
 unfold BN at i
 split at i
 ·rename_i d x y
  simp only[Bool.and_eq_true]at i
  obtain⟨⟨o,p⟩,s⟩:=i
  have f:=j
  simp only[tV]at f
  split at f
  ·rename_i t m
   have n:=IA h hs o
   refine uC (T:=T) (H:=τ.H) (g:=g) (a:=a) m n (fun e=>IA h (c:=(d,true)::c) ?_ p) (fun e=>IA h (c:=(d,false)::c) ?_ s) j
   all_goals
    subst e
    intro q k
    rcases Yy.1 k with rfl|k
    ·exact m
    ·exact hs q k
  grind
 ·exact ZxV u h.h v (EM h hs i) j
theorem aX(h:RG r l outs env τ σ)(hs:Ct τ.s c)(t:∀b,g=some b→b=true){cl:Call}{f:Operand}(q:cl.callee=.value f)(m:BN env c (.call cl)=true){K:AV→AT→Prop}
  (e:SM P l r τ.H (ev τ.s f) (cl.args.toList.map (ev τ.s)) g a K):
  ∃i first d x j,ev σ.s f=.fn (.func i) first d∧Zcr P i (l+1) (first++cl.args.toList.map (ev σ.s)++d) σ.H (fun y u=>y=ren r x∧u=σ.H)∧K x j:=by
 have m:(Op.call cl).operands.toList.all (GB env c)=true:=m
 have s:=EM h hs m f (by simp[Op.operands,Call.operands,q])
 have n:cl.args.toList.map (ev σ.s)=An r (cl.args.toList.map (ev τ.s)):=cm fun x hm=>EM h hs m x (by simp only[Op.operands,Call.operands,q,K6];exact .inr (by simpa using hm))
 have o:∀ks:List Ad,∀p∈ks.map fun k=>(k,τ.H k),p.2.live=true→σ.H (r.κ p.1)=AK r p.1 p.2:=fun ks p e hl=>by
  obtain⟨k,B,rfl⟩:=YC.1 e
  exact h.h k hl
 unfold SM at e
 split at e
 ·rename_i i first d x ks j he
  have w:Ga _ _ _ _ _ _ _:=Bm t e.1
  refine⟨i,An r first,An r d,x,j,by rw[s,he];simp[ren],?_,e.2⟩
  rw[n,←Fm,←Fm]
  exact w σ.H (o ks) h.o
 ·rename_i i xs ys x ks j he
  obtain⟨v,first,d,z,A⟩:M4 _ _ _ _ _ _ _:=Bm t e.1
  refine⟨v,first,d,x,j,by rw[s,he];simp[ren,z],?_,e.2⟩
  rw[n]
  exact A σ.H (o ks) h.o
 grind
theorem RG.put(h:RG r l outs env τ σ){e:Nat}{ch:Ce}(b:fresh e env=true)(c:Kx e ch=true){v:AV}{y:AV}(hy:Ct τ.s ch→y=ren r v)(d:¬Ct τ.s ch→y=.tup []):
  RG r l outs ((e,ch)::env) ⟨upd τ.s e v,τ.H⟩ ⟨upd σ.s e y,σ.H⟩:=by
 refine⟨fun j=>?_,h.h,h.g,h.go,h.k,h.o⟩
 simp only
 rw[cC]
 by_cases a:j=e
 ·subst a
  rw[if_pos rfl,v8 c]
  simp only[upd,if_true]
  grind
 ·rw[if_neg a,v8 (wr b j)]
  simp only[upd,if_neg a]
  exact h.s j
end
section
variable {P:Program} {l n:Nat} {H:Hp} {m:Mu} {S:Nat→Prop} {w w':World} {s:Nat→AV} {a:Act}
theorem Ok.allocO(h:Ok l H m S w)(k:Ad)(P:k.1≤l)(b:Blk)(K:b.e.isO=true)(u:b.cells=[])(O:(H k).g<b.g)(o:Obj)(D:w'.heap=w.heap.push o)
  (J:GV w' S w.heap.size b.e) (F:w'.os=w.os) (G:w'.tape=w.tape) (I:w'.output=w.output):
  Ok l (updH H k b) (A6 m k ⟨w.heap.size,0,0⟩) S w'∧Ext l H m S w (updH H k b) (A6 m k ⟨w.heap.size,0,0⟩) S w':=by
 have d:∀i,i<w.heap.size→w'.heap[i]?=w.heap[i]?:=fun i hi=>by rw[D,Y5,if_neg (by omega)]
 have j:Ext l H m S w (updH H k b) (A6 m k ⟨w.heap.size,0,0⟩) S w':=by
  refine⟨fun _ h=>h,fun i hi=>d i (h.sub i hi),fun q a=>?_,fun q a y hl=>?_,F,G,I,by rw[D];simp⟩
  ·by_cases e:q=k
   ·subst e;rw[AM];omega
   ·rw[AJ _ _ e];exact Ye _
  ·by_cases e:q=k
   ·subst e;rw[AM]at y;omega
   ·rw[AJ _ _ e]at hl⊢;rw[AU _ _ e];exact⟨hl,rfl,rfl⟩
 have B:∀q:Ad,q.1≤l→(H q).live=true→(m q).cap≠0→(m q).b<w.heap.size:=fun q a hl n=>by
  obtain⟨C,t,_⟩:=h.blk q a hl n
  grind
 have A:∀q:Ad,q.1≤l→(H q).live=true→(H q).e.isO=true→(m q).b<w.heap.size:=fun q a hl n=>by
  obtain⟨C,t,_⟩:=(h.mp.o q a hl).at n
  grind
 refine⟨⟨fun i hi=>?_,fun q a hl c=>?_,fun q a hl c=>?_,fun q s a r hl f c g heq=>?_,fun q a hl c=>?_,
  ⟨fun q a hl=>?_,fun q a hl he=>?_,fun q s a r hl f he p heq=>?_⟩⟩,j⟩
 ·have:=h.sub i hi;rw[D];simp;omega
 ·by_cases e:q=k
  ·subst e;rw[AM];exact u
  ·rw[AJ _ _ e]at hl⊢;rw[AU _ _ e]at c;exact h.empty q a hl c
 ·by_cases e:q=k
  ·subst e;rw[AY]at c;exact absurd rfl c
  ·rw[AJ _ _ e]at hl;rw[AU _ _ e]at c⊢;exact h.fresh q a hl c
 ·by_cases e:q=k
  ·subst e;rw[AY]at c;exact absurd rfl c
  ·by_cases e':s=k
   ·subst e';rw[AY]at g;exact absurd rfl g
   ·rw[AU _ _ e,AU _ _ e']at heq
    rw[AJ _ _ e]at hl;rw[AJ _ _ e']at f
    rw[AU _ _ e]at c;rw[AU _ _ e']at g
    exact h.inj q s a r hl f c g heq
 ·by_cases e:q=k
  ·subst e;rw[AY]at c;exact absurd rfl c
  ·rw[AJ _ _ e]at hl⊢
   rw[AU _ _ e]at c⊢
   obtain⟨C,t,hs,z,N⟩:=h.blk q a hl c
   refine⟨C,by rw[d _ (B q a hl c)];exact t,hs,z,fun i x v hi M=>?_⟩
   obtain⟨E,g2⟩:=N i x v hi M
   exact⟨E,g2.ext j a⟩
 ·by_cases e:q=k
  ·subst e;rw[AM,AY];exact J
  ·rw[AJ _ _ e]at hl⊢;rw[AU _ _ e]
   exact(h.mp.o q a hl).mono (fun _ h=>h) (fun i hi=>d i (h.sub i hi)) (fun L=>d _ (A q a hl L))
 ·by_cases e:q=k
  ·subst e;rw[AY];exact⟨⟨rfl,rfl⟩,fun hs=>by have:=h.sub _ hs;simp at this⟩
  ·rw[AJ _ _ e]at hl he;rw[AU _ _ e];exact h.mp.c q a hl he
 ·by_cases e:q=k<;>by_cases e':s=k
  ·grind
  ·subst e
   rw[AY,AU _ _ e']at heq
   rw[AJ _ _ e']at f p
   grind
  ·subst e'
   rw[AY,AU _ _ e]at heq
   rw[AJ _ _ e]at hl he
   grind
  ·rw[AU _ _ e,AU _ _ e']at heq
   rw[AJ _ _ e]at hl he;rw[AJ _ _ e']at f p
   exact h.mp.i q s a r hl f he p heq
theorem Ok.writeO(h:Ok l H m S w)(k:Ad)(y:k.1≤l)(hl:(H k).live=true)(t:(H k).e.isO=true)(e':EK)(n:e'.isO=true)(o:Obj)
  (F:∀b,w'.heap[b]?=if b=(m k).b then some o else w.heap[b]?) (B:w'.heap.size=w.heap.size) (L:GV w' S (m k).b e') (I:w'.os=w.os) (J:w'.tape=w.tape) (K:w'.output=w.output):
  Ok l (updH H k {H k with e:=e' }) m S w'∧Ext l H m S w (updH H k {H k with e:=e' }) m S w':=by
 obtain⟨R,T⟩:=h.mp.c k y hl t
 have j:Ext l H m S w (updH H k {H k with e:=e' }) m S w':=by
  refine⟨fun _ h=>h,fun b s=>?_,fun q d=>?_,fun q d U a=>?_,I,J,K,by omega⟩
  ·grind
  ·by_cases e:q=k
   ·subst e;rw[AM];exact Ye _
   ·rw[AJ _ _ e];exact Ye _
  ·by_cases e:q=k
   ·subst e;rw[AM]at a⊢;exact⟨a,rfl,rfl⟩
   ·rw[AJ _ _ e]at a⊢;exact⟨a,rfl,rfl⟩
 have f:∀q:Ad,(updH H k {H k with e:=e' } q).live=(H q).live:=fun q=>by
  by_cases e:q=k
  ·subst e;rw[AM]
  ·rw[AJ _ _ e]
 have g:∀q:Ad,(H q).e.isO=(updH H k {H k with e:=e' } q).e.isO:=fun q=>by
  by_cases e:q=k
  ·subst e;rw[AM];exact t.trans n.symm
  ·rw[AJ _ _ e]
 refine⟨⟨fun b s=>?_,fun q d a r=>?_,fun q d a r=>?_,fun q E d p a c r D heq=>?_,fun q d a r=>?_,
  ⟨fun q d a=>?_,fun q d a he=>?_,fun q E d p a c he n heq=>?_⟩⟩,j⟩
 ·rw[B];exact h.sub b s
 ·rw[f]at a
  have:=h.empty q d a r
  by_cases e:q=k
  ·subst e;rw[AM];exact this
  ·rw[AJ _ _ e];exact this
 ·rw[f]at a;exact h.fresh q d a r
 ·rw[f]at a c;exact h.inj q E d p a c r D heq
 ·rw[f]at a
  by_cases e:q=k
  ·grind
  ·rw[AJ _ _ e]
   obtain⟨C,s,hs,z,O⟩:=h.blk q d a r
   have A:(m q).b≠(m k).b:=fun u=>by
    obtain⟨V,P,Q⟩:=(h.mp.o k y hl).at t
    rw[u,P]at s;cases s;cases Q
   refine⟨C,by rw[F,if_neg A];exact s,hs,z,fun i x v hi N=>?_⟩
   obtain⟨G,g2⟩:=O i x v hi N
   exact⟨G,g2.ext j d⟩
 ·rw[f]at a
  by_cases e:q=k
  ·subst e;rw[AM];exact L
  ·rw[AJ _ _ e]
   refine(h.mp.o q d a).mono (fun _ h=>h) j.blk (fun M=>?_)
   rw[F,if_neg (fun u=>e (h.mp.i q k d y a hl M t u))]
 ·rw[f]at a;rw[←g]at he;exact h.mp.c q d a he
 ·rw[f]at a c;rw[←g]at he n;exact h.mp.i q E d p a c he n heq
theorem MEnt.mod{q:Bool}{es:List (List D)}{ents:Array MapEntry}{a j:Nat}{s:ByteArray}{ds:List D}{x:MapEntry}{v:Value}(h:MEnt w S q es ents a)(o:ents[j]?=some x)(m:VR w S q ds v):
  MEnt w S q (es.set j (.str s::ds)) (ents.modify j fun e=>{e with key:=.string s,val:=v }) a:=by
 have b:∀(i:Nat) (y:MapEntry),(ents.modify j fun e=>{e with key:=.string s,val:=v })[i]?=some y→∃z,ents[i]?=some z∧y=if j=i then {z with key:=.string s,val:=v }else z:=fun i y hy=>by
  grind
 have c:∀(i:Nat) (z:MapEntry),(if j=i then({z with key:=.string s,val:=v }:MapEntry)else z).born=z.born:=fun i z=>by split<;>rfl
 refine⟨by simp[h.n],fun i k y z hy n e=>?_,fun i y hy=>?_,fun i e y hi hy=>?_⟩
 ·obtain⟨g,a1,rfl⟩:=b i y hy
  obtain⟨p,l,rfl⟩:=b k z n
  rw[c,c]at e
  exact h.born i k _ _ a1 l e
 ·obtain⟨g,a1,rfl⟩:=b i y hy
  rw[c];exact h.clk i _ a1
 ·obtain⟨g,a1,rfl⟩:=b i y hy
  by_cases d:j=i
  ·subst d
   rw[if_pos rfl]
   have f:j<es.length:=by rw[←h.n];exact Fl a1
   rw[T4,if_pos rfl,if_pos f]at hi
   cases hi
   exact⟨s,ds,rfl,rfl,m⟩
  ·rw[if_neg d]
   rw[T4,if_neg d]at hi
   exact h.e i e _ hi a1
theorem MEnt.push{q:Bool}{es:List (List D)}{ents:Array MapEntry}{a:Nat}{s:ByteArray}{ds:List D}{v:Value}(h:MEnt w S q es ents a)(g:VR w S q ds v):
  MEnt w S q (es++[.str s::ds]) (ents.push {key:=.string s,val:=v,born:=a }) (a+1):=by
 have b:∀(i:Nat) (y:MapEntry),(ents.push {key:=.string s,val:=v,born:=a })[i]?=some y→(i=ents.size∧y={key:=.string s,val:=v,born:=a })∨(i≠ents.size∧ents[i]?=some y):=fun i y hy=>by
  grind
 refine⟨by simp[h.n],fun i k y z hy j e=>?_,fun i y hy=>?_,fun i e y hi hy=>?_⟩
 ·rcases b i y hy with⟨rfl,rfl⟩|⟨a1,c⟩<;>rcases b k z j with⟨rfl,rfl⟩|⟨l,f⟩
  ·rfl
  ·have:=h.clk k z f;simp only at e;omega
  ·have:=h.clk i y c;simp only at e;omega
  ·exact h.born i k y z c f e
 ·rcases b i y hy with⟨rfl,rfl⟩|⟨a1,c⟩
  ·grind
  ·exact Nat.lt_succ_of_lt (h.clk i y c)
 ·rcases b i y hy with⟨rfl,rfl⟩|⟨a1,c⟩
  ·rw[h.n,Yp (Ye _),Nat.sub_self]at hi
   cases hi
   exact⟨s,ds,rfl,rfl,g⟩
  ·have d:i<es.length:=by rw[←h.n];exact Fl c
   rw[Yh d]at hi
   exact h.e i e y hi c
theorem MEnt.del{q:Bool}{es:List (List D)}{ents:Array MapEntry}{a j:Nat}(h:MEnt w S q es ents a)(d:j<ents.size):MEnt w S q (es.eraseIdx j) (ents.eraseIdxIfInBounds j) a:=by
 have f:(ents.eraseIdxIfInBounds j).toList=ents.toList.eraseIdx j:=by
  unfold Array.eraseIdxIfInBounds
  rw[dif_pos d,Array.toList_eraseIdx]
 have b:∀(i:Nat) (y:MapEntry),(ents.eraseIdxIfInBounds j)[i]?=some y→ents[if i<j then i else i+1]?=some y:=fun i y hy=>by
  grind
 have c:∀i k:Nat,(if i<j then i else i+1)=(if k<j then k else k+1)→i=k:=fun i k=>by split<;>split<;>omega
 refine⟨?_,fun i k y z hy g e=>c i k (h.born _ _ _ _ (b i y hy) (b k z g) e),fun i y hy=>h.clk _ _ (b i y hy),fun i e y hi hy=>?_⟩
 ·have:=congrArg List.length f
  rw[YI,List.length_eraseIdx,YI,if_pos d]at this
  rw[this,List.length_eraseIdx,if_pos (by rw[←h.n];exact d),h.n]
 ·refine h.e _ e y ?_ (b i y hy)
  grind
theorem au{α:Type}(f:α→Nat)(g:α→Bool):∀(L:List α),(∀(i j:Nat) (x y:α),L[i]?=some x→L[j]?=some y→f x=f y→i=j)→∀(i:Nat) (x:α),(L.filter g)[i]?=some x→L.filter (fun y=>g y&&!(f y==f x))=(L.filter g).eraseIdx i
 |[],_,i,x,h=>by simp at h
 |y::L,d,i,x,h=>by
  have a:∀(i j:Nat) (x y:α),L[i]?=some x→L[j]?=some y→f x=f y→i=j:=fun i j x z hi c e=>K1 (d (i+1) (j+1) x z (by simpa using hi) (by simpa using c) e)
  have hy:∀z∈L,f y≠f z:=fun z l e=>by
   obtain⟨j,c⟩:=YK.1 l
   have:=d 0 (j+1) y z rfl (by simpa using c) e
   omega
  by_cases b:g y=true
  ·rw[kL b]at h⊢
   cases i with
   |zero=>
    simp only[YQ,Yf]at h
    subst h
    rw[TW (by simp),List.eraseIdx_cons_zero]
    apply List.filter_congr
    grind
   |succ i=>
    rw[Y4]at h
    have k:x∈L:=(Y6.1 (Yi h)).1
    rw[kL (by simp[b,hy x k]),TV,au f g L a i x h]
  ·rw[TW b]at h⊢
   rw[TW (by simp[b])]
   exact au f g L a i x h
end
end Go.Eng
