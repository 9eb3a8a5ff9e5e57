import Derived.Test.YtbcmdieedjamgaaGreatZd04
import Derived.Test.YtbcmdieedjamgaaGreatZd01
import Derived.Maps.RangeRun
import Derived.Test.YtbcmdieedjamgaaGreatZd03
import Derived.Test.YtbcmdieedjamgaaGreatZd00
namespace Go.Eng
set_option linter.all false
open Go Go.RowKit
section
variable {P:Program} {T:Nat→Option TI} {r:Ren} {H H':Hp} {g:Option Bool} {a:AT} {K:AV→AT→Prop}
def KR(r:Ren)(K:AV→AT→Prop)(y:AV):Prop:=∃v a,y=ren r v∧K v a
theorem KR.mk{v:AV}{a:AT}(h:K v a):KR r K (ren r v):=⟨v,a,rfl,h⟩
theorem KR.mk'{v y:AV}{a:AT}(h:K v a)(e:y=ren r v):KR r K y:=⟨v,a,e,h⟩
theorem l8{t:TypeId}{i:TI}(hi:TIok P t i)(h:(i.str||i.elm.isSome)=true):Ke P t=true:=by
 rw[YH]at h
 unfold Ke
 rcases h with h|h
 ·have:=hi.str h
  unfold Ms at this
  split at this
  ·rename_i a _;rw[a]
  ·cases this
 ·obtain⟨e,he⟩:=Y9.1 h
  obtain⟨b,c⟩:=e
  have:=(Fh (hi.elm _ he)).1
  rw[this]
theorem ft{t:TypeId}{i:TI}(hi:TIok P t i)(y:DB r H H')(p:∀b,g=some b→b=true){x:AV}(h:Nn i H x g a K):EJ P H' t (ren r x) (KR r K):=by
 unfold Nn at h
 cases x<;>simp only at h<;>try exact h.elim
 case iptr cs off=>
  simp only[ren,EJ,hi.agg,hi.siz]
  split at h
  ·rename_i he
   rw[he]
   split at h
   ·rename_i c d f
    obtain⟨m,n⟩:=ga _ _ _ f
    have d:=Yh d
    rw[Y8]at n
    exact⟨by omega,by omega,.mk' h (by rw[m,ren,H7])⟩
   grind
  ·rename_i he
   rw[he]
   rw[Cm]at h
   simp only
   split at h
   ·rename_i c o;simp only[o];exact .mk' h rfl
   grind
 case ptr k q off=>
  simp only[ren,EJ,hi.agg,hi.siz]
  split at h
  ·rename_i hl
   obtain⟨s,u,z,A,v⟩:=y.at hl
   refine⟨s,u,?_⟩
   rw[v]
   split at h
   ·split at h
    ·rename_i he
     rw[he]
     split at h
     ·rename_i c d f
      obtain⟨m,n⟩:=ga _ _ _ f
      have d:=Yh d
      rw[Y8]at n
      exact⟨by omega,by rw[CE];omega,.mk' h (by rw[ren,Fe,FS,m])⟩
     grind
    ·rename_i he
     rw[he]
     rw[Cm]at h
     split at h
     ·rename_i c o;simp only[H5,o,YV];exact .mk' h rfl
     grind
   ·split at h
    ·rename_i he
     rw[he]
     split at h
     ·rename_i c B d f
      have d:=Yh d
      have f:=Ye f
      have j:DT _ _ _:=Bu p h.1
      unfold DT at j
      rw[f]at j
      have w:=congrArg List.length j
      rw[Yw,Y8]at w
      exact⟨by omega,by rw[CE];omega,.mk' h.2 (by rw[ren,Fe,FS,j])⟩
     grind
    ·rename_i he
     rw[he]
     split at h
     ·rename_i x
      have j:DT _ _ _:=Bu p h.1
      unfold DT at j
      have e:(H k).cells[off]?=some x:=by
       have:=congrArg (fun l=>l[0]?) j
       grind
      simp only[H5,e,YV]
      exact .mk' h.2 rfl
     grind
   grind
  ·grind
theorem Nh{t:TypeId}{i:TI}(hi:TIok P t i){f:Nat}{x:Nat×Nat×Bool}(h:Bk i.fld f=some x):fld P t f=some (x.1,x.2.1)∧L7 P t f=some x:=by
 rw[Cm]at h;exact hi.fld f x h
theorem Zhw{t:TypeId}{i:TI}(hi:TIok P t i)(j:DB r H H'){f:Nat}{x:AV}(h:TY i H f x a K):Ff P H' t f (ren r x) (KR r K):=by
 unfold TY at h
 split at h
 ·rename_i o n b k
  have e:=(Nh hi k).1
  split at h
  ·rename_i c
   have c:=Yh c
   unfold Ff
   rw[e]
   split at h
   ·simp only[ren];exact⟨by omega,.mk' h rfl⟩
   ·split at h
    ·rename_i hl
     obtain⟨d,g,_⟩:=j.at hl
     simp only[ren];exact⟨by omega,d,g,.mk' h rfl⟩
    grind
   grind
  grind
 grind
theorem Zmb{t:TypeId}{i:TI}(hi:TIok P t i){f:Nat}{x:AV}(h:Vu i f x a K):Fj P t f (ren r x) (KR r K):=by
 unfold Vu at h
 rw[ZrT]
 split at h
 ·rename_i o n cs b
  rw[(Nh hi b).2]
  split at h
  ·rename_i d
   have d:=Yh d
   simp only[ren,O5]
   exact⟨by omega,.mk' h (by rw[ren,Fe,FS])⟩
  grind
 ·rename_i o n cs b
  rw[(Nh hi b).2]
  rw[Cm]at h
  split at h
  ·rename_i c e
   simp only[ren,O5,H5,e,YV]
   exact .mk' h rfl
  grind
 grind
theorem Zhr{t:TypeId}{i:TI}(hi:TIok P t i)(w:DB r H H')(m:∀b,g=some b→b=true){x j:AV}(h:T0 i H x j g a K):EB P H' t (ren r x) (ren r j) (KR r K):=by
 unfold T0 at h
 split at h
 ·rename_i e sz k n he
  have he:=hi.elm _ he
  split at h
  ·rename_i y e' q
   split at h
   ·rename_i c d
    have c:=Ye c
    have d:=Yh d
    obtain⟨f,l⟩:Jo _ _ _:=Bu m h.1
    simp only[ren,EB,he]
    refine⟨f,?_⟩
    rw[l]
    exact⟨c,by omega,.mk' h.2 rfl⟩
   grind
  ·rename_i k q off len o B
   split at h
   ·rename_i hl c d
    have c:=Ye c
    have d:=Yh d
    obtain⟨p,s,z,u,A⟩:=w.at hl
    obtain⟨f,l,v⟩:Mh _ _ _ _ _:=Bu m h.1
    simp only[ren,EB,he]
    exact⟨f,l,p,s,by rw[u,c],by omega,.mk' h.2 (by rw[ren,v])⟩
   grind
  grind
 grind
theorem Zl4{t:TypeId}{i:TI}(hi:TIok P t i)(m:∀b,g=some b→b=true){x j:AV}(h:U4 i x j g a K):FX P t (ren r x) (ren r j) (KR r K):=by
 unfold U4 at h
 split at h
 ·rename_i s k n b q
  split at h
  ·rename_i d
   have d:=Ye d
   obtain⟨e,c,f,l⟩:Jx _ _ _:=Bu m h.1
   simp only[ren,FX]
   refine⟨by rw[hi.kin];exact d,e,?_⟩
   rw[f]
   exact .mk' h.2 (by rw[ren,l])
  grind
 grind
theorem Zqc{op:BinOp}{k:IntKind}{x y:Int}(c:∀b,g=some b→b=true)(h:Te op k x y g a K):GU op k x y (KR r K):=by
 unfold Te at h
 cases op<;>simp only at h<;>try exact h.elim
 all_goals simp only[GU]
 case eql=>exact .mk' h rfl
 case neq=>exact .mk' h rfl
 case lss=>exact .mk' h rfl
 case leq=>exact .mk' h rfl
 case gtr=>exact .mk' h rfl
 case geq=>exact .mk' h rfl
 case add|sub|mul=>
  split at h
  ·have e:Cs _ _ _:=Bu c h.1
   unfold Cs at e
   rw[e];exact .mk' h.2 rfl
  ·grind
 case and|or|xor=>
  split at h
  ·have e:BC _ _:=Bu c h.1
   unfold BC at e
   rw[e];exact .mk' h.2 rfl
  ·grind
 case quo=>
  split at h
  ·have e:Cs _ _ _:=Bu c h.2.1
   unfold Cs at e
   rw[e];exact⟨Bu c h.1,.mk' h.2.2 rfl⟩
  ·grind
 case rem=>
  split at h
  ·have e:BC _ _:=Bu c h.2.1
   unfold BC at e
   rw[e];exact⟨Bu c h.1,.mk' h.2.2 rfl⟩
  ·grind
 case shr=>
  split at h
  ·have e:BC _ _:=Bu c h.2.1
   unfold BC at e
   rw[e];exact⟨Bu c h.1,.mk' h.2.2 rfl⟩
  ·grind
 case shl=>
  split at h
  ·have e:Cs _ _ _:=Bu c h.2.1
   unfold Cs at e
   rw[e];exact⟨Bu c h.1,.mk' h.2.2 rfl⟩
  ·grind
theorem ZpH{op:BinOp}{x y:ByteArray}(c:∀b,g=some b→b=true)(h:SV op x y g a K):GS op x y (KR r K):=by
 unfold SV at h
 cases op<;>simp only at h<;>try exact h.elim
 all_goals simp only[GS]
 case add=>exact⟨Bu c h.1,.mk' h.2 rfl⟩
 all_goals exact .mk' h rfl
theorem Zi5{neg:Bool}{x:AV}(i:DB r H H')(h:Mw H neg x a K):DZ H' neg (ren r x) (KR r K):=by
 unfold Mw at h
 split at h
 ·simp only[ren,DZ];exact fun b=>.mk' (h b) rfl
 ·rename_i c
  cases c with
  |nil=>simp only[ren,DZ];exact fun b=>.mk' (h b (fun e=>absurd rfl e)) rfl
  |cons e c=>simp only[ren,DZ];exact .mk' (h neg (fun _=>rfl)) rfl
 ·rename_i k q off n
  split at h
  ·rename_i hl
   obtain⟨f,g,_⟩:=i.at hl
   simp only[ren,DZ]
   exact⟨⟨f,g⟩,fun d=>.mk' (h neg (fun _=>rfl)) rfl,fun d b=>.mk' (h b (fun e=>absurd d e)) rfl⟩
  grind
 grind
theorem Zmc:∀(ks:List Nat) (xs ys:List AV) (b:Bool),EH ks xs ys=some b→EH ks (Ao r xs) (Ao r ys)=some b
 |[],[],[],b,h=>by simpa[Ao]using h
 |k::ks,x::xs,y::ys,b,h=>by
  cases x<;>cases y<;>simp only[EH]at h<;>try (cases h;done)
  rename_i x y
  simp only[Ao,ren,EH]
  split at h
  ·rename_i d e a c
   simp only[a,Zmc ks xs ys _ c]
   exact h
  ·cases h
 |[],[],_::_,b,h=>by simp[EH]at h
 |[],_::_,_,b,h=>by simp[EH]at h
 |_::_,[],_,b,h=>by simp[EH]at h
 |_::_,x::_,[],b,h=>by cases x<;>simp[EH]at h
theorem ZIH{H:Hp}{op:BinOp}{t:TypeId}{a:Bool}{x:AV}{K:AV→Prop}:CI P H op t a x .e0 K=(a=true∧kin P t=4∧match op with|.eql=>DZ H false x K|.neq=>DZ H true x K|_=>False):=by
 unfold CI
 grind
theorem ZpS{t:TypeId}{i:TI}(hi:TIok P t i)(e:DB r H H')(f:∀b,g=some b→b=true){op:BinOp}{j:Bool}{x y:AV}(h:Sx i H op j x y g a K):CI P H' op t j (ren r x) (ren r y) (KR r K):=by
 unfold Sx at h
 split at h
 ·split at h
  ·rename_i c
   simp only[ren,CI]
   exact⟨ZNZ c,Zqc f h⟩
  grind
 ·simp only[ren,CI];exact ZpH f h
 ·split at h
  ·rename_i c
   simp only[ren,CI]
   refine⟨by rw[hi.kin];exact Ye c,?_⟩
   split at h
   ·exact .mk' h rfl
   ·exact .mk' h rfl
   grind
  grind
 ·rename_i xs ys
  split at h
  ·rename_i ks d
   split at h
   ·rename_i b l
    simp only[ren,CI,HF,hi.eqt _ d,Zmc _ _ _ _ l]
    split at h
    ·exact .mk' h rfl
    ·exact .mk' h rfl
    grind
   grind
  grind
 ·rw[show ren r .e0=.e0 from by simp[ren],ZIH]
  split at h
  ·rename_i m k
   refine⟨rfl,by rw[hi.kin];exact Ye k,?_⟩
   split at h
   ·exact Zi5 e h
   ·exact Zi5 e h
   grind
  grind
 grind
theorem Zrw{op:UnOp}{x:AV}(c:∀b,g=some b→b=true)(h:Xh op x g a K):EX op (ren r x) (KR r K):=by
 unfold Xh at h
 split at h
 ·simp only[ren,EX];exact .mk' h rfl
 ·split at h
  ·have e:Cs _ _ _:=Bu c h.1
   unfold Cs at e
   simp only[ren,EX]
   rw[e];exact .mk' h.2 rfl
  grind
 ·split at h
  ·have e:BC _ _:=Bu c h.1
   unfold BC at e
   simp only[ren,EX]
   rw[e];exact .mk' h.2 rfl
  grind
 grind
theorem ZmP{s d:TypeId}{i j:TI}(hi:TIok P s i)(k:TIok P d j){x:AV}(l:∀b,g=some b→b=true)(h:WN i j x g a K):Fk P s d (ren r x) (KR r K):=by
 unfold WN at h
 split at h
 ·split at h
  ·rename_i q n p k' o m t c f
   have e:Cs _ _ _:=Bu l h.1
   unfold Cs at e
   simp only[ren,Fk,hi.ik _ c,k.ik _ f]
   rw[e];exact .mk' h.2 rfl
  grind
 ·split at h
  ·rename_i c f
   simp only[ren,Fk,JQ (by rw[hi.kin];exact Ye c),JQ (by rw[k.kin];exact Ye f)]
   exact .mk' h rfl
  grind
 grind
theorem Nb{d l:Nat}{o a:Option AV}(h:D6 d o l)(b:a=o.map (ren r)):Er d a=some l:=by
 subst b
 unfold D6 at h
 split at h
 ·simp[Er,h]
 ·subst h
  simp[Er,ren]
 grind
theorem Zlt{t:TypeId}{i:TI}(hi:TIok P t i)(B:DB r H H')(c:∀b,g=some b→b=true){x:AV}{lo q:Option AV}{v:Bool}(h:VG i H x lo q v g a K):
  EF P H' t (ren r x) (lo.map (ren r)) (q.map (ren r)) v (KR r K):=by
 unfold VG at h
 split at h
 ·split at h
  ·split at h
   ·rename_i C
    obtain⟨m,n,o,p⟩:=h
    have f:=Nb (r:=r) (Bu c m) rfl
    have j:=Nb (r:=r) (Bu c n) rfl
    have d:Gq _ _ _:=Bu c o
    simp only[ren,EF,f,j]
    exact⟨by rw[hi.kin];exact Ye C,trivial,d.1,d.2,.mk' p rfl⟩
   grind
  ·split at h
   ·rename_i e sz w D he
    split at h
    ·rename_i l
     have l:=Yh l
     obtain⟨m,n,o,p,u⟩:=h
     have f:=Nb (r:=r) (Bu c m) rfl
     have j:=Nb (r:=r) (Bu c n) rfl
     have d:Gq _ _ _:=Bu c o
     have k:RW _ _ _ _ _:=Bu c p
     simp only[ren,EF,f,j,hi.elm _ he]
     exact⟨trivial,by omega,k.1,d.1,d.2,.mk' u (by rw[ren,k.2])⟩
    grind
   grind
  ·split at h
   ·rename_i e sz I G D he hl
    split at h
    ·rename_i l s
     have l:=Yh l
     obtain⟨y,z,E,A,F⟩:=B.at hl
     obtain⟨m,n,o,p,u⟩:=h
     have f:=Nb (r:=r) (Bu c m) rfl
     have j:=Nb (r:=r) (Bu c n) rfl
     have d:Gq _ _ _:=Bu c o
     have k:Xv _ _ _ _ _:=Bu c p
     simp only[ren,EF,f,j,hi.elm _ he]
     exact⟨trivial,y,z,by omega,by rw[A];exact Ye s,d.1,d.2,.mk' u (by rw[ren,k.1,k.2])⟩
    grind
   grind
  grind
 grind
theorem Zpx{t:TypeId}{i:TI}(hi:TIok P t i)(k:DB r H H')(d:∀b,g=some b→b=true){x:AV}(h:SB i H x g a K):DX P H' t (ren r x) (KR r K):=by
 unfold SB at h
 split at h
 ·split at h
  ·rename_i c
   have e:BC _ _:=Bu d h.1
   unfold BC at e
   simp only[ren,DX,hi.kin]
   exact⟨Ye c,.mk' h.2 (by rw[ren,e])⟩
  grind
 ·split at h
  ·rename_i c
   have e:BC _ _:=Bu d h.1
   unfold BC at e
   simp only[ren,DX,hi.kin]
   exact⟨Ye c,.mk' h.2 (by rw[ren,e])⟩
  grind
 ·split at h
  ·rename_i c
   have e:BC _ _:=Bu d h.1
   unfold BC at e
   simp only[ren,DX,hi.kin]
   exact⟨Ye c,.mk' h.2 (by rw[ren,e])⟩
  grind
 ·split at h
  ·rename_i c hl
   have e:BC _ _:=Bu d h.1
   unfold BC at e
   obtain⟨f,j,_⟩:=k.at hl
   simp only[ren,DX,hi.kin]
   exact⟨Ye c,f,j,.mk' h.2 (by rw[ren,e])⟩
  grind
 grind
theorem Zp6(a:DB r H H'){x:AV}{y:Bool×List (List D)}(h:jf H x=some y):NK H' (ren r x)=some y:=by
 unfold jf at h
 split at h
 ·simp only[ren,NK];exact h
 ·split at h
  ·rename_i k g _ _ q b hl he
   obtain⟨c,d,e,_,_⟩:=a.at hl
   simp only[ren,NK]
   grind
  ·cases h
 ·cases h
theorem Zvh(q:Bool)(ds:List D):ren r (NU q ds)=NU q ds:=by
 unfold NU
 split<;>simp[ren,H7]
theorem ZG1(a q:Bool)(ds:List D)(ok:Bool):ren r (NS a q ds ok)=NS a q ds ok:=by
 unfold NS
 cases a
 ·exact Zvh q ds
 ·simp only[ren,Ao,Zvh]
theorem ZmL{t:TypeId}{i:TI}(hi:TIok P t i)(k:DB r H H')(l:∀b,g=some b→b=true){x y:AV}{c:Bool}(h:Wm i H x y c g a K):GQ P H' t (ren r x) (ren r y) c (KR r K):=by
 unfold Wm at h
 split at h
 ·rename_i q z p o s ok vs n f j
  split at h
  ·rename_i m
   obtain⟨d,e⟩:QS _ _ _ _ _:=Bu l h.1
   simp only[GQ,hi.mp _ f,Zp6 k j,ren]
   exact⟨ZSA m,.mk' h.2 (by rw[d,e,ZG1])⟩
  grind
 grind
theorem Py{x:AV}{vs:List AV}(h:CT x=some vs)(hx:∀f xs ys,x≠.fn (.yield f) xs ys):CT (ren r x)=some (Ao r vs):=by
 cases x<;>simp only[CT,Yk]at h<;>try (cases h;done)
 case fn f xs ys=>
  subst h
  cases f with
  |yield i=>exact absurd rfl (hx i xs ys)
  |_=>simp[ren,Ao,CT]
 all_goals(subst h;simp[ren,Ao,CT])
theorem PS{x:AV}(h:Js x=true):∀f xs ys,x≠.fn (.yield f) xs ys:=by
 rintro f xs ys rfl;cases h
theorem ZSb{t:TypeId}{i:TI}(hi:TIok P t i){f o n:Nat}(h:jW i f=some (o,n)):fld P t f=some (o,n):=by
 unfold jW at h
 split at h
 ·rename_i d c b a
  simp only[Yk,G7]at h
  obtain⟨rfl,rfl⟩:=h
  exact(Nh hi a).1
 ·cases h
theorem Zh4{t:TypeId}{i:TI}(hi:TIok P t i):∀(ps:List (Nat×AV)) (z cs:List AV),(∀p∈ps,Js p.2=true)→QA i z ps=some cs→Cy (fld P t) (Ao r z) (ps.map fun p=>(p.1,ren r p.2))=some (Ao r cs)
 |[],z,cs,_,h=>by
  simp only[QA,Yk]at h
  subst h
  simp[Cy]
 |(f,v)::ps,z,cs,e,h=>by
  simp only[QA]at h
  split at h
  ·rename_i off size vs a g
   split at h
   ·rename_i c d
    have c:=Ye c
    have d:=Yh d
    have b:=Py (r:=r) g (PS (e (f,v) (YB ..)))
    simp only[YT,Cy,ZSb hi a,b,CE]
    rw[Ym (by omega)]
    have:=Zh4 hi ps _ cs (fun p a=>e p (Yy _ a)) h
    rw[←this]
    simp only[He,FS,Fe]
   ·cases h
  ·cases h
theorem Zlu{t:TypeId}{i:TI}(hi:TIok P t i){parts:List (Nat×AV)}(e:∀p∈parts,Js p.2=true)(f:∀z,i.zer=some z→Ao r z=z)(h:Vb i parts a K):
  FY P t (parts.map fun p=>(p.1,ren r p.2)) (KR r K):=by
 unfold Vb at h
 split at h
 ·rename_i z c b
  split at h
  ·rename_i cs d
   have:=Zh4 (r:=r) hi _ _ _ e d
   unfold FY
   rw[hi.zer _ b]
   rw[f z b]at this
   simp only[this]
   exact⟨hi.str c,.mk' h rfl⟩
  grind
 grind
theorem ZxC{x:AV}(h:x.flat=true):ren r x=x:=by cases x<;>first|(simp[ren];done)|cases h
theorem Lg{z:List AV}(h:z.all AV.flat=true):Ao r z=z:=by
 induction z with
 |nil=>simp[Ao]
 |cons x z a=>
  simp only[I7,Yd]at h
  rw[Ao,ZxC h.1,a h.2]
theorem Ziz{c x y:Operand}{ρ d:Operand→AV}{t:Bool}(e:ρ c=.d (.bool t))(b:d c=ren r (ρ c))(hx:t=true→d x=ren r (ρ x))(hy:t=false→d y=ren r (ρ y))(h:tV T H (.pick c x y) ρ g a K):
  A1 P H' (.pick c x y) d (KR r K):=by
 simp only[tV,e]at h
 rw[e]at b
 simp only[ren]at b
 simp only[A1,b]
 rw[Zym]at h
 cases t
 ·exact .mk' h (by simp[hy rfl])
 ·exact .mk' h (by simp[hx rfl])
theorem gv{ρ a:Operand→AV}{xs:List Operand}(h:∀x∈xs,a x=ren r (ρ x)):xs.map a=Ao r (xs.map ρ):=by
 rw[FT,I8]
 exact Ez h
theorem ZoH{ρ a:Operand→AV}{o:Option Operand}(h:∀x,o=some x→a x=ren r (ρ x)):o.map a=(o.map ρ).map (ren r):=by
 cases o with
 |none=>rfl
 |some x=>simp[h x rfl]
theorem Zlv{r:Ren}{b:Bool}{x y:AV}{a:AT}{K:AV→AT→Prop}(h:Ex b x y (fun v=>K v a)):Ex b (ren r x) (ren r y) (KR r K):=by
 unfold Ex at h
 split at h
 ·simp only[ren,Ex];exact .mk' h rfl
 grind
theorem Zzk(n:A8 P T)(C:DB r H H')(A:∀b,g=some b→b=true){op:Op}{ρ w:Operand→AV}(Z:∀x∈op.operands,w x=ren r (ρ x))(h:tV T H op ρ g a K):A1 P H' op w (KR r K):=by
 have get:∀{x:Operand},x∈op.operands→w x=ren r (ρ x):=fun hx=>Z _ hx
 cases op<;>simp only[tV]at h<;>try exact h.elim
 case move x=>exact .mk' h (get (by simp[Op.operands]))
 case assign x=>exact .mk' h (get (by simp[Op.operands]))
 case pick c x y=>
  split at h
  ·rename_i t l
   exact Ziz (a:=a) (g:=g) (T:=T) (H:=H) l (get (by simp[Op.operands])) (fun _=>get (by simp[Op.operands])) (fun _=>get (by simp[Op.operands])) (by simp only[tV,l];exact h)
  ·grind
 case load t x=>
  split at h
  ·rename_i i hi;simp only[A1];rw[get (x:=x) (by simp[Op.operands])];exact ft (n _ _ hi) C A h
  ·grind
 case fieldAddr t x f=>
  split at h
  ·rename_i i hi;simp only[A1];rw[get (x:=x) (by simp[Op.operands])];exact Zhw (n _ _ hi) C h
  ·grind
 case field t x f=>
  split at h
  ·rename_i i hi;simp only[A1];rw[get (x:=x) (by simp[Op.operands])];exact Zmb (n _ _ hi) h
  ·grind
 case indexAddr t x j=>
  split at h
  ·rename_i i hi;simp only[A1];rw[get (x:=x) (by simp[Op.operands]),get (x:=j) (by simp[Op.operands])];exact Zhr (n _ _ hi) C A h
  ·grind
 case index t x j=>
  split at h
  ·rename_i i hi;simp only[A1];rw[get (x:=x) (by simp[Op.operands]),get (x:=j) (by simp[Op.operands])];exact Zl4 (n _ _ hi) A h
  ·grind
 case makeInterface t x=>
  split at h
  case h_2=>exact h.elim
  rename_i i hi
  have E:(i.str||i.elm.isSome)=true→Ke P t=true:=l8 (n _ _ hi)
  simp only[A1]
  rw[get (x:=x) (by simp[Op.operands])]
  split at h
  ·rename_i xs D hx
   rw[hx]
   simp only[ren]
   split at h
   case h_2=>exact h.elim
   rename_i ds N
   have e:=UF N
   subst e
   rw[H7,N]
   exact⟨E D,.mk' h rfl⟩
  ·rename_i y D hx
   rw[hx]
   simp only[ren]
   exact⟨E D,.mk' h rfl⟩
  ·exact h.elim
 case typeAssert x u t ok=>
  split at h
  case h_2=>exact h.elim
  rename_i i hi
  have E:(i.str||i.elm.isSome)=true→Ke P t=true:=l8 (n _ _ hi)
  simp only[A1]
  rw[get (x:=x) (by simp[Op.operands])]
  split at h
  case h_2=>exact h.elim
  rename_i u ds q D hx
  rw[hx]
  simp only[ren]
  split at h
  case h_2=>exact h.elim
  rename_i v X F
  rw[F]
  have G:ren r v=v:=by
   cases q with
   |true=>cases F;simp only[ren,H7]
   |false=>
    match ds,F with
    |[d],F=>cases F;simp only[ren]
  refine⟨E D,Ye X,.mk' h ?_⟩
  cases ok with
  |true=>simp only[cond,ren,Ao,G]
  |false=>exact G.symm
 case extract x j=>
  simp only[A1]
  rw[get (x:=x) (by simp[Op.operands])]
  split at h
  ·rename_i vs hx
   rw[hx]
   simp only[ren,H5]
   rw[Cm]at h
   split at h
   ·rename_i y hy;rw[hy];exact .mk' h rfl
   grind
  ·grind
 case binOp o t x y u=>
  split at h
  ·rename_i i hi;simp only[A1];rw[get (x:=x) (by simp[Op.operands]),get (x:=y) (by simp[Op.operands])];exact ZpS (n _ _ hi) C A h
  ·grind
 case unOp o t x=>simp only[A1];rw[get (x:=x) (by simp[Op.operands])];exact Zrw A h
 case nilCheck x=>
  split at h
  ·rename_i k q off hx
   split at h
   ·rename_i hl
    simp only[A1]
    rw[get (x:=x) (by simp[Op.operands]),hx]
    obtain⟨O,Q,_,_,_⟩:=C.at hl
    simp only[ren,Jp]
    exact⟨O.symm▸rfl,Q,.mk' h (by simp[ren])⟩
   grind
  ·rename_i cs off hx
   simp only[A1]
   rw[get (x:=x) (by simp[Op.operands]),hx]
   simp only[ren,Jp]
   exact .mk' h (by simp[ren])
  ·grind
 case convert s d x=>
  split at h
  ·rename_i i j hi V;simp only[A1];rw[get (x:=x) (by simp[Op.operands])];exact ZmP (n _ _ hi) (n _ _ V) A h
  ·grind
 case makeFunc fn first B=>
  have m:first.toList.map w=Ao r (first.toList.map ρ):=gv fun x hx=>get (by simp only[Op.operands,Ot];exact .inl (by simpa using hx))
  have I:B.toList.map w=Ao r (B.toList.map ρ):=gv fun x hx=>get (by simp only[Op.operands,Ot];exact .inr (by simpa using hx))
  simp only[A1]
  rw[m,I]
  split at h
  ·grind
  ·rename_i L
   refine .mk' h ?_
   cases fn<;>first|exact absurd rfl (L _)|simp[ren]
 case slice t x lo hi mx=>
  split at h
  ·rename_i i J
   simp only[A1]
   rw[get (x:=x) (by simp[Op.operands]),ZoH (o:=lo) (fun y hy=>get (by subst hy;simp[Op.operands])),ZoH (o:=hi) (fun y hy=>get (by subst hy;simp[Op.operands]))]
   exact Zlt (n _ _ J) C A h
  ·grind
 case build t parts=>
  split at h
  ·rename_i i hi E
   simp only[A1]
   have e:(parts.toList.map fun p=>(p.1,w p.2))=(parts.toList.map fun p=>(p.1,ρ p.2)).map fun p=>(p.1,ren r p.2):=by
    rw[I8]
    refine Ez fun p M=>?_
    simp only[Function.comp]
    rw[get (x:=p.2) (by simp only[Op.operands,Ou,YX];exact⟨p,M,rfl⟩)]
   rw[e]
   refine Zlu (n _ _ hi) (fun p M=>?_) (fun z Y=>Lg ((n _ _ hi).flt z Y)) h
   obtain⟨q,hq,rfl⟩:=YX.1 M
   grind
  ·grind
 case lookup t x y ck=>
  split at h
  ·rename_i i hi;simp only[A1];rw[get (x:=x) (by simp[Op.operands]),get (x:=y) (by simp[Op.operands])];exact ZmL (n _ _ hi) C A h
  ·grind
 case call c=>
  split at h
  ·rename_i x t l hx W
   split at h
   ·rename_i i hi
    have m:c.args=#[x]:=C5 (by simpa using hx)
    have I:c.argTypes=#[t]:=C5 (by simpa using W)
    simp only[A1,l,m,I]
    show 1=1∧DX P H' t (w x) (KR r K)
    rw[get (x:=x) (by simp[Op.operands,Call.operands,l,m])]
    exact⟨rfl,Zpx (n _ _ hi) C A h⟩
   grind
  ·rename_i x y l hx
   have m:c.args=#[x,y]:=C5 (by simpa using hx)
   simp only[A1,l,m]
   show Ex false (w x) (w y) (KR r K)
   rw[get (x:=x) (by simp[Op.operands,Call.operands,l,m]),get (x:=y) (by simp[Op.operands,Call.operands,l,m])]
   exact Zlv h
  ·rename_i x y l hx
   have m:c.args=#[x,y]:=C5 (by simpa using hx)
   simp only[A1,l,m]
   show Ex true (w x) (w y) (KR r K)
   rw[get (x:=x) (by simp[Op.operands,Call.operands,l,m]),get (x:=y) (by simp[Op.operands,Call.operands,l,m])]
   exact Zlv h
  ·rename_i x y z l hx
   have m:c.args=#[x,y,z]:=C5 (by simpa using hx)
   simp only[A1,l,m]
   show Hx true (w x) (w y) (w z) (KR r K)
   rw[get (x:=x) (by simp[Op.operands,Call.operands,l,m]),get (x:=y) (by simp[Op.operands,Call.operands,l,m]),get (x:=z) (by simp[Op.operands,Call.operands,l,m])]
   unfold Hx at h
   split at h
   ·rename_i R S U
    rw[R,S,U]
    simp only[ren,Hx];exact .mk' h rfl
   grind
  ·grind
end
end Go.Eng
namespace Go.Eng
set_option linter.all false
open Go Go.RowKit
abbrev CQ:=List (Nat×Bool)
abbrev BQ:=List (Nat×CQ)
def lk:BQ→Nat→CQ
 |[],_=>[]
 |(i,c)::r,j=>match Nat.beq i j with|true=>c|false=>lk r j
def OZ(t:Bool):Bool→Bool
 |true=>t
 |false=>!t
theorem fD{t b:Bool}:OZ t b=true↔t=b:=by cases t<;>cases b<;>simp[OZ]
def KM:CQ→CQ→Bool
 |[],[]=>true
 |(i,a)::r,(j,b)::q=>Nat.beq i j&&OZ a b&&KM r q
 |_,_=>false
theorem gC:∀{a b:CQ},KM a b=true→a=b
 |[],[],_=>rfl
 |(i,a)::r,(j,b)::q,h=>by
  simp only[KM,Yd]at h
  rw[Ye h.1.1,fD.1 h.1.2,gC h.2]
 |[],_::_,h=>by simp[KM]at h
 |_::_,[],h=>by simp[KM]at h
def SS(a:CQ):CQ→Bool
 |[]=>KM a []
 |q::b=>KM a (q::b)||SS a b
theorem Zoa{a:CQ}:∀{b:CQ},SS a b=true→∀q∈a,q∈b
 |[],h,q,c=>by rw[gC h]at c;exact c
 |p::b,h,q,c=>by
  simp only[SS,YH]at h
  rcases h with h|h
  ·rw[gC h]at c;exact c
  ·exact Yy _ (Zoa h q c)
def CY(s:Nat→AV)(c:CQ):Prop:=∀q∈c,s q.1=.d (.bool q.2)
def Hh(s:Nat→AV):CQ→Option Bool
 |[]=>some true
 |[(d,b)]=>match s d with|.d (.bool t)=>some (OZ t b)|_=>none
 |(d,b)::r=>match s d,Hh s r with|.d (.bool t),some c=>some (c&&OZ t b)|_,_=>none
theorem MR{s:Nat→AV}:∀{c:CQ} {g:Bool},Hh s c=some g→(g=true↔CY s c)
 |[],g,h=>by simp only[Hh,Yk]at h;subst h;simp[CY]
 |[(d,b)],g,h=>by
  simp only[Hh]at h
  split at h
  ·rename_i t f
   simp only[Yk]at h
   subst h
   rw[fD]
   simp[CY,f]
  ·cases h
 |(d,b)::q::r,g,h=>by
  simp only[Hh]at h
  split at h
  ·rename_i t c f i
   simp only[Yk]at h
   subst h
   have j:=MR i
   rw[Yd,j,fD]
   constructor
   ·rintro⟨e,rfl⟩ p a
    rcases Yx.1 a with rfl|a
    ·exact f
    ·exact e p a
   ·intro e
    refine⟨fun p a=>e p (Yy _ a),?_⟩
    have:=e (d,b) (YB ..)
    grind
  ·cases h
def NB(e:Nat)(c:CQ):Bool:=c.all fun q=>!Nat.beq q.1 e
def fresh(e:Nat)(env:BQ):Bool:=env.all fun p=>NB e p.2
theorem ZnR{s:Nat→AV}{e:Nat}{v:AV}{c:CQ}(h:NB e c=true):CY (upd s e v) c↔CY s c:=by
 have key:∀q∈c,upd s e v q.1=s q.1:=fun q a=>by
  have:=Yu.1 h q a
  unfold upd
  rw[Ym]
  intro he
  subst he
  simp at this
 constructor
 ·exact fun h q a=>(key q a)▸h q a
 ·exact fun h q a=>(key q a).trans (h q a)
theorem ZoD{e:Nat}:∀{env:BQ},fresh e env=true→∀j,NB e (lk env j)=true
 |[],_,j=>rfl
 |(i,c)::r,h,j=>by
  simp only[fresh,I7,Yd]at h
  simp only[lk]
  split
  ·exact h.1
  ·exact ZoD h.2 j
theorem gp{env:BQ}{e:Nat}{c:CQ}(j:Nat):lk ((e,c)::env) j=if j=e then c else lk env j:=by
 simp only[lk]
 by_cases h:j=e
 ·subst h;simp
 ·rw[Ym h]
  split
  ·rename_i a;exact absurd (Ye a).symm h
  ·rfl
def IW(env:BQ)(c:CQ):Operand→Bool
 |.tmp t=>SS (lk env t) c
 |_=>true
def Ce(env:BQ)(c:CQ):Op→Bool
 |.pick (.tmp d) x y=>IW env c (.tmp d)&&IW env ((d,true)::c) x&&IW env ((d,false)::c) y
 |op=>op.operands.toList.all (IW env c)
structure RenOk (r:Ren) (l outs:Nat):Prop where
 own:∀d,r.κ (1,d)=(l+1,d)
 out:∀i,i<outs→(r.κ (0,i)).1≤l
 inj:∀i j,i<outs→j<outs→r.κ (0,i)=r.κ (0,j)→i=j
 no:∀k,r.no k→∃i,i<outs∧r.κ (0,i)=k
structure RG (r:Ren) (l outs:Nat) (env:BQ) (τ σ:St):Prop where
 s:∀j,(CY τ.s (lk env j)→σ.s j=ren r (τ.s j))∧(¬CY τ.s (lk env j)→σ.s j=.tup [])
 h:DB r τ.H σ.H
 g:∀d,(σ.H (l+1,d)).g=r.γ (1,d)+(τ.H (1,d)).g
 go:∀i,i<outs→(σ.H (r.κ (0,i))).g=r.γ (0,i)+(τ.H (0,i)).g
 k:∀k,(τ.H k).live=true→k.1=1∨(k.1=0∧k.2<outs)
 o:∀k:Ad,k.1≤l→¬r.no k→σ.H k=r.H0 k
def Ht(P:Program)(l:Nat)(r:Ren)(f:FuncId)(xs:List AV)(c:List (Ad×Blk))(x:AV):Prop:=
 ∀a,(∀p∈c,p.2.live=true→a (r.κ p.1)=AL r p.1 p.2)→(∀k:Ad,k.1≤l→¬r.no k→a k=r.H0 k)→Zc9 P f (l+1) (Ao r xs) a (fun y b=>y=ren r x∧b=a)
def NA(P:Program)(l:Nat)(r:Ren)(i:Nat)(xs:List AV)(d:List (Ad×Blk))(x:AV):Prop:=
 ∃f first a,r.θ i=.fn (.func f) first a∧∀b,(∀p∈d,p.2.live=true→b (r.κ p.1)=AL r p.1 p.2)→(∀k:Ad,k.1≤l→¬r.no k→b k=r.H0 k)→Zc9 P f (l+1) (first++Ao r xs++a) b (fun y c=>y=ren r x∧c=b)
def VQ(P:Program)(l:Nat)(r:Ren)(H:Hp)(f:AV)(xs:List AV)(g:Option Bool)(a:AT)(K:AV→AT→Prop):Prop:=
 match f,a with
 |.fn (.func i) first b,.call x ks a=>Bh g (Ht P l r i (first++xs++b) (ks.map fun k=>(k,H k)) x)∧K x a
 |.fn (.yield i) _ _,.call x ks a=>Bh g (NA P l r i xs (ks.map fun k=>(k,H k)) x)∧K x a
 |_,_=>False
def W8(T:Nat→Option TI)(τ:St)(t:TypeId)(len:Nat)(parts:List (Nat×Operand))(a:AT)(K:AV→AT→Prop):Prop:=
 match T t with
 |some i=>(match i.elm with
  |some (e,sz)=>(match Nat.ble 1 sz,len with
   |true,0=>(match parts with|[]=>K .e0 a|_=>False)
   |true,len+1=>(match T e,Nat.ble ((len+1)*sz) 16777216 with
    |some j,true=>(match j.zer with
     |some z=>(match Nat.beq z.length sz,Gh sz 0 (parts.map fun p=>(p.1,ev τ.s p.2))with
      |true,some es=>(match Nat.beq es.length (len+1)with|true=>K (.d (.list es)) a|false=>False)
      |_,_=>False)
     |none=>False)
    |_,_=>False)
   |_,_=>False)
  |none=>False)
 |none=>False
def pV(P:Program)(T:Nat→Option TI)(l:Nat)(r:Ren)(τ:St)(op:Op)(g:Option Bool)(a:AT)(K:AV→AT→Prop):Prop:=
 match op with
 |.call c=>match c.callee with
  |.value f=>VQ P l r τ.H (ev τ.s f) (c.args.toList.map (ev τ.s)) g a K
  |_=>tV T τ.H op (ev τ.s) g a K
 |.buildSlice t len parts=>W8 T τ t len parts.toList a K
 |op=>tV T τ.H op (ev τ.s) g a K
def Fs(n d:Nat)(K:St→AT→Prop)(τ:St)(v:AV)(a:AT):Prop:=
 match Nat.ble (d+1) n with
 |true=>K ⟨upd τ.s d v,τ.H⟩ a
 |false=>False
section
variable {P:Program} {T:Nat→Option TI} {r:Ren} {l n outs:Nat} {env:BQ} {τ σ:St} {g:Option Bool} {a:AT} {c:CQ}
theorem ZPU(v:Value):ren r (cv v)=cv v:=by unfold cv;split<;>simp[ren]
theorem Lw(h:RG r l outs env τ σ)(hs:CY τ.s c){x:Operand}(hx:IW env c x=true):ev σ.s x=ren r (ev τ.s x):=by
 cases x with
 |tmp t=>exact(h.s t).1 fun q a=>hs q (Zoa hx q a)
 |const v=>exact(ZPU v).symm
 |global g=>simp[ev,ren]
 |func f=>simp[ev,ren,Ao]
theorem Hf(h:RG r l outs env τ σ)(hs:CY τ.s c){op:Op}(hx:op.operands.toList.all (IW env c)=true):∀x∈op.operands,ev σ.s x=ren r (ev τ.s x):=
 fun x hm=>Lw h hs (Yu.1 hx x (by simpa using hm))
theorem n8(s:A8 P T)(h:RG r l outs env τ σ)(hs:CY τ.s c)(u:∀b,g=some b→b=true){op:Op}(hx:Ce env c op=true){K:AV→AT→Prop}(i:tV T τ.H op (ev τ.s) g a K):
  A1 P σ.H op (ev σ.s) (KR r K):=by
 unfold Ce at hx
 split at hx
 ·rename_i d x y
  simp only[Yd]at hx
  obtain⟨⟨n,o⟩,p⟩:=hx
  have f:=i
  simp only[tV]at f
  split at f
  ·rename_i t k
   have m:=Lw h hs n
   refine Ziz (T:=T) (H:=τ.H) (g:=g) (a:=a) k m (fun e=>Lw h (c:=(d,true)::c) ?_ o) (fun e=>Lw h (c:=(d,false)::c) ?_ p) i
   all_goals
    subst e
    intro q j
    rcases Yx.1 j with rfl|j
    ·exact k
    ·exact hs q j
  grind
 ·exact Zzk s h.h u (Hf h hs hx) i
theorem fF(h:RG r l outs env τ σ)(hs:CY τ.s c)(s:∀b,g=some b→b=true){cl:Call}{f:Operand}(o:cl.callee=.value f)(hx:Ce env c (.call cl)=true){K:AV→AT→Prop}
  (e:VQ P l r τ.H (ev τ.s f) (cl.args.toList.map (ev τ.s)) g a K):
  ∃i first d x j,ev σ.s f=.fn (.func i) first d∧Zc9 P i (l+1) (first++cl.args.toList.map (ev σ.s)++d) σ.H (fun y t=>y=ren r x∧t=σ.H)∧K x j:=by
 have hx:(Op.call cl).operands.toList.all (IW env c)=true:=hx
 have q:=Hf h hs hx f (by simp[Op.operands,Call.operands,o])
 have m:cl.args.toList.map (ev σ.s)=Ao r (cl.args.toList.map (ev τ.s)):=gv fun x hm=>Hf h hs hx x (by simp only[Op.operands,Call.operands,o,Ot];exact .inr (by simpa using hm))
 have n:∀ks:List Ad,∀p∈ks.map fun k=>(k,τ.H k),p.2.live=true→σ.H (r.κ p.1)=AL r p.1 p.2:=fun ks p e hl=>by
  obtain⟨k,A,rfl⟩:=YX.1 e
  exact h.h k hl
 unfold VQ at e
 split at e
 ·rename_i i first d x ks j he
  have v:Ht _ _ _ _ _ _ _:=Bu s e.1
  refine⟨i,Ao r first,Ao r d,x,j,by rw[q,he];simp[ren],?_,e.2⟩
  rw[m,←He,←He]
  exact v σ.H (n ks) h.o
 ·rename_i i xs ys x ks j he
  obtain⟨u,first,d,w,z⟩:NA _ _ _ _ _ _ _:=Bu s e.1
  refine⟨u,first,d,x,j,by rw[q,he];simp[ren,w],?_,e.2⟩
  rw[m]
  exact z σ.H (n ks) h.o
 grind
theorem RG.put(h:RG r l outs env τ σ){e:Nat}{ch:CQ}(b:fresh e env=true)(c:NB e ch=true){v:AV}{y:AV}(hy:CY τ.s ch→y=ren r v)(d:¬CY τ.s ch→y=.tup []):
  RG r l outs ((e,ch)::env) ⟨upd τ.s e v,τ.H⟩ ⟨upd σ.s e y,σ.H⟩:=by
 refine⟨fun j=>?_,h.h,h.g,h.go,h.k,h.o⟩
 simp only
 rw[gp]
 by_cases a:j=e
 ·subst a
  rw[Yj rfl,ZnR c]
  simp only[upd,Yq]
  grind
 ·rw[Ym a,ZnR (ZoD b j)]
  simp only[upd,Ym a]
  exact h.s j
end
section
variable {P:Program} {l n:Nat} {H:Hp} {m:Mu} {S:Nat→Prop} {w w':World} {s:Nat→AV} {a:Act}
theorem MEnt.push{q:Bool}{es:List (List D)}{ents:Array MapEntry}{a:Nat}{s:ByteArray}{ds:List D}{v:Value}(h:MEnt w S q es ents a)(g:VR w S q ds v):
  MEnt w S q (es++[.str s::ds]) (ents.push {key:=.string s,val:=v,born:=a }) (a+1):=by
 have b:∀(i:Nat) (y:MapEntry),(ents.push {key:=.string s,val:=v,born:=a })[i]?=some y→(i=ents.size∧y={key:=.string s,val:=v,born:=a })∨(i≠ents.size∧ents[i]?=some y):=fun i y hy=>by
  grind
 refine⟨by simp[h.n],fun i k y z hy j e=>?_,fun i y hy=>?_,fun i e y hi hy=>?_⟩
 ·rcases b i y hy with⟨rfl,rfl⟩|⟨a1,c⟩<;>rcases b k z j with⟨rfl,rfl⟩|⟨l,f⟩
  ·rfl
  ·have:=h.clk k z f;simp only at e;omega
  ·have:=h.clk i y c;simp only at e;omega
  ·exact h.born i k y z c f e
 ·rcases b i y hy with⟨rfl,rfl⟩|⟨a1,c⟩
  ·grind
  ·exact XB (h.clk i y c)
 ·rcases b i y hy with⟨rfl,rfl⟩|⟨a1,c⟩
  ·rw[h.n,YC (Yf _),Nat.sub_self]at hi
   cases hi
   exact⟨s,ds,rfl,rfl,g⟩
  ·have d:i<es.length:=by rw[←h.n];exact Px c
   rw[Ys d]at hi
   exact h.e i e y hi c
end
section
variable {P:Program} {l n:Nat} {B:Base} {H H':Hp} {m m':Mu} {S S':Nat→Prop} {w w':World} {s:Nat→AV} {a:Act} {K:St→Prop} {o:Oper}
theorem gh{k:Ad}{g:Nat}{v:Value}(h:RepA w S H m l (.mp k g) v)(b:g=(H k).g)(hl:(H k).live=true):k.1≤l∧v=.map (some (m k).b):=by
 cases h with
 |mpL _ c _=>exact⟨c,rfl⟩
 |mpD _ _ _ _ _ a _=>rw[a b]at hl;cases hl
end
def zn(x:EK)(e:Nat):Bool:=
 match x with
 |.t e'=>Nat.beq e' e
 |_=>false
theorem ZGH{x:EK}{e:Nat}(h:zn x e=true):x=.t e:=by
 cases x with
 |t e'=>rw[Ye (show Nat.beq e' e=true from h)]
 |_=>cases h
def Bz(a b:Ad):Bool:=Nat.beq a.1 b.1&&Nat.beq a.2 b.2
def AV.onef:AV→Bool
 |.top|.agg _|.tup _|.fn _ _ _=>false
 |_=>true
def Em(sz:Nat)(C:List AV)(y:AV)(c:Nat)(news:List AV):Prop:=
 news.all AV.onef=true∧match y with
 |.e0=>c=0∧news=[]
 |.d (.list es)=>(∀e∈es,e.length=sz)∧c=es.length∧news=es.flatten.map .d
 |.ref _ _ off n=>c=n∧(off+n)*sz≤C.length∧news=(C.drop (off*sz)).take (n*sz)
 |_=>False
def KY(C:List AV)(off a c sz byt:Nat)(news d:List AV)(b:Nat):Prop:=(off+a)*sz=C.length∧C.drop (off*sz)++news=d∧a+c=b∧b*byt≤140737488355328
def O1(c byt:Nat):Prop:=c*byt≤140737488355328
def LY(r:Ren)(k:Ad):Prop:=k.1=0∧r.no (r.κ k)
def F9(r:Ren)(k:Ad)(vs:List AV):Prop:=(Ao r vs).all (AV.low (r.κ k).1)=true
def Ki(r:Ren)(k:Ad)(vs:List AV)(A:Prop):Prop:=
 match Nat.beq k.1 1 with
 |true=>A
 |false=>LY r k∧F9 r k vs∧A
def HN(C:List AV)(off:Nat)(vs a:List AV):Prop:=off+vs.length≤C.length∧C.take off++vs++C.drop (off+vs.length)=a
def Je(n d:Nat)(e:TypeId)(sz:Nat)(cells:List AV)(x:Nat→AV)(K:St→AT→Prop)(τ:St)(a:AT):Prop:=
 match Nat.ble (d+1) n with
 |true=>K ⟨upd τ.s d (x ((τ.H (1,d)).g+1)),updH τ.H (1,d) ⟨(τ.H (1,d)).g+1,true,e,sz,cells⟩⟩ a
 |false=>False
def cellsOf(H:Hp):AV→List AV
 |.ref k g _ _=>match BU H k g with|true=>(H k).cells|false=>[]
 |_=>[]
def Wg(H:Hp)(sz:Nat):AV→Bool
 |.ref k g _ _=>BU H k g&&Nat.beq (H k).sz sz
 |_=>true
def cK(T:Nat→Option TI)(r:Ren)(n d:Nat)(t:TypeId)(x y:AV)(a:AT)(K:St→AT→Prop)(τ:St):Prop:=
 match T t with
 |some i=>match i.elm with
  |some (e,sz)=>match T e,Nat.ble 1 sz,Wg τ.H sz y with
   |some j,true,true=>(match j.byt,j.zer,x,a with
    |some byt,some _,.e0,.nat c (.cs news b)=>Em sz (cellsOf τ.H y) y c news∧O1 c byt∧Je n d e sz news (fun g=>.ref (1,d) g 0 c) K τ b
    |some byt,some _,.ref k q off l,.nat c (.cs news (.cs f (.nat h b)))=>(match BU τ.H k q,Nat.beq (τ.H k).sz sz,zn (τ.H k).e e,Nat.ble (d+1) n with
     |true,true,true,true=>Em sz (cellsOf τ.H y) y c news∧KY (τ.H k).cells off l c sz byt news f h∧Ki r k news (K ⟨upd τ.s d (.ref k (q+1) 0 h),updH τ.H k ⟨q+1,true,e,sz,f⟩⟩ b)
     |_,_,_,_=>False)
    |_,_,_,_=>False)
   |_,_,_=>False
  |none=>False
 |none=>False
def Qj(r:Ren)(n:Nat)(i:TI)(x:AV)(vs:Option (List AV))(a:AT)(K:St→AT→Prop)(τ:St):Prop:=
 match x,vs with
 |.ptr k q off,some vs=>match BU τ.H k q,Nat.beq vs.length i.siz,Nat.ble 1 vs.length with
  |true,true,true=>(match a with
   |.go b=>(match Nat.ble (off+vs.length) (τ.H k).cells.length with
    |true=>Ki r k vs (K ⟨τ.s,updH τ.H k ⟨q,true,(τ.H k).e,(τ.H k).sz,(τ.H k).cells.take off++vs++(τ.H k).cells.drop (off+vs.length)⟩⟩ b)
    |false=>False)
   |.cs c b=>HN (τ.H k).cells off vs c∧Ki r k vs (K ⟨τ.s,updH τ.H k ⟨q,true,(τ.H k).e,(τ.H k).sz,c⟩⟩ b)
   |_=>False)
  |_,_,_=>False
 |_,_=>False
def Xu(c a:Int)(byt m:Nat)(z C:List AV):Prop:=c=(m:Int)∧c≤a∧(byt:Int)*a≤140737488355328∧(List.replicate m z).flatten=C
def KV(P:Program)(T:Nat→Option TI)(l n:Nat)(r:Ren)(o:Oper)(a:AT)(K:St→AT→Prop)(τ:St):Prop:=
 match o.op with
 |.alloc t=>match o.dst,T t with
  |some d,some i=>(match i.zer with|some (z::f)=>Je n d t (f.length+1) (z::f) (fun g=>.ptr (1,d) g 0) K τ a|_=>False)
  |_,_=>False
 |.box t x=>match o.dst,CT (ev τ.s x),Js (ev τ.s x)with
  |some d,some (z::f),true=>Je n d t (f.length+1) (z::f) (fun g=>.ptr (1,d) g 0) K τ a
  |_,_,_=>False
 |.store t p x=>match o.dst,T t,Js (ev τ.s x)with
  |none,some i,true=>Qj r n i (ev τ.s p) (CT (ev τ.s x)) a K τ
  |_,_,_=>False
 |.buildSlice t len parts=>match o.dst,T t with
  |some d,some i=>(match i.elm with
   |some (e,sz)=>(match Nat.ble 1 sz,len with
    |true,0=>(match parts.toList with|[]=>Fs n d K τ .e0 a|_=>False)
    |true,len+1=>(match T e,Nat.ble ((len+1)*sz) 16777216 with
     |some j,true=>(match j.zer with
      |some z=>(match Nat.beq z.length sz,Gh sz 0 (parts.toList.map fun p=>(p.1,ev τ.s p.2))with
       |true,some es=>(match Nat.beq es.length (len+1)with|true=>Fs n d K τ (.d (.list es)) a|false=>False)
       |_,_=>False)
      |none=>False)
     |_,_=>False)
    |_,_=>False)
   |none=>False)
  |_,_=>False
 |.makeSlice t x y=>match o.dst,T t,ev τ.s x,ev τ.s y,a with
  |some d,some i,.d (.int _ c),.d (.int _ h),.nat m (.cs C b)=>(match i.elm with
   |some (e,sz)=>(match T e,Nat.ble 1 sz with
    |some j,true=>(match j.zer,j.byt with
     |some z,some byt=>(match Nat.beq z.length sz with
      |true=>Xu c h byt m z C∧Je n d e sz C (fun g=>.ref (1,d) g 0 m) K τ b
      |false=>False)
     |_,_=>False)
    |_,_=>False)
   |none=>False)
  |_,_,_,_,_=>False
 |.call c=>match c.callee with
  |.builtin .append=>(match o.dst,c.args.toList,c.argTypes.toList with
   |some d,[x,y],[t,k]=>(match Nat.beq t k with|true=>cK T r n d t (ev τ.s x) (ev τ.s y) a K τ|false=>False)
   |_,_,_=>False)
  |_=>(match o.dst with|some d=>pV P T l r τ o.op none a (Fs n d K τ)|none=>False)
 |_=>match o.dst with|some d=>pV P T l r τ o.op none a (Fs n d K τ)|none=>False
def S3(n:Nat)(K:St→AT→Prop)(s:Nat→AV)(H:Hp)(v:AV)(b:AT):Option Nat→Prop
 |some d=>match Nat.ble (d+1) n with|true=>K ⟨upd s d v,H⟩ b|false=>False
 |none=>K ⟨s,H⟩ b
def qd(T:Nat→Option TI)(r:Ren)(n:Nat)(d:Option Nat)(t l:Nat)(x y:AV)(a:AT)(K:St→AT→Prop)(τ:St):Prop:=
 match T t,T l with
 |some i,some h=>match i.elm,h.elm with
  |some (e,sz),some (e',f)=>match Nat.beq e e',Nat.beq sz f,T e,Nat.ble 1 sz,Wg τ.H sz y with
   |true,true,some j,true,true=>(match j.zer,x,a with
    |some _,.ref k q off cn,.nat c (.cs news (.cs g b))=>(match BU τ.H k q,Nat.beq (τ.H k).sz sz with
     |true,true=>Em sz (cellsOf τ.H y) y c news∧c≤cn∧HN (τ.H k).cells (off*sz) news g∧Ki r k news (S3 n K τ.s (updH τ.H k ⟨q,true,(τ.H k).e,(τ.H k).sz,g⟩) (.d (.int .i64 c)) b d)
     |_,_=>False)
    |_,_,_=>False)
   |_,_,_,_,_=>False
  |_,_=>False
 |_,_=>False
def ce(C:List AV)(off cn sz:Nat)(z a:List AV):Prop:=(off+cn)*sz≤C.length∧C.take (off*sz)++(List.replicate cn z).flatten++C.drop ((off+cn)*sz)=a
def lF(T:Nat→Option TI)(r:Ren)(t:Nat)(x:AV)(a:AT)(K:St→AT→Prop)(τ:St):Prop:=
 match T t with
 |some i=>match i.elm with
  |some (e,sz)=>match T e,Nat.ble 1 sz with
   |some j,true=>(match j.zer,x,a with
    |some z,.ref k q off cn,.cs c b=>(match BU τ.H k q,Nat.beq (τ.H k).sz sz,Nat.beq z.length sz with
     |true,true,true=>ce (τ.H k).cells off cn sz z c∧Ki r k z (K ⟨τ.s,updH τ.H k ⟨q,true,(τ.H k).e,(τ.H k).sz,c⟩⟩ b)
     |_,_,_=>False)
    |_,_,_=>False)
   |_,_=>False
  |none=>False
 |none=>False
def Jw(P:Program)(T:Nat→Option TI)(l n:Nat)(r:Ren)(o:Oper)(a:AT)(K:St→AT→Prop)(τ:St):Prop:=
 match o.op with
 |.call c=>(match c.callee with
  |.builtin .copy=>(match c.args.toList,c.argTypes.toList with|[x,y],[t,b]=>qd T r n o.dst t b (ev τ.s x) (ev τ.s y) a K τ|_,_=>False)
  |.builtin .clear=>(match c.args.toList,c.argTypes.toList,o.dst with|[x],[t],none=>lF T r t (ev τ.s x) a K τ|_,_,_=>False)
  |_=>KV P T l n r o a K τ)
 |_=>KV P T l n r o a K τ
def ly(T:Nat→Option TI)(n:Nat)(b:Option Nat)(t len:Nat)(vs:List (Nat×AV))(a:AT)(K:St→AT→Prop)(τ:St):Prop:=
 match b,T t with
 |some d,some i=>(match i.elm with
  |some (e,sz)=>(match T e,Nat.ble 1 sz,Nat.ble ((len+1)*sz) 16777216 with
   |some j,true,true=>(match j.zer with
    |some z=>(match Nat.beq z.length sz,Cy (fun i=>some (i*sz,sz)) (List.replicate (len+1) z).flatten vs,vs.all (fun p=>Js p.2)with
     |true,some cs,true=>(match z.all AV.flat with|true=>Je n d e sz cs (fun g=>.ref (1,d) g 0 (len+1)) K τ a|false=>False)
     |_,_,_=>False)
    |none=>False)
   |_,_,_=>False)
  |none=>False)
 |_,_=>False
def K2(P:Program)(T:Nat→Option TI)(l n:Nat)(r:Ren)(o:Oper)(a:AT)(K:St→AT→Prop)(τ:St):Prop:=
 match o.op with
 |.buildSlice t (len+1) parts=>(match a with
  |.go b=>ly T n o.dst t len (parts.toList.map fun p=>(p.1,ev τ.s p.2)) b K τ
  |.sep b=>Jw P T l n r o b K τ
  |a=>Jw P T l n r o a K τ)
 |_=>Jw P T l n r o a K τ
def ZYE(s:ByteArray)(ds:List D)(b a:List (List D)):Prop:=IN s ds b=a
def ZYM(s:ByteArray)(b a:List (List D)):Prop:=IF s b=a
def K5(P:Program)(T:Nat→Option TI)(l n:Nat)(r:Ren)(o:Oper)(a:AT)(K:St→AT→Prop)(τ:St):Prop:=K2 P T l n r o a K τ
def Dx(env:BQ):Option Nat→BQ
 |some d=>(d,[])::env
 |none=>env
def FZ(env:BQ):Option Nat→Bool
 |some d=>fresh d env
 |none=>true
def Gi(P:Program)(T:Nat→Option TI)(l n:Nat)(r:Ren)(ds:List (Option Nat)):List Oper→BQ→AT→(St→BQ→AT→Prop)→St→Prop
 |[],env,a,K,τ=>K τ env a
 |o::c,env,a,K,τ=>match o.guard with
  |none=>(match Ce env [] o.op,FZ env o.dst with
   |true,true=>K5 P T l n r o a (fun τ' f=>Gi P T l n r ds c (Dx env o.dst) f K τ') τ
   |_,_=>False)
  |some (i,b)=>(match Bk ds i,o.dst with
   |some (some d),some e=>(match Hh τ.s ((d,b)::lk env d),Ce env ((d,b)::lk env d) o.op,fresh e env&&NB e ((d,b)::lk env d),Nat.ble (e+1) n with
    |some g,true,true,true=>pV P T l r τ o.op (some g) a (fun v f=>Gi P T l n r ds c ((e,(d,b)::lk env d)::env) f K ⟨upd τ.s e v,τ.H⟩)
    |_,_,_,_=>False)
   |_,_=>False)
def cV(P:Program)(T:Nat→Option TI)(l n:Nat)(r:Ren)(o:Oper)(a:AT)(K:St→AT→Prop)(τ:St):Prop:=
 match o.op,o.dst with
 |.buildSlice t (len+1) ps,some d=>pV P T l r τ (.buildSlice t (len+1) ps) none a (Fs n d K τ)
 |_,_=>K5 P T l n r o a K τ
def Hn(P:Program)(T:Nat→Option TI)(l n:Nat)(r:Ren)(ds:List (Option Nat)):List Oper→BQ→AT→(St→BQ→AT→Prop)→St→Prop
 |[],env,a,K,τ=>K τ env a
 |o::c,env,a,K,τ=>match o.guard with
  |none=>(match Ce env [] o.op,FZ env o.dst with
   |true,true=>cV P T l n r o a (fun τ' f=>Hn P T l n r ds c (Dx env o.dst) f K τ') τ
   |_,_=>False)
  |some (i,b)=>(match Bk ds i,o.dst with
   |some (some d),some e=>(match Hh τ.s ((d,b)::lk env d),Ce env ((d,b)::lk env d) o.op,fresh e env&&NB e ((d,b)::lk env d),Nat.ble (e+1) n with
    |some g,true,true,true=>pV P T l r τ o.op (some g) a (fun v f=>Hn P T l n r ds c ((e,(d,b)::lk env d)::env) f K ⟨upd τ.s e v,τ.H⟩)
    |_,_,_,_=>False)
   |_,_=>False)
section
variable {P:Program} {T:Nat→Option TI} {r:Ren} {l n outs:Nat} {B:Base} {env:BQ} {τ σ:St} {a:AT} {o:Oper}
theorem R.adopt{act:Act}{w:World}{d:Nat}{e:TypeId}{sz:Nat}{s:Nat→AV}{H:Hp}(h:R l n B ⟨s,H⟩ act w)(k:Ad)(P:k.1=l+1)(g:Nat)(M:(H k).g<g)(L:s d=.e0):R l n B ⟨upd s d (.ref k g 0 0),updH H k ⟨g,true,e,sz,[]⟩⟩ act w:=by
 obtain⟨m,S,o,N,u,D,hex⟩:=h.un
 have c:Ext (l+1) H m S w (updH H k ⟨g,true,e,sz,[]⟩) (Be m k ⟨0,0,0⟩) S w:=by
  refine⟨fun _ h=>h,fun _ _=>rfl,fun q f=>?_,fun q f E hl=>?_,rfl,rfl,rfl,Yf _⟩
  ·by_cases a:q=k
   ·subst a;rw[AX];simp only;omega
   ·rw[AR _ _ a];exact Yf _
  ·by_cases a:q=k
   ·subst a;rw[AX]at E;simp only at E;omega
   ·rw[AR _ _ a]at hl⊢;rw[A9 _ _ a];exact⟨hl,rfl,rfl⟩
 have t:Ok (l+1) (updH H k ⟨g,true,e,sz,[]⟩) (Be m k ⟨0,0,0⟩) S w:=by
  refine⟨o.sub,fun q f hl b=>?_,fun q f hl b=>?_,fun q G f y hl r b j he=>?_,fun q f hl b=>?_,o.mp.upd (Yf _) k _ rfl (fun q e=>A9 _ _ e) (fun _ h=>h) (fun _ h=>.inl h) (fun _ _=>rfl) (fun _ _ h _=>h)⟩
  ·by_cases a:q=k
   ·subst a;rw[AX]
   ·rw[AR _ _ a]at hl⊢;rw[A9 _ _ a]at b;exact o.empty q f hl b
  ·by_cases a:q=k
   ·subst a;rw[A5]at b;exact absurd rfl b
   ·rw[AR _ _ a]at hl;rw[A9 _ _ a]at b⊢;exact o.fresh q f hl b
  ·have p:q≠k:=by rintro rfl;rw[A5]at b;exact b rfl
   have A:G≠k:=by rintro rfl;rw[A5]at j;exact j rfl
   rw[AR _ _ p]at hl;rw[AR _ _ A]at r
   rw[A9 _ _ p]at b he;rw[A9 _ _ A]at j he
   exact o.inj q G f y hl r b j he
  ·have p:q≠k:=by rintro rfl;rw[A5]at b;exact b rfl
   rw[AR _ _ p]at hl⊢;rw[A9 _ _ p]at b⊢
   obtain⟨C,I,J,K,z⟩:=o.blk q f hl b
   exact⟨C,I,J,K,fun i x v hi F=>⟨(z i x v hi F).1,(z i x v hi F).2.ext c f⟩⟩
 refine⟨_,_,t,N,u,fun i=>?_,hex.trans (c.mono (by omega))⟩
 simp only[upd]
 by_cases hi:i=d
 ·subst hi
  rw[Yj rfl]
  have:=D i
  rw[L]at this
  generalize act.tmps.getD i Go.undef=v at this⊢
  cases this with
  |e0 O=>
   have:=RepA.refL (w:=w) (S:=S) (H:=updH H k ⟨g,true,e,sz,[]⟩) (m:=Be m k ⟨0,0,0⟩) (l:=l+1) k 0 0 O (by omega) (by rw[AX]) (by rw[A5];simp) (fun h=>by rw[A5]at h;simp at h)
   rw[AX,A5]at this
   exact this
 ·rw[Ym hi]
  exact(D i).ext c (Yf _)
def KI(r:Ren)(outs:Nat)(k:Ad):Prop:=k.1=1∨(k.1=0∧k.2<outs∧r.no (r.κ k))
theorem RenOk.ne(a:RenOk r l outs){q k:Ad}(f:q.1=1∨(q.1=0∧q.2<outs))(e:k.1=1∨(k.1=0∧k.2<outs))(b:q≠k):r.κ q≠r.κ k:=fun he=>by
 obtain⟨i,j⟩:=q
 obtain⟨g,h⟩:=k
 simp only at f e
 rcases f with rfl|⟨rfl,c⟩<;>rcases e with rfl|⟨rfl,d⟩
 ·rw[a.own,a.own]at he;simp at he;exact b (by rw[he])
 ·rw[a.own]at he;have:=a.out _ d;rw[←he]at this;simp at this;omega
 ·rw[a.own]at he;have:=a.out _ c;rw[he]at this;simp at this;omega
 ·exact b (by rw[a.inj _ _ c d he])
theorem KI.lk{k:Ad}(h:KI r outs k):k.1=1∨(k.1=0∧k.2<outs):=by
 rcases h with h|⟨a,b,_⟩
 ·grind
 grind
theorem RG.updK(j:RenOk r l outs)(h:RG r l outs env τ σ)(k:Ad)(b m:Blk)(p:b.live=true→m=AL r k b)(o:m.g=r.γ k+b.g)(g:KI r outs k):
  RG r l outs env ⟨τ.s,Go.Eng.updH τ.H k b⟩ ⟨σ.s,Go.Eng.updH σ.H (r.κ k) m⟩:=by
 have f:=g.lk
 refine⟨h.s,fun q c=>?_,fun d=>?_,fun i hi=>?_,fun q c=>?_,fun q c s=>?_⟩
 ·simp only at c⊢
  by_cases e:q=k
  ·subst e;rw[AX]at c⊢;rw[AX];exact p c
  ·rw[AR _ _ e]at c⊢;rw[AR _ _ (j.ne (h.k _ c) f e)];exact h.h q c
 ·simp only
  by_cases a:((1,d):Ad)=k
  ·subst a;rw[AX,j.own,AX];exact o
  ·have n:((l+1,d):Ad)≠r.κ k:=by rw[←j.own d];exact j.ne (.inl rfl) f a
   rw[AR _ _ a,AR _ _ n]
   exact h.g d
 ·simp only
  by_cases a:((0,i):Ad)=k
  ·subst a;rw[AX,AX];exact o
  ·rw[AR _ _ a,AR _ _ (j.ne (.inr ⟨rfl,hi⟩) f a)]
   exact h.go i hi
 ·simp only at c
  by_cases e:q=k
  ·grind
  ·rw[AR _ _ e]at c;exact h.k q c
 ·simp only
  have n:q≠r.κ k:=by
   rintro rfl
   rcases g with g|⟨_,_,g⟩
   ·obtain⟨t,u⟩:=k
    simp only at g
    subst g
    rw[j.own]at c
    grind
   grind
  rw[AR _ _ n]
  exact h.o q c s
theorem RG.updH(c:RenOk r l outs)(h:RG r l outs env τ σ)(k:Ad)(b:Blk)(d:b.live=true)(a:KI r outs k):
  RG r l outs env ⟨τ.s,Go.Eng.updH τ.H k b⟩ ⟨σ.s,Go.Eng.updH σ.H (r.κ k) (AL r k b)⟩:=RG.updK c h k b _ (fun _=>rfl) rfl a
theorem VF(i:RenOk r l outs)(h:RG r l outs env τ σ){k:Ad}(hl:(τ.H k).live=true){vs:List AV}{A:Prop}(b:Ki r k vs A):A∧KI r outs k∧((r.κ k).1=l+1∨(Ao r vs).all (AV.low (r.κ k).1)=true):=by
 unfold Ki at b
 split at b
 ·rename_i a
  have a:=Ye a
  obtain⟨j,m⟩:=k
  simp only at a
  subst a
  exact⟨b,.inl rfl,.inl (by rw[i.own])⟩
 ·obtain⟨⟨d,e⟩,f,g⟩:=b
  rcases h.k k hl with c|⟨_,c⟩
  ·omega
  ·exact⟨g,.inr ⟨d,c,e⟩,.inr f⟩
theorem A4{s:Nat→AV}:CY s []:=fun q a=>by cases a
theorem RG.put0(h:RG r l outs env τ σ){d:Nat}(a:fresh d env=true){v y:AV}(hy:y=ren r v):RG r l outs ((d,[])::env) ⟨upd τ.s d v,τ.H⟩ ⟨upd σ.s d y,σ.H⟩:=
 h.put a rfl (fun _=>hy) (fun b=>absurd A4 b)
def Lx(r:Ren)(l outs:Nat)(env:BQ)(K:St→AT→Prop)(σ:St):Prop:=∃τ a,K τ a∧RG r l outs env τ σ
theorem MU(i:RenOk r l outs)(h:RG r l outs env τ σ){K:St→AT→Prop}{d:Nat}(m:fresh d env=true){e:TypeId}{sz:Nat}{cells:List AV}{x x':Nat→AV}(hx:∀g,x' (r.γ (1,d)+g)=ren r (x g))(b:Je n d e sz cells x K τ a):
  Ek l n d e sz (Ao r cells) x' (Lx r l outs ((d,[])::env) K) σ:=by
 unfold Je at b
 split at b
 ·rename_i f
  have f:=Yh f
  refine⟨by omega,_,_,b,?_⟩
  have k:=h.put0 (v:=x ((τ.H (1,d)).g+1)) (y:=x' ((σ.H (l+1,d)).g+1)) m (by rw[h.g,YI];exact hx _)
  have c:=RG.updH i k (1,d) ⟨(τ.H (1,d)).g+1,true,e,sz,cells⟩ rfl (.inl rfl)
  have j:AL r (1,d) ⟨(τ.H (1,d)).g+1,true,e,sz,cells⟩=⟨(σ.H (l+1,d)).g+1,true,e,sz,Ao r cells⟩:=by
   simp only[AL,h.g,YI]
  rw[j,i.own]at c
  exact c
 grind
theorem Uf{K:St→AT→Prop}(h:RG r l outs env τ σ){d:Nat}(c:fresh d env=true){y:AV}(hy:KR r (Fs n d K τ) y):d<n∧Lx r l outs ((d,[])::env) K ⟨upd σ.s d y,σ.H⟩:=by
 obtain⟨v,e,rfl,a⟩:=hy
 unfold Fs at a
 split at a
 ·rename_i b
  have b:=Yh b
  exact⟨by omega,_,_,a,h.put0 c rfl⟩
 grind
section
variable {H:Hp} {K K':AV→Prop} {t:TypeId} {x y:AV}
theorem fJ(a:∀y,K y→K' y)(h:EJ P H t x K):EJ P H t x K':=by
 unfold EJ at h⊢
 split at h
 ·grind
 ·grind
 grind
theorem ZiT{i:Nat}(a:∀y,K y→K' y)(h:Ff P H t i x K):Ff P H t i x K':=by
 unfold Ff at h⊢
 grind
theorem Zpe{i:Nat}(a:∀y,K y→K' y)(h:Fj P t i x K):Fj P t i x K':=by
 unfold Fj at h⊢
 split at h
 ·split at h
  ·grind
  grind
 grind
theorem ZiQ(a:∀y,K y→K' y)(h:EB P H t x y K):EB P H t x y K':=by
 unfold EB at h⊢
 grind
theorem Zpn(a:∀y,K y→K' y)(h:FX P t x y K):FX P t x y K':=by
 unfold FX at h⊢
 grind
theorem Zo7{neg:Bool}(a:∀y,K y→K' y)(h:DZ H neg x K):DZ H neg x K':=by
 unfold DZ at h⊢
 grind
theorem Zw0{op:BinOp}{b:Bool}(a:∀y,K y→K' y)(h:CI P H op t b x y K):CI P H op t b x y K':=by
 unfold CI at h⊢
 split at h
 ·exact⟨h.1,Zle a h.2⟩
 ·exact Zln a h
 ·grind
 ·unfold HF at h⊢
  split at h
  ·split at h
   ·grind
   grind
  grind
 ·refine⟨h.1,h.2.1,?_⟩
  replace h:=h.2.2
  split at h
  ·exact Zo7 a h
  ·exact Zo7 a h
  grind
 grind
theorem ZGZ{op:UnOp}(a:∀y,K y→K' y)(h:EX op x K):EX op x K':=by
 unfold EX at h⊢
 grind
theorem ZqF{u:TypeId}(a:∀y,K y→K' y)(h:Fk P t u x K):Fk P t u x K':=by
 unfold Fk at h⊢
 grind
theorem Zqg{lo hi:Option AV}{a:Bool}(b:∀y,K y→K' y)(h:EF P H t x lo hi a K):EF P H t x lo hi a K':=by
 unfold EF at h⊢
 grind
theorem Zxf(a:∀y,K y→K' y)(h:DX P H t x K):DX P H t x K':=by
 unfold DX at h⊢
 grind
theorem Zqe{ps:List (Nat×AV)}(a:∀y,K y→K' y)(h:FY P t ps K):FY P t ps K':=by
 unfold FY at h⊢
 grind
theorem Uv{op:Op}{ρ:Operand→AV}(d:∀y,K y→K' y)(h:A1 P H op ρ K):A1 P H op ρ K':=by
 cases op<;>simp only[A1]at h⊢<;>try exact h.elim
 case move x=>exact d _ h
 case assign x=>exact d _ h
 case pick c a b=>
  split at h
  ·grind
  ·grind
 case load=>exact fJ d h
 case fieldAddr=>exact ZiT d h
 case field=>exact Zpe d h
 case indexAddr=>exact ZiQ d h
 case index=>exact Zpn d h
 case extract=>
  split at h
  ·grind
  ·grind
 case makeInterface=>
  refine⟨h.1,?_⟩
  replace h:=h.2
  repeat' split at h
  all_goals first|exact h.elim|exact d _ h
 case typeAssert=>
  refine⟨h.1,?_⟩
  replace h:=h.2
  repeat' split at h
  all_goals first|exact h.elim|exact⟨h.1,d _ h.2⟩
 case binOp=>exact Zw0 d h
 case unOp=>exact ZGZ d h
 case convert=>exact ZqF d h
 case nilCheck=>
  unfold Jp at h⊢
  split at h
  ·grind
  ·grind
  ·grind
 case makeFunc=>exact d _ h
 case slice=>exact Zqg d h
 case build=>exact Zqe d h
 case lookup=>exact ZlV d h
 case call c=>
  split at h
  ·exact⟨h.1,Zxf d h.2⟩
  ·split at h
   ·unfold Ex at h⊢
    grind
   ·unfold Hx at h⊢
    grind
   grind
  ·grind
end
end
end Go.Eng
