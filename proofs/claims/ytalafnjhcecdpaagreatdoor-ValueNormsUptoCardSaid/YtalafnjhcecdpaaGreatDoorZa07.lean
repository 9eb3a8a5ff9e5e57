import Derived.Test.YtalafnjhcecdpaaGreatDoorZa06
import Derived.Test.YtalafnjhcecdpaaGreatDoorZa04
import Derived.Test.YtalafnjhcecdpaaGreatDoorZa00
namespace Go.Eng
set_option linter.all false
open Go Go.RowKit
section
variable {P:Program} {T:Nat->Option TI} {r:Ren} {l n outs:Nat} {B:Base} {env:BI} {τ σ:St} {a:AT} {o:Oper}
theorem lH{H:Hp}{op:Op}{ρ:Operand->AV}{g:Option Bool}{K:AV->AT->Prop}(h:tV T H op ρ g a K):∃v b,K v b:=by
 have fin:∀{v b},K v b->∃v b,K v b:=λh=>⟨_,_,h⟩;cases op<;>simp only[tV]at h<;>try exact h.elim
 case move x=>exact fin h
 case assign x=>exact fin h
 case pick c x y=>split at h<;>first|exact fin h|exact h.elim
 case load t x=>
  split at h
  ·unfold N3 at h
   repeat' split at h
   all_goals first|exact h.elim|exact fin h|exact fin h.2
  ·grind
 case fieldAddr t x f=>
  split at h
  ·unfold Uj at h;grind
  ·grind
 case field t x f=>
  split at h
  ·unfold Vg at h;grind
  ·grind
 case indexAddr t x j=>
  split at h
  ·unfold Ug at h;grind
  ·grind
 case index t x j=>
  split at h
  ·unfold Vb at h;grind
  ·grind
 case extract x j=>
  repeat' split at h
  all_goals first|exact h.elim|exact fin h
 case makeInterface t x=>
  repeat' split at h
  all_goals first|exact h.elim|exact fin h
 case typeAssert x u t ok=>
  repeat' split at h
  all_goals first|exact h.elim|exact fin h
 case binOp o t x y u=>
  split at h
  ·unfold Tn at h;split at h
   ·split at h
    ·unfold SW at h;grind
    grind
   ·unfold SD at h;grind
   ·grind
   ·grind
   ·split at h
    ·have nl:∀{neg:Bool} {x:AV},MN H neg x a K->∃v b,K v b:=fun {neg x} h=>by
      unfold MN at h
      repeat' split at h
      all_goals first|exact h.elim|exact fin (h true)|exact fin (h neg (λ_=>rfl))
     grind
    grind
   grind
  ·grind
 case unOp o t x=>
  unfold W4 at h
  repeat' split at h
  all_goals first|exact h.elim|exact fin h|exact fin h.2
 case nilCheck x=>
  split at h
  ·grind
  ·grind
  ·grind
 case convert s d x=>
  split at h
  ·unfold Wr at h;grind
  ·grind
 case makeFunc fn first e=>split at h<;>first|exact h.elim|exact fin h
 case slice t x lo hi k=>
  split at h
  ·unfold Vr at h;grind
  ·grind
 case build t parts=>
  split at h
  ·unfold Vk at h;grind
  ·grind
 case lookup t x y i=>
  split at h
  ·unfold Wy at h;grind
  ·grind
 case call c=>
  split at h
  ·split at h
   ·unfold TB at h;grind
   grind
  ·unfold Ey at h;grind
  ·unfold Ey at h;grind
  ·unfold HJ at h;grind
  ·grind
theorem Wv{op:Op}{g:Option Bool}{K:AV->AT->Prop}(h:pV P T l r τ op g a K):∃v b,K v b:=by
 unfold pV at h;split at h
 ·split at h
  ·unfold We at h;grind
  ·exact lH h
 ·unfold WP at h
  repeat' split at h
  all_goals first|exact h.elim|exact⟨_,_,h⟩
 ·exact lH h
def Yl(r:Ren)(e:Nat)(K:AV->AT->Prop)(σ b:St):Prop:=∃v a,b=⟨upd σ.s e (ren r v),σ.H⟩/\K v a
theorem fA(E:Ba P T)(h:RG r l outs env τ σ){c:C6}(hs:C7 τ.s c){g:Option Bool}(M:∀b,g=some b->b=true){e:Nat}{op:Op}{ty:TypeId}{ps:String}{af:Array Edge}{gd:Option (Nat×Bool)}
  (hx:Cr env c op=true) (q:e<n) {K:AV->AT->Prop} (d:pV P T l r τ op g a K):BA P l n ⟨some e,op,ty,ps,af,gd⟩ (Yl r e K σ) σ:=by
 have val:tV T τ.H op (ev τ.s) g a K->BA P l n ⟨some e,op,ty,ps,af,gd⟩ (Yl r e K σ) σ=A7 P σ.H op (ev σ.s) (CM n (some e) (Yl r e K σ) σ)->BA P l n ⟨some e,op,ty,ps,af,gd⟩ (Yl r e K σ) σ:=λC D=>by rw[D];exact UJ (λy ⟨v,A,u,B⟩=>⟨q,v,A,by rw[u],B⟩) (uS E h hs M hx C)
 unfold pV at d;split at d
 ·rename_i c;split at d
  ·rename_i f k;obtain⟨i,first,L,x,A,u,B,O⟩:=dU h hs M k hx d;simp only[BA,k,u];exact B.mono λy V ⟨C,D⟩=>by subst C;subst D;exact⟨q,x,A,rfl,O⟩
  ·rename_i G;refine val d ?_;cases k:c.callee with
   |value f=>exact absurd k (G f)
   |invoke x m=>simp only[tV,k]at d
   |builtin b=>
    cases b<;>simp only[tV,k]at d<;>simp only[BA,k]
 ·rename_i t len parts;have I:(Op.buildSlice t len parts).operands.toList.all (Jd env c)=true:=hx;have u:(parts.toList.map λp=>(p.1,ev σ.s p.2))=(parts.toList.map λp=>(p.1,ev τ.s p.2)).map λp=>(p.1,ren r p.2):=by rw[Jv];refine Fa λp d=>?_;simp only[Function.comp];rw[GF h hs I p.2 (by simp only[Op.operands,OT,YV];exact⟨p,d,rfl⟩)]
  unfold WP at d;split at d
  case h_2=>exact d.elim
  rename_i i hi;split at d
  case h_2=>exact d.elim
  rename_i e' sz he;simp only[BA,(E _ _ hi).elm _ he];split at d
  ·rename_i o;have o:=Yj o;refine⟨ae,?_⟩;split at d
   ·rename_i H;exact⟨by rw[<-Gt,H];rfl,q,.e0,a,by simp[ren],d⟩
   grind
  ·rename_i N o;have o:=Yj o;refine⟨ae,?_⟩;split at d
   case h_2=>exact d.elim
   rename_i j S w;split at d
   case h_2=>exact d.elim
   rename_i z U;split at d
   case h_2=>exact d.elim
   rename_i Q J s;split at d
   case h_2=>exact d.elim
   rename_i F;rw[UA s]at u;rw[u];simp only[(E _ _ S).zer _ U,s];exact⟨Yj w,Ye J,Ye F,q,.d (.list Q),a,by simp[ren],d⟩
  grind
 ·rename_i R W;refine val d ?_;cases op<;>simp only[tV]at d<;>try exact d.elim
  case call c=>exact absurd rfl (R c)
  all_goals simp only[BA]
theorem vi(y:Ba P T)(h:RG r l outs env τ σ){c:C6}(hs:C7 τ.s c){g:Option Bool}(G:∀b,g=some b->b=true){e:Nat}{op:Op}{ty:TypeId}{ps:String}{af:Array Edge}{gd:Option (Nat×Bool)}
  (hx:Cr env c op=true) (o:e<n) {K:AV->AT->Prop} (d:pV P T l r τ op g a K):F6 P l n ⟨some e,op,ty,ps,af,gd⟩ (Yl r e K σ) σ:=by
 have C:=fA (ty:=ty) (ps:=ps) (af:=af) (gd:=gd) y h hs G hx o d;unfold pV at d;split at d
 ·rename_i c;split at d
  ·rename_i f k;obtain⟨i,first,F,x,I,v,J,L⟩:=dU h hs G k hx d;simp only[F6,k,v];exact⟨ren r x,J,o,x,I,rfl,L⟩
  ·rename_i B;cases k:c.callee with
   |value f=>exact absurd k (B f)
   |_=>simp only[F6,k];exact C
 ·rename_i t len parts;cases len with
  |zero=>exact C
  |succ len=>
   have D:(Op.buildSlice t (len+1) parts).operands.toList.all (Jd env c)=true:=hx;have v:(parts.toList.map λp=>(p.1,ev σ.s p.2))=(parts.toList.map λp=>(p.1,ev τ.s p.2)).map λp=>(p.1,ren r p.2):=(by rw[Jv];refine Fa λp d=>?_;simp only[Function.comp];rw[GF h hs D p.2 (by simp only[Op.operands,OT,YV];exact⟨p,d,rfl⟩)]);unfold WP at d;split at d
   case h_2=>exact d.elim
   rename_i i hi;split at d
   case h_2=>exact d.elim
   rename_i e' sz he;split at d
   ·rename_i q;cases q
   ·rename_i H u q;cases q;have u:=Yj u;split at d
    case h_2=>exact d.elim
    rename_i j O s;split at d
    case h_2=>exact d.elim
    rename_i z Q;split at d
    case h_2=>exact d.elim
    rename_i w E m;split at d
    case h_2=>exact d.elim
    rename_i A;rw[UA m]at v;exact⟨.d (.list w),⟨e',sz,z,w,(y _ _ hi).elm _ he,ae,Yj s,(y _ _ O).zer _ Q,Ye E,by rw[v];exact m,Ye A,rfl⟩,o,.d (.list w),a,by simp[ren],d⟩
   ·exact d.elim
 ·rename_i M N;cases op<;>first|exact absurd rfl (M _)|exact absurd rfl (N _ _ _)|exact C
theorem Qa{d:Nat}{e:TypeId}{sz:Nat}{cells:List AV}{x:Nat->AV}{K a:St->Prop}(b:∀σ,K σ->a σ)(h:Eo l n d e sz cells x K σ):Eo l n d e sz cells x a σ:=⟨h.1,b _ h.2⟩
theorem tC{o:Oper}{K b:St->Prop}(a:∀σ,K σ->b σ)(h:BA P l n o K σ):BA P l n o b σ:=by
 have i:∀x,CM n o.dst K σ x->CM n o.dst b σ x:=λx h=>by unfold CM at h⊢;grind
 unfold BA at h⊢;split at h
 ·split at h
  ·exact⟨h.1,Qa a h.2⟩
  grind
 ·split at h
  ·exact⟨h.1,Qa a h.2⟩
  grind
 ·grind
 ·split at h
  ·refine⟨h.1,?_⟩;replace h:=h.2;split at h
   ·grind
   ·refine⟨h.1,?_⟩;replace h:=h.2;split at h
    ·refine⟨h.1,?_⟩;replace h:=h.2;split at h
     ·grind
     ·split at h
      ·exact Qa a h
      grind
    grind
  grind
 ·split at h
  ·obtain⟨c,d,f,j,k,h⟩:=h;refine⟨c,d,f,j,k,?_⟩;split at h
   ·exact⟨h.1,Qa a h.2⟩
   grind
  grind
 ·split at h
  ·split at h
   ·exact h.mono λr m g=>by unfold Pe at g⊢;unfold CM at g⊢;grind
   grind
  ·split at h
   ·refine⟨h.1,?_⟩;replace h:=h.2;unfold MR at h⊢;split at h
    ·obtain⟨c,d,f,h⟩:=h;refine⟨c,d,f,?_⟩;split at h
     ·refine⟨h.1,?_⟩;replace h:=h.2;split at h
      ·exact⟨h.1,λe=>⟨(h.2.1 e).1,a _ (h.2.1 e).2⟩,λe=>Qa a (h.2.2 e)⟩
      ·grind
      grind
     grind
    grind
   grind
  ·exact UJ i h
 ·exact UJ i h
theorem Uv{o:Oper}{K a:St->Prop}(b:∀σ,K σ->a σ)(h:F6 P l n o K σ):F6 P l n o a σ:=by
 have e:∀{x},CM n o.dst K σ x->CM n o.dst a σ x:=fun {x} h=>by unfold CM at h⊢;grind
 unfold F6 at h⊢;split at h
 ·obtain⟨v,c,d⟩:=h;exact⟨v,c,e d⟩
 ·split at h
  ·grind
  ·exact tC b h
 ·exact tC b h
theorem dI(h:RG r l outs env τ σ){ds:List (Option Nat)}{i d:Nat}{b g:Bool}(j:Bl ds i=some (some d))(a:GI τ.s ((d,b)::lk env d)=some g):Jg σ.s ds i b=some g:=by
 rw[Cp]at j;have f:=JV a;unfold Jg;simp only[j];by_cases hs:C7 τ.s (lk env d)
 ·have k:=(h.s d).1 hs;have m:∃t,τ.s d=.d (.bool t):=by
   cases hl:lk env d with
   |nil=>
    rw[hl]at a;simp only[GI]at a;grind
   |cons q o=>
    rw[hl]at a;simp only[GI]at a;grind
  obtain⟨t,n⟩:=m;rw[k,n];simp only[ren,Yn];cases g with
  |true=>
   have:=f.1 rfl (d,b) (YJ ..);grind
  |false=>
   cases e:t==b with
   |false=>rfl
   |true=>
    exfalso;have e:t=b:=(by simpa using e);have:C7 τ.s ((d,b)::lk env d):=λq c=>by
     rcases Yy.1 c with rfl|c
     ·grind
     ·exact hs q c
    grind
 ·rw[(h.s d).2 hs];simp only[Yn];cases g with
  |false=>rfl
  |true=>exact absurd (λq c=>f.1 rfl q (YH _ c)) hs
theorem Np(F:RenOk r l outs)(A:Ba P T){ops:Array Oper}{K:St->BI->AT->Prop}{QQ:Exit->Act->World->Prop}(more:List Oper)
  (D:∀τ' k u G f w',K τ' k u->RG r l outs k τ' G->R l n B G f w'->wpList P ops QQ more f w'):
  ∀(c:List Oper) (env:BI) (a:AT) (τ σ:St) (act:Act) (w:World),Gg P T l n r (ops.toList.map (·.dst)) c env a K τ->RG r l outs env τ σ->R l n B σ act w->wpList P ops QQ (c++more) act w
 |[],env,a,τ,σ,act,w,h,p,x=>D _ _ _ _ _ _ h p x
 |o::c,env,a,τ,σ,act,w,h,p,x=>by
  unfold Gg at h;split at h
  ·rename_i E;split at h
   ·rename_i V Z;refine dj (by simp[Region.wanted,E]) (sA (B:=B) F A p V Z h) x λG f w' I q=>?_;obtain⟨σ'',⟨τ',u,z,N⟩,O⟩:=I;exact Np F A more D c _ _ _ _ _ _ z N (O _ _ q)
   grind
  ·rename_i i b E;split at h
   case h_2=>exact h.elim
   rename_i d e W he;split at h
   case h_2=>exact h.elim
   rename_i g t hx j C;simp only[Yb]at j;have C:=Yj C;have J:=dI p W t;have hy:(yielded ops act.tmps i==some b)=g:=(by obtain⟨s,H⟩:=σ;obtain⟨m,S,hO,L,X,Q,Y⟩:=x.un;exact dQ Q J);cases g with
   |true=>
    have hs:=(JV t).1 rfl;refine dj (by simp only[Region.wanted,E];exact hy) (σ:=σ) (B:=B) (l:=l) (n:=n) (KK:=Yl r e (λv u=>Gg P T l n r (ops.toList.map (·.dst)) c ((e,(d,b)::lk env d)::env) u K ⟨upd τ.s e v,τ.H⟩) σ) (Lu ?_) x λG f w' U q=>?_
    ·obtain⟨M,op,ty,ps,af,gd⟩:=o;simp only at he;subst he;exact fA A p hs (λb' e'=>by cases e';rfl) hx ae h
    ·obtain⟨v,u,rfl,z⟩:=U;exact Np F A more D c _ _ _ _ _ _ z (p.put j.1 j.2 (λ_=>rfl) (λL=>absurd hs L)) q
   |false=>
    have hs:¬C7 τ.s ((d,b)::lk env d):=λhs=>by have:=(JV t).2 hs;cases this
    obtain⟨v,u,z⟩:=Wv h;show wpList P ops QQ (o::(c++more)) act w;unfold wpList;rw[Yk (by simp only[Region.wanted,E,hy];decide),he];exact Np F A more D c _ _ _ _ _ _ z (p.put j.1 j.2 (y:=.tup []) (λh=>absurd h hs) (λ_=>rfl)) (R.undef x ae)
theorem Nr(L:RenOk r l outs)(B:Ba P T){ds:List (Option Nat)}{K:St->BI->AT->Prop}:
  ∀(rest:List Oper) (env:BI) (a:AT) (τ σ:St),rest.all (λo=>Db o||B4 o)=true->Hu P T l n r ds rest env a K τ->RG r l outs env τ σ->D5 P l n ds rest (λY=>∃τ' z f,K τ' z f/\RG r l outs z τ' Y) σ
 |[],env,a,τ,σ,_,h,u=>⟨_,_,_,h,u⟩
 |o::rest,env,a,τ,σ,w,h,u=>by
  simp only[Ju,Yb]at w;unfold Hu at h;unfold D5;split at h
  ·rename_i G;simp only[G];split at h
   case h_2=>exact h.elim
   rename_i I Z;by_cases H:B4 o=true
   ·obtain⟨j,op,ty,ps,af,gd⟩:=o;cases op<;>simp only[B4]at H<;>first|(cases H;done)|skip
    rename_i t p x;cases j with
    |some d=>cases H
    |none=>
     unfold ZW at h;simp only at h;unfold IU KY Jy K3 at h;simp only at h I;split at h
     case h_2=>exact h.elim
     rename_i i hi U;have A:∀y∈(Op.store t p x).operands,ev σ.s y=ren r (ev τ.s y):=(by unfold Cr at I;exact GF u A8 I);have hx:=A x (by simp[Op.operands]);have V:=A p (by simp[Op.operands]);cases W:C9 (ev τ.s x)with
     |none=>rw[W]at h;unfold QM at h;split at h<;>first|exact h.elim|(rename_i e;cases e)
     |some vs=>
      rw[W]at h;have X:=PZ (r:=r) W (Qd U);obtain⟨k,g,off,M,e2,e3,e4,e5,e6,e7,e8⟩:=qZ L u (B _ _ hi) h;obtain⟨τ',f,m,h2⟩:=e8;simp only[F6,BA,V,hx,X,M];exact⟨e2,e3,e4,e5,e6,e7,Nr L B rest _ _ _ _ w.2 m h2⟩
   have J:Db o=true:=(by grind);replace w:Db o=true/\_:=⟨J,w.2⟩;obtain⟨j,op,ty,ps,af,gd⟩:=o;have E:∃d,j=some d:=by
    have:=w.1;unfold Db Co at this;rw[YB,Yb,Yb]at this;rcases this with h|h
    ·exact FH.1 h.1
    ·exact FH.1 h.1
   obtain⟨d,rfl⟩:=E;simp only at I Z G;have hp:pV P T l r τ op none a (Fq n d (λτ' f=>Hu P T l n r ds rest (Fm env (some d)) f K τ') τ):=by
    by_cases C:∃t len p,op=.buildSlice t (len+1) p
    ·obtain⟨t,len,p,rfl⟩:=C;exact h
    ·have c:Co ⟨some d,op,ty,ps,af,gd⟩=true:=ec w.1 λt len p e=>C ⟨t,len,p,e⟩;have h:IU P T l n r ⟨some d,op,ty,ps,af,gd⟩ a (λτ' f=>Hu P T l n r ds rest (Fm env (some d)) f K τ') τ:=by
      unfold ZW at h;split at h
      ·rename_i M _;exact absurd ⟨_,_,_,M⟩ C
      ·exact h
     have h:=ZIR c (ZHt c h);unfold Jy at h;simp only at h;have h:K3 P T l n r ⟨some d,op,ty,ps,af,none⟩ a (λτ' f=>Hu P T l n r ds rest (Fm env (some d)) f K τ') τ:=by
      subst G;split at h
      ·split at h
       ·rename_i q;simp[Co,q]at c
       ·grind
       ·exact h
      ·exact h
     unfold K3 at h;simp only at h;split at h
     ·simp[Co]at c
     ·simp[Co]at c
     ·grind
     ·simp[Co]at c
     ·simp[Co]at c
     ·split at h
      ·rename_i q;simp[Co,q]at c
      ·exact h
     ·exact h
   have Q:∃v f,Fq n d (λτ' f=>Hu P T l n r ds rest (Fm env (some d)) f K τ') τ v f:=Wv hp;have O:d<n:=by
    obtain⟨v,f,m⟩:=Q;unfold Fq at m;split at m
    ·rename_i E;have E:=Yj E;exact E
    grind
   have:=vi (ty:=ty) (ps:=ps) (af:=af) (gd:=gd) B u A8 (λb e=>by cases e) I O hp;refine Uv (λY N=>?_) this;obtain⟨v,f,rfl,m⟩:=N;unfold Fq at m;split at m
   ·exact Nr L B rest _ _ _ _ w.2 m (u.put0 Z rfl)
   grind
  ·rename_i i b G;have J:Db o=true:=by
    have:=w.1;rw[YB]at this;rcases this with h|h
    ·exact h
    ·exfalso;obtain⟨j,op,ty,ps,af,gd⟩:=o;simp only at G;subst G;cases op<;>cases j<;>simp[B4]at h
   simp only[G];split at h
   case h_2=>exact h.elim
   rename_i d e E he;split at h
   case h_2=>exact h.elim
   rename_i g D hx s F;simp only[Yb]at s;have F:=Yj F;rw[dI u E D];refine⟨λS=>?_,λR=>?_⟩
   ·subst S;have hs:=(JV D).1 rfl;obtain⟨j,op,ty,ps,af,gd⟩:=o;simp only at he;subst he;refine Uv (λY N=>?_) (vi (ty:=ty) (ps:=ps) (af:=af) (gd:=gd) B u hs (λb' e'=>by cases e';rfl) hx ae h);obtain⟨v,f,rfl,m⟩:=N;exact Nr L B rest _ _ _ _ w.2 m (u.put s.1 s.2 (λ_=>rfl) (λhn=>absurd hs hn))
   ·subst R;have hs:¬C7 τ.s ((d,b)::lk env d):=λhs=>by have:=(JV D).2 hs;cases this
    obtain⟨v,f,m⟩:=Wv h;rw[he];exact⟨F,Nr L B rest _ _ _ _ w.2 m (u.put s.1 s.2 (y:=.tup []) (λh=>absurd h hs) (λ_=>rfl))⟩
end
end Go.Eng
namespace Go.Eng
set_option linter.all false
open Go Go.RowKit
def Az:List (Nat×AV)->Nat->AV
 |[],_=>.top
 |(i,x)::r,j=>match Nat.beq i j with|true=>x|false=>Az r j
def Fv:Blk:=⟨0,false,0,0,[]⟩
def AB:List (Ad×Blk)->Ad->Blk
 |[],_=>Fv
 |(k,b)::r,q=>match BD k q with|true=>b|false=>AB r q
def Ab(ss:List (Nat×AV))(hs:List (Ad×Blk)):St:=⟨Az ss,AB hs⟩
mutual
def Ew(H:Hp):AV->Option AV
 |.ref k g off n=>match BX H k g with|true=>some (.ref k 0 off n)|false=>none
 |.ptr k g off=>match BX H k g with|true=>some (.ptr k 0 off)|false=>none
 |.mp k g=>match BX H k g with|true=>some (.mp k 0)|false=>none
 |.fn f xs ys=>match I1 H xs,I1 H ys with|some xs,some ys=>some (.fn f xs ys)|_,_=>none
 |.agg xs=>match I1 H xs with|some xs=>some (.agg xs)|none=>none
 |.tup xs=>match I1 H xs with|some xs=>some (.tup xs)|none=>none
 |.top=>some .top
 |.d x=>some (.d x)
 |.e0=>some .e0
 |.p x=>some (.p x)
 |.iptr cs off=>some (.iptr cs off)
 |.ifc t ds a=>some (.ifc t ds a)
def I1(H:Hp):List AV->Option (List AV)
 |[]=>some []
 |x::xs=>match Ew H x,I1 H xs with|some x,some xs=>some (x::xs)|_,_=>none
end
def gZ(H:Hp)(x:AV):AV:=match Ew H x with|some v=>v|none=>.top
def NB(H:Hp)(s:Nat->AV):List Nat->List (Nat×AV)
 |[]=>[]
 |j::r=>(j,gZ H (s j))::NB H s r
def IJ(cs:List AV):Prop:=∀x∈cs,x.flat=true
def NM(H:Hp):List (Ad×Bool)->(List (Ad×Blk)->Prop)->Prop
 |[],K=>K []
 |(k,fl)::r,K=>match (H k).live with
  |false=>NM H r K
  |true=>match fl with
   |true=>IJ (H k).cells/\NM H r (λa=>K ((k,⟨0,true,(H k).e,(H k).sz,(H k).cells⟩)::a))
   |false=>match I1 H (H k).cells with
    |some cs=>NM H r (λa=>K ((k,⟨0,true,(H k).e,(H k).sz,cs⟩)::a))
    |none=>False
def S3:AV->Bool
 |.e0=>true
 |_=>false
def QR:List (Nat×Nat×TypeId×Nat)->St->(St->Prop)->Prop
 |[],τ,K=>K τ
 |(j,d,e,sz)::r,τ,K=>match S3 (τ.s j),(τ.H (1,d)).live with
  |true,false=>QR r ⟨upd τ.s j (.ref (1,d) ((τ.H (1,d)).g+1) 0 0),updH τ.H (1,d) ⟨(τ.H (1,d)).g+1,true,e,sz,[]⟩⟩ K
  |true,true=>False
  |false,_=>QR r τ K
structure Lf where
 ls:List Nat
 ks:List (Ad×Bool):=[]
 ad:List (Nat×Nat×TypeId×Nat):=[]
 ze:List Nat:=[]
def Ou:List Nat->St->St
 |[],τ=>τ
 |j::r,τ=>match S3 (τ.s j)with|true=>Ou r ⟨upd τ.s j (.d (.list [])),τ.H⟩|false=>Ou r τ
def gz(H:Hp):List Nat->Bool
 |[]=>true
 |i::r=>Nat.beq (H (0,i)).g 0&&gz H r
def Ei(fx:List Nat)(f:Lf)(τ:St)(Φ:St->Prop):Prop:=QR f.ad (Ou f.ze τ) (λτ=>match gz τ.H fx with|true=>NM τ.H f.ks (λhs=>Φ (Ab (NB τ.H τ.s f.ls) hs))|false=>False)
structure Cx where
 l:Nat
 B:Base
 κ:Ad->Ad
 θ:Nat->AV
 H0:Hp
 outs:Nat
 no:Ad->Prop
 fx:List Nat
 G:(Ad->Nat)->Prop
def Cx.r(C:Cx)(γ:Ad->Nat):Ren:=⟨C.κ,γ,C.θ,C.H0,C.no⟩
structure CxOk (C:Cx):Prop where
 own:∀d,C.κ (1,d)=(C.l+1,d)
 out:∀i,i<C.outs->(C.κ (0,i)).1<=C.l
 inj:∀i j,i<C.outs->j<C.outs->C.κ (0,i)=C.κ (0,j)->i=j
 no:∀k,C.no k->∃i,i<C.outs/\C.κ (0,i)=k
 G:∀γ γ':Ad->Nat,(∀i∈C.fx,γ' (0,i)=γ (0,i))->C.G γ->C.G γ'
theorem CxOk.ren{C:Cx}(h:CxOk C)(γ:Ad->Nat):RenOk (C.r γ) C.l C.outs:=⟨h.own,h.out,h.inj,h.no⟩
def Wk(n:Nat)(C:Cx)(σ b:St):Prop:=∀a w,R C.l n C.B σ a w->R C.l n C.B b a w
def Is(n:Nat)(C:Cx)(Φ:St->Prop)(σ:St):Prop:=∃γ τ a,C.G γ/\Φ τ/\RG (C.r γ) C.l C.outs [] τ a/\Wk n C σ a
def LW(P:Program)(n:Nat)(C:Cx)(c:Code)(τ:St)(Q:Exit->St->Prop):Prop:=
 ∀γ σ,C.G γ->RG (C.r γ) C.l C.outs [] τ σ->BL P C.l n C.B c (λe a=>Is n C (Q e) a) σ
def Wz(P:Program)(l n:Nat)(B:Base)(c:Code)(Q:Exit->St->Prop)(σ:St):Prop:=
 ∀a w,R l n B σ a w->∀(b:Frame) (k:List Item) (cs:List Frame),∃e d w',(∃f,Q e f/\R l n B f d w')/\Arrives P (lone (b.at a (.code c::.inLoop c::k)) cs w) b k cs e d w'
def LL(P:Program)(n:Nat)(C:Cx)(c:Code)(τ:St)(Q:Exit->St->Prop):Prop:=
 ∀γ σ,C.G γ->RG (C.r γ) C.l C.outs [] τ σ->Wz P C.l n C.B c (λe a=>Is n C (Q e) a) σ
def DS(env:BI)(τ:St):St:=⟨λj=>match lk env j with|[]=>τ.s j|_=>.top,τ.H⟩
def HY(C:List AV)(off n sz:Nat)(es:List (List D)):Prop:=es.length=n/\sz≠0/\(∀e∈es,e.length=sz)/\(off+n)*sz<=C.length/\(C.drop (off*sz)).take (n*sz)=es.flatten.map .d
def WX(H:Hp)(d:Nat)(s:Nat->AV)(A:Prop):List (Nat×List (List D))->Prop
 |[]=>A
 |(j,a)::r=>match s j with
  |.ref k q off m=>(match BD k (1,d),BX H k q with|true,true=>HY (H (1,d)).cells off m (H (1,d)).sz a/\WX H d s A r|_,_=>False)
  |_=>False
def WQ(H:Hp)(d:Nat)(A:Prop):List (Ad×Nat×List (List D))->Prop
 |[]=>A
 |(k,i,a)::r=>match Nat.beq k.1 1,BD k (1,d),(H k).live,Bl (H k).cells i with
  |true,false,true,some (.ref k' q off m)=>(match BD k' (1,d),BX H k' q with|true,true=>HY (H (1,d)).cells off m (H (1,d)).sz a/\WQ H d A r|_,_=>False)
  |_,_,_,_=>False
def wH(r:Ren)(k:Ad)(A:Prop):Prop:=
 match Nat.beq k.1 1 with
 |true=>A
 |false=>Mj r k/\A
def WY(H:Hp)(d:Nat)(s:Nat->AV):List Nat->Bool
 |[]=>true
 |j::r=>match s j with
  |.mp k g=>BD k (1,d)&&BX H k g&&WY H d s r
  |_=>false
def WZ(H:Hp)(d:Nat)(s:Nat->AV):List Nat->Bool
 |[]=>true
 |j::r=>match s j with
  |.ptr k g 0=>BD k (1,d)&&BX H k g&&WZ H d s r
  |_=>false
def A9(r:Ren)(os:Nat):AT->St->(St->AT->Prop)->Prop
 |.frz d f cs b,τ,K=>match (τ.H (1,d)).live,Nat.ble 1 (τ.H (1,d)).sz with
  |true,true=>WX τ.H d τ.s (WQ τ.H d (A9 r os b ⟨JH f τ.s,I5 cs (updH τ.H (1,d) ⟨(τ.H (1,d)).g,false,(τ.H (1,d)).e,(τ.H (1,d)).sz,(τ.H (1,d)).cells⟩)⟩ K) cs) f
  |_,_=>False
 |.adc k i d e sz b,τ,K=>match Nat.beq k.1 1,BD k (1,d),(τ.H k).live,Bl (τ.H k).cells i with
  |true,false,true,some .e0=>A9 r os b ⟨τ.s,updH (updH τ.H (1,d) ⟨(τ.H (1,d)).g+1,true,e,sz,[]⟩) k ⟨(τ.H k).g,true,(τ.H k).e,(τ.H k).sz,(τ.H k).cells.set i (.ref (1,d) ((τ.H (1,d)).g+1) 0 0)⟩⟩ K
  |_,_,_,_=>False
 |.sep b,τ,K=>K τ b
 |.ads j d e sz b,τ,K=>match S3 (τ.s j)with
  |true=>A9 r os b ⟨upd τ.s j (.ref (1,d) ((τ.H (1,d)).g+1) 0 0),updH τ.H (1,d) ⟨(τ.H (1,d)).g+1,true,e,sz,[]⟩⟩ K
  |false=>False
 |.trim k c b,τ,K=>match (τ.H k).live with
  |true=>(∃m,(τ.H k).cells.take m=c)/\wH r k (A9 r os b ⟨τ.s,updH τ.H k ⟨(τ.H k).g,true,(τ.H k).e,(τ.H k).sz,c⟩⟩ K)
  |false=>False
 |.reb j d m c b,τ,K=>match τ.s j with
  |.ref k q off n=>(match BD k (1,d),BX τ.H k q with
   |true,true=>(n=m/\off*(τ.H k).sz<=(τ.H k).cells.length/\(τ.H k).cells.drop (off*(τ.H k).sz)=c)/\A9 r os b ⟨upd τ.s j (.ref k (q+1) 0 m),updH τ.H k ⟨q+1,true,.t (τ.H k).e.ty,(τ.H k).sz,c⟩⟩ K
   |_,_=>False)
  |_=>False
 |.mv d j b,τ,K=>match (τ.H (1,d)).live with
  |true=>FW (τ.H (1,d)).cells/\(j<os/\r.no (r.κ (0,j)))/\A9 r os b ⟨λi=>FC (1,d) (0,j) (τ.H (1,d)).g ((τ.H (0,j)).g+1) (τ.s i),
    updH (updH τ.H (1,d) ⟨(τ.H (1,d)).g,false,(τ.H (1,d)).e,(τ.H (1,d)).sz,(τ.H (1,d)).cells⟩) (0,j) ⟨(τ.H (0,j)).g+1,true,(τ.H (1,d)).e,(τ.H (1,d)).sz,(τ.H (1,d)).cells⟩⟩ K
  |false=>False
 |.fzm d f b,τ,K=>match (τ.H (1,d)).live,(τ.H (1,d)).e,WY τ.H d τ.s f with
  |true,.m q h,true=>A9 r os b ⟨EO (.d (.map q h)) f τ.s,updH τ.H (1,d) ⟨(τ.H (1,d)).g,false,(τ.H (1,d)).e,(τ.H (1,d)).sz,(τ.H (1,d)).cells⟩⟩ K
  |_,_,_=>False
 |.fzb d f b,τ,K=>match (τ.H (1,d)).live,MP (τ.H (1,d)).cells,WZ τ.H d τ.s f with
  |true,some (x::ds),true=>A9 r os b ⟨EO (.iptr (x::ds) 0) f τ.s,updH τ.H (1,d) ⟨(τ.H (1,d)).g,false,(τ.H (1,d)).e,(τ.H (1,d)).sz,(τ.H (1,d)).cells⟩⟩ K
  |_,_,_=>False
 |.rnm d d' e i b,τ,K=>match (τ.H (1,d)).live,Nat.beq d d',Nat.beq e d,Nat.beq e d',(τ.H (1,e)).live,Bl (τ.H (1,e)).cells i with
  |true,false,false,false,true,some (.ref k g off c)=>(match BD k (1,d),Nat.beq g (τ.H (1,d)).g with
   |true,true=>FW (τ.H (1,d)).cells/\A9 r os b ⟨λj=>FC (1,d) (1,d') (τ.H (1,d)).g ((τ.H (1,d')).g+1) (τ.s j),
     updH (updH (updH τ.H (1,d) ⟨(τ.H (1,d)).g,false,(τ.H (1,d)).e,(τ.H (1,d)).sz,(τ.H (1,d)).cells⟩) (1,d') ⟨(τ.H (1,d')).g+1,true,(τ.H (1,d)).e,(τ.H (1,d)).sz,(τ.H (1,d)).cells⟩)
      (1,e) ⟨(τ.H (1,e)).g,true,(τ.H (1,e)).e,(τ.H (1,e)).sz,(τ.H (1,e)).cells.set i (.ref (1,d') ((τ.H (1,d')).g+1) off c)⟩⟩ K
   |_,_=>False)
  |_,_,_,_,_,_=>False
 |.mvc d q e i b,τ,K=>match (τ.H (1,d)).live,Nat.beq e d,(τ.H (1,e)).live,Bl (τ.H (1,e)).cells i with
  |true,false,true,some (.ref k g off c)=>(match BD k (1,d),Nat.beq g (τ.H (1,d)).g with
   |true,true=>FW (τ.H (1,d)).cells/\(q<os/\r.no (r.κ (0,q)))/\A9 r os b ⟨λj=>FC (1,d) (0,q) (τ.H (1,d)).g ((τ.H (0,q)).g+1) (τ.s j),
     updH (updH (updH τ.H (1,d) ⟨(τ.H (1,d)).g,false,(τ.H (1,d)).e,(τ.H (1,d)).sz,(τ.H (1,d)).cells⟩) (0,q) ⟨(τ.H (0,q)).g+1,true,(τ.H (1,d)).e,(τ.H (1,d)).sz,(τ.H (1,d)).cells⟩)
      (1,e) ⟨(τ.H (1,e)).g,true,(τ.H (1,e)).e,(τ.H (1,e)).sz,(τ.H (1,e)).cells.set i (.ref (0,q) ((τ.H (0,q)).g+1) off c)⟩⟩ K
   |_,_=>False)
  |_,_,_,_=>False
 |a,τ,K=>K τ a
def CT(P:Program)(T:Nat->Option TI)(l n os:Nat)(r:Ren):Code->AT->St->(Exit->St->AT->Prop)->Prop
 |.skip,a,τ,K=>K .normal τ a
 |.ret,a,τ,K=>A9 r os a τ (λτ a=>K .ret τ a)
 |.exit id,a,τ,K=>K (.exit id) τ a
 |.seq x y,a,τ,K=>CT P T l n os r x a τ (λe τ' d=>match e with|.normal=>CT P T l n os r y d τ' K|e=>K e τ' d)
 |.block id c,a,τ,K=>CT P T l n os r c a τ (λe τ' d=>match e with|.exit i=>(match Nat.beq i id with|true=>K .normal τ' d|false=>K (.exit i) τ' d)|e=>K e τ' d)
 |.cond c x y,a,τ,K=>match ev τ.s c,a with
  |.d (.bool b),.br a1 g=>(b=true->CT P T l n os r x a1 τ K)/\(b=false->CT P T l n os r y g τ K)
  |.d (.bool b),.go a=>(match b with|true=>CT P T l n os r x a τ K|false=>CT P T l n os r y a τ K)
  |.d (.bool b),.one v a=>(match v with|true=>(b=true->CT P T l n os r x a τ K)/\(b=false->False)|false=>(b=true->False)/\(b=false->CT P T l n os r y a τ K))
  |_,_=>False
 |.region _ ops f,a,τ,K=>match f with
  |false=>A9 r os a τ (λτ a=>Gg P T l n r (ops.toList.map (·.dst)) ops.toList [] a (λτ' env d=>K .normal (DS env τ') d) τ)
  |true=>match WF ops.toList&&ops.toList.all (λo=>Db o||B4 o)&&Ma ops.toList 0 ops.toList with
   |true=>A9 r os a τ (λτ a=>Hu P T l n r (ops.toList.map (·.dst)) ops.toList [] a (λτ' env d=>K .normal (DS env τ') d) τ)
   |false=>False
 |_,_,_,_=>False
mutual
def frz(H:Hp):AV->AT->(AV->AT->Prop)->Prop
 |.d x,a,K=>K (.d x) a
 |.e0,a,K=>K (.d (.list [])) a
 |.ifc t ds q,a,K=>K (.ifc t ds q) a
 |.agg xs,a,K=>JL H xs a (λys c=>K (.agg ys) c)
 |.ref k g off n,a,K=>match Nat.beq k.1 0,Nat.beq k.1 1,BX H k g with
  |true,_,true=>K (.ref k g off n) a
  |false,true,true=>(match a with|.av (.d (.list b)) c=>HY (H k).cells off n (H k).sz b/\K (.d (.list b)) c|_=>False)
  |_,_,_=>False
 |.mp k g,a,K=>match Nat.beq k.1 0,Nat.beq k.1 1,BX H k g,(H k).e with
  |true,_,true,_=>K (.mp k g) a
  |false,true,true,.m q b=>K (.d (.map q b)) a
  |_,_,_,_=>False
 |_,_,_=>False
def JL(H:Hp):List AV->AT->(List AV->AT->Prop)->Prop
 |[],a,K=>K [] a
 |x::xs,a,K=>frz H x a (λy c=>JL H xs c (λys b=>K (y::ys) b))
end
def gN(T:Nat->Option TI)(τ:St):ResultVar->(AV->Prop)->Prop
 |.tmp t,K=>K (τ.s t)
 |.cell p t,K=>match τ.s p,T t with
  |.ptr k g off,some i=>(match BX τ.H k g,i.agg with
   |true,true=>(match Nat.ble 1 i.siz,J7 i.siz ((τ.H k).cells.drop off)with|true,some c=>K (.agg c)|_,_=>False)
   |true,false=>(match Bl (τ.H k).cells off with|some c=>K c|none=>False)
   |false,_=>False)
  |_,_=>False
def az(T:Nat->Option TI)(τ:St):List ResultVar->(List AV->Prop)->Prop
 |[],K=>K []
 |v::vs,K=>gN T τ v (λx=>az T τ vs (λxs=>K (x::xs)))
def J8(H:Hp):Nat->Nat->List Blk
 |0,_=>[]
 |n+1,i=>H (0,i)::J8 H n (i+1)
def Pc(T:Nat->Option TI)(c:List ResultVar)(os:Nat)(τ:St)(a:AT)(b:AV->List Blk->Prop):Prop:=
 az T τ c (λxs=>JL τ.H xs a (λys _=>b (DN ys) (J8 τ.H os 0)))
def FQ(T:Nat->Option TI)(c:List ResultVar)(os:Nat)(b:AV->List Blk->Prop)(e:Exit)(τ:St):Prop:=(e=.normal\/e=.ret)/\∃a,Pc T c os τ a b
section
variable {P:Program} {T:Nat->Option TI} {n:Nat} {C:Cx} {τ σ:St} {Q:Exit->St->Prop}
theorem Wk.refl(σ:St):Wk n C σ σ:=λ_ _ h=>h
theorem Wk.trans{σ c b:St}(h:Wk n C σ c)(k:Wk n C c b):Wk n C σ b:=λa w d=>k a w (h a w d)
theorem R.weaken{l:Nat}{B:Base}{s s':Nat->AV}{H:Hp}{a:Act}{w:World}(h:R l n B ⟨s,H⟩ a w)(hs:∀j,s' j=s j\/s' j=.top):R l n B ⟨s',H⟩ a w:=by
 obtain⟨m,S,d,g,b,f,c⟩:=h.un;refine⟨m,S,d,g,b,λi=>?_,c⟩;show RepA w S H m (l+1) (s' i) _;rcases hs i with e|e
 ·rw[e];exact f i
 ·rw[e];exact .top _
theorem Is.mono{Φ Ψ:St->Prop}(h:Is n C Φ σ)(e:∀τ,Φ τ->Ψ τ):Is n C Ψ σ:=by obtain⟨γ,τ,f,a,b,c,d⟩:=h;exact⟨γ,τ,f,a,e _ b,c,d⟩
theorem BL.weak{c:Code}{QQ:Exit->St->Prop}{b:St}(h:BL P C.l n C.B c QQ b)(e:Wk n C σ b):BL P C.l n C.B c QQ σ:=λa w d=>h a w (e a w d)
theorem Wz.weak{c:Code}{QQ:Exit->St->Prop}{b:St}(h:Wz P C.l n C.B c QQ b)(e:Wk n C σ b):Wz P C.l n C.B c QQ σ:=λa w d=>h a w (e a w d)
theorem LW.mono{c:Code}{a:Exit->St->Prop}(h:LW P n C c τ Q)(f:∀e τ,Q e τ->a e τ):LW P n C c τ a:=λγ σ d b=>Ik (h γ σ d b) λe g hi=>hi.mono (f e)
theorem zN{x y:Code}(h:LW P n C x τ (λe τ'=>match e with|.normal=>LW P n C y τ' Q|e=>Q e τ')):LW P n C (.seq x y) τ Q:=by
 intro γ σ i g;refine dZ (Ik (h γ σ i g) λe k hi=>?_);cases e with
 |normal=>
  obtain⟨j,τ',a,b,c,d,f⟩:=hi;exact BL.weak (c j a b d) f
 |_=>exact hi
theorem ZxD{id:Nat}{c:Code}(h:LW P n C c τ (λe τ'=>match e with|.exit i=>if i=id then Q .normal τ' else Q (.exit i) τ'|e=>Q e τ')):LW P n C (.block id c) τ Q:=by
 intro γ σ b a;refine rD (Ik (h γ σ b a) λe d hi=>?_);cases e with
 |exit i=>
  unfold Ve;simp only at hi⊢;split
  ·rename_i he;exact hi.mono λτ' h=>by rw[Ym he]at h;exact h
  ·rename_i he;exact hi.mono λτ' h=>by rw[Yk he]at h;exact h
 |_=>exact hi
theorem w9{c:Operand}{x y:Code}{b:Bool}(h:ev τ.s c=.d (.bool b))(f:b=true->LW P n C x τ Q)(g:b=false->LW P n C y τ Q):LW P n C (.cond c x y) τ Q:=by
 intro γ σ d a;have he:ev σ.s c=.d (.bool b):=by rw[LJ (c:=[]) a A8 (by cases c<;>rfl),h];simp[ren]
 exact Qc he (λe=>f e γ σ d a) (λe=>g e γ σ d a)
theorem wP{c:Code}(h:LL P n C c τ Q):LW P n C (.loop c) τ Q:=by intro γ σ l i a w j b k cs;obtain⟨e,d,w',f,g⟩:=h γ σ l i a w j b k cs;exact⟨e,d,w',f,.of_steps (.one step_loop) g⟩
theorem Zxt{c:Code}(h:LW P n C c τ (λe τ'=>match e with|.normal=>LL P n C c τ' Q|e=>Q e τ')):LL P n C c τ Q:=by
 intro γ σ A y a w z b k cs;obtain⟨e,i,l,⟨m,j,f⟩,d⟩:=h γ σ A y a w z b (.inLoop c::k) cs;cases e with
 |normal=>
  obtain⟨D,τ',p,s,t,u,v⟩:=j;obtain⟨r,q,B,o,g⟩:=t D p s u i l (v _ _ f) b k cs;exact⟨r,q,B,o,.of_steps (Steps.trans d (.one step_inLoop)) g⟩
 |exit id=>exact⟨_,i,l,⟨m,j,f⟩,.pass (x:=.inLoop c) rfl (λ_ _=>.inl (by simp)) d⟩
 |goto id=>exact⟨_,i,l,⟨m,j,f⟩,.pass (x:=.inLoop c) rfl (λ_ _=>.inl (by simp)) d⟩
 |ret=>exact⟨_,i,l,⟨m,j,f⟩,.pass (x:=.inLoop c) rfl (λ_ _=>.inl (by simp)) d⟩
 |panic ch=>exact⟨_,i,l,⟨m,j,f⟩,.pass (x:=.inLoop c) rfl (λ_ _=>.inl (by simp)) d⟩
 |outgrown=>exact⟨_,i,l,⟨m,j,f⟩,.pass (x:=.inLoop c) rfl (λ_ _=>.inl (by simp)) d⟩
theorem Is.of{γ:Ad->Nat}{Φ:St->Prop}(b:C.G γ)(a:RG (C.r γ) C.l C.outs [] τ σ)(h:Φ τ):Is n C Φ σ:=⟨γ,τ,σ,b,h,a,Wk.refl σ⟩
theorem Cw{a b:Ad}:BD a b=true↔a=b:=by obtain⟨a1,c⟩:=a;obtain⟨d,e⟩:=b;simp[BD]
theorem rR{H:Hp}{s:Nat->AV}:∀(ls:List Nat) (j:Nat),Az (NB H s ls) j=gZ H (s j)\/Az (NB H s ls) j=.top
 |[],j=>.inr rfl
 |i::r,j=>by
  simp only[NB,Az];split
  ·rename_i h;rw[Ye h];exact .inl rfl
  ·exact rR r j
def rebase(γ:Ad->Nat)(H:Hp):Ad->Nat:=λk=>γ k+(H k).g
mutual
theorem s3{γ:Ad->Nat}{H:Hp}:∀{x y:AV},Ew H x=some y->ren (C.r (rebase γ H)) y=ren (C.r γ) x
 |.ref k g off m,y,h=>by
  simp only[Ew]at h;split at h
  ·rename_i hl;cases h;obtain⟨b,_⟩:=ED hl;subst b;simp[ren,Cx.r,rebase]
  ·cases h
 |.ptr k g off,y,h=>by
  simp only[Ew]at h;split at h
  ·rename_i hl;cases h;obtain⟨b,_⟩:=ED hl;subst b;simp[ren,Cx.r,rebase]
  ·cases h
 |.mp k g,y,h=>by
  simp only[Ew]at h;split at h
  ·rename_i hl;cases h;obtain⟨b,_⟩:=ED hl;subst b;simp[ren,Cx.r,rebase]
  ·cases h
 |.fn f xs ys,y,h=>by
  simp only[Ew]at h;split at h
  ·rename_i xs' i b e;cases h;have c:=Nq (γ:=γ) b;have d:=Nq (γ:=γ) e;cases f<;>simp only[ren,c,d]<;>rfl
  ·cases h
 |.agg xs,y,h=>by
  simp only[Ew]at h;split at h
  ·rename_i xs' b;cases h;simp only[ren,Nq (γ:=γ) b]
  ·cases h
 |.tup xs,y,h=>by
  simp only[Ew]at h;split at h
  ·rename_i xs' b;cases h;simp only[ren,Nq (γ:=γ) b]
  ·cases h
 |.top,y,h=>by simp only[Ew]at h;cases h;simp[ren]
 |.d x,y,h=>by simp only[Ew]at h;cases h;simp[ren]
 |.e0,y,h=>by simp only[Ew]at h;cases h;simp[ren]
 |.p x,y,h=>by simp only[Ew]at h;cases h;simp[ren]
 |.iptr cs off,y,h=>by simp only[Ew]at h;cases h;simp[ren]
 |.ifc t ds a,y,h=>by simp only[Ew]at h;cases h;simp[ren]
theorem Nq{γ:Ad->Nat}{H:Hp}:∀{xs ys:List AV},I1 H xs=some ys->Ao (C.r (rebase γ H)) ys=Ao (C.r γ) xs
 |[],ys,h=>by simp only[I1]at h;cases h;simp[Ao]
 |x::xs,ys,h=>by
  simp only[I1]at h;split at h
  ·rename_i x' xs' a b;cases h;simp only[Ao,s3 (γ:=γ) a,Nq (γ:=γ) b]
  ·cases h
end
def RI(C:Cx)(γ:Ad->Nat)(H:Hp)(hs:List (Ad×Blk)):Prop:=
 (∀k,(AB hs k).g=0)/\∀k,(AB hs k).live=true->(H k).live=true/\(AB hs k).e=(H k).e/\(AB hs k).sz=(H k).sz/\Ao (C.r (rebase γ H)) (AB hs k).cells=Ao (C.r γ) (H k).cells
theorem JW{r:Ren}{cs:List AV}(h:IJ cs):Ao r cs=cs:=Lx (Yu.2 h)
theorem RI.cons{γ:Ad->Nat}{H:Hp}{hs:List (Ad×Blk)}(h:RI C γ H hs){k:Ad}{cs:List AV}(hl:(H k).live=true)(b:Ao (C.r (rebase γ H)) cs=Ao (C.r γ) (H k).cells):RI C γ H ((k,⟨0,true,(H k).e,(H k).sz,cs⟩)::hs):=by
 refine⟨λq=>?_,λq a=>?_⟩
 ·simp only[AB];split
  ·rfl
  ·exact h.1 q
 ·simp only[AB]at a⊢;split at a
  ·rename_i he;have he:=Cw.1 he;grind
  ·exact h.2 q a
theorem Uh{γ:Ad->Nat}{H:Hp}:∀(ks:List (Ad×Bool)) {K:List (Ad×Blk)->Prop},NM H ks K->∃hs,K hs/\RI C γ H hs
 |[],K,h=>⟨[],h,λk=>rfl,λk d=>by simp[AB,Fv]at d⟩
 |(k,fl)::r,K,h=>by
  simp only[NM]at h;split at h
  ·exact Uh r h
  ·rename_i hl;split at h
   ·obtain⟨hs,a,b⟩:=Uh (γ:=γ) r h.2;exact⟨_,a,b.cons hl (by rw[JW h.1,JW h.1])⟩
   ·split at h
    ·rename_i cs c;obtain⟨hs,a,b⟩:=Uh (γ:=γ) r h;exact⟨_,a,b.cons hl (Nq c)⟩
    grind
theorem kl{H:Hp}:∀{fx:List Nat},gz H fx=true->∀i∈fx,(H (0,i)).g=0
 |i::r,h,j,a=>by
  simp only[gz,Yb]at h;rcases Yy.1 a with rfl|a
  ·exact Ye h.1
  ·exact kl h.2 j a
theorem eZ{x:AV}(h:S3 x=true):x=.e0:=by cases x<;>first|rfl|cases h
theorem dk(c:CxOk C){Φ:St->Prop}{γ:Ad->Nat}:∀(ad:List (Nat×Nat×TypeId×Nat)) (τ σ:St),QR ad τ Φ->RG (C.r γ) C.l C.outs [] τ σ->∃τ' f,Φ τ'/\RG (C.r γ) C.l C.outs [] τ' f/\Wk n C σ f
 |[],τ,σ,h,b=>⟨τ,σ,h,b,Wk.refl σ⟩
 |(j,d,e,sz)::r,τ,σ,h,b=>by
  simp only[QR]at h;split at h
  ·rename_i he hl;have k:σ.s j=.e0:=(by rw[(b.s j).1 A8,eZ he];simp[ren]);have o:=b.put (e:=j) (ch:=[]) rfl rfl (v:=.ref (1,d) ((τ.H (1,d)).g+1) 0 0) (y:=.ref (C.l+1,d) ((σ.H (C.l+1,d)).g+1) 0 0) (λ_=>by rw[b.g];simp only[ren];rw[show(C.r γ).κ (1,d)=(C.l+1,d)from c.own d,YM]) (λg=>absurd A8 g);have a:=RG.updH (c.ren γ) o (1,d) ⟨(τ.H (1,d)).g+1,true,e,sz,[]⟩ rfl (.inl rfl);have m:AJ (C.r γ) (1,d) ⟨(τ.H (1,d)).g+1,true,e,sz,[]⟩=⟨(σ.H (C.l+1,d)).g+1,true,e,sz,[]⟩:=(by simp only[AJ,b.g,Ao,YM]);rw[m,show(C.r γ).κ (1,d)=(C.l+1,d)from c.own d]at a;have p:RG (C.r γ) C.l C.outs [] ⟨upd τ.s j (.ref (1,d) ((τ.H (1,d)).g+1) 0 0),updH τ.H (1,d) ⟨(τ.H (1,d)).g+1,true,e,sz,[]⟩⟩ ⟨upd σ.s j (.ref (C.l+1,d) ((σ.H (C.l+1,d)).g+1) 0 0),updH σ.H (C.l+1,d) ⟨(σ.H (C.l+1,d)).g+1,true,e,sz,[]⟩⟩:=
    ⟨λi=>⟨λ_=>(a.s i).1 (by rw[fd];split<;>exact A8),λg=>absurd A8 g⟩,a.h,a.g,a.go,a.k,a.o⟩
   obtain⟨τ',f,t,u,x⟩:=dk c r _ _ h p;refine⟨τ',f,t,u,Wk.trans (λl w q=>?_) x⟩;obtain⟨s,H⟩:=σ;exact R.adopt (e:=e) (sz:=sz) q (C.l+1,d) rfl _ (YS _) k
  ·grind
  ·exact dk c r τ σ h b
theorem ed{γ:Ad->Nat}:∀(ze:List Nat) (τ σ:St),RG (C.r γ) C.l C.outs [] τ σ->∃f,RG (C.r γ) C.l C.outs [] (Ou ze τ) f/\Wk n C σ f
 |[],τ,σ,b=>⟨σ,b,Wk.refl σ⟩
 |j::r,τ,σ,b=>by
  simp only[Ou];split
  ·rename_i he;have d:σ.s j=.e0:=(by rw[(b.s j).1 A8,eZ he];simp[ren]);have a:=b.put (e:=j) (ch:=[]) rfl rfl (v:=.d (.list [])) (y:=.d (.list [])) (λ_=>by simp[ren]) (λc=>absurd A8 c);have o:RG (C.r γ) C.l C.outs [] ⟨upd τ.s j (.d (.list [])),τ.H⟩ ⟨upd σ.s j (.d (.list [])),σ.H⟩:=
    ⟨λi=>⟨λ_=>(a.s i).1 (by rw[fd];split<;>exact A8),λc=>absurd A8 c⟩,a.h,a.g,a.go,a.k,a.o⟩
   obtain⟨f,t,u⟩:=ed r _ _ o;refine⟨f,t,Wk.trans (λl w q=>?_) u⟩;obtain⟨s,H⟩:=σ;obtain⟨m,S,p,c,g,k,h⟩:=q.un;refine⟨m,S,p,c,g,λi=>?_,h⟩;show RepA w S H m (C.l+1) (upd s j (.d (.list [])) i) _;unfold upd;by_cases hi:i=j
   ·subst hi;rw[Ym rfl];have:=k i;simp only at d;rw[d]at this;exact this.e0_d
   ·rw[Yk hi];exact k i
  ·exact ed r τ σ b
theorem Ii(t:CxOk C){Φ:St->Prop}{γ:Ad->Nat}{f:Lf}(h:Ei C.fx f τ Φ)(F:C.G γ)(D:RG (C.r γ) C.l C.outs [] τ σ):Is n C Φ σ:=by
 obtain⟨K,o,r⟩:=ed (n:=n) f.ze τ σ D;obtain⟨a,g,l,b,m⟩:=dk (n:=n) t f.ad (Ou f.ze τ) K h o;replace m:=Wk.trans r m;split at l
 case h_2=>exact l.elim
 rename_i p;obtain⟨hs,J,c⟩:=Uh (C:=C) (γ:=γ) f.ks l;refine⟨rebase γ a.H,_,⟨λj=>ren (C.r (rebase γ a.H)) (Az (NB a.H a.s f.ls) j),g.H⟩,t.G γ _ (λi hi=>by unfold rebase;rw[kl p i hi];rfl) F,J,⟨λj=>⟨λ_=>rfl,λG=>absurd A8 G⟩,λk q=>?_,λd=>?_,λi hi=>?_,λk q=>?_,b.o⟩,m.trans λu w E=>?_⟩
 ·obtain⟨x,z,A,B⟩:=c.2 k q;have y:=c.1 k;show g.H (C.κ k)=_;have:=b.h k x;rw[show(C.r γ).κ k=C.κ k from rfl]at this;rw[this];simp only[AJ];show _=Blk.mk (rebase γ a.H k+(AB hs k).g) true (AB hs k).e (AB hs k).sz (Ao (C.r (rebase γ a.H)) (AB hs k).cells);rw[y,z,A,B];rfl
 ·show(g.H (C.l+1,d)).g=rebase γ a.H (1,d)+(AB hs (1,d)).g;have e0:(AB hs (1,d)).g=0:=c.1 _;rw[e0,b.g];rfl
 ·show(g.H (C.κ (0,i))).g=rebase γ a.H (0,i)+(AB hs (0,i)).g;have e0:(AB hs (0,i)).g=0:=c.1 _;rw[e0];exact b.go i hi
 ·exact b.k k (c.2 k q).1
 ·obtain⟨s,H⟩:=g;refine R.weaken E λj=>?_;rcases rR (H:=a.H) (s:=a.s) f.ls j with e|e
  ·simp only[e];unfold gZ;split
   ·rename_i v I;left;rw[s3 (γ:=γ) I];exact((b.s j).1 A8).symm
   ·right;simp[ren]
  ·right;simp only[e];simp[ren]
end
end Go.Eng
