import Derived.Test.YthcplkfhnnlafaaGreatZm06
import Derived.Test.YthcplkfhnnlafaaGreatZm04
import Derived.Test.YthcplkfhnnlafaaGreatZm00
namespace Go.Eng
set_option linter.all false
open Go Go.RowKit
section
variable {P:Program} {T:Nat->Option TI} {r:Ren} {l n outs:Nat} {B:Base} {env:BP} {τ σ:St} {a:AT} {o:Oper}
theorem p8{H:Hp}{op:Op}{ρ:Operand->AV}{g:Option Bool}{K:AV->AT->Prop}(h:tV T H op ρ g a K):∃v b,K v b:=by
 have fin:∀{v b},K v b->∃v b,K v b:=λh=>⟨_,_,h⟩;cases op<;>simp only[tV]at h<;>try exact h.elim
 case move x=>exact fin h
 case assign x=>exact fin h
 case pick c x y=>split at h<;>first|exact fin h|exact h.elim
 case load t x=>
  split at h
  ·unfold O7 at h
   repeat' split at h
   all_goals first|exact h.elim|exact fin h|exact fin h.2
  ·grind
 case fieldAddr t x f=>
  split at h
  ·unfold V8 at h;grind
  ·grind
 case field t x f=>
  split at h
  ·unfold Xg at h;grind
  ·grind
 case indexAddr t x j=>
  split at h
  ·unfold Wa at h;grind
  ·grind
 case index t x j=>
  split at h
  ·unfold WT at h;grind
  ·grind
 case extract x j=>
  repeat' split at h
  all_goals first|exact h.elim|exact fin h
 case makeInterface t x=>
  repeat' split at h
  all_goals first|exact h.elim|exact fin h
 case typeAssert x u t ok=>
  repeat' split at h
  all_goals first|exact h.elim|exact fin h
 case binOp o t x y u=>
  split at h
  ·unfold Ui at h;split at h
   ·split at h
    ·unfold UQ at h;grind
    grind
   ·unfold Uy at h;grind
   ·grind
   ·grind
   ·split at h
    ·have nl:∀{neg:Bool} {x:AV},Nr H neg x a K->∃v b,K v b:=fun {neg x} h=>by
      unfold Nr at h
      repeat' split at h
      all_goals first|exact h.elim|exact fin (h true)|exact fin (h neg (λ_=>rfl))
     grind
    grind
   grind
  ·grind
 case unOp o t x=>
  unfold ZM at h
  repeat' split at h
  all_goals first|exact h.elim|exact fin h|exact fin h.2
 case nilCheck x=>
  split at h
  ·grind
  ·grind
  ·grind
 case convert s d x=>
  split at h
  ·unfold Zl at h;grind
  ·grind
 case makeFunc fn first e=>split at h<;>first|exact h.elim|exact fin h
 case slice t x lo hi k=>
  split at h
  ·unfold Xl at h;grind
  ·grind
 case build t parts=>
  split at h
  ·unfold W9 at h;grind
  ·grind
 case lookup t x y i=>
  split at h
  ·unfold XU at h;grind
  ·grind
 case call c=>
  split at h
  ·split at h
   ·unfold U1 at h;grind
   grind
  ·unfold EZ at h;grind
  ·unfold EZ at h;grind
  ·unfold Ie at h;grind
  ·grind
theorem X7{op:Op}{g:Option Bool}{K:AV->AT->Prop}(h:pV P T l r τ op g a K):∃v b,K v b:=by
 unfold pV at h;split at h
 ·split at h
  ·unfold T7 at h;grind
  ·exact p8 h
 ·unfold ZD at h
  repeat' split at h
  all_goals first|exact h.elim|exact⟨_,_,h⟩
 ·exact p8 h
def Yl(r:Ren)(e:Nat)(K:AV->AT->Prop)(σ b:St):Prop:=∃v a,b=⟨upd σ.s e (ren r v),σ.H⟩/\K v a
theorem jl(E:Bi P T)(h:RG r l outs env τ σ){c:Dj}(hs:Dn τ.s c){g:Option Bool}(M:∀b,g=some b->b=true){e:Nat}{op:Op}{ty:TypeId}{ps:String}{af:Array Edge}{gd:Option (Nat×Bool)}
  (hx:CE env c op=true) (q:e<n) {K:AV->AT->Prop} (d:pV P T l r τ op g a K):BI P l n ⟨some e,op,ty,ps,af,gd⟩ (Yl r e K σ) σ:=by
 have val:tV T τ.H op (ev τ.s) g a K->BI P l n ⟨some e,op,ty,ps,af,gd⟩ (Yl r e K σ) σ=A8 P σ.H op (ev σ.s) (CY n (some e) (Yl r e K σ) σ)->BI P l n ⟨some e,op,ty,ps,af,gd⟩ (Yl r e K σ) σ:=λC D=>by rw[D];exact WF (λy ⟨v,A,u,B⟩=>⟨q,v,A,by rw[u],B⟩) (mY E h hs M hx C)
 unfold pV at d;split at d
 ·rename_i c;split at d
  ·rename_i f k;obtain⟨i,first,L,x,A,u,B,O⟩:=gn h hs M k hx d;simp only[BI,k,u];exact B.mono λy V ⟨C,D⟩=>by subst C;subst D;exact⟨q,x,A,rfl,O⟩
  ·rename_i G;refine val d ?_;cases k:c.callee with
   |value f=>exact absurd k (G f)
   |invoke x m=>simp only[tV,k]at d
   |builtin b=>
    cases b<;>simp only[tV,k]at d<;>simp only[BI,k]
 ·rename_i t len parts;have I:(Op.buildSlice t len parts).operands.toList.all (JP env c)=true:=hx;have u:(parts.toList.map λp=>(p.1,ev σ.s p.2))=(parts.toList.map λp=>(p.1,ev τ.s p.2)).map λp=>(p.1,ren r p.2):=by rw[J8];refine El λp d=>?_;simp only[Function.comp];rw[Hf h hs I p.2 (by simp only[Op.operands,P0,YV];exact⟨p,d,rfl⟩)]
  unfold ZD at d;split at d
  case h_2=>exact d.elim
  rename_i i hi;split at d
  case h_2=>exact d.elim
  rename_i e' sz he;simp only[BI,(E _ _ hi).elm _ he];split at d
  ·rename_i o;have o:=Ym o;refine⟨ae,?_⟩;split at d
   ·rename_i H;exact⟨by rw[<-G8,H];rfl,q,.e0,a,by simp[ren],d⟩
   grind
  ·rename_i N o;have o:=Ym o;refine⟨ae,?_⟩;split at d
   case h_2=>exact d.elim
   rename_i j S w;split at d
   case h_2=>exact d.elim
   rename_i z U;split at d
   case h_2=>exact d.elim
   rename_i Q J s;split at d
   case h_2=>exact d.elim
   rename_i F;rw[Wv s]at u;rw[u];simp only[(E _ _ S).zer _ U,s];exact⟨Ym w,Yd J,Yd F,q,.d (.list Q),a,by simp[ren],d⟩
  grind
 ·rename_i R W;refine val d ?_;cases op<;>simp only[tV]at d<;>try exact d.elim
  case call c=>exact absurd rfl (R c)
  all_goals simp only[BI]
theorem mP(y:Bi P T)(h:RG r l outs env τ σ){c:Dj}(hs:Dn τ.s c){g:Option Bool}(G:∀b,g=some b->b=true){e:Nat}{op:Op}{ty:TypeId}{ps:String}{af:Array Edge}{gd:Option (Nat×Bool)}
  (hx:CE env c op=true) (o:e<n) {K:AV->AT->Prop} (d:pV P T l r τ op g a K):GI P l n ⟨some e,op,ty,ps,af,gd⟩ (Yl r e K σ) σ:=by
 have C:=jl (ty:=ty) (ps:=ps) (af:=af) (gd:=gd) y h hs G hx o d;unfold pV at d;split at d
 ·rename_i c;split at d
  ·rename_i f k;obtain⟨i,first,F,x,I,v,J,L⟩:=gn h hs G k hx d;simp only[GI,k,v];exact⟨ren r x,J,o,x,I,rfl,L⟩
  ·rename_i B;cases k:c.callee with
   |value f=>exact absurd k (B f)
   |_=>simp only[GI,k];exact C
 ·rename_i t len parts;cases len with
  |zero=>exact C
  |succ len=>
   have D:(Op.buildSlice t (len+1) parts).operands.toList.all (JP env c)=true:=hx;have v:(parts.toList.map λp=>(p.1,ev σ.s p.2))=(parts.toList.map λp=>(p.1,ev τ.s p.2)).map λp=>(p.1,ren r p.2):=(by rw[J8];refine El λp d=>?_;simp only[Function.comp];rw[Hf h hs D p.2 (by simp only[Op.operands,P0,YV];exact⟨p,d,rfl⟩)]);unfold ZD at d;split at d
   case h_2=>exact d.elim
   rename_i i hi;split at d
   case h_2=>exact d.elim
   rename_i e' sz he;split at d
   ·rename_i q;cases q
   ·rename_i H u q;cases q;have u:=Ym u;split at d
    case h_2=>exact d.elim
    rename_i j O s;split at d
    case h_2=>exact d.elim
    rename_i z Q;split at d
    case h_2=>exact d.elim
    rename_i w E m;split at d
    case h_2=>exact d.elim
    rename_i A;rw[Wv m]at v;exact⟨.d (.list w),⟨e',sz,z,w,(y _ _ hi).elm _ he,ae,Ym s,(y _ _ O).zer _ Q,Yd E,by rw[v];exact m,Yd A,rfl⟩,o,.d (.list w),a,by simp[ren],d⟩
   ·exact d.elim
 ·rename_i M N;cases op<;>first|exact absurd rfl (M _)|exact absurd rfl (N _ _ _)|exact C
theorem Rj{d:Nat}{e:TypeId}{sz:Nat}{cells:List AV}{x:Nat->AV}{K a:St->Prop}(b:∀σ,K σ->a σ)(h:ES l n d e sz cells x K σ):ES l n d e sz cells x a σ:=⟨h.1,b _ h.2⟩
theorem yA{o:Oper}{K b:St->Prop}(a:∀σ,K σ->b σ)(h:BI P l n o K σ):BI P l n o b σ:=by
 have i:∀x,CY n o.dst K σ x->CY n o.dst b σ x:=λx h=>by unfold CY at h⊢;grind
 unfold BI at h⊢;split at h
 ·split at h
  ·exact⟨h.1,Rj a h.2⟩
  grind
 ·split at h
  ·exact⟨h.1,Rj a h.2⟩
  grind
 ·grind
 ·split at h
  ·refine⟨h.1,?_⟩;replace h:=h.2;split at h
   ·grind
   ·refine⟨h.1,?_⟩;replace h:=h.2;split at h
    ·refine⟨h.1,?_⟩;replace h:=h.2;split at h
     ·grind
     ·split at h
      ·exact Rj a h
      grind
    grind
  grind
 ·split at h
  ·obtain⟨c,d,f,j,k,h⟩:=h;refine⟨c,d,f,j,k,?_⟩;split at h
   ·exact⟨h.1,Rj a h.2⟩
   grind
  grind
 ·split at h
  ·split at h
   ·exact h.mono λr m g=>by unfold Qx at g⊢;unfold CY at g⊢;grind
   grind
  ·split at h
   ·refine⟨h.1,?_⟩;replace h:=h.2;unfold NM at h⊢;split at h
    ·obtain⟨c,d,f,h⟩:=h;refine⟨c,d,f,?_⟩;split at h
     ·refine⟨h.1,?_⟩;replace h:=h.2;split at h
      ·exact⟨h.1,λe=>⟨(h.2.1 e).1,a _ (h.2.1 e).2⟩,λe=>Rj a (h.2.2 e)⟩
      ·grind
      grind
     grind
    grind
   grind
  ·exact WF i h
 ·exact WF i h
theorem Wq{o:Oper}{K a:St->Prop}(b:∀σ,K σ->a σ)(h:GI P l n o K σ):GI P l n o a σ:=by
 have e:∀{x},CY n o.dst K σ x->CY n o.dst a σ x:=fun {x} h=>by unfold CY at h⊢;grind
 unfold GI at h⊢;split at h
 ·obtain⟨v,c,d⟩:=h;exact⟨v,c,e d⟩
 ·split at h
  ·grind
  ·exact yA b h
 ·exact yA b h
theorem gA(h:RG r l outs env τ σ){ds:List (Option Nat)}{i d:Nat}{b g:Bool}(j:Bp ds i=some (some d))(a:Hm τ.s ((d,b)::lk env d)=some g):JR σ.s ds i b=some g:=by
 rw[CC]at j;have f:=KP a;unfold JR;simp only[j];by_cases hs:Dn τ.s (lk env d)
 ·have k:=(h.s d).1 hs;have m:∃t,τ.s d=.d (.bool t):=by
   cases hl:lk env d with
   |nil=>
    rw[hl]at a;simp only[Hm]at a;grind
   |cons q o=>
    rw[hl]at a;simp only[Hm]at a;grind
  obtain⟨t,n⟩:=m;rw[k,n];simp only[ren,Yo];cases g with
  |true=>
   have:=f.1 rfl (d,b) (YH ..);grind
  |false=>
   cases e:t==b with
   |false=>rfl
   |true=>
    exfalso;have e:t=b:=(by simpa using e);have:Dn τ.s ((d,b)::lk env d):=λq c=>by
     rcases Yx.1 c with rfl|c
     ·grind
     ·exact hs q c
    grind
 ·rw[(h.s d).2 hs];simp only[Yo];cases g with
  |false=>rfl
  |true=>exact absurd (λq c=>f.1 rfl q (YI _ c)) hs
theorem Oe(F:RenOk r l outs)(A:Bi P T){ops:Array Oper}{K:St->BP->AT->Prop}{QQ:Exit->Act->World->Prop}(more:List Oper)
  (D:∀τ' k u G f w',K τ' k u->RG r l outs k τ' G->R l n B G f w'->wpList P ops QQ more f w'):
  ∀(c:List Oper) (env:BP) (a:AT) (τ σ:St) (act:Act) (w:World),GS P T l n r (ops.toList.map (·.dst)) c env a K τ->RG r l outs env τ σ->R l n B σ act w->wpList P ops QQ (c++more) act w
 |[],env,a,τ,σ,act,w,h,p,x=>D _ _ _ _ _ _ h p x
 |o::c,env,a,τ,σ,act,w,h,p,x=>by
  unfold GS at h;split at h
  ·rename_i E;split at h
   ·rename_i V Z;refine fN (by simp[Region.wanted,E]) (xP (B:=B) F A p V Z h) x λG f w' I q=>?_;obtain⟨σ'',⟨τ',u,z,N⟩,O⟩:=I;exact Oe F A more D c _ _ _ _ _ _ z N (O _ _ q)
   grind
  ·rename_i i b E;split at h
   case h_2=>exact h.elim
   rename_i d e W he;split at h
   case h_2=>exact h.elim
   rename_i g t hx j C;simp only[Yc]at j;have C:=Ym C;have J:=gA p W t;have hy:(yielded ops act.tmps i==some b)=g:=(by obtain⟨s,H⟩:=σ;obtain⟨m,S,hO,L,X,Q,Y⟩:=x.un;exact gH Q J);cases g with
   |true=>
    have hs:=(KP t).1 rfl;refine fN (by simp only[Region.wanted,E];exact hy) (σ:=σ) (B:=B) (l:=l) (n:=n) (KK:=Yl r e (λv u=>GS P T l n r (ops.toList.map (·.dst)) c ((e,(d,b)::lk env d)::env) u K ⟨upd τ.s e v,τ.H⟩) σ) (Mh ?_) x λG f w' U q=>?_
    ·obtain⟨M,op,ty,ps,af,gd⟩:=o;simp only at he;subst he;exact jl A p hs (λb' e'=>by cases e';rfl) hx ae h
    ·obtain⟨v,u,rfl,z⟩:=U;exact Oe F A more D c _ _ _ _ _ _ z (p.put j.1 j.2 (λ_=>rfl) (λL=>absurd hs L)) q
   |false=>
    have hs:¬Dn τ.s ((d,b)::lk env d):=λhs=>by have:=(KP t).2 hs;cases this
    obtain⟨v,u,z⟩:=X7 h;show wpList P ops QQ (o::(c++more)) act w;unfold wpList;rw[Yh (by simp only[Region.wanted,E,hy];decide),he];exact Oe F A more D c _ _ _ _ _ _ z (p.put j.1 j.2 (y:=.tup []) (λh=>absurd h hs) (λ_=>rfl)) (R.undef x ae)
theorem Oh(L:RenOk r l outs)(B:Bi P T){ds:List (Option Nat)}{K:St->BP->AT->Prop}:
  ∀(rest:List Oper) (env:BP) (a:AT) (τ σ:St),rest.all (λo=>Dq o||Cd o)=true->H8 P T l n r ds rest env a K τ->RG r l outs env τ σ->Ew P l n ds rest (λY=>∃τ' z f,K τ' z f/\RG r l outs z τ' Y) σ
 |[],env,a,τ,σ,_,h,u=>⟨_,_,_,h,u⟩
 |o::rest,env,a,τ,σ,w,h,u=>by
  simp only[J6,Yc]at w;unfold H8 at h;unfold Ew;split at h
  ·rename_i G;simp only[G];split at h
   case h_2=>exact h.elim
   rename_i I Z;by_cases H:Cd o=true
   ·obtain⟨j,op,ty,ps,af,gd⟩:=o;cases op<;>simp only[Cd]at H<;>first|(cases H;done)|skip
    rename_i t p x;cases j with
    |some d=>cases H
    |none=>
     unfold dw at h;simp only at h;unfold JC LP Kj LJ at h;simp only at h I;split at h
     case h_2=>exact h.elim
     rename_i i hi U;have A:∀y∈(Op.store t p x).operands,ev σ.s y=ren r (ev τ.s y):=(by unfold CE at I;exact Hf u A9 I);have hx:=A x (by simp[Op.operands]);have V:=A p (by simp[Op.operands]);cases W:Dp (ev τ.s x)with
     |none=>rw[W]at h;unfold R3 at h;split at h<;>first|exact h.elim|(rename_i e;cases e)
     |some vs=>
      rw[W]at h;have X:=QY (r:=r) W (Rk U);obtain⟨k,g,off,M,e2,e3,e4,e5,e6,e7,e8⟩:=vT L u (B _ _ hi) h;obtain⟨τ',f,m,h2⟩:=e8;simp only[GI,BI,V,hx,X,M];exact⟨e2,e3,e4,e5,e6,e7,Oh L B rest _ _ _ _ w.2 m h2⟩
   have J:Dq o=true:=(by grind);replace w:Dq o=true/\_:=⟨J,w.2⟩;obtain⟨j,op,ty,ps,af,gd⟩:=o;have E:∃d,j=some d:=by
    have:=w.1;unfold Dq CD at this;rw[YG,Yc,Yc]at this;rcases this with h|h
    ·exact E1.1 h.1
    ·exact E1.1 h.1
   obtain⟨d,rfl⟩:=E;simp only at I Z G;have hp:pV P T l r τ op none a (FX n d (λτ' f=>H8 P T l n r ds rest (FS env (some d)) f K τ') τ):=by
    by_cases C:∃t len p,op=.buildSlice t (len+1) p
    ·obtain⟨t,len,p,rfl⟩:=C;exact h
    ·have c:CD ⟨some d,op,ty,ps,af,gd⟩=true:=gY w.1 λt len p e=>C ⟨t,len,p,e⟩;have h:JC P T l n r ⟨some d,op,ty,ps,af,gd⟩ a (λτ' f=>H8 P T l n r ds rest (FS env (some d)) f K τ') τ:=by
      unfold dw at h;split at h
      ·rename_i M _;exact absurd ⟨_,_,_,M⟩ C
      ·exact h
     have h:=ZIG c (ZMY c h);unfold Kj at h;simp only at h;have h:LJ P T l n r ⟨some d,op,ty,ps,af,none⟩ a (λτ' f=>H8 P T l n r ds rest (FS env (some d)) f K τ') τ:=by
      subst G;split at h
      ·split at h
       ·rename_i q;simp[CD,q]at c
       ·grind
       ·exact h
      ·exact h
     unfold LJ at h;simp only at h;split at h
     ·simp[CD]at c
     ·simp[CD]at c
     ·grind
     ·simp[CD]at c
     ·simp[CD]at c
     ·split at h
      ·rename_i q;simp[CD,q]at c
      ·exact h
     ·exact h
   have Q:∃v f,FX n d (λτ' f=>H8 P T l n r ds rest (FS env (some d)) f K τ') τ v f:=X7 hp;have O:d<n:=by
    obtain⟨v,f,m⟩:=Q;unfold FX at m;split at m
    ·rename_i E;have E:=Ym E;exact E
    grind
   have:=mP (ty:=ty) (ps:=ps) (af:=af) (gd:=gd) B u A9 (λb e=>by cases e) I O hp;refine Wq (λY N=>?_) this;obtain⟨v,f,rfl,m⟩:=N;unfold FX at m;split at m
   ·exact Oh L B rest _ _ _ _ w.2 m (u.put0 Z rfl)
   grind
  ·rename_i i b G;have J:Dq o=true:=by
    have:=w.1;rw[YG]at this;rcases this with h|h
    ·exact h
    ·exfalso;obtain⟨j,op,ty,ps,af,gd⟩:=o;simp only at G;subst G;cases op<;>cases j<;>simp[Cd]at h
   simp only[G];split at h
   case h_2=>exact h.elim
   rename_i d e E he;split at h
   case h_2=>exact h.elim
   rename_i g D hx s F;simp only[Yc]at s;have F:=Ym F;rw[gA u E D];refine⟨λS=>?_,λR=>?_⟩
   ·subst S;have hs:=(KP D).1 rfl;obtain⟨j,op,ty,ps,af,gd⟩:=o;simp only at he;subst he;refine Wq (λY N=>?_) (mP (ty:=ty) (ps:=ps) (af:=af) (gd:=gd) B u hs (λb' e'=>by cases e';rfl) hx ae h);obtain⟨v,f,rfl,m⟩:=N;exact Oh L B rest _ _ _ _ w.2 m (u.put s.1 s.2 (λ_=>rfl) (λhn=>absurd hs hn))
   ·subst R;have hs:¬Dn τ.s ((d,b)::lk env d):=λhs=>by have:=(KP D).2 hs;cases this
    obtain⟨v,f,m⟩:=X7 h;rw[he];exact⟨F,Oh L B rest _ _ _ _ w.2 m (u.put s.1 s.2 (y:=.tup []) (λh=>absurd h hs) (λ_=>rfl))⟩
end
end Go.Eng
namespace Go.Eng
set_option linter.all false
open Go Go.RowKit
def AB:List (Nat×AV)->Nat->AV
 |[],_=>.top
 |(i,x)::r,j=>match Nat.beq i j with|true=>x|false=>AB r j
def F1:Blk:=⟨0,false,0,0,[]⟩
def AF:List (Ad×Blk)->Ad->Blk
 |[],_=>F1
 |(k,b)::r,q=>match BM k q with|true=>b|false=>AF r q
def Ac(ss:List (Nat×AV))(hs:List (Ad×Blk)):St:=⟨AB ss,AF hs⟩
mutual
def EX(H:Hp):AV->Option AV
 |.ref k g off n=>match B5 H k g with|true=>some (.ref k 0 off n)|false=>none
 |.ptr k g off=>match B5 H k g with|true=>some (.ptr k 0 off)|false=>none
 |.mp k g=>match B5 H k g with|true=>some (.mp k 0)|false=>none
 |.fn f xs ys=>match JM H xs,JM H ys with|some xs,some ys=>some (.fn f xs ys)|_,_=>none
 |.agg xs=>match JM H xs with|some xs=>some (.agg xs)|none=>none
 |.tup xs=>match JM H xs with|some xs=>some (.tup xs)|none=>none
 |.top=>some .top
 |.d x=>some (.d x)
 |.e0=>some .e0
 |.p x=>some (.p x)
 |.iptr cs off=>some (.iptr cs off)
 |.ifc t ds a=>some (.ifc t ds a)
def JM(H:Hp):List AV->Option (List AV)
 |[]=>some []
 |x::xs=>match EX H x,JM H xs with|some x,some xs=>some (x::xs)|_,_=>none
end
def kb(H:Hp)(x:AV):AV:=match EX H x with|some v=>v|none=>.top
def Ot(H:Hp)(s:Nat->AV):List Nat->List (Nat×AV)
 |[]=>[]
 |j::r=>(j,kb H (s j))::Ot H s r
def Jc(cs:List AV):Prop:=∀x∈cs,x.flat=true
def OE(H:Hp):List (Ad×Bool)->(List (Ad×Blk)->Prop)->Prop
 |[],K=>K []
 |(k,fl)::r,K=>match (H k).live with
  |false=>OE H r K
  |true=>match fl with
   |true=>Jc (H k).cells/\OE H r (λa=>K ((k,⟨0,true,(H k).e,(H k).sz,(H k).cells⟩)::a))
   |false=>match JM H (H k).cells with
    |some cs=>OE H r (λa=>K ((k,⟨0,true,(H k).e,(H k).sz,cs⟩)::a))
    |none=>False
def Ur:AV->Bool
 |.e0=>true
 |_=>false
def RE:List (Nat×Nat×TypeId×Nat)->St->(St->Prop)->Prop
 |[],τ,K=>K τ
 |(j,d,e,sz)::r,τ,K=>match Ur (τ.s j),(τ.H (1,d)).live with
  |true,false=>RE r ⟨upd τ.s j (.ref (1,d) ((τ.H (1,d)).g+1) 0 0),updH τ.H (1,d) ⟨(τ.H (1,d)).g+1,true,e,sz,[]⟩⟩ K
  |true,true=>False
  |false,_=>RE r τ K
structure Lf where
 ls:List Nat
 ks:List (Ad×Bool):=[]
 ad:List (Nat×Nat×TypeId×Nat):=[]
 ze:List Nat:=[]
def Pp:List Nat->St->St
 |[],τ=>τ
 |j::r,τ=>match Ur (τ.s j)with|true=>Pp r ⟨upd τ.s j (.d (.list [])),τ.H⟩|false=>Pp r τ
def gz(H:Hp):List Nat->Bool
 |[]=>true
 |i::r=>Nat.beq (H (0,i)).g 0&&gz H r
def EO(fx:List Nat)(f:Lf)(τ:St)(Φ:St->Prop):Prop:=RE f.ad (Pp f.ze τ) (λτ=>match gz τ.H fx with|true=>OE τ.H f.ks (λhs=>Φ (Ac (Ot τ.H τ.s f.ls) hs))|false=>False)
structure Cx where
 l:Nat
 B:Base
 κ:Ad->Ad
 θ:Nat->AV
 H0:Hp
 outs:Nat
 no:Ad->Prop
 fx:List Nat
 G:(Ad->Nat)->Prop
def Cx.r(C:Cx)(γ:Ad->Nat):Ren:=⟨C.κ,γ,C.θ,C.H0,C.no⟩
structure CxOk (C:Cx):Prop where
 own:∀d,C.κ (1,d)=(C.l+1,d)
 out:∀i,i<C.outs->(C.κ (0,i)).1<=C.l
 inj:∀i j,i<C.outs->j<C.outs->C.κ (0,i)=C.κ (0,j)->i=j
 no:∀k,C.no k->∃i,i<C.outs/\C.κ (0,i)=k
 G:∀γ γ':Ad->Nat,(∀i∈C.fx,γ' (0,i)=γ (0,i))->C.G γ->C.G γ'
theorem CxOk.ren{C:Cx}(h:CxOk C)(γ:Ad->Nat):RenOk (C.r γ) C.l C.outs:=⟨h.own,h.out,h.inj,h.no⟩
def Wk(n:Nat)(C:Cx)(σ b:St):Prop:=∀a w,R C.l n C.B σ a w->R C.l n C.B b a w
def Is(n:Nat)(C:Cx)(Φ:St->Prop)(σ:St):Prop:=∃γ τ a,C.G γ/\Φ τ/\RG (C.r γ) C.l C.outs [] τ a/\Wk n C σ a
def LW(P:Program)(n:Nat)(C:Cx)(c:Code)(τ:St)(Q:Exit->St->Prop):Prop:=
 ∀γ σ,C.G γ->RG (C.r γ) C.l C.outs [] τ σ->BT P C.l n C.B c (λe a=>Is n C (Q e) a) σ
def ZB(P:Program)(l n:Nat)(B:Base)(c:Code)(Q:Exit->St->Prop)(σ:St):Prop:=
 ∀a w,R l n B σ a w->∀(b:Frame) (k:List Item) (cs:List Frame),∃e d w',(∃f,Q e f/\R l n B f d w')/\Arrives P (lone (b.at a (.code c::.inLoop c::k)) cs w) b k cs e d w'
def LL(P:Program)(n:Nat)(C:Cx)(c:Code)(τ:St)(Q:Exit->St->Prop):Prop:=
 ∀γ σ,C.G γ->RG (C.r γ) C.l C.outs [] τ σ->ZB P C.l n C.B c (λe a=>Is n C (Q e) a) σ
def Eh(env:BP)(τ:St):St:=⟨λj=>match lk env j with|[]=>τ.s j|_=>.top,τ.H⟩
def Iw(C:List AV)(off n sz:Nat)(es:List (List D)):Prop:=es.length=n/\sz≠0/\(∀e∈es,e.length=sz)/\(off+n)*sz<=C.length/\(C.drop (off*sz)).take (n*sz)=es.flatten.map .d
def ZI(H:Hp)(d:Nat)(s:Nat->AV)(A:Prop):List (Nat×List (List D))->Prop
 |[]=>A
 |(j,a)::r=>match s j with
  |.ref k q off m=>(match BM k (1,d),B5 H k q with|true,true=>Iw (H (1,d)).cells off m (H (1,d)).sz a/\ZI H d s A r|_,_=>False)
  |_=>False
def ZE(H:Hp)(d:Nat)(A:Prop):List (Ad×Nat×List (List D))->Prop
 |[]=>A
 |(k,i,a)::r=>match Nat.beq k.1 1,BM k (1,d),(H k).live,Bp (H k).cells i with
  |true,false,true,some (.ref k' q off m)=>(match BM k' (1,d),B5 H k' q with|true,true=>Iw (H (1,d)).cells off m (H (1,d)).sz a/\ZE H d A r|_,_=>False)
  |_,_,_,_=>False
def trK(r:Ren)(k:Ad)(A:Prop):Prop:=
 match Nat.beq k.1 1 with
 |true=>A
 |false=>M8 r k/\A
def ZJ(H:Hp)(d:Nat)(s:Nat->AV):List Nat->Bool
 |[]=>true
 |j::r=>match s j with
  |.mp k g=>BM k (1,d)&&B5 H k g&&ZJ H d s r
  |_=>false
def ZL(H:Hp)(d:Nat)(s:Nat->AV):List Nat->Bool
 |[]=>true
 |j::r=>match s j with
  |.ptr k g 0=>BM k (1,d)&&B5 H k g&&ZL H d s r
  |_=>false
def Bg(r:Ren)(os:Nat):AT->St->(St->AT->Prop)->Prop
 |.frz d f cs b,τ,K=>match (τ.H (1,d)).live,Nat.ble 1 (τ.H (1,d)).sz with
  |true,true=>ZI τ.H d τ.s (ZE τ.H d (Bg r os b ⟨Kz f τ.s,Ju cs (updH τ.H (1,d) ⟨(τ.H (1,d)).g,false,(τ.H (1,d)).e,(τ.H (1,d)).sz,(τ.H (1,d)).cells⟩)⟩ K) cs) f
  |_,_=>False
 |.adc k i d e sz b,τ,K=>match Nat.beq k.1 1,BM k (1,d),(τ.H k).live,Bp (τ.H k).cells i with
  |true,false,true,some .e0=>Bg r os b ⟨τ.s,updH (updH τ.H (1,d) ⟨(τ.H (1,d)).g+1,true,e,sz,[]⟩) k ⟨(τ.H k).g,true,(τ.H k).e,(τ.H k).sz,(τ.H k).cells.set i (.ref (1,d) ((τ.H (1,d)).g+1) 0 0)⟩⟩ K
  |_,_,_,_=>False
 |.sep b,τ,K=>K τ b
 |.ads j d e sz b,τ,K=>match Ur (τ.s j)with
  |true=>Bg r os b ⟨upd τ.s j (.ref (1,d) ((τ.H (1,d)).g+1) 0 0),updH τ.H (1,d) ⟨(τ.H (1,d)).g+1,true,e,sz,[]⟩⟩ K
  |false=>False
 |.trim k c b,τ,K=>match (τ.H k).live with
  |true=>(∃m,(τ.H k).cells.take m=c)/\trK r k (Bg r os b ⟨τ.s,updH τ.H k ⟨(τ.H k).g,true,(τ.H k).e,(τ.H k).sz,c⟩⟩ K)
  |false=>False
 |.reb j d m c b,τ,K=>match τ.s j with
  |.ref k q off n=>(match BM k (1,d),B5 τ.H k q with
   |true,true=>(n=m/\off*(τ.H k).sz<=(τ.H k).cells.length/\(τ.H k).cells.drop (off*(τ.H k).sz)=c)/\Bg r os b ⟨upd τ.s j (.ref k (q+1) 0 m),updH τ.H k ⟨q+1,true,.t (τ.H k).e.ty,(τ.H k).sz,c⟩⟩ K
   |_,_=>False)
  |_=>False
 |.mv d j b,τ,K=>match (τ.H (1,d)).live with
  |true=>Gx (τ.H (1,d)).cells/\(j<os/\r.no (r.κ (0,j)))/\Bg r os b ⟨λi=>F6 (1,d) (0,j) (τ.H (1,d)).g ((τ.H (0,j)).g+1) (τ.s i),
    updH (updH τ.H (1,d) ⟨(τ.H (1,d)).g,false,(τ.H (1,d)).e,(τ.H (1,d)).sz,(τ.H (1,d)).cells⟩) (0,j) ⟨(τ.H (0,j)).g+1,true,(τ.H (1,d)).e,(τ.H (1,d)).sz,(τ.H (1,d)).cells⟩⟩ K
  |false=>False
 |.fzm d f b,τ,K=>match (τ.H (1,d)).live,(τ.H (1,d)).e,ZJ τ.H d τ.s f with
  |true,.m q h,true=>Bg r os b ⟨Fm (.d (.map q h)) f τ.s,updH τ.H (1,d) ⟨(τ.H (1,d)).g,false,(τ.H (1,d)).e,(τ.H (1,d)).sz,(τ.H (1,d)).cells⟩⟩ K
  |_,_,_=>False
 |.fzb d f b,τ,K=>match (τ.H (1,d)).live,Nu (τ.H (1,d)).cells,ZL τ.H d τ.s f with
  |true,some (x::ds),true=>Bg r os b ⟨Fm (.iptr (x::ds) 0) f τ.s,updH τ.H (1,d) ⟨(τ.H (1,d)).g,false,(τ.H (1,d)).e,(τ.H (1,d)).sz,(τ.H (1,d)).cells⟩⟩ K
  |_,_,_=>False
 |.rnm d d' e i b,τ,K=>match (τ.H (1,d)).live,Nat.beq d d',Nat.beq e d,Nat.beq e d',(τ.H (1,e)).live,Bp (τ.H (1,e)).cells i with
  |true,false,false,false,true,some (.ref k g off c)=>(match BM k (1,d),Nat.beq g (τ.H (1,d)).g with
   |true,true=>Gx (τ.H (1,d)).cells/\Bg r os b ⟨λj=>F6 (1,d) (1,d') (τ.H (1,d)).g ((τ.H (1,d')).g+1) (τ.s j),
     updH (updH (updH τ.H (1,d) ⟨(τ.H (1,d)).g,false,(τ.H (1,d)).e,(τ.H (1,d)).sz,(τ.H (1,d)).cells⟩) (1,d') ⟨(τ.H (1,d')).g+1,true,(τ.H (1,d)).e,(τ.H (1,d)).sz,(τ.H (1,d)).cells⟩)
      (1,e) ⟨(τ.H (1,e)).g,true,(τ.H (1,e)).e,(τ.H (1,e)).sz,(τ.H (1,e)).cells.set i (.ref (1,d') ((τ.H (1,d')).g+1) off c)⟩⟩ K
   |_,_=>False)
  |_,_,_,_,_,_=>False
 |.mvc d q e i b,τ,K=>match (τ.H (1,d)).live,Nat.beq e d,(τ.H (1,e)).live,Bp (τ.H (1,e)).cells i with
  |true,false,true,some (.ref k g off c)=>(match BM k (1,d),Nat.beq g (τ.H (1,d)).g with
   |true,true=>Gx (τ.H (1,d)).cells/\(q<os/\r.no (r.κ (0,q)))/\Bg r os b ⟨λj=>F6 (1,d) (0,q) (τ.H (1,d)).g ((τ.H (0,q)).g+1) (τ.s j),
     updH (updH (updH τ.H (1,d) ⟨(τ.H (1,d)).g,false,(τ.H (1,d)).e,(τ.H (1,d)).sz,(τ.H (1,d)).cells⟩) (0,q) ⟨(τ.H (0,q)).g+1,true,(τ.H (1,d)).e,(τ.H (1,d)).sz,(τ.H (1,d)).cells⟩)
      (1,e) ⟨(τ.H (1,e)).g,true,(τ.H (1,e)).e,(τ.H (1,e)).sz,(τ.H (1,e)).cells.set i (.ref (0,q) ((τ.H (0,q)).g+1) off c)⟩⟩ K
   |_,_=>False)
  |_,_,_,_=>False
 |a,τ,K=>K τ a
def C7(P:Program)(T:Nat->Option TI)(l n os:Nat)(r:Ren):Code->AT->St->(Exit->St->AT->Prop)->Prop
 |.skip,a,τ,K=>K .normal τ a
 |.ret,a,τ,K=>Bg r os a τ (λτ a=>K .ret τ a)
 |.exit id,a,τ,K=>K (.exit id) τ a
 |.seq x y,a,τ,K=>C7 P T l n os r x a τ (λe τ' d=>match e with|.normal=>C7 P T l n os r y d τ' K|e=>K e τ' d)
 |.block id c,a,τ,K=>C7 P T l n os r c a τ (λe τ' d=>match e with|.exit i=>(match Nat.beq i id with|true=>K .normal τ' d|false=>K (.exit i) τ' d)|e=>K e τ' d)
 |.cond c x y,a,τ,K=>match ev τ.s c,a with
  |.d (.bool b),.br a1 g=>(b=true->C7 P T l n os r x a1 τ K)/\(b=false->C7 P T l n os r y g τ K)
  |.d (.bool b),.go a=>(match b with|true=>C7 P T l n os r x a τ K|false=>C7 P T l n os r y a τ K)
  |.d (.bool b),.one v a=>(match v with|true=>(b=true->C7 P T l n os r x a τ K)/\(b=false->False)|false=>(b=true->False)/\(b=false->C7 P T l n os r y a τ K))
  |_,_=>False
 |.region _ ops f,a,τ,K=>match f with
  |false=>Bg r os a τ (λτ a=>GS P T l n r (ops.toList.map (·.dst)) ops.toList [] a (λτ' env d=>K .normal (Eh env τ') d) τ)
  |true=>match Zy ops.toList&&ops.toList.all (λo=>Dq o||Cd o)&&MZ ops.toList 0 ops.toList with
   |true=>Bg r os a τ (λτ a=>H8 P T l n r (ops.toList.map (·.dst)) ops.toList [] a (λτ' env d=>K .normal (Eh env τ') d) τ)
   |false=>False
 |_,_,_,_=>False
mutual
def frz(H:Hp):AV->AT->(AV->AT->Prop)->Prop
 |.d x,a,K=>K (.d x) a
 |.e0,a,K=>K (.d (.list [])) a
 |.ifc t ds q,a,K=>K (.ifc t ds q) a
 |.agg xs,a,K=>Kv H xs a (λys c=>K (.agg ys) c)
 |.ref k g off n,a,K=>match Nat.beq k.1 0,Nat.beq k.1 1,B5 H k g with
  |true,_,true=>K (.ref k g off n) a
  |false,true,true=>(match a with|.av (.d (.list b)) c=>Iw (H k).cells off n (H k).sz b/\K (.d (.list b)) c|_=>False)
  |_,_,_=>False
 |.mp k g,a,K=>match Nat.beq k.1 0,Nat.beq k.1 1,B5 H k g,(H k).e with
  |true,_,true,_=>K (.mp k g) a
  |false,true,true,.m q b=>K (.d (.map q b)) a
  |_,_,_,_=>False
 |_,_,_=>False
def Kv(H:Hp):List AV->AT->(List AV->AT->Prop)->Prop
 |[],a,K=>K [] a
 |x::xs,a,K=>frz H x a (λy c=>Kv H xs c (λys b=>K (y::ys) b))
end
def j6(T:Nat->Option TI)(τ:St):ResultVar->(AV->Prop)->Prop
 |.tmp t,K=>K (τ.s t)
 |.cell p t,K=>match τ.s p,T t with
  |.ptr k g off,some i=>(match B5 τ.H k g,i.agg with
   |true,true=>(match Nat.ble 1 i.siz,K6 i.siz ((τ.H k).cells.drop off)with|true,some c=>K (.agg c)|_,_=>False)
   |true,false=>(match Bp (τ.H k).cells off with|some c=>K c|none=>False)
   |false,_=>False)
  |_,_=>False
def dl(T:Nat->Option TI)(τ:St):List ResultVar->(List AV->Prop)->Prop
 |[],K=>K []
 |v::vs,K=>j6 T τ v (λx=>dl T τ vs (λxs=>K (x::xs)))
def Li(H:Hp):Nat->Nat->List Blk
 |0,_=>[]
 |n+1,i=>H (0,i)::Li H n (i+1)
def Qh(T:Nat->Option TI)(c:List ResultVar)(os:Nat)(τ:St)(a:AT)(b:AV->List Blk->Prop):Prop:=
 dl T τ c (λxs=>Kv τ.H xs a (λys _=>b (D5 ys) (Li τ.H os 0)))
def FQ(T:Nat->Option TI)(c:List ResultVar)(os:Nat)(b:AV->List Blk->Prop)(e:Exit)(τ:St):Prop:=(e=.normal\/e=.ret)/\∃a,Qh T c os τ a b
section
variable {P:Program} {T:Nat->Option TI} {n:Nat} {C:Cx} {τ σ:St} {Q:Exit->St->Prop}
theorem Wk.refl(σ:St):Wk n C σ σ:=λ_ _ h=>h
theorem Wk.trans{σ c b:St}(h:Wk n C σ c)(k:Wk n C c b):Wk n C σ b:=λa w d=>k a w (h a w d)
theorem R.weaken{l:Nat}{B:Base}{s s':Nat->AV}{H:Hp}{a:Act}{w:World}(h:R l n B ⟨s,H⟩ a w)(hs:∀j,s' j=s j\/s' j=.top):R l n B ⟨s',H⟩ a w:=by
 obtain⟨m,S,d,g,b,f,c⟩:=h.un;refine⟨m,S,d,g,b,λi=>?_,c⟩;show RepA w S H m (l+1) (s' i) _;rcases hs i with e|e
 ·rw[e];exact f i
 ·rw[e];exact .top _
theorem Is.mono{Φ Ψ:St->Prop}(h:Is n C Φ σ)(e:∀τ,Φ τ->Ψ τ):Is n C Ψ σ:=by obtain⟨γ,τ,f,a,b,c,d⟩:=h;exact⟨γ,τ,f,a,e _ b,c,d⟩
theorem BT.weak{c:Code}{QQ:Exit->St->Prop}{b:St}(h:BT P C.l n C.B c QQ b)(e:Wk n C σ b):BT P C.l n C.B c QQ σ:=λa w d=>h a w (e a w d)
theorem ZB.weak{c:Code}{QQ:Exit->St->Prop}{b:St}(h:ZB P C.l n C.B c QQ b)(e:Wk n C σ b):ZB P C.l n C.B c QQ σ:=λa w d=>h a w (e a w d)
theorem LW.mono{c:Code}{a:Exit->St->Prop}(h:LW P n C c τ Q)(f:∀e τ,Q e τ->a e τ):LW P n C c τ a:=λγ σ d b=>IN (h γ σ d b) λe g hi=>hi.mono (f e)
theorem ZLF{x y:Code}(h:LW P n C x τ (λe τ'=>match e with|.normal=>LW P n C y τ' Q|e=>Q e τ')):LW P n C (.seq x y) τ Q:=by
 intro γ σ i g;refine gR (IN (h γ σ i g) λe k hi=>?_);cases e with
 |normal=>
  obtain⟨j,τ',a,b,c,d,f⟩:=hi;exact BT.weak (c j a b d) f
 |_=>exact hi
theorem Zyx{id:Nat}{c:Code}(h:LW P n C c τ (λe τ'=>match e with|.exit i=>if i=id then Q .normal τ' else Q (.exit i) τ'|e=>Q e τ')):LW P n C (.block id c) τ Q:=by
 intro γ σ b a;refine wy (IN (h γ σ b a) λe d hi=>?_);cases e with
 |exit i=>
  unfold Xk;simp only at hi⊢;split
  ·rename_i he;exact hi.mono λτ' h=>by rw[Yi he]at h;exact h
  ·rename_i he;exact hi.mono λτ' h=>by rw[Yh he]at h;exact h
 |_=>exact hi
theorem ZDD{c:Operand}{x y:Code}{b:Bool}(h:ev τ.s c=.d (.bool b))(f:b=true->LW P n C x τ Q)(g:b=false->LW P n C y τ Q):LW P n C (.cond c x y) τ Q:=by
 intro γ σ d a;have he:ev σ.s c=.d (.bool b):=by rw[My (c:=[]) a A9 (by cases c<;>rfl),h];simp[ren]
 exact Re he (λe=>f e γ σ d a) (λe=>g e γ σ d a)
theorem ZEb{c:Code}(h:LL P n C c τ Q):LW P n C (.loop c) τ Q:=by intro γ σ l i a w j b k cs;obtain⟨e,d,w',f,g⟩:=h γ σ l i a w j b k cs;exact⟨e,d,w',f,.of_steps (.one step_loop) g⟩
theorem Zw9{c:Code}(h:LW P n C c τ (λe τ'=>match e with|.normal=>LL P n C c τ' Q|e=>Q e τ')):LL P n C c τ Q:=by
 intro γ σ A y a w z b k cs;obtain⟨e,i,l,⟨m,j,f⟩,d⟩:=h γ σ A y a w z b (.inLoop c::k) cs;cases e with
 |normal=>
  obtain⟨D,τ',p,s,t,u,v⟩:=j;obtain⟨r,q,B,o,g⟩:=t D p s u i l (v _ _ f) b k cs;exact⟨r,q,B,o,.of_steps (Steps.trans d (.one step_inLoop)) g⟩
 |exit id=>exact⟨_,i,l,⟨m,j,f⟩,.pass (x:=.inLoop c) rfl (λ_ _=>.inl (by simp)) d⟩
 |goto id=>exact⟨_,i,l,⟨m,j,f⟩,.pass (x:=.inLoop c) rfl (λ_ _=>.inl (by simp)) d⟩
 |ret=>exact⟨_,i,l,⟨m,j,f⟩,.pass (x:=.inLoop c) rfl (λ_ _=>.inl (by simp)) d⟩
 |panic ch=>exact⟨_,i,l,⟨m,j,f⟩,.pass (x:=.inLoop c) rfl (λ_ _=>.inl (by simp)) d⟩
 |outgrown=>exact⟨_,i,l,⟨m,j,f⟩,.pass (x:=.inLoop c) rfl (λ_ _=>.inl (by simp)) d⟩
theorem Is.of{γ:Ad->Nat}{Φ:St->Prop}(b:C.G γ)(a:RG (C.r γ) C.l C.outs [] τ σ)(h:Φ τ):Is n C Φ σ:=⟨γ,τ,σ,b,h,a,Wk.refl σ⟩
theorem CL{a b:Ad}:BM a b=true↔a=b:=by obtain⟨a1,c⟩:=a;obtain⟨d,e⟩:=b;simp[BM]
theorem wA{H:Hp}{s:Nat->AV}:∀(ls:List Nat) (j:Nat),AB (Ot H s ls) j=kb H (s j)\/AB (Ot H s ls) j=.top
 |[],j=>.inr rfl
 |i::r,j=>by
  simp only[Ot,AB];split
  ·rename_i h;rw[Yd h];exact .inl rfl
  ·exact wA r j
def rebase(γ:Ad->Nat)(H:Hp):Ad->Nat:=λk=>γ k+(H k).g
mutual
theorem y1{γ:Ad->Nat}{H:Hp}:∀{x y:AV},EX H x=some y->ren (C.r (rebase γ H)) y=ren (C.r γ) x
 |.ref k g off m,y,h=>by
  simp only[EX]at h;split at h
  ·rename_i hl;cases h;obtain⟨b,_⟩:=Fa hl;subst b;simp[ren,Cx.r,rebase]
  ·cases h
 |.ptr k g off,y,h=>by
  simp only[EX]at h;split at h
  ·rename_i hl;cases h;obtain⟨b,_⟩:=Fa hl;subst b;simp[ren,Cx.r,rebase]
  ·cases h
 |.mp k g,y,h=>by
  simp only[EX]at h;split at h
  ·rename_i hl;cases h;obtain⟨b,_⟩:=Fa hl;subst b;simp[ren,Cx.r,rebase]
  ·cases h
 |.fn f xs ys,y,h=>by
  simp only[EX]at h;split at h
  ·rename_i xs' i b e;cases h;have c:=Of (γ:=γ) b;have d:=Of (γ:=γ) e;cases f<;>simp only[ren,c,d]<;>rfl
  ·cases h
 |.agg xs,y,h=>by
  simp only[EX]at h;split at h
  ·rename_i xs' b;cases h;simp only[ren,Of (γ:=γ) b]
  ·cases h
 |.tup xs,y,h=>by
  simp only[EX]at h;split at h
  ·rename_i xs' b;cases h;simp only[ren,Of (γ:=γ) b]
  ·cases h
 |.top,y,h=>by simp only[EX]at h;cases h;simp[ren]
 |.d x,y,h=>by simp only[EX]at h;cases h;simp[ren]
 |.e0,y,h=>by simp only[EX]at h;cases h;simp[ren]
 |.p x,y,h=>by simp only[EX]at h;cases h;simp[ren]
 |.iptr cs off,y,h=>by simp only[EX]at h;cases h;simp[ren]
 |.ifc t ds a,y,h=>by simp only[EX]at h;cases h;simp[ren]
theorem Of{γ:Ad->Nat}{H:Hp}:∀{xs ys:List AV},JM H xs=some ys->Aq (C.r (rebase γ H)) ys=Aq (C.r γ) xs
 |[],ys,h=>by simp only[JM]at h;cases h;simp[Aq]
 |x::xs,ys,h=>by
  simp only[JM]at h;split at h
  ·rename_i x' xs' a b;cases h;simp only[Aq,y1 (γ:=γ) a,Of (γ:=γ) b]
  ·cases h
end
def S7(C:Cx)(γ:Ad->Nat)(H:Hp)(hs:List (Ad×Blk)):Prop:=
 (∀k,(AF hs k).g=0)/\∀k,(AF hs k).live=true->(H k).live=true/\(AF hs k).e=(H k).e/\(AF hs k).sz=(H k).sz/\Aq (C.r (rebase γ H)) (AF hs k).cells=Aq (C.r γ) (H k).cells
theorem KN{r:Ren}{cs:List AV}(h:Jc cs):Aq r cs=cs:=Mi (Yv.2 h)
theorem S7.cons{γ:Ad->Nat}{H:Hp}{hs:List (Ad×Blk)}(h:S7 C γ H hs){k:Ad}{cs:List AV}(hl:(H k).live=true)(b:Aq (C.r (rebase γ H)) cs=Aq (C.r γ) (H k).cells):S7 C γ H ((k,⟨0,true,(H k).e,(H k).sz,cs⟩)::hs):=by
 refine⟨λq=>?_,λq a=>?_⟩
 ·simp only[AF];split
  ·rfl
  ·exact h.1 q
 ·simp only[AF]at a⊢;split at a
  ·rename_i he;have he:=CL.1 he;grind
  ·exact h.2 q a
theorem Wb{γ:Ad->Nat}{H:Hp}:∀(ks:List (Ad×Bool)) {K:List (Ad×Blk)->Prop},OE H ks K->∃hs,K hs/\S7 C γ H hs
 |[],K,h=>⟨[],h,λk=>rfl,λk d=>by simp[AF,F1]at d⟩
 |(k,fl)::r,K,h=>by
  simp only[OE]at h;split at h
  ·exact Wb r h
  ·rename_i hl;split at h
   ·obtain⟨hs,a,b⟩:=Wb (γ:=γ) r h.2;exact⟨_,a,b.cons hl (by rw[KN h.1,KN h.1])⟩
   ·split at h
    ·rename_i cs c;obtain⟨hs,a,b⟩:=Wb (γ:=γ) r h;exact⟨_,a,b.cons hl (Of c)⟩
    grind
theorem qn{H:Hp}:∀{fx:List Nat},gz H fx=true->∀i∈fx,(H (0,i)).g=0
 |i::r,h,j,a=>by
  simp only[gz,Yc]at h;rcases Yx.1 a with rfl|a
  ·exact Yd h.1
  ·exact qn h.2 j a
theorem iF{x:AV}(h:Ur x=true):x=.e0:=by cases x<;>first|rfl|cases h
theorem fY(c:CxOk C){Φ:St->Prop}{γ:Ad->Nat}:∀(ad:List (Nat×Nat×TypeId×Nat)) (τ σ:St),RE ad τ Φ->RG (C.r γ) C.l C.outs [] τ σ->∃τ' f,Φ τ'/\RG (C.r γ) C.l C.outs [] τ' f/\Wk n C σ f
 |[],τ,σ,h,b=>⟨τ,σ,h,b,Wk.refl σ⟩
 |(j,d,e,sz)::r,τ,σ,h,b=>by
  simp only[RE]at h;split at h
  ·rename_i he hl;have k:σ.s j=.e0:=(by rw[(b.s j).1 A9,iF he];simp[ren]);have o:=b.put (e:=j) (ch:=[]) rfl rfl (v:=.ref (1,d) ((τ.H (1,d)).g+1) 0 0) (y:=.ref (C.l+1,d) ((σ.H (C.l+1,d)).g+1) 0 0) (λ_=>by rw[b.g];simp only[ren];rw[show(C.r γ).κ (1,d)=(C.l+1,d)from c.own d,YO]) (λg=>absurd A9 g);have a:=RG.updH (c.ren γ) o (1,d) ⟨(τ.H (1,d)).g+1,true,e,sz,[]⟩ rfl (.inl rfl);have m:AP (C.r γ) (1,d) ⟨(τ.H (1,d)).g+1,true,e,sz,[]⟩=⟨(σ.H (C.l+1,d)).g+1,true,e,sz,[]⟩:=(by simp only[AP,b.g,Aq,YO]);rw[m,show(C.r γ).κ (1,d)=(C.l+1,d)from c.own d]at a;have p:RG (C.r γ) C.l C.outs [] ⟨upd τ.s j (.ref (1,d) ((τ.H (1,d)).g+1) 0 0),updH τ.H (1,d) ⟨(τ.H (1,d)).g+1,true,e,sz,[]⟩⟩ ⟨upd σ.s j (.ref (C.l+1,d) ((σ.H (C.l+1,d)).g+1) 0 0),updH σ.H (C.l+1,d) ⟨(σ.H (C.l+1,d)).g+1,true,e,sz,[]⟩⟩:=
    ⟨λi=>⟨λ_=>(a.s i).1 (by rw[ip];split<;>exact A9),λg=>absurd A9 g⟩,a.h,a.g,a.go,a.k,a.o⟩
   obtain⟨τ',f,t,u,x⟩:=fY c r _ _ h p;refine⟨τ',f,t,u,Wk.trans (λl w q=>?_) x⟩;obtain⟨s,H⟩:=σ;exact R.adopt (e:=e) (sz:=sz) q (C.l+1,d) rfl _ (YT _) k
  ·grind
  ·exact fY c r τ σ h b
theorem hX{γ:Ad->Nat}:∀(ze:List Nat) (τ σ:St),RG (C.r γ) C.l C.outs [] τ σ->∃f,RG (C.r γ) C.l C.outs [] (Pp ze τ) f/\Wk n C σ f
 |[],τ,σ,b=>⟨σ,b,Wk.refl σ⟩
 |j::r,τ,σ,b=>by
  simp only[Pp];split
  ·rename_i he;have d:σ.s j=.e0:=(by rw[(b.s j).1 A9,iF he];simp[ren]);have a:=b.put (e:=j) (ch:=[]) rfl rfl (v:=.d (.list [])) (y:=.d (.list [])) (λ_=>by simp[ren]) (λc=>absurd A9 c);have o:RG (C.r γ) C.l C.outs [] ⟨upd τ.s j (.d (.list [])),τ.H⟩ ⟨upd σ.s j (.d (.list [])),σ.H⟩:=
    ⟨λi=>⟨λ_=>(a.s i).1 (by rw[ip];split<;>exact A9),λc=>absurd A9 c⟩,a.h,a.g,a.go,a.k,a.o⟩
   obtain⟨f,t,u⟩:=hX r _ _ o;refine⟨f,t,Wk.trans (λl w q=>?_) u⟩;obtain⟨s,H⟩:=σ;obtain⟨m,S,p,c,g,k,h⟩:=q.un;refine⟨m,S,p,c,g,λi=>?_,h⟩;show RepA w S H m (C.l+1) (upd s j (.d (.list [])) i) _;unfold upd;by_cases hi:i=j
   ·subst hi;rw[Yi rfl];have:=k i;simp only at d;rw[d]at this;exact this.e0_d
   ·rw[Yh hi];exact k i
  ·exact hX r τ σ b
theorem IM(t:CxOk C){Φ:St->Prop}{γ:Ad->Nat}{f:Lf}(h:EO C.fx f τ Φ)(F:C.G γ)(D:RG (C.r γ) C.l C.outs [] τ σ):Is n C Φ σ:=by
 obtain⟨K,o,r⟩:=hX (n:=n) f.ze τ σ D;obtain⟨a,g,l,b,m⟩:=fY (n:=n) t f.ad (Pp f.ze τ) K h o;replace m:=Wk.trans r m;split at l
 case h_2=>exact l.elim
 rename_i p;obtain⟨hs,J,c⟩:=Wb (C:=C) (γ:=γ) f.ks l;refine⟨rebase γ a.H,_,⟨λj=>ren (C.r (rebase γ a.H)) (AB (Ot a.H a.s f.ls) j),g.H⟩,t.G γ _ (λi hi=>by unfold rebase;rw[qn p i hi];rfl) F,J,⟨λj=>⟨λ_=>rfl,λG=>absurd A9 G⟩,λk q=>?_,λd=>?_,λi hi=>?_,λk q=>?_,b.o⟩,m.trans λu w E=>?_⟩
 ·obtain⟨x,z,A,B⟩:=c.2 k q;have y:=c.1 k;show g.H (C.κ k)=_;have:=b.h k x;rw[show(C.r γ).κ k=C.κ k from rfl]at this;rw[this];simp only[AP];show _=Blk.mk (rebase γ a.H k+(AF hs k).g) true (AF hs k).e (AF hs k).sz (Aq (C.r (rebase γ a.H)) (AF hs k).cells);rw[y,z,A,B];rfl
 ·show(g.H (C.l+1,d)).g=rebase γ a.H (1,d)+(AF hs (1,d)).g;have e0:(AF hs (1,d)).g=0:=c.1 _;rw[e0,b.g];rfl
 ·show(g.H (C.κ (0,i))).g=rebase γ a.H (0,i)+(AF hs (0,i)).g;have e0:(AF hs (0,i)).g=0:=c.1 _;rw[e0];exact b.go i hi
 ·exact b.k k (c.2 k q).1
 ·obtain⟨s,H⟩:=g;refine R.weaken E λj=>?_;rcases wA (H:=a.H) (s:=a.s) f.ls j with e|e
  ·simp only[e];unfold kb;split
   ·rename_i v I;left;rw[y1 (γ:=γ) I];exact((b.s j).1 A9).symm
   ·right;simp[ren]
  ·right;simp only[e];simp[ren]
end
end Go.Eng
