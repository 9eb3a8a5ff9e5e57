import Derived.Test.YtalafnjhcecdpaaGreatDoorZc06
import Derived.Test.YtalafnjhcecdpaaGreatDoorZc04
import Derived.Test.YtalafnjhcecdpaaGreatDoorZc00
namespace Go.Eng
set_option linter.all false
open Go Go.RowKit
section
variable {P:Program} {T:Nat→Option TI} {r:Ren} {l n outs:Nat} {B:Base} {env:Bx} {τ σ:St} {a:AT} {o:Oper}
theorem iH{H:Hp}{op:Op}{ρ:Operand→AV}{g:Option Bool}{K:AV→AT→Prop}(h:tV T H op ρ g a K):∃v b,K v b:=by
 have fin:∀{v b},K v b→∃v b,K v b:=fun h=>⟨_,_,h⟩
 cases op<;>simp only[tV]at h<;>try exact h.elim
 case move x=>exact fin h
 case assign x=>exact fin h
 case pick c x y=>split at h<;>first|exact fin h|exact h.elim
 case load t x=>
  split at h
  ·unfold MV at h
   repeat' split at h
   all_goals first|exact h.elim|exact fin h|exact fin h.2
  ·grind
 case fieldAddr t x f=>
  split at h
  ·unfold R3 at h
   grind
  ·grind
 case field t x f=>
  split at h
  ·unfold S1 at h
   grind
  ·grind
 case indexAddr t x j=>
  split at h
  ·unfold R4 at h
   grind
  ·grind
 case index t x j=>
  split at h
  ·unfold Ta at h
   grind
  ·grind
 case extract x j=>
  repeat' split at h
  all_goals first|exact h.elim|exact fin h
 case makeInterface t x=>
  repeat' split at h
  all_goals first|exact h.elim|exact fin h
 case typeAssert x u t ok=>
  repeat' split at h
  all_goals first|exact h.elim|exact fin h
 case binOp o t x y u=>
  split at h
  ·unfold QR at h
   split at h
   ·split at h
    ·unfold Rn at h
     grind
    grind
   ·unfold Qz at h
    grind
   ·grind
   ·grind
   ·split at h
    ·have nl:∀{neg:Bool} {x:AV},Ln H neg x a K→∃v b,K v b:=fun {neg x} h=>by
      unfold Ln at h
      repeat' split at h
      all_goals first|exact h.elim|exact fin (h true)|exact fin (h neg (fun _=>rfl))
     grind
    grind
   grind
  ·grind
 case unOp o t x=>
  unfold UA at h
  repeat' split at h
  all_goals first|exact h.elim|exact fin h|exact fin h.2
 case nilCheck x=>
  split at h
  ·grind
  ·grind
  ·grind
 case convert s d x=>
  split at h
  ·unfold TK at h
   grind
  ·grind
 case makeFunc fn first e=>split at h<;>first|exact h.elim|exact fin h
 case slice t x lo hi k=>
  split at h
  ·unfold Tu at h
   grind
  ·grind
 case build t parts=>
  split at h
  ·unfold Tc at h
   grind
  ·grind
 case lookup t x y i=>
  split at h
  ·unfold TS at h
   grind
  ·grind
 case call c=>
  split at h
  ·split at h
   ·unfold Q1 at h
    grind
   grind
  ·unfold D6 at h
   grind
  ·unfold D6 at h
   grind
  ·unfold G3 at h
   grind
  ·grind
theorem T0{op:Op}{g:Option Bool}{K:AV→AT→Prop}(h:pV P T l r τ op g a K):∃v b,K v b:=by
 unfold pV at h
 split at h
 ·split at h
  ·unfold Uj at h
   grind
  ·exact iH h
 ·unfold Un at h
  repeat' split at h
  all_goals first|exact h.elim|exact⟨_,_,h⟩
 ·exact iH h
def Yl(r:Ren)(e:Nat)(K:AV→AT→Prop)(σ b:St):Prop:=∃v a,b=⟨upd σ.s e (ren r v),σ.H⟩∧K v a
theorem b5(E:A5 P T)(h:RG r l outs env τ σ){c:CI}(hs:CJ τ.s c){g:Option Bool}(M:∀b,g=some b→b=true){e:Nat}{op:Op}{ty:TypeId}{ps:String}{af:Array Edge}{gd:Option (Nat×Bool)}
  (hx:Cd env c op=true) (q:e<n) {K:AV→AT→Prop} (d:pV P T l r τ op g a K):Bs P l n ⟨some e,op,ty,ps,af,gd⟩ (Yl r e K σ) σ:=by
 have val:tV T τ.H op (ev τ.s) g a K→Bs P l n ⟨some e,op,ty,ps,af,gd⟩ (Yl r e K σ) σ=A2 P σ.H op (ev σ.s) (Cp n (some e) (Yl r e K σ) σ)→Bs P l n ⟨some e,op,ty,ps,af,gd⟩ (Yl r e K σ) σ:=fun C D=>by
  rw[D]
  exact Sy (fun y ⟨v,A,u,B⟩=>⟨q,v,A,by rw[u],B⟩) (pU E h hs M hx C)
 unfold pV at d
 split at d
 ·rename_i c
  split at d
  ·rename_i f k
   obtain⟨i,first,L,x,A,u,B,O⟩:=ZH h hs M k hx d
   simp only[Bs,k,u]
   exact B.mono fun y V ⟨C,D⟩=>by subst C;subst D;exact⟨q,x,A,rfl,O⟩
  ·rename_i G
   refine val d ?_
   cases k:c.callee with
   |value f=>exact absurd k (G f)
   |invoke x m=>simp only[tV,k]at d
   |builtin b=>
    cases b<;>simp only[tV,k]at d<;>simp only[Bs,k]
 ·rename_i t len parts
  have I:(Op.buildSlice t len parts).operands.toList.all (Ii env c)=true:=hx
  have u:(parts.toList.map fun p=>(p.1,ev σ.s p.2))=(parts.toList.map fun p=>(p.1,ev τ.s p.2)).map fun p=>(p.1,ren r p.2):=by
   rw[Hj]
   refine Y8 fun p d=>?_
   simp only[Function.comp]
   rw[FY h hs I p.2 (by simp only[Op.operands,Nz,YT];exact⟨p,d,rfl⟩)]
  unfold Un at d
  split at d
  case h_2=>exact d.elim
  rename_i i hi
  split at d
  case h_2=>exact d.elim
  rename_i e' sz he
  simp only[Bs,(E _ _ hi).elm _ he]
  split at d
  ·rename_i o
   have o:=Yg o
   refine⟨by omega,?_⟩
   split at d
   ·rename_i H
    exact⟨by rw[←FP,H];rfl,q,.e0,a,by simp[ren],d⟩
   grind
  ·rename_i N o
   have o:=Yg o
   refine⟨by omega,?_⟩
   split at d
   case h_2=>exact d.elim
   rename_i j S w
   split at d
   case h_2=>exact d.elim
   rename_i z U
   split at d
   case h_2=>exact d.elim
   rename_i Q J s
   split at d
   case h_2=>exact d.elim
   rename_i F
   rw[Sv s]at u
   rw[u]
   simp only[(E _ _ S).zer _ U,s]
   exact⟨Yg w,Yb J,Yb F,q,.d (.list Q),a,by simp[ren],d⟩
  grind
 ·rename_i R W
  refine val d ?_
  cases op<;>simp only[tV]at d<;>try exact d.elim
  case call c=>exact absurd rfl (R c)
  all_goals simp only[Bs]
theorem qt(y:A5 P T)(h:RG r l outs env τ σ){c:CI}(hs:CJ τ.s c){g:Option Bool}(G:∀b,g=some b→b=true){e:Nat}{op:Op}{ty:TypeId}{ps:String}{af:Array Edge}{gd:Option (Nat×Bool)}
  (hx:Cd env c op=true) (o:e<n) {K:AV→AT→Prop} (d:pV P T l r τ op g a K):FJ P l n ⟨some e,op,ty,ps,af,gd⟩ (Yl r e K σ) σ:=by
 have C:=b5 (ty:=ty) (ps:=ps) (af:=af) (gd:=gd) y h hs G hx o d
 unfold pV at d
 split at d
 ·rename_i c
  split at d
  ·rename_i f k
   obtain⟨i,first,F,x,I,v,J,L⟩:=ZH h hs G k hx d
   simp only[FJ,k,v]
   exact⟨ren r x,J,o,x,I,rfl,L⟩
  ·rename_i B
   cases k:c.callee with
   |value f=>exact absurd k (B f)
   |_=>simp only[FJ,k];exact C
 ·rename_i t len parts
  cases len with
  |zero=>exact C
  |succ len=>
   have D:(Op.buildSlice t (len+1) parts).operands.toList.all (Ii env c)=true:=hx
   have v:(parts.toList.map fun p=>(p.1,ev σ.s p.2))=(parts.toList.map fun p=>(p.1,ev τ.s p.2)).map fun p=>(p.1,ren r p.2):=by
    rw[Hj]
    refine Y8 fun p d=>?_
    simp only[Function.comp]
    rw[FY h hs D p.2 (by simp only[Op.operands,Nz,YT];exact⟨p,d,rfl⟩)]
   unfold Un at d
   split at d
   case h_2=>exact d.elim
   rename_i i hi
   split at d
   case h_2=>exact d.elim
   rename_i e' sz he
   split at d
   ·rename_i q;cases q
   ·rename_i H u q
    cases q
    have u:=Yg u
    split at d
    case h_2=>exact d.elim
    rename_i j O s
    split at d
    case h_2=>exact d.elim
    rename_i z Q
    split at d
    case h_2=>exact d.elim
    rename_i w E m
    split at d
    case h_2=>exact d.elim
    rename_i A
    rw[Sv m]at v
    exact⟨.d (.list w),⟨e',sz,z,w,(y _ _ hi).elm _ he,by omega,Yg s,(y _ _ O).zer _ Q,Yb E,by rw[v];exact m,Yb A,rfl⟩,o,.d (.list w),a,by simp[ren],d⟩
   ·exact d.elim
 ·rename_i M N
  cases op<;>first|exact absurd rfl (M _)|exact absurd rfl (N _ _ _)|exact C
theorem OF{d:Nat}{e:TypeId}{sz:Nat}{cells:List AV}{x:Nat→AV}{K a:St→Prop}(b:∀σ,K σ→a σ)(h:DZ l n d e sz cells x K σ):DZ l n d e sz cells x a σ:=⟨h.1,b _ h.2⟩
theorem nL{o:Oper}{K b:St→Prop}(a:∀σ,K σ→b σ)(h:Bs P l n o K σ):Bs P l n o b σ:=by
 have i:∀x,Cp n o.dst K σ x→Cp n o.dst b σ x:=fun x h=>by
  unfold Cp at h⊢
  grind
 unfold Bs at h⊢
 split at h
 ·split at h
  ·exact⟨h.1,OF a h.2⟩
  grind
 ·split at h
  ·exact⟨h.1,OF a h.2⟩
  grind
 ·grind
 ·split at h
  ·refine⟨h.1,?_⟩
   replace h:=h.2
   split at h
   ·grind
   ·refine⟨h.1,?_⟩
    replace h:=h.2
    split at h
    ·refine⟨h.1,?_⟩
     replace h:=h.2
     split at h
     ·grind
     ·split at h
      ·exact OF a h
      grind
    grind
  grind
 ·split at h
  ·obtain⟨c,d,f,j,k,h⟩:=h
   refine⟨c,d,f,j,k,?_⟩
   split at h
   ·exact⟨h.1,OF a h.2⟩
   grind
  grind
 ·split at h
  ·split at h
   ·exact h.mono fun r m g=>by
     unfold NS at g⊢
     unfold Cp at g⊢
     grind
   grind
  ·split at h
   ·refine⟨h.1,?_⟩
    replace h:=h.2
    unfold LM at h⊢
    split at h
    ·obtain⟨c,d,f,h⟩:=h
     refine⟨c,d,f,?_⟩
     split at h
     ·refine⟨h.1,?_⟩
      replace h:=h.2
      split at h
      ·exact⟨h.1,fun e=>⟨(h.2.1 e).1,a _ (h.2.1 e).2⟩,fun e=>OF a (h.2.2 e)⟩
      ·grind
      grind
     grind
    grind
   grind
  ·exact Sy i h
 ·exact Sy i h
theorem Sm{o:Oper}{K a:St→Prop}(b:∀σ,K σ→a σ)(h:FJ P l n o K σ):FJ P l n o a σ:=by
 have e:∀{x},Cp n o.dst K σ x→Cp n o.dst a σ x:=fun {x} h=>by
  unfold Cp at h⊢
  grind
 unfold FJ at h⊢
 split at h
 ·obtain⟨v,c,d⟩:=h;exact⟨v,c,e d⟩
 ·split at h
  ·grind
  ·exact nL b h
 ·exact nL b h
theorem ZR(h:RG r l outs env τ σ){ds:List (Option Nat)}{i d:Nat}{b g:Bool}(j:Bg ds i=some (some d))(a:F3 τ.s ((d,b)::lk env d)=some g):Il σ.s ds i b=some g:=by
 rw[Cb]at j
 have f:=ID a
 unfold Il
 simp only[j]
 by_cases hs:CJ τ.s (lk env d)
 ·have k:=(h.s d).1 hs
  have m:∃t,τ.s d=.d (.bool t):=by
   cases hl:lk env d with
   |nil=>
    rw[hl]at a
    simp only[F3]at a
    grind
   |cons q o=>
    rw[hl]at a
    simp only[F3]at a
    grind
  obtain⟨t,n⟩:=m
  rw[k,n]
  simp only[ren,Yh]
  cases g with
  |true=>
   have:=f.1 rfl (d,b) (Yz ..)
   grind
  |false=>
   cases e:t==b with
   |false=>rfl
   |true=>
    exfalso
    have e:t=b:=by simpa using e
    have:CJ τ.s ((d,b)::lk env d):=fun q c=>by
     rcases Yu.1 c with rfl|c
     ·grind
     ·exact hs q c
    grind
 ·rw[(h.s d).2 hs]
  simp only[Yh]
  cases g with
  |false=>rfl
  |true=>exact absurd (fun q c=>f.1 rfl q (Yx _ c)) hs
theorem L8(F:RenOk r l outs)(A:A5 P T){ops:Array Oper}{K:St→Bx→AT→Prop}{QQ:Exit→Act→World→Prop}(more:List Oper)
  (D:∀τ' k u G f w',K τ' k u→RG r l outs k τ' G→R l n B G f w'→wpList P ops QQ more f w'):
  ∀(c:List Oper) (env:Bx) (a:AT) (τ σ:St) (act:Act) (w:World),FH P T l n r (ops.toList.map (·.dst)) c env a K τ→RG r l outs env τ σ→R l n B σ act w→wpList P ops QQ (c++more) act w
 |[],env,a,τ,σ,act,w,h,p,x=>D _ _ _ _ _ _ h p x
 |o::c,env,a,τ,σ,act,w,h,p,x=>by
  unfold FH at h
  split at h
  ·rename_i E
   split at h
   ·rename_i V Z
    refine X5 (by simp[Region.wanted,E]) (nc (B:=B) F A p V Z h) x fun G f w' I q=>?_
    obtain⟨σ'',⟨τ',u,z,N⟩,O⟩:=I
    exact L8 F A more D c _ _ _ _ _ _ z N (O _ _ q)
   grind
  ·rename_i i b E
   split at h
   case h_2=>exact h.elim
   rename_i d e W he
   split at h
   case h_2=>exact h.elim
   rename_i g t hx j C
   simp only[Yc]at j
   have C:=Yg C
   have J:=ZR p W t
   have hy:(yielded ops act.tmps i==some b)=g:=by
    obtain⟨s,H⟩:=σ
    obtain⟨m,S,hO,L,X,Q,Y⟩:=x.un
    exact ZJ Q J
   cases g with
   |true=>
    have hs:=(ID t).1 rfl
    refine X5 (by simp only[Region.wanted,E];exact hy) (σ:=σ) (B:=B) (l:=l) (n:=n) (KK:=Yl r e (fun v u=>FH P T l n r (ops.toList.map (·.dst)) c ((e,(d,b)::lk env d)::env) u K ⟨upd τ.s e v,τ.H⟩) σ) (JW ?_) x fun G f w' U q=>?_
    ·obtain⟨M,op,ty,ps,af,gd⟩:=o
     simp only at he
     subst he
     exact b5 A p hs (fun b' e'=>by cases e';rfl) hx (by omega) h
    ·obtain⟨v,u,rfl,z⟩:=U
     exact L8 F A more D c _ _ _ _ _ _ z (p.put j.1 j.2 (fun _=>rfl) (fun L=>absurd hs L)) q
   |false=>
    have hs:¬CJ τ.s ((d,b)::lk env d):=fun hs=>by have:=(ID t).2 hs;cases this
    obtain⟨v,u,z⟩:=T0 h
    show wpList P ops QQ (o::(c++more)) act w
    unfold wpList
    rw[Yi (by simp only[Region.wanted,E,hy];decide),he]
    exact L8 F A more D c _ _ _ _ _ _ z (p.put j.1 j.2 (y:=.tup []) (fun h=>absurd h hs) (fun _=>rfl)) (R.undef x (by omega))
theorem Mb(L:RenOk r l outs)(B:A5 P T){ds:List (Option Nat)}{K:St→Bx→AT→Prop}:
  ∀(rest:List Oper) (env:Bx) (a:AT) (τ σ:St),rest.all (fun o=>CQ o||BT o)=true→GQ P T l n r ds rest env a K τ→RG r l outs env τ σ→DG P l n ds rest (fun Y=>∃τ' z f,K τ' z f∧RG r l outs z τ' Y) σ
 |[],env,a,τ,σ,_,h,u=>⟨_,_,_,h,u⟩
 |o::rest,env,a,τ,σ,w,h,u=>by
  simp only[Iv,Yc]at w
  unfold GQ at h
  unfold DG
  split at h
  ·rename_i G
   simp only[G]
   split at h
   case h_2=>exact h.elim
   rename_i I Z
   by_cases H:BT o=true
   ·obtain⟨j,op,ty,ps,af,gd⟩:=o
    cases op<;>simp only[BT]at H<;>first|(cases H;done)|skip
    rename_i t p x
    cases j with
    |some d=>cases H
    |none=>
     unfold VY at h
     simp only at h
     unfold H2 Kx Jl JI at h
     simp only at h I
     split at h
     case h_2=>exact h.elim
     rename_i i hi U
     have A:∀y∈(Op.store t p x).operands,ev σ.s y=ren r (ev τ.s y):=by
      unfold Cd at I
      exact FY u A3 I
     have hx:=A x (by simp[Op.operands])
     have V:=A p (by simp[Op.operands])
     cases W:CP (ev τ.s x)with
     |none=>rw[W]at h;unfold O4 at h;split at h<;>first|exact h.elim|(rename_i e;cases e)
     |some vs=>
      rw[W]at h
      have X:=On (r:=r) W (OI U)
      obtain⟨k,g,off,M,e2,e3,e4,e5,e6,e7,e8⟩:=lI L u (B _ _ hi) h
      obtain⟨τ',f,m,h2⟩:=e8
      simp only[FJ,Bs,V,hx,X,M]
      exact⟨e2,e3,e4,e5,e6,e7,Mb L B rest _ _ _ _ w.2 m h2⟩
   have J:CQ o=true:=by
    grind
   replace w:CQ o=true∧_:=⟨J,w.2⟩
   obtain⟨j,op,ty,ps,af,gd⟩:=o
   have E:∃d,j=some d:=by
    have:=w.1
    unfold CQ Cc at this
    rw[YF,Yc,Yc]at this
    rcases this with h|h
    ·exact Y6.1 h.1
    ·exact Y6.1 h.1
   obtain⟨d,rfl⟩:=E
   simp only at I Z G
   have hp:pV P T l r τ op none a (EW n d (fun τ' f=>GQ P T l n r ds rest (EO env (some d)) f K τ') τ):=by
    by_cases C:∃t len p,op=.buildSlice t (len+1) p
    ·obtain⟨t,len,p,rfl⟩:=C
     exact h
    ·have c:Cc ⟨some d,op,ty,ps,af,gd⟩=true:=ZX w.1 fun t len p e=>C ⟨t,len,p,e⟩
     have h:H2 P T l n r ⟨some d,op,ty,ps,af,gd⟩ a (fun τ' f=>GQ P T l n r ds rest (EO env (some d)) f K τ') τ:=by
      unfold VY at h
      split at h
      ·rename_i M _;exact absurd ⟨_,_,_,M⟩ C
      ·exact h
     have h:=tj c (sI c h)
     unfold Jl at h
     simp only at h
     have h:JI P T l n r ⟨some d,op,ty,ps,af,none⟩ a (fun τ' f=>GQ P T l n r ds rest (EO env (some d)) f K τ') τ:=by
      subst G
      split at h
      ·split at h
       ·rename_i q;simp[Cc,q]at c
       ·grind
       ·exact h
      ·exact h
     unfold JI at h
     simp only at h
     split at h
     ·simp[Cc]at c
     ·simp[Cc]at c
     ·grind
     ·simp[Cc]at c
     ·simp[Cc]at c
     ·split at h
      ·rename_i q;simp[Cc,q]at c
      ·exact h
     ·exact h
   have Q:∃v f,EW n d (fun τ' f=>GQ P T l n r ds rest (EO env (some d)) f K τ') τ v f:=T0 hp
   have O:d<n:=by
    obtain⟨v,f,m⟩:=Q
    unfold EW at m
    split at m
    ·rename_i E;have E:=Yg E;exact E
    grind
   have:=qt (ty:=ty) (ps:=ps) (af:=af) (gd:=gd) B u A3 (fun b e=>by cases e) I O hp
   refine Sm (fun Y N=>?_) this
   obtain⟨v,f,rfl,m⟩:=N
   unfold EW at m
   split at m
   ·exact Mb L B rest _ _ _ _ w.2 m (u.put0 Z rfl)
   grind
  ·rename_i i b G
   have J:CQ o=true:=by
    have:=w.1
    rw[YF]at this
    rcases this with h|h
    ·exact h
    ·exfalso
     obtain⟨j,op,ty,ps,af,gd⟩:=o
     simp only at G
     subst G
     cases op<;>cases j<;>simp[BT]at h
   simp only[G]
   split at h
   case h_2=>exact h.elim
   rename_i d e E he
   split at h
   case h_2=>exact h.elim
   rename_i g D hx s F
   simp only[Yc]at s
   have F:=Yg F
   rw[ZR u E D]
   refine⟨fun S=>?_,fun R=>?_⟩
   ·subst S
    have hs:=(ID D).1 rfl
    obtain⟨j,op,ty,ps,af,gd⟩:=o
    simp only at he
    subst he
    refine Sm (fun Y N=>?_) (qt (ty:=ty) (ps:=ps) (af:=af) (gd:=gd) B u hs (fun b' e'=>by cases e';rfl) hx (by omega) h)
    obtain⟨v,f,rfl,m⟩:=N
    exact Mb L B rest _ _ _ _ w.2 m (u.put s.1 s.2 (fun _=>rfl) (fun hn=>absurd hs hn))
   ·subst R
    have hs:¬CJ τ.s ((d,b)::lk env d):=fun hs=>by have:=(ID D).2 hs;cases this
    obtain⟨v,f,m⟩:=T0 h
    rw[he]
    exact⟨F,Mb L B rest _ _ _ _ w.2 m (u.put s.1 s.2 (y:=.tup []) (fun h=>absurd h hs) (fun _=>rfl))⟩
end
end Go.Eng
namespace Go.Eng
set_option linter.all false
open Go Go.RowKit
def Av:List (Nat×AV)→Nat→AV
 |[],_=>.top
 |(i,x)::r,j=>match Nat.beq i j with|true=>x|false=>Av r j
def EU:Blk:=⟨0,false,0,0,[]⟩
def Ax:List (Ad×Blk)→Ad→Blk
 |[],_=>EU
 |(k,b)::r,q=>match Bu k q with|true=>b|false=>Ax r q
def Ac(ss:List (Nat×AV))(hs:List (Ad×Blk)):St:=⟨Av ss,Ax hs⟩
mutual
def D3(H:Hp):AV→Option AV
 |.ref k g off n=>match BL H k g with|true=>some (.ref k 0 off n)|false=>none
 |.ptr k g off=>match BL H k g with|true=>some (.ptr k 0 off)|false=>none
 |.mp k g=>match BL H k g with|true=>some (.mp k 0)|false=>none
 |.fn f xs ys=>match HU H xs,HU H ys with|some xs,some ys=>some (.fn f xs ys)|_,_=>none
 |.agg xs=>match HU H xs with|some xs=>some (.agg xs)|none=>none
 |.tup xs=>match HU H xs with|some xs=>some (.tup xs)|none=>none
 |.top=>some .top
 |.d x=>some (.d x)
 |.e0=>some .e0
 |.p x=>some (.p x)
 |.iptr cs off=>some (.iptr cs off)
 |.ifc t ds a=>some (.ifc t ds a)
def HU(H:Hp):List AV→Option (List AV)
 |[]=>some []
 |x::xs=>match D3 H x,HU H xs with|some x,some xs=>some (x::xs)|_,_=>none
end
def dc(H:Hp)(x:AV):AV:=match D3 H x with|some v=>v|none=>.top
def Mk(H:Hp)(s:Nat→AV):List Nat→List (Nat×AV)
 |[]=>[]
 |j::r=>(j,dc H (s j))::Mk H s r
def HN(cs:List AV):Prop:=∀x∈cs,x.flat=true
def Ms(H:Hp):List (Ad×Bool)→(List (Ad×Blk)→Prop)→Prop
 |[],K=>K []
 |(k,fl)::r,K=>match (H k).live with
  |false=>Ms H r K
  |true=>match fl with
   |true=>HN (H k).cells∧Ms H r (fun a=>K ((k,⟨0,true,(H k).e,(H k).sz,(H k).cells⟩)::a))
   |false=>match HU H (H k).cells with
    |some cs=>Ms H r (fun a=>K ((k,⟨0,true,(H k).e,(H k).sz,cs⟩)::a))
    |none=>False
def QI:AV→Bool
 |.e0=>true
 |_=>false
def O2:List (Nat×Nat×TypeId×Nat)→St→(St→Prop)→Prop
 |[],τ,K=>K τ
 |(j,d,e,sz)::r,τ,K=>match QI (τ.s j),(τ.H (1,d)).live with
  |true,false=>O2 r ⟨upd τ.s j (.ref (1,d) ((τ.H (1,d)).g+1) 0 0),updH τ.H (1,d) ⟨(τ.H (1,d)).g+1,true,e,sz,[]⟩⟩ K
  |true,true=>False
  |false,_=>O2 r τ K
structure Lf where
 ls:List Nat
 ks:List (Ad×Bool):=[]
 ad:List (Nat×Nat×TypeId×Nat):=[]
 ze:List Nat:=[]
def M4:List Nat→St→St
 |[],τ=>τ
 |j::r,τ=>match QI (τ.s j)with|true=>M4 r ⟨upd τ.s j (.d (.list [])),τ.H⟩|false=>M4 r τ
def gz(H:Hp):List Nat→Bool
 |[]=>true
 |i::r=>Nat.beq (H (0,i)).g 0&&gz H r
def DV(fx:List Nat)(f:Lf)(τ:St)(Φ:St→Prop):Prop:=O2 f.ad (M4 f.ze τ) (fun τ=>match gz τ.H fx with|true=>Ms τ.H f.ks (fun hs=>Φ (Ac (Mk τ.H τ.s f.ls) hs))|false=>False)
structure Cx where
 l:Nat
 B:Base
 κ:Ad→Ad
 θ:Nat→AV
 H0:Hp
 outs:Nat
 no:Ad→Prop
 fx:List Nat
 G:(Ad→Nat)→Prop
def Cx.r(C:Cx)(γ:Ad→Nat):Ren:=⟨C.κ,γ,C.θ,C.H0,C.no⟩
structure CxOk (C:Cx):Prop where
 own:∀d,C.κ (1,d)=(C.l+1,d)
 out:∀i,i<C.outs→(C.κ (0,i)).1≤C.l
 inj:∀i j,i<C.outs→j<C.outs→C.κ (0,i)=C.κ (0,j)→i=j
 no:∀k,C.no k→∃i,i<C.outs∧C.κ (0,i)=k
 G:∀γ γ':Ad→Nat,(∀i∈C.fx,γ' (0,i)=γ (0,i))→C.G γ→C.G γ'
theorem CxOk.ren{C:Cx}(h:CxOk C)(γ:Ad→Nat):RenOk (C.r γ) C.l C.outs:=⟨h.own,h.out,h.inj,h.no⟩
def Wk(n:Nat)(C:Cx)(σ b:St):Prop:=∀a w,R C.l n C.B σ a w→R C.l n C.B b a w
def Is(n:Nat)(C:Cx)(Φ:St→Prop)(σ:St):Prop:=∃γ τ a,C.G γ∧Φ τ∧RG (C.r γ) C.l C.outs [] τ a∧Wk n C σ a
def LW(P:Program)(n:Nat)(C:Cx)(c:Code)(τ:St)(Q:Exit→St→Prop):Prop:=
 ∀γ σ,C.G γ→RG (C.r γ) C.l C.outs [] τ σ→BB P C.l n C.B c (fun e a=>Is n C (Q e) a) σ
def T1(P:Program)(l n:Nat)(B:Base)(c:Code)(Q:Exit→St→Prop)(σ:St):Prop:=
 ∀a w,R l n B σ a w→∀(b:Frame) (k:List Item) (cs:List Frame),∃e d w',(∃f,Q e f∧R l n B f d w')∧Arrives P (lone (b.at a (.code c::.inLoop c::k)) cs w) b k cs e d w'
def LL(P:Program)(n:Nat)(C:Cx)(c:Code)(τ:St)(Q:Exit→St→Prop):Prop:=
 ∀γ σ,C.G γ→RG (C.r γ) C.l C.outs [] τ σ→T1 P C.l n C.B c (fun e a=>Is n C (Q e) a) σ
def Dx(env:Bx)(τ:St):St:=⟨fun j=>match lk env j with|[]=>τ.s j|_=>.top,τ.H⟩
def Hi(C:List AV)(off n sz:Nat)(es:List (List D)):Prop:=es.length=n∧sz≠0∧(∀e∈es,e.length=sz)∧(off+n)*sz≤C.length∧(C.drop (off*sz)).take (n*sz)=es.flatten.map .d
def Uw(H:Hp)(d:Nat)(s:Nat→AV)(A:Prop):List (Nat×List (List D))→Prop
 |[]=>A
 |(j,a)::r=>match s j with
  |.ref k q off m=>(match Bu k (1,d),BL H k q with|true,true=>Hi (H (1,d)).cells off m (H (1,d)).sz a∧Uw H d s A r|_,_=>False)
  |_=>False
def Uo(H:Hp)(d:Nat)(A:Prop):List (Ad×Nat×List (List D))→Prop
 |[]=>A
 |(k,i,a)::r=>match Nat.beq k.1 1,Bu k (1,d),(H k).live,Bg (H k).cells i with
  |true,false,true,some (.ref k' q off m)=>(match Bu k' (1,d),BL H k' q with|true,true=>Hi (H (1,d)).cells off m (H (1,d)).sz a∧Uo H d A r|_,_=>False)
  |_,_,_,_=>False
def rh(r:Ren)(k:Ad)(A:Prop):Prop:=
 match Nat.beq k.1 1 with
 |true=>A
 |false=>K4 r k∧A
def Ux(H:Hp)(d:Nat)(s:Nat→AV):List Nat→Bool
 |[]=>true
 |j::r=>match s j with
  |.mp k g=>Bu k (1,d)&&BL H k g&&Ux H d s r
  |_=>false
def Uy(H:Hp)(d:Nat)(s:Nat→AV):List Nat→Bool
 |[]=>true
 |j::r=>match s j with
  |.ptr k g 0=>Bu k (1,d)&&BL H k g&&Uy H d s r
  |_=>false
def A4(r:Ren)(os:Nat):AT→St→(St→AT→Prop)→Prop
 |.frz d f cs b,τ,K=>match (τ.H (1,d)).live,Nat.ble 1 (τ.H (1,d)).sz with
  |true,true=>Uw τ.H d τ.s (Uo τ.H d (A4 r os b ⟨Jj f τ.s,HZ cs (updH τ.H (1,d) ⟨(τ.H (1,d)).g,false,(τ.H (1,d)).e,(τ.H (1,d)).sz,(τ.H (1,d)).cells⟩)⟩ K) cs) f
  |_,_=>False
 |.adc k i d e sz b,τ,K=>match Nat.beq k.1 1,Bu k (1,d),(τ.H k).live,Bg (τ.H k).cells i with
  |true,false,true,some .e0=>A4 r os b ⟨τ.s,updH (updH τ.H (1,d) ⟨(τ.H (1,d)).g+1,true,e,sz,[]⟩) k ⟨(τ.H k).g,true,(τ.H k).e,(τ.H k).sz,(τ.H k).cells.set i (.ref (1,d) ((τ.H (1,d)).g+1) 0 0)⟩⟩ K
  |_,_,_,_=>False
 |.sep b,τ,K=>K τ b
 |.ads j d e sz b,τ,K=>match QI (τ.s j)with
  |true=>A4 r os b ⟨upd τ.s j (.ref (1,d) ((τ.H (1,d)).g+1) 0 0),updH τ.H (1,d) ⟨(τ.H (1,d)).g+1,true,e,sz,[]⟩⟩ K
  |false=>False
 |.trim k c b,τ,K=>match (τ.H k).live with
  |true=>(∃m,(τ.H k).cells.take m=c)∧rh r k (A4 r os b ⟨τ.s,updH τ.H k ⟨(τ.H k).g,true,(τ.H k).e,(τ.H k).sz,c⟩⟩ K)
  |false=>False
 |.reb j d m c b,τ,K=>match τ.s j with
  |.ref k q off n=>(match Bu k (1,d),BL τ.H k q with
   |true,true=>(n=m∧off*(τ.H k).sz≤(τ.H k).cells.length∧(τ.H k).cells.drop (off*(τ.H k).sz)=c)∧A4 r os b ⟨upd τ.s j (.ref k (q+1) 0 m),updH τ.H k ⟨q+1,true,.t (τ.H k).e.ty,(τ.H k).sz,c⟩⟩ K
   |_,_=>False)
  |_=>False
 |.mv d j b,τ,K=>match (τ.H (1,d)).live with
  |true=>Fq (τ.H (1,d)).cells∧(j<os∧r.no (r.κ (0,j)))∧A4 r os b ⟨fun i=>EZ (1,d) (0,j) (τ.H (1,d)).g ((τ.H (0,j)).g+1) (τ.s i),
    updH (updH τ.H (1,d) ⟨(τ.H (1,d)).g,false,(τ.H (1,d)).e,(τ.H (1,d)).sz,(τ.H (1,d)).cells⟩) (0,j) ⟨(τ.H (0,j)).g+1,true,(τ.H (1,d)).e,(τ.H (1,d)).sz,(τ.H (1,d)).cells⟩⟩ K
  |false=>False
 |.fzm d f b,τ,K=>match (τ.H (1,d)).live,(τ.H (1,d)).e,Ux τ.H d τ.s f with
  |true,.m q h,true=>A4 r os b ⟨Eo (.d (.map q h)) f τ.s,updH τ.H (1,d) ⟨(τ.H (1,d)).g,false,(τ.H (1,d)).e,(τ.H (1,d)).sz,(τ.H (1,d)).cells⟩⟩ K
  |_,_,_=>False
 |.fzb d f b,τ,K=>match (τ.H (1,d)).live,Lu (τ.H (1,d)).cells,Uy τ.H d τ.s f with
  |true,some (x::ds),true=>A4 r os b ⟨Eo (.iptr (x::ds) 0) f τ.s,updH τ.H (1,d) ⟨(τ.H (1,d)).g,false,(τ.H (1,d)).e,(τ.H (1,d)).sz,(τ.H (1,d)).cells⟩⟩ K
  |_,_,_=>False
 |.rnm d d' e i b,τ,K=>match (τ.H (1,d)).live,Nat.beq d d',Nat.beq e d,Nat.beq e d',(τ.H (1,e)).live,Bg (τ.H (1,e)).cells i with
  |true,false,false,false,true,some (.ref k g off c)=>(match Bu k (1,d),Nat.beq g (τ.H (1,d)).g with
   |true,true=>Fq (τ.H (1,d)).cells∧A4 r os b ⟨fun j=>EZ (1,d) (1,d') (τ.H (1,d)).g ((τ.H (1,d')).g+1) (τ.s j),
     updH (updH (updH τ.H (1,d) ⟨(τ.H (1,d)).g,false,(τ.H (1,d)).e,(τ.H (1,d)).sz,(τ.H (1,d)).cells⟩) (1,d') ⟨(τ.H (1,d')).g+1,true,(τ.H (1,d)).e,(τ.H (1,d)).sz,(τ.H (1,d)).cells⟩)
      (1,e) ⟨(τ.H (1,e)).g,true,(τ.H (1,e)).e,(τ.H (1,e)).sz,(τ.H (1,e)).cells.set i (.ref (1,d') ((τ.H (1,d')).g+1) off c)⟩⟩ K
   |_,_=>False)
  |_,_,_,_,_,_=>False
 |.mvc d q e i b,τ,K=>match (τ.H (1,d)).live,Nat.beq e d,(τ.H (1,e)).live,Bg (τ.H (1,e)).cells i with
  |true,false,true,some (.ref k g off c)=>(match Bu k (1,d),Nat.beq g (τ.H (1,d)).g with
   |true,true=>Fq (τ.H (1,d)).cells∧(q<os∧r.no (r.κ (0,q)))∧A4 r os b ⟨fun j=>EZ (1,d) (0,q) (τ.H (1,d)).g ((τ.H (0,q)).g+1) (τ.s j),
     updH (updH (updH τ.H (1,d) ⟨(τ.H (1,d)).g,false,(τ.H (1,d)).e,(τ.H (1,d)).sz,(τ.H (1,d)).cells⟩) (0,q) ⟨(τ.H (0,q)).g+1,true,(τ.H (1,d)).e,(τ.H (1,d)).sz,(τ.H (1,d)).cells⟩)
      (1,e) ⟨(τ.H (1,e)).g,true,(τ.H (1,e)).e,(τ.H (1,e)).sz,(τ.H (1,e)).cells.set i (.ref (0,q) ((τ.H (0,q)).g+1) off c)⟩⟩ K
   |_,_=>False)
  |_,_,_,_=>False
 |a,τ,K=>K τ a
def Cw(P:Program)(T:Nat→Option TI)(l n os:Nat)(r:Ren):Code→AT→St→(Exit→St→AT→Prop)→Prop
 |.skip,a,τ,K=>K .normal τ a
 |.ret,a,τ,K=>A4 r os a τ (fun τ a=>K .ret τ a)
 |.exit id,a,τ,K=>K (.exit id) τ a
 |.seq x y,a,τ,K=>Cw P T l n os r x a τ (fun e τ' d=>match e with|.normal=>Cw P T l n os r y d τ' K|e=>K e τ' d)
 |.block id c,a,τ,K=>Cw P T l n os r c a τ (fun e τ' d=>match e with|.exit i=>(match Nat.beq i id with|true=>K .normal τ' d|false=>K (.exit i) τ' d)|e=>K e τ' d)
 |.cond c x y,a,τ,K=>match ev τ.s c,a with
  |.d (.bool b),.br a1 g=>(b=true→Cw P T l n os r x a1 τ K)∧(b=false→Cw P T l n os r y g τ K)
  |.d (.bool b),.go a=>(match b with|true=>Cw P T l n os r x a τ K|false=>Cw P T l n os r y a τ K)
  |.d (.bool b),.one v a=>(match v with|true=>(b=true→Cw P T l n os r x a τ K)∧(b=false→False)|false=>(b=true→False)∧(b=false→Cw P T l n os r y a τ K))
  |_,_=>False
 |.region _ ops f,a,τ,K=>match f with
  |false=>A4 r os a τ (fun τ a=>FH P T l n r (ops.toList.map (·.dst)) ops.toList [] a (fun τ' env d=>K .normal (Dx env τ') d) τ)
  |true=>match TT ops.toList&&ops.toList.all (fun o=>CQ o||BT o)&&KV ops.toList 0 ops.toList with
   |true=>A4 r os a τ (fun τ a=>GQ P T l n r (ops.toList.map (·.dst)) ops.toList [] a (fun τ' env d=>K .normal (Dx env τ') d) τ)
   |false=>False
 |_,_,_,_=>False
mutual
def frz(H:Hp):AV→AT→(AV→AT→Prop)→Prop
 |.d x,a,K=>K (.d x) a
 |.e0,a,K=>K (.d (.list [])) a
 |.ifc t ds q,a,K=>K (.ifc t ds q) a
 |.agg xs,a,K=>Jk H xs a (fun ys c=>K (.agg ys) c)
 |.ref k g off n,a,K=>match Nat.beq k.1 0,Nat.beq k.1 1,BL H k g with
  |true,_,true=>K (.ref k g off n) a
  |false,true,true=>(match a with|.av (.d (.list b)) c=>Hi (H k).cells off n (H k).sz b∧K (.d (.list b)) c|_=>False)
  |_,_,_=>False
 |.mp k g,a,K=>match Nat.beq k.1 0,Nat.beq k.1 1,BL H k g,(H k).e with
  |true,_,true,_=>K (.mp k g) a
  |false,true,true,.m q b=>K (.d (.map q b)) a
  |_,_,_,_=>False
 |_,_,_=>False
def Jk(H:Hp):List AV→AT→(List AV→AT→Prop)→Prop
 |[],a,K=>K [] a
 |x::xs,a,K=>frz H x a (fun y c=>Jk H xs c (fun ys b=>K (y::ys) b))
end
def cS(T:Nat→Option TI)(τ:St):ResultVar→(AV→Prop)→Prop
 |.tmp t,K=>K (τ.s t)
 |.cell p t,K=>match τ.s p,T t with
  |.ptr k g off,some i=>(match BL τ.H k g,i.agg with
   |true,true=>(match Nat.ble 1 i.siz,IV i.siz ((τ.H k).cells.drop off)with|true,some c=>K (.agg c)|_,_=>False)
   |true,false=>(match Bg (τ.H k).cells off with|some c=>K c|none=>False)
   |false,_=>False)
  |_,_=>False
def WO(T:Nat→Option TI)(τ:St):List ResultVar→(List AV→Prop)→Prop
 |[],K=>K []
 |v::vs,K=>cS T τ v (fun x=>WO T τ vs (fun xs=>K (x::xs)))
def IR(H:Hp):Nat→Nat→List Blk
 |0,_=>[]
 |n+1,i=>H (0,i)::IR H n (i+1)
def NT(T:Nat→Option TI)(c:List ResultVar)(os:Nat)(τ:St)(a:AT)(b:AV→List Blk→Prop):Prop:=
 WO T τ c (fun xs=>Jk τ.H xs a (fun ys _=>b (Dn ys) (IR τ.H os 0)))
def FQ(T:Nat→Option TI)(c:List ResultVar)(os:Nat)(b:AV→List Blk→Prop)(e:Exit)(τ:St):Prop:=(e=.normal∨e=.ret)∧∃a,NT T c os τ a b
section
variable {P:Program} {T:Nat→Option TI} {n:Nat} {C:Cx} {τ σ:St} {Q:Exit→St→Prop}
theorem Wk.refl(σ:St):Wk n C σ σ:=fun _ _ h=>h
theorem Wk.trans{σ c b:St}(h:Wk n C σ c)(k:Wk n C c b):Wk n C σ b:=fun a w d=>k a w (h a w d)
theorem R.weaken{l:Nat}{B:Base}{s s':Nat→AV}{H:Hp}{a:Act}{w:World}(h:R l n B ⟨s,H⟩ a w)(hs:∀j,s' j=s j∨s' j=.top):R l n B ⟨s',H⟩ a w:=by
 obtain⟨m,S,d,g,b,f,c⟩:=h.un
 refine⟨m,S,d,g,b,fun i=>?_,c⟩
 show RepA w S H m (l+1) (s' i) _
 rcases hs i with e|e
 ·rw[e];exact f i
 ·rw[e];exact .top _
theorem Is.mono{Φ Ψ:St→Prop}(h:Is n C Φ σ)(e:∀τ,Φ τ→Ψ τ):Is n C Ψ σ:=by
 obtain⟨γ,τ,f,a,b,c,d⟩:=h;exact⟨γ,τ,f,a,e _ b,c,d⟩
theorem BB.weak{c:Code}{QQ:Exit→St→Prop}{b:St}(h:BB P C.l n C.B c QQ b)(e:Wk n C σ b):BB P C.l n C.B c QQ σ:=fun a w d=>h a w (e a w d)
theorem T1.weak{c:Code}{QQ:Exit→St→Prop}{b:St}(h:T1 P C.l n C.B c QQ b)(e:Wk n C σ b):T1 P C.l n C.B c QQ σ:=fun a w d=>h a w (e a w d)
theorem LW.mono{c:Code}{a:Exit→St→Prop}(h:LW P n C c τ Q)(f:∀e τ,Q e τ→a e τ):LW P n C c τ a:=fun γ σ d b=>Hw (h γ σ d b) fun e g hi=>hi.mono (f e)
theorem tJ{x y:Code}(h:LW P n C x τ (fun e τ'=>match e with|.normal=>LW P n C y τ' Q|e=>Q e τ')):LW P n C (.seq x y) τ Q:=by
 intro γ σ i g
 refine Z7 (Hw (h γ σ i g) fun e k hi=>?_)
 cases e with
 |normal=>
  obtain⟨j,τ',a,b,c,d,f⟩:=hi
  exact BB.weak (c j a b d) f
 |_=>exact hi
theorem ZvN{id:Nat}{c:Code}(h:LW P n C c τ (fun e τ'=>match e with|.exit i=>if i=id then Q .normal τ' else Q (.exit i) τ'|e=>Q e τ')):LW P n C (.block id c) τ Q:=by
 intro γ σ b a
 refine mL (Hw (h γ σ b a) fun e d hi=>?_)
 cases e with
 |exit i=>
  unfold SV
  simp only at hi⊢
  split
  ·rename_i he;exact hi.mono fun τ' h=>by rw[Yk he]at h;exact h
  ·rename_i he;exact hi.mono fun τ' h=>by rw[Yi he]at h;exact h
 |_=>exact hi
theorem Zzh{c:Operand}{x y:Code}{b:Bool}(h:ev τ.s c=.d (.bool b))(f:b=true→LW P n C x τ Q)(g:b=false→LW P n C y τ Q):LW P n C (.cond c x y) τ Q:=by
 intro γ σ d a
 have he:ev σ.s c=.d (.bool b):=by
  rw[J9 (c:=[]) a A3 (by cases c<;>rfl),h];simp[ren]
 exact OC he (fun e=>f e γ σ d a) (fun e=>g e γ σ d a)
theorem ZzJ{c:Code}(h:LL P n C c τ Q):LW P n C (.loop c) τ Q:=by
 intro γ σ l i a w j b k cs
 obtain⟨e,d,w',f,g⟩:=h γ σ l i a w j b k cs
 exact⟨e,d,w',f,.of_steps (.one step_loop) g⟩
theorem ZvM{c:Code}(h:LW P n C c τ (fun e τ'=>match e with|.normal=>LL P n C c τ' Q|e=>Q e τ')):LL P n C c τ Q:=by
 intro γ σ A y a w z b k cs
 obtain⟨e,i,l,⟨m,j,f⟩,d⟩:=h γ σ A y a w z b (.inLoop c::k) cs
 cases e with
 |normal=>
  obtain⟨D,τ',p,s,t,u,v⟩:=j
  obtain⟨r,q,B,o,g⟩:=t D p s u i l (v _ _ f) b k cs
  exact⟨r,q,B,o,.of_steps (Steps.trans d (.one step_inLoop)) g⟩
 |exit id=>exact⟨_,i,l,⟨m,j,f⟩,.pass (x:=.inLoop c) rfl (fun _ _=>.inl (by simp)) d⟩
 |goto id=>exact⟨_,i,l,⟨m,j,f⟩,.pass (x:=.inLoop c) rfl (fun _ _=>.inl (by simp)) d⟩
 |ret=>exact⟨_,i,l,⟨m,j,f⟩,.pass (x:=.inLoop c) rfl (fun _ _=>.inl (by simp)) d⟩
 |panic ch=>exact⟨_,i,l,⟨m,j,f⟩,.pass (x:=.inLoop c) rfl (fun _ _=>.inl (by simp)) d⟩
 |outgrown=>exact⟨_,i,l,⟨m,j,f⟩,.pass (x:=.inLoop c) rfl (fun _ _=>.inl (by simp)) d⟩
theorem Is.of{γ:Ad→Nat}{Φ:St→Prop}(b:C.G γ)(a:RG (C.r γ) C.l C.outs [] τ σ)(h:Φ τ):Is n C Φ σ:=⟨γ,τ,σ,b,h,a,Wk.refl σ⟩
theorem Cg{a b:Ad}:Bu a b=true↔a=b:=by
 obtain⟨a1,c⟩:=a
 obtain⟨d,e⟩:=b
 simp[Bu]
theorem mE{H:Hp}{s:Nat→AV}:∀(ls:List Nat) (j:Nat),Av (Mk H s ls) j=dc H (s j)∨Av (Mk H s ls) j=.top
 |[],j=>.inr rfl
 |i::r,j=>by
  simp only[Mk,Av]
  split
  ·rename_i h;rw[Yb h];exact .inl rfl
  ·exact mE r j
def rebase(γ:Ad→Nat)(H:Hp):Ad→Nat:=fun k=>γ k+(H k).g
mutual
theorem oJ{γ:Ad→Nat}{H:Hp}:∀{x y:AV},D3 H x=some y→ren (C.r (rebase γ H)) y=ren (C.r γ) x
 |.ref k g off m,y,h=>by
  simp only[D3]at h
  split at h
  ·rename_i hl;cases h;obtain⟨b,_⟩:=Eb hl;subst b;simp[ren,Cx.r,rebase]
  ·cases h
 |.ptr k g off,y,h=>by
  simp only[D3]at h
  split at h
  ·rename_i hl;cases h;obtain⟨b,_⟩:=Eb hl;subst b;simp[ren,Cx.r,rebase]
  ·cases h
 |.mp k g,y,h=>by
  simp only[D3]at h
  split at h
  ·rename_i hl;cases h;obtain⟨b,_⟩:=Eb hl;subst b;simp[ren,Cx.r,rebase]
  ·cases h
 |.fn f xs ys,y,h=>by
  simp only[D3]at h
  split at h
  ·rename_i xs' i b e
   cases h
   have c:=Mf (γ:=γ) b
   have d:=Mf (γ:=γ) e
   cases f<;>simp only[ren,c,d]<;>rfl
  ·cases h
 |.agg xs,y,h=>by
  simp only[D3]at h
  split at h
  ·rename_i xs' b;cases h;simp only[ren,Mf (γ:=γ) b]
  ·cases h
 |.tup xs,y,h=>by
  simp only[D3]at h
  split at h
  ·rename_i xs' b;cases h;simp only[ren,Mf (γ:=γ) b]
  ·cases h
 |.top,y,h=>by simp only[D3]at h;cases h;simp[ren]
 |.d x,y,h=>by simp only[D3]at h;cases h;simp[ren]
 |.e0,y,h=>by simp only[D3]at h;cases h;simp[ren]
 |.p x,y,h=>by simp only[D3]at h;cases h;simp[ren]
 |.iptr cs off,y,h=>by simp only[D3]at h;cases h;simp[ren]
 |.ifc t ds a,y,h=>by simp only[D3]at h;cases h;simp[ren]
theorem Mf{γ:Ad→Nat}{H:Hp}:∀{xs ys:List AV},HU H xs=some ys→Al (C.r (rebase γ H)) ys=Al (C.r γ) xs
 |[],ys,h=>by simp only[HU]at h;cases h;simp[Al]
 |x::xs,ys,h=>by
  simp only[HU]at h
  split at h
  ·rename_i x' xs' a b;cases h;simp only[Al,oJ (γ:=γ) a,Mf (γ:=γ) b]
  ·cases h
end
def PK(C:Cx)(γ:Ad→Nat)(H:Hp)(hs:List (Ad×Blk)):Prop:=
 (∀k,(Ax hs k).g=0)∧∀k,(Ax hs k).live=true→(H k).live=true∧(Ax hs k).e=(H k).e∧(Ax hs k).sz=(H k).sz∧Al (C.r (rebase γ H)) (Ax hs k).cells=Al (C.r γ) (H k).cells
theorem IE{r:Ren}{cs:List AV}(h:HN cs):Al r cs=cs:=JV (Ys.2 h)
theorem PK.cons{γ:Ad→Nat}{H:Hp}{hs:List (Ad×Blk)}(h:PK C γ H hs){k:Ad}{cs:List AV}(hl:(H k).live=true)(b:Al (C.r (rebase γ H)) cs=Al (C.r γ) (H k).cells):PK C γ H ((k,⟨0,true,(H k).e,(H k).sz,cs⟩)::hs):=by
 refine⟨fun q=>?_,fun q a=>?_⟩
 ·simp only[Ax]
  split
  ·rfl
  ·exact h.1 q
 ·simp only[Ax]at a⊢
  split at a
  ·rename_i he
   have he:=Cg.1 he
   grind
  ·exact h.2 q a
theorem R2{γ:Ad→Nat}{H:Hp}:∀(ks:List (Ad×Bool)) {K:List (Ad×Blk)→Prop},Ms H ks K→∃hs,K hs∧PK C γ H hs
 |[],K,h=>⟨[],h,fun k=>rfl,fun k d=>by simp[Ax,EU]at d⟩
 |(k,fl)::r,K,h=>by
  simp only[Ms]at h
  split at h
  ·exact R2 r h
  ·rename_i hl
   split at h
   ·obtain⟨hs,a,b⟩:=R2 (γ:=γ) r h.2
    exact⟨_,a,b.cons hl (by rw[IE h.1,IE h.1])⟩
   ·split at h
    ·rename_i cs c
     obtain⟨hs,a,b⟩:=R2 (γ:=γ) r h
     exact⟨_,a,b.cons hl (Mf c)⟩
    grind
theorem eH{H:Hp}:∀{fx:List Nat},gz H fx=true→∀i∈fx,(H (0,i)).g=0
 |i::r,h,j,a=>by
  simp only[gz,Yc]at h
  rcases Yu.1 a with rfl|a
  ·exact Yb h.1
  ·exact eH h.2 j a
theorem aL{x:AV}(h:QI x=true):x=.e0:=by cases x<;>first|rfl|cases h
theorem ZA(c:CxOk C){Φ:St→Prop}{γ:Ad→Nat}:∀(ad:List (Nat×Nat×TypeId×Nat)) (τ σ:St),O2 ad τ Φ→RG (C.r γ) C.l C.outs [] τ σ→∃τ' f,Φ τ'∧RG (C.r γ) C.l C.outs [] τ' f∧Wk n C σ f
 |[],τ,σ,h,b=>⟨τ,σ,h,b,Wk.refl σ⟩
 |(j,d,e,sz)::r,τ,σ,h,b=>by
  simp only[O2]at h
  split at h
  ·rename_i he hl
   have k:σ.s j=.e0:=by rw[(b.s j).1 A3,aL he];simp[ren]
   have o:=b.put (e:=j) (ch:=[]) rfl rfl (v:=.ref (1,d) ((τ.H (1,d)).g+1) 0 0) (y:=.ref (C.l+1,d) ((σ.H (C.l+1,d)).g+1) 0 0) (fun _=>by rw[b.g];simp only[ren];rw[show(C.r γ).κ (1,d)=(C.l+1,d)from c.own d,YI]) (fun g=>absurd A3 g)
   have a:=RG.updH (c.ren γ) o (1,d) ⟨(τ.H (1,d)).g+1,true,e,sz,[]⟩ rfl (.inl rfl)
   have m:AE (C.r γ) (1,d) ⟨(τ.H (1,d)).g+1,true,e,sz,[]⟩=⟨(σ.H (C.l+1,d)).g+1,true,e,sz,[]⟩:=by
    simp only[AE,b.g,Al,YI]
   rw[m,show(C.r γ).κ (1,d)=(C.l+1,d)from c.own d]at a
   have p:RG (C.r γ) C.l C.outs [] ⟨upd τ.s j (.ref (1,d) ((τ.H (1,d)).g+1) 0 0),updH τ.H (1,d) ⟨(τ.H (1,d)).g+1,true,e,sz,[]⟩⟩ ⟨upd σ.s j (.ref (C.l+1,d) ((σ.H (C.l+1,d)).g+1) 0 0),updH σ.H (C.l+1,d) ⟨(σ.H (C.l+1,d)).g+1,true,e,sz,[]⟩⟩:=
    ⟨fun i=>⟨fun _=>(a.s i).1 (by rw[ax];split<;>exact A3),fun g=>absurd A3 g⟩,a.h,a.g,a.go,a.k,a.o⟩
   obtain⟨τ',f,t,u,x⟩:=ZA c r _ _ h p
   refine⟨τ',f,t,u,Wk.trans (fun l w q=>?_) x⟩
   obtain⟨s,H⟩:=σ
   exact R.adopt (e:=e) (sz:=sz) q (C.l+1,d) rfl _ (YN _) k
  ·grind
  ·exact ZA c r τ σ h b
theorem Z9{γ:Ad→Nat}:∀(ze:List Nat) (τ σ:St),RG (C.r γ) C.l C.outs [] τ σ→∃f,RG (C.r γ) C.l C.outs [] (M4 ze τ) f∧Wk n C σ f
 |[],τ,σ,b=>⟨σ,b,Wk.refl σ⟩
 |j::r,τ,σ,b=>by
  simp only[M4]
  split
  ·rename_i he
   have d:σ.s j=.e0:=by rw[(b.s j).1 A3,aL he];simp[ren]
   have a:=b.put (e:=j) (ch:=[]) rfl rfl (v:=.d (.list [])) (y:=.d (.list [])) (fun _=>by simp[ren]) (fun c=>absurd A3 c)
   have o:RG (C.r γ) C.l C.outs [] ⟨upd τ.s j (.d (.list [])),τ.H⟩ ⟨upd σ.s j (.d (.list [])),σ.H⟩:=
    ⟨fun i=>⟨fun _=>(a.s i).1 (by rw[ax];split<;>exact A3),fun c=>absurd A3 c⟩,a.h,a.g,a.go,a.k,a.o⟩
   obtain⟨f,t,u⟩:=Z9 r _ _ o
   refine⟨f,t,Wk.trans (fun l w q=>?_) u⟩
   obtain⟨s,H⟩:=σ
   obtain⟨m,S,p,c,g,k,h⟩:=q.un
   refine⟨m,S,p,c,g,fun i=>?_,h⟩
   show RepA w S H m (C.l+1) (upd s j (.d (.list [])) i) _
   unfold upd
   by_cases hi:i=j
   ·subst hi
    rw[Yk rfl]
    have:=k i
    simp only at d
    rw[d]at this
    exact this.e0_d
   ·rw[Yi hi];exact k i
  ·exact Z9 r τ σ b
theorem Hv(t:CxOk C){Φ:St→Prop}{γ:Ad→Nat}{f:Lf}(h:DV C.fx f τ Φ)(F:C.G γ)(D:RG (C.r γ) C.l C.outs [] τ σ):Is n C Φ σ:=by
 obtain⟨K,o,r⟩:=Z9 (n:=n) f.ze τ σ D
 obtain⟨a,g,l,b,m⟩:=ZA (n:=n) t f.ad (M4 f.ze τ) K h o
 replace m:=Wk.trans r m
 split at l
 case h_2=>exact l.elim
 rename_i p
 obtain⟨hs,J,c⟩:=R2 (C:=C) (γ:=γ) f.ks l
 refine⟨rebase γ a.H,_,⟨fun j=>ren (C.r (rebase γ a.H)) (Av (Mk a.H a.s f.ls) j),g.H⟩,t.G γ _ (fun i hi=>by unfold rebase;rw[eH p i hi];rfl) F,J,⟨fun j=>⟨fun _=>rfl,fun G=>absurd A3 G⟩,fun k q=>?_,fun d=>?_,fun i hi=>?_,fun k q=>?_,b.o⟩,m.trans fun u w E=>?_⟩
 ·obtain⟨x,z,A,B⟩:=c.2 k q
  have y:=c.1 k
  show g.H (C.κ k)=_
  have:=b.h k x
  rw[show(C.r γ).κ k=C.κ k from rfl]at this
  rw[this]
  simp only[AE]
  show _=Blk.mk (rebase γ a.H k+(Ax hs k).g) true (Ax hs k).e (Ax hs k).sz (Al (C.r (rebase γ a.H)) (Ax hs k).cells)
  rw[y,z,A,B]
  rfl
 ·show(g.H (C.l+1,d)).g=rebase γ a.H (1,d)+(Ax hs (1,d)).g
  have e0:(Ax hs (1,d)).g=0:=c.1 _
  rw[e0,b.g]
  rfl
 ·show(g.H (C.κ (0,i))).g=rebase γ a.H (0,i)+(Ax hs (0,i)).g
  have e0:(Ax hs (0,i)).g=0:=c.1 _
  rw[e0]
  exact b.go i hi
 ·exact b.k k (c.2 k q).1
 ·obtain⟨s,H⟩:=g
  refine R.weaken E fun j=>?_
  rcases mE (H:=a.H) (s:=a.s) f.ls j with e|e
  ·simp only[e]
   unfold dc
   split
   ·rename_i v I
    left
    rw[oJ (γ:=γ) I]
    exact((b.s j).1 A3).symm
   ·right;simp[ren]
  ·right;simp only[e];simp[ren]
end
end Go.Eng
