import Derived.Test.YtopncadjpnkjhaaGreatDoorZg06
import Derived.Test.YtopncadjpnkjhaaGreatDoorZg04
import Derived.Test.YtopncadjpnkjhaaGreatDoorZg00
namespace Go.Eng
set_option linter.all false
open Go Go.RowKit
section
variable {P:Program} {T:Nat→Option TI} {r:Ren} {l n outs:Nat} {B:Base} {env:Bl} {τ σ:St} {a:AT} {o:Oper}
theorem cA{H:Hp}{op:Op}{ρ:Operand→AV}{g:Option Bool}{K:AV→AT→Prop}(h:tV T H op ρ g a K):∃v b,K v b:=by
 have fin:∀{v b},K v b→∃v b,K v b:=fun h=>⟨_,_,h⟩
 cases op<;>simp only[tV]at h<;>try exact h.elim
 case move x=>exact fin h
 case assign x=>exact fin h
 case pick c x y=>split at h<;>first|exact fin h|exact h.elim
 case load t x=>
  split at h
  ·unfold KS at h
   repeat' split at h
   all_goals first|exact h.elim|exact fin h|exact fin h.2
  ·grind
 case fieldAddr t x f=>
  split at h
  ·unfold PD at h
   grind
  ·grind
 case field t x f=>
  split at h
  ·unfold Qf at h
   grind
  ·grind
 case indexAddr t x j=>
  split at h
  ·unfold PB at h
   grind
  ·grind
 case index t x j=>
  split at h
  ·unfold QJ at h
   grind
  ·grind
 case extract x j=>
  repeat' split at h
  all_goals first|exact h.elim|exact fin h
 case makeInterface t x=>
  repeat' split at h
  all_goals first|exact h.elim|exact fin h
 case typeAssert x u t ok=>
  repeat' split at h
  all_goals first|exact h.elim|exact fin h
 case binOp o t x y u=>
  split at h
  ·unfold OO at h
   split at h
   ·split at h
    ·unfold Oo at h
     grind
    grind
   ·unfold OJ at h
    grind
   ·grind
   ·grind
   ·split at h
    ·have nl:∀{neg:Bool} {x:AV},JW H neg x a K→∃v b,K v b:=fun {neg x} h=>by
      unfold JW at h
      repeat' split at h
      all_goals first|exact h.elim|exact fin (h true)|exact fin (h neg (fun _=>rfl))
     grind
    grind
   grind
  ·grind
 case unOp o t x=>
  unfold RT at h
  repeat' split at h
  all_goals first|exact h.elim|exact fin h|exact fin h.2
 case nilCheck x=>
  split at h
  ·grind
  ·grind
  ·grind
 case convert s d x=>
  split at h
  ·unfold Rm at h
   grind
  ·grind
 case makeFunc fn first e=>split at h<;>first|exact h.elim|exact fin h
 case slice t x lo hi k=>
  split at h
  ·unfold QF at h
   grind
  ·grind
 case build t parts=>
  split at h
  ·unfold Qw at h
   grind
  ·grind
 case lookup t x y i=>
  split at h
  ·unfold Rh at h
   grind
  ·grind
 case call c=>
  split at h
  ·split at h
   ·unfold OZ at h
    grind
   grind
  ·unfold Dy at h
   grind
  ·unfold Dy at h
   grind
  ·unfold FJ at h
   grind
  ·grind
theorem Ru{op:Op}{g:Option Bool}{K:AV→AT→Prop}(h:pV P T l r τ op g a K):∃v b,K v b:=by
 unfold pV at h
 split at h
 ·split at h
  ·unfold QY at h
   grind
  ·exact cA h
 ·unfold RH at h
  repeat' split at h
  all_goals first|exact h.elim|exact⟨_,_,h⟩
 ·exact cA h
def Yl(r:Ren)(e:Nat)(K:AV→AT→Prop)(σ b:St):Prop:=∃v a,b=⟨upd σ.s e (ren r v),σ.H⟩∧K v a
theorem Xb(E:AX P T)(h:RG r l outs env τ σ){c:Cn}(hs:Co τ.s c){g:Option Bool}(N:∀b,g=some b→b=true){e:Nat}{op:Op}{ty:TypeId}{ps:String}{af:Array Edge}{gd:Option (Nat×Bool)}
  (I:BU env c op=true) (q:e<n) {K:AV→AT→Prop} (d:pV P T l r τ op g a K):Bg P l n ⟨some e,op,ty,ps,af,gd⟩ (Yl r e K σ) σ:=by
 have val:tV T τ.H op (ev τ.s) g a K→Bg P l n ⟨some e,op,ty,ps,af,gd⟩ (Yl r e K σ) σ=AS P σ.H op (ev σ.s) (B6 n (some e) (Yl r e K σ) σ)→Bg P l n ⟨some e,op,ty,ps,af,gd⟩ (Yl r e K σ) σ:=fun C D=>by
  rw[D]
  exact P4 (fun y ⟨v,A,u,B⟩=>⟨q,v,A,by rw[u],B⟩) (sI E h hs N I C)
 unfold pV at d
 split at d
 ·rename_i c
  split at d
  ·rename_i f k
   obtain⟨i,first,M,x,A,u,B,Q⟩:=Wg h hs N k I d
   simp only[Bg,k,u]
   exact B.mono fun y W ⟨C,D⟩=>by subst C;subst D;exact⟨q,x,A,rfl,Q⟩
  ·rename_i G
   refine val d ?_
   cases k:c.callee with
   |value f=>exact absurd k (G f)
   |invoke x m=>simp only[tV,k]at d
   |builtin b=>
    cases b<;>simp only[tV,k]at d<;>simp only[Bg,k]
 ·rename_i t len parts
  have J:(Op.buildSlice t len parts).operands.toList.all (GS env c)=true:=I
  have u:(parts.toList.map fun p=>(p.1,ev σ.s p.2))=(parts.toList.map fun p=>(p.1,ev τ.s p.2)).map fun p=>(p.1,ren r p.2):=by
   rw[Ha]
   refine ET fun p d=>?_
   simp only[Function.comp]
   rw[EZ h hs J p.2 (by simp only[Op.operands,Lm,YU];exact⟨p,d,rfl⟩)]
  unfold RH at d
  split at d
  case h_2=>exact d.elim
  rename_i i hi
  split at d
  case h_2=>exact d.elim
  rename_i e' sz he
  simp only[Bg,(E _ _ hi).elm _ he]
  split at d
  ·rename_i o
   have o:=Yf o
   refine⟨by omega,?_⟩
   split at d
   ·rename_i H
    exact⟨by rw[←ES,H];rfl,q,.e0,a,by simp[ren],d⟩
   grind
  ·rename_i O o
   have o:=Yf o
   refine⟨by omega,?_⟩
   split at d
   case h_2=>exact d.elim
   rename_i j U w
   split at d
   case h_2=>exact d.elim
   rename_i z V
   split at d
   case h_2=>exact d.elim
   rename_i R L s
   split at d
   case h_2=>exact d.elim
   rename_i F
   rw[PK s]at u
   rw[u]
   simp only[(E _ _ U).zer _ V,s]
   exact⟨Yf w,Ya L,Ya F,q,.d (.list R),a,by simp[ren],d⟩
  grind
 ·rename_i S X
  refine val d ?_
  cases op<;>simp only[tV]at d<;>try exact d.elim
  case call c=>exact absurd rfl (S c)
  all_goals simp only[Bg]
theorem rO(y:AX P T)(h:RG r l outs env τ σ){c:Cn}(hs:Co τ.s c){g:Option Bool}(H:∀b,g=some b→b=true){e:Nat}{op:Op}{ty:TypeId}{ps:String}{af:Array Edge}{gd:Option (Nat×Bool)}
  (D:BU env c op=true) (o:e<n) {K:AV→AT→Prop} (d:pV P T l r τ op g a K):EL P l n ⟨some e,op,ty,ps,af,gd⟩ (Yl r e K σ) σ:=by
 have C:=Xb (ty:=ty) (ps:=ps) (af:=af) (gd:=gd) y h hs H D o d
 unfold pV at d
 split at d
 ·rename_i c
  split at d
  ·rename_i f k
   obtain⟨i,first,G,x,J,v,L,M⟩:=Wg h hs H k D d
   simp only[EL,k,v]
   exact⟨ren r x,L,o,x,J,rfl,M⟩
  ·rename_i B
   cases k:c.callee with
   |value f=>exact absurd k (B f)
   |_=>simp only[EL,k];exact C
 ·rename_i t len parts
  cases len with
  |zero=>exact C
  |succ len=>
   have E:(Op.buildSlice t (len+1) parts).operands.toList.all (GS env c)=true:=D
   have v:(parts.toList.map fun p=>(p.1,ev σ.s p.2))=(parts.toList.map fun p=>(p.1,ev τ.s p.2)).map fun p=>(p.1,ren r p.2):=by
    rw[Ha]
    refine ET fun p d=>?_
    simp only[Function.comp]
    rw[EZ h hs E p.2 (by simp only[Op.operands,Lm,YU];exact⟨p,d,rfl⟩)]
   unfold RH at d
   split at d
   case h_2=>exact d.elim
   rename_i i hi
   split at d
   case h_2=>exact d.elim
   rename_i e' sz he
   split at d
   ·rename_i q;cases q
   ·rename_i I u q
    cases q
    have u:=Yf u
    split at d
    case h_2=>exact d.elim
    rename_i j Q s
    split at d
    case h_2=>exact d.elim
    rename_i z R
    split at d
    case h_2=>exact d.elim
    rename_i w F m
    split at d
    case h_2=>exact d.elim
    rename_i A
    rw[PK m]at v
    exact⟨.d (.list w),⟨e',sz,z,w,(y _ _ hi).elm _ he,by omega,Yf s,(y _ _ Q).zer _ R,Ya F,by rw[v];exact m,Ya A,rfl⟩,o,.d (.list w),a,by simp[ren],d⟩
   ·exact d.elim
 ·rename_i N O
  cases op<;>first|exact absurd rfl (N _)|exact absurd rfl (O _ _ _)|exact C
theorem Ms{d:Nat}{e:TypeId}{sz:Nat}{cells:List AV}{x:Nat→AV}{K a:St→Prop}(b:∀σ,K σ→a σ)(h:Dt l n d e sz cells x K σ):Dt l n d e sz cells x a σ:=⟨h.1,b _ h.2⟩
theorem nT{o:Oper}{K b:St→Prop}(a:∀σ,K σ→b σ)(h:Bg P l n o K σ):Bg P l n o b σ:=by
 have i:∀x,B6 n o.dst K σ x→B6 n o.dst b σ x:=fun x h=>by
  unfold B6 at h⊢
  grind
 unfold Bg at h⊢
 split at h
 ·split at h
  ·exact⟨h.1,Ms a h.2⟩
  grind
 ·split at h
  ·exact⟨h.1,Ms a h.2⟩
  grind
 ·grind
 ·split at h
  ·refine⟨h.1,?_⟩
   replace h:=h.2
   split at h
   ·grind
   ·refine⟨h.1,?_⟩
    replace h:=h.2
    split at h
    ·refine⟨h.1,?_⟩
     replace h:=h.2
     split at h
     ·grind
     ·split at h
      ·exact Ms a h
      grind
    grind
  grind
 ·split at h
  ·obtain⟨c,d,f,j,k,h⟩:=h
   refine⟨c,d,f,j,k,?_⟩
   split at h
   ·exact⟨h.1,Ms a h.2⟩
   grind
  grind
 ·split at h
  ·split at h
   ·exact h.mono fun r m g=>by
     unfold LU at g⊢
     unfold B6 at g⊢
     grind
   grind
  ·split at h
   ·refine⟨h.1,?_⟩
    replace h:=h.2
    unfold JJ at h⊢
    split at h
    ·obtain⟨c,d,f,h⟩:=h
     refine⟨c,d,f,?_⟩
     split at h
     ·refine⟨h.1,?_⟩
      replace h:=h.2
      split at h
      ·exact⟨h.1,fun e=>⟨(h.2.1 e).1,a _ (h.2.1 e).2⟩,fun e=>Ms a (h.2.2 e)⟩
      ·grind
      grind
     grind
    grind
   grind
  ·exact P4 i h
 ·exact P4 i h
theorem PI{o:Oper}{K a:St→Prop}(b:∀σ,K σ→a σ)(h:EL P l n o K σ):EL P l n o a σ:=by
 have e:∀{x},B6 n o.dst K σ x→B6 n o.dst a σ x:=fun {x} h=>by
  unfold B6 at h⊢
  grind
 unfold EL at h⊢
 split at h
 ·obtain⟨v,c,d⟩:=h;exact⟨v,c,e d⟩
 ·split at h
  ·grind
  ·exact nT b h
 ·exact nT b h
theorem We(h:RG r l outs env τ σ){ds:List (Option Nat)}{i d:Nat}{b g:Bool}(j:A5 ds i=some (some d))(a:E1 τ.s ((d,b)::lk env d)=some g):GU σ.s ds i b=some g:=by
 rw[BS]at j
 have f:=Hm a
 unfold GU
 simp only[j]
 by_cases hs:Co τ.s (lk env d)
 ·have k:=(h.s d).1 hs
  have m:∃t,τ.s d=.d (.bool t):=by
   cases hl:lk env d with
   |nil=>
    rw[hl]at a
    simp only[E1]at a
    grind
   |cons q o=>
    rw[hl]at a
    simp only[E1]at a
    grind
  obtain⟨t,n⟩:=m
  rw[k,n]
  simp only[ren,Yg]
  cases g with
  |true=>
   have:=f.1 rfl (d,b) (YM ..)
   grind
  |false=>
   cases e:t==b with
   |false=>rfl
   |true=>
    exfalso
    have e:t=b:=by simpa using e
    have:Co τ.s ((d,b)::lk env d):=fun q c=>by
     rcases YK.1 c with rfl|c
     ·grind
     ·exact hs q c
    grind
 ·rw[(h.s d).2 hs]
  simp only[Yg]
  cases g with
  |false=>rfl
  |true=>exact absurd (fun q c=>f.1 rfl q (YH _ c)) hs
theorem J9(F:RenOk r l outs)(A:AX P T){ops:Array Oper}{K:St→Bl→AT→Prop}{QQ:Exit→Act→World→Prop}(more:List Oper)
  (D:∀τ' k u G f w',K τ' k u→RG r l outs k τ' G→R l n B G f w'→wpList P ops QQ more f w'):
  ∀(c:List Oper) (env:Bl) (a:AT) (τ σ:St) (act:Act) (w:World),EF P T l n r (ops.toList.map (·.dst)) c env a K τ→RG r l outs env τ σ→R l n B σ act w→wpList P ops QQ (c++more) act w
 |[],env,a,τ,σ,act,w,h,p,x=>D _ _ _ _ _ _ h p x
 |o::c,env,a,τ,σ,act,w,h,p,x=>by
  unfold EF at h
  split at h
  ·rename_i E
   split at h
   ·rename_i V Z
    refine VJ (by simp[Region.wanted,E]) (nc (B:=B) F A p V Z h) x fun G f w' I q=>?_
    obtain⟨σ'',⟨τ',u,z,N⟩,O⟩:=I
    exact J9 F A more D c _ _ _ _ _ _ z N (O _ _ q)
   grind
  ·rename_i i b E
   split at h
   case h_2=>exact h.elim
   rename_i d e W he
   split at h
   case h_2=>exact h.elim
   rename_i g t hx j C
   simp only[Yb]at j
   have C:=Yf C
   have J:=We p W t
   have hy:(yielded ops act.tmps i==some b)=g:=by
    obtain⟨s,H⟩:=σ
    obtain⟨m,S,hO,L,X,Q,Y⟩:=x.un
    exact Wj Q J
   cases g with
   |true=>
    have hs:=(Hm t).1 rfl
    refine VJ (by simp only[Region.wanted,E];exact hy) (σ:=σ) (B:=B) (l:=l) (n:=n) (KK:=Yl r e (fun v u=>EF P T l n r (ops.toList.map (·.dst)) c ((e,(d,b)::lk env d)::env) u K ⟨upd τ.s e v,τ.H⟩) σ) (Iy ?_) x fun G f w' U q=>?_
    ·obtain⟨M,op,ty,ps,af,gd⟩:=o
     simp only at he
     subst he
     exact Xb A p hs (fun b' e'=>by cases e';rfl) hx (by omega) h
    ·obtain⟨v,u,rfl,z⟩:=U
     exact J9 F A more D c _ _ _ _ _ _ z (p.put j.1 j.2 (fun _=>rfl) (fun L=>absurd hs L)) q
   |false=>
    have hs:¬Co τ.s ((d,b)::lk env d):=fun hs=>by have:=(Hm t).2 hs;cases this
    obtain⟨v,u,z⟩:=Ru h
    show wpList P ops QQ (o::(c++more)) act w
    unfold wpList
    rw[Yj (by simp only[Region.wanted,E,hy];decide),he]
    exact J9 F A more D c _ _ _ _ _ _ z (p.put j.1 j.2 (y:=.tup []) (fun h=>absurd h hs) (fun _=>rfl)) (R.undef x (by omega))
theorem Kc(L:RenOk r l outs)(B:AX P T){ds:List (Option Nat)}{K:St→Bl→AT→Prop}:
  ∀(rest:List Oper) (env:Bl) (a:AT) (τ σ:St),rest.all (fun o=>Cr o||BA o)=true→FC P T l n r ds rest env a K τ→RG r l outs env τ σ→Di P l n ds rest (fun Z=>∃τ' z f,K τ' z f∧RG r l outs z τ' Z) σ
 |[],env,a,τ,σ,_,h,u=>⟨_,_,_,h,u⟩
 |o::rest,env,a,τ,σ,w,h,u=>by
  simp only[G9,Yb]at w
  unfold FC at h
  unfold Di
  split at h
  ·rename_i G
   simp only[G]
   split at h
   case h_2=>exact h.elim
   rename_i I hf
   by_cases H:BA o=true
   ·obtain⟨j,op,ty,ps,af,gd⟩:=o
    cases op<;>simp only[BA]at H<;>first|(cases H;done)|skip
    rename_i t p x
    cases j with
    |some d=>cases H
    |none=>
     unfold Tp at h
     simp only at h
     unfold Gt Ir HU IP at h
     simp only at h I
     split at h
     case h_2=>exact h.elim
     rename_i i hi U
     have A:∀y∈(Op.store t p x).operands,ev σ.s y=ren r (ev τ.s y):=by
      unfold BU at I
      exact EZ u AU I
     have W:=A x (by simp[Op.operands])
     have V:=A p (by simp[Op.operands])
     cases X:Cq (ev τ.s x)with
     |none=>rw[X]at h;unfold MK at h;split at h<;>first|exact h.elim|(rename_i e;cases e)
     |some vs=>
      rw[X]at h
      have Y:=Mm (r:=r) X (Mx U)
      obtain⟨k,g,off,M,e2,e3,e4,e5,e6,e7,e8⟩:=mf L u (B _ _ hi) h
      obtain⟨τ',f,m,h2⟩:=e8
      simp only[EL,Bg,V,W,Y,M]
      exact⟨e2,e3,e4,e5,e6,e7,Kc L B rest _ _ _ _ w.2 m h2⟩
   have J:Cr o=true:=by
    grind
   replace w:Cr o=true∧_:=⟨J,w.2⟩
   obtain⟨j,op,ty,ps,af,gd⟩:=o
   have E:∃d,j=some d:=by
    have:=w.1
    unfold Cr BT at this
    rw[Yt,Yb,Yb]at this
    rcases this with h|h
    ·exact Y0.1 h.1
    ·exact Y0.1 h.1
   obtain⟨d,rfl⟩:=E
   simp only at I hf G
   have hp:pV P T l r τ op none a (D9 n d (fun τ' f=>FC P T l n r ds rest (D6 env (some d)) f K τ') τ):=by
    by_cases C:∃t len p,op=.buildSlice t (len+1) p
    ·obtain⟨t,len,p,rfl⟩:=C
     exact h
    ·have c:BT ⟨some d,op,ty,ps,af,gd⟩=true:=Wv w.1 fun t len p e=>C ⟨t,len,p,e⟩
     have h:Gt P T l n r ⟨some d,op,ty,ps,af,gd⟩ a (fun τ' f=>FC P T l n r ds rest (D6 env (some d)) f K τ') τ:=by
      unfold Tp at h
      split at h
      ·rename_i M _;exact absurd ⟨_,_,_,M⟩ C
      ·exact h
     have h:=x1 c (xb c h)
     unfold HU at h
     simp only at h
     have h:IP P T l n r ⟨some d,op,ty,ps,af,none⟩ a (fun τ' f=>FC P T l n r ds rest (D6 env (some d)) f K τ') τ:=by
      subst G
      split at h
      ·split at h
       ·rename_i q;simp[BT,q]at c
       ·grind
       ·exact h
      ·exact h
     unfold IP at h
     simp only at h
     split at h
     ·simp[BT]at c
     ·simp[BT]at c
     ·grind
     ·simp[BT]at c
     ·simp[BT]at c
     ·split at h
      ·rename_i q;simp[BT,q]at c
      ·exact h
     ·exact h
   have Q:∃v f,D9 n d (fun τ' f=>FC P T l n r ds rest (D6 env (some d)) f K τ') τ v f:=Ru hp
   have O:d<n:=by
    obtain⟨v,f,m⟩:=Q
    unfold D9 at m
    split at m
    ·rename_i E;have E:=Yf E;exact E
    grind
   have:=rO (ty:=ty) (ps:=ps) (af:=af) (gd:=gd) B u AU (fun b e=>by cases e) I O hp
   refine PI (fun Z N=>?_) this
   obtain⟨v,f,rfl,m⟩:=N
   unfold D9 at m
   split at m
   ·exact Kc L B rest _ _ _ _ w.2 m (u.put0 hf rfl)
   grind
  ·rename_i i b G
   have J:Cr o=true:=by
    have:=w.1
    rw[Yt]at this
    rcases this with h|h
    ·exact h
    ·exfalso
     obtain⟨j,op,ty,ps,af,gd⟩:=o
     simp only at G
     subst G
     cases op<;>cases j<;>simp[BA]at h
   simp only[G]
   split at h
   case h_2=>exact h.elim
   rename_i d e E he
   split at h
   case h_2=>exact h.elim
   rename_i g D W s F
   simp only[Yb]at s
   have F:=Yf F
   rw[We u E D]
   refine⟨fun S=>?_,fun R=>?_⟩
   ·subst S
    have hs:=(Hm D).1 rfl
    obtain⟨j,op,ty,ps,af,gd⟩:=o
    simp only at he
    subst he
    refine PI (fun Z N=>?_) (rO (ty:=ty) (ps:=ps) (af:=af) (gd:=gd) B u hs (fun b' e'=>by cases e';rfl) W (by omega) h)
    obtain⟨v,f,rfl,m⟩:=N
    exact Kc L B rest _ _ _ _ w.2 m (u.put s.1 s.2 (fun _=>rfl) (fun hn=>absurd hs hn))
   ·subst R
    have hs:¬Co τ.s ((d,b)::lk env d):=fun hs=>by have:=(Hm D).2 hs;cases this
    obtain⟨v,f,m⟩:=Ru h
    rw[he]
    exact⟨F,Kc L B rest _ _ _ _ w.2 m (u.put s.1 s.2 (y:=.tup []) (fun h=>absurd h hs) (fun _=>rfl))⟩
end
end Go.Eng
namespace Go.Eng
set_option linter.all false
open Go Go.RowKit
def AJ:List (Nat×AV)→Nat→AV
 |[],_=>.top
 |(i,x)::r,j=>match Nat.beq i j with|true=>x|false=>AJ r j
def Eb:Blk:=⟨0,false,0,0,[]⟩
def As:List (Ab×Blk)→Ab→Blk
 |[],_=>Eb
 |(k,b)::r,q=>match Bj k q with|true=>b|false=>As r q
def Aa(ss:List (Nat×AV))(hs:List (Ab×Blk)):St:=⟨AJ ss,As hs⟩
mutual
def Dw(H:Hp):AV→Option AV
 |.ref k g off n=>match Bv H k g with|true=>some (.ref k 0 off n)|false=>none
 |.ptr k g off=>match Bv H k g with|true=>some (.ptr k 0 off)|false=>none
 |.mp k g=>match Bv H k g with|true=>some (.mp k 0)|false=>none
 |.fn f xs ys=>match GH H xs,GH H ys with|some xs,some ys=>some (.fn f xs ys)|_,_=>none
 |.agg xs=>match GH H xs with|some xs=>some (.agg xs)|none=>none
 |.tup xs=>match GH H xs with|some xs=>some (.tup xs)|none=>none
 |.top=>some .top
 |.d x=>some (.d x)
 |.e0=>some .e0
 |.p x=>some (.p x)
 |.iptr cs off=>some (.iptr cs off)
 |.ifc t ds a=>some (.ifc t ds a)
def GH(H:Hp):List AV→Option (List AV)
 |[]=>some []
 |x::xs=>match Dw H x,GH H xs with|some x,some xs=>some (x::xs)|_,_=>none
end
def ZV(H:Hp)(x:AV):AV:=match Dw H x with|some v=>v|none=>.top
def Ki(H:Hp)(s:Nat→AV):List Nat→List (Nat×AV)
 |[]=>[]
 |j::r=>(j,ZV H (s j))::Ki H s r
def Gj(cs:List AV):Prop:=∀x∈cs,x.flat=true
def Kk(H:Hp):List (Ab×Bool)→(List (Ab×Blk)→Prop)→Prop
 |[],K=>K []
 |(k,fl)::r,K=>match (H k).live with
  |false=>Kk H r K
  |true=>match fl with
   |true=>Gj (H k).cells∧Kk H r (fun a=>K ((k,⟨0,true,(H k).e,(H k).sz,(H k).cells⟩)::a))
   |false=>match GH H (H k).cells with
    |some cs=>Kk H r (fun a=>K ((k,⟨0,true,(H k).e,(H k).sz,cs⟩)::a))
    |none=>False
def OC:AV→Bool
 |.e0=>true
 |_=>false
def MI:List (Nat×Nat×TypeId×Nat)→St→(St→Prop)→Prop
 |[],τ,K=>K τ
 |(j,d,e,sz)::r,τ,K=>match OC (τ.s j),(τ.H (1,d)).live with
  |true,false=>MI r ⟨upd τ.s j (.ref (1,d) ((τ.H (1,d)).g+1) 0 0),updH τ.H (1,d) ⟨(τ.H (1,d)).g+1,true,e,sz,[]⟩⟩ K
  |true,true=>False
  |false,_=>MI r τ K
structure Lf where
 ls:List Nat
 ks:List (Ab×Bool):=[]
 ad:List (Nat×Nat×TypeId×Nat):=[]
 ze:List Nat:=[]
def K4:List Nat→St→St
 |[],τ=>τ
 |j::r,τ=>match OC (τ.s j)with|true=>K4 r ⟨upd τ.s j (.d (.list [])),τ.H⟩|false=>K4 r τ
def gz(H:Hp):List Nat→Bool
 |[]=>true
 |i::r=>Nat.beq (H (0,i)).g 0&&gz H r
def Do(fx:List Nat)(f:Lf)(τ:St)(Φ:St→Prop):Prop:=MI f.ad (K4 f.ze τ) (fun τ=>match gz τ.H fx with|true=>Kk τ.H f.ks (fun hs=>Φ (Aa (Ki τ.H τ.s f.ls) hs))|false=>False)
structure Cx where
 l:Nat
 B:Base
 κ:Ab→Ab
 θ:Nat→AV
 H0:Hp
 outs:Nat
 no:Ab→Prop
 fx:List Nat
 G:(Ab→Nat)→Prop
def Cx.r(C:Cx)(γ:Ab→Nat):Ren:=⟨C.κ,γ,C.θ,C.H0,C.no⟩
structure CxOk (C:Cx):Prop where
 own:∀d,C.κ (1,d)=(C.l+1,d)
 out:∀i,i<C.outs→(C.κ (0,i)).1≤C.l
 inj:∀i j,i<C.outs→j<C.outs→C.κ (0,i)=C.κ (0,j)→i=j
 no:∀k,C.no k→∃i,i<C.outs∧C.κ (0,i)=k
 G:∀γ γ':Ab→Nat,(∀i∈C.fx,γ' (0,i)=γ (0,i))→C.G γ→C.G γ'
theorem CxOk.ren{C:Cx}(h:CxOk C)(γ:Ab→Nat):RenOk (C.r γ) C.l C.outs:=⟨h.own,h.out,h.inj,h.no⟩
def Wk(n:Nat)(C:Cx)(σ b:St):Prop:=∀a w,R C.l n C.B σ a w→R C.l n C.B b a w
def Is(n:Nat)(C:Cx)(Φ:St→Prop)(σ:St):Prop:=∃γ τ a,C.G γ∧Φ τ∧RG (C.r γ) C.l C.outs [] τ a∧Wk n C σ a
def LW(P:Program)(n:Nat)(C:Cx)(c:Code)(τ:St)(Q:Exit→St→Prop):Prop:=
 ∀γ σ,C.G γ→RG (C.r γ) C.l C.outs [] τ σ→Bn P C.l n C.B c (fun e a=>Is n C (Q e) a) σ
def RC(P:Program)(l n:Nat)(B:Base)(c:Code)(Q:Exit→St→Prop)(σ:St):Prop:=
 ∀a w,R l n B σ a w→∀(b:Frame) (k:List Item) (cs:List Frame),∃e d w',(∃f,Q e f∧R l n B f d w')∧Arrives P (lone (b.at a (.code c::.inLoop c::k)) cs w) b k cs e d w'
def LL(P:Program)(n:Nat)(C:Cx)(c:Code)(τ:St)(Q:Exit→St→Prop):Prop:=
 ∀γ σ,C.G γ→RG (C.r γ) C.l C.outs [] τ σ→RC P C.l n C.B c (fun e a=>Is n C (Q e) a) σ
def C7(env:Bl)(τ:St):St:=⟨fun j=>match lk env j with|[]=>τ.s j|_=>.top,τ.H⟩
def FY(C:List AV)(off n sz:Nat)(es:List (List D)):Prop:=es.length=n∧sz≠0∧(∀e∈es,e.length=sz)∧(off+n)*sz≤C.length∧(C.drop (off*sz)).take (n*sz)=es.flatten.map .d
def RO(H:Hp)(d:Nat)(s:Nat→AV)(A:Prop):List (Nat×List (List D))→Prop
 |[]=>A
 |(j,a)::r=>match s j with
  |.ref k q off m=>(match Bj k (1,d),Bv H k q with|true,true=>FY (H (1,d)).cells off m (H (1,d)).sz a∧RO H d s A r|_,_=>False)
  |_=>False
def RK(H:Hp)(d:Nat)(A:Prop):List (Ab×Nat×List (List D))→Prop
 |[]=>A
 |(k,i,a)::r=>match Nat.beq k.1 1,Bj k (1,d),(H k).live,A5 (H k).cells i with
  |true,false,true,some (.ref k' q off m)=>(match Bj k' (1,d),Bv H k' q with|true,true=>FY (H (1,d)).cells off m (H (1,d)).sz a∧RK H d A r|_,_=>False)
  |_,_,_,_=>False
def uK(r:Ren)(k:Ab)(A:Prop):Prop:=
 match Nat.beq k.1 1 with
 |true=>A
 |false=>Jg r k∧A
def RQ(H:Hp)(d:Nat)(s:Nat→AV):List Nat→Bool
 |[]=>true
 |j::r=>match s j with
  |.mp k g=>Bj k (1,d)&&Bv H k g&&RQ H d s r
  |_=>false
def RR(H:Hp)(d:Nat)(s:Nat→AV):List Nat→Bool
 |[]=>true
 |j::r=>match s j with
  |.ptr k g 0=>Bj k (1,d)&&Bv H k g&&RR H d s r
  |_=>false
def AW(r:Ren)(os:Nat):AT→St→(St→AT→Prop)→Prop
 |.frz d f cs b,τ,K=>match (τ.H (1,d)).live,Nat.ble 1 (τ.H (1,d)).sz with
  |true,true=>RO τ.H d τ.s (RK τ.H d (AW r os b ⟨HT f τ.s,GK cs (updH τ.H (1,d) ⟨(τ.H (1,d)).g,false,(τ.H (1,d)).e,(τ.H (1,d)).sz,(τ.H (1,d)).cells⟩)⟩ K) cs) f
  |_,_=>False
 |.adc k i d e sz b,τ,K=>match Nat.beq k.1 1,Bj k (1,d),(τ.H k).live,A5 (τ.H k).cells i with
  |true,false,true,some .e0=>AW r os b ⟨τ.s,updH (updH τ.H (1,d) ⟨(τ.H (1,d)).g+1,true,e,sz,[]⟩) k ⟨(τ.H k).g,true,(τ.H k).e,(τ.H k).sz,(τ.H k).cells.set i (.ref (1,d) ((τ.H (1,d)).g+1) 0 0)⟩⟩ K
  |_,_,_,_=>False
 |.sep b,τ,K=>K τ b
 |.ads j d e sz b,τ,K=>match OC (τ.s j)with
  |true=>AW r os b ⟨upd τ.s j (.ref (1,d) ((τ.H (1,d)).g+1) 0 0),updH τ.H (1,d) ⟨(τ.H (1,d)).g+1,true,e,sz,[]⟩⟩ K
  |false=>False
 |.trim k c b,τ,K=>match (τ.H k).live with
  |true=>(∃m,(τ.H k).cells.take m=c)∧uK r k (AW r os b ⟨τ.s,updH τ.H k ⟨(τ.H k).g,true,(τ.H k).e,(τ.H k).sz,c⟩⟩ K)
  |false=>False
 |.reb j d m c b,τ,K=>match τ.s j with
  |.ref k q off n=>(match Bj k (1,d),Bv τ.H k q with
   |true,true=>(n=m∧off*(τ.H k).sz≤(τ.H k).cells.length∧(τ.H k).cells.drop (off*(τ.H k).sz)=c)∧AW r os b ⟨upd τ.s j (.ref k (q+1) 0 m),updH τ.H k ⟨q+1,true,.t (τ.H k).e.ty,(τ.H k).sz,c⟩⟩ K
   |_,_=>False)
  |_=>False
 |.mv d j b,τ,K=>match (τ.H (1,d)).live with
  |true=>Eu (τ.H (1,d)).cells∧(j<os∧r.no (r.κ (0,j)))∧AW r os b ⟨fun i=>Ed (1,d) (0,j) (τ.H (1,d)).g ((τ.H (0,j)).g+1) (τ.s i),
    updH (updH τ.H (1,d) ⟨(τ.H (1,d)).g,false,(τ.H (1,d)).e,(τ.H (1,d)).sz,(τ.H (1,d)).cells⟩) (0,j) ⟨(τ.H (0,j)).g+1,true,(τ.H (1,d)).e,(τ.H (1,d)).sz,(τ.H (1,d)).cells⟩⟩ K
  |false=>False
 |.fzm d f b,τ,K=>match (τ.H (1,d)).live,(τ.H (1,d)).e,RQ τ.H d τ.s f with
  |true,.m q h,true=>AW r os b ⟨DP (.d (.map q h)) f τ.s,updH τ.H (1,d) ⟨(τ.H (1,d)).g,false,(τ.H (1,d)).e,(τ.H (1,d)).sz,(τ.H (1,d)).cells⟩⟩ K
  |_,_,_=>False
 |.fzb d f b,τ,K=>match (τ.H (1,d)).live,JT (τ.H (1,d)).cells,RR τ.H d τ.s f with
  |true,some (x::ds),true=>AW r os b ⟨DP (.iptr (x::ds) 0) f τ.s,updH τ.H (1,d) ⟨(τ.H (1,d)).g,false,(τ.H (1,d)).e,(τ.H (1,d)).sz,(τ.H (1,d)).cells⟩⟩ K
  |_,_,_=>False
 |.rnm d d' e i b,τ,K=>match (τ.H (1,d)).live,Nat.beq d d',Nat.beq e d,Nat.beq e d',(τ.H (1,e)).live,A5 (τ.H (1,e)).cells i with
  |true,false,false,false,true,some (.ref k g off c)=>(match Bj k (1,d),Nat.beq g (τ.H (1,d)).g with
   |true,true=>Eu (τ.H (1,d)).cells∧AW r os b ⟨fun j=>Ed (1,d) (1,d') (τ.H (1,d)).g ((τ.H (1,d')).g+1) (τ.s j),
     updH (updH (updH τ.H (1,d) ⟨(τ.H (1,d)).g,false,(τ.H (1,d)).e,(τ.H (1,d)).sz,(τ.H (1,d)).cells⟩) (1,d') ⟨(τ.H (1,d')).g+1,true,(τ.H (1,d)).e,(τ.H (1,d)).sz,(τ.H (1,d)).cells⟩)
      (1,e) ⟨(τ.H (1,e)).g,true,(τ.H (1,e)).e,(τ.H (1,e)).sz,(τ.H (1,e)).cells.set i (.ref (1,d') ((τ.H (1,d')).g+1) off c)⟩⟩ K
   |_,_=>False)
  |_,_,_,_,_,_=>False
 |.mvc d q e i b,τ,K=>match (τ.H (1,d)).live,Nat.beq e d,(τ.H (1,e)).live,A5 (τ.H (1,e)).cells i with
  |true,false,true,some (.ref k g off c)=>(match Bj k (1,d),Nat.beq g (τ.H (1,d)).g with
   |true,true=>Eu (τ.H (1,d)).cells∧(q<os∧r.no (r.κ (0,q)))∧AW r os b ⟨fun j=>Ed (1,d) (0,q) (τ.H (1,d)).g ((τ.H (0,q)).g+1) (τ.s j),
     updH (updH (updH τ.H (1,d) ⟨(τ.H (1,d)).g,false,(τ.H (1,d)).e,(τ.H (1,d)).sz,(τ.H (1,d)).cells⟩) (0,q) ⟨(τ.H (0,q)).g+1,true,(τ.H (1,d)).e,(τ.H (1,d)).sz,(τ.H (1,d)).cells⟩)
      (1,e) ⟨(τ.H (1,e)).g,true,(τ.H (1,e)).e,(τ.H (1,e)).sz,(τ.H (1,e)).cells.set i (.ref (0,q) ((τ.H (0,q)).g+1) off c)⟩⟩ K
   |_,_=>False)
  |_,_,_,_=>False
 |a,τ,K=>K τ a
def Ca(P:Program)(T:Nat→Option TI)(l n os:Nat)(r:Ren):Code→AT→St→(Exit→St→AT→Prop)→Prop
 |.skip,a,τ,K=>K .normal τ a
 |.ret,a,τ,K=>AW r os a τ (fun τ a=>K .ret τ a)
 |.exit id,a,τ,K=>K (.exit id) τ a
 |.seq x y,a,τ,K=>Ca P T l n os r x a τ (fun e τ' d=>match e with|.normal=>Ca P T l n os r y d τ' K|e=>K e τ' d)
 |.block id c,a,τ,K=>Ca P T l n os r c a τ (fun e τ' d=>match e with|.exit i=>(match Nat.beq i id with|true=>K .normal τ' d|false=>K (.exit i) τ' d)|e=>K e τ' d)
 |.cond c x y,a,τ,K=>match ev τ.s c,a with
  |.d (.bool b),.br a1 g=>(b=true→Ca P T l n os r x a1 τ K)∧(b=false→Ca P T l n os r y g τ K)
  |.d (.bool b),.go a=>(match b with|true=>Ca P T l n os r x a τ K|false=>Ca P T l n os r y a τ K)
  |.d (.bool b),.one v a=>(match v with|true=>(b=true→Ca P T l n os r x a τ K)∧(b=false→False)|false=>(b=true→False)∧(b=false→Ca P T l n os r y a τ K))
  |_,_=>False
 |.region _ ops f,a,τ,K=>match f with
  |false=>AW r os a τ (fun τ a=>EF P T l n r (ops.toList.map (·.dst)) ops.toList [] a (fun τ' env d=>K .normal (C7 env τ') d) τ)
  |true=>match Rq ops.toList&&ops.toList.all (fun o=>Cr o||BA o)&&I5 ops.toList 0 ops.toList with
   |true=>AW r os a τ (fun τ a=>FC P T l n r (ops.toList.map (·.dst)) ops.toList [] a (fun τ' env d=>K .normal (C7 env τ') d) τ)
   |false=>False
 |_,_,_,_=>False
mutual
def frz(H:Hp):AV→AT→(AV→AT→Prop)→Prop
 |.d x,a,K=>K (.d x) a
 |.e0,a,K=>K (.d (.list [])) a
 |.ifc t ds q,a,K=>K (.ifc t ds q) a
 |.agg xs,a,K=>HS H xs a (fun ys c=>K (.agg ys) c)
 |.ref k g off n,a,K=>match Nat.beq k.1 0,Nat.beq k.1 1,Bv H k g with
  |true,_,true=>K (.ref k g off n) a
  |false,true,true=>(match a with|.av (.d (.list b)) c=>FY (H k).cells off n (H k).sz b∧K (.d (.list b)) c|_=>False)
  |_,_,_=>False
 |.mp k g,a,K=>match Nat.beq k.1 0,Nat.beq k.1 1,Bv H k g,(H k).e with
  |true,_,true,_=>K (.mp k g) a
  |false,true,true,.m q b=>K (.d (.map q b)) a
  |_,_,_,_=>False
 |_,_,_=>False
def HS(H:Hp):List AV→AT→(List AV→AT→Prop)→Prop
 |[],a,K=>K [] a
 |x::xs,a,K=>frz H x a (fun y c=>HS H xs c (fun ys b=>K (y::ys) b))
end
def ZN(T:Nat→Option TI)(τ:St):ResultVar→(AV→Prop)→Prop
 |.tmp t,K=>K (τ.s t)
 |.cell p t,K=>match τ.s p,T t with
  |.ptr k g off,some i=>(match Bv τ.H k g,i.agg with
   |true,true=>(match Nat.ble 1 i.siz,Hv i.siz ((τ.H k).cells.drop off)with|true,some c=>K (.agg c)|_,_=>False)
   |true,false=>(match A5 (τ.H k).cells off with|some c=>K c|none=>False)
   |false,_=>False)
  |_,_=>False
def Uu(T:Nat→Option TI)(τ:St):List ResultVar→(List AV→Prop)→Prop
 |[],K=>K []
 |v::vs,K=>ZN T τ v (fun x=>Uu T τ vs (fun xs=>K (x::xs)))
def Hy(H:Hp):Nat→Nat→List Blk
 |0,_=>[]
 |n+1,i=>H (0,i)::Hy H n (i+1)
def LR(T:Nat→Option TI)(c:List ResultVar)(os:Nat)(τ:St)(a:AT)(b:AV→List Blk→Prop):Prop:=
 Uu T τ c (fun xs=>HS τ.H xs a (fun ys _=>b (C4 ys) (Hy τ.H os 0)))
def FQ(T:Nat→Option TI)(c:List ResultVar)(os:Nat)(b:AV→List Blk→Prop)(e:Exit)(τ:St):Prop:=(e=.normal∨e=.ret)∧∃a,LR T c os τ a b
section
variable {P:Program} {T:Nat→Option TI} {n:Nat} {C:Cx} {τ σ:St} {Q:Exit→St→Prop}
theorem Wk.refl(σ:St):Wk n C σ σ:=fun _ _ h=>h
theorem Wk.trans{σ c b:St}(h:Wk n C σ c)(k:Wk n C c b):Wk n C σ b:=fun a w d=>k a w (h a w d)
theorem R.weaken{l:Nat}{B:Base}{s s':Nat→AV}{H:Hp}{a:Act}{w:World}(h:R l n B ⟨s,H⟩ a w)(hs:∀j,s' j=s j∨s' j=.top):R l n B ⟨s',H⟩ a w:=by
 obtain⟨m,S,d,g,b,f,c⟩:=h.un
 refine⟨m,S,d,g,b,fun i=>?_,c⟩
 show RepA w S H m (l+1) (s' i) _
 rcases hs i with e|e
 ·rw[e];exact f i
 ·rw[e];exact .top _
theorem Is.mono{Φ Ψ:St→Prop}(h:Is n C Φ σ)(e:∀τ,Φ τ→Ψ τ):Is n C Ψ σ:=by
 obtain⟨γ,τ,f,a,b,c,d⟩:=h;exact⟨γ,τ,f,a,e _ b,c,d⟩
theorem Bn.weak{c:Code}{QQ:Exit→St→Prop}{b:St}(h:Bn P C.l n C.B c QQ b)(e:Wk n C σ b):Bn P C.l n C.B c QQ σ:=fun a w d=>h a w (e a w d)
theorem RC.weak{c:Code}{QQ:Exit→St→Prop}{b:St}(h:RC P C.l n C.B c QQ b)(e:Wk n C σ b):RC P C.l n C.B c QQ σ:=fun a w d=>h a w (e a w d)
theorem LW.mono{c:Code}{a:Exit→St→Prop}(h:LW P n C c τ Q)(f:∀e τ,Q e τ→a e τ):LW P n C c τ a:=fun γ σ d b=>F9 (h γ σ d b) fun e g hi=>hi.mono (f e)
theorem wu{x y:Code}(h:LW P n C x τ (fun e τ'=>match e with|.normal=>LW P n C y τ' Q|e=>Q e τ')):LW P n C (.seq x y) τ Q:=by
 intro γ σ i g
 refine WH (F9 (h γ σ i g) fun e k hi=>?_)
 cases e with
 |normal=>
  obtain⟨j,τ',a,b,c,d,f⟩:=hi
  exact Bn.weak (c j a b d) f
 |_=>exact hi
theorem Zse{id:Nat}{c:Code}(h:LW P n C c τ (fun e τ'=>match e with|.exit i=>if i=id then Q .normal τ' else Q (.exit i) τ'|e=>Q e τ')):LW P n C (.block id c) τ Q:=by
 intro γ σ b a
 refine mq (F9 (h γ σ b a) fun e d hi=>?_)
 cases e with
 |exit i=>
  unfold QD
  simp only at hi⊢
  split
  ·rename_i he;exact hi.mono fun τ' h=>by rw[Yi he]at h;exact h
  ·rename_i he;exact hi.mono fun τ' h=>by rw[Yj he]at h;exact h
 |_=>exact hi
theorem u1{c:Operand}{x y:Code}{b:Bool}(h:ev τ.s c=.d (.bool b))(f:b=true→LW P n C x τ Q)(g:b=false→LW P n C y τ Q):LW P n C (.cond c x y) τ Q:=by
 intro γ σ d a
 have he:ev σ.s c=.d (.bool b):=by
  rw[IF (c:=[]) a AU (by cases c<;>rfl),h];simp[ren]
 exact Mr he (fun e=>f e γ σ d a) (fun e=>g e γ σ d a)
theorem Zzg{c:Code}(h:LL P n C c τ Q):LW P n C (.loop c) τ Q:=by
 intro γ σ l i a w j b k cs
 obtain⟨e,d,w',f,g⟩:=h γ σ l i a w j b k cs
 exact⟨e,d,w',f,.of_steps (.one step_loop) g⟩
theorem ZtG{c:Code}(h:LW P n C c τ (fun e τ'=>match e with|.normal=>LL P n C c τ' Q|e=>Q e τ')):LL P n C c τ Q:=by
 intro γ σ A y a w z b k cs
 obtain⟨e,i,l,⟨m,j,f⟩,d⟩:=h γ σ A y a w z b (.inLoop c::k) cs
 cases e with
 |normal=>
  obtain⟨D,τ',p,s,t,u,v⟩:=j
  obtain⟨r,q,B,o,g⟩:=t D p s u i l (v _ _ f) b k cs
  exact⟨r,q,B,o,.of_steps (Steps.trans d (.one step_inLoop)) g⟩
 |exit id=>exact⟨_,i,l,⟨m,j,f⟩,.pass (x:=.inLoop c) rfl (fun _ _=>.inl (by simp)) d⟩
 |goto id=>exact⟨_,i,l,⟨m,j,f⟩,.pass (x:=.inLoop c) rfl (fun _ _=>.inl (by simp)) d⟩
 |ret=>exact⟨_,i,l,⟨m,j,f⟩,.pass (x:=.inLoop c) rfl (fun _ _=>.inl (by simp)) d⟩
 |panic ch=>exact⟨_,i,l,⟨m,j,f⟩,.pass (x:=.inLoop c) rfl (fun _ _=>.inl (by simp)) d⟩
 |outgrown=>exact⟨_,i,l,⟨m,j,f⟩,.pass (x:=.inLoop c) rfl (fun _ _=>.inl (by simp)) d⟩
theorem Is.of{γ:Ab→Nat}{Φ:St→Prop}(b:C.G γ)(a:RG (C.r γ) C.l C.outs [] τ σ)(h:Φ τ):Is n C Φ σ:=⟨γ,τ,σ,b,h,a,Wk.refl σ⟩
theorem BY{a b:Ab}:Bj a b=true↔a=b:=by
 obtain⟨a1,c⟩:=a
 obtain⟨d,e⟩:=b
 simp[Bj]
theorem mr{H:Hp}{s:Nat→AV}:∀(ls:List Nat) (j:Nat),AJ (Ki H s ls) j=ZV H (s j)∨AJ (Ki H s ls) j=.top
 |[],j=>.inr rfl
 |i::r,j=>by
  simp only[Ki,AJ]
  split
  ·rename_i h;rw[Ya h];exact .inl rfl
  ·exact mr r j
def rebase(γ:Ab→Nat)(H:Hp):Ab→Nat:=fun k=>γ k+(H k).g
mutual
theorem oQ{γ:Ab→Nat}{H:Hp}:∀{x y:AV},Dw H x=some y→ren (C.r (rebase γ H)) y=ren (C.r γ) x
 |.ref k g off m,y,h=>by
  simp only[Dw]at h
  split at h
  ·rename_i hl;cases h;obtain⟨b,_⟩:=DD hl;subst b;simp[ren,Cx.r,rebase]
  ·cases h
 |.ptr k g off,y,h=>by
  simp only[Dw]at h
  split at h
  ·rename_i hl;cases h;obtain⟨b,_⟩:=DD hl;subst b;simp[ren,Cx.r,rebase]
  ·cases h
 |.mp k g,y,h=>by
  simp only[Dw]at h
  split at h
  ·rename_i hl;cases h;obtain⟨b,_⟩:=DD hl;subst b;simp[ren,Cx.r,rebase]
  ·cases h
 |.fn f xs ys,y,h=>by
  simp only[Dw]at h
  split at h
  ·rename_i xs' i b e
   cases h
   have c:=Ke (γ:=γ) b
   have d:=Ke (γ:=γ) e
   cases f<;>simp only[ren,c,d]<;>rfl
  ·cases h
 |.agg xs,y,h=>by
  simp only[Dw]at h
  split at h
  ·rename_i xs' b;cases h;simp only[ren,Ke (γ:=γ) b]
  ·cases h
 |.tup xs,y,h=>by
  simp only[Dw]at h
  split at h
  ·rename_i xs' b;cases h;simp only[ren,Ke (γ:=γ) b]
  ·cases h
 |.top,y,h=>by simp only[Dw]at h;cases h;simp[ren]
 |.d x,y,h=>by simp only[Dw]at h;cases h;simp[ren]
 |.e0,y,h=>by simp only[Dw]at h;cases h;simp[ren]
 |.p x,y,h=>by simp only[Dw]at h;cases h;simp[ren]
 |.iptr cs off,y,h=>by simp only[Dw]at h;cases h;simp[ren]
 |.ifc t ds a,y,h=>by simp only[Dw]at h;cases h;simp[ren]
theorem Ke{γ:Ab→Nat}{H:Hp}:∀{xs ys:List AV},GH H xs=some ys→Aj (C.r (rebase γ H)) ys=Aj (C.r γ) xs
 |[],ys,h=>by simp only[GH]at h;cases h;simp[Aj]
 |x::xs,ys,h=>by
  simp only[GH]at h
  split at h
  ·rename_i x' xs' a b;cases h;simp only[Aj,oQ (γ:=γ) a,Ke (γ:=γ) b]
  ·cases h
end
def Np(C:Cx)(γ:Ab→Nat)(H:Hp)(hs:List (Ab×Blk)):Prop:=
 (∀k,(As hs k).g=0)∧∀k,(As hs k).live=true→(H k).live=true∧(As hs k).e=(H k).e∧(As hs k).sz=(H k).sz∧Aj (C.r (rebase γ H)) (As hs k).cells=Aj (C.r γ) (H k).cells
theorem Hl{r:Ren}{cs:List AV}(h:Gj cs):Aj r cs=cs:=IA (Yk.2 h)
theorem Np.cons{γ:Ab→Nat}{H:Hp}{hs:List (Ab×Blk)}(h:Np C γ H hs){k:Ab}{cs:List AV}(hl:(H k).live=true)(b:Aj (C.r (rebase γ H)) cs=Aj (C.r γ) (H k).cells):Np C γ H ((k,⟨0,true,(H k).e,(H k).sz,cs⟩)::hs):=by
 refine⟨fun q=>?_,fun q a=>?_⟩
 ·simp only[As]
  split
  ·rfl
  ·exact h.1 q
 ·simp only[As]at a⊢
  split at a
  ·rename_i he
   have he:=BY.1 he
   grind
  ·exact h.2 q a
theorem Pz{γ:Ab→Nat}{H:Hp}:∀(ks:List (Ab×Bool)) {K:List (Ab×Blk)→Prop},Kk H ks K→∃hs,K hs∧Np C γ H hs
 |[],K,h=>⟨[],h,fun k=>rfl,fun k d=>by simp[As,Eb]at d⟩
 |(k,fl)::r,K,h=>by
  simp only[Kk]at h
  split at h
  ·exact Pz r h
  ·rename_i hl
   split at h
   ·obtain⟨hs,a,b⟩:=Pz (γ:=γ) r h.2
    exact⟨_,a,b.cons hl (by rw[Hl h.1,Hl h.1])⟩
   ·split at h
    ·rename_i cs c
     obtain⟨hs,a,b⟩:=Pz (γ:=γ) r h
     exact⟨_,a,b.cons hl (Ke c)⟩
    grind
theorem iw{H:Hp}:∀{fx:List Nat},gz H fx=true→∀i∈fx,(H (0,i)).g=0
 |i::r,h,j,a=>by
  simp only[gz,Yb]at h
  rcases YK.1 a with rfl|a
  ·exact Ya h.1
  ·exact iw h.2 j a
theorem WL{x:AV}(h:OC x=true):x=.e0:=by cases x<;>first|rfl|cases h
theorem VW(c:CxOk C){Φ:St→Prop}{γ:Ab→Nat}:∀(ad:List (Nat×Nat×TypeId×Nat)) (τ σ:St),MI ad τ Φ→RG (C.r γ) C.l C.outs [] τ σ→∃τ' f,Φ τ'∧RG (C.r γ) C.l C.outs [] τ' f∧Wk n C σ f
 |[],τ,σ,h,b=>⟨τ,σ,h,b,Wk.refl σ⟩
 |(j,d,e,sz)::r,τ,σ,h,b=>by
  simp only[MI]at h
  split at h
  ·rename_i he hl
   have k:σ.s j=.e0:=by rw[(b.s j).1 AU,WL he];simp[ren]
   have o:=b.put (e:=j) (ch:=[]) rfl rfl (v:=.ref (1,d) ((τ.H (1,d)).g+1) 0 0) (y:=.ref (C.l+1,d) ((σ.H (C.l+1,d)).g+1) 0 0) (fun _=>by rw[b.g];simp only[ren];rw[show(C.r γ).κ (1,d)=(C.l+1,d)from c.own d,YB]) (fun g=>absurd AU g)
   have a:=RG.updH (c.ren γ) o (1,d) ⟨(τ.H (1,d)).g+1,true,e,sz,[]⟩ rfl (.inl rfl)
   have m:AA (C.r γ) (1,d) ⟨(τ.H (1,d)).g+1,true,e,sz,[]⟩=⟨(σ.H (C.l+1,d)).g+1,true,e,sz,[]⟩:=by
    simp only[AA,b.g,Aj,YB]
   rw[m,show(C.r γ).κ (1,d)=(C.l+1,d)from c.own d]at a
   have p:RG (C.r γ) C.l C.outs [] ⟨upd τ.s j (.ref (1,d) ((τ.H (1,d)).g+1) 0 0),updH τ.H (1,d) ⟨(τ.H (1,d)).g+1,true,e,sz,[]⟩⟩ ⟨upd σ.s j (.ref (C.l+1,d) ((σ.H (C.l+1,d)).g+1) 0 0),updH σ.H (C.l+1,d) ⟨(σ.H (C.l+1,d)).g+1,true,e,sz,[]⟩⟩:=
    ⟨fun i=>⟨fun _=>(a.s i).1 (by rw[WT];split<;>exact AU),fun g=>absurd AU g⟩,a.h,a.g,a.go,a.k,a.o⟩
   obtain⟨τ',f,t,u,x⟩:=VW c r _ _ h p
   refine⟨τ',f,t,u,Wk.trans (fun l w q=>?_) x⟩
   obtain⟨s,H⟩:=σ
   exact R.adopt (e:=e) (sz:=sz) q (C.l+1,d) rfl _ (Em _) k
  ·grind
  ·exact VW c r τ σ h b
theorem Wz{γ:Ab→Nat}:∀(ze:List Nat) (τ σ:St),RG (C.r γ) C.l C.outs [] τ σ→∃f,RG (C.r γ) C.l C.outs [] (K4 ze τ) f∧Wk n C σ f
 |[],τ,σ,b=>⟨σ,b,Wk.refl σ⟩
 |j::r,τ,σ,b=>by
  simp only[K4]
  split
  ·rename_i he
   have d:σ.s j=.e0:=by rw[(b.s j).1 AU,WL he];simp[ren]
   have a:=b.put (e:=j) (ch:=[]) rfl rfl (v:=.d (.list [])) (y:=.d (.list [])) (fun _=>by simp[ren]) (fun c=>absurd AU c)
   have o:RG (C.r γ) C.l C.outs [] ⟨upd τ.s j (.d (.list [])),τ.H⟩ ⟨upd σ.s j (.d (.list [])),σ.H⟩:=
    ⟨fun i=>⟨fun _=>(a.s i).1 (by rw[WT];split<;>exact AU),fun c=>absurd AU c⟩,a.h,a.g,a.go,a.k,a.o⟩
   obtain⟨f,t,u⟩:=Wz r _ _ o
   refine⟨f,t,Wk.trans (fun l w q=>?_) u⟩
   obtain⟨s,H⟩:=σ
   obtain⟨m,S,p,c,g,k,h⟩:=q.un
   refine⟨m,S,p,c,g,fun i=>?_,h⟩
   show RepA w S H m (C.l+1) (upd s j (.d (.list [])) i) _
   unfold upd
   by_cases hi:i=j
   ·subst hi
    rw[Yi rfl]
    have:=k i
    simp only at d
    rw[d]at this
    exact this.e0_d
   ·rw[Yj hi];exact k i
  ·exact Wz r τ σ b
theorem F7(t:CxOk C){Φ:St→Prop}{γ:Ab→Nat}{f:Lf}(h:Do C.fx f τ Φ)(F:C.G γ)(D:RG (C.r γ) C.l C.outs [] τ σ):Is n C Φ σ:=by
 obtain⟨K,o,r⟩:=Wz (n:=n) f.ze τ σ D
 obtain⟨a,g,l,b,m⟩:=VW (n:=n) t f.ad (K4 f.ze τ) K h o
 replace m:=Wk.trans r m
 split at l
 case h_2=>exact l.elim
 rename_i p
 obtain⟨hs,J,c⟩:=Pz (C:=C) (γ:=γ) f.ks l
 refine⟨rebase γ a.H,_,⟨fun j=>ren (C.r (rebase γ a.H)) (AJ (Ki a.H a.s f.ls) j),g.H⟩,t.G γ _ (fun i hi=>by unfold rebase;rw[iw p i hi];rfl) F,J,⟨fun j=>⟨fun _=>rfl,fun G=>absurd AU G⟩,fun k q=>?_,fun d=>?_,fun i hi=>?_,fun k q=>?_,b.o⟩,m.trans fun u w E=>?_⟩
 ·obtain⟨x,z,A,B⟩:=c.2 k q
  have y:=c.1 k
  show g.H (C.κ k)=_
  have:=b.h k x
  rw[show(C.r γ).κ k=C.κ k from rfl]at this
  rw[this]
  simp only[AA]
  show _=Blk.mk (rebase γ a.H k+(As hs k).g) true (As hs k).e (As hs k).sz (Aj (C.r (rebase γ a.H)) (As hs k).cells)
  rw[y,z,A,B]
  rfl
 ·show(g.H (C.l+1,d)).g=rebase γ a.H (1,d)+(As hs (1,d)).g
  have e0:(As hs (1,d)).g=0:=c.1 _
  rw[e0,b.g]
  rfl
 ·show(g.H (C.κ (0,i))).g=rebase γ a.H (0,i)+(As hs (0,i)).g
  have e0:(As hs (0,i)).g=0:=c.1 _
  rw[e0]
  exact b.go i hi
 ·exact b.k k (c.2 k q).1
 ·obtain⟨s,H⟩:=g
  refine R.weaken E fun j=>?_
  rcases mr (H:=a.H) (s:=a.s) f.ls j with e|e
  ·simp only[e]
   unfold ZV
   split
   ·rename_i v I
    left
    rw[oQ (γ:=γ) I]
    exact((b.s j).1 AU).symm
   ·right;simp[ren]
  ·right;simp only[e];simp[ren]
end
end Go.Eng
