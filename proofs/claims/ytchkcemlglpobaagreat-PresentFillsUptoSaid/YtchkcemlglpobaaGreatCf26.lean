import Derived.Test.YtchkcemlglpobaaGreatCf25
import Derived.Test.YtchkcemlglpobaaGreatCf24
import Derived.Test.YtchkcemlglpobaaGreatCf00
namespace Go.Proofs.YtchkcemlglpobaaGreat
set_option linter.all false
open Go Go.Eng
def FH(l:List Fld)(n:Nat):Prop:=∀(i:Nat) (a b:Fld),i+1<n→l[i]?=some a→l[i+1]?=some b→a.num<b.num
theorem Zwm{l:List Fld}{v:Nat}{a b:Fld}(h:FH l v)(j:l[v]?=some a)(k:0<v→l[v-1]?=some b∧b.num<a.num):FH l (v+1):=by
 intro i x y hi c hy
 by_cases e:i+1<v
 ·exact h i x y e c hy
 ·have f:i+1=v:=by omega
  have g:v-1=i:=by omega
  rw[f]at hy
  obtain⟨d,m⟩:=k (by omega)
  rw[g]at d
  rw[j]at hy
  rw[d]at c
  cases c
  cases hy
  exact m
structure GdM (m:Msg):Prop where
 asc:FH m.fields m.fields.length
 df:∀(j:Nat) (f:Fld),m.fields[j]?=some f→HH f
theorem Xr(d:ByteArray)(b:Bool)(n e:Int):Ok (fun y=>y.length≤1) (Bn d [] b n e):=(Dw d [] b n e (by simp)).mono fun y h=>by simpa using h.2.1
theorem o66(s:Scm)(m:Msg)(l:List Bool)(h:SzS s)(hm:SzM m)(hl:l.length=s.messages.length):Ok (fun y=>y.length≤67108864∧(y.length=0→GdM m)) (ZJ s m l):=by
 have H:=hm.fl
 have p:=hm.r
 have A:=hm.gl
 have F:∀(v:Nat) (r:List Prb) (e:Fld),v≤m.fields.length→Ok (Sum.elim Tr No) (Am (SS s m l v r e) Aj (false,0)):=by
  intro w r e J
  refine Ok.loop (fun v:Bool×Nat=>v.2≤w) (fun v:Bool×Nat=>w-v.2) (by simp) (AX (by omega)) fun v k=>?_
  obtain⟨b,i⟩:=v
  dsimp only at k
  dsimp only[SS,Ww,br,ix,vz,vw,vs,ln,Al,wa,fl,br]
  (repeat' (first|with_reducible refine Ok.br (fun _=>?_) (fun _=>?_)|with_reducible refine Ok.pure ?_|with_reducible refine Ok.idx ?_ (fun _ _ _=>?_)|with_reducible refine Ok.if ?_ ?_))<;>(first|trivial|assumption|contradiction|omega|grind|(simp only[Bd.c,Bd.vl,ByteArray.size_append,ByteArray.size_extract,AF]at*;grind))
 have E:∀a:List Prb,a.length≤9→Ok (Sum.elim (fun y:List Prb=>y.length≤10485769∧(y.length=0→GdM m)) No) (Am (SJ s m l) Aj (0,a)):=by
  intro a d
  refine Ok.loop (fun v:Nat×List Prb=>v.1≤m.fields.length∧v.2.length≤9+10*v.1∧(v.2.length=0→FH m.fields v.1∧∀(j:Nat) (f:Fld),j<v.1→m.fields[j]?=some f→HH f)) (fun v:Nat×List Prb=>m.fields.length-v.1) ⟨by simp,by simpa using d,fun _=>⟨fun i x y hi=>by simp at hi,fun j f n=>by simp at n⟩⟩ (AX (by omega)) fun v k=>?_
  obtain⟨v,r⟩:=v
  obtain⟨q,t,c⟩:=k
  dsimp only at q t c
  dsimp only[SJ,g9,gh,iH,fP,dG,iQ,fC,eo,i5,dM,gL,cT,dD,i3,fO,iM,VH,Uk,Wm,VB,Vf,WP,WV,Uq,br,ix,A2,vz,vw,vs,vg,ln,Al,lc,cl,clg,wa,wi,fl,Ah,br]
  (repeat' (first|with_reducible refine Ok.br (fun _=>?_) (fun _=>?_)|with_reducible refine Ok.pure ?_|with_reducible refine Ok.idx ?_ (fun _ _ _=>?_)|(with_reducible apply Ok.lb;(exact F _ _ _ (by omega));all_goals(intro _ _;try dsimp only))|(with_reducible apply Ok.bind;(exact Dw _ _ _ _ _ (by omega));intro _ _)|(with_reducible apply Ok.bind;(exact IN _ (hm.f _ (by assumption)).n);intro _ _)|(with_reducible apply Ok.bind;(exact jv _ _ p);intro _ _)|(with_reducible apply Ok.bind;(exact zw _ _ A);intro _ _)|(with_reducible apply Ok.bind;(exact zx _);intro _ _)|(with_reducible apply Ok.bind;(exact zy _ _ h);intro _ _)|(with_reducible apply Ok.bind;(exact zz _ _ hm (by(first|trivial|assumption|contradiction|omega|solve_by_elim|(simp only[Bool.and_eq_true,Bool.or_eq_true,Bool.not_eq_true',Bool.and_eq_false_iff,Bool.or_eq_false_iff,decide_eq_true_eq,decide_eq_false_iff_not]at*;omega)|grind)));intro _ _)|(with_reducible apply Ok.bind;(exact zA _ _ h (hm.f _ (by assumption)));intro _ _)|(with_reducible apply Ok.bind;(exact HG _ _ _ _ _ (by omega) (hm.f _ (by assumption)).o);intro _ _)|(with_reducible apply Ok.clg;(exact fun _=>Dw _ _ _ _ _ (by omega));intro _)|(with_reducible apply Ok.clg;(exact fun _=>IN _ (hm.f _ (by assumption)).n);intro _)|(with_reducible apply Ok.clg;(exact fun _=>jv _ _ p);intro _)|(with_reducible apply Ok.clg;(exact fun _=>zw _ _ A);intro _)|(with_reducible apply Ok.clg;(exact fun _=>zx _);intro _)|(with_reducible apply Ok.clg;(exact fun _=>zy _ _ h);intro _)|(with_reducible apply Ok.clg;(exact fun _=>zz _ _ hm (by(first|trivial|assumption|contradiction|omega|solve_by_elim|(simp only[Bool.and_eq_true,Bool.or_eq_true,Bool.not_eq_true',Bool.and_eq_false_iff,Bool.or_eq_false_iff,decide_eq_true_eq,decide_eq_false_iff_not]at*;omega)|grind)));intro _)|(with_reducible apply Ok.clg;(exact fun _=>zA _ _ h (hm.f _ (by assumption)));intro _)|(with_reducible apply Ok.clg;(exact fun _=>HG _ _ _ _ _ (by omega) (hm.f _ (by assumption)).o);intro _)|with_reducible refine Ok.idxg ?_ (fun _=>?_)|with_reducible refine Ok.if ?_ ?_))
  all_goals try (first|trivial|assumption|contradiction|omega|solve_by_elim|(simp only[Bool.and_eq_true,Bool.or_eq_true,Bool.not_eq_true',Bool.and_eq_false_iff,Bool.or_eq_false_iff,decide_eq_true_eq,decide_eq_false_iff_not]at*;omega)|grind)
  have D:=‹decide (0<(v:Int))=true→m.fields[((v:Int)-1).toNat]?=some (m.fields.getD ((v:Int)-1).toNat Rw.z)∧_›
  have he:=‹m.fields[v]?=some _›
  dsimp only
  refine⟨⟨by(first|trivial|assumption|contradiction|omega|solve_by_elim|(simp only[Bool.and_eq_true,Bool.or_eq_true,Bool.not_eq_true',Bool.and_eq_false_iff,Bool.or_eq_false_iff,decide_eq_true_eq,decide_eq_false_iff_not]at*;omega)|grind),by omega,fun o=>⟨Zwm (b:=m.fields.getD ((v:Int)-1).toNat Rw.z) (c (by omega)).1 he fun k=>?_,fun j f n g=>?_⟩⟩,by(first|trivial|assumption|contradiction|omega|solve_by_elim|(simp only[Bool.and_eq_true,Bool.or_eq_true,Bool.not_eq_true',Bool.and_eq_false_iff,Bool.or_eq_false_iff,decide_eq_true_eq,decide_eq_false_iff_not]at*;omega)|grind)⟩
  have ev:((v:Int)-1).toNat=v-1:=by omega
  refine⟨ev▸(D (decide_eq_true (by omega))).1,?_⟩
  rcases Int.lt_or_le (m.fields.getD ((v:Int)-1).toNat Rw.z).num (Fld.num _)with z|u
  ·exact z
  ·exfalso
   have I:=Bool.and_eq_true _ _▸And.intro (decide_eq_true (show(0:Int)<v by omega)) (decide_eq_true u)
   grind
  ·rcases Nat.lt_or_eq_of_le (Nat.le_of_lt_succ n)with n|rfl
   ·exact(c (by omega)).2 j f n g
   ·rw[he]at g
    cases g
    refine(show _=true→HH _ by assumption) (kI fun B=>?_)
    rw[Bool.not_eq_true]at B
    subst B
    simp only[N7,true_implies]at*
    omega
  have C:v=m.fields.length:=by(first|trivial|assumption|contradiction|omega|solve_by_elim|(simp only[Bool.and_eq_true,Bool.or_eq_true,Bool.not_eq_true',Bool.and_eq_false_iff,Bool.or_eq_false_iff,decide_eq_true_eq,decide_eq_false_iff_not]at*;omega)|grind)
  subst C
  exact⟨by(first|trivial|assumption|contradiction|omega|solve_by_elim|(simp only[Bool.and_eq_true,Bool.or_eq_true,Bool.not_eq_true',Bool.and_eq_false_iff,Bool.or_eq_false_iff,decide_eq_true_eq,decide_eq_false_iff_not]at*;omega)|grind),fun o=>⟨(c o).1,fun j f g=>(c o).2 j f (Yc.1 g).1 g⟩⟩
 have G:∀a:List Prb,a.length≤20000000→Ok (Sum.elim (fun y:List Prb=>a.length≤y.length∧y.length≤22000000) No) (Am (SG s m l) Aj (0,a)):=by
  intro a d
  refine Ok.loop (fun v:Nat×List Prb=>v.1≤m.gone.length∧v.2.length≤20000000+v.1∧a.length≤v.2.length) (fun v:Nat×List Prb=>m.gone.length-v.1) ⟨by simp,by simpa using d,by simp⟩ (AX (by omega)) fun v k=>?_
  obtain⟨v,r⟩:=v
  obtain⟨q,t,c⟩:=k
  dsimp only at q t c
  dsimp only[SG,eb,gH,iD,gm,br,ix,vz,vw,vs,ln,Al,lc,cl,wa,fl,Ah,br]
  (repeat' (first|with_reducible refine Ok.br (fun _=>?_) (fun _=>?_)|with_reducible refine Ok.pure ?_|with_reducible refine Ok.idx ?_ (fun _ _ _=>?_)|(with_reducible apply Ok.bind;(exact Dw _ _ _ _ _ (by omega));intro _ _)|(with_reducible apply Ok.bind;(exact jw _ (hm.g _ (by assumption)));intro _ _)|with_reducible refine Ok.if ?_ ?_))<;>(first|trivial|assumption|contradiction|omega|grind|(simp only[Bd.c,Bd.vl,ByteArray.size_append,ByteArray.size_extract,AF]at*;grind))
 dsimp only[ZJ,gQ,gf,cS,gZ,hU,eK,di,gx,ee,eM,iZ,gE,eY,eg,vz,vy,vw,lr,lc,cl,fl,fr,Ah]
 (repeat' (first|with_reducible refine Ok.br (fun _=>?_) (fun _=>?_)|with_reducible refine Ok.pure ?_|(with_reducible apply Ok.lb;(exact E _ (by(first|trivial|assumption|contradiction|omega|solve_by_elim|(simp only[Bool.and_eq_true,Bool.or_eq_true,Bool.not_eq_true',Bool.and_eq_false_iff,Bool.or_eq_false_iff,decide_eq_true_eq,decide_eq_false_iff_not]at*;omega)|grind)));all_goals(intro _ _;try dsimp only))|(with_reducible apply Ok.lb;(exact G _ (by omega));all_goals(intro _ _;try dsimp only))|(with_reducible apply Ok.bind;(exact ju _ hm.n);intro _ _)|(with_reducible apply Ok.bind;(exact Xr _ _ _ _);intro _ _)|(with_reducible apply Ok.bind;(exact Dw _ _ _ _ _ (by omega));intro _ _)|(with_reducible apply Ok.bind;(exact HG _ _ _ _ _ (by omega) hm.o);intro _ _)|(with_reducible apply Ok.bind;(exact zC _ _ _ _ _ (by omega) p);intro _ _)|(with_reducible apply Ok.bind;(exact o87 _ _ _ h hm hl);intro _ _)|with_reducible refine Ok.if ?_ ?_))<;>(first|trivial|assumption|contradiction|omega|grind|(simp only[Bd.c,Bd.vl,ByteArray.size_append,ByteArray.size_extract,AF]at*;grind))
theorem o67(e:Enm)(hm:SzE e):Ok (fun y=>y.length≤67108864) (Zh e):=by
 have l:=hm.il
 have f:=hm.r
 have k:∀(v:Nat) (r:List Prb) (x:Itm),v≤e.items.length→Ok (Sum.elim Tr No) (Am (SB e v r x) Aj (false,0)):=by
  intro w r x m
  refine Ok.loop (fun v:Bool×Nat=>v.2≤w) (fun v:Bool×Nat=>w-v.2) (by simp) (AX (by omega)) fun v c=>?_
  obtain⟨b,i⟩:=v
  dsimp only at c
  dsimp only[SB,Ua,br,ix,vz,vw,vs,ln,Al,wa,fl,br]
  (repeat' (first|with_reducible refine Ok.br (fun _=>?_) (fun _=>?_)|with_reducible refine Ok.pure ?_|with_reducible refine Ok.idx ?_ (fun _ _ _=>?_)|with_reducible refine Ok.if ?_ ?_))<;>(first|trivial|assumption|contradiction|omega|grind|(simp only[Bd.c,Bd.vl,ByteArray.size_append,ByteArray.size_extract,AF]at*;grind))
 have j:∀d:List Prb,d.length≤9→Ok (Sum.elim (fun y:List Prb=>y.length≤10485769) No) (Am (RD e) Aj (0,d)):=by
  intro d a
  refine Ok.loop (fun v:Nat×List Prb=>v.1≤e.items.length∧v.2.length≤9+10*v.1) (fun v:Nat×List Prb=>e.items.length-v.1) ⟨by simp,by simpa using a⟩ (AX (by omega)) fun v c=>?_
  obtain⟨v,r⟩:=v
  obtain⟨g,h⟩:=c
  dsimp only at g h
  dsimp only[RD,cU,cV,iz,g7,fp,ep,g8,dX,Uh,VW,Vo,V6,U4,UN,Wx,VS,br,ix,A2,vz,vw,vs,vg,ln,Al,lc,cl,wa,wi,fl,Ah,br]
  (repeat' (first|with_reducible refine Ok.br (fun _=>?_) (fun _=>?_)|with_reducible refine Ok.pure ?_|with_reducible refine Ok.idx ?_ (fun _ _ _=>?_)|(with_reducible apply Ok.lb;(exact k _ _ _ (by omega));all_goals(intro _ _;try dsimp only))|(with_reducible apply Ok.bind;(exact Dw _ _ _ _ _ (by omega));intro _ _)|(with_reducible apply Ok.bind;(exact IN _ (hm.i _ (by assumption)).n);intro _ _)|(with_reducible apply Ok.bind;(exact jv _ _ f);intro _ _)|(with_reducible apply Ok.bind;(exact HG _ _ _ _ _ (by omega) (hm.i _ (by assumption)).o);intro _ _)|with_reducible refine Ok.idxg ?_ (fun _=>?_)|with_reducible refine Ok.if ?_ ?_))<;>(first|trivial|assumption|contradiction|omega|grind|(simp only[Bd.c,Bd.vl,ByteArray.size_append,ByteArray.size_extract,AF]at*;grind))
 dsimp only[Zh,fy,dj,fY,dV,dv,dW,fv,eh,dp,iR,gu,dC,iP,A2,vz,vy,vw,lr,lc,cl,fl,fr,Ah]
 (repeat' (first|with_reducible refine Ok.br (fun _=>?_) (fun _=>?_)|with_reducible refine Ok.pure ?_|(with_reducible apply Ok.lb;(exact j _ (by(first|trivial|assumption|contradiction|omega|solve_by_elim|(simp only[Bool.and_eq_true,Bool.or_eq_true,Bool.not_eq_true',Bool.and_eq_false_iff,Bool.or_eq_false_iff,decide_eq_true_eq,decide_eq_false_iff_not]at*;omega)|grind)));all_goals(intro _ _;try dsimp only))|(with_reducible apply Ok.bind;(exact ju _ hm.n);intro _ _)|(with_reducible apply Ok.bind;(exact Xr _ _ _ _);intro _ _)|(with_reducible apply Ok.bind;(exact Dw _ _ _ _ _ (by omega));intro _ _)|(with_reducible apply Ok.bind;(exact HG _ _ _ _ _ (by omega) hm.o);intro _ _)|(with_reducible apply Ok.bind;(exact zC _ _ _ _ _ (by omega) f);intro _ _)|with_reducible refine Ok.idxg ?_ (fun _=>?_)|with_reducible refine Ok.if ?_ ?_))<;>(first|trivial|assumption|contradiction|omega|grind|(simp only[Bd.c,Bd.vl,ByteArray.size_append,ByteArray.size_extract,AF]at*;grind))
theorem o68(s:Scm)(e:Svc)(h:SzS s)(hm:SzW e):Ok (fun y=>y.length≤67108864) (ZL s e):=by
 have i:=hm.ml
 have g:∀b:List Prb,b.length≤9→Ok (Sum.elim (fun y:List Prb=>y.length≤10485769) No) (Am (RB s e) Aj (0,b)):=by
  intro b a
  refine Ok.loop (fun v:Nat×List Prb=>v.1≤e.methods.length∧v.2.length≤9+10*v.1) (fun v:Nat×List Prb=>e.methods.length-v.1) ⟨by simp,by simpa using a⟩ (AX (by omega)) fun v f=>?_
  obtain⟨v,r⟩:=v
  obtain⟨c,d⟩:=f
  dsimp only at c d
  dsimp only[RB,gX,dJ,db,eR,W8,Uc,U3,UP,Wf,Va,V4,VY,UF,br,ix,A2,vz,vw,vs,vg,ln,Al,lc,cl,clg,wa,wi,fl,Ah,br]
  (repeat' (first|with_reducible refine Ok.br (fun _=>?_) (fun _=>?_)|with_reducible refine Ok.pure ?_|with_reducible refine Ok.idx ?_ (fun _ _ _=>?_)|(with_reducible apply Ok.bind;(exact Dw _ _ _ _ _ (by omega));intro _ _)|(with_reducible apply Ok.bind;(exact Nr _ _ h);intro _ _)|(with_reducible apply Ok.bind;(exact IN _ (hm.m _ (by assumption)).n);intro _ _)|(with_reducible apply Ok.bind;(exact HG _ _ _ _ _ (by omega) (hm.m _ (by assumption)).o);intro _ _)|(with_reducible apply Ok.clg;(exact fun _=>Dw _ _ _ _ _ (by omega));intro _)|(with_reducible apply Ok.clg;(exact fun _=>Nr _ _ h);intro _)|(with_reducible apply Ok.clg;(exact fun _=>IN _ (hm.m _ (by assumption)).n);intro _)|(with_reducible apply Ok.clg;(exact fun _=>HG _ _ _ _ _ (by omega) (hm.m _ (by assumption)).o);intro _)|with_reducible refine Ok.idxg ?_ (fun _=>?_)|with_reducible refine Ok.if ?_ ?_))<;>(first|trivial|assumption|contradiction|omega|grind|(simp only[Bd.c,Bd.vl,ByteArray.size_append,ByteArray.size_extract,AF]at*;grind))
 dsimp only[ZL,ja,gI,iO,dU,eJ,hI,gG,cY,gC,vz,vw,lr,lc,cl,fl,fr,Ah]
 (repeat' (first|with_reducible refine Ok.br (fun _=>?_) (fun _=>?_)|with_reducible refine Ok.pure ?_|(with_reducible apply Ok.lb;(exact g _ (by(first|trivial|assumption|contradiction|omega|solve_by_elim|(simp only[Bool.and_eq_true,Bool.or_eq_true,Bool.not_eq_true',Bool.and_eq_false_iff,Bool.or_eq_false_iff,decide_eq_true_eq,decide_eq_false_iff_not]at*;omega)|grind)));all_goals(intro _ _;try dsimp only))|(with_reducible apply Ok.bind;(exact ju _ hm.n);intro _ _)|(with_reducible apply Ok.bind;(exact Xr _ _ _ _);intro _ _)|(with_reducible apply Ok.bind;(exact Dw _ _ _ _ _ (by omega));intro _ _)|(with_reducible apply Ok.bind;(exact HG _ _ _ _ _ (by omega) hm.o);intro _ _)|with_reducible refine Ok.if ?_ ?_))<;>(first|trivial|assumption|contradiction|omega|grind|(simp only[Bd.c,Bd.vl,ByteArray.size_append,ByteArray.size_extract,AF]at*;grind))
structure Few (s:Scm):Prop where
 m:s.messages.length≤150
 e:s.enums.length≤150
 w:s.services.length≤150
theorem o37(s:Scm)(h:SzS s)(k:Few s):Ok (fun y=>y.length=0→∀(i:Nat) (m:Msg),s.messages[i]?=some m→GdM m) (Z9 s):=by
 have p:=k.m
 have q:=k.e
 have t:=k.w
 have g:Ok (Sum.elim (fun y:List Prb=>y.length≤9) No) (Am (SZ s) Aj (1,[])):=by
  refine Ok.loop (fun v:Nat×List Prb=>1≤v.1∧v.1≤4∧v.2.length≤2*v.1) (fun v:Nat×List Prb=>4-v.1) ⟨by simp,by simp,by simp⟩ (AX (by omega)) fun v f=>?_
  obtain⟨v,r⟩:=v
  obtain⟨c,d,e⟩:=f
  dsimp only at c d e
  dsimp only[SZ,UK,Ug,Un,U0,We,Ue,WD,br,vz,vw,vs,ln,Al,lc,cl,wa,fl,Ah,br]
  (repeat' (first|with_reducible refine Ok.br (fun _=>?_) (fun _=>?_)|with_reducible refine Ok.pure ?_|(with_reducible apply Ok.bind;(exact jt _ _ h);intro _ _)|(with_reducible apply Ok.bind;(exact Dw _ _ _ _ _ (by omega));intro _ _)|(with_reducible apply Ok.bind;(exact o63 _ (by assumption));intro _ _)|with_reducible refine Ok.if ?_ ?_))<;>(first|trivial|assumption|contradiction|omega|grind|(simp only[Bd.c,Bd.vl,ByteArray.size_append,ByteArray.size_extract,AF]at*;grind))
 have j:∀(a:List Prb) (l:List Bool),a.length≤10→l.length=s.messages.length→Ok (Sum.elim (fun y:List Prb=>y.length≤10066329610∧(y.length=0→∀(i:Nat) (m:Msg),s.messages[i]?=some m→GdM m)) No) (Am (SQ s l) Aj (0,a)):=by
  intro a l b hl
  refine Ok.loop (fun v:Nat×List Prb=>v.1≤s.messages.length∧v.2.length≤10+67108864*v.1∧(v.2.length=0→∀(i:Nat) (m:Msg),i<v.1→s.messages[i]?=some m→GdM m)) (fun v:Nat×List Prb=>s.messages.length-v.1) ⟨by simp,by simpa using b,fun _ i m hi=>by simp at hi⟩ (AX (by omega)) fun v f=>?_
  obtain⟨v,r⟩:=v
  obtain⟨c,d,e⟩:=f
  dsimp only at c d e
  dsimp only[SQ,iI,Vr,Nb,br,ix,vz,vw,vs,ln,Al,lc,aq,cl,wa,tw,fl,Ah,br]
  (repeat' (first|with_reducible refine Ok.br (fun _=>?_) (fun _=>?_)|with_reducible refine Ok.pure ?_|with_reducible refine Ok.idx ?_ (fun _ _ _=>?_)|(with_reducible apply Ok.bind;(exact o66 _ _ _ h (h.m _ (by assumption)) hl);intro _ _)|with_reducible refine Ok.if ?_ ?_))<;>(first|trivial|assumption|contradiction|omega|grind|(simp only[Bd.c,Bd.vl,ByteArray.size_append,ByteArray.size_extract,AF]at*;grind))
 have n:∀a:List Prb,a.length≤10066329610→Ok (Sum.elim (fun y:List Prb=>a.length≤y.length∧y.length≤20132659210) No) (Am (Se s) Aj (0,a)):=by
  intro a b
  refine Ok.loop (fun v:Nat×List Prb=>v.1≤s.enums.length∧v.2.length≤10066329610+67108864*v.1∧a.length≤v.2.length) (fun v:Nat×List Prb=>s.enums.length-v.1) ⟨by simp,by simpa using b,by simp⟩ (AX (by omega)) fun v f=>?_
  obtain⟨v,r⟩:=v
  obtain⟨c,d,e⟩:=f
  dsimp only at c d e
  dsimp only[Se,iT,fU,MH,br,ix,vz,vw,vs,ln,Al,lc,aq,cl,wa,tw,fl,Ah,br]
  (repeat' (first|with_reducible refine Ok.br (fun _=>?_) (fun _=>?_)|with_reducible refine Ok.pure ?_|with_reducible refine Ok.idx ?_ (fun _ _ _=>?_)|(with_reducible apply Ok.bind;(exact o67 _ (h.e _ (by assumption)));intro _ _)|with_reducible refine Ok.if ?_ ?_))<;>(first|trivial|assumption|contradiction|omega|grind|(simp only[Bd.c,Bd.vl,ByteArray.size_append,ByteArray.size_extract,AF]at*;grind))
 have o:∀a:List Prb,a.length≤20132659210→Ok (Sum.elim (fun y:List Prb=>a.length≤y.length) No) (Am (SE s) Aj (0,a)):=by
  intro a b
  refine Ok.loop (fun v:Nat×List Prb=>v.1≤s.services.length∧v.2.length≤20132659210+67108864*v.1∧a.length≤v.2.length) (fun v:Nat×List Prb=>s.services.length-v.1) ⟨by simp,by simpa using b,by simp⟩ (AX (by omega)) fun v f=>?_
  obtain⟨v,r⟩:=v
  obtain⟨c,d,e⟩:=f
  dsimp only at c d e
  dsimp only[SE,is,fj,MF,br,ix,vz,vw,vs,ln,Al,lc,aq,cl,wa,tw,fl,Ah,br]
  (repeat' (first|with_reducible refine Ok.br (fun _=>?_) (fun _=>?_)|with_reducible refine Ok.pure ?_|with_reducible refine Ok.idx ?_ (fun _ _ _=>?_)|(with_reducible apply Ok.bind;(exact o68 _ _ h (h.w _ (by assumption)));intro _ _)|with_reducible refine Ok.if ?_ ?_))<;>(first|trivial|assumption|contradiction|omega|grind|(simp only[Bd.c,Bd.vl,ByteArray.size_append,ByteArray.size_extract,AF]at*;grind))
 dsimp only[Z9,fH,fd,eP,eD,em,gt,hZ,fN,fe,hX,dQ,cZ,vz,vw,lr,lc,cl,clg,fl,fr]
 (repeat' (first|with_reducible refine Ok.br (fun _=>?_) (fun _=>?_)|with_reducible refine Ok.pure ?_|(with_reducible apply Ok.lb;(exact g);all_goals(intro _ _;try dsimp only))|(with_reducible apply Ok.lb;(exact j _ _ (by omega) (by assumption));all_goals(intro _ _;try dsimp only))|(with_reducible apply Ok.lb;(exact n _ (by omega));all_goals(intro _ _;try dsimp only))|(with_reducible apply Ok.lb;(exact o _ (by omega));all_goals(intro _ _;try dsimp only))|(with_reducible apply Ok.bind;(exact jt _ _ h);intro _ _)|(with_reducible apply Ok.bind;(exact zt _ _ (by assumption) (by assumption));intro _ _)|(with_reducible apply Ok.bind;(exact zu _ h);intro _ _)|(with_reducible apply Ok.bind;(exact Dw _ _ _ _ _ (by omega));intro _ _)|(with_reducible apply Ok.clg;(exact fun _=>jt _ _ h);intro _)|(with_reducible apply Ok.clg;(exact fun _=>zt _ _ (by assumption) (by assumption));intro _)|(with_reducible apply Ok.clg;(exact fun _=>zu _ h);intro _)|(with_reducible apply Ok.clg;(exact fun _=>Dw _ _ _ _ _ (by omega));intro _)|with_reducible refine Ok.if ?_ ?_))<;>(first|trivial|assumption|contradiction|omega|grind|(simp only[Bd.c,Bd.vl,ByteArray.size_append,ByteArray.size_extract,AF]at*;grind))
theorem o16(s:Scm)(h:SzS s)(k:Few s):Ok (fun b=>b=true→∀(i:Nat) (m:Msg),s.messages[i]?=some m→GdM m) (PC s):=by
 dsimp only[PC,UB,vz,vw,lr,cl,Ah]
 (repeat' (first|with_reducible refine Ok.br (fun _=>?_) (fun _=>?_)|with_reducible refine Ok.pure ?_|(with_reducible apply Ok.bind;(exact o37 _ h k);intro _ _)|with_reducible refine Ok.if ?_ ?_))<;>(first|trivial|assumption|contradiction|omega|grind|(simp only[Bd.c,Bd.vl,ByteArray.size_append,ByteArray.size_extract,AF]at*;grind))
end Go.Proofs.YtchkcemlglpobaaGreat
namespace Go.Proofs.YtchkcemlglpobaaGreat
set_option linter.all false
open Go Go.Eng
theorem IM(l:List ByteArray)(n:Int)(h:l.length≤1048576)(b:0≤n)(a:n≤400):Ok (fun y:Int=>0≤y∧y≤1048986∧(l.length≤10→(l.length:Int)≤y)) (ZG l n):=by
 have q:Ok (Sum.elim Tr fun y:Int=>10≤y∧y≤410) (Am (Sv l n) Aj 0):=by
  refine Ok.loop (fun v:Nat=>v≤l.length) (fun v:Nat=>l.length-v) (by omega) (AX (by omega)) fun v c=>?_
  dsimp only[Sv,Vt,br,ix,vz,vs,AC,ln,Al,wa,wi,Ah,A7,br]
  (repeat' (first|with_reducible refine Ok.br (fun _=>?_) (fun _=>?_)|with_reducible refine Ok.pure ?_|with_reducible refine Ok.idx ?_ (fun _ _ _=>?_)|with_reducible refine Ok.if ?_ ?_))<;>(first|trivial|assumption|contradiction|omega|grind|(simp only[Bd.c,Bd.vl,ByteArray.size_append,ByteArray.size_extract,AF]at*;grind))
 dsimp only[ZG,Uz,UO,Xg,vz,lr,lc,Ah]
 (repeat' (first|with_reducible refine Ok.br (fun _=>?_) (fun _=>?_)|with_reducible refine Ok.pure ?_|(with_reducible apply Ok.lb;(exact q);all_goals(intro _ _;try dsimp only))|with_reducible refine Ok.if ?_ ?_))<;>(first|trivial|assumption|contradiction|omega|grind|(simp only[Bd.c,Bd.vl,ByteArray.size_append,ByteArray.size_extract,AF]at*;grind))
theorem KN(l:List Nt)(n:Int)(h:FF l)(e:0≤n)(c:n≤400):Ok (fun y:Int=>0≤y∧y≤1048986) (ZF l n):=by
 obtain⟨d,b⟩:=h
 have g:∀x∈l,x.val.list.length≤1048576:=fun x a=>(b x a).v.l
 have i:∀x∈l,x.val.pairs.length≤1048576:=fun x a=>(b x a).v.p
 have j:∀x∈l,x.val.slots.length≤1048576:=fun x a=>(b x a).v.s
 have k:∀x∈l,x.val.raws.length≤1048576:=fun x a=>(b x a).v.r
 have q:Ok (Sum.elim Tr fun y:Int=>10≤y∧y≤410) (Am (SP l n) Aj 0):=by
  refine Ok.loop (fun v:Nat=>v≤l.length) (fun v:Nat=>l.length-v) (by omega) (AX (by omega)) fun v f=>?_
  dsimp only[SP,WG,br,ix,vz,vy,vw,vs,vg,AC,ln,Al,wa,wi,Ah,A7,br]
  (repeat' (first|with_reducible refine Ok.br (fun _=>?_) (fun _=>?_)|with_reducible refine Ok.pure ?_|with_reducible refine Ok.idx ?_ (fun _ _ _=>?_)|with_reducible refine Ok.if ?_ ?_))<;>(first|trivial|assumption|contradiction|omega|grind|(simp only[Bd.c,Bd.vl,ByteArray.size_append,ByteArray.size_extract,AF]at*;grind))
 dsimp only[ZF,Wq,Ux,W5,vz,lr,lc,Ah]
 (repeat' (first|with_reducible refine Ok.br (fun _=>?_) (fun _=>?_)|with_reducible refine Ok.pure ?_|(with_reducible apply Ok.lb;(exact q);all_goals(intro _ _;try dsimp only))|with_reducible refine Ok.if ?_ ?_))<;>(first|trivial|assumption|contradiction|omega|grind|(simp only[Bd.c,Bd.vl,ByteArray.size_append,ByteArray.size_extract,AF]at*;grind))
theorem o15(s:Scm)(h:SzS s):Ok (fun b=>b=true→Few s) (Zy s):=by
 have u:=h.ml
 have z:=h.el
 have A:=h.wl
 have l:∀(v:Nat) (m:Msg) (n:Int),SzM m→ -10000000≤n→n≤400→Ok (Sum.elim (fun y:Int=>-10000000≤y∧y≤400) No) (Am (Sc s v m) Aj (n,0)):=by
  intro w m n hm g f
  have j:=hm.fl
  refine Ok.loop (fun v:Int×Nat=>v.2≤m.fields.length∧ -10000000≤v.1∧v.1≤400) (fun v:Int×Nat=>m.fields.length-v.2) ⟨by omega,by omega,by omega⟩ (AX (by omega)) fun v e=>?_
  obtain⟨n,v⟩:=v
  obtain⟨c,d,a⟩:=e
  dsimp only at c d a
  dsimp only[Sc,UQ,br,ix,vz,vw,vs,v2,ln,Al,cl,wa,wi,Ah,A7,br]
  (repeat' (first|with_reducible refine Ok.br (fun _=>?_) (fun _=>?_)|with_reducible refine Ok.pure ?_|with_reducible refine Ok.idx ?_ (fun _ _ _=>?_)|(with_reducible apply Ok.bind;(exact KN _ _ (hm.f _ (by assumption)).o (by(first|trivial|assumption|contradiction|omega|solve_by_elim|(simp only[Bool.and_eq_true,Bool.or_eq_true,Bool.not_eq_true',Bool.and_eq_false_iff,Bool.or_eq_false_iff,decide_eq_true_eq,decide_eq_false_iff_not]at*;omega)|grind)) a);intro _ _)|(with_reducible apply Ok.bind;(exact IM _ _ (by simp) (by(first|trivial|assumption|contradiction|omega|solve_by_elim|(simp only[Bool.and_eq_true,Bool.or_eq_true,Bool.not_eq_true',Bool.and_eq_false_iff,Bool.or_eq_false_iff,decide_eq_true_eq,decide_eq_false_iff_not]at*;omega)|grind)) a);intro _ _)|with_reducible refine Ok.if ?_ ?_))<;>(first|trivial|assumption|contradiction|omega|grind|(simp only[Bd.c,Bd.vl,ByteArray.size_append,ByteArray.size_extract,AF]at*;grind))
 have k:Ok (Sum.elim (fun y:Int=>-10000000≤y∧y≤400) No) (Am (SH s) Aj (400,0)):=by
  refine Ok.loop (fun v:Int×Nat=>v.2≤s.messages.length∧ -10000000≤v.1∧v.1≤400) (fun v:Int×Nat=>s.messages.length-v.2) ⟨by omega,by omega,by omega⟩ (AX (by omega)) fun v e=>?_
  obtain⟨n,v⟩:=v
  obtain⟨c,d,a⟩:=e
  dsimp only at c d a
  dsimp only[SH,UW,VJ,UT,br,ix,vz,vw,vs,v2,ln,Al,lc,cl,wa,wi,Ah,br]
  have t:∀x∈s.messages,x.reserved.length≤1048576:=fun x i=>(h.m x i).r
  (repeat' (first|with_reducible refine Ok.br (fun _=>?_) (fun _=>?_)|with_reducible refine Ok.pure ?_|with_reducible refine Ok.idx ?_ (fun _ _ _=>?_)|(with_reducible apply Ok.lb;(exact l _ _ _ (h.m _ (by assumption)) (by(first|trivial|assumption|contradiction|omega|solve_by_elim|(simp only[Bool.and_eq_true,Bool.or_eq_true,Bool.not_eq_true',Bool.and_eq_false_iff,Bool.or_eq_false_iff,decide_eq_true_eq,decide_eq_false_iff_not]at*;omega)|grind)) (by(first|trivial|assumption|contradiction|omega|solve_by_elim|(simp only[Bool.and_eq_true,Bool.or_eq_true,Bool.not_eq_true',Bool.and_eq_false_iff,Bool.or_eq_false_iff,decide_eq_true_eq,decide_eq_false_iff_not]at*;omega)|grind)));all_goals(intro _ _;try dsimp only))|(with_reducible apply Ok.bind;(exact KN _ _ (h.m _ (by assumption)).o (by(first|trivial|assumption|contradiction|omega|solve_by_elim|(simp only[Bool.and_eq_true,Bool.or_eq_true,Bool.not_eq_true',Bool.and_eq_false_iff,Bool.or_eq_false_iff,decide_eq_true_eq,decide_eq_false_iff_not]at*;omega)|grind)) a);intro _ _)|(with_reducible apply Ok.bind;(exact IM _ _ (h.m _ (by assumption)).gl (by(first|trivial|assumption|contradiction|omega|solve_by_elim|(simp only[Bool.and_eq_true,Bool.or_eq_true,Bool.not_eq_true',Bool.and_eq_false_iff,Bool.or_eq_false_iff,decide_eq_true_eq,decide_eq_false_iff_not]at*;omega)|grind)) a);intro _ _)|(with_reducible apply Ok.bind;(exact IM _ _ (by simp) (by(first|trivial|assumption|contradiction|omega|solve_by_elim|(simp only[Bool.and_eq_true,Bool.or_eq_true,Bool.not_eq_true',Bool.and_eq_false_iff,Bool.or_eq_false_iff,decide_eq_true_eq,decide_eq_false_iff_not]at*;omega)|grind)) a);intro _ _)|with_reducible refine Ok.if ?_ ?_))<;>(first|trivial|assumption|contradiction|omega|grind|(simp only[Bd.c,Bd.vl,ByteArray.size_append,ByteArray.size_extract,AF]at*;grind))
 have p:∀(v:Nat) (m:Enm) (n:Int),SzE m→ -10000000≤n→n≤400→Ok (Sum.elim (fun y:Int=>-10000000≤y∧y≤400) No) (Am (Ta s v m) Aj (n,0)):=by
  intro w m n hm g f
  have j:=hm.il
  refine Ok.loop (fun v:Int×Nat=>v.2≤m.items.length∧ -10000000≤v.1∧v.1≤400) (fun v:Int×Nat=>m.items.length-v.2) ⟨by omega,by omega,by omega⟩ (AX (by omega)) fun v e=>?_
  obtain⟨n,v⟩:=v
  obtain⟨c,d,a⟩:=e
  dsimp only at c d a
  dsimp only[Ta,UV,br,ix,vz,vw,vs,ln,Al,cl,wa,wi,Ah,br]
  (repeat' (first|with_reducible refine Ok.br (fun _=>?_) (fun _=>?_)|with_reducible refine Ok.pure ?_|with_reducible refine Ok.idx ?_ (fun _ _ _=>?_)|(with_reducible apply Ok.bind;(exact KN _ _ (hm.i _ (by assumption)).o (by(first|trivial|assumption|contradiction|omega|solve_by_elim|(simp only[Bool.and_eq_true,Bool.or_eq_true,Bool.not_eq_true',Bool.and_eq_false_iff,Bool.or_eq_false_iff,decide_eq_true_eq,decide_eq_false_iff_not]at*;omega)|grind)) a);intro _ _)|(with_reducible apply Ok.bind;(exact IM _ _ (by simp) (by(first|trivial|assumption|contradiction|omega|solve_by_elim|(simp only[Bool.and_eq_true,Bool.or_eq_true,Bool.not_eq_true',Bool.and_eq_false_iff,Bool.or_eq_false_iff,decide_eq_true_eq,decide_eq_false_iff_not]at*;omega)|grind)) a);intro _ _)|with_reducible refine Ok.if ?_ ?_))<;>(first|trivial|assumption|contradiction|omega|grind|(simp only[Bd.c,Bd.vl,ByteArray.size_append,ByteArray.size_extract,AF]at*;grind))
 have o:∀n:Int,-10000000≤n→n≤400→Ok (Sum.elim (fun y:Int=>-10000000≤y∧y≤400) No) (Am (Tc s) Aj (n,0)):=by
  intro n g f
  refine Ok.loop (fun v:Int×Nat=>v.2≤s.enums.length∧ -10000000≤v.1∧v.1≤400) (fun v:Int×Nat=>s.enums.length-v.2) ⟨by omega,by omega,by omega⟩ (AX (by omega)) fun v e=>?_
  obtain⟨n,v⟩:=v
  obtain⟨c,d,a⟩:=e
  dsimp only at c d a
  dsimp only[Tc,UX,V2,WH,br,ix,vz,vw,vs,ln,Al,lc,cl,wa,wi,Ah,br]
  have t:∀x∈s.enums,x.reserved.length≤1048576:=fun x i=>(h.e x i).r
  (repeat' (first|with_reducible refine Ok.br (fun _=>?_) (fun _=>?_)|with_reducible refine Ok.pure ?_|with_reducible refine Ok.idx ?_ (fun _ _ _=>?_)|(with_reducible apply Ok.lb;(exact p _ _ _ (h.e _ (by assumption)) (by(first|trivial|assumption|contradiction|omega|solve_by_elim|(simp only[Bool.and_eq_true,Bool.or_eq_true,Bool.not_eq_true',Bool.and_eq_false_iff,Bool.or_eq_false_iff,decide_eq_true_eq,decide_eq_false_iff_not]at*;omega)|grind)) (by(first|trivial|assumption|contradiction|omega|solve_by_elim|(simp only[Bool.and_eq_true,Bool.or_eq_true,Bool.not_eq_true',Bool.and_eq_false_iff,Bool.or_eq_false_iff,decide_eq_true_eq,decide_eq_false_iff_not]at*;omega)|grind)));all_goals(intro _ _;try dsimp only))|(with_reducible apply Ok.bind;(exact KN _ _ (h.e _ (by assumption)).o (by(first|trivial|assumption|contradiction|omega|solve_by_elim|(simp only[Bool.and_eq_true,Bool.or_eq_true,Bool.not_eq_true',Bool.and_eq_false_iff,Bool.or_eq_false_iff,decide_eq_true_eq,decide_eq_false_iff_not]at*;omega)|grind)) a);intro _ _)|(with_reducible apply Ok.bind;(exact IM _ _ (by simp) (by(first|trivial|assumption|contradiction|omega|solve_by_elim|(simp only[Bool.and_eq_true,Bool.or_eq_true,Bool.not_eq_true',Bool.and_eq_false_iff,Bool.or_eq_false_iff,decide_eq_true_eq,decide_eq_false_iff_not]at*;omega)|grind)) a);intro _ _)|with_reducible refine Ok.if ?_ ?_))<;>(first|trivial|assumption|contradiction|omega|grind|(simp only[Bd.c,Bd.vl,ByteArray.size_append,ByteArray.size_extract,AF]at*;grind))
 have r:∀(v:Nat) (m:Svc) (n:Int),SzW m→ -10000000≤n→n≤400→Ok (Sum.elim (fun y:Int=>-10000000≤y∧y≤400) No) (Am (Sg s v m) Aj (n,0)):=by
  intro w m n hm g f
  have j:=hm.ml
  refine Ok.loop (fun v:Int×Nat=>v.2≤m.methods.length∧ -10000000≤v.1∧v.1≤400) (fun v:Int×Nat=>m.methods.length-v.2) ⟨by omega,by omega,by omega⟩ (AX (by omega)) fun v e=>?_
  obtain⟨n,v⟩:=v
  obtain⟨c,d,a⟩:=e
  dsimp only at c d a
  dsimp only[Sg,V5,br,ix,vz,vw,vs,ln,Al,cl,wa,wi,Ah,br]
  (repeat' (first|with_reducible refine Ok.br (fun _=>?_) (fun _=>?_)|with_reducible refine Ok.pure ?_|with_reducible refine Ok.idx ?_ (fun _ _ _=>?_)|(with_reducible apply Ok.bind;(exact KN _ _ (hm.m _ (by assumption)).o (by(first|trivial|assumption|contradiction|omega|solve_by_elim|(simp only[Bool.and_eq_true,Bool.or_eq_true,Bool.not_eq_true',Bool.and_eq_false_iff,Bool.or_eq_false_iff,decide_eq_true_eq,decide_eq_false_iff_not]at*;omega)|grind)) a);intro _ _)|(with_reducible apply Ok.bind;(exact IM _ _ (by simp) (by(first|trivial|assumption|contradiction|omega|solve_by_elim|(simp only[Bool.and_eq_true,Bool.or_eq_true,Bool.not_eq_true',Bool.and_eq_false_iff,Bool.or_eq_false_iff,decide_eq_true_eq,decide_eq_false_iff_not]at*;omega)|grind)) a);intro _ _)|with_reducible refine Ok.if ?_ ?_))<;>(first|trivial|assumption|contradiction|omega|grind|(simp only[Bd.c,Bd.vl,ByteArray.size_append,ByteArray.size_extract,AF]at*;grind))
 have q:∀n:Int,-10000000≤n→n≤400→Ok (Sum.elim (fun y:Int=>-10000000≤y∧y≤400) No) (Am (SU s) Aj (n,0)):=by
  intro n g f
  refine Ok.loop (fun v:Int×Nat=>v.2≤s.services.length∧ -10000000≤v.1∧v.1≤400) (fun v:Int×Nat=>s.services.length-v.2) ⟨by omega,by omega,by omega⟩ (AX (by omega)) fun v e=>?_
  obtain⟨n,v⟩:=v
  obtain⟨c,d,a⟩:=e
  dsimp only at c d a
  dsimp only[SU,dx,fS,eI,br,ix,vz,vw,vs,ln,Al,lc,cl,wa,wi,Ah,br]
  (repeat' (first|with_reducible refine Ok.br (fun _=>?_) (fun _=>?_)|with_reducible refine Ok.pure ?_|with_reducible refine Ok.idx ?_ (fun _ _ _=>?_)|(with_reducible apply Ok.lb;(exact r _ _ _ (h.w _ (by assumption)) (by(first|trivial|assumption|contradiction|omega|solve_by_elim|(simp only[Bool.and_eq_true,Bool.or_eq_true,Bool.not_eq_true',Bool.and_eq_false_iff,Bool.or_eq_false_iff,decide_eq_true_eq,decide_eq_false_iff_not]at*;omega)|grind)) (by(first|trivial|assumption|contradiction|omega|solve_by_elim|(simp only[Bool.and_eq_true,Bool.or_eq_true,Bool.not_eq_true',Bool.and_eq_false_iff,Bool.or_eq_false_iff,decide_eq_true_eq,decide_eq_false_iff_not]at*;omega)|grind)));all_goals(intro _ _;try dsimp only))|(with_reducible apply Ok.bind;(exact KN _ _ (h.w _ (by assumption)).o (by(first|trivial|assumption|contradiction|omega|solve_by_elim|(simp only[Bool.and_eq_true,Bool.or_eq_true,Bool.not_eq_true',Bool.and_eq_false_iff,Bool.or_eq_false_iff,decide_eq_true_eq,decide_eq_false_iff_not]at*;omega)|grind)) a);intro _ _)|(with_reducible apply Ok.bind;(exact IM _ _ (by simp) (by(first|trivial|assumption|contradiction|omega|solve_by_elim|(simp only[Bool.and_eq_true,Bool.or_eq_true,Bool.not_eq_true',Bool.and_eq_false_iff,Bool.or_eq_false_iff,decide_eq_true_eq,decide_eq_false_iff_not]at*;omega)|grind)) a);intro _ _)|with_reducible refine Ok.if ?_ ?_))<;>(first|trivial|assumption|contradiction|omega|grind|(simp only[Bd.c,Bd.vl,ByteArray.size_append,ByteArray.size_extract,AF]at*;grind))
 dsimp only[Zy,gy,g6,eE,eH,dt,br,vz,vy,vw,vg,lr,lc,wa,Ah,br]
 (repeat' (first|with_reducible refine Ok.br (fun _=>?_) (fun _=>?_)|with_reducible refine Ok.pure ?_|(with_reducible apply Ok.lb;(exact k);all_goals(intro _ _;try dsimp only))|(with_reducible apply Ok.lb;(exact o _ (by(first|trivial|assumption|contradiction|omega|solve_by_elim|(simp only[Bool.and_eq_true,Bool.or_eq_true,Bool.not_eq_true',Bool.and_eq_false_iff,Bool.or_eq_false_iff,decide_eq_true_eq,decide_eq_false_iff_not]at*;omega)|grind)) (by(first|trivial|assumption|contradiction|omega|solve_by_elim|(simp only[Bool.and_eq_true,Bool.or_eq_true,Bool.not_eq_true',Bool.and_eq_false_iff,Bool.or_eq_false_iff,decide_eq_true_eq,decide_eq_false_iff_not]at*;omega)|grind)));all_goals(intro _ _;try dsimp only))|(with_reducible apply Ok.lb;(exact q _ (by(first|trivial|assumption|contradiction|omega|solve_by_elim|(simp only[Bool.and_eq_true,Bool.or_eq_true,Bool.not_eq_true',Bool.and_eq_false_iff,Bool.or_eq_false_iff,decide_eq_true_eq,decide_eq_false_iff_not]at*;omega)|grind)) (by(first|trivial|assumption|contradiction|omega|solve_by_elim|(simp only[Bool.and_eq_true,Bool.or_eq_true,Bool.not_eq_true',Bool.and_eq_false_iff,Bool.or_eq_false_iff,decide_eq_true_eq,decide_eq_false_iff_not]at*;omega)|grind)));all_goals(intro _ _;try dsimp only))|with_reducible refine Ok.if ?_ ?_))<;>first|(first|trivial|assumption|contradiction|omega|grind|(simp only[Bd.c,Bd.vl,ByteArray.size_append,ByteArray.size_extract,AF]at*;grind))|exact fun _=>⟨by(first|trivial|assumption|contradiction|omega|solve_by_elim|(simp only[Bool.and_eq_true,Bool.or_eq_true,Bool.not_eq_true',Bool.and_eq_false_iff,Bool.or_eq_false_iff,decide_eq_true_eq,decide_eq_false_iff_not]at*;omega)|grind),by(first|trivial|assumption|contradiction|omega|solve_by_elim|(simp only[Bool.and_eq_true,Bool.or_eq_true,Bool.not_eq_true',Bool.and_eq_false_iff,Bool.or_eq_false_iff,decide_eq_true_eq,decide_eq_false_iff_not]at*;omega)|grind),by(first|trivial|assumption|contradiction|omega|solve_by_elim|(simp only[Bool.and_eq_true,Bool.or_eq_true,Bool.not_eq_true',Bool.and_eq_false_iff,Bool.or_eq_false_iff,decide_eq_true_eq,decide_eq_false_iff_not]at*;omega)|grind)⟩
abbrev A3(v:Val):Prop:=Az (Ag v)≤1048576
theorem Gb{v x:Val}(h:A3 v)(b:x∈v.list):A3 x:=by
 have a:=CE (e:=Aq) b
 rw[F4]at a
 unfold A3 at*
 conv at h=>unfold Ag
 simp only[Az,bk]at h
 omega
theorem DJ{v:Val}{x:Pr}(h:A3 v)(b:x∈v.pairs):A3 x.key∧A3 x.val:=by
 have a:=CE (e:=Ar) b
 have e:Ar x=Ag x.key++Ag x.val:=by rw[Iz];rfl
 rw[e,Mm]at a
 unfold A3 at*
 conv at h=>unfold Ag
 simp only[Az,bk]at h
 omega
theorem ER{v:Val}{x:Slt}(h:A3 v)(b:x∈v.slots):A3 x.val:=by
 have a:=CE (e:=Ai) b
 have e:Ai x=D.int .i64 x.num::Ag x.val:=by rw[F5];rfl
 rw[e,Az]at a
 unfold A3 at*
 conv at h=>unfold Ag
 simp only[Az,bk]at h
 omega
theorem bR{α:Type}(p:α→Bool):∀l:List α,l.find? p=(l.findIdx? p).bind fun i=>l[i]?
 |[]=>rfl
 |x::l=>by
  rw[List.find?_cons,List.findIdx?_cons]
  cases h:p x with
  |true=>simp
  |false=>
   rw[bR p l]
   cases List.findIdx? p l<;>simp
def BV{α:Type}[Inhabited α](l:List α)(z:α)(p:α→Bool):α×Bool:=(l.find? p).elim (z,false) fun x=>(x,true)
theorem Qy{α:Type}[Inhabited α](l:List α)(z:α)(p:α→Bool):BV l z p=match l.findIdx? p with|some i=>(l.getD i default,true)|none=>(z,false):=by
 unfold BV
 rw[bR]
 cases h:l.findIdx? p with
 |none=>rfl
 |some i=>
  have:=(Y3.1 h).1
  simp[this]
def zM:Msg:=.mk ⟨#[]⟩ [] [] [] []
def zF:Fld:=.mk 0 ⟨#[]⟩ 0 0 (.mk 0 ⟨#[]⟩) ⟨#[]⟩ false (.mk 0 0 ⟨#[]⟩ [] [] [] []) []
theorem jk(s:Scm)(n:ByteArray)(h:s.messages.length≤1048576):PD s n=some (BV s.messages zM fun m=>decide (m.name=n)):=by
 have d:=Iu (B:=Nl s n) (N:=Aj) s.messages (fun m=>decide (m.name=n)) (fun i=>(s.messages.getD i default,true)) () (fun i x a=>by
  have b:=Cy a
  have e:=(Yc.1 a).1
  have c:i+1<9223372036854775808:=by omega
  dsimp only[Nl,RT,br,ix,vz,vw,vs,AC,ln,Al,wa,Ah,br]
  simp only[b,c,a,decide_true,if_true,Yg,Yv,YX]
  cases decide (x.name=n)<;>simp) (by simp[Nl,RT,br,ix,vz,vw,vs,AC,ln,Al,wa,Ah,br]) (BD (by omega))
 dsimp only[PD,U7,Uo,UJ,vw,lr,lc]
 rw[d,Qy]
 cases s.messages.findIdx? fun m=>decide (m.name=n)<;>rfl
theorem m84(l:List Msg)(n:ByteArray)(h:l.length≤1048576):PK l (fun z=>Jz z n)=some (BV l zM fun m=>decide (m.name=n)):=by
 have d:=Iu (B:=MU l fun z=>Jz z n) (N:=Aj) l (fun m=>decide (m.name=n)) (fun i=>(l.getD i default,true)) () (fun i x a=>by
  have b:=Cy a
  have f:=(Yc.1 a).1
  have c:i+1<9223372036854775808:=by omega
  have e:Jz x n=some (decide (x.name=n)):=rfl
  dsimp only[MU,Rp,br,ix,vw,vs,AC,ln,Al,cf,wa,br]
  simp only[b,c,a,e,decide_true,if_true,Yg,Yv,YX]
  cases decide (x.name=n)<;>simp) (by simp[MU,Rp,br,ix,vw,vs,AC,ln,Al,cf,wa,br]) (BD (by omega))
 dsimp only[PK,WI,Wt,VA,vz,vw,lr,lc,Ah]
 rw[d,Qy]
 cases l.findIdx? fun m=>decide (m.name=n)<;>rfl
theorem xa{s:Scm}(h:SzS s)(n:ByteArray):(BV s.messages zM fun m=>decide (m.name=n)).1.fields.length≤1048576:=by
 unfold BV
 cases e:s.messages.find? fun m=>decide (m.name=n)with
 |none=>simp[zM]
 |some m=>exact(h.m _ (TT e)).fl
theorem Hn{v x:Val}(b:x∈v.list):Az (Ag x)<Az (Ag v):=by
 have a:=CE (e:=Aq) b
 rw[F4]at a
 conv=>rhs;unfold Ag
 simp only[Az,bk]
 omega
theorem ET{v:Val}{x:Pr}(c:x∈v.pairs):Az (Ag x.key)<Az (Ag v)∧Az (Ag x.val)<Az (Ag v):=by
 have b:=CE (e:=Ar) c
 have e:Ar x=Ag x.key++Ag x.val:=by rw[Iz];rfl
 rw[e,Mm]at b
 have a:Az (Ag v)=Az [.int .i64 v.kind,.int .u64 v.bits,.str v.text,.list (v.list.map Aq),.list (v.pairs.map Ar),.list (v.slots.map Ai),.list (v.raws.map Ay)]:=rfl
 rw[a]
 simp only[Az,bk]
 omega
theorem He{v:Val}{x:Slt}(c:x∈v.slots):Az (Ag x.val)<Az (Ag v):=by
 have a:=CE (e:=Ai) c
 have e:Ai x=D.int .i64 x.num::Ag x.val:=by rw[F5];rfl
 rw[e,Az]at a
 have b:Az (Ag v)=Az [.int .i64 v.kind,.int .u64 v.bits,.str v.text,.list (v.list.map Aq),.list (v.pairs.map Ar),.list (v.slots.map Ai),.list (v.raws.map Ay)]:=rfl
 rw[b]
 simp only[Az,bk]at a⊢
 omega
theorem Df{α:Type}{l:List α}{i:Nat}(z:α)(h:i<l.length):l[i]?=some (l.getD ((i:Int)).toNat z):=by
 rw[GM,Yv,Yb h]
 rfl
theorem Dv:∀(a:Nat) (v:Val),Az (Ag v)<a→A3 v→Ok (fun b=>b=true) (BI a v v)
 |0,v,h,_=>by omega
 |a+1,v,h,k=>by
  obtain⟨s1,s2,n,o,p⟩:=B4 k
  have f:∀(i:Nat) (x y:Val),v.list[i]?=some x→v.list[i]?=some y→Ok (fun b=>b=true) (BI a x y):=fun i x y c hy=>by
   rw[c]at hy
   cases hy
   have hm:=Yi c
   exact Dv a x (by have:=Hn hm;omega) (Gb k hm)
  have d:∀(i:Nat) (x y:Pr),v.pairs[i]?=some x→v.pairs[i]?=some y→Ok (fun b=>b=true) (BI a x.key y.key)∧Ok (fun b=>b=true) (BI a x.val y.val):=fun i x y c hy=>by
   rw[c]at hy
   cases hy
   have hm:=Yi c
   exact⟨Dv a _ (by have:=(ET hm).1;omega) (DJ k hm).1,Dv a _ (by have:=(ET hm).2;omega) (DJ k hm).2⟩
  have e:∀(i:Nat) (x y:Slt),v.slots[i]?=some x→v.slots[i]?=some y→Ok (fun b=>b=true) (BI a x.val y.val):=fun i x y c hy=>by
   rw[c]at hy
   cases hy
   have hm:=Yi c
   exact Dv a _ (by have:=He hm;omega) (ER k hm)
  have g:Ok (Sum.elim Tr No) (Am (Kp v v (BI a)) Aj 0):=by
   refine Ok.loop (fun i:Nat=>i≤v.list.length) (fun i:Nat=>v.list.length-i) (by omega) (AX (by omega)) fun i hi=>?_
   dsimp only[Kp,Rz,br,ix,vz,vw,vs,AC,ln,Al,cs,wa,Ah,br]
   (repeat' (first|with_reducible refine Ok.br (fun _=>?_) (fun _=>?_)|with_reducible refine Ok.pure ?_|with_reducible refine Ok.idx ?_ (fun _ _ _=>?_)|(with_reducible apply Ok.bind;(exact f i _ _ (by assumption) (by assumption));intro _ _)|with_reducible refine Ok.if ?_ ?_))<;>(first|trivial|assumption|contradiction|omega|grind|(simp only[Bd.c,Bd.vl,ByteArray.size_append,ByteArray.size_extract,AF]at*;grind))
  have j:Ok (Sum.elim Tr No) (Am (Kl v v (BI a)) Aj 0):=by
   refine Ok.loop (fun i:Nat=>i≤v.pairs.length) (fun i:Nat=>v.pairs.length-i) (by omega) (AX (by omega)) fun i hi=>?_
   dsimp only[Kl,RC,br,ix,A2,vz,vw,vs,AC,ln,Al,cs,Hz,wa,Ah,br]
   (repeat' (first|with_reducible refine Ok.br (fun _=>?_) (fun _=>?_)|with_reducible refine Ok.pure ?_|with_reducible refine Ok.idx ?_ (fun _ _ _=>?_)|(with_reducible apply Ok.bind;(exact(d i _ _ (by assumption) (by assumption)).1);intro _ _)|(with_reducible apply Ok.bind;(exact(d i _ _ (Df _ (by(first|trivial|assumption|contradiction|omega|solve_by_elim|(simp only[Bool.and_eq_true,Bool.or_eq_true,Bool.not_eq_true',Bool.and_eq_false_iff,Bool.or_eq_false_iff,decide_eq_true_eq,decide_eq_false_iff_not]at*;omega)|grind))) (Df _ (by(first|trivial|assumption|contradiction|omega|solve_by_elim|(simp only[Bool.and_eq_true,Bool.or_eq_true,Bool.not_eq_true',Bool.and_eq_false_iff,Bool.or_eq_false_iff,decide_eq_true_eq,decide_eq_false_iff_not]at*;omega)|grind)))).2);intro _ _)|(with_reducible apply Ok.clg;(exact fun _=>(d i _ _ (by assumption) (by assumption)).1);intro _)|(with_reducible apply Ok.clg;(exact fun _=>(d i _ _ (Df _ (by(first|trivial|assumption|contradiction|omega|solve_by_elim|(simp only[Bool.and_eq_true,Bool.or_eq_true,Bool.not_eq_true',Bool.and_eq_false_iff,Bool.or_eq_false_iff,decide_eq_true_eq,decide_eq_false_iff_not]at*;omega)|grind))) (Df _ (by(first|trivial|assumption|contradiction|omega|solve_by_elim|(simp only[Bool.and_eq_true,Bool.or_eq_true,Bool.not_eq_true',Bool.and_eq_false_iff,Bool.or_eq_false_iff,decide_eq_true_eq,decide_eq_false_iff_not]at*;omega)|grind)))).2);intro _)|with_reducible refine Ok.idxg ?_ (fun _=>?_)|with_reducible refine Ok.if ?_ ?_))<;>(first|trivial|assumption|contradiction|omega|grind|(simp only[Bd.c,Bd.vl,ByteArray.size_append,ByteArray.size_extract,AF]at*;grind))
  have l:Ok (Sum.elim Tr No) (Am (Kh v v (BI a)) Aj 0):=by
   refine Ok.loop (fun i:Nat=>i≤v.slots.length) (fun i:Nat=>v.slots.length-i) (by omega) (AX (by omega)) fun i hi=>?_
   dsimp only[Kh,SW,br,ix,A2,vz,vw,vs,AC,ln,Al,Hz,wa,Ah,br]
   (repeat' (first|with_reducible refine Ok.br (fun _=>?_) (fun _=>?_)|with_reducible refine Ok.pure ?_|with_reducible refine Ok.idx ?_ (fun _ _ _=>?_)|(with_reducible apply Ok.bind;(exact e i _ _ (Df _ (by(first|trivial|assumption|contradiction|omega|solve_by_elim|(simp only[Bool.and_eq_true,Bool.or_eq_true,Bool.not_eq_true',Bool.and_eq_false_iff,Bool.or_eq_false_iff,decide_eq_true_eq,decide_eq_false_iff_not]at*;omega)|grind))) (Df _ (by(first|trivial|assumption|contradiction|omega|solve_by_elim|(simp only[Bool.and_eq_true,Bool.or_eq_true,Bool.not_eq_true',Bool.and_eq_false_iff,Bool.or_eq_false_iff,decide_eq_true_eq,decide_eq_false_iff_not]at*;omega)|grind))));intro _ _)|(with_reducible apply Ok.clg;(exact fun _=>e i _ _ (Df _ (by(first|trivial|assumption|contradiction|omega|solve_by_elim|(simp only[Bool.and_eq_true,Bool.or_eq_true,Bool.not_eq_true',Bool.and_eq_false_iff,Bool.or_eq_false_iff,decide_eq_true_eq,decide_eq_false_iff_not]at*;omega)|grind))) (Df _ (by(first|trivial|assumption|contradiction|omega|solve_by_elim|(simp only[Bool.and_eq_true,Bool.or_eq_true,Bool.not_eq_true',Bool.and_eq_false_iff,Bool.or_eq_false_iff,decide_eq_true_eq,decide_eq_false_iff_not]at*;omega)|grind))));intro _)|with_reducible refine Ok.idxg ?_ (fun _=>?_)|with_reducible refine Ok.if ?_ ?_))<;>(first|trivial|assumption|contradiction|omega|grind|(simp only[Bd.c,Bd.vl,ByteArray.size_append,ByteArray.size_extract,AF]at*;grind))
  have m:Ok (Sum.elim Tr No) (Am (Kr v v (BI a)) Aj 0):=by
   refine Ok.loop (fun i:Nat=>i≤v.raws.length) (fun i:Nat=>v.raws.length-i) (by omega) (AX (by omega)) fun i hi=>?_
   dsimp only[Kr,RE,br,ix,vz,vw,vs,AC,ln,Al,wa,Ah,br]
   (repeat' (first|with_reducible refine Ok.br (fun _=>?_) (fun _=>?_)|with_reducible refine Ok.pure ?_|with_reducible refine Ok.idx ?_ (fun _ _ _=>?_)|with_reducible refine Ok.if ?_ ?_))<;>(first|trivial|assumption|contradiction|omega|grind|(simp only[Bd.c,Bd.vl,ByteArray.size_append,ByteArray.size_extract,AF]at*;grind))
  show Ok _ (Ji (BI a) v v)
  dsimp only[Ji,Q6,Ry,Rt,RW,RS,Sm,br,vy,vw,lr,lc,Ah,br]
  (repeat' (first|with_reducible refine Ok.br (fun _=>?_) (fun _=>?_)|with_reducible refine Ok.pure ?_|(with_reducible apply Ok.lb;(exact g);all_goals(intro _ _;try dsimp only))|(with_reducible apply Ok.lb;(exact j);all_goals(intro _ _;try dsimp only))|(with_reducible apply Ok.lb;(exact l);all_goals(intro _ _;try dsimp only))|(with_reducible apply Ok.lb;(exact m);all_goals(intro _ _;try dsimp only))|with_reducible refine Ok.if ?_ ?_))<;>first|rfl|contradiction|(simp at*;done)
theorem zr:∀(b:Nat) (v:Val) (a n:Int),A3 v→1≤a→42-a<b→a≤41→0≤n→n≤2000→Ok (fun y:Int=>-1≤y∧y≤2000) (Fk b v a n)
 |0,v,a,n,h,j,k,l,o,p=>by omega
 |b+1,v,a,n,h,j,k,l,o,p=>by
  obtain⟨s1,s2,z,A,B⟩:=B4 h
  have R:∀(x:Val) (n:Int),A3 x→a≤40→0≤n→n≤2000→Ok (fun y:Int=>-1≤y∧y≤2000) (Fk b x (a+1) n):=fun x n r hl q g=>zr b x (a+1) n r (by omega) (by omega) (by omega) q g
  have s:Ok (Sum.elim Tr (fun y:Int=>y= -1)) (Am (RX v a n (Fk b)) Aj 0):=by
   refine Ok.loop (fun i:Nat=>i≤v.raws.length) (fun i:Nat=>v.raws.length-i) (by omega) (AX (by omega)) fun i hi=>?_
   dsimp only[RX,Ub,br,ix,vz,vw,vs,AC,ln,Al,wa,Ah,A7,br]
   (repeat' (first|with_reducible refine Ok.br (fun _=>?_) (fun _=>?_)|with_reducible refine Ok.pure ?_|with_reducible refine Ok.idx ?_ (fun _ _ _=>?_)|with_reducible refine Ok.if ?_ ?_))<;>(first|trivial|assumption|contradiction|omega|grind|(simp only[Bd.c,Bd.vl,ByteArray.size_append,ByteArray.size_extract,AF]at*;grind))
  have t:∀m:Int,a≤40→ -1≤m→m≤2000→Ok (Sum.elim (fun y:Int=>-1≤y∧y≤2000) No) (Am (SX v a (Fk b)) Aj (m,0)):=by
   intro m hl hm f
   refine Ok.loop (fun i:Int×Nat=>i.2≤v.list.length∧ -1≤i.1∧i.1≤2000) (fun i:Int×Nat=>v.list.length-i.2) ⟨by omega,by omega,by omega⟩ (AX (by omega)) fun i hi=>?_
   obtain⟨m,i⟩:=i
   obtain⟨d,e,c⟩:=hi
   dsimp only at d e c
   dsimp only[SX,VQ,br,ix,vz,vw,vs,ln,Al,cs,wa,wi,Ah,br]
   (repeat' (first|with_reducible refine Ok.br (fun _=>?_) (fun _=>?_)|with_reducible refine Ok.pure ?_|with_reducible refine Ok.idx ?_ (fun _ _ _=>?_)|(with_reducible apply Ok.bind;(exact R _ _ (Gb h (by assumption)) hl (by(first|trivial|assumption|contradiction|omega|solve_by_elim|(simp only[Bool.and_eq_true,Bool.or_eq_true,Bool.not_eq_true',Bool.and_eq_false_iff,Bool.or_eq_false_iff,decide_eq_true_eq,decide_eq_false_iff_not]at*;omega)|grind)) c);intro _ _)|with_reducible refine Ok.if ?_ ?_))<;>(first|trivial|assumption|contradiction|omega|grind|(simp only[Bd.c,Bd.vl,ByteArray.size_append,ByteArray.size_extract,AF]at*;grind))
  have u:∀m:Int,a≤40→ -1≤m→m≤2000→Ok (Sum.elim (fun y:Int=>-1≤y∧y≤2000) No) (Am (Sr v a (Fk b)) Aj (m,0)):=by
   intro m hl hm f
   refine Ok.loop (fun i:Int×Nat=>i.2≤v.pairs.length∧ -1≤i.1∧i.1≤2000) (fun i:Int×Nat=>v.pairs.length-i.2) ⟨by omega,by omega,by omega⟩ (AX (by omega)) fun i hi=>?_
   obtain⟨m,i⟩:=i
   obtain⟨d,e,c⟩:=hi
   dsimp only at d e c
   dsimp only[Sr,US,br,ix,vz,vw,vs,ln,Al,cs,wa,wi,Ah,br]
   (repeat' (first|with_reducible refine Ok.br (fun _=>?_) (fun _=>?_)|with_reducible refine Ok.pure ?_|with_reducible refine Ok.idx ?_ (fun _ _ _=>?_)|(with_reducible apply Ok.bind;(exact R _ _ (DJ h (by assumption)).1 hl (by(first|trivial|assumption|contradiction|omega|solve_by_elim|(simp only[Bool.and_eq_true,Bool.or_eq_true,Bool.not_eq_true',Bool.and_eq_false_iff,Bool.or_eq_false_iff,decide_eq_true_eq,decide_eq_false_iff_not]at*;omega)|grind)) c);intro _ _)|(with_reducible apply Ok.bind;(exact R _ _ (DJ h (by assumption)).2 hl (by(first|trivial|assumption|contradiction|omega|solve_by_elim|(simp only[Bool.and_eq_true,Bool.or_eq_true,Bool.not_eq_true',Bool.and_eq_false_iff,Bool.or_eq_false_iff,decide_eq_true_eq,decide_eq_false_iff_not]at*;omega)|grind)) (by(first|trivial|assumption|contradiction|omega|solve_by_elim|(simp only[Bool.and_eq_true,Bool.or_eq_true,Bool.not_eq_true',Bool.and_eq_false_iff,Bool.or_eq_false_iff,decide_eq_true_eq,decide_eq_false_iff_not]at*;omega)|grind)));intro _ _)|with_reducible refine Ok.if ?_ ?_))<;>(first|trivial|assumption|contradiction|omega|grind|(simp only[Bd.c,Bd.vl,ByteArray.size_append,ByteArray.size_extract,AF]at*;grind))
  have w:∀m:Int,a≤40→ -1≤m→m≤2000→Ok (Sum.elim (fun y:Int=>-1≤y∧y≤2000) No) (Am (Td v a (Fk b)) Aj (m,0)):=by
   intro m hl hm f
   refine Ok.loop (fun i:Int×Nat=>i.2≤v.slots.length∧ -1≤i.1∧i.1≤2000) (fun i:Int×Nat=>v.slots.length-i.2) ⟨by omega,by omega,by omega⟩ (AX (by omega)) fun i hi=>?_
   obtain⟨m,i⟩:=i
   obtain⟨d,e,c⟩:=hi
   dsimp only at d e c
   dsimp only[Td,Ui,br,ix,vz,vw,vs,ln,Al,cs,wa,wi,Ah,br]
   (repeat' (first|with_reducible refine Ok.br (fun _=>?_) (fun _=>?_)|with_reducible refine Ok.pure ?_|with_reducible refine Ok.idx ?_ (fun _ _ _=>?_)|(with_reducible apply Ok.bind;(exact R _ _ (ER h (by assumption)) hl (by(first|trivial|assumption|contradiction|omega|solve_by_elim|(simp only[Bool.and_eq_true,Bool.or_eq_true,Bool.not_eq_true',Bool.and_eq_false_iff,Bool.or_eq_false_iff,decide_eq_true_eq,decide_eq_false_iff_not]at*;omega)|grind)) c);intro _ _)|with_reducible refine Ok.if ?_ ?_))<;>(first|trivial|assumption|contradiction|omega|grind|(simp only[Bd.c,Bd.vl,ByteArray.size_append,ByteArray.size_extract,AF]at*;grind))
  show Ok _ (OR (Fk b) v a n)
  dsimp only[OR,iU,WU,W9,U1,Vu,V1,br,vz,vy,vw,vs,lr,lc,wi,Ah,A7,br]
  (repeat' (first|with_reducible refine Ok.br (fun _=>?_) (fun _=>?_)|with_reducible refine Ok.pure ?_|(with_reducible apply Ok.lb;(exact s);all_goals(intro _ _;try dsimp only))|(with_reducible apply Ok.lb;(exact t _ (by(first|trivial|assumption|contradiction|omega|solve_by_elim|(simp only[Bool.and_eq_true,Bool.or_eq_true,Bool.not_eq_true',Bool.and_eq_false_iff,Bool.or_eq_false_iff,decide_eq_true_eq,decide_eq_false_iff_not]at*;omega)|grind)) (by(first|trivial|assumption|contradiction|omega|solve_by_elim|(simp only[Bool.and_eq_true,Bool.or_eq_true,Bool.not_eq_true',Bool.and_eq_false_iff,Bool.or_eq_false_iff,decide_eq_true_eq,decide_eq_false_iff_not]at*;omega)|grind)) (by(first|trivial|assumption|contradiction|omega|solve_by_elim|(simp only[Bool.and_eq_true,Bool.or_eq_true,Bool.not_eq_true',Bool.and_eq_false_iff,Bool.or_eq_false_iff,decide_eq_true_eq,decide_eq_false_iff_not]at*;omega)|grind)));all_goals(intro _ _;try dsimp only))|(with_reducible apply Ok.lb;(exact u _ (by(first|trivial|assumption|contradiction|omega|solve_by_elim|(simp only[Bool.and_eq_true,Bool.or_eq_true,Bool.not_eq_true',Bool.and_eq_false_iff,Bool.or_eq_false_iff,decide_eq_true_eq,decide_eq_false_iff_not]at*;omega)|grind)) (by(first|trivial|assumption|contradiction|omega|solve_by_elim|(simp only[Bool.and_eq_true,Bool.or_eq_true,Bool.not_eq_true',Bool.and_eq_false_iff,Bool.or_eq_false_iff,decide_eq_true_eq,decide_eq_false_iff_not]at*;omega)|grind)) (by(first|trivial|assumption|contradiction|omega|solve_by_elim|(simp only[Bool.and_eq_true,Bool.or_eq_true,Bool.not_eq_true',Bool.and_eq_false_iff,Bool.or_eq_false_iff,decide_eq_true_eq,decide_eq_false_iff_not]at*;omega)|grind)));all_goals(intro _ _;try dsimp only))|(with_reducible apply Ok.lb;(exact w _ (by(first|trivial|assumption|contradiction|omega|solve_by_elim|(simp only[Bool.and_eq_true,Bool.or_eq_true,Bool.not_eq_true',Bool.and_eq_false_iff,Bool.or_eq_false_iff,decide_eq_true_eq,decide_eq_false_iff_not]at*;omega)|grind)) (by(first|trivial|assumption|contradiction|omega|solve_by_elim|(simp only[Bool.and_eq_true,Bool.or_eq_true,Bool.not_eq_true',Bool.and_eq_false_iff,Bool.or_eq_false_iff,decide_eq_true_eq,decide_eq_false_iff_not]at*;omega)|grind)) (by(first|trivial|assumption|contradiction|omega|solve_by_elim|(simp only[Bool.and_eq_true,Bool.or_eq_true,Bool.not_eq_true',Bool.and_eq_false_iff,Bool.or_eq_false_iff,decide_eq_true_eq,decide_eq_false_iff_not]at*;omega)|grind)));all_goals(intro _ _;try dsimp only))|with_reducible refine Ok.if ?_ ?_))<;>(first|trivial|assumption|contradiction|omega|grind|(simp only[Bd.c,Bd.vl,ByteArray.size_append,ByteArray.size_extract,AF]at*;grind))
theorem o6(v:Val)(h:A3 v):Ok Tr (ZQ v 2000):=by
 dsimp only[ZQ,Vk,vw,lr,cl]
 (repeat' (first|with_reducible refine Ok.br (fun _=>?_) (fun _=>?_)|with_reducible refine Ok.pure ?_|(with_reducible apply Ok.bind;(exact zr Aj _ _ _ h (by omega) (by unfold Aj;omega) (by omega) (by omega) (by omega));intro _ _)|with_reducible refine Ok.if ?_ ?_))<;>(first|trivial|assumption|contradiction|omega|grind|(simp only[Bd.c,Bd.vl,ByteArray.size_append,ByteArray.size_extract,AF]at*;grind))
theorem aw:tW=some true:=by kernel_rfl
end Go.Proofs.YtchkcemlglpobaaGreat
