import Derived.Test.YtleccgigifnfgaaGreatCy22
import Derived.Test.YtleccgigifnfgaaGreatCy21
import Derived.Test.YtleccgigifnfgaaGreatCy00
namespace Go.Proofs.YtleccgigifnfgaaGreat
set_option linter.all false
open Go Go.Eng
theorem Js(l:List ByteArray)(n:Int)(h:l.length≤1048576)(b:0≤n)(a:n≤400):Ok (fun y:Int=>0≤y∧y≤1048986∧(l.length≤10→(l.length:Int)≤y)) (bc l n):=by
 have q:Ok (Sum.elim Tr fun y:Int=>10≤y∧y≤410) (Ao (Te l n) Aj 0):=by
  refine Ok.loop (fun v:Nat=>v≤l.length) (fun v:Nat=>l.length-v) (by omega) (A3 (by omega)) fun v c=>?_
  dsimp only[Te,V5,br,ix,vz,vs,Au,ln,Ak,wa,wi,Ah,A2,br]
  (repeat' (first|with_reducible refine Ok.br (fun _=>?_) (fun _=>?_)|with_reducible refine Ok.pure ?_|with_reducible refine Ok.idx ?_ (fun _ _ _=>?_)|with_reducible refine Ok.if ?_ ?_))<;>(first|trivial|assumption|contradiction|omega|grind|(simp only[Bd.c,Bd.vl,Yf,Yd,AL]at*;grind))
 dsimp only[bc,VZ,Xi,XN,vz,lr,lc,Ah]
 (repeat' (first|with_reducible refine Ok.br (fun _=>?_) (fun _=>?_)|with_reducible refine Ok.pure ?_|(with_reducible apply Ok.lb;(exact q);all_goals(intro _ _;try dsimp only))|with_reducible refine Ok.if ?_ ?_))<;>(first|trivial|assumption|contradiction|omega|grind|(simp only[Bd.c,Bd.vl,Yf,Yd,AL]at*;grind))
theorem LA(l:List Nt)(n:Int)(h:FZ l)(e:0≤n)(c:n≤400):Ok (fun y:Int=>0≤y∧y≤1048986) (bd l n):=by
 obtain⟨d,b⟩:=h
 have g:∀x∈l,x.val.list.length≤1048576:=fun x a=>(b x a).v.l
 have i:∀x∈l,x.val.pairs.length≤1048576:=fun x a=>(b x a).v.p
 have j:∀x∈l,x.val.slots.length≤1048576:=fun x a=>(b x a).v.s
 have k:∀x∈l,x.val.raws.length≤1048576:=fun x a=>(b x a).v.r
 have q:Ok (Sum.elim Tr fun y:Int=>10≤y∧y≤410) (Ao (S4 l n) Aj 0):=by
  refine Ok.loop (fun v:Nat=>v≤l.length) (fun v:Nat=>l.length-v) (by omega) (A3 (by omega)) fun v f=>?_
  dsimp only[S4,V4,br,ix,vz,vy,vw,vs,vg,Au,ln,Ak,wa,wi,Ah,A2,br]
  (repeat' (first|with_reducible refine Ok.br (fun _=>?_) (fun _=>?_)|with_reducible refine Ok.pure ?_|with_reducible refine Ok.idx ?_ (fun _ _ _=>?_)|with_reducible refine Ok.if ?_ ?_))<;>(first|trivial|assumption|contradiction|omega|grind|(simp only[Bd.c,Bd.vl,Yf,Yd,AL]at*;grind))
 dsimp only[bd,W2,Wv,XG,vz,lr,lc,Ah]
 (repeat' (first|with_reducible refine Ok.br (fun _=>?_) (fun _=>?_)|with_reducible refine Ok.pure ?_|(with_reducible apply Ok.lb;(exact q);all_goals(intro _ _;try dsimp only))|with_reducible refine Ok.if ?_ ?_))<;>(first|trivial|assumption|contradiction|omega|grind|(simp only[Bd.c,Bd.vl,Yf,Yd,AL]at*;grind))
theorem o15(s:Scm)(h:SzS s):Ok (fun b=>b=true→Few s) (aW s):=by
 have u:=h.ml
 have z:=h.el
 have A:=h.wl
 have l:∀(v:Nat) (m:Msg) (n:Int),SzM m→ -10000000≤n→n≤400→Ok (Sum.elim (fun y:Int=>-10000000≤y∧y≤400) No) (Ao (S0 s v m) Aj (n,0)):=by
  intro w m n hm g f
  have j:=hm.fl
  refine Ok.loop (fun v:Int×Nat=>v.2≤m.fields.length∧ -10000000≤v.1∧v.1≤400) (fun v:Int×Nat=>m.fields.length-v.2) ⟨by omega,by omega,by omega⟩ (A3 (by omega)) fun v e=>?_
  obtain⟨n,v⟩:=v
  obtain⟨c,d,a⟩:=e
  dsimp only at c d a
  dsimp only[S0,XU,br,ix,vz,vw,vs,v2,ln,Ak,cl,wa,wi,Ah,A2,br]
  (repeat' (first|with_reducible refine Ok.br (fun _=>?_) (fun _=>?_)|with_reducible refine Ok.pure ?_|with_reducible refine Ok.idx ?_ (fun _ _ _=>?_)|(with_reducible apply Ok.bind;(exact LA _ _ (hm.f _ (by assumption)).o (by(first|trivial|assumption|contradiction|omega|solve_by_elim|(simp only[Ya,Yj,Yk,Yg,Ym,Ye,Yb]at*;omega)|grind)) a);intro _ _)|(with_reducible apply Ok.bind;(exact Js _ _ (by simp) (by(first|trivial|assumption|contradiction|omega|solve_by_elim|(simp only[Ya,Yj,Yk,Yg,Ym,Ye,Yb]at*;omega)|grind)) a);intro _ _)|with_reducible refine Ok.if ?_ ?_))<;>(first|trivial|assumption|contradiction|omega|grind|(simp only[Bd.c,Bd.vl,Yf,Yd,AL]at*;grind))
 have k:Ok (Sum.elim (fun y:Int=>-10000000≤y∧y≤400) No) (Ao (TZ s) Aj (400,0)):=by
  refine Ok.loop (fun v:Int×Nat=>v.2≤s.messages.length∧ -10000000≤v.1∧v.1≤400) (fun v:Int×Nat=>s.messages.length-v.2) ⟨by omega,by omega,by omega⟩ (A3 (by omega)) fun v e=>?_
  obtain⟨n,v⟩:=v
  obtain⟨c,d,a⟩:=e
  dsimp only at c d a
  dsimp only[TZ,X5,WZ,XC,br,ix,vz,vw,vs,v2,ln,Ak,lc,cl,wa,wi,Ah,br]
  have t:∀x∈s.messages,x.reserved.length≤1048576:=fun x i=>(h.m x i).r
  (repeat' (first|with_reducible refine Ok.br (fun _=>?_) (fun _=>?_)|with_reducible refine Ok.pure ?_|with_reducible refine Ok.idx ?_ (fun _ _ _=>?_)|(with_reducible apply Ok.lb;(exact l _ _ _ (h.m _ (by assumption)) (by(first|trivial|assumption|contradiction|omega|solve_by_elim|(simp only[Ya,Yj,Yk,Yg,Ym,Ye,Yb]at*;omega)|grind)) (by(first|trivial|assumption|contradiction|omega|solve_by_elim|(simp only[Ya,Yj,Yk,Yg,Ym,Ye,Yb]at*;omega)|grind)));all_goals(intro _ _;try dsimp only))|(with_reducible apply Ok.bind;(exact LA _ _ (h.m _ (by assumption)).o (by(first|trivial|assumption|contradiction|omega|solve_by_elim|(simp only[Ya,Yj,Yk,Yg,Ym,Ye,Yb]at*;omega)|grind)) a);intro _ _)|(with_reducible apply Ok.bind;(exact Js _ _ (h.m _ (by assumption)).gl (by(first|trivial|assumption|contradiction|omega|solve_by_elim|(simp only[Ya,Yj,Yk,Yg,Ym,Ye,Yb]at*;omega)|grind)) a);intro _ _)|(with_reducible apply Ok.bind;(exact Js _ _ (by simp) (by(first|trivial|assumption|contradiction|omega|solve_by_elim|(simp only[Ya,Yj,Yk,Yg,Ym,Ye,Yb]at*;omega)|grind)) a);intro _ _)|with_reducible refine Ok.if ?_ ?_))<;>(first|trivial|assumption|contradiction|omega|grind|(simp only[Bd.c,Bd.vl,Yf,Yd,AL]at*;grind))
 have p:∀(v:Nat) (m:Enm) (n:Int),SzE m→ -10000000≤n→n≤400→Ok (Sum.elim (fun y:Int=>-10000000≤y∧y≤400) No) (Ao (TO s v m) Aj (n,0)):=by
  intro w m n hm g f
  have j:=hm.il
  refine Ok.loop (fun v:Int×Nat=>v.2≤m.items.length∧ -10000000≤v.1∧v.1≤400) (fun v:Int×Nat=>m.items.length-v.2) ⟨by omega,by omega,by omega⟩ (A3 (by omega)) fun v e=>?_
  obtain⟨n,v⟩:=v
  obtain⟨c,d,a⟩:=e
  dsimp only at c d a
  dsimp only[TO,WR,br,ix,vz,vw,vs,ln,Ak,cl,wa,wi,Ah,br]
  (repeat' (first|with_reducible refine Ok.br (fun _=>?_) (fun _=>?_)|with_reducible refine Ok.pure ?_|with_reducible refine Ok.idx ?_ (fun _ _ _=>?_)|(with_reducible apply Ok.bind;(exact LA _ _ (hm.i _ (by assumption)).o (by(first|trivial|assumption|contradiction|omega|solve_by_elim|(simp only[Ya,Yj,Yk,Yg,Ym,Ye,Yb]at*;omega)|grind)) a);intro _ _)|(with_reducible apply Ok.bind;(exact Js _ _ (by simp) (by(first|trivial|assumption|contradiction|omega|solve_by_elim|(simp only[Ya,Yj,Yk,Yg,Ym,Ye,Yb]at*;omega)|grind)) a);intro _ _)|with_reducible refine Ok.if ?_ ?_))<;>(first|trivial|assumption|contradiction|omega|grind|(simp only[Bd.c,Bd.vl,Yf,Yd,AL]at*;grind))
 have o:∀n:Int,-10000000≤n→n≤400→Ok (Sum.elim (fun y:Int=>-10000000≤y∧y≤400) No) (Ao (Tm s) Aj (n,0)):=by
  intro n g f
  refine Ok.loop (fun v:Int×Nat=>v.2≤s.enums.length∧ -10000000≤v.1∧v.1≤400) (fun v:Int×Nat=>s.enums.length-v.2) ⟨by omega,by omega,by omega⟩ (A3 (by omega)) fun v e=>?_
  obtain⟨n,v⟩:=v
  obtain⟨c,d,a⟩:=e
  dsimp only at c d a
  dsimp only[Tm,X3,XO,WG,br,ix,vz,vw,vs,ln,Ak,lc,cl,wa,wi,Ah,br]
  have t:∀x∈s.enums,x.reserved.length≤1048576:=fun x i=>(h.e x i).r
  (repeat' (first|with_reducible refine Ok.br (fun _=>?_) (fun _=>?_)|with_reducible refine Ok.pure ?_|with_reducible refine Ok.idx ?_ (fun _ _ _=>?_)|(with_reducible apply Ok.lb;(exact p _ _ _ (h.e _ (by assumption)) (by(first|trivial|assumption|contradiction|omega|solve_by_elim|(simp only[Ya,Yj,Yk,Yg,Ym,Ye,Yb]at*;omega)|grind)) (by(first|trivial|assumption|contradiction|omega|solve_by_elim|(simp only[Ya,Yj,Yk,Yg,Ym,Ye,Yb]at*;omega)|grind)));all_goals(intro _ _;try dsimp only))|(with_reducible apply Ok.bind;(exact LA _ _ (h.e _ (by assumption)).o (by(first|trivial|assumption|contradiction|omega|solve_by_elim|(simp only[Ya,Yj,Yk,Yg,Ym,Ye,Yb]at*;omega)|grind)) a);intro _ _)|(with_reducible apply Ok.bind;(exact Js _ _ (by simp) (by(first|trivial|assumption|contradiction|omega|solve_by_elim|(simp only[Ya,Yj,Yk,Yg,Ym,Ye,Yb]at*;omega)|grind)) a);intro _ _)|with_reducible refine Ok.if ?_ ?_))<;>(first|trivial|assumption|contradiction|omega|grind|(simp only[Bd.c,Bd.vl,Yf,Yd,AL]at*;grind))
 have r:∀(v:Nat) (m:Svc) (n:Int),SzW m→ -10000000≤n→n≤400→Ok (Sum.elim (fun y:Int=>-10000000≤y∧y≤400) No) (Ao (SO s v m) Aj (n,0)):=by
  intro w m n hm g f
  have j:=hm.ml
  refine Ok.loop (fun v:Int×Nat=>v.2≤m.methods.length∧ -10000000≤v.1∧v.1≤400) (fun v:Int×Nat=>m.methods.length-v.2) ⟨by omega,by omega,by omega⟩ (A3 (by omega)) fun v e=>?_
  obtain⟨n,v⟩:=v
  obtain⟨c,d,a⟩:=e
  dsimp only at c d a
  dsimp only[SO,XR,br,ix,vz,vw,vs,ln,Ak,cl,wa,wi,Ah,br]
  (repeat' (first|with_reducible refine Ok.br (fun _=>?_) (fun _=>?_)|with_reducible refine Ok.pure ?_|with_reducible refine Ok.idx ?_ (fun _ _ _=>?_)|(with_reducible apply Ok.bind;(exact LA _ _ (hm.m _ (by assumption)).o (by(first|trivial|assumption|contradiction|omega|solve_by_elim|(simp only[Ya,Yj,Yk,Yg,Ym,Ye,Yb]at*;omega)|grind)) a);intro _ _)|(with_reducible apply Ok.bind;(exact Js _ _ (by simp) (by(first|trivial|assumption|contradiction|omega|solve_by_elim|(simp only[Ya,Yj,Yk,Yg,Ym,Ye,Yb]at*;omega)|grind)) a);intro _ _)|with_reducible refine Ok.if ?_ ?_))<;>(first|trivial|assumption|contradiction|omega|grind|(simp only[Bd.c,Bd.vl,Yf,Yd,AL]at*;grind))
 have q:∀n:Int,-10000000≤n→n≤400→Ok (Sum.elim (fun y:Int=>-10000000≤y∧y≤400) No) (Ao (TD s) Aj (n,0)):=by
  intro n g f
  refine Ok.loop (fun v:Int×Nat=>v.2≤s.services.length∧ -10000000≤v.1∧v.1≤400) (fun v:Int×Nat=>s.services.length-v.2) ⟨by omega,by omega,by omega⟩ (A3 (by omega)) fun v e=>?_
  obtain⟨n,v⟩:=v
  obtain⟨c,d,a⟩:=e
  dsimp only at c d a
  dsimp only[TD,jl,eH,kJ,br,ix,vz,vw,vs,ln,Ak,lc,cl,wa,wi,Ah,br]
  (repeat' (first|with_reducible refine Ok.br (fun _=>?_) (fun _=>?_)|with_reducible refine Ok.pure ?_|with_reducible refine Ok.idx ?_ (fun _ _ _=>?_)|(with_reducible apply Ok.lb;(exact r _ _ _ (h.w _ (by assumption)) (by(first|trivial|assumption|contradiction|omega|solve_by_elim|(simp only[Ya,Yj,Yk,Yg,Ym,Ye,Yb]at*;omega)|grind)) (by(first|trivial|assumption|contradiction|omega|solve_by_elim|(simp only[Ya,Yj,Yk,Yg,Ym,Ye,Yb]at*;omega)|grind)));all_goals(intro _ _;try dsimp only))|(with_reducible apply Ok.bind;(exact LA _ _ (h.w _ (by assumption)).o (by(first|trivial|assumption|contradiction|omega|solve_by_elim|(simp only[Ya,Yj,Yk,Yg,Ym,Ye,Yb]at*;omega)|grind)) a);intro _ _)|(with_reducible apply Ok.bind;(exact Js _ _ (by simp) (by(first|trivial|assumption|contradiction|omega|solve_by_elim|(simp only[Ya,Yj,Yk,Yg,Ym,Ye,Yb]at*;omega)|grind)) a);intro _ _)|with_reducible refine Ok.if ?_ ?_))<;>(first|trivial|assumption|contradiction|omega|grind|(simp only[Bd.c,Bd.vl,Yf,Yd,AL]at*;grind))
 dsimp only[aW,i7,fs,fb,gK,fR,br,vz,vy,vw,vg,lr,lc,wa,Ah,br]
 (repeat' (first|with_reducible refine Ok.br (fun _=>?_) (fun _=>?_)|with_reducible refine Ok.pure ?_|(with_reducible apply Ok.lb;(exact k);all_goals(intro _ _;try dsimp only))|(with_reducible apply Ok.lb;(exact o _ (by(first|trivial|assumption|contradiction|omega|solve_by_elim|(simp only[Ya,Yj,Yk,Yg,Ym,Ye,Yb]at*;omega)|grind)) (by(first|trivial|assumption|contradiction|omega|solve_by_elim|(simp only[Ya,Yj,Yk,Yg,Ym,Ye,Yb]at*;omega)|grind)));all_goals(intro _ _;try dsimp only))|(with_reducible apply Ok.lb;(exact q _ (by(first|trivial|assumption|contradiction|omega|solve_by_elim|(simp only[Ya,Yj,Yk,Yg,Ym,Ye,Yb]at*;omega)|grind)) (by(first|trivial|assumption|contradiction|omega|solve_by_elim|(simp only[Ya,Yj,Yk,Yg,Ym,Ye,Yb]at*;omega)|grind)));all_goals(intro _ _;try dsimp only))|with_reducible refine Ok.if ?_ ?_))<;>first|(first|trivial|assumption|contradiction|omega|grind|(simp only[Bd.c,Bd.vl,Yf,Yd,AL]at*;grind))|exact fun _=>⟨by(first|trivial|assumption|contradiction|omega|solve_by_elim|(simp only[Ya,Yj,Yk,Yg,Ym,Ye,Yb]at*;omega)|grind),by(first|trivial|assumption|contradiction|omega|solve_by_elim|(simp only[Ya,Yj,Yk,Yg,Ym,Ye,Yb]at*;omega)|grind),by(first|trivial|assumption|contradiction|omega|solve_by_elim|(simp only[Ya,Yj,Yk,Yg,Ym,Ye,Yb]at*;omega)|grind)⟩
end Go.Proofs.YtleccgigifnfgaaGreat
namespace Go.Proofs.YtleccgigifnfgaaGreat
set_option linter.all false
open Go Go.Eng
abbrev A6(v:Val):Prop:=AA (Ai v)≤1048576
theorem N0{v x:Val}(h:A6 v)(b:x∈v.list):A6 x:=by
 have a:=CT (e:=Ap) b
 rw[Gu]at a
 unfold A6 at*
 conv at h=>unfold Ai
 simp only[AA,bk]at h
 omega
theorem HH{v:Val}{x:Pr}(h:A6 v)(b:x∈v.pairs):A6 x.key∧A6 x.val:=by
 have a:=CT (e:=Aq) b
 have e:Aq x=Ai x.key++Ai x.val:=by rw[KY];rfl
 rw[e,Nz]at a
 unfold A6 at*
 conv at h=>unfold Ai
 simp only[AA,bk]at h
 omega
theorem N3{v:Val}{x:Slt}(h:A6 v)(b:x∈v.slots):A6 x.val:=by
 have a:=CT (e:=Ag) b
 have e:Ag x=D.int .i64 x.num::Ai x.val:=by rw[Hy];rfl
 rw[e,AA]at a
 unfold A6 at*
 conv at h=>unfold Ai
 simp only[AA,bk]at h
 omega
theorem Rv{α:Type}(p:α→Bool):∀l:List α,l.find? p=(l.findIdx? p).bind fun i=>l[i]?
 |[]=>rfl
 |x::l=>by
  rw[List.find?_cons,List.findIdx?_cons]
  cases h:p x with
  |true=>simp
  |false=>
   rw[Rv p l]
   cases List.findIdx? p l<;>simp
def B4{α:Type}[Inhabited α](l:List α)(z:α)(p:α→Bool):α×Bool:=(l.find? p).elim (z,false) fun x=>(x,true)
theorem Ni{α:Type}[Inhabited α](l:List α)(z:α)(p:α→Bool):B4 l z p=match l.findIdx? p with|some i=>(l.getD i default,true)|none=>(z,false):=by
 unfold B4
 rw[Rv]
 cases h:l.findIdx? p with
 |none=>rfl
 |some i=>
  have:=(JE.1 h).1
  simp[this]
def zM:Msg:=.mk ⟨#[]⟩ [] [] [] []
def zF:Fld:=.mk 0 ⟨#[]⟩ 0 0 (.mk 0 ⟨#[]⟩) ⟨#[]⟩ false (.mk 0 0 ⟨#[]⟩ [] [] [] []) []
theorem m32(s:Scm)(n:ByteArray)(h:s.messages.length≤1048576):QA s n=some (B4 s.messages zM fun m=>decide (m.name=n)):=by
 have d:=EF (B:=N2 s n) (N:=Aj) s.messages (fun m=>decide (m.name=n)) (fun i=>(s.messages.getD i default,true)) () (fun i x a=>by
  have b:=B6 a
  have e:=(Yn.1 a).1
  have c:i+1<9223372036854775808:=by omega
  dsimp only[N2,Tb,br,ix,vz,vw,vs,Au,ln,Ak,wa,Ah,br]
  simp only[b,c,a,YE,YJ,Yi,YG,YQ]
  cases decide (x.name=n)<;>simp) (by simp[N2,Tb,br,ix,vz,vw,vs,Au,ln,Ak,wa,Ah,br]) (BB (by omega))
 dsimp only[QA,Vr,Vk,Wm,vw,lr,lc]
 rw[d,Ni]
 cases s.messages.findIdx? fun m=>decide (m.name=n)<;>rfl
theorem m84(l:List Msg)(n:ByteArray)(h:l.length≤1048576):QF l (fun z=>Kn z n)=some (B4 l zM fun m=>decide (m.name=n)):=by
 have d:=EF (B:=NF l fun z=>Kn z n) (N:=Aj) l (fun m=>decide (m.name=n)) (fun i=>(l.getD i default,true)) () (fun i x a=>by
  have b:=B6 a
  have f:=(Yn.1 a).1
  have c:i+1<9223372036854775808:=by omega
  have e:Kn x n=some (decide (x.name=n)):=rfl
  dsimp only[NF,Sg,br,ix,vw,vs,Au,ln,Ak,cf,wa,br]
  simp only[b,c,a,e,YE,YJ,Yi,YG,YQ]
  cases decide (x.name=n)<;>simp) (by simp[NF,Sg,br,ix,vw,vs,Au,ln,Ak,cf,wa,br]) (BB (by omega))
 dsimp only[QF,gn,iM,iB,vz,vw,lr,lc,Ah]
 rw[d,Ni]
 cases l.findIdx? fun m=>decide (m.name=n)<;>rfl
theorem eb{s:Scm}(h:SzS s)(n:ByteArray):(B4 s.messages zM fun m=>decide (m.name=n)).1.fields.length≤1048576:=by
 unfold B4
 cases e:s.messages.find? fun m=>decide (m.name=n)with
 |none=>simp[zM]
 |some m=>exact(h.m _ (Il e)).fl
theorem qh{v x:Val}(b:x∈v.list):AA (Ai x)<AA (Ai v):=by
 have a:=CT (e:=Ap) b
 rw[Gu]at a
 conv=>rhs;unfold Ai
 simp only[AA,bk]
 omega
theorem Xc{v:Val}{x:Pr}(c:x∈v.pairs):AA (Ai x.key)<AA (Ai v)∧AA (Ai x.val)<AA (Ai v):=by
 have b:=CT (e:=Aq) c
 have e:Aq x=Ai x.key++Ai x.val:=by rw[KY];rfl
 rw[e,Nz]at b
 have a:AA (Ai v)=AA [.int .i64 v.kind,.int .u64 v.bits,.str v.text,.list (v.list.map Ap),.list (v.pairs.map Aq),.list (v.slots.map Ag),.list (v.raws.map As)]:=rfl
 rw[a]
 simp only[AA,bk]
 omega
theorem qo{v:Val}{x:Slt}(c:x∈v.slots):AA (Ai x.val)<AA (Ai v):=by
 have a:=CT (e:=Ag) c
 have e:Ag x=D.int .i64 x.num::Ai x.val:=by rw[Hy];rfl
 rw[e,AA]at a
 have b:AA (Ai v)=AA [.int .i64 v.kind,.int .u64 v.bits,.str v.text,.list (v.list.map Ap),.list (v.pairs.map Aq),.list (v.slots.map Ag),.list (v.raws.map As)]:=rfl
 rw[b]
 simp only[AA,bk]at a⊢
 omega
theorem Hd{α:Type}{l:List α}{i:Nat}(z:α)(h:i<l.length):l[i]?=some (l.getD ((i:Int)).toNat z):=by
 rw[Ff,YG,Yh h]
 rfl
theorem Lz:∀(a:Nat) (v:Val),AA (Ai v)<a→A6 v→Ok (fun b=>b=true) (Dz a v v)
 |0,v,h,_=>by omega
 |a+1,v,h,k=>by
  obtain⟨s1,s2,n,o,p⟩:=CS k
  have f:∀(i:Nat) (x y:Val),v.list[i]?=some x→v.list[i]?=some y→Ok (fun b=>b=true) (Dz a x y):=fun i x y c hy=>by
   rw[c]at hy
   cases hy
   have hm:=Yu c
   exact Lz a x (by have:=qh hm;omega) (N0 k hm)
  have d:∀(i:Nat) (x y:Pr),v.pairs[i]?=some x→v.pairs[i]?=some y→Ok (fun b=>b=true) (Dz a x.key y.key)∧Ok (fun b=>b=true) (Dz a x.val y.val):=fun i x y c hy=>by
   rw[c]at hy
   cases hy
   have hm:=Yu c
   exact⟨Lz a _ (by have:=(Xc hm).1;omega) (HH k hm).1,Lz a _ (by have:=(Xc hm).2;omega) (HH k hm).2⟩
  have e:∀(i:Nat) (x y:Slt),v.slots[i]?=some x→v.slots[i]?=some y→Ok (fun b=>b=true) (Dz a x.val y.val):=fun i x y c hy=>by
   rw[c]at hy
   cases hy
   have hm:=Yu c
   exact Lz a _ (by have:=qo hm;omega) (N3 k hm)
  have g:Ok (Sum.elim Tr No) (Ao (SY v v (Dz a)) Aj 0):=by
   refine Ok.loop (fun i:Nat=>i≤v.list.length) (fun i:Nat=>v.list.length-i) (by omega) (A3 (by omega)) fun i hi=>?_
   dsimp only[SY,Ws,br,ix,vz,vw,vs,Au,ln,Ak,cs,wa,Ah,br]
   (repeat' (first|with_reducible refine Ok.br (fun _=>?_) (fun _=>?_)|with_reducible refine Ok.pure ?_|with_reducible refine Ok.idx ?_ (fun _ _ _=>?_)|(with_reducible apply Ok.bind;(exact f i _ _ (by assumption) (by assumption));intro _ _)|with_reducible refine Ok.if ?_ ?_))<;>(first|trivial|assumption|contradiction|omega|grind|(simp only[Bd.c,Bd.vl,Yf,Yd,AL]at*;grind))
  have j:Ok (Sum.elim Tr No) (Ao (T4 v v (Dz a)) Aj 0):=by
   refine Ok.loop (fun i:Nat=>i≤v.pairs.length) (fun i:Nat=>v.pairs.length-i) (by omega) (A3 (by omega)) fun i hi=>?_
   dsimp only[T4,Xb,br,ix,A9,vz,vw,vs,Au,ln,Ak,cs,Dt,wa,Ah,br]
   (repeat' (first|with_reducible refine Ok.br (fun _=>?_) (fun _=>?_)|with_reducible refine Ok.pure ?_|with_reducible refine Ok.idx ?_ (fun _ _ _=>?_)|(with_reducible apply Ok.bind;(exact(d i _ _ (by assumption) (by assumption)).1);intro _ _)|(with_reducible apply Ok.bind;(exact(d i _ _ (Hd _ (by(first|trivial|assumption|contradiction|omega|solve_by_elim|(simp only[Ya,Yj,Yk,Yg,Ym,Ye,Yb]at*;omega)|grind))) (Hd _ (by(first|trivial|assumption|contradiction|omega|solve_by_elim|(simp only[Ya,Yj,Yk,Yg,Ym,Ye,Yb]at*;omega)|grind)))).2);intro _ _)|(with_reducible apply Ok.clg;(exact fun _=>(d i _ _ (by assumption) (by assumption)).1);intro _)|(with_reducible apply Ok.clg;(exact fun _=>(d i _ _ (Hd _ (by(first|trivial|assumption|contradiction|omega|solve_by_elim|(simp only[Ya,Yj,Yk,Yg,Ym,Ye,Yb]at*;omega)|grind))) (Hd _ (by(first|trivial|assumption|contradiction|omega|solve_by_elim|(simp only[Ya,Yj,Yk,Yg,Ym,Ye,Yb]at*;omega)|grind)))).2);intro _)|with_reducible refine Ok.idxg ?_ (fun _=>?_)|with_reducible refine Ok.if ?_ ?_))<;>(first|trivial|assumption|contradiction|omega|grind|(simp only[Bd.c,Bd.vl,Yf,Yd,AL]at*;grind))
  have l:Ok (Sum.elim Tr No) (Ao (SV v v (Dz a)) Aj 0):=by
   refine Ok.loop (fun i:Nat=>i≤v.slots.length) (fun i:Nat=>v.slots.length-i) (by omega) (A3 (by omega)) fun i hi=>?_
   dsimp only[SV,Xd,br,ix,A9,vz,vw,vs,Au,ln,Ak,Dt,wa,Ah,br]
   (repeat' (first|with_reducible refine Ok.br (fun _=>?_) (fun _=>?_)|with_reducible refine Ok.pure ?_|with_reducible refine Ok.idx ?_ (fun _ _ _=>?_)|(with_reducible apply Ok.bind;(exact e i _ _ (Hd _ (by(first|trivial|assumption|contradiction|omega|solve_by_elim|(simp only[Ya,Yj,Yk,Yg,Ym,Ye,Yb]at*;omega)|grind))) (Hd _ (by(first|trivial|assumption|contradiction|omega|solve_by_elim|(simp only[Ya,Yj,Yk,Yg,Ym,Ye,Yb]at*;omega)|grind))));intro _ _)|(with_reducible apply Ok.clg;(exact fun _=>e i _ _ (Hd _ (by(first|trivial|assumption|contradiction|omega|solve_by_elim|(simp only[Ya,Yj,Yk,Yg,Ym,Ye,Yb]at*;omega)|grind))) (Hd _ (by(first|trivial|assumption|contradiction|omega|solve_by_elim|(simp only[Ya,Yj,Yk,Yg,Ym,Ye,Yb]at*;omega)|grind))));intro _)|with_reducible refine Ok.idxg ?_ (fun _=>?_)|with_reducible refine Ok.if ?_ ?_))<;>(first|trivial|assumption|contradiction|omega|grind|(simp only[Bd.c,Bd.vl,Yf,Yd,AL]at*;grind))
  have m:Ok (Sum.elim Tr No) (Ao (Tq v v (Dz a)) Aj 0):=by
   refine Ok.loop (fun i:Nat=>i≤v.raws.length) (fun i:Nat=>v.raws.length-i) (by omega) (A3 (by omega)) fun i hi=>?_
   dsimp only[Tq,VK,br,ix,vz,vw,vs,Au,ln,Ak,wa,Ah,br]
   (repeat' (first|with_reducible refine Ok.br (fun _=>?_) (fun _=>?_)|with_reducible refine Ok.pure ?_|with_reducible refine Ok.idx ?_ (fun _ _ _=>?_)|with_reducible refine Ok.if ?_ ?_))<;>(first|trivial|assumption|contradiction|omega|grind|(simp only[Bd.c,Bd.vl,Yf,Yd,AL]at*;grind))
  show Ok _ (PG (Dz a) v v)
  dsimp only[PG,fV,Wi,X9,Xz,WV,Ze,br,vy,vw,lr,lc,Ah,br]
  (repeat' (first|with_reducible refine Ok.br (fun _=>?_) (fun _=>?_)|with_reducible refine Ok.pure ?_|(with_reducible apply Ok.lb;(exact g);all_goals(intro _ _;try dsimp only))|(with_reducible apply Ok.lb;(exact j);all_goals(intro _ _;try dsimp only))|(with_reducible apply Ok.lb;(exact l);all_goals(intro _ _;try dsimp only))|(with_reducible apply Ok.lb;(exact m);all_goals(intro _ _;try dsimp only))|with_reducible refine Ok.if ?_ ?_))<;>first|rfl|contradiction|(simp at*;done)
theorem zY:∀(b:Nat) (v:Val) (a n:Int),A6 v→1≤a→42-a<b→a≤41→0≤n→n≤2000→Ok (fun y:Int=>-1≤y∧y≤2000) (FM b v a n)
 |0,v,a,n,h,j,k,l,o,p=>by omega
 |b+1,v,a,n,h,j,k,l,o,p=>by
  obtain⟨s1,s2,z,A,B⟩:=CS h
  have R:∀(x:Val) (n:Int),A6 x→a≤40→0≤n→n≤2000→Ok (fun y:Int=>-1≤y∧y≤2000) (FM b x (a+1) n):=fun x n r hl q g=>zY b x (a+1) n r (by omega) (by omega) (by omega) q g
  have s:Ok (Sum.elim Tr (fun y:Int=>y= -1)) (Ao (TV v a n (FM b)) Aj 0):=by
   refine Ok.loop (fun i:Nat=>i≤v.raws.length) (fun i:Nat=>v.raws.length-i) (by omega) (A3 (by omega)) fun i hi=>?_
   dsimp only[TV,W8,br,ix,vz,vw,vs,Au,ln,Ak,wa,Ah,A2,br]
   (repeat' (first|with_reducible refine Ok.br (fun _=>?_) (fun _=>?_)|with_reducible refine Ok.pure ?_|with_reducible refine Ok.idx ?_ (fun _ _ _=>?_)|with_reducible refine Ok.if ?_ ?_))<;>(first|trivial|assumption|contradiction|omega|grind|(simp only[Bd.c,Bd.vl,Yf,Yd,AL]at*;grind))
  have t:∀m:Int,a≤40→ -1≤m→m≤2000→Ok (Sum.elim (fun y:Int=>-1≤y∧y≤2000) No) (Ao (TK v a (FM b)) Aj (m,0)):=by
   intro m hl hm f
   refine Ok.loop (fun i:Int×Nat=>i.2≤v.list.length∧ -1≤i.1∧i.1≤2000) (fun i:Int×Nat=>v.list.length-i.2) ⟨by omega,by omega,by omega⟩ (A3 (by omega)) fun i hi=>?_
   obtain⟨m,i⟩:=i
   obtain⟨d,e,c⟩:=hi
   dsimp only at d e c
   dsimp only[TK,Xk,br,ix,vz,vw,vs,ln,Ak,cs,wa,wi,Ah,br]
   (repeat' (first|with_reducible refine Ok.br (fun _=>?_) (fun _=>?_)|with_reducible refine Ok.pure ?_|with_reducible refine Ok.idx ?_ (fun _ _ _=>?_)|(with_reducible apply Ok.bind;(exact R _ _ (N0 h (by assumption)) hl (by(first|trivial|assumption|contradiction|omega|solve_by_elim|(simp only[Ya,Yj,Yk,Yg,Ym,Ye,Yb]at*;omega)|grind)) c);intro _ _)|with_reducible refine Ok.if ?_ ?_))<;>(first|trivial|assumption|contradiction|omega|grind|(simp only[Bd.c,Bd.vl,Yf,Yd,AL]at*;grind))
  have u:∀m:Int,a≤40→ -1≤m→m≤2000→Ok (Sum.elim (fun y:Int=>-1≤y∧y≤2000) No) (Ao (Tn v a (FM b)) Aj (m,0)):=by
   intro m hl hm f
   refine Ok.loop (fun i:Int×Nat=>i.2≤v.pairs.length∧ -1≤i.1∧i.1≤2000) (fun i:Int×Nat=>v.pairs.length-i.2) ⟨by omega,by omega,by omega⟩ (A3 (by omega)) fun i hi=>?_
   obtain⟨m,i⟩:=i
   obtain⟨d,e,c⟩:=hi
   dsimp only at d e c
   dsimp only[Tn,Wb,br,ix,vz,vw,vs,ln,Ak,cs,wa,wi,Ah,br]
   (repeat' (first|with_reducible refine Ok.br (fun _=>?_) (fun _=>?_)|with_reducible refine Ok.pure ?_|with_reducible refine Ok.idx ?_ (fun _ _ _=>?_)|(with_reducible apply Ok.bind;(exact R _ _ (HH h (by assumption)).1 hl (by(first|trivial|assumption|contradiction|omega|solve_by_elim|(simp only[Ya,Yj,Yk,Yg,Ym,Ye,Yb]at*;omega)|grind)) c);intro _ _)|(with_reducible apply Ok.bind;(exact R _ _ (HH h (by assumption)).2 hl (by(first|trivial|assumption|contradiction|omega|solve_by_elim|(simp only[Ya,Yj,Yk,Yg,Ym,Ye,Yb]at*;omega)|grind)) (by(first|trivial|assumption|contradiction|omega|solve_by_elim|(simp only[Ya,Yj,Yk,Yg,Ym,Ye,Yb]at*;omega)|grind)));intro _ _)|with_reducible refine Ok.if ?_ ?_))<;>(first|trivial|assumption|contradiction|omega|grind|(simp only[Bd.c,Bd.vl,Yf,Yd,AL]at*;grind))
  have w:∀m:Int,a≤40→ -1≤m→m≤2000→Ok (Sum.elim (fun y:Int=>-1≤y∧y≤2000) No) (Ao (SQ v a (FM b)) Aj (m,0)):=by
   intro m hl hm f
   refine Ok.loop (fun i:Int×Nat=>i.2≤v.slots.length∧ -1≤i.1∧i.1≤2000) (fun i:Int×Nat=>v.slots.length-i.2) ⟨by omega,by omega,by omega⟩ (A3 (by omega)) fun i hi=>?_
   obtain⟨m,i⟩:=i
   obtain⟨d,e,c⟩:=hi
   dsimp only at d e c
   dsimp only[SQ,XQ,br,ix,vz,vw,vs,ln,Ak,cs,wa,wi,Ah,br]
   (repeat' (first|with_reducible refine Ok.br (fun _=>?_) (fun _=>?_)|with_reducible refine Ok.pure ?_|with_reducible refine Ok.idx ?_ (fun _ _ _=>?_)|(with_reducible apply Ok.bind;(exact R _ _ (N3 h (by assumption)) hl (by(first|trivial|assumption|contradiction|omega|solve_by_elim|(simp only[Ya,Yj,Yk,Yg,Ym,Ye,Yb]at*;omega)|grind)) c);intro _ _)|with_reducible refine Ok.if ?_ ?_))<;>(first|trivial|assumption|contradiction|omega|grind|(simp only[Bd.c,Bd.vl,Yf,Yd,AL]at*;grind))
  show Ok _ (Qq (FM b) v a n)
  dsimp only[Qq,jP,Xw,Vo,Xo,XX,XL,br,vz,vy,vw,vs,lr,lc,wi,Ah,A2,br]
  (repeat' (first|with_reducible refine Ok.br (fun _=>?_) (fun _=>?_)|with_reducible refine Ok.pure ?_|(with_reducible apply Ok.lb;(exact s);all_goals(intro _ _;try dsimp only))|(with_reducible apply Ok.lb;(exact t _ (by(first|trivial|assumption|contradiction|omega|solve_by_elim|(simp only[Ya,Yj,Yk,Yg,Ym,Ye,Yb]at*;omega)|grind)) (by(first|trivial|assumption|contradiction|omega|solve_by_elim|(simp only[Ya,Yj,Yk,Yg,Ym,Ye,Yb]at*;omega)|grind)) (by(first|trivial|assumption|contradiction|omega|solve_by_elim|(simp only[Ya,Yj,Yk,Yg,Ym,Ye,Yb]at*;omega)|grind)));all_goals(intro _ _;try dsimp only))|(with_reducible apply Ok.lb;(exact u _ (by(first|trivial|assumption|contradiction|omega|solve_by_elim|(simp only[Ya,Yj,Yk,Yg,Ym,Ye,Yb]at*;omega)|grind)) (by(first|trivial|assumption|contradiction|omega|solve_by_elim|(simp only[Ya,Yj,Yk,Yg,Ym,Ye,Yb]at*;omega)|grind)) (by(first|trivial|assumption|contradiction|omega|solve_by_elim|(simp only[Ya,Yj,Yk,Yg,Ym,Ye,Yb]at*;omega)|grind)));all_goals(intro _ _;try dsimp only))|(with_reducible apply Ok.lb;(exact w _ (by(first|trivial|assumption|contradiction|omega|solve_by_elim|(simp only[Ya,Yj,Yk,Yg,Ym,Ye,Yb]at*;omega)|grind)) (by(first|trivial|assumption|contradiction|omega|solve_by_elim|(simp only[Ya,Yj,Yk,Yg,Ym,Ye,Yb]at*;omega)|grind)) (by(first|trivial|assumption|contradiction|omega|solve_by_elim|(simp only[Ya,Yj,Yk,Yg,Ym,Ye,Yb]at*;omega)|grind)));all_goals(intro _ _;try dsimp only))|with_reducible refine Ok.if ?_ ?_))<;>(first|trivial|assumption|contradiction|omega|grind|(simp only[Bd.c,Bd.vl,Yf,Yd,AL]at*;grind))
theorem o6(v:Val)(h:A6 v):Ok Tr (bH v 2000):=by
 dsimp only[bH,Zp,vw,lr,cl]
 (repeat' (first|with_reducible refine Ok.br (fun _=>?_) (fun _=>?_)|with_reducible refine Ok.pure ?_|(with_reducible apply Ok.bind;(exact zY Aj _ _ _ h (by omega) (by unfold Aj;omega) (by omega) (by omega) (by omega));intro _ _)|with_reducible refine Ok.if ?_ ?_))<;>(first|trivial|assumption|contradiction|omega|grind|(simp only[Bd.c,Bd.vl,Yf,Yd,AL]at*;grind))
theorem aw:uz=some true:=by kernel_rfl
def BN(F:List Fld)(k:Int):Fld×Bool:=B4 F zF fun f=>decide (f.num=k)
def A5(F:List Fld)(k:Int):Fld:=(BN F k).1
def AJ(s:Scm)(n:ByteArray):List Fld:=(B4 s.messages zM fun m=>decide (m.name=n)).1.fields
theorem k9(s:Scm)(n:ByteArray)(h:s.messages.length≤1048576):M0 s n=some (B4 s.messages zM fun m=>decide (m.name=n)):=by
 dsimp only[M0,Vi,vw,lr,cs]
 rw[m84 _ _ h]
 rfl
theorem zT(s:Scm)(n:ByteArray)(h:s.messages.length≤1048576):QJ s n=some (.mk (B4 s.messages zM fun m=>decide (m.name=n)).1 s,(B4 s.messages zM fun m=>decide (m.name=n)).2):=by
 dsimp only[QJ,Xj,vw,lr,cl]
 rw[k9 _ _ h]
 rfl
theorem n74(l:List Fld)(k:Int)(h:l.length≤1048576):QS l (fun z=>Kl z k)=some (BN l k):=by
 have d:=EF (B:=NU l fun z=>Kl z k) (N:=Aj) l (fun f=>decide (f.num=k)) (fun i=>(l.getD i default,true)) () (fun i x a=>by
  have b:=B6 a
  have g:=(Yn.1 a).1
  have c:i+1<9223372036854775808:=by omega
  have e:Kl x k=some (decide (x.num=k)):=rfl
  dsimp only[NU,Ta,br,ix,vw,vs,Au,ln,Ak,cf,wa,br]
  simp only[b,c,a,e,YE,YJ,Yi,YG,YQ]
  cases decide (x.num=k)<;>simp) (by simp[NU,Ta,br,ix,vw,vs,Au,ln,Ak,cf,wa,br]) (BB (by omega))
 dsimp only[QS,Va,Wo,X2,vz,vw,lr,lc,Ah]
 unfold BN
 rw[d,Ni]
 cases l.findIdx? fun m=>decide (m.num=k)<;>rfl
theorem Oq(m:Msg)(k:Int)(h:m.fields.length≤1048576):cN m k=some (BN m.fields k):=by
 dsimp only[cN,XH,vw,lr,cs]
 rw[n74 _ _ h]
 rfl
theorem n35(m:Msg)(k:Int)(h:m.fields.length≤1048576):Qy m k=some (BN m.fields k):=by
 have d:=EF (B:=Of m k) (N:=Aj) m.fields (fun f=>decide (f.num=k)) (fun i=>(m.fields.getD i default,true)) () (fun i x a=>by
  have b:=B6 a
  have e:=(Yn.1 a).1
  have c:i+1<9223372036854775808:=by omega
  dsimp only[Of,TY,br,ix,vz,vw,vs,Au,ln,Ak,wa,Ah,br]
  simp only[b,c,a,YE,YJ,Yi,YG,YQ]
  cases decide (x.num=k)<;>simp) (by simp[Of,TY,br,ix,vz,vw,vs,Au,ln,Ak,wa,Ah,br]) (BB (by omega))
 dsimp only[Qy,Wg,XV,We,vw,lr,lc]
 unfold BN
 rw[d,Ni]
 cases m.fields.findIdx? fun f=>decide (f.num=k)<;>rfl
def Cq{α:Type}(l:List α)(p:α→Bool):Int:=match l.findIdx? p with
 |some i=>(i:Int)
 |none=>-1
theorem yd{α:Type}(l:List α)(p:α→Bool):decide (0≤Cq l p)=l.any p:=by
 unfold Cq
 rw[←LR]
 cases l.findIdx? p with
 |none=>rfl
 |some i=>simp
theorem Uh(l:List Slt)(f:Slt→Option Bool)(p:Slt→Bool)(e:∀x∈l,f x=some (p x))(h:l.length<4611686018427387904):Km l f=some (Cq l p):=by
 have g:=EF (B:=Oj l f) (N:=Aj) l p (fun i=>(i:Int)) () (fun i x a=>by
  have b:=B6 a
  have j:=(Yn.1 a).1
  have c:i+1<9223372036854775808:=by omega
  have d:=e x (Yu a)
  dsimp only[Oj,SR,br,ix,vs,Au,ln,Ak,cf,wa,br]
  simp only[b,c,d,a,YE,YJ,Yi]
  cases p x<;>simp) (by simp[Oj,SR,br,ix,vs,Au,ln,Ak,cf,wa,br]) (BB h)
 dsimp only[Km,XM,Wp,Wh,vz,lr,lc,Ah]
 rw[g]
 unfold Cq
 cases l.findIdx? p<;>rfl
def BK(l:List Slt)(k:Int):Bool:=l.any fun x=>decide (x.num=k)
theorem n19(v:Val)(k:Int)(h:v.slots.length<4611686018427387904):b0 v k=some (BK v.slots k):=by
 dsimp only[b0,X7,vw,lr,cl,QL,S9,lr,cs]
 rw[Uh v.slots (fun z=>MV z k) (fun x=>decide (x.num=k)) (fun x _=>rfl) h]
 simp only[Yi]
 rw[yd]
 rfl
theorem zU(v:Val)(k:Int)(h:v.slots.length≤4194304):bG v k=some (BK v.slots k):=by
 have d:=EF (B:=Oa v k) (N:=Aj) v.slots (fun x=>decide (x.num=k)) (fun _=>true) () (fun i x a=>by
  have b:=B6 a
  have e:=(Yn.1 a).1
  have c:i+1<9223372036854775808:=by omega
  dsimp only[Oa,Ty,br,ix,vz,vw,vs,Au,ln,Ak,wa,Ah,br]
  simp only[b,c,a,YE,YJ,Yi]
  cases decide (x.num=k)<;>simp) (by simp[Oa,Ty,br,ix,vz,vw,vs,Au,ln,Ak,wa,Ah,br]) (BB (by omega))
 dsimp only[bG,Xr,Zf,Ww,lr,lc]
 rw[d]
 unfold BK
 rw[←LR]
 cases v.slots.findIdx? fun x=>decide (x.num=k)<;>rfl
def GH(l:List Slt)(x:Slt):List Slt:=match l.findIdx? fun y=>decide (x.num<y.num)with
 |some i=>l.take i++[x]++l.drop i
 |none=>l++[x]
theorem ZyD(l:List Slt)(x:Slt):(GH l x).length=l.length+1:=by
 unfold GH
 split
 ·simp only[Yv,YF,Y2,Db,Fh]
  omega
 ·simp
theorem zX(l:List Slt)(h:l.length<549755813888):I8 l=some l:=by
 cases l with
 |nil=>rfl
 |cons x r=>
  dsimp only[I8,WQ,al,br,vw,lr,a0,mv,br]
  simp only[Db]at h
  simp
  omega
theorem n34(l:List Slt)(x:Slt)(h:l.length≤4194304):b7 l x=some (GH l x):=by
 have e:=Uh l (fun z=>QM z x) (fun y=>decide (x.num<y.num)) (fun y _=>rfl) (by omega)
 have b:=zX l (by omega)
 have c:∀i:Nat,i≤l.length→Kr l (i:Int) [x]=some (l.take i++[x]++l.drop i):=fun i hi=>by
  unfold Kr
  rw[Ys ⟨by omega,by omega,by omega,rfl⟩,Ff]
 have d:∀i:Nat,i≤l.length→(l.take i++[x]++l.drop i).length<549755813888:=fun i hi=>by
  simp only[Yv,YF,Y2,Db,Fh]
  omega
 dsimp only[b7,U4,RD,Xp,Jm,br,vz,vw,v2,lr,lc,cs,tw,ch,fl,fr,Ah,br]
 rw[e]
 unfold Cq GH
 simp only[Yi,b]
 cases hi:l.findIdx? fun y=>decide (x.num<y.num)with
 |none=>
  have g:=d l.length (Yp _)
  have a:=c l.length (Yp _)
  simp only[L9,OX,Mb]at g a
  simp[a,b]
  try simpa using g
 |some i=>
  have j:=(JE.1 hi).1
  have g:=d i (by omega)
  have a:=c i (by omega)
  have f:¬(i:Int)<0:=by omega
  simp only[f,a,b,YV,Yw,YR,Yi]
  try rw[Ys g]
theorem ZOC{v:Val}{x:Raw}(h:A6 v)(b:x∈v.raws):x.data.size≤1048576:=by
 have a:=CT (e:=As) b
 unfold A6 at h
 conv at h=>unfold Ai
 simp only[AA,bk,As]at h a
 omega
theorem dD{F:List Fld}{k:Int}(h:(BN F k).2=true):(A5 F k).num=k:=by
 unfold A5 BN B4 at*
 cases e:F.find? fun f=>decide (f.num=k)with
 |none=>rw[e]at h;cases h
 |some f=>exact Fg (p:=f.num=k) (List.find?_some (p:=fun f:Fld=>decide (f.num=k)) e)
def BQ{α:Type}(f:Nat→α→Int):List α→Nat→Int
 |[],_=>0
 |x::l,i=>if f i x=0 then BQ f l (i+1)else f i x
theorem nM{α:Type}(f:Nat→α→Int):∀(l:List α) (i:Nat),BQ f l i=0↔∀(j:Nat) (x:α),l[j]?=some x→f (i+j) x=0
 |[],i=>by simp[BQ]
 |x::l,i=>by
  unfold BQ
  have a:=nM f l (i+1)
  by_cases h:f i x=0
  ·rw[Ys h,a]
   constructor
   ·intro k j y hy
    cases j with
    |zero=>cases hy;exact h
    |succ j=>have:=k j y hy;rw[show i+(j+1)=i+1+j by omega];exact this
   ·intro k j y hy
    have:=k (j+1) y hy
    rw[show i+(j+1)=i+1+j by omega]at this
    exact this
  ·rw[Yr h]
   exact⟨fun e=>absurd e h,fun k=>k 0 x rfl⟩
theorem Hu{α ξ ρ:Type}{B:Nat→Option (Lv Nat ξ ρ)}{N:Nat}(l:List α)(f:Nat→α→Int)(r:Int→ρ)(e:ξ)
  (hs:∀(i:Nat) (x:α),l[i]?=some x→(∀(j:Nat) (y:α),j<i→l[j]?=some y→f j y=0)→B i=some (if f i x=0 then .nx (i+1)else .rt (r (f i x))))
  (he:B l.length=some (.ex e)) (hN:l.length<N):Ao B N 0=some (if BQ f l 0=0 then .inl e else .inr (r (BQ f l 0))):=by
 suffices H:∀k i N,i+k=l.length→(∀(j:Nat) (y:α),j<i→l[j]?=some y→f j y=0)→k<N→Ao B N i=some (if BQ f (l.drop i) i=0 then .inl e else .inr (r (BQ f (l.drop i) i)))by
  have:=H l.length 0 N (by omega) (fun j y c=>absurd c (by omega)) hN
  rwa [FK]at this
 intro k
 induction k with
 |zero=>
  intro i N hi _ hN
  obtain⟨N,rfl⟩:∃m,N=m+1:=⟨N-1,by omega⟩
  have:i=l.length:=by omega
  subst this
  rw[Ao,he,OX]
  rfl
 |succ k d=>
  intro i N hi b hN
  obtain⟨N,rfl⟩:∃m,N=m+1:=⟨N-1,by omega⟩
  have a:i<l.length:=by omega
  rw[Ao,hs i l[i] (Yh a) b,Ik a,BQ]
  by_cases h:f i l[i]=0
  ·rw[Ys h,Ys h]
   refine d (i+1) N (by omega) (fun j y c hy=>?_) (by omega)
   by_cases e:j=i
   ·subst e
    rw[Yh a]at hy
    cases hy
    exact h
   ·exact b j y (by omega) hy
  ·rw[Yr h,Yr h,Yr h]
def B0(v:Val):Bool:=decide ((v.kind≠11∧0<v.list.length)∨(v.kind≠12∧0<v.pairs.length)∨(v.kind≠10∧(0<v.slots.length∨0<v.raws.length))∨(v.text≠⟨#[]⟩∧¬(v.kind=7∨v.kind=8))∨(v.bits≠0∧(v.kind=7∨v.kind=8∨v.kind=10∨v.kind=11∨v.kind=12)))
def C9(x:ByteArray)(p:Nat)(lo hi:Nat):Bool:=decide (p<x.size)&&decide (lo≤(x.get! p).toNat)&&decide ((x.get! p).toNat≤hi)
def Cr(x:ByteArray)(p:Nat):Nat:=
 let b:=(x.get! p).toNat
 if b<0x80 then 1
 else if 0xc2≤b∧b≤0xdf∧C9 x (p+1) 0x80 0xbf=true then 2
 else if b=0xe0∧C9 x (p+1) 0xa0 0xbf=true∧C9 x (p+2) 0x80 0xbf=true then 3
 else if b=0xed∧C9 x (p+1) 0x80 0x9f=true∧C9 x (p+2) 0x80 0xbf=true then 3
 else if 0xe1≤b∧b≤0xef∧b≠0xed∧C9 x (p+1) 0x80 0xbf=true∧C9 x (p+2) 0x80 0xbf=true then 3
 else if b=0xf0∧C9 x (p+1) 0x90 0xbf=true∧C9 x (p+2) 0x80 0xbf=true∧C9 x (p+3) 0x80 0xbf=true then 4
 else if 0xf1≤b∧b≤0xf3∧C9 x (p+1) 0x80 0xbf=true∧C9 x (p+2) 0x80 0xbf=true∧C9 x (p+3) 0x80 0xbf=true then 4
 else if b=0xf4∧C9 x (p+1) 0x80 0x8f=true∧C9 x (p+2) 0x80 0xbf=true∧C9 x (p+3) 0x80 0xbf=true then 4
 else 0
def E1(x:ByteArray):Nat→Nat→Bool
 |0,_=>true
 |n+1,p=>if p<x.size then(if Cr x p=0 then false else E1 x n (p+Cr x p))else true
def F0(x:ByteArray):Bool:=E1 x (x.size+1) 0
def JW(n b:Int):Bool:=if n=1 then decide (b≤1)else if n=2 then decide (-2147483648≤IntKind.i64.wrap b∧IntKind.i64.wrap b≤2147483647)else if n=4 then decide (b≤4294967295)else if n=9 then decide (b≤2147483647)else true
def Eu(v:Val):Bool:=decide (v.list.length=0∧v.pairs.length=0∧v.slots.length=0∧v.raws.length=0)
def C8(n:Int):Bool:=decide (n=7∨n=8)
def CA(n:Int)(v:Val):Bool:=decide (1≤n∧n≤9∧v.kind=n)&&Eu v&&(if C8 n then decide (v.bits=0∧v.text.size≤4096)&&(decide (n=8)||F0 v.text)else decide (v.text=⟨#[]⟩)&&JW n v.bits)
def CF(n:Int)(v:Val):Int:=if v.kind≠n∨B0 v=true then 12 else if 4096<v.text.size then 3 else if CA n v=true then 0 else if n=7 then 7 else 12
def zE:Enm:=.mk ⟨#[]⟩ false [] [] []
def Bg(s:Scm)(n:ByteArray):Msg×Bool:=B4 s.messages zM fun m=>decide (m.name=n)
def BO(s:Scm)(n:ByteArray):Enm×Bool:=B4 s.enums zE fun e=>decide (e.name=n)
def FC(e:Enm)(b:Int):Bool:=e.items.any fun x=>decide (IntKind.u64.wrap x.num=b)
def Cp(R:Msg→Val→Int)(s:Scm)(t:Typ)(v:Val):Int:=
 if t.kind=10 then(if(Bg s t.name).2=true then R (Bg s t.name).1 v else 10)
 else if t.kind<1∨9<t.kind then 12
 else if CF t.kind v≠0∨t.kind≠9 then CF t.kind v
 else if(BO s t.name).2=false then 10
 else if(BO s t.name).1.opn=false∧FC (BO s t.name).1 v.bits=false then 16 else 0
def ME(a b:Val):Bool:=decide (a.bits=b.bits)&&decide (a.text=b.text)
def JS(E:Val→Int)(key:Int)(k:Bool)(l:List Pr)(i:Nat)(p:Pr):Int:=
 if CF key p.key≠0 then CF key p.key else if k=true∧((l.take i).any fun q=>ME q.key p.key)=true then 9 else E p.val
def F3(R:Msg→Val→Int)(s:Scm)(k:Bool)(f:Fld)(v:Val):Int:=
 if f.card=4 then(if v.kind≠11∨B0 v=true then 12 else BQ (fun _ x=>Cp R s f.type x) v.list 0)
 else if f.card=5 then(if v.kind≠12∨B0 v=true then 12 else BQ (JS (Cp R s f.type) f.key k v.pairs) v.pairs 0)
 else Cp R s f.type v
def MI(F:List Fld)(l:List Slt)(u:ByteArray):Bool:=!decide (u=⟨#[]⟩)&&l.any fun y=>decide ((A5 F y.num).union=u)
def IG(R:Fld→Val→Int)(F:List Fld)(l:List Slt)(i:Nat)(x:Slt):Int:=
 if(BN F x.num).2=false then 8 else if BK (l.take i) x.num=true then 9 else if MI F (l.take i) (A5 F x.num).union=true then 15 else R (A5 F x.num) x.val
def Mw(l:List Slt)(f:Fld):Int:=if f.card=1∧BK l f.num=false then 14 else 0
def T7(s:Scm)(f:Fld)(x:Raw):Bool:=decide (f.type.kind=9)&&(BO s f.type.name).2&&!(BO s f.type.name).1.opn&&!decide (f.card=5)&&decide (x.wire=0)&&decide (x.bits<2147483648)&&!FC (BO s f.type.name).1 x.bits
def JK(s:Scm)(F:List Fld)(x:Raw):Int:=
 if x.num<1∨65535<x.num∨x.wire<0∨6<x.wire∨(x.wire≤2∧x.data≠⟨#[]⟩)∨(2<x.wire∧x.bits≠0)then 1
 else if(BN F x.num).2=true∧T7 s (A5 F x.num) x=false then 1
 else if(x.wire=3∧4096<x.data.size)∨65536<x.data.size then 3 else 0
def Bv(s:Scm)(k:Bool):Nat→Msg→Val→Int
 |0,_,v=>if v.kind≠10∨B0 v=true then 12 else 17
 |d+1,m,v=>
  if v.kind≠10∨B0 v=true then 12
  else if BQ (IG (F3 (Bv s k d) s k) m.fields v.slots) v.slots 0≠0 then BQ (IG (F3 (Bv s k d) s k) m.fields v.slots) v.slots 0
  else if BQ (fun _ f=>Mw v.slots f) m.fields 0≠0 then BQ (fun _ f=>Mw v.slots f) m.fields 0
  else BQ (fun _ x=>JK s m.fields x) v.raws 0
mutual
def cnt:Val→Nat
 |.mk _ _ _ l p s r=>1+r.length+Bu l+Hl p+HO s
def Bu:List Val→Nat
 |[]=>0
 |v::l=>cnt v+Bu l
def Oh:Pr→Nat
 |.mk k v=>cnt k+cnt v
def Hl:List Pr→Nat
 |[]=>0
 |p::l=>Oh p+Hl l
def Oi:Slt→Nat
 |.mk _ v=>cnt v
def HO:List Slt→Nat
 |[]=>0
 |x::l=>Oi x+HO l
end
def ML(s:Scm)(k:Bool)(n:ByteArray)(v:Val):Int:=
 if(Bg s n).2=false then 10 else if Bv s k 16 (Bg s n).1 v≠0 then Bv s k 16 (Bg s n).1 v else if 4096<cnt v then 3 else 0
theorem vld(c:Nat):Utf8.valid (c:Int)=decide (c<0xD800∨0xE000≤c∧c≤0x10FFFF):=by
 unfold Utf8.valid
 rw[OZ]
 simp only[Yj,Ya,Ye]
 omega
theorem ZSC(a b c d:Nat)(i j l:Prop)[Decidable i][Decidable j][Decidable l](r:a<256)(s:b<256)(t:c<256)(u:d<256)(z:Nat)
 (g:z=if a<0x80 then 1
 else if 0xc2≤a∧a≤0xdf∧i∧0x80≤b∧b≤0xbf then 2
 else if a=0xe0∧(i∧0xa0≤b∧b≤0xbf)∧(j∧0x80≤c∧c≤0xbf)then 3
 else if a=0xed∧(i∧0x80≤b∧b≤0x9f)∧(j∧0x80≤c∧c≤0xbf)then 3
 else if 0xe1≤a∧a≤0xef∧a≠0xed∧(i∧0x80≤b∧b≤0xbf)∧(j∧0x80≤c∧c≤0xbf)then 3
 else if a=0xf0∧(i∧0x90≤b∧b≤0xbf)∧(j∧0x80≤c∧c≤0xbf)∧(l∧0x80≤d∧d≤0xbf)then 4
 else if 0xf1≤a∧a≤0xf3∧(i∧0x80≤b∧b≤0xbf)∧(j∧0x80≤c∧c≤0xbf)∧(l∧0x80≤d∧d≤0xbf)then 4
 else if a=0xf4∧(i∧0x80≤b∧b≤0x8f)∧(j∧0x80≤c∧c≤0xbf)∧(l∧0x80≤d∧d≤0xbf)then 4
 else 0) (D:Nat×Nat) (f:D=if a<0x80 then(a,1)
 else if a/32=6∧i∧b/64=2 then
  if(a%32)*64+b%64≥0x80 then((a%32)*64+b%64,2)else(65533,1)
 else if a/16=14∧(i∧b/64=2)∧(j∧c/64=2)then
  if(a%16)*4096+(b%64)*64+c%64≥0x800∧((a%16)*4096+(b%64)*64+c%64<0xD800∨0xE000≤(a%16)*4096+(b%64)*64+c%64∧(a%16)*4096+(b%64)*64+c%64≤0x10FFFF)then((a%16)*4096+(b%64)*64+c%64,3)else(65533,1)
 else if a/8=30∧(i∧b/64=2)∧(j∧c/64=2)∧(l∧d/64=2)then
  if(a%8)*262144+(b%64)*4096+(c%64)*64+d%64≥0x10000∧((a%8)*262144+(b%64)*4096+(c%64)*64+d%64<0xD800∨0xE000≤(a%8)*262144+(b%64)*4096+(c%64)*64+d%64∧(a%8)*262144+(b%64)*4096+(c%64)*64+d%64≤0x10FFFF)then((a%8)*262144+(b%64)*4096+(c%64)*64+d%64,4)else(65533,1)
 else(65533,1)):(z=0→D.1=65533∧¬(a=0xef∧(i∧b=0xbf)∧(j∧c=0xbd)))∧(z≠0→D.2=z∧(D.1=65533→a=0xef∧(i∧b=0xbf)∧(j∧c=0xbd))):=by
 by_cases a0:a<128
 ·rw[Ys a0]at g f
  subst g f
  exact⟨fun h=>absurd h (by decide),fun _=>⟨rfl,fun h=>by dsimp only at h;omega⟩⟩
 rw[Yr a0]at g f
 by_cases a1:a/32=6
 ·simp only[show¬a=224 by omega,show¬a=237 by omega,show¬225≤a by omega,show¬a=240 by omega,show¬241≤a by omega,show¬a=244 by omega,show¬a/16=14 by omega,show¬a/8=30 by omega,show¬a=0xef by omega,Dw,YR,FJ,a1,Dx,L5,In]at g f⊢
  by_cases k:i
  ·simp only[k,Dx]at g f
   split at g<;>split at f<;>(try split at f)<;>subst g f<;>dsimp only<;>omega
  ·simp only[k,Dw,YR,FJ]at g f
   subst g f
   exact⟨fun _=>rfl,fun h=>absurd rfl h⟩
 by_cases p:a/16=14
 ·simp only[show¬a≤223 by omega,show¬a=240 by omega,show¬241≤a by omega,show¬a=244 by omega,show¬a/8=30 by omega,a1,p,Dw,YR,FJ,Dx]at g f⊢
  by_cases k:i<;>by_cases o:j<;>simp only[k,o,Dx,Dw,FJ,YR]at g f⊢
  ·by_cases m:a=0xe0
   ·subst m
    simp only[show¬(224=237)by decide,show¬225≤224 by decide,Dx,Dw,YR]at g
    split at g<;>split at f<;>(try split at f)<;>subst g f<;>dsimp only<;>omega
   ·by_cases n:a=0xed
    ·subst n
     simp only[show¬(237=224)by decide,ne_eq,LX,Dx,Dw,FJ,YR]at g
     split at g<;>split at f<;>(try split at f)<;>subst g f<;>dsimp only<;>omega
    ·simp only[m,n,Dw,YR]at g
     split at g<;>split at f<;>(try split at f)<;>subst g f<;>dsimp only<;>omega
  all_goals(subst g f;exact⟨fun _=>⟨rfl,by simp⟩,fun h=>absurd rfl h⟩)
 ·simp only[show¬(a=0xef)by omega,show¬a=224 by omega,show¬a=237 by omega,a1,p,Dw,YR,L5,In]at g f⊢
  rw[Yr (by omega:¬(0xc2≤a∧a≤0xdf∧i∧0x80≤b∧b≤0xbf)),Yr (by omega:¬(0xe1≤a∧a≤0xef∧a≠0xed∧(i∧0x80≤b∧b≤0xbf)∧(j∧0x80≤c∧c≤0xbf)))]at g
  by_cases e:i∧j∧l
  ·obtain⟨k,o,q⟩:=e
   simp only[k,o,q,Dx]at g f
   by_cases m:a=0xf0
   ·subst m
    simp only[show¬(240=244)by decide,show¬241≤240 by decide,Dx,Dw,YR]at g
    split at g<;>split at f<;>(try split at f)<;>subst g f<;>dsimp only<;>omega
   ·by_cases n:a=0xf4
    ·subst n
     simp only[show¬(244=240)by decide,show¬244≤243 by decide,Dx,Dw,FJ,YR]at g
     split at g<;>split at f<;>(try split at f)<;>subst g f<;>dsimp only<;>omega
    ·simp only[m,n,Dw,YR]at g
     split at g<;>split at f<;>(try split at f)<;>subst g f<;>dsimp only<;>omega
  ·rw[Yr (fun h=>e ⟨h.2.1.1,h.2.2.1.1,h.2.2.2.1⟩),Yr (fun h=>e ⟨h.2.2.1.1,h.2.2.2.1.1,h.2.2.2.2.1⟩),Yr (fun h=>e ⟨h.2.1.1,h.2.2.1.1,h.2.2.2.1⟩)]at g
   rw[Yr (fun h=>e ⟨h.2.1.1,h.2.2.1.1,h.2.2.2.1⟩)]at f
   subst g f
   exact⟨fun _=>rfl,fun h=>absurd rfl h⟩
theorem yz(x:ByteArray)(p:Nat):(Cr x p=0→(Utf8.decode x p).1=65533∧¬((x.get! p).toNat=0xef∧(p+1<x.size∧(x.get! (p+1)).toNat=0xbf)∧(p+2<x.size∧(x.get! (p+2)).toNat=0xbd)))∧(Cr x p≠0→(Utf8.decode x p).2=Cr x p∧((Utf8.decode x p).1=65533→((x.get! p).toNat=0xef∧(p+1<x.size∧(x.get! (p+1)).toNat=0xbf)∧(p+2<x.size∧(x.get! (p+2)).toNat=0xbd)))):=
 ZSC (x.get! p).toNat (x.get! (p+1)).toNat (x.get! (p+2)).toNat (x.get! (p+3)).toNat (p+1<x.size) (p+2<x.size) (p+3<x.size) (x.get! p).toNat_lt (x.get! (p+1)).toNat_lt (x.get! (p+2)).toNat_lt (x.get! (p+3)).toNat_lt _ (by
  unfold Cr C9
  simp only[Ya,Ye,and_assoc]) _ (by
  unfold Utf8.decode
  simp only[vld,DS,Ya,Ye,beq_iff_eq,Utf8.runeError,and_assoc])
theorem ZMk(x:ByteArray)(p:Nat):x.data.toList.getD p 0=x.get! p:=by
 cases x with
 |mk d=>
  show d.toList.getD p 0=d.getD p 0
  rw[YG,Yz,YD]
theorem ZBP(x:ByteArray):∀(k p n m:Nat),x.size-p=k→x.size-p<n→x.size-p<m→E1 x n p=E1 x m p:=by
 intro k
 induction k using Nat.strongRecOn with
 |_ k c=>
  intro p n m d e hm
  obtain⟨n,rfl⟩:∃j,n=j+1:=⟨n-1,by omega⟩
  obtain⟨m,rfl⟩:∃j,m=j+1:=⟨m-1,by omega⟩
  unfold E1
  by_cases a:p<x.size
  ·rw[Ys a,Ys a]
   by_cases b:Cr x p=0
   ·rw[Ys b,Ys b]
   ·rw[Yr b,Yr b]
    exact c (x.size-(p+Cr x p)) (by omega) _ _ _ rfl (by omega) (by omega)
  ·rw[Yr a,Yr a]
def HS(x:ByteArray)(p:Nat):Bool:=E1 x (x.size+1-p) p
theorem Zv4{x:ByteArray}{p:Nat}(h:x.size≤p):HS x p=true:=by
 unfold HS
 cases x.size+1-p with
 |zero=>rfl
 |succ n=>unfold E1;rw[Yr (by omega)]
theorem Zqe{x:ByteArray}{p:Nat}(h:p<x.size):HS x p=if Cr x p=0 then false else HS x (p+Cr x p):=by
 unfold HS
 obtain⟨n,e⟩:∃n,x.size+1-p=n+1:=⟨x.size-p,by omega⟩
 rw[e]
 conv=>lhs;unfold E1
 rw[Ys h]
 by_cases a:Cr x p=0
 ·rw[Ys a,Ys a]
 ·rw[Yr a,Yr a]
  by_cases b:p+Cr x p<x.size
  ·exact ZBP x _ _ _ _ rfl (by omega) (by omega)
  ·have c:E1 x n (p+Cr x p)=true:=by
    cases n with
    |zero=>rfl
    |succ n=>unfold E1;rw[Yr b]
   have d:E1 x (x.size+1-(p+Cr x p)) (p+Cr x p)=true:=by
    cases x.size+1-(p+Cr x p)with
    |zero=>rfl
    |succ n=>unfold E1;rw[Yr b]
   rw[c,d]
theorem ZMB(x:ByteArray):F0 x=HS x 0:=rfl
theorem ZPU{α:Type}(m:List α)(a b c:α):m.take 3=[a,b,c]↔m[0]?=some a∧m[1]?=some b∧m[2]?=some c:=by
 match m with
 |[]=>simp
 |[x]=>simp
 |[x,y]=>simp
 |x::y::z::l=>simp
theorem ZJf{x y:ByteArray}:x=y↔x.data.toList=y.data.toList:=by
 constructor
 ·rintro rfl
  rfl
 ·intro h
  cases x
  cases y
  congr 1
  exact Array.toList_inj.1 h
theorem vr(x:ByteArray)(a b:Nat):(x.extract a b).data.toList=(x.data.toList.take b).drop a:=by
 rw[ByteArray.data_extract,Array.toList_extract,List.extract_eq_take_drop,List.drop_take]
theorem Vu(x:ByteArray)(p:Nat)(c:UInt8):x.data.toList[p]?=some c↔p<x.size∧(x.get! p).toNat=c.toNat:=by
 rw[←ZMk,YG]
 have hs:x.size=x.data.toList.length:=YX.symm
 rw[hs]
 constructor
 ·intro h
  rw[h]
  exact⟨(Yn.1 h).1,rfl⟩
 ·rintro⟨b,a⟩
  rw[Yh b]at a⊢
  rw[YQ]at a
  rw[UInt8.toNat_inj.1 a]
theorem ZOn(x:ByteArray)(p:Nat)(f:p<x.size)(h:x.size≤1048576):bw (x.extract p x.size) ⟨#[239,191,189]⟩=some (decide ((x.get! p).toNat=0xef∧(p+1<x.size∧(x.get! (p+1)).toNat=0xbf)∧(p+2<x.size∧(x.get! (p+2)).toNat=0xbd))):=by
 have g:(x.extract p x.size).size=x.size-p:=by rw[Yd];omega
 have hl:(x.extract p x.size).data.toList=x.data.toList.drop p:=by
  have e:x.data.toList.take x.size=x.data.toList:=OP (Nat.le_of_eq YX)
  rw[vr,e]
 have key:(x.extract p x.size).extract 0 3=⟨#[239,191,189]⟩↔((x.get! p).toNat=0xef∧(p+1<x.size∧(x.get! (p+1)).toNat=0xbf)∧(p+2<x.size∧(x.get! (p+2)).toNat=0xbd)):=by
  rw[ZJf,vr,hl,FK]
  show(x.data.toList.drop p).take 3=[239,191,189]↔_
  rw[ZPU,YN,YN,YN,Vu,Vu,Vu]
  exact⟨fun h=>⟨h.1.2,h.2⟩,fun h=>⟨⟨f,h.1⟩,h.2⟩⟩
 have b:(⟨#[239,191,189]⟩:ByteArray).size=3:=rfl
 generalize x.extract p x.size=y at g key
 dsimp only[bw,fC,lr,cl,uv,ij,vz,vy,lr,A2]
 rw[b]
 have w:y.size<4611686018427387904:=by omega
 by_cases c:3≤y.size
 ·have a:((3:Nat):Int)≤y.size:=by omega
  simp only[w,YJ,a,YE,Gk,Bd.c,Bd.vl,DQ,Yi,show(3:Nat)<4611686018427387904 by decide,DT,Dx,c,DP,Dd]
  congr 1
  exact decide_eq_decide.2 key
 ·have a:¬((3:Nat):Int)≤y.size:=by omega
  simp only[w,YJ,a,YV,Yw,U0,Ei,Yi,show(3:Nat)<4611686018427387904 by decide,Dd]
  congr 1
  symm
  rw[Yb]
  intro d
  have:=d.2.2.1
  omega
theorem ZGM(x:ByteArray)(p:Nat)(f:p<x.size)(h:x.size≤1048576):cJ x (p:Int) (HU x p)=some (decide (Cr x p=0)):=by
 obtain⟨d1,d2⟩:=yz x p
 have i:=ZOn x p f h
 have c:HU x p=((Utf8.decode x p).1:Nat):=rfl
 dsimp only[cJ,fi,lr,clg]
 by_cases e:HU x p=65533
 ·have g:(0:Int)≤p∧(p:Int)≤x.size:=by omega
  have b:p≤x.size:=by omega
  simp only[e,YE,DQ,Gk,Bd.c,Bd.vl,Ff,i,Ef,YQ,YJ,g,b,Dx,DP,Yp]
  congr 1
  rw[←decide_not]
  refine decide_eq_decide.2 ⟨fun d=>?_,fun a=>(d1 a).2⟩
  rcases G7 (Cr x p)with a|a
  ·exact a
  ·exact absurd ((d2 (by omega)).2 (by rw[c]at e;omega)) d
 ·have a:¬Cr x p=0:=fun a=>e (by rw[c,(d1 a).1];rfl)
  simp only[e,YV,Ei,Yw,U0,YJ,a]
theorem wz(x:ByteArray)(h:x.size≤1048576):cE x=some (F0 x):=by
 have q:Ok (Sum.elim (fun _=>F0 x=true) (fun r:Int=>0≤r∧F0 x=false)) (Ao (Se x) Aj 0):=by
  refine Ok.loop (fun v:Nat=>F0 x=HS x v) (fun v:Nat=>x.size-v) (ZMB x) (BB (by omega)) fun v f=>?_
  dsimp only[Se,iC,br,vw,Au,ln,Ak,cl,br]
  by_cases d:v<x.size
  ·have b:=Zqe d
   simp only[d,YE,YJ,ZGM x v d h,Yi]
   by_cases c:Cr x v=0
   ·rw[Ys c]at b
    simp only[c,YE,YJ]
    exact⟨_,rfl,by omega,by rw[f,b]⟩
   ·rw[Yr c]at b
    have i:Eb x v=Cr x v:=((yz x v).2 c).1
    simp only[c,YV,Yw,YR]
    refine⟨_,rfl,?_,?_⟩
    ·show F0 x=HS x (v+Eb x v)
     rw[f,b,i]
    ·show x.size-(v+Eb x v)<x.size-v
     omega
  ·simp only[d,YV,Yw,YR]
   exact⟨_,rfl,by rw[f,Zv4 (by omega)]⟩
 obtain⟨y,e,a⟩:=q
 dsimp only[cE,jD,lr,cl,wv,eO,kF,fa,lr,lc]
 rw[e]
 cases y with
 |inl y=>
  have a:F0 x=true:=a
  rw[a]
  rfl
 |inr r=>
  obtain⟨a1,g⟩:=a
  rw[g]
  simp only[Yi,Sum.elim_inr]
  rw[show decide (r<0)=false by simpa using a1]
def UJ(c:Nat)(x:Val):Prop:=∀a,c≤a→Ok (fun b=>b=true) (Dz a x x)
theorem UJ.mono{c d:Nat}{x:Val}(h:UJ c x)(k:c≤d):UJ d x:=fun a b=>h a (DR k b)
theorem KI{n:Nat}(h:n<18446744073709551616):IntKind.u64.wrap (n:Int)=n:=by
 unfold IntKind.wrap
 have:(IntKind.u64.bits)=64:=rfl
 simp only[this,show IntKind.u64.signed=false from rfl,Ei,Yw,YR]
 omega
theorem K1(n:Nat):BitVec.ofInt 64 (n:Int)=BitVec.ofNat 64 n:=BitVec.ofInt_natCast ..
theorem dz{n m:Nat}(a:n<18446744073709551616)(hm:m<18446744073709551616):CL .u64 (n:Int) (m:Int)=((n&&&m:Nat):Int):=by
 unfold CL
 have h:(BitVec.ofInt 64 (n:Int)&&&BitVec.ofInt 64 (m:Int)).toNat=n&&&m:=by
  rw[K1,K1,BitVec.toNat_and,LV,LV,Ig a,Ig hm]
 show IntKind.u64.wrap (((BitVec.ofInt 64 (n:Int)&&&BitVec.ofInt 64 (m:Int)).toNat:Nat):Int)=_
 rw[h]
 exact KI (Nat.lt_of_le_of_lt Nat.and_le_left a)
theorem ZGf{n m:Nat}(a:n<18446744073709551616)(hm:m<18446744073709551616):FF .u64 (n:Int) (m:Int)=((n|||m:Nat):Int):=by
 unfold FF
 have h:(BitVec.ofInt 64 (n:Int)|||BitVec.ofInt 64 (m:Int)).toNat=n|||m:=by
  rw[K1,K1,BitVec.toNat_or,LV,LV,Ig a,Ig hm]
 show IntKind.u64.wrap (((BitVec.ofInt 64 (n:Int)|||BitVec.ofInt 64 (m:Int)).toNat:Nat):Int)=_
 rw[h]
 exact KI (Nat.or_lt_two_pow (n:=64) a hm)
theorem Zw3{n:Nat}(a:n<18446744073709551616):HT .u64 (n:Int)=((18446744073709551615-n:Nat):Int):=by
 unfold HT Kb
 have e:(if IntKind.u64.signed=true then(-1:Int)else IntKind.u64.max)=((18446744073709551615:Nat):Int):=rfl
 rw[e]
 have h:(BitVec.ofInt 64 ((18446744073709551615:Nat):Int)^^^BitVec.ofInt 64 (n:Int)).toNat=18446744073709551615-n:=by
  rw[K1,K1,show BitVec.ofNat 64 18446744073709551615=BitVec.allOnes 64 from rfl,BitVec.allOnes_xor,BitVec.toNat_not,LV,Ig a]
 show IntKind.u64.wrap (((BitVec.ofInt 64 ((18446744073709551615:Nat):Int)^^^BitVec.ofInt 64 (n:Int)).toNat:Nat):Int)=_
 rw[h]
 exact KI (by omega)
theorem ZDJ(n:Nat):n&&&9218868437227405312=(n/4503599627370496%2048)*4503599627370496:=by
 have e:(9218868437227405312:Nat)=2047<<<52:=rfl
 have a:n/4503599627370496%2048*4503599627370496=((n>>>52)%2^11)<<<52:=by
  rw[Nat.shiftLeft_eq,Nat.shiftRight_eq_div_pow]
 rw[e,a]
 apply Nat.eq_of_testBit_eq
 intro i
 have b:(2047:Nat)=2^11-1:=rfl
 rw[Nat.testBit_and,mE,mE,Nat.testBit_mod_two_pow,Nat.testBit_shiftRight,b,Nat.testBit_two_pow_sub_one]
 by_cases h:52≤i
 ·rw[show 52+(i-52)=i by omega]
  simp only[h,YE,DQ]
  rw[Bool.and_comm]
 ·simp[h]
theorem ZvL(n:Nat):n&&&4503599627370495=n%4503599627370496:=Nat.and_two_pow_sub_one_eq_mod n 52
theorem Zyn{n:Nat}(b:n<18446744073709551616):n&&&9223372036854775808=if 9223372036854775808≤n then 9223372036854775808 else 0:=by
 have e:(9223372036854775808:Nat)=2^63:=rfl
 have k:n.testBit 63=decide (9223372036854775808≤n):=by
  rw[Nat.testBit_eq_decide_div_mod_eq,decide_eq_decide]
  omega
 apply Nat.eq_of_testBit_eq
 intro i
 rw[Nat.testBit_and]
 by_cases hi:63=i
 ·subst hi
  rw[k]
  by_cases h:9223372036854775808≤n
  ·simp[h]
  ·simp[h]
 ·have a:Nat.testBit 9223372036854775808 i=false:=by
   rw[e,Nat.testBit_two_pow]
   exact Dy hi
  rw[a,H9]
  split
  ·exact a.symm
  ·simp
def II(n:Nat):Bool:=decide (9218868437227405312<n%9223372036854775808)
theorem ZS8{n:Nat}(e:n<18446744073709551616):Ok (fun y:Int=>decide (y=0)=II n) (cw (n:Int)):=by
 have a:=dz e (m:=9218868437227405312) (by omega)
 have b:=dz e (m:=4503599627370495) (by omega)
 rw[ZDJ]at a
 rw[ZvL]at b
 have a:CL .u64 (n:Int) 9218868437227405312=_:=a
 have b:CL .u64 (n:Int) 4503599627370495=_:=b
 dsimp only[cw,kh,br,vz,lr,br]
 rw[a,b]
 unfold II
 have f:(((n/4503599627370496%2048*4503599627370496:Nat):Int)=9218868437227405312)↔n/4503599627370496%2048=2047:=by omega
 have g:(((n%4503599627370496:Nat):Int)=0)↔n%4503599627370496=0:=by omega
 have h:9218868437227405312<n%9223372036854775808↔n/4503599627370496%2048=2047∧n%4503599627370496≠0:=by omega
 simp only[f,g,h]
 by_cases c:n/4503599627370496%2048=2047
 ·by_cases d:n%4503599627370496=0
  ·simp only[c,d];exact Ok.pure (by decide)
  ·simp only[c,d];exact Ok.pure (by simp[d])
 ·have i:decide (n/4503599627370496%2048=2047)=false:=Dy c
  simp only[i,c,Ei,Dw,YV,Yw,YR]
  refine Ok.br (fun _=>Ok.pure (by decide)) fun _=>Ok.br (fun _=>Ok.pure (by decide)) fun _=>Ok.pure (by decide)
theorem ZSQ{n:Nat}(b:n<18446744073709551616):Ok (fun y:Int=>decide (y=0)=II n) (MS (n:Int)):=by
 have e:Hf .u64 (n:Int) 9223372036854775808=((n%9223372036854775808:Nat):Int):=by
  unfold Hf
  rw[Int.tmod_eq_emod_of_nonneg (by omega)]
  omega
 dsimp only[MS,Sm,br,lr,br,rem]
 rw[e]
 unfold II
 have g:(9218868437227405312:Int)<((n%9223372036854775808:Nat):Int)↔9218868437227405312<n%9223372036854775808:=by omega
 simp only[g]
 by_cases h:9218868437227405312<n%9223372036854775808
 ·simp only[h];first|exact Ok.pure (by decide)|simp
 ·have a:decide (9218868437227405312<n%9223372036854775808)=false:=Dy h
  simp only[a,Yw,YR]
  first
   |refine Ok.br (fun _=>Ok.pure (by decide)) fun _=>Ok.br (fun _=>Ok.pure (by decide)) fun _=>Ok.br (fun _=>Ok.pure (by decide)) fun _=>Ok.pure (by decide)
   |simp
end Go.Proofs.YtleccgigifnfgaaGreat
