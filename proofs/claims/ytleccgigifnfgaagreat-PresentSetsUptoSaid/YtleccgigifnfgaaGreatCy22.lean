import Derived.Test.YtleccgigifnfgaaGreatCy21
import Derived.Test.YtleccgigifnfgaaGreatCy00
namespace Go.Proofs.YtleccgigifnfgaaGreat
set_option linter.all false
open Go Go.Eng
theorem dZ(x:ByteArray):x.data.toList.length=x.size:=by rw[YX];rfl
theorem A3{n:Nat}(h:n≤2097152):n<Aj:=by unfold Aj;omega
theorem ZSq(x:ByteArray)(h:x.size≤1048576):Ok Tr (bD x):=by
 have q:Ok Ts (Ao (SA x) Aj 0):=by
  refine Ok.loop (fun v:Int=>0≤v∧v≤x.size+4) (fun v:Int=>(x.size+4-v).toNat) ⟨by omega,by omega⟩ (A3 (by omega)) fun v a=>?_
  dsimp only[SA,gI,br,vz,vs,Au,ln,Ak,cl,wi,A2,br]
  (repeat' (first|with_reducible refine Ok.br (fun _=>?_) (fun _=>?_)|with_reducible refine Ok.pure ?_|(with_reducible apply Ok.bind;(exact ZS6 _ _ a.1 (by(first|trivial|assumption|contradiction|omega|solve_by_elim|(simp only[Ya,Yj,Yk,Yg,Ym,Ye,Yb]at*;omega)|grind)) h);intro _ _)|with_reducible refine Ok.if ?_ ?_))<;>(first|trivial|assumption|contradiction|omega|grind|(simp only[Bd.c,Bd.vl,Yf,Yd,AL]at*;grind))
 dsimp only[bD,jH,fv,ja,lr,lc]
 (repeat' (first|with_reducible refine Ok.br (fun _=>?_) (fun _=>?_)|with_reducible refine Ok.pure ?_|(with_reducible apply Ok.lb;(exact q);all_goals(intro _ _;try dsimp only))|with_reducible refine Ok.if ?_ ?_))<;>(first|trivial|assumption|contradiction|omega|solve_by_elim|(simp only[Ya,Yj,Yk,Yg,Ym,Ye,Yb]at*;omega)|grind)
theorem lj(x:ByteArray)(h:x.size≤1048576):Ok Tr (Qz x):=by
 dsimp only[Qz,jo,lr,cl]
 (repeat' (first|with_reducible refine Ok.br (fun _=>?_) (fun _=>?_)|with_reducible refine Ok.pure ?_|(with_reducible apply Ok.bind;(exact ZSq _ h);intro _ _)|with_reducible refine Ok.if ?_ ?_))<;>(first|trivial|assumption|contradiction|omega|solve_by_elim|(simp only[Ya,Yj,Yk,Yg,Ym,Ye,Yb]at*;omega)|grind)
theorem Qt(x:ByteArray)(h:x.size≤1048576):Ok Tr (bl x):=by
 have hl:=dZ x
 have q:Ok Ts (Ao (R9 x) Aj 1):=by
  refine Ok.loop (fun v:Nat=>v≤1048577) (fun v:Nat=>1048577-v) (by omega) (A3 (by omega)) fun v a=>?_
  dsimp only[R9,kk,br,vz,vs,Au,ln,Ak,cl,clg,wa,A2,br,ib,FA]
  (repeat' (first|with_reducible refine Ok.br (fun _=>?_) (fun _=>?_)|with_reducible refine Ok.pure ?_|with_reducible refine Ok.idx ?_ (fun _ _ _=>?_)|(with_reducible apply Ok.bind;(exact PS _);intro _ _)|(with_reducible apply Ok.bind;(exact PP _);intro _ _)|(with_reducible apply Ok.clg;(exact fun _=>PS _);intro _)|(with_reducible apply Ok.clg;(exact fun _=>PP _);intro _)|with_reducible refine Ok.if ?_ ?_))<;>(first|trivial|assumption|contradiction|omega|grind|(simp only[Bd.c,Bd.vl,Yf,Yd,AL]at*;grind))
 dsimp only[bl,io,jw,iQ,br,vz,vy,lr,lc,clg,A2,br,FA]
 (repeat' (first|with_reducible refine Ok.br (fun _=>?_) (fun _=>?_)|with_reducible refine Ok.pure ?_|(with_reducible apply Ok.lb;(exact q);all_goals(intro _ _;try dsimp only))|(with_reducible apply Ok.bind;(exact PS _);intro _ _)|(with_reducible apply Ok.bind;(exact PP _);intro _ _)|(with_reducible apply Ok.clg;(exact fun _=>PS _);intro _)|(with_reducible apply Ok.clg;(exact fun _=>PP _);intro _)|with_reducible refine Ok.if ?_ ?_))<;>(first|trivial|assumption|contradiction|omega|solve_by_elim|(simp only[Ya,Yj,Yk,Yg,Ym,Ye,Yb]at*;omega)|grind)
theorem ZTf(x:ByteArray)(h:x.size≤1048576):Ok Tr (aM x):=by
 have hl:=dZ x
 have q:Ok (Sum.elim (fun b:ByteArray=>b.size≤1048576) Tr) (Ao (R4 x) Aj (⟨#[]⟩,0)):=by
  refine Ok.loop (fun v:ByteArray×Nat=>v.1.size≤v.2∧v.2≤x.size) (fun v:ByteArray×Nat=>x.size-v.2) ⟨by rw[AL];omega,by omega⟩ (A3 (by omega)) fun v a=>?_
  obtain⟨v,i⟩:=v
  obtain⟨a,hi⟩:=a
  dsimp only at a hi
  dsimp only[R4,iP,br,vz,vs,v2,Au,ln,Ak,ad,cl,wa,ss,A2,br,ib]
  (repeat' (first|with_reducible refine Ok.br (fun _=>?_) (fun _=>?_)|with_reducible refine Ok.pure ?_|with_reducible refine Ok.idx ?_ (fun _ _ _=>?_)|(with_reducible apply Ok.bind;(exact Qt _ (by omega));intro _ _)|with_reducible refine Ok.ss ?_ ?_|with_reducible refine Ok.if ?_ ?_))<;>(first|trivial|assumption|contradiction|omega|grind|(simp only[Bd.c,Bd.vl,Yf,Yd,AL]at*;grind))
 dsimp only[aM,gp,kl,fG,br,vz,lr,lc,cl,A2,br]
 (repeat' (first|with_reducible refine Ok.br (fun _=>?_) (fun _=>?_)|with_reducible refine Ok.pure ?_|(with_reducible apply Ok.lb;(exact q);all_goals(intro _ _;try dsimp only))|(with_reducible apply Ok.bind;(exact Qt _ (by assumption));intro _ _)|with_reducible refine Ok.if ?_ ?_))<;>(first|trivial|assumption|contradiction|omega|solve_by_elim|(simp only[Ya,Yj,Yk,Yg,Ym,Ye,Yb]at*;omega)|grind)
set_option maxRecDepth 20000 in
theorem ZTs(x:ByteArray)(h:x.size≤1048576):Ok (fun y=>y.1.size≤1048576∧y.2.size≤1048576) (aT x):=by
 have hl:=dZ x
 have q:Ok (Sum.elim Tr (fun y:ByteArray×ByteArray=>y.1.size≤1048576∧y.2.size≤1048576)) (Ao (Sw x) Aj ((x.size:Int)-1)):=by
  refine Ok.loop (fun v:Int=>-1≤v∧v<x.size) (fun v:Int=>(v+1).toNat) ⟨by omega,by omega⟩ (A3 (by omega)) fun v hv=>?_
  dsimp only[Sw,iH,br,vs,Au,ln,Ak,wi,ss,br,Ud]
  (repeat' (first|with_reducible refine Ok.br (fun _=>?_) (fun _=>?_)|with_reducible refine Ok.pure ?_|with_reducible refine Ok.idx ?_ (fun _ _ _=>?_)|with_reducible refine Ok.ss ?_ ?_|with_reducible refine Ok.if ?_ ?_))<;>(first|trivial|assumption|contradiction|omega|grind|(simp only[Bd.c,Bd.vl,Yf,Yd,AL]at*;grind))
 dsimp only[aT,eJ,jj,i3,vz,vs,lr,lc,wi,A2]
 (repeat' (first|with_reducible refine Ok.br (fun _=>?_) (fun _=>?_)|with_reducible refine Ok.pure ?_|(with_reducible apply Ok.lb;(exact q);all_goals(intro _ _;try dsimp only))|with_reducible refine Ok.if ?_ ?_))<;>(first|trivial|assumption|contradiction|omega|grind|(simp only[Bd.c,Bd.vl,Yf,Yd,AL]at*;grind))
set_option maxRecDepth 20000 in
theorem lh(x:ByteArray)(h:x.size≤1048576):Ok Tr (bn x):=by
 have q:Ok Ts (Ao RZ Aj (x,0)):=by
  refine Ok.loop (fun v:ByteArray×Nat=>v.1.size≤1048576∧v.2≤120) (fun v:ByteArray×Nat=>120-v.2) ⟨h,by omega⟩ (A3 (by omega)) fun v hv=>?_
  obtain⟨v,i⟩:=v
  obtain⟨hv,hi⟩:=hv
  dsimp only at hv hi
  dsimp only[RZ,eM,br,vs,v2,Au,ln,Ak,cl,wa,br]
  (repeat' (first|with_reducible refine Ok.br (fun _=>?_) (fun _=>?_)|with_reducible refine Ok.pure ?_|(with_reducible apply Ok.bind;(exact ZTs _ hv);intro _ _)|(with_reducible apply Ok.bind;(exact ZD _);intro _ _)|with_reducible refine Ok.if ?_ ?_))<;>(first|trivial|assumption|contradiction|omega|grind|(simp only[Bd.c,Bd.vl,Yf,Yd,AL]at*;grind))
 dsimp only[bn,iu,gt,iE,br,lr,lc,cl,br]
 (repeat' (first|with_reducible refine Ok.br (fun _=>?_) (fun _=>?_)|with_reducible refine Ok.pure ?_|(with_reducible apply Ok.lb;(exact q);all_goals(intro _ _;try dsimp only))|(with_reducible apply Ok.bind;(exact ZTf _ h);intro _ _)|with_reducible refine Ok.if ?_ ?_))<;>(first|trivial|assumption|contradiction|omega|grind|(simp only[Bd.c,Bd.vl,Yf,Yd,AL]at*;grind))
set_option maxRecDepth 20000 in
theorem Jt(x:ByteArray)(h:x.size≤1048576):Ok Tr (ay x):=by
 dsimp only[ay,iT,lr,cl,clg]
 (repeat' (first|with_reducible refine Ok.br (fun _=>?_) (fun _=>?_)|with_reducible refine Ok.pure ?_|(with_reducible apply Ok.bind;(exact Qt _ h);intro _ _)|(with_reducible apply Ok.bind;(exact ZD _);intro _ _)|(with_reducible apply Ok.clg;(exact fun _=>Qt _ h);intro _)|(with_reducible apply Ok.clg;(exact fun _=>ZD _);intro _)|with_reducible refine Ok.if ?_ ?_))<;>(first|trivial|assumption|contradiction|omega|grind|(simp only[Bd.c,Bd.vl,Yf,Yd,AL]at*;grind))
theorem z2(l:List ByteArray)(x:ByteArray)(h:l.length≤1048576):Ok Tr (MT l x):=by
 have q:Ok Ts (Ao (KU l x) Aj 0):=by
  refine Ok.loop (fun v:Nat=>v≤l.length) (fun v:Nat=>l.length-v) (by omega) (A3 (by omega)) fun v a=>?_
  dsimp only[KU,SB,br,ix,vz,vs,Au,ln,Ak,wa,Ah,br]
  (repeat' (first|with_reducible refine Ok.br (fun _=>?_) (fun _=>?_)|with_reducible refine Ok.pure ?_|with_reducible refine Ok.idx ?_ (fun _ _ _=>?_)|with_reducible refine Ok.if ?_ ?_))<;>(first|trivial|assumption|contradiction|omega|grind|(simp only[Bd.c,Bd.vl,Yf,Yd,AL]at*;grind))
 dsimp only[MT,RX,R8,RW,lr,lc]
 (repeat' (first|with_reducible refine Ok.br (fun _=>?_) (fun _=>?_)|with_reducible refine Ok.pure ?_|(with_reducible apply Ok.lb;(exact q);all_goals(intro _ _;try dsimp only))|with_reducible refine Ok.if ?_ ?_))<;>(first|trivial|assumption|contradiction|omega|grind|(simp only[Bd.c,Bd.vl,Yf,Yd,AL]at*;grind))
theorem li(l:List Spn)(x:Int)(h:l.length≤1048576):Ok Tr (bb l x):=by
 have q:Ok Ts (Ao (Sq l x) Aj 0):=by
  refine Ok.loop (fun v:Nat=>v≤l.length) (fun v:Nat=>l.length-v) (by omega) (A3 (by omega)) fun v a=>?_
  dsimp only[Sq,gL,br,ix,A9,vz,vs,Au,ln,Ak,wa,Ah,br]
  (repeat' (first|with_reducible refine Ok.br (fun _=>?_) (fun _=>?_)|with_reducible refine Ok.pure ?_|with_reducible refine Ok.idx ?_ (fun _ _ _=>?_)|with_reducible refine Ok.idxg ?_ (fun _=>?_)|with_reducible refine Ok.if ?_ ?_))<;>(first|trivial|assumption|contradiction|omega|grind|(simp only[Bd.c,Bd.vl,Yf,Yd,AL]at*;grind))
 dsimp only[bb,gb,j6,j8,lr,lc]
 (repeat' (first|with_reducible refine Ok.br (fun _=>?_) (fun _=>?_)|with_reducible refine Ok.pure ?_|(with_reducible apply Ok.lb;(exact q);all_goals(intro _ _;try dsimp only))|with_reducible refine Ok.if ?_ ?_))<;>(first|trivial|assumption|contradiction|omega|grind|(simp only[Bd.c,Bd.vl,Yf,Yd,AL]at*;grind))
theorem Ot(s:Scm)(x:ByteArray)(h:SzS s):Ok (fun y:Int=>y<s.messages.length∧(0≤y→∃m∈s.messages,m.name=x)) (az s x):=by
 have hm:=h.ml
 have q:Ok (Sum.elim Tr fun y:Int=>y<s.messages.length∧(0≤y→∃m∈s.messages,m.name=x)) (Ao (SK s x) Aj 0):=by
  refine Ok.loop (fun v:Nat=>v≤s.messages.length) (fun v:Nat=>s.messages.length-v) (by omega) (A3 (by omega)) fun v a=>?_
  dsimp only[SK,je,br,ix,vz,vw,vs,Au,ln,Ak,wa,Ah,br]
  (repeat' (first|with_reducible refine Ok.br (fun _=>?_) (fun _=>?_)|with_reducible refine Ok.pure ?_|with_reducible refine Ok.idx ?_ (fun _ _ _=>?_)|with_reducible refine Ok.if ?_ ?_))<;>first|exact⟨by omega,fun _=>⟨_,by assumption,Fg (by assumption)⟩⟩|(first|trivial|assumption|contradiction|omega|grind|(simp only[Bd.c,Bd.vl,Yf,Yd,AL]at*;grind))
 dsimp only[az,gM,km,fg,lr,lc]
 (repeat' (first|with_reducible refine Ok.br (fun _=>?_) (fun _=>?_)|with_reducible refine Ok.pure ?_|(with_reducible apply Ok.lb;(exact q);all_goals(intro _ _;try dsimp only))|with_reducible refine Ok.if ?_ ?_))<;>first|exact⟨by omega,fun h=>absurd h (by decide)⟩|(first|trivial|assumption|contradiction|omega|grind|(simp only[Bd.c,Bd.vl,Yf,Yd,AL]at*;grind))
theorem Zw(s:Scm)(x:ByteArray)(h:SzS s):Ok (fun y:Int=>y<s.enums.length∧(0≤y→∃m∈s.enums,m.name=x)) (bj s x):=by
 have hm:=h.el
 have q:Ok (Sum.elim Tr fun y:Int=>y<s.enums.length∧(0≤y→∃m∈s.enums,m.name=x)) (Ao (Sv s x) Aj 0):=by
  refine Ok.loop (fun v:Nat=>v≤s.enums.length) (fun v:Nat=>s.enums.length-v) (by omega) (A3 (by omega)) fun v a=>?_
  dsimp only[Sv,hU,br,ix,vz,vw,vs,Au,ln,Ak,wa,Ah,br]
  (repeat' (first|with_reducible refine Ok.br (fun _=>?_) (fun _=>?_)|with_reducible refine Ok.pure ?_|with_reducible refine Ok.idx ?_ (fun _ _ _=>?_)|with_reducible refine Ok.if ?_ ?_))<;>first|exact⟨by omega,fun _=>⟨_,by assumption,Fg (by assumption)⟩⟩|(first|trivial|assumption|contradiction|omega|grind|(simp only[Bd.c,Bd.vl,Yf,Yd,AL]at*;grind))
 dsimp only[bj,hI,eL,jn,lr,lc]
 (repeat' (first|with_reducible refine Ok.br (fun _=>?_) (fun _=>?_)|with_reducible refine Ok.pure ?_|(with_reducible apply Ok.lb;(exact q);all_goals(intro _ _;try dsimp only))|with_reducible refine Ok.if ?_ ?_))<;>first|exact⟨by omega,fun h=>absurd h (by decide)⟩|(first|trivial|assumption|contradiction|omega|grind|(simp only[Bd.c,Bd.vl,Yf,Yd,AL]at*;grind))
theorem PE(v w:Val)(h:SzV v)(k:SzV w):Ok Tr (aB v w):=by
 obtain⟨_,_,_,_,_⟩:=h
 obtain⟨_,_,_,_,_⟩:=k
 dsimp only[aB,kg,vy,vw,vg,lr,wa,Ah]
 (repeat' (first|with_reducible refine Ok.br (fun _=>?_) (fun _=>?_)|with_reducible refine Ok.pure ?_|with_reducible refine Ok.if ?_ ?_))<;>(first|trivial|assumption|contradiction|omega|grind|(simp only[Bd.c,Bd.vl,Yf,Yd,AL]at*;grind))
def UH(v:Val):Prop:=v.list=[]∧v.pairs=[]∧v.slots=[]∧v.raws=[]∧(v.kind=7∨v.kind=8→v.bits=0)∧(¬(v.kind=7∨v.kind=8)→v.text=⟨#[]⟩)
def LM(n:Int)(v:Val):Prop:=1≤n∧n≤9∧v.kind=n∧UH v
theorem ZP8{n:Int}{v:Val}(h:SzV v)(e:Kj n v=some true):LM n v:=by
 obtain⟨p,q,r,s,t⟩:=h
 have k:v.list.length<4611686018427387904:=by omega
 have l:v.pairs.length<4611686018427387904:=by omega
 have m:v.slots.length<4611686018427387904:=by omega
 have o:v.raws.length<4611686018427387904:=by omega
 have hi:QG n=some (decide (1≤n)&&decide (n≤9)):=rfl
 dsimp only[Kj,S6,br,vz,vy,vw,lr,cl,clg,A2,br,aF,fZ,vz,vy,vw,lr,Ah,Qx,R6,lr]at e
 rw[hi]at e
 unfold LM UH
 simp only[Yi]at e
 generalize Qz v.text=w at e
 simp[k,l,m,o]at e
 split at e
 ·cases e
 ·rename_i c
  simp only[not_or,Decidable.not_not,Classical.not_imp,Int.not_lt]at c
  obtain⟨⟨⟨d,f⟩,b⟩,⟨⟨g,i⟩,j⟩,c6⟩:=c
  refine⟨d,f,b,g,i,j,c6,fun a=>?_,fun a=>?_⟩
  ·rw[b]at a
   simp only[a,YJ]at e
   split at e<;>simp_all
  ·rw[b]at a
   simp only[a,YR]at e
   split at e<;>simp_all
theorem PB(n:Int)(v:Val)(h:SzV v):Ok (fun b=>b=true→LM n v) (Kj n v):=by
 have a:=h.t
 have q:Ok Tr (Kj n v):=by
  have c:Ok Tr (QG n):=⟨_,rfl,trivial⟩
  dsimp only[Kj,S6,br,vz,vy,vw,lr,cl,clg,A2,br]
  (repeat' (first|with_reducible refine Ok.br (fun _=>?_) (fun _=>?_)|with_reducible refine Ok.pure ?_|(with_reducible apply Ok.bind;(exact c);intro _ _)|(with_reducible apply Ok.bind;(exact te _);intro _ _)|(with_reducible apply Ok.bind;(exact sU _);intro _ _)|(with_reducible apply Ok.bind;(exact lj _ a);intro _ _)|(with_reducible apply Ok.clg;(exact fun _=>c);intro _)|(with_reducible apply Ok.clg;(exact fun _=>te _);intro _)|(with_reducible apply Ok.clg;(exact fun _=>sU _);intro _)|(with_reducible apply Ok.clg;(exact fun _=>lj _ a);intro _)|with_reducible refine Ok.if ?_ ?_))<;>(first|trivial|assumption|contradiction|omega|grind|(simp only[Bd.c,Bd.vl,Yf,Yd,AL]at*;grind))
 obtain⟨b,e,_⟩:=q
 exact⟨b,e,fun d=>ZP8 h (d▸e)⟩
theorem sr(v:Val)(h:SzV v):Ok SzV (bA v):=by
 dsimp only[bA,fM,br,vw,lr,clg,br]
 (repeat' (first|with_reducible refine Ok.br (fun _=>?_) (fun _=>?_)|with_reducible refine Ok.pure ?_|(with_reducible apply Ok.bind;(exact sA _);intro _ _)|(with_reducible apply Ok.clg;(exact fun _=>sA _);intro _)|with_reducible refine Ok.if ?_ ?_))<;>first|exact h|exact⟨h.t,h.l,h.p,h.s,h.r⟩
theorem ZS5(x:Nt)(h:SzN x):Ok Tr (a2 x):=by
 dsimp only[a2,iF,vw,lr,cl,clg]
 (repeat' (first|with_reducible refine Ok.br (fun _=>?_) (fun _=>?_)|with_reducible refine Ok.pure ?_|(with_reducible apply Ok.bind;(exact ZI _);intro _ _)|(with_reducible apply Ok.bind;(exact PB _ _ h.v);intro _ _)|(with_reducible apply Ok.clg;(exact fun _=>ZI _);intro _)|(with_reducible apply Ok.clg;(exact fun _=>PB _ _ h.v);intro _)|with_reducible refine Ok.if ?_ ?_))<;>(first|trivial|assumption|contradiction|omega|grind|(simp only[Bd.c,Bd.vl,Yf,Yd,AL]at*;grind))
theorem ZSA(l:List Nt)(n:Int)(h:FZ l):Ok Tr (aY l n):=by
 obtain⟨b,a⟩:=h
 have q:Ok Ts (Ao (Su l n) Aj 0):=by
  refine Ok.loop (fun v:Nat=>v≤l.length) (fun v:Nat=>l.length-v) (by omega) (A3 (by omega)) fun v c=>?_
  dsimp only[Su,gJ,br,ix,A9,vz,vs,vg,Au,ln,Ak,cl,wa,wi,Ah,br]
  (repeat' (first|with_reducible refine Ok.br (fun _=>?_) (fun _=>?_)|with_reducible refine Ok.pure ?_|with_reducible refine Ok.idx ?_ (fun _ _ _=>?_)|(with_reducible apply Ok.bind;(exact ZI _);intro _ _)|(with_reducible apply Ok.bind;(exact ZSG _ _);intro _ _)|(with_reducible apply Ok.bind;(exact ZS5 _ (a _ (by assumption)));intro _ _)|with_reducible refine Ok.idxg ?_ (fun _=>?_)|with_reducible refine Ok.if ?_ ?_))<;>(first|trivial|assumption|contradiction|omega|grind|(simp only[Bd.c,Bd.vl,Yf,Yd,AL]at*;grind))
 dsimp only[aY,gj,fA,kf,br,vz,lr,lc,Ah,br]
 (repeat' (first|with_reducible refine Ok.br (fun _=>?_) (fun _=>?_)|with_reducible refine Ok.pure ?_|(with_reducible apply Ok.lb;(exact q);all_goals(intro _ _;try dsimp only))|with_reducible refine Ok.if ?_ ?_))<;>(first|trivial|assumption|contradiction|omega|grind|(simp only[Bd.c,Bd.vl,Yf,Yd,AL]at*;grind))
end Go.Proofs.YtleccgigifnfgaaGreat
namespace Go.Proofs.YtleccgigifnfgaaGreat
set_option linter.all false
open Go Go.Eng
theorem DM(d:ByteArray)(l:List Prb)(b:Bool)(n e:Int)(h:l.length<549755813887):Ok (fun y=>l.length≤y.length∧y.length≤l.length+1∧(b=true→l.length+1≤y.length)) (Bn d l b n e):=by
 dsimp only[Bn,W6,XB,WD,XA,vz,vw,lr,lc,ap,Gf,fl]
 (repeat' (first|with_reducible refine Ok.br (fun _=>?_) (fun _=>?_)|with_reducible refine Ok.pure ?_|with_reducible refine Ok.if ?_ ?_))<;>first|(first|trivial|assumption|contradiction|omega|grind|(simp only[Bd.c,Bd.vl,Yf,Yd,AL]at*;grind))|simp_all
theorem H3(d:ByteArray)(l:List Prb)(x:List Nt)(t n:Int)(h:l.length<549755813887)(a:FZ x):Ok (fun y=>l.length≤y.length∧y.length≤l.length+1) (Gn d l x t n):=by
 dsimp only[Gn,kA,i5,kz,im,vz,lr,lc,cl,fl]
 (repeat' (first|with_reducible refine Ok.br (fun _=>?_) (fun _=>?_)|with_reducible refine Ok.pure ?_|(with_reducible apply Ok.bind;(exact ZSA _ _ a);intro _ _)|(with_reducible apply Ok.bind;(exact DM _ _ _ _ _ h);intro _ _)|with_reducible refine Ok.if ?_ ?_))<;>(first|trivial|assumption|contradiction|omega|grind|(simp only[Bd.c,Bd.vl,Yf,Yd,AL]at*;grind))
theorem o96(d:ByteArray)(l:List Prb)(x:List Spn)(t n:Int)(h:l.length<500000000000)(f:x.length≤1048576):Ok (fun y=>l.length≤y.length∧y.length≤l.length+2*x.length) (MU d l x t n):=by
 have q:Ok (Sum.elim (fun y:List Prb=>l.length≤y.length∧y.length≤l.length+2*x.length) No) (Ao (SE d x t n) Aj (0,l)):=by
  refine Ok.loop (fun v:Nat×List Prb=>v.1≤x.length∧l.length≤v.2.length∧v.2.length≤l.length+2*v.1) (fun v:Nat×List Prb=>x.length-v.1) ⟨by omega,by simp,by simp⟩ (A3 (by omega)) fun v e=>?_
  obtain⟨i,r⟩:=v
  obtain⟨a,b,c⟩:=e
  dsimp only at a b c
  dsimp only[SE,kb,eW,iv,jK,jh,iq,br,ix,A9,vz,vs,vg,ln,Ak,lc,wa,wi,fl,Ah,br]
  (repeat' (first|with_reducible refine Ok.br (fun _=>?_) (fun _=>?_)|with_reducible refine Ok.pure ?_|with_reducible refine Ok.idx ?_ (fun _ _ _=>?_)|(with_reducible apply Ok.bind;(exact DM _ _ _ _ _ (by omega));intro _ _)|with_reducible refine Ok.idxg ?_ (fun _=>?_)|with_reducible refine Ok.if ?_ ?_))<;>(first|trivial|assumption|contradiction|omega|grind|(simp only[Bd.c,Bd.vl,Yf,Yd,AL]at*;grind))
 dsimp only[MU,iN,eE,vz,lr,lc,fl]
 (repeat' (first|with_reducible refine Ok.br (fun _=>?_) (fun _=>?_)|with_reducible refine Ok.pure ?_|(with_reducible apply Ok.lb;(exact q);all_goals(intro _ _;try dsimp only))|with_reducible refine Ok.if ?_ ?_))<;>(first|trivial|assumption|contradiction|omega|grind|(simp only[Bd.c,Bd.vl,Yf,Yd,AL]at*;grind))
theorem lg(s:Scm)(w:Int)(h:SzS s):Ok (fun y=>y.length≤3145728) (aQ s w):=by
 have a:=h.ml
 have b:=h.el
 have j:=h.wl
 have e:Ok (Sum.elim (fun y:List ByteArray=>y.length≤1048576) No) (Ao (S7 s w) Aj ([],0)):=by
  refine Ok.loop (fun v:List ByteArray×Nat=>v.2≤s.messages.length∧v.1.length≤v.2) (fun v:List ByteArray×Nat=>s.messages.length-v.2) ⟨by omega,by simp⟩ (A3 (by omega)) fun v c=>?_
  obtain⟨r,i⟩:=v
  obtain⟨a,b⟩:=c
  dsimp only at a b
  dsimp only[S7,Wz,br,ix,vz,vy,vw,vs,v2,ln,Ak,ap,wa,fl,Ah,br]
  (repeat' (first|with_reducible refine Ok.br (fun _=>?_) (fun _=>?_)|with_reducible refine Ok.pure ?_|with_reducible refine Ok.idx ?_ (fun _ _ _=>?_)|with_reducible refine Ok.if ?_ ?_))<;>(first|trivial|assumption|contradiction|omega|grind|(simp only[Bd.c,Bd.vl,Yf,Yd,AL]at*;grind))
 have f:∀r:List ByteArray,r.length≤1048576→Ok (Sum.elim (fun y:List ByteArray=>y.length≤2097152) No) (Ao (Tj s w) Aj (r,0)):=by
  intro r d
  refine Ok.loop (fun v:List ByteArray×Nat=>v.2≤s.enums.length∧v.1.length≤1048576+v.2) (fun v:List ByteArray×Nat=>s.enums.length-v.2) ⟨by omega,by simpa using d⟩ (A3 (by omega)) fun v c=>?_
  obtain⟨r,i⟩:=v
  obtain⟨a,b⟩:=c
  dsimp only at a b
  dsimp only[Tj,VO,br,ix,vz,vy,vw,vs,ln,Ak,ap,wa,fl,Ah,br]
  (repeat' (first|with_reducible refine Ok.br (fun _=>?_) (fun _=>?_)|with_reducible refine Ok.pure ?_|with_reducible refine Ok.idx ?_ (fun _ _ _=>?_)|with_reducible refine Ok.if ?_ ?_))<;>(first|trivial|assumption|contradiction|omega|grind|(simp only[Bd.c,Bd.vl,Yf,Yd,AL]at*;grind))
 have g:∀r:List ByteArray,r.length≤2097152→Ok (Sum.elim (fun y:List ByteArray=>y.length≤3145728) No) (Ao (SW s w) Aj (r,0)):=by
  intro r d
  refine Ok.loop (fun v:List ByteArray×Nat=>v.2≤s.services.length∧v.1.length≤2097152+v.2) (fun v:List ByteArray×Nat=>s.services.length-v.2) ⟨by omega,by simpa using d⟩ (A3 (by omega)) fun v c=>?_
  obtain⟨r,i⟩:=v
  obtain⟨a,b⟩:=c
  dsimp only at a b
  dsimp only[SW,XK,br,ix,vz,vy,vw,vs,ln,Ak,ap,wa,fl,Ah,br]
  (repeat' (first|with_reducible refine Ok.br (fun _=>?_) (fun _=>?_)|with_reducible refine Ok.pure ?_|with_reducible refine Ok.idx ?_ (fun _ _ _=>?_)|with_reducible refine Ok.if ?_ ?_))<;>(first|trivial|assumption|contradiction|omega|grind|(simp only[Bd.c,Bd.vl,Yf,Yd,AL]at*;grind))
 dsimp only[aQ,VY,Vn,Wu,V7,VH,VM,vz,vw,lr,lc,fl,fr]
 (repeat' (first|with_reducible refine Ok.br (fun _=>?_) (fun _=>?_)|with_reducible refine Ok.pure ?_|(with_reducible apply Ok.lb;(exact e);all_goals(intro _ _;try dsimp only))|(with_reducible apply Ok.lb;(exact f _ (by assumption));all_goals(intro _ _;try dsimp only))|(with_reducible apply Ok.lb;(exact g _ (by assumption));all_goals(intro _ _;try dsimp only))|with_reducible refine Ok.if ?_ ?_))<;>(first|trivial|assumption|contradiction|omega|grind|(simp only[Bd.c,Bd.vl,Yf,Yd,AL]at*;grind))
theorem o63(l:List ByteArray)(h:l.length≤3145728):Ok Tr (ba l):=by
 have q:Ok Ts (Ao (TH l) Aj 1):=by
  refine Ok.loop (fun v:Nat=>1≤v∧v≤l.length+1) (fun v:Nat=>l.length+1-v) ⟨by omega,by omega⟩ (by unfold Aj;omega) fun v a=>?_
  dsimp only[TH,W3,br,ix,B1,vz,vs,Au,ln,Ak,wa,wi,Ah,br]
  (repeat' (first|with_reducible refine Ok.br (fun _=>?_) (fun _=>?_)|with_reducible refine Ok.pure ?_|with_reducible refine Ok.idx ?_ (fun _ _ _=>?_)|with_reducible refine Ok.if ?_ ?_))<;>(first|trivial|assumption|contradiction|omega|grind|(simp only[Bd.c,Bd.vl,Yf,Yd,AL]at*;grind))
 dsimp only[ba,Xm,Vb,U3,lr,lc]
 (repeat' (first|with_reducible refine Ok.br (fun _=>?_) (fun _=>?_)|with_reducible refine Ok.pure ?_|(with_reducible apply Ok.lb;(exact q);all_goals(intro _ _;try dsimp only))|with_reducible refine Ok.if ?_ ?_))<;>(first|trivial|assumption|contradiction|omega|grind|(simp only[Bd.c,Bd.vl,Yf,Yd,AL]at*;grind))
theorem ZS9(l:List ByteArray)(x:ByteArray)(h:l.length≤3145728):Ok Tr (MT l x):=by
 have q:Ok Ts (Ao (KU l x) Aj 0):=by
  refine Ok.loop (fun v:Nat=>v≤l.length) (fun v:Nat=>l.length-v) (by omega) (by unfold Aj;omega) fun v a=>?_
  dsimp only[KU,SB,br,ix,vz,vs,Au,ln,Ak,wa,Ah,br]
  (repeat' (first|with_reducible refine Ok.br (fun _=>?_) (fun _=>?_)|with_reducible refine Ok.pure ?_|with_reducible refine Ok.idx ?_ (fun _ _ _=>?_)|with_reducible refine Ok.if ?_ ?_))<;>(first|trivial|assumption|contradiction|omega|grind|(simp only[Bd.c,Bd.vl,Yf,Yd,AL]at*;grind))
 dsimp only[MT,RX,R8,RW,lr,lc]
 (repeat' (first|with_reducible refine Ok.br (fun _=>?_) (fun _=>?_)|with_reducible refine Ok.pure ?_|(with_reducible apply Ok.lb;(exact q);all_goals(intro _ _;try dsimp only))|with_reducible refine Ok.if ?_ ?_))<;>(first|trivial|assumption|contradiction|omega|grind|(simp only[Bd.c,Bd.vl,Yf,Yd,AL]at*;grind))
theorem zZ(l k:List ByteArray)(h:l.length≤3145728)(a:k.length≤3145728):Ok Tr (aK l k):=by
 have q:Ok Ts (Ao (TU l k) Aj 0):=by
  refine Ok.loop (fun v:Nat=>v≤l.length) (fun v:Nat=>l.length-v) (by omega) (by unfold Aj;omega) fun v b=>?_
  dsimp only[TU,Xe,br,ix,vz,vs,Au,ln,Ak,cl,wa,Ah,br]
  (repeat' (first|with_reducible refine Ok.br (fun _=>?_) (fun _=>?_)|with_reducible refine Ok.pure ?_|with_reducible refine Ok.idx ?_ (fun _ _ _=>?_)|(with_reducible apply Ok.bind;(exact ZS9 _ _ a);intro _ _)|with_reducible refine Ok.if ?_ ?_))<;>(first|trivial|assumption|contradiction|omega|grind|(simp only[Bd.c,Bd.vl,Yf,Yd,AL]at*;grind))
 dsimp only[aK,Wy,Wa,Wx,lr,lc]
 (repeat' (first|with_reducible refine Ok.br (fun _=>?_) (fun _=>?_)|with_reducible refine Ok.pure ?_|(with_reducible apply Ok.lb;(exact q);all_goals(intro _ _;try dsimp only))|with_reducible refine Ok.if ?_ ?_))<;>(first|trivial|assumption|contradiction|omega|grind|(simp only[Bd.c,Bd.vl,Yf,Yd,AL]at*;grind))
def LP(s:Scm)(f:Fld):Prop:=(f.type.kind=9→∃m∈s.enums,m.name=f.type.name)∧(f.type.kind=10→(∃m∈s.messages,m.name=f.type.name)∧f.card≠3)∧1≤f.type.kind∧f.type.kind≤10
theorem z7(s:Scm)(f:Fld)(h:SzS s):Ok (fun b=>b=true→LP s f) (bC s f):=by
 unfold LP
 dsimp only[bC,iO,br,vw,lr,cl,br]
 (repeat' (first|with_reducible refine Ok.br (fun _=>?_) (fun _=>?_)|with_reducible refine Ok.pure ?_|(with_reducible apply Ok.bind;(exact Zw _ _ h);intro _ _)|(with_reducible apply Ok.bind;(exact Ot _ _ h);intro _ _)|with_reducible refine Ok.if ?_ ?_))
 ·intro a
  have d:f.type.kind=9:=Fg (by assumption)
  have e:=(show _<_∧(_→∃m∈s.enums,m.name=f.type.name)by assumption).2 (Fg a)
  exact⟨fun _=>e,fun k=>by omega,by omega,by omega⟩
 ·intro a
  have c:f.type.kind=10:=Fg (by assumption)
  rw[Ya]at a
  have e:=(show _<_∧(_→∃m∈s.messages,m.name=f.type.name)by assumption).2 (Fg a.1)
  exact⟨fun k=>by omega,fun _=>⟨e,by simpa using a.2⟩,by omega,by omega⟩
 ·intro a
  simp only[Ya,Ye]at a
  exact⟨fun k=>by omega,fun k=>by omega,by omega,by omega⟩
theorem z8(m:Msg)(i:Nat)(h:SzM m)(hi:i<m.fields.length):Ok Tr (aO m i):=by
 have hl:=h.fl
 have q:∀e,Ok (Sum.elim (fun b:Bool=>b=true→0<i) Tr) (Ao (R7 m i e) Aj (false,0)):=by
  intro e
  refine Ok.loop (fun v:Bool×Nat=>v.2≤m.fields.length∧(v.1=true→0<i)) (fun v:Bool×Nat=>m.fields.length-v.2) ⟨by omega,by simp⟩ (A3 (by omega)) fun v d=>?_
  obtain⟨b,j⟩:=v
  obtain⟨a,c⟩:=d
  dsimp only at a c
  dsimp only[R7,hZ,br,ix,A9,vz,vw,vs,Au,ln,Ak,wa,Ah,br]
  (repeat' (first|with_reducible refine Ok.br (fun _=>?_) (fun _=>?_)|with_reducible refine Ok.pure ?_|with_reducible refine Ok.idx ?_ (fun _ _ _=>?_)|with_reducible refine Ok.idxg ?_ (fun _=>?_)|with_reducible refine Ok.if ?_ ?_))<;>(first|trivial|assumption|contradiction|omega|grind|(simp only[Bd.c,Bd.vl,Yf,Yd,AL]at*;grind))
 dsimp only[aO,iU,kn,eX,br,B1,A9,vw,vg,lr,lc,clg,wi,br]
 (repeat' (first|with_reducible refine Ok.br (fun _=>?_) (fun _=>?_)|with_reducible refine Ok.pure ?_|with_reducible refine Ok.idx ?_ (fun _ _ _=>?_)|(with_reducible apply Ok.lb;(exact q _);all_goals(intro _ _;try dsimp only))|(with_reducible apply Ok.bind;(exact Jt _ ((h.f _ (by assumption)).u));intro _ _)|(with_reducible apply Ok.clg;(exact fun _=>Jt _ ((h.f _ (by assumption)).u));intro _)|with_reducible refine Ok.idxg ?_ (fun _=>?_)|with_reducible refine Ok.if ?_ ?_))<;>(first|trivial|assumption|contradiction|omega|grind|(simp only[Bd.c,Bd.vl,Yf,Yd,AL]at*;grind))
def H6(f:Fld):Prop:=f.hasDefault=true→LM f.type.kind f.dflt∧f.card=2∧f.union=⟨#[]⟩
theorem o94(s:Scm)(f:Fld)(h:SzS s)(a:SzF f):Ok (fun b=>b=true→H6 f) (aP s f):=by
 have g:SzV (.mk 0 0 ⟨#[]⟩ [] [] [] []):=by constructor<;>decide
 have he:∀y,y∈s.enums→y.items.length≤1048576:=fun y hy=>(h.e y hy).il
 have q:∀y:Int,0≤y→y<s.enums.length→Ok Ts (Ao (Sc s f y) Aj 0):=by
  intro y hy k
  refine Ok.loop (fun v:Nat=>v≤1048576) (fun v:Nat=>1048576-v) (by omega) (A3 (by omega)) fun v l=>?_
  dsimp only[Sc,fU,br,ix,B1,vz,vw,vs,Au,ln,Ak,wa,Ah,br]
  (repeat' (first|with_reducible refine Ok.br (fun _=>?_) (fun _=>?_)|with_reducible refine Ok.pure ?_|with_reducible refine Ok.idx ?_ (fun _ _ _=>?_)|with_reducible refine Ok.if ?_ ?_))<;>(first|trivial|assumption|contradiction|omega|grind|(simp only[Bd.c,Bd.vl,Yf,Yd,AL]at*;grind))
 have key:∀(c d:Bool),((!((!decide (f.card=2))||(!decide (f.union=⟨#[]⟩))))=true→c=true→LM f.type.kind f.dflt)→((((!decide (f.card=2))||(!decide (f.union=⟨#[]⟩)))||!c)||!d)=false→H6 f:=fun c d i j _=>by
  cases c<;>cases d<;>simp_all
 have e:(!f.hasDefault)=true→H6 f:=fun i j=>by simp_all
 dsimp only[aP,kd,gk,fJ,br,vw,lr,lc,cl,clg,br]
 (repeat' (first|with_reducible refine Ok.br (fun _=>?_) (fun _=>?_)|with_reducible refine Ok.pure ?_|(with_reducible apply Ok.lb;(exact q _ (by(first|trivial|assumption|contradiction|omega|solve_by_elim|(simp only[Ya,Yj,Yk,Yg,Ym,Ye,Yb]at*;omega)|grind)) (by(first|trivial|assumption|contradiction|omega|solve_by_elim|(simp only[Ya,Yj,Yk,Yg,Ym,Ye,Yb]at*;omega)|grind)));all_goals(intro _ _;try dsimp only))|(with_reducible apply Ok.bind;(exact PE _ _ a.d g);intro _ _)|(with_reducible apply Ok.bind;(exact PB _ _ a.d);intro _ _)|(with_reducible apply Ok.bind;(exact sr _ a.d);intro _ _)|(with_reducible apply Ok.bind;(exact PE _ _ a.d (by solve_by_elim));intro _ _)|(with_reducible apply Ok.bind;(exact Zw _ _ h);intro _ _)|(with_reducible apply Ok.clg;(exact fun _=>PE _ _ a.d g);intro _)|(with_reducible apply Ok.clg;(exact fun _=>PB _ _ a.d);intro _)|(with_reducible apply Ok.clg;(exact fun _=>sr _ a.d);intro _)|(with_reducible apply Ok.clg;(exact fun _=>PE _ _ a.d (by solve_by_elim));intro _)|(with_reducible apply Ok.clg;(exact fun _=>Zw _ _ h);intro _)|with_reducible refine Ok.if ?_ ?_))<;>first|(intro _;exact key _ _ (by assumption) (by assumption))|(intro _;exact e (by assumption))|(first|trivial|assumption|contradiction|omega|grind|(simp only[Bd.c,Bd.vl,Yf,Yd,AL]at*;grind))
theorem o87(s:Scm)(m:Msg)(l:List Bool)(h:SzS s)(hm:SzM m)(hl:l.length=s.messages.length):Ok Tr (aR s m l):=by
 have a:=hm.fl
 have q:Ok Ts (Ao (SH s m l) Aj 0):=by
  refine Ok.loop (fun v:Nat=>v≤m.fields.length) (fun v:Nat=>m.fields.length-v) (by omega) (A3 (by omega)) fun v b=>?_
  dsimp only[SH,kC,br,ix,A9,vz,vw,vs,Au,ln,Ak,cl,wa,Ah,br]
  (repeat' (first|with_reducible refine Ok.br (fun _=>?_) (fun _=>?_)|with_reducible refine Ok.pure ?_|with_reducible refine Ok.idx ?_ (fun _ _ _=>?_)|(with_reducible apply Ok.bind;(exact Ot _ _ h);intro _ _)|with_reducible refine Ok.idxg ?_ (fun _=>?_)|with_reducible refine Ok.if ?_ ?_))<;>(first|trivial|assumption|contradiction|omega|grind|(simp only[Bd.c,Bd.vl,Yf,Yd,AL]at*;grind))
 dsimp only[aR,gT,jY,gU,lr,lc]
 (repeat' (first|with_reducible refine Ok.br (fun _=>?_) (fun _=>?_)|with_reducible refine Ok.pure ?_|(with_reducible apply Ok.lb;(exact q);all_goals(intro _ _;try dsimp only))|with_reducible refine Ok.if ?_ ?_))<;>(first|trivial|assumption|contradiction|omega|grind|(simp only[Bd.c,Bd.vl,Yf,Yd,AL]at*;grind))
theorem o4(s:Scm)(m:Msg)(l:List Bool)(h:SzS s)(hm:SzM m)(hl:l.length=s.messages.length):Ok Tr (QC s m l):=by
 have a:=hm.fl
 have q:Ok Ts (Ao (Rp s m l) Aj 0):=by
  refine Ok.loop (fun v:Nat=>v≤m.fields.length) (fun v:Nat=>m.fields.length-v) (by omega) (A3 (by omega)) fun v b=>?_
  dsimp only[Rp,dI,br,ix,vz,vw,vs,vg,Au,ln,Ak,cl,wa,Ci,zG,fl,Ah,br,Ci]
  (repeat' (first|with_reducible refine Ok.br (fun _=>?_) (fun _=>?_)|with_reducible refine Ok.pure ?_|with_reducible refine Ok.idx ?_ (fun _ _ _=>?_)|(with_reducible apply Ok.bind;(exact Ot _ _ h);intro _ _)|with_reducible refine Ok.if ?_ ?_))<;>(first|trivial|assumption|contradiction|omega|grind|(simp only[Bd.c,Bd.vl,Yf,Yd,AL]at*;grind))
 dsimp only[QC,dA,dG,dJ,vz,lr,lc,fl]
 (repeat' (first|with_reducible refine Ok.br (fun _=>?_) (fun _=>?_)|with_reducible refine Ok.pure ?_|(with_reducible apply Ok.lb;(exact q);all_goals(intro _ _;try dsimp only))|with_reducible refine Ok.if ?_ ?_))<;>(first|trivial|assumption|contradiction|omega|grind|(simp only[Bd.c,Bd.vl,Yf,Yd,AL]at*;grind))
theorem z1(s:Scm)(h:SzS s):Ok (fun y=>y.length=s.messages.length) (aN s):=by
 have g:=h.ml
 have q:∀(v:Nat) (r:List Bool),r.length=s.messages.length→Ok (Sum.elim (fun y:Bool×List Bool=>y.2.length=s.messages.length) No) (Ao (T3 s v) Aj (false,0,r)):=by
  intro w r e
  refine Ok.loop (fun v:Bool×Nat×List Bool=>v.2.1≤s.messages.length∧v.2.2.length=s.messages.length) (fun v:Bool×Nat×List Bool=>s.messages.length-v.2.1) ⟨by simp,e⟩ (A3 (by simp;omega)) fun v d=>?_
  obtain⟨b,i,r⟩:=v
  obtain⟨c,a⟩:=d
  dsimp only at c a
  dsimp only[T3,V1,br,A9,vz,vw,vs,v2,ln,Ak,Dt,wa,ir,ca,st,rn,fl,Ah,br]
  (repeat' (first|with_reducible refine Ok.br (fun _=>?_) (fun _=>?_)|with_reducible refine Ok.pure ?_|with_reducible refine Ok.idx ?_ (fun _ _ _=>?_)|(with_reducible apply Ok.bind;(exact o4 _ _ _ h (h.m _ (by grind)) a);intro _ _)|(with_reducible apply Ok.clg;(exact fun _=>o4 _ _ _ h (h.m _ (by grind)) a);intro _)|with_reducible refine Ok.idxg ?_ (fun _=>?_)|with_reducible refine Ok.if ?_ ?_))<;>(first|trivial|assumption|contradiction|omega|grind|(simp only[Bd.c,Bd.vl,Yf,Yd,AL]at*;grind))
 have f:Ok (Sum.elim (fun y:List Bool=>y.length=s.messages.length) No) (Ao (S3 s) Aj (true,0,List.replicate s.messages.length false)):=by
  refine Ok.loop (fun v:Bool×Nat×List Bool=>v.2.1≤s.messages.length∧v.2.2.length=s.messages.length) (fun v:Bool×Nat×List Bool=>s.messages.length-v.2.1) ⟨by simp,by simp⟩ (A3 (by simp;omega)) fun v d=>?_
  obtain⟨b,i,r⟩:=v
  obtain⟨c,a⟩:=d
  dsimp only at c a
  dsimp only[S3,WX,WK,WN,br,vz,vw,vs,v2,ln,Ak,lc,wa,fl,Ah,br]
  (repeat' (first|with_reducible refine Ok.br (fun _=>?_) (fun _=>?_)|with_reducible refine Ok.pure ?_|(with_reducible apply Ok.lb;(exact q _ _ a);all_goals(intro _ _;try dsimp only))|with_reducible refine Ok.if ?_ ?_))<;>(first|trivial|assumption|contradiction|omega|grind|(simp only[Bd.c,Bd.vl,Yf,Yd,AL]at*;grind))
 dsimp only[aN,Vq,U2,VL,vz,vw,lr,lc,ms,fl,fr,Ah]
 (repeat' (first|with_reducible refine Ok.br (fun _=>?_) (fun _=>?_)|with_reducible refine Ok.pure ?_|(with_reducible apply Ok.lb;(exact f);all_goals(intro _ _;try dsimp only))|with_reducible refine Ok.if ?_ ?_))<;>(first|trivial|assumption|contradiction|omega|grind|(simp only[Bd.c,Bd.vl,Yf,Yd,AL]at*;grind))
def CX(l:List Fld)(n:Nat):Prop:=∀(i:Nat) (a b:Fld),i+1<n→l[i]?=some a→l[i+1]?=some b→a.num<b.num
theorem ZvN{l:List Fld}{v:Nat}{a b:Fld}(h:CX l v)(j:l[v]?=some a)(k:0<v→l[v-1]?=some b∧b.num<a.num):CX l (v+1):=by
 intro i x y hi c hy
 by_cases e:i+1<v
 ·exact h i x y e c hy
 ·have f:i+1=v:=by omega
  have g:v-1=i:=by omega
  rw[f]at hy
  obtain⟨d,m⟩:=k (by omega)
  rw[g]at d
  rw[j]at hy
  rw[d]at c
  cases c
  cases hy
  exact m
structure GdM (s:Scm) (m:Msg):Prop where
 asc:CX m.fields m.fields.length
 df:∀(j:Nat) (f:Fld),m.fields[j]?=some f→H6 f∧LG f∧LP s f
theorem Zj(d:ByteArray)(b:Bool)(n e:Int):Ok (fun y=>y.length≤1) (Bn d [] b n e):=(DM d [] b n e (by simp)).mono fun y h=>by simpa using h.2.1
theorem o66(s:Scm)(m:Msg)(l:List Bool)(h:SzS s)(hm:SzM m)(hl:l.length=s.messages.length):Ok (fun y=>y.length≤67108864∧(y.length=0→GdM s m)) (bf s m l):=by
 have H:=hm.fl
 have q:=hm.r
 have B:=hm.gl
 have F:∀(v:Nat) (r:List Prb) (e:Fld),v≤m.fields.length→Ok (Sum.elim Tr No) (Ao (To s m l v r e) Aj (false,0)):=by
  intro w r e J
  refine Ok.loop (fun v:Bool×Nat=>v.2≤w) (fun v:Bool×Nat=>w-v.2) (by simp) (A3 (by omega)) fun v k=>?_
  obtain⟨b,i⟩:=v
  dsimp only at k
  dsimp only[To,XY,br,ix,vz,vw,vs,ln,Ak,wa,fl,br]
  (repeat' (first|with_reducible refine Ok.br (fun _=>?_) (fun _=>?_)|with_reducible refine Ok.pure ?_|with_reducible refine Ok.idx ?_ (fun _ _ _=>?_)|with_reducible refine Ok.if ?_ ?_))<;>(first|trivial|assumption|contradiction|omega|grind|(simp only[Bd.c,Bd.vl,Yf,Yd,AL]at*;grind))
 have E:∀a:List Prb,a.length≤9→Ok (Sum.elim (fun y:List Prb=>y.length≤10485769∧(y.length=0→GdM s m)) No) (Ao (Td s m l) Aj (0,a)):=by
  intro a d
  refine Ok.loop (fun v:Nat×List Prb=>v.1≤m.fields.length∧v.2.length≤9+10*v.1∧(v.2.length=0→CX m.fields v.1∧∀(j:Nat) (f:Fld),j<v.1→m.fields[j]?=some f→H6 f∧LG f∧LP s f)) (fun v:Nat×List Prb=>m.fields.length-v.1) ⟨by simp,by simpa using d,fun _=>⟨fun i x y hi=>by simp at hi,fun j f n=>by simp at n⟩⟩ (A3 (by omega)) fun v k=>?_
  obtain⟨v,r⟩:=v
  obtain⟨t,u,c⟩:=k
  dsimp only at t u c
  dsimp only[Td,gR,fu,iK,i6,gH,eT,jT,fd,kK,gY,iA,eY,kq,iJ,ff,eR,Xq,XT,Wj,U9,WP,WY,W4,Vs,br,ix,A9,vz,vw,vs,vg,ln,Ak,lc,cl,clg,wa,wi,fl,Ah,br]
  (repeat' (first|with_reducible refine Ok.br (fun _=>?_) (fun _=>?_)|with_reducible refine Ok.pure ?_|with_reducible refine Ok.idx ?_ (fun _ _ _=>?_)|(with_reducible apply Ok.lb;(exact F _ _ _ (by omega));all_goals(intro _ _;try dsimp only))|(with_reducible apply Ok.bind;(exact DM _ _ _ _ _ (by omega));intro _ _)|(with_reducible apply Ok.bind;(exact Jt _ (hm.f _ (by assumption)).n);intro _ _)|(with_reducible apply Ok.bind;(exact li _ _ q);intro _ _)|(with_reducible apply Ok.bind;(exact z2 _ _ B);intro _ _)|(with_reducible apply Ok.bind;(exact z6 _);intro _ _)|(with_reducible apply Ok.bind;(exact z7 _ _ h);intro _ _)|(with_reducible apply Ok.bind;(exact z8 _ _ hm (by(first|trivial|assumption|contradiction|omega|solve_by_elim|(simp only[Ya,Yj,Yk,Yg,Ym,Ye,Yb]at*;omega)|grind)));intro _ _)|(with_reducible apply Ok.bind;(exact o94 _ _ h (hm.f _ (by assumption)));intro _ _)|(with_reducible apply Ok.bind;(exact H3 _ _ _ _ _ (by omega) (hm.f _ (by assumption)).o);intro _ _)|(with_reducible apply Ok.clg;(exact fun _=>DM _ _ _ _ _ (by omega));intro _)|(with_reducible apply Ok.clg;(exact fun _=>Jt _ (hm.f _ (by assumption)).n);intro _)|(with_reducible apply Ok.clg;(exact fun _=>li _ _ q);intro _)|(with_reducible apply Ok.clg;(exact fun _=>z2 _ _ B);intro _)|(with_reducible apply Ok.clg;(exact fun _=>z6 _);intro _)|(with_reducible apply Ok.clg;(exact fun _=>z7 _ _ h);intro _)|(with_reducible apply Ok.clg;(exact fun _=>z8 _ _ hm (by(first|trivial|assumption|contradiction|omega|solve_by_elim|(simp only[Ya,Yj,Yk,Yg,Ym,Ye,Yb]at*;omega)|grind)));intro _)|(with_reducible apply Ok.clg;(exact fun _=>o94 _ _ h (hm.f _ (by assumption)));intro _)|(with_reducible apply Ok.clg;(exact fun _=>H3 _ _ _ _ _ (by omega) (hm.f _ (by assumption)).o);intro _)|with_reducible refine Ok.idxg ?_ (fun _=>?_)|with_reducible refine Ok.if ?_ ?_))
  all_goals try (first|trivial|assumption|contradiction|omega|solve_by_elim|(simp only[Ya,Yj,Yk,Yg,Ym,Ye,Yb]at*;omega)|grind)
  have D:=‹decide (0<(v:Int))=true→m.fields[((v:Int)-1).toNat]?=some (m.fields.getD ((v:Int)-1).toNat Rw.z)∧_›
  have he:=‹m.fields[v]?=some _›
  dsimp only
  refine⟨⟨by(first|trivial|assumption|contradiction|omega|solve_by_elim|(simp only[Ya,Yj,Yk,Yg,Ym,Ye,Yb]at*;omega)|grind),by omega,fun p=>⟨ZvN (b:=m.fields.getD ((v:Int)-1).toNat Rw.z) (c (by omega)).1 he fun k=>?_,fun j f n g=>?_⟩⟩,by(first|trivial|assumption|contradiction|omega|solve_by_elim|(simp only[Ya,Yj,Yk,Yg,Ym,Ye,Yb]at*;omega)|grind)⟩
  have ev:((v:Int)-1).toNat=v-1:=by omega
  refine⟨ev▸(D (Y6 (by omega))).1,?_⟩
  rcases Int.lt_or_le (m.fields.getD ((v:Int)-1).toNat Rw.z).num (Fld.num _)with A|z
  ·exact A
  ·exfalso
   have I:=Ya _ _▸And.intro (Y6 (show(0:Int)<v by omega)) (Y6 z)
   grind
  ·rcases Nat.lt_or_eq_of_le (Nat.le_of_lt_succ n)with n|rfl
   ·exact(c (by omega)).2 j f n g
   ·rw[he]at g
    cases g
    refine⟨(show _=true→H6 _ by assumption) (OR fun o=>?_),(show _=true→LG _ by assumption) (OR fun o=>?_),(show _=true→LP s _ by assumption) (OR fun o=>?_)⟩
    all_goals(
     rw[Bool.not_eq_true]at o
     subst o
     simp only[C2,Gk]at*
     omega)
  have C:v=m.fields.length:=by(first|trivial|assumption|contradiction|omega|solve_by_elim|(simp only[Ya,Yj,Yk,Yg,Ym,Ye,Yb]at*;omega)|grind)
  subst C
  exact⟨by(first|trivial|assumption|contradiction|omega|solve_by_elim|(simp only[Ya,Yj,Yk,Yg,Ym,Ye,Yb]at*;omega)|grind),fun p=>⟨(c p).1,fun j f g=>(c p).2 j f (Yn.1 g).1 g⟩⟩
 have G:∀a:List Prb,a.length≤20000000→Ok (Sum.elim (fun y:List Prb=>a.length≤y.length∧y.length≤22000000) No) (Ao (Tk s m l) Aj (0,a)):=by
  intro a d
  refine Ok.loop (fun v:Nat×List Prb=>v.1≤m.gone.length∧v.2.length≤20000000+v.1∧a.length≤v.2.length) (fun v:Nat×List Prb=>m.gone.length-v.1) ⟨by simp,by simpa using d,by simp⟩ (A3 (by omega)) fun v k=>?_
  obtain⟨v,r⟩:=v
  obtain⟨t,u,c⟩:=k
  dsimp only at t u c
  dsimp only[Tk,jA,jy,jg,fN,br,ix,vz,vw,vs,ln,Ak,lc,cl,wa,fl,Ah,br]
  (repeat' (first|with_reducible refine Ok.br (fun _=>?_) (fun _=>?_)|with_reducible refine Ok.pure ?_|with_reducible refine Ok.idx ?_ (fun _ _ _=>?_)|(with_reducible apply Ok.bind;(exact DM _ _ _ _ _ (by omega));intro _ _)|(with_reducible apply Ok.bind;(exact lj _ (hm.g _ (by assumption)));intro _ _)|with_reducible refine Ok.if ?_ ?_))<;>(first|trivial|assumption|contradiction|omega|grind|(simp only[Bd.c,Bd.vl,Yf,Yd,AL]at*;grind))
 dsimp only[bf,kP,gc,jR,fe,gC,jS,eZ,jq,jt,j4,kB,eV,kH,fS,vz,vy,vw,lr,lc,cl,fl,fr,Ah]
 (repeat' (first|with_reducible refine Ok.br (fun _=>?_) (fun _=>?_)|with_reducible refine Ok.pure ?_|(with_reducible apply Ok.lb;(exact E _ (by(first|trivial|assumption|contradiction|omega|solve_by_elim|(simp only[Ya,Yj,Yk,Yg,Ym,Ye,Yb]at*;omega)|grind)));all_goals(intro _ _;try dsimp only))|(with_reducible apply Ok.lb;(exact G _ (by omega));all_goals(intro _ _;try dsimp only))|(with_reducible apply Ok.bind;(exact lh _ hm.n);intro _ _)|(with_reducible apply Ok.bind;(exact Zj _ _ _ _);intro _ _)|(with_reducible apply Ok.bind;(exact DM _ _ _ _ _ (by omega));intro _ _)|(with_reducible apply Ok.bind;(exact H3 _ _ _ _ _ (by omega) hm.o);intro _ _)|(with_reducible apply Ok.bind;(exact o96 _ _ _ _ _ (by omega) q);intro _ _)|(with_reducible apply Ok.bind;(exact o87 _ _ _ h hm hl);intro _ _)|with_reducible refine Ok.if ?_ ?_))<;>(first|trivial|assumption|contradiction|omega|grind|(simp only[Bd.c,Bd.vl,Yf,Yd,AL]at*;grind))
theorem o67(e:Enm)(hm:SzE e):Ok (fun y=>y.length≤67108864) (aG e):=by
 have l:=hm.il
 have f:=hm.r
 have k:∀(v:Nat) (r:List Prb) (x:Itm),v≤e.items.length→Ok (Sum.elim Tr No) (Ao (T6 e v r x) Aj (false,0)):=by
  intro w r x m
  refine Ok.loop (fun v:Bool×Nat=>v.2≤w) (fun v:Bool×Nat=>w-v.2) (by simp) (A3 (by omega)) fun v c=>?_
  obtain⟨b,i⟩:=v
  dsimp only at c
  dsimp only[T6,X4,br,ix,vz,vw,vs,ln,Ak,wa,fl,br]
  (repeat' (first|with_reducible refine Ok.br (fun _=>?_) (fun _=>?_)|with_reducible refine Ok.pure ?_|with_reducible refine Ok.idx ?_ (fun _ _ _=>?_)|with_reducible refine Ok.if ?_ ?_))<;>(first|trivial|assumption|contradiction|omega|grind|(simp only[Bd.c,Bd.vl,Yf,Yd,AL]at*;grind))
 have j:∀d:List Prb,d.length≤9→Ok (Sum.elim (fun y:List Prb=>y.length≤10485769) No) (Ao (SZ e) Aj (0,d)):=by
  intro d a
  refine Ok.loop (fun v:Nat×List Prb=>v.1≤e.items.length∧v.2.length≤9+10*v.1) (fun v:Nat×List Prb=>e.items.length-v.1) ⟨by simp,by simpa using a⟩ (A3 (by omega)) fun v c=>?_
  obtain⟨v,r⟩:=v
  obtain⟨g,h⟩:=c
  dsimp only at g h
  dsimp only[SZ,fO,iV,eN,jM,jL,fQ,gX,gP,V6,VW,WM,XP,V9,VB,Wd,Wr,br,ix,A9,vz,vw,vs,vg,ln,Ak,lc,cl,wa,wi,fl,Ah,br]
  (repeat' (first|with_reducible refine Ok.br (fun _=>?_) (fun _=>?_)|with_reducible refine Ok.pure ?_|with_reducible refine Ok.idx ?_ (fun _ _ _=>?_)|(with_reducible apply Ok.lb;(exact k _ _ _ (by omega));all_goals(intro _ _;try dsimp only))|(with_reducible apply Ok.bind;(exact DM _ _ _ _ _ (by omega));intro _ _)|(with_reducible apply Ok.bind;(exact Jt _ (hm.i _ (by assumption)).n);intro _ _)|(with_reducible apply Ok.bind;(exact li _ _ f);intro _ _)|(with_reducible apply Ok.bind;(exact H3 _ _ _ _ _ (by omega) (hm.i _ (by assumption)).o);intro _ _)|with_reducible refine Ok.idxg ?_ (fun _=>?_)|with_reducible refine Ok.if ?_ ?_))<;>(first|trivial|assumption|contradiction|omega|grind|(simp only[Bd.c,Bd.vl,Yf,Yd,AL]at*;grind))
 dsimp only[aG,fp,jN,g7,jB,eF,ge,iL,ft,kQ,fj,kL,kM,jz,A9,vz,vy,vw,lr,lc,cl,fl,fr,Ah]
 (repeat' (first|with_reducible refine Ok.br (fun _=>?_) (fun _=>?_)|with_reducible refine Ok.pure ?_|(with_reducible apply Ok.lb;(exact j _ (by(first|trivial|assumption|contradiction|omega|solve_by_elim|(simp only[Ya,Yj,Yk,Yg,Ym,Ye,Yb]at*;omega)|grind)));all_goals(intro _ _;try dsimp only))|(with_reducible apply Ok.bind;(exact lh _ hm.n);intro _ _)|(with_reducible apply Ok.bind;(exact Zj _ _ _ _);intro _ _)|(with_reducible apply Ok.bind;(exact DM _ _ _ _ _ (by omega));intro _ _)|(with_reducible apply Ok.bind;(exact H3 _ _ _ _ _ (by omega) hm.o);intro _ _)|(with_reducible apply Ok.bind;(exact o96 _ _ _ _ _ (by omega) f);intro _ _)|with_reducible refine Ok.idxg ?_ (fun _=>?_)|with_reducible refine Ok.if ?_ ?_))<;>(first|trivial|assumption|contradiction|omega|grind|(simp only[Bd.c,Bd.vl,Yf,Yd,AL]at*;grind))
theorem o68(s:Scm)(e:Svc)(h:SzS s)(hm:SzW e):Ok (fun y=>y.length≤67108864) (be s e):=by
 have i:=hm.ml
 have g:∀b:List Prb,b.length≤9→Ok (Sum.elim (fun y:List Prb=>y.length≤10485769) No) (Ao (Ti s e) Aj (0,b)):=by
  intro b a
  refine Ok.loop (fun v:Nat×List Prb=>v.1≤e.methods.length∧v.2.length≤9+10*v.1) (fun v:Nat×List Prb=>e.methods.length-v.1) ⟨by simp,by simpa using a⟩ (A3 (by omega)) fun v f=>?_
  obtain⟨v,r⟩:=v
  obtain⟨c,d⟩:=f
  dsimp only at c d
  dsimp only[Ti,gi,jF,h9,jC,Xv,WC,Wf,V2,WA,Vt,Vv,U6,WE,br,ix,A9,vz,vw,vs,vg,ln,Ak,lc,cl,clg,wa,wi,fl,Ah,br]
  (repeat' (first|with_reducible refine Ok.br (fun _=>?_) (fun _=>?_)|with_reducible refine Ok.pure ?_|with_reducible refine Ok.idx ?_ (fun _ _ _=>?_)|(with_reducible apply Ok.bind;(exact DM _ _ _ _ _ (by omega));intro _ _)|(with_reducible apply Ok.bind;(exact Ot _ _ h);intro _ _)|(with_reducible apply Ok.bind;(exact Jt _ (hm.m _ (by assumption)).n);intro _ _)|(with_reducible apply Ok.bind;(exact H3 _ _ _ _ _ (by omega) (hm.m _ (by assumption)).o);intro _ _)|(with_reducible apply Ok.clg;(exact fun _=>DM _ _ _ _ _ (by omega));intro _)|(with_reducible apply Ok.clg;(exact fun _=>Ot _ _ h);intro _)|(with_reducible apply Ok.clg;(exact fun _=>Jt _ (hm.m _ (by assumption)).n);intro _)|(with_reducible apply Ok.clg;(exact fun _=>H3 _ _ _ _ _ (by omega) (hm.m _ (by assumption)).o);intro _)|with_reducible refine Ok.idxg ?_ (fun _=>?_)|with_reducible refine Ok.if ?_ ?_))<;>(first|trivial|assumption|contradiction|omega|grind|(simp only[Bd.c,Bd.vl,Yf,Yd,AL]at*;grind))
 dsimp only[be,fE,jx,fI,eS,fq,gE,iI,hX,jm,vz,vw,lr,lc,cl,fl,fr,Ah]
 (repeat' (first|with_reducible refine Ok.br (fun _=>?_) (fun _=>?_)|with_reducible refine Ok.pure ?_|(with_reducible apply Ok.lb;(exact g _ (by(first|trivial|assumption|contradiction|omega|solve_by_elim|(simp only[Ya,Yj,Yk,Yg,Ym,Ye,Yb]at*;omega)|grind)));all_goals(intro _ _;try dsimp only))|(with_reducible apply Ok.bind;(exact lh _ hm.n);intro _ _)|(with_reducible apply Ok.bind;(exact Zj _ _ _ _);intro _ _)|(with_reducible apply Ok.bind;(exact DM _ _ _ _ _ (by omega));intro _ _)|(with_reducible apply Ok.bind;(exact H3 _ _ _ _ _ (by omega) hm.o);intro _ _)|with_reducible refine Ok.if ?_ ?_))<;>(first|trivial|assumption|contradiction|omega|grind|(simp only[Bd.c,Bd.vl,Yf,Yd,AL]at*;grind))
structure Few (s:Scm):Prop where
 m:s.messages.length≤150
 e:s.enums.length≤150
 w:s.services.length≤150
theorem o37(s:Scm)(h:SzS s)(k:Few s):Ok (fun y=>y.length=0→∀(i:Nat) (m:Msg),s.messages[i]?=some m→GdM s m) (bE s):=by
 have p:=k.m
 have q:=k.e
 have t:=k.w
 have g:Ok (Sum.elim (fun y:List Prb=>y.length≤9) No) (Ao (TM s) Aj (1,[])):=by
  refine Ok.loop (fun v:Nat×List Prb=>1≤v.1∧v.1≤4∧v.2.length≤2*v.1) (fun v:Nat×List Prb=>4-v.1) ⟨by simp,by simp,by simp⟩ (A3 (by omega)) fun v f=>?_
  obtain⟨v,r⟩:=v
  obtain⟨c,d,e⟩:=f
  dsimp only at c d e
  dsimp only[TM,VQ,Xu,VI,Xs,Xa,Vm,V0,br,vz,vw,vs,ln,Ak,lc,cl,wa,fl,Ah,br]
  (repeat' (first|with_reducible refine Ok.br (fun _=>?_) (fun _=>?_)|with_reducible refine Ok.pure ?_|(with_reducible apply Ok.bind;(exact lg _ _ h);intro _ _)|(with_reducible apply Ok.bind;(exact DM _ _ _ _ _ (by omega));intro _ _)|(with_reducible apply Ok.bind;(exact o63 _ (by assumption));intro _ _)|with_reducible refine Ok.if ?_ ?_))<;>(first|trivial|assumption|contradiction|omega|grind|(simp only[Bd.c,Bd.vl,Yf,Yd,AL]at*;grind))
 have j:∀(a:List Prb) (l:List Bool),a.length≤10→l.length=s.messages.length→Ok (Sum.elim (fun y:List Prb=>y.length≤10066329610∧(y.length=0→∀(i:Nat) (m:Msg),s.messages[i]?=some m→GdM s m)) No) (Ao (T5 s l) Aj (0,a)):=by
  intro a l b hl
  refine Ok.loop (fun v:Nat×List Prb=>v.1≤s.messages.length∧v.2.length≤10+67108864*v.1∧(v.2.length=0→∀(i:Nat) (m:Msg),i<v.1→s.messages[i]?=some m→GdM s m)) (fun v:Nat×List Prb=>s.messages.length-v.1) ⟨by simp,by simpa using b,fun _ i m hi=>by simp at hi⟩ (A3 (by omega)) fun v f=>?_
  obtain⟨v,r⟩:=v
  obtain⟨c,d,e⟩:=f
  dsimp only at c d e
  dsimp only[T5,ia,X1,NW,br,ix,vz,vw,vs,ln,Ak,lc,aq,cl,wa,tw,fl,Ah,br]
  (repeat' (first|with_reducible refine Ok.br (fun _=>?_) (fun _=>?_)|with_reducible refine Ok.pure ?_|with_reducible refine Ok.idx ?_ (fun _ _ _=>?_)|(with_reducible apply Ok.bind;(exact o66 _ _ _ h (h.m _ (by assumption)) hl);intro _ _)|with_reducible refine Ok.if ?_ ?_))<;>(first|trivial|assumption|contradiction|omega|grind|(simp only[Bd.c,Bd.vl,Yf,Yd,AL]at*;grind))
 have n:∀a:List Prb,a.length≤10066329610→Ok (Sum.elim (fun y:List Prb=>a.length≤y.length∧y.length≤20132659210) No) (Ao (TB s) Aj (0,a)):=by
  intro a b
  refine Ok.loop (fun v:Nat×List Prb=>v.1≤s.enums.length∧v.2.length≤10066329610+67108864*v.1∧a.length≤v.2.length) (fun v:Nat×List Prb=>s.enums.length-v.1) ⟨by simp,by simpa using b,by simp⟩ (A3 (by omega)) fun v f=>?_
  obtain⟨v,r⟩:=v
  obtain⟨c,d,e⟩:=f
  dsimp only at c d e
  dsimp only[TB,jd,iZ,NE,br,ix,vz,vw,vs,ln,Ak,lc,aq,cl,wa,tw,fl,Ah,br]
  (repeat' (first|with_reducible refine Ok.br (fun _=>?_) (fun _=>?_)|with_reducible refine Ok.pure ?_|with_reducible refine Ok.idx ?_ (fun _ _ _=>?_)|(with_reducible apply Ok.bind;(exact o67 _ (h.e _ (by assumption)));intro _ _)|with_reducible refine Ok.if ?_ ?_))<;>(first|trivial|assumption|contradiction|omega|grind|(simp only[Bd.c,Bd.vl,Yf,Yd,AL]at*;grind))
 have o:∀a:List Prb,a.length≤20132659210→Ok (Sum.elim (fun y:List Prb=>a.length≤y.length) No) (Ao (TA s) Aj (0,a)):=by
  intro a b
  refine Ok.loop (fun v:Nat×List Prb=>v.1≤s.services.length∧v.2.length≤20132659210+67108864*v.1∧a.length≤v.2.length) (fun v:Nat×List Prb=>s.services.length-v.1) ⟨by simp,by simpa using b,by simp⟩ (A3 (by omega)) fun v f=>?_
  obtain⟨v,r⟩:=v
  obtain⟨c,d,e⟩:=f
  dsimp only at c d e
  dsimp only[TA,iD,g6,NI,br,ix,vz,vw,vs,ln,Ak,lc,aq,cl,wa,tw,fl,Ah,br]
  (repeat' (first|with_reducible refine Ok.br (fun _=>?_) (fun _=>?_)|with_reducible refine Ok.pure ?_|with_reducible refine Ok.idx ?_ (fun _ _ _=>?_)|(with_reducible apply Ok.bind;(exact o68 _ _ h (h.w _ (by assumption)));intro _ _)|with_reducible refine Ok.if ?_ ?_))<;>(first|trivial|assumption|contradiction|omega|grind|(simp only[Bd.c,Bd.vl,Yf,Yd,AL]at*;grind))
 dsimp only[bE,kD,jk,i1,eQ,iS,jQ,iX,gG,kr,gN,iW,eC,vz,vw,lr,lc,cl,clg,fl,fr]
 (repeat' (first|with_reducible refine Ok.br (fun _=>?_) (fun _=>?_)|with_reducible refine Ok.pure ?_|(with_reducible apply Ok.lb;(exact g);all_goals(intro _ _;try dsimp only))|(with_reducible apply Ok.lb;(exact j _ _ (by omega) (by assumption));all_goals(intro _ _;try dsimp only))|(with_reducible apply Ok.lb;(exact n _ (by omega));all_goals(intro _ _;try dsimp only))|(with_reducible apply Ok.lb;(exact o _ (by omega));all_goals(intro _ _;try dsimp only))|(with_reducible apply Ok.bind;(exact lg _ _ h);intro _ _)|(with_reducible apply Ok.bind;(exact zZ _ _ (by assumption) (by assumption));intro _ _)|(with_reducible apply Ok.bind;(exact z1 _ h);intro _ _)|(with_reducible apply Ok.bind;(exact DM _ _ _ _ _ (by omega));intro _ _)|(with_reducible apply Ok.clg;(exact fun _=>lg _ _ h);intro _)|(with_reducible apply Ok.clg;(exact fun _=>zZ _ _ (by assumption) (by assumption));intro _)|(with_reducible apply Ok.clg;(exact fun _=>z1 _ h);intro _)|(with_reducible apply Ok.clg;(exact fun _=>DM _ _ _ _ _ (by omega));intro _)|with_reducible refine Ok.if ?_ ?_))<;>(first|trivial|assumption|contradiction|omega|grind|(simp only[Bd.c,Bd.vl,Yf,Yd,AL]at*;grind))
theorem o16(s:Scm)(h:SzS s)(k:Few s):Ok (fun b=>b=true→∀(i:Nat) (m:Msg),s.messages[i]?=some m→GdM s m) (QD s):=by
 dsimp only[QD,Wl,vz,vw,lr,cl,Ah]
 (repeat' (first|with_reducible refine Ok.br (fun _=>?_) (fun _=>?_)|with_reducible refine Ok.pure ?_|(with_reducible apply Ok.bind;(exact o37 _ h k);intro _ _)|with_reducible refine Ok.if ?_ ?_))<;>(first|trivial|assumption|contradiction|omega|grind|(simp only[Bd.c,Bd.vl,Yf,Yd,AL]at*;grind))
end Go.Proofs.YtleccgigifnfgaaGreat
