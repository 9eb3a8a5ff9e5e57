import Derived.Test.YtchkcemlglpobaaGreatCs24
import Derived.Test.YtchkcemlglpobaaGreatCs00
namespace Go.Proofs.YtchkcemlglpobaaGreat
set_option linter.all false
open Go Go.Eng
theorem Dv(d:ByteArray)(l:List Prb)(b:Bool)(n e:Int)(h:l.length<549755813887):Ok (fun y=>l.length≤y.length∧y.length≤l.length+1∧(b=true→l.length+1≤y.length)) (Bo d l b n e):=by
 dsimp only[Bo,Va,VH,UE,WL,vz,vw,lr,lc,ap,Gx,fl]
 (repeat' (first|with_reducible refine Ok.br (fun _=>?_) (fun _=>?_)|with_reducible refine Ok.pure ?_|with_reducible refine Ok.if ?_ ?_))<;>first|(first|trivial|assumption|contradiction|omega|grind|(simp only[Bd.c,Bd.vl,ByteArray.size_append,ByteArray.size_extract,AE]at*;grind))|simp_all
theorem HC(d:ByteArray)(l:List Prb)(x:List Nt)(t n:Int)(h:l.length<549755813887)(a:Fx x):Ok (fun y=>l.length≤y.length∧y.length≤l.length+1) (FT d l x t n):=by
 dsimp only[FT,cK,bG,fS,cY,vz,lr,lc,cl,fl]
 (repeat' (first|with_reducible refine Ok.br (fun _=>?_) (fun _=>?_)|with_reducible refine Ok.pure ?_|(with_reducible apply Ok.bind;(exact ZR6 _ _ a);intro _ _)|(with_reducible apply Ok.bind;(exact Dv _ _ _ _ _ h);intro _ _)|with_reducible refine Ok.if ?_ ?_))<;>(first|trivial|assumption|contradiction|omega|grind|(simp only[Bd.c,Bd.vl,ByteArray.size_append,ByteArray.size_extract,AE]at*;grind))
theorem ye(d:ByteArray)(l:List Prb)(x:List Spn)(t n:Int)(h:l.length<500000000000)(f:x.length≤1048576):Ok (fun y=>l.length≤y.length∧y.length≤l.length+2*x.length) (LR d l x t n):=by
 have q:Ok (Sum.elim (fun y:List Prb=>l.length≤y.length∧y.length≤l.length+2*x.length) No) (Am (Q8 d x t n) Ai (0,l)):=by
  refine Ok.loop (fun v:Nat×List Prb=>v.1≤x.length∧l.length≤v.2.length∧v.2.length≤l.length+2*v.1) (fun v:Nat×List Prb=>x.length-v.1) ⟨by omega,by simp,by simp⟩ (AW (by omega)) fun v e=>?_
  obtain⟨i,r⟩:=v
  obtain⟨a,b,c⟩:=e
  dsimp only at a b c
  dsimp only[Q8,eM,eC,fd,dS,cN,gI,br,ix,A8,vz,vs,vg,ln,Al,lc,wa,wi,fl,Ah,br]
  (repeat' (first|with_reducible refine Ok.br (fun _=>?_) (fun _=>?_)|with_reducible refine Ok.pure ?_|with_reducible refine Ok.idx ?_ (fun _ _ _=>?_)|(with_reducible apply Ok.bind;(exact Dv _ _ _ _ _ (by omega));intro _ _)|with_reducible refine Ok.idxg ?_ (fun _=>?_)|with_reducible refine Ok.if ?_ ?_))<;>(first|trivial|assumption|contradiction|omega|grind|(simp only[Bd.c,Bd.vl,ByteArray.size_append,ByteArray.size_extract,AE]at*;grind))
 dsimp only[LR,fV,gx,vz,lr,lc,fl]
 (repeat' (first|with_reducible refine Ok.br (fun _=>?_) (fun _=>?_)|with_reducible refine Ok.pure ?_|(with_reducible apply Ok.lb;(exact q);all_goals(intro _ _;try dsimp only))|with_reducible refine Ok.if ?_ ?_))<;>(first|trivial|assumption|contradiction|omega|grind|(simp only[Bd.c,Bd.vl,ByteArray.size_append,ByteArray.size_extract,AE]at*;grind))
theorem iE(s:Scm)(w:Int)(h:SzS s):Ok (fun y=>y.length≤3145728) (X2 s w):=by
 have a:=h.ml
 have b:=h.el
 have j:=h.wl
 have e:Ok (Sum.elim (fun y:List ByteArray=>y.length≤1048576) No) (Am (RX s w) Ai ([],0)):=by
  refine Ok.loop (fun v:List ByteArray×Nat=>v.2≤s.messages.length∧v.1.length≤v.2) (fun v:List ByteArray×Nat=>s.messages.length-v.2) ⟨by omega,by simp⟩ (AW (by omega)) fun v c=>?_
  obtain⟨r,i⟩:=v
  obtain⟨a,b⟩:=c
  dsimp only at a b
  dsimp only[RX,Uq,br,ix,vz,vy,vw,vs,v2,ln,Al,ap,wa,fl,Ah,br]
  (repeat' (first|with_reducible refine Ok.br (fun _=>?_) (fun _=>?_)|with_reducible refine Ok.pure ?_|with_reducible refine Ok.idx ?_ (fun _ _ _=>?_)|with_reducible refine Ok.if ?_ ?_))<;>(first|trivial|assumption|contradiction|omega|grind|(simp only[Bd.c,Bd.vl,ByteArray.size_append,ByteArray.size_extract,AE]at*;grind))
 have f:∀r:List ByteArray,r.length≤1048576→Ok (Sum.elim (fun y:List ByteArray=>y.length≤2097152) No) (Am (Sm s w) Ai (r,0)):=by
  intro r d
  refine Ok.loop (fun v:List ByteArray×Nat=>v.2≤s.enums.length∧v.1.length≤1048576+v.2) (fun v:List ByteArray×Nat=>s.enums.length-v.2) ⟨by omega,by simpa using d⟩ (AW (by omega)) fun v c=>?_
  obtain⟨r,i⟩:=v
  obtain⟨a,b⟩:=c
  dsimp only at a b
  dsimp only[Sm,US,br,ix,vz,vy,vw,vs,ln,Al,ap,wa,fl,Ah,br]
  (repeat' (first|with_reducible refine Ok.br (fun _=>?_) (fun _=>?_)|with_reducible refine Ok.pure ?_|with_reducible refine Ok.idx ?_ (fun _ _ _=>?_)|with_reducible refine Ok.if ?_ ?_))<;>(first|trivial|assumption|contradiction|omega|grind|(simp only[Bd.c,Bd.vl,ByteArray.size_append,ByteArray.size_extract,AE]at*;grind))
 have g:∀r:List ByteArray,r.length≤2097152→Ok (Sum.elim (fun y:List ByteArray=>y.length≤3145728) No) (Am (RY s w) Ai (r,0)):=by
  intro r d
  refine Ok.loop (fun v:List ByteArray×Nat=>v.2≤s.services.length∧v.1.length≤2097152+v.2) (fun v:List ByteArray×Nat=>s.services.length-v.2) ⟨by omega,by simpa using d⟩ (AW (by omega)) fun v c=>?_
  obtain⟨r,i⟩:=v
  obtain⟨a,b⟩:=c
  dsimp only at a b
  dsimp only[RY,WE,br,ix,vz,vy,vw,vs,ln,Al,ap,wa,fl,Ah,br]
  (repeat' (first|with_reducible refine Ok.br (fun _=>?_) (fun _=>?_)|with_reducible refine Ok.pure ?_|with_reducible refine Ok.idx ?_ (fun _ _ _=>?_)|with_reducible refine Ok.if ?_ ?_))<;>(first|trivial|assumption|contradiction|omega|grind|(simp only[Bd.c,Bd.vl,ByteArray.size_append,ByteArray.size_extract,AE]at*;grind))
 dsimp only[X2,V4,UY,UZ,Uf,Wh,WG,vz,vw,lr,lc,fl,fr]
 (repeat' (first|with_reducible refine Ok.br (fun _=>?_) (fun _=>?_)|with_reducible refine Ok.pure ?_|(with_reducible apply Ok.lb;(exact e);all_goals(intro _ _;try dsimp only))|(with_reducible apply Ok.lb;(exact f _ (by assumption));all_goals(intro _ _;try dsimp only))|(with_reducible apply Ok.lb;(exact g _ (by assumption));all_goals(intro _ _;try dsimp only))|with_reducible refine Ok.if ?_ ?_))<;>(first|trivial|assumption|contradiction|omega|grind|(simp only[Bd.c,Bd.vl,ByteArray.size_append,ByteArray.size_extract,AE]at*;grind))
theorem o63(l:List ByteArray)(h:l.length≤3145728):Ok Tr (X9 l):=by
 have q:Ok Ts (Am (RD l) Ai 1):=by
  refine Ok.loop (fun v:Nat=>1≤v∧v≤l.length+1) (fun v:Nat=>l.length+1-v) ⟨by omega,by omega⟩ (by unfold Ai;omega) fun v a=>?_
  dsimp only[RD,T3,br,ix,CL,vz,vs,Ay,ln,Al,wa,wi,Ah,br]
  (repeat' (first|with_reducible refine Ok.br (fun _=>?_) (fun _=>?_)|with_reducible refine Ok.pure ?_|with_reducible refine Ok.idx ?_ (fun _ _ _=>?_)|with_reducible refine Ok.if ?_ ?_))<;>(first|trivial|assumption|contradiction|omega|grind|(simp only[Bd.c,Bd.vl,ByteArray.size_append,ByteArray.size_extract,AE]at*;grind))
 dsimp only[X9,T0,UR,Wi,lr,lc]
 (repeat' (first|with_reducible refine Ok.br (fun _=>?_) (fun _=>?_)|with_reducible refine Ok.pure ?_|(with_reducible apply Ok.lb;(exact q);all_goals(intro _ _;try dsimp only))|with_reducible refine Ok.if ?_ ?_))<;>(first|trivial|assumption|contradiction|omega|grind|(simp only[Bd.c,Bd.vl,ByteArray.size_append,ByteArray.size_extract,AE]at*;grind))
theorem ZSf(l:List ByteArray)(x:ByteArray)(h:l.length≤3145728):Ok Tr (LQ l x):=by
 have q:Ok Ts (Am (J0 l x) Ai 0):=by
  refine Ok.loop (fun v:Nat=>v≤l.length) (fun v:Nat=>l.length-v) (by omega) (by unfold Ai;omega) fun v a=>?_
  dsimp only[J0,Qr,br,ix,vz,vs,Ay,ln,Al,wa,Ah,br]
  (repeat' (first|with_reducible refine Ok.br (fun _=>?_) (fun _=>?_)|with_reducible refine Ok.pure ?_|with_reducible refine Ok.idx ?_ (fun _ _ _=>?_)|with_reducible refine Ok.if ?_ ?_))<;>(first|trivial|assumption|contradiction|omega|grind|(simp only[Bd.c,Bd.vl,ByteArray.size_append,ByteArray.size_extract,AE]at*;grind))
 dsimp only[LQ,QN,QX,QS,lr,lc]
 (repeat' (first|with_reducible refine Ok.br (fun _=>?_) (fun _=>?_)|with_reducible refine Ok.pure ?_|(with_reducible apply Ok.lb;(exact q);all_goals(intro _ _;try dsimp only))|with_reducible refine Ok.if ?_ ?_))<;>(first|trivial|assumption|contradiction|omega|grind|(simp only[Bd.c,Bd.vl,ByteArray.size_append,ByteArray.size_extract,AE]at*;grind))
theorem x7(l k:List ByteArray)(h:l.length≤3145728)(a:k.length≤3145728):Ok Tr (Zu l k):=by
 have q:Ok Ts (Am (SF l k) Ai 0):=by
  refine Ok.loop (fun v:Nat=>v≤l.length) (fun v:Nat=>l.length-v) (by omega) (by unfold Ai;omega) fun v b=>?_
  dsimp only[SF,Wd,br,ix,vz,vs,Ay,ln,Al,cl,wa,Ah,br]
  (repeat' (first|with_reducible refine Ok.br (fun _=>?_) (fun _=>?_)|with_reducible refine Ok.pure ?_|with_reducible refine Ok.idx ?_ (fun _ _ _=>?_)|(with_reducible apply Ok.bind;(exact ZSf _ _ a);intro _ _)|with_reducible refine Ok.if ?_ ?_))<;>(first|trivial|assumption|contradiction|omega|grind|(simp only[Bd.c,Bd.vl,ByteArray.size_append,ByteArray.size_extract,AE]at*;grind))
 dsimp only[Zu,Vz,VU,VM,lr,lc]
 (repeat' (first|with_reducible refine Ok.br (fun _=>?_) (fun _=>?_)|with_reducible refine Ok.pure ?_|(with_reducible apply Ok.lb;(exact q);all_goals(intro _ _;try dsimp only))|with_reducible refine Ok.if ?_ ?_))<;>(first|trivial|assumption|contradiction|omega|grind|(simp only[Bd.c,Bd.vl,ByteArray.size_append,ByteArray.size_extract,AE]at*;grind))
theorem yb(s:Scm)(f:Fld)(h:SzS s):Ok Tr (Zz s f):=by
 dsimp only[Zz,ey,br,vw,lr,cl,br]
 (repeat' (first|with_reducible refine Ok.br (fun _=>?_) (fun _=>?_)|with_reducible refine Ok.pure ?_|(with_reducible apply Ok.bind;(exact W5 _ _ h);intro _ _)|(with_reducible apply Ok.bind;(exact M7 _ _ h);intro _ _)|with_reducible refine Ok.if ?_ ?_))<;>(first|trivial|assumption|contradiction|omega|grind|(simp only[Bd.c,Bd.vl,ByteArray.size_append,ByteArray.size_extract,AE]at*;grind))
theorem yc(m:Msg)(i:Nat)(h:SzM m)(hi:i<m.fields.length):Ok Tr (X0 m i):=by
 have hl:=h.fl
 have q:∀e,Ok (Sum.elim (fun b:Bool=>b=true→0<i) Tr) (Am (Q5 m i e) Ai (false,0)):=by
  intro e
  refine Ok.loop (fun v:Bool×Nat=>v.2≤m.fields.length∧(v.1=true→0<i)) (fun v:Bool×Nat=>m.fields.length-v.2) ⟨by omega,by simp⟩ (AW (by omega)) fun v d=>?_
  obtain⟨b,j⟩:=v
  obtain⟨a,c⟩:=d
  dsimp only at a c
  dsimp only[Q5,bO,br,ix,A8,vz,vw,vs,Ay,ln,Al,wa,Ah,br]
  (repeat' (first|with_reducible refine Ok.br (fun _=>?_) (fun _=>?_)|with_reducible refine Ok.pure ?_|with_reducible refine Ok.idx ?_ (fun _ _ _=>?_)|with_reducible refine Ok.idxg ?_ (fun _=>?_)|with_reducible refine Ok.if ?_ ?_))<;>(first|trivial|assumption|contradiction|omega|grind|(simp only[Bd.c,Bd.vl,ByteArray.size_append,ByteArray.size_extract,AE]at*;grind))
 dsimp only[X0,eV,fh,cw,br,CL,A8,vw,vg,lr,lc,clg,wi,br]
 (repeat' (first|with_reducible refine Ok.br (fun _=>?_) (fun _=>?_)|with_reducible refine Ok.pure ?_|with_reducible refine Ok.idx ?_ (fun _ _ _=>?_)|(with_reducible apply Ok.lb;(exact q _);all_goals(intro _ _;try dsimp only))|(with_reducible apply Ok.bind;(exact IP _ ((h.f _ (by assumption)).u));intro _ _)|(with_reducible apply Ok.clg;(exact fun _=>IP _ ((h.f _ (by assumption)).u));intro _)|with_reducible refine Ok.idxg ?_ (fun _=>?_)|with_reducible refine Ok.if ?_ ?_))<;>(first|trivial|assumption|contradiction|omega|grind|(simp only[Bd.c,Bd.vl,ByteArray.size_append,ByteArray.size_extract,AE]at*;grind))
def HD(f:Fld):Prop:=f.hasDefault=true→IU f.type.kind f.dflt∧f.card=2∧f.union=⟨#[]⟩
theorem yd(s:Scm)(f:Fld)(h:SzS s)(a:SzF f):Ok (fun b=>b=true→HD f) (XZ s f):=by
 have g:SzV (.mk 0 0 ⟨#[]⟩ [] [] [] []):=by constructor<;>decide
 have he:∀y,y∈s.enums→y.items.length≤1048576:=fun y hy=>(h.e y hy).il
 have q:∀y:Int,0≤y→y<s.enums.length→Ok Ts (Am (Q1 s f y) Ai 0):=by
  intro y hy k
  refine Ok.loop (fun v:Nat=>v≤1048576) (fun v:Nat=>1048576-v) (by omega) (AW (by omega)) fun v l=>?_
  dsimp only[Q1,bK,br,ix,CL,vz,vw,vs,Ay,ln,Al,wa,Ah,br]
  (repeat' (first|with_reducible refine Ok.br (fun _=>?_) (fun _=>?_)|with_reducible refine Ok.pure ?_|with_reducible refine Ok.idx ?_ (fun _ _ _=>?_)|with_reducible refine Ok.if ?_ ?_))<;>(first|trivial|assumption|contradiction|omega|grind|(simp only[Bd.c,Bd.vl,ByteArray.size_append,ByteArray.size_extract,AE]at*;grind))
 have key:∀(c d:Bool),((!((!decide (f.card=2))||(!decide (f.union=⟨#[]⟩))))=true→c=true→IU f.type.kind f.dflt)→((((!decide (f.card=2))||(!decide (f.union=⟨#[]⟩)))||!c)||!d)=false→HD f:=fun c d i j _=>by
  cases c<;>cases d<;>simp_all
 have e:(!f.hasDefault)=true→HD f:=fun i j=>by simp_all
 dsimp only[XZ,cC,cS,dn,br,vw,lr,lc,cl,clg,br]
 (repeat' (first|with_reducible refine Ok.br (fun _=>?_) (fun _=>?_)|with_reducible refine Ok.pure ?_|(with_reducible apply Ok.lb;(exact q _ (by(first|trivial|assumption|contradiction|omega|solve_by_elim|(simp only[Bool.and_eq_true,Bool.or_eq_true,Bool.not_eq_true',Bool.and_eq_false_iff,Bool.or_eq_false_iff,decide_eq_true_eq,decide_eq_false_iff_not]at*;omega)|grind)) (by(first|trivial|assumption|contradiction|omega|solve_by_elim|(simp only[Bool.and_eq_true,Bool.or_eq_true,Bool.not_eq_true',Bool.and_eq_false_iff,Bool.or_eq_false_iff,decide_eq_true_eq,decide_eq_false_iff_not]at*;omega)|grind)));all_goals(intro _ _;try dsimp only))|(with_reducible apply Ok.bind;(exact O6 _ _ a.d g);intro _ _)|(with_reducible apply Ok.bind;(exact I8 _ _ a.d);intro _ _)|(with_reducible apply Ok.bind;(exact qg _ a.d);intro _ _)|(with_reducible apply Ok.bind;(exact O6 _ _ a.d (by solve_by_elim));intro _ _)|(with_reducible apply Ok.bind;(exact W5 _ _ h);intro _ _)|(with_reducible apply Ok.clg;(exact fun _=>O6 _ _ a.d g);intro _)|(with_reducible apply Ok.clg;(exact fun _=>I8 _ _ a.d);intro _)|(with_reducible apply Ok.clg;(exact fun _=>qg _ a.d);intro _)|(with_reducible apply Ok.clg;(exact fun _=>O6 _ _ a.d (by solve_by_elim));intro _)|(with_reducible apply Ok.clg;(exact fun _=>W5 _ _ h);intro _)|with_reducible refine Ok.if ?_ ?_))<;>first|(intro _;exact key _ _ (by assumption) (by assumption))|(intro _;exact e (by assumption))|(first|trivial|assumption|contradiction|omega|grind|(simp only[Bd.c,Bd.vl,ByteArray.size_append,ByteArray.size_extract,AE]at*;grind))
theorem o87(s:Scm)(m:Msg)(l:List Bool)(h:SzS s)(hm:SzM m)(hl:l.length=s.messages.length):Ok Tr (X1 s m l):=by
 have a:=hm.fl
 have q:Ok Ts (Am (QC s m l) Ai 0):=by
  refine Ok.loop (fun v:Nat=>v≤m.fields.length) (fun v:Nat=>m.fields.length-v) (by omega) (AW (by omega)) fun v b=>?_
  dsimp only[QC,cZ,br,ix,A8,vz,vw,vs,Ay,ln,Al,cl,wa,Ah,br]
  (repeat' (first|with_reducible refine Ok.br (fun _=>?_) (fun _=>?_)|with_reducible refine Ok.pure ?_|with_reducible refine Ok.idx ?_ (fun _ _ _=>?_)|(with_reducible apply Ok.bind;(exact M7 _ _ h);intro _ _)|with_reducible refine Ok.idxg ?_ (fun _=>?_)|with_reducible refine Ok.if ?_ ?_))<;>(first|trivial|assumption|contradiction|omega|grind|(simp only[Bd.c,Bd.vl,ByteArray.size_append,ByteArray.size_extract,AE]at*;grind))
 dsimp only[X1,ci,ct,ec,lr,lc]
 (repeat' (first|with_reducible refine Ok.br (fun _=>?_) (fun _=>?_)|with_reducible refine Ok.pure ?_|(with_reducible apply Ok.lb;(exact q);all_goals(intro _ _;try dsimp only))|with_reducible refine Ok.if ?_ ?_))<;>(first|trivial|assumption|contradiction|omega|grind|(simp only[Bd.c,Bd.vl,ByteArray.size_append,ByteArray.size_extract,AE]at*;grind))
theorem nN(s:Scm)(m:Msg)(l:List Bool)(h:SzS s)(hm:SzM m)(hl:l.length=s.messages.length):Ok Tr (Pi s m l):=by
 have a:=hm.fl
 have q:Ok Ts (Am (PY s m l) Ai 0):=by
  refine Ok.loop (fun v:Nat=>v≤m.fields.length) (fun v:Nat=>m.fields.length-v) (by omega) (AW (by omega)) fun v b=>?_
  dsimp only[PY,aM,br,ix,vz,vw,vs,vg,Ay,ln,Al,cl,wa,DR,xR,fl,Ah,br,DR]
  (repeat' (first|with_reducible refine Ok.br (fun _=>?_) (fun _=>?_)|with_reducible refine Ok.pure ?_|with_reducible refine Ok.idx ?_ (fun _ _ _=>?_)|(with_reducible apply Ok.bind;(exact M7 _ _ h);intro _ _)|with_reducible refine Ok.if ?_ ?_))<;>(first|trivial|assumption|contradiction|omega|grind|(simp only[Bd.c,Bd.vl,ByteArray.size_append,ByteArray.size_extract,AE]at*;grind))
 dsimp only[Pi,bb,aW,aY,vz,lr,lc,fl]
 (repeat' (first|with_reducible refine Ok.br (fun _=>?_) (fun _=>?_)|with_reducible refine Ok.pure ?_|(with_reducible apply Ok.lb;(exact q);all_goals(intro _ _;try dsimp only))|with_reducible refine Ok.if ?_ ?_))<;>(first|trivial|assumption|contradiction|omega|grind|(simp only[Bd.c,Bd.vl,ByteArray.size_append,ByteArray.size_extract,AE]at*;grind))
theorem x8(s:Scm)(h:SzS s):Ok (fun y=>y.length=s.messages.length) (XT s):=by
 have g:=h.ml
 have q:∀(v:Nat) (r:List Bool),r.length=s.messages.length→Ok (Sum.elim (fun y:Bool×List Bool=>y.2.length=s.messages.length) No) (Am (R7 s v) Ai (false,0,r)):=by
  intro w r e
  refine Ok.loop (fun v:Bool×Nat×List Bool=>v.2.1≤s.messages.length∧v.2.2.length=s.messages.length) (fun v:Bool×Nat×List Bool=>s.messages.length-v.2.1) ⟨by simp,e⟩ (AW (by simp;omega)) fun v d=>?_
  obtain⟨b,i,r⟩:=v
  obtain⟨c,a⟩:=d
  dsimp only at c a
  dsimp only[R7,VT,br,A8,vz,vw,vs,v2,ln,Al,Hv,wa,ir,ca,st,rn,fl,Ah,br]
  (repeat' (first|with_reducible refine Ok.br (fun _=>?_) (fun _=>?_)|with_reducible refine Ok.pure ?_|with_reducible refine Ok.idx ?_ (fun _ _ _=>?_)|(with_reducible apply Ok.bind;(exact nN _ _ _ h (h.m _ (by grind)) a);intro _ _)|(with_reducible apply Ok.clg;(exact fun _=>nN _ _ _ h (h.m _ (by grind)) a);intro _)|with_reducible refine Ok.idxg ?_ (fun _=>?_)|with_reducible refine Ok.if ?_ ?_))<;>(first|trivial|assumption|contradiction|omega|grind|(simp only[Bd.c,Bd.vl,ByteArray.size_append,ByteArray.size_extract,AE]at*;grind))
 have f:Ok (Sum.elim (fun y:List Bool=>y.length=s.messages.length) No) (Am (Ry s) Ai (true,0,List.replicate s.messages.length false)):=by
  refine Ok.loop (fun v:Bool×Nat×List Bool=>v.2.1≤s.messages.length∧v.2.2.length=s.messages.length) (fun v:Bool×Nat×List Bool=>s.messages.length-v.2.1) ⟨by simp,by simp⟩ (AW (by simp;omega)) fun v d=>?_
  obtain⟨b,i,r⟩:=v
  obtain⟨c,a⟩:=d
  dsimp only at c a
  dsimp only[Ry,T8,WI,Vv,br,vz,vw,vs,v2,ln,Al,lc,wa,fl,Ah,br]
  (repeat' (first|with_reducible refine Ok.br (fun _=>?_) (fun _=>?_)|with_reducible refine Ok.pure ?_|(with_reducible apply Ok.lb;(exact q _ _ a);all_goals(intro _ _;try dsimp only))|with_reducible refine Ok.if ?_ ?_))<;>(first|trivial|assumption|contradiction|omega|grind|(simp only[Bd.c,Bd.vl,ByteArray.size_append,ByteArray.size_extract,AE]at*;grind))
 dsimp only[XT,VN,T1,WJ,vz,vw,lr,lc,ms,fl,fr,Ah]
 (repeat' (first|with_reducible refine Ok.br (fun _=>?_) (fun _=>?_)|with_reducible refine Ok.pure ?_|(with_reducible apply Ok.lb;(exact f);all_goals(intro _ _;try dsimp only))|with_reducible refine Ok.if ?_ ?_))<;>(first|trivial|assumption|contradiction|omega|grind|(simp only[Bd.c,Bd.vl,ByteArray.size_append,ByteArray.size_extract,AE]at*;grind))
end Go.Proofs.YtchkcemlglpobaaGreat
namespace Go.Proofs.YtchkcemlglpobaaGreat
set_option linter.all false
open Go Go.Eng
def CJ(l:List Fld)(n:Nat):Prop:=∀(i:Nat) (a b:Fld),i+1<n→l[i]?=some a→l[i+1]?=some b→a.num<b.num
theorem Zwf{l:List Fld}{v:Nat}{a b:Fld}(h:CJ l v)(j:l[v]?=some a)(k:0<v→l[v-1]?=some b∧b.num<a.num):CJ l (v+1):=by
 intro i x y hi c hy
 by_cases e:i+1<v
 ·exact h i x y e c hy
 ·have f:i+1=v:=by omega
  have g:v-1=i:=by omega
  rw[f]at hy
  obtain⟨d,m⟩:=k (by omega)
  rw[g]at d
  rw[j]at hy
  rw[d]at c
  cases c
  cases hy
  exact m
structure GdM (m:Msg):Prop where
 asc:CJ m.fields m.fields.length
 df:∀(j:Nat) (f:Fld),m.fields[j]?=some f→HD f
theorem W0(d:ByteArray)(b:Bool)(n e:Int):Ok (fun y=>y.length≤1) (Bo d [] b n e):=(Dv d [] b n e (by simp)).mono fun y h=>by simpa using h.2.1
theorem o66(s:Scm)(m:Msg)(l:List Bool)(h:SzS s)(hm:SzM m)(hl:l.length=s.messages.length):Ok (fun y=>y.length≤67108864∧(y.length=0→GdM m)) (Zf s m l):=by
 have H:=hm.fl
 have p:=hm.r
 have A:=hm.gl
 have F:∀(v:Nat) (r:List Prb) (e:Fld),v≤m.fields.length→Ok (Sum.elim Tr No) (Am (RQ s m l v r e) Ai (false,0)):=by
  intro w r e J
  refine Ok.loop (fun v:Bool×Nat=>v.2≤w) (fun v:Bool×Nat=>w-v.2) (by simp) (AW (by omega)) fun v k=>?_
  obtain⟨b,i⟩:=v
  dsimp only at k
  dsimp only[RQ,Ve,br,ix,vz,vw,vs,ln,Al,wa,fl,br]
  (repeat' (first|with_reducible refine Ok.br (fun _=>?_) (fun _=>?_)|with_reducible refine Ok.pure ?_|with_reducible refine Ok.idx ?_ (fun _ _ _=>?_)|with_reducible refine Ok.if ?_ ?_))<;>(first|trivial|assumption|contradiction|omega|grind|(simp only[Bd.c,Bd.vl,ByteArray.size_append,ByteArray.size_extract,AE]at*;grind))
 have E:∀a:List Prb,a.length≤9→Ok (Sum.elim (fun y:List Prb=>y.length≤10485769∧(y.length=0→GdM m)) No) (Am (SA s m l) Ai (0,a)):=by
  intro a d
  refine Ok.loop (fun v:Nat×List Prb=>v.1≤m.fields.length∧v.2.length≤9+10*v.1∧(v.2.length=0→CJ m.fields v.1∧∀(j:Nat) (f:Fld),j<v.1→m.fields[j]?=some f→HD f)) (fun v:Nat×List Prb=>m.fields.length-v.1) ⟨by simp,by simpa using d,fun _=>⟨fun i x y hi=>by simp at hi,fun j f n=>by simp at n⟩⟩ (AW (by omega)) fun v k=>?_
  obtain⟨v,r⟩:=v
  obtain⟨q,t,c⟩:=k
  dsimp only at q t c
  dsimp only[SA,eI,hU,cM,gf,eG,bR,dT,gK,cP,ea,gn,ce,eH,gZ,gE,cm,WC,Wq,VA,U2,Wb,TX,TT,WF,br,ix,A8,vz,vw,vs,vg,ln,Al,lc,cl,clg,wa,wi,fl,Ah,br]
  (repeat' (first|with_reducible refine Ok.br (fun _=>?_) (fun _=>?_)|with_reducible refine Ok.pure ?_|with_reducible refine Ok.idx ?_ (fun _ _ _=>?_)|(with_reducible apply Ok.lb;(exact F _ _ _ (by omega));all_goals(intro _ _;try dsimp only))|(with_reducible apply Ok.bind;(exact Dv _ _ _ _ _ (by omega));intro _ _)|(with_reducible apply Ok.bind;(exact IP _ (hm.f _ (by assumption)).n);intro _ _)|(with_reducible apply Ok.bind;(exact iG _ _ p);intro _ _)|(with_reducible apply Ok.bind;(exact x9 _ _ A);intro _ _)|(with_reducible apply Ok.bind;(exact ya _);intro _ _)|(with_reducible apply Ok.bind;(exact yb _ _ h);intro _ _)|(with_reducible apply Ok.bind;(exact yc _ _ hm (by(first|trivial|assumption|contradiction|omega|solve_by_elim|(simp only[Bool.and_eq_true,Bool.or_eq_true,Bool.not_eq_true',Bool.and_eq_false_iff,Bool.or_eq_false_iff,decide_eq_true_eq,decide_eq_false_iff_not]at*;omega)|grind)));intro _ _)|(with_reducible apply Ok.bind;(exact yd _ _ h (hm.f _ (by assumption)));intro _ _)|(with_reducible apply Ok.bind;(exact HC _ _ _ _ _ (by omega) (hm.f _ (by assumption)).o);intro _ _)|(with_reducible apply Ok.clg;(exact fun _=>Dv _ _ _ _ _ (by omega));intro _)|(with_reducible apply Ok.clg;(exact fun _=>IP _ (hm.f _ (by assumption)).n);intro _)|(with_reducible apply Ok.clg;(exact fun _=>iG _ _ p);intro _)|(with_reducible apply Ok.clg;(exact fun _=>x9 _ _ A);intro _)|(with_reducible apply Ok.clg;(exact fun _=>ya _);intro _)|(with_reducible apply Ok.clg;(exact fun _=>yb _ _ h);intro _)|(with_reducible apply Ok.clg;(exact fun _=>yc _ _ hm (by(first|trivial|assumption|contradiction|omega|solve_by_elim|(simp only[Bool.and_eq_true,Bool.or_eq_true,Bool.not_eq_true',Bool.and_eq_false_iff,Bool.or_eq_false_iff,decide_eq_true_eq,decide_eq_false_iff_not]at*;omega)|grind)));intro _)|(with_reducible apply Ok.clg;(exact fun _=>yd _ _ h (hm.f _ (by assumption)));intro _)|(with_reducible apply Ok.clg;(exact fun _=>HC _ _ _ _ _ (by omega) (hm.f _ (by assumption)).o);intro _)|with_reducible refine Ok.idxg ?_ (fun _=>?_)|with_reducible refine Ok.if ?_ ?_))
  all_goals try (first|trivial|assumption|contradiction|omega|solve_by_elim|(simp only[Bool.and_eq_true,Bool.or_eq_true,Bool.not_eq_true',Bool.and_eq_false_iff,Bool.or_eq_false_iff,decide_eq_true_eq,decide_eq_false_iff_not]at*;omega)|grind)
  have D:=‹decide (0<(v:Int))=true→m.fields[((v:Int)-1).toNat]?=some (m.fields.getD ((v:Int)-1).toNat Rw.z)∧_›
  have he:=‹m.fields[v]?=some _›
  dsimp only
  refine⟨⟨by(first|trivial|assumption|contradiction|omega|solve_by_elim|(simp only[Bool.and_eq_true,Bool.or_eq_true,Bool.not_eq_true',Bool.and_eq_false_iff,Bool.or_eq_false_iff,decide_eq_true_eq,decide_eq_false_iff_not]at*;omega)|grind),by omega,fun o=>⟨Zwf (b:=m.fields.getD ((v:Int)-1).toNat Rw.z) (c (by omega)).1 he fun k=>?_,fun j f n g=>?_⟩⟩,by(first|trivial|assumption|contradiction|omega|solve_by_elim|(simp only[Bool.and_eq_true,Bool.or_eq_true,Bool.not_eq_true',Bool.and_eq_false_iff,Bool.or_eq_false_iff,decide_eq_true_eq,decide_eq_false_iff_not]at*;omega)|grind)⟩
  have ev:((v:Int)-1).toNat=v-1:=by omega
  refine⟨ev▸(D (decide_eq_true (by omega))).1,?_⟩
  rcases Int.lt_or_le (m.fields.getD ((v:Int)-1).toNat Rw.z).num (Fld.num _)with z|u
  ·exact z
  ·exfalso
   have I:=Bool.and_eq_true _ _▸And.intro (decide_eq_true (show(0:Int)<v by omega)) (decide_eq_true u)
   grind
  ·rcases Nat.lt_or_eq_of_le (Nat.le_of_lt_succ n)with n|rfl
   ·exact(c (by omega)).2 j f n g
   ·rw[he]at g
    cases g
    refine(show _=true→HD _ by assumption) (jJ fun B=>?_)
    rw[Bool.not_eq_true]at B
    subst B
    simp only[TC,true_implies]at*
    omega
  have C:v=m.fields.length:=by(first|trivial|assumption|contradiction|omega|solve_by_elim|(simp only[Bool.and_eq_true,Bool.or_eq_true,Bool.not_eq_true',Bool.and_eq_false_iff,Bool.or_eq_false_iff,decide_eq_true_eq,decide_eq_false_iff_not]at*;omega)|grind)
  subst C
  exact⟨by(first|trivial|assumption|contradiction|omega|solve_by_elim|(simp only[Bool.and_eq_true,Bool.or_eq_true,Bool.not_eq_true',Bool.and_eq_false_iff,Bool.or_eq_false_iff,decide_eq_true_eq,decide_eq_false_iff_not]at*;omega)|grind),fun o=>⟨(c o).1,fun j f g=>(c o).2 j f (Yd.1 g).1 g⟩⟩
 have G:∀a:List Prb,a.length≤20000000→Ok (Sum.elim (fun y:List Prb=>a.length≤y.length∧y.length≤22000000) No) (Am (R6 s m l) Ai (0,a)):=by
  intro a d
  refine Ok.loop (fun v:Nat×List Prb=>v.1≤m.gone.length∧v.2.length≤20000000+v.1∧a.length≤v.2.length) (fun v:Nat×List Prb=>m.gone.length-v.1) ⟨by simp,by simpa using d,by simp⟩ (AW (by omega)) fun v k=>?_
  obtain⟨v,r⟩:=v
  obtain⟨q,t,c⟩:=k
  dsimp only at q t c
  dsimp only[R6,dE,ft,eo,bE,br,ix,vz,vw,vs,ln,Al,lc,cl,wa,fl,Ah,br]
  (repeat' (first|with_reducible refine Ok.br (fun _=>?_) (fun _=>?_)|with_reducible refine Ok.pure ?_|with_reducible refine Ok.idx ?_ (fun _ _ _=>?_)|(with_reducible apply Ok.bind;(exact Dv _ _ _ _ _ (by omega));intro _ _)|(with_reducible apply Ok.bind;(exact iH _ (hm.g _ (by assumption)));intro _ _)|with_reducible refine Ok.if ?_ ?_))<;>(first|trivial|assumption|contradiction|omega|grind|(simp only[Bd.c,Bd.vl,ByteArray.size_append,ByteArray.size_extract,AE]at*;grind))
 dsimp only[Zf,db,g6,dI,dk,gO,bS,eL,cB,fR,cA,ic,eZ,fy,fK,vz,vy,vw,lr,lc,cl,fl,fr,Ah]
 (repeat' (first|with_reducible refine Ok.br (fun _=>?_) (fun _=>?_)|with_reducible refine Ok.pure ?_|(with_reducible apply Ok.lb;(exact E _ (by(first|trivial|assumption|contradiction|omega|solve_by_elim|(simp only[Bool.and_eq_true,Bool.or_eq_true,Bool.not_eq_true',Bool.and_eq_false_iff,Bool.or_eq_false_iff,decide_eq_true_eq,decide_eq_false_iff_not]at*;omega)|grind)));all_goals(intro _ _;try dsimp only))|(with_reducible apply Ok.lb;(exact G _ (by omega));all_goals(intro _ _;try dsimp only))|(with_reducible apply Ok.bind;(exact iF _ hm.n);intro _ _)|(with_reducible apply Ok.bind;(exact W0 _ _ _ _);intro _ _)|(with_reducible apply Ok.bind;(exact Dv _ _ _ _ _ (by omega));intro _ _)|(with_reducible apply Ok.bind;(exact HC _ _ _ _ _ (by omega) hm.o);intro _ _)|(with_reducible apply Ok.bind;(exact ye _ _ _ _ _ (by omega) p);intro _ _)|(with_reducible apply Ok.bind;(exact o87 _ _ _ h hm hl);intro _ _)|with_reducible refine Ok.if ?_ ?_))<;>(first|trivial|assumption|contradiction|omega|grind|(simp only[Bd.c,Bd.vl,ByteArray.size_append,ByteArray.size_extract,AE]at*;grind))
theorem o67(e:Enm)(hm:SzE e):Ok (fun y=>y.length≤67108864) (XO e):=by
 have l:=hm.il
 have f:=hm.r
 have k:∀(v:Nat) (r:List Prb) (x:Itm),v≤e.items.length→Ok (Sum.elim Tr No) (Am (RO e v r x) Ai (false,0)):=by
  intro w r x m
  refine Ok.loop (fun v:Bool×Nat=>v.2≤w) (fun v:Bool×Nat=>w-v.2) (by simp) (AW (by omega)) fun v c=>?_
  obtain⟨b,i⟩:=v
  dsimp only at c
  dsimp only[RO,WA,br,ix,vz,vw,vs,ln,Al,wa,fl,br]
  (repeat' (first|with_reducible refine Ok.br (fun _=>?_) (fun _=>?_)|with_reducible refine Ok.pure ?_|with_reducible refine Ok.idx ?_ (fun _ _ _=>?_)|with_reducible refine Ok.if ?_ ?_))<;>(first|trivial|assumption|contradiction|omega|grind|(simp only[Bd.c,Bd.vl,ByteArray.size_append,ByteArray.size_extract,AE]at*;grind))
 have j:∀d:List Prb,d.length≤9→Ok (Sum.elim (fun y:List Prb=>y.length≤10485769) No) (Am (Rq e) Ai (0,d)):=by
  intro d a
  refine Ok.loop (fun v:Nat×List Prb=>v.1≤e.items.length∧v.2.length≤9+10*v.1) (fun v:Nat×List Prb=>e.items.length-v.1) ⟨by simp,by simpa using a⟩ (AW (by omega)) fun v c=>?_
  obtain⟨v,r⟩:=v
  obtain⟨g,h⟩:=c
  dsimp only at g h
  dsimp only[Rq,dl,dp,gp,gU,dg,di,cJ,dW,T4,Ug,Um,TU,WB,V0,Vf,U9,br,ix,A8,vz,vw,vs,vg,ln,Al,lc,cl,wa,wi,fl,Ah,br]
  (repeat' (first|with_reducible refine Ok.br (fun _=>?_) (fun _=>?_)|with_reducible refine Ok.pure ?_|with_reducible refine Ok.idx ?_ (fun _ _ _=>?_)|(with_reducible apply Ok.lb;(exact k _ _ _ (by omega));all_goals(intro _ _;try dsimp only))|(with_reducible apply Ok.bind;(exact Dv _ _ _ _ _ (by omega));intro _ _)|(with_reducible apply Ok.bind;(exact IP _ (hm.i _ (by assumption)).n);intro _ _)|(with_reducible apply Ok.bind;(exact iG _ _ f);intro _ _)|(with_reducible apply Ok.bind;(exact HC _ _ _ _ _ (by omega) (hm.i _ (by assumption)).o);intro _ _)|with_reducible refine Ok.idxg ?_ (fun _=>?_)|with_reducible refine Ok.if ?_ ?_))<;>(first|trivial|assumption|contradiction|omega|grind|(simp only[Bd.c,Bd.vl,ByteArray.size_append,ByteArray.size_extract,AE]at*;grind))
 dsimp only[XO,em,bX,bN,cX,fP,g9,eY,cG,dj,gN,gg,ff,bM,A8,vz,vy,vw,lr,lc,cl,fl,fr,Ah]
 (repeat' (first|with_reducible refine Ok.br (fun _=>?_) (fun _=>?_)|with_reducible refine Ok.pure ?_|(with_reducible apply Ok.lb;(exact j _ (by(first|trivial|assumption|contradiction|omega|solve_by_elim|(simp only[Bool.and_eq_true,Bool.or_eq_true,Bool.not_eq_true',Bool.and_eq_false_iff,Bool.or_eq_false_iff,decide_eq_true_eq,decide_eq_false_iff_not]at*;omega)|grind)));all_goals(intro _ _;try dsimp only))|(with_reducible apply Ok.bind;(exact iF _ hm.n);intro _ _)|(with_reducible apply Ok.bind;(exact W0 _ _ _ _);intro _ _)|(with_reducible apply Ok.bind;(exact Dv _ _ _ _ _ (by omega));intro _ _)|(with_reducible apply Ok.bind;(exact HC _ _ _ _ _ (by omega) hm.o);intro _ _)|(with_reducible apply Ok.bind;(exact ye _ _ _ _ _ (by omega) f);intro _ _)|with_reducible refine Ok.idxg ?_ (fun _=>?_)|with_reducible refine Ok.if ?_ ?_))<;>(first|trivial|assumption|contradiction|omega|grind|(simp only[Bd.c,Bd.vl,ByteArray.size_append,ByteArray.size_extract,AE]at*;grind))
theorem o68(s:Scm)(e:Svc)(h:SzS s)(hm:SzW e):Ok (fun y=>y.length≤67108864) (Zh s e):=by
 have i:=hm.ml
 have g:∀b:List Prb,b.length≤9→Ok (Sum.elim (fun y:List Prb=>y.length≤10485769) No) (Am (R2 s e) Ai (0,b)):=by
  intro b a
  refine Ok.loop (fun v:Nat×List Prb=>v.1≤e.methods.length∧v.2.length≤9+10*v.1) (fun v:Nat×List Prb=>e.methods.length-v.1) ⟨by simp,by simpa using a⟩ (AW (by omega)) fun v f=>?_
  obtain⟨v,r⟩:=v
  obtain⟨c,d⟩:=f
  dsimp only at c d
  dsimp only[R2,fa,fg,dH,dM,VS,Vt,Us,WD,Vg,VL,TP,UI,UP,br,ix,A8,vz,vw,vs,vg,ln,Al,lc,cl,clg,wa,wi,fl,Ah,br]
  (repeat' (first|with_reducible refine Ok.br (fun _=>?_) (fun _=>?_)|with_reducible refine Ok.pure ?_|with_reducible refine Ok.idx ?_ (fun _ _ _=>?_)|(with_reducible apply Ok.bind;(exact Dv _ _ _ _ _ (by omega));intro _ _)|(with_reducible apply Ok.bind;(exact M7 _ _ h);intro _ _)|(with_reducible apply Ok.bind;(exact IP _ (hm.m _ (by assumption)).n);intro _ _)|(with_reducible apply Ok.bind;(exact HC _ _ _ _ _ (by omega) (hm.m _ (by assumption)).o);intro _ _)|(with_reducible apply Ok.clg;(exact fun _=>Dv _ _ _ _ _ (by omega));intro _)|(with_reducible apply Ok.clg;(exact fun _=>M7 _ _ h);intro _)|(with_reducible apply Ok.clg;(exact fun _=>IP _ (hm.m _ (by assumption)).n);intro _)|(with_reducible apply Ok.clg;(exact fun _=>HC _ _ _ _ _ (by omega) (hm.m _ (by assumption)).o);intro _)|with_reducible refine Ok.idxg ?_ (fun _=>?_)|with_reducible refine Ok.if ?_ ?_))<;>(first|trivial|assumption|contradiction|omega|grind|(simp only[Bd.c,Bd.vl,ByteArray.size_append,ByteArray.size_extract,AE]at*;grind))
 dsimp only[Zh,b0,gS,fM,eS,eE,cT,ew,gD,g7,vz,vw,lr,lc,cl,fl,fr,Ah]
 (repeat' (first|with_reducible refine Ok.br (fun _=>?_) (fun _=>?_)|with_reducible refine Ok.pure ?_|(with_reducible apply Ok.lb;(exact g _ (by(first|trivial|assumption|contradiction|omega|solve_by_elim|(simp only[Bool.and_eq_true,Bool.or_eq_true,Bool.not_eq_true',Bool.and_eq_false_iff,Bool.or_eq_false_iff,decide_eq_true_eq,decide_eq_false_iff_not]at*;omega)|grind)));all_goals(intro _ _;try dsimp only))|(with_reducible apply Ok.bind;(exact iF _ hm.n);intro _ _)|(with_reducible apply Ok.bind;(exact W0 _ _ _ _);intro _ _)|(with_reducible apply Ok.bind;(exact Dv _ _ _ _ _ (by omega));intro _ _)|(with_reducible apply Ok.bind;(exact HC _ _ _ _ _ (by omega) hm.o);intro _ _)|with_reducible refine Ok.if ?_ ?_))<;>(first|trivial|assumption|contradiction|omega|grind|(simp only[Bd.c,Bd.vl,ByteArray.size_append,ByteArray.size_extract,AE]at*;grind))
structure Few (s:Scm):Prop where
 m:s.messages.length≤150
 e:s.enums.length≤150
 w:s.services.length≤150
theorem o37(s:Scm)(h:SzS s)(k:Few s):Ok (fun y=>y.length=0→∀(i:Nat) (m:Msg),s.messages[i]?=some m→GdM m) (Zx s):=by
 have p:=k.m
 have q:=k.e
 have t:=k.w
 have g:Ok (Sum.elim (fun y:List Prb=>y.length≤9) No) (Am (Sh s) Ai (1,[])):=by
  refine Ok.loop (fun v:Nat×List Prb=>1≤v.1∧v.1≤4∧v.2.length≤2*v.1) (fun v:Nat×List Prb=>4-v.1) ⟨by simp,by simp,by simp⟩ (AW (by omega)) fun v f=>?_
  obtain⟨v,r⟩:=v
  obtain⟨c,d,e⟩:=f
  dsimp only at c d e
  dsimp only[Sh,Ur,V3,Vi,VF,Wg,U6,Uy,br,vz,vw,vs,ln,Al,lc,cl,wa,fl,Ah,br]
  (repeat' (first|with_reducible refine Ok.br (fun _=>?_) (fun _=>?_)|with_reducible refine Ok.pure ?_|(with_reducible apply Ok.bind;(exact iE _ _ h);intro _ _)|(with_reducible apply Ok.bind;(exact Dv _ _ _ _ _ (by omega));intro _ _)|(with_reducible apply Ok.bind;(exact o63 _ (by assumption));intro _ _)|with_reducible refine Ok.if ?_ ?_))<;>(first|trivial|assumption|contradiction|omega|grind|(simp only[Bd.c,Bd.vl,ByteArray.size_append,ByteArray.size_extract,AE]at*;grind))
 have j:∀(a:List Prb) (l:List Bool),a.length≤10→l.length=s.messages.length→Ok (Sum.elim (fun y:List Prb=>y.length≤10066329610∧(y.length=0→∀(i:Nat) (m:Msg),s.messages[i]?=some m→GdM m)) No) (Am (RA s l) Ai (0,a)):=by
  intro a l b hl
  refine Ok.loop (fun v:Nat×List Prb=>v.1≤s.messages.length∧v.2.length≤10+67108864*v.1∧(v.2.length=0→∀(i:Nat) (m:Msg),i<v.1→s.messages[i]?=some m→GdM m)) (fun v:Nat×List Prb=>s.messages.length-v.1) ⟨by simp,by simpa using b,fun _ i m hi=>by simp at hi⟩ (AW (by omega)) fun v f=>?_
  obtain⟨v,r⟩:=v
  obtain⟨c,d,e⟩:=f
  dsimp only at c d e
  dsimp only[RA,cg,U0,MN,br,ix,vz,vw,vs,ln,Al,lc,aq,cl,wa,tw,fl,Ah,br]
  (repeat' (first|with_reducible refine Ok.br (fun _=>?_) (fun _=>?_)|with_reducible refine Ok.pure ?_|with_reducible refine Ok.idx ?_ (fun _ _ _=>?_)|(with_reducible apply Ok.bind;(exact o66 _ _ _ h (h.m _ (by assumption)) hl);intro _ _)|with_reducible refine Ok.if ?_ ?_))<;>(first|trivial|assumption|contradiction|omega|grind|(simp only[Bd.c,Bd.vl,ByteArray.size_append,ByteArray.size_extract,AE]at*;grind))
 have n:∀a:List Prb,a.length≤10066329610→Ok (Sum.elim (fun y:List Prb=>a.length≤y.length∧y.length≤20132659210) No) (Am (Rn s) Ai (0,a)):=by
  intro a b
  refine Ok.loop (fun v:Nat×List Prb=>v.1≤s.enums.length∧v.2.length≤10066329610+67108864*v.1∧a.length≤v.2.length) (fun v:Nat×List Prb=>s.enums.length-v.1) ⟨by simp,by simpa using b,by simp⟩ (AW (by omega)) fun v f=>?_
  obtain⟨v,r⟩:=v
  obtain⟨c,d,e⟩:=f
  dsimp only at c d e
  dsimp only[Rn,gX,fF,MG,br,ix,vz,vw,vs,ln,Al,lc,aq,cl,wa,tw,fl,Ah,br]
  (repeat' (first|with_reducible refine Ok.br (fun _=>?_) (fun _=>?_)|with_reducible refine Ok.pure ?_|with_reducible refine Ok.idx ?_ (fun _ _ _=>?_)|(with_reducible apply Ok.bind;(exact o67 _ (h.e _ (by assumption)));intro _ _)|with_reducible refine Ok.if ?_ ?_))<;>(first|trivial|assumption|contradiction|omega|grind|(simp only[Bd.c,Bd.vl,ByteArray.size_append,ByteArray.size_extract,AE]at*;grind))
 have o:∀a:List Prb,a.length≤20132659210→Ok (Sum.elim (fun y:List Prb=>a.length≤y.length) No) (Am (SJ s) Ai (0,a)):=by
  intro a b
  refine Ok.loop (fun v:Nat×List Prb=>v.1≤s.services.length∧v.2.length≤20132659210+67108864*v.1∧a.length≤v.2.length) (fun v:Nat×List Prb=>s.services.length-v.1) ⟨by simp,by simpa using b,by simp⟩ (AW (by omega)) fun v f=>?_
  obtain⟨v,r⟩:=v
  obtain⟨c,d,e⟩:=f
  dsimp only at c d e
  dsimp only[SJ,en,eK,ME,br,ix,vz,vw,vs,ln,Al,lc,aq,cl,wa,tw,fl,Ah,br]
  (repeat' (first|with_reducible refine Ok.br (fun _=>?_) (fun _=>?_)|with_reducible refine Ok.pure ?_|with_reducible refine Ok.idx ?_ (fun _ _ _=>?_)|(with_reducible apply Ok.bind;(exact o68 _ _ h (h.w _ (by assumption)));intro _ _)|with_reducible refine Ok.if ?_ ?_))<;>(first|trivial|assumption|contradiction|omega|grind|(simp only[Bd.c,Bd.vl,ByteArray.size_append,ByteArray.size_extract,AE]at*;grind))
 dsimp only[Zx,eg,fQ,dw,cW,ej,dV,fi,fW,gR,eR,dm,fE,vz,vw,lr,lc,cl,clg,fl,fr]
 (repeat' (first|with_reducible refine Ok.br (fun _=>?_) (fun _=>?_)|with_reducible refine Ok.pure ?_|(with_reducible apply Ok.lb;(exact g);all_goals(intro _ _;try dsimp only))|(with_reducible apply Ok.lb;(exact j _ _ (by omega) (by assumption));all_goals(intro _ _;try dsimp only))|(with_reducible apply Ok.lb;(exact n _ (by omega));all_goals(intro _ _;try dsimp only))|(with_reducible apply Ok.lb;(exact o _ (by omega));all_goals(intro _ _;try dsimp only))|(with_reducible apply Ok.bind;(exact iE _ _ h);intro _ _)|(with_reducible apply Ok.bind;(exact x7 _ _ (by assumption) (by assumption));intro _ _)|(with_reducible apply Ok.bind;(exact x8 _ h);intro _ _)|(with_reducible apply Ok.bind;(exact Dv _ _ _ _ _ (by omega));intro _ _)|(with_reducible apply Ok.clg;(exact fun _=>iE _ _ h);intro _)|(with_reducible apply Ok.clg;(exact fun _=>x7 _ _ (by assumption) (by assumption));intro _)|(with_reducible apply Ok.clg;(exact fun _=>x8 _ h);intro _)|(with_reducible apply Ok.clg;(exact fun _=>Dv _ _ _ _ _ (by omega));intro _)|with_reducible refine Ok.if ?_ ?_))<;>(first|trivial|assumption|contradiction|omega|grind|(simp only[Bd.c,Bd.vl,ByteArray.size_append,ByteArray.size_extract,AE]at*;grind))
theorem o16(s:Scm)(h:SzS s)(k:Few s):Ok (fun b=>b=true→∀(i:Nat) (m:Msg),s.messages[i]?=some m→GdM m) (Ph s):=by
 dsimp only[Ph,Ux,vz,vw,lr,cl,Ah]
 (repeat' (first|with_reducible refine Ok.br (fun _=>?_) (fun _=>?_)|with_reducible refine Ok.pure ?_|(with_reducible apply Ok.bind;(exact o37 _ h k);intro _ _)|with_reducible refine Ok.if ?_ ?_))<;>(first|trivial|assumption|contradiction|omega|grind|(simp only[Bd.c,Bd.vl,ByteArray.size_append,ByteArray.size_extract,AE]at*;grind))
theorem IN(l:List ByteArray)(n:Int)(h:l.length≤1048576)(b:0≤n)(a:n≤400):Ok (fun y:Int=>0≤y∧y≤1048986∧(l.length≤10→(l.length:Int)≤y)) (Zd l n):=by
 have q:Ok (Sum.elim Tr fun y:Int=>10≤y∧y≤410) (Am (Rp l n) Ai 0):=by
  refine Ok.loop (fun v:Nat=>v≤l.length) (fun v:Nat=>l.length-v) (by omega) (AW (by omega)) fun v c=>?_
  dsimp only[Rp,Ue,br,ix,vz,vs,Ay,ln,Al,wa,wi,Ah,A3,br]
  (repeat' (first|with_reducible refine Ok.br (fun _=>?_) (fun _=>?_)|with_reducible refine Ok.pure ?_|with_reducible refine Ok.idx ?_ (fun _ _ _=>?_)|with_reducible refine Ok.if ?_ ?_))<;>(first|trivial|assumption|contradiction|omega|grind|(simp only[Bd.c,Bd.vl,ByteArray.size_append,ByteArray.size_extract,AE]at*;grind))
 dsimp only[Zd,Wf,Uj,Wj,vz,lr,lc,Ah]
 (repeat' (first|with_reducible refine Ok.br (fun _=>?_) (fun _=>?_)|with_reducible refine Ok.pure ?_|(with_reducible apply Ok.lb;(exact q);all_goals(intro _ _;try dsimp only))|with_reducible refine Ok.if ?_ ?_))<;>(first|trivial|assumption|contradiction|omega|grind|(simp only[Bd.c,Bd.vl,ByteArray.size_append,ByteArray.size_extract,AE]at*;grind))
theorem KM(l:List Nt)(n:Int)(h:Fx l)(e:0≤n)(c:n≤400):Ok (fun y:Int=>0≤y∧y≤1048986) (Za l n):=by
 obtain⟨d,b⟩:=h
 have g:∀x∈l,x.val.list.length≤1048576:=fun x a=>(b x a).v.l
 have i:∀x∈l,x.val.pairs.length≤1048576:=fun x a=>(b x a).v.p
 have j:∀x∈l,x.val.slots.length≤1048576:=fun x a=>(b x a).v.s
 have k:∀x∈l,x.val.raws.length≤1048576:=fun x a=>(b x a).v.r
 have q:Ok (Sum.elim Tr fun y:Int=>10≤y∧y≤410) (Am (SI l n) Ai 0):=by
  refine Ok.loop (fun v:Nat=>v≤l.length) (fun v:Nat=>l.length-v) (by omega) (AW (by omega)) fun v f=>?_
  dsimp only[SI,TO,br,ix,vz,vy,vw,vs,vg,Ay,ln,Al,wa,wi,Ah,A3,br]
  (repeat' (first|with_reducible refine Ok.br (fun _=>?_) (fun _=>?_)|with_reducible refine Ok.pure ?_|with_reducible refine Ok.idx ?_ (fun _ _ _=>?_)|with_reducible refine Ok.if ?_ ?_))<;>(first|trivial|assumption|contradiction|omega|grind|(simp only[Bd.c,Bd.vl,ByteArray.size_append,ByteArray.size_extract,AE]at*;grind))
 dsimp only[Za,VY,UK,T6,vz,lr,lc,Ah]
 (repeat' (first|with_reducible refine Ok.br (fun _=>?_) (fun _=>?_)|with_reducible refine Ok.pure ?_|(with_reducible apply Ok.lb;(exact q);all_goals(intro _ _;try dsimp only))|with_reducible refine Ok.if ?_ ?_))<;>(first|trivial|assumption|contradiction|omega|grind|(simp only[Bd.c,Bd.vl,ByteArray.size_append,ByteArray.size_extract,AE]at*;grind))
theorem o15(s:Scm)(h:SzS s):Ok (fun b=>b=true→Few s) (X3 s):=by
 have u:=h.ml
 have z:=h.el
 have A:=h.wl
 have l:∀(v:Nat) (m:Msg) (n:Int),SzM m→ -10000000≤n→n≤400→Ok (Sum.elim (fun y:Int=>-10000000≤y∧y≤400) No) (Am (R0 s v m) Ai (n,0)):=by
  intro w m n hm g f
  have j:=hm.fl
  refine Ok.loop (fun v:Int×Nat=>v.2≤m.fields.length∧ -10000000≤v.1∧v.1≤400) (fun v:Int×Nat=>m.fields.length-v.2) ⟨by omega,by omega,by omega⟩ (AW (by omega)) fun v e=>?_
  obtain⟨n,v⟩:=v
  obtain⟨c,d,a⟩:=e
  dsimp only at c d a
  dsimp only[R0,UH,br,ix,vz,vw,vs,v2,ln,Al,cl,wa,wi,Ah,A3,br]
  (repeat' (first|with_reducible refine Ok.br (fun _=>?_) (fun _=>?_)|with_reducible refine Ok.pure ?_|with_reducible refine Ok.idx ?_ (fun _ _ _=>?_)|(with_reducible apply Ok.bind;(exact KM _ _ (hm.f _ (by assumption)).o (by(first|trivial|assumption|contradiction|omega|solve_by_elim|(simp only[Bool.and_eq_true,Bool.or_eq_true,Bool.not_eq_true',Bool.and_eq_false_iff,Bool.or_eq_false_iff,decide_eq_true_eq,decide_eq_false_iff_not]at*;omega)|grind)) a);intro _ _)|(with_reducible apply Ok.bind;(exact IN _ _ (by simp) (by(first|trivial|assumption|contradiction|omega|solve_by_elim|(simp only[Bool.and_eq_true,Bool.or_eq_true,Bool.not_eq_true',Bool.and_eq_false_iff,Bool.or_eq_false_iff,decide_eq_true_eq,decide_eq_false_iff_not]at*;omega)|grind)) a);intro _ _)|with_reducible refine Ok.if ?_ ?_))<;>(first|trivial|assumption|contradiction|omega|grind|(simp only[Bd.c,Bd.vl,ByteArray.size_append,ByteArray.size_extract,AE]at*;grind))
 have k:Ok (Sum.elim (fun y:Int=>-10000000≤y∧y≤400) No) (Am (Sj s) Ai (400,0)):=by
  refine Ok.loop (fun v:Int×Nat=>v.2≤s.messages.length∧ -10000000≤v.1∧v.1≤400) (fun v:Int×Nat=>s.messages.length-v.2) ⟨by omega,by omega,by omega⟩ (AW (by omega)) fun v e=>?_
  obtain⟨n,v⟩:=v
  obtain⟨c,d,a⟩:=e
  dsimp only at c d a
  dsimp only[Sj,Wy,VD,VX,br,ix,vz,vw,vs,v2,ln,Al,lc,cl,wa,wi,Ah,br]
  have t:∀x∈s.messages,x.reserved.length≤1048576:=fun x i=>(h.m x i).r
  (repeat' (first|with_reducible refine Ok.br (fun _=>?_) (fun _=>?_)|with_reducible refine Ok.pure ?_|with_reducible refine Ok.idx ?_ (fun _ _ _=>?_)|(with_reducible apply Ok.lb;(exact l _ _ _ (h.m _ (by assumption)) (by(first|trivial|assumption|contradiction|omega|solve_by_elim|(simp only[Bool.and_eq_true,Bool.or_eq_true,Bool.not_eq_true',Bool.and_eq_false_iff,Bool.or_eq_false_iff,decide_eq_true_eq,decide_eq_false_iff_not]at*;omega)|grind)) (by(first|trivial|assumption|contradiction|omega|solve_by_elim|(simp only[Bool.and_eq_true,Bool.or_eq_true,Bool.not_eq_true',Bool.and_eq_false_iff,Bool.or_eq_false_iff,decide_eq_true_eq,decide_eq_false_iff_not]at*;omega)|grind)));all_goals(intro _ _;try dsimp only))|(with_reducible apply Ok.bind;(exact KM _ _ (h.m _ (by assumption)).o (by(first|trivial|assumption|contradiction|omega|solve_by_elim|(simp only[Bool.and_eq_true,Bool.or_eq_true,Bool.not_eq_true',Bool.and_eq_false_iff,Bool.or_eq_false_iff,decide_eq_true_eq,decide_eq_false_iff_not]at*;omega)|grind)) a);intro _ _)|(with_reducible apply Ok.bind;(exact IN _ _ (h.m _ (by assumption)).gl (by(first|trivial|assumption|contradiction|omega|solve_by_elim|(simp only[Bool.and_eq_true,Bool.or_eq_true,Bool.not_eq_true',Bool.and_eq_false_iff,Bool.or_eq_false_iff,decide_eq_true_eq,decide_eq_false_iff_not]at*;omega)|grind)) a);intro _ _)|(with_reducible apply Ok.bind;(exact IN _ _ (by simp) (by(first|trivial|assumption|contradiction|omega|solve_by_elim|(simp only[Bool.and_eq_true,Bool.or_eq_true,Bool.not_eq_true',Bool.and_eq_false_iff,Bool.or_eq_false_iff,decide_eq_true_eq,decide_eq_false_iff_not]at*;omega)|grind)) a);intro _ _)|with_reducible refine Ok.if ?_ ?_))<;>(first|trivial|assumption|contradiction|omega|grind|(simp only[Bd.c,Bd.vl,ByteArray.size_append,ByteArray.size_extract,AE]at*;grind))
 have p:∀(v:Nat) (m:Enm) (n:Int),SzE m→ -10000000≤n→n≤400→Ok (Sum.elim (fun y:Int=>-10000000≤y∧y≤400) No) (Am (Sn s v m) Ai (n,0)):=by
  intro w m n hm g f
  have j:=hm.il
  refine Ok.loop (fun v:Int×Nat=>v.2≤m.items.length∧ -10000000≤v.1∧v.1≤400) (fun v:Int×Nat=>m.items.length-v.2) ⟨by omega,by omega,by omega⟩ (AW (by omega)) fun v e=>?_
  obtain⟨n,v⟩:=v
  obtain⟨c,d,a⟩:=e
  dsimp only at c d a
  dsimp only[Sn,Wp,br,ix,vz,vw,vs,ln,Al,cl,wa,wi,Ah,br]
  (repeat' (first|with_reducible refine Ok.br (fun _=>?_) (fun _=>?_)|with_reducible refine Ok.pure ?_|with_reducible refine Ok.idx ?_ (fun _ _ _=>?_)|(with_reducible apply Ok.bind;(exact KM _ _ (hm.i _ (by assumption)).o (by(first|trivial|assumption|contradiction|omega|solve_by_elim|(simp only[Bool.and_eq_true,Bool.or_eq_true,Bool.not_eq_true',Bool.and_eq_false_iff,Bool.or_eq_false_iff,decide_eq_true_eq,decide_eq_false_iff_not]at*;omega)|grind)) a);intro _ _)|(with_reducible apply Ok.bind;(exact IN _ _ (by simp) (by(first|trivial|assumption|contradiction|omega|solve_by_elim|(simp only[Bool.and_eq_true,Bool.or_eq_true,Bool.not_eq_true',Bool.and_eq_false_iff,Bool.or_eq_false_iff,decide_eq_true_eq,decide_eq_false_iff_not]at*;omega)|grind)) a);intro _ _)|with_reducible refine Ok.if ?_ ?_))<;>(first|trivial|assumption|contradiction|omega|grind|(simp only[Bd.c,Bd.vl,ByteArray.size_append,ByteArray.size_extract,AE]at*;grind))
 have o:∀n:Int,-10000000≤n→n≤400→Ok (Sum.elim (fun y:Int=>-10000000≤y∧y≤400) No) (Am (RS s) Ai (n,0)):=by
  intro n g f
  refine Ok.loop (fun v:Int×Nat=>v.2≤s.enums.length∧ -10000000≤v.1∧v.1≤400) (fun v:Int×Nat=>s.enums.length-v.2) ⟨by omega,by omega,by omega⟩ (AW (by omega)) fun v e=>?_
  obtain⟨n,v⟩:=v
  obtain⟨c,d,a⟩:=e
  dsimp only at c d a
  dsimp only[RS,V5,UL,T7,br,ix,vz,vw,vs,ln,Al,lc,cl,wa,wi,Ah,br]
  have t:∀x∈s.enums,x.reserved.length≤1048576:=fun x i=>(h.e x i).r
  (repeat' (first|with_reducible refine Ok.br (fun _=>?_) (fun _=>?_)|with_reducible refine Ok.pure ?_|with_reducible refine Ok.idx ?_ (fun _ _ _=>?_)|(with_reducible apply Ok.lb;(exact p _ _ _ (h.e _ (by assumption)) (by(first|trivial|assumption|contradiction|omega|solve_by_elim|(simp only[Bool.and_eq_true,Bool.or_eq_true,Bool.not_eq_true',Bool.and_eq_false_iff,Bool.or_eq_false_iff,decide_eq_true_eq,decide_eq_false_iff_not]at*;omega)|grind)) (by(first|trivial|assumption|contradiction|omega|solve_by_elim|(simp only[Bool.and_eq_true,Bool.or_eq_true,Bool.not_eq_true',Bool.and_eq_false_iff,Bool.or_eq_false_iff,decide_eq_true_eq,decide_eq_false_iff_not]at*;omega)|grind)));all_goals(intro _ _;try dsimp only))|(with_reducible apply Ok.bind;(exact KM _ _ (h.e _ (by assumption)).o (by(first|trivial|assumption|contradiction|omega|solve_by_elim|(simp only[Bool.and_eq_true,Bool.or_eq_true,Bool.not_eq_true',Bool.and_eq_false_iff,Bool.or_eq_false_iff,decide_eq_true_eq,decide_eq_false_iff_not]at*;omega)|grind)) a);intro _ _)|(with_reducible apply Ok.bind;(exact IN _ _ (by simp) (by(first|trivial|assumption|contradiction|omega|solve_by_elim|(simp only[Bool.and_eq_true,Bool.or_eq_true,Bool.not_eq_true',Bool.and_eq_false_iff,Bool.or_eq_false_iff,decide_eq_true_eq,decide_eq_false_iff_not]at*;omega)|grind)) a);intro _ _)|with_reducible refine Ok.if ?_ ?_))<;>(first|trivial|assumption|contradiction|omega|grind|(simp only[Bd.c,Bd.vl,ByteArray.size_append,ByteArray.size_extract,AE]at*;grind))
 have r:∀(v:Nat) (m:Svc) (n:Int),SzW m→ -10000000≤n→n≤400→Ok (Sum.elim (fun y:Int=>-10000000≤y∧y≤400) No) (Am (Ss s v m) Ai (n,0)):=by
  intro w m n hm g f
  have j:=hm.ml
  refine Ok.loop (fun v:Int×Nat=>v.2≤m.methods.length∧ -10000000≤v.1∧v.1≤400) (fun v:Int×Nat=>m.methods.length-v.2) ⟨by omega,by omega,by omega⟩ (AW (by omega)) fun v e=>?_
  obtain⟨n,v⟩:=v
  obtain⟨c,d,a⟩:=e
  dsimp only at c d a
  dsimp only[Ss,Uu,br,ix,vz,vw,vs,ln,Al,cl,wa,wi,Ah,br]
  (repeat' (first|with_reducible refine Ok.br (fun _=>?_) (fun _=>?_)|with_reducible refine Ok.pure ?_|with_reducible refine Ok.idx ?_ (fun _ _ _=>?_)|(with_reducible apply Ok.bind;(exact KM _ _ (hm.m _ (by assumption)).o (by(first|trivial|assumption|contradiction|omega|solve_by_elim|(simp only[Bool.and_eq_true,Bool.or_eq_true,Bool.not_eq_true',Bool.and_eq_false_iff,Bool.or_eq_false_iff,decide_eq_true_eq,decide_eq_false_iff_not]at*;omega)|grind)) a);intro _ _)|(with_reducible apply Ok.bind;(exact IN _ _ (by simp) (by(first|trivial|assumption|contradiction|omega|solve_by_elim|(simp only[Bool.and_eq_true,Bool.or_eq_true,Bool.not_eq_true',Bool.and_eq_false_iff,Bool.or_eq_false_iff,decide_eq_true_eq,decide_eq_false_iff_not]at*;omega)|grind)) a);intro _ _)|with_reducible refine Ok.if ?_ ?_))<;>(first|trivial|assumption|contradiction|omega|grind|(simp only[Bd.c,Bd.vl,ByteArray.size_append,ByteArray.size_extract,AE]at*;grind))
 have q:∀n:Int,-10000000≤n→n≤400→Ok (Sum.elim (fun y:Int=>-10000000≤y∧y≤400) No) (Am (Sa s) Ai (n,0)):=by
  intro n g f
  refine Ok.loop (fun v:Int×Nat=>v.2≤s.services.length∧ -10000000≤v.1∧v.1≤400) (fun v:Int×Nat=>s.services.length-v.2) ⟨by omega,by omega,by omega⟩ (AW (by omega)) fun v e=>?_
  obtain⟨n,v⟩:=v
  obtain⟨c,d,a⟩:=e
  dsimp only at c d a
  dsimp only[Sa,dh,bZ,fj,br,ix,vz,vw,vs,ln,Al,lc,cl,wa,wi,Ah,br]
  (repeat' (first|with_reducible refine Ok.br (fun _=>?_) (fun _=>?_)|with_reducible refine Ok.pure ?_|with_reducible refine Ok.idx ?_ (fun _ _ _=>?_)|(with_reducible apply Ok.lb;(exact r _ _ _ (h.w _ (by assumption)) (by(first|trivial|assumption|contradiction|omega|solve_by_elim|(simp only[Bool.and_eq_true,Bool.or_eq_true,Bool.not_eq_true',Bool.and_eq_false_iff,Bool.or_eq_false_iff,decide_eq_true_eq,decide_eq_false_iff_not]at*;omega)|grind)) (by(first|trivial|assumption|contradiction|omega|solve_by_elim|(simp only[Bool.and_eq_true,Bool.or_eq_true,Bool.not_eq_true',Bool.and_eq_false_iff,Bool.or_eq_false_iff,decide_eq_true_eq,decide_eq_false_iff_not]at*;omega)|grind)));all_goals(intro _ _;try dsimp only))|(with_reducible apply Ok.bind;(exact KM _ _ (h.w _ (by assumption)).o (by(first|trivial|assumption|contradiction|omega|solve_by_elim|(simp only[Bool.and_eq_true,Bool.or_eq_true,Bool.not_eq_true',Bool.and_eq_false_iff,Bool.or_eq_false_iff,decide_eq_true_eq,decide_eq_false_iff_not]at*;omega)|grind)) a);intro _ _)|(with_reducible apply Ok.bind;(exact IN _ _ (by simp) (by(first|trivial|assumption|contradiction|omega|solve_by_elim|(simp only[Bool.and_eq_true,Bool.or_eq_true,Bool.not_eq_true',Bool.and_eq_false_iff,Bool.or_eq_false_iff,decide_eq_true_eq,decide_eq_false_iff_not]at*;omega)|grind)) a);intro _ _)|with_reducible refine Ok.if ?_ ?_))<;>(first|trivial|assumption|contradiction|omega|grind|(simp only[Bd.c,Bd.vl,ByteArray.size_append,ByteArray.size_extract,AE]at*;grind))
 dsimp only[X3,gM,gc,fw,dO,fN,br,vz,vy,vw,vg,lr,lc,wa,Ah,br]
 (repeat' (first|with_reducible refine Ok.br (fun _=>?_) (fun _=>?_)|with_reducible refine Ok.pure ?_|(with_reducible apply Ok.lb;(exact k);all_goals(intro _ _;try dsimp only))|(with_reducible apply Ok.lb;(exact o _ (by(first|trivial|assumption|contradiction|omega|solve_by_elim|(simp only[Bool.and_eq_true,Bool.or_eq_true,Bool.not_eq_true',Bool.and_eq_false_iff,Bool.or_eq_false_iff,decide_eq_true_eq,decide_eq_false_iff_not]at*;omega)|grind)) (by(first|trivial|assumption|contradiction|omega|solve_by_elim|(simp only[Bool.and_eq_true,Bool.or_eq_true,Bool.not_eq_true',Bool.and_eq_false_iff,Bool.or_eq_false_iff,decide_eq_true_eq,decide_eq_false_iff_not]at*;omega)|grind)));all_goals(intro _ _;try dsimp only))|(with_reducible apply Ok.lb;(exact q _ (by(first|trivial|assumption|contradiction|omega|solve_by_elim|(simp only[Bool.and_eq_true,Bool.or_eq_true,Bool.not_eq_true',Bool.and_eq_false_iff,Bool.or_eq_false_iff,decide_eq_true_eq,decide_eq_false_iff_not]at*;omega)|grind)) (by(first|trivial|assumption|contradiction|omega|solve_by_elim|(simp only[Bool.and_eq_true,Bool.or_eq_true,Bool.not_eq_true',Bool.and_eq_false_iff,Bool.or_eq_false_iff,decide_eq_true_eq,decide_eq_false_iff_not]at*;omega)|grind)));all_goals(intro _ _;try dsimp only))|with_reducible refine Ok.if ?_ ?_))<;>first|(first|trivial|assumption|contradiction|omega|grind|(simp only[Bd.c,Bd.vl,ByteArray.size_append,ByteArray.size_extract,AE]at*;grind))|exact fun _=>⟨by(first|trivial|assumption|contradiction|omega|solve_by_elim|(simp only[Bool.and_eq_true,Bool.or_eq_true,Bool.not_eq_true',Bool.and_eq_false_iff,Bool.or_eq_false_iff,decide_eq_true_eq,decide_eq_false_iff_not]at*;omega)|grind),by(first|trivial|assumption|contradiction|omega|solve_by_elim|(simp only[Bool.and_eq_true,Bool.or_eq_true,Bool.not_eq_true',Bool.and_eq_false_iff,Bool.or_eq_false_iff,decide_eq_true_eq,decide_eq_false_iff_not]at*;omega)|grind),by(first|trivial|assumption|contradiction|omega|solve_by_elim|(simp only[Bool.and_eq_true,Bool.or_eq_true,Bool.not_eq_true',Bool.and_eq_false_iff,Bool.or_eq_false_iff,decide_eq_true_eq,decide_eq_false_iff_not]at*;omega)|grind)⟩
abbrev AZ(v:Val):Prop:=Ax (Ag v)≤1048576
theorem G3{v x:Val}(h:AZ v)(b:x∈v.list):AZ x:=by
 have a:=CF (e:=Aq) b
 rw[FZ]at a
 unfold AZ at*
 conv at h=>unfold Ag
 simp only[Ax,bk]at h
 omega
theorem D0{v:Val}{x:Pr}(h:AZ v)(b:x∈v.pairs):AZ x.key∧AZ x.val:=by
 have a:=CF (e:=Au) b
 have e:Au x=Ag x.key++Ag x.val:=by rw[Ix];rfl
 rw[e,Mn]at a
 unfold AZ at*
 conv at h=>unfold Ag
 simp only[Ax,bk]at h
 omega
theorem El{v:Val}{x:Slt}(h:AZ v)(b:x∈v.slots):AZ x.val:=by
 have a:=CF (e:=Aj) b
 have e:Aj x=D.int .i64 x.num::Ag x.val:=by rw[F0];rfl
 rw[e,Ax]at a
 unfold AZ at*
 conv at h=>unfold Ag
 simp only[Ax,bk]at h
 omega
theorem PX{α:Type}(p:α→Bool):∀l:List α,l.find? p=(l.findIdx? p).bind fun i=>l[i]?
 |[]=>rfl
 |x::l=>by
  rw[List.find?_cons,List.findIdx?_cons]
  cases h:p x with
  |true=>simp
  |false=>
   rw[PX p l]
   cases List.findIdx? p l<;>simp
def BC{α:Type}[Inhabited α](l:List α)(z:α)(p:α→Bool):α×Bool:=(l.find? p).elim (z,false) fun x=>(x,true)
theorem Qe{α:Type}[Inhabited α](l:List α)(z:α)(p:α→Bool):BC l z p=match l.findIdx? p with|some i=>(l.getD i default,true)|none=>(z,false):=by
 unfold BC
 rw[PX]
 cases h:l.findIdx? p with
 |none=>rfl
 |some i=>
  have:=(Y4.1 h).1
  simp[this]
def zM:Msg:=.mk ⟨#[]⟩ [] [] [] []
def zF:Fld:=.mk 0 ⟨#[]⟩ 0 0 (.mk 0 ⟨#[]⟩) ⟨#[]⟩ false (.mk 0 0 ⟨#[]⟩ [] [] [] []) []
theorem iv(s:Scm)(n:ByteArray)(h:s.messages.length≤1048576):Js s n=some (BC s.messages zM fun m=>decide (m.name=n)):=by
 have d:=JB (B:=MU s n) (N:=Ai) s.messages (fun m=>decide (m.name=n)) (fun i=>(s.messages.getD i default,true)) () (fun i x a=>by
  have b:=DH a
  have e:=(Yd.1 a).1
  have c:i+1<9223372036854775808:=by omega
  dsimp only[MU,Rt,br,ix,vz,vw,vs,Ay,ln,Al,wa,Ah,br]
  simp only[b,c,a,decide_true,if_true,Yg,Yz,YZ]
  cases decide (x.name=n)<;>simp) (by simp[MU,Rt,br,ix,vz,vw,vs,Ay,ln,Al,wa,Ah,br]) (B0 (by omega))
 dsimp only[Js,T5,U7,UG,vw,lr,lc]
 rw[d,Qe]
 cases s.messages.findIdx? fun m=>decide (m.name=n)<;>rfl
theorem m84(l:List Msg)(n:ByteArray)(h:l.length≤1048576):Pn l (fun z=>Jy z n)=some (BC l zM fun m=>decide (m.name=n)):=by
 have d:=JB (B:=M0 l fun z=>Jy z n) (N:=Ai) l (fun m=>decide (m.name=n)) (fun i=>(l.getD i default,true)) () (fun i x a=>by
  have b:=DH a
  have f:=(Yd.1 a).1
  have c:i+1<9223372036854775808:=by omega
  have e:Jy x n=some (decide (x.name=n)):=rfl
  dsimp only[M0,RE,br,ix,vw,vs,Ay,ln,Al,cf,wa,br]
  simp only[b,c,a,e,decide_true,if_true,Yg,Yz,YZ]
  cases decide (x.name=n)<;>simp) (by simp[M0,RE,br,ix,vw,vs,Ay,ln,Al,cf,wa,br]) (B0 (by omega))
 dsimp only[Pn,TR,UW,Ww,vz,vw,lr,lc,Ah]
 rw[d,Qe]
 cases l.findIdx? fun m=>decide (m.name=n)<;>rfl
theorem bA{s:Scm}(h:SzS s)(n:ByteArray):(BC s.messages zM fun m=>decide (m.name=n)).1.fields.length≤1048576:=by
 unfold BC
 cases e:s.messages.find? fun m=>decide (m.name=n)with
 |none=>simp[zM]
 |some m=>exact(h.m _ (La e)).fl
end Go.Proofs.YtchkcemlglpobaaGreat
